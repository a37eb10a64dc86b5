/- A part of the proof. -/
import Derived.Test.YthggfhnnkclooaaGreatDoorAx17
import Derived.Test.YthggfhnnkclooaaGreatDoorProg
set_option linter.unusedSectionVars false
set_option linter.unusedVariables false
set_option linter.unusedSimpArgs false
set_option maxRecDepth 1000000
set_option maxHeartbeats 16000000
namespace Go.Proofs.YthggfhnnkclooaaGreatDoor
open Go Go.Ax Go.Proofs Tryz
theorem Uv(n:Nat):kB (List.replicate n false)=List.replicate n (.bool false):=by simp[kB]
theorem VC(L:List iX):lB L (List.replicate L.length false)=cK (List.replicate L.length []):=by
 unfold lB cK
 induction L with
 | nil=>rfl
 | cons a L ih=>simpa[Zz] using ih
theorem UR(L:List iX):mB L (List.replicate L.length false)=List.replicate L.length (.bool false):=by
 unfold mB
 induction L with
 | nil=>rfl
 | cons a L ih=>simpa[Zz] using ih
theorem HX(ns:List Nd)(hl:ns.length<=4096):aJ prog [] 60 [.agg [.il 12 (bG ns)]] [] 0 λr m k=>r = .ptr 0 0 0/\m=sM ns (List.replicate ns.length false)/\k=4:=by
 have hlen:(bG ns).length=ns.length:=cH ns;refine aD bI func60 rfl ?_;refine Z ?_;rw[hlen];refine Z ?_;refine aK (bV rfl (bV rfl (bV rfl (bV (Y8 om) (bV (Y8 om) (bV (pP rfl om om) (Y8 om))))))) ?_;refine Z ?_;repeat((first|refine aK (bV rfl (bV rfl (bV rfl (bV (Y8 om) (bV (Y8 om) (bV (pP rfl om om) (Y8 om))))))) ?_|refine bK ?_);refine Z ?_)
 have e:((ns.length:Nat):Int).toNat=ns.length:=sq
 rw[e];have hL:(aS ns).length=ns.length:=gP ns;have e2:=VC (aS ns);have e3:=UR (aS ns);rw[hL] at e2 e3;refine bL (n':=4) (m':=sM ns (List.replicate ns.length false)) [(10,0),(4,1),(6,2),(8,3)] rfl ⟨⟨10,_,rfl,rfl,Eh rfl rfl rfl⟩,⟨4,_,rfl,rfl,.eq (jC _) (Uv _).symm⟩,⟨6,_,rfl,rfl,by rw[e2];exact EL _⟩,⟨8,_,rfl,rfl,.eq (xZ _ _) e3.symm⟩,trivial⟩ (.ptr 10 0 0 0 rfl) ⟨rfl,rfl,rfl⟩
structure Wp(ns:List Nd):Prop where
 ok:∀x∈ns,tY x
 val:∀x∈ns,bS x.value<=1048576
 vals:∀x∈ns,∀v∈x.values,bS v<=1048576
 vlen:∀x∈ns,x.values.length<=1000000
 klen:∀x∈ns,x.kids.length<=65536
def x6(l:List Int)(n:Nat):List Int:=l++List.replicate (n-l.length) 0
theorem p6{l:List Int}{n:Nat}(h:l.length<=n):(x6 l n).length=n:=by simp[x6];omega
theorem Gs{l:List Int}{n:Nat}(y:Int)(h:l.length<n):(x6 l n).set l.length y=x6 (l++[y]) n:=by
 unfold x6;rw[Z2 _ _ (ZA _),aAo];obtain⟨m,hm⟩:∃m,n-l.length=m+1:=⟨n-l.length-1,om⟩
 rw[hm,Zz,aAJ,ZB,ZY,show n-(l.length+1)=m by omega];simp
theorem Gg{l:List Int}{n:Nat}{k:Int}(h0:0<=k)(h1:k<l.length):eP (x6 l n) k=eP l k:=K4 h0 h1
theorem G3{l:List Int}{n:Nat}(h:∀y∈l,0<=y/\y<=1024):∀y∈x6 l n,0<=y/\y<=1024:=by
 intro y hy;rcases ZO.1 hy with hy|hy
 .exact h y hy
 .have:=aAw hy;omega
theorem GK{i:Int}{x:Nd}(h:tH x=false):dS i x=false:=by
 cases e:dS i x with
 | false=>rfl
 | true=>
  unfold dS at e;simp only[Y6] at e;have:tH x=true:=by
   unfold tH;rw[e.1.1.1.1.1.1];simpa using e.1.1.1.1.1.2
  rw[this] at h;cases h
theorem FK{i:Int}{x:Nd}(h:dS i x=false):g9 i x=1:=by unfold g9;rw[Y7 h]
theorem Pu{i:Int}{x:Nd}(h:dS i x=true)(h2:fU (qA x)≠0):g9 i x=fU (qA x):=by unfold g9;rw[Y3 (by rw[h];simp),Y7 h2]
theorem PC{i:Int}{x:Nd}(h:dS i x=true)(h2:fU (qA x)=0)(h3:Go.Ax.d6 x=false):g9 i x=5:=by unfold g9;rw[Y3 (by rw[h];simp),Y3 om,Y7 h3]
theorem NF{i:Int}{x:Nd}(h:dS i x=true)(h2:fU (qA x)=0)(h3:Go.Ax.d6 x=true):g9 i x=0:=by unfold g9;rw[Y3 (by rw[h];simp),Y3 om,Y3 (by rw[h3];simp)]
theorem wW{b:List Nd}{ls ss:List Int}{x:Nd}{e:Int}(h:g9 b.length x=e)(he:e≠0):iY b ls ss x=e:=by unfold iY;rw[Y7 (by rw[h];exact he),h]
theorem On{b:List Nd}{ls ss:List Int}{x:Nd}(h:g9 b.length x=0)(h2:256<Go.Ax.f8 ls x\/1024<mF ss x):iY b ls ss x=4:=by unfold iY;rw[Y3 om,Y7 h2]
theorem OG{b:List Nd}{ls ss:List Int}{x:Nd}(h:g9 b.length x=0)(h2:¬(256<Go.Ax.f8 ls x\/1024<mF ss x)):iY b ls ss x=if x.kind=4 then jM b x else 0:=by unfold iY;rw[Y3 om,Y3 h2]
theorem G0(ns:List Nd)(h:Wp ns):aU prog [] 23 [.agg [.il 12 (bG ns)]] (.int .i64 (eX ns)):=by
 have hlen:(bG ns).length=ns.length:=cH ns;refine aD bI func23 rfl ?_;refine Z ?_;rw[hlen];refine aL (λhb=>?_) (λhb=>?_)
 .have h1:4096<ns.length:=by simp at hb;omega
  have:eX ns=4:=by unfold eX;rw[Y7 h1]
  rw[this];refine Z ?_;exact aA nn ⟨rfl,rfl,rfl⟩
 .have h1:ns.length<=4096:=by simp at hb;omega
  have:eX ns=cP [] ns:=by unfold eX;rw[Y3 om]
  rw[this];generalize hres:cP [] ns=res;have hN:=HX ns h1;refine Z ?_;rw[hlen];refine Z ?_;repeat((first|refine aK (bV rfl (bV rfl (bV rfl (bV (Y8 om) (bV (Y8 om) (bV (pP rfl om om) (Y8 om))))))) ?_|refine bK ?_);refine Z ?_)
  refine aJ.useN bI [] hN rfl (.same (.cons (.agg' (.cons (.il' (bB _)) .nil)) .nil)) trivial rfl ?_;rintro r m k ⟨rfl,rfl,rfl⟩;refine⟨[(0,16),(1,17),(2,18),(3,19)],.ptr 16 0 0,[(16,.row 144 4 [.agg [.il 12 (bG ns),.sl 17 0 ns.length,.sl 18 0 ns.length,.sl 19 0 ns.length]]),(17,.row 4 1 (kB (List.replicate ns.length false))),(18,.row 48 1 (lB (aS ns) (List.replicate ns.length false))),(19,.row 4 1 (mB (aS ns) (List.replicate ns.length false)))],20,
   .ptr 0 16 0 0 rfl,⟨⟨0,_,rfl,rfl,Eh rfl rfl rfl⟩,aF 1 (jC _),aF 2 (AL _ _),aF 3 (xZ _ _),trivial⟩,rfl, ?_⟩
  refine Rt ?_;have e:((ns.length:Nat):Int).toNat=ns.length:=sq
  rw[hlen,e];refine bJ.at bI (λp:Nat × List Bool=>p.1<=ns.length/\p.2.length=ns.length/\cP [] (ns.take p.1)=0)
   (λp=>⟨[(1,.ptr 7 0 0),(3,.ptr 0 0 0),(28,.int .i64 ns.length),(29,.int .i64 p.1)],HV ns (x6 (bD (ns.take p.1)) ns.length) (x6 (dD (ns.take p.1)) ns.length) p.2 [(7,.row 25 1 [.agg [.il 12 (bG ns)]])],8,64⟩)
   (λp=>ns.length-p.1) (0,List.replicate ns.length false) [(14,0),(6,1),(10,2),(16,3),(17,4),(18,5),(19,6),(0,7)] ⟨sq,sq,rfl⟩
   (aH _ rfl ⟨⟨14,_,rfl,rfl,WB rfl rfl rfl⟩,⟨6,_,rfl,rfl,.eq (aW _) (by simp[x6,bD,aY])⟩,⟨10,_,rfl,rfl,.eq (aW _) (by simp[x6,dD,aY])⟩,⟨16,_,rfl,rfl,Eh rfl rfl rfl⟩,aF 17 (jC _),aF 18 (AL _ _),aF 19 (xZ _ _),aF 0 (.cons (.agg' (.cons (.il' (bB _)) .nil)) .nil),trivial⟩
    ⟨aM,aM,aG,aG,trivial⟩) ?_
  rintro⟨i,kn⟩ ⟨hi,hk,hv⟩;simp only at hi hk hv |-;refine Z ?_;refine aL (λhb2=>?_) (λhb2=>?_)
  .have hil:i<ns.length:=su hb2
   obtain⟨x,hx⟩:∃x,ns[i]? = some x:=⟨ns[i],Yz hil⟩
   have hxe:=(Y4.1 hx).2;have hxm:=Y5 hx;have ex:(bG ns)[((i:Nat):Int).toNat]? = some (dM x):=by simp[o8,hx]
   have hxn:=bP x;have hti:(ns.take i).length=i:=by rw[ZQ];omega
   have hll:(bD (ns.take i)).length=i:=by rw[gI,hti]
   have hsl:(dD (ns.take i)).length=i:=by rw[lW,hti]
   have hsplit:ns=ns.take i++x::ns.drop (i+1):=by rw[<-hxe];simp
   have hstop:∀e:Int,iY (ns.take i) (bD (ns.take i)) (dD (ns.take i)) x=e->e≠0->e=res:=λe h1 h2=>by
    rw[<-hres,hsplit,Bk hv (by rw[h1];exact h2),h1]
   have hnext:ns.take (i+1)=ns.take i++[x]:=by rw[ZE hil,hxe]
   have hgo:iY (ns.take i) (bD (ns.take i)) (dD (ns.take i)) x=0->cP [] (ns.take (i+1))=0:=λh1=>by
    rw[hnext,iG [] _ _ hv];exact h1
   have hC:=UT x (h.ok x hxm);have hSh:=RK ns i x om hx (h.ok x hxm) (h.vlen x hxm);have hPa:=Ur x (h.ok x hxm) (h.val x hxm) (h.vals x hxm);have hRa:=Uf x (h.ok x hxm);refine Z ?_;repeat(refine aC ex ?_;refine Z ?_)
   refine hC.go ?_ (.cons (.ip' hxn) .nil);cases hc:tH x with
   | false=>
    refine Z ?_;refine aA nn ⟨?_,rfl,rfl⟩;rw[hstop 1 (wW (FK (GK hc)) om) om]
   | true=>
    have hSh:=hSh hc;have hcc:iS [] [] [.il 12 (bG ns),.sl 1 0 ns.length,.sl 2 0 ns.length,.ptr 3 0 0] [.il 12 (bG ns),.junk,.junk,.junk]:=.cons (.same _ (.il' (bB _))) (.cons (.junk _) (.cons (.junk _) (.cons (.junk _) .nil)));refine Z ?_;refine hSh.lend bI (.cons (.fzp 0 0 0 132 4 _ _ _ rfl rfl rfl (ZA _) λk c c' h1 h2=>by
     rw[ZP] at h1;exact(iS.cons (.same _ (.il' (bB _))) (.cons (.junk _) (.cons (.junk _) (.cons (.junk _) .nil)))).2 k c c' h1 h2) (.s .nil)) (.bool _) ?_
    clear hcc;cases hf:dS i x with
    | false=>
     refine Z ?_;refine aA nn ⟨?_,rfl,rfl⟩;rw[hstop 1 (wW (by rw[hti];exact FK hf) om) om]
    | true=>
     have hk0:x.kind=0->x.values=[]:=λe0=>by
      unfold dS kC at hf;simp only[Y6,aAb,Zc] at hf;rcases hf.1.1.1.1.1.1.1.2 with h'|h'
      .omega
      .exact aAs.1 h'
     have hPa:=hPa hk0;refine Z ?_;refine hPa.go ?_ (.cons (.ip' hxn) .nil);generalize hfe:fU (qA x)=fe;refine Z ?_;refine aL (λhb3=>?_) (λhb3=>?_)
     .have h0:fe≠0:=su hb3
      refine Z ?_;refine aA nn ⟨?_,rfl,rfl⟩;rw[hstop fe (wW (by rw[hti,Pu hf (by rw[hfe];exact h0),hfe]) h0) h0]
     .have h0:fe=0:=su hb3
      rw[h0] at hfe;refine Z ?_;refine hRa.go ?_ (.cons (.ip' hxn) .nil);cases hn:Go.Ax.d6 x with
      | false=>
       refine Z ?_;refine aA nn ⟨?_,rfl,rfl⟩;rw[hstop 5 (wW (by rw[hti];exact PC hf hfe hn) om) om]
      | true=>
       have hz:g9 (ns.take i).length x=0:=by rw[hti];exact NF hf hfe hn
       have hnode:=nU (i:=i) (x:=x) (by rw[<-hti];exact hz);have hlens:=jW _ hv;have hS:=Ut i x hx (h.ok x hxm) (h.val x hxm) (h.klen x hxm) hnode.kids hnode.kind (λe4=>by have:=hnode.bind (by have:=hnode.kind;omega);omega) (x6 (bD (ns.take i)) ns.length) (x6 (dD (ns.take i)) ns.length) kn (p6 om) (p6 om) (G3 hlens.1) (G3 hlens.2);have hkm:∀k∈x.kids,0<=k/\k<i:=λk hk=>by
        obtain⟨j,hj⟩:=Zl hk;exact hnode.kids j k hj
       rw[zI (b:=bD (ns.take i)) (λk hk=>Gg (hkm k hk).1 (by rw[hll];exact(hkm k hk).2)) (λe4=>by have:=hnode.bind e4;omega) hnode.kind,
        Kn (b:=dD (ns.take i)) (λk hk=>Gg (hkm k hk).1 (by rw[hsl];exact(hkm k hk).2))] at hS
       refine Z ?_;refine aJ.useI bI [0,1,2,3,4,5,6] hS (by rfl) (.cons (.ptr 0 0 0 0 rfl) (.s .nil)) (nT _ _ _ _) (by rfl) ?_;rintro r m k' ⟨rfl,rfl,rfl⟩;refine⟨nn,nT _ _ _ _,by rfl, ?_⟩;cases hfit:(decide (Go.Ax.f8 (bD (ns.take i)) x<=256) && decide (AN (dD (ns.take i)) x<=1024)) with
       | false=>
        have hbig:256<Go.Ax.f8 (bD (ns.take i)) x\/1024<mF (dD (ns.take i)) x:=by
         simp only[aAT,aAZ] at hfit;rw[LJ] at hfit;omega
        refine Z ?_;refine aA nn ⟨?_,rfl,rfl⟩;rw[hstop 4 (On hz hbig) om]
       | true=>
        have hfit':¬(256<Go.Ax.f8 (bD (ns.take i)) x\/1024<mF (dD (ns.take i)) x):=by
         simp only[Y6,Zc] at hfit;rw[LJ] at hfit;omega
        have hstep:=OG hz hfit';have hso:i6 ns i:=⟨hi,h1,h.ok,hv⟩
        have hkid:x.kind=4->∃k:Nat,x.kids[0]? = some (k:Int)/\k<i:=λe4=>by
         have hl:=hnode.bind e4;obtain⟨k0,k1⟩:=hnode.kids 0 x.kids[0] (Yz om);obtain⟨k,hk⟩:=ZU k0;exact⟨k,by rw[Yz om,hk],om⟩
        have hb:x.kind=4->jM (ns.take i) x=(if (dT (aS ns) (x.kids.getD 0 0)).many=true then 4 else if eO (dT (aS ns) (x.kids.getD 0 0)).vals x.values=true then 0 else 1):=λe4=>by
         obtain⟨k,hk,hki⟩:=hkid e4;have eg:x.kids.getD 0 0=(k:Int):=by rw[Y0,hk];rfl
         unfold jM;rw[eg,aBb,Z5 (by simp;omega),kU om (by simp;omega) (by simp;omega)]
        have hT:=VP hso x (h.vlen x hxm) hkid ((x6 (bD (ns.take i)) ns.length).set i (Go.Ax.f8 (bD (ns.take i)) x)) ((x6 (dD (ns.take i)) ns.length).set i (AN (dD (ns.take i)) x)) kn hk;have hstep:iY (ns.take i) (bD (ns.take i)) (dD (ns.take i)) x=(if x.kind=4 then(if (dT (aS ns) (x.kids.getD 0 0)).many=true then 4 else if eO (dT (aS ns) (x.kids.getD 0 0)).vals x.values=true then 0 else 1) else 0):=by
         rw[hstep];by_cases e4:x.kind=4
         .rw[Y7 e4,Y7 e4,hb e4]
         .rw[Y3 e4,Y3 e4]
        rw[<-hstep] at hT;refine Z ?_;refine aJ.useI bI [0,1,2,3,4,5,6] hT (by rfl) (.cons (.ptr 0 0 0 0 rfl) (.cons (.same _ (.ip' hxn)) .nil)) (nT _ _ _ _) (by rfl) ?_;rintro r m k' ⟨kn',hk',rfl,rfl,rfl⟩;refine⟨nn,nT _ _ _ _,by rfl, ?_⟩;generalize hse:iY (ns.take i) (bD (ns.take i)) (dD (ns.take i)) x=se;refine Z ?_;refine aL (λhb4=>?_) (λhb4=>?_)
        .have h0:se≠0:=su hb4
         refine Z ?_;refine aA nn ⟨?_,rfl,rfl⟩;rw[hstop se hse h0]
        .have h0:se=0:=su hb4
         rw[h0] at hse;have hP:=RQ (λy hy=>h.ok y (Ze hy)) hv hse;have e1:(x6 (bD (ns.take i)) ns.length).set i (Go.Ax.f8 (bD (ns.take i)) x)=x6 (bD (ns.take (i+1))) ns.length:=by
          rw[hnext,i7]
          conv=>lhs;rw[<-hll]
          rw[hll];have:=Gs (l:=bD (ns.take i)) (n:=ns.length) (Go.Ax.f8 (bD (ns.take i)) x) om;rw[hll] at this;exact this
         have e2:(x6 (dD (ns.take i)) ns.length).set i (AN (dD (ns.take i)) x)=x6 (dD (ns.take (i+1))) ns.length:=by
          rw[hP,hnext,nJ];have:=Gs (l:=dD (ns.take i)) (n:=ns.length) (mF (dD (ns.take i)) x) om;rw[hsl] at this;exact this
         rw[e1,e2];refine Z ?_;exact .mk (i+1,kn') (rV [0,1,2,3,4,5,6,7]) ⟨by simp only;omega,hk',hgo hse⟩
          (aH _ rfl (kL rfl rfl rfl rfl rfl rfl rfl rfl rfl rfl rfl rfl rfl rfl rfl rfl ⟨aF 7 (.cons (.agg' (.cons (.il' (bB _)) .nil)) .nil),trivial⟩) ⟨aM,aM,aG,⟨_,rfl,.wp⟩,trivial⟩) (by simp only;omega)
  .have hil:i=ns.length:=by simp at hb2;omega
   rw[hil,ZK,hres] at hv;subst hv;refine Z ?_;exact aA nn ⟨rfl,rfl,rfl⟩
def j9(l:List bH)(n:Nat):List bH:=l++List.replicate (n-l.length) vZ
theorem tZ{l:List bH}{n:Nat}(h:l.length<=n):(j9 l n).length=n:=by simp[j9];omega
theorem Hf{l:List bH}{n:Nat}(y:bH)(h:l.length<n):(j9 l n).set l.length y=j9 (l++[y]) n:=by
 unfold j9;rw[Z2 _ _ (ZA _),aAo];obtain⟨m,hm⟩:∃m,n-l.length=m+1:=⟨n-l.length-1,om⟩
 rw[hm,Zz,aAJ,ZB,ZY,show n-(l.length+1)=m by omega];simp
theorem Ff{l:List bH}{n:Nat}(h:l.length<n):j9 (l++[vZ]) n=j9 l n:=by
 unfold j9;obtain⟨m,hm⟩:∃m,n-l.length=m+1:=⟨n-l.length-1,om⟩
 rw[hm,Zz,ZB,ZY,show n-(l.length+1)=m by omega];simp
theorem Pr{l:List bH}{n k:Nat}(h:k<l.length):(aQ (j9 l n))[0+k]? = some (cC (l.getD k vZ)):=by
 rw[ZP,jH];unfold j9;rw[ZR h,Y0,Yz h];rfl
theorem BX(l:List bH)(i:Nat)(y:bH):aQ (l.set i y)=(aQ l).set i (cC y):=by simp[gR,aA7]
def nM(A:List Nd)(ls:List Int)(fs:List bH)(rest:aR):aR:=
 (0,.row 137 3 [.agg [.ip (.agg [.il 12 (bG A)]),.sl 1 0 A.length,.sl 2 0 A.length]])::(1,.row 3 1 (aY ls))::(2,.row 50 4 (aQ fs))::rest
theorem oO(A:List Nd):NN (.ip (.agg [.il 12 (bG A)])):=.ip' (.agg' (.cons (.il' (bB A)) .nil))
theorem o0{mem:aR}{J:List (Nat × Nat)}{A:List Nd}{ls:List Int}{fs:List bH}{l1 l2:List AV}{a b c:Nat}{sv:AV}{rest:aR}(s0:lk J a=some 0)(s1:lk J b=some 1)(s2:lk J c=some 2)
  (m0:lk mem a=some (.row 137 3 [.agg [sv,.sl b 0 A.length,.sl c 0 A.length]])) (hs:Cv mem J sv (.ip (.agg [.il 12 (bG A)]))) (m1:lk mem b=some (.row 3 1 l1)) (e1:l1=aY ls) (m2:lk mem c=some (.row 50 4 l2)) (e2:rY mem J l2 (aQ fs))
  (hr:cZ mem J rest):cZ mem J (nM A ls fs rest):=
 ⟨⟨a,_,s0,m0,.cons (.agg (.cons hs (.cons (.slE s1 rfl) (.cons (.slE s2 rfl) .nil)))) .nil⟩,⟨b,_,s1,m1,.eq (aW _) e1⟩,⟨c,_,s2,m2,e2⟩,hr⟩
theorem QL{mem:aR}{J:List (Nat × Nat)}{id i j:Nat}{t:TypeId}{sz:Nat}{xs:List AV}{x c c' v:AV}(h1:lk mem id=some (.row t sz xs))(h2:lk J id=none)(h3:xs[i]? = some x)(h4:x.cells[j]? = some c)(h5:v.cells=[c'])(h6:Cv mem J c c'):Cv mem J (.ptr id i j) (.ip v):=by
 refine .fzp id i j t sz xs x v h1 h2 h3 ?_ λk a b ha hb=>?_
 .have:=(Y4.1 h4).1;rw[h5];simp only[ZY];omega
 .rw[h5] at hb;cases k with
  | zero=>
   rw[Zs,h4] at ha;cases ha;cases hb;exact h6
  | succ k=>simp at hb
theorem IF{mem:aR}{J:List (Nat × Nat)}{x y:AV}(n:Nat)(h:Jh mem J x y):rY mem J (List.replicate n x) (List.replicate n y):=by
 induction n with
 | zero=>exact .nil
 | succ n ih=>rw[Zz,Zz];exact .cons h ih
theorem FB(n:Nat)(v:bH):aQ (List.replicate n v)=List.replicate n (cC v):=by simp[gR]
theorem Wf{A:List Nd}(h:VT A):aU prog [] 24 [.agg [.il 12 (bG A)]] (wk A):=by
 have hlen:=cH A;have hl1:=h.tin.len;have hN:=HX A om;refine aD bI func24 rfl ?_;refine Z ?_;rw[hlen];have e:((A.length:Nat):Int).toNat=A.length:=sq
 repeat((first|refine aK (bV rfl (bV rfl (bV rfl (bV (Y8 om) (bV (Y8 om) (bV (pP rfl om om) (Y8 om))))))) ?_|refine bK ?_|rw[hlen]);refine Z ?_)
 refine aJ.useN bI [] hN rfl (.same (.cons (.agg' (.cons (.il' (bB _)) .nil)) .nil)) trivial rfl ?_;rintro r m k ⟨rfl,rfl,rfl⟩;refine⟨[(0,14),(1,15),(2,16),(3,17)],.ptr 14 0 0,[(14,.row 144 4 [.agg [.il 12 (bG A),.sl 15 0 A.length,.sl 16 0 A.length,.sl 17 0 A.length]]),(15,.row 4 1 (kB (List.replicate A.length false))),(16,.row 48 1 (lB (aS A) (List.replicate A.length false))),(17,.row 4 1 (mB (aS A) (List.replicate A.length false)))],18,
  .ptr 0 14 0 0 rfl,⟨⟨0,_,rfl,rfl,Eh rfl rfl rfl⟩,aF 1 (jC _),aF 2 (AL _ _),aF 3 (xZ _ _),trivial⟩,rfl, ?_⟩
 refine Z ?_;repeat((first|refine aK (bV rfl (bV rfl (bV rfl (bV (Y8 om) (bV (Y8 om) (bV (pP rfl om om) (Y8 om))))))) ?_|refine bK ?_|rw[hlen]);refine Z ?_)
 rw[e];refine bJ.at bI (λi:Nat=>i<=A.length)
  (λi=>⟨[(1,.ip (.agg [.il 12 (bG A)])),(3,.ptr 0 0 0),(23,.int .i64 A.length),(24,.int .i64 i)],nM A (x6 (bD (A.take i)) A.length) (j9 (dC (A.take i)) A.length) [],3,127⟩) (λi=>A.length-i) 0 [(12,0),(6,1),(10,2)] om
  (aH _ rfl (o0 (a:=12) (b:=6) (c:=10) rfl rfl rfl rfl (QL (id:=14) rfl rfl rfl rfl rfl (.same _ (.il' (bB A)))) rfl (by simp[x6,bD,aY]) rfl (by
    have:j9 (dC (A.take 0)) A.length=List.replicate A.length vZ:=by simp[j9,dC,M3]
    rw[this,FB];exact IF _ (x7 0 0 [])) trivial)
   ⟨⟨_,rfl,QL (id:=0) rfl rfl rfl rfl rfl (.same _ (.il' (bB A)))⟩,aM,aG,aG,trivial⟩) ?_
 intro i hi;have di:decide ((i:Int)<(A.length:Int))=decide (i<A.length):=Zg.2 om;by_cases hil:i<A.length
 .have hx:=cS hil;have hne:=pJ hil;have hnn:=bP (aI A i);have hg:=h.node hx;have hok:=h.tin.ok _ (Y5 hx);have hkl:=h.tin.klen _ (Y5 hx);have hti:(A.take i).length=i:=by rw[ZQ];omega
  have hll:(bD (A.take i)).length=i:=by rw[gI,hti]
  have hfl:(dC (A.take i)).length=i:=by rw[jV,hti]
  have hkm:=λ(k:Int) (hk:k∈(aI A i).kids)=>fQ h hx hk
  have hbi:=λh4=>h.bind hx h4
  have hkj:∀(j:Nat) (k:Int),(aI A i).kids[j]? = some k->0<=k/\k<i:=λj k hk=>by
   have:=hkm k (Y5 hk);omega
  have hlens:∀y∈bD (A.take i),0<=y/\y<=1024:=λy hy=>by
   obtain⟨j,hj⟩:=Zl hy;have hj':=(Y4.1 hj).1;have e1:=BQ (A:=A) (n:=i) (k:=(j:Int)) om om om;have e2:=h.lens0 (j:Int);rw[<-e1] at e2;unfold eP at e2;rw[Y1,Y0,hj] at e2;exact e2
  have hL:=Lm (x6 (bD (A.take i)) A.length) (aI A i) hok om (G3 hlens) (λj k hk=>by have:=hkj j k hk;rw[p6 om];omega) (λh4=>by have:=(hbi (by have:=hg.node.kind;omega)).1;omega) hg.node.kind;have hLe:Go.Ax.f8 (x6 (bD (A.take i)) A.length) (aI A i)=Go.Ax.f8 (bD (A.take i)) (aI A i):=
   zI (λk hk=>Gg (hkm k hk).1 (by have:=hkm k hk;omega)) (λh4=>by have:=(hbi h4).1;omega) hg.node.kind
  rw[hLe] at hL;have hLs:bD (A.take (i+1))=bD (A.take i)++[Go.Ax.f8 (bD (A.take i)) (aI A i)]:=by
   rw[ZE hil,i7];have:=(Y4.1 hx).2;rw[this]
  have hFs:dC (A.take (i+1))=dC (A.take i)++[y7 (bD (A.take i)) (dC (A.take i)) (aI A i)]:=by
   rw[ZE hil,wZ];have:=(Y4.1 hx).2;rw[this]
  have hps:=Gs (n:=A.length) (Go.Ax.f8 (bD (A.take i)) (aI A i)) (show (bD (A.take i)).length<A.length by omega);have hfs:=Hf (n:=A.length) (y7 (bD (A.take i)) (dC (A.take i)) (aI A i)) (show (dC (A.take i)).length<A.length by omega);rw[hll,<-hLs] at hps;rw[hfl,<-hFs] at hfs;have hfg:∀k,k<i->(aQ (j9 (dC (A.take i)) A.length))[0+k]? = some (cC ((dC (A.take i)).getD k vZ)):=λk hk=>Pr om
  have hkd:=λ(j:Nat) (hj:j<(aI A i).kids.length)=>h.kid hx hj
  have hmd:=λ(ks:List bH)=>LG (aI A i) ks
  have hFN:y7 (bD (A.take i)) (dC (A.take i)) (aI A i)=if 0<Go.Ax.f8 (bD (A.take i)) (aI A i) then vZ else if (aI A i).kind=0 then(aI A i).value else if (aI A i).kind=3 then dW (aI A i).name ((aI A i).kids.map λk=>(dC (A.take i)).getD k.toNat vZ) else if (aI A i).kind=4 then(dC (A.take i)).getD (bO (aI A i) 1) vZ else vZ:=rfl
  have hpl:(aY (x6 (bD (A.take i)) A.length)).length=A.length:=by rw[aN,p6 om]
  have hpv:(aQ (j9 (dC (A.take i)) A.length)).length=A.length:=by rw[aB,tZ om]
  have hps1:=oD (x6 (bD (A.take i)) A.length) i (Go.Ax.f8 (bD (A.take i)) (aI A i));have hfs1:=BX (j9 (dC (A.take i)) A.length) i (y7 (bD (A.take i)) (dC (A.take i)) (aI A i));rw[hps] at hps1;rw[hfs] at hfs1;have hkind:=hg.node.kind;generalize y7 (bD (A.take i)) (dC (A.take i)) (aI A i)=fx at *;generalize Go.Ax.f8 (bD (A.take i)) (aI A i)=ln at *;generalize aI A i=x at *;obtain⟨kind,name,lo,hi',ws,lbs,vals,kids,⟨vk,vn,vs,vks⟩⟩:=x;simp only at hkm hbi hkj hkd hmd hFN hkind hkl;refine Z ?_;rw[di,Y8 hil];refine Rt ?_;repeat(refine aC hne ?_;refine Rt ?_)
  refine hL.lend bI (.cons (.same _ (.ip' hnn)) (.cons (A8 (id:=1) rfl hpl.symm rfl (aW _)) .nil)) (.int _ _) ?_;have g1:Nat.blt ((i:Nat):Int).toNat A.length=true:=Y2 (by simp;omega);obtain⟨z,hz⟩:∃z:Int,(aY (x6 (bD (A.take i)) A.length))[0+((i:Nat):Int).toNat]? = some (.int .i64 z):=by
   have:i<(x6 (bD (A.take i)) A.length).length:=by rw[p6 om];omega
   exact⟨_,by rw[ZP,Y1,bU,Yz this];rfl⟩
  have hz2:((aY (x6 (bD (A.take i)) A.length)).set (0+((i:Nat):Int).toNat) (.int .i64 ln))[0+((i:Nat):Int).toNat]? = some (.int .i64 ln):=by
   rw[Zy (by rw[hpl];simp;omega)]
  have h0i:0+((i:Nat):Int).toNat=i:=sq
  refine Rt ?_;repeat((first|refine aC hne ?_|refine aK g1 ?_|refine aC hz ?_|refine aC hz2 ?_);refine Rt ?_)
  refine aL (λhb=>?_) (λhb=>?_)
  .have hln:0<ln:=su hb
   rw[Y7 hln] at hFN;refine Z ?_;have hsk:=Ff (n:=A.length) (show (dC (A.take i)).length<A.length by omega);rw[hFN] at hFs;rw[<-hFs] at hsk;exact .mk (i+1) [(0,0),(1,1),(2,2)] om (aH _ rfl (o0 (a:=0) (b:=1) (c:=2) rfl rfl rfl rfl (.same _ (oO A)) rfl (by rw[h0i,hps1]) rfl (.eq (aX _) (by rw[hsk])) trivial)
    ⟨aP (oO A),aM,aG,⟨_,rfl,.w64 om oq⟩,trivial⟩) om
  .have hln:¬0<ln:=su hb
   rw[Y3 hln] at hFN;obtain⟨z1,z2,z3,z4,hzv⟩:∃a b c d,(aQ (j9 (dC (A.take i)) A.length))[0+((i:Nat):Int).toNat]? = some (cC (.mk a b c d)):=by
    have:i<(j9 (dC (A.take i)) A.length).length:=by rw[tZ om];omega
    obtain⟨⟨a,b,c,d⟩,hv⟩:∃v,v=(j9 (dC (A.take i)) A.length)[i]:=⟨_,rfl⟩
    exact⟨a,b,c,d,by rw[ZP,Y1,jH,Yz this,hv];rfl⟩
   refine Z ?_;by_cases k0:kind=0
   .subst k0;rw[Y7 rfl] at hFN;rw[hFN] at hfs1;refine Rt ?_;repeat((first|refine aC hne ?_|refine aK g1 ?_|refine aC hzv ?_);refine Rt ?_)
    exact .mk (i+1) [(0,0),(1,1),(2,2)] om (aH _ rfl (o0 (a:=0) (b:=1) (c:=2) rfl rfl rfl rfl (.same _ (oO A)) rfl (by rw[h0i,hps1]) rfl (.eq (aX _) (by rw[h0i,hfs1];rfl)) trivial)
    ⟨aP (oO A),aM,aG,⟨_,rfl,.w64 om oq⟩,trivial⟩) om
   .rw[Y3 k0] at hFN;rw[show (kind == 0)=false by simpa using k0];refine Z ?_;by_cases k3:kind=3
    .subst k3;rw[Y7 rfl] at hFN;have lkk:=aN kids;refine Z ?_;rw[lkk];refine aK (bV rfl (bV rfl (bV rfl (bV (Y8 om) (bV (Y8 om) (bV (pP rfl om om) (Y8 om))))))) ?_;refine Z ?_;have ek0:((kids.length:Nat):Int).toNat=kids.length:=sq
     rw[ek0];refine bJ.at bI (λj:Nat=>j<=kids.length)
      (λj=>⟨[(1,.ip (.agg [.il 12 (bG A)])),(3,.ptr 0 0 0),(4,.int .i64 i),(5,.ip (dM ⟨3,name,lo,hi',ws,lbs,vals,kids,.mk vk vn vs vks⟩)),(6,.sl 3 0 kids.length),(23,.int .i64 A.length),(24,.int .i64 i),(78,.il 1 (aY kids)),(79,.int .i64 kids.length),(80,.int .i64 j)],
       nM A (x6 (bD (A.take (i+1))) A.length) (j9 (dC (A.take i)) A.length) [(3,.row 50 4 (aQ (j9 ((kids.take j).map λk=>(dC (A.take i)).getD k.toNat vZ) kids.length)))],4,127⟩)
      (λj=>kids.length-j) 0 [(0,0),(1,1),(2,2),(16,3)] om
      (aH _ rfl (o0 (a:=0) (b:=1) (c:=2) rfl rfl rfl rfl (.same _ (oO A)) rfl (by rw[h0i,hps1]) rfl (.same (aX _)) ⟨⟨16,_,rfl,rfl,by
        have:j9 ((kids.take 0).map λk=>(dC (A.take i)).getD k.toNat vZ) kids.length=List.replicate kids.length vZ:=by simp[j9]
        rw[this,FB];exact IF _ (x7 0 0 [])⟩,trivial⟩)
       ⟨aP (oO A),aM,aG,aP (.ip' hnn),⟨_,rfl,.slE rfl rfl⟩,aG,aG,aP (.il' (aW _)),⟨_,rfl,.int (by rw[lkk])⟩,aG,trivial⟩) ?_
     intro j hj;have dj:decide ((j:Int)<(kids.length:Int))=decide (j<kids.length):=Zg.2 om;by_cases hjl:j<kids.length
     .have ek:=nQ hjl;obtain⟨m0,m1⟩:=hkm kids[j] (Za hjl);have hnx:(kids.take (j+1)).map (λk=>(dC (A.take i)).getD k.toNat vZ)=(kids.take j).map (λk=>(dC (A.take i)).getD k.toNat vZ)++[(dC (A.take i)).getD kids[j].toNat vZ]:=by
       rw[ZE hjl,aA1];rfl
      generalize kids[j]=kz at *;obtain⟨k,rfl⟩:=ZU m0;simp only[Y1] at m1 hnx;have e2:(aQ (j9 (dC (A.take i)) A.length))[0+((k:Nat):Int).toNat]? = some (cC ((dC (A.take i)).getD k vZ)):=by rw[Y1];exact hfg k m1
      have g2:Nat.blt ((k:Nat):Int).toNat A.length=true:=Y2 (by simp;omega);have g3:Nat.blt ((j:Nat):Int).toNat kids.length=true:=Y2 (by simp;omega);have hml:((kids.take j).map λk=>(dC (A.take i)).getD k.toNat vZ).length=j:=by rw[aAC,ZQ];omega
      have hset:=Hf (n:=kids.length) ((dC (A.take i)).getD k vZ) (show ((kids.take j).map λk=>(dC (A.take i)).getD k.toNat vZ).length<kids.length by omega);rw[hml,<-hnx] at hset;have hset1:=BX (j9 ((kids.take j).map λk=>(dC (A.take i)).getD k.toNat vZ) kids.length) j ((dC (A.take i)).getD k vZ);rw[hset] at hset1;generalize (dC (A.take i)).getD k vZ=u at *;obtain⟨y1,y2,y3,y4,hyv⟩:∃a b c d,(aQ (j9 ((kids.take j).map λk=>(dC (A.take i)).getD k.toNat vZ) kids.length))[0+((j:Nat):Int).toNat]? = some (cC (.mk a b c d)):=by
       have:j<(j9 ((kids.take j).map λk=>(dC (A.take i)).getD k.toNat vZ) kids.length).length:=by rw[tZ om];omega
       obtain⟨⟨a,b,c,d⟩,hv⟩:∃v,v=(j9 ((kids.take j).map λk=>(dC (A.take i)).getD k.toNat vZ) kids.length)[j]:=⟨_,rfl⟩
       exact⟨a,b,c,d,by rw[ZP,Y1,jH,Yz this,hv];rfl⟩
      obtain⟨u1,u2,u3,u4⟩:=u;refine Z ?_;rw[dj,Y8 hjl];refine Rt ?_;repeat((first|refine aC ek ?_|refine aC e2 ?_|refine aK g2 ?_|refine aK g3 ?_|refine aC hyv ?_);refine Rt ?_)
      exact .mk (j+1) [(0,0),(1,1),(2,2),(3,3)] om
       (aH _ rfl (o0 (a:=0) (b:=1) (c:=2) rfl rfl rfl rfl (.same _ (oO A)) rfl rfl rfl (.same (aX _)) ⟨⟨3,_,rfl,rfl,.eq (aX _) (by rw[ZP,Y1];exact hset1.symm)⟩,trivial⟩)
        ⟨aP (oO A),aM,aG,aP (.ip' hnn),⟨_,rfl,.slE rfl rfl⟩,aG,aG,aP (.il' (aW _)),aG,⟨_,rfl,.w64 om oq⟩,trivial⟩) om
     .have hje:j=kids.length:=om;subst hje;rw[ZK];have hp0:j9 (kids.map λk=>(dC (A.take i)).getD k.toNat vZ) kids.length=kids.map λk=>(dC (A.take i)).getD k.toNat vZ:=by simp[j9]
      rw[hp0];have hm0:=hmd (kids.map λk=>(dC (A.take i)).getD k.toNat vZ);rw[<-hFN] at hm0;have hml:(aQ (kids.map λk=>(dC (A.take i)).getD k.toNat vZ)).length=kids.length:=by rw[aB,aAC]
      have hun:=bZ fx;clear hFN;generalize (kids.map λk=>(dC (A.take i)).getD k.toNat vZ)=us at *;obtain⟨u1,u2,u3,u4⟩:=fx;refine Z ?_;rw[dj,ZG hjl];refine Rt ?_;refine aJ.pre bI [(0,0),(1,1),(2,2)] (mem':=nM A (x6 (bD (A.take (i+1))) A.length) (j9 (dC (A.take i)) A.length) []) rfl (o0 (a:=0) (b:=1) (c:=2) rfl rfl rfl rfl (.same _ (oO A)) rfl rfl rfl (.same (aX _)) trivial)
       (.cons (.same _ (.ip' hnn)) (.cons (.fz' (id:=3) (off:=0) (len:=kids.length) (xs:=aQ us) (ys:=aQ us) rfl rfl om (by rw[ZT,ZD om]) (aX _)) .nil)) ?_
      refine hm0.go ?_ (.cons (.ip' hnn) (.cons (.il' (aX _)) .nil)) hun;refine Rt ?_;repeat((first|refine aK g1 ?_|refine aC hzv ?_);refine Rt ?_)
      exact .mk (i+1) [(0,0),(1,1),(2,2)] om (aH _ rfl (o0 (a:=0) (b:=1) (c:=2) rfl rfl rfl rfl (.same _ (oO A)) rfl rfl rfl (.eq (aX _) (by rw[h0i];exact hfs1.symm)) trivial)
    ⟨aP (oO A),aM,aG,⟨_,rfl,.w64 om oq⟩,trivial⟩) om
    .rw[Y3 k3] at hFN;rw[show (kind == 3)=false by simpa using k3];refine Z ?_;by_cases k4:kind=4
     .subst k4;rw[Y7 rfl] at hFN;have hb4:=(hbi rfl).1;have hb5:=(hbi rfl).2.1;have e1':bO ⟨4,name,lo,hi',ws,lbs,vals,kids,.mk vk vn vs vks⟩ 1<i/\kids[1]? = some (bO ⟨4,name,lo,hi',ws,lbs,vals,kids,.mk vk vn vs vks⟩ 1:Int):=hkd 1 om;generalize bO ⟨4,name,lo,hi',ws,lbs,vals,kids,.mk vk vn vs vks⟩ 1=k1 at *;have e1:(aY kids)[Int.toNat 1]? = some (.int .i64 (k1:Int)):=by rw[show Int.toNat 1=1 from rfl,bU,e1'.2];rfl
      have e2:(aQ (j9 (dC (A.take i)) A.length))[0+((k1:Nat):Int).toNat]? = some (cC ((dC (A.take i)).getD k1 vZ)):=by rw[Y1];exact hfg k1 e1'.1
      have g2:Nat.blt ((k1:Nat):Int).toNat A.length=true:=Y2 (by simp;omega);rw[<-hFN] at e2;obtain⟨u1,u2,u3,u4⟩:=fx;refine Rt ?_;repeat((first|refine aC e1 ?_|refine aC e2 ?_|refine aK g1 ?_|refine aK g2 ?_|refine aC hzv ?_);refine Rt ?_)
      exact .mk (i+1) [(0,0),(1,1),(2,2)] om (aH _ rfl (o0 (a:=0) (b:=1) (c:=2) rfl rfl rfl rfl (.same _ (oO A)) rfl (by rw[h0i,hps1]) rfl (.eq (aX _) (by rw[h0i];exact hfs1.symm)) trivial)
    ⟨aP (oO A),aM,aG,⟨_,rfl,.w64 om oq⟩,trivial⟩) om
     .rw[Y3 k4] at hFN;rw[show (kind == 4)=false by simpa using k4];have hsk:=Ff (n:=A.length) (show (dC (A.take i)).length<A.length by omega);rw[hFN] at hFs;rw[<-hFs] at hsk;refine Z ?_;exact .mk (i+1) [(0,0),(1,1),(2,2)] om (aH _ rfl (o0 (a:=0) (b:=1) (c:=2) rfl rfl rfl rfl (.same _ (oO A)) rfl (by rw[h0i,hps1]) rfl (.eq (aX _) (by rw[hsk])) trivial)
    ⟨aP (oO A),aM,aG,⟨_,rfl,.w64 om oq⟩,trivial⟩) om
 .have hie:i=A.length:=om;subst hie;rw[ZK];have hp1:x6 (bD A) A.length=bD A:=by simp[x6,gI]
  have hp2:j9 (dC A) A.length=dC A:=by simp[j9,jV]
  rw[hp1,hp2];refine Z ?_;rw[di,ZG hil];refine Z ?_;refine cN (r':=wk A) ?_ ⟨rfl,rfl,rfl⟩;exact .fzp 0 0 0 137 3 _ _ (Xl A) rfl rfl rfl (ZA _) λk c c' h1 h2=>by
   rw[ZP] at h1;exact(iS.cons (.same _ (oO A)) (.cons (A8 (id:=1) rfl (by rw[aN,gI]) rfl (aW _)) (.cons (A8 (id:=2) rfl (by rw[aB,jV]) rfl (aX _)) .nil))).2 k c c' h1 h2
def eI(l:List Sp):List AV:=l.map λs=>.agg [.int .i64 s.1,.int .i64 s.2.1,.int .i64 s.2.2]
theorem gM(l:List Sp):(eI l).length=l.length:=by simp[eI]
theorem jD(l:List Sp):jR (eI l):=λa h=>by
 simp only[eI,ZW] at h;obtain⟨p,_,rfl⟩:=h;exact .agg' (.cons nn (.cons nn (.cons nn .nil)))
theorem Ns(l:List Sp)(k:Nat):(eI l)[k]? = (l[k]?).map λs=>AV.agg [.int .i64 s.1,.int .i64 s.2.1,.int .i64 s.2.2]:=by simp[eI]
theorem m9(l m:List Sp):eI (l++m)=eI l++eI m:=by simp[eI]
def IK(v:bH)(used:Nat)(stop:Int)(rid n:Nat):AV:=match v with
 | .mk a b c d=>.agg [.int .i64 a,.int .i64 b,.str c,.il 4 (aQ d),.int .i64 used,.int .i64 stop,.sl rid 0 n]
def Us(r0:x9):AV->aR->Nat->Prop:=λr m k=>r=IK r0.val r0.used r0.stop 0 r0.spans.length/\m=[(0,.row 218 3 (eI r0.spans))]/\k=1
def V4(A:List Nd)(p:List Int)(f:Nat):Prop:=∀(i a0:Nat),i<f->i<A.length->a0<=p.length ->
 aJ prog [] 94 [.agg [.il 12 (bG A)],.int .i64 i,.il 1 (aY p),.int .i64 a0] [] 0 (Us (a8 A p f i a0))
theorem S8{A:List Nd}{p:List Int}{f i a0:Nat}(ih:V4 A p f)(h1:i<f)(h2:i<A.length)(h3:a0<=p.length){mem:aR}{nx:Nat}{K:AV->aR->Nat->Prop}
  (hc:(kZ [(nx,AB.row 218 3 [])] && (lU [(0,nx)] && (Nat.ble nx (nx+1) && (lY [] nx [(nx,AB.row 218 3 [])] && rU [] 0 nx (nx+1) [(0,nx)]))))=true)
  (hk:K (IK (a8 A p f i a0).val (a8 A p f i a0).used (a8 A p f i a0).stop nx (a8 A p f i a0).spans.length) ((nx,.row 218 3 (eI (a8 A p f i a0).spans))::mem) (nx+1)) :
  aJ prog [] 94 [.agg [.il 12 (bG A)],.int .i64 i,.il 1 (aY p),.int .i64 a0] mem nx K:=by
 refine aJ.useN bI [] (ih i a0 h1 h2 h3) rfl (.same (.cons (.agg' (.cons (.il' (bB _)) .nil)) (.cons nn (.cons (.il' (aW _)) (.cons nn .nil))))) trivial rfl ?_;rintro r m k ⟨rfl,rfl,rfl⟩;generalize a8 A p f i a0=R at *;obtain⟨⟨v1,v2,v3,v4⟩,u,st,sp⟩:=R;have hdr:∀m:aR,gQ (g8 []) m=m:=by
  intro m
  induction m with
  | nil=>rfl
  | cons a m ih=>obtain⟨k,b⟩:=a;simp only[g8,gQ,CG];rw[show gQ [] m=m from ih]
 refine⟨[(0,nx)],IK (.mk v1 v2 v3 v4) u st nx sp.length,[(nx,.row 218 3 (eI sp))],nx+1,.agg' (.s (.s (.s (.cons (.same _ (.il' (aX _))) (.s (.s (.cons (.slE rfl rfl) .nil))))))),⟨aF 0 (jD _),trivial⟩,hc, ?_⟩;rw[hdr];exact hk
theorem Ol(x:Nd)(h:x.kind=1->Go.Ax.d6 x=true):aU prog [] 167 [dM x] (.int .i64 (fK x)):=by
 have hr:x.kind=1->x.lo<=x.hi/\x.hi<x.lo+1099511627776:=λe=>⟨(cE (h e)).1,(cE (h e)).2.2.2⟩
 have ho:fK x=if x.kind=1 then x.hi-x.lo+1 else x.kids.length:=rfl
 clear h;obtain⟨kind,name,lo,hi,ws,ls,vals,kids,⟨vk,vn,vs,vks⟩⟩:=x;simp only at hr ho;generalize fK ⟨kind,name,lo,hi,ws,ls,vals,kids,.mk vk vn vs vks⟩=o at *;refine aD bI func167 rfl ?_;refine Z ?_;refine aL (λh=>?_) (λh=>?_)
 .have h1:kind=1:=su h
  obtain⟨r1,r2⟩:=hr h1;rw[Y7 h1] at ho;have hw:IntKind.i64.wrap (hi-lo)=hi-lo:=bF oq;have hw2:IntKind.i64.wrap (hi-lo+1)=o:=by rw[bF oq,ho]
  refine Z ?_;rw[hw,hw2];exact aA nn ⟨rfl,rfl,rfl⟩
 .have h1:¬kind=1:=su h
  rw[Y3 h1] at ho;refine Z ?_;exact cN (.int (by rw[ho,aN])) ⟨rfl,rfl,rfl⟩
theorem UV{A:List Nd}(h:VT A){p:List Int}(hp:p.length<=1000000000){f:Nat}(ih:V4 A p f){i:Nat}{x:Nd}(hx:A[i]? = some x)(hif:i<=f){a0:Nat}(ha:a0<=p.length)
  (hS:(bQ (λk q=>a8 A p f k q) a0 x.kids ⟨0,[],[],-1⟩).spans.length<=4294967296) :
  aJ prog [] 165 [.agg [.il 12 (bG A)],dM x,.il 1 (aY p),.int .i64 a0] [] 0 (Us (GR x (bQ (λk q=>a8 A p f k q) a0 x.kids ⟨0,[],[],-1⟩))):=by
 have hil:=(Y4.1 hx).1;have hkm:=λ(k:Int) (hk:k∈x.kids)=>fQ h hx hk
 have hkl:=h.tin.klen _ (Y5 hx);have hbd:∀(k q:Nat),q<=p.length->q+(a8 A p f k q).used<=p.length:=λk q hq=>(wR (A:=A) p f k q hq).1
 have hnn:=bP x;have nA:NN (.il 12 (bG A)):=.il' (bB A);have np:NN (.il 1 (aY p)):=.il' (aW p);have hmd:=λ(ks:List bH)=>Ty x ks
 have hseq:∀s:Pt,GR x s=⟨if s.stop = -1 then dW x.name s.vals else vZ,s.used,s.stop,s.spans⟩:=λs=>rfl
 have hseq:=hseq (bQ (λk q=>a8 A p f k q) a0 x.kids ⟨0,[],[],-1⟩);rw[hseq];clear hseq hx;obtain⟨kind,name,lo,hi',ws,lbs,vals,kids,⟨vk,vn,vs,vks⟩⟩:=x;simp only at hkm hkl hS hmd |-;refine aD bI func165 rfl ?_;refine Z ?_;refine bJ.ph 218 3 ?_;refine bJ.ph 50 4 ?_;obtain⟨P,hP⟩:∃P:Nat->Pt,P=λj=>bQ (λk q=>a8 A p f k q) a0 (kids.take j) ⟨0,[],[],-1⟩:=⟨_,rfl⟩
 have hP0:P 0=⟨0,[],[],-1⟩:=by rw[hP];rfl
 have hPe:bQ (λk q=>a8 A p f k q) a0 kids ⟨0,[],[],-1⟩=P kids.length:=by rw[hP];simp
 have hPn:∀j (hj:j<kids.length),(P j).stop = -1->P (j+1)=Ph (λk q=>a8 A p f k q) a0 kids[j] (P j):=λj hj hs=>by
  rw[hP] at hs |-;exact qP hj rfl hs
 have hPs:∀j (hj:j<kids.length),(P j).stop = -1->(P (j+1)).stop≠-1->P kids.length=P (j+1):=λj hj hs hs2=>by
  rw[<-hPe];rw[hP] at hs hs2 |-;exact zQ hj rfl hs hs2
 have hPl:∀j (hj:j<kids.length),(P j).stop = -1->(P j).spans.length+1+(a8 A p f kids[j].toNat (a0+(P j).used)).spans.length<=4294967296:=λj hj hs=>by
  refine Zk ?_ hS;rw[hP] at hs |-;exact EF (rd:=λk q=>a8 A p f k q) hj rfl hs
 rw[hPe] at hS |-;clear hPe hP;refine bJ.at bI (λj:Nat=>j<=kids.length/\(P j).stop = -1/\a0+(P j).used<=p.length/\(P j).vals.length=j)
  (λj=>⟨[(2,.il 1 (aY p)),(3,.int .i64 a0),(4,.ip (.agg [.il 12 (bG A)])),(5,.ip (dM ⟨kind,name,lo,hi',ws,lbs,vals,kids,.mk vk vn vs vks⟩)),(8,.ptr 0 0 0),(9,.ptr 1 0 0),(10,.sl 3 0 (P j).vals.length),(11,.int .i64 j)],
   [(0,.row 91 7 [.agg [.int .i64 0,.int .i64 0,.str [],.nsl,.int .i64 0,.int .i64 0,.nsl]]),(1,.row 91 7 [.agg [.int .i64 0,.int .i64 0,.str [],.nsl,.int .i64 (P j).used,.int .i64 (-1),.sl 2 0 (P j).spans.length]]),
    (2,.row 218 3 (eI (P j).spans)),(3,.row 50 4 (aQ (P j).vals))],4,80⟩)
  (λj=>kids.length-j) 0 [(2,0),(3,1),(4,2),(5,3)] ⟨om,by rw[hP0],by rw[hP0];exact ha,by rw[hP0];rfl⟩
  (aH _ rfl ⟨aF 2 (.cons nn .nil),⟨3,_,rfl,rfl,by rw[hP0];exact .cons (.agg (.s (.s (.s (.s (.s (.s (.cons (.nslk 4 2 _ rfl rfl) .nil)))))))) .nil⟩,⟨4,_,rfl,rfl,by rw[hP0];exact .nil⟩,⟨5,_,rfl,rfl,by rw[hP0];exact .nil⟩,trivial⟩
   ⟨aP np,aG,⟨_,rfl,.fzp 0 0 0 25 1 _ _ _ rfl rfl rfl (ZA _) λk c c' h1 h2=>by
    rw[ZP] at h1;exact(iS.cons (.same _ nA) .nil).2 k c c' h1 h2⟩,⟨_,rfl,.fzp 1 0 0 59 12 _ _ _ rfl rfl rfl (ZA _) λk c c' h1 h2=>by
    rw[ZP] at h1;exact(iS.same hnn.cells).2 k c c' h1 h2⟩,aM,aM,⟨_,rfl,by rw[hP0];exact .nslk 5 3 _ rfl rfl⟩,aG,trivial⟩) ?_
 rintro j ⟨hj,hst,hus,hvl⟩;have dj:decide ((j:Int)<((aY kids).length:Int))=decide (j<kids.length):=by rw[aN];exact Zg.2 om
 have ls:=gM (P j).spans;have lv:=aB (P j).vals;by_cases hjl:j<kids.length
 .have hnx:=hPn j hjl hst;have hend:=hPs j hjl hst;have hln:=hPl j hjl hst;have ek:=nQ hjl;obtain⟨m0,m1⟩:=hkm kids[j] (Za hjl);generalize kids[j]=kz at *;obtain⟨k,rfl⟩:=ZU m0;simp only[Y1] at m1 hnx hln;unfold Ph at hnx;simp only[Y1] at hnx;have hb:=hbd k (a0+(P j).used) hus;clear hPn hPs hPl;generalize hpj:P j=pj at *;obtain⟨us,vls,sps,st⟩:=pj;simp only at hst hus hvl hnx hln hb ls lv |-;subst hst;have hw1:IntKind.i64.wrap ((a0:Int)+(us:Int))=((a0+us:Nat):Int):=by rw[bF oq];omega
  refine Z ?_;rw[dj,Y8 hjl];refine Rt ?_;repeat(refine aC ek ?_;refine Rt ?_)
  rw[hw1];refine S8 ih om om hus rfl ?_;generalize a8 A p f k (a0+us)=R at *;obtain⟨⟨v1,v2,v3,v4⟩,ru,rst,rsp⟩:=R;simp only at hnx hln hb |-;refine Rt ?_;have hw2:IntKind.i64.wrap (((a0+us:Nat):Int)+(ru:Int))=((a0+us+ru:Nat):Int):=by rw[bF oq];omega
  rw[hw1,hw2];refine aK (b8 rfl rfl (by rw[ls]) (by simp;omega)) ?_;refine Z ?_;refine aK (Y2 (by rw[gM];omega)) ?_;have htk:List.take rsp.length (List.drop 0 (eI rsp))=eI rsp:=by rw[ZT,ZD (by rw[gM];omega)]
  rw[htk];have lr:=gM rsp;refine Z ?_;refine aK (b8 rfl rfl (by simp;omega) (by simp;omega)) ?_;refine Rt ?_;refine aK (b8 rfl rfl (by rw[lv]) (by simp;omega)) ?_;refine Z ?_;have hsp:eI sps++List.take 1 (List.drop 0 [AV.agg [.int .i64 a0,.int .i64 ((a0+us:Nat):Int),.int .i64 ((a0+us+ru:Nat):Int)]])++eI rsp=eI (sps++(a0,a0+us,a0+us+ru)::rsp):=by
   rw[show sps++(a0,a0+us,a0+us+ru)::rsp=sps++[(a0,a0+us,a0+us+ru)]++rsp by simp,m9,m9];rfl
  have hvs:aQ vls++List.take 1 (List.drop 0 [AV.agg [.int .i64 v1,.int .i64 v2,.str v3,.il 4 (aQ v4)]])=aQ (vls++[.mk v1 v2 v3 v4]):=by rw[gW];rfl
  have hw3:IntKind.i64.wrap ((us:Int)+(ru:Int))=((us+ru:Nat):Int):=by rw[bF oq];omega
  rw[hw3];by_cases hs1:rst = -1
  .subst hs1;refine Z ?_;refine .mk (j+1) [(0,0),(1,1),(21,2),(23,3)] ⟨om,by rw[hnx],by rw[hnx];simp only;omega,by rw[hnx];simp only[ZB,ZY];omega⟩
    (aH _ rfl ⟨aF 0 (.cons (.agg' (.cons nn (.cons nn (.cons nn (.cons nn (.cons nn (.cons nn (.cons nn .nil)))))))) .nil),
      ⟨1,_,rfl,rfl,.cons (.agg (.s (.s (.s (.s (.cons (.int (by rw[hnx])) (.s (.cons (.slE rfl (by rw[hnx];simp;omega)) .nil)))))))) .nil⟩,
      ⟨21,_,rfl,rfl,.eq (jD _) (by rw[hsp,hnx])⟩,⟨23,_,rfl,rfl,.eq (aX _) (by rw[hvs,hnx])⟩,trivial⟩
     ⟨aP np,aG,aP (.ip' (.agg' (.cons nA .nil))),aP (.ip' hnn),aM,aM,⟨_,rfl,.slE rfl (by rw[hnx];simp)⟩,⟨_,rfl,.w64 om oq⟩,trivial⟩) om
  .rw[show (rst != -1)=true by simpa using hs1];have hend:=hend (by rw[hnx];exact hs1);rw[hend,hnx];simp only;rw[Y3 hs1];refine Z ?_;exact bL (n':=1) (m':=[(0,.row 218 3 (eI (sps++(a0,a0+us,a0+us+ru)::rsp)))]) [(21,0)] rfl ⟨⟨21,_,rfl,rfl,.eq (jD _) hsp⟩,trivial⟩
    (.agg' (.s (.s (.s (.cons (.nil 4) (.s (.s (.cons (.slE rfl (by simp;omega)) .nil)))))))) ⟨rfl,rfl,rfl⟩
 .have hje:j=kids.length:=om;subst hje;rw[Y7 hst,hst];generalize P kids.length=pj at *;obtain⟨us,vls,sps,st⟩:=pj;simp only at hst hus hvl ls lv |-;have hm0:=hmd vls;have hvn:=bZ (dW name vls);generalize dW name vls=v at *;obtain⟨v1,v2,v3,v4⟩:=v;refine Z ?_;rw[dj,ZG hjl];refine Z ?_;refine aJ.pre bI [(0,0),(1,1),(2,2)] (mem':=[(0,.row 91 7 [.agg [.int .i64 0,.int .i64 0,.str [],.nsl,.int .i64 0,.int .i64 0,.nsl]]),(1,.row 91 7 [.agg [.int .i64 0,.int .i64 0,.str [],.nsl,.int .i64 us,.int .i64 (-1),.sl 2 0 sps.length]]),(2,.row 218 3 (eI sps))]) rfl
   ⟨aF 0 (.cons (.agg' (.cons nn (.cons nn (.cons nn (.cons nn (.cons nn (.cons nn (.cons nn .nil)))))))) .nil),⟨1,_,rfl,rfl,.cons (.agg (.s (.s (.s (.s (.s (.s (.cons (.slE rfl rfl) .nil)))))))) .nil⟩,aF 2 (jD _),trivial⟩
   (.cons (.same _ hnn) (.cons (.fz' (id:=3) (off:=0) (len:=vls.length) (xs:=aQ vls) (ys:=aQ vls) rfl rfl om (by rw[ZT,ZD om]) (aX _)) .nil)) ?_
  refine hm0.go ?_ (.cons hnn (.cons (.il' (aX _)) .nil)) hvn;refine Z ?_;exact bL (n':=1) (m':=[(0,.row 218 3 (eI sps))]) [(2,0)] rfl ⟨aF 2 (jD _),trivial⟩
    (.agg' (.s (.s (.s (.cons (.same _ (.il' (aX _))) (.s (.s (.cons (.slE rfl rfl) .nil)))))))) ⟨rfl,rfl,rfl⟩
def mM(l:List Bool)(n:Nat):List Bool:=l++List.replicate (n-l.length) false
theorem uG{l:List Bool}{n:Nat}(h:l.length<=n):(mM l n).length=n:=by simp[mM];omega
theorem N6{l:List Bool}{n:Nat}(y:Bool)(h:l.length<n):(mM l n).set l.length y=mM (l++[y]) n:=by
 unfold mM;rw[Z2 _ _ (ZA _),aAo];obtain⟨m,hm⟩:∃m,n-l.length=m+1:=⟨n-l.length-1,om⟩
 rw[hm,Zz,aAJ,ZB,ZY,show n-(l.length+1)=m by omega];simp
theorem ME{l:List Bool}{n:Nat}(h:l.length<n):mM (l++[false]) n=mM l n:=by
 unfold mM;obtain⟨m,hm⟩:∃m,n-l.length=m+1:=⟨n-l.length-1,om⟩
 rw[hm,Zz,ZB,ZY,show n-(l.length+1)=m by omega];simp
theorem wD(l:List Bool)(i:Nat):(kB l)[i]? = (l[i]?).map AV.bool:=by simp[kB]
theorem Vf(l:List Bool):(kB l).length=l.length:=by simp[kB]
theorem CW(l:List Bool)(i:Nat)(b:Bool):kB (l.set i b)=(kB l).set i (.bool b):=by simp[kB,aA7]
theorem SA{A:List Nd}(h:VT A):aU prog [] 132 [.agg [.il 12 (bG A)],wk A] (.il 1 (kB (dJ A))):=by
 have hlen:=cH A;have hl1:=h.tin.len;have nA:NN (.il 12 (bG A)):=.il' (bB A);refine aD bI func132 rfl ?_;refine Z ?_;rw[hlen];have e:((A.length:Nat):Int).toNat=A.length:=sq
 refine aK (bV rfl (bV rfl (bV rfl (bV (Y8 om) (bV (Y8 om) (bV (pP rfl om om) (Y8 om))))))) ?_;refine Z ?_;rw[e];refine bJ.at bI (λi:Nat=>i<=A.length)
  (λi=>⟨[(1,wk A),(2,.ip (.agg [.il 12 (bG A)])),(5,.sl 0 0 A.length),(16,.int .i64 A.length),(17,.int .i64 i)],[(0,.row 4 1 (kB (mM (dJ (A.take i)) A.length)))],1,69⟩) (λi=>A.length-i) 0 [(1,0)] om
  (aH _ rfl ⟨⟨1,_,rfl,rfl,.eq (jC _) (by simp[mM,dJ,MX,kB])⟩,trivial⟩ ⟨aP (iP A),⟨_,rfl,QL (id:=0) rfl rfl rfl rfl rfl (.same _ nA)⟩,⟨_,rfl,.slE rfl rfl⟩,⟨_,rfl,.int (by rw[hlen])⟩,aG,trivial⟩) ?_
 intro i hi;have di:decide ((i:Int)<(A.length:Int))=decide (i<A.length):=Zg.2 om;by_cases hil:i<A.length
 .have hx:=cS hil;have hne:=pJ hil;have hnn:=bP (aI A i);have hg:=h.node hx;have hkl:=h.tin.klen _ (Y5 hx);have hti:(A.take i).length=i:=by rw[ZQ];omega
  have hpl:(dJ (A.take i)).length=i:=by rw[jU,hti]
  have hkm:=λ(k:Int) (hk:k∈(aI A i).kids)=>fQ h hx hk
  have hCh:=JC hil;have hln:=h.len hx;have hln2:=h.lenC hx (ZA i) om;have hPs:dJ (A.take (i+1))=dJ (A.take i)++[Ac (bD (A.take i)) (dJ (A.take i)) (aI A i)]:=by
   rw[ZE hil,wC,(Y4.1 hx).2]
  have hPN:Ac (bD (A.take i)) (dJ (A.take i)) (aI A i)=(decide (Go.Ax.f8 (bD (A.take i)) (aI A i)<=0) && (decide ((aI A i).kind≠3) || decide ((aI A i).kids.length=0)) && (aI A i).kids.all λk=>(dJ (A.take i)).getD k.toNat false):=rfl;rw[hln2,<-hln] at hPN;have hset:=λb=>N6 (n:=A.length) b (show (dJ (A.take i)).length<A.length by omega)
  rw[hpl] at hset;have hl0:=(h.lens0 (i:Int)).1;generalize Ac (bD (A.take i)) (dJ (A.take i)) (aI A i)=pb at *;generalize eP (bD A) i=ln at *;clear hln hln2 hg hx;generalize aI A i=x at *;obtain⟨kind,name,lo,hi',ws,lbs,vals,kids,⟨vk,vn,vs,vks⟩⟩:=x;simp only at hkm hkl hPN;refine Z ?_;rw[di,Y8 hil];refine Rt ?_;repeat(refine aC hne ?_;refine Rt ?_)
  refine hCh.go ?_ (.cons (iP A) (.cons nn .nil)) nn;refine Z ?_;refine aL (λhb=>?_) (λhb=>?_)
  .have hlp:0<ln:=su hb
   have hpf:pb=false:=by rw[hPN,ZG om];rfl
   rw[hpf] at hPs;have hsk:=ME (n:=A.length) (show (dJ (A.take i)).length<A.length by omega);rw[<-hPs] at hsk;refine Z ?_;exact .mk (i+1) [(0,0)] om (aH _ rfl ⟨⟨0,_,rfl,rfl,.eq (jC _) (by rw[hsk])⟩,trivial⟩ ⟨aP (iP A),aP (.ip' (.agg' (.cons nA .nil))),⟨_,rfl,.slE rfl rfl⟩,aG,⟨_,rfl,.w64 om oq⟩,trivial⟩) om
  .have hlp:¬0<ln:=su hb
   rw[Y8 (show ln<=0 by omega),aBl] at hPN;have lkk:=aN kids;have g1:Nat.blt ((i:Nat):Int).toNat A.length=true:=Y2 (by simp;omega);obtain⟨pi,hpi⟩:∃b:Bool,(kB (mM (dJ (A.take i)) A.length))[0+((i:Nat):Int).toNat]? = some (.bool b):=by
    have:i<(mM (dJ (A.take i)) A.length).length:=by rw[uG om];omega
    exact⟨_,by rw[ZP,Y1,wD,Yz this];rfl⟩
   refine Z ?_;by_cases k3:kind=3
   .subst k3;rw[show decide ((3:Int)≠3)=false by simp,aBz] at hPN;have dl:(((aY kids).length:Int) == 0)=decide (kids.length=0):=by rw[lkk];by_cases e0:kids.length=0<;>simp[e0]
    refine Z ?_;rw[dl];refine Rs ?_;repeat((first|refine aC hpi ?_|refine aK g1 ?_);refine Rt ?_)
    generalize decide (kids.length=0)=b0 at *;refine bJ.at bI (λj:Nat=>j<=kids.length)
     (λj=>⟨[(1,wk A),(2,.ip (.agg [.il 12 (bG A)])),(5,.sl 0 0 A.length),(6,.int .i64 i),(16,.int .i64 A.length),(17,.int .i64 i),(47,.il 1 (aY kids)),(48,.int .i64 kids.length),(49,.int .i64 j)],
      [(0,.row 4 1 (kB ((mM (dJ (A.take i)) A.length).set i (b0 && (kids.take j).all λk=>(dJ (A.take i)).getD k.toNat false))))],1,69⟩)
     (λj=>kids.length-j) 0 [(0,0)] om
     (aH _ rfl ⟨⟨0,_,rfl,rfl,.eq (jC _) (by simp[CW])⟩,trivial⟩ ⟨aP (iP A),aP (.ip' (.agg' (.cons nA .nil))),⟨_,rfl,.slE rfl rfl⟩,aG,aG,aG,aP (.il' (aW _)),⟨_,rfl,.int (by rw[lkk])⟩,aG,trivial⟩) ?_
    intro j hj;have dj:decide ((j:Int)<(kids.length:Int))=decide (j<kids.length):=Zg.2 om;have hBl:(mM (dJ (A.take i)) A.length).length=A.length:=uG om;by_cases hjl:j<kids.length
    .have ek:=nQ hjl;obtain⟨m0,m1⟩:=hkm kids[j] (Za hjl);have hall:((kids.take (j+1)).all λk=>(dJ (A.take i)).getD k.toNat false)=(((kids.take j).all λk=>(dJ (A.take i)).getD k.toNat false) && (dJ (A.take i)).getD kids[j].toNat false):=by
      rw[ZE hjl,aBO];simp
     generalize kids[j]=kz at *;obtain⟨k,rfl⟩:=ZU m0;simp only[Y1] at m1 hall;have hgk:∀b:Bool,(kB ((mM (dJ (A.take i)) A.length).set i b))[0+((k:Nat):Int).toNat]? = some (.bool ((dJ (A.take i)).getD k false)):=λb=>by
      have hk:k<(dJ (A.take i)).length:=om;rw[ZP,Y1,wD,aBq om];unfold mM;rw[ZR hk,Y0,Yz hk];rfl
     have hgi:∀b:Bool,(kB ((mM (dJ (A.take i)) A.length).set i b))[0+((i:Nat):Int).toNat]? = some (.bool b):=λb=>by
      rw[ZP,Y1,wD,Zy om];rfl
     have g2:Nat.blt ((k:Nat):Int).toNat A.length=true:=Y2 (by simp;omega);generalize (dJ (A.take i)).getD k false=gk at *;have hall2:(b0 && ((kids.take (j+1)).all λk=>(dJ (A.take i)).getD k.toNat false))=((b0 && ((kids.take j).all λk=>(dJ (A.take i)).getD k.toNat false)) && gk):=by rw[hall,aBF]
     generalize (b0 && ((kids.take j).all λk=>(dJ (A.take i)).getD k.toNat false))=b at *;have hgk:=hgk b;have hgi:=hgi b;have hss:∀c:Bool,(kB ((mM (dJ (A.take i)) A.length).set i b)).set (0+((i:Nat):Int).toNat) (.bool c)=kB ((mM (dJ (A.take i)) A.length).set i c):=λc=>by
      rw[ZP,Y1,<-CW,List.set_set]
     cases b with
     | false=>
      refine Z ?_;rw[dj,Y8 hjl];refine Rt ?_;repeat((first|refine aC ek ?_|refine aC hgi ?_|refine aK g1 ?_);refine Rt ?_)
      exact .mk (j+1) [(0,0)] om (aH _ rfl ⟨⟨0,_,rfl,rfl,.eq (jC _) (by rw[hss,hall2];rfl)⟩,trivial⟩ ⟨aP (iP A),aP (.ip' (.agg' (.cons nA .nil))),⟨_,rfl,.slE rfl rfl⟩,aG,aG,aG,aP (.il' (aW _)),aG,⟨_,rfl,.w64 om oq⟩,trivial⟩) om
     | true=>
      refine Z ?_;rw[dj,Y8 hjl];refine Rt ?_;repeat((first|refine aC ek ?_|refine aC hgi ?_|refine aC hgk ?_|refine aK g1 ?_|refine aK g2 ?_);refine Rt ?_)
      exact .mk (j+1) [(0,0)] om (aH _ rfl ⟨⟨0,_,rfl,rfl,.eq (jC _) (by rw[hss,hall2];rfl)⟩,trivial⟩ ⟨aP (iP A),aP (.ip' (.agg' (.cons nA .nil))),⟨_,rfl,.slE rfl rfl⟩,aG,aG,aG,aP (.il' (aW _)),aG,⟨_,rfl,.w64 om oq⟩,trivial⟩) om
    .have hje:j=kids.length:=om;rw[hje,ZK,<-hPN,hset,<-hPs];refine Z ?_;rw[show decide (((kids.length:Nat):Int)<(kids.length:Int))=false by simp];refine Z ?_;exact .mk (i+1) [(0,0)] om (aH _ rfl ⟨aF 0 (jC _),trivial⟩ ⟨aP (iP A),aP (.ip' (.agg' (.cons nA .nil))),⟨_,rfl,.slE rfl rfl⟩,aG,⟨_,rfl,.w64 om oq⟩,trivial⟩) om
   .rw[Y8 (show kind≠3 from k3),Bool.true_or] at hPN;rw[show (kind != 3)=true by simpa using k3];refine Rt ?_;repeat((first|refine aC hpi ?_|refine aK g1 ?_);refine Rt ?_)
    refine bJ.at bI (λj:Nat=>j<=kids.length)
     (λj=>⟨[(1,wk A),(2,.ip (.agg [.il 12 (bG A)])),(5,.sl 0 0 A.length),(6,.int .i64 i),(16,.int .i64 A.length),(17,.int .i64 i),(47,.il 1 (aY kids)),(48,.int .i64 kids.length),(49,.int .i64 j)],
      [(0,.row 4 1 (kB ((mM (dJ (A.take i)) A.length).set i (true && (kids.take j).all λk=>(dJ (A.take i)).getD k.toNat false))))],1,69⟩)
     (λj=>kids.length-j) 0 [(0,0)] om
     (aH _ rfl ⟨⟨0,_,rfl,rfl,.eq (jC _) (by simp[CW])⟩,trivial⟩ ⟨aP (iP A),aP (.ip' (.agg' (.cons nA .nil))),⟨_,rfl,.slE rfl rfl⟩,aG,aG,aG,aP (.il' (aW _)),⟨_,rfl,.int (by rw[lkk])⟩,aG,trivial⟩) ?_
    intro j hj;have dj:decide ((j:Int)<(kids.length:Int))=decide (j<kids.length):=Zg.2 om;have hBl:(mM (dJ (A.take i)) A.length).length=A.length:=uG om;by_cases hjl:j<kids.length
    .have ek:=nQ hjl;obtain⟨m0,m1⟩:=hkm kids[j] (Za hjl);have hall:((kids.take (j+1)).all λk=>(dJ (A.take i)).getD k.toNat false)=(((kids.take j).all λk=>(dJ (A.take i)).getD k.toNat false) && (dJ (A.take i)).getD kids[j].toNat false):=by
      rw[ZE hjl,aBO];simp
     generalize kids[j]=kz at *;obtain⟨k,rfl⟩:=ZU m0;simp only[Y1] at m1 hall;have hgk:∀b:Bool,(kB ((mM (dJ (A.take i)) A.length).set i b))[0+((k:Nat):Int).toNat]? = some (.bool ((dJ (A.take i)).getD k false)):=λb=>by
      have hk:k<(dJ (A.take i)).length:=om;rw[ZP,Y1,wD,aBq om];unfold mM;rw[ZR hk,Y0,Yz hk];rfl
     have hgi:∀b:Bool,(kB ((mM (dJ (A.take i)) A.length).set i b))[0+((i:Nat):Int).toNat]? = some (.bool b):=λb=>by
      rw[ZP,Y1,wD,Zy om];rfl
     have g2:Nat.blt ((k:Nat):Int).toNat A.length=true:=Y2 (by simp;omega);generalize (dJ (A.take i)).getD k false=gk at *;have hall2:(true && ((kids.take (j+1)).all λk=>(dJ (A.take i)).getD k.toNat false))=((true && ((kids.take j).all λk=>(dJ (A.take i)).getD k.toNat false)) && gk):=by rw[hall,aBF]
     generalize (true && ((kids.take j).all λk=>(dJ (A.take i)).getD k.toNat false))=b at *;have hgk:=hgk b;have hgi:=hgi b;have hss:∀c:Bool,(kB ((mM (dJ (A.take i)) A.length).set i b)).set (0+((i:Nat):Int).toNat) (.bool c)=kB ((mM (dJ (A.take i)) A.length).set i c):=λc=>by
      rw[ZP,Y1,<-CW,List.set_set]
     cases b with
     | false=>
      refine Z ?_;rw[dj,Y8 hjl];refine Rt ?_;repeat((first|refine aC ek ?_|refine aC hgi ?_|refine aK g1 ?_);refine Rt ?_)
      exact .mk (j+1) [(0,0)] om (aH _ rfl ⟨⟨0,_,rfl,rfl,.eq (jC _) (by rw[hss,hall2];rfl)⟩,trivial⟩ ⟨aP (iP A),aP (.ip' (.agg' (.cons nA .nil))),⟨_,rfl,.slE rfl rfl⟩,aG,aG,aG,aP (.il' (aW _)),aG,⟨_,rfl,.w64 om oq⟩,trivial⟩) om
     | true=>
      refine Z ?_;rw[dj,Y8 hjl];refine Rt ?_;repeat((first|refine aC ek ?_|refine aC hgi ?_|refine aC hgk ?_|refine aK g1 ?_|refine aK g2 ?_);refine Rt ?_)
      exact .mk (j+1) [(0,0)] om (aH _ rfl ⟨⟨0,_,rfl,rfl,.eq (jC _) (by rw[hss,hall2];rfl)⟩,trivial⟩ ⟨aP (iP A),aP (.ip' (.agg' (.cons nA .nil))),⟨_,rfl,.slE rfl rfl⟩,aG,aG,aG,aP (.il' (aW _)),aG,⟨_,rfl,.w64 om oq⟩,trivial⟩) om
    .have hje:j=kids.length:=om;rw[hje,ZK,<-hPN,hset,<-hPs];refine Z ?_;rw[show decide (((kids.length:Nat):Int)<(kids.length:Int))=false by simp];refine Z ?_;exact .mk (i+1) [(0,0)] om (aH _ rfl ⟨aF 0 (jC _),trivial⟩ ⟨aP (iP A),aP (.ip' (.agg' (.cons nA .nil))),⟨_,rfl,.slE rfl rfl⟩,aG,⟨_,rfl,.w64 om oq⟩,trivial⟩) om
 .have hie:i=A.length:=om;subst hie;rw[ZK];have hp1:mM (dJ A) A.length=dJ A:=by simp[mM,jU]
  rw[hp1];refine Z ?_;rw[di,ZG hil];refine Z ?_;exact cN (r':=.il 1 (kB (dJ A))) (A8 (id:=0) rfl (by rw[Vf,jU]) rfl (jC _)) ⟨rfl,rfl,rfl⟩
def kX(q:List Int)(rid:Nat)(rest:aR):aR:=(0,.row 22 1 [.sl rid 0 q.length])::(rid,.row 3 1 (aY q))::rest
def Vp(A:List Nd)(raw:List Int):AV:=.fn (.func 70) [] [.ptr 0 0 0,.ip (.il 1 (aY raw)),.ip (wk A)]
theorem vG(raw:List Int):NN (.ip (.il 1 (aY raw))):=.ip' (.il' (aW raw))
theorem sX(A:List Nd):NN (.ip (wk A)):=.ip' (iP A)
theorem Dd{mem:aR}{J:List (Nat × Nat)}{A:List Nd}{raw:List Int}(h:lk J 0=some 0):Cv mem J (Vp A raw) (Vp A raw):=
 .fn _ _ _ _ _ rfl rfl sq (iS.cons (.ptr 0 0 0 0 h) (.cons (.same _ (vG raw)) (.cons (.same _ (sX A)) .nil))).2
theorem eR{mem:aR}{J:List (Nat × Nat)}{q:List Int}{xs:List AV}{len rid rid':Nat}{rest:aR}(s0:lk J 0=some 0)(sr:lk J rid=some rid')(m0:lk mem 0=some (.row 22 1 [.sl rid 0 len]))(hl:len=q.length)(mr:lk mem rid=some (.row 3 1 xs))(hx:xs=aY q)
  (hr:cZ mem J rest):cZ mem J (kX q rid' rest):=
 ⟨⟨0,_,s0,m0,.cons (.one rfl rfl (.slE sr hl)) .nil⟩,⟨rid,_,sr,mr,.eq (aW _) hx⟩,hr⟩
theorem Vx{A:List Nd}(h:VT A)(raw q:List Int){i:Nat}(hi:i<A.length)(hk:(aI A i).kind=1\/(aI A i).kind=2)(hq:q.length<=100000)(hr:raw.length<=17592186043904) :
  aJ prog [] 70 [.int .i64 i,.ptr 0 0 0,.ip (.il 1 (aY raw)),.ip (wk A)] (kX q 1 []) 2 λr m k=>r = .int .i64 (dH raw (aI A i) q.length)/\m=kX (q++[dH raw (aI A i) q.length]) 2 []/\k=3:=by
 have hx:=cS hi;have hg:=h.node hx;have hop:=h.opt hx hk;have ho:=IR (aI A i) (λ_=>hg.node.num);have hkl:=h.tin.klen _ (Y5 hx);have en:=pJ hi;have hob:fK (aI A i)<=1099511627776:=by
  unfold fK;split
  .have:=cE hg.node.num;omega
  .omega
 have nx:=bP (aI A i);have hcm:=λhlt=>Jw (raw:=raw) (x:=aI A i) (q:=q.length) hop hlt
 have hcn:=λhlt=>JX (raw:=raw) (x:=aI A i) (q:=q.length) hlt
 have lr:=aN raw;generalize aI A i=x at *;have lq:=aN q;have d1:decide ((q.length:Int)<((aY raw).length:Int))=decide (q.length<raw.length):=by rw[lr];exact Zg.2 om
 generalize dH raw x q.length=c at *;generalize fK x=o at *;refine aD bI func70 rfl ?_;refine Z ?_;rw[d1];by_cases hlt:q.length<raw.length
 .have er:=nQ hlt;have hcm:=hcm hlt;have eg:raw.getD q.length 0=raw[q.length]:=by rw[Y0,Yz hlt];rfl
  rw[eg] at hcm;generalize raw[q.length]=z at *;have hw:IntKind.i64.wrap (o-1)=o-1:=bF oq;rw[Y8 hlt];refine Rt ?_;repeat((first|refine aC er ?_|refine aC en ?_);refine Rt ?_)
  refine ho.go ?_ (.cons (.ip' nx) .nil) nn;refine Rt ?_;repeat((first|refine aC er ?_|refine aC en ?_);refine Rt ?_)
  have hif:(if IntKind.i64.wrap (o-1)<if 0>z then 0 else z then IntKind.i64.wrap (o-1) else if 0>z then 0 else z)=c:=by
   rw[hw,<-hcm];split<;>split<;>omega
  rw[hif];refine aK (b8 rfl rfl (by rw[lq]) (by simp;omega)) ?_;refine Z ?_;exact bL (n':=3) (m':=kX (q++[c]) 2 []) [(0,0),(22,2)] rfl (eR (rid:=22) rfl rfl rfl sq rfl (by simp[aY]) trivial) (.same _ nn) ⟨rfl,rfl,rfl⟩
 .rw[ZG hlt,hcn hlt];refine Z ?_;refine aK (b8 rfl rfl (by rw[lq]) (by simp;omega)) ?_;refine Z ?_;exact bL (n':=3) (m':=kX (q++[0]) 2 []) [(0,0),(3,2)] rfl (eR (rid:=3) rfl rfl rfl sq rfl (by simp[aY]) trivial) (.same _ nn) ⟨rfl,rfl,rfl⟩
def P9(A:List Nd)(raw q:List Int)(f i:Nat)(want:Bool):AV->aR->Nat->Prop:=λr m k=>∃v,r=cC v/\(want=true->v=(dV A raw f i q.length).val)/\m=kX (q++(dV A raw f i q.length).cs) 2 []/\k=3
def TA(A:List Nd)(raw:List Int)(f:Nat):Prop:=∀(i:Nat) (q:List Int) (want:Bool),i<f->i<A.length->q.length+(dV A raw f i q.length).cs.length<=4096 ->
 aJ prog [] 69 [wk A,.int .i64 i,.bool want,Vp A raw] (kX q 1 []) 2 (P9 A raw q f i want)
theorem Od{A:List Nd}(h:VT A)(raw q:List Int){i:Nat}(hi:i<A.length)(hk:(aI A i).kind=1\/(aI A i).kind=2)(hq:q.length<=100000)(hr:raw.length<=17592186043904){mem:aR}{nx:Nat}{K:AV->aR->Nat->Prop}
  (rid:Nat) (hp:mH [0,rid] mem=kX q rid []) (hc0:(kZ (kX q 1 []) && (lU [(0,0),(rid,1)] && qZ 2 [(0,0),(rid,1)]))=true) (hl:lk [(0,0),(rid,1)] 0=some 0) (hl2:lk [(0,0),(rid,1)] rid=some 1) (hm:lk (kX q rid []) rid=some (.row 3 1 (aY q)))
  (hc:∀q':List Int,(kZ (kX q' nx []) && (lU [(0,0),(2,nx)] && (Nat.ble nx (nx+1) && (lY [0,rid] nx (kX q' nx []) && rU [(0,0),(rid,1)] 2 nx (nx+1) [(0,0),(2,nx)]))))=true)
  (hk2:K (.int .i64 (dH raw (aI A i) q.length)) (kX (q++[dH raw (aI A i) q.length]) nx []++gQ [0,rid] mem) (nx+1)) :
  aJ prog [] 70 [.int .i64 i,.ptr 0 0 0,.ip (.il 1 (aY raw)),.ip (wk A)] mem nx K:=by
 refine aJ.useN bI [(0,0),(rid,1)] (Vx h raw q hi hk hq hr) hp (.s (.cons (.ptr 0 0 0 0 hl) (.cons (.same _ (vG raw)) (.cons (.same _ (sX A)) .nil)))) (eR (rid:=rid) hl hl2 rfl rfl hm rfl trivial) hc0 ?_;rintro r m k ⟨rfl,rfl,rfl⟩;exact⟨[(0,0),(2,nx)],_,kX (q++[dH raw (aI A i) q.length]) nx [],nx+1,.same _ nn,eR (rid:=2) rfl rfl rfl rfl rfl rfl trivial,hc _,hk2⟩
theorem Ay{A:List Nd}{raw:List Int}{f:Nat}(ih:TA A raw f){q:List Int}{i:Nat}{want:Bool}(h1:i<f)(h2:i<A.length)(h3:q.length+(dV A raw f i q.length).cs.length<=4096){mem:aR}{nx:Nat}{K:AV->aR->Nat->Prop}
  (rid:Nat) (hp:mH [0,rid] mem=kX q rid []) (hc0:(kZ (kX q 1 []) && (lU [(0,0),(rid,1)] && qZ 2 [(0,0),(rid,1)]))=true) (hl:lk [(0,0),(rid,1)] 0=some 0) (hl2:lk [(0,0),(rid,1)] rid=some 1) (hm:lk (kX q rid []) rid=some (.row 3 1 (aY q)))
  (hc:∀q':List Int,(kZ (kX q' nx []) && (lU [(0,0),(2,nx)] && (Nat.ble nx (nx+1) && (lY [0,rid] nx (kX q' nx []) && rU [(0,0),(rid,1)] 2 nx (nx+1) [(0,0),(2,nx)]))))=true)
  (hk2:∀v:bH,(want=true->v=(dV A raw f i q.length).val)->K (cC v) (kX (q++(dV A raw f i q.length).cs) nx []++gQ [0,rid] mem) (nx+1)) :
  aJ prog [] 69 [wk A,.int .i64 i,.bool want,Vp A raw] mem nx K:=by
 refine aJ.useN bI [(0,0),(rid,1)] (ih i q want h1 h2 h3) hp (.cons (.same _ (iP A)) (.s (.s (.cons (Dd hl) .nil)))) (eR (rid:=rid) hl hl2 rfl rfl hm rfl trivial) hc0 ?_;rintro r m k ⟨v,rfl,hv,rfl,rfl⟩;exact⟨[(0,0),(2,nx)],_,kX (q++(dV A raw f i q.length).cs) nx [],nx+1,.same _ (bZ v),eR (rid:=2) rfl rfl rfl rfl rfl rfl trivial,hc _,hk2 v hv⟩
def xM(n c:Int):Value:=.iface 215 (.agg #[.int .i64 n,.int .i64 c])
def N1(a:Nat):aR:=[(0,.row 3 1 [.int .i64 a])]
def Qk(A:List Nd)(p:List Int)(i a0:Nat)(x:Value):Prop:=(p.length<=a0/\x=xM i 0)\/(a0<p.length/\(p.getD a0 0<0\/fK (aI A i)<=p.getD a0 0)/\x=xM (-1) 11)
theorem Qj{A:List Nd}(h:VT A){p:List Int}(hp:p.length<=1000000000){i a0:Nat}(hi:i<A.length)(ha:a0<=p.length) :
  cD prog [] 133 [.int .i64 i,.ptr 0 0 0,.ip (.il 1 (aY p)),.ip (.agg [.il 12 (bG A)])] (N1 a0) 1
   (λr m k=>a0<p.length/\0<=p.getD a0 0/\p.getD a0 0<fK (aI A i)/\r = .int .i64 (p.getD a0 0)/\m=N1 (a0+1)/\k=1)
   (λx m k=>Qk A p i a0 x/\m=N1 a0/\k=1):=by
 have hx:=cS hi;have hg:=h.node hx;have ho:=IR (aI A i) (λ_=>hg.node.num);have en:=pJ hi;have nx:=bP (aI A i);have lp:=aN p;have hpe:a0<p.length->(aY p)[(a0:Int).toNat]? = some (.int .i64 (p.getD a0 0)):=λhq=>by
  rw[nQ hq,Y0,Yz hq];rfl
 unfold Qk;generalize fK (aI A i)=o at *;generalize aI A i=x at *;generalize p.getD a0 0=c at *;refine EA bI func133 rfl ?_;refine Rq ?_;have d1:((a0:Int) == ((aY p).length:Int))=decide (a0=p.length):=by rw[lp];by_cases e:a0=p.length<;>simp[e];omega
 rw[d1];by_cases hq:a0=p.length
 .rw[Y8 hq];refine Rq ?_;exact bL (r':=.junk) (n':=1) (m':=N1 a0) [(0,0)] rfl ⟨aF 0 (.cons nn .nil),trivial⟩ (.junk _) ⟨.inl ⟨om,rfl⟩,rfl,rfl⟩
 .rw[ZG hq];have hpe:=hpe om;refine Rq ?_;repeat((first|refine aC hpe ?_|refine aC en ?_|refine cY.2 ?_|refine bK ?_);refine Rq ?_)
  by_cases hc0:c<0
  .rw[Y8 hc0];refine Rq ?_;exact bL (r':=.junk) (n':=1) (m':=N1 a0) [(0,0)] rfl ⟨aF 0 (.cons nn .nil),trivial⟩ (.junk _) ⟨.inr ⟨om,.inl hc0,rfl⟩,rfl,rfl⟩
  .rw[ZG hc0];refine Rq ?_;repeat((first|refine aC hpe ?_|refine aC en ?_|refine cY.2 ?_|refine bK ?_);refine Rq ?_)
   refine ho.goP ?_ (.cons (.ip' nx) .nil) nn;refine Rq ?_;have d2:decide (c≥o)=decide (o<=c):=Zg.2 om;rw[d2];by_cases hco:o<=c
   .rw[Y8 hco];refine Rq ?_;exact bL (r':=.junk) (n':=1) (m':=N1 a0) [(0,0)] rfl ⟨aF 0 (.cons nn .nil),trivial⟩ (.junk _) ⟨.inr ⟨om,.inr hco,rfl⟩,rfl,rfl⟩
   .rw[ZG hco];refine Rq ?_;exact bL (n':=1) (m':=N1 (a0+1)) [(0,0)] rfl ⟨⟨0,_,rfl,rfl,.cons (.one rfl rfl (.w64 om oq)) .nil⟩,trivial⟩ (.same _ nn) ⟨om,om,om,rfl,rfl,rfl⟩
def Vq(rid n:Nat):AV:=.agg [.int .i64 0,.int .i64 0,.str [],.nsl,.int .i64 0,.sl rid 0 n,.int .i64 0]
def TG(A:List Nd)(p:List Int):AV:=.fn (.func 133) [] [.ptr 0 0 0,.ip (.il 1 (aY p)),.ip (.agg [.il 12 (bG A)])]
def Gl(A:List Nd)(s:Bool):AV:=.fn (.func 134) [] [.ip (.agg [.il 12 (bG A)]),.ip (wk A),.ip (.bool s),.ip (.il 1 (kB (dJ A))),.ptr 2 0 0,.ptr 3 0 0,.ptr 0 0 0,.ptr 1 0 0]
def xH(A:List Nd)(p:List Int)(s:Bool)(a:Nat)(L:List Sp)(rid:Nat)(rest:aR):aR:=
 (0,.row 3 1 [.int .i64 a])::(1,.row 112 7 [Vq rid L.length])::(2,.row 101 1 [TG A p])::(3,.row 60 1 [Gl A s])::(rid,.row 218 3 (eI L))::rest
theorem rL(A:List Nd):NN (.ip (.agg [.il 12 (bG A)])):=.ip' (.agg' (.cons (.il' (bB A)) .nil))
theorem FA(A:List Nd):NN (.ip (.il 1 (kB (dJ A)))):=.ip' (.il' (jC _))
theorem UJ{mem:aR}{J:List (Nat × Nat)}{A:List Nd}{p:List Int}(h:lk J 0=some 0):Cv mem J (TG A p) (TG A p):=
 .fn _ _ _ _ _ rfl rfl sq (iS.cons (.ptr 0 0 0 0 h) (.cons (.same _ (vG p)) (.cons (.same _ (rL A)) .nil))).2
theorem UW{mem:aR}{J:List (Nat × Nat)}{A:List Nd}{s:Bool}(h0:lk J 0=some 0)(h1:lk J 1=some 1)(h2:lk J 2=some 2)(h3:lk J 3=some 3):Cv mem J (Gl A s) (Gl A s):=
 .fn _ _ _ _ _ rfl rfl sq (iS.cons (.same _ (rL A)) (.cons (.same _ (sX A)) (.s (.cons (.same _ (FA A)) (.cons (.ptr 2 2 0 0 h2) (.cons (.ptr 3 3 0 0 h3) (.cons (.ptr 0 0 0 0 h0) (.cons (.ptr 1 1 0 0 h1) .nil)))))))).2
theorem gD{mem:aR}{J:List (Nat × Nat)}{A:List Nd}{p:List Int}{s:Bool}{a:Nat}{av:Int}{L:List Sp}{len rid rid':Nat}{xs:List AV}{rest:aR}(s0:lk J 0=some 0)(s1:lk J 1=some 1)(s2:lk J 2=some 2)(s3:lk J 3=some 3)(sr:lk J rid=some rid')
  (m0:lk mem 0=some (.row 3 1 [.int .i64 av])) (ha:av=(a:Int)) (m1:lk mem 1=some (.row 112 7 [Vq rid len])) (hl:len=L.length) (m2:lk mem 2=some (.row 101 1 [TG A p])) (m3:lk mem 3=some (.row 60 1 [Gl A s]))
  (mr:lk mem rid=some (.row 218 3 xs)) (hx:xs=eI L) (hr:cZ mem J rest):cZ mem J (xH A p s a L rid' rest):=
 ⟨⟨0,_,s0,m0,.cons (.one rfl rfl (.int ha)) .nil⟩,⟨1,_,s1,m1,.cons (.agg (.s (.s (.s (.s (.s (.cons (.slE sr hl) (.s .nil)))))))) .nil⟩,
  ⟨2,_,s2,m2,.cons (.one rfl rfl (UJ s0)) .nil⟩,⟨3,_,s3,m3,.cons (.one rfl rfl (UW s0 s1 s2 s3)) .nil⟩,⟨rid,_,sr,mr,.eq (jD _) hx⟩,hr⟩
def EQ(r:x9)(x:Value):Prop:=(∃n:Nat,r.stop=(n:Int)/\x=xM n 0)\/(r.stop = -2/\x=xM (-1) 11)
def YV(A:List Nd)(p:List Int)(s:Bool)(r0:x9)(a0:Nat)(L:List Sp):AV->aR->Nat->Prop:=λr m k=>r0.stop = -1/\r=cC r0.val/\∃X:List Sp,X.length<=r0.spans.length/\(s=true->X=r0.spans)/\m=xH A p s (a0+r0.used) (L++X) 5 []/\k=6
def YZ(A:List Nd)(p:List Int)(s:Bool)(r0:x9):Value->aR->Nat->Prop:=λx m k=>EQ r0 x/\∃(a:Nat) (L:List Sp),m=xH A p s a L 5 []/\k=6
def Ww(A:List Nd)(p:List Int)(s:Bool)(f:Nat):Prop:=∀(i a0:Nat) (L:List Sp),i<f->i<A.length->a0<=p.length->L.length+(a8 A p f i a0).spans.length<=4294967296 ->
 cD prog [] 134 [.int .i64 i,.ip (.agg [.il 12 (bG A)]),.ip (wk A),.ip (.bool s),.ip (.il 1 (kB (dJ A))),.ptr 2 0 0,.ptr 3 0 0,.ptr 0 0 0,.ptr 1 0 0] (xH A p s a0 L 4 []) 5
  (YV A p s (a8 A p f i a0) a0 L) (YZ A p s (a8 A p f i a0))
theorem T8{A:List Nd}(h:VT A){p:List Int}(hp:p.length<=1000000000){s:Bool}{i a0:Nat}(hi:i<A.length)(ha:a0<=p.length){mem rest:aR}{nx:Nat}{K:AV->aR->Nat->Prop}{Kp:Value->aR->Nat->Prop}
  (hm:mH [0] mem=N1 a0) (hd:gQ [0] mem=rest)
  (hk:a0<p.length->0<=p.getD a0 0->p.getD a0 0<fK (aI A i)->K (.int .i64 (p.getD a0 0)) ((0,.row 3 1 [.int .i64 ((a0+1:Nat):Int)])::rest) nx)
  (hkp:∀x,Qk A p i a0 x->Kp x ((0,.row 3 1 [.int .i64 ((a0:Nat):Int)])::rest) nx)
  (hc:(kZ (N1 a0) && (lU [(0,0)] && (Nat.ble nx nx && (lY [0] nx (N1 a0) && rU [(0,0)] 1 nx nx [(0,0)]))))=true) :
  cD prog [] 133 [.int .i64 i,.ptr 0 0 0,.ip (.il 1 (aY p)),.ip (.agg [.il 12 (bG A)])] mem nx K Kp:=by
 refine cD.useN bI [(0,0)] (Qj h hp hi ha) hm (.s (.cons (.ptr 0 0 0 0 rfl) (.cons (.same _ (vG p)) (.cons (.same _ (rL A)) .nil)))) ⟨aF 0 (.cons nn .nil),trivial⟩ rfl ?_ ?_
 .rintro r m k ⟨h1,h2,h3,rfl,rfl,rfl⟩;refine⟨[(0,0)],_,N1 (a0+1),nx,.same _ nn,⟨aF 0 (.cons nn .nil),trivial⟩,hc, ?_⟩;rw[show g8 [(0,0)]=[0] from rfl,hd];exact hk h1 h2 h3
 .rintro x m k ⟨h1,rfl,rfl⟩;refine⟨[(0,0)],N1 a0,nx,⟨aF 0 (.cons nn .nil),trivial⟩,hc, ?_⟩;rw[show g8 [(0,0)]=[0] from rfl,hd];exact hkp x h1
theorem KK{A:List Nd}{p:List Int}{s:Bool}{f:Nat}(ih:Ww A p s f){i a0:Nat}{L:List Sp}(h1:i<f)(h2:i<A.length)(h3:a0<=p.length)(h4:L.length+(a8 A p f i a0).spans.length<=4294967296){mem rest:aR}{nx:Nat}{K:AV->aR->Nat->Prop}{Kp:Value->aR->Nat->Prop}
  (rid:Nat) (hp:mH [0,1,2,3,rid] mem=xH A p s a0 L rid []) (hd:gQ [0,1,2,3,rid] mem=rest)
  (hc0:(kZ (xH A p s a0 L 4 []) && (lU [(0,0),(1,1),(2,2),(3,3),(rid,4)] && qZ 5 [(0,0),(1,1),(2,2),(3,3),(rid,4)]))=true)
  (l0:lk [(0,0),(1,1),(2,2),(3,3),(rid,4)] rid=some 4) (hm:lk (xH A p s a0 L rid []) rid=some (.row 218 3 (eI L)))
  (hc:∀(a:Nat) (L':List Sp),(kZ (xH A p s a L' nx []) && (lU [(0,0),(1,1),(2,2),(3,3),(5,nx)] && (Nat.ble nx (nx+1) && (lY [0,1,2,3,rid] nx (xH A p s a L' nx []) && rU [(0,0),(1,1),(2,2),(3,3),(rid,4)] 5 nx (nx+1) [(0,0),(1,1),(2,2),(3,3),(5,nx)]))))=true)
  (hk:(a8 A p f i a0).stop = -1->∀X:List Sp,X.length<=(a8 A p f i a0).spans.length->(s=true->X=(a8 A p f i a0).spans)->K (cC (a8 A p f i a0).val) (xH A p s (a0+(a8 A p f i a0).used) (L++X) nx []++rest) (nx+1))
  (hkp:∀x,EQ (a8 A p f i a0) x->∀(a:Nat) (L':List Sp),Kp x (xH A p s a L' nx []++rest) (nx+1)) :
  cD prog [] 134 [.int .i64 i,.ip (.agg [.il 12 (bG A)]),.ip (wk A),.ip (.bool s),.ip (.il 1 (kB (dJ A))),.ptr 2 0 0,.ptr 3 0 0,.ptr 0 0 0,.ptr 1 0 0] mem nx K Kp:=by
 refine cD.useN bI [(0,0),(1,1),(2,2),(3,3),(rid,4)] (ih i a0 L h1 h2 h3 h4) hp (.s (.cons (.same _ (rL A)) (.cons (.same _ (sX A)) (.s (.cons (.same _ (FA A)) (.cons (.ptr 2 2 0 0 rfl) (.cons (.ptr 3 3 0 0 rfl) (.cons (.ptr 0 0 0 0 rfl) (.cons (.ptr 1 1 0 0 rfl) .nil)))))))))
  (gD (rid:=rid) rfl rfl rfl rfl l0 rfl rfl rfl rfl rfl rfl hm rfl trivial) hc0 ?_ ?_
 .rintro r m k ⟨e1,rfl,X,hX,hXs,rfl,rfl⟩;refine⟨[(0,0),(1,1),(2,2),(3,3),(5,nx)],_,xH A p s (a0+(a8 A p f i a0).used) (L++X) nx [],nx+1,.same _ (bZ _),gD (rid:=5) rfl rfl rfl rfl rfl rfl rfl rfl rfl rfl rfl rfl rfl trivial,hc _ _, ?_⟩;rw[show g8 [(0,0),(1,1),(2,2),(3,3),(rid,4)]=[0,1,2,3,rid] from rfl,hd];exact hk e1 X hX hXs
 .rintro x m k ⟨e1,a,L',rfl,rfl⟩;refine⟨[(0,0),(1,1),(2,2),(3,3),(5,nx)],xH A p s a L' nx [],nx+1,gD (rid:=5) rfl rfl rfl rfl rfl rfl rfl rfl rfl rfl rfl rfl rfl trivial,hc _ _, ?_⟩;rw[show g8 [(0,0),(1,1),(2,2),(3,3),(rid,4)]=[0,1,2,3,rid] from rfl,hd];exact hkp x e1 a L'
theorem So{A:List Nd}{p:List Int}{s:Bool}{f:Nat}(ih:Ww A p s f){i a0:Nat}{L:List Sp}(h1:i<f)(h2:i<A.length)(h3:a0<=p.length)(h4:L.length+(a8 A p f i a0).spans.length<=4294967296){mem m1 rest:aR}{nx:Nat}{K:AV->aR->Nat->Prop}{Kp:Value->aR->Nat->Prop}
  (rid:Nat) (hp:mH [0,1,2,3,rid] mem=m1) (hM:cZ m1 [(0,0),(1,1),(2,2),(3,3),(rid,4)] (xH A p s a0 L 4 [])) (hd:gQ [0,1,2,3,rid] mem=rest)
  (hc0:(kZ (xH A p s a0 L 4 []) && (lU [(0,0),(1,1),(2,2),(3,3),(rid,4)] && qZ 5 [(0,0),(1,1),(2,2),(3,3),(rid,4)]))=true)
  (hc:∀(a:Nat) (L':List Sp),(kZ (xH A p s a L' nx []) && (lU [(0,0),(1,1),(2,2),(3,3),(5,nx)] && (Nat.ble nx (nx+1) && (lY [0,1,2,3,rid] nx (xH A p s a L' nx []) && rU [(0,0),(1,1),(2,2),(3,3),(rid,4)] 5 nx (nx+1) [(0,0),(1,1),(2,2),(3,3),(5,nx)]))))=true)
  (hk:(a8 A p f i a0).stop = -1->∀X:List Sp,X.length<=(a8 A p f i a0).spans.length->(s=true->X=(a8 A p f i a0).spans)->K (cC (a8 A p f i a0).val) (xH A p s (a0+(a8 A p f i a0).used) (L++X) nx []++rest) (nx+1))
  (hkp:∀x,EQ (a8 A p f i a0) x->∀(a:Nat) (L':List Sp),Kp x (xH A p s a L' nx []++rest) (nx+1)) :
  cD prog [] 134 [.int .i64 i,.ip (.agg [.il 12 (bG A)]),.ip (wk A),.ip (.bool s),.ip (.il 1 (kB (dJ A))),.ptr 2 0 0,.ptr 3 0 0,.ptr 0 0 0,.ptr 1 0 0] mem nx K Kp:=by
 refine cD.useN bI [(0,0),(1,1),(2,2),(3,3),(rid,4)] (ih i a0 L h1 h2 h3 h4) hp (.s (.cons (.same _ (rL A)) (.cons (.same _ (sX A)) (.s (.cons (.same _ (FA A)) (.cons (.ptr 2 2 0 0 rfl) (.cons (.ptr 3 3 0 0 rfl) (.cons (.ptr 0 0 0 0 rfl) (.cons (.ptr 1 1 0 0 rfl) .nil)))))))))
  hM hc0 ?_ ?_
 .rintro r m k ⟨e1,rfl,X,hX,hXs,rfl,rfl⟩;refine⟨[(0,0),(1,1),(2,2),(3,3),(5,nx)],_,xH A p s (a0+(a8 A p f i a0).used) (L++X) nx [],nx+1,.same _ (bZ _),gD (rid:=5) rfl rfl rfl rfl rfl rfl rfl rfl rfl rfl rfl rfl rfl trivial,hc _ _, ?_⟩;rw[show g8 [(0,0),(1,1),(2,2),(3,3),(rid,4)]=[0,1,2,3,rid] from rfl,hd];exact hk e1 X hX hXs
 .rintro x m k ⟨e1,a,L',rfl,rfl⟩;refine⟨[(0,0),(1,1),(2,2),(3,3),(5,nx)],xH A p s a L' nx [],nx+1,gD (rid:=5) rfl rfl rfl rfl rfl rfl rfl rfl rfl rfl rfl rfl rfl trivial,hc _ _, ?_⟩;rw[show g8 [(0,0),(1,1),(2,2),(3,3),(rid,4)]=[0,1,2,3,rid] from rfl,hd];exact hkp x e1 a L'
theorem KQ{A:List Nd}(hv:eX A=0){i:Nat}{x:Nd}(hx:A[i]? = some x)(h:x.kind=0\/x.kind=1):x.kids=[]:=by
 refine ZH ?_;have hv0:cP [] A=0:=by
  unfold eX at hv;split at hv
  .omega
  .exact hv
 have hf:=i9 (pU A hv0 i x hx);unfold dS kC at hf;simp only[Y6,aAb,Zc] at hf;have:=hf.1.1.1.1.1.1.2;omega
theorem PZ{mem:aR}{id i sz sz':Nat}{t:TypeId}{xs:List AV}{x:AV}(h:lk mem id=some (.row t sz' xs))(hx:xs[i]? = some x)(hc:Nat.beq x.cells.length sz=false):xS mem id i 0 sz=false:=by
 unfold xS;simp only[h,hx,hc]
theorem wK{A:List Nd}{p:List Int}{s:Bool}{r0:x9}{x:Value}{mem:aR}{n:Nat}{a:Nat}{av:Int}{L:List Sp}{len rid:Nat}{xs:List AV}(hw:EQ r0 x)
  (m0:lk mem 0=some (.row 3 1 [.int .i64 av])) (ha:av=(a:Int)) (m1:lk mem 1=some (.row 112 7 [Vq rid len])) (hl:len=L.length) (m2:lk mem 2=some (.row 101 1 [TG A p])) (m3:lk mem 3=some (.row 60 1 [Gl A s]))
  (mr:lk mem rid=some (.row 218 3 xs)) (hx:xs=eI L) (l:(lU [(0,0),(1,1),(2,2),(3,3),(rid,5)] && (kZ (xH A p s a L 5 []) && (AX 5 6 [(0,0),(1,1),(2,2),(3,3),(rid,5)] && Nat.ble 5 6)))=true) (l0:lk [(0,0),(1,1),(2,2),(3,3),(rid,5)] rid=some 5) :
  oC 5 (λ_ m n=>YZ A p s r0 x m n) .junk mem n:=
 bL (r':=.junk) (n':=6) (m':=xH A p s a L 5 []) [(0,0),(1,1),(2,2),(3,3),(rid,5)] l (gD (rid:=rid) rfl rfl rfl rfl l0 m0 ha m1 hl m2 m3 mr hx trivial) (.junk _) ⟨hw,a,L,rfl,rfl⟩
theorem Qg{A:List Nd}(h:VT A){p:List Int}(hp:p.length<=1000000000)(s:Bool)(f:Nat)(ih:Ww A p s f):Ww A p s (f+1):=by
 intro i a0 L hif hi ha hC;have hx:=cS hi;have hg:=h.node hx;have hkm:=λ(k:Int) (hk:k∈(aI A i).kids)=>fQ h hx hk
 have hkI:=λ(c:Int) (h0:0<=c) (h1:c<(aI A i).kids.length)=>h.kidI hx h0 h1
 have hbi:=λh4=>h.bind hx h4
 have hf0:=λh0=>C4 h p (f+1) i a0 hif hi h0
 have hCh:=JC hi;have hFi:=Va hi;have hne:=pJ hi;have hch:=λ(mem rest:aR) (nx:Nat) (K:AV->aR->Nat->Prop) (Kp:Value->aR->Nat->Prop)=>T8 h hp (s:=s) hi ha (mem:=mem) (rest:=rest) (nx:=nx) (K:=K) (Kp:=Kp)
 have hln:=h.len hx;have hpl:=h.pln hx;have hnn:=bP (aI A i);have hkl:=h.tin.klen _ (Y5 hx);have hfv:=λ(v:bH)=>T1 (aI A i) v (by have:=h.tin.vlen _ (Y5 hx);omega) hg.val hg.srt
 have hmd:=λ(ks:List bH)=>LG (aI A i) ks
 have hmem:=λ(k a:Nat) (hk:k<i)=>mA h p f k a om om
 have hbd:∀(k q:Nat),q<=p.length->q+(a8 A p f k q).used<=p.length:=λk q hq=>(wR (A:=A) p f k q hq).1
 have hkind:=hg.node.kind;have hnum:=λ(e:(aI A i).kind=1)=>cE hg.node.num
 have hsrt:=hg.srt;have hl0:=(h.lens0 (i:Int)).1;have hk0:(aI A i).kind=0->(aI A i).kids=[]:=λe=>KQ h.val hx (.inl e)
 have hon:fK (aI A i)=if (aI A i).kind=1 then(aI A i).hi-(aI A i).lo+1 else(aI A i).kids.length:=rfl
 have hpe:(kB (dJ A))[((i:Nat):Int).toNat]? = some (.bool (N0 (dJ A) i)):=by
  have hl:i<(dJ A).length:=by rw[jU];exact hi
  rw[Y1,wD,Yz hl];unfold N0;rw[Y0,Yz hl];rfl
 have hwc:∀x,Qk A p i a0 x->((p.length<=a0/\x=xM i 0)\/(a0<p.length/\(p.getD a0 0<0\/fK (aI A i)<=p.getD a0 0)/\x=xM (-1) 11)):=λx hx=>hx
 obtain⟨F,hF⟩:∃F,F=a8 A p (f+1) i a0:=⟨_,rfl⟩
 rw[<-hF] at hC hf0 |-;simp only[a8] at hF;have hp0:N0 (dJ A) i=Ac (bD A) (dJ A) (aI A i):=hpl;have hpN:Ac (bD A) (dJ A) (aI A i)=(decide (Go.Ax.f8 (bD A) (aI A i)<=0) && (decide ((aI A i).kind≠3) || decide ((aI A i).kids.length=0)) && (aI A i).kids.all λk=>(dJ A).getD k.toNat false):=rfl;rw[hpN,<-hln] at hp0;have hlk0:(aI A i).kind=0->eP (bD A) i=0:=λe=>by rw[hln];unfold Go.Ax.f8;rw[Y7 e]
 generalize N0 (dJ A) i=pb at *;generalize eP (bD A) i=ln at *;generalize fK (aI A i)=o at *;clear hln hpl hpN hg hx;generalize aI A i=x at *;obtain⟨kind,name,lo,hi',ws,lbs,vals,kids,⟨vk,vn,vs,vks⟩⟩:=x;simp only at hkm hkI hbi hkl hF hfv hmd hkind hnum hsrt hk0 hon hp0 hlk0;refine EA bI func134 rfl ?_;refine Rq ?_;repeat((first|refine aC hne ?_|refine cY.2 ?_|refine bK ?_);refine Rq ?_)
 refine hCh.goP ?_ (.cons (iP A) (.cons nn .nil)) nn;refine Rq ?_;by_cases hl:ln=0
 rotate_left
 rw[show (ln == 0)=false by simpa using hl];refine Rq ?_;have k0:kind≠0:=λe=>hl (hlk0 e)
 rotate_left
 subst hl;have hf0:=hf0 rfl;refine Rq ?_;refine aL (λhs=>?_) (λhs=>?_)
 .have hs':=hs;generalize EU (dC A) i=v at *;have hvn:=bZ v;obtain⟨v1,v2,v3,v4⟩:=v;obtain⟨e1,e2,e3,e4⟩:=hf0;rw[hs'];refine Rq ?_;refine hFi.goP ?_ (.cons (iP A) (.cons nn .nil)) hvn;refine Rq ?_;exact bL (n':=6) (m':=xH A p s (a0+F.used) (L++[]) 5 []) [(0,0),(1,1),(2,2),(3,3),(4,5)] rfl (gD (rid:=4) rfl rfl rfl rfl rfl rfl (by rw[e2];rfl) rfl sq rfl rfl rfl sq trivial) (.same _ hvn) ⟨e3,by rw[e1];rfl,[],aAA _,(λe=>by simp[e] at hs),rfl,rfl⟩
 have hs':=hs;have hs:s=true:=su hs
 have hpe2:=hpe;cases pb
 rotate_left
 .generalize EU (dC A) i=v at *;have hvn:=bZ v;obtain⟨v1,v2,v3,v4⟩:=v;obtain⟨e1,e2,e3,e4⟩:=hf0;rw[hs'];refine Rq ?_;repeat((first|refine aC hpe ?_|refine cY.2 ?_|refine bK ?_);refine Rq ?_)
  refine hFi.goP ?_ (.cons (iP A) (.cons nn .nil)) hvn;refine Rq ?_;exact bL (n':=6) (m':=xH A p s (a0+F.used) (L++[]) 5 []) [(0,0),(1,1),(2,2),(3,3),(4,5)] rfl (gD (rid:=4) rfl rfl rfl rfl rfl rfl (by rw[e2];rfl) rfl sq rfl rfl rfl sq trivial) (.same _ hvn) ⟨e3,by rw[e1];rfl,[],aAA _,(λ_=>(e4 rfl).symm),rfl,rfl⟩
 rotate_left
 have k0:kind≠0:=λe=>by
  rw[hk0 e,e] at hp0;simp at hp0
 rw[hs'];refine Rq ?_;repeat((first|refine aC hpe ?_|refine cY.2 ?_|refine bK ?_);refine Rq ?_)
 all_goals
  by_cases k1:kind=1
  .subst k1;rw[Y3 k0,Y3 om,Y3 om] at hF;rw[Y7 rfl] at hon;have hn:=hnum rfl;refine Rq ?_;repeat((first|refine cY.2 ?_|refine bK ?_);refine Rq ?_)
   refine hch _ _ _ _ _ rfl rfl (λc1 c2 c3=>?_) (λx hx=>?_) rfl
   .have hw:IntKind.i64.wrap (lo+p.getD a0 0)=lo+p.getD a0 0:=bF ⟨by have:=hn.1;omega,om⟩;rw[Y3 om,Y3 om,Y7 rfl] at hF;generalize p.getD a0 0=c at *;refine Rq ?_;repeat((first|refine cY.2 ?_|refine bK ?_);refine Rq ?_)
    rw[hw];have hus:F.used=1:=by rw[hF]
    exact bL (n':=6) (m':=xH A p s (a0+F.used) (L++[]) 5 []) [(0,0),(1,1),(2,2),(3,3),(4,5)] rfl (gD (rid:=4) rfl rfl rfl rfl rfl rfl (by rw[hus]) rfl sq rfl rfl rfl sq trivial) (.agg' (.s (.s (.s (.cons (.nil 4) .nil))))) ⟨by rw[hF],by rw[hF];rfl,[],aAA _,λ_=>by rw[hF],rfl,rfl⟩
   .have hws:EQ F x:=by
     rcases hwc x hx with⟨q1,q2⟩|⟨q1,q2,q3⟩
     .rw[Y7 q1] at hF;exact .inl ⟨i,by rw[hF],q2⟩
     .rw[Y3 om,Y7 q2] at hF;exact .inr ⟨by rw[hF],q3⟩
    refine Rq ?_;exact wK (rid:=4) hws rfl rfl rfl rfl rfl rfl rfl rfl rfl rfl
  .rw[Y3 k1] at hon;rw[show (kind == 1)=false by simpa using k1];refine Rq ?_;by_cases k2:kind=2
   .subst k2;rw[Y3 k0,Y3 om,Y3 om] at hF;refine Rq ?_;repeat((first|refine cY.2 ?_|refine bK ?_);refine Rq ?_)
    refine hch _ _ _ _ _ rfl rfl (λc1 c2 c3=>?_) (λx hx=>?_) rfl
    .rw[Y3 om,Y3 om,Y3 k1] at hF;obtain⟨d1,d2,d3⟩:=hkI (p.getD a0 0) c2 om;generalize p.getD a0 0=c at *;generalize bO ⟨2,name,lo,hi',ws,lbs,vals,kids,.mk vk vn vs vks⟩ c=q1 at *;have e1:(aY kids)[c.toNat]? = some (.int .i64 (q1:Int)):=by rw[bU,d3];rfl
     have hC1:L.length+(a8 A p f q1 (a0+1)).spans.length<=4294967296:=by rw[hF] at hC;exact hC
     refine Rq ?_;repeat((first|refine aC e1 ?_|refine cY.2 ?_|refine bK ?_);refine Rq ?_)
     rw[Y8 (show 0<=c by omega)];refine Rq ?_;repeat((first|refine aC e1 ?_|refine cY.2 ?_|refine bK ?_);refine Rq ?_)
     refine KK ih (L:=L) om om om hC1 4 rfl rfl rfl rfl rfl (λ_ _=>rfl) (λf1 X hX hXs=>?_) (λx hx a L'=>?_)
     .generalize a8 A p f q1 (a0+1)=R1 at *;obtain⟨⟨u1,u2,u3,u4⟩,ru,rst,rsp⟩:=R1;simp only at hF f1 hX hXs |-;refine Rq ?_;repeat((first|refine aC e1 ?_|refine cY.2 ?_|refine bK ?_);refine Rq ?_)
      have hus:F.used=ru+1:=by rw[hF]
      have hss:F.spans=rsp:=by rw[hF]
      exact bL (n':=6) (m':=xH A p s (a0+F.used) (L++X) 5 []) [(0,0),(1,1),(2,2),(3,3),(18,5)] rfl (gD (rid:=18) rfl rfl rfl rfl rfl rfl (by rw[hus];omega) rfl rfl rfl rfl rfl rfl trivial) (.same _ (.agg' (.cons nn (.cons nn (.cons nn (.cons (.il' (aX _)) .nil)))))) ⟨by rw[hF];exact f1,by rw[hF];rfl,X,by rw[hss];exact hX,λe=>by rw[hss];first|exact hXs e|exact hXs trivial,rfl,rfl⟩
     .have hws:EQ F x:=by rw[hF];exact hx
      refine Rq ?_;exact wK (rid:=18) hws rfl rfl rfl rfl rfl rfl rfl rfl rfl rfl
    .have hws:EQ F x:=by
      rcases hwc x hx with⟨q1,q2⟩|⟨q1,q2,q3⟩
      .rw[Y7 q1] at hF;exact .inl ⟨i,by rw[hF],q2⟩
      .rw[Y3 om,Y7 q2] at hF;exact .inr ⟨by rw[hF],q3⟩
     refine Rq ?_;exact wK (rid:=4) hws rfl rfl rfl rfl rfl rfl rfl rfl rfl rfl
   .rw[show (kind == 2)=false by simpa using k2];refine Rq ?_;by_cases k4:kind=4
    .subst k4;rw[Y3 k0,Y3 om,Y7 rfl] at hF;have hb4:=(hbi rfl).1;have hb5:=(hbi rfl).2.1;obtain⟨c1,c2,c3⟩:=hkI 0 om om;generalize hq0:bO ⟨4,name,lo,hi',ws,lbs,vals,kids,.mk vk vn vs vks⟩ 0=q0 at *;have e0:(aY kids)[(0:Int).toNat]? = some (.int .i64 (q0:Int)):=by rw[bU,c3];rfl
     have hme:=λhs=>(hmem q0 a0 c1 hs).2 (hbi rfl).2.2.1
     rw[(hbi rfl).2.2.2] at hme;have hbd0:=hbd q0 a0 ha;have hC0:L.length+(a8 A p f q0 a0).spans.length<=4294967296:=by
      rw[hF] at hC;split at hC
      .simp only[ZB] at hC;omega
      .exact hC
     refine Rq ?_;repeat((first|refine aC e0 ?_|refine cY.2 ?_|refine bK ?_);refine Rq ?_)
     refine KK ih (L:=L) om om ha hC0 4 rfl rfl rfl rfl rfl (λ_ _=>rfl) (λf1 X hX hXs=>?_) (λx hx a L'=>?_)
     .have hme:=hme f1;rw[Y7 f1] at hF;generalize a8 A p f q0 a0=R0 at *;obtain⟨v,u,st,sp⟩:=R0;simp only at hF f1 hX hXs hme hbd0 |-;obtain⟨w,fq,w1,w2⟩:=lP hsrt hme;have hfv1:=hfv v;have hvn:=bZ v;rw[fq] at hF hfv1;simp only at hF hfv1;obtain⟨d1,d2,d3⟩:=hkI ((w+1:Nat):Int) om om;generalize bO ⟨4,name,lo,hi',ws,lbs,vals,kids,.mk vk vn vs vks⟩ ((w+1:Nat):Int)=q1 at *;have e1:(aY kids)[((w+1:Nat):Int).toNat]? = some (.int .i64 (q1:Int)):=by rw[bU,d3];rfl
      have hC1:(L++X).length+(a8 A p f q1 (a0+u)).spans.length<=4294967296:=by
       rw[hF] at hC;simp only[ZB] at hC |-;omega
      obtain⟨v1,v2,v3,v4⟩:=v;refine Rq ?_;repeat((first|refine aC e0 ?_|refine cY.2 ?_|refine bK ?_);refine Rq ?_)
      refine hfv1.goP ?_ (.cons (.ip' hnn) (.cons hvn .nil)) nn;refine Rq ?_;repeat((first|refine aC e0 ?_|refine aC e1 ?_|refine cY.2 ?_|refine bK ?_);refine Rq ?_)
      refine KK ih (L:=L++X) om om hbd0 hC1 25 rfl rfl rfl rfl rfl (λ_ _=>rfl) (λf2 Y hY hYs=>?_) (λx hx a L'=>?_)
      .have hwu:(u:Int)+0=u:=om;generalize a8 A p f q1 (a0+u)=R1 at *;obtain⟨⟨u1,u2,u3,u4⟩,ru,rst,rsp⟩:=R1;simp only at hF f2 hY hYs |-;refine Rq ?_;repeat((first|refine aC e0 ?_|refine aC e1 ?_|refine cY.2 ?_|refine bK ?_);refine Rq ?_)
       have hus:F.used=u+ru:=by rw[hF]
       have hss:F.spans=sp++rsp:=by rw[hF]
       exact bL (n':=6) (m':=xH A p s (a0+F.used) (L++(X++Y)) 5 []) [(0,0),(1,1),(2,2),(3,3),(26,5)] rfl (gD (rid:=26) rfl rfl rfl rfl rfl rfl (by rw[hus];omega) rfl sq rfl rfl rfl sq trivial) (.same _ (.agg' (.cons nn (.cons nn (.cons nn (.cons (.il' (aX _)) .nil)))))) ⟨by rw[hF];exact f2,by rw[hF];rfl,X++Y,by rw[hss,ZB,ZB];omega,λe=>by rw[hss];first|rw[hXs e,hYs e]|rw[hXs trivial,hYs trivial],rfl,rfl⟩
      .have hws:EQ F x:=by rw[hF];exact hx
       refine Rq ?_;exact wK (rid:=26) hws rfl rfl rfl rfl rfl rfl rfl rfl rfl rfl
     .have hws:EQ F x:=by
       rw[Y3 (show ¬(a8 A p f q0 a0).stop = -1 from λe=>by
        rcases hx with⟨n,h1,-⟩|⟨h1,-⟩<;>omega)] at hF
       rw[hF];exact hx
      refine Rq ?_;exact wK (rid:=25) hws rfl rfl rfl rfl rfl rfl rfl rfl rfl rfl
    .have k3:kind=3:=om;subst k3;rw[Y3 k0,Y7 rfl] at hF;rw[show ((3:Int) == 4)=false by decide];have lkk:=aN kids;obtain⟨P,hP⟩:∃P:Nat->Pt,P=λj=>bQ (λk q=>a8 A p f k q) a0 (kids.take j) ⟨0,[],[],-1⟩:=⟨_,rfl⟩
     have hP0:P 0=⟨0,[],[],-1⟩:=by rw[hP];rfl
     have hPe:bQ (λk q=>a8 A p f k q) a0 kids ⟨0,[],[],-1⟩=P kids.length:=by rw[hP];simp
     have hPn:∀j (hj:j<kids.length),(P j).stop = -1->P (j+1)=Ph (λk q=>a8 A p f k q) a0 kids[j] (P j):=λj hj hs=>by
      rw[hP] at hs |-;exact qP hj rfl hs
     have hPs:∀j (hj:j<kids.length),(P j).stop = -1->(P (j+1)).stop≠-1->P kids.length=P (j+1):=λj hj hs hs2=>by
      rw[<-hPe];rw[hP] at hs hs2 |-;exact zQ hj rfl hs hs2
     have hPl:∀j (hj:j<kids.length),(P j).stop = -1->(P j).spans.length+1+(a8 A p f kids[j].toNat (a0+(P j).used)).spans.length<=F.spans.length:=λj hj hs=>by
      rw[hF];simp only[GR];rw[hP] at hs |-;exact EF (rd:=λk q=>a8 A p f k q) hj rfl hs
     rw[hPe] at hF;have hFst:F.stop=(P kids.length).stop:=by rw[hF];rfl
     have hFus:F.used=(P kids.length).used:=by rw[hF];rfl
     have hFss:F.spans=(P kids.length).spans:=by rw[hF];rfl
     have hFv:(P kids.length).stop = -1->F.val=dW name (P kids.length).vals:=λe=>by rw[hF];simp only[GR];rw[Y7 e]
     clear hPe hP hF hbi hfv hmem hnum;refine Rq ?_;refine bJ.ph 50 4 ?_;refine bJ.at bI (λz:Nat × List Sp=>z.1<=kids.length/\(P z.1).stop = -1/\a0+(P z.1).used<=p.length/\(P z.1).vals.length=z.1/\z.2.length<=(P z.1).spans.length/\(s=true->z.2=(P z.1).spans))
      (λz=>⟨[(6,.ptr 3 0 0),(7,.ptr 0 0 0),(8,.ptr 1 0 0),(10,.ptr 6 0 0),(11,.ip (dM ⟨3,name,lo,hi',ws,lbs,vals,kids,.mk vk vn vs vks⟩)),(12,.int .i64 a0),(13,.sl 7 0 (P z.1).vals.length),(90,.il 1 (aY kids)),(91,.int .i64 kids.length),(92,.int .i64 z.1)],
       xH A p s (a0+(P z.1).used) (L++z.2) 5 [(6,.row 50 4 [cC vZ]),(7,.row 50 4 (aQ (P z.1).vals))],8,124⟩)
      (λz=>kids.length-z.1) (0,[]) [(0,0),(1,1),(2,2),(3,3),(4,5),(5,6),(6,7)] ⟨by simp only;omega,by rw[hP0],by rw[hP0];simp only;omega,by rw[hP0];rfl,sq,by rw[hP0];intro _;rfl⟩
      (aH _ rfl (gD (rid:=4) rfl rfl rfl rfl rfl rfl (by rw[hP0];simp) rfl sq rfl rfl rfl sq ⟨⟨5,_,rfl,rfl,.cons (x7 0 0 []) .nil⟩,⟨6,_,rfl,rfl,by rw[hP0];exact .nil⟩,trivial⟩)
       ⟨aM,aM,aM,aM,aP (.ip' hnn),aG,⟨_,rfl,by rw[hP0];exact .nslk 6 7 _ rfl rfl⟩,aP (.il' (aW _)),⟨_,rfl,.int (by rw[lkk])⟩,aG,trivial⟩) ?_
     rintro⟨j,Y⟩ ⟨hj,hst,hus,hvl,hYl,hYs⟩;simp only at hj hst hus hvl hYl hYs |-;have dj:decide ((j:Int)<(kids.length:Int))=decide (j<kids.length):=Zg.2 om;have ls:=gM (L++Y);have lv:=aB (P j).vals;by_cases hjl:j<kids.length
     .have hnx:=hPn j hjl hst;have hend:=hPs j hjl hst;have hln:=hPl j hjl hst;have ek:=nQ hjl;obtain⟨m0,m1⟩:=hkm kids[j] (Za hjl);generalize kids[j]=kz at *;obtain⟨k,rfl⟩:=ZU m0;simp only[Y1] at m1 hnx hln;unfold Ph at hnx;simp only[Y1] at hnx;have hb:=hbd k (a0+(P j).used) hus;generalize hpj:P j=pj at *;obtain⟨us,vls,sps,st⟩:=pj;simp only at hst hus hvl hnx hln hb ls lv hYl hYs |-;subst hst;have hC1:(L++Y++[(a0,a0+us,a0+us)]).length+(a8 A p f k (a0+us)).spans.length<=4294967296:=by
       simp only[ZB,ZY];omega
      refine Rq ?_;rw[dj,Y8 hjl];refine Rq ?_;repeat((first|refine aC ek ?_|refine cY.2 ?_|refine bK ?_);refine Rq ?_)
      refine aK (b8 rfl rfl (by rw[ls]) (by simp;omega)) ?_;refine Rq ?_;have hse:eI (L++Y)++List.take 1 (List.drop 0 [AV.agg [.int .i64 (a0:Int),.int .i64 ((a0+us:Nat):Int),.int .i64 ((a0+us:Nat):Int)]])=eI (L++Y++[(a0,a0+us,a0+us)]):=by rw[m9 (L++Y)];rfl
      refine So ih (L:=L++Y++[(a0,a0+us,a0+us)]) om om hus hC1 9 rfl (gD (rid:=9) rfl rfl rfl rfl rfl rfl rfl rfl (by simp;omega) rfl rfl rfl hse trivial) rfl rfl (λ_ _=>rfl) (λf1 X hX hXs=>?_) (λx hx a L'=>?_)
      .generalize a8 A p f k (a0+us)=R1 at *;obtain⟨⟨v1,v2,v3,v4⟩,ru,rst,rsp⟩:=R1;simp only at hnx f1 hX hXs hln hb |-;subst f1;refine Rq ?_;refine aK (b8 rfl rfl (by rw[lv]) (by simp;omega)) ?_;refine Rq ?_;have gpl:Nat.blt (((L++Y).length:Nat):Int).toNat (L++Y++[(a0,a0+us,a0+us)]++X).length=true:=Y2 (by simp only[ZB,ZY,Y1];omega);have epl:(eI (L++Y++[(a0,a0+us,a0+us)]++X))[0+(((L++Y).length:Nat):Int).toNat]? = some (.agg [.int .i64 (a0:Int),.int .i64 ((a0+us:Nat):Int),.int .i64 ((a0+us:Nat):Int)]):=by
        rw[ZP,Y1,Ns,ZR sq,ZS (ZA _),aAo];rfl
       have hset:(eI (L++Y++[(a0,a0+us,a0+us)]++X)).set (0+(((L++Y).length:Nat):Int).toNat) (.agg [.int .i64 (a0:Int),.int .i64 ((a0+us:Nat):Int),.int .i64 ((a0+us+ru:Nat):Int)])=eI (L++(Y++(a0,a0+us,a0+us+ru)::X)):=by
        rw[ZP,Y1,m9,m9 (L++Y),List.append_assoc,Z2 _ _ (by rw[ls];exact ZA _),ls,aAo,<-List.append_assoc L,m9 (L++Y)];rfl
       repeat((first|refine aK gpl ?_|refine aC epl ?_|refine cY.2 ?_|refine bK ?_);refine Rq ?_)
       generalize hae:xS _ _ _ _ _=b;have hbf:b=false:=by rw[<-hae];exact PZ rfl epl rfl
       subst hbf;clear hae;refine Rq ?_;repeat((first|refine aK gpl ?_|refine aC epl ?_|refine cY.2 ?_|refine bK ?_);refine Rq ?_)
       have q1:(P (j+1)).used=us+ru:=by rw[hnx]
       have q2:(P (j+1)).spans=sps++(a0,a0+us,a0+us+ru)::rsp:=by rw[hnx]
       have q3:(P (j+1)).vals=vls++[.mk v1 v2 v3 v4]:=by rw[hnx]
       have q4:(P (j+1)).stop = -1:=by rw[hnx]
       exact .mk (j+1,Y++(a0,a0+us,a0+us+ru)::X) [(0,0),(1,1),(2,2),(3,3),(10,5),(6,6),(12,7)] ⟨by simp only;omega,q4,by simp only;rw[q1];omega,by simp only;rw[q3,ZB,ZY];omega,by simp only;rw[q2];simp only[ZB,ZZ];omega,λe=>by simp only;rw[q2];first|rw[hYs e,hXs e]|rw[hYs trivial,hXs trivial]⟩
        (aH _ rfl (gD (rid:=10) rfl rfl rfl rfl rfl rfl (by simp only;rw[q1];omega) rfl sq rfl rfl rfl hset ⟨aF 6 (.cons (bZ _) .nil),⟨12,_,rfl,rfl,.eq (aX _) (by simp only;rw[q3,gW];rfl)⟩,trivial⟩)
         ⟨aM,aM,aM,aM,aP (.ip' hnn),aG,⟨_,rfl,.slE rfl (by simp only;rw[q3];simp)⟩,aP (.il' (aW _)),aG,⟨_,rfl,.wp⟩,trivial⟩) (by simp only;omega)
      .have hws:EQ F x:=by
        have e:(P (j+1)).stop=(a8 A p f k (a0+us)).stop:=by rw[hnx]
        have hne:(P (j+1)).stop≠-1:=by
         rw[e];rcases hx with⟨n,h1,-⟩|⟨h1,-⟩<;>omega
        unfold EQ;rw[hFst,hend hne,e];exact hx
       refine Rq ?_;exact wK (rid:=10) hws rfl rfl rfl rfl rfl rfl rfl rfl rfl rfl
     .have hje:j=kids.length:=om;subst hje;have hFv:=hFv hst;have hm0:=hmd (P kids.length).vals;rw[<-hFv] at hm0;have hvn:=bZ F.val;have hFe:YV A p s F a0 L=λr m k=>r=cC F.val/\∃X:List Sp,X.length<=(P kids.length).spans.length/\(s=true->X=(P kids.length).spans)/\m=xH A p s (a0+(P kids.length).used) (L++X) 5 []/\k=6:=by
       unfold YV;rw[hFst,hFus,hFss,hst]
       funext r m k
       simp
      rw[hFe];clear hFe hFv;generalize F.val=v at *;generalize P kids.length=pj at *;obtain⟨us,vls,sps,st⟩:=pj;simp only at hst hus hvl hYl hYs lv hm0 |-;obtain⟨v1,v2,v3,v4⟩:=v;refine Rq ?_;rw[dj,ZG hjl];refine Rq ?_;refine aJ.toP ?_;refine aJ.pre bI [(0,0),(1,1),(2,2),(3,3),(5,5),(6,6)] (mem':=xH A p s (a0+us) (L++Y) 5 [(6,.row 50 4 [cC vZ])]) rfl (gD (rid:=5) rfl rfl rfl rfl rfl rfl rfl rfl rfl rfl rfl rfl rfl ⟨aF 6 (.cons (bZ _) .nil),trivial⟩)
       (.cons (.same _ (.ip' hnn)) (.cons (.fz' (id:=7) (off:=0) (len:=vls.length) (xs:=aQ vls) (ys:=aQ vls) rfl rfl om (by rw[ZT,ZD om]) (aX _)) .nil)) ?_
      refine hm0.go ?_ (.cons (.ip' hnn) (.cons (.il' (aX _)) .nil)) hvn;refine Rq ?_;exact bL (n':=6) (m':=xH A p s (a0+us) (L++Y) 5 []) [(0,0),(1,1),(2,2),(3,3),(5,5)] rfl (gD (rid:=5) rfl rfl rfl rfl rfl rfl rfl rfl rfl rfl rfl rfl rfl trivial) (.same _ hvn) ⟨rfl,Y,hYl,hYs,rfl,rfl⟩
theorem SV{A:List Nd}(h:VT A)(raw:List Int)(hr:raw.length<=17592186043904)(f:Nat)(ih:TA A raw f):TA A raw (f+1):=by
 intro i q want hif hi hC;have hx:=cS hi;have hg:=h.node hx;have hkm:=λ(k:Int) (hk:k∈(aI A i).kids)=>fQ h hx hk
 have hkI:=λ(c:Int) (h0:0<=c) (h1:c<(aI A i).kids.length)=>h.kidI hx h0 h1
 have hbi:=λh4=>h.bind hx h4
 have hf0:=λh0=>RH h raw (f:=f+1) (i:=i) (q:=q.length) hif hi h0
 have hle:=K8 hi;have hfe:=LA hi;have hne:=pJ hi;have hch:=λhk (mem:aR) (nx:Nat) (K:AV->aR->Nat->Prop)=>Od h raw q hi hk om hr (mem:=mem) (nx:=nx) (K:=K)
 have hopt:=λhk=>h.opt hx hk
 have hl0:=(h.lens0 (i:Int)).1;have hl1:=λh0=>h.len0 hx h0
 have hln:=h.len hx;have hnn:=bP (aI A i);have hkl:=h.tin.klen _ (Y5 hx);have hfv:=λ(v:bH)=>T1 (aI A i) v (by have:=h.tin.vlen _ (Y5 hx);omega) hg.val hg.srt
 have hmd:=λ(ks:List bH)=>LG (aI A i) ks
 have hfok:=λ(k:Nat) (q:Nat) (hk:k<i)=>Kk h raw (f:=f) (i:=k) (q:=q) om om
 have hcb:=λhk=>BA (raw:=raw) (q:=q.length) (h.opt hx hk)
 have hkind:=hg.node.kind;have hnum:=λ(e:(aI A i).kind=1)=>cE hg.node.num
 have hsrt:=hg.srt;refine aD bI func69 rfl ?_;refine Z ?_;refine aC hle ?_;refine Z ?_;refine aL (λhb=>?_) (λhb=>?_)
 .have h0:eP (bD A) i=0:=su hb
  obtain⟨e1,e2⟩:=hf0 h0;have e3:P9 A raw q (f+1) i want=λr m k=>∃v,r=cC v/\(want=true->v=EU (dC A) i)/\m=kX q 2 []/\k=3:=by
   unfold P9;rw[e1,e2,aAi]
  rw[e3];have hvn:=bZ (EU (dC A) i);generalize EU (dC A) i=v at *;obtain⟨v1,v2,v3,v4⟩:=v;refine Z ?_;refine aC hfe ?_;refine Z ?_;exact bL (n':=3) (m':=kX q 2 []) [(0,0),(1,2)] rfl (eR (rid:=1) rfl rfl rfl rfl rfl rfl trivial) (.same _ hvn) ⟨_,rfl,λ_=>rfl,rfl,rfl⟩
 .have h0:¬eP (bD A) i=0:=su hb
  rw[hln] at h0;unfold P9;obtain⟨F,hF⟩:∃F,F=dV A raw (f+1) i q.length:=⟨_,rfl⟩
  rw[<-hF] at hC |-;simp only[dV] at hF;clear hf0 hfe hle hl1 hg hx;have hk0:(aI A i).kind≠0:=λe=>h0 (by unfold Go.Ax.f8;rw[Y7 e])
  rw[Y3 hk0] at hF;clear h0 hln;generalize aI A i=x at *;obtain⟨kind,name,lo,hi',ws,lbs,vals,kids,⟨vk,vn,vs,vks⟩⟩:=x;simp only at hkm hkI hbi hkl hF hfv hmd hkind hnum hsrt hk0 hch hcb;refine Z ?_;refine aC hne ?_;refine Z ?_;by_cases k1:kind=1
  .subst k1;simp only[fK] at hcb;rw[Y3 om,Y3 om,Y7 rfl] at hF;have hb1:=hcb sq;have hnm:=hnum rfl;simp only[if_true] at hb1;refine Rt ?_;refine hch (.inl rfl) _ _ _ 1 rfl rfl rfl rfl rfl (λ_=>rfl) ?_;generalize dH raw ⟨1,name,lo,hi',ws,lbs,vals,kids,.mk vk vn vs vks⟩ q.length=c at *;have hw:IntKind.i64.wrap (lo+c)=lo+c:=bF oq;rw[hF];refine Rt ?_;exact bL (n':=3) (m':=kX (q++[c]) 2 []) [(0,0),(13,2)] rfl (eR (rid:=13) rfl rfl rfl rfl rfl rfl trivial) (.agg' (.s (.cons (.int hw) (.s (.cons (.nil 4) .nil))))) ⟨.mk 0 (lo+c) [] [],rfl,λ_=>rfl,rfl,rfl⟩
  .rw[show (kind == 1)=false by simpa using k1];refine Z ?_;by_cases k2:kind=2
   .subst k2;rw[Y3 om,Y3 om,Y3 om] at hF;have hb1:=hcb sq;simp only[fK] at hb1;rw[Y3 om] at hb1;refine Rt ?_;refine hch (.inr rfl) _ _ _ 1 rfl rfl rfl rfl rfl (λ_=>rfl) ?_;generalize dH raw ⟨2,name,lo,hi',ws,lbs,vals,kids,.mk vk vn vs vks⟩ q.length=c at *;obtain⟨d1,d2,d3⟩:=hkI c hb1.1 hb1.2;generalize bO ⟨2,name,lo,hi',ws,lbs,vals,kids,.mk vk vn vs vks⟩ c=k at *;have ek:(aY kids)[c.toNat]? = some (.int .i64 (k:Int)):=by rw[bU,d3];rfl
    have hql:(q++[c]).length=q.length+1:=sq
    refine Rt ?_;repeat(refine aC ek ?_;refine Rt ?_)
    rw[Y8 hb1.1];refine Rt ?_;repeat(refine aC ek ?_;refine Rt ?_)
    rw[<-hql] at hF;have hC1:(q++[c]).length+(dV A raw f k (q++[c]).length).cs.length<=4096:=by
     rw[hF] at hC;simp only[ZZ] at hC;omega
    refine Ay ih (q:=q++[c]) om om hC1 17 rfl rfl rfl rfl rfl (λ_=>rfl) (λv hv=>?_);have hvn:=bZ v;rw[hF];simp only;generalize dV A raw f k (q++[c]).length=ag at *;obtain⟨v1,v2,v3,v4⟩:=v;refine Rt ?_;repeat(refine aC ek ?_;refine Rt ?_)
    exact bL (n':=3) (m':=kX (q++c::ag.cs) 2 []) [(0,0),(18,2)] rfl (eR (rid:=18) rfl rfl rfl sq rfl sq trivial) (.same _ hvn) ⟨_,rfl,hv,rfl,rfl⟩
   .have k3or:kind=3\/kind=4:=om;rw[show (kind == 2)=false by simpa using k2];refine Z ?_;by_cases k4:kind=4
    .subst k4;rw[Y3 om,Y7 rfl] at hF;obtain⟨b1,b2,b3,b4⟩:=hbi rfl;obtain⟨c1,c2,c3⟩:=hkI 0 om om;have hok1:=(hfok _ q.length c1).2 b3;rw[b4] at hok1;obtain⟨w,fq,w1,w2⟩:=lP hsrt hok1;have hfv1:=hfv (dV A raw f (bO ⟨4,name,lo,hi',ws,lbs,vals,kids,.mk vk vn vs vks⟩ 0) q.length).val;rw[fq] at hF hfv1;simp only at hF hfv1;obtain⟨d1,d2,d3⟩:=hkI ((w+1:Nat):Int) om om;have hC1:q.length+(dV A raw f (bO ⟨4,name,lo,hi',ws,lbs,vals,kids,.mk vk vn vs vks⟩ 0) q.length).cs.length<=4096:=by
      rw[hF] at hC;simp only[ZB] at hC;omega
     generalize hk0':bO ⟨4,name,lo,hi',ws,lbs,vals,kids,.mk vk vn vs vks⟩ 0=k0 at *;generalize bO ⟨4,name,lo,hi',ws,lbs,vals,kids,.mk vk vn vs vks⟩ ((w+1:Nat):Int)=k1 at *;have e0:(aY kids)[(0:Int).toNat]? = some (.int .i64 (k0:Int)):=by rw[bU,c3];rfl
     have e1:(aY kids)[((w+1:Nat):Int).toNat]? = some (.int .i64 (k1:Int)):=by rw[bU,d3];rfl
     refine Rt ?_;repeat(refine aC e0 ?_;refine Rt ?_)
     refine Ay ih om om hC1 1 rfl rfl rfl rfl rfl (λ_=>rfl) (λv hv=>?_);have hv:=hv rfl;subst hv;have hvn:=bZ (dV A raw f k0 q.length).val;have hC2:(q++(dV A raw f k0 q.length).cs).length+(dV A raw f k1 (q++(dV A raw f k0 q.length).cs).length).cs.length<=4096:=by
      rw[hF] at hC;simp only[ZB] at hC |-;omega
     have hql:(q++(dV A raw f k0 q.length).cs).length=q.length+(dV A raw f k0 q.length).cs.length:=sq
     rw[<-hql] at hF;generalize dV A raw f k0 q.length=ag at *;obtain⟨gcs,⟨v1,v2,v3,v4⟩⟩:=ag;simp only at hF hC2 hfv1 hvn hql;refine Rt ?_;repeat(refine aC e0 ?_;refine Rt ?_)
     refine hfv1.go ?_ (.cons (.ip' hnn) (.cons hvn .nil)) nn;refine Rt ?_;repeat(refine aC e1 ?_;refine Rt ?_)
     refine Ay ih (q:=q++gcs) om om hC2 3 rfl rfl rfl rfl rfl (λ_=>rfl) (λv hv=>?_);have hvn2:=bZ v;rw[hF];simp only;generalize dV A raw f k1 (q++gcs).length=ag at *;obtain⟨u1,u2,u3,u4⟩:=v;refine Rt ?_;repeat(refine aC e0 ?_;refine Rt ?_)
     exact bL (n':=3) (m':=kX (q++(gcs++ag.cs)) 2 []) [(0,0),(19,2)] rfl (eR (rid:=19) rfl rfl rfl sq rfl sq trivial) (.same _ hvn2) ⟨_,rfl,hv,rfl,rfl⟩
    .have k3:kind=3:=om;subst k3;rw[Y7 rfl] at hF;rw[show ((3:Int) == 4)=false by decide];have lk:=aN kids;have hF1:F.cs=(Go.Ax.d7 (λk q=>dV A raw f k q) q.length kids ([],[])).1:=by rw[hF]
     have hF2:F.val=dW name (Go.Ax.d7 (λk q=>dV A raw f k q) q.length kids ([],[])).2:=by rw[hF]
     rw[hF1,hF2];rw[hF1] at hC;clear hF hF1 hF2 hbi hfok hfv hcb hnum;refine Z ?_;refine bJ.ph 50 4 ?_;cases want with
     | false=>
      refine bJ.at bI (λj:Nat=>j<=kids.length)
       (λj=>⟨[(0,wk A),(2,.bool false),(3,Vp A raw),(8,.ptr 3 0 0),(9,.ip (dM ⟨3,name,lo,hi',ws,lbs,vals,kids,.mk vk vn vs vks⟩)),(11,.nsl),(96,.il 1 (aY kids)),(97,.int .i64 kids.length),(98,.int .i64 j)],
        kX (q++(Go.Ax.d7 (λk q=>dV A raw f k q) q.length (kids.take j) ([],[])).1) 2 [(3,.row 50 4 [cC vZ])],4,116⟩)
       (λj=>kids.length-j) 0 [(0,0),(1,2),(2,3)] om
       (aH _ rfl (eR (rid:=1) rfl rfl rfl (by simp[Go.Ax.d7]) rfl (by simp[Go.Ax.d7]) ⟨⟨2,_,rfl,rfl,.cons (x7 0 0 [] ) .nil⟩,trivial⟩)
        ⟨aP (iP A),aG,⟨_,rfl,Dd rfl⟩,aM,aP (.ip' hnn),aG,aP (.il' (aW _)),⟨_,rfl,.int (by rw[lk])⟩,aG,trivial⟩) ?_
      intro j hj;have dj:decide ((j:Int)<(kids.length:Int))=decide (j<kids.length):=Zg.2 om;by_cases hjl:j<kids.length
      .have hnx:=zC (ft:=λk q=>dV A raw f k q) (q:=q.length) hjl ([],[]);have hln:=Fj (ft:=λk q=>dV A raw f k q) (q:=q.length) hjl ([],[]);have ek:=nQ hjl;obtain⟨m0,m1⟩:=hkm kids[j] (Za hjl);generalize kids[j]=kz at *;obtain⟨k,rfl⟩:=ZU m0;simp only[Y1] at m1 hnx hln;generalize (Go.Ax.d7 (λk q=>dV A raw f k q) q.length (kids.take j) ([],[]))=S at *;obtain⟨cs,vs⟩:=S;simp only at hnx hln |-;have hql:(q++cs).length=q.length+cs.length:=sq
       rw[<-hql] at hln hnx;have hC1:(q++cs).length+(dV A raw f k (q++cs).length).cs.length<=4096:=by
        simp only[ZB] at hln |-;omega
       refine Z ?_;rw[dj,Y8 hjl];refine Rt ?_;repeat(refine aC ek ?_;refine Rt ?_)
       refine Ay ih (q:=q++cs) om om hC1 2 rfl rfl rfl rfl rfl (λ_=>rfl) (λv hv=>?_);generalize dV A raw f k (q++cs).length=ag at *;have hvn:=bZ v;obtain⟨v1,v2,v3,v4⟩:=v;refine Z ?_;exact .mk (j+1) [(0,0),(4,2),(3,3)] om (aH _ rfl (eR (rid:=4) rfl rfl rfl (by rw[hnx];simp) rfl (by rw[hnx];simp) ⟨aF 3 (.cons (bZ _) .nil),trivial⟩)
        ⟨aP (iP A),aG,⟨_,rfl,Dd rfl⟩,aM,aP (.ip' hnn),aG,aP (.il' (aW _)),aG,⟨_,rfl,.w64 om oq⟩,trivial⟩) om
      .have hje:j=kids.length:=om;subst hje;rw[ZK];have hm0:=hmd [];have hvn:=bZ (dW name []);generalize dW name []=v at *;obtain⟨v1,v2,v3,v4⟩:=v;refine Z ?_;rw[dj,ZG hjl];refine Z ?_;refine hm0.useC bI (.cons (.same _ (.ip' hnn)) (.cons (.nil 4) .nil)) hvn ?_;refine Z ?_;exact bL (n':=3) (m':=kX (q++(Go.Ax.d7 (λk q=>dV A raw f k q) q.length kids ([],[])).1) 2 []) [(0,0),(2,2)] rfl (eR (rid:=2) rfl rfl rfl rfl rfl rfl trivial) (.same _ hvn) ⟨.mk v1 v2 v3 v4,rfl,(λe=>by cases e),rfl,rfl⟩
     | true=>
      refine bJ.at bI (λj:Nat=>j<=kids.length)
       (λj=>⟨[(0,wk A),(2,.bool true),(3,Vp A raw),(8,.ptr 3 0 0),(9,.ip (dM ⟨3,name,lo,hi',ws,lbs,vals,kids,.mk vk vn vs vks⟩)),(11,.sl 4 0 (Go.Ax.d7 (λk q=>dV A raw f k q) q.length (kids.take j) ([],[])).2.length),(96,.il 1 (aY kids)),(97,.int .i64 kids.length),(98,.int .i64 j)],
        kX (q++(Go.Ax.d7 (λk q=>dV A raw f k q) q.length (kids.take j) ([],[])).1) 2 [(3,.row 50 4 [cC vZ]),(4,.row 50 4 (aQ (Go.Ax.d7 (λk q=>dV A raw f k q) q.length (kids.take j) ([],[])).2))],5,116⟩)
       (λj=>kids.length-j) 0 [(0,0),(1,2),(2,3),(3,4)] om
       (aH _ rfl (eR (rid:=1) rfl rfl rfl (by simp[Go.Ax.d7]) rfl (by simp[Go.Ax.d7]) ⟨⟨2,_,rfl,rfl,.cons (x7 0 0 [] ) .nil⟩,⟨3,_,rfl,rfl,.nil⟩,trivial⟩)
        ⟨aP (iP A),aG,⟨_,rfl,Dd rfl⟩,aM,aP (.ip' hnn),⟨_,rfl,.nslk 3 4 _ rfl rfl⟩,aP (.il' (aW _)),⟨_,rfl,.int (by rw[lk])⟩,aG,trivial⟩) ?_
      intro j hj;have dj:decide ((j:Int)<(kids.length:Int))=decide (j<kids.length):=Zg.2 om;have hvl:∀(l:List Int) (s:List Int × List bH),(Go.Ax.d7 (λk q=>dV A raw f k q) q.length l s).2.length=s.2.length+l.length:=by
       intro l
       induction l with
       | nil=>intro s;rfl
       | cons a l ih=>intro s;rw[Go.Ax.d7,ih];simp;omega
      by_cases hjl:j<kids.length
      .have hnx:=zC (ft:=λk q=>dV A raw f k q) (q:=q.length) hjl ([],[]);have hln:=Fj (ft:=λk q=>dV A raw f k q) (q:=q.length) hjl ([],[]);have hvj:=hvl (kids.take j) ([],[]);have ek:=nQ hjl;obtain⟨m0,m1⟩:=hkm kids[j] (Za hjl);generalize kids[j]=kz at *;obtain⟨k,rfl⟩:=ZU m0;simp only[Y1] at m1 hnx hln;clear hvl;generalize (Go.Ax.d7 (λk q=>dV A raw f k q) q.length (kids.take j) ([],[]))=S at *;obtain⟨cs,us⟩:=S;simp only[aAm,ZQ] at hnx hln hvj |-;have hql:(q++cs).length=q.length+cs.length:=sq
       rw[<-hql] at hln hnx;have hC1:(q++cs).length+(dV A raw f k (q++cs).length).cs.length<=4096:=by
        simp only[ZB] at hln |-;omega
       refine Z ?_;rw[dj,Y8 hjl];refine Rt ?_;repeat(refine aC ek ?_;refine Rt ?_)
       refine Ay ih (q:=q++cs) om om hC1 2 rfl rfl rfl rfl rfl (λ_=>rfl) (λv hv=>?_);have hv:=hv rfl;subst hv;generalize dV A raw f k (q++cs).length=ag at *;obtain⟨gcs,⟨v1,v2,v3,v4⟩⟩:=ag;simp only at hnx;have lus:=aB us;refine Z ?_;refine aK (b8 rfl rfl (by rw[lus]) (by simp;omega)) ?_;refine Z ?_;exact .mk (j+1) [(0,0),(5,2),(3,3),(8,4)] om (aH _ rfl (eR (rid:=5) rfl rfl rfl (by rw[hnx];simp) rfl (by rw[hnx];simp) ⟨aF 3 (.cons (bZ _) .nil),⟨8,_,rfl,rfl,.eq (aX _) (by rw[hnx,gW];rfl)⟩,trivial⟩)
        ⟨aP (iP A),aG,⟨_,rfl,Dd rfl⟩,aM,aP (.ip' hnn),⟨_,rfl,.slE rfl (by rw[hnx];simp)⟩,aP (.il' (aW _)),aG,⟨_,rfl,.w64 om oq⟩,trivial⟩) om
      .have hje:j=kids.length:=om;subst hje;rw[ZK];generalize (Go.Ax.d7 (λk q=>dV A raw f k q) q.length kids ([],[]))=S at *;obtain⟨cs,us⟩:=S;simp only at hmd |-;have hm0:=hmd us;have hvn:=bZ (dW name us);have lus:=aB us;generalize dW name us=v at *;obtain⟨v1,v2,v3,v4⟩:=v;refine Z ?_;rw[dj,ZG hjl];refine Z ?_;refine aJ.pre bI [(0,0),(2,2),(3,3)] (mem':=kX (q++cs) 2 [(3,.row 50 4 [cC vZ])]) rfl (eR (rid:=2) rfl rfl rfl rfl rfl rfl ⟨aF 3 (.cons (bZ _) .nil),trivial⟩)
        (.cons (.same _ (.ip' hnn)) (.cons (.fz' (id:=4) (off:=0) (len:=us.length) (xs:=aQ us) (ys:=aQ us) rfl rfl om (by rw[ZT,ZD om]) (aX _)) .nil)) ?_
       refine hm0.go ?_ (.cons (.ip' hnn) (.cons (.il' (aX _)) .nil)) hvn;refine Z ?_;exact bL (n':=3) (m':=kX (q++cs) 2 []) [(0,0),(2,2)] rfl (eR (rid:=2) rfl rfl rfl rfl rfl rfl trivial) (.same _ hvn) ⟨.mk v1 v2 v3 v4,rfl,λ_=>rfl,rfl,rfl⟩
theorem DI{A:List Nd}(h:VT A)(raw:List Int)(hr:raw.length<=17592186043904):∀f,TA A raw f
 | 0=>λi q want hif _ _=>om
 | f+1=>SV h raw hr f (DI h raw hr f)
theorem X4{A:List Nd}(h:VT A)(raw:List Int)(hr:raw.length<=17592186043904):aU prog [] 25 [wk A,.int .i64 ((A.length-1:Nat):Int),.il 1 (aY raw)] (.il 1 (aY (iO A raw))):=by
 have hp:=h.pos;have hlen:(iO A raw).length<=1024:=OI h raw;have hF:=DI h raw hr A.length (A.length-1) [] false om om (by
  show 0+(iO A raw).length<=4096
  omega)
 unfold P9 at hF;rw[show (dV A raw A.length (A.length-1) ([]:List Int).length).cs=iO A raw from rfl,Zp] at hF;generalize iO A raw=q at *;refine aD bI func25 rfl ?_;refine Z ?_;refine aJ.ph 3 1 ?_;refine aJ.pre bI [(2,2),(3,3)] (args':=[wk A,.int .i64 ((A.length-1:Nat):Int),.bool false,.fn (.func 70) [] [.ptr 2 0 0,.ip (.il 1 (aY raw)),.ip (wk A)]])
  (mem':=[(2,.row 22 1 [.sl 3 0 0]),(3,.row 3 1 [])]) rfl ⟨⟨2,_,rfl,rfl,.cons (.one rfl rfl (.nslk 3 3 _ rfl rfl)) .nil⟩,⟨3,_,rfl,rfl,.nil⟩,trivial⟩
  (.cons (.same _ (iP A)) (.s (.s (.cons (.fn _ _ _ _ _ rfl rfl sq (iS.cons (.ptr 2 2 0 0 rfl) (.cons (.fzp 1 0 0 22 1 _ _ _ rfl rfl rfl (ZA _) λk c c' h1 h2=>by
    rw[ZP] at h1;exact(iS.cons (.same _ (.il' (aW raw))) .nil).2 k c c' h1 h2) (.cons (.fzp 0 0 0 63 1 _ _ _ rfl rfl rfl (ZA _) λk c c' h1 h2=>by
    rw[ZP] at h1;exact(iS.cons (.same _ (iP A)) .nil).2 k c c' h1 h2) .nil))).2) .nil)))) ?_
 refine aJ.useN bI [(2,0),(3,1)] hF rfl (.cons (.same _ (iP A)) (.s (.s (.cons (.fn _ _ _ _ _ rfl rfl sq (iS.cons (.ptr 2 0 0 0 rfl) (.cons (.same _ (vG raw)) (.cons (.same _ (sX A)) .nil))).2) .nil)))) ⟨⟨2,_,rfl,rfl,.cons (.one rfl rfl (.slE rfl rfl)) .nil⟩,⟨3,_,rfl,rfl,.nil⟩,trivial⟩ rfl ?_;rintro r m k ⟨v,rfl,-,rfl,rfl⟩;refine⟨[(0,2),(2,4)],cC v,[(2,.row 22 1 [.sl 4 0 q.length]),(4,.row 3 1 (aY q))],5,.same _ (bZ v),⟨⟨0,_,rfl,rfl,.cons (.one rfl rfl (.slE rfl rfl)) .nil⟩,aF 2 (aW _),trivial⟩,rfl, ?_⟩;refine Z ?_;exact cN (A8 (id:=4) rfl (aN q).symm rfl (aW q)) ⟨rfl,rfl,rfl⟩
theorem yQ{r:x9}{rid len:Nat}{mem:aR}{n:Nat}{v1 v2:Int}{v3:List UInt8}{v4:List bH}{us st:Int}{xs:List AV}(hm:lk mem rid=some (.row 218 3 xs))(hx:xs=eI r.spans)(hl:len=r.spans.length)(hv:r.val = .mk v1 v2 v3 v4)(hu:us=(r.used:Int))(hs:st=r.stop) :
  oC 0 (Us r) (.agg [.int .i64 v1,.int .i64 v2,.str v3,.il 4 (aQ v4),.int .i64 us,.int .i64 st,.sl rid 0 len]) mem n:=by
 obtain⟨v,u,s,sp⟩:=r;simp only at hx hl hv hu hs;subst hv hu hs hx;exact bL (n':=1) (m':=[(0,.row 218 3 (eI sp))]) [(rid,0)] (by rfl) ⟨⟨rid,_,by simp[lk],hm,.same (jD _)⟩,trivial⟩
  (.agg' (.s (.s (.s (.cons (.same _ (.il' (aX _))) (.s (.s (.cons (.slE (by simp[lk]) hl) .nil)))))))) ⟨rfl,rfl,rfl⟩
theorem AQ{r:x9}{mem:aR}{n pid:Nat}{v1 v2:Int}{v3:List UInt8}{v4:AV}{ks:List bH}{us st:Int}(hm:lk mem pid=some (.row 218 3 []))(hx:r.spans=[])(hv:r.val = .mk v1 v2 v3 ks)(h4:Cv mem [(pid,0)] v4 (.il 4 (aQ ks)))(hu:us=(r.used:Int))(hs:st=r.stop) :
  oC 0 (Us r) (.agg [.int .i64 v1,.int .i64 v2,.str v3,v4,.int .i64 us,.int .i64 st,.nsl]) mem n:=by
 obtain⟨v,u,s,sp⟩:=r;simp only at hx hv hu hs;subst hv hu hs hx;exact bL (n':=1) (m':=[(0,.row 218 3 [])]) [(pid,0)] (by rfl) ⟨⟨pid,_,by simp[lk],hm,.nil⟩,trivial⟩
  (.agg' (.s (.s (.s (.cons h4 (.s (.s (.cons (.nslk pid 0 _ hm (by simp[lk])) .nil)))))))) ⟨rfl,rfl,rfl⟩
theorem A0{F:FuncId}{args:List AV}{R:x9}(hq:aJ prog [] F args [] 0 (Us R)){mem:aR}{nx:Nat}{K:AV->aR->Nat->Prop}
  (hc:(kZ [(nx,AB.row 218 3 [])] && (lU [(0,nx)] && (Nat.ble nx (nx+1) && (lY [] nx [(nx,AB.row 218 3 [])] && rU [] 0 nx (nx+1) [(0,nx)]))))=true)
  (hk:K (IK R.val R.used R.stop nx R.spans.length) ((nx,.row 218 3 (eI R.spans))::mem) (nx+1)) (ha:jR args) :
  aJ prog [] F args mem nx K:=by
 refine aJ.useN bI [] hq rfl (.same ha) trivial rfl ?_;rintro r m k ⟨rfl,rfl,rfl⟩;obtain⟨⟨v1,v2,v3,v4⟩,u,st,sp⟩:=R;have hdr:∀m:aR,gQ (g8 []) m=m:=by
  intro m
  induction m with
  | nil=>rfl
  | cons a m ih=>obtain⟨k,b⟩:=a;simp only[g8,gQ,CG];rw[show gQ [] m=m from ih]
 refine⟨[(0,nx)],IK (.mk v1 v2 v3 v4) u st nx sp.length,[(nx,.row 218 3 (eI sp))],nx+1,.agg' (.s (.s (.s (.cons (.same _ (.il' (aX _))) (.s (.s (.cons (.slE rfl rfl) .nil))))))),⟨aF 0 (jD _),trivial⟩,hc, ?_⟩;rw[hdr];exact hk
theorem W7{A:List Nd}(h:VT A){p:List Int}(hp:p.length<=1000000000)(hpi:∀x∈p,i64 x)(hS:∀f i a0,i<f->i<A.length->(a8 A p f i a0).spans.length<=4294967296)(f:Nat)(ih:V4 A p f):V4 A p (f+1):=by
 intro i a0 hif hi ha;have hx:=cS hi;have hg:=h.node hx;have hkm:=λ(k:Int) (hk:k∈(aI A i).kids)=>fQ h hx hk
 have hkI:=λ(c:Int) (h0:0<=c) (h1:c<(aI A i).kids.length)=>h.kidI hx h0 h1
 have hbi:=λh4=>h.bind hx h4
 have hne:=pJ hi;have hnn:=bP (aI A i);have nA:NN (.il 12 (bG A)):=.il' (bB A);have np:NN (.il 1 (aY p)):=.il' (aW p);have hkl:=h.tin.klen _ (Y5 hx);have hfv:=λ(v:bH)=>Ta (aI A i).values v (by have:=h.tin.vlen _ (Y5 hx);omega) hg.val
 have hop:=Ol (aI A i) (λ_=>hg.node.num);have hmem:=λ(k a:Nat) (hk:k<i)=>mA h p f k a om om
 have hbd:∀(k q:Nat),q<=p.length->q+(a8 A p f k q).used<=p.length:=λk q hq=>(wR (A:=A) p f k q hq).1
 have hkind:=hg.node.kind;have hnum:=λ(e:(aI A i).kind=1)=>cE hg.node.num
 have hsrt:=hg.srt;have hSi:=hS (f+1) i a0 hif hi;obtain⟨F,hF⟩:∃F,F=a8 A p (f+1) i a0:=⟨_,rfl⟩
 rw[<-hF] at hSi |-;simp only[a8] at hF;have hpa:(aI A i).kind=3->_:=λe=>UV h hp ih hx om ha (by rw[hF,Y3 om,Y7 e] at hSi;exact hSi)
 clear hg hx;have hpe:∀q:Nat,q<p.length->(aY p)[(q:Int).toNat]? = some (.int .i64 (p.getD q 0)):=λq hq=>by
  rw[nQ hq,Y0,Yz hq];rfl
 have hpc:∀q:Nat,i64 (p.getD q 0):=λq=>by
  rw[Y0];cases e:p[q]? with
  | none=>exact⟨sq,sq⟩
  | some v=>exact hpi v (Y5 e)
 have hon:fK (aI A i)=if (aI A i).kind=1 then(aI A i).hi-(aI A i).lo+1 else(aI A i).kids.length:=rfl
 generalize aI A i=x at *;obtain⟨kind,name,lo,hi',ws,lbs,vals,kids,⟨vk,vn,vs,vks⟩⟩:=x;simp only at hkm hkI hbi hkl hF hfv hkind hnum hsrt hpa hon;refine aD bI func94 rfl ?_
 conv=>whnf
 refine eQ.ph 218 3 ?_
 dsimp only
 refine Rt ?_;repeat(refine aC hne ?_;refine Rt ?_)
 by_cases k0:kind=0
 .subst k0;rw[Y7 rfl] at hF;refine Z ?_;exact AQ (pid:=0) rfl (by rw[hF]) (by rw[hF]) (.same _ (.il' (aX _))) (by rw[hF];rfl) (by rw[hF])
 .rw[Y3 k0] at hF;rw[show (kind == 0)=false by simpa using k0];refine Z ?_;by_cases k3:kind=3
  .subst k3;rw[Y7 rfl] at hF;have hpa:=hpa rfl;rw[<-hF] at hpa;refine Rt ?_;refine A0 hpa rfl ?_ (.cons (.agg' (.cons nA .nil)) (.cons hnn (.cons np (.cons nn .nil))));clear hF hpa hSi;obtain⟨⟨v1,v2,v3,v4⟩,u,st,sp⟩:=F;refine Z ?_;exact yQ (rid:=4) rfl rfl rfl rfl rfl rfl
  .rw[Y3 k3] at hF;rw[show (kind == 3)=false by simpa using k3];refine Z ?_;by_cases k4:kind=4
   .subst k4;rw[Y7 rfl] at hF;have hb4:=(hbi rfl).1;have hb5:=(hbi rfl).2.1;obtain⟨c1,c2,c3⟩:=hkI 0 om om;have e0:(aY kids)[(0:Int).toNat]? = some (.int .i64 (bO ⟨4,name,lo,hi',ws,lbs,vals,kids,.mk vk vn vs vks⟩ 0:Int)):=by rw[bU,c3];rfl
    refine Rt ?_;repeat(refine aC e0 ?_;refine Rt ?_)
    generalize hk0e:bO ⟨4,name,lo,hi',ws,lbs,vals,kids,.mk vk vn vs vks⟩ 0=q0 at *;have hme:=λhs=>(hmem q0 a0 om hs).2 (hbi rfl).2.2.1
    rw[(hbi rfl).2.2.2] at hme;have hbd0:=hbd q0 a0 ha;refine A0 (ih q0 a0 om om ha) rfl ?_ (.cons (.agg' (.cons nA .nil)) (.cons nn (.cons np (.cons nn .nil))));generalize a8 A p f q0 a0=R0 at *;obtain⟨⟨v1,v2,v3,v4⟩,u,st,sp⟩:=R0;simp only at hF hme hbd0 |-;refine Rt ?_;by_cases hst:st = -1
    .subst hst;rw[Y7 rfl] at hF;obtain⟨w,fq,w1,w2⟩:=lP hsrt (hme rfl);have hfv1:=hfv (.mk v1 v2 v3 v4);rw[fq] at hF hfv1;simp only at hF hfv1;obtain⟨d1,d2,d3⟩:=hkI ((w+1:Nat):Int) om om;generalize bO ⟨4,name,lo,hi',ws,lbs,vals,kids,.mk vk vn vs vks⟩ ((w+1:Nat):Int)=q1 at *;have e1:(aY kids)[((w+1:Nat):Int).toNat]? = some (.int .i64 (q1:Int)):=by rw[bU,d3];rfl
     have hw1:IntKind.i64.wrap ((w:Int)+1)=((w+1:Nat):Int):=w64 om oq;have hw2:IntKind.i64.wrap ((a0:Int)+(u:Int))=((a0+u:Nat):Int):=by rw[bF oq];omega
     refine Z ?_;refine hfv1.go ?_ (.cons (.il' (aX _)) (.cons (.agg' (.cons nn (.cons nn (.cons nn (.cons (.il' (aX _)) .nil))))) .nil)) nn;refine Rt ?_;rw[hw1];refine Rt ?_;repeat(refine aC e1 ?_;refine Rt ?_)
     rw[hw2];have hbd1:=hbd q1 (a0+u) hbd0;have hwu:∀ru:Nat,a0+u+ru<=p.length->IntKind.i64.wrap ((u:Int)+(ru:Int))=((u+ru:Nat):Int):=λru hru=>by rw[bF oq];omega
     refine A0 (ih q1 (a0+u) om om hbd0) rfl ?_ (.cons (.agg' (.cons nA .nil)) (.cons nn (.cons np (.cons nn .nil))));generalize a8 A p f q1 (a0+u)=R1 at *;obtain⟨⟨u1,u2,u3,u4⟩,ru,rst,rsp⟩:=R1;simp only at hF hbd1 |-;have hwu:=hwu ru hbd1;rw[hF] at hSi;simp only[ZB] at hSi;have ls:=gM sp;have lr:=gM rsp;have htk:List.take rsp.length (List.drop 0 (eI rsp))=eI rsp:=by rw[ZT,ZD om]
     refine Rt ?_;repeat(refine aC e1 ?_;refine Rt ?_)
     rw[hwu];refine aK (Jo om) ?_;rw[htk];refine Z ?_;refine aK (b8 rfl rfl om om) ?_;refine Rt ?_;repeat(refine aC e1 ?_;refine Rt ?_)
     exact yQ (rid:=47) rfl (by rw[hF,m9]) (by rw[hF,lr];simp) (by rw[hF]) (by rw[hF]) (by rw[hF])
    .rw[Y3 hst] at hF;rw[show (st != -1)=true by simpa using hst];rw[hF];refine Z ?_;exact yQ (rid:=14) rfl rfl rfl rfl rfl rfl
   .rw[Y3 k4] at hF;rw[show (kind == 4)=false by simpa using k4];refine Z ?_;have lp:=aN p;have d1:decide ((a0:Int)≥((aY p).length:Int))=decide (p.length<=a0):=by rw[lp];exact Zg.2 om
    rw[d1];by_cases hpl:p.length<=a0
    .rw[Y7 hpl] at hF;rw[Y8 hpl];refine Z ?_;exact AQ (pid:=0) (ks:=[]) rfl (by rw[hF]) (by rw[hF];rfl) (.nil 4) (by rw[hF];rfl) (by rw[hF])
    .rw[Y3 hpl] at hF;have hpe:=hpe a0 om;have hpc:=hpc a0;rw[ZG hpl];generalize p.getD a0 0=c at *;refine Rt ?_;repeat(refine aC hpe ?_;refine Rt ?_)
     by_cases hc0:c<0
     .rw[Y7 (.inl hc0)] at hF;rw[Y8 hc0];refine Z ?_;exact AQ (pid:=0) (ks:=[]) rfl (by rw[hF]) (by rw[hF];rfl) (.nil 4) (by rw[hF];rfl) (by rw[hF])
     .rw[ZG hc0];have hop2:=hop;generalize fK ⟨kind,name,lo,hi',ws,lbs,vals,kids,.mk vk vn vs vks⟩=o at *;refine Z ?_;refine hop2.go ?_ (.cons hnn .nil) nn;refine Z ?_;have d2:decide (c≥o)=decide (o<=c):=Zg.2 om;rw[d2];by_cases hco:o<=c
      .rw[Y7 (.inr hco)] at hF;rw[Y8 hco];refine Z ?_;exact AQ (pid:=0) (ks:=[]) rfl (by rw[hF]) (by rw[hF];rfl) (.nil 4) (by rw[hF];rfl) (by rw[hF])
      .rw[Y3 (show ¬(c<0\/o<=c) by omega)] at hF;rw[ZG hco];by_cases k1:kind=1
       .subst k1;rw[Y7 rfl] at hF hon;have hn:=hnum rfl;have hw:IntKind.i64.wrap (lo+c)=lo+c:=bF ⟨by have:=hn.1;omega,om⟩;refine Z ?_;rw[hw];exact AQ (pid:=0) (ks:=[]) rfl (by rw[hF]) (by rw[hF]) (.nil 4) (by rw[hF];rfl) (by rw[hF])
       .rw[Y3 k1] at hF hon;refine Z ?_;rw[show (kind == 1)=false by simpa using k1];obtain⟨d1,d2,d3⟩:=hkI c om om;generalize bO ⟨kind,name,lo,hi',ws,lbs,vals,kids,.mk vk vn vs vks⟩ c=q1 at *;have e1:(aY kids)[c.toNat]? = some (.int .i64 (q1:Int)):=by rw[bU,d3];rfl
        have hw2:IntKind.i64.wrap ((a0:Int)+1)=((a0+1:Nat):Int):=w64 om oq;refine Rt ?_;repeat(refine aC e1 ?_;refine Rt ?_)
        rw[Y8 (show 0<=c by omega)];refine Rt ?_;repeat(refine aC e1 ?_;refine Rt ?_)
        rw[hw2];have hbd1:=hbd q1 (a0+1) om;refine A0 (ih q1 (a0+1) om om om) rfl ?_ (.cons (.agg' (.cons nA .nil)) (.cons nn (.cons np (.cons nn .nil))));generalize a8 A p f q1 (a0+1)=R1 at *;obtain⟨⟨u1,u2,u3,u4⟩,ru,rst,rsp⟩:=R1;simp only at hF hbd1 |-;have hwu:IntKind.i64.wrap ((ru:Int)+1)=((ru+1:Nat):Int):=w64 om oq;refine Rt ?_;repeat(refine aC e1 ?_;refine Rt ?_)
        rw[hwu];exact yQ (rid:=16) rfl (by rw[hF]) (by rw[hF]) (by rw[hF]) (by rw[hF]) (by rw[hF])
theorem Ha{A:List Nd}(h:VT A){p:List Int}(hp:p.length<=1000000000)(hpi:∀x∈p,i64 x)(hS:∀f i a0,i<f->i<A.length->(a8 A p f i a0).spans.length<=4294967296):∀f,V4 A p f
 | 0=>λi a0 hif _ _=>om
 | f+1=>W7 h hp hpi hS f (Ha h hp hpi hS f)
def fS(A:List Nd)(p:List Int):x9:=a8 A p A.length (A.length-1) 0
def f9(p:List Int)(r:x9):x9:=if r.stop = -1/\r.used<p.length then⟨r.val,r.used,-2,r.spans⟩ else r
theorem yU(A:List Nd)(p:List Int):(fS A p).used<=p.length:=by
 have:=(wR (A:=A) p A.length (A.length-1) 0 (aAA _)).1;unfold fS;omega
structure Iz(A:List Nd)(p:List Int):Prop where
 tree:VT A
 len:p.length<=1000000
 i64:∀x∈p,i64 x
 cnt:∀f i a0,i<f->i<A.length->(a8 A p f i a0).spans.length<=4294967296
theorem VE{A:List Nd}{p:List Int}(h:Iz A p):aJ prog [] 37 [.agg [.il 12 (bG A)],.il 1 (aY p)] [] 0 (Us (f9 p (fS A p))):=by
 have hp:=h.tree.pos;have hl:=h.tree.tin.len;have hpl:=h.len;have hR:=Ha h.tree om h.i64 h.cnt A.length (A.length-1) 0 om om (aAA _);have hu:=yU A p;have nA:NN (.il 12 (bG A)):=.il' (bB A);have np:NN (.il 1 (aY p)):=.il' (aW p);have hw:IntKind.i64.wrap (((bG A).length:Int)-1)=((A.length-1:Nat):Int):=by rw[cH,bF oq];omega
 have lp:=aN p;rw[show a8 A p A.length (A.length-1) 0=fS A p from rfl] at hR;obtain⟨F,hF⟩:∃F,F=f9 p (fS A p):=⟨_,rfl⟩
 rw[<-hF];unfold f9 at hF;generalize fS A p=R at *;obtain⟨⟨v1,v2,v3,v4⟩,u,st,sp⟩:=R;simp only at hF hu;refine aD bI func37 rfl ?_;refine Z ?_;rw[hw];refine A0 hR rfl ?_ (.cons (.agg' (.cons nA .nil)) (.cons nn (.cons np (.cons nn .nil))));refine Z ?_;by_cases hst:st = -1
 .subst hst;refine Z ?_;have d1:decide ((u:Int)<((aY p).length:Int))=decide (u<p.length):=by rw[lp];exact Zg.2 om
  rw[d1];by_cases hup:u<p.length
  .rw[Y7 ⟨rfl,hup⟩] at hF;rw[Y8 hup];refine Z ?_;exact yQ (rid:=2) rfl (by rw[hF]) (by rw[hF]) (by rw[hF]) (by rw[hF]) (by rw[hF])
  .rw[Y3 (λe=>hup e.2)] at hF;rw[ZG hup];refine Z ?_;exact yQ (rid:=2) rfl (by rw[hF]) (by rw[hF]) (by rw[hF]) (by rw[hF]) (by rw[hF])
 .rw[Y3 (λe=>hst e.1)] at hF;rw[show (st == -1)=false by simpa using hst];refine Z ?_;exact yQ (rid:=2) rfl (by rw[hF]) (by rw[hF]) (by rw[hF]) (by rw[hF]) (by rw[hF])
structure V1(A:List Nd)(p:List Int):Prop where
 tin:BM A
 len:p.length<=1000000
 i64:∀x∈p,i64 x
 cnt:VT A->∀f i a0,i<f->i<A.length->(a8 A p f i a0).spans.length<=4294967296
theorem V1.pth{A:List Nd}{p:List Int}(h:V1 A p)(hv:VT A):Iz A p:=⟨hv,h.len,h.i64,h.cnt hv⟩
def mQ(A:List Nd)(p:List Int):Int:=if eX A≠0 then eX A else if A.length=0 then 11 else if (f9 p (fS A p)).stop = -1 then 0 else 11
def AZ(A:List Nd)(p:List Int):bH:=if mQ A p=0 then(fS A p).val else vZ
def QD(A:List Nd)(p:List Int):List Sp:=if mQ A p=0 then(fS A p).spans else []
theorem FT(p:List Int)(r:x9):(f9 p r).val=r.val/\(f9 p r).spans=r.spans:=by
 unfold f9;split<;>exact⟨rfl,rfl⟩
theorem PN{A:List Nd}(h:VT A)(raw:List Int){m:Nat}(hm:m<=(iO A raw).length) :
  (m<(iO A raw).length->∃n,n<A.length/\(f9 ((iO A raw).take m) (fS A ((iO A raw).take m))).stop=(n:Int)/\(iO A raw)[m]? = some (dH raw (aI A n) m)) /\
  (m=(iO A raw).length->(f9 ((iO A raw).take m) (fS A ((iO A raw).take m))).stop = -1):=by
 have hp:=h.pos;constructor
 .intro hlt;obtain⟨n,n1,n2,n3⟩:=O3 h raw ((iO A raw).take m) A.length (A.length-1) 0 m om om hlt (by rw[ZT];rfl);have hs:(f9 ((iO A raw).take m) (fS A ((iO A raw).take m))).stop=(n:Int):=by
   have e:(fS A ((iO A raw).take m)).stop=(n:Int):=n2;unfold f9;rw[Y3 (λe2=>by rw[e] at e2;omega),e]
  exact⟨n,n1,hs,by rw[ZP] at n3;exact n3⟩
 .intro he;have ha:=Hw h raw (iO A raw) A.length (A.length-1) 0 [] om om (by rw[ZT,aAi];rfl);rw[he,ZK];unfold f9;have e1:(fS A (iO A raw)).stop = -1:=ha.stop;have e2:(fS A (iO A raw)).used=(iO A raw).length:=ha.used;rw[Y3 (λe=>by rw[e2] at e;omega),e1]
theorem EC{A:List Nd}(h:VT A){p:List Int}(hp:p.length<=1000000000)(s:Bool):∀f,Ww A p s f
 | 0=>λi a0 L hif _ _ _=>om
 | f+1=>Qg h hp s f (EC h hp s f)
def uN(v:bH)(node:Int)(X:List Sp)(code:Int):AV:=match v with
 | .mk a b c d=>.agg [.int .i64 a,.int .i64 b,.str c,.il 4 (aQ d),.int .i64 node,.il 3 (eI X),.int .i64 code]
theorem qK(v:bH)(node:Int)(X:List Sp)(code:Int):NN (uN v node X code):=by
 obtain⟨a,b,c,d⟩:=v;exact .agg' (.cons nn (.cons nn (.cons nn (.cons (.il' (aX _)) (.cons nn (.cons (.il' (jD _)) (.cons nn .nil)))))))
def XS(p:List Int)(s:Bool)(r0:x9):AV->aR->Nat->Prop:=λr m k=>m=[]/\k=0/\((r0.stop = -1/\∃X:List Sp,X.length<=r0.spans.length/\(s=true->X=r0.spans)/\r=uN r0.val (-1) X 0)\/(∃n:Nat,r0.stop=(n:Int)/\r=uN vZ n [] 0)\/(r0.stop = -2/\r=uN vZ (-1) [] 11))
def Xh(A:List Nd)(p:List Int):AV:=.fn (.func 133) [] [.ptr 6 0 0,.ip (.il 1 (aY p)),.ip (.agg [.il 12 (bG A)])]
def Xd(A:List Nd)(s:Bool):AV:=.fn (.func 134) [] [.ip (.agg [.il 12 (bG A)]),.ip (wk A),.ip (.bool s),.ip (.il 1 (kB (dJ A))),.ptr 7 0 0,.ptr 8 0 0,.ptr 6 0 0,.ptr 3 0 0]
def Vr(A:List Nd)(p:List Int)(s:Bool)(a:Nat)(rid n:Nat)(xs:List AV):aR:=
 [(6,.row 3 1 [.int .i64 (a:Int)]),(3,.row 112 7 [Vq rid n]),(7,.row 101 1 [Xh A p]),(8,.row 60 1 [Xd A s]),(rid,.row 218 3 xs)]
theorem N4{mem:aR}{J:List (Nat × Nat)}{a b n m:Nat}(h:lk J a=some b)(e:n=m):Jh mem J (Vq a n) (Vq b m):=
 .agg (.s (.s (.s (.s (.s (.cons (.slE h e) (.s .nil)))))))
theorem XQ{mem:aR}{J:List (Nat × Nat)}{A:List Nd}{p:List Int}(h:lk J 6=some 0):Cv mem J (Xh A p) (TG A p):=
 .fn _ _ _ _ _ rfl rfl sq (iS.cons (.ptr 6 0 0 0 h) (.cons (.same _ (vG p)) (.cons (.same _ (rL A)) .nil))).2
theorem Wb{mem:aR}{J:List (Nat × Nat)}{A:List Nd}{p:List Int}(h:lk J 0=some 6):Cv mem J (TG A p) (Xh A p):=
 .fn _ _ _ _ _ rfl rfl sq (iS.cons (.ptr 0 6 0 0 h) (.cons (.same _ (vG p)) (.cons (.same _ (rL A)) .nil))).2
theorem V0{mem:aR}{J:List (Nat × Nat)}{A:List Nd}{s:Bool}(h0:lk J 6=some 0)(h1:lk J 3=some 1)(h2:lk J 7=some 2)(h3:lk J 8=some 3):Cv mem J (Xd A s) (Gl A s):=
 .fn _ _ _ _ _ rfl rfl sq (iS.cons (.same _ (rL A)) (.cons (.same _ (sX A)) (.s (.cons (.same _ (FA A)) (.cons (.ptr 7 2 0 0 h2) (.cons (.ptr 8 3 0 0 h3) (.cons (.ptr 6 0 0 0 h0) (.cons (.ptr 3 1 0 0 h1) .nil)))))))).2
theorem V8{mem:aR}{J:List (Nat × Nat)}{A:List Nd}{s:Bool}(h0:lk J 0=some 6)(h1:lk J 1=some 3)(h2:lk J 2=some 7)(h3:lk J 3=some 8):Cv mem J (Gl A s) (Xd A s):=
 .fn _ _ _ _ _ rfl rfl sq (iS.cons (.same _ (rL A)) (.cons (.same _ (sX A)) (.s (.cons (.same _ (FA A)) (.cons (.ptr 2 7 0 0 h2) (.cons (.ptr 3 8 0 0 h3) (.cons (.ptr 0 6 0 0 h0) (.cons (.ptr 1 3 0 0 h1) .nil)))))))).2
theorem QR{A:List Nd}{p:List Int}{s:Bool}{a b:Nat}{L:List Sp}(h:a=b):cZ (xH A p s a L 5 []) [(0,6),(1,3),(2,7),(3,8),(5,10)] (Vr A p s b 10 L.length (eI L)):=
 ⟨⟨0,_,rfl,rfl,.cons (.one rfl rfl (.int (by rw[h]))) .nil⟩,⟨1,_,rfl,rfl,.cons (N4 rfl rfl) .nil⟩,⟨2,_,rfl,rfl,.cons (.one rfl rfl (Wb rfl)) .nil⟩,⟨3,_,rfl,rfl,.cons (.one rfl rfl (V8 rfl rfl rfl rfl)) .nil⟩,aF 5 (jD _),trivial⟩
theorem MP{mem:aR}{J:List (Nat × Nat)}{id:Nat}{t:TypeId}{sz:Nat}{c v:AV}(h1:lk mem id=some (.row t sz [c]))(h2:lk J id=none)(hc:c.cells=[c])(hv:v.cells=[v])(h:Cv mem J c v):Cv mem J (.ptr id 0 0) (.ip v):=
 QL h1 h2 rfl (by rw[hc];rfl) hv h
structure T5(rs:List ResultVar)(v:AV)(Q:AV->aR->Nat->Prop)(Qp:Value->aR->Nat->Prop)(e:Exit)(s:St):Prop where
 run:Dh prog [] (F8 prog [] 0) rs Q Qp e s (some v)
noncomputable def Kc:List ResultVar:=(Tryz.f78).results.toList
def PY:AV:=.fn (.func 131) [] [.ptr 3 0 0]
theorem nO{sl:List (Nat × AV)}{M:aR}{nx nt:Nat}{Q:AV->aR->Nat->Prop}{Qp:Value->aR->Nat->Prop}(h:match Av prog Kc ⟨sl,M,nx,nt⟩ with|some r=>Q r M nx|none=>False):T5 Kc PY Q Qp .ret ⟨sl,M,nx,nt⟩:=by
 refine⟨?_⟩;have e:Dh prog [] (F8 prog [] 0) Kc Q Qp .ret ⟨sl,M,nx,nt⟩ (some PY)=(match Av prog Kc ⟨sl,M,nx,nt⟩ with|some r=>Q r M nx|none=>False):=by kernel_rfl
 rw[e];exact h
theorem v6{a3 a4 a5:AV}{rest:List (Nat × AV)}{A:List Nd}{p:List Int}{s:Bool}{a n0:Nat}{xs:List AV}{nt:Nat}{x:Value}{n c:Int}{Q:AV->aR->Nat->Prop}{Qp:Value->aR->Nat->Prop}(hx:x=xM n c)
  (h:∀M:aR,Q (.agg [.int .i64 0,.int .i64 0,.str [],.nsl,.int .i64 n,.nsl,.int .i64 c]) M 12):T5 Kc PY Q Qp (.panic [pe x]) ⟨(3,a3)::(4,a4)::(5,a5)::(6,.ptr 3 0 0)::rest,Vr A p s a 10 n0 xs,11,nt⟩:=by
 subst hx;refine⟨?_⟩;have e:Dh prog [] (F8 prog [] 0) Kc Q Qp (.panic [pe (xM n c)]) ⟨(3,a3)::(4,a4)::(5,a5)::(6,.ptr 3 0 0)::rest,Vr A p s a 10 n0 xs,11,nt⟩ (some PY) =
  Q (.agg [.int .i64 0,.int .i64 0,.str [],.nsl,.int .i64 n,.nsl,.int .i64 c]) [(11,.row 215 2 [.agg [.int .i64 n,.int .i64 c]]),(6,.row 3 1 [.int .i64 (a:Int)]),(3,.row 112 7 [.agg [.int .i64 0,.int .i64 0,.str [],.nsl,.int .i64 n,.nsl,.int .i64 c]]),(7,.row 101 1 [Xh A p]),(8,.row 60 1 [Xd A s]),(10,.row 218 3 xs)] 12:=by kernel_rfl
 rw[e];exact h _
theorem Tj{A:List Nd}{p:List Int}(h:Iz A p)(s:Bool):aJ prog [] 78 [.agg [.il 12 (bG A)],.il 1 (aY p),.bool s] [] 0 (XS p s (f9 p (fS A p))):=by
 have hp:=h.tree.pos;have hl:=h.tree.tin.len;have hpl:=h.len;have hC:=h.cnt A.length (A.length-1) 0 om om;have hF:=EC h.tree (p:=p) om s A.length (A.length-1) 0 [] om om (aAA _) (su hC);have hN:=Wf h.tree;have hP:=SA h.tree;have hu:=yU A p;have nA:NN (.il 12 (bG A)):=.il' (bB A);have np:NN (.il 1 (aY p)):=.il' (aW p);have lp:=aN p;have lA:=cH A;have hw:IntKind.i64.wrap (((bG A).length:Int)-1)=((A.length-1:Nat):Int):=by rw[cH,bF oq];omega
 rw[show a8 A p A.length (A.length-1) 0=fS A p from rfl] at hF;generalize hR0:fS A p=R at *;clear hR0;obtain⟨⟨v1,v2,v3,v4⟩,u,st,sp⟩:=R;refine cD.toC (Qp:=λ_ _ _=>False) ?_ (λ_ _ _ h=>h);refine Bl (H:=F8 prog [] 0) bI func78 rfl ?_
 conv=>whnf
 refine oW.seq (oW.of rfl ?_);refine Z ?_;refine oW.seq (oW.of rfl ?_);have dA:(((bG A).length:Int) == 0)=false:=by rw[lA];exact beq_eq_false_iff_ne.2 om
 refine Z ?_;rw[dA];refine Z ?_;refine oW.seq (oW.region ?_)
 conv=>whnf
 refine bK ?_
 dsimp only
 refine eQ.conv (s':=⟨[(3,.ip (.agg [.il 12 (bG A)])),(4,.ip (.il 1 (aY p))),(5,.ip (.bool s)),(6,.ptr 3 0 0)],[(3,.row 112 7 [.agg [.int .i64 0,.int .i64 0,.str [],.nsl,.int .i64 0,.nsl,.int .i64 0]])],4,39⟩) bI
  (aH [(3,3)] rfl ⟨aF 3 (.cons (.agg' (.cons nn (.cons nn (.cons nn (.cons nn (.cons nn (.cons nn (.cons nn .nil)))))))) .nil),trivial⟩
   ⟨⟨_,rfl,QL (id:=0) rfl rfl rfl rfl rfl (.same _ nA)⟩,⟨_,rfl,MP (id:=1) rfl rfl rfl rfl (.same _ np)⟩,⟨_,rfl,MP (id:=2) rfl rfl rfl rfl (.same _ nn)⟩,aM,trivial⟩) ?_
 refine eQ.mono (Q:=T5 Kc PY (oC 0 (XS p s (f9 p ⟨.mk v1 v2 v3 v4,u,st,sp⟩))) (Lk 0 λ_ _ _=>False)) ?_ (λe s h=>h.run);refine Rq ?_;refine hN.goP ?_ (.cons (.agg' (.cons nA .nil)) .nil) (iP A);refine Rq ?_;refine hP.goP ?_ (.cons (.agg' (.cons nA .nil)) (.cons (iP A) .nil)) (.il' (jC _));refine Rq ?_;rw[hw];refine cD.ph 218 3 ?_;refine cD.pre bI [(3,3),(6,6),(7,7),(8,8),(9,9)] (args':=[.int .i64 ((A.length-1:Nat):Int),.ip (.agg [.il 12 (bG A)]),.ip (wk A),.ip (.bool s),.ip (.il 1 (kB (dJ A))),.ptr 7 0 0,.ptr 8 0 0,.ptr 6 0 0,.ptr 3 0 0])
  (mem':=Vr A p s 0 9 0 []) rfl
  ⟨⟨6,_,rfl,rfl,.cons (.one rfl rfl (.int rfl)) .nil⟩,⟨3,_,rfl,rfl,.cons (.agg (.s (.s (.s (.s (.s (.cons (.nslk 9 9 _ rfl rfl) (.s .nil)))))))) .nil⟩,
   ⟨7,_,rfl,rfl,.cons (.one rfl rfl (.fn _ _ _ _ _ rfl rfl sq (iS.cons (.ptr 6 6 0 0 rfl) (.cons (.same _ (vG p)) (.cons (.same _ (rL A)) .nil))).2)) .nil⟩,
   ⟨8,_,rfl,rfl,.cons (.one rfl rfl (.fn _ _ _ _ _ rfl rfl sq (iS.cons (.same _ (rL A)) (.cons (MP (id:=4) rfl rfl rfl rfl (.same _ (iP A))) (.s (.cons (MP (id:=5) rfl rfl rfl rfl (.same _ (.il' (jC _)))) (.cons (.ptr 7 7 0 0 rfl) (.cons (.ptr 8 8 0 0 rfl) (.cons (.ptr 6 6 0 0 rfl) (.cons (.ptr 3 3 0 0 rfl) .nil)))))))).2)) .nil⟩,
   ⟨9,_,rfl,rfl,.nil⟩,trivial⟩
  (.s (.cons (.same _ (rL A)) (.cons (MP (id:=4) rfl rfl rfl rfl (.same _ (iP A))) (.s (.cons (MP (id:=5) rfl rfl rfl rfl (.same _ (.il' (jC _)))) (.cons (.ptr 7 7 0 0 rfl) (.cons (.ptr 8 8 0 0 rfl) (.cons (.ptr 6 6 0 0 rfl) (.cons (.ptr 3 3 0 0 rfl) .nil))))))))) ?_
 refine cD.useN bI [(6,0),(3,1),(7,2),(8,3),(9,4)] hF rfl (.s (.cons (.same _ (rL A)) (.cons (.same _ (sX A)) (.s (.cons (.same _ (FA A)) (.cons (.ptr 7 2 0 0 rfl) (.cons (.ptr 8 3 0 0 rfl) (.cons (.ptr 6 0 0 0 rfl) (.cons (.ptr 3 1 0 0 rfl) .nil)))))))))
  ⟨aF 6 (.cons nn .nil),⟨3,_,rfl,rfl,.cons (N4 rfl rfl) .nil⟩,⟨7,_,rfl,rfl,.cons (.one rfl rfl (XQ rfl)) .nil⟩,⟨8,_,rfl,rfl,.cons (.one rfl rfl (V0 rfl rfl rfl rfl)) .nil⟩,⟨9,_,rfl,rfl,.nil⟩,trivial⟩ rfl ?_ ?_
 .rintro r m k ⟨f1,rfl,X,hX,hXs,rfl,rfl⟩;have f1:st = -1:=f1;subst f1;refine⟨[(0,6),(1,3),(2,7),(3,8),(5,10)],.agg [.int .i64 v1,.int .i64 v2,.str v3,.il 4 (aQ v4)],Vr A p s u 10 X.length (eI X),11,.same _ (bZ (.mk v1 v2 v3 v4)),QR (ZP _),rfl, ?_⟩;have hX:X.length<=sp.length:=hX;have hXs:s=true->X=sp:=hXs;have hu:u<=p.length:=hu;have d1:decide ((u:Int)<((aY p).length:Int))=decide (u<p.length):=by rw[lp];exact Zg.2 om
  refine Rq ?_;rw[d1];by_cases hup:u<p.length
  .rw[Y8 hup];refine Rq ?_;refine nO ?_
   conv=>whnf
   exact cN (r':=uN vZ (-1) [] 11) (.agg' (.s (.s (.s (.cons (.nil 4) (.s (.cons (.nil 3) (.s .nil)))))))) (by unfold f9;rw[Y7 ⟨rfl,hup⟩];exact⟨rfl,rfl,.inr (.inr ⟨rfl,rfl⟩)⟩)
  .rw[ZG hup];refine Rq ?_;refine nO ?_
   conv=>whnf
   exact cN (r':=uN (.mk v1 v2 v3 v4) (-1) X 0) (.agg' (.s (.s (.s (.cons (.same _ (.il' (aX _))) (.s (.cons (A8 (id:=10) rfl (gM X).symm rfl (jD X)) (.s .nil)))))))) (by unfold f9;rw[Y3 (λe=>hup e.2)];exact⟨rfl,rfl,.inl ⟨rfl,X,hX,hXs,rfl⟩⟩)
 .rintro x m k ⟨hx,a,L',rfl,rfl⟩;have hx:(∃n:Nat,st=(n:Int)/\x=xM n 0)\/(st = -2/\x=xM (-1) 11):=hx;refine⟨[(0,6),(1,3),(2,7),(3,8),(5,10)],Vr A p s a 10 L'.length (eI L'),11,QR rfl,rfl, ?_⟩;cases hx with
  | inl hx=>
   obtain⟨n,h1,h2⟩:=hx;refine v6 h2 (λM=>?_);exact cN (r':=uN vZ n [] 0) (.agg' (.s (.s (.s (.cons (.nil 4) (.s (.cons (.nil 3) (.s .nil)))))))) (by unfold f9;rw[Y3 (λe=>by have:=e.1;simp only at this;omega)];exact⟨rfl,rfl,.inr (.inl ⟨n,h1,rfl⟩)⟩)
  | inr hx=>
   refine v6 hx.2 (λM=>?_);exact cN (r':=uN vZ (-1) [] 11) (.agg' (.s (.s (.s (.cons (.nil 4) (.s (.cons (.nil 3) (.s .nil)))))))) (by unfold f9;rw[Y3 (λe=>by have:=e.1;simp only at this;omega)];exact⟨rfl,rfl,.inr (.inr ⟨hx.1,rfl⟩)⟩)
theorem U6(p:List Int)(s:Bool):aU prog [] 78 [.agg [.il 12 []],.il 1 (aY p),.bool s] (uN vZ (-1) [] 11):=by
 refine cD.toC (Qp:=λ_ _ _=>False) ?_ (λ_ _ _ h=>h);refine Bl (H:=F8 prog [] 0) bI func78 rfl ?_
 conv=>whnf
 refine oW.seq (oW.of rfl ?_);refine Z ?_;refine oW.seq (oW.of rfl ?_);refine Z ?_;exact cN (r':=uN vZ (-1) [] 11) (.agg' (.s (.s (.s (.cons (.nil 4) (.s (.cons (.nil 3) (.s .nil)))))))) ⟨rfl,rfl,rfl⟩
theorem Vh{A:List Nd}{p:List Int}(h:V1 A p)(s:Bool):aJ prog [] 47 [.agg [.il 12 (bG A)],.il 1 (aY p),.bool s] [] 0 λr m k=>(∃(v:bH) (node c:Int) (S:List Sp),r = .tup [uN v node S c,.int .i64 (mQ A p)]/\v=AZ A p/\(s=true->S=QD A p))/\m=[]/\k=0:=by
 have hv:=G0 A ⟨h.tin.ok,h.tin.val,h.tin.vals,λx hx=>by have:=h.tin.vlen x hx;omega,λx hx=>by have:=h.tin.klen x hx;omega⟩;have nA:NN (.il 12 (bG A)):=.il' (bB A);have np:NN (.il 1 (aY p)):=.il' (aW p);have hE:mQ A p=if eX A≠0 then eX A else if A.length=0 then 11 else if (f9 p (fS A p)).stop = -1 then 0 else 11:=rfl
 have hS:QD A p=if mQ A p=0 then(f9 p (fS A p)).spans else []:=by rw[(FT _ _).2];rfl
 have hV:AZ A p=if mQ A p=0 then(f9 p (fS A p)).val else vZ:=by rw[(FT _ _).1];rfl
 have hR:=λ(e:eX A=0) (hp:0<A.length)=>Tj (h.pth ⟨h.tin,e,hp⟩) s
 have hR0:A.length=0->aU prog [] 78 [.agg [.il 12 (bG A)],.il 1 (aY p),.bool s] (uN vZ (-1) [] 11):=λe=>by
  rw[ZH e];exact U6 p s
 have lA:=cH A;generalize QD A p=S at *;generalize AZ A p=V at *;generalize mQ A p=aa at *;generalize eX A=vl at *;refine aD bI func47 rfl ?_;refine Z ?_;refine hv.go ?_ (.cons (.agg' (.cons nA .nil)) .nil) nn;refine Z ?_;refine aL (λhb=>?_) (λhb=>?_)
 .have h0:vl≠0:=su hb
  rw[Y7 h0] at hE;rw[Y3 om] at hS hV;rw[hS,hV,hE];refine Z ?_;exact cN (r':=.tup [uN vZ 0 [] 0,.int .i64 vl]) (.tup' (.cons (.agg' (.s (.s (.s (.cons (.nil 4) (.s (.cons (.nil 3) (.s .nil)))))))) (.s .nil))) ⟨⟨vZ,0,0,[],rfl,rfl,λ_=>rfl⟩,rfl,rfl⟩
 .have h0:vl=0:=su hb
  subst h0;have hR:=hR rfl;rw[Y3 sq] at hE;refine Z ?_;by_cases h0:A.length=0
  .rw[Y7 h0] at hE;rw[Y3 om] at hS hV;rw[hS,hV,hE];refine(hR0 h0).go ?_ (.cons (.agg' (.cons nA .nil)) (.cons np (.cons nn .nil))) (qK _ _ _ _);refine Z ?_;exact cN (r':=.tup [uN vZ 0 [] 0,.int .i64 11]) (.tup' (.cons (.agg' (.s (.s (.s (.cons (.nil 4) (.s (.cons (.nil 3) (.s .nil)))))))) (.s .nil))) ⟨⟨vZ,0,0,[],rfl,rfl,λ_=>rfl⟩,rfl,rfl⟩
  .rw[Y3 h0] at hE;have hR:=hR om;generalize f9 p (fS A p)=R at *;obtain⟨⟨v1,v2,v3,v4⟩,u,st,sp⟩:=R;simp only at hE hS hV;refine aJ.go0 hR ?_ (.cons (.agg' (.cons nA .nil)) (.cons np (.cons nn .nil)));rintro r m k ⟨rfl,rfl,hr⟩;rcases hr with⟨h1,X,hX,hXs,rfl⟩|⟨n,h1,rfl⟩|⟨h1,rfl⟩
   .simp only at h1 hX hXs;rw[Y7 h1] at hE;rw[hE,Y7 rfl] at hS hV;rw[hS,hV,hE];refine⟨_,.same _ (qK (.mk v1 v2 v3 v4) _ _ _), ?_⟩;refine Z ?_;exact cN (r':=.tup [uN (.mk v1 v2 v3 v4) (-1) X 0,.int .i64 0]) (.same _ (.tup' (.cons (qK (.mk v1 v2 v3 v4) _ _ _) (.cons nn .nil)))) ⟨⟨.mk v1 v2 v3 v4,-1,0,X,rfl,rfl,hXs⟩,rfl,rfl⟩
   .simp only at h1;rw[Y3 om] at hE;rw[Y3 om] at hS hV;rw[hS,hV,hE];refine⟨_,.same _ (qK vZ _ _ _), ?_⟩;refine Z ?_;exact cN (r':=.tup [uN vZ 0 [] 0,.int .i64 11]) (.tup' (.cons (.agg' (.s (.s (.s (.cons (.nil 4) (.s (.cons (.nil 3) (.s .nil)))))))) (.s .nil))) ⟨⟨vZ,0,0,[],rfl,rfl,λ_=>rfl⟩,rfl,rfl⟩
   .simp only at h1;rw[Y3 om] at hE;rw[Y3 om] at hS hV;rw[hS,hV,hE];refine⟨_,.same _ (qK vZ _ _ _), ?_⟩;refine Z ?_;exact cN (r':=.tup [uN vZ 0 [] 0,.int .i64 11]) (.tup' (.cons (.agg' (.s (.s (.s (.cons (.nil 4) (.s (.cons (.nil 3) (.s .nil)))))))) (.s .nil))) ⟨⟨vZ,0,0,[],rfl,rfl,λ_=>rfl⟩,rfl,rfl⟩
theorem PB{A:List Nd}{p:List Int}(h:V1 A p)(hC:∀v:bH,jG v->aU prog [] 48 [cC v] (cC v))(hv:jG (AZ A p)):aU prog [] 15 [.agg [.il 12 (bG A)],.il 1 (aY p)] (.tup [cC (AZ A p),.int .i64 (mQ A p)]):=by
 have hW:=Vh h false;have hC:=hC _ hv;have nA:NN (.il 12 (bG A)):=.il' (bB A);have np:NN (.il 1 (aY p)):=.il' (aW p);generalize AZ A p=V at *;generalize mQ A p=aa at *;have nV:=bZ V;refine aD bI func15 rfl ?_;refine Z ?_;refine aJ.go0 hW ?_ (.cons (.agg' (.cons nA .nil)) (.cons np (.cons nn .nil)));rintro r m k ⟨⟨v,node,c,S',rfl,rfl,-⟩,rfl,rfl⟩;obtain⟨v1,v2,v3,v4⟩:=v;refine⟨_,.same _ (.tup' (.cons (qK (.mk v1 v2 v3 v4) node S' c) (.cons nn .nil))), ?_⟩;refine Rt ?_;refine hC.go ?_ (.cons nV .nil) nV;refine Rt ?_;exact aA (.tup' (.cons nV (.cons nn .nil))) ⟨rfl,rfl,rfl⟩
theorem Yt{A:List Nd}{p:List Int}(h:Iz A p)(hs:(f9 p (fS A p)).stop≠-2):aU prog [] 28 [.agg [.il 12 (bG A)],.il 1 (aY p)] (.tup [.int .i64 (f9 p (fS A p)).stop,.int .i64 0]):=by
 have hv:=G0 A ⟨h.tree.tin.ok,h.tree.tin.val,h.tree.tin.vals,λx hx=>by have:=h.tree.tin.vlen x hx;omega,λx hx=>by have:=h.tree.tin.klen x hx;omega⟩;rw[h.tree.val] at hv;have hR:=Tj h false;have nA:NN (.il 12 (bG A)):=.il' (bB A);have np:NN (.il 1 (aY p)):=.il' (aW p);generalize f9 p (fS A p)=R at *;obtain⟨⟨v1,v2,v3,v4⟩,u,st,sp⟩:=R;simp only at hs;refine aD bI func28 rfl ?_;refine Z ?_;refine hv.go ?_ (.cons (.agg' (.cons nA .nil)) .nil) nn;refine Rt ?_;refine aJ.go0 hR ?_ (.cons (.agg' (.cons nA .nil)) (.cons np (.cons nn .nil)));rintro r m k ⟨rfl,rfl,hr⟩;rcases hr with⟨h1,X,hX,hXs,rfl⟩|⟨n,h1,rfl⟩|⟨h1,rfl⟩
 .simp only at h1;subst h1;refine⟨_,.same _ (qK (.mk v1 v2 v3 v4) _ _ _), ?_⟩;refine Rt ?_;exact aA (.tup' (.cons nn (.cons nn .nil))) ⟨rfl,rfl,rfl⟩
 .simp only at h1;subst h1;refine⟨_,.same _ (qK vZ _ _ _), ?_⟩;refine Rt ?_;exact aA (.tup' (.cons nn (.cons nn .nil))) ⟨rfl,rfl,rfl⟩
 .exact absurd h1 hs
theorem Xu{A:List Nd}(h:VT A)(raw:List Int)(hr:raw.length<=17592186043904):aU prog [] 6 [.agg [.il 12 (bG A)],.il 1 (aY raw)] (.tup [.il 1 (aY (iO A raw)),.int .i64 0]):=by
 have hv:=G0 A ⟨h.tin.ok,h.tin.val,h.tin.vals,λx hx=>by have:=h.tin.vlen x hx;omega,λx hx=>by have:=h.tin.klen x hx;omega⟩;rw[h.val] at hv;have hN:=Wf h;have hR:=Wk h.pos (by have:=h.tin.len;omega);have hF:=X4 h raw hr;have nA:NN (.il 12 (bG A)):=.il' (bB A);have nr:NN (.il 1 (aY raw)):=.il' (aW raw);have nf:NN (.il 1 (aY (iO A raw))):=.il' (aW _);have nw:=iP A;have lA:=cH A;have hp:=h.pos;generalize iO A raw=q at *;refine aD bI func6 rfl ?_;refine Z ?_;refine hv.go ?_ (.cons (.agg' (.cons nA .nil)) .nil) nn;refine Rt ?_;refine aL (λhb=>?_) (λhb=>?_)
 .exfalso;rw[lA] at hb;simp at hb;first|omega|(rw[hb] at hp;simp at hp)
 refine Rt ?_;refine hN.go ?_ (.cons (.agg' (.cons nA .nil)) .nil) nw;refine Rt ?_;refine hR.go ?_ (.cons nw .nil) nn;refine Rt ?_;refine hF.go ?_ (.cons nw (.cons nn (.cons nr .nil))) nf;refine Rt ?_;exact aA (.tup' (.cons nf (.cons nn .nil))) ⟨rfl,rfl,rfl⟩
theorem SS{G:Type}(l:List G)(xs:List AV)(h:xs.length=l.length):(((xs.length:Nat):Int) == 0)=decide (l.length=0):=by rw[h,Zv];simp
def vT(zs:List AV)(l:List AV)(k:Nat):List AV:=l.take k++zs.drop k
theorem Nu{zs l:List AV}(h:zs.length=l.length):vT zs l l.length=l:=by simp[vT];omega
theorem M1{zs l:List AV}(h:zs.length=l.length){k:Nat}(hk:k<l.length):(vT zs l k)[k]? = zs[k]? := by
 unfold vT;rw[ZS (by rw[ZQ];omega)];rw[ZQ,Z5 (aAE hk),aAo,Zd,Zs]
theorem ND{zs l:List AV}(h:zs.length=l.length){k:Nat}(hk:k<l.length){v:AV}(hv:l[k]? = some v):(vT zs l k).set k v=vT zs l (k+1):=by
 unfold vT;rw[Z2 _ _ (by rw[ZQ];omega)];rw[ZQ,Z5 (aAE hk),aAo,List.drop_eq_getElem_cons (by omega:k<zs.length),aAJ,aB2,hv];simp
theorem Sr{mem:aR}{J:List (Nat × Nat)}{x y:AV}(h:Jh mem J x y)(n:Nat):rY mem J (List.replicate n x) (List.replicate n y):=by
 refine⟨sq,λi a b ha hb=>?_⟩;rw[aAr] at ha hb;split at ha
 .rename_i e;rw[Y7 e] at hb;cases ha;cases hb;exact h
 .cases ha
theorem Vj{x:AV}(h:NN x)(n:Nat):jR (List.replicate n x):=λa ha=>by
 rw[aAw ha];exact h
theorem QI{zs l:List AV}(h1:jR zs)(h2:jR l)(k:Nat):jR (vT zs l k):=λa ha=>by
 rcases ZO.1 ha with ha|ha
 .exact h2 a (Ze ha)
 .exact h1 a (Zn ha)
theorem XD(l:List bH)(hl:l.length<=4294967296)(h:∀v∈l,aU prog [] 48 [cC v] (cC v)):aU prog [] 110 [.il 4 (aQ l),.fn (.func 48) [] []] (.il 4 (aQ l)):=by
 refine aD bI func110 rfl ?_;refine Z ?_;rw[SS l _ (aB l)];by_cases h0:l.length=0
 .rw[Y8 h0];obtain rfl:l=[]:=ZH h0;refine Z ?_;exact cN (r':=.il 4 (aQ [])) (.nil 4) ⟨rfl,rfl,rfl⟩
 .rw[ZG h0];refine Z ?_;rw[aB];refine aK (vF rfl rfl rfl hl rfl) ?_;refine Z ?_;obtain⟨zs,hzs⟩:∃zs,zs=List.replicate l.length (cC (.mk 0 0 [] [])):=⟨_,rfl⟩
  have hzn:jR zs:=by rw[hzs];exact Vj nn _
  have hzl:zs.length=(aQ l).length:=by rw[hzs,aB];simp
  refine bJ.at bI (λk:Nat=>k<=l.length) (λk=>⟨[(0,.il 4 (aQ l)),(1,.fn (.func 48) [] []),(5,.sl 0 0 l.length),(14,.int .i64 l.length),(15,.int .i64 k)],[(0,.row 50 4 (vT zs (aQ l) k))],1,29⟩) (λk=>l.length-k) 0 [(0,0)] sq
   (aH _ rfl ⟨⟨0,_,rfl,rfl,by rw[hzs];exact Sr (x7 0 0 []) _⟩,trivial⟩ ⟨aP (.il' (aX _)),aG,⟨_,rfl,.slE rfl sq⟩,⟨_,rfl,.int (by rw[aB])⟩,aG,trivial⟩) ?_
  have hz0:∀k<l.length,zs[k]? = some (cC (.mk 0 0 [] [])):=λk hk=>by rw[hzs,aAr,Y7 hk]
  clear hzs;intro k hk;refine Z ?_;refine aL (λhb=>?_) (λhb=>?_)
  .have hlt:k<l.length:=su hb
   obtain⟨v1,v2,v3,v4,vm,vg,-,ev⟩:=dU (l:=l) (k:=k) hlt;have hv:=h _ vm;have bx:Nat.blt ((k:Nat):Int).toNat l.length=true:=Y2 (by simp;omega);have bz:(vT zs (aQ l) k)[0+((k:Nat):Int).toNat]? = some (cC (.mk 0 0 [] [])):=by
    rw[<-hz0 k hlt,show 0+((k:Nat):Int).toNat=k by simp];exact M1 hzl (by rw[aB];exact hlt)
   have hs:=ND hzl (k:=k) (by rw[aB];exact hlt) (v:=cC (.mk v1 v2 v3 v4)) (by rw[jH,vg];rfl);refine Z ?_;repeat((first|refine aC ev ?_|refine bK ?_);refine Z ?_)
   refine hv.go ?_;refine Rt ?_;repeat((first|refine aK bx ?_|refine aC bz ?_);refine Rt ?_)
   exact .mk (k+1) [(0,0)] om
    (aH _ rfl ⟨⟨0,_,rfl,rfl,.eq (QI hzn (aX _) _) (by rw[<-hs];simp;rfl)⟩,trivial⟩ ⟨aP (.il' (aX _)),aG,⟨_,rfl,.slE rfl rfl⟩,aG,⟨_,rfl,.w64 om oq⟩,trivial⟩) om
  .have hkl:k=l.length:=by simp at hb;omega
   subst hkl;refine Z ?_;rw[show vT zs (aQ l) l.length=aQ l by rw[<-aB l];exact Nu hzl];exact cN (r':=.il 4 (aQ l)) (.fz' (id:=0) rfl rfl (by rw[aB];omega) (by rw[ZT];exact ZD (by rw[aB];omega)) (aX _)) ⟨rfl,rfl,rfl⟩
theorem J9:∀(f:Nat) (v:bH),bS v<=f->jG v->aU prog [] 48 [cC v] (cC v)
 | 0,.mk k n s l,h,_=>by simp[bS] at h
 | f+1,.mk k n s l,h,hv=>by
  simp only[jG] at hv;have hk:∀v∈l,aU prog [] 48 [cC v] (cC v):=λv hm=>J9 f v (by have:=Ep hm;simp[bS] at h;omega) (pG hv.2.2.2.2 v hm)
  have hc:=XD l hv.2.2.2.1 hk;refine aD bI func48 rfl ?_;refine Z ?_;refine hc.go ?_ (.cons (.il' (aX _)) (.cons nn .nil)) (.il' (aX _));refine Rt ?_;exact aA (bZ (.mk k n s l)) ⟨rfl,rfl,rfl⟩
def EO(v:Int):AB:=.row 27 1 [.int .i64 v]
def KC(i:Nat):AB:=.row 69 1 [.ptr i 0 0]
theorem WA{a b c:Fr}{m n:Nat}(ha:Hg m a)(hb:Hg n b)(hm:m<q6)(hn:n<q6)(h:p7 a b=(c,0)) :
  aJ prog [] 76 [.ptr 0 0 0,lE a,lE b] [(0,EO 0)] 1 λr mm k=>r=lE c/\mm=[(0,EO 0)]/\k=1:=by
 have hM:=X9 a b (TW ha hm) (TW hb hn) (by rw[Lg ha];exact ha.can) (by rw[Lg hb];exact hb.can);rw[Lg ha,Lg hb,h] at hM;have ho:RY (c,0)=c:=rfl;rw[ho] at hM;obtain⟨a1,a2,a3,a4,-,-,ea⟩:=fX a;obtain⟨b1,b2,b3,b4,-,-,eb⟩:=fX b;obtain⟨c1,c2,c3,c4,-,-,ec⟩:=fX c;rw[ea,eb,ec] at hM;rw[ea,eb,ec];refine aD bI func76 rfl ?_;refine Z ?_;refine hM.go ?_ (.cons (zT _ _ _ _) (.cons (zT _ _ _ _) .nil)) (.tup' (.cons (zT _ _ _ _) (.cons nn .nil)));refine Rt ?_;exact bL (n':=1) (m':=[(0,EO 0)]) [(0,0)] rfl ⟨aF 0 (.cons nn .nil),trivial⟩ (.same _ (zT _ _ _ _)) ⟨rfl,rfl,rfl⟩
theorem WG{a b c:Fr}{m n:Nat}(ha:Hg m a)(hb:Hg n b)(hm:m<q6)(hn:n<q6)(h:p7 a b=(c,0)) :
  aJ prog [] 75 [lE a,lE b,.ptr 1 0 0] [(0,EO 0),(1,KC 0)] 2 λr mm k=>r=lE c/\mm=[(0,EO 0),(1,KC 0)]/\k=2:=by
 have hM:=WA ha hb hm hn h;obtain⟨a1,a2,a3,a4,-,-,ea⟩:=fX a;obtain⟨b1,b2,b3,b4,-,-,eb⟩:=fX b;obtain⟨c1,c2,c3,c4,-,-,ec⟩:=fX c;rw[ea,eb,ec] at hM;rw[ea,eb,ec];refine aD bI func75 rfl ?_;refine Z ?_;refine aJ.useI bI [0] hM rfl (.cons (.ptr 0 0 0 0 rfl) (.cons (.same _ (zT _ _ _ _)) (.cons (.same _ (zT _ _ _ _)) .nil))) ⟨aF 0 (.cons nn .nil),trivial⟩ rfl ?_;rintro r mm k ⟨rfl,rfl,rfl⟩;refine⟨zT _ _ _ _,⟨aF 0 (.cons nn .nil),trivial⟩,rfl, ?_⟩;refine Rt ?_;exact bL (n':=2) (m':=[(0,EO 0),(1,KC 0)]) [(0,0),(1,1)] rfl ⟨aF 0 (.cons nn .nil),⟨1,_,rfl,rfl,.cons (.one rfl rfl (.ptr 0 0 0 0 rfl)) .nil⟩,trivial⟩ (.same _ (zT _ _ _ _)) ⟨rfl,rfl,rfl⟩
def rP(A:List Nd)(i j:Nat):AV:=.agg [.il 12 (bG A),.bool false,.il 1 (bA (dg 4294967296 1)),.bool false,.il 1 (bA (dg 4294967296 1)),.fn (.func 73) [] [.ptr i 0 0],.fn (.func 75) [] [.ptr i 0 0],.fn (.func 77) [] [],.fn (.func 72) [] [],.mp j]
def Ym(A:List Nd):aR:=[(0,EO 0),(1,KC 0),(2,.row 75 10 [rP A 1 3]),(3,.mapb [])]
theorem La{mem:aR}{J:List (Nat × Nat)}{A:List Nd}{i j i' j':Nat}(h:lk J i=some i')(h':lk J j=some j'):Jh mem J (rP A i j) (rP A i' j'):=
 .agg (.cons (.same _ (.il' (bB A))) (.s (.cons (.same _ (tU _)) (.s (.cons (.same _ (tU _)) (.cons (.fn _ _ _ _ _ rfl rfl sq (iS.cons (.ptr i i' 0 0 h) .nil).2) (.cons (.fn _ _ _ _ _ rfl rfl sq (iS.cons (.ptr i i' 0 0 h) .nil).2) (.cons (.same _ (.fn _ _ _ sq sq)) (.cons (.same _ (.fn _ _ _ sq sq)) (.cons (.mp j j' h') .nil))))))))))
theorem Py(A:List Nd):aJ prog [] 27 [.agg [.il 12 (bG A)],.ptr 0 0 0] [(0,EO 0)] 1 λr mm k=>r = .ptr 2 0 0/\mm=Ym A/\k=4:=by
 have hO:=Wc .nptr nn;have nA:NN (.il 12 (bG A)):=.il' (bB A);have e1:lE ⟨1,1⟩ = .agg [.bool false,.il 1 (bA (dg 4294967296 1)),.bool false,.il 1 (bA (dg 4294967296 1))]:=rfl;rw[e1] at hO;refine aD bI func27 rfl ?_;refine Z ?_;refine hO.go ?_ (.cons nn .nil) (zT _ _ _ _);refine Rt ?_;exact bL (n':=4) (m':=Ym A) [(0,0),(2,1),(10,2),(8,3)] rfl ⟨aF 0 (.cons nn .nil),⟨2,_,rfl,rfl,.cons (.one rfl rfl (.ptr 0 0 0 0 rfl)) .nil⟩,⟨10,_,rfl,rfl,.cons (La rfl rfl) .nil⟩,⟨8,_,rfl,rfl,rfl,sq⟩,trivial⟩ (.ptr 10 2 0 0 rfl) ⟨rfl,rfl,rfl⟩
theorem XB{A:List Nd}(h:VT A){p:List Int}(hp:uH A p){v:bH}(hV:aU prog [] 15 [.agg [.il 12 (bG A)],.il 1 (aY p)] (.tup [cC v,.int .i64 0]))
  (hAt:∀i,i<p.length->aU prog [] 28 [.agg [.il 12 (bG A)],.il 1 (aY (p.take i))] (.tup [.int .i64 (ER A (p.take i)).stop,.int .i64 0])) :
  aU prog [] 7 [.agg [.il 12 (bG A)],.il 1 (aY p)] (.tup [lE (ES (mP A p)),.int .i64 0]):=by
 have nA:NN (.il 12 (bG A)):=.il' (bB A);have tA:NN (.agg [.il 12 (bG A)]):=.agg' (.cons nA .nil);have np:NN (.il 1 (aY p)):=.il' (aW p);have lp:=aN p;have hCh:=Py A;have hpl:=hp.len;have nv:=bZ v;obtain⟨v1,v2,v3,v4⟩:=v;refine aD bI func7 rfl ?_;refine Z ?_;refine hV.go ?_ (.cons tA (.cons np .nil)) (.tup' (.cons nv (.cons nn .nil)));refine Rt ?_;refine aJ.useN bI [(3,0)] hCh rfl (.cons (.same _ tA) (.cons (.ptr 3 0 0 0 rfl) .nil)) ⟨aF 3 (.cons nn .nil),trivial⟩ rfl ?_;rintro r mm k ⟨rfl,rfl,rfl⟩;refine⟨[(0,3),(1,4),(2,5),(3,6)],.ptr 5 0 0,[(3,EO 0),(4,KC 3),(5,.row 75 10 [rP A 4 6]),(6,.mapb [])],7,.ptr 2 5 0 0 rfl,
  ⟨aF 0 (.cons nn .nil),⟨1,_,rfl,rfl,.cons (.one rfl rfl (.ptr 0 3 0 0 rfl)) .nil⟩,⟨2,_,rfl,rfl,.cons (La rfl rfl) .nil⟩,⟨3,_,rfl,rfl,rfl,sq⟩,trivial⟩,rfl, ?_⟩
 have hfp:=HM h hp;have hfl:=oF A p;have hstep:=λ(i:Nat) (hi:i<p.length)=>IU (mP A p) hfp (k:=i) om om
 have hpr:=λ(i:Nat) (hi:i<=p.length)=>Dm (mP A p) hfp i om om
 have hfi:=λ(i:Nat) (hi:i<p.length)=>hfp _ (Za (show i<(mP A p).length by omega))
 refine Rt ?_;have nz4:jR [.agg [.bool false,.nsl,.bool false,.nsl]]:=.cons (.agg' (.cons nn (.cons nn (.cons nn (.cons nn .nil))))) .nil;have e11:lE (ES ((mP A p).take 0)) = .agg [.bool false,.il 1 (bA (dg 4294967296 1)),.bool false,.il 1 (bA (dg 4294967296 1))]:=rfl;have lA:=cH A;refine bJ.at bI (λk:Nat=>k<=p.length)
  (λk=>⟨[(1,.il 1 (aY p)),(2,.ptr 0 0 0),(4,.ptr 1 0 0),(8,.ptr 2 0 0),(9,.ptr 4 0 0),(10,.ptr 6 0 0),(31,.il 1 (aY p)),(32,.int .i64 p.length),(33,.int .i64 k)],[(0,.row 25 1 [.agg [.il 12 (bG A)]]),(1,.row 34 4 [.agg [.bool false,.nsl,.bool false,.nsl]]),(2,EO 0),(3,KC 2),(4,.row 75 10 [rP A 3 5]),(5,.mapb []),(6,.row 34 4 [lE (ES ((mP A p).take k))])],7,68⟩) (λk=>p.length-k) 0 [(0,0),(1,1),(3,2),(4,3),(5,4),(6,5),(7,6)] sq
  (aH _ rfl ⟨aF 0 (.cons tA .nil),aF 1 nz4,aF 3 (.cons nn .nil),⟨4,_,rfl,rfl,.cons (.one rfl rfl (.ptr 3 2 0 0 rfl)) .nil⟩,⟨5,_,rfl,rfl,.cons (La rfl rfl) .nil⟩,⟨6,_,rfl,rfl,rfl,sq⟩,⟨7,_,rfl,rfl,by rw[e11];exact .same (.cons (zT _ _ _ _) .nil)⟩,trivial⟩
   ⟨aP np,aM,aM,aM,aM,aM,aP np,⟨_,rfl,.int (by simp[lp])⟩,aG,trivial⟩) ?_
 intro k hk;refine Z ?_;refine aL (λhb=>?_) (λhb=>?_)
 .rw[hb];have hlt:k<p.length:=by have:=Zf hb;omega
  have ek:(aY p)[((k:Nat):Int).toNat]? = some (.int .i64 (p.getD k 0)):=by
   rw[Y1,bU,Yz hlt,Y0,Yz hlt];rfl
  obtain⟨n,n1,n2,n3,n4,n5⟩:=hp.step k hlt;have hA:=hAt k hlt;rw[n2] at hA;have hC:=Ri h n1 n3 n4 n5;have hget:=Cu (A:=A) (p:=p) (i:=k) om;rw[n2,Y1] at hget;rw[<-hget] at hC;have hst:=hstep k hlt;have hMm:=WG (hpr k hk) (hfi k hlt) (qF om) (by have:=qF (k:=1) om;simpa using this) hst;have en:(bG A)[((n:Nat):Int).toNat]? = some (dM (aI A n)):=by rw[Y1,bG,Zx,cS n1];rfl
  have nx:=bP (aI A n);have npt:NN (.il 1 (aY (p.take k))):=.il' (aW _);generalize (mP A p)[k]'_=F at *;generalize ES ((mP A p).take k)=a at *;generalize hbd:ES ((mP A p).take (k+1))=b at *;generalize p.getD k 0=c at *;have nF:=wX F;obtain⟨a1,a2,a3,a4,-,-,ea⟩:=fX a;obtain⟨b1,b2,b3,b4,-,-,eb⟩:=fX b;obtain⟨c1,c2,c3,c4,-,-,ec⟩:=fX F;rw[ea,eb,ec] at hMm;rw[ec] at hC nF;rw[ea];refine Z ?_;repeat((first|refine aC ek ?_|refine bK ?_);refine Z ?_)
  refine aK (by rw[lp,Y2 om,Y2 (by simp;omega),Y2 om];rfl) ?_;rw[show List.take (((k:Nat):Int).toNat-0) (List.drop 0 (aY p))=aY (p.take k) by simp[aY,List.map_take]];refine Z ?_;refine hA.go ?_ (.cons tA (.cons npt .nil)) (.tup' (.cons nn (.cons nn .nil)));refine Rt ?_;repeat(refine aC ek ?_;refine Rt ?_)
  refine aC en ?_;refine Rt ?_;repeat(refine aC en ?_;refine Rt ?_)
  refine hC.go ?_ (.cons (.ip' nx) (.cons nn .nil)) nF;refine Rt ?_;repeat(refine aC en ?_;refine Rt ?_)
  refine aJ.useN bI [(2,0),(3,1)] hMm rfl (.cons (.same _ (zT _ _ _ _)) (.cons (.same _ (zT _ _ _ _)) (.cons (.ptr 3 1 0 0 rfl) .nil))) ⟨aF 2 (.cons nn .nil),⟨3,_,rfl,rfl,.cons (.one rfl rfl (.ptr 2 0 0 0 rfl)) .nil⟩,trivial⟩ rfl ?_;rintro r mm kk ⟨rfl,rfl,rfl⟩;refine⟨[(0,2),(1,3)],.agg [.bool b1,.il 1 (bA b2),.bool b3,.il 1 (bA b4)],[(2,EO 0),(3,KC 2)],34,.same _ (zT _ _ _ _),⟨aF 0 (.cons nn .nil),⟨1,_,rfl,rfl,.cons (.one rfl rfl (.ptr 0 2 0 0 rfl)) .nil⟩,trivial⟩,rfl, ?_⟩;refine Rt ?_;repeat(refine aC en ?_;refine Rt ?_)
  exact .mk (k+1) [(0,0),(1,1),(2,2),(3,3),(4,4),(5,5),(6,6)] om (aH _ rfl ⟨aF 0 (.cons tA .nil),aF 1 nz4,aF 2 (.cons nn .nil),⟨3,_,rfl,rfl,.cons (.one rfl rfl (.ptr 2 2 0 0 rfl)) .nil⟩,⟨4,_,rfl,rfl,.cons (La rfl rfl) .nil⟩,⟨5,_,rfl,rfl,rfl,sq⟩,⟨6,_,rfl,rfl,.eq (.cons (wX _) .nil) (by rw[hbd,eb])⟩,trivial⟩
   ⟨aP np,aM,aM,aM,aM,aM,aP np,aG,⟨_,rfl,.w64 om oq⟩,trivial⟩) om
 .rw[hb];have:k=p.length:=by have:=aAa hb;omega
  subst this;refine Z ?_;exact cN (r':=.tup [lE (ES (mP A p)),.int .i64 0]) (.tup' (.cons (.eq (wX _) (by rw[ZD om];rfl)) (.s .nil))) ⟨rfl,rfl,rfl⟩
theorem GJ{A:List Nd}{p:List Int}{v:bH}{e:Int}(he:e≠0)(hV:aU prog [] 15 [.agg [.il 12 (bG A)],.il 1 (aY p)] (.tup [cC v,.int .i64 e])) :
  aU prog [] 7 [.agg [.il 12 (bG A)],.il 1 (aY p)] (.tup [lE Ou,.int .i64 e]):=by
 have tA:NN (.agg [.il 12 (bG A)]):=.agg' (.cons (.il' (bB A)) .nil);have np:NN (.il 1 (aY p)):=.il' (aW p);have nv:=bZ v;obtain⟨v1,v2,v3,v4⟩:=v;rw[vH];refine aD bI func7 rfl ?_;refine Z ?_;refine hV.go ?_ (.cons tA (.cons np .nil)) (.tup' (.cons nv (.cons nn .nil)));refine Rt ?_;rw[show (e != 0)=true by simpa using he];refine Rt ?_;exact cN (r':=.tup [.agg [.bool false,.il 1 [],.bool false,.il 1 []],.int .i64 e]) (.tup' (.cons OY (.s .nil))) ⟨rfl,rfl,rfl⟩
structure FC(a:Fr):Prop where
 can:Go.Ax.Can a
 num:eY a.p=true
 den:eY (a.q:Int)=true
theorem FC.fp{a:Fr}(h:FC a):FP a:=⟨h.num,by unfold Fr.den;rw[Y3 (by have:=h.can.pos;omega)];exact h.den⟩
theorem FC.lf{a:Fr}(h:FC a):LF 200000 a:=by
 have h1:nW a.p.natAbs<=512:=v8 h.num;have h2:nW (a.q:Int).natAbs<=512:=v8 h.den;rw[ZM] at h2;have h3:=HN a.p.natAbs;have h4:=HN a.q;exact⟨om,om⟩
structure TF(t:W3):Prop where
 hit:FC t.hit
 miss:FC t.miss
 upper:FC t.upper
 lower:FC t.lower
 ratio:FC t.ratio
 runs:t.runs<=1099511627776
 hits:t.hits<=1099511627776
theorem O2{m:Nat}{a:Fr}(h:Hg m a)(hm:m<q6):FC a:=by
 have h1:=h.pos;have h2:=h.le;have h3:=h.lt;refine⟨h.can, ?_, ?_⟩<;>(unfold eY;exact Y8 om)
theorem G4{z:Int}(h:i64 z):(dg 10000 z.natAbs).length<=800000:=by
 have h1:eY z=true:=by
  unfold eY;have:=qF (k:=2) om;rw[show ((2:Nat) ^ 40) ^ 2=1208925819614629174706176 by decide] at this;exact Y8 (by have:=h.1;have:=h.2;omega)
 have h2:nW z.natAbs<=512:=v8 h1;have h3:=HN z.natAbs;omega
theorem Uc(l:List Int)(hl:l.length<=2000)(hs:∀k,i64 (q7 (l.take k))):aU prog [] 40 [.il 1 (aY l)] (.int .i64 (q7 l)):=by
 have nl:NN (.il 1 (aY l)):=.il' (aW l);have ll:=aN l;refine aD bI func40 rfl ?_;refine Z ?_;refine bJ.at bI (λk:Nat=>k<=l.length) (λk=>⟨[(0,.il 1 (aY l)),(3,.int .i64 (q7 (l.take k))),(4,.int .i64 k)],[],0,18⟩) (λk=>l.length-k) 0 [] sq
  (aH _ rfl trivial ⟨aP nl,aG,aG,trivial⟩) ?_
 intro k hk;refine Z ?_;refine aL (λhb=>?_) (λhb=>?_)
 .rw[hb];have hlt:k<l.length:=by have:=Zf hb;omega
  have ek:(aY l)[((k:Nat):Int).toNat]? = some (.int .i64 l[k]):=by rw[Y1,bU,Yz hlt];rfl
  have es:q7 (l.take (k+1))=q7 (l.take k)+l[k]:=by unfold q7;rw[ZE hlt,Z4];rfl
  have hsi:=hs (k+1);rw[es] at hsi;generalize l[k]=z at ek es hsi;refine Z ?_;repeat((first|refine aC ek ?_|refine bK ?_);refine Z ?_)
  exact .mk (k+1) [] om (aH _ rfl trivial ⟨aP nl,⟨_,rfl,.w64 es.symm (by rw[es];exact hsi)⟩,⟨_,rfl,.w64 om oq⟩,trivial⟩) om
 .rw[hb];have:k=l.length:=by have:=aAa hb;omega
  subst this;refine Z ?_;exact cN (r':=.int .i64 (q7 l)) (.int (by rw[ZK])) ⟨rfl,rfl,rfl⟩
theorem Vt{A:List Nd}(h:VT A){p:List Int}(hp:uH A p)(hRd:∀i,i<p.length->aJ prog [] 37 [.agg [.il 12 (bG A)],.il 1 (aY (p.take i))] [] 0 (Us (ER A (p.take i)))) :
  aU prog [] 10 [.agg [.il 12 (bG A)],.il 1 (aY p)] (s7 (ES (mP A p))):=by
 have nA:NN (.il 12 (bG A)):=.il' (bB A);have tA:NN (.agg [.il 12 (bG A)]):=.agg' (.cons nA .nil);have np:NN (.il 1 (aY p)):=.il' (aW p);have lp:=aN p;have hpl:=hp.len;have hO:=Yl 1 oq;have hfp:=HM h hp;have hfl:=oF A p;have hstep:=λ(i:Nat) (hi:i<p.length)=>IU (mP A p) hfp (k:=i) om om
 have hpr:=λ(i:Nat) (hi:i<=p.length)=>Dm (mP A p) hfp i om om
 have hfi:=λ(i:Nat) (hi:i<p.length)=>hfp _ (Za (show i<(mP A p).length by omega))
 have e1:ES ((mP A p).take 0)=⟨1,1⟩:=rfl;refine aD bI func10 rfl ?_;refine Z ?_;obtain⟨o1,o2,o3,o4,-,-,eo⟩:=g6 ⟨1,1⟩;rw[eo] at hO;refine hO.go ?_ (.cons nn .nil) (HW _ _ _ _);refine Rt ?_;have nz4:jR [.agg [.bool false,.nsl,.bool false,.nsl]]:=.cons (.agg' (.cons nn (.cons nn (.cons nn (.cons nn .nil))))) .nil;refine bJ.at bI (λk:Nat=>k<=p.length)
  (λk=>⟨[(1,.il 1 (aY p)),(2,.ptr 0 0 0),(4,.ptr 1 0 0),(5,.ptr 2 0 0),(6,.int .i64 k)],[(0,.row 25 1 [.agg [.il 12 (bG A)]]),(1,.row 42 4 [.agg [.bool false,.nsl,.bool false,.nsl]]),(2,.row 42 4 [s7 (ES ((mP A p).take k))])],3,66⟩) (λk=>p.length-k) 0 [(0,0),(1,1),(2,2)] sq
  (aH _ rfl ⟨aF 0 (.cons tA .nil),aF 1 nz4,⟨2,_,rfl,rfl,.eq (.cons (qI _) .nil) (by rw[e1,eo])⟩,trivial⟩
   ⟨aP np,aM,aM,aM,aG,trivial⟩) ?_
 intro k hk;refine Z ?_;refine aL (λhb=>?_) (λhb=>?_)
 .rw[hb];have hlt:k<p.length:=by have:=Zf hb;omega
  have ek:(aY p)[((k:Nat):Int).toNat]? = some (.int .i64 (p.getD k 0)):=by
   rw[Y1,bU,Yz hlt,Y0,Yz hlt];rfl
  obtain⟨n,n1,n2,n3,n4,n5⟩:=hp.step k hlt;have hR:=hRd k hlt;have hget:=Cu (A:=A) (p:=p) (i:=k) om;rw[n2,Y1] at hget;have hst:=hstep k hlt;have l1:=(O2 (hpr k hk) (qF om)).lf;have l2:=(O2 (hfi k hlt) (by have:=qF (k:=1) om;simpa using this)).lf;have q1:=(hpr k hk).can.pos;have q2:=(hfi k hlt).can.pos;have hMm:=X3 _ _ l1 l2 q1 q2;rw[hst] at hMm;have en:(bG A)[((n:Nat):Int).toNat]? = some (dM (aI A n)):=by rw[Y1,bG,Zx,cS n1];rfl
  have nx:=bP (aI A n);have npt:NN (.il 1 (aY (p.take k))):=.il' (aW _);have g:=h.node (cS n1);have hwts:=yJ g.node.num;have hwl:=λh2=>h.wlen (cS n1) h2
  have hr:=g.opt.rng;have hkl:=g.opt.klen;generalize hFd:(mP A p)[k]'_=F at *;generalize ES ((mP A p).take k)=a at *;generalize hbd:ES ((mP A p).take (k+1))=b at *;generalize hcd:p.getD k 0=c at *;generalize ER A (p.take k)=R at *;generalize aI A n=x at *;obtain⟨⟨r1,r2,r3,r4⟩,ru,rs,rp⟩:=R;simp only at n2;subst n2;have hOf1:=Su 1 oq;have hOf2:=Su (x.hi-x.lo+1) oq;have hMk:=DD 1 (x.hi-x.lo+1) om (G4 oq) (G4 oq);have nm:=qI (mkF 1 (x.hi-x.lo+1));have w1:IntKind.i64.wrap (x.hi-x.lo)=x.hi-x.lo:=bF oq;have w2:IntKind.i64.wrap (x.hi-x.lo+1)=x.hi-x.lo+1:=bF oq;have nr1:=tC 1;have nr2:=tC (x.hi-x.lo+1);obtain⟨xk,xn,lo,hi,ws,ls,vs,ks,⟨y1,y2,y3,y4⟩⟩:=x;simp only at hOf2 hMk nm w1 w2 nr2 hr hkl hwts hwl n3 hget;refine Z ?_;refine aK (by rw[lp,Y2 om,Y2 (by simp;omega),Y2 om];rfl) ?_;rw[show List.take (((k:Nat):Int).toNat-0) (List.drop 0 (aY p))=aY (p.take k) by simp[aY,List.map_take]];refine Z ?_;refine aJ.go0 hR ?_ (.cons tA (.cons npt .nil));rintro r mm kk ⟨rfl,rfl,rfl⟩;refine⟨.agg [.int .i64 r1,.int .i64 r2,.str r3,.il 4 (aQ r4),.int .i64 ru,.int .i64 n,.il 3 (eI rp)],.agg' (.s (.s (.s (.cons (.same _ (.il' (aX _))) (.s (.s (.cons (.fzR (id:=0) rfl rfl (.same (jD rp)) (gM rp)) .nil))))))), ?_⟩;refine Rt ?_;repeat(refine aC en ?_;refine Rt ?_)
  refine hOf1.go ?_ (.cons nn .nil) nr1;refine Z ?_;rw[w1];refine Z ?_;rw[w2];refine Rt ?_;refine hOf2.go ?_ (.cons nn .nil) nr2;refine Rt ?_;have nb:=qI b;obtain⟨m1,m2,m3,m4,-,-,em⟩:=g6 (mkF 1 (hi-lo+1));rw[em] at hMk nm;refine hMk.go ?_ (.cons nr1 (.cons nr2 .nil)) (.tup' (.cons nm (.cons nn .nil)));refine Rt ?_;by_cases h2:xk=2
  .subst h2;have hF:F=mkF (ws.getD c.toNat 0) (q7 ws):=by rw[hget];unfold Ei;rw[Y7 rfl]
   obtain⟨lw1,lw2⟩:=hwl rfl;have hop:fK (Nd.mk 2 xn lo hi ws ls vs ks (.mk y1 y2 y3 y4))=ks.length:=by unfold fK;rw[Y3 (by show ¬(2:Int)=1;decide)]
   rw[hop] at n5;have hc:c.toNat<ws.length:=om;have h3:=CV ws 0 c.toNat hwts hc;have h4:=(wH ws 0 hwts).2;have h5:1<=ws.getD c.toNat 0/\ws.getD c.toNat 0<=1000:=by
    rw[Y0,Yz hc];exact hwts _ (Za hc)
   have hsum:q7 ws=ws.foldl (· + ·) 0:=rfl;have ec:(aY ws)[c.toNat]? = some (.int .i64 (ws.getD c.toNat 0)):=by
    rw[bU,Yz hc,Y0,Yz hc];rfl
   have hSm:=Uc ws om (λk=>I4 hwts om k);have nw:NN (.il 1 (aY ws)):=.il' (aW ws);generalize ws.getD c.toNat 0=wc at *;generalize q7 ws=sw at *;have hOa:=Su wc oq;have hOb:=Su sw oq;have hMk2:=DD wc sw om (G4 oq) (G4 oq);rw[<-hF] at hMk2;have nra:=tC wc;have nrb:=tC sw;have nF:=qI F;obtain⟨a1,a2,a3,a4,-,-,ea⟩:=g6 a;obtain⟨b1,b2,b3,b4,-,-,eb⟩:=g6 b;obtain⟨c1,c2,c3,c4,-,-,ec'⟩:=g6 F;rw[ea,eb,ec'] at hMm;rw[ec'] at hMk2 nF;rw[ea];refine Rt ?_;repeat(refine aC ek ?_;refine Rt ?_)
   rw[Y8 n4];refine Rt ?_;repeat((first|refine aC ec ?_|refine aC ek ?_);refine Rt ?_)
   refine hOa.go ?_ (.cons nn .nil) nra;refine Rt ?_;repeat((first|refine aC ec ?_|refine aC ek ?_);refine Rt ?_)
   refine hSm.go ?_ (.cons nw .nil) nn;refine Rt ?_;repeat((first|refine aC ec ?_|refine aC ek ?_);refine Rt ?_)
   refine hOb.go ?_ (.cons nn .nil) nrb;refine Rt ?_;repeat((first|refine aC ec ?_|refine aC ek ?_);refine Rt ?_)
   refine hMk2.go ?_ (.cons nra (.cons nrb .nil)) (.tup' (.cons nF (.cons nn .nil)));refine Rt ?_;repeat((first|refine aC ec ?_|refine aC ek ?_);refine Rt ?_)
   refine hMm.go ?_ (.cons (HW _ _ _ _) (.cons (HW _ _ _ _) .nil)) (.tup' (.cons (HW _ _ _ _) (.cons nn .nil)));refine Rt ?_;repeat((first|refine aC ec ?_|refine aC ek ?_);refine Rt ?_)
   exact .mk (k+1) [(0,0),(1,1),(2,2)] om (aH _ rfl ⟨aF 0 (.cons tA .nil),aF 1 nz4,⟨2,_,rfl,rfl,.eq (.cons (qI _) .nil) (by rw[hbd,eb])⟩,trivial⟩ ⟨aP np,aM,aM,aM,⟨_,rfl,.w64 om oq⟩,trivial⟩) om
  .have hF:F=mkF 1 (hi-lo+1):=by rw[hget];unfold Ei;rw[Y3 h2]
   rw[<-hF] at em;obtain⟨a1,a2,a3,a4,-,-,ea⟩:=g6 a;obtain⟨b1,b2,b3,b4,-,-,eb⟩:=g6 b;rw[ea,eb,em] at hMm;rw[ea];refine Z ?_;rw[show (xk == 2)=false by simpa using h2];refine Z ?_;refine hMm.go ?_ (.cons (HW _ _ _ _) (.cons (HW _ _ _ _) .nil)) (.tup' (.cons (HW _ _ _ _) (.cons nn .nil)));refine Rt ?_;repeat(refine aC ek ?_;refine Rt ?_)
   exact .mk (k+1) [(0,0),(1,1),(2,2)] om (aH _ rfl ⟨aF 0 (.cons tA .nil),aF 1 nz4,⟨2,_,rfl,rfl,.eq (.cons (qI _) .nil) (by rw[hbd,eb])⟩,trivial⟩ ⟨aP np,aM,aM,aM,⟨_,rfl,.w64 om oq⟩,trivial⟩) om
 .rw[hb];have:k=p.length:=by have:=aAa hb;omega
  subst this;refine Z ?_;exact cN (r':=s7 (ES (mP A p))) (.eq (qI _) (by rw[ZD om];rfl)) ⟨rfl,rfl,rfl⟩
def l8:List (List UInt8):=[[45,49],[48],[50],[48,50],[45,48],[97],[57,50,50,51,51,55,50,48,51,54,56,53,52,55,55,53,56,48,56],[]]
def LB:List (List UInt8):=[120]::(l8++yY)
theorem VN{s:List UInt8}(h:s∈LB):s.length<=19:=by
 simp only[LB,l8,yY,Z0,Zp,ZC,aB6,or_false] at h;rcases h with rfl|rfl|rfl|rfl|rfl|rfl|rfl|rfl|rfl|rfl|rfl|rfl|rfl<;>simp
theorem S3:∀s∈yY,s∈LB:=λs hs=>by unfold LB;exact ZN _ (aAj _ hs)
theorem WQ(l:List Int)(hl:∀x∈l,i64 x){C:List (Nat × AV)}{mem:aR}{nx:Nat}{K:AV->aR->Nat->Prop}(hk:∀ns:List Nd,kH ns->ns.length<=14->K (.agg [.il 12 (bG ns)]) mem nx):aJ prog C 5 [.il 1 (aY l)] mem nx K:=by
 refine aJ.goG0 (W4 l hl) ?_;rintro r m n ⟨ns,hT,hlen,rfl,rfl,rfl⟩;exact⟨.agg [.il 12 (bG ns)],.agg' (.cons (.fz' (id:=0) rfl rfl (by rw[cH];omega) (by rw[ZT];exact ZD (by rw[cH];omega)) (bB _)) .nil),hk ns hT hlen⟩
theorem Qy(z:Int):tX z=if z<0 then 45::Lib.decDigits z.natAbs else Lib.decDigits z.natAbs:=by
 unfold tX Lib.itoa;split
 .rfl
 .rw[show z.toNat=z.natAbs by omega]
def Xb:Bool->AV
 | true=>.ptr 0 0 0
 | false=>.nptr
abbrev bC(a:AV)(id n:Nat):AB:=.row 166 2 [.agg [a,.sl id 0 n]]
abbrev bM(a:Bool)(s:List UInt8):aR:=[(0,bC (Xb a) 1 s.length),(1,.row 5 1 (gY s))]
def bN(s:List UInt8)(m:aR)(n:Nat):Prop:=m=[(0,bC (.ptr 0 0 0) 2 s.length),(2,.row 5 1 (gY s))]/\n=3
theorem Fv{mem:aR}{J:List (Nat × Nat)}{a:Bool}{i j n:Nat}(h0:lk J 0=some 0)(h1:lk J i=some j):rY mem J [.agg [Xb a,.sl i 0 n]] [.agg [Xb a,.sl j 0 n]]:=
 .cons (.agg (.cons (by cases a;exact .same _ nn;exact .ptr 0 0 0 0 h0) (.cons (.sl i j 0 n h1) .nil))) .nil
theorem QQ(a:Bool)(s:List UInt8):aJ prog [] 163 [.ptr 0 0 0] (bM a s) 2 λr m n=>r = .tup []/\m=bM true s/\n=2:=by
 refine aD bI func163 rfl ?_;cases a with
 | false=>
  refine Z ?_;exact bL (r':=.tup []) (m':=bM true s) (n':=2) [(0,0),(1,1)] rfl ⟨⟨0,_,rfl,rfl,Fv (a:=true) rfl rfl⟩,aF 1 (fP _),trivial⟩ (.same _ nn) ⟨rfl,rfl,rfl⟩
 | true=>
  refine Z ?_;exact bL (r':=.tup []) (m':=bM true s) (n':=2) [(0,0),(1,1)] rfl ⟨⟨0,_,rfl,rfl,Fv (a:=true) rfl rfl⟩,aF 1 (fP _),trivial⟩ (.same _ nn) ⟨rfl,rfl,rfl⟩
theorem LX(a:Bool)(s w:List UInt8)(hs:s.length+w.length<=100000000):aJ prog [] 90 [.ptr 0 0 0,.str w] (bM a s) 2 λr m n=>r = .tup [.int .i64 w.length,.nif]/\bN (s++w) m n:=by
 refine aD bI func90 rfl ?_;refine Z ?_;refine aJ.useI bI [0,1] (QQ a s) rfl (.cons (.ptr 0 0 0 0 rfl) .nil) ⟨⟨0,_,rfl,rfl,Fv rfl rfl⟩,aF 1 (fP _),trivial⟩ rfl ?_;rintro r m n ⟨rfl,rfl,rfl⟩;refine⟨nn,⟨⟨0,_,rfl,rfl,Fv (a:=true) rfl rfl⟩,aF 1 (fP _),trivial⟩,rfl, ?_⟩;refine Z ?_;have e:List.map (λb:UInt8=>AV.int IntKind.u8 (b.toNat:Int)) w=gY w:=rfl;rw[e];refine aK (b8 rfl rfl (iC _).symm (by rw[iC];omega)) ?_;refine Z ?_;exact bL (r':=.tup [.int .i64 w.length,.nif]) (m':=[(0,bC (.ptr 0 0 0) 2 (s++w).length),(2,.row 5 1 (gY (s++w)))]) (n':=3) [(0,0),(2,2)] rfl
  ⟨⟨0,_,rfl,rfl,.cons (.agg (.cons (.ptr 0 0 0 0 rfl) (.cons (.slE rfl (by rw[iC,ZB])) .nil))) .nil⟩,⟨2,_,rfl,rfl,.eq (fP _) (Bs _ _).symm⟩,trivial⟩ (.same _ nn) ⟨rfl,rfl,rfl⟩
theorem XV(a:Bool)(s:List UInt8)(c:UInt8)(hs:s.length<=100000000):aJ prog [] 89 [.ptr 0 0 0,.int .u8 c.toNat] (bM a s) 2 λr m n=>r = .nif/\bN (s++[c]) m n:=by
 refine aD bI func89 rfl ?_;refine Z ?_;refine aJ.useI bI [0,1] (QQ a s) rfl (.cons (.ptr 0 0 0 0 rfl) .nil) ⟨⟨0,_,rfl,rfl,Fv rfl rfl⟩,aF 1 (fP _),trivial⟩ rfl ?_;rintro r m n ⟨rfl,rfl,rfl⟩;refine⟨nn,⟨⟨0,_,rfl,rfl,Fv (a:=true) rfl rfl⟩,aF 1 (fP _),trivial⟩,rfl, ?_⟩;refine Z ?_;refine aK (b8 rfl rfl (iC _).symm (by simp;omega)) ?_;refine Z ?_;exact bL (r':=.nif) (m':=[(0,bC (.ptr 0 0 0) 2 (s++[c]).length),(2,.row 5 1 (gY (s++[c])))]) (n':=3) [(0,0),(3,2)] rfl
  ⟨⟨0,_,rfl,rfl,.cons (.agg (.cons (.ptr 0 0 0 0 rfl) (.cons (.slE rfl sq) .nil))) .nil⟩,⟨3,_,rfl,rfl,.eq (fP _) (by rw[Bs];rfl)⟩,trivial⟩ (.same _ nn) ⟨rfl,rfl,rfl⟩
theorem YK(a:AB)(c:UInt8)(w:List UInt8)(hl:w.length<=9000000000000):rS prog [(0,a),(1,.row 5 1 (gY (c::w)))] 257 (.ptr 1 0 0) (.int .i64 (((c::w).length:Nat):Int))=some (.str (c::w),[(0,a)]):=by
 have e1:(((c::w).length:Nat):Int)=Int.ofNat (w.length+1):=rfl;have hb:nR (List.take (w.length+1) (gY (c::w)))=some (c::w):=by rw[Bd,AC,ZD sq]
 have hce:Tryz.prog.cellsOf 5=1:=by kernel_rfl
 have hbl:Nat.ble (w.length+1) 9223372036854775807=true:=Y2 om;have hq:Nat.beq (c::w).length (w.length+1)=true:=sq
 rw[e1];simp only[rS,lk,Tryz.underlying257,hce,hbl,hb,hq,drop];rfl
theorem TC(s:List UInt8)(hs:s≠[])(hl:s.length<=1000000000):aJ prog [] 91 [.ptr 0 0 0] (bM true s) 2 λr m n=>r = .str s/\m=[]/\n=2:=by
 refine aD bI func91 rfl ?_;obtain⟨c,w,rfl⟩:∃c w,s=c::w:=by
  cases s with
  | nil=>exact absurd rfl hs
  | cons c w=>exact⟨c,w,rfl⟩
 refine Rt ?_;rw[YK _ c w (by simp at hl;omega)];refine Z ?_;exact bL (r':=.str (c::w)) (m':=[]) (n':=2) [] rfl trivial (.same _ nn) ⟨rfl,rfl,rfl⟩
end Go.Proofs.YthggfhnnkclooaaGreatDoor
namespace Go.Ax
open Go
def BC(f:AV->Option AV):List AV->Option (List AV)
 | []=>some []
 | a::r=>match f a with
  | none=>none
  | some b=>match BC f r with
   | none=>none
   | some t=>some (b::t)
def frz:Nat->List (Nat × Nat)->aR->AV->Option AV
 | 0,_,_,_=>none
 | n+1,J,m,v=>match v with
  | .bool b=>some (.bool b)
  | .int k i=>some (.int k i)
  | .str s=>some (.str s)
  | .nptr=>some .nptr
  | .nsl=>some .nsl
  | .nmap=>some .nmap
  | .nfn=>some .nfn
  | .nif=>some .nif
  | .sl id off len=>match lk J id with
   | none=>match lk m id with
    | some (.row t sz xs)=>match Nat.ble (off+len) xs.length with
     | true=>match BC (frz n J m) ((xs.drop off).take len) with
      | some ys=>some (.il sz ys)
      | none=>none
     | false=>none
    | _=>none
   | some _=>none
  | .il sz xs=>match BC (frz n J m) xs with
   | some ys=>some (.il sz ys)
   | none=>none
  | .ifc t v=>match frz n J m v with
   | some v'=>some (.ifc t v')
   | none=>none
  | .agg cs=>match BC (frz n J m) cs with
   | some ys=>some (.agg ys)
   | none=>none
  | .tup cs=>match BC (frz n J m) cs with
   | some ys=>some (.tup ys)
   | none=>none
  | _=>none
structure Aa(m:aR)(J:List (Nat × Nat))(v v':AV):Prop where
 cv:Cv m J v v'
 nn:NN v'
 ce:iS m J v.cells v'.cells
theorem Aa.len{m:aR}{J:List (Nat × Nat)}{v v':AV}(h:Aa m J v v'):v.cells.length=v'.cells.length:=h.ce.1
theorem lC{m:aR}{J:List (Nat × Nat)}{f:AV->Option AV}(hf:∀v v',f v=some v'->Aa m J v v'):∀{l l':List AV},BC f l=some l'->l.length=l'.length/\∀(j:Nat) (a b:AV),l[j]? = some a->l'[j]? = some b->Aa m J a b
 | [],l',h=>by simp only[BC] at h;cases h;exact⟨rfl,λj a b h=>by simp at h⟩
 | a::r,l',h=>by
  simp only[BC] at h;split at h
  .cases h
  .rename_i b hb;split at h
   .cases h
   .rename_i t ht;cases h;obtain⟨h1,h2⟩:=lC hf ht;refine⟨by simp[h1],λj x y hx hy=>?_⟩;cases j with
    | zero=>simp at hx hy;subst hx hy;exact hf _ _ hb
    | succ j=>simp at hx hy;exact h2 j x y hx hy
theorem xE{m:aR}{J:List (Nat × Nat)}{l l':List AV}(h1:l.length=l'.length)(h2:∀(j:Nat) (a b:AV),l[j]? = some a->l'[j]? = some b->Aa m J a b):jR l':=λb hb=>by
 obtain⟨j,hj⟩:=Zl hb;obtain⟨a,ha⟩:=dO h1 hj;exact(h2 j a b ha hj).nn
theorem Aa.one{m:aR}{J:List (Nat × Nat)}{v v':AV}(h1:v.cells=[v])(h2:v'.cells=[v'])(hc:Cv m J v v')(hn:NN v'):Aa m J v v':=
 ⟨hc,hn,by rw[h1,h2];exact iS.cons hc .nil⟩
theorem o7{m:aR}{J:List (Nat × Nat)}:∀(n:Nat) (v v':AV),frz n J m v=some v'->Aa m J v v'
 | 0,v,v',h=>by simp[frz] at h
 | n+1,v,v',h=>by
  have ih:=o7 (m:=m) (J:=J) n;cases v with
  | bool b=>simp only[frz] at h;cases h;exact .one rfl rfl (.same _ (.bool b)) (.bool b)
  | int k i=>simp only[frz] at h;cases h;exact .one rfl rfl (.same _ (.int k i)) (.int k i)
  | str s=>simp only[frz] at h;cases h;exact .one rfl rfl (.same _ (.str s)) (.str s)
  | nptr=>simp only[frz] at h;cases h;exact .one rfl rfl (.same _ .nptr) .nptr
  | nsl=>simp only[frz] at h;cases h;exact .one rfl rfl (.same _ .nsl) .nsl
  | nmap=>simp only[frz] at h;cases h;exact .one rfl rfl (.same _ .nmap) .nmap
  | nfn=>simp only[frz] at h;cases h;exact .one rfl rfl (.same _ .nfn) .nfn
  | nif=>simp only[frz] at h;cases h;exact .one rfl rfl (.same _ .nif) .nif
  | ptr id i j=>simp[frz] at h
  | mp id=>simp[frz] at h
  | ip v=>simp[frz] at h
  | fn f a b=>simp[frz] at h
  | junk=>simp[frz] at h
  | yld id=>simp[frz] at h
  | sl id off len=>
   simp only[frz] at h;split at h
   .rename_i hs;split at h
    .rename_i t sz xs hx;split at h
     .rename_i hle;split at h
      .rename_i ys hy;cases h;have hle:=Y9 hle;obtain⟨h1,h2⟩:=lC ih hy;have hget:∀(i:Nat) (x y:AV),xs[off+i]? = some x->ys[i]? = some y->Aa m J x y:=λi x y hx hy=>by
        refine h2 i x y ?_ hy;have hlt:i<ys.length:=(Y4.1 hy).1;rw[<-h1] at hlt;rw[Zb,Y7 (by simp at hlt;omega),Zd];exact hx
       refine .one rfl rfl (.fz id off len t sz xs ys hx hs hle (by rw[<-h1];simp;omega) (λi x y hx hy=>(hget i x y hx hy).len) λi x y j c c' hx hy hc hc'=>(hget i x y hx hy).ce.2 j c c' hc hc') ?_;exact NN.il' (xE h1 h2)
      .cases h
     .cases h
    .cases h
   .cases h
  | il sz xs=>
   simp only[frz] at h;split at h
   .rename_i ys hy;cases h;obtain⟨h1,h2⟩:=lC ih hy;refine .one rfl rfl (.il sz xs ys h1 (λi x y hx hy=>(h2 i x y hx hy).len) λi x y j c c' hx hy hc hc'=>(h2 i x y hx hy).ce.2 j c c' hc hc') ?_;exact NN.il' (xE h1 h2)
   .cases h
  | ifc t v=>
   simp only[frz] at h;split at h
   .rename_i v' hv;cases h;exact .one rfl rfl (.ifc t v v' (ih v v' hv).cv) (.ifc t v' (ih v v' hv).nn)
   .cases h
  | agg cs=>
   simp only[frz] at h;split at h
   .rename_i ys hy;cases h;obtain⟨h1,h2⟩:=lC ih hy;have hl:iS m J cs ys:=⟨h1,λj c c' hc hc'=>(h2 j c c' hc hc').cv⟩
    exact⟨.agg' hl,.agg' (xE h1 h2),hl⟩
   .cases h
  | tup cs=>
   simp only[frz] at h;split at h
   .rename_i ys hy;cases h;obtain⟨h1,h2⟩:=lC ih hy;have hl:iS m J cs ys:=⟨h1,λj c c' hc hc'=>(h2 j c c' hc hc').cv⟩
    exact .one rfl rfl (.tup' hl) (.tup' (xE h1 h2))
   .cases h
def TS:aR->List (Nat × Nat)
 | []=>[]
 | (i,_)::r=>(i,i)::TS r
theorem VK{mem:aR}:∀{i:Nat} {b:AB},lk mem i=some b->lk (TS mem) i=some i:=by
 induction mem with
 | nil=>intro i b h;simp[lk] at h
 | cons p r ih=>
  intro i b h;obtain⟨j,u⟩:=p;simp only[lk] at h;simp only[TS,lk];split at h
  .rename_i e;rw[Nat.eq_of_beq_eq_true e]
  .exact ih h
def Lr(m:aR):aR->Bool
 | []=>true
 | (i,b)::r=>(match b with
  | .row t sz xs=>match lk m i with
   | some (.row t' sz' xs')=>match BC (frz 30 [] []) xs with
    | some ys=>Nat.beq t t' && (Nat.beq sz sz' && (rJ xs' xs && rJ ys xs))
    | none=>false
   | _=>false
  | _=>false) && Lr m r
theorem Bw{m:aR}(J:List (Nat × Nat)):∀{mem:aR},Lr m mem=true->(∀p∈mem,lk J p.1=some p.1)->cZ m J mem
 | [],h,hs=>trivial
 | (i,b)::r,h,hs=>by
  simp only[Lr,Y6] at h;refine⟨?_,Bw J h.2 λp hp=>hs p (ZN _ hp)⟩;have h:=h.1;split at h
  .rename_i t sz xs;split at h
   .rename_i t' sz' xs' hl;split at h
    .rename_i ys hy;simp only[Y6] at h;obtain⟨h1,h2,h3,h4⟩:=h;have e1:=Nat.eq_of_beq_eq_true h1;have e2:=Nat.eq_of_beq_eq_true h2;have e3:=mC h3;have e4:=mC h4;subst e1 e2 e3 e4;obtain⟨g1,g2⟩:=lC (o7 30) hy;exact⟨i,ys,hs _ (ZX ..),hl,.same (xE g1 g2)⟩
    .cases h
   .cases h
  .cases h
def Yj(mem:aR)(want r:AV)(m:aR):Bool:=
 match frz 30 (TS mem) m r with
 | some v=>match mO v want with
  | true=>Lr m mem
  | false=>false
 | none=>false
def Ye(mem:aR)(want r:AV)(m:aR):Prop:=
 match Yj mem want r m with
 | true=>True
 | false=>False
theorem S0:∀{mem:aR},(mem.map (·.1)).Nodup->∀p∈mem,lk (TS mem) p.1=some p.1:=by
 intro mem hn p hp;have:∃b,lk mem p.1=some b:=by
  clear hn
  induction mem with
  | nil=>cases hp
  | cons q r ih=>
   obtain⟨j,u⟩:=q;simp only[lk];split
   .exact⟨u,rfl⟩
   .rename_i e;rcases ZC.1 hp with rfl|hp
    .simp at e
    .exact ih hp
 obtain⟨b,hb⟩:=this;exact VK hb
def GY(nx:Nat):aR->aR->(aR->aR->Prop)->Prop
 | [],acc,K=>K acc []
 | (i,b)::r,acc,K=>match Nat.ble nx i with
  | true=>GY nx r ((i,b)::acc) K
  | false=>K acc ((i,b)::r)
def Md(f:AV->(AV->Prop)->Prop->Prop):List AV->(List AV->Prop)->Prop->Prop
 | [],K,_=>K []
 | a::r,K,N=>f a (λb=>Md f r (λt=>K (b::t)) N) N
def N2:Nat->aR->AV->(AV->Prop)->Prop->Prop
 | 0,_,_,_,N=>N
 | n+1,m,v,K,N=>match v with
  | .bool b=>K (.bool b)
  | .int k i=>K (.int k i)
  | .str s=>K (.str s)
  | .nptr=>K .nptr
  | .nsl=>K .nsl
  | .nmap=>K .nmap
  | .nfn=>K .nfn
  | .nif=>K .nif
  | .sl id off len=>match lk m id with
   | some (.row t sz xs)=>match Nat.ble (off+len) xs.length with
    | true=>Md (N2 n m) ((xs.drop off).take len) (λys=>K (.il sz ys)) N
    | false=>N
   | _=>N
  | .il sz xs=>Md (N2 n m) xs (λys=>K (.il sz ys)) N
  | .ifc t v=>N2 n m v (λv'=>K (.ifc t v')) N
  | .agg cs=>Md (N2 n m) cs (λys=>K (.agg ys)) N
  | .tup cs=>Md (N2 n m) cs (λys=>K (.tup ys)) N
  | _=>N
theorem EM{f:AV->(AV->Prop)->Prop->Prop}{g:AV->Option AV}{N:Prop}(hf:∀v K,f v K N->N\/∃v',g v=some v'/\K v'):∀{l:List AV} {K:List AV->Prop},Md f l K N->N\/∃l',BC g l=some l'/\K l'
 | [],K,h=>.inr ⟨[],rfl,h⟩
 | a::r,K,h=>by
  rcases hf a _ h with h|⟨b,h1,h⟩
  .exact .inl h
  .rcases EM hf h with h|⟨t,h2,h⟩
   .exact .inl h
   .exact .inr ⟨b::t,by simp only[BC,h1,h2],h⟩
theorem Tl{m:aR}{N:Prop}:∀(n:Nat) (v:AV) (K:AV->Prop),N2 n m v K N->N\/∃v',frz n [] m v=some v'/\K v'
 | 0,v,K,h=>.inl h
 | n+1,v,K,h=>by
  have ih:=Tl (m:=m) (N:=N) n;cases v with
  | bool b=>exact .inr ⟨_,rfl,h⟩
  | int k i=>exact .inr ⟨_,rfl,h⟩
  | str s=>exact .inr ⟨_,rfl,h⟩
  | nptr=>exact .inr ⟨_,rfl,h⟩
  | nsl=>exact .inr ⟨_,rfl,h⟩
  | nmap=>exact .inr ⟨_,rfl,h⟩
  | nfn=>exact .inr ⟨_,rfl,h⟩
  | nif=>exact .inr ⟨_,rfl,h⟩
  | ptr id i j=>exact .inl h
  | mp id=>exact .inl h
  | ip v=>exact .inl h
  | fn f a b=>exact .inl h
  | junk=>exact .inl h
  | yld id=>exact .inl h
  | sl id off len=>
   simp only[N2] at h;split at h
   .rename_i t sz xs hx;split at h
    .rename_i hle;rcases EM ih h with h|⟨ys,h1,h⟩
     .exact .inl h
     .exact .inr ⟨_,by simp only[frz,lk,hx,hle,h1],h⟩
    .exact .inl h
   .exact .inl h
  | il sz xs=>
   simp only[N2] at h;rcases EM ih h with h|⟨ys,h1,h⟩
   .exact .inl h
   .exact .inr ⟨_,by simp only[frz,h1],h⟩
  | ifc t v=>
   simp only[N2] at h;rcases ih v _ h with h|⟨v',h1,h⟩
   .exact .inl h
   .exact .inr ⟨_,by simp only[frz,h1],h⟩
  | agg cs=>
   simp only[N2] at h;rcases EM ih h with h|⟨ys,h1,h⟩
   .exact .inl h
   .exact .inr ⟨_,by simp only[frz,h1],h⟩
  | tup cs=>
   simp only[N2] at h;rcases EM ih h with h|⟨ys,h1,h⟩
   .exact .inl h
   .exact .inr ⟨_,by simp only[frz,h1],h⟩
def Yh(nx:Nat)(K:AV->aR->Nat->Prop)(r:AV)(m:aR)(n:Nat):Prop:=
 GY nx m [] λm1 rest=>N2 60 m1 r (λr'=>K r' rest n) (K r m n)
theorem Ia{nx:Nat}:∀{m acc:aR} {K:aR->aR->Prop},GY nx m acc K->∃m0 rest,m=m0++rest/\K (m0.reverse++acc) rest
 | [],acc,K,h=>⟨[],[],rfl,h⟩
 | (i,b)::r,acc,K,h=>by
  simp only[GY] at h;split at h
  .obtain⟨m0,rest,h1,h2⟩:=Ia h;exact⟨(i,b)::m0,rest,by rw[h1];rfl,su h2⟩
  .exact⟨[],(i,b)::r,rfl,h⟩
theorem MR.sub{C:List (Nat × AV)}{X:Nat->Prop}{E:Nat->dP}{D:Nat->Prop}{mem rest:aR}{w:World}(hm:MR C X E D mem w)(hs:∀p∈rest,p∈mem)(hn:(rest.map (·.1)).Nodup):MR C X E D rest w:=by
 have ho:∀b,¬OX X E mem b->¬OX X E rest b:=by
  rintro b h (h'|⟨p,hp,h1,h2⟩)
  .exact h (.inl h')
  .exact h (.inr ⟨p,hs p hp,h1,h2⟩)
 refine⟨λp h=>hm.low p (hs p h),λp h hn=>?_,λp h=>hm.emp p (hs p h),λp h q h'=>hm.inj p (hs p h) q (hs q h'),hn,λb hb=>⟨(hm.bar b hb).1,λ⟨p,hp,h1,h2⟩=>(hm.bar b hb).2 ⟨p,hs p hp,h1,h2⟩⟩,λp h=>(hm.glo p h).mono (λ_ _=>rfl) (λ_ h=>h) λb _ h=>⟨ho b h,rfl⟩⟩;obtain⟨o,h1,h2⟩:=hm.blk p (hs p h) hn;exact⟨o,h1,h2.mono (λ_ _=>rfl) (λ_ h=>h) λb _ h=>⟨ho b h,rfl⟩⟩
theorem O4{P:Program}{C:List (Nat × AV)}(hΓ:∀p∈C,NN p.2){F:FuncId}{args:List AV}{mem:aR}{nx:Nat}{K:AV->aR->Nat->Prop}{Kp:Value->aR->Nat->Prop}(h:cD P C F args mem nx (Yh nx K) Kp):cD P C F args mem nx K Kp:=by
 refine⟨λX D E w vs hD hm hv=>(h.run X D E w vs hD hm hv).mono ?_⟩;rintro e w' ⟨m',n',E',hn,hm',hext,hend⟩;rcases hend with⟨r,v,rfl,hq,hr⟩|⟨x,rfl,hq⟩
 .obtain⟨m0,rest,rfl,hq⟩:=Ia hq;rw[aAi] at hq;rcases Tl 60 r _ hq with hq|⟨r',h1,hq⟩
  .exact⟨_,n',E',hn,hm',hext,.inl ⟨r,v,rfl,hq,hr⟩⟩
  .have hnd:=hm'.nod;rw[aA1,aBm] at hnd;obtain⟨d1,d2,d3⟩:=hnd;have hp:vB (m0++rest) m0.reverse rest:=⟨λp h=>Zi _ (aB8.1 h),λp h=>aAj _ h,λp h=>by
    rcases ZO.1 h with h|h
    .exact .inl (aB8.2 h)
    .exact .inr h,λp h1 q h2=>d3 _ (ZW.2 ⟨p,aB8.1 h1,rfl⟩) _ (ZW.2 ⟨q,h2,rfl⟩),by
    rw[List.map_reverse];exact List.pairwise_reverse.2 (d1.imp λh=>Ne.symm h)⟩
   obtain⟨p1,pv⟩:=hm'.part hp;have hF:=o7 (m:=m0.reverse) (J:=[]) 60 r r' h1;obtain⟨-,v1,-⟩:=u9 (J:=[]) (m':=[]) (n':=n') hΓ hD p1 (λp hp=>by cases hp) aCe (λi j k h=>by simp[lk] at h) (λi j h=>by simp[lk] at h);have e:kF [] E' E'=E':=funext λi=>wY (by rintro⟨j,h⟩;simp[lk] at h)
   have hv':=v1 r r' hF.cv v (pv _ _ hr);rw[e] at hv';refine⟨rest,n',E',hn,hm'.sub (λp h=>aAj _ h) d2,⟨hext.le,hext.agree,hext.size,hext.keep,λp h=>hext.fresh p (aAj _ h),hext.env⟩,.inl ⟨r',v,rfl,hq,hv'.mono (λ_ _=>rfl) (λ_ h=>h) λb _ ho=>⟨λh=>ho (.inl ?_),rfl⟩⟩⟩;exact h
 .exact⟨m',n',E',hn,hm',hext,.inr ⟨x,rfl,hq⟩⟩
def V7:List (Nat × List AV × AV)->Nat->List AV->(AV->Prop)->Prop->Prop
 | [],_,_,_,N=>N
 | (ag,as',r)::t,F,args,K,N=>match Nat.beq ag F with
  | true=>match rJ args as' with
   | true=>K r
   | false=>V7 t F args K N
  | false=>V7 t F args K N
def f6(P:Program)(C:List (Nat × AV))(tb:List (Nat × List AV × AV)):Prop:=∀e∈tb,aU P C e.1 e.2.1 e.2.2/\jR e.2.1/\NN e.2.2
theorem Ot{P:Program}{C:List (Nat × AV)}(hΓ:∀p∈C,NN p.2){F:Nat}{args:List AV}{mem:aR}{nx:Nat}{K:AV->aR->Nat->Prop}{N:Prop}:∀{tb:List (Nat × List AV × AV)},f6 P C tb->V7 tb F args (λr=>K r mem nx) N->N\/aJ P C F args mem nx K
 | [],_,h=>.inl h
 | (ag,as',r)::t,ht,h=>by
  have h2:f6 P C t:=λe he=>ht e (ZN _ he)
  simp only[V7] at h;split at h
  .rename_i hG;split at h
   .rename_i he;have e1:=Nat.eq_of_beq_eq_true hG;have e2:=mC he;subst e1 e2;obtain⟨g1,g2,g3⟩:=ht _ (ZX ..);exact .inr (g1.use hΓ g2 g3 h)
   .exact Ot hΓ h2 h
  .exact Ot hΓ h2 h
def oK(P:Program)(C:List (Nat × AV))(tb:List (Nat × List AV × AV))(dl pl:List Nat):Nat->Hk
 | 0=>{ call:=λ_ _ _ _ _ _=>False,loop:=λ_ _ _=>False }
 | n+1=>{
   call:=λF args mem nx K Kp=>V7 tb F args (λr=>K r mem nx) (match Nat.beq F YF with
    | false=>match P.funcs[F]? with
     | some fn=>match fn.body with
      | some c=>match T9 F dl with
       | false=>match T9 F pl with
        | false=>uE fn.ntmps args mem nx λs=>Ct true P C (oK P C tb dl pl n) c s (Je P fn.results.toList K Kp)
        | true=>uE fn.ntmps args mem nx λs=>Ct true P C (oK P C tb dl pl n) c s (Je P fn.results.toList (Yh nx K) Kp)
       | true=>uE fn.ntmps args mem nx λs=>Ka true P C (oK P C tb dl pl n) c s (Dh P C (oK P C tb dl pl n) fn.results.toList K Kp)
      | none=>False
     | none=>False
    | true=>False)
   loop:=λc s Q=>Ct true P C (oK P C tb dl pl n) c s λe s'=>match e with
    | .normal=>(oK P C tb dl pl n).loop c s' Q
    | e=>Q e s' }
theorem Gz(P:Program)(C:List (Nat × AV))(hΓ:∀p∈C,NN p.2){tb:List (Nat × List AV × AV)}(ht:f6 P C tb)(dl pl:List Nat):∀n B,BB P C B (oK P C tb dl pl n) /\
  ∀c s Q,(oK P C tb dl pl n).loop c s Q->∀rd X ds D E a w,(∀i,D i->i<B)->SR C X ds E (dn D B s.nx) s a w->B<=s.nx->Bi rd ds c ->
   Code.roundsIn (FW rd) 0 P c (λe a' w'=>∃(s':St) (E':Nat->dP),Q e s'/\B<=s'.nx/\SR C X ds E' (dn D B s'.nx) s' a' w'/\Ext D E s.mem w E' (dn D B s'.nx) s'.mem w') n a w:=by
 intro n
 induction n with
 | zero=>exact λB=>⟨⟨λ_ _ _ _ _ _ h=>h.elim,λ_ _ _ h=>h.elim⟩,λ_ _ _ h=>h.elim⟩
 | succ n ih=>
  intro B;have hr:∀c s Q,(oK P C tb dl pl (n+1)).loop c s Q->∀rd X ds D E a w,(∀i,D i->i<B)->SR C X ds E (dn D B s.nx) s a w->B<=s.nx->Bi rd ds c ->
    Code.roundsIn (FW rd) 0 P c (λe a' w'=>∃(s':St) (E':Nat->dP),Q e s'/\B<=s'.nx/\SR C X ds E' (dn D B s'.nx) s' a' w'/\Ext D E s.mem w E' (dn D B s'.nx) s'.mem w') (n+1) a w:=by
   intro c s Q h rd X ds D E a w hD hs hB hno;have h':=(iA (ih B).1 c s _ h).run rd X ds D E a w hD hs hB hno;rw[roundsIn_succ];refine wpIn_mono h' ?_;rintro e a1 w1 ⟨s1,ρ1,hq,hB1,hs1,hext⟩;cases e with
   | normal=>
    have key:=(ih B).2 c s1 Q hq rd X ds D ρ1 a1 w1 hD hs1 hB1 hno;refine Bp n a1 w1 _ _ ?_ key;rintro e a2 w2 ⟨s2,ρ2,h1,h2,h3,h4⟩;exact⟨s2,ρ2,h1,h2,h3,hext.trans h4⟩
   | exit id=>exact⟨s1,ρ1,hq,hB1,hs1,hext⟩
   | goto l=>exact⟨s1,ρ1,hq,hB1,hs1,hext⟩
   | ret=>exact⟨s1,ρ1,hq,hB1,hs1,hext⟩
   | panic ch=>exact⟨s1,ρ1,hq,hB1,hs1,hext⟩
   | outgrown=>exact⟨s1,ρ1,hq,hB1,hs1,hext⟩
  refine⟨⟨λF args mem nx K Kp h=>?_,λc s Q h=>⟨λrd X ds D E a w hD hs hB hno=>wpIn_loop_rounds (n+1) (hr c s Q h rd X ds D E a w hD hs hB hno.loop)⟩⟩,hr⟩;simp only[oK] at h;rcases Ot (K:=K) hΓ ht h with h'|h'
  rotate_left
  .exact h'.toP
  clear h;have h:=h';clear h';split at h
  .rename_i hF;split at h
   .rename_i fn hf;split at h
    .rename_i c hc;split at h
     .split at h
      .exact pL hf hc ((iA (ih nx).1 _ _ _ (k9 h)).mono λ_ _ h=>Gy h) hF
      .exact O4 hΓ (pL hf hc ((iA (ih nx).1 _ _ _ (k9 h)).mono λ_ _ h=>Gy h) hF)
     .exact tS hf hc (Kb (λB=>(ih B).1) nx _ _ _ (k9 h)) hF
    .exact h.elim
   .exact h.elim
  .exact h.elim
theorem Dt{P:Program}{C:List (Nat × AV)}(hΓ:∀p∈C,NN p.2){tb:List (Nat × List AV × AV)}(ht:f6 P C tb){F:FuncId}{args:List AV}{mem:aR}{nx:Nat}{Q:AV->aR->Nat->Prop}(dl pl:List Nat)(n:Nat)(h:(oK P C tb dl pl n).call F args mem nx Q λ_ _ _=>False):aJ P C F args mem nx Q:=
 ((Gz P C hΓ ht dl pl n nx).1.call F args mem nx Q _ h).toC λ_ _ _ h=>h
theorem cO{P:Program}{C:List (Nat × AV)}{F:FuncId}{args:List AV}{mem:aR}{nx:Nat}{want:AV}(hΓ:∀p∈C,NN p.2){tb:List (Nat × List AV × AV)}(ht:f6 P C tb)(dl pl:List Nat)(n:Nat)
  (hc:(lU (TS mem) && (kZ mem && (AX nx nx (TS mem) && Nat.ble nx nx)))=true)
  (h:((oK P C tb dl pl n).call F args mem nx (λr m _=>Ye mem want r m) λ_ _ _=>False)=True):aJ P C F args mem nx λr m k=>r=want/\m=mem/\k=nx:=by
 refine aJ.turn hΓ ((Dt hΓ ht dl pl n (by rw[h];trivial)).mono λr m k hk=>?_);unfold Ye at hk;split at hk
 .rename_i hb;unfold Yj at hb;split at hb
  .rename_i v hv;split at hb
   .rename_i he;have e:=AK he;subst e;have hn:(mem.map (·.1)).Nodup:=by
     simp only[Y6] at hc;exact eM hc.2.1
    exact bL (TS mem) hc (Bw _ hb (S0 hn)) (o7 30 r v hv).cv ⟨rfl,rfl,rfl⟩
   .cases hb
  .cases hb
 .exact hk.elim
theorem f6.nil{P:Program}{C:List (Nat × AV)}:f6 P C []:=λe h=>by cases h
theorem f6.cons{P:Program}{C:List (Nat × AV)}{F:Nat}{xs:List AV}{r:AV}{t:List (Nat × List AV × AV)}(h:aU P C F xs r)(h1:BC (frz 30 [] []) xs=some xs)(h2:frz 30 [] [] r=some r)(ht:f6 P C t):f6 P C ((F,xs,r)::t):=by
 intro e he;rcases ZC.1 he with rfl|he
 .obtain⟨g1,g2⟩:=lC (m:=[]) (J:=[]) (o7 30) h1;exact⟨h,xE g1 g2,(o7 (m:=[]) (J:=[]) 30 r r h2).nn⟩
 .exact ht e he
end Go.Ax
