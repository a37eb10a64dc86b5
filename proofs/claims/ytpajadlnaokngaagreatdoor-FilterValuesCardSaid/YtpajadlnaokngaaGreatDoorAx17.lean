/- A part of the proof. -/
import Derived.Test.YtpajadlnaokngaaGreatDoorAx16
set_option linter.unusedVariables false
set_option linter.unusedSimpArgs false
set_option linter.unusedSectionVars false
namespace Go.Proofs.YtpajadlnaokngaaGreatDoor
open Go Go.Ax Go.Proofs Tryz
set_option maxRecDepth 100000
set_option maxHeartbeats 8000000
theorem pS{α β γ:Type}(f:α->β->γ):∀(a:List α) (b:List β) (i:Nat) (x:α) (y:β),b[i]? = some y->List.zipWith f (a.set i x) b=(List.zipWith f a b).set i (f x y)
 | [],b,i,x,y,_=>by simp
 | p::a,[],i,x,y,hy=>by simp at hy
 | p::a,q::b,0,x,y,hy=>by simp at hy;subst hy;simp
 | p::a,q::b,i+1,x,y,hy=>by simp at hy;simp[pS f a b i x y hy]
def kB(kn:List Bool):List AV:=kn.map AV.bool
def lB(L:List fK)(kn:List Bool):List AV:=List.zipWith (fun b (x:fK)=>AV.il 4 (aL (if b=true then x.vals else []))) kn L
def mB(L:List fK)(kn:List Bool):List AV:=List.zipWith (fun b (x:fK)=>AV.bool (b && x.many)) kn L
theorem pE(kn:List Bool):iV (kB kn):=fun a ha=>by
 obtain⟨n,_,rfl⟩:=RD.1 ha;exact .bool _
theorem Gx{α β γ:Type}{f:α->β->γ}{a:List α}{b:List β}{z:γ}(h:z∈List.zipWith f a b):∃x y,z=f x y:=by
 obtain⟨i,hi⟩:=RQ h;rw[Ss] at hi;split at hi
 ·cases hi;exact⟨_,_,rfl⟩
 ·cases hi
theorem qZ(L:List fK)(kn:List Bool):iV (lB L kn):=fun a ha=>by
 obtain⟨x,y,rfl⟩:=Gx ha;exact .il' (aR _)
theorem pI(L:List fK)(kn:List Bool):iV (mB L kn):=fun a ha=>by
 obtain⟨x,y,rfl⟩:=Gx ha;exact .bool _
theorem u7{L:List fK}{i:Nat}(h:i<L.length):L[i]? = some (cD L i):=by
 unfold cD;rw[Qx,Q4,Qq h];rfl
theorem LT{kn:List Bool}{i:Nat}{b:Bool}(h:kn[i]? = some b):(kB kn)[i]? = some (.bool b):=by simp[kB,h]
theorem LV{L:List fK}{kn:List Bool}{i:Nat}{b:Bool}(h:kn[i]? = some b)(hl:i<L.length):(lB L kn)[i]? = some (.il 4 (aL (if b=true then(cD L i).vals else []))):=by
 simp[lB,Ss,h,u7 hl]
theorem Kg{L:List fK}{kn:List Bool}{i:Nat}{b:Bool}(h:kn[i]? = some b)(hl:i<L.length):(mB L kn)[i]? = some (.bool (b && (cD L i).many)):=by
 simp[mB,Ss,h,u7 hl]
theorem Oc(kn:List Bool)(i:Nat)(b:Bool):kB (kn.set i b)=(kB kn).set i (.bool b):=by simp[kB,S6]
theorem N0{L:List fK}(kn:List Bool){i:Nat}(hl:i<L.length):lB L (kn.set i true)=(lB L kn).set i (.il 4 (aL (cD L i).vals)):=by
 unfold lB;rw[pS _ kn L i true _ (u7 hl)];simp
theorem Of{L:List fK}(kn:List Bool){i:Nat}(hl:i<L.length):mB L (kn.set i true)=(mB L kn).set i (.bool (cD L i).many):=by
 unfold mB;rw[pS _ kn L i true _ (u7 hl)];simp
def sM(ns:List Nd)(kn:List Bool):aN:=[(0,.row 119 4 [.agg [.il 12 (aY ns),.sl 1 0 ns.length,.sl 2 0 ns.length,.sl 3 0 ns.length]]),(1,.row 4 1 (kB kn)),(2,.row 29 1 (lB (aH ns) kn)),(3,.row 4 1 (mB (aH ns) kn))]
def uQ(ns:List Nd)(l:fK):AV->aN->Nat->Prop:=fun r m k=>∃kn,kn.length=ns.length/\r = .tup [.il 4 (aL l.vals),.bool (!l.many)]/\m=sM ns kn/\k=4
def sQ(ns:List Nd)(i:Nat):AV->aN->Nat->Prop:=uQ ns (cD (aH ns) i)
theorem x6{mem:aN}{σ:List (Nat × Nat)}{ns:List Nd}{N a b c a' b' c':Nat}(h1:lk σ a=some a')(h2:lk σ b=some b')(h3:lk σ c=some c') :
  r9 mem σ [.agg [.il 12 (aY ns),.sl a 0 N,.sl b 0 N,.sl c 0 N]] [.agg [.il 12 (aY ns),.sl a' 0 N,.sl b' 0 N,.sl c' 0 N]]:=
 .cons (.agg (.cons (.same _ (.il' (aS _))) (.cons (.sl a a' 0 N h1) (.cons (.sl b b' 0 N h2) (.cons (.sl c c' 0 N h3) .nil))))) .nil
theorem dT(ns:List Nd)(kn:List Bool):cP (sM ns kn) (nH [0,1,2,3]) (sM ns kn):=
 ⟨⟨0,_,rfl,rfl,x6 rfl rfl rfl⟩,aJ 1 (pE _),aJ 2 (qZ _ _),aJ 3 (pI _ _),trivial⟩
theorem QM{ns:List Nd}{n:Nat}(h:eU ns n)(i:Nat)(hi:i<n)(kn:List Bool)(hk:kn.length=ns.length)
  (hF:aF prog [] 64 [.ptr 0 0 0,.int .i64 i] (sM ns kn) 4 (sQ ns i)) :
  aF prog [] 28 [.ptr 0 0 0,.int .i64 i] (sM ns kn) 4 (sQ ns i):=by
 have hN:=h.hn;have hL:i<(aH ns).length:=by rw[cN];omega
 have h0:0+((i:Nat):Int).toNat=i:=by simp
 have hg:∀kn:List Bool,kn.length=ns.length->∃b,kn[i]? = some b:=fun kn hk=>⟨kn[i],Qq om⟩
 obtain⟨b,hb⟩:=hg kn hk;have e1:(kB kn)[0+((i:Nat):Int).toNat]? = some (.bool b):=by rw[h0];exact LT hb
 have g1:Nat.blt ((i:Nat):Int).toNat ns.length=true:=Qy (by simp;omega);refine aO bD func28 rfl ?_;refine Rr ?_;repeat((first|refine aK g1 ?_|refine aD e1 ?_);refine Rr ?_)
 have fin:∀(mem:aN) (kn':List Bool),kn'.length=ns.length->cP mem (nH [0,1,2,3]) (sM ns kn')->∀(r:AV) (nx:Nat),Cv mem (nH [0,1,2,3]) r (.tup [.il 4 (aL (cD (aH ns) i).vals),.bool (!(cD (aH ns) i).many)])->nF 4 (sQ ns i) r mem nx:=
  fun mem kn' hk' hM r nx hr=>b8 (n':=4) (m':=sM ns kn') (nH [0,1,2,3]) rfl hM hr ⟨kn',hk',rfl,rfl,rfl⟩
 cases b with
 | true=>
  have e2:(lB (aH ns) kn)[0+((i:Nat):Int).toNat]? = some (.il 4 (aL (cD (aH ns) i).vals)):=by rw[h0,LV hb hL];rfl
  have e3:(mB (aH ns) kn)[0+((i:Nat):Int).toNat]? = some (.bool (cD (aH ns) i).many):=by rw[h0,Kg hb hL];rfl
  refine Rr ?_;repeat((first|refine aK g1 ?_|refine aD e1 ?_|refine aD e2 ?_|refine aD e3 ?_|refine bN ?_);refine Rr ?_)
  exact fin _ kn hk (dT ns kn) _ _ (.same _ nn)
 | false=>
  refine Rr ?_;refine aF.useI bD [0,1,2,3] hF (by rfl) (.cons (.ptr 0 0 0 0 rfl) (.s .nil)) (dT ns kn) (by rfl) ?_;rintro r m k ⟨kn',hk',rfl,rfl,rfl⟩;refine⟨nn,dT ns kn',by rfl, ?_⟩;obtain⟨b',hb'⟩:=hg kn' hk';have e1:(kB kn')[0+((i:Nat):Int).toNat]? = some (.bool b'):=by rw[h0];exact LT hb'
  have e2:=LV hb' hL;have e3:=Kg hb' hL;rw[←h0] at e2 e3;have q1:((kB kn').set (0+((i:Nat):Int).toNat) (.bool true))[0+((i:Nat):Int).toNat]? = some (.bool true):=by rw[h0];exact Ri (by simp[kB];omega)
  have q2:((lB (aH ns) kn').set (0+((i:Nat):Int).toNat) (.il 4 (aL (cD (aH ns) i).vals)))[0+((i:Nat):Int).toNat]? = some (.il 4 (aL (cD (aH ns) i).vals)):=by rw[h0];exact Ri (by simp[lB,List.length_zipWith];omega)
  have q3:((mB (aH ns) kn').set (0+((i:Nat):Int).toNat) (.bool (!(!(cD (aH ns) i).many))))[0+((i:Nat):Int).toNat]? = some (.bool (!(!(cD (aH ns) i).many))):=by rw[h0];exact Ri (by simp[mB,List.length_zipWith];omega)
  refine Rr ?_;repeat((first|refine aK g1 ?_|refine aD e1 ?_|refine aD e2 ?_|refine aD e3 ?_|refine aD q1 ?_|refine aD q2 ?_|refine aD q3 ?_|refine bN ?_|refine bQ.2 ?_);refine Rr ?_)
  rw[h0];refine fin _ (kn'.set i true) (by simp[hk']) ⟨⟨0,_,rfl,rfl,x6 rfl rfl rfl⟩,⟨1,_,rfl,rfl,.eq (pE _) (Oc _ _ _).symm⟩,⟨2,_,rfl,rfl,.eq (qZ _ _) (N0 _ hL).symm⟩,⟨3,_,rfl,rfl,.eq (pI _ _) (by rw[Of _ hL,Bool.not_not])⟩,trivial⟩ _ _ (.eq nn (by rw[Bool.not_not]))
set_option maxHeartbeats 8000000
def Mz(ns:List Nd)(i:Nat):Prop:=∀kn:List Bool,kn.length=ns.length->aF prog [] 28 [.ptr 0 0 0,.int .i64 i] (sM ns kn) 4 (sQ ns i)
theorem x9{ns:List Nd}{l:fK}(mem:aN)(kn':List Bool)(hk':kn'.length=ns.length)(hM:cP mem (nH [0,1,2,3]) (sM ns kn'))(r:AV)(nx:Nat)(hr:Cv mem (nH [0,1,2,3]) r (.tup [.il 4 (aL l.vals),.bool (!l.many)])):nF 4 (uQ ns l) r mem nx:=
 b8 (n':=4) (m':=sM ns kn') (nH [0,1,2,3]) rfl hM hr ⟨kn',hk',rfl,rfl,rfl⟩
theorem OR{ns:List Nd}{n:Nat}(h:eU ns n)(i:Nat)(hi:i<=n)(kids:List Int)(hkl:kids.length<=65536)(hkids:∀k∈kids,0<=k/\k<i)(hOf:∀j<i,Mz ns j)(kn:List Bool)(hk:kn.length=ns.length) :
  aF prog [] 137 [.ptr 0 0 0,.il 1 (aW kids)] (sM ns kn) 4 (uQ ns (jZ (aH ns) kids)):=by
 refine aO bD func137 rfl ?_;refine Rr ?_;refine aZ.at bD (fun p:Nat × List Bool × List aU=>p.1<=kids.length/\p.2.1.length=ns.length/\(kids.take p.1).foldl (bE (aH ns)) ([],false)=(p.2.2,false)/\kD p.2.2/\p.2.2.length<=1024/\∀v∈p.2.2,fY v)
  (fun p=>⟨[(0,.ptr 0 0 0),(6,.il 4 (aL p.2.2)),(11,.il 1 (aW kids)),(12,.int .i64 kids.length),(13,.int .i64 p.1)],sM ns p.2.1,4,33⟩) (fun p=>kids.length-p.1) (0,kn,[]) (nH [0,1,2,3])
  ⟨by simp,hk,by simp,by simp[kD],by simp,by simp⟩
  (aI _ rfl (dT ns kn) ⟨aM,⟨_,rfl,.nil 4⟩,a5 (.il' (aT _)),⟨_,rfl,.int (by rw[aC])⟩,aG,trivial⟩) ?_
 rintro⟨j,kn,out⟩ ⟨hj,hk,hf,hso,hol,hok⟩;simp only at hj hk hf hso hol hok ⊢;refine Rr ?_;refine aE (fun hb=>?_) (fun hb=>?_)
 ·have hlt:j<kids.length:=by simpa using hb
  have e1:(aW kids)[(j:Int).toNat]? = some (.int .i64 kids[j]):=by rw[Q4,bK,Qq hlt];rfl
  have hg:kids[j]? = some kids[j]:=Qq hlt;generalize kids[j]=k at e1 hg;obtain⟨k0,k1⟩:=hkids k (RC hg);obtain⟨k,rfl⟩:=RB k0;have hO:=hOf k om kn hk;have hst:=OZ hg hf;have hvals:=h.vals (k:=k) om om;have hsr:=QJ ns k;simp only[bE,Sy] at hst;unfold sQ at hO;refine Rr ?_;refine aD e1 ?_;refine Rr ?_;refine aF.useI bD [0,1,2,3] hO (by rfl) (.cons (.ptr 0 0 0 0 rfl) (.s .nil)) (dT ns kn) (by rfl) ?_;rintro r m k' ⟨kn',hk',rfl,rfl,rfl⟩;refine⟨nn,dT ns kn',by rfl, ?_⟩;generalize cD (aH ns) k=lk at hst hvals hsr;obtain⟨lv,lm⟩:=lk;simp only at hst hvals hsr;cases lm with
  | true=>
   have hbad:=H7 (bs:=aH ns) (kids:=kids) (j:=j+1) (by rw[hst];rfl);rw[hbad];refine Rr ?_;exact x9 _ kn' hk' (dT ns kn') _ _ (.tup' (.cons (.nil 4) (.s .nil)))
  | false=>
   have hm:=MA out lv om om hok;have hms:=EK hso hsr;rw[←hms] at hst;have hmok:∀v∈c7 out lv,fY v:=fun v hv=>by
    rcases(kZ _ _ _).1 hv with hv|hv
    ·exact hok v hv
    ·exact hvals.2 v hv
   have hmsr:=A3 out lv hso hsr;generalize c7 out lv=mg at *;refine Rr ?_;refine hm.go ?_;refine Rr ?_;refine aE (fun hb2=>?_) (fun hb2=>?_)
   ·have h1:1024<mg.length:=by rw[aA] at hb2;simp at hb2;omega
    have hbad:=H7 (bs:=aH ns) (kids:=kids) (j:=j+1) (by rw[hst];simpa using h1);rw[hbad];refine Rr ?_;exact x9 _ kn' hk' (dT ns kn') _ _ (.tup' (.cons (.nil 4) (.s .nil)))
   ·have h1:mg.length<=1024:=by rw[aA] at hb2;simp at hb2;omega
    refine Rr ?_;exact .mk (j+1,kn',mg) (nH [0,1,2,3]) ⟨by simp only;omega,hk',by simp only;rw[hst];simp;omega,hmsr,h1,hmok⟩
     (aI _ rfl (dT ns kn') ⟨aM,aG,a5 (.il' (aT _)),aG,⟨_,rfl,.wp⟩,trivial⟩) (by simp only;omega)
 ·have hlt:j=kids.length:=by simp at hb;omega
  rw[hlt,RG] at hf;rw[Kc hf];refine Rr ?_;exact x9 _ kn hk (dT ns kn) _ _ (.same _ nn)
def encLs(ls:List (List aU)):List AV:=ls.map fun l=>.il 4 (aL l)
theorem encLs_nn(ls:List (List aU)):iV (encLs ls):=fun a ha=>by
 obtain⟨l,_,rfl⟩:=RD.1 ha;exact .il' (aR _)
theorem encLs_length(ls:List (List aU)):(encLs ls).length=ls.length:=by simp[encLs]
theorem encLs_get{ls:List (List aU)}{i:Nat}{l:List aU}(h:ls[i]? = some l):(encLs ls)[i]? = some (.il 4 (aL l)):=by simp[encLs,h]
def O0(ns:List Nd)(kn:List Bool)(rest:aN):aN:=(0,.row 119 4 [.agg [.il 12 (aY ns),.sl 1 0 ns.length,.sl 2 0 ns.length,.sl 3 0 ns.length]])::(1,.row 4 1 (kB kn))::(2,.row 29 1 (lB (aH ns) kn))::(3,.row 4 1 (mB (aH ns) kn))::rest
theorem d6{mem:aN}{σ:List (Nat × Nat)}{ns:List Nd}{kn:List Bool}{rest:aN}(h0:lk σ 0=some 0)(h1:lk σ 1=some 1)(h2:lk σ 2=some 2)(h3:lk σ 3=some 3)
  (m0:lk mem 0=some (.row 119 4 [.agg [.il 12 (aY ns),.sl 1 0 ns.length,.sl 2 0 ns.length,.sl 3 0 ns.length]])) (m1:lk mem 1=some (.row 4 1 (kB kn))) (m2:lk mem 2=some (.row 29 1 (lB (aH ns) kn))) (m3:lk mem 3=some (.row 4 1 (mB (aH ns) kn)))
  (hr:cP mem σ rest):cP mem σ (O0 ns kn rest):=
 ⟨⟨0,_,h0,m0,x6 h1 h2 h3⟩,⟨1,_,h1,m1,.same (pE _)⟩,⟨2,_,h2,m2,.same (qZ _ _)⟩,⟨3,_,h3,m3,.same (pI _ _)⟩,hr⟩
theorem Aj{mem:aN}{σ:List (Nat × Nat)}:∀m:Nat,r9 mem σ (List.replicate m .nsl) (encLs (List.replicate m []))
 | 0=>.nil
 | m+1=>by
  rw[R7,R7];exact .cons (.one rfl rfl (.nil 4)) (Aj m)
theorem NA(ls:List (List aU))(i:Nat)(l:List aU):encLs (ls.set i l)=(encLs ls).set i (.il 4 (aL l)):=by simp[encLs,S6]
theorem Bz{mem:aN}{σ:List (Nat × Nat)}:∀m:Nat,r9 mem σ (List.replicate m (.agg [.int .i64 0,.int .i64 0,.str [],.nsl])) (aL (List.replicate m (.mk 0 0 [] [])))
 | 0=>.nil
 | m+1=>by
  rw[R7,R7,aL];exact .cons (Bx 0 0 []) (Bz m)
theorem LW{ns:List Nd}{n:Nat}(h:eU ns n)(i:Nat)(hi:i<=n)(x:Nd)(hkl:x.kids.length<=65536)(hkids:∀k∈x.kids,0<=k/\k<i)(hOf:∀j<i,Mz ns j)(kn:List Bool)(hk:kn.length=ns.length) :
  aF prog [] 138 [.ptr 0 0 0,.ip (bL x)] (sM ns kn) 4 (uQ ns (nJ (aH ns) x)):=by
 have hxn:=aQ x;have hpb:=fun(j:Nat) (e:((x.kids.take j).foldl (eJ (aH ns)) (1,false)).2=true)=>Mi (bs:=aH ns) (x:=x) (j:=j) e
 have hpg:=fun(t:Nat) (e:x.kids.foldl (eJ (aH ns)) (1,false)=(t,false))=>Ji (Al ns) (x:=x) (t:=t) e
 have hmade:=fun ks=>Pn x ks
 generalize nJ (aH ns) x=res at hpb hpg ⊢;obtain⟨kind,name,lo,hi',ws,ls,vals,kids,⟨vk,vn,vs,vks⟩⟩:=x;simp only at hkl hkids hpb hpg;refine aO bD func138 rfl ?_;refine Rr ?_;refine aK (bP rfl (bP rfl (bP rfl (bP (RE om) (bP (RE om) (bP (uA rfl om (by simp only[aC];omega)) (RE (by simp only[aC];omega)))))))) ?_;refine Rr ?_;refine aZ.at bD (fun p:Nat × List Bool × Nat × List (List aU)=>p.1<=kids.length/\p.2.1.length=ns.length/\(kids.take p.1).foldl (eJ (aH ns)) (1,false)=(p.2.2.1,false)/\p.2.2.1<=1024/\p.2.2.2.length=kids.length/\(∀(q:Nat) (k:Int),q<p.1->kids[q]? = some k->p.2.2.2[q]? = some (cD (aH ns) k).vals/\(cD (aH ns) k).vals≠[]))
  (fun p=>⟨[(0,.ptr 0 0 0),(1,.ip (bL ⟨kind,name,lo,hi',ws,ls,vals,kids,.mk vk vn vs vks⟩)),(6,.sl 4 0 kids.length),(7,.int .i64 p.2.2.1),(25,.il 1 (aW kids)),(26,.int .i64 kids.length),(27,.int .i64 p.1)],O0 ns p.2.1 [(4,.row 29 1 (encLs p.2.2.2))],5,98⟩)
  (fun p=>kids.length-p.1) (0,kn,1,List.replicate kids.length []) (nH [0,1,2,3,4])
  ⟨by simp,hk,by simp,by simp,by simp,fun q k hq=>by simp at hq⟩
  (aI _ rfl (d6 rfl rfl rfl rfl rfl rfl rfl rfl ⟨⟨4,_,rfl,rfl,.to (Aj kids.length) (by rw[show (((aW kids).length:Nat):Int).toNat=kids.length by rw[aC];simp])⟩,trivial⟩) ⟨aM,a5 (.ip' hxn),⟨_,rfl,.slE rfl (by rw[aC];simp)⟩,aG,a5 (.il' (aT _)),⟨_,rfl,.int (by rw[aC])⟩,aG,trivial⟩) ?_
 rintro⟨j,kn,total,lists⟩ ⟨hj,hk,hf,hto,hll,hls⟩;simp only at hj hk hf hto hll hls ⊢;refine Rr ?_;refine aE (fun hb=>?_) (fun hb=>?_)
 ·have hlt:j<kids.length:=by simpa using hb
  have e1:(aW kids)[(j:Int).toNat]? = some (.int .i64 kids[j]):=by rw[Q4,bK,Qq hlt];rfl
  have hg:kids[j]? = some kids[j]:=Qq hlt;generalize kids[j]=k at e1 hg;obtain⟨k0,k1⟩:=hkids k (RC hg);obtain⟨k,rfl⟩:=RB k0;have hO:=hOf k om kn hk;have hst:=Ov hg hf;have hvals:=h.vals (k:=k) om om;have hne:=h.ne (k:=k) om om;have hls':∀(q:Nat) (k':Int),q<j+1->kids[q]? = some k'->(q<j/\(lists[q]? = some (cD (aH ns) k').vals/\(cD (aH ns) k').vals≠[]))∨(q=j/\k'=k):=fun q k' hq hk'=>by
   rcases Q6 q j with hq'|hq'
   ·exact .inl ⟨hq',hls q k' hq' hk'⟩
   ·have:q=j:=om;subst this;rw[hg] at hk';cases hk';exact .inr ⟨rfl,rfl⟩
  simp only[eJ,Sy] at hst;unfold sQ at hO;refine Rr ?_;refine aD e1 ?_;refine Rr ?_;refine aF.useI bD [0,1,2,3] hO (by rfl) (.cons (.ptr 0 0 0 0 rfl) (.s .nil)) (dT ns kn) (by rfl) ?_;rintro r m k' ⟨kn',hk',rfl,rfl,rfl⟩;refine⟨nn,dT ns kn',by rfl, ?_⟩;obtain⟨lk,hlk⟩:∃lk,lk=cD (aH ns) k:=⟨_,rfl⟩
  rw[←hlk] at hst hvals hne ⊢;obtain⟨lv,lm⟩:=lk;simp only at hst hvals hne;cases lm with
  | true=>
   have hbad:=hpb (j+1) (by rw[hst];rfl);rw[hbad];refine Rr ?_;exact x9 _ kn' hk' (d6 rfl rfl rfl rfl rfl rfl rfl rfl trivial) _ _ (.tup' (.cons (.nil 4) (.s .nil)))
  | false=>
   have hw:IntKind.i64.wrap ((total:Int)*((aL lv).length:Int))=((total*lv.length:Nat):Int):=by
    have:total*lv.length<=1024*1024:=SL hto hvals.1;exact w64 (by rw[aA];simp) ⟨om,om⟩
   refine Rr ?_;rw[hw];refine Rr ?_;refine aE (fun hb2=>?_) (fun hb2=>?_)
   ·have hbad:=hpb (j+1) (by rw[hst];simp at hb2 ⊢;omega);rw[hbad];refine Rr ?_;exact x9 _ kn' hk' (d6 rfl rfl rfl rfl rfl rfl rfl rfl trivial) _ _ (.tup' (.cons (.nil 4) (.s .nil)))
   ·have hto':total*lv.length<=1024:=by simp at hb2;omega
    have h0:0+((j:Nat):Int).toNat=j:=by simp
    have g1:Nat.blt ((j:Nat):Int).toNat kids.length=true:=Qy (by simp;omega);have e3:(encLs lists)[0+((j:Nat):Int).toNat]? = some (.il 4 (aL lists[j])):=by rw[h0];exact encLs_get (Qq om)
    have e4:((encLs lists).set (0+((j:Nat):Int).toNat) (.il 4 (aL lv)))[0+((j:Nat):Int).toNat]? = some (.il 4 (aL lv)):=by rw[h0];exact Ri (by rw[encLs_length];omega)
    refine Rt ?_;repeat((first|refine aK g1 ?_|refine aD e3 ?_|refine aD e4 ?_);refine Rt ?_)
    exact .mk (j+1,kn',total*lv.length,lists.set j lv) (nH [0,1,2,3,4]) ⟨by simp only;omega,hk',by simp only;rw[hst];simp;omega,hto',by simp only[S3];exact hll,fun q k' hq hkq=>by
      simp only at hq ⊢;rcases hls' q k' hq hkq with⟨h1,h2,h3⟩|⟨rfl,rfl⟩
      ·rw[List.getElem?_set_ne om];exact⟨h2,h3⟩
      ·rw[Ri om,←hlk];exact⟨rfl,hne rfl⟩⟩
     (aI _ rfl (d6 rfl rfl rfl rfl rfl rfl rfl rfl ⟨⟨4,_,rfl,rfl,.eq (encLs_nn _) (by rw[h0];exact(NA _ _ _).symm)⟩,trivial⟩) ⟨aM,a5 (.ip' hxn),⟨_,rfl,.slE rfl rfl⟩,aG,a5 (.il' (aT _)),aG,⟨_,rfl,.wp⟩,trivial⟩) (by simp only;omega)
 ·have hlt:j=kids.length:=by simp at hb;omega
  rw[hlt,RG] at hf;obtain⟨hres,hpr⟩:=hpg total hf;rw[hres];have hlv:lists=kids.map fun k=>(cD (aH ns) k).vals:=List.ext_getElem? fun q=>by
   rw[Rl];rcases Q6 q kids.length with hq|hq
   ·rw[(hls q _ om (Qq hq)).1,Qq hq];rfl
   ·rw[Q8 om,Q8 hq];rfl
  have hlne:∀l∈lists,l≠[]:=fun l hl=>by
   rw[hlv] at hl;obtain⟨k,hk,rfl⟩:=RD.1 hl;obtain⟨q,hq⟩:=RQ hk;exact(hls q k (by rw[hlt];exact(Qv.1 hq).1) hq).2
  have hllen:∀l∈lists,l.length<=1024:=fun l hl=>by
   rw[hlv] at hl;obtain⟨k,hk,rfl⟩:=RD.1 hl;obtain⟨k0,k1⟩:=hkids k hk;exact(h.vals k0 om).1
  rw[←hlv] at hpr ⊢;clear hpb hpg hls hlv hres hf;refine Rr ?_;refine aK (bP rfl (bP rfl (bP rfl (bP rfl (bP (RE om) (bP (uA rfl om om) (RE om))))))) ?_;refine Rr ?_;refine aZ.at bD (fun p:Nat × List aU=>p.1<=total/\p.2=((mT lists.reverse).take p.1).map (dM name)/\p.2.length=p.1)
   (fun p=>⟨[(1,.ip (bL ⟨kind,name,lo,hi',ws,ls,vals,kids,.mk vk vn vs vks⟩)),(6,.sl 4 0 kids.length),(12,.sl 5 0 p.1),(53,.int .i64 total),(54,.int .i64 p.1)],O0 ns kn [(4,.row 29 1 (encLs lists)),(5,.row 57 4 (aL p.2))],6,98⟩)
   (fun p=>total-p.1) (0,[]) (nH [0,1,2,3,4,5])
   ⟨by simp,by simp,by simp⟩
   (aI _ rfl (d6 rfl rfl rfl rfl rfl rfl rfl rfl ⟨aJ 4 (encLs_nn _),⟨5,_,rfl,rfl,.nil⟩,trivial⟩) ⟨a5 (.ip' hxn),⟨_,rfl,.slE rfl rfl⟩,⟨_,rfl,.slE rfl rfl⟩,aG,aG,trivial⟩) ?_
  rintro⟨k,all⟩ ⟨hkt,hall,hal⟩;simp only at hkt hall hal ⊢;refine Rr ?_;refine aE (fun hb=>?_) (fun hb=>?_)
  ·have hlt2:k<total:=by simpa using hb
   refine Rr ?_;refine aK (bP rfl (bP rfl (bP rfl (bP (RE om) (bP (RE om) (bP (uA rfl om om) (RE om))))))) ?_;refine Rr ?_;refine aZ.at bD (fun p:Nat × Nat × List aU=>p.1<=kids.length/\p.2.1<=1024/\p.2.2.length=kids.length/\Go.Ax.rowAt (lists.take p.1).reverse p.2.1++p.2.2.drop p.1=Go.Ax.rowAt lists.reverse k)
    (fun p=>⟨[(1,.ip (bL ⟨kind,name,lo,hi',ws,ls,vals,kids,.mk vk vn vs vks⟩)),(6,.sl 4 0 kids.length),(12,.sl 5 0 k),(13,.int .i64 p.2.1),(14,.sl 6 0 kids.length),(15,.int .i64 ((p.1:Int)-1)),(53,.int .i64 total),(54,.int .i64 k)],O0 ns kn [(4,.row 29 1 (encLs lists)),(5,.row 57 4 (aL all)),(6,.row 57 4 (aL p.2.2))],7,98⟩)
    (fun p=>p.1) (kids.length,k,List.replicate kids.length (.mk 0 0 [] [])) (nH [0,1,2,3,4,5,6])
    ⟨by simp,by simp only;omega,by simp,by simp only;rw[←hll,RG,Rj (by simp)];simp⟩
    (aI _ rfl (d6 rfl rfl rfl rfl rfl rfl rfl rfl ⟨aJ 4 (encLs_nn _),aJ 5 (aR _),⟨6,_,rfl,rfl,Bz _⟩,trivial⟩) ⟨a5 (.ip' hxn),⟨_,rfl,.slE rfl rfl⟩,⟨_,rfl,.slE rfl rfl⟩,aG,⟨_,rfl,.slE rfl (by simp)⟩,⟨_,rfl,.w64 (by simp only) ⟨by simp only;omega,by simp only;omega⟩⟩,aG,aG,trivial⟩) ?_
   rintro⟨q,kk,row⟩ ⟨hq,hkk,hrl,hrow⟩;simp only at hq hkk hrl hrow ⊢;refine Rr ?_;refine aE (fun hb=>?_) (fun hb=>?_)
   ·obtain⟨q,rfl⟩:∃q',q=q'+1:=⟨q-1,by simp at hb;omega⟩
    obtain⟨l,hl⟩:∃l,lists[q]? = some l:=⟨lists[q],Qq om⟩
    have hlm:=RC hl;have hl0:=Rn.2 (hlne l hlm);have hl1:=hllen l hlm;have hmod:=TH kk hl0;have hdiv:=Nat.div_le_self kk l.length;obtain⟨v1,v2,v3,v4,vm,vg,-,ev⟩:=bB (l:=l) (k:=kk%l.length) hmod;have hrs:=Gd (kk:=kk) hl vg;have e0:0+((q:Nat):Int).toNat=q:=by simp
    have g1:Nat.blt ((q:Nat):Int).toNat kids.length=true:=Qy (by simp;omega);have e3:(encLs lists)[0+((q:Nat):Int).toNat]? = some (.il 4 (aL l)):=by rw[e0];exact encLs_get hl
    have e15:((q+1:Nat):Int)-1=(q:Int):=om;rw[e15];refine Rr ?_;have d0:(!decide (((aL l).length:Int)=0))=true:=by rw[aA,Bool.not_eq_true',Ry];omega
    have em:(kk:Int).tmod ((aL l).length:Int)=((kk%l.length:Nat):Int):=by rw[aA];exact(Int.ofNat_tmod kk l.length).symm
    have ed:(kk:Int).tdiv ((aL l).length:Int)=((kk/l.length:Nat):Int):=by rw[aA];exact(Int.ofNat_tdiv kk l.length).symm
    have ex:(aL row)[0+((q:Nat):Int).toNat]? = some (bV row[q]):=by rw[e0,kI,Qq om];rfl
    have ey:((aL row).set (0+((q:Nat):Int).toNat) (bV (.mk v1 v2 v3 v4)))[0+((q:Nat):Int).toNat]? = some (bV (.mk v1 v2 v3 v4)):=by rw[e0];exact Ri (by rw[aA];omega)
    generalize row[q]=old at ex;obtain⟨o1,o2,o3,o4⟩:=old;repeat((first|refine aK g1 ?_|refine aD e3 ?_|refine aD ev ?_|refine aD ex ?_|refine aD ey ?_|refine bQ.2 ?_|refine bN ?_|refine aK d0 ?_;(first|rw[em]|rw[ed]|skip));refine Rr ?_)
    have hdr:(row.set q (.mk v1 v2 v3 v4)).drop q = .mk v1 v2 v3 v4::row.drop (q+1):=by
     rw[List.drop_eq_getElem_cons (by simp;omega)];simp[List.drop_set]
    have hy:i64 ((kk/l.length:Nat):Int):=by
     have:=hdiv;generalize kk/l.length=d at this ⊢;clear ed;exact⟨om,om⟩
    have hset:aL (row.set q (.mk v1 v2 v3 v4))=(aL row).set q (bV (.mk v1 v2 v3 v4)):=by rw[fN,fN,S6]
    exact .mk (q,kk/l.length,row.set q (.mk v1 v2 v3 v4)) (nH [0,1,2,3,4,5,6]) ⟨by simp only;omega,by simp only;omega,by simp only[S3];exact hrl,by simp only;rw[hdr,←hrow,hrs,List.append_assoc];rfl⟩
     (aI _ rfl (d6 rfl rfl rfl rfl rfl rfl rfl rfl ⟨aJ 4 (encLs_nn _),aJ 5 (aR _),⟨6,_,rfl,rfl,.eq (aR _) (by simp only;rw[e0,hset];rfl)⟩,trivial⟩) ⟨a5 (.ip' hxn),⟨_,rfl,.slE rfl rfl⟩,⟨_,rfl,.slE rfl rfl⟩,⟨_,rfl,.w64 (y:=((kk/l.length:Nat):Int)) (by first|exact ed|rfl) hy⟩,⟨_,rfl,.slE rfl rfl⟩,⟨_,rfl,.w64 rfl ⟨by simp only;omega,by simp only;omega⟩⟩,aG,aG,trivial⟩) (by simp only;omega)
   ·have hq0:q=0:=by simp at hb;omega
    subst hq0;simp only[TD,List.reverse_nil,Go.Ax.rowAt,Rb,Re] at hrow;have hmd:=hmade row;simp only at hmd;refine Rr ?_;refine aF.pre bD (mem':=O0 ns kn [(4,.row 29 1 (encLs lists)),(5,.row 57 4 (aL all))]) (nH [0,1,2,3,4,5]) (by rfl)
     (d6 rfl rfl rfl rfl rfl rfl rfl rfl ⟨aJ 4 (encLs_nn _),aJ 5 (aR _),trivial⟩)
     (.cons (.same _ (.ip' hxn)) (.cons (.fz' (id:=6) (t:=57) (xs:=aL row) rfl rfl (by rw[aA];omega) (by rw[Re];exact RJ (by rw[aA];omega)) (aR _)) .nil)) ?_
    refine hmd.go ?_;have hr:=Bn lists.reverse k (by rw[←hpr];exact hlt2);rw[←hrow] at hr;obtain⟨⟨m1,m2,m3,m4⟩,hmv⟩:∃mv,mv=dM name row:=⟨_,rfl⟩
    rw[←hmv];refine Rr ?_;refine aK (bM rfl rfl (by simp[aA];omega) (by simp;omega)) ?_;refine Rr ?_;exact .mk (k+1,all++[.mk m1 m2 m3 m4]) [(0,0),(1,1),(2,2),(3,3),(4,4),(8,5)] ⟨by simp only;omega,by
      simp only;rw[hall,List.take_add_one,hr,Go.Ax.SW,hmv];rfl,by simp[hal]⟩
     (aI _ rfl (d6 rfl rfl rfl rfl rfl rfl rfl rfl ⟨aJ 4 (encLs_nn _),⟨8,_,rfl,rfl,.eq (aR _) (by rw[fI];rfl)⟩,trivial⟩) ⟨a5 (.ip' hxn),⟨_,rfl,.slE rfl rfl⟩,⟨_,rfl,.slE rfl (by simp)⟩,aG,⟨_,rfl,.wp⟩,trivial⟩) (by simp only;omega)
  ·have hlt2:k=total:=by simp at hb;omega
   refine Rr ?_;refine x9 _ kn hk (d6 rfl rfl rfl rfl rfl rfl rfl rfl trivial) _ _ (.tup' (.cons (.fz' (id:=5) (t:=57) (xs:=aL all) rfl rfl (by rw[aA];omega) ?_ (aR _)) (.s .nil)));rw[Re,RJ (by rw[aA];omega),hall,hlt2,hpr,←wY,RG]
set_option maxHeartbeats 8000000
theorem Pa{ns:List Nd}{n:Nat}(h:eU ns n)(i:Nat)(hi:i<n)(hOf:∀j<i,Mz ns j)(kn:List Bool)(hk:kn.length=ns.length) :
  aF prog [] 64 [.ptr 0 0 0,.int .i64 i] (sM ns kn) 4 (sQ ns i):=by
 obtain⟨x,hx⟩:∃x,ns[i]? = some x:=⟨ns[i]'(by have:=h.hn;omega),Qq _⟩
 have ex:(aY ns)[((i:Nat):Int).toNat]? = some (bL x):=by simp[mU,hx]
 unfold sQ;rw[h.at hi hx];have hG:=h.node hi hx;have hO:=h.nodeOK hi hx;have hxn:=aQ x;have hkm:∀k∈x.kids,0<=k/\k<i:=fun k hk=>by
  obtain⟨j,hj⟩:=RQ hk;exact hG.kids j k hj
 have hU:=fun(kids:List Int) (h1:kids.length<=65536) (h2:∀k∈kids,0<=k/\k<i)=>OR h i om kids h1 h2 hOf kn hk
 have hP:=LW h i om x hG.klen hkm hOf kn hk;have hb:=hO.bind;have hkl:=hG.klen;have hkd:=hG.kind;have hnum:=eS hG.num;have e0:x.kind=0->cE x (aH ns)=⟨[x.value],false⟩:=fun e=>by unfold cE;rw[Q3 e]
 have e1:x.kind=1->cE x (aH ns)=if 1024<=x.hi-x.lo then⟨[],true⟩ else⟨fT x.lo x.hi,false⟩:=fun e=>by unfold cE;rw[Qz om,Q3 e]
 have e2:x.kind=2->cE x (aH ns)=jZ (aH ns) x.kids:=fun e=>by unfold cE;rw[Qz om,Qz om,Qz om,Qz om]
 have e3:x.kind=3->cE x (aH ns)=nJ (aH ns) x:=fun e=>by unfold cE;rw[Qz om,Qz om,Q3 e]
 have e4:x.kind=4->cE x (aH ns)=jZ (aH ns) (x.kids.drop 1):=fun e=>by unfold cE;rw[Qz om,Qz om,Qz om,Q3 e]
 generalize cE x (aH ns)=res at e0 e1 e2 e3 e4 ⊢;clear hG hO hOf;have hP:x.kind=3->aF prog [] 138 [.ptr 0 0 0,.ip (bL x)] (sM ns kn) 4 (uQ ns res):=fun e=>by rw[e3 e];exact hP
 clear e3;obtain⟨kind,name,lo,hi',ws,ls,vals,kids,⟨vk,vn,vs,vks⟩⟩:=x;simp only at hkm hb hkl hkd hnum e0 e1 e2 e4 hP;refine aO bD func64 rfl ?_;refine Rr ?_;repeat(refine aD ex ?_;refine Rr ?_)
 have call:∀(F:FuncId) (a:List AV) (K:AV->aN->Nat->Prop) (nx:Nat),iV a->aF prog [] F (.ptr 0 0 0::a) (sM ns kn) 4 (uQ ns res)->(∀kn',kn'.length=ns.length->K (.tup [.il 4 (aL res.vals),.bool (!res.many)]) (sM ns kn'++jM [0,1,2,3] (sM ns kn)) nx)->aF prog [] F (.ptr 0 0 0::a) (sM ns kn) nx K:=fun F a K nx ha hc hK=>by
  refine aF.useI bD [0,1,2,3] hc (by rfl) (.cons (.ptr 0 0 0 0 rfl) (.same ha)) (dT ns kn) (by rfl) ?_;rintro r m k' ⟨kn',hk',rfl,rfl,rfl⟩;exact⟨nn,dT ns kn',by rfl,hK kn' hk'⟩
 rcases(show kind=0∨kind=1∨kind=2∨kind=3∨kind=4 by omega) with rfl|rfl|rfl|rfl|rfl
 ·rw[e0 rfl];refine Rr ?_;repeat(refine aD ex ?_;refine Rr ?_)
  exact x9 _ kn hk (d6 rfl rfl rfl rfl rfl rfl rfl rfl trivial) _ _ (.tup' (.cons (.fz' (id:=4) (t:=57) (xs:=aL [.mk vk vn vs vks]) rfl rfl (by rw[aA];simp) rfl (aR _)) (.s .nil)))
 ·rw[e1 rfl];have hw:IntKind.i64.wrap (hi'-lo)=hi'-lo:=fH ⟨om,om⟩;refine Rr ?_;simp only[hw];refine aE (fun hb=>?_) (fun hb=>?_)
  ·have hb:1024<=hi'-lo:=by simpa using hb
   rw[Q3 hb];refine Rr ?_;exact x9 _ kn hk (dT ns kn) _ _ (.tup' (.cons (.nil 4) (.s .nil)))
  ·have hb:¬1024<=hi'-lo:=by simpa using hb
   rw[Qz hb];refine Rr ?_;refine aZ.ph 57 4 ?_;refine aZ.at bD (fun c:Nat=>c<=(hi'+1-lo).toNat)
    (fun c=>⟨[(6,.ip (bL ⟨1,name,lo,hi',ws,ls,vals,kids,.mk vk vn vs vks⟩)),(7,.sl 4 0 c),(8,.int .i64 (lo+c))],O0 ns kn [(4,.row 57 4 (aL (fT lo (lo+c-1))))],5,82⟩)
    (fun c=>(hi'+1-lo).toNat-c) 0 [(0,0),(1,1),(2,2),(3,3),(14,4)] (by simp)
    (aI _ rfl (d6 rfl rfl rfl rfl rfl rfl rfl rfl ⟨⟨14,_,rfl,rfl,by rw[show fT lo (lo+((0:Nat):Int)-1)=[] by simp[fT]];exact .nil⟩,trivial⟩) ⟨a5 (.ip' hxn),⟨_,rfl,.nslk 14 4 _ rfl rfl⟩,⟨_,rfl,.int (by simp)⟩,trivial⟩) ?_
   intro c hc;have hrl:∀c:Nat,(fT lo (lo+c-1)).length=c:=fun c=>by simp[fT];omega
   refine Rr ?_;refine aE (fun hb2=>?_) (fun hb2=>?_)
   ·have hb2:lo+c<=hi':=by simpa using hb2
    have hrs:fT lo (lo+((c+1:Nat):Int)-1)=fT lo (lo+c-1)++[.mk 0 (lo+c) [] []]:=by
     unfold fT;rw[show (lo+((c+1:Nat):Int)-1+1-lo).toNat=c+1 by omega,show (lo+(c:Int)-1+1-lo).toNat=c by omega,TC,Go.Ax.SW];rfl
    refine Rr ?_;refine aK (bM rfl rfl (by rw[aA,hrl]) (by simp;omega)) ?_;refine Rr ?_;exact .mk (c+1) [(0,0),(1,1),(2,2),(3,3),(6,4)] om
     (aI _ rfl (d6 rfl rfl rfl rfl rfl rfl rfl rfl ⟨⟨6,_,rfl,rfl,by rw[hrs,fI];exact .snoc rfl (.same (aR _)) (Bx 0 (lo+c) [])⟩,trivial⟩) ⟨a5 (.ip' hxn),⟨_,rfl,.slE rfl (by simp)⟩,⟨_,rfl,.w64 om ⟨om,om⟩⟩,trivial⟩) om
   ·have hb2:¬lo+c<=hi':=by simpa using hb2
    have hcc:lo+c-1=hi':=om;refine Rr ?_;rw[hcc];refine x9 _ kn hk (d6 rfl rfl rfl rfl rfl rfl rfl rfl trivial) _ _ (.tup' (.cons (.fz' (id:=4) (t:=57) (xs:=aL (fT lo hi')) rfl rfl (by rw[aA];have:=hrl c;rw[hcc] at this;omega) ?_ (aR _)) (.s .nil)));rw[Re];exact RJ (by rw[aA];have:=hrl c;rw[hcc] at this;omega)
 ·rw[e2 rfl] at call ⊢;refine Rr ?_;refine call _ _ _ _ (.cons (.il' (aT _)) .nil) (hU kids hkl hkm) fun kn' hk'=>?_
  refine Rr ?_;exact x9 _ kn' hk' (dT ns kn') _ _ (.same _ nn)
 ·refine Rr ?_;refine call _ _ _ _ (.cons (.ip' hxn) .nil) (hP rfl) fun kn' hk'=>?_
  refine Rr ?_;exact x9 _ kn' hk' (dT ns kn') _ _ (.same _ nn)
 ·rw[e4 rfl] at call ⊢;have hb:=hb rfl;refine Rr ?_;refine aK (bP (Qy (by rw[aC];simp;omega)) (bP (Qy (Q5 _)) (Qy (Q5 _)))) ?_;have ed:List.take ((aW kids).length-Int.toNat 1) (List.drop (Int.toNat 1) (aW kids))=aW (kids.drop 1):=by
   rw[RJ (by simp)];simp[aW]
  rw[ed];refine Rr ?_;refine call _ _ _ _ (.cons (.il' (aT _)) .nil) (hU (kids.drop 1) (by rw[TA];omega) fun k hk=>hkm k (Rz hk)) fun kn' hk'=>?_
  refine Rr ?_;exact x9 _ kn' hk' (dT ns kn') _ _ (.same _ nn)
theorem Qb{ns:List Nd}{n:Nat}(h:eU ns n):∀i<n,Mz ns i:=by
 intro i
 induction i using Nat.strongRecOn with
 | ind i ih=>exact fun hi kn hk=>QM h i hi kn hk (Pa h i hi (fun j hj=>ih j hj om) kn hk)
set_option maxHeartbeats 8000000
theorem P9(a b:aU)(ha:fY a):a7 prog [] 88 [bV a,bV b] (.bool (bS a b == 0)):=by
 have hc:=pZ a b ha;obtain⟨a1,a2,a3,a4⟩:=a;obtain⟨b1,b2,b3,b4⟩:=b;generalize bS (.mk a1 a2 a3 a4) (.mk b1 b2 b3 b4)=c at hc ⊢;refine aO bD func88 rfl ?_;refine Rr ?_;refine hc.go ?_;refine Rr ?_;exact aB nn ⟨rfl,rfl,rfl⟩
theorem GU(l m:List aU)(hl:l.length<=4294967296)(hm:m.length<=4294967296)(hok:∀a∈l,fY a) :
  a7 prog [] 87 [.il 4 (aL l),.il 4 (aL m),.fn (.func 88) [] []] (.bool (cK l m)):=by
 have hE:=fun a ha b=>P9 a b (hok a ha)
 refine aO bD func87 rfl ?_;refine Rr ?_;refine aE (fun h=>?_) (fun h=>?_)
 ·have h1:l.length≠m.length:=by rw[aA,aA] at h;simp at h;omega
  have:cK l m=false:=by
   cases e:cK l m with
   | false=>rfl
   | true=>exact absurd (jL e) h1
  rw[this];refine Rr ?_;exact aB nn ⟨rfl,rfl,rfl⟩
 ·have h1:l.length=m.length:=by rw[aA,aA] at h;simp at h;omega
  refine Rr ?_;refine aZ.at bD (fun i:Nat=>i<=l.length/\cK l m=cK (l.drop i) (m.drop i)) (fun i=>⟨[(1,.il 4 (aL m)),(2,.fn (.func 88) [] []),(15,.il 4 (aL l)),(16,.int .i64 l.length),(17,.int .i64 i)],[],0,32⟩) (fun i=>l.length-i) 0 [] ⟨by simp,by simp⟩
   (bC ⟨a5 (.il' (aR _)),aG,a5 (.il' (aR _)),⟨_,rfl,.int (by rw[aA])⟩,aG,trivial⟩) ?_
  rintro i ⟨hi,hs⟩;refine Rr ?_;refine aE (fun hb=>?_) (fun hb=>?_)
  ·have hil:i<l.length:=by simpa using hb
   obtain⟨p1,p2,p3,p4,pm,pg,pe,ep⟩:=bB (l:=l) (k:=i) hil;obtain⟨q1,q2,q3,q4,qm,qg,qe,eq⟩:=bB (l:=m) (k:=i) om;rw[List.drop_eq_getElem_cons hil,List.drop_eq_getElem_cons (show i<m.length by omega),cK,pe,qe] at hs;have hc:=hE _ pm (.mk q1 q2 q3 q4);obtain⟨c,hc0⟩:∃c,c=bS (.mk p1 p2 p3 p4) (.mk q1 q2 q3 q4):=⟨_,rfl⟩
   rw[←hc0] at hc hs;refine Rr ?_;repeat((first|refine aD ep ?_|refine aD eq ?_|refine bN ?_);refine Rr ?_)
   refine hc.go ?_;refine Rr ?_;refine aE (fun h=>?_) (fun h=>?_)
   ·have:decide (c=0)=false:=by simpa using h
    rw[hs,this];refine Rr ?_;exact aB nn ⟨rfl,rfl,rfl⟩
   ·have:decide (c=0)=true:=by simpa using h
    rw[this] at hs;refine Rr ?_;exact .mk (i+1) [] ⟨om,hs⟩ (bC ⟨a5 (.il' (aR _)),aG,a5 (.il' (aR _)),aG,⟨_,rfl,.w64 om ⟨om,om⟩⟩,trivial⟩) om
  ·have hil:i=l.length:=by simp at hb;omega
   rw[hil,Sx,h1,Sx,cK] at hs;rw[hs];refine Rr ?_;exact aB nn ⟨rfl,rfl,rfl⟩
set_option maxHeartbeats 8000000
def Dy(ns:List Nd)(ls ss:List Int)(kn:List Bool)(rest:aN):aN:=(0,.row 80 4 [.agg [.il 12 (aY ns),.sl 1 0 ns.length,.sl 2 0 ns.length,.ptr 3 0 0]])::(1,.row 3 1 (aW ls))::(2,.row 3 1 (aW ss)) ::
 (3,.row 119 4 [.agg [.il 12 (aY ns),.sl 4 0 ns.length,.sl 5 0 ns.length,.sl 6 0 ns.length]])::(4,.row 4 1 (kB kn))::(5,.row 29 1 (lB (aH ns) kn))::(6,.row 4 1 (mB (aH ns) kn))::rest
def PS(ns:List Nd)(l1 l2:List AV)(kn:List Bool):aN:=[(0,.row 80 4 [.agg [.il 12 (aY ns),.sl 1 0 ns.length,.sl 2 0 ns.length,.ptr 3 0 0]]),(1,.row 3 1 l1),(2,.row 3 1 l2),
 (3,.row 119 4 [.agg [.il 12 (aY ns),.sl 4 0 ns.length,.sl 5 0 ns.length,.sl 6 0 ns.length]]),(4,.row 4 1 (kB kn)),(5,.row 29 1 (lB (aH ns) kn)),(6,.row 4 1 (mB (aH ns) kn))]
theorem Pm{mem:aN}{σ:List (Nat × Nat)}{ns:List Nd}{N a b c a' b' c':Nat}(h1:lk σ a=some a')(h2:lk σ b=some b')(h3:lk σ c=some c') :
  r9 mem σ [.agg [.il 12 (aY ns),.sl a 0 N,.sl b 0 N,.ptr c 0 0]] [.agg [.il 12 (aY ns),.sl a' 0 N,.sl b' 0 N,.ptr c' 0 0]]:=
 .cons (.agg (.cons (.same _ (.il' (aS _))) (.cons (.sl a a' 0 N h1) (.cons (.sl b b' 0 N h2) (.cons (.ptr c c' 0 0 h3) .nil))))) .nil
theorem gO{mem:aN}{σ:List (Nat × Nat)}{ns:List Nd}{kn:List Bool}{ls ss:List Int}{l1 l2:List AV}{rest:aN}(h0:lk σ 0=some 0)(h1:lk σ 1=some 1)(h2:lk σ 2=some 2)(h3:lk σ 3=some 3)(h4:lk σ 4=some 4)(h5:lk σ 5=some 5)(h6:lk σ 6=some 6)
  (m0:lk mem 0=some (.row 80 4 [.agg [.il 12 (aY ns),.sl 1 0 ns.length,.sl 2 0 ns.length,.ptr 3 0 0]])) (m1:lk mem 1=some (.row 3 1 l1)) (m2:lk mem 2=some (.row 3 1 l2)) (e1:l1=aW ls) (e2:l2=aW ss)
  (m3:lk mem 3=some (.row 119 4 [.agg [.il 12 (aY ns),.sl 4 0 ns.length,.sl 5 0 ns.length,.sl 6 0 ns.length]])) (m4:lk mem 4=some (.row 4 1 (kB kn))) (m5:lk mem 5=some (.row 29 1 (lB (aH ns) kn))) (m6:lk mem 6=some (.row 4 1 (mB (aH ns) kn)))
  (hr:cP mem σ rest):cP mem σ (Dy ns ls ss kn rest):=
 ⟨⟨0,_,h0,m0,Pm h1 h2 h3⟩,⟨1,_,h1,m1,.eq (aT _) e1⟩,⟨2,_,h2,m2,.eq (aT _) e2⟩,⟨3,_,h3,m3,x6 h4 h5 h6⟩,⟨4,_,h4,m4,.same (pE _)⟩,⟨5,_,h5,m5,.same (qZ _ _)⟩,⟨6,_,h6,m6,.same (pI _ _)⟩,hr⟩
theorem jF(ns:List Nd)(ls ss:List Int)(kn:List Bool):cP (Dy ns ls ss kn []) (nH [0,1,2,3,4,5,6]) (Dy ns ls ss kn []):=gO rfl rfl rfl rfl rfl rfl rfl rfl rfl rfl rfl rfl rfl rfl rfl rfl trivial
theorem kQ(l:List Int)(i:Nat)(y:Int):aW (l.set i y)=(aW l).set i (.int .i64 y):=by simp[aW,S6]
theorem Og{ns:List Nd}(i:Nat)(x:Nd)(hx:ns[i]? = some x)(hok:pL x)(hsz:aV x.value<=1048576)(hkl:x.kids.length<=65536)(hkids:∀(j:Nat) (k:Int),x.kids[j]? = some k->0<=k/\k<i)(hkd:0<=x.kind/\x.kind<=4)(h4:4<=x.kind->0<x.kids.length)
  (ls ss:List Int) (kn:List Bool) (hls:ls.length=ns.length) (hss:ss.length=ns.length) (bl:∀y∈ls,0<=y/\y<=1024) (bs:∀y∈ss,0<=y/\y<=1024) :
  aF prog [] 41 [.ptr 0 0 0,.int .i64 i] (Dy ns ls ss kn []) 7 fun r m k=>r = .bool (decide (fX ls x<=256) && decide (v9 ss x<=1024))/\m=Dy ns (ls.set i (fX ls x)) (ss.set i (v9 ss x)) kn []/\k=7:=by
 have hil:=(Qv.1 hx).1;have ex:(aY ns)[((i:Nat):Int).toNat]? = some (bL x):=by simp[mU,hx]
 have hxn:=aQ x;have hL:=M4 ls x hok hkl bl (fun j k hk=>by have:=hkids j k hk;omega) h4 hkd;have hV:=PZ x.value hsz;have hP:v9 ss x=if x.kind=0 then(aV x.value:Int) else if x.kind=1 then 1 else if x.kind=3 then 1+eT ss x.kids else max 1 (bX ss (gF x)):=rfl
 have hs:=fun l=>gA (b:=ss) (M:=1024) om bs l
 have hm:=fun l=>hZ (b:=ss) (M:=1024) om bs l
 have har:gF x=if x.kind=2 then x.kids else x.kids.drop 1:=rfl
 have hat:=fun q=>i8 (b:=ss) (M:=1024) om bs q
 have eat:∀k:Int,0<=k->k<ss.length->(aW ss)[0+k.toNat]? = some (.int .i64 (dY ss k)):=fun k h0 h1=>by
  have:k.toNat<ss.length:=om;rw[Rc,bK,Qq this];unfold dY;rw[Qx,Qq this];rfl
 have hM:∀k:Nat,k<x.kids.length->(bX ss (if x.kind=2 then x.kids.take (k+1) else(x.kids.take (k+1)).drop 1))=if 0<k∨x.kind=2 then max (bX ss (if x.kind=2 then x.kids.take k else(x.kids.take k).drop 1)) (dY ss (x.kids.getD k 0)) else bX ss (if x.kind=2 then x.kids.take k else(x.kids.take k).drop 1):=fun k hk=>by
  have eg:x.kids.getD k 0=x.kids[k]:=by rw[Qx,Qq hk];rfl
  rw[eg];by_cases e2:x.kind=2
  ·rw[Q3 e2,Q3 (.inr e2),Q3 e2,nS hk]
  ·rw[Qz e2,Qz e2];by_cases e0:0<k
   ·rw[Q3 (.inl e0),lC hk e0]
   ·rw[Qz om];have:k=0:=om;subst this;simp[bX,So]
 have h0:0+((i:Nat):Int).toNat=i:=by simp
 have g1:Nat.blt ((i:Nat):Int).toNat ns.length=true:=Qy (by simp;omega);generalize hlen:fX ls x=len at *;generalize hsiz:v9 ss x=siz at *;clear hlen hsiz hok;obtain⟨kind,name,lo,hi',ws,lbs,vals,kids,⟨vk,vn,vs,vks⟩⟩:=x;simp only at hsz hkl hkids hkd h4 hV hP hM;obtain⟨sv,hsv⟩:∃sv,sv=aV (.mk vk vn vs vks):=⟨_,rfl⟩
 rw[←hsv] at hV hP hsz;have f1:(aW ls)[0+((i:Nat):Int).toNat]? = some (.int .i64 ls[i]):=by rw[h0,bK,Qq om];rfl
 have f2:((aW ls).set (0+((i:Nat):Int).toNat) (.int .i64 len))[0+((i:Nat):Int).toNat]? = some (.int .i64 len):=by rw[h0];exact Ri (by rw[aC];omega)
 have f3:(aW ss)[0+((i:Nat):Int).toNat]? = some (.int .i64 ss[i]):=by rw[h0,bK,Qq om];rfl
 have f4:∀siz:Int,((aW ss).set (0+((i:Nat):Int).toNat) (.int .i64 siz))[0+((i:Nat):Int).toNat]? = some (.int .i64 siz):=fun siz=>by rw[h0];exact Ri (by rw[aC];omega)
 generalize ls[i]=l0 at f1;generalize ss[i]=s0 at f3;refine aO bD func41 rfl ?_;refine Rt ?_;repeat((first|refine aK g1 ?_|refine aD ex ?_|refine aD f1 ?_|refine aD f2 ?_);refine Rt ?_)
 refine hL.lend bD (.cons (.same _ (.ip' hxn)) (.cons (.fz' (id:=1) (t:=3) (xs:=aW ls) rfl rfl (by rw[aC];omega) (by rw[Re];exact RJ (by rw[aC];omega)) (aT _)) .nil)) (.int _ _) ?_;refine Rt ?_;repeat((first|refine aK g1 ?_|refine aD ex ?_|refine aD f1 ?_|refine aD f2 ?_);refine Rt ?_)
 obtain⟨d1,hd1⟩:∃d1,d1=decide (len<=256):=⟨_,rfl⟩
 rw[←hd1];have fin:∀(mem:aN) (nx:Nat) {d:Bool},d=(d1 && decide (siz<=1024))->mem=PS ns ((aW ls).set (0+((i:Nat):Int).toNat) (.int .i64 len)) ((aW ss).set (0+((i:Nat):Int).toNat) (.int .i64 siz)) kn ->
   nF 7 (fun r m k=>r = .bool (d1 && decide (siz<=1024))/\m=Dy ns (ls.set i len) (ss.set i siz) kn []/\k=7) (.bool d) mem nx:=by
  rintro mem nx d rfl rfl;exact b8 (n':=7) (m':=Dy ns (ls.set i len) (ss.set i siz) kn []) (nH [0,1,2,3,4,5,6]) rfl (gO rfl rfl rfl rfl rfl rfl rfl rfl rfl rfl (by rw[h0];exact(kQ _ _ _).symm) (by rw[h0];exact(kQ _ _ _).symm) rfl rfl rfl rfl trivial) (.same _ nn) ⟨rfl,rfl,rfl⟩
 have fin':∀(mem:aN) (nx:Nat) {d:Bool},d=(d1 && decide (siz<=1024))->mem=PS ns (aW (ls.set i len)) ((aW ss).set (0+((i:Nat):Int).toNat) (.int .i64 siz)) kn ->
   nF 7 (fun r m k=>r = .bool (d1 && decide (siz<=1024))/\m=Dy ns (ls.set i len) (ss.set i siz) kn []/\k=7) (.bool d) mem nx:=by
  rintro mem nx d rfl rfl;exact b8 (n':=7) (m':=Dy ns (ls.set i len) (ss.set i siz) kn []) (nH [0,1,2,3,4,5,6]) rfl (gO rfl rfl rfl rfl rfl rfl rfl rfl rfl rfl rfl (by rw[h0];exact(kQ _ _ _).symm) rfl rfl rfl rfl trivial) (.same _ nn) ⟨rfl,rfl,rfl⟩
 have f2':(aW (ls.set i len))[0+((i:Nat):Int).toNat]? = some (.int .i64 len):=by rw[h0,kQ];exact Ri (by rw[aC];omega)
 rcases(show kind=0∨kind=1∨kind=2∨kind=3∨kind=4 by omega) with rfl|rfl|rfl|rfl|rfl
 ·rw[Q3 rfl] at hP;subst hP;refine Rr ?_;refine hV.go ?_;refine Rt ?_;repeat((first|refine aK g1 ?_|refine aD f3 ?_|refine aD (f4 _) ?_|refine aD f2 ?_);refine Rt ?_)
  rw[←hd1];clear hd1;cases d1 with
  | true=>
   refine Rr ?_;exact fin _ _ rfl rfl
  | false=>
   refine Rr ?_;exact fin _ _ rfl rfl
 ·rw[Qz (by decide),Q3 rfl] at hP;subst hP;refine Rt ?_;repeat((first|refine aK g1 ?_|refine aD f3 ?_|refine aD (f4 _) ?_|refine aD f2 ?_);refine Rt ?_)
  rw[←hd1];clear hd1;cases d1 with
  | true=>
   refine Rr ?_;exact fin _ _ rfl rfl
  | false=>
   refine Rr ?_;exact fin _ _ rfl rfl
 ·rw[Qz (by decide),Qz (by decide),Qz (by decide)] at hP;refine Rr ?_;refine aZ.at bD (fun p:Nat × Int=>p.1<=kids.length/\p.2=max 1 (bX ss (kids.take p.1)))
   (fun p=>⟨[(0,.ptr 0 0 0),(1,.int .i64 i),(5,.ip (bL ⟨2,name,lo,hi',ws,lbs,vals,kids,.mk vk vn vs vks⟩)),(6,.int .i64 p.2),(67,.il 1 (aW kids)),(68,.int .i64 kids.length),(69,.int .i64 p.1)],Dy ns (ls.set i len) ss kn [],7,112⟩) (fun p=>kids.length-p.1) (0,1) (nH [0,1,2,3,4,5,6]) ⟨by simp,by simp[bX];omega⟩
   (aI _ rfl (gO rfl rfl rfl rfl rfl rfl rfl rfl rfl rfl (by rw[h0];exact(kQ _ _ _).symm) rfl rfl rfl rfl rfl trivial) ⟨aM,aG,a5 (.ip' hxn),aG,a5 (.il' (aT _)),⟨_,rfl,.int (by rw[aC])⟩,aG,trivial⟩) ?_
  rintro⟨j,size⟩ ⟨hj,hsize⟩;simp only at hj hsize ⊢;have bsz:=hm (kids.take j);refine Rr ?_;refine aE (fun h=>?_) (fun h=>?_)
  ·have hlt:j<kids.length:=by simpa using h
   have e1:(aW kids)[(j:Int).toNat]? = some (.int .i64 kids[j]):=by rw[Q4,bK,Qq hlt];rfl
   obtain⟨q0,q1⟩:=hkids j _ (Qq hlt);have hM:=hM j hlt;have eg:kids.getD j 0=kids[j]:=by rw[Qx,Qq hlt];rfl
   rw[eg] at hM;have hM:bX ss (kids.take (j+1))=max (bX ss (kids.take j)) (dY ss kids[j]):=by simpa using hM
   generalize kids[j]=q at e1 q0 q1 hM;obtain⟨q,rfl⟩:=RB q0;have e2:=eat q q0 om;have hq:=hat q;have g2:Nat.blt ((q:Nat):Int).toNat ns.length=true:=Qy (by simp;omega);generalize dY ss q=z at e2 hq hM;refine Rr ?_;repeat((first|refine aK g2 ?_|refine aD e1 ?_|refine aD e2 ?_);refine Rr ?_)
   by_cases k0:0<j
   ·have d0:decide ((j:Int)>0)=true:=by simp;omega
    rw[d0];refine Rr ?_;repeat((first|refine aK g2 ?_|refine aD e1 ?_|refine aD e2 ?_);refine Rr ?_)
    exact .mk (j+1,max size z) (nH [0,1,2,3,4,5,6]) ⟨by simp only;omega,by simp only;rw[hM,hsize];omega⟩
     (aI _ rfl (jF _ _ _ _) ⟨aM,aG,a5 (.ip' hxn),⟨_,rfl,.int (by simp only;split<;>omega)⟩,a5 (.il' (aT _)),aG,⟨_,rfl,.wp⟩,trivial⟩) (by simp only;omega)
   ·have d0:decide ((j:Int)>0)=false:=by simp;omega
    rw[d0];refine Rr ?_;repeat((first|refine aK g2 ?_|refine aD e1 ?_|refine aD e2 ?_);refine Rr ?_)
    exact .mk (j+1,max size z) (nH [0,1,2,3,4,5,6]) ⟨by simp only;omega,by simp only;rw[hM,hsize];omega⟩
     (aI _ rfl (jF _ _ _ _) ⟨aM,aG,a5 (.ip' hxn),⟨_,rfl,.int (by simp only;split<;>omega)⟩,a5 (.il' (aT _)),aG,⟨_,rfl,.wp⟩,trivial⟩) (by simp only;omega)
  ·have hlt:j=kids.length:=by simp at h;omega
   rw[hlt,RG,show bX ss kids=bX ss (gF ⟨2,name,lo,hi',ws,lbs,vals,kids,.mk vk vn vs vks⟩) from rfl,←hP] at hsize;subst hsize;refine Rt ?_;repeat((first|refine aK g1 ?_|refine aD f3 ?_|refine aD (f4 _) ?_|refine aD f2' ?_);refine Rt ?_)
   rw[←hd1];clear hd1;cases d1 with
   | true=>
    refine Rr ?_;exact fin' _ _ rfl rfl
   | false=>
    refine Rr ?_;exact fin' _ _ rfl rfl
 ·rw[Qz (by decide),Qz (by decide),Q3 rfl] at hP;refine Rr ?_;refine aZ.at bD (fun p:Nat × Int=>p.1<=kids.length/\p.2=1+eT ss (kids.take p.1))
   (fun p=>⟨[(0,.ptr 0 0 0),(1,.int .i64 i),(6,.int .i64 p.2),(45,.il 1 (aW kids)),(46,.int .i64 kids.length),(47,.int .i64 p.1)],Dy ns (ls.set i len) ss kn [],7,112⟩) (fun p=>kids.length-p.1) (0,1) (nH [0,1,2,3,4,5,6]) ⟨by simp,by simp[eT]⟩
   (aI _ rfl (gO rfl rfl rfl rfl rfl rfl rfl rfl rfl rfl (by rw[h0];exact(kQ _ _ _).symm) rfl rfl rfl rfl rfl trivial) ⟨aM,aG,aG,a5 (.il' (aT _)),⟨_,rfl,.int (by rw[aC])⟩,aG,trivial⟩) ?_
  rintro⟨j,size⟩ ⟨hj,hsize⟩;simp only at hj hsize ⊢;have bsz:=hs (kids.take j);have btk:(kids.take j).length<=65536:=by simp;omega
  refine Rr ?_;refine aE (fun h=>?_) (fun h=>?_)
  ·have hlt:j<kids.length:=by simpa using h
   have e1:(aW kids)[(j:Int).toNat]? = some (.int .i64 kids[j]):=by rw[Q4,bK,Qq hlt];rfl
   obtain⟨q0,q1⟩:=hkids j _ (Qq hlt);have hst:=sS (b:=ss) hlt;generalize kids[j]=q at e1 q0 q1 hst;obtain⟨q,rfl⟩:=RB q0;have e2:=eat q q0 om;have hq:=hat q;have g2:Nat.blt ((q:Nat):Int).toNat ns.length=true:=Qy (by simp;omega);generalize dY ss q=z at e2 hq hst;refine Rr ?_;repeat((first|refine aK g2 ?_|refine aD e1 ?_|refine aD e2 ?_);refine Rr ?_)
   exact .mk (j+1,size+z) (nH [0,1,2,3,4,5,6]) ⟨by simp only;omega,by simp only;rw[hst,hsize];omega⟩
    (aI _ rfl (jF _ _ _ _) ⟨aM,aG,⟨_,rfl,.w64 rfl ⟨by simp only;omega,by simp only;omega⟩⟩,a5 (.il' (aT _)),aG,⟨_,rfl,.wp⟩,trivial⟩) (by simp only;omega)
  ·have hlt:j=kids.length:=by simp at h;omega
   rw[hlt,RG,←hP] at hsize;subst hsize;refine Rt ?_;repeat((first|refine aK g1 ?_|refine aD f3 ?_|refine aD (f4 _) ?_|refine aD f2' ?_);refine Rt ?_)
   rw[←hd1];clear hd1;cases d1 with
   | true=>
    refine Rr ?_;exact fin' _ _ rfl rfl
   | false=>
    refine Rr ?_;exact fin' _ _ rfl rfl
 ·rw[Qz (by decide),Qz (by decide),Qz (by decide)] at hP;refine Rr ?_;refine aZ.at bD (fun p:Nat × Int=>p.1<=kids.length/\p.2=max 1 (bX ss ((kids.take p.1).drop 1)))
   (fun p=>⟨[(0,.ptr 0 0 0),(1,.int .i64 i),(5,.ip (bL ⟨4,name,lo,hi',ws,lbs,vals,kids,.mk vk vn vs vks⟩)),(6,.int .i64 p.2),(67,.il 1 (aW kids)),(68,.int .i64 kids.length),(69,.int .i64 p.1)],Dy ns (ls.set i len) ss kn [],7,112⟩) (fun p=>kids.length-p.1) (0,1) (nH [0,1,2,3,4,5,6]) ⟨by simp,by simp[bX];omega⟩
   (aI _ rfl (gO rfl rfl rfl rfl rfl rfl rfl rfl rfl rfl (by rw[h0];exact(kQ _ _ _).symm) rfl rfl rfl rfl rfl trivial) ⟨aM,aG,a5 (.ip' hxn),aG,a5 (.il' (aT _)),⟨_,rfl,.int (by rw[aC])⟩,aG,trivial⟩) ?_
  rintro⟨j,size⟩ ⟨hj,hsize⟩;simp only at hj hsize ⊢;have bsz:=hm ((kids.take j).drop 1);refine Rr ?_;refine aE (fun h=>?_) (fun h=>?_)
  ·have hlt:j<kids.length:=by simpa using h
   have e1:(aW kids)[(j:Int).toNat]? = some (.int .i64 kids[j]):=by rw[Q4,bK,Qq hlt];rfl
   obtain⟨q0,q1⟩:=hkids j _ (Qq hlt);have hM:=hM j hlt;have eg:kids.getD j 0=kids[j]:=by rw[Qx,Qq hlt];rfl
   rw[eg] at hM;have hM:0<j->bX ss ((kids.take (j+1)).drop 1)=max (bX ss ((kids.take j).drop 1)) (dY ss kids[j]):=fun hj=>by rw[lC hlt hj]
   generalize kids[j]=q at e1 q0 q1 hM;obtain⟨q,rfl⟩:=RB q0;have e2:=eat q q0 om;have hq:=hat q;have g2:Nat.blt ((q:Nat):Int).toNat ns.length=true:=Qy (by simp;omega);generalize dY ss q=z at e2 hq hM;refine Rr ?_;repeat((first|refine aK g2 ?_|refine aD e1 ?_|refine aD e2 ?_);refine Rr ?_)
   by_cases k0:0<j
   ·have d0:decide ((j:Int)>0)=true:=by simp;omega
    rw[d0];refine Rr ?_;repeat((first|refine aK g2 ?_|refine aD e1 ?_|refine aD e2 ?_);refine Rr ?_)
    exact .mk (j+1,max size z) (nH [0,1,2,3,4,5,6]) ⟨by simp only;omega,by simp only;rw[hM k0,hsize];omega⟩
     (aI _ rfl (jF _ _ _ _) ⟨aM,aG,a5 (.ip' hxn),⟨_,rfl,.int (by simp only;split<;>omega)⟩,a5 (.il' (aT _)),aG,⟨_,rfl,.wp⟩,trivial⟩) (by simp only;omega)
   ·have d0:decide ((j:Int)>0)=false:=by simp;omega
    rw[d0];refine Rr ?_;repeat((first|refine aK g2 ?_|refine aD e1 ?_|refine aD e2 ?_);refine Rr ?_)
    have j0:j=0:=om;subst j0;exact .mk (1,size) (nH [0,1,2,3,4,5,6]) ⟨by simp only;omega,by simp only;rw[hsize];simp[So]⟩
     (aI _ rfl (jF _ _ _ _) ⟨aM,aG,a5 (.ip' hxn),aG,a5 (.il' (aT _)),aG,⟨_,rfl,.wp⟩,trivial⟩) (by simp only;omega)
  ·have hlt:j=kids.length:=by simp at h;omega
   rw[hlt,RG,show bX ss (kids.drop 1)=bX ss (gF ⟨4,name,lo,hi',ws,lbs,vals,kids,.mk vk vn vs vks⟩) from rfl,←hP] at hsize;subst hsize;refine Rt ?_;repeat((first|refine aK g1 ?_|refine aD f3 ?_|refine aD (f4 _) ?_|refine aD f2' ?_);refine Rt ?_)
   rw[←hd1];clear hd1;cases d1 with
   | true=>
    refine Rr ?_;exact fin' _ _ rfl rfl
   | false=>
    refine Rr ?_;exact fin' _ _ rfl rfl
theorem OL{ns:List Nd}{n:Nat}(h:eU ns n)(x:Nd)(hvl:x.values.length<=1000000)(hk4:x.kind=4->∃k:Nat,x.kids[0]? = some (k:Int)/\k<n)(ls ss:List Int)(kn:List Bool)(hk:kn.length=ns.length) :
  aF prog [] 42 [.ptr 0 0 0,.ip (bL x)] (Dy ns ls ss kn []) 7 fun r m k=>∃kn',kn'.length=ns.length /\
   r = .int .i64 (if x.kind=4 then(if (cD (aH ns) (x.kids.getD 0 0)).many=true then 4 else if cK (cD (aH ns) (x.kids.getD 0 0)).vals x.values=true then 0 else 1) else 0)/\m=Dy ns ls ss kn' []/\k=7:=by
 have hxn:=aQ x;generalize hres:(if x.kind=4 then(if (cD (aH ns) (x.kids.getD 0 0)).many=true then 4 else if cK (cD (aH ns) (x.kids.getD 0 0)).vals x.values=true then 0 else 1) else(0:Int))=res;have fin:∀(kn':List Bool) (mem:aN) (nx:Nat) (c:Int),kn'.length=ns.length->c=res->cP mem (nH [0,1,2,3,4,5,6]) (Dy ns ls ss kn' []) ->
   nF 7 (fun r m k=>∃kn',kn'.length=ns.length/\r = .int .i64 res/\m=Dy ns ls ss kn' []/\k=7) (.int .i64 c) mem nx:=by
  rintro kn' mem nx c hk' rfl hM;exact b8 (n':=7) (m':=Dy ns ls ss kn' []) (nH [0,1,2,3,4,5,6]) rfl hM (.same _ nn) ⟨kn',hk',rfl,rfl,rfl⟩
 by_cases e4:x.kind=4
 ·obtain⟨k,hkg,hkn⟩:=hk4 e4;have eg:x.kids.getD 0 0=(k:Int):=by rw[Qx,hkg];rfl
  rw[Q3 e4,eg] at hres;have ek:(aW x.kids)[(0:Int).toNat]? = some (.int .i64 k):=by rw[show (0:Int).toNat=0 from rfl,bK,hkg];rfl
  have hO:=Qb h k hkn kn hk;have hv:=h.vals (k:=k) om om;obtain⟨lk,hlk⟩:∃lk,lk=cD (aH ns) k:=⟨_,rfl⟩
  unfold sQ at hO;rw[←hlk] at hv hres;simp only[←hlk] at hO;obtain⟨lv,lm⟩:=lk;simp only at hv hres;have hE:=fun l (hl:l.length<=1024) hok=>GU l x.values om om hok
  obtain⟨kind,name,lo,hi',ws,lbs,vals,kids,⟨vk,vn,vs,vks⟩⟩:=x;simp only at e4 ek hvl hE hres;subst e4;refine aO bD func42 rfl ?_;refine Rr ?_;repeat((first|refine aD ek ?_|refine bN ?_);refine Rr ?_)
  refine aF.useR bD [(3,0),(4,1),(5,2),(6,3)] hO (by rfl) (.cons (.ptr 3 0 0 0 rfl) (.s .nil)) ⟨⟨3,_,rfl,rfl,x6 rfl rfl rfl⟩,aJ 4 (pE _),aJ 5 (qZ _ _),aJ 6 (pI _ _),trivial⟩ (by rfl) ?_;rintro r m nn' ⟨kn',hk',rfl,rfl,rfl⟩;refine⟨[(3,.row 119 4 [.agg [.il 12 (aY ns),.sl 4 0 ns.length,.sl 5 0 ns.length,.sl 6 0 ns.length]]),(4,.row 4 1 (kB kn')),(5,.row 29 1 (lB (aH ns) kn')),(6,.row 4 1 (mB (aH ns) kn'))],nn,⟨⟨0,_,rfl,rfl,x6 rfl rfl rfl⟩,aJ 1 (pE _),aJ 2 (qZ _ _),aJ 3 (pI _ _),trivial⟩,by rfl, ?_⟩;cases lm with
  | true=>
   refine Rr ?_;refine fin kn' _ _ _ hk' (by rw[←hres];simp) ?_;exact gO rfl rfl rfl rfl rfl rfl rfl rfl rfl rfl rfl rfl rfl rfl rfl rfl trivial
  | false=>
   have hE:=hE lv hv.1 hv.2;obtain⟨sv,hsv⟩:∃sv,sv=cK lv vals:=⟨_,rfl⟩
   rw[←hsv] at hE hres;refine Rr ?_;refine hE.go ?_;cases sv with
   | true=>
    refine Rr ?_;refine fin kn' _ _ _ hk' (by rw[←hres];simp) ?_;exact gO rfl rfl rfl rfl rfl rfl rfl rfl rfl rfl rfl rfl rfl rfl rfl rfl trivial
   | false=>
    refine Rr ?_;refine fin kn' _ _ _ hk' (by rw[←hres];simp) ?_;exact gO rfl rfl rfl rfl rfl rfl rfl rfl rfl rfl rfl rfl rfl rfl rfl rfl trivial
 ·rw[Qz e4] at hres;obtain⟨kind,name,lo,hi',ws,lbs,vals,kids,⟨vk,vn,vs,vks⟩⟩:=x;simp only at e4;refine aO bD func42 rfl ?_;refine Rr ?_;refine aE (fun _=>?_) (fun h=>absurd (by simpa using h) e4);refine Rr ?_;exact fin kn _ _ _ hk hres (jF _ _ _ _)
set_option maxHeartbeats 8000000
theorem N6(n:Nat):kB (List.replicate n false)=List.replicate n (.bool false):=by simp[kB]
theorem Ow(L:List fK):lB L (List.replicate L.length false)=encLs (List.replicate L.length []):=by
 unfold lB encLs
 induction L with
 | nil=>rfl
 | cons a L ih=>simpa[R7] using ih
theorem OT(L:List fK):mB L (List.replicate L.length false)=List.replicate L.length (.bool false):=by
 unfold mB
 induction L with
 | nil=>rfl
 | cons a L ih=>simpa[R7] using ih
theorem Ez(ns:List Nd)(hl:ns.length<=4096):aF prog [] 27 [.agg [.il 12 (aY ns)]] [] 0 fun r m k=>r = .ptr 0 0 0/\m=sM ns (List.replicate ns.length false)/\k=4:=by
 have hlen:(aY ns).length=ns.length:=bF ns;refine aO bD func27 rfl ?_;refine Rr ?_;rw[hlen];refine Rr ?_;refine aK (bP rfl (bP rfl (bP rfl (bP (RE om) (bP (RE om) (bP (uA rfl om om) (RE om))))))) ?_;refine Rr ?_;repeat((first|refine aK (bP rfl (bP rfl (bP rfl (bP (RE om) (bP (RE om) (bP (uA rfl om om) (RE om))))))) ?_|refine bN ?_);refine Rr ?_)
 have e:((ns.length:Nat):Int).toNat=ns.length:=by simp
 rw[e];have hL:(aH ns).length=ns.length:=cN ns;have e2:=Ow (aH ns);have e3:=OT (aH ns);rw[hL] at e2 e3;refine b8 (n':=4) (m':=sM ns (List.replicate ns.length false)) [(10,0),(4,1),(6,2),(8,3)] rfl ⟨⟨10,_,rfl,rfl,x6 rfl rfl rfl⟩,⟨4,_,rfl,rfl,.eq (pE _) (N6 _).symm⟩,⟨6,_,rfl,rfl,by rw[e2];exact Aj _⟩,⟨8,_,rfl,rfl,.eq (pI _ _) e3.symm⟩,trivial⟩ (.ptr 10 0 0 0 rfl) ⟨rfl,rfl,rfl⟩
structure Nl(ns:List Nd):Prop where
 ok:∀x∈ns,pL x
 val:∀x∈ns,aV x.value<=1048576
 vals:∀x∈ns,∀v∈x.values,aV v<=1048576
 vlen:∀x∈ns,x.values.length<=1000000
 klen:∀x∈ns,x.kids.length<=65536
def C3(l:List Int)(n:Nat):List Int:=l++List.replicate (n-l.length) 0
theorem Av{l:List Int}{n:Nat}(h:l.length<=n):(C3 l n).length=n:=by simp[C3];omega
theorem Hg{l:List Int}{n:Nat}(y:Int)(h:l.length<n):(C3 l n).set l.length y=C3 (l++[y]) n:=by
 unfold C3;rw[List.set_append_right _ _ (Q5 _),Nat.sub_self];obtain⟨m,hm⟩:∃m,n-l.length=m+1:=⟨n-l.length-1,om⟩
 rw[hm,R7,List.set_cons_zero,RY,List.length_singleton,show n-(l.length+1)=m by omega];simp
theorem II{l:List Int}{n:Nat}{k:Int}(h0:0<=k)(h1:k<l.length):dY (C3 l n) k=dY l k:=Hl h0 h1
theorem Hc{l:List Int}{n:Nat}(h:∀y∈l,0<=y/\y<=1024):∀y∈C3 l n,0<=y/\y<=1024:=by
 intro y hy;rcases Q9.1 hy with hy|hy
 ·exact h y hy
 ·have:=List.eq_of_mem_replicate hy;omega
theorem C9{i:Int}{x:Nd}(h:nN x=false):cG i x=false:=by
 cases e:cG i x with
 | false=>rfl
 | true=>
  unfold cG at e;simp only[Qt] at e;have:nN x=true:=by
   unfold nN;rw[e.1.1.1.1.1.1];simpa using e.1.1.1.1.1.2
  rw[this] at h;cases h
theorem Bv{i:Int}{x:Nd}(h:cG i x=false):dF i x=1:=by unfold dF;rw[Q3 h]
theorem LX{i:Int}{x:Nd}(h:cG i x=true)(h2:cY (lJ x)≠0):dF i x=cY (lJ x):=by unfold dF;rw[Qz (by rw[h];simp),Q3 h2]
theorem KD{i:Int}{x:Nd}(h:cG i x=true)(h2:cY (lJ x)=0)(h3:cU x=false):dF i x=5:=by unfold dF;rw[Qz (by rw[h];simp),Qz om,Q3 h3]
theorem JA{i:Int}{x:Nd}(h:cG i x=true)(h2:cY (lJ x)=0)(h3:cU x=true):dF i x=0:=by unfold dF;rw[Qz (by rw[h];simp),Qz om,Qz (by rw[h3];simp)]
theorem sR{b:List Nd}{ls ss:List Int}{x:Nd}{e:Int}(h:dF b.length x=e)(he:e≠0):eI b ls ss x=e:=by unfold eI;rw[Q3 (by rw[h];exact he),h]
theorem LF{b:List Nd}{ls ss:List Int}{x:Nd}(h:dF b.length x=0)(h2:256<fX ls x∨1024<g5 ss x):eI b ls ss x=4:=by unfold eI;rw[Qz om,Q3 h2]
theorem K3{b:List Nd}{ls ss:List Int}{x:Nd}(h:dF b.length x=0)(h2:¬(256<fX ls x∨1024<g5 ss x)):eI b ls ss x=if x.kind=4 then c9 b x else 0:=by unfold eI;rw[Qz om,Qz h2]
theorem OJ(ns:List Nd)(h:Nl ns):a7 prog [] 11 [.agg [.il 12 (aY ns)]] (.int .i64 (cL ns)):=by
 have hlen:(aY ns).length=ns.length:=bF ns;refine aO bD func11 rfl ?_;refine Rr ?_;rw[hlen];refine aE (fun hb=>?_) (fun hb=>?_)
 ·have h1:4096<ns.length:=by simp at hb;omega
  have:cL ns=4:=by unfold cL;rw[Q3 h1]
  rw[this];refine Rr ?_;exact aB nn ⟨rfl,rfl,rfl⟩
 ·have h1:ns.length<=4096:=by simp at hb;omega
  have:cL ns=bI [] ns:=by unfold cL;rw[Qz om]
  rw[this];generalize hres:bI [] ns=res;have hN:=Ez ns h1;refine Rr ?_;rw[hlen];refine Rr ?_;repeat((first|refine aK (bP rfl (bP rfl (bP rfl (bP (RE om) (bP (RE om) (bP (uA rfl om om) (RE om))))))) ?_|refine bN ?_);refine Rr ?_)
  refine aF.useN bD [] hN rfl (.same (.cons (.agg' (.cons (.il' (aS _)) .nil)) .nil)) trivial rfl ?_;rintro r m k ⟨rfl,rfl,rfl⟩;refine⟨[(0,16),(1,17),(2,18),(3,19)],.ptr 16 0 0,[(16,.row 119 4 [.agg [.il 12 (aY ns),.sl 17 0 ns.length,.sl 18 0 ns.length,.sl 19 0 ns.length]]),(17,.row 4 1 (kB (List.replicate ns.length false))),(18,.row 29 1 (lB (aH ns) (List.replicate ns.length false))),(19,.row 4 1 (mB (aH ns) (List.replicate ns.length false)))],20,
   .ptr 0 16 0 0 rfl,⟨⟨0,_,rfl,rfl,x6 rfl rfl rfl⟩,aJ 1 (pE _),aJ 2 (qZ _ _),aJ 3 (pI _ _),trivial⟩,rfl, ?_⟩
  refine Rt ?_;have e:((ns.length:Nat):Int).toNat=ns.length:=by simp
  rw[hlen,e];refine aZ.at bD (fun p:Nat × List Bool=>p.1<=ns.length/\p.2.length=ns.length/\bI [] (ns.take p.1)=0)
   (fun p=>⟨[(1,.ptr 7 0 0),(3,.ptr 0 0 0),(28,.int .i64 ns.length),(29,.int .i64 p.1)],Dy ns (C3 (bR (ns.take p.1)) ns.length) (C3 (bO (ns.take p.1)) ns.length) p.2 [(7,.row 25 1 [.agg [.il 12 (aY ns)]])],8,64⟩)
   (fun p=>ns.length-p.1) (0,List.replicate ns.length false) [(14,0),(6,1),(10,2),(16,3),(17,4),(18,5),(19,6),(0,7)] ⟨by simp,by simp,rfl⟩
   (aI _ rfl ⟨⟨14,_,rfl,rfl,Pm rfl rfl rfl⟩,⟨6,_,rfl,rfl,.eq (aT _) (by simp[C3,bR,aW])⟩,⟨10,_,rfl,rfl,.eq (aT _) (by simp[C3,bO,aW])⟩,⟨16,_,rfl,rfl,x6 rfl rfl rfl⟩,aJ 17 (pE _),aJ 18 (qZ _ _),aJ 19 (pI _ _),aJ 0 (.cons (.agg' (.cons (.il' (aS _)) .nil)) .nil),trivial⟩
    ⟨aM,aM,aG,aG,trivial⟩) ?_
  rintro⟨i,kn⟩ ⟨hi,hk,hv⟩;simp only at hi hk hv ⊢;refine Rr ?_;refine aE (fun hb2=>?_) (fun hb2=>?_)
  ·have hil:i<ns.length:=by simpa using hb2
   obtain⟨x,hx⟩:∃x,ns[i]? = some x:=⟨ns[i],Qq hil⟩
   have hxe:=(Qv.1 hx).2;have hxm:=RC hx;have ex:(aY ns)[((i:Nat):Int).toNat]? = some (bL x):=by simp[mU,hx]
   have hxn:=aQ x;have hti:(ns.take i).length=i:=by rw[Rx];omega
   have hll:(bR (ns.take i)).length=i:=by rw[gJ,hti]
   have hsl:(bO (ns.take i)).length=i:=by rw[gI,hti]
   have hsplit:ns=ns.take i++x::ns.drop (i+1):=by rw[←hxe];simp
   have hstop:∀e:Int,eI (ns.take i) (bR (ns.take i)) (bO (ns.take i)) x=e->e≠0->e=res:=fun e h1 h2=>by
    rw[←hres,hsplit,qJ hv (by rw[h1];exact h2),h1]
   have hnext:ns.take (i+1)=ns.take i++[x]:=by rw[Q0 hil,hxe]
   have hgo:eI (ns.take i) (bR (ns.take i)) (bO (ns.take i)) x=0->bI [] (ns.take (i+1))=0:=fun h1=>by
    rw[hnext,dL [] _ _ hv];exact h1
   have hC:=OY x (h.ok x hxm);have hSh:=MK ns i x om hx (h.ok x hxm) (h.vlen x hxm);have hPa:=OU x (h.ok x hxm) (h.val x hxm) (h.vals x hxm);have hRa:=Ny x (h.ok x hxm);refine Rr ?_;repeat(refine aD ex ?_;refine Rr ?_)
   refine hC.go ?_ (.cons (.ip' hxn) .nil);cases hc:nN x with
   | false=>
    refine Rr ?_;refine aB nn ⟨?_,rfl,rfl⟩;rw[hstop 1 (sR (Bv (C9 hc)) om) om]
   | true=>
    have hSh:=hSh hc;have hcc:lL [] [] [.il 12 (aY ns),.sl 1 0 ns.length,.sl 2 0 ns.length,.ptr 3 0 0] [.il 12 (aY ns),.junk,.junk,.junk]:=.cons (.same _ (.il' (aS _))) (.cons (.junk _) (.cons (.junk _) (.cons (.junk _) .nil)));refine Rr ?_;refine hSh.lend bD (.cons (.fzp 0 0 0 80 4 _ _ _ rfl rfl rfl (Q5 _) fun k c c' h1 h2=>by
     rw[Rc] at h1;exact(lL.cons (.same _ (.il' (aS _))) (.cons (.junk _) (.cons (.junk _) (.cons (.junk _) .nil)))).2 k c c' h1 h2) (.s .nil)) (.bool _) ?_
    clear hcc;cases hf:cG i x with
    | false=>
     refine Rr ?_;refine aB nn ⟨?_,rfl,rfl⟩;rw[hstop 1 (sR (by rw[hti];exact Bv hf) om) om]
    | true=>
     have hk0:x.kind=0->x.values=[]:=fun e0=>by
      unfold cG gQ at hf;simp only[Qt,Rq,RL] at hf;rcases hf.1.1.1.1.1.1.1.2 with h'|h'
      ·omega
      ·exact Ru.1 h'
     have hPa:=hPa hk0;refine Rr ?_;refine hPa.go ?_ (.cons (.ip' hxn) .nil);generalize hfe:cY (lJ x)=fe;refine Rr ?_;refine aE (fun hb3=>?_) (fun hb3=>?_)
     ·have h0:fe≠0:=by simpa using hb3
      refine Rr ?_;refine aB nn ⟨?_,rfl,rfl⟩;rw[hstop fe (sR (by rw[hti,LX hf (by rw[hfe];exact h0),hfe]) h0) h0]
     ·have h0:fe=0:=by simpa using hb3
      rw[h0] at hfe;refine Rr ?_;refine hRa.go ?_ (.cons (.ip' hxn) .nil);cases hn:cU x with
      | false=>
       refine Rr ?_;refine aB nn ⟨?_,rfl,rfl⟩;rw[hstop 5 (sR (by rw[hti];exact KD hf hfe hn) om) om]
      | true=>
       have hz:dF (ns.take i).length x=0:=by rw[hti];exact JA hf hfe hn
       have hnode:=iL (i:=i) (x:=x) (by rw[←hti];exact hz);have hlens:=kY _ hv;have hS:=Og i x hx (h.ok x hxm) (h.val x hxm) (h.klen x hxm) hnode.kids hnode.kind (fun e4=>by have:=hnode.bind (by have:=hnode.kind;omega);omega) (C3 (bR (ns.take i)) ns.length) (C3 (bO (ns.take i)) ns.length) kn (Av om) (Av om) (Hc hlens.1) (Hc hlens.2);have hkm:∀k∈x.kids,0<=k/\k<i:=fun k hk=>by
        obtain⟨j,hj⟩:=RQ hk;exact hnode.kids j k hj
       rw[z5 (b:=bR (ns.take i)) (fun k hk=>II (hkm k hk).1 (by rw[hll];exact(hkm k hk).2)) (fun e4=>by have:=hnode.bind e4;omega) hnode.kind,
        GK (b:=bO (ns.take i)) (fun k hk=>II (hkm k hk).1 (by rw[hsl];exact(hkm k hk).2))] at hS
       refine Rr ?_;refine aF.useI bD [0,1,2,3,4,5,6] hS (by rfl) (.cons (.ptr 0 0 0 0 rfl) (.s .nil)) (jF _ _ _ _) (by rfl) ?_;rintro r m k' ⟨rfl,rfl,rfl⟩;refine⟨nn,jF _ _ _ _,by rfl, ?_⟩;cases hfit:(decide (fX (bR (ns.take i)) x<=256) && decide (v9 (bO (ns.take i)) x<=1024)) with
       | false=>
        have hbig:256<fX (bR (ns.take i)) x∨1024<g5 (bO (ns.take i)) x:=by
         simp only[SN,Ry] at hfit;rw[HT] at hfit;omega
        refine Rr ?_;refine aB nn ⟨?_,rfl,rfl⟩;rw[hstop 4 (LF hz hbig) om]
       | true=>
        have hfit':¬(256<fX (bR (ns.take i)) x∨1024<g5 (bO (ns.take i)) x):=by
         simp only[Qt,RL] at hfit;rw[HT] at hfit;omega
        have hstep:=K3 hz hfit';have hso:eU ns i:=⟨hi,h1,h.ok,hv⟩
        have hkid:x.kind=4->∃k:Nat,x.kids[0]? = some (k:Int)/\k<i:=fun e4=>by
         have hl:=hnode.bind e4;obtain⟨k0,k1⟩:=hnode.kids 0 x.kids[0] (Qq om);obtain⟨k,hk⟩:=RB k0;exact⟨k,by rw[Qq om,hk],om⟩
        have hb:x.kind=4->c9 (ns.take i) x=(if (cD (aH ns) (x.kids.getD 0 0)).many=true then 4 else if cK (cD (aH ns) (x.kids.getD 0 0)).vals x.values=true then 0 else 1):=fun e4=>by
         obtain⟨k,hk,hki⟩:=hkid e4;have eg:x.kids.getD 0 0=(k:Int):=by rw[Qx,hk];rfl
         unfold c9;rw[eg,Sb,R8 (by simp;omega),gW om (by simp;omega) (by simp;omega)]
        have hT:=OL hso x (h.vlen x hxm) hkid ((C3 (bR (ns.take i)) ns.length).set i (fX (bR (ns.take i)) x)) ((C3 (bO (ns.take i)) ns.length).set i (v9 (bO (ns.take i)) x)) kn hk;have hstep:eI (ns.take i) (bR (ns.take i)) (bO (ns.take i)) x=(if x.kind=4 then(if (cD (aH ns) (x.kids.getD 0 0)).many=true then 4 else if cK (cD (aH ns) (x.kids.getD 0 0)).vals x.values=true then 0 else 1) else 0):=by
         rw[hstep];by_cases e4:x.kind=4
         ·rw[Q3 e4,Q3 e4,hb e4]
         ·rw[Qz e4,Qz e4]
        rw[←hstep] at hT;refine Rr ?_;refine aF.useI bD [0,1,2,3,4,5,6] hT (by rfl) (.cons (.ptr 0 0 0 0 rfl) (.cons (.same _ (.ip' hxn)) .nil)) (jF _ _ _ _) (by rfl) ?_;rintro r m k' ⟨kn',hk',rfl,rfl,rfl⟩;refine⟨nn,jF _ _ _ _,by rfl, ?_⟩;generalize hse:eI (ns.take i) (bR (ns.take i)) (bO (ns.take i)) x=se;refine Rr ?_;refine aE (fun hb4=>?_) (fun hb4=>?_)
        ·have h0:se≠0:=by simpa using hb4
         refine Rr ?_;refine aB nn ⟨?_,rfl,rfl⟩;rw[hstop se hse h0]
        ·have h0:se=0:=by simpa using hb4
         rw[h0] at hse;have hP:=Mf (fun y hy=>h.ok y (Rk hy)) hv hse;have e1:(C3 (bR (ns.take i)) ns.length).set i (fX (bR (ns.take i)) x)=C3 (bR (ns.take (i+1))) ns.length:=by
          rw[hnext,g6]
          conv=>lhs;rw[←hll]
          rw[hll];have:=Hg (l:=bR (ns.take i)) (n:=ns.length) (fX (bR (ns.take i)) x) om;rw[hll] at this;exact this
         have e2:(C3 (bO (ns.take i)) ns.length).set i (v9 (bO (ns.take i)) x)=C3 (bO (ns.take (i+1))) ns.length:=by
          rw[hP,hnext,gV];have:=Hg (l:=bO (ns.take i)) (n:=ns.length) (g5 (bO (ns.take i)) x) om;rw[hsl] at this;exact this
         rw[e1,e2];refine Rr ?_;exact .mk (i+1,kn') (nH [0,1,2,3,4,5,6,7]) ⟨by simp only;omega,hk',hgo hse⟩
          (aI _ rfl (gO rfl rfl rfl rfl rfl rfl rfl rfl rfl rfl rfl rfl rfl rfl rfl rfl ⟨aJ 7 (.cons (.agg' (.cons (.il' (aS _)) .nil)) .nil),trivial⟩) ⟨aM,aM,aG,⟨_,rfl,.wp⟩,trivial⟩) (by simp only;omega)
  ·have hil:i=ns.length:=by simp at hb2;omega
   rw[hil,RG,hres] at hv;subst hv;refine Rr ?_;exact aB nn ⟨rfl,rfl,rfl⟩
set_option maxHeartbeats 8000000
theorem OW(ns:List Nd)(n:Nat)(hn:n<=ns.length)(hl:ns.length<=100000)(hg:∀(i:Nat) (x:Nd),i<n->ns[i]? = some x->Go.Ax.f9 i x) :
  aF prog [] 67 [.agg [.il 12 (aY ns)],.int .i64 n] [] 0 fun r m k=>r = .sl 0 0 n/\m=[(0,.row 125 2 (Go.Ax.encLs (aH (ns.take n))))]/\k=1:=by
 refine aO bD func67 rfl ?_;refine Rr ?_;refine aZ.ph 125 2 ?_;refine aZ.at bD (fun i:Nat=>i<=n)
  (fun i=>⟨[(1,.int .i64 n),(2,.ptr 1 0 0),(5,.sl 2 0 i),(6,.int .i64 i)],[(1,.row 25 1 [.agg [.il 12 (aY ns)]]),(2,.row 125 2 (Go.Ax.encLs (aH (ns.take i))))],3,23⟩)
  (fun i=>n-i) 0 [(0,1),(1,2)] (by simp)
  (aI _ rfl ⟨aJ 0 (.cons (.agg' (.cons (.il' (aS _)) .nil)) .nil),aJ 1 .nil,trivial⟩ ⟨aG,aM,⟨_,rfl,.nslk 1 2 _ rfl rfl⟩,aG,trivial⟩) ?_
 intro i hi;refine Rr ?_;refine aE (fun h=>?_) (fun h=>?_)
 ·have hin:i<n:=by simp at h;omega
  obtain⟨x,hx1,hx2,ex,bx⟩:=qW (l:=ns) (k:=i) (n:=ns.length) om rfl;have ex:(aY ns)[((i:Nat):Int).toNat]? = some (bL x):=by rw[Rc] at ex;exact ex
  have hgx:=hg i x hin hx1;have htl:(aH (ns.take i)).length=i:=by rw[cN];simp;omega
  have hL:=Nn i x (aH (ns.take i)) hgx htl.symm (gD _ fun j y hy=>by
   have hj:=(Qv.1 hy).1;rw[RO,Q3 (by simp at hj;omega)] at hy;exact hg j y (by simp at hj;omega) hy)
  have hnx:aH (ns.take (i+1))=aH (ns.take i)++[cE x (aH (ns.take i))]:=by rw[Q0 om,hx2,eX]
  have hxn:=aQ x;have hxc:(bL x).cells.length=12:=by obtain⟨kind,name,lo,hi,ws,ls,vals,kids,⟨vk,vn,vs,vks⟩⟩:=x;rfl
  generalize cE x (aH (ns.take i))=nl at hL hnx;obtain⟨bs,hbs⟩:∃bs,bs=aH (ns.take i):=⟨_,rfl⟩
  rw[←hbs] at hL hnx htl ⊢;obtain⟨kind,name,lo,hi,ws,ls,vals,kids,⟨vk,vn,vs,vks⟩⟩:=x;refine Rr ?_;repeat((first|refine aK bx ?_|refine aD ex ?_);refine Rr ?_)
  refine aF.use1 bD hL 2 rfl (Go.Ax.encLs_nn bs) (.cons (.same _ hxn) (.cons (.slE rfl htl.symm) .nil)) ?_;rintro r m k ⟨rfl,rfl⟩;refine⟨_,rfl,jH _,Go.Ax.encLs_nn bs, ?_⟩;refine Rr ?_;refine aK (bM rfl rfl (by rw[Go.Ax.encLs_length,htl]) (by simp;omega)) ?_;refine Rr ?_;exact .mk (i+1) [(1,1),(4,2)] om
   (aI _ rfl ⟨aJ 1 (.cons (.agg' (.cons (.il' (aS _)) .nil)) .nil),⟨4,_,rfl,rfl,.eq (Go.Ax.encLs_nn _) (by rw[hnx];simp[Go.Ax.encLs])⟩,trivial⟩ ⟨aG,aM,⟨_,rfl,.slE rfl (by simp)⟩,⟨_,rfl,.w64 om ⟨om,om⟩⟩,trivial⟩) om
 ·have hin:i=n:=by simp at h;omega
  subst hin;refine Rr ?_;exact b8 (r':=.sl 0 0 i) (n':=1) (m':=[(0,.row 125 2 (Go.Ax.encLs (aH (ns.take i))))]) [(2,0)] rfl ⟨aJ 2 (Go.Ax.encLs_nn _),trivial⟩ (.sl 2 0 0 _ rfl) ⟨rfl,rfl,rfl⟩
theorem HR(ns:List Nd)(i:Nat)(hi:i<ns.length)(hl:ns.length<=100000)(hg:∀(j:Nat) (x:Nd),j<i+1->ns[j]? = some x->Go.Ax.f9 j x) :
  aF prog [] 30 [.agg [.il 12 (aY ns)],.int .i64 i] [] 0 fun r m k=>r = .tup [.il 4 (aL (cD (aH (ns.take (i+1))) i).vals),.bool (!(cD (aH (ns.take (i+1))) i).many)]/\m=[]/\k=0:=by
 have hL:=OW ns (i+1) om hl hg;have hw:IntKind.i64.wrap ((i:Int)+1)=((i+1:Nat):Int):=w64 om ⟨om,om⟩;have hat:=CQ hi;have hlen:(aH (ns.take (i+1))).length=i+1:=by rw[cN];simp;omega
 generalize cD (aH (ns.take (i+1))) i=b at hat ⊢;generalize aH (ns.take (i+1))=bs at hL hat hlen;obtain⟨bv,bm⟩:=b;have e2:(Go.Ax.encLs bs)[0+((i:Nat):Int).toNat]? = some (iX ⟨bv,bm⟩):=by rw[Rc,Q4,Go.Ax.encLs_get,hat];rfl
 have b2:Nat.blt ((i:Nat):Int).toNat (i+1)=true:=Qy (by simp);refine aO bD func30 rfl ?_;refine Rr ?_;rw[hw];refine aF.useN bD [] hL rfl (.cons (.same _ (.agg' (.cons (.il' (aS _)) .nil))) (.s .nil)) trivial rfl ?_;rintro r m k ⟨rfl,rfl,rfl⟩;refine⟨[(0,2)],.sl 2 0 (i+1),[(2,.row 125 2 (Go.Ax.encLs bs))],3,.sl 0 2 0 _ rfl,⟨aJ 0 (Go.Ax.encLs_nn _),trivial⟩,rfl, ?_⟩;refine Rr ?_;repeat((first|refine bN ?_|refine aK b2 ?_|refine aD e2 ?_);refine Rr ?_)
 exact aB nn ⟨rfl,rfl,rfl⟩
theorem fS(ns:List Nd)(x:Nd)(i:Nat)(hi:i<=ns.length)(hl:ns.length<=100000)(hg:∀(j:Nat) (x:Nd),j<i->ns[j]? = some x->Go.Ax.f9 j x)(hx:pL x)(hk0:0<x.kids.length)(hk:∀(j:Nat) (k:Int),x.kids[j]? = some k->0<=k/\k<i) :
  a7 prog [] 63 [.agg [.il 12 (aY ns)],bL x] (.int .i64 (c9 ns x)):=by
 obtain⟨q,hq⟩:∃q,x.kids[0]? = some q:=⟨x.kids[0],Qq hk0⟩
 obtain⟨q1,q2⟩:=hk 0 q hq;obtain⟨qn,rfl⟩:=RB q1;have hgd:x.kids.getD 0 0=qn:=by rw[Qx,hq];rfl
 have hV:=HR ns qn om hl fun j y hj hy=>hg j y om hy
 have hbl:=nE (gD (ns.take (qn+1)) fun j y hy=>hg j y (by have:=(Go.Ax.d7 hy).2;omega) (Go.Ax.d7 hy).1) qn;have hbe:c9 ns x=if (cD (aH (ns.take (qn+1))) qn).many=true then 4 else if cK (cD (aH (ns.take (qn+1))) qn).vals x.values=true then 0 else 1:=by
  unfold c9;simp only[hgd,Q4]
 rw[hbe];generalize cD (aH (ns.take (qn+1))) qn=b at hV hbl ⊢;obtain⟨bv,bm⟩:=b;simp only at hV hbl ⊢;have hS:=HU bv x.values om hbl.2;generalize cK bv x.values=sm at hS ⊢;have ek:(aW x.kids)[(0:Int).toNat]? = some (.int .i64 (qn:Int)):=by rw[bK];simp[hq]
 obtain⟨kind,name,lo,hi',ws,ls,vals,kids,⟨vk,vn,vs,vks⟩⟩:=x;simp only at hS ek;refine aO bD func63 rfl ?_;refine Rr ?_;repeat((first|refine bN ?_|refine aD ek ?_);refine Rr ?_)
 refine a7.go hV ?_ (.cons (.agg' (.cons (.il' (aS _)) .nil)) (.cons nn .nil));cases bm with
 | true=>
  refine Rr ?_;repeat((first|refine bN ?_|refine aD ek ?_);refine Rr ?_)
  exact aB nn ⟨rfl,rfl,rfl⟩
 | false=>
  refine Rr ?_;repeat((first|refine bN ?_|refine aD ek ?_);refine Rr ?_)
  refine hS.go ?_;cases sm with
  | true=>
   refine Rr ?_;exact aB nn ⟨rfl,rfl,rfl⟩
  | false=>
   refine Rr ?_;exact aB nn ⟨rfl,rfl,rfl⟩
theorem OD(ns:List Nd)(hl:ns.length<=100000)(ho:∀x∈ns,pL x/\x.values.length<=4294967290) :
  a7 prog [] 25 [.agg [.il 12 (aY ns)]] (.int .i64 (cL ns)):=by
 have hfin:∀(e:Int) (mem:aN) (nx:Nat),e=cL ns->nF 0 (fun r m n=>r = .int .i64 (cL ns)/\m=[]/\n=0) (.int .i64 e) mem nx:=by
  intro e mem nx he;exact aB nn ⟨by rw[he],rfl,rfl⟩
 refine aO bD func25 rfl ?_;refine Rr ?_;refine aE (fun h=>?_) (fun h=>?_)
 ·have h1:4096<ns.length:=by rw[bF] at h;simp at h;omega
  refine Rr ?_;exact hfin _ _ _ (by unfold cL;rw[Q3 h1])
 ·have h1:¬4096<ns.length:=by rw[bF] at h;simp at h;omega
  have hvt:cL ns=bI [] ns:=by unfold cL;rw[Qz h1]
  refine Rr ?_;refine aZ.ph 3 1 ?_;refine aZ.ph 3 1 ?_;refine aZ.at bD (fun i:Nat=>i<=ns.length/\bI [] (ns.take i)=0)
   (fun i=>⟨[(1,.ptr 1 0 0),(3,.sl 2 0 i),(4,.sl 3 0 i),(5,.int .i64 i)],[(1,.row 25 1 [.agg [.il 12 (aY ns)]]),(2,.row 3 1 (aW (bR (ns.take i)))),(3,.row 3 1 (aW (bO (ns.take i))))],4,57⟩)
   (fun i=>ns.length-i) 0 [(0,1),(1,2),(2,3)] ⟨by simp,by simp[bI]⟩
   (aI _ rfl ⟨aJ 0 (.cons (.agg' (.cons (.il' (aS _)) .nil)) .nil),aJ 1 .nil,aJ 2 .nil,trivial⟩ ⟨aM,⟨_,rfl,.nslk 1 2 _ rfl rfl⟩,⟨_,rfl,.nslk 2 3 _ rfl rfl⟩,aG,trivial⟩) ?_
  rintro i ⟨hi,hv0⟩;refine Rr ?_;refine aE (fun h=>?_) (fun h=>?_)
  ·have hin:i<ns.length:=by rw[bF] at h;simp at h;omega
   obtain⟨x,hx1,hx2,ex,bx⟩:=qW (l:=ns) (k:=i) (n:=ns.length) hin rfl;have hxm:=RC hx1;have ex:(aY ns)[((i:Nat):Int).toNat]? = some (bL x):=by rw[Rc] at ex;exact ex
   obtain⟨hxo,hxv⟩:=ho x hxm;have hsplit:ns=ns.take i++x::ns.drop (i+1):=by rw[←hx2,←List.drop_eq_getElem_cons hin,List.take_append_drop]
   have hti:(ns.take i).length=i:=by simp;omega
   have htn:ns.take (i+1)=ns.take i++[x]:=by rw[Q0 hin,hx2]
   have hgood:=g8 (ns.take i) (fun y hy=>(ho y (Rk hy)).1) hv0;obtain⟨hls,hss⟩:=kY (ns.take i) hv0;have hll:(bR (ns.take i)).length=i:=by rw[gJ,hti]
   have hsl:(bO (ns.take i)).length=i:=by rw[gI,hti]
   have hstop:=fun hs=>qJ (l:=ns.take i) (r:=ns.drop (i+1)) (x:=x) hv0 hs
   rw[←hsplit] at hstop;have hgo:=dL [] (ns.take i) x hv0;rw[Rb,←htn] at hgo;have hN:=NX i x om hxo hxv;have hlt:=g6 (ns.take i) x;have hst:=gV (ns.take i) x;rw[←htn] at hlt hst;have hse:eI (ns.take i) (bR (ns.take i)) (bO (ns.take i)) x=if dF i x≠0 then dF i x else if 256<fX (bR (ns.take i)) x∨1024<g5 (bO (ns.take i)) x then 4 else if x.kind=4 then c9 (ns.take i) x else 0:=by
    unfold eI;rw[hti]
   have hbnd:(0<x.kids.length/\∀(j:Nat) (k:Int),x.kids[j]? = some k->0<=k/\k<i)->c9 (ns.take i) x=c9 ns x:=by
    rintro⟨h0,hk⟩;obtain⟨q,hq⟩:∃q,x.kids[0]? = some q:=⟨x.kids[0],Qq h0⟩
    obtain⟨q1,q2⟩:=hk 0 q hq;have hgd:x.kids.getD 0 0=q:=by rw[Qx,hq];rfl
    unfold c9;simp only[hgd];rw[Sb,R8 om]
   have hxn:=aQ x;obtain⟨ne,hne⟩:∃ne,ne=dF i x:=⟨_,rfl⟩
   rw[←hne] at hN hse;by_cases n0:ne=0
   ·subst n0;have hok:=iL hne.symm;have h4:4<=x.kind->0<x.kids.length:=fun h=>by have:=hok.bind (by have:=hok.kind;omega);omega
    have hL:=FG (bR (ns.take i)) x hxo om hls (by rw[hll];exact hok.kids) h4 hok.kind;have hS:=KY (bO (ns.take i)) x hxo om hss (by rw[hsl];exact hok.kids) h4 hok.kind;have hB:=fS ns x i om hl (fun j y hj hy=>hgood j y (by rw[RO,Q3 hj];exact hy)) hxo;rw[Qz (by simp)] at hse;generalize bR (ns.take i)=lsI at hL hll hlt hse hstop hgo hls ⊢;generalize bO (ns.take i)=ssI at hS hsl hst hse hstop hgo hss ⊢;generalize fX lsI x=ln at hL hlt hse;generalize g5 ssI x=sn at hS hst hse;obtain⟨kind,name,lo,hi',ws,ls,vals,kids,⟨vk,vn,vs,vks⟩⟩:=x;simp only at hse h4 hB hbnd hok;refine Rr ?_;repeat((first|refine aK bx ?_|refine aD ex ?_);refine Rr ?_)
    refine hN.go ?_ (.cons (.int _ _) (.cons hxn .nil));refine Rr ?_;refine aF.useApp bD hL 2 rfl (aT _) (.cons (.slE rfl hll.symm) (.cons (.same _ hxn) .nil)) ?_;rintro len ys ⟨rfl,rfl⟩;refine Rr ?_;refine aF.useApp bD hS 3 rfl (aT _) (.cons (.slE rfl hsl.symm) (.cons (.same _ hxn) .nil)) ?_;rintro len ys ⟨rfl,rfl⟩;have el:(aW (lsI++[ln]))[0+((i:Nat):Int).toNat]? = some (.int .i64 ln):=by simp[aW,hll]
    have bl:Nat.blt ((i:Nat):Int).toNat (lsI.length+1)=true:=Qy (by simp;omega);have es:(aW (ssI++[sn]))[0+((i:Nat):Int).toNat]? = some (.int .i64 sn):=by simp[aW,hsl]
    have bs':Nat.blt ((i:Nat):Int).toNat (ssI.length+1)=true:=Qy (by simp;omega);refine Rr ?_;repeat((first|refine aK bl ?_|refine aD el ?_);refine Rr ?_)
    refine aE (fun h2=>?_) (fun h2=>?_)
    ·have h3:256<ln:=by simpa using h2
     rw[h2];rw[Q3 (.inl h3)] at hse;have hres:=hstop (by rw[hse];omega);refine Rr ?_;exact hfin _ _ _ (by rw[hvt,hres,hse])
    ·have h3:¬256<ln:=by simpa using h2
     rw[h2];refine Rr ?_;repeat((first|refine aK bs' ?_|refine aD es ?_);refine Rr ?_)
     refine aE (fun h4'=>?_) (fun h4'=>?_)
     ·have h5:1024<sn:=by simpa using h4'
      rw[h4'];rw[Q3 (.inr h5)] at hse;have hres:=hstop (by rw[hse];omega);refine Rr ?_;exact hfin _ _ _ (by rw[hvt,hres,hse])
     ·have h5:¬1024<sn:=by simpa using h4'
      rw[h4'];rw[Qz om] at hse;by_cases k4:kind=4
      ·rw[Q3 k4] at hse;have h40:=h4 om;have hB:=hB h40 hok.kids;rw[hbnd ⟨h40,hok.kids⟩] at hse;generalize c9 ns ⟨kind,name,lo,hi',ws,ls,vals,kids,.mk vk vn vs vks⟩=be at hB hse;subst k4;refine Rr ?_;refine hB.go ?_ (.cons (.agg' (.cons (.il' (aS _)) .nil)) (.cons hxn .nil));by_cases be0:be=0
       ·subst be0;rw[hse] at hgo;refine Rr ?_;exact .mk (i+1) [(1,1),(5,2),(6,3)] ⟨om,hgo⟩
         (aI _ rfl ⟨aJ 1 (.cons (.agg' (.cons (.il' (aS _)) .nil)) .nil),⟨5,_,rfl,rfl,.eq (aT _) (by rw[hlt])⟩,⟨6,_,rfl,rfl,.eq (aT _) (by rw[hst])⟩,trivial⟩ ⟨aM,⟨_,rfl,.slE rfl (by rw[hll])⟩,⟨_,rfl,.slE rfl (by rw[hsl])⟩,⟨_,rfl,.w64 om ⟨om,om⟩⟩,trivial⟩) om
       ·have d5:(be != 0)=true:=by simpa using be0
        have hres:=hstop (by rw[hse];exact be0);refine Rr ?_;rw[d5];refine Rr ?_;exact hfin _ _ _ (by rw[hvt,hres,hse])
      ·rw[Qz k4] at hse;have d4:(kind == 4)=false:=by simpa using k4
       rw[hse] at hgo;refine Rr ?_;rw[d4];refine Rr ?_;exact .mk (i+1) [(1,1),(5,2),(6,3)] ⟨om,hgo⟩
        (aI _ rfl ⟨aJ 1 (.cons (.agg' (.cons (.il' (aS _)) .nil)) .nil),⟨5,_,rfl,rfl,.eq (aT _) (by rw[hlt])⟩,⟨6,_,rfl,rfl,.eq (aT _) (by rw[hst])⟩,trivial⟩ ⟨aM,⟨_,rfl,.slE rfl (by rw[hll])⟩,⟨_,rfl,.slE rfl (by rw[hsl])⟩,⟨_,rfl,.w64 om ⟨om,om⟩⟩,trivial⟩) om
   ·have d1:(ne != 0)=true:=by simpa using n0
    have hse':=hse;rw[Q3 n0] at hse';have hres:=hstop (by rw[hse'];exact n0);rw[hse'] at hres;obtain⟨kind,name,lo,hi',ws,ls,vals,kids,⟨vk,vn,vs,vks⟩⟩:=x;refine Rr ?_;repeat((first|refine aK bx ?_|refine aD ex ?_);refine Rr ?_)
    refine hN.go ?_ (.cons (.int _ _) (.cons hxn .nil));refine Rr ?_;rw[d1];refine Rr ?_;exact hfin _ _ _ (by rw[hvt,hres])
  ·have hin:i=ns.length:=by rw[bF] at h;simp at h;omega
   subst hin;rw[RG] at hv0;refine Rr ?_;exact hfin _ _ _ (by rw[hvt,hv0])
end Go.Proofs.YtpajadlnaokngaaGreatDoor
namespace Go.Ax
open Go
structure Mt where
 old:Nat
 now:Nat
 opts:List Int
 same:List Bool
def s6(y:Nd)(k:Int):Nat:=(y.kids.getD k.toNat 0).toNat
structure i9(A:List Nd):Prop where
 ok:∀x∈A,pL x
 val:∀x∈A,aV x.value<=1048576
 vals:∀x∈A,∀v∈x.values,aV v<=1048576
 vlen:∀x∈A,x.values.length<=2000
 klen:∀x∈A,x.kids.length<=2000
 llen:∀x∈A,x.labels.length<=1000
 lab:∀x∈A,∀s∈x.labels,s.length<=1000
 len:A.length<=1000
structure NZ(A:List Nd)(i:Nat)(x:Nd):Prop where
 opt:P0 x
 node:Dq i x
 srt:kD x.values
 val:∀v∈x.values,fY v
theorem pW:∀{l:List aU},cR l=true->kD l
 | [],_=>by simp[kD]
 | [a],_=>by simp[kD]
 | a::b::r,h=>by
  simp only[cR,Qt,RL] at h;have ih:=pW h.2;unfold kD at ih ⊢;refine RS.2 ⟨fun x hx=>?_,ih⟩;rcases Qw.1 hx with rfl|hx
  ·exact h.1
  ·have:=(RS.1 ih).1 x hx;exact Ea h.1 om
theorem goodT{A:List Nd}(h:i9 A)(hv:cL A=0){i:Nat}{x:Nd}(hx:A[i]? = some x):NZ A i x:=by
 have hxm:=RC hx;have hv0:bI [] A=0:=by
  unfold cL at hv;split at hv
  ·omega
  ·exact hv
 have hn:=uB A hv0 i x hx;have hN:=iL hn;have hf:=iM hn;have hfp:=jY hf;have hk:=h.klen x hxm;refine⟨⟨h.ok x hxm,eS hN.num,om,fun e=>by have:=hN.klen om;omega,fun e=>?_⟩,hN, ?_,fun v hv=>((h.ok x hxm).valuesI v hv).1⟩
 ·refine⟨hfp.1 e, ?_⟩;unfold cG at hf;simp only[Qt,Rq,RL] at hf;rcases hf.1.1.1.2 with h2|h2
  ·exact absurd e h2
  ·exact h2.2
 ·unfold cG at hf;simp only[Qt] at hf;exact pW hf.2
theorem I9{A:List Nd}(ho:∀x∈A,pL x)(hv:cL A=0){i:Nat}{x:Nd}(hx:A[i]? = some x)(h4:x.kind=4):1<=x.values.length:=by
 have hv0:bI [] A=0:=by
  unfold cL at hv;split at hv
  ·omega
  ·exact hv
 have hi:=(Qv.1 hx).1;have hpre:bI [] (A.take i)=0:=by
  have:=hv0;rw[←List.take_append_drop i A] at this;exact f6 this
 obtain⟨q,hq,-⟩:=Ce (ns:=A.take i) (fun y hy=>ho y (Rk hy)) hpre (x:=x) (.inr h4) (kT A hv0 i x hx);have hb:=(iL (uB A hv0 i x hx)).bind h4;unfold gF at hq;rw[Qz om] at hq;have:=List.length_pos_of_mem hq;simp at this;omega
theorem Nx{A:List Nd}{n:Nat}{y:Nd}(hy:Dq n y){k:Int}(h0:0<=k)(h1:k<y.kids.length):s6 y k<n/\∃q:Int,y.kids[k.toNat]? = some q/\q=s6 y k:=by
 have hk:k.toNat<y.kids.length:=om;obtain⟨a,b⟩:=hy.kids k.toNat _ (Qq hk);unfold s6;rw[Qx,Qq hk];simp only[ST];exact⟨om,_,rfl,om⟩
theorem JY(a:aU):bS a a=0:=(kN a).refl
end Go.Ax
namespace Go.Ax
open Go
abbrev Sp:=Nat × Nat × Nat
structure Ql where
 val:aU
 used:Nat
 stop:Int
 spans:List Sp
structure Pt where
 used:Nat
 vals:List aU
 spans:List Sp
 stop:Int
structure VT(A:List Nd):Prop where
 tin:i9 A
 val:cL A=0
 pos:0<A.length
section
variable {A:List Nd}
theorem VT.v0(h:VT A):bI [] A=0:=by
 have hv:=h.val;unfold cL at hv;split at hv
 ·omega
 ·exact hv
theorem VT.set(h:VT A):eU A A.length:=⟨Q5 _,by have:=h.tin.len;omega,h.tin.ok,by rw[RG];exact h.v0⟩
theorem VT.node(h:VT A){i:Nat}{x:Nd}(hx:A[i]? = some x):NZ A i x:=goodT h.tin h.val hx
theorem VT.kid(h:VT A){i:Nat}{x:Nd}(hx:A[i]? = some x){j:Nat}(hj:j<x.kids.length):s6 x j<i/\x.kids[j]? = some (s6 x j:Int):=by
 have hi:=(Qv.1 hx).1;obtain⟨h1,q,h2,h3⟩:=Nx (A:=A) (h.node hx).node (k:=(j:Int)) om om;refine⟨h1, ?_⟩;rw[Q4] at h2;rw[h2,h3]
theorem Bt:∀{l m:List aU},cK l m=true->l=m
 | [],[],_=>rfl
 | a::l,b::m,h=>by
  simp only[cK,Qt,RL] at h;rw[D9 a b h.1,Bt h.2]
 | [],b::m,h=>by simp[cK] at h
 | a::l,[],h=>by simp[cK] at h
theorem VT.bind(h:VT A){i:Nat}{x:Nd}(hx:A[i]? = some x)(h4:x.kind=4):x.kids.length=x.values.length+1/\1<=x.values.length/\(cD (aH A) (s6 x 0)).many=false/\(cD (aH A) (s6 x 0)).vals=x.values:=by
 have hi:=(Qv.1 hx).1;have hb:=(h.node hx).node.bind h4;have h1:=I9 h.tin.ok h.val hx h4;refine⟨hb,h1, ?_⟩;obtain⟨k1,k2⟩:s6 x 0<i/\x.kids[0]? = some (s6 x 0:Int):=h.kid hx (j:=0) om;have hs:=(eE (kT A h.v0 i x hx)).2.2.2 h4;have e0:x.kids.getD 0 0=(s6 x 0:Int):=by rw[Qx,k2];rfl
 unfold c9 at hs;rw[e0,Q4,Sb,R8 om,gW om om om] at hs;simp only at hs;split at hs
 ·omega
 ·rename_i hm;split at hs
  ·rename_i hsv;exact⟨by simpa using hm,Bt hsv⟩
  ·omega
end
end Go.Ax
