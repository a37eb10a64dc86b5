/- A part of the proof. -/
import Derived.Test.YtpajadlnaokngaaGreatDoorAx16
set_option linter.unusedVariables false
set_option linter.unusedSimpArgs false
set_option linter.unusedSectionVars false
namespace Go.Proofs.YtpajadlnaokngaaGreatDoor
open Go Go.Ax Go.Proofs Tryz
set_option maxRecDepth 100000
set_option maxHeartbeats 8000000
theorem n7{α β γ:Type}(f:α->β->γ):∀(a:List α) (b:List β) (i:Nat) (x:α) (y:β),b[i]? = some y->List.zipWith f (a.set i x) b=(List.zipWith f a b).set i (f x y)
 | [],b,i,x,y,_=>by simp
 | p::a,[],i,x,y,hy=>by simp at hy
 | p::a,q::b,0,x,y,hy=>by simp at hy;subst hy;simp
 | p::a,q::b,i+1,x,y,hy=>by simp at hy;simp[n7 f a b i x y hy]
def kB(kn:List Bool):List AV:=kn.map AV.bool
def lB(L:List fK)(kn:List Bool):List AV:=List.zipWith (fun b (x:fK)=>AV.il 4 (aO (if b=true then x.vals else []))) kn L
def mB(L:List fK)(kn:List Bool):List AV:=List.zipWith (fun b (x:fK)=>AV.bool (b && x.many)) kn L
theorem sD(kn:List Bool):jK (kB kn):=fun a ha=>by
 obtain⟨n,_,rfl⟩:=Mz.1 ha;exact .bool _
theorem FM{α β γ:Type}{f:α->β->γ}{a:List α}{b:List β}{z:γ}(h:z∈List.zipWith f a b):∃x y,z=f x y:=by
 obtain⟨i,hi⟩:=M9 h;rw[Ob] at hi;split at hi
 ·cases hi;exact⟨_,_,rfl⟩
 ·cases hi
theorem uK(L:List fK)(kn:List Bool):jK (lB L kn):=fun a ha=>by
 obtain⟨x,y,rfl⟩:=FM ha;exact .il' (aY _)
theorem r9(L:List fK)(kn:List Bool):jK (mB L kn):=fun a ha=>by
 obtain⟨x,y,rfl⟩:=FM ha;exact .bool _
theorem sZ{L:List fK}{i:Nat}(h:i<L.length):L[i]? = some (cP L i):=by
 unfold cP;rw[Mk,Mo,Mf h];rfl
theorem Hb{kn:List Bool}{i:Nat}{b:Bool}(h:kn[i]? = some b):(kB kn)[i]? = some (.bool b):=by simp[kB,h]
theorem Hx{L:List fK}{kn:List Bool}{i:Nat}{b:Bool}(h:kn[i]? = some b)(hl:i<L.length):(lB L kn)[i]? = some (.il 4 (aO (if b=true then(cP L i).vals else []))):=by
 simp[lB,Ob,h,sZ hl]
theorem Hg{L:List fK}{kn:List Bool}{i:Nat}{b:Bool}(h:kn[i]? = some b)(hl:i<L.length):(mB L kn)[i]? = some (.bool (b && (cP L i).many)):=by
 simp[mB,Ob,h,sZ hl]
theorem Jx(kn:List Bool)(i:Nat)(b:Bool):kB (kn.set i b)=(kB kn).set i (.bool b):=by simp[kB,Om]
theorem KV{L:List fK}(kn:List Bool){i:Nat}(hl:i<L.length):lB L (kn.set i true)=(lB L kn).set i (.il 4 (aO (cP L i).vals)):=by
 unfold lB;rw[n7 _ kn L i true _ (sZ hl)];simp
theorem KQ{L:List fK}(kn:List Bool){i:Nat}(hl:i<L.length):mB L (kn.set i true)=(mB L kn).set i (.bool (cP L i).many):=by
 unfold mB;rw[n7 _ kn L i true _ (sZ hl)];simp
def sM(ns:List Nd)(kn:List Bool):aK:=[(0,.row 119 4 [.agg [.il 12 (a7 ns),.sl 1 0 ns.length,.sl 2 0 ns.length,.sl 3 0 ns.length]]),(1,.row 4 1 (kB kn)),(2,.row 29 1 (lB (aJ ns) kn)),(3,.row 4 1 (mB (aJ ns) kn))]
def uQ(ns:List Nd)(l:fK):AV->aK->Nat->Prop:=fun r m k=>∃kn,kn.length=ns.length/\r = .tup [.il 4 (aO l.vals),.bool (!l.many)]/\m=sM ns kn/\k=4
def sQ(ns:List Nd)(i:Nat):AV->aK->Nat->Prop:=uQ ns (cP (aJ ns) i)
theorem Ag{mem:aK}{σ:List (Nat × Nat)}{ns:List Nd}{N a b c a' b' c':Nat}(h1:lk σ a=some a')(h2:lk σ b=some b')(h3:lk σ c=some c') :
  pX mem σ [.agg [.il 12 (a7 ns),.sl a 0 N,.sl b 0 N,.sl c 0 N]] [.agg [.il 12 (a7 ns),.sl a' 0 N,.sl b' 0 N,.sl c' 0 N]]:=
 .cons (.agg (.cons (.same _ (.il' (aR _))) (.cons (.sl a a' 0 N h1) (.cons (.sl b b' 0 N h2) (.cons (.sl c c' 0 N h3) .nil))))) .nil
theorem d6(ns:List Nd)(kn:List Bool):cX (sM ns kn) (lW [0,1,2,3]) (sM ns kn):=
 ⟨⟨0,_,rfl,rfl,Ag rfl rfl rfl⟩,aI 1 (sD _),aI 2 (uK _ _),aI 3 (r9 _ _),trivial⟩
theorem MA{ns:List Nd}{n:Nat}(h:e8 ns n)(i:Nat)(hi:i<n)(kn:List Bool)(hk:kn.length=ns.length)
  (hF:aF prog [] 64 [.ptr 0 0 0,.int .i64 i] (sM ns kn) 4 (sQ ns i)) :
  aF prog [] 28 [.ptr 0 0 0,.int .i64 i] (sM ns kn) 4 (sQ ns i):=by
 have hN:=h.hn;have hL:i<(aJ ns).length:=by rw[dP];omega
 have h0:0+((i:Nat):Int).toNat=i:=by simp
 have hg:∀kn:List Bool,kn.length=ns.length->∃b,kn[i]? = some b:=fun kn hk=>⟨kn[i],Mf om⟩
 obtain⟨b,hb⟩:=hg kn hk;have e1:(kB kn)[0+((i:Nat):Int).toNat]? = some (.bool b):=by rw[h0];exact Hb hb
 have g1:Nat.blt ((i:Nat):Int).toNat ns.length=true:=Ml (by simp;omega);refine aN bI func28 rfl ?_;refine Rr ?_;repeat((first|refine aM g1 ?_|refine aD e1 ?_);refine Rr ?_)
 have fin:∀(mem:aK) (kn':List Bool),kn'.length=ns.length->cX mem (lW [0,1,2,3]) (sM ns kn')->∀(r:AV) (nx:Nat),Cv mem (lW [0,1,2,3]) r (.tup [.il 4 (aO (cP (aJ ns) i).vals),.bool (!(cP (aJ ns) i).many)])->mJ 4 (sQ ns i) r mem nx:=
  fun mem kn' hk' hM r nx hr=>cA (n':=4) (m':=sM ns kn') (lW [0,1,2,3]) rfl hM hr ⟨kn',hk',rfl,rfl,rfl⟩
 cases b with
 | true=>
  have e2:(lB (aJ ns) kn)[0+((i:Nat):Int).toNat]? = some (.il 4 (aO (cP (aJ ns) i).vals)):=by rw[h0,Hx hb hL];rfl
  have e3:(mB (aJ ns) kn)[0+((i:Nat):Int).toNat]? = some (.bool (cP (aJ ns) i).many):=by rw[h0,Hg hb hL];rfl
  refine Rr ?_;repeat((first|refine aM g1 ?_|refine aD e1 ?_|refine aD e2 ?_|refine aD e3 ?_|refine bW ?_);refine Rr ?_)
  exact fin _ kn hk (d6 ns kn) _ _ (.same _ nn)
 | false=>
  refine Rr ?_;refine aF.useI bI [0,1,2,3] hF (by rfl) (.cons (.ptr 0 0 0 0 rfl) (.s .nil)) (d6 ns kn) (by rfl) ?_;rintro r m k ⟨kn',hk',rfl,rfl,rfl⟩;refine⟨nn,d6 ns kn',by rfl, ?_⟩;obtain⟨b',hb'⟩:=hg kn' hk';have e1:(kB kn')[0+((i:Nat):Int).toNat]? = some (.bool b'):=by rw[h0];exact Hb hb'
  have e2:=Hx hb' hL;have e3:=Hg hb' hL;rw[←h0] at e2 e3;have q1:((kB kn').set (0+((i:Nat):Int).toNat) (.bool true))[0+((i:Nat):Int).toNat]? = some (.bool true):=by rw[h0];exact NT (by simp[kB];omega)
  have q2:((lB (aJ ns) kn').set (0+((i:Nat):Int).toNat) (.il 4 (aO (cP (aJ ns) i).vals)))[0+((i:Nat):Int).toNat]? = some (.il 4 (aO (cP (aJ ns) i).vals)):=by rw[h0];exact NT (by simp[lB,List.length_zipWith];omega)
  have q3:((mB (aJ ns) kn').set (0+((i:Nat):Int).toNat) (.bool (!(!(cP (aJ ns) i).many))))[0+((i:Nat):Int).toNat]? = some (.bool (!(!(cP (aJ ns) i).many))):=by rw[h0];exact NT (by simp[mB,List.length_zipWith];omega)
  refine Rr ?_;repeat((first|refine aM g1 ?_|refine aD e1 ?_|refine aD e2 ?_|refine aD e3 ?_|refine aD q1 ?_|refine aD q2 ?_|refine aD q3 ?_|refine bW ?_|refine bQ.2 ?_);refine Rr ?_)
  rw[h0];refine fin _ (kn'.set i true) (by simp[hk']) ⟨⟨0,_,rfl,rfl,Ag rfl rfl rfl⟩,⟨1,_,rfl,rfl,.eq (sD _) (Jx _ _ _).symm⟩,⟨2,_,rfl,rfl,.eq (uK _ _) (KV _ hL).symm⟩,⟨3,_,rfl,rfl,.eq (r9 _ _) (by rw[KQ _ hL,Bool.not_not])⟩,trivial⟩ _ _ (.eq nn (by rw[Bool.not_not]))
set_option maxHeartbeats 8000000
def JR(ns:List Nd)(i:Nat):Prop:=∀kn:List Bool,kn.length=ns.length->aF prog [] 28 [.ptr 0 0 0,.int .i64 i] (sM ns kn) 4 (sQ ns i)
theorem u2{ns:List Nd}{l:fK}(mem:aK)(kn':List Bool)(hk':kn'.length=ns.length)(hM:cX mem (lW [0,1,2,3]) (sM ns kn'))(r:AV)(nx:Nat)(hr:Cv mem (lW [0,1,2,3]) r (.tup [.il 4 (aO l.vals),.bool (!l.many)])):mJ 4 (uQ ns l) r mem nx:=
 cA (n':=4) (m':=sM ns kn') (lW [0,1,2,3]) rfl hM hr ⟨kn',hk',rfl,rfl,rfl⟩
theorem Kb{ns:List Nd}{n:Nat}(h:e8 ns n)(i:Nat)(hi:i<=n)(kids:List Int)(hkl:kids.length<=65536)(hkids:∀k∈kids,0<=k/\k<i)(hOf:∀j<i,JR ns j)(kn:List Bool)(hk:kn.length=ns.length) :
  aF prog [] 137 [.ptr 0 0 0,.il 1 (aX kids)] (sM ns kn) 4 (uQ ns (jZ (aJ ns) kids)):=by
 refine aN bI func137 rfl ?_;refine Rr ?_;refine a6.at bI (fun p:Nat × List Bool × List aT=>p.1<=kids.length/\p.2.1.length=ns.length/\(kids.take p.1).foldl (bF (aJ ns)) ([],false)=(p.2.2,false)/\jT p.2.2/\p.2.2.length<=1024/\∀v∈p.2.2,gC v)
  (fun p=>⟨[(0,.ptr 0 0 0),(6,.il 4 (aO p.2.2)),(11,.il 1 (aX kids)),(12,.int .i64 kids.length),(13,.int .i64 p.1)],sM ns p.2.1,4,33⟩) (fun p=>kids.length-p.1) (0,kn,[]) (lW [0,1,2,3])
  ⟨by simp,hk,by simp,by simp[jT],by simp,by simp⟩
  (aH _ rfl (d6 ns kn) ⟨aL,⟨_,rfl,.nil 4⟩,a9 (.il' (aS _)),⟨_,rfl,.int (by rw[aC])⟩,aG,trivial⟩) ?_
 rintro⟨j,kn,out⟩ ⟨hj,hk,hf,hso,hol,hok⟩;simp only at hj hk hf hso hol hok ⊢;refine Rr ?_;refine aE (fun hb=>?_) (fun hb=>?_)
 ·have hlt:j<kids.length:=by simpa using hb
  have e1:(aX kids)[(j:Int).toNat]? = some (.int .i64 kids[j]):=by rw[Mo,bL,Mf hlt];rfl
  have hg:kids[j]? = some kids[j]:=Mf hlt;generalize kids[j]=k at e1 hg;obtain⟨k0,k1⟩:=hkids k (My hg);obtain⟨k,rfl⟩:=Mx k0;have hO:=hOf k om kn hk;have hst:=J0 hg hf;have hvals:=h.vals (k:=k) om om;have hsr:=L5 ns k;simp only[bF,Of] at hst;unfold sQ at hO;refine Rr ?_;refine aD e1 ?_;refine Rr ?_;refine aF.useI bI [0,1,2,3] hO (by rfl) (.cons (.ptr 0 0 0 0 rfl) (.s .nil)) (d6 ns kn) (by rfl) ?_;rintro r m k' ⟨kn',hk',rfl,rfl,rfl⟩;refine⟨nn,d6 ns kn',by rfl, ?_⟩;generalize cP (aJ ns) k=lk at hst hvals hsr;obtain⟨lv,lm⟩:=lk;simp only at hst hvals hsr;cases lm with
  | true=>
   have hbad:=Eg (bs:=aJ ns) (kids:=kids) (j:=j+1) (by rw[hst];rfl);rw[hbad];refine Rr ?_;exact u2 _ kn' hk' (d6 ns kn') _ _ (.tup' (.cons (.nil 4) (.s .nil)))
  | false=>
   have hm:=IS out lv om om hok;have hms:=Bx hso hsr;rw[←hms] at hst;have hmok:∀v∈dF out lv,gC v:=fun v hv=>by
    rcases(kX _ _ _).1 hv with hv|hv
    ·exact hok v hv
    ·exact hvals.2 v hv
   have hmsr:=wJ out lv hso hsr;generalize dF out lv=mg at *;refine Rr ?_;refine hm.go ?_;refine Rr ?_;refine aE (fun hb2=>?_) (fun hb2=>?_)
   ·have h1:1024<mg.length:=by rw[aB] at hb2;simp at hb2;omega
    have hbad:=Eg (bs:=aJ ns) (kids:=kids) (j:=j+1) (by rw[hst];simpa using h1);rw[hbad];refine Rr ?_;exact u2 _ kn' hk' (d6 ns kn') _ _ (.tup' (.cons (.nil 4) (.s .nil)))
   ·have h1:mg.length<=1024:=by rw[aB] at hb2;simp at hb2;omega
    refine Rr ?_;exact .mk (j+1,kn',mg) (lW [0,1,2,3]) ⟨by simp only;omega,hk',by simp only;rw[hst];simp;omega,hmsr,h1,hmok⟩
     (aH _ rfl (d6 ns kn') ⟨aL,aG,a9 (.il' (aS _)),aG,⟨_,rfl,.wp⟩,trivial⟩) (by simp only;omega)
 ·have hlt:j=kids.length:=by simp at hb;omega
  rw[hlt,M2] at hf;rw[HO hf];refine Rr ?_;exact u2 _ kn hk (d6 ns kn) _ _ (.same _ nn)
def bE(ls:List (List aT)):List AV:=ls.map fun l=>.il 4 (aO l)
theorem aW(ls:List (List aT)):jK (bE ls):=fun a ha=>by
 obtain⟨l,_,rfl⟩:=Mz.1 ha;exact .il' (aY _)
theorem m7(ls:List (List aT)):(bE ls).length=ls.length:=by simp[bE]
theorem iV{ls:List (List aT)}{i:Nat}{l:List aT}(h:ls[i]? = some l):(bE ls)[i]? = some (.il 4 (aO l)):=by simp[bE,h]
def Kj(ns:List Nd)(kn:List Bool)(rest:aK):aK:=(0,.row 119 4 [.agg [.il 12 (a7 ns),.sl 1 0 ns.length,.sl 2 0 ns.length,.sl 3 0 ns.length]])::(1,.row 4 1 (kB kn))::(2,.row 29 1 (lB (aJ ns) kn))::(3,.row 4 1 (mB (aJ ns) kn))::rest
theorem eF{mem:aK}{σ:List (Nat × Nat)}{ns:List Nd}{kn:List Bool}{rest:aK}(h0:lk σ 0=some 0)(h1:lk σ 1=some 1)(h2:lk σ 2=some 2)(h3:lk σ 3=some 3)
  (m0:lk mem 0=some (.row 119 4 [.agg [.il 12 (a7 ns),.sl 1 0 ns.length,.sl 2 0 ns.length,.sl 3 0 ns.length]])) (m1:lk mem 1=some (.row 4 1 (kB kn))) (m2:lk mem 2=some (.row 29 1 (lB (aJ ns) kn))) (m3:lk mem 3=some (.row 4 1 (mB (aJ ns) kn)))
  (hr:cX mem σ rest):cX mem σ (Kj ns kn rest):=
 ⟨⟨0,_,h0,m0,Ag h1 h2 h3⟩,⟨1,_,h1,m1,.same (sD _)⟩,⟨2,_,h2,m2,.same (uK _ _)⟩,⟨3,_,h3,m3,.same (r9 _ _)⟩,hr⟩
theorem x5{mem:aK}{σ:List (Nat × Nat)}:∀m:Nat,pX mem σ (List.replicate m .nsl) (bE (List.replicate m []))
 | 0=>.nil
 | m+1=>by
  rw[Nr,Nr];exact .cons (.one rfl rfl (.nil 4)) (x5 m)
theorem JP(ls:List (List aT))(i:Nat)(l:List aT):bE (ls.set i l)=(bE ls).set i (.il 4 (aO l)):=by simp[bE,Om]
theorem AJ{mem:aK}{σ:List (Nat × Nat)}:∀m:Nat,pX mem σ (List.replicate m (.agg [.int .i64 0,.int .i64 0,.str [],.nsl])) (aO (List.replicate m (.mk 0 0 [] [])))
 | 0=>.nil
 | m+1=>by
  rw[Nr,Nr,aO];exact .cons (Br 0 0 []) (AJ m)
theorem Gu{ns:List Nd}{n:Nat}(h:e8 ns n)(i:Nat)(hi:i<=n)(x:Nd)(hkl:x.kids.length<=65536)(hkids:∀k∈x.kids,0<=k/\k<i)(hOf:∀j<i,JR ns j)(kn:List Bool)(hk:kn.length=ns.length) :
  aF prog [] 138 [.ptr 0 0 0,.ip (bN x)] (sM ns kn) 4 (uQ ns (mF (aJ ns) x)):=by
 have hxn:=aQ x;have hpb:=fun(j:Nat) (e:((x.kids.take j).foldl (eO (aJ ns)) (1,false)).2=true)=>JN (bs:=aJ ns) (x:=x) (j:=j) e
 have hpg:=fun(t:Nat) (e:x.kids.foldl (eO (aJ ns)) (1,false)=(t,false))=>HW (yG ns) (x:=x) (t:=t) e
 have hmade:=fun ks=>K0 x ks
 generalize mF (aJ ns) x=res at hpb hpg ⊢;obtain⟨kind,name,lo,hi',ws,ls,vals,kids,⟨vk,vn,vs,vks⟩⟩:=x;simp only at hkl hkids hpb hpg;refine aN bI func138 rfl ?_;refine Rr ?_;refine aM (bP rfl (bP rfl (bP rfl (bP (NB om) (bP (NB om) (bP (q6 rfl om (by simp only[aC];omega)) (NB (by simp only[aC];omega)))))))) ?_;refine Rr ?_;refine a6.at bI (fun p:Nat × List Bool × Nat × List (List aT)=>p.1<=kids.length/\p.2.1.length=ns.length/\(kids.take p.1).foldl (eO (aJ ns)) (1,false)=(p.2.2.1,false)/\p.2.2.1<=1024/\p.2.2.2.length=kids.length/\(∀(q:Nat) (k:Int),q<p.1->kids[q]? = some k->p.2.2.2[q]? = some (cP (aJ ns) k).vals/\(cP (aJ ns) k).vals≠[]))
  (fun p=>⟨[(0,.ptr 0 0 0),(1,.ip (bN ⟨kind,name,lo,hi',ws,ls,vals,kids,.mk vk vn vs vks⟩)),(6,.sl 4 0 kids.length),(7,.int .i64 p.2.2.1),(25,.il 1 (aX kids)),(26,.int .i64 kids.length),(27,.int .i64 p.1)],Kj ns p.2.1 [(4,.row 29 1 (bE p.2.2.2))],5,98⟩)
  (fun p=>kids.length-p.1) (0,kn,1,List.replicate kids.length []) (lW [0,1,2,3,4])
  ⟨by simp,hk,by simp,by simp,by simp,fun q k hq=>by simp at hq⟩
  (aH _ rfl (eF rfl rfl rfl rfl rfl rfl rfl rfl ⟨⟨4,_,rfl,rfl,.to (x5 kids.length) (by rw[show (((aX kids).length:Nat):Int).toNat=kids.length by rw[aC];simp])⟩,trivial⟩) ⟨aL,a9 (.ip' hxn),⟨_,rfl,.slE rfl (by rw[aC];simp)⟩,aG,a9 (.il' (aS _)),⟨_,rfl,.int (by rw[aC])⟩,aG,trivial⟩) ?_
 rintro⟨j,kn,total,lists⟩ ⟨hj,hk,hf,hto,hll,hls⟩;simp only at hj hk hf hto hll hls ⊢;refine Rr ?_;refine aE (fun hb=>?_) (fun hb=>?_)
 ·have hlt:j<kids.length:=by simpa using hb
  have e1:(aX kids)[(j:Int).toNat]? = some (.int .i64 kids[j]):=by rw[Mo,bL,Mf hlt];rfl
  have hg:kids[j]? = some kids[j]:=Mf hlt;generalize kids[j]=k at e1 hg;obtain⟨k0,k1⟩:=hkids k (My hg);obtain⟨k,rfl⟩:=Mx k0;have hO:=hOf k om kn hk;have hst:=KN hg hf;have hvals:=h.vals (k:=k) om om;have hne:=h.ne (k:=k) om om;have hls':∀(q:Nat) (k':Int),q<j+1->kids[q]? = some k'->(q<j/\(lists[q]? = some (cP (aJ ns) k').vals/\(cP (aJ ns) k').vals≠[]))∨(q=j/\k'=k):=fun q k' hq hk'=>by
   rcases Mq q j with hq'|hq'
   ·exact .inl ⟨hq',hls q k' hq' hk'⟩
   ·have:q=j:=om;subst this;rw[hg] at hk';cases hk';exact .inr ⟨rfl,rfl⟩
  simp only[eO,Of] at hst;unfold sQ at hO;refine Rr ?_;refine aD e1 ?_;refine Rr ?_;refine aF.useI bI [0,1,2,3] hO (by rfl) (.cons (.ptr 0 0 0 0 rfl) (.s .nil)) (d6 ns kn) (by rfl) ?_;rintro r m k' ⟨kn',hk',rfl,rfl,rfl⟩;refine⟨nn,d6 ns kn',by rfl, ?_⟩;obtain⟨lk,hlk⟩:∃lk,lk=cP (aJ ns) k:=⟨_,rfl⟩
  rw[←hlk] at hst hvals hne ⊢;obtain⟨lv,lm⟩:=lk;simp only at hst hvals hne;cases lm with
  | true=>
   have hbad:=hpb (j+1) (by rw[hst];rfl);rw[hbad];refine Rr ?_;exact u2 _ kn' hk' (eF rfl rfl rfl rfl rfl rfl rfl rfl trivial) _ _ (.tup' (.cons (.nil 4) (.s .nil)))
  | false=>
   have hw:IntKind.i64.wrap ((total:Int)*((aO lv).length:Int))=((total*lv.length:Nat):Int):=by
    have:total*lv.length<=1024*1024:=OC hto hvals.1;exact w64 (by rw[aB];simp) ⟨om,om⟩
   refine Rr ?_;rw[hw];refine Rr ?_;refine aE (fun hb2=>?_) (fun hb2=>?_)
   ·have hbad:=hpb (j+1) (by rw[hst];simp at hb2 ⊢;omega);rw[hbad];refine Rr ?_;exact u2 _ kn' hk' (eF rfl rfl rfl rfl rfl rfl rfl rfl trivial) _ _ (.tup' (.cons (.nil 4) (.s .nil)))
   ·have hto':total*lv.length<=1024:=by simp at hb2;omega
    have h0:0+((j:Nat):Int).toNat=j:=by simp
    have g1:Nat.blt ((j:Nat):Int).toNat kids.length=true:=Ml (by simp;omega);have e3:(bE lists)[0+((j:Nat):Int).toNat]? = some (.il 4 (aO lists[j])):=by rw[h0];exact iV (Mf om)
    have e4:((bE lists).set (0+((j:Nat):Int).toNat) (.il 4 (aO lv)))[0+((j:Nat):Int).toNat]? = some (.il 4 (aO lv)):=by rw[h0];exact NT (by rw[m7];omega)
    refine Rt ?_;repeat((first|refine aM g1 ?_|refine aD e3 ?_|refine aD e4 ?_);refine Rt ?_)
    exact .mk (j+1,kn',total*lv.length,lists.set j lv) (lW [0,1,2,3,4]) ⟨by simp only;omega,hk',by simp only;rw[hst];simp;omega,hto',by simp only[Ok];exact hll,fun q k' hq hkq=>by
      simp only at hq ⊢;rcases hls' q k' hq hkq with⟨h1,h2,h3⟩|⟨rfl,rfl⟩
      ·rw[List.getElem?_set_ne om];exact⟨h2,h3⟩
      ·rw[NT om,←hlk];exact⟨rfl,hne rfl⟩⟩
     (aH _ rfl (eF rfl rfl rfl rfl rfl rfl rfl rfl ⟨⟨4,_,rfl,rfl,.eq (aW _) (by rw[h0];exact(JP _ _ _).symm)⟩,trivial⟩) ⟨aL,a9 (.ip' hxn),⟨_,rfl,.slE rfl rfl⟩,aG,a9 (.il' (aS _)),aG,⟨_,rfl,.wp⟩,trivial⟩) (by simp only;omega)
 ·have hlt:j=kids.length:=by simp at hb;omega
  rw[hlt,M2] at hf;obtain⟨hres,hpr⟩:=hpg total hf;rw[hres];have hlv:lists=kids.map fun k=>(cP (aJ ns) k).vals:=List.ext_getElem? fun q=>by
   rw[NV];rcases Mq q kids.length with hq|hq
   ·rw[(hls q _ om (Mf hq)).1,Mf hq];rfl
   ·rw[Ms om,Ms hq];rfl
  have hlne:∀l∈lists,l≠[]:=fun l hl=>by
   rw[hlv] at hl;obtain⟨k,hk,rfl⟩:=Mz.1 hl;obtain⟨q,hq⟩:=M9 hk;exact(hls q k (by rw[hlt];exact(Mi.1 hq).1) hq).2
  have hllen:∀l∈lists,l.length<=1024:=fun l hl=>by
   rw[hlv] at hl;obtain⟨k,hk,rfl⟩:=Mz.1 hl;obtain⟨k0,k1⟩:=hkids k hk;exact(h.vals k0 om).1
  rw[←hlv] at hpr ⊢;clear hpb hpg hls hlv hres hf;refine Rr ?_;refine aM (bP rfl (bP rfl (bP rfl (bP rfl (bP (NB om) (bP (q6 rfl om om) (NB om))))))) ?_;refine Rr ?_;refine a6.at bI (fun p:Nat × List aT=>p.1<=total/\p.2=((mC lists.reverse).take p.1).map (dQ name)/\p.2.length=p.1)
   (fun p=>⟨[(1,.ip (bN ⟨kind,name,lo,hi',ws,ls,vals,kids,.mk vk vn vs vks⟩)),(6,.sl 4 0 kids.length),(12,.sl 5 0 p.1),(53,.int .i64 total),(54,.int .i64 p.1)],Kj ns kn [(4,.row 29 1 (bE lists)),(5,.row 57 4 (aO p.2))],6,98⟩)
   (fun p=>total-p.1) (0,[]) (lW [0,1,2,3,4,5])
   ⟨by simp,by simp,by simp⟩
   (aH _ rfl (eF rfl rfl rfl rfl rfl rfl rfl rfl ⟨aI 4 (aW _),⟨5,_,rfl,rfl,.nil⟩,trivial⟩) ⟨a9 (.ip' hxn),⟨_,rfl,.slE rfl rfl⟩,⟨_,rfl,.slE rfl rfl⟩,aG,aG,trivial⟩) ?_
  rintro⟨k,all⟩ ⟨hkt,hall,hal⟩;simp only at hkt hall hal ⊢;refine Rr ?_;refine aE (fun hb=>?_) (fun hb=>?_)
  ·have hlt2:k<total:=by simpa using hb
   refine Rr ?_;refine aM (bP rfl (bP rfl (bP rfl (bP (NB om) (bP (NB om) (bP (q6 rfl om om) (NB om))))))) ?_;refine Rr ?_;refine a6.at bI (fun p:Nat × Nat × List aT=>p.1<=kids.length/\p.2.1<=1024/\p.2.2.length=kids.length/\Go.Ax.rowAt (lists.take p.1).reverse p.2.1++p.2.2.drop p.1=Go.Ax.rowAt lists.reverse k)
    (fun p=>⟨[(1,.ip (bN ⟨kind,name,lo,hi',ws,ls,vals,kids,.mk vk vn vs vks⟩)),(6,.sl 4 0 kids.length),(12,.sl 5 0 k),(13,.int .i64 p.2.1),(14,.sl 6 0 kids.length),(15,.int .i64 ((p.1:Int)-1)),(53,.int .i64 total),(54,.int .i64 k)],Kj ns kn [(4,.row 29 1 (bE lists)),(5,.row 57 4 (aO all)),(6,.row 57 4 (aO p.2.2))],7,98⟩)
    (fun p=>p.1) (kids.length,k,List.replicate kids.length (.mk 0 0 [] [])) (lW [0,1,2,3,4,5,6])
    ⟨by simp,by simp only;omega,by simp,by simp only;rw[←hll,M2,NU (by simp)];simp⟩
    (aH _ rfl (eF rfl rfl rfl rfl rfl rfl rfl rfl ⟨aI 4 (aW _),aI 5 (aY _),⟨6,_,rfl,rfl,AJ _⟩,trivial⟩) ⟨a9 (.ip' hxn),⟨_,rfl,.slE rfl rfl⟩,⟨_,rfl,.slE rfl rfl⟩,aG,⟨_,rfl,.slE rfl (by simp)⟩,⟨_,rfl,.w64 (by simp only) ⟨by simp only;omega,by simp only;omega⟩⟩,aG,aG,trivial⟩) ?_
   rintro⟨q,kk,row⟩ ⟨hq,hkk,hrl,hrow⟩;simp only at hq hkk hrl hrow ⊢;refine Rr ?_;refine aE (fun hb=>?_) (fun hb=>?_)
   ·obtain⟨q,rfl⟩:∃q',q=q'+1:=⟨q-1,by simp at hb;omega⟩
    obtain⟨l,hl⟩:∃l,lists[q]? = some l:=⟨lists[q],Mf om⟩
    have hlm:=My hl;have hl0:=NX.2 (hlne l hlm);have hl1:=hllen l hlm;have hmod:=O0 kk hl0;have hdiv:=Nat.div_le_self kk l.length;obtain⟨v1,v2,v3,v4,vm,vg,-,ev⟩:=bK (l:=l) (k:=kk%l.length) hmod;have hrs:=D8 (kk:=kk) hl vg;have e0:0+((q:Nat):Int).toNat=q:=by simp
    have g1:Nat.blt ((q:Nat):Int).toNat kids.length=true:=Ml (by simp;omega);have e3:(bE lists)[0+((q:Nat):Int).toNat]? = some (.il 4 (aO l)):=by rw[e0];exact iV hl
    have e15:((q+1:Nat):Int)-1=(q:Int):=om;rw[e15];refine Rr ?_;have d0:(!decide (((aO l).length:Int)=0))=true:=by rw[aB,Bool.not_eq_true',Nh];omega
    have em:(kk:Int).tmod ((aO l).length:Int)=((kk%l.length:Nat):Int):=by rw[aB];exact(Int.ofNat_tmod kk l.length).symm
    have ed:(kk:Int).tdiv ((aO l).length:Int)=((kk/l.length:Nat):Int):=by rw[aB];exact(Int.ofNat_tdiv kk l.length).symm
    have ex:(aO row)[0+((q:Nat):Int).toNat]? = some (cD row[q]):=by rw[e0,lX,Mf om];rfl
    have ey:((aO row).set (0+((q:Nat):Int).toNat) (cD (.mk v1 v2 v3 v4)))[0+((q:Nat):Int).toNat]? = some (cD (.mk v1 v2 v3 v4)):=by rw[e0];exact NT (by rw[aB];omega)
    generalize row[q]=old at ex;obtain⟨o1,o2,o3,o4⟩:=old;repeat((first|refine aM g1 ?_|refine aD e3 ?_|refine aD ev ?_|refine aD ex ?_|refine aD ey ?_|refine bQ.2 ?_|refine bW ?_|refine aM d0 ?_;(first|rw[em]|rw[ed]|skip));refine Rr ?_)
    have hdr:(row.set q (.mk v1 v2 v3 v4)).drop q = .mk v1 v2 v3 v4::row.drop (q+1):=by
     rw[List.drop_eq_getElem_cons (by simp;omega)];simp[List.drop_set]
    have hy:i64 ((kk/l.length:Nat):Int):=by
     have:=hdiv;generalize kk/l.length=d at this ⊢;clear ed;exact⟨om,om⟩
    have hset:aO (row.set q (.mk v1 v2 v3 v4))=(aO row).set q (cD (.mk v1 v2 v3 v4)):=by rw[fL,fL,Om]
    exact .mk (q,kk/l.length,row.set q (.mk v1 v2 v3 v4)) (lW [0,1,2,3,4,5,6]) ⟨by simp only;omega,by simp only;omega,by simp only[Ok];exact hrl,by simp only;rw[hdr,←hrow,hrs,List.append_assoc];rfl⟩
     (aH _ rfl (eF rfl rfl rfl rfl rfl rfl rfl rfl ⟨aI 4 (aW _),aI 5 (aY _),⟨6,_,rfl,rfl,.eq (aY _) (by simp only;rw[e0,hset];rfl)⟩,trivial⟩) ⟨a9 (.ip' hxn),⟨_,rfl,.slE rfl rfl⟩,⟨_,rfl,.slE rfl rfl⟩,⟨_,rfl,.w64 (y:=((kk/l.length:Nat):Int)) (by first|exact ed|rfl) hy⟩,⟨_,rfl,.slE rfl rfl⟩,⟨_,rfl,.w64 rfl ⟨by simp only;omega,by simp only;omega⟩⟩,aG,aG,trivial⟩) (by simp only;omega)
   ·have hq0:q=0:=by simp at hb;omega
    subst hq0;simp only[Ow,List.reverse_nil,Go.Ax.rowAt,NM,NQ] at hrow;have hmd:=hmade row;simp only at hmd;refine Rr ?_;refine aF.pre bI (mem':=Kj ns kn [(4,.row 29 1 (bE lists)),(5,.row 57 4 (aO all))]) (lW [0,1,2,3,4,5]) (by rfl)
     (eF rfl rfl rfl rfl rfl rfl rfl rfl ⟨aI 4 (aW _),aI 5 (aY _),trivial⟩)
     (.cons (.same _ (.ip' hxn)) (.cons (.fz' (id:=6) (t:=57) (xs:=aO row) rfl rfl (by rw[aB];omega) (by rw[NQ];exact M7 (by rw[aB];omega)) (aY _)) .nil)) ?_
    refine hmd.go ?_;have hr:=zH lists.reverse k (by rw[←hpr];exact hlt2);rw[←hrow] at hr;obtain⟨⟨m1,m2,m3,m4⟩,hmv⟩:∃mv,mv=dQ name row:=⟨_,rfl⟩
    rw[←hmv];refine Rr ?_;refine aM (bO rfl rfl (by simp[aB];omega) (by simp;omega)) ?_;refine Rr ?_;exact .mk (k+1,all++[.mk m1 m2 m3 m4]) [(0,0),(1,1),(2,2),(3,3),(4,4),(8,5)] ⟨by simp only;omega,by
      simp only;rw[hall,List.take_add_one,hr,OF,hmv];rfl,by simp[hal]⟩
     (aH _ rfl (eF rfl rfl rfl rfl rfl rfl rfl rfl ⟨aI 4 (aW _),⟨8,_,rfl,rfl,.eq (aY _) (by rw[fB];rfl)⟩,trivial⟩) ⟨a9 (.ip' hxn),⟨_,rfl,.slE rfl rfl⟩,⟨_,rfl,.slE rfl (by simp)⟩,aG,⟨_,rfl,.wp⟩,trivial⟩) (by simp only;omega)
  ·have hlt2:k=total:=by simp at hb;omega
   refine Rr ?_;refine u2 _ kn hk (eF rfl rfl rfl rfl rfl rfl rfl rfl trivial) _ _ (.tup' (.cons (.fz' (id:=5) (t:=57) (xs:=aO all) rfl rfl (by rw[aB];omega) ?_ (aY _)) (.s .nil)));rw[NQ,M7 (by rw[aB];omega),hall,hlt2,hpr,←tL,M2]
set_option maxHeartbeats 8000000
theorem LQ{ns:List Nd}{n:Nat}(h:e8 ns n)(i:Nat)(hi:i<n)(hOf:∀j<i,JR ns j)(kn:List Bool)(hk:kn.length=ns.length) :
  aF prog [] 64 [.ptr 0 0 0,.int .i64 i] (sM ns kn) 4 (sQ ns i):=by
 obtain⟨x,hx⟩:∃x,ns[i]? = some x:=⟨ns[i]'(by have:=h.hn;omega),Mf _⟩
 have ex:(a7 ns)[((i:Nat):Int).toNat]? = some (bN x):=by simp[mD,hx]
 unfold sQ;rw[h.at hi hx];have hG:=h.node hi hx;have hO:=h.nodeOK hi hx;have hxn:=aQ x;have hkm:∀k∈x.kids,0<=k/\k<i:=fun k hk=>by
  obtain⟨j,hj⟩:=M9 hk;exact hG.kids j k hj
 have hU:=fun(kids:List Int) (h1:kids.length<=65536) (h2:∀k∈kids,0<=k/\k<i)=>Kb h i om kids h1 h2 hOf kn hk
 have hP:=Gu h i om x hG.klen hkm hOf kn hk;have hb:=hO.bind;have hkl:=hG.klen;have hkd:=hG.kind;have hnum:=eR hG.num;have e0:x.kind=0->cM x (aJ ns)=⟨[x.value],false⟩:=fun e=>by unfold cM;rw[Mr e]
 have e1:x.kind=1->cM x (aJ ns)=if 1024<=x.hi-x.lo then⟨[],true⟩ else⟨fP x.lo x.hi,false⟩:=fun e=>by unfold cM;rw[Mm om,Mr e]
 have e2:x.kind=2->cM x (aJ ns)=jZ (aJ ns) x.kids:=fun e=>by unfold cM;rw[Mm om,Mm om,Mm om,Mm om]
 have e3:x.kind=3->cM x (aJ ns)=mF (aJ ns) x:=fun e=>by unfold cM;rw[Mm om,Mm om,Mr e]
 have e4:x.kind=4->cM x (aJ ns)=jZ (aJ ns) (x.kids.drop 1):=fun e=>by unfold cM;rw[Mm om,Mm om,Mm om,Mr e]
 generalize cM x (aJ ns)=res at e0 e1 e2 e3 e4 ⊢;clear hG hO hOf;have hP:x.kind=3->aF prog [] 138 [.ptr 0 0 0,.ip (bN x)] (sM ns kn) 4 (uQ ns res):=fun e=>by rw[e3 e];exact hP
 clear e3;obtain⟨kind,name,lo,hi',ws,ls,vals,kids,⟨vk,vn,vs,vks⟩⟩:=x;simp only at hkm hb hkl hkd hnum e0 e1 e2 e4 hP;refine aN bI func64 rfl ?_;refine Rr ?_;repeat(refine aD ex ?_;refine Rr ?_)
 have call:∀(F:FuncId) (a:List AV) (K:AV->aK->Nat->Prop) (nx:Nat),jK a->aF prog [] F (.ptr 0 0 0::a) (sM ns kn) 4 (uQ ns res)->(∀kn',kn'.length=ns.length->K (.tup [.il 4 (aO res.vals),.bool (!res.many)]) (sM ns kn'++jG [0,1,2,3] (sM ns kn)) nx)->aF prog [] F (.ptr 0 0 0::a) (sM ns kn) nx K:=fun F a K nx ha hc hK=>by
  refine aF.useI bI [0,1,2,3] hc (by rfl) (.cons (.ptr 0 0 0 0 rfl) (.same ha)) (d6 ns kn) (by rfl) ?_;rintro r m k' ⟨kn',hk',rfl,rfl,rfl⟩;exact⟨nn,d6 ns kn',by rfl,hK kn' hk'⟩
 rcases(show kind=0∨kind=1∨kind=2∨kind=3∨kind=4 by omega) with rfl|rfl|rfl|rfl|rfl
 ·rw[e0 rfl];refine Rr ?_;repeat(refine aD ex ?_;refine Rr ?_)
  exact u2 _ kn hk (eF rfl rfl rfl rfl rfl rfl rfl rfl trivial) _ _ (.tup' (.cons (.fz' (id:=4) (t:=57) (xs:=aO [.mk vk vn vs vks]) rfl rfl (by rw[aB];simp) rfl (aY _)) (.s .nil)))
 ·rw[e1 rfl];have hw:IntKind.i64.wrap (hi'-lo)=hi'-lo:=fC ⟨om,om⟩;refine Rr ?_;simp only[hw];refine aE (fun hb=>?_) (fun hb=>?_)
  ·have hb:1024<=hi'-lo:=by simpa using hb
   rw[Mr hb];refine Rr ?_;exact u2 _ kn hk (d6 ns kn) _ _ (.tup' (.cons (.nil 4) (.s .nil)))
  ·have hb:¬1024<=hi'-lo:=by simpa using hb
   rw[Mm hb];refine Rr ?_;refine a6.ph 57 4 ?_;refine a6.at bI (fun c:Nat=>c<=(hi'+1-lo).toNat)
    (fun c=>⟨[(6,.ip (bN ⟨1,name,lo,hi',ws,ls,vals,kids,.mk vk vn vs vks⟩)),(7,.sl 4 0 c),(8,.int .i64 (lo+c))],Kj ns kn [(4,.row 57 4 (aO (fP lo (lo+c-1))))],5,82⟩)
    (fun c=>(hi'+1-lo).toNat-c) 0 [(0,0),(1,1),(2,2),(3,3),(14,4)] (by simp)
    (aH _ rfl (eF rfl rfl rfl rfl rfl rfl rfl rfl ⟨⟨14,_,rfl,rfl,by rw[show fP lo (lo+((0:Nat):Int)-1)=[] by simp[fP]];exact .nil⟩,trivial⟩) ⟨a9 (.ip' hxn),⟨_,rfl,.nslk 14 4 _ rfl rfl⟩,⟨_,rfl,.int (by simp)⟩,trivial⟩) ?_
   intro c hc;have hrl:∀c:Nat,(fP lo (lo+c-1)).length=c:=fun c=>by simp[fP];omega
   refine Rr ?_;refine aE (fun hb2=>?_) (fun hb2=>?_)
   ·have hb2:lo+c<=hi':=by simpa using hb2
    have hrs:fP lo (lo+((c+1:Nat):Int)-1)=fP lo (lo+c-1)++[.mk 0 (lo+c) [] []]:=by
     unfold fP;rw[show (lo+((c+1:Nat):Int)-1+1-lo).toNat=c+1 by omega,show (lo+(c:Int)-1+1-lo).toNat=c by omega,Ov,OF];rfl
    refine Rr ?_;refine aM (bO rfl rfl (by rw[aB,hrl]) (by simp;omega)) ?_;refine Rr ?_;exact .mk (c+1) [(0,0),(1,1),(2,2),(3,3),(6,4)] om
     (aH _ rfl (eF rfl rfl rfl rfl rfl rfl rfl rfl ⟨⟨6,_,rfl,rfl,by rw[hrs,fB];exact .snoc rfl (.same (aY _)) (Br 0 (lo+c) [])⟩,trivial⟩) ⟨a9 (.ip' hxn),⟨_,rfl,.slE rfl (by simp)⟩,⟨_,rfl,.w64 om ⟨om,om⟩⟩,trivial⟩) om
   ·have hb2:¬lo+c<=hi':=by simpa using hb2
    have hcc:lo+c-1=hi':=om;refine Rr ?_;rw[hcc];refine u2 _ kn hk (eF rfl rfl rfl rfl rfl rfl rfl rfl trivial) _ _ (.tup' (.cons (.fz' (id:=4) (t:=57) (xs:=aO (fP lo hi')) rfl rfl (by rw[aB];have:=hrl c;rw[hcc] at this;omega) ?_ (aY _)) (.s .nil)));rw[NQ];exact M7 (by rw[aB];have:=hrl c;rw[hcc] at this;omega)
 ·rw[e2 rfl] at call ⊢;refine Rr ?_;refine call _ _ _ _ (.cons (.il' (aS _)) .nil) (hU kids hkl hkm) fun kn' hk'=>?_
  refine Rr ?_;exact u2 _ kn' hk' (d6 ns kn') _ _ (.same _ nn)
 ·refine Rr ?_;refine call _ _ _ _ (.cons (.ip' hxn) .nil) (hP rfl) fun kn' hk'=>?_
  refine Rr ?_;exact u2 _ kn' hk' (d6 ns kn') _ _ (.same _ nn)
 ·rw[e4 rfl] at call ⊢;have hb:=hb rfl;refine Rr ?_;refine aM (bP (Ml (by rw[aC];simp;omega)) (bP (Ml (Mp _)) (Ml (Mp _)))) ?_;have ed:List.take ((aX kids).length-Int.toNat 1) (List.drop (Int.toNat 1) (aX kids))=aX (kids.drop 1):=by
   rw[M7 (by simp)];simp[aX]
  rw[ed];refine Rr ?_;refine call _ _ _ _ (.cons (.il' (aS _)) .nil) (hU (kids.drop 1) (by rw[Ot];omega) fun k hk=>hkm k (Nn hk)) fun kn' hk'=>?_
  refine Rr ?_;exact u2 _ kn' hk' (d6 ns kn') _ _ (.same _ nn)
theorem MZ{ns:List Nd}{n:Nat}(h:e8 ns n):∀i<n,JR ns i:=by
 intro i
 induction i using Nat.strongRecOn with
 | ind i ih=>exact fun hi kn hk=>MA h i hi kn hk (LQ h i hi (fun j hj=>ih j hj om) kn hk)
set_option maxHeartbeats 8000000
theorem L1(a b:aT)(ha:gC a):aZ prog [] 88 [cD a,cD b] (.bool (bU a b == 0)):=by
 have hc:=n4 a b ha;obtain⟨a1,a2,a3,a4⟩:=a;obtain⟨b1,b2,b3,b4⟩:=b;generalize bU (.mk a1 a2 a3 a4) (.mk b1 b2 b3 b4)=c at hc ⊢;refine aN bI func88 rfl ?_;refine Rr ?_;refine hc.go ?_;refine Rr ?_;exact aA nn ⟨rfl,rfl,rfl⟩
theorem D3(l m:List aT)(hl:l.length<=4294967296)(hm:m.length<=4294967296)(hok:∀a∈l,gC a) :
  aZ prog [] 87 [.il 4 (aO l),.il 4 (aO m),.fn (.func 88) [] []] (.bool (cS l m)):=by
 have hE:=fun a ha b=>L1 a b (hok a ha)
 refine aN bI func87 rfl ?_;refine Rr ?_;refine aE (fun h=>?_) (fun h=>?_)
 ·have h1:l.length≠m.length:=by rw[aB,aB] at h;simp at h;omega
  have:cS l m=false:=by
   cases e:cS l m with
   | false=>rfl
   | true=>exact absurd (jB e) h1
  rw[this];refine Rr ?_;exact aA nn ⟨rfl,rfl,rfl⟩
 ·have h1:l.length=m.length:=by rw[aB,aB] at h;simp at h;omega
  refine Rr ?_;refine a6.at bI (fun i:Nat=>i<=l.length/\cS l m=cS (l.drop i) (m.drop i)) (fun i=>⟨[(1,.il 4 (aO m)),(2,.fn (.func 88) [] []),(15,.il 4 (aO l)),(16,.int .i64 l.length),(17,.int .i64 i)],[],0,32⟩) (fun i=>l.length-i) 0 [] ⟨by simp,by simp⟩
   (bV ⟨a9 (.il' (aY _)),aG,a9 (.il' (aY _)),⟨_,rfl,.int (by rw[aB])⟩,aG,trivial⟩) ?_
  rintro i ⟨hi,hs⟩;refine Rr ?_;refine aE (fun hb=>?_) (fun hb=>?_)
  ·have hil:i<l.length:=by simpa using hb
   obtain⟨p1,p2,p3,p4,pm,pg,pe,ep⟩:=bK (l:=l) (k:=i) hil;obtain⟨q1,q2,q3,q4,qm,qg,qe,eq⟩:=bK (l:=m) (k:=i) om;rw[List.drop_eq_getElem_cons hil,List.drop_eq_getElem_cons (show i<m.length by omega),cS,pe,qe] at hs;have hc:=hE _ pm (.mk q1 q2 q3 q4);obtain⟨c,hc0⟩:∃c,c=bU (.mk p1 p2 p3 p4) (.mk q1 q2 q3 q4):=⟨_,rfl⟩
   rw[←hc0] at hc hs;refine Rr ?_;repeat((first|refine aD ep ?_|refine aD eq ?_|refine bW ?_);refine Rr ?_)
   refine hc.go ?_;refine Rr ?_;refine aE (fun h=>?_) (fun h=>?_)
   ·have:decide (c=0)=false:=by simpa using h
    rw[hs,this];refine Rr ?_;exact aA nn ⟨rfl,rfl,rfl⟩
   ·have:decide (c=0)=true:=by simpa using h
    rw[this] at hs;refine Rr ?_;exact .mk (i+1) [] ⟨om,hs⟩ (bV ⟨a9 (.il' (aY _)),aG,a9 (.il' (aY _)),aG,⟨_,rfl,.w64 om ⟨om,om⟩⟩,trivial⟩) om
  ·have hil:i=l.length:=by simp at hb;omega
   rw[hil,Oe,h1,Oe,cS] at hs;rw[hs];refine Rr ?_;exact aA nn ⟨rfl,rfl,rfl⟩
set_option maxHeartbeats 8000000
def BG(ns:List Nd)(ls ss:List Int)(kn:List Bool)(rest:aK):aK:=(0,.row 80 4 [.agg [.il 12 (a7 ns),.sl 1 0 ns.length,.sl 2 0 ns.length,.ptr 3 0 0]])::(1,.row 3 1 (aX ls))::(2,.row 3 1 (aX ss)) ::
 (3,.row 119 4 [.agg [.il 12 (a7 ns),.sl 4 0 ns.length,.sl 5 0 ns.length,.sl 6 0 ns.length]])::(4,.row 4 1 (kB kn))::(5,.row 29 1 (lB (aJ ns) kn))::(6,.row 4 1 (mB (aJ ns) kn))::rest
def Kx(ns:List Nd)(l1 l2:List AV)(kn:List Bool):aK:=[(0,.row 80 4 [.agg [.il 12 (a7 ns),.sl 1 0 ns.length,.sl 2 0 ns.length,.ptr 3 0 0]]),(1,.row 3 1 l1),(2,.row 3 1 l2),
 (3,.row 119 4 [.agg [.il 12 (a7 ns),.sl 4 0 ns.length,.sl 5 0 ns.length,.sl 6 0 ns.length]]),(4,.row 4 1 (kB kn)),(5,.row 29 1 (lB (aJ ns) kn)),(6,.row 4 1 (mB (aJ ns) kn))]
theorem LO{mem:aK}{σ:List (Nat × Nat)}{ns:List Nd}{N a b c a' b' c':Nat}(h1:lk σ a=some a')(h2:lk σ b=some b')(h3:lk σ c=some c') :
  pX mem σ [.agg [.il 12 (a7 ns),.sl a 0 N,.sl b 0 N,.ptr c 0 0]] [.agg [.il 12 (a7 ns),.sl a' 0 N,.sl b' 0 N,.ptr c' 0 0]]:=
 .cons (.agg (.cons (.same _ (.il' (aR _))) (.cons (.sl a a' 0 N h1) (.cons (.sl b b' 0 N h2) (.cons (.ptr c c' 0 0 h3) .nil))))) .nil
theorem gG{mem:aK}{σ:List (Nat × Nat)}{ns:List Nd}{kn:List Bool}{ls ss:List Int}{l1 l2:List AV}{rest:aK}(h0:lk σ 0=some 0)(h1:lk σ 1=some 1)(h2:lk σ 2=some 2)(h3:lk σ 3=some 3)(h4:lk σ 4=some 4)(h5:lk σ 5=some 5)(h6:lk σ 6=some 6)
  (m0:lk mem 0=some (.row 80 4 [.agg [.il 12 (a7 ns),.sl 1 0 ns.length,.sl 2 0 ns.length,.ptr 3 0 0]])) (m1:lk mem 1=some (.row 3 1 l1)) (m2:lk mem 2=some (.row 3 1 l2)) (e1:l1=aX ls) (e2:l2=aX ss)
  (m3:lk mem 3=some (.row 119 4 [.agg [.il 12 (a7 ns),.sl 4 0 ns.length,.sl 5 0 ns.length,.sl 6 0 ns.length]])) (m4:lk mem 4=some (.row 4 1 (kB kn))) (m5:lk mem 5=some (.row 29 1 (lB (aJ ns) kn))) (m6:lk mem 6=some (.row 4 1 (mB (aJ ns) kn)))
  (hr:cX mem σ rest):cX mem σ (BG ns ls ss kn rest):=
 ⟨⟨0,_,h0,m0,LO h1 h2 h3⟩,⟨1,_,h1,m1,.eq (aS _) e1⟩,⟨2,_,h2,m2,.eq (aS _) e2⟩,⟨3,_,h3,m3,Ag h4 h5 h6⟩,⟨4,_,h4,m4,.same (sD _)⟩,⟨5,_,h5,m5,.same (uK _ _)⟩,⟨6,_,h6,m6,.same (r9 _ _)⟩,hr⟩
theorem jA(ns:List Nd)(ls ss:List Int)(kn:List Bool):cX (BG ns ls ss kn []) (lW [0,1,2,3,4,5,6]) (BG ns ls ss kn []):=gG rfl rfl rfl rfl rfl rfl rfl rfl rfl rfl rfl rfl rfl rfl rfl rfl trivial
theorem kS(l:List Int)(i:Nat)(y:Int):aX (l.set i y)=(aX l).set i (.int .i64 y):=by simp[aX,Om]
theorem Kg{ns:List Nd}(i:Nat)(x:Nd)(hx:ns[i]? = some x)(hok:oH x)(hsz:aU x.value<=1048576)(hkl:x.kids.length<=65536)(hkids:∀(j:Nat) (k:Int),x.kids[j]? = some k->0<=k/\k<i)(hkd:0<=x.kind/\x.kind<=4)(h4:4<=x.kind->0<x.kids.length)
  (ls ss:List Int) (kn:List Bool) (hls:ls.length=ns.length) (hss:ss.length=ns.length) (bl:∀y∈ls,0<=y/\y<=1024) (bs:∀y∈ss,0<=y/\y<=1024) :
  aF prog [] 41 [.ptr 0 0 0,.int .i64 i] (BG ns ls ss kn []) 7 fun r m k=>r = .bool (decide (Go.Ax.f9 ls x<=256) && decide (sC ss x<=1024))/\m=BG ns (ls.set i (Go.Ax.f9 ls x)) (ss.set i (sC ss x)) kn []/\k=7:=by
 have hil:=(Mi.1 hx).1;have ex:(a7 ns)[((i:Nat):Int).toNat]? = some (bN x):=by simp[mD,hx]
 have hxn:=aQ x;have hL:=Jb ls x hok hkl bl (fun j k hk=>by have:=hkids j k hk;omega) h4 hkd;have hV:=Kr x.value hsz;have hP:sC ss x=if x.kind=0 then(aU x.value:Int) else if x.kind=1 then 1 else if x.kind=3 then 1+eU ss x.kids else max 1 (bZ ss (fT x)):=rfl
 have hs:=fun l=>fU (b:=ss) (M:=1024) om bs l
 have hm:=fun l=>gX (b:=ss) (M:=1024) om bs l
 have har:fT x=if x.kind=2 then x.kids else x.kids.drop 1:=rfl
 have hat:=fun q=>iY (b:=ss) (M:=1024) om bs q
 have eat:∀k:Int,0<=k->k<ss.length->(aX ss)[0+k.toNat]? = some (.int .i64 (eB ss k)):=fun k h0 h1=>by
  have:k.toNat<ss.length:=om;rw[NS,bL,Mf this];unfold eB;rw[Mk,Mf this];rfl
 have hM:∀k:Nat,k<x.kids.length->(bZ ss (if x.kind=2 then x.kids.take (k+1) else(x.kids.take (k+1)).drop 1))=if 0<k∨x.kind=2 then max (bZ ss (if x.kind=2 then x.kids.take k else(x.kids.take k).drop 1)) (eB ss (x.kids.getD k 0)) else bZ ss (if x.kind=2 then x.kids.take k else(x.kids.take k).drop 1):=fun k hk=>by
  have eg:x.kids.getD k 0=x.kids[k]:=by rw[Mk,Mf hk];rfl
  rw[eg];by_cases e2:x.kind=2
  ·rw[Mr e2,Mr (.inr e2),Mr e2,mI hk]
  ·rw[Mm e2,Mm e2];by_cases e0:0<k
   ·rw[Mr (.inl e0),kU hk e0]
   ·rw[Mm om];have:k=0:=om;subst this;simp[bZ,OY]
 have h0:0+((i:Nat):Int).toNat=i:=by simp
 have g1:Nat.blt ((i:Nat):Int).toNat ns.length=true:=Ml (by simp;omega);generalize hlen:Go.Ax.f9 ls x=len at *;generalize hsiz:sC ss x=siz at *;clear hlen hsiz hok;obtain⟨kind,name,lo,hi',ws,lbs,vals,kids,⟨vk,vn,vs,vks⟩⟩:=x;simp only at hsz hkl hkids hkd h4 hV hP hM;obtain⟨sv,hsv⟩:∃sv,sv=aU (.mk vk vn vs vks):=⟨_,rfl⟩
 rw[←hsv] at hV hP hsz;have f1:(aX ls)[0+((i:Nat):Int).toNat]? = some (.int .i64 ls[i]):=by rw[h0,bL,Mf om];rfl
 have f2:((aX ls).set (0+((i:Nat):Int).toNat) (.int .i64 len))[0+((i:Nat):Int).toNat]? = some (.int .i64 len):=by rw[h0];exact NT (by rw[aC];omega)
 have f3:(aX ss)[0+((i:Nat):Int).toNat]? = some (.int .i64 ss[i]):=by rw[h0,bL,Mf om];rfl
 have f4:∀siz:Int,((aX ss).set (0+((i:Nat):Int).toNat) (.int .i64 siz))[0+((i:Nat):Int).toNat]? = some (.int .i64 siz):=fun siz=>by rw[h0];exact NT (by rw[aC];omega)
 generalize ls[i]=l0 at f1;generalize ss[i]=s0 at f3;refine aN bI func41 rfl ?_;refine Rt ?_;repeat((first|refine aM g1 ?_|refine aD ex ?_|refine aD f1 ?_|refine aD f2 ?_);refine Rt ?_)
 refine hL.lend bI (.cons (.same _ (.ip' hxn)) (.cons (.fz' (id:=1) (t:=3) (xs:=aX ls) rfl rfl (by rw[aC];omega) (by rw[NQ];exact M7 (by rw[aC];omega)) (aS _)) .nil)) (.int _ _) ?_;refine Rt ?_;repeat((first|refine aM g1 ?_|refine aD ex ?_|refine aD f1 ?_|refine aD f2 ?_);refine Rt ?_)
 obtain⟨d1,hd1⟩:∃d1,d1=decide (len<=256):=⟨_,rfl⟩
 rw[←hd1];have fin:∀(mem:aK) (nx:Nat) {d:Bool},d=(d1 && decide (siz<=1024))->mem=Kx ns ((aX ls).set (0+((i:Nat):Int).toNat) (.int .i64 len)) ((aX ss).set (0+((i:Nat):Int).toNat) (.int .i64 siz)) kn ->
   mJ 7 (fun r m k=>r = .bool (d1 && decide (siz<=1024))/\m=BG ns (ls.set i len) (ss.set i siz) kn []/\k=7) (.bool d) mem nx:=by
  rintro mem nx d rfl rfl;exact cA (n':=7) (m':=BG ns (ls.set i len) (ss.set i siz) kn []) (lW [0,1,2,3,4,5,6]) rfl (gG rfl rfl rfl rfl rfl rfl rfl rfl rfl rfl (by rw[h0];exact(kS _ _ _).symm) (by rw[h0];exact(kS _ _ _).symm) rfl rfl rfl rfl trivial) (.same _ nn) ⟨rfl,rfl,rfl⟩
 have fin':∀(mem:aK) (nx:Nat) {d:Bool},d=(d1 && decide (siz<=1024))->mem=Kx ns (aX (ls.set i len)) ((aX ss).set (0+((i:Nat):Int).toNat) (.int .i64 siz)) kn ->
   mJ 7 (fun r m k=>r = .bool (d1 && decide (siz<=1024))/\m=BG ns (ls.set i len) (ss.set i siz) kn []/\k=7) (.bool d) mem nx:=by
  rintro mem nx d rfl rfl;exact cA (n':=7) (m':=BG ns (ls.set i len) (ss.set i siz) kn []) (lW [0,1,2,3,4,5,6]) rfl (gG rfl rfl rfl rfl rfl rfl rfl rfl rfl rfl rfl (by rw[h0];exact(kS _ _ _).symm) rfl rfl rfl rfl trivial) (.same _ nn) ⟨rfl,rfl,rfl⟩
 have f2':(aX (ls.set i len))[0+((i:Nat):Int).toNat]? = some (.int .i64 len):=by rw[h0,kS];exact NT (by rw[aC];omega)
 rcases(show kind=0∨kind=1∨kind=2∨kind=3∨kind=4 by omega) with rfl|rfl|rfl|rfl|rfl
 ·rw[Mr rfl] at hP;subst hP;refine Rr ?_;refine hV.go ?_;refine Rt ?_;repeat((first|refine aM g1 ?_|refine aD f3 ?_|refine aD (f4 _) ?_|refine aD f2 ?_);refine Rt ?_)
  rw[←hd1];clear hd1;cases d1 with
  | true=>
   refine Rr ?_;exact fin _ _ rfl rfl
  | false=>
   refine Rr ?_;exact fin _ _ rfl rfl
 ·rw[Mm (by decide),Mr rfl] at hP;subst hP;refine Rt ?_;repeat((first|refine aM g1 ?_|refine aD f3 ?_|refine aD (f4 _) ?_|refine aD f2 ?_);refine Rt ?_)
  rw[←hd1];clear hd1;cases d1 with
  | true=>
   refine Rr ?_;exact fin _ _ rfl rfl
  | false=>
   refine Rr ?_;exact fin _ _ rfl rfl
 ·rw[Mm (by decide),Mm (by decide),Mm (by decide)] at hP;refine Rr ?_;refine a6.at bI (fun p:Nat × Int=>p.1<=kids.length/\p.2=max 1 (bZ ss (kids.take p.1)))
   (fun p=>⟨[(0,.ptr 0 0 0),(1,.int .i64 i),(5,.ip (bN ⟨2,name,lo,hi',ws,lbs,vals,kids,.mk vk vn vs vks⟩)),(6,.int .i64 p.2),(67,.il 1 (aX kids)),(68,.int .i64 kids.length),(69,.int .i64 p.1)],BG ns (ls.set i len) ss kn [],7,112⟩) (fun p=>kids.length-p.1) (0,1) (lW [0,1,2,3,4,5,6]) ⟨by simp,by simp[bZ];omega⟩
   (aH _ rfl (gG rfl rfl rfl rfl rfl rfl rfl rfl rfl rfl (by rw[h0];exact(kS _ _ _).symm) rfl rfl rfl rfl rfl trivial) ⟨aL,aG,a9 (.ip' hxn),aG,a9 (.il' (aS _)),⟨_,rfl,.int (by rw[aC])⟩,aG,trivial⟩) ?_
  rintro⟨j,size⟩ ⟨hj,hsize⟩;simp only at hj hsize ⊢;have bsz:=hm (kids.take j);refine Rr ?_;refine aE (fun h=>?_) (fun h=>?_)
  ·have hlt:j<kids.length:=by simpa using h
   have e1:(aX kids)[(j:Int).toNat]? = some (.int .i64 kids[j]):=by rw[Mo,bL,Mf hlt];rfl
   obtain⟨q0,q1⟩:=hkids j _ (Mf hlt);have hM:=hM j hlt;have eg:kids.getD j 0=kids[j]:=by rw[Mk,Mf hlt];rfl
   rw[eg] at hM;have hM:bZ ss (kids.take (j+1))=max (bZ ss (kids.take j)) (eB ss kids[j]):=by simpa using hM
   generalize kids[j]=q at e1 q0 q1 hM;obtain⟨q,rfl⟩:=Mx q0;have e2:=eat q q0 om;have hq:=hat q;have g2:Nat.blt ((q:Nat):Int).toNat ns.length=true:=Ml (by simp;omega);generalize eB ss q=z at e2 hq hM;refine Rr ?_;repeat((first|refine aM g2 ?_|refine aD e1 ?_|refine aD e2 ?_);refine Rr ?_)
   by_cases k0:0<j
   ·have d0:decide ((j:Int)>0)=true:=by simp;omega
    rw[d0];refine Rr ?_;repeat((first|refine aM g2 ?_|refine aD e1 ?_|refine aD e2 ?_);refine Rr ?_)
    exact .mk (j+1,max size z) (lW [0,1,2,3,4,5,6]) ⟨by simp only;omega,by simp only;rw[hM,hsize];omega⟩
     (aH _ rfl (jA _ _ _ _) ⟨aL,aG,a9 (.ip' hxn),⟨_,rfl,.int (by simp only;split<;>omega)⟩,a9 (.il' (aS _)),aG,⟨_,rfl,.wp⟩,trivial⟩) (by simp only;omega)
   ·have d0:decide ((j:Int)>0)=false:=by simp;omega
    rw[d0];refine Rr ?_;repeat((first|refine aM g2 ?_|refine aD e1 ?_|refine aD e2 ?_);refine Rr ?_)
    exact .mk (j+1,max size z) (lW [0,1,2,3,4,5,6]) ⟨by simp only;omega,by simp only;rw[hM,hsize];omega⟩
     (aH _ rfl (jA _ _ _ _) ⟨aL,aG,a9 (.ip' hxn),⟨_,rfl,.int (by simp only;split<;>omega)⟩,a9 (.il' (aS _)),aG,⟨_,rfl,.wp⟩,trivial⟩) (by simp only;omega)
  ·have hlt:j=kids.length:=by simp at h;omega
   rw[hlt,M2,show bZ ss kids=bZ ss (fT ⟨2,name,lo,hi',ws,lbs,vals,kids,.mk vk vn vs vks⟩) from rfl,←hP] at hsize;subst hsize;refine Rt ?_;repeat((first|refine aM g1 ?_|refine aD f3 ?_|refine aD (f4 _) ?_|refine aD f2' ?_);refine Rt ?_)
   rw[←hd1];clear hd1;cases d1 with
   | true=>
    refine Rr ?_;exact fin' _ _ rfl rfl
   | false=>
    refine Rr ?_;exact fin' _ _ rfl rfl
 ·rw[Mm (by decide),Mm (by decide),Mr rfl] at hP;refine Rr ?_;refine a6.at bI (fun p:Nat × Int=>p.1<=kids.length/\p.2=1+eU ss (kids.take p.1))
   (fun p=>⟨[(0,.ptr 0 0 0),(1,.int .i64 i),(6,.int .i64 p.2),(45,.il 1 (aX kids)),(46,.int .i64 kids.length),(47,.int .i64 p.1)],BG ns (ls.set i len) ss kn [],7,112⟩) (fun p=>kids.length-p.1) (0,1) (lW [0,1,2,3,4,5,6]) ⟨by simp,by simp[eU]⟩
   (aH _ rfl (gG rfl rfl rfl rfl rfl rfl rfl rfl rfl rfl (by rw[h0];exact(kS _ _ _).symm) rfl rfl rfl rfl rfl trivial) ⟨aL,aG,aG,a9 (.il' (aS _)),⟨_,rfl,.int (by rw[aC])⟩,aG,trivial⟩) ?_
  rintro⟨j,size⟩ ⟨hj,hsize⟩;simp only at hj hsize ⊢;have bsz:=hs (kids.take j);have btk:(kids.take j).length<=65536:=by simp;omega
  refine Rr ?_;refine aE (fun h=>?_) (fun h=>?_)
  ·have hlt:j<kids.length:=by simpa using h
   have e1:(aX kids)[(j:Int).toNat]? = some (.int .i64 kids[j]):=by rw[Mo,bL,Mf hlt];rfl
   obtain⟨q0,q1⟩:=hkids j _ (Mf hlt);have hst:=o8 (b:=ss) hlt;generalize kids[j]=q at e1 q0 q1 hst;obtain⟨q,rfl⟩:=Mx q0;have e2:=eat q q0 om;have hq:=hat q;have g2:Nat.blt ((q:Nat):Int).toNat ns.length=true:=Ml (by simp;omega);generalize eB ss q=z at e2 hq hst;refine Rr ?_;repeat((first|refine aM g2 ?_|refine aD e1 ?_|refine aD e2 ?_);refine Rr ?_)
   exact .mk (j+1,size+z) (lW [0,1,2,3,4,5,6]) ⟨by simp only;omega,by simp only;rw[hst,hsize];omega⟩
    (aH _ rfl (jA _ _ _ _) ⟨aL,aG,⟨_,rfl,.w64 rfl ⟨by simp only;omega,by simp only;omega⟩⟩,a9 (.il' (aS _)),aG,⟨_,rfl,.wp⟩,trivial⟩) (by simp only;omega)
  ·have hlt:j=kids.length:=by simp at h;omega
   rw[hlt,M2,←hP] at hsize;subst hsize;refine Rt ?_;repeat((first|refine aM g1 ?_|refine aD f3 ?_|refine aD (f4 _) ?_|refine aD f2' ?_);refine Rt ?_)
   rw[←hd1];clear hd1;cases d1 with
   | true=>
    refine Rr ?_;exact fin' _ _ rfl rfl
   | false=>
    refine Rr ?_;exact fin' _ _ rfl rfl
 ·rw[Mm (by decide),Mm (by decide),Mm (by decide)] at hP;refine Rr ?_;refine a6.at bI (fun p:Nat × Int=>p.1<=kids.length/\p.2=max 1 (bZ ss ((kids.take p.1).drop 1)))
   (fun p=>⟨[(0,.ptr 0 0 0),(1,.int .i64 i),(5,.ip (bN ⟨4,name,lo,hi',ws,lbs,vals,kids,.mk vk vn vs vks⟩)),(6,.int .i64 p.2),(67,.il 1 (aX kids)),(68,.int .i64 kids.length),(69,.int .i64 p.1)],BG ns (ls.set i len) ss kn [],7,112⟩) (fun p=>kids.length-p.1) (0,1) (lW [0,1,2,3,4,5,6]) ⟨by simp,by simp[bZ];omega⟩
   (aH _ rfl (gG rfl rfl rfl rfl rfl rfl rfl rfl rfl rfl (by rw[h0];exact(kS _ _ _).symm) rfl rfl rfl rfl rfl trivial) ⟨aL,aG,a9 (.ip' hxn),aG,a9 (.il' (aS _)),⟨_,rfl,.int (by rw[aC])⟩,aG,trivial⟩) ?_
  rintro⟨j,size⟩ ⟨hj,hsize⟩;simp only at hj hsize ⊢;have bsz:=hm ((kids.take j).drop 1);refine Rr ?_;refine aE (fun h=>?_) (fun h=>?_)
  ·have hlt:j<kids.length:=by simpa using h
   have e1:(aX kids)[(j:Int).toNat]? = some (.int .i64 kids[j]):=by rw[Mo,bL,Mf hlt];rfl
   obtain⟨q0,q1⟩:=hkids j _ (Mf hlt);have hM:=hM j hlt;have eg:kids.getD j 0=kids[j]:=by rw[Mk,Mf hlt];rfl
   rw[eg] at hM;have hM:0<j->bZ ss ((kids.take (j+1)).drop 1)=max (bZ ss ((kids.take j).drop 1)) (eB ss kids[j]):=fun hj=>by rw[kU hlt hj]
   generalize kids[j]=q at e1 q0 q1 hM;obtain⟨q,rfl⟩:=Mx q0;have e2:=eat q q0 om;have hq:=hat q;have g2:Nat.blt ((q:Nat):Int).toNat ns.length=true:=Ml (by simp;omega);generalize eB ss q=z at e2 hq hM;refine Rr ?_;repeat((first|refine aM g2 ?_|refine aD e1 ?_|refine aD e2 ?_);refine Rr ?_)
   by_cases k0:0<j
   ·have d0:decide ((j:Int)>0)=true:=by simp;omega
    rw[d0];refine Rr ?_;repeat((first|refine aM g2 ?_|refine aD e1 ?_|refine aD e2 ?_);refine Rr ?_)
    exact .mk (j+1,max size z) (lW [0,1,2,3,4,5,6]) ⟨by simp only;omega,by simp only;rw[hM k0,hsize];omega⟩
     (aH _ rfl (jA _ _ _ _) ⟨aL,aG,a9 (.ip' hxn),⟨_,rfl,.int (by simp only;split<;>omega)⟩,a9 (.il' (aS _)),aG,⟨_,rfl,.wp⟩,trivial⟩) (by simp only;omega)
   ·have d0:decide ((j:Int)>0)=false:=by simp;omega
    rw[d0];refine Rr ?_;repeat((first|refine aM g2 ?_|refine aD e1 ?_|refine aD e2 ?_);refine Rr ?_)
    have j0:j=0:=om;subst j0;exact .mk (1,size) (lW [0,1,2,3,4,5,6]) ⟨by simp only;omega,by simp only;rw[hsize];simp[OY]⟩
     (aH _ rfl (jA _ _ _ _) ⟨aL,aG,a9 (.ip' hxn),aG,a9 (.il' (aS _)),aG,⟨_,rfl,.wp⟩,trivial⟩) (by simp only;omega)
  ·have hlt:j=kids.length:=by simp at h;omega
   rw[hlt,M2,show bZ ss (kids.drop 1)=bZ ss (fT ⟨4,name,lo,hi',ws,lbs,vals,kids,.mk vk vn vs vks⟩) from rfl,←hP] at hsize;subst hsize;refine Rt ?_;repeat((first|refine aM g1 ?_|refine aD f3 ?_|refine aD (f4 _) ?_|refine aD f2' ?_);refine Rt ?_)
   rw[←hd1];clear hd1;cases d1 with
   | true=>
    refine Rr ?_;exact fin' _ _ rfl rfl
   | false=>
    refine Rr ?_;exact fin' _ _ rfl rfl
theorem KF{ns:List Nd}{n:Nat}(h:e8 ns n)(x:Nd)(hvl:x.values.length<=1000000)(hk4:x.kind=4->∃k:Nat,x.kids[0]? = some (k:Int)/\k<n)(ls ss:List Int)(kn:List Bool)(hk:kn.length=ns.length) :
  aF prog [] 42 [.ptr 0 0 0,.ip (bN x)] (BG ns ls ss kn []) 7 fun r m k=>∃kn',kn'.length=ns.length /\
   r = .int .i64 (if x.kind=4 then(if (cP (aJ ns) (x.kids.getD 0 0)).many=true then 4 else if cS (cP (aJ ns) (x.kids.getD 0 0)).vals x.values=true then 0 else 1) else 0)/\m=BG ns ls ss kn' []/\k=7:=by
 have hxn:=aQ x;generalize hres:(if x.kind=4 then(if (cP (aJ ns) (x.kids.getD 0 0)).many=true then 4 else if cS (cP (aJ ns) (x.kids.getD 0 0)).vals x.values=true then 0 else 1) else(0:Int))=res;have fin:∀(kn':List Bool) (mem:aK) (nx:Nat) (c:Int),kn'.length=ns.length->c=res->cX mem (lW [0,1,2,3,4,5,6]) (BG ns ls ss kn' []) ->
   mJ 7 (fun r m k=>∃kn',kn'.length=ns.length/\r = .int .i64 res/\m=BG ns ls ss kn' []/\k=7) (.int .i64 c) mem nx:=by
  rintro kn' mem nx c hk' rfl hM;exact cA (n':=7) (m':=BG ns ls ss kn' []) (lW [0,1,2,3,4,5,6]) rfl hM (.same _ nn) ⟨kn',hk',rfl,rfl,rfl⟩
 by_cases e4:x.kind=4
 ·obtain⟨k,hkg,hkn⟩:=hk4 e4;have eg:x.kids.getD 0 0=(k:Int):=by rw[Mk,hkg];rfl
  rw[Mr e4,eg] at hres;have ek:(aX x.kids)[(0:Int).toNat]? = some (.int .i64 k):=by rw[show (0:Int).toNat=0 from rfl,bL,hkg];rfl
  have hO:=MZ h k hkn kn hk;have hv:=h.vals (k:=k) om om;obtain⟨lk,hlk⟩:∃lk,lk=cP (aJ ns) k:=⟨_,rfl⟩
  unfold sQ at hO;rw[←hlk] at hv hres;simp only[←hlk] at hO;obtain⟨lv,lm⟩:=lk;simp only at hv hres;have hE:=fun l (hl:l.length<=1024) hok=>D3 l x.values om om hok
  obtain⟨kind,name,lo,hi',ws,lbs,vals,kids,⟨vk,vn,vs,vks⟩⟩:=x;simp only at e4 ek hvl hE hres;subst e4;refine aN bI func42 rfl ?_;refine Rr ?_;repeat((first|refine aD ek ?_|refine bW ?_);refine Rr ?_)
  refine aF.useR bI [(3,0),(4,1),(5,2),(6,3)] hO (by rfl) (.cons (.ptr 3 0 0 0 rfl) (.s .nil)) ⟨⟨3,_,rfl,rfl,Ag rfl rfl rfl⟩,aI 4 (sD _),aI 5 (uK _ _),aI 6 (r9 _ _),trivial⟩ (by rfl) ?_;rintro r m nn' ⟨kn',hk',rfl,rfl,rfl⟩;refine⟨[(3,.row 119 4 [.agg [.il 12 (a7 ns),.sl 4 0 ns.length,.sl 5 0 ns.length,.sl 6 0 ns.length]]),(4,.row 4 1 (kB kn')),(5,.row 29 1 (lB (aJ ns) kn')),(6,.row 4 1 (mB (aJ ns) kn'))],nn,⟨⟨0,_,rfl,rfl,Ag rfl rfl rfl⟩,aI 1 (sD _),aI 2 (uK _ _),aI 3 (r9 _ _),trivial⟩,by rfl, ?_⟩;cases lm with
  | true=>
   refine Rr ?_;refine fin kn' _ _ _ hk' (by rw[←hres];simp) ?_;exact gG rfl rfl rfl rfl rfl rfl rfl rfl rfl rfl rfl rfl rfl rfl rfl rfl trivial
  | false=>
   have hE:=hE lv hv.1 hv.2;obtain⟨sv,hsv⟩:∃sv,sv=cS lv vals:=⟨_,rfl⟩
   rw[←hsv] at hE hres;refine Rr ?_;refine hE.go ?_;cases sv with
   | true=>
    refine Rr ?_;refine fin kn' _ _ _ hk' (by rw[←hres];simp) ?_;exact gG rfl rfl rfl rfl rfl rfl rfl rfl rfl rfl rfl rfl rfl rfl rfl rfl trivial
   | false=>
    refine Rr ?_;refine fin kn' _ _ _ hk' (by rw[←hres];simp) ?_;exact gG rfl rfl rfl rfl rfl rfl rfl rfl rfl rfl rfl rfl rfl rfl rfl rfl trivial
 ·rw[Mm e4] at hres;obtain⟨kind,name,lo,hi',ws,lbs,vals,kids,⟨vk,vn,vs,vks⟩⟩:=x;simp only at e4;refine aN bI func42 rfl ?_;refine Rr ?_;refine aE (fun _=>?_) (fun h=>absurd (by simpa using h) e4);refine Rr ?_;exact fin kn _ _ _ hk hres (jA _ _ _ _)
set_option maxHeartbeats 8000000
theorem Jr(n:Nat):kB (List.replicate n false)=List.replicate n (.bool false):=by simp[kB]
theorem J6(L:List fK):lB L (List.replicate L.length false)=bE (List.replicate L.length []):=by
 unfold lB bE
 induction L with
 | nil=>rfl
 | cons a L ih=>simpa[Nr] using ih
theorem Jt(L:List fK):mB L (List.replicate L.length false)=List.replicate L.length (.bool false):=by
 unfold mB
 induction L with
 | nil=>rfl
 | cons a L ih=>simpa[Nr] using ih
theorem G8(ns:List Nd)(hl:ns.length<=4096):aF prog [] 27 [.agg [.il 12 (a7 ns)]] [] 0 fun r m k=>r = .ptr 0 0 0/\m=sM ns (List.replicate ns.length false)/\k=4:=by
 have hlen:(a7 ns).length=ns.length:=cE ns;refine aN bI func27 rfl ?_;refine Rr ?_;rw[hlen];refine Rr ?_;refine aM (bP rfl (bP rfl (bP rfl (bP (NB om) (bP (NB om) (bP (q6 rfl om om) (NB om))))))) ?_;refine Rr ?_;repeat((first|refine aM (bP rfl (bP rfl (bP rfl (bP (NB om) (bP (NB om) (bP (q6 rfl om om) (NB om))))))) ?_|refine bW ?_);refine Rr ?_)
 have e:((ns.length:Nat):Int).toNat=ns.length:=by simp
 rw[e];have hL:(aJ ns).length=ns.length:=dP ns;have e2:=J6 (aJ ns);have e3:=Jt (aJ ns);rw[hL] at e2 e3;refine cA (n':=4) (m':=sM ns (List.replicate ns.length false)) [(10,0),(4,1),(6,2),(8,3)] rfl ⟨⟨10,_,rfl,rfl,Ag rfl rfl rfl⟩,⟨4,_,rfl,rfl,.eq (sD _) (Jr _).symm⟩,⟨6,_,rfl,rfl,by rw[e2];exact x5 _⟩,⟨8,_,rfl,rfl,.eq (r9 _ _) e3.symm⟩,trivial⟩ (.ptr 10 0 0 0 rfl) ⟨rfl,rfl,rfl⟩
structure Gz(ns:List Nd):Prop where
 ok:∀x∈ns,oH x
 val:∀x∈ns,aU x.value<=1048576
 vals:∀x∈ns,∀v∈x.values,aU v<=1048576
 vlen:∀x∈ns,x.values.length<=1000000
 klen:∀x∈ns,x.kids.length<=65536
def A5(l:List Int)(n:Nat):List Int:=l++List.replicate (n-l.length) 0
theorem yQ{l:List Int}{n:Nat}(h:l.length<=n):(A5 l n).length=n:=by simp[A5];omega
theorem FE{l:List Int}{n:Nat}(y:Int)(h:l.length<n):(A5 l n).set l.length y=A5 (l++[y]) n:=by
 unfold A5;rw[List.set_append_right _ _ (Mp _),Nat.sub_self];obtain⟨m,hm⟩:∃m,n-l.length=m+1:=⟨n-l.length-1,om⟩
 rw[hm,Nr,List.set_cons_zero,NJ,List.length_singleton,show n-(l.length+1)=m by omega];simp
theorem EW{l:List Int}{n:Nat}{k:Int}(h0:0<=k)(h1:k<l.length):eB (A5 l n) k=eB l k:=FU h0 h1
theorem ET{l:List Int}{n:Nat}(h:∀y∈l,0<=y/\y<=1024):∀y∈A5 l n,0<=y/\y<=1024:=by
 intro y hy;rcases Mv.1 hy with hy|hy
 ·exact h y hy
 ·have:=List.eq_of_mem_replicate hy;omega
theorem A9{i:Int}{x:Nd}(h:mK x=false):cK i x=false:=by
 cases e:cK i x with
 | false=>rfl
 | true=>
  unfold cK at e;simp only[Mg] at e;have:mK x=true:=by
   unfold mK;rw[e.1.1.1.1.1.1];simpa using e.1.1.1.1.1.2
  rw[this] at h;cases h
theorem zA{i:Int}{x:Nd}(h:cK i x=false):Go.Ax.d8 i x=1:=by unfold Go.Ax.d8;rw[Mr h]
theorem H4{i:Int}{x:Nd}(h:cK i x=true)(h2:c7 (k6 x)≠0):Go.Ax.d8 i x=c7 (k6 x):=by unfold Go.Ax.d8;rw[Mm (by rw[h];simp),Mr h2]
theorem Gx{i:Int}{x:Nd}(h:cK i x=true)(h2:c7 (k6 x)=0)(h3:cZ x=false):Go.Ax.d8 i x=5:=by unfold Go.Ax.d8;rw[Mm (by rw[h];simp),Mm om,Mr h3]
theorem F4{i:Int}{x:Nd}(h:cK i x=true)(h2:c7 (k6 x)=0)(h3:cZ x=true):Go.Ax.d8 i x=0:=by unfold Go.Ax.d8;rw[Mm (by rw[h];simp),Mm om,Mm (by rw[h3];simp)]
theorem pL{b:List Nd}{ls ss:List Int}{x:Nd}{e:Int}(h:Go.Ax.d8 b.length x=e)(he:e≠0):e6 b ls ss x=e:=by unfold e6;rw[Mr (by rw[h];exact he),h]
theorem G6{b:List Nd}{ls ss:List Int}{x:Nd}(h:Go.Ax.d8 b.length x=0)(h2:256<Go.Ax.f9 ls x∨1024<iH ss x):e6 b ls ss x=4:=by unfold e6;rw[Mm om,Mr h2]
theorem Gj{b:List Nd}{ls ss:List Int}{x:Nd}(h:Go.Ax.d8 b.length x=0)(h2:¬(256<Go.Ax.f9 ls x∨1024<iH ss x)):e6 b ls ss x=if x.kind=4 then fO b x else 0:=by unfold e6;rw[Mm om,Mm h2]
theorem yN(ns:List Nd)(h:Gz ns):aZ prog [] 11 [.agg [.il 12 (a7 ns)]] (.int .i64 (bD ns)):=by
 have hlen:(a7 ns).length=ns.length:=cE ns;refine aN bI func11 rfl ?_;refine Rr ?_;rw[hlen];refine aE (fun hb=>?_) (fun hb=>?_)
 ·have h1:4096<ns.length:=by simp at hb;omega
  have:bD ns=4:=by unfold bD;rw[Mr h1]
  rw[this];refine Rr ?_;exact aA nn ⟨rfl,rfl,rfl⟩
 ·have h1:ns.length<=4096:=by simp at hb;omega
  have:bD ns=bM [] ns:=by unfold bD;rw[Mm om]
  rw[this];generalize hres:bM [] ns=res;have hN:=G8 ns h1;refine Rr ?_;rw[hlen];refine Rr ?_;repeat((first|refine aM (bP rfl (bP rfl (bP rfl (bP (NB om) (bP (NB om) (bP (q6 rfl om om) (NB om))))))) ?_|refine bW ?_);refine Rr ?_)
  refine aF.useN bI [] hN rfl (.same (.cons (.agg' (.cons (.il' (aR _)) .nil)) .nil)) trivial rfl ?_;rintro r m k ⟨rfl,rfl,rfl⟩;refine⟨[(0,16),(1,17),(2,18),(3,19)],.ptr 16 0 0,[(16,.row 119 4 [.agg [.il 12 (a7 ns),.sl 17 0 ns.length,.sl 18 0 ns.length,.sl 19 0 ns.length]]),(17,.row 4 1 (kB (List.replicate ns.length false))),(18,.row 29 1 (lB (aJ ns) (List.replicate ns.length false))),(19,.row 4 1 (mB (aJ ns) (List.replicate ns.length false)))],20,
   .ptr 0 16 0 0 rfl,⟨⟨0,_,rfl,rfl,Ag rfl rfl rfl⟩,aI 1 (sD _),aI 2 (uK _ _),aI 3 (r9 _ _),trivial⟩,rfl, ?_⟩
  refine Rt ?_;have e:((ns.length:Nat):Int).toNat=ns.length:=by simp
  rw[hlen,e];refine a6.at bI (fun p:Nat × List Bool=>p.1<=ns.length/\p.2.length=ns.length/\bM [] (ns.take p.1)=0)
   (fun p=>⟨[(1,.ptr 7 0 0),(3,.ptr 0 0 0),(28,.int .i64 ns.length),(29,.int .i64 p.1)],BG ns (A5 (bX (ns.take p.1)) ns.length) (A5 (bT (ns.take p.1)) ns.length) p.2 [(7,.row 25 1 [.agg [.il 12 (a7 ns)]])],8,64⟩)
   (fun p=>ns.length-p.1) (0,List.replicate ns.length false) [(14,0),(6,1),(10,2),(16,3),(17,4),(18,5),(19,6),(0,7)] ⟨by simp,by simp,rfl⟩
   (aH _ rfl ⟨⟨14,_,rfl,rfl,LO rfl rfl rfl⟩,⟨6,_,rfl,rfl,.eq (aS _) (by simp[A5,bX,aX])⟩,⟨10,_,rfl,rfl,.eq (aS _) (by simp[A5,bT,aX])⟩,⟨16,_,rfl,rfl,Ag rfl rfl rfl⟩,aI 17 (sD _),aI 18 (uK _ _),aI 19 (r9 _ _),aI 0 (.cons (.agg' (.cons (.il' (aR _)) .nil)) .nil),trivial⟩
    ⟨aL,aL,aG,aG,trivial⟩) ?_
  rintro⟨i,kn⟩ ⟨hi,hk,hv⟩;simp only at hi hk hv ⊢;refine Rr ?_;refine aE (fun hb2=>?_) (fun hb2=>?_)
  ·have hil:i<ns.length:=by simpa using hb2
   obtain⟨x,hx⟩:∃x,ns[i]? = some x:=⟨ns[i],Mf hil⟩
   have hxe:=(Mi.1 hx).2;have hxm:=My hx;have ex:(a7 ns)[((i:Nat):Int).toNat]? = some (bN x):=by simp[mD,hx]
   have hxn:=aQ x;have hti:(ns.take i).length=i:=by rw[N4];omega
   have hll:(bX (ns.take i)).length=i:=by rw[iO,hti]
   have hsl:(bT (ns.take i)).length=i:=by rw[iC,hti]
   have hsplit:ns=ns.take i++x::ns.drop (i+1):=by rw[←hxe];simp
   have hstop:∀e:Int,e6 (ns.take i) (bX (ns.take i)) (bT (ns.take i)) x=e->e≠0->e=res:=fun e h1 h2=>by
    rw[←hres,hsplit,uJ hv (by rw[h1];exact h2),h1]
   have hnext:ns.take (i+1)=ns.take i++[x]:=by rw[Mn hil,hxe]
   have hgo:e6 (ns.take i) (bX (ns.take i)) (bT (ns.take i)) x=0->bM [] (ns.take (i+1))=0:=fun h1=>by
    rw[hnext,eG [] _ _ hv];exact h1
   have hC:=J3 x (h.ok x hxm);have hSh:=Io ns i x om hx (h.ok x hxm) (h.vlen x hxm);have hPa:=KJ x (h.ok x hxm) (h.val x hxm) (h.vals x hxm);have hRa:=J7 x (h.ok x hxm);refine Rr ?_;repeat(refine aD ex ?_;refine Rr ?_)
   refine hC.go ?_ (.cons (.ip' hxn) .nil);cases hc:mK x with
   | false=>
    refine Rr ?_;refine aA nn ⟨?_,rfl,rfl⟩;rw[hstop 1 (pL (zA (A9 hc)) om) om]
   | true=>
    have hSh:=hSh hc;have hcc:kZ [] [] [.il 12 (a7 ns),.sl 1 0 ns.length,.sl 2 0 ns.length,.ptr 3 0 0] [.il 12 (a7 ns),.junk,.junk,.junk]:=.cons (.same _ (.il' (aR _))) (.cons (.junk _) (.cons (.junk _) (.cons (.junk _) .nil)));refine Rr ?_;refine hSh.lend bI (.cons (.fzp 0 0 0 80 4 _ _ _ rfl rfl rfl (Mp _) fun k c c' h1 h2=>by
     rw[NS] at h1;exact(kZ.cons (.same _ (.il' (aR _))) (.cons (.junk _) (.cons (.junk _) (.cons (.junk _) .nil)))).2 k c c' h1 h2) (.s .nil)) (.bool _) ?_
    clear hcc;cases hf:cK i x with
    | false=>
     refine Rr ?_;refine aA nn ⟨?_,rfl,rfl⟩;rw[hstop 1 (pL (by rw[hti];exact zA hf) om) om]
    | true=>
     have hk0:x.kind=0->x.values=[]:=fun e0=>by
      unfold cK gK at hf;simp only[Mg,Na,M4] at hf;rcases hf.1.1.1.1.1.1.1.2 with h'|h'
      ·omega
      ·exact Nb.1 h'
     have hPa:=hPa hk0;refine Rr ?_;refine hPa.go ?_ (.cons (.ip' hxn) .nil);generalize hfe:c7 (k6 x)=fe;refine Rr ?_;refine aE (fun hb3=>?_) (fun hb3=>?_)
     ·have h0:fe≠0:=by simpa using hb3
      refine Rr ?_;refine aA nn ⟨?_,rfl,rfl⟩;rw[hstop fe (pL (by rw[hti,H4 hf (by rw[hfe];exact h0),hfe]) h0) h0]
     ·have h0:fe=0:=by simpa using hb3
      rw[h0] at hfe;refine Rr ?_;refine hRa.go ?_ (.cons (.ip' hxn) .nil);cases hn:cZ x with
      | false=>
       refine Rr ?_;refine aA nn ⟨?_,rfl,rfl⟩;rw[hstop 5 (pL (by rw[hti];exact Gx hf hfe hn) om) om]
      | true=>
       have hz:Go.Ax.d8 (ns.take i).length x=0:=by rw[hti];exact F4 hf hfe hn
       have hnode:=i8 (i:=i) (x:=x) (by rw[←hti];exact hz);have hlens:=mW _ hv;have hS:=Kg i x hx (h.ok x hxm) (h.val x hxm) (h.klen x hxm) hnode.kids hnode.kind (fun e4=>by have:=hnode.bind (by have:=hnode.kind;omega);omega) (A5 (bX (ns.take i)) ns.length) (A5 (bT (ns.take i)) ns.length) kn (yQ om) (yQ om) (ET hlens.1) (ET hlens.2);have hkm:∀k∈x.kids,0<=k/\k<i:=fun k hk=>by
        obtain⟨j,hj⟩:=M9 hk;exact hnode.kids j k hj
       rw[wM (b:=bX (ns.take i)) (fun k hk=>EW (hkm k hk).1 (by rw[hll];exact(hkm k hk).2)) (fun e4=>by have:=hnode.bind e4;omega) hnode.kind,
        DD (b:=bT (ns.take i)) (fun k hk=>EW (hkm k hk).1 (by rw[hsl];exact(hkm k hk).2))] at hS
       refine Rr ?_;refine aF.useI bI [0,1,2,3,4,5,6] hS (by rfl) (.cons (.ptr 0 0 0 0 rfl) (.s .nil)) (jA _ _ _ _) (by rfl) ?_;rintro r m k' ⟨rfl,rfl,rfl⟩;refine⟨nn,jA _ _ _ _,by rfl, ?_⟩;cases hfit:(decide (Go.Ax.f9 (bX (ns.take i)) x<=256) && decide (sC (bT (ns.take i)) x<=1024)) with
       | false=>
        have hbig:256<Go.Ax.f9 (bX (ns.take i)) x∨1024<iH (bT (ns.take i)) x:=by
         simp only[N7,Nh] at hfit;rw[E0] at hfit;omega
        refine Rr ?_;refine aA nn ⟨?_,rfl,rfl⟩;rw[hstop 4 (G6 hz hbig) om]
       | true=>
        have hfit':¬(256<Go.Ax.f9 (bX (ns.take i)) x∨1024<iH (bT (ns.take i)) x):=by
         simp only[Mg,M4] at hfit;rw[E0] at hfit;omega
        have hstep:=Gj hz hfit';have hso:e8 ns i:=⟨hi,h1,h.ok,hv⟩
        have hkid:x.kind=4->∃k:Nat,x.kids[0]? = some (k:Int)/\k<i:=fun e4=>by
         have hl:=hnode.bind e4;obtain⟨k0,k1⟩:=hnode.kids 0 x.kids[0] (Mf om);obtain⟨k,hk⟩:=Mx k0;exact⟨k,by rw[Mf om,hk],om⟩
        have hb:x.kind=4->fO (ns.take i) x=(if (cP (aJ ns) (x.kids.getD 0 0)).many=true then 4 else if cS (cP (aJ ns) (x.kids.getD 0 0)).vals x.values=true then 0 else 1):=fun e4=>by
         obtain⟨k,hk,hki⟩:=hkid e4;have eg:x.kids.getD 0 0=(k:Int):=by rw[Mk,hk];rfl
         unfold fO;rw[eg,OW,OE (by simp;omega),gP om (by simp;omega) (by simp;omega)]
        have hT:=KF hso x (h.vlen x hxm) hkid ((A5 (bX (ns.take i)) ns.length).set i (Go.Ax.f9 (bX (ns.take i)) x)) ((A5 (bT (ns.take i)) ns.length).set i (sC (bT (ns.take i)) x)) kn hk;have hstep:e6 (ns.take i) (bX (ns.take i)) (bT (ns.take i)) x=(if x.kind=4 then(if (cP (aJ ns) (x.kids.getD 0 0)).many=true then 4 else if cS (cP (aJ ns) (x.kids.getD 0 0)).vals x.values=true then 0 else 1) else 0):=by
         rw[hstep];by_cases e4:x.kind=4
         ·rw[Mr e4,Mr e4,hb e4]
         ·rw[Mm e4,Mm e4]
        rw[←hstep] at hT;refine Rr ?_;refine aF.useI bI [0,1,2,3,4,5,6] hT (by rfl) (.cons (.ptr 0 0 0 0 rfl) (.cons (.same _ (.ip' hxn)) .nil)) (jA _ _ _ _) (by rfl) ?_;rintro r m k' ⟨kn',hk',rfl,rfl,rfl⟩;refine⟨nn,jA _ _ _ _,by rfl, ?_⟩;generalize hse:e6 (ns.take i) (bX (ns.take i)) (bT (ns.take i)) x=se;refine Rr ?_;refine aE (fun hb4=>?_) (fun hb4=>?_)
        ·have h0:se≠0:=by simpa using hb4
         refine Rr ?_;refine aA nn ⟨?_,rfl,rfl⟩;rw[hstop se hse h0]
        ·have h0:se=0:=by simpa using hb4
         rw[h0] at hse;have hP:=JZ (fun y hy=>h.ok y (Nf hy)) hv hse;have e1:(A5 (bX (ns.take i)) ns.length).set i (Go.Ax.f9 (bX (ns.take i)) x)=A5 (bX (ns.take (i+1))) ns.length:=by
          rw[hnext,iX]
          conv=>lhs;rw[←hll]
          rw[hll];have:=FE (l:=bX (ns.take i)) (n:=ns.length) (Go.Ax.f9 (bX (ns.take i)) x) om;rw[hll] at this;exact this
         have e2:(A5 (bT (ns.take i)) ns.length).set i (sC (bT (ns.take i)) x)=A5 (bT (ns.take (i+1))) ns.length:=by
          rw[hP,hnext,iS];have:=FE (l:=bT (ns.take i)) (n:=ns.length) (iH (bT (ns.take i)) x) om;rw[hsl] at this;exact this
         rw[e1,e2];refine Rr ?_;exact .mk (i+1,kn') (lW [0,1,2,3,4,5,6,7]) ⟨by simp only;omega,hk',hgo hse⟩
          (aH _ rfl (gG rfl rfl rfl rfl rfl rfl rfl rfl rfl rfl rfl rfl rfl rfl rfl rfl ⟨aI 7 (.cons (.agg' (.cons (.il' (aR _)) .nil)) .nil),trivial⟩) ⟨aL,aL,aG,⟨_,rfl,.wp⟩,trivial⟩) (by simp only;omega)
  ·have hil:i=ns.length:=by simp at hb2;omega
   rw[hil,M2,hres] at hv;subst hv;refine Rr ?_;exact aA nn ⟨rfl,rfl,rfl⟩
set_option maxHeartbeats 8000000
end Go.Proofs.YtpajadlnaokngaaGreatDoor
namespace Go.Ax
open Go
structure Mt where
 old:Nat
 now:Nat
 opts:List Int
 same:List Bool
def p6(y:Nd)(k:Int):Nat:=(y.kids.getD k.toNat 0).toNat
structure yD(A:List Nd):Prop where
 ok:∀x∈A,oH x
 val:∀x∈A,aU x.value<=1048576
 vals:∀x∈A,∀v∈x.values,aU v<=1048576
 vlen:∀x∈A,x.values.length<=2000
 klen:∀x∈A,x.kids.length<=2000
 llen:∀x∈A,x.labels.length<=1000
 lab:∀x∈A,∀s∈x.labels,s.length<=1000
 len:A.length<=1000
structure Jd(A:List Nd)(i:Nat)(x:Nd):Prop where
 opt:LK x
 node:A4 i x
 srt:jT x.values
 val:∀v∈x.values,gC v
theorem n6:∀{l:List aT},cW l=true->jT l
 | [],_=>by simp[jT]
 | [a],_=>by simp[jT]
 | a::b::r,h=>by
  simp only[cW,Mg,M4] at h;have ih:=n6 h.2;unfold jT at ih ⊢;refine ND.2 ⟨fun x hx=>?_,ih⟩;rcases Mj.1 hx with rfl|hx
  ·exact h.1
  ·have:=(ND.1 ih).1 x hx;exact Cs h.1 om
theorem goodT{A:List Nd}(h:yD A)(hv:bD A=0){i:Nat}{x:Nd}(hx:A[i]? = some x):Jd A i x:=by
 have hxm:=My hx;have hv0:bM [] A=0:=by
  unfold bD at hv;split at hv
  ·omega
  ·exact hv
 have hn:=rK A hv0 i x hx;have hN:=i8 hn;have hf:=iG hn;have hfp:=jY hf;have hk:=h.klen x hxm;refine⟨⟨h.ok x hxm,eR hN.num,om,fun e=>by have:=hN.klen om;omega,fun e=>?_⟩,hN, ?_,fun v hv=>((h.ok x hxm).valuesI v hv).1⟩
 ·refine⟨hfp.1 e, ?_⟩;unfold cK at hf;simp only[Mg,Na,M4] at hf;rcases hf.1.1.1.2 with h2|h2
  ·exact absurd e h2
  ·exact h2.2
 ·unfold cK at hf;simp only[Mg] at hf;exact n6 hf.2
theorem F0{A:List Nd}(ho:∀x∈A,oH x)(hv:bD A=0){i:Nat}{x:Nd}(hx:A[i]? = some x)(h4:x.kind=4):1<=x.values.length:=by
 have hv0:bM [] A=0:=by
  unfold bD at hv;split at hv
  ·omega
  ·exact hv
 have hi:=(Mi.1 hx).1;have hpre:bM [] (A.take i)=0:=by
  have:=hv0;rw[←List.take_append_drop i A] at this;exact fV this
 obtain⟨q,hq,-⟩:=BA (ns:=A.take i) (fun y hy=>ho y (Nf hy)) hpre (x:=x) (.inr h4) (kJ A hv0 i x hx);have hb:=(i8 (rK A hv0 i x hx)).bind h4;unfold fT at hq;rw[Mm om] at hq;have:=List.length_pos_of_mem hq;simp at this;omega
theorem J9{A:List Nd}{n:Nat}{y:Nd}(hy:A4 n y){k:Int}(h0:0<=k)(h1:k<y.kids.length):p6 y k<n/\∃q:Int,y.kids[k.toNat]? = some q/\q=p6 y k:=by
 have hk:k.toNat<y.kids.length:=om;obtain⟨a,b⟩:=hy.kids k.toNat _ (Mf hk);unfold p6;rw[Mk,Mf hk];simp only[OB];exact⟨om,_,rfl,om⟩
end Go.Ax
namespace Go.Ax
open Go
structure Jp(x:Nd):Prop where
 ok:oH x
 val:aU x.value<=1024
 vals:∀v∈x.values,aU v<=1024
 vlen:x.values.length<=1024
 klen:x.kids.length<=1025
 llen:x.labels.length<=256
 wlen:x.weights.length<=256
 lab:∀s∈x.labels,s∈rD
theorem uL:∀{l:List aT},c7 l=0->∀v∈l,d9 v=0
 | [],_,v,hv=>by simp at hv
 | a::r,h,v,hv=>by
  simp only[c7] at h;split at h
  ·rename_i h1;exact absurd h h1
  ·rename_i h1;rcases Mj.1 hv with rfl|hv
   ·exact Decidable.not_not.1 h1
   ·exact uL h v hv
theorem uP{v:aT}(h:d9 v=0):aU v<=1024:=by
 unfold d9 at h;split at h
 ·omega
 ·split at h
  ·omega
  ·rename_i h1;rw[not_or] at h1;omega
theorem DY{v:aT}(h:xI v=true):aU v<=1024:=by
 obtain⟨k,n,s,ks⟩:=v;simp only[xI,Mg,M4] at h;have:ks=[]:=Nb.1 h.2;subst this;simp[aU,bR]
theorem F6{ns:List Nd}(h:gO ns):∀x∈ns,Jp x:=by
 intro x hx;obtain⟨j,hj⟩:=M9 hx;have hn:=rK ns h.valid j x hj;have hN:=i8 hn;have hg:=h.gen x hx;have hf:=iG hn;have hfe:c7 (k6 x)=0:=by
  unfold d8 at hn;rw[Mm (by rw[hf];simp)] at hn;split at hn
  ·rename_i h1;exact absurd hn h1
  ·rename_i h1;exact Decidable.not_not.1 h1
 have hv:=uL hfe;unfold cK at hf;simp only[Mg] at hf;obtain⟨⟨⟨⟨⟨⟨hu,hkd⟩,hki⟩,h2⟩,h3⟩,h4⟩,h5⟩:=hf;unfold gK at hu;simp only[Mg,Na,M4] at hu h2 h4;have hul:=hu.1.1.2;have hz:=hu.1.1.1.1.1;have hvl:=hg.vals;refine⟨hg.ok, ?_,fun v hm=>uP (hv v (by unfold k6;exact NZ _ hm)),hvl, ?_, ?_, ?_,hg.labels⟩
 ·rcases hz with e|e
  ·exact uP (hv x.value (by unfold k6;rw[Mr e];simp))
  ·exact DY e
 ·by_cases e:x.kind=4
  ·have:=hN.bind e;omega
  ·have:=hN.klen e;omega
 ·rcases hul with e|e
  ·rcases h2 with h2|h2
   ·exact absurd e h2
   ·omega
  ·omega
 ·rcases hul with e|e
  ·rcases h2 with h2|h2
   ·exact absurd e h2
   ·omega
  ·omega
structure tK(LB:List (List UInt8))(x:Nd):Prop where
 ok:oH x
 val:aU x.value<=1048576
 vals:∀v∈x.values,aU v<=1048576
 vlen:x.values.length<=2000
 klen:x.kids.length<=2000
 llen:x.labels.length<=1000
 lab:∀s∈x.labels,s∈LB
variable {LB:List (List UInt8)}
theorem Iu(hLB:∀s∈rD,s∈LB){x:Nd}(h:Jp x):tK LB x:=
 ⟨h.ok,by have:=h.val;omega,fun v hv=>by have:=h.vals v hv;omega,by have:=h.vlen;omega,by have:=h.klen;omega,by have:=h.llen;omega,fun s hs=>hLB s (h.lab s hs)⟩
theorem GV{ns:List Nd}(hLB:∀s∈LB,s.length<=19)(h:∀x∈ns,tK LB x)(hl:ns.length<=1000):yD ns:=
 ⟨fun x hx=>(h x hx).ok,fun x hx=>(h x hx).val,fun x hx=>(h x hx).vals,fun x hx=>(h x hx).vlen,fun x hx=>(h x hx).klen,fun x hx=>(h x hx).llen,fun x hx s hs=>by have:=hLB s ((h x hx).lab s hs);omega,hl⟩
theorem Fd{l:List Int}{n:Int}(h:∀w∈l,i64 w)(hn:i64 n):∀w∈l++[n],i64 w:=fun w hw=>by
 rcases Mv.1 hw with hw|hw
 ·exact h w hw
 ·simp at hw;rw[hw];exact hn
theorem I5{x:Nd}{n:Int}(h:tK LB x)(hn:i64 n):tK LB { x with kind:=n }:=⟨⟨hn,h.ok.name,h.ok.lo,h.ok.hi,h.ok.weights,h.ok.weightsI,h.ok.labels,h.ok.labelsI,h.ok.values,h.ok.valuesI,h.ok.kids,h.ok.kidsI,h.ok.value,h.ok.valueS⟩,h.val,h.vals,h.vlen,h.klen,h.llen,h.lab⟩
theorem Kk{x:Nd}{n:Int}(h:tK LB x)(hn:i64 n):tK LB { x with lo:=n }:=⟨⟨h.ok.kind,h.ok.name,hn,h.ok.hi,h.ok.weights,h.ok.weightsI,h.ok.labels,h.ok.labelsI,h.ok.values,h.ok.valuesI,h.ok.kids,h.ok.kidsI,h.ok.value,h.ok.valueS⟩,h.val,h.vals,h.vlen,h.klen,h.llen,h.lab⟩
theorem LW{x:Nd}{n:Int}(h:tK LB x)(hn:i64 n):tK LB { x with hi:=n }:=⟨⟨h.ok.kind,h.ok.name,h.ok.lo,hn,h.ok.weights,h.ok.weightsI,h.ok.labels,h.ok.labelsI,h.ok.values,h.ok.valuesI,h.ok.kids,h.ok.kidsI,h.ok.value,h.ok.valueS⟩,h.val,h.vals,h.vlen,h.klen,h.llen,h.lab⟩
theorem wS{x:Nd}{ws:List Int}(h:tK LB x)(hl:ws.length<=100000)(hi:∀w∈ws,i64 w):tK LB { x with weights:=ws }:=⟨⟨h.ok.kind,h.ok.name,h.ok.lo,h.ok.hi,by simp only;omega,hi,h.ok.labels,h.ok.labelsI,h.ok.values,h.ok.valuesI,h.ok.kids,h.ok.kidsI,h.ok.value,h.ok.valueS⟩,h.val,h.vals,h.vlen,h.klen,h.llen,h.lab⟩
theorem FF{x:Nd}{ks:List Int}(h:tK LB x)(hl:ks.length<=2000)(hi:∀w∈ks,i64 w):tK LB { x with kids:=ks }:=⟨⟨h.ok.kind,h.ok.name,h.ok.lo,h.ok.hi,h.ok.weights,h.ok.weightsI,h.ok.labels,h.ok.labelsI,h.ok.values,h.ok.valuesI,by simp only;omega,hi,h.ok.value,h.ok.valueS⟩,h.val,h.vals,h.vlen,hl,h.llen,h.lab⟩
theorem pG{x:Nd}{s:List UInt8}(h:tK LB x)(hs:s.length<=1000):tK LB { x with name:=s }:=⟨⟨h.ok.kind,by simp only;omega,h.ok.lo,h.ok.hi,h.ok.weights,h.ok.weightsI,h.ok.labels,h.ok.labelsI,h.ok.values,h.ok.valuesI,h.ok.kids,h.ok.kidsI,h.ok.value,h.ok.valueS⟩,h.val,h.vals,h.vlen,h.klen,h.llen,h.lab⟩
theorem GA{x:Nd}{ls:List (List UInt8)}(h:tK LB x)(hl:ls.length<=1000)(hs:∀s∈ls,s∈LB)(hLB:∀s∈LB,s.length<=19):tK LB { x with labels:=ls }:=⟨⟨h.ok.kind,h.ok.name,h.ok.lo,h.ok.hi,h.ok.weights,h.ok.weightsI,by simp only;omega,fun s hm=>by have:=hLB s (hs s hm);omega,h.ok.values,h.ok.valuesI,h.ok.kids,h.ok.kidsI,h.ok.value,h.ok.valueS⟩,h.val,h.vals,h.vlen,h.klen,hl,hs⟩
theorem GH{x:Nd}{vs:List aT}(h:tK LB x)(hl:vs.length<=2000)(hv:∀v∈vs,gC v/\aU v<=1048576):tK LB { x with values:=vs }:=⟨⟨h.ok.kind,h.ok.name,h.ok.lo,h.ok.hi,h.ok.weights,h.ok.weightsI,h.ok.labels,h.ok.labelsI,by simp only;omega,fun v hm=>⟨(hv v hm).1,by have:=(hv v hm).2;omega⟩,h.ok.kids,h.ok.kidsI,h.ok.value,h.ok.valueS⟩,h.val,fun v hm=>(hv v hm).2,hl,h.klen,h.llen,h.lab⟩
theorem IK{x:Nd}{v:aT}(h:tK LB x)(hv:gC v)(hs:aU v<=1048576):tK LB { x with value:=v }:=⟨⟨h.ok.kind,h.ok.name,h.ok.lo,h.ok.hi,h.ok.weights,h.ok.weightsI,h.ok.labels,h.ok.labelsI,h.ok.values,h.ok.valuesI,h.ok.kids,h.ok.kidsI,hv,by simp only;omega⟩,hs,h.vals,h.vlen,h.klen,h.llen,h.lab⟩
theorem J4{ns:List Nd}{i:Nat}{x:Nd}(h:∀y∈ns,tK LB y)(hx:tK LB x):∀y∈ns.set i x,tK LB y:=fun y hy=>by
 rcases OM hy with hy|rfl
 ·exact h y hy
 ·exact hx
end Go.Ax
namespace Go.Ax
open Go
end Go.Ax
namespace Go.Ax
open Go
abbrev Sp:=Nat × Nat × Nat
structure Md where
 val:aT
 used:Nat
 stop:Int
 spans:List Sp
structure Pt where
 used:Nat
 vals:List aT
 spans:List Sp
 stop:Int
structure VT(A:List Nd):Prop where
 tin:yD A
 val:bD A=0
 pos:0<A.length
section
variable {A:List Nd}
theorem VT.v0(h:VT A):bM [] A=0:=by
 have hv:=h.val;unfold bD at hv;split at hv
 ·omega
 ·exact hv
theorem VT.set(h:VT A):e8 A A.length:=⟨Mp _,by have:=h.tin.len;omega,h.tin.ok,by rw[M2];exact h.v0⟩
theorem VT.node(h:VT A){i:Nat}{x:Nd}(hx:A[i]? = some x):Jd A i x:=goodT h.tin h.val hx
theorem VT.kid(h:VT A){i:Nat}{x:Nd}(hx:A[i]? = some x){j:Nat}(hj:j<x.kids.length):p6 x j<i/\x.kids[j]? = some (p6 x j:Int):=by
 have hi:=(Mi.1 hx).1;obtain⟨h1,q,h2,h3⟩:=J9 (A:=A) (h.node hx).node (k:=(j:Int)) om om;refine⟨h1, ?_⟩;rw[Mo] at h2;rw[h2,h3]
theorem AE:∀{l m:List aT},cS l m=true->l=m
 | [],[],_=>rfl
 | a::l,b::m,h=>by
  simp only[cS,Mg,M4] at h;rw[Bt a b h.1,AE h.2]
 | [],b::m,h=>by simp[cS] at h
 | a::l,[],h=>by simp[cS] at h
theorem VT.bind(h:VT A){i:Nat}{x:Nd}(hx:A[i]? = some x)(h4:x.kind=4):x.kids.length=x.values.length+1/\1<=x.values.length/\(cP (aJ A) (p6 x 0)).many=false/\(cP (aJ A) (p6 x 0)).vals=x.values:=by
 have hi:=(Mi.1 hx).1;have hb:=(h.node hx).node.bind h4;have h1:=F0 h.tin.ok h.val hx h4;refine⟨hb,h1, ?_⟩;obtain⟨k1,k2⟩:p6 x 0<i/\x.kids[0]? = some (p6 x 0:Int):=h.kid hx (j:=0) om;have hs:=(eJ (kJ A h.v0 i x hx)).2.2.2 h4;have e0:x.kids.getD 0 0=(p6 x 0:Int):=by rw[Mk,k2];rfl
 unfold fO at hs;rw[e0,Mo,OW,OE om,gP om om om] at hs;simp only at hs;split at hs
 ·omega
 ·rename_i hm;split at hs
  ·rename_i hsv;exact⟨by simpa using hm,AE hsv⟩
  ·omega
end
end Go.Ax
namespace Go.Ax
open Go
theorem IE{A:List Nd}(h:VT A){i:Nat}{x:Nd}(hx:A[i]? = some x){k:Int}(hk:k∈x.kids):0<=k/\k.toNat<i:=by
 obtain⟨j,hj⟩:=M9 hk;have:=(h.node hx).node.kids j k hj;omega
def L8(a b:Nat)(l:List Sp):Prop:=∀s∈l,a<=s.1/\s.1<=s.2.1/\s.2.1<=s.2.2/\s.2.2<=b
theorem L8.mono{a b a' b':Nat}{l:List Sp}(h:L8 a b l)(h1:a'<=a)(h2:b<=b'):L8 a' b' l:=fun s hs=>by
 have:=h s hs;omega
end Go.Ax
namespace Go.Ax
open Go
theorem F2(r:List Nd):∀l:List Nd,∃m,bX (l++r)=bX l++m:=by
 refine eQ (P:=fun r=>∀l:List Nd,∃m,bX (l++r)=bX l++m) (fun l=>⟨[],by simp⟩) (fun r x ih l=>?_) r;obtain⟨m,hm⟩:=ih l;refine⟨m++[f9 (bX (l++r)) x], ?_⟩;rw[←List.append_assoc,iX,hm,List.append_assoc]
theorem zJ{A:List Nd}{n:Nat}{k:Int}(h0:0<=k)(h:k<n)(hn:n<=A.length):eB (bX (A.take n)) k=eB (bX A) k:=by
 obtain⟨m,hm⟩:=F2 (A.drop n) (A.take n);rw[List.take_append_drop] at hm;rw[hm,FU h0 (by rw[iO,N4];omega)]
section
variable {A:List Nd}
theorem VT.lenC(h:VT A){i:Nat}{x:Nd}(hx:A[i]? = some x){n:Nat}(hi:i<=n)(hn:n<=A.length):f9 (bX (A.take n)) x=f9 (bX A) x:=by
 refine wM (fun k hk=>?_) (fun h4=>by have:=(h.bind hx h4).1;omega) (h.node hx).node.kind;have:=IE h hx hk;exact zJ this.1 om hn
theorem VT.len(h:VT A){i:Nat}{x:Nd}(hx:A[i]? = some x):eB (bX A) i=f9 (bX A) x:=by
 obtain⟨hi,he⟩:=Mi.1 hx;rw[←zJ (n:=i+1) om om om,Mn hi,iX,he,h.lenC hx (Mp _) om];unfold eB;rw[Mo,Mk,NC (by rw[iO];simp;omega),iO];simp[show min i A.length=i by omega]
end
end Go.Ax
namespace Go.Ax
open Go
section
variable {A:List Nd}
end
end Go.Ax
namespace Go.Ax
open Go
structure Ft where
 cs:List Int
 val:aT
structure As(r:Md)(f:Ft):Prop where
 val:r.val=f.val
 used:r.used=f.cs.length
 stop:r.stop = -1
section
variable {A:List Nd}
end
end Go.Ax
namespace Go.Ax
open Go
def MI(x y:Nd):Prop:=(y.kind=x.kind/\y.kids.length<=x.kids.length+1)∨(y.kids=x.kids/\y.values=x.values/\y.weights=x.weights)
end Go.Ax
