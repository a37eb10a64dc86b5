/- A part of the proof. -/
import Derived.Test.YtidjhgajglebnaaGreatDoorAx16
import Derived.Test.YtidjhgajglebnaaGreatDoorProg
import Derived.KernelRfl
set_option linter.unusedVariables false
set_option linter.unusedSimpArgs false
namespace Go.Proofs.YtidjhgajglebnaaGreatDoor
open Go Go.Ax Go.Proofs Tryz
set_option maxRecDepth 100000
set_option maxHeartbeats 8000000
theorem MZ(l m:List aR)(hl:l.length<=4294967296)(hok:∀a∈l,g9 a):aT prog [] 74 [.il 4 (aU l),.il 4 (aU m)] (.bool (c9 l m)):=by
 refine aD bD func74 rfl ?_;refine Rr ?_;refine aH (fun h=>?_) (fun h=>?_)
 ·refine Rr ?_;refine aA nn ⟨?_,rfl,rfl⟩;rw[aC,aC] at h;rw[ER (by simp at h;omega)]
 have hlen:l.length=m.length:=by rw[aC,aC] at h;simp at h;omega
 refine Rr ?_;refine aZ.at bD (fun k:Nat=>k<=l.length/\c9 l m=c9 (l.drop k) (m.drop k))
  (fun k=>⟨[(0,.il 4 (aU l)),(1,.il 4 (aU m)),(5,.int .i64 k)],[],0,27⟩) (fun k=>l.length-k) 0 [] ⟨by simp,by simp⟩
  (bL ⟨aK,aK,aK,trivial⟩) ?_
 rintro k ⟨hk,hs⟩;refine Rr ?_;refine aH (fun h=>?_) (fun h=>?_)
 ·have hlt:k<l.length:=Jw h;obtain⟨p1,p2,p3,p4,pm,pg,pe,ep⟩:=cO (l:=l) (k:=k) hlt;obtain⟨q1,q2,q3,q4,qm,qg,qe,eq⟩:=cO (l:=m) (k:=k) (by omega);have hc:=rW (.mk p1 p2 p3 p4) (.mk q1 q2 q3 q4) (hok _ pm);rw[List.drop_eq_getElem_cons hlt,List.drop_eq_getElem_cons (show k<m.length by omega),pe,qe,c9] at hs;generalize cE (.mk p1 p2 p3 p4) (.mk q1 q2 q3 q4)=c at hc hs;refine Rr ?_;repeat((first|refine aB ep ?_|refine aB eq ?_|refine bO ?_);refine Rr ?_)
  refine hc.go ?_;refine Rr ?_;repeat((first|refine aB ep ?_|refine aB eq ?_|refine bO ?_);refine Rr ?_)
  refine aH (fun h=>?_) (fun h=>?_)
  ·refine Rr ?_;refine aA nn ⟨?_,rfl,rfl⟩;rw[hs,ZC (by simpa using h)];rfl
  ·refine Rr ?_;refine .mk (k+1) [] ⟨by omega, ?_⟩ (bL ⟨aK,aK,⟨_,rfl,.wo⟩,trivial⟩) (by omega);rw[hs,Y0 (by simpa using h),aAS]
 ·have hge:l.length<=k:=JJ h;refine Rr ?_;refine aA nn ⟨?_,rfl,rfl⟩;rw[hs,Zv (by omega),Zv (by omega),c9]
theorem Oq(x:Nd)(ks:List aR):aT prog [] 155 [cD x,.il 4 (aU ks)] (cN (eA x.name ks)):=by
 obtain⟨kind,name,lo,hi,ws,ls,vals,kids,⟨vk,vn,vs,vks⟩⟩:=x;refine aD bD func155 rfl ?_;refine Rr ?_;refine aH (fun h=>?_) (fun h=>?_)
 ·have h:name=[]:=by simpa using h
  refine Rr ?_;exact fL (r':=cN (.mk 2 0 [] ks)) (.same _ nn) ⟨by rw[eA,Yt h],rfl,rfl⟩
 ·have h:¬name=[]:=by simpa using h
  refine Rr ?_;exact fL (r':=cN (.mk 3 0 name ks)) (.same _ nn) ⟨by rw[eA,Yo h],rfl,rfl⟩
theorem To(i:Nat)(x:Nd)(hi:i<=4294967296)(hx:uW x)(hvl:x.values.length<=4294967290):aT prog [] 31 [.int .i64 i,cD x] (.int .i64 (fS i x)):=by
 have h1:=Ms i x hi hx;have h2:=Qz x hx;have hval:∀a∈qM x,aT prog [] 71 [cN a] (.int .i64 (bP a)):=by
  intro a ha;have key:g9 a/\bB a<=4294967296:=by
   unfold qM at ha;rcases Yz.1 ha with h|h
   ·split at h
    ·simp at h;rw[h];exact⟨hx.value,hx.valueS⟩
    ·cases h
   ·exact hx.valuesI a h
  exact Vk a key.1 (by omega)
 have hres:fS i x=if dN i x=false then 1 else if eP (qM x)≠0 then eP (qM x) else if dT x=false then 5 else 0:=rfl
 generalize fS i x=res at hres;generalize dN i x=fb at h1 hres;generalize dT x=nb at h2 hres;clear hx;obtain⟨kind,name,lo,hi,ws,ls,vals,kids,⟨vk,vn,vs,vks⟩⟩:=x;simp only at hvl;have hown:qM ⟨kind,name,lo,hi,ws,ls,vals,kids,.mk vk vn vs vks⟩=(if kind=0 then [aR.mk vk vn vs vks] else [])++vals:=rfl;generalize qM ⟨kind,name,lo,hi,ws,ls,vals,kids,.mk vk vn vs vks⟩=own at hval hres hown;have hol:own.length<=4294967291:=by rw[hown];split<;>simp<;>omega
 refine aD bD func31 rfl ?_;refine Rr ?_;refine h1.go ?_ (.cons (.int _ _) (.cons (aV _) .nil));cases fb with
 | false=>
  refine Rr ?_;refine aA nn ⟨?_,rfl,rfl⟩;rw[hres,Yt rfl]
 | true=>
  refine Rr ?_;refine aH (fun h=>?_) (fun h=>?_)
  case' refine_1=>
   have hk:kind=0:=by simpa using h
   rw[Yt hk] at hown;refine Rr ?_;refine aM (bT rfl rfl (by simp) (by simp[aC];omega)) ?_;refine Rr ?_;refine aZ.at bD (fun k:Nat=>k<=own.length/\eP own=eP (own.drop k))
    (fun k=>⟨[(3,.ptr 0 0 0),(6,.sl 1 0 own.length),(7,.int .i64 k)],[(0,.row 57 12 [cD ⟨kind,name,lo,hi,ws,ls,vals,kids,.mk vk vn vs vks⟩]),(1,.row 55 4 (aU own))],2,45⟩) (fun k=>own.length-k) 0 [(0,0),(3,1)] ⟨by simp,by simp⟩
    (aE _ rfl ⟨aL 0 (.cons (aV _) .nil),⟨3,_,rfl,rfl,.eq dI (by rw[hown];rfl)⟩,trivial⟩ ⟨aG,⟨_,rfl,.slE rfl (by rw[hown];simp[aC];omega)⟩,aK,trivial⟩) ?_
  case' refine_2=>
   have hk:¬kind=0:=by simpa using h
   rw[Yo hk] at hown;refine Rr ?_;refine aM (Ad rfl (by simp[aC];omega)) ?_;refine Rr ?_;refine aZ.at bD (fun k:Nat=>k<=own.length/\eP own=eP (own.drop k))
    (fun k=>⟨[(3,.ptr 0 0 0),(6,.sl 1 0 own.length),(7,.int .i64 k)],[(0,.row 57 12 [cD ⟨kind,name,lo,hi,ws,ls,vals,kids,.mk vk vn vs vks⟩]),(1,.row 55 4 (aU own))],2,45⟩) (fun k=>own.length-k) 0 [(0,0),(1,1)] ⟨by simp,by simp⟩
    (aE _ rfl ⟨aL 0 (.cons (aV _) .nil),⟨1,_,rfl,rfl,.eq dI (by rw[hown];rfl)⟩,trivial⟩ ⟨aG,⟨_,rfl,.slE rfl (by rw[hown];simp[aC])⟩,aK,trivial⟩) ?_
  all_goals
   clear h hown hk;rintro k ⟨hk,hf⟩;refine Rr ?_;refine aH (fun h=>?_) (fun h=>?_)
   ·have hlt:k<own.length:=by simpa using h
    obtain⟨p1,p2,p3,p4,pm,pg,pe,ep,bp⟩:=S0 (l:=own) (k:=k) (n:=own.length) hlt rfl;have hv:=hval _ pm;rw[List.drop_eq_getElem_cons hlt,pe,eP] at hf;generalize bP (.mk p1 p2 p3 p4)=e at hv hf;refine Rr ?_;repeat((first|refine aM bp ?_|refine aB ep ?_);refine Rr ?_)
    refine hv.go ?_;refine Rr ?_;refine aH (fun h=>?_) (fun h=>?_)
    ·have h:e≠0:=by simpa using h
     refine Rr ?_;refine aA nn ⟨?_,rfl,rfl⟩;rw[Yt h] at hf;rw[hres,Yo (by simp),hf,Yt h]
    ·have h:¬e≠0:=by simpa using h
     rw[Yo h] at hf;refine Rr ?_;exact .mk (k+1) [(0,0),(1,1)] ⟨by omega,hf⟩ (aE _ rfl ⟨aL 0 (.cons (aV _) .nil),aL 1 dI,trivial⟩ ⟨aG,⟨_,rfl,.sl 1 1 0 _ rfl⟩,⟨_,rfl,.wo⟩,trivial⟩) (by omega)
   ·have hge:own.length<=k:=by simpa using h
    rw[Zv hge,eP] at hf;refine Rr ?_;refine h2.go ?_ (.cons (aV _) .nil);cases nb with
    | false=>
     refine Rr ?_;refine aA nn ⟨?_,rfl,rfl⟩;rw[hres,Yo (by simp),hf,Yo (by simp),Yt rfl]
    | true=>
     refine Rr ?_;refine aA nn ⟨?_,rfl,rfl⟩;rw[hres,Yo (by simp),hf,Yo (by simp),Yo (by simp)]
set_option maxHeartbeats 8000000
theorem Ju(bs:List Int)(x:Nd)(hx:uW x)(hbl:bs.length<=1000000)(hb:∀y∈bs,0<=y/\y<=1024)(hk:∀(j:Nat) (k:Int),x.kids[j]? = some k->0<=k/\k<bs.length)(h4:4<=x.kind->0<x.kids.length)(hkind:0<=x.kind/\x.kind<=4) :
  aF prog [] 32 [.sl 0 0 bs.length,cD x] [(0,.row 3 1 (bH bs))] 1 fun r m _=>∃(len:Nat) (ys:List AV),r = .sl 1 0 len/\m=[(1,.row 3 1 ys)]/\kI ys/\(len=bs.length+1/\ys=bH (bs++[iJ bs x])):=by
 have b1:=hx.kids;have b2:=hx.value;have b3:=hx.valueS;clear hx;have hat:=n7 (b:=bs) (M:=1024) (by omega) hb;have hsum:=jT (b:=bs) (M:=1024) (by omega) hb;have hmost:=iX (b:=bs) (M:=1024) (by omega) hb;obtain⟨kind,name,lo,hi,ws,ls,vals,kids,⟨vk,vn,vs,vks⟩⟩:=x;simp only at b1 b2 b3 hk h4 hkind;have hfin:∀(v:Int) (m:aQ) (n id:Nat) (e:Int),lk m id=some (.row 3 1 (bH bs++[.int .i64 e]))->1<=id->e=v->v=iJ bs ⟨kind,name,lo,hi,ws,ls,vals,kids,.mk vk vn vs vks⟩ ->
   qE 1 (fun r m _=>∃(len:Nat) (ys:List AV),r = .sl 1 0 len/\m=[(1,.row 3 1 ys)]/\kI ys/\(len=bs.length+1/\ys=bH (bs++[iJ bs ⟨kind,name,lo,hi,ws,ls,vals,kids,.mk vk vn vs vks⟩]))) (.sl id 0 (bs.length+1)) m n:=by
  intro v m n id e hid h1 he hv;refine bF (n':=2) (m':=[(1,.row 3 1 (bH (bs++[v])))]) [(id,1)] ?_ ⟨⟨id,_,by simp[lk],hid,.eq (bE _) (by rw[he];simp[bH])⟩,trivial⟩ (.sl id 1 0 _ (by simp[lk])) ⟨_,_,rfl,rfl,bE _,rfl,by rw[hv]⟩;simp[n9,Ew,oD,zM,wJ]
 refine aD bD func32 rfl ?_;refine Rr ?_;refine aZ.at bD (fun k:Nat=>k<=kids.length)
  (fun k=>⟨[(0,.sl 0 0 bs.length),(3,.ptr 1 0 0),(5,.int .i64 (0+iF bs (kids.take k))),(6,.int .i64 (dE bs (if kind=2 then kids.take k else(kids.take k).drop 1))),(7,.int .i64 k)],[(0,.row 3 1 (bH bs)),(1,.row 57 12 [cD ⟨kind,name,lo,hi,ws,ls,vals,kids,.mk vk vn vs vks⟩])],2,74⟩) (fun k=>kids.length-k) 0 [(0,0),(1,1)] (by simp)
  (aE _ rfl ⟨aL 0 dI,aL 1 (.cons (aV _) .nil),trivial⟩ ⟨⟨_,rfl,.sl 0 0 0 _ rfl⟩,aG,⟨_,rfl,.int rfl⟩,⟨_,rfl,.int (by split<;>rfl)⟩,aK,trivial⟩) ?_
 intro k hkl;have hs1:=hsum (kids.take k);have hlen:(kids.take k).length=k:=by simp;omega
 rw[hlen] at hs1;refine Rr ?_;refine aH (fun h=>?_) (fun h=>?_)
 ·have hlt:k<kids.length:=by rw[aI] at h;simpa using h
  have e1:(bH kids)[(k:Int).toNat]? = some (.int .i64 kids[k]):=by rw[Yl,bU,Yj hlt];rfl
  have hg:kids[k]? = some kids[k]:=Yj hlt;have hst:=xA (b:=bs) hlt;have hmt:=sV (b:=bs) hlt;have hmd:=qJ (b:=bs) hlt;generalize kids[k]=q at e1 hg hst hmt hmd;obtain⟨q1,q2⟩:=hk k q hg;have hq:=hat q;obtain⟨qn,rfl⟩:=Y4 q1;have hqn:qn<bs.length:=by omega
  have e2:(bH bs)[0+(qn:Int).toNat]? = some (.int .i64 (eS bs qn)):=by rw[ZD,Yl,bU,Yj hqn];simp[eS,hqn]
  have bq:Nat.blt (qn:Int).toNat bs.length=true:=Yp (by simp;omega);generalize eS bs qn=av at e2 hst hmt hmd hq;refine Rr ?_;repeat((first|refine aB e1 ?_|refine aM bq ?_|refine aB e2 ?_);refine Rr ?_)
  have hw:IntKind.i64.wrap (0+iF bs (kids.take k)+av)=0+iF bs (kids.take (k+1)):=w64 (by omega) ⟨by omega,by omega⟩;refine aH (fun h=>?_) (fun h=>?_)
  ·have h2:kind=2:=by simpa using h
   rw[h];refine Rr ?_;exact .mk (k+1) [(0,0),(1,1)] (by omega) (aE _ rfl ⟨aL 0 dI,aL 1 (.cons (aV _) .nil),trivial⟩ ⟨⟨_,rfl,.sl 0 0 0 _ rfl⟩,aG,⟨_,rfl,.int hw⟩,⟨_,rfl,.int (by rw[Yt h2,Yt h2,hmt];simp;omega)⟩,⟨_,rfl,.wo⟩,trivial⟩) (by omega)
  ·have h2:¬kind=2:=by simpa using h
   rw[h];refine Rr ?_;refine aH (fun h=>?_) (fun h=>?_)
   ·have h3:0<k:=by simp at h;omega
    refine Rr ?_;exact .mk (k+1) [(0,0),(1,1)] (by omega) (aE _ rfl ⟨aL 0 dI,aL 1 (.cons (aV _) .nil),trivial⟩ ⟨⟨_,rfl,.sl 0 0 0 _ rfl⟩,aG,⟨_,rfl,.int hw⟩,⟨_,rfl,.int (by rw[Yo h2,Yo h2,hmd h3];simp;omega)⟩,⟨_,rfl,.wo⟩,trivial⟩) (by omega)
   ·have h3:k=0:=by simp at h;omega
    refine Rr ?_;exact .mk (k+1) [(0,0),(1,1)] (by omega) (aE _ rfl ⟨aL 0 dI,aL 1 (.cons (aV _) .nil),trivial⟩ ⟨⟨_,rfl,.sl 0 0 0 _ rfl⟩,aG,⟨_,rfl,.int hw⟩,⟨_,rfl,.int (by rw[Yo h2,Yo h2,h3];cases kids<;>simp)⟩,⟨_,rfl,.wo⟩,trivial⟩) (by omega)
 ·have hke:k=kids.length:=by rw[aI] at h;simp at h;omega
  rw[hke,ZB] at *;have hm1:=hmost kids;have hm2:=hmost (kids.drop 1);have hs2:=hsum kids;clear hke h;rcases(show kind=0∨kind=1∨kind=2∨kind=3∨kind=4 by omega) with rfl|rfl|rfl|rfl|rfl
  ·refine Rr ?_;refine aM (bT rfl rfl (by rw[aI]) (by simp;omega)) ?_;refine Rr ?_;exact hfin 0 _ _ _ _ rfl (by decide) rfl rfl
  ·refine Rr ?_;refine aM (bT rfl rfl (by rw[aI]) (by simp;omega)) ?_;refine Rr ?_;exact hfin 1 _ _ _ _ rfl (by decide) rfl rfl
  ·rw[Yt rfl] at *;refine Rr ?_;refine aM (bT rfl rfl (by rw[aI]) (by simp;omega)) ?_;refine Rr ?_;exact hfin (1+dE bs kids) _ _ _ _ rfl (by decide) (w64 rfl ⟨by omega,by omega⟩) rfl
  ·refine Rr ?_;refine aM (bT rfl rfl (by rw[aI]) (by simp;omega)) ?_;refine Rr ?_;exact hfin (iF bs kids) _ _ _ _ rfl (by decide) (by omega) rfl
  ·rw[Yo (by omega)] at *;have hpos:0<kids.length:=h4 (by omega);have e1:(bH kids)[(0:Int).toNat]? = some (.int .i64 (kids.getD 0 0)):=by rw[show (0:Int).toNat=0 from rfl,bU,Yj hpos];simp[hpos]
   obtain⟨q1,q2⟩:=hk 0 (kids.getD 0 0) (by simp[hpos]);have hval:iJ bs ⟨4,name,lo,hi,ws,ls,vals,kids,.mk vk vn vs vks⟩=eS bs (kids.getD 0 0)+dE bs (kids.drop 1):=rfl;generalize kids.getD 0 0=q at e1 q1 q2 hval;have hq:=hat q;obtain⟨qn,rfl⟩:=Y4 q1;have hqn:qn<bs.length:=by omega
   have e2:(bH bs)[0+(qn:Int).toNat]? = some (.int .i64 (eS bs qn)):=by rw[ZD,Yl,bU,Yj hqn];simp[eS,hqn]
   have bq:Nat.blt (qn:Int).toNat bs.length=true:=Yp (by simp;omega);generalize eS bs qn=av at e2 hval hq;refine Rr ?_;repeat((first|refine aB e1 ?_|refine aM bq ?_|refine aB e2 ?_);refine Rr ?_)
   refine aM (bT rfl rfl (by rw[aI]) (by simp;omega)) ?_;refine Rr ?_;exact hfin (av+dE bs (kids.drop 1)) _ _ _ _ rfl (by decide) (w64 rfl ⟨by omega,by omega⟩) hval.symm
theorem QM(bs:List Int)(x:Nd)(hx:uW x)(hbl:bs.length<=1000000)(hb:∀y∈bs,0<=y/\y<=1024)(hk:∀(j:Nat) (k:Int),x.kids[j]? = some k->0<=k/\k<bs.length)(h4:4<=x.kind->0<x.kids.length)(hkind:0<=x.kind/\x.kind<=4) :
  aF prog [] 33 [.sl 0 0 bs.length,cD x] [(0,.row 3 1 (bH bs))] 1 fun r m _=>∃(len:Nat) (ys:List AV),r = .sl 1 0 len/\m=[(1,.row 3 1 ys)]/\kI ys/\(len=bs.length+1/\ys=bH (bs++[lP bs x])):=by
 have b1:=hx.kids;have b2:=hx.value;have b3:=hx.valueS;clear hx;have hat:=n7 (b:=bs) (M:=1024) (by omega) hb;have hsum:=jT (b:=bs) (M:=1024) (by omega) hb;have hmost:=iX (b:=bs) (M:=1024) (by omega) hb;obtain⟨kind,name,lo,hi,ws,ls,vals,kids,⟨vk,vn,vs,vks⟩⟩:=x;simp only at b1 b2 b3 hk h4 hkind;have hfin:∀(v:Int) (m:aQ) (n id:Nat) (e:Int),lk m id=some (.row 3 1 (bH bs++[.int .i64 e]))->1<=id->e=v->v=lP bs ⟨kind,name,lo,hi,ws,ls,vals,kids,.mk vk vn vs vks⟩ ->
   qE 1 (fun r m _=>∃(len:Nat) (ys:List AV),r = .sl 1 0 len/\m=[(1,.row 3 1 ys)]/\kI ys/\(len=bs.length+1/\ys=bH (bs++[lP bs ⟨kind,name,lo,hi,ws,ls,vals,kids,.mk vk vn vs vks⟩]))) (.sl id 0 (bs.length+1)) m n:=by
  intro v m n id e hid h1 he hv;refine bF (n':=2) (m':=[(1,.row 3 1 (bH (bs++[v])))]) [(id,1)] ?_ ⟨⟨id,_,by simp[lk],hid,.eq (bE _) (by rw[he];simp[bH])⟩,trivial⟩ (.sl id 1 0 _ (by simp[lk])) ⟨_,_,rfl,rfl,bE _,rfl,by rw[hv]⟩;simp[n9,Ew,oD,zM,wJ]
 refine aD bD func33 rfl ?_;refine Rr ?_;refine aZ.at bD (fun k:Nat=>k<=kids.length)
  (fun k=>⟨[(0,.sl 0 0 bs.length),(3,.ptr 1 0 0),(5,.int .i64 (1+iF bs (kids.take k))),(6,.int .i64 (dE bs (if kind=2 then kids.take k else(kids.take k).drop 1))),(7,.int .i64 k)],[(0,.row 3 1 (bH bs)),(1,.row 57 12 [cD ⟨kind,name,lo,hi,ws,ls,vals,kids,.mk vk vn vs vks⟩])],2,62⟩) (fun k=>kids.length-k) 0 [(0,0),(1,1)] (by simp)
  (aE _ rfl ⟨aL 0 dI,aL 1 (.cons (aV _) .nil),trivial⟩ ⟨⟨_,rfl,.sl 0 0 0 _ rfl⟩,aG,⟨_,rfl,.int rfl⟩,⟨_,rfl,.int (by split<;>rfl)⟩,aK,trivial⟩) ?_
 intro k hkl;have hs1:=hsum (kids.take k);have hlen:(kids.take k).length=k:=by simp;omega
 rw[hlen] at hs1;refine Rr ?_;refine aH (fun h=>?_) (fun h=>?_)
 ·have hlt:k<kids.length:=by rw[aI] at h;simpa using h
  have e1:(bH kids)[(k:Int).toNat]? = some (.int .i64 kids[k]):=by rw[Yl,bU,Yj hlt];rfl
  have hg:kids[k]? = some kids[k]:=Yj hlt;have hst:=xA (b:=bs) hlt;have hmt:=sV (b:=bs) hlt;have hmd:=qJ (b:=bs) hlt;generalize kids[k]=q at e1 hg hst hmt hmd;obtain⟨q1,q2⟩:=hk k q hg;have hq:=hat q;obtain⟨qn,rfl⟩:=Y4 q1;have hqn:qn<bs.length:=by omega
  have e2:(bH bs)[0+(qn:Int).toNat]? = some (.int .i64 (eS bs qn)):=by rw[ZD,Yl,bU,Yj hqn];simp[eS,hqn]
  have bq:Nat.blt (qn:Int).toNat bs.length=true:=Yp (by simp;omega);generalize eS bs qn=av at e2 hst hmt hmd hq;refine Rr ?_;repeat((first|refine aB e1 ?_|refine aM bq ?_|refine aB e2 ?_);refine Rr ?_)
  have hw:IntKind.i64.wrap (1+iF bs (kids.take k)+av)=1+iF bs (kids.take (k+1)):=w64 (by omega) ⟨by omega,by omega⟩;refine aH (fun h=>?_) (fun h=>?_)
  ·have h2:kind=2:=by simpa using h
   rw[h];refine Rr ?_;exact .mk (k+1) [(0,0),(1,1)] (by omega) (aE _ rfl ⟨aL 0 dI,aL 1 (.cons (aV _) .nil),trivial⟩ ⟨⟨_,rfl,.sl 0 0 0 _ rfl⟩,aG,⟨_,rfl,.int hw⟩,⟨_,rfl,.int (by rw[Yt h2,Yt h2,hmt];simp;omega)⟩,⟨_,rfl,.wo⟩,trivial⟩) (by omega)
  ·have h2:¬kind=2:=by simpa using h
   rw[h];refine Rr ?_;refine aH (fun h=>?_) (fun h=>?_)
   ·have h3:0<k:=by simp at h;omega
    refine Rr ?_;exact .mk (k+1) [(0,0),(1,1)] (by omega) (aE _ rfl ⟨aL 0 dI,aL 1 (.cons (aV _) .nil),trivial⟩ ⟨⟨_,rfl,.sl 0 0 0 _ rfl⟩,aG,⟨_,rfl,.int hw⟩,⟨_,rfl,.int (by rw[Yo h2,Yo h2,hmd h3];simp;omega)⟩,⟨_,rfl,.wo⟩,trivial⟩) (by omega)
   ·have h3:k=0:=by simp at h;omega
    refine Rr ?_;exact .mk (k+1) [(0,0),(1,1)] (by omega) (aE _ rfl ⟨aL 0 dI,aL 1 (.cons (aV _) .nil),trivial⟩ ⟨⟨_,rfl,.sl 0 0 0 _ rfl⟩,aG,⟨_,rfl,.int hw⟩,⟨_,rfl,.int (by rw[Yo h2,Yo h2,h3];cases kids<;>simp)⟩,⟨_,rfl,.wo⟩,trivial⟩) (by omega)
 ·have hke:k=kids.length:=by rw[aI] at h;simp at h;omega
  rw[hke,ZB] at *;have hm1:=hmost kids;have hm2:=hmost (kids.drop 1);have hs2:=hsum kids;clear hke h;rcases(show kind=0∨kind=1∨kind=2∨kind=3∨kind=4 by omega) with rfl|rfl|rfl|rfl|rfl
  ·have hz:=PY (.mk vk vn vs vks) (by omega);have hval:lP bs ⟨0,name,lo,hi,ws,ls,vals,kids,.mk vk vn vs vks⟩=((bB (.mk vk vn vs vks):Nat):Int):=rfl;generalize bB (.mk vk vn vs vks)=sz at hz hval;refine Rr ?_;refine hz.go ?_;refine Rr ?_;refine aM (bT rfl rfl (by rw[aI]) (by simp;omega)) ?_;refine Rr ?_;exact hfin sz _ _ _ _ rfl (by decide) rfl hval.symm
  ·refine Rr ?_;refine aM (bT rfl rfl (by rw[aI]) (by simp;omega)) ?_;refine Rr ?_;exact hfin 1 _ _ _ _ rfl (by decide) rfl rfl
  ·rw[Yt rfl] at *;refine Rr ?_;refine aM (bT rfl rfl (by rw[aI]) (by simp;omega)) ?_;refine Rr ?_;exact hfin (dE bs kids) _ _ _ _ rfl (by decide) rfl rfl
  ·refine Rr ?_;refine aM (bT rfl rfl (by rw[aI]) (by simp;omega)) ?_;refine Rr ?_;exact hfin (1+iF bs kids) _ _ _ _ rfl (by decide) rfl rfl
  ·rw[Yo (by omega)] at *;refine Rr ?_;refine aM (bT rfl rfl (by rw[aI]) (by simp;omega)) ?_;refine Rr ?_;exact hfin (dE bs (kids.drop 1)) _ _ _ _ rfl (by decide) rfl rfl
theorem Nn{l:List aR}{k:Nat}{v a:aR}(h:l[k]? = some a):JM l k v=(cE a v == 0):=by simp[JM,h]
theorem NE{l:List aR}{k:Nat}{v:aR}(h:l.length<=k):JM l k v=false:=by simp[JM,Y3 h]
theorem Wq(l:List aR)(v:aR)(hl:l.length<=4294967296)(hok:∀a∈l,g9 a) :
  aT prog [] 248 [.il 4 (aU l),cN v] (.tup [.int .i64 (kL l v).1,.bool (kL l v).2]):=by
 obtain⟨vk,vn,vs,vks⟩:=v;have nl:NN (.il 4 (aU l)):=.il' (bI l);have nt:∀(k:Int) (b:Bool),NN (.tup [.int .i64 k,.bool b]):=fun k b=>.tup' (.cons (.int _ _) (.cons (.bool _) .nil))
 refine i6 bD func248 rfl ?_
 conv=>whnf
 refine fR.loopAt bD (fun k:Nat=>k<=l.length/\∀p a,p<k->l[p]? = some a->cE a (.mk vk vn vs vks)<0)
  (fun k=>⟨[(0,.il 4 (aU l)),(3,.ptr 0 0 0),(6,.int .i64 k)],[(0,.row 55 4 [cN (.mk vk vn vs vks)])],1,27⟩)
  (fun k=>l.length-k) 0 [(0,0)] ⟨by simp,by simp⟩
  (aE _ rfl ⟨aL 0 (.cons (dC _) .nil),trivial⟩ ⟨aN nl,aG,aN (.int _ _),trivial⟩) ?_
 rintro k ⟨h1,h2⟩
 conv=>whnf
 refine aH (fun h=>?_) (fun h=>?_)
 ·have hk:k<l.length:=by rw[aC] at h;simpa using h
  have e:=Hc hk;obtain⟨⟨ak,an,az,aks⟩,hv⟩:∃a,a=l[k]:=⟨_,rfl⟩
  rw[←hv] at e;have hm:aR.mk ak an az aks∈l:=by rw[hv];exact Y8 hk
  have hg:l[k]? = some (aR.mk ak an az aks):=by rw[hv];exact Yj hk
  conv=>whnf
  refine aB e ?_
  conv=>whnf
  refine(rW (.mk ak an az aks) (.mk vk vn vs vks) (hok _ hm)).use bD (.cons (dC _) (.cons (dC _) .nil)) (.int _ _) ?_
  conv=>whnf
  refine aH (fun h3=>?_) (fun h3=>?_)
  ·have h3:0<=cE (.mk ak an az aks) (.mk vk vn vs vks):=by simpa using h3
   conv=>whnf
   refine aA (nt _ _) ⟨?_,rfl,rfl⟩;rw[DB h1 h2 (fun a ha=>by rw[hg] at ha;cases ha;exact h3),Nn hg]
  ·have h3:cE (.mk ak an az aks) (.mk vk vn vs vks)<0:=by simpa using h3
   conv=>whnf
   refine .mk (k+1) [(0,0)] ⟨by omega,fun p a hp ha=>?_⟩ (aE _ rfl ⟨aL 0 (.cons (dC _) .nil),trivial⟩ ⟨aN nl,aG,⟨_,rfl,.eq (.int _ _) ?_⟩,trivial⟩) (by omega)
   ·rcases Y5 p k with hp'|hp'
    ·exact h2 p a hp' ha
    ·have:p=k:=by omega
     subst this;rw[hg] at ha;cases ha;exact h3
   ·rw[bA ⟨by omega,by omega⟩];rfl
 ·have hk:k=l.length:=by rw[aC] at h;simp at h;omega
  conv=>whnf
  refine aA (nt _ _) ⟨?_,rfl,rfl⟩;rw[DB h1 h2 (fun a ha=>by rw[Y3 (by omega)] at ha;cases ha),NE (by omega),aC,hk]
set_option maxHeartbeats 4000000
theorem Xt(k:Int)(b:Bool):Sc (.tup [.int .i64 k,.bool b]):=.tup _ fun j c h=>by
 rcases j with _|_|j<;>simp at h<;>subst h
 ·exact .int _ _
 ·exact .bool _
theorem KR(l:List aR)(hl:l.length<=4294967296)(hok:∀a∈l,g9 a) :
  aF prog [] 231 [.il 4 (aU l)] [] 0 fun r m n=>r = .sl 0 0 (fO l).length/\m=[(0,.row 55 4 (aU (fO l)))]/\n=1:=by
 have nl:NN (.il 4 (aU l)):=nn;refine aD bD func231 rfl ?_;refine Rr ?_;refine aZ.ph 55 4 ?_;refine aZ.at bD (fun x:Nat × List aR=>x.1<=l.length/\x.2=fO (l.take x.1))
  (fun x=>⟨[(0,.il 4 (aU l)),(3,.sl 0 0 x.2.length),(4,.int .i64 x.1)],[(0,.row 55 4 (aU x.2))],1,41⟩)
  (fun x=>l.length-x.1) (0,[]) [(0,0)] ⟨by simp,by simp[fO]⟩
  (aE _ rfl ⟨⟨0,_,rfl,rfl,.nil⟩,trivial⟩ ⟨aN nl,⟨_,rfl,.nslk 0 0 _ rfl rfl⟩,aK,trivial⟩) ?_
 rintro⟨k,out⟩ ⟨h1,h2⟩
 dsimp only at h1 h2 ⊢
 have hout:out.length<=k:=by rw[h2];have:=sU (l.take k);simp at this;omega
 have el:=aC out;have hoko:∀a∈out,g9 a:=fun a ha=>by rw[h2] at ha;exact hok a (ZG (r9 ha))
 refine Rr ?_;refine aH (fun h=>?_) (fun h=>?_)
 ·have hk:k<l.length:=Jw h;obtain⟨ak,an,az,aks,hmem,hg,hv,e⟩:=cO (l:=l) (k:=k) hk;have hnext:fO (l.take (k+1))=x9 out (.mk ak an az aks):=by
   rw[Ys hk,qC,←h2,hv]
  have hf:=Wq out (.mk ak an az aks) (by omega) hoko;have hle:=DR out (.mk ak an az aks);have hins:x9 out (.mk ak an az aks)=if (kL out (.mk ak an az aks)).2 then out else out.take (kL out (.mk ak an az aks)).1 ++ .mk ak an az aks::out.drop (kL out (.mk ak an az aks)).1:=rfl
  generalize kL out (.mk ak an az aks)=f at hf hle hins;generalize x9 out (.mk ak an az aks)=nw at hnext hins;obtain⟨p,b⟩:=f
  dsimp only at hle hins hf
  refine Rr ?_;refine aB e ?_;refine Rr ?_;refine hf.lend bD (.cons (.fz' rfl rfl (by rw[aC];omega) (by rw[←aC];simp) (bI out)) (.cons (.same _ (dC (.mk ak an az aks))) .nil)) (Xt _ _) ?_;cases b with
  | true=>
   refine Rr ?_;rw[Yt rfl] at hins;exact .mk (k+1,out) [(0,0)] ⟨by simp only;omega,by rw[←hins];exact hnext.symm⟩ (aE _ rfl ⟨aL 0 dI,trivial⟩ ⟨aN nl,⟨_,rfl,.sl 0 0 0 _ rfl⟩,⟨_,rfl,.w64 (by simp) ⟨by omega,by omega⟩⟩,trivial⟩) (by simp only;omega)
  | false=>
   rw[Yo (by simp)] at hins;refine Rr ?_;repeat(first
    | (refine bO ?_;refine Rr ?_)
    | (refine aB e ?_;refine Rr ?_)
    | (refine aM (JU (by simp;try omega) (by simp;try omega) (by simp;try omega)) ?_;refine Rr ?_)
    | (refine aM (Ke (by simp;try omega)) ?_;refine Rr ?_)
    | (refine aM (Ad rfl (by simp;try omega)) ?_;refine Rr ?_)
    | (refine aM (bT rfl rfl (by simp;try omega) (by simp;try omega)) ?_;refine Rr ?_))
   have hrow:List.take ((p:Int).toNat-0) (List.drop (0+0) (aU out))++List.take 1 (List.drop 0 [AV.agg [.int .i64 ak,.int .i64 an,.str az,.il 4 (aU aks)]])++List.take (out.length-(p:Int).toNat) (List.drop (0+(p:Int).toNat) (aU out))=aU nw:=by
    rw[hins];simp[jD,cN,List.map_take,List.map_drop];exact Yu (by simp)
   exact .mk (k+1,nw) [(19,0)] ⟨by simp only;omega,hnext.symm⟩ (aE _ rfl ⟨⟨19,_,rfl,rfl,.eq dI hrow⟩,trivial⟩ ⟨aN nl,⟨_,rfl,.slE rfl (by have:=congrArg List.length hrow;rw[Y1,Y1,aC] at this;exact this)⟩,⟨_,rfl,.w64 (by simp) ⟨by omega,by omega⟩⟩,trivial⟩) (by simp only;omega)
 ·have hk:k=l.length:=by have:=JJ h;omega
  refine Rr ?_;rw[hk,ZB] at h2;subst h2;exact bF (n':=1) (m':=[(0,.row 55 4 (aU (fO l)))]) [(0,0)] rfl ⟨aL 0 dI,trivial⟩ (.sl 0 0 0 _ rfl) ⟨rfl,rfl,rfl⟩
theorem Uz(l:List aR)(hl:l.length<=4294967296)(hok:∀a∈l,g9 a):aT prog [] 231 [.il 4 (aU l)] (.il 4 (aU (fO l))):=by
 refine aF.turn bD ((KR l hl hok).mono ?_);rintro r m n ⟨rfl,rfl,rfl⟩;exact fL (.fz' rfl rfl (by rw[aC];omega) (by rw[←aC];simp) dI) ⟨rfl,rfl,rfl⟩
set_option maxHeartbeats 8000000
theorem N3(x:Nd)(bs:List jF)(h0:x.kind=0):aF prog [] 191 [cD x,.sl 0 0 bs.length] [(0,.row 225 2 (encLs bs))] 1 fun r m _=>r=nJ (dR x bs)/\m=[(0,.row 225 2 (encLs bs))]:=by
 have nb:NN (.il 2 (encLs bs)):=.il' (encLs_nn bs);obtain⟨kind,name,lo,hi,ws,ls,vals,kids,⟨vk,vn,vs,vks⟩⟩:=x;simp only at h0;subst h0;refine aD bD func191 rfl ?_;refine Rr ?_;refine bF (r':=nJ ⟨[.mk vk vn vs vks],false⟩) (n':=1) (m':=[(0,.row 225 2 (encLs bs))]) [(0,0)] rfl ⟨aL 0 (encLs_nn bs),trivial⟩ (.agg' (.cons (.fzR rfl rfl (.cons (C7.same (x:=cN (.mk vk vn vs vks)) nn) .nil) rfl) (.s .nil))) ⟨rfl,rfl⟩
theorem K6(x:Nd)(bs:List jF)(h1:x.kind=1)(hlo : -4611686018427387904<=x.lo)(hh:x.lo<=x.hi)(hhi:x.hi<=4611686018427387904)(hsp:x.hi<x.lo+1099511627776):aF prog [] 191 [cD x,.sl 0 0 bs.length] [(0,.row 225 2 (encLs bs))] 1 fun r m _=>r=nJ (dR x bs)/\m=[(0,.row 225 2 (encLs bs))]:=by
 obtain⟨kind,name,lo,hi,ws,ls,vals,kids,⟨vk,vn,vs,vks⟩⟩:=x;simp only at h1 hlo hh hhi hsp;subst h1;have hres:dR ⟨1,name,lo,hi,ws,ls,vals,kids,.mk vk vn vs vks⟩ bs=if 1024<=hi-lo then⟨[],true⟩ else⟨tN lo (hi+1-lo).toNat,false⟩:=rfl
 generalize dR ⟨1,name,lo,hi,ws,ls,vals,kids,.mk vk vn vs vks⟩ bs=res at hres;have hw:IntKind.i64.wrap (hi-lo)=hi-lo:=w64 rfl ⟨by omega,by omega⟩;refine aD bD func191 rfl ?_;refine Rr ?_;rw[hw];refine aH (fun h=>?_) (fun h=>?_)
 ·refine Rr ?_;exact bF (r':=nJ ⟨[],true⟩) (n':=1) (m':=[(0,.row 225 2 (encLs bs))]) [(0,0)] rfl ⟨aL 0 (encLs_nn bs),trivial⟩ (.agg' (.cons (.nil 4) (.s .nil))) ⟨by rw[hres,Yt (by simpa using h)],rfl⟩
 ·have hlt:hi-lo<1024:=by simpa using h
  rw[Yo (by omega)] at hres;refine Rr ?_;refine aZ.ph 55 4 ?_;refine aZ.at bD (fun k:Nat=>lo+k<=hi+1)
   (fun k=>⟨[(2,.ptr 1 0 0),(4,.ptr 2 0 0),(5,.ptr 3 0 0),(6,.int .i64 (lo+k))],[(0,.row 225 2 (encLs bs)),(1,.row 57 12 [cD ⟨1,name,lo,hi,ws,ls,vals,kids,.mk vk vn vs vks⟩]),(2,.row 225 2 [.agg [.nsl,.bool false]]),(3,.row 225 2 [.agg [.sl 4 0 (tN lo k).length,.bool false]]),(4,.row 55 4 (aU (tN lo k)))],5,96⟩)
   (fun k=>(hi+1-lo).toNat-k) 0 [(0,0),(1,1),(2,2),(3,3),(4,4)] (by omega)
   (aE _ rfl ⟨aL 0 (encLs_nn bs),aL 1 (.cons (aV _) .nil),aL 2 dI,⟨3,_,rfl,rfl,.cons (.agg (.cons (.nslk 4 4 _ rfl rfl) (.s .nil))) .nil⟩,⟨4,_,rfl,rfl,.nil⟩,trivial⟩ ⟨aG,aG,aG,⟨_,rfl,.int (by simp)⟩,trivial⟩) ?_
  intro k hk;have hlen:=FO lo k;refine Rr ?_;refine aH (fun h=>?_) (fun h=>?_)
  ·have hkl:lo+k<=hi:=by simpa using h
   refine Rr ?_;refine aM (bT rfl rfl (by rw[aC]) (by simp;omega)) ?_;refine Rr ?_;exact .mk (k+1) [(0,0),(1,1),(2,2),(3,3),(6,4)] (by omega)
    (aE _ rfl ⟨aL 0 (encLs_nn bs),aL 1 (.cons (aV _) .nil),aL 2 dI,⟨3,_,rfl,rfl,.cons (.agg (.cons (.slE rfl (by rw[CI];simp)) (.s .nil))) .nil⟩,⟨6,_,rfl,rfl,by rw[CI,i5];exact .snoc rfl (.same dI) (I4 _ _ _)⟩,trivial⟩ ⟨aG,aG,aG,⟨_,rfl,.wo⟩,trivial⟩) (by omega)
  ·have hke:k=(hi+1-lo).toNat:=by simp at h;omega
   refine Rr ?_;exact bF (r':=nJ ⟨tN lo k,false⟩) (n':=1) (m':=[(0,.row 225 2 (encLs bs))]) [(0,0)] rfl ⟨aL 0 (encLs_nn bs),trivial⟩ (.agg' (.cons (.fzR rfl rfl (.same dI) (by rw[aC])) (.s .nil))) ⟨by rw[hres,hke],rfl⟩
set_option maxHeartbeats 8000000
theorem Ni(x:Nd)(bs:List jF)(h2:x.kind=2)(hkl:x.kids.length<=65536)(hk:∀(j:Nat) (k:Int),x.kids[j]? = some k->0<=k/\k<bs.length)(hb:∀b∈bs,b.vals.length<=1024/\∀v∈b.vals,g9 v) :
  aF prog [] 191 [cD x,.sl 0 0 bs.length] [(0,.row 225 2 (encLs bs))] 1 fun r m _=>r=nJ (dR x bs)/\m=[(0,.row 225 2 (encLs bs))]:=by
 have nb:NN (.il 2 (encLs bs)):=.il' (encLs_nn bs);obtain⟨kind,name,lo,hi,ws,ls,vals,kids,⟨vk,vn,vs,vks⟩⟩:=x;simp only at h2 hkl hk;subst h2;have hres:dR ⟨2,name,lo,hi,ws,ls,vals,kids,.mk vk vn vs vks⟩ bs=pT bs kids:=rfl;generalize dR ⟨2,name,lo,hi,ws,ls,vals,kids,.mk vk vn vs vks⟩ bs=res at hres;refine aD bD func191 rfl ?_;refine Rr ?_;refine aZ.ph 55 4 ?_;refine aZ.at bD (fun a:Nat × (List aR × Bool)=>a.1<=kids.length/\a.2=(kids.take a.1).foldl (cK bs) ([],false))
  (fun a=>⟨[(1,.sl 0 0 bs.length),(2,.ptr 1 0 0),(4,.ptr 2 0 0),(5,.ptr 3 0 0),(7,.int .i64 a.1)],[(0,.row 225 2 (encLs bs)),(1,.row 57 12 [cD ⟨2,name,lo,hi,ws,ls,vals,kids,.mk vk vn vs vks⟩]),(2,.row 225 2 [.agg [.nsl,.bool false]]),(3,.row 225 2 [.agg [.sl 4 0 a.2.1.length,.bool a.2.2]]),(4,.row 55 4 (aU a.2.1))],5,96⟩)
  (fun a=>kids.length-a.1) (0,[],false) [(0,0),(1,1),(2,2),(3,3),(4,4)] ⟨by simp,by simp⟩
  (aE _ rfl ⟨aL 0 (encLs_nn bs),aL 1 (.cons (aV _) .nil),aL 2 dI,⟨3,_,rfl,rfl,.cons (.agg (.cons (.nslk 4 4 _ rfl rfl) (.s .nil))) .nil⟩,⟨4,_,rfl,rfl,.nil⟩,trivial⟩ ⟨⟨_,rfl,.sl 0 0 0 _ rfl⟩,aG,aG,aG,⟨_,rfl,.int rfl⟩,trivial⟩) ?_
 rintro⟨k,a1,am⟩ ⟨hkk,ha⟩;simp only at hkk ha;have hbd:=xI hb (kids.take k) ([],false) 0 (by simp) (by simp);rw[←ha] at hbd;simp only at hbd;have hlk:(kids.take k).length<=65536:=by simp;omega
 have ha1:a1.length<=67108864:=by omega
 refine Rr ?_;refine aH (fun h=>?_) (fun h=>?_)
 ·have hlt:k<kids.length:=by rw[aI] at h;simpa using h
  have e1:(bH kids)[(k:Int).toNat]? = some (.int .i64 kids[k]):=by rw[Yl,bU,Yj hlt];rfl
  have hg:kids[k]? = some kids[k]:=Yj hlt;have hstep:=J9 (cK bs) hlt ([],false);rw[←ha] at hstep;generalize kids[k]=q at e1 hg hstep;obtain⟨q1,q2⟩:=hk k q hg;obtain⟨qn,rfl⟩:=Y4 q1;have hqn:qn<bs.length:=by omega
  obtain⟨⟨bv,bm⟩,hbe⟩:∃b,b=bs[qn]:=⟨_,rfl⟩
  have hbm:=hb _ (show (⟨bv,bm⟩:jF)∈bs by rw[hbe];exact Y8 hqn);simp only at hbm;have hat:dS bs qn=⟨bv,bm⟩:=by rw[hbe];simp[dS,hqn]
  have bq:Nat.blt (qn:Int).toNat bs.length=true:=Yp (by simp;omega);have e2:(encLs bs)[0+(qn:Int).toNat]? = some (nJ ⟨bv,bm⟩):=by rw[ZD,Yl,encLs_get,Yj hqn,←hbe];rfl
  have hso:=KR (a1++bv) (by simp;omega) (fun v hv=>by
   rcases Yz.1 hv with h|h
   ·exact hbd.2 v h
   ·exact hbm.2 v h)
  have hun:cK bs (a1,am) qn=(fO (a1++bv),am || bm || decide (1024<(fO (a1++bv)).length)):=by simp[cK,hat]
  rw[hun] at hstep;generalize fO (a1++bv)=sv at hso hstep;refine Rr ?_;refine aB e1 ?_;refine Rr ?_;repeat((first|refine aM bq ?_|refine aB e2 ?_);refine Rr ?_)
  refine aM (bT rfl rfl (by rw[aC]) (by simp[aC];omega)) ?_;refine Rr ?_;refine aF.pre bD [(5,5),(0,0),(1,1),(2,2),(3,3)] (mem':=[(5,.row 225 2 [.agg [.il 4 (aU bv),.bool bm]]),(0,.row 225 2 (encLs bs)),(1,.row 57 12 [cD ⟨2,name,lo,hi,ws,ls,vals,kids,.mk vk vn vs vks⟩]),(2,.row 225 2 [.agg [.nsl,.bool false]]),(3,.row 225 2 [.agg [.junk,.bool am]])]) rfl
   ⟨aL 5 dI,aL 0 (encLs_nn bs),aL 1 (.cons (aV _) .nil),aL 2 dI,⟨3,_,rfl,rfl,.cons (.agg (.cons (.junk _) (.s .nil))) .nil⟩,trivial⟩
   (.cons (.fzR (ys:=aU (a1++bv)) rfl rfl (.eq dI (by simp[jD])) (by simp[aC])) .nil) ?_
  refine aF.useNew bD hso dI dI ?_;cases am<;>cases bm
  all_goals
   refine Rr ?_;exact .mk (k+1,sv,_) [(0,0),(1,1),(2,2),(3,3),(7,4)] ⟨by simp only;omega,hstep.symm⟩
    (aE _ rfl ⟨aL 0 (encLs_nn bs),aL 1 (.cons (aV _) .nil),aL 2 dI,⟨3,_,rfl,rfl,.cons (.agg (.cons (.sl 7 4 0 _ rfl) (.cons (.bool (by simp[Ze]<;>omega)) .nil))) .nil⟩,aL 7 dI,trivial⟩
     ⟨⟨_,rfl,.sl 0 0 0 _ rfl⟩,aG,aG,aG,⟨_,rfl,.w64 (by simp) ⟨by simp only;omega,by simp only;omega⟩⟩,trivial⟩) (by simp only;omega)
 ·have hke:k=kids.length:=by rw[aI] at h;simp at h;omega
  rw[hke,ZB] at ha;have hu:pT bs kids=if am then⟨[],true⟩ else⟨a1,false⟩:=by
   unfold pT;rw[←ha]
  cases am with
  | true=>
   refine Rr ?_;exact bF (r':=nJ ⟨[],true⟩) (n':=1) (m':=[(0,.row 225 2 (encLs bs))]) [(0,0)] rfl ⟨aL 0 (encLs_nn bs),trivial⟩ (.agg' (.cons (.nil 4) (.s .nil))) ⟨by rw[hres,hu,Yt rfl],rfl⟩
  | false=>
   refine Rr ?_;exact bF (r':=nJ ⟨a1,false⟩) (n':=1) (m':=[(0,.row 225 2 (encLs bs))]) [(0,0)] rfl ⟨aL 0 (encLs_nn bs),trivial⟩ (.agg' (.cons (.fzR rfl rfl (.same dI) (by rw[aC])) (.s .nil))) ⟨by rw[hres,hu,Yo (by simp)],rfl⟩
set_option maxHeartbeats 8000000
theorem OK(x:Nd)(bs:List jF)(h2:x.kind=4)(hkl:x.kids.length<=65536)(hk:∀(j:Nat) (k:Int),x.kids[j]? = some k->0<=k/\k<bs.length)(hb:∀b∈bs,b.vals.length<=1024/\∀v∈b.vals,g9 v) :
  aF prog [] 191 [cD x,.sl 0 0 bs.length] [(0,.row 225 2 (encLs bs))] 1 fun r m _=>r=nJ (dR x bs)/\m=[(0,.row 225 2 (encLs bs))]:=by
 have nb:NN (.il 2 (encLs bs)):=.il' (encLs_nn bs);obtain⟨kind,name,lo,hi,ws,ls,vals,kids,⟨vk,vn,vs,vks⟩⟩:=x;simp only at h2 hkl hk;subst h2;have hres:dR ⟨4,name,lo,hi,ws,ls,vals,kids,.mk vk vn vs vks⟩ bs=pT bs (kids.drop 1):=rfl;generalize dR ⟨4,name,lo,hi,ws,ls,vals,kids,.mk vk vn vs vks⟩ bs=res at hres;refine aD bD func191 rfl ?_;refine Rr ?_;refine aZ.ph 55 4 ?_;refine aZ.at bD (fun a:Nat × (List aR × Bool)=>a.1<=kids.length/\a.2=((kids.take a.1).drop 1).foldl (cK bs) ([],false))
  (fun a=>⟨[(1,.sl 0 0 bs.length),(2,.ptr 1 0 0),(4,.ptr 2 0 0),(5,.ptr 3 0 0),(7,.int .i64 a.1)],[(0,.row 225 2 (encLs bs)),(1,.row 57 12 [cD ⟨4,name,lo,hi,ws,ls,vals,kids,.mk vk vn vs vks⟩]),(2,.row 225 2 [.agg [.nsl,.bool false]]),(3,.row 225 2 [.agg [.sl 4 0 a.2.1.length,.bool a.2.2]]),(4,.row 55 4 (aU a.2.1))],5,96⟩)
  (fun a=>kids.length-a.1) (0,[],false) [(0,0),(1,1),(2,2),(3,3),(4,4)] ⟨by simp,by simp⟩
  (aE _ rfl ⟨aL 0 (encLs_nn bs),aL 1 (.cons (aV _) .nil),aL 2 dI,⟨3,_,rfl,rfl,.cons (.agg (.cons (.nslk 4 4 _ rfl rfl) (.s .nil))) .nil⟩,⟨4,_,rfl,rfl,.nil⟩,trivial⟩ ⟨⟨_,rfl,.sl 0 0 0 _ rfl⟩,aG,aG,aG,⟨_,rfl,.int rfl⟩,trivial⟩) ?_
 rintro⟨k,a1,am⟩ ⟨hkk,ha⟩;simp only at hkk ha;have hbd:=xI hb ((kids.take k).drop 1) ([],false) 0 (by simp) (by simp);rw[←ha] at hbd;simp only at hbd;have hlk:((kids.take k).drop 1).length<=65536:=by simp;omega
 have ha1:a1.length<=67108864:=by omega
 refine Rr ?_;refine aH (fun h=>?_) (fun h=>?_)
 ·have hlt:k<kids.length:=by rw[aI] at h;simpa using h
  have e1:(bH kids)[(k:Int).toNat]? = some (.int .i64 kids[k]):=by rw[Yl,bU,Yj hlt];rfl
  have hg:kids[k]? = some kids[k]:=Yj hlt;refine Rr ?_;refine aH (fun h=>?_) (fun h=>?_)
  ·have hk0:k=0:=by simp at h;omega
   subst hk0;refine Rr ?_;exact .mk (1,a1,am) [(0,0),(1,1),(2,2),(3,3),(4,4)] ⟨by simp only;omega,by rw[ha];cases kids<;>simp⟩
    (aE _ rfl ⟨aL 0 (encLs_nn bs),aL 1 (.cons (aV _) .nil),aL 2 dI,⟨3,_,rfl,rfl,.cons (.agg (.cons (.sl 4 4 0 _ rfl) (.s .nil))) .nil⟩,aL 4 dI,trivial⟩ ⟨⟨_,rfl,.sl 0 0 0 _ rfl⟩,aG,aG,aG,⟨_,rfl,.int rfl⟩,trivial⟩) (by simp only;omega)
  have hk0:0<k:=by
   rcases Y2 k with h'|h'
   ·rw[h'] at h;simp at h
   ·exact h'
  have hstep:=Kt (cK bs) hlt hk0 ([],false);rw[←ha] at hstep;generalize kids[k]=q at e1 hg hstep;obtain⟨q1,q2⟩:=hk k q hg;obtain⟨qn,rfl⟩:=Y4 q1;have hqn:qn<bs.length:=by omega
  obtain⟨⟨bv,bm⟩,hbe⟩:∃b,b=bs[qn]:=⟨_,rfl⟩
  have hbm:=hb _ (show (⟨bv,bm⟩:jF)∈bs by rw[hbe];exact Y8 hqn);simp only at hbm;have hat:dS bs qn=⟨bv,bm⟩:=by rw[hbe];simp[dS,hqn]
  have bq:Nat.blt (qn:Int).toNat bs.length=true:=Yp (by simp;omega);have e2:(encLs bs)[0+(qn:Int).toNat]? = some (nJ ⟨bv,bm⟩):=by rw[ZD,Yl,encLs_get,Yj hqn,←hbe];rfl
  have hso:=KR (a1++bv) (by simp;omega) (fun v hv=>by
   rcases Yz.1 hv with h|h
   ·exact hbd.2 v h
   ·exact hbm.2 v h)
  have hun:cK bs (a1,am) qn=(fO (a1++bv),am || bm || decide (1024<(fO (a1++bv)).length)):=by simp[cK,hat]
  rw[hun] at hstep;generalize fO (a1++bv)=sv at hso hstep;refine Rr ?_;refine aB e1 ?_;refine Rr ?_;repeat((first|refine aM bq ?_|refine aB e2 ?_);refine Rr ?_)
  refine aM (bT rfl rfl (by rw[aC]) (by simp[aC];omega)) ?_;refine Rr ?_;refine aF.pre bD [(5,5),(0,0),(1,1),(2,2),(3,3)] (mem':=[(5,.row 225 2 [.agg [.il 4 (aU bv),.bool bm]]),(0,.row 225 2 (encLs bs)),(1,.row 57 12 [cD ⟨4,name,lo,hi,ws,ls,vals,kids,.mk vk vn vs vks⟩]),(2,.row 225 2 [.agg [.nsl,.bool false]]),(3,.row 225 2 [.agg [.junk,.bool am]])]) rfl
   ⟨aL 5 dI,aL 0 (encLs_nn bs),aL 1 (.cons (aV _) .nil),aL 2 dI,⟨3,_,rfl,rfl,.cons (.agg (.cons (.junk _) (.s .nil))) .nil⟩,trivial⟩
   (.cons (.fzR (ys:=aU (a1++bv)) rfl rfl (.eq dI (by simp[jD])) (by simp[aC])) .nil) ?_
  refine aF.useNew bD hso dI dI ?_;cases am<;>cases bm
  all_goals
   refine Rr ?_;exact .mk (k+1,sv,_) [(0,0),(1,1),(2,2),(3,3),(7,4)] ⟨by simp only;omega,hstep.symm⟩
    (aE _ rfl ⟨aL 0 (encLs_nn bs),aL 1 (.cons (aV _) .nil),aL 2 dI,⟨3,_,rfl,rfl,.cons (.agg (.cons (.sl 7 4 0 _ rfl) (.cons (.bool (by simp[Ze]<;>omega)) .nil))) .nil⟩,aL 7 dI,trivial⟩
     ⟨⟨_,rfl,.sl 0 0 0 _ rfl⟩,aG,aG,aG,⟨_,rfl,.w64 (by simp) ⟨by simp only;omega,by simp only;omega⟩⟩,trivial⟩) (by simp only;omega)
 ·have hke:k=kids.length:=by rw[aI] at h;simp at h;omega
  rw[hke,ZB] at ha;have hu:pT bs (kids.drop 1)=if am then⟨[],true⟩ else⟨a1,false⟩:=by
   unfold pT;rw[←ha]
  cases am with
  | true=>
   refine Rr ?_;exact bF (r':=nJ ⟨[],true⟩) (n':=1) (m':=[(0,.row 225 2 (encLs bs))]) [(0,0)] rfl ⟨aL 0 (encLs_nn bs),trivial⟩ (.agg' (.cons (.nil 4) (.s .nil))) ⟨by rw[hres,hu,Yt rfl],rfl⟩
  | false=>
   refine Rr ?_;exact bF (r':=nJ ⟨a1,false⟩) (n':=1) (m':=[(0,.row 225 2 (encLs bs))]) [(0,0)] rfl ⟨aL 0 (encLs_nn bs),trivial⟩ (.agg' (.cons (.fzR rfl rfl (.same dI) (by rw[aC])) (.s .nil))) ⟨by rw[hres,hu,Yo (by simp)],rfl⟩
set_option maxHeartbeats 8000000
def oZ(l:List (List aR)):List AV:=l.map fun r=>.il 4 (aU r)
theorem j9(l:List (List aR)):kI (oZ l):=fun a ha=>by
 obtain⟨n,_,rfl⟩:=ZF.1 ha;exact nn
theorem tP(l:List aR):∀rows:List (List aR),(Go.Ax.f7 rows l).length=rows.length*l.length
 | []=>by simp[Go.Ax.f7]
 | r::rs=>by
  have:=tP l rs;simp only[Go.Ax.f7,Z0,Y1,aAn,ZH,Nat.add_mul,Zx] at this ⊢;omega
theorem Kw(l:List (List aR))(r:List aR):oZ (l++[r])=oZ l++[.il 4 (aU r)]:=by simp[oZ]
theorem G0(l:List (List aR)):(oZ l).length=l.length:=by simp[oZ]
theorem Jy{name:List UInt8}(hn:name.length<=4294967296){r:List aR}(hr:r.length<=4294967296)(ho:∀v∈r,g9 v):g9 (eA name r):=by
 unfold eA;split
 ·exact kS ⟨by omega,by omega⟩ ⟨by omega,by omega⟩ (by simp) hr (qZ ho)
 ·exact kS ⟨by omega,by omega⟩ ⟨by omega,by omega⟩ hn hr (qZ ho)
theorem Xm(x:Nd)(bs:List jF)(hname:x.name.length<=4294967296)(hkl:x.kids.length<=65536)(hk:∀(j:Nat) (k:Int),x.kids[j]? = some k->0<=k/\k<bs.length)(hb:∀b∈bs,b.vals.length<=1024/\∀v∈b.vals,g9 v) :
  aF prog [] 230 [cD x,.sl 0 0 bs.length] [(0,.row 225 2 (encLs bs))] 1 fun r m _=>r=nJ (sI bs x)/\m=[(0,.row 225 2 (encLs bs))]:=by
 obtain⟨kind,name,lo,hi,ws,ls,vals,kids,⟨vk,vn,vs,vks⟩⟩:=x;simp only at hkl hk hname;refine aD bD func230 rfl ?_;refine Rr ?_;refine aZ.at bD (fun a:Nat × List (List aR)=>a.1<=kids.length/\a.2.length<=1024/\(∀r∈a.2,r.length<=a.1/\∀v∈r,g9 v)/\gW bs kids [[]]=gW bs (kids.drop a.1) a.2)
  (fun a=>⟨[(1,.sl 0 0 bs.length),(2,.ptr 1 0 0),(4,.ptr 2 0 0),(5,.sl 3 0 a.2.length),(6,.int .i64 a.1)],[(0,.row 225 2 (encLs bs)),(1,.row 57 12 [cD ⟨kind,name,lo,hi,ws,ls,vals,kids,.mk vk vn vs vks⟩]),(2,.row 225 2 [.agg [.nsl,.bool false]]),(3,.row 53 1 (oZ a.2))],4,91⟩)
  (fun a=>kids.length-a.1) (0,[[]]) [(0,0),(1,1),(2,2),(3,3)] ⟨by simp,by simp,by simp,by simp⟩
  (aE _ rfl ⟨aL 0 (encLs_nn bs),aL 1 (.cons (aV _) .nil),aL 2 dI,⟨3,_,rfl,rfl,.cons (.one rfl rfl (.nil 4)) .nil⟩,trivial⟩ ⟨⟨_,rfl,.sl 0 0 0 _ rfl⟩,aG,aG,⟨_,rfl,.sl 3 3 0 _ rfl⟩,⟨_,rfl,.int rfl⟩,trivial⟩) ?_
 rintro⟨k,rows⟩ ⟨hkk,hrl,hrr,hro⟩;simp only at hkk hrl hrr hro;have hseq:sI bs ⟨kind,name,lo,hi,ws,ls,vals,kids,.mk vk vn vs vks⟩=match gW bs kids [[]] with|none=>⟨[],true⟩|some rows=>⟨fO (rows.map (eA name)),false⟩:=rfl
 refine Rr ?_;refine aH (fun h=>?_) (fun h=>?_)
 ·have hlt:k<kids.length:=by rw[aI] at h;simpa using h
  have e1:(bH kids)[(k:Int).toNat]? = some (.int .i64 kids[k]):=by rw[Yl,bU,Yj hlt];rfl
  have hg:kids[k]? = some kids[k]:=Yj hlt;rw[List.drop_eq_getElem_cons hlt,gW] at hro;generalize kids[k]=q at e1 hg hro;obtain⟨q1,q2⟩:=hk k q hg;obtain⟨qn,rfl⟩:=Y4 q1;have hqn:qn<bs.length:=by omega
  obtain⟨⟨bv,bm⟩,hbe⟩:∃b,b=bs[qn]:=⟨_,rfl⟩
  have hbm:=hb _ (show (⟨bv,bm⟩:jF)∈bs by rw[hbe];exact Y8 hqn);simp only at hbm;have hat:dS bs qn=⟨bv,bm⟩:=by rw[hbe];simp[dS,hqn]
  rw[hat] at hro;simp only at hro;have bq:Nat.blt (qn:Int).toNat bs.length=true:=Yp (by simp;omega);have e2:(encLs bs)[0+(qn:Int).toNat]? = some (nJ ⟨bv,bm⟩):=by rw[ZD,Yl,encLs_get,Yj hqn,←hbe];rfl
  refine Rr ?_;refine aB e1 ?_;refine Rr ?_;repeat((first|refine aM bq ?_|refine aB e2 ?_);refine Rr ?_)
  cases bm with
  | true=>
   refine Rr ?_;exact bF (r':=nJ ⟨[],true⟩) (n':=1) (m':=[(0,.row 225 2 (encLs bs))]) [(0,0)] rfl ⟨aL 0 (encLs_nn bs),trivial⟩ (.agg' (.cons (.nil 4) (.s .nil))) ⟨by rw[hseq,hro,Yt (.inl rfl)],rfl⟩
  | false=>
   refine Rr ?_;have hmul:IntKind.i64.wrap ((rows.length:Int)*((aU bv).length:Nat))=((rows.length*bv.length:Nat):Int):=by
    have hm:rows.length*bv.length<=1024*1024:=Zs hrl hbm.1;rw[aC];exact w64 (by push_cast;rfl) ⟨by omega,by omega⟩
   rw[hmul];refine aH (fun h=>?_) (fun h=>?_)
   ·refine Rr ?_;exact bF (r':=nJ ⟨[],true⟩) (n':=1) (m':=[(0,.row 225 2 (encLs bs))]) [(0,0)] rfl ⟨aL 0 (encLs_nn bs),trivial⟩ (.agg' (.cons (.nil 4) (.s .nil))) ⟨by rw[hseq,hro,Yt (.inr (by simp only[gt_iff_lt,ZA] at h;omega))],rfl⟩
   ·have hle:rows.length*bv.length<=1024:=by simp only[gt_iff_lt,aAf] at h;omega
    rw[Yo (by simp;omega)] at hro;refine Rr ?_;refine aZ.ph 53 1 ?_;refine aZ.at bD (fun i:Nat=>i<=rows.length)
     (fun i=>⟨[(1,.sl 0 0 bs.length),(2,.ptr 1 0 0),(4,.ptr 2 0 0),(5,.sl 3 0 rows.length),(6,.int .i64 k),(7,.ptr 4 0 0),(8,.sl 5 0 (Go.Ax.f7 (rows.take i) bv).length),(9,.int .i64 i)],[(0,.row 225 2 (encLs bs)),(1,.row 57 12 [cD ⟨kind,name,lo,hi,ws,ls,vals,kids,.mk vk vn vs vks⟩]),(2,.row 225 2 [.agg [.nsl,.bool false]]),(3,.row 53 1 (oZ rows)),(4,.row 225 2 [nJ ⟨bv,false⟩]),(5,.row 53 1 (oZ (Go.Ax.f7 (rows.take i) bv)))],6,91⟩)
     (fun i=>rows.length-i) 0 [(0,0),(1,1),(2,2),(3,3),(4,4),(5,5)] (by simp)
     (aE _ rfl ⟨aL 0 (encLs_nn bs),aL 1 (.cons (aV _) .nil),aL 2 dI,aL 3 (j9 _),aL 4 (.cons (oO _) .nil),⟨5,_,rfl,rfl,.nil⟩,trivial⟩ ⟨⟨_,rfl,.sl 0 0 0 _ rfl⟩,aG,aG,⟨_,rfl,.sl 3 3 0 _ rfl⟩,⟨_,rfl,.int rfl⟩,aG,⟨_,rfl,.nslk 5 5 _ rfl rfl⟩,⟨_,rfl,.int rfl⟩,trivial⟩) ?_
    intro i hi0;refine Rr ?_;refine aH (fun h=>?_) (fun h=>?_)
    ·have hir:i<rows.length:=by simpa using h
     obtain⟨rw,hrw⟩:∃rw,rw=rows[i]:=⟨_,rfl⟩
     have hrl2:=(hrr rw (by rw[hrw];exact Y8 hir)).1;have e3:(oZ rows)[0+(i:Int).toNat]? = some (.il 4 (aU rw)):=by rw[ZD,Yl,oZ,ZO,Yj hir,hrw];rfl
     have b3:Nat.blt (i:Int).toNat rows.length=true:=Yp (by simp;omega);refine Rr ?_;refine aZ.at bD (fun j:Nat=>j<=bv.length)
      (fun j=>⟨[(1,.sl 0 0 bs.length),(2,.ptr 1 0 0),(4,.ptr 2 0 0),(5,.sl 3 0 rows.length),(6,.int .i64 k),(7,.ptr 4 0 0),(8,.sl 5 0 (Go.Ax.f7 (rows.take i) bv++(bv.take j).map fun v=>rw++[v]).length),(9,.int .i64 i),(10,.int .i64 j)],[(0,.row 225 2 (encLs bs)),(1,.row 57 12 [cD ⟨kind,name,lo,hi,ws,ls,vals,kids,.mk vk vn vs vks⟩]),(2,.row 225 2 [.agg [.nsl,.bool false]]),(3,.row 53 1 (oZ rows)),(4,.row 225 2 [nJ ⟨bv,false⟩]),(5,.row 53 1 (oZ (Go.Ax.f7 (rows.take i) bv++(bv.take j).map fun v=>rw++[v])))],6,91⟩)
      (fun j=>bv.length-j) 0 [(0,0),(1,1),(2,2),(3,3),(4,4),(5,5)] (by simp)
      (aE _ rfl ⟨aL 0 (encLs_nn bs),aL 1 (.cons (aV _) .nil),aL 2 dI,aL 3 (j9 _),aL 4 (.cons (oO _) .nil),⟨5,_,rfl,rfl,.eq (j9 _) (by simp)⟩,trivial⟩ ⟨⟨_,rfl,.sl 0 0 0 _ rfl⟩,aG,aG,⟨_,rfl,.sl 3 3 0 _ rfl⟩,⟨_,rfl,.int rfl⟩,aG,⟨_,rfl,.slE rfl (by simp)⟩,⟨_,rfl,.int rfl⟩,⟨_,rfl,.int rfl⟩,trivial⟩) ?_
     intro j hj;have hX:(Go.Ax.f7 (rows.take i) bv).length<=1048576:=by
      rw[tP];exact Yw (Zs (show (rows.take i).length<=1024 by simp;omega) hbm.1) (by omega)
     refine Rr ?_;refine aH (fun h=>?_) (fun h=>?_)
     ·have hjl:j<bv.length:=Jw h;obtain⟨p1,p2,p3,p4,pm,pg,pe,ep⟩:=cO (l:=bv) (k:=j) hjl;have hL:Go.Ax.f7 (rows.take i) bv++((bv.take (j+1)).map fun v=>rw++[v])=(Go.Ax.f7 (rows.take i) bv++(bv.take j).map fun v=>rw++[v])++[rw++[.mk p1 p2 p3 p4]]:=by
       rw[Ys hjl,pe];simp
      refine Rr ?_;repeat((first|refine aM b3 ?_|refine aB e3 ?_);refine Rr ?_)
      refine aM (Ad rfl (by rw[aC];omega)) ?_;refine Rr ?_;refine aB ep ?_;refine Rr ?_;refine aM (bT rfl rfl (by simp) (by simp[aC];omega)) ?_;refine Rr ?_;refine aM (bT rfl rfl (by rw[G0]) (by simp;omega)) ?_;refine Rr ?_;exact .mk (j+1) [(0,0),(1,1),(2,2),(3,3),(4,4),(10,5)] (by omega)
       (aE _ rfl ⟨aL 0 (encLs_nn bs),aL 1 (.cons (aV _) .nil),aL 2 dI,aL 3 (j9 _),aL 4 (.cons (oO _) .nil),⟨10,_,rfl,rfl,by rw[hL,Kw];exact .snoc rfl (.same (j9 _)) (.one rfl rfl (.fzR rfl rfl (.eq dI (by rw[i5];rfl)) (by simp[aC])))⟩,trivial⟩ ⟨⟨_,rfl,.sl 0 0 0 _ rfl⟩,aG,aG,⟨_,rfl,.sl 3 3 0 _ rfl⟩,⟨_,rfl,.int rfl⟩,aG,⟨_,rfl,.slE rfl (by rw[hL];simp only[Y1];rfl)⟩,⟨_,rfl,.int rfl⟩,⟨_,rfl,.wo⟩,trivial⟩) (by omega)
     ·have hje:j=bv.length:=by have:bv.length<=j:=JJ h;omega
      refine Rr ?_;exact .mk (i+1) [(0,0),(1,1),(2,2),(3,3),(4,4),(5,5)] (by omega)
       (aE _ rfl ⟨aL 0 (encLs_nn bs),aL 1 (.cons (aV _) .nil),aL 2 dI,aL 3 (j9 _),aL 4 (.cons (oO _) .nil),⟨5,_,rfl,rfl,.eq (j9 _) (by rw[hje,ZB,Ys hir,←hrw];simp[Go.Ax.f7])⟩,trivial⟩ ⟨⟨_,rfl,.sl 0 0 0 _ rfl⟩,aG,aG,⟨_,rfl,.sl 3 3 0 _ rfl⟩,⟨_,rfl,.int rfl⟩,aG,⟨_,rfl,.slE rfl (by rw[hje,ZB,Ys hir,←hrw];simp[Go.Ax.f7])⟩,⟨_,rfl,.wo⟩,trivial⟩) (by omega)
    ·have hie:i=rows.length:=by simp at h;omega
     have hmem:∀r∈Go.Ax.f7 rows bv,r.length<=k+1/\∀v∈r,g9 v:=by
      intro r hr;simp only[Go.Ax.f7,aAH,ZF] at hr;obtain⟨r',hr',v,hv,rfl⟩:=hr;have:=hrr r' hr';refine⟨by simp;omega,fun u hu=>?_⟩;rcases Yz.1 hu with hu|hu
      ·exact this.2 u hu
      ·simp at hu;rw[hu];exact hbm.2 v hv
     refine Rr ?_;exact .mk (k+1,Go.Ax.f7 rows bv) [(0,0),(1,1),(2,2),(5,3)] ⟨by simp only;omega,by rw[tP];exact hle,hmem,hro⟩
      (aE _ rfl ⟨aL 0 (encLs_nn bs),aL 1 (.cons (aV _) .nil),aL 2 dI,⟨5,_,rfl,rfl,.eq (j9 _) (by rw[hie,ZB])⟩,trivial⟩ ⟨⟨_,rfl,.sl 0 0 0 _ rfl⟩,aG,aG,⟨_,rfl,.slE rfl (by rw[hie,ZB])⟩,⟨_,rfl,.w64 (by simp) ⟨by simp only;omega,by simp only;omega⟩⟩,trivial⟩) (by simp only;omega)
 ·have hke:k=kids.length:=by rw[aI] at h;simp at h;omega
  rw[hke,Z6,gW] at hro;refine Rr ?_;refine aZ.ph 55 4 ?_;refine aZ.at bD (fun i:Nat=>i<=rows.length)
   (fun i=>⟨[(2,.ptr 1 0 0),(4,.ptr 2 0 0),(5,.sl 3 0 rows.length),(12,.sl 4 0 ((rows.take i).map (eA name)).length),(13,.int .i64 i)],[(0,.row 225 2 (encLs bs)),(1,.row 57 12 [cD ⟨kind,name,lo,hi,ws,ls,vals,kids,.mk vk vn vs vks⟩]),(2,.row 225 2 [.agg [.nsl,.bool false]]),(3,.row 53 1 (oZ rows)),(4,.row 55 4 (aU ((rows.take i).map (eA name))))],5,91⟩)
   (fun i=>rows.length-i) 0 [(0,0),(1,1),(2,2),(3,3),(4,4)] (by simp)
   (aE _ rfl ⟨aL 0 (encLs_nn bs),aL 1 (.cons (aV _) .nil),aL 2 dI,aL 3 (j9 _),aL 4 .nil,trivial⟩ ⟨aG,aG,⟨_,rfl,.sl 3 3 0 _ rfl⟩,⟨_,rfl,.nslk 4 4 _ rfl rfl⟩,⟨_,rfl,.int rfl⟩,trivial⟩) ?_
  intro i hi0;refine Rr ?_;refine aH (fun h=>?_) (fun h=>?_)
  ·have hir:i<rows.length:=by simpa using h
   obtain⟨rw,hrw⟩:∃rw,rw=rows[i]:=⟨_,rfl⟩
   have e3:(oZ rows)[0+(i:Int).toNat]? = some (.il 4 (aU rw)):=by rw[ZD,Yl,oZ,ZO,Yj hir,hrw];rfl
   have b3:Nat.blt (i:Int).toNat rows.length=true:=Yp (by simp;omega);have hM:=Oq ⟨kind,name,lo,hi,ws,ls,vals,kids,.mk vk vn vs vks⟩ rw;have hL:(rows.take (i+1)).map (eA name)=(rows.take i).map (eA name)++[eA name rw]:=by rw[Ys hir,←hrw];simp
   simp only at hM;obtain⟨⟨m1,m2,m3,m4⟩,hmv⟩:∃mv,mv=eA name rw:=⟨_,rfl⟩
   rw[←hmv] at hM hL;refine Rr ?_;repeat((first|refine bO ?_|refine aM b3 ?_|refine aB e3 ?_);refine Rr ?_)
   refine hM.go ?_ (.cons (aV ⟨kind,name,lo,hi,ws,ls,vals,kids,.mk vk vn vs vks⟩) dI);refine Rr ?_;refine aM (bT rfl rfl (by rw[aC]) (by simp;omega)) ?_;refine Rr ?_;repeat((first|refine bO ?_|refine aM b3 ?_|refine aB e3 ?_);refine Rr ?_)
   exact .mk (i+1) [(0,0),(1,1),(2,2),(3,3),(15,4)] (by omega)
    (aE _ rfl ⟨aL 0 (encLs_nn bs),aL 1 (.cons (aV _) .nil),aL 2 dI,aL 3 (j9 _),⟨15,_,rfl,rfl,.eq dI (by rw[hL,i5];rfl)⟩,trivial⟩ ⟨aG,aG,⟨_,rfl,.sl 3 3 0 _ rfl⟩,⟨_,rfl,.slE rfl (by rw[hL];simp)⟩,⟨_,rfl,.wo⟩,trivial⟩) (by omega)
  ·have hie:i=rows.length:=by simp at h;omega
   rw[hie,ZB];have hmo:∀v∈rows.map (eA name),g9 v:=by
    intro v hv;obtain⟨r,hr,rfl⟩:=ZF.1 hv;have:=hrr r hr;exact Jy hname (by omega) this.2
   have hS:=Uz (rows.map (eA name)) (by simp;omega) hmo;have hseq2:sI bs ⟨kind,name,lo,hi,ws,ls,vals,kids,.mk vk vn vs vks⟩=⟨fO (rows.map (eA name)),false⟩:=by rw[hseq,hro]
   rw[hseq2];generalize rows.map (eA name)=mv at hS ⊢;generalize fO mv=sv at hS ⊢;refine Rr ?_;refine aF.pre bD [(0,0),(1,1),(2,2),(3,3)] (mem':=[(0,.row 225 2 (encLs bs)),(1,.row 57 12 [cD ⟨kind,name,lo,hi,ws,ls,vals,kids,.mk vk vn vs vks⟩]),(2,.row 225 2 [.agg [.nsl,.bool false]]),(3,.row 53 1 (oZ rows))]) (args':=[.il 4 (aU mv)]) rfl
    ⟨aL 0 (encLs_nn bs),aL 1 (.cons (aV _) .nil),aL 2 dI,aL 3 (j9 _),trivial⟩ (.cons (.fz' rfl rfl (by rw[aC];omega) (by rw[ZI];exact Yu (by rw[aC];omega)) dI) .nil) ?_
   refine hS.go ?_;refine Rr ?_;exact bF (r':=nJ ⟨sv,false⟩) (n':=1) (m':=[(0,.row 225 2 (encLs bs))]) [(0,0)] rfl ⟨aL 0 (encLs_nn bs),trivial⟩ (.same _ (oO ⟨sv,false⟩)) ⟨rfl,rfl⟩
set_option maxHeartbeats 8000000
theorem QX(x:Nd)(bs:List jF)(h3:x.kind=3)(hname:x.name.length<=4294967296)(hkl:x.kids.length<=65536)(hk:∀(j:Nat) (k:Int),x.kids[j]? = some k->0<=k/\k<bs.length)(hb:∀b∈bs,b.vals.length<=1024/\∀v∈b.vals,g9 v) :
  aF prog [] 191 [cD x,.sl 0 0 bs.length] [(0,.row 225 2 (encLs bs))] 1 fun r m _=>r=nJ (dR x bs)/\m=[(0,.row 225 2 (encLs bs))]:=by
 have hS:=Xm x bs hname hkl hk hb;have e:dR x bs=sI bs x:=by unfold dR;rw[Yo (by omega),Yo (by omega),Yt h3]
 rw[e];generalize sI bs x=q at hS ⊢;obtain⟨sv,sm⟩:=q;have hnn:=aV x;obtain⟨kind,name,lo,hi,ws,ls,vals,kids,⟨vk,vn,vs,vks⟩⟩:=x;simp only at h3;subst h3;refine aD bD func191 rfl ?_;refine Rr ?_;refine aF.use1 bD hS 0 rfl (encLs_nn bs) (.cons (.same _ hnn) (.cons (.sl 0 0 0 _ rfl) .nil)) ?_;rintro r m n ⟨rfl,rfl⟩;refine⟨_,rfl,oO _,encLs_nn bs, ?_⟩;refine Rr ?_;exact bF (r':=nJ ⟨sv,sm⟩) (n':=1) (m':=[(0,.row 225 2 (encLs bs))]) [(0,0)] rfl ⟨aL 0 (encLs_nn bs),trivial⟩ (.same _ (oO ⟨sv,sm⟩)) ⟨rfl,rfl⟩
theorem UF(i:Nat)(x:Nd)(bs:List jF)(hx:jU i x)(hl:i=bs.length)(hb:Gc bs) :
  aF prog [] 191 [cD x,.sl 0 0 bs.length] [(0,.row 225 2 (encLs bs))] 1 fun r m _=>r=nJ (dR x bs)/\m=[(0,.row 225 2 (encLs bs))]:=by
 subst hl;have hk:=hx.kids;have hn:=cY hx.num;rcases(show x.kind=0∨x.kind=1∨x.kind=2∨x.kind=3∨x.kind=4 by have:=hx.kind;omega) with h|h|h|h|h
 ·exact N3 x bs h
 ·exact K6 x bs h hn.2.1 hn.1 hn.2.2.1 hn.2.2.2
 ·exact Ni x bs h hx.klen hk hb
 ·exact QX x bs h hx.ok.name hx.klen hk hb
 ·exact OK x bs h hx.klen hk hb
abbrev tM(ns:List Nd):aQ:=[(0,.row 57 12 (bG ns))]
theorem wF{l:List Nd}{k n:Nat}(h:k<l.length)(hn:l.length=n):∃x,l[k]? = some x/\l[k]=x/\(bG l)[0+(k:Int).toNat]? = some (cD x)/\Nat.blt (k:Int).toNat n=true:=
 ⟨l[k],Yj h,rfl,by simp[mM,Yj h],Yp (by simp;omega)⟩
theorem Ut(ns:List Nd)(n:Nat)(hn:n<=ns.length)(hl:ns.length<=100000)(hg:∀(i:Nat) (x:Nd),i<n->ns[i]? = some x->jU i x) :
  aF prog [] 127 [.agg [.sl 0 0 ns.length],.int .i64 n] (tM ns) 1 fun r m k=>r = .sl 1 0 n/\m=[(0,.row 57 12 (bG ns)),(1,.row 225 2 (encLs (aO (ns.take n))))]/\k=2:=by
 refine aD bD func127 rfl ?_;refine Rr ?_;refine aZ.ph 225 2 ?_;refine aZ.at bD (fun i:Nat=>i<=n)
  (fun i=>⟨[(1,.int .i64 n),(2,.ptr 1 0 0),(5,.sl 2 0 i),(6,.int .i64 i)],[(0,.row 57 12 (bG ns)),(1,.row 25 1 [.agg [.sl 0 0 ns.length]]),(2,.row 225 2 (encLs (aO (ns.take i))))],3,23⟩)
  (fun i=>n-i) 0 [(0,0),(1,1),(2,2)] (by simp)
  (aE _ rfl ⟨aL 0 (aP _),⟨1,_,rfl,rfl,.cons (.agg (.cons (.sl 0 0 0 _ rfl) .nil)) .nil⟩,aL 2 .nil,trivial⟩ ⟨aK,aG,⟨_,rfl,.nslk 2 2 _ rfl rfl⟩,aK,trivial⟩) ?_
 intro i hi;refine Rr ?_;refine aH (fun h=>?_) (fun h=>?_)
 ·have hin:i<n:=by simp at h;omega
  obtain⟨x,hx1,hx2,ex,bx⟩:=wF (l:=ns) (k:=i) (n:=ns.length) (by omega) rfl;have hgx:=hg i x hin hx1;have htl:(aO (ns.take i)).length=i:=by rw[eH];simp;omega
  have hL:=UF i x (aO (ns.take i)) hgx htl.symm (jY _ fun j y hy=>by
   have hj:=(Yn.1 hy).1;rw[ZJ,Yt (by simp at hj;omega)] at hy;exact hg j y (by simp at hj;omega) hy)
  have hnx:aO (ns.take (i+1))=aO (ns.take i)++[dR x (aO (ns.take i))]:=by rw[Ys (by omega),hx2,iT]
  have hxn:=aV x;have hxc:(cD x).cells.length=12:=by obtain⟨kind,name,lo,hi,ws,ls,vals,kids,⟨vk,vn,vs,vks⟩⟩:=x;rfl
  generalize dR x (aO (ns.take i))=nl at hL hnx;obtain⟨bs,hbs⟩:∃bs,bs=aO (ns.take i):=⟨_,rfl⟩
  rw[←hbs] at hL hnx htl ⊢;obtain⟨kind,name,lo,hi,ws,ls,vals,kids,⟨vk,vn,vs,vks⟩⟩:=x;refine Rr ?_;repeat((first|refine aM bx ?_|refine aB ex ?_);refine Rr ?_)
  refine aF.use1 bD hL 2 rfl (encLs_nn bs) (.cons (.same _ hxn) (.cons (.slE rfl htl.symm) .nil)) ?_;rintro r m k ⟨rfl,rfl⟩;refine⟨_,rfl,oO _,encLs_nn bs, ?_⟩;refine Rr ?_;refine aM (bT rfl rfl (by rw[encLs_length,htl]) (by simp;omega)) ?_;refine Rr ?_;exact .mk (i+1) [(0,0),(1,1),(4,2)] (by omega)
   (aE _ rfl ⟨aL 0 (aP _),⟨1,_,rfl,rfl,.cons (.agg (.cons (.sl 0 0 0 _ rfl) .nil)) .nil⟩,⟨4,_,rfl,rfl,.eq (encLs_nn _) (by rw[hnx];simp[encLs])⟩,trivial⟩ ⟨aK,aG,⟨_,rfl,.slE rfl (by simp)⟩,⟨_,rfl,.wo⟩,trivial⟩) (by omega)
 ·have hin:i=n:=by simp at h;omega
  subst hin;refine Rr ?_;exact bF (r':=.sl 1 0 i) (n':=2) (m':=[(0,.row 57 12 (bG ns)),(1,.row 225 2 (encLs (aO (ns.take i))))]) [(0,0),(2,1)] rfl ⟨aL 0 (aP _),aL 2 (encLs_nn _),trivial⟩ (.sl 2 1 0 _ rfl) ⟨rfl,rfl,rfl⟩
set_option maxHeartbeats 8000000
theorem GO{ns:List Nd}{i:Nat}(hi:i<ns.length):(aO (ns.take (i+1)))[i]? = some (dS (aO (ns.take (i+1))) i):=by
 have:i<(aO (ns.take (i+1))).length:=by rw[eH];simp;omega
 unfold dS;rw[Ym,Yl,Yj this];rfl
theorem LS(ns:List Nd)(i:Nat)(hi:i<ns.length)(hl:ns.length<=100000)(hg:∀(j:Nat) (x:Nd),j<i+1->ns[j]? = some x->jU j x) :
  aF prog [] 69 [.agg [.sl 0 0 ns.length],.int .i64 i] (tM ns) 1 fun r m _=>r = .tup [.il 4 (aU (dS (aO (ns.take (i+1))) i).vals),.bool (!(dS (aO (ns.take (i+1))) i).many)]/\m=tM ns:=by
 have hL:=Ut ns (i+1) (by omega) hl hg;have hw:IntKind.i64.wrap ((i:Int)+1)=((i+1:Nat):Int):=w64 (by omega) ⟨by omega,by omega⟩;have hat:=GO hi;have hlen:(aO (ns.take (i+1))).length=i+1:=by rw[eH];simp;omega
 generalize dS (aO (ns.take (i+1))) i=b at hat ⊢;generalize aO (ns.take (i+1))=bs at hL hat hlen;obtain⟨bv,bm⟩:=b;have e2:(encLs bs)[0+((i:Nat):Int).toNat]? = some (nJ ⟨bv,bm⟩):=by rw[ZD,Yl,encLs_get,hat];rfl
 have b2:Nat.blt ((i:Nat):Int).toNat (i+1)=true:=Yp (by simp);refine aD bD func69 rfl ?_;refine Rr ?_;rw[hw];refine aF.useN bD [(0,0)] hL rfl (.cons (.agg' (.cons (.sl 0 0 0 _ rfl) .nil)) (.s .nil)) ⟨aL 0 (aP _),trivial⟩ rfl ?_;rintro r m k ⟨rfl,rfl,rfl⟩;refine⟨[(0,0),(1,2)],.sl 2 0 (i+1),[(0,.row 57 12 (bG ns)),(2,.row 225 2 (encLs bs))],3,.sl 1 2 0 _ rfl,⟨aL 0 (aP _),aL 1 (encLs_nn _),trivial⟩,rfl, ?_⟩;refine Rr ?_;repeat((first|refine bO ?_|refine aM b2 ?_|refine aB e2 ?_);refine Rr ?_)
 exact bF (r':=.tup [.il 4 (aU bv),.bool (!bm)]) (n':=1) (m':=tM ns) [(0,0)] rfl ⟨aL 0 (aP _),trivial⟩ (.same _ nn) ⟨rfl,rfl⟩
theorem VC(ns:List Nd)(x:Nd)(i:Nat)(hi:i<=ns.length)(hl:ns.length<=100000)(hg:∀(j:Nat) (x:Nd),j<i->ns[j]? = some x->jU j x)(hx:uW x)(hk0:0<x.kids.length)(hk:∀(j:Nat) (k:Int),x.kids[j]? = some k->0<=k/\k<i) :
  aF prog [] 34 [.agg [.sl 0 0 ns.length],cD x] (tM ns) 1 fun r m _=>r = .int .i64 (fK ns x)/\m=tM ns:=by
 obtain⟨q,hq⟩:∃q,x.kids[0]? = some q:=⟨x.kids[0],Yj hk0⟩
 obtain⟨q1,q2⟩:=hk 0 q hq;obtain⟨qn,rfl⟩:=Y4 q1;have hgd:x.kids.getD 0 0=qn:=by rw[Ym,hq];rfl
 have hV:=LS ns qn (by omega) hl fun j y hj hy=>hg j y (by omega) hy
 have hbl:=r8 (jY (ns.take (qn+1)) fun j y hy=>hg j y (by have:=(g7 hy).2;omega) (g7 hy).1) qn;have hbe:fK ns x=if (dS (aO (ns.take (qn+1))) qn).many=true then 4 else if c9 (dS (aO (ns.take (qn+1))) qn).vals x.values=true then 0 else 1:=by
  unfold fK;simp only[hgd,Yl]
 rw[hbe];generalize dS (aO (ns.take (qn+1))) qn=b at hV hbl ⊢;obtain⟨bv,bm⟩:=b;simp only at hV hbl ⊢;have hS:=MZ bv x.values (by omega) hbl.2;generalize c9 bv x.values=sm at hS ⊢;have ek:(bH x.kids)[(0:Int).toNat]? = some (.int .i64 (qn:Int)):=by rw[bU];simp[hq]
 obtain⟨kind,name,lo,hi',ws,ls,vals,kids,⟨vk,vn,vs,vks⟩⟩:=x;simp only at hS ek;refine aD bD func34 rfl ?_;refine Rr ?_;repeat((first|refine bO ?_|refine aB ek ?_);refine Rr ?_)
 refine aF.use1 bD hV 0 rfl (aP _) (.cons (.agg' (.cons (.sl 0 0 0 _ rfl) .nil)) (.s .nil)) ?_;rintro r m k ⟨rfl,rfl⟩;refine⟨_,rfl,nn,aP _, ?_⟩;cases bm with
 | true=>
  refine Rr ?_;repeat((first|refine bO ?_|refine aB ek ?_);refine Rr ?_)
  exact bF (r':=.int .i64 4) (n':=1) (m':=tM ns) [(0,0)] rfl ⟨aL 0 (aP _),trivial⟩ (.same _ nn) ⟨rfl,rfl⟩
 | false=>
  refine Rr ?_;repeat((first|refine bO ?_|refine aB ek ?_);refine Rr ?_)
  refine hS.go ?_;cases sm with
  | true=>
   refine Rr ?_;exact bF (r':=.int .i64 0) (n':=1) (m':=tM ns) [(0,0)] rfl ⟨aL 0 (aP _),trivial⟩ (.same _ nn) ⟨rfl,rfl⟩
  | false=>
   refine Rr ?_;exact bF (r':=.int .i64 1) (n':=1) (m':=tM ns) [(0,0)] rfl ⟨aL 0 (aP _),trivial⟩ (.same _ nn) ⟨rfl,rfl⟩
theorem Ve(ns:List Nd)(hl:ns.length<=100000)(ho:∀x∈ns,uW x/\x.values.length<=4294967290) :
  aF prog [] 8 [.agg [.sl 0 0 ns.length]] (tM ns) 1 fun r m _=>r = .int .i64 (dM ns)/\m=tM ns:=by
 have hfin:∀(e:Int) (mem:aQ) (nx:Nat),lk mem 0=some (.row 57 12 (bG ns))->e=dM ns->qE 1 (fun r m (_:Nat)=>r = .int .i64 (dM ns)/\m=tM ns) (.int .i64 e) mem nx:=by
  intro e mem nx h0 he;exact bF (r':=.int .i64 e) (n':=1) (m':=tM ns) [(0,0)] rfl ⟨⟨0,_,rfl,h0,.same (aP _)⟩,trivial⟩ (.same _ nn) ⟨by rw[he],rfl⟩
 refine aD bD func8 rfl ?_;refine Rr ?_;refine aH (fun h=>?_) (fun h=>?_)
 ·have h1:4096<ns.length:=by simp at h;omega
  refine Rr ?_;exact hfin _ _ _ rfl (by unfold dM;rw[Yt h1])
 ·have h1:¬4096<ns.length:=by simp at h;omega
  have hvt:dM ns=cP [] ns:=by unfold dM;rw[Yo h1]
  refine Rr ?_;refine aZ.ph 3 1 ?_;refine aZ.ph 3 1 ?_;refine aZ.at bD (fun i:Nat=>i<=ns.length/\cP [] (ns.take i)=0)
   (fun i=>⟨[(1,.ptr 1 0 0),(3,.sl 2 0 i),(4,.sl 3 0 i),(5,.int .i64 i)],[(0,.row 57 12 (bG ns)),(1,.row 25 1 [.agg [.sl 0 0 ns.length]]),(2,.row 3 1 (bH (b8 (ns.take i)))),(3,.row 3 1 (bH (cV (ns.take i))))],4,57⟩)
   (fun i=>ns.length-i) 0 [(0,0),(1,1),(2,2),(3,3)] ⟨by simp,by simp[cP]⟩
   (aE _ rfl ⟨aL 0 (aP _),⟨1,_,rfl,rfl,.cons (.agg (.cons (.sl 0 0 0 _ rfl) .nil)) .nil⟩,aL 2 .nil,aL 3 .nil,trivial⟩ ⟨aG,⟨_,rfl,.nslk 2 2 _ rfl rfl⟩,⟨_,rfl,.nslk 3 3 _ rfl rfl⟩,aK,trivial⟩) ?_
  rintro i ⟨hi,hv0⟩;refine Rr ?_;refine aH (fun h=>?_) (fun h=>?_)
  ·have hin:i<ns.length:=by simp at h;omega
   obtain⟨x,hx1,hx2,ex,bx⟩:=wF (l:=ns) (k:=i) (n:=ns.length) hin rfl;have hxm:=Yv hx1;obtain⟨hxo,hxv⟩:=ho x hxm;have hsplit:ns=ns.take i++x::ns.drop (i+1):=by rw[←hx2,←List.drop_eq_getElem_cons hin,List.take_append_drop]
   have hti:(ns.take i).length=i:=by simp;omega
   have htn:ns.take (i+1)=ns.take i++[x]:=by rw[Ys hin,hx2]
   have hgood:=lR (ns.take i) (fun y hy=>(ho y (ZG hy)).1) hv0;obtain⟨hls,hss⟩:=kE (ns.take i) hv0;have hll:(b8 (ns.take i)).length=i:=by rw[kH,hti]
   have hsl:(cV (ns.take i)).length=i:=by rw[kJ,hti]
   have hstop:=fun hs=>vZ (l:=ns.take i) (r:=ns.drop (i+1)) (x:=x) hv0 hs
   rw[←hsplit] at hstop;have hgo:=gF [] (ns.take i) x hv0;rw[ZS,←htn] at hgo;have hN:=To i x (by omega) hxo hxv;have hlt:=lK (ns.take i) x;have hst:=lV (ns.take i) x;rw[←htn] at hlt hst;have hse:iE (ns.take i) (b8 (ns.take i)) (cV (ns.take i)) x=if fS i x≠0 then fS i x else if 256<iJ (b8 (ns.take i)) x∨1024<lP (cV (ns.take i)) x then 4 else if x.kind=4 then fK (ns.take i) x else 0:=by
    unfold iE;rw[hti]
   have hbnd:(0<x.kids.length/\∀(j:Nat) (k:Int),x.kids[j]? = some k->0<=k/\k<i)->fK (ns.take i) x=fK ns x:=by
    rintro⟨h0,hk⟩;obtain⟨q,hq⟩:∃q,x.kids[0]? = some q:=⟨x.kids[0],Yj h0⟩
    obtain⟨q1,q2⟩:=hk 0 q hq;have hgd:x.kids.getD 0 0=q:=by rw[Ym,hq];rfl
    unfold fK;simp only[hgd];rw[aAM,aAm (by omega)]
   have hxn:=aV x;obtain⟨ne,hne⟩:∃ne,ne=fS i x:=⟨_,rfl⟩
   rw[←hne] at hN hse;by_cases n0:ne=0
   ·subst n0;have hok:=mT hne.symm;have h4:4<=x.kind->0<x.kids.length:=fun h=>by have:=hok.bind (by have:=hok.kind;omega);omega
    have hL:=Ju (b8 (ns.take i)) x hxo (by omega) hls (by rw[hll];exact hok.kids) h4 hok.kind;have hS:=QM (cV (ns.take i)) x hxo (by omega) hss (by rw[hsl];exact hok.kids) h4 hok.kind;have hB:=VC ns x i (by omega) hl (fun j y hj hy=>hgood j y (by rw[ZJ,Yt hj];exact hy)) hxo;rw[Yo (by simp)] at hse;generalize b8 (ns.take i)=lsI at hL hll hlt hse hstop hgo hls ⊢;generalize cV (ns.take i)=ssI at hS hsl hst hse hstop hgo hss ⊢;generalize iJ lsI x=ln at hL hlt hse;generalize lP ssI x=sn at hS hst hse;obtain⟨kind,name,lo,hi',ws,ls,vals,kids,⟨vk,vn,vs,vks⟩⟩:=x;simp only at hse h4 hB hbnd hok;refine Rr ?_;repeat((first|refine aM bx ?_|refine aB ex ?_);refine Rr ?_)
    refine hN.go ?_ (.cons (.int _ _) (.cons hxn .nil));refine Rr ?_;refine aF.useApp bD hL 2 rfl (bE _) (.cons (.slE rfl hll.symm) (.cons (.same _ hxn) .nil)) ?_;rintro len ys ⟨rfl,rfl⟩;refine Rr ?_;refine aF.useApp bD hS 3 rfl (bE _) (.cons (.slE rfl hsl.symm) (.cons (.same _ hxn) .nil)) ?_;rintro len ys ⟨rfl,rfl⟩;have el:(bH (lsI++[ln]))[0+((i:Nat):Int).toNat]? = some (.int .i64 ln):=by simp[bH,hll]
    have bl:Nat.blt ((i:Nat):Int).toNat (lsI.length+1)=true:=Yp (by simp;omega);have es:(bH (ssI++[sn]))[0+((i:Nat):Int).toNat]? = some (.int .i64 sn):=by simp[bH,hsl]
    have bs':Nat.blt ((i:Nat):Int).toNat (ssI.length+1)=true:=Yp (by simp;omega);refine Rr ?_;repeat((first|refine aM bl ?_|refine aB el ?_);refine Rr ?_)
    refine aH (fun h2=>?_) (fun h2=>?_)
    ·have h3:256<ln:=by simpa using h2
     rw[h2];rw[Yt (.inl h3)] at hse;have hres:=hstop (by rw[hse];omega);refine Rr ?_;exact hfin _ _ _ rfl (by rw[hvt,hres,hse])
    ·have h3:¬256<ln:=by simpa using h2
     rw[h2];refine Rr ?_;repeat((first|refine aM bs' ?_|refine aB es ?_);refine Rr ?_)
     refine aH (fun h4'=>?_) (fun h4'=>?_)
     ·have h5:1024<sn:=by simpa using h4'
      rw[h4'];rw[Yt (.inr h5)] at hse;have hres:=hstop (by rw[hse];omega);refine Rr ?_;exact hfin _ _ _ rfl (by rw[hvt,hres,hse])
     ·have h5:¬1024<sn:=by simpa using h4'
      rw[h4'];rw[Yo (by omega)] at hse;by_cases k4:kind=4
      ·rw[Yt k4] at hse;have h40:=h4 (by omega);have hB:=hB h40 hok.kids;rw[hbnd ⟨h40,hok.kids⟩] at hse;generalize fK ns ⟨kind,name,lo,hi',ws,ls,vals,kids,.mk vk vn vs vks⟩=be at hB hse;subst k4;refine Rr ?_;refine aF.use1 bD hB 0 rfl (aP _) (.cons (.agg' (.cons (.sl 0 0 0 _ rfl) .nil)) (.cons (.same _ hxn) .nil)) ?_;rintro r m k ⟨rfl,rfl⟩;refine⟨_,rfl,nn,aP _, ?_⟩;by_cases be0:be=0
       ·subst be0;rw[hse] at hgo;refine Rr ?_;exact .mk (i+1) [(0,0),(1,1),(5,2),(6,3)] ⟨by omega,hgo⟩
         (aE _ rfl ⟨aL 0 (aP _),⟨1,_,rfl,rfl,.cons (.agg (.cons (.sl 0 0 0 _ rfl) .nil)) .nil⟩,⟨5,_,rfl,rfl,.eq (bE _) (by rw[hlt])⟩,⟨6,_,rfl,rfl,.eq (bE _) (by rw[hst])⟩,trivial⟩ ⟨aG,⟨_,rfl,.slE rfl (by rw[hll])⟩,⟨_,rfl,.slE rfl (by rw[hsl])⟩,⟨_,rfl,.wo⟩,trivial⟩) (by omega)
       ·have d5:(be != 0)=true:=by simpa using be0
        have hres:=hstop (by rw[hse];exact be0);refine Rr ?_;rw[d5];refine Rr ?_;exact hfin _ _ _ rfl (by rw[hvt,hres,hse])
      ·rw[Yo k4] at hse;have d4:(kind == 4)=false:=by simpa using k4
       rw[hse] at hgo;refine Rr ?_;rw[d4];refine Rr ?_;exact .mk (i+1) [(0,0),(1,1),(5,2),(6,3)] ⟨by omega,hgo⟩
        (aE _ rfl ⟨aL 0 (aP _),⟨1,_,rfl,rfl,.cons (.agg (.cons (.sl 0 0 0 _ rfl) .nil)) .nil⟩,⟨5,_,rfl,rfl,.eq (bE _) (by rw[hlt])⟩,⟨6,_,rfl,rfl,.eq (bE _) (by rw[hst])⟩,trivial⟩ ⟨aG,⟨_,rfl,.slE rfl (by rw[hll])⟩,⟨_,rfl,.slE rfl (by rw[hsl])⟩,⟨_,rfl,.wo⟩,trivial⟩) (by omega)
   ·have d1:(ne != 0)=true:=by simpa using n0
    have hse':=hse;rw[Yt n0] at hse';have hres:=hstop (by rw[hse'];exact n0);rw[hse'] at hres;obtain⟨kind,name,lo,hi',ws,ls,vals,kids,⟨vk,vn,vs,vks⟩⟩:=x;refine Rr ?_;repeat((first|refine aM bx ?_|refine aB ex ?_);refine Rr ?_)
    refine hN.go ?_ (.cons (.int _ _) (.cons hxn .nil));refine Rr ?_;rw[d1];refine Rr ?_;exact hfin _ _ _ rfl (by rw[hvt,hres])
  ·have hin:i=ns.length:=by simp at h;omega
   subst hin;rw[ZB] at hv0;refine Rr ?_;exact hfin _ _ _ rfl (by rw[hvt,hv0])
set_option maxHeartbeats 8000000
def zV:aR:=.mk 0 0 [] []
def IS(v:aR):Nd:=⟨0,[],0,0,[],[],[],[],v⟩
def CW(ns:List Nd)(l:List Int)(i k:Int):Nd:=
 let b:=dS (aO (ns.take ((kidI l i 0).toNat+1))) (kidI l i 0)
 if b.many=true∨6<b.vals.length then IS (yL k) else⟨4,[],0,0,[],[],b.vals,kidI l i 0::(List.range b.vals.length).map fun j:Nat=>kidI l i ((j:Int)+1),zV⟩
theorem qW{l:List Int}{i j:Int}(hi:1<=i):0<=kidI l i j/\kidI l i j<i:=by
 unfold kidI;have hp:=mG (l:=l) (i:=3*i+j+2) (most:=1000000) (by omega);split
 ·exact⟨aAC _ (aAD hp.1 (by omega)),aAx _ (by omega)⟩
 ·have h0:0<=((nF l (3*i+j+2) 1000000).tdiv 3).tmod 3:=aAC _ (aAD hp.1 (by omega));omega
theorem V7(ns:List Nd)(l:List Int)(k:Int)(hl:∀x∈l,i64 x)(h1:1<=ns.length)(h2:ns.length<=1000)(hk0:0<=k)(hk1:k<=1000000)(hg:∀(j:Nat) (x:Nd),ns[j]? = some x->jU j x) :
    aF prog [] 29 [.agg [.sl 0 0 ns.length],.il 1 (bH l),.int .i64 ns.length,.int .i64 k] (tM ns) 1 fun r m _=>r=cD (CW ns l ns.length k)/\m=tM ns:=by
  have hfin:∀(x:Nd) (r:AV) (mem:aQ) (nx:Nat),lk mem 0=some (.row 57 12 (bG ns))->Cv mem [(0,0)] r (cD x)->x=CW ns l ns.length k->qE 1 (fun r m (_:Nat)=>r=cD (CW ns l ns.length k)/\m=tM ns) r mem nx:=by
    intro x r mem nx h0 hr hx;exact bF (r':=cD x) (n':=1) (m':=tM ns) [(0,0)] rfl ⟨⟨0,_,rfl,h0,.same (aP _)⟩,trivial⟩ hr ⟨by rw[hx],rfl⟩
  have hK0:=Ph l ns.length 0 hl (by omega) (by omega) (by omega) (by omega);obtain⟨q1,q2⟩:=qW (l:=l) (i:=(ns.length:Int)) (j:=0) (by omega);obtain⟨q,hq⟩:=Y4 q1;have hb:CW ns l ns.length k=if (dS (aO (ns.take (q+1))) q).many=true∨6<(dS (aO (ns.take (q+1))) q).vals.length then IS (yL k) else⟨4,[],0,0,[],[],(dS (aO (ns.take (q+1))) q).vals,(q:Int)::(List.range (dS (aO (ns.take (q+1))) q).vals.length).map fun j:Nat=>kidI l ns.length ((j:Int)+1),zV⟩:=by
    unfold CW;simp only[hq,Yl]
  have hV:=LS ns q (by omega) (by omega) fun j y _ hy=>hg j y hy
  rw[hq] at hK0;simp only[hb] at hfin ⊢;generalize dS (aO (ns.take (q+1))) q=b at hV hfin ⊢;obtain⟨bv,bm⟩:=b;simp only at hV hfin ⊢;have hLf:=Tq k hk0 hk1;obtain⟨⟨f1,f2,f3,f4⟩,hf⟩:∃f,f=yL k:=⟨_,rfl⟩
  rw[←hf] at hLf hfin ⊢;have hleaf:∀(mem:aQ) (nx:Nat),lk mem 0=some (.row 57 12 (bG ns))->(bm=true∨6<bv.length)->qE 1 (fun r m (_:Nat)=>r=cD (if bm=true∨6<bv.length then IS (.mk f1 f2 f3 f4) else⟨4,[],0,0,[],[],bv,(q:Int)::(List.range bv.length).map fun j:Nat=>kidI l ns.length ((j:Int)+1),zV⟩)/\m=tM ns)
      (.agg [.int .i64 0,.str [],.int .i64 0,.int .i64 0,.nsl,.nsl,.nsl,.nsl,.int .i64 f1,.int .i64 f2,.str f3,.il 4 (aU f4)]) mem nx:=by
    intro mem nx h0 hc;refine hfin (IS (.mk f1 f2 f3 f4)) _ mem nx h0 ?_ (by rw[Yt hc]);exact .agg' (.s (.s (.s (.s (.cons (.nil 1) (.cons (.nil 1) (.cons (.nil 4) (.cons (.nil 1) (.s (.s (.s (.s .nil))))))))))))
  refine aD bD func29 rfl ?_;refine Rr ?_;refine hK0.go ?_;refine Rr ?_;refine aF.use1 bD hV 0 rfl (aP _) (.cons (.agg' (.cons (.sl 0 0 0 _ rfl) .nil)) (.s .nil)) ?_;rintro r m k' ⟨rfl,rfl⟩;refine⟨_,rfl,nn,aP _, ?_⟩;cases bm with
  | true=>
    refine Rr ?_;refine hLf.go ?_;refine Rr ?_;exact hleaf _ _ rfl (.inl rfl)
  | false=>
    refine Rr ?_;refine aH (fun h=>?_) (fun h=>?_)
    · have h6:6<bv.length:=by rw[aC] at h;simp at h;omega
      rw[h];refine Rr ?_;refine hLf.go ?_;refine Rr ?_;exact hleaf _ _ rfl (.inr h6)
    · have h6:¬6<bv.length:=by rw[aC] at h;simp at h;omega
      rw[h];refine Rr ?_;refine aZ.at bD (fun j:Nat=>j<=bv.length)
        (fun j=>⟨[(1,.il 1 (bH l)),(2,.int .i64 ns.length),(8,.ptr 2 0 0),(10,.il 4 (aU bv)),(12,.ptr 3 0 0),(13,.int .i64 j)],
          [(0,.row 57 12 (bG ns)),(2,.row 57 12 [.agg [.int .i64 0,.str [],.int .i64 0,.int .i64 0,.nsl,.nsl,.nsl,.nsl,.int .i64 0,.int .i64 0,.str [],.nsl]]),
           (3,.row 57 12 [.agg [.int .i64 4,.str [],.int .i64 0,.int .i64 0,.nsl,.nsl,.il 4 (aU bv),.sl 4 0 (j+1),.int .i64 0,.int .i64 0,.str [],.nsl]]),(4,.row 3 1 (bH ((q:Int)::(List.range j).map fun j:Nat=>kidI l ns.length ((j:Int)+1))))],5,54⟩)
        (fun j=>bv.length-j) 0 [(0,0),(2,2),(4,3),(3,4)] (by simp)
        (aE _ rfl ⟨aL 0 (aP _),aL 2 dI,⟨4,_,rfl,rfl,.cons (.agg (.s (.s (.s (.s (.s (.s (.s (.cons (.sl 3 4 0 1 rfl) (.s (.s (.s (.s .nil))))))))))))) .nil⟩,⟨3,_,rfl,rfl,.eq (bE _) rfl⟩,trivial⟩
          ⟨aK,aK,aG,aK,aG,aK,trivial⟩) ?_
      intro j hj;refine Rr ?_;refine aH (fun h=>?_) (fun h=>?_)
      · have hjl:j<bv.length:=Jw h
        have hw:IntKind.i64.wrap ((j:Int)+1)=(j:Int)+1:=bA ⟨by omega,by omega⟩;have hKj:=Ph l ns.length ((j:Int)+1) hl (by omega) (by omega) (by omega) (by omega);refine Rr ?_;rw[hw];refine hKj.go ?_;refine Rt ?_;refine aM (bT rfl rfl (by rw[aI];simp) (by simp;omega)) ?_;refine Rt ?_;exact .mk (j+1) [(0,0),(2,2),(3,3),(16,4)] (by omega)
          (aE _ rfl ⟨aL 0 (aP _),aL 2 dI,⟨3,_,rfl,rfl,.cons (.agg (.s (.s (.s (.s (.s (.s (.s (.cons (.slE rfl (by simp)) (.s (.s (.s (.s .nil))))))))))))) .nil⟩,⟨16,_,rfl,rfl,.eq (bE _) (by rw[aBa];simp[bH])⟩,trivial⟩
            ⟨aK,aK,aG,aK,aG,⟨_,rfl,.wo⟩,trivial⟩) (by omega)
      · have hje:j=bv.length:=by have:=JJ h;omega
        subst hje;refine Rr ?_;refine hfin ⟨4,[],0,0,[],[],bv,(q:Int)::(List.range bv.length).map fun j:Nat=>kidI l ns.length ((j:Int)+1),zV⟩ _ _ _ rfl ?_ (by rw[Yo (by simp;omega)]);exact .agg' (.s (.s (.s (.s (.cons (.nil 1) (.cons (.nil 1) (.s (.cons (.fz' (id:=4) rfl rfl (by rw[aI];simp) (by rw[ZI];exact Yu (by rw[aI];simp)) (bE _)) (.s (.s (.s (.cons (.nil 4) .nil))))))))))))
set_option maxHeartbeats 8000000
theorem rQ{α:Type}{p:α->Prop}{l:List α}{y:α}(h:∀x∈l,p x)(hy:p y):∀x∈l++[y],p x:=fun x hx=>by
 rcases Yz.1 hx with hx|hx
 ·exact h x hx
 ·simp at hx;rw[hx];exact hy
theorem NX{ns:List Nd}(hT:lZ ns)(h1:1<=ns.length)(h2:ns.length<=1000){l:List Int}{k:Int}(hk:0<=k):P2 (CW ns l ns.length k):=by
 have z0:i64 0:=⟨by omega,by omega⟩
 unfold CW;simp only;split
 ·have:=Ic k hk;exact pK z0 (by simp) z0 z0 (by simp) (by simp) (by simp) (by simp) (by simp) (by simp) (by simp) (by simp) this.1 (by omega)
 ·rename_i hc;rw[not_or] at hc;have hb:=fun j=>qW (l:=l) (i:=(ns.length:Int)) (j:=j) (by omega)
  obtain⟨q0,q1⟩:=hb 0;have hv:cP [] (ns.take ((kidI l ns.length 0).toNat+1))=0:=jR (r:=ns.drop ((kidI l ns.length 0).toNat+1)) (by rw[List.take_append_drop];exact hT.valid);have ho:∀x∈ns.take ((kidI l ns.length 0).toNat+1),uW x:=fun x hx=>hT.ok x (ZG hx)
  have hs:=H6 _ ho hv (kidI l ns.length 0) q0 (by simp;omega);have hg:=r8 (jY _ (lR _ ho hv)) (kidI l ns.length 0);refine pK ⟨by omega,by omega⟩ (by simp) z0 z0 (by simp) (by simp) (by simp) (by simp) (by omega) (fun v hv=>⟨hg.2 v hv,by have:=hs v hv;omega⟩) (by simp;omega) (fun w hw=>?_) (jS z0 z0) (by simp[zV,bB,bZ]);rcases Yr.1 hw with rfl|hw
  ·exact⟨by omega,by omega⟩
  ·obtain⟨j,_,rfl⟩:=ZF.1 hw;have:=hb ((j:Int)+1);exact⟨by omega,by omega⟩
theorem fR.joinAt{P:Program}{Γ:List (Nat × AV)}{B:Nat}{α:Type}{rest:Code}{Q:Exit->St->Prop}{G:Prop}(hΓ:∀p∈Γ,NN p.2)(R:α->Prop)(J:α->St)
  (h1:(∀(a:α) (s:St) (σ:List (Nat × Nat)),R a->Conv B σ s (J a)->fR P Γ B rest s Q)->G) (h2:∀a,R a->fR P Γ B rest (J a) Q):G:=h1 fun a s σ hr hc=>fR.conv hΓ hc (h2 a hr)
theorem V9(l:List Int)(hl:∀x∈l,i64 x) :
  aF prog [] 6 [.il 1 (bH l)] [] 0 fun r m n=>∃ns:List Nd,lZ ns/\ns.length<=14/\r = .agg [.sl 0 0 ns.length]/\m=tM ns/\n=1:=by
 have z0:i64 0:=⟨by omega,by omega⟩
 have hP0:=Iv l 0 15 hl (by omega);obtain⟨n0,n1⟩:=mG (l:=l) (i:=0) (most:=15) (by omega);generalize nF l 0 15=nn0 at hP0 n0 n1;obtain⟨n,rfl⟩:=Y4 n0;refine aD bD func6 rfl ?_;refine Rr ?_;refine hP0.go ?_;refine Rr ?_;refine aZ.ph 57 12 ?_;refine aZ.at bD (fun ns:List Nd=>lZ ns/\ns.length<=n) (fun ns=>⟨[(0,.il 1 (bH l)),(2,.ptr 0 0 0),(3,.ptr 1 0 0),(4,.int .i64 n),(5,.int .i64 ns.length)],[(0,.row 25 1 [.agg [.nsl]]),(1,.row 25 1 [.agg [.sl 2 0 ns.length]]),(2,.row 57 12 (bG ns))],3,181⟩) (fun ns=>n-ns.length) [] [(0,0),(1,1),(2,2)] ⟨⟨by simp[cP],by simp⟩,by simp⟩
  (aE _ rfl ⟨aL 0 dI,⟨1,_,rfl,rfl,.cons (.agg (.cons (.nslk 2 2 _ rfl rfl) .nil)) .nil⟩,aL 2 .nil,trivial⟩ ⟨aK,aG,aG,aK,aK,trivial⟩) ?_
 rintro ns ⟨hT,hns⟩;refine Rr ?_;refine aH (fun h=>?_) (fun h=>?_)
 ·have hlt:ns.length<n:=by simpa using h
  have hw1:IntKind.i64.wrap (1+(ns.length:Int))=1+(ns.length:Int):=bA ⟨by omega,by omega⟩;have hPk:=Iv l (1+(ns.length:Int)) 1000000 hl (by omega);obtain⟨kk0,kk1⟩:=mG (l:=l) (i:=1+(ns.length:Int)) (most:=1000000) (by omega);generalize nF l (1+(ns.length:Int)) 1000000=kk at hPk kk0 kk1;have m8:=lF kk0 (show (0:Int)<8 by omega);have q8:=C2 kk0 (show (0:Int)<8 by omega);have q80:0<=kk.tdiv 8:=aAD kk0 (by omega);have hw8:IntKind.i64.wrap (kk.tdiv 8)=kk.tdiv 8:=bA ⟨by omega,by omega⟩;have m82:=lF q80 (show (0:Int)<2 by omega);refine Rr ?_;rw[hw1];refine hPk.go ?_
  refine' fR.joinAt (P:=prog) (B:=0) bD (fun kd:Int=>0<=kd/\kd<=4/\(2<=kd->2<=ns.length)) (fun kd=>⟨[(0,.il 1 (bH l)),(2,.ptr 0 0 0),(3,.ptr 1 0 0),(4,.int .i64 n),(5,.int .i64 ns.length),(6,.int .i64 kk),(7,.ptr 3 0 0)],[(0,.row 25 1 [.agg [.nsl]]),(1,.row 25 1 [.agg [.sl 2 0 ns.length]]),(2,.row 57 12 (bG ns)),(3,.row 57 12 [.agg [.int .i64 kd,.str [],.int .i64 0,.int .i64 0,.nsl,.nsl,.nsl,.nsl,.int .i64 0,.int .i64 0,.str [],.nsl]])],4,181⟩) (fun hJ=>?_) (fun kd hkd=>?_)
  rotate_left 2
  ·by_cases hi2:ns.length<2
   ·have d2:decide ((ns.length:Int)<2)=true:=by simp;omega
    refine Rr ?_;rw[d2];refine Rr ?_;rw[hw8];obtain⟨kd,hkd⟩:∃kd,kd=(kk.tdiv 8).tmod 2:=⟨_,rfl⟩
    rw[←hkd] at m82 ⊢;have d5:decide (kd>5)=false:=by simp;omega
    refine Rr ?_;rw[d5]
    conv=>whnf
    refine fR.many ?_
    conv=>whnf
    exact hJ kd _ [(0,0),(1,1),(2,2),(3,3)] ⟨by omega,by omega,by omega⟩ (aE _ rfl ⟨aL 0 dI,⟨1,_,rfl,rfl,.cons (.agg (.cons (.sl 2 2 0 _ rfl) .nil)) .nil⟩,aL 2 (aP _),aL 3 dI,trivial⟩ ⟨aK,aG,aG,aK,aK,aK,aG,trivial⟩)
   ·have d2:decide ((ns.length:Int)<2)=false:=by simp;omega
    refine Rr ?_;rw[d2];refine Rr ?_;have hkd5:(kk.tmod 8 == 5)=false∨(kk.tmod 8 == 5)=true:=by cases (kk.tmod 8 == 5)<;>simp
    rcases hkd5 with e5|e5
    ·have n5:kk.tmod 8≠5:=by simpa using e5
     obtain⟨k8,hk8⟩:∃k8,k8=kk.tmod 8:=⟨_,rfl⟩
     rw[←hk8] at e5 n5 m8 ⊢;rcases(show k8<5∨5<k8 by omega) with k5|k5
     ·have d5:decide (k8>5)=false:=by simp;omega
      rw[e5];refine Rr ?_;rw[d5]
      conv=>whnf
      refine fR.many ?_
      conv=>whnf
      exact hJ k8 _ [(0,0),(1,1),(2,2),(3,3)] ⟨by omega,by omega,by omega⟩ (aE _ rfl ⟨aL 0 dI,⟨1,_,rfl,rfl,.cons (.agg (.cons (.sl 2 2 0 _ rfl) .nil)) .nil⟩,aL 2 (aP _),aL 3 dI,trivial⟩ ⟨aK,aG,aG,aK,aK,aK,aG,trivial⟩)
     ·have d5:decide (k8>5)=true:=by simp;omega
      have hw4:IntKind.i64.wrap (k8-4)=k8-4:=bA ⟨by omega,by omega⟩;rw[e5];refine Rr ?_;rw[d5]
      conv=>whnf
      refine fR.many ?_
      conv=>whnf
      refine nM.many ?_
      conv=>whnf
      rw[hw4];exact hJ (k8-4) _ [(0,0),(1,1),(2,2),(3,3)] ⟨by omega,by omega,by omega⟩ (aE _ rfl ⟨aL 0 dI,⟨1,_,rfl,rfl,.cons (.agg (.cons (.sl 2 2 0 _ rfl) .nil)) .nil⟩,aL 2 (aP _),aL 3 dI,trivial⟩ ⟨aK,aG,aG,aK,aK,aK,aG,trivial⟩)
    ·rw[e5];refine Rr ?_;rw[hw8];obtain⟨kd,hkd⟩:∃kd,kd=(kk.tdiv 8).tmod 2:=⟨_,rfl⟩
     rw[←hkd] at m82 ⊢;have d5:decide (kd>5)=false:=by simp;omega
     refine Rr ?_;rw[d5]
     conv=>whnf
     refine fR.many ?_
     conv=>whnf
     exact hJ kd _ [(0,0),(1,1),(2,2),(3,3)] ⟨by omega,by omega,by omega⟩ (aE _ rfl ⟨aL 0 dI,⟨1,_,rfl,rfl,.cons (.agg (.cons (.sl 2 2 0 _ rfl) .nil)) .nil⟩,aL 2 (aP _),aL 3 dI,trivial⟩ ⟨aK,aG,aG,aK,aK,aK,aG,trivial⟩)
  ·obtain⟨kd0,kd4,kd2⟩:=hkd;refine Rr ?_;refine Oy bD (fun x:Nd=>P2 x) (fun x=>⟨[(0,.il 1 (bH l)),(2,.ptr 0 0 0),(3,.ptr 1 0 0),(4,.int .i64 n),(5,.int .i64 ns.length),(6,.int .i64 kk),(7,.ptr 3 0 0)],[(0,.row 25 1 [.agg [.nsl]]),(1,.row 25 1 [.agg [.sl 2 0 ns.length]]),(2,.row 57 12 (bG ns)),(3,.row 57 12 [cD x])],4,181⟩) (fun Qr hQ=>?_) (fun x hx=>?_)
   ·rcases(show kd=0∨kd=1∨kd=2∨kd=3∨kd=4 by omega) with rfl|rfl|rfl|rfl|rfl
    ·have hLf:=Tq (kk.tdiv 8) (aAD kk0 (by omega)) (by have:=C2 kk0 (show (0:Int)<8 by omega);omega);have hlo:=Ic (kk.tdiv 8) (aAD kk0 (by omega));generalize yL (kk.tdiv 8)=f at hLf hlo;obtain⟨f1,f2,f3,f4⟩:=f;refine Rr ?_;rw[hw8];refine hLf.go ?_;refine Rr ?_;exact hQ (IS (.mk f1 f2 f3 f4)) _ [(0,0),(1,1),(2,2),(3,3)] (pK z0 (by simp) z0 z0 (by simp) (by simp) (by simp) (by simp) (by simp) (by simp) (by simp) (by simp) hlo.1 (by omega)) (aE _ rfl ⟨aL 0 dI,⟨1,_,rfl,rfl,.cons (.agg (.cons (.sl 2 2 0 _ rfl) .nil)) .nil⟩,aL 2 (aP _),⟨3,_,rfl,rfl,.cons (.agg (.s (.s (.s (.s (.cons (.nil 1) (.cons (.nil 1) (.cons (.nil 4) (.cons (.nil 1) (.s (.s (.s (.s .nil))))))))))))) .nil⟩,trivial⟩ ⟨aK,aG,aG,aK,aK,aK,aG,trivial⟩)
    ·refine Rr ?_;refine aH (fun h=>?_) (fun h=>?_)
     ·refine Rr ?_;exact hQ ⟨1,[],_,_,[],[],[],[],zV⟩ _ [(0,0),(1,1),(2,2),(3,3)] (pK ⟨by omega,by omega⟩ (by simp) (M0 _) (M0 _) (by simp) (by simp) (by simp) (by simp) (by simp) (by simp) (by simp) (by simp) (jS z0 z0) (by simp[zV,bB,bZ])) (aE _ rfl ⟨aL 0 dI,⟨1,_,rfl,rfl,.cons (.agg (.cons (.sl 2 2 0 _ rfl) .nil)) .nil⟩,aL 2 (aP _),⟨3,_,rfl,rfl,.cons (.agg (.s (.s (.s (.s (.cons (.nil 1) (.cons (.nil 1) (.cons (.nil 4) (.cons (.nil 1) (.s (.s (.s (.cons (.nil 4) .nil))))))))))))) .nil⟩,trivial⟩ ⟨aK,aG,aG,aK,aK,aK,aG,trivial⟩)
     ·refine Rr ?_;exact hQ ⟨1,[],_,_,[],[],[],[],zV⟩ _ [(0,0),(1,1),(2,2),(3,3)] (pK ⟨by omega,by omega⟩ (by simp) (M0 _) (M0 _) (by simp) (by simp) (by simp) (by simp) (by simp) (by simp) (by simp) (by simp) (jS z0 z0) (by simp[zV,bB,bZ])) (aE _ rfl ⟨aL 0 dI,⟨1,_,rfl,rfl,.cons (.agg (.cons (.sl 2 2 0 _ rfl) .nil)) .nil⟩,aL 2 (aP _),⟨3,_,rfl,rfl,.cons (.agg (.s (.s (.s (.s (.cons (.nil 1) (.cons (.nil 1) (.cons (.nil 4) (.cons (.nil 1) (.s (.s (.s (.cons (.nil 4) .nil))))))))))))) .nil⟩,trivial⟩ ⟨aK,aG,aG,aK,aK,aK,aG,trivial⟩)
    ·refine Rr ?_;rcases(show decide ((IntKind.i64.wrap (kk.tdiv 32)).tmod 3>0)=true∨decide ((IntKind.i64.wrap (kk.tdiv 32)).tmod 3>0)=false by cases decide ((IntKind.i64.wrap (kk.tdiv 32)).tmod 3>0)<;>simp) with hB|hB
     ·have hB:decide ((IntKind.i64.wrap (kk.tdiv 32)).tmod 3>0)=true:=hB;refine aZ.ph 3 1 ?_;refine aZ.ph 3 1 ?_;refine aZ.ph 9 1 ?_;refine aZ.at bD (fun a:List Int × List (List UInt8) × List Int=>a.1.length<=4/\a.2.2.length=a.1.length/\(∀w∈a.1,i64 w)/\(∀w∈a.2.2,i64 w)/\(∀s∈a.2.1,s∈zQ)/\a.2.1.length=a.1.length)
       (fun a=>⟨[(0,.il 1 (bH l)),(2,.ptr 0 0 0),(3,.ptr 1 0 0),(4,.int .i64 n),(5,.int .i64 ns.length),(6,.int .i64 kk),(7,.ptr 3 0 0),(8,.int .i64 a.1.length)],[(0,.row 25 1 [.agg [.nsl]]),(1,.row 25 1 [.agg [.sl 2 0 ns.length]]),(2,.row 57 12 (bG ns)),(3,.row 57 12 [.agg [.int .i64 2,.str [],.int .i64 0,.int .i64 0,.sl 4 0 a.1.length,.sl 6 0 a.1.length,.nsl,.sl 5 0 a.1.length,.int .i64 0,.int .i64 0,.str [],.nsl]]),(4,.row 3 1 (bH a.1)),(5,.row 3 1 (bH a.2.2)),(6,.row 9 1 (rO a.2.1))],7,181⟩)
       (fun a=>4-a.1.length) ([],[],[]) [(0,0),(1,1),(2,2),(3,3),(4,4),(5,5),(6,6)] (by simp)
       (aE _ rfl ⟨aL 0 dI,⟨1,_,rfl,rfl,.cons (.agg (.cons (.sl 2 2 0 _ rfl) .nil)) .nil⟩,aL 2 (aP _),⟨3,_,rfl,rfl,.cons (.agg (.s (.s (.s (.s (.cons (.nslk 4 4 _ rfl rfl) (.cons (.nslk 6 6 _ rfl rfl) (.s (.cons (.nslk 5 5 _ rfl rfl) (.s (.s (.s (.s .nil))))))))))))) .nil⟩,aL 4 .nil,aL 5 .nil,aL 6 .nil,trivial⟩ ⟨aK,aG,aG,aK,aK,aK,aG,aK,trivial⟩) ?_
      rintro⟨wl,ll,kl⟩ ⟨j1,j2,j3,j4,j5,j6⟩;simp only at j1 j2 j3 j4 j5 j6;refine Rr ?_;refine aH (fun h=>?_) (fun h=>?_)
      ·have hjc:wl.length<4:=by rw[hw8] at h;have:=lF q80 (show (0:Int)<4 by omega);simp at h;omega
       have hwj:IntKind.i64.wrap ((ns.length:Int)+(wl.length:Int))=(ns.length:Int)+wl.length:=bA ⟨by omega,by omega⟩;have hPj:=Iv l ((ns.length:Int)+wl.length) 5 hl (by omega);have hPb:=mG (l:=l) (i:=(ns.length:Int)+wl.length) (most:=5) (by omega);generalize nF l ((ns.length:Int)+wl.length) 5=pw at hPj hPb;have hKj:=Ph l ns.length wl.length hl (by omega) (by omega) (by omega) (by omega);have hKb:=qW (l:=l) (i:=(ns.length:Int)) (j:=(wl.length:Int)) (by omega);generalize kidI l ns.length wl.length=kw at hKj hKb;refine Rr ?_;rw[hwj];refine hPj.go ?_;refine Rt ?_;refine aM (bT rfl rfl (by rw[aI]) (by simp;omega)) ?_;refine Rt ?_;refine hKj.go ?_;refine Rt ?_;refine aM (bT rfl rfl (by rw[aI,j2]) (by simp;omega)) ?_;refine Rt ?_;rw[hB];refine Rr ?_;obtain⟨qn,hqn,hqe⟩:∃qn:Nat,qn<4/\(IntKind.i64.wrap ((wl.length:Int)+IntKind.i64.wrap (kk.tdiv 96))).tmod 4=(qn:Int):=by
        have a0:=C2 kk0 (show (0:Int)<96 by omega);have a1:0<=kk.tdiv 96:=aAD kk0 (by omega);have e1:IntKind.i64.wrap (kk.tdiv 96)=kk.tdiv 96:=bA ⟨by omega,by omega⟩;have e2:IntKind.i64.wrap ((wl.length:Int)+kk.tdiv 96)=(wl.length:Int)+kk.tdiv 96:=bA ⟨by omega,by omega⟩;rw[e1,e2];have:=lF (show 0<=(wl.length:Int)+kk.tdiv 96 by omega) (show (0:Int)<4 by omega);exact⟨(((wl.length:Int)+kk.tdiv 96).tmod 4).toNat,by omega,by omega⟩
       obtain⟨sa,hsa,hsm⟩:∃sa,([AV.str [97],AV.str [98],AV.str [99],AV.str [100]])[0+((qn:Nat):Int).toNat]? = some (.str sa)/\sa∈zQ:=by
        rcases(show qn=0∨qn=1∨qn=2∨qn=3 by omega) with rfl|rfl|rfl|rfl
        ·exact⟨[97],rfl,by simp[zQ]⟩
        ·exact⟨[98],rfl,by simp[zQ]⟩
        ·exact⟨[99],rfl,by simp[zQ]⟩
        ·exact⟨[100],rfl,by simp[zQ]⟩
       have bsa:Nat.blt ((qn:Nat):Int).toNat 4=true:=Yp (by simp;omega);rw[hqe];refine Rr ?_;repeat((first|refine bO ?_|refine aM bsa ?_|refine aB hsa ?_);refine Rr ?_)
       refine aM (bT rfl rfl (by rw[bY,j6]) (by simp;omega)) ?_;refine Rr ?_;repeat((first|refine bO ?_|refine aM bsa ?_|refine aB hsa ?_);refine Rr ?_)
       exact .mk (wl++[IntKind.i64.wrap (1+pw)],ll++[sa],kl++[kw]) [(0,0),(1,1),(2,2),(3,3),(19,4),(30,5),(45,6)] ⟨by simp;omega,by simp;omega,rQ j3 (M0 _),rQ j4 ⟨by omega,by omega⟩,rQ j5 hsm,by simp;omega⟩
        (aE _ rfl ⟨aL 0 dI,⟨1,_,rfl,rfl,.cons (.agg (.cons (.sl 2 2 0 _ rfl) .nil)) .nil⟩,aL 2 (aP _),⟨3,_,rfl,rfl,.cons (.agg (.s (.s (.s (.s (.cons (.slE rfl (by simp)) (.cons (.slE rfl (by simp)) (.s (.cons (.slE rfl (by simp)) (.s (.s (.s (.s .nil))))))))))))) .nil⟩,⟨19,_,rfl,rfl,.eq (bE _) (by simp[bH])⟩,⟨30,_,rfl,rfl,.eq (bE _) (by simp[bH])⟩,⟨45,_,rfl,rfl,.eq (oQ _) (by simp[rO])⟩,trivial⟩ ⟨aK,aG,aG,aK,aK,aK,aG,⟨_,rfl,.w64 (by simp) ⟨by simp;omega,by simp;omega⟩⟩,trivial⟩) (by simp;omega)
      ·refine Rr ?_;exact hQ ⟨2,[],0,0,wl,ll,[],kl,zV⟩ _ [(0,0),(1,1),(2,2),(3,3)] (pK ⟨by omega,by omega⟩ (by simp) z0 z0 (by omega) j3 (by omega) j5 (by simp) (by simp) (by omega) j4 (jS z0 z0) (by simp[zV,bB,bZ])) (aE _ rfl ⟨aL 0 dI,⟨1,_,rfl,rfl,.cons (.agg (.cons (.sl 2 2 0 _ rfl) .nil)) .nil⟩,aL 2 (aP _),⟨3,_,rfl,rfl,.cons (.agg (.s (.s (.s (.s (.cons (.fz' (id:=4) rfl rfl (by rw[aI];first|omega|(simp only;omega)) (by rw[ZI];exact Yu (by rw[aI];first|omega|(simp only;omega))) (bE _)) (.cons (.fz' (id:=6) rfl rfl (by rw[bY];first|omega|(simp only;omega)) (by rw[ZI];exact Yu (by rw[bY];first|omega|(simp only;omega))) (oQ _)) (.cons (.nil 4) (.cons (.fz' (id:=5) rfl rfl (by rw[aI];first|omega|(simp only;omega)) (by rw[ZI];exact Yu (by rw[aI];first|omega|(simp only;omega))) (bE _)) (.s (.s (.s (.cons (.nil 4) .nil))))))))))))) .nil⟩,trivial⟩ ⟨aK,aG,aG,aK,aK,aK,aG,trivial⟩)
     ·have hB:decide ((IntKind.i64.wrap (kk.tdiv 32)).tmod 3>0)=false:=hB;refine aZ.ph 3 1 ?_;refine aZ.ph 3 1 ?_;refine aZ.at bD (fun a:List Int × List (List UInt8) × List Int=>a.1.length<=4/\a.2.2.length=a.1.length/\(∀w∈a.1,i64 w)/\(∀w∈a.2.2,i64 w)/\(∀s∈a.2.1,s∈zQ)/\a.2.1.length=0)
       (fun a=>⟨[(0,.il 1 (bH l)),(2,.ptr 0 0 0),(3,.ptr 1 0 0),(4,.int .i64 n),(5,.int .i64 ns.length),(6,.int .i64 kk),(7,.ptr 3 0 0),(8,.int .i64 a.1.length)],[(0,.row 25 1 [.agg [.nsl]]),(1,.row 25 1 [.agg [.sl 2 0 ns.length]]),(2,.row 57 12 (bG ns)),(3,.row 57 12 [.agg [.int .i64 2,.str [],.int .i64 0,.int .i64 0,.sl 4 0 a.1.length,.nsl,.nsl,.sl 5 0 a.1.length,.int .i64 0,.int .i64 0,.str [],.nsl]]),(4,.row 3 1 (bH a.1)),(5,.row 3 1 (bH a.2.2))],6,181⟩)
       (fun a=>4-a.1.length) ([],[],[]) [(0,0),(1,1),(2,2),(3,3),(4,4),(5,5)] (by simp)
       (aE _ rfl ⟨aL 0 dI,⟨1,_,rfl,rfl,.cons (.agg (.cons (.sl 2 2 0 _ rfl) .nil)) .nil⟩,aL 2 (aP _),⟨3,_,rfl,rfl,.cons (.agg (.s (.s (.s (.s (.cons (.nslk 4 4 _ rfl rfl) (.s (.s (.cons (.nslk 5 5 _ rfl rfl) (.s (.s (.s (.s .nil))))))))))))) .nil⟩,aL 4 .nil,aL 5 .nil,trivial⟩ ⟨aK,aG,aG,aK,aK,aK,aG,aK,trivial⟩) ?_
      rintro⟨wl,ll,kl⟩ ⟨j1,j2,j3,j4,j5,j6⟩;simp only at j1 j2 j3 j4 j5 j6;refine Rr ?_;refine aH (fun h=>?_) (fun h=>?_)
      ·have hjc:wl.length<4:=by rw[hw8] at h;have:=lF q80 (show (0:Int)<4 by omega);simp at h;omega
       have hwj:IntKind.i64.wrap ((ns.length:Int)+(wl.length:Int))=(ns.length:Int)+wl.length:=bA ⟨by omega,by omega⟩;have hPj:=Iv l ((ns.length:Int)+wl.length) 5 hl (by omega);have hPb:=mG (l:=l) (i:=(ns.length:Int)+wl.length) (most:=5) (by omega);generalize nF l ((ns.length:Int)+wl.length) 5=pw at hPj hPb;have hKj:=Ph l ns.length wl.length hl (by omega) (by omega) (by omega) (by omega);have hKb:=qW (l:=l) (i:=(ns.length:Int)) (j:=(wl.length:Int)) (by omega);generalize kidI l ns.length wl.length=kw at hKj hKb;refine Rr ?_;rw[hwj];refine hPj.go ?_;refine Rt ?_;refine aM (bT rfl rfl (by rw[aI]) (by simp;omega)) ?_;refine Rt ?_;refine hKj.go ?_;refine Rt ?_;refine aM (bT rfl rfl (by rw[aI,j2]) (by simp;omega)) ?_;refine Rt ?_;rw[hB];refine Rr ?_;exact .mk (wl++[IntKind.i64.wrap (1+pw)],ll,kl++[kw]) [(0,0),(1,1),(2,2),(3,3),(18,4),(29,5)] ⟨by simp;omega,by simp;omega,rQ j3 (M0 _),rQ j4 ⟨by omega,by omega⟩,j5,j6⟩
        (aE _ rfl ⟨aL 0 dI,⟨1,_,rfl,rfl,.cons (.agg (.cons (.sl 2 2 0 _ rfl) .nil)) .nil⟩,aL 2 (aP _),⟨3,_,rfl,rfl,.cons (.agg (.s (.s (.s (.s (.cons (.slE rfl (by simp)) (.s (.s (.cons (.slE rfl (by simp)) (.s (.s (.s (.s .nil))))))))))))) .nil⟩,⟨18,_,rfl,rfl,.eq (bE _) (by simp[bH])⟩,⟨29,_,rfl,rfl,.eq (bE _) (by simp[bH])⟩,trivial⟩ ⟨aK,aG,aG,aK,aK,aK,aG,⟨_,rfl,.w64 (by simp) ⟨by simp;omega,by simp;omega⟩⟩,trivial⟩) (by simp;omega)
      ·refine Rr ?_;obtain rfl:ll=[]:=Zn.1 j6;exact hQ ⟨2,[],0,0,wl,[],[],kl,zV⟩ _ [(0,0),(1,1),(2,2),(3,3)] (pK ⟨by omega,by omega⟩ (by simp) z0 z0 (by omega) j3 (by simp) (by simp) (by simp) (by simp) (by omega) j4 (jS z0 z0) (by simp[zV,bB,bZ])) (aE _ rfl ⟨aL 0 dI,⟨1,_,rfl,rfl,.cons (.agg (.cons (.sl 2 2 0 _ rfl) .nil)) .nil⟩,aL 2 (aP _),⟨3,_,rfl,rfl,.cons (.agg (.s (.s (.s (.s (.cons (.fz' (id:=4) rfl rfl (by rw[aI];first|omega|(simp only;omega)) (by rw[ZI];exact Yu (by rw[aI];first|omega|(simp only;omega))) (bE _)) (.cons (.nil 1) (.cons (.nil 4) (.cons (.fz' (id:=5) rfl rfl (by rw[aI];first|omega|(simp only;omega)) (by rw[ZI];exact Yu (by rw[aI];first|omega|(simp only;omega))) (bE _)) (.s (.s (.s (.cons (.nil 4) .nil))))))))))))) .nil⟩,trivial⟩ ⟨aK,aG,aG,aK,aK,aK,aG,trivial⟩)
    ·obtain⟨qn,hqn,hqe⟩:∃qn:Nat,qn<3/\(IntKind.i64.wrap (kk.tdiv 8)).tmod 3=(qn:Int):=by
      rw[hw8];have:=lF q80 (show (0:Int)<3 by omega);exact⟨((kk.tdiv 8).tmod 3).toNat,by omega,by omega⟩
     obtain⟨nm,hnm,hnl⟩:∃nm,([AV.str [],AV.str [80,97,105,114],AV.str []])[0+((qn:Nat):Int).toNat]? = some (.str nm)/\nm.length<=4:=by
      rcases(show qn=0∨qn=1∨qn=2 by omega) with rfl|rfl|rfl
      ·exact⟨[],rfl,by simp⟩
      ·exact⟨[80,97,105,114],rfl,by simp⟩
      ·exact⟨[],rfl,by simp⟩
     have bnm:Nat.blt ((qn:Nat):Int).toNat 3=true:=Yp (by simp;omega);refine Rr ?_;rw[hqe];refine Rr ?_;repeat((first|refine bO ?_|refine aM bnm ?_|refine aB hnm ?_);refine Rr ?_)
     refine aZ.ph 3 1 ?_;refine aZ.at bD (fun a:List Int=>a.length<=3/\∀w∈a,i64 w)
      (fun a=>⟨[(0,.il 1 (bH l)),(2,.ptr 0 0 0),(3,.ptr 1 0 0),(4,.int .i64 n),(5,.int .i64 ns.length),(6,.int .i64 kk),(7,.ptr 3 0 0),(9,.int .i64 a.length)],[(0,.row 25 1 [.agg [.nsl]]),(1,.row 25 1 [.agg [.sl 2 0 ns.length]]),(2,.row 57 12 (bG ns)),(3,.row 57 12 [.agg [.int .i64 3,.str nm,.int .i64 0,.int .i64 0,.nsl,.nsl,.nsl,.sl 4 0 a.length,.int .i64 0,.int .i64 0,.str [],.nsl]]),(4,.row 3 1 (bH a))],5,181⟩)
      (fun a=>4-a.length) [] [(0,0),(1,1),(2,2),(3,3),(5,4)] (by simp)
      (aE _ rfl ⟨aL 0 dI,⟨1,_,rfl,rfl,.cons (.agg (.cons (.sl 2 2 0 _ rfl) .nil)) .nil⟩,aL 2 (aP _),⟨3,_,rfl,rfl,.cons (.agg (.s (.s (.s (.s (.s (.s (.s (.cons (.nslk 5 4 _ rfl rfl) (.s (.s (.s (.s .nil))))))))))))) .nil⟩,aL 5 .nil,trivial⟩ ⟨aK,aG,aG,aK,aK,aK,aG,aK,trivial⟩) ?_
     rintro kl ⟨j1,j4⟩;refine Rr ?_;refine aH (fun h=>?_) (fun h=>?_)
     ·have hjc:kl.length<3:=by
       have a0:=C2 kk0 (show (0:Int)<24 by omega);have a1:0<=kk.tdiv 24:=aAD kk0 (by omega);have e1:IntKind.i64.wrap (kk.tdiv 24)=kk.tdiv 24:=bA ⟨by omega,by omega⟩;rw[e1] at h;have:=lF a1 (show (0:Int)<4 by omega);simp at h;omega
      have hKj:=Ph l ns.length kl.length hl (by omega) (by omega) (by omega) (by omega);have hKb:=qW (l:=l) (i:=(ns.length:Int)) (j:=(kl.length:Int)) (by omega);generalize kidI l ns.length kl.length=kw at hKj hKb;refine Rr ?_;refine hKj.go ?_;refine Rt ?_;refine aM (bT rfl rfl (by rw[aI]) (by simp;omega)) ?_;refine Rt ?_;exact .mk (kl++[kw]) [(0,0),(1,1),(2,2),(3,3),(15,4)] ⟨by simp;omega,rQ j4 ⟨by omega,by omega⟩⟩
       (aE _ rfl ⟨aL 0 dI,⟨1,_,rfl,rfl,.cons (.agg (.cons (.sl 2 2 0 _ rfl) .nil)) .nil⟩,aL 2 (aP _),⟨3,_,rfl,rfl,.cons (.agg (.s (.s (.s (.s (.s (.s (.s (.cons (.slE rfl (by simp)) (.s (.s (.s (.s .nil))))))))))))) .nil⟩,⟨15,_,rfl,rfl,.eq (bE _) (by simp[bH])⟩,trivial⟩ ⟨aK,aG,aG,aK,aK,aK,aG,⟨_,rfl,.w64 (by simp) ⟨by simp;omega,by simp;omega⟩⟩,trivial⟩) (by simp;omega)
     ·refine Rr ?_;exact hQ ⟨3,nm,0,0,[],[],[],kl,zV⟩ _ [(0,0),(1,1),(2,2),(3,3)] (pK ⟨by omega,by omega⟩ (by omega) z0 z0 (by simp) (by simp) (by simp) (by simp) (by simp) (by simp) (by omega) j4 (jS z0 z0) (by simp[zV,bB,bZ])) (aE _ rfl ⟨aL 0 dI,⟨1,_,rfl,rfl,.cons (.agg (.cons (.sl 2 2 0 _ rfl) .nil)) .nil⟩,aL 2 (aP _),⟨3,_,rfl,rfl,.cons (.agg (.s (.s (.s (.s (.cons (.nil 1) (.cons (.nil 1) (.cons (.nil 4) (.cons (.fz' (id:=4) rfl rfl (by rw[aI];first|omega|(simp only;omega)) (by rw[ZI];exact Yu (by rw[aI];first|omega|(simp only;omega))) (bE _)) (.s (.s (.s (.cons (.nil 4) .nil))))))))))))) .nil⟩,trivial⟩ ⟨aK,aG,aG,aK,aK,aK,aG,trivial⟩)
    ·have hBd:=V7 ns l kk hl (by omega) (by omega) kk0 (by omega) hT.good;have hBg:=NX hT (by omega) (by omega) (l:=l) (k:=kk) kk0;have hns:ns.length<=14:=by omega
     generalize CW ns l ns.length kk=bx at hBd hBg;have hbn:=aV bx;refine Rr ?_;refine aF.use1 bD hBd 2 rfl (aP _) (.cons (.agg' (.cons (.sl 2 0 0 _ rfl) .nil)) (.s (.s (.s .nil)))) ?_;rintro r m k' ⟨rfl,rfl⟩;refine⟨_,rfl,hbn,aP _, ?_⟩;obtain⟨kind,name,lo,hi,ws,ls,vals,kids,⟨vk,vn,vs,vks⟩⟩:=bx;refine Rr ?_;exact hQ ⟨kind,name,lo,hi,ws,ls,vals,kids,.mk vk vn vs vks⟩ _ [(0,0),(1,1),(2,2),(3,3)] hBg (aE _ rfl ⟨aL 0 dI,⟨1,_,rfl,rfl,.cons (.agg (.cons (.sl 2 2 0 _ rfl) .nil)) .nil⟩,aL 2 (aP _),aL 3 (.cons (aV ⟨kind,name,lo,hi,ws,ls,vals,kids,.mk vk vn vs vks⟩) .nil),trivial⟩ ⟨aK,aG,aG,aK,aK,aK,aG,trivial⟩)
   ·have hxn:=aV x;have hV:=Ve (ns++[x]) (by simp;omega) (fun y hy=>by
     rcases Yz.1 hy with hy|hy
     ·have:=hT.gen y hy;exact⟨this.ok,by have:=this.vals;omega⟩
     ·simp at hy;rw[hy];exact⟨hx.ok,by have:=hx.vals;omega⟩)
    have hnn2:=aP (ns++[x]);have eTk:List.take ns.length (List.drop 0 (bG ns))=bG ns:=by rw[ZI];exact Yu (by rw[cG];omega)
    have hxs:bG (ns++[x])=bG ns++[cD x]:=by simp[bG]
    have hsn:=fun h=>hT.snoc (x:=x) (by omega) hx h
    have hw5:=lF kk0 (show (0:Int)<5 by omega);have hlf:=hT.leaf (m:=kk.tmod 5) ⟨by omega,by omega⟩;obtain⟨e,he⟩:∃e,e=dM (ns++[x]):=⟨_,rfl⟩
    rw[←he] at hV hsn;obtain⟨kind,name,lo,hi,ws,ls,vals,kids,⟨vk,vn,vs,vks⟩⟩:=x;refine Rr ?_;refine aM (Ke (by rw[cG];omega)) ?_;rw[eTk];refine Rr ?_;refine aM (Ad rfl (by rw[cG];omega)) ?_;refine Rr ?_;refine aM (bT rfl rfl rfl (by rw[cG];simp;omega)) ?_;refine Rr ?_;refine aF.useN bD [(7,0)] hV rfl (.cons (.agg' (.cons (.slE rfl (by rw[cG];simp)) .nil)) .nil) ⟨⟨7,_,rfl,rfl,.eq hnn2 (by rw[hxs];rfl)⟩,trivial⟩ rfl ?_;rintro r m k' ⟨rfl,rfl⟩;refine⟨[(0,7)],_,[(7,.row 57 12 (bG (ns++[⟨kind,name,lo,hi,ws,ls,vals,kids,.mk vk vn vs vks⟩])))],8,.same _ nn,⟨aL 0 hnn2,trivial⟩,rfl, ?_⟩;by_cases e0:e=0
    ·subst e0;refine Rr ?_;exact .mk (ns++[⟨kind,name,lo,hi,ws,ls,vals,kids,.mk vk vn vs vks⟩]) [(0,0),(1,1),(7,2)] ⟨hsn rfl,by simp;omega⟩
      (aE _ rfl ⟨aL 0 dI,⟨1,_,rfl,rfl,.cons (.agg (.cons (.slE rfl (by rw[cG];simp)) .nil)) .nil⟩,aL 7 hnn2,trivial⟩ ⟨aK,aG,aG,aK,⟨_,rfl,.w64 (by simp) ⟨by simp;omega,by simp;omega⟩⟩,trivial⟩) (by simp;omega)
    ·have de:(e == 0)=false:=by simpa using e0
     refine Rr ?_;rw[de];refine Rr ?_;refine aM (bT rfl rfl (by rw[cG]) (by simp;omega)) ?_;refine Rr ?_;have hlx:bG (ns++[⟨0,[],0,0,[],[],[],[],.mk 0 (kk.tmod 5) [] []⟩])=bG ns++[cD ⟨0,[],0,0,[],[],[],[],.mk 0 (kk.tmod 5) [] []⟩]:=by simp[bG]
     exact .mk (ns++[⟨0,[],0,0,[],[],[],[],.mk 0 (kk.tmod 5) [] []⟩]) [(0,0),(1,1),(9,2)] ⟨hlf,by simp;omega⟩
      (aE _ rfl ⟨aL 0 dI,⟨1,_,rfl,rfl,.cons (.agg (.cons (.slE rfl (by simp)) .nil)) .nil⟩,⟨9,_,rfl,rfl,by rw[hlx];exact .snoc rfl (.same (aP _)) (.agg (.s (.s (.s (.s (.cons (.nil 1) (.cons (.nil 1) (.cons (.nil 4) (.cons (.nil 1) (.s (.s (.s (.cons (.nil 4) .nil)))))))))))))⟩,trivial⟩ ⟨aK,aG,aG,aK,⟨_,rfl,.w64 (by simp) ⟨by simp;omega,by simp;omega⟩⟩,trivial⟩) (by simp;omega)
 ·have hlt:ns.length=n:=by simp at h;omega
  refine Rr ?_;exact bF (r':=.agg [.sl 0 0 ns.length]) (m':=tM ns) (n':=1) [(2,0)] rfl ⟨aL 2 (aP _),trivial⟩ (.agg' (.cons (.sl 2 0 0 _ rfl) .nil)) ⟨ns,hT,by omega,rfl,rfl,rfl⟩
set_option maxHeartbeats 16000000
set_option maxHeartbeats 8000000
theorem V4(x:Nd)(ks:List aR):aT prog [] 216 [.ip (cD x),.il 4 (aU ks)] (cN (eA x.name ks)):=by
 obtain⟨kind,name,lo,hi,ws,ls,vals,kids,⟨vk,vn,vs,vks⟩⟩:=x;refine aD bD func216 rfl ?_;unfold eA;refine Rr ?_;refine aH (fun h=>?_) (fun h=>?_)
 ·have h1:name=[]:=by simpa using h
  rw[Yt h1];refine Rr ?_;exact aA nn ⟨rfl,rfl,rfl⟩
 ·have h1:¬name=[]:=by simpa using h
  rw[Yo h1];refine Rt ?_;exact aA nn ⟨rfl,rfl,rfl⟩
theorem VV(x:Nd)(hx:uW x)(hs:bB x.value<=1048576)(hv:∀v∈x.values,bB v<=1048576)(h0:x.kind=0->x.values=[]):aT prog [] 59 [.ip (cD x)] (.int .i64 (eP (qM x))):=by
 have hV:=Hm x.value hx.value hs;have hvv:=hx.valuesI;have hvl:=hx.values;obtain⟨kind,name,lo,hi,ws,ls,vals,kids,⟨vk,vn,vs,vks⟩⟩:=x;simp only at hV hv h0 hvv hvl;refine aD bD func59 rfl ?_;refine Rr ?_;refine aH (fun h=>?_) (fun h=>?_)
 ·have h1:kind=0:=by simpa using h
  subst h1;have e:eP (qM ⟨0,name,lo,hi,ws,ls,vals,kids,.mk vk vn vs vks⟩)=bP (.mk vk vn vs vks):=by
   rw[h0 rfl];simp only[qM,if_true,ZZ,eP];split
   ·rfl
   ·rename_i h;simpa using (Decidable.not_not.1 h).symm
  rw[e];generalize bP (.mk vk vn vs vks)=z at hV;refine Rr ?_;refine hV.go ?_;refine Rr ?_;exact aA nn ⟨rfl,rfl,rfl⟩
 ·have h1:¬kind=0:=by simpa using h
  have e:qM ⟨kind,name,lo,hi,ws,ls,vals,kids,.mk vk vn vs vks⟩=vals:=by simp[qM,h1]
  rw[e];refine Rr ?_;refine aZ.at bD (fun i:Nat=>i<=vals.length/\eP vals=eP (vals.drop i)) (fun i=>⟨[(19,.il 4 (aU vals)),(20,.int .i64 vals.length),(21,.int .i64 i)],[],0,31⟩) (fun i=>vals.length-i) 0 [] ⟨by simp,by simp⟩
   (bL ⟨aN (.il' (bI _)),⟨_,rfl,.int (by rw[aC])⟩,aK,trivial⟩) ?_
  rintro i ⟨hi,hf⟩;refine Rr ?_;refine aH (fun h=>?_) (fun h=>?_)
  ·have hil:i<vals.length:=by simpa using h
   have ei:(aU vals)[((i:Nat):Int).toNat]? = some (cN vals[i]):=by simp[jE,Yj hil]
   have hm:=Y8 hil;have hV2:=Hm vals[i] (hvv _ hm).1 (hv _ hm);rw[List.drop_eq_getElem_cons hil,eP] at hf;generalize vals[i]=y at ei hV2 hf;generalize bP y=z at hV2 hf;obtain⟨y1,y2,y3,y4⟩:=y;refine Rr ?_;refine aB ei ?_;refine Rr ?_;refine hV2.go ?_;refine Rr ?_;refine aH (fun h2=>?_) (fun h2=>?_)
   ·have e:z≠0:=by simpa using h2
    rw[Yt e] at hf;rw[hf];refine Rr ?_;exact aA nn ⟨rfl,rfl,rfl⟩
   ·have e:¬z≠0:=by simpa using h2
    rw[Yo e] at hf;refine Rr ?_;exact .mk (i+1) [] ⟨by omega,hf⟩ (bL ⟨aN (.il' (bI _)),aK,⟨_,rfl,.wo⟩,trivial⟩) (by omega)
  ·have hil:i=vals.length:=by simp at h;omega
   rw[hil,Z6,eP] at hf;rw[hf];refine Rr ?_;exact aA nn ⟨rfl,rfl,rfl⟩
theorem Uf(x:Nd)(hx:uW x):aT prog [] 60 [.ip (cD x)] (.bool (dT x)):=by
 have b1:=hx.lo;have b2:=hx.hi;have b3:=hx.weights;clear hx;obtain⟨kind,name,lo,hi,ws,ls,vals,kids,⟨vk,vn,vs,vks⟩⟩:=x;simp only[i64] at b1 b2 b3;have hnum:dT ⟨kind,name,lo,hi,ws,ls,vals,kids,.mk vk vn vs vks⟩=(decide (lo<=hi) && decide (-4611686018427387904<=lo) && decide (hi<=4611686018427387904) && decide (hi<lo+1099511627776) && ws.all fun w=>decide (1<=w) && decide (w<=1000)):=rfl;generalize dT ⟨kind,name,lo,hi,ws,ls,vals,kids,.mk vk vn vs vks⟩=res at hnum;have hF:∀P:Prop,(res=true->P)->(¬P)->res=false:=fun P h1 h2=>by
  cases hr:res with
  | false=>rfl
  | true=>exact absurd (h1 hr) h2
 refine aD bD func60 rfl ?_;refine Rt ?_;by_cases h1:lo<=hi
 ·have d1:decide (lo>hi)=false:=by simp;omega
  rw[d1];refine Rt ?_;by_cases h2 : -4611686018427387904<=lo
  ·have d2:decide (lo < -4611686018427387904)=false:=by simp;omega
   rw[d2];refine Rt ?_;by_cases h3:hi<=4611686018427387904
   ·have d3:decide (hi>4611686018427387904)=false:=by simp;omega
    rw[d3];refine Rt ?_;have hw:IntKind.u64.wrap (IntKind.u64.wrap hi-IntKind.u64.wrap lo)=hi-lo:=by rw[Go.Ax.d6,Go.Ax.d6,Go.Ax.d6];omega
    simp only[hw];by_cases h4:hi<lo+1099511627776
    ·have d4:decide (hi-lo≥1099511627776)=false:=by simp;omega
     rw[d4];refine Rr ?_;refine aZ.at bD (fun k:Nat=>k<=ws.length/\∀j w,j<k->ws[j]? = some w->1<=w/\w<=1000)
      (fun k=>⟨[(45,.il 1 (bH ws)),(46,.int .i64 ws.length),(47,.int .i64 k)],[],0,58⟩) (fun k=>ws.length-k) 0 [] ⟨by simp,by simp⟩
      (bL ⟨aN (.il' (bE _)),⟨_,rfl,.int (by rw[aI])⟩,aK,trivial⟩) ?_
     rintro k ⟨hk,hall⟩;refine Rr ?_;refine aH (fun h=>?_) (fun h=>?_)
     ·have hlt:k<ws.length:=by simpa using h
      have e1:(bH ws)[(k:Int).toNat]? = some (.int .i64 ws[k]):=by rw[Yl,bU,Yj hlt];rfl
      have hg:ws[k]? = some ws[k]:=Yj hlt;generalize ws[k]=w at e1 hg;have hbad:(1<=w/\w<=1000->False)->res=false:=fun hb=>hF (1<=w/\w<=1000) (by
       intro e;rw[hnum] at e;simp only[Yk,Z9,ZA] at e;exact e.2 w (Yv hg)) hb
      refine Rr ?_;refine aB e1 ?_;refine Rr ?_;by_cases g1:1<=w
      ·have d1:decide (w<1)=false:=by simp;omega
       rw[d1];refine Rr ?_;refine aH (fun h=>?_) (fun h=>?_)
       ·refine Rr ?_;refine aA nn ⟨?_,rfl,rfl⟩;rw[hbad (by simp at h;omega)]
       ·have g2:w<=1000:=by simpa using h
        refine Rr ?_;refine .mk (k+1) [] ⟨by omega,fun j w2 hj hw2=>?_⟩ (bL ⟨aN (.il' (bE _)),aK,⟨_,rfl,.wo⟩,trivial⟩) (by omega);rcases Y5 j k with hj'|hj'
        ·exact hall j w2 hj' hw2
        ·have hjk:j=k:=by omega
         rw[hjk,hg] at hw2;cases hw2;exact⟨g1,g2⟩
      ·have d1:decide (w<1)=true:=by simp;omega
       rw[d1];refine Rr ?_;refine aA nn ⟨?_,rfl,rfl⟩;rw[hbad (by omega)]
     ·have hk':k=ws.length:=by simp at h;omega
      refine Rr ?_;refine aA nn ⟨?_,rfl,rfl⟩;rw[hnum];congr 1;symm;simp only[Yk,Z9,ZA];refine⟨⟨⟨⟨h1,h2⟩,h3⟩,h4⟩,fun w hw=>?_⟩;obtain⟨j,hj⟩:=ZQ hw;exact hall j w (by rw[hk'];exact(Yn.1 hj).1) hj
    ·have d4:decide (hi-lo≥1099511627776)=true:=by simp;omega
     rw[d4];refine Rr ?_;refine aA nn ⟨?_,rfl,rfl⟩;rw[hF (hi<lo+1099511627776) (by intro e;rw[hnum] at e;simp at e;omega) h4]
   ·have d3:decide (hi>4611686018427387904)=true:=by simp;omega
    rw[d3];refine Rr ?_;refine aA nn ⟨?_,rfl,rfl⟩;rw[hF (hi<=4611686018427387904) (by intro e;rw[hnum] at e;simp at e;omega) h3]
  ·have d2:decide (lo < -4611686018427387904)=true:=by simp;omega
   rw[d2];refine Rr ?_;refine aA nn ⟨?_,rfl,rfl⟩;rw[hF (-4611686018427387904<=lo) (by intro e;rw[hnum] at e;simp at e;omega) h2]
 ·have d1:decide (lo>hi)=true:=by simp;omega
  rw[d1];refine Rr ?_;refine aA nn ⟨?_,rfl,rfl⟩;rw[hF (lo<=hi) (by intro e;rw[hnum] at e;simp at e;omega) h1]
theorem Rw(bs:List Int)(x:Nd)(hx:uW x)(hkl:x.kids.length<=65536)(hb:∀y∈bs,0<=y/\y<=1024)(hk:∀(j:Nat) (k:Int),x.kids[j]? = some k->0<=k/\k<bs.length)(h4:4<=x.kind->0<x.kids.length)(hkind:0<=x.kind/\x.kind<=4) :
  aT prog [] 108 [.ip (cD x),.il 1 (bH bs)] (.int .i64 (iJ bs x)):=by
 have hxn:=aV x;have hat:∀k:Int,0<=eS bs k/\eS bs k<=1024:=fun k=>by
  unfold eS;rw[Ym];cases h:bs[k.toNat]? with
  | none=>simp
  | some y=>exact hb y (Yv h)
 have eat:∀k:Int,0<=k->k<bs.length->(bH bs)[k.toNat]? = some (.int .i64 (eS bs k)):=fun k h0 h1=>by
  have:k.toNat<bs.length:=by omega
  rw[bU,Yj this];unfold eS;rw[Ym,Yj this];rfl
 have hs:=fun l=>jT (b:=bs) (M:=1024) (by omega) hb l
 have hm:=fun l=>iX (b:=bs) (M:=1024) (by omega) hb l
 have hlen:iJ bs x=if x.kind=0 then 0 else if x.kind=1 then 1 else if x.kind=3 then iF bs x.kids else if x.kind=2 then 1+dE bs (Go.Ax.f6 x) else eS bs (x.kids.getD 0 0)+dE bs (Go.Ax.f6 x):=rfl
 have hM:∀k:Nat,k<x.kids.length->(dE bs (if x.kind=2 then x.kids.take (k+1) else(x.kids.take (k+1)).drop 1))=if 0<k∨x.kind=2 then max (dE bs (if x.kind=2 then x.kids.take k else(x.kids.take k).drop 1)) (eS bs (x.kids.getD k 0)) else dE bs (if x.kind=2 then x.kids.take k else(x.kids.take k).drop 1):=fun k hk=>by
  have eg:x.kids.getD k 0=x.kids[k]:=by rw[Ym,Yj hk];rfl
  rw[eg];by_cases e2:x.kind=2
  ·rw[Yt e2,Yt (.inr e2),Yt e2,sV hk]
  ·rw[Yo e2,Yo e2];by_cases e0:0<k
   ·rw[Yt (.inl e0),qJ hk e0]
   ·rw[Yo (by omega)];have:k=0:=by omega
    subst this;simp[dE,Zw]
 obtain⟨kind,name,lo,hi,ws,ls,vals,kids,⟨vk,vn,vs,vks⟩⟩:=x;simp only at hkl hk h4 hkind hlen hM;generalize iJ bs ⟨kind,name,lo,hi,ws,ls,vals,kids,.mk vk vn vs vks⟩=res at hlen;refine aD bD func108 rfl ?_;refine Rr ?_;refine aZ.at bD (fun p:Nat × Int × Int=>p.1<=kids.length/\p.2.1=iF bs (kids.take p.1)/\p.2.2=dE bs (if kind=2 then kids.take p.1 else(kids.take p.1).drop 1))
  (fun p=>⟨[(0,.ip (cD ⟨kind,name,lo,hi,ws,ls,vals,kids,.mk vk vn vs vks⟩)),(1,.il 1 (bH bs)),(5,.int .i64 p.2.1),(6,.int .i64 p.2.2),(12,.il 1 (bH kids)),(13,.int .i64 kids.length),(14,.int .i64 p.1)],[],0,67⟩)
  (fun p=>kids.length-p.1) (0,0,0) [] ⟨by simp,by simp[iF],by simp[dE]⟩
  (bL ⟨aN (.ip _ (hxn.cells.get)),aN (.il' (bE _)),aK,aK,aN (.il' (bE _)),⟨_,rfl,.int (by rw[aI])⟩,aK,trivial⟩) ?_
 rintro⟨k,sum,most⟩ ⟨hkk,hsum,hmost⟩;simp only at hkk hsum hmost ⊢;have bsum:=hs (kids.take k);rw[←hsum] at bsum;have bm:=hm (if kind=2 then kids.take k else(kids.take k).drop 1);rw[←hmost] at bm;have btk:(kids.take k).length<=65536:=by simp;omega
 refine Rr ?_;refine aH (fun h=>?_) (fun h=>?_)
 ·have hlt:k<kids.length:=by simpa using h
  have e1:(bH kids)[(k:Int).toNat]? = some (.int .i64 kids[k]):=by rw[Yl,bU,Yj hlt];rfl
  obtain⟨q0,q1⟩:=hk k _ (Yj hlt);have hst:=xA (b:=bs) hlt;have hM:=hM k hlt;have eg:kids.getD k 0=kids[k]:=by rw[Ym,Yj hlt];rfl
  rw[←hsum] at hst;rw[eg,←hmost] at hM;generalize kids[k]=q at e1 q0 q1 hst hM;obtain⟨q,rfl⟩:=Y4 q0;have e2:=eat q q0 q1;have hq:=hat q;generalize eS bs q=z at e2 hq hst hM;have hw:IntKind.i64.wrap (sum+z)=sum+z:=bA ⟨by omega,by omega⟩;refine Rr ?_;repeat((first|refine aB e1 ?_|refine aB e2 ?_);refine Rr ?_)
  by_cases k0:0<k
  ·have d0:decide ((k:Int)>0)=true:=by simp;omega
   rw[d0];refine Rr ?_;repeat((first|refine aB e1 ?_|refine aB e2 ?_);refine Rr ?_)
   exact .mk (k+1,sum+z,max most z) [] ⟨by simp only;omega,by simp only;rw[hst],by simp only;rw[hM,Yt (.inl k0)]⟩ (bL ⟨aN (.ip _ (hxn.cells.get)),aN (.il' (bE _)),⟨_,rfl,.int (by simp only;exact hw)⟩,⟨_,rfl,.int (by simp only;split<;>omega)⟩,aN (.il' (bE _)),aK,⟨_,rfl,.wp⟩,trivial⟩) (by simp only;omega)
  ·have k0':k=0:=by omega
   have d0:decide ((k:Int)>0)=false:=by simp;omega
   rw[d0];refine Rr ?_;by_cases k2:kind=2
   ·subst k2;refine Rr ?_;repeat((first|refine aB e1 ?_|refine aB e2 ?_);refine Rr ?_)
    exact .mk (k+1,sum+z,max most z) [] ⟨by simp only;omega,by simp only;rw[hst],by show max most z=dE bs (if (2:Int)=2 then kids.take (k+1) else(kids.take (k+1)).drop 1);rw[hM,Yt (.inr rfl)]⟩ (bL ⟨aN (.ip _ (hxn.cells.get)),aN (.il' (bE _)),⟨_,rfl,.int (by simp only;exact hw)⟩,⟨_,rfl,.int (by simp only;split<;>omega)⟩,aN (.il' (bE _)),aK,⟨_,rfl,.wp⟩,trivial⟩) (by simp only;omega)
   ·have d2:(kind == 2)=false:=by simpa using k2
    rw[d2];refine Rr ?_;exact .mk (k+1,sum+z,most) [] ⟨by simp only;omega,by simp only;rw[hst],by simp only;rw[hM,Yo (by omega)]⟩ (bL ⟨aN (.ip _ (hxn.cells.get)),aN (.il' (bE _)),⟨_,rfl,.int (by simp only;exact hw)⟩,aK,aN (.il' (bE _)),aK,⟨_,rfl,.wp⟩,trivial⟩) (by simp only;omega)
 ·have hk':k=kids.length:=by simp at h;omega
  subst hk';rw[ZB] at hsum hmost;have har:Go.Ax.f6 ⟨kind,name,lo,hi,ws,ls,vals,kids,.mk vk vn vs vks⟩=if kind=2 then kids else kids.drop 1:=rfl
  rw[har,←hmost,←hsum] at hlen;rcases(show kind=0∨kind=1∨kind=2∨kind=3∨kind=4 by omega) with rfl|rfl|rfl|rfl|rfl
  ·rw[hlen,Yt rfl];refine Rr ?_;exact aA nn ⟨rfl,rfl,rfl⟩
  ·rw[hlen,Yo (by decide),Yt rfl];refine Rr ?_;exact aA nn ⟨rfl,rfl,rfl⟩
  ·rw[hlen,Yo (by decide),Yo (by decide),Yo (by decide),Yt rfl];refine Rr ?_;rw[bA (n:=1+most) ⟨by omega,by omega⟩];exact aA nn ⟨rfl,rfl,rfl⟩
  ·rw[hlen,Yo (by decide),Yo (by decide),Yt rfl];refine Rr ?_;exact aA nn ⟨rfl,rfl,rfl⟩
  ·rw[hlen,Yo (by decide),Yo (by decide),Yo (by decide),Yo (by decide)];have hlt:0<kids.length:=h4 (by omega);have e1:(bH kids)[(0:Int).toNat]? = some (.int .i64 kids[0]):=by rw[show (0:Int).toNat=0 from rfl,bU,Yj hlt];rfl
   obtain⟨q0,q1⟩:=hk 0 _ (Yj hlt);have eg:kids.getD 0 0=kids[0]:=by rw[Ym,Yj hlt];rfl
   rw[eg];generalize kids[0]=q at e1 q0 q1;obtain⟨q,rfl⟩:=Y4 q0;have e2:=eat q q0 q1;have hq:=hat q;generalize eS bs q=z at e2 hq;refine Rr ?_;repeat((first|refine aB e1 ?_|refine aB e2 ?_);refine Rr ?_)
   rw[bA (n:=z+most) ⟨by omega,by omega⟩];exact aA nn ⟨rfl,rfl,rfl⟩
set_option maxHeartbeats 8000000
mutual
theorem Lm:∀(a b:aR),cE a b=0->a=b
 | .mk k n s ks,.mk k' n' s' ks',h=>by
  simp only[cE,andThen] at h;split at h
  ·rename_i h1;split at h
   ·rename_i h2;split at h
    ·rename_i h3;have e1:k=k':=Decidable.byContradiction fun e=>xZ e h1
     have e2:n=n':=Decidable.byContradiction fun e=>xZ e h2
     rw[e1,e2,p7 h3,MK ks ks' h]
    ·rename_i h3;exact absurd h h3
   ·rename_i h2;exact absurd h h2
  ·rename_i h1;exact absurd h h1
theorem MK:∀(l m:List aR),gP l m=0->l=m
 | [],[],_=>rfl
 | [],_::_,h=>by simp[gP] at h
 | _::_,[],h=>by simp[gP] at h
 | a::l,b::m,h=>by
  simp only[gP,andThen] at h;split at h
  ·rename_i h1;rw[Lm a b h1,MK l m h]
  ·rename_i h1;exact absurd h h1
end
def s8(x:Nd):Bool:=decide (0<=x.kind) && decide (x.kind<=4) && lH x
theorem Cu{v:aR}:iB [] [] [cN v,.agg [.int .i64 0,.int .i64 0,.str [],.nsl]] [cN v,cN (.mk 0 0 [] [])]:=
 .cons (.same _ (dC v)) (.cons (.agg' (.s (.s (.s (.cons (.nil 4) .nil))))) .nil)
theorem UX(x:Nd)(hx:uW x):aT prog [] 57 [.ip (cD x)] (.bool (s8 x)):=by
 have hC:=rU x.value (.mk 0 0 [] []) hx.value;have hz:(cE x.value (.mk 0 0 [] []) == 0)=Er x.value:=by
  obtain⟨k,n,s,ks⟩:=x.value;rw[ZN];simp only[Er,Yk,ZA,beq_iff_eq];constructor
  ·intro h;have:=Lm _ _ h;cases this;simp
  ·rintro⟨⟨⟨rfl,rfl⟩,rfl⟩,h⟩;have:ks=[]:=Zn.1 h;subst this;exact(pW _).refl
 have hres:s8 x=(decide (0<=x.kind) && decide (x.kind<=4) && ((decide (x.kind=0) || Er x.value) && (decide (x.kind=1) || (decide (x.lo=0) && decide (x.hi=0))) && (decide (x.kind=3) || decide (x.name=[])) &&
  (decide (x.kind=2) || (decide (x.weights.length=0) && decide (x.labels.length=0))) && (decide (x.kind=4) || decide (x.values.length=0)) && ((decide (x.kind≠0) && decide (x.kind≠1)) || decide (x.kids.length=0)))):=rfl
 generalize s8 x=res at hres;rw[←hz] at hres;obtain⟨c,hc⟩:∃c,c=cE x.value (.mk 0 0 [] []):=⟨_,rfl⟩
 rw[←hc] at hC hres;clear hz hc hx;obtain⟨kind,name,lo,hi,ws,ls,vals,kids,⟨vk,vn,vs,vks⟩⟩:=x;simp only at hres hC;have eW:(((bH ws).length:Int) == 0)=decide (ws.length=0):=by rw[aI,ZN];simp
 have eL:(((rO ls).length:Int) == 0)=decide (ls.length=0):=by rw[bY,ZN];simp
 have eV:(((aU vals).length:Int) == 0)=decide (vals.length=0):=by rw[aC,ZN];simp
 have eK:(((bH kids).length:Int) == 0)=decide (kids.length=0):=by rw[aI,ZN];simp
 have eN:(name == [])=decide (name=[]):=by rw[ZN];simp
 have e1:(lo == 0)=decide (lo=0):=by rw[ZN];simp
 have e2:(hi == 0)=decide (hi=0):=by rw[ZN];simp
 refine aD bD func57 rfl ?_;rcases(show kind=0∨kind=1∨kind=2∨kind=3∨kind=4∨(kind<0∨4<kind) by omega) with rfl|rfl|rfl|rfl|rfl|hk
 ·refine Rr ?_;rw[e1];generalize decide (lo=0)=b1 at hres ⊢;cases b1 with
  | false=>
   refine Rr ?_;exact aA nn ⟨by rw[hres];simp,rfl,rfl⟩
  | true=>
  refine Rr ?_;rw[e2];generalize decide (hi=0)=b2 at hres ⊢;cases b2 with
  | false=>
   refine Rr ?_;exact aA nn ⟨by rw[hres];simp,rfl,rfl⟩
  | true=>
  refine Rr ?_;rw[eW];generalize decide (ws.length=0)=b3 at hres ⊢;cases b3 with
  | false=>
   refine Rr ?_;exact aA nn ⟨by rw[hres];simp,rfl,rfl⟩
  | true=>
  refine Rr ?_;rw[eL];generalize decide (ls.length=0)=b4 at hres ⊢;cases b4 with
  | false=>
   refine Rr ?_;exact aA nn ⟨by rw[hres];simp,rfl,rfl⟩
  | true=>
  refine Rr ?_;rw[eN];generalize decide (name=[])=b5 at hres ⊢;cases b5 with
  | false=>
   refine Rr ?_;exact aA nn ⟨by rw[hres];simp,rfl,rfl⟩
  | true=>
  refine Rr ?_;rw[eV];generalize decide (vals.length=0)=b6 at hres ⊢;cases b6 with
  | false=>
   refine Rr ?_;exact aA nn ⟨by rw[hres];simp,rfl,rfl⟩
  | true=>
  refine Rr ?_;rw[eK];generalize decide (kids.length=0)=b7 at hres ⊢;cases b7 with
  | false=>
   refine Rr ?_;exact aA nn ⟨by rw[hres];simp,rfl,rfl⟩
  | true=>
  refine Rr ?_;exact aA nn ⟨by rw[hres];simp,rfl,rfl⟩
 ·refine Rr ?_;refine hC.useC bD Cu nn ?_;refine Rr ?_;generalize (c == 0)=b1 at hres ⊢;cases b1 with
  | false=>
   refine Rr ?_;exact aA nn ⟨by rw[hres];simp,rfl,rfl⟩
  | true=>
  refine Rr ?_;rw[eW];generalize decide (ws.length=0)=b2 at hres ⊢;cases b2 with
  | false=>
   refine Rr ?_;exact aA nn ⟨by rw[hres];simp,rfl,rfl⟩
  | true=>
  refine Rr ?_;rw[eL];generalize decide (ls.length=0)=b3 at hres ⊢;cases b3 with
  | false=>
   refine Rr ?_;exact aA nn ⟨by rw[hres];simp,rfl,rfl⟩
  | true=>
  refine Rr ?_;rw[eN];generalize decide (name=[])=b4 at hres ⊢;cases b4 with
  | false=>
   refine Rr ?_;exact aA nn ⟨by rw[hres];simp,rfl,rfl⟩
  | true=>
  refine Rr ?_;rw[eV];generalize decide (vals.length=0)=b5 at hres ⊢;cases b5 with
  | false=>
   refine Rr ?_;exact aA nn ⟨by rw[hres];simp,rfl,rfl⟩
  | true=>
  refine Rr ?_;rw[eK];generalize decide (kids.length=0)=b6 at hres ⊢;cases b6 with
  | false=>
   refine Rr ?_;exact aA nn ⟨by rw[hres];simp,rfl,rfl⟩
  | true=>
  refine Rr ?_;exact aA nn ⟨by rw[hres];simp,rfl,rfl⟩
 ·refine Rr ?_;refine hC.useC bD Cu nn ?_;refine Rr ?_;generalize (c == 0)=b1 at hres ⊢;cases b1 with
  | false=>
   refine Rr ?_;exact aA nn ⟨by rw[hres];simp,rfl,rfl⟩
  | true=>
  refine Rr ?_;rw[e1];generalize decide (lo=0)=b2 at hres ⊢;cases b2 with
  | false=>
   refine Rr ?_;exact aA nn ⟨by rw[hres];simp,rfl,rfl⟩
  | true=>
  refine Rr ?_;rw[e2];generalize decide (hi=0)=b3 at hres ⊢;cases b3 with
  | false=>
   refine Rr ?_;exact aA nn ⟨by rw[hres];simp,rfl,rfl⟩
  | true=>
  refine Rr ?_;rw[eN];generalize decide (name=[])=b4 at hres ⊢;cases b4 with
  | false=>
   refine Rr ?_;exact aA nn ⟨by rw[hres];simp,rfl,rfl⟩
  | true=>
  refine Rr ?_;rw[eV];generalize decide (vals.length=0)=b5 at hres ⊢;cases b5 with
  | false=>
   refine Rr ?_;exact aA nn ⟨by rw[hres];simp,rfl,rfl⟩
  | true=>
  refine Rr ?_;exact aA nn ⟨by rw[hres];simp,rfl,rfl⟩
 ·refine Rr ?_;refine hC.useC bD Cu nn ?_;refine Rr ?_;generalize (c == 0)=b1 at hres ⊢;cases b1 with
  | false=>
   refine Rr ?_;exact aA nn ⟨by rw[hres];simp,rfl,rfl⟩
  | true=>
  refine Rr ?_;rw[e1];generalize decide (lo=0)=b2 at hres ⊢;cases b2 with
  | false=>
   refine Rr ?_;exact aA nn ⟨by rw[hres];simp,rfl,rfl⟩
  | true=>
  refine Rr ?_;rw[e2];generalize decide (hi=0)=b3 at hres ⊢;cases b3 with
  | false=>
   refine Rr ?_;exact aA nn ⟨by rw[hres];simp,rfl,rfl⟩
  | true=>
  refine Rr ?_;rw[eW];generalize decide (ws.length=0)=b4 at hres ⊢;cases b4 with
  | false=>
   refine Rr ?_;exact aA nn ⟨by rw[hres];simp,rfl,rfl⟩
  | true=>
  refine Rr ?_;rw[eL];generalize decide (ls.length=0)=b5 at hres ⊢;cases b5 with
  | false=>
   refine Rr ?_;exact aA nn ⟨by rw[hres];simp,rfl,rfl⟩
  | true=>
  refine Rr ?_;rw[eV];generalize decide (vals.length=0)=b6 at hres ⊢;cases b6 with
  | false=>
   refine Rr ?_;exact aA nn ⟨by rw[hres];simp,rfl,rfl⟩
  | true=>
  refine Rr ?_;exact aA nn ⟨by rw[hres];simp,rfl,rfl⟩
 ·refine Rr ?_;refine hC.useC bD Cu nn ?_;refine Rr ?_;generalize (c == 0)=b1 at hres ⊢;cases b1 with
  | false=>
   refine Rr ?_;exact aA nn ⟨by rw[hres];simp,rfl,rfl⟩
  | true=>
  refine Rr ?_;rw[e1];generalize decide (lo=0)=b2 at hres ⊢;cases b2 with
  | false=>
   refine Rr ?_;exact aA nn ⟨by rw[hres];simp,rfl,rfl⟩
  | true=>
  refine Rr ?_;rw[e2];generalize decide (hi=0)=b3 at hres ⊢;cases b3 with
  | false=>
   refine Rr ?_;exact aA nn ⟨by rw[hres];simp,rfl,rfl⟩
  | true=>
  refine Rr ?_;rw[eW];generalize decide (ws.length=0)=b4 at hres ⊢;cases b4 with
  | false=>
   refine Rr ?_;exact aA nn ⟨by rw[hres];simp,rfl,rfl⟩
  | true=>
  refine Rr ?_;rw[eL];generalize decide (ls.length=0)=b5 at hres ⊢;cases b5 with
  | false=>
   refine Rr ?_;exact aA nn ⟨by rw[hres];simp,rfl,rfl⟩
  | true=>
  refine Rr ?_;rw[eN];generalize decide (name=[])=b6 at hres ⊢;cases b6 with
  | false=>
   refine Rr ?_;exact aA nn ⟨by rw[hres];simp,rfl,rfl⟩
  | true=>
  refine Rr ?_;exact aA nn ⟨by rw[hres];simp,rfl,rfl⟩
 ·rcases hk with hk|hk
  ·have d0:decide (kind≥0)=false:=by simp;omega
   refine Rr ?_;rw[d0];refine Rr ?_;exact aA nn ⟨by rw[hres,ZC (show ¬0<=kind by omega)];simp,rfl,rfl⟩
  ·have d0:decide (kind≥0)=true:=by simp;omega
   have d1:decide (kind<=4)=false:=by simp;omega
   refine Rr ?_;rw[d0];refine Rr ?_;rw[d1];refine Rr ?_;exact aA nn ⟨by rw[hres,d1];simp,rfl,rfl⟩
set_option maxHeartbeats 8000000
theorem S1(ns:List Nd)(i:Nat)(x:Nd)(hl:ns.length<=4294967296)(hi:ns[i]? = some x)(hx:uW x)(hvl:x.values.length<=1000000)(hc:s8 x=true) :
  aT prog [] 58 [.ip (.agg [.il 12 (bG ns),.junk,.junk,.junk]),.int .i64 i] (.bool (dN i x)):=by
 have hil:=(Yn.1 hi).1;have ex:(bG ns)[(i:Int).toNat]? = some (cD x):=by simp[mM,hi]
 have b1:=hx.kids;have hxn:=aV x;have hnn:=aP ns;have hcmp:∀a∈x.values,∀b,aT prog [] 106 [cN a,cN b] (.int .i64 (cE a b)):=fun a ha b=>rU a b (hx.valuesI a ha).1
 have hV:=Hm (.mk 3 0 x.name []) (kS ⟨by omega,by omega⟩ ⟨by omega,by omega⟩ hx.name (by simp) (by simp[rE])) (by simp[bB,bZ]);have hcap:(bP (.mk 3 0 x.name []) == 0)=fU x.name:=by
  simp only[bP,bR,cT,cS,kW,A1,qP,bB,bZ];cases fU x.name<;>simp
 have hres:dN i x=(lH x && (decide (0<=x.kind) && decide (x.kind<=4)) && o8 i x.kids && (decide (x.kind≠2) || (decide (1<=x.kids.length) && decide (x.kids.length<=256) && decide (x.weights.length=x.kids.length) && (decide (x.labels.length=0) || decide (x.labels.length=x.kids.length)))) &&
  (decide (x.kind≠3) || (decide (x.kids.length<=256) && (decide (x.name=[]) || (fU x.name && decide (x.kids.length<=16))))) && (decide (x.kind≠4) || decide (x.kids.length=x.values.length+1)) && eI x.values):=rfl
 simp only[s8,Yk,ZA] at hc;obtain⟨⟨hk0,hk4⟩,hun⟩:=hc;rw[hun,Y0 hk0,Y0 hk4] at hres;have hvs:x.kind≠4->x.values=[]:=fun h=>by
  unfold lH at hun;simp only[Yk,Zy,ZA] at hun;rcases hun.1.2 with h'|h'
  ·exact absurd h' h
  ·exact Zn.1 h'
 generalize dN i x=res at hres;rw[←hcap] at hres;generalize bP (.mk 3 0 x.name [])=cv at hV hres;clear hx hcap hi hun;obtain⟨kind,name,lo,hi,ws,ls,vals,kids,⟨vk,vn,vs,vks⟩⟩:=x;simp only at hres hV hcmp hvs hk0 hk4 b1 hvl;have hF:(res=true->False)->AV.bool false=AV.bool res:=fun h1=>by
  cases hr:res with
  | false=>rfl
  | true=>exact(h1 hr).elim
 refine aD bD func58 rfl ?_;refine Rr ?_;repeat(refine aB ex ?_;refine Rr ?_)
 refine aZ.at bD (fun k:Nat=>k<=kids.length/\∀(j:Nat) (q:Int),j<k->kids[j]? = some q->0<=q/\q<i)
  (fun k=>⟨[(1,.int .i64 i),(5,.ip (cD ⟨kind,name,lo,hi,ws,ls,vals,kids,.mk vk vn vs vks⟩)),(6,.int .i64 kids.length),(24,.il 1 (bH kids)),(25,.int .i64 kids.length),(26,.int .i64 k)],[],0,132⟩) (fun k=>kids.length-k) 0 [] ⟨by simp,by simp⟩
  (bL ⟨aK,aN (.ip _ (hxn.cells.get)),⟨_,rfl,.int (by rw[aI])⟩,aN (.il' (bE _)),⟨_,rfl,.int (by rw[aI])⟩,aK,trivial⟩) ?_
 rintro k ⟨hk,hall⟩;refine Rr ?_;refine aH (fun h=>?_) (fun h=>?_)
 ·have hlt:k<kids.length:=by simpa using h
  have e1:(bH kids)[(k:Int).toNat]? = some (.int .i64 kids[k]):=by rw[Yl,bU,Yj hlt];rfl
  have hg:kids[k]? = some kids[k]:=Yj hlt;generalize kids[k]=q at e1 hg;have hbad:(0<=q/\q<i->False)->AV.bool false=AV.bool res:=fun hb=>hF (by
   intro e;rw[hres] at e;simp only[Yk] at e;exact hb (eZ.1 e.1.1.1.1.2 k q hg))
  refine Rr ?_;refine aB e1 ?_;refine Rr ?_;by_cases g1:0<=q
  ·have d1:decide (q<0)=false:=by simp;omega
   rw[d1];refine Rr ?_;refine aH (fun h=>?_) (fun h=>?_)
   ·refine Rr ?_;exact aA nn ⟨hbad (by simp at h;omega),rfl,rfl⟩
   ·have g2:q<i:=by simpa using h
    refine Rr ?_;refine .mk (k+1) [] ⟨by omega,fun j w2 hj hw2=>?_⟩ (bL ⟨aK,aN (.ip _ (hxn.cells.get)),aK,aN (.il' (bE _)),aK,⟨_,rfl,.wo⟩,trivial⟩) (by omega);rcases Y5 j k with hj'|hj'
    ·exact hall j w2 hj' hw2
    ·have hjk:j=k:=by omega
     rw[hjk,hg] at hw2;cases hw2;exact⟨g1,g2⟩
  ·have d1:decide (q<0)=true:=by simp;omega
   rw[d1];refine Rr ?_;exact aA nn ⟨hbad (by omega),rfl,rfl⟩
 ·have hk':k=kids.length:=by simp at h;omega
  have hkin:o8 i kids=true:=eZ.2 fun j q hj=>hall j q (by rw[hk'];exact(Yn.1 hj).1) hj
  rw[hkin] at hres;clear hall hk hk' h hkin;rcases(show kind=0∨kind=1∨kind=2∨kind=3∨kind=4 by omega) with rfl|rfl|rfl|rfl|rfl
  ·obtain rfl:=hvs (by decide);refine Rr ?_;exact aA nn ⟨by rw[hres];simp[eI],rfl,rfl⟩
  ·obtain rfl:=hvs (by decide);refine Rr ?_;exact aA nn ⟨by rw[hres];simp[eI],rfl,rfl⟩
  ·obtain rfl:=hvs (by decide);have f1:decide ((kids.length:Int)≥1)=decide (1<=kids.length):=by rw[ZN];simp;omega
   have f2:decide ((kids.length:Int)<=256)=decide (kids.length<=256):=by rw[ZN];simp;omega
   have f3:(((bH ws).length:Int) == (kids.length:Int))=decide (ws.length=kids.length):=by rw[aI,ZN];simp;omega
   have f4:(((rO ls).length:Int) == 0)=decide (ls.length=0):=by rw[bY,ZN];simp
   have f5:(((rO ls).length:Int) == (kids.length:Int))=decide (ls.length=kids.length):=by rw[bY,ZN];simp;omega
   refine Rr ?_;rw[f1];generalize decide (1<=kids.length)=b1 at hres ⊢;cases b1 with
   | false=>
    refine Rr ?_;exact aA nn ⟨by rw[hres];simp,rfl,rfl⟩
   | true=>
   refine Rr ?_;rw[f2];generalize decide (kids.length<=256)=b2 at hres ⊢;cases b2 with
   | false=>
    refine Rr ?_;exact aA nn ⟨by rw[hres];simp,rfl,rfl⟩
   | true=>
   refine Rr ?_;rw[f3];generalize decide (ws.length=kids.length)=b3 at hres ⊢;cases b3 with
   | false=>
    refine Rr ?_;exact aA nn ⟨by rw[hres];simp,rfl,rfl⟩
   | true=>
   refine Rr ?_;rw[f4];generalize decide (ls.length=0)=b4 at hres ⊢;cases b4 with
   | true=>
    refine Rr ?_;exact aA nn ⟨by rw[hres];simp[eI],rfl,rfl⟩
   | false=>
    refine Rr ?_;rw[f5];exact aA nn ⟨by rw[hres];simp[eI],rfl,rfl⟩
  ·obtain rfl:=hvs (by decide);have f1:decide ((kids.length:Int)<=16)=decide (kids.length<=16):=by rw[ZN];simp;omega
   have f2:decide ((kids.length:Int)<=256)=decide (kids.length<=256):=by rw[ZN];simp;omega
   refine Rr ?_;refine aH (fun h=>?_) (fun h=>?_)
   ·have hn:name=[]:=by simpa using h
    rw[Y0 hn] at hres;refine Rr ?_;rw[f2];exact aA nn ⟨by rw[hres];simp[eI],rfl,rfl⟩
   ·have hn:¬name=[]:=by simpa using h
    rw[ZC hn] at hres;refine Rr ?_;rw[f1];by_cases g:kids.length<=16
    ·rw[Y0 g] at hres ⊢;rw[Y0 (show kids.length<=256 by omega)] at hres;refine Rr ?_;refine hV.useC bD (.cons (.agg' (.s (.s (.s (.cons (.nil 4) .nil))))) .nil) nn ?_;refine Rr ?_;exact aA nn ⟨by rw[hres];simp[eI],rfl,rfl⟩
    ·rw[ZC g] at hres ⊢;refine Rr ?_;exact aA nn ⟨by rw[hres];simp,rfl,rfl⟩
  ·have hw4:IntKind.i64.wrap ((vals.length:Int)+1)=(vals.length:Int)+1:=w64 rfl ⟨by omega,by omega⟩;refine Rr ?_;refine aZ.at bD (fun k:Nat=>1<=k/\k<=max 1 vals.length/\∀(j:Nat) (a b:aR),j+1<k->vals[j]? = some a->vals[j+1]? = some b->cE a b<0)
    (fun k=>⟨[(5,.ip (cD ⟨4,name,lo,hi,ws,ls,vals,kids,.mk vk vn vs vks⟩)),(6,.int .i64 kids.length),(9,.int .i64 k)],[],0,132⟩) (fun k=>vals.length-k) 1 [] ⟨by omega,by omega,fun j a b h=>by omega⟩
    (bL ⟨aN (.ip _ (hxn.cells.get)),aK,aK,trivial⟩) ?_
   rintro k ⟨hk1,hk2,hall⟩;refine Rr ?_;refine aH (fun h=>?_) (fun h=>?_)
   ·have hlt:k<vals.length:=by rw[aC] at h;simpa using h
    obtain⟨p1,p2,p3,p4,pm,pg,-,ep⟩:=cO (l:=vals) (k:=k-1) (by omega);obtain⟨q1,q2,q3,q4,qm,qg,-,eq⟩:=cO (l:=vals) (k:=k) hlt;have hw1:IntKind.i64.wrap ((k:Int)-1)=((k-1:Nat):Int):=w64 (by omega) ⟨by omega,by omega⟩;have hc:=hcmp _ pm (.mk q1 q2 q3 q4);obtain⟨c,hc0⟩:∃c,c=cE (.mk p1 p2 p3 p4) (.mk q1 q2 q3 q4):=⟨_,rfl⟩
    rw[←hc0] at hc;refine Rt ?_;rw[hw1];refine Rr ?_;repeat((first|refine aB ep ?_|refine aB eq ?_|refine bO ?_);refine Rr ?_)
    refine hc.go ?_;refine Rr ?_;repeat((first|refine aB ep ?_|refine aB eq ?_|refine bO ?_);refine Rr ?_)
    refine aH (fun h=>?_) (fun h=>?_)
    ·refine Rr ?_;refine aA nn ⟨hF ?_,rfl,rfl⟩;intro e;rw[hres] at e;simp only[Yk] at e;have:=mA e.2 (k-1) _ _ pg (by rw[show k-1+1=k by omega];exact qg);rw[←hc0] at this;simp at h;omega
    ·refine Rr ?_;refine .mk (k+1) [] ⟨by omega,by omega,fun j a b hj ha hb=>?_⟩ (bL ⟨aN (.ip _ (hxn.cells.get)),aK,⟨_,rfl,.wo⟩,trivial⟩) (by omega);rcases Y5 (j+1) k with hj'|hj'
     ·exact hall j a b hj' ha hb
     ·have hjk:j=k-1:=by omega
      subst hjk;rw[pg] at ha;rw[show k-1+1=k by omega,qg] at hb;cases ha;cases hb;rw[←hc0];simpa using h
   ·have hlt:vals.length<=k:=by rw[aC] at h;simpa using h
    have hso:eI vals=true:=l7 fun j a b ha hb=>hall j a b (by have:=(Yn.1 hb).1;omega) ha hb
    rw[hso] at hres;refine Rr ?_;rw[aC,hw4];refine aA nn ⟨?_,rfl,rfl⟩;rw[hres];congr 1;rw[ZN];simp;omega
set_option maxHeartbeats 8000000
theorem cL{a b:Bool}(h1:a=true)(h2:b=true):(a && b)=true:=by rw[h1,h2];rfl
theorem wP{n:Nat}{s m:Int}(hn:Nat.ble n 100=true)(hs:0<=s)(h:100*s<=m):decide ((n:Int)*s<=m)=true:=by
 have hn:=Yq hn;have:(n:Int)*s<=100*s:=Int.mul_le_mul_of_nonneg_right (by omega) hs;simp;omega
theorem Rx(a b:List aR)(ha:a.length<=1000000)(hb:b.length<=1000000)(hok:∀v∈a,g9 v) :
  aT prog [] 247 [.il 4 (aU a),.il 4 (aU b)] (.il 4 (aU (fM a b))):=by
 refine aD bD func247 rfl ?_;cases a with
 | nil=>
  rw[Dv];refine Rr ?_;exact aA (.il' (bI _)) ⟨rfl,rfl,rfl⟩
 | cons x l=>
  have d0:(((aU (x::l)).length:Int) == 0)=false:=by rw[aC,beq_eq_false_iff_ne];simp;omega
  obtain⟨a,hae⟩:∃a,a=x::l:=⟨_,rfl⟩
  rw[←hae] at d0 ha hok ⊢;clear hae;refine Rr ?_;rw[d0];have hw:IntKind.i64.wrap (((aU a).length:Int)+((aU b).length:Int))=((aU a).length:Int)+((aU b).length:Int):=bA ⟨by omega,by rw[aC,aC];omega⟩;have hal:(aU a).length<=1000000:=by rw[aC];exact ha
  have hbl:(aU b).length<=1000000:=by rw[aC];exact hb
  refine Rr ?_;rw[hw];refine aM (cL rfl (cL rfl (cL rfl (cL rfl (cL (Y0 (by omega)) (cL (wP rfl (by omega) (by omega)) (Y0 (by omega)))))))) ?_;refine Rr ?_;refine aZ.at bD (fun p:List aR × List aR × List aR=>fM a b=p.1++fM p.2.1 p.2.2/\p.1.length<=2000000-p.2.1.length-p.2.2.length/\p.2.1.length+p.2.2.length<=2000000/\∀v∈p.2.1,g9 v)
   (fun p=>⟨[(0,.il 4 (aU p.2.1)),(1,.il 4 (aU p.2.2)),(5,.sl 0 0 p.1.length)],[(0,.row 55 4 (aU p.1))],1,57⟩) (fun p=>p.2.1.length+p.2.2.length) ([],a,b) [(0,0)] ⟨by simp,by simp,by simp only;omega,hok⟩
   (aE _ rfl ⟨aL 0 .nil,trivial⟩ ⟨aN (.il' (bI _)),aN (.il' (bI _)),⟨_,rfl,.sl 0 0 0 _ rfl⟩,trivial⟩) ?_
  clear hok hw hal hbl d0 ha hb;rintro⟨out,a',b'⟩ ⟨hm,hlen,hle,hok⟩;simp only at hm hlen hle hok ⊢;have eg:∀(z:aR) (r:List aR),decide (((aU (z::r)).length:Int)>0)=true:=fun z r=>by rw[aC];simp
  have W8:∀(z:aR) (r:List aR),((Int.toNat 1).ble (aU (z::r)).length && ((aU (z::r)).length.ble (aU (z::r)).length && (aU (z::r)).length.ble (aU (z::r)).length))=true:=fun z r=>cL (Yp (by rw[aC];simp)) (cL (Yp (Yy _)) (Yp (Yy _)))
  have ec:∀(z:aR) (r:List aR),List.take ((aU (z::r)).length-Int.toNat 1) (List.drop (Int.toNat 1) (aU (z::r)))=aU r:=fun z r=>by
   show List.take ((aU (z::r)).length-1) (aU r)=aU r
   exact Yu (by rw[aC,aC];simp)
  have fin:∀(o p q:List aR) (mem:aQ) (n:Nat) (id:Nat),fM a b=o++p++q->lk mem id=some (.row 55 4 (aU o++aU p++aU q))->qE 0 (fun r m n=>r=AV.il 4 (aU (fM a b))/\m=[]/\n=0) (.sl id 0 (o.length+(aU p).length+(aU q).length)) mem n:=by
   intro o p q mem n id h hl;refine fL (r':=.il 4 (aU (fM a b))) (.fzR hl rfl (.eq (bI _) (by rw[h];simp[jD])) (by rw[h];simp[aC];omega)) ⟨rfl,rfl,rfl⟩
  cases a' with
  | nil=>
   rw[Dv] at hm;refine Rr ?_;refine aM (bT rfl rfl (by simp[aC]) (by simp[aC] at *;omega)) ?_;refine Rr ?_;refine aM (bT rfl rfl (by simp[aC]) (by simp[aC] at *;omega)) ?_;refine Rr ?_;exact fin out [] b' _ _ _ (by simpa using hm) rfl
  | cons x l=>
   cases b' with
   | nil=>
    rw[J7] at hm;refine Rr ?_;rw[eg];refine Rr ?_;refine aM (bT rfl rfl (by simp[aC]) (by simp[aC] at *;omega)) ?_;refine Rr ?_;refine aM (bT rfl rfl (by simp[aC]) (by simp[aC] at *;omega)) ?_;refine Rr ?_;exact fin out (x::l) [] _ _ _ (by simpa using hm) rfl
   | cons y m=>
    rw[Iq] at hm;have hc:=rU x y (hok x (by simp));have hok':∀v∈l,g9 v:=fun v hv=>hok v (by simp[hv])
    obtain⟨c,hc0⟩:∃c,c=cE x y:=⟨_,rfl⟩
    rw[←hc0] at hc hm;clear hc0;obtain⟨x1,x2,x3,x4⟩:=x;obtain⟨y1,y2,y3,y4⟩:=y;refine Rr ?_;rw[eg];refine Rr ?_;rw[eg];refine Rt ?_;refine hc.go ?_;refine Rr ?_;rcases(show c<0∨c=0∨0<c by omega) with hcc|hcc|hcc
    ·have d1:decide (c<=0)=true:=by simp;omega
     have d2:decide (c≥0)=false:=by simp;omega
     rw[Yt hcc] at hm;rw[d1];refine Rt ?_;refine aM (bT rfl rfl (by simp[aC]) (by simp[aC] at *;omega)) ?_;refine Rr ?_;refine aM (W8 _ _) ?_;rw[ec];refine Rr ?_;rw[d2];refine Rr ?_;exact .mk (out++[.mk x1 x2 x3 x4],l,(.mk y1 y2 y3 y4)::m) [(10,0)] ⟨by simpa using hm,by simp at *;omega,by simp at *;omega,hok'⟩ (aE _ rfl ⟨⟨10,_,rfl,rfl,.eq (bI _) (by rw[i5];rfl)⟩,trivial⟩ ⟨aN (.il' (bI _)),aN (.il' (bI _)),⟨_,rfl,.slE rfl (by simp)⟩,trivial⟩) (by first|(simp;done)|(simp;omega))
    ·have d1:decide (c<=0)=true:=by simp;omega
     have d2:decide (c≥0)=true:=by simp;omega
     rw[Yo (by omega),Yt hcc] at hm;rw[d1];refine Rt ?_;refine aM (bT rfl rfl (by simp[aC]) (by simp[aC] at *;omega)) ?_;refine Rr ?_;refine aM (W8 _ _) ?_;rw[ec];refine Rr ?_;rw[d2];refine Rr ?_;refine aM (W8 _ _) ?_;rw[ec];refine Rr ?_;exact .mk (out++[.mk x1 x2 x3 x4],l,m) [(10,0)] ⟨by simpa using hm,by simp at *;omega,by simp at *;omega,hok'⟩ (aE _ rfl ⟨⟨10,_,rfl,rfl,.eq (bI _) (by rw[i5];rfl)⟩,trivial⟩ ⟨aN (.il' (bI _)),aN (.il' (bI _)),⟨_,rfl,.slE rfl (by simp)⟩,trivial⟩) (by first|(simp;done)|(simp;omega))
    ·have d1:decide (c<=0)=false:=by simp;omega
     have d2:decide (c≥0)=true:=by simp;omega
     rw[Yo (by omega),Yo (by omega)] at hm;rw[d1];refine Rt ?_;refine aM (bT rfl rfl (by simp[aC]) (by simp[aC] at *;omega)) ?_;refine Rr ?_;rw[d2];refine Rr ?_;refine aM (W8 _ _) ?_;rw[ec];refine Rr ?_;exact .mk (out++[.mk y1 y2 y3 y4],(.mk x1 x2 x3 x4)::l,m) [(10,0)] ⟨by simpa using hm,by simp at *;omega,by simp at *;omega,hok⟩ (aE _ rfl ⟨⟨10,_,rfl,rfl,.eq (bI _) (by rw[i5];rfl)⟩,trivial⟩ ⟨aN (.il' (bI _)),aN (.il' (bI _)),⟨_,rfl,.slE rfl (by simp)⟩,trivial⟩) (by first|(simp;done)|(simp;omega))
set_option maxHeartbeats 8000000
theorem vX{α β γ:Type}(f:α->β->γ):∀(a:List α) (b:List β) (i:Nat) (x:α) (y:β),b[i]? = some y->List.zipWith f (a.set i x) b=(List.zipWith f a b).set i (f x y)
 | [],b,i,x,y,_=>by simp
 | p::a,[],i,x,y,hy=>by simp at hy
 | p::a,q::b,0,x,y,hy=>by simp at hy;subst hy;simp
 | p::a,q::b,i+1,x,y,hy=>by simp at hy;simp[vX f a b i x y hy]
def kB(kn:List Bool):List AV:=kn.map AV.bool
def lB(L:List jF)(kn:List Bool):List AV:=List.zipWith (fun b (x:jF)=>AV.il 4 (aU (if b=true then x.vals else []))) kn L
def mB(L:List jF)(kn:List Bool):List AV:=List.zipWith (fun b (x:jF)=>AV.bool (b && x.many)) kn L
theorem Au(kn:List Bool):kI (kB kn):=fun a ha=>by
 obtain⟨n,_,rfl⟩:=ZF.1 ha;exact .bool _
theorem MO{α β γ:Type}{f:α->β->γ}{a:List α}{b:List β}{z:γ}(h:z∈List.zipWith f a b):∃x y,z=f x y:=by
 obtain⟨i,hi⟩:=ZQ h;rw[aBl] at hi;split at hi
 ·cases hi;exact⟨_,_,rfl⟩
 ·cases hi
theorem CR(L:List jF)(kn:List Bool):kI (lB L kn):=fun a ha=>by
 obtain⟨x,y,rfl⟩:=MO ha;exact .il' (bI _)
theorem Ay(L:List jF)(kn:List Bool):kI (mB L kn):=fun a ha=>by
 obtain⟨x,y,rfl⟩:=MO ha;exact .bool _
theorem AG{L:List jF}{i:Nat}(h:i<L.length):L[i]? = some (dS L i):=by
 unfold dS;rw[Ym,Yl,Yj h];rfl
theorem Pv{kn:List Bool}{i:Nat}{b:Bool}(h:kn[i]? = some b):(kB kn)[i]? = some (.bool b):=by simp[kB,h]
theorem QK{L:List jF}{kn:List Bool}{i:Nat}{b:Bool}(h:kn[i]? = some b)(hl:i<L.length):(lB L kn)[i]? = some (.il 4 (aU (if b=true then(dS L i).vals else []))):=by
 simp[lB,aBl,h,AG hl]
theorem Qj{L:List jF}{kn:List Bool}{i:Nat}{b:Bool}(h:kn[i]? = some b)(hl:i<L.length):(mB L kn)[i]? = some (.bool (b && (dS L i).many)):=by
 simp[mB,aBl,h,AG hl]
theorem VH(kn:List Bool)(i:Nat)(b:Bool):kB (kn.set i b)=(kB kn).set i (.bool b):=by simp[kB,aA6]
theorem VE{L:List jF}(kn:List Bool){i:Nat}(hl:i<L.length):lB L (kn.set i true)=(lB L kn).set i (.il 4 (aU (dS L i).vals)):=by
 unfold lB;rw[vX _ kn L i true _ (AG hl)];simp
theorem Vh{L:List jF}(kn:List Bool){i:Nat}(hl:i<L.length):mB L (kn.set i true)=(mB L kn).set i (.bool (dS L i).many):=by
 unfold mB;rw[vX _ kn L i true _ (AG hl)];simp
def sM(ns:List Nd)(kn:List Bool):aQ:=[(0,.row 195 4 [.agg [.il 12 (bG ns),.sl 1 0 ns.length,.sl 2 0 ns.length,.sl 3 0 ns.length]]),(1,.row 4 1 (kB kn)),(2,.row 53 1 (lB (aO ns) kn)),(3,.row 4 1 (mB (aO ns) kn))]
def uQ(ns:List Nd)(l:jF):AV->aQ->Nat->Prop:=fun r m k=>∃kn,kn.length=ns.length/\r = .tup [.il 4 (aU l.vals),.bool (!l.many)]/\m=sM ns kn/\k=4
def sQ(ns:List Nd)(i:Nat):AV->aQ->Nat->Prop:=uQ ns (dS (aO ns) i)
theorem HV{mem:aQ}{σ:List (Nat × Nat)}{ns:List Nd}{N a b c a' b' c':Nat}(h1:lk σ a=some a')(h2:lk σ b=some b')(h3:lk σ c=some c') :
  tL mem σ [.agg [.il 12 (bG ns),.sl a 0 N,.sl b 0 N,.sl c 0 N]] [.agg [.il 12 (bG ns),.sl a' 0 N,.sl b' 0 N,.sl c' 0 N]]:=
 .cons (.agg (.cons (.same _ (.il' (aP _))) (.cons (.sl a a' 0 N h1) (.cons (.sl b b' 0 N h2) (.cons (.sl c c' 0 N h3) .nil))))) .nil
theorem gM(ns:List Nd)(kn:List Bool):dV (sM ns kn) (rX [0,1,2,3]) (sM ns kn):=
 ⟨⟨0,_,rfl,rfl,HV rfl rfl rfl⟩,aL 1 (Au _),aL 2 (CR _ _),aL 3 (Ay _ _),trivial⟩
theorem X3{ns:List Nd}{n:Nat}(h:iY ns n)(i:Nat)(hi:i<n)(kn:List Bool)(hk:kn.length=ns.length)
  (hF:aF prog [] 184 [.ptr 0 0 0,.int .i64 i] (sM ns kn) 4 (sQ ns i)) :
  aF prog [] 110 [.ptr 0 0 0,.int .i64 i] (sM ns kn) 4 (sQ ns i):=by
 have hN:=h.hn;have hL:i<(aO ns).length:=by rw[eH];omega
 have h0:0+((i:Nat):Int).toNat=i:=by simp
 have hg:∀kn:List Bool,kn.length=ns.length->∃b,kn[i]? = some b:=fun kn hk=>⟨kn[i],Yj (by omega)⟩
 obtain⟨b,hb⟩:=hg kn hk;have e1:(kB kn)[0+((i:Nat):Int).toNat]? = some (.bool b):=by rw[h0];exact Pv hb
 have g1:Nat.blt ((i:Nat):Int).toNat ns.length=true:=Yp (by simp;omega);refine aD bD func110 rfl ?_;refine Rr ?_;repeat((first|refine aM g1 ?_|refine aB e1 ?_);refine Rr ?_)
 have fin:∀(mem:aQ) (kn':List Bool),kn'.length=ns.length->dV mem (rX [0,1,2,3]) (sM ns kn')->∀(r:AV) (nx:Nat),Cv mem (rX [0,1,2,3]) r (.tup [.il 4 (aU (dS (aO ns) i).vals),.bool (!(dS (aO ns) i).many)])->qE 4 (sQ ns i) r mem nx:=
  fun mem kn' hk' hM r nx hr=>bF (n':=4) (m':=sM ns kn') (rX [0,1,2,3]) rfl hM hr ⟨kn',hk',rfl,rfl,rfl⟩
 cases b with
 | true=>
  have e2:(lB (aO ns) kn)[0+((i:Nat):Int).toNat]? = some (.il 4 (aU (dS (aO ns) i).vals)):=by rw[h0,QK hb hL];rfl
  have e3:(mB (aO ns) kn)[0+((i:Nat):Int).toNat]? = some (.bool (dS (aO ns) i).many):=by rw[h0,Qj hb hL];rfl
  refine Rr ?_;repeat((first|refine aM g1 ?_|refine aB e1 ?_|refine aB e2 ?_|refine aB e3 ?_|refine bO ?_);refine Rr ?_)
  exact fin _ kn hk (gM ns kn) _ _ (.same _ nn)
 | false=>
  refine Rr ?_;refine aF.useI bD [0,1,2,3] hF (by rfl) (.cons (.ptr 0 0 0 0 rfl) (.s .nil)) (gM ns kn) (by rfl) ?_;rintro r m k ⟨kn',hk',rfl,rfl,rfl⟩;refine⟨nn,gM ns kn',by rfl, ?_⟩;obtain⟨b',hb'⟩:=hg kn' hk';have e1:(kB kn')[0+((i:Nat):Int).toNat]? = some (.bool b'):=by rw[h0];exact Pv hb'
  have e2:=QK hb' hL;have e3:=Qj hb' hL;rw[←h0] at e2 e3;have q1:((kB kn').set (0+((i:Nat):Int).toNat) (.bool true))[0+((i:Nat):Int).toNat]? = some (.bool true):=by rw[h0];exact Zg (by simp[kB];omega)
  have q2:((lB (aO ns) kn').set (0+((i:Nat):Int).toNat) (.il 4 (aU (dS (aO ns) i).vals)))[0+((i:Nat):Int).toNat]? = some (.il 4 (aU (dS (aO ns) i).vals)):=by rw[h0];exact Zg (by simp[lB,List.length_zipWith];omega)
  have q3:((mB (aO ns) kn').set (0+((i:Nat):Int).toNat) (.bool (!(!(dS (aO ns) i).many))))[0+((i:Nat):Int).toNat]? = some (.bool (!(!(dS (aO ns) i).many))):=by rw[h0];exact Zg (by simp[mB,List.length_zipWith];omega)
  refine Rr ?_;repeat((first|refine aM g1 ?_|refine aB e1 ?_|refine aB e2 ?_|refine aB e3 ?_|refine aB q1 ?_|refine aB q2 ?_|refine aB q3 ?_|refine bO ?_|refine b9.2 ?_);refine Rr ?_)
  rw[h0];refine fin _ (kn'.set i true) (by simp[hk']) ⟨⟨0,_,rfl,rfl,HV rfl rfl rfl⟩,⟨1,_,rfl,rfl,.eq (Au _) (VH _ _ _).symm⟩,⟨2,_,rfl,rfl,.eq (CR _ _) (VE _ hL).symm⟩,⟨3,_,rfl,rfl,.eq (Ay _ _) (by rw[Vh _ hL,Bool.not_not])⟩,trivial⟩ _ _ (.eq nn (by rw[Bool.not_not]))
set_option maxHeartbeats 8000000
def TU(ns:List Nd)(i:Nat):Prop:=∀kn:List Bool,kn.length=ns.length->aF prog [] 110 [.ptr 0 0 0,.int .i64 i] (sM ns kn) 4 (sQ ns i)
theorem Cj{ns:List Nd}{l:jF}(mem:aQ)(kn':List Bool)(hk':kn'.length=ns.length)(hM:dV mem (rX [0,1,2,3]) (sM ns kn'))(r:AV)(nx:Nat)(hr:Cv mem (rX [0,1,2,3]) r (.tup [.il 4 (aU l.vals),.bool (!l.many)])):qE 4 (uQ ns l) r mem nx:=
 bF (n':=4) (m':=sM ns kn') (rX [0,1,2,3]) rfl hM hr ⟨kn',hk',rfl,rfl,rfl⟩
theorem Vs{ns:List Nd}{n:Nat}(h:iY ns n)(i:Nat)(hi:i<=n)(kids:List Int)(hkl:kids.length<=65536)(hkids:∀k∈kids,0<=k/\k<i)(hOf:∀j<i,TU ns j)(kn:List Bool)(hk:kn.length=ns.length) :
  aF prog [] 228 [.ptr 0 0 0,.il 1 (bH kids)] (sM ns kn) 4 (uQ ns (pT (aO ns) kids)):=by
 refine aD bD func228 rfl ?_;refine Rr ?_;refine aZ.at bD (fun p:Nat × List Bool × List aR=>p.1<=kids.length/\p.2.1.length=ns.length/\(kids.take p.1).foldl (cK (aO ns)) ([],false)=(p.2.2,false)/\oP p.2.2/\p.2.2.length<=1024/\∀v∈p.2.2,g9 v)
  (fun p=>⟨[(0,.ptr 0 0 0),(6,.il 4 (aU p.2.2)),(11,.il 1 (bH kids)),(12,.int .i64 kids.length),(13,.int .i64 p.1)],sM ns p.2.1,4,33⟩) (fun p=>kids.length-p.1) (0,kn,[]) (rX [0,1,2,3])
  ⟨by simp,hk,by simp,by simp[oP],by simp,by simp⟩
  (aE _ rfl (gM ns kn) ⟨aG,⟨_,rfl,.nil 4⟩,aN (.il' (bE _)),⟨_,rfl,.int (by rw[aI])⟩,aK,trivial⟩) ?_
 rintro⟨j,kn,out⟩ ⟨hj,hk,hf,hso,hol,hok⟩;simp only at hj hk hf hso hol hok ⊢;refine Rr ?_;refine aH (fun hb=>?_) (fun hb=>?_)
 ·have hlt:j<kids.length:=by simpa using hb
  have e1:(bH kids)[(j:Int).toNat]? = some (.int .i64 kids[j]):=by rw[Yl,bU,Yj hlt];rfl
  have hg:kids[j]? = some kids[j]:=Yj hlt;generalize kids[j]=k at e1 hg;obtain⟨k0,k1⟩:=hkids k (Yv hg);obtain⟨k,rfl⟩:=Y4 k0;have hO:=hOf k (by omega) kn hk;have hst:=Uo hg hf;have hvals:=h.vals (k:=k) (by omega) (by omega);have hsr:=Xd ns k;simp only[cK,aA8] at hst;unfold sQ at hO;refine Rr ?_;refine aB e1 ?_;refine Rr ?_;refine aF.useI bD [0,1,2,3] hO (by rfl) (.cons (.ptr 0 0 0 0 rfl) (.s .nil)) (gM ns kn) (by rfl) ?_;rintro r m k' ⟨kn',hk',rfl,rfl,rfl⟩;refine⟨nn,gM ns kn',by rfl, ?_⟩;generalize dS (aO ns) k=lk at hst hvals hsr;obtain⟨lv,lm⟩:=lk;simp only at hst hvals hsr;cases lm with
  | true=>
   have hbad:=Me (bs:=aO ns) (kids:=kids) (j:=j+1) (by rw[hst];rfl);rw[hbad];refine Rr ?_;exact Cj _ kn' hk' (gM ns kn') _ _ (.tup' (.cons (.nil 4) (.s .nil)))
  | false=>
   have hm:=Rx out lv (by omega) (by omega) hok;have hms:=IM hso hsr;rw[←hms] at hst;have hmok:∀v∈fM out lv,g9 v:=fun v hv=>by
    rcases(qQ _ _ _).1 hv with hv|hv
    ·exact hok v hv
    ·exact hvals.2 v hv
   have hmsr:=E1 out lv hso hsr;generalize fM out lv=mg at *;refine Rr ?_;refine hm.go ?_;refine Rr ?_;refine aH (fun hb2=>?_) (fun hb2=>?_)
   ·have h1:1024<mg.length:=by rw[aC] at hb2;simp at hb2;omega
    have hbad:=Me (bs:=aO ns) (kids:=kids) (j:=j+1) (by rw[hst];simpa using h1);rw[hbad];refine Rr ?_;exact Cj _ kn' hk' (gM ns kn') _ _ (.tup' (.cons (.nil 4) (.s .nil)))
   ·have h1:mg.length<=1024:=by rw[aC] at hb2;simp at hb2;omega
    refine Rr ?_;exact .mk (j+1,kn',mg) (rX [0,1,2,3]) ⟨by simp only;omega,hk',by simp only;rw[hst];simp;omega,hmsr,h1,hmok⟩
     (aE _ rfl (gM ns kn') ⟨aG,aK,aN (.il' (bE _)),aK,⟨_,rfl,.wp⟩,trivial⟩) (by simp only;omega)
 ·have hlt:j=kids.length:=by simp at hb;omega
  rw[hlt,ZB] at hf;rw[RL hf];refine Rr ?_;exact Cj _ kn hk (gM ns kn) _ _ (.same _ nn)
def encLs(ls:List (List aR)):List AV:=ls.map fun l=>.il 4 (aU l)
theorem encLs_nn(ls:List (List aR)):kI (encLs ls):=fun a ha=>by
 obtain⟨l,_,rfl⟩:=ZF.1 ha;exact .il' (bI _)
theorem encLs_length(ls:List (List aR)):(encLs ls).length=ls.length:=by simp[encLs]
theorem encLs_get{ls:List (List aR)}{i:Nat}{l:List aR}(h:ls[i]? = some l):(encLs ls)[i]? = some (.il 4 (aU l)):=by simp[encLs,h]
def Vy(ns:List Nd)(kn:List Bool)(rest:aQ):aQ:=(0,.row 195 4 [.agg [.il 12 (bG ns),.sl 1 0 ns.length,.sl 2 0 ns.length,.sl 3 0 ns.length]])::(1,.row 4 1 (kB kn))::(2,.row 53 1 (lB (aO ns) kn))::(3,.row 4 1 (mB (aO ns) kn))::rest
theorem gV{mem:aQ}{σ:List (Nat × Nat)}{ns:List Nd}{kn:List Bool}{rest:aQ}(h0:lk σ 0=some 0)(h1:lk σ 1=some 1)(h2:lk σ 2=some 2)(h3:lk σ 3=some 3)
  (m0:lk mem 0=some (.row 195 4 [.agg [.il 12 (bG ns),.sl 1 0 ns.length,.sl 2 0 ns.length,.sl 3 0 ns.length]])) (m1:lk mem 1=some (.row 4 1 (kB kn))) (m2:lk mem 2=some (.row 53 1 (lB (aO ns) kn))) (m3:lk mem 3=some (.row 4 1 (mB (aO ns) kn)))
  (hr:dV mem σ rest):dV mem σ (Vy ns kn rest):=
 ⟨⟨0,_,h0,m0,HV h1 h2 h3⟩,⟨1,_,h1,m1,.same (Au _)⟩,⟨2,_,h2,m2,.same (CR _ _)⟩,⟨3,_,h3,m3,.same (Ay _ _)⟩,hr⟩
theorem Ek{mem:aQ}{σ:List (Nat × Nat)}:∀m:Nat,tL mem σ (List.replicate m .nsl) (encLs (List.replicate m []))
 | 0=>.nil
 | m+1=>by
  rw[Zt,Zt];exact .cons (.one rfl rfl (.nil 4)) (Ek m)
theorem TI(ls:List (List aR))(i:Nat)(l:List aR):encLs (ls.set i l)=(encLs ls).set i (.il 4 (aU l)):=by simp[encLs,aA6]
theorem Fw{mem:aQ}{σ:List (Nat × Nat)}:∀m:Nat,tL mem σ (List.replicate m (.agg [.int .i64 0,.int .i64 0,.str [],.nsl])) (aU (List.replicate m (.mk 0 0 [] [])))
 | 0=>.nil
 | m+1=>by
  rw[Zt,Zt,aU];exact .cons (I4 0 0 []) (Fw m)
theorem QG{ns:List Nd}{n:Nat}(h:iY ns n)(i:Nat)(hi:i<=n)(x:Nd)(hkl:x.kids.length<=65536)(hkids:∀k∈x.kids,0<=k/\k<i)(hOf:∀j<i,TU ns j)(kn:List Bool)(hk:kn.length=ns.length) :
  aF prog [] 229 [.ptr 0 0 0,.ip (cD x)] (sM ns kn) 4 (uQ ns (sI (aO ns) x)):=by
 have hxn:=aV x;have hpb:=fun(j:Nat) (e:((x.kids.take j).foldl (iG (aO ns)) (1,false)).2=true)=>TF (bs:=aO ns) (x:=x) (j:=j) e
 have hpg:=fun(t:Nat) (e:x.kids.foldl (iG (aO ns)) (1,false)=(t,false))=>RA (Da ns) (x:=x) (t:=t) e
 have hmade:=fun ks=>V4 x ks
 generalize sI (aO ns) x=res at hpb hpg ⊢;obtain⟨kind,name,lo,hi',ws,ls,vals,kids,⟨vk,vn,vs,vks⟩⟩:=x;simp only at hkl hkids hpb hpg;refine aD bD func229 rfl ?_;refine Rr ?_;refine aM (cL rfl (cL rfl (cL rfl (cL (Y0 (by omega)) (cL (Y0 (by omega)) (cL (wP rfl (by omega) (by simp only[aI];omega)) (Y0 (by simp only[aI];omega)))))))) ?_;refine Rr ?_;refine aZ.at bD (fun p:Nat × List Bool × Nat × List (List aR)=>p.1<=kids.length/\p.2.1.length=ns.length/\(kids.take p.1).foldl (iG (aO ns)) (1,false)=(p.2.2.1,false)/\p.2.2.1<=1024/\p.2.2.2.length=kids.length/\(∀(q:Nat) (k:Int),q<p.1->kids[q]? = some k->p.2.2.2[q]? = some (dS (aO ns) k).vals/\(dS (aO ns) k).vals≠[]))
  (fun p=>⟨[(0,.ptr 0 0 0),(1,.ip (cD ⟨kind,name,lo,hi',ws,ls,vals,kids,.mk vk vn vs vks⟩)),(6,.sl 4 0 kids.length),(7,.int .i64 p.2.2.1),(25,.il 1 (bH kids)),(26,.int .i64 kids.length),(27,.int .i64 p.1)],Vy ns p.2.1 [(4,.row 53 1 (encLs p.2.2.2))],5,98⟩)
  (fun p=>kids.length-p.1) (0,kn,1,List.replicate kids.length []) (rX [0,1,2,3,4])
  ⟨by simp,hk,by simp,by simp,by simp,fun q k hq=>by simp at hq⟩
  (aE _ rfl (gV rfl rfl rfl rfl rfl rfl rfl rfl ⟨⟨4,_,rfl,rfl,.to (Ek kids.length) (by rw[show (((bH kids).length:Nat):Int).toNat=kids.length by rw[aI];simp])⟩,trivial⟩) ⟨aG,aN (.ip' hxn),⟨_,rfl,.slE rfl (by rw[aI];simp)⟩,aK,aN (.il' (bE _)),⟨_,rfl,.int (by rw[aI])⟩,aK,trivial⟩) ?_
 rintro⟨j,kn,total,lists⟩ ⟨hj,hk,hf,hto,hll,hls⟩;simp only at hj hk hf hto hll hls ⊢;refine Rr ?_;refine aH (fun hb=>?_) (fun hb=>?_)
 ·have hlt:j<kids.length:=by simpa using hb
  have e1:(bH kids)[(j:Int).toNat]? = some (.int .i64 kids[j]):=by rw[Yl,bU,Yj hlt];rfl
  have hg:kids[j]? = some kids[j]:=Yj hlt;generalize kids[j]=k at e1 hg;obtain⟨k0,k1⟩:=hkids k (Yv hg);obtain⟨k,rfl⟩:=Y4 k0;have hO:=hOf k (by omega) kn hk;have hst:=VX hg hf;have hvals:=h.vals (k:=k) (by omega) (by omega);have hne:=h.ne (k:=k) (by omega) (by omega);have hls':∀(q:Nat) (k':Int),q<j+1->kids[q]? = some k'->(q<j/\(lists[q]? = some (dS (aO ns) k').vals/\(dS (aO ns) k').vals≠[]))∨(q=j/\k'=k):=fun q k' hq hk'=>by
   rcases Y5 q j with hq'|hq'
   ·exact .inl ⟨hq',hls q k' hq' hk'⟩
   ·have:q=j:=by omega
    subst this;rw[hg] at hk';cases hk';exact .inr ⟨rfl,rfl⟩
  simp only[iG,aA8] at hst;unfold sQ at hO;refine Rr ?_;refine aB e1 ?_;refine Rr ?_;refine aF.useI bD [0,1,2,3] hO (by rfl) (.cons (.ptr 0 0 0 0 rfl) (.s .nil)) (gM ns kn) (by rfl) ?_;rintro r m k' ⟨kn',hk',rfl,rfl,rfl⟩;refine⟨nn,gM ns kn',by rfl, ?_⟩;obtain⟨lk,hlk⟩:∃lk,lk=dS (aO ns) k:=⟨_,rfl⟩
  rw[←hlk] at hst hvals hne ⊢;obtain⟨lv,lm⟩:=lk;simp only at hst hvals hne;cases lm with
  | true=>
   have hbad:=hpb (j+1) (by rw[hst];rfl);rw[hbad];refine Rr ?_;exact Cj _ kn' hk' (gV rfl rfl rfl rfl rfl rfl rfl rfl trivial) _ _ (.tup' (.cons (.nil 4) (.s .nil)))
  | false=>
   have hw:IntKind.i64.wrap ((total:Int)*((aU lv).length:Int))=((total*lv.length:Nat):Int):=by
    have:total*lv.length<=1024*1024:=Zs hto hvals.1;exact w64 (by rw[aC];simp) ⟨by omega,by omega⟩
   refine Rr ?_;rw[hw];refine Rr ?_;refine aH (fun hb2=>?_) (fun hb2=>?_)
   ·have hbad:=hpb (j+1) (by rw[hst];simp at hb2 ⊢;omega);rw[hbad];refine Rr ?_;exact Cj _ kn' hk' (gV rfl rfl rfl rfl rfl rfl rfl rfl trivial) _ _ (.tup' (.cons (.nil 4) (.s .nil)))
   ·have hto':total*lv.length<=1024:=by simp at hb2;omega
    have h0:0+((j:Nat):Int).toNat=j:=by simp
    have g1:Nat.blt ((j:Nat):Int).toNat kids.length=true:=Yp (by simp;omega);have e3:(encLs lists)[0+((j:Nat):Int).toNat]? = some (.il 4 (aU lists[j])):=by rw[h0];exact encLs_get (Yj (by omega))
    have e4:((encLs lists).set (0+((j:Nat):Int).toNat) (.il 4 (aU lv)))[0+((j:Nat):Int).toNat]? = some (.il 4 (aU lv)):=by rw[h0];exact Zg (by rw[encLs_length];omega)
    refine Rt ?_;repeat((first|refine aM g1 ?_|refine aB e3 ?_|refine aB e4 ?_);refine Rt ?_)
    exact .mk (j+1,kn',total*lv.length,lists.set j lv) (rX [0,1,2,3,4]) ⟨by simp only;omega,hk',by simp only;rw[hst];simp;omega,hto',by simp only[aAB];exact hll,fun q k' hq hkq=>by
      simp only at hq ⊢;rcases hls' q k' hq hkq with⟨h1,h2,h3⟩|⟨rfl,rfl⟩
      ·rw[aA4 (by omega)];exact⟨h2,h3⟩
      ·rw[Zg (by omega),←hlk];exact⟨rfl,hne rfl⟩⟩
     (aE _ rfl (gV rfl rfl rfl rfl rfl rfl rfl rfl ⟨⟨4,_,rfl,rfl,.eq (encLs_nn _) (by rw[h0];exact(TI _ _ _).symm)⟩,trivial⟩) ⟨aG,aN (.ip' hxn),⟨_,rfl,.slE rfl rfl⟩,aK,aN (.il' (bE _)),aK,⟨_,rfl,.wp⟩,trivial⟩) (by simp only;omega)
 ·have hlt:j=kids.length:=by simp at hb;omega
  rw[hlt,ZB] at hf;obtain⟨hres,hpr⟩:=hpg total hf;rw[hres];have hlv:lists=kids.map fun k=>(dS (aO ns) k).vals:=aBj fun q=>by
   rw[ZO];rcases Y5 q kids.length with hq|hq
   ·rw[(hls q _ (by omega) (Yj hq)).1,Yj hq];rfl
   ·rw[Y3 (by omega),Y3 hq];rfl
  have hlne:∀l∈lists,l≠[]:=fun l hl=>by
   rw[hlv] at hl;obtain⟨k,hk,rfl⟩:=ZF.1 hl;obtain⟨q,hq⟩:=ZQ hk;exact(hls q k (by rw[hlt];exact(Yn.1 hq).1) hq).2
  have hllen:∀l∈lists,l.length<=1024:=fun l hl=>by
   rw[hlv] at hl;obtain⟨k,hk,rfl⟩:=ZF.1 hl;obtain⟨k0,k1⟩:=hkids k hk;exact(h.vals k0 (by omega)).1
  rw[←hlv] at hpr ⊢;clear hpb hpg hls hlv hres hf;refine Rr ?_;refine aM (cL rfl (cL rfl (cL rfl (cL rfl (cL (Y0 (by omega)) (cL (wP rfl (by omega) (by omega)) (Y0 (by omega)))))))) ?_;refine Rr ?_;refine aZ.at bD (fun p:Nat × List aR=>p.1<=total/\p.2=((sF lists.reverse).take p.1).map (eA name)/\p.2.length=p.1)
   (fun p=>⟨[(1,.ip (cD ⟨kind,name,lo,hi',ws,ls,vals,kids,.mk vk vn vs vks⟩)),(6,.sl 4 0 kids.length),(12,.sl 5 0 p.1),(53,.int .i64 total),(54,.int .i64 p.1)],Vy ns kn [(4,.row 53 1 (encLs lists)),(5,.row 55 4 (aU p.2))],6,98⟩)
   (fun p=>total-p.1) (0,[]) (rX [0,1,2,3,4,5])
   ⟨by simp,by simp,by simp⟩
   (aE _ rfl (gV rfl rfl rfl rfl rfl rfl rfl rfl ⟨aL 4 (encLs_nn _),⟨5,_,rfl,rfl,.nil⟩,trivial⟩) ⟨aN (.ip' hxn),⟨_,rfl,.slE rfl rfl⟩,⟨_,rfl,.slE rfl rfl⟩,aK,aK,trivial⟩) ?_
  rintro⟨k,all⟩ ⟨hkt,hall,hal⟩;simp only at hkt hall hal ⊢;refine Rr ?_;refine aH (fun hb=>?_) (fun hb=>?_)
  ·have hlt2:k<total:=by simpa using hb
   refine Rr ?_;refine aM (cL rfl (cL rfl (cL rfl (cL (Y0 (by omega)) (cL (Y0 (by omega)) (cL (wP rfl (by omega) (by omega)) (Y0 (by omega)))))))) ?_;refine Rr ?_;refine aZ.at bD (fun p:Nat × Nat × List aR=>p.1<=kids.length/\p.2.1<=1024/\p.2.2.length=kids.length/\Go.Ax.rowAt (lists.take p.1).reverse p.2.1++p.2.2.drop p.1=Go.Ax.rowAt lists.reverse k)
    (fun p=>⟨[(1,.ip (cD ⟨kind,name,lo,hi',ws,ls,vals,kids,.mk vk vn vs vks⟩)),(6,.sl 4 0 kids.length),(12,.sl 5 0 k),(13,.int .i64 p.2.1),(14,.sl 6 0 kids.length),(15,.int .i64 ((p.1:Int)-1)),(53,.int .i64 total),(54,.int .i64 k)],Vy ns kn [(4,.row 53 1 (encLs lists)),(5,.row 55 4 (aU all)),(6,.row 55 4 (aU p.2.2))],7,98⟩)
    (fun p=>p.1) (kids.length,k,List.replicate kids.length (.mk 0 0 [] [])) (rX [0,1,2,3,4,5,6])
    ⟨by simp,by simp only;omega,by simp,by simp only;rw[←hll,ZB,Zv (by simp)];simp⟩
    (aE _ rfl (gV rfl rfl rfl rfl rfl rfl rfl rfl ⟨aL 4 (encLs_nn _),aL 5 (bI _),⟨6,_,rfl,rfl,Fw _⟩,trivial⟩) ⟨aN (.ip' hxn),⟨_,rfl,.slE rfl rfl⟩,⟨_,rfl,.slE rfl rfl⟩,aK,⟨_,rfl,.slE rfl (by simp)⟩,⟨_,rfl,.w64 (by simp only) ⟨by simp only;omega,by simp only;omega⟩⟩,aK,aK,trivial⟩) ?_
   rintro⟨q,kk,row⟩ ⟨hq,hkk,hrl,hrow⟩;simp only at hq hkk hrl hrow ⊢;refine Rr ?_;refine aH (fun hb=>?_) (fun hb=>?_)
   ·obtain⟨q,rfl⟩:∃q',q=q'+1:=⟨q-1,by simp at hb;omega⟩
    obtain⟨l,hl⟩:∃l,lists[q]? = some l:=⟨lists[q],Yj (by omega)⟩
    have hlm:=Yv hl;have hl0:=Zr.2 (hlne l hlm);have hl1:=hllen l hlm;have hmod:=Z1 kk hl0;have hdiv:=aA0 kk l.length;obtain⟨v1,v2,v3,v4,vm,vg,-,ev⟩:=cO (l:=l) (k:=kk%l.length) hmod;have hrs:=KV (kk:=kk) hl vg;have e0:0+((q:Nat):Int).toNat=q:=by simp
    have g1:Nat.blt ((q:Nat):Int).toNat kids.length=true:=Yp (by simp;omega);have e3:(encLs lists)[0+((q:Nat):Int).toNat]? = some (.il 4 (aU l)):=by rw[e0];exact encLs_get hl
    have e15:((q+1:Nat):Int)-1=(q:Int):=by omega
    rw[e15];refine Rr ?_;have d0:(!decide (((aU l).length:Int)=0))=true:=by rw[aC,Bool.not_eq_true',aAf];omega
    have em:(kk:Int).tmod ((aU l).length:Int)=((kk%l.length:Nat):Int):=by rw[aC];exact(Int.ofNat_tmod kk l.length).symm
    have ed:(kk:Int).tdiv ((aU l).length:Int)=((kk/l.length:Nat):Int):=by rw[aC];exact(Int.ofNat_tdiv kk l.length).symm
    have ex:(aU row)[0+((q:Nat):Int).toNat]? = some (cN row[q]):=by rw[e0,jE,Yj (by omega)];rfl
    have ey:((aU row).set (0+((q:Nat):Int).toNat) (cN (.mk v1 v2 v3 v4)))[0+((q:Nat):Int).toNat]? = some (cN (.mk v1 v2 v3 v4)):=by rw[e0];exact Zg (by rw[aC];omega)
    generalize row[q]=old at ex;obtain⟨o1,o2,o3,o4⟩:=old;repeat((first|refine aM g1 ?_|refine aB e3 ?_|refine aB ev ?_|refine aB ex ?_|refine aB ey ?_|refine b9.2 ?_|refine bO ?_|refine aM d0 ?_;(first|rw[em]|rw[ed]|skip));refine Rr ?_)
    have hdr:(row.set q (.mk v1 v2 v3 v4)).drop q = .mk v1 v2 v3 v4::row.drop (q+1):=by
     rw[List.drop_eq_getElem_cons (by simp;omega)];simp[List.drop_set]
    have hy:i64 ((kk/l.length:Nat):Int):=by
     have:=hdiv;generalize kk/l.length=d at this ⊢;clear ed;exact⟨by omega,by omega⟩
    have hset:aU (row.set q (.mk v1 v2 v3 v4))=(aU row).set q (cN (.mk v1 v2 v3 v4)):=by rw[jD,jD,aA6]
    exact .mk (q,kk/l.length,row.set q (.mk v1 v2 v3 v4)) (rX [0,1,2,3,4,5,6]) ⟨by simp only;omega,by simp only;omega,by simp only[aAB];exact hrl,by simp only;rw[hdr,←hrow,hrs,List.append_assoc];rfl⟩
     (aE _ rfl (gV rfl rfl rfl rfl rfl rfl rfl rfl ⟨aL 4 (encLs_nn _),aL 5 (bI _),⟨6,_,rfl,rfl,.eq (bI _) (by simp only;rw[e0,hset];rfl)⟩,trivial⟩) ⟨aN (.ip' hxn),⟨_,rfl,.slE rfl rfl⟩,⟨_,rfl,.slE rfl rfl⟩,⟨_,rfl,.w64 (y:=((kk/l.length:Nat):Int)) (by first|exact ed|rfl) hy⟩,⟨_,rfl,.slE rfl rfl⟩,⟨_,rfl,.w64 rfl ⟨by simp only;omega,by simp only;omega⟩⟩,aK,aK,trivial⟩) (by simp only;omega)
   ·have hq0:q=0:=by simp at hb;omega
    subst hq0;simp only[aAy,List.reverse_nil,Go.Ax.rowAt,ZS,ZI] at hrow;have hmd:=hmade row;simp only at hmd;refine Rr ?_;refine aF.pre bD (mem':=Vy ns kn [(4,.row 53 1 (encLs lists)),(5,.row 55 4 (aU all))]) (rX [0,1,2,3,4,5]) (by rfl)
     (gV rfl rfl rfl rfl rfl rfl rfl rfl ⟨aL 4 (encLs_nn _),aL 5 (bI _),trivial⟩)
     (.cons (.same _ (.ip' hxn)) (.cons (.fz' (id:=6) (t:=55) (xs:=aU row) rfl rfl (by rw[aC];omega) (by rw[ZI];exact Yu (by rw[aC];omega)) (bI _)) .nil)) ?_
    refine hmd.go ?_;have hr:=Fs lists.reverse k (by rw[←hpr];exact hlt2);rw[←hrow] at hr;obtain⟨⟨m1,m2,m3,m4⟩,hmv⟩:∃mv,mv=eA name row:=⟨_,rfl⟩
    rw[←hmv];refine Rr ?_;refine aM (bT rfl rfl (by simp[aC];omega) (by simp;omega)) ?_;refine Rr ?_;exact .mk (k+1,all++[.mk m1 m2 m3 m4]) [(0,0),(1,1),(2,2),(3,3),(4,4),(8,5)] ⟨by simp only;omega,by
      simp only;rw[hall,List.take_add_one,hr,Zk,hmv];rfl,by simp[hal]⟩
     (aE _ rfl (gV rfl rfl rfl rfl rfl rfl rfl rfl ⟨aL 4 (encLs_nn _),⟨8,_,rfl,rfl,.eq (bI _) (by rw[i5];rfl)⟩,trivial⟩) ⟨aN (.ip' hxn),⟨_,rfl,.slE rfl rfl⟩,⟨_,rfl,.slE rfl (by simp)⟩,aK,⟨_,rfl,.wp⟩,trivial⟩) (by simp only;omega)
  ·have hlt2:k=total:=by simp at hb;omega
   refine Rr ?_;refine Cj _ kn hk (gV rfl rfl rfl rfl rfl rfl rfl rfl trivial) _ _ (.tup' (.cons (.fz' (id:=5) (t:=55) (xs:=aU all) rfl rfl (by rw[aC];omega) ?_ (bI _)) (.s .nil)));rw[ZI,Yu (by rw[aC];omega),hall,hlt2,hpr,←Bj,ZB]
set_option maxHeartbeats 8000000
theorem WC{ns:List Nd}{n:Nat}(h:iY ns n)(i:Nat)(hi:i<n)(hOf:∀j<i,TU ns j)(kn:List Bool)(hk:kn.length=ns.length) :
  aF prog [] 184 [.ptr 0 0 0,.int .i64 i] (sM ns kn) 4 (sQ ns i):=by
 obtain⟨x,hx⟩:∃x,ns[i]? = some x:=⟨ns[i]'(by have:=h.hn;omega),Yj _⟩
 have ex:(bG ns)[((i:Nat):Int).toNat]? = some (cD x):=by simp[mM,hx]
 unfold sQ;rw[h.at hi hx];have hG:=h.node hi hx;have hO:=h.nodeOK hi hx;have hxn:=aV x;have hkm:∀k∈x.kids,0<=k/\k<i:=fun k hk=>by
  obtain⟨j,hj⟩:=ZQ hk;exact hG.kids j k hj
 have hU:=fun(kids:List Int) (h1:kids.length<=65536) (h2:∀k∈kids,0<=k/\k<i)=>Vs h i (by omega) kids h1 h2 hOf kn hk
 have hP:=QG h i (by omega) x hG.klen hkm hOf kn hk;have hb:=hO.bind;have hkl:=hG.klen;have hkd:=hG.kind;have hnum:=cY hG.num;have e0:x.kind=0->dR x (aO ns)=⟨[x.value],false⟩:=fun e=>by unfold dR;rw[Yt e]
 have e1:x.kind=1->dR x (aO ns)=if 1024<=x.hi-x.lo then⟨[],true⟩ else⟨gS x.lo x.hi,false⟩:=fun e=>by unfold dR;rw[Yo (by omega),Yt e]
 have e2:x.kind=2->dR x (aO ns)=pT (aO ns) x.kids:=fun e=>by unfold dR;rw[Yo (by omega),Yo (by omega),Yo (by omega),Yo (by omega)]
 have e3:x.kind=3->dR x (aO ns)=sI (aO ns) x:=fun e=>by unfold dR;rw[Yo (by omega),Yo (by omega),Yt e]
 have e4:x.kind=4->dR x (aO ns)=pT (aO ns) (x.kids.drop 1):=fun e=>by unfold dR;rw[Yo (by omega),Yo (by omega),Yo (by omega),Yt e]
 generalize dR x (aO ns)=res at e0 e1 e2 e3 e4 ⊢;clear hG hO hOf;have hP:x.kind=3->aF prog [] 229 [.ptr 0 0 0,.ip (cD x)] (sM ns kn) 4 (uQ ns res):=fun e=>by rw[e3 e];exact hP
 clear e3;obtain⟨kind,name,lo,hi',ws,ls,vals,kids,⟨vk,vn,vs,vks⟩⟩:=x;simp only at hkm hb hkl hkd hnum e0 e1 e2 e4 hP;refine aD bD func184 rfl ?_;refine Rr ?_;repeat(refine aB ex ?_;refine Rr ?_)
 have call:∀(F:FuncId) (a:List AV) (K:AV->aQ->Nat->Prop) (nx:Nat),kI a->aF prog [] F (.ptr 0 0 0::a) (sM ns kn) 4 (uQ ns res)->(∀kn',kn'.length=ns.length->K (.tup [.il 4 (aU res.vals),.bool (!res.many)]) (sM ns kn'++iS [0,1,2,3] (sM ns kn)) nx)->aF prog [] F (.ptr 0 0 0::a) (sM ns kn) nx K:=fun F a K nx ha hc hK=>by
  refine aF.useI bD [0,1,2,3] hc (by rfl) (.cons (.ptr 0 0 0 0 rfl) (.same ha)) (gM ns kn) (by rfl) ?_;rintro r m k' ⟨kn',hk',rfl,rfl,rfl⟩;exact⟨nn,gM ns kn',by rfl,hK kn' hk'⟩
 rcases(show kind=0∨kind=1∨kind=2∨kind=3∨kind=4 by omega) with rfl|rfl|rfl|rfl|rfl
 ·rw[e0 rfl];refine Rr ?_;repeat(refine aB ex ?_;refine Rr ?_)
  exact Cj _ kn hk (gV rfl rfl rfl rfl rfl rfl rfl rfl trivial) _ _ (.tup' (.cons (.fz' (id:=4) (t:=55) (xs:=aU [.mk vk vn vs vks]) rfl rfl (by rw[aC];simp) rfl (bI _)) (.s .nil)))
 ·rw[e1 rfl];have hw:IntKind.i64.wrap (hi'-lo)=hi'-lo:=bA ⟨by omega,by omega⟩;refine Rr ?_;simp only[hw];refine aH (fun hb=>?_) (fun hb=>?_)
  ·have hb:1024<=hi'-lo:=by simpa using hb
   rw[Yt hb];refine Rr ?_;exact Cj _ kn hk (gM ns kn) _ _ (.tup' (.cons (.nil 4) (.s .nil)))
  ·have hb:¬1024<=hi'-lo:=by simpa using hb
   rw[Yo hb];refine Rr ?_;refine aZ.ph 55 4 ?_;refine aZ.at bD (fun c:Nat=>c<=(hi'+1-lo).toNat)
    (fun c=>⟨[(6,.ip (cD ⟨1,name,lo,hi',ws,ls,vals,kids,.mk vk vn vs vks⟩)),(7,.sl 4 0 c),(8,.int .i64 (lo+c))],Vy ns kn [(4,.row 55 4 (aU (gS lo (lo+c-1))))],5,82⟩)
    (fun c=>(hi'+1-lo).toNat-c) 0 [(0,0),(1,1),(2,2),(3,3),(14,4)] (by simp)
    (aE _ rfl (gV rfl rfl rfl rfl rfl rfl rfl rfl ⟨⟨14,_,rfl,rfl,by rw[show gS lo (lo+((0:Nat):Int)-1)=[] by simp[gS]];exact .nil⟩,trivial⟩) ⟨aN (.ip' hxn),⟨_,rfl,.nslk 14 4 _ rfl rfl⟩,⟨_,rfl,.int (by simp)⟩,trivial⟩) ?_
   intro c hc;have hrl:∀c:Nat,(gS lo (lo+c-1)).length=c:=fun c=>by simp[gS];omega
   refine Rr ?_;refine aH (fun hb2=>?_) (fun hb2=>?_)
   ·have hb2:lo+c<=hi':=by simpa using hb2
    have hrs:gS lo (lo+((c+1:Nat):Int)-1)=gS lo (lo+c-1)++[.mk 0 (lo+c) [] []]:=by
     unfold gS;rw[show (lo+((c+1:Nat):Int)-1+1-lo).toNat=c+1 by omega,show (lo+(c:Int)-1+1-lo).toNat=c by omega,aBa,Zk];rfl
    refine Rr ?_;refine aM (bT rfl rfl (by rw[aC,hrl]) (by simp;omega)) ?_;refine Rr ?_;exact .mk (c+1) [(0,0),(1,1),(2,2),(3,3),(6,4)] (by omega)
     (aE _ rfl (gV rfl rfl rfl rfl rfl rfl rfl rfl ⟨⟨6,_,rfl,rfl,by rw[hrs,i5];exact .snoc rfl (.same (bI _)) (I4 0 (lo+c) [])⟩,trivial⟩) ⟨aN (.ip' hxn),⟨_,rfl,.slE rfl (by simp)⟩,⟨_,rfl,.wo⟩,trivial⟩) (by omega)
   ·have hb2:¬lo+c<=hi':=by simpa using hb2
    have hcc:lo+c-1=hi':=by omega
    refine Rr ?_;rw[hcc];refine Cj _ kn hk (gV rfl rfl rfl rfl rfl rfl rfl rfl trivial) _ _ (.tup' (.cons (.fz' (id:=4) (t:=55) (xs:=aU (gS lo hi')) rfl rfl (by rw[aC];have:=hrl c;rw[hcc] at this;omega) ?_ (bI _)) (.s .nil)));rw[ZI];exact Yu (by rw[aC];have:=hrl c;rw[hcc] at this;omega)
 ·rw[e2 rfl] at call ⊢;refine Rr ?_;refine call _ _ _ _ (.cons (.il' (bE _)) .nil) (hU kids hkl hkm) fun kn' hk'=>?_
  refine Rr ?_;exact Cj _ kn' hk' (gM ns kn') _ _ (.same _ nn)
 ·refine Rr ?_;refine call _ _ _ _ (.cons (.ip' hxn) .nil) (hP rfl) fun kn' hk'=>?_
  refine Rr ?_;exact Cj _ kn' hk' (gM ns kn') _ _ (.same _ nn)
 ·rw[e4 rfl] at call ⊢;have hb:=hb rfl;refine Rr ?_;refine aM (cL (Yp (by rw[aI];simp;omega)) (cL (Yp (Yy _)) (Yp (Yy _)))) ?_;have ed:List.take ((bH kids).length-Int.toNat 1) (List.drop (Int.toNat 1) (bH kids))=bH (kids.drop 1):=by
   rw[Yu (by simp)];simp[bH]
  rw[ed];refine Rr ?_;refine call _ _ _ _ (.cons (.il' (bE _)) .nil) (hU (kids.drop 1) (by rw[aAi];omega) fun k hk=>hkm k (ZV hk)) fun kn' hk'=>?_
  refine Rr ?_;exact Cj _ kn' hk' (gM ns kn') _ _ (.same _ nn)
theorem YY{ns:List Nd}{n:Nat}(h:iY ns n):∀i<n,TU ns i:=by
 intro i
 induction i using Nat.strongRecOn with
 | ind i ih=>exact fun hi kn hk=>X3 h i hi kn hk (WC h i hi (fun j hj=>ih j hj (by omega)) kn hk)
set_option maxHeartbeats 8000000
theorem X4(a b:aR)(ha:g9 a):aT prog [] 112 [cN a,cN b] (.bool (cE a b == 0)):=by
 have hc:=rU a b ha;obtain⟨a1,a2,a3,a4⟩:=a;obtain⟨b1,b2,b3,b4⟩:=b;generalize cE (.mk a1 a2 a3 a4) (.mk b1 b2 b3 b4)=c at hc ⊢;refine aD bD func112 rfl ?_;refine Rr ?_;refine hc.go ?_;refine Rr ?_;exact aA nn ⟨rfl,rfl,rfl⟩
theorem Kh(l m:List aR)(hl:l.length<=4294967296)(hm:m.length<=4294967296)(hok:∀a∈l,g9 a) :
  aT prog [] 111 [.il 4 (aU l),.il 4 (aU m),.fn (.func 112) [] []] (.bool (c9 l m)):=by
 have hE:=fun a ha b=>X4 a b (hok a ha)
 refine aD bD func111 rfl ?_;refine Rr ?_;refine aH (fun h=>?_) (fun h=>?_)
 ·have h1:l.length≠m.length:=by rw[aC,aC] at h;simp at h;omega
  have:c9 l m=false:=by
   cases e:c9 l m with
   | false=>rfl
   | true=>exact absurd (o6 e) h1
  rw[this];refine Rr ?_;exact aA nn ⟨rfl,rfl,rfl⟩
 ·have h1:l.length=m.length:=by rw[aC,aC] at h;simp at h;omega
  refine Rr ?_;refine aZ.at bD (fun i:Nat=>i<=l.length/\c9 l m=c9 (l.drop i) (m.drop i)) (fun i=>⟨[(1,.il 4 (aU m)),(2,.fn (.func 112) [] []),(15,.il 4 (aU l)),(16,.int .i64 l.length),(17,.int .i64 i)],[],0,32⟩) (fun i=>l.length-i) 0 [] ⟨by simp,by simp⟩
   (bL ⟨aN (.il' (bI _)),aK,aN (.il' (bI _)),⟨_,rfl,.int (by rw[aC])⟩,aK,trivial⟩) ?_
  rintro i ⟨hi,hs⟩;refine Rr ?_;refine aH (fun hb=>?_) (fun hb=>?_)
  ·have hil:i<l.length:=by simpa using hb
   obtain⟨p1,p2,p3,p4,pm,pg,pe,ep⟩:=cO (l:=l) (k:=i) hil;obtain⟨q1,q2,q3,q4,qm,qg,qe,eq⟩:=cO (l:=m) (k:=i) (by omega);rw[List.drop_eq_getElem_cons hil,List.drop_eq_getElem_cons (show i<m.length by omega),c9,pe,qe] at hs;have hc:=hE _ pm (.mk q1 q2 q3 q4);obtain⟨c,hc0⟩:∃c,c=cE (.mk p1 p2 p3 p4) (.mk q1 q2 q3 q4):=⟨_,rfl⟩
   rw[←hc0] at hc hs;refine Rr ?_;repeat((first|refine aB ep ?_|refine aB eq ?_|refine bO ?_);refine Rr ?_)
   refine hc.go ?_;refine Rr ?_;refine aH (fun h=>?_) (fun h=>?_)
   ·have:decide (c=0)=false:=by simpa using h
    rw[hs,this];refine Rr ?_;exact aA nn ⟨rfl,rfl,rfl⟩
   ·have:decide (c=0)=true:=by simpa using h
    rw[this] at hs;refine Rr ?_;exact .mk (i+1) [] ⟨by omega,hs⟩ (bL ⟨aN (.il' (bI _)),aK,aN (.il' (bI _)),aK,⟨_,rfl,.wo⟩,trivial⟩) (by omega)
  ·have hil:i=l.length:=by simp at hb;omega
   rw[hil,Z6,h1,Z6,c9] at hs;rw[hs];refine Rr ?_;exact aA nn ⟨rfl,rfl,rfl⟩
set_option maxHeartbeats 8000000
def H2(ns:List Nd)(ls ss:List Int)(kn:List Bool)(rest:aQ):aQ:=(0,.row 122 4 [.agg [.il 12 (bG ns),.sl 1 0 ns.length,.sl 2 0 ns.length,.ptr 3 0 0]])::(1,.row 3 1 (bH ls))::(2,.row 3 1 (bH ss)) ::
 (3,.row 195 4 [.agg [.il 12 (bG ns),.sl 4 0 ns.length,.sl 5 0 ns.length,.sl 6 0 ns.length]])::(4,.row 4 1 (kB kn))::(5,.row 53 1 (lB (aO ns) kn))::(6,.row 4 1 (mB (aO ns) kn))::rest
def Wa(ns:List Nd)(l1 l2:List AV)(kn:List Bool):aQ:=[(0,.row 122 4 [.agg [.il 12 (bG ns),.sl 1 0 ns.length,.sl 2 0 ns.length,.ptr 3 0 0]]),(1,.row 3 1 l1),(2,.row 3 1 l2),
 (3,.row 195 4 [.agg [.il 12 (bG ns),.sl 4 0 ns.length,.sl 5 0 ns.length,.sl 6 0 ns.length]]),(4,.row 4 1 (kB kn)),(5,.row 53 1 (lB (aO ns) kn)),(6,.row 4 1 (mB (aO ns) kn))]
theorem V2{mem:aQ}{σ:List (Nat × Nat)}{ns:List Nd}{N a b c a' b' c':Nat}(h1:lk σ a=some a')(h2:lk σ b=some b')(h3:lk σ c=some c') :
  tL mem σ [.agg [.il 12 (bG ns),.sl a 0 N,.sl b 0 N,.ptr c 0 0]] [.agg [.il 12 (bG ns),.sl a' 0 N,.sl b' 0 N,.ptr c' 0 0]]:=
 .cons (.agg (.cons (.same _ (.il' (aP _))) (.cons (.sl a a' 0 N h1) (.cons (.sl b b' 0 N h2) (.cons (.ptr c c' 0 0 h3) .nil))))) .nil
theorem kU{mem:aQ}{σ:List (Nat × Nat)}{ns:List Nd}{kn:List Bool}{ls ss:List Int}{l1 l2:List AV}{rest:aQ}(h0:lk σ 0=some 0)(h1:lk σ 1=some 1)(h2:lk σ 2=some 2)(h3:lk σ 3=some 3)(h4:lk σ 4=some 4)(h5:lk σ 5=some 5)(h6:lk σ 6=some 6)
  (m0:lk mem 0=some (.row 122 4 [.agg [.il 12 (bG ns),.sl 1 0 ns.length,.sl 2 0 ns.length,.ptr 3 0 0]])) (m1:lk mem 1=some (.row 3 1 l1)) (m2:lk mem 2=some (.row 3 1 l2)) (e1:l1=bH ls) (e2:l2=bH ss)
  (m3:lk mem 3=some (.row 195 4 [.agg [.il 12 (bG ns),.sl 4 0 ns.length,.sl 5 0 ns.length,.sl 6 0 ns.length]])) (m4:lk mem 4=some (.row 4 1 (kB kn))) (m5:lk mem 5=some (.row 53 1 (lB (aO ns) kn))) (m6:lk mem 6=some (.row 4 1 (mB (aO ns) kn)))
  (hr:dV mem σ rest):dV mem σ (H2 ns ls ss kn rest):=
 ⟨⟨0,_,h0,m0,V2 h1 h2 h3⟩,⟨1,_,h1,m1,.eq (bE _) e1⟩,⟨2,_,h2,m2,.eq (bE _) e2⟩,⟨3,_,h3,m3,HV h4 h5 h6⟩,⟨4,_,h4,m4,.same (Au _)⟩,⟨5,_,h5,m5,.same (CR _ _)⟩,⟨6,_,h6,m6,.same (Ay _ _)⟩,hr⟩
theorem oJ(ns:List Nd)(ls ss:List Int)(kn:List Bool):dV (H2 ns ls ss kn []) (rX [0,1,2,3,4,5,6]) (H2 ns ls ss kn []):=kU rfl rfl rfl rfl rfl rfl rfl rfl rfl rfl rfl rfl rfl rfl rfl rfl trivial
theorem qA(l:List Int)(i:Nat)(y:Int):bH (l.set i y)=(bH l).set i (.int .i64 y):=by simp[bH,aA6]
theorem Uj{ns:List Nd}(i:Nat)(x:Nd)(hx:ns[i]? = some x)(hok:uW x)(hsz:bB x.value<=1048576)(hkl:x.kids.length<=65536)(hkids:∀(j:Nat) (k:Int),x.kids[j]? = some k->0<=k/\k<i)(hkd:0<=x.kind/\x.kind<=4)(h4:4<=x.kind->0<x.kids.length)
  (ls ss:List Int) (kn:List Bool) (hls:ls.length=ns.length) (hss:ss.length=ns.length) (bl:∀y∈ls,0<=y/\y<=1024) (bs:∀y∈ss,0<=y/\y<=1024) :
  aF prog [] 61 [.ptr 0 0 0,.int .i64 i] (H2 ns ls ss kn []) 7 fun r m k=>r = .bool (decide (iJ ls x<=256) && decide (Aw ss x<=1024))/\m=H2 ns (ls.set i (iJ ls x)) (ss.set i (Aw ss x)) kn []/\k=7:=by
 have hil:=(Yn.1 hx).1;have ex:(bG ns)[((i:Nat):Int).toNat]? = some (cD x):=by simp[mM,hx]
 have hxn:=aV x;have hL:=Rw ls x hok hkl bl (fun j k hk=>by have:=hkids j k hk;omega) h4 hkd;have hV:=WG x.value hsz;have hP:Aw ss x=if x.kind=0 then(bB x.value:Int) else if x.kind=1 then 1 else if x.kind=3 then 1+iF ss x.kids else max 1 (dE ss (Go.Ax.f6 x)):=rfl
 have hs:=fun l=>jT (b:=ss) (M:=1024) (by omega) bs l
 have hm:=fun l=>iX (b:=ss) (M:=1024) (by omega) bs l
 have har:Go.Ax.f6 x=if x.kind=2 then x.kids else x.kids.drop 1:=rfl
 have hat:=fun q=>n7 (b:=ss) (M:=1024) (by omega) bs q
 have eat:∀k:Int,0<=k->k<ss.length->(bH ss)[0+k.toNat]? = some (.int .i64 (eS ss k)):=fun k h0 h1=>by
  have:k.toNat<ss.length:=by omega
  rw[ZD,bU,Yj this];unfold eS;rw[Ym,Yj this];rfl
 have hM:∀k:Nat,k<x.kids.length->(dE ss (if x.kind=2 then x.kids.take (k+1) else(x.kids.take (k+1)).drop 1))=if 0<k∨x.kind=2 then max (dE ss (if x.kind=2 then x.kids.take k else(x.kids.take k).drop 1)) (eS ss (x.kids.getD k 0)) else dE ss (if x.kind=2 then x.kids.take k else(x.kids.take k).drop 1):=fun k hk=>by
  have eg:x.kids.getD k 0=x.kids[k]:=by rw[Ym,Yj hk];rfl
  rw[eg];by_cases e2:x.kind=2
  ·rw[Yt e2,Yt (.inr e2),Yt e2,sV hk]
  ·rw[Yo e2,Yo e2];by_cases e0:0<k
   ·rw[Yt (.inl e0),qJ hk e0]
   ·rw[Yo (by omega)];have:k=0:=by omega
    subst this;simp[dE,Zw]
 have h0:0+((i:Nat):Int).toNat=i:=by simp
 have g1:Nat.blt ((i:Nat):Int).toNat ns.length=true:=Yp (by simp;omega);generalize hlen:iJ ls x=len at *;generalize hsiz:Aw ss x=siz at *;clear hlen hsiz hok;obtain⟨kind,name,lo,hi',ws,lbs,vals,kids,⟨vk,vn,vs,vks⟩⟩:=x;simp only at hsz hkl hkids hkd h4 hV hP hM;obtain⟨sv,hsv⟩:∃sv,sv=bB (.mk vk vn vs vks):=⟨_,rfl⟩
 rw[←hsv] at hV hP hsz;have f1:(bH ls)[0+((i:Nat):Int).toNat]? = some (.int .i64 ls[i]):=by rw[h0,bU,Yj (by omega)];rfl
 have f2:((bH ls).set (0+((i:Nat):Int).toNat) (.int .i64 len))[0+((i:Nat):Int).toNat]? = some (.int .i64 len):=by rw[h0];exact Zg (by rw[aI];omega)
 have f3:(bH ss)[0+((i:Nat):Int).toNat]? = some (.int .i64 ss[i]):=by rw[h0,bU,Yj (by omega)];rfl
 have f4:∀siz:Int,((bH ss).set (0+((i:Nat):Int).toNat) (.int .i64 siz))[0+((i:Nat):Int).toNat]? = some (.int .i64 siz):=fun siz=>by rw[h0];exact Zg (by rw[aI];omega)
 generalize ls[i]=l0 at f1;generalize ss[i]=s0 at f3;refine aD bD func61 rfl ?_;refine Rt ?_;repeat((first|refine aM g1 ?_|refine aB ex ?_|refine aB f1 ?_|refine aB f2 ?_);refine Rt ?_)
 refine hL.lend bD (.cons (.same _ (.ip' hxn)) (.cons (.fz' (id:=1) (t:=3) (xs:=bH ls) rfl rfl (by rw[aI];omega) (by rw[ZI];exact Yu (by rw[aI];omega)) (bE _)) .nil)) (.int _ _) ?_;refine Rt ?_;repeat((first|refine aM g1 ?_|refine aB ex ?_|refine aB f1 ?_|refine aB f2 ?_);refine Rt ?_)
 obtain⟨d1,hd1⟩:∃d1,d1=decide (len<=256):=⟨_,rfl⟩
 rw[←hd1];have fin:∀(mem:aQ) (nx:Nat) {d:Bool},d=(d1 && decide (siz<=1024))->mem=Wa ns ((bH ls).set (0+((i:Nat):Int).toNat) (.int .i64 len)) ((bH ss).set (0+((i:Nat):Int).toNat) (.int .i64 siz)) kn ->
   qE 7 (fun r m k=>r = .bool (d1 && decide (siz<=1024))/\m=H2 ns (ls.set i len) (ss.set i siz) kn []/\k=7) (.bool d) mem nx:=by
  rintro mem nx d rfl rfl;exact bF (n':=7) (m':=H2 ns (ls.set i len) (ss.set i siz) kn []) (rX [0,1,2,3,4,5,6]) rfl (kU rfl rfl rfl rfl rfl rfl rfl rfl rfl rfl (by rw[h0];exact(qA _ _ _).symm) (by rw[h0];exact(qA _ _ _).symm) rfl rfl rfl rfl trivial) (.same _ nn) ⟨rfl,rfl,rfl⟩
 have fin':∀(mem:aQ) (nx:Nat) {d:Bool},d=(d1 && decide (siz<=1024))->mem=Wa ns (bH (ls.set i len)) ((bH ss).set (0+((i:Nat):Int).toNat) (.int .i64 siz)) kn ->
   qE 7 (fun r m k=>r = .bool (d1 && decide (siz<=1024))/\m=H2 ns (ls.set i len) (ss.set i siz) kn []/\k=7) (.bool d) mem nx:=by
  rintro mem nx d rfl rfl;exact bF (n':=7) (m':=H2 ns (ls.set i len) (ss.set i siz) kn []) (rX [0,1,2,3,4,5,6]) rfl (kU rfl rfl rfl rfl rfl rfl rfl rfl rfl rfl rfl (by rw[h0];exact(qA _ _ _).symm) rfl rfl rfl rfl trivial) (.same _ nn) ⟨rfl,rfl,rfl⟩
 have f2':(bH (ls.set i len))[0+((i:Nat):Int).toNat]? = some (.int .i64 len):=by rw[h0,qA];exact Zg (by rw[aI];omega)
 rcases(show kind=0∨kind=1∨kind=2∨kind=3∨kind=4 by omega) with rfl|rfl|rfl|rfl|rfl
 ·rw[Yt rfl] at hP;subst hP;refine Rr ?_;refine hV.go ?_;refine Rt ?_;repeat((first|refine aM g1 ?_|refine aB f3 ?_|refine aB (f4 _) ?_|refine aB f2 ?_);refine Rt ?_)
  rw[←hd1];clear hd1;cases d1 with
  | true=>
   refine Rr ?_;exact fin _ _ rfl rfl
  | false=>
   refine Rr ?_;exact fin _ _ rfl rfl
 ·rw[Yo (by decide),Yt rfl] at hP;subst hP;refine Rt ?_;repeat((first|refine aM g1 ?_|refine aB f3 ?_|refine aB (f4 _) ?_|refine aB f2 ?_);refine Rt ?_)
  rw[←hd1];clear hd1;cases d1 with
  | true=>
   refine Rr ?_;exact fin _ _ rfl rfl
  | false=>
   refine Rr ?_;exact fin _ _ rfl rfl
 ·rw[Yo (by decide),Yo (by decide),Yo (by decide)] at hP;refine Rr ?_;refine aZ.at bD (fun p:Nat × Int=>p.1<=kids.length/\p.2=max 1 (dE ss (kids.take p.1)))
   (fun p=>⟨[(0,.ptr 0 0 0),(1,.int .i64 i),(5,.ip (cD ⟨2,name,lo,hi',ws,lbs,vals,kids,.mk vk vn vs vks⟩)),(6,.int .i64 p.2),(67,.il 1 (bH kids)),(68,.int .i64 kids.length),(69,.int .i64 p.1)],H2 ns (ls.set i len) ss kn [],7,112⟩) (fun p=>kids.length-p.1) (0,1) (rX [0,1,2,3,4,5,6]) ⟨by simp,by simp[dE];omega⟩
   (aE _ rfl (kU rfl rfl rfl rfl rfl rfl rfl rfl rfl rfl (by rw[h0];exact(qA _ _ _).symm) rfl rfl rfl rfl rfl trivial) ⟨aG,aK,aN (.ip' hxn),aK,aN (.il' (bE _)),⟨_,rfl,.int (by rw[aI])⟩,aK,trivial⟩) ?_
  rintro⟨j,size⟩ ⟨hj,hsize⟩;simp only at hj hsize ⊢;have bsz:=hm (kids.take j);refine Rr ?_;refine aH (fun h=>?_) (fun h=>?_)
  ·have hlt:j<kids.length:=by simpa using h
   have e1:(bH kids)[(j:Int).toNat]? = some (.int .i64 kids[j]):=by rw[Yl,bU,Yj hlt];rfl
   obtain⟨q0,q1⟩:=hkids j _ (Yj hlt);have hM:=hM j hlt;have eg:kids.getD j 0=kids[j]:=by rw[Ym,Yj hlt];rfl
   rw[eg] at hM;have hM:dE ss (kids.take (j+1))=max (dE ss (kids.take j)) (eS ss kids[j]):=by simpa using hM
   generalize kids[j]=q at e1 q0 q1 hM;obtain⟨q,rfl⟩:=Y4 q0;have e2:=eat q q0 (by omega);have hq:=hat q;have g2:Nat.blt ((q:Nat):Int).toNat ns.length=true:=Yp (by simp;omega);generalize eS ss q=z at e2 hq hM;refine Rr ?_;repeat((first|refine aM g2 ?_|refine aB e1 ?_|refine aB e2 ?_);refine Rr ?_)
   by_cases k0:0<j
   ·have d0:decide ((j:Int)>0)=true:=by simp;omega
    rw[d0];refine Rr ?_;repeat((first|refine aM g2 ?_|refine aB e1 ?_|refine aB e2 ?_);refine Rr ?_)
    exact .mk (j+1,max size z) (rX [0,1,2,3,4,5,6]) ⟨by simp only;omega,by simp only;rw[hM,hsize];omega⟩
     (aE _ rfl (oJ _ _ _ _) ⟨aG,aK,aN (.ip' hxn),⟨_,rfl,.int (by simp only;split<;>omega)⟩,aN (.il' (bE _)),aK,⟨_,rfl,.wp⟩,trivial⟩) (by simp only;omega)
   ·have d0:decide ((j:Int)>0)=false:=by simp;omega
    rw[d0];refine Rr ?_;repeat((first|refine aM g2 ?_|refine aB e1 ?_|refine aB e2 ?_);refine Rr ?_)
    exact .mk (j+1,max size z) (rX [0,1,2,3,4,5,6]) ⟨by simp only;omega,by simp only;rw[hM,hsize];omega⟩
     (aE _ rfl (oJ _ _ _ _) ⟨aG,aK,aN (.ip' hxn),⟨_,rfl,.int (by simp only;split<;>omega)⟩,aN (.il' (bE _)),aK,⟨_,rfl,.wp⟩,trivial⟩) (by simp only;omega)
  ·have hlt:j=kids.length:=by simp at h;omega
   rw[hlt,ZB,show dE ss kids=dE ss (Go.Ax.f6 ⟨2,name,lo,hi',ws,lbs,vals,kids,.mk vk vn vs vks⟩) from rfl,←hP] at hsize;subst hsize;refine Rt ?_;repeat((first|refine aM g1 ?_|refine aB f3 ?_|refine aB (f4 _) ?_|refine aB f2' ?_);refine Rt ?_)
   rw[←hd1];clear hd1;cases d1 with
   | true=>
    refine Rr ?_;exact fin' _ _ rfl rfl
   | false=>
    refine Rr ?_;exact fin' _ _ rfl rfl
 ·rw[Yo (by decide),Yo (by decide),Yt rfl] at hP;refine Rr ?_;refine aZ.at bD (fun p:Nat × Int=>p.1<=kids.length/\p.2=1+iF ss (kids.take p.1))
   (fun p=>⟨[(0,.ptr 0 0 0),(1,.int .i64 i),(6,.int .i64 p.2),(45,.il 1 (bH kids)),(46,.int .i64 kids.length),(47,.int .i64 p.1)],H2 ns (ls.set i len) ss kn [],7,112⟩) (fun p=>kids.length-p.1) (0,1) (rX [0,1,2,3,4,5,6]) ⟨by simp,by simp[iF]⟩
   (aE _ rfl (kU rfl rfl rfl rfl rfl rfl rfl rfl rfl rfl (by rw[h0];exact(qA _ _ _).symm) rfl rfl rfl rfl rfl trivial) ⟨aG,aK,aK,aN (.il' (bE _)),⟨_,rfl,.int (by rw[aI])⟩,aK,trivial⟩) ?_
  rintro⟨j,size⟩ ⟨hj,hsize⟩;simp only at hj hsize ⊢;have bsz:=hs (kids.take j);have btk:(kids.take j).length<=65536:=by simp;omega
  refine Rr ?_;refine aH (fun h=>?_) (fun h=>?_)
  ·have hlt:j<kids.length:=by simpa using h
   have e1:(bH kids)[(j:Int).toNat]? = some (.int .i64 kids[j]):=by rw[Yl,bU,Yj hlt];rfl
   obtain⟨q0,q1⟩:=hkids j _ (Yj hlt);have hst:=xA (b:=ss) hlt;generalize kids[j]=q at e1 q0 q1 hst;obtain⟨q,rfl⟩:=Y4 q0;have e2:=eat q q0 (by omega);have hq:=hat q;have g2:Nat.blt ((q:Nat):Int).toNat ns.length=true:=Yp (by simp;omega);generalize eS ss q=z at e2 hq hst;refine Rr ?_;repeat((first|refine aM g2 ?_|refine aB e1 ?_|refine aB e2 ?_);refine Rr ?_)
   exact .mk (j+1,size+z) (rX [0,1,2,3,4,5,6]) ⟨by simp only;omega,by simp only;rw[hst,hsize];omega⟩
    (aE _ rfl (oJ _ _ _ _) ⟨aG,aK,⟨_,rfl,.w64 rfl ⟨by simp only;omega,by simp only;omega⟩⟩,aN (.il' (bE _)),aK,⟨_,rfl,.wp⟩,trivial⟩) (by simp only;omega)
  ·have hlt:j=kids.length:=by simp at h;omega
   rw[hlt,ZB,←hP] at hsize;subst hsize;refine Rt ?_;repeat((first|refine aM g1 ?_|refine aB f3 ?_|refine aB (f4 _) ?_|refine aB f2' ?_);refine Rt ?_)
   rw[←hd1];clear hd1;cases d1 with
   | true=>
    refine Rr ?_;exact fin' _ _ rfl rfl
   | false=>
    refine Rr ?_;exact fin' _ _ rfl rfl
 ·rw[Yo (by decide),Yo (by decide),Yo (by decide)] at hP;refine Rr ?_;refine aZ.at bD (fun p:Nat × Int=>p.1<=kids.length/\p.2=max 1 (dE ss ((kids.take p.1).drop 1)))
   (fun p=>⟨[(0,.ptr 0 0 0),(1,.int .i64 i),(5,.ip (cD ⟨4,name,lo,hi',ws,lbs,vals,kids,.mk vk vn vs vks⟩)),(6,.int .i64 p.2),(67,.il 1 (bH kids)),(68,.int .i64 kids.length),(69,.int .i64 p.1)],H2 ns (ls.set i len) ss kn [],7,112⟩) (fun p=>kids.length-p.1) (0,1) (rX [0,1,2,3,4,5,6]) ⟨by simp,by simp[dE];omega⟩
   (aE _ rfl (kU rfl rfl rfl rfl rfl rfl rfl rfl rfl rfl (by rw[h0];exact(qA _ _ _).symm) rfl rfl rfl rfl rfl trivial) ⟨aG,aK,aN (.ip' hxn),aK,aN (.il' (bE _)),⟨_,rfl,.int (by rw[aI])⟩,aK,trivial⟩) ?_
  rintro⟨j,size⟩ ⟨hj,hsize⟩;simp only at hj hsize ⊢;have bsz:=hm ((kids.take j).drop 1);refine Rr ?_;refine aH (fun h=>?_) (fun h=>?_)
  ·have hlt:j<kids.length:=by simpa using h
   have e1:(bH kids)[(j:Int).toNat]? = some (.int .i64 kids[j]):=by rw[Yl,bU,Yj hlt];rfl
   obtain⟨q0,q1⟩:=hkids j _ (Yj hlt);have hM:=hM j hlt;have eg:kids.getD j 0=kids[j]:=by rw[Ym,Yj hlt];rfl
   rw[eg] at hM;have hM:0<j->dE ss ((kids.take (j+1)).drop 1)=max (dE ss ((kids.take j).drop 1)) (eS ss kids[j]):=fun hj=>by rw[qJ hlt hj]
   generalize kids[j]=q at e1 q0 q1 hM;obtain⟨q,rfl⟩:=Y4 q0;have e2:=eat q q0 (by omega);have hq:=hat q;have g2:Nat.blt ((q:Nat):Int).toNat ns.length=true:=Yp (by simp;omega);generalize eS ss q=z at e2 hq hM;refine Rr ?_;repeat((first|refine aM g2 ?_|refine aB e1 ?_|refine aB e2 ?_);refine Rr ?_)
   by_cases k0:0<j
   ·have d0:decide ((j:Int)>0)=true:=by simp;omega
    rw[d0];refine Rr ?_;repeat((first|refine aM g2 ?_|refine aB e1 ?_|refine aB e2 ?_);refine Rr ?_)
    exact .mk (j+1,max size z) (rX [0,1,2,3,4,5,6]) ⟨by simp only;omega,by simp only;rw[hM k0,hsize];omega⟩
     (aE _ rfl (oJ _ _ _ _) ⟨aG,aK,aN (.ip' hxn),⟨_,rfl,.int (by simp only;split<;>omega)⟩,aN (.il' (bE _)),aK,⟨_,rfl,.wp⟩,trivial⟩) (by simp only;omega)
   ·have d0:decide ((j:Int)>0)=false:=by simp;omega
    rw[d0];refine Rr ?_;repeat((first|refine aM g2 ?_|refine aB e1 ?_|refine aB e2 ?_);refine Rr ?_)
    have j0:j=0:=by omega
    subst j0;exact .mk (1,size) (rX [0,1,2,3,4,5,6]) ⟨by simp only;omega,by simp only;rw[hsize];simp[Zw]⟩
     (aE _ rfl (oJ _ _ _ _) ⟨aG,aK,aN (.ip' hxn),aK,aN (.il' (bE _)),aK,⟨_,rfl,.wp⟩,trivial⟩) (by simp only;omega)
  ·have hlt:j=kids.length:=by simp at h;omega
   rw[hlt,ZB,show dE ss (kids.drop 1)=dE ss (Go.Ax.f6 ⟨4,name,lo,hi',ws,lbs,vals,kids,.mk vk vn vs vks⟩) from rfl,←hP] at hsize;subst hsize;refine Rt ?_;repeat((first|refine aM g1 ?_|refine aB f3 ?_|refine aB (f4 _) ?_|refine aB f2' ?_);refine Rt ?_)
   rw[←hd1];clear hd1;cases d1 with
   | true=>
    refine Rr ?_;exact fin' _ _ rfl rfl
   | false=>
    refine Rr ?_;exact fin' _ _ rfl rfl
theorem Uw{ns:List Nd}{n:Nat}(h:iY ns n)(x:Nd)(hvl:x.values.length<=1000000)(hk4:x.kind=4->∃k:Nat,x.kids[0]? = some (k:Int)/\k<n)(ls ss:List Int)(kn:List Bool)(hk:kn.length=ns.length) :
  aF prog [] 62 [.ptr 0 0 0,.ip (cD x)] (H2 ns ls ss kn []) 7 fun r m k=>∃kn',kn'.length=ns.length /\
   r = .int .i64 (if x.kind=4 then(if (dS (aO ns) (x.kids.getD 0 0)).many=true then 4 else if c9 (dS (aO ns) (x.kids.getD 0 0)).vals x.values=true then 0 else 1) else 0)/\m=H2 ns ls ss kn' []/\k=7:=by
 have hxn:=aV x;generalize hres:(if x.kind=4 then(if (dS (aO ns) (x.kids.getD 0 0)).many=true then 4 else if c9 (dS (aO ns) (x.kids.getD 0 0)).vals x.values=true then 0 else 1) else(0:Int))=res;have fin:∀(kn':List Bool) (mem:aQ) (nx:Nat) (c:Int),kn'.length=ns.length->c=res->dV mem (rX [0,1,2,3,4,5,6]) (H2 ns ls ss kn' []) ->
   qE 7 (fun r m k=>∃kn',kn'.length=ns.length/\r = .int .i64 res/\m=H2 ns ls ss kn' []/\k=7) (.int .i64 c) mem nx:=by
  rintro kn' mem nx c hk' rfl hM;exact bF (n':=7) (m':=H2 ns ls ss kn' []) (rX [0,1,2,3,4,5,6]) rfl hM (.same _ nn) ⟨kn',hk',rfl,rfl,rfl⟩
 by_cases e4:x.kind=4
 ·obtain⟨k,hkg,hkn⟩:=hk4 e4;have eg:x.kids.getD 0 0=(k:Int):=by rw[Ym,hkg];rfl
  rw[Yt e4,eg] at hres;have ek:(bH x.kids)[(0:Int).toNat]? = some (.int .i64 k):=by rw[show (0:Int).toNat=0 from rfl,bU,hkg];rfl
  have hO:=YY h k hkn kn hk;have hv:=h.vals (k:=k) (by omega) (by omega);obtain⟨lk,hlk⟩:∃lk,lk=dS (aO ns) k:=⟨_,rfl⟩
  unfold sQ at hO;rw[←hlk] at hv hres;simp only[←hlk] at hO;obtain⟨lv,lm⟩:=lk;simp only at hv hres;have hE:=fun l (hl:l.length<=1024) hok=>Kh l x.values (by omega) (by omega) hok
  obtain⟨kind,name,lo,hi',ws,lbs,vals,kids,⟨vk,vn,vs,vks⟩⟩:=x;simp only at e4 ek hvl hE hres;subst e4;refine aD bD func62 rfl ?_;refine Rr ?_;repeat((first|refine aB ek ?_|refine bO ?_);refine Rr ?_)
  refine aF.useR bD [(3,0),(4,1),(5,2),(6,3)] hO (by rfl) (.cons (.ptr 3 0 0 0 rfl) (.s .nil)) ⟨⟨3,_,rfl,rfl,HV rfl rfl rfl⟩,aL 4 (Au _),aL 5 (CR _ _),aL 6 (Ay _ _),trivial⟩ (by rfl) ?_;rintro r m nn' ⟨kn',hk',rfl,rfl,rfl⟩;refine⟨[(3,.row 195 4 [.agg [.il 12 (bG ns),.sl 4 0 ns.length,.sl 5 0 ns.length,.sl 6 0 ns.length]]),(4,.row 4 1 (kB kn')),(5,.row 53 1 (lB (aO ns) kn')),(6,.row 4 1 (mB (aO ns) kn'))],nn,⟨⟨0,_,rfl,rfl,HV rfl rfl rfl⟩,aL 1 (Au _),aL 2 (CR _ _),aL 3 (Ay _ _),trivial⟩,by rfl, ?_⟩;cases lm with
  | true=>
   refine Rr ?_;refine fin kn' _ _ _ hk' (by rw[←hres];simp) ?_;exact kU rfl rfl rfl rfl rfl rfl rfl rfl rfl rfl rfl rfl rfl rfl rfl rfl trivial
  | false=>
   have hE:=hE lv hv.1 hv.2;obtain⟨sv,hsv⟩:∃sv,sv=c9 lv vals:=⟨_,rfl⟩
   rw[←hsv] at hE hres;refine Rr ?_;refine hE.go ?_;cases sv with
   | true=>
    refine Rr ?_;refine fin kn' _ _ _ hk' (by rw[←hres];simp) ?_;exact kU rfl rfl rfl rfl rfl rfl rfl rfl rfl rfl rfl rfl rfl rfl rfl rfl trivial
   | false=>
    refine Rr ?_;refine fin kn' _ _ _ hk' (by rw[←hres];simp) ?_;exact kU rfl rfl rfl rfl rfl rfl rfl rfl rfl rfl rfl rfl rfl rfl rfl rfl trivial
 ·rw[Yo e4] at hres;obtain⟨kind,name,lo,hi',ws,lbs,vals,kids,⟨vk,vn,vs,vks⟩⟩:=x;simp only at e4;refine aD bD func62 rfl ?_;refine Rr ?_;refine aH (fun _=>?_) (fun h=>absurd (by simpa using h) e4);refine Rr ?_;exact fin kn _ _ _ hk hres (oJ _ _ _ _)
set_option maxHeartbeats 8000000
theorem U4(n:Nat):kB (List.replicate n false)=List.replicate n (.bool false):=by simp[kB]
theorem U9(L:List jF):lB L (List.replicate L.length false)=encLs (List.replicate L.length []):=by
 unfold lB encLs
 induction L with
 | nil=>rfl
 | cons a L ih=>simpa[Zt] using ih
theorem Va(L:List jF):mB L (List.replicate L.length false)=List.replicate L.length (.bool false):=by
 unfold mB
 induction L with
 | nil=>rfl
 | cons a L ih=>simpa[Zt] using ih
theorem Pr(ns:List Nd)(hl:ns.length<=4096):aF prog [] 56 [.agg [.il 12 (bG ns)]] [] 0 fun r m k=>r = .ptr 0 0 0/\m=sM ns (List.replicate ns.length false)/\k=4:=by
 have hlen:(bG ns).length=ns.length:=cG ns;refine aD bD func56 rfl ?_;refine Rr ?_;rw[hlen];refine Rr ?_;refine aM (cL rfl (cL rfl (cL rfl (cL (Y0 (by omega)) (cL (Y0 (by omega)) (cL (wP rfl (by omega) (by omega)) (Y0 (by omega)))))))) ?_;refine Rr ?_;repeat((first|refine aM (cL rfl (cL rfl (cL rfl (cL (Y0 (by omega)) (cL (Y0 (by omega)) (cL (wP rfl (by omega) (by omega)) (Y0 (by omega)))))))) ?_|refine bO ?_);refine Rr ?_)
 have e:((ns.length:Nat):Int).toNat=ns.length:=by simp
 rw[e];have hL:(aO ns).length=ns.length:=eH ns;have e2:=U9 (aO ns);have e3:=Va (aO ns);rw[hL] at e2 e3;refine bF (n':=4) (m':=sM ns (List.replicate ns.length false)) [(10,0),(4,1),(6,2),(8,3)] rfl ⟨⟨10,_,rfl,rfl,HV rfl rfl rfl⟩,⟨4,_,rfl,rfl,.eq (Au _) (U4 _).symm⟩,⟨6,_,rfl,rfl,by rw[e2];exact Ek _⟩,⟨8,_,rfl,rfl,.eq (Ay _ _) e3.symm⟩,trivial⟩ (.ptr 10 0 0 0 rfl) ⟨rfl,rfl,rfl⟩
structure L7(ns:List Nd):Prop where
 ok:∀x∈ns,uW x
 val:∀x∈ns,bB x.value<=1048576
 vals:∀x∈ns,∀v∈x.values,bB v<=1048576
 vlen:∀x∈ns,x.values.length<=1000000
 klen:∀x∈ns,x.kids.length<=65536
def Hi(l:List Int)(n:Nat):List Int:=l++List.replicate (n-l.length) 0
theorem EN{l:List Int}{n:Nat}(h:l.length<=n):(Hi l n).length=n:=by simp[Hi];omega
theorem Lg{l:List Int}{n:Nat}(y:Int)(h:l.length<n):(Hi l n).set l.length y=Hi (l++[y]) n:=by
 unfold Hi;rw[aA1 _ _ (Yy _),aBx];obtain⟨m,hm⟩:∃m,n-l.length=m+1:=⟨n-l.length-1,by omega⟩
 rw[hm,Zt,aBf,Y1,Zf,show n-(l.length+1)=m by omega];simp
theorem LV{l:List Int}{n:Nat}{k:Int}(h0:0<=k)(h1:k<l.length):eS (Hi l n) k=eS l k:=MV h0 h1
theorem Ls{l:List Int}{n:Nat}(h:∀y∈l,0<=y/\y<=1024):∀y∈Hi l n,0<=y/\y<=1024:=by
 intro y hy;rcases Yz.1 hy with hy|hy
 ·exact h y hy
 ·have:=aAU hy;omega
theorem HR{i:Int}{x:Nd}(h:s8 x=false):dN i x=false:=by
 cases e:dN i x with
 | false=>rfl
 | true=>
  unfold dN at e;simp only[Yk] at e;have:s8 x=true:=by
   unfold s8;rw[e.1.1.1.1.1.1];simpa using e.1.1.1.1.1.2
  rw[this] at h;cases h
theorem Ge{i:Int}{x:Nd}(h:dN i x=false):fS i x=1:=by unfold fS;rw[Yt h]
theorem QV{i:Int}{x:Nd}(h:dN i x=true)(h2:eP (qM x)≠0):fS i x=eP (qM x):=by unfold fS;rw[Yo (by rw[h];simp),Yt h2]
theorem QL{i:Int}{x:Nd}(h:dN i x=true)(h2:eP (qM x)=0)(h3:dT x=false):fS i x=5:=by unfold fS;rw[Yo (by rw[h];simp),Yo (by omega),Yt h3]
theorem NG{i:Int}{x:Nd}(h:dN i x=true)(h2:eP (qM x)=0)(h3:dT x=true):fS i x=0:=by unfold fS;rw[Yo (by rw[h];simp),Yo (by omega),Yo (by rw[h3];simp)]
theorem xV{b:List Nd}{ls ss:List Int}{x:Nd}{e:Int}(h:fS b.length x=e)(he:e≠0):iE b ls ss x=e:=by unfold iE;rw[Yt (by rw[h];exact he),h]
theorem Pw{b:List Nd}{ls ss:List Int}{x:Nd}(h:fS b.length x=0)(h2:256<iJ ls x∨1024<lP ss x):iE b ls ss x=4:=by unfold iE;rw[Yo (by omega),Yt h2]
theorem QQ{b:List Nd}{ls ss:List Int}{x:Nd}(h:fS b.length x=0)(h2:¬(256<iJ ls x∨1024<lP ss x)):iE b ls ss x=if x.kind=4 then fK b x else 0:=by unfold iE;rw[Yo (by omega),Yo h2]
theorem Gv(ns:List Nd)(h:L7 ns):aT prog [] 19 [.agg [.il 12 (bG ns)]] (.int .i64 (dM ns)):=by
 have hlen:(bG ns).length=ns.length:=cG ns;refine aD bD func19 rfl ?_;refine Rr ?_;rw[hlen];refine aH (fun hb=>?_) (fun hb=>?_)
 ·have h1:4096<ns.length:=by simp at hb;omega
  have:dM ns=4:=by unfold dM;rw[Yt h1]
  rw[this];refine Rr ?_;exact aA nn ⟨rfl,rfl,rfl⟩
 ·have h1:ns.length<=4096:=by simp at hb;omega
  have:dM ns=cP [] ns:=by unfold dM;rw[Yo (by omega)]
  rw[this];generalize hres:cP [] ns=res;have hN:=Pr ns h1;refine Rr ?_;rw[hlen];refine Rr ?_;repeat((first|refine aM (cL rfl (cL rfl (cL rfl (cL (Y0 (by omega)) (cL (Y0 (by omega)) (cL (wP rfl (by omega) (by omega)) (Y0 (by omega)))))))) ?_|refine bO ?_);refine Rr ?_)
  refine aF.useN bD [] hN rfl (.same (.cons (.agg' (.cons (.il' (aP _)) .nil)) .nil)) trivial rfl ?_;rintro r m k ⟨rfl,rfl,rfl⟩;refine⟨[(0,16),(1,17),(2,18),(3,19)],.ptr 16 0 0,[(16,.row 195 4 [.agg [.il 12 (bG ns),.sl 17 0 ns.length,.sl 18 0 ns.length,.sl 19 0 ns.length]]),(17,.row 4 1 (kB (List.replicate ns.length false))),(18,.row 53 1 (lB (aO ns) (List.replicate ns.length false))),(19,.row 4 1 (mB (aO ns) (List.replicate ns.length false)))],20,
   .ptr 0 16 0 0 rfl,⟨⟨0,_,rfl,rfl,HV rfl rfl rfl⟩,aL 1 (Au _),aL 2 (CR _ _),aL 3 (Ay _ _),trivial⟩,rfl, ?_⟩
  refine Rt ?_;have e:((ns.length:Nat):Int).toNat=ns.length:=by simp
  rw[hlen,e];refine aZ.at bD (fun p:Nat × List Bool=>p.1<=ns.length/\p.2.length=ns.length/\cP [] (ns.take p.1)=0)
   (fun p=>⟨[(1,.ptr 7 0 0),(3,.ptr 0 0 0),(28,.int .i64 ns.length),(29,.int .i64 p.1)],H2 ns (Hi (b8 (ns.take p.1)) ns.length) (Hi (cV (ns.take p.1)) ns.length) p.2 [(7,.row 25 1 [.agg [.il 12 (bG ns)]])],8,64⟩)
   (fun p=>ns.length-p.1) (0,List.replicate ns.length false) [(14,0),(6,1),(10,2),(16,3),(17,4),(18,5),(19,6),(0,7)] ⟨by simp,by simp,rfl⟩
   (aE _ rfl ⟨⟨14,_,rfl,rfl,V2 rfl rfl rfl⟩,⟨6,_,rfl,rfl,.eq (bE _) (by simp[Hi,b8,bH])⟩,⟨10,_,rfl,rfl,.eq (bE _) (by simp[Hi,cV,bH])⟩,⟨16,_,rfl,rfl,HV rfl rfl rfl⟩,aL 17 (Au _),aL 18 (CR _ _),aL 19 (Ay _ _),aL 0 (.cons (.agg' (.cons (.il' (aP _)) .nil)) .nil),trivial⟩
    ⟨aG,aG,aK,aK,trivial⟩) ?_
  rintro⟨i,kn⟩ ⟨hi,hk,hv⟩;simp only at hi hk hv ⊢;refine Rr ?_;refine aH (fun hb2=>?_) (fun hb2=>?_)
  ·have hil:i<ns.length:=by simpa using hb2
   obtain⟨x,hx⟩:∃x,ns[i]? = some x:=⟨ns[i],Yj hil⟩
   have hxe:=(Yn.1 hx).2;have hxm:=Yv hx;have ex:(bG ns)[((i:Nat):Int).toNat]? = some (cD x):=by simp[mM,hx]
   have hxn:=aV x;have hti:(ns.take i).length=i:=by rw[ZT];omega
   have hll:(b8 (ns.take i)).length=i:=by rw[kH,hti]
   have hsl:(cV (ns.take i)).length=i:=by rw[kJ,hti]
   have hsplit:ns=ns.take i++x::ns.drop (i+1):=by rw[←hxe];simp
   have hstop:∀e:Int,iE (ns.take i) (b8 (ns.take i)) (cV (ns.take i)) x=e->e≠0->e=res:=fun e h1 h2=>by
    rw[←hres,hsplit,vZ hv (by rw[h1];exact h2),h1]
   have hnext:ns.take (i+1)=ns.take i++[x]:=by rw[Ys hil,hxe]
   have hgo:iE (ns.take i) (b8 (ns.take i)) (cV (ns.take i)) x=0->cP [] (ns.take (i+1))=0:=fun h1=>by
    rw[hnext,gF [] _ _ hv];exact h1
   have hC:=UX x (h.ok x hxm);have hSh:=S1 ns i x (by omega) hx (h.ok x hxm) (h.vlen x hxm);have hPa:=VV x (h.ok x hxm) (h.val x hxm) (h.vals x hxm);have hRa:=Uf x (h.ok x hxm);refine Rr ?_;repeat(refine aB ex ?_;refine Rr ?_)
   refine hC.go ?_ (.cons (.ip' hxn) .nil);cases hc:s8 x with
   | false=>
    refine Rr ?_;refine aA nn ⟨?_,rfl,rfl⟩;rw[hstop 1 (xV (Ge (HR hc)) (by omega)) (by omega)]
   | true=>
    have hSh:=hSh hc;have hcc:iB [] [] [.il 12 (bG ns),.sl 1 0 ns.length,.sl 2 0 ns.length,.ptr 3 0 0] [.il 12 (bG ns),.junk,.junk,.junk]:=.cons (.same _ (.il' (aP _))) (.cons (.junk _) (.cons (.junk _) (.cons (.junk _) .nil)));refine Rr ?_;refine hSh.lend bD (.cons (.fzp 0 0 0 122 4 _ _ _ rfl rfl rfl (Yy _) fun k c c' h1 h2=>by
     rw[ZD] at h1;exact(iB.cons (.same _ (.il' (aP _))) (.cons (.junk _) (.cons (.junk _) (.cons (.junk _) .nil)))).2 k c c' h1 h2) (.s .nil)) (.bool _) ?_
    clear hcc;cases hf:dN i x with
    | false=>
     refine Rr ?_;refine aA nn ⟨?_,rfl,rfl⟩;rw[hstop 1 (xV (by rw[hti];exact Ge hf) (by omega)) (by omega)]
    | true=>
     have hk0:x.kind=0->x.values=[]:=fun e0=>by
      unfold dN lH at hf;simp only[Yk,Zy,ZA] at hf;rcases hf.1.1.1.1.1.1.1.2 with h'|h'
      ·omega
      ·exact Zn.1 h'
     have hPa:=hPa hk0;refine Rr ?_;refine hPa.go ?_ (.cons (.ip' hxn) .nil);generalize hfe:eP (qM x)=fe;refine Rr ?_;refine aH (fun hb3=>?_) (fun hb3=>?_)
     ·have h0:fe≠0:=by simpa using hb3
      refine Rr ?_;refine aA nn ⟨?_,rfl,rfl⟩;rw[hstop fe (xV (by rw[hti,QV hf (by rw[hfe];exact h0),hfe]) h0) h0]
     ·have h0:fe=0:=by simpa using hb3
      rw[h0] at hfe;refine Rr ?_;refine hRa.go ?_ (.cons (.ip' hxn) .nil);cases hn:dT x with
      | false=>
       refine Rr ?_;refine aA nn ⟨?_,rfl,rfl⟩;rw[hstop 5 (xV (by rw[hti];exact QL hf hfe hn) (by omega)) (by omega)]
      | true=>
       have hz:fS (ns.take i).length x=0:=by rw[hti];exact NG hf hfe hn
       have hnode:=mT (i:=i) (x:=x) (by rw[←hti];exact hz);have hlens:=kE _ hv;have hS:=Uj i x hx (h.ok x hxm) (h.val x hxm) (h.klen x hxm) hnode.kids hnode.kind (fun e4=>by have:=hnode.bind (by have:=hnode.kind;omega);omega) (Hi (b8 (ns.take i)) ns.length) (Hi (cV (ns.take i)) ns.length) kn (EN (by omega)) (EN (by omega)) (Ls hlens.1) (Ls hlens.2);have hkm:∀k∈x.kids,0<=k/\k<i:=fun k hk=>by
        obtain⟨j,hj⟩:=ZQ hk;exact hnode.kids j k hj
       rw[ET (b:=b8 (ns.take i)) (fun k hk=>LV (hkm k hk).1 (by rw[hll];exact(hkm k hk).2)) (fun e4=>by have:=hnode.bind e4;omega) hnode.kind,
        KJ (b:=cV (ns.take i)) (fun k hk=>LV (hkm k hk).1 (by rw[hsl];exact(hkm k hk).2))] at hS
       refine Rr ?_;refine aF.useI bD [0,1,2,3,4,5,6] hS (by rfl) (.cons (.ptr 0 0 0 0 rfl) (.s .nil)) (oJ _ _ _ _) (by rfl) ?_;rintro r m k' ⟨rfl,rfl,rfl⟩;refine⟨nn,oJ _ _ _ _,by rfl, ?_⟩;cases hfit:(decide (iJ (b8 (ns.take i)) x<=256) && decide (Aw (cV (ns.take i)) x<=1024)) with
       | false=>
        have hbig:256<iJ (b8 (ns.take i)) x∨1024<lP (cV (ns.take i)) x:=by
         simp only[aAu,aAf] at hfit;rw[MT] at hfit;omega
        refine Rr ?_;refine aA nn ⟨?_,rfl,rfl⟩;rw[hstop 4 (Pw hz hbig) (by omega)]
       | true=>
        have hfit':¬(256<iJ (b8 (ns.take i)) x∨1024<lP (cV (ns.take i)) x):=by
         simp only[Yk,ZA] at hfit;rw[MT] at hfit;omega
        have hstep:=QQ hz hfit';have hso:iY ns i:=⟨hi,h1,h.ok,hv⟩
        have hkid:x.kind=4->∃k:Nat,x.kids[0]? = some (k:Int)/\k<i:=fun e4=>by
         have hl:=hnode.bind e4;obtain⟨k0,k1⟩:=hnode.kids 0 x.kids[0] (Yj (by omega));obtain⟨k,hk⟩:=Y4 k0;exact⟨k,by rw[Yj (by omega),hk],by omega⟩
        have hb:x.kind=4->fK (ns.take i) x=(if (dS (aO ns) (x.kids.getD 0 0)).many=true then 4 else if c9 (dS (aO ns) (x.kids.getD 0 0)).vals x.values=true then 0 else 1):=fun e4=>by
         obtain⟨k,hk,hki⟩:=hkid e4;have eg:x.kids.getD 0 0=(k:Int):=by rw[Ym,hk];rfl
         unfold fK;rw[eg,aAM,aAm (by simp;omega),l9 (by omega) (by simp;omega) (by simp;omega)]
        have hT:=Uw hso x (h.vlen x hxm) hkid ((Hi (b8 (ns.take i)) ns.length).set i (iJ (b8 (ns.take i)) x)) ((Hi (cV (ns.take i)) ns.length).set i (Aw (cV (ns.take i)) x)) kn hk;have hstep:iE (ns.take i) (b8 (ns.take i)) (cV (ns.take i)) x=(if x.kind=4 then(if (dS (aO ns) (x.kids.getD 0 0)).many=true then 4 else if c9 (dS (aO ns) (x.kids.getD 0 0)).vals x.values=true then 0 else 1) else 0):=by
         rw[hstep];by_cases e4:x.kind=4
         ·rw[Yt e4,Yt e4,hb e4]
         ·rw[Yo e4,Yo e4]
        rw[←hstep] at hT;refine Rr ?_;refine aF.useI bD [0,1,2,3,4,5,6] hT (by rfl) (.cons (.ptr 0 0 0 0 rfl) (.cons (.same _ (.ip' hxn)) .nil)) (oJ _ _ _ _) (by rfl) ?_;rintro r m k' ⟨kn',hk',rfl,rfl,rfl⟩;refine⟨nn,oJ _ _ _ _,by rfl, ?_⟩;generalize hse:iE (ns.take i) (b8 (ns.take i)) (cV (ns.take i)) x=se;refine Rr ?_;refine aH (fun hb4=>?_) (fun hb4=>?_)
        ·have h0:se≠0:=by simpa using hb4
         refine Rr ?_;refine aA nn ⟨?_,rfl,rfl⟩;rw[hstop se hse h0]
        ·have h0:se=0:=by simpa using hb4
         rw[h0] at hse;have hP:=SI (fun y hy=>h.ok y (ZG hy)) hv hse;have e1:(Hi (b8 (ns.take i)) ns.length).set i (iJ (b8 (ns.take i)) x)=Hi (b8 (ns.take (i+1))) ns.length:=by
          rw[hnext,lK]
          conv=>lhs;rw[←hll]
          rw[hll];have:=Lg (l:=b8 (ns.take i)) (n:=ns.length) (iJ (b8 (ns.take i)) x) (by omega);rw[hll] at this;exact this
         have e2:(Hi (cV (ns.take i)) ns.length).set i (Aw (cV (ns.take i)) x)=Hi (cV (ns.take (i+1))) ns.length:=by
          rw[hP,hnext,lV];have:=Lg (l:=cV (ns.take i)) (n:=ns.length) (lP (cV (ns.take i)) x) (by omega);rw[hsl] at this;exact this
         rw[e1,e2];refine Rr ?_;exact .mk (i+1,kn') (rX [0,1,2,3,4,5,6,7]) ⟨by simp only;omega,hk',hgo hse⟩
          (aE _ rfl (kU rfl rfl rfl rfl rfl rfl rfl rfl rfl rfl rfl rfl rfl rfl rfl rfl ⟨aL 7 (.cons (.agg' (.cons (.il' (aP _)) .nil)) .nil),trivial⟩) ⟨aG,aG,aK,⟨_,rfl,.wp⟩,trivial⟩) (by simp only;omega)
  ·have hil:i=ns.length:=by simp at hb2;omega
   rw[hil,ZB,hres] at hv;subst hv;refine Rr ?_;exact aA nn ⟨rfl,rfl,rfl⟩
set_option maxHeartbeats 16000000
theorem T0{A:List Nd}(h:VT A):∀i,i<A.length->Rc A i:=by
 intro i
 induction i using Nat.strongRecOn with
 | ind i ih=>exact fun hi=>XH h i hi fun j hj=>ih j hj (by omega)
theorem Ln(n:Nat):∃b,i7 (uT n) = .agg [.bool false,.il 1 (bX (dg 4294967296 n)),.bool b]:=by
 unfold uT;split
 ·rename_i h;subst h;exact⟨false,by rw[dg];rfl⟩
 ·exact⟨true,rfl⟩
theorem J5(A:List Nd):aF prog [] 36 [.agg [.il 12 (bG A)]] [] 0 fun r m k=>r = .ptr 0 0 0/\m=uU A []/\k=2:=by
 have hF:=QI 1 ⟨by omega,by omega⟩;rw[show (1:Int)=((1:Nat):Int) from rfl,dF] at hF;have nA:=aP A;generalize hN:bG A=N at *;refine aD bD func36 rfl ?_;refine Rr ?_;refine hF.go ?_ (.cons nn .nil) (.agg' (.cons (tB _) (.cons (tU _) .nil)));refine Rt ?_;subst hN;exact bF (r':=.ptr 0 0 0) (n':=2) (m':=uU A []) [(6,0),(4,1)] rfl (dD (i:=6) (j:=4) rfl rfl rfl rfl) (.ptr 6 0 0 0 rfl) ⟨rfl,rfl,rfl⟩
theorem Vi{A:List Nd}(h:VT A):aF prog [] 35 [.agg [.il 12 (bG A)],.ptr 0 0 0,.agg [.bool false,.nsl]] (uU A []) 2 fun r m k=>r=kC ((cZ.all A (A.length-1):Nat):Int)/\(∃L,m=uU A L)/\k=2:=by
 have hp:=h.pos;have iA:=T0 h (A.length-1) (by omega);obtain⟨b,hb⟩:=Ln (cZ.all A (A.length-1));rw[←xN h (by omega)] at hb;rw[dF];generalize cZ.all A (A.length-1)=n at *;have hlen:(bG A).length=A.length:=cG A;have hl:=h.tin.len;refine aD bD func35 rfl ?_;refine Rr ?_;rw[show ((((bG A).length:Nat):Int) == 0)=false from beq_eq_false_iff_ne.2 (by omega)];have hw:IntKind.i64.wrap ((((bG A).length:Nat):Int)-1)=((A.length-1:Nat):Int):=by rw[hlen,bA ⟨by omega,by omega⟩];omega
 refine Rr ?_;rw[hw];refine Rr ?_;refine I8 iA (L:=[]) (by simp) rfl hb fun L2 hL2=>?_
 refine Rt ?_;exact bF (n':=2) (m':=uU A L2) [(0,0),(1,1)] rfl (dD (i:=0) (j:=1) rfl rfl rfl rfl) (.same _ (.agg' (.cons (tB _) (.cons (tU _) .nil)))) ⟨rfl,⟨L2,rfl⟩,rfl⟩
end Go.Proofs.YtidjhgajglebnaaGreatDoor
