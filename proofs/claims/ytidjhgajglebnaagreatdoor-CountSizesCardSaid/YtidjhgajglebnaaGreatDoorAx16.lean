/- A part of the proof. -/
import Derived.Test.YtidjhgajglebnaaGreatDoorAx15
import Derived.Test.YtidjhgajglebnaaGreatDoorProg
import Derived.KernelRfl
set_option linter.unusedVariables false
set_option linter.unusedSimpArgs false
set_option maxRecDepth 1000000
set_option maxHeartbeats 16000000
namespace Go.Proofs.YtidjhgajglebnaaGreatDoor
open Go Go.Ax Go.Proofs Tryz
variable{J:List (Nat × Nat)}{ns:List Nd}{n i k:Nat}{mem:aP}{V β:Type}{l:List aQ}{b:Bool}{ss ls:List Int}{kn:List Bool}
theorem Tp(l m:List aQ)(hl:l.length<=4294967296)(hok:∀a∈l,iO a):aT prog [] 74 [.il 4 (aU l),.il 4 (aU m)] (.bool (dK l m)):=by
 refine aD bE func74 rfl ?_;refine Rr ?_;refine aI (λh=>?_) (λh=>?_)
 .refine Rr ?_;refine aA nn ⟨?_,rfl,rfl⟩;rw[aC,aC] at h;rw[FD (by simp at h;omega)]
 have hlen:l.length=m.length:=by rw[aC,aC] at h;simp at h;omega
 refine Rr ?_;refine bA.at bE (λk:Nat=>k<=l.length/\dK l m=dK (l.drop k) (m.drop k))
  (λk=>⟨[(0,.il 4 (aU l)),(1,.il 4 (aU m)),(5,.int .i64 k)],[],0,27⟩) (λk=>l.length-k) 0 [] ⟨sq,sq⟩
  (bX ⟨aJ,aJ,aJ,trivial⟩) ?_
 rintro k ⟨hk,hs⟩;refine Rr ?_;refine aI (λh=>?_) (λh=>?_)
 .have hlt:k<l.length:=Jp h;obtain⟨p1,p2,p3,p4,pm,pg,pe,ep⟩:=cX (l:=l) (k:=k) hlt;obtain⟨q1,q2,q3,q4,qm,qg,qe,eq⟩:=cX (l:=m) (k:=k) om;have hc:=tK (.mk p1 p2 p3 p4) (.mk q1 q2 q3 q4) (hok _ pm);rw[List.drop_eq_getElem_cons hlt,List.drop_eq_getElem_cons (show k<m.length by omega),pe,qe,dK] at hs;generalize cJ (.mk p1 p2 p3 p4) (.mk q1 q2 q3 q4)=c at hc hs;refine Rr ?_;repeat((first|refine aB ep ?_|refine aB eq ?_|refine bQ ?_);refine Rr ?_)
  refine hc.go ?_;refine Rr ?_;repeat((first|refine aB ep ?_|refine aB eq ?_|refine bQ ?_);refine Rr ?_)
  refine aI (λh=>?_) (λh=>?_)
  .refine Rr ?_;refine aA nn ⟨?_,rfl,rfl⟩;rw[hs,aAw (su h)];rfl
  .refine Rr ?_;refine .mk (k+1) [] ⟨om, ?_⟩ (bX ⟨aJ,aJ,⟨_,rfl,.w64 om oq⟩,trivial⟩) om;rw[hs,aAn (su h),aBY]
 .have hge:l.length<=k:=Jd h;refine Rr ?_;refine aA nn ⟨?_,rfl,rfl⟩;rw[hs,aBk om,aBk om,dK]
theorem RC(x:Nd)(ks:List aQ):aT prog [] 155 [cW x,.il 4 (aU ks)] (cO (eB x.name ks)):=by
 obtain⟨kind,name,lo,hi,ws,ls,vals,kids,⟨vk,vn,vs,vks⟩⟩:=x;refine aD bE func155 rfl ?_;refine Rr ?_;refine aI (λh=>?_) (λh=>?_)
 .have h:name=[]:=su h
  refine Rr ?_;exact gM (r':=cO (.mk 2 0 [] ks)) (.same _ nn) ⟨by rw[eB,aAh h],rfl,rfl⟩
 .have h:¬name=[]:=su h
  refine Rr ?_;exact gM (r':=cO (.mk 3 0 name ks)) (.same _ nn) ⟨by rw[eB,aAe h],rfl,rfl⟩
theorem Xp(i:Nat)(x:Nd)(hi:i<=4294967296)(hx:x9 x)(hvl:x.values.length<=4294967290):aT prog [] 31 [.int .i64 i,cW x] (.int .i64 (gY i x)):=by
 have h1:=N4 i x hi hx;have h2:=RD x hx;have hval:∀a∈r8 x,aT prog [] 71 [cO a] (.int .i64 (bG a)):=by
  intro a ha;have key:iO a/\bF a<=4294967296:=by
   unfold r8 at ha;rcases aAt.1 ha with h|h
   .split at h
    .simp at h;rw[h];exact⟨hx.value,hx.valueS⟩
    .cases h
   .exact hx.valuesI a h
  exact XE a key.1 om
 have hres:gY i x=if dT i x=false then 1 else if fG (r8 x)≠0 then fG (r8 x) else if Go.Ax.d7 x=false then 5 else 0:=rfl
 generalize gY i x=res at hres;generalize dT i x=fb at h1 hres;generalize Go.Ax.d7 x=nb at h2 hres;clear hx;obtain⟨kind,name,lo,hi,ws,ls,vals,kids,⟨vk,vn,vs,vks⟩⟩:=x;simp only at hvl;have hown:r8 ⟨kind,name,lo,hi,ws,ls,vals,kids,.mk vk vn vs vks⟩=(if kind=0 then [aQ.mk vk vn vs vks] else [])++vals:=rfl;generalize r8 ⟨kind,name,lo,hi,ws,ls,vals,kids,.mk vk vn vs vks⟩=own at hval hres hown;have hol:own.length<=4294967291:=by rw[hown];split<;>simp<;>omega
 refine aD bE func31 rfl ?_;refine Rr ?_;refine h1.go ?_ (.cons (.int _ _) (.cons (bB _) .nil));cases fb with
 | false=>
  refine Rr ?_;refine aA nn ⟨?_,rfl,rfl⟩;rw[hres,aAh rfl]
 | true=>
  refine Rr ?_;refine aI (λh=>?_) (λh=>?_)
  case' refine_1=>
   have hk:kind=0:=su h
   rw[aAh hk] at hown;refine Rr ?_;refine aN (cD rfl rfl sq (by simp[aC];omega)) ?_;refine Rr ?_;refine bA.at bE (λk:Nat=>k<=own.length/\fG own=fG (own.drop k))
    (λk=>⟨[(3,.ptr 0 0 0),(6,.sl 1 0 own.length),(7,.int .i64 k)],[(0,.row 57 12 [cW ⟨kind,name,lo,hi,ws,ls,vals,kids,.mk vk vn vs vks⟩]),(1,.row 55 4 (aU own))],2,45⟩) (λk=>own.length-k) 0 [(0,0),(3,1)] ⟨sq,sq⟩
    (aE _ rfl ⟨aL 0 (.cons (bB _) .nil),⟨3,_,rfl,rfl,.eq dO (by rw[hown];rfl)⟩,trivial⟩ ⟨aF,⟨_,rfl,.slE rfl (by rw[hown];simp[aC];omega)⟩,aJ,trivial⟩) ?_
  case' refine_2=>
   have hk:¬kind=0:=su h
   rw[aAe hk] at hown;refine Rr ?_;refine aN (Dv rfl (by simp[aC];omega)) ?_;refine Rr ?_;refine bA.at bE (λk:Nat=>k<=own.length/\fG own=fG (own.drop k))
    (λk=>⟨[(3,.ptr 0 0 0),(6,.sl 1 0 own.length),(7,.int .i64 k)],[(0,.row 57 12 [cW ⟨kind,name,lo,hi,ws,ls,vals,kids,.mk vk vn vs vks⟩]),(1,.row 55 4 (aU own))],2,45⟩) (λk=>own.length-k) 0 [(0,0),(1,1)] ⟨sq,sq⟩
    (aE _ rfl ⟨aL 0 (.cons (bB _) .nil),⟨1,_,rfl,rfl,.eq dO (by rw[hown];rfl)⟩,trivial⟩ ⟨aF,⟨_,rfl,.slE rfl (by rw[hown];simp[aC])⟩,aJ,trivial⟩) ?_
  all_goals
   clear h hown hk;rintro k ⟨hk,hf⟩;refine Rr ?_;refine aI (λh=>?_) (λh=>?_)
   .have hlt:k<own.length:=su h
    obtain⟨p1,p2,p3,p4,pm,pg,pe,ep,bp⟩:=TU (l:=own) (k:=k) (n:=own.length) hlt rfl;have hv:=hval _ pm;rw[List.drop_eq_getElem_cons hlt,pe,fG] at hf;generalize bG (.mk p1 p2 p3 p4)=e at hv hf;refine Rr ?_;repeat((first|refine aN bp ?_|refine aB ep ?_);refine Rr ?_)
    refine hv.go ?_;refine Rr ?_;refine aI (λh=>?_) (λh=>?_)
    .have h:e≠0:=su h
     refine Rr ?_;refine aA nn ⟨?_,rfl,rfl⟩;rw[aAh h] at hf;rw[hres,aAe sq,hf,aAh h]
    .have h:¬e≠0:=su h
     rw[aAe h] at hf;refine Rr ?_;exact .mk (k+1) [(0,0),(1,1)] ⟨om,hf⟩ (aE _ rfl ⟨aL 0 (.cons (bB _) .nil),aL 1 dO,trivial⟩ ⟨aF,⟨_,rfl,.sl 1 1 0 _ rfl⟩,⟨_,rfl,.w64 om oq⟩,trivial⟩) om
   .have hge:own.length<=k:=su h
    rw[aBk hge,fG] at hf;refine Rr ?_;refine h2.go ?_ (.cons (bB _) .nil);cases nb with
    | false=>
     refine Rr ?_;refine aA nn ⟨?_,rfl,rfl⟩;rw[hres,aAe sq,hf,aAe sq,aAh rfl]
    | true=>
     refine Rr ?_;refine aA nn ⟨?_,rfl,rfl⟩;rw[hres,aAe sq,hf,aAe sq,aAe sq]
theorem Rl(bs:List Int)(x:Nd)(hx:x9 x)(hbl:bs.length<=1000000)(hb:∀y∈bs,0<=y/\y<=1024)(hk:∀(j:Nat) (k:Int),x.kids[j]? = some k->0<=k/\k<bs.length)(h4:4<=x.kind->0<x.kids.length)(hkind:0<=x.kind/\x.kind<=4) :
  aH prog [] 32 [.sl 0 0 bs.length,cW x] [(0,.row 3 1 (bL bs))] 1 λr m _=>∃(len:Nat) (ys:List AV),r = .sl 1 0 len/\m=[(1,.row 3 1 ys)]/\kZ ys/\(len=bs.length+1/\ys=bL (bs++[jQ bs x])):=by
 have b1:=hx.kids;have b2:=hx.value;have b3:=hx.valueS;clear hx;have hat:=oV (b:=bs) (M:=1024) om hb;have hsum:=kH (b:=bs) (M:=1024) om hb;have hmost:=mT (b:=bs) (M:=1024) om hb;obtain⟨kind,name,lo,hi,ws,ls,vals,kids,⟨vk,vn,vs,vks⟩⟩:=x;simp only at b1 b2 b3 hk h4 hkind;have hfin:∀(v:Int) (m:aP) (n id:Nat) (e:Int),lk m id=some (.row 3 1 (bL bs++[.int .i64 e]))->1<=id->e=v->v=jQ bs ⟨kind,name,lo,hi,ws,ls,vals,kids,.mk vk vn vs vks⟩ ->
   rE 1 (λr m _=>∃(len:Nat) (ys:List AV),r = .sl 1 0 len/\m=[(1,.row 3 1 ys)]/\kZ ys/\(len=bs.length+1/\ys=bL (bs++[jQ bs ⟨kind,name,lo,hi,ws,ls,vals,kids,.mk vk vn vs vks⟩]))) (.sl id 0 (bs.length+1)) m n:=by
  intro v m n id e hid h1 he hv;refine aW (n':=2) (m':=[(1,.row 3 1 (bL (bs++[v])))]) [(id,1)] ?_ ⟨⟨id,_,by simp[lk],hid,.eq (bH _) (by rw[he];simp[bL])⟩,trivial⟩ (.sl id 1 0 _ (by simp[lk])) ⟨_,_,rfl,rfl,bH _,rfl,by rw[hv]⟩;simp[pW,E1,pU,AQ,wE]
 refine aD bE func32 rfl ?_;refine Rr ?_;refine bA.at bE (λk:Nat=>k<=kids.length)
  (λk=>⟨[(0,.sl 0 0 bs.length),(3,.ptr 1 0 0),(5,.int .i64 (0+i9 bs (kids.take k))),(6,.int .i64 (dM bs (if kind=2 then kids.take k else(kids.take k).drop 1))),(7,.int .i64 k)],[(0,.row 3 1 (bL bs)),(1,.row 57 12 [cW ⟨kind,name,lo,hi,ws,ls,vals,kids,.mk vk vn vs vks⟩])],2,74⟩) (λk=>kids.length-k) 0 [(0,0),(1,1)] sq
  (aE _ rfl ⟨aL 0 dO,aL 1 (.cons (bB _) .nil),trivial⟩ ⟨⟨_,rfl,.sl 0 0 0 _ rfl⟩,aF,⟨_,rfl,.int rfl⟩,⟨_,rfl,.int (by split<;>rfl)⟩,aJ,trivial⟩) ?_
 intro k hkl;have hs1:=hsum (kids.take k);have hlen:(kids.take k).length=k:=by simp;omega
 rw[hlen] at hs1;refine Rr ?_;refine aI (λh=>?_) (λh=>?_)
 .have hlt:k<kids.length:=by rw[aK] at h;simpa using h
  have e1:(bL kids)[(k:Int).toNat]? = some (.int .i64 kids[k]):=by rw[aAc,bP,aAa hlt];rfl
  have hg:kids[k]? = some kids[k]:=aAa hlt;have hst:=yO (b:=bs) hlt;have hmt:=vN (b:=bs) hlt;have hmd:=q7 (b:=bs) hlt;generalize kids[k]=q at e1 hg hst hmt hmd;obtain⟨q1,q2⟩:=hk k q hg;have hq:=hat q;obtain⟨qn,rfl⟩:=aAu q1;have hqn:qn<bs.length:=om;have e2:(bL bs)[0+(qn:Int).toNat]? = some (.int .i64 (Go.Ax.f7 bs qn)):=by rw[aAF,aAc,bP,aAa hqn];simp[Go.Ax.f7,hqn]
  have bq:Nat.blt (qn:Int).toNat bs.length=true:=aAf (by simp;omega);generalize Go.Ax.f7 bs qn=av at e2 hst hmt hmd hq;refine Rr ?_;repeat((first|refine aB e1 ?_|refine aN bq ?_|refine aB e2 ?_);refine Rr ?_)
  have hw:IntKind.i64.wrap (0+i9 bs (kids.take k)+av)=0+i9 bs (kids.take (k+1)):=w64 om oq;refine aI (λh=>?_) (λh=>?_)
  .have h2:kind=2:=su h
   rw[h];refine Rr ?_;exact .mk (k+1) [(0,0),(1,1)] om (aE _ rfl ⟨aL 0 dO,aL 1 (.cons (bB _) .nil),trivial⟩ ⟨⟨_,rfl,.sl 0 0 0 _ rfl⟩,aF,⟨_,rfl,.int hw⟩,⟨_,rfl,.int (by rw[aAh h2,aAh h2,hmt];simp;omega)⟩,⟨_,rfl,.w64 om oq⟩,trivial⟩) om
  .have h2:¬kind=2:=su h
   rw[h];refine Rr ?_;refine aI (λh=>?_) (λh=>?_)
   .have h3:0<k:=by simp at h;omega
    refine Rr ?_;exact .mk (k+1) [(0,0),(1,1)] om (aE _ rfl ⟨aL 0 dO,aL 1 (.cons (bB _) .nil),trivial⟩ ⟨⟨_,rfl,.sl 0 0 0 _ rfl⟩,aF,⟨_,rfl,.int hw⟩,⟨_,rfl,.int (by rw[aAe h2,aAe h2,hmd h3];simp;omega)⟩,⟨_,rfl,.w64 om oq⟩,trivial⟩) om
   .have h3:k=0:=by simp at h;omega
    refine Rr ?_;exact .mk (k+1) [(0,0),(1,1)] om (aE _ rfl ⟨aL 0 dO,aL 1 (.cons (bB _) .nil),trivial⟩ ⟨⟨_,rfl,.sl 0 0 0 _ rfl⟩,aF,⟨_,rfl,.int hw⟩,⟨_,rfl,.int (by rw[aAe h2,aAe h2,h3];cases kids<;>simp)⟩,⟨_,rfl,.w64 om oq⟩,trivial⟩) om
 .have hke:k=kids.length:=by rw[aK] at h;simp at h;omega
  rw[hke,aAD] at *;have hm1:=hmost kids;have hm2:=hmost (kids.drop 1);have hs2:=hsum kids;clear hke h;rcases(show kind=0\/kind=1\/kind=2\/kind=3\/kind=4 by omega) with rfl|rfl|rfl|rfl|rfl
  .refine Rr ?_;refine aN (cD rfl rfl (by rw[aK]) (by simp;omega)) ?_;refine Rr ?_;exact hfin 0 _ _ _ _ rfl (by decide) rfl rfl
  .refine Rr ?_;refine aN (cD rfl rfl (by rw[aK]) (by simp;omega)) ?_;refine Rr ?_;exact hfin 1 _ _ _ _ rfl (by decide) rfl rfl
  .rw[aAh rfl] at *;refine Rr ?_;refine aN (cD rfl rfl (by rw[aK]) (by simp;omega)) ?_;refine Rr ?_;exact hfin (1+dM bs kids) _ _ _ _ rfl (by decide) (w64 rfl oq) rfl
  .refine Rr ?_;refine aN (cD rfl rfl (by rw[aK]) (by simp;omega)) ?_;refine Rr ?_;exact hfin (i9 bs kids) _ _ _ _ rfl (by decide) om rfl
  .rw[aAe om] at *;have hpos:0<kids.length:=h4 om;have e1:(bL kids)[(0:Int).toNat]? = some (.int .i64 (kids.getD 0 0)):=by rw[show (0:Int).toNat=0 from rfl,bP,aAa hpos];simp[hpos]
   obtain⟨q1,q2⟩:=hk 0 (kids.getD 0 0) (by simp[hpos]);have hval:jQ bs ⟨4,name,lo,hi,ws,ls,vals,kids,.mk vk vn vs vks⟩=Go.Ax.f7 bs (kids.getD 0 0)+dM bs (kids.drop 1):=rfl;generalize kids.getD 0 0=q at e1 q1 q2 hval;have hq:=hat q;obtain⟨qn,rfl⟩:=aAu q1;have hqn:qn<bs.length:=om;have e2:(bL bs)[0+(qn:Int).toNat]? = some (.int .i64 (Go.Ax.f7 bs qn)):=by rw[aAF,aAc,bP,aAa hqn];simp[Go.Ax.f7,hqn]
   have bq:Nat.blt (qn:Int).toNat bs.length=true:=aAf (by simp;omega);generalize Go.Ax.f7 bs qn=av at e2 hval hq;refine Rr ?_;repeat((first|refine aB e1 ?_|refine aN bq ?_|refine aB e2 ?_);refine Rr ?_)
   refine aN (cD rfl rfl (by rw[aK]) (by simp;omega)) ?_;refine Rr ?_;exact hfin (av+dM bs (kids.drop 1)) _ _ _ _ rfl (by decide) (w64 rfl oq) hval.symm
theorem W0(bs:List Int)(x:Nd)(hx:x9 x)(hbl:bs.length<=1000000)(hb:∀y∈bs,0<=y/\y<=1024)(hk:∀(j:Nat) (k:Int),x.kids[j]? = some k->0<=k/\k<bs.length)(h4:4<=x.kind->0<x.kids.length)(hkind:0<=x.kind/\x.kind<=4) :
  aH prog [] 33 [.sl 0 0 bs.length,cW x] [(0,.row 3 1 (bL bs))] 1 λr m _=>∃(len:Nat) (ys:List AV),r = .sl 1 0 len/\m=[(1,.row 3 1 ys)]/\kZ ys/\(len=bs.length+1/\ys=bL (bs++[nK bs x])):=by
 have b1:=hx.kids;have b2:=hx.value;have b3:=hx.valueS;clear hx;have hat:=oV (b:=bs) (M:=1024) om hb;have hsum:=kH (b:=bs) (M:=1024) om hb;have hmost:=mT (b:=bs) (M:=1024) om hb;obtain⟨kind,name,lo,hi,ws,ls,vals,kids,⟨vk,vn,vs,vks⟩⟩:=x;simp only at b1 b2 b3 hk h4 hkind;have hfin:∀(v:Int) (m:aP) (n id:Nat) (e:Int),lk m id=some (.row 3 1 (bL bs++[.int .i64 e]))->1<=id->e=v->v=nK bs ⟨kind,name,lo,hi,ws,ls,vals,kids,.mk vk vn vs vks⟩ ->
   rE 1 (λr m _=>∃(len:Nat) (ys:List AV),r = .sl 1 0 len/\m=[(1,.row 3 1 ys)]/\kZ ys/\(len=bs.length+1/\ys=bL (bs++[nK bs ⟨kind,name,lo,hi,ws,ls,vals,kids,.mk vk vn vs vks⟩]))) (.sl id 0 (bs.length+1)) m n:=by
  intro v m n id e hid h1 he hv;refine aW (n':=2) (m':=[(1,.row 3 1 (bL (bs++[v])))]) [(id,1)] ?_ ⟨⟨id,_,by simp[lk],hid,.eq (bH _) (by rw[he];simp[bL])⟩,trivial⟩ (.sl id 1 0 _ (by simp[lk])) ⟨_,_,rfl,rfl,bH _,rfl,by rw[hv]⟩;simp[pW,E1,pU,AQ,wE]
 refine aD bE func33 rfl ?_;refine Rr ?_;refine bA.at bE (λk:Nat=>k<=kids.length)
  (λk=>⟨[(0,.sl 0 0 bs.length),(3,.ptr 1 0 0),(5,.int .i64 (1+i9 bs (kids.take k))),(6,.int .i64 (dM bs (if kind=2 then kids.take k else(kids.take k).drop 1))),(7,.int .i64 k)],[(0,.row 3 1 (bL bs)),(1,.row 57 12 [cW ⟨kind,name,lo,hi,ws,ls,vals,kids,.mk vk vn vs vks⟩])],2,62⟩) (λk=>kids.length-k) 0 [(0,0),(1,1)] sq
  (aE _ rfl ⟨aL 0 dO,aL 1 (.cons (bB _) .nil),trivial⟩ ⟨⟨_,rfl,.sl 0 0 0 _ rfl⟩,aF,⟨_,rfl,.int rfl⟩,⟨_,rfl,.int (by split<;>rfl)⟩,aJ,trivial⟩) ?_
 intro k hkl;have hs1:=hsum (kids.take k);have hlen:(kids.take k).length=k:=by simp;omega
 rw[hlen] at hs1;refine Rr ?_;refine aI (λh=>?_) (λh=>?_)
 .have hlt:k<kids.length:=by rw[aK] at h;simpa using h
  have e1:(bL kids)[(k:Int).toNat]? = some (.int .i64 kids[k]):=by rw[aAc,bP,aAa hlt];rfl
  have hg:kids[k]? = some kids[k]:=aAa hlt;have hst:=yO (b:=bs) hlt;have hmt:=vN (b:=bs) hlt;have hmd:=q7 (b:=bs) hlt;generalize kids[k]=q at e1 hg hst hmt hmd;obtain⟨q1,q2⟩:=hk k q hg;have hq:=hat q;obtain⟨qn,rfl⟩:=aAu q1;have hqn:qn<bs.length:=om;have e2:(bL bs)[0+(qn:Int).toNat]? = some (.int .i64 (Go.Ax.f7 bs qn)):=by rw[aAF,aAc,bP,aAa hqn];simp[Go.Ax.f7,hqn]
  have bq:Nat.blt (qn:Int).toNat bs.length=true:=aAf (by simp;omega);generalize Go.Ax.f7 bs qn=av at e2 hst hmt hmd hq;refine Rr ?_;repeat((first|refine aB e1 ?_|refine aN bq ?_|refine aB e2 ?_);refine Rr ?_)
  have hw:IntKind.i64.wrap (1+i9 bs (kids.take k)+av)=1+i9 bs (kids.take (k+1)):=w64 om oq;refine aI (λh=>?_) (λh=>?_)
  .have h2:kind=2:=su h
   rw[h];refine Rr ?_;exact .mk (k+1) [(0,0),(1,1)] om (aE _ rfl ⟨aL 0 dO,aL 1 (.cons (bB _) .nil),trivial⟩ ⟨⟨_,rfl,.sl 0 0 0 _ rfl⟩,aF,⟨_,rfl,.int hw⟩,⟨_,rfl,.int (by rw[aAh h2,aAh h2,hmt];simp;omega)⟩,⟨_,rfl,.w64 om oq⟩,trivial⟩) om
  .have h2:¬kind=2:=su h
   rw[h];refine Rr ?_;refine aI (λh=>?_) (λh=>?_)
   .have h3:0<k:=by simp at h;omega
    refine Rr ?_;exact .mk (k+1) [(0,0),(1,1)] om (aE _ rfl ⟨aL 0 dO,aL 1 (.cons (bB _) .nil),trivial⟩ ⟨⟨_,rfl,.sl 0 0 0 _ rfl⟩,aF,⟨_,rfl,.int hw⟩,⟨_,rfl,.int (by rw[aAe h2,aAe h2,hmd h3];simp;omega)⟩,⟨_,rfl,.w64 om oq⟩,trivial⟩) om
   .have h3:k=0:=by simp at h;omega
    refine Rr ?_;exact .mk (k+1) [(0,0),(1,1)] om (aE _ rfl ⟨aL 0 dO,aL 1 (.cons (bB _) .nil),trivial⟩ ⟨⟨_,rfl,.sl 0 0 0 _ rfl⟩,aF,⟨_,rfl,.int hw⟩,⟨_,rfl,.int (by rw[aAe h2,aAe h2,h3];cases kids<;>simp)⟩,⟨_,rfl,.w64 om oq⟩,trivial⟩) om
 .have hke:k=kids.length:=by rw[aK] at h;simp at h;omega
  rw[hke,aAD] at *;have hm1:=hmost kids;have hm2:=hmost (kids.drop 1);have hs2:=hsum kids;clear hke h;rcases(show kind=0\/kind=1\/kind=2\/kind=3\/kind=4 by omega) with rfl|rfl|rfl|rfl|rfl
  .have hz:=QE (.mk vk vn vs vks) om;have hval:nK bs ⟨0,name,lo,hi,ws,ls,vals,kids,.mk vk vn vs vks⟩=((bF (.mk vk vn vs vks):Nat):Int):=rfl;generalize bF (.mk vk vn vs vks)=sz at hz hval;refine Rr ?_;refine hz.go ?_;refine Rr ?_;refine aN (cD rfl rfl (by rw[aK]) (by simp;omega)) ?_;refine Rr ?_;exact hfin sz _ _ _ _ rfl (by decide) rfl hval.symm
  .refine Rr ?_;refine aN (cD rfl rfl (by rw[aK]) (by simp;omega)) ?_;refine Rr ?_;exact hfin 1 _ _ _ _ rfl (by decide) rfl rfl
  .rw[aAh rfl] at *;refine Rr ?_;refine aN (cD rfl rfl (by rw[aK]) (by simp;omega)) ?_;refine Rr ?_;exact hfin (dM bs kids) _ _ _ _ rfl (by decide) rfl rfl
  .refine Rr ?_;refine aN (cD rfl rfl (by rw[aK]) (by simp;omega)) ?_;refine Rr ?_;exact hfin (1+i9 bs kids) _ _ _ _ rfl (by decide) rfl rfl
  .rw[aAe om] at *;refine Rr ?_;refine aN (cD rfl rfl (by rw[aK]) (by simp;omega)) ?_;refine Rr ?_;exact hfin (dM bs (kids.drop 1)) _ _ _ _ rfl (by decide) rfl rfl
theorem N2{v a:aQ}(h:l[k]? = some a):J7 l k v=(cJ a v == 0):=by simp[J7,h]
theorem OH{v:aQ}(h:l.length<=k):J7 l k v=false:=by simp[J7,aAs h]
theorem Ym(l:List aQ)(v:aQ)(hl:l.length<=4294967296)(hok:∀a∈l,iO a) :
  aT prog [] 248 [.il 4 (aU l),cO v] (.tup [.int .i64 (kY l v).1,.bool (kY l v).2]):=by
 obtain⟨vk,vn,vs,vks⟩:=v;have nl:NN (.il 4 (aU l)):=.il' (bK l);have nt:∀(k:Int) (b:Bool),NN (.tup [.int .i64 k,.bool b]):=λk b=>.tup' (.cons (.int _ _) (.cons (.bool _) .nil))
 refine jK bE func248 rfl ?_
 conv=>whnf
 refine gC.loopAt bE (λk:Nat=>k<=l.length/\∀p a,p<k->l[p]? = some a->cJ a (.mk vk vn vs vks)<0)
  (λk=>⟨[(0,.il 4 (aU l)),(3,.ptr 0 0 0),(6,.int .i64 k)],[(0,.row 55 4 [cO (.mk vk vn vs vks)])],1,27⟩)
  (λk=>l.length-k) 0 [(0,0)] ⟨sq,sq⟩
  (aE _ rfl ⟨aL 0 (.cons (dC _) .nil),trivial⟩ ⟨aM nl,aF,aM (.int _ _),trivial⟩) ?_
 rintro k ⟨h1,h2⟩
 conv=>whnf
 refine aI (λh=>?_) (λh=>?_)
 .have hk:k<l.length:=by rw[aC] at h;simpa using h
  have e:=Hg hk;obtain⟨⟨ak,an,az,aks⟩,hv⟩:∃a,a=l[k]:=⟨_,rfl⟩
  rw[<-hv] at e;have hm:aQ.mk ak an az aks∈l:=by rw[hv];exact aAq hk
  have hg:l[k]? = some (aQ.mk ak an az aks):=by rw[hv];exact aAa hk
  conv=>whnf
  refine aB e ?_
  conv=>whnf
  refine(tK (.mk ak an az aks) (.mk vk vn vs vks) (hok _ hm)).use bE (.cons (dC _) (.cons (dC _) .nil)) (.int _ _) ?_
  conv=>whnf
  refine aI (λh3=>?_) (λh3=>?_)
  .have h3:0<=cJ (.mk ak an az aks) (.mk vk vn vs vks):=su h3
   conv=>whnf
   refine aA (nt _ _) ⟨?_,rfl,rfl⟩;rw[F1 h1 h2 (λa ha=>by rw[hg] at ha;cases ha;exact h3),N2 hg]
  .have h3:cJ (.mk ak an az aks) (.mk vk vn vs vks)<0:=su h3
   conv=>whnf
   refine .mk (k+1) [(0,0)] ⟨om,λp a hp ha=>?_⟩ (aE _ rfl ⟨aL 0 (.cons (dC _) .nil),trivial⟩ ⟨aM nl,aF,⟨_,rfl,.eq (.int _ _) ?_⟩,trivial⟩) om
   .rcases aAr p k with hp'|hp'
    .exact h2 p a hp' ha
    .have:p=k:=om;subst this;rw[hg] at ha;cases ha;exact h3
   .rw[aV oq];rfl
 .have hk:k=l.length:=by rw[aC] at h;simp at h;omega
  conv=>whnf
  refine aA (nt _ _) ⟨?_,rfl,rfl⟩;rw[F1 h1 h2 (λa ha=>by rw[aAs om] at ha;cases ha),OH om,aC,hk]
theorem Za(k:Int)(b:Bool):Sc (.tup [.int .i64 k,.bool b]):=.tup _ λj c h=>by
 rcases j with _|_|j<;>simp at h<;>subst h
 .exact .int _ _
 .exact .bool _
theorem Lt(l:List aQ)(hl:l.length<=4294967296)(hok:∀a∈l,iO a) :
  aH prog [] 231 [.il 4 (aU l)] [] 0 λr m n=>r = .sl 0 0 (fT l).length/\m=[(0,.row 55 4 (aU (fT l)))]/\n=1:=by
 have nl:NN (.il 4 (aU l)):=nn;refine aD bE func231 rfl ?_;refine Rr ?_;refine bA.ph 55 4 ?_;refine bA.at bE (λx:Nat × List aQ=>x.1<=l.length/\x.2=fT (l.take x.1))
  (λx=>⟨[(0,.il 4 (aU l)),(3,.sl 0 0 x.2.length),(4,.int .i64 x.1)],[(0,.row 55 4 (aU x.2))],1,41⟩)
  (λx=>l.length-x.1) (0,[]) [(0,0)] ⟨sq,by simp[fT]⟩
  (aE _ rfl ⟨⟨0,_,rfl,rfl,.nil⟩,trivial⟩ ⟨aM nl,⟨_,rfl,.nslk 0 0 _ rfl rfl⟩,aJ,trivial⟩) ?_
 rintro⟨k,out⟩ ⟨h1,h2⟩
 dsimp only at h1 h2 |-
 have hout:out.length<=k:=by rw[h2];have:=uZ (l.take k);simp at this;omega
 have el:=aC out;have hoko:∀a∈out,iO a:=λa ha=>by rw[h2] at ha;exact hok a (aAI (q6 ha))
 refine Rr ?_;refine aI (λh=>?_) (λh=>?_)
 .have hk:k<l.length:=Jp h;obtain⟨ak,an,az,aks,hmem,hg,hv,e⟩:=cX (l:=l) (k:=k) hk;have hnext:fT (l.take (k+1))=zM out (.mk ak an az aks):=by
   rw[aAl hk,r9,<-h2,hv]
  have hf:=Ym out (.mk ak an az aks) om hoko;have hle:=FJ out (.mk ak an az aks);have hins:zM out (.mk ak an az aks)=if (kY out (.mk ak an az aks)).2 then out else out.take (kY out (.mk ak an az aks)).1 ++ .mk ak an az aks::out.drop (kY out (.mk ak an az aks)).1:=rfl
  generalize kY out (.mk ak an az aks)=f at hf hle hins;generalize zM out (.mk ak an az aks)=nw at hnext hins;obtain⟨p,b⟩:=f
  dsimp only at hle hins hf
  refine Rr ?_;refine aB e ?_;refine Rr ?_;refine hf.lend bE (.cons (.fz' rfl rfl (by rw[aC];omega) (by rw[<-aC];simp) (bK out)) (.cons (.same _ (dC (.mk ak an az aks))) .nil)) (Za _ _) ?_;cases b with
  | true=>
   refine Rr ?_;rw[aAh rfl] at hins;exact .mk (k+1,out) [(0,0)] ⟨by simp only;omega,by rw[<-hins];exact hnext.symm⟩ (aE _ rfl ⟨aL 0 dO,trivial⟩ ⟨aM nl,⟨_,rfl,.sl 0 0 0 _ rfl⟩,⟨_,rfl,.w64 sq oq⟩,trivial⟩) (by simp only;omega)
  | false=>
   rw[aAe sq] at hins;refine Rr ?_;repeat(first
    | (refine bQ ?_;refine Rr ?_)
    | (refine aB e ?_;refine Rr ?_)
    | (refine aN (Kf (by simp;try omega) (by simp;try omega) (by simp;try omega)) ?_;refine Rr ?_)
    | (refine aN (MH (by simp;try omega)) ?_;refine Rr ?_)
    | (refine aN (Dv rfl (by simp;try omega)) ?_;refine Rr ?_)
    | (refine aN (cD rfl rfl (by simp;try omega) (by simp;try omega)) ?_;refine Rr ?_))
   have hrow:List.take ((p:Int).toNat-0) (List.drop (0+0) (aU out))++List.take 1 (List.drop 0 [AV.agg [.int .i64 ak,.int .i64 an,.str az,.il 4 (aU aks)]])++List.take (out.length-(p:Int).toNat) (List.drop (0+(p:Int).toNat) (aU out))=aU nw:=by
    rw[hins];simp[jT,cO,List.map_take,List.map_drop];exact aAk sq
   exact .mk (k+1,nw) [(19,0)] ⟨by simp only;omega,hnext.symm⟩ (aE _ rfl ⟨⟨19,_,rfl,rfl,.eq dO hrow⟩,trivial⟩ ⟨aM nl,⟨_,rfl,.slE rfl (by have:=congrArg List.length hrow;rw[aAA,aAA,aC] at this;exact this)⟩,⟨_,rfl,.w64 sq oq⟩,trivial⟩) (by simp only;omega)
 .have hk:k=l.length:=by have:=Jd h;omega
  refine Rr ?_;rw[hk,aAD] at h2;subst h2;exact aW (n':=1) (m':=[(0,.row 55 4 (aU (fT l)))]) [(0,0)] rfl ⟨aL 0 dO,trivial⟩ (.sl 0 0 0 _ rfl) ⟨rfl,rfl,rfl⟩
theorem WF(l:List aQ)(hl:l.length<=4294967296)(hok:∀a∈l,iO a):aT prog [] 231 [.il 4 (aU l)] (.il 4 (aU (fT l))):=by
 refine aH.turn bE ((Lt l hl hok).mono ?_);rintro r m n ⟨rfl,rfl,rfl⟩;exact gM (.fz' rfl rfl (by rw[aC];omega) (by rw[<-aC];simp) dO) ⟨rfl,rfl,rfl⟩
theorem OU(x:Nd)(bs:List jM)(h0:x.kind=0):aH prog [] 191 [cW x,.sl 0 0 bs.length] [(0,.row 225 2 (cT bs))] 1 λr m _=>r=oZ (dX x bs)/\m=[(0,.row 225 2 (cT bs))]:=by
 have nb:NN (.il 2 (cT bs)):=.il' (bW bs);obtain⟨kind,name,lo,hi,ws,ls,vals,kids,⟨vk,vn,vs,vks⟩⟩:=x;simp only at h0;subst h0;refine aD bE func191 rfl ?_;refine Rr ?_;refine aW (r':=oZ ⟨[.mk vk vn vs vks],false⟩) (n':=1) (m':=[(0,.row 225 2 (cT bs))]) [(0,0)] rfl ⟨aL 0 (bW bs),trivial⟩ (.agg' (.cons (.fzR rfl rfl (.cons (CH.same (x:=cO (.mk vk vn vs vks)) nn) .nil) rfl) (.s .nil))) ⟨rfl,rfl⟩
theorem LM(x:Nd)(bs:List jM)(h1:x.kind=1)(hlo : -4611686018427387904<=x.lo)(hh:x.lo<=x.hi)(hhi:x.hi<=4611686018427387904)(hsp:x.hi<x.lo+1099511627776):aH prog [] 191 [cW x,.sl 0 0 bs.length] [(0,.row 225 2 (cT bs))] 1 λr m _=>r=oZ (dX x bs)/\m=[(0,.row 225 2 (cT bs))]:=by
 obtain⟨kind,name,lo,hi,ws,ls,vals,kids,⟨vk,vn,vs,vks⟩⟩:=x;simp only at h1 hlo hh hhi hsp;subst h1;have hres:dX ⟨1,name,lo,hi,ws,ls,vals,kids,.mk vk vn vs vks⟩ bs=if 1024<=hi-lo then⟨[],true⟩ else⟨u5 lo (hi+1-lo).toNat,false⟩:=rfl
 generalize dX ⟨1,name,lo,hi,ws,ls,vals,kids,.mk vk vn vs vks⟩ bs=res at hres;have hw:IntKind.i64.wrap (hi-lo)=hi-lo:=w64 rfl oq;refine aD bE func191 rfl ?_;refine Rr ?_;rw[hw];refine aI (λh=>?_) (λh=>?_)
 .refine Rr ?_;exact aW (r':=oZ ⟨[],true⟩) (n':=1) (m':=[(0,.row 225 2 (cT bs))]) [(0,0)] rfl ⟨aL 0 (bW bs),trivial⟩ (.agg' (.cons (.nil 4) (.s .nil))) ⟨by rw[hres,aAh (su h)],rfl⟩
 .have hlt:hi-lo<1024:=su h
  rw[aAe om] at hres;refine Rr ?_;refine bA.ph 55 4 ?_;refine bA.at bE (λk:Nat=>lo+k<=hi+1)
   (λk=>⟨[(2,.ptr 1 0 0),(4,.ptr 2 0 0),(5,.ptr 3 0 0),(6,.int .i64 (lo+k))],[(0,.row 225 2 (cT bs)),(1,.row 57 12 [cW ⟨1,name,lo,hi,ws,ls,vals,kids,.mk vk vn vs vks⟩]),(2,.row 225 2 [.agg [.nsl,.bool false]]),(3,.row 225 2 [.agg [.sl 4 0 (u5 lo k).length,.bool false]]),(4,.row 55 4 (aU (u5 lo k)))],5,96⟩)
   (λk=>(hi+1-lo).toNat-k) 0 [(0,0),(1,1),(2,2),(3,3),(4,4)] om
   (aE _ rfl ⟨aL 0 (bW bs),aL 1 (.cons (bB _) .nil),aL 2 dO,⟨3,_,rfl,rfl,.cons (.agg (.cons (.nslk 4 4 _ rfl rfl) (.s .nil))) .nil⟩,⟨4,_,rfl,rfl,.nil⟩,trivial⟩ ⟨aF,aF,aF,⟨_,rfl,.int sq⟩,trivial⟩) ?_
  intro k hk;have hlen:=Gb lo k;refine Rr ?_;refine aI (λh=>?_) (λh=>?_)
  .have hkl:lo+k<=hi:=su h
   refine Rr ?_;refine aN (cD rfl rfl (by rw[aC]) (by simp;omega)) ?_;refine Rr ?_;exact .mk (k+1) [(0,0),(1,1),(2,2),(3,3),(6,4)] om
    (aE _ rfl ⟨aL 0 (bW bs),aL 1 (.cons (bB _) .nil),aL 2 dO,⟨3,_,rfl,rfl,.cons (.agg (.cons (.slE rfl (by rw[De];simp)) (.s .nil))) .nil⟩,⟨6,_,rfl,rfl,by rw[De,kM];exact .snoc rfl (.same dO) (Ml _ _ _)⟩,trivial⟩ ⟨aF,aF,aF,⟨_,rfl,.w64 om oq⟩,trivial⟩) om
  .have hke:k=(hi+1-lo).toNat:=by simp at h;omega
   refine Rr ?_;exact aW (r':=oZ ⟨u5 lo k,false⟩) (n':=1) (m':=[(0,.row 225 2 (cT bs))]) [(0,0)] rfl ⟨aL 0 (bW bs),trivial⟩ (.agg' (.cons (.fzR rfl rfl (.same dO) (by rw[aC])) (.s .nil))) ⟨by rw[hres,hke],rfl⟩
theorem Pa(x:Nd)(bs:List jM)(h2:x.kind=2)(hkl:x.kids.length<=65536)(hk:∀(j:Nat) (k:Int),x.kids[j]? = some k->0<=k/\k<bs.length)(hb:∀b∈bs,b.vals.length<=1024/\∀v∈b.vals,iO v) :
  aH prog [] 191 [cW x,.sl 0 0 bs.length] [(0,.row 225 2 (cT bs))] 1 λr m _=>r=oZ (dX x bs)/\m=[(0,.row 225 2 (cT bs))]:=by
 have nb:NN (.il 2 (cT bs)):=.il' (bW bs);obtain⟨kind,name,lo,hi,ws,ls,vals,kids,⟨vk,vn,vs,vks⟩⟩:=x;simp only at h2 hkl hk;subst h2;have hres:dX ⟨2,name,lo,hi,ws,ls,vals,kids,.mk vk vn vs vks⟩ bs=pO bs kids:=rfl;generalize dX ⟨2,name,lo,hi,ws,ls,vals,kids,.mk vk vn vs vks⟩ bs=res at hres;refine aD bE func191 rfl ?_;refine Rr ?_;refine bA.ph 55 4 ?_;refine bA.at bE (λa:Nat × (List aQ × Bool)=>a.1<=kids.length/\a.2=(kids.take a.1).foldl (cV bs) ([],false))
  (λa=>⟨[(1,.sl 0 0 bs.length),(2,.ptr 1 0 0),(4,.ptr 2 0 0),(5,.ptr 3 0 0),(7,.int .i64 a.1)],[(0,.row 225 2 (cT bs)),(1,.row 57 12 [cW ⟨2,name,lo,hi,ws,ls,vals,kids,.mk vk vn vs vks⟩]),(2,.row 225 2 [.agg [.nsl,.bool false]]),(3,.row 225 2 [.agg [.sl 4 0 a.2.1.length,.bool a.2.2]]),(4,.row 55 4 (aU a.2.1))],5,96⟩)
  (λa=>kids.length-a.1) (0,[],false) [(0,0),(1,1),(2,2),(3,3),(4,4)] ⟨sq,sq⟩
  (aE _ rfl ⟨aL 0 (bW bs),aL 1 (.cons (bB _) .nil),aL 2 dO,⟨3,_,rfl,rfl,.cons (.agg (.cons (.nslk 4 4 _ rfl rfl) (.s .nil))) .nil⟩,⟨4,_,rfl,rfl,.nil⟩,trivial⟩ ⟨⟨_,rfl,.sl 0 0 0 _ rfl⟩,aF,aF,aF,⟨_,rfl,.int rfl⟩,trivial⟩) ?_
 rintro⟨k,a1,am⟩ ⟨hkk,ha⟩;simp only at hkk ha;have hbd:=zJ hb (kids.take k) ([],false) 0 sq sq;rw[<-ha] at hbd;simp only at hbd;have hlk:(kids.take k).length<=65536:=by simp;omega
 have ha1:a1.length<=67108864:=om;refine Rr ?_;refine aI (λh=>?_) (λh=>?_)
 .have hlt:k<kids.length:=by rw[aK] at h;simpa using h
  have e1:(bL kids)[(k:Int).toNat]? = some (.int .i64 kids[k]):=by rw[aAc,bP,aAa hlt];rfl
  have hg:kids[k]? = some kids[k]:=aAa hlt;have hstep:=Ls (cV bs) hlt ([],false);rw[<-ha] at hstep;generalize kids[k]=q at e1 hg hstep;obtain⟨q1,q2⟩:=hk k q hg;obtain⟨qn,rfl⟩:=aAu q1;have hqn:qn<bs.length:=om;obtain⟨⟨bv,bm⟩,hbe⟩:∃b,b=bs[qn]:=⟨_,rfl⟩
  have hbm:=hb _ (show (⟨bv,bm⟩:jM)∈bs by rw[hbe];exact aAq hqn);simp only at hbm;have hat:Go.Ax.d8 bs qn=⟨bv,bm⟩:=by rw[hbe];simp[Go.Ax.d8,hqn]
  have bq:Nat.blt (qn:Int).toNat bs.length=true:=aAf (by simp;omega);have e2:(cT bs)[0+(qn:Int).toNat]? = some (oZ ⟨bv,bm⟩):=by rw[aAF,aAc,oT,aAa hqn,<-hbe];rfl
  have hso:=Lt (a1++bv) (by simp;omega) (λv hv=>by
   rcases aAt.1 hv with h|h
   .exact hbd.2 v h
   .exact hbm.2 v h)
  have hun:cV bs (a1,am) qn=(fT (a1++bv),am || bm || decide (1024<(fT (a1++bv)).length)):=by simp[cV,hat]
  rw[hun] at hstep;generalize fT (a1++bv)=sv at hso hstep;refine Rr ?_;refine aB e1 ?_;refine Rr ?_;repeat((first|refine aN bq ?_|refine aB e2 ?_);refine Rr ?_)
  refine aN (cD rfl rfl (by rw[aC]) (by simp[aC];omega)) ?_;refine Rr ?_;refine aH.pre bE [(5,5),(0,0),(1,1),(2,2),(3,3)] (mem':=[(5,.row 225 2 [.agg [.il 4 (aU bv),.bool bm]]),(0,.row 225 2 (cT bs)),(1,.row 57 12 [cW ⟨2,name,lo,hi,ws,ls,vals,kids,.mk vk vn vs vks⟩]),(2,.row 225 2 [.agg [.nsl,.bool false]]),(3,.row 225 2 [.agg [.junk,.bool am]])]) rfl
   ⟨aL 5 dO,aL 0 (bW bs),aL 1 (.cons (bB _) .nil),aL 2 dO,⟨3,_,rfl,rfl,.cons (.agg (.cons (.junk _) (.s .nil))) .nil⟩,trivial⟩
   (.cons (.fzR (ys:=aU (a1++bv)) rfl rfl (.eq dO (by simp[jT])) (by simp[aC])) .nil) ?_
  refine aH.useNew bE hso dO dO ?_;cases am<;>cases bm
  all_goals
   refine Rr ?_;exact .mk (k+1,sv,_) [(0,0),(1,1),(2,2),(3,3),(7,4)] ⟨by simp only;omega,hstep.symm⟩
    (aE _ rfl ⟨aL 0 (bW bs),aL 1 (.cons (bB _) .nil),aL 2 dO,⟨3,_,rfl,rfl,.cons (.agg (.cons (.sl 7 4 0 _ rfl) (.cons (.bool (by simp[aA2]<;>omega)) .nil))) .nil⟩,aL 7 dO,trivial⟩
     ⟨⟨_,rfl,.sl 0 0 0 _ rfl⟩,aF,aF,aF,⟨_,rfl,.w64 sq ⟨by simp only;omega,by simp only;omega⟩⟩,trivial⟩) (by simp only;omega)
 .have hke:k=kids.length:=by rw[aK] at h;simp at h;omega
  rw[hke,aAD] at ha;have hu:pO bs kids=if am then⟨[],true⟩ else⟨a1,false⟩:=by
   unfold pO;rw[<-ha]
  cases am with
  | true=>
   refine Rr ?_;exact aW (r':=oZ ⟨[],true⟩) (n':=1) (m':=[(0,.row 225 2 (cT bs))]) [(0,0)] rfl ⟨aL 0 (bW bs),trivial⟩ (.agg' (.cons (.nil 4) (.s .nil))) ⟨by rw[hres,hu,aAh rfl],rfl⟩
  | false=>
   refine Rr ?_;exact aW (r':=oZ ⟨a1,false⟩) (n':=1) (m':=[(0,.row 225 2 (cT bs))]) [(0,0)] rfl ⟨aL 0 (bW bs),trivial⟩ (.agg' (.cons (.fzR rfl rfl (.same dO) (by rw[aC])) (.s .nil))) ⟨by rw[hres,hu,aAe sq],rfl⟩
theorem Oo(x:Nd)(bs:List jM)(h2:x.kind=4)(hkl:x.kids.length<=65536)(hk:∀(j:Nat) (k:Int),x.kids[j]? = some k->0<=k/\k<bs.length)(hb:∀b∈bs,b.vals.length<=1024/\∀v∈b.vals,iO v) :
  aH prog [] 191 [cW x,.sl 0 0 bs.length] [(0,.row 225 2 (cT bs))] 1 λr m _=>r=oZ (dX x bs)/\m=[(0,.row 225 2 (cT bs))]:=by
 have nb:NN (.il 2 (cT bs)):=.il' (bW bs);obtain⟨kind,name,lo,hi,ws,ls,vals,kids,⟨vk,vn,vs,vks⟩⟩:=x;simp only at h2 hkl hk;subst h2;have hres:dX ⟨4,name,lo,hi,ws,ls,vals,kids,.mk vk vn vs vks⟩ bs=pO bs (kids.drop 1):=rfl;generalize dX ⟨4,name,lo,hi,ws,ls,vals,kids,.mk vk vn vs vks⟩ bs=res at hres;refine aD bE func191 rfl ?_;refine Rr ?_;refine bA.ph 55 4 ?_;refine bA.at bE (λa:Nat × (List aQ × Bool)=>a.1<=kids.length/\a.2=((kids.take a.1).drop 1).foldl (cV bs) ([],false))
  (λa=>⟨[(1,.sl 0 0 bs.length),(2,.ptr 1 0 0),(4,.ptr 2 0 0),(5,.ptr 3 0 0),(7,.int .i64 a.1)],[(0,.row 225 2 (cT bs)),(1,.row 57 12 [cW ⟨4,name,lo,hi,ws,ls,vals,kids,.mk vk vn vs vks⟩]),(2,.row 225 2 [.agg [.nsl,.bool false]]),(3,.row 225 2 [.agg [.sl 4 0 a.2.1.length,.bool a.2.2]]),(4,.row 55 4 (aU a.2.1))],5,96⟩)
  (λa=>kids.length-a.1) (0,[],false) [(0,0),(1,1),(2,2),(3,3),(4,4)] ⟨sq,sq⟩
  (aE _ rfl ⟨aL 0 (bW bs),aL 1 (.cons (bB _) .nil),aL 2 dO,⟨3,_,rfl,rfl,.cons (.agg (.cons (.nslk 4 4 _ rfl rfl) (.s .nil))) .nil⟩,⟨4,_,rfl,rfl,.nil⟩,trivial⟩ ⟨⟨_,rfl,.sl 0 0 0 _ rfl⟩,aF,aF,aF,⟨_,rfl,.int rfl⟩,trivial⟩) ?_
 rintro⟨k,a1,am⟩ ⟨hkk,ha⟩;simp only at hkk ha;have hbd:=zJ hb ((kids.take k).drop 1) ([],false) 0 sq sq;rw[<-ha] at hbd;simp only at hbd;have hlk:((kids.take k).drop 1).length<=65536:=by simp;omega
 have ha1:a1.length<=67108864:=om;refine Rr ?_;refine aI (λh=>?_) (λh=>?_)
 .have hlt:k<kids.length:=by rw[aK] at h;simpa using h
  have e1:(bL kids)[(k:Int).toNat]? = some (.int .i64 kids[k]):=by rw[aAc,bP,aAa hlt];rfl
  have hg:kids[k]? = some kids[k]:=aAa hlt;refine Rr ?_;refine aI (λh=>?_) (λh=>?_)
  .have hk0:k=0:=by simp at h;omega
   subst hk0;refine Rr ?_;exact .mk (1,a1,am) [(0,0),(1,1),(2,2),(3,3),(4,4)] ⟨by simp only;omega,by rw[ha];cases kids<;>simp⟩
    (aE _ rfl ⟨aL 0 (bW bs),aL 1 (.cons (bB _) .nil),aL 2 dO,⟨3,_,rfl,rfl,.cons (.agg (.cons (.sl 4 4 0 _ rfl) (.s .nil))) .nil⟩,aL 4 dO,trivial⟩ ⟨⟨_,rfl,.sl 0 0 0 _ rfl⟩,aF,aF,aF,⟨_,rfl,.int rfl⟩,trivial⟩) (by simp only;omega)
  have hk0:0<k:=by
   rcases aAz k with h'|h'
   .rw[h'] at h;simp at h
   .exact h'
  have hstep:=Ld (cV bs) hlt hk0 ([],false);rw[<-ha] at hstep;generalize kids[k]=q at e1 hg hstep;obtain⟨q1,q2⟩:=hk k q hg;obtain⟨qn,rfl⟩:=aAu q1;have hqn:qn<bs.length:=om;obtain⟨⟨bv,bm⟩,hbe⟩:∃b,b=bs[qn]:=⟨_,rfl⟩
  have hbm:=hb _ (show (⟨bv,bm⟩:jM)∈bs by rw[hbe];exact aAq hqn);simp only at hbm;have hat:Go.Ax.d8 bs qn=⟨bv,bm⟩:=by rw[hbe];simp[Go.Ax.d8,hqn]
  have bq:Nat.blt (qn:Int).toNat bs.length=true:=aAf (by simp;omega);have e2:(cT bs)[0+(qn:Int).toNat]? = some (oZ ⟨bv,bm⟩):=by rw[aAF,aAc,oT,aAa hqn,<-hbe];rfl
  have hso:=Lt (a1++bv) (by simp;omega) (λv hv=>by
   rcases aAt.1 hv with h|h
   .exact hbd.2 v h
   .exact hbm.2 v h)
  have hun:cV bs (a1,am) qn=(fT (a1++bv),am || bm || decide (1024<(fT (a1++bv)).length)):=by simp[cV,hat]
  rw[hun] at hstep;generalize fT (a1++bv)=sv at hso hstep;refine Rr ?_;refine aB e1 ?_;refine Rr ?_;repeat((first|refine aN bq ?_|refine aB e2 ?_);refine Rr ?_)
  refine aN (cD rfl rfl (by rw[aC]) (by simp[aC];omega)) ?_;refine Rr ?_;refine aH.pre bE [(5,5),(0,0),(1,1),(2,2),(3,3)] (mem':=[(5,.row 225 2 [.agg [.il 4 (aU bv),.bool bm]]),(0,.row 225 2 (cT bs)),(1,.row 57 12 [cW ⟨4,name,lo,hi,ws,ls,vals,kids,.mk vk vn vs vks⟩]),(2,.row 225 2 [.agg [.nsl,.bool false]]),(3,.row 225 2 [.agg [.junk,.bool am]])]) rfl
   ⟨aL 5 dO,aL 0 (bW bs),aL 1 (.cons (bB _) .nil),aL 2 dO,⟨3,_,rfl,rfl,.cons (.agg (.cons (.junk _) (.s .nil))) .nil⟩,trivial⟩
   (.cons (.fzR (ys:=aU (a1++bv)) rfl rfl (.eq dO (by simp[jT])) (by simp[aC])) .nil) ?_
  refine aH.useNew bE hso dO dO ?_;cases am<;>cases bm
  all_goals
   refine Rr ?_;exact .mk (k+1,sv,_) [(0,0),(1,1),(2,2),(3,3),(7,4)] ⟨by simp only;omega,hstep.symm⟩
    (aE _ rfl ⟨aL 0 (bW bs),aL 1 (.cons (bB _) .nil),aL 2 dO,⟨3,_,rfl,rfl,.cons (.agg (.cons (.sl 7 4 0 _ rfl) (.cons (.bool (by simp[aA2]<;>omega)) .nil))) .nil⟩,aL 7 dO,trivial⟩
     ⟨⟨_,rfl,.sl 0 0 0 _ rfl⟩,aF,aF,aF,⟨_,rfl,.w64 sq ⟨by simp only;omega,by simp only;omega⟩⟩,trivial⟩) (by simp only;omega)
 .have hke:k=kids.length:=by rw[aK] at h;simp at h;omega
  rw[hke,aAD] at ha;have hu:pO bs (kids.drop 1)=if am then⟨[],true⟩ else⟨a1,false⟩:=by
   unfold pO;rw[<-ha]
  cases am with
  | true=>
   refine Rr ?_;exact aW (r':=oZ ⟨[],true⟩) (n':=1) (m':=[(0,.row 225 2 (cT bs))]) [(0,0)] rfl ⟨aL 0 (bW bs),trivial⟩ (.agg' (.cons (.nil 4) (.s .nil))) ⟨by rw[hres,hu,aAh rfl],rfl⟩
  | false=>
   refine Rr ?_;exact aW (r':=oZ ⟨a1,false⟩) (n':=1) (m':=[(0,.row 225 2 (cT bs))]) [(0,0)] rfl ⟨aL 0 (bW bs),trivial⟩ (.agg' (.cons (.fzR rfl rfl (.same dO) (by rw[aC])) (.s .nil))) ⟨by rw[hres,hu,aAe sq],rfl⟩
def pJ(l:List (List aQ)):List AV:=l.map λr=>.il 4 (aU r)
theorem kI(l:List (List aQ)):kZ (pJ l):=λa ha=>by
 obtain⟨n,_,rfl⟩:=aAE.1 ha;exact nn
theorem vP(l:List aQ):∀rows:List (List aQ),(gF rows l).length=rows.length*l.length
 | []=>by simp[gF]
 | r::rs=>by
  have:=vP l rs;simp only[gF,aBs,aAA,aBO,aAH,Nat.add_mul,aBq] at this |-;omega
theorem MC(l:List (List aQ))(r:List aQ):pJ (l++[r])=pJ l++[.il 4 (aU r)]:=by simp[pJ]
theorem Hj(l:List (List aQ)):(pJ l).length=l.length:=by simp[pJ]
theorem Kq{name:List UInt8}(hn:name.length<=4294967296){r:List aQ}(hr:r.length<=4294967296)(ho:∀v∈r,iO v):iO (eB name r):=by
 unfold eB;split
 .exact oC oq oq sq hr (sV ho)
 .exact oC oq oq hn hr (sV ho)
theorem ZQ(x:Nd)(bs:List jM)(hname:x.name.length<=4294967296)(hkl:x.kids.length<=65536)(hk:∀(j:Nat) (k:Int),x.kids[j]? = some k->0<=k/\k<bs.length)(hb:∀b∈bs,b.vals.length<=1024/\∀v∈b.vals,iO v) :
  aH prog [] 230 [cW x,.sl 0 0 bs.length] [(0,.row 225 2 (cT bs))] 1 λr m _=>r=oZ (tF bs x)/\m=[(0,.row 225 2 (cT bs))]:=by
 obtain⟨kind,name,lo,hi,ws,ls,vals,kids,⟨vk,vn,vs,vks⟩⟩:=x;simp only at hkl hk hname;refine aD bE func230 rfl ?_;refine Rr ?_;refine bA.at bE (λa:Nat × List (List aQ)=>a.1<=kids.length/\a.2.length<=1024/\(∀r∈a.2,r.length<=a.1/\∀v∈r,iO v)/\gH bs kids [[]]=gH bs (kids.drop a.1) a.2)
  (λa=>⟨[(1,.sl 0 0 bs.length),(2,.ptr 1 0 0),(4,.ptr 2 0 0),(5,.sl 3 0 a.2.length),(6,.int .i64 a.1)],[(0,.row 225 2 (cT bs)),(1,.row 57 12 [cW ⟨kind,name,lo,hi,ws,ls,vals,kids,.mk vk vn vs vks⟩]),(2,.row 225 2 [.agg [.nsl,.bool false]]),(3,.row 53 1 (pJ a.2))],4,91⟩)
  (λa=>kids.length-a.1) (0,[[]]) [(0,0),(1,1),(2,2),(3,3)] ⟨sq,sq,sq,sq⟩
  (aE _ rfl ⟨aL 0 (bW bs),aL 1 (.cons (bB _) .nil),aL 2 dO,⟨3,_,rfl,rfl,.cons (.one rfl rfl (.nil 4)) .nil⟩,trivial⟩ ⟨⟨_,rfl,.sl 0 0 0 _ rfl⟩,aF,aF,⟨_,rfl,.sl 3 3 0 _ rfl⟩,⟨_,rfl,.int rfl⟩,trivial⟩) ?_
 rintro⟨k,rows⟩ ⟨hkk,hrl,hrr,hro⟩;simp only at hkk hrl hrr hro;have hseq:tF bs ⟨kind,name,lo,hi,ws,ls,vals,kids,.mk vk vn vs vks⟩=match gH bs kids [[]] with|none=>⟨[],true⟩|some rows=>⟨fT (rows.map (eB name)),false⟩:=rfl
 refine Rr ?_;refine aI (λh=>?_) (λh=>?_)
 .have hlt:k<kids.length:=by rw[aK] at h;simpa using h
  have e1:(bL kids)[(k:Int).toNat]? = some (.int .i64 kids[k]):=by rw[aAc,bP,aAa hlt];rfl
  have hg:kids[k]? = some kids[k]:=aAa hlt;rw[List.drop_eq_getElem_cons hlt,gH] at hro;generalize kids[k]=q at e1 hg hro;obtain⟨q1,q2⟩:=hk k q hg;obtain⟨qn,rfl⟩:=aAu q1;have hqn:qn<bs.length:=om;obtain⟨⟨bv,bm⟩,hbe⟩:∃b,b=bs[qn]:=⟨_,rfl⟩
  have hbm:=hb _ (show (⟨bv,bm⟩:jM)∈bs by rw[hbe];exact aAq hqn);simp only at hbm;have hat:Go.Ax.d8 bs qn=⟨bv,bm⟩:=by rw[hbe];simp[Go.Ax.d8,hqn]
  rw[hat] at hro;simp only at hro;have bq:Nat.blt (qn:Int).toNat bs.length=true:=aAf (by simp;omega);have e2:(cT bs)[0+(qn:Int).toNat]? = some (oZ ⟨bv,bm⟩):=by rw[aAF,aAc,oT,aAa hqn,<-hbe];rfl
  refine Rr ?_;refine aB e1 ?_;refine Rr ?_;repeat((first|refine aN bq ?_|refine aB e2 ?_);refine Rr ?_)
  cases bm with
  | true=>
   refine Rr ?_;exact aW (r':=oZ ⟨[],true⟩) (n':=1) (m':=[(0,.row 225 2 (cT bs))]) [(0,0)] rfl ⟨aL 0 (bW bs),trivial⟩ (.agg' (.cons (.nil 4) (.s .nil))) ⟨by rw[hseq,hro,aAh (.inl rfl)],rfl⟩
  | false=>
   refine Rr ?_;have hmul:IntKind.i64.wrap ((rows.length:Int)*((aU bv).length:Nat))=((rows.length*bv.length:Nat):Int):=by
    have hm:rows.length*bv.length<=1024*1024:=aBn hrl hbm.1;rw[aC];exact w64 (by push_cast;rfl) oq
   rw[hmul];refine aI (λh=>?_) (λh=>?_)
   .refine Rr ?_;exact aW (r':=oZ ⟨[],true⟩) (n':=1) (m':=[(0,.row 225 2 (cT bs))]) [(0,0)] rfl ⟨aL 0 (bW bs),trivial⟩ (.agg' (.cons (.nil 4) (.s .nil))) ⟨by rw[hseq,hro,aAh (.inr (by simp only[gt_iff_lt,aAC] at h;omega))],rfl⟩
   .have hle:rows.length*bv.length<=1024:=by simp only[gt_iff_lt,aB2] at h;omega
    rw[aAe (by simp;omega)] at hro;refine Rr ?_;refine bA.ph 53 1 ?_;refine bA.at bE (λi:Nat=>i<=rows.length)
     (λi=>⟨[(1,.sl 0 0 bs.length),(2,.ptr 1 0 0),(4,.ptr 2 0 0),(5,.sl 3 0 rows.length),(6,.int .i64 k),(7,.ptr 4 0 0),(8,.sl 5 0 (gF (rows.take i) bv).length),(9,.int .i64 i)],[(0,.row 225 2 (cT bs)),(1,.row 57 12 [cW ⟨kind,name,lo,hi,ws,ls,vals,kids,.mk vk vn vs vks⟩]),(2,.row 225 2 [.agg [.nsl,.bool false]]),(3,.row 53 1 (pJ rows)),(4,.row 225 2 [oZ ⟨bv,false⟩]),(5,.row 53 1 (pJ (gF (rows.take i) bv)))],6,91⟩)
     (λi=>rows.length-i) 0 [(0,0),(1,1),(2,2),(3,3),(4,4),(5,5)] sq
     (aE _ rfl ⟨aL 0 (bW bs),aL 1 (.cons (bB _) .nil),aL 2 dO,aL 3 (kI _),aL 4 (.cons (qK _) .nil),⟨5,_,rfl,rfl,.nil⟩,trivial⟩ ⟨⟨_,rfl,.sl 0 0 0 _ rfl⟩,aF,aF,⟨_,rfl,.sl 3 3 0 _ rfl⟩,⟨_,rfl,.int rfl⟩,aF,⟨_,rfl,.nslk 5 5 _ rfl rfl⟩,⟨_,rfl,.int rfl⟩,trivial⟩) ?_
    intro i hi0;refine Rr ?_;refine aI (λh=>?_) (λh=>?_)
    .have hir:i<rows.length:=su h
     obtain⟨rw,hrw⟩:∃rw,rw=rows[i]:=⟨_,rfl⟩
     have hrl2:=(hrr rw (by rw[hrw];exact aAq hir)).1;have e3:(pJ rows)[0+(i:Int).toNat]? = some (.il 4 (aU rw)):=by rw[aAF,aAc,pJ,aAK,aAa hir,hrw];rfl
     have b3:Nat.blt (i:Int).toNat rows.length=true:=aAf (by simp;omega);refine Rr ?_;refine bA.at bE (λj:Nat=>j<=bv.length)
      (λj=>⟨[(1,.sl 0 0 bs.length),(2,.ptr 1 0 0),(4,.ptr 2 0 0),(5,.sl 3 0 rows.length),(6,.int .i64 k),(7,.ptr 4 0 0),(8,.sl 5 0 (gF (rows.take i) bv++(bv.take j).map λv=>rw++[v]).length),(9,.int .i64 i),(10,.int .i64 j)],[(0,.row 225 2 (cT bs)),(1,.row 57 12 [cW ⟨kind,name,lo,hi,ws,ls,vals,kids,.mk vk vn vs vks⟩]),(2,.row 225 2 [.agg [.nsl,.bool false]]),(3,.row 53 1 (pJ rows)),(4,.row 225 2 [oZ ⟨bv,false⟩]),(5,.row 53 1 (pJ (gF (rows.take i) bv++(bv.take j).map λv=>rw++[v])))],6,91⟩)
      (λj=>bv.length-j) 0 [(0,0),(1,1),(2,2),(3,3),(4,4),(5,5)] sq
      (aE _ rfl ⟨aL 0 (bW bs),aL 1 (.cons (bB _) .nil),aL 2 dO,aL 3 (kI _),aL 4 (.cons (qK _) .nil),⟨5,_,rfl,rfl,.eq (kI _) sq⟩,trivial⟩ ⟨⟨_,rfl,.sl 0 0 0 _ rfl⟩,aF,aF,⟨_,rfl,.sl 3 3 0 _ rfl⟩,⟨_,rfl,.int rfl⟩,aF,⟨_,rfl,.slE rfl sq⟩,⟨_,rfl,.int rfl⟩,⟨_,rfl,.int rfl⟩,trivial⟩) ?_
     intro j hj;have hX:(gF (rows.take i) bv).length<=1048576:=by
      rw[vP];exact aAx (aBn (show (rows.take i).length<=1024 by simp;omega) hbm.1) om
     refine Rr ?_;refine aI (λh=>?_) (λh=>?_)
     .have hjl:j<bv.length:=Jp h;obtain⟨p1,p2,p3,p4,pm,pg,pe,ep⟩:=cX (l:=bv) (k:=j) hjl;have hL:gF (rows.take i) bv++((bv.take (j+1)).map λv=>rw++[v])=(gF (rows.take i) bv++(bv.take j).map λv=>rw++[v])++[rw++[.mk p1 p2 p3 p4]]:=by
       rw[aAl hjl,pe];simp
      refine Rr ?_;repeat((first|refine aN b3 ?_|refine aB e3 ?_);refine Rr ?_)
      refine aN (Dv rfl (by rw[aC];omega)) ?_;refine Rr ?_;refine aB ep ?_;refine Rr ?_;refine aN (cD rfl rfl sq (by simp[aC];omega)) ?_;refine Rr ?_;refine aN (cD rfl rfl (by rw[Hj]) (by simp;omega)) ?_;refine Rr ?_;exact .mk (j+1) [(0,0),(1,1),(2,2),(3,3),(4,4),(10,5)] om
       (aE _ rfl ⟨aL 0 (bW bs),aL 1 (.cons (bB _) .nil),aL 2 dO,aL 3 (kI _),aL 4 (.cons (qK _) .nil),⟨10,_,rfl,rfl,by rw[hL,MC];exact .snoc rfl (.same (kI _)) (.one rfl rfl (.fzR rfl rfl (.eq dO (by rw[kM];rfl)) (by simp[aC])))⟩,trivial⟩ ⟨⟨_,rfl,.sl 0 0 0 _ rfl⟩,aF,aF,⟨_,rfl,.sl 3 3 0 _ rfl⟩,⟨_,rfl,.int rfl⟩,aF,⟨_,rfl,.slE rfl (by rw[hL];simp only[aAA];rfl)⟩,⟨_,rfl,.int rfl⟩,⟨_,rfl,.w64 om oq⟩,trivial⟩) om
     .have hje:j=bv.length:=by have:bv.length<=j:=Jd h;omega
      refine Rr ?_;exact .mk (i+1) [(0,0),(1,1),(2,2),(3,3),(4,4),(5,5)] om
       (aE _ rfl ⟨aL 0 (bW bs),aL 1 (.cons (bB _) .nil),aL 2 dO,aL 3 (kI _),aL 4 (.cons (qK _) .nil),⟨5,_,rfl,rfl,.eq (kI _) (by rw[hje,aAD,aAl hir,<-hrw];simp[gF])⟩,trivial⟩ ⟨⟨_,rfl,.sl 0 0 0 _ rfl⟩,aF,aF,⟨_,rfl,.sl 3 3 0 _ rfl⟩,⟨_,rfl,.int rfl⟩,aF,⟨_,rfl,.slE rfl (by rw[hje,aAD,aAl hir,<-hrw];simp[gF])⟩,⟨_,rfl,.w64 om oq⟩,trivial⟩) om
    .have hie:i=rows.length:=by simp at h;omega
     have hmem:∀r∈gF rows bv,r.length<=k+1/\∀v∈r,iO v:=by
      intro r hr;simp only[gF,aB8,aAE] at hr;obtain⟨r',hr',v,hv,rfl⟩:=hr;have:=hrr r' hr';refine⟨by simp;omega,λu hu=>?_⟩;rcases aAt.1 hu with hu|hu
      .exact this.2 u hu
      .simp at hu;rw[hu];exact hbm.2 v hv
     refine Rr ?_;exact .mk (k+1,gF rows bv) [(0,0),(1,1),(2,2),(5,3)] ⟨by simp only;omega,by rw[vP];exact hle,hmem,hro⟩
      (aE _ rfl ⟨aL 0 (bW bs),aL 1 (.cons (bB _) .nil),aL 2 dO,⟨5,_,rfl,rfl,.eq (kI _) (by rw[hie,aAD])⟩,trivial⟩ ⟨⟨_,rfl,.sl 0 0 0 _ rfl⟩,aF,aF,⟨_,rfl,.slE rfl (by rw[hie,aAD])⟩,⟨_,rfl,.w64 sq ⟨by simp only;omega,by simp only;omega⟩⟩,trivial⟩) (by simp only;omega)
 .have hke:k=kids.length:=by rw[aK] at h;simp at h;omega
  rw[hke,aBy,gH] at hro;refine Rr ?_;refine bA.ph 55 4 ?_;refine bA.at bE (λi:Nat=>i<=rows.length)
   (λi=>⟨[(2,.ptr 1 0 0),(4,.ptr 2 0 0),(5,.sl 3 0 rows.length),(12,.sl 4 0 ((rows.take i).map (eB name)).length),(13,.int .i64 i)],[(0,.row 225 2 (cT bs)),(1,.row 57 12 [cW ⟨kind,name,lo,hi,ws,ls,vals,kids,.mk vk vn vs vks⟩]),(2,.row 225 2 [.agg [.nsl,.bool false]]),(3,.row 53 1 (pJ rows)),(4,.row 55 4 (aU ((rows.take i).map (eB name))))],5,91⟩)
   (λi=>rows.length-i) 0 [(0,0),(1,1),(2,2),(3,3),(4,4)] sq
   (aE _ rfl ⟨aL 0 (bW bs),aL 1 (.cons (bB _) .nil),aL 2 dO,aL 3 (kI _),aL 4 .nil,trivial⟩ ⟨aF,aF,⟨_,rfl,.sl 3 3 0 _ rfl⟩,⟨_,rfl,.nslk 4 4 _ rfl rfl⟩,⟨_,rfl,.int rfl⟩,trivial⟩) ?_
  intro i hi0;refine Rr ?_;refine aI (λh=>?_) (λh=>?_)
  .have hir:i<rows.length:=su h
   obtain⟨rw,hrw⟩:∃rw,rw=rows[i]:=⟨_,rfl⟩
   have e3:(pJ rows)[0+(i:Int).toNat]? = some (.il 4 (aU rw)):=by rw[aAF,aAc,pJ,aAK,aAa hir,hrw];rfl
   have b3:Nat.blt (i:Int).toNat rows.length=true:=aAf (by simp;omega);have hM:=RC ⟨kind,name,lo,hi,ws,ls,vals,kids,.mk vk vn vs vks⟩ rw;have hL:(rows.take (i+1)).map (eB name)=(rows.take i).map (eB name)++[eB name rw]:=by rw[aAl hir,<-hrw];simp
   simp only at hM;obtain⟨⟨m1,m2,m3,m4⟩,hmv⟩:∃mv,mv=eB name rw:=⟨_,rfl⟩
   rw[<-hmv] at hM hL;refine Rr ?_;repeat((first|refine bQ ?_|refine aN b3 ?_|refine aB e3 ?_);refine Rr ?_)
   refine hM.go ?_ (.cons (bB ⟨kind,name,lo,hi,ws,ls,vals,kids,.mk vk vn vs vks⟩) dO);refine Rr ?_;refine aN (cD rfl rfl (by rw[aC]) (by simp;omega)) ?_;refine Rr ?_;repeat((first|refine bQ ?_|refine aN b3 ?_|refine aB e3 ?_);refine Rr ?_)
   exact .mk (i+1) [(0,0),(1,1),(2,2),(3,3),(15,4)] om
    (aE _ rfl ⟨aL 0 (bW bs),aL 1 (.cons (bB _) .nil),aL 2 dO,aL 3 (kI _),⟨15,_,rfl,rfl,.eq dO (by rw[hL,kM];rfl)⟩,trivial⟩ ⟨aF,aF,⟨_,rfl,.sl 3 3 0 _ rfl⟩,⟨_,rfl,.slE rfl (by rw[hL];simp)⟩,⟨_,rfl,.w64 om oq⟩,trivial⟩) om
  .have hie:i=rows.length:=by simp at h;omega
   rw[hie,aAD];have hmo:∀v∈rows.map (eB name),iO v:=by
    intro v hv;obtain⟨r,hr,rfl⟩:=aAE.1 hv;have:=hrr r hr;exact Kq hname om this.2
   have hS:=WF (rows.map (eB name)) (by simp;omega) hmo;have hseq2:tF bs ⟨kind,name,lo,hi,ws,ls,vals,kids,.mk vk vn vs vks⟩=⟨fT (rows.map (eB name)),false⟩:=by rw[hseq,hro]
   rw[hseq2];generalize rows.map (eB name)=mv at hS |-;generalize fT mv=sv at hS |-;refine Rr ?_;refine aH.pre bE [(0,0),(1,1),(2,2),(3,3)] (mem':=[(0,.row 225 2 (cT bs)),(1,.row 57 12 [cW ⟨kind,name,lo,hi,ws,ls,vals,kids,.mk vk vn vs vks⟩]),(2,.row 225 2 [.agg [.nsl,.bool false]]),(3,.row 53 1 (pJ rows))]) (args':=[.il 4 (aU mv)]) rfl
    ⟨aL 0 (bW bs),aL 1 (.cons (bB _) .nil),aL 2 dO,aL 3 (kI _),trivial⟩ (.cons (.fz' rfl rfl (by rw[aC];omega) (by rw[aAJ];exact aAk (by rw[aC];omega)) dO) .nil) ?_
   refine hS.go ?_;refine Rr ?_;exact aW (r':=oZ ⟨sv,false⟩) (n':=1) (m':=[(0,.row 225 2 (cT bs))]) [(0,0)] rfl ⟨aL 0 (bW bs),trivial⟩ (.same _ (qK ⟨sv,false⟩)) ⟨rfl,rfl⟩
theorem Qq(x:Nd)(bs:List jM)(h3:x.kind=3)(hname:x.name.length<=4294967296)(hkl:x.kids.length<=65536)(hk:∀(j:Nat) (k:Int),x.kids[j]? = some k->0<=k/\k<bs.length)(hb:∀b∈bs,b.vals.length<=1024/\∀v∈b.vals,iO v) :
  aH prog [] 191 [cW x,.sl 0 0 bs.length] [(0,.row 225 2 (cT bs))] 1 λr m _=>r=oZ (dX x bs)/\m=[(0,.row 225 2 (cT bs))]:=by
 have hS:=ZQ x bs hname hkl hk hb;have e:dX x bs=tF bs x:=by unfold dX;rw[aAe om,aAe om,aAh h3]
 rw[e];generalize tF bs x=q at hS |-;obtain⟨sv,sm⟩:=q;have hnn:=bB x;obtain⟨kind,name,lo,hi,ws,ls,vals,kids,⟨vk,vn,vs,vks⟩⟩:=x;simp only at h3;subst h3;refine aD bE func191 rfl ?_;refine Rr ?_;refine aH.use1 bE hS 0 rfl (bW bs) (.cons (.same _ hnn) (.cons (.sl 0 0 0 _ rfl) .nil)) ?_;rintro r m n ⟨rfl,rfl⟩;refine⟨_,rfl,qK _,bW bs, ?_⟩;refine Rr ?_;exact aW (r':=oZ ⟨sv,sm⟩) (n':=1) (m':=[(0,.row 225 2 (cT bs))]) [(0,0)] rfl ⟨aL 0 (bW bs),trivial⟩ (.same _ (qK ⟨sv,sm⟩)) ⟨rfl,rfl⟩
theorem Xr(i:Nat)(x:Nd)(bs:List jM)(hx:mV i x)(hl:i=bs.length)(hb:HR bs) :
  aH prog [] 191 [cW x,.sl 0 0 bs.length] [(0,.row 225 2 (cT bs))] 1 λr m _=>r=oZ (dX x bs)/\m=[(0,.row 225 2 (cT bs))]:=by
 subst hl;have hk:=hx.kids;have hn:=dG hx.num;rcases(show x.kind=0\/x.kind=1\/x.kind=2\/x.kind=3\/x.kind=4 by have:=hx.kind;omega) with h|h|h|h|h
 .exact OU x bs h
 .exact LM x bs h hn.2.1 hn.1 hn.2.2.1 hn.2.2.2
 .exact Pa x bs h hx.klen hk hb
 .exact Qq x bs h hx.ok.name hx.klen hk hb
 .exact Oo x bs h hx.klen hk hb
abbrev tM(ns:List Nd):aP:=[(0,.row 57 12 (bJ ns))]
theorem K5{l:List Nd}(h:k<l.length)(hn:l.length=n):∃x,l[k]? = some x/\l[k]=x/\(bJ l)[0+(k:Int).toNat]? = some (cW x)/\Nat.blt (k:Int).toNat n=true:=
 ⟨l[k],aAa h,rfl,by simp[jW,aAa h],aAf (by simp;omega)⟩
theorem V9(ns:List Nd)(n:Nat)(hn:n<=ns.length)(hl:ns.length<=100000)(hg:∀(i:Nat) (x:Nd),i<n->ns[i]? = some x->mV i x) :
  aH prog [] 127 [.agg [.sl 0 0 ns.length],.int .i64 n] (tM ns) 1 λr m k=>r = .sl 1 0 n/\m=[(0,.row 57 12 (bJ ns)),(1,.row 225 2 (cT (aO (ns.take n))))]/\k=2:=by
 refine aD bE func127 rfl ?_;refine Rr ?_;refine bA.ph 225 2 ?_;refine bA.at bE (λi:Nat=>i<=n)
  (λi=>⟨[(1,.int .i64 n),(2,.ptr 1 0 0),(5,.sl 2 0 i),(6,.int .i64 i)],[(0,.row 57 12 (bJ ns)),(1,.row 25 1 [.agg [.sl 0 0 ns.length]]),(2,.row 225 2 (cT (aO (ns.take i))))],3,23⟩)
  (λi=>n-i) 0 [(0,0),(1,1),(2,2)] sq
  (aE _ rfl ⟨aL 0 (aR _),⟨1,_,rfl,rfl,.cons (.agg (.cons (.sl 0 0 0 _ rfl) .nil)) .nil⟩,aL 2 .nil,trivial⟩ ⟨aJ,aF,⟨_,rfl,.nslk 2 2 _ rfl rfl⟩,aJ,trivial⟩) ?_
 intro i hi;refine Rr ?_;refine aI (λh=>?_) (λh=>?_)
 .have hin:i<n:=by simp at h;omega
  obtain⟨x,hx1,hx2,ex,bx⟩:=K5 (l:=ns) (k:=i) (n:=ns.length) om rfl;have hgx:=hg i x hin hx1;have htl:(aO (ns.take i)).length=i:=by rw[gN];simp;omega
  have hL:=Xr i x (aO (ns.take i)) hgx htl.symm (pM _ λj y hy=>by
   have hj:=(aAg.1 hy).1;rw[aAL,aAh (by simp at hj;omega)] at hy;exact hg j y (by simp at hj;omega) hy)
  have hnx:aO (ns.take (i+1))=aO (ns.take i)++[dX x (aO (ns.take i))]:=by rw[aAl om,hx2,kL]
  have hxn:=bB x;have hxc:(cW x).cells.length=12:=by obtain⟨kind,name,lo,hi,ws,ls,vals,kids,⟨vk,vn,vs,vks⟩⟩:=x;rfl
  generalize dX x (aO (ns.take i))=nl at hL hnx;obtain⟨bs,hbs⟩:∃bs,bs=aO (ns.take i):=⟨_,rfl⟩
  rw[<-hbs] at hL hnx htl |-;obtain⟨kind,name,lo,hi,ws,ls,vals,kids,⟨vk,vn,vs,vks⟩⟩:=x;refine Rr ?_;repeat((first|refine aN bx ?_|refine aB ex ?_);refine Rr ?_)
  refine aH.use1 bE hL 2 rfl (bW bs) (.cons (.same _ hxn) (.cons (.slE rfl htl.symm) .nil)) ?_;rintro r m k ⟨rfl,rfl⟩;refine⟨_,rfl,qK _,bW bs, ?_⟩;refine Rr ?_;refine aN (cD rfl rfl (by rw[uS,htl]) (by simp;omega)) ?_;refine Rr ?_;exact .mk (i+1) [(0,0),(1,1),(4,2)] om
   (aE _ rfl ⟨aL 0 (aR _),⟨1,_,rfl,rfl,.cons (.agg (.cons (.sl 0 0 0 _ rfl) .nil)) .nil⟩,⟨4,_,rfl,rfl,.eq (bW _) (by rw[hnx];simp[cT])⟩,trivial⟩ ⟨aJ,aF,⟨_,rfl,.slE rfl sq⟩,⟨_,rfl,.w64 om oq⟩,trivial⟩) om
 .have hin:i=n:=by simp at h;omega
  subst hin;refine Rr ?_;exact aW (r':=.sl 1 0 i) (n':=2) (m':=[(0,.row 57 12 (bJ ns)),(1,.row 225 2 (cT (aO (ns.take i))))]) [(0,0),(2,1)] rfl ⟨aL 0 (aR _),aL 2 (bW _),trivial⟩ (.sl 2 1 0 _ rfl) ⟨rfl,rfl,rfl⟩
theorem OI(hi:i<ns.length):(aO (ns.take (i+1)))[i]? = some (Go.Ax.d8 (aO (ns.take (i+1))) i):=by
 have:i<(aO (ns.take (i+1))).length:=by rw[gN];simp;omega
 unfold Go.Ax.d8;rw[aAb,aAc,aAa this];rfl
theorem NF(ns:List Nd)(i:Nat)(hi:i<ns.length)(hl:ns.length<=100000)(hg:∀(j:Nat) (x:Nd),j<i+1->ns[j]? = some x->mV j x) :
  aH prog [] 69 [.agg [.sl 0 0 ns.length],.int .i64 i] (tM ns) 1 λr m _=>r = .tup [.il 4 (aU (Go.Ax.d8 (aO (ns.take (i+1))) i).vals),.bool (!(Go.Ax.d8 (aO (ns.take (i+1))) i).many)]/\m=tM ns:=by
 have hL:=V9 ns (i+1) om hl hg;have hw:IntKind.i64.wrap ((i:Int)+1)=((i+1:Nat):Int):=w64 om oq;have hat:=OI hi;have hlen:(aO (ns.take (i+1))).length=i+1:=by rw[gN];simp;omega
 generalize Go.Ax.d8 (aO (ns.take (i+1))) i=b at hat |-;generalize aO (ns.take (i+1))=bs at hL hat hlen;obtain⟨bv,bm⟩:=b;have e2:(cT bs)[0+((i:Nat):Int).toNat]? = some (oZ ⟨bv,bm⟩):=by rw[aAF,aAc,oT,hat];rfl
 have b2:Nat.blt ((i:Nat):Int).toNat (i+1)=true:=aAf sq;refine aD bE func69 rfl ?_;refine Rr ?_;rw[hw];refine aH.useN bE [(0,0)] hL rfl (.cons (.agg' (.cons (.sl 0 0 0 _ rfl) .nil)) (.s .nil)) ⟨aL 0 (aR _),trivial⟩ rfl ?_;rintro r m k ⟨rfl,rfl,rfl⟩;refine⟨[(0,0),(1,2)],.sl 2 0 (i+1),[(0,.row 57 12 (bJ ns)),(2,.row 225 2 (cT bs))],3,.sl 1 2 0 _ rfl,⟨aL 0 (aR _),aL 1 (bW _),trivial⟩,rfl, ?_⟩;refine Rr ?_;repeat((first|refine bQ ?_|refine aN b2 ?_|refine aB e2 ?_);refine Rr ?_)
 exact aW (r':=.tup [.il 4 (aU bv),.bool (!bm)]) (n':=1) (m':=tM ns) [(0,0)] rfl ⟨aL 0 (aR _),trivial⟩ (.same _ nn) ⟨rfl,rfl⟩
theorem Wy(ns:List Nd)(x:Nd)(i:Nat)(hi:i<=ns.length)(hl:ns.length<=100000)(hg:∀(j:Nat) (x:Nd),j<i->ns[j]? = some x->mV j x)(hx:x9 x)(hk0:0<x.kids.length)(hk:∀(j:Nat) (k:Int),x.kids[j]? = some k->0<=k/\k<i) :
  aH prog [] 34 [.agg [.sl 0 0 ns.length],cW x] (tM ns) 1 λr m _=>r = .int .i64 (jY ns x)/\m=tM ns:=by
 obtain⟨q,hq⟩:∃q,x.kids[0]? = some q:=⟨x.kids[0],aAa hk0⟩
 obtain⟨q1,q2⟩:=hk 0 q hq;obtain⟨qn,rfl⟩:=aAu q1;have hgd:x.kids.getD 0 0=qn:=by rw[aAb,hq];rfl
 have hV:=NF ns qn om hl λj y hj hy=>hg j y om hy
 have hbl:=xA (pM (ns.take (qn+1)) λj y hy=>hg j y (by have:=(nC hy).2;omega) (nC hy).1) qn;have hbe:jY ns x=if (Go.Ax.d8 (aO (ns.take (qn+1))) qn).many=true then 4 else if dK (Go.Ax.d8 (aO (ns.take (qn+1))) qn).vals x.values=true then 0 else 1:=by
  unfold jY;simp only[hgd,aAc]
 rw[hbe];generalize Go.Ax.d8 (aO (ns.take (qn+1))) qn=b at hV hbl |-;obtain⟨bv,bm⟩:=b;simp only at hV hbl |-;have hS:=Tp bv x.values om hbl.2;generalize dK bv x.values=sm at hS |-;have ek:(bL x.kids)[(0:Int).toNat]? = some (.int .i64 (qn:Int)):=by rw[bP];simp[hq]
 obtain⟨kind,name,lo,hi',ws,ls,vals,kids,⟨vk,vn,vs,vks⟩⟩:=x;simp only at hS ek;refine aD bE func34 rfl ?_;refine Rr ?_;repeat((first|refine bQ ?_|refine aB ek ?_);refine Rr ?_)
 refine aH.use1 bE hV 0 rfl (aR _) (.cons (.agg' (.cons (.sl 0 0 0 _ rfl) .nil)) (.s .nil)) ?_;rintro r m k ⟨rfl,rfl⟩;refine⟨_,rfl,nn,aR _, ?_⟩;cases bm with
 | true=>
  refine Rr ?_;repeat((first|refine bQ ?_|refine aB ek ?_);refine Rr ?_)
  exact aW (r':=.int .i64 4) (n':=1) (m':=tM ns) [(0,0)] rfl ⟨aL 0 (aR _),trivial⟩ (.same _ nn) ⟨rfl,rfl⟩
 | false=>
  refine Rr ?_;repeat((first|refine bQ ?_|refine aB ek ?_);refine Rr ?_)
  refine hS.go ?_;cases sm with
  | true=>
   refine Rr ?_;exact aW (r':=.int .i64 0) (n':=1) (m':=tM ns) [(0,0)] rfl ⟨aL 0 (aR _),trivial⟩ (.same _ nn) ⟨rfl,rfl⟩
  | false=>
   refine Rr ?_;exact aW (r':=.int .i64 1) (n':=1) (m':=tM ns) [(0,0)] rfl ⟨aL 0 (aR _),trivial⟩ (.same _ nn) ⟨rfl,rfl⟩
theorem WG(ns:List Nd)(hl:ns.length<=100000)(ho:∀x∈ns,x9 x/\x.values.length<=4294967290) :
  aH prog [] 8 [.agg [.sl 0 0 ns.length]] (tM ns) 1 λr m _=>r = .int .i64 (gL ns)/\m=tM ns:=by
 have hfin:∀(e:Int) (mem:aP) (nx:Nat),lk mem 0=some (.row 57 12 (bJ ns))->e=gL ns->rE 1 (λr m (_:Nat)=>r = .int .i64 (gL ns)/\m=tM ns) (.int .i64 e) mem nx:=by
  intro e mem nx h0 he;exact aW (r':=.int .i64 e) (n':=1) (m':=tM ns) [(0,0)] rfl ⟨⟨0,_,rfl,h0,.same (aR _)⟩,trivial⟩ (.same _ nn) ⟨by rw[he],rfl⟩
 refine aD bE func8 rfl ?_;refine Rr ?_;refine aI (λh=>?_) (λh=>?_)
 .have h1:4096<ns.length:=by simp at h;omega
  refine Rr ?_;exact hfin _ _ _ rfl (by unfold gL;rw[aAh h1])
 .have h1:¬4096<ns.length:=by simp at h;omega
  have hvt:gL ns=dB [] ns:=by unfold gL;rw[aAe h1]
  refine Rr ?_;refine bA.ph 3 1 ?_;refine bA.ph 3 1 ?_;refine bA.at bE (λi:Nat=>i<=ns.length/\dB [] (ns.take i)=0)
   (λi=>⟨[(1,.ptr 1 0 0),(3,.sl 2 0 i),(4,.sl 3 0 i),(5,.int .i64 i)],[(0,.row 57 12 (bJ ns)),(1,.row 25 1 [.agg [.sl 0 0 ns.length]]),(2,.row 3 1 (bL (cY (ns.take i)))),(3,.row 3 1 (bL (dH (ns.take i))))],4,57⟩)
   (λi=>ns.length-i) 0 [(0,0),(1,1),(2,2),(3,3)] ⟨sq,by simp[dB]⟩
   (aE _ rfl ⟨aL 0 (aR _),⟨1,_,rfl,rfl,.cons (.agg (.cons (.sl 0 0 0 _ rfl) .nil)) .nil⟩,aL 2 .nil,aL 3 .nil,trivial⟩ ⟨aF,⟨_,rfl,.nslk 2 2 _ rfl rfl⟩,⟨_,rfl,.nslk 3 3 _ rfl rfl⟩,aJ,trivial⟩) ?_
  rintro i ⟨hi,hv0⟩;refine Rr ?_;refine aI (λh=>?_) (λh=>?_)
  .have hin:i<ns.length:=by simp at h;omega
   obtain⟨x,hx1,hx2,ex,bx⟩:=K5 (l:=ns) (k:=i) (n:=ns.length) hin rfl;have hxm:=aAm hx1;obtain⟨hxo,hxv⟩:=ho x hxm;have hsplit:ns=ns.take i++x::ns.drop (i+1):=by rw[<-hx2,<-List.drop_eq_getElem_cons hin,List.take_append_drop]
   have hti:(ns.take i).length=i:=by simp;omega
   have htn:ns.take (i+1)=ns.take i++[x]:=by rw[aAl hin,hx2]
   have hgood:=o6 (ns.take i) (λy hy=>(ho y (aAI hy)).1) hv0;obtain⟨hls,hss⟩:=rP (ns.take i) hv0;have hll:(cY (ns.take i)).length=i:=by rw[nH,hti]
   have hsl:(dH (ns.take i)).length=i:=by rw[oA,hti]
   have hstop:=λhs=>DT (l:=ns.take i) (r:=ns.drop (i+1)) (x:=x) hv0 hs
   rw[<-hsplit] at hstop;have hgo:=iH [] (ns.take i) x hv0;rw[aAZ,<-htn] at hgo;have hN:=Xp i x om hxo hxv;have hlt:=oX (ns.take i) x;have hst:=oW (ns.take i) x;rw[<-htn] at hlt hst;have hse:jD (ns.take i) (cY (ns.take i)) (dH (ns.take i)) x=if gY i x≠0 then gY i x else if 256<jQ (cY (ns.take i)) x\/1024<nK (dH (ns.take i)) x then 4 else if x.kind=4 then jY (ns.take i) x else 0:=by
    unfold jD;rw[hti]
   have hbnd:(0<x.kids.length/\∀(j:Nat) (k:Int),x.kids[j]? = some k->0<=k/\k<i)->jY (ns.take i) x=jY ns x:=by
    rintro⟨h0,hk⟩;obtain⟨q,hq⟩:∃q,x.kids[0]? = some q:=⟨x.kids[0],aAa h0⟩
    obtain⟨q1,q2⟩:=hk 0 q hq;have hgd:x.kids.getD 0 0=q:=by rw[aAb,hq];rfl
    unfold jY;simp only[hgd];rw[aCk,aBN om]
   have hxn:=bB x;obtain⟨ne,hne⟩:∃ne,ne=gY i x:=⟨_,rfl⟩
   rw[<-hne] at hN hse;by_cases n0:ne=0
   .subst n0;have hok:=pB hne.symm;have h4:4<=x.kind->0<x.kids.length:=λh=>by have:=hok.bind (by have:=hok.kind;omega);omega
    have hL:=Rl (cY (ns.take i)) x hxo om hls (by rw[hll];exact hok.kids) h4 hok.kind;have hS:=W0 (dH (ns.take i)) x hxo om hss (by rw[hsl];exact hok.kids) h4 hok.kind;have hB:=Wy ns x i om hl (λj y hj hy=>hgood j y (by rw[aAL,aAh hj];exact hy)) hxo;rw[aAe sq] at hse;generalize cY (ns.take i)=lsI at hL hll hlt hse hstop hgo hls |-;generalize dH (ns.take i)=ssI at hS hsl hst hse hstop hgo hss |-;generalize jQ lsI x=ln at hL hlt hse;generalize nK ssI x=sn at hS hst hse;obtain⟨kind,name,lo,hi',ws,ls,vals,kids,⟨vk,vn,vs,vks⟩⟩:=x;simp only at hse h4 hB hbnd hok;refine Rr ?_;repeat((first|refine aN bx ?_|refine aB ex ?_);refine Rr ?_)
    refine hN.go ?_ (.cons (.int _ _) (.cons hxn .nil));refine Rr ?_;refine aH.useApp bE hL 2 rfl (bH _) (.cons (.slE rfl hll.symm) (.cons (.same _ hxn) .nil)) ?_;rintro len ys ⟨rfl,rfl⟩;refine Rr ?_;refine aH.useApp bE hS 3 rfl (bH _) (.cons (.slE rfl hsl.symm) (.cons (.same _ hxn) .nil)) ?_;rintro len ys ⟨rfl,rfl⟩;have el:(bL (lsI++[ln]))[0+((i:Nat):Int).toNat]? = some (.int .i64 ln):=by simp[bL,hll]
    have bl:Nat.blt ((i:Nat):Int).toNat (lsI.length+1)=true:=aAf (by simp;omega);have es:(bL (ssI++[sn]))[0+((i:Nat):Int).toNat]? = some (.int .i64 sn):=by simp[bL,hsl]
    have bs':Nat.blt ((i:Nat):Int).toNat (ssI.length+1)=true:=aAf (by simp;omega);refine Rr ?_;repeat((first|refine aN bl ?_|refine aB el ?_);refine Rr ?_)
    refine aI (λh2=>?_) (λh2=>?_)
    .have h3:256<ln:=su h2
     rw[h2];rw[aAh (.inl h3)] at hse;have hres:=hstop (by rw[hse];omega);refine Rr ?_;exact hfin _ _ _ rfl (by rw[hvt,hres,hse])
    .have h3:¬256<ln:=su h2
     rw[h2];refine Rr ?_;repeat((first|refine aN bs' ?_|refine aB es ?_);refine Rr ?_)
     refine aI (λh4'=>?_) (λh4'=>?_)
     .have h5:1024<sn:=su h4'
      rw[h4'];rw[aAh (.inr h5)] at hse;have hres:=hstop (by rw[hse];omega);refine Rr ?_;exact hfin _ _ _ rfl (by rw[hvt,hres,hse])
     .have h5:¬1024<sn:=su h4'
      rw[h4'];rw[aAe om] at hse;by_cases k4:kind=4
      .rw[aAh k4] at hse;have h40:=h4 om;have hB:=hB h40 hok.kids;rw[hbnd ⟨h40,hok.kids⟩] at hse;generalize jY ns ⟨kind,name,lo,hi',ws,ls,vals,kids,.mk vk vn vs vks⟩=be at hB hse;subst k4;refine Rr ?_;refine aH.use1 bE hB 0 rfl (aR _) (.cons (.agg' (.cons (.sl 0 0 0 _ rfl) .nil)) (.cons (.same _ hxn) .nil)) ?_;rintro r m k ⟨rfl,rfl⟩;refine⟨_,rfl,nn,aR _, ?_⟩;by_cases be0:be=0
       .subst be0;rw[hse] at hgo;refine Rr ?_;exact .mk (i+1) [(0,0),(1,1),(5,2),(6,3)] ⟨om,hgo⟩
         (aE _ rfl ⟨aL 0 (aR _),⟨1,_,rfl,rfl,.cons (.agg (.cons (.sl 0 0 0 _ rfl) .nil)) .nil⟩,⟨5,_,rfl,rfl,.eq (bH _) (by rw[hlt])⟩,⟨6,_,rfl,rfl,.eq (bH _) (by rw[hst])⟩,trivial⟩ ⟨aF,⟨_,rfl,.slE rfl (by rw[hll])⟩,⟨_,rfl,.slE rfl (by rw[hsl])⟩,⟨_,rfl,.w64 om oq⟩,trivial⟩) om
       .have d5:(be != 0)=true:=su be0
        have hres:=hstop (by rw[hse];exact be0);refine Rr ?_;rw[d5];refine Rr ?_;exact hfin _ _ _ rfl (by rw[hvt,hres,hse])
      .rw[aAe k4] at hse;have d4:(kind == 4)=false:=su k4
       rw[hse] at hgo;refine Rr ?_;rw[d4];refine Rr ?_;exact .mk (i+1) [(0,0),(1,1),(5,2),(6,3)] ⟨om,hgo⟩
        (aE _ rfl ⟨aL 0 (aR _),⟨1,_,rfl,rfl,.cons (.agg (.cons (.sl 0 0 0 _ rfl) .nil)) .nil⟩,⟨5,_,rfl,rfl,.eq (bH _) (by rw[hlt])⟩,⟨6,_,rfl,rfl,.eq (bH _) (by rw[hst])⟩,trivial⟩ ⟨aF,⟨_,rfl,.slE rfl (by rw[hll])⟩,⟨_,rfl,.slE rfl (by rw[hsl])⟩,⟨_,rfl,.w64 om oq⟩,trivial⟩) om
   .have d1:(ne != 0)=true:=su n0
    have hse':=hse;rw[aAh n0] at hse';have hres:=hstop (by rw[hse'];exact n0);rw[hse'] at hres;obtain⟨kind,name,lo,hi',ws,ls,vals,kids,⟨vk,vn,vs,vks⟩⟩:=x;refine Rr ?_;repeat((first|refine aN bx ?_|refine aB ex ?_);refine Rr ?_)
    refine hN.go ?_ (.cons (.int _ _) (.cons hxn .nil));refine Rr ?_;rw[d1];refine Rr ?_;exact hfin _ _ _ rfl (by rw[hvt,hres])
  .have hin:i=ns.length:=by simp at h;omega
   subst hin;rw[aAD] at hv0;refine Rr ?_;exact hfin _ _ _ rfl (by rw[hvt,hv0])
def zV:aQ:=.mk 0 0 [] []
def Ko(v:aQ):Nd:=⟨0,[],0,0,[],[],[],[],v⟩
def Dg(ns:List Nd)(l:List Int)(i k:Int):Nd:=
 let b:=Go.Ax.d8 (aO (ns.take ((sX l i 0).toNat+1))) (sX l i 0)
 if b.many=true\/6<b.vals.length then Ko (AC k) else⟨4,[],0,0,[],[],b.vals,sX l i 0::(List.range b.vals.length).map λj:Nat=>sX l i ((j:Int)+1),zV⟩
theorem rD{l:List Int}{i j:Int}(hi:1<=i):0<=sX l i j/\sX l i j<i:=by
 unfold sX;have hp:=mU (l:=l) (i:=3*i+j+2) (most:=1000000) om;split
 .exact⟨aB4 _ (aB5 hp.1 om),aBP _ om⟩
 .have h0:0<=((nU l (3*i+j+2) 1000000).tdiv 3).tmod 3:=aB4 _ (aB5 hp.1 om);omega
theorem X3(ns:List Nd)(l:List Int)(k:Int)(hl:∀x∈l,i64 x)(h1:1<=ns.length)(h2:ns.length<=1000)(hk0:0<=k)(hk1:k<=1000000)(hg:∀(j:Nat) (x:Nd),ns[j]? = some x->mV j x) :
    aH prog [] 29 [.agg [.sl 0 0 ns.length],.il 1 (bL l),.int .i64 ns.length,.int .i64 k] (tM ns) 1 λr m _=>r=cW (Dg ns l ns.length k)/\m=tM ns:=by
  have hfin:∀(x:Nd) (r:AV) (mem:aP) (nx:Nat),lk mem 0=some (.row 57 12 (bJ ns))->Cv mem [(0,0)] r (cW x)->x=Dg ns l ns.length k->rE 1 (λr m (_:Nat)=>r=cW (Dg ns l ns.length k)/\m=tM ns) r mem nx:=by
    intro x r mem nx h0 hr hx;exact aW (r':=cW x) (n':=1) (m':=tM ns) [(0,0)] rfl ⟨⟨0,_,rfl,h0,.same (aR _)⟩,trivial⟩ hr ⟨by rw[hx],rfl⟩
  have hK0:=R8 l ns.length 0 hl om om om om;obtain⟨q1,q2⟩:=rD (l:=l) (i:=(ns.length:Int)) (j:=0) om;obtain⟨q,hq⟩:=aAu q1;have hb:Dg ns l ns.length k=if (Go.Ax.d8 (aO (ns.take (q+1))) q).many=true\/6<(Go.Ax.d8 (aO (ns.take (q+1))) q).vals.length then Ko (AC k) else⟨4,[],0,0,[],[],(Go.Ax.d8 (aO (ns.take (q+1))) q).vals,(q:Int)::(List.range (Go.Ax.d8 (aO (ns.take (q+1))) q).vals.length).map λj:Nat=>sX l ns.length ((j:Int)+1),zV⟩:=by
    unfold Dg;simp only[hq,aAc]
  have hV:=NF ns q om om λj y _ hy=>hg j y hy
  rw[hq] at hK0;simp only[hb] at hfin |-;generalize Go.Ax.d8 (aO (ns.take (q+1))) q=b at hV hfin |-;obtain⟨bv,bm⟩:=b;simp only at hV hfin |-;have hLf:=VB k hk0 hk1;obtain⟨⟨f1,f2,f3,f4⟩,hf⟩:∃f,f=AC k:=⟨_,rfl⟩
  rw[<-hf] at hLf hfin |-;have hleaf:∀(mem:aP) (nx:Nat),lk mem 0=some (.row 57 12 (bJ ns))->(bm=true\/6<bv.length)->rE 1 (λr m (_:Nat)=>r=cW (if bm=true\/6<bv.length then Ko (.mk f1 f2 f3 f4) else⟨4,[],0,0,[],[],bv,(q:Int)::(List.range bv.length).map λj:Nat=>sX l ns.length ((j:Int)+1),zV⟩)/\m=tM ns)
      (.agg [.int .i64 0,.str [],.int .i64 0,.int .i64 0,.nsl,.nsl,.nsl,.nsl,.int .i64 f1,.int .i64 f2,.str f3,.il 4 (aU f4)]) mem nx:=by
    intro mem nx h0 hc;refine hfin (Ko (.mk f1 f2 f3 f4)) _ mem nx h0 ?_ (by rw[aAh hc]);exact .agg' (.s (.s (.s (.s (.cons (.nil 1) (.cons (.nil 1) (.cons (.nil 4) (.cons (.nil 1) (.s (.s (.s (.s .nil))))))))))))
  refine aD bE func29 rfl ?_;refine Rr ?_;refine hK0.go ?_;refine Rr ?_;refine aH.use1 bE hV 0 rfl (aR _) (.cons (.agg' (.cons (.sl 0 0 0 _ rfl) .nil)) (.s .nil)) ?_;rintro r m k' ⟨rfl,rfl⟩;refine⟨_,rfl,nn,aR _, ?_⟩;cases bm with
  | true=>
    refine Rr ?_;refine hLf.go ?_;refine Rr ?_;exact hleaf _ _ rfl (.inl rfl)
  | false=>
    refine Rr ?_;refine aI (λh=>?_) (λh=>?_)
    · have h6:6<bv.length:=by rw[aC] at h;simp at h;omega
      rw[h];refine Rr ?_;refine hLf.go ?_;refine Rr ?_;exact hleaf _ _ rfl (.inr h6)
    · have h6:¬6<bv.length:=by rw[aC] at h;simp at h;omega
      rw[h];refine Rr ?_;refine bA.at bE (λj:Nat=>j<=bv.length)
        (λj=>⟨[(1,.il 1 (bL l)),(2,.int .i64 ns.length),(8,.ptr 2 0 0),(10,.il 4 (aU bv)),(12,.ptr 3 0 0),(13,.int .i64 j)],
          [(0,.row 57 12 (bJ ns)),(2,.row 57 12 [.agg [.int .i64 0,.str [],.int .i64 0,.int .i64 0,.nsl,.nsl,.nsl,.nsl,.int .i64 0,.int .i64 0,.str [],.nsl]]),
           (3,.row 57 12 [.agg [.int .i64 4,.str [],.int .i64 0,.int .i64 0,.nsl,.nsl,.il 4 (aU bv),.sl 4 0 (j+1),.int .i64 0,.int .i64 0,.str [],.nsl]]),(4,.row 3 1 (bL ((q:Int)::(List.range j).map λj:Nat=>sX l ns.length ((j:Int)+1))))],5,54⟩)
        (λj=>bv.length-j) 0 [(0,0),(2,2),(4,3),(3,4)] sq
        (aE _ rfl ⟨aL 0 (aR _),aL 2 dO,⟨4,_,rfl,rfl,.cons (.agg (.s (.s (.s (.s (.s (.s (.s (.cons (.sl 3 4 0 1 rfl) (.s (.s (.s (.s .nil))))))))))))) .nil⟩,⟨3,_,rfl,rfl,.eq (bH _) rfl⟩,trivial⟩
          ⟨aJ,aJ,aF,aJ,aF,aJ,trivial⟩) ?_
      intro j hj;refine Rr ?_;refine aI (λh=>?_) (λh=>?_)
      · have hjl:j<bv.length:=Jp h
        have hw:IntKind.i64.wrap ((j:Int)+1)=(j:Int)+1:=aV oq;have hKj:=R8 l ns.length ((j:Int)+1) hl om om om om;refine Rr ?_;rw[hw];refine hKj.go ?_;refine Rt ?_;refine aN (cD rfl rfl (by rw[aK];simp) (by simp;omega)) ?_;refine Rt ?_;exact .mk (j+1) [(0,0),(2,2),(3,3),(16,4)] om
          (aE _ rfl ⟨aL 0 (aR _),aL 2 dO,⟨3,_,rfl,rfl,.cons (.agg (.s (.s (.s (.s (.s (.s (.s (.cons (.slE rfl sq) (.s (.s (.s (.s .nil))))))))))))) .nil⟩,⟨16,_,rfl,rfl,.eq (bH _) (by rw[aCy];simp[bL])⟩,trivial⟩
            ⟨aJ,aJ,aF,aJ,aF,⟨_,rfl,.w64 om oq⟩,trivial⟩) om
      · have hje:j=bv.length:=by have:=Jd h;omega
        subst hje;refine Rr ?_;refine hfin ⟨4,[],0,0,[],[],bv,(q:Int)::(List.range bv.length).map λj:Nat=>sX l ns.length ((j:Int)+1),zV⟩ _ _ _ rfl ?_ (by rw[aAe (by simp;omega)]);exact .agg' (.s (.s (.s (.s (.cons (.nil 1) (.cons (.nil 1) (.s (.cons (.fz' (id:=4) rfl rfl (by rw[aK];simp) (by rw[aAJ];exact aAk (by rw[aK];simp)) (bH _)) (.s (.s (.s (.cons (.nil 4) .nil))))))))))))
theorem uA{p:V->Prop}{l:List V}{y:V}(h:∀x∈l,p x)(hy:p y):∀x∈l++[y],p x:=λx hx=>by
 rcases aAt.1 hx with hx|hx
 .exact h x hx
 .simp at hx;rw[hx];exact hy
theorem OF(hT:mF ns)(h1:1<=ns.length)(h2:ns.length<=1000){l:List Int}{k:Int}(hk:0<=k):Re (Dg ns l ns.length k):=by
 have z0:i64 0:=oq
 unfold Dg;simp only;split
 .have:=JX k hk;exact qI z0 sq z0 z0 sq sq sq sq sq sq sq sq this.1 om
 .rename_i hc;rw[not_or] at hc;have hb:=λj=>rD (l:=l) (i:=(ns.length:Int)) (j:=j) om
  obtain⟨q0,q1⟩:=hb 0;have hv:dB [] (ns.take ((sX l ns.length 0).toNat+1))=0:=kG (r:=ns.drop ((sX l ns.length 0).toNat+1)) (by rw[List.take_append_drop];exact hT.valid);have ho:∀x∈ns.take ((sX l ns.length 0).toNat+1),x9 x:=λx hx=>hT.ok x (aAI hx)
  have hs:=I9 _ ho hv (sX l ns.length 0) q0 (by simp;omega);have hg:=xA (pM _ (o6 _ ho hv)) (sX l ns.length 0);refine qI oq sq z0 z0 sq sq sq sq om (λv hv=>⟨hg.2 v hv,by have:=hs v hv;omega⟩) (by simp;omega) (λw hw=>?_) (kP z0 z0) (by simp[zV,bF,cA]);rcases aAj.1 hw with rfl|hw
  .exact oq
  .obtain⟨j,_,rfl⟩:=aAE.1 hw;have:=hb ((j:Int)+1);exact oq
theorem gC.joinAt{P:Program}{Z:List (Nat × AV)}{B:Nat}{V:Type}{rest:Code}{Q:Exit->St->Prop}{G:Prop}(hΓ:∀p∈Z,NN p.2)(R:V->Prop)(af:V->St)
  (h1:(∀(a:V) (s:St) (J:List (Nat × Nat)),R a->Conv B J s (af a)->gC P Z B rest s Q)->G) (h2:∀a,R a->gC P Z B rest (af a) Q):G:=h1 λa s J hr hc=>gC.conv hΓ hc (h2 a hr)
theorem YX(l:List Int)(hl:∀x∈l,i64 x) :
  aH prog [] 6 [.il 1 (bL l)] [] 0 λr m n=>∃ns:List Nd,mF ns/\ns.length<=14/\r = .agg [.sl 0 0 ns.length]/\m=tM ns/\n=1:=by
 have z0:i64 0:=oq
 have hP0:=JE l 0 15 hl om;obtain⟨n0,n1⟩:=mU (l:=l) (i:=0) (most:=15) om;generalize nU l 0 15=nn0 at hP0 n0 n1;obtain⟨n,rfl⟩:=aAu n0;refine aD bE func6 rfl ?_;refine Rr ?_;refine hP0.go ?_;refine Rr ?_;refine bA.ph 57 12 ?_;refine bA.at bE (λns:List Nd=>mF ns/\ns.length<=n) (λns=>⟨[(0,.il 1 (bL l)),(2,.ptr 0 0 0),(3,.ptr 1 0 0),(4,.int .i64 n),(5,.int .i64 ns.length)],[(0,.row 25 1 [.agg [.nsl]]),(1,.row 25 1 [.agg [.sl 2 0 ns.length]]),(2,.row 57 12 (bJ ns))],3,181⟩) (λns=>n-ns.length) [] [(0,0),(1,1),(2,2)] ⟨⟨by simp[dB],sq⟩,sq⟩
  (aE _ rfl ⟨aL 0 dO,⟨1,_,rfl,rfl,.cons (.agg (.cons (.nslk 2 2 _ rfl rfl) .nil)) .nil⟩,aL 2 .nil,trivial⟩ ⟨aJ,aF,aF,aJ,aJ,trivial⟩) ?_
 rintro ns ⟨hT,hns⟩;refine Rr ?_;refine aI (λh=>?_) (λh=>?_)
 .have hlt:ns.length<n:=su h
  have hw1:IntKind.i64.wrap (1+(ns.length:Int))=1+(ns.length:Int):=aV oq;have hPk:=JE l (1+(ns.length:Int)) 1000000 hl om;obtain⟨kk0,kk1⟩:=mU (l:=l) (i:=1+(ns.length:Int)) (most:=1000000) om;generalize nU l (1+(ns.length:Int)) 1000000=kk at hPk kk0 kk1;have m8:=lQ kk0 (show (0:Int)<8 by omega);have q8:=EE kk0 (show (0:Int)<8 by omega);have q80:0<=kk.tdiv 8:=aB5 kk0 om;have hw8:IntKind.i64.wrap (kk.tdiv 8)=kk.tdiv 8:=aV oq;have m82:=lQ q80 (show (0:Int)<2 by omega);refine Rr ?_;rw[hw1];refine hPk.go ?_
  refine' gC.joinAt (P:=prog) (B:=0) bE (λkd:Int=>0<=kd/\kd<=4/\(2<=kd->2<=ns.length)) (λkd=>⟨[(0,.il 1 (bL l)),(2,.ptr 0 0 0),(3,.ptr 1 0 0),(4,.int .i64 n),(5,.int .i64 ns.length),(6,.int .i64 kk),(7,.ptr 3 0 0)],[(0,.row 25 1 [.agg [.nsl]]),(1,.row 25 1 [.agg [.sl 2 0 ns.length]]),(2,.row 57 12 (bJ ns)),(3,.row 57 12 [.agg [.int .i64 kd,.str [],.int .i64 0,.int .i64 0,.nsl,.nsl,.nsl,.nsl,.int .i64 0,.int .i64 0,.str [],.nsl]])],4,181⟩) (λhJ=>?_) (λkd hkd=>?_)
  rotate_left 2
  .by_cases hi2:ns.length<2
   .have d2:decide ((ns.length:Int)<2)=true:=by simp;omega
    refine Rr ?_;rw[d2];refine Rr ?_;rw[hw8];obtain⟨kd,hkd⟩:∃kd,kd=(kk.tdiv 8).tmod 2:=⟨_,rfl⟩
    rw[<-hkd] at m82 |-;have d5:decide (kd>5)=false:=by simp;omega
    refine Rr ?_;rw[d5]
    conv=>whnf
    refine gC.many ?_
    conv=>whnf
    exact hJ kd _ [(0,0),(1,1),(2,2),(3,3)] ⟨om,om,om⟩ (aE _ rfl ⟨aL 0 dO,⟨1,_,rfl,rfl,.cons (.agg (.cons (.sl 2 2 0 _ rfl) .nil)) .nil⟩,aL 2 (aR _),aL 3 dO,trivial⟩ ⟨aJ,aF,aF,aJ,aJ,aJ,aF,trivial⟩)
   .have d2:decide ((ns.length:Int)<2)=false:=by simp;omega
    refine Rr ?_;rw[d2];refine Rr ?_;have hkd5:(kk.tmod 8 == 5)=false\/(kk.tmod 8 == 5)=true:=by cases (kk.tmod 8 == 5)<;>simp
    rcases hkd5 with e5|e5
    .have n5:kk.tmod 8≠5:=su e5
     obtain⟨k8,hk8⟩:∃k8,k8=kk.tmod 8:=⟨_,rfl⟩
     rw[<-hk8] at e5 n5 m8 |-;rcases(show k8<5\/5<k8 by omega) with k5|k5
     .have d5:decide (k8>5)=false:=by simp;omega
      rw[e5];refine Rr ?_;rw[d5]
      conv=>whnf
      refine gC.many ?_
      conv=>whnf
      exact hJ k8 _ [(0,0),(1,1),(2,2),(3,3)] ⟨om,om,om⟩ (aE _ rfl ⟨aL 0 dO,⟨1,_,rfl,rfl,.cons (.agg (.cons (.sl 2 2 0 _ rfl) .nil)) .nil⟩,aL 2 (aR _),aL 3 dO,trivial⟩ ⟨aJ,aF,aF,aJ,aJ,aJ,aF,trivial⟩)
     .have d5:decide (k8>5)=true:=by simp;omega
      have hw4:IntKind.i64.wrap (k8-4)=k8-4:=aV oq;rw[e5];refine Rr ?_;rw[d5]
      conv=>whnf
      refine gC.many ?_
      conv=>whnf
      refine n8.many ?_
      conv=>whnf
      rw[hw4];exact hJ (k8-4) _ [(0,0),(1,1),(2,2),(3,3)] ⟨om,om,om⟩ (aE _ rfl ⟨aL 0 dO,⟨1,_,rfl,rfl,.cons (.agg (.cons (.sl 2 2 0 _ rfl) .nil)) .nil⟩,aL 2 (aR _),aL 3 dO,trivial⟩ ⟨aJ,aF,aF,aJ,aJ,aJ,aF,trivial⟩)
    .rw[e5];refine Rr ?_;rw[hw8];obtain⟨kd,hkd⟩:∃kd,kd=(kk.tdiv 8).tmod 2:=⟨_,rfl⟩
     rw[<-hkd] at m82 |-;have d5:decide (kd>5)=false:=by simp;omega
     refine Rr ?_;rw[d5]
     conv=>whnf
     refine gC.many ?_
     conv=>whnf
     exact hJ kd _ [(0,0),(1,1),(2,2),(3,3)] ⟨om,om,om⟩ (aE _ rfl ⟨aL 0 dO,⟨1,_,rfl,rfl,.cons (.agg (.cons (.sl 2 2 0 _ rfl) .nil)) .nil⟩,aL 2 (aR _),aL 3 dO,trivial⟩ ⟨aJ,aF,aF,aJ,aJ,aJ,aF,trivial⟩)
  .obtain⟨kd0,kd4,kd2⟩:=hkd;refine Rr ?_;refine Qt bE (λx:Nd=>Re x) (λx=>⟨[(0,.il 1 (bL l)),(2,.ptr 0 0 0),(3,.ptr 1 0 0),(4,.int .i64 n),(5,.int .i64 ns.length),(6,.int .i64 kk),(7,.ptr 3 0 0)],[(0,.row 25 1 [.agg [.nsl]]),(1,.row 25 1 [.agg [.sl 2 0 ns.length]]),(2,.row 57 12 (bJ ns)),(3,.row 57 12 [cW x])],4,181⟩) (λQr hQ=>?_) (λx hx=>?_)
   .rcases(show kd=0\/kd=1\/kd=2\/kd=3\/kd=4 by omega) with rfl|rfl|rfl|rfl|rfl
    .have hLf:=VB (kk.tdiv 8) (aB5 kk0 om) (by have:=EE kk0 (show (0:Int)<8 by omega);omega);have hlo:=JX (kk.tdiv 8) (aB5 kk0 om);generalize AC (kk.tdiv 8)=f at hLf hlo;obtain⟨f1,f2,f3,f4⟩:=f;refine Rr ?_;rw[hw8];refine hLf.go ?_;refine Rr ?_;exact hQ (Ko (.mk f1 f2 f3 f4)) _ [(0,0),(1,1),(2,2),(3,3)] (qI z0 sq z0 z0 sq sq sq sq sq sq sq sq hlo.1 om) (aE _ rfl ⟨aL 0 dO,⟨1,_,rfl,rfl,.cons (.agg (.cons (.sl 2 2 0 _ rfl) .nil)) .nil⟩,aL 2 (aR _),⟨3,_,rfl,rfl,.cons (.agg (.s (.s (.s (.s (.cons (.nil 1) (.cons (.nil 1) (.cons (.nil 4) (.cons (.nil 1) (.s (.s (.s (.s .nil))))))))))))) .nil⟩,trivial⟩ ⟨aJ,aF,aF,aJ,aJ,aJ,aF,trivial⟩)
    .refine Rr ?_;refine aI (λh=>?_) (λh=>?_)
     .refine Rr ?_;exact hQ ⟨1,[],_,_,[],[],[],[],zV⟩ _ [(0,0),(1,1),(2,2),(3,3)] (qI oq sq (Ol _) (Ol _) sq sq sq sq sq sq sq sq (kP z0 z0) (by simp[zV,bF,cA])) (aE _ rfl ⟨aL 0 dO,⟨1,_,rfl,rfl,.cons (.agg (.cons (.sl 2 2 0 _ rfl) .nil)) .nil⟩,aL 2 (aR _),⟨3,_,rfl,rfl,.cons (.agg (.s (.s (.s (.s (.cons (.nil 1) (.cons (.nil 1) (.cons (.nil 4) (.cons (.nil 1) (.s (.s (.s (.cons (.nil 4) .nil))))))))))))) .nil⟩,trivial⟩ ⟨aJ,aF,aF,aJ,aJ,aJ,aF,trivial⟩)
     .refine Rr ?_;exact hQ ⟨1,[],_,_,[],[],[],[],zV⟩ _ [(0,0),(1,1),(2,2),(3,3)] (qI oq sq (Ol _) (Ol _) sq sq sq sq sq sq sq sq (kP z0 z0) (by simp[zV,bF,cA])) (aE _ rfl ⟨aL 0 dO,⟨1,_,rfl,rfl,.cons (.agg (.cons (.sl 2 2 0 _ rfl) .nil)) .nil⟩,aL 2 (aR _),⟨3,_,rfl,rfl,.cons (.agg (.s (.s (.s (.s (.cons (.nil 1) (.cons (.nil 1) (.cons (.nil 4) (.cons (.nil 1) (.s (.s (.s (.cons (.nil 4) .nil))))))))))))) .nil⟩,trivial⟩ ⟨aJ,aF,aF,aJ,aJ,aJ,aF,trivial⟩)
    .refine Rr ?_;rcases(show decide ((IntKind.i64.wrap (kk.tdiv 32)).tmod 3>0)=true\/decide ((IntKind.i64.wrap (kk.tdiv 32)).tmod 3>0)=false by cases decide ((IntKind.i64.wrap (kk.tdiv 32)).tmod 3>0)<;>simp) with hB|hB
     .have hB:decide ((IntKind.i64.wrap (kk.tdiv 32)).tmod 3>0)=true:=hB;refine bA.ph 3 1 ?_;refine bA.ph 3 1 ?_;refine bA.ph 9 1 ?_;refine bA.at bE (λa:List Int × List (List UInt8) × List Int=>a.1.length<=4/\a.2.2.length=a.1.length/\(∀w∈a.1,i64 w)/\(∀w∈a.2.2,i64 w)/\(∀s∈a.2.1,s∈Ag)/\a.2.1.length=a.1.length)
       (λa=>⟨[(0,.il 1 (bL l)),(2,.ptr 0 0 0),(3,.ptr 1 0 0),(4,.int .i64 n),(5,.int .i64 ns.length),(6,.int .i64 kk),(7,.ptr 3 0 0),(8,.int .i64 a.1.length)],[(0,.row 25 1 [.agg [.nsl]]),(1,.row 25 1 [.agg [.sl 2 0 ns.length]]),(2,.row 57 12 (bJ ns)),(3,.row 57 12 [.agg [.int .i64 2,.str [],.int .i64 0,.int .i64 0,.sl 4 0 a.1.length,.sl 6 0 a.1.length,.nsl,.sl 5 0 a.1.length,.int .i64 0,.int .i64 0,.str [],.nsl]]),(4,.row 3 1 (bL a.1)),(5,.row 3 1 (bL a.2.2)),(6,.row 9 1 (vF a.2.1))],7,181⟩)
       (λa=>4-a.1.length) ([],[],[]) [(0,0),(1,1),(2,2),(3,3),(4,4),(5,5),(6,6)] sq
       (aE _ rfl ⟨aL 0 dO,⟨1,_,rfl,rfl,.cons (.agg (.cons (.sl 2 2 0 _ rfl) .nil)) .nil⟩,aL 2 (aR _),⟨3,_,rfl,rfl,.cons (.agg (.s (.s (.s (.s (.cons (.nslk 4 4 _ rfl rfl) (.cons (.nslk 6 6 _ rfl rfl) (.s (.cons (.nslk 5 5 _ rfl rfl) (.s (.s (.s (.s .nil))))))))))))) .nil⟩,aL 4 .nil,aL 5 .nil,aL 6 .nil,trivial⟩ ⟨aJ,aF,aF,aJ,aJ,aJ,aF,aJ,trivial⟩) ?_
      rintro⟨wl,ll,kl⟩ ⟨j1,j2,j3,j4,j5,j6⟩;simp only at j1 j2 j3 j4 j5 j6;refine Rr ?_;refine aI (λh=>?_) (λh=>?_)
      .have hjc:wl.length<4:=by rw[hw8] at h;have:=lQ q80 (show (0:Int)<4 by omega);simp at h;omega
       have hwj:IntKind.i64.wrap ((ns.length:Int)+(wl.length:Int))=(ns.length:Int)+wl.length:=aV oq;have hPj:=JE l ((ns.length:Int)+wl.length) 5 hl om;have hPb:=mU (l:=l) (i:=(ns.length:Int)+wl.length) (most:=5) om;generalize nU l ((ns.length:Int)+wl.length) 5=pw at hPj hPb;have hKj:=R8 l ns.length wl.length hl om om om om;have hKb:=rD (l:=l) (i:=(ns.length:Int)) (j:=(wl.length:Int)) om;generalize sX l ns.length wl.length=kw at hKj hKb;refine Rr ?_;rw[hwj];refine hPj.go ?_;refine Rt ?_;refine aN (cD rfl rfl (by rw[aK]) (by simp;omega)) ?_;refine Rt ?_;refine hKj.go ?_;refine Rt ?_;refine aN (cD rfl rfl (by rw[aK,j2]) (by simp;omega)) ?_;refine Rt ?_;rw[hB];refine Rr ?_;obtain⟨qn,hqn,hqe⟩:∃qn:Nat,qn<4/\(IntKind.i64.wrap ((wl.length:Int)+IntKind.i64.wrap (kk.tdiv 96))).tmod 4=(qn:Int):=by
        have a0:=EE kk0 (show (0:Int)<96 by omega);have a1:0<=kk.tdiv 96:=aB5 kk0 om;have e1:IntKind.i64.wrap (kk.tdiv 96)=kk.tdiv 96:=aV oq;have e2:IntKind.i64.wrap ((wl.length:Int)+kk.tdiv 96)=(wl.length:Int)+kk.tdiv 96:=aV oq;rw[e1,e2];have:=lQ (show 0<=(wl.length:Int)+kk.tdiv 96 by omega) (show (0:Int)<4 by omega);exact⟨(((wl.length:Int)+kk.tdiv 96).tmod 4).toNat,om,om⟩
       obtain⟨sa,hsa,hsm⟩:∃sa,([AV.str [97],AV.str [98],AV.str [99],AV.str [100]])[0+((qn:Nat):Int).toNat]? = some (.str sa)/\sa∈Ag:=by
        rcases(show qn=0\/qn=1\/qn=2\/qn=3 by omega) with rfl|rfl|rfl|rfl
        .exact⟨[97],rfl,by simp[Ag]⟩
        .exact⟨[98],rfl,by simp[Ag]⟩
        .exact⟨[99],rfl,by simp[Ag]⟩
        .exact⟨[100],rfl,by simp[Ag]⟩
       have bsa:Nat.blt ((qn:Nat):Int).toNat 4=true:=aAf (by simp;omega);rw[hqe];refine Rr ?_;repeat((first|refine bQ ?_|refine aN bsa ?_|refine aB hsa ?_);refine Rr ?_)
       refine aN (cD rfl rfl (by rw[cE,j6]) (by simp;omega)) ?_;refine Rr ?_;repeat((first|refine bQ ?_|refine aN bsa ?_|refine aB hsa ?_);refine Rr ?_)
       exact .mk (wl++[IntKind.i64.wrap (1+pw)],ll++[sa],kl++[kw]) [(0,0),(1,1),(2,2),(3,3),(19,4),(30,5),(45,6)] ⟨by simp;omega,by simp;omega,uA j3 (Ol _),uA j4 oq,uA j5 hsm,by simp;omega⟩
        (aE _ rfl ⟨aL 0 dO,⟨1,_,rfl,rfl,.cons (.agg (.cons (.sl 2 2 0 _ rfl) .nil)) .nil⟩,aL 2 (aR _),⟨3,_,rfl,rfl,.cons (.agg (.s (.s (.s (.s (.cons (.slE rfl sq) (.cons (.slE rfl sq) (.s (.cons (.slE rfl sq) (.s (.s (.s (.s .nil))))))))))))) .nil⟩,⟨19,_,rfl,rfl,.eq (bH _) (by simp[bL])⟩,⟨30,_,rfl,rfl,.eq (bH _) (by simp[bL])⟩,⟨45,_,rfl,rfl,.eq (qH _) (by simp[vF])⟩,trivial⟩ ⟨aJ,aF,aF,aJ,aJ,aJ,aF,⟨_,rfl,.w64 sq ⟨by simp;omega,by simp;omega⟩⟩,trivial⟩) (by simp;omega)
      .refine Rr ?_;exact hQ ⟨2,[],0,0,wl,ll,[],kl,zV⟩ _ [(0,0),(1,1),(2,2),(3,3)] (qI oq sq z0 z0 om j3 om j5 sq sq om j4 (kP z0 z0) (by simp[zV,bF,cA])) (aE _ rfl ⟨aL 0 dO,⟨1,_,rfl,rfl,.cons (.agg (.cons (.sl 2 2 0 _ rfl) .nil)) .nil⟩,aL 2 (aR _),⟨3,_,rfl,rfl,.cons (.agg (.s (.s (.s (.s (.cons (.fz' (id:=4) rfl rfl (by rw[aK];first|omega|(simp only;omega)) (by rw[aAJ];exact aAk (by rw[aK];first|omega|(simp only;omega))) (bH _)) (.cons (.fz' (id:=6) rfl rfl (by rw[cE];first|omega|(simp only;omega)) (by rw[aAJ];exact aAk (by rw[cE];first|omega|(simp only;omega))) (qH _)) (.cons (.nil 4) (.cons (.fz' (id:=5) rfl rfl (by rw[aK];first|omega|(simp only;omega)) (by rw[aAJ];exact aAk (by rw[aK];first|omega|(simp only;omega))) (bH _)) (.s (.s (.s (.cons (.nil 4) .nil))))))))))))) .nil⟩,trivial⟩ ⟨aJ,aF,aF,aJ,aJ,aJ,aF,trivial⟩)
     .have hB:decide ((IntKind.i64.wrap (kk.tdiv 32)).tmod 3>0)=false:=hB;refine bA.ph 3 1 ?_;refine bA.ph 3 1 ?_;refine bA.at bE (λa:List Int × List (List UInt8) × List Int=>a.1.length<=4/\a.2.2.length=a.1.length/\(∀w∈a.1,i64 w)/\(∀w∈a.2.2,i64 w)/\(∀s∈a.2.1,s∈Ag)/\a.2.1.length=0)
       (λa=>⟨[(0,.il 1 (bL l)),(2,.ptr 0 0 0),(3,.ptr 1 0 0),(4,.int .i64 n),(5,.int .i64 ns.length),(6,.int .i64 kk),(7,.ptr 3 0 0),(8,.int .i64 a.1.length)],[(0,.row 25 1 [.agg [.nsl]]),(1,.row 25 1 [.agg [.sl 2 0 ns.length]]),(2,.row 57 12 (bJ ns)),(3,.row 57 12 [.agg [.int .i64 2,.str [],.int .i64 0,.int .i64 0,.sl 4 0 a.1.length,.nsl,.nsl,.sl 5 0 a.1.length,.int .i64 0,.int .i64 0,.str [],.nsl]]),(4,.row 3 1 (bL a.1)),(5,.row 3 1 (bL a.2.2))],6,181⟩)
       (λa=>4-a.1.length) ([],[],[]) [(0,0),(1,1),(2,2),(3,3),(4,4),(5,5)] sq
       (aE _ rfl ⟨aL 0 dO,⟨1,_,rfl,rfl,.cons (.agg (.cons (.sl 2 2 0 _ rfl) .nil)) .nil⟩,aL 2 (aR _),⟨3,_,rfl,rfl,.cons (.agg (.s (.s (.s (.s (.cons (.nslk 4 4 _ rfl rfl) (.s (.s (.cons (.nslk 5 5 _ rfl rfl) (.s (.s (.s (.s .nil))))))))))))) .nil⟩,aL 4 .nil,aL 5 .nil,trivial⟩ ⟨aJ,aF,aF,aJ,aJ,aJ,aF,aJ,trivial⟩) ?_
      rintro⟨wl,ll,kl⟩ ⟨j1,j2,j3,j4,j5,j6⟩;simp only at j1 j2 j3 j4 j5 j6;refine Rr ?_;refine aI (λh=>?_) (λh=>?_)
      .have hjc:wl.length<4:=by rw[hw8] at h;have:=lQ q80 (show (0:Int)<4 by omega);simp at h;omega
       have hwj:IntKind.i64.wrap ((ns.length:Int)+(wl.length:Int))=(ns.length:Int)+wl.length:=aV oq;have hPj:=JE l ((ns.length:Int)+wl.length) 5 hl om;have hPb:=mU (l:=l) (i:=(ns.length:Int)+wl.length) (most:=5) om;generalize nU l ((ns.length:Int)+wl.length) 5=pw at hPj hPb;have hKj:=R8 l ns.length wl.length hl om om om om;have hKb:=rD (l:=l) (i:=(ns.length:Int)) (j:=(wl.length:Int)) om;generalize sX l ns.length wl.length=kw at hKj hKb;refine Rr ?_;rw[hwj];refine hPj.go ?_;refine Rt ?_;refine aN (cD rfl rfl (by rw[aK]) (by simp;omega)) ?_;refine Rt ?_;refine hKj.go ?_;refine Rt ?_;refine aN (cD rfl rfl (by rw[aK,j2]) (by simp;omega)) ?_;refine Rt ?_;rw[hB];refine Rr ?_;exact .mk (wl++[IntKind.i64.wrap (1+pw)],ll,kl++[kw]) [(0,0),(1,1),(2,2),(3,3),(18,4),(29,5)] ⟨by simp;omega,by simp;omega,uA j3 (Ol _),uA j4 oq,j5,j6⟩
        (aE _ rfl ⟨aL 0 dO,⟨1,_,rfl,rfl,.cons (.agg (.cons (.sl 2 2 0 _ rfl) .nil)) .nil⟩,aL 2 (aR _),⟨3,_,rfl,rfl,.cons (.agg (.s (.s (.s (.s (.cons (.slE rfl sq) (.s (.s (.cons (.slE rfl sq) (.s (.s (.s (.s .nil))))))))))))) .nil⟩,⟨18,_,rfl,rfl,.eq (bH _) (by simp[bL])⟩,⟨29,_,rfl,rfl,.eq (bH _) (by simp[bL])⟩,trivial⟩ ⟨aJ,aF,aF,aJ,aJ,aJ,aF,⟨_,rfl,.w64 sq ⟨by simp;omega,by simp;omega⟩⟩,trivial⟩) (by simp;omega)
      .refine Rr ?_;obtain rfl:ll=[]:=aBh.1 j6;exact hQ ⟨2,[],0,0,wl,[],[],kl,zV⟩ _ [(0,0),(1,1),(2,2),(3,3)] (qI oq sq z0 z0 om j3 sq sq sq sq om j4 (kP z0 z0) (by simp[zV,bF,cA])) (aE _ rfl ⟨aL 0 dO,⟨1,_,rfl,rfl,.cons (.agg (.cons (.sl 2 2 0 _ rfl) .nil)) .nil⟩,aL 2 (aR _),⟨3,_,rfl,rfl,.cons (.agg (.s (.s (.s (.s (.cons (.fz' (id:=4) rfl rfl (by rw[aK];first|omega|(simp only;omega)) (by rw[aAJ];exact aAk (by rw[aK];first|omega|(simp only;omega))) (bH _)) (.cons (.nil 1) (.cons (.nil 4) (.cons (.fz' (id:=5) rfl rfl (by rw[aK];first|omega|(simp only;omega)) (by rw[aAJ];exact aAk (by rw[aK];first|omega|(simp only;omega))) (bH _)) (.s (.s (.s (.cons (.nil 4) .nil))))))))))))) .nil⟩,trivial⟩ ⟨aJ,aF,aF,aJ,aJ,aJ,aF,trivial⟩)
    .obtain⟨qn,hqn,hqe⟩:∃qn:Nat,qn<3/\(IntKind.i64.wrap (kk.tdiv 8)).tmod 3=(qn:Int):=by
      rw[hw8];have:=lQ q80 (show (0:Int)<3 by omega);exact⟨((kk.tdiv 8).tmod 3).toNat,om,om⟩
     obtain⟨nm,hnm,hnl⟩:∃nm,([AV.str [],AV.str [80,97,105,114],AV.str []])[0+((qn:Nat):Int).toNat]? = some (.str nm)/\nm.length<=4:=by
      rcases(show qn=0\/qn=1\/qn=2 by omega) with rfl|rfl|rfl
      .exact⟨[],rfl,sq⟩
      .exact⟨[80,97,105,114],rfl,sq⟩
      .exact⟨[],rfl,sq⟩
     have bnm:Nat.blt ((qn:Nat):Int).toNat 3=true:=aAf (by simp;omega);refine Rr ?_;rw[hqe];refine Rr ?_;repeat((first|refine bQ ?_|refine aN bnm ?_|refine aB hnm ?_);refine Rr ?_)
     refine bA.ph 3 1 ?_;refine bA.at bE (λa:List Int=>a.length<=3/\∀w∈a,i64 w)
      (λa=>⟨[(0,.il 1 (bL l)),(2,.ptr 0 0 0),(3,.ptr 1 0 0),(4,.int .i64 n),(5,.int .i64 ns.length),(6,.int .i64 kk),(7,.ptr 3 0 0),(9,.int .i64 a.length)],[(0,.row 25 1 [.agg [.nsl]]),(1,.row 25 1 [.agg [.sl 2 0 ns.length]]),(2,.row 57 12 (bJ ns)),(3,.row 57 12 [.agg [.int .i64 3,.str nm,.int .i64 0,.int .i64 0,.nsl,.nsl,.nsl,.sl 4 0 a.length,.int .i64 0,.int .i64 0,.str [],.nsl]]),(4,.row 3 1 (bL a))],5,181⟩)
      (λa=>4-a.length) [] [(0,0),(1,1),(2,2),(3,3),(5,4)] sq
      (aE _ rfl ⟨aL 0 dO,⟨1,_,rfl,rfl,.cons (.agg (.cons (.sl 2 2 0 _ rfl) .nil)) .nil⟩,aL 2 (aR _),⟨3,_,rfl,rfl,.cons (.agg (.s (.s (.s (.s (.s (.s (.s (.cons (.nslk 5 4 _ rfl rfl) (.s (.s (.s (.s .nil))))))))))))) .nil⟩,aL 5 .nil,trivial⟩ ⟨aJ,aF,aF,aJ,aJ,aJ,aF,aJ,trivial⟩) ?_
     rintro kl ⟨j1,j4⟩;refine Rr ?_;refine aI (λh=>?_) (λh=>?_)
     .have hjc:kl.length<3:=by
       have a0:=EE kk0 (show (0:Int)<24 by omega);have a1:0<=kk.tdiv 24:=aB5 kk0 om;have e1:IntKind.i64.wrap (kk.tdiv 24)=kk.tdiv 24:=aV oq;rw[e1] at h;have:=lQ a1 (show (0:Int)<4 by omega);simp at h;omega
      have hKj:=R8 l ns.length kl.length hl om om om om;have hKb:=rD (l:=l) (i:=(ns.length:Int)) (j:=(kl.length:Int)) om;generalize sX l ns.length kl.length=kw at hKj hKb;refine Rr ?_;refine hKj.go ?_;refine Rt ?_;refine aN (cD rfl rfl (by rw[aK]) (by simp;omega)) ?_;refine Rt ?_;exact .mk (kl++[kw]) [(0,0),(1,1),(2,2),(3,3),(15,4)] ⟨by simp;omega,uA j4 oq⟩
       (aE _ rfl ⟨aL 0 dO,⟨1,_,rfl,rfl,.cons (.agg (.cons (.sl 2 2 0 _ rfl) .nil)) .nil⟩,aL 2 (aR _),⟨3,_,rfl,rfl,.cons (.agg (.s (.s (.s (.s (.s (.s (.s (.cons (.slE rfl sq) (.s (.s (.s (.s .nil))))))))))))) .nil⟩,⟨15,_,rfl,rfl,.eq (bH _) (by simp[bL])⟩,trivial⟩ ⟨aJ,aF,aF,aJ,aJ,aJ,aF,⟨_,rfl,.w64 sq ⟨by simp;omega,by simp;omega⟩⟩,trivial⟩) (by simp;omega)
     .refine Rr ?_;exact hQ ⟨3,nm,0,0,[],[],[],kl,zV⟩ _ [(0,0),(1,1),(2,2),(3,3)] (qI oq om z0 z0 sq sq sq sq sq sq om j4 (kP z0 z0) (by simp[zV,bF,cA])) (aE _ rfl ⟨aL 0 dO,⟨1,_,rfl,rfl,.cons (.agg (.cons (.sl 2 2 0 _ rfl) .nil)) .nil⟩,aL 2 (aR _),⟨3,_,rfl,rfl,.cons (.agg (.s (.s (.s (.s (.cons (.nil 1) (.cons (.nil 1) (.cons (.nil 4) (.cons (.fz' (id:=4) rfl rfl (by rw[aK];first|omega|(simp only;omega)) (by rw[aAJ];exact aAk (by rw[aK];first|omega|(simp only;omega))) (bH _)) (.s (.s (.s (.cons (.nil 4) .nil))))))))))))) .nil⟩,trivial⟩ ⟨aJ,aF,aF,aJ,aJ,aJ,aF,trivial⟩)
    .have hBd:=X3 ns l kk hl om om kk0 om hT.good;have hBg:=OF hT om om (l:=l) (k:=kk) kk0;have hns:ns.length<=14:=om;generalize Dg ns l ns.length kk=bx at hBd hBg;have hbn:=bB bx;refine Rr ?_;refine aH.use1 bE hBd 2 rfl (aR _) (.cons (.agg' (.cons (.sl 2 0 0 _ rfl) .nil)) (.s (.s (.s .nil)))) ?_;rintro r m k' ⟨rfl,rfl⟩;refine⟨_,rfl,hbn,aR _, ?_⟩;obtain⟨kind,name,lo,hi,ws,ls,vals,kids,⟨vk,vn,vs,vks⟩⟩:=bx;refine Rr ?_;exact hQ ⟨kind,name,lo,hi,ws,ls,vals,kids,.mk vk vn vs vks⟩ _ [(0,0),(1,1),(2,2),(3,3)] hBg (aE _ rfl ⟨aL 0 dO,⟨1,_,rfl,rfl,.cons (.agg (.cons (.sl 2 2 0 _ rfl) .nil)) .nil⟩,aL 2 (aR _),aL 3 (.cons (bB ⟨kind,name,lo,hi,ws,ls,vals,kids,.mk vk vn vs vks⟩) .nil),trivial⟩ ⟨aJ,aF,aF,aJ,aJ,aJ,aF,trivial⟩)
   .have hxn:=bB x;have hV:=WG (ns++[x]) (by simp;omega) (λy hy=>by
     rcases aAt.1 hy with hy|hy
     .have:=hT.gen y hy;exact⟨this.ok,by have:=this.vals;omega⟩
     .simp at hy;rw[hy];exact⟨hx.ok,by have:=hx.vals;omega⟩)
    have hnn2:=aR (ns++[x]);have eTk:List.take ns.length (List.drop 0 (bJ ns))=bJ ns:=by rw[aAJ];exact aAk (by rw[dL];omega)
    have hxs:bJ (ns++[x])=bJ ns++[cW x]:=by simp[bJ]
    have hsn:=λh=>hT.snoc (x:=x) om hx h
    have hw5:=lQ kk0 (show (0:Int)<5 by omega);have hlf:=hT.leaf (m:=kk.tmod 5) oq;obtain⟨e,he⟩:∃e,e=gL (ns++[x]):=⟨_,rfl⟩
    rw[<-he] at hV hsn;obtain⟨kind,name,lo,hi,ws,ls,vals,kids,⟨vk,vn,vs,vks⟩⟩:=x;refine Rr ?_;refine aN (MH (by rw[dL];omega)) ?_;rw[eTk];refine Rr ?_;refine aN (Dv rfl (by rw[dL];omega)) ?_;refine Rr ?_;refine aN (cD rfl rfl rfl (by rw[dL];simp;omega)) ?_;refine Rr ?_;refine aH.useN bE [(7,0)] hV rfl (.cons (.agg' (.cons (.slE rfl (by rw[dL];simp)) .nil)) .nil) ⟨⟨7,_,rfl,rfl,.eq hnn2 (by rw[hxs];rfl)⟩,trivial⟩ rfl ?_;rintro r m k' ⟨rfl,rfl⟩;refine⟨[(0,7)],_,[(7,.row 57 12 (bJ (ns++[⟨kind,name,lo,hi,ws,ls,vals,kids,.mk vk vn vs vks⟩])))],8,.same _ nn,⟨aL 0 hnn2,trivial⟩,rfl, ?_⟩;by_cases e0:e=0
    .subst e0;refine Rr ?_;exact .mk (ns++[⟨kind,name,lo,hi,ws,ls,vals,kids,.mk vk vn vs vks⟩]) [(0,0),(1,1),(7,2)] ⟨hsn rfl,by simp;omega⟩
      (aE _ rfl ⟨aL 0 dO,⟨1,_,rfl,rfl,.cons (.agg (.cons (.slE rfl (by rw[dL];simp)) .nil)) .nil⟩,aL 7 hnn2,trivial⟩ ⟨aJ,aF,aF,aJ,⟨_,rfl,.w64 sq ⟨by simp;omega,by simp;omega⟩⟩,trivial⟩) (by simp;omega)
    .have de:(e == 0)=false:=su e0
     refine Rr ?_;rw[de];refine Rr ?_;refine aN (cD rfl rfl (by rw[dL]) (by simp;omega)) ?_;refine Rr ?_;have hlx:bJ (ns++[⟨0,[],0,0,[],[],[],[],.mk 0 (kk.tmod 5) [] []⟩])=bJ ns++[cW ⟨0,[],0,0,[],[],[],[],.mk 0 (kk.tmod 5) [] []⟩]:=by simp[bJ]
     exact .mk (ns++[⟨0,[],0,0,[],[],[],[],.mk 0 (kk.tmod 5) [] []⟩]) [(0,0),(1,1),(9,2)] ⟨hlf,by simp;omega⟩
      (aE _ rfl ⟨aL 0 dO,⟨1,_,rfl,rfl,.cons (.agg (.cons (.slE rfl sq) .nil)) .nil⟩,⟨9,_,rfl,rfl,by rw[hlx];exact .snoc rfl (.same (aR _)) (.agg (.s (.s (.s (.s (.cons (.nil 1) (.cons (.nil 1) (.cons (.nil 4) (.cons (.nil 1) (.s (.s (.s (.cons (.nil 4) .nil)))))))))))))⟩,trivial⟩ ⟨aJ,aF,aF,aJ,⟨_,rfl,.w64 sq ⟨by simp;omega,by simp;omega⟩⟩,trivial⟩) (by simp;omega)
 .have hlt:ns.length=n:=by simp at h;omega
  refine Rr ?_;exact aW (r':=.agg [.sl 0 0 ns.length]) (m':=tM ns) (n':=1) [(2,0)] rfl ⟨aL 2 (aR _),trivial⟩ (.agg' (.cons (.sl 2 0 0 _ rfl) .nil)) ⟨ns,hT,om,rfl,rfl,rfl⟩
theorem XX(x:Nd)(ks:List aQ):aT prog [] 216 [.ip (cW x),.il 4 (aU ks)] (cO (eB x.name ks)):=by
 obtain⟨kind,name,lo,hi,ws,ls,vals,kids,⟨vk,vn,vs,vks⟩⟩:=x;refine aD bE func216 rfl ?_;unfold eB;refine Rr ?_;refine aI (λh=>?_) (λh=>?_)
 .have h1:name=[]:=su h
  rw[aAh h1];refine Rr ?_;exact aA nn ⟨rfl,rfl,rfl⟩
 .have h1:¬name=[]:=su h
  rw[aAe h1];refine Rt ?_;exact aA nn ⟨rfl,rfl,rfl⟩
theorem Wq(x:Nd)(hx:x9 x)(hs:bF x.value<=1048576)(hv:∀v∈x.values,bF v<=1048576)(h0:x.kind=0->x.values=[]):aT prog [] 59 [.ip (cW x)] (.int .i64 (fG (r8 x))):=by
 have hV:=Hq x.value hx.value hs;have hvv:=hx.valuesI;have hvl:=hx.values;obtain⟨kind,name,lo,hi,ws,ls,vals,kids,⟨vk,vn,vs,vks⟩⟩:=x;simp only at hV hv h0 hvv hvl;refine aD bE func59 rfl ?_;refine Rr ?_;refine aI (λh=>?_) (λh=>?_)
 .have h1:kind=0:=su h
  subst h1;have e:fG (r8 ⟨0,name,lo,hi,ws,ls,vals,kids,.mk vk vn vs vks⟩)=bG (.mk vk vn vs vks):=by
   rw[h0 rfl];simp only[r8,if_true,aA3,fG];split
   .rfl
   .rename_i h;simpa using (Decidable.not_not.1 h).symm
  rw[e];generalize bG (.mk vk vn vs vks)=z at hV;refine Rr ?_;refine hV.go ?_;refine Rr ?_;exact aA nn ⟨rfl,rfl,rfl⟩
 .have h1:¬kind=0:=su h
  have e:r8 ⟨kind,name,lo,hi,ws,ls,vals,kids,.mk vk vn vs vks⟩=vals:=by simp[r8,h1]
  rw[e];refine Rr ?_;refine bA.at bE (λi:Nat=>i<=vals.length/\fG vals=fG (vals.drop i)) (λi=>⟨[(19,.il 4 (aU vals)),(20,.int .i64 vals.length),(21,.int .i64 i)],[],0,31⟩) (λi=>vals.length-i) 0 [] ⟨sq,sq⟩
   (bX ⟨aM (.il' (bK _)),⟨_,rfl,.int (by rw[aC])⟩,aJ,trivial⟩) ?_
  rintro i ⟨hi,hf⟩;refine Rr ?_;refine aI (λh=>?_) (λh=>?_)
  .have hil:i<vals.length:=su h
   have ei:(aU vals)[((i:Nat):Int).toNat]? = some (cO vals[i]):=by simp[gQ,aAa hil]
   have hm:=aAq hil;have hV2:=Hq vals[i] (hvv _ hm).1 (hv _ hm);rw[List.drop_eq_getElem_cons hil,fG] at hf;generalize vals[i]=y at ei hV2 hf;generalize bG y=z at hV2 hf;obtain⟨y1,y2,y3,y4⟩:=y;refine Rr ?_;refine aB ei ?_;refine Rr ?_;refine hV2.go ?_;refine Rr ?_;refine aI (λh2=>?_) (λh2=>?_)
   .have e:z≠0:=su h2
    rw[aAh e] at hf;rw[hf];refine Rr ?_;exact aA nn ⟨rfl,rfl,rfl⟩
   .have e:¬z≠0:=su h2
    rw[aAe e] at hf;refine Rr ?_;exact .mk (i+1) [] ⟨om,hf⟩ (bX ⟨aM (.il' (bK _)),aJ,⟨_,rfl,.w64 om oq⟩,trivial⟩) om
  .have hil:i=vals.length:=by simp at h;omega
   rw[hil,aBy,fG] at hf;rw[hf];refine Rr ?_;exact aA nn ⟨rfl,rfl,rfl⟩
theorem Vx(x:Nd)(hx:x9 x):aT prog [] 60 [.ip (cW x)] (.bool (Go.Ax.d7 x)):=by
 have b1:=hx.lo;have b2:=hx.hi;have b3:=hx.weights;clear hx;obtain⟨kind,name,lo,hi,ws,ls,vals,kids,⟨vk,vn,vs,vks⟩⟩:=x;simp only[i64] at b1 b2 b3;have hnum:Go.Ax.d7 ⟨kind,name,lo,hi,ws,ls,vals,kids,.mk vk vn vs vks⟩=(decide (lo<=hi) && decide (-4611686018427387904<=lo) && decide (hi<=4611686018427387904) && decide (hi<lo+1099511627776) && ws.all λw=>decide (1<=w) && decide (w<=1000)):=rfl;generalize Go.Ax.d7 ⟨kind,name,lo,hi,ws,ls,vals,kids,.mk vk vn vs vks⟩=res at hnum;have hF:∀P:Prop,(res=true->P)->(¬P)->res=false:=λP h1 h2=>by
  cases hr:res with
  | false=>rfl
  | true=>exact absurd (h1 hr) h2
 refine aD bE func60 rfl ?_;refine Rt ?_;by_cases h1:lo<=hi
 .have d1:decide (lo>hi)=false:=by simp;omega
  rw[d1];refine Rt ?_;by_cases h2 : -4611686018427387904<=lo
  .have d2:decide (lo < -4611686018427387904)=false:=by simp;omega
   rw[d2];refine Rt ?_;by_cases h3:hi<=4611686018427387904
   .have d3:decide (hi>4611686018427387904)=false:=by simp;omega
    rw[d3];refine Rt ?_;have hw:IntKind.u64.wrap (IntKind.u64.wrap hi-IntKind.u64.wrap lo)=hi-lo:=by rw[eJ,eJ,eJ];omega
    simp only[hw];by_cases h4:hi<lo+1099511627776
    .have d4:decide (hi-lo≥1099511627776)=false:=by simp;omega
     rw[d4];refine Rr ?_;refine bA.at bE (λk:Nat=>k<=ws.length/\∀j w,j<k->ws[j]? = some w->1<=w/\w<=1000)
      (λk=>⟨[(45,.il 1 (bL ws)),(46,.int .i64 ws.length),(47,.int .i64 k)],[],0,58⟩) (λk=>ws.length-k) 0 [] ⟨sq,sq⟩
      (bX ⟨aM (.il' (bH _)),⟨_,rfl,.int (by rw[aK])⟩,aJ,trivial⟩) ?_
     rintro k ⟨hk,hall⟩;refine Rr ?_;refine aI (λh=>?_) (λh=>?_)
     .have hlt:k<ws.length:=su h
      have e1:(bL ws)[(k:Int).toNat]? = some (.int .i64 ws[k]):=by rw[aAc,bP,aAa hlt];rfl
      have hg:ws[k]? = some ws[k]:=aAa hlt;generalize ws[k]=w at e1 hg;have hbad:(1<=w/\w<=1000->False)->res=false:=λhb=>hF (1<=w/\w<=1000) (by
       intro e;rw[hnum] at e;simp only[aAd,aBD,aAC] at e;exact e.2 w (aAm hg)) hb
      refine Rr ?_;refine aB e1 ?_;refine Rr ?_;by_cases g1:1<=w
      .have d1:decide (w<1)=false:=by simp;omega
       rw[d1];refine Rr ?_;refine aI (λh=>?_) (λh=>?_)
       .refine Rr ?_;refine aA nn ⟨?_,rfl,rfl⟩;rw[hbad (by simp at h;omega)]
       .have g2:w<=1000:=su h
        refine Rr ?_;refine .mk (k+1) [] ⟨om,λj w2 hj hw2=>?_⟩ (bX ⟨aM (.il' (bH _)),aJ,⟨_,rfl,.w64 om oq⟩,trivial⟩) om;rcases aAr j k with hj'|hj'
        .exact hall j w2 hj' hw2
        .have hjk:j=k:=om;rw[hjk,hg] at hw2;cases hw2;exact⟨g1,g2⟩
      .have d1:decide (w<1)=true:=by simp;omega
       rw[d1];refine Rr ?_;refine aA nn ⟨?_,rfl,rfl⟩;rw[hbad om]
     .have hk':k=ws.length:=by simp at h;omega
      refine Rr ?_;refine aA nn ⟨?_,rfl,rfl⟩;rw[hnum];congr 1;symm;simp only[aAd,aBD,aAC];refine⟨⟨⟨⟨h1,h2⟩,h3⟩,h4⟩,λw hw=>?_⟩;obtain⟨j,hj⟩:=aAU hw;exact hall j w (by rw[hk'];exact(aAg.1 hj).1) hj
    .have d4:decide (hi-lo≥1099511627776)=true:=by simp;omega
     rw[d4];refine Rr ?_;refine aA nn ⟨?_,rfl,rfl⟩;rw[hF (hi<lo+1099511627776) (by intro e;rw[hnum] at e;simp at e;omega) h4]
   .have d3:decide (hi>4611686018427387904)=true:=by simp;omega
    rw[d3];refine Rr ?_;refine aA nn ⟨?_,rfl,rfl⟩;rw[hF (hi<=4611686018427387904) (by intro e;rw[hnum] at e;simp at e;omega) h3]
  .have d2:decide (lo < -4611686018427387904)=true:=by simp;omega
   rw[d2];refine Rr ?_;refine aA nn ⟨?_,rfl,rfl⟩;rw[hF (-4611686018427387904<=lo) (by intro e;rw[hnum] at e;simp at e;omega) h2]
 .have d1:decide (lo>hi)=true:=by simp;omega
  rw[d1];refine Rr ?_;refine aA nn ⟨?_,rfl,rfl⟩;rw[hF (lo<=hi) (by intro e;rw[hnum] at e;simp at e;omega) h1]
theorem TM(bs:List Int)(x:Nd)(hx:x9 x)(hkl:x.kids.length<=65536)(hb:∀y∈bs,0<=y/\y<=1024)(hk:∀(j:Nat) (k:Int),x.kids[j]? = some k->0<=k/\k<bs.length)(h4:4<=x.kind->0<x.kids.length)(hkind:0<=x.kind/\x.kind<=4) :
  aT prog [] 108 [.ip (cW x),.il 1 (bL bs)] (.int .i64 (jQ bs x)):=by
 have hxn:=bB x;have hat:∀k:Int,0<=Go.Ax.f7 bs k/\Go.Ax.f7 bs k<=1024:=λk=>by
  unfold Go.Ax.f7;rw[aAb];cases h:bs[k.toNat]? with
  | none=>simp
  | some y=>exact hb y (aAm h)
 have eat:∀k:Int,0<=k->k<bs.length->(bL bs)[k.toNat]? = some (.int .i64 (Go.Ax.f7 bs k)):=λk h0 h1=>by
  have:k.toNat<bs.length:=om;rw[bP,aAa this];unfold Go.Ax.f7;rw[aAb,aAa this];rfl
 have hs:=λl=>kH (b:=bs) (M:=1024) om hb l
 have hm:=λl=>mT (b:=bs) (M:=1024) om hb l
 have hlen:jQ bs x=if x.kind=0 then 0 else if x.kind=1 then 1 else if x.kind=3 then i9 bs x.kids else if x.kind=2 then 1+dM bs (i8 x) else Go.Ax.f7 bs (x.kids.getD 0 0)+dM bs (i8 x):=rfl
 have hM:∀k:Nat,k<x.kids.length->(dM bs (if x.kind=2 then x.kids.take (k+1) else(x.kids.take (k+1)).drop 1))=if 0<k\/x.kind=2 then max (dM bs (if x.kind=2 then x.kids.take k else(x.kids.take k).drop 1)) (Go.Ax.f7 bs (x.kids.getD k 0)) else dM bs (if x.kind=2 then x.kids.take k else(x.kids.take k).drop 1):=λk hk=>by
  have eg:x.kids.getD k 0=x.kids[k]:=by rw[aAb,aAa hk];rfl
  rw[eg];by_cases e2:x.kind=2
  .rw[aAh e2,aAh (.inr e2),aAh e2,vN hk]
  .rw[aAe e2,aAe e2];by_cases e0:0<k
   .rw[aAh (.inl e0),q7 hk e0]
   .rw[aAe om];have:k=0:=om;subst this;simp[dM,aBl]
 obtain⟨kind,name,lo,hi,ws,ls,vals,kids,⟨vk,vn,vs,vks⟩⟩:=x;simp only at hkl hk h4 hkind hlen hM;generalize jQ bs ⟨kind,name,lo,hi,ws,ls,vals,kids,.mk vk vn vs vks⟩=res at hlen;refine aD bE func108 rfl ?_;refine Rr ?_;refine bA.at bE (λp:Nat × Int × Int=>p.1<=kids.length/\p.2.1=i9 bs (kids.take p.1)/\p.2.2=dM bs (if kind=2 then kids.take p.1 else(kids.take p.1).drop 1))
  (λp=>⟨[(0,.ip (cW ⟨kind,name,lo,hi,ws,ls,vals,kids,.mk vk vn vs vks⟩)),(1,.il 1 (bL bs)),(5,.int .i64 p.2.1),(6,.int .i64 p.2.2),(12,.il 1 (bL kids)),(13,.int .i64 kids.length),(14,.int .i64 p.1)],[],0,67⟩)
  (λp=>kids.length-p.1) (0,0,0) [] ⟨sq,by simp[i9],by simp[dM]⟩
  (bX ⟨aM (.ip _ (hxn.cells.get)),aM (.il' (bH _)),aJ,aJ,aM (.il' (bH _)),⟨_,rfl,.int (by rw[aK])⟩,aJ,trivial⟩) ?_
 rintro⟨k,sum,most⟩ ⟨hkk,hsum,hmost⟩;simp only at hkk hsum hmost |-;have bsum:=hs (kids.take k);rw[<-hsum] at bsum;have bm:=hm (if kind=2 then kids.take k else(kids.take k).drop 1);rw[<-hmost] at bm;have btk:(kids.take k).length<=65536:=by simp;omega
 refine Rr ?_;refine aI (λh=>?_) (λh=>?_)
 .have hlt:k<kids.length:=su h
  have e1:(bL kids)[(k:Int).toNat]? = some (.int .i64 kids[k]):=by rw[aAc,bP,aAa hlt];rfl
  obtain⟨q0,q1⟩:=hk k _ (aAa hlt);have hst:=yO (b:=bs) hlt;have hM:=hM k hlt;have eg:kids.getD k 0=kids[k]:=by rw[aAb,aAa hlt];rfl
  rw[<-hsum] at hst;rw[eg,<-hmost] at hM;generalize kids[k]=q at e1 q0 q1 hst hM;obtain⟨q,rfl⟩:=aAu q0;have e2:=eat q q0 q1;have hq:=hat q;generalize Go.Ax.f7 bs q=z at e2 hq hst hM;have hw:IntKind.i64.wrap (sum+z)=sum+z:=aV oq;refine Rr ?_;repeat((first|refine aB e1 ?_|refine aB e2 ?_);refine Rr ?_)
  by_cases k0:0<k
  .have d0:decide ((k:Int)>0)=true:=by simp;omega
   rw[d0];refine Rr ?_;repeat((first|refine aB e1 ?_|refine aB e2 ?_);refine Rr ?_)
   exact .mk (k+1,sum+z,max most z) [] ⟨by simp only;omega,by simp only;rw[hst],by simp only;rw[hM,aAh (.inl k0)]⟩ (bX ⟨aM (.ip _ (hxn.cells.get)),aM (.il' (bH _)),⟨_,rfl,.int (by simp only;exact hw)⟩,⟨_,rfl,.int (by simp only;split<;>omega)⟩,aM (.il' (bH _)),aJ,⟨_,rfl,.wp⟩,trivial⟩) (by simp only;omega)
  .have k0':k=0:=om;have d0:decide ((k:Int)>0)=false:=by simp;omega
   rw[d0];refine Rr ?_;by_cases k2:kind=2
   .subst k2;refine Rr ?_;repeat((first|refine aB e1 ?_|refine aB e2 ?_);refine Rr ?_)
    exact .mk (k+1,sum+z,max most z) [] ⟨by simp only;omega,by simp only;rw[hst],by show max most z=dM bs (if (2:Int)=2 then kids.take (k+1) else(kids.take (k+1)).drop 1);rw[hM,aAh (.inr rfl)]⟩ (bX ⟨aM (.ip _ (hxn.cells.get)),aM (.il' (bH _)),⟨_,rfl,.int (by simp only;exact hw)⟩,⟨_,rfl,.int (by simp only;split<;>omega)⟩,aM (.il' (bH _)),aJ,⟨_,rfl,.wp⟩,trivial⟩) (by simp only;omega)
   .have d2:(kind == 2)=false:=su k2
    rw[d2];refine Rr ?_;exact .mk (k+1,sum+z,most) [] ⟨by simp only;omega,by simp only;rw[hst],by simp only;rw[hM,aAe om]⟩ (bX ⟨aM (.ip _ (hxn.cells.get)),aM (.il' (bH _)),⟨_,rfl,.int (by simp only;exact hw)⟩,aJ,aM (.il' (bH _)),aJ,⟨_,rfl,.wp⟩,trivial⟩) (by simp only;omega)
 .have hk':k=kids.length:=by simp at h;omega
  subst hk';rw[aAD] at hsum hmost;have har:i8 ⟨kind,name,lo,hi,ws,ls,vals,kids,.mk vk vn vs vks⟩=if kind=2 then kids else kids.drop 1:=rfl
  rw[har,<-hmost,<-hsum] at hlen;rcases(show kind=0\/kind=1\/kind=2\/kind=3\/kind=4 by omega) with rfl|rfl|rfl|rfl|rfl
  .rw[hlen,aAh rfl];refine Rr ?_;exact aA nn ⟨rfl,rfl,rfl⟩
  .rw[hlen,aAe (by decide),aAh rfl];refine Rr ?_;exact aA nn ⟨rfl,rfl,rfl⟩
  .rw[hlen,aAe (by decide),aAe (by decide),aAe (by decide),aAh rfl];refine Rr ?_;rw[aV (n:=1+most) oq];exact aA nn ⟨rfl,rfl,rfl⟩
  .rw[hlen,aAe (by decide),aAe (by decide),aAh rfl];refine Rr ?_;exact aA nn ⟨rfl,rfl,rfl⟩
  .rw[hlen,aAe (by decide),aAe (by decide),aAe (by decide),aAe (by decide)];have hlt:0<kids.length:=h4 om;have e1:(bL kids)[(0:Int).toNat]? = some (.int .i64 kids[0]):=by rw[show (0:Int).toNat=0 from rfl,bP,aAa hlt];rfl
   obtain⟨q0,q1⟩:=hk 0 _ (aAa hlt);have eg:kids.getD 0 0=kids[0]:=by rw[aAb,aAa hlt];rfl
   rw[eg];generalize kids[0]=q at e1 q0 q1;obtain⟨q,rfl⟩:=aAu q0;have e2:=eat q q0 q1;have hq:=hat q;generalize Go.Ax.f7 bs q=z at e2 hq;refine Rr ?_;repeat((first|refine aB e1 ?_|refine aB e2 ?_);refine Rr ?_)
   rw[aV (n:=z+most) oq];exact aA nn ⟨rfl,rfl,rfl⟩
mutual
theorem NM:∀(a b:aQ),cJ a b=0->a=b
 | .mk k n s ks,.mk k' n' s' ks',h=>by
  simp only[cJ,andThen] at h;split at h
  .rename_i h1;split at h
   .rename_i h2;split at h
    .rename_i h3;have e1:k=k':=Decidable.byContradiction λe=>yL e h1
     have e2:n=n':=Decidable.byContradiction λe=>yL e h2
     rw[e1,e2,qY h3,Nc ks ks' h]
    .rename_i h3;exact absurd h h3
   .rename_i h2;exact absurd h h2
  .rename_i h1;exact absurd h h1
theorem Nc:∀(l m:List aQ),g5 l m=0->l=m
 | [],[],_=>rfl
 | [],_::_,h=>by simp[g5] at h
 | _::_,[],h=>by simp[g5] at h
 | a::l,b::m,h=>by
  simp only[g5,andThen] at h;split at h
  .rename_i h1;rw[NM a b h1,Nc l m h]
  .rename_i h1;exact absurd h h1
end
def vH(x:Nd):Bool:=decide (0<=x.kind) && decide (x.kind<=4) && lU x
theorem D7{v:aQ}:jB [] [] [cO v,.agg [.int .i64 0,.int .i64 0,.str [],.nsl]] [cO v,cO (.mk 0 0 [] [])]:=
 .cons (.same _ (dC v)) (.cons (.agg' (.s (.s (.s (.cons (.nil 4) .nil))))) .nil)
theorem V7(x:Nd)(hx:x9 x):aT prog [] 57 [.ip (cW x)] (.bool (vH x)):=by
 have hC:=rZ x.value (.mk 0 0 [] []) hx.value;have hz:(cJ x.value (.mk 0 0 [] []) == 0)=Em x.value:=by
  obtain⟨k,n,s,ks⟩:=x.value;rw[aAS];simp only[Em,aAd,aAC,beq_iff_eq];constructor
  .intro h;have:=NM _ _ h;cases this;simp
  .rintro⟨⟨⟨rfl,rfl⟩,rfl⟩,h⟩;have:ks=[]:=aBh.1 h;subst this;exact(oU _).refl
 have hres:vH x=(decide (0<=x.kind) && decide (x.kind<=4) && ((decide (x.kind=0) || Em x.value) && (decide (x.kind=1) || (decide (x.lo=0) && decide (x.hi=0))) && (decide (x.kind=3) || decide (x.name=[])) &&
  (decide (x.kind=2) || (decide (x.weights.length=0) && decide (x.labels.length=0))) && (decide (x.kind=4) || decide (x.values.length=0)) && ((decide (x.kind≠0) && decide (x.kind≠1)) || decide (x.kids.length=0)))):=rfl
 generalize vH x=res at hres;rw[<-hz] at hres;obtain⟨c,hc⟩:∃c,c=cJ x.value (.mk 0 0 [] []):=⟨_,rfl⟩
 rw[<-hc] at hC hres;clear hz hc hx;obtain⟨kind,name,lo,hi,ws,ls,vals,kids,⟨vk,vn,vs,vks⟩⟩:=x;simp only at hres hC;have eW:(((bL ws).length:Int) == 0)=decide (ws.length=0):=by rw[aK,aAS];simp
 have eL:(((vF ls).length:Int) == 0)=decide (ls.length=0):=by rw[cE,aAS];simp
 have eV:(((aU vals).length:Int) == 0)=decide (vals.length=0):=by rw[aC,aAS];simp
 have eK:(((bL kids).length:Int) == 0)=decide (kids.length=0):=by rw[aK,aAS];simp
 have eN:(name == [])=decide (name=[]):=by rw[aAS];simp
 have e1:(lo == 0)=decide (lo=0):=by rw[aAS];simp
 have e2:(hi == 0)=decide (hi=0):=by rw[aAS];simp
 refine aD bE func57 rfl ?_;rcases(show kind=0\/kind=1\/kind=2\/kind=3\/kind=4\/(kind<0\/4<kind) by omega) with rfl|rfl|rfl|rfl|rfl|hk
 .refine Rr ?_;rw[e1];generalize decide (lo=0)=b1 at hres |-;cases b1 with
  | false=>
   refine Rr ?_;exact aA nn ⟨by rw[hres];simp,rfl,rfl⟩
  | true=>
  refine Rr ?_;rw[e2];generalize decide (hi=0)=b2 at hres |-;cases b2 with
  | false=>
   refine Rr ?_;exact aA nn ⟨by rw[hres];simp,rfl,rfl⟩
  | true=>
  refine Rr ?_;rw[eW];generalize decide (ws.length=0)=b3 at hres |-;cases b3 with
  | false=>
   refine Rr ?_;exact aA nn ⟨by rw[hres];simp,rfl,rfl⟩
  | true=>
  refine Rr ?_;rw[eL];generalize decide (ls.length=0)=b4 at hres |-;cases b4 with
  | false=>
   refine Rr ?_;exact aA nn ⟨by rw[hres];simp,rfl,rfl⟩
  | true=>
  refine Rr ?_;rw[eN];generalize decide (name=[])=b5 at hres |-;cases b5 with
  | false=>
   refine Rr ?_;exact aA nn ⟨by rw[hres];simp,rfl,rfl⟩
  | true=>
  refine Rr ?_;rw[eV];generalize decide (vals.length=0)=b6 at hres |-;cases b6 with
  | false=>
   refine Rr ?_;exact aA nn ⟨by rw[hres];simp,rfl,rfl⟩
  | true=>
  refine Rr ?_;rw[eK];generalize decide (kids.length=0)=b7 at hres |-;cases b7 with
  | false=>
   refine Rr ?_;exact aA nn ⟨by rw[hres];simp,rfl,rfl⟩
  | true=>
  refine Rr ?_;exact aA nn ⟨by rw[hres];simp,rfl,rfl⟩
 .refine Rr ?_;refine hC.useC bE D7 nn ?_;refine Rr ?_;generalize (c == 0)=b1 at hres |-;cases b1 with
  | false=>
   refine Rr ?_;exact aA nn ⟨by rw[hres];simp,rfl,rfl⟩
  | true=>
  refine Rr ?_;rw[eW];generalize decide (ws.length=0)=b2 at hres |-;cases b2 with
  | false=>
   refine Rr ?_;exact aA nn ⟨by rw[hres];simp,rfl,rfl⟩
  | true=>
  refine Rr ?_;rw[eL];generalize decide (ls.length=0)=b3 at hres |-;cases b3 with
  | false=>
   refine Rr ?_;exact aA nn ⟨by rw[hres];simp,rfl,rfl⟩
  | true=>
  refine Rr ?_;rw[eN];generalize decide (name=[])=b4 at hres |-;cases b4 with
  | false=>
   refine Rr ?_;exact aA nn ⟨by rw[hres];simp,rfl,rfl⟩
  | true=>
  refine Rr ?_;rw[eV];generalize decide (vals.length=0)=b5 at hres |-;cases b5 with
  | false=>
   refine Rr ?_;exact aA nn ⟨by rw[hres];simp,rfl,rfl⟩
  | true=>
  refine Rr ?_;rw[eK];generalize decide (kids.length=0)=b6 at hres |-;cases b6 with
  | false=>
   refine Rr ?_;exact aA nn ⟨by rw[hres];simp,rfl,rfl⟩
  | true=>
  refine Rr ?_;exact aA nn ⟨by rw[hres];simp,rfl,rfl⟩
 .refine Rr ?_;refine hC.useC bE D7 nn ?_;refine Rr ?_;generalize (c == 0)=b1 at hres |-;cases b1 with
  | false=>
   refine Rr ?_;exact aA nn ⟨by rw[hres];simp,rfl,rfl⟩
  | true=>
  refine Rr ?_;rw[e1];generalize decide (lo=0)=b2 at hres |-;cases b2 with
  | false=>
   refine Rr ?_;exact aA nn ⟨by rw[hres];simp,rfl,rfl⟩
  | true=>
  refine Rr ?_;rw[e2];generalize decide (hi=0)=b3 at hres |-;cases b3 with
  | false=>
   refine Rr ?_;exact aA nn ⟨by rw[hres];simp,rfl,rfl⟩
  | true=>
  refine Rr ?_;rw[eN];generalize decide (name=[])=b4 at hres |-;cases b4 with
  | false=>
   refine Rr ?_;exact aA nn ⟨by rw[hres];simp,rfl,rfl⟩
  | true=>
  refine Rr ?_;rw[eV];generalize decide (vals.length=0)=b5 at hres |-;cases b5 with
  | false=>
   refine Rr ?_;exact aA nn ⟨by rw[hres];simp,rfl,rfl⟩
  | true=>
  refine Rr ?_;exact aA nn ⟨by rw[hres];simp,rfl,rfl⟩
 .refine Rr ?_;refine hC.useC bE D7 nn ?_;refine Rr ?_;generalize (c == 0)=b1 at hres |-;cases b1 with
  | false=>
   refine Rr ?_;exact aA nn ⟨by rw[hres];simp,rfl,rfl⟩
  | true=>
  refine Rr ?_;rw[e1];generalize decide (lo=0)=b2 at hres |-;cases b2 with
  | false=>
   refine Rr ?_;exact aA nn ⟨by rw[hres];simp,rfl,rfl⟩
  | true=>
  refine Rr ?_;rw[e2];generalize decide (hi=0)=b3 at hres |-;cases b3 with
  | false=>
   refine Rr ?_;exact aA nn ⟨by rw[hres];simp,rfl,rfl⟩
  | true=>
  refine Rr ?_;rw[eW];generalize decide (ws.length=0)=b4 at hres |-;cases b4 with
  | false=>
   refine Rr ?_;exact aA nn ⟨by rw[hres];simp,rfl,rfl⟩
  | true=>
  refine Rr ?_;rw[eL];generalize decide (ls.length=0)=b5 at hres |-;cases b5 with
  | false=>
   refine Rr ?_;exact aA nn ⟨by rw[hres];simp,rfl,rfl⟩
  | true=>
  refine Rr ?_;rw[eV];generalize decide (vals.length=0)=b6 at hres |-;cases b6 with
  | false=>
   refine Rr ?_;exact aA nn ⟨by rw[hres];simp,rfl,rfl⟩
  | true=>
  refine Rr ?_;exact aA nn ⟨by rw[hres];simp,rfl,rfl⟩
 .refine Rr ?_;refine hC.useC bE D7 nn ?_;refine Rr ?_;generalize (c == 0)=b1 at hres |-;cases b1 with
  | false=>
   refine Rr ?_;exact aA nn ⟨by rw[hres];simp,rfl,rfl⟩
  | true=>
  refine Rr ?_;rw[e1];generalize decide (lo=0)=b2 at hres |-;cases b2 with
  | false=>
   refine Rr ?_;exact aA nn ⟨by rw[hres];simp,rfl,rfl⟩
  | true=>
  refine Rr ?_;rw[e2];generalize decide (hi=0)=b3 at hres |-;cases b3 with
  | false=>
   refine Rr ?_;exact aA nn ⟨by rw[hres];simp,rfl,rfl⟩
  | true=>
  refine Rr ?_;rw[eW];generalize decide (ws.length=0)=b4 at hres |-;cases b4 with
  | false=>
   refine Rr ?_;exact aA nn ⟨by rw[hres];simp,rfl,rfl⟩
  | true=>
  refine Rr ?_;rw[eL];generalize decide (ls.length=0)=b5 at hres |-;cases b5 with
  | false=>
   refine Rr ?_;exact aA nn ⟨by rw[hres];simp,rfl,rfl⟩
  | true=>
  refine Rr ?_;rw[eN];generalize decide (name=[])=b6 at hres |-;cases b6 with
  | false=>
   refine Rr ?_;exact aA nn ⟨by rw[hres];simp,rfl,rfl⟩
  | true=>
  refine Rr ?_;exact aA nn ⟨by rw[hres];simp,rfl,rfl⟩
 .rcases hk with hk|hk
  .have d0:decide (kind≥0)=false:=by simp;omega
   refine Rr ?_;rw[d0];refine Rr ?_;exact aA nn ⟨by rw[hres,aAw (show ¬0<=kind by omega)];simp,rfl,rfl⟩
  .have d0:decide (kind≥0)=true:=by simp;omega
   have d1:decide (kind<=4)=false:=by simp;omega
   refine Rr ?_;rw[d0];refine Rr ?_;rw[d1];refine Rr ?_;exact aA nn ⟨by rw[hres,d1];simp,rfl,rfl⟩
theorem TG(ns:List Nd)(i:Nat)(x:Nd)(hl:ns.length<=4294967296)(hi:ns[i]? = some x)(hx:x9 x)(hvl:x.values.length<=1000000)(hc:vH x=true) :
  aT prog [] 58 [.ip (.agg [.il 12 (bJ ns),.junk,.junk,.junk]),.int .i64 i] (.bool (dT i x)):=by
 have hil:=(aAg.1 hi).1;have ex:(bJ ns)[(i:Int).toNat]? = some (cW x):=by simp[jW,hi]
 have b1:=hx.kids;have hxn:=bB x;have hnn:=aR ns;have hcmp:∀a∈x.values,∀b,aT prog [] 106 [cO a,cO b] (.int .i64 (cJ a b)):=λa ha b=>rZ a b (hx.valuesI a ha).1
 have hV:=Hq (.mk 3 0 x.name []) (oC oq oq hx.name sq (by simp[tO])) (by simp[bF,cA]);have hcap:(bG (.mk 3 0 x.name []) == 0)=Go.Ax.f9 x.name:=by
  simp only[bG,bT,dA,c9,lF,Bl,rO,bF,cA];cases Go.Ax.f9 x.name<;>simp
 have hres:dT i x=(lU x && (decide (0<=x.kind) && decide (x.kind<=4)) && qD i x.kids && (decide (x.kind≠2) || (decide (1<=x.kids.length) && decide (x.kids.length<=256) && decide (x.weights.length=x.kids.length) && (decide (x.labels.length=0) || decide (x.labels.length=x.kids.length)))) &&
  (decide (x.kind≠3) || (decide (x.kids.length<=256) && (decide (x.name=[]) || (Go.Ax.f9 x.name && decide (x.kids.length<=16))))) && (decide (x.kind≠4) || decide (x.kids.length=x.values.length+1)) && fD x.values):=rfl
 simp only[vH,aAd,aAC] at hc;obtain⟨⟨hk0,hk4⟩,hun⟩:=hc;rw[hun,aAn hk0,aAn hk4] at hres;have hvs:x.kind≠4->x.values=[]:=λh=>by
  unfold lU at hun;simp only[aAd,aBm,aAC] at hun;rcases hun.1.2 with h'|h'
  .exact absurd h' h
  .exact aBh.1 h'
 generalize dT i x=res at hres;rw[<-hcap] at hres;generalize bG (.mk 3 0 x.name [])=cv at hV hres;clear hx hcap hi hun;obtain⟨kind,name,lo,hi,ws,ls,vals,kids,⟨vk,vn,vs,vks⟩⟩:=x;simp only at hres hV hcmp hvs hk0 hk4 b1 hvl;have hF:(res=true->False)->AV.bool false=AV.bool res:=λh1=>by
  cases hr:res with
  | false=>rfl
  | true=>exact(h1 hr).elim
 refine aD bE func58 rfl ?_;refine Rr ?_;repeat(refine aB ex ?_;refine Rr ?_)
 refine bA.at bE (λk:Nat=>k<=kids.length/\∀(j:Nat) (q:Int),j<k->kids[j]? = some q->0<=q/\q<i)
  (λk=>⟨[(1,.int .i64 i),(5,.ip (cW ⟨kind,name,lo,hi,ws,ls,vals,kids,.mk vk vn vs vks⟩)),(6,.int .i64 kids.length),(24,.il 1 (bL kids)),(25,.int .i64 kids.length),(26,.int .i64 k)],[],0,132⟩) (λk=>kids.length-k) 0 [] ⟨sq,sq⟩
  (bX ⟨aJ,aM (.ip _ (hxn.cells.get)),⟨_,rfl,.int (by rw[aK])⟩,aM (.il' (bH _)),⟨_,rfl,.int (by rw[aK])⟩,aJ,trivial⟩) ?_
 rintro k ⟨hk,hall⟩;refine Rr ?_;refine aI (λh=>?_) (λh=>?_)
 .have hlt:k<kids.length:=su h
  have e1:(bL kids)[(k:Int).toNat]? = some (.int .i64 kids[k]):=by rw[aAc,bP,aAa hlt];rfl
  have hg:kids[k]? = some kids[k]:=aAa hlt;generalize kids[k]=q at e1 hg;have hbad:(0<=q/\q<i->False)->AV.bool false=AV.bool res:=λhb=>hF (by
   intro e;rw[hres] at e;simp only[aAd] at e;exact hb (fN.1 e.1.1.1.1.2 k q hg))
  refine Rr ?_;refine aB e1 ?_;refine Rr ?_;by_cases g1:0<=q
  .have d1:decide (q<0)=false:=by simp;omega
   rw[d1];refine Rr ?_;refine aI (λh=>?_) (λh=>?_)
   .refine Rr ?_;exact aA nn ⟨hbad (by simp at h;omega),rfl,rfl⟩
   .have g2:q<i:=su h
    refine Rr ?_;refine .mk (k+1) [] ⟨om,λj w2 hj hw2=>?_⟩ (bX ⟨aJ,aM (.ip _ (hxn.cells.get)),aJ,aM (.il' (bH _)),aJ,⟨_,rfl,.w64 om oq⟩,trivial⟩) om;rcases aAr j k with hj'|hj'
    .exact hall j w2 hj' hw2
    .have hjk:j=k:=om;rw[hjk,hg] at hw2;cases hw2;exact⟨g1,g2⟩
  .have d1:decide (q<0)=true:=by simp;omega
   rw[d1];refine Rr ?_;exact aA nn ⟨hbad om,rfl,rfl⟩
 .have hk':k=kids.length:=by simp at h;omega
  have hkin:qD i kids=true:=fN.2 λj q hj=>hall j q (by rw[hk'];exact(aAg.1 hj).1) hj
  rw[hkin] at hres;clear hall hk hk' h hkin;rcases(show kind=0\/kind=1\/kind=2\/kind=3\/kind=4 by omega) with rfl|rfl|rfl|rfl|rfl
  .obtain rfl:=hvs (by decide);refine Rr ?_;exact aA nn ⟨by rw[hres];simp[fD],rfl,rfl⟩
  .obtain rfl:=hvs (by decide);refine Rr ?_;exact aA nn ⟨by rw[hres];simp[fD],rfl,rfl⟩
  .obtain rfl:=hvs (by decide);have f1:decide ((kids.length:Int)≥1)=decide (1<=kids.length):=by rw[aAS];simp;omega
   have f2:decide ((kids.length:Int)<=256)=decide (kids.length<=256):=by rw[aAS];simp;omega
   have f3:(((bL ws).length:Int) == (kids.length:Int))=decide (ws.length=kids.length):=by rw[aK,aAS];simp;omega
   have f4:(((vF ls).length:Int) == 0)=decide (ls.length=0):=by rw[cE,aAS];simp
   have f5:(((vF ls).length:Int) == (kids.length:Int))=decide (ls.length=kids.length):=by rw[cE,aAS];simp;omega
   refine Rr ?_;rw[f1];generalize decide (1<=kids.length)=b1 at hres |-;cases b1 with
   | false=>
    refine Rr ?_;exact aA nn ⟨by rw[hres];simp,rfl,rfl⟩
   | true=>
   refine Rr ?_;rw[f2];generalize decide (kids.length<=256)=b2 at hres |-;cases b2 with
   | false=>
    refine Rr ?_;exact aA nn ⟨by rw[hres];simp,rfl,rfl⟩
   | true=>
   refine Rr ?_;rw[f3];generalize decide (ws.length=kids.length)=b3 at hres |-;cases b3 with
   | false=>
    refine Rr ?_;exact aA nn ⟨by rw[hres];simp,rfl,rfl⟩
   | true=>
   refine Rr ?_;rw[f4];generalize decide (ls.length=0)=b4 at hres |-;cases b4 with
   | true=>
    refine Rr ?_;exact aA nn ⟨by rw[hres];simp[fD],rfl,rfl⟩
   | false=>
    refine Rr ?_;rw[f5];exact aA nn ⟨by rw[hres];simp[fD],rfl,rfl⟩
  .obtain rfl:=hvs (by decide);have f1:decide ((kids.length:Int)<=16)=decide (kids.length<=16):=by rw[aAS];simp;omega
   have f2:decide ((kids.length:Int)<=256)=decide (kids.length<=256):=by rw[aAS];simp;omega
   refine Rr ?_;refine aI (λh=>?_) (λh=>?_)
   .have hn:name=[]:=su h
    rw[aAn hn] at hres;refine Rr ?_;rw[f2];exact aA nn ⟨by rw[hres];simp[fD],rfl,rfl⟩
   .have hn:¬name=[]:=su h
    rw[aAw hn] at hres;refine Rr ?_;rw[f1];by_cases g:kids.length<=16
    .rw[aAn g] at hres |-;rw[aAn (show kids.length<=256 by omega)] at hres;refine Rr ?_;refine hV.useC bE (.cons (.agg' (.s (.s (.s (.cons (.nil 4) .nil))))) .nil) nn ?_;refine Rr ?_;exact aA nn ⟨by rw[hres];simp[fD],rfl,rfl⟩
    .rw[aAw g] at hres |-;refine Rr ?_;exact aA nn ⟨by rw[hres];simp,rfl,rfl⟩
  .have hw4:IntKind.i64.wrap ((vals.length:Int)+1)=(vals.length:Int)+1:=w64 rfl oq;refine Rr ?_;refine bA.at bE (λk:Nat=>1<=k/\k<=max 1 vals.length/\∀(j:Nat) (a b:aQ),j+1<k->vals[j]? = some a->vals[j+1]? = some b->cJ a b<0)
    (λk=>⟨[(5,.ip (cW ⟨4,name,lo,hi,ws,ls,vals,kids,.mk vk vn vs vks⟩)),(6,.int .i64 kids.length),(9,.int .i64 k)],[],0,132⟩) (λk=>vals.length-k) 1 [] ⟨om,om,λj a b h=>om⟩
    (bX ⟨aM (.ip _ (hxn.cells.get)),aJ,aJ,trivial⟩) ?_
   rintro k ⟨hk1,hk2,hall⟩;refine Rr ?_;refine aI (λh=>?_) (λh=>?_)
   .have hlt:k<vals.length:=by rw[aC] at h;simpa using h
    obtain⟨p1,p2,p3,p4,pm,pg,-,ep⟩:=cX (l:=vals) (k:=k-1) om;obtain⟨q1,q2,q3,q4,qm,qg,-,eq⟩:=cX (l:=vals) (k:=k) hlt;have hw1:IntKind.i64.wrap ((k:Int)-1)=((k-1:Nat):Int):=w64 om oq;have hc:=hcmp _ pm (.mk q1 q2 q3 q4);obtain⟨c,hc0⟩:∃c,c=cJ (.mk p1 p2 p3 p4) (.mk q1 q2 q3 q4):=⟨_,rfl⟩
    rw[<-hc0] at hc;refine Rt ?_;rw[hw1];refine Rr ?_;repeat((first|refine aB ep ?_|refine aB eq ?_|refine bQ ?_);refine Rr ?_)
    refine hc.go ?_;refine Rr ?_;repeat((first|refine aB ep ?_|refine aB eq ?_|refine bQ ?_);refine Rr ?_)
    refine aI (λh=>?_) (λh=>?_)
    .refine Rr ?_;refine aA nn ⟨hF ?_,rfl,rfl⟩;intro e;rw[hres] at e;simp only[aAd] at e;have:=mH e.2 (k-1) _ _ pg (by rw[show k-1+1=k by omega];exact qg);rw[<-hc0] at this;simp at h;omega
    .refine Rr ?_;refine .mk (k+1) [] ⟨om,om,λj a b hj ha hb=>?_⟩ (bX ⟨aM (.ip _ (hxn.cells.get)),aJ,⟨_,rfl,.w64 om oq⟩,trivial⟩) om;rcases aAr (j+1) k with hj'|hj'
     .exact hall j a b hj' ha hb
     .have hjk:j=k-1:=om;subst hjk;rw[pg] at ha;rw[show k-1+1=k by omega,qg] at hb;cases ha;cases hb;rw[<-hc0];simpa using h
   .have hlt:vals.length<=k:=by rw[aC] at h;simpa using h
    have hso:fD vals=true:=mL λj a b ha hb=>hall j a b (by have:=(aAg.1 hb).1;omega) ha hb
    rw[hso] at hres;refine Rr ?_;rw[aC,hw4];refine aA nn ⟨?_,rfl,rfl⟩;rw[hres];congr 1;rw[aAS];simp;omega
theorem bV{a:Bool}(h1:a=true)(h2:b=true):(a && b)=true:=by rw[h1,h2];rfl
theorem sZ{s m:Int}(hn:Nat.ble n 100=true)(hs:0<=s)(h:100*s<=m):decide ((n:Int)*s<=m)=true:=by
 have hn:=aAi hn;have:(n:Int)*s<=100*s:=Int.mul_le_mul_of_nonneg_right om hs;simp;omega
theorem Sn(a b:List aQ)(ha:a.length<=1000000)(hb:b.length<=1000000)(hok:∀v∈a,iO v) :
  aT prog [] 247 [.il 4 (aU a),.il 4 (aU b)] (.il 4 (aU (fW a b))):=by
 refine aD bE func247 rfl ?_;cases a with
 | nil=>
  rw[EN];refine Rr ?_;exact aA (.il' (bK _)) ⟨rfl,rfl,rfl⟩
 | cons x l=>
  have d0:(((aU (x::l)).length:Int) == 0)=false:=by rw[aC,beq_eq_false_iff_ne];simp;omega
  obtain⟨a,hae⟩:∃a,a=x::l:=⟨_,rfl⟩
  rw[<-hae] at d0 ha hok |-;clear hae;refine Rr ?_;rw[d0];have hw:IntKind.i64.wrap (((aU a).length:Int)+((aU b).length:Int))=((aU a).length:Int)+((aU b).length:Int):=aV ⟨om,by rw[aC,aC];omega⟩;have hal:(aU a).length<=1000000:=by rw[aC];exact ha
  have hbl:(aU b).length<=1000000:=by rw[aC];exact hb
  refine Rr ?_;rw[hw];refine aN (bV rfl (bV rfl (bV rfl (bV rfl (bV (aAn om) (bV (sZ rfl om om) (aAn om))))))) ?_;refine Rr ?_;refine bA.at bE (λp:List aQ × List aQ × List aQ=>fW a b=p.1++fW p.2.1 p.2.2/\p.1.length<=2000000-p.2.1.length-p.2.2.length/\p.2.1.length+p.2.2.length<=2000000/\∀v∈p.2.1,iO v)
   (λp=>⟨[(0,.il 4 (aU p.2.1)),(1,.il 4 (aU p.2.2)),(5,.sl 0 0 p.1.length)],[(0,.row 55 4 (aU p.1))],1,57⟩) (λp=>p.2.1.length+p.2.2.length) ([],a,b) [(0,0)] ⟨sq,sq,by simp only;omega,hok⟩
   (aE _ rfl ⟨aL 0 .nil,trivial⟩ ⟨aM (.il' (bK _)),aM (.il' (bK _)),⟨_,rfl,.sl 0 0 0 _ rfl⟩,trivial⟩) ?_
  clear hok hw hal hbl d0 ha hb;rintro⟨out,a',b'⟩ ⟨hm,hlen,hle,hok⟩;simp only at hm hlen hle hok |-;have eg:∀(z:aQ) (r:List aQ),decide (((aU (z::r)).length:Int)>0)=true:=λz r=>by rw[aC];simp
  have Yv:∀(z:aQ) (r:List aQ),((Int.toNat 1).ble (aU (z::r)).length && ((aU (z::r)).length.ble (aU (z::r)).length && (aU (z::r)).length.ble (aU (z::r)).length))=true:=λz r=>bV (aAf (by rw[aC];simp)) (bV (aAf (aAp _)) (aAf (aAp _)))
  have ec:∀(z:aQ) (r:List aQ),List.take ((aU (z::r)).length-Int.toNat 1) (List.drop (Int.toNat 1) (aU (z::r)))=aU r:=λz r=>by
   show List.take ((aU (z::r)).length-1) (aU r)=aU r
   exact aAk (by rw[aC,aC];simp)
  have fin:∀(o p q:List aQ) (mem:aP) (n:Nat) (id:Nat),fW a b=o++p++q->lk mem id=some (.row 55 4 (aU o++aU p++aU q))->rE 0 (λr m n=>r=AV.il 4 (aU (fW a b))/\m=[]/\n=0) (.sl id 0 (o.length+(aU p).length+(aU q).length)) mem n:=by
   intro o p q mem n id h hl;refine gM (r':=.il 4 (aU (fW a b))) (.fzR hl rfl (.eq (bK _) (by rw[h];simp[jT])) (by rw[h];simp[aC];omega)) ⟨rfl,rfl,rfl⟩
  cases a' with
  | nil=>
   rw[EN] at hm;refine Rr ?_;refine aN (cD rfl rfl (by simp[aC]) (by simp[aC] at *;omega)) ?_;refine Rr ?_;refine aN (cD rfl rfl (by simp[aC]) (by simp[aC] at *;omega)) ?_;refine Rr ?_;exact fin out [] b' _ _ _ (su hm) rfl
  | cons x l=>
   cases b' with
   | nil=>
    rw[KK] at hm;refine Rr ?_;rw[eg];refine Rr ?_;refine aN (cD rfl rfl (by simp[aC]) (by simp[aC] at *;omega)) ?_;refine Rr ?_;refine aN (cD rfl rfl (by simp[aC]) (by simp[aC] at *;omega)) ?_;refine Rr ?_;exact fin out (x::l) [] _ _ _ (su hm) rfl
   | cons y m=>
    rw[KG] at hm;have hc:=rZ x y (hok x sq);have hok':∀v∈l,iO v:=λv hv=>hok v (by simp[hv])
    obtain⟨c,hc0⟩:∃c,c=cJ x y:=⟨_,rfl⟩
    rw[<-hc0] at hc hm;clear hc0;obtain⟨x1,x2,x3,x4⟩:=x;obtain⟨y1,y2,y3,y4⟩:=y;refine Rr ?_;rw[eg];refine Rr ?_;rw[eg];refine Rt ?_;refine hc.go ?_;refine Rr ?_;rcases(show c<0\/c=0\/0<c by omega) with hcc|hcc|hcc
    .have d1:decide (c<=0)=true:=by simp;omega
     have d2:decide (c≥0)=false:=by simp;omega
     rw[aAh hcc] at hm;rw[d1];refine Rt ?_;refine aN (cD rfl rfl (by simp[aC]) (by simp[aC] at *;omega)) ?_;refine Rr ?_;refine aN (Yv _ _) ?_;rw[ec];refine Rr ?_;rw[d2];refine Rr ?_;exact .mk (out++[.mk x1 x2 x3 x4],l,(.mk y1 y2 y3 y4)::m) [(10,0)] ⟨su hm,by simp at *;omega,by simp at *;omega,hok'⟩ (aE _ rfl ⟨⟨10,_,rfl,rfl,.eq (bK _) (by rw[kM];rfl)⟩,trivial⟩ ⟨aM (.il' (bK _)),aM (.il' (bK _)),⟨_,rfl,.slE rfl sq⟩,trivial⟩) (by first|(simp;done)|(simp;omega))
    .have d1:decide (c<=0)=true:=by simp;omega
     have d2:decide (c≥0)=true:=by simp;omega
     rw[aAe om,aAh hcc] at hm;rw[d1];refine Rt ?_;refine aN (cD rfl rfl (by simp[aC]) (by simp[aC] at *;omega)) ?_;refine Rr ?_;refine aN (Yv _ _) ?_;rw[ec];refine Rr ?_;rw[d2];refine Rr ?_;refine aN (Yv _ _) ?_;rw[ec];refine Rr ?_;exact .mk (out++[.mk x1 x2 x3 x4],l,m) [(10,0)] ⟨su hm,by simp at *;omega,by simp at *;omega,hok'⟩ (aE _ rfl ⟨⟨10,_,rfl,rfl,.eq (bK _) (by rw[kM];rfl)⟩,trivial⟩ ⟨aM (.il' (bK _)),aM (.il' (bK _)),⟨_,rfl,.slE rfl sq⟩,trivial⟩) (by first|(simp;done)|(simp;omega))
    .have d1:decide (c<=0)=false:=by simp;omega
     have d2:decide (c≥0)=true:=by simp;omega
     rw[aAe om,aAe om] at hm;rw[d1];refine Rt ?_;refine aN (cD rfl rfl (by simp[aC]) (by simp[aC] at *;omega)) ?_;refine Rr ?_;rw[d2];refine Rr ?_;refine aN (Yv _ _) ?_;rw[ec];refine Rr ?_;exact .mk (out++[.mk y1 y2 y3 y4],(.mk x1 x2 x3 x4)::l,m) [(10,0)] ⟨su hm,by simp at *;omega,by simp at *;omega,hok⟩ (aE _ rfl ⟨⟨10,_,rfl,rfl,.eq (bK _) (by rw[kM];rfl)⟩,trivial⟩ ⟨aM (.il' (bK _)),aM (.il' (bK _)),⟨_,rfl,.slE rfl sq⟩,trivial⟩) (by first|(simp;done)|(simp;omega))
theorem xL{V β γ:Type}(f:V->β->γ):∀(a:List V) (b:List β) (i:Nat) (x:V) (y:β),b[i]? = some y->List.zipWith f (a.set i x) b=(List.zipWith f a b).set i (f x y)
 | [],b,i,x,y,_=>sq
 | p::a,[],i,x,y,hy=>by simp at hy
 | p::a,q::b,0,x,y,hy=>by simp at hy;subst hy;simp
 | p::a,q::b,i+1,x,y,hy=>by simp at hy;simp[xL f a b i x y hy]
def kB(kn:List Bool):List AV:=kn.map AV.bool
def lB(L:List jM)(kn:List Bool):List AV:=List.zipWith (λb (x:jM)=>AV.il 4 (aU (if b=true then x.vals else []))) kn L
def mB(L:List jM)(kn:List Bool):List AV:=List.zipWith (λb (x:jM)=>AV.bool (b && x.many)) kn L
theorem BI(kn:List Bool):kZ (kB kn):=λa ha=>by
 obtain⟨n,_,rfl⟩:=aAE.1 ha;exact .bool _
theorem Mp{γ:Type}{f:V->β->γ}{a:List V}{b:List β}{z:γ}(h:z∈List.zipWith f a b):∃x y,z=f x y:=by
 obtain⟨i,hi⟩:=aAU h;rw[aCK] at hi;split at hi
 .cases hi;exact⟨_,_,rfl⟩
 .cases hi
theorem DU(L:List jM)(kn:List Bool):kZ (lB L kn):=λa ha=>by
 obtain⟨x,y,rfl⟩:=Mp ha;exact .il' (bK _)
theorem CD(L:List jM)(kn:List Bool):kZ (mB L kn):=λa ha=>by
 obtain⟨x,y,rfl⟩:=Mp ha;exact .bool _
theorem BS{L:List jM}(h:i<L.length):L[i]? = some (Go.Ax.d8 L i):=by
 unfold Go.Ax.d8;rw[aAb,aAc,aAa h];rfl
theorem RK(h:kn[i]? = some b):(kB kn)[i]? = some (.bool b):=by simp[kB,h]
theorem RH{L:List jM}(h:kn[i]? = some b)(hl:i<L.length):(lB L kn)[i]? = some (.il 4 (aU (if b=true then(Go.Ax.d8 L i).vals else []))):=by
 simp[lB,aCK,h,BS hl]
theorem Rk{L:List jM}(h:kn[i]? = some b)(hl:i<L.length):(mB L kn)[i]? = some (.bool (b && (Go.Ax.d8 L i).many)):=by
 simp[mB,aCK,h,BS hl]
theorem WX(kn:List Bool)(i:Nat)(b:Bool):kB (kn.set i b)=(kB kn).set i (.bool b):=by simp[kB,aCs]
theorem WK{L:List jM}(kn:List Bool)(hl:i<L.length):lB L (kn.set i true)=(lB L kn).set i (.il 4 (aU (Go.Ax.d8 L i).vals)):=by
 unfold lB;rw[xL _ kn L i true _ (BS hl)];simp
theorem V0{L:List jM}(kn:List Bool)(hl:i<L.length):mB L (kn.set i true)=(mB L kn).set i (.bool (Go.Ax.d8 L i).many):=by
 unfold mB;rw[xL _ kn L i true _ (BS hl)];simp
def sM(ns:List Nd)(kn:List Bool):aP:=[(0,.row 195 4 [.agg [.il 12 (bJ ns),.sl 1 0 ns.length,.sl 2 0 ns.length,.sl 3 0 ns.length]]),(1,.row 4 1 (kB kn)),(2,.row 53 1 (lB (aO ns) kn)),(3,.row 4 1 (mB (aO ns) kn))]
def uQ(ns:List Nd)(l:jM):AV->aP->Nat->Prop:=λr m k=>∃kn,kn.length=ns.length/\r = .tup [.il 4 (aU l.vals),.bool (!l.many)]/\m=sM ns kn/\k=4
def sQ(ns:List Nd)(i:Nat):AV->aP->Nat->Prop:=uQ ns (Go.Ax.d8 (aO ns) i)
theorem Iz{N a b c a' b' c':Nat}(h1:lk J a=some a')(h2:lk J b=some b')(h3:lk J c=some c'):
  sH mem J [.agg [.il 12 (bJ ns),.sl a 0 N,.sl b 0 N,.sl c 0 N]] [.agg [.il 12 (bJ ns),.sl a' 0 N,.sl b' 0 N,.sl c' 0 N]]:=
 .cons (.agg (.cons (.same _ (.il' (aR _))) (.cons (.sl a a' 0 N h1) (.cons (.sl b b' 0 N h2) (.cons (.sl c c' 0 N h3) .nil))))) .nil
theorem gZ(ns:List Nd)(kn:List Bool):dR (sM ns kn) (tN [0,1,2,3]) (sM ns kn):=
 ⟨⟨0,_,rfl,rfl,Iz rfl rfl rfl⟩,aL 1 (BI _),aL 2 (DU _ _),aL 3 (CD _ _),trivial⟩
theorem Zb{ns:List Nd}{n:Nat}(h:jH ns n)(i:Nat)(hi:i<n)(kn:List Bool)(hk:kn.length=ns.length)
  (hF:aH prog [] 184 [.ptr 0 0 0,.int .i64 i] (sM ns kn) 4 (sQ ns i)) :
  aH prog [] 110 [.ptr 0 0 0,.int .i64 i] (sM ns kn) 4 (sQ ns i):=by
 have hN:=h.hn;have hL:i<(aO ns).length:=by rw[gN];omega
 have h0:0+((i:Nat):Int).toNat=i:=sq
 have hg:∀kn:List Bool,kn.length=ns.length->∃b,kn[i]? = some b:=λkn hk=>⟨kn[i],aAa om⟩
 obtain⟨b,hb⟩:=hg kn hk;have e1:(kB kn)[0+((i:Nat):Int).toNat]? = some (.bool b):=by rw[h0];exact RK hb
 have g1:Nat.blt ((i:Nat):Int).toNat ns.length=true:=aAf (by simp;omega);refine aD bE func110 rfl ?_;refine Rr ?_;repeat((first|refine aN g1 ?_|refine aB e1 ?_);refine Rr ?_)
 have fin:∀(mem:aP) (kn':List Bool),kn'.length=ns.length->dR mem (tN [0,1,2,3]) (sM ns kn')->∀(r:AV) (nx:Nat),Cv mem (tN [0,1,2,3]) r (.tup [.il 4 (aU (Go.Ax.d8 (aO ns) i).vals),.bool (!(Go.Ax.d8 (aO ns) i).many)])->rE 4 (sQ ns i) r mem nx:=
  λmem kn' hk' hM r nx hr=>aW (n':=4) (m':=sM ns kn') (tN [0,1,2,3]) rfl hM hr ⟨kn',hk',rfl,rfl,rfl⟩
 cases b with
 | true=>
  have e2:(lB (aO ns) kn)[0+((i:Nat):Int).toNat]? = some (.il 4 (aU (Go.Ax.d8 (aO ns) i).vals)):=by rw[h0,RH hb hL];rfl
  have e3:(mB (aO ns) kn)[0+((i:Nat):Int).toNat]? = some (.bool (Go.Ax.d8 (aO ns) i).many):=by rw[h0,Rk hb hL];rfl
  refine Rr ?_;repeat((first|refine aN g1 ?_|refine aB e1 ?_|refine aB e2 ?_|refine aB e3 ?_|refine bQ ?_);refine Rr ?_)
  exact fin _ kn hk (gZ ns kn) _ _ (.same _ nn)
 | false=>
  refine Rr ?_;refine aH.useI bE [0,1,2,3] hF (by rfl) (.cons (.ptr 0 0 0 0 rfl) (.s .nil)) (gZ ns kn) (by rfl) ?_;rintro r m k ⟨kn',hk',rfl,rfl,rfl⟩;refine⟨nn,gZ ns kn',by rfl, ?_⟩;obtain⟨b',hb'⟩:=hg kn' hk';have e1:(kB kn')[0+((i:Nat):Int).toNat]? = some (.bool b'):=by rw[h0];exact RK hb'
  have e2:=RH hb' hL;have e3:=Rk hb' hL;rw[<-h0] at e2 e3;have q1:((kB kn').set (0+((i:Nat):Int).toNat) (.bool true))[0+((i:Nat):Int).toNat]? = some (.bool true):=by rw[h0];exact aBe (by simp[kB];omega)
  have q2:((lB (aO ns) kn').set (0+((i:Nat):Int).toNat) (.il 4 (aU (Go.Ax.d8 (aO ns) i).vals)))[0+((i:Nat):Int).toNat]? = some (.il 4 (aU (Go.Ax.d8 (aO ns) i).vals)):=by rw[h0];exact aBe (by simp[lB,List.length_zipWith];omega)
  have q3:((mB (aO ns) kn').set (0+((i:Nat):Int).toNat) (.bool (!(!(Go.Ax.d8 (aO ns) i).many))))[0+((i:Nat):Int).toNat]? = some (.bool (!(!(Go.Ax.d8 (aO ns) i).many))):=by rw[h0];exact aBe (by simp[mB,List.length_zipWith];omega)
  refine Rr ?_;repeat((first|refine aN g1 ?_|refine aB e1 ?_|refine aB e2 ?_|refine aB e3 ?_|refine aB q1 ?_|refine aB q2 ?_|refine aB q3 ?_|refine bQ ?_|refine dE.2 ?_);refine Rr ?_)
  rw[h0];refine fin _ (kn'.set i true) (by simp[hk']) ⟨⟨0,_,rfl,rfl,Iz rfl rfl rfl⟩,⟨1,_,rfl,rfl,.eq (BI _) (WX _ _ _).symm⟩,⟨2,_,rfl,rfl,.eq (DU _ _) (WK _ hL).symm⟩,⟨3,_,rfl,rfl,.eq (CD _ _) (by rw[V0 _ hL,Bool.not_not])⟩,trivial⟩ _ _ (.eq nn (by rw[Bool.not_not]))
def S0(ns:List Nd)(i:Nat):Prop:=∀kn:List Bool,kn.length=ns.length->aH prog [] 110 [.ptr 0 0 0,.int .i64 i] (sM ns kn) 4 (sQ ns i)
theorem Dp{l:jM}(mem:aP)(kn':List Bool)(hk':kn'.length=ns.length)(hM:dR mem (tN [0,1,2,3]) (sM ns kn'))(r:AV)(nx:Nat)(hr:Cv mem (tN [0,1,2,3]) r (.tup [.il 4 (aU l.vals),.bool (!l.many)])):rE 4 (uQ ns l) r mem nx:=
 aW (n':=4) (m':=sM ns kn') (tN [0,1,2,3]) rfl hM hr ⟨kn',hk',rfl,rfl,rfl⟩
theorem V5(h:jH ns n)(i:Nat)(hi:i<=n)(kids:List Int)(hkl:kids.length<=65536)(hkids:∀k∈kids,0<=k/\k<i)(hOf:∀j<i,S0 ns j)(kn:List Bool)(hk:kn.length=ns.length):
  aH prog [] 228 [.ptr 0 0 0,.il 1 (bL kids)] (sM ns kn) 4 (uQ ns (pO (aO ns) kids)):=by
 refine aD bE func228 rfl ?_;refine Rr ?_;refine bA.at bE (λp:Nat × List Bool × List aQ=>p.1<=kids.length/\p.2.1.length=ns.length/\(kids.take p.1).foldl (cV (aO ns)) ([],false)=(p.2.2,false)/\pZ p.2.2/\p.2.2.length<=1024/\∀v∈p.2.2,iO v)
  (λp=>⟨[(0,.ptr 0 0 0),(6,.il 4 (aU p.2.2)),(11,.il 1 (bL kids)),(12,.int .i64 kids.length),(13,.int .i64 p.1)],sM ns p.2.1,4,33⟩) (λp=>kids.length-p.1) (0,kn,[]) (tN [0,1,2,3])
  ⟨sq,hk,sq,by simp[pZ],sq,sq⟩
  (aE _ rfl (gZ ns kn) ⟨aF,⟨_,rfl,.nil 4⟩,aM (.il' (bH _)),⟨_,rfl,.int (by rw[aK])⟩,aJ,trivial⟩) ?_
 rintro⟨j,kn,out⟩ ⟨hj,hk,hf,hso,hol,hok⟩;simp only at hj hk hf hso hol hok |-;refine Rr ?_;refine aI (λhb=>?_) (λhb=>?_)
 .have hlt:j<kids.length:=su hb
  have e1:(bL kids)[(j:Int).toNat]? = some (.int .i64 kids[j]):=by rw[aAc,bP,aAa hlt];rfl
  have hg:kids[j]? = some kids[j]:=aAa hlt;generalize kids[j]=k at e1 hg;obtain⟨k0,k1⟩:=hkids k (aAm hg);obtain⟨k,rfl⟩:=aAu k0;have hO:=hOf k om kn hk;have hst:=V3 hg hf;have hvals:=h.vals (k:=k) om om;have hsr:=Zd ns k;simp only[cV,aCw] at hst;unfold sQ at hO;refine Rr ?_;refine aB e1 ?_;refine Rr ?_;refine aH.useI bE [0,1,2,3] hO (by rfl) (.cons (.ptr 0 0 0 0 rfl) (.s .nil)) (gZ ns kn) (by rfl) ?_;rintro r m k' ⟨kn',hk',rfl,rfl,rfl⟩;refine⟨nn,gZ ns kn',by rfl, ?_⟩;generalize Go.Ax.d8 (aO ns) k=lk at hst hvals hsr;obtain⟨lv,lm⟩:=lk;simp only at hst hvals hsr;cases lm with
  | true=>
   have hbad:=NH (bs:=aO ns) (kids:=kids) (j:=j+1) (by rw[hst];rfl);rw[hbad];refine Rr ?_;exact Dp _ kn' hk' (gZ ns kn') _ _ (.tup' (.cons (.nil 4) (.s .nil)))
  | false=>
   have hm:=Sn out lv om om hok;have hms:=Kb hso hsr;rw[<-hms] at hst;have hmok:∀v∈fW out lv,iO v:=λv hv=>by
    rcases(q9 _ _ _).1 hv with hv|hv
    .exact hok v hv
    .exact hvals.2 v hv
   have hmsr:=Eo out lv hso hsr;generalize fW out lv=mg at *;refine Rr ?_;refine hm.go ?_;refine Rr ?_;refine aI (λhb2=>?_) (λhb2=>?_)
   .have h1:1024<mg.length:=by rw[aC] at hb2;simp at hb2;omega
    have hbad:=NH (bs:=aO ns) (kids:=kids) (j:=j+1) (by rw[hst];simpa using h1);rw[hbad];refine Rr ?_;exact Dp _ kn' hk' (gZ ns kn') _ _ (.tup' (.cons (.nil 4) (.s .nil)))
   .have h1:mg.length<=1024:=by rw[aC] at hb2;simp at hb2;omega
    refine Rr ?_;exact .mk (j+1,kn',mg) (tN [0,1,2,3]) ⟨by simp only;omega,hk',by simp only;rw[hst];simp;omega,hmsr,h1,hmok⟩
     (aE _ rfl (gZ ns kn') ⟨aF,aJ,aM (.il' (bH _)),aJ,⟨_,rfl,.wp⟩,trivial⟩) (by simp only;omega)
 .have hlt:j=kids.length:=by simp at hb;omega
  rw[hlt,aAD] at hf;rw[Qi hf];refine Rr ?_;exact Dp _ kn hk (gZ ns kn) _ _ (.same _ nn)
def cT(ls:List (List aQ)):List AV:=ls.map λl=>.il 4 (aU l)
theorem bW(ls:List (List aQ)):kZ (cT ls):=λa ha=>by
 obtain⟨l,_,rfl⟩:=aAE.1 ha;exact .il' (bK _)
theorem uS(ls:List (List aQ)):(cT ls).length=ls.length:=by simp[cT]
theorem oT{ls:List (List aQ)}(h:ls[i]? = some l):(cT ls)[i]? = some (.il 4 (aU l)):=by simp[cT,h]
def XM(ns:List Nd)(kn:List Bool)(rest:aP):aP:=(0,.row 195 4 [.agg [.il 12 (bJ ns),.sl 1 0 ns.length,.sl 2 0 ns.length,.sl 3 0 ns.length]])::(1,.row 4 1 (kB kn))::(2,.row 53 1 (lB (aO ns) kn))::(3,.row 4 1 (mB (aO ns) kn))::rest
theorem iL{mem:aP}{J:List (Nat × Nat)}{ns:List Nd}{kn:List Bool}{rest:aP}(h0:lk J 0=some 0)(h1:lk J 1=some 1)(h2:lk J 2=some 2)(h3:lk J 3=some 3)
  (m0:lk mem 0=some (.row 195 4 [.agg [.il 12 (bJ ns),.sl 1 0 ns.length,.sl 2 0 ns.length,.sl 3 0 ns.length]])) (m1:lk mem 1=some (.row 4 1 (kB kn))) (m2:lk mem 2=some (.row 53 1 (lB (aO ns) kn))) (m3:lk mem 3=some (.row 4 1 (mB (aO ns) kn)))
  (hr:dR mem J rest):dR mem J (XM ns kn rest):=
 ⟨⟨0,_,h0,m0,Iz h1 h2 h3⟩,⟨1,_,h1,m1,.same (BI _)⟩,⟨2,_,h2,m2,.same (DU _ _)⟩,⟨3,_,h3,m3,.same (CD _ _)⟩,hr⟩
theorem Fy{mem:aP}{J:List (Nat × Nat)}:∀m:Nat,sH mem J (List.replicate m .nsl) (cT (List.replicate m []))
 | 0=>.nil
 | m+1=>by
  rw[aA6,aA6];exact .cons (.one rfl rfl (.nil 4)) (Fy m)
theorem TA(ls:List (List aQ))(i:Nat)(l:List aQ):cT (ls.set i l)=(cT ls).set i (.il 4 (aU l)):=by simp[cT,aCs]
theorem G0{mem:aP}{J:List (Nat × Nat)}:∀m:Nat,sH mem J (List.replicate m (.agg [.int .i64 0,.int .i64 0,.str [],.nsl])) (aU (List.replicate m (.mk 0 0 [] [])))
 | 0=>.nil
 | m+1=>by
  rw[aA6,aA6,aU];exact .cons (Ml 0 0 []) (G0 m)
theorem P0(h:jH ns n)(i:Nat)(hi:i<=n)(x:Nd)(hkl:x.kids.length<=65536)(hkids:∀k∈x.kids,0<=k/\k<i)(hOf:∀j<i,S0 ns j)(kn:List Bool)(hk:kn.length=ns.length):
  aH prog [] 229 [.ptr 0 0 0,.ip (cW x)] (sM ns kn) 4 (uQ ns (tF (aO ns) x)):=by
 have hxn:=bB x;have hpb:=λ(j:Nat) (e:((x.kids.take j).foldl (iQ (aO ns)) (1,false)).2=true)=>Uv (bs:=aO ns) (x:=x) (j:=j) e
 have hpg:=λ(t:Nat) (e:x.kids.foldl (iQ (aO ns)) (1,false)=(t,false))=>P8 (EX ns) (x:=x) (t:=t) e
 have hmade:=λks=>XX x ks
 generalize tF (aO ns) x=res at hpb hpg |-;obtain⟨kind,name,lo,hi',ws,ls,vals,kids,⟨vk,vn,vs,vks⟩⟩:=x;simp only at hkl hkids hpb hpg;refine aD bE func229 rfl ?_;refine Rr ?_;refine aN (bV rfl (bV rfl (bV rfl (bV (aAn om) (bV (aAn om) (bV (sZ rfl om (by simp only[aK];omega)) (aAn (by simp only[aK];omega)))))))) ?_;refine Rr ?_;refine bA.at bE (λp:Nat × List Bool × Nat × List (List aQ)=>p.1<=kids.length/\p.2.1.length=ns.length/\(kids.take p.1).foldl (iQ (aO ns)) (1,false)=(p.2.2.1,false)/\p.2.2.1<=1024/\p.2.2.2.length=kids.length/\(∀(q:Nat) (k:Int),q<p.1->kids[q]? = some k->p.2.2.2[q]? = some (Go.Ax.d8 (aO ns) k).vals/\(Go.Ax.d8 (aO ns) k).vals≠[]))
  (λp=>⟨[(0,.ptr 0 0 0),(1,.ip (cW ⟨kind,name,lo,hi',ws,ls,vals,kids,.mk vk vn vs vks⟩)),(6,.sl 4 0 kids.length),(7,.int .i64 p.2.2.1),(25,.il 1 (bL kids)),(26,.int .i64 kids.length),(27,.int .i64 p.1)],XM ns p.2.1 [(4,.row 53 1 (cT p.2.2.2))],5,98⟩)
  (λp=>kids.length-p.1) (0,kn,1,List.replicate kids.length []) (tN [0,1,2,3,4])
  ⟨sq,hk,sq,sq,sq,λq k hq=>by simp at hq⟩
  (aE _ rfl (iL rfl rfl rfl rfl rfl rfl rfl rfl ⟨⟨4,_,rfl,rfl,.to (Fy kids.length) (by rw[show (((bL kids).length:Nat):Int).toNat=kids.length by rw[aK];simp])⟩,trivial⟩) ⟨aF,aM (.ip' hxn),⟨_,rfl,.slE rfl (by rw[aK];simp)⟩,aJ,aM (.il' (bH _)),⟨_,rfl,.int (by rw[aK])⟩,aJ,trivial⟩) ?_
 rintro⟨j,kn,total,lists⟩ ⟨hj,hk,hf,hto,hll,hls⟩;simp only at hj hk hf hto hll hls |-;refine Rr ?_;refine aI (λhb=>?_) (λhb=>?_)
 .have hlt:j<kids.length:=su hb
  have e1:(bL kids)[(j:Int).toNat]? = some (.int .i64 kids[j]):=by rw[aAc,bP,aAa hlt];rfl
  have hg:kids[j]? = some kids[j]:=aAa hlt;generalize kids[j]=k at e1 hg;obtain⟨k0,k1⟩:=hkids k (aAm hg);obtain⟨k,rfl⟩:=aAu k0;have hO:=hOf k om kn hk;have hst:=W4 hg hf;have hvals:=h.vals (k:=k) om om;have hne:=h.ne (k:=k) om om;have hls':∀(q:Nat) (k':Int),q<j+1->kids[q]? = some k'->(q<j/\(lists[q]? = some (Go.Ax.d8 (aO ns) k').vals/\(Go.Ax.d8 (aO ns) k').vals≠[]))\/(q=j/\k'=k):=λq k' hq hk'=>by
   rcases aAr q j with hq'|hq'
   .exact .inl ⟨hq',hls q k' hq' hk'⟩
   .have:q=j:=om;subst this;rw[hg] at hk';cases hk';exact .inr ⟨rfl,rfl⟩
  simp only[iQ,aCw] at hst;unfold sQ at hO;refine Rr ?_;refine aB e1 ?_;refine Rr ?_;refine aH.useI bE [0,1,2,3] hO (by rfl) (.cons (.ptr 0 0 0 0 rfl) (.s .nil)) (gZ ns kn) (by rfl) ?_;rintro r m k' ⟨kn',hk',rfl,rfl,rfl⟩;refine⟨nn,gZ ns kn',by rfl, ?_⟩;obtain⟨lk,hlk⟩:∃lk,lk=Go.Ax.d8 (aO ns) k:=⟨_,rfl⟩
  rw[<-hlk] at hst hvals hne |-;obtain⟨lv,lm⟩:=lk;simp only at hst hvals hne;cases lm with
  | true=>
   have hbad:=hpb (j+1) (by rw[hst];rfl);rw[hbad];refine Rr ?_;exact Dp _ kn' hk' (iL rfl rfl rfl rfl rfl rfl rfl rfl trivial) _ _ (.tup' (.cons (.nil 4) (.s .nil)))
  | false=>
   have hw:IntKind.i64.wrap ((total:Int)*((aU lv).length:Int))=((total*lv.length:Nat):Int):=by
    have:total*lv.length<=1024*1024:=aBn hto hvals.1;exact w64 (by rw[aC];simp) oq
   refine Rr ?_;rw[hw];refine Rr ?_;refine aI (λhb2=>?_) (λhb2=>?_)
   .have hbad:=hpb (j+1) (by rw[hst];simp at hb2 |-;omega);rw[hbad];refine Rr ?_;exact Dp _ kn' hk' (iL rfl rfl rfl rfl rfl rfl rfl rfl trivial) _ _ (.tup' (.cons (.nil 4) (.s .nil)))
   .have hto':total*lv.length<=1024:=by simp at hb2;omega
    have h0:0+((j:Nat):Int).toNat=j:=sq
    have g1:Nat.blt ((j:Nat):Int).toNat kids.length=true:=aAf (by simp;omega);have e3:(cT lists)[0+((j:Nat):Int).toNat]? = some (.il 4 (aU lists[j])):=by rw[h0];exact oT (aAa om)
    have e4:((cT lists).set (0+((j:Nat):Int).toNat) (.il 4 (aU lv)))[0+((j:Nat):Int).toNat]? = some (.il 4 (aU lv)):=by rw[h0];exact aBe (by rw[uS];omega)
    refine Rt ?_;repeat((first|refine aN g1 ?_|refine aB e3 ?_|refine aB e4 ?_);refine Rt ?_)
    exact .mk (j+1,kn',total*lv.length,lists.set j lv) (tN [0,1,2,3,4]) ⟨by simp only;omega,hk',by simp only;rw[hst];simp;omega,hto',by simp only[aB3];exact hll,λq k' hq hkq=>by
      simp only at hq |-;rcases hls' q k' hq hkq with⟨h1,h2,h3⟩|⟨rfl,rfl⟩
      .rw[aCN om];exact⟨h2,h3⟩
      .rw[aBe om,<-hlk];exact⟨rfl,hne rfl⟩⟩
     (aE _ rfl (iL rfl rfl rfl rfl rfl rfl rfl rfl ⟨⟨4,_,rfl,rfl,.eq (bW _) (by rw[h0];exact(TA _ _ _).symm)⟩,trivial⟩) ⟨aF,aM (.ip' hxn),⟨_,rfl,.slE rfl rfl⟩,aJ,aM (.il' (bH _)),aJ,⟨_,rfl,.wp⟩,trivial⟩) (by simp only;omega)
 .have hlt:j=kids.length:=by simp at hb;omega
  rw[hlt,aAD] at hf;obtain⟨hres,hpr⟩:=hpg total hf;rw[hres];have hlv:lists=kids.map λk=>(Go.Ax.d8 (aO ns) k).vals:=aCf λq=>by
   rw[aAK];rcases aAr q kids.length with hq|hq
   .rw[(hls q _ om (aAa hq)).1,aAa hq];rfl
   .rw[aAs om,aAs hq];rfl
  have hlne:∀l∈lists,l≠[]:=λl hl=>by
   rw[hlv] at hl;obtain⟨k,hk,rfl⟩:=aAE.1 hl;obtain⟨q,hq⟩:=aAU hk;exact(hls q k (by rw[hlt];exact(aAg.1 hq).1) hq).2
  have hllen:∀l∈lists,l.length<=1024:=λl hl=>by
   rw[hlv] at hl;obtain⟨k,hk,rfl⟩:=aAE.1 hl;obtain⟨k0,k1⟩:=hkids k hk;exact(h.vals k0 om).1
  rw[<-hlv] at hpr |-;clear hpb hpg hls hlv hres hf;refine Rr ?_;refine aN (bV rfl (bV rfl (bV rfl (bV rfl (bV (aAn om) (bV (sZ rfl om om) (aAn om))))))) ?_;refine Rr ?_;refine bA.at bE (λp:Nat × List aQ=>p.1<=total/\p.2=((tP lists.reverse).take p.1).map (eB name)/\p.2.length=p.1)
   (λp=>⟨[(1,.ip (cW ⟨kind,name,lo,hi',ws,ls,vals,kids,.mk vk vn vs vks⟩)),(6,.sl 4 0 kids.length),(12,.sl 5 0 p.1),(53,.int .i64 total),(54,.int .i64 p.1)],XM ns kn [(4,.row 53 1 (cT lists)),(5,.row 55 4 (aU p.2))],6,98⟩)
   (λp=>total-p.1) (0,[]) (tN [0,1,2,3,4,5])
   ⟨sq,sq,sq⟩
   (aE _ rfl (iL rfl rfl rfl rfl rfl rfl rfl rfl ⟨aL 4 (bW _),⟨5,_,rfl,rfl,.nil⟩,trivial⟩) ⟨aM (.ip' hxn),⟨_,rfl,.slE rfl rfl⟩,⟨_,rfl,.slE rfl rfl⟩,aJ,aJ,trivial⟩) ?_
  rintro⟨k,all⟩ ⟨hkt,hall,hal⟩;simp only at hkt hall hal |-;refine Rr ?_;refine aI (λhb=>?_) (λhb=>?_)
  .have hlt2:k<total:=su hb
   refine Rr ?_;refine aN (bV rfl (bV rfl (bV rfl (bV (aAn om) (bV (aAn om) (bV (sZ rfl om om) (aAn om))))))) ?_;refine Rr ?_;refine bA.at bE (λp:Nat × Nat × List aQ=>p.1<=kids.length/\p.2.1<=1024/\p.2.2.length=kids.length/\Go.Ax.rowAt (lists.take p.1).reverse p.2.1++p.2.2.drop p.1=Go.Ax.rowAt lists.reverse k)
    (λp=>⟨[(1,.ip (cW ⟨kind,name,lo,hi',ws,ls,vals,kids,.mk vk vn vs vks⟩)),(6,.sl 4 0 kids.length),(12,.sl 5 0 k),(13,.int .i64 p.2.1),(14,.sl 6 0 kids.length),(15,.int .i64 ((p.1:Int)-1)),(53,.int .i64 total),(54,.int .i64 k)],XM ns kn [(4,.row 53 1 (cT lists)),(5,.row 55 4 (aU all)),(6,.row 55 4 (aU p.2.2))],7,98⟩)
    (λp=>p.1) (kids.length,k,List.replicate kids.length (.mk 0 0 [] [])) (tN [0,1,2,3,4,5,6])
    ⟨sq,by simp only;omega,sq,by simp only;rw[<-hll,aAD,aBk sq];simp⟩
    (aE _ rfl (iL rfl rfl rfl rfl rfl rfl rfl rfl ⟨aL 4 (bW _),aL 5 (bK _),⟨6,_,rfl,rfl,G0 _⟩,trivial⟩) ⟨aM (.ip' hxn),⟨_,rfl,.slE rfl rfl⟩,⟨_,rfl,.slE rfl rfl⟩,aJ,⟨_,rfl,.slE rfl sq⟩,⟨_,rfl,.w64 (by simp only) ⟨by simp only;omega,by simp only;omega⟩⟩,aJ,aJ,trivial⟩) ?_
   rintro⟨q,kk,row⟩ ⟨hq,hkk,hrl,hrow⟩;simp only at hq hkk hrl hrow |-;refine Rr ?_;refine aI (λhb=>?_) (λhb=>?_)
   .obtain⟨q,rfl⟩:∃q',q=q'+1:=⟨q-1,by simp at hb;omega⟩
    obtain⟨l,hl⟩:∃l,lists[q]? = some l:=⟨lists[q],aAa om⟩
    have hlm:=aAm hl;have hl0:=aA5.2 (hlne l hlm);have hl1:=hllen l hlm;have hmod:=aBt kk hl0;have hdiv:=aCT kk l.length;obtain⟨v1,v2,v3,v4,vm,vg,-,ev⟩:=cX (l:=l) (k:=kk%l.length) hmod;have hrs:=L0 (kk:=kk) hl vg;have e0:0+((q:Nat):Int).toNat=q:=sq
    have g1:Nat.blt ((q:Nat):Int).toNat kids.length=true:=aAf (by simp;omega);have e3:(cT lists)[0+((q:Nat):Int).toNat]? = some (.il 4 (aU l)):=by rw[e0];exact oT hl
    have e15:((q+1:Nat):Int)-1=(q:Int):=om;rw[e15];refine Rr ?_;have d0:(!decide (((aU l).length:Int)=0))=true:=by rw[aC,Bool.not_eq_true',aB2];omega
    have em:(kk:Int).tmod ((aU l).length:Int)=((kk%l.length:Nat):Int):=by rw[aC];exact(Int.ofNat_tmod kk l.length).symm
    have ed:(kk:Int).tdiv ((aU l).length:Int)=((kk/l.length:Nat):Int):=by rw[aC];exact(Int.ofNat_tdiv kk l.length).symm
    have ex:(aU row)[0+((q:Nat):Int).toNat]? = some (cO row[q]):=by rw[e0,gQ,aAa om];rfl
    have ey:((aU row).set (0+((q:Nat):Int).toNat) (cO (.mk v1 v2 v3 v4)))[0+((q:Nat):Int).toNat]? = some (cO (.mk v1 v2 v3 v4)):=by rw[e0];exact aBe (by rw[aC];omega)
    generalize row[q]=old at ex;obtain⟨o1,o2,o3,o4⟩:=old;repeat((first|refine aN g1 ?_|refine aB e3 ?_|refine aB ev ?_|refine aB ex ?_|refine aB ey ?_|refine dE.2 ?_|refine bQ ?_|refine aN d0 ?_;(first|rw[em]|rw[ed]|skip));refine Rr ?_)
    have hdr:(row.set q (.mk v1 v2 v3 v4)).drop q = .mk v1 v2 v3 v4::row.drop (q+1):=by
     rw[List.drop_eq_getElem_cons (by simp;omega)];simp[List.drop_set]
    have hy:i64 ((kk/l.length:Nat):Int):=by
     have:=hdiv;generalize kk/l.length=d at this |-;clear ed;exact oq
    have hset:aU (row.set q (.mk v1 v2 v3 v4))=(aU row).set q (cO (.mk v1 v2 v3 v4)):=by rw[jT,jT,aCs]
    exact .mk (q,kk/l.length,row.set q (.mk v1 v2 v3 v4)) (tN [0,1,2,3,4,5,6]) ⟨by simp only;omega,by simp only;omega,by simp only[aB3];exact hrl,by simp only;rw[hdr,<-hrow,hrs,List.append_assoc];rfl⟩
     (aE _ rfl (iL rfl rfl rfl rfl rfl rfl rfl rfl ⟨aL 4 (bW _),aL 5 (bK _),⟨6,_,rfl,rfl,.eq (bK _) (by simp only;rw[e0,hset];rfl)⟩,trivial⟩) ⟨aM (.ip' hxn),⟨_,rfl,.slE rfl rfl⟩,⟨_,rfl,.slE rfl rfl⟩,⟨_,rfl,.w64 (y:=((kk/l.length:Nat):Int)) (by first|exact ed|rfl) hy⟩,⟨_,rfl,.slE rfl rfl⟩,⟨_,rfl,.w64 rfl ⟨by simp only;omega,by simp only;omega⟩⟩,aJ,aJ,trivial⟩) (by simp only;omega)
   .have hq0:q=0:=by simp at hb;omega
    subst hq0;simp only[aBZ,List.reverse_nil,Go.Ax.rowAt,aAZ,aAJ] at hrow;have hmd:=hmade row;simp only at hmd;refine Rr ?_;refine aH.pre bE (mem':=XM ns kn [(4,.row 53 1 (cT lists)),(5,.row 55 4 (aU all))]) (tN [0,1,2,3,4,5]) (by rfl)
     (iL rfl rfl rfl rfl rfl rfl rfl rfl ⟨aL 4 (bW _),aL 5 (bK _),trivial⟩)
     (.cons (.same _ (.ip' hxn)) (.cons (.fz' (id:=6) (t:=55) (xs:=aU row) rfl rfl (by rw[aC];omega) (by rw[aAJ];exact aAk (by rw[aC];omega)) (bK _)) .nil)) ?_
    refine hmd.go ?_;have hr:=HB lists.reverse k (by rw[<-hpr];exact hlt2);rw[<-hrow] at hr;obtain⟨⟨m1,m2,m3,m4⟩,hmv⟩:∃mv,mv=eB name row:=⟨_,rfl⟩
    rw[<-hmv];refine Rr ?_;refine aN (cD rfl rfl (by simp[aC];omega) (by simp;omega)) ?_;refine Rr ?_;exact .mk (k+1,all++[.mk m1 m2 m3 m4]) [(0,0),(1,1),(2,2),(3,3),(4,4),(8,5)] ⟨by simp only;omega,by
      simp only;rw[hall,List.take_add_one,hr,aBu,hmv];rfl,by simp[hal]⟩
     (aE _ rfl (iL rfl rfl rfl rfl rfl rfl rfl rfl ⟨aL 4 (bW _),⟨8,_,rfl,rfl,.eq (bK _) (by rw[kM];rfl)⟩,trivial⟩) ⟨aM (.ip' hxn),⟨_,rfl,.slE rfl rfl⟩,⟨_,rfl,.slE rfl sq⟩,aJ,⟨_,rfl,.wp⟩,trivial⟩) (by simp only;omega)
  .have hlt2:k=total:=by simp at hb;omega
   refine Rr ?_;refine Dp _ kn hk (iL rfl rfl rfl rfl rfl rfl rfl rfl trivial) _ _ (.tup' (.cons (.fz' (id:=5) (t:=55) (xs:=aU all) rfl rfl (by rw[aC];omega) ?_ (bK _)) (.s .nil)));rw[aAJ,aAk (by rw[aC];omega),hall,hlt2,hpr,<-Ct,aAD]
theorem Yp(h:jH ns n)(i:Nat)(hi:i<n)(hOf:∀j<i,S0 ns j)(kn:List Bool)(hk:kn.length=ns.length):
  aH prog [] 184 [.ptr 0 0 0,.int .i64 i] (sM ns kn) 4 (sQ ns i):=by
 obtain⟨x,hx⟩:∃x,ns[i]? = some x:=⟨ns[i]'(by have:=h.hn;omega),aAa _⟩
 have ex:(bJ ns)[((i:Nat):Int).toNat]? = some (cW x):=by simp[jW,hx]
 unfold sQ;rw[h.at hi hx];have hG:=h.node hi hx;have hO:=h.nodeOK hi hx;have hxn:=bB x;have hkm:∀k∈x.kids,0<=k/\k<i:=λk hk=>by
  obtain⟨j,hj⟩:=aAU hk;exact hG.kids j k hj
 have hU:=λ(kids:List Int) (h1:kids.length<=65536) (h2:∀k∈kids,0<=k/\k<i)=>V5 h i om kids h1 h2 hOf kn hk
 have hP:=P0 h i om x hG.klen hkm hOf kn hk;have hb:=hO.bind;have hkl:=hG.klen;have hkd:=hG.kind;have hnum:=dG hG.num;have e0:x.kind=0->dX x (aO ns)=⟨[x.value],false⟩:=λe=>by unfold dX;rw[aAh e]
 have e1:x.kind=1->dX x (aO ns)=if 1024<=x.hi-x.lo then⟨[],true⟩ else⟨g7 x.lo x.hi,false⟩:=λe=>by unfold dX;rw[aAe om,aAh e]
 have e2:x.kind=2->dX x (aO ns)=pO (aO ns) x.kids:=λe=>by unfold dX;rw[aAe om,aAe om,aAe om,aAe om]
 have e3:x.kind=3->dX x (aO ns)=tF (aO ns) x:=λe=>by unfold dX;rw[aAe om,aAe om,aAh e]
 have e4:x.kind=4->dX x (aO ns)=pO (aO ns) (x.kids.drop 1):=λe=>by unfold dX;rw[aAe om,aAe om,aAe om,aAh e]
 generalize dX x (aO ns)=res at e0 e1 e2 e3 e4 |-;clear hG hO hOf;have hP:x.kind=3->aH prog [] 229 [.ptr 0 0 0,.ip (cW x)] (sM ns kn) 4 (uQ ns res):=λe=>by rw[e3 e];exact hP
 clear e3;obtain⟨kind,name,lo,hi',ws,ls,vals,kids,⟨vk,vn,vs,vks⟩⟩:=x;simp only at hkm hb hkl hkd hnum e0 e1 e2 e4 hP;refine aD bE func184 rfl ?_;refine Rr ?_;repeat(refine aB ex ?_;refine Rr ?_)
 have call:∀(F:FuncId) (a:List AV) (K:AV->aP->Nat->Prop) (nx:Nat),kZ a->aH prog [] F (.ptr 0 0 0::a) (sM ns kn) 4 (uQ ns res)->(∀kn',kn'.length=ns.length->K (.tup [.il 4 (aU res.vals),.bool (!res.many)]) (sM ns kn'++iJ [0,1,2,3] (sM ns kn)) nx)->aH prog [] F (.ptr 0 0 0::a) (sM ns kn) nx K:=λF a K nx ha hc hK=>by
  refine aH.useI bE [0,1,2,3] hc (by rfl) (.cons (.ptr 0 0 0 0 rfl) (.same ha)) (gZ ns kn) (by rfl) ?_;rintro r m k' ⟨kn',hk',rfl,rfl,rfl⟩;exact⟨nn,gZ ns kn',by rfl,hK kn' hk'⟩
 rcases(show kind=0\/kind=1\/kind=2\/kind=3\/kind=4 by omega) with rfl|rfl|rfl|rfl|rfl
 .rw[e0 rfl];refine Rr ?_;repeat(refine aB ex ?_;refine Rr ?_)
  exact Dp _ kn hk (iL rfl rfl rfl rfl rfl rfl rfl rfl trivial) _ _ (.tup' (.cons (.fz' (id:=4) (t:=55) (xs:=aU [.mk vk vn vs vks]) rfl rfl (by rw[aC];simp) rfl (bK _)) (.s .nil)))
 .rw[e1 rfl];have hw:IntKind.i64.wrap (hi'-lo)=hi'-lo:=aV oq;refine Rr ?_;simp only[hw];refine aI (λhb=>?_) (λhb=>?_)
  .have hb:1024<=hi'-lo:=su hb
   rw[aAh hb];refine Rr ?_;exact Dp _ kn hk (gZ ns kn) _ _ (.tup' (.cons (.nil 4) (.s .nil)))
  .have hb:¬1024<=hi'-lo:=su hb
   rw[aAe hb];refine Rr ?_;refine bA.ph 55 4 ?_;refine bA.at bE (λc:Nat=>c<=(hi'+1-lo).toNat)
    (λc=>⟨[(6,.ip (cW ⟨1,name,lo,hi',ws,ls,vals,kids,.mk vk vn vs vks⟩)),(7,.sl 4 0 c),(8,.int .i64 (lo+c))],XM ns kn [(4,.row 55 4 (aU (g7 lo (lo+c-1))))],5,82⟩)
    (λc=>(hi'+1-lo).toNat-c) 0 [(0,0),(1,1),(2,2),(3,3),(14,4)] sq
    (aE _ rfl (iL rfl rfl rfl rfl rfl rfl rfl rfl ⟨⟨14,_,rfl,rfl,by rw[show g7 lo (lo+((0:Nat):Int)-1)=[] by simp[g7]];exact .nil⟩,trivial⟩) ⟨aM (.ip' hxn),⟨_,rfl,.nslk 14 4 _ rfl rfl⟩,⟨_,rfl,.int sq⟩,trivial⟩) ?_
   intro c hc;have hrl:∀c:Nat,(g7 lo (lo+c-1)).length=c:=λc=>by simp[g7];omega
   refine Rr ?_;refine aI (λhb2=>?_) (λhb2=>?_)
   .have hb2:lo+c<=hi':=su hb2
    have hrs:g7 lo (lo+((c+1:Nat):Int)-1)=g7 lo (lo+c-1)++[.mk 0 (lo+c) [] []]:=by
     unfold g7;rw[show (lo+((c+1:Nat):Int)-1+1-lo).toNat=c+1 by omega,show (lo+(c:Int)-1+1-lo).toNat=c by omega,aCy,aBu];rfl
    refine Rr ?_;refine aN (cD rfl rfl (by rw[aC,hrl]) (by simp;omega)) ?_;refine Rr ?_;exact .mk (c+1) [(0,0),(1,1),(2,2),(3,3),(6,4)] om
     (aE _ rfl (iL rfl rfl rfl rfl rfl rfl rfl rfl ⟨⟨6,_,rfl,rfl,by rw[hrs,kM];exact .snoc rfl (.same (bK _)) (Ml 0 (lo+c) [])⟩,trivial⟩) ⟨aM (.ip' hxn),⟨_,rfl,.slE rfl sq⟩,⟨_,rfl,.w64 om oq⟩,trivial⟩) om
   .have hb2:¬lo+c<=hi':=su hb2
    have hcc:lo+c-1=hi':=om;refine Rr ?_;rw[hcc];refine Dp _ kn hk (iL rfl rfl rfl rfl rfl rfl rfl rfl trivial) _ _ (.tup' (.cons (.fz' (id:=4) (t:=55) (xs:=aU (g7 lo hi')) rfl rfl (by rw[aC];have:=hrl c;rw[hcc] at this;omega) ?_ (bK _)) (.s .nil)));rw[aAJ];exact aAk (by rw[aC];have:=hrl c;rw[hcc] at this;omega)
 .rw[e2 rfl] at call |-;refine Rr ?_;refine call _ _ _ _ (.cons (.il' (bH _)) .nil) (hU kids hkl hkm) λkn' hk'=>?_
  refine Rr ?_;exact Dp _ kn' hk' (gZ ns kn') _ _ (.same _ nn)
 .refine Rr ?_;refine call _ _ _ _ (.cons (.ip' hxn) .nil) (hP rfl) λkn' hk'=>?_
  refine Rr ?_;exact Dp _ kn' hk' (gZ ns kn') _ _ (.same _ nn)
 .rw[e4 rfl] at call |-;have hb:=hb rfl;refine Rr ?_;refine aN (bV (aAf (by rw[aK];simp;omega)) (bV (aAf (aAp _)) (aAf (aAp _)))) ?_;have ed:List.take ((bL kids).length-Int.toNat 1) (List.drop (Int.toNat 1) (bL kids))=bL (kids.drop 1):=by
   rw[aAk sq];simp[bL]
  rw[ed];refine Rr ?_;refine call _ _ _ _ (.cons (.il' (bH _)) .nil) (hU (kids.drop 1) (by rw[aBw];omega) λk hk=>hkm k (aAX hk)) λkn' hk'=>?_
  refine Rr ?_;exact Dp _ kn' hk' (gZ ns kn') _ _ (.same _ nn)
theorem Z1(h:jH ns n):∀i<n,S0 ns i:=by
 intro i
 induction i using Nat.strongRecOn with
 | ind i ih=>exact λhi kn hk=>Zb h i hi kn hk (Yp h i hi (λj hj=>ih j hj om) kn hk)
theorem Y4(a b:aQ)(ha:iO a):aT prog [] 112 [cO a,cO b] (.bool (cJ a b == 0)):=by
 have hc:=rZ a b ha;obtain⟨a1,a2,a3,a4⟩:=a;obtain⟨b1,b2,b3,b4⟩:=b;generalize cJ (.mk a1 a2 a3 a4) (.mk b1 b2 b3 b4)=c at hc |-;refine aD bE func112 rfl ?_;refine Rr ?_;refine hc.go ?_;refine Rr ?_;exact aA nn ⟨rfl,rfl,rfl⟩
theorem ME(l m:List aQ)(hl:l.length<=4294967296)(hm:m.length<=4294967296)(hok:∀a∈l,iO a) :
  aT prog [] 111 [.il 4 (aU l),.il 4 (aU m),.fn (.func 112) [] []] (.bool (dK l m)):=by
 have hE:=λa ha b=>Y4 a b (hok a ha)
 refine aD bE func111 rfl ?_;refine Rr ?_;refine aI (λh=>?_) (λh=>?_)
 .have h1:l.length≠m.length:=by rw[aC,aC] at h;simp at h;omega
  have:dK l m=false:=by
   cases e:dK l m with
   | false=>rfl
   | true=>exact absurd (pT e) h1
  rw[this];refine Rr ?_;exact aA nn ⟨rfl,rfl,rfl⟩
 .have h1:l.length=m.length:=by rw[aC,aC] at h;simp at h;omega
  refine Rr ?_;refine bA.at bE (λi:Nat=>i<=l.length/\dK l m=dK (l.drop i) (m.drop i)) (λi=>⟨[(1,.il 4 (aU m)),(2,.fn (.func 112) [] []),(15,.il 4 (aU l)),(16,.int .i64 l.length),(17,.int .i64 i)],[],0,32⟩) (λi=>l.length-i) 0 [] ⟨sq,sq⟩
   (bX ⟨aM (.il' (bK _)),aJ,aM (.il' (bK _)),⟨_,rfl,.int (by rw[aC])⟩,aJ,trivial⟩) ?_
  rintro i ⟨hi,hs⟩;refine Rr ?_;refine aI (λhb=>?_) (λhb=>?_)
  .have hil:i<l.length:=su hb
   obtain⟨p1,p2,p3,p4,pm,pg,pe,ep⟩:=cX (l:=l) (k:=i) hil;obtain⟨q1,q2,q3,q4,qm,qg,qe,eq⟩:=cX (l:=m) (k:=i) om;rw[List.drop_eq_getElem_cons hil,List.drop_eq_getElem_cons (show i<m.length by omega),dK,pe,qe] at hs;have hc:=hE _ pm (.mk q1 q2 q3 q4);obtain⟨c,hc0⟩:∃c,c=cJ (.mk p1 p2 p3 p4) (.mk q1 q2 q3 q4):=⟨_,rfl⟩
   rw[<-hc0] at hc hs;refine Rr ?_;repeat((first|refine aB ep ?_|refine aB eq ?_|refine bQ ?_);refine Rr ?_)
   refine hc.go ?_;refine Rr ?_;refine aI (λh=>?_) (λh=>?_)
   .have:decide (c=0)=false:=su h
    rw[hs,this];refine Rr ?_;exact aA nn ⟨rfl,rfl,rfl⟩
   .have:decide (c=0)=true:=su h
    rw[this] at hs;refine Rr ?_;exact .mk (i+1) [] ⟨om,hs⟩ (bX ⟨aM (.il' (bK _)),aJ,aM (.il' (bK _)),aJ,⟨_,rfl,.w64 om oq⟩,trivial⟩) om
  .have hil:i=l.length:=by simp at hb;omega
   rw[hil,aBy,h1,aBy,dK] at hs;rw[hs];refine Rr ?_;exact aA nn ⟨rfl,rfl,rfl⟩
def I6(ns:List Nd)(ls ss:List Int)(kn:List Bool)(rest:aP):aP:=(0,.row 122 4 [.agg [.il 12 (bJ ns),.sl 1 0 ns.length,.sl 2 0 ns.length,.ptr 3 0 0]])::(1,.row 3 1 (bL ls))::(2,.row 3 1 (bL ss)) ::
 (3,.row 195 4 [.agg [.il 12 (bJ ns),.sl 4 0 ns.length,.sl 5 0 ns.length,.sl 6 0 ns.length]])::(4,.row 4 1 (kB kn))::(5,.row 53 1 (lB (aO ns) kn))::(6,.row 4 1 (mB (aO ns) kn))::rest
def X2(ns:List Nd)(l1 l2:List AV)(kn:List Bool):aP:=[(0,.row 122 4 [.agg [.il 12 (bJ ns),.sl 1 0 ns.length,.sl 2 0 ns.length,.ptr 3 0 0]]),(1,.row 3 1 l1),(2,.row 3 1 l2),
 (3,.row 195 4 [.agg [.il 12 (bJ ns),.sl 4 0 ns.length,.sl 5 0 ns.length,.sl 6 0 ns.length]]),(4,.row 4 1 (kB kn)),(5,.row 53 1 (lB (aO ns) kn)),(6,.row 4 1 (mB (aO ns) kn))]
theorem Xu{N a b c a' b' c':Nat}(h1:lk J a=some a')(h2:lk J b=some b')(h3:lk J c=some c'):
  sH mem J [.agg [.il 12 (bJ ns),.sl a 0 N,.sl b 0 N,.ptr c 0 0]] [.agg [.il 12 (bJ ns),.sl a' 0 N,.sl b' 0 N,.ptr c' 0 0]]:=
 .cons (.agg (.cons (.same _ (.il' (aR _))) (.cons (.sl a a' 0 N h1) (.cons (.sl b b' 0 N h2) (.cons (.ptr c c' 0 0 h3) .nil))))) .nil
theorem lH{mem:aP}{J:List (Nat × Nat)}{ns:List Nd}{kn:List Bool}{ls ss:List Int}{l1 l2:List AV}{rest:aP}(h0:lk J 0=some 0)(h1:lk J 1=some 1)(h2:lk J 2=some 2)(h3:lk J 3=some 3)(h4:lk J 4=some 4)(h5:lk J 5=some 5)(h6:lk J 6=some 6)
  (m0:lk mem 0=some (.row 122 4 [.agg [.il 12 (bJ ns),.sl 1 0 ns.length,.sl 2 0 ns.length,.ptr 3 0 0]])) (m1:lk mem 1=some (.row 3 1 l1)) (m2:lk mem 2=some (.row 3 1 l2)) (e1:l1=bL ls) (e2:l2=bL ss)
  (m3:lk mem 3=some (.row 195 4 [.agg [.il 12 (bJ ns),.sl 4 0 ns.length,.sl 5 0 ns.length,.sl 6 0 ns.length]])) (m4:lk mem 4=some (.row 4 1 (kB kn))) (m5:lk mem 5=some (.row 53 1 (lB (aO ns) kn))) (m6:lk mem 6=some (.row 4 1 (mB (aO ns) kn)))
  (hr:dR mem J rest):dR mem J (I6 ns ls ss kn rest):=
 ⟨⟨0,_,h0,m0,Xu h1 h2 h3⟩,⟨1,_,h1,m1,.eq (bH _) e1⟩,⟨2,_,h2,m2,.eq (bH _) e2⟩,⟨3,_,h3,m3,Iz h4 h5 h6⟩,⟨4,_,h4,m4,.same (BI _)⟩,⟨5,_,h5,m5,.same (DU _ _)⟩,⟨6,_,h6,m6,.same (CD _ _)⟩,hr⟩
theorem pD(ns:List Nd)(ls ss:List Int)(kn:List Bool):dR (I6 ns ls ss kn []) (tN [0,1,2,3,4,5,6]) (I6 ns ls ss kn []):=lH rfl rfl rfl rfl rfl rfl rfl rfl rfl rfl rfl rfl rfl rfl rfl rfl trivial
theorem r7(l:List Int)(i:Nat)(y:Int):bL (l.set i y)=(bL l).set i (.int .i64 y):=by simp[bL,aCs]
theorem W8{ns:List Nd}(i:Nat)(x:Nd)(hx:ns[i]? = some x)(hok:x9 x)(hsz:bF x.value<=1048576)(hkl:x.kids.length<=65536)(hkids:∀(j:Nat) (k:Int),x.kids[j]? = some k->0<=k/\k<i)(hkd:0<=x.kind/\x.kind<=4)(h4:4<=x.kind->0<x.kids.length)
  (ls ss:List Int) (kn:List Bool) (hls:ls.length=ns.length) (hss:ss.length=ns.length) (bl:∀y∈ls,0<=y/\y<=1024) (bs:∀y∈ss,0<=y/\y<=1024) :
  aH prog [] 61 [.ptr 0 0 0,.int .i64 i] (I6 ns ls ss kn []) 7 λr m k=>r = .bool (decide (jQ ls x<=256) && decide (BL ss x<=1024))/\m=I6 ns (ls.set i (jQ ls x)) (ss.set i (BL ss x)) kn []/\k=7:=by
 have hil:=(aAg.1 hx).1;have ex:(bJ ns)[((i:Nat):Int).toNat]? = some (cW x):=by simp[jW,hx]
 have hxn:=bB x;have hL:=TM ls x hok hkl bl (λj k hk=>by have:=hkids j k hk;omega) h4 hkd;have hV:=Xa x.value hsz;have hP:BL ss x=if x.kind=0 then(bF x.value:Int) else if x.kind=1 then 1 else if x.kind=3 then 1+i9 ss x.kids else max 1 (dM ss (i8 x)):=rfl
 have hs:=λl=>kH (b:=ss) (M:=1024) om bs l
 have hm:=λl=>mT (b:=ss) (M:=1024) om bs l
 have har:i8 x=if x.kind=2 then x.kids else x.kids.drop 1:=rfl
 have hat:=λq=>oV (b:=ss) (M:=1024) om bs q
 have eat:∀k:Int,0<=k->k<ss.length->(bL ss)[0+k.toNat]? = some (.int .i64 (Go.Ax.f7 ss k)):=λk h0 h1=>by
  have:k.toNat<ss.length:=om;rw[aAF,bP,aAa this];unfold Go.Ax.f7;rw[aAb,aAa this];rfl
 have hM:∀k:Nat,k<x.kids.length->(dM ss (if x.kind=2 then x.kids.take (k+1) else(x.kids.take (k+1)).drop 1))=if 0<k\/x.kind=2 then max (dM ss (if x.kind=2 then x.kids.take k else(x.kids.take k).drop 1)) (Go.Ax.f7 ss (x.kids.getD k 0)) else dM ss (if x.kind=2 then x.kids.take k else(x.kids.take k).drop 1):=λk hk=>by
  have eg:x.kids.getD k 0=x.kids[k]:=by rw[aAb,aAa hk];rfl
  rw[eg];by_cases e2:x.kind=2
  .rw[aAh e2,aAh (.inr e2),aAh e2,vN hk]
  .rw[aAe e2,aAe e2];by_cases e0:0<k
   .rw[aAh (.inl e0),q7 hk e0]
   .rw[aAe om];have:k=0:=om;subst this;simp[dM,aBl]
 have h0:0+((i:Nat):Int).toNat=i:=sq
 have g1:Nat.blt ((i:Nat):Int).toNat ns.length=true:=aAf (by simp;omega);generalize hlen:jQ ls x=len at *;generalize hsiz:BL ss x=siz at *;clear hlen hsiz hok;obtain⟨kind,name,lo,hi',ws,lbs,vals,kids,⟨vk,vn,vs,vks⟩⟩:=x;simp only at hsz hkl hkids hkd h4 hV hP hM;obtain⟨sv,hsv⟩:∃sv,sv=bF (.mk vk vn vs vks):=⟨_,rfl⟩
 rw[<-hsv] at hV hP hsz;have f1:(bL ls)[0+((i:Nat):Int).toNat]? = some (.int .i64 ls[i]):=by rw[h0,bP,aAa om];rfl
 have f2:((bL ls).set (0+((i:Nat):Int).toNat) (.int .i64 len))[0+((i:Nat):Int).toNat]? = some (.int .i64 len):=by rw[h0];exact aBe (by rw[aK];omega)
 have f3:(bL ss)[0+((i:Nat):Int).toNat]? = some (.int .i64 ss[i]):=by rw[h0,bP,aAa om];rfl
 have f4:∀siz:Int,((bL ss).set (0+((i:Nat):Int).toNat) (.int .i64 siz))[0+((i:Nat):Int).toNat]? = some (.int .i64 siz):=λsiz=>by rw[h0];exact aBe (by rw[aK];omega)
 generalize ls[i]=l0 at f1;generalize ss[i]=s0 at f3;refine aD bE func61 rfl ?_;refine Rt ?_;repeat((first|refine aN g1 ?_|refine aB ex ?_|refine aB f1 ?_|refine aB f2 ?_);refine Rt ?_)
 refine hL.lend bE (.cons (.same _ (.ip' hxn)) (.cons (.fz' (id:=1) (t:=3) (xs:=bL ls) rfl rfl (by rw[aK];omega) (by rw[aAJ];exact aAk (by rw[aK];omega)) (bH _)) .nil)) (.int _ _) ?_;refine Rt ?_;repeat((first|refine aN g1 ?_|refine aB ex ?_|refine aB f1 ?_|refine aB f2 ?_);refine Rt ?_)
 obtain⟨d1,hd1⟩:∃d1,d1=decide (len<=256):=⟨_,rfl⟩
 rw[<-hd1];have fin:∀(mem:aP) (nx:Nat) {d:Bool},d=(d1 && decide (siz<=1024))->mem=X2 ns ((bL ls).set (0+((i:Nat):Int).toNat) (.int .i64 len)) ((bL ss).set (0+((i:Nat):Int).toNat) (.int .i64 siz)) kn ->
   rE 7 (λr m k=>r = .bool (d1 && decide (siz<=1024))/\m=I6 ns (ls.set i len) (ss.set i siz) kn []/\k=7) (.bool d) mem nx:=by
  rintro mem nx d rfl rfl;exact aW (n':=7) (m':=I6 ns (ls.set i len) (ss.set i siz) kn []) (tN [0,1,2,3,4,5,6]) rfl (lH rfl rfl rfl rfl rfl rfl rfl rfl rfl rfl (by rw[h0];exact(r7 _ _ _).symm) (by rw[h0];exact(r7 _ _ _).symm) rfl rfl rfl rfl trivial) (.same _ nn) ⟨rfl,rfl,rfl⟩
 have fin':∀(mem:aP) (nx:Nat) {d:Bool},d=(d1 && decide (siz<=1024))->mem=X2 ns (bL (ls.set i len)) ((bL ss).set (0+((i:Nat):Int).toNat) (.int .i64 siz)) kn ->
   rE 7 (λr m k=>r = .bool (d1 && decide (siz<=1024))/\m=I6 ns (ls.set i len) (ss.set i siz) kn []/\k=7) (.bool d) mem nx:=by
  rintro mem nx d rfl rfl;exact aW (n':=7) (m':=I6 ns (ls.set i len) (ss.set i siz) kn []) (tN [0,1,2,3,4,5,6]) rfl (lH rfl rfl rfl rfl rfl rfl rfl rfl rfl rfl rfl (by rw[h0];exact(r7 _ _ _).symm) rfl rfl rfl rfl trivial) (.same _ nn) ⟨rfl,rfl,rfl⟩
 have f2':(bL (ls.set i len))[0+((i:Nat):Int).toNat]? = some (.int .i64 len):=by rw[h0,r7];exact aBe (by rw[aK];omega)
 rcases(show kind=0\/kind=1\/kind=2\/kind=3\/kind=4 by omega) with rfl|rfl|rfl|rfl|rfl
 .rw[aAh rfl] at hP;subst hP;refine Rr ?_;refine hV.go ?_;refine Rt ?_;repeat((first|refine aN g1 ?_|refine aB f3 ?_|refine aB (f4 _) ?_|refine aB f2 ?_);refine Rt ?_)
  rw[<-hd1];clear hd1;cases d1 with
  | true=>
   refine Rr ?_;exact fin _ _ rfl rfl
  | false=>
   refine Rr ?_;exact fin _ _ rfl rfl
 .rw[aAe (by decide),aAh rfl] at hP;subst hP;refine Rt ?_;repeat((first|refine aN g1 ?_|refine aB f3 ?_|refine aB (f4 _) ?_|refine aB f2 ?_);refine Rt ?_)
  rw[<-hd1];clear hd1;cases d1 with
  | true=>
   refine Rr ?_;exact fin _ _ rfl rfl
  | false=>
   refine Rr ?_;exact fin _ _ rfl rfl
 .rw[aAe (by decide),aAe (by decide),aAe (by decide)] at hP;refine Rr ?_;refine bA.at bE (λp:Nat × Int=>p.1<=kids.length/\p.2=max 1 (dM ss (kids.take p.1)))
   (λp=>⟨[(0,.ptr 0 0 0),(1,.int .i64 i),(5,.ip (cW ⟨2,name,lo,hi',ws,lbs,vals,kids,.mk vk vn vs vks⟩)),(6,.int .i64 p.2),(67,.il 1 (bL kids)),(68,.int .i64 kids.length),(69,.int .i64 p.1)],I6 ns (ls.set i len) ss kn [],7,112⟩) (λp=>kids.length-p.1) (0,1) (tN [0,1,2,3,4,5,6]) ⟨sq,by simp[dM];omega⟩
   (aE _ rfl (lH rfl rfl rfl rfl rfl rfl rfl rfl rfl rfl (by rw[h0];exact(r7 _ _ _).symm) rfl rfl rfl rfl rfl trivial) ⟨aF,aJ,aM (.ip' hxn),aJ,aM (.il' (bH _)),⟨_,rfl,.int (by rw[aK])⟩,aJ,trivial⟩) ?_
  rintro⟨j,size⟩ ⟨hj,hsize⟩;simp only at hj hsize |-;have bsz:=hm (kids.take j);refine Rr ?_;refine aI (λh=>?_) (λh=>?_)
  .have hlt:j<kids.length:=su h
   have e1:(bL kids)[(j:Int).toNat]? = some (.int .i64 kids[j]):=by rw[aAc,bP,aAa hlt];rfl
   obtain⟨q0,q1⟩:=hkids j _ (aAa hlt);have hM:=hM j hlt;have eg:kids.getD j 0=kids[j]:=by rw[aAb,aAa hlt];rfl
   rw[eg] at hM;have hM:dM ss (kids.take (j+1))=max (dM ss (kids.take j)) (Go.Ax.f7 ss kids[j]):=su hM
   generalize kids[j]=q at e1 q0 q1 hM;obtain⟨q,rfl⟩:=aAu q0;have e2:=eat q q0 om;have hq:=hat q;have g2:Nat.blt ((q:Nat):Int).toNat ns.length=true:=aAf (by simp;omega);generalize Go.Ax.f7 ss q=z at e2 hq hM;refine Rr ?_;repeat((first|refine aN g2 ?_|refine aB e1 ?_|refine aB e2 ?_);refine Rr ?_)
   by_cases k0:0<j
   .have d0:decide ((j:Int)>0)=true:=by simp;omega
    rw[d0];refine Rr ?_;repeat((first|refine aN g2 ?_|refine aB e1 ?_|refine aB e2 ?_);refine Rr ?_)
    exact .mk (j+1,max size z) (tN [0,1,2,3,4,5,6]) ⟨by simp only;omega,by simp only;rw[hM,hsize];omega⟩
     (aE _ rfl (pD _ _ _ _) ⟨aF,aJ,aM (.ip' hxn),⟨_,rfl,.int (by simp only;split<;>omega)⟩,aM (.il' (bH _)),aJ,⟨_,rfl,.wp⟩,trivial⟩) (by simp only;omega)
   .have d0:decide ((j:Int)>0)=false:=by simp;omega
    rw[d0];refine Rr ?_;repeat((first|refine aN g2 ?_|refine aB e1 ?_|refine aB e2 ?_);refine Rr ?_)
    exact .mk (j+1,max size z) (tN [0,1,2,3,4,5,6]) ⟨by simp only;omega,by simp only;rw[hM,hsize];omega⟩
     (aE _ rfl (pD _ _ _ _) ⟨aF,aJ,aM (.ip' hxn),⟨_,rfl,.int (by simp only;split<;>omega)⟩,aM (.il' (bH _)),aJ,⟨_,rfl,.wp⟩,trivial⟩) (by simp only;omega)
  .have hlt:j=kids.length:=by simp at h;omega
   rw[hlt,aAD,show dM ss kids=dM ss (i8 ⟨2,name,lo,hi',ws,lbs,vals,kids,.mk vk vn vs vks⟩) from rfl,<-hP] at hsize;subst hsize;refine Rt ?_;repeat((first|refine aN g1 ?_|refine aB f3 ?_|refine aB (f4 _) ?_|refine aB f2' ?_);refine Rt ?_)
   rw[<-hd1];clear hd1;cases d1 with
   | true=>
    refine Rr ?_;exact fin' _ _ rfl rfl
   | false=>
    refine Rr ?_;exact fin' _ _ rfl rfl
 .rw[aAe (by decide),aAe (by decide),aAh rfl] at hP;refine Rr ?_;refine bA.at bE (λp:Nat × Int=>p.1<=kids.length/\p.2=1+i9 ss (kids.take p.1))
   (λp=>⟨[(0,.ptr 0 0 0),(1,.int .i64 i),(6,.int .i64 p.2),(45,.il 1 (bL kids)),(46,.int .i64 kids.length),(47,.int .i64 p.1)],I6 ns (ls.set i len) ss kn [],7,112⟩) (λp=>kids.length-p.1) (0,1) (tN [0,1,2,3,4,5,6]) ⟨sq,by simp[i9]⟩
   (aE _ rfl (lH rfl rfl rfl rfl rfl rfl rfl rfl rfl rfl (by rw[h0];exact(r7 _ _ _).symm) rfl rfl rfl rfl rfl trivial) ⟨aF,aJ,aJ,aM (.il' (bH _)),⟨_,rfl,.int (by rw[aK])⟩,aJ,trivial⟩) ?_
  rintro⟨j,size⟩ ⟨hj,hsize⟩;simp only at hj hsize |-;have bsz:=hs (kids.take j);have btk:(kids.take j).length<=65536:=by simp;omega
  refine Rr ?_;refine aI (λh=>?_) (λh=>?_)
  .have hlt:j<kids.length:=su h
   have e1:(bL kids)[(j:Int).toNat]? = some (.int .i64 kids[j]):=by rw[aAc,bP,aAa hlt];rfl
   obtain⟨q0,q1⟩:=hkids j _ (aAa hlt);have hst:=yO (b:=ss) hlt;generalize kids[j]=q at e1 q0 q1 hst;obtain⟨q,rfl⟩:=aAu q0;have e2:=eat q q0 om;have hq:=hat q;have g2:Nat.blt ((q:Nat):Int).toNat ns.length=true:=aAf (by simp;omega);generalize Go.Ax.f7 ss q=z at e2 hq hst;refine Rr ?_;repeat((first|refine aN g2 ?_|refine aB e1 ?_|refine aB e2 ?_);refine Rr ?_)
   exact .mk (j+1,size+z) (tN [0,1,2,3,4,5,6]) ⟨by simp only;omega,by simp only;rw[hst,hsize];omega⟩
    (aE _ rfl (pD _ _ _ _) ⟨aF,aJ,⟨_,rfl,.w64 rfl ⟨by simp only;omega,by simp only;omega⟩⟩,aM (.il' (bH _)),aJ,⟨_,rfl,.wp⟩,trivial⟩) (by simp only;omega)
  .have hlt:j=kids.length:=by simp at h;omega
   rw[hlt,aAD,<-hP] at hsize;subst hsize;refine Rt ?_;repeat((first|refine aN g1 ?_|refine aB f3 ?_|refine aB (f4 _) ?_|refine aB f2' ?_);refine Rt ?_)
   rw[<-hd1];clear hd1;cases d1 with
   | true=>
    refine Rr ?_;exact fin' _ _ rfl rfl
   | false=>
    refine Rr ?_;exact fin' _ _ rfl rfl
 .rw[aAe (by decide),aAe (by decide),aAe (by decide)] at hP;refine Rr ?_;refine bA.at bE (λp:Nat × Int=>p.1<=kids.length/\p.2=max 1 (dM ss ((kids.take p.1).drop 1)))
   (λp=>⟨[(0,.ptr 0 0 0),(1,.int .i64 i),(5,.ip (cW ⟨4,name,lo,hi',ws,lbs,vals,kids,.mk vk vn vs vks⟩)),(6,.int .i64 p.2),(67,.il 1 (bL kids)),(68,.int .i64 kids.length),(69,.int .i64 p.1)],I6 ns (ls.set i len) ss kn [],7,112⟩) (λp=>kids.length-p.1) (0,1) (tN [0,1,2,3,4,5,6]) ⟨sq,by simp[dM];omega⟩
   (aE _ rfl (lH rfl rfl rfl rfl rfl rfl rfl rfl rfl rfl (by rw[h0];exact(r7 _ _ _).symm) rfl rfl rfl rfl rfl trivial) ⟨aF,aJ,aM (.ip' hxn),aJ,aM (.il' (bH _)),⟨_,rfl,.int (by rw[aK])⟩,aJ,trivial⟩) ?_
  rintro⟨j,size⟩ ⟨hj,hsize⟩;simp only at hj hsize |-;have bsz:=hm ((kids.take j).drop 1);refine Rr ?_;refine aI (λh=>?_) (λh=>?_)
  .have hlt:j<kids.length:=su h
   have e1:(bL kids)[(j:Int).toNat]? = some (.int .i64 kids[j]):=by rw[aAc,bP,aAa hlt];rfl
   obtain⟨q0,q1⟩:=hkids j _ (aAa hlt);have hM:=hM j hlt;have eg:kids.getD j 0=kids[j]:=by rw[aAb,aAa hlt];rfl
   rw[eg] at hM;have hM:0<j->dM ss ((kids.take (j+1)).drop 1)=max (dM ss ((kids.take j).drop 1)) (Go.Ax.f7 ss kids[j]):=λhj=>by rw[q7 hlt hj]
   generalize kids[j]=q at e1 q0 q1 hM;obtain⟨q,rfl⟩:=aAu q0;have e2:=eat q q0 om;have hq:=hat q;have g2:Nat.blt ((q:Nat):Int).toNat ns.length=true:=aAf (by simp;omega);generalize Go.Ax.f7 ss q=z at e2 hq hM;refine Rr ?_;repeat((first|refine aN g2 ?_|refine aB e1 ?_|refine aB e2 ?_);refine Rr ?_)
   by_cases k0:0<j
   .have d0:decide ((j:Int)>0)=true:=by simp;omega
    rw[d0];refine Rr ?_;repeat((first|refine aN g2 ?_|refine aB e1 ?_|refine aB e2 ?_);refine Rr ?_)
    exact .mk (j+1,max size z) (tN [0,1,2,3,4,5,6]) ⟨by simp only;omega,by simp only;rw[hM k0,hsize];omega⟩
     (aE _ rfl (pD _ _ _ _) ⟨aF,aJ,aM (.ip' hxn),⟨_,rfl,.int (by simp only;split<;>omega)⟩,aM (.il' (bH _)),aJ,⟨_,rfl,.wp⟩,trivial⟩) (by simp only;omega)
   .have d0:decide ((j:Int)>0)=false:=by simp;omega
    rw[d0];refine Rr ?_;repeat((first|refine aN g2 ?_|refine aB e1 ?_|refine aB e2 ?_);refine Rr ?_)
    have j0:j=0:=om;subst j0;exact .mk (1,size) (tN [0,1,2,3,4,5,6]) ⟨by simp only;omega,by simp only;rw[hsize];simp[aBl]⟩
     (aE _ rfl (pD _ _ _ _) ⟨aF,aJ,aM (.ip' hxn),aJ,aM (.il' (bH _)),aJ,⟨_,rfl,.wp⟩,trivial⟩) (by simp only;omega)
  .have hlt:j=kids.length:=by simp at h;omega
   rw[hlt,aAD,show dM ss (kids.drop 1)=dM ss (i8 ⟨4,name,lo,hi',ws,lbs,vals,kids,.mk vk vn vs vks⟩) from rfl,<-hP] at hsize;subst hsize;refine Rt ?_;repeat((first|refine aN g1 ?_|refine aB f3 ?_|refine aB (f4 _) ?_|refine aB f2' ?_);refine Rt ?_)
   rw[<-hd1];clear hd1;cases d1 with
   | true=>
    refine Rr ?_;exact fin' _ _ rfl rfl
   | false=>
    refine Rr ?_;exact fin' _ _ rfl rfl
theorem W2(h:jH ns n)(x:Nd)(hvl:x.values.length<=1000000)(hk4:x.kind=4->∃k:Nat,x.kids[0]? = some (k:Int)/\k<n)(ls ss:List Int)(kn:List Bool)(hk:kn.length=ns.length):
  aH prog [] 62 [.ptr 0 0 0,.ip (cW x)] (I6 ns ls ss kn []) 7 λr m k=>∃kn',kn'.length=ns.length /\
   r = .int .i64 (if x.kind=4 then(if (Go.Ax.d8 (aO ns) (x.kids.getD 0 0)).many=true then 4 else if dK (Go.Ax.d8 (aO ns) (x.kids.getD 0 0)).vals x.values=true then 0 else 1) else 0)/\m=I6 ns ls ss kn' []/\k=7:=by
 have hxn:=bB x;generalize hres:(if x.kind=4 then(if (Go.Ax.d8 (aO ns) (x.kids.getD 0 0)).many=true then 4 else if dK (Go.Ax.d8 (aO ns) (x.kids.getD 0 0)).vals x.values=true then 0 else 1) else(0:Int))=res;have fin:∀(kn':List Bool) (mem:aP) (nx:Nat) (c:Int),kn'.length=ns.length->c=res->dR mem (tN [0,1,2,3,4,5,6]) (I6 ns ls ss kn' []) ->
   rE 7 (λr m k=>∃kn',kn'.length=ns.length/\r = .int .i64 res/\m=I6 ns ls ss kn' []/\k=7) (.int .i64 c) mem nx:=by
  rintro kn' mem nx c hk' rfl hM;exact aW (n':=7) (m':=I6 ns ls ss kn' []) (tN [0,1,2,3,4,5,6]) rfl hM (.same _ nn) ⟨kn',hk',rfl,rfl,rfl⟩
 by_cases e4:x.kind=4
 .obtain⟨k,hkg,hkn⟩:=hk4 e4;have eg:x.kids.getD 0 0=(k:Int):=by rw[aAb,hkg];rfl
  rw[aAh e4,eg] at hres;have ek:(bL x.kids)[(0:Int).toNat]? = some (.int .i64 k):=by rw[show (0:Int).toNat=0 from rfl,bP,hkg];rfl
  have hO:=Z1 h k hkn kn hk;have hv:=h.vals (k:=k) om om;obtain⟨lk,hlk⟩:∃lk,lk=Go.Ax.d8 (aO ns) k:=⟨_,rfl⟩
  unfold sQ at hO;rw[<-hlk] at hv hres;simp only[<-hlk] at hO;obtain⟨lv,lm⟩:=lk;simp only at hv hres;have hE:=λl (hl:l.length<=1024) hok=>ME l x.values om om hok
  obtain⟨kind,name,lo,hi',ws,lbs,vals,kids,⟨vk,vn,vs,vks⟩⟩:=x;simp only at e4 ek hvl hE hres;subst e4;refine aD bE func62 rfl ?_;refine Rr ?_;repeat((first|refine aB ek ?_|refine bQ ?_);refine Rr ?_)
  refine aH.useR bE [(3,0),(4,1),(5,2),(6,3)] hO (by rfl) (.cons (.ptr 3 0 0 0 rfl) (.s .nil)) ⟨⟨3,_,rfl,rfl,Iz rfl rfl rfl⟩,aL 4 (BI _),aL 5 (DU _ _),aL 6 (CD _ _),trivial⟩ (by rfl) ?_;rintro r m nn' ⟨kn',hk',rfl,rfl,rfl⟩;refine⟨[(3,.row 195 4 [.agg [.il 12 (bJ ns),.sl 4 0 ns.length,.sl 5 0 ns.length,.sl 6 0 ns.length]]),(4,.row 4 1 (kB kn')),(5,.row 53 1 (lB (aO ns) kn')),(6,.row 4 1 (mB (aO ns) kn'))],nn,⟨⟨0,_,rfl,rfl,Iz rfl rfl rfl⟩,aL 1 (BI _),aL 2 (DU _ _),aL 3 (CD _ _),trivial⟩,by rfl, ?_⟩;cases lm with
  | true=>
   refine Rr ?_;refine fin kn' _ _ _ hk' (by rw[<-hres];simp) ?_;exact lH rfl rfl rfl rfl rfl rfl rfl rfl rfl rfl rfl rfl rfl rfl rfl rfl trivial
  | false=>
   have hE:=hE lv hv.1 hv.2;obtain⟨sv,hsv⟩:∃sv,sv=dK lv vals:=⟨_,rfl⟩
   rw[<-hsv] at hE hres;refine Rr ?_;refine hE.go ?_;cases sv with
   | true=>
    refine Rr ?_;refine fin kn' _ _ _ hk' (by rw[<-hres];simp) ?_;exact lH rfl rfl rfl rfl rfl rfl rfl rfl rfl rfl rfl rfl rfl rfl rfl rfl trivial
   | false=>
    refine Rr ?_;refine fin kn' _ _ _ hk' (by rw[<-hres];simp) ?_;exact lH rfl rfl rfl rfl rfl rfl rfl rfl rfl rfl rfl rfl rfl rfl rfl rfl trivial
 .rw[aAe e4] at hres;obtain⟨kind,name,lo,hi',ws,lbs,vals,kids,⟨vk,vn,vs,vks⟩⟩:=x;simp only at e4;refine aD bE func62 rfl ?_;refine Rr ?_;refine aI (λ_=>?_) (λh=>absurd (su h) e4);refine Rr ?_;exact fin kn _ _ _ hk hres (pD _ _ _ _)
theorem V1(n:Nat):kB (List.replicate n false)=List.replicate n (.bool false):=by simp[kB]
theorem XJ(L:List jM):lB L (List.replicate L.length false)=cT (List.replicate L.length []):=by
 unfold lB cT
 induction L with
 | nil=>rfl
 | cons a L ih=>simpa[aA6] using ih
theorem W6(L:List jM):mB L (List.replicate L.length false)=List.replicate L.length (.bool false):=by
 unfold mB
 induction L with
 | nil=>rfl
 | cons a L ih=>simpa[aA6] using ih
theorem Sg(ns:List Nd)(hl:ns.length<=4096):aH prog [] 56 [.agg [.il 12 (bJ ns)]] [] 0 λr m k=>r = .ptr 0 0 0/\m=sM ns (List.replicate ns.length false)/\k=4:=by
 have hlen:(bJ ns).length=ns.length:=dL ns;refine aD bE func56 rfl ?_;refine Rr ?_;rw[hlen];refine Rr ?_;refine aN (bV rfl (bV rfl (bV rfl (bV (aAn om) (bV (aAn om) (bV (sZ rfl om om) (aAn om))))))) ?_;refine Rr ?_;repeat((first|refine aN (bV rfl (bV rfl (bV rfl (bV (aAn om) (bV (aAn om) (bV (sZ rfl om om) (aAn om))))))) ?_|refine bQ ?_);refine Rr ?_)
 have e:((ns.length:Nat):Int).toNat=ns.length:=sq
 rw[e];have hL:(aO ns).length=ns.length:=gN ns;have e2:=XJ (aO ns);have e3:=W6 (aO ns);rw[hL] at e2 e3;refine aW (n':=4) (m':=sM ns (List.replicate ns.length false)) [(10,0),(4,1),(6,2),(8,3)] rfl ⟨⟨10,_,rfl,rfl,Iz rfl rfl rfl⟩,⟨4,_,rfl,rfl,.eq (BI _) (V1 _).symm⟩,⟨6,_,rfl,rfl,by rw[e2];exact Fy _⟩,⟨8,_,rfl,rfl,.eq (CD _ _) e3.symm⟩,trivial⟩ (.ptr 10 0 0 0 rfl) ⟨rfl,rfl,rfl⟩
structure Vg(ns:List Nd):Prop where
 ok:∀x∈ns,x9 x
 val:∀x∈ns,bF x.value<=1048576
 vals:∀x∈ns,∀v∈x.values,bF v<=1048576
 vlen:∀x∈ns,x.values.length<=1000000
 klen:∀x∈ns,x.kids.length<=65536
def Hr(l:List Int)(n:Nat):List Int:=l++List.replicate (n-l.length) 0
theorem FH{l:List Int}(h:l.length<=n):(Hr l n).length=n:=by simp[Hr];omega
theorem Nk{l:List Int}(y:Int)(h:l.length<n):(Hr l n).set l.length y=Hr (l++[y]) n:=by
 unfold Hr;rw[aCo _ _ (aAp _),aCZ];obtain⟨m,hm⟩:∃m,n-l.length=m+1:=⟨n-l.length-1,om⟩
 rw[hm,aA6,aCD,aAA,aA7,show n-(l.length+1)=m by omega];simp
theorem Mv{l:List Int}{k:Int}(h0:0<=k)(h1:k<l.length):Go.Ax.f7 (Hr l n) k=Go.Ax.f7 l k:=Nu h0 h1
theorem Mj{l:List Int}(h:∀y∈l,0<=y/\y<=1024):∀y∈Hr l n,0<=y/\y<=1024:=by
 intro y hy;rcases aAt.1 hy with hy|hy
 .exact h y hy
 .have:=aCg hy;omega
theorem If{i:Int}{x:Nd}(h:vH x=false):dT i x=false:=by
 cases e:dT i x with
 | false=>rfl
 | true=>
  unfold dT at e;simp only[aAd] at e;have:vH x=true:=by
   unfold vH;rw[e.1.1.1.1.1.1];simpa using e.1.1.1.1.1.2
  rw[this] at h;cases h
theorem Gw{i:Int}{x:Nd}(h:dT i x=false):gY i x=1:=by unfold gY;rw[aAh h]
theorem Qv{i:Int}{x:Nd}(h:dT i x=true)(h2:fG (r8 x)≠0):gY i x=fG (r8 x):=by unfold gY;rw[aAe (by rw[h];simp),aAh h2]
theorem QL{i:Int}{x:Nd}(h:dT i x=true)(h2:fG (r8 x)=0)(h3:Go.Ax.d7 x=false):gY i x=5:=by unfold gY;rw[aAe (by rw[h];simp),aAe om,aAh h3]
theorem O4{i:Int}{x:Nd}(h:dT i x=true)(h2:fG (r8 x)=0)(h3:Go.Ax.d7 x=true):gY i x=0:=by unfold gY;rw[aAe (by rw[h];simp),aAe om,aAe (by rw[h3];simp)]
theorem yU{b:List Nd}{x:Nd}{e:Int}(h:gY b.length x=e)(he:e≠0):jD b ls ss x=e:=by unfold jD;rw[aAh (by rw[h];exact he),h]
theorem R2{b:List Nd}{x:Nd}(h:gY b.length x=0)(h2:256<jQ ls x\/1024<nK ss x):jD b ls ss x=4:=by unfold jD;rw[aAe om,aAh h2]
theorem Qm{b:List Nd}{x:Nd}(h:gY b.length x=0)(h2:¬(256<jQ ls x\/1024<nK ss x)):jD b ls ss x=if x.kind=4 then jY b x else 0:=by unfold jD;rw[aAe om,aAe h2]
theorem Cc(ns:List Nd)(h:Vg ns):aT prog [] 19 [.agg [.il 12 (bJ ns)]] (.int .i64 (gL ns)):=by
 have hlen:(bJ ns).length=ns.length:=dL ns;refine aD bE func19 rfl ?_;refine Rr ?_;rw[hlen];refine aI (λhb=>?_) (λhb=>?_)
 .have h1:4096<ns.length:=by simp at hb;omega
  have:gL ns=4:=by unfold gL;rw[aAh h1]
  rw[this];refine Rr ?_;exact aA nn ⟨rfl,rfl,rfl⟩
 .have h1:ns.length<=4096:=by simp at hb;omega
  have:gL ns=dB [] ns:=by unfold gL;rw[aAe om]
  rw[this];generalize hres:dB [] ns=res;have hN:=Sg ns h1;refine Rr ?_;rw[hlen];refine Rr ?_;repeat((first|refine aN (bV rfl (bV rfl (bV rfl (bV (aAn om) (bV (aAn om) (bV (sZ rfl om om) (aAn om))))))) ?_|refine bQ ?_);refine Rr ?_)
  refine aH.useN bE [] hN rfl (.same (.cons (.agg' (.cons (.il' (aR _)) .nil)) .nil)) trivial rfl ?_;rintro r m k ⟨rfl,rfl,rfl⟩;refine⟨[(0,16),(1,17),(2,18),(3,19)],.ptr 16 0 0,[(16,.row 195 4 [.agg [.il 12 (bJ ns),.sl 17 0 ns.length,.sl 18 0 ns.length,.sl 19 0 ns.length]]),(17,.row 4 1 (kB (List.replicate ns.length false))),(18,.row 53 1 (lB (aO ns) (List.replicate ns.length false))),(19,.row 4 1 (mB (aO ns) (List.replicate ns.length false)))],20,
   .ptr 0 16 0 0 rfl,⟨⟨0,_,rfl,rfl,Iz rfl rfl rfl⟩,aL 1 (BI _),aL 2 (DU _ _),aL 3 (CD _ _),trivial⟩,rfl, ?_⟩
  refine Rt ?_;have e:((ns.length:Nat):Int).toNat=ns.length:=sq
  rw[hlen,e];refine bA.at bE (λp:Nat × List Bool=>p.1<=ns.length/\p.2.length=ns.length/\dB [] (ns.take p.1)=0)
   (λp=>⟨[(1,.ptr 7 0 0),(3,.ptr 0 0 0),(28,.int .i64 ns.length),(29,.int .i64 p.1)],I6 ns (Hr (cY (ns.take p.1)) ns.length) (Hr (dH (ns.take p.1)) ns.length) p.2 [(7,.row 25 1 [.agg [.il 12 (bJ ns)]])],8,64⟩)
   (λp=>ns.length-p.1) (0,List.replicate ns.length false) [(14,0),(6,1),(10,2),(16,3),(17,4),(18,5),(19,6),(0,7)] ⟨sq,sq,rfl⟩
   (aE _ rfl ⟨⟨14,_,rfl,rfl,Xu rfl rfl rfl⟩,⟨6,_,rfl,rfl,.eq (bH _) (by simp[Hr,cY,bL])⟩,⟨10,_,rfl,rfl,.eq (bH _) (by simp[Hr,dH,bL])⟩,⟨16,_,rfl,rfl,Iz rfl rfl rfl⟩,aL 17 (BI _),aL 18 (DU _ _),aL 19 (CD _ _),aL 0 (.cons (.agg' (.cons (.il' (aR _)) .nil)) .nil),trivial⟩
    ⟨aF,aF,aJ,aJ,trivial⟩) ?_
  rintro⟨i,kn⟩ ⟨hi,hk,hv⟩;simp only at hi hk hv |-;refine Rr ?_;refine aI (λhb2=>?_) (λhb2=>?_)
  .have hil:i<ns.length:=su hb2
   obtain⟨x,hx⟩:∃x,ns[i]? = some x:=⟨ns[i],aAa hil⟩
   have hxe:=(aAg.1 hx).2;have hxm:=aAm hx;have ex:(bJ ns)[((i:Nat):Int).toNat]? = some (cW x):=by simp[jW,hx]
   have hxn:=bB x;have hti:(ns.take i).length=i:=by rw[aAR];omega
   have hll:(cY (ns.take i)).length=i:=by rw[nH,hti]
   have hsl:(dH (ns.take i)).length=i:=by rw[oA,hti]
   have hsplit:ns=ns.take i++x::ns.drop (i+1):=by rw[<-hxe];simp
   have hstop:∀e:Int,jD (ns.take i) (cY (ns.take i)) (dH (ns.take i)) x=e->e≠0->e=res:=λe h1 h2=>by
    rw[<-hres,hsplit,DT hv (by rw[h1];exact h2),h1]
   have hnext:ns.take (i+1)=ns.take i++[x]:=by rw[aAl hil,hxe]
   have hgo:jD (ns.take i) (cY (ns.take i)) (dH (ns.take i)) x=0->dB [] (ns.take (i+1))=0:=λh1=>by
    rw[hnext,iH [] _ _ hv];exact h1
   have hC:=V7 x (h.ok x hxm);have hSh:=TG ns i x om hx (h.ok x hxm) (h.vlen x hxm);have hPa:=Wq x (h.ok x hxm) (h.val x hxm) (h.vals x hxm);have hRa:=Vx x (h.ok x hxm);refine Rr ?_;repeat(refine aB ex ?_;refine Rr ?_)
   refine hC.go ?_ (.cons (.ip' hxn) .nil);cases hc:vH x with
   | false=>
    refine Rr ?_;refine aA nn ⟨?_,rfl,rfl⟩;rw[hstop 1 (yU (Gw (If hc)) om) om]
   | true=>
    have hSh:=hSh hc;have hcc:jB [] [] [.il 12 (bJ ns),.sl 1 0 ns.length,.sl 2 0 ns.length,.ptr 3 0 0] [.il 12 (bJ ns),.junk,.junk,.junk]:=.cons (.same _ (.il' (aR _))) (.cons (.junk _) (.cons (.junk _) (.cons (.junk _) .nil)));refine Rr ?_;refine hSh.lend bE (.cons (.fzp 0 0 0 122 4 _ _ _ rfl rfl rfl (aAp _) λk c c' h1 h2=>by
     rw[aAF] at h1;exact(jB.cons (.same _ (.il' (aR _))) (.cons (.junk _) (.cons (.junk _) (.cons (.junk _) .nil)))).2 k c c' h1 h2) (.s .nil)) (.bool _) ?_
    clear hcc;cases hf:dT i x with
    | false=>
     refine Rr ?_;refine aA nn ⟨?_,rfl,rfl⟩;rw[hstop 1 (yU (by rw[hti];exact Gw hf) om) om]
    | true=>
     have hk0:x.kind=0->x.values=[]:=λe0=>by
      unfold dT lU at hf;simp only[aAd,aBm,aAC] at hf;rcases hf.1.1.1.1.1.1.1.2 with h'|h'
      .omega
      .exact aBh.1 h'
     have hPa:=hPa hk0;refine Rr ?_;refine hPa.go ?_ (.cons (.ip' hxn) .nil);generalize hfe:fG (r8 x)=fe;refine Rr ?_;refine aI (λhb3=>?_) (λhb3=>?_)
     .have h0:fe≠0:=su hb3
      refine Rr ?_;refine aA nn ⟨?_,rfl,rfl⟩;rw[hstop fe (yU (by rw[hti,Qv hf (by rw[hfe];exact h0),hfe]) h0) h0]
     .have h0:fe=0:=su hb3
      rw[h0] at hfe;refine Rr ?_;refine hRa.go ?_ (.cons (.ip' hxn) .nil);cases hn:Go.Ax.d7 x with
      | false=>
       refine Rr ?_;refine aA nn ⟨?_,rfl,rfl⟩;rw[hstop 5 (yU (by rw[hti];exact QL hf hfe hn) om) om]
      | true=>
       have hz:gY (ns.take i).length x=0:=by rw[hti];exact O4 hf hfe hn
       have hnode:=pB (i:=i) (x:=x) (by rw[<-hti];exact hz);have hlens:=rP _ hv;have hS:=W8 i x hx (h.ok x hxm) (h.val x hxm) (h.klen x hxm) hnode.kids hnode.kind (λe4=>by have:=hnode.bind (by have:=hnode.kind;omega);omega) (Hr (cY (ns.take i)) ns.length) (Hr (dH (ns.take i)) ns.length) kn (FH om) (FH om) (Mj hlens.1) (Mj hlens.2);have hkm:∀k∈x.kids,0<=k/\k<i:=λk hk=>by
        obtain⟨j,hj⟩:=aAU hk;exact hnode.kids j k hj
       rw[Ei (b:=cY (ns.take i)) (λk hk=>Mv (hkm k hk).1 (by rw[hll];exact(hkm k hk).2)) (λe4=>by have:=hnode.bind e4;omega) hnode.kind,
        Lw (b:=dH (ns.take i)) (λk hk=>Mv (hkm k hk).1 (by rw[hsl];exact(hkm k hk).2))] at hS
       refine Rr ?_;refine aH.useI bE [0,1,2,3,4,5,6] hS (by rfl) (.cons (.ptr 0 0 0 0 rfl) (.s .nil)) (pD _ _ _ _) (by rfl) ?_;rintro r m k' ⟨rfl,rfl,rfl⟩;refine⟨nn,pD _ _ _ _,by rfl, ?_⟩;cases hfit:(decide (jQ (cY (ns.take i)) x<=256) && decide (BL (dH (ns.take i)) x<=1024)) with
       | false=>
        have hbig:256<jQ (cY (ns.take i)) x\/1024<nK (dH (ns.take i)) x:=by
         simp only[aBV,aB2] at hfit;rw[NG] at hfit;omega
        refine Rr ?_;refine aA nn ⟨?_,rfl,rfl⟩;rw[hstop 4 (R2 hz hbig) om]
       | true=>
        have hfit':¬(256<jQ (cY (ns.take i)) x\/1024<nK (dH (ns.take i)) x):=by
         simp only[aAd,aAC] at hfit;rw[NG] at hfit;omega
        have hstep:=Qm hz hfit';have hso:jH ns i:=⟨hi,h1,h.ok,hv⟩
        have hkid:x.kind=4->∃k:Nat,x.kids[0]? = some (k:Int)/\k<i:=λe4=>by
         have hl:=hnode.bind e4;obtain⟨k0,k1⟩:=hnode.kids 0 x.kids[0] (aAa om);obtain⟨k,hk⟩:=aAu k0;exact⟨k,by rw[aAa om,hk],om⟩
        have hb:x.kind=4->jY (ns.take i) x=(if (Go.Ax.d8 (aO ns) (x.kids.getD 0 0)).many=true then 4 else if dK (Go.Ax.d8 (aO ns) (x.kids.getD 0 0)).vals x.values=true then 0 else 1):=λe4=>by
         obtain⟨k,hk,hki⟩:=hkid e4;have eg:x.kids.getD 0 0=(k:Int):=by rw[aAb,hk];rfl
         unfold jY;rw[eg,aCk,aBN (by simp;omega),mD om (by simp;omega) (by simp;omega)]
        have hT:=W2 hso x (h.vlen x hxm) hkid ((Hr (cY (ns.take i)) ns.length).set i (jQ (cY (ns.take i)) x)) ((Hr (dH (ns.take i)) ns.length).set i (BL (dH (ns.take i)) x)) kn hk;have hstep:jD (ns.take i) (cY (ns.take i)) (dH (ns.take i)) x=(if x.kind=4 then(if (Go.Ax.d8 (aO ns) (x.kids.getD 0 0)).many=true then 4 else if dK (Go.Ax.d8 (aO ns) (x.kids.getD 0 0)).vals x.values=true then 0 else 1) else 0):=by
         rw[hstep];by_cases e4:x.kind=4
         .rw[aAh e4,aAh e4,hb e4]
         .rw[aAe e4,aAe e4]
        rw[<-hstep] at hT;refine Rr ?_;refine aH.useI bE [0,1,2,3,4,5,6] hT (by rfl) (.cons (.ptr 0 0 0 0 rfl) (.cons (.same _ (.ip' hxn)) .nil)) (pD _ _ _ _) (by rfl) ?_;rintro r m k' ⟨kn',hk',rfl,rfl,rfl⟩;refine⟨nn,pD _ _ _ _,by rfl, ?_⟩;generalize hse:jD (ns.take i) (cY (ns.take i)) (dH (ns.take i)) x=se;refine Rr ?_;refine aI (λhb4=>?_) (λhb4=>?_)
        .have h0:se≠0:=su hb4
         refine Rr ?_;refine aA nn ⟨?_,rfl,rfl⟩;rw[hstop se hse h0]
        .have h0:se=0:=su hb4
         rw[h0] at hse;have hP:=Ua (λy hy=>h.ok y (aAI hy)) hv hse;have e1:(Hr (cY (ns.take i)) ns.length).set i (jQ (cY (ns.take i)) x)=Hr (cY (ns.take (i+1))) ns.length:=by
          rw[hnext,oX]
          conv=>lhs;rw[<-hll]
          rw[hll];have:=Nk (l:=cY (ns.take i)) (n:=ns.length) (jQ (cY (ns.take i)) x) om;rw[hll] at this;exact this
         have e2:(Hr (dH (ns.take i)) ns.length).set i (BL (dH (ns.take i)) x)=Hr (dH (ns.take (i+1))) ns.length:=by
          rw[hP,hnext,oW];have:=Nk (l:=dH (ns.take i)) (n:=ns.length) (nK (dH (ns.take i)) x) om;rw[hsl] at this;exact this
         rw[e1,e2];refine Rr ?_;exact .mk (i+1,kn') (tN [0,1,2,3,4,5,6,7]) ⟨by simp only;omega,hk',hgo hse⟩
          (aE _ rfl (lH rfl rfl rfl rfl rfl rfl rfl rfl rfl rfl rfl rfl rfl rfl rfl rfl ⟨aL 7 (.cons (.agg' (.cons (.il' (aR _)) .nil)) .nil),trivial⟩) ⟨aF,aF,aJ,⟨_,rfl,.wp⟩,trivial⟩) (by simp only;omega)
  .have hil:i=ns.length:=by simp at hb2;omega
   rw[hil,aAD,hres] at hv;subst hv;refine Rr ?_;exact aA nn ⟨rfl,rfl,rfl⟩
end Go.Proofs.YtidjhgajglebnaaGreatDoor
namespace Go.Ax
open Go
structure Cell where
 n:Nat
 p:Fr
def zC:Cell:=⟨0,zF⟩
def GO(m:Bool)(c d:Cell):Cell:=⟨c.n+d.n,if m=true then(ZS c.p d.p).1 else c.p⟩
def dY(m:Bool):List Cell->List Cell->List Cell
 | [],[]=>[]
 | a::l,[]=>a::dY m l []
 | [],b::k=>GO m zC b::dY m [] k
 | a::l,b::k=>GO m a b::dY m l k
theorem CA(m:Bool):∀l:List Cell,dY m l []=l
 | []=>by simp[dY]
 | a::l=>by rw[dY,CA m l]
theorem pR(m:Bool):∀l k:List Cell,(dY m l k).length=max l.length k.length
 | [],[]=>by simp[dY]
 | a::l,[]=>by rw[CA];simp
 | [],b::k=>by rw[dY,aAH,pR m [] k];simp
 | a::l,b::k=>by rw[dY,aAH,pR m l k];simp
theorem A3(m:Bool):∀(l k:List Cell) (i:Nat),i<max l.length k.length->(dY m l k)[i]? = some (if i<k.length then GO m (l.getD i zC) (k.getD i zC) else l.getD i zC)
 | [],[],i,h=>by simp at h
 | a::l,[],i,h=>by
  rw[CA,aAe sq];simp at h;rw[aAb,aAa (su h)];rfl
 | [],b::k,0,h=>by simp[dY]
 | [],b::k,i+1,h=>by
  rw[dY,List.getElem?_cons_succ,A3 m [] k i (by simp at h |-;omega)];simp
 | a::l,b::k,0,h=>by simp[dY]
 | a::l,b::k,i+1,h=>by
  rw[dY,List.getElem?_cons_succ,A3 m l k i (by simp at h |-;omega)];simp
theorem PL(m:Bool)(l k:List Cell){i:Nat}(h:i<max l.length k.length):(dY m l k).take (i+1)=(dY m l k).take i++[if i<k.length then GO m (l.getD i zC) (k.getD i zC) else l.getD i zC]:=by
 have hl:i<(dY m l k).length:=by rw[pR];exact h
 have:=A3 m l k i h;rw[aAa hl] at this;rw[aAl hl,Option.some.inj this]
def uF(m:Bool)(c d:Cell):Cell:=⟨c.n*d.n,if m=true then(ZI c.p d.p).1 else zF⟩
def sG(m:Bool)(i:Nat)(c:Cell)(b:List Cell):List Cell:=List.replicate i zC++(if 0<c.n then b.map (uF m c) else [])
def f6(m:Bool)(a b:List Cell):List Cell:=a.zipIdx.foldl (λout ci=>dY m out (sG m ci.2 ci.1 b)) []
def iP(n p q:Int):List Cell:=[zC,⟨n.toNat,NT p q⟩]
def eM:List Cell:=[⟨1,⟨1,1⟩⟩]
def p9(l:List Int):Int:=l.foldl (· + ·) 0
def iV(m:Bool)(x:Nd)(al:Nat->List Cell)(of:Nat->aQ->List Cell):List Cell:=
 if x.kind=1 then iP (x.hi-x.lo+1) 1 1
 else if x.kind=3 then x.kids.foldl (λf k=>f6 m f (al k.toNat)) eM
 else if x.kind=2 then x.kids.zipIdx.foldl (λf kc=>dY m f (f6 m (iP 1 (x.weights.getD kc.2 0) (p9 x.weights)) (al kc.1.toNat))) []
 else if x.kind=4 then(x.values.zip (x.kids.drop 1)).foldl (λf vk=>dY m f (f6 m (of (iN x) vk.1) (al vk.2.toNat))) []
 else eM
def iS(m:Bool)(x:Nd)(of:Nat->aQ->List Cell)(v:aQ):List Cell:=
 if x.kind=0 then(if cJ x.value v=0 then eM else [])
 else if x.kind=1 then(if yE x v=true then iP 1 1 (x.hi-x.lo+1) else [])
 else if x.kind=3 then(if jA x v=true then(x.kids.zip (jN v)).foldl (λf kv=>f6 m f (of kv.1.toNat kv.2)) eM else [])
 else if x.kind=2 then x.kids.zipIdx.foldl (λf kc=>dY m f (f6 m (iP 1 (x.weights.getD kc.2 0) (p9 x.weights)) (of kc.1.toNat v))) []
 else if x.kind=4 then(x.values.zip (x.kids.drop 1)).foldl (λf vk=>dY m f (f6 m (of (iN x) vk.1) (of vk.2.toNat v))) []
 else []
def fQ(m:Bool):Sys (List Cell) (List Cell) where
 sa:=iV m
 sf:=iS m
 s0:=[]
 r0:=[]
 la:=λx al al' of of' h1 h2=>by
  unfold iV;split
  .rfl
  split
  .exact cU _ _ λk hk b=>by rw[h1 k hk]
  split
  .exact cU _ _ λk hk b=>by rw[h1 _ (dS hk)]
  split
  .exact cU _ _ λvk hk b=>by
    obtain⟨m1,m2⟩:=cN hk;unfold iN;rw[h1 _ m1,h2 _ m2]
  .rfl
 lf:=λx of of' v h2=>by
  unfold iS;split
  .rfl
  split
  .rfl
  split
  .split
   .exact cU _ _ λkv hk b=>by rw[h2 _ (aA0 hk).1]
   .rfl
  split
  .exact cU _ _ λk hk b=>by rw[h2 _ (dS hk)]
  split
  .exact cU _ _ λvk hk b=>by
    obtain⟨m1,m2⟩:=cN hk;unfold iN;rw[h2 _ m1,h2 _ m2]
  .rfl
def eD(r:List Cell):Nat:=(r.map Cell.n).sum
theorem kU(c:Cell)(r:List Cell):eD (c::r)=c.n+eD r:=by simp[eD]
theorem oF(m:Bool):∀l k:List Cell,eD (dY m l k)=eD l+eD k
 | [],[]=>by simp[dY,eD]
 | a::l,[]=>by rw[CA];simp[eD]
 | [],b::k=>by rw[dY,kU,kU,oF m [] k];simp[GO,zC,eD]
 | a::l,b::k=>by rw[dY,kU,kU,kU,oF m l k];simp[GO];omega
theorem HM(m:Bool)(i:Nat)(c:Cell)(b:List Cell):eD (sG m i c b)=c.n*eD b:=by
 have e1:∀i,((List.replicate i zC).map Cell.n).sum=0:=λi=>by
  induction i with
  | zero=>rfl
  | succ i ih=>rw[aA6,aAT,aBL,ih];rfl
 unfold sG eD;rw[aBu,aCW,e1,aAF];split
 .induction b with
  | nil=>simp
  | cons d b ih=>simp only[aAT,aBL,ih,Nat.mul_add];rfl
 .rename_i h;rw[show c.n=0 by omega];simp
theorem nD(m:Bool)(a b:List Cell):eD (f6 m a b)=eD a*eD b:=by
 have key:∀(a:List Cell) (n:Nat) (out:List Cell),eD ((a.zipIdx n).foldl (λout ci=>dY m out (sG m ci.2 ci.1 b)) out)=eD out+eD a*eD b:=by
  intro a
  induction a with
  | nil=>intro n out;simp[eD]
  | cons c a ih=>intro n out;rw[aBI,aAy,ih,oF,HM,kU,Nat.add_mul];simp only;omega
 unfold f6;rw[key];simp[eD]
theorem tR{n:Int}(p q:Int):eD (iP n p q)=n.toNat:=by simp[eD,iP,zC]
theorem Ux(m:Bool){A:List Nd}(h:VT A):∀i,i<A.length->eD ((fQ m).all A i)=mJ.all A i/\∀v,bG v=0->eD ((fQ m).of A i v)=mJ.of A i v:=by
 intro i
 induction i using Nat.strongRecOn with
 | ind i ih=>
  intro hi;have hx:=b9 hi;have hk:=λ(k:Int) (hk:k∈(aG A i).kids)=>eH h hx hk
  have ia:=λ(k:Int) (hm:k∈(aG A i).kids)=>(ih k.toNat (hk k hm).2 (by have:=hk k hm;omega)).1
  have io:=λ(k:Int) (hm:k∈(aG A i).kids)=>(ih k.toNat (hk k hm).2 (by have:=hk k hm;omega)).2
  have hvv:=λ(u:aQ) (hu:u∈(aG A i).values)=>h.vals_valid hx hu
  rw[(fQ m).all_eq h hi,mJ.all_eq h hi];refine⟨?_,λv hv=>?_⟩
  .show eD (iV _ _ _ _)=wK _ _ _
   unfold iV wK;generalize aG A i=x at *;split
   .rw[tR]
   split
   .exact oR eD _ _ (g:=λf (k:Int)=>f*mJ.all A k.toNat) λk hm b=>by rw[nD,ia k hm]
   split
   .rw[oR eD _ _ (g:=λf (kc:Int × Nat)=>f+mJ.all A kc.1.toNat) λkc hm b=>by rw[oF,nD,tR,ia _ (dS hm)];simp];exact Bw (f:=λb (k:Int)=>b+mJ.all A k.toNat) _ 0 _
   split
   .exact oR eD _ _ (g:=λf (vk:aQ × Int)=>f+mJ.of A (iN x) vk.1*mJ.all A vk.2.toNat) λvk hm b=>by
     obtain⟨m1,m2⟩:=cN hm;unfold iN;rw[oF,nD,ia _ m1,io _ m2 _ (hvv _ (aA0 hm).1)]
   .rfl
  .rw[(fQ m).of_eq h hi,mJ.of_eq h hi]
   show eD (iS _ _ _ _)=wZ _ _ _
   unfold iS wZ;rw[aAe (show ¬bG v≠0 by omega)];generalize aG A i=x at *;split
   .split<;>rfl
   split
   .split
    .rw[tR];rfl
    .rfl
   split
   .split
    .exact oR eD _ _ (g:=λf (kv:Int × aQ)=>f*mJ.of A kv.1.toNat kv.2) λkv hm b=>by
      obtain⟨m1,m2⟩:=aA0 hm;rw[nD,io _ m1 _ (kA hv _ m2)]
    .rfl
   split
   .rw[oR eD _ _ (g:=λf (kc:Int × Nat)=>f+mJ.of A kc.1.toNat v) λkc hm b=>by rw[oF,nD,tR,io _ (dS hm) v hv];simp];exact Bw (f:=λb (k:Int)=>b+mJ.of A k.toNat v) _ 0 _
   split
   .exact oR eD _ _ (g:=λf (vk:aQ × Int)=>f+mJ.of A (iN x) vk.1*mJ.of A vk.2.toNat v) λvk hm b=>by
     obtain⟨m1,m2⟩:=cN hm;unfold iN;rw[oF,nD,io _ m1 v hv,io _ m2 _ (hvv _ (aA0 hm).1)]
   .rfl
end Go.Ax
