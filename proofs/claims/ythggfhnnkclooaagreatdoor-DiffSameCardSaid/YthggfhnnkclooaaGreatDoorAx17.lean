/- A part of the proof. -/
import Derived.Test.YthggfhnnkclooaaGreatDoorAx16
import Derived.Test.YthggfhnnkclooaaGreatDoorProg
set_option linter.unusedSectionVars false
set_option linter.unusedVariables false
set_option linter.unusedSimpArgs false
set_option maxRecDepth 1000000
set_option maxHeartbeats 16000000
namespace Go.Proofs.YthggfhnnkclooaaGreatDoor
open Go Go.Ax Go.Proofs Tryz
theorem Sv(l m:List bD)(hl:l.length<=4294967296)(hok:∀a∈l,iG a):aX prog [] 122 [.il 4 (aR l),.il 4 (aR m)] (.bool (dC l m)):=by
 refine aG bJ func122 rfl ?_;refine Z ?_;refine aL (λh=>?_) (λh=>?_)
 .refine Z ?_;refine aA nn ⟨?_,rfl,rfl⟩;rw[aB,aB] at h;rw[Dd (by simp at h;omega)]
 have hlen:l.length=m.length:=by rw[aB,aB] at h;simp at h;omega
 refine Z ?_;refine bI.at bJ (λk:Nat=>k<=l.length/\dC l m=dC (l.drop k) (m.drop k))
  (λk=>⟨[(0,.il 4 (aR l)),(1,.il 4 (aR m)),(5,.int .i64 k)],[],0,27⟩) (λk=>l.length-k) 0 [] ⟨sq,sq⟩
  (bX ⟨aF,aF,aF,trivial⟩) ?_
 rintro k ⟨hk,hs⟩;refine Z ?_;refine aL (λh=>?_) (λh=>?_)
 .have hlt:k<l.length:=MX h;obtain⟨p1,p2,p3,p4,pm,pg,pe,ep⟩:=dE (l:=l) (k:=k) hlt;obtain⟨q1,q2,q3,q4,qm,qg,qe,eq⟩:=dE (l:=m) (k:=k) om;have hc:=vF (.mk p1 p2 p3 p4) (.mk q1 q2 q3 q4) (hok _ pm);rw[List.drop_eq_getElem_cons hlt,List.drop_eq_getElem_cons (show k<m.length by omega),pe,qe,dC] at hs;generalize cN (.mk p1 p2 p3 p4) (.mk q1 q2 q3 q4)=c at hc hs;refine Z ?_;repeat((first|refine aC ep ?_|refine aC eq ?_|refine aY ?_);refine Z ?_)
  refine hc.go ?_;refine Z ?_;repeat((first|refine aC ep ?_|refine aC eq ?_|refine aY ?_);refine Z ?_)
  refine aL (λh=>?_) (λh=>?_)
  .refine Z ?_;refine aA nn ⟨?_,rfl,rfl⟩;rw[hs,ZN (su h)];rfl
  .refine Z ?_;refine .mk (k+1) [] ⟨om, ?_⟩ (bX ⟨aF,aF,⟨_,rfl,.w64 om oq⟩,trivial⟩) om;rw[hs,Y7 (su h),aBb]
 .have hge:l.length<=k:=NQ h;refine Z ?_;refine aA nn ⟨?_,rfl,rfl⟩;rw[hs,Z7 om,Z7 om,dC]
theorem WS(x:Nd)(ks:List bD):aX prog [] 218 [cK x,.il 4 (aR ks)] (bY (Go.Ax.d8 x.name ks)):=by
 obtain⟨kind,name,lo,hi,ws,ls,vals,kids,⟨vk,vn,vs,vks⟩⟩:=x;refine aG bJ func218 rfl ?_;refine Z ?_;refine aL (λh=>?_) (λh=>?_)
 .have h:name=[]:=su h
  refine Z ?_;exact cW (r':=bY (.mk 2 0 [] ks)) (.same _ nn) ⟨by rw[Go.Ax.d8,Y4 h],rfl,rfl⟩
 .have h:¬name=[]:=su h
  refine Z ?_;exact cW (r':=bY (.mk 3 0 name ks)) (.same _ nn) ⟨by rw[Go.Ax.d8,Yz h],rfl,rfl⟩
theorem WK(i:Nat)(x:Nd)(hi:i<=4294967296)(hx:sU x)(hvl:x.values.length<=4294967290):aX prog [] 56 [.int .i64 i,cK x] (.int .i64 (gG i x)):=by
 have h1:=NJ i x hi hx;have h2:=PF x hx;have hval:∀a∈p6 x,aX prog [] 119 [bY a] (.int .i64 (gK a)):=by
  intro a ha;have key:iG a/\bN a<=4294967296:=by
   unfold p6 at ha;rcases ZI.1 ha with h|h
   .split at h
    .simp at h;rw[h];exact⟨hx.value,hx.valueS⟩
    .cases h
   .exact hx.valuesI a h
  exact VV a key.1 om
 have hres:gG i x=if dL i x=false then 1 else if fD (p6 x)≠0 then fD (p6 x) else if eD x=false then 5 else 0:=rfl
 generalize gG i x=res at hres;generalize dL i x=fb at h1 hres;generalize eD x=nb at h2 hres;clear hx;obtain⟨kind,name,lo,hi,ws,ls,vals,kids,⟨vk,vn,vs,vks⟩⟩:=x;simp only at hvl;have hown:p6 ⟨kind,name,lo,hi,ws,ls,vals,kids,.mk vk vn vs vks⟩=(if kind=0 then [bD.mk vk vn vs vks] else [])++vals:=rfl;generalize p6 ⟨kind,name,lo,hi,ws,ls,vals,kids,.mk vk vn vs vks⟩=own at hval hres hown;have hol:own.length<=4294967291:=by rw[hown];split<;>simp<;>omega
 refine aG bJ func56 rfl ?_;refine Z ?_;refine h1.go ?_ (.cons (.int _ _) (.cons (bH _) .nil));cases fb with
 | false=>
  refine Z ?_;refine aA nn ⟨?_,rfl,rfl⟩;rw[hres,Y4 rfl]
 | true=>
  refine Z ?_;refine aL (λh=>?_) (λh=>?_)
  case' refine_1=>
   have hk:kind=0:=su h
   rw[Y4 hk] at hown;refine Z ?_;refine aO (cP rfl rfl sq (by simp[aB];omega)) ?_;refine Z ?_;refine bI.at bJ (λk:Nat=>k<=own.length/\fD own=fD (own.drop k))
    (λk=>⟨[(3,.ptr 0 0 0),(6,.sl 1 0 own.length),(7,.int .i64 k)],[(0,.row 59 12 [cK ⟨kind,name,lo,hi,ws,ls,vals,kids,.mk vk vn vs vks⟩]),(1,.row 50 4 (aR own))],2,45⟩) (λk=>own.length-k) 0 [(0,0),(3,1)] ⟨sq,sq⟩
    (aK _ rfl ⟨aI 0 (.cons (bH _) .nil),⟨3,_,rfl,rfl,.eq dN (by rw[hown];rfl)⟩,trivial⟩ ⟨aN,⟨_,rfl,.slE rfl (by rw[hown];simp[aB];omega)⟩,aF,trivial⟩) ?_
  case' refine_2=>
   have hk:¬kind=0:=su h
   rw[Yz hk] at hown;refine Z ?_;refine aO (CN rfl (by simp[aB];omega)) ?_;refine Z ?_;refine bI.at bJ (λk:Nat=>k<=own.length/\fD own=fD (own.drop k))
    (λk=>⟨[(3,.ptr 0 0 0),(6,.sl 1 0 own.length),(7,.int .i64 k)],[(0,.row 59 12 [cK ⟨kind,name,lo,hi,ws,ls,vals,kids,.mk vk vn vs vks⟩]),(1,.row 50 4 (aR own))],2,45⟩) (λk=>own.length-k) 0 [(0,0),(1,1)] ⟨sq,sq⟩
    (aK _ rfl ⟨aI 0 (.cons (bH _) .nil),⟨1,_,rfl,rfl,.eq dN (by rw[hown];rfl)⟩,trivial⟩ ⟨aN,⟨_,rfl,.slE rfl (by rw[hown];simp[aB])⟩,aF,trivial⟩) ?_
  all_goals
   clear h hown hk;rintro k ⟨hk,hf⟩;refine Z ?_;refine aL (λh=>?_) (λh=>?_)
   .have hlt:k<own.length:=su h
    obtain⟨p1,p2,p3,p4,pm,pg,pe,ep,bp⟩:=SP (l:=own) (k:=k) (n:=own.length) hlt rfl;have hv:=hval _ pm;rw[List.drop_eq_getElem_cons hlt,pe,fD] at hf;generalize gK (.mk p1 p2 p3 p4)=e at hv hf;refine Z ?_;repeat((first|refine aO bp ?_|refine aC ep ?_);refine Z ?_)
    refine hv.go ?_;refine Z ?_;refine aL (λh=>?_) (λh=>?_)
    .have h:e≠0:=su h
     refine Z ?_;refine aA nn ⟨?_,rfl,rfl⟩;rw[Y4 h] at hf;rw[hres,Yz sq,hf,Y4 h]
    .have h:¬e≠0:=su h
     rw[Yz h] at hf;refine Z ?_;exact .mk (k+1) [(0,0),(1,1)] ⟨om,hf⟩ (aK _ rfl ⟨aI 0 (.cons (bH _) .nil),aI 1 dN,trivial⟩ ⟨aN,⟨_,rfl,.sl 1 1 0 _ rfl⟩,⟨_,rfl,.w64 om oq⟩,trivial⟩) om
   .have hge:own.length<=k:=su h
    rw[Z7 hge,fD] at hf;refine Z ?_;refine h2.go ?_ (.cons (bH _) .nil);cases nb with
    | false=>
     refine Z ?_;refine aA nn ⟨?_,rfl,rfl⟩;rw[hres,Yz sq,hf,Yz sq,Y4 rfl]
    | true=>
     refine Z ?_;refine aA nn ⟨?_,rfl,rfl⟩;rw[hres,Yz sq,hf,Yz sq,Yz sq]
theorem QT(bs:List Int)(x:Nd)(hx:sU x)(hbl:bs.length<=1000000)(hb:∀y∈bs,0<=y/\y<=1024)(hk:∀(j:Nat) (k:Int),x.kids[j]? = some k->0<=k/\k<bs.length)(h4:4<=x.kind->0<x.kids.length)(hkind:0<=x.kind/\x.kind<=4) :
  aJ prog [] 57 [.sl 0 0 bs.length,cK x] [(0,.row 3 1 (aV bs))] 1 λr m _=>∃(len:Nat) (ys:List AV),r = .sl 1 0 len/\m=[(1,.row 3 1 ys)]/\jU ys/\(len=bs.length+1/\ys=aV (bs++[fN bs x])):=by
 have b1:=hx.kids;have b2:=hx.value;have b3:=hx.valueS;clear hx;have hat:=m9 (b:=bs) (M:=1024) om hb;have hsum:=jJ (b:=bs) (M:=1024) om hb;have hmost:=gR (b:=bs) (M:=1024) om hb;obtain⟨kind,name,lo,hi,ws,ls,vals,kids,⟨vk,vn,vs,vks⟩⟩:=x;simp only at b1 b2 b3 hk h4 hkind;have hfin:∀(v:Int) (m:aQ) (n id:Nat) (e:Int),lk m id=some (.row 3 1 (aV bs++[.int .i64 e]))->1<=id->e=v->v=fN bs ⟨kind,name,lo,hi,ws,ls,vals,kids,.mk vk vn vs vks⟩ ->
   kH 1 (λr m _=>∃(len:Nat) (ys:List AV),r = .sl 1 0 len/\m=[(1,.row 3 1 ys)]/\jU ys/\(len=bs.length+1/\ys=aV (bs++[fN bs ⟨kind,name,lo,hi,ws,ls,vals,kids,.mk vk vn vs vks⟩]))) (.sl id 0 (bs.length+1)) m n:=by
  intro v m n id e hid h1 he hv;refine bM (n':=2) (m':=[(1,.row 3 1 (aV (bs++[v])))]) [(id,1)] ?_ ⟨⟨id,_,by simp[lk],hid,.eq (aT _) (by rw[he];simp[aV])⟩,trivial⟩ (.sl id 1 0 _ (by simp[lk])) ⟨_,_,rfl,rfl,aT _,rfl,by rw[hv]⟩;simp[kV,FD,kG,BG,Af]
 refine aG bJ func57 rfl ?_;refine Z ?_;refine bI.at bJ (λk:Nat=>k<=kids.length)
  (λk=>⟨[(0,.sl 0 0 bs.length),(3,.ptr 1 0 0),(5,.int .i64 (0+fR bs (kids.take k))),(6,.int .i64 (cX bs (if kind=2 then kids.take k else(kids.take k).drop 1))),(7,.int .i64 k)],[(0,.row 3 1 (aV bs)),(1,.row 59 12 [cK ⟨kind,name,lo,hi,ws,ls,vals,kids,.mk vk vn vs vks⟩])],2,74⟩) (λk=>kids.length-k) 0 [(0,0),(1,1)] sq
  (aK _ rfl ⟨aI 0 dN,aI 1 (.cons (bH _) .nil),trivial⟩ ⟨⟨_,rfl,.sl 0 0 0 _ rfl⟩,aN,⟨_,rfl,.int rfl⟩,⟨_,rfl,.int (by split<;>rfl)⟩,aF,trivial⟩) ?_
 intro k hkl;have hs1:=hsum (kids.take k);have hlen:(kids.take k).length=k:=by simp;omega
 rw[hlen] at hs1;refine Z ?_;refine aL (λh=>?_) (λh=>?_)
 .have hlt:k<kids.length:=by rw[aH] at h;simpa using h
  have e1:(aV kids)[(k:Int).toNat]? = some (.int .i64 kids[k]):=by rw[Yy,bK,Yw hlt];rfl
  have hg:kids[k]? = some kids[k]:=Yw hlt;have hst:=wL (b:=bs) hlt;have hmt:=sS (b:=bs) hlt;have hmd:=pV (b:=bs) hlt;generalize kids[k]=q at e1 hg hst hmt hmd;obtain⟨q1,q2⟩:=hk k q hg;have hq:=hat q;obtain⟨qn,rfl⟩:=ZD q1;have hqn:qn<bs.length:=om;have e2:(aV bs)[0+(qn:Int).toNat]? = some (.int .i64 (eJ bs qn)):=by rw[ZP,Yy,bK,Yw hqn];simp[eJ,hqn]
  have bq:Nat.blt (qn:Int).toNat bs.length=true:=Y3 (by simp;omega);generalize eJ bs qn=av at e2 hst hmt hmd hq;refine Z ?_;repeat((first|refine aC e1 ?_|refine aO bq ?_|refine aC e2 ?_);refine Z ?_)
  have hw:IntKind.i64.wrap (0+fR bs (kids.take k)+av)=0+fR bs (kids.take (k+1)):=w64 om oq;refine aL (λh=>?_) (λh=>?_)
  .have h2:kind=2:=su h
   rw[h];refine Z ?_;exact .mk (k+1) [(0,0),(1,1)] om (aK _ rfl ⟨aI 0 dN,aI 1 (.cons (bH _) .nil),trivial⟩ ⟨⟨_,rfl,.sl 0 0 0 _ rfl⟩,aN,⟨_,rfl,.int hw⟩,⟨_,rfl,.int (by rw[Y4 h2,Y4 h2,hmt];simp;omega)⟩,⟨_,rfl,.w64 om oq⟩,trivial⟩) om
  .have h2:¬kind=2:=su h
   rw[h];refine Z ?_;refine aL (λh=>?_) (λh=>?_)
   .have h3:0<k:=by simp at h;omega
    refine Z ?_;exact .mk (k+1) [(0,0),(1,1)] om (aK _ rfl ⟨aI 0 dN,aI 1 (.cons (bH _) .nil),trivial⟩ ⟨⟨_,rfl,.sl 0 0 0 _ rfl⟩,aN,⟨_,rfl,.int hw⟩,⟨_,rfl,.int (by rw[Yz h2,Yz h2,hmd h3];simp;omega)⟩,⟨_,rfl,.w64 om oq⟩,trivial⟩) om
   .have h3:k=0:=by simp at h;omega
    refine Z ?_;exact .mk (k+1) [(0,0),(1,1)] om (aK _ rfl ⟨aI 0 dN,aI 1 (.cons (bH _) .nil),trivial⟩ ⟨⟨_,rfl,.sl 0 0 0 _ rfl⟩,aN,⟨_,rfl,.int hw⟩,⟨_,rfl,.int (by rw[Yz h2,Yz h2,h3];cases kids<;>simp)⟩,⟨_,rfl,.w64 om oq⟩,trivial⟩) om
 .have hke:k=kids.length:=by rw[aH] at h;simp at h;omega
  rw[hke,ZJ] at *;have hm1:=hmost kids;have hm2:=hmost (kids.drop 1);have hs2:=hsum kids;clear hke h;rcases(show kind=0\/kind=1\/kind=2\/kind=3\/kind=4 by omega) with rfl|rfl|rfl|rfl|rfl
  .refine Z ?_;refine aO (cP rfl rfl (by rw[aH]) (by simp;omega)) ?_;refine Z ?_;exact hfin 0 _ _ _ _ rfl (by decide) rfl rfl
  .refine Z ?_;refine aO (cP rfl rfl (by rw[aH]) (by simp;omega)) ?_;refine Z ?_;exact hfin 1 _ _ _ _ rfl (by decide) rfl rfl
  .rw[Y4 rfl] at *;refine Z ?_;refine aO (cP rfl rfl (by rw[aH]) (by simp;omega)) ?_;refine Z ?_;exact hfin (1+cX bs kids) _ _ _ _ rfl (by decide) (w64 rfl oq) rfl
  .refine Z ?_;refine aO (cP rfl rfl (by rw[aH]) (by simp;omega)) ?_;refine Z ?_;exact hfin (fR bs kids) _ _ _ _ rfl (by decide) om rfl
  .rw[Yz om] at *;have hpos:0<kids.length:=h4 om;have e1:(aV kids)[(0:Int).toNat]? = some (.int .i64 (kids.getD 0 0)):=by rw[show (0:Int).toNat=0 from rfl,bK,Yw hpos];simp[hpos]
   obtain⟨q1,q2⟩:=hk 0 (kids.getD 0 0) (by simp[hpos]);have hval:fN bs ⟨4,name,lo,hi,ws,ls,vals,kids,.mk vk vn vs vks⟩=eJ bs (kids.getD 0 0)+cX bs (kids.drop 1):=rfl;generalize kids.getD 0 0=q at e1 q1 q2 hval;have hq:=hat q;obtain⟨qn,rfl⟩:=ZD q1;have hqn:qn<bs.length:=om;have e2:(aV bs)[0+(qn:Int).toNat]? = some (.int .i64 (eJ bs qn)):=by rw[ZP,Yy,bK,Yw hqn];simp[eJ,hqn]
   have bq:Nat.blt (qn:Int).toNat bs.length=true:=Y3 (by simp;omega);generalize eJ bs qn=av at e2 hval hq;refine Z ?_;repeat((first|refine aC e1 ?_|refine aO bq ?_|refine aC e2 ?_);refine Z ?_)
   refine aO (cP rfl rfl (by rw[aH]) (by simp;omega)) ?_;refine Z ?_;exact hfin (av+cX bs (kids.drop 1)) _ _ _ _ rfl (by decide) (w64 rfl oq) hval.symm
theorem VJ(bs:List Int)(x:Nd)(hx:sU x)(hbl:bs.length<=1000000)(hb:∀y∈bs,0<=y/\y<=1024)(hk:∀(j:Nat) (k:Int),x.kids[j]? = some k->0<=k/\k<bs.length)(h4:4<=x.kind->0<x.kids.length)(hkind:0<=x.kind/\x.kind<=4) :
  aJ prog [] 58 [.sl 0 0 bs.length,cK x] [(0,.row 3 1 (aV bs))] 1 λr m _=>∃(len:Nat) (ys:List AV),r = .sl 1 0 len/\m=[(1,.row 3 1 ys)]/\jU ys/\(len=bs.length+1/\ys=aV (bs++[mJ bs x])):=by
 have b1:=hx.kids;have b2:=hx.value;have b3:=hx.valueS;clear hx;have hat:=m9 (b:=bs) (M:=1024) om hb;have hsum:=jJ (b:=bs) (M:=1024) om hb;have hmost:=gR (b:=bs) (M:=1024) om hb;obtain⟨kind,name,lo,hi,ws,ls,vals,kids,⟨vk,vn,vs,vks⟩⟩:=x;simp only at b1 b2 b3 hk h4 hkind;have hfin:∀(v:Int) (m:aQ) (n id:Nat) (e:Int),lk m id=some (.row 3 1 (aV bs++[.int .i64 e]))->1<=id->e=v->v=mJ bs ⟨kind,name,lo,hi,ws,ls,vals,kids,.mk vk vn vs vks⟩ ->
   kH 1 (λr m _=>∃(len:Nat) (ys:List AV),r = .sl 1 0 len/\m=[(1,.row 3 1 ys)]/\jU ys/\(len=bs.length+1/\ys=aV (bs++[mJ bs ⟨kind,name,lo,hi,ws,ls,vals,kids,.mk vk vn vs vks⟩]))) (.sl id 0 (bs.length+1)) m n:=by
  intro v m n id e hid h1 he hv;refine bM (n':=2) (m':=[(1,.row 3 1 (aV (bs++[v])))]) [(id,1)] ?_ ⟨⟨id,_,by simp[lk],hid,.eq (aT _) (by rw[he];simp[aV])⟩,trivial⟩ (.sl id 1 0 _ (by simp[lk])) ⟨_,_,rfl,rfl,aT _,rfl,by rw[hv]⟩;simp[kV,FD,kG,BG,Af]
 refine aG bJ func58 rfl ?_;refine Z ?_;refine bI.at bJ (λk:Nat=>k<=kids.length)
  (λk=>⟨[(0,.sl 0 0 bs.length),(3,.ptr 1 0 0),(5,.int .i64 (1+fR bs (kids.take k))),(6,.int .i64 (cX bs (if kind=2 then kids.take k else(kids.take k).drop 1))),(7,.int .i64 k)],[(0,.row 3 1 (aV bs)),(1,.row 59 12 [cK ⟨kind,name,lo,hi,ws,ls,vals,kids,.mk vk vn vs vks⟩])],2,62⟩) (λk=>kids.length-k) 0 [(0,0),(1,1)] sq
  (aK _ rfl ⟨aI 0 dN,aI 1 (.cons (bH _) .nil),trivial⟩ ⟨⟨_,rfl,.sl 0 0 0 _ rfl⟩,aN,⟨_,rfl,.int rfl⟩,⟨_,rfl,.int (by split<;>rfl)⟩,aF,trivial⟩) ?_
 intro k hkl;have hs1:=hsum (kids.take k);have hlen:(kids.take k).length=k:=by simp;omega
 rw[hlen] at hs1;refine Z ?_;refine aL (λh=>?_) (λh=>?_)
 .have hlt:k<kids.length:=by rw[aH] at h;simpa using h
  have e1:(aV kids)[(k:Int).toNat]? = some (.int .i64 kids[k]):=by rw[Yy,bK,Yw hlt];rfl
  have hg:kids[k]? = some kids[k]:=Yw hlt;have hst:=wL (b:=bs) hlt;have hmt:=sS (b:=bs) hlt;have hmd:=pV (b:=bs) hlt;generalize kids[k]=q at e1 hg hst hmt hmd;obtain⟨q1,q2⟩:=hk k q hg;have hq:=hat q;obtain⟨qn,rfl⟩:=ZD q1;have hqn:qn<bs.length:=om;have e2:(aV bs)[0+(qn:Int).toNat]? = some (.int .i64 (eJ bs qn)):=by rw[ZP,Yy,bK,Yw hqn];simp[eJ,hqn]
  have bq:Nat.blt (qn:Int).toNat bs.length=true:=Y3 (by simp;omega);generalize eJ bs qn=av at e2 hst hmt hmd hq;refine Z ?_;repeat((first|refine aC e1 ?_|refine aO bq ?_|refine aC e2 ?_);refine Z ?_)
  have hw:IntKind.i64.wrap (1+fR bs (kids.take k)+av)=1+fR bs (kids.take (k+1)):=w64 om oq;refine aL (λh=>?_) (λh=>?_)
  .have h2:kind=2:=su h
   rw[h];refine Z ?_;exact .mk (k+1) [(0,0),(1,1)] om (aK _ rfl ⟨aI 0 dN,aI 1 (.cons (bH _) .nil),trivial⟩ ⟨⟨_,rfl,.sl 0 0 0 _ rfl⟩,aN,⟨_,rfl,.int hw⟩,⟨_,rfl,.int (by rw[Y4 h2,Y4 h2,hmt];simp;omega)⟩,⟨_,rfl,.w64 om oq⟩,trivial⟩) om
  .have h2:¬kind=2:=su h
   rw[h];refine Z ?_;refine aL (λh=>?_) (λh=>?_)
   .have h3:0<k:=by simp at h;omega
    refine Z ?_;exact .mk (k+1) [(0,0),(1,1)] om (aK _ rfl ⟨aI 0 dN,aI 1 (.cons (bH _) .nil),trivial⟩ ⟨⟨_,rfl,.sl 0 0 0 _ rfl⟩,aN,⟨_,rfl,.int hw⟩,⟨_,rfl,.int (by rw[Yz h2,Yz h2,hmd h3];simp;omega)⟩,⟨_,rfl,.w64 om oq⟩,trivial⟩) om
   .have h3:k=0:=by simp at h;omega
    refine Z ?_;exact .mk (k+1) [(0,0),(1,1)] om (aK _ rfl ⟨aI 0 dN,aI 1 (.cons (bH _) .nil),trivial⟩ ⟨⟨_,rfl,.sl 0 0 0 _ rfl⟩,aN,⟨_,rfl,.int hw⟩,⟨_,rfl,.int (by rw[Yz h2,Yz h2,h3];cases kids<;>simp)⟩,⟨_,rfl,.w64 om oq⟩,trivial⟩) om
 .have hke:k=kids.length:=by rw[aH] at h;simp at h;omega
  rw[hke,ZJ] at *;have hm1:=hmost kids;have hm2:=hmost (kids.drop 1);have hs2:=hsum kids;clear hke h;rcases(show kind=0\/kind=1\/kind=2\/kind=3\/kind=4 by omega) with rfl|rfl|rfl|rfl|rfl
  .have hz:=QK (.mk vk vn vs vks) om;have hval:mJ bs ⟨0,name,lo,hi,ws,ls,vals,kids,.mk vk vn vs vks⟩=((bN (.mk vk vn vs vks):Nat):Int):=rfl;generalize bN (.mk vk vn vs vks)=sz at hz hval;refine Z ?_;refine hz.go ?_;refine Z ?_;refine aO (cP rfl rfl (by rw[aH]) (by simp;omega)) ?_;refine Z ?_;exact hfin sz _ _ _ _ rfl (by decide) rfl hval.symm
  .refine Z ?_;refine aO (cP rfl rfl (by rw[aH]) (by simp;omega)) ?_;refine Z ?_;exact hfin 1 _ _ _ _ rfl (by decide) rfl rfl
  .rw[Y4 rfl] at *;refine Z ?_;refine aO (cP rfl rfl (by rw[aH]) (by simp;omega)) ?_;refine Z ?_;exact hfin (cX bs kids) _ _ _ _ rfl (by decide) rfl rfl
  .refine Z ?_;refine aO (cP rfl rfl (by rw[aH]) (by simp;omega)) ?_;refine Z ?_;exact hfin (1+fR bs kids) _ _ _ _ rfl (by decide) rfl rfl
  .rw[Yz om] at *;refine Z ?_;refine aO (cP rfl rfl (by rw[aH]) (by simp;omega)) ?_;refine Z ?_;exact hfin (cX bs (kids.drop 1)) _ _ _ _ rfl (by decide) rfl rfl
theorem YB(k:Int)(b:Bool):Sc (.tup [.int .i64 k,.bool b]):=.tup _ λj c h=>by
 rcases j with _|_|j<;>simp at h<;>subst h
 .exact .int _ _
 .exact .bool _
theorem K7(l:List bD)(hl:l.length<=4294967296)(hok:∀a∈l,iG a) :
  aJ prog [] 233 [.il 4 (aR l)] [] 0 λr m n=>r = .sl 0 0 (fC l).length/\m=[(0,.row 50 4 (aR (fC l)))]/\n=1:=by
 have nl:NN (.il 4 (aR l)):=nn;refine aG bJ func233 rfl ?_;refine Z ?_;refine bI.ph 50 4 ?_;refine bI.at bJ (λx:Nat × List bD=>x.1<=l.length/\x.2=fC (l.take x.1))
  (λx=>⟨[(0,.il 4 (aR l)),(3,.sl 0 0 x.2.length),(4,.int .i64 x.1)],[(0,.row 50 4 (aR x.2))],1,41⟩)
  (λx=>l.length-x.1) (0,[]) [(0,0)] ⟨sq,by simp[fC]⟩
  (aK _ rfl ⟨⟨0,_,rfl,rfl,.nil⟩,trivial⟩ ⟨aP nl,⟨_,rfl,.nslk 0 0 _ rfl rfl⟩,aF,trivial⟩) ?_
 rintro⟨k,out⟩ ⟨h1,h2⟩
 dsimp only at h1 h2 |-
 have hout:out.length<=k:=by rw[h2];have:=tL (l.take k);simp at this;omega
 have el:=aB out;have hoko:∀a∈out,iG a:=λa ha=>by rw[h2] at ha;exact hok a (Zg (rR ha))
 refine Z ?_;refine aL (λh=>?_) (λh=>?_)
 .have hk:k<l.length:=MX h;obtain⟨ak,an,az,aks,hmem,hg,hv,e⟩:=dE (l:=l) (k:=k) hk;have hnext:fC (l.take (k+1))=vE out (.mk ak an az aks):=by
   rw[List.take_succ_eq_append_getElem hk,o8,<-h2,hv]
  have hf:=Vj out (.mk ak an az aks) om hoko;have hle:=rQ out (.mk ak an az aks);have hins:vE out (.mk ak an az aks)=if (cE out (.mk ak an az aks)).2 then out else out.take (cE out (.mk ak an az aks)).1 ++ .mk ak an az aks::out.drop (cE out (.mk ak an az aks)).1:=rfl
  generalize cE out (.mk ak an az aks)=f at hf hle hins;generalize vE out (.mk ak an az aks)=nw at hnext hins;obtain⟨p,b⟩:=f
  dsimp only at hle hins hf
  refine Z ?_;refine aC e ?_;refine Z ?_;refine hf.lend bJ (.cons (.fz' rfl rfl (by rw[aB];omega) (by rw[<-aB];simp) (aW out)) (.cons (.same _ (bT (.mk ak an az aks))) .nil)) (YB _ _) ?_;cases b with
  | true=>
   refine Z ?_;rw[Y4 rfl] at hins;exact .mk (k+1,out) [(0,0)] ⟨by simp only;omega,by rw[<-hins];exact hnext.symm⟩ (aK _ rfl ⟨aI 0 dN,trivial⟩ ⟨aP nl,⟨_,rfl,.sl 0 0 0 _ rfl⟩,⟨_,rfl,.w64 sq oq⟩,trivial⟩) (by simp only;omega)
  | false=>
   rw[Yz sq] at hins;refine Z ?_;repeat(first
    | (refine aY ?_;refine Z ?_)
    | (refine aC e ?_;refine Z ?_)
    | (refine aO (Ho (by simp;try omega) (by simp;try omega) (by simp;try omega)) ?_;refine Z ?_)
    | (refine aO (Pj (by simp;try omega)) ?_;refine Z ?_)
    | (refine aO (CN rfl (by simp;try omega)) ?_;refine Z ?_)
    | (refine aO (cP rfl rfl (by simp;try omega) (by simp;try omega)) ?_;refine Z ?_))
   have hrow:List.take ((p:Int).toNat-0) (List.drop (0+0) (aR out))++List.take 1 (List.drop 0 [AV.agg [.int .i64 ak,.int .i64 an,.str az,.il 4 (aR aks)]])++List.take (out.length-(p:Int).toNat) (List.drop (0+(p:Int).toNat) (aR out))=aR nw:=by
    rw[hins];simp[Go.Ax.f9,bY,List.map_take,List.map_drop];exact Y9 sq
   exact .mk (k+1,nw) [(19,0)] ⟨by simp only;omega,hnext.symm⟩ (aK _ rfl ⟨⟨19,_,rfl,rfl,.eq dN hrow⟩,trivial⟩ ⟨aP nl,⟨_,rfl,.slE rfl (by have:=congrArg List.length hrow;rw[ZA,ZA,aB] at this;exact this)⟩,⟨_,rfl,.w64 sq oq⟩,trivial⟩) (by simp only;omega)
 .have hk:k=l.length:=by have:=NQ h;omega
  refine Z ?_;rw[hk,ZJ] at h2;subst h2;exact bM (n':=1) (m':=[(0,.row 50 4 (aR (fC l)))]) [(0,0)] rfl ⟨aI 0 dN,trivial⟩ (.sl 0 0 0 _ rfl) ⟨rfl,rfl,rfl⟩
theorem UG(l:List bD)(hl:l.length<=4294967296)(hok:∀a∈l,iG a):aX prog [] 233 [.il 4 (aR l)] (.il 4 (aR (fC l))):=by
 refine aJ.turn bJ ((K7 l hl hok).mono ?_);rintro r m n ⟨rfl,rfl,rfl⟩;exact cW (.fz' rfl rfl (by rw[aB];omega) (by rw[<-aB];simp) dN) ⟨rfl,rfl,rfl⟩
theorem Nm(x:Nd)(bs:List iF)(h0:x.kind=0):aJ prog [] 185 [cK x,.sl 0 0 bs.length] [(0,.row 203 2 (cC bs))] 1 λr m _=>r=mU (dQ x bs)/\m=[(0,.row 203 2 (cC bs))]:=by
 have nb:NN (.il 2 (cC bs)):=.il' (bR bs);obtain⟨kind,name,lo,hi,ws,ls,vals,kids,⟨vk,vn,vs,vks⟩⟩:=x;simp only at h0;subst h0;refine aG bJ func185 rfl ?_;refine Z ?_;refine bM (r':=mU ⟨[.mk vk vn vs vks],false⟩) (n':=1) (m':=[(0,.row 203 2 (cC bs))]) [(0,0)] rfl ⟨aI 0 (bR bs),trivial⟩ (.agg' (.cons (.fzR rfl rfl (.cons (Ji.same (x:=bY (.mk vk vn vs vks)) nn) .nil) rfl) (.s .nil))) ⟨rfl,rfl⟩
theorem Kj(x:Nd)(bs:List iF)(h1:x.kind=1)(hlo : -4611686018427387904<=x.lo)(hh:x.lo<=x.hi)(hhi:x.hi<=4611686018427387904)(hsp:x.hi<x.lo+1099511627776):aJ prog [] 185 [cK x,.sl 0 0 bs.length] [(0,.row 203 2 (cC bs))] 1 λr m _=>r=mU (dQ x bs)/\m=[(0,.row 203 2 (cC bs))]:=by
 obtain⟨kind,name,lo,hi,ws,ls,vals,kids,⟨vk,vn,vs,vks⟩⟩:=x;simp only at h1 hlo hh hhi hsp;subst h1;have hres:dQ ⟨1,name,lo,hi,ws,ls,vals,kids,.mk vk vn vs vks⟩ bs=if 1024<=hi-lo then⟨[],true⟩ else⟨sR lo (hi+1-lo).toNat,false⟩:=rfl
 generalize dQ ⟨1,name,lo,hi,ws,ls,vals,kids,.mk vk vn vs vks⟩ bs=res at hres;have hw:IntKind.i64.wrap (hi-lo)=hi-lo:=w64 rfl oq;refine aG bJ func185 rfl ?_;refine Z ?_;rw[hw];refine aL (λh=>?_) (λh=>?_)
 .refine Z ?_;exact bM (r':=mU ⟨[],true⟩) (n':=1) (m':=[(0,.row 203 2 (cC bs))]) [(0,0)] rfl ⟨aI 0 (bR bs),trivial⟩ (.agg' (.cons (.nil 4) (.s .nil))) ⟨by rw[hres,Y4 (su h)],rfl⟩
 .have hlt:hi-lo<1024:=su h
  rw[Yz om] at hres;refine Z ?_;refine bI.ph 50 4 ?_;refine bI.at bJ (λk:Nat=>lo+k<=hi+1)
   (λk=>⟨[(2,.ptr 1 0 0),(4,.ptr 2 0 0),(5,.ptr 3 0 0),(6,.int .i64 (lo+k))],[(0,.row 203 2 (cC bs)),(1,.row 59 12 [cK ⟨1,name,lo,hi,ws,ls,vals,kids,.mk vk vn vs vks⟩]),(2,.row 203 2 [.agg [.nsl,.bool false]]),(3,.row 203 2 [.agg [.sl 4 0 (sR lo k).length,.bool false]]),(4,.row 50 4 (aR (sR lo k)))],5,96⟩)
   (λk=>(hi+1-lo).toNat-k) 0 [(0,0),(1,1),(2,2),(3,3),(4,4)] om
   (aK _ rfl ⟨aI 0 (bR bs),aI 1 (.cons (bH _) .nil),aI 2 dN,⟨3,_,rfl,rfl,.cons (.agg (.cons (.nslk 4 4 _ rfl rfl) (.s .nil))) .nil⟩,⟨4,_,rfl,rfl,.nil⟩,trivial⟩ ⟨aN,aN,aN,⟨_,rfl,.int sq⟩,trivial⟩) ?_
  intro k hk;have hlen:=EX lo k;refine Z ?_;refine aL (λh=>?_) (λh=>?_)
  .have hkl:lo+k<=hi:=su h
   refine Z ?_;refine aO (cP rfl rfl (by rw[aB]) (by simp;omega)) ?_;refine Z ?_;exact .mk (k+1) [(0,0),(1,1),(2,2),(3,3),(6,4)] om
    (aK _ rfl ⟨aI 0 (bR bs),aI 1 (.cons (bH _) .nil),aI 2 dN,⟨3,_,rfl,rfl,.cons (.agg (.cons (.slE rfl (by rw[BZ];simp)) (.s .nil))) .nil⟩,⟨6,_,rfl,rfl,by rw[BZ,gY];exact .snoc rfl (.same dN) (xL _ _ _)⟩,trivial⟩ ⟨aN,aN,aN,⟨_,rfl,.w64 om oq⟩,trivial⟩) om
  .have hke:k=(hi+1-lo).toNat:=by simp at h;omega
   refine Z ?_;exact bM (r':=mU ⟨sR lo k,false⟩) (n':=1) (m':=[(0,.row 203 2 (cC bs))]) [(0,0)] rfl ⟨aI 0 (bR bs),trivial⟩ (.agg' (.cons (.fzR rfl rfl (.same dN) (by rw[aB])) (.s .nil))) ⟨by rw[hres,hke],rfl⟩
theorem MT(x:Nd)(bs:List iF)(h2:x.kind=2)(hkl:x.kids.length<=65536)(hk:∀(j:Nat) (k:Int),x.kids[j]? = some k->0<=k/\k<bs.length)(hb:∀b∈bs,b.vals.length<=1024/\∀v∈b.vals,iG v) :
  aJ prog [] 185 [cK x,.sl 0 0 bs.length] [(0,.row 203 2 (cC bs))] 1 λr m _=>r=mU (dQ x bs)/\m=[(0,.row 203 2 (cC bs))]:=by
 have nb:NN (.il 2 (cC bs)):=.il' (bR bs);obtain⟨kind,name,lo,hi,ws,ls,vals,kids,⟨vk,vn,vs,vks⟩⟩:=x;simp only at h2 hkl hk;subst h2;have hres:dQ ⟨2,name,lo,hi,ws,ls,vals,kids,.mk vk vn vs vks⟩ bs=mL bs kids:=rfl;generalize dQ ⟨2,name,lo,hi,ws,ls,vals,kids,.mk vk vn vs vks⟩ bs=res at hres;refine aG bJ func185 rfl ?_;refine Z ?_;refine bI.ph 50 4 ?_;refine bI.at bJ (λa:Nat × (List bD × Bool)=>a.1<=kids.length/\a.2=(kids.take a.1).foldl (bU bs) ([],false))
  (λa=>⟨[(1,.sl 0 0 bs.length),(2,.ptr 1 0 0),(4,.ptr 2 0 0),(5,.ptr 3 0 0),(7,.int .i64 a.1)],[(0,.row 203 2 (cC bs)),(1,.row 59 12 [cK ⟨2,name,lo,hi,ws,ls,vals,kids,.mk vk vn vs vks⟩]),(2,.row 203 2 [.agg [.nsl,.bool false]]),(3,.row 203 2 [.agg [.sl 4 0 a.2.1.length,.bool a.2.2]]),(4,.row 50 4 (aR a.2.1))],5,96⟩)
  (λa=>kids.length-a.1) (0,[],false) [(0,0),(1,1),(2,2),(3,3),(4,4)] ⟨sq,sq⟩
  (aK _ rfl ⟨aI 0 (bR bs),aI 1 (.cons (bH _) .nil),aI 2 dN,⟨3,_,rfl,rfl,.cons (.agg (.cons (.nslk 4 4 _ rfl rfl) (.s .nil))) .nil⟩,⟨4,_,rfl,rfl,.nil⟩,trivial⟩ ⟨⟨_,rfl,.sl 0 0 0 _ rfl⟩,aN,aN,aN,⟨_,rfl,.int rfl⟩,trivial⟩) ?_
 rintro⟨k,a1,am⟩ ⟨hkk,ha⟩;simp only at hkk ha;have hbd:=w8 hb (kids.take k) ([],false) 0 sq sq;rw[<-ha] at hbd;simp only at hbd;have hlk:(kids.take k).length<=65536:=by simp;omega
 have ha1:a1.length<=67108864:=om;refine Z ?_;refine aL (λh=>?_) (λh=>?_)
 .have hlt:k<kids.length:=by rw[aH] at h;simpa using h
  have e1:(aV kids)[(k:Int).toNat]? = some (.int .i64 kids[k]):=by rw[Yy,bK,Yw hlt];rfl
  have hg:kids[k]? = some kids[k]:=Yw hlt;have hstep:=J3 (bU bs) hlt ([],false);rw[<-ha] at hstep;generalize kids[k]=q at e1 hg hstep;obtain⟨q1,q2⟩:=hk k q hg;obtain⟨qn,rfl⟩:=ZD q1;have hqn:qn<bs.length:=om;obtain⟨⟨bv,bm⟩,hbe⟩:∃b,b=bs[qn]:=⟨_,rfl⟩
  have hbm:=hb _ (show (⟨bv,bm⟩:iF)∈bs by rw[hbe];exact ZW hqn);simp only at hbm;have hat:dV bs qn=⟨bv,bm⟩:=by rw[hbe];simp[dV,hqn]
  have bq:Nat.blt (qn:Int).toNat bs.length=true:=Y3 (by simp;omega);have e2:(cC bs)[0+(qn:Int).toNat]? = some (mU ⟨bv,bm⟩):=by rw[ZP,Yy,mZ,Yw hqn,<-hbe];rfl
  have hso:=K7 (a1++bv) (by simp;omega) (λv hv=>by
   rcases ZI.1 hv with h|h
   .exact hbd.2 v h
   .exact hbm.2 v h)
  have hun:bU bs (a1,am) qn=(fC (a1++bv),am || bm || decide (1024<(fC (a1++bv)).length)):=by simp[bU,hat]
  rw[hun] at hstep;generalize fC (a1++bv)=sv at hso hstep;refine Z ?_;refine aC e1 ?_;refine Z ?_;repeat((first|refine aO bq ?_|refine aC e2 ?_);refine Z ?_)
  refine aO (cP rfl rfl (by rw[aB]) (by simp[aB];omega)) ?_;refine Z ?_;refine aJ.pre bJ [(5,5),(0,0),(1,1),(2,2),(3,3)] (mem':=[(5,.row 203 2 [.agg [.il 4 (aR bv),.bool bm]]),(0,.row 203 2 (cC bs)),(1,.row 59 12 [cK ⟨2,name,lo,hi,ws,ls,vals,kids,.mk vk vn vs vks⟩]),(2,.row 203 2 [.agg [.nsl,.bool false]]),(3,.row 203 2 [.agg [.junk,.bool am]])]) rfl
   ⟨aI 5 dN,aI 0 (bR bs),aI 1 (.cons (bH _) .nil),aI 2 dN,⟨3,_,rfl,rfl,.cons (.agg (.cons (.junk _) (.s .nil))) .nil⟩,trivial⟩
   (.cons (.fzR (ys:=aR (a1++bv)) rfl rfl (.eq dN (by simp[Go.Ax.f9])) (by simp[aB])) .nil) ?_
  refine aJ.useNew bJ hso dN dN ?_;cases am<;>cases bm
  all_goals
   refine Z ?_;exact .mk (k+1,sv,_) [(0,0),(1,1),(2,2),(3,3),(7,4)] ⟨by simp only;omega,hstep.symm⟩
    (aK _ rfl ⟨aI 0 (bR bs),aI 1 (.cons (bH _) .nil),aI 2 dN,⟨3,_,rfl,rfl,.cons (.agg (.cons (.sl 7 4 0 _ rfl) (.cons (.bool (by simp[Zp]<;>omega)) .nil))) .nil⟩,aI 7 dN,trivial⟩
     ⟨⟨_,rfl,.sl 0 0 0 _ rfl⟩,aN,aN,aN,⟨_,rfl,.w64 sq ⟨by simp only;omega,by simp only;omega⟩⟩,trivial⟩) (by simp only;omega)
 .have hke:k=kids.length:=by rw[aH] at h;simp at h;omega
  rw[hke,ZJ] at ha;have hu:mL bs kids=if am then⟨[],true⟩ else⟨a1,false⟩:=by
   unfold mL;rw[<-ha]
  cases am with
  | true=>
   refine Z ?_;exact bM (r':=mU ⟨[],true⟩) (n':=1) (m':=[(0,.row 203 2 (cC bs))]) [(0,0)] rfl ⟨aI 0 (bR bs),trivial⟩ (.agg' (.cons (.nil 4) (.s .nil))) ⟨by rw[hres,hu,Y4 rfl],rfl⟩
  | false=>
   refine Z ?_;exact bM (r':=mU ⟨a1,false⟩) (n':=1) (m':=[(0,.row 203 2 (cC bs))]) [(0,0)] rfl ⟨aI 0 (bR bs),trivial⟩ (.agg' (.cons (.fzR rfl rfl (.same dN) (by rw[aB])) (.s .nil))) ⟨by rw[hres,hu,Yz sq],rfl⟩
theorem M3(x:Nd)(bs:List iF)(h2:x.kind=4)(hkl:x.kids.length<=65536)(hk:∀(j:Nat) (k:Int),x.kids[j]? = some k->0<=k/\k<bs.length)(hb:∀b∈bs,b.vals.length<=1024/\∀v∈b.vals,iG v) :
  aJ prog [] 185 [cK x,.sl 0 0 bs.length] [(0,.row 203 2 (cC bs))] 1 λr m _=>r=mU (dQ x bs)/\m=[(0,.row 203 2 (cC bs))]:=by
 have nb:NN (.il 2 (cC bs)):=.il' (bR bs);obtain⟨kind,name,lo,hi,ws,ls,vals,kids,⟨vk,vn,vs,vks⟩⟩:=x;simp only at h2 hkl hk;subst h2;have hres:dQ ⟨4,name,lo,hi,ws,ls,vals,kids,.mk vk vn vs vks⟩ bs=mL bs (kids.drop 1):=rfl;generalize dQ ⟨4,name,lo,hi,ws,ls,vals,kids,.mk vk vn vs vks⟩ bs=res at hres;refine aG bJ func185 rfl ?_;refine Z ?_;refine bI.ph 50 4 ?_;refine bI.at bJ (λa:Nat × (List bD × Bool)=>a.1<=kids.length/\a.2=((kids.take a.1).drop 1).foldl (bU bs) ([],false))
  (λa=>⟨[(1,.sl 0 0 bs.length),(2,.ptr 1 0 0),(4,.ptr 2 0 0),(5,.ptr 3 0 0),(7,.int .i64 a.1)],[(0,.row 203 2 (cC bs)),(1,.row 59 12 [cK ⟨4,name,lo,hi,ws,ls,vals,kids,.mk vk vn vs vks⟩]),(2,.row 203 2 [.agg [.nsl,.bool false]]),(3,.row 203 2 [.agg [.sl 4 0 a.2.1.length,.bool a.2.2]]),(4,.row 50 4 (aR a.2.1))],5,96⟩)
  (λa=>kids.length-a.1) (0,[],false) [(0,0),(1,1),(2,2),(3,3),(4,4)] ⟨sq,sq⟩
  (aK _ rfl ⟨aI 0 (bR bs),aI 1 (.cons (bH _) .nil),aI 2 dN,⟨3,_,rfl,rfl,.cons (.agg (.cons (.nslk 4 4 _ rfl rfl) (.s .nil))) .nil⟩,⟨4,_,rfl,rfl,.nil⟩,trivial⟩ ⟨⟨_,rfl,.sl 0 0 0 _ rfl⟩,aN,aN,aN,⟨_,rfl,.int rfl⟩,trivial⟩) ?_
 rintro⟨k,a1,am⟩ ⟨hkk,ha⟩;simp only at hkk ha;have hbd:=w8 hb ((kids.take k).drop 1) ([],false) 0 sq sq;rw[<-ha] at hbd;simp only at hbd;have hlk:((kids.take k).drop 1).length<=65536:=by simp;omega
 have ha1:a1.length<=67108864:=om;refine Z ?_;refine aL (λh=>?_) (λh=>?_)
 .have hlt:k<kids.length:=by rw[aH] at h;simpa using h
  have e1:(aV kids)[(k:Int).toNat]? = some (.int .i64 kids[k]):=by rw[Yy,bK,Yw hlt];rfl
  have hg:kids[k]? = some kids[k]:=Yw hlt;refine Z ?_;refine aL (λh=>?_) (λh=>?_)
  .have hk0:k=0:=by simp at h;omega
   subst hk0;refine Z ?_;exact .mk (1,a1,am) [(0,0),(1,1),(2,2),(3,3),(4,4)] ⟨by simp only;omega,by rw[ha];cases kids<;>simp⟩
    (aK _ rfl ⟨aI 0 (bR bs),aI 1 (.cons (bH _) .nil),aI 2 dN,⟨3,_,rfl,rfl,.cons (.agg (.cons (.sl 4 4 0 _ rfl) (.s .nil))) .nil⟩,aI 4 dN,trivial⟩ ⟨⟨_,rfl,.sl 0 0 0 _ rfl⟩,aN,aN,aN,⟨_,rfl,.int rfl⟩,trivial⟩) (by simp only;omega)
  have hk0:0<k:=by
   rcases ZC k with h'|h'
   .rw[h'] at h;simp at h
   .exact h'
  have hstep:=KY (bU bs) hlt hk0 ([],false);rw[<-ha] at hstep;generalize kids[k]=q at e1 hg hstep;obtain⟨q1,q2⟩:=hk k q hg;obtain⟨qn,rfl⟩:=ZD q1;have hqn:qn<bs.length:=om;obtain⟨⟨bv,bm⟩,hbe⟩:∃b,b=bs[qn]:=⟨_,rfl⟩
  have hbm:=hb _ (show (⟨bv,bm⟩:iF)∈bs by rw[hbe];exact ZW hqn);simp only at hbm;have hat:dV bs qn=⟨bv,bm⟩:=by rw[hbe];simp[dV,hqn]
  have bq:Nat.blt (qn:Int).toNat bs.length=true:=Y3 (by simp;omega);have e2:(cC bs)[0+(qn:Int).toNat]? = some (mU ⟨bv,bm⟩):=by rw[ZP,Yy,mZ,Yw hqn,<-hbe];rfl
  have hso:=K7 (a1++bv) (by simp;omega) (λv hv=>by
   rcases ZI.1 hv with h|h
   .exact hbd.2 v h
   .exact hbm.2 v h)
  have hun:bU bs (a1,am) qn=(fC (a1++bv),am || bm || decide (1024<(fC (a1++bv)).length)):=by simp[bU,hat]
  rw[hun] at hstep;generalize fC (a1++bv)=sv at hso hstep;refine Z ?_;refine aC e1 ?_;refine Z ?_;repeat((first|refine aO bq ?_|refine aC e2 ?_);refine Z ?_)
  refine aO (cP rfl rfl (by rw[aB]) (by simp[aB];omega)) ?_;refine Z ?_;refine aJ.pre bJ [(5,5),(0,0),(1,1),(2,2),(3,3)] (mem':=[(5,.row 203 2 [.agg [.il 4 (aR bv),.bool bm]]),(0,.row 203 2 (cC bs)),(1,.row 59 12 [cK ⟨4,name,lo,hi,ws,ls,vals,kids,.mk vk vn vs vks⟩]),(2,.row 203 2 [.agg [.nsl,.bool false]]),(3,.row 203 2 [.agg [.junk,.bool am]])]) rfl
   ⟨aI 5 dN,aI 0 (bR bs),aI 1 (.cons (bH _) .nil),aI 2 dN,⟨3,_,rfl,rfl,.cons (.agg (.cons (.junk _) (.s .nil))) .nil⟩,trivial⟩
   (.cons (.fzR (ys:=aR (a1++bv)) rfl rfl (.eq dN (by simp[Go.Ax.f9])) (by simp[aB])) .nil) ?_
  refine aJ.useNew bJ hso dN dN ?_;cases am<;>cases bm
  all_goals
   refine Z ?_;exact .mk (k+1,sv,_) [(0,0),(1,1),(2,2),(3,3),(7,4)] ⟨by simp only;omega,hstep.symm⟩
    (aK _ rfl ⟨aI 0 (bR bs),aI 1 (.cons (bH _) .nil),aI 2 dN,⟨3,_,rfl,rfl,.cons (.agg (.cons (.sl 7 4 0 _ rfl) (.cons (.bool (by simp[Zp]<;>omega)) .nil))) .nil⟩,aI 7 dN,trivial⟩
     ⟨⟨_,rfl,.sl 0 0 0 _ rfl⟩,aN,aN,aN,⟨_,rfl,.w64 sq ⟨by simp only;omega,by simp only;omega⟩⟩,trivial⟩) (by simp only;omega)
 .have hke:k=kids.length:=by rw[aH] at h;simp at h;omega
  rw[hke,ZJ] at ha;have hu:mL bs (kids.drop 1)=if am then⟨[],true⟩ else⟨a1,false⟩:=by
   unfold mL;rw[<-ha]
  cases am with
  | true=>
   refine Z ?_;exact bM (r':=mU ⟨[],true⟩) (n':=1) (m':=[(0,.row 203 2 (cC bs))]) [(0,0)] rfl ⟨aI 0 (bR bs),trivial⟩ (.agg' (.cons (.nil 4) (.s .nil))) ⟨by rw[hres,hu,Y4 rfl],rfl⟩
  | false=>
   refine Z ?_;exact bM (r':=mU ⟨a1,false⟩) (n':=1) (m':=[(0,.row 203 2 (cC bs))]) [(0,0)] rfl ⟨aI 0 (bR bs),trivial⟩ (.agg' (.cons (.fzR rfl rfl (.same dN) (by rw[aB])) (.s .nil))) ⟨by rw[hres,hu,Yz sq],rfl⟩
def oB(l:List (List bD)):List AV:=l.map λr=>.il 4 (aR r)
theorem jS(l:List (List bD)):jU (oB l):=λa ha=>by
 obtain⟨n,_,rfl⟩:=ZL.1 ha;exact nn
theorem sO(l:List bD):∀rows:List (List bD),(gU rows l).length=rows.length*l.length
 | []=>by simp[gU]
 | r::rs=>by
  have:=sO l rs;simp only[gU,aAP,ZA,aAs,Zc,Nat.add_mul,aAa] at this |-;omega
theorem K4(l:List (List bD))(r:List bD):oB (l++[r])=oB l++[.il 4 (aR r)]:=by simp[oB]
theorem Gi(l:List (List bD)):(oB l).length=l.length:=by simp[oB]
theorem Dy{name:List UInt8}(hn:name.length<=4294967296){r:List bD}(hr:r.length<=4294967296)(ho:∀v∈r,iG v):iG (Go.Ax.d8 name r):=by
 unfold Go.Ax.d8;split
 .exact lW oq oq sq hr (tF ho)
 .exact lW oq oq hn hr (tF ho)
theorem YL(x:Nd)(bs:List iF)(hname:x.name.length<=4294967296)(hkl:x.kids.length<=65536)(hk:∀(j:Nat) (k:Int),x.kids[j]? = some k->0<=k/\k<bs.length)(hb:∀b∈bs,b.vals.length<=1024/\∀v∈b.vals,iG v) :
  aJ prog [] 232 [cK x,.sl 0 0 bs.length] [(0,.row 203 2 (cC bs))] 1 λr m _=>r=mU (p7 bs x)/\m=[(0,.row 203 2 (cC bs))]:=by
 obtain⟨kind,name,lo,hi,ws,ls,vals,kids,⟨vk,vn,vs,vks⟩⟩:=x;simp only at hkl hk hname;refine aG bJ func232 rfl ?_;refine Z ?_;refine bI.at bJ (λa:Nat × List (List bD)=>a.1<=kids.length/\a.2.length<=1024/\(∀r∈a.2,r.length<=a.1/\∀v∈r,iG v)/\fM bs kids [[]]=fM bs (kids.drop a.1) a.2)
  (λa=>⟨[(1,.sl 0 0 bs.length),(2,.ptr 1 0 0),(4,.ptr 2 0 0),(5,.sl 3 0 a.2.length),(6,.int .i64 a.1)],[(0,.row 203 2 (cC bs)),(1,.row 59 12 [cK ⟨kind,name,lo,hi,ws,ls,vals,kids,.mk vk vn vs vks⟩]),(2,.row 203 2 [.agg [.nsl,.bool false]]),(3,.row 48 1 (oB a.2))],4,91⟩)
  (λa=>kids.length-a.1) (0,[[]]) [(0,0),(1,1),(2,2),(3,3)] ⟨sq,sq,sq,sq⟩
  (aK _ rfl ⟨aI 0 (bR bs),aI 1 (.cons (bH _) .nil),aI 2 dN,⟨3,_,rfl,rfl,.cons (.one rfl rfl (.nil 4)) .nil⟩,trivial⟩ ⟨⟨_,rfl,.sl 0 0 0 _ rfl⟩,aN,aN,⟨_,rfl,.sl 3 3 0 _ rfl⟩,⟨_,rfl,.int rfl⟩,trivial⟩) ?_
 rintro⟨k,rows⟩ ⟨hkk,hrl,hrr,hro⟩;simp only at hkk hrl hrr hro;have hseq:p7 bs ⟨kind,name,lo,hi,ws,ls,vals,kids,.mk vk vn vs vks⟩=match fM bs kids [[]] with|none=>⟨[],true⟩|some rows=>⟨fC (rows.map (Go.Ax.d8 name)),false⟩:=rfl
 refine Z ?_;refine aL (λh=>?_) (λh=>?_)
 .have hlt:k<kids.length:=by rw[aH] at h;simpa using h
  have e1:(aV kids)[(k:Int).toNat]? = some (.int .i64 kids[k]):=by rw[Yy,bK,Yw hlt];rfl
  have hg:kids[k]? = some kids[k]:=Yw hlt;rw[List.drop_eq_getElem_cons hlt,fM] at hro;generalize kids[k]=q at e1 hg hro;obtain⟨q1,q2⟩:=hk k q hg;obtain⟨qn,rfl⟩:=ZD q1;have hqn:qn<bs.length:=om;obtain⟨⟨bv,bm⟩,hbe⟩:∃b,b=bs[qn]:=⟨_,rfl⟩
  have hbm:=hb _ (show (⟨bv,bm⟩:iF)∈bs by rw[hbe];exact ZW hqn);simp only at hbm;have hat:dV bs qn=⟨bv,bm⟩:=by rw[hbe];simp[dV,hqn]
  rw[hat] at hro;simp only at hro;have bq:Nat.blt (qn:Int).toNat bs.length=true:=Y3 (by simp;omega);have e2:(cC bs)[0+(qn:Int).toNat]? = some (mU ⟨bv,bm⟩):=by rw[ZP,Yy,mZ,Yw hqn,<-hbe];rfl
  refine Z ?_;refine aC e1 ?_;refine Z ?_;repeat((first|refine aO bq ?_|refine aC e2 ?_);refine Z ?_)
  cases bm with
  | true=>
   refine Z ?_;exact bM (r':=mU ⟨[],true⟩) (n':=1) (m':=[(0,.row 203 2 (cC bs))]) [(0,0)] rfl ⟨aI 0 (bR bs),trivial⟩ (.agg' (.cons (.nil 4) (.s .nil))) ⟨by rw[hseq,hro,Y4 (.inl rfl)],rfl⟩
  | false=>
   refine Z ?_;have hmul:IntKind.i64.wrap ((rows.length:Int)*((aR bv).length:Nat))=((rows.length*bv.length:Nat):Int):=by
    have hm:rows.length*bv.length<=1024*1024:=Z5 hrl hbm.1;rw[aB];exact w64 (by push_cast;rfl) oq
   rw[hmul];refine aL (λh=>?_) (λh=>?_)
   .refine Z ?_;exact bM (r':=mU ⟨[],true⟩) (n':=1) (m':=[(0,.row 203 2 (cC bs))]) [(0,0)] rfl ⟨aI 0 (bR bs),trivial⟩ (.agg' (.cons (.nil 4) (.s .nil))) ⟨by rw[hseq,hro,Y4 (.inr (by simp only[gt_iff_lt,ZR] at h;omega))],rfl⟩
   .have hle:rows.length*bv.length<=1024:=by simp only[gt_iff_lt,aAn] at h;omega
    rw[Yz (by simp;omega)] at hro;refine Z ?_;refine bI.ph 48 1 ?_;refine bI.at bJ (λi:Nat=>i<=rows.length)
     (λi=>⟨[(1,.sl 0 0 bs.length),(2,.ptr 1 0 0),(4,.ptr 2 0 0),(5,.sl 3 0 rows.length),(6,.int .i64 k),(7,.ptr 4 0 0),(8,.sl 5 0 (gU (rows.take i) bv).length),(9,.int .i64 i)],[(0,.row 203 2 (cC bs)),(1,.row 59 12 [cK ⟨kind,name,lo,hi,ws,ls,vals,kids,.mk vk vn vs vks⟩]),(2,.row 203 2 [.agg [.nsl,.bool false]]),(3,.row 48 1 (oB rows)),(4,.row 203 2 [mU ⟨bv,false⟩]),(5,.row 48 1 (oB (gU (rows.take i) bv)))],6,91⟩)
     (λi=>rows.length-i) 0 [(0,0),(1,1),(2,2),(3,3),(4,4),(5,5)] sq
     (aK _ rfl ⟨aI 0 (bR bs),aI 1 (.cons (bH _) .nil),aI 2 dN,aI 3 (jS _),aI 4 (.cons (oP _) .nil),⟨5,_,rfl,rfl,.nil⟩,trivial⟩ ⟨⟨_,rfl,.sl 0 0 0 _ rfl⟩,aN,aN,⟨_,rfl,.sl 3 3 0 _ rfl⟩,⟨_,rfl,.int rfl⟩,aN,⟨_,rfl,.nslk 5 5 _ rfl rfl⟩,⟨_,rfl,.int rfl⟩,trivial⟩) ?_
    intro i hi0;refine Z ?_;refine aL (λh=>?_) (λh=>?_)
    .have hir:i<rows.length:=su h
     obtain⟨rw,hrw⟩:∃rw,rw=rows[i]:=⟨_,rfl⟩
     have hrl2:=(hrr rw (by rw[hrw];exact ZW hir)).1;have e3:(oB rows)[0+(i:Int).toNat]? = some (.il 4 (aR rw)):=by rw[ZP,Yy,oB,ZT,Yw hir,hrw];rfl
     have b3:Nat.blt (i:Int).toNat rows.length=true:=Y3 (by simp;omega);refine Z ?_;refine bI.at bJ (λj:Nat=>j<=bv.length)
      (λj=>⟨[(1,.sl 0 0 bs.length),(2,.ptr 1 0 0),(4,.ptr 2 0 0),(5,.sl 3 0 rows.length),(6,.int .i64 k),(7,.ptr 4 0 0),(8,.sl 5 0 (gU (rows.take i) bv++(bv.take j).map λv=>rw++[v]).length),(9,.int .i64 i),(10,.int .i64 j)],[(0,.row 203 2 (cC bs)),(1,.row 59 12 [cK ⟨kind,name,lo,hi,ws,ls,vals,kids,.mk vk vn vs vks⟩]),(2,.row 203 2 [.agg [.nsl,.bool false]]),(3,.row 48 1 (oB rows)),(4,.row 203 2 [mU ⟨bv,false⟩]),(5,.row 48 1 (oB (gU (rows.take i) bv++(bv.take j).map λv=>rw++[v])))],6,91⟩)
      (λj=>bv.length-j) 0 [(0,0),(1,1),(2,2),(3,3),(4,4),(5,5)] sq
      (aK _ rfl ⟨aI 0 (bR bs),aI 1 (.cons (bH _) .nil),aI 2 dN,aI 3 (jS _),aI 4 (.cons (oP _) .nil),⟨5,_,rfl,rfl,.eq (jS _) sq⟩,trivial⟩ ⟨⟨_,rfl,.sl 0 0 0 _ rfl⟩,aN,aN,⟨_,rfl,.sl 3 3 0 _ rfl⟩,⟨_,rfl,.int rfl⟩,aN,⟨_,rfl,.slE rfl sq⟩,⟨_,rfl,.int rfl⟩,⟨_,rfl,.int rfl⟩,trivial⟩) ?_
     intro j hj;have hX:(gU (rows.take i) bv).length<=1048576:=by
      rw[sO];exact Zj (Z5 (show (rows.take i).length<=1024 by simp;omega) hbm.1) om
     refine Z ?_;refine aL (λh=>?_) (λh=>?_)
     .have hjl:j<bv.length:=MX h;obtain⟨p1,p2,p3,p4,pm,pg,pe,ep⟩:=dE (l:=bv) (k:=j) hjl;have hL:gU (rows.take i) bv++((bv.take (j+1)).map λv=>rw++[v])=(gU (rows.take i) bv++(bv.take j).map λv=>rw++[v])++[rw++[.mk p1 p2 p3 p4]]:=by
       rw[List.take_succ_eq_append_getElem hjl,pe];simp
      refine Z ?_;repeat((first|refine aO b3 ?_|refine aC e3 ?_);refine Z ?_)
      refine aO (CN rfl (by rw[aB];omega)) ?_;refine Z ?_;refine aC ep ?_;refine Z ?_;refine aO (cP rfl rfl sq (by simp[aB];omega)) ?_;refine Z ?_;refine aO (cP rfl rfl (by rw[Gi]) (by simp;omega)) ?_;refine Z ?_;exact .mk (j+1) [(0,0),(1,1),(2,2),(3,3),(4,4),(10,5)] om
       (aK _ rfl ⟨aI 0 (bR bs),aI 1 (.cons (bH _) .nil),aI 2 dN,aI 3 (jS _),aI 4 (.cons (oP _) .nil),⟨10,_,rfl,rfl,by rw[hL,K4];exact .snoc rfl (.same (jS _)) (.one rfl rfl (.fzR rfl rfl (.eq dN (by rw[gY];rfl)) (by simp[aB])))⟩,trivial⟩ ⟨⟨_,rfl,.sl 0 0 0 _ rfl⟩,aN,aN,⟨_,rfl,.sl 3 3 0 _ rfl⟩,⟨_,rfl,.int rfl⟩,aN,⟨_,rfl,.slE rfl (by rw[hL];simp only[ZA];rfl)⟩,⟨_,rfl,.int rfl⟩,⟨_,rfl,.w64 om oq⟩,trivial⟩) om
     .have hje:j=bv.length:=by have:bv.length<=j:=NQ h;omega
      refine Z ?_;exact .mk (i+1) [(0,0),(1,1),(2,2),(3,3),(4,4),(5,5)] om
       (aK _ rfl ⟨aI 0 (bR bs),aI 1 (.cons (bH _) .nil),aI 2 dN,aI 3 (jS _),aI 4 (.cons (oP _) .nil),⟨5,_,rfl,rfl,.eq (jS _) (by rw[hje,ZJ,List.take_succ_eq_append_getElem hir,<-hrw];simp[gU])⟩,trivial⟩ ⟨⟨_,rfl,.sl 0 0 0 _ rfl⟩,aN,aN,⟨_,rfl,.sl 3 3 0 _ rfl⟩,⟨_,rfl,.int rfl⟩,aN,⟨_,rfl,.slE rfl (by rw[hje,ZJ,List.take_succ_eq_append_getElem hir,<-hrw];simp[gU])⟩,⟨_,rfl,.w64 om oq⟩,trivial⟩) om
    .have hie:i=rows.length:=by simp at h;omega
     have hmem:∀r∈gU rows bv,r.length<=k+1/\∀v∈r,iG v:=by
      intro r hr;simp only[gU,aB8,ZL] at hr;obtain⟨r',hr',v,hv,rfl⟩:=hr;have:=hrr r' hr';refine⟨by simp;omega,λu hu=>?_⟩;rcases ZI.1 hu with hu|hu
      .exact this.2 u hu
      .simp at hu;rw[hu];exact hbm.2 v hv
     refine Z ?_;exact .mk (k+1,gU rows bv) [(0,0),(1,1),(2,2),(5,3)] ⟨by simp only;omega,by rw[sO];exact hle,hmem,hro⟩
      (aK _ rfl ⟨aI 0 (bR bs),aI 1 (.cons (bH _) .nil),aI 2 dN,⟨5,_,rfl,rfl,.eq (jS _) (by rw[hie,ZJ])⟩,trivial⟩ ⟨⟨_,rfl,.sl 0 0 0 _ rfl⟩,aN,aN,⟨_,rfl,.slE rfl (by rw[hie,ZJ])⟩,⟨_,rfl,.w64 sq ⟨by simp only;omega,by simp only;omega⟩⟩,trivial⟩) (by simp only;omega)
 .have hke:k=kids.length:=by rw[aH] at h;simp at h;omega
  rw[hke,Z8,fM] at hro;refine Z ?_;refine bI.ph 50 4 ?_;refine bI.at bJ (λi:Nat=>i<=rows.length)
   (λi=>⟨[(2,.ptr 1 0 0),(4,.ptr 2 0 0),(5,.sl 3 0 rows.length),(12,.sl 4 0 ((rows.take i).map (Go.Ax.d8 name)).length),(13,.int .i64 i)],[(0,.row 203 2 (cC bs)),(1,.row 59 12 [cK ⟨kind,name,lo,hi,ws,ls,vals,kids,.mk vk vn vs vks⟩]),(2,.row 203 2 [.agg [.nsl,.bool false]]),(3,.row 48 1 (oB rows)),(4,.row 50 4 (aR ((rows.take i).map (Go.Ax.d8 name))))],5,91⟩)
   (λi=>rows.length-i) 0 [(0,0),(1,1),(2,2),(3,3),(4,4)] sq
   (aK _ rfl ⟨aI 0 (bR bs),aI 1 (.cons (bH _) .nil),aI 2 dN,aI 3 (jS _),aI 4 .nil,trivial⟩ ⟨aN,aN,⟨_,rfl,.sl 3 3 0 _ rfl⟩,⟨_,rfl,.nslk 4 4 _ rfl rfl⟩,⟨_,rfl,.int rfl⟩,trivial⟩) ?_
  intro i hi0;refine Z ?_;refine aL (λh=>?_) (λh=>?_)
  .have hir:i<rows.length:=su h
   obtain⟨rw,hrw⟩:∃rw,rw=rows[i]:=⟨_,rfl⟩
   have e3:(oB rows)[0+(i:Int).toNat]? = some (.il 4 (aR rw)):=by rw[ZP,Yy,oB,ZT,Yw hir,hrw];rfl
   have b3:Nat.blt (i:Int).toNat rows.length=true:=Y3 (by simp;omega);have hM:=WS ⟨kind,name,lo,hi,ws,ls,vals,kids,.mk vk vn vs vks⟩ rw;have hL:(rows.take (i+1)).map (Go.Ax.d8 name)=(rows.take i).map (Go.Ax.d8 name)++[Go.Ax.d8 name rw]:=by rw[List.take_succ_eq_append_getElem hir,<-hrw];simp
   simp only at hM;obtain⟨⟨m1,m2,m3,m4⟩,hmv⟩:∃mv,mv=Go.Ax.d8 name rw:=⟨_,rfl⟩
   rw[<-hmv] at hM hL;refine Z ?_;repeat((first|refine aY ?_|refine aO b3 ?_|refine aC e3 ?_);refine Z ?_)
   refine hM.go ?_ (.cons (bH ⟨kind,name,lo,hi,ws,ls,vals,kids,.mk vk vn vs vks⟩) dN);refine Z ?_;refine aO (cP rfl rfl (by rw[aB]) (by simp;omega)) ?_;refine Z ?_;repeat((first|refine aY ?_|refine aO b3 ?_|refine aC e3 ?_);refine Z ?_)
   exact .mk (i+1) [(0,0),(1,1),(2,2),(3,3),(15,4)] om
    (aK _ rfl ⟨aI 0 (bR bs),aI 1 (.cons (bH _) .nil),aI 2 dN,aI 3 (jS _),⟨15,_,rfl,rfl,.eq dN (by rw[hL,gY];rfl)⟩,trivial⟩ ⟨aN,aN,⟨_,rfl,.sl 3 3 0 _ rfl⟩,⟨_,rfl,.slE rfl (by rw[hL];simp)⟩,⟨_,rfl,.w64 om oq⟩,trivial⟩) om
  .have hie:i=rows.length:=by simp at h;omega
   rw[hie,ZJ];have hmo:∀v∈rows.map (Go.Ax.d8 name),iG v:=by
    intro v hv;obtain⟨r,hr,rfl⟩:=ZL.1 hv;have:=hrr r hr;exact Dy hname om this.2
   have hS:=UG (rows.map (Go.Ax.d8 name)) (by simp;omega) hmo;have hseq2:p7 bs ⟨kind,name,lo,hi,ws,ls,vals,kids,.mk vk vn vs vks⟩=⟨fC (rows.map (Go.Ax.d8 name)),false⟩:=by rw[hseq,hro]
   rw[hseq2];generalize rows.map (Go.Ax.d8 name)=mv at hS |-;generalize fC mv=sv at hS |-;refine Z ?_;refine aJ.pre bJ [(0,0),(1,1),(2,2),(3,3)] (mem':=[(0,.row 203 2 (cC bs)),(1,.row 59 12 [cK ⟨kind,name,lo,hi,ws,ls,vals,kids,.mk vk vn vs vks⟩]),(2,.row 203 2 [.agg [.nsl,.bool false]]),(3,.row 48 1 (oB rows))]) (args':=[.il 4 (aR mv)]) rfl
    ⟨aI 0 (bR bs),aI 1 (.cons (bH _) .nil),aI 2 dN,aI 3 (jS _),trivial⟩ (.cons (.fz' rfl rfl (by rw[aB];omega) (by rw[ZU];exact Y9 (by rw[aB];omega)) dN) .nil) ?_
   refine hS.go ?_;refine Z ?_;exact bM (r':=mU ⟨sv,false⟩) (n':=1) (m':=[(0,.row 203 2 (cC bs))]) [(0,0)] rfl ⟨aI 0 (bR bs),trivial⟩ (.same _ (oP ⟨sv,false⟩)) ⟨rfl,rfl⟩
theorem Oy(x:Nd)(bs:List iF)(h3:x.kind=3)(hname:x.name.length<=4294967296)(hkl:x.kids.length<=65536)(hk:∀(j:Nat) (k:Int),x.kids[j]? = some k->0<=k/\k<bs.length)(hb:∀b∈bs,b.vals.length<=1024/\∀v∈b.vals,iG v) :
  aJ prog [] 185 [cK x,.sl 0 0 bs.length] [(0,.row 203 2 (cC bs))] 1 λr m _=>r=mU (dQ x bs)/\m=[(0,.row 203 2 (cC bs))]:=by
 have hS:=YL x bs hname hkl hk hb;have e:dQ x bs=p7 bs x:=by unfold dQ;rw[Yz om,Yz om,Y4 h3]
 rw[e];generalize p7 bs x=q at hS |-;obtain⟨sv,sm⟩:=q;have hnn:=bH x;obtain⟨kind,name,lo,hi,ws,ls,vals,kids,⟨vk,vn,vs,vks⟩⟩:=x;simp only at h3;subst h3;refine aG bJ func185 rfl ?_;refine Z ?_;refine aJ.use1 bJ hS 0 rfl (bR bs) (.cons (.same _ hnn) (.cons (.sl 0 0 0 _ rfl) .nil)) ?_;rintro r m n ⟨rfl,rfl⟩;refine⟨_,rfl,oP _,bR bs, ?_⟩;refine Z ?_;exact bM (r':=mU ⟨sv,sm⟩) (n':=1) (m':=[(0,.row 203 2 (cC bs))]) [(0,0)] rfl ⟨aI 0 (bR bs),trivial⟩ (.same _ (oP ⟨sv,sm⟩)) ⟨rfl,rfl⟩
theorem Wc(i:Nat)(x:Nd)(bs:List iF)(hx:lL i x)(hl:i=bs.length)(hb:Fs bs) :
  aJ prog [] 185 [cK x,.sl 0 0 bs.length] [(0,.row 203 2 (cC bs))] 1 λr m _=>r=mU (dQ x bs)/\m=[(0,.row 203 2 (cC bs))]:=by
 subst hl;have hk:=hx.kids;have hn:=cQ hx.num;rcases(show x.kind=0\/x.kind=1\/x.kind=2\/x.kind=3\/x.kind=4 by have:=hx.kind;omega) with h|h|h|h|h
 .exact Nm x bs h
 .exact Kj x bs h hn.2.1 hn.1 hn.2.2.1 hn.2.2.2
 .exact MT x bs h hx.klen hk hb
 .exact Oy x bs h hx.ok.name hx.klen hk hb
 .exact M3 x bs h hx.klen hk hb
abbrev tM(ns:List Nd):aQ:=[(0,.row 59 12 (bC ns))]
theorem JB{l:List Nd}{k n:Nat}(h:k<l.length)(hn:l.length=n):∃x,l[k]? = some x/\l[k]=x/\(bC l)[0+(k:Int).toNat]? = some (cK x)/\Nat.blt (k:Int).toNat n=true:=
 ⟨l[k],Yw h,rfl,by simp[i7,Yw h],Y3 (by simp;omega)⟩
theorem UJ(ns:List Nd)(n:Nat)(hn:n<=ns.length)(hl:ns.length<=100000)(hg:∀(i:Nat) (x:Nd),i<n->ns[i]? = some x->lL i x) :
  aJ prog [] 117 [.agg [.sl 0 0 ns.length],.int .i64 n] (tM ns) 1 λr m k=>r = .sl 1 0 n/\m=[(0,.row 59 12 (bC ns)),(1,.row 203 2 (cC (aS (ns.take n))))]/\k=2:=by
 refine aG bJ func117 rfl ?_;refine Z ?_;refine bI.ph 203 2 ?_;refine bI.at bJ (λi:Nat=>i<=n)
  (λi=>⟨[(1,.int .i64 n),(2,.ptr 1 0 0),(5,.sl 2 0 i),(6,.int .i64 i)],[(0,.row 59 12 (bC ns)),(1,.row 25 1 [.agg [.sl 0 0 ns.length]]),(2,.row 203 2 (cC (aS (ns.take i))))],3,23⟩)
  (λi=>n-i) 0 [(0,0),(1,1),(2,2)] sq
  (aK _ rfl ⟨aI 0 (bA _),⟨1,_,rfl,rfl,.cons (.agg (.cons (.sl 0 0 0 _ rfl) .nil)) .nil⟩,aI 2 .nil,trivial⟩ ⟨aF,aN,⟨_,rfl,.nslk 2 2 _ rfl rfl⟩,aF,trivial⟩) ?_
 intro i hi;refine Z ?_;refine aL (λh=>?_) (λh=>?_)
 .have hin:i<n:=by simp at h;omega
  obtain⟨x,hx1,hx2,ex,bx⟩:=JB (l:=ns) (k:=i) (n:=ns.length) om rfl;have hgx:=hg i x hin hx1;have htl:(aS (ns.take i)).length=i:=by rw[Go.Ax.f8];simp;omega
  have hL:=Wc i x (aS (ns.take i)) hgx htl.symm (oA _ λj y hy=>by
   have hj:=(Y0.1 hy).1;rw[Za,Y4 (by simp at hj;omega)] at hy;exact hg j y (by simp at hj;omega) hy)
  have hnx:aS (ns.take (i+1))=aS (ns.take i)++[dQ x (aS (ns.take i))]:=by rw[List.take_succ_eq_append_getElem om,hx2,jI]
  have hxn:=bH x;have hxc:(cK x).cells.length=12:=by obtain⟨kind,name,lo,hi,ws,ls,vals,kids,⟨vk,vn,vs,vks⟩⟩:=x;rfl
  generalize dQ x (aS (ns.take i))=nl at hL hnx;obtain⟨bs,hbs⟩:∃bs,bs=aS (ns.take i):=⟨_,rfl⟩
  rw[<-hbs] at hL hnx htl |-;obtain⟨kind,name,lo,hi,ws,ls,vals,kids,⟨vk,vn,vs,vks⟩⟩:=x;refine Z ?_;repeat((first|refine aO bx ?_|refine aC ex ?_);refine Z ?_)
  refine aJ.use1 bJ hL 2 rfl (bR bs) (.cons (.same _ hxn) (.cons (.slE rfl htl.symm) .nil)) ?_;rintro r m k ⟨rfl,rfl⟩;refine⟨_,rfl,oP _,bR bs, ?_⟩;refine Z ?_;refine aO (cP rfl rfl (by rw[r9,htl]) (by simp;omega)) ?_;refine Z ?_;exact .mk (i+1) [(0,0),(1,1),(4,2)] om
   (aK _ rfl ⟨aI 0 (bA _),⟨1,_,rfl,rfl,.cons (.agg (.cons (.sl 0 0 0 _ rfl) .nil)) .nil⟩,⟨4,_,rfl,rfl,.eq (bR _) (by rw[hnx];simp[cC])⟩,trivial⟩ ⟨aF,aN,⟨_,rfl,.slE rfl sq⟩,⟨_,rfl,.w64 om oq⟩,trivial⟩) om
 .have hin:i=n:=by simp at h;omega
  subst hin;refine Z ?_;exact bM (r':=.sl 1 0 i) (n':=2) (m':=[(0,.row 59 12 (bC ns)),(1,.row 203 2 (cC (aS (ns.take i))))]) [(0,0),(2,1)] rfl ⟨aI 0 (bA _),aI 2 (bR _),trivial⟩ (.sl 2 1 0 _ rfl) ⟨rfl,rfl,rfl⟩
theorem MN{ns:List Nd}{i:Nat}(hi:i<ns.length):(aS (ns.take (i+1)))[i]? = some (dV (aS (ns.take (i+1))) i):=by
 have:i<(aS (ns.take (i+1))).length:=by rw[Go.Ax.f8];simp;omega
 unfold dV;rw[Yx,Yy,Yw this];rfl
theorem Lb(ns:List Nd)(i:Nat)(hi:i<ns.length)(hl:ns.length<=100000)(hg:∀(j:Nat) (x:Nd),j<i+1->ns[j]? = some x->lL j x) :
  aJ prog [] 55 [.agg [.sl 0 0 ns.length],.int .i64 i] (tM ns) 1 λr m _=>r = .tup [.il 4 (aR (dV (aS (ns.take (i+1))) i).vals),.bool (!(dV (aS (ns.take (i+1))) i).many)]/\m=tM ns:=by
 have hL:=UJ ns (i+1) om hl hg;have hw:IntKind.i64.wrap ((i:Int)+1)=((i+1:Nat):Int):=w64 om oq;have hat:=MN hi;have hlen:(aS (ns.take (i+1))).length=i+1:=by rw[Go.Ax.f8];simp;omega
 generalize dV (aS (ns.take (i+1))) i=b at hat |-;generalize aS (ns.take (i+1))=bs at hL hat hlen;obtain⟨bv,bm⟩:=b;have e2:(cC bs)[0+((i:Nat):Int).toNat]? = some (mU ⟨bv,bm⟩):=by rw[ZP,Yy,mZ,hat];rfl
 have b2:Nat.blt ((i:Nat):Int).toNat (i+1)=true:=Y3 sq;refine aG bJ func55 rfl ?_;refine Z ?_;rw[hw];refine aJ.useN bJ [(0,0)] hL rfl (.cons (.agg' (.cons (.sl 0 0 0 _ rfl) .nil)) (.s .nil)) ⟨aI 0 (bA _),trivial⟩ rfl ?_;rintro r m k ⟨rfl,rfl,rfl⟩;refine⟨[(0,0),(1,2)],.sl 2 0 (i+1),[(0,.row 59 12 (bC ns)),(2,.row 203 2 (cC bs))],3,.sl 1 2 0 _ rfl,⟨aI 0 (bA _),aI 1 (bR _),trivial⟩,rfl, ?_⟩;refine Z ?_;repeat((first|refine aY ?_|refine aO b2 ?_|refine aC e2 ?_);refine Z ?_)
 exact bM (r':=.tup [.il 4 (aR bv),.bool (!bm)]) (n':=1) (m':=tM ns) [(0,0)] rfl ⟨aI 0 (bA _),trivial⟩ (.same _ nn) ⟨rfl,rfl⟩
theorem VP(ns:List Nd)(x:Nd)(i:Nat)(hi:i<=ns.length)(hl:ns.length<=100000)(hg:∀(j:Nat) (x:Nd),j<i->ns[j]? = some x->lL j x)(hx:sU x)(hk0:0<x.kids.length)(hk:∀(j:Nat) (k:Int),x.kids[j]? = some k->0<=k/\k<i) :
  aJ prog [] 59 [.agg [.sl 0 0 ns.length],cK x] (tM ns) 1 λr m _=>r = .int .i64 (jC ns x)/\m=tM ns:=by
 obtain⟨q,hq⟩:∃q,x.kids[0]? = some q:=⟨x.kids[0],Yw hk0⟩
 obtain⟨q1,q2⟩:=hk 0 q hq;obtain⟨qn,rfl⟩:=ZD q1;have hgd:x.kids.getD 0 0=qn:=by rw[Yx,hq];rfl
 have hV:=Lb ns qn om hl λj y hj hy=>hg j y om hy
 have hbl:=vN (oA (ns.take (qn+1)) λj y hy=>hg j y (by have:=(lZ hy).2;omega) (lZ hy).1) qn;have hbe:jC ns x=if (dV (aS (ns.take (qn+1))) qn).many=true then 4 else if dC (dV (aS (ns.take (qn+1))) qn).vals x.values=true then 0 else 1:=by
  unfold jC;simp only[hgd,Yy]
 rw[hbe];generalize dV (aS (ns.take (qn+1))) qn=b at hV hbl |-;obtain⟨bv,bm⟩:=b;simp only at hV hbl |-;have hS:=Sv bv x.values om hbl.2;generalize dC bv x.values=sm at hS |-;have ek:(aV x.kids)[(0:Int).toNat]? = some (.int .i64 (qn:Int)):=by rw[bK];simp[hq]
 obtain⟨kind,name,lo,hi',ws,ls,vals,kids,⟨vk,vn,vs,vks⟩⟩:=x;simp only at hS ek;refine aG bJ func59 rfl ?_;refine Z ?_;repeat((first|refine aY ?_|refine aC ek ?_);refine Z ?_)
 refine aJ.use1 bJ hV 0 rfl (bA _) (.cons (.agg' (.cons (.sl 0 0 0 _ rfl) .nil)) (.s .nil)) ?_;rintro r m k ⟨rfl,rfl⟩;refine⟨_,rfl,nn,bA _, ?_⟩;cases bm with
 | true=>
  refine Z ?_;repeat((first|refine aY ?_|refine aC ek ?_);refine Z ?_)
  exact bM (r':=.int .i64 4) (n':=1) (m':=tM ns) [(0,0)] rfl ⟨aI 0 (bA _),trivial⟩ (.same _ nn) ⟨rfl,rfl⟩
 | false=>
  refine Z ?_;repeat((first|refine aY ?_|refine aC ek ?_);refine Z ?_)
  refine hS.go ?_;cases sm with
  | true=>
   refine Z ?_;exact bM (r':=.int .i64 0) (n':=1) (m':=tM ns) [(0,0)] rfl ⟨aI 0 (bA _),trivial⟩ (.same _ nn) ⟨rfl,rfl⟩
  | false=>
   refine Z ?_;exact bM (r':=.int .i64 1) (n':=1) (m':=tM ns) [(0,0)] rfl ⟨aI 0 (bA _),trivial⟩ (.same _ nn) ⟨rfl,rfl⟩
theorem Uf(ns:List Nd)(hl:ns.length<=100000)(ho:∀x∈ns,sU x/\x.values.length<=4294967290) :
  aJ prog [] 22 [.agg [.sl 0 0 ns.length]] (tM ns) 1 λr m _=>r = .int .i64 (cR ns)/\m=tM ns:=by
 have hfin:∀(e:Int) (mem:aQ) (nx:Nat),lk mem 0=some (.row 59 12 (bC ns))->e=cR ns->kH 1 (λr m (_:Nat)=>r = .int .i64 (cR ns)/\m=tM ns) (.int .i64 e) mem nx:=by
  intro e mem nx h0 he;exact bM (r':=.int .i64 e) (n':=1) (m':=tM ns) [(0,0)] rfl ⟨⟨0,_,rfl,h0,.same (bA _)⟩,trivial⟩ (.same _ nn) ⟨by rw[he],rfl⟩
 refine aG bJ func22 rfl ?_;refine Z ?_;refine aL (λh=>?_) (λh=>?_)
 .have h1:4096<ns.length:=by simp at h;omega
  refine Z ?_;exact hfin _ _ _ rfl (by unfold cR;rw[Y4 h1])
 .have h1:¬4096<ns.length:=by simp at h;omega
  have hvt:cR ns=cH [] ns:=by unfold cR;rw[Yz h1]
  refine Z ?_;refine bI.ph 3 1 ?_;refine bI.ph 3 1 ?_;refine bI.at bJ (λi:Nat=>i<=ns.length/\cH [] (ns.take i)=0)
   (λi=>⟨[(1,.ptr 1 0 0),(3,.sl 2 0 i),(4,.sl 3 0 i),(5,.int .i64 i)],[(0,.row 59 12 (bC ns)),(1,.row 25 1 [.agg [.sl 0 0 ns.length]]),(2,.row 3 1 (aV (a8 (ns.take i)))),(3,.row 3 1 (aV (c7 (ns.take i))))],4,57⟩)
   (λi=>ns.length-i) 0 [(0,0),(1,1),(2,2),(3,3)] ⟨sq,by simp[cH]⟩
   (aK _ rfl ⟨aI 0 (bA _),⟨1,_,rfl,rfl,.cons (.agg (.cons (.sl 0 0 0 _ rfl) .nil)) .nil⟩,aI 2 .nil,aI 3 .nil,trivial⟩ ⟨aN,⟨_,rfl,.nslk 2 2 _ rfl rfl⟩,⟨_,rfl,.nslk 3 3 _ rfl rfl⟩,aF,trivial⟩) ?_
  rintro i ⟨hi,hv0⟩;refine Z ?_;refine aL (λh=>?_) (λh=>?_)
  .have hin:i<ns.length:=by simp at h;omega
   obtain⟨x,hx1,hx2,ex,bx⟩:=JB (l:=ns) (k:=i) (n:=ns.length) hin rfl;have hxm:=Y2 hx1;obtain⟨hxo,hxv⟩:=ho x hxm;have hsplit:ns=ns.take i++x::ns.drop (i+1):=by rw[<-hx2,<-List.drop_eq_getElem_cons hin,List.take_append_drop]
   have hti:(ns.take i).length=i:=by simp;omega
   have htn:ns.take (i+1)=ns.take i++[x]:=by rw[List.take_succ_eq_append_getElem hin,hx2]
   have hgood:=mT (ns.take i) (λy hy=>(ho y (Zg hy)).1) hv0;obtain⟨hls,hss⟩:=jH (ns.take i) hv0;have hll:(a8 (ns.take i)).length=i:=by rw[fV,hti]
   have hsl:(c7 (ns.take i)).length=i:=by rw[lX,hti]
   have hstop:=λhs=>Be (l:=ns.take i) (r:=ns.drop (i+1)) (x:=x) hv0 hs
   rw[<-hsplit] at hstop;have hgo:=gQ [] (ns.take i) x hv0;rw[Zi,<-htn] at hgo;have hN:=WK i x om hxo hxv;have hlt:=iT (ns.take i) x;have hst:=nC (ns.take i) x;rw[<-htn] at hlt hst;have hse:iJ (ns.take i) (a8 (ns.take i)) (c7 (ns.take i)) x=if gG i x≠0 then gG i x else if 256<fN (a8 (ns.take i)) x\/1024<mJ (c7 (ns.take i)) x then 4 else if x.kind=4 then jC (ns.take i) x else 0:=by
    unfold iJ;rw[hti]
   have hbnd:(0<x.kids.length/\∀(j:Nat) (k:Int),x.kids[j]? = some k->0<=k/\k<i)->jC (ns.take i) x=jC ns x:=by
    rintro⟨h0,hk⟩;obtain⟨q,hq⟩:∃q,x.kids[0]? = some q:=⟨x.kids[0],Yw h0⟩
    obtain⟨q1,q2⟩:=hk 0 q hq;have hgd:x.kids.getD 0 0=q:=by rw[Yx,hq];rfl
    unfold jC;simp only[hgd];rw[aBe,Z1 om]
   have hxn:=bH x;obtain⟨ne,hne⟩:∃ne,ne=gG i x:=⟨_,rfl⟩
   rw[<-hne] at hN hse;by_cases n0:ne=0
   .subst n0;have hok:=nL hne.symm;have h4:4<=x.kind->0<x.kids.length:=λh=>by have:=hok.bind (by have:=hok.kind;omega);omega
    have hL:=QT (a8 (ns.take i)) x hxo om hls (by rw[hll];exact hok.kids) h4 hok.kind;have hS:=VJ (c7 (ns.take i)) x hxo om hss (by rw[hsl];exact hok.kids) h4 hok.kind;have hB:=VP ns x i om hl (λj y hj hy=>hgood j y (by rw[Za,Y4 hj];exact hy)) hxo;rw[Yz sq] at hse;generalize a8 (ns.take i)=lsI at hL hll hlt hse hstop hgo hls |-;generalize c7 (ns.take i)=ssI at hS hsl hst hse hstop hgo hss |-;generalize fN lsI x=ln at hL hlt hse;generalize mJ ssI x=sn at hS hst hse;obtain⟨kind,name,lo,hi',ws,ls,vals,kids,⟨vk,vn,vs,vks⟩⟩:=x;simp only at hse h4 hB hbnd hok;refine Z ?_;repeat((first|refine aO bx ?_|refine aC ex ?_);refine Z ?_)
    refine hN.go ?_ (.cons (.int _ _) (.cons hxn .nil));refine Z ?_;refine aJ.useApp bJ hL 2 rfl (aT _) (.cons (.slE rfl hll.symm) (.cons (.same _ hxn) .nil)) ?_;rintro len ys ⟨rfl,rfl⟩;refine Z ?_;refine aJ.useApp bJ hS 3 rfl (aT _) (.cons (.slE rfl hsl.symm) (.cons (.same _ hxn) .nil)) ?_;rintro len ys ⟨rfl,rfl⟩;have el:(aV (lsI++[ln]))[0+((i:Nat):Int).toNat]? = some (.int .i64 ln):=by simp[aV,hll]
    have bl:Nat.blt ((i:Nat):Int).toNat (lsI.length+1)=true:=Y3 (by simp;omega);have es:(aV (ssI++[sn]))[0+((i:Nat):Int).toNat]? = some (.int .i64 sn):=by simp[aV,hsl]
    have bs':Nat.blt ((i:Nat):Int).toNat (ssI.length+1)=true:=Y3 (by simp;omega);refine Z ?_;repeat((first|refine aO bl ?_|refine aC el ?_);refine Z ?_)
    refine aL (λh2=>?_) (λh2=>?_)
    .have h3:256<ln:=su h2
     rw[h2];rw[Y4 (.inl h3)] at hse;have hres:=hstop (by rw[hse];omega);refine Z ?_;exact hfin _ _ _ rfl (by rw[hvt,hres,hse])
    .have h3:¬256<ln:=su h2
     rw[h2];refine Z ?_;repeat((first|refine aO bs' ?_|refine aC es ?_);refine Z ?_)
     refine aL (λh4'=>?_) (λh4'=>?_)
     .have h5:1024<sn:=su h4'
      rw[h4'];rw[Y4 (.inr h5)] at hse;have hres:=hstop (by rw[hse];omega);refine Z ?_;exact hfin _ _ _ rfl (by rw[hvt,hres,hse])
     .have h5:¬1024<sn:=su h4'
      rw[h4'];rw[Yz om] at hse;by_cases k4:kind=4
      .rw[Y4 k4] at hse;have h40:=h4 om;have hB:=hB h40 hok.kids;rw[hbnd ⟨h40,hok.kids⟩] at hse;generalize jC ns ⟨kind,name,lo,hi',ws,ls,vals,kids,.mk vk vn vs vks⟩=be at hB hse;subst k4;refine Z ?_;refine aJ.use1 bJ hB 0 rfl (bA _) (.cons (.agg' (.cons (.sl 0 0 0 _ rfl) .nil)) (.cons (.same _ hxn) .nil)) ?_;rintro r m k ⟨rfl,rfl⟩;refine⟨_,rfl,nn,bA _, ?_⟩;by_cases be0:be=0
       .subst be0;rw[hse] at hgo;refine Z ?_;exact .mk (i+1) [(0,0),(1,1),(5,2),(6,3)] ⟨om,hgo⟩
         (aK _ rfl ⟨aI 0 (bA _),⟨1,_,rfl,rfl,.cons (.agg (.cons (.sl 0 0 0 _ rfl) .nil)) .nil⟩,⟨5,_,rfl,rfl,.eq (aT _) (by rw[hlt])⟩,⟨6,_,rfl,rfl,.eq (aT _) (by rw[hst])⟩,trivial⟩ ⟨aN,⟨_,rfl,.slE rfl (by rw[hll])⟩,⟨_,rfl,.slE rfl (by rw[hsl])⟩,⟨_,rfl,.w64 om oq⟩,trivial⟩) om
       .have d5:(be != 0)=true:=su be0
        have hres:=hstop (by rw[hse];exact be0);refine Z ?_;rw[d5];refine Z ?_;exact hfin _ _ _ rfl (by rw[hvt,hres,hse])
      .rw[Yz k4] at hse;have d4:(kind == 4)=false:=su k4
       rw[hse] at hgo;refine Z ?_;rw[d4];refine Z ?_;exact .mk (i+1) [(0,0),(1,1),(5,2),(6,3)] ⟨om,hgo⟩
        (aK _ rfl ⟨aI 0 (bA _),⟨1,_,rfl,rfl,.cons (.agg (.cons (.sl 0 0 0 _ rfl) .nil)) .nil⟩,⟨5,_,rfl,rfl,.eq (aT _) (by rw[hlt])⟩,⟨6,_,rfl,rfl,.eq (aT _) (by rw[hst])⟩,trivial⟩ ⟨aN,⟨_,rfl,.slE rfl (by rw[hll])⟩,⟨_,rfl,.slE rfl (by rw[hsl])⟩,⟨_,rfl,.w64 om oq⟩,trivial⟩) om
   .have d1:(ne != 0)=true:=su n0
    have hse':=hse;rw[Y4 n0] at hse';have hres:=hstop (by rw[hse'];exact n0);rw[hse'] at hres;obtain⟨kind,name,lo,hi',ws,ls,vals,kids,⟨vk,vn,vs,vks⟩⟩:=x;refine Z ?_;repeat((first|refine aO bx ?_|refine aC ex ?_);refine Z ?_)
    refine hN.go ?_ (.cons (.int _ _) (.cons hxn .nil));refine Z ?_;rw[d1];refine Z ?_;exact hfin _ _ _ rfl (by rw[hvt,hres])
  .have hin:i=ns.length:=by simp at h;omega
   subst hin;rw[ZJ] at hv0;refine Z ?_;exact hfin _ _ _ rfl (by rw[hvt,hv0])
def zV:bD:=.mk 0 0 [] []
def JC(v:bD):Nd:=⟨0,[],0,0,[],[],[],[],v⟩
def BY(ns:List Nd)(l:List Int)(i k:Int):Nd:=
 let b:=dV (aS (ns.take ((kidI l i 0).toNat+1))) (kidI l i 0)
 if b.many=true\/6<b.vals.length then JC (xI k) else⟨4,[],0,0,[],[],b.vals,kidI l i 0::(List.range b.vals.length).map λj:Nat=>kidI l i ((j:Int)+1),zV⟩
theorem pP{l:List Int}{i j:Int}(hi:1<=i):0<=kidI l i j/\kidI l i j<i:=by
 unfold kidI;have hp:=lG (l:=l) (i:=3*i+j+2) (most:=1000000) om;split
 .exact⟨aAR _ (aAT hp.1 om),aAz _ om⟩
 .have h0:0<=((mA l (3*i+j+2) 1000000).tdiv 3).tmod 3:=aAR _ (aAT hp.1 om);omega
theorem XM(ns:List Nd)(l:List Int)(k:Int)(hl:∀x∈l,i64 x)(h1:1<=ns.length)(h2:ns.length<=1000)(hk0:0<=k)(hk1:k<=1000000)(hg:∀(j:Nat) (x:Nd),ns[j]? = some x->lL j x) :
    aJ prog [] 21 [.agg [.sl 0 0 ns.length],.il 1 (aV l),.int .i64 ns.length,.int .i64 k] (tM ns) 1 λr m _=>r=cK (BY ns l ns.length k)/\m=tM ns:=by
  have hfin:∀(x:Nd) (r:AV) (mem:aQ) (nx:Nat),lk mem 0=some (.row 59 12 (bC ns))->Cv mem [(0,0)] r (cK x)->x=BY ns l ns.length k->kH 1 (λr m (_:Nat)=>r=cK (BY ns l ns.length k)/\m=tM ns) r mem nx:=by
    intro x r mem nx h0 hr hx;exact bM (r':=cK x) (n':=1) (m':=tM ns) [(0,0)] rfl ⟨⟨0,_,rfl,h0,.same (bA _)⟩,trivial⟩ hr ⟨by rw[hx],rfl⟩
  have hK0:=Nw l ns.length 0 hl om om om om;obtain⟨q1,q2⟩:=pP (l:=l) (i:=(ns.length:Int)) (j:=0) om;obtain⟨q,hq⟩:=ZD q1;have hb:BY ns l ns.length k=if (dV (aS (ns.take (q+1))) q).many=true\/6<(dV (aS (ns.take (q+1))) q).vals.length then JC (xI k) else⟨4,[],0,0,[],[],(dV (aS (ns.take (q+1))) q).vals,(q:Int)::(List.range (dV (aS (ns.take (q+1))) q).vals.length).map λj:Nat=>kidI l ns.length ((j:Int)+1),zV⟩:=by
    unfold BY;simp only[hq,Yy]
  have hV:=Lb ns q om om λj y _ hy=>hg j y hy
  rw[hq] at hK0;simp only[hb] at hfin |-;generalize dV (aS (ns.take (q+1))) q=b at hV hfin |-;obtain⟨bv,bm⟩:=b;simp only at hV hfin |-;have hLf:=Ta k hk0 hk1;obtain⟨⟨f1,f2,f3,f4⟩,hf⟩:∃f,f=xI k:=⟨_,rfl⟩
  rw[<-hf] at hLf hfin |-;have hleaf:∀(mem:aQ) (nx:Nat),lk mem 0=some (.row 59 12 (bC ns))->(bm=true\/6<bv.length)->kH 1 (λr m (_:Nat)=>r=cK (if bm=true\/6<bv.length then JC (.mk f1 f2 f3 f4) else⟨4,[],0,0,[],[],bv,(q:Int)::(List.range bv.length).map λj:Nat=>kidI l ns.length ((j:Int)+1),zV⟩)/\m=tM ns)
      (.agg [.int .i64 0,.str [],.int .i64 0,.int .i64 0,.nsl,.nsl,.nsl,.nsl,.int .i64 f1,.int .i64 f2,.str f3,.il 4 (aR f4)]) mem nx:=by
    intro mem nx h0 hc;refine hfin (JC (.mk f1 f2 f3 f4)) _ mem nx h0 ?_ (by rw[Y4 hc]);exact .agg' (.s (.s (.s (.s (.cons (.nil 1) (.cons (.nil 1) (.cons (.nil 4) (.cons (.nil 1) (.s (.s (.s (.s .nil))))))))))))
  refine aG bJ func21 rfl ?_;refine Z ?_;refine hK0.go ?_;refine Z ?_;refine aJ.use1 bJ hV 0 rfl (bA _) (.cons (.agg' (.cons (.sl 0 0 0 _ rfl) .nil)) (.s .nil)) ?_;rintro r m k' ⟨rfl,rfl⟩;refine⟨_,rfl,nn,bA _, ?_⟩;cases bm with
  | true=>
    refine Z ?_;refine hLf.go ?_;refine Z ?_;exact hleaf _ _ rfl (.inl rfl)
  | false=>
    refine Z ?_;refine aL (λh=>?_) (λh=>?_)
    · have h6:6<bv.length:=by rw[aB] at h;simp at h;omega
      rw[h];refine Z ?_;refine hLf.go ?_;refine Z ?_;exact hleaf _ _ rfl (.inr h6)
    · have h6:¬6<bv.length:=by rw[aB] at h;simp at h;omega
      rw[h];refine Z ?_;refine bI.at bJ (λj:Nat=>j<=bv.length)
        (λj=>⟨[(1,.il 1 (aV l)),(2,.int .i64 ns.length),(8,.ptr 2 0 0),(10,.il 4 (aR bv)),(12,.ptr 3 0 0),(13,.int .i64 j)],
          [(0,.row 59 12 (bC ns)),(2,.row 59 12 [.agg [.int .i64 0,.str [],.int .i64 0,.int .i64 0,.nsl,.nsl,.nsl,.nsl,.int .i64 0,.int .i64 0,.str [],.nsl]]),
           (3,.row 59 12 [.agg [.int .i64 4,.str [],.int .i64 0,.int .i64 0,.nsl,.nsl,.il 4 (aR bv),.sl 4 0 (j+1),.int .i64 0,.int .i64 0,.str [],.nsl]]),(4,.row 3 1 (aV ((q:Int)::(List.range j).map λj:Nat=>kidI l ns.length ((j:Int)+1))))],5,54⟩)
        (λj=>bv.length-j) 0 [(0,0),(2,2),(4,3),(3,4)] sq
        (aK _ rfl ⟨aI 0 (bA _),aI 2 dN,⟨4,_,rfl,rfl,.cons (.agg (.s (.s (.s (.s (.s (.s (.s (.cons (.sl 3 4 0 1 rfl) (.s (.s (.s (.s .nil))))))))))))) .nil⟩,⟨3,_,rfl,rfl,.eq (aT _) rfl⟩,trivial⟩
          ⟨aF,aF,aN,aF,aN,aF,trivial⟩) ?_
      intro j hj;refine Z ?_;refine aL (λh=>?_) (λh=>?_)
      · have hjl:j<bv.length:=MX h
        have hw:IntKind.i64.wrap ((j:Int)+1)=(j:Int)+1:=bS oq;have hKj:=Nw l ns.length ((j:Int)+1) hl om om om om;refine Z ?_;rw[hw];refine hKj.go ?_;refine Rt ?_;refine aO (cP rfl rfl (by rw[aH];simp) (by simp;omega)) ?_;refine Rt ?_;exact .mk (j+1) [(0,0),(2,2),(3,3),(16,4)] om
          (aK _ rfl ⟨aI 0 (bA _),aI 2 dN,⟨3,_,rfl,rfl,.cons (.agg (.s (.s (.s (.s (.s (.s (.s (.cons (.slE rfl sq) (.s (.s (.s (.s .nil))))))))))))) .nil⟩,⟨16,_,rfl,rfl,.eq (aT _) (by rw[aCd];simp[aV])⟩,trivial⟩
            ⟨aF,aF,aN,aF,aN,⟨_,rfl,.w64 om oq⟩,trivial⟩) om
      · have hje:j=bv.length:=by have:=NQ h;omega
        subst hje;refine Z ?_;refine hfin ⟨4,[],0,0,[],[],bv,(q:Int)::(List.range bv.length).map λj:Nat=>kidI l ns.length ((j:Int)+1),zV⟩ _ _ _ rfl ?_ (by rw[Yz (by simp;omega)]);exact .agg' (.s (.s (.s (.s (.cons (.nil 1) (.cons (.nil 1) (.s (.cons (.fz' (id:=4) rfl rfl (by rw[aH];simp) (by rw[ZU];exact Y9 (by rw[aH];simp)) (aT _)) (.s (.s (.s (.cons (.nil 4) .nil))))))))))))
theorem rD{G:Type}{p:G->Prop}{l:List G}{y:G}(h:∀x∈l,p x)(hy:p y):∀x∈l++[y],p x:=λx hx=>by
 rcases ZI.1 hx with hx|hx
 .exact h x hx
 .simp at hx;rw[hx];exact hy
theorem NC{ns:List Nd}(hT:iS ns)(h1:1<=ns.length)(h2:ns.length<=1000){l:List Int}{k:Int}(hk:0<=k):MU (BY ns l ns.length k):=by
 have z0:i64 0:=oq
 unfold BY;simp only;split
 .have:=It k hk;exact oV z0 sq z0 z0 sq sq sq sq sq sq sq sq this.1 om
 .rename_i hc;rw[not_or] at hc;have hb:=λj=>pP (l:=l) (i:=(ns.length:Int)) (j:=j) om
  obtain⟨q0,q1⟩:=hb 0;have hv:cH [] (ns.take ((kidI l ns.length 0).toNat+1))=0:=jO (r:=ns.drop ((kidI l ns.length 0).toNat+1)) (by rw[List.take_append_drop];exact hT.valid);have ho:∀x∈ns.take ((kidI l ns.length 0).toNat+1),sU x:=λx hx=>hT.ok x (Zg hx)
  have hs:=H6 _ ho hv (kidI l ns.length 0) q0 (by simp;omega);have hg:=vN (oA _ (mT _ ho hv)) (kidI l ns.length 0);refine oV oq sq z0 z0 sq sq sq sq om (λv hv=>⟨hg.2 v hv,by have:=hs v hv;omega⟩) (by simp;omega) (λw hw=>?_) (iV z0 z0) (by simp[zV,bN,cY]);rcases Y6.1 hw with rfl|hw
  .exact oq
  .obtain⟨j,_,rfl⟩:=ZL.1 hw;have:=hb ((j:Int)+1);exact oq
theorem eH.joinAt{P:Program}{C:List (Nat × AV)}{B:Nat}{G:Type}{rest:Code}{Q:Exit->St->Prop}{ag:Prop}(hΓ:∀p∈C,NN p.2)(R:G->Prop)(af:G->St)
  (h1:(∀(a:G) (s:St) (J:List (Nat × Nat)),R a->Conv B J s (af a)->eH P C B rest s Q)->ag) (h2:∀a,R a->eH P C B rest (af a) Q):ag:=h1 λa s J hr hc=>eH.conv hΓ hc (h2 a hr)
theorem Vp(l:List Int)(hl:∀x∈l,i64 x) :
  aJ prog [] 5 [.il 1 (aV l)] [] 0 λr m n=>∃ns:List Nd,iS ns/\ns.length<=14/\r = .agg [.sl 0 0 ns.length]/\m=tM ns/\n=1:=by
 have z0:i64 0:=oq
 have hP0:=Hg l 0 15 hl om;obtain⟨n0,n1⟩:=lG (l:=l) (i:=0) (most:=15) om;generalize mA l 0 15=nn0 at hP0 n0 n1;obtain⟨n,rfl⟩:=ZD n0;refine aG bJ func5 rfl ?_;refine Z ?_;refine hP0.go ?_;refine Z ?_;refine bI.ph 59 12 ?_;refine bI.at bJ (λns:List Nd=>iS ns/\ns.length<=n) (λns=>⟨[(0,.il 1 (aV l)),(2,.ptr 0 0 0),(3,.ptr 1 0 0),(4,.int .i64 n),(5,.int .i64 ns.length)],[(0,.row 25 1 [.agg [.nsl]]),(1,.row 25 1 [.agg [.sl 2 0 ns.length]]),(2,.row 59 12 (bC ns))],3,181⟩) (λns=>n-ns.length) [] [(0,0),(1,1),(2,2)] ⟨⟨by simp[cH],sq⟩,sq⟩
  (aK _ rfl ⟨aI 0 dN,⟨1,_,rfl,rfl,.cons (.agg (.cons (.nslk 2 2 _ rfl rfl) .nil)) .nil⟩,aI 2 .nil,trivial⟩ ⟨aF,aN,aN,aF,aF,trivial⟩) ?_
 rintro ns ⟨hT,hns⟩;refine Z ?_;refine aL (λh=>?_) (λh=>?_)
 .have hlt:ns.length<n:=su h
  have hw1:IntKind.i64.wrap (1+(ns.length:Int))=1+(ns.length:Int):=bS oq;have hPk:=Hg l (1+(ns.length:Int)) 1000000 hl om;obtain⟨kk0,kk1⟩:=lG (l:=l) (i:=1+(ns.length:Int)) (most:=1000000) om;generalize mA l (1+(ns.length:Int)) 1000000=kk at hPk kk0 kk1;have m8:=kM kk0 (show (0:Int)<8 by omega);have q8:=CO kk0 (show (0:Int)<8 by omega);have q80:0<=kk.tdiv 8:=aAT kk0 om;have hw8:IntKind.i64.wrap (kk.tdiv 8)=kk.tdiv 8:=bS oq;have m82:=kM q80 (show (0:Int)<2 by omega);refine Z ?_;rw[hw1];refine hPk.go ?_
  refine' eH.joinAt (P:=prog) (B:=0) bJ (λkd:Int=>0<=kd/\kd<=4/\(2<=kd->2<=ns.length)) (λkd=>⟨[(0,.il 1 (aV l)),(2,.ptr 0 0 0),(3,.ptr 1 0 0),(4,.int .i64 n),(5,.int .i64 ns.length),(6,.int .i64 kk),(7,.ptr 3 0 0)],[(0,.row 25 1 [.agg [.nsl]]),(1,.row 25 1 [.agg [.sl 2 0 ns.length]]),(2,.row 59 12 (bC ns)),(3,.row 59 12 [.agg [.int .i64 kd,.str [],.int .i64 0,.int .i64 0,.nsl,.nsl,.nsl,.nsl,.int .i64 0,.int .i64 0,.str [],.nsl]])],4,181⟩) (λhJ=>?_) (λkd hkd=>?_)
  rotate_left 2
  .by_cases hi2:ns.length<2
   .have d2:decide ((ns.length:Int)<2)=true:=by simp;omega
    refine Z ?_;rw[d2];refine Z ?_;rw[hw8];obtain⟨kd,hkd⟩:∃kd,kd=(kk.tdiv 8).tmod 2:=⟨_,rfl⟩
    rw[<-hkd] at m82 |-;have d5:decide (kd>5)=false:=by simp;omega
    refine Z ?_;rw[d5]
    conv=>whnf
    refine eH.many ?_
    conv=>whnf
    exact hJ kd _ [(0,0),(1,1),(2,2),(3,3)] ⟨om,om,om⟩ (aK _ rfl ⟨aI 0 dN,⟨1,_,rfl,rfl,.cons (.agg (.cons (.sl 2 2 0 _ rfl) .nil)) .nil⟩,aI 2 (bA _),aI 3 dN,trivial⟩ ⟨aF,aN,aN,aF,aF,aF,aN,trivial⟩)
   .have d2:decide ((ns.length:Int)<2)=false:=by simp;omega
    refine Z ?_;rw[d2];refine Z ?_;have hkd5:(kk.tmod 8 == 5)=false\/(kk.tmod 8 == 5)=true:=by cases (kk.tmod 8 == 5)<;>simp
    rcases hkd5 with e5|e5
    .have n5:kk.tmod 8≠5:=su e5
     obtain⟨k8,hk8⟩:∃k8,k8=kk.tmod 8:=⟨_,rfl⟩
     rw[<-hk8] at e5 n5 m8 |-;rcases(show k8<5\/5<k8 by omega) with k5|k5
     .have d5:decide (k8>5)=false:=by simp;omega
      rw[e5];refine Z ?_;rw[d5]
      conv=>whnf
      refine eH.many ?_
      conv=>whnf
      exact hJ k8 _ [(0,0),(1,1),(2,2),(3,3)] ⟨om,om,om⟩ (aK _ rfl ⟨aI 0 dN,⟨1,_,rfl,rfl,.cons (.agg (.cons (.sl 2 2 0 _ rfl) .nil)) .nil⟩,aI 2 (bA _),aI 3 dN,trivial⟩ ⟨aF,aN,aN,aF,aF,aF,aN,trivial⟩)
     .have d5:decide (k8>5)=true:=by simp;omega
      have hw4:IntKind.i64.wrap (k8-4)=k8-4:=bS oq;rw[e5];refine Z ?_;rw[d5]
      conv=>whnf
      refine eH.many ?_
      conv=>whnf
      refine jB.many ?_
      conv=>whnf
      rw[hw4];exact hJ (k8-4) _ [(0,0),(1,1),(2,2),(3,3)] ⟨om,om,om⟩ (aK _ rfl ⟨aI 0 dN,⟨1,_,rfl,rfl,.cons (.agg (.cons (.sl 2 2 0 _ rfl) .nil)) .nil⟩,aI 2 (bA _),aI 3 dN,trivial⟩ ⟨aF,aN,aN,aF,aF,aF,aN,trivial⟩)
    .rw[e5];refine Z ?_;rw[hw8];obtain⟨kd,hkd⟩:∃kd,kd=(kk.tdiv 8).tmod 2:=⟨_,rfl⟩
     rw[<-hkd] at m82 |-;have d5:decide (kd>5)=false:=by simp;omega
     refine Z ?_;rw[d5]
     conv=>whnf
     refine eH.many ?_
     conv=>whnf
     exact hJ kd _ [(0,0),(1,1),(2,2),(3,3)] ⟨om,om,om⟩ (aK _ rfl ⟨aI 0 dN,⟨1,_,rfl,rfl,.cons (.agg (.cons (.sl 2 2 0 _ rfl) .nil)) .nil⟩,aI 2 (bA _),aI 3 dN,trivial⟩ ⟨aF,aN,aN,aF,aF,aF,aN,trivial⟩)
  .obtain⟨kd0,kd4,kd2⟩:=hkd;refine Z ?_;refine OC bJ (λx:Nd=>MU x) (λx=>⟨[(0,.il 1 (aV l)),(2,.ptr 0 0 0),(3,.ptr 1 0 0),(4,.int .i64 n),(5,.int .i64 ns.length),(6,.int .i64 kk),(7,.ptr 3 0 0)],[(0,.row 25 1 [.agg [.nsl]]),(1,.row 25 1 [.agg [.sl 2 0 ns.length]]),(2,.row 59 12 (bC ns)),(3,.row 59 12 [cK x])],4,181⟩) (λQr hQ=>?_) (λx hx=>?_)
   .rcases(show kd=0\/kd=1\/kd=2\/kd=3\/kd=4 by omega) with rfl|rfl|rfl|rfl|rfl
    .have hLf:=Ta (kk.tdiv 8) (aAT kk0 om) (by have:=CO kk0 (show (0:Int)<8 by omega);omega);have hlo:=It (kk.tdiv 8) (aAT kk0 om);generalize xI (kk.tdiv 8)=f at hLf hlo;obtain⟨f1,f2,f3,f4⟩:=f;refine Z ?_;rw[hw8];refine hLf.go ?_;refine Z ?_;exact hQ (JC (.mk f1 f2 f3 f4)) _ [(0,0),(1,1),(2,2),(3,3)] (oV z0 sq z0 z0 sq sq sq sq sq sq sq sq hlo.1 om) (aK _ rfl ⟨aI 0 dN,⟨1,_,rfl,rfl,.cons (.agg (.cons (.sl 2 2 0 _ rfl) .nil)) .nil⟩,aI 2 (bA _),⟨3,_,rfl,rfl,.cons (.agg (.s (.s (.s (.s (.cons (.nil 1) (.cons (.nil 1) (.cons (.nil 4) (.cons (.nil 1) (.s (.s (.s (.s .nil))))))))))))) .nil⟩,trivial⟩ ⟨aF,aN,aN,aF,aF,aF,aN,trivial⟩)
    .refine Z ?_;refine aL (λh=>?_) (λh=>?_)
     .refine Z ?_;exact hQ ⟨1,[],_,_,[],[],[],[],zV⟩ _ [(0,0),(1,1),(2,2),(3,3)] (oV oq sq (Mg _) (Mg _) sq sq sq sq sq sq sq sq (iV z0 z0) (by simp[zV,bN,cY])) (aK _ rfl ⟨aI 0 dN,⟨1,_,rfl,rfl,.cons (.agg (.cons (.sl 2 2 0 _ rfl) .nil)) .nil⟩,aI 2 (bA _),⟨3,_,rfl,rfl,.cons (.agg (.s (.s (.s (.s (.cons (.nil 1) (.cons (.nil 1) (.cons (.nil 4) (.cons (.nil 1) (.s (.s (.s (.cons (.nil 4) .nil))))))))))))) .nil⟩,trivial⟩ ⟨aF,aN,aN,aF,aF,aF,aN,trivial⟩)
     .refine Z ?_;exact hQ ⟨1,[],_,_,[],[],[],[],zV⟩ _ [(0,0),(1,1),(2,2),(3,3)] (oV oq sq (Mg _) (Mg _) sq sq sq sq sq sq sq sq (iV z0 z0) (by simp[zV,bN,cY])) (aK _ rfl ⟨aI 0 dN,⟨1,_,rfl,rfl,.cons (.agg (.cons (.sl 2 2 0 _ rfl) .nil)) .nil⟩,aI 2 (bA _),⟨3,_,rfl,rfl,.cons (.agg (.s (.s (.s (.s (.cons (.nil 1) (.cons (.nil 1) (.cons (.nil 4) (.cons (.nil 1) (.s (.s (.s (.cons (.nil 4) .nil))))))))))))) .nil⟩,trivial⟩ ⟨aF,aN,aN,aF,aF,aF,aN,trivial⟩)
    .refine Z ?_;rcases(show decide ((IntKind.i64.wrap (kk.tdiv 32)).tmod 3>0)=true\/decide ((IntKind.i64.wrap (kk.tdiv 32)).tmod 3>0)=false by cases decide ((IntKind.i64.wrap (kk.tdiv 32)).tmod 3>0)<;>simp) with hB|hB
     .have hB:decide ((IntKind.i64.wrap (kk.tdiv 32)).tmod 3>0)=true:=hB;refine bI.ph 3 1 ?_;refine bI.ph 3 1 ?_;refine bI.ph 9 1 ?_;refine bI.at bJ (λa:List Int × List (List UInt8) × List Int=>a.1.length<=4/\a.2.2.length=a.1.length/\(∀w∈a.1,i64 w)/\(∀w∈a.2.2,i64 w)/\(∀s∈a.2.1,s∈yS)/\a.2.1.length=a.1.length)
       (λa=>⟨[(0,.il 1 (aV l)),(2,.ptr 0 0 0),(3,.ptr 1 0 0),(4,.int .i64 n),(5,.int .i64 ns.length),(6,.int .i64 kk),(7,.ptr 3 0 0),(8,.int .i64 a.1.length)],[(0,.row 25 1 [.agg [.nsl]]),(1,.row 25 1 [.agg [.sl 2 0 ns.length]]),(2,.row 59 12 (bC ns)),(3,.row 59 12 [.agg [.int .i64 2,.str [],.int .i64 0,.int .i64 0,.sl 4 0 a.1.length,.sl 6 0 a.1.length,.nsl,.sl 5 0 a.1.length,.int .i64 0,.int .i64 0,.str [],.nsl]]),(4,.row 3 1 (aV a.1)),(5,.row 3 1 (aV a.2.2)),(6,.row 9 1 (oN a.2.1))],7,181⟩)
       (λa=>4-a.1.length) ([],[],[]) [(0,0),(1,1),(2,2),(3,3),(4,4),(5,5),(6,6)] sq
       (aK _ rfl ⟨aI 0 dN,⟨1,_,rfl,rfl,.cons (.agg (.cons (.sl 2 2 0 _ rfl) .nil)) .nil⟩,aI 2 (bA _),⟨3,_,rfl,rfl,.cons (.agg (.s (.s (.s (.s (.cons (.nslk 4 4 _ rfl rfl) (.cons (.nslk 6 6 _ rfl rfl) (.s (.cons (.nslk 5 5 _ rfl rfl) (.s (.s (.s (.s .nil))))))))))))) .nil⟩,aI 4 .nil,aI 5 .nil,aI 6 .nil,trivial⟩ ⟨aF,aN,aN,aF,aF,aF,aN,aF,trivial⟩) ?_
      rintro⟨wl,ll,kl⟩ ⟨j1,j2,j3,j4,j5,j6⟩;simp only at j1 j2 j3 j4 j5 j6;refine Z ?_;refine aL (λh=>?_) (λh=>?_)
      .have hjc:wl.length<4:=by rw[hw8] at h;have:=kM q80 (show (0:Int)<4 by omega);simp at h;omega
       have hwj:IntKind.i64.wrap ((ns.length:Int)+(wl.length:Int))=(ns.length:Int)+wl.length:=bS oq;have hPj:=Hg l ((ns.length:Int)+wl.length) 5 hl om;have hPb:=lG (l:=l) (i:=(ns.length:Int)+wl.length) (most:=5) om;generalize mA l ((ns.length:Int)+wl.length) 5=pw at hPj hPb;have hKj:=Nw l ns.length wl.length hl om om om om;have hKb:=pP (l:=l) (i:=(ns.length:Int)) (j:=(wl.length:Int)) om;generalize kidI l ns.length wl.length=kw at hKj hKb;refine Z ?_;rw[hwj];refine hPj.go ?_;refine Rt ?_;refine aO (cP rfl rfl (by rw[aH]) (by simp;omega)) ?_;refine Rt ?_;refine hKj.go ?_;refine Rt ?_;refine aO (cP rfl rfl (by rw[aH,j2]) (by simp;omega)) ?_;refine Rt ?_;rw[hB];refine Z ?_;obtain⟨qn,hqn,hqe⟩:∃qn:Nat,qn<4/\(IntKind.i64.wrap ((wl.length:Int)+IntKind.i64.wrap (kk.tdiv 96))).tmod 4=(qn:Int):=by
        have a0:=CO kk0 (show (0:Int)<96 by omega);have a1:0<=kk.tdiv 96:=aAT kk0 om;have e1:IntKind.i64.wrap (kk.tdiv 96)=kk.tdiv 96:=bS oq;have e2:IntKind.i64.wrap ((wl.length:Int)+kk.tdiv 96)=(wl.length:Int)+kk.tdiv 96:=bS oq;rw[e1,e2];have:=kM (show 0<=(wl.length:Int)+kk.tdiv 96 by omega) (show (0:Int)<4 by omega);exact⟨(((wl.length:Int)+kk.tdiv 96).tmod 4).toNat,om,om⟩
       obtain⟨sa,hsa,hsm⟩:∃sa,([AV.str [97],AV.str [98],AV.str [99],AV.str [100]])[0+((qn:Nat):Int).toNat]? = some (.str sa)/\sa∈yS:=by
        rcases(show qn=0\/qn=1\/qn=2\/qn=3 by omega) with rfl|rfl|rfl|rfl
        .exact⟨[97],rfl,by simp[yS]⟩
        .exact⟨[98],rfl,by simp[yS]⟩
        .exact⟨[99],rfl,by simp[yS]⟩
        .exact⟨[100],rfl,by simp[yS]⟩
       have bsa:Nat.blt ((qn:Nat):Int).toNat 4=true:=Y3 (by simp;omega);rw[hqe];refine Z ?_;repeat((first|refine aY ?_|refine aO bsa ?_|refine aC hsa ?_);refine Z ?_)
       refine aO (cP rfl rfl (by rw[cS,j6]) (by simp;omega)) ?_;refine Z ?_;repeat((first|refine aY ?_|refine aO bsa ?_|refine aC hsa ?_);refine Z ?_)
       exact .mk (wl++[IntKind.i64.wrap (1+pw)],ll++[sa],kl++[kw]) [(0,0),(1,1),(2,2),(3,3),(19,4),(30,5),(45,6)] ⟨by simp;omega,by simp;omega,rD j3 (Mg _),rD j4 oq,rD j5 hsm,by simp;omega⟩
        (aK _ rfl ⟨aI 0 dN,⟨1,_,rfl,rfl,.cons (.agg (.cons (.sl 2 2 0 _ rfl) .nil)) .nil⟩,aI 2 (bA _),⟨3,_,rfl,rfl,.cons (.agg (.s (.s (.s (.s (.cons (.slE rfl sq) (.cons (.slE rfl sq) (.s (.cons (.slE rfl sq) (.s (.s (.s (.s .nil))))))))))))) .nil⟩,⟨19,_,rfl,rfl,.eq (aT _) (by simp[aV])⟩,⟨30,_,rfl,rfl,.eq (aT _) (by simp[aV])⟩,⟨45,_,rfl,rfl,.eq (jD _) (by simp[oN])⟩,trivial⟩ ⟨aF,aN,aN,aF,aF,aF,aN,⟨_,rfl,.w64 sq ⟨by simp;omega,by simp;omega⟩⟩,trivial⟩) (by simp;omega)
      .refine Z ?_;exact hQ ⟨2,[],0,0,wl,ll,[],kl,zV⟩ _ [(0,0),(1,1),(2,2),(3,3)] (oV oq sq z0 z0 om j3 om j5 sq sq om j4 (iV z0 z0) (by simp[zV,bN,cY])) (aK _ rfl ⟨aI 0 dN,⟨1,_,rfl,rfl,.cons (.agg (.cons (.sl 2 2 0 _ rfl) .nil)) .nil⟩,aI 2 (bA _),⟨3,_,rfl,rfl,.cons (.agg (.s (.s (.s (.s (.cons (.fz' (id:=4) rfl rfl (by rw[aH];first|omega|(simp only;omega)) (by rw[ZU];exact Y9 (by rw[aH];first|omega|(simp only;omega))) (aT _)) (.cons (.fz' (id:=6) rfl rfl (by rw[cS];first|omega|(simp only;omega)) (by rw[ZU];exact Y9 (by rw[cS];first|omega|(simp only;omega))) (jD _)) (.cons (.nil 4) (.cons (.fz' (id:=5) rfl rfl (by rw[aH];first|omega|(simp only;omega)) (by rw[ZU];exact Y9 (by rw[aH];first|omega|(simp only;omega))) (aT _)) (.s (.s (.s (.cons (.nil 4) .nil))))))))))))) .nil⟩,trivial⟩ ⟨aF,aN,aN,aF,aF,aF,aN,trivial⟩)
     .have hB:decide ((IntKind.i64.wrap (kk.tdiv 32)).tmod 3>0)=false:=hB;refine bI.ph 3 1 ?_;refine bI.ph 3 1 ?_;refine bI.at bJ (λa:List Int × List (List UInt8) × List Int=>a.1.length<=4/\a.2.2.length=a.1.length/\(∀w∈a.1,i64 w)/\(∀w∈a.2.2,i64 w)/\(∀s∈a.2.1,s∈yS)/\a.2.1.length=0)
       (λa=>⟨[(0,.il 1 (aV l)),(2,.ptr 0 0 0),(3,.ptr 1 0 0),(4,.int .i64 n),(5,.int .i64 ns.length),(6,.int .i64 kk),(7,.ptr 3 0 0),(8,.int .i64 a.1.length)],[(0,.row 25 1 [.agg [.nsl]]),(1,.row 25 1 [.agg [.sl 2 0 ns.length]]),(2,.row 59 12 (bC ns)),(3,.row 59 12 [.agg [.int .i64 2,.str [],.int .i64 0,.int .i64 0,.sl 4 0 a.1.length,.nsl,.nsl,.sl 5 0 a.1.length,.int .i64 0,.int .i64 0,.str [],.nsl]]),(4,.row 3 1 (aV a.1)),(5,.row 3 1 (aV a.2.2))],6,181⟩)
       (λa=>4-a.1.length) ([],[],[]) [(0,0),(1,1),(2,2),(3,3),(4,4),(5,5)] sq
       (aK _ rfl ⟨aI 0 dN,⟨1,_,rfl,rfl,.cons (.agg (.cons (.sl 2 2 0 _ rfl) .nil)) .nil⟩,aI 2 (bA _),⟨3,_,rfl,rfl,.cons (.agg (.s (.s (.s (.s (.cons (.nslk 4 4 _ rfl rfl) (.s (.s (.cons (.nslk 5 5 _ rfl rfl) (.s (.s (.s (.s .nil))))))))))))) .nil⟩,aI 4 .nil,aI 5 .nil,trivial⟩ ⟨aF,aN,aN,aF,aF,aF,aN,aF,trivial⟩) ?_
      rintro⟨wl,ll,kl⟩ ⟨j1,j2,j3,j4,j5,j6⟩;simp only at j1 j2 j3 j4 j5 j6;refine Z ?_;refine aL (λh=>?_) (λh=>?_)
      .have hjc:wl.length<4:=by rw[hw8] at h;have:=kM q80 (show (0:Int)<4 by omega);simp at h;omega
       have hwj:IntKind.i64.wrap ((ns.length:Int)+(wl.length:Int))=(ns.length:Int)+wl.length:=bS oq;have hPj:=Hg l ((ns.length:Int)+wl.length) 5 hl om;have hPb:=lG (l:=l) (i:=(ns.length:Int)+wl.length) (most:=5) om;generalize mA l ((ns.length:Int)+wl.length) 5=pw at hPj hPb;have hKj:=Nw l ns.length wl.length hl om om om om;have hKb:=pP (l:=l) (i:=(ns.length:Int)) (j:=(wl.length:Int)) om;generalize kidI l ns.length wl.length=kw at hKj hKb;refine Z ?_;rw[hwj];refine hPj.go ?_;refine Rt ?_;refine aO (cP rfl rfl (by rw[aH]) (by simp;omega)) ?_;refine Rt ?_;refine hKj.go ?_;refine Rt ?_;refine aO (cP rfl rfl (by rw[aH,j2]) (by simp;omega)) ?_;refine Rt ?_;rw[hB];refine Z ?_;exact .mk (wl++[IntKind.i64.wrap (1+pw)],ll,kl++[kw]) [(0,0),(1,1),(2,2),(3,3),(18,4),(29,5)] ⟨by simp;omega,by simp;omega,rD j3 (Mg _),rD j4 oq,j5,j6⟩
        (aK _ rfl ⟨aI 0 dN,⟨1,_,rfl,rfl,.cons (.agg (.cons (.sl 2 2 0 _ rfl) .nil)) .nil⟩,aI 2 (bA _),⟨3,_,rfl,rfl,.cons (.agg (.s (.s (.s (.s (.cons (.slE rfl sq) (.s (.s (.cons (.slE rfl sq) (.s (.s (.s (.s .nil))))))))))))) .nil⟩,⟨18,_,rfl,rfl,.eq (aT _) (by simp[aV])⟩,⟨29,_,rfl,rfl,.eq (aT _) (by simp[aV])⟩,trivial⟩ ⟨aF,aN,aN,aF,aF,aF,aN,⟨_,rfl,.w64 sq ⟨by simp;omega,by simp;omega⟩⟩,trivial⟩) (by simp;omega)
      .refine Z ?_;obtain rfl:ll=[]:=Zu.1 j6;exact hQ ⟨2,[],0,0,wl,[],[],kl,zV⟩ _ [(0,0),(1,1),(2,2),(3,3)] (oV oq sq z0 z0 om j3 sq sq sq sq om j4 (iV z0 z0) (by simp[zV,bN,cY])) (aK _ rfl ⟨aI 0 dN,⟨1,_,rfl,rfl,.cons (.agg (.cons (.sl 2 2 0 _ rfl) .nil)) .nil⟩,aI 2 (bA _),⟨3,_,rfl,rfl,.cons (.agg (.s (.s (.s (.s (.cons (.fz' (id:=4) rfl rfl (by rw[aH];first|omega|(simp only;omega)) (by rw[ZU];exact Y9 (by rw[aH];first|omega|(simp only;omega))) (aT _)) (.cons (.nil 1) (.cons (.nil 4) (.cons (.fz' (id:=5) rfl rfl (by rw[aH];first|omega|(simp only;omega)) (by rw[ZU];exact Y9 (by rw[aH];first|omega|(simp only;omega))) (aT _)) (.s (.s (.s (.cons (.nil 4) .nil))))))))))))) .nil⟩,trivial⟩ ⟨aF,aN,aN,aF,aF,aF,aN,trivial⟩)
    .obtain⟨qn,hqn,hqe⟩:∃qn:Nat,qn<3/\(IntKind.i64.wrap (kk.tdiv 8)).tmod 3=(qn:Int):=by
      rw[hw8];have:=kM q80 (show (0:Int)<3 by omega);exact⟨((kk.tdiv 8).tmod 3).toNat,om,om⟩
     obtain⟨nm,hnm,hnl⟩:∃nm,([AV.str [],AV.str [80,97,105,114],AV.str []])[0+((qn:Nat):Int).toNat]? = some (.str nm)/\nm.length<=4:=by
      rcases(show qn=0\/qn=1\/qn=2 by omega) with rfl|rfl|rfl
      .exact⟨[],rfl,sq⟩
      .exact⟨[80,97,105,114],rfl,sq⟩
      .exact⟨[],rfl,sq⟩
     have bnm:Nat.blt ((qn:Nat):Int).toNat 3=true:=Y3 (by simp;omega);refine Z ?_;rw[hqe];refine Z ?_;repeat((first|refine aY ?_|refine aO bnm ?_|refine aC hnm ?_);refine Z ?_)
     refine bI.ph 3 1 ?_;refine bI.at bJ (λa:List Int=>a.length<=3/\∀w∈a,i64 w)
      (λa=>⟨[(0,.il 1 (aV l)),(2,.ptr 0 0 0),(3,.ptr 1 0 0),(4,.int .i64 n),(5,.int .i64 ns.length),(6,.int .i64 kk),(7,.ptr 3 0 0),(9,.int .i64 a.length)],[(0,.row 25 1 [.agg [.nsl]]),(1,.row 25 1 [.agg [.sl 2 0 ns.length]]),(2,.row 59 12 (bC ns)),(3,.row 59 12 [.agg [.int .i64 3,.str nm,.int .i64 0,.int .i64 0,.nsl,.nsl,.nsl,.sl 4 0 a.length,.int .i64 0,.int .i64 0,.str [],.nsl]]),(4,.row 3 1 (aV a))],5,181⟩)
      (λa=>4-a.length) [] [(0,0),(1,1),(2,2),(3,3),(5,4)] sq
      (aK _ rfl ⟨aI 0 dN,⟨1,_,rfl,rfl,.cons (.agg (.cons (.sl 2 2 0 _ rfl) .nil)) .nil⟩,aI 2 (bA _),⟨3,_,rfl,rfl,.cons (.agg (.s (.s (.s (.s (.s (.s (.s (.cons (.nslk 5 4 _ rfl rfl) (.s (.s (.s (.s .nil))))))))))))) .nil⟩,aI 5 .nil,trivial⟩ ⟨aF,aN,aN,aF,aF,aF,aN,aF,trivial⟩) ?_
     rintro kl ⟨j1,j4⟩;refine Z ?_;refine aL (λh=>?_) (λh=>?_)
     .have hjc:kl.length<3:=by
       have a0:=CO kk0 (show (0:Int)<24 by omega);have a1:0<=kk.tdiv 24:=aAT kk0 om;have e1:IntKind.i64.wrap (kk.tdiv 24)=kk.tdiv 24:=bS oq;rw[e1] at h;have:=kM a1 (show (0:Int)<4 by omega);simp at h;omega
      have hKj:=Nw l ns.length kl.length hl om om om om;have hKb:=pP (l:=l) (i:=(ns.length:Int)) (j:=(kl.length:Int)) om;generalize kidI l ns.length kl.length=kw at hKj hKb;refine Z ?_;refine hKj.go ?_;refine Rt ?_;refine aO (cP rfl rfl (by rw[aH]) (by simp;omega)) ?_;refine Rt ?_;exact .mk (kl++[kw]) [(0,0),(1,1),(2,2),(3,3),(15,4)] ⟨by simp;omega,rD j4 oq⟩
       (aK _ rfl ⟨aI 0 dN,⟨1,_,rfl,rfl,.cons (.agg (.cons (.sl 2 2 0 _ rfl) .nil)) .nil⟩,aI 2 (bA _),⟨3,_,rfl,rfl,.cons (.agg (.s (.s (.s (.s (.s (.s (.s (.cons (.slE rfl sq) (.s (.s (.s (.s .nil))))))))))))) .nil⟩,⟨15,_,rfl,rfl,.eq (aT _) (by simp[aV])⟩,trivial⟩ ⟨aF,aN,aN,aF,aF,aF,aN,⟨_,rfl,.w64 sq ⟨by simp;omega,by simp;omega⟩⟩,trivial⟩) (by simp;omega)
     .refine Z ?_;exact hQ ⟨3,nm,0,0,[],[],[],kl,zV⟩ _ [(0,0),(1,1),(2,2),(3,3)] (oV oq om z0 z0 sq sq sq sq sq sq om j4 (iV z0 z0) (by simp[zV,bN,cY])) (aK _ rfl ⟨aI 0 dN,⟨1,_,rfl,rfl,.cons (.agg (.cons (.sl 2 2 0 _ rfl) .nil)) .nil⟩,aI 2 (bA _),⟨3,_,rfl,rfl,.cons (.agg (.s (.s (.s (.s (.cons (.nil 1) (.cons (.nil 1) (.cons (.nil 4) (.cons (.fz' (id:=4) rfl rfl (by rw[aH];first|omega|(simp only;omega)) (by rw[ZU];exact Y9 (by rw[aH];first|omega|(simp only;omega))) (aT _)) (.s (.s (.s (.cons (.nil 4) .nil))))))))))))) .nil⟩,trivial⟩ ⟨aF,aN,aN,aF,aF,aF,aN,trivial⟩)
    .have hBd:=XM ns l kk hl om om kk0 om hT.good;have hBg:=NC hT om om (l:=l) (k:=kk) kk0;have hns:ns.length<=14:=om;generalize BY ns l ns.length kk=bx at hBd hBg;have hbn:=bH bx;refine Z ?_;refine aJ.use1 bJ hBd 2 rfl (bA _) (.cons (.agg' (.cons (.sl 2 0 0 _ rfl) .nil)) (.s (.s (.s .nil)))) ?_;rintro r m k' ⟨rfl,rfl⟩;refine⟨_,rfl,hbn,bA _, ?_⟩;obtain⟨kind,name,lo,hi,ws,ls,vals,kids,⟨vk,vn,vs,vks⟩⟩:=bx;refine Z ?_;exact hQ ⟨kind,name,lo,hi,ws,ls,vals,kids,.mk vk vn vs vks⟩ _ [(0,0),(1,1),(2,2),(3,3)] hBg (aK _ rfl ⟨aI 0 dN,⟨1,_,rfl,rfl,.cons (.agg (.cons (.sl 2 2 0 _ rfl) .nil)) .nil⟩,aI 2 (bA _),aI 3 (.cons (bH ⟨kind,name,lo,hi,ws,ls,vals,kids,.mk vk vn vs vks⟩) .nil),trivial⟩ ⟨aF,aN,aN,aF,aF,aF,aN,trivial⟩)
   .have hxn:=bH x;have hV:=Uf (ns++[x]) (by simp;omega) (λy hy=>by
     rcases ZI.1 hy with hy|hy
     .have:=hT.gen y hy;exact⟨this.ok,by have:=this.vals;omega⟩
     .simp at hy;rw[hy];exact⟨hx.ok,by have:=hx.vals;omega⟩)
    have hnn2:=bA (ns++[x]);have eTk:List.take ns.length (List.drop 0 (bC ns))=bC ns:=by rw[ZU];exact Y9 (by rw[bW];omega)
    have hxs:bC (ns++[x])=bC ns++[cK x]:=by simp[bC]
    have hsn:=λh=>hT.snoc (x:=x) om hx h
    have hw5:=kM kk0 (show (0:Int)<5 by omega);have hlf:=hT.leaf (m:=kk.tmod 5) oq;obtain⟨e,he⟩:∃e,e=cR (ns++[x]):=⟨_,rfl⟩
    rw[<-he] at hV hsn;obtain⟨kind,name,lo,hi,ws,ls,vals,kids,⟨vk,vn,vs,vks⟩⟩:=x;refine Z ?_;refine aO (Pj (by rw[bW];omega)) ?_;rw[eTk];refine Z ?_;refine aO (CN rfl (by rw[bW];omega)) ?_;refine Z ?_;refine aO (cP rfl rfl rfl (by rw[bW];simp;omega)) ?_;refine Z ?_;refine aJ.useN bJ [(7,0)] hV rfl (.cons (.agg' (.cons (.slE rfl (by rw[bW];simp)) .nil)) .nil) ⟨⟨7,_,rfl,rfl,.eq hnn2 (by rw[hxs];rfl)⟩,trivial⟩ rfl ?_;rintro r m k' ⟨rfl,rfl⟩;refine⟨[(0,7)],_,[(7,.row 59 12 (bC (ns++[⟨kind,name,lo,hi,ws,ls,vals,kids,.mk vk vn vs vks⟩])))],8,.same _ nn,⟨aI 0 hnn2,trivial⟩,rfl, ?_⟩;by_cases e0:e=0
    .subst e0;refine Z ?_;exact .mk (ns++[⟨kind,name,lo,hi,ws,ls,vals,kids,.mk vk vn vs vks⟩]) [(0,0),(1,1),(7,2)] ⟨hsn rfl,by simp;omega⟩
      (aK _ rfl ⟨aI 0 dN,⟨1,_,rfl,rfl,.cons (.agg (.cons (.slE rfl (by rw[bW];simp)) .nil)) .nil⟩,aI 7 hnn2,trivial⟩ ⟨aF,aN,aN,aF,⟨_,rfl,.w64 sq ⟨by simp;omega,by simp;omega⟩⟩,trivial⟩) (by simp;omega)
    .have de:(e == 0)=false:=su e0
     refine Z ?_;rw[de];refine Z ?_;refine aO (cP rfl rfl (by rw[bW]) (by simp;omega)) ?_;refine Z ?_;have hlx:bC (ns++[⟨0,[],0,0,[],[],[],[],.mk 0 (kk.tmod 5) [] []⟩])=bC ns++[cK ⟨0,[],0,0,[],[],[],[],.mk 0 (kk.tmod 5) [] []⟩]:=by simp[bC]
     exact .mk (ns++[⟨0,[],0,0,[],[],[],[],.mk 0 (kk.tmod 5) [] []⟩]) [(0,0),(1,1),(9,2)] ⟨hlf,by simp;omega⟩
      (aK _ rfl ⟨aI 0 dN,⟨1,_,rfl,rfl,.cons (.agg (.cons (.slE rfl sq) .nil)) .nil⟩,⟨9,_,rfl,rfl,by rw[hlx];exact .snoc rfl (.same (bA _)) (.agg (.s (.s (.s (.s (.cons (.nil 1) (.cons (.nil 1) (.cons (.nil 4) (.cons (.nil 1) (.s (.s (.s (.cons (.nil 4) .nil)))))))))))))⟩,trivial⟩ ⟨aF,aN,aN,aF,⟨_,rfl,.w64 sq ⟨by simp;omega,by simp;omega⟩⟩,trivial⟩) (by simp;omega)
 .have hlt:ns.length=n:=by simp at h;omega
  refine Z ?_;exact bM (r':=.agg [.sl 0 0 ns.length]) (m':=tM ns) (n':=1) [(2,0)] rfl ⟨aI 2 (bA _),trivial⟩ (.agg' (.cons (.sl 2 0 0 _ rfl) .nil)) ⟨ns,hT,om,rfl,rfl,rfl⟩
theorem sH{l:List (List UInt8)}{k:Nat}(h:k<l.length):(oN l)[((k:Nat):Int).toNat]? = some (.str l[k]):=by simp[C3,Yw h]
end Go.Proofs.YthggfhnnkclooaaGreatDoor
namespace Go.Proofs.YthggfhnnkclooaaGreatDoor
open Go Go.Ax Go.Proofs Tryz
def cI(n:Nat):AB:=.row 3 1 [.int .i64 n]
def cB(b:Bool):AB:=.row 4 1 [.bool b]
def cF(f:AV):AB:=.row 278 1 [f]
section
variable {mem:aQ} {J:List (Nat × Nat)}
theorem H7{F:FuncId}{i:Nat}(h:lk J i=some i):tO mem J [.fn (.func F) [] [.ptr i 0 0]] [.fn (.func F) [] [.ptr i 0 0]]:=
 .cons (.one rfl rfl (.fn _ _ _ _ _ rfl rfl sq (g6.cons (.ptr i i 0 0 h) .nil).2)) .nil
theorem tT{F:FuncId}{i j:Nat}(h:lk J i=some i)(h':lk J j=some j):tO mem J [.fn (.func F) [] [.ptr i 0 0,.ptr j 0 0]] [.fn (.func F) [] [.ptr i 0 0,.ptr j 0 0]]:=
 .cons (.one rfl rfl (.fn _ _ _ _ _ rfl rfl sq (g6.cons (.ptr i i 0 0 h) (.cons (.ptr j j 0 0 h') .nil)).2)) .nil
theorem Dh{F:FuncId}{i j k:Nat}(h:lk J i=some i)(h':lk J j=some j)(h'':lk J k=some k):tO mem J [.fn (.func F) [] [.ptr i 0 0,.ptr j 0 0,.ptr k 0 0]] [.fn (.func F) [] [.ptr i 0 0,.ptr j 0 0,.ptr k 0 0]]:=
 .cons (.one rfl rfl (.fn _ _ _ _ _ rfl rfl sq (g6.cons (.ptr i i 0 0 h) (.cons (.ptr j j 0 0 h') (.cons (.ptr k k 0 0 h'') .nil))).2)) .nil
end
def VW(n:Nat):aQ:=[(0,cI n),(1,cF (.fn (.func 194) [] [.ptr 0 0 0])),(2,cF (.fn (.func 235) [] [.ptr 1 0 0,.ptr 2 0 0]))]
theorem Lv(g:Nat->Nat->Nat)(hg:∀n d,g n d<=max (n+1) d)
  (hsee:∀(v:bD) (d n:Nat),d<=1099511627776->n<=4398046511104->aJ prog [] 194 [bY v,.int .i64 d,.ptr 0 0 0] [(0,cI n)] 1 λr m _=>r = .bool true/\m=[(0,cI (g n d))]) :
  ∀(v:bD) (d n:Nat),d+iQ v<=1099511627776->max n (d+iQ v)+bN v<=4398046511104 ->
   aJ prog [] 235 [bY v,.int .i64 d,.ptr 1 0 0,.ptr 2 0 0] (VW n) 3 λr m _=>r = .bool true/\m=VW (Ac g v d n)
 | .mk vk vn vs ks,d,n,hd,hb=>by
  have ih:∀a∈ks,∀(d n:Nat),d+iQ a<=1099511627776->max n (d+iQ a)+bN a<=4398046511104->aJ prog [] 235 [bY a,.int .i64 d,.ptr 1 0 0,.ptr 2 0 0] (VW n) 3 λr m _=>r = .bool true/\m=VW (Ac g a d n):=
   λa hm d n h1 h2=>Lv g hg hsee a d n h1 h2
  simp only[iQ,bN] at hd hb;have hlen:=A5 ks;have hgn:=hg n d;refine aG bJ func235 rfl ?_;refine Z ?_;refine aJ.useI bJ [0] (hsee (.mk vk vn vs ks) d n om om) (by rfl) (.s (.s (.cons (.ptr 0 0 0 0 rfl) .nil))) ⟨aI 0 dN,trivial⟩ rfl ?_;rintro r m n' ⟨rfl,rfl⟩;refine⟨nn,⟨aI 0 dN,trivial⟩,rfl, ?_⟩;refine Z ?_;refine bI.at bJ (λk:Nat=>k<=ks.length)
   (λk=>⟨[(1,.int .i64 d),(3,.ptr 2 0 0),(15,.il 4 (aR ks)),(16,.int .i64 (aR ks).length),(17,.int .i64 k)],VW (tY g (ks.take k) (d+1) (g n d)),3,28⟩)
   (λk=>ks.length-k) 0 [(0,0),(1,1),(2,2)] sq
   (aK _ rfl ⟨aI 0 dN,⟨1,_,rfl,rfl,H7 rfl⟩,⟨2,_,rfl,rfl,tT rfl rfl⟩,trivial⟩ ⟨aF,aN,aF,aF,aF,trivial⟩) ?_
  intro k hk;have hrl:=F3 hg (ks.take k) (d+1) (g n d);refine Z ?_;refine aL (λh=>?_) (λh=>?_)
  .have hlt:=MX h;obtain⟨a,b,c,e,hm,hg',he,e1⟩:=dE hlt;have hst:=yW hlt;have hdt:=JS hlt;rw[he] at hst hdt;have hst':=qR ks (k+1);have hdm:=y9 hm;have hdk:fY (ks.take k)<=fY ks:=Cd ks k;have hrt:=MV g hlt (d+1) (g n d);rw[he] at hrt;refine Z ?_;refine aC e1 ?_;refine Z ?_;rw[w64 (x:=(d:Int)+1) (y:=((d+1:Nat):Int)) om oq];refine aJ.useI bJ [0,1,2] (ih _ hm (d+1) (tY g (ks.take k) (d+1) (g n d)) om om) (by rfl) (.s (.s (.cons (.ptr 1 1 0 0 rfl) (.cons (.ptr 2 2 0 0 rfl) .nil))))
    ⟨aI 0 dN,⟨1,_,rfl,rfl,H7 rfl⟩,⟨2,_,rfl,rfl,tT rfl rfl⟩,trivial⟩ rfl ?_
   rintro r m n' ⟨rfl,rfl⟩;refine⟨nn,⟨aI 0 dN,⟨1,_,rfl,rfl,H7 rfl⟩,⟨2,_,rfl,rfl,tT rfl rfl⟩,trivial⟩,rfl, ?_⟩;rw[<-hrt];refine Z ?_;exact .mk (k+1) [(0,0),(1,1),(2,2)] om
    (aK _ rfl ⟨aI 0 dN,⟨1,_,rfl,rfl,H7 rfl⟩,⟨2,_,rfl,rfl,tT rfl rfl⟩,trivial⟩ ⟨aF,aN,aF,aF,⟨_,rfl,.w64 om oq⟩,trivial⟩) om
  .have hk':k=ks.length:=by have:=NQ h;omega
   refine Z ?_;refine bM (n':=3) (m':=VW (tY g (ks.take k) (d+1) (g n d))) [(0,0),(1,1),(2,2)] rfl ⟨aI 0 dN,⟨1,_,rfl,rfl,H7 rfl⟩,⟨2,_,rfl,rfl,tT rfl rfl⟩,trivial⟩ (.same _ nn) ⟨rfl, ?_⟩;rw[hk',ZJ,Ac]
 termination_by v=>SizeOf.sizeOf v
 decreasing_by simp;have:=aAw hm;omega
end Go.Proofs.YthggfhnnkclooaaGreatDoor
namespace Go.Proofs.YthggfhnnkclooaaGreatDoor
open Go Go.Ax Go.Proofs Tryz
section
variable {mem:aQ} {J:List (Nat × Nat)}
theorem VU{F:FuncId}{i i':Nat}(h:lk J i=some i'):tO mem J [.fn (.func F) [] [.ptr i 0 0]] [.fn (.func F) [] [.ptr i' 0 0]]:=
 .cons (.one rfl rfl (.fn _ _ _ _ _ rfl rfl sq (g6.cons (.ptr i i' 0 0 h) .nil).2)) .nil
theorem P0{F:FuncId}{i j i' j':Nat}(h:lk J i=some i')(h':lk J j=some j'):tO mem J [.fn (.func F) [] [.ptr i 0 0,.ptr j 0 0]] [.fn (.func F) [] [.ptr i' 0 0,.ptr j' 0 0]]:=
 .cons (.one rfl rfl (.fn _ _ _ _ _ rfl rfl sq (g6.cons (.ptr i i' 0 0 h) (.cons (.ptr j j' 0 0 h') .nil)).2)) .nil
theorem UI{F:FuncId}{i j k i' j' k':Nat}(h:lk J i=some i')(h':lk J j=some j')(h'':lk J k=some k'):tO mem J [.fn (.func F) [] [.ptr i 0 0,.ptr j 0 0,.ptr k 0 0]] [.fn (.func F) [] [.ptr i' 0 0,.ptr j' 0 0,.ptr k' 0 0]]:=
 .cons (.one rfl rfl (.fn _ _ _ _ _ rfl rfl sq (g6.cons (.ptr i i' 0 0 h) (.cons (.ptr j j' 0 0 h') (.cons (.ptr k k' 0 0 h'') .nil))).2)) .nil
theorem Xh{F:FuncId}{i i':Nat}(h:lk J i=some i'):Cv mem J (.fn (.func F) [] [.ptr i 0 0]) (.fn (.func F) [] [.ptr i' 0 0]):=
 .fn _ _ _ _ _ rfl rfl sq (g6.cons (.ptr i i' 0 0 h) .nil).2
theorem YM{F:FuncId}{i j k i' j' k':Nat}(h:lk J i=some i')(h':lk J j=some j')(h'':lk J k=some k'):Cv mem J (.fn (.func F) [] [.ptr i 0 0,.ptr j 0 0,.ptr k 0 0]) (.fn (.func F) [] [.ptr i' 0 0,.ptr j' 0 0,.ptr k' 0 0]):=
 .fn _ _ _ _ _ rfl rfl sq (g6.cons (.ptr i i' 0 0 h) (.cons (.ptr j j' 0 0 h') (.cons (.ptr k k' 0 0 h'') .nil))).2
end
theorem Xp:∀(v:bD) (d n:Nat),d<=1099511627776->n<=4398046511104->aJ prog [] 194 [bY v,.int .i64 d,.ptr 0 0 0] [(0,cI n)] 1 λr m _=>r = .bool true/\m=[(0,cI (n+1))]
 | .mk vk vn vs ks,d,n,hd,hn=>by
  refine aG bJ func194 rfl ?_;refine Z ?_;exact bM (n':=1) (m':=[(0,cI (n+1))]) [(0,0)] rfl ⟨⟨0,_,rfl,rfl,.cons (.one rfl rfl (.w64 om oq)) .nil⟩,trivial⟩ (.same _ nn) ⟨rfl,rfl⟩
theorem Rb:∀(v:bD) (n:Nat),1+iQ v<=1099511627776->max n (1+iQ v)+bN v<=4398046511104 ->
   aJ prog [] 190 [bY v,.fn (.func 194) [] [.ptr 0 0 0]] [(0,cI n)] 1 λr m _=>r = .tup []/\m=[(0,cI (Ac (λn _=>n+1) v 1 n))]
 | .mk vk vn vs ks,n,hd,hb=>by
  have hw:=Lv (λn _=>n+1) (λn d=>om) Xp (.mk vk vn vs ks) 1 n hd hb;generalize Ac (λn _=>n+1) (.mk vk vn vs ks) 1 n=res at hw;refine aG bJ func190 rfl ?_;refine Z ?_;refine aJ.useR bJ [(0,0),(2,1),(3,2)] hw (by rfl) (.s (.cons (.int rfl) (.cons (.ptr 2 1 0 0 rfl) (.cons (.ptr 3 2 0 0 rfl) .nil))))
   ⟨aI 0 dN,⟨2,_,rfl,rfl,VU rfl⟩,⟨3,_,rfl,rfl,P0 rfl rfl⟩,trivial⟩ rfl ?_
  rintro r m n' ⟨rfl,rfl⟩;refine⟨[(0,cI res)],nn,⟨aI 0 dN,trivial⟩,rfl, ?_⟩;refine Z ?_;exact bM (n':=1) (m':=[(0,cI res)]) [(0,0)] rfl ⟨aI 0 dN,trivial⟩ (.same _ nn) ⟨rfl,rfl⟩
theorem Wi:∀v:bD,bN v<=1048576->aX prog [] 124 [bY v] (.int .i64 (bN v))
 | .mk vk vn vs ks,hs=>by
  have hd:=qX (.mk vk vn vs ks);have hw:=Rb (.mk vk vn vs ks) 0 om om;rw[show Ac (λn _=>n+1) (.mk vk vn vs ks) 1 0=bN (.mk vk vn vs ks) by rw[JZ];omega] at hw;generalize bN (.mk vk vn vs ks)=res at hw;refine aG bJ func124 rfl ?_;refine Z ?_;refine aJ.useR bJ [(1,0)] hw (by rfl) (.s (.cons (Xh rfl) .nil)) ⟨aI 1 dN,trivial⟩ rfl ?_;rintro r m n' ⟨rfl,rfl⟩;refine⟨[(1,cI res)],nn,⟨aI 0 dN,trivial⟩,rfl, ?_⟩;refine Z ?_;exact aA nn ⟨rfl,rfl,rfl⟩
abbrev VS:=Nat × Bool × Bool
def vC(x:VS):aQ:=[(0,cI x.1),(1,cB x.2.1),(2,cB x.2.2)]
def wV(x:VS):aQ:=[(0,cI x.1),(1,cB x.2.1),(2,cB x.2.2),(3,cF (.fn (.func 191) [] [.ptr 0 0 0,.ptr 1 0 0,.ptr 2 0 0])),(4,cF (.fn (.func 235) [] [.ptr 3 0 0,.ptr 4 0 0]))]
theorem Xj(vk vn:Int)(vs:List UInt8)(ks:List bD)(hs:vs.length<=4294967296)(d:Nat)(x:VS)(hx:x.1<=4398046511104) :
  aJ prog [] 191 [bY (.mk vk vn vs ks),.int .i64 d,.ptr 0 0 0,.ptr 1 0 0,.ptr 2 0 0] (vC x) 3 λr m _=>r = .bool (dX x (.mk vk vn vs ks) d).1/\m=vC (dX x (.mk vk vn vs ks) d).2:=by
 obtain⟨n,g,s⟩:=x;have h1:=Sn vk vn vs ks hs;have h2:=Ws vk vn vs ks;have hst:dX (n,g,s) (.mk vk vn vs ks) d=(g && dJ vk vn vs ks.length,(n+1,g && dJ vk vn vs ks.length,s && xE vk ks.length)):=rfl;generalize dJ vk vn vs ks.length=fb at h1 hst;generalize xE vk ks.length=tb at h2 hst;rw[hst];simp only at hx;refine aG bJ func191 rfl ?_;cases g<;>cases s
 all_goals
  refine Z ?_;try(refine h1.go ?_;refine Z ?_)
  try(refine h2.go ?_;refine Z ?_)
  exact bM (n':=3) (m':=vC (n+1,_,_)) [(0,0),(1,1),(2,2)] rfl ⟨⟨0,_,rfl,rfl,.cons (.one rfl rfl (.w64 om oq)) .nil⟩,aI 1 dN,aI 2 dN,trivial⟩ (.same _ nn) ⟨rfl,rfl⟩
theorem QQ:∀(v:bD) (d:Nat) (x:VS),iG v->d+iQ v<=1099511627776->x.1+bN v<=4398046511104 ->
   aJ prog [] 235 [bY v,.int .i64 d,.ptr 3 0 0,.ptr 4 0 0] (wV x) 5 λr m _=>r = .bool (oJ dX v d x).1/\m=wV (oJ dX v d x).2
 | .mk vk vn vs ks,d,x,hok,hd,hb=>by
  simp only[iG] at hok;obtain⟨hv1,hv2,hv3,hv4,hv5⟩:=hok;have ih:∀a∈ks,∀(d:Nat) (x:VS),d+iQ a<=1099511627776->x.1+bN a<=4398046511104->aJ prog [] 235 [bY a,.int .i64 d,.ptr 3 0 0,.ptr 4 0 0] (wV x) 5 λr m _=>r = .bool (oJ dX a d x).1/\m=wV (oJ dX a d x).2:=
   λa hm d x h1 h2=>QQ a d x (pW hv5 a hm) h1 h2
  simp only[iQ,bN] at hd hb;have hlen:=A5 ks;have hsee:=Xj vk vn vs ks hv3 d x om;have hy1:(dX x (.mk vk vn vs ks) d).2.1=x.1+1:=rfl;generalize hst0:dX x (.mk vk vn vs ks) d=st at hsee hy1;obtain⟨b,y⟩:=st;simp only at hy1;refine aG bJ func235 rfl ?_;refine Z ?_;refine aJ.useI bJ [0,1,2] hsee (by rfl) (.s (.s (.cons (.ptr 0 0 0 0 rfl) (.cons (.ptr 1 1 0 0 rfl) (.cons (.ptr 2 2 0 0 rfl) .nil))))) ⟨aI 0 dN,aI 1 dN,aI 2 dN,trivial⟩ rfl ?_;rintro r m n' ⟨rfl,rfl⟩;refine⟨nn,⟨aI 0 dN,aI 1 dN,aI 2 dN,trivial⟩,rfl, ?_⟩;cases b with
  | false=>
   refine Z ?_;refine bM (n':=5) (m':=wV y) [(0,0),(1,1),(2,2),(3,3),(4,4)] rfl ⟨aI 0 dN,aI 1 dN,aI 2 dN,⟨3,_,rfl,rfl,Dh rfl rfl rfl⟩,⟨4,_,rfl,rfl,tT rfl rfl⟩,trivial⟩ (.same _ nn) ?_;have hvis:oJ dX (.mk vk vn vs ks) d x=(false,y):=by rw[oJ,hst0]
   rw[hvis];exact⟨rfl,rfl⟩
  | true=>
   have hvis:oJ dX (.mk vk vn vs ks) d x=pY dX ks (d+1) y:=by rw[oJ,hst0]
   refine Z ?_;refine bI.at bJ (λa:Nat × VS=>a.1<=ks.length/\pY dX (ks.take a.1) (d+1) y=(true,a.2))
    (λa=>⟨[(1,.int .i64 d),(3,.ptr 4 0 0),(15,.il 4 (aR ks)),(16,.int .i64 (aR ks).length),(17,.int .i64 a.1)],wV a.2,5,28⟩)
    (λa=>ks.length-a.1) (0,y) [(0,0),(1,1),(2,2),(3,3),(4,4)] ⟨sq,rfl⟩
    (aK _ rfl ⟨aI 0 dN,aI 1 dN,aI 2 dN,⟨3,_,rfl,rfl,Dh rfl rfl rfl⟩,⟨4,_,rfl,rfl,tT rfl rfl⟩,trivial⟩ ⟨aF,aN,aF,aF,aF,trivial⟩) ?_
   rintro⟨k,z⟩ ⟨hk,hz⟩;simp only at hk hz;have hcnt:=Dz (ks.take k) (d+1) y;rw[hz] at hcnt;simp only at hcnt;refine Z ?_;refine aL (λh=>?_) (λh=>?_)
   .have hlt:k<ks.length:=MX h;obtain⟨a,b,c,e,hm,hg',he,e1⟩:=dE hlt;have hst:=yW hlt;rw[he] at hst;have hst':=qR ks (k+1);have hdm:=y9 hm;have hnext:=MS dX hlt (d+1) y z hz;rw[he] at hnext;have hb2:z.1+bN (.mk a b c e)<=4398046511104:=om;have hih:=ih _ hm (d+1) z om hb2;generalize oJ dX (.mk a b c e) (d+1) z=st2 at hih hnext;obtain⟨b2,z2⟩:=st2;refine Z ?_;refine aC e1 ?_;refine Z ?_;rw[w64 (x:=(d:Int)+1) (y:=((d+1:Nat):Int)) om oq];refine aJ.useI bJ [0,1,2,3,4] hih (by rfl) (.s (.s (.cons (.ptr 3 3 0 0 rfl) (.cons (.ptr 4 4 0 0 rfl) .nil))))
     ⟨aI 0 dN,aI 1 dN,aI 2 dN,⟨3,_,rfl,rfl,Dh rfl rfl rfl⟩,⟨4,_,rfl,rfl,tT rfl rfl⟩,trivial⟩ rfl ?_
    rintro r m n' ⟨rfl,rfl⟩;refine⟨nn,⟨aI 0 dN,aI 1 dN,aI 2 dN,⟨3,_,rfl,rfl,Dh rfl rfl rfl⟩,⟨4,_,rfl,rfl,tT rfl rfl⟩,trivial⟩,rfl, ?_⟩;cases b2 with
    | false=>
     refine Z ?_;refine bM (n':=5) (m':=wV z2) [(0,0),(1,1),(2,2),(3,3),(4,4)] rfl ⟨aI 0 dN,aI 1 dN,aI 2 dN,⟨3,_,rfl,rfl,Dh rfl rfl rfl⟩,⟨4,_,rfl,rfl,tT rfl rfl⟩,trivial⟩ (.same _ nn) ?_;have:=Go.Ax.Fd dX (m:=ks.drop (k+1)) hnext;rw[List.take_append_drop] at this;rw[hvis,this];exact⟨rfl,rfl⟩
    | true=>
     refine Z ?_;exact .mk (k+1,z2) [(0,0),(1,1),(2,2),(3,3),(4,4)] ⟨by simp only;omega,hnext⟩
      (aK _ rfl ⟨aI 0 dN,aI 1 dN,aI 2 dN,⟨3,_,rfl,rfl,Dh rfl rfl rfl⟩,⟨4,_,rfl,rfl,tT rfl rfl⟩,trivial⟩ ⟨aF,aN,aF,aF,⟨_,rfl,.w64 om oq⟩,trivial⟩) (by simp only;omega)
   .have hk':k=ks.length:=by have:=NQ h;omega
    refine Z ?_;refine bM (n':=5) (m':=wV z) [(0,0),(1,1),(2,2),(3,3),(4,4)] rfl ⟨aI 0 dN,aI 1 dN,aI 2 dN,⟨3,_,rfl,rfl,Dh rfl rfl rfl⟩,⟨4,_,rfl,rfl,tT rfl rfl⟩,trivial⟩ (.same _ nn) ?_;rw[hk',ZJ] at hz;rw[hvis,hz];exact⟨rfl,rfl⟩
 termination_by v=>SizeOf.sizeOf v
 decreasing_by simp;have:=aAw hm;omega
theorem S5:∀(v:bD) (x:VS),iG v->1+iQ v<=1099511627776->x.1+bN v<=4398046511104 ->
   aJ prog [] 190 [bY v,.fn (.func 191) [] [.ptr 0 0 0,.ptr 1 0 0,.ptr 2 0 0]] (vC x) 3 λr m _=>r = .tup []/\m=vC (oJ dX v 1 x).2
 | .mk vk vn vs ks,x,hok,hd,hb=>by
  have hw:=QQ (.mk vk vn vs ks) 1 x hok hd hb;generalize oJ dX (.mk vk vn vs ks) 1 x=st at hw;obtain⟨b,y⟩:=st;refine aG bJ func190 rfl ?_;refine Z ?_;refine aJ.useR bJ [(0,0),(1,1),(2,2),(4,3),(5,4)] hw (by rfl) (.s (.cons (.int rfl) (.cons (.ptr 4 3 0 0 rfl) (.cons (.ptr 5 4 0 0 rfl) .nil))))
   ⟨aI 0 dN,aI 1 dN,aI 2 dN,⟨4,_,rfl,rfl,UI rfl rfl rfl⟩,⟨5,_,rfl,rfl,P0 rfl rfl⟩,trivial⟩ rfl ?_
  rintro r m n' ⟨rfl,rfl⟩;refine⟨[(0,cI y.1),(1,cB y.2.1),(2,cB y.2.2)],nn,⟨aI 0 dN,aI 1 dN,aI 2 dN,trivial⟩,rfl, ?_⟩;refine Z ?_;exact bM (n':=3) (m':=vC y) [(0,0),(1,1),(2,2)] rfl ⟨aI 0 dN,aI 1 dN,aI 2 dN,trivial⟩ (.same _ nn) ⟨rfl,rfl⟩
theorem Jy:∀v:bD,iG v->bN v<=1048576->aX prog [] 123 [bY v] (.int .i64 (gK v))
 | .mk vk vn vs ks,hok,hs=>by
  have hd:=qX (.mk vk vn vs ks);have hw:=S5 (.mk vk vn vs ks) (0,true,true) hok om (by simp only;omega);have hval:=NG (.mk vk vn vs ks);generalize gK (.mk vk vn vs ks)=res at hval;generalize (oJ dX (.mk vk vn vs ks) 1 (0,true,true)).2=y at hw hval;obtain⟨n,g,s⟩:=y;simp only at hval;refine aG bJ func123 rfl ?_;refine Z ?_;refine aJ.useR bJ [(1,0),(2,1),(3,2)] hw (by rfl) (.s (.cons (YM rfl rfl rfl) .nil)) ⟨aI 1 dN,aI 2 dN,aI 3 dN,trivial⟩ rfl ?_;rintro r m n' ⟨rfl,rfl⟩;refine⟨[(1,cI n),(2,cB g),(3,cB s)],nn,⟨aI 0 dN,aI 1 dN,aI 2 dN,trivial⟩,rfl, ?_⟩;cases g with
  | false=>
   refine Z ?_;refine aA nn ⟨?_,rfl,rfl⟩;rw[<-hval];rfl
  | true=>
   cases s with
   | false=>
    refine Z ?_;refine aA nn ⟨?_,rfl,rfl⟩;rw[<-hval];simp
   | true=>
    refine Z ?_;refine aL (λh=>?_) (λh=>?_)
    .refine Z ?_;refine aA nn ⟨?_,rfl,rfl⟩;rw[<-hval,Yz sq,Y4 (by simp at h;omega)]
    .refine Z ?_;refine aA nn ⟨?_,rfl,rfl⟩;rw[<-hval,Yz sq,Yz (by simp at h;simp;omega)]
end Go.Proofs.YthggfhnnkclooaaGreatDoor
namespace Go.Proofs.YthggfhnnkclooaaGreatDoor
open Go Go.Ax Go.Proofs Tryz
theorem LK(x:Nd)(ks:List bD):aX prog [] 68 [.ip (cK x),.il 4 (aR ks)] (bY (Go.Ax.d8 x.name ks)):=by
 obtain⟨kind,name,lo,hi,ws,ls,vals,kids,⟨vk,vn,vs,vks⟩⟩:=x;refine aG bJ func68 rfl ?_;unfold Go.Ax.d8;refine Z ?_;refine aL (λh=>?_) (λh=>?_)
 .have h1:name=[]:=su h
  rw[Y4 h1];refine Z ?_;exact aA nn ⟨rfl,rfl,rfl⟩
 .have h1:¬name=[]:=su h
  rw[Yz h1];refine Rt ?_;exact aA nn ⟨rfl,rfl,rfl⟩
theorem Ty(x:Nd)(hx:sU x)(hs:bN x.value<=1048576)(hv:∀v∈x.values,bN v<=1048576)(h0:x.kind=0->x.values=[]):aX prog [] 63 [.ip (cK x)] (.int .i64 (fD (p6 x))):=by
 have hV:=Jy x.value hx.value hs;have hvv:=hx.valuesI;have hvl:=hx.values;obtain⟨kind,name,lo,hi,ws,ls,vals,kids,⟨vk,vn,vs,vks⟩⟩:=x;simp only at hV hv h0 hvv hvl;refine aG bJ func63 rfl ?_;refine Z ?_;refine aL (λh=>?_) (λh=>?_)
 .have h1:kind=0:=su h
  subst h1;have e:fD (p6 ⟨0,name,lo,hi,ws,ls,vals,kids,.mk vk vn vs vks⟩)=gK (.mk vk vn vs vks):=by
   rw[h0 rfl];simp only[p6,if_true,aAi,fD];split
   .rfl
   .rename_i h;simpa using (Decidable.not_not.1 h).symm
  rw[e];generalize gK (.mk vk vn vs vks)=z at hV;refine Z ?_;refine hV.go ?_;refine Z ?_;exact aA nn ⟨rfl,rfl,rfl⟩
 .have h1:¬kind=0:=su h
  have e:p6 ⟨kind,name,lo,hi,ws,ls,vals,kids,.mk vk vn vs vks⟩=vals:=by simp[p6,h1]
  rw[e];refine Z ?_;refine bI.at bJ (λi:Nat=>i<=vals.length/\fD vals=fD (vals.drop i)) (λi=>⟨[(19,.il 4 (aR vals)),(20,.int .i64 vals.length),(21,.int .i64 i)],[],0,31⟩) (λi=>vals.length-i) 0 [] ⟨sq,sq⟩
   (bX ⟨aP (.il' (aW _)),⟨_,rfl,.int (by rw[aB])⟩,aF,trivial⟩) ?_
  rintro i ⟨hi,hf⟩;refine Z ?_;refine aL (λh=>?_) (λh=>?_)
  .have hil:i<vals.length:=su h
   have ei:(aR vals)[((i:Nat):Int).toNat]? = some (bY vals[i]):=by simp[i6,Yw hil]
   have hm:=ZW hil;have hV2:=Jy vals[i] (hvv _ hm).1 (hv _ hm);rw[List.drop_eq_getElem_cons hil,fD] at hf;generalize vals[i]=y at ei hV2 hf;generalize gK y=z at hV2 hf;obtain⟨y1,y2,y3,y4⟩:=y;refine Z ?_;refine aC ei ?_;refine Z ?_;refine hV2.go ?_;refine Z ?_;refine aL (λh2=>?_) (λh2=>?_)
   .have e:z≠0:=su h2
    rw[Y4 e] at hf;rw[hf];refine Z ?_;exact aA nn ⟨rfl,rfl,rfl⟩
   .have e:¬z≠0:=su h2
    rw[Yz e] at hf;refine Z ?_;exact .mk (i+1) [] ⟨om,hf⟩ (bX ⟨aP (.il' (aW _)),aF,⟨_,rfl,.w64 om oq⟩,trivial⟩) om
  .have hil:i=vals.length:=by simp at h;omega
   rw[hil,Z8,fD] at hf;rw[hf];refine Z ?_;exact aA nn ⟨rfl,rfl,rfl⟩
theorem Uo(x:Nd)(hx:sU x):aX prog [] 64 [.ip (cK x)] (.bool (eD x)):=by
 have b1:=hx.lo;have b2:=hx.hi;have b3:=hx.weights;clear hx;obtain⟨kind,name,lo,hi,ws,ls,vals,kids,⟨vk,vn,vs,vks⟩⟩:=x;simp only[i64] at b1 b2 b3;have hnum:eD ⟨kind,name,lo,hi,ws,ls,vals,kids,.mk vk vn vs vks⟩=(decide (lo<=hi) && decide (-4611686018427387904<=lo) && decide (hi<=4611686018427387904) && decide (hi<lo+1099511627776) && ws.all λw=>decide (1<=w) && decide (w<=1000)):=rfl;generalize eD ⟨kind,name,lo,hi,ws,ls,vals,kids,.mk vk vn vs vks⟩=res at hnum;have hF:∀P:Prop,(res=true->P)->(¬P)->res=false:=λP h1 h2=>by
  cases hr:res with
  | false=>rfl
  | true=>exact absurd (h1 hr) h2
 refine aG bJ func64 rfl ?_;refine Rt ?_;by_cases h1:lo<=hi
 .have d1:decide (lo>hi)=false:=by simp;omega
  rw[d1];refine Rt ?_;by_cases h2 : -4611686018427387904<=lo
  .have d2:decide (lo < -4611686018427387904)=false:=by simp;omega
   rw[d2];refine Rt ?_;by_cases h3:hi<=4611686018427387904
   .have d3:decide (hi>4611686018427387904)=false:=by simp;omega
    rw[d3];refine Rt ?_;have hw:IntKind.u64.wrap (IntKind.u64.wrap hi-IntKind.u64.wrap lo)=hi-lo:=by rw[jW,jW,jW];omega
    simp only[hw];by_cases h4:hi<lo+1099511627776
    .have d4:decide (hi-lo≥1099511627776)=false:=by simp;omega
     rw[d4];refine Z ?_;refine bI.at bJ (λk:Nat=>k<=ws.length/\∀j w,j<k->ws[j]? = some w->1<=w/\w<=1000)
      (λk=>⟨[(45,.il 1 (aV ws)),(46,.int .i64 ws.length),(47,.int .i64 k)],[],0,58⟩) (λk=>ws.length-k) 0 [] ⟨sq,sq⟩
      (bX ⟨aP (.il' (aT _)),⟨_,rfl,.int (by rw[aH])⟩,aF,trivial⟩) ?_
     rintro k ⟨hk,hall⟩;refine Z ?_;refine aL (λh=>?_) (λh=>?_)
     .have hlt:k<ws.length:=su h
      have e1:(aV ws)[(k:Int).toNat]? = some (.int .i64 ws[k]):=by rw[Yy,bK,Yw hlt];rfl
      have hg:ws[k]? = some ws[k]:=Yw hlt;generalize ws[k]=w at e1 hg;have hbad:(1<=w/\w<=1000->False)->res=false:=λhb=>hF (1<=w/\w<=1000) (by
       intro e;rw[hnum] at e;simp only[Y1,Z3,ZR] at e;exact e.2 w (Y2 hg)) hb
      refine Z ?_;refine aC e1 ?_;refine Z ?_;by_cases g1:1<=w
      .have d1:decide (w<1)=false:=by simp;omega
       rw[d1];refine Z ?_;refine aL (λh=>?_) (λh=>?_)
       .refine Z ?_;refine aA nn ⟨?_,rfl,rfl⟩;rw[hbad (by simp at h;omega)]
       .have g2:w<=1000:=su h
        refine Z ?_;refine .mk (k+1) [] ⟨om,λj w2 hj hw2=>?_⟩ (bX ⟨aP (.il' (aT _)),aF,⟨_,rfl,.w64 om oq⟩,trivial⟩) om;rcases ZG j k with hj'|hj'
        .exact hall j w2 hj' hw2
        .have hjk:j=k:=om;rw[hjk,hg] at hw2;cases hw2;exact⟨g1,g2⟩
      .have d1:decide (w<1)=true:=by simp;omega
       rw[d1];refine Z ?_;refine aA nn ⟨?_,rfl,rfl⟩;rw[hbad om]
     .have hk':k=ws.length:=by simp at h;omega
      refine Z ?_;refine aA nn ⟨?_,rfl,rfl⟩;rw[hnum];congr 1;symm;simp only[Y1,Z3,ZR];refine⟨⟨⟨⟨h1,h2⟩,h3⟩,h4⟩,λw hw=>?_⟩;obtain⟨j,hj⟩:=ZV hw;exact hall j w (by rw[hk'];exact(Y0.1 hj).1) hj
    .have d4:decide (hi-lo≥1099511627776)=true:=by simp;omega
     rw[d4];refine Z ?_;refine aA nn ⟨?_,rfl,rfl⟩;rw[hF (hi<lo+1099511627776) (by intro e;rw[hnum] at e;simp at e;omega) h4]
   .have d3:decide (hi>4611686018427387904)=true:=by simp;omega
    rw[d3];refine Z ?_;refine aA nn ⟨?_,rfl,rfl⟩;rw[hF (hi<=4611686018427387904) (by intro e;rw[hnum] at e;simp at e;omega) h3]
  .have d2:decide (lo < -4611686018427387904)=true:=by simp;omega
   rw[d2];refine Z ?_;refine aA nn ⟨?_,rfl,rfl⟩;rw[hF (-4611686018427387904<=lo) (by intro e;rw[hnum] at e;simp at e;omega) h2]
 .have d1:decide (lo>hi)=true:=by simp;omega
  rw[d1];refine Z ?_;refine aA nn ⟨?_,rfl,rfl⟩;rw[hF (lo<=hi) (by intro e;rw[hnum] at e;simp at e;omega) h1]
theorem LT(bs:List Int)(x:Nd)(hx:sU x)(hkl:x.kids.length<=65536)(hb:∀y∈bs,0<=y/\y<=1024)(hk:∀(j:Nat) (k:Int),x.kids[j]? = some k->0<=k/\k<bs.length)(h4:4<=x.kind->0<x.kids.length)(hkind:0<=x.kind/\x.kind<=4) :
  aX prog [] 67 [.ip (cK x),.il 1 (aV bs)] (.int .i64 (fN bs x)):=by
 have hxn:=bH x;have hat:∀k:Int,0<=eJ bs k/\eJ bs k<=1024:=λk=>by
  unfold eJ;rw[Yx];cases h:bs[k.toNat]? with
  | none=>simp
  | some y=>exact hb y (Y2 h)
 have eat:∀k:Int,0<=k->k<bs.length->(aV bs)[k.toNat]? = some (.int .i64 (eJ bs k)):=λk h0 h1=>by
  have:k.toNat<bs.length:=om;rw[bK,Yw this];unfold eJ;rw[Yx,Yw this];rfl
 have hs:=λl=>jJ (b:=bs) (M:=1024) om hb l
 have hm:=λl=>gR (b:=bs) (M:=1024) om hb l
 have hlen:fN bs x=if x.kind=0 then 0 else if x.kind=1 then 1 else if x.kind=3 then fR bs x.kids else if x.kind=2 then 1+cX bs (eQ x) else eJ bs (x.kids.getD 0 0)+cX bs (eQ x):=rfl
 have hM:∀k:Nat,k<x.kids.length->(cX bs (if x.kind=2 then x.kids.take (k+1) else(x.kids.take (k+1)).drop 1))=if 0<k\/x.kind=2 then max (cX bs (if x.kind=2 then x.kids.take k else(x.kids.take k).drop 1)) (eJ bs (x.kids.getD k 0)) else cX bs (if x.kind=2 then x.kids.take k else(x.kids.take k).drop 1):=λk hk=>by
  have eg:x.kids.getD k 0=x.kids[k]:=by rw[Yx,Yw hk];rfl
  rw[eg];by_cases e2:x.kind=2
  .rw[Y4 e2,Y4 (.inr e2),Y4 e2,sS hk]
  .rw[Yz e2,Yz e2];by_cases e0:0<k
   .rw[Y4 (.inl e0),pV hk e0]
   .rw[Yz om];have:k=0:=om;subst this;simp[cX,Zy]
 obtain⟨kind,name,lo,hi,ws,ls,vals,kids,⟨vk,vn,vs,vks⟩⟩:=x;simp only at hkl hk h4 hkind hlen hM;generalize fN bs ⟨kind,name,lo,hi,ws,ls,vals,kids,.mk vk vn vs vks⟩=res at hlen;refine aG bJ func67 rfl ?_;refine Z ?_;refine bI.at bJ (λp:Nat × Int × Int=>p.1<=kids.length/\p.2.1=fR bs (kids.take p.1)/\p.2.2=cX bs (if kind=2 then kids.take p.1 else(kids.take p.1).drop 1))
  (λp=>⟨[(0,.ip (cK ⟨kind,name,lo,hi,ws,ls,vals,kids,.mk vk vn vs vks⟩)),(1,.il 1 (aV bs)),(5,.int .i64 p.2.1),(6,.int .i64 p.2.2),(12,.il 1 (aV kids)),(13,.int .i64 kids.length),(14,.int .i64 p.1)],[],0,67⟩)
  (λp=>kids.length-p.1) (0,0,0) [] ⟨sq,by simp[fR],by simp[cX]⟩
  (bX ⟨aP (.ip _ (hxn.cells.get)),aP (.il' (aT _)),aF,aF,aP (.il' (aT _)),⟨_,rfl,.int (by rw[aH])⟩,aF,trivial⟩) ?_
 rintro⟨k,sum,most⟩ ⟨hkk,hsum,hmost⟩;simp only at hkk hsum hmost |-;have bsum:=hs (kids.take k);rw[<-hsum] at bsum;have bm:=hm (if kind=2 then kids.take k else(kids.take k).drop 1);rw[<-hmost] at bm;have btk:(kids.take k).length<=65536:=by simp;omega
 refine Z ?_;refine aL (λh=>?_) (λh=>?_)
 .have hlt:k<kids.length:=su h
  have e1:(aV kids)[(k:Int).toNat]? = some (.int .i64 kids[k]):=by rw[Yy,bK,Yw hlt];rfl
  obtain⟨q0,q1⟩:=hk k _ (Yw hlt);have hst:=wL (b:=bs) hlt;have hM:=hM k hlt;have eg:kids.getD k 0=kids[k]:=by rw[Yx,Yw hlt];rfl
  rw[<-hsum] at hst;rw[eg,<-hmost] at hM;generalize kids[k]=q at e1 q0 q1 hst hM;obtain⟨q,rfl⟩:=ZD q0;have e2:=eat q q0 q1;have hq:=hat q;generalize eJ bs q=z at e2 hq hst hM;have hw:IntKind.i64.wrap (sum+z)=sum+z:=bS oq;refine Z ?_;repeat((first|refine aC e1 ?_|refine aC e2 ?_);refine Z ?_)
  by_cases k0:0<k
  .have d0:decide ((k:Int)>0)=true:=by simp;omega
   rw[d0];refine Z ?_;repeat((first|refine aC e1 ?_|refine aC e2 ?_);refine Z ?_)
   exact .mk (k+1,sum+z,max most z) [] ⟨by simp only;omega,by simp only;rw[hst],by simp only;rw[hM,Y4 (.inl k0)]⟩ (bX ⟨aP (.ip _ (hxn.cells.get)),aP (.il' (aT _)),⟨_,rfl,.int (by simp only;exact hw)⟩,⟨_,rfl,.int (by simp only;split<;>omega)⟩,aP (.il' (aT _)),aF,⟨_,rfl,.wp⟩,trivial⟩) (by simp only;omega)
  .have k0':k=0:=om;have d0:decide ((k:Int)>0)=false:=by simp;omega
   rw[d0];refine Z ?_;by_cases k2:kind=2
   .subst k2;refine Z ?_;repeat((first|refine aC e1 ?_|refine aC e2 ?_);refine Z ?_)
    exact .mk (k+1,sum+z,max most z) [] ⟨by simp only;omega,by simp only;rw[hst],by show max most z=cX bs (if (2:Int)=2 then kids.take (k+1) else(kids.take (k+1)).drop 1);rw[hM,Y4 (.inr rfl)]⟩ (bX ⟨aP (.ip _ (hxn.cells.get)),aP (.il' (aT _)),⟨_,rfl,.int (by simp only;exact hw)⟩,⟨_,rfl,.int (by simp only;split<;>omega)⟩,aP (.il' (aT _)),aF,⟨_,rfl,.wp⟩,trivial⟩) (by simp only;omega)
   .have d2:(kind == 2)=false:=su k2
    rw[d2];refine Z ?_;exact .mk (k+1,sum+z,most) [] ⟨by simp only;omega,by simp only;rw[hst],by simp only;rw[hM,Yz om]⟩ (bX ⟨aP (.ip _ (hxn.cells.get)),aP (.il' (aT _)),⟨_,rfl,.int (by simp only;exact hw)⟩,aF,aP (.il' (aT _)),aF,⟨_,rfl,.wp⟩,trivial⟩) (by simp only;omega)
 .have hk':k=kids.length:=by simp at h;omega
  subst hk';rw[ZJ] at hsum hmost;have har:eQ ⟨kind,name,lo,hi,ws,ls,vals,kids,.mk vk vn vs vks⟩=if kind=2 then kids else kids.drop 1:=rfl
  rw[har,<-hmost,<-hsum] at hlen;rcases(show kind=0\/kind=1\/kind=2\/kind=3\/kind=4 by omega) with rfl|rfl|rfl|rfl|rfl
  .rw[hlen,Y4 rfl];refine Z ?_;exact aA nn ⟨rfl,rfl,rfl⟩
  .rw[hlen,Yz (by decide),Y4 rfl];refine Z ?_;exact aA nn ⟨rfl,rfl,rfl⟩
  .rw[hlen,Yz (by decide),Yz (by decide),Yz (by decide),Y4 rfl];refine Z ?_;rw[bS (n:=1+most) oq];exact aA nn ⟨rfl,rfl,rfl⟩
  .rw[hlen,Yz (by decide),Yz (by decide),Y4 rfl];refine Z ?_;exact aA nn ⟨rfl,rfl,rfl⟩
  .rw[hlen,Yz (by decide),Yz (by decide),Yz (by decide),Yz (by decide)];have hlt:0<kids.length:=h4 om;have e1:(aV kids)[(0:Int).toNat]? = some (.int .i64 kids[0]):=by rw[show (0:Int).toNat=0 from rfl,bK,Yw hlt];rfl
   obtain⟨q0,q1⟩:=hk 0 _ (Yw hlt);have eg:kids.getD 0 0=kids[0]:=by rw[Yx,Yw hlt];rfl
   rw[eg];generalize kids[0]=q at e1 q0 q1;obtain⟨q,rfl⟩:=ZD q0;have e2:=eat q q0 q1;have hq:=hat q;generalize eJ bs q=z at e2 hq;refine Z ?_;repeat((first|refine aC e1 ?_|refine aC e2 ?_);refine Z ?_)
   rw[bS (n:=z+most) oq];exact aA nn ⟨rfl,rfl,rfl⟩
mutual
theorem L7:∀(a b:bD),cN a b=0->a=b
 | .mk k n s ks,.mk k' n' s' ks',h=>by
  simp only[cN,andThen] at h;split at h
  .rename_i h1;split at h
   .rename_i h2;split at h
    .rename_i h3;have e1:k=k':=Decidable.byContradiction λe=>wJ e h1
     have e2:n=n':=Decidable.byContradiction λe=>wJ e h2
     rw[e1,e2,o0 h3,K9 ks ks' h]
    .rename_i h3;exact absurd h h3
   .rename_i h2;exact absurd h h2
  .rename_i h1;exact absurd h h1
theorem K9:∀(l m:List bD),gJ l m=0->l=m
 | [],[],_=>rfl
 | [],_::_,h=>by simp[gJ] at h
 | _::_,[],h=>by simp[gJ] at h
 | a::l,b::m,h=>by
  simp only[gJ,andThen] at h;split at h
  .rename_i h1;rw[L7 a b h1,K9 l m h]
  .rename_i h1;exact absurd h h1
end
def sY(x:Nd):Bool:=decide (0<=x.kind) && decide (x.kind<=4) && jF x
theorem CL{v:bD}:g6 [] [] [bY v,.agg [.int .i64 0,.int .i64 0,.str [],.nsl]] [bY v,bY (.mk 0 0 [] [])]:=
 .cons (.same _ (bT v)) (.cons (.agg' (.s (.s (.s (.cons (.nil 4) .nil))))) .nil)
theorem Tv(x:Nd)(hx:sU x):aX prog [] 61 [.ip (cK x)] (.bool (sY x)):=by
 have hC:=oE x.value (.mk 0 0 [] []) hx.value;have hz:(cN x.value (.mk 0 0 [] []) == 0)=CZ x.value:=by
  obtain⟨k,n,s,ks⟩:=x.value;rw[Ze];simp only[CZ,Y1,ZR,beq_iff_eq];constructor
  .intro h;have:=L7 _ _ h;cases this;simp
  .rintro⟨⟨⟨rfl,rfl⟩,rfl⟩,h⟩;have:ks=[]:=Zu.1 h;subst this;exact(jY _).refl
 have hres:sY x=(decide (0<=x.kind) && decide (x.kind<=4) && ((decide (x.kind=0) || CZ x.value) && (decide (x.kind=1) || (decide (x.lo=0) && decide (x.hi=0))) && (decide (x.kind=3) || decide (x.name=[])) &&
  (decide (x.kind=2) || (decide (x.weights.length=0) && decide (x.labels.length=0))) && (decide (x.kind=4) || decide (x.values.length=0)) && ((decide (x.kind≠0) && decide (x.kind≠1)) || decide (x.kids.length=0)))):=rfl
 generalize sY x=res at hres;rw[<-hz] at hres;obtain⟨c,hc⟩:∃c,c=cN x.value (.mk 0 0 [] []):=⟨_,rfl⟩
 rw[<-hc] at hC hres;clear hz hc hx;obtain⟨kind,name,lo,hi,ws,ls,vals,kids,⟨vk,vn,vs,vks⟩⟩:=x;simp only at hres hC;have eW:(((aV ws).length:Int) == 0)=decide (ws.length=0):=by rw[aH,Ze];simp
 have eL:(((oN ls).length:Int) == 0)=decide (ls.length=0):=by rw[cS,Ze];simp
 have eV:(((aR vals).length:Int) == 0)=decide (vals.length=0):=by rw[aB,Ze];simp
 have eK:(((aV kids).length:Int) == 0)=decide (kids.length=0):=by rw[aH,Ze];simp
 have eN:(name == [])=decide (name=[]):=by rw[Ze];simp
 have e1:(lo == 0)=decide (lo=0):=by rw[Ze];simp
 have e2:(hi == 0)=decide (hi=0):=by rw[Ze];simp
 refine aG bJ func61 rfl ?_;rcases(show kind=0\/kind=1\/kind=2\/kind=3\/kind=4\/(kind<0\/4<kind) by omega) with rfl|rfl|rfl|rfl|rfl|hk
 .refine Z ?_;rw[e1];generalize decide (lo=0)=b1 at hres |-;cases b1 with
  | false=>
   refine Z ?_;exact aA nn ⟨by rw[hres];simp,rfl,rfl⟩
  | true=>
  refine Z ?_;rw[e2];generalize decide (hi=0)=b2 at hres |-;cases b2 with
  | false=>
   refine Z ?_;exact aA nn ⟨by rw[hres];simp,rfl,rfl⟩
  | true=>
  refine Z ?_;rw[eW];generalize decide (ws.length=0)=b3 at hres |-;cases b3 with
  | false=>
   refine Z ?_;exact aA nn ⟨by rw[hres];simp,rfl,rfl⟩
  | true=>
  refine Z ?_;rw[eL];generalize decide (ls.length=0)=b4 at hres |-;cases b4 with
  | false=>
   refine Z ?_;exact aA nn ⟨by rw[hres];simp,rfl,rfl⟩
  | true=>
  refine Z ?_;rw[eN];generalize decide (name=[])=b5 at hres |-;cases b5 with
  | false=>
   refine Z ?_;exact aA nn ⟨by rw[hres];simp,rfl,rfl⟩
  | true=>
  refine Z ?_;rw[eV];generalize decide (vals.length=0)=b6 at hres |-;cases b6 with
  | false=>
   refine Z ?_;exact aA nn ⟨by rw[hres];simp,rfl,rfl⟩
  | true=>
  refine Z ?_;rw[eK];generalize decide (kids.length=0)=b7 at hres |-;cases b7 with
  | false=>
   refine Z ?_;exact aA nn ⟨by rw[hres];simp,rfl,rfl⟩
  | true=>
  refine Z ?_;exact aA nn ⟨by rw[hres];simp,rfl,rfl⟩
 .refine Z ?_;refine hC.useC bJ CL nn ?_;refine Z ?_;generalize (c == 0)=b1 at hres |-;cases b1 with
  | false=>
   refine Z ?_;exact aA nn ⟨by rw[hres];simp,rfl,rfl⟩
  | true=>
  refine Z ?_;rw[eW];generalize decide (ws.length=0)=b2 at hres |-;cases b2 with
  | false=>
   refine Z ?_;exact aA nn ⟨by rw[hres];simp,rfl,rfl⟩
  | true=>
  refine Z ?_;rw[eL];generalize decide (ls.length=0)=b3 at hres |-;cases b3 with
  | false=>
   refine Z ?_;exact aA nn ⟨by rw[hres];simp,rfl,rfl⟩
  | true=>
  refine Z ?_;rw[eN];generalize decide (name=[])=b4 at hres |-;cases b4 with
  | false=>
   refine Z ?_;exact aA nn ⟨by rw[hres];simp,rfl,rfl⟩
  | true=>
  refine Z ?_;rw[eV];generalize decide (vals.length=0)=b5 at hres |-;cases b5 with
  | false=>
   refine Z ?_;exact aA nn ⟨by rw[hres];simp,rfl,rfl⟩
  | true=>
  refine Z ?_;rw[eK];generalize decide (kids.length=0)=b6 at hres |-;cases b6 with
  | false=>
   refine Z ?_;exact aA nn ⟨by rw[hres];simp,rfl,rfl⟩
  | true=>
  refine Z ?_;exact aA nn ⟨by rw[hres];simp,rfl,rfl⟩
 .refine Z ?_;refine hC.useC bJ CL nn ?_;refine Z ?_;generalize (c == 0)=b1 at hres |-;cases b1 with
  | false=>
   refine Z ?_;exact aA nn ⟨by rw[hres];simp,rfl,rfl⟩
  | true=>
  refine Z ?_;rw[e1];generalize decide (lo=0)=b2 at hres |-;cases b2 with
  | false=>
   refine Z ?_;exact aA nn ⟨by rw[hres];simp,rfl,rfl⟩
  | true=>
  refine Z ?_;rw[e2];generalize decide (hi=0)=b3 at hres |-;cases b3 with
  | false=>
   refine Z ?_;exact aA nn ⟨by rw[hres];simp,rfl,rfl⟩
  | true=>
  refine Z ?_;rw[eN];generalize decide (name=[])=b4 at hres |-;cases b4 with
  | false=>
   refine Z ?_;exact aA nn ⟨by rw[hres];simp,rfl,rfl⟩
  | true=>
  refine Z ?_;rw[eV];generalize decide (vals.length=0)=b5 at hres |-;cases b5 with
  | false=>
   refine Z ?_;exact aA nn ⟨by rw[hres];simp,rfl,rfl⟩
  | true=>
  refine Z ?_;exact aA nn ⟨by rw[hres];simp,rfl,rfl⟩
 .refine Z ?_;refine hC.useC bJ CL nn ?_;refine Z ?_;generalize (c == 0)=b1 at hres |-;cases b1 with
  | false=>
   refine Z ?_;exact aA nn ⟨by rw[hres];simp,rfl,rfl⟩
  | true=>
  refine Z ?_;rw[e1];generalize decide (lo=0)=b2 at hres |-;cases b2 with
  | false=>
   refine Z ?_;exact aA nn ⟨by rw[hres];simp,rfl,rfl⟩
  | true=>
  refine Z ?_;rw[e2];generalize decide (hi=0)=b3 at hres |-;cases b3 with
  | false=>
   refine Z ?_;exact aA nn ⟨by rw[hres];simp,rfl,rfl⟩
  | true=>
  refine Z ?_;rw[eW];generalize decide (ws.length=0)=b4 at hres |-;cases b4 with
  | false=>
   refine Z ?_;exact aA nn ⟨by rw[hres];simp,rfl,rfl⟩
  | true=>
  refine Z ?_;rw[eL];generalize decide (ls.length=0)=b5 at hres |-;cases b5 with
  | false=>
   refine Z ?_;exact aA nn ⟨by rw[hres];simp,rfl,rfl⟩
  | true=>
  refine Z ?_;rw[eV];generalize decide (vals.length=0)=b6 at hres |-;cases b6 with
  | false=>
   refine Z ?_;exact aA nn ⟨by rw[hres];simp,rfl,rfl⟩
  | true=>
  refine Z ?_;exact aA nn ⟨by rw[hres];simp,rfl,rfl⟩
 .refine Z ?_;refine hC.useC bJ CL nn ?_;refine Z ?_;generalize (c == 0)=b1 at hres |-;cases b1 with
  | false=>
   refine Z ?_;exact aA nn ⟨by rw[hres];simp,rfl,rfl⟩
  | true=>
  refine Z ?_;rw[e1];generalize decide (lo=0)=b2 at hres |-;cases b2 with
  | false=>
   refine Z ?_;exact aA nn ⟨by rw[hres];simp,rfl,rfl⟩
  | true=>
  refine Z ?_;rw[e2];generalize decide (hi=0)=b3 at hres |-;cases b3 with
  | false=>
   refine Z ?_;exact aA nn ⟨by rw[hres];simp,rfl,rfl⟩
  | true=>
  refine Z ?_;rw[eW];generalize decide (ws.length=0)=b4 at hres |-;cases b4 with
  | false=>
   refine Z ?_;exact aA nn ⟨by rw[hres];simp,rfl,rfl⟩
  | true=>
  refine Z ?_;rw[eL];generalize decide (ls.length=0)=b5 at hres |-;cases b5 with
  | false=>
   refine Z ?_;exact aA nn ⟨by rw[hres];simp,rfl,rfl⟩
  | true=>
  refine Z ?_;rw[eN];generalize decide (name=[])=b6 at hres |-;cases b6 with
  | false=>
   refine Z ?_;exact aA nn ⟨by rw[hres];simp,rfl,rfl⟩
  | true=>
  refine Z ?_;exact aA nn ⟨by rw[hres];simp,rfl,rfl⟩
 .rcases hk with hk|hk
  .have d0:decide (kind≥0)=false:=by simp;omega
   refine Z ?_;rw[d0];refine Z ?_;exact aA nn ⟨by rw[hres,ZN (show ¬0<=kind by omega)];simp,rfl,rfl⟩
  .have d0:decide (kind≥0)=true:=by simp;omega
   have d1:decide (kind<=4)=false:=by simp;omega
   refine Z ?_;rw[d0];refine Z ?_;rw[d1];refine Z ?_;exact aA nn ⟨by rw[hres,d1];simp,rfl,rfl⟩
theorem SC(ns:List Nd)(i:Nat)(x:Nd)(hl:ns.length<=4294967296)(hi:ns[i]? = some x)(hx:sU x)(hvl:x.values.length<=1000000)(hc:sY x=true) :
  aX prog [] 62 [.ip (.agg [.il 12 (bC ns),.junk,.junk,.junk]),.int .i64 i] (.bool (dL i x)):=by
 have hil:=(Y0.1 hi).1;have ex:(bC ns)[(i:Int).toNat]? = some (cK x):=by simp[i7,hi]
 have b1:=hx.kids;have hxn:=bH x;have hnn:=bA ns;have hcmp:∀a∈x.values,∀b,aX prog [] 104 [bY a,bY b] (.int .i64 (cN a b)):=λa ha b=>oE a b (hx.valuesI a ha).1
 have hV:=Jy (.mk 3 0 x.name []) (lW oq oq hx.name sq (by simp[yI])) (by simp[bN,cY]);have hcap:(gK (.mk 3 0 x.name []) == 0)=fO x.name:=by
  simp only[gK,cJ,dJ,Go.Ax.d9,oK,zG,rS,bN,cY];cases fO x.name<;>simp
 have hres:dL i x=(jF x && (decide (0<=x.kind) && decide (x.kind<=4)) && Go.Ax.t7 i x.kids && (decide (x.kind≠2) || (decide (1<=x.kids.length) && decide (x.kids.length<=256) && decide (x.weights.length=x.kids.length) && (decide (x.labels.length=0) || decide (x.labels.length=x.kids.length)))) &&
  (decide (x.kind≠3) || (decide (x.kids.length<=256) && (decide (x.name=[]) || (fO x.name && decide (x.kids.length<=16))))) && (decide (x.kind≠4) || decide (x.kids.length=x.values.length+1)) && fX x.values):=rfl
 simp only[sY,Y1,ZR] at hc;obtain⟨⟨hk0,hk4⟩,hun⟩:=hc;rw[hun,Y7 hk0,Y7 hk4] at hres;have hvs:x.kind≠4->x.values=[]:=λh=>by
  unfold jF at hun;simp only[Y1,Z0,ZR] at hun;rcases hun.1.2 with h'|h'
  .exact absurd h' h
  .exact Zu.1 h'
 generalize dL i x=res at hres;rw[<-hcap] at hres;generalize gK (.mk 3 0 x.name [])=cv at hV hres;clear hx hcap hi hun;obtain⟨kind,name,lo,hi,ws,ls,vals,kids,⟨vk,vn,vs,vks⟩⟩:=x;simp only at hres hV hcmp hvs hk0 hk4 b1 hvl;have hF:(res=true->False)->AV.bool false=AV.bool res:=λh1=>by
  cases hr:res with
  | false=>rfl
  | true=>exact(h1 hr).elim
 refine aG bJ func62 rfl ?_;refine Z ?_;repeat(refine aC ex ?_;refine Z ?_)
 refine bI.at bJ (λk:Nat=>k<=kids.length/\∀(j:Nat) (q:Int),j<k->kids[j]? = some q->0<=q/\q<i)
  (λk=>⟨[(1,.int .i64 i),(5,.ip (cK ⟨kind,name,lo,hi,ws,ls,vals,kids,.mk vk vn vs vks⟩)),(6,.int .i64 kids.length),(24,.il 1 (aV kids)),(25,.int .i64 kids.length),(26,.int .i64 k)],[],0,132⟩) (λk=>kids.length-k) 0 [] ⟨sq,sq⟩
  (bX ⟨aF,aP (.ip _ (hxn.cells.get)),⟨_,rfl,.int (by rw[aH])⟩,aP (.il' (aT _)),⟨_,rfl,.int (by rw[aH])⟩,aF,trivial⟩) ?_
 rintro k ⟨hk,hall⟩;refine Z ?_;refine aL (λh=>?_) (λh=>?_)
 .have hlt:k<kids.length:=su h
  have e1:(aV kids)[(k:Int).toNat]? = some (.int .i64 kids[k]):=by rw[Yy,bK,Yw hlt];rfl
  have hg:kids[k]? = some kids[k]:=Yw hlt;generalize kids[k]=q at e1 hg;have hbad:(0<=q/\q<i->False)->AV.bool false=AV.bool res:=λhb=>hF (by
   intro e;rw[hres] at e;simp only[Y1] at e;exact hb (pE.1 e.1.1.1.1.2 k q hg))
  refine Z ?_;refine aC e1 ?_;refine Z ?_;by_cases g1:0<=q
  .have d1:decide (q<0)=false:=by simp;omega
   rw[d1];refine Z ?_;refine aL (λh=>?_) (λh=>?_)
   .refine Z ?_;exact aA nn ⟨hbad (by simp at h;omega),rfl,rfl⟩
   .have g2:q<i:=su h
    refine Z ?_;refine .mk (k+1) [] ⟨om,λj w2 hj hw2=>?_⟩ (bX ⟨aF,aP (.ip _ (hxn.cells.get)),aF,aP (.il' (aT _)),aF,⟨_,rfl,.w64 om oq⟩,trivial⟩) om;rcases ZG j k with hj'|hj'
    .exact hall j w2 hj' hw2
    .have hjk:j=k:=om;rw[hjk,hg] at hw2;cases hw2;exact⟨g1,g2⟩
  .have d1:decide (q<0)=true:=by simp;omega
   rw[d1];refine Z ?_;exact aA nn ⟨hbad om,rfl,rfl⟩
 .have hk':k=kids.length:=by simp at h;omega
  have hkin:Go.Ax.t7 i kids=true:=pE.2 λj q hj=>hall j q (by rw[hk'];exact(Y0.1 hj).1) hj
  rw[hkin] at hres;clear hall hk hk' h hkin;rcases(show kind=0\/kind=1\/kind=2\/kind=3\/kind=4 by omega) with rfl|rfl|rfl|rfl|rfl
  .obtain rfl:=hvs (by decide);refine Z ?_;exact aA nn ⟨by rw[hres];simp[fX],rfl,rfl⟩
  .obtain rfl:=hvs (by decide);refine Z ?_;exact aA nn ⟨by rw[hres];simp[fX],rfl,rfl⟩
  .obtain rfl:=hvs (by decide);have f1:decide ((kids.length:Int)≥1)=decide (1<=kids.length):=by rw[Ze];simp;omega
   have f2:decide ((kids.length:Int)<=256)=decide (kids.length<=256):=by rw[Ze];simp;omega
   have f3:(((aV ws).length:Int) == (kids.length:Int))=decide (ws.length=kids.length):=by rw[aH,Ze];simp;omega
   have f4:(((oN ls).length:Int) == 0)=decide (ls.length=0):=by rw[cS,Ze];simp
   have f5:(((oN ls).length:Int) == (kids.length:Int))=decide (ls.length=kids.length):=by rw[cS,Ze];simp;omega
   refine Z ?_;rw[f1];generalize decide (1<=kids.length)=b1 at hres |-;cases b1 with
   | false=>
    refine Z ?_;exact aA nn ⟨by rw[hres];simp,rfl,rfl⟩
   | true=>
   refine Z ?_;rw[f2];generalize decide (kids.length<=256)=b2 at hres |-;cases b2 with
   | false=>
    refine Z ?_;exact aA nn ⟨by rw[hres];simp,rfl,rfl⟩
   | true=>
   refine Z ?_;rw[f3];generalize decide (ws.length=kids.length)=b3 at hres |-;cases b3 with
   | false=>
    refine Z ?_;exact aA nn ⟨by rw[hres];simp,rfl,rfl⟩
   | true=>
   refine Z ?_;rw[f4];generalize decide (ls.length=0)=b4 at hres |-;cases b4 with
   | true=>
    refine Z ?_;exact aA nn ⟨by rw[hres];simp[fX],rfl,rfl⟩
   | false=>
    refine Z ?_;rw[f5];exact aA nn ⟨by rw[hres];simp[fX],rfl,rfl⟩
  .obtain rfl:=hvs (by decide);have f1:decide ((kids.length:Int)<=16)=decide (kids.length<=16):=by rw[Ze];simp;omega
   have f2:decide ((kids.length:Int)<=256)=decide (kids.length<=256):=by rw[Ze];simp;omega
   refine Z ?_;refine aL (λh=>?_) (λh=>?_)
   .have hn:name=[]:=su h
    rw[Y7 hn] at hres;refine Z ?_;rw[f2];exact aA nn ⟨by rw[hres];simp[fX],rfl,rfl⟩
   .have hn:¬name=[]:=su h
    rw[ZN hn] at hres;refine Z ?_;rw[f1];by_cases g:kids.length<=16
    .rw[Y7 g] at hres |-;rw[Y7 (show kids.length<=256 by omega)] at hres;refine Z ?_;refine hV.useC bJ (.cons (.agg' (.s (.s (.s (.cons (.nil 4) .nil))))) .nil) nn ?_;refine Z ?_;exact aA nn ⟨by rw[hres];simp[fX],rfl,rfl⟩
    .rw[ZN g] at hres |-;refine Z ?_;exact aA nn ⟨by rw[hres];simp,rfl,rfl⟩
  .have hw4:IntKind.i64.wrap ((vals.length:Int)+1)=(vals.length:Int)+1:=w64 rfl oq;refine Z ?_;refine bI.at bJ (λk:Nat=>1<=k/\k<=max 1 vals.length/\∀(j:Nat) (a b:bD),j+1<k->vals[j]? = some a->vals[j+1]? = some b->cN a b<0)
    (λk=>⟨[(5,.ip (cK ⟨4,name,lo,hi,ws,ls,vals,kids,.mk vk vn vs vks⟩)),(6,.int .i64 kids.length),(9,.int .i64 k)],[],0,132⟩) (λk=>vals.length-k) 1 [] ⟨om,om,λj a b h=>om⟩
    (bX ⟨aP (.ip _ (hxn.cells.get)),aF,aF,trivial⟩) ?_
   rintro k ⟨hk1,hk2,hall⟩;refine Z ?_;refine aL (λh=>?_) (λh=>?_)
   .have hlt:k<vals.length:=by rw[aB] at h;simpa using h
    obtain⟨p1,p2,p3,p4,pm,pg,-,ep⟩:=dE (l:=vals) (k:=k-1) om;obtain⟨q1,q2,q3,q4,qm,qg,-,eq⟩:=dE (l:=vals) (k:=k) hlt;have hw1:IntKind.i64.wrap ((k:Int)-1)=((k-1:Nat):Int):=w64 om oq;have hc:=hcmp _ pm (.mk q1 q2 q3 q4);obtain⟨c,hc0⟩:∃c,c=cN (.mk p1 p2 p3 p4) (.mk q1 q2 q3 q4):=⟨_,rfl⟩
    rw[<-hc0] at hc;refine Rt ?_;rw[hw1];refine Z ?_;repeat((first|refine aC ep ?_|refine aC eq ?_|refine aY ?_);refine Z ?_)
    refine hc.go ?_;refine Z ?_;repeat((first|refine aC ep ?_|refine aC eq ?_|refine aY ?_);refine Z ?_)
    refine aL (λh=>?_) (λh=>?_)
    .refine Z ?_;refine aA nn ⟨hF ?_,rfl,rfl⟩;intro e;rw[hres] at e;simp only[Y1] at e;have:=yN e.2 (k-1) _ _ pg (by rw[show k-1+1=k by omega];exact qg);rw[<-hc0] at this;simp at h;omega
    .refine Z ?_;refine .mk (k+1) [] ⟨om,om,λj a b hj ha hb=>?_⟩ (bX ⟨aP (.ip _ (hxn.cells.get)),aF,⟨_,rfl,.w64 om oq⟩,trivial⟩) om;rcases ZG (j+1) k with hj'|hj'
     .exact hall j a b hj' ha hb
     .have hjk:j=k-1:=om;subst hjk;rw[pg] at ha;rw[show k-1+1=k by omega,qg] at hb;cases ha;cases hb;rw[<-hc0];simpa using h
   .have hlt:vals.length<=k:=by rw[aB] at h;simpa using h
    have hso:fX vals=true:=x7 λj a b ha hb=>hall j a b (by have:=(Y0.1 hb).1;omega) ha hb
    rw[hso] at hres;refine Z ?_;rw[aB,hw4];refine aA nn ⟨?_,rfl,rfl⟩;rw[hres];congr 1;rw[Ze];simp;omega
theorem bQ{a b:Bool}(h1:a=true)(h2:b=true):(a && b)=true:=by rw[h1,h2];rfl
theorem pQ{n:Nat}{s m:Int}(hn:Nat.ble n 100=true)(hs:0<=s)(h:100*s<=m):decide ((n:Int)*s<=m)=true:=by
 have hn:=Y5 hn;have:(n:Int)*s<=100*s:=aBL om hs;simp;omega
theorem Sw(a b:List bD)(ha:a.length<=1000000)(hb:b.length<=1000000)(hok:∀v∈a,iG v) :
  aX prog [] 258 [.il 4 (aR a),.il 4 (aR b)] (.il 4 (aR (fJ a b))):=by
 refine aG bJ func258 rfl ?_;cases a with
 | nil=>
  rw[Db];refine Z ?_;exact aA (.il' (aW _)) ⟨rfl,rfl,rfl⟩
 | cons x l=>
  have d0:(((aR (x::l)).length:Int) == 0)=false:=by rw[aB,beq_eq_false_iff_ne];simp;omega
  obtain⟨a,hae⟩:∃a,a=x::l:=⟨_,rfl⟩
  rw[<-hae] at d0 ha hok |-;clear hae;refine Z ?_;rw[d0];have hw:IntKind.i64.wrap (((aR a).length:Int)+((aR b).length:Int))=((aR a).length:Int)+((aR b).length:Int):=bS ⟨om,by rw[aB,aB];omega⟩;have hal:(aR a).length<=1000000:=by rw[aB];exact ha
  have hbl:(aR b).length<=1000000:=by rw[aB];exact hb
  refine Z ?_;rw[hw];refine aO (bQ rfl (bQ rfl (bQ rfl (bQ rfl (bQ (Y7 om) (bQ (pQ rfl om om) (Y7 om))))))) ?_;refine Z ?_;refine bI.at bJ (λp:List bD × List bD × List bD=>fJ a b=p.1++fJ p.2.1 p.2.2/\p.1.length<=2000000-p.2.1.length-p.2.2.length/\p.2.1.length+p.2.2.length<=2000000/\∀v∈p.2.1,iG v)
   (λp=>⟨[(0,.il 4 (aR p.2.1)),(1,.il 4 (aR p.2.2)),(5,.sl 0 0 p.1.length)],[(0,.row 50 4 (aR p.1))],1,57⟩) (λp=>p.2.1.length+p.2.2.length) ([],a,b) [(0,0)] ⟨sq,sq,by simp only;omega,hok⟩
   (aK _ rfl ⟨aI 0 .nil,trivial⟩ ⟨aP (.il' (aW _)),aP (.il' (aW _)),⟨_,rfl,.sl 0 0 0 _ rfl⟩,trivial⟩) ?_
  clear hok hw hal hbl d0 ha hb;rintro⟨out,a',b'⟩ ⟨hm,hlen,hle,hok⟩;simp only at hm hlen hle hok |-;have eg:∀(z:bD) (r:List bD),decide (((aR (z::r)).length:Int)>0)=true:=λz r=>by rw[aB];simp
  have WJ:∀(z:bD) (r:List bD),((Int.toNat 1).ble (aR (z::r)).length && ((aR (z::r)).length.ble (aR (z::r)).length && (aR (z::r)).length.ble (aR (z::r)).length))=true:=λz r=>bQ (Y3 (by rw[aB];simp)) (bQ (Y3 (Y8 _)) (Y3 (Y8 _)))
  have ec:∀(z:bD) (r:List bD),List.take ((aR (z::r)).length-Int.toNat 1) (List.drop (Int.toNat 1) (aR (z::r)))=aR r:=λz r=>by
   show List.take ((aR (z::r)).length-1) (aR r)=aR r
   exact Y9 (by rw[aB,aB];simp)
  have fin:∀(o p q:List bD) (mem:aQ) (n:Nat) (id:Nat),fJ a b=o++p++q->lk mem id=some (.row 50 4 (aR o++aR p++aR q))->kH 0 (λr m n=>r=AV.il 4 (aR (fJ a b))/\m=[]/\n=0) (.sl id 0 (o.length+(aR p).length+(aR q).length)) mem n:=by
   intro o p q mem n id h hl;refine cW (r':=.il 4 (aR (fJ a b))) (.fzR hl rfl (.eq (aW _) (by rw[h];simp[Go.Ax.f9])) (by rw[h];simp[aB];omega)) ⟨rfl,rfl,rfl⟩
  cases a' with
  | nil=>
   rw[Db] at hm;refine Z ?_;refine aO (cP rfl rfl (by simp[aB]) (by simp[aB] at *;omega)) ?_;refine Z ?_;refine aO (cP rfl rfl (by simp[aB]) (by simp[aB] at *;omega)) ?_;refine Z ?_;exact fin out [] b' _ _ _ (su hm) rfl
  | cons x l=>
   cases b' with
   | nil=>
    rw[Jd] at hm;refine Z ?_;rw[eg];refine Z ?_;refine aO (cP rfl rfl (by simp[aB]) (by simp[aB] at *;omega)) ?_;refine Z ?_;refine aO (cP rfl rfl (by simp[aB]) (by simp[aB] at *;omega)) ?_;refine Z ?_;exact fin out (x::l) [] _ _ _ (su hm) rfl
   | cons y m=>
    rw[IS] at hm;have hc:=oE x y (hok x sq);have hok':∀v∈l,iG v:=λv hv=>hok v (by simp[hv])
    obtain⟨c,hc0⟩:∃c,c=cN x y:=⟨_,rfl⟩
    rw[<-hc0] at hc hm;clear hc0;obtain⟨x1,x2,x3,x4⟩:=x;obtain⟨y1,y2,y3,y4⟩:=y;refine Z ?_;rw[eg];refine Z ?_;rw[eg];refine Rt ?_;refine hc.go ?_;refine Z ?_;rcases(show c<0\/c=0\/0<c by omega) with hcc|hcc|hcc
    .have d1:decide (c<=0)=true:=by simp;omega
     have d2:decide (c≥0)=false:=by simp;omega
     rw[Y4 hcc] at hm;rw[d1];refine Rt ?_;refine aO (cP rfl rfl (by simp[aB]) (by simp[aB] at *;omega)) ?_;refine Z ?_;refine aO (WJ _ _) ?_;rw[ec];refine Z ?_;rw[d2];refine Z ?_;exact .mk (out++[.mk x1 x2 x3 x4],l,(.mk y1 y2 y3 y4)::m) [(10,0)] ⟨su hm,by simp at *;omega,by simp at *;omega,hok'⟩ (aK _ rfl ⟨⟨10,_,rfl,rfl,.eq (aW _) (by rw[gY];rfl)⟩,trivial⟩ ⟨aP (.il' (aW _)),aP (.il' (aW _)),⟨_,rfl,.slE rfl sq⟩,trivial⟩) (by first|(simp;done)|(simp;omega))
    .have d1:decide (c<=0)=true:=by simp;omega
     have d2:decide (c≥0)=true:=by simp;omega
     rw[Yz om,Y4 hcc] at hm;rw[d1];refine Rt ?_;refine aO (cP rfl rfl (by simp[aB]) (by simp[aB] at *;omega)) ?_;refine Z ?_;refine aO (WJ _ _) ?_;rw[ec];refine Z ?_;rw[d2];refine Z ?_;refine aO (WJ _ _) ?_;rw[ec];refine Z ?_;exact .mk (out++[.mk x1 x2 x3 x4],l,m) [(10,0)] ⟨su hm,by simp at *;omega,by simp at *;omega,hok'⟩ (aK _ rfl ⟨⟨10,_,rfl,rfl,.eq (aW _) (by rw[gY];rfl)⟩,trivial⟩ ⟨aP (.il' (aW _)),aP (.il' (aW _)),⟨_,rfl,.slE rfl sq⟩,trivial⟩) (by first|(simp;done)|(simp;omega))
    .have d1:decide (c<=0)=false:=by simp;omega
     have d2:decide (c≥0)=true:=by simp;omega
     rw[Yz om,Yz om] at hm;rw[d1];refine Rt ?_;refine aO (cP rfl rfl (by simp[aB]) (by simp[aB] at *;omega)) ?_;refine Z ?_;rw[d2];refine Z ?_;refine aO (WJ _ _) ?_;rw[ec];refine Z ?_;exact .mk (out++[.mk y1 y2 y3 y4],(.mk x1 x2 x3 x4)::l,m) [(10,0)] ⟨su hm,by simp at *;omega,by simp at *;omega,hok⟩ (aK _ rfl ⟨⟨10,_,rfl,rfl,.eq (aW _) (by rw[gY];rfl)⟩,trivial⟩ ⟨aP (.il' (aW _)),aP (.il' (aW _)),⟨_,rfl,.slE rfl sq⟩,trivial⟩) (by first|(simp;done)|(simp;omega))
theorem uE{G β γ:Type}(f:G->β->γ):∀(a:List G) (b:List β) (i:Nat) (x:G) (y:β),b[i]? = some y->List.zipWith f (a.set i x) b=(List.zipWith f a b).set i (f x y)
 | [],b,i,x,y,_=>sq
 | p::a,[],i,x,y,hy=>by simp at hy
 | p::a,q::b,0,x,y,hy=>by simp at hy;subst hy;simp
 | p::a,q::b,i+1,x,y,hy=>by simp at hy;simp[uE f a b i x y hy]
def kB(kn:List Bool):List AV:=kn.map AV.bool
def lB(L:List iF)(kn:List Bool):List AV:=List.zipWith (λb (x:iF)=>AV.il 4 (aR (if b=true then x.vals else []))) kn L
def mB(L:List iF)(kn:List Bool):List AV:=List.zipWith (λb (x:iF)=>AV.bool (b && x.many)) kn L
theorem iY(kn:List Bool):jU (kB kn):=λa ha=>by
 obtain⟨n,_,rfl⟩:=ZL.1 ha;exact .bool _
theorem LU{G β γ:Type}{f:G->β->γ}{a:List G}{b:List β}{z:γ}(h:z∈List.zipWith f a b):∃x y,z=f x y:=by
 obtain⟨i,hi⟩:=ZV h;rw[aBJ] at hi;split at hi
 .cases hi;exact⟨_,_,rfl⟩
 .cases hi
theorem AI(L:List iF)(kn:List Bool):jU (lB L kn):=λa ha=>by
 obtain⟨x,y,rfl⟩:=LU ha;exact .il' (aW _)
theorem xH(L:List iF)(kn:List Bool):jU (mB L kn):=λa ha=>by
 obtain⟨x,y,rfl⟩:=LU ha;exact .bool _
theorem Aq{L:List iF}{i:Nat}(h:i<L.length):L[i]? = some (dV L i):=by
 unfold dV;rw[Yx,Yy,Yw h];rfl
theorem Og{kn:List Bool}{i:Nat}{b:Bool}(h:kn[i]? = some b):(kB kn)[i]? = some (.bool b):=by simp[kB,h]
theorem Ok{L:List iF}{kn:List Bool}{i:Nat}{b:Bool}(h:kn[i]? = some b)(hl:i<L.length):(lB L kn)[i]? = some (.il 4 (aR (if b=true then(dV L i).vals else []))):=by
 simp[lB,aBJ,h,Aq hl]
theorem OS{L:List iF}{kn:List Bool}{i:Nat}{b:Bool}(h:kn[i]? = some b)(hl:i<L.length):(mB L kn)[i]? = some (.bool (b && (dV L i).many)):=by
 simp[mB,aBJ,h,Aq hl]
theorem UP(kn:List Bool)(i:Nat)(b:Bool):kB (kn.set i b)=(kB kn).set i (.bool b):=by simp[kB,aA9]
theorem VE{L:List iF}(kn:List Bool){i:Nat}(hl:i<L.length):lB L (kn.set i true)=(lB L kn).set i (.il 4 (aR (dV L i).vals)):=by
 unfold lB;rw[uE _ kn L i true _ (Aq hl)];simp
theorem UA{L:List iF}(kn:List Bool){i:Nat}(hl:i<L.length):mB L (kn.set i true)=(mB L kn).set i (.bool (dV L i).many):=by
 unfold mB;rw[uE _ kn L i true _ (Aq hl)];simp
def sM(ns:List Nd)(kn:List Bool):aQ:=[(0,.row 144 4 [.agg [.il 12 (bC ns),.sl 1 0 ns.length,.sl 2 0 ns.length,.sl 3 0 ns.length]]),(1,.row 4 1 (kB kn)),(2,.row 48 1 (lB (aS ns) kn)),(3,.row 4 1 (mB (aS ns) kn))]
def uQ(ns:List Nd)(l:iF):AV->aQ->Nat->Prop:=λr m k=>∃kn,kn.length=ns.length/\r = .tup [.il 4 (aR l.vals),.bool (!l.many)]/\m=sM ns kn/\k=4
def sQ(ns:List Nd)(i:Nat):AV->aQ->Nat->Prop:=uQ ns (dV (aS ns) i)
theorem Ec{mem:aQ}{J:List (Nat × Nat)}{ns:List Nd}{N a b c a' b' c':Nat}(h1:lk J a=some a')(h2:lk J b=some b')(h3:lk J c=some c') :
  tO mem J [.agg [.il 12 (bC ns),.sl a 0 N,.sl b 0 N,.sl c 0 N]] [.agg [.il 12 (bC ns),.sl a' 0 N,.sl b' 0 N,.sl c' 0 N]]:=
 .cons (.agg (.cons (.same _ (.il' (bA _))) (.cons (.sl a a' 0 N h1) (.cons (.sl b b' 0 N h2) (.cons (.sl c c' 0 N h3) .nil))))) .nil
theorem gH(ns:List Nd)(kn:List Bool):cO (sM ns kn) (rJ [0,1,2,3]) (sM ns kn):=
 ⟨⟨0,_,rfl,rfl,Ec rfl rfl rfl⟩,aI 1 (iY _),aI 2 (AI _ _),aI 3 (xH _ _),trivial⟩
theorem YI{ns:List Nd}{n:Nat}(h:iL ns n)(i:Nat)(hi:i<n)(kn:List Bool)(hk:kn.length=ns.length)
  (hF:aJ prog [] 195 [.ptr 0 0 0,.int .i64 i] (sM ns kn) 4 (sQ ns i)) :
  aJ prog [] 125 [.ptr 0 0 0,.int .i64 i] (sM ns kn) 4 (sQ ns i):=by
 have hN:=h.hn;have hL:i<(aS ns).length:=by rw[Go.Ax.f8];omega
 have h0:0+((i:Nat):Int).toNat=i:=sq
 have hg:∀kn:List Bool,kn.length=ns.length->∃b,kn[i]? = some b:=λkn hk=>⟨kn[i],Yw om⟩
 obtain⟨b,hb⟩:=hg kn hk;have e1:(kB kn)[0+((i:Nat):Int).toNat]? = some (.bool b):=by rw[h0];exact Og hb
 have g1:Nat.blt ((i:Nat):Int).toNat ns.length=true:=Y3 (by simp;omega);refine aG bJ func125 rfl ?_;refine Z ?_;repeat((first|refine aO g1 ?_|refine aC e1 ?_);refine Z ?_)
 have fin:∀(mem:aQ) (kn':List Bool),kn'.length=ns.length->cO mem (rJ [0,1,2,3]) (sM ns kn')->∀(r:AV) (nx:Nat),Cv mem (rJ [0,1,2,3]) r (.tup [.il 4 (aR (dV (aS ns) i).vals),.bool (!(dV (aS ns) i).many)])->kH 4 (sQ ns i) r mem nx:=
  λmem kn' hk' hM r nx hr=>bM (n':=4) (m':=sM ns kn') (rJ [0,1,2,3]) rfl hM hr ⟨kn',hk',rfl,rfl,rfl⟩
 cases b with
 | true=>
  have e2:(lB (aS ns) kn)[0+((i:Nat):Int).toNat]? = some (.il 4 (aR (dV (aS ns) i).vals)):=by rw[h0,Ok hb hL];rfl
  have e3:(mB (aS ns) kn)[0+((i:Nat):Int).toNat]? = some (.bool (dV (aS ns) i).many):=by rw[h0,OS hb hL];rfl
  refine Z ?_;repeat((first|refine aO g1 ?_|refine aC e1 ?_|refine aC e2 ?_|refine aC e3 ?_|refine aY ?_);refine Z ?_)
  exact fin _ kn hk (gH ns kn) _ _ (.same _ nn)
 | false=>
  refine Z ?_;refine aJ.useI bJ [0,1,2,3] hF (by rfl) (.cons (.ptr 0 0 0 0 rfl) (.s .nil)) (gH ns kn) (by rfl) ?_;rintro r m k ⟨kn',hk',rfl,rfl,rfl⟩;refine⟨nn,gH ns kn',by rfl, ?_⟩;obtain⟨b',hb'⟩:=hg kn' hk';have e1:(kB kn')[0+((i:Nat):Int).toNat]? = some (.bool b'):=by rw[h0];exact Og hb'
  have e2:=Ok hb' hL;have e3:=OS hb' hL;rw[<-h0] at e2 e3;have q1:((kB kn').set (0+((i:Nat):Int).toNat) (.bool true))[0+((i:Nat):Int).toNat]? = some (.bool true):=by rw[h0];exact Zt (by simp[kB];omega)
  have q2:((lB (aS ns) kn').set (0+((i:Nat):Int).toNat) (.il 4 (aR (dV (aS ns) i).vals)))[0+((i:Nat):Int).toNat]? = some (.il 4 (aR (dV (aS ns) i).vals)):=by rw[h0];exact Zt (by simp[lB,List.length_zipWith];omega)
  have q3:((mB (aS ns) kn').set (0+((i:Nat):Int).toNat) (.bool (!(!(dV (aS ns) i).many))))[0+((i:Nat):Int).toNat]? = some (.bool (!(!(dV (aS ns) i).many))):=by rw[h0];exact Zt (by simp[mB,List.length_zipWith];omega)
  refine Z ?_;repeat((first|refine aO g1 ?_|refine aC e1 ?_|refine aC e2 ?_|refine aC e3 ?_|refine aC q1 ?_|refine aC q2 ?_|refine aC q3 ?_|refine aY ?_|refine dF.2 ?_);refine Z ?_)
  rw[h0];refine fin _ (kn'.set i true) (by simp[hk']) ⟨⟨0,_,rfl,rfl,Ec rfl rfl rfl⟩,⟨1,_,rfl,rfl,.eq (iY _) (UP _ _ _).symm⟩,⟨2,_,rfl,rfl,.eq (AI _ _) (VE _ hL).symm⟩,⟨3,_,rfl,rfl,.eq (xH _ _) (by rw[UA _ hL,Bool.not_not])⟩,trivial⟩ _ _ (.eq nn (by rw[Bool.not_not]))
def TA(ns:List Nd)(i:Nat):Prop:=∀kn:List Bool,kn.length=ns.length->aJ prog [] 125 [.ptr 0 0 0,.int .i64 i] (sM ns kn) 4 (sQ ns i)
theorem B0{ns:List Nd}{l:iF}(mem:aQ)(kn':List Bool)(hk':kn'.length=ns.length)(hM:cO mem (rJ [0,1,2,3]) (sM ns kn'))(r:AV)(nx:Nat)(hr:Cv mem (rJ [0,1,2,3]) r (.tup [.il 4 (aR l.vals),.bool (!l.many)])):kH 4 (uQ ns l) r mem nx:=
 bM (n':=4) (m':=sM ns kn') (rJ [0,1,2,3]) rfl hM hr ⟨kn',hk',rfl,rfl,rfl⟩
theorem U2{ns:List Nd}{n:Nat}(h:iL ns n)(i:Nat)(hi:i<=n)(kids:List Int)(hkl:kids.length<=65536)(hkids:∀k∈kids,0<=k/\k<i)(hOf:∀j<i,TA ns j)(kn:List Bool)(hk:kn.length=ns.length) :
  aJ prog [] 237 [.ptr 0 0 0,.il 1 (aV kids)] (sM ns kn) 4 (uQ ns (mL (aS ns) kids)):=by
 refine aG bJ func237 rfl ?_;refine Z ?_;refine bI.at bJ (λp:Nat × List Bool × List bD=>p.1<=kids.length/\p.2.1.length=ns.length/\(kids.take p.1).foldl (bU (aS ns)) ([],false)=(p.2.2,false)/\lK p.2.2/\p.2.2.length<=1024/\∀v∈p.2.2,iG v)
  (λp=>⟨[(0,.ptr 0 0 0),(6,.il 4 (aR p.2.2)),(11,.il 1 (aV kids)),(12,.int .i64 kids.length),(13,.int .i64 p.1)],sM ns p.2.1,4,33⟩) (λp=>kids.length-p.1) (0,kn,[]) (rJ [0,1,2,3])
  ⟨sq,hk,sq,by simp[lK],sq,sq⟩
  (aK _ rfl (gH ns kn) ⟨aN,⟨_,rfl,.nil 4⟩,aP (.il' (aT _)),⟨_,rfl,.int (by rw[aH])⟩,aF,trivial⟩) ?_
 rintro⟨j,kn,out⟩ ⟨hj,hk,hf,hso,hol,hok⟩;simp only at hj hk hf hso hol hok |-;refine Z ?_;refine aL (λhb=>?_) (λhb=>?_)
 .have hlt:j<kids.length:=su hb
  have e1:(aV kids)[(j:Int).toNat]? = some (.int .i64 kids[j]):=by rw[Yy,bK,Yw hlt];rfl
  have hg:kids[j]? = some kids[j]:=Yw hlt;generalize kids[j]=k at e1 hg;obtain⟨k0,k1⟩:=hkids k (Y2 hg);obtain⟨k,rfl⟩:=ZD k0;have hO:=hOf k om kn hk;have hst:=Tn hg hf;have hvals:=h.vals (k:=k) om om;have hsr:=Xy ns k;simp only[bU,aBi] at hst;unfold sQ at hO;refine Z ?_;refine aC e1 ?_;refine Z ?_;refine aJ.useI bJ [0,1,2,3] hO (by rfl) (.cons (.ptr 0 0 0 0 rfl) (.s .nil)) (gH ns kn) (by rfl) ?_;rintro r m k' ⟨kn',hk',rfl,rfl,rfl⟩;refine⟨nn,gH ns kn',by rfl, ?_⟩;generalize dV (aS ns) k=lk at hst hvals hsr;obtain⟨lv,lm⟩:=lk;simp only at hst hvals hsr;cases lm with
  | true=>
   have hbad:=Go.Ax.LE (bs:=aS ns) (kids:=kids) (j:=j+1) (by rw[hst];rfl);rw[hbad];refine Z ?_;exact B0 _ kn' hk' (gH ns kn') _ _ (.tup' (.cons (.nil 4) (.s .nil)))
  | false=>
   have hm:=Sw out lv om om hok;have hms:=Je hso hsr;rw[<-hms] at hst;have hmok:∀v∈fJ out lv,iG v:=λv hv=>by
    rcases(pI _ _ _).1 hv with hv|hv
    .exact hok v hv
    .exact hvals.2 v hv
   have hmsr:=Ck out lv hso hsr;generalize fJ out lv=mg at *;refine Z ?_;refine hm.go ?_;refine Z ?_;refine aL (λhb2=>?_) (λhb2=>?_)
   .have h1:1024<mg.length:=by rw[aB] at hb2;simp at hb2;omega
    have hbad:=Go.Ax.LE (bs:=aS ns) (kids:=kids) (j:=j+1) (by rw[hst];simpa using h1);rw[hbad];refine Z ?_;exact B0 _ kn' hk' (gH ns kn') _ _ (.tup' (.cons (.nil 4) (.s .nil)))
   .have h1:mg.length<=1024:=by rw[aB] at hb2;simp at hb2;omega
    refine Z ?_;exact .mk (j+1,kn',mg) (rJ [0,1,2,3]) ⟨by simp only;omega,hk',by simp only;rw[hst];simp;omega,hmsr,h1,hmok⟩
     (aK _ rfl (gH ns kn') ⟨aN,aF,aP (.il' (aT _)),aF,⟨_,rfl,.wp⟩,trivial⟩) (by simp only;omega)
 .have hlt:j=kids.length:=by simp at hb;omega
  rw[hlt,ZJ] at hf;rw[OB hf];refine Z ?_;exact B0 _ kn hk (gH ns kn) _ _ (.same _ nn)
def cC(ls:List (List bD)):List AV:=ls.map λl=>.il 4 (aR l)
theorem bR(ls:List (List bD)):jU (cC ls):=λa ha=>by
 obtain⟨l,_,rfl⟩:=ZL.1 ha;exact .il' (aW _)
theorem r9(ls:List (List bD)):(cC ls).length=ls.length:=by simp[cC]
theorem mZ{ls:List (List bD)}{i:Nat}{l:List bD}(h:ls[i]? = some l):(cC ls)[i]? = some (.il 4 (aR l)):=by simp[cC,h]
def VZ(ns:List Nd)(kn:List Bool)(rest:aQ):aQ:=(0,.row 144 4 [.agg [.il 12 (bC ns),.sl 1 0 ns.length,.sl 2 0 ns.length,.sl 3 0 ns.length]])::(1,.row 4 1 (kB kn))::(2,.row 48 1 (lB (aS ns) kn))::(3,.row 4 1 (mB (aS ns) kn))::rest
theorem gT{mem:aQ}{J:List (Nat × Nat)}{ns:List Nd}{kn:List Bool}{rest:aQ}(h0:lk J 0=some 0)(h1:lk J 1=some 1)(h2:lk J 2=some 2)(h3:lk J 3=some 3)
  (m0:lk mem 0=some (.row 144 4 [.agg [.il 12 (bC ns),.sl 1 0 ns.length,.sl 2 0 ns.length,.sl 3 0 ns.length]])) (m1:lk mem 1=some (.row 4 1 (kB kn))) (m2:lk mem 2=some (.row 48 1 (lB (aS ns) kn))) (m3:lk mem 3=some (.row 4 1 (mB (aS ns) kn)))
  (hr:cO mem J rest):cO mem J (VZ ns kn rest):=
 ⟨⟨0,_,h0,m0,Ec h1 h2 h3⟩,⟨1,_,h1,m1,.same (iY _)⟩,⟨2,_,h2,m2,.same (AI _ _)⟩,⟨3,_,h3,m3,.same (xH _ _)⟩,hr⟩
theorem Dt{mem:aQ}{J:List (Nat × Nat)}:∀m:Nat,tO mem J (List.replicate m .nsl) (cC (List.replicate m []))
 | 0=>.nil
 | m+1=>by
  rw[Zq,Zq];exact .cons (.one rfl rfl (.nil 4)) (Dt m)
theorem Qh(ls:List (List bD))(i:Nat)(l:List bD):cC (ls.set i l)=(cC ls).set i (.il 4 (aR l)):=by simp[cC,aA9]
theorem Ex{mem:aQ}{J:List (Nat × Nat)}:∀m:Nat,tO mem J (List.replicate m (.agg [.int .i64 0,.int .i64 0,.str [],.nsl])) (aR (List.replicate m (.mk 0 0 [] [])))
 | 0=>.nil
 | m+1=>by
  rw[Zq,Zq,aR];exact .cons (xL 0 0 []) (Ex m)
theorem PM{ns:List Nd}{n:Nat}(h:iL ns n)(i:Nat)(hi:i<=n)(x:Nd)(hkl:x.kids.length<=65536)(hkids:∀k∈x.kids,0<=k/\k<i)(hOf:∀j<i,TA ns j)(kn:List Bool)(hk:kn.length=ns.length) :
  aJ prog [] 238 [.ptr 0 0 0,.ip (cK x)] (sM ns kn) 4 (uQ ns (p7 (aS ns) x)):=by
 have hxn:=bH x;have hpb:=λ(j:Nat) (e:((x.kids.take j).foldl (g7 (aS ns)) (1,false)).2=true)=>R2 (bs:=aS ns) (x:=x) (j:=j) e
 have hpg:=λ(t:Nat) (e:x.kids.foldl (g7 (aS ns)) (1,false)=(t,false))=>OZ (DD ns) (x:=x) (t:=t) e
 have hmade:=λks=>LK x ks
 generalize p7 (aS ns) x=res at hpb hpg |-;obtain⟨kind,name,lo,hi',ws,ls,vals,kids,⟨vk,vn,vs,vks⟩⟩:=x;simp only at hkl hkids hpb hpg;refine aG bJ func238 rfl ?_;refine Z ?_;refine aO (bQ rfl (bQ rfl (bQ rfl (bQ (Y7 om) (bQ (Y7 om) (bQ (pQ rfl om (by simp only[aH];omega)) (Y7 (by simp only[aH];omega)))))))) ?_;refine Z ?_;refine bI.at bJ (λp:Nat × List Bool × Nat × List (List bD)=>p.1<=kids.length/\p.2.1.length=ns.length/\(kids.take p.1).foldl (g7 (aS ns)) (1,false)=(p.2.2.1,false)/\p.2.2.1<=1024/\p.2.2.2.length=kids.length/\(∀(q:Nat) (k:Int),q<p.1->kids[q]? = some k->p.2.2.2[q]? = some (dV (aS ns) k).vals/\(dV (aS ns) k).vals≠[]))
  (λp=>⟨[(0,.ptr 0 0 0),(1,.ip (cK ⟨kind,name,lo,hi',ws,ls,vals,kids,.mk vk vn vs vks⟩)),(6,.sl 4 0 kids.length),(7,.int .i64 p.2.2.1),(25,.il 1 (aV kids)),(26,.int .i64 kids.length),(27,.int .i64 p.1)],VZ ns p.2.1 [(4,.row 48 1 (cC p.2.2.2))],5,98⟩)
  (λp=>kids.length-p.1) (0,kn,1,List.replicate kids.length []) (rJ [0,1,2,3,4])
  ⟨sq,hk,sq,sq,sq,λq k hq=>by simp at hq⟩
  (aK _ rfl (gT rfl rfl rfl rfl rfl rfl rfl rfl ⟨⟨4,_,rfl,rfl,.to (Dt kids.length) (by rw[show (((aV kids).length:Nat):Int).toNat=kids.length by rw[aH];simp])⟩,trivial⟩) ⟨aN,aP (.ip' hxn),⟨_,rfl,.slE rfl (by rw[aH];simp)⟩,aF,aP (.il' (aT _)),⟨_,rfl,.int (by rw[aH])⟩,aF,trivial⟩) ?_
 rintro⟨j,kn,total,lists⟩ ⟨hj,hk,hf,hto,hll,hls⟩;simp only at hj hk hf hto hll hls |-;refine Z ?_;refine aL (λhb=>?_) (λhb=>?_)
 .have hlt:j<kids.length:=su hb
  have e1:(aV kids)[(j:Int).toNat]? = some (.int .i64 kids[j]):=by rw[Yy,bK,Yw hlt];rfl
  have hg:kids[j]? = some kids[j]:=Yw hlt;generalize kids[j]=k at e1 hg;obtain⟨k0,k1⟩:=hkids k (Y2 hg);obtain⟨k,rfl⟩:=ZD k0;have hO:=hOf k om kn hk;have hst:=Tx hg hf;have hvals:=h.vals (k:=k) om om;have hne:=h.ne (k:=k) om om;have hls':∀(q:Nat) (k':Int),q<j+1->kids[q]? = some k'->(q<j/\(lists[q]? = some (dV (aS ns) k').vals/\(dV (aS ns) k').vals≠[]))\/(q=j/\k'=k):=λq k' hq hk'=>by
   rcases ZG q j with hq'|hq'
   .exact .inl ⟨hq',hls q k' hq' hk'⟩
   .have:q=j:=om;subst this;rw[hg] at hk';cases hk';exact .inr ⟨rfl,rfl⟩
  simp only[g7,aBi] at hst;unfold sQ at hO;refine Z ?_;refine aC e1 ?_;refine Z ?_;refine aJ.useI bJ [0,1,2,3] hO (by rfl) (.cons (.ptr 0 0 0 0 rfl) (.s .nil)) (gH ns kn) (by rfl) ?_;rintro r m k' ⟨kn',hk',rfl,rfl,rfl⟩;refine⟨nn,gH ns kn',by rfl, ?_⟩;obtain⟨lk,hlk⟩:∃lk,lk=dV (aS ns) k:=⟨_,rfl⟩
  rw[<-hlk] at hst hvals hne |-;obtain⟨lv,lm⟩:=lk;simp only at hst hvals hne;cases lm with
  | true=>
   have hbad:=hpb (j+1) (by rw[hst];rfl);rw[hbad];refine Z ?_;exact B0 _ kn' hk' (gT rfl rfl rfl rfl rfl rfl rfl rfl trivial) _ _ (.tup' (.cons (.nil 4) (.s .nil)))
  | false=>
   have hw:IntKind.i64.wrap ((total:Int)*((aR lv).length:Int))=((total*lv.length:Nat):Int):=by
    have:total*lv.length<=1024*1024:=Z5 hto hvals.1;exact w64 (by rw[aB];simp) oq
   refine Z ?_;rw[hw];refine Z ?_;refine aL (λhb2=>?_) (λhb2=>?_)
   .have hbad:=hpb (j+1) (by rw[hst];simp at hb2 |-;omega);rw[hbad];refine Z ?_;exact B0 _ kn' hk' (gT rfl rfl rfl rfl rfl rfl rfl rfl trivial) _ _ (.tup' (.cons (.nil 4) (.s .nil)))
   .have hto':total*lv.length<=1024:=by simp at hb2;omega
    have h0:0+((j:Nat):Int).toNat=j:=sq
    have g1:Nat.blt ((j:Nat):Int).toNat kids.length=true:=Y3 (by simp;omega);have e3:(cC lists)[0+((j:Nat):Int).toNat]? = some (.il 4 (aR lists[j])):=by rw[h0];exact mZ (Yw om)
    have e4:((cC lists).set (0+((j:Nat):Int).toNat) (.il 4 (aR lv)))[0+((j:Nat):Int).toNat]? = some (.il 4 (aR lv)):=by rw[h0];exact Zt (by rw[r9];omega)
    refine Rt ?_;repeat((first|refine aO g1 ?_|refine aC e3 ?_|refine aC e4 ?_);refine Rt ?_)
    exact .mk (j+1,kn',total*lv.length,lists.set j lv) (rJ [0,1,2,3,4]) ⟨by simp only;omega,hk',by simp only;rw[hst];simp;omega,hto',by simp only[aBg];exact hll,λq k' hq hkq=>by
      simp only at hq |-;rcases hls' q k' hq hkq with⟨h1,h2,h3⟩|⟨rfl,rfl⟩
      .rw[aBo om];exact⟨h2,h3⟩
      .rw[Zt om,<-hlk];exact⟨rfl,hne rfl⟩⟩
     (aK _ rfl (gT rfl rfl rfl rfl rfl rfl rfl rfl ⟨⟨4,_,rfl,rfl,.eq (bR _) (by rw[h0];exact(Qh _ _ _).symm)⟩,trivial⟩) ⟨aN,aP (.ip' hxn),⟨_,rfl,.slE rfl rfl⟩,aF,aP (.il' (aT _)),aF,⟨_,rfl,.wp⟩,trivial⟩) (by simp only;omega)
 .have hlt:j=kids.length:=by simp at hb;omega
  rw[hlt,ZJ] at hf;obtain⟨hres,hpr⟩:=hpg total hf;rw[hres];have hlv:lists=kids.map λk=>(dV (aS ns) k).vals:=List.ext_getElem? λq=>by
   rw[ZT];rcases ZG q kids.length with hq|hq
   .rw[(hls q _ om (Yw hq)).1,Yw hq];rfl
   .rw[ZH om,ZH hq];rfl
  have hlne:∀l∈lists,l≠[]:=λl hl=>by
   rw[hlv] at hl;obtain⟨k,hk,rfl⟩:=ZL.1 hl;obtain⟨q,hq⟩:=ZV hk;exact(hls q k (by rw[hlt];exact(Y0.1 hq).1) hq).2
  have hllen:∀l∈lists,l.length<=1024:=λl hl=>by
   rw[hlv] at hl;obtain⟨k,hk,rfl⟩:=ZL.1 hl;obtain⟨k0,k1⟩:=hkids k hk;exact(h.vals k0 om).1
  rw[<-hlv] at hpr |-;clear hpb hpg hls hlv hres hf;refine Z ?_;refine aO (bQ rfl (bQ rfl (bQ rfl (bQ rfl (bQ (Y7 om) (bQ (pQ rfl om om) (Y7 om))))))) ?_;refine Z ?_;refine bI.at bJ (λp:Nat × List bD=>p.1<=total/\p.2=((rT lists.reverse).take p.1).map (Go.Ax.d8 name)/\p.2.length=p.1)
   (λp=>⟨[(1,.ip (cK ⟨kind,name,lo,hi',ws,ls,vals,kids,.mk vk vn vs vks⟩)),(6,.sl 4 0 kids.length),(12,.sl 5 0 p.1),(53,.int .i64 total),(54,.int .i64 p.1)],VZ ns kn [(4,.row 48 1 (cC lists)),(5,.row 50 4 (aR p.2))],6,98⟩)
   (λp=>total-p.1) (0,[]) (rJ [0,1,2,3,4,5])
   ⟨sq,sq,sq⟩
   (aK _ rfl (gT rfl rfl rfl rfl rfl rfl rfl rfl ⟨aI 4 (bR _),⟨5,_,rfl,rfl,.nil⟩,trivial⟩) ⟨aP (.ip' hxn),⟨_,rfl,.slE rfl rfl⟩,⟨_,rfl,.slE rfl rfl⟩,aF,aF,trivial⟩) ?_
  rintro⟨k,all⟩ ⟨hkt,hall,hal⟩;simp only at hkt hall hal |-;refine Z ?_;refine aL (λhb=>?_) (λhb=>?_)
  .have hlt2:k<total:=su hb
   refine Z ?_;refine aO (bQ rfl (bQ rfl (bQ rfl (bQ (Y7 om) (bQ (Y7 om) (bQ (pQ rfl om om) (Y7 om))))))) ?_;refine Z ?_;refine bI.at bJ (λp:Nat × Nat × List bD=>p.1<=kids.length/\p.2.1<=1024/\p.2.2.length=kids.length/\Go.Ax.rowAt (lists.take p.1).reverse p.2.1++p.2.2.drop p.1=Go.Ax.rowAt lists.reverse k)
    (λp=>⟨[(1,.ip (cK ⟨kind,name,lo,hi',ws,ls,vals,kids,.mk vk vn vs vks⟩)),(6,.sl 4 0 kids.length),(12,.sl 5 0 k),(13,.int .i64 p.2.1),(14,.sl 6 0 kids.length),(15,.int .i64 ((p.1:Int)-1)),(53,.int .i64 total),(54,.int .i64 k)],VZ ns kn [(4,.row 48 1 (cC lists)),(5,.row 50 4 (aR all)),(6,.row 50 4 (aR p.2.2))],7,98⟩)
    (λp=>p.1) (kids.length,k,List.replicate kids.length (.mk 0 0 [] [])) (rJ [0,1,2,3,4,5,6])
    ⟨sq,by simp only;omega,sq,by simp only;rw[<-hll,ZJ,Z7 sq];simp⟩
    (aK _ rfl (gT rfl rfl rfl rfl rfl rfl rfl rfl ⟨aI 4 (bR _),aI 5 (aW _),⟨6,_,rfl,rfl,Ex _⟩,trivial⟩) ⟨aP (.ip' hxn),⟨_,rfl,.slE rfl rfl⟩,⟨_,rfl,.slE rfl rfl⟩,aF,⟨_,rfl,.slE rfl sq⟩,⟨_,rfl,.w64 (by simp only) ⟨by simp only;omega,by simp only;omega⟩⟩,aF,aF,trivial⟩) ?_
   rintro⟨q,kk,row⟩ ⟨hq,hkk,hrl,hrow⟩;simp only at hq hkk hrl hrow |-;refine Z ?_;refine aL (λhb=>?_) (λhb=>?_)
   .obtain⟨q,rfl⟩:∃q',q=q'+1:=⟨q-1,by simp at hb;omega⟩
    obtain⟨l,hl⟩:∃l,lists[q]? = some l:=⟨lists[q],Yw om⟩
    have hlm:=Y2 hl;have hl0:=aAc.2 (hlne l hlm);have hl1:=hllen l hlm;have hmod:=Zx kk hl0;have hdiv:=aAS kk l.length;obtain⟨v1,v2,v3,v4,vm,vg,-,ev⟩:=dE (l:=l) (k:=kk%l.length) hmod;have hrs:=KO (kk:=kk) hl vg;have e0:0+((q:Nat):Int).toNat=q:=sq
    have g1:Nat.blt ((q:Nat):Int).toNat kids.length=true:=Y3 (by simp;omega);have e3:(cC lists)[0+((q:Nat):Int).toNat]? = some (.il 4 (aR l)):=by rw[e0];exact mZ hl
    have e15:((q+1:Nat):Int)-1=(q:Int):=om;rw[e15];refine Z ?_;have d0:(!decide (((aR l).length:Int)=0))=true:=by rw[aB,Bool.not_eq_true',aAn];omega
    have em:(kk:Int).tmod ((aR l).length:Int)=((kk%l.length:Nat):Int):=by rw[aB];exact(Int.ofNat_tmod kk l.length).symm
    have ed:(kk:Int).tdiv ((aR l).length:Int)=((kk/l.length:Nat):Int):=by rw[aB];exact(Int.ofNat_tdiv kk l.length).symm
    have ex:(aR row)[0+((q:Nat):Int).toNat]? = some (bY row[q]):=by rw[e0,i6,Yw om];rfl
    have ey:((aR row).set (0+((q:Nat):Int).toNat) (bY (.mk v1 v2 v3 v4)))[0+((q:Nat):Int).toNat]? = some (bY (.mk v1 v2 v3 v4)):=by rw[e0];exact Zt (by rw[aB];omega)
    generalize row[q]=old at ex;obtain⟨o1,o2,o3,o4⟩:=old;repeat((first|refine aO g1 ?_|refine aC e3 ?_|refine aC ev ?_|refine aC ex ?_|refine aC ey ?_|refine dF.2 ?_|refine aY ?_|refine aO d0 ?_;(first|rw[em]|rw[ed]|skip));refine Z ?_)
    have hdr:(row.set q (.mk v1 v2 v3 v4)).drop q = .mk v1 v2 v3 v4::row.drop (q+1):=by
     rw[List.drop_eq_getElem_cons (by simp;omega)];simp[List.drop_set]
    have hy:i64 ((kk/l.length:Nat):Int):=by
     have:=hdiv;generalize kk/l.length=d at this |-;clear ed;exact oq
    have hset:aR (row.set q (.mk v1 v2 v3 v4))=(aR row).set q (bY (.mk v1 v2 v3 v4)):=by rw[Go.Ax.f9,Go.Ax.f9,aA9]
    exact .mk (q,kk/l.length,row.set q (.mk v1 v2 v3 v4)) (rJ [0,1,2,3,4,5,6]) ⟨by simp only;omega,by simp only;omega,by simp only[aBg];exact hrl,by simp only;rw[hdr,<-hrow,hrs,List.append_assoc];rfl⟩
     (aK _ rfl (gT rfl rfl rfl rfl rfl rfl rfl rfl ⟨aI 4 (bR _),aI 5 (aW _),⟨6,_,rfl,rfl,.eq (aW _) (by simp only;rw[e0,hset];rfl)⟩,trivial⟩) ⟨aP (.ip' hxn),⟨_,rfl,.slE rfl rfl⟩,⟨_,rfl,.slE rfl rfl⟩,⟨_,rfl,.w64 (y:=((kk/l.length:Nat):Int)) (by first|exact ed|rfl) hy⟩,⟨_,rfl,.slE rfl rfl⟩,⟨_,rfl,.w64 rfl ⟨by simp only;omega,by simp only;omega⟩⟩,aF,aF,trivial⟩) (by simp only;omega)
   .have hq0:q=0:=by simp at hb;omega
    subst hq0;simp only[aCe,List.reverse_nil,Go.Ax.rowAt,Zi,ZU] at hrow;have hmd:=hmade row;simp only at hmd;refine Z ?_;refine aJ.pre bJ (mem':=VZ ns kn [(4,.row 48 1 (cC lists)),(5,.row 50 4 (aR all))]) (rJ [0,1,2,3,4,5]) (by rfl)
     (gT rfl rfl rfl rfl rfl rfl rfl rfl ⟨aI 4 (bR _),aI 5 (aW _),trivial⟩)
     (.cons (.same _ (.ip' hxn)) (.cons (.fz' (id:=6) (t:=50) (xs:=aR row) rfl rfl (by rw[aB];omega) (by rw[ZU];exact Y9 (by rw[aB];omega)) (aW _)) .nil)) ?_
    refine hmd.go ?_;have hr:=FZ lists.reverse k (by rw[<-hpr];exact hlt2);rw[<-hrow] at hr;obtain⟨⟨m1,m2,m3,m4⟩,hmv⟩:∃mv,mv=Go.Ax.d8 name row:=⟨_,rfl⟩
    rw[<-hmv];refine Z ?_;refine aO (cP rfl rfl (by simp[aB];omega) (by simp;omega)) ?_;refine Z ?_;exact .mk (k+1,all++[.mk m1 m2 m3 m4]) [(0,0),(1,1),(2,2),(3,3),(4,4),(8,5)] ⟨by simp only;omega,by
      simp only;rw[hall,aB5,hr,aAQ,hmv];rfl,by simp[hal]⟩
     (aK _ rfl (gT rfl rfl rfl rfl rfl rfl rfl rfl ⟨aI 4 (bR _),⟨8,_,rfl,rfl,.eq (aW _) (by rw[gY];rfl)⟩,trivial⟩) ⟨aP (.ip' hxn),⟨_,rfl,.slE rfl rfl⟩,⟨_,rfl,.slE rfl sq⟩,aF,⟨_,rfl,.wp⟩,trivial⟩) (by simp only;omega)
  .have hlt2:k=total:=by simp at hb;omega
   refine Z ?_;refine B0 _ kn hk (gT rfl rfl rfl rfl rfl rfl rfl rfl trivial) _ _ (.tup' (.cons (.fz' (id:=5) (t:=50) (xs:=aR all) rfl rfl (by rw[aB];omega) ?_ (aW _)) (.s .nil)));rw[ZU,Y9 (by rw[aB];omega),hall,hlt2,hpr,<-BF,ZJ]
theorem W6{ns:List Nd}{n:Nat}(h:iL ns n)(i:Nat)(hi:i<n)(hOf:∀j<i,TA ns j)(kn:List Bool)(hk:kn.length=ns.length) :
  aJ prog [] 195 [.ptr 0 0 0,.int .i64 i] (sM ns kn) 4 (sQ ns i):=by
 obtain⟨x,hx⟩:∃x,ns[i]? = some x:=⟨ns[i]'(by have:=h.hn;omega),Yw _⟩
 have ex:(bC ns)[((i:Nat):Int).toNat]? = some (cK x):=by simp[i7,hx]
 unfold sQ;rw[h.at hi hx];have hG:=h.node hi hx;have hO:=h.nodeOK hi hx;have hxn:=bH x;have hkm:∀k∈x.kids,0<=k/\k<i:=λk hk=>by
  obtain⟨j,hj⟩:=ZV hk;exact hG.kids j k hj
 have hU:=λ(kids:List Int) (h1:kids.length<=65536) (h2:∀k∈kids,0<=k/\k<i)=>U2 h i om kids h1 h2 hOf kn hk
 have hP:=PM h i om x hG.klen hkm hOf kn hk;have hb:=hO.bind;have hkl:=hG.klen;have hkd:=hG.kind;have hnum:=cQ hG.num;have e0:x.kind=0->dQ x (aS ns)=⟨[x.value],false⟩:=λe=>by unfold dQ;rw[Y4 e]
 have e1:x.kind=1->dQ x (aS ns)=if 1024<=x.hi-x.lo then⟨[],true⟩ else⟨iE x.lo x.hi,false⟩:=λe=>by unfold dQ;rw[Yz om,Y4 e]
 have e2:x.kind=2->dQ x (aS ns)=mL (aS ns) x.kids:=λe=>by unfold dQ;rw[Yz om,Yz om,Yz om,Yz om]
 have e3:x.kind=3->dQ x (aS ns)=p7 (aS ns) x:=λe=>by unfold dQ;rw[Yz om,Yz om,Y4 e]
 have e4:x.kind=4->dQ x (aS ns)=mL (aS ns) (x.kids.drop 1):=λe=>by unfold dQ;rw[Yz om,Yz om,Yz om,Y4 e]
 generalize dQ x (aS ns)=res at e0 e1 e2 e3 e4 |-;clear hG hO hOf;have hP:x.kind=3->aJ prog [] 238 [.ptr 0 0 0,.ip (cK x)] (sM ns kn) 4 (uQ ns res):=λe=>by rw[e3 e];exact hP
 clear e3;obtain⟨kind,name,lo,hi',ws,ls,vals,kids,⟨vk,vn,vs,vks⟩⟩:=x;simp only at hkm hb hkl hkd hnum e0 e1 e2 e4 hP;refine aG bJ func195 rfl ?_;refine Z ?_;repeat(refine aC ex ?_;refine Z ?_)
 have call:∀(F:FuncId) (a:List AV) (K:AV->aQ->Nat->Prop) (nx:Nat),jU a->aJ prog [] F (.ptr 0 0 0::a) (sM ns kn) 4 (uQ ns res)->(∀kn',kn'.length=ns.length->K (.tup [.il 4 (aR res.vals),.bool (!res.many)]) (sM ns kn'++gZ [0,1,2,3] (sM ns kn)) nx)->aJ prog [] F (.ptr 0 0 0::a) (sM ns kn) nx K:=λF a K nx ha hc hK=>by
  refine aJ.useI bJ [0,1,2,3] hc (by rfl) (.cons (.ptr 0 0 0 0 rfl) (.same ha)) (gH ns kn) (by rfl) ?_;rintro r m k' ⟨kn',hk',rfl,rfl,rfl⟩;exact⟨nn,gH ns kn',by rfl,hK kn' hk'⟩
 rcases(show kind=0\/kind=1\/kind=2\/kind=3\/kind=4 by omega) with rfl|rfl|rfl|rfl|rfl
 .rw[e0 rfl];refine Z ?_;repeat(refine aC ex ?_;refine Z ?_)
  exact B0 _ kn hk (gT rfl rfl rfl rfl rfl rfl rfl rfl trivial) _ _ (.tup' (.cons (.fz' (id:=4) (t:=50) (xs:=aR [.mk vk vn vs vks]) rfl rfl (by rw[aB];simp) rfl (aW _)) (.s .nil)))
 .rw[e1 rfl];have hw:IntKind.i64.wrap (hi'-lo)=hi'-lo:=bS oq;refine Z ?_;simp only[hw];refine aL (λhb=>?_) (λhb=>?_)
  .have hb:1024<=hi'-lo:=su hb
   rw[Y4 hb];refine Z ?_;exact B0 _ kn hk (gH ns kn) _ _ (.tup' (.cons (.nil 4) (.s .nil)))
  .have hb:¬1024<=hi'-lo:=su hb
   rw[Yz hb];refine Z ?_;refine bI.ph 50 4 ?_;refine bI.at bJ (λc:Nat=>c<=(hi'+1-lo).toNat)
    (λc=>⟨[(6,.ip (cK ⟨1,name,lo,hi',ws,ls,vals,kids,.mk vk vn vs vks⟩)),(7,.sl 4 0 c),(8,.int .i64 (lo+c))],VZ ns kn [(4,.row 50 4 (aR (iE lo (lo+c-1))))],5,82⟩)
    (λc=>(hi'+1-lo).toNat-c) 0 [(0,0),(1,1),(2,2),(3,3),(14,4)] sq
    (aK _ rfl (gT rfl rfl rfl rfl rfl rfl rfl rfl ⟨⟨14,_,rfl,rfl,by rw[show iE lo (lo+((0:Nat):Int)-1)=[] by simp[iE]];exact .nil⟩,trivial⟩) ⟨aP (.ip' hxn),⟨_,rfl,.nslk 14 4 _ rfl rfl⟩,⟨_,rfl,.int sq⟩,trivial⟩) ?_
   intro c hc;have hrl:∀c:Nat,(iE lo (lo+c-1)).length=c:=λc=>by simp[iE];omega
   refine Z ?_;refine aL (λhb2=>?_) (λhb2=>?_)
   .have hb2:lo+c<=hi':=su hb2
    have hrs:iE lo (lo+((c+1:Nat):Int)-1)=iE lo (lo+c-1)++[.mk 0 (lo+c) [] []]:=by
     unfold iE;rw[show (lo+((c+1:Nat):Int)-1+1-lo).toNat=c+1 by omega,show (lo+(c:Int)-1+1-lo).toNat=c by omega,aCd,aAQ];rfl
    refine Z ?_;refine aO (cP rfl rfl (by rw[aB,hrl]) (by simp;omega)) ?_;refine Z ?_;exact .mk (c+1) [(0,0),(1,1),(2,2),(3,3),(6,4)] om
     (aK _ rfl (gT rfl rfl rfl rfl rfl rfl rfl rfl ⟨⟨6,_,rfl,rfl,by rw[hrs,gY];exact .snoc rfl (.same (aW _)) (xL 0 (lo+c) [])⟩,trivial⟩) ⟨aP (.ip' hxn),⟨_,rfl,.slE rfl sq⟩,⟨_,rfl,.w64 om oq⟩,trivial⟩) om
   .have hb2:¬lo+c<=hi':=su hb2
    have hcc:lo+c-1=hi':=om;refine Z ?_;rw[hcc];refine B0 _ kn hk (gT rfl rfl rfl rfl rfl rfl rfl rfl trivial) _ _ (.tup' (.cons (.fz' (id:=4) (t:=50) (xs:=aR (iE lo hi')) rfl rfl (by rw[aB];have:=hrl c;rw[hcc] at this;omega) ?_ (aW _)) (.s .nil)));rw[ZU];exact Y9 (by rw[aB];have:=hrl c;rw[hcc] at this;omega)
 .rw[e2 rfl] at call |-;refine Z ?_;refine call _ _ _ _ (.cons (.il' (aT _)) .nil) (hU kids hkl hkm) λkn' hk'=>?_
  refine Z ?_;exact B0 _ kn' hk' (gH ns kn') _ _ (.same _ nn)
 .refine Z ?_;refine call _ _ _ _ (.cons (.ip' hxn) .nil) (hP rfl) λkn' hk'=>?_
  refine Z ?_;exact B0 _ kn' hk' (gH ns kn') _ _ (.same _ nn)
 .rw[e4 rfl] at call |-;have hb:=hb rfl;refine Z ?_;refine aO (bQ (Y3 (by rw[aH];simp;omega)) (bQ (Y3 (Y8 _)) (Y3 (Y8 _)))) ?_;have ed:List.take ((aV kids).length-Int.toNat 1) (List.drop (Int.toNat 1) (aV kids))=aV (kids.drop 1):=by
   rw[Y9 sq];simp[aV]
  rw[ed];refine Z ?_;refine call _ _ _ _ (.cons (.il' (aT _)) .nil) (hU (kids.drop 1) (by rw[aAG];omega) λk hk=>hkm k (Zr hk)) λkn' hk'=>?_
  refine Z ?_;exact B0 _ kn' hk' (gH ns kn') _ _ (.same _ nn)
theorem Yu{ns:List Nd}{n:Nat}(h:iL ns n):∀i<n,TA ns i:=by
 intro i
 induction i using Nat.strongRecOn with
 | ind i ih=>exact λhi kn hk=>YI h i hi kn hk (W6 h i hi (λj hj=>ih j hj om) kn hk)
theorem X3(a b:bD)(ha:iG a):aX prog [] 126 [bY a,bY b] (.bool (cN a b == 0)):=by
 have hc:=oE a b ha;obtain⟨a1,a2,a3,a4⟩:=a;obtain⟨b1,b2,b3,b4⟩:=b;generalize cN (.mk a1 a2 a3 a4) (.mk b1 b2 b3 b4)=c at hc |-;refine aG bJ func126 rfl ?_;refine Z ?_;refine hc.go ?_;refine Z ?_;exact aA nn ⟨rfl,rfl,rfl⟩
theorem K2(l m:List bD)(hl:l.length<=4294967296)(hm:m.length<=4294967296)(hok:∀a∈l,iG a) :
  aX prog [] 107 [.il 4 (aR l),.il 4 (aR m),.fn (.func 126) [] []] (.bool (dC l m)):=by
 have hE:=λa ha b=>X3 a b (hok a ha)
 refine aG bJ func107 rfl ?_;refine Z ?_;refine aL (λh=>?_) (λh=>?_)
 .have h1:l.length≠m.length:=by rw[aB,aB] at h;simp at h;omega
  have:dC l m=false:=by
   cases e:dC l m with
   | false=>rfl
   | true=>exact absurd (lO e) h1
  rw[this];refine Z ?_;exact aA nn ⟨rfl,rfl,rfl⟩
 .have h1:l.length=m.length:=by rw[aB,aB] at h;simp at h;omega
  refine Z ?_;refine bI.at bJ (λi:Nat=>i<=l.length/\dC l m=dC (l.drop i) (m.drop i)) (λi=>⟨[(1,.il 4 (aR m)),(2,.fn (.func 126) [] []),(15,.il 4 (aR l)),(16,.int .i64 l.length),(17,.int .i64 i)],[],0,32⟩) (λi=>l.length-i) 0 [] ⟨sq,sq⟩
   (bX ⟨aP (.il' (aW _)),aF,aP (.il' (aW _)),⟨_,rfl,.int (by rw[aB])⟩,aF,trivial⟩) ?_
  rintro i ⟨hi,hs⟩;refine Z ?_;refine aL (λhb=>?_) (λhb=>?_)
  .have hil:i<l.length:=su hb
   obtain⟨p1,p2,p3,p4,pm,pg,pe,ep⟩:=dE (l:=l) (k:=i) hil;obtain⟨q1,q2,q3,q4,qm,qg,qe,eq⟩:=dE (l:=m) (k:=i) om;rw[List.drop_eq_getElem_cons hil,List.drop_eq_getElem_cons (show i<m.length by omega),dC,pe,qe] at hs;have hc:=hE _ pm (.mk q1 q2 q3 q4);obtain⟨c,hc0⟩:∃c,c=cN (.mk p1 p2 p3 p4) (.mk q1 q2 q3 q4):=⟨_,rfl⟩
   rw[<-hc0] at hc hs;refine Z ?_;repeat((first|refine aC ep ?_|refine aC eq ?_|refine aY ?_);refine Z ?_)
   refine hc.go ?_;refine Z ?_;refine aL (λh=>?_) (λh=>?_)
   .have:decide (c=0)=false:=su h
    rw[hs,this];refine Z ?_;exact aA nn ⟨rfl,rfl,rfl⟩
   .have:decide (c=0)=true:=su h
    rw[this] at hs;refine Z ?_;exact .mk (i+1) [] ⟨om,hs⟩ (bX ⟨aP (.il' (aW _)),aF,aP (.il' (aW _)),aF,⟨_,rfl,.w64 om oq⟩,trivial⟩) om
  .have hil:i=l.length:=by simp at hb;omega
   rw[hil,Z8,h1,Z8,dC] at hs;rw[hs];refine Z ?_;exact aA nn ⟨rfl,rfl,rfl⟩
def HS(ns:List Nd)(ls ss:List Int)(kn:List Bool)(rest:aQ):aQ:=(0,.row 132 4 [.agg [.il 12 (bC ns),.sl 1 0 ns.length,.sl 2 0 ns.length,.ptr 3 0 0]])::(1,.row 3 1 (aV ls))::(2,.row 3 1 (aV ss)) ::
 (3,.row 144 4 [.agg [.il 12 (bC ns),.sl 4 0 ns.length,.sl 5 0 ns.length,.sl 6 0 ns.length]])::(4,.row 4 1 (kB kn))::(5,.row 48 1 (lB (aS ns) kn))::(6,.row 4 1 (mB (aS ns) kn))::rest
def Vt(ns:List Nd)(l1 l2:List AV)(kn:List Bool):aQ:=[(0,.row 132 4 [.agg [.il 12 (bC ns),.sl 1 0 ns.length,.sl 2 0 ns.length,.ptr 3 0 0]]),(1,.row 3 1 l1),(2,.row 3 1 l2),
 (3,.row 144 4 [.agg [.il 12 (bC ns),.sl 4 0 ns.length,.sl 5 0 ns.length,.sl 6 0 ns.length]]),(4,.row 4 1 (kB kn)),(5,.row 48 1 (lB (aS ns) kn)),(6,.row 4 1 (mB (aS ns) kn))]
theorem WF{mem:aQ}{J:List (Nat × Nat)}{ns:List Nd}{N a b c a' b' c':Nat}(h1:lk J a=some a')(h2:lk J b=some b')(h3:lk J c=some c') :
  tO mem J [.agg [.il 12 (bC ns),.sl a 0 N,.sl b 0 N,.ptr c 0 0]] [.agg [.il 12 (bC ns),.sl a' 0 N,.sl b' 0 N,.ptr c' 0 0]]:=
 .cons (.agg (.cons (.same _ (.il' (bA _))) (.cons (.sl a a' 0 N h1) (.cons (.sl b b' 0 N h2) (.cons (.ptr c c' 0 0 h3) .nil))))) .nil
theorem kF{mem:aQ}{J:List (Nat × Nat)}{ns:List Nd}{kn:List Bool}{ls ss:List Int}{l1 l2:List AV}{rest:aQ}(h0:lk J 0=some 0)(h1:lk J 1=some 1)(h2:lk J 2=some 2)(h3:lk J 3=some 3)(h4:lk J 4=some 4)(h5:lk J 5=some 5)(h6:lk J 6=some 6)
  (m0:lk mem 0=some (.row 132 4 [.agg [.il 12 (bC ns),.sl 1 0 ns.length,.sl 2 0 ns.length,.ptr 3 0 0]])) (m1:lk mem 1=some (.row 3 1 l1)) (m2:lk mem 2=some (.row 3 1 l2)) (e1:l1=aV ls) (e2:l2=aV ss)
  (m3:lk mem 3=some (.row 144 4 [.agg [.il 12 (bC ns),.sl 4 0 ns.length,.sl 5 0 ns.length,.sl 6 0 ns.length]])) (m4:lk mem 4=some (.row 4 1 (kB kn))) (m5:lk mem 5=some (.row 48 1 (lB (aS ns) kn))) (m6:lk mem 6=some (.row 4 1 (mB (aS ns) kn)))
  (hr:cO mem J rest):cO mem J (HS ns ls ss kn rest):=
 ⟨⟨0,_,h0,m0,WF h1 h2 h3⟩,⟨1,_,h1,m1,.eq (aT _) e1⟩,⟨2,_,h2,m2,.eq (aT _) e2⟩,⟨3,_,h3,m3,Ec h4 h5 h6⟩,⟨4,_,h4,m4,.same (iY _)⟩,⟨5,_,h5,m5,.same (AI _ _)⟩,⟨6,_,h6,m6,.same (xH _ _)⟩,hr⟩
theorem nQ(ns:List Nd)(ls ss:List Int)(kn:List Bool):cO (HS ns ls ss kn []) (rJ [0,1,2,3,4,5,6]) (HS ns ls ss kn []):=kF rfl rfl rfl rfl rfl rfl rfl rfl rfl rfl rfl rfl rfl rfl rfl rfl trivial
theorem n8(l:List Int)(i:Nat)(y:Int):aV (l.set i y)=(aV l).set i (.int .i64 y):=by simp[aV,aA9]
theorem VA{ns:List Nd}(i:Nat)(x:Nd)(hx:ns[i]? = some x)(hok:sU x)(hsz:bN x.value<=1048576)(hkl:x.kids.length<=65536)(hkids:∀(j:Nat) (k:Int),x.kids[j]? = some k->0<=k/\k<i)(hkd:0<=x.kind/\x.kind<=4)(h4:4<=x.kind->0<x.kids.length)
  (ls ss:List Int) (kn:List Bool) (hls:ls.length=ns.length) (hss:ss.length=ns.length) (bl:∀y∈ls,0<=y/\y<=1024) (bs:∀y∈ss,0<=y/\y<=1024) :
  aJ prog [] 65 [.ptr 0 0 0,.int .i64 i] (HS ns ls ss kn []) 7 λr m k=>r = .bool (decide (fN ls x<=256) && decide (AA ss x<=1024))/\m=HS ns (ls.set i (fN ls x)) (ss.set i (AA ss x)) kn []/\k=7:=by
 have hil:=(Y0.1 hx).1;have ex:(bC ns)[((i:Nat):Int).toNat]? = some (cK x):=by simp[i7,hx]
 have hxn:=bH x;have hL:=LT ls x hok hkl bl (λj k hk=>by have:=hkids j k hk;omega) h4 hkd;have hV:=Wi x.value hsz;have hP:AA ss x=if x.kind=0 then(bN x.value:Int) else if x.kind=1 then 1 else if x.kind=3 then 1+fR ss x.kids else max 1 (cX ss (eQ x)):=rfl
 have hs:=λl=>jJ (b:=ss) (M:=1024) om bs l
 have hm:=λl=>gR (b:=ss) (M:=1024) om bs l
 have har:eQ x=if x.kind=2 then x.kids else x.kids.drop 1:=rfl
 have hat:=λq=>m9 (b:=ss) (M:=1024) om bs q
 have eat:∀k:Int,0<=k->k<ss.length->(aV ss)[0+k.toNat]? = some (.int .i64 (eJ ss k)):=λk h0 h1=>by
  have:k.toNat<ss.length:=om;rw[ZP,bK,Yw this];unfold eJ;rw[Yx,Yw this];rfl
 have hM:∀k:Nat,k<x.kids.length->(cX ss (if x.kind=2 then x.kids.take (k+1) else(x.kids.take (k+1)).drop 1))=if 0<k\/x.kind=2 then max (cX ss (if x.kind=2 then x.kids.take k else(x.kids.take k).drop 1)) (eJ ss (x.kids.getD k 0)) else cX ss (if x.kind=2 then x.kids.take k else(x.kids.take k).drop 1):=λk hk=>by
  have eg:x.kids.getD k 0=x.kids[k]:=by rw[Yx,Yw hk];rfl
  rw[eg];by_cases e2:x.kind=2
  .rw[Y4 e2,Y4 (.inr e2),Y4 e2,sS hk]
  .rw[Yz e2,Yz e2];by_cases e0:0<k
   .rw[Y4 (.inl e0),pV hk e0]
   .rw[Yz om];have:k=0:=om;subst this;simp[cX,Zy]
 have h0:0+((i:Nat):Int).toNat=i:=sq
 have g1:Nat.blt ((i:Nat):Int).toNat ns.length=true:=Y3 (by simp;omega);generalize hlen:fN ls x=len at *;generalize hsiz:AA ss x=siz at *;clear hlen hsiz hok;obtain⟨kind,name,lo,hi',ws,lbs,vals,kids,⟨vk,vn,vs,vks⟩⟩:=x;simp only at hsz hkl hkids hkd h4 hV hP hM;obtain⟨sv,hsv⟩:∃sv,sv=bN (.mk vk vn vs vks):=⟨_,rfl⟩
 rw[<-hsv] at hV hP hsz;have f1:(aV ls)[0+((i:Nat):Int).toNat]? = some (.int .i64 ls[i]):=by rw[h0,bK,Yw om];rfl
 have f2:((aV ls).set (0+((i:Nat):Int).toNat) (.int .i64 len))[0+((i:Nat):Int).toNat]? = some (.int .i64 len):=by rw[h0];exact Zt (by rw[aH];omega)
 have f3:(aV ss)[0+((i:Nat):Int).toNat]? = some (.int .i64 ss[i]):=by rw[h0,bK,Yw om];rfl
 have f4:∀siz:Int,((aV ss).set (0+((i:Nat):Int).toNat) (.int .i64 siz))[0+((i:Nat):Int).toNat]? = some (.int .i64 siz):=λsiz=>by rw[h0];exact Zt (by rw[aH];omega)
 generalize ls[i]=l0 at f1;generalize ss[i]=s0 at f3;refine aG bJ func65 rfl ?_;refine Rt ?_;repeat((first|refine aO g1 ?_|refine aC ex ?_|refine aC f1 ?_|refine aC f2 ?_);refine Rt ?_)
 refine hL.lend bJ (.cons (.same _ (.ip' hxn)) (.cons (.fz' (id:=1) (t:=3) (xs:=aV ls) rfl rfl (by rw[aH];omega) (by rw[ZU];exact Y9 (by rw[aH];omega)) (aT _)) .nil)) (.int _ _) ?_;refine Rt ?_;repeat((first|refine aO g1 ?_|refine aC ex ?_|refine aC f1 ?_|refine aC f2 ?_);refine Rt ?_)
 obtain⟨d1,hd1⟩:∃d1,d1=decide (len<=256):=⟨_,rfl⟩
 rw[<-hd1];have fin:∀(mem:aQ) (nx:Nat) {d:Bool},d=(d1 && decide (siz<=1024))->mem=Vt ns ((aV ls).set (0+((i:Nat):Int).toNat) (.int .i64 len)) ((aV ss).set (0+((i:Nat):Int).toNat) (.int .i64 siz)) kn ->
   kH 7 (λr m k=>r = .bool (d1 && decide (siz<=1024))/\m=HS ns (ls.set i len) (ss.set i siz) kn []/\k=7) (.bool d) mem nx:=by
  rintro mem nx d rfl rfl;exact bM (n':=7) (m':=HS ns (ls.set i len) (ss.set i siz) kn []) (rJ [0,1,2,3,4,5,6]) rfl (kF rfl rfl rfl rfl rfl rfl rfl rfl rfl rfl (by rw[h0];exact(n8 _ _ _).symm) (by rw[h0];exact(n8 _ _ _).symm) rfl rfl rfl rfl trivial) (.same _ nn) ⟨rfl,rfl,rfl⟩
 have fin':∀(mem:aQ) (nx:Nat) {d:Bool},d=(d1 && decide (siz<=1024))->mem=Vt ns (aV (ls.set i len)) ((aV ss).set (0+((i:Nat):Int).toNat) (.int .i64 siz)) kn ->
   kH 7 (λr m k=>r = .bool (d1 && decide (siz<=1024))/\m=HS ns (ls.set i len) (ss.set i siz) kn []/\k=7) (.bool d) mem nx:=by
  rintro mem nx d rfl rfl;exact bM (n':=7) (m':=HS ns (ls.set i len) (ss.set i siz) kn []) (rJ [0,1,2,3,4,5,6]) rfl (kF rfl rfl rfl rfl rfl rfl rfl rfl rfl rfl rfl (by rw[h0];exact(n8 _ _ _).symm) rfl rfl rfl rfl trivial) (.same _ nn) ⟨rfl,rfl,rfl⟩
 have f2':(aV (ls.set i len))[0+((i:Nat):Int).toNat]? = some (.int .i64 len):=by rw[h0,n8];exact Zt (by rw[aH];omega)
 rcases(show kind=0\/kind=1\/kind=2\/kind=3\/kind=4 by omega) with rfl|rfl|rfl|rfl|rfl
 .rw[Y4 rfl] at hP;subst hP;refine Z ?_;refine hV.go ?_;refine Rt ?_;repeat((first|refine aO g1 ?_|refine aC f3 ?_|refine aC (f4 _) ?_|refine aC f2 ?_);refine Rt ?_)
  rw[<-hd1];clear hd1;cases d1 with
  | true=>
   refine Z ?_;exact fin _ _ rfl rfl
  | false=>
   refine Z ?_;exact fin _ _ rfl rfl
 .rw[Yz (by decide),Y4 rfl] at hP;subst hP;refine Rt ?_;repeat((first|refine aO g1 ?_|refine aC f3 ?_|refine aC (f4 _) ?_|refine aC f2 ?_);refine Rt ?_)
  rw[<-hd1];clear hd1;cases d1 with
  | true=>
   refine Z ?_;exact fin _ _ rfl rfl
  | false=>
   refine Z ?_;exact fin _ _ rfl rfl
 .rw[Yz (by decide),Yz (by decide),Yz (by decide)] at hP;refine Z ?_;refine bI.at bJ (λp:Nat × Int=>p.1<=kids.length/\p.2=max 1 (cX ss (kids.take p.1)))
   (λp=>⟨[(0,.ptr 0 0 0),(1,.int .i64 i),(5,.ip (cK ⟨2,name,lo,hi',ws,lbs,vals,kids,.mk vk vn vs vks⟩)),(6,.int .i64 p.2),(67,.il 1 (aV kids)),(68,.int .i64 kids.length),(69,.int .i64 p.1)],HS ns (ls.set i len) ss kn [],7,112⟩) (λp=>kids.length-p.1) (0,1) (rJ [0,1,2,3,4,5,6]) ⟨sq,by simp[cX];omega⟩
   (aK _ rfl (kF rfl rfl rfl rfl rfl rfl rfl rfl rfl rfl (by rw[h0];exact(n8 _ _ _).symm) rfl rfl rfl rfl rfl trivial) ⟨aN,aF,aP (.ip' hxn),aF,aP (.il' (aT _)),⟨_,rfl,.int (by rw[aH])⟩,aF,trivial⟩) ?_
  rintro⟨j,size⟩ ⟨hj,hsize⟩;simp only at hj hsize |-;have bsz:=hm (kids.take j);refine Z ?_;refine aL (λh=>?_) (λh=>?_)
  .have hlt:j<kids.length:=su h
   have e1:(aV kids)[(j:Int).toNat]? = some (.int .i64 kids[j]):=by rw[Yy,bK,Yw hlt];rfl
   obtain⟨q0,q1⟩:=hkids j _ (Yw hlt);have hM:=hM j hlt;have eg:kids.getD j 0=kids[j]:=by rw[Yx,Yw hlt];rfl
   rw[eg] at hM;have hM:cX ss (kids.take (j+1))=max (cX ss (kids.take j)) (eJ ss kids[j]):=su hM
   generalize kids[j]=q at e1 q0 q1 hM;obtain⟨q,rfl⟩:=ZD q0;have e2:=eat q q0 om;have hq:=hat q;have g2:Nat.blt ((q:Nat):Int).toNat ns.length=true:=Y3 (by simp;omega);generalize eJ ss q=z at e2 hq hM;refine Z ?_;repeat((first|refine aO g2 ?_|refine aC e1 ?_|refine aC e2 ?_);refine Z ?_)
   by_cases k0:0<j
   .have d0:decide ((j:Int)>0)=true:=by simp;omega
    rw[d0];refine Z ?_;repeat((first|refine aO g2 ?_|refine aC e1 ?_|refine aC e2 ?_);refine Z ?_)
    exact .mk (j+1,max size z) (rJ [0,1,2,3,4,5,6]) ⟨by simp only;omega,by simp only;rw[hM,hsize];omega⟩
     (aK _ rfl (nQ _ _ _ _) ⟨aN,aF,aP (.ip' hxn),⟨_,rfl,.int (by simp only;split<;>omega)⟩,aP (.il' (aT _)),aF,⟨_,rfl,.wp⟩,trivial⟩) (by simp only;omega)
   .have d0:decide ((j:Int)>0)=false:=by simp;omega
    rw[d0];refine Z ?_;repeat((first|refine aO g2 ?_|refine aC e1 ?_|refine aC e2 ?_);refine Z ?_)
    exact .mk (j+1,max size z) (rJ [0,1,2,3,4,5,6]) ⟨by simp only;omega,by simp only;rw[hM,hsize];omega⟩
     (aK _ rfl (nQ _ _ _ _) ⟨aN,aF,aP (.ip' hxn),⟨_,rfl,.int (by simp only;split<;>omega)⟩,aP (.il' (aT _)),aF,⟨_,rfl,.wp⟩,trivial⟩) (by simp only;omega)
  .have hlt:j=kids.length:=by simp at h;omega
   rw[hlt,ZJ,show cX ss kids=cX ss (eQ ⟨2,name,lo,hi',ws,lbs,vals,kids,.mk vk vn vs vks⟩) from rfl,<-hP] at hsize;subst hsize;refine Rt ?_;repeat((first|refine aO g1 ?_|refine aC f3 ?_|refine aC (f4 _) ?_|refine aC f2' ?_);refine Rt ?_)
   rw[<-hd1];clear hd1;cases d1 with
   | true=>
    refine Z ?_;exact fin' _ _ rfl rfl
   | false=>
    refine Z ?_;exact fin' _ _ rfl rfl
 .rw[Yz (by decide),Yz (by decide),Y4 rfl] at hP;refine Z ?_;refine bI.at bJ (λp:Nat × Int=>p.1<=kids.length/\p.2=1+fR ss (kids.take p.1))
   (λp=>⟨[(0,.ptr 0 0 0),(1,.int .i64 i),(6,.int .i64 p.2),(45,.il 1 (aV kids)),(46,.int .i64 kids.length),(47,.int .i64 p.1)],HS ns (ls.set i len) ss kn [],7,112⟩) (λp=>kids.length-p.1) (0,1) (rJ [0,1,2,3,4,5,6]) ⟨sq,by simp[fR]⟩
   (aK _ rfl (kF rfl rfl rfl rfl rfl rfl rfl rfl rfl rfl (by rw[h0];exact(n8 _ _ _).symm) rfl rfl rfl rfl rfl trivial) ⟨aN,aF,aF,aP (.il' (aT _)),⟨_,rfl,.int (by rw[aH])⟩,aF,trivial⟩) ?_
  rintro⟨j,size⟩ ⟨hj,hsize⟩;simp only at hj hsize |-;have bsz:=hs (kids.take j);have btk:(kids.take j).length<=65536:=by simp;omega
  refine Z ?_;refine aL (λh=>?_) (λh=>?_)
  .have hlt:j<kids.length:=su h
   have e1:(aV kids)[(j:Int).toNat]? = some (.int .i64 kids[j]):=by rw[Yy,bK,Yw hlt];rfl
   obtain⟨q0,q1⟩:=hkids j _ (Yw hlt);have hst:=wL (b:=ss) hlt;generalize kids[j]=q at e1 q0 q1 hst;obtain⟨q,rfl⟩:=ZD q0;have e2:=eat q q0 om;have hq:=hat q;have g2:Nat.blt ((q:Nat):Int).toNat ns.length=true:=Y3 (by simp;omega);generalize eJ ss q=z at e2 hq hst;refine Z ?_;repeat((first|refine aO g2 ?_|refine aC e1 ?_|refine aC e2 ?_);refine Z ?_)
   exact .mk (j+1,size+z) (rJ [0,1,2,3,4,5,6]) ⟨by simp only;omega,by simp only;rw[hst,hsize];omega⟩
    (aK _ rfl (nQ _ _ _ _) ⟨aN,aF,⟨_,rfl,.w64 rfl ⟨by simp only;omega,by simp only;omega⟩⟩,aP (.il' (aT _)),aF,⟨_,rfl,.wp⟩,trivial⟩) (by simp only;omega)
  .have hlt:j=kids.length:=by simp at h;omega
   rw[hlt,ZJ,<-hP] at hsize;subst hsize;refine Rt ?_;repeat((first|refine aO g1 ?_|refine aC f3 ?_|refine aC (f4 _) ?_|refine aC f2' ?_);refine Rt ?_)
   rw[<-hd1];clear hd1;cases d1 with
   | true=>
    refine Z ?_;exact fin' _ _ rfl rfl
   | false=>
    refine Z ?_;exact fin' _ _ rfl rfl
 .rw[Yz (by decide),Yz (by decide),Yz (by decide)] at hP;refine Z ?_;refine bI.at bJ (λp:Nat × Int=>p.1<=kids.length/\p.2=max 1 (cX ss ((kids.take p.1).drop 1)))
   (λp=>⟨[(0,.ptr 0 0 0),(1,.int .i64 i),(5,.ip (cK ⟨4,name,lo,hi',ws,lbs,vals,kids,.mk vk vn vs vks⟩)),(6,.int .i64 p.2),(67,.il 1 (aV kids)),(68,.int .i64 kids.length),(69,.int .i64 p.1)],HS ns (ls.set i len) ss kn [],7,112⟩) (λp=>kids.length-p.1) (0,1) (rJ [0,1,2,3,4,5,6]) ⟨sq,by simp[cX];omega⟩
   (aK _ rfl (kF rfl rfl rfl rfl rfl rfl rfl rfl rfl rfl (by rw[h0];exact(n8 _ _ _).symm) rfl rfl rfl rfl rfl trivial) ⟨aN,aF,aP (.ip' hxn),aF,aP (.il' (aT _)),⟨_,rfl,.int (by rw[aH])⟩,aF,trivial⟩) ?_
  rintro⟨j,size⟩ ⟨hj,hsize⟩;simp only at hj hsize |-;have bsz:=hm ((kids.take j).drop 1);refine Z ?_;refine aL (λh=>?_) (λh=>?_)
  .have hlt:j<kids.length:=su h
   have e1:(aV kids)[(j:Int).toNat]? = some (.int .i64 kids[j]):=by rw[Yy,bK,Yw hlt];rfl
   obtain⟨q0,q1⟩:=hkids j _ (Yw hlt);have hM:=hM j hlt;have eg:kids.getD j 0=kids[j]:=by rw[Yx,Yw hlt];rfl
   rw[eg] at hM;have hM:0<j->cX ss ((kids.take (j+1)).drop 1)=max (cX ss ((kids.take j).drop 1)) (eJ ss kids[j]):=λhj=>by rw[pV hlt hj]
   generalize kids[j]=q at e1 q0 q1 hM;obtain⟨q,rfl⟩:=ZD q0;have e2:=eat q q0 om;have hq:=hat q;have g2:Nat.blt ((q:Nat):Int).toNat ns.length=true:=Y3 (by simp;omega);generalize eJ ss q=z at e2 hq hM;refine Z ?_;repeat((first|refine aO g2 ?_|refine aC e1 ?_|refine aC e2 ?_);refine Z ?_)
   by_cases k0:0<j
   .have d0:decide ((j:Int)>0)=true:=by simp;omega
    rw[d0];refine Z ?_;repeat((first|refine aO g2 ?_|refine aC e1 ?_|refine aC e2 ?_);refine Z ?_)
    exact .mk (j+1,max size z) (rJ [0,1,2,3,4,5,6]) ⟨by simp only;omega,by simp only;rw[hM k0,hsize];omega⟩
     (aK _ rfl (nQ _ _ _ _) ⟨aN,aF,aP (.ip' hxn),⟨_,rfl,.int (by simp only;split<;>omega)⟩,aP (.il' (aT _)),aF,⟨_,rfl,.wp⟩,trivial⟩) (by simp only;omega)
   .have d0:decide ((j:Int)>0)=false:=by simp;omega
    rw[d0];refine Z ?_;repeat((first|refine aO g2 ?_|refine aC e1 ?_|refine aC e2 ?_);refine Z ?_)
    have j0:j=0:=om;subst j0;exact .mk (1,size) (rJ [0,1,2,3,4,5,6]) ⟨by simp only;omega,by simp only;rw[hsize];simp[Zy]⟩
     (aK _ rfl (nQ _ _ _ _) ⟨aN,aF,aP (.ip' hxn),aF,aP (.il' (aT _)),aF,⟨_,rfl,.wp⟩,trivial⟩) (by simp only;omega)
  .have hlt:j=kids.length:=by simp at h;omega
   rw[hlt,ZJ,show cX ss (kids.drop 1)=cX ss (eQ ⟨4,name,lo,hi',ws,lbs,vals,kids,.mk vk vn vs vks⟩) from rfl,<-hP] at hsize;subst hsize;refine Rt ?_;repeat((first|refine aO g1 ?_|refine aC f3 ?_|refine aC (f4 _) ?_|refine aC f2' ?_);refine Rt ?_)
   rw[<-hd1];clear hd1;cases d1 with
   | true=>
    refine Z ?_;exact fin' _ _ rfl rfl
   | false=>
    refine Z ?_;exact fin' _ _ rfl rfl
theorem VI{ns:List Nd}{n:Nat}(h:iL ns n)(x:Nd)(hvl:x.values.length<=1000000)(hk4:x.kind=4->∃k:Nat,x.kids[0]? = some (k:Int)/\k<n)(ls ss:List Int)(kn:List Bool)(hk:kn.length=ns.length) :
  aJ prog [] 66 [.ptr 0 0 0,.ip (cK x)] (HS ns ls ss kn []) 7 λr m k=>∃kn',kn'.length=ns.length /\
   r = .int .i64 (if x.kind=4 then(if (dV (aS ns) (x.kids.getD 0 0)).many=true then 4 else if dC (dV (aS ns) (x.kids.getD 0 0)).vals x.values=true then 0 else 1) else 0)/\m=HS ns ls ss kn' []/\k=7:=by
 have hxn:=bH x;generalize hres:(if x.kind=4 then(if (dV (aS ns) (x.kids.getD 0 0)).many=true then 4 else if dC (dV (aS ns) (x.kids.getD 0 0)).vals x.values=true then 0 else 1) else(0:Int))=res;have fin:∀(kn':List Bool) (mem:aQ) (nx:Nat) (c:Int),kn'.length=ns.length->c=res->cO mem (rJ [0,1,2,3,4,5,6]) (HS ns ls ss kn' []) ->
   kH 7 (λr m k=>∃kn',kn'.length=ns.length/\r = .int .i64 res/\m=HS ns ls ss kn' []/\k=7) (.int .i64 c) mem nx:=by
  rintro kn' mem nx c hk' rfl hM;exact bM (n':=7) (m':=HS ns ls ss kn' []) (rJ [0,1,2,3,4,5,6]) rfl hM (.same _ nn) ⟨kn',hk',rfl,rfl,rfl⟩
 by_cases e4:x.kind=4
 .obtain⟨k,hkg,hkn⟩:=hk4 e4;have eg:x.kids.getD 0 0=(k:Int):=by rw[Yx,hkg];rfl
  rw[Y4 e4,eg] at hres;have ek:(aV x.kids)[(0:Int).toNat]? = some (.int .i64 k):=by rw[show (0:Int).toNat=0 from rfl,bK,hkg];rfl
  have hO:=Yu h k hkn kn hk;have hv:=h.vals (k:=k) om om;obtain⟨lk,hlk⟩:∃lk,lk=dV (aS ns) k:=⟨_,rfl⟩
  unfold sQ at hO;rw[<-hlk] at hv hres;simp only[<-hlk] at hO;obtain⟨lv,lm⟩:=lk;simp only at hv hres;have hE:=λl (hl:l.length<=1024) hok=>K2 l x.values om om hok
  obtain⟨kind,name,lo,hi',ws,lbs,vals,kids,⟨vk,vn,vs,vks⟩⟩:=x;simp only at e4 ek hvl hE hres;subst e4;refine aG bJ func66 rfl ?_;refine Z ?_;repeat((first|refine aC ek ?_|refine aY ?_);refine Z ?_)
  refine aJ.useR bJ [(3,0),(4,1),(5,2),(6,3)] hO (by rfl) (.cons (.ptr 3 0 0 0 rfl) (.s .nil)) ⟨⟨3,_,rfl,rfl,Ec rfl rfl rfl⟩,aI 4 (iY _),aI 5 (AI _ _),aI 6 (xH _ _),trivial⟩ (by rfl) ?_;rintro r m nn' ⟨kn',hk',rfl,rfl,rfl⟩;refine⟨[(3,.row 144 4 [.agg [.il 12 (bC ns),.sl 4 0 ns.length,.sl 5 0 ns.length,.sl 6 0 ns.length]]),(4,.row 4 1 (kB kn')),(5,.row 48 1 (lB (aS ns) kn')),(6,.row 4 1 (mB (aS ns) kn'))],nn,⟨⟨0,_,rfl,rfl,Ec rfl rfl rfl⟩,aI 1 (iY _),aI 2 (AI _ _),aI 3 (xH _ _),trivial⟩,by rfl, ?_⟩;cases lm with
  | true=>
   refine Z ?_;refine fin kn' _ _ _ hk' (by rw[<-hres];simp) ?_;exact kF rfl rfl rfl rfl rfl rfl rfl rfl rfl rfl rfl rfl rfl rfl rfl rfl trivial
  | false=>
   have hE:=hE lv hv.1 hv.2;obtain⟨sv,hsv⟩:∃sv,sv=dC lv vals:=⟨_,rfl⟩
   rw[<-hsv] at hE hres;refine Z ?_;refine hE.go ?_;cases sv with
   | true=>
    refine Z ?_;refine fin kn' _ _ _ hk' (by rw[<-hres];simp) ?_;exact kF rfl rfl rfl rfl rfl rfl rfl rfl rfl rfl rfl rfl rfl rfl rfl rfl trivial
   | false=>
    refine Z ?_;refine fin kn' _ _ _ hk' (by rw[<-hres];simp) ?_;exact kF rfl rfl rfl rfl rfl rfl rfl rfl rfl rfl rfl rfl rfl rfl rfl rfl trivial
 .rw[Yz e4] at hres;obtain⟨kind,name,lo,hi',ws,lbs,vals,kids,⟨vk,vn,vs,vks⟩⟩:=x;simp only at e4;refine aG bJ func66 rfl ?_;refine Z ?_;refine aL (λ_=>?_) (λh=>absurd (su h) e4);refine Z ?_;exact fin kn _ _ _ hk hres (nQ _ _ _ _)
end Go.Proofs.YthggfhnnkclooaaGreatDoor
