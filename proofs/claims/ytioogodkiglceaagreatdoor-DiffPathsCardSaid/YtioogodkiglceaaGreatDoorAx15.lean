/- A part of the proof. -/
import Derived.Test.YtioogodkiglceaaGreatDoorAx14
import Derived.Test.YtioogodkiglceaaGreatDoorProg
set_option linter.unusedVariables false
set_option linter.unusedSimpArgs false
set_option linter.unusedSectionVars false
namespace Go.Proofs.YtioogodkiglceaaGreatDoor
open Go Go.Ax Go.Proofs Tryz
set_option maxRecDepth 100000
set_option maxHeartbeats 8000000
theorem Pj(l m:List a6)(hl:l.length<=4294967296)(hok:∀a∈l,gH a):bB prog [] 68 [.il 4 (aQ l),.il 4 (aQ m)] (.bool (dB l m)):=by
 refine aK bG func68 rfl ?_;refine Rr ?_;refine aI (fun h=>?_) (fun h=>?_)
 ·refine Rr ?_;refine aA nn ⟨?_,rfl,rfl⟩;rw[aB,aB] at h;rw[DM (by simp at h;omega)]
 have hlen:l.length=m.length:=by rw[aB,aB] at h;simp at h;omega
 refine Rr ?_;refine bC.at bG (fun k:Nat=>k<=l.length/\dB l m=dB (l.drop k) (m.drop k))
  (fun k=>⟨[(0,.il 4 (aQ l)),(1,.il 4 (aQ m)),(5,.int .i64 k)],[],0,27⟩) (fun k=>l.length-k) 0 [] ⟨by simp,by simp⟩
  (bX ⟨aF,aF,aF,trivial⟩) ?_
 rintro k ⟨hk,hs⟩;refine Rr ?_;refine aI (fun h=>?_) (fun h=>?_)
 ·have hlt:k<l.length:=G7 h;obtain⟨p1,p2,p3,p4,pm,pg,pe,ep⟩:=bT (l:=l) (k:=k) hlt;obtain⟨q1,q2,q3,q4,qm,qg,qe,eq⟩:=bT (l:=m) (k:=k) om;have hc:=zO (.mk p1 p2 p3 p4) (.mk q1 q2 q3 q4) (hok _ pm);rw[List.drop_eq_getElem_cons hlt,List.drop_eq_getElem_cons (show k<m.length by omega),pe,qe,dB] at hs;generalize cE (.mk p1 p2 p3 p4) (.mk q1 q2 q3 q4)=c at hc hs;refine Rr ?_;repeat((first|refine aD ep ?_|refine aD eq ?_|refine aU ?_);refine Rr ?_)
  refine hc.go ?_;refine Rr ?_;repeat((first|refine aD ep ?_|refine aD eq ?_|refine aU ?_);refine Rr ?_)
  refine aI (fun h=>?_) (fun h=>?_)
  ·refine Rr ?_;refine aA nn ⟨?_,rfl,rfl⟩;rw[hs,Vv (by simpa using h)];rfl
  ·refine Rr ?_;refine .mk (k+1) [] ⟨om, ?_⟩ (bX ⟨aF,aF,⟨_,rfl,.w64 om ⟨om,om⟩⟩,trivial⟩) om;rw[hs,Vi (by simpa using h),XI]
 ·have hge:l.length<=k:=IJ h;refine Rr ?_;refine aA nn ⟨?_,rfl,rfl⟩;rw[hs,WV om,WV om,dB]
theorem Tx(x:Nd)(ks:List a6):bB prog [] 129 [bW x,.il 4 (aQ ks)] (bS (dP x.name ks)):=by
 obtain⟨kind,name,lo,hi,ws,ls,vals,kids,⟨vk,vn,vs,vks⟩⟩:=x;refine aK bG func129 rfl ?_;refine Rr ?_;refine aI (fun h=>?_) (fun h=>?_)
 ·have h:name=[]:=by simpa using h
  refine Rr ?_;exact dK (r':=bS (.mk 2 0 [] ks)) (.same _ nn) ⟨by rw[dP,Vb h],rfl,rfl⟩
 ·have h:¬name=[]:=by simpa using h
  refine Rr ?_;exact dK (r':=bS (.mk 3 0 name ks)) (.same _ nn) ⟨by rw[dP,VY h],rfl,rfl⟩
theorem UL(i:Nat)(x:Nd)(hi:i<=4294967296)(hx:n4 x)(hvl:x.values.length<=4294967290):bB prog [] 33 [.int .i64 i,bW x] (.int .i64 (eI i x)):=by
 have h1:=Lb i x hi hx;have h2:=N3 x hx;have hval:∀a∈mT x,bB prog [] 65 [bS a] (.int .i64 (fL a)):=by
  intro a ha;have key:gH a/\bF a<=4294967296:=by
   unfold mT at ha;rcases Vs.1 ha with h|h
   ·split at h
    ·simp at h;rw[h];exact⟨hx.value,hx.valueS⟩
    ·cases h
   ·exact hx.valuesI a h
  exact Rc a key.1 om
 have hres:eI i x=if cP i x=false then 1 else if eM (mT x)≠0 then eM (mT x) else if dX x=false then 5 else 0:=rfl
 generalize eI i x=res at hres;generalize cP i x=fb at h1 hres;generalize dX x=nb at h2 hres;clear hx;obtain⟨kind,name,lo,hi,ws,ls,vals,kids,⟨vk,vn,vs,vks⟩⟩:=x;simp only at hvl;have hown:mT ⟨kind,name,lo,hi,ws,ls,vals,kids,.mk vk vn vs vks⟩=(if kind=0 then [a6.mk vk vn vs vks] else [])++vals:=rfl;generalize mT ⟨kind,name,lo,hi,ws,ls,vals,kids,.mk vk vn vs vks⟩=own at hval hres hown;have hol:own.length<=4294967291:=by rw[hown];split<;>simp<;>omega
 refine aK bG func33 rfl ?_;refine Rr ?_;refine h1.go ?_ (.cons (.int _ _) (.cons (aV _) .nil));cases fb with
 | false=>
  refine Rr ?_;refine aA nn ⟨?_,rfl,rfl⟩;rw[hres,Vb rfl]
 | true=>
  refine Rr ?_;refine aI (fun h=>?_) (fun h=>?_)
  case' refine_1=>
   have hk:kind=0:=by simpa using h
   rw[Vb hk] at hown;refine Rr ?_;refine aN (bV rfl rfl (by simp) (by simp[aB];omega)) ?_;refine Rr ?_;refine bC.at bG (fun k:Nat=>k<=own.length/\eM own=eM (own.drop k))
    (fun k=>⟨[(3,.ptr 0 0 0),(6,.sl 1 0 own.length),(7,.int .i64 k)],[(0,.row 46 12 [bW ⟨kind,name,lo,hi,ws,ls,vals,kids,.mk vk vn vs vks⟩]),(1,.row 38 4 (aQ own))],2,45⟩) (fun k=>own.length-k) 0 [(0,0),(3,1)] ⟨by simp,by simp⟩
    (aG _ rfl ⟨aL 0 (.cons (aV _) .nil),⟨3,_,rfl,rfl,.eq dE (by rw[hown];rfl)⟩,trivial⟩ ⟨aJ,⟨_,rfl,.slE rfl (by rw[hown];simp[aB];omega)⟩,aF,trivial⟩) ?_
  case' refine_2=>
   have hk:¬kind=0:=by simpa using h
   rw[VY hk] at hown;refine Rr ?_;refine aN (Bq rfl (by simp[aB];omega)) ?_;refine Rr ?_;refine bC.at bG (fun k:Nat=>k<=own.length/\eM own=eM (own.drop k))
    (fun k=>⟨[(3,.ptr 0 0 0),(6,.sl 1 0 own.length),(7,.int .i64 k)],[(0,.row 46 12 [bW ⟨kind,name,lo,hi,ws,ls,vals,kids,.mk vk vn vs vks⟩]),(1,.row 38 4 (aQ own))],2,45⟩) (fun k=>own.length-k) 0 [(0,0),(1,1)] ⟨by simp,by simp⟩
    (aG _ rfl ⟨aL 0 (.cons (aV _) .nil),⟨1,_,rfl,rfl,.eq dE (by rw[hown];rfl)⟩,trivial⟩ ⟨aJ,⟨_,rfl,.slE rfl (by rw[hown];simp[aB])⟩,aF,trivial⟩) ?_
  all_goals
   clear h hown hk;rintro k ⟨hk,hf⟩;refine Rr ?_;refine aI (fun h=>?_) (fun h=>?_)
   ·have hlt:k<own.length:=by simpa using h
    obtain⟨p1,p2,p3,p4,pm,pg,pe,ep,bp⟩:=P2 (l:=own) (k:=k) (n:=own.length) hlt rfl;have hv:=hval _ pm;rw[List.drop_eq_getElem_cons hlt,pe,eM] at hf;generalize fL (.mk p1 p2 p3 p4)=e at hv hf;refine Rr ?_;repeat((first|refine aN bp ?_|refine aD ep ?_);refine Rr ?_)
    refine hv.go ?_;refine Rr ?_;refine aI (fun h=>?_) (fun h=>?_)
    ·have h:e≠0:=by simpa using h
     refine Rr ?_;refine aA nn ⟨?_,rfl,rfl⟩;rw[Vb h] at hf;rw[hres,VY (by simp),hf,Vb h]
    ·have h:¬e≠0:=by simpa using h
     rw[VY h] at hf;refine Rr ?_;exact .mk (k+1) [(0,0),(1,1)] ⟨om,hf⟩ (aG _ rfl ⟨aL 0 (.cons (aV _) .nil),aL 1 dE,trivial⟩ ⟨aJ,⟨_,rfl,.sl 1 1 0 _ rfl⟩,⟨_,rfl,.w64 om ⟨om,om⟩⟩,trivial⟩) om
   ·have hge:own.length<=k:=by simpa using h
    rw[WV hge,eM] at hf;refine Rr ?_;refine h2.go ?_ (.cons (aV _) .nil);cases nb with
    | false=>
     refine Rr ?_;refine aA nn ⟨?_,rfl,rfl⟩;rw[hres,VY (by simp),hf,VY (by simp),Vb rfl]
    | true=>
     refine Rr ?_;refine aA nn ⟨?_,rfl,rfl⟩;rw[hres,VY (by simp),hf,VY (by simp),VY (by simp)]
set_option maxHeartbeats 8000000
theorem OU(bs:List Int)(x:Nd)(hx:n4 x)(hbl:bs.length<=1000000)(hb:∀y∈bs,0<=y/\y<=1024)(hk:∀(j:Nat) (k:Int),x.kids[j]? = some k->0<=k/\k<bs.length)(h4:4<=x.kind->0<x.kids.length)(hkind:0<=x.kind/\x.kind<=4) :
  aH prog [] 34 [.sl 0 0 bs.length,bW x] [(0,.row 3 1 (aS bs))] 1 fun r m _=>∃(len:Nat) (ys:List AV),r = .sl 1 0 len/\m=[(1,.row 3 1 ys)]/\jZ ys/\(len=bs.length+1/\ys=aS (bs++[Go.Ax.d9 bs x])):=by
 have b1:=hx.kids;have b2:=hx.value;have b3:=hx.valueS;clear hx;have hat:=mX (b:=bs) (M:=1024) om hb;have hsum:=jA (b:=bs) (M:=1024) om hb;have hmost:=gP (b:=bs) (M:=1024) om hb;obtain⟨kind,name,lo,hi,ws,ls,vals,kids,⟨vk,vn,vs,vks⟩⟩:=x;simp only at b1 b2 b3 hk h4 hkind;have hfin:∀(v:Int) (m:aP) (n id:Nat) (e:Int),lk m id=some (.row 3 1 (aS bs++[.int .i64 e]))->1<=id->e=v->v=Go.Ax.d9 bs ⟨kind,name,lo,hi,ws,ls,vals,kids,.mk vk vn vs vks⟩ ->
   kN 1 (fun r m _=>∃(len:Nat) (ys:List AV),r = .sl 1 0 len/\m=[(1,.row 3 1 ys)]/\jZ ys/\(len=bs.length+1/\ys=aS (bs++[Go.Ax.d9 bs ⟨kind,name,lo,hi,ws,ls,vals,kids,.mk vk vn vs vks⟩]))) (.sl id 0 (bs.length+1)) m n:=by
  intro v m n id e hid h1 he hv;refine bJ (n':=2) (m':=[(1,.row 3 1 (aS (bs++[v])))]) [(id,1)] ?_ ⟨⟨id,_,by simp[lk],hid,.eq (aM _) (by rw[he];simp[aS])⟩,trivial⟩ (.sl id 1 0 _ (by simp[lk])) ⟨_,_,rfl,rfl,aM _,rfl,by rw[hv]⟩;simp[kD,Ce,jX,x9,yO]
 refine aK bG func34 rfl ?_;refine Rr ?_;refine bC.at bG (fun k:Nat=>k<=kids.length)
  (fun k=>⟨[(0,.sl 0 0 bs.length),(3,.ptr 1 0 0),(5,.int .i64 (0+fB bs (kids.take k))),(6,.int .i64 (cQ bs (if kind=2 then kids.take k else(kids.take k).drop 1))),(7,.int .i64 k)],[(0,.row 3 1 (aS bs)),(1,.row 46 12 [bW ⟨kind,name,lo,hi,ws,ls,vals,kids,.mk vk vn vs vks⟩])],2,74⟩) (fun k=>kids.length-k) 0 [(0,0),(1,1)] (by simp)
  (aG _ rfl ⟨aL 0 dE,aL 1 (.cons (aV _) .nil),trivial⟩ ⟨⟨_,rfl,.sl 0 0 0 _ rfl⟩,aJ,⟨_,rfl,.int rfl⟩,⟨_,rfl,.int (by split<;>rfl)⟩,aF,trivial⟩) ?_
 intro k hkl;have hs1:=hsum (kids.take k);have hlen:(kids.take k).length=k:=by simp;omega
 rw[hlen] at hs1;refine Rr ?_;refine aI (fun h=>?_) (fun h=>?_)
 ·have hlt:k<kids.length:=by rw[aC] at h;simpa using h
  have e1:(aS kids)[(k:Int).toNat]? = some (.int .i64 kids[k]):=by rw[Va,a8,VV hlt];rfl
  have hg:kids[k]? = some kids[k]:=VV hlt;have hst:=wF (b:=bs) hlt;have hmt:=rZ (b:=bs) hlt;have hmd:=pR (b:=bs) hlt;generalize kids[k]=q at e1 hg hst hmt hmd;obtain⟨q1,q2⟩:=hk k q hg;have hq:=hat q;obtain⟨qn,rfl⟩:=Vk q1;have hqn:qn<bs.length:=om;have e2:(aS bs)[0+(qn:Int).toNat]? = some (.int .i64 (dR bs qn)):=by rw[V0,Va,a8,VV hqn];simp[dR,hqn]
  have bq:Nat.blt (qn:Int).toNat bs.length=true:=Vc (by simp;omega);generalize dR bs qn=av at e2 hst hmt hmd hq;refine Rr ?_;repeat((first|refine aD e1 ?_|refine aN bq ?_|refine aD e2 ?_);refine Rr ?_)
  have hw:IntKind.i64.wrap (0+fB bs (kids.take k)+av)=0+fB bs (kids.take (k+1)):=w64 om ⟨om,om⟩;refine aI (fun h=>?_) (fun h=>?_)
  ·have h2:kind=2:=by simpa using h
   rw[h];refine Rr ?_;exact .mk (k+1) [(0,0),(1,1)] om (aG _ rfl ⟨aL 0 dE,aL 1 (.cons (aV _) .nil),trivial⟩ ⟨⟨_,rfl,.sl 0 0 0 _ rfl⟩,aJ,⟨_,rfl,.int hw⟩,⟨_,rfl,.int (by rw[Vb h2,Vb h2,hmt];simp;omega)⟩,⟨_,rfl,.w64 om ⟨om,om⟩⟩,trivial⟩) om
  ·have h2:¬kind=2:=by simpa using h
   rw[h];refine Rr ?_;refine aI (fun h=>?_) (fun h=>?_)
   ·have h3:0<k:=by simp at h;omega
    refine Rr ?_;exact .mk (k+1) [(0,0),(1,1)] om (aG _ rfl ⟨aL 0 dE,aL 1 (.cons (aV _) .nil),trivial⟩ ⟨⟨_,rfl,.sl 0 0 0 _ rfl⟩,aJ,⟨_,rfl,.int hw⟩,⟨_,rfl,.int (by rw[VY h2,VY h2,hmd h3];simp;omega)⟩,⟨_,rfl,.w64 om ⟨om,om⟩⟩,trivial⟩) om
   ·have h3:k=0:=by simp at h;omega
    refine Rr ?_;exact .mk (k+1) [(0,0),(1,1)] om (aG _ rfl ⟨aL 0 dE,aL 1 (.cons (aV _) .nil),trivial⟩ ⟨⟨_,rfl,.sl 0 0 0 _ rfl⟩,aJ,⟨_,rfl,.int hw⟩,⟨_,rfl,.int (by rw[VY h2,VY h2,h3];cases kids<;>simp)⟩,⟨_,rfl,.w64 om ⟨om,om⟩⟩,trivial⟩) om
 ·have hke:k=kids.length:=by rw[aC] at h;simp at h;omega
  rw[hke,Vr] at *;have hm1:=hmost kids;have hm2:=hmost (kids.drop 1);have hs2:=hsum kids;clear hke h;rcases(show kind=0∨kind=1∨kind=2∨kind=3∨kind=4 by omega) with rfl|rfl|rfl|rfl|rfl
  ·refine Rr ?_;refine aN (bV rfl rfl (by rw[aC]) (by simp;omega)) ?_;refine Rr ?_;exact hfin 0 _ _ _ _ rfl (by decide) rfl rfl
  ·refine Rr ?_;refine aN (bV rfl rfl (by rw[aC]) (by simp;omega)) ?_;refine Rr ?_;exact hfin 1 _ _ _ _ rfl (by decide) rfl rfl
  ·rw[Vb rfl] at *;refine Rr ?_;refine aN (bV rfl rfl (by rw[aC]) (by simp;omega)) ?_;refine Rr ?_;exact hfin (1+cQ bs kids) _ _ _ _ rfl (by decide) (w64 rfl ⟨om,om⟩) rfl
  ·refine Rr ?_;refine aN (bV rfl rfl (by rw[aC]) (by simp;omega)) ?_;refine Rr ?_;exact hfin (fB bs kids) _ _ _ _ rfl (by decide) om rfl
  ·rw[VY om] at *;have hpos:0<kids.length:=h4 om;have e1:(aS kids)[(0:Int).toNat]? = some (.int .i64 (kids.getD 0 0)):=by rw[show (0:Int).toNat=0 from rfl,a8,VV hpos];simp[hpos]
   obtain⟨q1,q2⟩:=hk 0 (kids.getD 0 0) (by simp[hpos]);have hval:Go.Ax.d9 bs ⟨4,name,lo,hi,ws,ls,vals,kids,.mk vk vn vs vks⟩=dR bs (kids.getD 0 0)+cQ bs (kids.drop 1):=rfl;generalize kids.getD 0 0=q at e1 q1 q2 hval;have hq:=hat q;obtain⟨qn,rfl⟩:=Vk q1;have hqn:qn<bs.length:=om;have e2:(aS bs)[0+(qn:Int).toNat]? = some (.int .i64 (dR bs qn)):=by rw[V0,Va,a8,VV hqn];simp[dR,hqn]
   have bq:Nat.blt (qn:Int).toNat bs.length=true:=Vc (by simp;omega);generalize dR bs qn=av at e2 hval hq;refine Rr ?_;repeat((first|refine aD e1 ?_|refine aN bq ?_|refine aD e2 ?_);refine Rr ?_)
   refine aN (bV rfl rfl (by rw[aC]) (by simp;omega)) ?_;refine Rr ?_;exact hfin (av+cQ bs (kids.drop 1)) _ _ _ _ rfl (by decide) (w64 rfl ⟨om,om⟩) hval.symm
theorem Rf(bs:List Int)(x:Nd)(hx:n4 x)(hbl:bs.length<=1000000)(hb:∀y∈bs,0<=y/\y<=1024)(hk:∀(j:Nat) (k:Int),x.kids[j]? = some k->0<=k/\k<bs.length)(h4:4<=x.kind->0<x.kids.length)(hkind:0<=x.kind/\x.kind<=4) :
  aH prog [] 35 [.sl 0 0 bs.length,bW x] [(0,.row 3 1 (aS bs))] 1 fun r m _=>∃(len:Nat) (ys:List AV),r = .sl 1 0 len/\m=[(1,.row 3 1 ys)]/\jZ ys/\(len=bs.length+1/\ys=aS (bs++[iI bs x])):=by
 have b1:=hx.kids;have b2:=hx.value;have b3:=hx.valueS;clear hx;have hat:=mX (b:=bs) (M:=1024) om hb;have hsum:=jA (b:=bs) (M:=1024) om hb;have hmost:=gP (b:=bs) (M:=1024) om hb;obtain⟨kind,name,lo,hi,ws,ls,vals,kids,⟨vk,vn,vs,vks⟩⟩:=x;simp only at b1 b2 b3 hk h4 hkind;have hfin:∀(v:Int) (m:aP) (n id:Nat) (e:Int),lk m id=some (.row 3 1 (aS bs++[.int .i64 e]))->1<=id->e=v->v=iI bs ⟨kind,name,lo,hi,ws,ls,vals,kids,.mk vk vn vs vks⟩ ->
   kN 1 (fun r m _=>∃(len:Nat) (ys:List AV),r = .sl 1 0 len/\m=[(1,.row 3 1 ys)]/\jZ ys/\(len=bs.length+1/\ys=aS (bs++[iI bs ⟨kind,name,lo,hi,ws,ls,vals,kids,.mk vk vn vs vks⟩]))) (.sl id 0 (bs.length+1)) m n:=by
  intro v m n id e hid h1 he hv;refine bJ (n':=2) (m':=[(1,.row 3 1 (aS (bs++[v])))]) [(id,1)] ?_ ⟨⟨id,_,by simp[lk],hid,.eq (aM _) (by rw[he];simp[aS])⟩,trivial⟩ (.sl id 1 0 _ (by simp[lk])) ⟨_,_,rfl,rfl,aM _,rfl,by rw[hv]⟩;simp[kD,Ce,jX,x9,yO]
 refine aK bG func35 rfl ?_;refine Rr ?_;refine bC.at bG (fun k:Nat=>k<=kids.length)
  (fun k=>⟨[(0,.sl 0 0 bs.length),(3,.ptr 1 0 0),(5,.int .i64 (1+fB bs (kids.take k))),(6,.int .i64 (cQ bs (if kind=2 then kids.take k else(kids.take k).drop 1))),(7,.int .i64 k)],[(0,.row 3 1 (aS bs)),(1,.row 46 12 [bW ⟨kind,name,lo,hi,ws,ls,vals,kids,.mk vk vn vs vks⟩])],2,62⟩) (fun k=>kids.length-k) 0 [(0,0),(1,1)] (by simp)
  (aG _ rfl ⟨aL 0 dE,aL 1 (.cons (aV _) .nil),trivial⟩ ⟨⟨_,rfl,.sl 0 0 0 _ rfl⟩,aJ,⟨_,rfl,.int rfl⟩,⟨_,rfl,.int (by split<;>rfl)⟩,aF,trivial⟩) ?_
 intro k hkl;have hs1:=hsum (kids.take k);have hlen:(kids.take k).length=k:=by simp;omega
 rw[hlen] at hs1;refine Rr ?_;refine aI (fun h=>?_) (fun h=>?_)
 ·have hlt:k<kids.length:=by rw[aC] at h;simpa using h
  have e1:(aS kids)[(k:Int).toNat]? = some (.int .i64 kids[k]):=by rw[Va,a8,VV hlt];rfl
  have hg:kids[k]? = some kids[k]:=VV hlt;have hst:=wF (b:=bs) hlt;have hmt:=rZ (b:=bs) hlt;have hmd:=pR (b:=bs) hlt;generalize kids[k]=q at e1 hg hst hmt hmd;obtain⟨q1,q2⟩:=hk k q hg;have hq:=hat q;obtain⟨qn,rfl⟩:=Vk q1;have hqn:qn<bs.length:=om;have e2:(aS bs)[0+(qn:Int).toNat]? = some (.int .i64 (dR bs qn)):=by rw[V0,Va,a8,VV hqn];simp[dR,hqn]
  have bq:Nat.blt (qn:Int).toNat bs.length=true:=Vc (by simp;omega);generalize dR bs qn=av at e2 hst hmt hmd hq;refine Rr ?_;repeat((first|refine aD e1 ?_|refine aN bq ?_|refine aD e2 ?_);refine Rr ?_)
  have hw:IntKind.i64.wrap (1+fB bs (kids.take k)+av)=1+fB bs (kids.take (k+1)):=w64 om ⟨om,om⟩;refine aI (fun h=>?_) (fun h=>?_)
  ·have h2:kind=2:=by simpa using h
   rw[h];refine Rr ?_;exact .mk (k+1) [(0,0),(1,1)] om (aG _ rfl ⟨aL 0 dE,aL 1 (.cons (aV _) .nil),trivial⟩ ⟨⟨_,rfl,.sl 0 0 0 _ rfl⟩,aJ,⟨_,rfl,.int hw⟩,⟨_,rfl,.int (by rw[Vb h2,Vb h2,hmt];simp;omega)⟩,⟨_,rfl,.w64 om ⟨om,om⟩⟩,trivial⟩) om
  ·have h2:¬kind=2:=by simpa using h
   rw[h];refine Rr ?_;refine aI (fun h=>?_) (fun h=>?_)
   ·have h3:0<k:=by simp at h;omega
    refine Rr ?_;exact .mk (k+1) [(0,0),(1,1)] om (aG _ rfl ⟨aL 0 dE,aL 1 (.cons (aV _) .nil),trivial⟩ ⟨⟨_,rfl,.sl 0 0 0 _ rfl⟩,aJ,⟨_,rfl,.int hw⟩,⟨_,rfl,.int (by rw[VY h2,VY h2,hmd h3];simp;omega)⟩,⟨_,rfl,.w64 om ⟨om,om⟩⟩,trivial⟩) om
   ·have h3:k=0:=by simp at h;omega
    refine Rr ?_;exact .mk (k+1) [(0,0),(1,1)] om (aG _ rfl ⟨aL 0 dE,aL 1 (.cons (aV _) .nil),trivial⟩ ⟨⟨_,rfl,.sl 0 0 0 _ rfl⟩,aJ,⟨_,rfl,.int hw⟩,⟨_,rfl,.int (by rw[VY h2,VY h2,h3];cases kids<;>simp)⟩,⟨_,rfl,.w64 om ⟨om,om⟩⟩,trivial⟩) om
 ·have hke:k=kids.length:=by rw[aC] at h;simp at h;omega
  rw[hke,Vr] at *;have hm1:=hmost kids;have hm2:=hmost (kids.drop 1);have hs2:=hsum kids;clear hke h;rcases(show kind=0∨kind=1∨kind=2∨kind=3∨kind=4 by omega) with rfl|rfl|rfl|rfl|rfl
  ·have hz:=Nc (.mk vk vn vs vks) om;have hval:iI bs ⟨0,name,lo,hi,ws,ls,vals,kids,.mk vk vn vs vks⟩=((bF (.mk vk vn vs vks):Nat):Int):=rfl;generalize bF (.mk vk vn vs vks)=sz at hz hval;refine Rr ?_;refine hz.go ?_;refine Rr ?_;refine aN (bV rfl rfl (by rw[aC]) (by simp;omega)) ?_;refine Rr ?_;exact hfin sz _ _ _ _ rfl (by decide) rfl hval.symm
  ·refine Rr ?_;refine aN (bV rfl rfl (by rw[aC]) (by simp;omega)) ?_;refine Rr ?_;exact hfin 1 _ _ _ _ rfl (by decide) rfl rfl
  ·rw[Vb rfl] at *;refine Rr ?_;refine aN (bV rfl rfl (by rw[aC]) (by simp;omega)) ?_;refine Rr ?_;exact hfin (cQ bs kids) _ _ _ _ rfl (by decide) rfl rfl
  ·refine Rr ?_;refine aN (bV rfl rfl (by rw[aC]) (by simp;omega)) ?_;refine Rr ?_;exact hfin (1+fB bs kids) _ _ _ _ rfl (by decide) rfl rfl
  ·rw[VY om] at *;refine Rr ?_;refine aN (bV rfl rfl (by rw[aC]) (by simp;omega)) ?_;refine Rr ?_;exact hfin (cQ bs (kids.drop 1)) _ _ _ _ rfl (by decide) rfl rfl
set_option maxHeartbeats 4000000
theorem Up(k:Int)(b:Bool):Sc (.tup [.int .i64 k,.bool b]):=.tup _ fun j c h=>by
 rcases j with _|_|j<;>simp at h<;>subst h
 ·exact .int _ _
 ·exact .bool _
theorem It(l:List a6)(hl:l.length<=4294967296)(hok:∀a∈l,gH a) :
  aH prog [] 113 [.il 4 (aQ l)] [] 0 fun r m n=>r = .sl 0 0 (eR l).length/\m=[(0,.row 38 4 (aQ (eR l)))]/\n=1:=by
 have nl:NN (.il 4 (aQ l)):=nn;refine aK bG func113 rfl ?_;refine Rr ?_;refine bC.ph 38 4 ?_;refine bC.at bG (fun x:Nat × List a6=>x.1<=l.length/\x.2=eR (l.take x.1))
  (fun x=>⟨[(0,.il 4 (aQ l)),(3,.sl 0 0 x.2.length),(4,.int .i64 x.1)],[(0,.row 38 4 (aQ x.2))],1,41⟩)
  (fun x=>l.length-x.1) (0,[]) [(0,0)] ⟨by simp,by simp[eR]⟩
  (aG _ rfl ⟨⟨0,_,rfl,rfl,.nil⟩,trivial⟩ ⟨aR nl,⟨_,rfl,.nslk 0 0 _ rfl rfl⟩,aF,trivial⟩) ?_
 rintro⟨k,out⟩ ⟨h1,h2⟩
 dsimp only at h1 h2 ⊢
 have hout:out.length<=k:=by rw[h2];have:=rJ (l.take k);simp at this;omega
 have el:=aB out;have hoko:∀a∈out,gH a:=fun a ha=>by rw[h2] at ha;exact hok a (WE (rA ha))
 refine Rr ?_;refine aI (fun h=>?_) (fun h=>?_)
 ·have hk:k<l.length:=G7 h;obtain⟨ak,an,az,aks,hmem,hg,hv,e⟩:=bT (l:=l) (k:=k) hk;have hnext:eR (l.take (k+1))=uI out (.mk ak an az aks):=by
   rw[List.take_succ_eq_append_getElem hk,pC,←h2,hv]
  have hf:=TE out (.mk ak an az aks) om hoko;have hle:=rB out (.mk ak an az aks);have hins:uI out (.mk ak an az aks)=if (cD out (.mk ak an az aks)).2 then out else out.take (cD out (.mk ak an az aks)).1 ++ .mk ak an az aks::out.drop (cD out (.mk ak an az aks)).1:=rfl
  generalize cD out (.mk ak an az aks)=f at hf hle hins;generalize uI out (.mk ak an az aks)=nw at hnext hins;obtain⟨p,b⟩:=f
  dsimp only at hle hins hf
  refine Rr ?_;refine aD e ?_;refine Rr ?_;refine hf.lend bG (.cons (.fz' rfl rfl (by rw[aB];omega) (by rw[←aB];simp) (aO out)) (.cons (.same _ (bN (.mk ak an az aks))) .nil)) (Up _ _) ?_;cases b with
  | true=>
   refine Rr ?_;rw[Vb rfl] at hins;exact .mk (k+1,out) [(0,0)] ⟨by simp only;omega,by rw[←hins];exact hnext.symm⟩ (aG _ rfl ⟨aL 0 dE,trivial⟩ ⟨aR nl,⟨_,rfl,.sl 0 0 0 _ rfl⟩,⟨_,rfl,.w64 (by simp) ⟨om,om⟩⟩,trivial⟩) (by simp only;omega)
  | false=>
   rw[VY (by simp)] at hins;refine Rr ?_;repeat(first
    | (refine aU ?_;refine Rr ?_)
    | (refine aD e ?_;refine Rr ?_)
    | (refine aN (Ij (by simp;try omega) (by simp;try omega) (by simp;try omega)) ?_;refine Rr ?_)
    | (refine aN (J4 (by simp;try omega)) ?_;refine Rr ?_)
    | (refine aN (Bq rfl (by simp;try omega)) ?_;refine Rr ?_)
    | (refine aN (bV rfl rfl (by simp;try omega) (by simp;try omega)) ?_;refine Rr ?_))
   have hrow:List.take ((p:Int).toNat-0) (List.drop (0+0) (aQ out))++List.take 1 (List.drop 0 [AV.agg [.int .i64 ak,.int .i64 an,.str az,.il 4 (aQ aks)]])++List.take (out.length-(p:Int).toNat) (List.drop (0+(p:Int).toNat) (aQ out))=aQ nw:=by
    rw[hins];simp[fX,bS,List.map_take,X4];exact Vl (by simp)
   exact .mk (k+1,nw) [(19,0)] ⟨by simp only;omega,hnext.symm⟩ (aG _ rfl ⟨⟨19,_,rfl,rfl,.eq dE hrow⟩,trivial⟩ ⟨aR nl,⟨_,rfl,.slE rfl (by have:=congrArg List.length hrow;rw[Vf,Vf,aB] at this;exact this)⟩,⟨_,rfl,.w64 (by simp) ⟨om,om⟩⟩,trivial⟩) (by simp only;omega)
 ·have hk:k=l.length:=by have:=IJ h;omega
  refine Rr ?_;rw[hk,Vr] at h2;subst h2;exact bJ (n':=1) (m':=[(0,.row 38 4 (aQ (eR l)))]) [(0,0)] rfl ⟨aL 0 dE,trivial⟩ (.sl 0 0 0 _ rfl) ⟨rfl,rfl,rfl⟩
theorem R5(l:List a6)(hl:l.length<=4294967296)(hok:∀a∈l,gH a):bB prog [] 113 [.il 4 (aQ l)] (.il 4 (aQ (eR l))):=by
 refine aH.turn bG ((It l hl hok).mono ?_);rintro r m n ⟨rfl,rfl,rfl⟩;exact dK (.fz' rfl rfl (by rw[aB];omega) (by rw[←aB];simp) dE) ⟨rfl,rfl,rfl⟩
set_option maxHeartbeats 8000000
theorem L6(x:Nd)(bs:List gW)(h0:x.kind=0):aH prog [] 92 [bW x,.sl 0 0 bs.length] [(0,.row 125 2 (cC bs))] 1 fun r m _=>r=mS (cU x bs)/\m=[(0,.row 125 2 (cC bs))]:=by
 have nb:NN (.il 2 (cC bs)):=.il' (bO bs);obtain⟨kind,name,lo,hi,ws,ls,vals,kids,⟨vk,vn,vs,vks⟩⟩:=x;simp only at h0;subst h0;refine aK bG func92 rfl ?_;refine Rr ?_;refine bJ (r':=mS ⟨[.mk vk vn vs vks],false⟩) (n':=1) (m':=[(0,.row 125 2 (cC bs))]) [(0,0)] rfl ⟨aL 0 (bO bs),trivial⟩ (.agg' (.cons (.fzR rfl rfl (.cons (I1.same (x:=bS (.mk vk vn vs vks)) nn) .nil) rfl) (.s .nil))) ⟨rfl,rfl⟩
theorem I4(x:Nd)(bs:List gW)(h1:x.kind=1)(hlo : -4611686018427387904<=x.lo)(hh:x.lo<=x.hi)(hhi:x.hi<=4611686018427387904)(hsp:x.hi<x.lo+1099511627776):aH prog [] 92 [bW x,.sl 0 0 bs.length] [(0,.row 125 2 (cC bs))] 1 fun r m _=>r=mS (cU x bs)/\m=[(0,.row 125 2 (cC bs))]:=by
 obtain⟨kind,name,lo,hi,ws,ls,vals,kids,⟨vk,vn,vs,vks⟩⟩:=x;simp only at h1 hlo hh hhi hsp;subst h1;have hres:cU ⟨1,name,lo,hi,ws,ls,vals,kids,.mk vk vn vs vks⟩ bs=if 1024<=hi-lo then⟨[],true⟩ else⟨rR lo (hi+1-lo).toNat,false⟩:=rfl
 generalize cU ⟨1,name,lo,hi,ws,ls,vals,kids,.mk vk vn vs vks⟩ bs=res at hres;have hw:IntKind.i64.wrap (hi-lo)=hi-lo:=w64 rfl ⟨om,om⟩;refine aK bG func92 rfl ?_;refine Rr ?_;rw[hw];refine aI (fun h=>?_) (fun h=>?_)
 ·refine Rr ?_;exact bJ (r':=mS ⟨[],true⟩) (n':=1) (m':=[(0,.row 125 2 (cC bs))]) [(0,0)] rfl ⟨aL 0 (bO bs),trivial⟩ (.agg' (.cons (.nil 4) (.s .nil))) ⟨by rw[hres,Vb (by simpa using h)],rfl⟩
 ·have hlt:hi-lo<1024:=by simpa using h
  rw[VY om] at hres;refine Rr ?_;refine bC.ph 38 4 ?_;refine bC.at bG (fun k:Nat=>lo+k<=hi+1)
   (fun k=>⟨[(2,.ptr 1 0 0),(4,.ptr 2 0 0),(5,.ptr 3 0 0),(6,.int .i64 (lo+k))],[(0,.row 125 2 (cC bs)),(1,.row 46 12 [bW ⟨1,name,lo,hi,ws,ls,vals,kids,.mk vk vn vs vks⟩]),(2,.row 125 2 [.agg [.nsl,.bool false]]),(3,.row 125 2 [.agg [.sl 4 0 (rR lo k).length,.bool false]]),(4,.row 38 4 (aQ (rR lo k)))],5,96⟩)
   (fun k=>(hi+1-lo).toNat-k) 0 [(0,0),(1,1),(2,2),(3,3),(4,4)] om
   (aG _ rfl ⟨aL 0 (bO bs),aL 1 (.cons (aV _) .nil),aL 2 dE,⟨3,_,rfl,rfl,.cons (.agg (.cons (.nslk 4 4 _ rfl rfl) (.s .nil))) .nil⟩,⟨4,_,rfl,rfl,.nil⟩,trivial⟩ ⟨aJ,aJ,aJ,⟨_,rfl,.int (by simp)⟩,trivial⟩) ?_
  intro k hk;have hlen:=EE lo k;refine Rr ?_;refine aI (fun h=>?_) (fun h=>?_)
  ·have hkl:lo+k<=hi:=by simpa using h
   refine Rr ?_;refine aN (bV rfl rfl (by rw[aB]) (by simp;omega)) ?_;refine Rr ?_;exact .mk (k+1) [(0,0),(1,1),(2,2),(3,3),(6,4)] om
    (aG _ rfl ⟨aL 0 (bO bs),aL 1 (.cons (aV _) .nil),aL 2 dE,⟨3,_,rfl,rfl,.cons (.agg (.cons (.slE rfl (by rw[BQ];simp)) (.s .nil))) .nil⟩,⟨6,_,rfl,rfl,by rw[BQ,fY];exact .snoc rfl (.same dE) (uV _ _ _)⟩,trivial⟩ ⟨aJ,aJ,aJ,⟨_,rfl,.w64 om ⟨om,om⟩⟩,trivial⟩) om
  ·have hke:k=(hi+1-lo).toNat:=by simp at h;omega
   refine Rr ?_;exact bJ (r':=mS ⟨rR lo k,false⟩) (n':=1) (m':=[(0,.row 125 2 (cC bs))]) [(0,0)] rfl ⟨aL 0 (bO bs),trivial⟩ (.agg' (.cons (.fzR rfl rfl (.same dE) (by rw[aB])) (.s .nil))) ⟨by rw[hres,hke],rfl⟩
set_option maxHeartbeats 8000000
theorem Lz(x:Nd)(bs:List gW)(h2:x.kind=2)(hkl:x.kids.length<=65536)(hk:∀(j:Nat) (k:Int),x.kids[j]? = some k->0<=k/\k<bs.length)(hb:∀b∈bs,b.vals.length<=1024/\∀v∈b.vals,gH v) :
  aH prog [] 92 [bW x,.sl 0 0 bs.length] [(0,.row 125 2 (cC bs))] 1 fun r m _=>r=mS (cU x bs)/\m=[(0,.row 125 2 (cC bs))]:=by
 have nb:NN (.il 2 (cC bs)):=.il' (bO bs);obtain⟨kind,name,lo,hi,ws,ls,vals,kids,⟨vk,vn,vs,vks⟩⟩:=x;simp only at h2 hkl hk;subst h2;have hres:cU ⟨2,name,lo,hi,ws,ls,vals,kids,.mk vk vn vs vks⟩ bs=jW bs kids:=rfl;generalize cU ⟨2,name,lo,hi,ws,ls,vals,kids,.mk vk vn vs vks⟩ bs=res at hres;refine aK bG func92 rfl ?_;refine Rr ?_;refine bC.ph 38 4 ?_;refine bC.at bG (fun a:Nat × (List a6 × Bool)=>a.1<=kids.length/\a.2=(kids.take a.1).foldl (bL bs) ([],false))
  (fun a=>⟨[(1,.sl 0 0 bs.length),(2,.ptr 1 0 0),(4,.ptr 2 0 0),(5,.ptr 3 0 0),(7,.int .i64 a.1)],[(0,.row 125 2 (cC bs)),(1,.row 46 12 [bW ⟨2,name,lo,hi,ws,ls,vals,kids,.mk vk vn vs vks⟩]),(2,.row 125 2 [.agg [.nsl,.bool false]]),(3,.row 125 2 [.agg [.sl 4 0 a.2.1.length,.bool a.2.2]]),(4,.row 38 4 (aQ a.2.1))],5,96⟩)
  (fun a=>kids.length-a.1) (0,[],false) [(0,0),(1,1),(2,2),(3,3),(4,4)] ⟨by simp,by simp⟩
  (aG _ rfl ⟨aL 0 (bO bs),aL 1 (.cons (aV _) .nil),aL 2 dE,⟨3,_,rfl,rfl,.cons (.agg (.cons (.nslk 4 4 _ rfl rfl) (.s .nil))) .nil⟩,⟨4,_,rfl,rfl,.nil⟩,trivial⟩ ⟨⟨_,rfl,.sl 0 0 0 _ rfl⟩,aJ,aJ,aJ,⟨_,rfl,.int rfl⟩,trivial⟩) ?_
 rintro⟨k,a1,am⟩ ⟨hkk,ha⟩;simp only at hkk ha;have hbd:=vL hb (kids.take k) ([],false) 0 (by simp) (by simp);rw[←ha] at hbd;simp only at hbd;have hlk:(kids.take k).length<=65536:=by simp;omega
 have ha1:a1.length<=67108864:=om;refine Rr ?_;refine aI (fun h=>?_) (fun h=>?_)
 ·have hlt:k<kids.length:=by rw[aC] at h;simpa using h
  have e1:(aS kids)[(k:Int).toNat]? = some (.int .i64 kids[k]):=by rw[Va,a8,VV hlt];rfl
  have hg:kids[k]? = some kids[k]:=VV hlt;have hstep:=Jj (bL bs) hlt ([],false);rw[←ha] at hstep;generalize kids[k]=q at e1 hg hstep;obtain⟨q1,q2⟩:=hk k q hg;obtain⟨qn,rfl⟩:=Vk q1;have hqn:qn<bs.length:=om;obtain⟨⟨bv,bm⟩,hbe⟩:∃b,b=bs[qn]:=⟨_,rfl⟩
  have hbm:=hb _ (show (⟨bv,bm⟩:gW)∈bs by rw[hbe];exact Vw hqn);simp only at hbm;have hat:dF bs qn=⟨bv,bm⟩:=by rw[hbe];simp[dF,hqn]
  have bq:Nat.blt (qn:Int).toNat bs.length=true:=Vc (by simp;omega);have e2:(cC bs)[0+(qn:Int).toNat]? = some (mS ⟨bv,bm⟩):=by rw[V0,Va,nE,VV hqn,←hbe];rfl
  have hso:=It (a1++bv) (by simp;omega) (fun v hv=>by
   rcases Vs.1 hv with h|h
   ·exact hbd.2 v h
   ·exact hbm.2 v h)
  have hun:bL bs (a1,am) qn=(eR (a1++bv),am || bm || decide (1024<(eR (a1++bv)).length)):=by simp[bL,hat]
  rw[hun] at hstep;generalize eR (a1++bv)=sv at hso hstep;refine Rr ?_;refine aD e1 ?_;refine Rr ?_;repeat((first|refine aN bq ?_|refine aD e2 ?_);refine Rr ?_)
  refine aN (bV rfl rfl (by rw[aB]) (by simp[aB];omega)) ?_;refine Rr ?_;refine aH.pre bG [(5,5),(0,0),(1,1),(2,2),(3,3)] (mem':=[(5,.row 125 2 [.agg [.il 4 (aQ bv),.bool bm]]),(0,.row 125 2 (cC bs)),(1,.row 46 12 [bW ⟨2,name,lo,hi,ws,ls,vals,kids,.mk vk vn vs vks⟩]),(2,.row 125 2 [.agg [.nsl,.bool false]]),(3,.row 125 2 [.agg [.junk,.bool am]])]) rfl
   ⟨aL 5 dE,aL 0 (bO bs),aL 1 (.cons (aV _) .nil),aL 2 dE,⟨3,_,rfl,rfl,.cons (.agg (.cons (.junk _) (.s .nil))) .nil⟩,trivial⟩
   (.cons (.fzR (ys:=aQ (a1++bv)) rfl rfl (.eq dE (by simp[fX])) (by simp[aB])) .nil) ?_
  refine aH.useNew bG hso dE dE ?_;cases am<;>cases bm
  all_goals
   refine Rr ?_;exact .mk (k+1,sv,_) [(0,0),(1,1),(2,2),(3,3),(7,4)] ⟨by simp only;omega,hstep.symm⟩
    (aG _ rfl ⟨aL 0 (bO bs),aL 1 (.cons (aV _) .nil),aL 2 dE,⟨3,_,rfl,rfl,.cons (.agg (.cons (.sl 7 4 0 _ rfl) (.cons (.bool (by simp[WX]<;>omega)) .nil))) .nil⟩,aL 7 dE,trivial⟩
     ⟨⟨_,rfl,.sl 0 0 0 _ rfl⟩,aJ,aJ,aJ,⟨_,rfl,.w64 (by simp) ⟨by simp only;omega,by simp only;omega⟩⟩,trivial⟩) (by simp only;omega)
 ·have hke:k=kids.length:=by rw[aC] at h;simp at h;omega
  rw[hke,Vr] at ha;have hu:jW bs kids=if am then⟨[],true⟩ else⟨a1,false⟩:=by
   unfold jW;rw[←ha]
  cases am with
  | true=>
   refine Rr ?_;exact bJ (r':=mS ⟨[],true⟩) (n':=1) (m':=[(0,.row 125 2 (cC bs))]) [(0,0)] rfl ⟨aL 0 (bO bs),trivial⟩ (.agg' (.cons (.nil 4) (.s .nil))) ⟨by rw[hres,hu,Vb rfl],rfl⟩
  | false=>
   refine Rr ?_;exact bJ (r':=mS ⟨a1,false⟩) (n':=1) (m':=[(0,.row 125 2 (cC bs))]) [(0,0)] rfl ⟨aL 0 (bO bs),trivial⟩ (.agg' (.cons (.fzR rfl rfl (.same dE) (by rw[aB])) (.s .nil))) ⟨by rw[hres,hu,VY (by simp)],rfl⟩
set_option maxHeartbeats 8000000
theorem L7(x:Nd)(bs:List gW)(h2:x.kind=4)(hkl:x.kids.length<=65536)(hk:∀(j:Nat) (k:Int),x.kids[j]? = some k->0<=k/\k<bs.length)(hb:∀b∈bs,b.vals.length<=1024/\∀v∈b.vals,gH v) :
  aH prog [] 92 [bW x,.sl 0 0 bs.length] [(0,.row 125 2 (cC bs))] 1 fun r m _=>r=mS (cU x bs)/\m=[(0,.row 125 2 (cC bs))]:=by
 have nb:NN (.il 2 (cC bs)):=.il' (bO bs);obtain⟨kind,name,lo,hi,ws,ls,vals,kids,⟨vk,vn,vs,vks⟩⟩:=x;simp only at h2 hkl hk;subst h2;have hres:cU ⟨4,name,lo,hi,ws,ls,vals,kids,.mk vk vn vs vks⟩ bs=jW bs (kids.drop 1):=rfl;generalize cU ⟨4,name,lo,hi,ws,ls,vals,kids,.mk vk vn vs vks⟩ bs=res at hres;refine aK bG func92 rfl ?_;refine Rr ?_;refine bC.ph 38 4 ?_;refine bC.at bG (fun a:Nat × (List a6 × Bool)=>a.1<=kids.length/\a.2=((kids.take a.1).drop 1).foldl (bL bs) ([],false))
  (fun a=>⟨[(1,.sl 0 0 bs.length),(2,.ptr 1 0 0),(4,.ptr 2 0 0),(5,.ptr 3 0 0),(7,.int .i64 a.1)],[(0,.row 125 2 (cC bs)),(1,.row 46 12 [bW ⟨4,name,lo,hi,ws,ls,vals,kids,.mk vk vn vs vks⟩]),(2,.row 125 2 [.agg [.nsl,.bool false]]),(3,.row 125 2 [.agg [.sl 4 0 a.2.1.length,.bool a.2.2]]),(4,.row 38 4 (aQ a.2.1))],5,96⟩)
  (fun a=>kids.length-a.1) (0,[],false) [(0,0),(1,1),(2,2),(3,3),(4,4)] ⟨by simp,by simp⟩
  (aG _ rfl ⟨aL 0 (bO bs),aL 1 (.cons (aV _) .nil),aL 2 dE,⟨3,_,rfl,rfl,.cons (.agg (.cons (.nslk 4 4 _ rfl rfl) (.s .nil))) .nil⟩,⟨4,_,rfl,rfl,.nil⟩,trivial⟩ ⟨⟨_,rfl,.sl 0 0 0 _ rfl⟩,aJ,aJ,aJ,⟨_,rfl,.int rfl⟩,trivial⟩) ?_
 rintro⟨k,a1,am⟩ ⟨hkk,ha⟩;simp only at hkk ha;have hbd:=vL hb ((kids.take k).drop 1) ([],false) 0 (by simp) (by simp);rw[←ha] at hbd;simp only at hbd;have hlk:((kids.take k).drop 1).length<=65536:=by simp;omega
 have ha1:a1.length<=67108864:=om;refine Rr ?_;refine aI (fun h=>?_) (fun h=>?_)
 ·have hlt:k<kids.length:=by rw[aC] at h;simpa using h
  have e1:(aS kids)[(k:Int).toNat]? = some (.int .i64 kids[k]):=by rw[Va,a8,VV hlt];rfl
  have hg:kids[k]? = some kids[k]:=VV hlt;refine Rr ?_;refine aI (fun h=>?_) (fun h=>?_)
  ·have hk0:k=0:=by simp at h;omega
   subst hk0;refine Rr ?_;exact .mk (1,a1,am) [(0,0),(1,1),(2,2),(3,3),(4,4)] ⟨by simp only;omega,by rw[ha];cases kids<;>simp⟩
    (aG _ rfl ⟨aL 0 (bO bs),aL 1 (.cons (aV _) .nil),aL 2 dE,⟨3,_,rfl,rfl,.cons (.agg (.cons (.sl 4 4 0 _ rfl) (.s .nil))) .nil⟩,aL 4 dE,trivial⟩ ⟨⟨_,rfl,.sl 0 0 0 _ rfl⟩,aJ,aJ,aJ,⟨_,rfl,.int rfl⟩,trivial⟩) (by simp only;omega)
  have hk0:0<k:=by
   rcases V6 k with h'|h'
   ·rw[h'] at h;simp at h
   ·exact h'
  have hstep:=JH (bL bs) hlt hk0 ([],false);rw[←ha] at hstep;generalize kids[k]=q at e1 hg hstep;obtain⟨q1,q2⟩:=hk k q hg;obtain⟨qn,rfl⟩:=Vk q1;have hqn:qn<bs.length:=om;obtain⟨⟨bv,bm⟩,hbe⟩:∃b,b=bs[qn]:=⟨_,rfl⟩
  have hbm:=hb _ (show (⟨bv,bm⟩:gW)∈bs by rw[hbe];exact Vw hqn);simp only at hbm;have hat:dF bs qn=⟨bv,bm⟩:=by rw[hbe];simp[dF,hqn]
  have bq:Nat.blt (qn:Int).toNat bs.length=true:=Vc (by simp;omega);have e2:(cC bs)[0+(qn:Int).toNat]? = some (mS ⟨bv,bm⟩):=by rw[V0,Va,nE,VV hqn,←hbe];rfl
  have hso:=It (a1++bv) (by simp;omega) (fun v hv=>by
   rcases Vs.1 hv with h|h
   ·exact hbd.2 v h
   ·exact hbm.2 v h)
  have hun:bL bs (a1,am) qn=(eR (a1++bv),am || bm || decide (1024<(eR (a1++bv)).length)):=by simp[bL,hat]
  rw[hun] at hstep;generalize eR (a1++bv)=sv at hso hstep;refine Rr ?_;refine aD e1 ?_;refine Rr ?_;repeat((first|refine aN bq ?_|refine aD e2 ?_);refine Rr ?_)
  refine aN (bV rfl rfl (by rw[aB]) (by simp[aB];omega)) ?_;refine Rr ?_;refine aH.pre bG [(5,5),(0,0),(1,1),(2,2),(3,3)] (mem':=[(5,.row 125 2 [.agg [.il 4 (aQ bv),.bool bm]]),(0,.row 125 2 (cC bs)),(1,.row 46 12 [bW ⟨4,name,lo,hi,ws,ls,vals,kids,.mk vk vn vs vks⟩]),(2,.row 125 2 [.agg [.nsl,.bool false]]),(3,.row 125 2 [.agg [.junk,.bool am]])]) rfl
   ⟨aL 5 dE,aL 0 (bO bs),aL 1 (.cons (aV _) .nil),aL 2 dE,⟨3,_,rfl,rfl,.cons (.agg (.cons (.junk _) (.s .nil))) .nil⟩,trivial⟩
   (.cons (.fzR (ys:=aQ (a1++bv)) rfl rfl (.eq dE (by simp[fX])) (by simp[aB])) .nil) ?_
  refine aH.useNew bG hso dE dE ?_;cases am<;>cases bm
  all_goals
   refine Rr ?_;exact .mk (k+1,sv,_) [(0,0),(1,1),(2,2),(3,3),(7,4)] ⟨by simp only;omega,hstep.symm⟩
    (aG _ rfl ⟨aL 0 (bO bs),aL 1 (.cons (aV _) .nil),aL 2 dE,⟨3,_,rfl,rfl,.cons (.agg (.cons (.sl 7 4 0 _ rfl) (.cons (.bool (by simp[WX]<;>omega)) .nil))) .nil⟩,aL 7 dE,trivial⟩
     ⟨⟨_,rfl,.sl 0 0 0 _ rfl⟩,aJ,aJ,aJ,⟨_,rfl,.w64 (by simp) ⟨by simp only;omega,by simp only;omega⟩⟩,trivial⟩) (by simp only;omega)
 ·have hke:k=kids.length:=by rw[aC] at h;simp at h;omega
  rw[hke,Vr] at ha;have hu:jW bs (kids.drop 1)=if am then⟨[],true⟩ else⟨a1,false⟩:=by
   unfold jW;rw[←ha]
  cases am with
  | true=>
   refine Rr ?_;exact bJ (r':=mS ⟨[],true⟩) (n':=1) (m':=[(0,.row 125 2 (cC bs))]) [(0,0)] rfl ⟨aL 0 (bO bs),trivial⟩ (.agg' (.cons (.nil 4) (.s .nil))) ⟨by rw[hres,hu,Vb rfl],rfl⟩
  | false=>
   refine Rr ?_;exact bJ (r':=mS ⟨a1,false⟩) (n':=1) (m':=[(0,.row 125 2 (cC bs))]) [(0,0)] rfl ⟨aL 0 (bO bs),trivial⟩ (.agg' (.cons (.fzR rfl rfl (.same dE) (by rw[aB])) (.s .nil))) ⟨by rw[hres,hu,VY (by simp)],rfl⟩
set_option maxHeartbeats 8000000
def nQ(l:List (List a6)):List AV:=l.map fun r=>.il 4 (aQ r)
theorem i7(l:List (List a6)):jZ (nQ l):=fun a ha=>by
 obtain⟨n,_,rfl⟩:=Vq.1 ha;exact nn
theorem sT(l:List a6):∀rows:List (List a6),(gO rows l).length=rows.length*l.length
 | []=>by simp[gO]
 | r::rs=>by
  have:=sT l rs;simp only[gO,W4,Vf,We,WB,Nat.add_mul,Wt] at this ⊢;omega
theorem Jd(l:List (List a6))(r:List a6):nQ (l++[r])=nQ l++[.il 4 (aQ r)]:=by simp[nQ]
theorem F6(l:List (List a6)):(nQ l).length=l.length:=by simp[nQ]
theorem B7{name:List UInt8}(hn:name.length<=4294967296){r:List a6}(hr:r.length<=4294967296)(ho:∀v∈r,gH v):gH (dP name r):=by
 unfold dP;split
 ·exact mL ⟨om,om⟩ ⟨om,om⟩ (by simp) hr (p5 ho)
 ·exact mL ⟨om,om⟩ ⟨om,om⟩ hn hr (p5 ho)
theorem Un(x:Nd)(bs:List gW)(hname:x.name.length<=4294967296)(hkl:x.kids.length<=65536)(hk:∀(j:Nat) (k:Int),x.kids[j]? = some k->0<=k/\k<bs.length)(hb:∀b∈bs,b.vals.length<=1024/\∀v∈b.vals,gH v) :
  aH prog [] 112 [bW x,.sl 0 0 bs.length] [(0,.row 125 2 (cC bs))] 1 fun r m _=>r=mS (o8 bs x)/\m=[(0,.row 125 2 (cC bs))]:=by
 obtain⟨kind,name,lo,hi,ws,ls,vals,kids,⟨vk,vn,vs,vks⟩⟩:=x;simp only at hkl hk hname;refine aK bG func112 rfl ?_;refine Rr ?_;refine bC.at bG (fun a:Nat × List (List a6)=>a.1<=kids.length/\a.2.length<=1024/\(∀r∈a.2,r.length<=a.1/\∀v∈r,gH v)/\eJ bs kids [[]]=eJ bs (kids.drop a.1) a.2)
  (fun a=>⟨[(1,.sl 0 0 bs.length),(2,.ptr 1 0 0),(4,.ptr 2 0 0),(5,.sl 3 0 a.2.length),(6,.int .i64 a.1)],[(0,.row 125 2 (cC bs)),(1,.row 46 12 [bW ⟨kind,name,lo,hi,ws,ls,vals,kids,.mk vk vn vs vks⟩]),(2,.row 125 2 [.agg [.nsl,.bool false]]),(3,.row 36 1 (nQ a.2))],4,91⟩)
  (fun a=>kids.length-a.1) (0,[[]]) [(0,0),(1,1),(2,2),(3,3)] ⟨by simp,by simp,by simp,by simp⟩
  (aG _ rfl ⟨aL 0 (bO bs),aL 1 (.cons (aV _) .nil),aL 2 dE,⟨3,_,rfl,rfl,.cons (.one rfl rfl (.nil 4)) .nil⟩,trivial⟩ ⟨⟨_,rfl,.sl 0 0 0 _ rfl⟩,aJ,aJ,⟨_,rfl,.sl 3 3 0 _ rfl⟩,⟨_,rfl,.int rfl⟩,trivial⟩) ?_
 rintro⟨k,rows⟩ ⟨hkk,hrl,hrr,hro⟩;simp only at hkk hrl hrr hro;have hseq:o8 bs ⟨kind,name,lo,hi,ws,ls,vals,kids,.mk vk vn vs vks⟩=match eJ bs kids [[]] with|none=>⟨[],true⟩|some rows=>⟨eR (rows.map (dP name)),false⟩:=rfl
 refine Rr ?_;refine aI (fun h=>?_) (fun h=>?_)
 ·have hlt:k<kids.length:=by rw[aC] at h;simpa using h
  have e1:(aS kids)[(k:Int).toNat]? = some (.int .i64 kids[k]):=by rw[Va,a8,VV hlt];rfl
  have hg:kids[k]? = some kids[k]:=VV hlt;rw[List.drop_eq_getElem_cons hlt,eJ] at hro;generalize kids[k]=q at e1 hg hro;obtain⟨q1,q2⟩:=hk k q hg;obtain⟨qn,rfl⟩:=Vk q1;have hqn:qn<bs.length:=om;obtain⟨⟨bv,bm⟩,hbe⟩:∃b,b=bs[qn]:=⟨_,rfl⟩
  have hbm:=hb _ (show (⟨bv,bm⟩:gW)∈bs by rw[hbe];exact Vw hqn);simp only at hbm;have hat:dF bs qn=⟨bv,bm⟩:=by rw[hbe];simp[dF,hqn]
  rw[hat] at hro;simp only at hro;have bq:Nat.blt (qn:Int).toNat bs.length=true:=Vc (by simp;omega);have e2:(cC bs)[0+(qn:Int).toNat]? = some (mS ⟨bv,bm⟩):=by rw[V0,Va,nE,VV hqn,←hbe];rfl
  refine Rr ?_;refine aD e1 ?_;refine Rr ?_;repeat((first|refine aN bq ?_|refine aD e2 ?_);refine Rr ?_)
  cases bm with
  | true=>
   refine Rr ?_;exact bJ (r':=mS ⟨[],true⟩) (n':=1) (m':=[(0,.row 125 2 (cC bs))]) [(0,0)] rfl ⟨aL 0 (bO bs),trivial⟩ (.agg' (.cons (.nil 4) (.s .nil))) ⟨by rw[hseq,hro,Vb (.inl rfl)],rfl⟩
  | false=>
   refine Rr ?_;have hmul:IntKind.i64.wrap ((rows.length:Int)*((aQ bv).length:Nat))=((rows.length*bv.length:Nat):Int):=by
    have hm:rows.length*bv.length<=1024*1024:=Wk hrl hbm.1;rw[aB];exact w64 (by push_cast;rfl) ⟨om,om⟩
   rw[hmul];refine aI (fun h=>?_) (fun h=>?_)
   ·refine Rr ?_;exact bJ (r':=mS ⟨[],true⟩) (n':=1) (m':=[(0,.row 125 2 (cC bs))]) [(0,0)] rfl ⟨aL 0 (bO bs),trivial⟩ (.agg' (.cons (.nil 4) (.s .nil))) ⟨by rw[hseq,hro,Vb (.inr (by simp only[gt_iff_lt,Vt] at h;omega))],rfl⟩
   ·have hle:rows.length*bv.length<=1024:=by simp only[gt_iff_lt,Wi] at h;omega
    rw[VY (by simp;omega)] at hro;refine Rr ?_;refine bC.ph 36 1 ?_;refine bC.at bG (fun i:Nat=>i<=rows.length)
     (fun i=>⟨[(1,.sl 0 0 bs.length),(2,.ptr 1 0 0),(4,.ptr 2 0 0),(5,.sl 3 0 rows.length),(6,.int .i64 k),(7,.ptr 4 0 0),(8,.sl 5 0 (gO (rows.take i) bv).length),(9,.int .i64 i)],[(0,.row 125 2 (cC bs)),(1,.row 46 12 [bW ⟨kind,name,lo,hi,ws,ls,vals,kids,.mk vk vn vs vks⟩]),(2,.row 125 2 [.agg [.nsl,.bool false]]),(3,.row 36 1 (nQ rows)),(4,.row 125 2 [mS ⟨bv,false⟩]),(5,.row 36 1 (nQ (gO (rows.take i) bv)))],6,91⟩)
     (fun i=>rows.length-i) 0 [(0,0),(1,1),(2,2),(3,3),(4,4),(5,5)] (by simp)
     (aG _ rfl ⟨aL 0 (bO bs),aL 1 (.cons (aV _) .nil),aL 2 dE,aL 3 (i7 _),aL 4 (.cons (oK _) .nil),⟨5,_,rfl,rfl,.nil⟩,trivial⟩ ⟨⟨_,rfl,.sl 0 0 0 _ rfl⟩,aJ,aJ,⟨_,rfl,.sl 3 3 0 _ rfl⟩,⟨_,rfl,.int rfl⟩,aJ,⟨_,rfl,.nslk 5 5 _ rfl rfl⟩,⟨_,rfl,.int rfl⟩,trivial⟩) ?_
    intro i hi0;refine Rr ?_;refine aI (fun h=>?_) (fun h=>?_)
    ·have hir:i<rows.length:=by simpa using h
     obtain⟨rw,hrw⟩:∃rw,rw=rows[i]:=⟨_,rfl⟩
     have hrl2:=(hrr rw (by rw[hrw];exact Vw hir)).1;have e3:(nQ rows)[0+(i:Int).toNat]? = some (.il 4 (aQ rw)):=by rw[V0,Va,nQ,Vy,VV hir,hrw];rfl
     have b3:Nat.blt (i:Int).toNat rows.length=true:=Vc (by simp;omega);refine Rr ?_;refine bC.at bG (fun j:Nat=>j<=bv.length)
      (fun j=>⟨[(1,.sl 0 0 bs.length),(2,.ptr 1 0 0),(4,.ptr 2 0 0),(5,.sl 3 0 rows.length),(6,.int .i64 k),(7,.ptr 4 0 0),(8,.sl 5 0 (gO (rows.take i) bv++(bv.take j).map fun v=>rw++[v]).length),(9,.int .i64 i),(10,.int .i64 j)],[(0,.row 125 2 (cC bs)),(1,.row 46 12 [bW ⟨kind,name,lo,hi,ws,ls,vals,kids,.mk vk vn vs vks⟩]),(2,.row 125 2 [.agg [.nsl,.bool false]]),(3,.row 36 1 (nQ rows)),(4,.row 125 2 [mS ⟨bv,false⟩]),(5,.row 36 1 (nQ (gO (rows.take i) bv++(bv.take j).map fun v=>rw++[v])))],6,91⟩)
      (fun j=>bv.length-j) 0 [(0,0),(1,1),(2,2),(3,3),(4,4),(5,5)] (by simp)
      (aG _ rfl ⟨aL 0 (bO bs),aL 1 (.cons (aV _) .nil),aL 2 dE,aL 3 (i7 _),aL 4 (.cons (oK _) .nil),⟨5,_,rfl,rfl,.eq (i7 _) (by simp)⟩,trivial⟩ ⟨⟨_,rfl,.sl 0 0 0 _ rfl⟩,aJ,aJ,⟨_,rfl,.sl 3 3 0 _ rfl⟩,⟨_,rfl,.int rfl⟩,aJ,⟨_,rfl,.slE rfl (by simp)⟩,⟨_,rfl,.int rfl⟩,⟨_,rfl,.int rfl⟩,trivial⟩) ?_
     intro j hj;have hX:(gO (rows.take i) bv).length<=1048576:=by
      rw[sT];exact WM (Wk (show (rows.take i).length<=1024 by simp;omega) hbm.1) om
     refine Rr ?_;refine aI (fun h=>?_) (fun h=>?_)
     ·have hjl:j<bv.length:=G7 h;obtain⟨p1,p2,p3,p4,pm,pg,pe,ep⟩:=bT (l:=bv) (k:=j) hjl;have hL:gO (rows.take i) bv++((bv.take (j+1)).map fun v=>rw++[v])=(gO (rows.take i) bv++(bv.take j).map fun v=>rw++[v])++[rw++[.mk p1 p2 p3 p4]]:=by
       rw[List.take_succ_eq_append_getElem hjl,pe];simp
      refine Rr ?_;repeat((first|refine aN b3 ?_|refine aD e3 ?_);refine Rr ?_)
      refine aN (Bq rfl (by rw[aB];omega)) ?_;refine Rr ?_;refine aD ep ?_;refine Rr ?_;refine aN (bV rfl rfl (by simp) (by simp[aB];omega)) ?_;refine Rr ?_;refine aN (bV rfl rfl (by rw[F6]) (by simp;omega)) ?_;refine Rr ?_;exact .mk (j+1) [(0,0),(1,1),(2,2),(3,3),(4,4),(10,5)] om
       (aG _ rfl ⟨aL 0 (bO bs),aL 1 (.cons (aV _) .nil),aL 2 dE,aL 3 (i7 _),aL 4 (.cons (oK _) .nil),⟨10,_,rfl,rfl,by rw[hL,Jd];exact .snoc rfl (.same (i7 _)) (.one rfl rfl (.fzR rfl rfl (.eq dE (by rw[fY];rfl)) (by simp[aB])))⟩,trivial⟩ ⟨⟨_,rfl,.sl 0 0 0 _ rfl⟩,aJ,aJ,⟨_,rfl,.sl 3 3 0 _ rfl⟩,⟨_,rfl,.int rfl⟩,aJ,⟨_,rfl,.slE rfl (by rw[hL];simp only[Vf];rfl)⟩,⟨_,rfl,.int rfl⟩,⟨_,rfl,.w64 om ⟨om,om⟩⟩,trivial⟩) om
     ·have hje:j=bv.length:=by have:bv.length<=j:=IJ h;omega
      refine Rr ?_;exact .mk (i+1) [(0,0),(1,1),(2,2),(3,3),(4,4),(5,5)] om
       (aG _ rfl ⟨aL 0 (bO bs),aL 1 (.cons (aV _) .nil),aL 2 dE,aL 3 (i7 _),aL 4 (.cons (oK _) .nil),⟨5,_,rfl,rfl,.eq (i7 _) (by rw[hje,Vr,List.take_succ_eq_append_getElem hir,←hrw];simp[gO])⟩,trivial⟩ ⟨⟨_,rfl,.sl 0 0 0 _ rfl⟩,aJ,aJ,⟨_,rfl,.sl 3 3 0 _ rfl⟩,⟨_,rfl,.int rfl⟩,aJ,⟨_,rfl,.slE rfl (by rw[hje,Vr,List.take_succ_eq_append_getElem hir,←hrw];simp[gO])⟩,⟨_,rfl,.w64 om ⟨om,om⟩⟩,trivial⟩) om
    ·have hie:i=rows.length:=by simp at h;omega
     have hmem:∀r∈gO rows bv,r.length<=k+1/\∀v∈r,gH v:=by
      intro r hr;simp only[gO,X6,Vq] at hr;obtain⟨r',hr',v,hv,rfl⟩:=hr;have:=hrr r' hr';refine⟨by simp;omega,fun u hu=>?_⟩;rcases Vs.1 hu with hu|hu
      ·exact this.2 u hu
      ·simp at hu;rw[hu];exact hbm.2 v hv
     refine Rr ?_;exact .mk (k+1,gO rows bv) [(0,0),(1,1),(2,2),(5,3)] ⟨by simp only;omega,by rw[sT];exact hle,hmem,hro⟩
      (aG _ rfl ⟨aL 0 (bO bs),aL 1 (.cons (aV _) .nil),aL 2 dE,⟨5,_,rfl,rfl,.eq (i7 _) (by rw[hie,Vr])⟩,trivial⟩ ⟨⟨_,rfl,.sl 0 0 0 _ rfl⟩,aJ,aJ,⟨_,rfl,.slE rfl (by rw[hie,Vr])⟩,⟨_,rfl,.w64 (by simp) ⟨by simp only;omega,by simp only;omega⟩⟩,trivial⟩) (by simp only;omega)
 ·have hke:k=kids.length:=by rw[aC] at h;simp at h;omega
  rw[hke,Wf,eJ] at hro;refine Rr ?_;refine bC.ph 38 4 ?_;refine bC.at bG (fun i:Nat=>i<=rows.length)
   (fun i=>⟨[(2,.ptr 1 0 0),(4,.ptr 2 0 0),(5,.sl 3 0 rows.length),(12,.sl 4 0 ((rows.take i).map (dP name)).length),(13,.int .i64 i)],[(0,.row 125 2 (cC bs)),(1,.row 46 12 [bW ⟨kind,name,lo,hi,ws,ls,vals,kids,.mk vk vn vs vks⟩]),(2,.row 125 2 [.agg [.nsl,.bool false]]),(3,.row 36 1 (nQ rows)),(4,.row 38 4 (aQ ((rows.take i).map (dP name))))],5,91⟩)
   (fun i=>rows.length-i) 0 [(0,0),(1,1),(2,2),(3,3),(4,4)] (by simp)
   (aG _ rfl ⟨aL 0 (bO bs),aL 1 (.cons (aV _) .nil),aL 2 dE,aL 3 (i7 _),aL 4 .nil,trivial⟩ ⟨aJ,aJ,⟨_,rfl,.sl 3 3 0 _ rfl⟩,⟨_,rfl,.nslk 4 4 _ rfl rfl⟩,⟨_,rfl,.int rfl⟩,trivial⟩) ?_
  intro i hi0;refine Rr ?_;refine aI (fun h=>?_) (fun h=>?_)
  ·have hir:i<rows.length:=by simpa using h
   obtain⟨rw,hrw⟩:∃rw,rw=rows[i]:=⟨_,rfl⟩
   have e3:(nQ rows)[0+(i:Int).toNat]? = some (.il 4 (aQ rw)):=by rw[V0,Va,nQ,Vy,VV hir,hrw];rfl
   have b3:Nat.blt (i:Int).toNat rows.length=true:=Vc (by simp;omega);have hM:=Tx ⟨kind,name,lo,hi,ws,ls,vals,kids,.mk vk vn vs vks⟩ rw;have hL:(rows.take (i+1)).map (dP name)=(rows.take i).map (dP name)++[dP name rw]:=by rw[List.take_succ_eq_append_getElem hir,←hrw];simp
   simp only at hM;obtain⟨⟨m1,m2,m3,m4⟩,hmv⟩:∃mv,mv=dP name rw:=⟨_,rfl⟩
   rw[←hmv] at hM hL;refine Rr ?_;repeat((first|refine aU ?_|refine aN b3 ?_|refine aD e3 ?_);refine Rr ?_)
   refine hM.go ?_ (.cons (aV ⟨kind,name,lo,hi,ws,ls,vals,kids,.mk vk vn vs vks⟩) dE);refine Rr ?_;refine aN (bV rfl rfl (by rw[aB]) (by simp;omega)) ?_;refine Rr ?_;repeat((first|refine aU ?_|refine aN b3 ?_|refine aD e3 ?_);refine Rr ?_)
   exact .mk (i+1) [(0,0),(1,1),(2,2),(3,3),(15,4)] om
    (aG _ rfl ⟨aL 0 (bO bs),aL 1 (.cons (aV _) .nil),aL 2 dE,aL 3 (i7 _),⟨15,_,rfl,rfl,.eq dE (by rw[hL,fY];rfl)⟩,trivial⟩ ⟨aJ,aJ,⟨_,rfl,.sl 3 3 0 _ rfl⟩,⟨_,rfl,.slE rfl (by rw[hL];simp)⟩,⟨_,rfl,.w64 om ⟨om,om⟩⟩,trivial⟩) om
  ·have hie:i=rows.length:=by simp at h;omega
   rw[hie,Vr];have hmo:∀v∈rows.map (dP name),gH v:=by
    intro v hv;obtain⟨r,hr,rfl⟩:=Vq.1 hv;have:=hrr r hr;exact B7 hname om this.2
   have hS:=R5 (rows.map (dP name)) (by simp;omega) hmo;have hseq2:o8 bs ⟨kind,name,lo,hi,ws,ls,vals,kids,.mk vk vn vs vks⟩=⟨eR (rows.map (dP name)),false⟩:=by rw[hseq,hro]
   rw[hseq2];generalize rows.map (dP name)=mv at hS ⊢;generalize eR mv=sv at hS ⊢;refine Rr ?_;refine aH.pre bG [(0,0),(1,1),(2,2),(3,3)] (mem':=[(0,.row 125 2 (cC bs)),(1,.row 46 12 [bW ⟨kind,name,lo,hi,ws,ls,vals,kids,.mk vk vn vs vks⟩]),(2,.row 125 2 [.agg [.nsl,.bool false]]),(3,.row 36 1 (nQ rows))]) (args':=[.il 4 (aQ mv)]) rfl
    ⟨aL 0 (bO bs),aL 1 (.cons (aV _) .nil),aL 2 dE,aL 3 (i7 _),trivial⟩ (.cons (.fz' rfl rfl (by rw[aB];omega) (by rw[V7];exact Vl (by rw[aB];omega)) dE) .nil) ?_
   refine hS.go ?_;refine Rr ?_;exact bJ (r':=mS ⟨sv,false⟩) (n':=1) (m':=[(0,.row 125 2 (cC bs))]) [(0,0)] rfl ⟨aL 0 (bO bs),trivial⟩ (.same _ (oK ⟨sv,false⟩)) ⟨rfl,rfl⟩
set_option maxHeartbeats 8000000
theorem Nm(x:Nd)(bs:List gW)(h3:x.kind=3)(hname:x.name.length<=4294967296)(hkl:x.kids.length<=65536)(hk:∀(j:Nat) (k:Int),x.kids[j]? = some k->0<=k/\k<bs.length)(hb:∀b∈bs,b.vals.length<=1024/\∀v∈b.vals,gH v) :
  aH prog [] 92 [bW x,.sl 0 0 bs.length] [(0,.row 125 2 (cC bs))] 1 fun r m _=>r=mS (cU x bs)/\m=[(0,.row 125 2 (cC bs))]:=by
 have hS:=Un x bs hname hkl hk hb;have e:cU x bs=o8 bs x:=by unfold cU;rw[VY om,VY om,Vb h3]
 rw[e];generalize o8 bs x=q at hS ⊢;obtain⟨sv,sm⟩:=q;have hnn:=aV x;obtain⟨kind,name,lo,hi,ws,ls,vals,kids,⟨vk,vn,vs,vks⟩⟩:=x;simp only at h3;subst h3;refine aK bG func92 rfl ?_;refine Rr ?_;refine aH.use1 bG hS 0 rfl (bO bs) (.cons (.same _ hnn) (.cons (.sl 0 0 0 _ rfl) .nil)) ?_;rintro r m n ⟨rfl,rfl⟩;refine⟨_,rfl,oK _,bO bs, ?_⟩;refine Rr ?_;exact bJ (r':=mS ⟨sv,sm⟩) (n':=1) (m':=[(0,.row 125 2 (cC bs))]) [(0,0)] rfl ⟨aL 0 (bO bs),trivial⟩ (.same _ (oK ⟨sv,sm⟩)) ⟨rfl,rfl⟩
theorem TI(i:Nat)(x:Nd)(bs:List gW)(hx:lF i x)(hl:i=bs.length)(hb:FA bs) :
  aH prog [] 92 [bW x,.sl 0 0 bs.length] [(0,.row 125 2 (cC bs))] 1 fun r m _=>r=mS (cU x bs)/\m=[(0,.row 125 2 (cC bs))]:=by
 subst hl;have hk:=hx.kids;have hn:=dD hx.num;rcases(show x.kind=0∨x.kind=1∨x.kind=2∨x.kind=3∨x.kind=4 by have:=hx.kind;omega) with h|h|h|h|h
 ·exact L6 x bs h
 ·exact I4 x bs h hn.2.1 hn.1 hn.2.2.1 hn.2.2.2
 ·exact Lz x bs h hx.klen hk hb
 ·exact Nm x bs h hx.ok.name hx.klen hk hb
 ·exact L7 x bs h hx.klen hk hb
abbrev tM(ns:List Nd):aP:=[(0,.row 46 12 (aW ns))]
theorem He{l:List Nd}{k n:Nat}(h:k<l.length)(hn:l.length=n):∃x,l[k]? = some x/\l[k]=x/\(aW l)[0+(k:Int).toNat]? = some (bW x)/\Nat.blt (k:Int).toNat n=true:=
 ⟨l[k],VV h,rfl,by simp[gK,VV h],Vc (by simp;omega)⟩
theorem R2(ns:List Nd)(n:Nat)(hn:n<=ns.length)(hl:ns.length<=100000)(hg:∀(i:Nat) (x:Nd),i<n->ns[i]? = some x->lF i x) :
  aH prog [] 63 [.agg [.sl 0 0 ns.length],.int .i64 n] (tM ns) 1 fun r m k=>r = .sl 1 0 n/\m=[(0,.row 46 12 (aW ns)),(1,.row 125 2 (cC (aT (ns.take n))))]/\k=2:=by
 refine aK bG func63 rfl ?_;refine Rr ?_;refine bC.ph 125 2 ?_;refine bC.at bG (fun i:Nat=>i<=n)
  (fun i=>⟨[(1,.int .i64 n),(2,.ptr 1 0 0),(5,.sl 2 0 i),(6,.int .i64 i)],[(0,.row 46 12 (aW ns)),(1,.row 25 1 [.agg [.sl 0 0 ns.length]]),(2,.row 125 2 (cC (aT (ns.take i))))],3,23⟩)
  (fun i=>n-i) 0 [(0,0),(1,1),(2,2)] (by simp)
  (aG _ rfl ⟨aL 0 (aY _),⟨1,_,rfl,rfl,.cons (.agg (.cons (.sl 0 0 0 _ rfl) .nil)) .nil⟩,aL 2 .nil,trivial⟩ ⟨aF,aJ,⟨_,rfl,.nslk 2 2 _ rfl rfl⟩,aF,trivial⟩) ?_
 intro i hi;refine Rr ?_;refine aI (fun h=>?_) (fun h=>?_)
 ·have hin:i<n:=by simp at h;omega
  obtain⟨x,hx1,hx2,ex,bx⟩:=He (l:=ns) (k:=i) (n:=ns.length) om rfl;have hgx:=hg i x hin hx1;have htl:(aT (ns.take i)).length=i:=by rw[fU];simp;omega
  have hL:=TI i x (aT (ns.take i)) hgx htl.symm (nR _ fun j y hy=>by
   have hj:=(VX.1 hy).1;rw[WA,Vb (by simp at hj;omega)] at hy;exact hg j y (by simp at hj;omega) hy)
  have hnx:aT (ns.take (i+1))=aT (ns.take i)++[cU x (aT (ns.take i))]:=by rw[List.take_succ_eq_append_getElem om,hx2,jI]
  have hxn:=aV x;have hxc:(bW x).cells.length=12:=by obtain⟨kind,name,lo,hi,ws,ls,vals,kids,⟨vk,vn,vs,vks⟩⟩:=x;rfl
  generalize cU x (aT (ns.take i))=nl at hL hnx;obtain⟨bs,hbs⟩:∃bs,bs=aT (ns.take i):=⟨_,rfl⟩
  rw[←hbs] at hL hnx htl ⊢;obtain⟨kind,name,lo,hi,ws,ls,vals,kids,⟨vk,vn,vs,vks⟩⟩:=x;refine Rr ?_;repeat((first|refine aN bx ?_|refine aD ex ?_);refine Rr ?_)
  refine aH.use1 bG hL 2 rfl (bO bs) (.cons (.same _ hxn) (.cons (.slE rfl htl.symm) .nil)) ?_;rintro r m k ⟨rfl,rfl⟩;refine⟨_,rfl,oK _,bO bs, ?_⟩;refine Rr ?_;refine aN (bV rfl rfl (by rw[rG,htl]) (by simp;omega)) ?_;refine Rr ?_;exact .mk (i+1) [(0,0),(1,1),(4,2)] om
   (aG _ rfl ⟨aL 0 (aY _),⟨1,_,rfl,rfl,.cons (.agg (.cons (.sl 0 0 0 _ rfl) .nil)) .nil⟩,⟨4,_,rfl,rfl,.eq (bO _) (by rw[hnx];simp[cC])⟩,trivial⟩ ⟨aF,aJ,⟨_,rfl,.slE rfl (by simp)⟩,⟨_,rfl,.w64 om ⟨om,om⟩⟩,trivial⟩) om
 ·have hin:i=n:=by simp at h;omega
  subst hin;refine Rr ?_;exact bJ (r':=.sl 1 0 i) (n':=2) (m':=[(0,.row 46 12 (aW ns)),(1,.row 125 2 (cC (aT (ns.take i))))]) [(0,0),(2,1)] rfl ⟨aL 0 (aY _),aL 2 (bO _),trivial⟩ (.sl 2 1 0 _ rfl) ⟨rfl,rfl,rfl⟩
set_option maxHeartbeats 8000000
theorem Ls{ns:List Nd}{i:Nat}(hi:i<ns.length):(aT (ns.take (i+1)))[i]? = some (dF (aT (ns.take (i+1))) i):=by
 have:i<(aT (ns.take (i+1))).length:=by rw[fU];simp;omega
 unfold dF;rw[VW,Va,VV this];rfl
theorem Kb(ns:List Nd)(i:Nat)(hi:i<ns.length)(hl:ns.length<=100000)(hg:∀(j:Nat) (x:Nd),j<i+1->ns[j]? = some x->lF j x) :
  aH prog [] 32 [.agg [.sl 0 0 ns.length],.int .i64 i] (tM ns) 1 fun r m _=>r = .tup [.il 4 (aQ (dF (aT (ns.take (i+1))) i).vals),.bool (!(dF (aT (ns.take (i+1))) i).many)]/\m=tM ns:=by
 have hL:=R2 ns (i+1) om hl hg;have hw:IntKind.i64.wrap ((i:Int)+1)=((i+1:Nat):Int):=w64 om ⟨om,om⟩;have hat:=Ls hi;have hlen:(aT (ns.take (i+1))).length=i+1:=by rw[fU];simp;omega
 generalize dF (aT (ns.take (i+1))) i=b at hat ⊢;generalize aT (ns.take (i+1))=bs at hL hat hlen;obtain⟨bv,bm⟩:=b;have e2:(cC bs)[0+((i:Nat):Int).toNat]? = some (mS ⟨bv,bm⟩):=by rw[V0,Va,nE,hat];rfl
 have b2:Nat.blt ((i:Nat):Int).toNat (i+1)=true:=Vc (by simp);refine aK bG func32 rfl ?_;refine Rr ?_;rw[hw];refine aH.useN bG [(0,0)] hL rfl (.cons (.agg' (.cons (.sl 0 0 0 _ rfl) .nil)) (.s .nil)) ⟨aL 0 (aY _),trivial⟩ rfl ?_;rintro r m k ⟨rfl,rfl,rfl⟩;refine⟨[(0,0),(1,2)],.sl 2 0 (i+1),[(0,.row 46 12 (aW ns)),(2,.row 125 2 (cC bs))],3,.sl 1 2 0 _ rfl,⟨aL 0 (aY _),aL 1 (bO _),trivial⟩,rfl, ?_⟩;refine Rr ?_;repeat((first|refine aU ?_|refine aN b2 ?_|refine aD e2 ?_);refine Rr ?_)
 exact bJ (r':=.tup [.il 4 (aQ bv),.bool (!bm)]) (n':=1) (m':=tM ns) [(0,0)] rfl ⟨aL 0 (aY _),trivial⟩ (.same _ nn) ⟨rfl,rfl⟩
theorem RO(ns:List Nd)(x:Nd)(i:Nat)(hi:i<=ns.length)(hl:ns.length<=100000)(hg:∀(j:Nat) (x:Nd),j<i->ns[j]? = some x->lF j x)(hx:n4 x)(hk0:0<x.kids.length)(hk:∀(j:Nat) (k:Int),x.kids[j]? = some k->0<=k/\k<i) :
  aH prog [] 36 [.agg [.sl 0 0 ns.length],bW x] (tM ns) 1 fun r m _=>r = .int .i64 (iJ ns x)/\m=tM ns:=by
 obtain⟨q,hq⟩:∃q,x.kids[0]? = some q:=⟨x.kids[0],VV hk0⟩
 obtain⟨q1,q2⟩:=hk 0 q hq;obtain⟨qn,rfl⟩:=Vk q1;have hgd:x.kids.getD 0 0=qn:=by rw[VW,hq];rfl
 have hV:=Kb ns qn om hl fun j y hj hy=>hg j y om hy
 have hbl:=uW (nR (ns.take (qn+1)) fun j y hy=>hg j y (by have:=(lU hy).2;omega) (lU hy).1) qn;have hbe:iJ ns x=if (dF (aT (ns.take (qn+1))) qn).many=true then 4 else if dB (dF (aT (ns.take (qn+1))) qn).vals x.values=true then 0 else 1:=by
  unfold iJ;simp only[hgd,Va]
 rw[hbe];generalize dF (aT (ns.take (qn+1))) qn=b at hV hbl ⊢;obtain⟨bv,bm⟩:=b;simp only at hV hbl ⊢;have hS:=Pj bv x.values om hbl.2;generalize dB bv x.values=sm at hS ⊢;have ek:(aS x.kids)[(0:Int).toNat]? = some (.int .i64 (qn:Int)):=by rw[a8];simp[hq]
 obtain⟨kind,name,lo,hi',ws,ls,vals,kids,⟨vk,vn,vs,vks⟩⟩:=x;simp only at hS ek;refine aK bG func36 rfl ?_;refine Rr ?_;repeat((first|refine aU ?_|refine aD ek ?_);refine Rr ?_)
 refine aH.use1 bG hV 0 rfl (aY _) (.cons (.agg' (.cons (.sl 0 0 0 _ rfl) .nil)) (.s .nil)) ?_;rintro r m k ⟨rfl,rfl⟩;refine⟨_,rfl,nn,aY _, ?_⟩;cases bm with
 | true=>
  refine Rr ?_;repeat((first|refine aU ?_|refine aD ek ?_);refine Rr ?_)
  exact bJ (r':=.int .i64 4) (n':=1) (m':=tM ns) [(0,0)] rfl ⟨aL 0 (aY _),trivial⟩ (.same _ nn) ⟨rfl,rfl⟩
 | false=>
  refine Rr ?_;repeat((first|refine aU ?_|refine aD ek ?_);refine Rr ?_)
  refine hS.go ?_;cases sm with
  | true=>
   refine Rr ?_;exact bJ (r':=.int .i64 0) (n':=1) (m':=tM ns) [(0,0)] rfl ⟨aL 0 (aY _),trivial⟩ (.same _ nn) ⟨rfl,rfl⟩
  | false=>
   refine Rr ?_;exact bJ (r':=.int .i64 1) (n':=1) (m':=tM ns) [(0,0)] rfl ⟨aL 0 (aY _),trivial⟩ (.same _ nn) ⟨rfl,rfl⟩
theorem RA(ns:List Nd)(hl:ns.length<=100000)(ho:∀x∈ns,n4 x/\x.values.length<=4294967290) :
  aH prog [] 16 [.agg [.sl 0 0 ns.length]] (tM ns) 1 fun r m _=>r = .int .i64 (cL ns)/\m=tM ns:=by
 have hfin:∀(e:Int) (mem:aP) (nx:Nat),lk mem 0=some (.row 46 12 (aW ns))->e=cL ns->kN 1 (fun r m (_:Nat)=>r = .int .i64 (cL ns)/\m=tM ns) (.int .i64 e) mem nx:=by
  intro e mem nx h0 he;exact bJ (r':=.int .i64 e) (n':=1) (m':=tM ns) [(0,0)] rfl ⟨⟨0,_,rfl,h0,.same (aY _)⟩,trivial⟩ (.same _ nn) ⟨by rw[he],rfl⟩
 refine aK bG func16 rfl ?_;refine Rr ?_;refine aI (fun h=>?_) (fun h=>?_)
 ·have h1:4096<ns.length:=by simp at h;omega
  refine Rr ?_;exact hfin _ _ _ rfl (by unfold cL;rw[Vb h1])
 ·have h1:¬4096<ns.length:=by simp at h;omega
  have hvt:cL ns=bU [] ns:=by unfold cL;rw[VY h1]
  refine Rr ?_;refine bC.ph 3 1 ?_;refine bC.ph 3 1 ?_;refine bC.at bG (fun i:Nat=>i<=ns.length/\bU [] (ns.take i)=0)
   (fun i=>⟨[(1,.ptr 1 0 0),(3,.sl 2 0 i),(4,.sl 3 0 i),(5,.int .i64 i)],[(0,.row 46 12 (aW ns)),(1,.row 25 1 [.agg [.sl 0 0 ns.length]]),(2,.row 3 1 (aS (aX (ns.take i)))),(3,.row 3 1 (aS (b9 (ns.take i))))],4,57⟩)
   (fun i=>ns.length-i) 0 [(0,0),(1,1),(2,2),(3,3)] ⟨by simp,by simp[bU]⟩
   (aG _ rfl ⟨aL 0 (aY _),⟨1,_,rfl,rfl,.cons (.agg (.cons (.sl 0 0 0 _ rfl) .nil)) .nil⟩,aL 2 .nil,aL 3 .nil,trivial⟩ ⟨aJ,⟨_,rfl,.nslk 2 2 _ rfl rfl⟩,⟨_,rfl,.nslk 3 3 _ rfl rfl⟩,aF,trivial⟩) ?_
  rintro i ⟨hi,hv0⟩;refine Rr ?_;refine aI (fun h=>?_) (fun h=>?_)
  ·have hin:i<ns.length:=by simp at h;omega
   obtain⟨x,hx1,hx2,ex,bx⟩:=He (l:=ns) (k:=i) (n:=ns.length) hin rfl;have hxm:=Ve hx1;obtain⟨hxo,hxv⟩:=ho x hxm;have hsplit:ns=ns.take i++x::ns.drop (i+1):=by rw[←hx2,←List.drop_eq_getElem_cons hin,List.take_append_drop]
   have hti:(ns.take i).length=i:=by simp;omega
   have htn:ns.take (i+1)=ns.take i++[x]:=by rw[List.take_succ_eq_append_getElem hin,hx2]
   have hgood:=mW (ns.take i) (fun y hy=>(ho y (WE hy)).1) hv0;obtain⟨hls,hss⟩:=i6 (ns.take i) hv0;have hll:(aX (ns.take i)).length=i:=by rw[fS,hti]
   have hsl:(b9 (ns.take i)).length=i:=by rw[lZ,hti]
   have hstop:=fun hs=>A1 (l:=ns.take i) (r:=ns.drop (i+1)) (x:=x) hv0 hs
   rw[←hsplit] at hstop;have hgo:=fT [] (ns.take i) x hv0;rw[WG,←htn] at hgo;have hN:=UL i x om hxo hxv;have hlt:=iG (ns.take i) x;have hst:=nG (ns.take i) x;rw[←htn] at hlt hst;have hse:fV (ns.take i) (aX (ns.take i)) (b9 (ns.take i)) x=if eI i x≠0 then eI i x else if 256<Go.Ax.d9 (aX (ns.take i)) x∨1024<iI (b9 (ns.take i)) x then 4 else if x.kind=4 then iJ (ns.take i) x else 0:=by
    unfold fV;rw[hti]
   have hbnd:(0<x.kids.length/\∀(j:Nat) (k:Int),x.kids[j]? = some k->0<=k/\k<i)->iJ (ns.take i) x=iJ ns x:=by
    rintro⟨h0,hk⟩;obtain⟨q,hq⟩:∃q,x.kids[0]? = some q:=⟨x.kids[0],VV h0⟩
    obtain⟨q1,q2⟩:=hk 0 q hq;have hgd:x.kids.getD 0 0=q:=by rw[VW,hq];rfl
    unfold iJ;simp only[hgd];rw[XL,Wh om]
   have hxn:=aV x;obtain⟨ne,hne⟩:∃ne,ne=eI i x:=⟨_,rfl⟩
   rw[←hne] at hN hse;by_cases n0:ne=0
   ·subst n0;have hok:=kK hne.symm;have h4:4<=x.kind->0<x.kids.length:=fun h=>by have:=hok.bind (by have:=hok.kind;omega);omega
    have hL:=OU (aX (ns.take i)) x hxo om hls (by rw[hll];exact hok.kids) h4 hok.kind;have hS:=Rf (b9 (ns.take i)) x hxo om hss (by rw[hsl];exact hok.kids) h4 hok.kind;have hB:=RO ns x i om hl (fun j y hj hy=>hgood j y (by rw[WA,Vb hj];exact hy)) hxo;rw[VY (by simp)] at hse;generalize aX (ns.take i)=lsI at hL hll hlt hse hstop hgo hls ⊢;generalize b9 (ns.take i)=ssI at hS hsl hst hse hstop hgo hss ⊢;generalize Go.Ax.d9 lsI x=ln at hL hlt hse;generalize iI ssI x=sn at hS hst hse;obtain⟨kind,name,lo,hi',ws,ls,vals,kids,⟨vk,vn,vs,vks⟩⟩:=x;simp only at hse h4 hB hbnd hok;refine Rr ?_;repeat((first|refine aN bx ?_|refine aD ex ?_);refine Rr ?_)
    refine hN.go ?_ (.cons (.int _ _) (.cons hxn .nil));refine Rr ?_;refine aH.useApp bG hL 2 rfl (aM _) (.cons (.slE rfl hll.symm) (.cons (.same _ hxn) .nil)) ?_;rintro len ys ⟨rfl,rfl⟩;refine Rr ?_;refine aH.useApp bG hS 3 rfl (aM _) (.cons (.slE rfl hsl.symm) (.cons (.same _ hxn) .nil)) ?_;rintro len ys ⟨rfl,rfl⟩;have el:(aS (lsI++[ln]))[0+((i:Nat):Int).toNat]? = some (.int .i64 ln):=by simp[aS,hll]
    have bl:Nat.blt ((i:Nat):Int).toNat (lsI.length+1)=true:=Vc (by simp;omega);have es:(aS (ssI++[sn]))[0+((i:Nat):Int).toNat]? = some (.int .i64 sn):=by simp[aS,hsl]
    have bs':Nat.blt ((i:Nat):Int).toNat (ssI.length+1)=true:=Vc (by simp;omega);refine Rr ?_;repeat((first|refine aN bl ?_|refine aD el ?_);refine Rr ?_)
    refine aI (fun h2=>?_) (fun h2=>?_)
    ·have h3:256<ln:=by simpa using h2
     rw[h2];rw[Vb (.inl h3)] at hse;have hres:=hstop (by rw[hse];omega);refine Rr ?_;exact hfin _ _ _ rfl (by rw[hvt,hres,hse])
    ·have h3:¬256<ln:=by simpa using h2
     rw[h2];refine Rr ?_;repeat((first|refine aN bs' ?_|refine aD es ?_);refine Rr ?_)
     refine aI (fun h4'=>?_) (fun h4'=>?_)
     ·have h5:1024<sn:=by simpa using h4'
      rw[h4'];rw[Vb (.inr h5)] at hse;have hres:=hstop (by rw[hse];omega);refine Rr ?_;exact hfin _ _ _ rfl (by rw[hvt,hres,hse])
     ·have h5:¬1024<sn:=by simpa using h4'
      rw[h4'];rw[VY om] at hse;by_cases k4:kind=4
      ·rw[Vb k4] at hse;have h40:=h4 om;have hB:=hB h40 hok.kids;rw[hbnd ⟨h40,hok.kids⟩] at hse;generalize iJ ns ⟨kind,name,lo,hi',ws,ls,vals,kids,.mk vk vn vs vks⟩=be at hB hse;subst k4;refine Rr ?_;refine aH.use1 bG hB 0 rfl (aY _) (.cons (.agg' (.cons (.sl 0 0 0 _ rfl) .nil)) (.cons (.same _ hxn) .nil)) ?_;rintro r m k ⟨rfl,rfl⟩;refine⟨_,rfl,nn,aY _, ?_⟩;by_cases be0:be=0
       ·subst be0;rw[hse] at hgo;refine Rr ?_;exact .mk (i+1) [(0,0),(1,1),(5,2),(6,3)] ⟨om,hgo⟩
         (aG _ rfl ⟨aL 0 (aY _),⟨1,_,rfl,rfl,.cons (.agg (.cons (.sl 0 0 0 _ rfl) .nil)) .nil⟩,⟨5,_,rfl,rfl,.eq (aM _) (by rw[hlt])⟩,⟨6,_,rfl,rfl,.eq (aM _) (by rw[hst])⟩,trivial⟩ ⟨aJ,⟨_,rfl,.slE rfl (by rw[hll])⟩,⟨_,rfl,.slE rfl (by rw[hsl])⟩,⟨_,rfl,.w64 om ⟨om,om⟩⟩,trivial⟩) om
       ·have d5:(be != 0)=true:=by simpa using be0
        have hres:=hstop (by rw[hse];exact be0);refine Rr ?_;rw[d5];refine Rr ?_;exact hfin _ _ _ rfl (by rw[hvt,hres,hse])
      ·rw[VY k4] at hse;have d4:(kind == 4)=false:=by simpa using k4
       rw[hse] at hgo;refine Rr ?_;rw[d4];refine Rr ?_;exact .mk (i+1) [(0,0),(1,1),(5,2),(6,3)] ⟨om,hgo⟩
        (aG _ rfl ⟨aL 0 (aY _),⟨1,_,rfl,rfl,.cons (.agg (.cons (.sl 0 0 0 _ rfl) .nil)) .nil⟩,⟨5,_,rfl,rfl,.eq (aM _) (by rw[hlt])⟩,⟨6,_,rfl,rfl,.eq (aM _) (by rw[hst])⟩,trivial⟩ ⟨aJ,⟨_,rfl,.slE rfl (by rw[hll])⟩,⟨_,rfl,.slE rfl (by rw[hsl])⟩,⟨_,rfl,.w64 om ⟨om,om⟩⟩,trivial⟩) om
   ·have d1:(ne != 0)=true:=by simpa using n0
    have hse':=hse;rw[Vb n0] at hse';have hres:=hstop (by rw[hse'];exact n0);rw[hse'] at hres;obtain⟨kind,name,lo,hi',ws,ls,vals,kids,⟨vk,vn,vs,vks⟩⟩:=x;refine Rr ?_;repeat((first|refine aN bx ?_|refine aD ex ?_);refine Rr ?_)
    refine hN.go ?_ (.cons (.int _ _) (.cons hxn .nil));refine Rr ?_;rw[d1];refine Rr ?_;exact hfin _ _ _ rfl (by rw[hvt,hres])
  ·have hin:i=ns.length:=by simp at h;omega
   subst hin;rw[Vr] at hv0;refine Rr ?_;exact hfin _ _ _ rfl (by rw[hvt,hv0])
set_option maxHeartbeats 8000000
def zV:a6:=.mk 0 0 [] []
def Hd(v:a6):Nd:=⟨0,[],0,0,[],[],[],[],v⟩
def A5(ns:List Nd)(l:List Int)(i k:Int):Nd:=
 let b:=dF (aT (ns.take ((kidI l i 0).toNat+1))) (kidI l i 0)
 if b.many=true∨6<b.vals.length then Hd (wM k) else⟨4,[],0,0,[],[],b.vals,kidI l i 0::(List.range b.vals.length).map fun j:Nat=>kidI l i ((j:Int)+1),zV⟩
theorem o5{l:List Int}{i j:Int}(hi:1<=i):0<=kidI l i j/\kidI l i j<i:=by
 unfold kidI;have hp:=lE (l:=l) (i:=3*i+j+2) (most:=1000000) om;split
 ·exact⟨W5 _ (W6 hp.1 om),Wp _ om⟩
 ·have h0:0<=((mE l (3*i+j+2) 1000000).tdiv 3).tmod 3:=W5 _ (W6 hp.1 om);omega
theorem Ts(ns:List Nd)(l:List Int)(k:Int)(hl:∀x∈l,i64 x)(h1:1<=ns.length)(h2:ns.length<=1000)(hk0:0<=k)(hk1:k<=1000000)(hg:∀(j:Nat) (x:Nd),ns[j]? = some x->lF j x) :
    aH prog [] 15 [.agg [.sl 0 0 ns.length],.il 1 (aS l),.int .i64 ns.length,.int .i64 k] (tM ns) 1 fun r m _=>r=bW (A5 ns l ns.length k)/\m=tM ns:=by
  have hfin:∀(x:Nd) (r:AV) (mem:aP) (nx:Nat),lk mem 0=some (.row 46 12 (aW ns))->Cv mem [(0,0)] r (bW x)->x=A5 ns l ns.length k->kN 1 (fun r m (_:Nat)=>r=bW (A5 ns l ns.length k)/\m=tM ns) r mem nx:=by
    intro x r mem nx h0 hr hx;exact bJ (r':=bW x) (n':=1) (m':=tM ns) [(0,0)] rfl ⟨⟨0,_,rfl,h0,.same (aY _)⟩,trivial⟩ hr ⟨by rw[hx],rfl⟩
  have hK0:=Mu l ns.length 0 hl om om om om;obtain⟨q1,q2⟩:=o5 (l:=l) (i:=(ns.length:Int)) (j:=0) om;obtain⟨q,hq⟩:=Vk q1;have hb:A5 ns l ns.length k=if (dF (aT (ns.take (q+1))) q).many=true∨6<(dF (aT (ns.take (q+1))) q).vals.length then Hd (wM k) else⟨4,[],0,0,[],[],(dF (aT (ns.take (q+1))) q).vals,(q:Int)::(List.range (dF (aT (ns.take (q+1))) q).vals.length).map fun j:Nat=>kidI l ns.length ((j:Int)+1),zV⟩:=by
    unfold A5;simp only[hq,Va]
  have hV:=Kb ns q om om fun j y _ hy=>hg j y hy
  rw[hq] at hK0;simp only[hb] at hfin ⊢;generalize dF (aT (ns.take (q+1))) q=b at hV hfin ⊢;obtain⟨bv,bm⟩:=b;simp only at hV hfin ⊢;have hLf:=Q4 k hk0 hk1;obtain⟨⟨f1,f2,f3,f4⟩,hf⟩:∃f,f=wM k:=⟨_,rfl⟩
  rw[←hf] at hLf hfin ⊢;have hleaf:∀(mem:aP) (nx:Nat),lk mem 0=some (.row 46 12 (aW ns))->(bm=true∨6<bv.length)->kN 1 (fun r m (_:Nat)=>r=bW (if bm=true∨6<bv.length then Hd (.mk f1 f2 f3 f4) else⟨4,[],0,0,[],[],bv,(q:Int)::(List.range bv.length).map fun j:Nat=>kidI l ns.length ((j:Int)+1),zV⟩)/\m=tM ns)
      (.agg [.int .i64 0,.str [],.int .i64 0,.int .i64 0,.nsl,.nsl,.nsl,.nsl,.int .i64 f1,.int .i64 f2,.str f3,.il 4 (aQ f4)]) mem nx:=by
    intro mem nx h0 hc;refine hfin (Hd (.mk f1 f2 f3 f4)) _ mem nx h0 ?_ (by rw[Vb hc]);exact .agg' (.s (.s (.s (.s (.cons (.nil 1) (.cons (.nil 1) (.cons (.nil 4) (.cons (.nil 1) (.s (.s (.s (.s .nil))))))))))))
  refine aK bG func15 rfl ?_;refine Rr ?_;refine hK0.go ?_;refine Rr ?_;refine aH.use1 bG hV 0 rfl (aY _) (.cons (.agg' (.cons (.sl 0 0 0 _ rfl) .nil)) (.s .nil)) ?_;rintro r m k' ⟨rfl,rfl⟩;refine⟨_,rfl,nn,aY _, ?_⟩;cases bm with
  | true=>
    refine Rr ?_;refine hLf.go ?_;refine Rr ?_;exact hleaf _ _ rfl (.inl rfl)
  | false=>
    refine Rr ?_;refine aI (fun h=>?_) (fun h=>?_)
    · have h6:6<bv.length:=by rw[aB] at h;simp at h;omega
      rw[h];refine Rr ?_;refine hLf.go ?_;refine Rr ?_;exact hleaf _ _ rfl (.inr h6)
    · have h6:¬6<bv.length:=by rw[aB] at h;simp at h;omega
      rw[h];refine Rr ?_;refine bC.at bG (fun j:Nat=>j<=bv.length)
        (fun j=>⟨[(1,.il 1 (aS l)),(2,.int .i64 ns.length),(8,.ptr 2 0 0),(10,.il 4 (aQ bv)),(12,.ptr 3 0 0),(13,.int .i64 j)],
          [(0,.row 46 12 (aW ns)),(2,.row 46 12 [.agg [.int .i64 0,.str [],.int .i64 0,.int .i64 0,.nsl,.nsl,.nsl,.nsl,.int .i64 0,.int .i64 0,.str [],.nsl]]),
           (3,.row 46 12 [.agg [.int .i64 4,.str [],.int .i64 0,.int .i64 0,.nsl,.nsl,.il 4 (aQ bv),.sl 4 0 (j+1),.int .i64 0,.int .i64 0,.str [],.nsl]]),(4,.row 3 1 (aS ((q:Int)::(List.range j).map fun j:Nat=>kidI l ns.length ((j:Int)+1))))],5,54⟩)
        (fun j=>bv.length-j) 0 [(0,0),(2,2),(4,3),(3,4)] (by simp)
        (aG _ rfl ⟨aL 0 (aY _),aL 2 dE,⟨4,_,rfl,rfl,.cons (.agg (.s (.s (.s (.s (.s (.s (.s (.cons (.sl 3 4 0 1 rfl) (.s (.s (.s (.s .nil))))))))))))) .nil⟩,⟨3,_,rfl,rfl,.eq (aM _) rfl⟩,trivial⟩
          ⟨aF,aF,aJ,aF,aJ,aF,trivial⟩) ?_
      intro j hj;refine Rr ?_;refine aI (fun h=>?_) (fun h=>?_)
      · have hjl:j<bv.length:=G7 h
        have hw:IntKind.i64.wrap ((j:Int)+1)=(j:Int)+1:=cV ⟨om,om⟩;have hKj:=Mu l ns.length ((j:Int)+1) hl om om om om;refine Rr ?_;rw[hw];refine hKj.go ?_;refine Rt ?_;refine aN (bV rfl rfl (by rw[aC];simp) (by simp;omega)) ?_;refine Rt ?_;exact .mk (j+1) [(0,0),(2,2),(3,3),(16,4)] om
          (aG _ rfl ⟨aL 0 (aY _),aL 2 dE,⟨3,_,rfl,rfl,.cons (.agg (.s (.s (.s (.s (.s (.s (.s (.cons (.slE rfl (by simp)) (.s (.s (.s (.s .nil))))))))))))) .nil⟩,⟨16,_,rfl,rfl,.eq (aM _) (by rw[X9];simp[aS])⟩,trivial⟩
            ⟨aF,aF,aJ,aF,aJ,⟨_,rfl,.w64 om ⟨om,om⟩⟩,trivial⟩) om
      · have hje:j=bv.length:=by have:=IJ h;omega
        subst hje;refine Rr ?_;refine hfin ⟨4,[],0,0,[],[],bv,(q:Int)::(List.range bv.length).map fun j:Nat=>kidI l ns.length ((j:Int)+1),zV⟩ _ _ _ rfl ?_ (by rw[VY (by simp;omega)]);exact .agg' (.s (.s (.s (.s (.cons (.nil 1) (.cons (.nil 1) (.s (.cons (.fz' (id:=4) rfl rfl (by rw[aC];simp) (by rw[V7];exact Vl (by rw[aC];simp)) (aM _)) (.s (.s (.s (.cons (.nil 4) .nil))))))))))))
set_option maxHeartbeats 8000000
theorem qV{α:Type}{p:α->Prop}{l:List α}{y:α}(h:∀x∈l,p x)(hy:p y):∀x∈l++[y],p x:=fun x hx=>by
 rcases Vs.1 hx with hx|hx
 ·exact h x hx
 ·simp at hx;rw[hx];exact hy
theorem La{ns:List Nd}(hT:gI ns)(h1:1<=ns.length)(h2:ns.length<=1000){l:List Int}{k:Int}(hk:0<=k):L4 (A5 ns l ns.length k):=by
 have z0:i64 0:=⟨om,om⟩
 unfold A5;simp only;split
 ·have:=Gz k hk;exact oN z0 (by simp) z0 z0 (by simp) (by simp) (by simp) (by simp) (by simp) (by simp) (by simp) (by simp) this.1 om
 ·rename_i hc;rw[not_or] at hc;have hb:=fun j=>o5 (l:=l) (i:=(ns.length:Int)) (j:=j) om
  obtain⟨q0,q1⟩:=hb 0;have hv:bU [] (ns.take ((kidI l ns.length 0).toNat+1))=0:=jG (r:=ns.drop ((kidI l ns.length 0).toNat+1)) (by rw[List.take_append_drop];exact hT.valid);have ho:∀x∈ns.take ((kidI l ns.length 0).toNat+1),n4 x:=fun x hx=>hT.ok x (WE hx)
  have hs:=HC _ ho hv (kidI l ns.length 0) q0 (by simp;omega);have hg:=uW (nR _ (mW _ ho hv)) (kidI l ns.length 0);refine oN ⟨om,om⟩ (by simp) z0 z0 (by simp) (by simp) (by simp) (by simp) om (fun v hv=>⟨hg.2 v hv,by have:=hs v hv;omega⟩) (by simp;omega) (fun w hw=>?_) (iP z0 z0) (by simp[zV,bF,cJ]);rcases Vg.1 hw with rfl|hw
  ·exact⟨om,om⟩
  ·obtain⟨j,_,rfl⟩:=Vq.1 hw;have:=hb ((j:Int)+1);exact⟨om,om⟩
theorem eD.joinAt{P:Program}{Γ:List (Nat × AV)}{B:Nat}{α:Type}{rest:Code}{Q:Exit->St->Prop}{G:Prop}(hΓ:∀p∈Γ,NN p.2)(R:α->Prop)(J:α->St)
  (h1:(∀(a:α) (s:St) (σ:List (Nat × Nat)),R a->Conv B σ s (J a)->eD P Γ B rest s Q)->G) (h2:∀a,R a->eD P Γ B rest (J a) Q):G:=h1 fun a s σ hr hc=>eD.conv hΓ hc (h2 a hr)
theorem T1(l:List Int)(hl:∀x∈l,i64 x) :
  aH prog [] 4 [.il 1 (aS l)] [] 0 fun r m n=>∃ns:List Nd,gI ns/\ns.length<=14/\r = .agg [.sl 0 0 ns.length]/\m=tM ns/\n=1:=by
 have z0:i64 0:=⟨om,om⟩
 have hP0:=G9 l 0 15 hl om;obtain⟨n0,n1⟩:=lE (l:=l) (i:=0) (most:=15) om;generalize mE l 0 15=nn0 at hP0 n0 n1;obtain⟨n,rfl⟩:=Vk n0;refine aK bG func4 rfl ?_;refine Rr ?_;refine hP0.go ?_;refine Rr ?_;refine bC.ph 46 12 ?_;refine bC.at bG (fun ns:List Nd=>gI ns/\ns.length<=n) (fun ns=>⟨[(0,.il 1 (aS l)),(2,.ptr 0 0 0),(3,.ptr 1 0 0),(4,.int .i64 n),(5,.int .i64 ns.length)],[(0,.row 25 1 [.agg [.nsl]]),(1,.row 25 1 [.agg [.sl 2 0 ns.length]]),(2,.row 46 12 (aW ns))],3,181⟩) (fun ns=>n-ns.length) [] [(0,0),(1,1),(2,2)] ⟨⟨by simp[bU],by simp⟩,by simp⟩
  (aG _ rfl ⟨aL 0 dE,⟨1,_,rfl,rfl,.cons (.agg (.cons (.nslk 2 2 _ rfl rfl) .nil)) .nil⟩,aL 2 .nil,trivial⟩ ⟨aF,aJ,aJ,aF,aF,trivial⟩) ?_
 rintro ns ⟨hT,hns⟩;refine Rr ?_;refine aI (fun h=>?_) (fun h=>?_)
 ·have hlt:ns.length<n:=by simpa using h
  have hw1:IntKind.i64.wrap (1+(ns.length:Int))=1+(ns.length:Int):=cV ⟨om,om⟩;have hPk:=G9 l (1+(ns.length:Int)) 1000000 hl om;obtain⟨kk0,kk1⟩:=lE (l:=l) (i:=1+(ns.length:Int)) (most:=1000000) om;generalize mE l (1+(ns.length:Int)) 1000000=kk at hPk kk0 kk1;have m8:=kH kk0 (show (0:Int)<8 by omega);have q8:=Bn kk0 (show (0:Int)<8 by omega);have q80:0<=kk.tdiv 8:=W6 kk0 om;have hw8:IntKind.i64.wrap (kk.tdiv 8)=kk.tdiv 8:=cV ⟨om,om⟩;have m82:=kH q80 (show (0:Int)<2 by omega);refine Rr ?_;rw[hw1];refine hPk.go ?_
  refine' eD.joinAt (P:=prog) (B:=0) bG (fun kd:Int=>0<=kd/\kd<=4/\(2<=kd->2<=ns.length)) (fun kd=>⟨[(0,.il 1 (aS l)),(2,.ptr 0 0 0),(3,.ptr 1 0 0),(4,.int .i64 n),(5,.int .i64 ns.length),(6,.int .i64 kk),(7,.ptr 3 0 0)],[(0,.row 25 1 [.agg [.nsl]]),(1,.row 25 1 [.agg [.sl 2 0 ns.length]]),(2,.row 46 12 (aW ns)),(3,.row 46 12 [.agg [.int .i64 kd,.str [],.int .i64 0,.int .i64 0,.nsl,.nsl,.nsl,.nsl,.int .i64 0,.int .i64 0,.str [],.nsl]])],4,181⟩) (fun hJ=>?_) (fun kd hkd=>?_)
  rotate_left 2
  ·by_cases hi2:ns.length<2
   ·have d2:decide ((ns.length:Int)<2)=true:=by simp;omega
    refine Rr ?_;rw[d2];refine Rr ?_;rw[hw8];obtain⟨kd,hkd⟩:∃kd,kd=(kk.tdiv 8).tmod 2:=⟨_,rfl⟩
    rw[←hkd] at m82 ⊢;have d5:decide (kd>5)=false:=by simp;omega
    refine Rr ?_;rw[d5]
    conv=>whnf
    refine eD.many ?_
    conv=>whnf
    exact hJ kd _ [(0,0),(1,1),(2,2),(3,3)] ⟨om,om,om⟩ (aG _ rfl ⟨aL 0 dE,⟨1,_,rfl,rfl,.cons (.agg (.cons (.sl 2 2 0 _ rfl) .nil)) .nil⟩,aL 2 (aY _),aL 3 dE,trivial⟩ ⟨aF,aJ,aJ,aF,aF,aF,aJ,trivial⟩)
   ·have d2:decide ((ns.length:Int)<2)=false:=by simp;omega
    refine Rr ?_;rw[d2];refine Rr ?_;have hkd5:(kk.tmod 8 == 5)=false∨(kk.tmod 8 == 5)=true:=by cases (kk.tmod 8 == 5)<;>simp
    rcases hkd5 with e5|e5
    ·have n5:kk.tmod 8≠5:=by simpa using e5
     obtain⟨k8,hk8⟩:∃k8,k8=kk.tmod 8:=⟨_,rfl⟩
     rw[←hk8] at e5 n5 m8 ⊢;rcases(show k8<5∨5<k8 by omega) with k5|k5
     ·have d5:decide (k8>5)=false:=by simp;omega
      rw[e5];refine Rr ?_;rw[d5]
      conv=>whnf
      refine eD.many ?_
      conv=>whnf
      exact hJ k8 _ [(0,0),(1,1),(2,2),(3,3)] ⟨om,om,om⟩ (aG _ rfl ⟨aL 0 dE,⟨1,_,rfl,rfl,.cons (.agg (.cons (.sl 2 2 0 _ rfl) .nil)) .nil⟩,aL 2 (aY _),aL 3 dE,trivial⟩ ⟨aF,aJ,aJ,aF,aF,aF,aJ,trivial⟩)
     ·have d5:decide (k8>5)=true:=by simp;omega
      have hw4:IntKind.i64.wrap (k8-4)=k8-4:=cV ⟨om,om⟩;rw[e5];refine Rr ?_;rw[d5]
      conv=>whnf
      refine eD.many ?_
      conv=>whnf
      refine nH.many ?_
      conv=>whnf
      rw[hw4];exact hJ (k8-4) _ [(0,0),(1,1),(2,2),(3,3)] ⟨om,om,om⟩ (aG _ rfl ⟨aL 0 dE,⟨1,_,rfl,rfl,.cons (.agg (.cons (.sl 2 2 0 _ rfl) .nil)) .nil⟩,aL 2 (aY _),aL 3 dE,trivial⟩ ⟨aF,aJ,aJ,aF,aF,aF,aJ,trivial⟩)
    ·rw[e5];refine Rr ?_;rw[hw8];obtain⟨kd,hkd⟩:∃kd,kd=(kk.tdiv 8).tmod 2:=⟨_,rfl⟩
     rw[←hkd] at m82 ⊢;have d5:decide (kd>5)=false:=by simp;omega
     refine Rr ?_;rw[d5]
     conv=>whnf
     refine eD.many ?_
     conv=>whnf
     exact hJ kd _ [(0,0),(1,1),(2,2),(3,3)] ⟨om,om,om⟩ (aG _ rfl ⟨aL 0 dE,⟨1,_,rfl,rfl,.cons (.agg (.cons (.sl 2 2 0 _ rfl) .nil)) .nil⟩,aL 2 (aY _),aL 3 dE,trivial⟩ ⟨aF,aJ,aJ,aF,aF,aF,aJ,trivial⟩)
  ·obtain⟨kd0,kd4,kd2⟩:=hkd;refine Rr ?_;refine NR bG (fun x:Nd=>L4 x) (fun x=>⟨[(0,.il 1 (aS l)),(2,.ptr 0 0 0),(3,.ptr 1 0 0),(4,.int .i64 n),(5,.int .i64 ns.length),(6,.int .i64 kk),(7,.ptr 3 0 0)],[(0,.row 25 1 [.agg [.nsl]]),(1,.row 25 1 [.agg [.sl 2 0 ns.length]]),(2,.row 46 12 (aW ns)),(3,.row 46 12 [bW x])],4,181⟩) (fun Qr hQ=>?_) (fun x hx=>?_)
   ·rcases(show kd=0∨kd=1∨kd=2∨kd=3∨kd=4 by omega) with rfl|rfl|rfl|rfl|rfl
    ·have hLf:=Q4 (kk.tdiv 8) (W6 kk0 om) (by have:=Bn kk0 (show (0:Int)<8 by omega);omega);have hlo:=Gz (kk.tdiv 8) (W6 kk0 om);generalize wM (kk.tdiv 8)=f at hLf hlo;obtain⟨f1,f2,f3,f4⟩:=f;refine Rr ?_;rw[hw8];refine hLf.go ?_;refine Rr ?_;exact hQ (Hd (.mk f1 f2 f3 f4)) _ [(0,0),(1,1),(2,2),(3,3)] (oN z0 (by simp) z0 z0 (by simp) (by simp) (by simp) (by simp) (by simp) (by simp) (by simp) (by simp) hlo.1 om) (aG _ rfl ⟨aL 0 dE,⟨1,_,rfl,rfl,.cons (.agg (.cons (.sl 2 2 0 _ rfl) .nil)) .nil⟩,aL 2 (aY _),⟨3,_,rfl,rfl,.cons (.agg (.s (.s (.s (.s (.cons (.nil 1) (.cons (.nil 1) (.cons (.nil 4) (.cons (.nil 1) (.s (.s (.s (.s .nil))))))))))))) .nil⟩,trivial⟩ ⟨aF,aJ,aJ,aF,aF,aF,aJ,trivial⟩)
    ·refine Rr ?_;refine aI (fun h=>?_) (fun h=>?_)
     ·refine Rr ?_;exact hQ ⟨1,[],_,_,[],[],[],[],zV⟩ _ [(0,0),(1,1),(2,2),(3,3)] (oN ⟨om,om⟩ (by simp) (ME _) (ME _) (by simp) (by simp) (by simp) (by simp) (by simp) (by simp) (by simp) (by simp) (iP z0 z0) (by simp[zV,bF,cJ])) (aG _ rfl ⟨aL 0 dE,⟨1,_,rfl,rfl,.cons (.agg (.cons (.sl 2 2 0 _ rfl) .nil)) .nil⟩,aL 2 (aY _),⟨3,_,rfl,rfl,.cons (.agg (.s (.s (.s (.s (.cons (.nil 1) (.cons (.nil 1) (.cons (.nil 4) (.cons (.nil 1) (.s (.s (.s (.cons (.nil 4) .nil))))))))))))) .nil⟩,trivial⟩ ⟨aF,aJ,aJ,aF,aF,aF,aJ,trivial⟩)
     ·refine Rr ?_;exact hQ ⟨1,[],_,_,[],[],[],[],zV⟩ _ [(0,0),(1,1),(2,2),(3,3)] (oN ⟨om,om⟩ (by simp) (ME _) (ME _) (by simp) (by simp) (by simp) (by simp) (by simp) (by simp) (by simp) (by simp) (iP z0 z0) (by simp[zV,bF,cJ])) (aG _ rfl ⟨aL 0 dE,⟨1,_,rfl,rfl,.cons (.agg (.cons (.sl 2 2 0 _ rfl) .nil)) .nil⟩,aL 2 (aY _),⟨3,_,rfl,rfl,.cons (.agg (.s (.s (.s (.s (.cons (.nil 1) (.cons (.nil 1) (.cons (.nil 4) (.cons (.nil 1) (.s (.s (.s (.cons (.nil 4) .nil))))))))))))) .nil⟩,trivial⟩ ⟨aF,aJ,aJ,aF,aF,aF,aJ,trivial⟩)
    ·refine Rr ?_;rcases(show decide ((IntKind.i64.wrap (kk.tdiv 32)).tmod 3>0)=true∨decide ((IntKind.i64.wrap (kk.tdiv 32)).tmod 3>0)=false by cases decide ((IntKind.i64.wrap (kk.tdiv 32)).tmod 3>0)<;>simp) with hB|hB
     ·have hB:decide ((IntKind.i64.wrap (kk.tdiv 32)).tmod 3>0)=true:=hB;refine bC.ph 3 1 ?_;refine bC.ph 3 1 ?_;refine bC.ph 9 1 ?_;refine bC.at bG (fun a:List Int × List (List UInt8) × List Int=>a.1.length<=4/\a.2.2.length=a.1.length/\(∀w∈a.1,i64 w)/\(∀w∈a.2.2,i64 w)/\(∀s∈a.2.1,s∈wK)/\a.2.1.length=a.1.length)
       (fun a=>⟨[(0,.il 1 (aS l)),(2,.ptr 0 0 0),(3,.ptr 1 0 0),(4,.int .i64 n),(5,.int .i64 ns.length),(6,.int .i64 kk),(7,.ptr 3 0 0),(8,.int .i64 a.1.length)],[(0,.row 25 1 [.agg [.nsl]]),(1,.row 25 1 [.agg [.sl 2 0 ns.length]]),(2,.row 46 12 (aW ns)),(3,.row 46 12 [.agg [.int .i64 2,.str [],.int .i64 0,.int .i64 0,.sl 4 0 a.1.length,.sl 6 0 a.1.length,.nsl,.sl 5 0 a.1.length,.int .i64 0,.int .i64 0,.str [],.nsl]]),(4,.row 3 1 (aS a.1)),(5,.row 3 1 (aS a.2.2)),(6,.row 9 1 (jB a.2.1))],7,181⟩)
       (fun a=>4-a.1.length) ([],[],[]) [(0,0),(1,1),(2,2),(3,3),(4,4),(5,5),(6,6)] (by simp)
       (aG _ rfl ⟨aL 0 dE,⟨1,_,rfl,rfl,.cons (.agg (.cons (.sl 2 2 0 _ rfl) .nil)) .nil⟩,aL 2 (aY _),⟨3,_,rfl,rfl,.cons (.agg (.s (.s (.s (.s (.cons (.nslk 4 4 _ rfl rfl) (.cons (.nslk 6 6 _ rfl rfl) (.s (.cons (.nslk 5 5 _ rfl rfl) (.s (.s (.s (.s .nil))))))))))))) .nil⟩,aL 4 .nil,aL 5 .nil,aL 6 .nil,trivial⟩ ⟨aF,aJ,aJ,aF,aF,aF,aJ,aF,trivial⟩) ?_
      rintro⟨wl,ll,kl⟩ ⟨j1,j2,j3,j4,j5,j6⟩;simp only at j1 j2 j3 j4 j5 j6;refine Rr ?_;refine aI (fun h=>?_) (fun h=>?_)
      ·have hjc:wl.length<4:=by rw[hw8] at h;have:=kH q80 (show (0:Int)<4 by omega);simp at h;omega
       have hwj:IntKind.i64.wrap ((ns.length:Int)+(wl.length:Int))=(ns.length:Int)+wl.length:=cV ⟨om,om⟩;have hPj:=G9 l ((ns.length:Int)+wl.length) 5 hl om;have hPb:=lE (l:=l) (i:=(ns.length:Int)+wl.length) (most:=5) om;generalize mE l ((ns.length:Int)+wl.length) 5=pw at hPj hPb;have hKj:=Mu l ns.length wl.length hl om om om om;have hKb:=o5 (l:=l) (i:=(ns.length:Int)) (j:=(wl.length:Int)) om;generalize kidI l ns.length wl.length=kw at hKj hKb;refine Rr ?_;rw[hwj];refine hPj.go ?_;refine Rt ?_;refine aN (bV rfl rfl (by rw[aC]) (by simp;omega)) ?_;refine Rt ?_;refine hKj.go ?_;refine Rt ?_;refine aN (bV rfl rfl (by rw[aC,j2]) (by simp;omega)) ?_;refine Rt ?_;rw[hB];refine Rr ?_;obtain⟨qn,hqn,hqe⟩:∃qn:Nat,qn<4/\(IntKind.i64.wrap ((wl.length:Int)+IntKind.i64.wrap (kk.tdiv 96))).tmod 4=(qn:Int):=by
        have a0:=Bn kk0 (show (0:Int)<96 by omega);have a1:0<=kk.tdiv 96:=W6 kk0 om;have e1:IntKind.i64.wrap (kk.tdiv 96)=kk.tdiv 96:=cV ⟨om,om⟩;have e2:IntKind.i64.wrap ((wl.length:Int)+kk.tdiv 96)=(wl.length:Int)+kk.tdiv 96:=cV ⟨om,om⟩;rw[e1,e2];have:=kH (show 0<=(wl.length:Int)+kk.tdiv 96 by omega) (show (0:Int)<4 by omega);exact⟨(((wl.length:Int)+kk.tdiv 96).tmod 4).toNat,om,om⟩
       obtain⟨sa,hsa,hsm⟩:∃sa,([AV.str [97],AV.str [98],AV.str [99],AV.str [100]])[0+((qn:Nat):Int).toNat]? = some (.str sa)/\sa∈wK:=by
        rcases(show qn=0∨qn=1∨qn=2∨qn=3 by omega) with rfl|rfl|rfl|rfl
        ·exact⟨[97],rfl,by simp[wK]⟩
        ·exact⟨[98],rfl,by simp[wK]⟩
        ·exact⟨[99],rfl,by simp[wK]⟩
        ·exact⟨[100],rfl,by simp[wK]⟩
       have bsa:Nat.blt ((qn:Nat):Int).toNat 4=true:=Vc (by simp;omega);rw[hqe];refine Rr ?_;repeat((first|refine aU ?_|refine aN bsa ?_|refine aD hsa ?_);refine Rr ?_)
       refine aN (bV rfl rfl (by rw[bE,j6]) (by simp;omega)) ?_;refine Rr ?_;repeat((first|refine aU ?_|refine aN bsa ?_|refine aD hsa ?_);refine Rr ?_)
       exact .mk (wl++[IntKind.i64.wrap (1+pw)],ll++[sa],kl++[kw]) [(0,0),(1,1),(2,2),(3,3),(19,4),(30,5),(45,6)] ⟨by simp;omega,by simp;omega,qV j3 (ME _),qV j4 ⟨om,om⟩,qV j5 hsm,by simp;omega⟩
        (aG _ rfl ⟨aL 0 dE,⟨1,_,rfl,rfl,.cons (.agg (.cons (.sl 2 2 0 _ rfl) .nil)) .nil⟩,aL 2 (aY _),⟨3,_,rfl,rfl,.cons (.agg (.s (.s (.s (.s (.cons (.slE rfl (by simp)) (.cons (.slE rfl (by simp)) (.s (.cons (.slE rfl (by simp)) (.s (.s (.s (.s .nil))))))))))))) .nil⟩,⟨19,_,rfl,rfl,.eq (aM _) (by simp[aS])⟩,⟨30,_,rfl,rfl,.eq (aM _) (by simp[aS])⟩,⟨45,_,rfl,rfl,.eq (dV _) (by simp[jB])⟩,trivial⟩ ⟨aF,aJ,aJ,aF,aF,aF,aJ,⟨_,rfl,.w64 (by simp) ⟨by simp;omega,by simp;omega⟩⟩,trivial⟩) (by simp;omega)
      ·refine Rr ?_;exact hQ ⟨2,[],0,0,wl,ll,[],kl,zV⟩ _ [(0,0),(1,1),(2,2),(3,3)] (oN ⟨om,om⟩ (by simp) z0 z0 om j3 om j5 (by simp) (by simp) om j4 (iP z0 z0) (by simp[zV,bF,cJ])) (aG _ rfl ⟨aL 0 dE,⟨1,_,rfl,rfl,.cons (.agg (.cons (.sl 2 2 0 _ rfl) .nil)) .nil⟩,aL 2 (aY _),⟨3,_,rfl,rfl,.cons (.agg (.s (.s (.s (.s (.cons (.fz' (id:=4) rfl rfl (by rw[aC];first|omega|(simp only;omega)) (by rw[V7];exact Vl (by rw[aC];first|omega|(simp only;omega))) (aM _)) (.cons (.fz' (id:=6) rfl rfl (by rw[bE];first|omega|(simp only;omega)) (by rw[V7];exact Vl (by rw[bE];first|omega|(simp only;omega))) (dV _)) (.cons (.nil 4) (.cons (.fz' (id:=5) rfl rfl (by rw[aC];first|omega|(simp only;omega)) (by rw[V7];exact Vl (by rw[aC];first|omega|(simp only;omega))) (aM _)) (.s (.s (.s (.cons (.nil 4) .nil))))))))))))) .nil⟩,trivial⟩ ⟨aF,aJ,aJ,aF,aF,aF,aJ,trivial⟩)
     ·have hB:decide ((IntKind.i64.wrap (kk.tdiv 32)).tmod 3>0)=false:=hB;refine bC.ph 3 1 ?_;refine bC.ph 3 1 ?_;refine bC.at bG (fun a:List Int × List (List UInt8) × List Int=>a.1.length<=4/\a.2.2.length=a.1.length/\(∀w∈a.1,i64 w)/\(∀w∈a.2.2,i64 w)/\(∀s∈a.2.1,s∈wK)/\a.2.1.length=0)
       (fun a=>⟨[(0,.il 1 (aS l)),(2,.ptr 0 0 0),(3,.ptr 1 0 0),(4,.int .i64 n),(5,.int .i64 ns.length),(6,.int .i64 kk),(7,.ptr 3 0 0),(8,.int .i64 a.1.length)],[(0,.row 25 1 [.agg [.nsl]]),(1,.row 25 1 [.agg [.sl 2 0 ns.length]]),(2,.row 46 12 (aW ns)),(3,.row 46 12 [.agg [.int .i64 2,.str [],.int .i64 0,.int .i64 0,.sl 4 0 a.1.length,.nsl,.nsl,.sl 5 0 a.1.length,.int .i64 0,.int .i64 0,.str [],.nsl]]),(4,.row 3 1 (aS a.1)),(5,.row 3 1 (aS a.2.2))],6,181⟩)
       (fun a=>4-a.1.length) ([],[],[]) [(0,0),(1,1),(2,2),(3,3),(4,4),(5,5)] (by simp)
       (aG _ rfl ⟨aL 0 dE,⟨1,_,rfl,rfl,.cons (.agg (.cons (.sl 2 2 0 _ rfl) .nil)) .nil⟩,aL 2 (aY _),⟨3,_,rfl,rfl,.cons (.agg (.s (.s (.s (.s (.cons (.nslk 4 4 _ rfl rfl) (.s (.s (.cons (.nslk 5 5 _ rfl rfl) (.s (.s (.s (.s .nil))))))))))))) .nil⟩,aL 4 .nil,aL 5 .nil,trivial⟩ ⟨aF,aJ,aJ,aF,aF,aF,aJ,aF,trivial⟩) ?_
      rintro⟨wl,ll,kl⟩ ⟨j1,j2,j3,j4,j5,j6⟩;simp only at j1 j2 j3 j4 j5 j6;refine Rr ?_;refine aI (fun h=>?_) (fun h=>?_)
      ·have hjc:wl.length<4:=by rw[hw8] at h;have:=kH q80 (show (0:Int)<4 by omega);simp at h;omega
       have hwj:IntKind.i64.wrap ((ns.length:Int)+(wl.length:Int))=(ns.length:Int)+wl.length:=cV ⟨om,om⟩;have hPj:=G9 l ((ns.length:Int)+wl.length) 5 hl om;have hPb:=lE (l:=l) (i:=(ns.length:Int)+wl.length) (most:=5) om;generalize mE l ((ns.length:Int)+wl.length) 5=pw at hPj hPb;have hKj:=Mu l ns.length wl.length hl om om om om;have hKb:=o5 (l:=l) (i:=(ns.length:Int)) (j:=(wl.length:Int)) om;generalize kidI l ns.length wl.length=kw at hKj hKb;refine Rr ?_;rw[hwj];refine hPj.go ?_;refine Rt ?_;refine aN (bV rfl rfl (by rw[aC]) (by simp;omega)) ?_;refine Rt ?_;refine hKj.go ?_;refine Rt ?_;refine aN (bV rfl rfl (by rw[aC,j2]) (by simp;omega)) ?_;refine Rt ?_;rw[hB];refine Rr ?_;exact .mk (wl++[IntKind.i64.wrap (1+pw)],ll,kl++[kw]) [(0,0),(1,1),(2,2),(3,3),(18,4),(29,5)] ⟨by simp;omega,by simp;omega,qV j3 (ME _),qV j4 ⟨om,om⟩,j5,j6⟩
        (aG _ rfl ⟨aL 0 dE,⟨1,_,rfl,rfl,.cons (.agg (.cons (.sl 2 2 0 _ rfl) .nil)) .nil⟩,aL 2 (aY _),⟨3,_,rfl,rfl,.cons (.agg (.s (.s (.s (.s (.cons (.slE rfl (by simp)) (.s (.s (.cons (.slE rfl (by simp)) (.s (.s (.s (.s .nil))))))))))))) .nil⟩,⟨18,_,rfl,rfl,.eq (aM _) (by simp[aS])⟩,⟨29,_,rfl,rfl,.eq (aM _) (by simp[aS])⟩,trivial⟩ ⟨aF,aJ,aJ,aF,aF,aF,aJ,⟨_,rfl,.w64 (by simp) ⟨by simp;omega,by simp;omega⟩⟩,trivial⟩) (by simp;omega)
      ·refine Rr ?_;obtain rfl:ll=[]:=WL.1 j6;exact hQ ⟨2,[],0,0,wl,[],[],kl,zV⟩ _ [(0,0),(1,1),(2,2),(3,3)] (oN ⟨om,om⟩ (by simp) z0 z0 om j3 (by simp) (by simp) (by simp) (by simp) om j4 (iP z0 z0) (by simp[zV,bF,cJ])) (aG _ rfl ⟨aL 0 dE,⟨1,_,rfl,rfl,.cons (.agg (.cons (.sl 2 2 0 _ rfl) .nil)) .nil⟩,aL 2 (aY _),⟨3,_,rfl,rfl,.cons (.agg (.s (.s (.s (.s (.cons (.fz' (id:=4) rfl rfl (by rw[aC];first|omega|(simp only;omega)) (by rw[V7];exact Vl (by rw[aC];first|omega|(simp only;omega))) (aM _)) (.cons (.nil 1) (.cons (.nil 4) (.cons (.fz' (id:=5) rfl rfl (by rw[aC];first|omega|(simp only;omega)) (by rw[V7];exact Vl (by rw[aC];first|omega|(simp only;omega))) (aM _)) (.s (.s (.s (.cons (.nil 4) .nil))))))))))))) .nil⟩,trivial⟩ ⟨aF,aJ,aJ,aF,aF,aF,aJ,trivial⟩)
    ·obtain⟨qn,hqn,hqe⟩:∃qn:Nat,qn<3/\(IntKind.i64.wrap (kk.tdiv 8)).tmod 3=(qn:Int):=by
      rw[hw8];have:=kH q80 (show (0:Int)<3 by omega);exact⟨((kk.tdiv 8).tmod 3).toNat,om,om⟩
     obtain⟨nm,hnm,hnl⟩:∃nm,([AV.str [],AV.str [80,97,105,114],AV.str []])[0+((qn:Nat):Int).toNat]? = some (.str nm)/\nm.length<=4:=by
      rcases(show qn=0∨qn=1∨qn=2 by omega) with rfl|rfl|rfl
      ·exact⟨[],rfl,by simp⟩
      ·exact⟨[80,97,105,114],rfl,by simp⟩
      ·exact⟨[],rfl,by simp⟩
     have bnm:Nat.blt ((qn:Nat):Int).toNat 3=true:=Vc (by simp;omega);refine Rr ?_;rw[hqe];refine Rr ?_;repeat((first|refine aU ?_|refine aN bnm ?_|refine aD hnm ?_);refine Rr ?_)
     refine bC.ph 3 1 ?_;refine bC.at bG (fun a:List Int=>a.length<=3/\∀w∈a,i64 w)
      (fun a=>⟨[(0,.il 1 (aS l)),(2,.ptr 0 0 0),(3,.ptr 1 0 0),(4,.int .i64 n),(5,.int .i64 ns.length),(6,.int .i64 kk),(7,.ptr 3 0 0),(9,.int .i64 a.length)],[(0,.row 25 1 [.agg [.nsl]]),(1,.row 25 1 [.agg [.sl 2 0 ns.length]]),(2,.row 46 12 (aW ns)),(3,.row 46 12 [.agg [.int .i64 3,.str nm,.int .i64 0,.int .i64 0,.nsl,.nsl,.nsl,.sl 4 0 a.length,.int .i64 0,.int .i64 0,.str [],.nsl]]),(4,.row 3 1 (aS a))],5,181⟩)
      (fun a=>4-a.length) [] [(0,0),(1,1),(2,2),(3,3),(5,4)] (by simp)
      (aG _ rfl ⟨aL 0 dE,⟨1,_,rfl,rfl,.cons (.agg (.cons (.sl 2 2 0 _ rfl) .nil)) .nil⟩,aL 2 (aY _),⟨3,_,rfl,rfl,.cons (.agg (.s (.s (.s (.s (.s (.s (.s (.cons (.nslk 5 4 _ rfl rfl) (.s (.s (.s (.s .nil))))))))))))) .nil⟩,aL 5 .nil,trivial⟩ ⟨aF,aJ,aJ,aF,aF,aF,aJ,aF,trivial⟩) ?_
     rintro kl ⟨j1,j4⟩;refine Rr ?_;refine aI (fun h=>?_) (fun h=>?_)
     ·have hjc:kl.length<3:=by
       have a0:=Bn kk0 (show (0:Int)<24 by omega);have a1:0<=kk.tdiv 24:=W6 kk0 om;have e1:IntKind.i64.wrap (kk.tdiv 24)=kk.tdiv 24:=cV ⟨om,om⟩;rw[e1] at h;have:=kH a1 (show (0:Int)<4 by omega);simp at h;omega
      have hKj:=Mu l ns.length kl.length hl om om om om;have hKb:=o5 (l:=l) (i:=(ns.length:Int)) (j:=(kl.length:Int)) om;generalize kidI l ns.length kl.length=kw at hKj hKb;refine Rr ?_;refine hKj.go ?_;refine Rt ?_;refine aN (bV rfl rfl (by rw[aC]) (by simp;omega)) ?_;refine Rt ?_;exact .mk (kl++[kw]) [(0,0),(1,1),(2,2),(3,3),(15,4)] ⟨by simp;omega,qV j4 ⟨om,om⟩⟩
       (aG _ rfl ⟨aL 0 dE,⟨1,_,rfl,rfl,.cons (.agg (.cons (.sl 2 2 0 _ rfl) .nil)) .nil⟩,aL 2 (aY _),⟨3,_,rfl,rfl,.cons (.agg (.s (.s (.s (.s (.s (.s (.s (.cons (.slE rfl (by simp)) (.s (.s (.s (.s .nil))))))))))))) .nil⟩,⟨15,_,rfl,rfl,.eq (aM _) (by simp[aS])⟩,trivial⟩ ⟨aF,aJ,aJ,aF,aF,aF,aJ,⟨_,rfl,.w64 (by simp) ⟨by simp;omega,by simp;omega⟩⟩,trivial⟩) (by simp;omega)
     ·refine Rr ?_;exact hQ ⟨3,nm,0,0,[],[],[],kl,zV⟩ _ [(0,0),(1,1),(2,2),(3,3)] (oN ⟨om,om⟩ om z0 z0 (by simp) (by simp) (by simp) (by simp) (by simp) (by simp) om j4 (iP z0 z0) (by simp[zV,bF,cJ])) (aG _ rfl ⟨aL 0 dE,⟨1,_,rfl,rfl,.cons (.agg (.cons (.sl 2 2 0 _ rfl) .nil)) .nil⟩,aL 2 (aY _),⟨3,_,rfl,rfl,.cons (.agg (.s (.s (.s (.s (.cons (.nil 1) (.cons (.nil 1) (.cons (.nil 4) (.cons (.fz' (id:=4) rfl rfl (by rw[aC];first|omega|(simp only;omega)) (by rw[V7];exact Vl (by rw[aC];first|omega|(simp only;omega))) (aM _)) (.s (.s (.s (.cons (.nil 4) .nil))))))))))))) .nil⟩,trivial⟩ ⟨aF,aJ,aJ,aF,aF,aF,aJ,trivial⟩)
    ·have hBd:=Ts ns l kk hl om om kk0 om hT.good;have hBg:=La hT om om (l:=l) (k:=kk) kk0;have hns:ns.length<=14:=om;generalize A5 ns l ns.length kk=bx at hBd hBg;have hbn:=aV bx;refine Rr ?_;refine aH.use1 bG hBd 2 rfl (aY _) (.cons (.agg' (.cons (.sl 2 0 0 _ rfl) .nil)) (.s (.s (.s .nil)))) ?_;rintro r m k' ⟨rfl,rfl⟩;refine⟨_,rfl,hbn,aY _, ?_⟩;obtain⟨kind,name,lo,hi,ws,ls,vals,kids,⟨vk,vn,vs,vks⟩⟩:=bx;refine Rr ?_;exact hQ ⟨kind,name,lo,hi,ws,ls,vals,kids,.mk vk vn vs vks⟩ _ [(0,0),(1,1),(2,2),(3,3)] hBg (aG _ rfl ⟨aL 0 dE,⟨1,_,rfl,rfl,.cons (.agg (.cons (.sl 2 2 0 _ rfl) .nil)) .nil⟩,aL 2 (aY _),aL 3 (.cons (aV ⟨kind,name,lo,hi,ws,ls,vals,kids,.mk vk vn vs vks⟩) .nil),trivial⟩ ⟨aF,aJ,aJ,aF,aF,aF,aJ,trivial⟩)
   ·have hxn:=aV x;have hV:=RA (ns++[x]) (by simp;omega) (fun y hy=>by
     rcases Vs.1 hy with hy|hy
     ·have:=hT.gen y hy;exact⟨this.ok,by have:=this.vals;omega⟩
     ·simp at hy;rw[hy];exact⟨hx.ok,by have:=hx.vals;omega⟩)
    have hnn2:=aY (ns++[x]);have eTk:List.take ns.length (List.drop 0 (aW ns))=aW ns:=by rw[V7];exact Vl (by rw[bD];omega)
    have hxs:aW (ns++[x])=aW ns++[bW x]:=by simp[aW]
    have hsn:=fun h=>hT.snoc (x:=x) om hx h
    have hw5:=kH kk0 (show (0:Int)<5 by omega);have hlf:=hT.leaf (m:=kk.tmod 5) ⟨om,om⟩;obtain⟨e,he⟩:∃e,e=cL (ns++[x]):=⟨_,rfl⟩
    rw[←he] at hV hsn;obtain⟨kind,name,lo,hi,ws,ls,vals,kids,⟨vk,vn,vs,vks⟩⟩:=x;refine Rr ?_;refine aN (J4 (by rw[bD];omega)) ?_;rw[eTk];refine Rr ?_;refine aN (Bq rfl (by rw[bD];omega)) ?_;refine Rr ?_;refine aN (bV rfl rfl rfl (by rw[bD];simp;omega)) ?_;refine Rr ?_;refine aH.useN bG [(7,0)] hV rfl (.cons (.agg' (.cons (.slE rfl (by rw[bD];simp)) .nil)) .nil) ⟨⟨7,_,rfl,rfl,.eq hnn2 (by rw[hxs];rfl)⟩,trivial⟩ rfl ?_;rintro r m k' ⟨rfl,rfl⟩;refine⟨[(0,7)],_,[(7,.row 46 12 (aW (ns++[⟨kind,name,lo,hi,ws,ls,vals,kids,.mk vk vn vs vks⟩])))],8,.same _ nn,⟨aL 0 hnn2,trivial⟩,rfl, ?_⟩;by_cases e0:e=0
    ·subst e0;refine Rr ?_;exact .mk (ns++[⟨kind,name,lo,hi,ws,ls,vals,kids,.mk vk vn vs vks⟩]) [(0,0),(1,1),(7,2)] ⟨hsn rfl,by simp;omega⟩
      (aG _ rfl ⟨aL 0 dE,⟨1,_,rfl,rfl,.cons (.agg (.cons (.slE rfl (by rw[bD];simp)) .nil)) .nil⟩,aL 7 hnn2,trivial⟩ ⟨aF,aJ,aJ,aF,⟨_,rfl,.w64 (by simp) ⟨by simp;omega,by simp;omega⟩⟩,trivial⟩) (by simp;omega)
    ·have de:(e == 0)=false:=by simpa using e0
     refine Rr ?_;rw[de];refine Rr ?_;refine aN (bV rfl rfl (by rw[bD]) (by simp;omega)) ?_;refine Rr ?_;have hlx:aW (ns++[⟨0,[],0,0,[],[],[],[],.mk 0 (kk.tmod 5) [] []⟩])=aW ns++[bW ⟨0,[],0,0,[],[],[],[],.mk 0 (kk.tmod 5) [] []⟩]:=by simp[aW]
     exact .mk (ns++[⟨0,[],0,0,[],[],[],[],.mk 0 (kk.tmod 5) [] []⟩]) [(0,0),(1,1),(9,2)] ⟨hlf,by simp;omega⟩
      (aG _ rfl ⟨aL 0 dE,⟨1,_,rfl,rfl,.cons (.agg (.cons (.slE rfl (by simp)) .nil)) .nil⟩,⟨9,_,rfl,rfl,by rw[hlx];exact .snoc rfl (.same (aY _)) (.agg (.s (.s (.s (.s (.cons (.nil 1) (.cons (.nil 1) (.cons (.nil 4) (.cons (.nil 1) (.s (.s (.s (.cons (.nil 4) .nil)))))))))))))⟩,trivial⟩ ⟨aF,aJ,aJ,aF,⟨_,rfl,.w64 (by simp) ⟨by simp;omega,by simp;omega⟩⟩,trivial⟩) (by simp;omega)
 ·have hlt:ns.length=n:=by simp at h;omega
  refine Rr ?_;exact bJ (r':=.agg [.sl 0 0 ns.length]) (m':=tM ns) (n':=1) [(2,0)] rfl ⟨aL 2 (aY _),trivial⟩ (.agg' (.cons (.sl 2 0 0 _ rfl) .nil)) ⟨ns,hT,om,rfl,rfl,rfl⟩
set_option maxHeartbeats 16000000
theorem sL{l:List (List UInt8)}{k:Nat}(h:k<l.length):(jB l)[((k:Nat):Int).toNat]? = some (.str l[k]):=by simp[yN,VV h]
end Go.Proofs.YtioogodkiglceaaGreatDoor
namespace Go.Proofs.YtioogodkiglceaaGreatDoor
open Go Go.Ax Go.Proofs Tryz
set_option maxRecDepth 100000
set_option maxHeartbeats 4000000
def cI(n:Nat):AB:=.row 3 1 [.int .i64 n]
def cB(b:Bool):AB:=.row 4 1 [.bool b]
def cF(f:AV):AB:=.row 162 1 [f]
section
variable {mem:aP} {σ:List (Nat × Nat)}
theorem HH{F:FuncId}{i:Nat}(h:lk σ i=some i):tE mem σ [.fn (.func F) [] [.ptr i 0 0]] [.fn (.func F) [] [.ptr i 0 0]]:=
 .cons (.one rfl rfl (.fn _ _ _ _ _ rfl rfl (by simp) (kU.cons (.ptr i i 0 0 h) .nil).2)) .nil
theorem sZ{F:FuncId}{i j:Nat}(h:lk σ i=some i)(h':lk σ j=some j):tE mem σ [.fn (.func F) [] [.ptr i 0 0,.ptr j 0 0]] [.fn (.func F) [] [.ptr i 0 0,.ptr j 0 0]]:=
 .cons (.one rfl rfl (.fn _ _ _ _ _ rfl rfl (by simp) (kU.cons (.ptr i i 0 0 h) (.cons (.ptr j j 0 0 h') .nil)).2)) .nil
theorem DY{F:FuncId}{i j k:Nat}(h:lk σ i=some i)(h':lk σ j=some j)(h'':lk σ k=some k):tE mem σ [.fn (.func F) [] [.ptr i 0 0,.ptr j 0 0,.ptr k 0 0]] [.fn (.func F) [] [.ptr i 0 0,.ptr j 0 0,.ptr k 0 0]]:=
 .cons (.one rfl rfl (.fn _ _ _ _ _ rfl rfl (by simp) (kU.cons (.ptr i i 0 0 h) (.cons (.ptr j j 0 0 h') (.cons (.ptr k k 0 0 h'') .nil))).2)) .nil
end
def Si(n:Nat):aP:=[(0,cI n),(1,cF (.fn (.func 105) [] [.ptr 0 0 0])),(2,cF (.fn (.func 118) [] [.ptr 1 0 0,.ptr 2 0 0]))]
theorem LD(g:Nat->Nat->Nat)(hg:∀n d,g n d<=max (n+1) d)
  (hsee:∀(v:a6) (d n:Nat),d<=1099511627776->n<=4398046511104->aH prog [] 105 [bS v,.int .i64 d,.ptr 0 0 0] [(0,cI n)] 1 fun r m _=>r = .bool true/\m=[(0,cI (g n d))]) :
  ∀(v:a6) (d n:Nat),d+iM v<=1099511627776->max n (d+iM v)+bF v<=4398046511104 ->
   aH prog [] 118 [bS v,.int .i64 d,.ptr 1 0 0,.ptr 2 0 0] (Si n) 3 fun r m _=>r = .bool true/\m=Si (zU g v d n)
 | .mk vk vn vs ks,d,n,hd,hb=>by
  have ih:∀a∈ks,∀(d n:Nat),d+iM a<=1099511627776->max n (d+iM a)+bF a<=4398046511104->aH prog [] 118 [bS a,.int .i64 d,.ptr 1 0 0,.ptr 2 0 0] (Si n) 3 fun r m _=>r = .bool true/\m=Si (zU g a d n):=
   fun a hm d n h1 h2=>LD g hg hsee a d n h1 h2
  simp only[iM,bF] at hd hb;have hlen:=Al ks;have hgn:=hg n d;refine aK bG func118 rfl ?_;refine Rr ?_;refine aH.useI bG [0] (hsee (.mk vk vn vs ks) d n om om) (by rfl) (.s (.s (.cons (.ptr 0 0 0 0 rfl) .nil))) ⟨aL 0 dE,trivial⟩ rfl ?_;rintro r m n' ⟨rfl,rfl⟩;refine⟨nn,⟨aL 0 dE,trivial⟩,rfl, ?_⟩;refine Rr ?_;refine bC.at bG (fun k:Nat=>k<=ks.length)
   (fun k=>⟨[(1,.int .i64 d),(3,.ptr 2 0 0),(15,.il 4 (aQ ks)),(16,.int .i64 (aQ ks).length),(17,.int .i64 k)],Si (uC g (ks.take k) (d+1) (g n d)),3,28⟩)
   (fun k=>ks.length-k) 0 [(0,0),(1,1),(2,2)] (by simp)
   (aG _ rfl ⟨aL 0 dE,⟨1,_,rfl,rfl,HH rfl⟩,⟨2,_,rfl,rfl,sZ rfl rfl⟩,trivial⟩ ⟨aF,aJ,aF,aF,aF,trivial⟩) ?_
  intro k hk;have hrl:=Fv hg (ks.take k) (d+1) (g n d);refine Rr ?_;refine aI (fun h=>?_) (fun h=>?_)
  ·have hlt:=G7 h;obtain⟨a,b,c,e,hm,hg',he,e1⟩:=bT hlt;have hst:=pV hlt;have hdt:=IH hlt;rw[he] at hst hdt;have hst':=j9 ks (k+1);have hdm:=x6 hm;have hdk:fO (ks.take k)<=fO ks:=CV ks k;have hrt:=MB g hlt (d+1) (g n d);rw[he] at hrt;refine Rr ?_;refine aD e1 ?_;refine Rr ?_;rw[w64 (x:=(d:Int)+1) (y:=((d+1:Nat):Int)) om ⟨om,om⟩];refine aH.useI bG [0,1,2] (ih _ hm (d+1) (uC g (ks.take k) (d+1) (g n d)) om om) (by rfl) (.s (.s (.cons (.ptr 1 1 0 0 rfl) (.cons (.ptr 2 2 0 0 rfl) .nil))))
    ⟨aL 0 dE,⟨1,_,rfl,rfl,HH rfl⟩,⟨2,_,rfl,rfl,sZ rfl rfl⟩,trivial⟩ rfl ?_
   rintro r m n' ⟨rfl,rfl⟩;refine⟨nn,⟨aL 0 dE,⟨1,_,rfl,rfl,HH rfl⟩,⟨2,_,rfl,rfl,sZ rfl rfl⟩,trivial⟩,rfl, ?_⟩;rw[←hrt];refine Rr ?_;exact .mk (k+1) [(0,0),(1,1),(2,2)] om
    (aG _ rfl ⟨aL 0 dE,⟨1,_,rfl,rfl,HH rfl⟩,⟨2,_,rfl,rfl,sZ rfl rfl⟩,trivial⟩ ⟨aF,aJ,aF,aF,⟨_,rfl,.w64 om ⟨om,om⟩⟩,trivial⟩) om
  ·have hk':k=ks.length:=by have:=IJ h;omega
   refine Rr ?_;refine bJ (n':=3) (m':=Si (uC g (ks.take k) (d+1) (g n d))) [(0,0),(1,1),(2,2)] rfl ⟨aL 0 dE,⟨1,_,rfl,rfl,HH rfl⟩,⟨2,_,rfl,rfl,sZ rfl rfl⟩,trivial⟩ (.same _ nn) ⟨rfl, ?_⟩;rw[hk',Vr,zU]
 termination_by v=>SizeOf.sizeOf v
 decreasing_by simp;have:=Wo hm;omega
end Go.Proofs.YtioogodkiglceaaGreatDoor
namespace Go.Proofs.YtioogodkiglceaaGreatDoor
open Go Go.Ax Go.Proofs Tryz
set_option maxRecDepth 100000
set_option maxHeartbeats 4000000
section
variable {mem:aP} {σ:List (Nat × Nat)}
theorem Se{F:FuncId}{i i':Nat}(h:lk σ i=some i'):tE mem σ [.fn (.func F) [] [.ptr i 0 0]] [.fn (.func F) [] [.ptr i' 0 0]]:=
 .cons (.one rfl rfl (.fn _ _ _ _ _ rfl rfl (by simp) (kU.cons (.ptr i i' 0 0 h) .nil).2)) .nil
theorem Nk{F:FuncId}{i j i' j':Nat}(h:lk σ i=some i')(h':lk σ j=some j'):tE mem σ [.fn (.func F) [] [.ptr i 0 0,.ptr j 0 0]] [.fn (.func F) [] [.ptr i' 0 0,.ptr j' 0 0]]:=
 .cons (.one rfl rfl (.fn _ _ _ _ _ rfl rfl (by simp) (kU.cons (.ptr i i' 0 0 h) (.cons (.ptr j j' 0 0 h') .nil)).2)) .nil
theorem SQ{F:FuncId}{i j k i' j' k':Nat}(h:lk σ i=some i')(h':lk σ j=some j')(h'':lk σ k=some k'):tE mem σ [.fn (.func F) [] [.ptr i 0 0,.ptr j 0 0,.ptr k 0 0]] [.fn (.func F) [] [.ptr i' 0 0,.ptr j' 0 0,.ptr k' 0 0]]:=
 .cons (.one rfl rfl (.fn _ _ _ _ _ rfl rfl (by simp) (kU.cons (.ptr i i' 0 0 h) (.cons (.ptr j j' 0 0 h') (.cons (.ptr k k' 0 0 h'') .nil))).2)) .nil
theorem U3{F:FuncId}{i i':Nat}(h:lk σ i=some i'):Cv mem σ (.fn (.func F) [] [.ptr i 0 0]) (.fn (.func F) [] [.ptr i' 0 0]):=
 .fn _ _ _ _ _ rfl rfl (by simp) (kU.cons (.ptr i i' 0 0 h) .nil).2
theorem Uo{F:FuncId}{i j k i' j' k':Nat}(h:lk σ i=some i')(h':lk σ j=some j')(h'':lk σ k=some k'):Cv mem σ (.fn (.func F) [] [.ptr i 0 0,.ptr j 0 0,.ptr k 0 0]) (.fn (.func F) [] [.ptr i' 0 0,.ptr j' 0 0,.ptr k' 0 0]):=
 .fn _ _ _ _ _ rfl rfl (by simp) (kU.cons (.ptr i i' 0 0 h) (.cons (.ptr j j' 0 0 h') (.cons (.ptr k k' 0 0 h'') .nil))).2
end
theorem Us:∀(v:a6) (d n:Nat),d<=1099511627776->n<=4398046511104->aH prog [] 105 [bS v,.int .i64 d,.ptr 0 0 0] [(0,cI n)] 1 fun r m _=>r = .bool true/\m=[(0,cI (n+1))]
 | .mk vk vn vs ks,d,n,hd,hn=>by
  refine aK bG func105 rfl ?_;refine Rr ?_;exact bJ (n':=1) (m':=[(0,cI (n+1))]) [(0,0)] rfl ⟨⟨0,_,rfl,rfl,.cons (.one rfl rfl (.w64 om ⟨om,om⟩)) .nil⟩,trivial⟩ (.same _ nn) ⟨rfl,rfl⟩
theorem QT:∀(v:a6) (n:Nat),1+iM v<=1099511627776->max n (1+iM v)+bF v<=4398046511104 ->
   aH prog [] 101 [bS v,.fn (.func 105) [] [.ptr 0 0 0]] [(0,cI n)] 1 fun r m _=>r = .tup []/\m=[(0,cI (zU (fun n _=>n+1) v 1 n))]
 | .mk vk vn vs ks,n,hd,hb=>by
  have hw:=LD (fun n _=>n+1) (fun n d=>om) Us (.mk vk vn vs ks) 1 n hd hb;generalize zU (fun n _=>n+1) (.mk vk vn vs ks) 1 n=res at hw;refine aK bG func101 rfl ?_;refine Rr ?_;refine aH.useR bG [(0,0),(2,1),(3,2)] hw (by rfl) (.s (.cons (.int rfl) (.cons (.ptr 2 1 0 0 rfl) (.cons (.ptr 3 2 0 0 rfl) .nil))))
   ⟨aL 0 dE,⟨2,_,rfl,rfl,Se rfl⟩,⟨3,_,rfl,rfl,Nk rfl rfl⟩,trivial⟩ rfl ?_
  rintro r m n' ⟨rfl,rfl⟩;refine⟨[(0,cI res)],nn,⟨aL 0 dE,trivial⟩,rfl, ?_⟩;refine Rr ?_;exact bJ (n':=1) (m':=[(0,cI res)]) [(0,0)] rfl ⟨aL 0 dE,trivial⟩ (.same _ nn) ⟨rfl,rfl⟩
theorem UA:∀v:a6,bF v<=1048576->bB prog [] 71 [bS v] (.int .i64 (bF v))
 | .mk vk vn vs ks,hs=>by
  have hd:=qN (.mk vk vn vs ks);have hw:=QT (.mk vk vn vs ks) 0 om om;rw[show zU (fun n _=>n+1) (.mk vk vn vs ks) 1 0=bF (.mk vk vn vs ks) by rw[IQ];omega] at hw;generalize bF (.mk vk vn vs ks)=res at hw;refine aK bG func71 rfl ?_;refine Rr ?_;refine aH.useR bG [(1,0)] hw (by rfl) (.s (.cons (U3 rfl) .nil)) ⟨aL 1 dE,trivial⟩ rfl ?_;rintro r m n' ⟨rfl,rfl⟩;refine⟨[(1,cI res)],nn,⟨aL 0 dE,trivial⟩,rfl, ?_⟩;refine Rr ?_;exact aA nn ⟨rfl,rfl,rfl⟩
abbrev VS:=Nat × Bool × Bool
def vC(x:VS):aP:=[(0,cI x.1),(1,cB x.2.1),(2,cB x.2.2)]
def wV(x:VS):aP:=[(0,cI x.1),(1,cB x.2.1),(2,cB x.2.2),(3,cF (.fn (.func 102) [] [.ptr 0 0 0,.ptr 1 0 0,.ptr 2 0 0])),(4,cF (.fn (.func 118) [] [.ptr 3 0 0,.ptr 4 0 0]))]
theorem Uq(vk vn:Int)(vs:List UInt8)(ks:List a6)(hs:vs.length<=4294967296)(d:Nat)(x:VS)(hx:x.1<=4398046511104) :
  aH prog [] 102 [bS (.mk vk vn vs ks),.int .i64 d,.ptr 0 0 0,.ptr 1 0 0,.ptr 2 0 0] (vC x) 3 fun r m _=>r = .bool (dL x (.mk vk vn vs ks) d).1/\m=vC (dL x (.mk vk vn vs ks) d).2:=by
 obtain⟨n,g,s⟩:=x;have h1:=QS vk vn vs ks hs;have h2:=Tf vk vn vs ks;have hst:dL (n,g,s) (.mk vk vn vs ks) d=(g && cX vk vn vs ks.length,(n+1,g && cX vk vn vs ks.length,s && xB vk ks.length)):=rfl;generalize cX vk vn vs ks.length=fb at h1 hst;generalize xB vk ks.length=tb at h2 hst;rw[hst];simp only at hx;refine aK bG func102 rfl ?_;cases g<;>cases s
 all_goals
  refine Rr ?_;try(refine h1.go ?_;refine Rr ?_)
  try(refine h2.go ?_;refine Rr ?_)
  exact bJ (n':=3) (m':=vC (n+1,_,_)) [(0,0),(1,1),(2,2)] rfl ⟨⟨0,_,rfl,rfl,.cons (.one rfl rfl (.w64 om ⟨om,om⟩)) .nil⟩,aL 1 dE,aL 2 dE,trivial⟩ (.same _ nn) ⟨rfl,rfl⟩
theorem NM:∀(v:a6) (d:Nat) (x:VS),gH v->d+iM v<=1099511627776->x.1+bF v<=4398046511104 ->
   aH prog [] 118 [bS v,.int .i64 d,.ptr 3 0 0,.ptr 4 0 0] (wV x) 5 fun r m _=>r = .bool (n9 dL v d x).1/\m=wV (n9 dL v d x).2
 | .mk vk vn vs ks,d,x,hok,hd,hb=>by
  simp only[gH] at hok;obtain⟨hv1,hv2,hv3,hv4,hv5⟩:=hok;have ih:∀a∈ks,∀(d:Nat) (x:VS),d+iM a<=1099511627776->x.1+bF a<=4398046511104->aH prog [] 118 [bS a,.int .i64 d,.ptr 3 0 0,.ptr 4 0 0] (wV x) 5 fun r m _=>r = .bool (n9 dL a d x).1/\m=wV (n9 dL a d x).2:=
   fun a hm d x h1 h2=>NM a d x (i8 hv5 a hm) h1 h2
  simp only[iM,bF] at hd hb;have hlen:=Al ks;have hsee:=Uq vk vn vs ks hv3 d x om;have hy1:(dL x (.mk vk vn vs ks) d).2.1=x.1+1:=rfl;generalize hst0:dL x (.mk vk vn vs ks) d=st at hsee hy1;obtain⟨b,y⟩:=st;simp only at hy1;refine aK bG func118 rfl ?_;refine Rr ?_;refine aH.useI bG [0,1,2] hsee (by rfl) (.s (.s (.cons (.ptr 0 0 0 0 rfl) (.cons (.ptr 1 1 0 0 rfl) (.cons (.ptr 2 2 0 0 rfl) .nil))))) ⟨aL 0 dE,aL 1 dE,aL 2 dE,trivial⟩ rfl ?_;rintro r m n' ⟨rfl,rfl⟩;refine⟨nn,⟨aL 0 dE,aL 1 dE,aL 2 dE,trivial⟩,rfl, ?_⟩;cases b with
  | false=>
   refine Rr ?_;refine bJ (n':=5) (m':=wV y) [(0,0),(1,1),(2,2),(3,3),(4,4)] rfl ⟨aL 0 dE,aL 1 dE,aL 2 dE,⟨3,_,rfl,rfl,DY rfl rfl rfl⟩,⟨4,_,rfl,rfl,sZ rfl rfl⟩,trivial⟩ (.same _ nn) ?_;have hvis:n9 dL (.mk vk vn vs ks) d x=(false,y):=by rw[n9,hst0]
   rw[hvis];exact⟨rfl,rfl⟩
  | true=>
   have hvis:n9 dL (.mk vk vn vs ks) d x=pG dL ks (d+1) y:=by rw[n9,hst0]
   refine Rr ?_;refine bC.at bG (fun a:Nat × VS=>a.1<=ks.length/\pG dL (ks.take a.1) (d+1) y=(true,a.2))
    (fun a=>⟨[(1,.int .i64 d),(3,.ptr 4 0 0),(15,.il 4 (aQ ks)),(16,.int .i64 (aQ ks).length),(17,.int .i64 a.1)],wV a.2,5,28⟩)
    (fun a=>ks.length-a.1) (0,y) [(0,0),(1,1),(2,2),(3,3),(4,4)] ⟨by simp,rfl⟩
    (aG _ rfl ⟨aL 0 dE,aL 1 dE,aL 2 dE,⟨3,_,rfl,rfl,DY rfl rfl rfl⟩,⟨4,_,rfl,rfl,sZ rfl rfl⟩,trivial⟩ ⟨aF,aJ,aF,aF,aF,trivial⟩) ?_
   rintro⟨k,z⟩ ⟨hk,hz⟩;simp only at hk hz;have hcnt:=B3 (ks.take k) (d+1) y;rw[hz] at hcnt;simp only at hcnt;refine Rr ?_;refine aI (fun h=>?_) (fun h=>?_)
   ·have hlt:k<ks.length:=G7 h;obtain⟨a,b,c,e,hm,hg',he,e1⟩:=bT hlt;have hst:=pV hlt;rw[he] at hst;have hst':=j9 ks (k+1);have hdm:=x6 hm;have hnext:=Ln dL hlt (d+1) y z hz;rw[he] at hnext;have hb2:z.1+bF (.mk a b c e)<=4398046511104:=om;have hih:=ih _ hm (d+1) z om hb2;generalize n9 dL (.mk a b c e) (d+1) z=st2 at hih hnext;obtain⟨b2,z2⟩:=st2;refine Rr ?_;refine aD e1 ?_;refine Rr ?_;rw[w64 (x:=(d:Int)+1) (y:=((d+1:Nat):Int)) om ⟨om,om⟩];refine aH.useI bG [0,1,2,3,4] hih (by rfl) (.s (.s (.cons (.ptr 3 3 0 0 rfl) (.cons (.ptr 4 4 0 0 rfl) .nil))))
     ⟨aL 0 dE,aL 1 dE,aL 2 dE,⟨3,_,rfl,rfl,DY rfl rfl rfl⟩,⟨4,_,rfl,rfl,sZ rfl rfl⟩,trivial⟩ rfl ?_
    rintro r m n' ⟨rfl,rfl⟩;refine⟨nn,⟨aL 0 dE,aL 1 dE,aL 2 dE,⟨3,_,rfl,rfl,DY rfl rfl rfl⟩,⟨4,_,rfl,rfl,sZ rfl rfl⟩,trivial⟩,rfl, ?_⟩;cases b2 with
    | false=>
     refine Rr ?_;refine bJ (n':=5) (m':=wV z2) [(0,0),(1,1),(2,2),(3,3),(4,4)] rfl ⟨aL 0 dE,aL 1 dE,aL 2 dE,⟨3,_,rfl,rfl,DY rfl rfl rfl⟩,⟨4,_,rfl,rfl,sZ rfl rfl⟩,trivial⟩ (.same _ nn) ?_;have:=FK dL (m:=ks.drop (k+1)) hnext;rw[List.take_append_drop] at this;rw[hvis,this];exact⟨rfl,rfl⟩
    | true=>
     refine Rr ?_;exact .mk (k+1,z2) [(0,0),(1,1),(2,2),(3,3),(4,4)] ⟨by simp only;omega,hnext⟩
      (aG _ rfl ⟨aL 0 dE,aL 1 dE,aL 2 dE,⟨3,_,rfl,rfl,DY rfl rfl rfl⟩,⟨4,_,rfl,rfl,sZ rfl rfl⟩,trivial⟩ ⟨aF,aJ,aF,aF,⟨_,rfl,.w64 om ⟨om,om⟩⟩,trivial⟩) (by simp only;omega)
   ·have hk':k=ks.length:=by have:=IJ h;omega
    refine Rr ?_;refine bJ (n':=5) (m':=wV z) [(0,0),(1,1),(2,2),(3,3),(4,4)] rfl ⟨aL 0 dE,aL 1 dE,aL 2 dE,⟨3,_,rfl,rfl,DY rfl rfl rfl⟩,⟨4,_,rfl,rfl,sZ rfl rfl⟩,trivial⟩ (.same _ nn) ?_;rw[hk',Vr] at hz;rw[hvis,hz];exact⟨rfl,rfl⟩
 termination_by v=>SizeOf.sizeOf v
 decreasing_by simp;have:=Wo hm;omega
theorem PB:∀(v:a6) (x:VS),gH v->1+iM v<=1099511627776->x.1+bF v<=4398046511104 ->
   aH prog [] 101 [bS v,.fn (.func 102) [] [.ptr 0 0 0,.ptr 1 0 0,.ptr 2 0 0]] (vC x) 3 fun r m _=>r = .tup []/\m=vC (n9 dL v 1 x).2
 | .mk vk vn vs ks,x,hok,hd,hb=>by
  have hw:=NM (.mk vk vn vs ks) 1 x hok hd hb;generalize n9 dL (.mk vk vn vs ks) 1 x=st at hw;obtain⟨b,y⟩:=st;refine aK bG func101 rfl ?_;refine Rr ?_;refine aH.useR bG [(0,0),(1,1),(2,2),(4,3),(5,4)] hw (by rfl) (.s (.cons (.int rfl) (.cons (.ptr 4 3 0 0 rfl) (.cons (.ptr 5 4 0 0 rfl) .nil))))
   ⟨aL 0 dE,aL 1 dE,aL 2 dE,⟨4,_,rfl,rfl,SQ rfl rfl rfl⟩,⟨5,_,rfl,rfl,Nk rfl rfl⟩,trivial⟩ rfl ?_
  rintro r m n' ⟨rfl,rfl⟩;refine⟨[(0,cI y.1),(1,cB y.2.1),(2,cB y.2.2)],nn,⟨aL 0 dE,aL 1 dE,aL 2 dE,trivial⟩,rfl, ?_⟩;refine Rr ?_;exact bJ (n':=3) (m':=vC y) [(0,0),(1,1),(2,2)] rfl ⟨aL 0 dE,aL 1 dE,aL 2 dE,trivial⟩ (.same _ nn) ⟨rfl,rfl⟩
theorem JY:∀v:a6,gH v->bF v<=1048576->bB prog [] 70 [bS v] (.int .i64 (fL v))
 | .mk vk vn vs ks,hok,hs=>by
  have hd:=qN (.mk vk vn vs ks);have hw:=PB (.mk vk vn vs ks) (0,true,true) hok om (by simp only;omega);have hval:=Ly (.mk vk vn vs ks);generalize fL (.mk vk vn vs ks)=res at hval;generalize (n9 dL (.mk vk vn vs ks) 1 (0,true,true)).2=y at hw hval;obtain⟨n,g,s⟩:=y;simp only at hval;refine aK bG func70 rfl ?_;refine Rr ?_;refine aH.useR bG [(1,0),(2,1),(3,2)] hw (by rfl) (.s (.cons (Uo rfl rfl rfl) .nil)) ⟨aL 1 dE,aL 2 dE,aL 3 dE,trivial⟩ rfl ?_;rintro r m n' ⟨rfl,rfl⟩;refine⟨[(1,cI n),(2,cB g),(3,cB s)],nn,⟨aL 0 dE,aL 1 dE,aL 2 dE,trivial⟩,rfl, ?_⟩;cases g with
  | false=>
   refine Rr ?_;refine aA nn ⟨?_,rfl,rfl⟩;rw[←hval];rfl
  | true=>
   cases s with
   | false=>
    refine Rr ?_;refine aA nn ⟨?_,rfl,rfl⟩;rw[←hval];simp
   | true=>
    refine Rr ?_;refine aI (fun h=>?_) (fun h=>?_)
    ·refine Rr ?_;refine aA nn ⟨?_,rfl,rfl⟩;rw[←hval,VY (by simp),Vb (by simp at h;omega)]
    ·refine Rr ?_;refine aA nn ⟨?_,rfl,rfl⟩;rw[←hval,VY (by simp),VY (by simp at h;simp;omega)]
end Go.Proofs.YtioogodkiglceaaGreatDoor
namespace Go.Ax
open Go
end Go.Ax
namespace Go.Ax
open Go
def jS(n:Nat):List UInt8:=if _h:n<128 then [UInt8.ofNat n] else UInt8.ofNat (128+n%128)::jS (n/128)
termination_by n
def MY(n:Int):Nat:=if n<0 then 2*(-(n+1)).toNat+1 else 2*n.toNat
def Uw(u:Nat):Int:=if u%2=1 then -((u/2:Nat):Int)-1 else((u/2:Nat):Int)
theorem rU{n:Nat}(h:n<128):jS n=[UInt8.ofNat n]:=by rw[jS,dif_pos h]
theorem Dr{n:Nat}(h:¬n<128):jS n=UInt8.ofNat (128+n%128)::jS (n/128):=by rw[jS,dif_neg h]
theorem Fw{n:Int}(h:i64 n):MY n<18446744073709551616:=by
 unfold MY;unfold i64 at h;split<;>omega
theorem Pb(n:Int):Uw (MY n)=n:=by
 unfold Uw MY;split<;>split<;>omega
theorem IT:∀(k n:Nat),n<128 ^ (k+1)->(jS n).length<=k+1
 | 0,n,h=>by rw[rU (by simpa using h)];simp
 | k+1,n,h=>by
  by_cases hn:n<128
  ·rw[rU hn];simp
  ·rw[Dr hn];have:=IT k (n/128) (by rw[Nat.div_lt_iff_lt_mul om];rw[Nat.pow_succ] at h;exact h);simp;omega
theorem jE{n:Nat}(h:n<18446744073709551616):(jS n).length<=10:=by
 refine IT 9 n ?_;have:(128:Nat) ^ (9+1)=1180591620717411303424:=by decide
 omega
def Qq:List UInt8->Nat->Nat->Sum Int (Nat × List UInt8)
 | [],_,_=>.inl 3
 | b::r,i,n=>if (i=9/\1<b.toNat)∨(0<i/\b.toNat=0) then .inl 2 else if b.toNat<128 then .inr (n+b.toNat*2 ^ (7*i),r) else Qq r (i+1) (n+(b.toNat-128)*2 ^ (7*i))
theorem Nl:∀(u i n:Nat) (t:List UInt8),i<=9->u*2 ^ (7*i)<18446744073709551616->(i=0∨0<u)->Qq (jS u++t) i n = .inr (n+u*2 ^ (7*i),t):=by
 intro u
 induction u using Nat.strongRecOn with
 | _ u ih=>
  intro i n t hi hu h0;have h9:i=9->u<=1:=by
   intro e;subst e;have:(2:Nat) ^ (7*9)=9223372036854775808:=by decide
   rw[this] at hu;omega
  by_cases hs:u<128
  ·rw[rU hs];have e:(UInt8.ofNat u).toNat=u:=by simp;omega
   show Qq (UInt8.ofNat u::t) i n=_
   simp only[Qq,e];rw[VY (by
    rintro(⟨h1,h2⟩|⟨h1,h2⟩)
    ·have:=h9 h1;omega
    ·omega),Vb hs]
  ·rw[Dr hs];have e:(UInt8.ofNat (128+u%128)).toNat=128+u%128:=by simp;omega
   show Qq (UInt8.ofNat (128+u%128)::(jS (u/128)++t)) i n=_
   simp only[Qq,e];have hne:i≠9:=by intro h;have:=h9 h;omega
   have hp:(2:Nat) ^ (7*(i+1))=128*2 ^ (7*i):=by rw[show 7*(i+1)=7*i+7 by omega,Nat.pow_add];omega
   rw[VY om,VY om,ih (u/128) om (i+1) _ t om (by
    rw[hp,←Nat.mul_assoc];refine Nat.lt_of_le_of_lt (Vz _ ?_) hu;omega) (.inr om)]
   congr 2;rw[hp,←Nat.mul_assoc,show 128+u%128-128=u%128 by omega,Nat.add_assoc,←Nat.add_mul];congr 2;omega
theorem RT{u:Nat}(t:List UInt8)(h:u<18446744073709551616):Qq (jS u++t) 0 0 = .inr (u,t):=by
 have:=Nl u 0 0 t om (by simpa using h) (.inl rfl);simpa using this
abbrev Rd:=List UInt8 × Int
def tO(x:Rd):Nat × Rd:=if x.2=0 then(match Qq x.1 0 0 with | .inl e=>(0,(x.1,e)) | .inr (u,t)=>(u,(t,0))) else(0,x)
def Td(x:Rd):Int × Rd:=(Uw (tO x).1,(tO x).2)
def KA(x:Rd):Nat × Rd:=if (tO x).2.2=0 then(if (tO x).2.1.length<(tO x).1 then(0,((tO x).2.1,3)) else((tO x).1,(tO x).2)) else(0,(tO x).2)
def Qx(x:Rd):List UInt8 × Rd:=((KA x).2.1.take (KA x).1,((KA x).2.1.drop (KA x).1,(KA x).2.2))
def dC(n:Int):List UInt8:=jS (MY n)
theorem cW{n:Int}(h:i64 n):(dC n).length<=10:=jE (Fw h)
theorem iL{n:Nat}(h:n<=4611686018427387904):i64 (n:Int):=⟨om,om⟩
theorem Gt{n:Int}(h0:0<=n)(h1:n<18446744073709551616):IntKind.u64.wrap n=n:=by
 unfold IntKind.wrap;have e:(2 ^ IntKind.u64.bits:Int)=18446744073709551616:=by decide
 have s:IntKind.u64.signed=false:=rfl;simp only[e,s,Xh];exact Int.emod_eq_of_lt h0 h1
theorem fQ(n:Int):IntKind.u64.wrap n=n%18446744073709551616:=by
 unfold IntKind.wrap;have e:(2 ^ IntKind.u64.bits:Int)=18446744073709551616:=by decide
 have s:IntKind.u64.signed=false:=rfl;simp only[e,s,Xh];rfl
theorem A0(n:Int):IntKind.u8.wrap n=n%256:=by
 unfold IntKind.wrap;have e:(2 ^ IntKind.u8.bits:Int)=256:=by decide
 have s:IntKind.u8.signed=false:=rfl;simp only[e,s,Xh];rfl
theorem H7:(2:Nat) ^ 64=18446744073709551616:=by decide
theorem VD(a:Nat):(BitVec.ofInt 64 (a:Int)).toNat=a%18446744073709551616:=by
 rw[BitVec.ofInt_natCast,BitVec.toNat_ofNat]
theorem Of{a:Nat}(h:a<18446744073709551616):a ^^^ 18446744073709551615=18446744073709551615-a:=by
 have h1:(BitVec.ofNat 64 a ^^^ BitVec.allOnes 64).toNat=18446744073709551615-a:=by
  rw[BitVec.xor_allOnes,BitVec.toNat_not,BitVec.toNat_ofNat,H7,Wq h]
 rw[BitVec.toNat_xor,BitVec.toNat_ofNat,H7,Wq h] at h1;have h2:(BitVec.allOnes 64).toNat=18446744073709551615:=by decide
 rw[h2] at h1;exact h1
theorem OB{a b:Nat}(ha:a<18446744073709551616)(hb:b<18446744073709551616):a ^^^ b<18446744073709551616:=by
 have:=Nat.xor_lt_two_pow (n:=64) (x:=a) (y:=b) (by rw[H7];exact ha) (by rw[H7];exact hb)
 rwa [H7] at this
theorem H3{a b:Nat}(ha:a<18446744073709551616)(hb:b<18446744073709551616):bits .xor .u64 (a:Int) (b:Int)=((a ^^^ b:Nat):Int):=by
 show IntKind.u64.wrap ((BitVec.ofInt 64 (a:Int) ^^^ BitVec.ofInt 64 (b:Int)).toNat:Int)=_
 rw[BitVec.toNat_xor,VD,VD,Wq ha,Wq hb,Gt om (by have:=OB ha hb;omega)]
theorem M5{n:Int}(h:i64 n):bits .xor .u64 (IntKind.u64.wrap (IntKind.u64.wrap n*2 ^ (min (1:Int).toNat IntKind.u64.bits))) (IntKind.u64.wrap (n.fdiv (2 ^ (min (63:Int).toNat IntKind.i64.bits))))=(MY n:Int):=by
 have e1:min (1:Int).toNat IntKind.u64.bits=1:=by decide
 have e2:min (63:Int).toNat IntKind.i64.bits=63:=by decide
 have hz:=Fw h;rw[e1,e2];unfold i64 at h;by_cases hn:n<0
 ·have a:n.fdiv (2 ^ 63) = -1:=by
   rw[XB _ (by decide)];omega
  have b:IntKind.u64.wrap (-1)=((18446744073709551615:Nat):Int):=by rw[fQ];decide
  have c:IntKind.u64.wrap (IntKind.u64.wrap n*2 ^ 1)=((18446744073709551616+2*n).toNat:Int):=by
   rw[fQ,fQ];omega
  rw[a,b,c,H3 om om,Of om];have z:MY n=2*(-(n+1)).toNat+1:=by unfold MY;rw[Vb hn]
  rw[z];omega
 ·have a:n.fdiv (2 ^ 63)=0:=by
   rw[XB _ (by decide)];omega
  have b:IntKind.u64.wrap 0=((0:Nat):Int):=by rw[fQ];decide
  have c:IntKind.u64.wrap (IntKind.u64.wrap n*2 ^ 1)=((2*n.toNat:Nat):Int):=by
   rw[fQ,fQ];omega
  rw[a,b,c,H3 om om,Nat.xor_zero];have z:MY n=2*n.toNat:=by unfold MY;rw[VY hn]
  rw[z]
theorem LT(n:Nat):bits .or .u8 (IntKind.u8.wrap (n:Int)) 128=((UInt8.ofNat (128+n%128)).toNat:Int):=by
 have h:∀b:Fin 256,bits .or .u8 (b.val:Int) 128=((128+b.val%128:Nat):Int):=by decide +kernel
 have e:IntKind.u8.wrap (n:Int)=((n%256:Nat):Int):=by rw[A0];omega
 have:=h ⟨n%256,om⟩;simp only at this;rw[e,this];have e2:(UInt8.ofNat (128+n%128)).toNat=128+n%128:=by simp;omega
 rw[e2];omega
theorem ML{n:Nat}(h:n<128):IntKind.u8.wrap (n:Int)=((UInt8.ofNat n).toNat:Int):=by
 rw[A0];have e2:(UInt8.ofNat n).toNat=n:=by simp;omega
 rw[e2];omega
theorem U2(n:Nat):(n:Int).fdiv (2 ^ (min (7:Int).toNat IntKind.u64.bits))=((n/128:Nat):Int):=by
 have e1:min (7:Int).toNat IntKind.u64.bits=7:=by decide
 rw[e1,XB _ (by decide)];omega
end Go.Ax
