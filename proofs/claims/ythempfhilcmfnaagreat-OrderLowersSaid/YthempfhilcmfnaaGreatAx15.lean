/- A part of the proof. -/
import Derived.Test.YthempfhilcmfnaaGreatAx14
import Derived.Test.YthempfhilcmfnaaGreatProg
set_option linter.unusedVariables false
set_option linter.unusedSimpArgs false
namespace Go.Proofs.YthempfhilcmfnaaGreat
open Go Go.Ax Go.Proofs Tryz
set_option maxRecDepth 100000
set_option maxHeartbeats 8000000
theorem Ic(l m:List bB)(hl:l.length<=4294967296)(hok:∀a∈l,iA a):a8 prog [] 97 [.il 4 (aT l),.il 4 (aT m)] (.bool (dU l m)):=by
 refine aL bC func97 rfl ?_;((conv=>whnf);repeat(refine Xg ?_;conv=>whnf));refine aO (fun h=>?_) (fun h=>?_)
 ·((conv=>whnf);repeat(refine Xg ?_;conv=>whnf));refine aA nn ⟨?_,rfl,rfl⟩;rw[aF,aF] at h;rw[BL (by simp at h;omega)]
 have hlen:l.length=m.length:=by rw[aF,aF] at h;simp at h;omega
 ((conv=>whnf);repeat(refine Xg ?_;conv=>whnf));refine a7.at bC (fun k:Nat=>k<=l.length/\dU l m=dU (l.drop k) (m.drop k))
  (fun k=>⟨[(0,.il 4 (aT l)),(1,.il 4 (aT m)),(5,.int .i64 k)],[],0,27⟩) (fun k=>l.length-k) 0 [] ⟨by simp,by simp⟩
  (bL ⟨aH,aH,aH,trivial⟩) ?_
 rintro k ⟨hk,hs⟩;((conv=>whnf);repeat(refine Xg ?_;conv=>whnf));refine aO (fun h=>?_) (fun h=>?_)
 ·have hlt:k<l.length:=FU h;obtain⟨p1,p2,p3,p4,pm,pg,pe,ep⟩:=cL (l:=l) (k:=k) hlt;obtain⟨q1,q2,q3,q4,qm,qg,qe,eq⟩:=cL (l:=m) (k:=k) (by omega);have hc:=wM (.mk p1 p2 p3 p4) (.mk q1 q2 q3 q4) (hok _ pm);rw[SH hlt,SH (show k<m.length by omega),pe,qe,dU] at hs;generalize cN (.mk p1 p2 p3 p4) (.mk q1 q2 q3 q4)=c at hc hs;((conv=>whnf);repeat(refine Xg ?_;conv=>whnf));repeat((first|refine aC ep ?_|refine aC eq ?_|refine aD ?_);(conv=>whnf);repeat(refine Xg ?_;conv=>whnf))
  refine hc.go ?_;((conv=>whnf);repeat(refine Xg ?_;conv=>whnf));repeat((first|refine aC ep ?_|refine aC eq ?_|refine aD ?_);(conv=>whnf);repeat(refine Xg ?_;conv=>whnf))
  refine aO (fun h=>?_) (fun h=>?_)
  ·((conv=>whnf);repeat(refine Xg ?_;conv=>whnf));refine aA nn ⟨?_,rfl,rfl⟩;rw[hs,R4 (by simpa using h)];rfl
  ·((conv=>whnf);repeat(refine Xg ?_;conv=>whnf));refine .mk (k+1) [] ⟨by omega, ?_⟩ (bL ⟨aH,aH,⟨_,rfl,.wo⟩,trivial⟩) (by omega);rw[hs,Rs (by simpa using h),Tv]
 ·have hge:l.length<=k:=Eu h;((conv=>whnf);repeat(refine Xg ?_;conv=>whnf));refine aA nn ⟨?_,rfl,rfl⟩;rw[hs,Sg (by omega),Sg (by omega),dU]
theorem N7(x:Nd)(ks:List bB):a8 prog [] 119 [bU x,.il 4 (aT ks)] (bT (dJ x.name ks)):=by
 obtain⟨kind,name,lo,hi,ws,ls,vals,kids,⟨vk,vn,vs,vks⟩⟩:=x;refine aL bC func119 rfl ?_;((conv=>whnf);repeat(refine Xg ?_;conv=>whnf));refine aO (fun h=>?_) (fun h=>?_)
 ·have h:name=[]:=by simpa using h
  ((conv=>whnf);repeat(refine Xg ?_;conv=>whnf));exact bF (r':=bT (.mk 2 0 [] ks)) (.same _ nn) ⟨by rw[dJ,Rx h],rfl,rfl⟩
 ·have h:¬name=[]:=by simpa using h
  ((conv=>whnf);repeat(refine Xg ?_;conv=>whnf));exact bF (r':=bT (.mk 3 0 name ks)) (.same _ nn) ⟨by rw[dJ,Rp h],rfl,rfl⟩
theorem Nr(i:Nat)(x:Nd)(hi:i<=4294967296)(hx:rL x)(hvl:x.values.length<=4294967290):a8 prog [] 65 [.int .i64 i,bU x] (.int .i64 (fE i x)):=by
 have h1:=Js i x hi hx;have h2:=Ky x hx;have hval:∀a∈oI x,a8 prog [] 94 [bT a] (.int .i64 (fW a)):=by
  intro a ha;have key:iA a/\bH a<=4294967296:=by
   unfold oI at ha;rcases R5.1 ha with h|h
   ·split at h
    ·simp at h;rw[h];exact⟨hx.value,hx.valueS⟩
    ·cases h
   ·exact hx.valuesI a h
  exact OZ a key.1 (by omega)
 have hres:fE i x=if cV i x=false then 1 else if eQ (oI x)≠0 then eQ (oI x) else if dW x=false then 5 else 0:=rfl
 generalize fE i x=res at hres;generalize cV i x=fb at h1 hres;generalize dW x=nb at h2 hres;clear hx;obtain⟨kind,name,lo,hi,ws,ls,vals,kids,⟨vk,vn,vs,vks⟩⟩:=x;simp only at hvl;have hown:oI ⟨kind,name,lo,hi,ws,ls,vals,kids,.mk vk vn vs vks⟩=(if kind=0 then [bB.mk vk vn vs vks] else [])++vals:=rfl;generalize oI ⟨kind,name,lo,hi,ws,ls,vals,kids,.mk vk vn vs vks⟩=own at hval hres hown;have hol:own.length<=4294967291:=by rw[hown];split<;>simp<;>omega
 refine aL bC func65 rfl ?_;((conv=>whnf);repeat(refine Xg ?_;conv=>whnf));refine h1.go ?_ (.cons (.int _ _) (.cons (aW _) .nil));cases fb with
 | false=>
  ((conv=>whnf);repeat(refine Xg ?_;conv=>whnf));refine aA nn ⟨?_,rfl,rfl⟩;rw[hres,Rx rfl]
 | true=>
  ((conv=>whnf);repeat(refine Xg ?_;conv=>whnf));refine aO (fun h=>?_) (fun h=>?_)
  case' refine_1=>
   have hk:kind=0:=by simpa using h
   rw[Rx hk] at hown;((conv=>whnf);repeat(refine Xg ?_;conv=>whnf));refine aK (bP rfl rfl (by simp) (by simp[aF];omega)) ?_;((conv=>whnf);repeat(refine Xg ?_;conv=>whnf));refine a7.at bC (fun k:Nat=>k<=own.length/\eQ own=eQ (own.drop k))
    (fun k=>⟨[(3,.ptr 0 0 0),(6,.sl 1 0 own.length),(7,.int .i64 k)],[(0,.row 62 12 [bU ⟨kind,name,lo,hi,ws,ls,vals,kids,.mk vk vn vs vks⟩]),(1,.row 60 4 (aT own))],2,45⟩) (fun k=>own.length-k) 0 [(0,0),(3,1)] ⟨by simp,by simp⟩
    (aJ _ rfl ⟨⟨0,_,rfl,rfl,.same (.cons (aW _) .nil)⟩,⟨3,_,rfl,rfl,.eq dD (by rw[hown];rfl)⟩,trivial⟩ ⟨⟨_,rfl,.ptr 0 0 0 0 rfl⟩,⟨_,rfl,.slE rfl (by rw[hown];simp[aF];omega)⟩,aH,trivial⟩) ?_
  case' refine_2=>
   have hk:¬kind=0:=by simpa using h
   rw[Rp hk] at hown;((conv=>whnf);repeat(refine Xg ?_;conv=>whnf));refine aK (w9 rfl (by simp[aF];omega)) ?_;((conv=>whnf);repeat(refine Xg ?_;conv=>whnf));refine a7.at bC (fun k:Nat=>k<=own.length/\eQ own=eQ (own.drop k))
    (fun k=>⟨[(3,.ptr 0 0 0),(6,.sl 1 0 own.length),(7,.int .i64 k)],[(0,.row 62 12 [bU ⟨kind,name,lo,hi,ws,ls,vals,kids,.mk vk vn vs vks⟩]),(1,.row 60 4 (aT own))],2,45⟩) (fun k=>own.length-k) 0 [(0,0),(1,1)] ⟨by simp,by simp⟩
    (aJ _ rfl ⟨⟨0,_,rfl,rfl,.same (.cons (aW _) .nil)⟩,⟨1,_,rfl,rfl,.eq dD (by rw[hown];rfl)⟩,trivial⟩ ⟨⟨_,rfl,.ptr 0 0 0 0 rfl⟩,⟨_,rfl,.slE rfl (by rw[hown];simp[aF])⟩,aH,trivial⟩) ?_
  all_goals
   clear h hown hk;rintro k ⟨hk,hf⟩;((conv=>whnf);repeat(refine Xg ?_;conv=>whnf));refine aO (fun h=>?_) (fun h=>?_)
   ·have hlt:k<own.length:=by simpa using h
    obtain⟨p1,p2,p3,p4,pm,pg,pe,ep,bp⟩:=Nc (l:=own) (k:=k) (n:=own.length) hlt rfl;have hv:=hval _ pm;rw[SH hlt,pe,eQ] at hf;generalize fW (.mk p1 p2 p3 p4)=e at hv hf;((conv=>whnf);repeat(refine Xg ?_;conv=>whnf));repeat((first|refine aK bp ?_|refine aC ep ?_);(conv=>whnf);repeat(refine Xg ?_;conv=>whnf))
    refine hv.go ?_;((conv=>whnf);repeat(refine Xg ?_;conv=>whnf));refine aO (fun h=>?_) (fun h=>?_)
    ·have h:e≠0:=by simpa using h
     ((conv=>whnf);repeat(refine Xg ?_;conv=>whnf));refine aA nn ⟨?_,rfl,rfl⟩;rw[Rx h] at hf;rw[hres,Rp (by simp),hf,Rx h]
    ·have h:¬e≠0:=by simpa using h
     rw[Rp h] at hf;((conv=>whnf);repeat(refine Xg ?_;conv=>whnf));exact .mk (k+1) [(0,0),(1,1)] ⟨by omega,hf⟩ (aJ _ rfl ⟨⟨0,_,rfl,rfl,.same (.cons (aW _) .nil)⟩,⟨1,_,rfl,rfl,.same dD⟩,trivial⟩ ⟨⟨_,rfl,.ptr 0 0 0 0 rfl⟩,⟨_,rfl,.sl 1 1 0 _ rfl⟩,⟨_,rfl,.wo⟩,trivial⟩) (by omega)
   ·have hge:own.length<=k:=by simpa using h
    rw[Sg hge,eQ] at hf;((conv=>whnf);repeat(refine Xg ?_;conv=>whnf));refine h2.go ?_ (.cons (aW _) .nil);cases nb with
    | false=>
     ((conv=>whnf);repeat(refine Xg ?_;conv=>whnf));refine aA nn ⟨?_,rfl,rfl⟩;rw[hres,Rp (by simp),hf,Rp (by simp),Rx rfl]
    | true=>
     ((conv=>whnf);repeat(refine Xg ?_;conv=>whnf));refine aA nn ⟨?_,rfl,rfl⟩;rw[hres,Rp (by simp),hf,Rp (by simp),Rp (by simp)]
set_option maxHeartbeats 8000000
theorem Fg(bs:List Int)(x:Nd)(hx:rL x)(hbl:bs.length<=1000000)(hb:∀y∈bs,0<=y/\y<=1024)(hk:∀(j:Nat) (k:Int),x.kids[j]? = some k->0<=k/\k<bs.length)(h4:4<=x.kind->0<x.kids.length)(hkind:0<=x.kind/\x.kind<=4) :
  aM prog [] 66 [.sl 0 0 bs.length,bU x] [(0,.row 3 1 (aI bs))] 1 fun r m _=>∃(len:Nat) (ys:List AV),r = .sl 1 0 len/\m=[(1,.row 3 1 ys)]/\g9 ys/\(len=bs.length+1/\ys=aI (bs++[eU bs x])):=by
 have b1:=hx.kids;have b2:=hx.value;have b3:=hx.valueS;clear hx;have hat:=mA (b:=bs) (M:=1024) (by omega) hb;have hsum:=iO (b:=bs) (M:=1024) (by omega) hb;have hmost:=gA (b:=bs) (M:=1024) (by omega) hb;obtain⟨kind,name,lo,hi,ws,ls,vals,kids,⟨vk,vn,vs,vks⟩⟩:=x;simp only at b1 b2 b3 hk h4 hkind;have hfin:∀(v:Int) (m:aS) (n id:Nat) (e:Int),lk m id=some (.row 3 1 (aI bs++[.int .i64 e]))->1<=id->e=v->v=eU bs ⟨kind,name,lo,hi,ws,ls,vals,kids,.mk vk vn vs vks⟩ ->
   lE 1 (fun r m _=>∃(len:Nat) (ys:List AV),r = .sl 1 0 len/\m=[(1,.row 3 1 ys)]/\g9 ys/\(len=bs.length+1/\ys=aI (bs++[eU bs ⟨kind,name,lo,hi,ws,ls,vals,kids,.mk vk vn vs vks⟩]))) (.sl id 0 (bs.length+1)) m n:=by
  intro v m n id e hid h1 he hv;refine bK (n':=2) (m':=[(1,.row 3 1 (aI (bs++[v])))]) [(id,1)] ?_ ⟨⟨id,_,by simp[lk],hid,.eq (aG _) (by rw[he];simp[aI])⟩,trivial⟩ (.sl id 1 0 _ (by simp[lk])) ⟨_,_,rfl,rfl,aG _,rfl,by rw[hv]⟩;simp[jG,DL,iK,zD,x9]
 refine aL bC func66 rfl ?_;((conv=>whnf);repeat(refine Xg ?_;conv=>whnf));refine a7.at bC (fun k:Nat=>k<=kids.length)
  (fun k=>⟨[(0,.sl 0 0 bs.length),(3,.ptr 1 0 0),(5,.int .i64 (0+fC bs (kids.take k))),(6,.int .i64 (cR bs (if kind=2 then kids.take k else(kids.take k).drop 1))),(7,.int .i64 k)],[(0,.row 3 1 (aI bs)),(1,.row 62 12 [bU ⟨kind,name,lo,hi,ws,ls,vals,kids,.mk vk vn vs vks⟩])],2,74⟩) (fun k=>kids.length-k) 0 [(0,0),(1,1)] (by simp)
  (aJ _ rfl ⟨⟨0,_,rfl,rfl,.same dD⟩,⟨1,_,rfl,rfl,.same (.cons (aW _) .nil)⟩,trivial⟩ ⟨⟨_,rfl,.sl 0 0 0 _ rfl⟩,⟨_,rfl,.ptr 1 1 0 0 rfl⟩,⟨_,rfl,.int rfl⟩,⟨_,rfl,.int (by split<;>rfl)⟩,aH,trivial⟩) ?_
 intro k hkl;have hs1:=hsum (kids.take k);have hlen:(kids.take k).length=k:=by simp;omega
 rw[hlen] at hs1;((conv=>whnf);repeat(refine Xg ?_;conv=>whnf));refine aO (fun h=>?_) (fun h=>?_)
 ·have hlt:k<kids.length:=by rw[aE] at h;simpa using h
  have e1:(aI kids)[(k:Int).toNat]? = some (.int .i64 kids[k]):=by rw[Rq,bG,Rm hlt];rfl
  have hg:kids[k]? = some kids[k]:=Rm hlt;have hst:=tP (b:=bs) hlt;have hmt:=p5 (b:=bs) hlt;have hmd:=oC (b:=bs) hlt;generalize kids[k]=q at e1 hg hst hmt hmd;obtain⟨q1,q2⟩:=hk k q hg;have hq:=hat q;obtain⟨qn,rfl⟩:=R7 q1;have hqn:qn<bs.length:=by omega
  have e2:(aI bs)[0+(qn:Int).toNat]? = some (.int .i64 (Go.Ax.d7 bs qn)):=by rw[SF,Rq,bG,Rm hqn];simp[Go.Ax.d7,hqn]
  have bq:Nat.blt (qn:Int).toNat bs.length=true:=Ru (by simp;omega);generalize Go.Ax.d7 bs qn=av at e2 hst hmt hmd hq;((conv=>whnf);repeat(refine Xg ?_;conv=>whnf));repeat((first|refine aC e1 ?_|refine aK bq ?_|refine aC e2 ?_);(conv=>whnf);repeat(refine Xg ?_;conv=>whnf))
  have hw:IntKind.i64.wrap (0+fC bs (kids.take k)+av)=0+fC bs (kids.take (k+1)):=w64 (by omega) ⟨by omega,by omega⟩;refine aO (fun h=>?_) (fun h=>?_)
  ·have h2:kind=2:=by simpa using h
   rw[h];((conv=>whnf);repeat(refine Xg ?_;conv=>whnf));exact .mk (k+1) [(0,0),(1,1)] (by omega) (aJ _ rfl ⟨⟨0,_,rfl,rfl,.same dD⟩,⟨1,_,rfl,rfl,.same (.cons (aW _) .nil)⟩,trivial⟩ ⟨⟨_,rfl,.sl 0 0 0 _ rfl⟩,⟨_,rfl,.ptr 1 1 0 0 rfl⟩,⟨_,rfl,.int hw⟩,⟨_,rfl,.int (by rw[Rx h2,Rx h2,hmt];simp;omega)⟩,⟨_,rfl,.wo⟩,trivial⟩) (by omega)
  ·have h2:¬kind=2:=by simpa using h
   rw[h];((conv=>whnf);repeat(refine Xg ?_;conv=>whnf));refine aO (fun h=>?_) (fun h=>?_)
   ·have h3:0<k:=by simp at h;omega
    ((conv=>whnf);repeat(refine Xg ?_;conv=>whnf));exact .mk (k+1) [(0,0),(1,1)] (by omega) (aJ _ rfl ⟨⟨0,_,rfl,rfl,.same dD⟩,⟨1,_,rfl,rfl,.same (.cons (aW _) .nil)⟩,trivial⟩ ⟨⟨_,rfl,.sl 0 0 0 _ rfl⟩,⟨_,rfl,.ptr 1 1 0 0 rfl⟩,⟨_,rfl,.int hw⟩,⟨_,rfl,.int (by rw[Rp h2,Rp h2,hmd h3];simp;omega)⟩,⟨_,rfl,.wo⟩,trivial⟩) (by omega)
   ·have h3:k=0:=by simp at h;omega
    ((conv=>whnf);repeat(refine Xg ?_;conv=>whnf));exact .mk (k+1) [(0,0),(1,1)] (by omega) (aJ _ rfl ⟨⟨0,_,rfl,rfl,.same dD⟩,⟨1,_,rfl,rfl,.same (.cons (aW _) .nil)⟩,trivial⟩ ⟨⟨_,rfl,.sl 0 0 0 _ rfl⟩,⟨_,rfl,.ptr 1 1 0 0 rfl⟩,⟨_,rfl,.int hw⟩,⟨_,rfl,.int (by rw[Rp h2,Rp h2,h3];cases kids<;>simp)⟩,⟨_,rfl,.wo⟩,trivial⟩) (by omega)
 ·have hke:k=kids.length:=by rw[aE] at h;simp at h;omega
  rw[hke,SD] at *;have hm1:=hmost kids;have hm2:=hmost (kids.drop 1);have hs2:=hsum kids;clear hke h;rcases(show kind=0∨kind=1∨kind=2∨kind=3∨kind=4 by omega) with rfl|rfl|rfl|rfl|rfl
  ·((conv=>whnf);repeat(refine Xg ?_;conv=>whnf));refine aK (bP rfl rfl (by rw[aE]) (by simp;omega)) ?_;((conv=>whnf);repeat(refine Xg ?_;conv=>whnf));exact hfin 0 _ _ _ _ rfl (by decide) rfl rfl
  ·((conv=>whnf);repeat(refine Xg ?_;conv=>whnf));refine aK (bP rfl rfl (by rw[aE]) (by simp;omega)) ?_;((conv=>whnf);repeat(refine Xg ?_;conv=>whnf));exact hfin 1 _ _ _ _ rfl (by decide) rfl rfl
  ·rw[Rx rfl] at *;((conv=>whnf);repeat(refine Xg ?_;conv=>whnf));refine aK (bP rfl rfl (by rw[aE]) (by simp;omega)) ?_;((conv=>whnf);repeat(refine Xg ?_;conv=>whnf));exact hfin (1+cR bs kids) _ _ _ _ rfl (by decide) (w64 rfl ⟨by omega,by omega⟩) rfl
  ·((conv=>whnf);repeat(refine Xg ?_;conv=>whnf));refine aK (bP rfl rfl (by rw[aE]) (by simp;omega)) ?_;((conv=>whnf);repeat(refine Xg ?_;conv=>whnf));exact hfin (fC bs kids) _ _ _ _ rfl (by decide) (by omega) rfl
  ·rw[Rp (by omega)] at *;have hpos:0<kids.length:=h4 (by omega);have e1:(aI kids)[(0:Int).toNat]? = some (.int .i64 (kids.getD 0 0)):=by rw[show (0:Int).toNat=0 from rfl,bG,Rm hpos];simp[hpos]
   obtain⟨q1,q2⟩:=hk 0 (kids.getD 0 0) (by simp[hpos]);have hval:eU bs ⟨4,name,lo,hi,ws,ls,vals,kids,.mk vk vn vs vks⟩=Go.Ax.d7 bs (kids.getD 0 0)+cR bs (kids.drop 1):=rfl;generalize kids.getD 0 0=q at e1 q1 q2 hval;have hq:=hat q;obtain⟨qn,rfl⟩:=R7 q1;have hqn:qn<bs.length:=by omega
   have e2:(aI bs)[0+(qn:Int).toNat]? = some (.int .i64 (Go.Ax.d7 bs qn)):=by rw[SF,Rq,bG,Rm hqn];simp[Go.Ax.d7,hqn]
   have bq:Nat.blt (qn:Int).toNat bs.length=true:=Ru (by simp;omega);generalize Go.Ax.d7 bs qn=av at e2 hval hq;((conv=>whnf);repeat(refine Xg ?_;conv=>whnf));repeat((first|refine aC e1 ?_|refine aK bq ?_|refine aC e2 ?_);(conv=>whnf);repeat(refine Xg ?_;conv=>whnf))
   refine aK (bP rfl rfl (by rw[aE]) (by simp;omega)) ?_;((conv=>whnf);repeat(refine Xg ?_;conv=>whnf));exact hfin (av+cR bs (kids.drop 1)) _ _ _ _ rfl (by decide) (w64 rfl ⟨by omega,by omega⟩) hval.symm
theorem K0(bs:List Int)(x:Nd)(hx:rL x)(hbl:bs.length<=1000000)(hb:∀y∈bs,0<=y/\y<=1024)(hk:∀(j:Nat) (k:Int),x.kids[j]? = some k->0<=k/\k<bs.length)(h4:4<=x.kind->0<x.kids.length)(hkind:0<=x.kind/\x.kind<=4) :
  aM prog [] 67 [.sl 0 0 bs.length,bU x] [(0,.row 3 1 (aI bs))] 1 fun r m _=>∃(len:Nat) (ys:List AV),r = .sl 1 0 len/\m=[(1,.row 3 1 ys)]/\g9 ys/\(len=bs.length+1/\ys=aI (bs++[jY bs x])):=by
 have b1:=hx.kids;have b2:=hx.value;have b3:=hx.valueS;clear hx;have hat:=mA (b:=bs) (M:=1024) (by omega) hb;have hsum:=iO (b:=bs) (M:=1024) (by omega) hb;have hmost:=gA (b:=bs) (M:=1024) (by omega) hb;obtain⟨kind,name,lo,hi,ws,ls,vals,kids,⟨vk,vn,vs,vks⟩⟩:=x;simp only at b1 b2 b3 hk h4 hkind;have hfin:∀(v:Int) (m:aS) (n id:Nat) (e:Int),lk m id=some (.row 3 1 (aI bs++[.int .i64 e]))->1<=id->e=v->v=jY bs ⟨kind,name,lo,hi,ws,ls,vals,kids,.mk vk vn vs vks⟩ ->
   lE 1 (fun r m _=>∃(len:Nat) (ys:List AV),r = .sl 1 0 len/\m=[(1,.row 3 1 ys)]/\g9 ys/\(len=bs.length+1/\ys=aI (bs++[jY bs ⟨kind,name,lo,hi,ws,ls,vals,kids,.mk vk vn vs vks⟩]))) (.sl id 0 (bs.length+1)) m n:=by
  intro v m n id e hid h1 he hv;refine bK (n':=2) (m':=[(1,.row 3 1 (aI (bs++[v])))]) [(id,1)] ?_ ⟨⟨id,_,by simp[lk],hid,.eq (aG _) (by rw[he];simp[aI])⟩,trivial⟩ (.sl id 1 0 _ (by simp[lk])) ⟨_,_,rfl,rfl,aG _,rfl,by rw[hv]⟩;simp[jG,DL,iK,zD,x9]
 refine aL bC func67 rfl ?_;((conv=>whnf);repeat(refine Xg ?_;conv=>whnf));refine a7.at bC (fun k:Nat=>k<=kids.length)
  (fun k=>⟨[(0,.sl 0 0 bs.length),(3,.ptr 1 0 0),(5,.int .i64 (1+fC bs (kids.take k))),(6,.int .i64 (cR bs (if kind=2 then kids.take k else(kids.take k).drop 1))),(7,.int .i64 k)],[(0,.row 3 1 (aI bs)),(1,.row 62 12 [bU ⟨kind,name,lo,hi,ws,ls,vals,kids,.mk vk vn vs vks⟩])],2,62⟩) (fun k=>kids.length-k) 0 [(0,0),(1,1)] (by simp)
  (aJ _ rfl ⟨⟨0,_,rfl,rfl,.same dD⟩,⟨1,_,rfl,rfl,.same (.cons (aW _) .nil)⟩,trivial⟩ ⟨⟨_,rfl,.sl 0 0 0 _ rfl⟩,⟨_,rfl,.ptr 1 1 0 0 rfl⟩,⟨_,rfl,.int rfl⟩,⟨_,rfl,.int (by split<;>rfl)⟩,aH,trivial⟩) ?_
 intro k hkl;have hs1:=hsum (kids.take k);have hlen:(kids.take k).length=k:=by simp;omega
 rw[hlen] at hs1;((conv=>whnf);repeat(refine Xg ?_;conv=>whnf));refine aO (fun h=>?_) (fun h=>?_)
 ·have hlt:k<kids.length:=by rw[aE] at h;simpa using h
  have e1:(aI kids)[(k:Int).toNat]? = some (.int .i64 kids[k]):=by rw[Rq,bG,Rm hlt];rfl
  have hg:kids[k]? = some kids[k]:=Rm hlt;have hst:=tP (b:=bs) hlt;have hmt:=p5 (b:=bs) hlt;have hmd:=oC (b:=bs) hlt;generalize kids[k]=q at e1 hg hst hmt hmd;obtain⟨q1,q2⟩:=hk k q hg;have hq:=hat q;obtain⟨qn,rfl⟩:=R7 q1;have hqn:qn<bs.length:=by omega
  have e2:(aI bs)[0+(qn:Int).toNat]? = some (.int .i64 (Go.Ax.d7 bs qn)):=by rw[SF,Rq,bG,Rm hqn];simp[Go.Ax.d7,hqn]
  have bq:Nat.blt (qn:Int).toNat bs.length=true:=Ru (by simp;omega);generalize Go.Ax.d7 bs qn=av at e2 hst hmt hmd hq;((conv=>whnf);repeat(refine Xg ?_;conv=>whnf));repeat((first|refine aC e1 ?_|refine aK bq ?_|refine aC e2 ?_);(conv=>whnf);repeat(refine Xg ?_;conv=>whnf))
  have hw:IntKind.i64.wrap (1+fC bs (kids.take k)+av)=1+fC bs (kids.take (k+1)):=w64 (by omega) ⟨by omega,by omega⟩;refine aO (fun h=>?_) (fun h=>?_)
  ·have h2:kind=2:=by simpa using h
   rw[h];((conv=>whnf);repeat(refine Xg ?_;conv=>whnf));exact .mk (k+1) [(0,0),(1,1)] (by omega) (aJ _ rfl ⟨⟨0,_,rfl,rfl,.same dD⟩,⟨1,_,rfl,rfl,.same (.cons (aW _) .nil)⟩,trivial⟩ ⟨⟨_,rfl,.sl 0 0 0 _ rfl⟩,⟨_,rfl,.ptr 1 1 0 0 rfl⟩,⟨_,rfl,.int hw⟩,⟨_,rfl,.int (by rw[Rx h2,Rx h2,hmt];simp;omega)⟩,⟨_,rfl,.wo⟩,trivial⟩) (by omega)
  ·have h2:¬kind=2:=by simpa using h
   rw[h];((conv=>whnf);repeat(refine Xg ?_;conv=>whnf));refine aO (fun h=>?_) (fun h=>?_)
   ·have h3:0<k:=by simp at h;omega
    ((conv=>whnf);repeat(refine Xg ?_;conv=>whnf));exact .mk (k+1) [(0,0),(1,1)] (by omega) (aJ _ rfl ⟨⟨0,_,rfl,rfl,.same dD⟩,⟨1,_,rfl,rfl,.same (.cons (aW _) .nil)⟩,trivial⟩ ⟨⟨_,rfl,.sl 0 0 0 _ rfl⟩,⟨_,rfl,.ptr 1 1 0 0 rfl⟩,⟨_,rfl,.int hw⟩,⟨_,rfl,.int (by rw[Rp h2,Rp h2,hmd h3];simp;omega)⟩,⟨_,rfl,.wo⟩,trivial⟩) (by omega)
   ·have h3:k=0:=by simp at h;omega
    ((conv=>whnf);repeat(refine Xg ?_;conv=>whnf));exact .mk (k+1) [(0,0),(1,1)] (by omega) (aJ _ rfl ⟨⟨0,_,rfl,rfl,.same dD⟩,⟨1,_,rfl,rfl,.same (.cons (aW _) .nil)⟩,trivial⟩ ⟨⟨_,rfl,.sl 0 0 0 _ rfl⟩,⟨_,rfl,.ptr 1 1 0 0 rfl⟩,⟨_,rfl,.int hw⟩,⟨_,rfl,.int (by rw[Rp h2,Rp h2,h3];cases kids<;>simp)⟩,⟨_,rfl,.wo⟩,trivial⟩) (by omega)
 ·have hke:k=kids.length:=by rw[aE] at h;simp at h;omega
  rw[hke,SD] at *;have hm1:=hmost kids;have hm2:=hmost (kids.drop 1);have hs2:=hsum kids;clear hke h;rcases(show kind=0∨kind=1∨kind=2∨kind=3∨kind=4 by omega) with rfl|rfl|rfl|rfl|rfl
  ·have hz:=LF (.mk vk vn vs vks) (by omega);have hval:jY bs ⟨0,name,lo,hi,ws,ls,vals,kids,.mk vk vn vs vks⟩=((bH (.mk vk vn vs vks):Nat):Int):=rfl;generalize bH (.mk vk vn vs vks)=sz at hz hval;((conv=>whnf);repeat(refine Xg ?_;conv=>whnf));refine hz.go ?_;((conv=>whnf);repeat(refine Xg ?_;conv=>whnf));refine aK (bP rfl rfl (by rw[aE]) (by simp;omega)) ?_;((conv=>whnf);repeat(refine Xg ?_;conv=>whnf));exact hfin sz _ _ _ _ rfl (by decide) rfl hval.symm
  ·((conv=>whnf);repeat(refine Xg ?_;conv=>whnf));refine aK (bP rfl rfl (by rw[aE]) (by simp;omega)) ?_;((conv=>whnf);repeat(refine Xg ?_;conv=>whnf));exact hfin 1 _ _ _ _ rfl (by decide) rfl rfl
  ·rw[Rx rfl] at *;((conv=>whnf);repeat(refine Xg ?_;conv=>whnf));refine aK (bP rfl rfl (by rw[aE]) (by simp;omega)) ?_;((conv=>whnf);repeat(refine Xg ?_;conv=>whnf));exact hfin (cR bs kids) _ _ _ _ rfl (by decide) rfl rfl
  ·((conv=>whnf);repeat(refine Xg ?_;conv=>whnf));refine aK (bP rfl rfl (by rw[aE]) (by simp;omega)) ?_;((conv=>whnf);repeat(refine Xg ?_;conv=>whnf));exact hfin (1+fC bs kids) _ _ _ _ rfl (by decide) rfl rfl
  ·rw[Rp (by omega)] at *;((conv=>whnf);repeat(refine Xg ?_;conv=>whnf));refine aK (bP rfl rfl (by rw[aE]) (by simp;omega)) ?_;((conv=>whnf);repeat(refine Xg ?_;conv=>whnf));exact hfin (cR bs (kids.drop 1)) _ _ _ _ rfl (by decide) rfl rfl
set_option maxHeartbeats 4000000
theorem RQ(k:Int)(b:Bool):Sc (.tup [.int .i64 k,.bool b]):=.tup _ fun j c h=>by
 rcases j with _|_|j<;>simp at h<;>subst h
 ·exact .int _ _
 ·exact .bool _
theorem G2(l:List bB)(hl:l.length<=4294967296)(hok:∀a∈l,iA a) :
  aM prog [] 144 [.il 4 (aT l)] [] 0 fun r m n=>r = .sl 0 0 (eJ l).length/\m=[(0,.row 60 4 (aT (eJ l)))]/\n=1:=by
 have nl:NN (.il 4 (aT l)):=nn;refine aL bC func144 rfl ?_;((conv=>whnf);repeat(refine Xg ?_;conv=>whnf));refine a7.ph 60 4 ?_;refine a7.at bC (fun x:Nat × List bB=>x.1<=l.length/\x.2=eJ (l.take x.1))
  (fun x=>⟨[(0,.il 4 (aT l)),(3,.sl 0 0 x.2.length),(4,.int .i64 x.1)],[(0,.row 60 4 (aT x.2))],1,41⟩)
  (fun x=>l.length-x.1) (0,[]) [(0,0)] ⟨by simp,by simp[eJ]⟩
  (aJ _ rfl ⟨⟨0,_,rfl,rfl,.nil⟩,trivial⟩ ⟨⟨_,rfl,.same _ nl⟩,⟨_,rfl,.nslk 0 0 _ rfl rfl⟩,aH,trivial⟩) ?_
 rintro⟨k,out⟩ ⟨h1,h2⟩
 dsimp only at h1 h2 ⊢
 have hout:out.length<=k:=by rw[h2];have:=q7 (l.take k);simp at this;omega
 have el:=aF out;have hoko:∀a∈out,iA a:=fun a ha=>by rw[h2] at ha;exact hok a (Se (pJ ha))
 ((conv=>whnf);repeat(refine Xg ?_;conv=>whnf));refine aO (fun h=>?_) (fun h=>?_)
 ·have hk:k<l.length:=FU h;obtain⟨ak,an,az,aks,hmem,hg,hv,e⟩:=cL (l:=l) (k:=k) hk;have hnext:eJ (l.take (k+1))=rY out (.mk ak an az aks):=by
   rw[Rv hk,oE,←h2,hv]
  have hf:=Nt out (.mk ak an az aks) (by omega) hoko;have hle:=xC out (.mk ak an az aks);have hins:rY out (.mk ak an az aks)=if (Go.Ax.d9 out (.mk ak an az aks)).2 then out else out.take (Go.Ax.d9 out (.mk ak an az aks)).1 ++ .mk ak an az aks::out.drop (Go.Ax.d9 out (.mk ak an az aks)).1:=rfl
  generalize Go.Ax.d9 out (.mk ak an az aks)=f at hf hle hins;generalize rY out (.mk ak an az aks)=nw at hnext hins;obtain⟨p,b⟩:=f
  dsimp only at hle hins hf
  ((conv=>whnf);repeat(refine Xg ?_;conv=>whnf));refine aC e ?_;((conv=>whnf);repeat(refine Xg ?_;conv=>whnf));refine hf.lend bC (.cons (.fz' rfl rfl (by rw[aF];omega) (by rw[←aF];simp) (aV out)) (.cons (.same _ (bM (.mk ak an az aks))) .nil)) (RQ _ _) ?_;cases b with
  | true=>
   ((conv=>whnf);repeat(refine Xg ?_;conv=>whnf));rw[Rx rfl] at hins;exact .mk (k+1,out) [(0,0)] ⟨by simp only;omega,by rw[←hins];exact hnext.symm⟩ (aJ _ rfl ⟨⟨0,_,rfl,rfl,.same dD⟩,trivial⟩ ⟨⟨_,rfl,.same _ nl⟩,⟨_,rfl,.sl 0 0 0 _ rfl⟩,⟨_,rfl,.w64 (by simp) ⟨by omega,by omega⟩⟩,trivial⟩) (by simp only;omega)
  | false=>
   rw[Rp (by simp)] at hins;((conv=>whnf);repeat(refine Xg ?_;conv=>whnf));repeat(first
    | (refine aD ?_;(conv=>whnf);repeat(refine Xg ?_;conv=>whnf))
    | (refine aC e ?_;(conv=>whnf);repeat(refine Xg ?_;conv=>whnf))
    | (refine aK (i8 (by simp;try omega) (by simp;try omega) (by simp;try omega)) ?_;(conv=>whnf);repeat(refine Xg ?_;conv=>whnf))
    | (refine aK (Ap (by simp;try omega)) ?_;(conv=>whnf);repeat(refine Xg ?_;conv=>whnf))
    | (refine aK (w9 rfl (by simp;try omega)) ?_;(conv=>whnf);repeat(refine Xg ?_;conv=>whnf))
    | (refine aK (bP rfl rfl (by simp;try omega) (by simp;try omega)) ?_;(conv=>whnf);repeat(refine Xg ?_;conv=>whnf)))
   have hrow:List.take ((p:Int).toNat-0) (List.drop (0+0) (aT out))++List.take 1 (List.drop 0 [AV.agg [.int .i64 ak,.int .i64 an,.str az,.il 4 (aT aks)]])++List.take (out.length-(p:Int).toNat) (List.drop (0+(p:Int).toNat) (aT out))=aT nw:=by
    rw[hins];simp[fK,bT,T8,US];exact SA (by simp)
   exact .mk (k+1,nw) [(19,0)] ⟨by simp only;omega,hnext.symm⟩ (aJ _ rfl ⟨⟨19,_,rfl,rfl,.eq dD hrow⟩,trivial⟩ ⟨⟨_,rfl,.same _ nl⟩,⟨_,rfl,.slE rfl (by have:=congrArg List.length hrow;rw[Ro,Ro,aF] at this;exact this)⟩,⟨_,rfl,.w64 (by simp) ⟨by omega,by omega⟩⟩,trivial⟩) (by simp only;omega)
 ·have hk:k=l.length:=by have:=Eu h;omega
  ((conv=>whnf);repeat(refine Xg ?_;conv=>whnf));rw[hk,SD] at h2;subst h2;exact bK (n':=1) (m':=[(0,.row 60 4 (aT (eJ l)))]) [(0,0)] rfl ⟨⟨0,_,rfl,rfl,.same dD⟩,trivial⟩ (.sl 0 0 0 _ rfl) ⟨rfl,rfl,rfl⟩
theorem Oq(l:List bB)(hl:l.length<=4294967296)(hok:∀a∈l,iA a):a8 prog [] 144 [.il 4 (aT l)] (.il 4 (aT (eJ l))):=by
 refine aM.turn bC ((G2 l hl hok).mono ?_);rintro r m n ⟨rfl,rfl,rfl⟩;exact bF (.fz' rfl rfl (by rw[aF];omega) (by rw[←aF];simp) dD) ⟨rfl,rfl,rfl⟩
set_option maxHeartbeats 8000000
theorem Jk(x:Nd)(bs:List gR)(h0:x.kind=0):aM prog [] 133 [bU x,.sl 0 0 bs.length] [(0,.row 151 2 (encLs bs))] 1 fun r m _=>r=lG (cW x bs)/\m=[(0,.row 151 2 (encLs bs))]:=by
 have nb:NN (.il 2 (encLs bs)):=.il' (encLs_nn bs);obtain⟨kind,name,lo,hi,ws,ls,vals,kids,⟨vk,vn,vs,vks⟩⟩:=x;simp only at h0;subst h0;refine aL bC func133 rfl ?_;((conv=>whnf);repeat(refine Xg ?_;conv=>whnf));refine bK (r':=lG ⟨[.mk vk vn vs vks],false⟩) (n':=1) (m':=[(0,.row 151 2 (encLs bs))]) [(0,0)] rfl ⟨⟨0,_,rfl,rfl,.same (encLs_nn bs)⟩,trivial⟩ (.agg' (.cons (.fzR rfl rfl (.cons (Da.same (x:=bT (.mk vk vn vs vks)) nn) .nil) rfl) (.s .nil))) ⟨rfl,rfl⟩
theorem HA(x:Nd)(bs:List gR)(h1:x.kind=1)(hlo : -4611686018427387904<=x.lo)(hh:x.lo<=x.hi)(hhi:x.hi<=4611686018427387904)(hsp:x.hi<x.lo+1099511627776):aM prog [] 133 [bU x,.sl 0 0 bs.length] [(0,.row 151 2 (encLs bs))] 1 fun r m _=>r=lG (cW x bs)/\m=[(0,.row 151 2 (encLs bs))]:=by
 obtain⟨kind,name,lo,hi,ws,ls,vals,kids,⟨vk,vn,vs,vks⟩⟩:=x;simp only at h1 hlo hh hhi hsp;subst h1;have hres:cW ⟨1,name,lo,hi,ws,ls,vals,kids,.mk vk vn vs vks⟩ bs=if 1024<=hi-lo then⟨[],true⟩ else⟨qE lo (hi+1-lo).toNat,false⟩:=rfl
 generalize cW ⟨1,name,lo,hi,ws,ls,vals,kids,.mk vk vn vs vks⟩ bs=res at hres;have hw:IntKind.i64.wrap (hi-lo)=hi-lo:=w64 rfl ⟨by omega,by omega⟩;refine aL bC func133 rfl ?_;((conv=>whnf);repeat(refine Xg ?_;conv=>whnf));rw[hw];refine aO (fun h=>?_) (fun h=>?_)
 ·((conv=>whnf);repeat(refine Xg ?_;conv=>whnf));exact bK (r':=lG ⟨[],true⟩) (n':=1) (m':=[(0,.row 151 2 (encLs bs))]) [(0,0)] rfl ⟨⟨0,_,rfl,rfl,.same (encLs_nn bs)⟩,trivial⟩ (.agg' (.cons (.nil 4) (.s .nil))) ⟨by rw[hres,Rx (by simpa using h)],rfl⟩
 ·have hlt:hi-lo<1024:=by simpa using h
  rw[Rp (by omega)] at hres;((conv=>whnf);repeat(refine Xg ?_;conv=>whnf));refine a7.ph 60 4 ?_;refine a7.at bC (fun k:Nat=>lo+k<=hi+1)
   (fun k=>⟨[(2,.ptr 1 0 0),(4,.ptr 2 0 0),(5,.ptr 3 0 0),(6,.int .i64 (lo+k))],[(0,.row 151 2 (encLs bs)),(1,.row 62 12 [bU ⟨1,name,lo,hi,ws,ls,vals,kids,.mk vk vn vs vks⟩]),(2,.row 151 2 [.agg [.nsl,.bool false]]),(3,.row 151 2 [.agg [.sl 4 0 (qE lo k).length,.bool false]]),(4,.row 60 4 (aT (qE lo k)))],5,96⟩)
   (fun k=>(hi+1-lo).toNat-k) 0 [(0,0),(1,1),(2,2),(3,3),(4,4)] (by omega)
   (aJ _ rfl ⟨⟨0,_,rfl,rfl,.same (encLs_nn bs)⟩,⟨1,_,rfl,rfl,.same (.cons (aW _) .nil)⟩,⟨2,_,rfl,rfl,.same dD⟩,⟨3,_,rfl,rfl,.cons (.agg (.cons (.nslk 4 4 _ rfl rfl) (.s .nil))) .nil⟩,⟨4,_,rfl,rfl,.nil⟩,trivial⟩ ⟨⟨_,rfl,.ptr 1 1 0 0 rfl⟩,⟨_,rfl,.ptr 2 2 0 0 rfl⟩,⟨_,rfl,.ptr 3 3 0 0 rfl⟩,⟨_,rfl,.int (by simp)⟩,trivial⟩) ?_
  intro k hk;have hlen:=CM lo k;((conv=>whnf);repeat(refine Xg ?_;conv=>whnf));refine aO (fun h=>?_) (fun h=>?_)
  ·have hkl:lo+k<=hi:=by simpa using h
   ((conv=>whnf);repeat(refine Xg ?_;conv=>whnf));refine aK (bP rfl rfl (by rw[aF]) (by simp;omega)) ?_;((conv=>whnf);repeat(refine Xg ?_;conv=>whnf));exact .mk (k+1) [(0,0),(1,1),(2,2),(3,3),(6,4)] (by omega)
    (aJ _ rfl ⟨⟨0,_,rfl,rfl,.same (encLs_nn bs)⟩,⟨1,_,rfl,rfl,.same (.cons (aW _) .nil)⟩,⟨2,_,rfl,rfl,.same dD⟩,⟨3,_,rfl,rfl,.cons (.agg (.cons (.slE rfl (by rw[zU];simp)) (.s .nil))) .nil⟩,⟨6,_,rfl,rfl,by rw[zU,eR];exact .snoc rfl (.same dD) (sX _ _ _)⟩,trivial⟩ ⟨⟨_,rfl,.ptr 1 1 0 0 rfl⟩,⟨_,rfl,.ptr 2 2 0 0 rfl⟩,⟨_,rfl,.ptr 3 3 0 0 rfl⟩,⟨_,rfl,.wo⟩,trivial⟩) (by omega)
  ·have hke:k=(hi+1-lo).toNat:=by simp at h;omega
   ((conv=>whnf);repeat(refine Xg ?_;conv=>whnf));exact bK (r':=lG ⟨qE lo k,false⟩) (n':=1) (m':=[(0,.row 151 2 (encLs bs))]) [(0,0)] rfl ⟨⟨0,_,rfl,rfl,.same (encLs_nn bs)⟩,trivial⟩ (.agg' (.cons (.fzR rfl rfl (.same dD) (by rw[aF])) (.s .nil))) ⟨by rw[hres,hke],rfl⟩
set_option maxHeartbeats 8000000
theorem Jp(x:Nd)(bs:List gR)(h2:x.kind=2)(hkl:x.kids.length<=65536)(hk:∀(j:Nat) (k:Int),x.kids[j]? = some k->0<=k/\k<bs.length)(hb:∀b∈bs,b.vals.length<=1024/\∀v∈b.vals,iA v) :
  aM prog [] 133 [bU x,.sl 0 0 bs.length] [(0,.row 151 2 (encLs bs))] 1 fun r m _=>r=lG (cW x bs)/\m=[(0,.row 151 2 (encLs bs))]:=by
 have nb:NN (.il 2 (encLs bs)):=.il' (encLs_nn bs);obtain⟨kind,name,lo,hi,ws,ls,vals,kids,⟨vk,vn,vs,vks⟩⟩:=x;simp only at h2 hkl hk;subst h2;have hres:cW ⟨2,name,lo,hi,ws,ls,vals,kids,.mk vk vn vs vks⟩ bs=lH bs kids:=rfl;generalize cW ⟨2,name,lo,hi,ws,ls,vals,kids,.mk vk vn vs vks⟩ bs=res at hres;refine aL bC func133 rfl ?_;((conv=>whnf);repeat(refine Xg ?_;conv=>whnf));refine a7.ph 60 4 ?_;refine a7.at bC (fun a:Nat × (List bB × Bool)=>a.1<=kids.length/\a.2=(kids.take a.1).foldl (bS bs) ([],false))
  (fun a=>⟨[(1,.sl 0 0 bs.length),(2,.ptr 1 0 0),(4,.ptr 2 0 0),(5,.ptr 3 0 0),(7,.int .i64 a.1)],[(0,.row 151 2 (encLs bs)),(1,.row 62 12 [bU ⟨2,name,lo,hi,ws,ls,vals,kids,.mk vk vn vs vks⟩]),(2,.row 151 2 [.agg [.nsl,.bool false]]),(3,.row 151 2 [.agg [.sl 4 0 a.2.1.length,.bool a.2.2]]),(4,.row 60 4 (aT a.2.1))],5,96⟩)
  (fun a=>kids.length-a.1) (0,[],false) [(0,0),(1,1),(2,2),(3,3),(4,4)] ⟨by simp,by simp⟩
  (aJ _ rfl ⟨⟨0,_,rfl,rfl,.same (encLs_nn bs)⟩,⟨1,_,rfl,rfl,.same (.cons (aW _) .nil)⟩,⟨2,_,rfl,rfl,.same dD⟩,⟨3,_,rfl,rfl,.cons (.agg (.cons (.nslk 4 4 _ rfl rfl) (.s .nil))) .nil⟩,⟨4,_,rfl,rfl,.nil⟩,trivial⟩ ⟨⟨_,rfl,.sl 0 0 0 _ rfl⟩,⟨_,rfl,.ptr 1 1 0 0 rfl⟩,⟨_,rfl,.ptr 2 2 0 0 rfl⟩,⟨_,rfl,.ptr 3 3 0 0 rfl⟩,⟨_,rfl,.int rfl⟩,trivial⟩) ?_
 rintro⟨k,a1,am⟩ ⟨hkk,ha⟩;simp only at hkk ha;have hbd:=tJ hb (kids.take k) ([],false) 0 (by simp) (by simp);rw[←ha] at hbd;simp only at hbd;have hlk:(kids.take k).length<=65536:=by simp;omega
 have ha1:a1.length<=67108864:=by omega
 ((conv=>whnf);repeat(refine Xg ?_;conv=>whnf));refine aO (fun h=>?_) (fun h=>?_)
 ·have hlt:k<kids.length:=by rw[aE] at h;simpa using h
  have e1:(aI kids)[(k:Int).toNat]? = some (.int .i64 kids[k]):=by rw[Rq,bG,Rm hlt];rfl
  have hg:kids[k]? = some kids[k]:=Rm hlt;have hstep:=Hg (bS bs) hlt ([],false);rw[←ha] at hstep;generalize kids[k]=q at e1 hg hstep;obtain⟨q1,q2⟩:=hk k q hg;obtain⟨qn,rfl⟩:=R7 q1;have hqn:qn<bs.length:=by omega
  obtain⟨⟨bv,bm⟩,hbe⟩:∃b,b=bs[qn]:=⟨_,rfl⟩
  have hbm:=hb _ (show (⟨bv,bm⟩:gR)∈bs by rw[hbe];exact SI hqn);simp only at hbm;have hat:c9 bs qn=⟨bv,bm⟩:=by rw[hbe];simp[c9,hqn]
  have bq:Nat.blt (qn:Int).toNat bs.length=true:=Ru (by simp;omega);have e2:(encLs bs)[0+(qn:Int).toNat]? = some (lG ⟨bv,bm⟩):=by rw[SF,Rq,encLs_get,Rm hqn,←hbe];rfl
  have hso:=G2 (a1++bv) (by simp;omega) (fun v hv=>by
   rcases R5.1 hv with h|h
   ·exact hbd.2 v h
   ·exact hbm.2 v h)
  have hun:bS bs (a1,am) qn=(eJ (a1++bv),am || bm || decide (1024<(eJ (a1++bv)).length)):=by simp[bS,hat]
  rw[hun] at hstep;generalize eJ (a1++bv)=sv at hso hstep;((conv=>whnf);repeat(refine Xg ?_;conv=>whnf));refine aC e1 ?_;((conv=>whnf);repeat(refine Xg ?_;conv=>whnf));repeat((first|refine aK bq ?_|refine aC e2 ?_);(conv=>whnf);repeat(refine Xg ?_;conv=>whnf))
  refine aK (bP rfl rfl (by rw[aF]) (by simp[aF];omega)) ?_;((conv=>whnf);repeat(refine Xg ?_;conv=>whnf));refine aM.pre bC [(5,5),(0,0),(1,1),(2,2),(3,3)] (mem':=[(5,.row 151 2 [.agg [.il 4 (aT bv),.bool bm]]),(0,.row 151 2 (encLs bs)),(1,.row 62 12 [bU ⟨2,name,lo,hi,ws,ls,vals,kids,.mk vk vn vs vks⟩]),(2,.row 151 2 [.agg [.nsl,.bool false]]),(3,.row 151 2 [.agg [.junk,.bool am]])]) rfl
   ⟨⟨5,_,rfl,rfl,.same dD⟩,⟨0,_,rfl,rfl,.same (encLs_nn bs)⟩,⟨1,_,rfl,rfl,.same (.cons (aW _) .nil)⟩,⟨2,_,rfl,rfl,.same dD⟩,⟨3,_,rfl,rfl,.cons (.agg (.cons (.junk _) (.s .nil))) .nil⟩,trivial⟩
   (.cons (.fzR (ys:=aT (a1++bv)) rfl rfl (.eq dD (by simp[fK])) (by simp[aF])) .nil) ?_
  refine aM.useNew bC hso dD dD ?_;cases am<;>cases bm
  all_goals
   ((conv=>whnf);repeat(refine Xg ?_;conv=>whnf));exact .mk (k+1,sv,_) [(0,0),(1,1),(2,2),(3,3),(7,4)] ⟨by simp only;omega,hstep.symm⟩
    (aJ _ rfl ⟨⟨0,_,rfl,rfl,.same (encLs_nn bs)⟩,⟨1,_,rfl,rfl,.same (.cons (aW _) .nil)⟩,⟨2,_,rfl,rfl,.same dD⟩,⟨3,_,rfl,rfl,.cons (.agg (.cons (.sl 7 4 0 _ rfl) (.cons (.bool (by simp[SB]<;>omega)) .nil))) .nil⟩,⟨7,_,rfl,rfl,.same dD⟩,trivial⟩
     ⟨⟨_,rfl,.sl 0 0 0 _ rfl⟩,⟨_,rfl,.ptr 1 1 0 0 rfl⟩,⟨_,rfl,.ptr 2 2 0 0 rfl⟩,⟨_,rfl,.ptr 3 3 0 0 rfl⟩,⟨_,rfl,.w64 (by simp) ⟨by simp only;omega,by simp only;omega⟩⟩,trivial⟩) (by simp only;omega)
 ·have hke:k=kids.length:=by rw[aE] at h;simp at h;omega
  rw[hke,SD] at ha;have hu:lH bs kids=if am then⟨[],true⟩ else⟨a1,false⟩:=by
   unfold lH;rw[←ha]
  cases am with
  | true=>
   ((conv=>whnf);repeat(refine Xg ?_;conv=>whnf));exact bK (r':=lG ⟨[],true⟩) (n':=1) (m':=[(0,.row 151 2 (encLs bs))]) [(0,0)] rfl ⟨⟨0,_,rfl,rfl,.same (encLs_nn bs)⟩,trivial⟩ (.agg' (.cons (.nil 4) (.s .nil))) ⟨by rw[hres,hu,Rx rfl],rfl⟩
  | false=>
   ((conv=>whnf);repeat(refine Xg ?_;conv=>whnf));exact bK (r':=lG ⟨a1,false⟩) (n':=1) (m':=[(0,.row 151 2 (encLs bs))]) [(0,0)] rfl ⟨⟨0,_,rfl,rfl,.same (encLs_nn bs)⟩,trivial⟩ (.agg' (.cons (.fzR rfl rfl (.same dD) (by rw[aF])) (.s .nil))) ⟨by rw[hres,hu,Rp (by simp)],rfl⟩
set_option maxHeartbeats 8000000
theorem JN(x:Nd)(bs:List gR)(h2:x.kind=4)(hkl:x.kids.length<=65536)(hk:∀(j:Nat) (k:Int),x.kids[j]? = some k->0<=k/\k<bs.length)(hb:∀b∈bs,b.vals.length<=1024/\∀v∈b.vals,iA v) :
  aM prog [] 133 [bU x,.sl 0 0 bs.length] [(0,.row 151 2 (encLs bs))] 1 fun r m _=>r=lG (cW x bs)/\m=[(0,.row 151 2 (encLs bs))]:=by
 have nb:NN (.il 2 (encLs bs)):=.il' (encLs_nn bs);obtain⟨kind,name,lo,hi,ws,ls,vals,kids,⟨vk,vn,vs,vks⟩⟩:=x;simp only at h2 hkl hk;subst h2;have hres:cW ⟨4,name,lo,hi,ws,ls,vals,kids,.mk vk vn vs vks⟩ bs=lH bs (kids.drop 1):=rfl;generalize cW ⟨4,name,lo,hi,ws,ls,vals,kids,.mk vk vn vs vks⟩ bs=res at hres;refine aL bC func133 rfl ?_;((conv=>whnf);repeat(refine Xg ?_;conv=>whnf));refine a7.ph 60 4 ?_;refine a7.at bC (fun a:Nat × (List bB × Bool)=>a.1<=kids.length/\a.2=((kids.take a.1).drop 1).foldl (bS bs) ([],false))
  (fun a=>⟨[(1,.sl 0 0 bs.length),(2,.ptr 1 0 0),(4,.ptr 2 0 0),(5,.ptr 3 0 0),(7,.int .i64 a.1)],[(0,.row 151 2 (encLs bs)),(1,.row 62 12 [bU ⟨4,name,lo,hi,ws,ls,vals,kids,.mk vk vn vs vks⟩]),(2,.row 151 2 [.agg [.nsl,.bool false]]),(3,.row 151 2 [.agg [.sl 4 0 a.2.1.length,.bool a.2.2]]),(4,.row 60 4 (aT a.2.1))],5,96⟩)
  (fun a=>kids.length-a.1) (0,[],false) [(0,0),(1,1),(2,2),(3,3),(4,4)] ⟨by simp,by simp⟩
  (aJ _ rfl ⟨⟨0,_,rfl,rfl,.same (encLs_nn bs)⟩,⟨1,_,rfl,rfl,.same (.cons (aW _) .nil)⟩,⟨2,_,rfl,rfl,.same dD⟩,⟨3,_,rfl,rfl,.cons (.agg (.cons (.nslk 4 4 _ rfl rfl) (.s .nil))) .nil⟩,⟨4,_,rfl,rfl,.nil⟩,trivial⟩ ⟨⟨_,rfl,.sl 0 0 0 _ rfl⟩,⟨_,rfl,.ptr 1 1 0 0 rfl⟩,⟨_,rfl,.ptr 2 2 0 0 rfl⟩,⟨_,rfl,.ptr 3 3 0 0 rfl⟩,⟨_,rfl,.int rfl⟩,trivial⟩) ?_
 rintro⟨k,a1,am⟩ ⟨hkk,ha⟩;simp only at hkk ha;have hbd:=tJ hb ((kids.take k).drop 1) ([],false) 0 (by simp) (by simp);rw[←ha] at hbd;simp only at hbd;have hlk:((kids.take k).drop 1).length<=65536:=by simp;omega
 have ha1:a1.length<=67108864:=by omega
 ((conv=>whnf);repeat(refine Xg ?_;conv=>whnf));refine aO (fun h=>?_) (fun h=>?_)
 ·have hlt:k<kids.length:=by rw[aE] at h;simpa using h
  have e1:(aI kids)[(k:Int).toNat]? = some (.int .i64 kids[k]):=by rw[Rq,bG,Rm hlt];rfl
  have hg:kids[k]? = some kids[k]:=Rm hlt;((conv=>whnf);repeat(refine Xg ?_;conv=>whnf));refine aO (fun h=>?_) (fun h=>?_)
  ·have hk0:k=0:=by simp at h;omega
   subst hk0;((conv=>whnf);repeat(refine Xg ?_;conv=>whnf));exact .mk (1,a1,am) [(0,0),(1,1),(2,2),(3,3),(4,4)] ⟨by simp only;omega,by rw[ha];cases kids<;>simp⟩
    (aJ _ rfl ⟨⟨0,_,rfl,rfl,.same (encLs_nn bs)⟩,⟨1,_,rfl,rfl,.same (.cons (aW _) .nil)⟩,⟨2,_,rfl,rfl,.same dD⟩,⟨3,_,rfl,rfl,.cons (.agg (.cons (.sl 4 4 0 _ rfl) (.s .nil))) .nil⟩,⟨4,_,rfl,rfl,.same dD⟩,trivial⟩ ⟨⟨_,rfl,.sl 0 0 0 _ rfl⟩,⟨_,rfl,.ptr 1 1 0 0 rfl⟩,⟨_,rfl,.ptr 2 2 0 0 rfl⟩,⟨_,rfl,.ptr 3 3 0 0 rfl⟩,⟨_,rfl,.int rfl⟩,trivial⟩) (by simp only;omega)
  have hk0:0<k:=by
   rcases SN k with h'|h'
   ·rw[h'] at h;simp at h
   ·exact h'
  have hstep:=Hi (bS bs) hlt hk0 ([],false);rw[←ha] at hstep;generalize kids[k]=q at e1 hg hstep;obtain⟨q1,q2⟩:=hk k q hg;obtain⟨qn,rfl⟩:=R7 q1;have hqn:qn<bs.length:=by omega
  obtain⟨⟨bv,bm⟩,hbe⟩:∃b,b=bs[qn]:=⟨_,rfl⟩
  have hbm:=hb _ (show (⟨bv,bm⟩:gR)∈bs by rw[hbe];exact SI hqn);simp only at hbm;have hat:c9 bs qn=⟨bv,bm⟩:=by rw[hbe];simp[c9,hqn]
  have bq:Nat.blt (qn:Int).toNat bs.length=true:=Ru (by simp;omega);have e2:(encLs bs)[0+(qn:Int).toNat]? = some (lG ⟨bv,bm⟩):=by rw[SF,Rq,encLs_get,Rm hqn,←hbe];rfl
  have hso:=G2 (a1++bv) (by simp;omega) (fun v hv=>by
   rcases R5.1 hv with h|h
   ·exact hbd.2 v h
   ·exact hbm.2 v h)
  have hun:bS bs (a1,am) qn=(eJ (a1++bv),am || bm || decide (1024<(eJ (a1++bv)).length)):=by simp[bS,hat]
  rw[hun] at hstep;generalize eJ (a1++bv)=sv at hso hstep;((conv=>whnf);repeat(refine Xg ?_;conv=>whnf));refine aC e1 ?_;((conv=>whnf);repeat(refine Xg ?_;conv=>whnf));repeat((first|refine aK bq ?_|refine aC e2 ?_);(conv=>whnf);repeat(refine Xg ?_;conv=>whnf))
  refine aK (bP rfl rfl (by rw[aF]) (by simp[aF];omega)) ?_;((conv=>whnf);repeat(refine Xg ?_;conv=>whnf));refine aM.pre bC [(5,5),(0,0),(1,1),(2,2),(3,3)] (mem':=[(5,.row 151 2 [.agg [.il 4 (aT bv),.bool bm]]),(0,.row 151 2 (encLs bs)),(1,.row 62 12 [bU ⟨4,name,lo,hi,ws,ls,vals,kids,.mk vk vn vs vks⟩]),(2,.row 151 2 [.agg [.nsl,.bool false]]),(3,.row 151 2 [.agg [.junk,.bool am]])]) rfl
   ⟨⟨5,_,rfl,rfl,.same dD⟩,⟨0,_,rfl,rfl,.same (encLs_nn bs)⟩,⟨1,_,rfl,rfl,.same (.cons (aW _) .nil)⟩,⟨2,_,rfl,rfl,.same dD⟩,⟨3,_,rfl,rfl,.cons (.agg (.cons (.junk _) (.s .nil))) .nil⟩,trivial⟩
   (.cons (.fzR (ys:=aT (a1++bv)) rfl rfl (.eq dD (by simp[fK])) (by simp[aF])) .nil) ?_
  refine aM.useNew bC hso dD dD ?_;cases am<;>cases bm
  all_goals
   ((conv=>whnf);repeat(refine Xg ?_;conv=>whnf));exact .mk (k+1,sv,_) [(0,0),(1,1),(2,2),(3,3),(7,4)] ⟨by simp only;omega,hstep.symm⟩
    (aJ _ rfl ⟨⟨0,_,rfl,rfl,.same (encLs_nn bs)⟩,⟨1,_,rfl,rfl,.same (.cons (aW _) .nil)⟩,⟨2,_,rfl,rfl,.same dD⟩,⟨3,_,rfl,rfl,.cons (.agg (.cons (.sl 7 4 0 _ rfl) (.cons (.bool (by simp[SB]<;>omega)) .nil))) .nil⟩,⟨7,_,rfl,rfl,.same dD⟩,trivial⟩
     ⟨⟨_,rfl,.sl 0 0 0 _ rfl⟩,⟨_,rfl,.ptr 1 1 0 0 rfl⟩,⟨_,rfl,.ptr 2 2 0 0 rfl⟩,⟨_,rfl,.ptr 3 3 0 0 rfl⟩,⟨_,rfl,.w64 (by simp) ⟨by simp only;omega,by simp only;omega⟩⟩,trivial⟩) (by simp only;omega)
 ·have hke:k=kids.length:=by rw[aE] at h;simp at h;omega
  rw[hke,SD] at ha;have hu:lH bs (kids.drop 1)=if am then⟨[],true⟩ else⟨a1,false⟩:=by
   unfold lH;rw[←ha]
  cases am with
  | true=>
   ((conv=>whnf);repeat(refine Xg ?_;conv=>whnf));exact bK (r':=lG ⟨[],true⟩) (n':=1) (m':=[(0,.row 151 2 (encLs bs))]) [(0,0)] rfl ⟨⟨0,_,rfl,rfl,.same (encLs_nn bs)⟩,trivial⟩ (.agg' (.cons (.nil 4) (.s .nil))) ⟨by rw[hres,hu,Rx rfl],rfl⟩
  | false=>
   ((conv=>whnf);repeat(refine Xg ?_;conv=>whnf));exact bK (r':=lG ⟨a1,false⟩) (n':=1) (m':=[(0,.row 151 2 (encLs bs))]) [(0,0)] rfl ⟨⟨0,_,rfl,rfl,.same (encLs_nn bs)⟩,trivial⟩ (.agg' (.cons (.fzR rfl rfl (.same dD) (by rw[aF])) (.s .nil))) ⟨by rw[hres,hu,Rp (by simp)],rfl⟩
set_option maxHeartbeats 8000000
def mJ(l:List (List bB)):List AV:=l.map fun r=>.il 4 (aT r)
theorem iT(l:List (List bB)):g9 (mJ l):=fun a ha=>by
 obtain⟨n,_,rfl⟩:=SJ.1 ha;exact nn
theorem qO(l:List bB):∀rows:List (List bB),(gE rows l).length=rows.length*l.length
 | []=>by simp[gE]
 | r::rs=>by
  have:=qO l rs;simp only[gE,Tn,Ro,TO,Sa,Sf,Tc] at this ⊢;omega
theorem HH(l:List (List bB))(r:List bB):mJ (l++[r])=mJ l++[.il 4 (aT r)]:=by simp[mJ]
theorem D7(l:List (List bB)):(mJ l).length=l.length:=by simp[mJ]
theorem Bi{name:List UInt8}(hn:name.length<=4294967296){r:List bB}(hr:r.length<=4294967296)(ho:∀v∈r,iA v):iA (dJ name r):=by
 unfold dJ;split
 ·exact jJ ⟨by omega,by omega⟩ ⟨by omega,by omega⟩ (by simp) hr (qI ho)
 ·exact jJ ⟨by omega,by omega⟩ ⟨by omega,by omega⟩ hn hr (qI ho)
theorem RS(x:Nd)(bs:List gR)(hname:x.name.length<=4294967296)(hkl:x.kids.length<=65536)(hk:∀(j:Nat) (k:Int),x.kids[j]? = some k->0<=k/\k<bs.length)(hb:∀b∈bs,b.vals.length<=1024/\∀v∈b.vals,iA v) :
  aM prog [] 143 [bU x,.sl 0 0 bs.length] [(0,.row 151 2 (encLs bs))] 1 fun r m _=>r=lG (oK bs x)/\m=[(0,.row 151 2 (encLs bs))]:=by
 obtain⟨kind,name,lo,hi,ws,ls,vals,kids,⟨vk,vn,vs,vks⟩⟩:=x;simp only at hkl hk hname;refine aL bC func143 rfl ?_;((conv=>whnf);repeat(refine Xg ?_;conv=>whnf));refine a7.at bC (fun a:Nat × List (List bB)=>a.1<=kids.length/\a.2.length<=1024/\(∀r∈a.2,r.length<=a.1/\∀v∈r,iA v)/\e6 bs kids [[]]=e6 bs (kids.drop a.1) a.2)
  (fun a=>⟨[(1,.sl 0 0 bs.length),(2,.ptr 1 0 0),(4,.ptr 2 0 0),(5,.sl 3 0 a.2.length),(6,.int .i64 a.1)],[(0,.row 151 2 (encLs bs)),(1,.row 62 12 [bU ⟨kind,name,lo,hi,ws,ls,vals,kids,.mk vk vn vs vks⟩]),(2,.row 151 2 [.agg [.nsl,.bool false]]),(3,.row 58 1 (mJ a.2))],4,91⟩)
  (fun a=>kids.length-a.1) (0,[[]]) [(0,0),(1,1),(2,2),(3,3)] ⟨by simp,by simp,by simp,by simp⟩
  (aJ _ rfl ⟨⟨0,_,rfl,rfl,.same (encLs_nn bs)⟩,⟨1,_,rfl,rfl,.same (.cons (aW _) .nil)⟩,⟨2,_,rfl,rfl,.same dD⟩,⟨3,_,rfl,rfl,.cons (.one rfl rfl (.nil 4)) .nil⟩,trivial⟩ ⟨⟨_,rfl,.sl 0 0 0 _ rfl⟩,⟨_,rfl,.ptr 1 1 0 0 rfl⟩,⟨_,rfl,.ptr 2 2 0 0 rfl⟩,⟨_,rfl,.sl 3 3 0 _ rfl⟩,⟨_,rfl,.int rfl⟩,trivial⟩) ?_
 rintro⟨k,rows⟩ ⟨hkk,hrl,hrr,hro⟩;simp only at hkk hrl hrr hro;have hseq:oK bs ⟨kind,name,lo,hi,ws,ls,vals,kids,.mk vk vn vs vks⟩=match e6 bs kids [[]] with|none=>⟨[],true⟩|some rows=>⟨eJ (rows.map (dJ name)),false⟩:=rfl
 ((conv=>whnf);repeat(refine Xg ?_;conv=>whnf));refine aO (fun h=>?_) (fun h=>?_)
 ·have hlt:k<kids.length:=by rw[aE] at h;simpa using h
  have e1:(aI kids)[(k:Int).toNat]? = some (.int .i64 kids[k]):=by rw[Rq,bG,Rm hlt];rfl
  have hg:kids[k]? = some kids[k]:=Rm hlt;rw[SH hlt,e6] at hro;generalize kids[k]=q at e1 hg hro;obtain⟨q1,q2⟩:=hk k q hg;obtain⟨qn,rfl⟩:=R7 q1;have hqn:qn<bs.length:=by omega
  obtain⟨⟨bv,bm⟩,hbe⟩:∃b,b=bs[qn]:=⟨_,rfl⟩
  have hbm:=hb _ (show (⟨bv,bm⟩:gR)∈bs by rw[hbe];exact SI hqn);simp only at hbm;have hat:c9 bs qn=⟨bv,bm⟩:=by rw[hbe];simp[c9,hqn]
  rw[hat] at hro;simp only at hro;have bq:Nat.blt (qn:Int).toNat bs.length=true:=Ru (by simp;omega);have e2:(encLs bs)[0+(qn:Int).toNat]? = some (lG ⟨bv,bm⟩):=by rw[SF,Rq,encLs_get,Rm hqn,←hbe];rfl
  ((conv=>whnf);repeat(refine Xg ?_;conv=>whnf));refine aC e1 ?_;((conv=>whnf);repeat(refine Xg ?_;conv=>whnf));repeat((first|refine aK bq ?_|refine aC e2 ?_);(conv=>whnf);repeat(refine Xg ?_;conv=>whnf))
  cases bm with
  | true=>
   ((conv=>whnf);repeat(refine Xg ?_;conv=>whnf));exact bK (r':=lG ⟨[],true⟩) (n':=1) (m':=[(0,.row 151 2 (encLs bs))]) [(0,0)] rfl ⟨⟨0,_,rfl,rfl,.same (encLs_nn bs)⟩,trivial⟩ (.agg' (.cons (.nil 4) (.s .nil))) ⟨by rw[hseq,hro,Rx (.inl rfl)],rfl⟩
  | false=>
   ((conv=>whnf);repeat(refine Xg ?_;conv=>whnf));have hmul:IntKind.i64.wrap ((rows.length:Int)*((aT bv).length:Nat))=((rows.length*bv.length:Nat):Int):=by
    have hm:rows.length*bv.length<=1024*1024:=TE hrl hbm.1;rw[aF];exact w64 (by push_cast;rfl) ⟨by omega,by omega⟩
   rw[hmul];refine aO (fun h=>?_) (fun h=>?_)
   ·((conv=>whnf);repeat(refine Xg ?_;conv=>whnf));exact bK (r':=lG ⟨[],true⟩) (n':=1) (m':=[(0,.row 151 2 (encLs bs))]) [(0,0)] rfl ⟨⟨0,_,rfl,rfl,.same (encLs_nn bs)⟩,trivial⟩ (.agg' (.cons (.nil 4) (.s .nil))) ⟨by rw[hseq,hro,Rx (.inr (by simp only[gt_iff_lt,SP] at h;omega))],rfl⟩
   ·have hle:rows.length*bv.length<=1024:=by simp only[gt_iff_lt,TD] at h;omega
    rw[Rp (by simp;omega)] at hro;((conv=>whnf);repeat(refine Xg ?_;conv=>whnf));refine a7.ph 58 1 ?_;refine a7.at bC (fun i:Nat=>i<=rows.length)
     (fun i=>⟨[(1,.sl 0 0 bs.length),(2,.ptr 1 0 0),(4,.ptr 2 0 0),(5,.sl 3 0 rows.length),(6,.int .i64 k),(7,.ptr 4 0 0),(8,.sl 5 0 (gE (rows.take i) bv).length),(9,.int .i64 i)],[(0,.row 151 2 (encLs bs)),(1,.row 62 12 [bU ⟨kind,name,lo,hi,ws,ls,vals,kids,.mk vk vn vs vks⟩]),(2,.row 151 2 [.agg [.nsl,.bool false]]),(3,.row 58 1 (mJ rows)),(4,.row 151 2 [lG ⟨bv,false⟩]),(5,.row 58 1 (mJ (gE (rows.take i) bv)))],6,91⟩)
     (fun i=>rows.length-i) 0 [(0,0),(1,1),(2,2),(3,3),(4,4),(5,5)] (by simp)
     (aJ _ rfl ⟨⟨0,_,rfl,rfl,.same (encLs_nn bs)⟩,⟨1,_,rfl,rfl,.same (.cons (aW _) .nil)⟩,⟨2,_,rfl,rfl,.same dD⟩,⟨3,_,rfl,rfl,.same (iT _)⟩,⟨4,_,rfl,rfl,.same (.cons (mE _) .nil)⟩,⟨5,_,rfl,rfl,.nil⟩,trivial⟩ ⟨⟨_,rfl,.sl 0 0 0 _ rfl⟩,⟨_,rfl,.ptr 1 1 0 0 rfl⟩,⟨_,rfl,.ptr 2 2 0 0 rfl⟩,⟨_,rfl,.sl 3 3 0 _ rfl⟩,⟨_,rfl,.int rfl⟩,⟨_,rfl,.ptr 4 4 0 0 rfl⟩,⟨_,rfl,.nslk 5 5 _ rfl rfl⟩,⟨_,rfl,.int rfl⟩,trivial⟩) ?_
    intro i hi0;((conv=>whnf);repeat(refine Xg ?_;conv=>whnf));refine aO (fun h=>?_) (fun h=>?_)
    ·have hir:i<rows.length:=by simpa using h
     obtain⟨rw,hrw⟩:∃rw,rw=rows[i]:=⟨_,rfl⟩
     have hrl2:=(hrr rw (by rw[hrw];exact SI hir)).1;have e3:(mJ rows)[0+(i:Int).toNat]? = some (.il 4 (aT rw)):=by rw[SF,Rq,mJ,So,Rm hir,hrw];rfl
     have b3:Nat.blt (i:Int).toNat rows.length=true:=Ru (by simp;omega);((conv=>whnf);repeat(refine Xg ?_;conv=>whnf));refine a7.at bC (fun j:Nat=>j<=bv.length)
      (fun j=>⟨[(1,.sl 0 0 bs.length),(2,.ptr 1 0 0),(4,.ptr 2 0 0),(5,.sl 3 0 rows.length),(6,.int .i64 k),(7,.ptr 4 0 0),(8,.sl 5 0 (gE (rows.take i) bv++(bv.take j).map fun v=>rw++[v]).length),(9,.int .i64 i),(10,.int .i64 j)],[(0,.row 151 2 (encLs bs)),(1,.row 62 12 [bU ⟨kind,name,lo,hi,ws,ls,vals,kids,.mk vk vn vs vks⟩]),(2,.row 151 2 [.agg [.nsl,.bool false]]),(3,.row 58 1 (mJ rows)),(4,.row 151 2 [lG ⟨bv,false⟩]),(5,.row 58 1 (mJ (gE (rows.take i) bv++(bv.take j).map fun v=>rw++[v])))],6,91⟩)
      (fun j=>bv.length-j) 0 [(0,0),(1,1),(2,2),(3,3),(4,4),(5,5)] (by simp)
      (aJ _ rfl ⟨⟨0,_,rfl,rfl,.same (encLs_nn bs)⟩,⟨1,_,rfl,rfl,.same (.cons (aW _) .nil)⟩,⟨2,_,rfl,rfl,.same dD⟩,⟨3,_,rfl,rfl,.same (iT _)⟩,⟨4,_,rfl,rfl,.same (.cons (mE _) .nil)⟩,⟨5,_,rfl,rfl,.eq (iT _) (by simp)⟩,trivial⟩ ⟨⟨_,rfl,.sl 0 0 0 _ rfl⟩,⟨_,rfl,.ptr 1 1 0 0 rfl⟩,⟨_,rfl,.ptr 2 2 0 0 rfl⟩,⟨_,rfl,.sl 3 3 0 _ rfl⟩,⟨_,rfl,.int rfl⟩,⟨_,rfl,.ptr 4 4 0 0 rfl⟩,⟨_,rfl,.slE rfl (by simp)⟩,⟨_,rfl,.int rfl⟩,⟨_,rfl,.int rfl⟩,trivial⟩) ?_
     intro j hj;have hX:(gE (rows.take i) bv).length<=1048576:=by
      rw[qO];exact Si (TE (show (rows.take i).length<=1024 by simp;omega) hbm.1) (by omega)
     ((conv=>whnf);repeat(refine Xg ?_;conv=>whnf));refine aO (fun h=>?_) (fun h=>?_)
     ·have hjl:j<bv.length:=FU h;obtain⟨p1,p2,p3,p4,pm,pg,pe,ep⟩:=cL (l:=bv) (k:=j) hjl;have hL:gE (rows.take i) bv++((bv.take (j+1)).map fun v=>rw++[v])=(gE (rows.take i) bv++(bv.take j).map fun v=>rw++[v])++[rw++[.mk p1 p2 p3 p4]]:=by
       rw[Rv hjl,pe];simp
      ((conv=>whnf);repeat(refine Xg ?_;conv=>whnf));repeat((first|refine aK b3 ?_|refine aC e3 ?_);(conv=>whnf);repeat(refine Xg ?_;conv=>whnf))
      refine aK (w9 rfl (by rw[aF];omega)) ?_;((conv=>whnf);repeat(refine Xg ?_;conv=>whnf));refine aC ep ?_;((conv=>whnf);repeat(refine Xg ?_;conv=>whnf));refine aK (bP rfl rfl (by simp) (by simp[aF];omega)) ?_;((conv=>whnf);repeat(refine Xg ?_;conv=>whnf));refine aK (bP rfl rfl (by rw[D7]) (by simp;omega)) ?_;((conv=>whnf);repeat(refine Xg ?_;conv=>whnf));exact .mk (j+1) [(0,0),(1,1),(2,2),(3,3),(4,4),(10,5)] (by omega)
       (aJ _ rfl ⟨⟨0,_,rfl,rfl,.same (encLs_nn bs)⟩,⟨1,_,rfl,rfl,.same (.cons (aW _) .nil)⟩,⟨2,_,rfl,rfl,.same dD⟩,⟨3,_,rfl,rfl,.same (iT _)⟩,⟨4,_,rfl,rfl,.same (.cons (mE _) .nil)⟩,⟨10,_,rfl,rfl,by rw[hL,HH];exact .snoc rfl (.same (iT _)) (.one rfl rfl (.fzR rfl rfl (.eq dD (by rw[eR];rfl)) (by simp[aF])))⟩,trivial⟩ ⟨⟨_,rfl,.sl 0 0 0 _ rfl⟩,⟨_,rfl,.ptr 1 1 0 0 rfl⟩,⟨_,rfl,.ptr 2 2 0 0 rfl⟩,⟨_,rfl,.sl 3 3 0 _ rfl⟩,⟨_,rfl,.int rfl⟩,⟨_,rfl,.ptr 4 4 0 0 rfl⟩,⟨_,rfl,.slE rfl (by rw[hL];simp only[Ro];rfl)⟩,⟨_,rfl,.int rfl⟩,⟨_,rfl,.wo⟩,trivial⟩) (by omega)
     ·have hje:j=bv.length:=by have:bv.length<=j:=Eu h;omega
      ((conv=>whnf);repeat(refine Xg ?_;conv=>whnf));exact .mk (i+1) [(0,0),(1,1),(2,2),(3,3),(4,4),(5,5)] (by omega)
       (aJ _ rfl ⟨⟨0,_,rfl,rfl,.same (encLs_nn bs)⟩,⟨1,_,rfl,rfl,.same (.cons (aW _) .nil)⟩,⟨2,_,rfl,rfl,.same dD⟩,⟨3,_,rfl,rfl,.same (iT _)⟩,⟨4,_,rfl,rfl,.same (.cons (mE _) .nil)⟩,⟨5,_,rfl,rfl,.eq (iT _) (by rw[hje,SD,Rv hir,←hrw];simp[gE])⟩,trivial⟩ ⟨⟨_,rfl,.sl 0 0 0 _ rfl⟩,⟨_,rfl,.ptr 1 1 0 0 rfl⟩,⟨_,rfl,.ptr 2 2 0 0 rfl⟩,⟨_,rfl,.sl 3 3 0 _ rfl⟩,⟨_,rfl,.int rfl⟩,⟨_,rfl,.ptr 4 4 0 0 rfl⟩,⟨_,rfl,.slE rfl (by rw[hje,SD,Rv hir,←hrw];simp[gE])⟩,⟨_,rfl,.wo⟩,trivial⟩) (by omega)
    ·have hie:i=rows.length:=by simp at h;omega
     have hmem:∀r∈gE rows bv,r.length<=k+1/\∀v∈r,iA v:=by
      intro r hr;simp only[gE,T5,SJ] at hr;obtain⟨r',hr',v,hv,rfl⟩:=hr;have:=hrr r' hr';refine⟨by simp;omega,fun u hu=>?_⟩;rcases R5.1 hu with hu|hu
      ·exact this.2 u hu
      ·simp at hu;rw[hu];exact hbm.2 v hv
     ((conv=>whnf);repeat(refine Xg ?_;conv=>whnf));exact .mk (k+1,gE rows bv) [(0,0),(1,1),(2,2),(5,3)] ⟨by simp only;omega,by rw[qO];exact hle,hmem,hro⟩
      (aJ _ rfl ⟨⟨0,_,rfl,rfl,.same (encLs_nn bs)⟩,⟨1,_,rfl,rfl,.same (.cons (aW _) .nil)⟩,⟨2,_,rfl,rfl,.same dD⟩,⟨5,_,rfl,rfl,.eq (iT _) (by rw[hie,SD])⟩,trivial⟩ ⟨⟨_,rfl,.sl 0 0 0 _ rfl⟩,⟨_,rfl,.ptr 1 1 0 0 rfl⟩,⟨_,rfl,.ptr 2 2 0 0 rfl⟩,⟨_,rfl,.slE rfl (by rw[hie,SD])⟩,⟨_,rfl,.w64 (by simp) ⟨by simp only;omega,by simp only;omega⟩⟩,trivial⟩) (by simp only;omega)
 ·have hke:k=kids.length:=by rw[aE] at h;simp at h;omega
  rw[hke,TZ,e6] at hro;((conv=>whnf);repeat(refine Xg ?_;conv=>whnf));refine a7.ph 60 4 ?_;refine a7.at bC (fun i:Nat=>i<=rows.length)
   (fun i=>⟨[(2,.ptr 1 0 0),(4,.ptr 2 0 0),(5,.sl 3 0 rows.length),(12,.sl 4 0 ((rows.take i).map (dJ name)).length),(13,.int .i64 i)],[(0,.row 151 2 (encLs bs)),(1,.row 62 12 [bU ⟨kind,name,lo,hi,ws,ls,vals,kids,.mk vk vn vs vks⟩]),(2,.row 151 2 [.agg [.nsl,.bool false]]),(3,.row 58 1 (mJ rows)),(4,.row 60 4 (aT ((rows.take i).map (dJ name))))],5,91⟩)
   (fun i=>rows.length-i) 0 [(0,0),(1,1),(2,2),(3,3),(4,4)] (by simp)
   (aJ _ rfl ⟨⟨0,_,rfl,rfl,.same (encLs_nn bs)⟩,⟨1,_,rfl,rfl,.same (.cons (aW _) .nil)⟩,⟨2,_,rfl,rfl,.same dD⟩,⟨3,_,rfl,rfl,.same (iT _)⟩,⟨4,_,rfl,rfl,.same .nil⟩,trivial⟩ ⟨⟨_,rfl,.ptr 1 1 0 0 rfl⟩,⟨_,rfl,.ptr 2 2 0 0 rfl⟩,⟨_,rfl,.sl 3 3 0 _ rfl⟩,⟨_,rfl,.nslk 4 4 _ rfl rfl⟩,⟨_,rfl,.int rfl⟩,trivial⟩) ?_
  intro i hi0;((conv=>whnf);repeat(refine Xg ?_;conv=>whnf));refine aO (fun h=>?_) (fun h=>?_)
  ·have hir:i<rows.length:=by simpa using h
   obtain⟨rw,hrw⟩:∃rw,rw=rows[i]:=⟨_,rfl⟩
   have e3:(mJ rows)[0+(i:Int).toNat]? = some (.il 4 (aT rw)):=by rw[SF,Rq,mJ,So,Rm hir,hrw];rfl
   have b3:Nat.blt (i:Int).toNat rows.length=true:=Ru (by simp;omega);have hM:=N7 ⟨kind,name,lo,hi,ws,ls,vals,kids,.mk vk vn vs vks⟩ rw;have hL:(rows.take (i+1)).map (dJ name)=(rows.take i).map (dJ name)++[dJ name rw]:=by rw[Rv hir,←hrw];simp
   simp only at hM;obtain⟨⟨m1,m2,m3,m4⟩,hmv⟩:∃mv,mv=dJ name rw:=⟨_,rfl⟩
   rw[←hmv] at hM hL;((conv=>whnf);repeat(refine Xg ?_;conv=>whnf));repeat((first|refine aD ?_|refine aK b3 ?_|refine aC e3 ?_);(conv=>whnf);repeat(refine Xg ?_;conv=>whnf))
   refine hM.go ?_ (.cons (aW ⟨kind,name,lo,hi,ws,ls,vals,kids,.mk vk vn vs vks⟩) dD);((conv=>whnf);repeat(refine Xg ?_;conv=>whnf));refine aK (bP rfl rfl (by rw[aF]) (by simp;omega)) ?_;((conv=>whnf);repeat(refine Xg ?_;conv=>whnf));repeat((first|refine aD ?_|refine aK b3 ?_|refine aC e3 ?_);(conv=>whnf);repeat(refine Xg ?_;conv=>whnf))
   exact .mk (i+1) [(0,0),(1,1),(2,2),(3,3),(15,4)] (by omega)
    (aJ _ rfl ⟨⟨0,_,rfl,rfl,.same (encLs_nn bs)⟩,⟨1,_,rfl,rfl,.same (.cons (aW _) .nil)⟩,⟨2,_,rfl,rfl,.same dD⟩,⟨3,_,rfl,rfl,.same (iT _)⟩,⟨15,_,rfl,rfl,.eq dD (by rw[hL,eR];rfl)⟩,trivial⟩ ⟨⟨_,rfl,.ptr 1 1 0 0 rfl⟩,⟨_,rfl,.ptr 2 2 0 0 rfl⟩,⟨_,rfl,.sl 3 3 0 _ rfl⟩,⟨_,rfl,.slE rfl (by rw[hL];simp)⟩,⟨_,rfl,.wo⟩,trivial⟩) (by omega)
  ·have hie:i=rows.length:=by simp at h;omega
   rw[hie,SD];have hmo:∀v∈rows.map (dJ name),iA v:=by
    intro v hv;obtain⟨r,hr,rfl⟩:=SJ.1 hv;have:=hrr r hr;exact Bi hname (by omega) this.2
   have hS:=Oq (rows.map (dJ name)) (by simp;omega) hmo;have hseq2:oK bs ⟨kind,name,lo,hi,ws,ls,vals,kids,.mk vk vn vs vks⟩=⟨eJ (rows.map (dJ name)),false⟩:=by rw[hseq,hro]
   rw[hseq2];generalize rows.map (dJ name)=mv at hS ⊢;generalize eJ mv=sv at hS ⊢;((conv=>whnf);repeat(refine Xg ?_;conv=>whnf));refine aM.pre bC [(0,0),(1,1),(2,2),(3,3)] (mem':=[(0,.row 151 2 (encLs bs)),(1,.row 62 12 [bU ⟨kind,name,lo,hi,ws,ls,vals,kids,.mk vk vn vs vks⟩]),(2,.row 151 2 [.agg [.nsl,.bool false]]),(3,.row 58 1 (mJ rows))]) (args':=[.il 4 (aT mv)]) rfl
    ⟨⟨0,_,rfl,rfl,.same (encLs_nn bs)⟩,⟨1,_,rfl,rfl,.same (.cons (aW _) .nil)⟩,⟨2,_,rfl,rfl,.same dD⟩,⟨3,_,rfl,rfl,.same (iT _)⟩,trivial⟩ (.cons (.fz' rfl rfl (by rw[aF];omega) (by rw[SS];exact SA (by rw[aF];omega)) dD) .nil) ?_
   refine hS.go ?_;((conv=>whnf);repeat(refine Xg ?_;conv=>whnf));exact bK (r':=lG ⟨sv,false⟩) (n':=1) (m':=[(0,.row 151 2 (encLs bs))]) [(0,0)] rfl ⟨⟨0,_,rfl,rfl,.same (encLs_nn bs)⟩,trivial⟩ (.same _ (mE ⟨sv,false⟩)) ⟨rfl,rfl⟩
set_option maxHeartbeats 8000000
theorem LJ(x:Nd)(bs:List gR)(h3:x.kind=3)(hname:x.name.length<=4294967296)(hkl:x.kids.length<=65536)(hk:∀(j:Nat) (k:Int),x.kids[j]? = some k->0<=k/\k<bs.length)(hb:∀b∈bs,b.vals.length<=1024/\∀v∈b.vals,iA v) :
  aM prog [] 133 [bU x,.sl 0 0 bs.length] [(0,.row 151 2 (encLs bs))] 1 fun r m _=>r=lG (cW x bs)/\m=[(0,.row 151 2 (encLs bs))]:=by
 have hS:=RS x bs hname hkl hk hb;have e:cW x bs=oK bs x:=by unfold cW;rw[Rp (by omega),Rp (by omega),Rx h3]
 rw[e];generalize oK bs x=q at hS ⊢;obtain⟨sv,sm⟩:=q;have hnn:=aW x;obtain⟨kind,name,lo,hi,ws,ls,vals,kids,⟨vk,vn,vs,vks⟩⟩:=x;simp only at h3;subst h3;refine aL bC func133 rfl ?_;((conv=>whnf);repeat(refine Xg ?_;conv=>whnf));refine aM.use1 bC hS 0 rfl (encLs_nn bs) (.cons (.same _ hnn) (.cons (.sl 0 0 0 _ rfl) .nil)) ?_;rintro r m n ⟨rfl,rfl⟩;refine⟨_,rfl,mE _,encLs_nn bs, ?_⟩;((conv=>whnf);repeat(refine Xg ?_;conv=>whnf));exact bK (r':=lG ⟨sv,sm⟩) (n':=1) (m':=[(0,.row 151 2 (encLs bs))]) [(0,0)] rfl ⟨⟨0,_,rfl,rfl,.same (encLs_nn bs)⟩,trivial⟩ (.same _ (mE ⟨sv,sm⟩)) ⟨rfl,rfl⟩
theorem Nw(i:Nat)(x:Nd)(bs:List gR)(hx:iN i x)(hl:i=bs.length)(hb:DA bs) :
  aM prog [] 133 [bU x,.sl 0 0 bs.length] [(0,.row 151 2 (encLs bs))] 1 fun r m _=>r=lG (cW x bs)/\m=[(0,.row 151 2 (encLs bs))]:=by
 subst hl;have hk:=hx.kids;have hn:=cA hx.num;rcases(show x.kind=0∨x.kind=1∨x.kind=2∨x.kind=3∨x.kind=4 by have:=hx.kind;omega) with h|h|h|h|h
 ·exact Jk x bs h
 ·exact HA x bs h hn.2.1 hn.1 hn.2.2.1 hn.2.2.2
 ·exact Jp x bs h hx.klen hk hb
 ·exact LJ x bs h hx.ok.name hx.klen hk hb
 ·exact JN x bs h hx.klen hk hb
abbrev tM(ns:List Nd):aS:=[(0,.row 62 12 (aR ns))]
theorem rP{l:List Nd}{k n:Nat}(h:k<l.length)(hn:l.length=n):∃x,l[k]? = some x/\l[k]=x/\(aR l)[0+(k:Int).toNat]? = some (bU x)/\Nat.blt (k:Int).toNat n=true:=
 ⟨l[k],Rm h,rfl,by simp[nJ,Rm h],Ru (by simp;omega)⟩
theorem PO(ns:List Nd)(n:Nat)(hn:n<=ns.length)(hl:ns.length<=100000)(hg:∀(i:Nat) (x:Nd),i<n->ns[i]? = some x->iN i x) :
  aM prog [] 113 [.agg [.sl 0 0 ns.length],.int .i64 n] (tM ns) 1 fun r m k=>r = .sl 1 0 n/\m=[(0,.row 62 12 (aR ns)),(1,.row 151 2 (encLs (aP (ns.take n))))]/\k=2:=by
 refine aL bC func113 rfl ?_;((conv=>whnf);repeat(refine Xg ?_;conv=>whnf));refine a7.ph 151 2 ?_;refine a7.at bC (fun i:Nat=>i<=n)
  (fun i=>⟨[(1,.int .i64 n),(2,.ptr 1 0 0),(5,.sl 2 0 i),(6,.int .i64 i)],[(0,.row 62 12 (aR ns)),(1,.row 44 1 [.agg [.sl 0 0 ns.length]]),(2,.row 151 2 (encLs (aP (ns.take i))))],3,23⟩)
  (fun i=>n-i) 0 [(0,0),(1,1),(2,2)] (by simp)
  (aJ _ rfl ⟨⟨0,_,rfl,rfl,.same (aQ _)⟩,⟨1,_,rfl,rfl,.cons (.agg (.cons (.sl 0 0 0 _ rfl) .nil)) .nil⟩,⟨2,_,rfl,rfl,.same .nil⟩,trivial⟩ ⟨aH,⟨_,rfl,.ptr 1 1 0 0 rfl⟩,⟨_,rfl,.nslk 2 2 _ rfl rfl⟩,aH,trivial⟩) ?_
 intro i hi;((conv=>whnf);repeat(refine Xg ?_;conv=>whnf));refine aO (fun h=>?_) (fun h=>?_)
 ·have hin:i<n:=by simp at h;omega
  obtain⟨x,hx1,hx2,ex,bx⟩:=rP (l:=ns) (k:=i) (n:=ns.length) (by omega) rfl;have hgx:=hg i x hin hx1;have htl:(aP (ns.take i)).length=i:=by rw[eB];simp;omega
  have hL:=Nw i x (aP (ns.take i)) hgx htl.symm (iQ _ fun j y hy=>by
   have hj:=(Rt.1 hy).1;rw[Go.Ax.ST,Rx (by simp at hj;omega)] at hy;exact hg j y (by simp at hj;omega) hy)
  have hnx:aP (ns.take (i+1))=aP (ns.take i)++[cW x (aP (ns.take i))]:=by rw[Rv (by omega),hx2,gV]
  have hxn:=aW x;have hxc:(bU x).cells.length=12:=by obtain⟨kind,name,lo,hi,ws,ls,vals,kids,⟨vk,vn,vs,vks⟩⟩:=x;rfl
  generalize cW x (aP (ns.take i))=nl at hL hnx;obtain⟨bs,hbs⟩:∃bs,bs=aP (ns.take i):=⟨_,rfl⟩
  rw[←hbs] at hL hnx htl ⊢;obtain⟨kind,name,lo,hi,ws,ls,vals,kids,⟨vk,vn,vs,vks⟩⟩:=x;((conv=>whnf);repeat(refine Xg ?_;conv=>whnf));repeat((first|refine aK bx ?_|refine aC ex ?_);(conv=>whnf);repeat(refine Xg ?_;conv=>whnf))
  refine aM.use1 bC hL 2 rfl (encLs_nn bs) (.cons (.same _ hxn) (.cons (.slE rfl htl.symm) .nil)) ?_;rintro r m k ⟨rfl,rfl⟩;refine⟨_,rfl,mE _,encLs_nn bs, ?_⟩;((conv=>whnf);repeat(refine Xg ?_;conv=>whnf));refine aK (bP rfl rfl (by rw[encLs_length,htl]) (by simp;omega)) ?_;((conv=>whnf);repeat(refine Xg ?_;conv=>whnf));exact .mk (i+1) [(0,0),(1,1),(4,2)] (by omega)
   (aJ _ rfl ⟨⟨0,_,rfl,rfl,.same (aQ _)⟩,⟨1,_,rfl,rfl,.cons (.agg (.cons (.sl 0 0 0 _ rfl) .nil)) .nil⟩,⟨4,_,rfl,rfl,.eq (encLs_nn _) (by rw[hnx];simp[encLs])⟩,trivial⟩ ⟨aH,⟨_,rfl,.ptr 1 1 0 0 rfl⟩,⟨_,rfl,.slE rfl (by simp)⟩,⟨_,rfl,.wo⟩,trivial⟩) (by omega)
 ·have hin:i=n:=by simp at h;omega
  subst hin;((conv=>whnf);repeat(refine Xg ?_;conv=>whnf));exact bK (r':=.sl 1 0 i) (n':=2) (m':=[(0,.row 62 12 (aR ns)),(1,.row 151 2 (encLs (aP (ns.take i))))]) [(0,0),(2,1)] rfl ⟨⟨0,_,rfl,rfl,.same (aQ _)⟩,⟨2,_,rfl,rfl,.same (encLs_nn _)⟩,trivial⟩ (.sl 2 1 0 _ rfl) ⟨rfl,rfl,rfl⟩
set_option maxHeartbeats 8000000
theorem Db{ns:List Nd}{i:Nat}(hi:i<ns.length):(aP (ns.take (i+1)))[i]? = some (c9 (aP (ns.take (i+1))) i):=by
 have:i<(aP (ns.take (i+1))).length:=by rw[eB];simp;omega
 unfold c9;rw[Rn,Rq,Rm this];rfl
theorem H3(ns:List Nd)(i:Nat)(hi:i<ns.length)(hl:ns.length<=100000)(hg:∀(j:Nat) (x:Nd),j<i+1->ns[j]? = some x->iN j x) :
  aM prog [] 92 [.agg [.sl 0 0 ns.length],.int .i64 i] (tM ns) 1 fun r m _=>r = .tup [.il 4 (aT (c9 (aP (ns.take (i+1))) i).vals),.bool (!(c9 (aP (ns.take (i+1))) i).many)]/\m=tM ns:=by
 have hL:=PO ns (i+1) (by omega) hl hg;have hw:IntKind.i64.wrap ((i:Int)+1)=((i+1:Nat):Int):=w64 (by omega) ⟨by omega,by omega⟩;have hat:=Db hi;have hlen:(aP (ns.take (i+1))).length=i+1:=by rw[eB];simp;omega
 generalize c9 (aP (ns.take (i+1))) i=b at hat ⊢;generalize aP (ns.take (i+1))=bs at hL hat hlen;obtain⟨bv,bm⟩:=b;have e2:(encLs bs)[0+((i:Nat):Int).toNat]? = some (lG ⟨bv,bm⟩):=by rw[SF,Rq,encLs_get,hat];rfl
 have b2:Nat.blt ((i:Nat):Int).toNat (i+1)=true:=Ru (by simp);refine aL bC func92 rfl ?_;((conv=>whnf);repeat(refine Xg ?_;conv=>whnf));rw[hw];refine aM.useN bC [(0,0)] hL rfl (.cons (.agg' (.cons (.sl 0 0 0 _ rfl) .nil)) (.s .nil)) ⟨⟨0,_,rfl,rfl,.same (aQ _)⟩,trivial⟩ rfl ?_;rintro r m k ⟨rfl,rfl,rfl⟩;refine⟨[(0,0),(1,2)],.sl 2 0 (i+1),[(0,.row 62 12 (aR ns)),(2,.row 151 2 (encLs bs))],3,.sl 1 2 0 _ rfl,⟨⟨0,_,rfl,rfl,.same (aQ _)⟩,⟨1,_,rfl,rfl,.same (encLs_nn _)⟩,trivial⟩,rfl, ?_⟩;((conv=>whnf);repeat(refine Xg ?_;conv=>whnf));repeat((first|refine aD ?_|refine aK b2 ?_|refine aC e2 ?_);(conv=>whnf);repeat(refine Xg ?_;conv=>whnf))
 exact bK (r':=.tup [.il 4 (aT bv),.bool (!bm)]) (n':=1) (m':=tM ns) [(0,0)] rfl ⟨⟨0,_,rfl,rfl,.same (aQ _)⟩,trivial⟩ (.same _ nn) ⟨rfl,rfl⟩
theorem O6(ns:List Nd)(x:Nd)(i:Nat)(hi:i<=ns.length)(hl:ns.length<=100000)(hg:∀(j:Nat) (x:Nd),j<i->ns[j]? = some x->iN j x)(hx:rL x)(hk0:0<x.kids.length)(hk:∀(j:Nat) (k:Int),x.kids[j]? = some k->0<=k/\k<i) :
  aM prog [] 68 [.agg [.sl 0 0 ns.length],bU x] (tM ns) 1 fun r m _=>r = .int .i64 (e8 ns x)/\m=tM ns:=by
 obtain⟨q,hq⟩:∃q,x.kids[0]? = some q:=⟨x.kids[0],Rm hk0⟩
 obtain⟨q1,q2⟩:=hk 0 q hq;obtain⟨qn,rfl⟩:=R7 q1;have hgd:x.kids.getD 0 0=qn:=by rw[Rn,hq];rfl
 have hV:=H3 ns qn (by omega) hl fun j y hj hy=>hg j y (by omega) hy
 have hbl:=pM (iQ (ns.take (qn+1)) fun j y hy=>hg j y (by have:=(Go.Ax.f9 hy).2;omega) (Go.Ax.f9 hy).1) qn;have hbe:e8 ns x=if (c9 (aP (ns.take (qn+1))) qn).many=true then 4 else if dU (c9 (aP (ns.take (qn+1))) qn).vals x.values=true then 0 else 1:=by
  unfold e8;simp only[hgd,Rq]
 rw[hbe];generalize c9 (aP (ns.take (qn+1))) qn=b at hV hbl ⊢;obtain⟨bv,bm⟩:=b;simp only at hV hbl ⊢;have hS:=Ic bv x.values (by omega) hbl.2;generalize dU bv x.values=sm at hS ⊢;have ek:(aI x.kids)[(0:Int).toNat]? = some (.int .i64 (qn:Int)):=by rw[bG];simp[hq]
 obtain⟨kind,name,lo,hi',ws,ls,vals,kids,⟨vk,vn,vs,vks⟩⟩:=x;simp only at hS ek;refine aL bC func68 rfl ?_;((conv=>whnf);repeat(refine Xg ?_;conv=>whnf));repeat((first|refine aD ?_|refine aC ek ?_);(conv=>whnf);repeat(refine Xg ?_;conv=>whnf))
 refine aM.use1 bC hV 0 rfl (aQ _) (.cons (.agg' (.cons (.sl 0 0 0 _ rfl) .nil)) (.s .nil)) ?_;rintro r m k ⟨rfl,rfl⟩;refine⟨_,rfl,nn,aQ _, ?_⟩;cases bm with
 | true=>
  ((conv=>whnf);repeat(refine Xg ?_;conv=>whnf));repeat((first|refine aD ?_|refine aC ek ?_);(conv=>whnf);repeat(refine Xg ?_;conv=>whnf))
  exact bK (r':=.int .i64 4) (n':=1) (m':=tM ns) [(0,0)] rfl ⟨⟨0,_,rfl,rfl,.same (aQ _)⟩,trivial⟩ (.same _ nn) ⟨rfl,rfl⟩
 | false=>
  ((conv=>whnf);repeat(refine Xg ?_;conv=>whnf));repeat((first|refine aD ?_|refine aC ek ?_);(conv=>whnf);repeat(refine Xg ?_;conv=>whnf))
  refine hS.go ?_;cases sm with
  | true=>
   ((conv=>whnf);repeat(refine Xg ?_;conv=>whnf));exact bK (r':=.int .i64 0) (n':=1) (m':=tM ns) [(0,0)] rfl ⟨⟨0,_,rfl,rfl,.same (aQ _)⟩,trivial⟩ (.same _ nn) ⟨rfl,rfl⟩
  | false=>
   ((conv=>whnf);repeat(refine Xg ?_;conv=>whnf));exact bK (r':=.int .i64 1) (n':=1) (m':=tM ns) [(0,0)] rfl ⟨⟨0,_,rfl,rfl,.same (aQ _)⟩,trivial⟩ (.same _ nn) ⟨rfl,rfl⟩
theorem O1(ns:List Nd)(hl:ns.length<=100000)(ho:∀x∈ns,rL x/\x.values.length<=4294967290) :
  aM prog [] 42 [.agg [.sl 0 0 ns.length]] (tM ns) 1 fun r m _=>r = .int .i64 (cP ns)/\m=tM ns:=by
 have hfin:∀(e:Int) (mem:aS) (nx:Nat),lk mem 0=some (.row 62 12 (aR ns))->e=cP ns->lE 1 (fun r m (_:Nat)=>r = .int .i64 (cP ns)/\m=tM ns) (.int .i64 e) mem nx:=by
  intro e mem nx h0 he;exact bK (r':=.int .i64 e) (n':=1) (m':=tM ns) [(0,0)] rfl ⟨⟨0,_,rfl,h0,.same (aQ _)⟩,trivial⟩ (.same _ nn) ⟨by rw[he],rfl⟩
 refine aL bC func42 rfl ?_;((conv=>whnf);repeat(refine Xg ?_;conv=>whnf));refine aO (fun h=>?_) (fun h=>?_)
 ·have h1:4096<ns.length:=by simp at h;omega
  ((conv=>whnf);repeat(refine Xg ?_;conv=>whnf));exact hfin _ _ _ rfl (by unfold cP;rw[Rx h1])
 ·have h1:¬4096<ns.length:=by simp at h;omega
  have hvt:cP ns=b9 [] ns:=by unfold cP;rw[Rp h1]
  ((conv=>whnf);repeat(refine Xg ?_;conv=>whnf));refine a7.ph 3 1 ?_;refine a7.ph 3 1 ?_;refine a7.at bC (fun i:Nat=>i<=ns.length/\b9 [] (ns.take i)=0)
   (fun i=>⟨[(1,.ptr 1 0 0),(3,.sl 2 0 i),(4,.sl 3 0 i),(5,.int .i64 i)],[(0,.row 62 12 (aR ns)),(1,.row 44 1 [.agg [.sl 0 0 ns.length]]),(2,.row 3 1 (aI (aX (ns.take i)))),(3,.row 3 1 (aI (cM (ns.take i))))],4,57⟩)
   (fun i=>ns.length-i) 0 [(0,0),(1,1),(2,2),(3,3)] ⟨by simp,by simp[b9]⟩
   (aJ _ rfl ⟨⟨0,_,rfl,rfl,.same (aQ _)⟩,⟨1,_,rfl,rfl,.cons (.agg (.cons (.sl 0 0 0 _ rfl) .nil)) .nil⟩,⟨2,_,rfl,rfl,.same .nil⟩,⟨3,_,rfl,rfl,.same .nil⟩,trivial⟩ ⟨⟨_,rfl,.ptr 1 1 0 0 rfl⟩,⟨_,rfl,.nslk 2 2 _ rfl rfl⟩,⟨_,rfl,.nslk 3 3 _ rfl rfl⟩,aH,trivial⟩) ?_
  rintro i ⟨hi,hv0⟩;((conv=>whnf);repeat(refine Xg ?_;conv=>whnf));refine aO (fun h=>?_) (fun h=>?_)
  ·have hin:i<ns.length:=by simp at h;omega
   obtain⟨x,hx1,hx2,ex,bx⟩:=rP (l:=ns) (k:=i) (n:=ns.length) hin rfl;have hxm:=R3 hx1;obtain⟨hxo,hxv⟩:=ho x hxm;have hsplit:ns=ns.take i++x::ns.drop (i+1):=by rw[←hx2,←SH hin,Go.Ax.SW]
   have hti:(ns.take i).length=i:=by simp;omega
   have htn:ns.take (i+1)=ns.take i++[x]:=by rw[Rv hin,hx2]
   have hgood:=jT (ns.take i) (fun y hy=>(ho y (Se hy)).1) hv0;obtain⟨hls,hss⟩:=g6 (ns.take i) hv0;have hll:(aX (ns.take i)).length=i:=by rw[eY,hti]
   have hsl:(cM (ns.take i)).length=i:=by rw[i5,hti]
   have hstop:=fun hs=>s9 (l:=ns.take i) (r:=ns.drop (i+1)) (x:=x) hv0 hs
   rw[←hsplit] at hstop;have hgo:=fJ [] (ns.take i) x hv0;rw[SY,←htn] at hgo;have hN:=Nr i x (by omega) hxo hxv;have hlt:=gC (ns.take i) x;have hst:=j7 (ns.take i) x;rw[←htn] at hlt hst;have hse:gJ (ns.take i) (aX (ns.take i)) (cM (ns.take i)) x=if fE i x≠0 then fE i x else if 256<eU (aX (ns.take i)) x∨1024<jY (cM (ns.take i)) x then 4 else if x.kind=4 then e8 (ns.take i) x else 0:=by
    unfold gJ;rw[hti]
   have hbnd:(0<x.kids.length/\∀(j:Nat) (k:Int),x.kids[j]? = some k->0<=k/\k<i)->e8 (ns.take i) x=e8 ns x:=by
    rintro⟨h0,hk⟩;obtain⟨q,hq⟩:∃q,x.kids[0]? = some q:=⟨x.kids[0],Rm h0⟩
    obtain⟨q1,q2⟩:=hk 0 q hq;have hgd:x.kids.getD 0 0=q:=by rw[Rn,hq];rfl
    unfold e8;simp only[hgd];rw[To,Tm (by omega)]
   have hxn:=aW x;obtain⟨ne,hne⟩:∃ne,ne=fE i x:=⟨_,rfl⟩
   rw[←hne] at hN hse;by_cases n0:ne=0
   ·subst n0;have hok:=kQ hne.symm;have h4:4<=x.kind->0<x.kids.length:=fun h=>by have:=hok.bind (by have:=hok.kind;omega);omega
    have hL:=Fg (aX (ns.take i)) x hxo (by omega) hls (by rw[hll];exact hok.kids) h4 hok.kind;have hS:=K0 (cM (ns.take i)) x hxo (by omega) hss (by rw[hsl];exact hok.kids) h4 hok.kind;have hB:=O6 ns x i (by omega) hl (fun j y hj hy=>hgood j y (by rw[Go.Ax.ST,Rx hj];exact hy)) hxo;rw[Rp (by simp)] at hse;generalize aX (ns.take i)=lsI at hL hll hlt hse hstop hgo hls ⊢;generalize cM (ns.take i)=ssI at hS hsl hst hse hstop hgo hss ⊢;generalize eU lsI x=ln at hL hlt hse;generalize jY ssI x=sn at hS hst hse;obtain⟨kind,name,lo,hi',ws,ls,vals,kids,⟨vk,vn,vs,vks⟩⟩:=x;simp only at hse h4 hB hbnd hok;((conv=>whnf);repeat(refine Xg ?_;conv=>whnf));repeat((first|refine aK bx ?_|refine aC ex ?_);(conv=>whnf);repeat(refine Xg ?_;conv=>whnf))
    refine hN.go ?_ (.cons (.int _ _) (.cons hxn .nil));((conv=>whnf);repeat(refine Xg ?_;conv=>whnf));refine aM.useApp bC hL 2 rfl (aG _) (.cons (.slE rfl hll.symm) (.cons (.same _ hxn) .nil)) ?_;rintro len ys ⟨rfl,rfl⟩;((conv=>whnf);repeat(refine Xg ?_;conv=>whnf));refine aM.useApp bC hS 3 rfl (aG _) (.cons (.slE rfl hsl.symm) (.cons (.same _ hxn) .nil)) ?_;rintro len ys ⟨rfl,rfl⟩;have el:(aI (lsI++[ln]))[0+((i:Nat):Int).toNat]? = some (.int .i64 ln):=by simp[aI,hll]
    have bl:Nat.blt ((i:Nat):Int).toNat (lsI.length+1)=true:=Ru (by simp;omega);have es:(aI (ssI++[sn]))[0+((i:Nat):Int).toNat]? = some (.int .i64 sn):=by simp[aI,hsl]
    have bs':Nat.blt ((i:Nat):Int).toNat (ssI.length+1)=true:=Ru (by simp;omega);((conv=>whnf);repeat(refine Xg ?_;conv=>whnf));repeat((first|refine aK bl ?_|refine aC el ?_);(conv=>whnf);repeat(refine Xg ?_;conv=>whnf))
    refine aO (fun h2=>?_) (fun h2=>?_)
    ·have h3:256<ln:=by simpa using h2
     rw[h2];rw[Rx (.inl h3)] at hse;have hres:=hstop (by rw[hse];omega);((conv=>whnf);repeat(refine Xg ?_;conv=>whnf));exact hfin _ _ _ rfl (by rw[hvt,hres,hse])
    ·have h3:¬256<ln:=by simpa using h2
     rw[h2];((conv=>whnf);repeat(refine Xg ?_;conv=>whnf));repeat((first|refine aK bs' ?_|refine aC es ?_);(conv=>whnf);repeat(refine Xg ?_;conv=>whnf))
     refine aO (fun h4'=>?_) (fun h4'=>?_)
     ·have h5:1024<sn:=by simpa using h4'
      rw[h4'];rw[Rx (.inr h5)] at hse;have hres:=hstop (by rw[hse];omega);((conv=>whnf);repeat(refine Xg ?_;conv=>whnf));exact hfin _ _ _ rfl (by rw[hvt,hres,hse])
     ·have h5:¬1024<sn:=by simpa using h4'
      rw[h4'];rw[Rp (by omega)] at hse;by_cases k4:kind=4
      ·rw[Rx k4] at hse;have h40:=h4 (by omega);have hB:=hB h40 hok.kids;rw[hbnd ⟨h40,hok.kids⟩] at hse;generalize e8 ns ⟨kind,name,lo,hi',ws,ls,vals,kids,.mk vk vn vs vks⟩=be at hB hse;subst k4;((conv=>whnf);repeat(refine Xg ?_;conv=>whnf));refine aM.use1 bC hB 0 rfl (aQ _) (.cons (.agg' (.cons (.sl 0 0 0 _ rfl) .nil)) (.cons (.same _ hxn) .nil)) ?_;rintro r m k ⟨rfl,rfl⟩;refine⟨_,rfl,nn,aQ _, ?_⟩;by_cases be0:be=0
       ·subst be0;rw[hse] at hgo;((conv=>whnf);repeat(refine Xg ?_;conv=>whnf));exact .mk (i+1) [(0,0),(1,1),(5,2),(6,3)] ⟨by omega,hgo⟩
         (aJ _ rfl ⟨⟨0,_,rfl,rfl,.same (aQ _)⟩,⟨1,_,rfl,rfl,.cons (.agg (.cons (.sl 0 0 0 _ rfl) .nil)) .nil⟩,⟨5,_,rfl,rfl,.eq (aG _) (by rw[hlt])⟩,⟨6,_,rfl,rfl,.eq (aG _) (by rw[hst])⟩,trivial⟩ ⟨⟨_,rfl,.ptr 1 1 0 0 rfl⟩,⟨_,rfl,.slE rfl (by rw[hll])⟩,⟨_,rfl,.slE rfl (by rw[hsl])⟩,⟨_,rfl,.wo⟩,trivial⟩) (by omega)
       ·have d5:(be != 0)=true:=by simpa using be0
        have hres:=hstop (by rw[hse];exact be0);((conv=>whnf);repeat(refine Xg ?_;conv=>whnf));rw[d5];((conv=>whnf);repeat(refine Xg ?_;conv=>whnf));exact hfin _ _ _ rfl (by rw[hvt,hres,hse])
      ·rw[Rp k4] at hse;have d4:(kind == 4)=false:=by simpa using k4
       rw[hse] at hgo;((conv=>whnf);repeat(refine Xg ?_;conv=>whnf));rw[d4];((conv=>whnf);repeat(refine Xg ?_;conv=>whnf));exact .mk (i+1) [(0,0),(1,1),(5,2),(6,3)] ⟨by omega,hgo⟩
        (aJ _ rfl ⟨⟨0,_,rfl,rfl,.same (aQ _)⟩,⟨1,_,rfl,rfl,.cons (.agg (.cons (.sl 0 0 0 _ rfl) .nil)) .nil⟩,⟨5,_,rfl,rfl,.eq (aG _) (by rw[hlt])⟩,⟨6,_,rfl,rfl,.eq (aG _) (by rw[hst])⟩,trivial⟩ ⟨⟨_,rfl,.ptr 1 1 0 0 rfl⟩,⟨_,rfl,.slE rfl (by rw[hll])⟩,⟨_,rfl,.slE rfl (by rw[hsl])⟩,⟨_,rfl,.wo⟩,trivial⟩) (by omega)
   ·have d1:(ne != 0)=true:=by simpa using n0
    have hse':=hse;rw[Rx n0] at hse';have hres:=hstop (by rw[hse'];exact n0);rw[hse'] at hres;obtain⟨kind,name,lo,hi',ws,ls,vals,kids,⟨vk,vn,vs,vks⟩⟩:=x;((conv=>whnf);repeat(refine Xg ?_;conv=>whnf));repeat((first|refine aK bx ?_|refine aC ex ?_);(conv=>whnf);repeat(refine Xg ?_;conv=>whnf))
    refine hN.go ?_ (.cons (.int _ _) (.cons hxn .nil));((conv=>whnf);repeat(refine Xg ?_;conv=>whnf));rw[d1];((conv=>whnf);repeat(refine Xg ?_;conv=>whnf));exact hfin _ _ _ rfl (by rw[hvt,hres])
  ·have hin:i=ns.length:=by simp at h;omega
   subst hin;rw[SD] at hv0;((conv=>whnf);repeat(refine Xg ?_;conv=>whnf));exact hfin _ _ _ rfl (by rw[hvt,hv0])
set_option maxHeartbeats 8000000
def zV:bB:=.mk 0 0 [] []
def F7(v:bB):Nd:=⟨0,[],0,0,[],[],[],[],v⟩
def z6(ns:List Nd)(l:List Int)(i k:Int):Nd:=
 let b:=c9 (aP (ns.take ((kidI l i 0).toNat+1))) (kidI l i 0)
 if b.many=true∨6<b.vals.length then F7 (uO k) else⟨4,[],0,0,[],[],b.vals,kidI l i 0::(List.range b.vals.length).map fun j:Nat=>kidI l i ((j:Int)+1),zV⟩
theorem nP{l:List Int}{i j:Int}(hi:1<=i):0<=kidI l i j/\kidI l i j<i:=by
 unfold kidI;have hp:=eG (l:=l) (i:=3*i+j+2) (most:=1000000) (by omega);split
 ·exact⟨Tf _ (TF hp.1 (by omega)),TY _ (by omega)⟩
 ·have h0:0<=((gB l (3*i+j+2) 1000000).tdiv 3).tmod 3:=Tf _ (TF hp.1 (by omega));omega
theorem QH(ns:List Nd)(l:List Int)(k:Int)(hl:∀x∈l,i64 x)(h1:1<=ns.length)(h2:ns.length<=1000)(hk0:0<=k)(hk1:k<=1000000)(hg:∀(j:Nat) (x:Nd),ns[j]? = some x->iN j x) :
    aM prog [] 64 [.agg [.sl 0 0 ns.length],.il 1 (aI l),.int .i64 ns.length,.int .i64 k] (tM ns) 1 fun r m _=>r=bU (z6 ns l ns.length k)/\m=tM ns:=by
  have hfin:∀(x:Nd) (r:AV) (mem:aS) (nx:Nat),lk mem 0=some (.row 62 12 (aR ns))->Cv mem [(0,0)] r (bU x)->x=z6 ns l ns.length k->lE 1 (fun r m (_:Nat)=>r=bU (z6 ns l ns.length k)/\m=tM ns) r mem nx:=by
    intro x r mem nx h0 hr hx;exact bK (r':=bU x) (n':=1) (m':=tM ns) [(0,0)] rfl ⟨⟨0,_,rfl,h0,.same (aQ _)⟩,trivial⟩ hr ⟨by rw[hx],rfl⟩
  have hK0:=KN l ns.length 0 hl (by omega) (by omega) (by omega) (by omega);obtain⟨q1,q2⟩:=nP (l:=l) (i:=(ns.length:Int)) (j:=0) (by omega);obtain⟨q,hq⟩:=R7 q1;have hb:z6 ns l ns.length k=if (c9 (aP (ns.take (q+1))) q).many=true∨6<(c9 (aP (ns.take (q+1))) q).vals.length then F7 (uO k) else⟨4,[],0,0,[],[],(c9 (aP (ns.take (q+1))) q).vals,(q:Int)::(List.range (c9 (aP (ns.take (q+1))) q).vals.length).map fun j:Nat=>kidI l ns.length ((j:Int)+1),zV⟩:=by
    unfold z6;simp only[hq,Rq]
  have hV:=H3 ns q (by omega) (by omega) fun j y _ hy=>hg j y hy
  rw[hq] at hK0;simp only[hb] at hfin ⊢;generalize c9 (aP (ns.take (q+1))) q=b at hV hfin ⊢;obtain⟨bv,bm⟩:=b;simp only at hV hfin ⊢;have hLf:=N8 k hk0 hk1;obtain⟨⟨f1,f2,f3,f4⟩,hf⟩:∃f,f=uO k:=⟨_,rfl⟩
  rw[←hf] at hLf hfin ⊢;have hleaf:∀(mem:aS) (nx:Nat),lk mem 0=some (.row 62 12 (aR ns))->(bm=true∨6<bv.length)->lE 1 (fun r m (_:Nat)=>r=bU (if bm=true∨6<bv.length then F7 (.mk f1 f2 f3 f4) else⟨4,[],0,0,[],[],bv,(q:Int)::(List.range bv.length).map fun j:Nat=>kidI l ns.length ((j:Int)+1),zV⟩)/\m=tM ns)
      (.agg [.int .i64 0,.str [],.int .i64 0,.int .i64 0,.nsl,.nsl,.nsl,.nsl,.int .i64 f1,.int .i64 f2,.str f3,.il 4 (aT f4)]) mem nx:=by
    intro mem nx h0 hc;refine hfin (F7 (.mk f1 f2 f3 f4)) _ mem nx h0 ?_ (by rw[Rx hc]);exact .agg' (.s (.s (.s (.s (.cons (.nil 1) (.cons (.nil 1) (.cons (.nil 4) (.cons (.nil 1) (.s (.s (.s (.s .nil))))))))))))
  refine aL bC func64 rfl ?_;((conv=>whnf);repeat(refine Xg ?_;conv=>whnf));refine hK0.go ?_;((conv=>whnf);repeat(refine Xg ?_;conv=>whnf));refine aM.use1 bC hV 0 rfl (aQ _) (.cons (.agg' (.cons (.sl 0 0 0 _ rfl) .nil)) (.s .nil)) ?_;rintro r m k' ⟨rfl,rfl⟩;refine⟨_,rfl,nn,aQ _, ?_⟩;cases bm with
  | true=>
    ((conv=>whnf);repeat(refine Xg ?_;conv=>whnf));refine hLf.go ?_;((conv=>whnf);repeat(refine Xg ?_;conv=>whnf));exact hleaf _ _ rfl (.inl rfl)
  | false=>
    ((conv=>whnf);repeat(refine Xg ?_;conv=>whnf));refine aO (fun h=>?_) (fun h=>?_)
    · have h6:6<bv.length:=by rw[aF] at h;simp at h;omega
      rw[h];((conv=>whnf);repeat(refine Xg ?_;conv=>whnf));refine hLf.go ?_;((conv=>whnf);repeat(refine Xg ?_;conv=>whnf));exact hleaf _ _ rfl (.inr h6)
    · have h6:¬6<bv.length:=by rw[aF] at h;simp at h;omega
      rw[h];((conv=>whnf);repeat(refine Xg ?_;conv=>whnf));refine a7.at bC (fun j:Nat=>j<=bv.length)
        (fun j=>⟨[(1,.il 1 (aI l)),(2,.int .i64 ns.length),(8,.ptr 2 0 0),(10,.il 4 (aT bv)),(12,.ptr 3 0 0),(13,.int .i64 j)],
          [(0,.row 62 12 (aR ns)),(2,.row 62 12 [.agg [.int .i64 0,.str [],.int .i64 0,.int .i64 0,.nsl,.nsl,.nsl,.nsl,.int .i64 0,.int .i64 0,.str [],.nsl]]),
           (3,.row 62 12 [.agg [.int .i64 4,.str [],.int .i64 0,.int .i64 0,.nsl,.nsl,.il 4 (aT bv),.sl 4 0 (j+1),.int .i64 0,.int .i64 0,.str [],.nsl]]),(4,.row 3 1 (aI ((q:Int)::(List.range j).map fun j:Nat=>kidI l ns.length ((j:Int)+1))))],5,54⟩)
        (fun j=>bv.length-j) 0 [(0,0),(2,2),(4,3),(3,4)] (by simp)
        (aJ _ rfl ⟨⟨0,_,rfl,rfl,.same (aQ _)⟩,⟨2,_,rfl,rfl,.same dD⟩,⟨4,_,rfl,rfl,.cons (.agg (.s (.s (.s (.s (.s (.s (.s (.cons (.sl 3 4 0 1 rfl) (.s (.s (.s (.s .nil))))))))))))) .nil⟩,⟨3,_,rfl,rfl,.eq (aG _) rfl⟩,trivial⟩
          ⟨aH,aH,⟨_,rfl,.ptr 2 2 0 0 rfl⟩,aH,⟨_,rfl,.ptr 4 3 0 0 rfl⟩,aH,trivial⟩) ?_
      intro j hj;((conv=>whnf);repeat(refine Xg ?_;conv=>whnf));refine aO (fun h=>?_) (fun h=>?_)
      · have hjl:j<bv.length:=FU h
        have hw:IntKind.i64.wrap ((j:Int)+1)=(j:Int)+1:=bY ⟨by omega,by omega⟩;have hKj:=KN l ns.length ((j:Int)+1) hl (by omega) (by omega) (by omega) (by omega);((conv=>whnf);repeat(refine Xg ?_;conv=>whnf));rw[hw];refine hKj.go ?_;((conv=>whnf);repeat(refine Xg ?_;conv=>whnf));repeat(refine aD ?_;(conv=>whnf);repeat(refine Xg ?_;conv=>whnf))
        refine aK (bP rfl rfl (by rw[aE];simp) (by simp;omega)) ?_;((conv=>whnf);repeat(refine Xg ?_;conv=>whnf));repeat(refine aD ?_;(conv=>whnf);repeat(refine Xg ?_;conv=>whnf))
        exact .mk (j+1) [(0,0),(2,2),(3,3),(16,4)] (by omega)
          (aJ _ rfl ⟨⟨0,_,rfl,rfl,.same (aQ _)⟩,⟨2,_,rfl,rfl,.same dD⟩,⟨3,_,rfl,rfl,.cons (.agg (.s (.s (.s (.s (.s (.s (.s (.cons (.slE rfl (by simp)) (.s (.s (.s (.s .nil))))))))))))) .nil⟩,⟨16,_,rfl,rfl,.eq (aG _) (by rw[T9];simp[aI])⟩,trivial⟩
            ⟨aH,aH,⟨_,rfl,.ptr 2 2 0 0 rfl⟩,aH,⟨_,rfl,.ptr 3 3 0 0 rfl⟩,⟨_,rfl,.wo⟩,trivial⟩) (by omega)
      · have hje:j=bv.length:=by have:=Eu h;omega
        subst hje;((conv=>whnf);repeat(refine Xg ?_;conv=>whnf));refine hfin ⟨4,[],0,0,[],[],bv,(q:Int)::(List.range bv.length).map fun j:Nat=>kidI l ns.length ((j:Int)+1),zV⟩ _ _ _ rfl ?_ (by rw[Rp (by simp;omega)]);exact .agg' (.s (.s (.s (.s (.cons (.nil 1) (.cons (.nil 1) (.s (.cons (.fz' (id:=4) rfl rfl (by rw[aE];simp) (by rw[SS];exact SA (by rw[aE];simp)) (aG _)) (.s (.s (.s (.cons (.nil 4) .nil))))))))))))
set_option maxHeartbeats 8000000
theorem pO{α:Type}{p:α->Prop}{l:List α}{y:α}(h:∀x∈l,p x)(hy:p y):∀x∈l++[y],p x:=fun x hx=>by
 rcases R5.1 hx with hx|hx
 ·exact h x hx
 ·simp at hx;rw[hx];exact hy
theorem JK{ns:List Nd}(hT:gY ns)(h1:1<=ns.length)(h2:ns.length<=1000){l:List Int}{k:Int}(hk:0<=k):Fa (z6 ns l ns.length k):=by
 have z0:i64 0:=⟨by omega,by omega⟩
 unfold z6;simp only;split
 ·have:=GN k hk;exact nB z0 (by simp) z0 z0 (by simp) (by simp) (by simp) (by simp) (by simp) (by simp) (by simp) (by simp) this.1 (by omega)
 ·rename_i hc;rw[not_or] at hc;have hb:=fun j=>nP (l:=l) (i:=(ns.length:Int)) (j:=j) (by omega)
  obtain⟨q0,q1⟩:=hb 0;have hv:b9 [] (ns.take ((kidI l ns.length 0).toNat+1))=0:=iS (r:=ns.drop ((kidI l ns.length 0).toNat+1)) (by rw[Go.Ax.SW];exact hT.valid);have ho:∀x∈ns.take ((kidI l ns.length 0).toNat+1),rL x:=fun x hx=>hT.ok x (Se hx)
  have hs:=Fi _ ho hv (kidI l ns.length 0) q0 (by simp;omega);have hg:=pM (iQ _ (jT _ ho hv)) (kidI l ns.length 0);refine nB ⟨by omega,by omega⟩ (by simp) z0 z0 (by simp) (by simp) (by simp) (by simp) (by omega) (fun v hv=>⟨hg.2 v hv,by have:=hs v hv;omega⟩) (by simp;omega) (fun w hw=>?_) (gQ z0 z0) (by simp[zV,bH,cQ]);rcases Rz.1 hw with rfl|hw
  ·exact⟨by omega,by omega⟩
  ·obtain⟨j,_,rfl⟩:=SJ.1 hw;have:=hb ((j:Int)+1);exact⟨by omega,by omega⟩
theorem eA.joinAt{P:Program}{Γ:List (Nat × AV)}{B:Nat}{α:Type}{rest:Code}{Q:Exit->St->Prop}{G:Prop}(hΓ:∀p∈Γ,NN p.2)(R:α->Prop)(J:α->St)
  (h1:(∀(a:α) (s:St) (σ:List (Nat × Nat)),R a->Conv B σ s (J a)->eA P Γ B rest s Q)->G) (h2:∀a,R a->eA P Γ B rest (J a) Q):G:=h1 fun a s σ hr hc=>eA.conv hΓ hc (h2 a hr)
theorem Pw(l:List Int)(hl:∀x∈l,i64 x) :
  aM prog [] 40 [.il 1 (aI l)] [] 0 fun r m n=>∃ns:List Nd,gY ns/\ns.length<=14/\r = .agg [.sl 0 0 ns.length]/\m=tM ns/\n=1:=by
 have z0:i64 0:=⟨by omega,by omega⟩
 have hP0:=sT l 0 15 hl (by omega);obtain⟨n0,n1⟩:=eG (l:=l) (i:=0) (most:=15) (by omega);generalize gB l 0 15=nn0 at hP0 n0 n1;obtain⟨n,rfl⟩:=R7 n0;refine aL bC func40 rfl ?_;((conv=>whnf);repeat(refine Xg ?_;conv=>whnf));refine hP0.go ?_;((conv=>whnf);repeat(refine Xg ?_;conv=>whnf));refine a7.ph 62 12 ?_;refine a7.at bC (fun ns:List Nd=>gY ns/\ns.length<=n) (fun ns=>⟨[(0,.il 1 (aI l)),(2,.ptr 0 0 0),(3,.ptr 1 0 0),(4,.int .i64 n),(5,.int .i64 ns.length)],[(0,.row 44 1 [.agg [.nsl]]),(1,.row 44 1 [.agg [.sl 2 0 ns.length]]),(2,.row 62 12 (aR ns))],3,181⟩) (fun ns=>n-ns.length) [] [(0,0),(1,1),(2,2)] ⟨⟨by simp[b9],by simp⟩,by simp⟩
  (aJ _ rfl ⟨⟨0,_,rfl,rfl,.same dD⟩,⟨1,_,rfl,rfl,.cons (.agg (.cons (.nslk 2 2 _ rfl rfl) .nil)) .nil⟩,⟨2,_,rfl,rfl,.same .nil⟩,trivial⟩ ⟨aH,⟨_,rfl,.ptr 0 0 0 0 rfl⟩,⟨_,rfl,.ptr 1 1 0 0 rfl⟩,aH,aH,trivial⟩) ?_
 rintro ns ⟨hT,hns⟩;((conv=>whnf);repeat(refine Xg ?_;conv=>whnf));refine aO (fun h=>?_) (fun h=>?_)
 ·have hlt:ns.length<n:=by simpa using h
  have hw1:IntKind.i64.wrap (1+(ns.length:Int))=1+(ns.length:Int):=bY ⟨by omega,by omega⟩;have hPk:=sT l (1+(ns.length:Int)) 1000000 hl (by omega);obtain⟨kk0,kk1⟩:=eG (l:=l) (i:=1+(ns.length:Int)) (most:=1000000) (by omega);generalize gB l (1+(ns.length:Int)) 1000000=kk at hPk kk0 kk1;have m8:=jQ kk0 (show (0:Int)<8 by omega);have q8:=uH kk0 (show (0:Int)<8 by omega);have q80:0<=kk.tdiv 8:=TF kk0 (by omega);have hw8:IntKind.i64.wrap (kk.tdiv 8)=kk.tdiv 8:=bY ⟨by omega,by omega⟩;have m82:=jQ q80 (show (0:Int)<2 by omega);((conv=>whnf);repeat(refine Xg ?_;conv=>whnf));rw[hw1];refine hPk.go ?_
  refine' eA.joinAt (P:=prog) (B:=0) bC (fun kd:Int=>0<=kd/\kd<=4/\(2<=kd->2<=ns.length)) (fun kd=>⟨[(0,.il 1 (aI l)),(2,.ptr 0 0 0),(3,.ptr 1 0 0),(4,.int .i64 n),(5,.int .i64 ns.length),(6,.int .i64 kk),(7,.ptr 3 0 0)],[(0,.row 44 1 [.agg [.nsl]]),(1,.row 44 1 [.agg [.sl 2 0 ns.length]]),(2,.row 62 12 (aR ns)),(3,.row 62 12 [.agg [.int .i64 kd,.str [],.int .i64 0,.int .i64 0,.nsl,.nsl,.nsl,.nsl,.int .i64 0,.int .i64 0,.str [],.nsl]])],4,181⟩) (fun hJ=>?_) (fun kd hkd=>?_)
  rotate_left 2
  ·by_cases hi2:ns.length<2
   ·have d2:decide ((ns.length:Int)<2)=true:=by simp;omega
    ((conv=>whnf);repeat(refine Xg ?_;conv=>whnf));rw[d2];((conv=>whnf);repeat(refine Xg ?_;conv=>whnf));rw[hw8];obtain⟨kd,hkd⟩:∃kd,kd=(kk.tdiv 8).tmod 2:=⟨_,rfl⟩
    rw[←hkd] at m82 ⊢;have d5:decide (kd>5)=false:=by simp;omega
    ((conv=>whnf);repeat(refine Xg ?_;conv=>whnf));rw[d5]
    conv=>whnf
    refine eA.many ?_
    conv=>whnf
    exact hJ kd _ [(0,0),(1,1),(2,2),(3,3)] ⟨by omega,by omega,by omega⟩ (aJ _ rfl ⟨⟨0,_,rfl,rfl,.same dD⟩,⟨1,_,rfl,rfl,.cons (.agg (.cons (.sl 2 2 0 _ rfl) .nil)) .nil⟩,⟨2,_,rfl,rfl,.same (aQ _)⟩,⟨3,_,rfl,rfl,.same dD⟩,trivial⟩ ⟨aH,⟨_,rfl,.ptr 0 0 0 0 rfl⟩,⟨_,rfl,.ptr 1 1 0 0 rfl⟩,aH,aH,aH,⟨_,rfl,.ptr 3 3 0 0 rfl⟩,trivial⟩)
   ·have d2:decide ((ns.length:Int)<2)=false:=by simp;omega
    ((conv=>whnf);repeat(refine Xg ?_;conv=>whnf));rw[d2];((conv=>whnf);repeat(refine Xg ?_;conv=>whnf));have hkd5:(kk.tmod 8 == 5)=false∨(kk.tmod 8 == 5)=true:=by cases (kk.tmod 8 == 5)<;>simp
    rcases hkd5 with e5|e5
    ·have n5:kk.tmod 8≠5:=by simpa using e5
     obtain⟨k8,hk8⟩:∃k8,k8=kk.tmod 8:=⟨_,rfl⟩
     rw[←hk8] at e5 n5 m8 ⊢;rcases(show k8<5∨5<k8 by omega) with k5|k5
     ·have d5:decide (k8>5)=false:=by simp;omega
      rw[e5];((conv=>whnf);repeat(refine Xg ?_;conv=>whnf));rw[d5]
      conv=>whnf
      refine eA.many ?_
      conv=>whnf
      exact hJ k8 _ [(0,0),(1,1),(2,2),(3,3)] ⟨by omega,by omega,by omega⟩ (aJ _ rfl ⟨⟨0,_,rfl,rfl,.same dD⟩,⟨1,_,rfl,rfl,.cons (.agg (.cons (.sl 2 2 0 _ rfl) .nil)) .nil⟩,⟨2,_,rfl,rfl,.same (aQ _)⟩,⟨3,_,rfl,rfl,.same dD⟩,trivial⟩ ⟨aH,⟨_,rfl,.ptr 0 0 0 0 rfl⟩,⟨_,rfl,.ptr 1 1 0 0 rfl⟩,aH,aH,aH,⟨_,rfl,.ptr 3 3 0 0 rfl⟩,trivial⟩)
     ·have d5:decide (k8>5)=true:=by simp;omega
      have hw4:IntKind.i64.wrap (k8-4)=k8-4:=bY ⟨by omega,by omega⟩;rw[e5];((conv=>whnf);repeat(refine Xg ?_;conv=>whnf));rw[d5]
      conv=>whnf
      refine eA.many ?_
      conv=>whnf
      refine l5.many ?_
      conv=>whnf
      rw[hw4];exact hJ (k8-4) _ [(0,0),(1,1),(2,2),(3,3)] ⟨by omega,by omega,by omega⟩ (aJ _ rfl ⟨⟨0,_,rfl,rfl,.same dD⟩,⟨1,_,rfl,rfl,.cons (.agg (.cons (.sl 2 2 0 _ rfl) .nil)) .nil⟩,⟨2,_,rfl,rfl,.same (aQ _)⟩,⟨3,_,rfl,rfl,.same dD⟩,trivial⟩ ⟨aH,⟨_,rfl,.ptr 0 0 0 0 rfl⟩,⟨_,rfl,.ptr 1 1 0 0 rfl⟩,aH,aH,aH,⟨_,rfl,.ptr 3 3 0 0 rfl⟩,trivial⟩)
    ·rw[e5];((conv=>whnf);repeat(refine Xg ?_;conv=>whnf));rw[hw8];obtain⟨kd,hkd⟩:∃kd,kd=(kk.tdiv 8).tmod 2:=⟨_,rfl⟩
     rw[←hkd] at m82 ⊢;have d5:decide (kd>5)=false:=by simp;omega
     ((conv=>whnf);repeat(refine Xg ?_;conv=>whnf));rw[d5]
     conv=>whnf
     refine eA.many ?_
     conv=>whnf
     exact hJ kd _ [(0,0),(1,1),(2,2),(3,3)] ⟨by omega,by omega,by omega⟩ (aJ _ rfl ⟨⟨0,_,rfl,rfl,.same dD⟩,⟨1,_,rfl,rfl,.cons (.agg (.cons (.sl 2 2 0 _ rfl) .nil)) .nil⟩,⟨2,_,rfl,rfl,.same (aQ _)⟩,⟨3,_,rfl,rfl,.same dD⟩,trivial⟩ ⟨aH,⟨_,rfl,.ptr 0 0 0 0 rfl⟩,⟨_,rfl,.ptr 1 1 0 0 rfl⟩,aH,aH,aH,⟨_,rfl,.ptr 3 3 0 0 rfl⟩,trivial⟩)
  ·obtain⟨kd0,kd4,kd2⟩:=hkd;((conv=>whnf);repeat(refine Xg ?_;conv=>whnf));refine KO bC (fun x:Nd=>Fa x) (fun x=>⟨[(0,.il 1 (aI l)),(2,.ptr 0 0 0),(3,.ptr 1 0 0),(4,.int .i64 n),(5,.int .i64 ns.length),(6,.int .i64 kk),(7,.ptr 3 0 0)],[(0,.row 44 1 [.agg [.nsl]]),(1,.row 44 1 [.agg [.sl 2 0 ns.length]]),(2,.row 62 12 (aR ns)),(3,.row 62 12 [bU x])],4,181⟩) (fun Qr hQ=>?_) (fun x hx=>?_)
   ·rcases(show kd=0∨kd=1∨kd=2∨kd=3∨kd=4 by omega) with rfl|rfl|rfl|rfl|rfl
    ·have hLf:=N8 (kk.tdiv 8) (TF kk0 (by omega)) (by have:=uH kk0 (show (0:Int)<8 by omega);omega);have hlo:=GN (kk.tdiv 8) (TF kk0 (by omega));generalize uO (kk.tdiv 8)=f at hLf hlo;obtain⟨f1,f2,f3,f4⟩:=f;((conv=>whnf);repeat(refine Xg ?_;conv=>whnf));rw[hw8];refine hLf.go ?_;((conv=>whnf);repeat(refine Xg ?_;conv=>whnf));exact hQ (F7 (.mk f1 f2 f3 f4)) _ [(0,0),(1,1),(2,2),(3,3)] (nB z0 (by simp) z0 z0 (by simp) (by simp) (by simp) (by simp) (by simp) (by simp) (by simp) (by simp) hlo.1 (by omega)) (aJ _ rfl ⟨⟨0,_,rfl,rfl,.same dD⟩,⟨1,_,rfl,rfl,.cons (.agg (.cons (.sl 2 2 0 _ rfl) .nil)) .nil⟩,⟨2,_,rfl,rfl,.same (aQ _)⟩,⟨3,_,rfl,rfl,.cons (.agg (.s (.s (.s (.s (.cons (.nil 1) (.cons (.nil 1) (.cons (.nil 4) (.cons (.nil 1) (.s (.s (.s (.s .nil))))))))))))) .nil⟩,trivial⟩ ⟨aH,⟨_,rfl,.ptr 0 0 0 0 rfl⟩,⟨_,rfl,.ptr 1 1 0 0 rfl⟩,aH,aH,aH,⟨_,rfl,.ptr 3 3 0 0 rfl⟩,trivial⟩)
    ·((conv=>whnf);repeat(refine Xg ?_;conv=>whnf));refine aO (fun h=>?_) (fun h=>?_)
     ·((conv=>whnf);repeat(refine Xg ?_;conv=>whnf));exact hQ ⟨1,[],_,_,[],[],[],[],zV⟩ _ [(0,0),(1,1),(2,2),(3,3)] (nB ⟨by omega,by omega⟩ (by simp) (GS _) (GS _) (by simp) (by simp) (by simp) (by simp) (by simp) (by simp) (by simp) (by simp) (gQ z0 z0) (by simp[zV,bH,cQ])) (aJ _ rfl ⟨⟨0,_,rfl,rfl,.same dD⟩,⟨1,_,rfl,rfl,.cons (.agg (.cons (.sl 2 2 0 _ rfl) .nil)) .nil⟩,⟨2,_,rfl,rfl,.same (aQ _)⟩,⟨3,_,rfl,rfl,.cons (.agg (.s (.s (.s (.s (.cons (.nil 1) (.cons (.nil 1) (.cons (.nil 4) (.cons (.nil 1) (.s (.s (.s (.cons (.nil 4) .nil))))))))))))) .nil⟩,trivial⟩ ⟨aH,⟨_,rfl,.ptr 0 0 0 0 rfl⟩,⟨_,rfl,.ptr 1 1 0 0 rfl⟩,aH,aH,aH,⟨_,rfl,.ptr 3 3 0 0 rfl⟩,trivial⟩)
     ·((conv=>whnf);repeat(refine Xg ?_;conv=>whnf));exact hQ ⟨1,[],_,_,[],[],[],[],zV⟩ _ [(0,0),(1,1),(2,2),(3,3)] (nB ⟨by omega,by omega⟩ (by simp) (GS _) (GS _) (by simp) (by simp) (by simp) (by simp) (by simp) (by simp) (by simp) (by simp) (gQ z0 z0) (by simp[zV,bH,cQ])) (aJ _ rfl ⟨⟨0,_,rfl,rfl,.same dD⟩,⟨1,_,rfl,rfl,.cons (.agg (.cons (.sl 2 2 0 _ rfl) .nil)) .nil⟩,⟨2,_,rfl,rfl,.same (aQ _)⟩,⟨3,_,rfl,rfl,.cons (.agg (.s (.s (.s (.s (.cons (.nil 1) (.cons (.nil 1) (.cons (.nil 4) (.cons (.nil 1) (.s (.s (.s (.cons (.nil 4) .nil))))))))))))) .nil⟩,trivial⟩ ⟨aH,⟨_,rfl,.ptr 0 0 0 0 rfl⟩,⟨_,rfl,.ptr 1 1 0 0 rfl⟩,aH,aH,aH,⟨_,rfl,.ptr 3 3 0 0 rfl⟩,trivial⟩)
    ·((conv=>whnf);repeat(refine Xg ?_;conv=>whnf));rcases(show decide ((IntKind.i64.wrap (kk.tdiv 32)).tmod 3>0)=true∨decide ((IntKind.i64.wrap (kk.tdiv 32)).tmod 3>0)=false by cases decide ((IntKind.i64.wrap (kk.tdiv 32)).tmod 3>0)<;>simp) with hB|hB
     ·have hB:decide ((IntKind.i64.wrap (kk.tdiv 32)).tmod 3>0)=true:=hB;refine a7.ph 3 1 ?_;refine a7.ph 3 1 ?_;refine a7.ph 9 1 ?_;refine a7.at bC (fun a:List Int × List (List UInt8) × List Int=>a.1.length<=4/\a.2.2.length=a.1.length/\(∀w∈a.1,i64 w)/\(∀w∈a.2.2,i64 w)/\(∀s∈a.2.1,s∈vV)/\a.2.1.length=a.1.length)
       (fun a=>⟨[(0,.il 1 (aI l)),(2,.ptr 0 0 0),(3,.ptr 1 0 0),(4,.int .i64 n),(5,.int .i64 ns.length),(6,.int .i64 kk),(7,.ptr 3 0 0),(8,.int .i64 a.1.length)],[(0,.row 44 1 [.agg [.nsl]]),(1,.row 44 1 [.agg [.sl 2 0 ns.length]]),(2,.row 62 12 (aR ns)),(3,.row 62 12 [.agg [.int .i64 2,.str [],.int .i64 0,.int .i64 0,.sl 4 0 a.1.length,.sl 6 0 a.1.length,.nsl,.sl 5 0 a.1.length,.int .i64 0,.int .i64 0,.str [],.nsl]]),(4,.row 3 1 (aI a.1)),(5,.row 3 1 (aI a.2.2)),(6,.row 9 1 (CF a.2.1))],7,181⟩)
       (fun a=>4-a.1.length) ([],[],[]) [(0,0),(1,1),(2,2),(3,3),(4,4),(5,5),(6,6)] (by simp)
       (aJ _ rfl ⟨⟨0,_,rfl,rfl,.same dD⟩,⟨1,_,rfl,rfl,.cons (.agg (.cons (.sl 2 2 0 _ rfl) .nil)) .nil⟩,⟨2,_,rfl,rfl,.same (aQ _)⟩,⟨3,_,rfl,rfl,.cons (.agg (.s (.s (.s (.s (.cons (.nslk 4 4 _ rfl rfl) (.cons (.nslk 6 6 _ rfl rfl) (.s (.cons (.nslk 5 5 _ rfl rfl) (.s (.s (.s (.s .nil))))))))))))) .nil⟩,⟨4,_,rfl,rfl,.same .nil⟩,⟨5,_,rfl,rfl,.same .nil⟩,⟨6,_,rfl,rfl,.same .nil⟩,trivial⟩ ⟨aH,⟨_,rfl,.ptr 0 0 0 0 rfl⟩,⟨_,rfl,.ptr 1 1 0 0 rfl⟩,aH,aH,aH,⟨_,rfl,.ptr 3 3 0 0 rfl⟩,aH,trivial⟩) ?_
      rintro⟨wl,ll,kl⟩ ⟨j1,j2,j3,j4,j5,j6⟩;simp only at j1 j2 j3 j4 j5 j6;((conv=>whnf);repeat(refine Xg ?_;conv=>whnf));refine aO (fun h=>?_) (fun h=>?_)
      ·have hjc:wl.length<4:=by rw[hw8] at h;have:=jQ q80 (show (0:Int)<4 by omega);simp at h;omega
       have hwj:IntKind.i64.wrap ((ns.length:Int)+(wl.length:Int))=(ns.length:Int)+wl.length:=bY ⟨by omega,by omega⟩;have hPj:=sT l ((ns.length:Int)+wl.length) 5 hl (by omega);have hPb:=eG (l:=l) (i:=(ns.length:Int)+wl.length) (most:=5) (by omega);generalize gB l ((ns.length:Int)+wl.length) 5=pw at hPj hPb;have hKj:=KN l ns.length wl.length hl (by omega) (by omega) (by omega) (by omega);have hKb:=nP (l:=l) (i:=(ns.length:Int)) (j:=(wl.length:Int)) (by omega);generalize kidI l ns.length wl.length=kw at hKj hKb;((conv=>whnf);repeat(refine Xg ?_;conv=>whnf));rw[hwj];refine hPj.go ?_;((conv=>whnf);repeat(refine Xg ?_;conv=>whnf));repeat(refine aD ?_;(conv=>whnf);repeat(refine Xg ?_;conv=>whnf))
       refine aK (bP rfl rfl (by rw[aE]) (by simp;omega)) ?_;((conv=>whnf);repeat(refine Xg ?_;conv=>whnf));repeat(refine aD ?_;(conv=>whnf);repeat(refine Xg ?_;conv=>whnf))
       refine hKj.go ?_;((conv=>whnf);repeat(refine Xg ?_;conv=>whnf));repeat(refine aD ?_;(conv=>whnf);repeat(refine Xg ?_;conv=>whnf))
       refine aK (bP rfl rfl (by rw[aE,j2]) (by simp;omega)) ?_;((conv=>whnf);repeat(refine Xg ?_;conv=>whnf));repeat(refine aD ?_;(conv=>whnf);repeat(refine Xg ?_;conv=>whnf))
       rw[hB];((conv=>whnf);repeat(refine Xg ?_;conv=>whnf));obtain⟨qn,hqn,hqe⟩:∃qn:Nat,qn<4/\(IntKind.i64.wrap ((wl.length:Int)+IntKind.i64.wrap (kk.tdiv 96))).tmod 4=(qn:Int):=by
        have a0:=uH kk0 (show (0:Int)<96 by omega);have a1:0<=kk.tdiv 96:=TF kk0 (by omega);have e1:IntKind.i64.wrap (kk.tdiv 96)=kk.tdiv 96:=bY ⟨by omega,by omega⟩;have e2:IntKind.i64.wrap ((wl.length:Int)+kk.tdiv 96)=(wl.length:Int)+kk.tdiv 96:=bY ⟨by omega,by omega⟩;rw[e1,e2];have:=jQ (show 0<=(wl.length:Int)+kk.tdiv 96 by omega) (show (0:Int)<4 by omega);exact⟨(((wl.length:Int)+kk.tdiv 96).tmod 4).toNat,by omega,by omega⟩
       obtain⟨sa,hsa,hsm⟩:∃sa,([AV.str [97],AV.str [98],AV.str [99],AV.str [100]])[0+((qn:Nat):Int).toNat]? = some (.str sa)/\sa∈vV:=by
        rcases(show qn=0∨qn=1∨qn=2∨qn=3 by omega) with rfl|rfl|rfl|rfl
        ·exact⟨[97],rfl,by simp[vV]⟩
        ·exact⟨[98],rfl,by simp[vV]⟩
        ·exact⟨[99],rfl,by simp[vV]⟩
        ·exact⟨[100],rfl,by simp[vV]⟩
       have bsa:Nat.blt ((qn:Nat):Int).toNat 4=true:=Ru (by simp;omega);rw[hqe];((conv=>whnf);repeat(refine Xg ?_;conv=>whnf));repeat((first|refine aD ?_|refine aK bsa ?_|refine aC hsa ?_);(conv=>whnf);repeat(refine Xg ?_;conv=>whnf))
       refine aK (bP rfl rfl (by rw[bX,j6]) (by simp;omega)) ?_;((conv=>whnf);repeat(refine Xg ?_;conv=>whnf));repeat((first|refine aD ?_|refine aK bsa ?_|refine aC hsa ?_);(conv=>whnf);repeat(refine Xg ?_;conv=>whnf))
       exact .mk (wl++[IntKind.i64.wrap (1+pw)],ll++[sa],kl++[kw]) [(0,0),(1,1),(2,2),(3,3),(19,4),(30,5),(45,6)] ⟨by simp;omega,by simp;omega,pO j3 (GS _),pO j4 ⟨by omega,by omega⟩,pO j5 hsm,by simp;omega⟩
        (aJ _ rfl ⟨⟨0,_,rfl,rfl,.same dD⟩,⟨1,_,rfl,rfl,.cons (.agg (.cons (.sl 2 2 0 _ rfl) .nil)) .nil⟩,⟨2,_,rfl,rfl,.same (aQ _)⟩,⟨3,_,rfl,rfl,.cons (.agg (.s (.s (.s (.s (.cons (.slE rfl (by simp)) (.cons (.slE rfl (by simp)) (.s (.cons (.slE rfl (by simp)) (.s (.s (.s (.s .nil))))))))))))) .nil⟩,⟨19,_,rfl,rfl,.eq (aG _) (by simp[aI])⟩,⟨30,_,rfl,rfl,.eq (aG _) (by simp[aI])⟩,⟨45,_,rfl,rfl,.eq (Ae _) (by simp[CF])⟩,trivial⟩ ⟨aH,⟨_,rfl,.ptr 0 0 0 0 rfl⟩,⟨_,rfl,.ptr 1 1 0 0 rfl⟩,aH,aH,aH,⟨_,rfl,.ptr 3 3 0 0 rfl⟩,⟨_,rfl,.w64 (by simp) ⟨by simp;omega,by simp;omega⟩⟩,trivial⟩) (by simp;omega)
      ·((conv=>whnf);repeat(refine Xg ?_;conv=>whnf));exact hQ ⟨2,[],0,0,wl,ll,[],kl,zV⟩ _ [(0,0),(1,1),(2,2),(3,3)] (nB ⟨by omega,by omega⟩ (by simp) z0 z0 (by omega) j3 (by omega) j5 (by simp) (by simp) (by omega) j4 (gQ z0 z0) (by simp[zV,bH,cQ])) (aJ _ rfl ⟨⟨0,_,rfl,rfl,.same dD⟩,⟨1,_,rfl,rfl,.cons (.agg (.cons (.sl 2 2 0 _ rfl) .nil)) .nil⟩,⟨2,_,rfl,rfl,.same (aQ _)⟩,⟨3,_,rfl,rfl,.cons (.agg (.s (.s (.s (.s (.cons (.fz' (id:=4) rfl rfl (by rw[aE];first|omega|(simp only;omega)) (by rw[SS];exact SA (by rw[aE];first|omega|(simp only;omega))) (aG _)) (.cons (.fz' (id:=6) rfl rfl (by rw[bX];first|omega|(simp only;omega)) (by rw[SS];exact SA (by rw[bX];first|omega|(simp only;omega))) (Ae _)) (.cons (.nil 4) (.cons (.fz' (id:=5) rfl rfl (by rw[aE];first|omega|(simp only;omega)) (by rw[SS];exact SA (by rw[aE];first|omega|(simp only;omega))) (aG _)) (.s (.s (.s (.cons (.nil 4) .nil))))))))))))) .nil⟩,trivial⟩ ⟨aH,⟨_,rfl,.ptr 0 0 0 0 rfl⟩,⟨_,rfl,.ptr 1 1 0 0 rfl⟩,aH,aH,aH,⟨_,rfl,.ptr 3 3 0 0 rfl⟩,trivial⟩)
     ·have hB:decide ((IntKind.i64.wrap (kk.tdiv 32)).tmod 3>0)=false:=hB;refine a7.ph 3 1 ?_;refine a7.ph 3 1 ?_;refine a7.at bC (fun a:List Int × List (List UInt8) × List Int=>a.1.length<=4/\a.2.2.length=a.1.length/\(∀w∈a.1,i64 w)/\(∀w∈a.2.2,i64 w)/\(∀s∈a.2.1,s∈vV)/\a.2.1.length=0)
       (fun a=>⟨[(0,.il 1 (aI l)),(2,.ptr 0 0 0),(3,.ptr 1 0 0),(4,.int .i64 n),(5,.int .i64 ns.length),(6,.int .i64 kk),(7,.ptr 3 0 0),(8,.int .i64 a.1.length)],[(0,.row 44 1 [.agg [.nsl]]),(1,.row 44 1 [.agg [.sl 2 0 ns.length]]),(2,.row 62 12 (aR ns)),(3,.row 62 12 [.agg [.int .i64 2,.str [],.int .i64 0,.int .i64 0,.sl 4 0 a.1.length,.nsl,.nsl,.sl 5 0 a.1.length,.int .i64 0,.int .i64 0,.str [],.nsl]]),(4,.row 3 1 (aI a.1)),(5,.row 3 1 (aI a.2.2))],6,181⟩)
       (fun a=>4-a.1.length) ([],[],[]) [(0,0),(1,1),(2,2),(3,3),(4,4),(5,5)] (by simp)
       (aJ _ rfl ⟨⟨0,_,rfl,rfl,.same dD⟩,⟨1,_,rfl,rfl,.cons (.agg (.cons (.sl 2 2 0 _ rfl) .nil)) .nil⟩,⟨2,_,rfl,rfl,.same (aQ _)⟩,⟨3,_,rfl,rfl,.cons (.agg (.s (.s (.s (.s (.cons (.nslk 4 4 _ rfl rfl) (.s (.s (.cons (.nslk 5 5 _ rfl rfl) (.s (.s (.s (.s .nil))))))))))))) .nil⟩,⟨4,_,rfl,rfl,.same .nil⟩,⟨5,_,rfl,rfl,.same .nil⟩,trivial⟩ ⟨aH,⟨_,rfl,.ptr 0 0 0 0 rfl⟩,⟨_,rfl,.ptr 1 1 0 0 rfl⟩,aH,aH,aH,⟨_,rfl,.ptr 3 3 0 0 rfl⟩,aH,trivial⟩) ?_
      rintro⟨wl,ll,kl⟩ ⟨j1,j2,j3,j4,j5,j6⟩;simp only at j1 j2 j3 j4 j5 j6;((conv=>whnf);repeat(refine Xg ?_;conv=>whnf));refine aO (fun h=>?_) (fun h=>?_)
      ·have hjc:wl.length<4:=by rw[hw8] at h;have:=jQ q80 (show (0:Int)<4 by omega);simp at h;omega
       have hwj:IntKind.i64.wrap ((ns.length:Int)+(wl.length:Int))=(ns.length:Int)+wl.length:=bY ⟨by omega,by omega⟩;have hPj:=sT l ((ns.length:Int)+wl.length) 5 hl (by omega);have hPb:=eG (l:=l) (i:=(ns.length:Int)+wl.length) (most:=5) (by omega);generalize gB l ((ns.length:Int)+wl.length) 5=pw at hPj hPb;have hKj:=KN l ns.length wl.length hl (by omega) (by omega) (by omega) (by omega);have hKb:=nP (l:=l) (i:=(ns.length:Int)) (j:=(wl.length:Int)) (by omega);generalize kidI l ns.length wl.length=kw at hKj hKb;((conv=>whnf);repeat(refine Xg ?_;conv=>whnf));rw[hwj];refine hPj.go ?_;((conv=>whnf);repeat(refine Xg ?_;conv=>whnf));repeat(refine aD ?_;(conv=>whnf);repeat(refine Xg ?_;conv=>whnf))
       refine aK (bP rfl rfl (by rw[aE]) (by simp;omega)) ?_;((conv=>whnf);repeat(refine Xg ?_;conv=>whnf));repeat(refine aD ?_;(conv=>whnf);repeat(refine Xg ?_;conv=>whnf))
       refine hKj.go ?_;((conv=>whnf);repeat(refine Xg ?_;conv=>whnf));repeat(refine aD ?_;(conv=>whnf);repeat(refine Xg ?_;conv=>whnf))
       refine aK (bP rfl rfl (by rw[aE,j2]) (by simp;omega)) ?_;((conv=>whnf);repeat(refine Xg ?_;conv=>whnf));repeat(refine aD ?_;(conv=>whnf);repeat(refine Xg ?_;conv=>whnf))
       rw[hB];((conv=>whnf);repeat(refine Xg ?_;conv=>whnf));exact .mk (wl++[IntKind.i64.wrap (1+pw)],ll,kl++[kw]) [(0,0),(1,1),(2,2),(3,3),(18,4),(29,5)] ⟨by simp;omega,by simp;omega,pO j3 (GS _),pO j4 ⟨by omega,by omega⟩,j5,j6⟩
        (aJ _ rfl ⟨⟨0,_,rfl,rfl,.same dD⟩,⟨1,_,rfl,rfl,.cons (.agg (.cons (.sl 2 2 0 _ rfl) .nil)) .nil⟩,⟨2,_,rfl,rfl,.same (aQ _)⟩,⟨3,_,rfl,rfl,.cons (.agg (.s (.s (.s (.s (.cons (.slE rfl (by simp)) (.s (.s (.cons (.slE rfl (by simp)) (.s (.s (.s (.s .nil))))))))))))) .nil⟩,⟨18,_,rfl,rfl,.eq (aG _) (by simp[aI])⟩,⟨29,_,rfl,rfl,.eq (aG _) (by simp[aI])⟩,trivial⟩ ⟨aH,⟨_,rfl,.ptr 0 0 0 0 rfl⟩,⟨_,rfl,.ptr 1 1 0 0 rfl⟩,aH,aH,aH,⟨_,rfl,.ptr 3 3 0 0 rfl⟩,⟨_,rfl,.w64 (by simp) ⟨by simp;omega,by simp;omega⟩⟩,trivial⟩) (by simp;omega)
      ·((conv=>whnf);repeat(refine Xg ?_;conv=>whnf));obtain rfl:ll=[]:=S1.1 j6;exact hQ ⟨2,[],0,0,wl,[],[],kl,zV⟩ _ [(0,0),(1,1),(2,2),(3,3)] (nB ⟨by omega,by omega⟩ (by simp) z0 z0 (by omega) j3 (by simp) (by simp) (by simp) (by simp) (by omega) j4 (gQ z0 z0) (by simp[zV,bH,cQ])) (aJ _ rfl ⟨⟨0,_,rfl,rfl,.same dD⟩,⟨1,_,rfl,rfl,.cons (.agg (.cons (.sl 2 2 0 _ rfl) .nil)) .nil⟩,⟨2,_,rfl,rfl,.same (aQ _)⟩,⟨3,_,rfl,rfl,.cons (.agg (.s (.s (.s (.s (.cons (.fz' (id:=4) rfl rfl (by rw[aE];first|omega|(simp only;omega)) (by rw[SS];exact SA (by rw[aE];first|omega|(simp only;omega))) (aG _)) (.cons (.nil 1) (.cons (.nil 4) (.cons (.fz' (id:=5) rfl rfl (by rw[aE];first|omega|(simp only;omega)) (by rw[SS];exact SA (by rw[aE];first|omega|(simp only;omega))) (aG _)) (.s (.s (.s (.cons (.nil 4) .nil))))))))))))) .nil⟩,trivial⟩ ⟨aH,⟨_,rfl,.ptr 0 0 0 0 rfl⟩,⟨_,rfl,.ptr 1 1 0 0 rfl⟩,aH,aH,aH,⟨_,rfl,.ptr 3 3 0 0 rfl⟩,trivial⟩)
    ·obtain⟨qn,hqn,hqe⟩:∃qn:Nat,qn<3/\(IntKind.i64.wrap (kk.tdiv 8)).tmod 3=(qn:Int):=by
      rw[hw8];have:=jQ q80 (show (0:Int)<3 by omega);exact⟨((kk.tdiv 8).tmod 3).toNat,by omega,by omega⟩
     obtain⟨nm,hnm,hnl⟩:∃nm,([AV.str [],AV.str [80,97,105,114],AV.str []])[0+((qn:Nat):Int).toNat]? = some (.str nm)/\nm.length<=4:=by
      rcases(show qn=0∨qn=1∨qn=2 by omega) with rfl|rfl|rfl
      ·exact⟨[],rfl,by simp⟩
      ·exact⟨[80,97,105,114],rfl,by simp⟩
      ·exact⟨[],rfl,by simp⟩
     have bnm:Nat.blt ((qn:Nat):Int).toNat 3=true:=Ru (by simp;omega);((conv=>whnf);repeat(refine Xg ?_;conv=>whnf));rw[hqe];((conv=>whnf);repeat(refine Xg ?_;conv=>whnf));repeat((first|refine aD ?_|refine aK bnm ?_|refine aC hnm ?_);(conv=>whnf);repeat(refine Xg ?_;conv=>whnf))
     refine a7.ph 3 1 ?_;refine a7.at bC (fun a:List Int=>a.length<=3/\∀w∈a,i64 w)
      (fun a=>⟨[(0,.il 1 (aI l)),(2,.ptr 0 0 0),(3,.ptr 1 0 0),(4,.int .i64 n),(5,.int .i64 ns.length),(6,.int .i64 kk),(7,.ptr 3 0 0),(9,.int .i64 a.length)],[(0,.row 44 1 [.agg [.nsl]]),(1,.row 44 1 [.agg [.sl 2 0 ns.length]]),(2,.row 62 12 (aR ns)),(3,.row 62 12 [.agg [.int .i64 3,.str nm,.int .i64 0,.int .i64 0,.nsl,.nsl,.nsl,.sl 4 0 a.length,.int .i64 0,.int .i64 0,.str [],.nsl]]),(4,.row 3 1 (aI a))],5,181⟩)
      (fun a=>4-a.length) [] [(0,0),(1,1),(2,2),(3,3),(5,4)] (by simp)
      (aJ _ rfl ⟨⟨0,_,rfl,rfl,.same dD⟩,⟨1,_,rfl,rfl,.cons (.agg (.cons (.sl 2 2 0 _ rfl) .nil)) .nil⟩,⟨2,_,rfl,rfl,.same (aQ _)⟩,⟨3,_,rfl,rfl,.cons (.agg (.s (.s (.s (.s (.s (.s (.s (.cons (.nslk 5 4 _ rfl rfl) (.s (.s (.s (.s .nil))))))))))))) .nil⟩,⟨5,_,rfl,rfl,.same .nil⟩,trivial⟩ ⟨aH,⟨_,rfl,.ptr 0 0 0 0 rfl⟩,⟨_,rfl,.ptr 1 1 0 0 rfl⟩,aH,aH,aH,⟨_,rfl,.ptr 3 3 0 0 rfl⟩,aH,trivial⟩) ?_
     rintro kl ⟨j1,j4⟩;((conv=>whnf);repeat(refine Xg ?_;conv=>whnf));refine aO (fun h=>?_) (fun h=>?_)
     ·have hjc:kl.length<3:=by
       have a0:=uH kk0 (show (0:Int)<24 by omega);have a1:0<=kk.tdiv 24:=TF kk0 (by omega);have e1:IntKind.i64.wrap (kk.tdiv 24)=kk.tdiv 24:=bY ⟨by omega,by omega⟩;rw[e1] at h;have:=jQ a1 (show (0:Int)<4 by omega);simp at h;omega
      have hKj:=KN l ns.length kl.length hl (by omega) (by omega) (by omega) (by omega);have hKb:=nP (l:=l) (i:=(ns.length:Int)) (j:=(kl.length:Int)) (by omega);generalize kidI l ns.length kl.length=kw at hKj hKb;((conv=>whnf);repeat(refine Xg ?_;conv=>whnf));refine hKj.go ?_;((conv=>whnf);repeat(refine Xg ?_;conv=>whnf));repeat(refine aD ?_;(conv=>whnf);repeat(refine Xg ?_;conv=>whnf))
      refine aK (bP rfl rfl (by rw[aE]) (by simp;omega)) ?_;((conv=>whnf);repeat(refine Xg ?_;conv=>whnf));repeat(refine aD ?_;(conv=>whnf);repeat(refine Xg ?_;conv=>whnf))
      exact .mk (kl++[kw]) [(0,0),(1,1),(2,2),(3,3),(15,4)] ⟨by simp;omega,pO j4 ⟨by omega,by omega⟩⟩
       (aJ _ rfl ⟨⟨0,_,rfl,rfl,.same dD⟩,⟨1,_,rfl,rfl,.cons (.agg (.cons (.sl 2 2 0 _ rfl) .nil)) .nil⟩,⟨2,_,rfl,rfl,.same (aQ _)⟩,⟨3,_,rfl,rfl,.cons (.agg (.s (.s (.s (.s (.s (.s (.s (.cons (.slE rfl (by simp)) (.s (.s (.s (.s .nil))))))))))))) .nil⟩,⟨15,_,rfl,rfl,.eq (aG _) (by simp[aI])⟩,trivial⟩ ⟨aH,⟨_,rfl,.ptr 0 0 0 0 rfl⟩,⟨_,rfl,.ptr 1 1 0 0 rfl⟩,aH,aH,aH,⟨_,rfl,.ptr 3 3 0 0 rfl⟩,⟨_,rfl,.w64 (by simp) ⟨by simp;omega,by simp;omega⟩⟩,trivial⟩) (by simp;omega)
     ·((conv=>whnf);repeat(refine Xg ?_;conv=>whnf));exact hQ ⟨3,nm,0,0,[],[],[],kl,zV⟩ _ [(0,0),(1,1),(2,2),(3,3)] (nB ⟨by omega,by omega⟩ (by omega) z0 z0 (by simp) (by simp) (by simp) (by simp) (by simp) (by simp) (by omega) j4 (gQ z0 z0) (by simp[zV,bH,cQ])) (aJ _ rfl ⟨⟨0,_,rfl,rfl,.same dD⟩,⟨1,_,rfl,rfl,.cons (.agg (.cons (.sl 2 2 0 _ rfl) .nil)) .nil⟩,⟨2,_,rfl,rfl,.same (aQ _)⟩,⟨3,_,rfl,rfl,.cons (.agg (.s (.s (.s (.s (.cons (.nil 1) (.cons (.nil 1) (.cons (.nil 4) (.cons (.fz' (id:=4) rfl rfl (by rw[aE];first|omega|(simp only;omega)) (by rw[SS];exact SA (by rw[aE];first|omega|(simp only;omega))) (aG _)) (.s (.s (.s (.cons (.nil 4) .nil))))))))))))) .nil⟩,trivial⟩ ⟨aH,⟨_,rfl,.ptr 0 0 0 0 rfl⟩,⟨_,rfl,.ptr 1 1 0 0 rfl⟩,aH,aH,aH,⟨_,rfl,.ptr 3 3 0 0 rfl⟩,trivial⟩)
    ·have hBd:=QH ns l kk hl (by omega) (by omega) kk0 (by omega) hT.good;have hBg:=JK hT (by omega) (by omega) (l:=l) (k:=kk) kk0;have hns:ns.length<=14:=by omega
     generalize z6 ns l ns.length kk=bx at hBd hBg;have hbn:=aW bx;((conv=>whnf);repeat(refine Xg ?_;conv=>whnf));refine aM.use1 bC hBd 2 rfl (aQ _) (.cons (.agg' (.cons (.sl 2 0 0 _ rfl) .nil)) (.s (.s (.s .nil)))) ?_;rintro r m k' ⟨rfl,rfl⟩;refine⟨_,rfl,hbn,aQ _, ?_⟩;obtain⟨kind,name,lo,hi,ws,ls,vals,kids,⟨vk,vn,vs,vks⟩⟩:=bx;((conv=>whnf);repeat(refine Xg ?_;conv=>whnf));exact hQ ⟨kind,name,lo,hi,ws,ls,vals,kids,.mk vk vn vs vks⟩ _ [(0,0),(1,1),(2,2),(3,3)] hBg (aJ _ rfl ⟨⟨0,_,rfl,rfl,.same dD⟩,⟨1,_,rfl,rfl,.cons (.agg (.cons (.sl 2 2 0 _ rfl) .nil)) .nil⟩,⟨2,_,rfl,rfl,.same (aQ _)⟩,⟨3,_,rfl,rfl,.same (.cons (aW ⟨kind,name,lo,hi,ws,ls,vals,kids,.mk vk vn vs vks⟩) .nil)⟩,trivial⟩ ⟨aH,⟨_,rfl,.ptr 0 0 0 0 rfl⟩,⟨_,rfl,.ptr 1 1 0 0 rfl⟩,aH,aH,aH,⟨_,rfl,.ptr 3 3 0 0 rfl⟩,trivial⟩)
   ·have hxn:=aW x;have hV:=O1 (ns++[x]) (by simp;omega) (fun y hy=>by
     rcases R5.1 hy with hy|hy
     ·have:=hT.gen y hy;exact⟨this.ok,by have:=this.vals;omega⟩
     ·simp at hy;rw[hy];exact⟨hx.ok,by have:=hx.vals;omega⟩)
    have hnn2:=aQ (ns++[x]);have eTk:List.take ns.length (List.drop 0 (aR ns))=aR ns:=by rw[SS];exact SA (by rw[bD];omega)
    have hxs:aR (ns++[x])=aR ns++[bU x]:=by simp[aR]
    have hsn:=fun h=>hT.snoc (x:=x) (by omega) hx h
    have hw5:=jQ kk0 (show (0:Int)<5 by omega);have hlf:=hT.leaf (m:=kk.tmod 5) ⟨by omega,by omega⟩;obtain⟨e,he⟩:∃e,e=cP (ns++[x]):=⟨_,rfl⟩
    rw[←he] at hV hsn;obtain⟨kind,name,lo,hi,ws,ls,vals,kids,⟨vk,vn,vs,vks⟩⟩:=x;((conv=>whnf);repeat(refine Xg ?_;conv=>whnf));refine aK (Ap (by rw[bD];omega)) ?_;rw[eTk];((conv=>whnf);repeat(refine Xg ?_;conv=>whnf));refine aK (w9 rfl (by rw[bD];omega)) ?_;((conv=>whnf);repeat(refine Xg ?_;conv=>whnf));refine aK (bP rfl rfl rfl (by rw[bD];simp;omega)) ?_;((conv=>whnf);repeat(refine Xg ?_;conv=>whnf));refine aM.useN bC [(7,0)] hV rfl (.cons (.agg' (.cons (.slE rfl (by rw[bD];simp)) .nil)) .nil) ⟨⟨7,_,rfl,rfl,.eq hnn2 (by rw[hxs];rfl)⟩,trivial⟩ rfl ?_;rintro r m k' ⟨rfl,rfl⟩;refine⟨[(0,7)],_,[(7,.row 62 12 (aR (ns++[⟨kind,name,lo,hi,ws,ls,vals,kids,.mk vk vn vs vks⟩])))],8,.same _ nn,⟨⟨0,_,rfl,rfl,.same hnn2⟩,trivial⟩,rfl, ?_⟩;by_cases e0:e=0
    ·subst e0;((conv=>whnf);repeat(refine Xg ?_;conv=>whnf));exact .mk (ns++[⟨kind,name,lo,hi,ws,ls,vals,kids,.mk vk vn vs vks⟩]) [(0,0),(1,1),(7,2)] ⟨hsn rfl,by simp;omega⟩
      (aJ _ rfl ⟨⟨0,_,rfl,rfl,.same dD⟩,⟨1,_,rfl,rfl,.cons (.agg (.cons (.slE rfl (by rw[bD];simp)) .nil)) .nil⟩,⟨7,_,rfl,rfl,.same hnn2⟩,trivial⟩ ⟨aH,⟨_,rfl,.ptr 0 0 0 0 rfl⟩,⟨_,rfl,.ptr 1 1 0 0 rfl⟩,aH,⟨_,rfl,.w64 (by simp) ⟨by simp;omega,by simp;omega⟩⟩,trivial⟩) (by simp;omega)
    ·have de:(e == 0)=false:=by simpa using e0
     ((conv=>whnf);repeat(refine Xg ?_;conv=>whnf));rw[de];((conv=>whnf);repeat(refine Xg ?_;conv=>whnf));refine aK (bP rfl rfl (by rw[bD]) (by simp;omega)) ?_;((conv=>whnf);repeat(refine Xg ?_;conv=>whnf));have hlx:aR (ns++[⟨0,[],0,0,[],[],[],[],.mk 0 (kk.tmod 5) [] []⟩])=aR ns++[bU ⟨0,[],0,0,[],[],[],[],.mk 0 (kk.tmod 5) [] []⟩]:=by simp[aR]
     exact .mk (ns++[⟨0,[],0,0,[],[],[],[],.mk 0 (kk.tmod 5) [] []⟩]) [(0,0),(1,1),(9,2)] ⟨hlf,by simp;omega⟩
      (aJ _ rfl ⟨⟨0,_,rfl,rfl,.same dD⟩,⟨1,_,rfl,rfl,.cons (.agg (.cons (.slE rfl (by simp)) .nil)) .nil⟩,⟨9,_,rfl,rfl,by rw[hlx];exact .snoc rfl (.same (aQ _)) (.agg (.s (.s (.s (.s (.cons (.nil 1) (.cons (.nil 1) (.cons (.nil 4) (.cons (.nil 1) (.s (.s (.s (.cons (.nil 4) .nil)))))))))))))⟩,trivial⟩ ⟨aH,⟨_,rfl,.ptr 0 0 0 0 rfl⟩,⟨_,rfl,.ptr 1 1 0 0 rfl⟩,aH,⟨_,rfl,.w64 (by simp) ⟨by simp;omega,by simp;omega⟩⟩,trivial⟩) (by simp;omega)
 ·have hlt:ns.length=n:=by simp at h;omega
  ((conv=>whnf);repeat(refine Xg ?_;conv=>whnf));exact bK (r':=.agg [.sl 0 0 ns.length]) (m':=tM ns) (n':=1) [(2,0)] rfl ⟨⟨2,_,rfl,rfl,.same (aQ _)⟩,trivial⟩ (.agg' (.cons (.sl 2 0 0 _ rfl) .nil)) ⟨ns,hT,by omega,rfl,rfl,rfl⟩
set_option maxHeartbeats 16000000
end Go.Proofs.YthempfhilcmfnaaGreat
namespace Go.Proofs.YthempfhilcmfnaaGreat
open Go Go.Ax Go.Proofs Tryz
set_option maxRecDepth 100000
set_option maxHeartbeats 4000000
def cI(n:Nat):AB:=.row 3 1 [.int .i64 n]
def cB(b:Bool):AB:=.row 4 1 [.bool b]
def cF(f:AV):AB:=.row 175 1 [f]
section
variable {mem:aS} {σ:List (Nat × Nat)}
theorem Ez{F:FuncId}{i:Nat}(h:lk σ i=some i):pS mem σ [.fn (.func F) [] [.ptr i 0 0]] [.fn (.func F) [] [.ptr i 0 0]]:=
 .cons (.one rfl rfl (.fn _ _ _ _ _ rfl rfl (by simp) (iL.cons (.ptr i i 0 0 h) .nil).2)) .nil
theorem rG{F:FuncId}{i j:Nat}(h:lk σ i=some i)(h':lk σ j=some j):pS mem σ [.fn (.func F) [] [.ptr i 0 0,.ptr j 0 0]] [.fn (.func F) [] [.ptr i 0 0,.ptr j 0 0]]:=
 .cons (.one rfl rfl (.fn _ _ _ _ _ rfl rfl (by simp) (iL.cons (.ptr i i 0 0 h) (.cons (.ptr j j 0 0 h') .nil)).2)) .nil
theorem CH{F:FuncId}{i j k:Nat}(h:lk σ i=some i)(h':lk σ j=some j)(h'':lk σ k=some k):pS mem σ [.fn (.func F) [] [.ptr i 0 0,.ptr j 0 0,.ptr k 0 0]] [.fn (.func F) [] [.ptr i 0 0,.ptr j 0 0,.ptr k 0 0]]:=
 .cons (.one rfl rfl (.fn _ _ _ _ _ rfl rfl (by simp) (iL.cons (.ptr i i 0 0 h) (.cons (.ptr j j 0 0 h') (.cons (.ptr k k 0 0 h'') .nil))).2)) .nil
end
def Pd(n:Nat):aS:=[(0,cI n),(1,cF (.fn (.func 151) [] [.ptr 0 0 0])),(2,cF (.fn (.func 154) [] [.ptr 1 0 0,.ptr 2 0 0]))]
theorem IB(g:Nat->Nat->Nat)(hg:∀n d,g n d<=max (n+1) d)
  (hsee:∀(v:bB) (d n:Nat),d<=1099511627776->n<=4398046511104->aM prog [] 151 [bT v,.int .i64 d,.ptr 0 0 0] [(0,cI n)] 1 fun r m _=>r = .bool true/\m=[(0,cI (g n d))]) :
  ∀(v:bB) (d n:Nat),d+gZ v<=1099511627776->max n (d+gZ v)+bH v<=4398046511104 ->
   aM prog [] 154 [bT v,.int .i64 d,.ptr 1 0 0,.ptr 2 0 0] (Pd n) 3 fun r m _=>r = .bool true/\m=Pd (wU g v d n)
 | .mk vk vn vs ks,d,n,hd,hb=>by
  have ih:∀a∈ks,∀(d n:Nat),d+gZ a<=1099511627776->max n (d+gZ a)+bH a<=4398046511104->aM prog [] 154 [bT a,.int .i64 d,.ptr 1 0 0,.ptr 2 0 0] (Pd n) 3 fun r m _=>r = .bool true/\m=Pd (wU g a d n):=
   fun a hm d n h1 h2=>IB g hg hsee a d n h1 h2
  simp only[gZ,bH] at hd hb;have hlen:=zE ks;have hgn:=hg n d;refine aL bC func154 rfl ?_;((conv=>whnf);repeat(refine Xg ?_;conv=>whnf));refine aM.useI bC [0] (hsee (.mk vk vn vs ks) d n (by omega) (by omega)) (by rfl) (.s (.s (.cons (.ptr 0 0 0 0 rfl) .nil))) ⟨⟨0,_,rfl,rfl,.same dD⟩,trivial⟩ rfl ?_;rintro r m n' ⟨rfl,rfl⟩;refine⟨nn,⟨⟨0,_,rfl,rfl,.same dD⟩,trivial⟩,rfl, ?_⟩;((conv=>whnf);repeat(refine Xg ?_;conv=>whnf));refine a7.at bC (fun k:Nat=>k<=ks.length)
   (fun k=>⟨[(1,.int .i64 d),(3,.ptr 2 0 0),(15,.il 4 (aT ks)),(16,.int .i64 (aT ks).length),(17,.int .i64 k)],Pd (sP g (ks.take k) (d+1) (g n d)),3,28⟩)
   (fun k=>ks.length-k) 0 [(0,0),(1,1),(2,2)] (by simp)
   (aJ _ rfl ⟨⟨0,_,rfl,rfl,.same dD⟩,⟨1,_,rfl,rfl,Ez rfl⟩,⟨2,_,rfl,rfl,rG rfl rfl⟩,trivial⟩ ⟨aH,⟨_,rfl,.ptr 2 2 0 0 rfl⟩,aH,aH,aH,trivial⟩) ?_
  intro k hk;have hrl:=EZ hg (ks.take k) (d+1) (g n d);((conv=>whnf);repeat(refine Xg ?_;conv=>whnf));refine aO (fun h=>?_) (fun h=>?_)
  ·have hlt:=FU h;obtain⟨a,b,c,e,hm,hg',he,e1⟩:=cL hlt;have hst:=vO hlt;have hdt:=F8 hlt;rw[he] at hst hdt;have hst':=o0 ks (k+1);have hdm:=wK hm;have hdk:fI (ks.take k)<=fI ks:=At ks k;have hrt:=I9 g hlt (d+1) (g n d);rw[he] at hrt;((conv=>whnf);repeat(refine Xg ?_;conv=>whnf));refine aC e1 ?_;((conv=>whnf);repeat(refine Xg ?_;conv=>whnf));rw[w64 (x:=(d:Int)+1) (y:=((d+1:Nat):Int)) (by omega) ⟨by omega,by omega⟩];refine aM.useI bC [0,1,2] (ih _ hm (d+1) (sP g (ks.take k) (d+1) (g n d)) (by omega) (by omega)) (by rfl) (.s (.s (.cons (.ptr 1 1 0 0 rfl) (.cons (.ptr 2 2 0 0 rfl) .nil))))
    ⟨⟨0,_,rfl,rfl,.same dD⟩,⟨1,_,rfl,rfl,Ez rfl⟩,⟨2,_,rfl,rfl,rG rfl rfl⟩,trivial⟩ rfl ?_
   rintro r m n' ⟨rfl,rfl⟩;refine⟨nn,⟨⟨0,_,rfl,rfl,.same dD⟩,⟨1,_,rfl,rfl,Ez rfl⟩,⟨2,_,rfl,rfl,rG rfl rfl⟩,trivial⟩,rfl, ?_⟩;rw[←hrt];((conv=>whnf);repeat(refine Xg ?_;conv=>whnf));exact .mk (k+1) [(0,0),(1,1),(2,2)] (by omega)
    (aJ _ rfl ⟨⟨0,_,rfl,rfl,.same dD⟩,⟨1,_,rfl,rfl,Ez rfl⟩,⟨2,_,rfl,rfl,rG rfl rfl⟩,trivial⟩ ⟨aH,⟨_,rfl,.ptr 2 2 0 0 rfl⟩,aH,aH,⟨_,rfl,.wo⟩,trivial⟩) (by omega)
  ·have hk':k=ks.length:=by have:=Eu h;omega
   ((conv=>whnf);repeat(refine Xg ?_;conv=>whnf));refine bK (n':=3) (m':=Pd (sP g (ks.take k) (d+1) (g n d))) [(0,0),(1,1),(2,2)] rfl ⟨⟨0,_,rfl,rfl,.same dD⟩,⟨1,_,rfl,rfl,Ez rfl⟩,⟨2,_,rfl,rfl,rG rfl rfl⟩,trivial⟩ (.same _ nn) ⟨rfl, ?_⟩;rw[hk',SD,wU]
 termination_by v=>SizeOf.sizeOf v
 decreasing_by simp;have:=TL hm;omega
end Go.Proofs.YthempfhilcmfnaaGreat
namespace Go.Proofs.YthempfhilcmfnaaGreat
open Go Go.Ax Go.Proofs Tryz
set_option maxRecDepth 100000
set_option maxHeartbeats 4000000
section
variable {mem:aS} {σ:List (Nat × Nat)}
theorem PX{F:FuncId}{i i':Nat}(h:lk σ i=some i'):pS mem σ [.fn (.func F) [] [.ptr i 0 0]] [.fn (.func F) [] [.ptr i' 0 0]]:=
 .cons (.one rfl rfl (.fn _ _ _ _ _ rfl rfl (by simp) (iL.cons (.ptr i i' 0 0 h) .nil).2)) .nil
theorem Lf{F:FuncId}{i j i' j':Nat}(h:lk σ i=some i')(h':lk σ j=some j'):pS mem σ [.fn (.func F) [] [.ptr i 0 0,.ptr j 0 0]] [.fn (.func F) [] [.ptr i' 0 0,.ptr j' 0 0]]:=
 .cons (.one rfl rfl (.fn _ _ _ _ _ rfl rfl (by simp) (iL.cons (.ptr i i' 0 0 h) (.cons (.ptr j j' 0 0 h') .nil)).2)) .nil
theorem OS{F:FuncId}{i j k i' j' k':Nat}(h:lk σ i=some i')(h':lk σ j=some j')(h'':lk σ k=some k'):pS mem σ [.fn (.func F) [] [.ptr i 0 0,.ptr j 0 0,.ptr k 0 0]] [.fn (.func F) [] [.ptr i' 0 0,.ptr j' 0 0,.ptr k' 0 0]]:=
 .cons (.one rfl rfl (.fn _ _ _ _ _ rfl rfl (by simp) (iL.cons (.ptr i i' 0 0 h) (.cons (.ptr j j' 0 0 h') (.cons (.ptr k k' 0 0 h'') .nil))).2)) .nil
theorem RM{F:FuncId}{i i':Nat}(h:lk σ i=some i'):Cv mem σ (.fn (.func F) [] [.ptr i 0 0]) (.fn (.func F) [] [.ptr i' 0 0]):=
 .fn _ _ _ _ _ rfl rfl (by simp) (iL.cons (.ptr i i' 0 0 h) .nil).2
theorem RV{F:FuncId}{i j k i' j' k':Nat}(h:lk σ i=some i')(h':lk σ j=some j')(h'':lk σ k=some k'):Cv mem σ (.fn (.func F) [] [.ptr i 0 0,.ptr j 0 0,.ptr k 0 0]) (.fn (.func F) [] [.ptr i' 0 0,.ptr j' 0 0,.ptr k' 0 0]):=
 .fn _ _ _ _ _ rfl rfl (by simp) (iL.cons (.ptr i i' 0 0 h) (.cons (.ptr j j' 0 0 h') (.cons (.ptr k k' 0 0 h'') .nil))).2
end
theorem RW:∀(v:bB) (d n:Nat),d<=1099511627776->n<=4398046511104->aM prog [] 151 [bT v,.int .i64 d,.ptr 0 0 0] [(0,cI n)] 1 fun r m _=>r = .bool true/\m=[(0,cI (n+1))]
 | .mk vk vn vs ks,d,n,hd,hn=>by
  refine aL bC func151 rfl ?_;((conv=>whnf);repeat(refine Xg ?_;conv=>whnf));exact bK (n':=1) (m':=[(0,cI (n+1))]) [(0,0)] rfl ⟨⟨0,_,rfl,rfl,.cons (.one rfl rfl (.wo)) .nil⟩,trivial⟩ (.same _ nn) ⟨rfl,rfl⟩
theorem Np:∀(v:bB) (n:Nat),1+gZ v<=1099511627776->max n (1+gZ v)+bH v<=4398046511104 ->
   aM prog [] 147 [bT v,.fn (.func 151) [] [.ptr 0 0 0]] [(0,cI n)] 1 fun r m _=>r = .tup []/\m=[(0,cI (wU (fun n _=>n+1) v 1 n))]
 | .mk vk vn vs ks,n,hd,hb=>by
  have hw:=IB (fun n _=>n+1) (fun n d=>by omega) RW (.mk vk vn vs ks) 1 n hd hb;generalize wU (fun n _=>n+1) (.mk vk vn vs ks) 1 n=res at hw;refine aL bC func147 rfl ?_;((conv=>whnf);repeat(refine Xg ?_;conv=>whnf));refine aM.useR bC [(0,0),(2,1),(3,2)] hw (by rfl) (.s (.cons (.int rfl) (.cons (.ptr 2 1 0 0 rfl) (.cons (.ptr 3 2 0 0 rfl) .nil))))
   ⟨⟨0,_,rfl,rfl,.same dD⟩,⟨2,_,rfl,rfl,PX rfl⟩,⟨3,_,rfl,rfl,Lf rfl rfl⟩,trivial⟩ rfl ?_
  rintro r m n' ⟨rfl,rfl⟩;refine⟨[(0,cI res)],nn,⟨⟨0,_,rfl,rfl,.same dD⟩,trivial⟩,rfl, ?_⟩;((conv=>whnf);repeat(refine Xg ?_;conv=>whnf));exact bK (n':=1) (m':=[(0,cI res)]) [(0,0)] rfl ⟨⟨0,_,rfl,rfl,.same dD⟩,trivial⟩ (.same _ nn) ⟨rfl,rfl⟩
theorem Qm:∀v:bB,bH v<=1048576->a8 prog [] 138 [bT v] (.int .i64 (bH v))
 | .mk vk vn vs ks,hs=>by
  have hd:=oX (.mk vk vn vs ks);have hw:=Np (.mk vk vn vs ks) 0 (by omega) (by omega);rw[show wU (fun n _=>n+1) (.mk vk vn vs ks) 1 0=bH (.mk vk vn vs ks) by rw[E7];omega] at hw;generalize bH (.mk vk vn vs ks)=res at hw;refine aL bC func138 rfl ?_;((conv=>whnf);repeat(refine Xg ?_;conv=>whnf));refine aM.useR bC [(1,0)] hw (by rfl) (.s (.cons (RM rfl) .nil)) ⟨⟨1,_,rfl,rfl,.same dD⟩,trivial⟩ rfl ?_;rintro r m n' ⟨rfl,rfl⟩;refine⟨[(1,cI res)],nn,⟨⟨0,_,rfl,rfl,.same dD⟩,trivial⟩,rfl, ?_⟩;((conv=>whnf);repeat(refine Xg ?_;conv=>whnf));exact aA nn ⟨rfl,rfl,rfl⟩
abbrev VS:=Nat × Bool × Bool
def vC(x:VS):aS:=[(0,cI x.1),(1,cB x.2.1),(2,cB x.2.2)]
def wV(x:VS):aS:=[(0,cI x.1),(1,cB x.2.1),(2,cB x.2.2),(3,cF (.fn (.func 148) [] [.ptr 0 0 0,.ptr 1 0 0,.ptr 2 0 0])),(4,cF (.fn (.func 154) [] [.ptr 3 0 0,.ptr 4 0 0]))]
theorem RT(vk vn:Int)(vs:List UInt8)(ks:List bB)(hs:vs.length<=4294967296)(d:Nat)(x:VS)(hx:x.1<=4398046511104) :
  aM prog [] 148 [bT (.mk vk vn vs ks),.int .i64 d,.ptr 0 0 0,.ptr 1 0 0,.ptr 2 0 0] (vC x) 3 fun r m _=>r = .bool (dM x (.mk vk vn vs ks) d).1/\m=vC (dM x (.mk vk vn vs ks) d).2:=by
 obtain⟨n,g,s⟩:=x;have h1:=Nm vk vn vs ks hs;have h2:=QI vk vn vs ks;have hst:dM (n,g,s) (.mk vk vn vs ks) d=(g && cZ vk vn vs ks.length,(n+1,g && cZ vk vn vs ks.length,s && uX vk ks.length)):=rfl;generalize cZ vk vn vs ks.length=fb at h1 hst;generalize uX vk ks.length=tb at h2 hst;rw[hst];simp only at hx;refine aL bC func148 rfl ?_;cases g<;>cases s
 all_goals
  ((conv=>whnf);repeat(refine Xg ?_;conv=>whnf));try(refine h1.go ?_;(conv=>whnf);repeat(refine Xg ?_;conv=>whnf))
  try(refine h2.go ?_;(conv=>whnf);repeat(refine Xg ?_;conv=>whnf))
  exact bK (n':=3) (m':=vC (n+1,_,_)) [(0,0),(1,1),(2,2)] rfl ⟨⟨0,_,rfl,rfl,.cons (.one rfl rfl (.wo)) .nil⟩,⟨1,_,rfl,rfl,.same dD⟩,⟨2,_,rfl,rfl,.same dD⟩,trivial⟩ (.same _ nn) ⟨rfl,rfl⟩
theorem L9:∀(v:bB) (d:Nat) (x:VS),iA v->d+gZ v<=1099511627776->x.1+bH v<=4398046511104 ->
   aM prog [] 154 [bT v,.int .i64 d,.ptr 3 0 0,.ptr 4 0 0] (wV x) 5 fun r m _=>r = .bool (mV dM v d x).1/\m=wV (mV dM v d x).2
 | .mk vk vn vs ks,d,x,hok,hd,hb=>by
  simp only[iA] at hok;obtain⟨hv1,hv2,hv3,hv4,hv5⟩:=hok;have ih:∀a∈ks,∀(d:Nat) (x:VS),d+gZ a<=1099511627776->x.1+bH a<=4398046511104->aM prog [] 154 [bT a,.int .i64 d,.ptr 3 0 0,.ptr 4 0 0] (wV x) 5 fun r m _=>r = .bool (mV dM a d x).1/\m=wV (mV dM a d x).2:=
   fun a hm d x h1 h2=>L9 a d x (pC hv5 a hm) h1 h2
  simp only[gZ,bH] at hd hb;have hlen:=zE ks;have hsee:=RT vk vn vs ks hv3 d x (by omega);have hy1:(dM x (.mk vk vn vs ks) d).2.1=x.1+1:=rfl;generalize hst0:dM x (.mk vk vn vs ks) d=st at hsee hy1;obtain⟨b,y⟩:=st;simp only at hy1;refine aL bC func154 rfl ?_;((conv=>whnf);repeat(refine Xg ?_;conv=>whnf));refine aM.useI bC [0,1,2] hsee (by rfl) (.s (.s (.cons (.ptr 0 0 0 0 rfl) (.cons (.ptr 1 1 0 0 rfl) (.cons (.ptr 2 2 0 0 rfl) .nil))))) ⟨⟨0,_,rfl,rfl,.same dD⟩,⟨1,_,rfl,rfl,.same dD⟩,⟨2,_,rfl,rfl,.same dD⟩,trivial⟩ rfl ?_;rintro r m n' ⟨rfl,rfl⟩;refine⟨nn,⟨⟨0,_,rfl,rfl,.same dD⟩,⟨1,_,rfl,rfl,.same dD⟩,⟨2,_,rfl,rfl,.same dD⟩,trivial⟩,rfl, ?_⟩;cases b with
  | false=>
   ((conv=>whnf);repeat(refine Xg ?_;conv=>whnf));refine bK (n':=5) (m':=wV y) [(0,0),(1,1),(2,2),(3,3),(4,4)] rfl ⟨⟨0,_,rfl,rfl,.same dD⟩,⟨1,_,rfl,rfl,.same dD⟩,⟨2,_,rfl,rfl,.same dD⟩,⟨3,_,rfl,rfl,CH rfl rfl rfl⟩,⟨4,_,rfl,rfl,rG rfl rfl⟩,trivial⟩ (.same _ nn) ?_;have hvis:mV dM (.mk vk vn vs ks) d x=(false,y):=by rw[mV,hst0]
   rw[hvis];exact⟨rfl,rfl⟩
  | true=>
   have hvis:mV dM (.mk vk vn vs ks) d x=oF dM ks (d+1) y:=by rw[mV,hst0]
   ((conv=>whnf);repeat(refine Xg ?_;conv=>whnf));refine a7.at bC (fun a:Nat × VS=>a.1<=ks.length/\oF dM (ks.take a.1) (d+1) y=(true,a.2))
    (fun a=>⟨[(1,.int .i64 d),(3,.ptr 4 0 0),(15,.il 4 (aT ks)),(16,.int .i64 (aT ks).length),(17,.int .i64 a.1)],wV a.2,5,28⟩)
    (fun a=>ks.length-a.1) (0,y) [(0,0),(1,1),(2,2),(3,3),(4,4)] ⟨by simp,rfl⟩
    (aJ _ rfl ⟨⟨0,_,rfl,rfl,.same dD⟩,⟨1,_,rfl,rfl,.same dD⟩,⟨2,_,rfl,rfl,.same dD⟩,⟨3,_,rfl,rfl,CH rfl rfl rfl⟩,⟨4,_,rfl,rfl,rG rfl rfl⟩,trivial⟩ ⟨aH,⟨_,rfl,.ptr 4 4 0 0 rfl⟩,aH,aH,aH,trivial⟩) ?_
   rintro⟨k,z⟩ ⟨hk,hz⟩;simp only at hk hz;have hcnt:=A1 (ks.take k) (d+1) y;rw[hz] at hcnt;simp only at hcnt;((conv=>whnf);repeat(refine Xg ?_;conv=>whnf));refine aO (fun h=>?_) (fun h=>?_)
   ·have hlt:k<ks.length:=FU h;obtain⟨a,b,c,e,hm,hg',he,e1⟩:=cL hlt;have hst:=vO hlt;rw[he] at hst;have hst':=o0 ks (k+1);have hdm:=wK hm;have hnext:=Jd dM hlt (d+1) y z hz;rw[he] at hnext;have hb2:z.1+bH (.mk a b c e)<=4398046511104:=by omega
    have hih:=ih _ hm (d+1) z (by omega) hb2;generalize mV dM (.mk a b c e) (d+1) z=st2 at hih hnext;obtain⟨b2,z2⟩:=st2;((conv=>whnf);repeat(refine Xg ?_;conv=>whnf));refine aC e1 ?_;((conv=>whnf);repeat(refine Xg ?_;conv=>whnf));rw[w64 (x:=(d:Int)+1) (y:=((d+1:Nat):Int)) (by omega) ⟨by omega,by omega⟩];refine aM.useI bC [0,1,2,3,4] hih (by rfl) (.s (.s (.cons (.ptr 3 3 0 0 rfl) (.cons (.ptr 4 4 0 0 rfl) .nil))))
     ⟨⟨0,_,rfl,rfl,.same dD⟩,⟨1,_,rfl,rfl,.same dD⟩,⟨2,_,rfl,rfl,.same dD⟩,⟨3,_,rfl,rfl,CH rfl rfl rfl⟩,⟨4,_,rfl,rfl,rG rfl rfl⟩,trivial⟩ rfl ?_
    rintro r m n' ⟨rfl,rfl⟩;refine⟨nn,⟨⟨0,_,rfl,rfl,.same dD⟩,⟨1,_,rfl,rfl,.same dD⟩,⟨2,_,rfl,rfl,.same dD⟩,⟨3,_,rfl,rfl,CH rfl rfl rfl⟩,⟨4,_,rfl,rfl,rG rfl rfl⟩,trivial⟩,rfl, ?_⟩;cases b2 with
    | false=>
     ((conv=>whnf);repeat(refine Xg ?_;conv=>whnf));refine bK (n':=5) (m':=wV z2) [(0,0),(1,1),(2,2),(3,3),(4,4)] rfl ⟨⟨0,_,rfl,rfl,.same dD⟩,⟨1,_,rfl,rfl,.same dD⟩,⟨2,_,rfl,rfl,.same dD⟩,⟨3,_,rfl,rfl,CH rfl rfl rfl⟩,⟨4,_,rfl,rfl,rG rfl rfl⟩,trivial⟩ (.same _ nn) ?_;have:=DY dM (m:=ks.drop (k+1)) hnext;rw[Go.Ax.SW] at this;rw[hvis,this];exact⟨rfl,rfl⟩
    | true=>
     ((conv=>whnf);repeat(refine Xg ?_;conv=>whnf));exact .mk (k+1,z2) [(0,0),(1,1),(2,2),(3,3),(4,4)] ⟨by simp only;omega,hnext⟩
      (aJ _ rfl ⟨⟨0,_,rfl,rfl,.same dD⟩,⟨1,_,rfl,rfl,.same dD⟩,⟨2,_,rfl,rfl,.same dD⟩,⟨3,_,rfl,rfl,CH rfl rfl rfl⟩,⟨4,_,rfl,rfl,rG rfl rfl⟩,trivial⟩ ⟨aH,⟨_,rfl,.ptr 4 4 0 0 rfl⟩,aH,aH,⟨_,rfl,.wo⟩,trivial⟩) (by simp only;omega)
   ·have hk':k=ks.length:=by have:=Eu h;omega
    ((conv=>whnf);repeat(refine Xg ?_;conv=>whnf));refine bK (n':=5) (m':=wV z) [(0,0),(1,1),(2,2),(3,3),(4,4)] rfl ⟨⟨0,_,rfl,rfl,.same dD⟩,⟨1,_,rfl,rfl,.same dD⟩,⟨2,_,rfl,rfl,.same dD⟩,⟨3,_,rfl,rfl,CH rfl rfl rfl⟩,⟨4,_,rfl,rfl,rG rfl rfl⟩,trivial⟩ (.same _ nn) ?_;rw[hk',SD] at hz;rw[hvis,hz];exact⟨rfl,rfl⟩
 termination_by v=>SizeOf.sizeOf v
 decreasing_by simp;have:=TL hm;omega
theorem M7:∀(v:bB) (x:VS),iA v->1+gZ v<=1099511627776->x.1+bH v<=4398046511104 ->
   aM prog [] 147 [bT v,.fn (.func 148) [] [.ptr 0 0 0,.ptr 1 0 0,.ptr 2 0 0]] (vC x) 3 fun r m _=>r = .tup []/\m=vC (mV dM v 1 x).2
 | .mk vk vn vs ks,x,hok,hd,hb=>by
  have hw:=L9 (.mk vk vn vs ks) 1 x hok hd hb;generalize mV dM (.mk vk vn vs ks) 1 x=st at hw;obtain⟨b,y⟩:=st;refine aL bC func147 rfl ?_;((conv=>whnf);repeat(refine Xg ?_;conv=>whnf));refine aM.useR bC [(0,0),(1,1),(2,2),(4,3),(5,4)] hw (by rfl) (.s (.cons (.int rfl) (.cons (.ptr 4 3 0 0 rfl) (.cons (.ptr 5 4 0 0 rfl) .nil))))
   ⟨⟨0,_,rfl,rfl,.same dD⟩,⟨1,_,rfl,rfl,.same dD⟩,⟨2,_,rfl,rfl,.same dD⟩,⟨4,_,rfl,rfl,OS rfl rfl rfl⟩,⟨5,_,rfl,rfl,Lf rfl rfl⟩,trivial⟩ rfl ?_
  rintro r m n' ⟨rfl,rfl⟩;refine⟨[(0,cI y.1),(1,cB y.2.1),(2,cB y.2.2)],nn,⟨⟨0,_,rfl,rfl,.same dD⟩,⟨1,_,rfl,rfl,.same dD⟩,⟨2,_,rfl,rfl,.same dD⟩,trivial⟩,rfl, ?_⟩;((conv=>whnf);repeat(refine Xg ?_;conv=>whnf));exact bK (n':=3) (m':=vC y) [(0,0),(1,1),(2,2)] rfl ⟨⟨0,_,rfl,rfl,.same dD⟩,⟨1,_,rfl,rfl,.same dD⟩,⟨2,_,rfl,rfl,.same dD⟩,trivial⟩ (.same _ nn) ⟨rfl,rfl⟩
theorem G7:∀v:bB,iA v->bH v<=1048576->a8 prog [] 137 [bT v] (.int .i64 (fW v))
 | .mk vk vn vs ks,hok,hs=>by
  have hd:=oX (.mk vk vn vs ks);have hw:=M7 (.mk vk vn vs ks) (0,true,true) hok (by omega) (by simp only;omega);have hval:=JF (.mk vk vn vs ks);generalize fW (.mk vk vn vs ks)=res at hval;generalize (mV dM (.mk vk vn vs ks) 1 (0,true,true)).2=y at hw hval;obtain⟨n,g,s⟩:=y;simp only at hval;refine aL bC func137 rfl ?_;((conv=>whnf);repeat(refine Xg ?_;conv=>whnf));refine aM.useR bC [(1,0),(2,1),(3,2)] hw (by rfl) (.s (.cons (RV rfl rfl rfl) .nil)) ⟨⟨1,_,rfl,rfl,.same dD⟩,⟨2,_,rfl,rfl,.same dD⟩,⟨3,_,rfl,rfl,.same dD⟩,trivial⟩ rfl ?_;rintro r m n' ⟨rfl,rfl⟩;refine⟨[(1,cI n),(2,cB g),(3,cB s)],nn,⟨⟨0,_,rfl,rfl,.same dD⟩,⟨1,_,rfl,rfl,.same dD⟩,⟨2,_,rfl,rfl,.same dD⟩,trivial⟩,rfl, ?_⟩;cases g with
  | false=>
   ((conv=>whnf);repeat(refine Xg ?_;conv=>whnf));refine aA nn ⟨?_,rfl,rfl⟩;rw[←hval];rfl
  | true=>
   cases s with
   | false=>
    ((conv=>whnf);repeat(refine Xg ?_;conv=>whnf));refine aA nn ⟨?_,rfl,rfl⟩;rw[←hval];simp
   | true=>
    ((conv=>whnf);repeat(refine Xg ?_;conv=>whnf));refine aO (fun h=>?_) (fun h=>?_)
    ·((conv=>whnf);repeat(refine Xg ?_;conv=>whnf));refine aA nn ⟨?_,rfl,rfl⟩;rw[←hval,Rp (by simp),Rx (by simp at h;omega)]
    ·((conv=>whnf);repeat(refine Xg ?_;conv=>whnf));refine aA nn ⟨?_,rfl,rfl⟩;rw[←hval,Rp (by simp),Rp (by simp at h;simp;omega)]
end Go.Proofs.YthempfhilcmfnaaGreat
namespace Go.Ax
open Go
end Go.Ax
namespace Go.Ax
open Go
theorem p6(n:Int):IntKind.u64.wrap n=n%18446744073709551616:=by
 unfold IntKind.wrap;have e:(2 ^ IntKind.u64.bits:Int)=18446744073709551616:=by decide
 have s:IntKind.u64.signed=false:=rfl;simp only[e,s,Uf];rfl
end Go.Ax
