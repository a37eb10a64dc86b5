/- A part of the proof. -/
import Derived.Test.YtobknjmfgjaehaaGreatDoorAx14
import Derived.Test.YtobknjmfgjaehaaGreatDoorProg
set_option linter.unusedVariables false
set_option linter.unusedSimpArgs false
set_option linter.unusedSectionVars false
namespace Go.Proofs.YtobknjmfgjaehaaGreatDoor
open Go Go.Ax Go.Proofs Tryz
set_option maxRecDepth 100000
set_option maxHeartbeats 8000000
theorem HJ(l m:List a7)(hl:l.length<=4294967296)(hok:∀a∈l,gD a):a8 prog [] 116 [.il 4 (aO l),.il 4 (aO m)] (.bool (dC l m)):=by
 refine aM bG func116 rfl ?_;refine Rr ?_;refine aH (fun h=>?_) (fun h=>?_)
 ·refine Rr ?_;refine aB nn ⟨?_,rfl,rfl⟩;rw[aA,aA] at h;rw[AW (by simp at h;omega)]
 have hlen:l.length=m.length:=by rw[aA,aA] at h;simp at h;omega
 refine Rr ?_;refine a9.at bG (fun k:Nat=>k<=l.length/\dC l m=dC (l.drop k) (m.drop k))
  (fun k=>⟨[(0,.il 4 (aO l)),(1,.il 4 (aO m)),(5,.int .i64 k)],[],0,27⟩) (fun k=>l.length-k) 0 [] ⟨by simp,by simp⟩
  (cL ⟨aF,aF,aF,trivial⟩) ?_
 rintro k ⟨hk,hs⟩;refine Rr ?_;refine aH (fun h=>?_) (fun h=>?_)
 ·have hlt:k<l.length:=El h;obtain⟨p1,p2,p3,p4,pm,pg,pe,ep⟩:=bX (l:=l) (k:=k) hlt;obtain⟨q1,q2,q3,q4,qm,qg,qe,eq⟩:=bX (l:=m) (k:=k) om;have hc:=sL (.mk p1 p2 p3 p4) (.mk q1 q2 q3 q4) (hok _ pm);rw[List.drop_eq_getElem_cons hlt,List.drop_eq_getElem_cons (show k<m.length by omega),pe,qe,dC] at hs;generalize bW (.mk p1 p2 p3 p4) (.mk q1 q2 q3 q4)=c at hc hs;refine Rr ?_;repeat((first|refine aC ep ?_|refine aC eq ?_|refine aX ?_);refine Rr ?_)
  refine hc.go ?_;refine Rr ?_;repeat((first|refine aC ep ?_|refine aC eq ?_|refine aX ?_);refine Rr ?_)
  refine aH (fun h=>?_) (fun h=>?_)
  ·refine Rr ?_;refine aB nn ⟨?_,rfl,rfl⟩;rw[hs,decide_eq_false (by simpa using h)];rfl
  ·refine Rr ?_;refine .mk (k+1) [] ⟨om, ?_⟩ (cL ⟨aF,aF,⟨_,rfl,.w64 om ⟨om,om⟩⟩,trivial⟩) om;rw[hs,decide_eq_true (by simpa using h),Bool.true_and]
 ·have hge:l.length<=k:=EM h;refine Rr ?_;refine aB nn ⟨?_,rfl,rfl⟩;rw[hs,List.drop_of_length_le om,List.drop_of_length_le om,dC]
theorem M5(x:Nd)(ks:List a7):a8 prog [] 155 [cH x,.il 4 (aO ks)] (bK (c9 x.name ks)):=by
 obtain⟨kind,name,lo,hi,ws,ls,vals,kids,⟨vk,vn,vs,vks⟩⟩:=x;refine aM bG func155 rfl ?_;refine Rr ?_;refine aH (fun h=>?_) (fun h=>?_)
 ·have h:name=[]:=by simpa using h
  refine Rr ?_;exact bU (r':=bK (.mk 2 0 [] ks)) (.same _ nn) ⟨by rw[c9,if_pos h],rfl,rfl⟩
 ·have h:¬name=[]:=by simpa using h
  refine Rr ?_;exact bU (r':=bK (.mk 3 0 name ks)) (.same _ nn) ⟨by rw[c9,if_neg h],rfl,rfl⟩
theorem M2(i:Nat)(x:Nd)(hi:i<=4294967296)(hx:qG x)(hvl:x.values.length<=4294967290):a8 prog [] 67 [.int .i64 i,cH x] (.int .i64 (eO i x)):=by
 have h1:=Io i x hi hx;have h2:=K9 x hx;have hval:∀a∈nP x,a8 prog [] 113 [bK a] (.int .i64 (fG a)):=by
  intro a ha;have key:gD a/\bC a<=4294967296:=by
   unfold nP at ha;rcases List.mem_append.1 ha with h|h
   ·split at h
    ·simp at h;rw[h];exact⟨hx.value,hx.valueS⟩
    ·cases h
   ·exact hx.valuesI a h
  exact Nr a key.1 om
 have hres:eO i x=if cX i x=false then 1 else if dW (nP x)≠0 then dW (nP x) else if dH x=false then 5 else 0:=rfl
 generalize eO i x=res at hres;generalize cX i x=fb at h1 hres;generalize dH x=nb at h2 hres;clear hx;obtain⟨kind,name,lo,hi,ws,ls,vals,kids,⟨vk,vn,vs,vks⟩⟩:=x;simp only at hvl;have hown:nP ⟨kind,name,lo,hi,ws,ls,vals,kids,.mk vk vn vs vks⟩=(if kind=0 then [a7.mk vk vn vs vks] else [])++vals:=rfl;generalize nP ⟨kind,name,lo,hi,ws,ls,vals,kids,.mk vk vn vs vks⟩=own at hval hres hown;have hol:own.length<=4294967291:=by rw[hown];split<;>simp<;>omega
 refine aM bG func67 rfl ?_;refine Rr ?_;refine h1.go ?_ (.cons (.int _ _) (.cons (a6 _) .nil));cases fb with
 | false=>
  refine Rr ?_;refine aB nn ⟨?_,rfl,rfl⟩;rw[hres,if_pos rfl]
 | true=>
  refine Rr ?_;refine aH (fun h=>?_) (fun h=>?_)
  case' refine_1=>
   have hk:kind=0:=by simpa using h
   rw[if_pos hk] at hown;refine Rr ?_;refine aP (bV rfl rfl (by simp) (by simp[aA];omega)) ?_;refine Rr ?_;refine a9.at bG (fun k:Nat=>k<=own.length/\dW own=dW (own.drop k))
    (fun k=>⟨[(3,.ptr 0 0 0),(6,.sl 1 0 own.length),(7,.int .i64 k)],[(0,.row 83 12 [cH ⟨kind,name,lo,hi,ws,ls,vals,kids,.mk vk vn vs vks⟩]),(1,.row 57 4 (aO own))],2,45⟩) (fun k=>own.length-k) 0 [(0,0),(3,1)] ⟨by simp,by simp⟩
    (aE _ rfl ⟨aJ 0 (.cons (a6 _) .nil),⟨3,_,rfl,rfl,.eq cW (by rw[hown];rfl)⟩,trivial⟩ ⟨aK,⟨_,rfl,.slE rfl (by rw[hown];simp[aA];omega)⟩,aF,trivial⟩) ?_
  case' refine_2=>
   have hk:¬kind=0:=by simpa using h
   rw[if_neg hk] at hown;refine Rr ?_;refine aP (zY rfl (by simp[aA];omega)) ?_;refine Rr ?_;refine a9.at bG (fun k:Nat=>k<=own.length/\dW own=dW (own.drop k))
    (fun k=>⟨[(3,.ptr 0 0 0),(6,.sl 1 0 own.length),(7,.int .i64 k)],[(0,.row 83 12 [cH ⟨kind,name,lo,hi,ws,ls,vals,kids,.mk vk vn vs vks⟩]),(1,.row 57 4 (aO own))],2,45⟩) (fun k=>own.length-k) 0 [(0,0),(1,1)] ⟨by simp,by simp⟩
    (aE _ rfl ⟨aJ 0 (.cons (a6 _) .nil),⟨1,_,rfl,rfl,.eq cW (by rw[hown];rfl)⟩,trivial⟩ ⟨aK,⟨_,rfl,.slE rfl (by rw[hown];simp[aA])⟩,aF,trivial⟩) ?_
  all_goals
   clear h hown hk;rintro k ⟨hk,hf⟩;refine Rr ?_;refine aH (fun h=>?_) (fun h=>?_)
   ·have hlt:k<own.length:=by simpa using h
    obtain⟨p1,p2,p3,p4,pm,pg,pe,ep,bp⟩:=Ml (l:=own) (k:=k) (n:=own.length) hlt rfl;have hv:=hval _ pm;rw[List.drop_eq_getElem_cons hlt,pe,dW] at hf;generalize fG (.mk p1 p2 p3 p4)=e at hv hf;refine Rr ?_;repeat((first|refine aP bp ?_|refine aC ep ?_);refine Rr ?_)
    refine hv.go ?_;refine Rr ?_;refine aH (fun h=>?_) (fun h=>?_)
    ·have h:e≠0:=by simpa using h
     refine Rr ?_;refine aB nn ⟨?_,rfl,rfl⟩;rw[if_pos h] at hf;rw[hres,if_neg (by simp),hf,if_pos h]
    ·have h:¬e≠0:=by simpa using h
     rw[if_neg h] at hf;refine Rr ?_;exact .mk (k+1) [(0,0),(1,1)] ⟨om,hf⟩ (aE _ rfl ⟨aJ 0 (.cons (a6 _) .nil),aJ 1 cW,trivial⟩ ⟨aK,⟨_,rfl,.sl 1 1 0 _ rfl⟩,⟨_,rfl,.w64 om ⟨om,om⟩⟩,trivial⟩) om
   ·have hge:own.length<=k:=by simpa using h
    rw[List.drop_of_length_le hge,dW] at hf;refine Rr ?_;refine h2.go ?_ (.cons (a6 _) .nil);cases nb with
    | false=>
     refine Rr ?_;refine aB nn ⟨?_,rfl,rfl⟩;rw[hres,if_neg (by simp),hf,if_neg (by simp),if_pos rfl]
    | true=>
     refine Rr ?_;refine aB nn ⟨?_,rfl,rfl⟩;rw[hres,if_neg (by simp),hf,if_neg (by simp),if_neg (by simp)]
set_option maxHeartbeats 8000000
theorem Ez(bs:List Int)(x:Nd)(hx:qG x)(hbl:bs.length<=1000000)(hb:∀y∈bs,0<=y/\y<=1024)(hk:∀(j:Nat) (k:Int),x.kids[j]? = some k->0<=k/\k<bs.length)(h4:4<=x.kind->0<x.kids.length)(hkind:0<=x.kind/\x.kind<=4) :
  aG prog [] 68 [.sl 0 0 bs.length,cH x] [(0,.row 3 1 (aT bs))] 1 fun r m _=>∃(len:Nat) (ys:List AV),r = .sl 1 0 len/\m=[(1,.row 3 1 ys)]/\iW ys/\(len=bs.length+1/\ys=aT (bs++[eC bs x])):=by
 have b1:=hx.kids;have b2:=hx.value;have b3:=hx.valueS;clear hx;have hat:=kO (b:=bs) (M:=1024) om hb;have hsum:=g6 (b:=bs) (M:=1024) om hb;have hmost:=fK (b:=bs) (M:=1024) om hb;obtain⟨kind,name,lo,hi,ws,ls,vals,kids,⟨vk,vn,vs,vks⟩⟩:=x;simp only at b1 b2 b3 hk h4 hkind;have hfin:∀(v:Int) (m:aN) (n id:Nat) (e:Int),lk m id=some (.row 3 1 (aT bs++[.int .i64 e]))->1<=id->e=v->v=eC bs ⟨kind,name,lo,hi,ws,ls,vals,kids,.mk vk vn vs vks⟩ ->
   kQ 1 (fun r m _=>∃(len:Nat) (ys:List AV),r = .sl 1 0 len/\m=[(1,.row 3 1 ys)]/\iW ys/\(len=bs.length+1/\ys=aT (bs++[eC bs ⟨kind,name,lo,hi,ws,ls,vals,kids,.mk vk vn vs vks⟩]))) (.sl id 0 (bs.length+1)) m n:=by
  intro v m n id e hid h1 he hv;refine bN (n':=2) (m':=[(1,.row 3 1 (aT (bs++[v])))]) [(id,1)] ?_ ⟨⟨id,_,by simp[lk],hid,.eq (aQ _) (by rw[he];simp[aT])⟩,trivial⟩ (.sl id 1 0 _ (by simp[lk])) ⟨_,_,rfl,rfl,aQ _,rfl,by rw[hv]⟩;simp[lC,Cf,kW,xL,xG]
 refine aM bG func68 rfl ?_;refine Rr ?_;refine a9.at bG (fun k:Nat=>k<=kids.length)
  (fun k=>⟨[(0,.sl 0 0 bs.length),(3,.ptr 1 0 0),(5,.int .i64 (0+eH bs (kids.take k))),(6,.int .i64 (cG bs (if kind=2 then kids.take k else(kids.take k).drop 1))),(7,.int .i64 k)],[(0,.row 3 1 (aT bs)),(1,.row 83 12 [cH ⟨kind,name,lo,hi,ws,ls,vals,kids,.mk vk vn vs vks⟩])],2,74⟩) (fun k=>kids.length-k) 0 [(0,0),(1,1)] (by simp)
  (aE _ rfl ⟨aJ 0 cW,aJ 1 (.cons (a6 _) .nil),trivial⟩ ⟨⟨_,rfl,.sl 0 0 0 _ rfl⟩,aK,⟨_,rfl,.int rfl⟩,⟨_,rfl,.int (by split<;>rfl)⟩,aF,trivial⟩) ?_
 intro k hkl;have hs1:=hsum (kids.take k);have hlen:(kids.take k).length=k:=by simp;omega
 rw[hlen] at hs1;refine Rr ?_;refine aH (fun h=>?_) (fun h=>?_)
 ·have hlt:k<kids.length:=by rw[aD] at h;simpa using h
  have e1:(aT kids)[(k:Int).toNat]? = some (.int .i64 kids[k]):=by rw[Int.toNat_natCast,bF,List.getElem?_eq_getElem hlt];rfl
  have hg:kids[k]? = some kids[k]:=List.getElem?_eq_getElem hlt;have hst:=s9 (b:=bs) hlt;have hmt:=pE (b:=bs) hlt;have hmd:=mX (b:=bs) hlt;generalize kids[k]=q at e1 hg hst hmt hmd;obtain⟨q1,q2⟩:=hk k q hg;have hq:=hat q;obtain⟨qn,rfl⟩:=Int.eq_ofNat_of_zero_le q1;have hqn:qn<bs.length:=om;have e2:(aT bs)[0+(qn:Int).toNat]? = some (.int .i64 (dK bs qn)):=by rw[Nat.zero_add,Int.toNat_natCast,bF,List.getElem?_eq_getElem hqn];simp[dK,hqn]
  have bq:Nat.blt (qn:Int).toNat bs.length=true:=Nat.ble_eq_true_of_le (by simp;omega);generalize dK bs qn=av at e2 hst hmt hmd hq;refine Rr ?_;repeat((first|refine aC e1 ?_|refine aP bq ?_|refine aC e2 ?_);refine Rr ?_)
  have hw:IntKind.i64.wrap (0+eH bs (kids.take k)+av)=0+eH bs (kids.take (k+1)):=w64 om ⟨om,om⟩;refine aH (fun h=>?_) (fun h=>?_)
  ·have h2:kind=2:=by simpa using h
   rw[h];refine Rr ?_;exact .mk (k+1) [(0,0),(1,1)] om (aE _ rfl ⟨aJ 0 cW,aJ 1 (.cons (a6 _) .nil),trivial⟩ ⟨⟨_,rfl,.sl 0 0 0 _ rfl⟩,aK,⟨_,rfl,.int hw⟩,⟨_,rfl,.int (by rw[if_pos h2,if_pos h2,hmt];simp;omega)⟩,⟨_,rfl,.w64 om ⟨om,om⟩⟩,trivial⟩) om
  ·have h2:¬kind=2:=by simpa using h
   rw[h];refine Rr ?_;refine aH (fun h=>?_) (fun h=>?_)
   ·have h3:0<k:=by simp at h;omega
    refine Rr ?_;exact .mk (k+1) [(0,0),(1,1)] om (aE _ rfl ⟨aJ 0 cW,aJ 1 (.cons (a6 _) .nil),trivial⟩ ⟨⟨_,rfl,.sl 0 0 0 _ rfl⟩,aK,⟨_,rfl,.int hw⟩,⟨_,rfl,.int (by rw[if_neg h2,if_neg h2,hmd h3];simp;omega)⟩,⟨_,rfl,.w64 om ⟨om,om⟩⟩,trivial⟩) om
   ·have h3:k=0:=by simp at h;omega
    refine Rr ?_;exact .mk (k+1) [(0,0),(1,1)] om (aE _ rfl ⟨aJ 0 cW,aJ 1 (.cons (a6 _) .nil),trivial⟩ ⟨⟨_,rfl,.sl 0 0 0 _ rfl⟩,aK,⟨_,rfl,.int hw⟩,⟨_,rfl,.int (by rw[if_neg h2,if_neg h2,h3];cases kids<;>simp)⟩,⟨_,rfl,.w64 om ⟨om,om⟩⟩,trivial⟩) om
 ·have hke:k=kids.length:=by rw[aD] at h;simp at h;omega
  rw[hke,List.take_length] at *;have hm1:=hmost kids;have hm2:=hmost (kids.drop 1);have hs2:=hsum kids;clear hke h;rcases(show kind=0∨kind=1∨kind=2∨kind=3∨kind=4 by omega) with rfl|rfl|rfl|rfl|rfl
  ·refine Rr ?_;refine aP (bV rfl rfl (by rw[aD]) (by simp;omega)) ?_;refine Rr ?_;exact hfin 0 _ _ _ _ rfl (by decide) rfl rfl
  ·refine Rr ?_;refine aP (bV rfl rfl (by rw[aD]) (by simp;omega)) ?_;refine Rr ?_;exact hfin 1 _ _ _ _ rfl (by decide) rfl rfl
  ·rw[if_pos rfl] at *;refine Rr ?_;refine aP (bV rfl rfl (by rw[aD]) (by simp;omega)) ?_;refine Rr ?_;exact hfin (1+cG bs kids) _ _ _ _ rfl (by decide) (w64 rfl ⟨om,om⟩) rfl
  ·refine Rr ?_;refine aP (bV rfl rfl (by rw[aD]) (by simp;omega)) ?_;refine Rr ?_;exact hfin (eH bs kids) _ _ _ _ rfl (by decide) om rfl
  ·rw[if_neg om] at *;have hpos:0<kids.length:=h4 om;have e1:(aT kids)[(0:Int).toNat]? = some (.int .i64 (kids.getD 0 0)):=by rw[show (0:Int).toNat=0 from rfl,bF,List.getElem?_eq_getElem hpos];simp[hpos]
   obtain⟨q1,q2⟩:=hk 0 (kids.getD 0 0) (by simp[hpos]);have hval:eC bs ⟨4,name,lo,hi,ws,ls,vals,kids,.mk vk vn vs vks⟩=dK bs (kids.getD 0 0)+cG bs (kids.drop 1):=rfl;generalize kids.getD 0 0=q at e1 q1 q2 hval;have hq:=hat q;obtain⟨qn,rfl⟩:=Int.eq_ofNat_of_zero_le q1;have hqn:qn<bs.length:=om;have e2:(aT bs)[0+(qn:Int).toNat]? = some (.int .i64 (dK bs qn)):=by rw[Nat.zero_add,Int.toNat_natCast,bF,List.getElem?_eq_getElem hqn];simp[dK,hqn]
   have bq:Nat.blt (qn:Int).toNat bs.length=true:=Nat.ble_eq_true_of_le (by simp;omega);generalize dK bs qn=av at e2 hval hq;refine Rr ?_;repeat((first|refine aC e1 ?_|refine aP bq ?_|refine aC e2 ?_);refine Rr ?_)
   refine aP (bV rfl rfl (by rw[aD]) (by simp;omega)) ?_;refine Rr ?_;exact hfin (av+cG bs (kids.drop 1)) _ _ _ _ rfl (by decide) (w64 rfl ⟨om,om⟩) hval.symm
theorem Jf(bs:List Int)(x:Nd)(hx:qG x)(hbl:bs.length<=1000000)(hb:∀y∈bs,0<=y/\y<=1024)(hk:∀(j:Nat) (k:Int),x.kids[j]? = some k->0<=k/\k<bs.length)(h4:4<=x.kind->0<x.kids.length)(hkind:0<=x.kind/\x.kind<=4) :
  aG prog [] 69 [.sl 0 0 bs.length,cH x] [(0,.row 3 1 (aT bs))] 1 fun r m _=>∃(len:Nat) (ys:List AV),r = .sl 1 0 len/\m=[(1,.row 3 1 ys)]/\iW ys/\(len=bs.length+1/\ys=aT (bs++[iY bs x])):=by
 have b1:=hx.kids;have b2:=hx.value;have b3:=hx.valueS;clear hx;have hat:=kO (b:=bs) (M:=1024) om hb;have hsum:=g6 (b:=bs) (M:=1024) om hb;have hmost:=fK (b:=bs) (M:=1024) om hb;obtain⟨kind,name,lo,hi,ws,ls,vals,kids,⟨vk,vn,vs,vks⟩⟩:=x;simp only at b1 b2 b3 hk h4 hkind;have hfin:∀(v:Int) (m:aN) (n id:Nat) (e:Int),lk m id=some (.row 3 1 (aT bs++[.int .i64 e]))->1<=id->e=v->v=iY bs ⟨kind,name,lo,hi,ws,ls,vals,kids,.mk vk vn vs vks⟩ ->
   kQ 1 (fun r m _=>∃(len:Nat) (ys:List AV),r = .sl 1 0 len/\m=[(1,.row 3 1 ys)]/\iW ys/\(len=bs.length+1/\ys=aT (bs++[iY bs ⟨kind,name,lo,hi,ws,ls,vals,kids,.mk vk vn vs vks⟩]))) (.sl id 0 (bs.length+1)) m n:=by
  intro v m n id e hid h1 he hv;refine bN (n':=2) (m':=[(1,.row 3 1 (aT (bs++[v])))]) [(id,1)] ?_ ⟨⟨id,_,by simp[lk],hid,.eq (aQ _) (by rw[he];simp[aT])⟩,trivial⟩ (.sl id 1 0 _ (by simp[lk])) ⟨_,_,rfl,rfl,aQ _,rfl,by rw[hv]⟩;simp[lC,Cf,kW,xL,xG]
 refine aM bG func69 rfl ?_;refine Rr ?_;refine a9.at bG (fun k:Nat=>k<=kids.length)
  (fun k=>⟨[(0,.sl 0 0 bs.length),(3,.ptr 1 0 0),(5,.int .i64 (1+eH bs (kids.take k))),(6,.int .i64 (cG bs (if kind=2 then kids.take k else(kids.take k).drop 1))),(7,.int .i64 k)],[(0,.row 3 1 (aT bs)),(1,.row 83 12 [cH ⟨kind,name,lo,hi,ws,ls,vals,kids,.mk vk vn vs vks⟩])],2,62⟩) (fun k=>kids.length-k) 0 [(0,0),(1,1)] (by simp)
  (aE _ rfl ⟨aJ 0 cW,aJ 1 (.cons (a6 _) .nil),trivial⟩ ⟨⟨_,rfl,.sl 0 0 0 _ rfl⟩,aK,⟨_,rfl,.int rfl⟩,⟨_,rfl,.int (by split<;>rfl)⟩,aF,trivial⟩) ?_
 intro k hkl;have hs1:=hsum (kids.take k);have hlen:(kids.take k).length=k:=by simp;omega
 rw[hlen] at hs1;refine Rr ?_;refine aH (fun h=>?_) (fun h=>?_)
 ·have hlt:k<kids.length:=by rw[aD] at h;simpa using h
  have e1:(aT kids)[(k:Int).toNat]? = some (.int .i64 kids[k]):=by rw[Int.toNat_natCast,bF,List.getElem?_eq_getElem hlt];rfl
  have hg:kids[k]? = some kids[k]:=List.getElem?_eq_getElem hlt;have hst:=s9 (b:=bs) hlt;have hmt:=pE (b:=bs) hlt;have hmd:=mX (b:=bs) hlt;generalize kids[k]=q at e1 hg hst hmt hmd;obtain⟨q1,q2⟩:=hk k q hg;have hq:=hat q;obtain⟨qn,rfl⟩:=Int.eq_ofNat_of_zero_le q1;have hqn:qn<bs.length:=om;have e2:(aT bs)[0+(qn:Int).toNat]? = some (.int .i64 (dK bs qn)):=by rw[Nat.zero_add,Int.toNat_natCast,bF,List.getElem?_eq_getElem hqn];simp[dK,hqn]
  have bq:Nat.blt (qn:Int).toNat bs.length=true:=Nat.ble_eq_true_of_le (by simp;omega);generalize dK bs qn=av at e2 hst hmt hmd hq;refine Rr ?_;repeat((first|refine aC e1 ?_|refine aP bq ?_|refine aC e2 ?_);refine Rr ?_)
  have hw:IntKind.i64.wrap (1+eH bs (kids.take k)+av)=1+eH bs (kids.take (k+1)):=w64 om ⟨om,om⟩;refine aH (fun h=>?_) (fun h=>?_)
  ·have h2:kind=2:=by simpa using h
   rw[h];refine Rr ?_;exact .mk (k+1) [(0,0),(1,1)] om (aE _ rfl ⟨aJ 0 cW,aJ 1 (.cons (a6 _) .nil),trivial⟩ ⟨⟨_,rfl,.sl 0 0 0 _ rfl⟩,aK,⟨_,rfl,.int hw⟩,⟨_,rfl,.int (by rw[if_pos h2,if_pos h2,hmt];simp;omega)⟩,⟨_,rfl,.w64 om ⟨om,om⟩⟩,trivial⟩) om
  ·have h2:¬kind=2:=by simpa using h
   rw[h];refine Rr ?_;refine aH (fun h=>?_) (fun h=>?_)
   ·have h3:0<k:=by simp at h;omega
    refine Rr ?_;exact .mk (k+1) [(0,0),(1,1)] om (aE _ rfl ⟨aJ 0 cW,aJ 1 (.cons (a6 _) .nil),trivial⟩ ⟨⟨_,rfl,.sl 0 0 0 _ rfl⟩,aK,⟨_,rfl,.int hw⟩,⟨_,rfl,.int (by rw[if_neg h2,if_neg h2,hmd h3];simp;omega)⟩,⟨_,rfl,.w64 om ⟨om,om⟩⟩,trivial⟩) om
   ·have h3:k=0:=by simp at h;omega
    refine Rr ?_;exact .mk (k+1) [(0,0),(1,1)] om (aE _ rfl ⟨aJ 0 cW,aJ 1 (.cons (a6 _) .nil),trivial⟩ ⟨⟨_,rfl,.sl 0 0 0 _ rfl⟩,aK,⟨_,rfl,.int hw⟩,⟨_,rfl,.int (by rw[if_neg h2,if_neg h2,h3];cases kids<;>simp)⟩,⟨_,rfl,.w64 om ⟨om,om⟩⟩,trivial⟩) om
 ·have hke:k=kids.length:=by rw[aD] at h;simp at h;omega
  rw[hke,List.take_length] at *;have hm1:=hmost kids;have hm2:=hmost (kids.drop 1);have hs2:=hsum kids;clear hke h;rcases(show kind=0∨kind=1∨kind=2∨kind=3∨kind=4 by omega) with rfl|rfl|rfl|rfl|rfl
  ·have hz:=KL (.mk vk vn vs vks) om;have hval:iY bs ⟨0,name,lo,hi,ws,ls,vals,kids,.mk vk vn vs vks⟩=((bC (.mk vk vn vs vks):Nat):Int):=rfl;generalize bC (.mk vk vn vs vks)=sz at hz hval;refine Rr ?_;refine hz.go ?_;refine Rr ?_;refine aP (bV rfl rfl (by rw[aD]) (by simp;omega)) ?_;refine Rr ?_;exact hfin sz _ _ _ _ rfl (by decide) rfl hval.symm
  ·refine Rr ?_;refine aP (bV rfl rfl (by rw[aD]) (by simp;omega)) ?_;refine Rr ?_;exact hfin 1 _ _ _ _ rfl (by decide) rfl rfl
  ·rw[if_pos rfl] at *;refine Rr ?_;refine aP (bV rfl rfl (by rw[aD]) (by simp;omega)) ?_;refine Rr ?_;exact hfin (cG bs kids) _ _ _ _ rfl (by decide) rfl rfl
  ·refine Rr ?_;refine aP (bV rfl rfl (by rw[aD]) (by simp;omega)) ?_;refine Rr ?_;exact hfin (1+eH bs kids) _ _ _ _ rfl (by decide) rfl rfl
  ·rw[if_neg om] at *;refine Rr ?_;refine aP (bV rfl rfl (by rw[aD]) (by simp;omega)) ?_;refine Rr ?_;exact hfin (cG bs (kids.drop 1)) _ _ _ _ rfl (by decide) rfl rfl
set_option maxHeartbeats 4000000
theorem Qi(k:Int)(b:Bool):Sc (.tup [.int .i64 k,.bool b]):=.tup _ fun j c h=>by
 rcases j with _|_|j<;>simp at h<;>subst h
 ·exact .int _ _
 ·exact .bool _
theorem GD(l:List a7)(hl:l.length<=4294967296)(hok:∀a∈l,gD a) :
  aG prog [] 175 [.il 4 (aO l)] [] 0 fun r m n=>r = .sl 0 0 (dV l).length/\m=[(0,.row 57 4 (aO (dV l)))]/\n=1:=by
 have nl:NN (.il 4 (aO l)):=nn;refine aM bG func175 rfl ?_;refine Rr ?_;refine a9.ph 57 4 ?_;refine a9.at bG (fun x:Nat × List a7=>x.1<=l.length/\x.2=dV (l.take x.1))
  (fun x=>⟨[(0,.il 4 (aO l)),(3,.sl 0 0 x.2.length),(4,.int .i64 x.1)],[(0,.row 57 4 (aO x.2))],1,41⟩)
  (fun x=>l.length-x.1) (0,[]) [(0,0)] ⟨by simp,by simp[dV]⟩
  (aE _ rfl ⟨⟨0,_,rfl,rfl,.nil⟩,trivial⟩ ⟨aR nl,⟨_,rfl,.nslk 0 0 _ rfl rfl⟩,aF,trivial⟩) ?_
 rintro⟨k,out⟩ ⟨h1,h2⟩
 dsimp only at h1 h2 ⊢
 have hout:out.length<=k:=by rw[h2];have:=pZ (l.take k);simp at this;omega
 have el:=aA out;have hoko:∀a∈out,gD a:=fun a ha=>by rw[h2] at ha;exact hok a (List.mem_of_mem_take (oK ha))
 refine Rr ?_;refine aH (fun h=>?_) (fun h=>?_)
 ·have hk:k<l.length:=El h;obtain⟨ak,an,az,aks,hmem,hg,hv,e⟩:=bX (l:=l) (k:=k) hk;have hnext:dV (l.take (k+1))=rQ out (.mk ak an az aks):=by
   rw[List.take_succ_eq_append_getElem hk,nE,←h2,hv]
  have hf:=M1 out (.mk ak an az aks) om hoko;have hle:=v7 out (.mk ak an az aks);have hins:rQ out (.mk ak an az aks)=if (dL out (.mk ak an az aks)).2 then out else out.take (dL out (.mk ak an az aks)).1 ++ .mk ak an az aks::out.drop (dL out (.mk ak an az aks)).1:=rfl
  generalize dL out (.mk ak an az aks)=f at hf hle hins;generalize rQ out (.mk ak an az aks)=nw at hnext hins;obtain⟨p,b⟩:=f
  dsimp only at hle hins hf
  refine Rr ?_;refine aC e ?_;refine Rr ?_;refine hf.lend bG (.cons (.fz' rfl rfl (by rw[aA];omega) (by rw[←aA];simp) (aS out)) (.cons (.same _ (bM (.mk ak an az aks))) .nil)) (Qi _ _) ?_;cases b with
  | true=>
   refine Rr ?_;rw[if_pos rfl] at hins;exact .mk (k+1,out) [(0,0)] ⟨by simp only;omega,by rw[←hins];exact hnext.symm⟩ (aE _ rfl ⟨aJ 0 cW,trivial⟩ ⟨aR nl,⟨_,rfl,.sl 0 0 0 _ rfl⟩,⟨_,rfl,.w64 (by simp) ⟨om,om⟩⟩,trivial⟩) (by simp only;omega)
  | false=>
   rw[if_neg (by simp)] at hins;refine Rr ?_;repeat(first
    | (refine aX ?_;refine Rr ?_)
    | (refine aC e ?_;refine Rr ?_)
    | (refine aP (Pk (by simp;try omega) (by simp;try omega) (by simp;try omega)) ?_;refine Rr ?_)
    | (refine aP (Fy (by simp;try omega)) ?_;refine Rr ?_)
    | (refine aP (zY rfl (by simp;try omega)) ?_;refine Rr ?_)
    | (refine aP (bV rfl rfl (by simp;try omega) (by simp;try omega)) ?_;refine Rr ?_))
   have hrow:List.take ((p:Int).toNat-0) (List.drop (0+0) (aO out))++List.take 1 (List.drop 0 [AV.agg [.int .i64 ak,.int .i64 an,.str az,.il 4 (aO aks)]])++List.take (out.length-(p:Int).toNat) (List.drop (0+(p:Int).toNat) (aO out))=aO nw:=by
    rw[hins];simp[eX,bK,List.map_take,List.map_drop];exact List.take_of_length_le (by simp)
   exact .mk (k+1,nw) [(19,0)] ⟨by simp only;omega,hnext.symm⟩ (aE _ rfl ⟨⟨19,_,rfl,rfl,.eq cW hrow⟩,trivial⟩ ⟨aR nl,⟨_,rfl,.slE rfl (by have:=congrArg List.length hrow;rw[List.length_append,List.length_append,aA] at this;exact this)⟩,⟨_,rfl,.w64 (by simp) ⟨om,om⟩⟩,trivial⟩) (by simp only;omega)
 ·have hk:k=l.length:=by have:=EM h;omega
  refine Rr ?_;rw[hk,List.take_length] at h2;subst h2;exact bN (n':=1) (m':=[(0,.row 57 4 (aO (dV l)))]) [(0,0)] rfl ⟨aJ 0 cW,trivial⟩ (.sl 0 0 0 _ rfl) ⟨rfl,rfl,rfl⟩
theorem NR(l:List a7)(hl:l.length<=4294967296)(hok:∀a∈l,gD a):a8 prog [] 175 [.il 4 (aO l)] (.il 4 (aO (dV l))):=by
 refine aG.turn bG ((GD l hl hok).mono ?_);rintro r m n ⟨rfl,rfl,rfl⟩;exact bU (.fz' rfl rfl (by rw[aA];omega) (by rw[←aA];simp) cW) ⟨rfl,rfl,rfl⟩
set_option maxHeartbeats 8000000
theorem IW(x:Nd)(bs:List Go.Ax.f6)(h0:x.kind=0):aG prog [] 150 [cH x,.sl 0 0 bs.length] [(0,.row 166 2 (encLs bs))] 1 fun r m _=>r=kE (cR x bs)/\m=[(0,.row 166 2 (encLs bs))]:=by
 have nb:NN (.il 2 (encLs bs)):=.il' (encLs_nn bs);obtain⟨kind,name,lo,hi,ws,ls,vals,kids,⟨vk,vn,vs,vks⟩⟩:=x;simp only at h0;subst h0;refine aM bG func150 rfl ?_;refine Rr ?_;refine bN (r':=kE ⟨[.mk vk vn vs vks],false⟩) (n':=1) (m':=[(0,.row 166 2 (encLs bs))]) [(0,0)] rfl ⟨aJ 0 (encLs_nn bs),trivial⟩ (.agg' (.cons (.fzR rfl rfl (.cons (GJ.same (x:=bK (.mk vk vn vs vks)) nn) .nil) rfl) (.s .nil))) ⟨rfl,rfl⟩
theorem GF(x:Nd)(bs:List Go.Ax.f6)(h1:x.kind=1)(hlo : -4611686018427387904<=x.lo)(hh:x.lo<=x.hi)(hhi:x.hi<=4611686018427387904)(hsp:x.hi<x.lo+1099511627776):aG prog [] 150 [cH x,.sl 0 0 bs.length] [(0,.row 166 2 (encLs bs))] 1 fun r m _=>r=kE (cR x bs)/\m=[(0,.row 166 2 (encLs bs))]:=by
 obtain⟨kind,name,lo,hi,ws,ls,vals,kids,⟨vk,vn,vs,vks⟩⟩:=x;simp only at h1 hlo hh hhi hsp;subst h1;have hres:cR ⟨1,name,lo,hi,ws,ls,vals,kids,.mk vk vn vs vks⟩ bs=if 1024<=hi-lo then⟨[],true⟩ else⟨qB lo (hi+1-lo).toNat,false⟩:=rfl
 generalize cR ⟨1,name,lo,hi,ws,ls,vals,kids,.mk vk vn vs vks⟩ bs=res at hres;have hw:IntKind.i64.wrap (hi-lo)=hi-lo:=w64 rfl ⟨om,om⟩;refine aM bG func150 rfl ?_;refine Rr ?_;rw[hw];refine aH (fun h=>?_) (fun h=>?_)
 ·refine Rr ?_;exact bN (r':=kE ⟨[],true⟩) (n':=1) (m':=[(0,.row 166 2 (encLs bs))]) [(0,0)] rfl ⟨aJ 0 (encLs_nn bs),trivial⟩ (.agg' (.cons (.nil 4) (.s .nil))) ⟨by rw[hres,if_pos (by simpa using h)],rfl⟩
 ·have hlt:hi-lo<1024:=by simpa using h
  rw[if_neg om] at hres;refine Rr ?_;refine a9.ph 57 4 ?_;refine a9.at bG (fun k:Nat=>lo+k<=hi+1)
   (fun k=>⟨[(2,.ptr 1 0 0),(4,.ptr 2 0 0),(5,.ptr 3 0 0),(6,.int .i64 (lo+k))],[(0,.row 166 2 (encLs bs)),(1,.row 83 12 [cH ⟨1,name,lo,hi,ws,ls,vals,kids,.mk vk vn vs vks⟩]),(2,.row 166 2 [.agg [.nsl,.bool false]]),(3,.row 166 2 [.agg [.sl 4 0 (qB lo k).length,.bool false]]),(4,.row 57 4 (aO (qB lo k)))],5,96⟩)
   (fun k=>(hi+1-lo).toNat-k) 0 [(0,0),(1,1),(2,2),(3,3),(4,4)] om
   (aE _ rfl ⟨aJ 0 (encLs_nn bs),aJ 1 (.cons (a6 _) .nil),aJ 2 cW,⟨3,_,rfl,rfl,.cons (.agg (.cons (.nslk 4 4 _ rfl rfl) (.s .nil))) .nil⟩,⟨4,_,rfl,rfl,.nil⟩,trivial⟩ ⟨aK,aK,aK,⟨_,rfl,.int (by simp)⟩,trivial⟩) ?_
  intro k hk;have hlen:=Bm lo k;refine Rr ?_;refine aH (fun h=>?_) (fun h=>?_)
  ·have hkl:lo+k<=hi:=by simpa using h
   refine Rr ?_;refine aP (bV rfl rfl (by rw[aA]) (by simp;omega)) ?_;refine Rr ?_;exact .mk (k+1) [(0,0),(1,1),(2,2),(3,3),(6,4)] om
    (aE _ rfl ⟨aJ 0 (encLs_nn bs),aJ 1 (.cons (a6 _) .nil),aJ 2 cW,⟨3,_,rfl,rfl,.cons (.agg (.cons (.slE rfl (by rw[yN];simp)) (.s .nil))) .nil⟩,⟨6,_,rfl,rfl,by rw[yN,e7];exact .snoc rfl (.same cW) (v5 _ _ _)⟩,trivial⟩ ⟨aK,aK,aK,⟨_,rfl,.w64 om ⟨om,om⟩⟩,trivial⟩) om
  ·have hke:k=(hi+1-lo).toNat:=by simp at h;omega
   refine Rr ?_;exact bN (r':=kE ⟨qB lo k,false⟩) (n':=1) (m':=[(0,.row 166 2 (encLs bs))]) [(0,0)] rfl ⟨aJ 0 (encLs_nn bs),trivial⟩ (.agg' (.cons (.fzR rfl rfl (.same cW) (by rw[aA])) (.s .nil))) ⟨by rw[hres,hke],rfl⟩
set_option maxHeartbeats 8000000
theorem It(x:Nd)(bs:List Go.Ax.f6)(h2:x.kind=2)(hkl:x.kids.length<=65536)(hk:∀(j:Nat) (k:Int),x.kids[j]? = some k->0<=k/\k<bs.length)(hb:∀b∈bs,b.vals.length<=1024/\∀v∈b.vals,gD v) :
  aG prog [] 150 [cH x,.sl 0 0 bs.length] [(0,.row 166 2 (encLs bs))] 1 fun r m _=>r=kE (cR x bs)/\m=[(0,.row 166 2 (encLs bs))]:=by
 have nb:NN (.il 2 (encLs bs)):=.il' (encLs_nn bs);obtain⟨kind,name,lo,hi,ws,ls,vals,kids,⟨vk,vn,vs,vks⟩⟩:=x;simp only at h2 hkl hk;subst h2;have hres:cR ⟨2,name,lo,hi,ws,ls,vals,kids,.mk vk vn vs vks⟩ bs=kI bs kids:=rfl;generalize cR ⟨2,name,lo,hi,ws,ls,vals,kids,.mk vk vn vs vks⟩ bs=res at hres;refine aM bG func150 rfl ?_;refine Rr ?_;refine a9.ph 57 4 ?_;refine a9.at bG (fun a:Nat × (List a7 × Bool)=>a.1<=kids.length/\a.2=(kids.take a.1).foldl (bJ bs) ([],false))
  (fun a=>⟨[(1,.sl 0 0 bs.length),(2,.ptr 1 0 0),(4,.ptr 2 0 0),(5,.ptr 3 0 0),(7,.int .i64 a.1)],[(0,.row 166 2 (encLs bs)),(1,.row 83 12 [cH ⟨2,name,lo,hi,ws,ls,vals,kids,.mk vk vn vs vks⟩]),(2,.row 166 2 [.agg [.nsl,.bool false]]),(3,.row 166 2 [.agg [.sl 4 0 a.2.1.length,.bool a.2.2]]),(4,.row 57 4 (aO a.2.1))],5,96⟩)
  (fun a=>kids.length-a.1) (0,[],false) [(0,0),(1,1),(2,2),(3,3),(4,4)] ⟨by simp,by simp⟩
  (aE _ rfl ⟨aJ 0 (encLs_nn bs),aJ 1 (.cons (a6 _) .nil),aJ 2 cW,⟨3,_,rfl,rfl,.cons (.agg (.cons (.nslk 4 4 _ rfl rfl) (.s .nil))) .nil⟩,⟨4,_,rfl,rfl,.nil⟩,trivial⟩ ⟨⟨_,rfl,.sl 0 0 0 _ rfl⟩,aK,aK,aK,⟨_,rfl,.int rfl⟩,trivial⟩) ?_
 rintro⟨k,a1,am⟩ ⟨hkk,ha⟩;simp only at hkk ha;have hbd:=tC hb (kids.take k) ([],false) 0 (by simp) (by simp);rw[←ha] at hbd;simp only at hbd;have hlk:(kids.take k).length<=65536:=by simp;omega
 have ha1:a1.length<=67108864:=om;refine Rr ?_;refine aH (fun h=>?_) (fun h=>?_)
 ·have hlt:k<kids.length:=by rw[aD] at h;simpa using h
  have e1:(aT kids)[(k:Int).toNat]? = some (.int .i64 kids[k]):=by rw[Int.toNat_natCast,bF,List.getElem?_eq_getElem hlt];rfl
  have hg:kids[k]? = some kids[k]:=List.getElem?_eq_getElem hlt;have hstep:=GC (bJ bs) hlt ([],false);rw[←ha] at hstep;generalize kids[k]=q at e1 hg hstep;obtain⟨q1,q2⟩:=hk k q hg;obtain⟨qn,rfl⟩:=Int.eq_ofNat_of_zero_le q1;have hqn:qn<bs.length:=om;obtain⟨⟨bv,bm⟩,hbe⟩:∃b,b=bs[qn]:=⟨_,rfl⟩
  have hbm:=hb _ (show (⟨bv,bm⟩:Go.Ax.f6)∈bs by rw[hbe];exact List.getElem_mem hqn);simp only at hbm;have hat:cT bs qn=⟨bv,bm⟩:=by rw[hbe];simp[cT,hqn]
  have bq:Nat.blt (qn:Int).toNat bs.length=true:=Nat.ble_eq_true_of_le (by simp;omega);have e2:(encLs bs)[0+(qn:Int).toNat]? = some (kE ⟨bv,bm⟩):=by rw[Nat.zero_add,Int.toNat_natCast,encLs_get,List.getElem?_eq_getElem hqn,←hbe];rfl
  have hso:=GD (a1++bv) (by simp;omega) (fun v hv=>by
   rcases List.mem_append.1 hv with h|h
   ·exact hbd.2 v h
   ·exact hbm.2 v h)
  have hun:bJ bs (a1,am) qn=(dV (a1++bv),am || bm || decide (1024<(dV (a1++bv)).length)):=by simp[bJ,hat]
  rw[hun] at hstep;generalize dV (a1++bv)=sv at hso hstep;refine Rr ?_;refine aC e1 ?_;refine Rr ?_;repeat((first|refine aP bq ?_|refine aC e2 ?_);refine Rr ?_)
  refine aP (bV rfl rfl (by rw[aA]) (by simp[aA];omega)) ?_;refine Rr ?_;refine aG.pre bG [(5,5),(0,0),(1,1),(2,2),(3,3)] (mem':=[(5,.row 166 2 [.agg [.il 4 (aO bv),.bool bm]]),(0,.row 166 2 (encLs bs)),(1,.row 83 12 [cH ⟨2,name,lo,hi,ws,ls,vals,kids,.mk vk vn vs vks⟩]),(2,.row 166 2 [.agg [.nsl,.bool false]]),(3,.row 166 2 [.agg [.junk,.bool am]])]) rfl
   ⟨aJ 5 cW,aJ 0 (encLs_nn bs),aJ 1 (.cons (a6 _) .nil),aJ 2 cW,⟨3,_,rfl,rfl,.cons (.agg (.cons (.junk _) (.s .nil))) .nil⟩,trivial⟩
   (.cons (.fzR (ys:=aO (a1++bv)) rfl rfl (.eq cW (by simp[eX])) (by simp[aA])) .nil) ?_
  refine aG.useNew bG hso cW cW ?_;cases am<;>cases bm
  all_goals
   refine Rr ?_;exact .mk (k+1,sv,_) [(0,0),(1,1),(2,2),(3,3),(7,4)] ⟨by simp only;omega,hstep.symm⟩
    (aE _ rfl ⟨aJ 0 (encLs_nn bs),aJ 1 (.cons (a6 _) .nil),aJ 2 cW,⟨3,_,rfl,rfl,.cons (.agg (.cons (.sl 7 4 0 _ rfl) (.cons (.bool (by simp[decide_eq_decide]<;>omega)) .nil))) .nil⟩,aJ 7 cW,trivial⟩
     ⟨⟨_,rfl,.sl 0 0 0 _ rfl⟩,aK,aK,aK,⟨_,rfl,.w64 (by simp) ⟨by simp only;omega,by simp only;omega⟩⟩,trivial⟩) (by simp only;omega)
 ·have hke:k=kids.length:=by rw[aD] at h;simp at h;omega
  rw[hke,List.take_length] at ha;have hu:kI bs kids=if am then⟨[],true⟩ else⟨a1,false⟩:=by
   unfold kI;rw[←ha]
  cases am with
  | true=>
   refine Rr ?_;exact bN (r':=kE ⟨[],true⟩) (n':=1) (m':=[(0,.row 166 2 (encLs bs))]) [(0,0)] rfl ⟨aJ 0 (encLs_nn bs),trivial⟩ (.agg' (.cons (.nil 4) (.s .nil))) ⟨by rw[hres,hu,if_pos rfl],rfl⟩
  | false=>
   refine Rr ?_;exact bN (r':=kE ⟨a1,false⟩) (n':=1) (m':=[(0,.row 166 2 (encLs bs))]) [(0,0)] rfl ⟨aJ 0 (encLs_nn bs),trivial⟩ (.agg' (.cons (.fzR rfl rfl (.same cW) (by rw[aA])) (.s .nil))) ⟨by rw[hres,hu,if_neg (by simp)],rfl⟩
set_option maxHeartbeats 8000000
theorem Iw(x:Nd)(bs:List Go.Ax.f6)(h2:x.kind=4)(hkl:x.kids.length<=65536)(hk:∀(j:Nat) (k:Int),x.kids[j]? = some k->0<=k/\k<bs.length)(hb:∀b∈bs,b.vals.length<=1024/\∀v∈b.vals,gD v) :
  aG prog [] 150 [cH x,.sl 0 0 bs.length] [(0,.row 166 2 (encLs bs))] 1 fun r m _=>r=kE (cR x bs)/\m=[(0,.row 166 2 (encLs bs))]:=by
 have nb:NN (.il 2 (encLs bs)):=.il' (encLs_nn bs);obtain⟨kind,name,lo,hi,ws,ls,vals,kids,⟨vk,vn,vs,vks⟩⟩:=x;simp only at h2 hkl hk;subst h2;have hres:cR ⟨4,name,lo,hi,ws,ls,vals,kids,.mk vk vn vs vks⟩ bs=kI bs (kids.drop 1):=rfl;generalize cR ⟨4,name,lo,hi,ws,ls,vals,kids,.mk vk vn vs vks⟩ bs=res at hres;refine aM bG func150 rfl ?_;refine Rr ?_;refine a9.ph 57 4 ?_;refine a9.at bG (fun a:Nat × (List a7 × Bool)=>a.1<=kids.length/\a.2=((kids.take a.1).drop 1).foldl (bJ bs) ([],false))
  (fun a=>⟨[(1,.sl 0 0 bs.length),(2,.ptr 1 0 0),(4,.ptr 2 0 0),(5,.ptr 3 0 0),(7,.int .i64 a.1)],[(0,.row 166 2 (encLs bs)),(1,.row 83 12 [cH ⟨4,name,lo,hi,ws,ls,vals,kids,.mk vk vn vs vks⟩]),(2,.row 166 2 [.agg [.nsl,.bool false]]),(3,.row 166 2 [.agg [.sl 4 0 a.2.1.length,.bool a.2.2]]),(4,.row 57 4 (aO a.2.1))],5,96⟩)
  (fun a=>kids.length-a.1) (0,[],false) [(0,0),(1,1),(2,2),(3,3),(4,4)] ⟨by simp,by simp⟩
  (aE _ rfl ⟨aJ 0 (encLs_nn bs),aJ 1 (.cons (a6 _) .nil),aJ 2 cW,⟨3,_,rfl,rfl,.cons (.agg (.cons (.nslk 4 4 _ rfl rfl) (.s .nil))) .nil⟩,⟨4,_,rfl,rfl,.nil⟩,trivial⟩ ⟨⟨_,rfl,.sl 0 0 0 _ rfl⟩,aK,aK,aK,⟨_,rfl,.int rfl⟩,trivial⟩) ?_
 rintro⟨k,a1,am⟩ ⟨hkk,ha⟩;simp only at hkk ha;have hbd:=tC hb ((kids.take k).drop 1) ([],false) 0 (by simp) (by simp);rw[←ha] at hbd;simp only at hbd;have hlk:((kids.take k).drop 1).length<=65536:=by simp;omega
 have ha1:a1.length<=67108864:=om;refine Rr ?_;refine aH (fun h=>?_) (fun h=>?_)
 ·have hlt:k<kids.length:=by rw[aD] at h;simpa using h
  have e1:(aT kids)[(k:Int).toNat]? = some (.int .i64 kids[k]):=by rw[Int.toNat_natCast,bF,List.getElem?_eq_getElem hlt];rfl
  have hg:kids[k]? = some kids[k]:=List.getElem?_eq_getElem hlt;refine Rr ?_;refine aH (fun h=>?_) (fun h=>?_)
  ·have hk0:k=0:=by simp at h;omega
   subst hk0;refine Rr ?_;exact .mk (1,a1,am) [(0,0),(1,1),(2,2),(3,3),(4,4)] ⟨by simp only;omega,by rw[ha];cases kids<;>simp⟩
    (aE _ rfl ⟨aJ 0 (encLs_nn bs),aJ 1 (.cons (a6 _) .nil),aJ 2 cW,⟨3,_,rfl,rfl,.cons (.agg (.cons (.sl 4 4 0 _ rfl) (.s .nil))) .nil⟩,aJ 4 cW,trivial⟩ ⟨⟨_,rfl,.sl 0 0 0 _ rfl⟩,aK,aK,aK,⟨_,rfl,.int rfl⟩,trivial⟩) (by simp only;omega)
  have hk0:0<k:=by
   rcases Nat.eq_zero_or_pos k with h'|h'
   ·rw[h'] at h;simp at h
   ·exact h'
  have hstep:=Gt (bJ bs) hlt hk0 ([],false);rw[←ha] at hstep;generalize kids[k]=q at e1 hg hstep;obtain⟨q1,q2⟩:=hk k q hg;obtain⟨qn,rfl⟩:=Int.eq_ofNat_of_zero_le q1;have hqn:qn<bs.length:=om;obtain⟨⟨bv,bm⟩,hbe⟩:∃b,b=bs[qn]:=⟨_,rfl⟩
  have hbm:=hb _ (show (⟨bv,bm⟩:Go.Ax.f6)∈bs by rw[hbe];exact List.getElem_mem hqn);simp only at hbm;have hat:cT bs qn=⟨bv,bm⟩:=by rw[hbe];simp[cT,hqn]
  have bq:Nat.blt (qn:Int).toNat bs.length=true:=Nat.ble_eq_true_of_le (by simp;omega);have e2:(encLs bs)[0+(qn:Int).toNat]? = some (kE ⟨bv,bm⟩):=by rw[Nat.zero_add,Int.toNat_natCast,encLs_get,List.getElem?_eq_getElem hqn,←hbe];rfl
  have hso:=GD (a1++bv) (by simp;omega) (fun v hv=>by
   rcases List.mem_append.1 hv with h|h
   ·exact hbd.2 v h
   ·exact hbm.2 v h)
  have hun:bJ bs (a1,am) qn=(dV (a1++bv),am || bm || decide (1024<(dV (a1++bv)).length)):=by simp[bJ,hat]
  rw[hun] at hstep;generalize dV (a1++bv)=sv at hso hstep;refine Rr ?_;refine aC e1 ?_;refine Rr ?_;repeat((first|refine aP bq ?_|refine aC e2 ?_);refine Rr ?_)
  refine aP (bV rfl rfl (by rw[aA]) (by simp[aA];omega)) ?_;refine Rr ?_;refine aG.pre bG [(5,5),(0,0),(1,1),(2,2),(3,3)] (mem':=[(5,.row 166 2 [.agg [.il 4 (aO bv),.bool bm]]),(0,.row 166 2 (encLs bs)),(1,.row 83 12 [cH ⟨4,name,lo,hi,ws,ls,vals,kids,.mk vk vn vs vks⟩]),(2,.row 166 2 [.agg [.nsl,.bool false]]),(3,.row 166 2 [.agg [.junk,.bool am]])]) rfl
   ⟨aJ 5 cW,aJ 0 (encLs_nn bs),aJ 1 (.cons (a6 _) .nil),aJ 2 cW,⟨3,_,rfl,rfl,.cons (.agg (.cons (.junk _) (.s .nil))) .nil⟩,trivial⟩
   (.cons (.fzR (ys:=aO (a1++bv)) rfl rfl (.eq cW (by simp[eX])) (by simp[aA])) .nil) ?_
  refine aG.useNew bG hso cW cW ?_;cases am<;>cases bm
  all_goals
   refine Rr ?_;exact .mk (k+1,sv,_) [(0,0),(1,1),(2,2),(3,3),(7,4)] ⟨by simp only;omega,hstep.symm⟩
    (aE _ rfl ⟨aJ 0 (encLs_nn bs),aJ 1 (.cons (a6 _) .nil),aJ 2 cW,⟨3,_,rfl,rfl,.cons (.agg (.cons (.sl 7 4 0 _ rfl) (.cons (.bool (by simp[decide_eq_decide]<;>omega)) .nil))) .nil⟩,aJ 7 cW,trivial⟩
     ⟨⟨_,rfl,.sl 0 0 0 _ rfl⟩,aK,aK,aK,⟨_,rfl,.w64 (by simp) ⟨by simp only;omega,by simp only;omega⟩⟩,trivial⟩) (by simp only;omega)
 ·have hke:k=kids.length:=by rw[aD] at h;simp at h;omega
  rw[hke,List.take_length] at ha;have hu:kI bs (kids.drop 1)=if am then⟨[],true⟩ else⟨a1,false⟩:=by
   unfold kI;rw[←ha]
  cases am with
  | true=>
   refine Rr ?_;exact bN (r':=kE ⟨[],true⟩) (n':=1) (m':=[(0,.row 166 2 (encLs bs))]) [(0,0)] rfl ⟨aJ 0 (encLs_nn bs),trivial⟩ (.agg' (.cons (.nil 4) (.s .nil))) ⟨by rw[hres,hu,if_pos rfl],rfl⟩
  | false=>
   refine Rr ?_;exact bN (r':=kE ⟨a1,false⟩) (n':=1) (m':=[(0,.row 166 2 (encLs bs))]) [(0,0)] rfl ⟨aJ 0 (encLs_nn bs),trivial⟩ (.agg' (.cons (.fzR rfl rfl (.same cW) (by rw[aA])) (.s .nil))) ⟨by rw[hres,hu,if_neg (by simp)],rfl⟩
set_option maxHeartbeats 8000000
def lM(l:List (List a7)):List AV:=l.map fun r=>.il 4 (aO r)
theorem gY(l:List (List a7)):iW (lM l):=fun a ha=>by
 obtain⟨n,_,rfl⟩:=List.mem_map.1 ha;exact nn
theorem pB(l:List a7):∀rows:List (List a7),(fM rows l).length=rows.length*l.length
 | []=>by simp[fM]
 | r::rs=>by
  have:=pB l rs;simp only[fM,List.flatMap_cons,List.length_append,List.length_map,List.length_cons,Nat.add_mul,Nat.one_mul] at this ⊢;omega
theorem G6(l:List (List a7))(r:List a7):lM (l++[r])=lM l++[.il 4 (aO r)]:=by simp[lM]
theorem DR(l:List (List a7)):(lM l).length=l.length:=by simp[lM]
theorem AL{name:List UInt8}(hn:name.length<=4294967296){r:List a7}(hr:r.length<=4294967296)(ho:∀v∈r,gD v):gD (c9 name r):=by
 unfold c9;split
 ·exact jR ⟨om,om⟩ ⟨om,om⟩ (by simp) hr (pA ho)
 ·exact jR ⟨om,om⟩ ⟨om,om⟩ hn hr (pA ho)
theorem Qa(x:Nd)(bs:List Go.Ax.f6)(hname:x.name.length<=4294967296)(hkl:x.kids.length<=65536)(hk:∀(j:Nat) (k:Int),x.kids[j]? = some k->0<=k/\k<bs.length)(hb:∀b∈bs,b.vals.length<=1024/\∀v∈b.vals,gD v) :
  aG prog [] 174 [cH x,.sl 0 0 bs.length] [(0,.row 166 2 (encLs bs))] 1 fun r m _=>r=kE (nO bs x)/\m=[(0,.row 166 2 (encLs bs))]:=by
 obtain⟨kind,name,lo,hi,ws,ls,vals,kids,⟨vk,vn,vs,vks⟩⟩:=x;simp only at hkl hk hname;refine aM bG func174 rfl ?_;refine Rr ?_;refine a9.at bG (fun a:Nat × List (List a7)=>a.1<=kids.length/\a.2.length<=1024/\(∀r∈a.2,r.length<=a.1/\∀v∈r,gD v)/\Go.Ax.d9 bs kids [[]]=Go.Ax.d9 bs (kids.drop a.1) a.2)
  (fun a=>⟨[(1,.sl 0 0 bs.length),(2,.ptr 1 0 0),(4,.ptr 2 0 0),(5,.sl 3 0 a.2.length),(6,.int .i64 a.1)],[(0,.row 166 2 (encLs bs)),(1,.row 83 12 [cH ⟨kind,name,lo,hi,ws,ls,vals,kids,.mk vk vn vs vks⟩]),(2,.row 166 2 [.agg [.nsl,.bool false]]),(3,.row 55 1 (lM a.2))],4,91⟩)
  (fun a=>kids.length-a.1) (0,[[]]) [(0,0),(1,1),(2,2),(3,3)] ⟨by simp,by simp,by simp,by simp⟩
  (aE _ rfl ⟨aJ 0 (encLs_nn bs),aJ 1 (.cons (a6 _) .nil),aJ 2 cW,⟨3,_,rfl,rfl,.cons (.one rfl rfl (.nil 4)) .nil⟩,trivial⟩ ⟨⟨_,rfl,.sl 0 0 0 _ rfl⟩,aK,aK,⟨_,rfl,.sl 3 3 0 _ rfl⟩,⟨_,rfl,.int rfl⟩,trivial⟩) ?_
 rintro⟨k,rows⟩ ⟨hkk,hrl,hrr,hro⟩;simp only at hkk hrl hrr hro;have hseq:nO bs ⟨kind,name,lo,hi,ws,ls,vals,kids,.mk vk vn vs vks⟩=match Go.Ax.d9 bs kids [[]] with|none=>⟨[],true⟩|some rows=>⟨dV (rows.map (c9 name)),false⟩:=rfl
 refine Rr ?_;refine aH (fun h=>?_) (fun h=>?_)
 ·have hlt:k<kids.length:=by rw[aD] at h;simpa using h
  have e1:(aT kids)[(k:Int).toNat]? = some (.int .i64 kids[k]):=by rw[Int.toNat_natCast,bF,List.getElem?_eq_getElem hlt];rfl
  have hg:kids[k]? = some kids[k]:=List.getElem?_eq_getElem hlt;rw[List.drop_eq_getElem_cons hlt,Go.Ax.d9] at hro;generalize kids[k]=q at e1 hg hro;obtain⟨q1,q2⟩:=hk k q hg;obtain⟨qn,rfl⟩:=Int.eq_ofNat_of_zero_le q1;have hqn:qn<bs.length:=om;obtain⟨⟨bv,bm⟩,hbe⟩:∃b,b=bs[qn]:=⟨_,rfl⟩
  have hbm:=hb _ (show (⟨bv,bm⟩:Go.Ax.f6)∈bs by rw[hbe];exact List.getElem_mem hqn);simp only at hbm;have hat:cT bs qn=⟨bv,bm⟩:=by rw[hbe];simp[cT,hqn]
  rw[hat] at hro;simp only at hro;have bq:Nat.blt (qn:Int).toNat bs.length=true:=Nat.ble_eq_true_of_le (by simp;omega);have e2:(encLs bs)[0+(qn:Int).toNat]? = some (kE ⟨bv,bm⟩):=by rw[Nat.zero_add,Int.toNat_natCast,encLs_get,List.getElem?_eq_getElem hqn,←hbe];rfl
  refine Rr ?_;refine aC e1 ?_;refine Rr ?_;repeat((first|refine aP bq ?_|refine aC e2 ?_);refine Rr ?_)
  cases bm with
  | true=>
   refine Rr ?_;exact bN (r':=kE ⟨[],true⟩) (n':=1) (m':=[(0,.row 166 2 (encLs bs))]) [(0,0)] rfl ⟨aJ 0 (encLs_nn bs),trivial⟩ (.agg' (.cons (.nil 4) (.s .nil))) ⟨by rw[hseq,hro,if_pos (.inl rfl)],rfl⟩
  | false=>
   refine Rr ?_;have hmul:IntKind.i64.wrap ((rows.length:Int)*((aO bv).length:Nat))=((rows.length*bv.length:Nat):Int):=by
    have hm:rows.length*bv.length<=1024*1024:=Nat.mul_le_mul hrl hbm.1;rw[aA];exact w64 (by push_cast;rfl) ⟨om,om⟩
   rw[hmul];refine aH (fun h=>?_) (fun h=>?_)
   ·refine Rr ?_;exact bN (r':=kE ⟨[],true⟩) (n':=1) (m':=[(0,.row 166 2 (encLs bs))]) [(0,0)] rfl ⟨aJ 0 (encLs_nn bs),trivial⟩ (.agg' (.cons (.nil 4) (.s .nil))) ⟨by rw[hseq,hro,if_pos (.inr (by simp only[gt_iff_lt,decide_eq_true_eq] at h;omega))],rfl⟩
   ·have hle:rows.length*bv.length<=1024:=by simp only[gt_iff_lt,decide_eq_false_iff_not] at h;omega
    rw[if_neg (by simp;omega)] at hro;refine Rr ?_;refine a9.ph 55 1 ?_;refine a9.at bG (fun i:Nat=>i<=rows.length)
     (fun i=>⟨[(1,.sl 0 0 bs.length),(2,.ptr 1 0 0),(4,.ptr 2 0 0),(5,.sl 3 0 rows.length),(6,.int .i64 k),(7,.ptr 4 0 0),(8,.sl 5 0 (fM (rows.take i) bv).length),(9,.int .i64 i)],[(0,.row 166 2 (encLs bs)),(1,.row 83 12 [cH ⟨kind,name,lo,hi,ws,ls,vals,kids,.mk vk vn vs vks⟩]),(2,.row 166 2 [.agg [.nsl,.bool false]]),(3,.row 55 1 (lM rows)),(4,.row 166 2 [kE ⟨bv,false⟩]),(5,.row 55 1 (lM (fM (rows.take i) bv)))],6,91⟩)
     (fun i=>rows.length-i) 0 [(0,0),(1,1),(2,2),(3,3),(4,4),(5,5)] (by simp)
     (aE _ rfl ⟨aJ 0 (encLs_nn bs),aJ 1 (.cons (a6 _) .nil),aJ 2 cW,aJ 3 (gY _),aJ 4 (.cons (k7 _) .nil),⟨5,_,rfl,rfl,.nil⟩,trivial⟩ ⟨⟨_,rfl,.sl 0 0 0 _ rfl⟩,aK,aK,⟨_,rfl,.sl 3 3 0 _ rfl⟩,⟨_,rfl,.int rfl⟩,aK,⟨_,rfl,.nslk 5 5 _ rfl rfl⟩,⟨_,rfl,.int rfl⟩,trivial⟩) ?_
    intro i hi0;refine Rr ?_;refine aH (fun h=>?_) (fun h=>?_)
    ·have hir:i<rows.length:=by simpa using h
     obtain⟨rw,hrw⟩:∃rw,rw=rows[i]:=⟨_,rfl⟩
     have hrl2:=(hrr rw (by rw[hrw];exact List.getElem_mem hir)).1;have e3:(lM rows)[0+(i:Int).toNat]? = some (.il 4 (aO rw)):=by rw[Nat.zero_add,Int.toNat_natCast,lM,List.getElem?_map,List.getElem?_eq_getElem hir,hrw];rfl
     have b3:Nat.blt (i:Int).toNat rows.length=true:=Nat.ble_eq_true_of_le (by simp;omega);refine Rr ?_;refine a9.at bG (fun j:Nat=>j<=bv.length)
      (fun j=>⟨[(1,.sl 0 0 bs.length),(2,.ptr 1 0 0),(4,.ptr 2 0 0),(5,.sl 3 0 rows.length),(6,.int .i64 k),(7,.ptr 4 0 0),(8,.sl 5 0 (fM (rows.take i) bv++(bv.take j).map fun v=>rw++[v]).length),(9,.int .i64 i),(10,.int .i64 j)],[(0,.row 166 2 (encLs bs)),(1,.row 83 12 [cH ⟨kind,name,lo,hi,ws,ls,vals,kids,.mk vk vn vs vks⟩]),(2,.row 166 2 [.agg [.nsl,.bool false]]),(3,.row 55 1 (lM rows)),(4,.row 166 2 [kE ⟨bv,false⟩]),(5,.row 55 1 (lM (fM (rows.take i) bv++(bv.take j).map fun v=>rw++[v])))],6,91⟩)
      (fun j=>bv.length-j) 0 [(0,0),(1,1),(2,2),(3,3),(4,4),(5,5)] (by simp)
      (aE _ rfl ⟨aJ 0 (encLs_nn bs),aJ 1 (.cons (a6 _) .nil),aJ 2 cW,aJ 3 (gY _),aJ 4 (.cons (k7 _) .nil),⟨5,_,rfl,rfl,.eq (gY _) (by simp)⟩,trivial⟩ ⟨⟨_,rfl,.sl 0 0 0 _ rfl⟩,aK,aK,⟨_,rfl,.sl 3 3 0 _ rfl⟩,⟨_,rfl,.int rfl⟩,aK,⟨_,rfl,.slE rfl (by simp)⟩,⟨_,rfl,.int rfl⟩,⟨_,rfl,.int rfl⟩,trivial⟩) ?_
     intro j hj;have hX:(fM (rows.take i) bv).length<=1048576:=by
      rw[pB];exact Nat.le_trans (Nat.mul_le_mul (show (rows.take i).length<=1024 by simp;omega) hbm.1) om
     refine Rr ?_;refine aH (fun h=>?_) (fun h=>?_)
     ·have hjl:j<bv.length:=El h;obtain⟨p1,p2,p3,p4,pm,pg,pe,ep⟩:=bX (l:=bv) (k:=j) hjl;have hL:fM (rows.take i) bv++((bv.take (j+1)).map fun v=>rw++[v])=(fM (rows.take i) bv++(bv.take j).map fun v=>rw++[v])++[rw++[.mk p1 p2 p3 p4]]:=by
       rw[List.take_succ_eq_append_getElem hjl,pe];simp
      refine Rr ?_;repeat((first|refine aP b3 ?_|refine aC e3 ?_);refine Rr ?_)
      refine aP (zY rfl (by rw[aA];omega)) ?_;refine Rr ?_;refine aC ep ?_;refine Rr ?_;refine aP (bV rfl rfl (by simp) (by simp[aA];omega)) ?_;refine Rr ?_;refine aP (bV rfl rfl (by rw[DR]) (by simp;omega)) ?_;refine Rr ?_;exact .mk (j+1) [(0,0),(1,1),(2,2),(3,3),(4,4),(10,5)] om
       (aE _ rfl ⟨aJ 0 (encLs_nn bs),aJ 1 (.cons (a6 _) .nil),aJ 2 cW,aJ 3 (gY _),aJ 4 (.cons (k7 _) .nil),⟨10,_,rfl,rfl,by rw[hL,G6];exact .snoc rfl (.same (gY _)) (.one rfl rfl (.fzR rfl rfl (.eq cW (by rw[e7];rfl)) (by simp[aA])))⟩,trivial⟩ ⟨⟨_,rfl,.sl 0 0 0 _ rfl⟩,aK,aK,⟨_,rfl,.sl 3 3 0 _ rfl⟩,⟨_,rfl,.int rfl⟩,aK,⟨_,rfl,.slE rfl (by rw[hL];simp only[List.length_append];rfl)⟩,⟨_,rfl,.int rfl⟩,⟨_,rfl,.w64 om ⟨om,om⟩⟩,trivial⟩) om
     ·have hje:j=bv.length:=by have:bv.length<=j:=EM h;omega
      refine Rr ?_;exact .mk (i+1) [(0,0),(1,1),(2,2),(3,3),(4,4),(5,5)] om
       (aE _ rfl ⟨aJ 0 (encLs_nn bs),aJ 1 (.cons (a6 _) .nil),aJ 2 cW,aJ 3 (gY _),aJ 4 (.cons (k7 _) .nil),⟨5,_,rfl,rfl,.eq (gY _) (by rw[hje,List.take_length,List.take_succ_eq_append_getElem hir,←hrw];simp[fM])⟩,trivial⟩ ⟨⟨_,rfl,.sl 0 0 0 _ rfl⟩,aK,aK,⟨_,rfl,.sl 3 3 0 _ rfl⟩,⟨_,rfl,.int rfl⟩,aK,⟨_,rfl,.slE rfl (by rw[hje,List.take_length,List.take_succ_eq_append_getElem hir,←hrw];simp[fM])⟩,⟨_,rfl,.w64 om ⟨om,om⟩⟩,trivial⟩) om
    ·have hie:i=rows.length:=by simp at h;omega
     have hmem:∀r∈fM rows bv,r.length<=k+1/\∀v∈r,gD v:=by
      intro r hr;simp only[fM,List.mem_flatMap,List.mem_map] at hr;obtain⟨r',hr',v,hv,rfl⟩:=hr;have:=hrr r' hr';refine⟨by simp;omega,fun u hu=>?_⟩;rcases List.mem_append.1 hu with hu|hu
      ·exact this.2 u hu
      ·simp at hu;rw[hu];exact hbm.2 v hv
     refine Rr ?_;exact .mk (k+1,fM rows bv) [(0,0),(1,1),(2,2),(5,3)] ⟨by simp only;omega,by rw[pB];exact hle,hmem,hro⟩
      (aE _ rfl ⟨aJ 0 (encLs_nn bs),aJ 1 (.cons (a6 _) .nil),aJ 2 cW,⟨5,_,rfl,rfl,.eq (gY _) (by rw[hie,List.take_length])⟩,trivial⟩ ⟨⟨_,rfl,.sl 0 0 0 _ rfl⟩,aK,aK,⟨_,rfl,.slE rfl (by rw[hie,List.take_length])⟩,⟨_,rfl,.w64 (by simp) ⟨by simp only;omega,by simp only;omega⟩⟩,trivial⟩) (by simp only;omega)
 ·have hke:k=kids.length:=by rw[aD] at h;simp at h;omega
  rw[hke,List.drop_length,Go.Ax.d9] at hro;refine Rr ?_;refine a9.ph 57 4 ?_;refine a9.at bG (fun i:Nat=>i<=rows.length)
   (fun i=>⟨[(2,.ptr 1 0 0),(4,.ptr 2 0 0),(5,.sl 3 0 rows.length),(12,.sl 4 0 ((rows.take i).map (c9 name)).length),(13,.int .i64 i)],[(0,.row 166 2 (encLs bs)),(1,.row 83 12 [cH ⟨kind,name,lo,hi,ws,ls,vals,kids,.mk vk vn vs vks⟩]),(2,.row 166 2 [.agg [.nsl,.bool false]]),(3,.row 55 1 (lM rows)),(4,.row 57 4 (aO ((rows.take i).map (c9 name))))],5,91⟩)
   (fun i=>rows.length-i) 0 [(0,0),(1,1),(2,2),(3,3),(4,4)] (by simp)
   (aE _ rfl ⟨aJ 0 (encLs_nn bs),aJ 1 (.cons (a6 _) .nil),aJ 2 cW,aJ 3 (gY _),aJ 4 .nil,trivial⟩ ⟨aK,aK,⟨_,rfl,.sl 3 3 0 _ rfl⟩,⟨_,rfl,.nslk 4 4 _ rfl rfl⟩,⟨_,rfl,.int rfl⟩,trivial⟩) ?_
  intro i hi0;refine Rr ?_;refine aH (fun h=>?_) (fun h=>?_)
  ·have hir:i<rows.length:=by simpa using h
   obtain⟨rw,hrw⟩:∃rw,rw=rows[i]:=⟨_,rfl⟩
   have e3:(lM rows)[0+(i:Int).toNat]? = some (.il 4 (aO rw)):=by rw[Nat.zero_add,Int.toNat_natCast,lM,List.getElem?_map,List.getElem?_eq_getElem hir,hrw];rfl
   have b3:Nat.blt (i:Int).toNat rows.length=true:=Nat.ble_eq_true_of_le (by simp;omega);have hM:=M5 ⟨kind,name,lo,hi,ws,ls,vals,kids,.mk vk vn vs vks⟩ rw;have hL:(rows.take (i+1)).map (c9 name)=(rows.take i).map (c9 name)++[c9 name rw]:=by rw[List.take_succ_eq_append_getElem hir,←hrw];simp
   simp only at hM;obtain⟨⟨m1,m2,m3,m4⟩,hmv⟩:∃mv,mv=c9 name rw:=⟨_,rfl⟩
   rw[←hmv] at hM hL;refine Rr ?_;repeat((first|refine aX ?_|refine aP b3 ?_|refine aC e3 ?_);refine Rr ?_)
   refine hM.go ?_ (.cons (a6 ⟨kind,name,lo,hi,ws,ls,vals,kids,.mk vk vn vs vks⟩) cW);refine Rr ?_;refine aP (bV rfl rfl (by rw[aA]) (by simp;omega)) ?_;refine Rr ?_;repeat((first|refine aX ?_|refine aP b3 ?_|refine aC e3 ?_);refine Rr ?_)
   exact .mk (i+1) [(0,0),(1,1),(2,2),(3,3),(15,4)] om
    (aE _ rfl ⟨aJ 0 (encLs_nn bs),aJ 1 (.cons (a6 _) .nil),aJ 2 cW,aJ 3 (gY _),⟨15,_,rfl,rfl,.eq cW (by rw[hL,e7];rfl)⟩,trivial⟩ ⟨aK,aK,⟨_,rfl,.sl 3 3 0 _ rfl⟩,⟨_,rfl,.slE rfl (by rw[hL];simp)⟩,⟨_,rfl,.w64 om ⟨om,om⟩⟩,trivial⟩) om
  ·have hie:i=rows.length:=by simp at h;omega
   rw[hie,List.take_length];have hmo:∀v∈rows.map (c9 name),gD v:=by
    intro v hv;obtain⟨r,hr,rfl⟩:=List.mem_map.1 hv;have:=hrr r hr;exact AL hname om this.2
   have hS:=NR (rows.map (c9 name)) (by simp;omega) hmo;have hseq2:nO bs ⟨kind,name,lo,hi,ws,ls,vals,kids,.mk vk vn vs vks⟩=⟨dV (rows.map (c9 name)),false⟩:=by rw[hseq,hro]
   rw[hseq2];generalize rows.map (c9 name)=mv at hS ⊢;generalize dV mv=sv at hS ⊢;refine Rr ?_;refine aG.pre bG [(0,0),(1,1),(2,2),(3,3)] (mem':=[(0,.row 166 2 (encLs bs)),(1,.row 83 12 [cH ⟨kind,name,lo,hi,ws,ls,vals,kids,.mk vk vn vs vks⟩]),(2,.row 166 2 [.agg [.nsl,.bool false]]),(3,.row 55 1 (lM rows))]) (args':=[.il 4 (aO mv)]) rfl
    ⟨aJ 0 (encLs_nn bs),aJ 1 (.cons (a6 _) .nil),aJ 2 cW,aJ 3 (gY _),trivial⟩ (.cons (.fz' rfl rfl (by rw[aA];omega) (by rw[List.drop_zero];exact List.take_of_length_le (by rw[aA];omega)) cW) .nil) ?_
   refine hS.go ?_;refine Rr ?_;exact bN (r':=kE ⟨sv,false⟩) (n':=1) (m':=[(0,.row 166 2 (encLs bs))]) [(0,0)] rfl ⟨aJ 0 (encLs_nn bs),trivial⟩ (.same _ (k7 ⟨sv,false⟩)) ⟨rfl,rfl⟩
set_option maxHeartbeats 8000000
theorem Jn(x:Nd)(bs:List Go.Ax.f6)(h3:x.kind=3)(hname:x.name.length<=4294967296)(hkl:x.kids.length<=65536)(hk:∀(j:Nat) (k:Int),x.kids[j]? = some k->0<=k/\k<bs.length)(hb:∀b∈bs,b.vals.length<=1024/\∀v∈b.vals,gD v) :
  aG prog [] 150 [cH x,.sl 0 0 bs.length] [(0,.row 166 2 (encLs bs))] 1 fun r m _=>r=kE (cR x bs)/\m=[(0,.row 166 2 (encLs bs))]:=by
 have hS:=Qa x bs hname hkl hk hb;have e:cR x bs=nO bs x:=by unfold cR;rw[if_neg om,if_neg om,if_pos h3]
 rw[e];generalize nO bs x=q at hS ⊢;obtain⟨sv,sm⟩:=q;have hnn:=a6 x;obtain⟨kind,name,lo,hi,ws,ls,vals,kids,⟨vk,vn,vs,vks⟩⟩:=x;simp only at h3;subst h3;refine aM bG func150 rfl ?_;refine Rr ?_;refine aG.use1 bG hS 0 rfl (encLs_nn bs) (.cons (.same _ hnn) (.cons (.sl 0 0 0 _ rfl) .nil)) ?_;rintro r m n ⟨rfl,rfl⟩;refine⟨_,rfl,k7 _,encLs_nn bs, ?_⟩;refine Rr ?_;exact bN (r':=kE ⟨sv,sm⟩) (n':=1) (m':=[(0,.row 166 2 (encLs bs))]) [(0,0)] rfl ⟨aJ 0 (encLs_nn bs),trivial⟩ (.same _ (k7 ⟨sv,sm⟩)) ⟨rfl,rfl⟩
theorem M8(i:Nat)(x:Nd)(bs:List Go.Ax.f6)(hx:gW i x)(hl:i=bs.length)(hb:CY bs) :
  aG prog [] 150 [cH x,.sl 0 0 bs.length] [(0,.row 166 2 (encLs bs))] 1 fun r m _=>r=kE (cR x bs)/\m=[(0,.row 166 2 (encLs bs))]:=by
 subst hl;have hk:=hx.kids;have hn:=cD hx.num;rcases(show x.kind=0∨x.kind=1∨x.kind=2∨x.kind=3∨x.kind=4 by have:=hx.kind;omega) with h|h|h|h|h
 ·exact IW x bs h
 ·exact GF x bs h hn.2.1 hn.1 hn.2.2.1 hn.2.2.2
 ·exact It x bs h hx.klen hk hb
 ·exact Jn x bs h hx.ok.name hx.klen hk hb
 ·exact Iw x bs h hx.klen hk hb
abbrev tM(ns:List Nd):aN:=[(0,.row 83 12 (aW ns))]
theorem vT{l:List Nd}{k n:Nat}(h:k<l.length)(hn:l.length=n):∃x,l[k]? = some x/\l[k]=x/\(aW l)[0+(k:Int).toNat]? = some (cH x)/\Nat.blt (k:Int).toNat n=true:=
 ⟨l[k],List.getElem?_eq_getElem h,rfl,by simp[mI,List.getElem?_eq_getElem h],Nat.ble_eq_true_of_le (by simp;omega)⟩
theorem Ny(ns:List Nd)(n:Nat)(hn:n<=ns.length)(hl:ns.length<=100000)(hg:∀(i:Nat) (x:Nd),i<n->ns[i]? = some x->gW i x) :
  aG prog [] 111 [.agg [.sl 0 0 ns.length],.int .i64 n] (tM ns) 1 fun r m k=>r = .sl 1 0 n/\m=[(0,.row 83 12 (aW ns)),(1,.row 166 2 (encLs (aL (ns.take n))))]/\k=2:=by
 refine aM bG func111 rfl ?_;refine Rr ?_;refine a9.ph 166 2 ?_;refine a9.at bG (fun i:Nat=>i<=n)
  (fun i=>⟨[(1,.int .i64 n),(2,.ptr 1 0 0),(5,.sl 2 0 i),(6,.int .i64 i)],[(0,.row 83 12 (aW ns)),(1,.row 49 1 [.agg [.sl 0 0 ns.length]]),(2,.row 166 2 (encLs (aL (ns.take i))))],3,23⟩)
  (fun i=>n-i) 0 [(0,0),(1,1),(2,2)] (by simp)
  (aE _ rfl ⟨aJ 0 (aU _),⟨1,_,rfl,rfl,.cons (.agg (.cons (.sl 0 0 0 _ rfl) .nil)) .nil⟩,aJ 2 .nil,trivial⟩ ⟨aF,aK,⟨_,rfl,.nslk 2 2 _ rfl rfl⟩,aF,trivial⟩) ?_
 intro i hi;refine Rr ?_;refine aH (fun h=>?_) (fun h=>?_)
 ·have hin:i<n:=by simp at h;omega
  obtain⟨x,hx1,hx2,ex,bx⟩:=vT (l:=ns) (k:=i) (n:=ns.length) om rfl;have hgx:=hg i x hin hx1;have htl:(aL (ns.take i)).length=i:=by rw[dM];simp;omega
  have hL:=M8 i x (aL (ns.take i)) hgx htl.symm (gU _ fun j y hy=>by
   have hj:=(List.getElem?_eq_some_iff.1 hy).1;rw[List.getElem?_take,if_pos (by simp at hj;omega)] at hy;exact hg j y (by simp at hj;omega) hy)
  have hnx:aL (ns.take (i+1))=aL (ns.take i)++[cR x (aL (ns.take i))]:=by rw[List.take_succ_eq_append_getElem om,hx2,gB]
  have hxn:=a6 x;have hxc:(cH x).cells.length=12:=by obtain⟨kind,name,lo,hi,ws,ls,vals,kids,⟨vk,vn,vs,vks⟩⟩:=x;rfl
  generalize cR x (aL (ns.take i))=nl at hL hnx;obtain⟨bs,hbs⟩:∃bs,bs=aL (ns.take i):=⟨_,rfl⟩
  rw[←hbs] at hL hnx htl ⊢;obtain⟨kind,name,lo,hi,ws,ls,vals,kids,⟨vk,vn,vs,vks⟩⟩:=x;refine Rr ?_;repeat((first|refine aP bx ?_|refine aC ex ?_);refine Rr ?_)
  refine aG.use1 bG hL 2 rfl (encLs_nn bs) (.cons (.same _ hxn) (.cons (.slE rfl htl.symm) .nil)) ?_;rintro r m k ⟨rfl,rfl⟩;refine⟨_,rfl,k7 _,encLs_nn bs, ?_⟩;refine Rr ?_;refine aP (bV rfl rfl (by rw[encLs_length,htl]) (by simp;omega)) ?_;refine Rr ?_;exact .mk (i+1) [(0,0),(1,1),(4,2)] om
   (aE _ rfl ⟨aJ 0 (aU _),⟨1,_,rfl,rfl,.cons (.agg (.cons (.sl 0 0 0 _ rfl) .nil)) .nil⟩,⟨4,_,rfl,rfl,.eq (encLs_nn _) (by rw[hnx];simp[encLs])⟩,trivial⟩ ⟨aF,aK,⟨_,rfl,.slE rfl (by simp)⟩,⟨_,rfl,.w64 om ⟨om,om⟩⟩,trivial⟩) om
 ·have hin:i=n:=by simp at h;omega
  subst hin;refine Rr ?_;exact bN (r':=.sl 1 0 i) (n':=2) (m':=[(0,.row 83 12 (aW ns)),(1,.row 166 2 (encLs (aL (ns.take i))))]) [(0,0),(2,1)] rfl ⟨aJ 0 (aU _),aJ 2 (encLs_nn _),trivial⟩ (.sl 2 1 0 _ rfl) ⟨rfl,rfl,rfl⟩
set_option maxHeartbeats 8000000
theorem Bx{ns:List Nd}{i:Nat}(hi:i<ns.length):(aL (ns.take (i+1)))[i]? = some (cT (aL (ns.take (i+1))) i):=by
 have:i<(aL (ns.take (i+1))).length:=by rw[dM];simp;omega
 unfold cT;rw[List.getD_eq_getElem?_getD,Int.toNat_natCast,List.getElem?_eq_getElem this];rfl
theorem Hf(ns:List Nd)(i:Nat)(hi:i<ns.length)(hl:ns.length<=100000)(hg:∀(j:Nat) (x:Nd),j<i+1->ns[j]? = some x->gW j x) :
  aG prog [] 66 [.agg [.sl 0 0 ns.length],.int .i64 i] (tM ns) 1 fun r m _=>r = .tup [.il 4 (aO (cT (aL (ns.take (i+1))) i).vals),.bool (!(cT (aL (ns.take (i+1))) i).many)]/\m=tM ns:=by
 have hL:=Ny ns (i+1) om hl hg;have hw:IntKind.i64.wrap ((i:Int)+1)=((i+1:Nat):Int):=w64 om ⟨om,om⟩;have hat:=Bx hi;have hlen:(aL (ns.take (i+1))).length=i+1:=by rw[dM];simp;omega
 generalize cT (aL (ns.take (i+1))) i=b at hat ⊢;generalize aL (ns.take (i+1))=bs at hL hat hlen;obtain⟨bv,bm⟩:=b;have e2:(encLs bs)[0+((i:Nat):Int).toNat]? = some (kE ⟨bv,bm⟩):=by rw[Nat.zero_add,Int.toNat_natCast,encLs_get,hat];rfl
 have b2:Nat.blt ((i:Nat):Int).toNat (i+1)=true:=Nat.ble_eq_true_of_le (by simp);refine aM bG func66 rfl ?_;refine Rr ?_;rw[hw];refine aG.useN bG [(0,0)] hL rfl (.cons (.agg' (.cons (.sl 0 0 0 _ rfl) .nil)) (.s .nil)) ⟨aJ 0 (aU _),trivial⟩ rfl ?_;rintro r m k ⟨rfl,rfl,rfl⟩;refine⟨[(0,0),(1,2)],.sl 2 0 (i+1),[(0,.row 83 12 (aW ns)),(2,.row 166 2 (encLs bs))],3,.sl 1 2 0 _ rfl,⟨aJ 0 (aU _),aJ 1 (encLs_nn _),trivial⟩,rfl, ?_⟩;refine Rr ?_;repeat((first|refine aX ?_|refine aP b2 ?_|refine aC e2 ?_);refine Rr ?_)
 exact bN (r':=.tup [.il 4 (aO bv),.bool (!bm)]) (n':=1) (m':=tM ns) [(0,0)] rfl ⟨aJ 0 (aU _),trivial⟩ (.same _ nn) ⟨rfl,rfl⟩
theorem ON(ns:List Nd)(x:Nd)(i:Nat)(hi:i<=ns.length)(hl:ns.length<=100000)(hg:∀(j:Nat) (x:Nd),j<i->ns[j]? = some x->gW j x)(hx:qG x)(hk0:0<x.kids.length)(hk:∀(j:Nat) (k:Int),x.kids[j]? = some k->0<=k/\k<i) :
  aG prog [] 70 [.agg [.sl 0 0 ns.length],cH x] (tM ns) 1 fun r m _=>r = .int .i64 (eF ns x)/\m=tM ns:=by
 obtain⟨q,hq⟩:∃q,x.kids[0]? = some q:=⟨x.kids[0],List.getElem?_eq_getElem hk0⟩
 obtain⟨q1,q2⟩:=hk 0 q hq;obtain⟨qn,rfl⟩:=Int.eq_ofNat_of_zero_le q1;have hgd:x.kids.getD 0 0=qn:=by rw[List.getD_eq_getElem?_getD,hq];rfl
 have hV:=Hf ns qn om hl fun j y hj hy=>hg j y om hy
 have hbl:=o0 (gU (ns.take (qn+1)) fun j y hy=>hg j y (by have:=(fP hy).2;omega) (fP hy).1) qn;have hbe:eF ns x=if (cT (aL (ns.take (qn+1))) qn).many=true then 4 else if dC (cT (aL (ns.take (qn+1))) qn).vals x.values=true then 0 else 1:=by
  unfold eF;simp only[hgd,Int.toNat_natCast]
 rw[hbe];generalize cT (aL (ns.take (qn+1))) qn=b at hV hbl ⊢;obtain⟨bv,bm⟩:=b;simp only at hV hbl ⊢;have hS:=HJ bv x.values om hbl.2;generalize dC bv x.values=sm at hS ⊢;have ek:(aT x.kids)[(0:Int).toNat]? = some (.int .i64 (qn:Int)):=by rw[bF];simp[hq]
 obtain⟨kind,name,lo,hi',ws,ls,vals,kids,⟨vk,vn,vs,vks⟩⟩:=x;simp only at hS ek;refine aM bG func70 rfl ?_;refine Rr ?_;repeat((first|refine aX ?_|refine aC ek ?_);refine Rr ?_)
 refine aG.use1 bG hV 0 rfl (aU _) (.cons (.agg' (.cons (.sl 0 0 0 _ rfl) .nil)) (.s .nil)) ?_;rintro r m k ⟨rfl,rfl⟩;refine⟨_,rfl,nn,aU _, ?_⟩;cases bm with
 | true=>
  refine Rr ?_;repeat((first|refine aX ?_|refine aC ek ?_);refine Rr ?_)
  exact bN (r':=.int .i64 4) (n':=1) (m':=tM ns) [(0,0)] rfl ⟨aJ 0 (aU _),trivial⟩ (.same _ nn) ⟨rfl,rfl⟩
 | false=>
  refine Rr ?_;repeat((first|refine aX ?_|refine aC ek ?_);refine Rr ?_)
  refine hS.go ?_;cases sm with
  | true=>
   refine Rr ?_;exact bN (r':=.int .i64 0) (n':=1) (m':=tM ns) [(0,0)] rfl ⟨aJ 0 (aU _),trivial⟩ (.same _ nn) ⟨rfl,rfl⟩
  | false=>
   refine Rr ?_;exact bN (r':=.int .i64 1) (n':=1) (m':=tM ns) [(0,0)] rfl ⟨aJ 0 (aU _),trivial⟩ (.same _ nn) ⟨rfl,rfl⟩
theorem Nt(ns:List Nd)(hl:ns.length<=100000)(ho:∀x∈ns,qG x/\x.values.length<=4294967290) :
  aG prog [] 44 [.agg [.sl 0 0 ns.length]] (tM ns) 1 fun r m _=>r = .int .i64 (cC ns)/\m=tM ns:=by
 have hfin:∀(e:Int) (mem:aN) (nx:Nat),lk mem 0=some (.row 83 12 (aW ns))->e=cC ns->kQ 1 (fun r m (_:Nat)=>r = .int .i64 (cC ns)/\m=tM ns) (.int .i64 e) mem nx:=by
  intro e mem nx h0 he;exact bN (r':=.int .i64 e) (n':=1) (m':=tM ns) [(0,0)] rfl ⟨⟨0,_,rfl,h0,.same (aU _)⟩,trivial⟩ (.same _ nn) ⟨by rw[he],rfl⟩
 refine aM bG func44 rfl ?_;refine Rr ?_;refine aH (fun h=>?_) (fun h=>?_)
 ·have h1:4096<ns.length:=by simp at h;omega
  refine Rr ?_;exact hfin _ _ _ rfl (by unfold cC;rw[if_pos h1])
 ·have h1:¬4096<ns.length:=by simp at h;omega
  have hvt:cC ns=bT [] ns:=by unfold cC;rw[if_neg h1]
  refine Rr ?_;refine a9.ph 3 1 ?_;refine a9.ph 3 1 ?_;refine a9.at bG (fun i:Nat=>i<=ns.length/\bT [] (ns.take i)=0)
   (fun i=>⟨[(1,.ptr 1 0 0),(3,.sl 2 0 i),(4,.sl 3 0 i),(5,.int .i64 i)],[(0,.row 83 12 (aW ns)),(1,.row 49 1 [.agg [.sl 0 0 ns.length]]),(2,.row 3 1 (aT (aY (ns.take i)))),(3,.row 3 1 (aT (b9 (ns.take i))))],4,57⟩)
   (fun i=>ns.length-i) 0 [(0,0),(1,1),(2,2),(3,3)] ⟨by simp,by simp[bT]⟩
   (aE _ rfl ⟨aJ 0 (aU _),⟨1,_,rfl,rfl,.cons (.agg (.cons (.sl 0 0 0 _ rfl) .nil)) .nil⟩,aJ 2 .nil,aJ 3 .nil,trivial⟩ ⟨aK,⟨_,rfl,.nslk 2 2 _ rfl rfl⟩,⟨_,rfl,.nslk 3 3 _ rfl rfl⟩,aF,trivial⟩) ?_
  rintro i ⟨hi,hv0⟩;refine Rr ?_;refine aH (fun h=>?_) (fun h=>?_)
  ·have hin:i<ns.length:=by simp at h;omega
   obtain⟨x,hx1,hx2,ex,bx⟩:=vT (l:=ns) (k:=i) (n:=ns.length) hin rfl;have hxm:=List.mem_of_getElem? hx1;obtain⟨hxo,hxv⟩:=ho x hxm;have hsplit:ns=ns.take i++x::ns.drop (i+1):=by rw[←hx2,←List.drop_eq_getElem_cons hin,List.take_append_drop]
   have hti:(ns.take i).length=i:=by simp;omega
   have htn:ns.take (i+1)=ns.take i++[x]:=by rw[List.take_succ_eq_append_getElem hin,hx2]
   have hgood:=iR (ns.take i) (fun y hy=>(ho y (List.mem_of_mem_take hy)).1) hv0;obtain⟨hls,hss⟩:=gE (ns.take i) hv0;have hll:(aY (ns.take i)).length=i:=by rw[Go.Ax.d8,hti]
   have hsl:(b9 (ns.take i)).length=i:=by rw[iA,hti]
   have hstop:=fun hs=>rX (l:=ns.take i) (r:=ns.drop (i+1)) (x:=x) hv0 hs
   rw[←hsplit] at hstop;have hgo:=eT [] (ns.take i) x hv0;rw[List.nil_append,←htn] at hgo;have hN:=M2 i x om hxo hxv;have hlt:=fR (ns.take i) x;have hst:=iV (ns.take i) x;rw[←htn] at hlt hst;have hse:fS (ns.take i) (aY (ns.take i)) (b9 (ns.take i)) x=if eO i x≠0 then eO i x else if 256<eC (aY (ns.take i)) x∨1024<iY (b9 (ns.take i)) x then 4 else if x.kind=4 then eF (ns.take i) x else 0:=by
    unfold fS;rw[hti]
   have hbnd:(0<x.kids.length/\∀(j:Nat) (k:Int),x.kids[j]? = some k->0<=k/\k<i)->eF (ns.take i) x=eF ns x:=by
    rintro⟨h0,hk⟩;obtain⟨q,hq⟩:∃q,x.kids[0]? = some q:=⟨x.kids[0],List.getElem?_eq_getElem h0⟩
    obtain⟨q1,q2⟩:=hk 0 q hq;have hgd:x.kids.getD 0 0=q:=by rw[List.getD_eq_getElem?_getD,hq];rfl
    unfold eF;simp only[hgd];rw[List.take_take,Nat.min_eq_left om]
   have hxn:=a6 x;obtain⟨ne,hne⟩:∃ne,ne=eO i x:=⟨_,rfl⟩
   rw[←hne] at hN hse;by_cases n0:ne=0
   ·subst n0;have hok:=jP hne.symm;have h4:4<=x.kind->0<x.kids.length:=fun h=>by have:=hok.bind (by have:=hok.kind;omega);omega
    have hL:=Ez (aY (ns.take i)) x hxo om hls (by rw[hll];exact hok.kids) h4 hok.kind;have hS:=Jf (b9 (ns.take i)) x hxo om hss (by rw[hsl];exact hok.kids) h4 hok.kind;have hB:=ON ns x i om hl (fun j y hj hy=>hgood j y (by rw[List.getElem?_take,if_pos hj];exact hy)) hxo;rw[if_neg (by simp)] at hse;generalize aY (ns.take i)=lsI at hL hll hlt hse hstop hgo hls ⊢;generalize b9 (ns.take i)=ssI at hS hsl hst hse hstop hgo hss ⊢;generalize eC lsI x=ln at hL hlt hse;generalize iY ssI x=sn at hS hst hse;obtain⟨kind,name,lo,hi',ws,ls,vals,kids,⟨vk,vn,vs,vks⟩⟩:=x;simp only at hse h4 hB hbnd hok;refine Rr ?_;repeat((first|refine aP bx ?_|refine aC ex ?_);refine Rr ?_)
    refine hN.go ?_ (.cons (.int _ _) (.cons hxn .nil));refine Rr ?_;refine aG.useApp bG hL 2 rfl (aQ _) (.cons (.slE rfl hll.symm) (.cons (.same _ hxn) .nil)) ?_;rintro len ys ⟨rfl,rfl⟩;refine Rr ?_;refine aG.useApp bG hS 3 rfl (aQ _) (.cons (.slE rfl hsl.symm) (.cons (.same _ hxn) .nil)) ?_;rintro len ys ⟨rfl,rfl⟩;have el:(aT (lsI++[ln]))[0+((i:Nat):Int).toNat]? = some (.int .i64 ln):=by simp[aT,hll]
    have bl:Nat.blt ((i:Nat):Int).toNat (lsI.length+1)=true:=Nat.ble_eq_true_of_le (by simp;omega);have es:(aT (ssI++[sn]))[0+((i:Nat):Int).toNat]? = some (.int .i64 sn):=by simp[aT,hsl]
    have bs':Nat.blt ((i:Nat):Int).toNat (ssI.length+1)=true:=Nat.ble_eq_true_of_le (by simp;omega);refine Rr ?_;repeat((first|refine aP bl ?_|refine aC el ?_);refine Rr ?_)
    refine aH (fun h2=>?_) (fun h2=>?_)
    ·have h3:256<ln:=by simpa using h2
     rw[h2];rw[if_pos (.inl h3)] at hse;have hres:=hstop (by rw[hse];omega);refine Rr ?_;exact hfin _ _ _ rfl (by rw[hvt,hres,hse])
    ·have h3:¬256<ln:=by simpa using h2
     rw[h2];refine Rr ?_;repeat((first|refine aP bs' ?_|refine aC es ?_);refine Rr ?_)
     refine aH (fun h4'=>?_) (fun h4'=>?_)
     ·have h5:1024<sn:=by simpa using h4'
      rw[h4'];rw[if_pos (.inr h5)] at hse;have hres:=hstop (by rw[hse];omega);refine Rr ?_;exact hfin _ _ _ rfl (by rw[hvt,hres,hse])
     ·have h5:¬1024<sn:=by simpa using h4'
      rw[h4'];rw[if_neg om] at hse;by_cases k4:kind=4
      ·rw[if_pos k4] at hse;have h40:=h4 om;have hB:=hB h40 hok.kids;rw[hbnd ⟨h40,hok.kids⟩] at hse;generalize eF ns ⟨kind,name,lo,hi',ws,ls,vals,kids,.mk vk vn vs vks⟩=be at hB hse;subst k4;refine Rr ?_;refine aG.use1 bG hB 0 rfl (aU _) (.cons (.agg' (.cons (.sl 0 0 0 _ rfl) .nil)) (.cons (.same _ hxn) .nil)) ?_;rintro r m k ⟨rfl,rfl⟩;refine⟨_,rfl,nn,aU _, ?_⟩;by_cases be0:be=0
       ·subst be0;rw[hse] at hgo;refine Rr ?_;exact .mk (i+1) [(0,0),(1,1),(5,2),(6,3)] ⟨om,hgo⟩
         (aE _ rfl ⟨aJ 0 (aU _),⟨1,_,rfl,rfl,.cons (.agg (.cons (.sl 0 0 0 _ rfl) .nil)) .nil⟩,⟨5,_,rfl,rfl,.eq (aQ _) (by rw[hlt])⟩,⟨6,_,rfl,rfl,.eq (aQ _) (by rw[hst])⟩,trivial⟩ ⟨aK,⟨_,rfl,.slE rfl (by rw[hll])⟩,⟨_,rfl,.slE rfl (by rw[hsl])⟩,⟨_,rfl,.w64 om ⟨om,om⟩⟩,trivial⟩) om
       ·have d5:(be != 0)=true:=by simpa using be0
        have hres:=hstop (by rw[hse];exact be0);refine Rr ?_;rw[d5];refine Rr ?_;exact hfin _ _ _ rfl (by rw[hvt,hres,hse])
      ·rw[if_neg k4] at hse;have d4:(kind == 4)=false:=by simpa using k4
       rw[hse] at hgo;refine Rr ?_;rw[d4];refine Rr ?_;exact .mk (i+1) [(0,0),(1,1),(5,2),(6,3)] ⟨om,hgo⟩
        (aE _ rfl ⟨aJ 0 (aU _),⟨1,_,rfl,rfl,.cons (.agg (.cons (.sl 0 0 0 _ rfl) .nil)) .nil⟩,⟨5,_,rfl,rfl,.eq (aQ _) (by rw[hlt])⟩,⟨6,_,rfl,rfl,.eq (aQ _) (by rw[hst])⟩,trivial⟩ ⟨aK,⟨_,rfl,.slE rfl (by rw[hll])⟩,⟨_,rfl,.slE rfl (by rw[hsl])⟩,⟨_,rfl,.w64 om ⟨om,om⟩⟩,trivial⟩) om
   ·have d1:(ne != 0)=true:=by simpa using n0
    have hse':=hse;rw[if_pos n0] at hse';have hres:=hstop (by rw[hse'];exact n0);rw[hse'] at hres;obtain⟨kind,name,lo,hi',ws,ls,vals,kids,⟨vk,vn,vs,vks⟩⟩:=x;refine Rr ?_;repeat((first|refine aP bx ?_|refine aC ex ?_);refine Rr ?_)
    refine hN.go ?_ (.cons (.int _ _) (.cons hxn .nil));refine Rr ?_;rw[d1];refine Rr ?_;exact hfin _ _ _ rfl (by rw[hvt,hres])
  ·have hin:i=ns.length:=by simp at h;omega
   subst hin;rw[List.take_length] at hv0;refine Rr ?_;exact hfin _ _ _ rfl (by rw[hvt,hv0])
set_option maxHeartbeats 8000000
def zV:a7:=.mk 0 0 [] []
def Er(v:a7):Nd:=⟨0,[],0,0,[],[],[],[],v⟩
def y8(ns:List Nd)(l:List Int)(i k:Int):Nd:=
 let b:=cT (aL (ns.take ((kidI l i 0).toNat+1))) (kidI l i 0)
 if b.many=true∨6<b.vals.length then Er (Go.Ax.t9 k) else⟨4,[],0,0,[],[],b.vals,kidI l i 0::(List.range b.vals.length).map fun j:Nat=>kidI l i ((j:Int)+1),zV⟩
theorem nK{l:List Int}{i j:Int}(hi:1<=i):0<=kidI l i j/\kidI l i j<i:=by
 unfold kidI;have hp:=jI (l:=l) (i:=3*i+j+2) (most:=1000000) om;split
 ·exact⟨Int.tmod_nonneg _ (Int.tdiv_nonneg hp.1 om),Int.tmod_lt_of_pos _ om⟩
 ·have h0:0<=((jM l (3*i+j+2) 1000000).tdiv 3).tmod 3:=Int.tmod_nonneg _ (Int.tdiv_nonneg hp.1 om);omega
theorem QL(ns:List Nd)(l:List Int)(k:Int)(hl:∀x∈l,i64 x)(h1:1<=ns.length)(h2:ns.length<=1000)(hk0:0<=k)(hk1:k<=1000000)(hg:∀(j:Nat) (x:Nd),ns[j]? = some x->gW j x) :
    aG prog [] 43 [.agg [.sl 0 0 ns.length],.il 1 (aT l),.int .i64 ns.length,.int .i64 k] (tM ns) 1 fun r m _=>r=cH (y8 ns l ns.length k)/\m=tM ns:=by
  have hfin:∀(x:Nd) (r:AV) (mem:aN) (nx:Nat),lk mem 0=some (.row 83 12 (aW ns))->Cv mem [(0,0)] r (cH x)->x=y8 ns l ns.length k->kQ 1 (fun r m (_:Nat)=>r=cH (y8 ns l ns.length k)/\m=tM ns) r mem nx:=by
    intro x r mem nx h0 hr hx;exact bN (r':=cH x) (n':=1) (m':=tM ns) [(0,0)] rfl ⟨⟨0,_,rfl,h0,.same (aU _)⟩,trivial⟩ hr ⟨by rw[hx],rfl⟩
  have hK0:=KN l ns.length 0 hl om om om om;obtain⟨q1,q2⟩:=nK (l:=l) (i:=(ns.length:Int)) (j:=0) om;obtain⟨q,hq⟩:=Int.eq_ofNat_of_zero_le q1;have hb:y8 ns l ns.length k=if (cT (aL (ns.take (q+1))) q).many=true∨6<(cT (aL (ns.take (q+1))) q).vals.length then Er (Go.Ax.t9 k) else⟨4,[],0,0,[],[],(cT (aL (ns.take (q+1))) q).vals,(q:Int)::(List.range (cT (aL (ns.take (q+1))) q).vals.length).map fun j:Nat=>kidI l ns.length ((j:Int)+1),zV⟩:=by
    unfold y8;simp only[hq,Int.toNat_natCast]
  have hV:=Hf ns q om om fun j y _ hy=>hg j y hy
  rw[hq] at hK0;simp only[hb] at hfin ⊢;generalize cT (aL (ns.take (q+1))) q=b at hV hfin ⊢;obtain⟨bv,bm⟩:=b;simp only at hV hfin ⊢;have hLf:=Mq k hk0 hk1;obtain⟨⟨f1,f2,f3,f4⟩,hf⟩:∃f,f=Go.Ax.t9 k:=⟨_,rfl⟩
  rw[←hf] at hLf hfin ⊢;have hleaf:∀(mem:aN) (nx:Nat),lk mem 0=some (.row 83 12 (aW ns))->(bm=true∨6<bv.length)->kQ 1 (fun r m (_:Nat)=>r=cH (if bm=true∨6<bv.length then Er (.mk f1 f2 f3 f4) else⟨4,[],0,0,[],[],bv,(q:Int)::(List.range bv.length).map fun j:Nat=>kidI l ns.length ((j:Int)+1),zV⟩)/\m=tM ns)
      (.agg [.int .i64 0,.str [],.int .i64 0,.int .i64 0,.nsl,.nsl,.nsl,.nsl,.int .i64 f1,.int .i64 f2,.str f3,.il 4 (aO f4)]) mem nx:=by
    intro mem nx h0 hc;refine hfin (Er (.mk f1 f2 f3 f4)) _ mem nx h0 ?_ (by rw[if_pos hc]);exact .agg' (.s (.s (.s (.s (.cons (.nil 1) (.cons (.nil 1) (.cons (.nil 4) (.cons (.nil 1) (.s (.s (.s (.s .nil))))))))))))
  refine aM bG func43 rfl ?_;refine Rr ?_;refine hK0.go ?_;refine Rr ?_;refine aG.use1 bG hV 0 rfl (aU _) (.cons (.agg' (.cons (.sl 0 0 0 _ rfl) .nil)) (.s .nil)) ?_;rintro r m k' ⟨rfl,rfl⟩;refine⟨_,rfl,nn,aU _, ?_⟩;cases bm with
  | true=>
    refine Rr ?_;refine hLf.go ?_;refine Rr ?_;exact hleaf _ _ rfl (.inl rfl)
  | false=>
    refine Rr ?_;refine aH (fun h=>?_) (fun h=>?_)
    · have h6:6<bv.length:=by rw[aA] at h;simp at h;omega
      rw[h];refine Rr ?_;refine hLf.go ?_;refine Rr ?_;exact hleaf _ _ rfl (.inr h6)
    · have h6:¬6<bv.length:=by rw[aA] at h;simp at h;omega
      rw[h];refine Rr ?_;refine a9.at bG (fun j:Nat=>j<=bv.length)
        (fun j=>⟨[(1,.il 1 (aT l)),(2,.int .i64 ns.length),(8,.ptr 2 0 0),(10,.il 4 (aO bv)),(12,.ptr 3 0 0),(13,.int .i64 j)],
          [(0,.row 83 12 (aW ns)),(2,.row 83 12 [.agg [.int .i64 0,.str [],.int .i64 0,.int .i64 0,.nsl,.nsl,.nsl,.nsl,.int .i64 0,.int .i64 0,.str [],.nsl]]),
           (3,.row 83 12 [.agg [.int .i64 4,.str [],.int .i64 0,.int .i64 0,.nsl,.nsl,.il 4 (aO bv),.sl 4 0 (j+1),.int .i64 0,.int .i64 0,.str [],.nsl]]),(4,.row 3 1 (aT ((q:Int)::(List.range j).map fun j:Nat=>kidI l ns.length ((j:Int)+1))))],5,54⟩)
        (fun j=>bv.length-j) 0 [(0,0),(2,2),(4,3),(3,4)] (by simp)
        (aE _ rfl ⟨aJ 0 (aU _),aJ 2 cW,⟨4,_,rfl,rfl,.cons (.agg (.s (.s (.s (.s (.s (.s (.s (.cons (.sl 3 4 0 1 rfl) (.s (.s (.s (.s .nil))))))))))))) .nil⟩,⟨3,_,rfl,rfl,.eq (aQ _) rfl⟩,trivial⟩
          ⟨aF,aF,aK,aF,aK,aF,trivial⟩) ?_
      intro j hj;refine Rr ?_;refine aH (fun h=>?_) (fun h=>?_)
      · have hjl:j<bv.length:=El h
        have hw:IntKind.i64.wrap ((j:Int)+1)=(j:Int)+1:=cK ⟨om,om⟩;have hKj:=KN l ns.length ((j:Int)+1) hl om om om om;refine Rr ?_;rw[hw];refine hKj.go ?_;refine Rt ?_;refine aP (bV rfl rfl (by rw[aD];simp) (by simp;omega)) ?_;refine Rt ?_;exact .mk (j+1) [(0,0),(2,2),(3,3),(16,4)] om
          (aE _ rfl ⟨aJ 0 (aU _),aJ 2 cW,⟨3,_,rfl,rfl,.cons (.agg (.s (.s (.s (.s (.s (.s (.s (.cons (.slE rfl (by simp)) (.s (.s (.s (.s .nil))))))))))))) .nil⟩,⟨16,_,rfl,rfl,.eq (aQ _) (by rw[List.range_succ];simp[aT])⟩,trivial⟩
            ⟨aF,aF,aK,aF,aK,⟨_,rfl,.w64 om ⟨om,om⟩⟩,trivial⟩) om
      · have hje:j=bv.length:=by have:=EM h;omega
        subst hje;refine Rr ?_;refine hfin ⟨4,[],0,0,[],[],bv,(q:Int)::(List.range bv.length).map fun j:Nat=>kidI l ns.length ((j:Int)+1),zV⟩ _ _ _ rfl ?_ (by rw[if_neg (by simp;omega)]);exact .agg' (.s (.s (.s (.s (.cons (.nil 1) (.cons (.nil 1) (.s (.cons (.fz' (id:=4) rfl rfl (by rw[aD];simp) (by rw[List.drop_zero];exact List.take_of_length_le (by rw[aD];simp)) (aQ _)) (.s (.s (.s (.cons (.nil 4) .nil))))))))))))
set_option maxHeartbeats 8000000
theorem oZ{α:Type}{p:α->Prop}{l:List α}{y:α}(h:∀x∈l,p x)(hy:p y):∀x∈l++[y],p x:=fun x hx=>by
 rcases List.mem_append.1 hx with hx|hx
 ·exact h x hx
 ·simp at hx;rw[hx];exact hy
theorem Iz{ns:List Nd}(hT:gZ ns)(h1:1<=ns.length)(h2:ns.length<=1000){l:List Int}{k:Int}(hk:0<=k):Ik (y8 ns l ns.length k):=by
 have z0:i64 0:=⟨om,om⟩
 unfold y8;simp only;split
 ·have:=EC k hk;exact mD z0 (by simp) z0 z0 (by simp) (by simp) (by simp) (by simp) (by simp) (by simp) (by simp) (by simp) this.1 om
 ·rename_i hc;rw[not_or] at hc;have hb:=fun j=>nK (l:=l) (i:=(ns.length:Int)) (j:=j) om
  obtain⟨q0,q1⟩:=hb 0;have hv:bT [] (ns.take ((kidI l ns.length 0).toNat+1))=0:=g5 (r:=ns.drop ((kidI l ns.length 0).toNat+1)) (by rw[List.take_append_drop];exact hT.valid);have ho:∀x∈ns.take ((kidI l ns.length 0).toNat+1),qG x:=fun x hx=>hT.ok x (List.mem_of_mem_take hx)
  have hs:=Fe _ ho hv (kidI l ns.length 0) q0 (by simp;omega);have hg:=o0 (gU _ (iR _ ho hv)) (kidI l ns.length 0);refine mD ⟨om,om⟩ (by simp) z0 z0 (by simp) (by simp) (by simp) (by simp) om (fun v hv=>⟨hg.2 v hv,by have:=hs v hv;omega⟩) (by simp;omega) (fun w hw=>?_) (gH z0 z0) (by simp[zV,bC,cE]);rcases List.mem_cons.1 hw with rfl|hw
  ·exact⟨om,om⟩
  ·obtain⟨j,_,rfl⟩:=List.mem_map.1 hw;have:=hb ((j:Int)+1);exact⟨om,om⟩
theorem dI.joinAt{P:Program}{Γ:List (Nat × AV)}{B:Nat}{α:Type}{rest:Code}{Q:Exit->St->Prop}{G:Prop}(hΓ:∀p∈Γ,NN p.2)(R:α->Prop)(J:α->St)
  (h1:(∀(a:α) (s:St) (σ:List (Nat × Nat)),R a->Conv B σ s (J a)->dI P Γ B rest s Q)->G) (h2:∀a,R a->dI P Γ B rest (J a) Q):G:=h1 fun a s σ hr hc=>dI.conv hΓ hc (h2 a hr)
theorem Pr(l:List Int)(hl:∀x∈l,i64 x) :
  aG prog [] 17 [.il 1 (aT l)] [] 0 fun r m n=>∃ns:List Nd,gZ ns/\ns.length<=14/\r = .agg [.sl 0 0 ns.length]/\m=tM ns/\n=1:=by
 have z0:i64 0:=⟨om,om⟩
 have hP0:=Fk l 0 15 hl om;obtain⟨n0,n1⟩:=jI (l:=l) (i:=0) (most:=15) om;generalize jM l 0 15=nn0 at hP0 n0 n1;obtain⟨n,rfl⟩:=Int.eq_ofNat_of_zero_le n0;refine aM bG func17 rfl ?_;refine Rr ?_;refine hP0.go ?_;refine Rr ?_;refine a9.ph 83 12 ?_;refine a9.at bG (fun ns:List Nd=>gZ ns/\ns.length<=n) (fun ns=>⟨[(0,.il 1 (aT l)),(2,.ptr 0 0 0),(3,.ptr 1 0 0),(4,.int .i64 n),(5,.int .i64 ns.length)],[(0,.row 49 1 [.agg [.nsl]]),(1,.row 49 1 [.agg [.sl 2 0 ns.length]]),(2,.row 83 12 (aW ns))],3,181⟩) (fun ns=>n-ns.length) [] [(0,0),(1,1),(2,2)] ⟨⟨by simp[bT],by simp⟩,by simp⟩
  (aE _ rfl ⟨aJ 0 cW,⟨1,_,rfl,rfl,.cons (.agg (.cons (.nslk 2 2 _ rfl rfl) .nil)) .nil⟩,aJ 2 .nil,trivial⟩ ⟨aF,aK,aK,aF,aF,trivial⟩) ?_
 rintro ns ⟨hT,hns⟩;refine Rr ?_;refine aH (fun h=>?_) (fun h=>?_)
 ·have hlt:ns.length<n:=by simpa using h
  have hw1:IntKind.i64.wrap (1+(ns.length:Int))=1+(ns.length:Int):=cK ⟨om,om⟩;have hPk:=Fk l (1+(ns.length:Int)) 1000000 hl om;obtain⟨kk0,kk1⟩:=jI (l:=l) (i:=1+(ns.length:Int)) (most:=1000000) om;generalize jM l (1+(ns.length:Int)) 1000000=kk at hPk kk0 kk1;have m8:=iM kk0 (show (0:Int)<8 by omega);have q8:=zQ kk0 (show (0:Int)<8 by omega);have q80:0<=kk.tdiv 8:=Int.tdiv_nonneg kk0 om;have hw8:IntKind.i64.wrap (kk.tdiv 8)=kk.tdiv 8:=cK ⟨om,om⟩;have m82:=iM q80 (show (0:Int)<2 by omega);refine Rr ?_;rw[hw1];refine hPk.go ?_
  refine' dI.joinAt (P:=prog) (B:=0) bG (fun kd:Int=>0<=kd/\kd<=4/\(2<=kd->2<=ns.length)) (fun kd=>⟨[(0,.il 1 (aT l)),(2,.ptr 0 0 0),(3,.ptr 1 0 0),(4,.int .i64 n),(5,.int .i64 ns.length),(6,.int .i64 kk),(7,.ptr 3 0 0)],[(0,.row 49 1 [.agg [.nsl]]),(1,.row 49 1 [.agg [.sl 2 0 ns.length]]),(2,.row 83 12 (aW ns)),(3,.row 83 12 [.agg [.int .i64 kd,.str [],.int .i64 0,.int .i64 0,.nsl,.nsl,.nsl,.nsl,.int .i64 0,.int .i64 0,.str [],.nsl]])],4,181⟩) (fun hJ=>?_) (fun kd hkd=>?_)
  rotate_left 2
  ·by_cases hi2:ns.length<2
   ·have d2:decide ((ns.length:Int)<2)=true:=by simp;omega
    refine Rr ?_;rw[d2];refine Rr ?_;rw[hw8];obtain⟨kd,hkd⟩:∃kd,kd=(kk.tdiv 8).tmod 2:=⟨_,rfl⟩
    rw[←hkd] at m82 ⊢;have d5:decide (kd>5)=false:=by simp;omega
    refine Rr ?_;rw[d5]
    conv=>whnf
    refine dI.many ?_
    conv=>whnf
    exact hJ kd _ [(0,0),(1,1),(2,2),(3,3)] ⟨om,om,om⟩ (aE _ rfl ⟨aJ 0 cW,⟨1,_,rfl,rfl,.cons (.agg (.cons (.sl 2 2 0 _ rfl) .nil)) .nil⟩,aJ 2 (aU _),aJ 3 cW,trivial⟩ ⟨aF,aK,aK,aF,aF,aF,aK,trivial⟩)
   ·have d2:decide ((ns.length:Int)<2)=false:=by simp;omega
    refine Rr ?_;rw[d2];refine Rr ?_;have hkd5:(kk.tmod 8 == 5)=false∨(kk.tmod 8 == 5)=true:=by cases (kk.tmod 8 == 5)<;>simp
    rcases hkd5 with e5|e5
    ·have n5:kk.tmod 8≠5:=by simpa using e5
     obtain⟨k8,hk8⟩:∃k8,k8=kk.tmod 8:=⟨_,rfl⟩
     rw[←hk8] at e5 n5 m8 ⊢;rcases(show k8<5∨5<k8 by omega) with k5|k5
     ·have d5:decide (k8>5)=false:=by simp;omega
      rw[e5];refine Rr ?_;rw[d5]
      conv=>whnf
      refine dI.many ?_
      conv=>whnf
      exact hJ k8 _ [(0,0),(1,1),(2,2),(3,3)] ⟨om,om,om⟩ (aE _ rfl ⟨aJ 0 cW,⟨1,_,rfl,rfl,.cons (.agg (.cons (.sl 2 2 0 _ rfl) .nil)) .nil⟩,aJ 2 (aU _),aJ 3 cW,trivial⟩ ⟨aF,aK,aK,aF,aF,aF,aK,trivial⟩)
     ·have d5:decide (k8>5)=true:=by simp;omega
      have hw4:IntKind.i64.wrap (k8-4)=k8-4:=cK ⟨om,om⟩;rw[e5];refine Rr ?_;rw[d5]
      conv=>whnf
      refine dI.many ?_
      conv=>whnf
      refine kH.many ?_
      conv=>whnf
      rw[hw4];exact hJ (k8-4) _ [(0,0),(1,1),(2,2),(3,3)] ⟨om,om,om⟩ (aE _ rfl ⟨aJ 0 cW,⟨1,_,rfl,rfl,.cons (.agg (.cons (.sl 2 2 0 _ rfl) .nil)) .nil⟩,aJ 2 (aU _),aJ 3 cW,trivial⟩ ⟨aF,aK,aK,aF,aF,aF,aK,trivial⟩)
    ·rw[e5];refine Rr ?_;rw[hw8];obtain⟨kd,hkd⟩:∃kd,kd=(kk.tdiv 8).tmod 2:=⟨_,rfl⟩
     rw[←hkd] at m82 ⊢;have d5:decide (kd>5)=false:=by simp;omega
     refine Rr ?_;rw[d5]
     conv=>whnf
     refine dI.many ?_
     conv=>whnf
     exact hJ kd _ [(0,0),(1,1),(2,2),(3,3)] ⟨om,om,om⟩ (aE _ rfl ⟨aJ 0 cW,⟨1,_,rfl,rfl,.cons (.agg (.cons (.sl 2 2 0 _ rfl) .nil)) .nil⟩,aJ 2 (aU _),aJ 3 cW,trivial⟩ ⟨aF,aK,aK,aF,aF,aF,aK,trivial⟩)
  ·obtain⟨kd0,kd4,kd2⟩:=hkd;refine Rr ?_;refine Kc bG (fun x:Nd=>Ik x) (fun x=>⟨[(0,.il 1 (aT l)),(2,.ptr 0 0 0),(3,.ptr 1 0 0),(4,.int .i64 n),(5,.int .i64 ns.length),(6,.int .i64 kk),(7,.ptr 3 0 0)],[(0,.row 49 1 [.agg [.nsl]]),(1,.row 49 1 [.agg [.sl 2 0 ns.length]]),(2,.row 83 12 (aW ns)),(3,.row 83 12 [cH x])],4,181⟩) (fun Qr hQ=>?_) (fun x hx=>?_)
   ·rcases(show kd=0∨kd=1∨kd=2∨kd=3∨kd=4 by omega) with rfl|rfl|rfl|rfl|rfl
    ·have hLf:=Mq (kk.tdiv 8) (Int.tdiv_nonneg kk0 om) (by have:=zQ kk0 (show (0:Int)<8 by omega);omega);have hlo:=EC (kk.tdiv 8) (Int.tdiv_nonneg kk0 om);generalize Go.Ax.t9 (kk.tdiv 8)=f at hLf hlo;obtain⟨f1,f2,f3,f4⟩:=f;refine Rr ?_;rw[hw8];refine hLf.go ?_;refine Rr ?_;exact hQ (Er (.mk f1 f2 f3 f4)) _ [(0,0),(1,1),(2,2),(3,3)] (mD z0 (by simp) z0 z0 (by simp) (by simp) (by simp) (by simp) (by simp) (by simp) (by simp) (by simp) hlo.1 om) (aE _ rfl ⟨aJ 0 cW,⟨1,_,rfl,rfl,.cons (.agg (.cons (.sl 2 2 0 _ rfl) .nil)) .nil⟩,aJ 2 (aU _),⟨3,_,rfl,rfl,.cons (.agg (.s (.s (.s (.s (.cons (.nil 1) (.cons (.nil 1) (.cons (.nil 4) (.cons (.nil 1) (.s (.s (.s (.s .nil))))))))))))) .nil⟩,trivial⟩ ⟨aF,aK,aK,aF,aF,aF,aK,trivial⟩)
    ·refine Rr ?_;refine aH (fun h=>?_) (fun h=>?_)
     ·refine Rr ?_;exact hQ ⟨1,[],_,_,[],[],[],[],zV⟩ _ [(0,0),(1,1),(2,2),(3,3)] (mD ⟨om,om⟩ (by simp) (JA _) (JA _) (by simp) (by simp) (by simp) (by simp) (by simp) (by simp) (by simp) (by simp) (gH z0 z0) (by simp[zV,bC,cE])) (aE _ rfl ⟨aJ 0 cW,⟨1,_,rfl,rfl,.cons (.agg (.cons (.sl 2 2 0 _ rfl) .nil)) .nil⟩,aJ 2 (aU _),⟨3,_,rfl,rfl,.cons (.agg (.s (.s (.s (.s (.cons (.nil 1) (.cons (.nil 1) (.cons (.nil 4) (.cons (.nil 1) (.s (.s (.s (.cons (.nil 4) .nil))))))))))))) .nil⟩,trivial⟩ ⟨aF,aK,aK,aF,aF,aF,aK,trivial⟩)
     ·refine Rr ?_;exact hQ ⟨1,[],_,_,[],[],[],[],zV⟩ _ [(0,0),(1,1),(2,2),(3,3)] (mD ⟨om,om⟩ (by simp) (JA _) (JA _) (by simp) (by simp) (by simp) (by simp) (by simp) (by simp) (by simp) (by simp) (gH z0 z0) (by simp[zV,bC,cE])) (aE _ rfl ⟨aJ 0 cW,⟨1,_,rfl,rfl,.cons (.agg (.cons (.sl 2 2 0 _ rfl) .nil)) .nil⟩,aJ 2 (aU _),⟨3,_,rfl,rfl,.cons (.agg (.s (.s (.s (.s (.cons (.nil 1) (.cons (.nil 1) (.cons (.nil 4) (.cons (.nil 1) (.s (.s (.s (.cons (.nil 4) .nil))))))))))))) .nil⟩,trivial⟩ ⟨aF,aK,aK,aF,aF,aF,aK,trivial⟩)
    ·refine Rr ?_;rcases(show decide ((IntKind.i64.wrap (kk.tdiv 32)).tmod 3>0)=true∨decide ((IntKind.i64.wrap (kk.tdiv 32)).tmod 3>0)=false by cases decide ((IntKind.i64.wrap (kk.tdiv 32)).tmod 3>0)<;>simp) with hB|hB
     ·have hB:decide ((IntKind.i64.wrap (kk.tdiv 32)).tmod 3>0)=true:=hB;refine a9.ph 3 1 ?_;refine a9.ph 3 1 ?_;refine a9.ph 9 1 ?_;refine a9.at bG (fun a:List Int × List (List UInt8) × List Int=>a.1.length<=4/\a.2.2.length=a.1.length/\(∀w∈a.1,i64 w)/\(∀w∈a.2.2,i64 w)/\(∀s∈a.2.1,s∈vE)/\a.2.1.length=a.1.length)
       (fun a=>⟨[(0,.il 1 (aT l)),(2,.ptr 0 0 0),(3,.ptr 1 0 0),(4,.int .i64 n),(5,.int .i64 ns.length),(6,.int .i64 kk),(7,.ptr 3 0 0),(8,.int .i64 a.1.length)],[(0,.row 49 1 [.agg [.nsl]]),(1,.row 49 1 [.agg [.sl 2 0 ns.length]]),(2,.row 83 12 (aW ns)),(3,.row 83 12 [.agg [.int .i64 2,.str [],.int .i64 0,.int .i64 0,.sl 4 0 a.1.length,.sl 6 0 a.1.length,.nsl,.sl 5 0 a.1.length,.int .i64 0,.int .i64 0,.str [],.nsl]]),(4,.row 3 1 (aT a.1)),(5,.row 3 1 (aT a.2.2)),(6,.row 9 1 (DD a.2.1))],7,181⟩)
       (fun a=>4-a.1.length) ([],[],[]) [(0,0),(1,1),(2,2),(3,3),(4,4),(5,5),(6,6)] (by simp)
       (aE _ rfl ⟨aJ 0 cW,⟨1,_,rfl,rfl,.cons (.agg (.cons (.sl 2 2 0 _ rfl) .nil)) .nil⟩,aJ 2 (aU _),⟨3,_,rfl,rfl,.cons (.agg (.s (.s (.s (.s (.cons (.nslk 4 4 _ rfl rfl) (.cons (.nslk 6 6 _ rfl rfl) (.s (.cons (.nslk 5 5 _ rfl rfl) (.s (.s (.s (.s .nil))))))))))))) .nil⟩,aJ 4 .nil,aJ 5 .nil,aJ 6 .nil,trivial⟩ ⟨aF,aK,aK,aF,aF,aF,aK,aF,trivial⟩) ?_
      rintro⟨wl,ll,kl⟩ ⟨j1,j2,j3,j4,j5,j6⟩;simp only at j1 j2 j3 j4 j5 j6;refine Rr ?_;refine aH (fun h=>?_) (fun h=>?_)
      ·have hjc:wl.length<4:=by rw[hw8] at h;have:=iM q80 (show (0:Int)<4 by omega);simp at h;omega
       have hwj:IntKind.i64.wrap ((ns.length:Int)+(wl.length:Int))=(ns.length:Int)+wl.length:=cK ⟨om,om⟩;have hPj:=Fk l ((ns.length:Int)+wl.length) 5 hl om;have hPb:=jI (l:=l) (i:=(ns.length:Int)+wl.length) (most:=5) om;generalize jM l ((ns.length:Int)+wl.length) 5=pw at hPj hPb;have hKj:=KN l ns.length wl.length hl om om om om;have hKb:=nK (l:=l) (i:=(ns.length:Int)) (j:=(wl.length:Int)) om;generalize kidI l ns.length wl.length=kw at hKj hKb;refine Rr ?_;rw[hwj];refine hPj.go ?_;refine Rt ?_;refine aP (bV rfl rfl (by rw[aD]) (by simp;omega)) ?_;refine Rt ?_;refine hKj.go ?_;refine Rt ?_;refine aP (bV rfl rfl (by rw[aD,j2]) (by simp;omega)) ?_;refine Rt ?_;rw[hB];refine Rr ?_;obtain⟨qn,hqn,hqe⟩:∃qn:Nat,qn<4/\(IntKind.i64.wrap ((wl.length:Int)+IntKind.i64.wrap (kk.tdiv 96))).tmod 4=(qn:Int):=by
        have a0:=zQ kk0 (show (0:Int)<96 by omega);have a1:0<=kk.tdiv 96:=Int.tdiv_nonneg kk0 om;have e1:IntKind.i64.wrap (kk.tdiv 96)=kk.tdiv 96:=cK ⟨om,om⟩;have e2:IntKind.i64.wrap ((wl.length:Int)+kk.tdiv 96)=(wl.length:Int)+kk.tdiv 96:=cK ⟨om,om⟩;rw[e1,e2];have:=iM (show 0<=(wl.length:Int)+kk.tdiv 96 by omega) (show (0:Int)<4 by omega);exact⟨(((wl.length:Int)+kk.tdiv 96).tmod 4).toNat,om,om⟩
       obtain⟨sa,hsa,hsm⟩:∃sa,([AV.str [97],AV.str [98],AV.str [99],AV.str [100]])[0+((qn:Nat):Int).toNat]? = some (.str sa)/\sa∈vE:=by
        rcases(show qn=0∨qn=1∨qn=2∨qn=3 by omega) with rfl|rfl|rfl|rfl
        ·exact⟨[97],rfl,by simp[vE]⟩
        ·exact⟨[98],rfl,by simp[vE]⟩
        ·exact⟨[99],rfl,by simp[vE]⟩
        ·exact⟨[100],rfl,by simp[vE]⟩
       have bsa:Nat.blt ((qn:Nat):Int).toNat 4=true:=Nat.ble_eq_true_of_le (by simp;omega);rw[hqe];refine Rr ?_;repeat((first|refine aX ?_|refine aP bsa ?_|refine aC hsa ?_);refine Rr ?_)
       refine aP (bV rfl rfl (by rw[bZ,j6]) (by simp;omega)) ?_;refine Rr ?_;repeat((first|refine aX ?_|refine aP bsa ?_|refine aC hsa ?_);refine Rr ?_)
       exact .mk (wl++[IntKind.i64.wrap (1+pw)],ll++[sa],kl++[kw]) [(0,0),(1,1),(2,2),(3,3),(19,4),(30,5),(45,6)] ⟨by simp;omega,by simp;omega,oZ j3 (JA _),oZ j4 ⟨om,om⟩,oZ j5 hsm,by simp;omega⟩
        (aE _ rfl ⟨aJ 0 cW,⟨1,_,rfl,rfl,.cons (.agg (.cons (.sl 2 2 0 _ rfl) .nil)) .nil⟩,aJ 2 (aU _),⟨3,_,rfl,rfl,.cons (.agg (.s (.s (.s (.s (.cons (.slE rfl (by simp)) (.cons (.slE rfl (by simp)) (.s (.cons (.slE rfl (by simp)) (.s (.s (.s (.s .nil))))))))))))) .nil⟩,⟨19,_,rfl,rfl,.eq (aQ _) (by simp[aT])⟩,⟨30,_,rfl,rfl,.eq (aQ _) (by simp[aT])⟩,⟨45,_,rfl,rfl,.eq (C9 _) (by simp[DD])⟩,trivial⟩ ⟨aF,aK,aK,aF,aF,aF,aK,⟨_,rfl,.w64 (by simp) ⟨by simp;omega,by simp;omega⟩⟩,trivial⟩) (by simp;omega)
      ·refine Rr ?_;exact hQ ⟨2,[],0,0,wl,ll,[],kl,zV⟩ _ [(0,0),(1,1),(2,2),(3,3)] (mD ⟨om,om⟩ (by simp) z0 z0 om j3 om j5 (by simp) (by simp) om j4 (gH z0 z0) (by simp[zV,bC,cE])) (aE _ rfl ⟨aJ 0 cW,⟨1,_,rfl,rfl,.cons (.agg (.cons (.sl 2 2 0 _ rfl) .nil)) .nil⟩,aJ 2 (aU _),⟨3,_,rfl,rfl,.cons (.agg (.s (.s (.s (.s (.cons (.fz' (id:=4) rfl rfl (by rw[aD];first|omega|(simp only;omega)) (by rw[List.drop_zero];exact List.take_of_length_le (by rw[aD];first|omega|(simp only;omega))) (aQ _)) (.cons (.fz' (id:=6) rfl rfl (by rw[bZ];first|omega|(simp only;omega)) (by rw[List.drop_zero];exact List.take_of_length_le (by rw[bZ];first|omega|(simp only;omega))) (C9 _)) (.cons (.nil 4) (.cons (.fz' (id:=5) rfl rfl (by rw[aD];first|omega|(simp only;omega)) (by rw[List.drop_zero];exact List.take_of_length_le (by rw[aD];first|omega|(simp only;omega))) (aQ _)) (.s (.s (.s (.cons (.nil 4) .nil))))))))))))) .nil⟩,trivial⟩ ⟨aF,aK,aK,aF,aF,aF,aK,trivial⟩)
     ·have hB:decide ((IntKind.i64.wrap (kk.tdiv 32)).tmod 3>0)=false:=hB;refine a9.ph 3 1 ?_;refine a9.ph 3 1 ?_;refine a9.at bG (fun a:List Int × List (List UInt8) × List Int=>a.1.length<=4/\a.2.2.length=a.1.length/\(∀w∈a.1,i64 w)/\(∀w∈a.2.2,i64 w)/\(∀s∈a.2.1,s∈vE)/\a.2.1.length=0)
       (fun a=>⟨[(0,.il 1 (aT l)),(2,.ptr 0 0 0),(3,.ptr 1 0 0),(4,.int .i64 n),(5,.int .i64 ns.length),(6,.int .i64 kk),(7,.ptr 3 0 0),(8,.int .i64 a.1.length)],[(0,.row 49 1 [.agg [.nsl]]),(1,.row 49 1 [.agg [.sl 2 0 ns.length]]),(2,.row 83 12 (aW ns)),(3,.row 83 12 [.agg [.int .i64 2,.str [],.int .i64 0,.int .i64 0,.sl 4 0 a.1.length,.nsl,.nsl,.sl 5 0 a.1.length,.int .i64 0,.int .i64 0,.str [],.nsl]]),(4,.row 3 1 (aT a.1)),(5,.row 3 1 (aT a.2.2))],6,181⟩)
       (fun a=>4-a.1.length) ([],[],[]) [(0,0),(1,1),(2,2),(3,3),(4,4),(5,5)] (by simp)
       (aE _ rfl ⟨aJ 0 cW,⟨1,_,rfl,rfl,.cons (.agg (.cons (.sl 2 2 0 _ rfl) .nil)) .nil⟩,aJ 2 (aU _),⟨3,_,rfl,rfl,.cons (.agg (.s (.s (.s (.s (.cons (.nslk 4 4 _ rfl rfl) (.s (.s (.cons (.nslk 5 5 _ rfl rfl) (.s (.s (.s (.s .nil))))))))))))) .nil⟩,aJ 4 .nil,aJ 5 .nil,trivial⟩ ⟨aF,aK,aK,aF,aF,aF,aK,aF,trivial⟩) ?_
      rintro⟨wl,ll,kl⟩ ⟨j1,j2,j3,j4,j5,j6⟩;simp only at j1 j2 j3 j4 j5 j6;refine Rr ?_;refine aH (fun h=>?_) (fun h=>?_)
      ·have hjc:wl.length<4:=by rw[hw8] at h;have:=iM q80 (show (0:Int)<4 by omega);simp at h;omega
       have hwj:IntKind.i64.wrap ((ns.length:Int)+(wl.length:Int))=(ns.length:Int)+wl.length:=cK ⟨om,om⟩;have hPj:=Fk l ((ns.length:Int)+wl.length) 5 hl om;have hPb:=jI (l:=l) (i:=(ns.length:Int)+wl.length) (most:=5) om;generalize jM l ((ns.length:Int)+wl.length) 5=pw at hPj hPb;have hKj:=KN l ns.length wl.length hl om om om om;have hKb:=nK (l:=l) (i:=(ns.length:Int)) (j:=(wl.length:Int)) om;generalize kidI l ns.length wl.length=kw at hKj hKb;refine Rr ?_;rw[hwj];refine hPj.go ?_;refine Rt ?_;refine aP (bV rfl rfl (by rw[aD]) (by simp;omega)) ?_;refine Rt ?_;refine hKj.go ?_;refine Rt ?_;refine aP (bV rfl rfl (by rw[aD,j2]) (by simp;omega)) ?_;refine Rt ?_;rw[hB];refine Rr ?_;exact .mk (wl++[IntKind.i64.wrap (1+pw)],ll,kl++[kw]) [(0,0),(1,1),(2,2),(3,3),(18,4),(29,5)] ⟨by simp;omega,by simp;omega,oZ j3 (JA _),oZ j4 ⟨om,om⟩,j5,j6⟩
        (aE _ rfl ⟨aJ 0 cW,⟨1,_,rfl,rfl,.cons (.agg (.cons (.sl 2 2 0 _ rfl) .nil)) .nil⟩,aJ 2 (aU _),⟨3,_,rfl,rfl,.cons (.agg (.s (.s (.s (.s (.cons (.slE rfl (by simp)) (.s (.s (.cons (.slE rfl (by simp)) (.s (.s (.s (.s .nil))))))))))))) .nil⟩,⟨18,_,rfl,rfl,.eq (aQ _) (by simp[aT])⟩,⟨29,_,rfl,rfl,.eq (aQ _) (by simp[aT])⟩,trivial⟩ ⟨aF,aK,aK,aF,aF,aF,aK,⟨_,rfl,.w64 (by simp) ⟨by simp;omega,by simp;omega⟩⟩,trivial⟩) (by simp;omega)
      ·refine Rr ?_;obtain rfl:ll=[]:=List.length_eq_zero_iff.1 j6;exact hQ ⟨2,[],0,0,wl,[],[],kl,zV⟩ _ [(0,0),(1,1),(2,2),(3,3)] (mD ⟨om,om⟩ (by simp) z0 z0 om j3 (by simp) (by simp) (by simp) (by simp) om j4 (gH z0 z0) (by simp[zV,bC,cE])) (aE _ rfl ⟨aJ 0 cW,⟨1,_,rfl,rfl,.cons (.agg (.cons (.sl 2 2 0 _ rfl) .nil)) .nil⟩,aJ 2 (aU _),⟨3,_,rfl,rfl,.cons (.agg (.s (.s (.s (.s (.cons (.fz' (id:=4) rfl rfl (by rw[aD];first|omega|(simp only;omega)) (by rw[List.drop_zero];exact List.take_of_length_le (by rw[aD];first|omega|(simp only;omega))) (aQ _)) (.cons (.nil 1) (.cons (.nil 4) (.cons (.fz' (id:=5) rfl rfl (by rw[aD];first|omega|(simp only;omega)) (by rw[List.drop_zero];exact List.take_of_length_le (by rw[aD];first|omega|(simp only;omega))) (aQ _)) (.s (.s (.s (.cons (.nil 4) .nil))))))))))))) .nil⟩,trivial⟩ ⟨aF,aK,aK,aF,aF,aF,aK,trivial⟩)
    ·obtain⟨qn,hqn,hqe⟩:∃qn:Nat,qn<3/\(IntKind.i64.wrap (kk.tdiv 8)).tmod 3=(qn:Int):=by
      rw[hw8];have:=iM q80 (show (0:Int)<3 by omega);exact⟨((kk.tdiv 8).tmod 3).toNat,om,om⟩
     obtain⟨nm,hnm,hnl⟩:∃nm,([AV.str [],AV.str [80,97,105,114],AV.str []])[0+((qn:Nat):Int).toNat]? = some (.str nm)/\nm.length<=4:=by
      rcases(show qn=0∨qn=1∨qn=2 by omega) with rfl|rfl|rfl
      ·exact⟨[],rfl,by simp⟩
      ·exact⟨[80,97,105,114],rfl,by simp⟩
      ·exact⟨[],rfl,by simp⟩
     have bnm:Nat.blt ((qn:Nat):Int).toNat 3=true:=Nat.ble_eq_true_of_le (by simp;omega);refine Rr ?_;rw[hqe];refine Rr ?_;repeat((first|refine aX ?_|refine aP bnm ?_|refine aC hnm ?_);refine Rr ?_)
     refine a9.ph 3 1 ?_;refine a9.at bG (fun a:List Int=>a.length<=3/\∀w∈a,i64 w)
      (fun a=>⟨[(0,.il 1 (aT l)),(2,.ptr 0 0 0),(3,.ptr 1 0 0),(4,.int .i64 n),(5,.int .i64 ns.length),(6,.int .i64 kk),(7,.ptr 3 0 0),(9,.int .i64 a.length)],[(0,.row 49 1 [.agg [.nsl]]),(1,.row 49 1 [.agg [.sl 2 0 ns.length]]),(2,.row 83 12 (aW ns)),(3,.row 83 12 [.agg [.int .i64 3,.str nm,.int .i64 0,.int .i64 0,.nsl,.nsl,.nsl,.sl 4 0 a.length,.int .i64 0,.int .i64 0,.str [],.nsl]]),(4,.row 3 1 (aT a))],5,181⟩)
      (fun a=>4-a.length) [] [(0,0),(1,1),(2,2),(3,3),(5,4)] (by simp)
      (aE _ rfl ⟨aJ 0 cW,⟨1,_,rfl,rfl,.cons (.agg (.cons (.sl 2 2 0 _ rfl) .nil)) .nil⟩,aJ 2 (aU _),⟨3,_,rfl,rfl,.cons (.agg (.s (.s (.s (.s (.s (.s (.s (.cons (.nslk 5 4 _ rfl rfl) (.s (.s (.s (.s .nil))))))))))))) .nil⟩,aJ 5 .nil,trivial⟩ ⟨aF,aK,aK,aF,aF,aF,aK,aF,trivial⟩) ?_
     rintro kl ⟨j1,j4⟩;refine Rr ?_;refine aH (fun h=>?_) (fun h=>?_)
     ·have hjc:kl.length<3:=by
       have a0:=zQ kk0 (show (0:Int)<24 by omega);have a1:0<=kk.tdiv 24:=Int.tdiv_nonneg kk0 om;have e1:IntKind.i64.wrap (kk.tdiv 24)=kk.tdiv 24:=cK ⟨om,om⟩;rw[e1] at h;have:=iM a1 (show (0:Int)<4 by omega);simp at h;omega
      have hKj:=KN l ns.length kl.length hl om om om om;have hKb:=nK (l:=l) (i:=(ns.length:Int)) (j:=(kl.length:Int)) om;generalize kidI l ns.length kl.length=kw at hKj hKb;refine Rr ?_;refine hKj.go ?_;refine Rt ?_;refine aP (bV rfl rfl (by rw[aD]) (by simp;omega)) ?_;refine Rt ?_;exact .mk (kl++[kw]) [(0,0),(1,1),(2,2),(3,3),(15,4)] ⟨by simp;omega,oZ j4 ⟨om,om⟩⟩
       (aE _ rfl ⟨aJ 0 cW,⟨1,_,rfl,rfl,.cons (.agg (.cons (.sl 2 2 0 _ rfl) .nil)) .nil⟩,aJ 2 (aU _),⟨3,_,rfl,rfl,.cons (.agg (.s (.s (.s (.s (.s (.s (.s (.cons (.slE rfl (by simp)) (.s (.s (.s (.s .nil))))))))))))) .nil⟩,⟨15,_,rfl,rfl,.eq (aQ _) (by simp[aT])⟩,trivial⟩ ⟨aF,aK,aK,aF,aF,aF,aK,⟨_,rfl,.w64 (by simp) ⟨by simp;omega,by simp;omega⟩⟩,trivial⟩) (by simp;omega)
     ·refine Rr ?_;exact hQ ⟨3,nm,0,0,[],[],[],kl,zV⟩ _ [(0,0),(1,1),(2,2),(3,3)] (mD ⟨om,om⟩ om z0 z0 (by simp) (by simp) (by simp) (by simp) (by simp) (by simp) om j4 (gH z0 z0) (by simp[zV,bC,cE])) (aE _ rfl ⟨aJ 0 cW,⟨1,_,rfl,rfl,.cons (.agg (.cons (.sl 2 2 0 _ rfl) .nil)) .nil⟩,aJ 2 (aU _),⟨3,_,rfl,rfl,.cons (.agg (.s (.s (.s (.s (.cons (.nil 1) (.cons (.nil 1) (.cons (.nil 4) (.cons (.fz' (id:=4) rfl rfl (by rw[aD];first|omega|(simp only;omega)) (by rw[List.drop_zero];exact List.take_of_length_le (by rw[aD];first|omega|(simp only;omega))) (aQ _)) (.s (.s (.s (.cons (.nil 4) .nil))))))))))))) .nil⟩,trivial⟩ ⟨aF,aK,aK,aF,aF,aF,aK,trivial⟩)
    ·have hBd:=QL ns l kk hl om om kk0 om hT.good;have hBg:=Iz hT om om (l:=l) (k:=kk) kk0;have hns:ns.length<=14:=om;generalize y8 ns l ns.length kk=bx at hBd hBg;have hbn:=a6 bx;refine Rr ?_;refine aG.use1 bG hBd 2 rfl (aU _) (.cons (.agg' (.cons (.sl 2 0 0 _ rfl) .nil)) (.s (.s (.s .nil)))) ?_;rintro r m k' ⟨rfl,rfl⟩;refine⟨_,rfl,hbn,aU _, ?_⟩;obtain⟨kind,name,lo,hi,ws,ls,vals,kids,⟨vk,vn,vs,vks⟩⟩:=bx;refine Rr ?_;exact hQ ⟨kind,name,lo,hi,ws,ls,vals,kids,.mk vk vn vs vks⟩ _ [(0,0),(1,1),(2,2),(3,3)] hBg (aE _ rfl ⟨aJ 0 cW,⟨1,_,rfl,rfl,.cons (.agg (.cons (.sl 2 2 0 _ rfl) .nil)) .nil⟩,aJ 2 (aU _),aJ 3 (.cons (a6 ⟨kind,name,lo,hi,ws,ls,vals,kids,.mk vk vn vs vks⟩) .nil),trivial⟩ ⟨aF,aK,aK,aF,aF,aF,aK,trivial⟩)
   ·have hxn:=a6 x;have hV:=Nt (ns++[x]) (by simp;omega) (fun y hy=>by
     rcases List.mem_append.1 hy with hy|hy
     ·have:=hT.gen y hy;exact⟨this.ok,by have:=this.vals;omega⟩
     ·simp at hy;rw[hy];exact⟨hx.ok,by have:=hx.vals;omega⟩)
    have hnn2:=aU (ns++[x]);have eTk:List.take ns.length (List.drop 0 (aW ns))=aW ns:=by rw[List.drop_zero];exact List.take_of_length_le (by rw[bO];omega)
    have hxs:aW (ns++[x])=aW ns++[cH x]:=by simp[aW]
    have hsn:=fun h=>hT.snoc (x:=x) om hx h
    have hw5:=iM kk0 (show (0:Int)<5 by omega);have hlf:=hT.leaf (m:=kk.tmod 5) ⟨om,om⟩;obtain⟨e,he⟩:∃e,e=cC (ns++[x]):=⟨_,rfl⟩
    rw[←he] at hV hsn;obtain⟨kind,name,lo,hi,ws,ls,vals,kids,⟨vk,vn,vs,vks⟩⟩:=x;refine Rr ?_;refine aP (Fy (by rw[bO];omega)) ?_;rw[eTk];refine Rr ?_;refine aP (zY rfl (by rw[bO];omega)) ?_;refine Rr ?_;refine aP (bV rfl rfl rfl (by rw[bO];simp;omega)) ?_;refine Rr ?_;refine aG.useN bG [(7,0)] hV rfl (.cons (.agg' (.cons (.slE rfl (by rw[bO];simp)) .nil)) .nil) ⟨⟨7,_,rfl,rfl,.eq hnn2 (by rw[hxs];rfl)⟩,trivial⟩ rfl ?_;rintro r m k' ⟨rfl,rfl⟩;refine⟨[(0,7)],_,[(7,.row 83 12 (aW (ns++[⟨kind,name,lo,hi,ws,ls,vals,kids,.mk vk vn vs vks⟩])))],8,.same _ nn,⟨aJ 0 hnn2,trivial⟩,rfl, ?_⟩;by_cases e0:e=0
    ·subst e0;refine Rr ?_;exact .mk (ns++[⟨kind,name,lo,hi,ws,ls,vals,kids,.mk vk vn vs vks⟩]) [(0,0),(1,1),(7,2)] ⟨hsn rfl,by simp;omega⟩
      (aE _ rfl ⟨aJ 0 cW,⟨1,_,rfl,rfl,.cons (.agg (.cons (.slE rfl (by rw[bO];simp)) .nil)) .nil⟩,aJ 7 hnn2,trivial⟩ ⟨aF,aK,aK,aF,⟨_,rfl,.w64 (by simp) ⟨by simp;omega,by simp;omega⟩⟩,trivial⟩) (by simp;omega)
    ·have de:(e == 0)=false:=by simpa using e0
     refine Rr ?_;rw[de];refine Rr ?_;refine aP (bV rfl rfl (by rw[bO]) (by simp;omega)) ?_;refine Rr ?_;have hlx:aW (ns++[⟨0,[],0,0,[],[],[],[],.mk 0 (kk.tmod 5) [] []⟩])=aW ns++[cH ⟨0,[],0,0,[],[],[],[],.mk 0 (kk.tmod 5) [] []⟩]:=by simp[aW]
     exact .mk (ns++[⟨0,[],0,0,[],[],[],[],.mk 0 (kk.tmod 5) [] []⟩]) [(0,0),(1,1),(9,2)] ⟨hlf,by simp;omega⟩
      (aE _ rfl ⟨aJ 0 cW,⟨1,_,rfl,rfl,.cons (.agg (.cons (.slE rfl (by simp)) .nil)) .nil⟩,⟨9,_,rfl,rfl,by rw[hlx];exact .snoc rfl (.same (aU _)) (.agg (.s (.s (.s (.s (.cons (.nil 1) (.cons (.nil 1) (.cons (.nil 4) (.cons (.nil 1) (.s (.s (.s (.cons (.nil 4) .nil)))))))))))))⟩,trivial⟩ ⟨aF,aK,aK,aF,⟨_,rfl,.w64 (by simp) ⟨by simp;omega,by simp;omega⟩⟩,trivial⟩) (by simp;omega)
 ·have hlt:ns.length=n:=by simp at h;omega
  refine Rr ?_;exact bN (r':=.agg [.sl 0 0 ns.length]) (m':=tM ns) (n':=1) [(2,0)] rfl ⟨aJ 2 (aU _),trivial⟩ (.agg' (.cons (.sl 2 0 0 _ rfl) .nil)) ⟨ns,hT,om,rfl,rfl,rfl⟩
set_option maxHeartbeats 16000000
end Go.Proofs.YtobknjmfgjaehaaGreatDoor
namespace Go.Proofs.YtobknjmfgjaehaaGreatDoor
open Go Go.Ax Go.Proofs Tryz
set_option maxRecDepth 100000
set_option maxHeartbeats 4000000
def cI(n:Nat):AB:=.row 3 1 [.int .i64 n]
def cB(b:Bool):AB:=.row 4 1 [.bool b]
def cF(f:AV):AB:=.row 220 1 [f]
section
variable {mem:aN} {σ:List (Nat × Nat)}
theorem FE{F:FuncId}{i:Nat}(h:lk σ i=some i):qS mem σ [.fn (.func F) [] [.ptr i 0 0]] [.fn (.func F) [] [.ptr i 0 0]]:=
 .cons (.one rfl rfl (.fn _ _ _ _ _ rfl rfl (by simp) (jL.cons (.ptr i i 0 0 h) .nil).2)) .nil
theorem qP{F:FuncId}{i j:Nat}(h:lk σ i=some i)(h':lk σ j=some j):qS mem σ [.fn (.func F) [] [.ptr i 0 0,.ptr j 0 0]] [.fn (.func F) [] [.ptr i 0 0,.ptr j 0 0]]:=
 .cons (.one rfl rfl (.fn _ _ _ _ _ rfl rfl (by simp) (jL.cons (.ptr i i 0 0 h) (.cons (.ptr j j 0 0 h') .nil)).2)) .nil
theorem BG{F:FuncId}{i j k:Nat}(h:lk σ i=some i)(h':lk σ j=some j)(h'':lk σ k=some k):qS mem σ [.fn (.func F) [] [.ptr i 0 0,.ptr j 0 0,.ptr k 0 0]] [.fn (.func F) [] [.ptr i 0 0,.ptr j 0 0,.ptr k 0 0]]:=
 .cons (.one rfl rfl (.fn _ _ _ _ _ rfl rfl (by simp) (jL.cons (.ptr i i 0 0 h) (.cons (.ptr j j 0 0 h') (.cons (.ptr k k 0 0 h'') .nil))).2)) .nil
end
def Ol(n:Nat):aN:=[(0,cI n),(1,cF (.fn (.func 167) [] [.ptr 0 0 0])),(2,cF (.fn (.func 180) [] [.ptr 1 0 0,.ptr 2 0 0]))]
theorem HY(g:Nat->Nat->Nat)(hg:∀n d,g n d<=max (n+1) d)
  (hsee:∀(v:a7) (d n:Nat),d<=1099511627776->n<=4398046511104->aG prog [] 167 [bK v,.int .i64 d,.ptr 0 0 0] [(0,cI n)] 1 fun r m _=>r = .bool true/\m=[(0,cI (g n d))]) :
  ∀(v:a7) (d n:Nat),d+gF v<=1099511627776->max n (d+gF v)+bC v<=4398046511104 ->
   aG prog [] 180 [bK v,.int .i64 d,.ptr 1 0 0,.ptr 2 0 0] (Ol n) 3 fun r m _=>r = .bool true/\m=Ol (wT g v d n)
 | .mk vk vn vs ks,d,n,hd,hb=>by
  have ih:∀a∈ks,∀(d n:Nat),d+gF a<=1099511627776->max n (d+gF a)+bC a<=4398046511104->aG prog [] 180 [bK a,.int .i64 d,.ptr 1 0 0,.ptr 2 0 0] (Ol n) 3 fun r m _=>r = .bool true/\m=Ol (wT g a d n):=
   fun a hm d n h1 h2=>HY g hg hsee a d n h1 h2
  simp only[gF,bC] at hd hb;have hlen:=xT ks;have hgn:=hg n d;refine aM bG func180 rfl ?_;refine Rr ?_;refine aG.useI bG [0] (hsee (.mk vk vn vs ks) d n om om) (by rfl) (.s (.s (.cons (.ptr 0 0 0 0 rfl) .nil))) ⟨aJ 0 cW,trivial⟩ rfl ?_;rintro r m n' ⟨rfl,rfl⟩;refine⟨nn,⟨aJ 0 cW,trivial⟩,rfl, ?_⟩;refine Rr ?_;refine a9.at bG (fun k:Nat=>k<=ks.length)
   (fun k=>⟨[(1,.int .i64 d),(3,.ptr 2 0 0),(15,.il 4 (aO ks)),(16,.int .i64 (aO ks).length),(17,.int .i64 k)],Ol (rY g (ks.take k) (d+1) (g n d)),3,28⟩)
   (fun k=>ks.length-k) 0 [(0,0),(1,1),(2,2)] (by simp)
   (aE _ rfl ⟨aJ 0 cW,⟨1,_,rfl,rfl,FE rfl⟩,⟨2,_,rfl,rfl,qP rfl rfl⟩,trivial⟩ ⟨aF,aK,aF,aF,aF,trivial⟩) ?_
  intro k hk;have hrl:=Cw hg (ks.take k) (d+1) (g n d);refine Rr ?_;refine aH (fun h=>?_) (fun h=>?_)
  ·have hlt:=El h;obtain⟨a,b,c,e,hm,hg',he,e1⟩:=bX hlt;have hst:=u6 hlt;have hdt:=EN hlt;rw[he] at hst hdt;have hst':=oH ks (k+1);have hdm:=uK hm;have hdk:eP (ks.take k)<=eP ks:=Ba ks k;have hrt:=IX g hlt (d+1) (g n d);rw[he] at hrt;refine Rr ?_;refine aC e1 ?_;refine Rr ?_;rw[w64 (x:=(d:Int)+1) (y:=((d+1:Nat):Int)) om ⟨om,om⟩];refine aG.useI bG [0,1,2] (ih _ hm (d+1) (rY g (ks.take k) (d+1) (g n d)) om om) (by rfl) (.s (.s (.cons (.ptr 1 1 0 0 rfl) (.cons (.ptr 2 2 0 0 rfl) .nil))))
    ⟨aJ 0 cW,⟨1,_,rfl,rfl,FE rfl⟩,⟨2,_,rfl,rfl,qP rfl rfl⟩,trivial⟩ rfl ?_
   rintro r m n' ⟨rfl,rfl⟩;refine⟨nn,⟨aJ 0 cW,⟨1,_,rfl,rfl,FE rfl⟩,⟨2,_,rfl,rfl,qP rfl rfl⟩,trivial⟩,rfl, ?_⟩;rw[←hrt];refine Rr ?_;exact .mk (k+1) [(0,0),(1,1),(2,2)] om
    (aE _ rfl ⟨aJ 0 cW,⟨1,_,rfl,rfl,FE rfl⟩,⟨2,_,rfl,rfl,qP rfl rfl⟩,trivial⟩ ⟨aF,aK,aF,aF,⟨_,rfl,.w64 om ⟨om,om⟩⟩,trivial⟩) om
  ·have hk':k=ks.length:=by have:=EM h;omega
   refine Rr ?_;refine bN (n':=3) (m':=Ol (rY g (ks.take k) (d+1) (g n d))) [(0,0),(1,1),(2,2)] rfl ⟨aJ 0 cW,⟨1,_,rfl,rfl,FE rfl⟩,⟨2,_,rfl,rfl,qP rfl rfl⟩,trivial⟩ (.same _ nn) ⟨rfl, ?_⟩;rw[hk',List.take_length,wT]
 termination_by v=>SizeOf.sizeOf v
 decreasing_by simp;have:=List.sizeOf_lt_of_mem hm;omega
end Go.Proofs.YtobknjmfgjaehaaGreatDoor
namespace Go.Proofs.YtobknjmfgjaehaaGreatDoor
open Go Go.Ax Go.Proofs Tryz
set_option maxRecDepth 100000
set_option maxHeartbeats 4000000
section
variable {mem:aN} {σ:List (Nat × Nat)}
theorem NV{F:FuncId}{i i':Nat}(h:lk σ i=some i'):qS mem σ [.fn (.func F) [] [.ptr i 0 0]] [.fn (.func F) [] [.ptr i' 0 0]]:=
 .cons (.one rfl rfl (.fn _ _ _ _ _ rfl rfl (by simp) (jL.cons (.ptr i i' 0 0 h) .nil).2)) .nil
theorem K5{F:FuncId}{i j i' j':Nat}(h:lk σ i=some i')(h':lk σ j=some j'):qS mem σ [.fn (.func F) [] [.ptr i 0 0,.ptr j 0 0]] [.fn (.func F) [] [.ptr i' 0 0,.ptr j' 0 0]]:=
 .cons (.one rfl rfl (.fn _ _ _ _ _ rfl rfl (by simp) (jL.cons (.ptr i i' 0 0 h) (.cons (.ptr j j' 0 0 h') .nil)).2)) .nil
theorem Ng{F:FuncId}{i j k i' j' k':Nat}(h:lk σ i=some i')(h':lk σ j=some j')(h'':lk σ k=some k'):qS mem σ [.fn (.func F) [] [.ptr i 0 0,.ptr j 0 0,.ptr k 0 0]] [.fn (.func F) [] [.ptr i' 0 0,.ptr j' 0 0,.ptr k' 0 0]]:=
 .cons (.one rfl rfl (.fn _ _ _ _ _ rfl rfl (by simp) (jL.cons (.ptr i i' 0 0 h) (.cons (.ptr j j' 0 0 h') (.cons (.ptr k k' 0 0 h'') .nil))).2)) .nil
theorem Qj{F:FuncId}{i i':Nat}(h:lk σ i=some i'):Cv mem σ (.fn (.func F) [] [.ptr i 0 0]) (.fn (.func F) [] [.ptr i' 0 0]):=
 .fn _ _ _ _ _ rfl rfl (by simp) (jL.cons (.ptr i i' 0 0 h) .nil).2
theorem QZ{F:FuncId}{i j k i' j' k':Nat}(h:lk σ i=some i')(h':lk σ j=some j')(h'':lk σ k=some k'):Cv mem σ (.fn (.func F) [] [.ptr i 0 0,.ptr j 0 0,.ptr k 0 0]) (.fn (.func F) [] [.ptr i' 0 0,.ptr j' 0 0,.ptr k' 0 0]):=
 .fn _ _ _ _ _ rfl rfl (by simp) (jL.cons (.ptr i i' 0 0 h) (.cons (.ptr j j' 0 0 h') (.cons (.ptr k k' 0 0 h'') .nil))).2
end
theorem Qq:∀(v:a7) (d n:Nat),d<=1099511627776->n<=4398046511104->aG prog [] 167 [bK v,.int .i64 d,.ptr 0 0 0] [(0,cI n)] 1 fun r m _=>r = .bool true/\m=[(0,cI (n+1))]
 | .mk vk vn vs ks,d,n,hd,hn=>by
  refine aM bG func167 rfl ?_;refine Rr ?_;exact bN (n':=1) (m':=[(0,cI (n+1))]) [(0,0)] rfl ⟨⟨0,_,rfl,rfl,.cons (.one rfl rfl (.w64 om ⟨om,om⟩)) .nil⟩,trivial⟩ (.same _ nn) ⟨rfl,rfl⟩
theorem L6:∀(v:a7) (n:Nat),1+gF v<=1099511627776->max n (1+gF v)+bC v<=4398046511104 ->
   aG prog [] 163 [bK v,.fn (.func 167) [] [.ptr 0 0 0]] [(0,cI n)] 1 fun r m _=>r = .tup []/\m=[(0,cI (wT (fun n _=>n+1) v 1 n))]
 | .mk vk vn vs ks,n,hd,hb=>by
  have hw:=HY (fun n _=>n+1) (fun n d=>om) Qq (.mk vk vn vs ks) 1 n hd hb;generalize wT (fun n _=>n+1) (.mk vk vn vs ks) 1 n=res at hw;refine aM bG func163 rfl ?_;refine Rr ?_;refine aG.useR bG [(0,0),(2,1),(3,2)] hw (by rfl) (.s (.cons (.int rfl) (.cons (.ptr 2 1 0 0 rfl) (.cons (.ptr 3 2 0 0 rfl) .nil))))
   ⟨aJ 0 cW,⟨2,_,rfl,rfl,NV rfl⟩,⟨3,_,rfl,rfl,K5 rfl rfl⟩,trivial⟩ rfl ?_
  rintro r m n' ⟨rfl,rfl⟩;refine⟨[(0,cI res)],nn,⟨aJ 0 cW,trivial⟩,rfl, ?_⟩;refine Rr ?_;exact bN (n':=1) (m':=[(0,cI res)]) [(0,0)] rfl ⟨aJ 0 cW,trivial⟩ (.same _ nn) ⟨rfl,rfl⟩
theorem Ow:∀v:a7,bC v<=1048576->a8 prog [] 145 [bK v] (.int .i64 (bC v))
 | .mk vk vn vs ks,hs=>by
  have hd:=oD (.mk vk vn vs ks);have hw:=L6 (.mk vk vn vs ks) 0 om om;rw[show wT (fun n _=>n+1) (.mk vk vn vs ks) 1 0=bC (.mk vk vn vs ks) by rw[D4];omega] at hw;generalize bC (.mk vk vn vs ks)=res at hw;refine aM bG func145 rfl ?_;refine Rr ?_;refine aG.useR bG [(1,0)] hw (by rfl) (.s (.cons (Qj rfl) .nil)) ⟨aJ 1 cW,trivial⟩ rfl ?_;rintro r m n' ⟨rfl,rfl⟩;refine⟨[(1,cI res)],nn,⟨aJ 0 cW,trivial⟩,rfl, ?_⟩;refine Rr ?_;exact aB nn ⟨rfl,rfl,rfl⟩
abbrev VS:=Nat × Bool × Bool
def vC(x:VS):aN:=[(0,cI x.1),(1,cB x.2.1),(2,cB x.2.2)]
def wV(x:VS):aN:=[(0,cI x.1),(1,cB x.2.1),(2,cB x.2.2),(3,cF (.fn (.func 164) [] [.ptr 0 0 0,.ptr 1 0 0,.ptr 2 0 0])),(4,cF (.fn (.func 180) [] [.ptr 3 0 0,.ptr 4 0 0]))]
theorem Q5(vk vn:Int)(vs:List UInt8)(ks:List a7)(hs:vs.length<=4294967296)(d:Nat)(x:VS)(hx:x.1<=4398046511104) :
  aG prog [] 164 [bK (.mk vk vn vs ks),.int .i64 d,.ptr 0 0 0,.ptr 1 0 0,.ptr 2 0 0] (vC x) 3 fun r m _=>r = .bool (cY x (.mk vk vn vs ks) d).1/\m=vC (cY x (.mk vk vn vs ks) d).2:=by
 obtain⟨n,g,s⟩:=x;have h1:=L0 vk vn vs ks hs;have h2:=Po vk vn vs ks;have hst:cY (n,g,s) (.mk vk vn vs ks) d=(g && cS vk vn vs ks.length,(n+1,g && cS vk vn vs ks.length,s && tS vk ks.length)):=rfl;generalize cS vk vn vs ks.length=fb at h1 hst;generalize tS vk ks.length=tb at h2 hst;rw[hst];simp only at hx;refine aM bG func164 rfl ?_;cases g<;>cases s
 all_goals
  refine Rr ?_;try(refine h1.go ?_;refine Rr ?_)
  try(refine h2.go ?_;refine Rr ?_)
  exact bN (n':=3) (m':=vC (n+1,_,_)) [(0,0),(1,1),(2,2)] rfl ⟨⟨0,_,rfl,rfl,.cons (.one rfl rfl (.w64 om ⟨om,om⟩)) .nil⟩,aJ 1 cW,aJ 2 cW,trivial⟩ (.same _ nn) ⟨rfl,rfl⟩
theorem Jl:∀(v:a7) (d:Nat) (x:VS),gD v->d+gF v<=1099511627776->x.1+bC v<=4398046511104 ->
   aG prog [] 180 [bK v,.int .i64 d,.ptr 3 0 0,.ptr 4 0 0] (wV x) 5 fun r m _=>r = .bool (lU cY v d x).1/\m=wV (lU cY v d x).2
 | .mk vk vn vs ks,d,x,hok,hd,hb=>by
  simp only[gD] at hok;obtain⟨hv1,hv2,hv3,hv4,hv5⟩:=hok;have ih:∀a∈ks,∀(d:Nat) (x:VS),d+gF a<=1099511627776->x.1+bC a<=4398046511104->aG prog [] 180 [bK a,.int .i64 d,.ptr 3 0 0,.ptr 4 0 0] (wV x) 5 fun r m _=>r = .bool (lU cY a d x).1/\m=wV (lU cY a d x).2:=
   fun a hm d x h1 h2=>Jl a d x (nJ hv5 a hm) h1 h2
  simp only[gF,bC] at hd hb;have hlen:=xT ks;have hsee:=Q5 vk vn vs ks hv3 d x om;have hy1:(cY x (.mk vk vn vs ks) d).2.1=x.1+1:=rfl;generalize hst0:cY x (.mk vk vn vs ks) d=st at hsee hy1;obtain⟨b,y⟩:=st;simp only at hy1;refine aM bG func180 rfl ?_;refine Rr ?_;refine aG.useI bG [0,1,2] hsee (by rfl) (.s (.s (.cons (.ptr 0 0 0 0 rfl) (.cons (.ptr 1 1 0 0 rfl) (.cons (.ptr 2 2 0 0 rfl) .nil))))) ⟨aJ 0 cW,aJ 1 cW,aJ 2 cW,trivial⟩ rfl ?_;rintro r m n' ⟨rfl,rfl⟩;refine⟨nn,⟨aJ 0 cW,aJ 1 cW,aJ 2 cW,trivial⟩,rfl, ?_⟩;cases b with
  | false=>
   refine Rr ?_;refine bN (n':=5) (m':=wV y) [(0,0),(1,1),(2,2),(3,3),(4,4)] rfl ⟨aJ 0 cW,aJ 1 cW,aJ 2 cW,⟨3,_,rfl,rfl,BG rfl rfl rfl⟩,⟨4,_,rfl,rfl,qP rfl rfl⟩,trivial⟩ (.same _ nn) ?_;have hvis:lU cY (.mk vk vn vs ks) d x=(false,y):=by rw[lU,hst0]
   rw[hvis];exact⟨rfl,rfl⟩
  | true=>
   have hvis:lU cY (.mk vk vn vs ks) d x=nI cY ks (d+1) y:=by rw[lU,hst0]
   refine Rr ?_;refine a9.at bG (fun a:Nat × VS=>a.1<=ks.length/\nI cY (ks.take a.1) (d+1) y=(true,a.2))
    (fun a=>⟨[(1,.int .i64 d),(3,.ptr 4 0 0),(15,.il 4 (aO ks)),(16,.int .i64 (aO ks).length),(17,.int .i64 a.1)],wV a.2,5,28⟩)
    (fun a=>ks.length-a.1) (0,y) [(0,0),(1,1),(2,2),(3,3),(4,4)] ⟨by simp,rfl⟩
    (aE _ rfl ⟨aJ 0 cW,aJ 1 cW,aJ 2 cW,⟨3,_,rfl,rfl,BG rfl rfl rfl⟩,⟨4,_,rfl,rfl,qP rfl rfl⟩,trivial⟩ ⟨aF,aK,aF,aF,aF,trivial⟩) ?_
   rintro⟨k,z⟩ ⟨hk,hz⟩;simp only at hk hz;have hcnt:=BM (ks.take k) (d+1) y;rw[hz] at hcnt;simp only at hcnt;refine Rr ?_;refine aH (fun h=>?_) (fun h=>?_)
   ·have hlt:k<ks.length:=El h;obtain⟨a,b,c,e,hm,hg',he,e1⟩:=bX hlt;have hst:=u6 hlt;rw[he] at hst;have hst':=oH ks (k+1);have hdm:=uK hm;have hnext:=Ij cY hlt (d+1) y z hz;rw[he] at hnext;have hb2:z.1+bC (.mk a b c e)<=4398046511104:=om;have hih:=ih _ hm (d+1) z om hb2;generalize lU cY (.mk a b c e) (d+1) z=st2 at hih hnext;obtain⟨b2,z2⟩:=st2;refine Rr ?_;refine aC e1 ?_;refine Rr ?_;rw[w64 (x:=(d:Int)+1) (y:=((d+1:Nat):Int)) om ⟨om,om⟩];refine aG.useI bG [0,1,2,3,4] hih (by rfl) (.s (.s (.cons (.ptr 3 3 0 0 rfl) (.cons (.ptr 4 4 0 0 rfl) .nil))))
     ⟨aJ 0 cW,aJ 1 cW,aJ 2 cW,⟨3,_,rfl,rfl,BG rfl rfl rfl⟩,⟨4,_,rfl,rfl,qP rfl rfl⟩,trivial⟩ rfl ?_
    rintro r m n' ⟨rfl,rfl⟩;refine⟨nn,⟨aJ 0 cW,aJ 1 cW,aJ 2 cW,⟨3,_,rfl,rfl,BG rfl rfl rfl⟩,⟨4,_,rfl,rfl,qP rfl rfl⟩,trivial⟩,rfl, ?_⟩;cases b2 with
    | false=>
     refine Rr ?_;refine bN (n':=5) (m':=wV z2) [(0,0),(1,1),(2,2),(3,3),(4,4)] rfl ⟨aJ 0 cW,aJ 1 cW,aJ 2 cW,⟨3,_,rfl,rfl,BG rfl rfl rfl⟩,⟨4,_,rfl,rfl,qP rfl rfl⟩,trivial⟩ (.same _ nn) ?_;have:=CJ cY (m:=ks.drop (k+1)) hnext;rw[List.take_append_drop] at this;rw[hvis,this];exact⟨rfl,rfl⟩
    | true=>
     refine Rr ?_;exact .mk (k+1,z2) [(0,0),(1,1),(2,2),(3,3),(4,4)] ⟨by simp only;omega,hnext⟩
      (aE _ rfl ⟨aJ 0 cW,aJ 1 cW,aJ 2 cW,⟨3,_,rfl,rfl,BG rfl rfl rfl⟩,⟨4,_,rfl,rfl,qP rfl rfl⟩,trivial⟩ ⟨aF,aK,aF,aF,⟨_,rfl,.w64 om ⟨om,om⟩⟩,trivial⟩) (by simp only;omega)
   ·have hk':k=ks.length:=by have:=EM h;omega
    refine Rr ?_;refine bN (n':=5) (m':=wV z) [(0,0),(1,1),(2,2),(3,3),(4,4)] rfl ⟨aJ 0 cW,aJ 1 cW,aJ 2 cW,⟨3,_,rfl,rfl,BG rfl rfl rfl⟩,⟨4,_,rfl,rfl,qP rfl rfl⟩,trivial⟩ (.same _ nn) ?_;rw[hk',List.take_length] at hz;rw[hvis,hz];exact⟨rfl,rfl⟩
 termination_by v=>SizeOf.sizeOf v
 decreasing_by simp;have:=List.sizeOf_lt_of_mem hm;omega
theorem LU:∀(v:a7) (x:VS),gD v->1+gF v<=1099511627776->x.1+bC v<=4398046511104 ->
   aG prog [] 163 [bK v,.fn (.func 164) [] [.ptr 0 0 0,.ptr 1 0 0,.ptr 2 0 0]] (vC x) 3 fun r m _=>r = .tup []/\m=vC (lU cY v 1 x).2
 | .mk vk vn vs ks,x,hok,hd,hb=>by
  have hw:=Jl (.mk vk vn vs ks) 1 x hok hd hb;generalize lU cY (.mk vk vn vs ks) 1 x=st at hw;obtain⟨b,y⟩:=st;refine aM bG func163 rfl ?_;refine Rr ?_;refine aG.useR bG [(0,0),(1,1),(2,2),(4,3),(5,4)] hw (by rfl) (.s (.cons (.int rfl) (.cons (.ptr 4 3 0 0 rfl) (.cons (.ptr 5 4 0 0 rfl) .nil))))
   ⟨aJ 0 cW,aJ 1 cW,aJ 2 cW,⟨4,_,rfl,rfl,Ng rfl rfl rfl⟩,⟨5,_,rfl,rfl,K5 rfl rfl⟩,trivial⟩ rfl ?_
  rintro r m n' ⟨rfl,rfl⟩;refine⟨[(0,cI y.1),(1,cB y.2.1),(2,cB y.2.2)],nn,⟨aJ 0 cW,aJ 1 cW,aJ 2 cW,trivial⟩,rfl, ?_⟩;refine Rr ?_;exact bN (n':=3) (m':=vC y) [(0,0),(1,1),(2,2)] rfl ⟨aJ 0 cW,aJ 1 cW,aJ 2 cW,trivial⟩ (.same _ nn) ⟨rfl,rfl⟩
theorem GZ:∀v:a7,gD v->bC v<=1048576->a8 prog [] 143 [bK v] (.int .i64 (fG v))
 | .mk vk vn vs ks,hok,hs=>by
  have hd:=oD (.mk vk vn vs ks);have hw:=LU (.mk vk vn vs ks) (0,true,true) hok om (by simp only;omega);have hval:=I5 (.mk vk vn vs ks);generalize fG (.mk vk vn vs ks)=res at hval;generalize (lU cY (.mk vk vn vs ks) 1 (0,true,true)).2=y at hw hval;obtain⟨n,g,s⟩:=y;simp only at hval;refine aM bG func143 rfl ?_;refine Rr ?_;refine aG.useR bG [(1,0),(2,1),(3,2)] hw (by rfl) (.s (.cons (QZ rfl rfl rfl) .nil)) ⟨aJ 1 cW,aJ 2 cW,aJ 3 cW,trivial⟩ rfl ?_;rintro r m n' ⟨rfl,rfl⟩;refine⟨[(1,cI n),(2,cB g),(3,cB s)],nn,⟨aJ 0 cW,aJ 1 cW,aJ 2 cW,trivial⟩,rfl, ?_⟩;cases g with
  | false=>
   refine Rr ?_;refine aB nn ⟨?_,rfl,rfl⟩;rw[←hval];rfl
  | true=>
   cases s with
   | false=>
    refine Rr ?_;refine aB nn ⟨?_,rfl,rfl⟩;rw[←hval];simp
   | true=>
    refine Rr ?_;refine aH (fun h=>?_) (fun h=>?_)
    ·refine Rr ?_;refine aB nn ⟨?_,rfl,rfl⟩;rw[←hval,if_neg (by simp),if_pos (by simp at h;omega)]
    ·refine Rr ?_;refine aB nn ⟨?_,rfl,rfl⟩;rw[←hval,if_neg (by simp),if_neg (by simp at h;simp;omega)]
end Go.Proofs.YtobknjmfgjaehaaGreatDoor
namespace Go.Ax
open Go
end Go.Ax
namespace Go.Ax
open Go
abbrev Rd:=List UInt8 × Int
theorem pS(n:Int):IntKind.u64.wrap n=n%18446744073709551616:=by
 unfold IntKind.wrap;have e:(2 ^ IntKind.u64.bits:Int)=18446744073709551616:=by decide
 have s:IntKind.u64.signed=false:=rfl;simp only[e,s,Bool.false_and];rfl
end Go.Ax
