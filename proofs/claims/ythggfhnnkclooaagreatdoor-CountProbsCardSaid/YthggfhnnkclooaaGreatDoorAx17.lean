/- A part of the proof. -/
import Derived.Test.YthggfhnnkclooaaGreatDoorAx16
import Derived.Test.YthggfhnnkclooaaGreatDoorProg
set_option linter.unusedSectionVars false
set_option linter.unusedVariables false
set_option linter.unusedSimpArgs false
set_option maxRecDepth 1000000
set_option maxHeartbeats 16000000
namespace Go.Proofs.YthggfhnnkclooaaGreatDoor
open Go Go.Ax Go.Proofs Tryz
theorem RA(l m:List bH)(hl:l.length<=4294967296)(hok:∀a∈l,jG a):aU prog [] 122 [.il 4 (aQ l),.il 4 (aQ m)] (.bool (eO l m)):=by
 refine aD bI func122 rfl ?_;refine Z ?_;refine aL (λh=>?_) (λh=>?_)
 .refine Z ?_;refine aA nn ⟨?_,rfl,rfl⟩;rw[aB,aB] at h;rw[De bk]
 have hlen:l.length=m.length:=by rw[aB,aB] at h;simp at h;omega
 refine Z ?_;refine bJ.at bI (λk:Nat=>k<=l.length/\eO l m=eO (l.drop k) (m.drop k))
  (λk=>⟨[(0,.il 4 (aQ l)),(1,.il 4 (aQ m)),(5,.int .i64 k)],[],0,27⟩) (λk=>l.length-k) 0 [] ⟨sq,sq⟩
  (b9 ⟨aG,aG,aG,trivial⟩) ?_
 rintro k ⟨hk,hs⟩;refine Z ?_;refine aL (λh=>?_) (λh=>?_)
 .have hlt:k<l.length:=Ma h;obtain⟨p1,p2,p3,p4,pm,pg,pe,ep⟩:=dU (l:=l) (k:=k) hlt;obtain⟨q1,q2,q3,q4,qm,qg,qe,eq⟩:=dU (l:=m) (k:=k) om;have hc:=AA (.mk p1 p2 p3 p4) (.mk q1 q2 q3 q4) (hok _ pm);rw[List.drop_eq_getElem_cons hlt,List.drop_eq_getElem_cons (show k<m.length by omega),pe,qe,eO] at hs;generalize c8 (.mk p1 p2 p3 p4) (.mk q1 q2 q3 q4)=c at hc hs;refine Z ?_;repeat((first|refine aC ep ?_|refine aC eq ?_|refine bK ?_);refine Z ?_)
  refine hc.go ?_;refine Z ?_;repeat((first|refine aC ep ?_|refine aC eq ?_|refine bK ?_);refine Z ?_)
  refine aL (λh=>?_) (λh=>?_)
  .refine Z ?_;refine aA nn ⟨?_,rfl,rfl⟩;rw[hs,ZG (su h)];rfl
  .refine Z ?_;refine .mk (k+1) [] ⟨om, ?_⟩ (b9 ⟨aG,aG,RF,trivial⟩) om;rw[hs,Y8 (su h),aBl]
 .have hge:l.length<=k:=MC h;refine Z ?_;refine aA nn ⟨?_,rfl,rfl⟩;rw[hs,aAe om,aAe om,eO]
theorem Ty(x:Nd)(ks:List bH):aU prog [] 218 [dM x,.il 4 (aQ ks)] (cC (dW x.name ks)):=by
 obtain⟨kind,name,lo,hi,ws,ls,vals,kids,⟨vk,vn,vs,vks⟩⟩:=x;refine aD bI func218 rfl ?_;refine Z ?_;refine aL (λh=>?_) (λh=>?_)
 .have h:name=[]:=su h
  refine Z ?_;exact cN (r':=cC (.mk 2 0 [] ks)) cc ⟨by rw[dW,Y7 h],rfl,rfl⟩
 .have h:¬name=[]:=su h
  refine Z ?_;exact cN (r':=cC (.mk 3 0 name ks)) cc ⟨by rw[dW,Y3 h],rfl,rfl⟩
theorem Wi(i:Nat)(x:Nd)(hi:i<=4294967296)(hx:tY x)(hvl:x.values.length<=4294967290):aU prog [] 56 [.int .i64 i,dM x] (.int .i64 (g9 i x)):=by
 have h1:=L5 i x hi hx;have h2:=N8 x hx;have hval:∀a∈qA x,aU prog [] 119 [cC a] (.int .i64 (hZ a)):=by
  intro a ha;have key:jG a/\bS a<=4294967296:=by
   unfold qA at ha;rcases ZO.1 ha with h|h
   .split at h
    .simp at h;rw[h];exact⟨hx.value,hx.valueS⟩
    .cases h
   .exact hx.valuesI a h
  exact VU a key.1 om
 have hres:g9 i x=if dS i x=false then 1 else if fU (qA x)≠0 then fU (qA x) else if Go.Ax.d6 x=false then 5 else 0:=rfl
 generalize g9 i x=res at hres;generalize dS i x=fb at h1 hres;generalize Go.Ax.d6 x=nb at h2 hres;clear hx;obtain⟨kind,name,lo,hi,ws,ls,vals,kids,⟨vk,vn,vs,vks⟩⟩:=x;simp only at hvl;have hown:qA ⟨kind,name,lo,hi,ws,ls,vals,kids,.mk vk vn vs vks⟩=(if kind=0 then [bH.mk vk vn vs vks] else [])++vals:=rfl;generalize qA ⟨kind,name,lo,hi,ws,ls,vals,kids,.mk vk vn vs vks⟩=own at hval hres hown;have hol:own.length<=4294967291:=by rw[hown];split<;>simp<;>omega
 refine aD bI func56 rfl ?_;refine Z ?_;refine h1.go ?_ (.cons (.int _ _) ai);cases fb with
 | false=>
  refine Z ?_;refine aA nn ⟨?_,rfl,rfl⟩;rw[hres,Y7 rfl]
 | true=>
  refine Z ?_;refine aL (λh=>?_) (λh=>?_)
  case' refine_1=>
   have hk:kind=0:=su h
   rw[Y7 hk] at hown;refine Z ?_;refine aK (b8 rfl rfl sq (by simp[aB];omega)) ?_;refine Z ?_;refine bJ.at bI (λk:Nat=>k<=own.length/\fU own=fU (own.drop k))
    (λk=>⟨[(3,.ptr 0 0 0),(6,.sl 1 0 own.length),(7,.int .i64 k)],[(0,.row 59 12 [dM ⟨kind,name,lo,hi,ws,ls,vals,kids,.mk vk vn vs vks⟩]),(1,.row 50 4 (aQ own))],2,45⟩) (λk=>own.length-k) 0 [(0,0),(3,1)] ⟨sq,sq⟩
    (aH _ rfl ⟨aF 0 ai,⟨3,_,rfl,rfl,.eq dQ (by rw[hown];rfl)⟩,trivial⟩ ⟨aM,⟨_,rfl,.slE rfl (by rw[hown];simp[aB];omega)⟩,aG,trivial⟩) ?_
  case' refine_2=>
   have hk:¬kind=0:=su h
   rw[Y3 hk] at hown;refine Z ?_;refine aK (CX rfl (by simp[aB];omega)) ?_;refine Z ?_;refine bJ.at bI (λk:Nat=>k<=own.length/\fU own=fU (own.drop k))
    (λk=>⟨[(3,.ptr 0 0 0),(6,.sl 1 0 own.length),(7,.int .i64 k)],[(0,.row 59 12 [dM ⟨kind,name,lo,hi,ws,ls,vals,kids,.mk vk vn vs vks⟩]),(1,.row 50 4 (aQ own))],2,45⟩) (λk=>own.length-k) 0 [(0,0),(1,1)] ⟨sq,sq⟩
    (aH _ rfl ⟨aF 0 ai,⟨1,_,rfl,rfl,.eq dQ (by rw[hown];rfl)⟩,trivial⟩ ⟨aM,⟨_,rfl,.slE rfl (by rw[hown];simp[aB])⟩,aG,trivial⟩) ?_
  all_goals
   clear h hown hk;rintro k ⟨hk,hf⟩;refine Z ?_;refine aL (λh=>?_) (λh=>?_)
   .have hlt:k<own.length:=su h
    obtain⟨p1,p2,p3,p4,pm,pg,pe,ep,bp⟩:=Sl (l:=own) (k:=k) (n:=own.length) hlt rfl;have hv:=hval _ pm;rw[List.drop_eq_getElem_cons hlt,pe,fU] at hf;generalize hZ (.mk p1 p2 p3 p4)=e at hv hf;refine Z ?_;repeat((first|refine aK bp ?_|refine aC ep ?_);refine Z ?_)
    refine hv.go ?_;refine Z ?_;refine aL (λh=>?_) (λh=>?_)
    .have h:e≠0:=su h
     refine Z ?_;refine aA nn ⟨?_,rfl,rfl⟩;rw[Y7 h] at hf;rw[hres,Y3 sq,hf,Y7 h]
    .have h:¬e≠0:=su h
     rw[Y3 h] at hf;refine Z ?_;exact .mk (k+1) [(0,0),(1,1)] ⟨om,hf⟩ (aH _ rfl ⟨aF 0 ai,aF 1 dQ,trivial⟩ ⟨aM,⟨_,rfl,.sl 1 1 0 _ rfl⟩,RF,trivial⟩) om
   .have hge:own.length<=k:=su h
    rw[aAe hge,fU] at hf;refine Z ?_;refine h2.go ?_ ai;cases nb with
    | false=>
     refine Z ?_;refine aA nn ⟨?_,rfl,rfl⟩;rw[hres,Y3 sq,hf,Y3 sq,Y7 rfl]
    | true=>
     refine Z ?_;refine aA nn ⟨?_,rfl,rfl⟩;rw[hres,Y3 sq,hf,Y3 sq,Y3 sq]
theorem O7(bs:List Int)(x:Nd)(hx:tY x)(hbl:bs.length<=1000000)(hb:∀y∈bs,0<=y/\y<=1024)(hk:∀(j:Nat) (k:Int),x.kids[j]? = some k->0<=k/\k<bs.length)(h4:4<=x.kind->0<x.kids.length)(hkind:0<=x.kind/\x.kind<=4) :
  aJ prog [] 57 [.sl 0 0 bs.length,dM x] [(0,.row 3 1 (aY bs))] 1 λr m _=>∃(len:Nat) (ys:List AV),r = .sl 1 0 len/\m=[(1,.row 3 1 ys)]/\jR ys/\(len=bs.length+1/\ys=aY (bs++[Go.Ax.f8 bs x])):=by
 have b1:=hx.kids;have b2:=hx.value;have b3:=hx.valueS;clear hx;have hat:=nG (b:=bs) (M:=1024) om hb;have hsum:=jY (b:=bs) (M:=1024) om hb;have hmost:=iK (b:=bs) (M:=1024) om hb;obtain⟨kind,name,lo,hi,ws,ls,vals,kids,⟨vk,vn,vs,vks⟩⟩:=x;simp only at b1 b2 b3 hk h4 hkind;have hfin:∀(v:Int) (m:aR) (n id:Nat) (e:Int),lk m id=some (.row 3 1 (aY bs++[.int .i64 e]))->1<=id->e=v->v=Go.Ax.f8 bs ⟨kind,name,lo,hi,ws,ls,vals,kids,.mk vk vn vs vks⟩ ->
   oC 1 (λr m _=>∃(len:Nat) (ys:List AV),r = .sl 1 0 len/\m=[(1,.row 3 1 ys)]/\jR ys/\(len=bs.length+1/\ys=aY (bs++[Go.Ax.f8 bs ⟨kind,name,lo,hi,ws,ls,vals,kids,.mk vk vn vs vks⟩]))) (.sl id 0 (bs.length+1)) m n:=by
  intro v m n id e hid h1 he hv;refine bL (n':=2) (m':=[(1,.row 3 1 (aY (bs++[v])))]) [(id,1)] ?_ ⟨⟨id,_,by simp[lk],hid,.eq (aW _) (by rw[he];simp[aY])⟩,trivial⟩ (.sl id 1 0 _ (by simp[lk])) ⟨_,_,rfl,rfl,aW _,rfl,by rw[hv]⟩;simp[lU,FL,kZ,Ba,AX]
 refine aD bI func57 rfl ?_;refine Z ?_;refine bJ.at bI (λk:Nat=>k<=kids.length)
  (λk=>⟨[(0,.sl 0 0 bs.length),(3,.ptr 1 0 0),(5,.int .i64 (0+gB bs (kids.take k))),(6,.int .i64 (c9 bs (if kind=2 then kids.take k else(kids.take k).drop 1))),(7,.int .i64 k)],[(0,.row 3 1 (aY bs)),(1,.row 59 12 [dM ⟨kind,name,lo,hi,ws,ls,vals,kids,.mk vk vn vs vks⟩])],2,74⟩) (λk=>kids.length-k) 0 [(0,0),(1,1)] sq
  (aH _ rfl ia ⟨bd,aM,dz,⟨_,rfl,.int (by split<;>rfl)⟩,aG,trivial⟩) ?_
 intro k hkl;have hs1:=hsum (kids.take k);have hlen:(kids.take k).length=k:=B'
 rw[hlen] at hs1;refine Z ?_;refine aL (λh=>?_) (λh=>?_)
 .have hlt:k<kids.length:=by rw[aN] at h;simpa using h
  have e1:(aY kids)[(k:Int).toNat]? = some (.int .i64 kids[k]):=ck
  have hg:kids[k]? = some kids[k]:=Yz hlt;have hst:=wA (b:=bs) hlt;have hmt:=s6 (b:=bs) hlt;have hmd:=pZ (b:=bs) hlt;generalize kids[k]=q at e1 hg hst hmt hmd;obtain⟨q1,q2⟩:=hk k q hg;have hq:=hat q;obtain⟨qn,rfl⟩:=ZU q1;have hqn:qn<bs.length:=om;have e2:(aY bs)[0+(qn:Int).toNat]? = some (.int .i64 (eP bs qn)):=by rw[ZP,Y1,bU,Yz hqn];simp[eP,hqn]
  have bq:Nat.blt (qn:Int).toNat bs.length=true:=Y2 B';generalize eP bs qn=av at e2 hst hmt hmd hq;refine Z ?_;repeat((first|refine aC e1 ?_|refine aK bq ?_|refine aC e2 ?_);refine Z ?_)
  have hw:IntKind.i64.wrap (0+gB bs (kids.take k)+av)=0+gB bs (kids.take (k+1)):=w64 om oq;refine aL (λh=>?_) (λh=>?_)
  .have h2:kind=2:=su h
   rw[h];refine Z ?_;exact .mk (k+1) [(0,0),(1,1)] om (aH _ rfl ia ⟨bd,aM,⟨_,rfl,.int hw⟩,⟨_,rfl,.int (by rw[Y7 h2,Y7 h2,hmt];simp;omega)⟩,RF,trivial⟩) om
  .have h2:¬kind=2:=su h
   rw[h];refine Z ?_;refine aL (λh=>?_) (λh=>?_)
   .have h3:0<k:=by simp at h;omega
    refine Z ?_;exact .mk (k+1) [(0,0),(1,1)] om (aH _ rfl ia ⟨bd,aM,⟨_,rfl,.int hw⟩,⟨_,rfl,.int (by rw[Y3 h2,Y3 h2,hmd h3];simp;omega)⟩,RF,trivial⟩) om
   .have h3:k=0:=by simp at h;omega
    refine Z ?_;exact .mk (k+1) [(0,0),(1,1)] om (aH _ rfl ia ⟨bd,aM,⟨_,rfl,.int hw⟩,⟨_,rfl,.int (by rw[Y3 h2,Y3 h2,h3];cases kids<;>simp)⟩,RF,trivial⟩) om
 .have hke:k=kids.length:=by rw[aN] at h;simp at h;omega
  rw[hke,ZK] at *;have hm1:=hmost kids;have hm2:=hmost (kids.drop 1);have hs2:=hsum kids;clear hke h;rcases(show kind=0\/kind=1\/kind=2\/kind=3\/kind=4 by omega) with rfl|rfl|rfl|rfl|rfl
  .refine Z ?_;refine aK cu ?_;refine Z ?_;exact hfin 0 _ _ _ _ rfl H' rfl rfl
  .refine Z ?_;refine aK cu ?_;refine Z ?_;exact hfin 1 _ _ _ _ rfl H' rfl rfl
  .rw[Y7 rfl] at *;refine Z ?_;refine aK cu ?_;refine Z ?_;exact hfin (1+c9 bs kids) _ _ _ _ rfl H' (w64 rfl oq) rfl
  .refine Z ?_;refine aK cu ?_;refine Z ?_;exact hfin (gB bs kids) _ _ _ _ rfl H' om rfl
  .rw[Y3 om] at *;have hpos:0<kids.length:=h4 om;have e1:(aY kids)[(0:Int).toNat]? = some (.int .i64 (kids.getD 0 0)):=by rw[show (0:Int).toNat=0 from rfl,bU,Yz hpos];simp[hpos]
   obtain⟨q1,q2⟩:=hk 0 (kids.getD 0 0) (by simp[hpos]);have hval:Go.Ax.f8 bs ⟨4,name,lo,hi,ws,ls,vals,kids,.mk vk vn vs vks⟩=eP bs (kids.getD 0 0)+c9 bs (kids.drop 1):=rfl;generalize kids.getD 0 0=q at e1 q1 q2 hval;have hq:=hat q;obtain⟨qn,rfl⟩:=ZU q1;have hqn:qn<bs.length:=om;have e2:(aY bs)[0+(qn:Int).toNat]? = some (.int .i64 (eP bs qn)):=by rw[ZP,Y1,bU,Yz hqn];simp[eP,hqn]
   have bq:Nat.blt (qn:Int).toNat bs.length=true:=Y2 B';generalize eP bs qn=av at e2 hval hq;refine Z ?_;repeat((first|refine aC e1 ?_|refine aK bq ?_|refine aC e2 ?_);refine Z ?_)
   refine aK cu ?_;refine Z ?_;exact hfin (av+c9 bs (kids.drop 1)) _ _ _ _ rfl H' (w64 rfl oq) hval.symm
theorem UE(bs:List Int)(x:Nd)(hx:tY x)(hbl:bs.length<=1000000)(hb:∀y∈bs,0<=y/\y<=1024)(hk:∀(j:Nat) (k:Int),x.kids[j]? = some k->0<=k/\k<bs.length)(h4:4<=x.kind->0<x.kids.length)(hkind:0<=x.kind/\x.kind<=4) :
  aJ prog [] 58 [.sl 0 0 bs.length,dM x] [(0,.row 3 1 (aY bs))] 1 λr m _=>∃(len:Nat) (ys:List AV),r = .sl 1 0 len/\m=[(1,.row 3 1 ys)]/\jR ys/\(len=bs.length+1/\ys=aY (bs++[mF bs x])):=by
 have b1:=hx.kids;have b2:=hx.value;have b3:=hx.valueS;clear hx;have hat:=nG (b:=bs) (M:=1024) om hb;have hsum:=jY (b:=bs) (M:=1024) om hb;have hmost:=iK (b:=bs) (M:=1024) om hb;obtain⟨kind,name,lo,hi,ws,ls,vals,kids,⟨vk,vn,vs,vks⟩⟩:=x;simp only at b1 b2 b3 hk h4 hkind;have hfin:∀(v:Int) (m:aR) (n id:Nat) (e:Int),lk m id=some (.row 3 1 (aY bs++[.int .i64 e]))->1<=id->e=v->v=mF bs ⟨kind,name,lo,hi,ws,ls,vals,kids,.mk vk vn vs vks⟩ ->
   oC 1 (λr m _=>∃(len:Nat) (ys:List AV),r = .sl 1 0 len/\m=[(1,.row 3 1 ys)]/\jR ys/\(len=bs.length+1/\ys=aY (bs++[mF bs ⟨kind,name,lo,hi,ws,ls,vals,kids,.mk vk vn vs vks⟩]))) (.sl id 0 (bs.length+1)) m n:=by
  intro v m n id e hid h1 he hv;refine bL (n':=2) (m':=[(1,.row 3 1 (aY (bs++[v])))]) [(id,1)] ?_ ⟨⟨id,_,by simp[lk],hid,.eq (aW _) (by rw[he];simp[aY])⟩,trivial⟩ (.sl id 1 0 _ (by simp[lk])) ⟨_,_,rfl,rfl,aW _,rfl,by rw[hv]⟩;simp[lU,FL,kZ,Ba,AX]
 refine aD bI func58 rfl ?_;refine Z ?_;refine bJ.at bI (λk:Nat=>k<=kids.length)
  (λk=>⟨[(0,.sl 0 0 bs.length),(3,.ptr 1 0 0),(5,.int .i64 (1+gB bs (kids.take k))),(6,.int .i64 (c9 bs (if kind=2 then kids.take k else(kids.take k).drop 1))),(7,.int .i64 k)],[(0,.row 3 1 (aY bs)),(1,.row 59 12 [dM ⟨kind,name,lo,hi,ws,ls,vals,kids,.mk vk vn vs vks⟩])],2,62⟩) (λk=>kids.length-k) 0 [(0,0),(1,1)] sq
  (aH _ rfl ia ⟨bd,aM,dz,⟨_,rfl,.int (by split<;>rfl)⟩,aG,trivial⟩) ?_
 intro k hkl;have hs1:=hsum (kids.take k);have hlen:(kids.take k).length=k:=B'
 rw[hlen] at hs1;refine Z ?_;refine aL (λh=>?_) (λh=>?_)
 .have hlt:k<kids.length:=by rw[aN] at h;simpa using h
  have e1:(aY kids)[(k:Int).toNat]? = some (.int .i64 kids[k]):=ck
  have hg:kids[k]? = some kids[k]:=Yz hlt;have hst:=wA (b:=bs) hlt;have hmt:=s6 (b:=bs) hlt;have hmd:=pZ (b:=bs) hlt;generalize kids[k]=q at e1 hg hst hmt hmd;obtain⟨q1,q2⟩:=hk k q hg;have hq:=hat q;obtain⟨qn,rfl⟩:=ZU q1;have hqn:qn<bs.length:=om;have e2:(aY bs)[0+(qn:Int).toNat]? = some (.int .i64 (eP bs qn)):=by rw[ZP,Y1,bU,Yz hqn];simp[eP,hqn]
  have bq:Nat.blt (qn:Int).toNat bs.length=true:=Y2 B';generalize eP bs qn=av at e2 hst hmt hmd hq;refine Z ?_;repeat((first|refine aC e1 ?_|refine aK bq ?_|refine aC e2 ?_);refine Z ?_)
  have hw:IntKind.i64.wrap (1+gB bs (kids.take k)+av)=1+gB bs (kids.take (k+1)):=w64 om oq;refine aL (λh=>?_) (λh=>?_)
  .have h2:kind=2:=su h
   rw[h];refine Z ?_;exact .mk (k+1) [(0,0),(1,1)] om (aH _ rfl ia ⟨bd,aM,⟨_,rfl,.int hw⟩,⟨_,rfl,.int (by rw[Y7 h2,Y7 h2,hmt];simp;omega)⟩,RF,trivial⟩) om
  .have h2:¬kind=2:=su h
   rw[h];refine Z ?_;refine aL (λh=>?_) (λh=>?_)
   .have h3:0<k:=by simp at h;omega
    refine Z ?_;exact .mk (k+1) [(0,0),(1,1)] om (aH _ rfl ia ⟨bd,aM,⟨_,rfl,.int hw⟩,⟨_,rfl,.int (by rw[Y3 h2,Y3 h2,hmd h3];simp;omega)⟩,RF,trivial⟩) om
   .have h3:k=0:=by simp at h;omega
    refine Z ?_;exact .mk (k+1) [(0,0),(1,1)] om (aH _ rfl ia ⟨bd,aM,⟨_,rfl,.int hw⟩,⟨_,rfl,.int (by rw[Y3 h2,Y3 h2,h3];cases kids<;>simp)⟩,RF,trivial⟩) om
 .have hke:k=kids.length:=by rw[aN] at h;simp at h;omega
  rw[hke,ZK] at *;have hm1:=hmost kids;have hm2:=hmost (kids.drop 1);have hs2:=hsum kids;clear hke h;rcases(show kind=0\/kind=1\/kind=2\/kind=3\/kind=4 by omega) with rfl|rfl|rfl|rfl|rfl
  .have hz:=P7 (.mk vk vn vs vks) om;have hval:mF bs ⟨0,name,lo,hi,ws,ls,vals,kids,.mk vk vn vs vks⟩=((bS (.mk vk vn vs vks):Nat):Int):=rfl;generalize bS (.mk vk vn vs vks)=sz at hz hval;refine Z ?_;refine hz.go ?_;refine Z ?_;refine aK cu ?_;refine Z ?_;exact hfin sz _ _ _ _ rfl H' rfl hval.symm
  .refine Z ?_;refine aK cu ?_;refine Z ?_;exact hfin 1 _ _ _ _ rfl H' rfl rfl
  .rw[Y7 rfl] at *;refine Z ?_;refine aK cu ?_;refine Z ?_;exact hfin (c9 bs kids) _ _ _ _ rfl H' rfl rfl
  .refine Z ?_;refine aK cu ?_;refine Z ?_;exact hfin (1+gB bs kids) _ _ _ _ rfl H' rfl rfl
  .rw[Y3 om] at *;refine Z ?_;refine aK cu ?_;refine Z ?_;exact hfin (c9 bs (kids.drop 1)) _ _ _ _ rfl H' rfl rfl
theorem YM(k:Int)(b:Bool):Sc (.tup [.int .i64 k,.bool b]):=.tup _ λj c h=>by
 rcases j with _|_|j<;>simp at h<;>subst h
 .exact .int _ _
 .exact .bool _
theorem Jr(l:List bH)(hl:l.length<=4294967296)(hok:∀a∈l,jG a) :
  aJ prog [] 233 [.il 4 (aQ l)] [] 0 λr m n=>r = .sl 0 0 (fR l).length/\m=[(0,.row 50 4 (aQ (fR l)))]/\n=1:=by
 have nl:NN (.il 4 (aQ l)):=nn;refine aD bI func233 rfl ?_;refine Z ?_;refine bJ.ph 50 4 ?_;refine bJ.at bI (λx:Nat × List bH=>x.1<=l.length/\x.2=fR (l.take x.1))
  (λx=>⟨[(0,.il 4 (aQ l)),(3,.sl 0 0 x.2.length),(4,.int .i64 x.1)],[(0,.row 50 4 (aQ x.2))],1,41⟩)
  (λx=>l.length-x.1) (0,[]) [(0,0)] ⟨sq,by simp[fR]⟩
  (aH _ rfl ⟨⟨0,_,rfl,rfl,.nil⟩,trivial⟩ ⟨aP nl,⟨_,rfl,.nslk 0 0 _ rfl rfl⟩,aG,trivial⟩) ?_
 rintro⟨k,out⟩ ⟨h1,h2⟩
 dsimp only at h1 h2 |-
 have hout:out.length<=k:=by rw[h2];have:=sT (l.take k);simp at this;omega
 have el:=aB out;have hoko:∀a∈out,jG a:=λa ha=>by rw[h2] at ha;exact hok a (Ze (rW ha))
 refine Z ?_;refine aL (λh=>?_) (λh=>?_)
 .have hk:k<l.length:=Ma h;obtain⟨ak,an,az,aks,hmem,hg,hv,e⟩:=dU (l:=l) (k:=k) hk;have hnext:fR (l.take (k+1))=uK out (.mk ak an az aks):=by
   rw[ZE hk,pQ,<-h2,hv]
  have hf:=Ta out (.mk ak an az aks) om hoko;have hle:=A6 out (.mk ak an az aks);have hins:uK out (.mk ak an az aks)=if (eZ out (.mk ak an az aks)).2 then out else out.take (eZ out (.mk ak an az aks)).1 ++ .mk ak an az aks::out.drop (eZ out (.mk ak an az aks)).1:=rfl
  generalize eZ out (.mk ak an az aks)=f at hf hle hins;generalize uK out (.mk ak an az aks)=nw at hnext hins;obtain⟨p,b⟩:=f
  dsimp only at hle hins hf
  refine Z ?_;refine aC e ?_;refine Z ?_;refine hf.lend bI (.cons (.fz' rfl rfl gr (by rw[<-aB];simp) (aX out)) (.cons (.same _ (bZ (.mk ak an az aks))) .nil)) (YM _ _) ?_;cases b with
  | true=>
   refine Z ?_;rw[Y7 rfl] at hins;exact .mk (k+1,out) [(0,0)] ⟨by simp only;omega,by rw[<-hins];exact hnext.symm⟩ (aH _ rfl dc ⟨aP nl,bd,⟨_,rfl,.w64 sq oq⟩,trivial⟩) J'
  | false=>
   rw[Y3 sq] at hins;refine Z ?_;repeat(first
    | (refine bK ?_;refine Z ?_)
    | (refine aC e ?_;refine Z ?_)
    | (refine aK (H6 (by simp;try omega) (by simp;try omega) (by simp;try omega)) ?_;refine Z ?_)
    | (refine aK (Jo (by simp;try omega)) ?_;refine Z ?_)
    | (refine aK (CX rfl (by simp;try omega)) ?_;refine Z ?_)
    | (refine aK (b8 rfl rfl (by simp;try omega) (by simp;try omega)) ?_;refine Z ?_))
   have hrow:List.take ((p:Int).toNat-0) (List.drop (0+0) (aQ out))++List.take 1 (List.drop 0 [AV.agg [.int .i64 ak,.int .i64 an,.str az,.il 4 (aQ aks)]])++List.take (out.length-(p:Int).toNat) (List.drop (0+(p:Int).toNat) (aQ out))=aQ nw:=by
    rw[hins];simp[gR,cC,List.map_take,List.map_drop];exact ZD sq
   exact .mk (k+1,nw) [(19,0)] ⟨by simp only;omega,hnext.symm⟩ (aH _ rfl ⟨⟨19,_,rfl,rfl,.eq dQ hrow⟩,trivial⟩ ⟨aP nl,⟨_,rfl,.slE rfl (by have:=congrArg List.length hrow;rw[ZB,ZB,aB] at this;exact this)⟩,⟨_,rfl,.w64 sq oq⟩,trivial⟩) J'
 .have hk:k=l.length:=by have:=MC h;omega
  refine Z ?_;rw[hk,ZK] at h2;subst h2;exact bL (n':=1) (m':=[(0,.row 50 4 (aQ (fR l)))]) [(0,0)] rfl dc (.sl 0 0 0 _ rfl) C' 
theorem Uy(l:List bH)(hl:l.length<=4294967296)(hok:∀a∈l,jG a):aU prog [] 233 [.il 4 (aQ l)] (.il 4 (aQ (fR l))):=by
 refine aJ.turn bI ((Jr l hl hok).mono ?_);rintro r m n ⟨rfl,rfl,rfl⟩;exact cN (.fz' rfl rfl (by rw[aB];omega) (by rw[<-aB];simp) dQ) ⟨rfl,rfl,rfl⟩
theorem NM(x:Nd)(bs:List iX)(h0:x.kind=0):aJ prog [] 185 [dM x,.sl 0 0 bs.length] [(0,.row 203 2 (cK bs))] 1 λr m _=>r=mV (dN x bs)/\m=[(0,.row 203 2 (cK bs))]:=by
 have nb:NN (.il 2 (cK bs)):=.il' (bW bs);obtain⟨kind,name,lo,hi,ws,ls,vals,kids,⟨vk,vn,vs,vks⟩⟩:=x;simp only at h0;subst h0;refine aD bI func185 rfl ?_;refine Z ?_;refine bL (r':=mV ⟨[.mk vk vn vs vks],false⟩) (n':=1) (m':=[(0,.row 203 2 (cK bs))]) [(0,0)] rfl ga (.agg' (.cons (.fzR rfl rfl (.cons (Jh.same (x:=cC (.mk vk vn vs vks)) nn) .nil) rfl) ax)) gj 
theorem Kt(x:Nd)(bs:List iX)(h1:x.kind=1)(hlo : -4611686018427387904<=x.lo)(hh:x.lo<=x.hi)(hhi:x.hi<=4611686018427387904)(hsp:x.hi<x.lo+1099511627776):aJ prog [] 185 [dM x,.sl 0 0 bs.length] [(0,.row 203 2 (cK bs))] 1 λr m _=>r=mV (dN x bs)/\m=[(0,.row 203 2 (cK bs))]:=by
 obtain⟨kind,name,lo,hi,ws,ls,vals,kids,⟨vk,vn,vs,vks⟩⟩:=x;simp only at h1 hlo hh hhi hsp;subst h1;have hres:dN ⟨1,name,lo,hi,ws,ls,vals,kids,.mk vk vn vs vks⟩ bs=if 1024<=hi-lo then⟨[],true⟩ else⟨tO lo (hi+1-lo).toNat,false⟩:=rfl
 generalize dN ⟨1,name,lo,hi,ws,ls,vals,kids,.mk vk vn vs vks⟩ bs=res at hres;have hw:IntKind.i64.wrap (hi-lo)=hi-lo:=w64 rfl oq;refine aD bI func185 rfl ?_;refine Z ?_;rw[hw];refine aL (λh=>?_) (λh=>?_)
 .refine Z ?_;exact bL (r':=mV ⟨[],true⟩) (n':=1) (m':=[(0,.row 203 2 (cK bs))]) [(0,0)] rfl ga (.agg' ik) ⟨by rw[hres,Y7 (su h)],rfl⟩
 .have hlt:hi-lo<1024:=su h
  rw[Y3 om] at hres;refine Z ?_;refine bJ.ph 50 4 ?_;refine bJ.at bI (λk:Nat=>lo+k<=hi+1)
   (λk=>⟨[(2,.ptr 1 0 0),(4,.ptr 2 0 0),(5,.ptr 3 0 0),(6,.int .i64 (lo+k))],[(0,.row 203 2 (cK bs)),(1,.row 59 12 [dM ⟨1,name,lo,hi,ws,ls,vals,kids,.mk vk vn vs vks⟩]),(2,.row 203 2 [.agg [.nsl,.bool false]]),(3,.row 203 2 [.agg [.sl 4 0 (tO lo k).length,.bool false]]),(4,.row 50 4 (aQ (tO lo k)))],5,96⟩)
   (λk=>(hi+1-lo).toNat-k) 0 [(0,0),(1,1),(2,2),(3,3),(4,4)] om
   (aH _ rfl dw ⟨aM,aM,aM,⟨_,rfl,.int sq⟩,trivial⟩) ?_
  intro k hk;have hlen:=Eg lo k;refine Z ?_;refine aL (λh=>?_) (λh=>?_)
  .have hkl:lo+k<=hi:=su h
   refine Z ?_;refine aK (b8 rfl rfl (by rw[aB]) B') ?_;refine Z ?_;exact .mk (k+1) [(0,0),(1,1),(2,2),(3,3),(6,4)] om
    (aH _ rfl ⟨aF 0 (bW bs),aF 1 ai,aF 2 dQ,⟨3,_,rfl,rfl,.cons (.agg (.cons (.slE rfl (by rw[Bv];simp)) ax)) .nil⟩,⟨6,_,rfl,rfl,by rw[Bv,gW];exact .snoc rfl (.same dQ) (x7 _ _ _)⟩,trivial⟩ ⟨aM,aM,aM,RF,trivial⟩) om
  .have hke:k=(hi+1-lo).toNat:=by simp at h;omega
   refine Z ?_;exact bL (r':=mV ⟨tO lo k,false⟩) (n':=1) (m':=[(0,.row 203 2 (cK bs))]) [(0,0)] rfl ga (.agg' (.cons (.fzR rfl rfl (.same dQ) (by rw[aB])) ax)) ⟨by rw[hres,hke],rfl⟩
theorem Mg(x:Nd)(bs:List iX)(h2:x.kind=2)(hkl:x.kids.length<=65536)(hk:∀(j:Nat) (k:Int),x.kids[j]? = some k->0<=k/\k<bs.length)(hb:∀b∈bs,b.vals.length<=1024/\∀v∈b.vals,jG v) :
  aJ prog [] 185 [dM x,.sl 0 0 bs.length] [(0,.row 203 2 (cK bs))] 1 λr m _=>r=mV (dN x bs)/\m=[(0,.row 203 2 (cK bs))]:=by
 have nb:NN (.il 2 (cK bs)):=.il' (bW bs);obtain⟨kind,name,lo,hi,ws,ls,vals,kids,⟨vk,vn,vs,vks⟩⟩:=x;simp only at h2 hkl hk;subst h2;have hres:dN ⟨2,name,lo,hi,ws,ls,vals,kids,.mk vk vn vs vks⟩ bs=mN bs kids:=rfl;generalize dN ⟨2,name,lo,hi,ws,ls,vals,kids,.mk vk vn vs vks⟩ bs=res at hres;refine aD bI func185 rfl ?_;refine Z ?_;refine bJ.ph 50 4 ?_;refine bJ.at bI (λa:Nat × (List bH × Bool)=>a.1<=kids.length/\a.2=(kids.take a.1).foldl (bY bs) ([],false))
  (λa=>⟨[(1,.sl 0 0 bs.length),(2,.ptr 1 0 0),(4,.ptr 2 0 0),(5,.ptr 3 0 0),(7,.int .i64 a.1)],[(0,.row 203 2 (cK bs)),(1,.row 59 12 [dM ⟨2,name,lo,hi,ws,ls,vals,kids,.mk vk vn vs vks⟩]),(2,.row 203 2 [.agg [.nsl,.bool false]]),(3,.row 203 2 [.agg [.sl 4 0 a.2.1.length,.bool a.2.2]]),(4,.row 50 4 (aQ a.2.1))],5,96⟩)
  (λa=>kids.length-a.1) (0,[],false) [(0,0),(1,1),(2,2),(3,3),(4,4)] ⟨sq,sq⟩
  (aH _ rfl dw ⟨bd,aM,aM,aM,dz,trivial⟩) ?_
 rintro⟨k,a1,am⟩ ⟨hkk,ha⟩;simp only at hkk ha;have hbd:=wQ hb (kids.take k) ([],false) 0 sq sq;rw[<-ha] at hbd;simp only at hbd;have hlk:(kids.take k).length<=65536:=B'
 have ha1:a1.length<=67108864:=om;refine Z ?_;refine aL (λh=>?_) (λh=>?_)
 .have hlt:k<kids.length:=by rw[aN] at h;simpa using h
  have e1:(aY kids)[(k:Int).toNat]? = some (.int .i64 kids[k]):=ck
  have hg:kids[k]? = some kids[k]:=Yz hlt;have hstep:=KI (bY bs) hlt ([],false);rw[<-ha] at hstep;generalize kids[k]=q at e1 hg hstep;obtain⟨q1,q2⟩:=hk k q hg;obtain⟨qn,rfl⟩:=ZU q1;have hqn:qn<bs.length:=om;obtain⟨⟨bv,bm⟩,hbe⟩:∃b,b=bs[qn]:=cm
  have hbm:=hb _ (show (⟨bv,bm⟩:iX)∈bs by rw[hbe];exact Za hqn);simp only at hbm;have hat:dT bs qn=⟨bv,bm⟩:=by rw[hbe];simp[dT,hqn]
  have bq:Nat.blt (qn:Int).toNat bs.length=true:=Y2 B';have e2:(cK bs)[0+(qn:Int).toNat]? = some (mV ⟨bv,bm⟩):=by rw[ZP,Y1,mW,Yz hqn,<-hbe];rfl
  have hso:=Jr (a1++bv) B' (λv hv=>by
   rcases ZO.1 hv with h|h
   .exact hbd.2 v h
   .exact hbm.2 v h)
  have hun:bY bs (a1,am) qn=(fR (a1++bv),am || bm || decide (1024<(fR (a1++bv)).length)):=by simp[bY,hat]
  rw[hun] at hstep;generalize fR (a1++bv)=sv at hso hstep;refine Z ?_;refine aC e1 ?_;refine Z ?_;repeat((first|refine aK bq ?_|refine aC e2 ?_);refine Z ?_)
  refine aK (b8 rfl rfl (by rw[aB]) (by simp[aB];omega)) ?_;refine Z ?_;refine aJ.pre bI [(5,5),(0,0),(1,1),(2,2),(3,3)] (mem':=[(5,.row 203 2 [.agg [.il 4 (aQ bv),.bool bm]]),(0,.row 203 2 (cK bs)),(1,.row 59 12 [dM ⟨2,name,lo,hi,ws,ls,vals,kids,.mk vk vn vs vks⟩]),(2,.row 203 2 [.agg [.nsl,.bool false]]),(3,.row 203 2 [.agg [.junk,.bool am]])]) rfl
   ⟨aF 5 dQ,aF 0 (bW bs),aF 1 ai,aF 2 dQ,⟨3,_,rfl,rfl,.cons (.agg (.cons (.junk _) ax)) .nil⟩,trivial⟩
   (.cons (.fzR (ys:=aQ (a1++bv)) rfl rfl (.eq dQ (by simp[gR])) (by simp[aB])) .nil) ?_
  refine aJ.useNew bI hso dQ dQ ?_;cases am<;>cases bm
  all_goals
   refine Z ?_;exact .mk (k+1,sv,_) [(0,0),(1,1),(2,2),(3,3),(7,4)] ⟨by simp only;omega,hstep.symm⟩
    (aH _ rfl ⟨aF 0 (bW bs),aF 1 ai,aF 2 dQ,⟨3,_,rfl,rfl,.cons (.agg (.cons (.sl 7 4 0 _ rfl) (.cons (.bool (by simp[Zg]<;>omega)) .nil))) .nil⟩,aF 7 dQ,trivial⟩
     ⟨bd,aM,aM,aM,⟨_,rfl,.w64 sq U'⟩,trivial⟩) J'
 .have hke:k=kids.length:=by rw[aN] at h;simp at h;omega
  rw[hke,ZK] at ha;have hu:mN bs kids=if am then⟨[],true⟩ else⟨a1,false⟩:=by
   unfold mN;rw[<-ha]
  cases am with
  | true=>
   refine Z ?_;exact bL (r':=mV ⟨[],true⟩) (n':=1) (m':=[(0,.row 203 2 (cK bs))]) [(0,0)] rfl ga (.agg' ik) ⟨by rw[hres,hu,Y7 rfl],rfl⟩
  | false=>
   refine Z ?_;exact bL (r':=mV ⟨a1,false⟩) (n':=1) (m':=[(0,.row 203 2 (cK bs))]) [(0,0)] rfl ga (.agg' (.cons (.fzR rfl rfl (.same dQ) (by rw[aB])) ax)) ⟨by rw[hres,hu,Y3 sq],rfl⟩
theorem MU(x:Nd)(bs:List iX)(h2:x.kind=4)(hkl:x.kids.length<=65536)(hk:∀(j:Nat) (k:Int),x.kids[j]? = some k->0<=k/\k<bs.length)(hb:∀b∈bs,b.vals.length<=1024/\∀v∈b.vals,jG v) :
  aJ prog [] 185 [dM x,.sl 0 0 bs.length] [(0,.row 203 2 (cK bs))] 1 λr m _=>r=mV (dN x bs)/\m=[(0,.row 203 2 (cK bs))]:=by
 have nb:NN (.il 2 (cK bs)):=.il' (bW bs);obtain⟨kind,name,lo,hi,ws,ls,vals,kids,⟨vk,vn,vs,vks⟩⟩:=x;simp only at h2 hkl hk;subst h2;have hres:dN ⟨4,name,lo,hi,ws,ls,vals,kids,.mk vk vn vs vks⟩ bs=mN bs (kids.drop 1):=rfl;generalize dN ⟨4,name,lo,hi,ws,ls,vals,kids,.mk vk vn vs vks⟩ bs=res at hres;refine aD bI func185 rfl ?_;refine Z ?_;refine bJ.ph 50 4 ?_;refine bJ.at bI (λa:Nat × (List bH × Bool)=>a.1<=kids.length/\a.2=((kids.take a.1).drop 1).foldl (bY bs) ([],false))
  (λa=>⟨[(1,.sl 0 0 bs.length),(2,.ptr 1 0 0),(4,.ptr 2 0 0),(5,.ptr 3 0 0),(7,.int .i64 a.1)],[(0,.row 203 2 (cK bs)),(1,.row 59 12 [dM ⟨4,name,lo,hi,ws,ls,vals,kids,.mk vk vn vs vks⟩]),(2,.row 203 2 [.agg [.nsl,.bool false]]),(3,.row 203 2 [.agg [.sl 4 0 a.2.1.length,.bool a.2.2]]),(4,.row 50 4 (aQ a.2.1))],5,96⟩)
  (λa=>kids.length-a.1) (0,[],false) [(0,0),(1,1),(2,2),(3,3),(4,4)] ⟨sq,sq⟩
  (aH _ rfl dw ⟨bd,aM,aM,aM,dz,trivial⟩) ?_
 rintro⟨k,a1,am⟩ ⟨hkk,ha⟩;simp only at hkk ha;have hbd:=wQ hb ((kids.take k).drop 1) ([],false) 0 sq sq;rw[<-ha] at hbd;simp only at hbd;have hlk:((kids.take k).drop 1).length<=65536:=B'
 have ha1:a1.length<=67108864:=om;refine Z ?_;refine aL (λh=>?_) (λh=>?_)
 .have hlt:k<kids.length:=by rw[aN] at h;simpa using h
  have e1:(aY kids)[(k:Int).toNat]? = some (.int .i64 kids[k]):=ck
  have hg:kids[k]? = some kids[k]:=Yz hlt;refine Z ?_;refine aL (λh=>?_) (λh=>?_)
  .have hk0:k=0:=by simp at h;omega
   subst hk0;refine Z ?_;exact .mk (1,a1,am) [(0,0),(1,1),(2,2),(3,3),(4,4)] ⟨by simp only;omega,by rw[ha];cases kids<;>simp⟩
    (aH _ rfl ⟨aF 0 (bW bs),aF 1 ai,aF 2 dQ,⟨3,_,rfl,rfl,.cons (.agg (.cons (.sl 4 4 0 _ rfl) ax)) .nil⟩,aF 4 dQ,trivial⟩ ⟨bd,aM,aM,aM,dz,trivial⟩) J'
  have hk0:0<k:=by
   rcases ZF k with h'|h'
   .rw[h'] at h;simp at h
   .exact h'
  have hstep:=KV (bY bs) hlt hk0 ([],false);rw[<-ha] at hstep;generalize kids[k]=q at e1 hg hstep;obtain⟨q1,q2⟩:=hk k q hg;obtain⟨qn,rfl⟩:=ZU q1;have hqn:qn<bs.length:=om;obtain⟨⟨bv,bm⟩,hbe⟩:∃b,b=bs[qn]:=cm
  have hbm:=hb _ (show (⟨bv,bm⟩:iX)∈bs by rw[hbe];exact Za hqn);simp only at hbm;have hat:dT bs qn=⟨bv,bm⟩:=by rw[hbe];simp[dT,hqn]
  have bq:Nat.blt (qn:Int).toNat bs.length=true:=Y2 B';have e2:(cK bs)[0+(qn:Int).toNat]? = some (mV ⟨bv,bm⟩):=by rw[ZP,Y1,mW,Yz hqn,<-hbe];rfl
  have hso:=Jr (a1++bv) B' (λv hv=>by
   rcases ZO.1 hv with h|h
   .exact hbd.2 v h
   .exact hbm.2 v h)
  have hun:bY bs (a1,am) qn=(fR (a1++bv),am || bm || decide (1024<(fR (a1++bv)).length)):=by simp[bY,hat]
  rw[hun] at hstep;generalize fR (a1++bv)=sv at hso hstep;refine Z ?_;refine aC e1 ?_;refine Z ?_;repeat((first|refine aK bq ?_|refine aC e2 ?_);refine Z ?_)
  refine aK (b8 rfl rfl (by rw[aB]) (by simp[aB];omega)) ?_;refine Z ?_;refine aJ.pre bI [(5,5),(0,0),(1,1),(2,2),(3,3)] (mem':=[(5,.row 203 2 [.agg [.il 4 (aQ bv),.bool bm]]),(0,.row 203 2 (cK bs)),(1,.row 59 12 [dM ⟨4,name,lo,hi,ws,ls,vals,kids,.mk vk vn vs vks⟩]),(2,.row 203 2 [.agg [.nsl,.bool false]]),(3,.row 203 2 [.agg [.junk,.bool am]])]) rfl
   ⟨aF 5 dQ,aF 0 (bW bs),aF 1 ai,aF 2 dQ,⟨3,_,rfl,rfl,.cons (.agg (.cons (.junk _) ax)) .nil⟩,trivial⟩
   (.cons (.fzR (ys:=aQ (a1++bv)) rfl rfl (.eq dQ (by simp[gR])) (by simp[aB])) .nil) ?_
  refine aJ.useNew bI hso dQ dQ ?_;cases am<;>cases bm
  all_goals
   refine Z ?_;exact .mk (k+1,sv,_) [(0,0),(1,1),(2,2),(3,3),(7,4)] ⟨by simp only;omega,hstep.symm⟩
    (aH _ rfl ⟨aF 0 (bW bs),aF 1 ai,aF 2 dQ,⟨3,_,rfl,rfl,.cons (.agg (.cons (.sl 7 4 0 _ rfl) (.cons (.bool (by simp[Zg]<;>omega)) .nil))) .nil⟩,aF 7 dQ,trivial⟩
     ⟨bd,aM,aM,aM,⟨_,rfl,.w64 sq U'⟩,trivial⟩) J'
 .have hke:k=kids.length:=by rw[aN] at h;simp at h;omega
  rw[hke,ZK] at ha;have hu:mN bs (kids.drop 1)=if am then⟨[],true⟩ else⟨a1,false⟩:=by
   unfold mN;rw[<-ha]
  cases am with
  | true=>
   refine Z ?_;exact bL (r':=mV ⟨[],true⟩) (n':=1) (m':=[(0,.row 203 2 (cK bs))]) [(0,0)] rfl ga (.agg' ik) ⟨by rw[hres,hu,Y7 rfl],rfl⟩
  | false=>
   refine Z ?_;exact bL (r':=mV ⟨a1,false⟩) (n':=1) (m':=[(0,.row 203 2 (cK bs))]) [(0,0)] rfl ga (.agg' (.cons (.fzR rfl rfl (.same dQ) (by rw[aB])) ax)) ⟨by rw[hres,hu,Y3 sq],rfl⟩
def n9(l:List (List bH)):List AV:=l.map λr=>.il 4 (aQ r)
theorem j7(l:List (List bH)):jR (n9 l):=λa ha=>by
 obtain⟨n,_,rfl⟩:=ZW.1 ha;exact nn
theorem sC(l:List bH):∀rows:List (List bH),(iI rows l).length=rows.length*l.length
 | []=>by simp[iI]
 | r::rs=>by
  have:=sC l rs;simp only[iI,aA0,ZB,aAC,ZZ,Nat.add_mul,Z6] at this |-;omega
theorem Jv(l:List (List bH))(r:List bH):n9 (l++[r])=n9 l++[.il 4 (aQ r)]:=by simp[n9]
theorem GA(l:List (List bH)):(n9 l).length=l.length:=by simp[n9]
theorem Do{name:List UInt8}(hn:name.length<=4294967296){r:List bH}(hr:r.length<=4294967296)(ho:∀v∈r,jG v):jG (dW name r):=by
 unfold dW;split
 .exact mJ oq oq sq hr (sB ho)
 .exact mJ oq oq hn hr (sB ho)
theorem YE(x:Nd)(bs:List iX)(hname:x.name.length<=4294967296)(hkl:x.kids.length<=65536)(hk:∀(j:Nat) (k:Int),x.kids[j]? = some k->0<=k/\k<bs.length)(hb:∀b∈bs,b.vals.length<=1024/\∀v∈b.vals,jG v) :
  aJ prog [] 232 [dM x,.sl 0 0 bs.length] [(0,.row 203 2 (cK bs))] 1 λr m _=>r=mV (p9 bs x)/\m=[(0,.row 203 2 (cK bs))]:=by
 obtain⟨kind,name,lo,hi,ws,ls,vals,kids,⟨vk,vn,vs,vks⟩⟩:=x;simp only at hkl hk hname;refine aD bI func232 rfl ?_;refine Z ?_;refine bJ.at bI (λa:Nat × List (List bH)=>a.1<=kids.length/\a.2.length<=1024/\(∀r∈a.2,r.length<=a.1/\∀v∈r,jG v)/\Go.Ax.f7 bs kids [[]]=Go.Ax.f7 bs (kids.drop a.1) a.2)
  (λa=>⟨[(1,.sl 0 0 bs.length),(2,.ptr 1 0 0),(4,.ptr 2 0 0),(5,.sl 3 0 a.2.length),(6,.int .i64 a.1)],[(0,.row 203 2 (cK bs)),(1,.row 59 12 [dM ⟨kind,name,lo,hi,ws,ls,vals,kids,.mk vk vn vs vks⟩]),(2,.row 203 2 [.agg [.nsl,.bool false]]),(3,.row 48 1 (n9 a.2))],4,91⟩)
  (λa=>kids.length-a.1) (0,[[]]) [(0,0),(1,1),(2,2),(3,3)] ⟨sq,sq,sq,sq⟩
  (aH _ rfl ⟨aF 0 (bW bs),aF 1 ai,aF 2 dQ,⟨3,_,rfl,rfl,.cons (.one rfl rfl (.nil 4)) .nil⟩,trivial⟩ ⟨bd,aM,aM,⟨_,rfl,.sl 3 3 0 _ rfl⟩,dz,trivial⟩) ?_
 rintro⟨k,rows⟩ ⟨hkk,hrl,hrr,hro⟩;simp only at hkk hrl hrr hro;have hseq:p9 bs ⟨kind,name,lo,hi,ws,ls,vals,kids,.mk vk vn vs vks⟩=match Go.Ax.f7 bs kids [[]] with|none=>⟨[],true⟩|some rows=>⟨fR (rows.map (dW name)),false⟩:=rfl
 refine Z ?_;refine aL (λh=>?_) (λh=>?_)
 .have hlt:k<kids.length:=by rw[aN] at h;simpa using h
  have e1:(aY kids)[(k:Int).toNat]? = some (.int .i64 kids[k]):=ck
  have hg:kids[k]? = some kids[k]:=Yz hlt;rw[List.drop_eq_getElem_cons hlt,Go.Ax.f7] at hro;generalize kids[k]=q at e1 hg hro;obtain⟨q1,q2⟩:=hk k q hg;obtain⟨qn,rfl⟩:=ZU q1;have hqn:qn<bs.length:=om;obtain⟨⟨bv,bm⟩,hbe⟩:∃b,b=bs[qn]:=cm
  have hbm:=hb _ (show (⟨bv,bm⟩:iX)∈bs by rw[hbe];exact Za hqn);simp only at hbm;have hat:dT bs qn=⟨bv,bm⟩:=by rw[hbe];simp[dT,hqn]
  rw[hat] at hro;simp only at hro;have bq:Nat.blt (qn:Int).toNat bs.length=true:=Y2 B';have e2:(cK bs)[0+(qn:Int).toNat]? = some (mV ⟨bv,bm⟩):=by rw[ZP,Y1,mW,Yz hqn,<-hbe];rfl
  refine Z ?_;refine aC e1 ?_;refine Z ?_;repeat((first|refine aK bq ?_|refine aC e2 ?_);refine Z ?_)
  cases bm with
  | true=>
   refine Z ?_;exact bL (r':=mV ⟨[],true⟩) (n':=1) (m':=[(0,.row 203 2 (cK bs))]) [(0,0)] rfl ga (.agg' ik) ⟨by rw[hseq,hro,Y7 (.inl rfl)],rfl⟩
  | false=>
   refine Z ?_;have hmul:IntKind.i64.wrap ((rows.length:Int)*((aQ bv).length:Nat))=((rows.length*bv.length:Nat):Int):=by
    have hm:rows.length*bv.length<=1024*1024:=Z7 hrl hbm.1;rw[aB];exact w64 (by push_cast;rfl) oq
   rw[hmul];refine aL (λh=>?_) (λh=>?_)
   .refine Z ?_;exact bL (r':=mV ⟨[],true⟩) (n':=1) (m':=[(0,.row 203 2 (cK bs))]) [(0,0)] rfl ga (.agg' ik) ⟨by rw[hseq,hro,Y7 (.inr (by simp only[gt_iff_lt,Zc] at h;omega))],rfl⟩
   .have hle:rows.length*bv.length<=1024:=by simp only[gt_iff_lt,aAZ] at h;omega
    rw[Y3 B'] at hro;refine Z ?_;refine bJ.ph 48 1 ?_;refine bJ.at bI (λi:Nat=>i<=rows.length)
     (λi=>⟨[(1,.sl 0 0 bs.length),(2,.ptr 1 0 0),(4,.ptr 2 0 0),(5,.sl 3 0 rows.length),(6,.int .i64 k),(7,.ptr 4 0 0),(8,.sl 5 0 (iI (rows.take i) bv).length),(9,.int .i64 i)],[(0,.row 203 2 (cK bs)),(1,.row 59 12 [dM ⟨kind,name,lo,hi,ws,ls,vals,kids,.mk vk vn vs vks⟩]),(2,.row 203 2 [.agg [.nsl,.bool false]]),(3,.row 48 1 (n9 rows)),(4,.row 203 2 [mV ⟨bv,false⟩]),(5,.row 48 1 (n9 (iI (rows.take i) bv)))],6,91⟩)
     (λi=>rows.length-i) 0 [(0,0),(1,1),(2,2),(3,3),(4,4),(5,5)] sq
     (aH _ rfl ⟨aF 0 (bW bs),aF 1 ai,aF 2 dQ,aF 3 (j7 _),aF 4 (.cons (oQ _) .nil),⟨5,_,rfl,rfl,.nil⟩,trivial⟩ ⟨bd,aM,aM,⟨_,rfl,.sl 3 3 0 _ rfl⟩,dz,aM,⟨_,rfl,.nslk 5 5 _ rfl rfl⟩,dz,trivial⟩) ?_
    intro i hi0;refine Z ?_;refine aL (λh=>?_) (λh=>?_)
    .have hir:i<rows.length:=su h
     obtain⟨rw,hrw⟩:∃rw,rw=rows[i]:=cm
     have hrl2:=(hrr rw (by rw[hrw];exact Za hir)).1;have e3:(n9 rows)[0+(i:Int).toNat]? = some (.il 4 (aQ rw)):=by rw[ZP,Y1,n9,Zx,Yz hir,hrw];rfl
     have b3:Nat.blt (i:Int).toNat rows.length=true:=Y2 B';refine Z ?_;refine bJ.at bI (λj:Nat=>j<=bv.length)
      (λj=>⟨[(1,.sl 0 0 bs.length),(2,.ptr 1 0 0),(4,.ptr 2 0 0),(5,.sl 3 0 rows.length),(6,.int .i64 k),(7,.ptr 4 0 0),(8,.sl 5 0 (iI (rows.take i) bv++(bv.take j).map λv=>rw++[v]).length),(9,.int .i64 i),(10,.int .i64 j)],[(0,.row 203 2 (cK bs)),(1,.row 59 12 [dM ⟨kind,name,lo,hi,ws,ls,vals,kids,.mk vk vn vs vks⟩]),(2,.row 203 2 [.agg [.nsl,.bool false]]),(3,.row 48 1 (n9 rows)),(4,.row 203 2 [mV ⟨bv,false⟩]),(5,.row 48 1 (n9 (iI (rows.take i) bv++(bv.take j).map λv=>rw++[v])))],6,91⟩)
      (λj=>bv.length-j) 0 [(0,0),(1,1),(2,2),(3,3),(4,4),(5,5)] sq
      (aH _ rfl ⟨aF 0 (bW bs),aF 1 ai,aF 2 dQ,aF 3 (j7 _),aF 4 (.cons (oQ _) .nil),⟨5,_,rfl,rfl,.eq (j7 _) sq⟩,trivial⟩ ⟨bd,aM,aM,⟨_,rfl,.sl 3 3 0 _ rfl⟩,dz,aM,⟨_,rfl,.slE rfl sq⟩,dz,dz,trivial⟩) ?_
     intro j hj;have hX:(iI (rows.take i) bv).length<=1048576:=by
      rw[sC];exact Zk (Z7 (show (rows.take i).length<=1024 by simp;omega) hbm.1) om
     refine Z ?_;refine aL (λh=>?_) (λh=>?_)
     .have hjl:j<bv.length:=Ma h;obtain⟨p1,p2,p3,p4,pm,pg,pe,ep⟩:=dU (l:=bv) (k:=j) hjl;have hL:iI (rows.take i) bv++((bv.take (j+1)).map λv=>rw++[v])=(iI (rows.take i) bv++(bv.take j).map λv=>rw++[v])++[rw++[.mk p1 p2 p3 p4]]:=by
       rw[ZE hjl,pe];simp
      refine Z ?_;repeat((first|refine aK b3 ?_|refine aC e3 ?_);refine Z ?_)
      refine aK (CX rfl gr) ?_;refine Z ?_;refine aC ep ?_;refine Z ?_;refine aK (b8 rfl rfl sq (by simp[aB];omega)) ?_;refine Z ?_;refine aK (b8 rfl rfl (by rw[GA]) B') ?_;refine Z ?_;exact .mk (j+1) [(0,0),(1,1),(2,2),(3,3),(4,4),(10,5)] om
       (aH _ rfl ⟨aF 0 (bW bs),aF 1 ai,aF 2 dQ,aF 3 (j7 _),aF 4 (.cons (oQ _) .nil),⟨10,_,rfl,rfl,by rw[hL,Jv];exact .snoc rfl (.same (j7 _)) (.one rfl rfl (.fzR rfl rfl (.eq dQ (by rw[gW];rfl)) (by simp[aB])))⟩,trivial⟩ ⟨bd,aM,aM,⟨_,rfl,.sl 3 3 0 _ rfl⟩,dz,aM,⟨_,rfl,.slE rfl (by rw[hL];simp only[ZB];rfl)⟩,dz,RF,trivial⟩) om
     .have hje:j=bv.length:=by have:bv.length<=j:=MC h;omega
      refine Z ?_;exact .mk (i+1) [(0,0),(1,1),(2,2),(3,3),(4,4),(5,5)] om
       (aH _ rfl ⟨aF 0 (bW bs),aF 1 ai,aF 2 dQ,aF 3 (j7 _),aF 4 (.cons (oQ _) .nil),⟨5,_,rfl,rfl,.eq (j7 _) (by rw[hje,ZK,ZE hir,<-hrw];simp[iI])⟩,trivial⟩ ⟨bd,aM,aM,⟨_,rfl,.sl 3 3 0 _ rfl⟩,dz,aM,⟨_,rfl,.slE rfl (by rw[hje,ZK,ZE hir,<-hrw];simp[iI])⟩,RF,trivial⟩) om
    .have hie:i=rows.length:=by simp at h;omega
     have hmem:∀r∈iI rows bv,r.length<=k+1/\∀v∈r,jG v:=by
      intro r hr;simp only[iI,aB7,ZW] at hr;obtain⟨r',hr',v,hv,rfl⟩:=hr;have:=hrr r' hr';refine⟨by simp;omega,λu hu=>?_⟩;rcases ZO.1 hu with hu|hu
      .exact this.2 u hu
      .simp at hu;rw[hu];exact hbm.2 v hv
     refine Z ?_;exact .mk (k+1,iI rows bv) [(0,0),(1,1),(2,2),(5,3)] ⟨by simp only;omega,by rw[sC];exact hle,hmem,hro⟩
      (aH _ rfl ⟨aF 0 (bW bs),aF 1 ai,aF 2 dQ,⟨5,_,rfl,rfl,.eq (j7 _) (by rw[hie,ZK])⟩,trivial⟩ ⟨bd,aM,aM,⟨_,rfl,.slE rfl (by rw[hie,ZK])⟩,⟨_,rfl,.w64 sq U'⟩,trivial⟩) J'
 .have hke:k=kids.length:=by rw[aN] at h;simp at h;omega
  rw[hke,aAn,Go.Ax.f7] at hro;refine Z ?_;refine bJ.ph 50 4 ?_;refine bJ.at bI (λi:Nat=>i<=rows.length)
   (λi=>⟨[(2,.ptr 1 0 0),(4,.ptr 2 0 0),(5,.sl 3 0 rows.length),(12,.sl 4 0 ((rows.take i).map (dW name)).length),(13,.int .i64 i)],[(0,.row 203 2 (cK bs)),(1,.row 59 12 [dM ⟨kind,name,lo,hi,ws,ls,vals,kids,.mk vk vn vs vks⟩]),(2,.row 203 2 [.agg [.nsl,.bool false]]),(3,.row 48 1 (n9 rows)),(4,.row 50 4 (aQ ((rows.take i).map (dW name))))],5,91⟩)
   (λi=>rows.length-i) 0 [(0,0),(1,1),(2,2),(3,3),(4,4)] sq
   (aH _ rfl ⟨aF 0 (bW bs),aF 1 ai,aF 2 dQ,aF 3 (j7 _),aF 4 .nil,trivial⟩ ⟨aM,aM,⟨_,rfl,.sl 3 3 0 _ rfl⟩,⟨_,rfl,.nslk 4 4 _ rfl rfl⟩,dz,trivial⟩) ?_
  intro i hi0;refine Z ?_;refine aL (λh=>?_) (λh=>?_)
  .have hir:i<rows.length:=su h
   obtain⟨rw,hrw⟩:∃rw,rw=rows[i]:=cm
   have e3:(n9 rows)[0+(i:Int).toNat]? = some (.il 4 (aQ rw)):=by rw[ZP,Y1,n9,Zx,Yz hir,hrw];rfl
   have b3:Nat.blt (i:Int).toNat rows.length=true:=Y2 B';have hM:=Ty ⟨kind,name,lo,hi,ws,ls,vals,kids,.mk vk vn vs vks⟩ rw;have hL:(rows.take (i+1)).map (dW name)=(rows.take i).map (dW name)++[dW name rw]:=by rw[ZE hir,<-hrw];simp
   simp only at hM;obtain⟨⟨m1,m2,m3,m4⟩,hmv⟩:∃mv,mv=dW name rw:=cm
   rw[<-hmv] at hM hL;refine Z ?_;repeat((first|refine bK ?_|refine aK b3 ?_|refine aC e3 ?_);refine Z ?_)
   refine hM.go ?_ (.cons (bP ⟨kind,name,lo,hi,ws,ls,vals,kids,.mk vk vn vs vks⟩) dQ);refine Z ?_;refine aK (b8 rfl rfl (by rw[aB]) B') ?_;refine Z ?_;repeat((first|refine bK ?_|refine aK b3 ?_|refine aC e3 ?_);refine Z ?_)
   exact .mk (i+1) [(0,0),(1,1),(2,2),(3,3),(15,4)] om
    (aH _ rfl ⟨aF 0 (bW bs),aF 1 ai,aF 2 dQ,aF 3 (j7 _),⟨15,_,rfl,rfl,.eq dQ (by rw[hL,gW];rfl)⟩,trivial⟩ ⟨aM,aM,⟨_,rfl,.sl 3 3 0 _ rfl⟩,⟨_,rfl,.slE rfl (by rw[hL];simp)⟩,RF,trivial⟩) om
  .have hie:i=rows.length:=by simp at h;omega
   rw[hie,ZK];have hmo:∀v∈rows.map (dW name),jG v:=by
    intro v hv;obtain⟨r,hr,rfl⟩:=ZW.1 hv;have:=hrr r hr;exact Do hname om this.2
   have hS:=Uy (rows.map (dW name)) B' hmo;have hseq2:p9 bs ⟨kind,name,lo,hi,ws,ls,vals,kids,.mk vk vn vs vks⟩=⟨fR (rows.map (dW name)),false⟩:=by rw[hseq,hro]
   rw[hseq2];generalize rows.map (dW name)=mv at hS |-;generalize fR mv=sv at hS |-;refine Z ?_;refine aJ.pre bI [(0,0),(1,1),(2,2),(3,3)] (mem':=[(0,.row 203 2 (cK bs)),(1,.row 59 12 [dM ⟨kind,name,lo,hi,ws,ls,vals,kids,.mk vk vn vs vks⟩]),(2,.row 203 2 [.agg [.nsl,.bool false]]),(3,.row 48 1 (n9 rows))]) (args':=[.il 4 (aQ mv)]) rfl
    ⟨aF 0 (bW bs),aF 1 ai,aF 2 dQ,aF 3 (j7 _),trivial⟩ (.cons (.fz' rfl rfl gr (by rw[ZT];exact ZD gr) dQ) .nil) ?_
   refine hS.go ?_;refine Z ?_;exact bL (r':=mV ⟨sv,false⟩) (n':=1) (m':=[(0,.row 203 2 (cK bs))]) [(0,0)] rfl ga (.same _ (oQ ⟨sv,false⟩)) gj 
theorem PO(x:Nd)(bs:List iX)(h3:x.kind=3)(hname:x.name.length<=4294967296)(hkl:x.kids.length<=65536)(hk:∀(j:Nat) (k:Int),x.kids[j]? = some k->0<=k/\k<bs.length)(hb:∀b∈bs,b.vals.length<=1024/\∀v∈b.vals,jG v) :
  aJ prog [] 185 [dM x,.sl 0 0 bs.length] [(0,.row 203 2 (cK bs))] 1 λr m _=>r=mV (dN x bs)/\m=[(0,.row 203 2 (cK bs))]:=by
 have hS:=YE x bs hname hkl hk hb;have e:dN x bs=p9 bs x:=by unfold dN;rw[Y3 om,Y3 om,Y7 h3]
 rw[e];generalize p9 bs x=q at hS |-;obtain⟨sv,sm⟩:=q;have hnn:=bP x;obtain⟨kind,name,lo,hi,ws,ls,vals,kids,⟨vk,vn,vs,vks⟩⟩:=x;simp only at h3;subst h3;refine aD bI func185 rfl ?_;refine Z ?_;refine aJ.use1 bI hS 0 rfl (bW bs) (.cons (.same _ hnn) dm) ?_;rintro r m n ⟨rfl,rfl⟩;refine⟨_,rfl,oQ _,bW bs, ?_⟩;refine Z ?_;exact bL (r':=mV ⟨sv,sm⟩) (n':=1) (m':=[(0,.row 203 2 (cK bs))]) [(0,0)] rfl ga (.same _ (oQ ⟨sv,sm⟩)) gj 
theorem WX(i:Nat)(x:Nd)(bs:List iX)(hx:lJ i x)(hl:i=bs.length)(hb:F6 bs) :
  aJ prog [] 185 [dM x,.sl 0 0 bs.length] [(0,.row 203 2 (cK bs))] 1 λr m _=>r=mV (dN x bs)/\m=[(0,.row 203 2 (cK bs))]:=by
 subst hl;have hk:=hx.kids;have hn:=cE hx.num;rcases(show x.kind=0\/x.kind=1\/x.kind=2\/x.kind=3\/x.kind=4 by have:=hx.kind;omega) with h|h|h|h|h
 .exact NM x bs h
 .exact Kt x bs h hn.2.1 hn.1 hn.2.2.1 hn.2.2.2
 .exact Mg x bs h hx.klen hk hb
 .exact PO x bs h hx.ok.name hx.klen hk hb
 .exact MU x bs h hx.klen hk hb
abbrev tM(ns:List Nd):aR:=[(0,.row 59 12 (bG ns))]
theorem JG{l:List Nd}{k n:Nat}(h:k<l.length)(hn:l.length=n):∃x,l[k]? = some x/\l[k]=x/\(bG l)[0+(k:Int).toNat]? = some (dM x)/\Nat.blt (k:Int).toNat n=true:=
 ⟨l[k],Yz h,rfl,by simp[o8,Yz h],Y2 B'⟩
theorem UF(ns:List Nd)(n:Nat)(hn:n<=ns.length)(hl:ns.length<=100000)(hg:∀(i:Nat) (x:Nd),i<n->ns[i]? = some x->lJ i x) :
  aJ prog [] 117 [.agg [.sl 0 0 ns.length],.int .i64 n] (tM ns) 1 λr m k=>r = .sl 1 0 n/\m=[(0,.row 59 12 (bG ns)),(1,.row 203 2 (cK (aS (ns.take n))))]/\k=2:=by
 refine aD bI func117 rfl ?_;refine Z ?_;refine bJ.ph 203 2 ?_;refine bJ.at bI (λi:Nat=>i<=n)
  (λi=>⟨[(1,.int .i64 n),(2,.ptr 1 0 0),(5,.sl 2 0 i),(6,.int .i64 i)],[(0,.row 59 12 (bG ns)),(1,.row 25 1 [.agg [.sl 0 0 ns.length]]),(2,.row 203 2 (cK (aS (ns.take i))))],3,23⟩)
  (λi=>n-i) 0 [(0,0),(1,1),(2,2)] sq
  (aH _ rfl ⟨aF 0 (bB _),⟨1,_,rfl,rfl,.cons (.agg dm) .nil⟩,aF 2 .nil,trivial⟩ ⟨aG,aM,⟨_,rfl,.nslk 2 2 _ rfl rfl⟩,aG,trivial⟩) ?_
 intro i hi;refine Z ?_;refine aL (λh=>?_) (λh=>?_)
 .have hin:i<n:=by simp at h;omega
  obtain⟨x,hx1,hx2,ex,bx⟩:=JG (l:=ns) (k:=i) (n:=ns.length) om rfl;have hgx:=hg i x hin hx1;have htl:(aS (ns.take i)).length=i:=by rw[gP];simp;omega
  have hL:=WX i x (aS (ns.take i)) hgx htl.symm (oB _ λj y hy=>by
   have hj:=(Y4.1 hy).1;rw[Zb,Y7 (by simp at hj;omega)] at hy;exact hg j y (by simp at hj;omega) hy)
  have hnx:aS (ns.take (i+1))=aS (ns.take i)++[dN x (aS (ns.take i))]:=by rw[ZE om,hx2,jP]
  have hxn:=bP x;have hxc:(dM x).cells.length=12:=by obtain⟨kind,name,lo,hi,ws,ls,vals,kids,⟨vk,vn,vs,vks⟩⟩:=x;rfl
  generalize dN x (aS (ns.take i))=nl at hL hnx;obtain⟨bs,hbs⟩:∃bs,bs=aS (ns.take i):=cm
  rw[<-hbs] at hL hnx htl |-;obtain⟨kind,name,lo,hi,ws,ls,vals,kids,⟨vk,vn,vs,vks⟩⟩:=x;refine Z ?_;repeat((first|refine aK bx ?_|refine aC ex ?_);refine Z ?_)
  refine aJ.use1 bI hL 2 rfl (bW bs) (.cons (.same _ hxn) (.cons (.slE rfl htl.symm) .nil)) ?_;rintro r m k ⟨rfl,rfl⟩;refine⟨_,rfl,oQ _,bW bs, ?_⟩;refine Z ?_;refine aK (b8 rfl rfl (by rw[sU,htl]) B') ?_;refine Z ?_;exact .mk (i+1) [(0,0),(1,1),(4,2)] om
   (aH _ rfl ⟨aF 0 (bB _),⟨1,_,rfl,rfl,.cons (.agg dm) .nil⟩,⟨4,_,rfl,rfl,.eq (bW _) (by rw[hnx];simp[cK])⟩,trivial⟩ ⟨aG,aM,⟨_,rfl,.slE rfl sq⟩,RF,trivial⟩) om
 .have hin:i=n:=by simp at h;omega
  subst hin;refine Z ?_;exact bL (r':=.sl 1 0 i) (n':=2) (m':=[(0,.row 59 12 (bG ns)),(1,.row 203 2 (cK (aS (ns.take i))))]) [(0,0),(2,1)] rfl ⟨aF 0 (bB _),aF 2 (bW _),trivial⟩ (.sl 2 1 0 _ rfl) C' 
theorem NG{ns:List Nd}{i:Nat}(hi:i<ns.length):(aS (ns.take (i+1)))[i]? = some (dT (aS (ns.take (i+1))) i):=by
 have:i<(aS (ns.take (i+1))).length:=by rw[gP];simp;omega
 unfold dT;rw[Y0,Y1,Yz this];rfl
theorem LL(ns:List Nd)(i:Nat)(hi:i<ns.length)(hl:ns.length<=100000)(hg:∀(j:Nat) (x:Nd),j<i+1->ns[j]? = some x->lJ j x) :
  aJ prog [] 55 [.agg [.sl 0 0 ns.length],.int .i64 i] (tM ns) 1 λr m _=>r = .tup [.il 4 (aQ (dT (aS (ns.take (i+1))) i).vals),.bool (!(dT (aS (ns.take (i+1))) i).many)]/\m=tM ns:=by
 have hL:=UF ns (i+1) om hl hg;have hw:IntKind.i64.wrap ((i:Int)+1)=((i+1:Nat):Int):=w64 om oq;have hat:=NG hi;have hlen:(aS (ns.take (i+1))).length=i+1:=by rw[gP];simp;omega
 generalize dT (aS (ns.take (i+1))) i=b at hat |-;generalize aS (ns.take (i+1))=bs at hL hat hlen;obtain⟨bv,bm⟩:=b;have e2:(cK bs)[0+((i:Nat):Int).toNat]? = some (mV ⟨bv,bm⟩):=by rw[ZP,Y1,mW,hat];rfl
 have b2:Nat.blt ((i:Nat):Int).toNat (i+1)=true:=Y2 sq;refine aD bI func55 rfl ?_;refine Z ?_;rw[hw];refine aJ.useN bI [(0,0)] hL rfl (.cons (.agg' dm) ax) ⟨aF 0 (bB _),trivial⟩ rfl ?_;rintro r m k ⟨rfl,rfl,rfl⟩;refine⟨[(0,0),(1,2)],.sl 2 0 (i+1),[(0,.row 59 12 (bG ns)),(2,.row 203 2 (cK bs))],3,.sl 1 2 0 _ rfl,⟨aF 0 (bB _),aF 1 (bW _),trivial⟩,rfl, ?_⟩;refine Z ?_;repeat((first|refine bK ?_|refine aK b2 ?_|refine aC e2 ?_);refine Z ?_)
 exact bL (r':=.tup [.il 4 (aQ bv),.bool (!bm)]) (n':=1) (m':=tM ns) [(0,0)] rfl ⟨aF 0 (bB _),trivial⟩ cc gj 
theorem Up(ns:List Nd)(x:Nd)(i:Nat)(hi:i<=ns.length)(hl:ns.length<=100000)(hg:∀(j:Nat) (x:Nd),j<i->ns[j]? = some x->lJ j x)(hx:tY x)(hk0:0<x.kids.length)(hk:∀(j:Nat) (k:Int),x.kids[j]? = some k->0<=k/\k<i) :
  aJ prog [] 59 [.agg [.sl 0 0 ns.length],dM x] (tM ns) 1 λr m _=>r = .int .i64 (jM ns x)/\m=tM ns:=by
 obtain⟨q,hq⟩:∃q,x.kids[0]? = some q:=⟨x.kids[0],Yz hk0⟩
 obtain⟨q1,q2⟩:=hk 0 q hq;obtain⟨qn,rfl⟩:=ZU q1;have hgd:x.kids.getD 0 0=qn:=by rw[Y0,hq];rfl
 have hV:=LL ns qn om hl λj y hj hy=>hg j y om hy
 have hbl:=Go.Ax.t7 (oB (ns.take (qn+1)) λj y hy=>hg j y (by have:=(mG hy).2;omega) (mG hy).1) qn;have hbe:jM ns x=if (dT (aS (ns.take (qn+1))) qn).many=true then 4 else if eO (dT (aS (ns.take (qn+1))) qn).vals x.values=true then 0 else 1:=by
  unfold jM;simp only[hgd,Y1]
 rw[hbe];generalize dT (aS (ns.take (qn+1))) qn=b at hV hbl |-;obtain⟨bv,bm⟩:=b;simp only at hV hbl |-;have hS:=RA bv x.values om hbl.2;generalize eO bv x.values=sm at hS |-;have ek:(aY x.kids)[(0:Int).toNat]? = some (.int .i64 (qn:Int)):=by rw[bU];simp[hq]
 obtain⟨kind,name,lo,hi',ws,ls,vals,kids,⟨vk,vn,vs,vks⟩⟩:=x;simp only at hS ek;refine aD bI func59 rfl ?_;refine Z ?_;repeat((first|refine bK ?_|refine aC ek ?_);refine Z ?_)
 refine aJ.use1 bI hV 0 rfl (bB _) (.cons (.agg' dm) ax) ?_;rintro r m k ⟨rfl,rfl⟩;refine⟨_,rfl,nn,bB _, ?_⟩;cases bm with
 | true=>
  refine Z ?_;repeat((first|refine bK ?_|refine aC ek ?_);refine Z ?_)
  exact bL (r':=.int .i64 4) (n':=1) (m':=tM ns) [(0,0)] rfl ⟨aF 0 (bB _),trivial⟩ cc gj
 | false=>
  refine Z ?_;repeat((first|refine bK ?_|refine aC ek ?_);refine Z ?_)
  refine hS.go ?_;cases sm with
  | true=>
   refine Z ?_;exact bL (r':=.int .i64 0) (n':=1) (m':=tM ns) [(0,0)] rfl ⟨aF 0 (bB _),trivial⟩ cc gj
  | false=>
   refine Z ?_;exact bL (r':=.int .i64 1) (n':=1) (m':=tM ns) [(0,0)] rfl ⟨aF 0 (bB _),trivial⟩ cc gj 
theorem U7(ns:List Nd)(hl:ns.length<=100000)(ho:∀x∈ns,tY x/\x.values.length<=4294967290) :
  aJ prog [] 22 [.agg [.sl 0 0 ns.length]] (tM ns) 1 λr m _=>r = .int .i64 (eX ns)/\m=tM ns:=by
 have hfin:∀(e:Int) (mem:aR) (nx:Nat),lk mem 0=some (.row 59 12 (bG ns))->e=eX ns->oC 1 (λr m (_:Nat)=>r = .int .i64 (eX ns)/\m=tM ns) (.int .i64 e) mem nx:=by
  intro e mem nx h0 he;exact bL (r':=.int .i64 e) (n':=1) (m':=tM ns) [(0,0)] rfl ⟨⟨0,_,rfl,h0,.same (bB _)⟩,trivial⟩ cc ⟨by rw[he],rfl⟩
 refine aD bI func22 rfl ?_;refine Z ?_;refine aL (λh=>?_) (λh=>?_)
 .have h1:4096<ns.length:=by simp at h;omega
  refine Z ?_;exact hfin _ _ _ rfl (by unfold eX;rw[Y7 h1])
 .have h1:¬4096<ns.length:=by simp at h;omega
  have hvt:eX ns=cP [] ns:=by unfold eX;rw[Y3 h1]
  refine Z ?_;refine bJ.ph 3 1 ?_;refine bJ.ph 3 1 ?_;refine bJ.at bI (λi:Nat=>i<=ns.length/\cP [] (ns.take i)=0)
   (λi=>⟨[(1,.ptr 1 0 0),(3,.sl 2 0 i),(4,.sl 3 0 i),(5,.int .i64 i)],[(0,.row 59 12 (bG ns)),(1,.row 25 1 [.agg [.sl 0 0 ns.length]]),(2,.row 3 1 (aY (bD (ns.take i)))),(3,.row 3 1 (aY (dD (ns.take i))))],4,57⟩)
   (λi=>ns.length-i) 0 [(0,0),(1,1),(2,2),(3,3)] ⟨sq,by simp[cP]⟩
   (aH _ rfl ⟨aF 0 (bB _),⟨1,_,rfl,rfl,.cons (.agg dm) .nil⟩,aF 2 .nil,aF 3 .nil,trivial⟩ ⟨aM,⟨_,rfl,.nslk 2 2 _ rfl rfl⟩,⟨_,rfl,.nslk 3 3 _ rfl rfl⟩,aG,trivial⟩) ?_
  rintro i ⟨hi,hv0⟩;refine Z ?_;refine aL (λh=>?_) (λh=>?_)
  .have hin:i<ns.length:=by simp at h;omega
   obtain⟨x,hx1,hx2,ex,bx⟩:=JG (l:=ns) (k:=i) (n:=ns.length) hin rfl;have hxm:=Y5 hx1;obtain⟨hxo,hxv⟩:=ho x hxm;have hsplit:ns=ns.take i++x::ns.drop (i+1):=by rw[<-hx2,<-List.drop_eq_getElem_cons hin,List.take_append_drop]
   have hti:(ns.take i).length=i:=B'
   have htn:ns.take (i+1)=ns.take i++[x]:=by rw[ZE hin,hx2]
   have hgood:=nI (ns.take i) (λy hy=>(ho y (Ze hy)).1) hv0;obtain⟨hls,hss⟩:=jW (ns.take i) hv0;have hll:(bD (ns.take i)).length=i:=by rw[gI,hti]
   have hsl:(dD (ns.take i)).length=i:=by rw[lW,hti]
   have hstop:=λhs=>Bk (l:=ns.take i) (r:=ns.drop (i+1)) (x:=x) hv0 hs
   rw[<-hsplit] at hstop;have hgo:=iG [] (ns.take i) x hv0;rw[Zp,<-htn] at hgo;have hN:=Wi i x om hxo hxv;have hlt:=i7 (ns.take i) x;have hst:=nJ (ns.take i) x;rw[<-htn] at hlt hst;have hse:iY (ns.take i) (bD (ns.take i)) (dD (ns.take i)) x=if g9 i x≠0 then g9 i x else if 256<Go.Ax.f8 (bD (ns.take i)) x\/1024<mF (dD (ns.take i)) x then 4 else if x.kind=4 then jM (ns.take i) x else 0:=by
    unfold iY;rw[hti]
   have hbnd:(0<x.kids.length/\∀(j:Nat) (k:Int),x.kids[j]? = some k->0<=k/\k<i)->jM (ns.take i) x=jM ns x:=by
    rintro⟨h0,hk⟩;obtain⟨q,hq⟩:∃q,x.kids[0]? = some q:=⟨x.kids[0],Yz h0⟩
    obtain⟨q1,q2⟩:=hk 0 q hq;have hgd:x.kids.getD 0 0=q:=by rw[Y0,hq];rfl
    unfold jM;simp only[hgd];rw[aBb,Z5 om]
   have hxn:=bP x;obtain⟨ne,hne⟩:∃ne,ne=g9 i x:=cm
   rw[<-hne] at hN hse;by_cases n0:ne=0
   .subst n0;have hok:=nU hne.symm;have h4:4<=x.kind->0<x.kids.length:=λh=>by have:=hok.bind (by have:=hok.kind;omega);omega
    have hL:=O7 (bD (ns.take i)) x hxo om hls (by rw[hll];exact hok.kids) h4 hok.kind;have hS:=UE (dD (ns.take i)) x hxo om hss (by rw[hsl];exact hok.kids) h4 hok.kind;have hB:=Up ns x i om hl (λj y hj hy=>hgood j y (by rw[Zb,Y7 hj];exact hy)) hxo;rw[Y3 sq] at hse;generalize bD (ns.take i)=lsI at hL hll hlt hse hstop hgo hls |-;generalize dD (ns.take i)=ssI at hS hsl hst hse hstop hgo hss |-;generalize Go.Ax.f8 lsI x=ln at hL hlt hse;generalize mF ssI x=sn at hS hst hse;obtain⟨kind,name,lo,hi',ws,ls,vals,kids,⟨vk,vn,vs,vks⟩⟩:=x;simp only at hse h4 hB hbnd hok;refine Z ?_;repeat((first|refine aK bx ?_|refine aC ex ?_);refine Z ?_)
    refine hN.go ?_ (.cons (.int _ _) (.cons hxn .nil));refine Z ?_;refine aJ.useApp bI hL 2 rfl (aW _) (.cons (.slE rfl hll.symm) (.cons (.same _ hxn) .nil)) ?_;rintro len ys ⟨rfl,rfl⟩;refine Z ?_;refine aJ.useApp bI hS 3 rfl (aW _) (.cons (.slE rfl hsl.symm) (.cons (.same _ hxn) .nil)) ?_;rintro len ys ⟨rfl,rfl⟩;have el:(aY (lsI++[ln]))[0+((i:Nat):Int).toNat]? = some (.int .i64 ln):=by simp[aY,hll]
    have bl:Nat.blt ((i:Nat):Int).toNat (lsI.length+1)=true:=Y2 B';have es:(aY (ssI++[sn]))[0+((i:Nat):Int).toNat]? = some (.int .i64 sn):=by simp[aY,hsl]
    have bs':Nat.blt ((i:Nat):Int).toNat (ssI.length+1)=true:=Y2 B';refine Z ?_;repeat((first|refine aK bl ?_|refine aC el ?_);refine Z ?_)
    refine aL (λh2=>?_) (λh2=>?_)
    .have h3:256<ln:=su h2
     rw[h2];rw[Y7 (.inl h3)] at hse;have hres:=hstop (by rw[hse];omega);refine Z ?_;exact hfin _ _ _ rfl (by rw[hvt,hres,hse])
    .have h3:¬256<ln:=su h2
     rw[h2];refine Z ?_;repeat((first|refine aK bs' ?_|refine aC es ?_);refine Z ?_)
     refine aL (λh4'=>?_) (λh4'=>?_)
     .have h5:1024<sn:=su h4'
      rw[h4'];rw[Y7 (.inr h5)] at hse;have hres:=hstop (by rw[hse];omega);refine Z ?_;exact hfin _ _ _ rfl (by rw[hvt,hres,hse])
     .have h5:¬1024<sn:=su h4'
      rw[h4'];rw[Y3 om] at hse;by_cases k4:kind=4
      .rw[Y7 k4] at hse;have h40:=h4 om;have hB:=hB h40 hok.kids;rw[hbnd ⟨h40,hok.kids⟩] at hse;generalize jM ns ⟨kind,name,lo,hi',ws,ls,vals,kids,.mk vk vn vs vks⟩=be at hB hse;subst k4;refine Z ?_;refine aJ.use1 bI hB 0 rfl (bB _) (.cons (.agg' dm) (.cons (.same _ hxn) .nil)) ?_;rintro r m k ⟨rfl,rfl⟩;refine⟨_,rfl,nn,bB _, ?_⟩;by_cases be0:be=0
       .subst be0;rw[hse] at hgo;refine Z ?_;exact .mk (i+1) [(0,0),(1,1),(5,2),(6,3)] ⟨om,hgo⟩
         (aH _ rfl ⟨aF 0 (bB _),⟨1,_,rfl,rfl,.cons (.agg dm) .nil⟩,⟨5,_,rfl,rfl,.eq (aW _) (by rw[hlt])⟩,⟨6,_,rfl,rfl,.eq (aW _) (by rw[hst])⟩,trivial⟩ ⟨aM,⟨_,rfl,.slE rfl (by rw[hll])⟩,⟨_,rfl,.slE rfl (by rw[hsl])⟩,RF,trivial⟩) om
       .have d5:(be != 0)=true:=su be0
        have hres:=hstop (by rw[hse];exact be0);refine Z ?_;rw[d5];refine Z ?_;exact hfin _ _ _ rfl (by rw[hvt,hres,hse])
      .rw[Y3 k4] at hse;have d4:(kind == 4)=false:=su k4
       rw[hse] at hgo;refine Z ?_;rw[d4];refine Z ?_;exact .mk (i+1) [(0,0),(1,1),(5,2),(6,3)] ⟨om,hgo⟩
        (aH _ rfl ⟨aF 0 (bB _),⟨1,_,rfl,rfl,.cons (.agg dm) .nil⟩,⟨5,_,rfl,rfl,.eq (aW _) (by rw[hlt])⟩,⟨6,_,rfl,rfl,.eq (aW _) (by rw[hst])⟩,trivial⟩ ⟨aM,⟨_,rfl,.slE rfl (by rw[hll])⟩,⟨_,rfl,.slE rfl (by rw[hsl])⟩,RF,trivial⟩) om
   .have d1:(ne != 0)=true:=su n0
    have hse':=hse;rw[Y7 n0] at hse';have hres:=hstop (by rw[hse'];exact n0);rw[hse'] at hres;obtain⟨kind,name,lo,hi',ws,ls,vals,kids,⟨vk,vn,vs,vks⟩⟩:=x;refine Z ?_;repeat((first|refine aK bx ?_|refine aC ex ?_);refine Z ?_)
    refine hN.go ?_ (.cons (.int _ _) (.cons hxn .nil));refine Z ?_;rw[d1];refine Z ?_;exact hfin _ _ _ rfl (by rw[hvt,hres])
  .have hin:i=ns.length:=by simp at h;omega
   subst hin;rw[ZK] at hv0;refine Z ?_;exact hfin _ _ _ rfl (by rw[hvt,hv0])
def zV:bH:=.mk 0 0 [] []
def Iq(v:bH):Nd:=⟨0,[],0,0,[],[],[],[],v⟩
def Bz(ns:List Nd)(l:List Int)(i k:Int):Nd:=
 let b:=dT (aS (ns.take ((kidI l i 0).toNat+1))) (kidI l i 0)
 if b.many=true\/6<b.vals.length then Iq (x5 k) else⟨4,[],0,0,[],[],b.vals,kidI l i 0::(List.range b.vals.length).map λj:Nat=>kidI l i ((j:Int)+1),zV⟩
theorem pT{l:List Int}{i j:Int}(hi:1<=i):0<=kidI l i j/\kidI l i j<i:=by
 unfold kidI;have hp:=lL (l:=l) (i:=3*i+j+2) (most:=1000000) om;split
 .exact⟨aA3 _ (aA4 hp.1 om),aAW _ om⟩
 .have h0:0<=((mK l (3*i+j+2) 1000000).tdiv 3).tmod 3:=aA3 _ (aA4 hp.1 om);omega
theorem XO(ns:List Nd)(l:List Int)(k:Int)(hl:∀x∈l,i64 x)(h1:1<=ns.length)(h2:ns.length<=1000)(hk0:0<=k)(hk1:k<=1000000)(hg:∀(j:Nat) (x:Nd),ns[j]? = some x->lJ j x) :
    aJ prog [] 21 [.agg [.sl 0 0 ns.length],.il 1 (aY l),.int .i64 ns.length,.int .i64 k] (tM ns) 1 λr m _=>r=dM (Bz ns l ns.length k)/\m=tM ns:=by
  have hfin:∀(x:Nd) (r:AV) (mem:aR) (nx:Nat),lk mem 0=some (.row 59 12 (bG ns))->Cv mem [(0,0)] r (dM x)->x=Bz ns l ns.length k->oC 1 (λr m (_:Nat)=>r=dM (Bz ns l ns.length k)/\m=tM ns) r mem nx:=by
    intro x r mem nx h0 hr hx;exact bL (r':=dM x) (n':=1) (m':=tM ns) [(0,0)] rfl ⟨⟨0,_,rfl,h0,.same (bB _)⟩,trivial⟩ hr ⟨by rw[hx],rfl⟩
  have hK0:=P3 l ns.length 0 hl om om om om;obtain⟨q1,q2⟩:=pT (l:=l) (i:=(ns.length:Int)) (j:=0) om;obtain⟨q,hq⟩:=ZU q1;have hb:Bz ns l ns.length k=if (dT (aS (ns.take (q+1))) q).many=true\/6<(dT (aS (ns.take (q+1))) q).vals.length then Iq (x5 k) else⟨4,[],0,0,[],[],(dT (aS (ns.take (q+1))) q).vals,(q:Int)::(List.range (dT (aS (ns.take (q+1))) q).vals.length).map λj:Nat=>kidI l ns.length ((j:Int)+1),zV⟩:=by
    unfold Bz;simp only[hq,Y1]
  have hV:=LL ns q om om λj y _ hy=>hg j y hy
  rw[hq] at hK0;simp only[hb] at hfin |-;generalize dT (aS (ns.take (q+1))) q=b at hV hfin |-;obtain⟨bv,bm⟩:=b;simp only at hV hfin |-;have hLf:=Tm k hk0 hk1;obtain⟨⟨f1,f2,f3,f4⟩,hf⟩:∃f,f=x5 k:=cm
  rw[<-hf] at hLf hfin |-;have hleaf:∀(mem:aR) (nx:Nat),lk mem 0=some (.row 59 12 (bG ns))->(bm=true\/6<bv.length)->oC 1 (λr m (_:Nat)=>r=dM (if bm=true\/6<bv.length then Iq (.mk f1 f2 f3 f4) else⟨4,[],0,0,[],[],bv,(q:Int)::(List.range bv.length).map λj:Nat=>kidI l ns.length ((j:Int)+1),zV⟩)/\m=tM ns)
      (.agg [.int .i64 0,.str [],.int .i64 0,.int .i64 0,.nsl,.nsl,.nsl,.nsl,.int .i64 f1,.int .i64 f2,.str f3,.il 4 (aQ f4)]) mem nx:=by
    intro mem nx h0 hc;refine hfin (Iq (.mk f1 f2 f3 f4)) _ mem nx h0 ?_ (by rw[Y7 hc]);exact .agg' (.s (.s (.s (.s (.cons (.nil 1) (.cons (.nil 1) (.cons (.nil 4) (.cons (.nil 1) (.s (.s (.s ax)))))))))))
  refine aD bI func21 rfl ?_;refine Z ?_;refine hK0.go ?_;refine Z ?_;refine aJ.use1 bI hV 0 rfl (bB _) (.cons (.agg' dm) ax) ?_;rintro r m k' ⟨rfl,rfl⟩;refine⟨_,rfl,nn,bB _, ?_⟩;cases bm with
  | true=>
    refine Z ?_;refine hLf.go ?_;refine Z ?_;exact hleaf _ _ rfl (.inl rfl)
  | false=>
    refine Z ?_;refine aL (λh=>?_) (λh=>?_)
    · have h6:6<bv.length:=by rw[aB] at h;simp at h;omega
      rw[h];refine Z ?_;refine hLf.go ?_;refine Z ?_;exact hleaf _ _ rfl (.inr h6)
    · have h6:¬6<bv.length:=by rw[aB] at h;simp at h;omega
      rw[h];refine Z ?_;refine bJ.at bI (λj:Nat=>j<=bv.length)
        (λj=>⟨[(1,.il 1 (aY l)),(2,.int .i64 ns.length),(8,.ptr 2 0 0),(10,.il 4 (aQ bv)),(12,.ptr 3 0 0),(13,.int .i64 j)],
          [(0,.row 59 12 (bG ns)),(2,.row 59 12 [.agg [.int .i64 0,.str [],.int .i64 0,.int .i64 0,.nsl,.nsl,.nsl,.nsl,.int .i64 0,.int .i64 0,.str [],.nsl]]),
           (3,.row 59 12 [.agg [.int .i64 4,.str [],.int .i64 0,.int .i64 0,.nsl,.nsl,.il 4 (aQ bv),.sl 4 0 (j+1),.int .i64 0,.int .i64 0,.str [],.nsl]]),(4,.row 3 1 (aY ((q:Int)::(List.range j).map λj:Nat=>kidI l ns.length ((j:Int)+1))))],5,54⟩)
        (λj=>bv.length-j) 0 [(0,0),(2,2),(4,3),(3,4)] sq
        (aH _ rfl ⟨aF 0 (bB _),aF 2 dQ,⟨4,_,rfl,rfl,.cons (.agg (.s (.s (.s (.s (.s (.s (.s (.cons (.sl 3 4 0 1 rfl) (.s (.s (.s ax)))))))))))) .nil⟩,⟨3,_,rfl,rfl,.eq (aW _) rfl⟩,trivial⟩
          ⟨aG,aG,aM,aG,aM,aG,trivial⟩) ?_
      intro j hj;refine Z ?_;refine aL (λh=>?_) (λh=>?_)
      · have hjl:j<bv.length:=Ma h
        have hw:IntKind.i64.wrap ((j:Int)+1)=(j:Int)+1:=bF oq;have hKj:=P3 l ns.length ((j:Int)+1) hl om om om om;refine Z ?_;rw[hw];refine hKj.go ?_;refine Rt ?_;refine aK (b8 rfl rfl (by rw[aN];simp) B') ?_;refine Rt ?_;exact .mk (j+1) [(0,0),(2,2),(3,3),(16,4)] om
          (aH _ rfl ⟨aF 0 (bB _),aF 2 dQ,⟨3,_,rfl,rfl,.cons (.agg (.s (.s (.s (.s (.s (.s (.s (.cons (.slE rfl sq) (.s (.s (.s ax)))))))))))) .nil⟩,⟨16,_,rfl,rfl,.eq (aW _) (by rw[aCc];simp[aY])⟩,trivial⟩
            ⟨aG,aG,aM,aG,aM,RF,trivial⟩) om
      · have hje:j=bv.length:=by have:=MC h;omega
        subst hje;refine Z ?_;refine hfin ⟨4,[],0,0,[],[],bv,(q:Int)::(List.range bv.length).map λj:Nat=>kidI l ns.length ((j:Int)+1),zV⟩ _ _ _ rfl ?_ (by rw[Y3 B']);exact .agg' (.s (.s (.s (.s (.cons (.nil 1) (.cons (.nil 1) (.s (.cons (.fz' (id:=4) rfl rfl (by rw[aN];simp) (by rw[ZT];exact ZD (by rw[aN];simp)) (aW _)) bf))))))))
theorem rE{G:Type}{p:G->Prop}{l:List G}{y:G}(h:∀x∈l,p x)(hy:p y):∀x∈l++[y],p x:=λx hx=>by
 rcases ZO.1 hx with hx|hx
 .exact h x hx
 .simp at hx;rw[hx];exact hy
theorem Nk{ns:List Nd}(hT:kH ns)(h1:1<=ns.length)(h2:ns.length<=1000){l:List Int}{k:Int}(hk:0<=k):Nj (Bz ns l ns.length k):=by
 have z0:i64 0:=oq
 unfold Bz;simp only;split
 .have:=I6 k hk;exact o5 z0 sq z0 z0 sq sq sq sq sq sq sq sq this.1 om
 .rename_i hc;rw[not_or] at hc;have hb:=λj=>pT (l:=l) (i:=(ns.length:Int)) (j:=j) om
  obtain⟨q0,q1⟩:=hb 0;have hv:cP [] (ns.take ((kidI l ns.length 0).toNat+1))=0:=jZ (r:=ns.drop ((kidI l ns.length 0).toNat+1)) (by rw[List.take_append_drop];exact hT.valid);have ho:∀x∈ns.take ((kidI l ns.length 0).toNat+1),tY x:=λx hx=>hT.ok x (Ze hx)
  have hs:=II _ ho hv (kidI l ns.length 0) q0 B';have hg:=Go.Ax.t7 (oB _ (nI _ ho hv)) (kidI l ns.length 0);refine o5 oq sq z0 z0 sq sq sq sq om (λv hv=>⟨hg.2 v hv,by have:=hs v hv;omega⟩) B' (λw hw=>?_) (jF z0 z0) (by simp[zV,bS,c7]);rcases ZC.1 hw with rfl|hw
  .exact oq
  .obtain⟨j,_,rfl⟩:=ZW.1 hw;have:=hb ((j:Int)+1);exact oq
theorem eQ.joinAt{P:Program}{C:List (Nat × AV)}{B:Nat}{G:Type}{rest:Code}{Q:Exit->St->Prop}{ag:Prop}(hΓ:∀p∈C,NN p.2)(R:G->Prop)(af:G->St)
  (h1:(∀(a:G) (s:St) (J:List (Nat × Nat)),R a->Conv B J s (af a)->eQ P C B rest s Q)->ag) (h2:∀a,R a->eQ P C B rest (af a) Q):ag:=h1 λa s J hr hc=>eQ.conv hΓ hc (h2 a hr)
theorem W4(l:List Int)(hl:∀x∈l,i64 x) :
  aJ prog [] 5 [.il 1 (aY l)] [] 0 λr m n=>∃ns:List Nd,kH ns/\ns.length<=14/\r = .agg [.sl 0 0 ns.length]/\m=tM ns/\n=1:=by
 have z0:i64 0:=oq
 have hP0:=Ho l 0 15 hl om;obtain⟨n0,n1⟩:=lL (l:=l) (i:=0) (most:=15) om;generalize mK l 0 15=nn0 at hP0 n0 n1;obtain⟨n,rfl⟩:=ZU n0;refine aD bI func5 rfl ?_;refine Z ?_;refine hP0.go ?_;refine Z ?_;refine bJ.ph 59 12 ?_;refine bJ.at bI (λns:List Nd=>kH ns/\ns.length<=n) (λns=>⟨[(0,.il 1 (aY l)),(2,.ptr 0 0 0),(3,.ptr 1 0 0),(4,.int .i64 n),(5,.int .i64 ns.length)],[(0,.row 25 1 [.agg [.nsl]]),(1,.row 25 1 [.agg [.sl 2 0 ns.length]]),(2,.row 59 12 (bG ns))],3,181⟩) (λns=>n-ns.length) [] [(0,0),(1,1),(2,2)] ⟨⟨by simp[cP],sq⟩,sq⟩
  (aH _ rfl ⟨aF 0 dQ,⟨1,_,rfl,rfl,.cons (.agg (.cons (.nslk 2 2 _ rfl rfl) .nil)) .nil⟩,aF 2 .nil,trivial⟩ ⟨aG,aM,aM,aG,aG,trivial⟩) ?_
 rintro ns ⟨hT,hns⟩;refine Z ?_;refine aL (λh=>?_) (λh=>?_)
 .have hlt:ns.length<n:=su h
  have hw1:IntKind.i64.wrap (1+(ns.length:Int))=1+(ns.length:Int):=bF oq;have hPk:=Ho l (1+(ns.length:Int)) 1000000 hl om;obtain⟨kk0,kk1⟩:=lL (l:=l) (i:=1+(ns.length:Int)) (most:=1000000) om;generalize mK l (1+(ns.length:Int)) 1000000=kk at hPk kk0 kk1;have m8:=kQ kk0 (show (0:Int)<8 by omega);have q8:=Cb kk0 (show (0:Int)<8 by omega);have q80:0<=kk.tdiv 8:=aA4 kk0 om;have hw8:IntKind.i64.wrap (kk.tdiv 8)=kk.tdiv 8:=bF oq;have m82:=kQ q80 (show (0:Int)<2 by omega);refine Z ?_;rw[hw1];refine hPk.go ?_
  refine' eQ.joinAt (P:=prog) (B:=0) bI (λkd:Int=>0<=kd/\kd<=4/\(2<=kd->2<=ns.length)) (λkd=>⟨[(0,.il 1 (aY l)),(2,.ptr 0 0 0),(3,.ptr 1 0 0),(4,.int .i64 n),(5,.int .i64 ns.length),(6,.int .i64 kk),(7,.ptr 3 0 0)],[(0,.row 25 1 [.agg [.nsl]]),(1,.row 25 1 [.agg [.sl 2 0 ns.length]]),(2,.row 59 12 (bG ns)),(3,.row 59 12 [.agg [.int .i64 kd,.str [],.int .i64 0,.int .i64 0,.nsl,.nsl,.nsl,.nsl,.int .i64 0,.int .i64 0,.str [],.nsl]])],4,181⟩) (λhJ=>?_) (λkd hkd=>?_)
  rotate_left 2
  .by_cases hi2:ns.length<2
   .have d2:decide ((ns.length:Int)<2)=true:=by simp;omega
    refine Z ?_;rw[d2];refine Z ?_;rw[hw8];obtain⟨kd,hkd⟩:∃kd,kd=(kk.tdiv 8).tmod 2:=cm
    rw[<-hkd] at m82 |-;have d5:decide (kd>5)=false:=B'
    refine Z ?_;rw[d5]
    conv=>whnf
    refine eQ.many ?_
    conv=>whnf
    exact hJ kd _ [(0,0),(1,1),(2,2),(3,3)] ⟨om,om,om⟩ ii
   .have d2:decide ((ns.length:Int)<2)=false:=by simp;omega
    refine Z ?_;rw[d2];refine Z ?_;have hkd5:(kk.tmod 8 == 5)=false\/(kk.tmod 8 == 5)=true:=by cases (kk.tmod 8 == 5)<;>simp
    rcases hkd5 with e5|e5
    .have n5:kk.tmod 8≠5:=su e5
     obtain⟨k8,hk8⟩:∃k8,k8=kk.tmod 8:=cm
     rw[<-hk8] at e5 n5 m8 |-;rcases(show k8<5\/5<k8 by omega) with k5|k5
     .have d5:decide (k8>5)=false:=by simp;omega
      rw[e5];refine Z ?_;rw[d5]
      conv=>whnf
      refine eQ.many ?_
      conv=>whnf
      exact hJ k8 _ [(0,0),(1,1),(2,2),(3,3)] ⟨om,om,om⟩ ii
     .have d5:decide (k8>5)=true:=by simp;omega
      have hw4:IntKind.i64.wrap (k8-4)=k8-4:=bF oq;rw[e5];refine Z ?_;rw[d5]
      conv=>whnf
      refine eQ.many ?_
      conv=>whnf
      refine jL.many ?_
      conv=>whnf
      rw[hw4];exact hJ (k8-4) _ [(0,0),(1,1),(2,2),(3,3)] ⟨om,om,om⟩ ii
    .rw[e5];refine Z ?_;rw[hw8];obtain⟨kd,hkd⟩:∃kd,kd=(kk.tdiv 8).tmod 2:=cm
     rw[<-hkd] at m82 |-;have d5:decide (kd>5)=false:=B'
     refine Z ?_;rw[d5]
     conv=>whnf
     refine eQ.many ?_
     conv=>whnf
     exact hJ kd _ [(0,0),(1,1),(2,2),(3,3)] ⟨om,om,om⟩ ii
  .obtain⟨kd0,kd4,kd2⟩:=hkd;refine Z ?_;refine PL bI (λx:Nd=>Nj x) (λx=>⟨[(0,.il 1 (aY l)),(2,.ptr 0 0 0),(3,.ptr 1 0 0),(4,.int .i64 n),(5,.int .i64 ns.length),(6,.int .i64 kk),(7,.ptr 3 0 0)],[(0,.row 25 1 [.agg [.nsl]]),(1,.row 25 1 [.agg [.sl 2 0 ns.length]]),(2,.row 59 12 (bG ns)),(3,.row 59 12 [dM x])],4,181⟩) (λQr hQ=>?_) (λx hx=>?_)
   .rcases(show kd=0\/kd=1\/kd=2\/kd=3\/kd=4 by omega) with rfl|rfl|rfl|rfl|rfl
    .have hLf:=Tm (kk.tdiv 8) (aA4 kk0 om) (by have:=Cb kk0 (show (0:Int)<8 by omega);omega);have hlo:=I6 (kk.tdiv 8) (aA4 kk0 om);generalize x5 (kk.tdiv 8)=f at hLf hlo;obtain⟨f1,f2,f3,f4⟩:=f;refine Z ?_;rw[hw8];refine hLf.go ?_;refine Z ?_;exact hQ (Iq (.mk f1 f2 f3 f4)) _ [(0,0),(1,1),(2,2),(3,3)] (o5 z0 sq z0 z0 sq sq sq sq sq sq sq sq hlo.1 om) (aH _ rfl ⟨aF 0 dQ,P',aF 2 (bB _),⟨3,_,rfl,rfl,.cons (.agg (.s (.s (.s (.s (.cons (.nil 1) (.cons (.nil 1) (.cons (.nil 4) (.cons (.nil 1) (.s (.s (.s ax)))))))))))) .nil⟩,trivial⟩ da)
    .refine Z ?_;refine aL (λh=>?_) (λh=>?_)
     .refine Z ?_;exact hQ ⟨1,[],_,_,[],[],[],[],zV⟩ _ [(0,0),(1,1),(2,2),(3,3)] (o5 oq sq (NI _) (NI _) sq sq sq sq sq sq sq sq (jF z0 z0) (by simp[zV,bS,c7])) (aH _ rfl ⟨aF 0 dQ,P',aF 2 (bB _),⟨3,_,rfl,rfl,.cons (.agg gm) .nil⟩,trivial⟩ da)
     .refine Z ?_;exact hQ ⟨1,[],_,_,[],[],[],[],zV⟩ _ [(0,0),(1,1),(2,2),(3,3)] (o5 oq sq (NI _) (NI _) sq sq sq sq sq sq sq sq (jF z0 z0) (by simp[zV,bS,c7])) (aH _ rfl ⟨aF 0 dQ,P',aF 2 (bB _),⟨3,_,rfl,rfl,.cons (.agg gm) .nil⟩,trivial⟩ da)
    .refine Z ?_;rcases(show decide ((IntKind.i64.wrap (kk.tdiv 32)).tmod 3>0)=true\/decide ((IntKind.i64.wrap (kk.tdiv 32)).tmod 3>0)=false by cases decide ((IntKind.i64.wrap (kk.tdiv 32)).tmod 3>0)<;>simp) with hB|hB
     .have hB:decide ((IntKind.i64.wrap (kk.tdiv 32)).tmod 3>0)=true:=hB;refine bJ.ph 3 1 ?_;refine bJ.ph 3 1 ?_;refine bJ.ph 9 1 ?_;refine bJ.at bI (λa:List Int × List (List UInt8) × List Int=>a.1.length<=4/\a.2.2.length=a.1.length/\(∀w∈a.1,i64 w)/\(∀w∈a.2.2,i64 w)/\(∀s∈a.2.1,s∈yY)/\a.2.1.length=a.1.length)
       (λa=>⟨[(0,.il 1 (aY l)),(2,.ptr 0 0 0),(3,.ptr 1 0 0),(4,.int .i64 n),(5,.int .i64 ns.length),(6,.int .i64 kk),(7,.ptr 3 0 0),(8,.int .i64 a.1.length)],[(0,.row 25 1 [.agg [.nsl]]),(1,.row 25 1 [.agg [.sl 2 0 ns.length]]),(2,.row 59 12 (bG ns)),(3,.row 59 12 [.agg [.int .i64 2,.str [],.int .i64 0,.int .i64 0,.sl 4 0 a.1.length,.sl 6 0 a.1.length,.nsl,.sl 5 0 a.1.length,.int .i64 0,.int .i64 0,.str [],.nsl]]),(4,.row 3 1 (aY a.1)),(5,.row 3 1 (aY a.2.2)),(6,.row 9 1 (tL a.2.1))],7,181⟩)
       (λa=>4-a.1.length) ([],[],[]) [(0,0),(1,1),(2,2),(3,3),(4,4),(5,5),(6,6)] sq
       (aH _ rfl ⟨aF 0 dQ,P',aF 2 (bB _),⟨3,_,rfl,rfl,.cons (.agg (.s (.s (.s (.s (.cons (.nslk 4 4 _ rfl rfl) (.cons (.nslk 6 6 _ rfl rfl) (.s (.cons (.nslk 5 5 _ rfl rfl) (.s (.s (.s ax)))))))))))) .nil⟩,aF 4 .nil,aF 5 .nil,aF 6 .nil,trivial⟩ ⟨aG,aM,aM,aG,aG,aG,aM,aG,trivial⟩) ?_
      rintro⟨wl,ll,kl⟩ ⟨j1,j2,j3,j4,j5,j6⟩;simp only at j1 j2 j3 j4 j5 j6;refine Z ?_;refine aL (λh=>?_) (λh=>?_)
      .have hjc:wl.length<4:=by rw[hw8] at h;have:=kQ q80 (show (0:Int)<4 by omega);simp at h;omega
       have hwj:IntKind.i64.wrap ((ns.length:Int)+(wl.length:Int))=(ns.length:Int)+wl.length:=bF oq;have hPj:=Ho l ((ns.length:Int)+wl.length) 5 hl om;have hPb:=lL (l:=l) (i:=(ns.length:Int)+wl.length) (most:=5) om;generalize mK l ((ns.length:Int)+wl.length) 5=pw at hPj hPb;have hKj:=P3 l ns.length wl.length hl om om om om;have hKb:=pT (l:=l) (i:=(ns.length:Int)) (j:=(wl.length:Int)) om;generalize kidI l ns.length wl.length=kw at hKj hKb;refine Z ?_;rw[hwj];refine hPj.go ?_;refine Rt ?_;refine aK cu ?_;refine Rt ?_;refine hKj.go ?_;refine Rt ?_;refine aK (b8 rfl rfl (by rw[aN,j2]) B') ?_;refine Rt ?_;rw[hB];refine Z ?_;obtain⟨qn,hqn,hqe⟩:∃qn:Nat,qn<4/\(IntKind.i64.wrap ((wl.length:Int)+IntKind.i64.wrap (kk.tdiv 96))).tmod 4=(qn:Int):=by
        have a0:=Cb kk0 (show (0:Int)<96 by omega);have a1:0<=kk.tdiv 96:=aA4 kk0 om;have e1:IntKind.i64.wrap (kk.tdiv 96)=kk.tdiv 96:=bF oq;have e2:IntKind.i64.wrap ((wl.length:Int)+kk.tdiv 96)=(wl.length:Int)+kk.tdiv 96:=bF oq;rw[e1,e2];have:=kQ (show 0<=(wl.length:Int)+kk.tdiv 96 by omega) (show (0:Int)<4 by omega);exact⟨(((wl.length:Int)+kk.tdiv 96).tmod 4).toNat,om,om⟩
       obtain⟨sa,hsa,hsm⟩:∃sa,([AV.str [97],AV.str [98],AV.str [99],AV.str [100]])[0+((qn:Nat):Int).toNat]? = some (.str sa)/\sa∈yY:=by
        rcases(show qn=0\/qn=1\/qn=2\/qn=3 by omega) with rfl|rfl|rfl|rfl
        .exact⟨[97],rfl,by simp[yY]⟩
        .exact⟨[98],rfl,by simp[yY]⟩
        .exact⟨[99],rfl,by simp[yY]⟩
        .exact⟨[100],rfl,by simp[yY]⟩
       have bsa:Nat.blt ((qn:Nat):Int).toNat 4=true:=Y2 B';rw[hqe];refine Z ?_;repeat((first|refine bK ?_|refine aK bsa ?_|refine aC hsa ?_);refine Z ?_)
       refine aK (b8 rfl rfl (by rw[eC,j6]) B') ?_;refine Z ?_;repeat((first|refine bK ?_|refine aK bsa ?_|refine aC hsa ?_);refine Z ?_)
       exact .mk (wl++[IntKind.i64.wrap (1+pw)],ll++[sa],kl++[kw]) [(0,0),(1,1),(2,2),(3,3),(19,4),(30,5),(45,6)] ⟨by simp;omega,by simp;omega,rE j3 (NI _),rE j4 oq,rE j5 hsm,by simp;omega⟩
        (aH _ rfl ⟨aF 0 dQ,P',aF 2 (bB _),⟨3,_,rfl,rfl,.cons (.agg (.s (.s (.s (.s (.cons (.slE rfl sq) (.cons (.slE rfl sq) (.s (.cons (.slE rfl sq) (.s (.s (.s ax)))))))))))) .nil⟩,⟨19,_,rfl,rfl,.eq (aW _) (by simp[aY])⟩,⟨30,_,rfl,rfl,.eq (aW _) (by simp[aY])⟩,⟨45,_,rfl,rfl,.eq (oS _) (by simp[tL])⟩,trivial⟩ ⟨aG,aM,aM,aG,aG,aG,aM,Z',trivial⟩) B'
      .refine Z ?_;exact hQ ⟨2,[],0,0,wl,ll,[],kl,zV⟩ _ [(0,0),(1,1),(2,2),(3,3)] (o5 oq sq z0 z0 om j3 om j5 sq sq om j4 (jF z0 z0) (by simp[zV,bS,c7])) (aH _ rfl ⟨aF 0 dQ,P',aF 2 (bB _),⟨3,_,rfl,rfl,.cons (.agg (.s (.s (.s (.s (.cons (.fz' (id:=4) rfl rfl cd (by rw[ZT];exact ZD cd) (aW _)) (.cons (.fz' (id:=6) rfl rfl (by rw[eC];first|omega|(simp only;omega)) (by rw[ZT];exact ZD (by rw[eC];first|omega|(simp only;omega))) (oS _)) (.cons (.nil 4) (.cons (.fz' (id:=5) rfl rfl cd (by rw[ZT];exact ZD cd) (aW _)) bf))))))))) .nil⟩,trivial⟩ da)
     .have hB:decide ((IntKind.i64.wrap (kk.tdiv 32)).tmod 3>0)=false:=hB;refine bJ.ph 3 1 ?_;refine bJ.ph 3 1 ?_;refine bJ.at bI (λa:List Int × List (List UInt8) × List Int=>a.1.length<=4/\a.2.2.length=a.1.length/\(∀w∈a.1,i64 w)/\(∀w∈a.2.2,i64 w)/\(∀s∈a.2.1,s∈yY)/\a.2.1.length=0)
       (λa=>⟨[(0,.il 1 (aY l)),(2,.ptr 0 0 0),(3,.ptr 1 0 0),(4,.int .i64 n),(5,.int .i64 ns.length),(6,.int .i64 kk),(7,.ptr 3 0 0),(8,.int .i64 a.1.length)],[(0,.row 25 1 [.agg [.nsl]]),(1,.row 25 1 [.agg [.sl 2 0 ns.length]]),(2,.row 59 12 (bG ns)),(3,.row 59 12 [.agg [.int .i64 2,.str [],.int .i64 0,.int .i64 0,.sl 4 0 a.1.length,.nsl,.nsl,.sl 5 0 a.1.length,.int .i64 0,.int .i64 0,.str [],.nsl]]),(4,.row 3 1 (aY a.1)),(5,.row 3 1 (aY a.2.2))],6,181⟩)
       (λa=>4-a.1.length) ([],[],[]) [(0,0),(1,1),(2,2),(3,3),(4,4),(5,5)] sq
       (aH _ rfl ⟨aF 0 dQ,P',aF 2 (bB _),⟨3,_,rfl,rfl,.cons (.agg (.s (.s (.s (.s (.cons (.nslk 4 4 _ rfl rfl) (.s (.s (.cons (.nslk 5 5 _ rfl rfl) (.s (.s (.s ax)))))))))))) .nil⟩,aF 4 .nil,aF 5 .nil,trivial⟩ ⟨aG,aM,aM,aG,aG,aG,aM,aG,trivial⟩) ?_
      rintro⟨wl,ll,kl⟩ ⟨j1,j2,j3,j4,j5,j6⟩;simp only at j1 j2 j3 j4 j5 j6;refine Z ?_;refine aL (λh=>?_) (λh=>?_)
      .have hjc:wl.length<4:=by rw[hw8] at h;have:=kQ q80 (show (0:Int)<4 by omega);simp at h;omega
       have hwj:IntKind.i64.wrap ((ns.length:Int)+(wl.length:Int))=(ns.length:Int)+wl.length:=bF oq;have hPj:=Ho l ((ns.length:Int)+wl.length) 5 hl om;have hPb:=lL (l:=l) (i:=(ns.length:Int)+wl.length) (most:=5) om;generalize mK l ((ns.length:Int)+wl.length) 5=pw at hPj hPb;have hKj:=P3 l ns.length wl.length hl om om om om;have hKb:=pT (l:=l) (i:=(ns.length:Int)) (j:=(wl.length:Int)) om;generalize kidI l ns.length wl.length=kw at hKj hKb;refine Z ?_;rw[hwj];refine hPj.go ?_;refine Rt ?_;refine aK cu ?_;refine Rt ?_;refine hKj.go ?_;refine Rt ?_;refine aK (b8 rfl rfl (by rw[aN,j2]) B') ?_;refine Rt ?_;rw[hB];refine Z ?_;exact .mk (wl++[IntKind.i64.wrap (1+pw)],ll,kl++[kw]) [(0,0),(1,1),(2,2),(3,3),(18,4),(29,5)] ⟨by simp;omega,by simp;omega,rE j3 (NI _),rE j4 oq,j5,j6⟩
        (aH _ rfl ⟨aF 0 dQ,P',aF 2 (bB _),⟨3,_,rfl,rfl,.cons (.agg (.s (.s (.s (.s (.cons (.slE rfl sq) (.s (.s (.cons (.slE rfl sq) (.s (.s (.s ax)))))))))))) .nil⟩,⟨18,_,rfl,rfl,.eq (aW _) (by simp[aY])⟩,⟨29,_,rfl,rfl,.eq (aW _) (by simp[aY])⟩,trivial⟩ ⟨aG,aM,aM,aG,aG,aG,aM,Z',trivial⟩) B'
      .refine Z ?_;obtain rfl:ll=[]:=aAs.1 j6;exact hQ ⟨2,[],0,0,wl,[],[],kl,zV⟩ _ [(0,0),(1,1),(2,2),(3,3)] (o5 oq sq z0 z0 om j3 sq sq sq sq om j4 (jF z0 z0) (by simp[zV,bS,c7])) (aH _ rfl ⟨aF 0 dQ,P',aF 2 (bB _),⟨3,_,rfl,rfl,.cons (.agg (.s (.s (.s (.s (.cons (.fz' (id:=4) rfl rfl cd (by rw[ZT];exact ZD cd) (aW _)) (.cons (.nil 1) (.cons (.nil 4) (.cons (.fz' (id:=5) rfl rfl cd (by rw[ZT];exact ZD cd) (aW _)) bf))))))))) .nil⟩,trivial⟩ da)
    .obtain⟨qn,hqn,hqe⟩:∃qn:Nat,qn<3/\(IntKind.i64.wrap (kk.tdiv 8)).tmod 3=(qn:Int):=by
      rw[hw8];have:=kQ q80 (show (0:Int)<3 by omega);exact⟨((kk.tdiv 8).tmod 3).toNat,om,om⟩
     obtain⟨nm,hnm,hnl⟩:∃nm,([AV.str [],AV.str [80,97,105,114],AV.str []])[0+((qn:Nat):Int).toNat]? = some (.str nm)/\nm.length<=4:=by
      rcases(show qn=0\/qn=1\/qn=2 by omega) with rfl|rfl|rfl
      .exact⟨[],rfl,sq⟩
      .exact⟨[80,97,105,114],rfl,sq⟩
      .exact⟨[],rfl,sq⟩
     have bnm:Nat.blt ((qn:Nat):Int).toNat 3=true:=Y2 B';refine Z ?_;rw[hqe];refine Z ?_;repeat((first|refine bK ?_|refine aK bnm ?_|refine aC hnm ?_);refine Z ?_)
     refine bJ.ph 3 1 ?_;refine bJ.at bI (λa:List Int=>a.length<=3/\∀w∈a,i64 w)
      (λa=>⟨[(0,.il 1 (aY l)),(2,.ptr 0 0 0),(3,.ptr 1 0 0),(4,.int .i64 n),(5,.int .i64 ns.length),(6,.int .i64 kk),(7,.ptr 3 0 0),(9,.int .i64 a.length)],[(0,.row 25 1 [.agg [.nsl]]),(1,.row 25 1 [.agg [.sl 2 0 ns.length]]),(2,.row 59 12 (bG ns)),(3,.row 59 12 [.agg [.int .i64 3,.str nm,.int .i64 0,.int .i64 0,.nsl,.nsl,.nsl,.sl 4 0 a.length,.int .i64 0,.int .i64 0,.str [],.nsl]]),(4,.row 3 1 (aY a))],5,181⟩)
      (λa=>4-a.length) [] [(0,0),(1,1),(2,2),(3,3),(5,4)] sq
      (aH _ rfl ⟨aF 0 dQ,P',aF 2 (bB _),⟨3,_,rfl,rfl,.cons (.agg (.s (.s (.s (.s (.s (.s (.s (.cons (.nslk 5 4 _ rfl rfl) (.s (.s (.s ax)))))))))))) .nil⟩,aF 5 .nil,trivial⟩ ⟨aG,aM,aM,aG,aG,aG,aM,aG,trivial⟩) ?_
     rintro kl ⟨j1,j4⟩;refine Z ?_;refine aL (λh=>?_) (λh=>?_)
     .have hjc:kl.length<3:=by
       have a0:=Cb kk0 (show (0:Int)<24 by omega);have a1:0<=kk.tdiv 24:=aA4 kk0 om;have e1:IntKind.i64.wrap (kk.tdiv 24)=kk.tdiv 24:=bF oq;rw[e1] at h;have:=kQ a1 (show (0:Int)<4 by omega);simp at h;omega
      have hKj:=P3 l ns.length kl.length hl om om om om;have hKb:=pT (l:=l) (i:=(ns.length:Int)) (j:=(kl.length:Int)) om;generalize kidI l ns.length kl.length=kw at hKj hKb;refine Z ?_;refine hKj.go ?_;refine Rt ?_;refine aK cu ?_;refine Rt ?_;exact .mk (kl++[kw]) [(0,0),(1,1),(2,2),(3,3),(15,4)] ⟨by simp;omega,rE j4 oq⟩
       (aH _ rfl ⟨aF 0 dQ,P',aF 2 (bB _),⟨3,_,rfl,rfl,.cons (.agg (.s (.s (.s (.s (.s (.s (.s (.cons (.slE rfl sq) (.s (.s (.s ax)))))))))))) .nil⟩,⟨15,_,rfl,rfl,.eq (aW _) (by simp[aY])⟩,trivial⟩ ⟨aG,aM,aM,aG,aG,aG,aM,Z',trivial⟩) B'
     .refine Z ?_;exact hQ ⟨3,nm,0,0,[],[],[],kl,zV⟩ _ [(0,0),(1,1),(2,2),(3,3)] (o5 oq om z0 z0 sq sq sq sq sq sq om j4 (jF z0 z0) (by simp[zV,bS,c7])) (aH _ rfl ⟨aF 0 dQ,P',aF 2 (bB _),⟨3,_,rfl,rfl,.cons (.agg (.s (.s (.s (.s (.cons (.nil 1) (.cons (.nil 1) (.cons (.nil 4) (.cons (.fz' (id:=4) rfl rfl cd (by rw[ZT];exact ZD cd) (aW _)) bf))))))))) .nil⟩,trivial⟩ da)
    .have hBd:=XO ns l kk hl om om kk0 om hT.good;have hBg:=Nk hT om om (l:=l) (k:=kk) kk0;have hns:ns.length<=14:=om;generalize Bz ns l ns.length kk=bx at hBd hBg;have hbn:=bP bx;refine Z ?_;refine aJ.use1 bI hBd 2 rfl (bB _) (.cons (.agg' (.cons (.sl 2 0 0 _ rfl) .nil)) (.s (.s ax))) ?_;rintro r m k' ⟨rfl,rfl⟩;refine⟨_,rfl,hbn,bB _, ?_⟩;obtain⟨kind,name,lo,hi,ws,ls,vals,kids,⟨vk,vn,vs,vks⟩⟩:=bx;refine Z ?_;exact hQ ⟨kind,name,lo,hi,ws,ls,vals,kids,.mk vk vn vs vks⟩ _ [(0,0),(1,1),(2,2),(3,3)] hBg (aH _ rfl ⟨aF 0 dQ,P',aF 2 (bB _),aF 3 (.cons (bP ⟨kind,name,lo,hi,ws,ls,vals,kids,.mk vk vn vs vks⟩) .nil),trivial⟩ da)
   .have hxn:=bP x;have hV:=U7 (ns++[x]) B' (λy hy=>by
     rcases ZO.1 hy with hy|hy
     .have:=hT.gen y hy;exact⟨this.ok,by have:=this.vals;omega⟩
     .simp at hy;rw[hy];exact⟨hx.ok,by have:=hx.vals;omega⟩)
    have hnn2:=bB (ns++[x]);have eTk:List.take ns.length (List.drop 0 (bG ns))=bG ns:=by rw[ZT];exact ZD (by rw[cH];omega)
    have hxs:bG (ns++[x])=bG ns++[dM x]:=by simp[bG]
    have hsn:=λh=>hT.snoc (x:=x) om hx h
    have hw5:=kQ kk0 (show (0:Int)<5 by omega);have hlf:=hT.leaf (m:=kk.tmod 5) oq;obtain⟨e,he⟩:∃e,e=eX (ns++[x]):=cm
    rw[<-he] at hV hsn;obtain⟨kind,name,lo,hi,ws,ls,vals,kids,⟨vk,vn,vs,vks⟩⟩:=x;refine Z ?_;refine aK (Jo (by rw[cH];omega)) ?_;rw[eTk];refine Z ?_;refine aK (CX rfl (by rw[cH];omega)) ?_;refine Z ?_;refine aK (b8 rfl rfl rfl (by rw[cH];simp;omega)) ?_;refine Z ?_;refine aJ.useN bI [(7,0)] hV rfl (.cons (.agg' (.cons (.slE rfl (by rw[cH];simp)) .nil)) .nil) ⟨⟨7,_,rfl,rfl,.eq hnn2 (by rw[hxs];rfl)⟩,trivial⟩ rfl ?_;rintro r m k' ⟨rfl,rfl⟩;refine⟨[(0,7)],_,[(7,.row 59 12 (bG (ns++[⟨kind,name,lo,hi,ws,ls,vals,kids,.mk vk vn vs vks⟩])))],8,.same _ nn,⟨aF 0 hnn2,trivial⟩,rfl, ?_⟩;by_cases e0:e=0
    .subst e0;refine Z ?_;exact .mk (ns++[⟨kind,name,lo,hi,ws,ls,vals,kids,.mk vk vn vs vks⟩]) [(0,0),(1,1),(7,2)] ⟨hsn rfl,by simp;omega⟩
      (aH _ rfl ⟨aF 0 dQ,⟨1,_,rfl,rfl,.cons (.agg (.cons (.slE rfl (by rw[cH];simp)) .nil)) .nil⟩,aF 7 hnn2,trivial⟩ ⟨aG,aM,aM,aG,Z',trivial⟩) B'
    .have de:(e == 0)=false:=su e0
     refine Z ?_;rw[de];refine Z ?_;refine aK (b8 rfl rfl (by rw[cH]) B') ?_;refine Z ?_;have hlx:bG (ns++[⟨0,[],0,0,[],[],[],[],.mk 0 (kk.tmod 5) [] []⟩])=bG ns++[dM ⟨0,[],0,0,[],[],[],[],.mk 0 (kk.tmod 5) [] []⟩]:=by simp[bG]
     exact .mk (ns++[⟨0,[],0,0,[],[],[],[],.mk 0 (kk.tmod 5) [] []⟩]) [(0,0),(1,1),(9,2)] ⟨hlf,by simp;omega⟩
      (aH _ rfl ⟨aF 0 dQ,⟨1,_,rfl,rfl,.cons (.agg (.cons (.slE rfl sq) .nil)) .nil⟩,⟨9,_,rfl,rfl,by rw[hlx];exact .snoc rfl (.same (bB _)) (.agg gm)⟩,trivial⟩ ⟨aG,aM,aM,aG,Z',trivial⟩) B'
 .have hlt:ns.length=n:=by simp at h;omega
  refine Z ?_;exact bL (r':=.agg [.sl 0 0 ns.length]) (m':=tM ns) (n':=1) [(2,0)] rfl ⟨aF 2 (bB _),trivial⟩ (.agg' (.cons (.sl 2 0 0 _ rfl) .nil)) ⟨ns,hT,om,rfl,rfl,rfl⟩
end Go.Proofs.YthggfhnnkclooaaGreatDoor
namespace Go.Proofs.YthggfhnnkclooaaGreatDoor
open Go Go.Ax Go.Proofs Tryz
def cI(n:Nat):AB:=.row 3 1 [.int .i64 n]
def cB(b:Bool):AB:=.row 4 1 [.bool b]
def cF(f:AV):AB:=.row 278 1 [f]
section
variable {mem:aR} {J:List (Nat × Nat)}
theorem JA{F:FuncId}{i:Nat}(h:lk J i=some i):rY mem J [.fn (.func F) [] [.ptr i 0 0]] [.fn (.func F) [] [.ptr i 0 0]]:=
 .cons (.one rfl rfl (.fn _ _ _ _ _ rfl rfl sq (iS.cons (.ptr i i 0 0 h) .nil).2)) .nil
theorem tR{F:FuncId}{i j:Nat}(h:lk J i=some i)(h':lk J j=some j):rY mem J [.fn (.func F) [] [.ptr i 0 0,.ptr j 0 0]] [.fn (.func F) [] [.ptr i 0 0,.ptr j 0 0]]:=
 .cons (.one rfl rfl (.fn _ _ _ _ _ rfl rfl sq (iS.cons (.ptr i i 0 0 h) (.cons (.ptr j j 0 0 h') .nil)).2)) .nil
theorem EP{F:FuncId}{i j k:Nat}(h:lk J i=some i)(h':lk J j=some j)(h'':lk J k=some k):rY mem J [.fn (.func F) [] [.ptr i 0 0,.ptr j 0 0,.ptr k 0 0]] [.fn (.func F) [] [.ptr i 0 0,.ptr j 0 0,.ptr k 0 0]]:=
 .cons (.one rfl rfl (.fn _ _ _ _ _ rfl rfl sq (iS.cons (.ptr i i 0 0 h) (.cons (.ptr j j 0 0 h') (.cons (.ptr k k 0 0 h'') .nil))).2)) .nil
end
def Vn(n:Nat):aR:=[(0,cI n),(1,cF (.fn (.func 194) [] [.ptr 0 0 0])),(2,cF (.fn (.func 235) [] [.ptr 1 0 0,.ptr 2 0 0]))]
theorem LV(g:Nat->Nat->Nat)(hg:∀n d,g n d<=max (n+1) d)
  (hsee:∀(v:bH) (d n:Nat),d<=1099511627776->n<=4398046511104->aJ prog [] 194 [cC v,.int .i64 d,.ptr 0 0 0] [(0,cI n)] 1 λr m _=>r = .bool true/\m=[(0,cI (g n d))]) :
  ∀(v:bH) (d n:Nat),d+i8 v<=1099511627776->max n (d+i8 v)+bS v<=4398046511104 ->
   aJ prog [] 235 [cC v,.int .i64 d,.ptr 1 0 0,.ptr 2 0 0] (Vn n) 3 λr m _=>r = .bool true/\m=Vn (AD g v d n)
 | .mk vk vn vs ks,d,n,hd,hb=>by
  have ih:∀a∈ks,∀(d n:Nat),d+i8 a<=1099511627776->max n (d+i8 a)+bS a<=4398046511104->aJ prog [] 235 [cC a,.int .i64 d,.ptr 1 0 0,.ptr 2 0 0] (Vn n) 3 λr m _=>r = .bool true/\m=Vn (AD g a d n):=
   λa hm d n h1 h2=>LV g hg hsee a d n h1 h2
  simp only[i8,bS] at hd hb;have hlen:=BV ks;have hgn:=hg n d;refine aD bI func235 rfl ?_;refine Z ?_;refine aJ.useI bI [0] (hsee (.mk vk vn vs ks) d n om om) ef (.s (.s (.cons bj .nil))) dc rfl ?_;rintro r m n' ⟨rfl,rfl⟩;refine⟨nn,dc,rfl, ?_⟩;refine Z ?_;refine bJ.at bI (λk:Nat=>k<=ks.length)
   (λk=>⟨[(1,.int .i64 d),(3,.ptr 2 0 0),(15,.il 4 (aQ ks)),(16,.int .i64 (aQ ks).length),(17,.int .i64 k)],Vn (u7 g (ks.take k) (d+1) (g n d)),3,28⟩)
   (λk=>ks.length-k) 0 [(0,0),(1,1),(2,2)] sq
   (aH _ rfl dq ⟨aG,aM,aG,aG,aG,trivial⟩) ?_
  intro k hk;have hrl:=G8 hg (ks.take k) (d+1) (g n d);refine Z ?_;refine aL (λh=>?_) (λh=>?_)
  .have hlt:=Ma h;obtain⟨a,b,c,e,hm,hg',he,e1⟩:=dU hlt;have hst:=zL hlt;have hdt:=Hq hlt;rw[he] at hst hdt;have hst':=qY ks (k+1);have hdm:=zN hm;have hdk:gO (ks.take k)<=gO ks:=C2 ks k;have hrt:=Mx g hlt (d+1) (g n d);rw[he] at hrt;refine Z ?_;refine aC e1 ?_;refine Z ?_;rw[w64 (x:=(d:Int)+1) (y:=((d+1:Nat):Int)) om oq];refine aJ.useI bI [0,1,2] (ih _ hm (d+1) (u7 g (ks.take k) (d+1) (g n d)) om om) ef (.s (.s (.cons co (.cons (.ptr 2 2 0 0 rfl) .nil))))
    dq rfl ?_
   rintro r m n' ⟨rfl,rfl⟩;refine⟨nn,dq,rfl, ?_⟩;rw[<-hrt];refine Z ?_;exact .mk (k+1) [(0,0),(1,1),(2,2)] om
    (aH _ rfl dq ⟨aG,aM,aG,aG,RF,trivial⟩) om
  .have hk':k=ks.length:=by have:=MC h;omega
   refine Z ?_;refine bL (n':=3) (m':=Vn (u7 g (ks.take k) (d+1) (g n d))) [(0,0),(1,1),(2,2)] rfl dq cc ⟨rfl, ?_⟩;rw[hk',ZK,AD]
 termination_by v=>SizeOf.sizeOf v
 decreasing_by simp;have:=aAI hm;omega
end Go.Proofs.YthggfhnnkclooaaGreatDoor
namespace Go.Proofs.YthggfhnnkclooaaGreatDoor
open Go Go.Ax Go.Proofs Tryz
section
variable {mem:aR} {J:List (Nat × Nat)}
theorem U8{F:FuncId}{i i':Nat}(h:lk J i=some i'):rY mem J [.fn (.func F) [] [.ptr i 0 0]] [.fn (.func F) [] [.ptr i' 0 0]]:=
 .cons (.one rfl rfl (.fn _ _ _ _ _ rfl rfl sq (iS.cons (.ptr i i' 0 0 h) .nil).2)) .nil
theorem OW{F:FuncId}{i j i' j':Nat}(h:lk J i=some i')(h':lk J j=some j'):rY mem J [.fn (.func F) [] [.ptr i 0 0,.ptr j 0 0]] [.fn (.func F) [] [.ptr i' 0 0,.ptr j' 0 0]]:=
 .cons (.one rfl rfl (.fn _ _ _ _ _ rfl rfl sq (iS.cons (.ptr i i' 0 0 h) (.cons (.ptr j j' 0 0 h') .nil)).2)) .nil
theorem UN{F:FuncId}{i j k i' j' k':Nat}(h:lk J i=some i')(h':lk J j=some j')(h'':lk J k=some k'):rY mem J [.fn (.func F) [] [.ptr i 0 0,.ptr j 0 0,.ptr k 0 0]] [.fn (.func F) [] [.ptr i' 0 0,.ptr j' 0 0,.ptr k' 0 0]]:=
 .cons (.one rfl rfl (.fn _ _ _ _ _ rfl rfl sq (iS.cons (.ptr i i' 0 0 h) (.cons (.ptr j j' 0 0 h') (.cons (.ptr k k' 0 0 h'') .nil))).2)) .nil
theorem X1{F:FuncId}{i i':Nat}(h:lk J i=some i'):Cv mem J (.fn (.func F) [] [.ptr i 0 0]) (.fn (.func F) [] [.ptr i' 0 0]):=
 .fn _ _ _ _ _ rfl rfl sq (iS.cons (.ptr i i' 0 0 h) .nil).2
theorem Xi{F:FuncId}{i j k i' j' k':Nat}(h:lk J i=some i')(h':lk J j=some j')(h'':lk J k=some k'):Cv mem J (.fn (.func F) [] [.ptr i 0 0,.ptr j 0 0,.ptr k 0 0]) (.fn (.func F) [] [.ptr i' 0 0,.ptr j' 0 0,.ptr k' 0 0]):=
 .fn _ _ _ _ _ rfl rfl sq (iS.cons (.ptr i i' 0 0 h) (.cons (.ptr j j' 0 0 h') (.cons (.ptr k k' 0 0 h'') .nil))).2
end
theorem YQ:∀(v:bH) (d n:Nat),d<=1099511627776->n<=4398046511104->aJ prog [] 194 [cC v,.int .i64 d,.ptr 0 0 0] [(0,cI n)] 1 λr m _=>r = .bool true/\m=[(0,cI (n+1))]
 | .mk vk vn vs ks,d,n,hd,hn=>by
  refine aD bI func194 rfl ?_;refine Z ?_;exact bL (n':=1) (m':=[(0,cI (n+1))]) [(0,0)] rfl ⟨⟨0,_,rfl,rfl,.cons (.one rfl rfl (.w64 om oq)) .nil⟩,trivial⟩ cc gj 
theorem Rw:∀(v:bH) (n:Nat),1+i8 v<=1099511627776->max n (1+i8 v)+bS v<=4398046511104 ->
   aJ prog [] 190 [cC v,.fn (.func 194) [] [.ptr 0 0 0]] [(0,cI n)] 1 λr m _=>r = .tup []/\m=[(0,cI (AD (λn _=>n+1) v 1 n))]
 | .mk vk vn vs ks,n,hd,hb=>by
  have hw:=LV (λn _=>n+1) (λn d=>om) YQ (.mk vk vn vs ks) 1 n hd hb;generalize AD (λn _=>n+1) (.mk vk vn vs ks) 1 n=res at hw;refine aD bI func190 rfl ?_;refine Z ?_;refine aJ.useR bI [(0,0),(2,1),(3,2)] hw ef (.s (.cons (.int rfl) (.cons (.ptr 2 1 0 0 rfl) (.cons (.ptr 3 2 0 0 rfl) .nil))))
   ⟨aF 0 dQ,⟨2,_,rfl,rfl,U8 rfl⟩,⟨3,_,rfl,rfl,OW rfl rfl⟩,trivial⟩ rfl ?_
  rintro r m n' ⟨rfl,rfl⟩;refine⟨[(0,cI res)],nn,dc,rfl, ?_⟩;refine Z ?_;exact bL (n':=1) (m':=[(0,cI res)]) [(0,0)] rfl dc cc gj 
theorem Vv:∀v:bH,bS v<=1048576->aU prog [] 124 [cC v] (.int .i64 (bS v))
 | .mk vk vn vs ks,hs=>by
  have hd:=qV (.mk vk vn vs ks);have hw:=Rw (.mk vk vn vs ks) 0 om om;rw[show AD (λn _=>n+1) (.mk vk vn vs ks) 1 0=bS (.mk vk vn vs ks) by rw[It];omega] at hw;generalize bS (.mk vk vn vs ks)=res at hw;refine aD bI func124 rfl ?_;refine Z ?_;refine aJ.useR bI [(1,0)] hw ef (.s (.cons (X1 rfl) .nil)) ⟨aF 1 dQ,trivial⟩ rfl ?_;rintro r m n' ⟨rfl,rfl⟩;refine⟨[(1,cI res)],nn,dc,rfl, ?_⟩;refine Z ?_;exact aA nn C' 
abbrev VS:=Nat × Bool × Bool
def vC(x:VS):aR:=[(0,cI x.1),(1,cB x.2.1),(2,cB x.2.2)]
def wV(x:VS):aR:=[(0,cI x.1),(1,cB x.2.1),(2,cB x.2.2),(3,cF (.fn (.func 191) [] [.ptr 0 0 0,.ptr 1 0 0,.ptr 2 0 0])),(4,cF (.fn (.func 235) [] [.ptr 3 0 0,.ptr 4 0 0]))]
theorem X8(vk vn:Int)(vs:List UInt8)(ks:List bH)(hs:vs.length<=4294967296)(d:Nat)(x:VS)(hx:x.1<=4398046511104) :
  aJ prog [] 191 [cC (.mk vk vn vs ks),.int .i64 d,.ptr 0 0 0,.ptr 1 0 0,.ptr 2 0 0] (vC x) 3 λr m _=>r = .bool (dX x (.mk vk vn vs ks) d).1/\m=vC (dX x (.mk vk vn vs ks) d).2:=by
 obtain⟨n,g,s⟩:=x;have h1:=Q9 vk vn vs ks hs;have h2:=Vu vk vn vs ks;have hst:dX (n,g,s) (.mk vk vn vs ks) d=(g && dL vk vn vs ks.length,(n+1,g && dL vk vn vs ks.length,s && xR vk ks.length)):=rfl;generalize dL vk vn vs ks.length=fb at h1 hst;generalize xR vk ks.length=tb at h2 hst;rw[hst];simp only at hx;refine aD bI func191 rfl ?_;cases g<;>cases s
 all_goals
  refine Z ?_;try(refine h1.go ?_;refine Z ?_)
  try(refine h2.go ?_;refine Z ?_)
  exact bL (n':=3) (m':=vC (n+1,_,_)) [(0,0),(1,1),(2,2)] rfl ⟨⟨0,_,rfl,rfl,.cons (.one rfl rfl (.w64 om oq)) .nil⟩,aF 1 dQ,aF 2 dQ,trivial⟩ cc gj 
theorem QK:∀(v:bH) (d:Nat) (x:VS),jG v->d+i8 v<=1099511627776->x.1+bS v<=4398046511104 ->
   aJ prog [] 235 [cC v,.int .i64 d,.ptr 3 0 0,.ptr 4 0 0] (wV x) 5 λr m _=>r = .bool (oN dX v d x).1/\m=wV (oN dX v d x).2
 | .mk vk vn vs ks,d,x,hok,hd,hb=>by
  simp only[jG] at hok;obtain⟨hv1,hv2,hv3,hv4,hv5⟩:=hok;have ih:∀a∈ks,∀(d:Nat) (x:VS),d+i8 a<=1099511627776->x.1+bS a<=4398046511104->aJ prog [] 235 [cC a,.int .i64 d,.ptr 3 0 0,.ptr 4 0 0] (wV x) 5 λr m _=>r = .bool (oN dX a d x).1/\m=wV (oN dX a d x).2:=
   λa hm d x h1 h2=>QK a d x (pG hv5 a hm) h1 h2
  simp only[i8,bS] at hd hb;have hlen:=BV ks;have hsee:=X8 vk vn vs ks hv3 d x om;have hy1:(dX x (.mk vk vn vs ks) d).2.1=x.1+1:=rfl;generalize hst0:dX x (.mk vk vn vs ks) d=st at hsee hy1;obtain⟨b,y⟩:=st;simp only at hy1;refine aD bI func235 rfl ?_;refine Z ?_;refine aJ.useI bI [0,1,2] hsee ef (.s (.s (.cons bj (.cons co (.cons (.ptr 2 2 0 0 rfl) .nil))))) ⟨aF 0 dQ,aF 1 dQ,aF 2 dQ,trivial⟩ rfl ?_;rintro r m n' ⟨rfl,rfl⟩;refine⟨nn,⟨aF 0 dQ,aF 1 dQ,aF 2 dQ,trivial⟩,rfl, ?_⟩;cases b with
  | false=>
   refine Z ?_;refine bL (n':=5) (m':=wV y) [(0,0),(1,1),(2,2),(3,3),(4,4)] rfl ap cc ?_;have hvis:oN dX (.mk vk vn vs ks) d x=(false,y):=by rw[oN,hst0]
   rw[hvis];exact gj
  | true=>
   have hvis:oN dX (.mk vk vn vs ks) d x=pI dX ks (d+1) y:=by rw[oN,hst0]
   refine Z ?_;refine bJ.at bI (λa:Nat × VS=>a.1<=ks.length/\pI dX (ks.take a.1) (d+1) y=(true,a.2))
    (λa=>⟨[(1,.int .i64 d),(3,.ptr 4 0 0),(15,.il 4 (aQ ks)),(16,.int .i64 (aQ ks).length),(17,.int .i64 a.1)],wV a.2,5,28⟩)
    (λa=>ks.length-a.1) (0,y) [(0,0),(1,1),(2,2),(3,3),(4,4)] ⟨sq,rfl⟩
    (aH _ rfl ap ⟨aG,aM,aG,aG,aG,trivial⟩) ?_
   rintro⟨k,z⟩ ⟨hk,hz⟩;simp only at hk hz;have hcnt:=DT (ks.take k) (d+1) y;rw[hz] at hcnt;simp only at hcnt;refine Z ?_;refine aL (λh=>?_) (λh=>?_)
   .have hlt:k<ks.length:=Ma h;obtain⟨a,b,c,e,hm,hg',he,e1⟩:=dU hlt;have hst:=zL hlt;rw[he] at hst;have hst':=qY ks (k+1);have hdm:=zN hm;have hnext:=NQ dX hlt (d+1) y z hz;rw[he] at hnext;have hb2:z.1+bS (.mk a b c e)<=4398046511104:=om;have hih:=ih _ hm (d+1) z om hb2;generalize oN dX (.mk a b c e) (d+1) z=st2 at hih hnext;obtain⟨b2,z2⟩:=st2;refine Z ?_;refine aC e1 ?_;refine Z ?_;rw[w64 (x:=(d:Int)+1) (y:=((d+1:Nat):Int)) om oq];refine aJ.useI bI [0,1,2,3,4] hih ef (.s (.s (.cons (.ptr 3 3 0 0 rfl) (.cons (.ptr 4 4 0 0 rfl) .nil))))
     ap rfl ?_
    rintro r m n' ⟨rfl,rfl⟩;refine⟨nn,ap,rfl, ?_⟩;cases b2 with
    | false=>
     refine Z ?_;refine bL (n':=5) (m':=wV z2) [(0,0),(1,1),(2,2),(3,3),(4,4)] rfl ap cc ?_;have:=E3 dX (m:=ks.drop (k+1)) hnext;rw[List.take_append_drop] at this;rw[hvis,this];exact gj
    | true=>
     refine Z ?_;exact .mk (k+1,z2) [(0,0),(1,1),(2,2),(3,3),(4,4)] ⟨by simp only;omega,hnext⟩
      (aH _ rfl ap ⟨aG,aM,aG,aG,RF,trivial⟩) J'
   .have hk':k=ks.length:=by have:=MC h;omega
    refine Z ?_;refine bL (n':=5) (m':=wV z) [(0,0),(1,1),(2,2),(3,3),(4,4)] rfl ap cc ?_;rw[hk',ZK] at hz;rw[hvis,hz];exact gj
 termination_by v=>SizeOf.sizeOf v
 decreasing_by simp;have:=aAI hm;omega
theorem SQ:∀(v:bH) (x:VS),jG v->1+i8 v<=1099511627776->x.1+bS v<=4398046511104 ->
   aJ prog [] 190 [cC v,.fn (.func 191) [] [.ptr 0 0 0,.ptr 1 0 0,.ptr 2 0 0]] (vC x) 3 λr m _=>r = .tup []/\m=vC (oN dX v 1 x).2
 | .mk vk vn vs ks,x,hok,hd,hb=>by
  have hw:=QK (.mk vk vn vs ks) 1 x hok hd hb;generalize oN dX (.mk vk vn vs ks) 1 x=st at hw;obtain⟨b,y⟩:=st;refine aD bI func190 rfl ?_;refine Z ?_;refine aJ.useR bI [(0,0),(1,1),(2,2),(4,3),(5,4)] hw ef (.s (.cons (.int rfl) (.cons (.ptr 4 3 0 0 rfl) (.cons (.ptr 5 4 0 0 rfl) .nil))))
   ⟨aF 0 dQ,aF 1 dQ,aF 2 dQ,⟨4,_,rfl,rfl,UN rfl rfl rfl⟩,⟨5,_,rfl,rfl,OW rfl rfl⟩,trivial⟩ rfl ?_
  rintro r m n' ⟨rfl,rfl⟩;refine⟨[(0,cI y.1),(1,cB y.2.1),(2,cB y.2.2)],nn,⟨aF 0 dQ,aF 1 dQ,aF 2 dQ,trivial⟩,rfl, ?_⟩;refine Z ?_;exact bL (n':=3) (m':=vC y) [(0,0),(1,1),(2,2)] rfl ⟨aF 0 dQ,aF 1 dQ,aF 2 dQ,trivial⟩ cc gj 
theorem J0:∀v:bH,jG v->bS v<=1048576->aU prog [] 123 [cC v] (.int .i64 (hZ v))
 | .mk vk vn vs ks,hok,hs=>by
  have hd:=qV (.mk vk vn vs ks);have hw:=SQ (.mk vk vn vs ks) (0,true,true) hok om J';have hval:=ML (.mk vk vn vs ks);generalize hZ (.mk vk vn vs ks)=res at hval;generalize (oN dX (.mk vk vn vs ks) 1 (0,true,true)).2=y at hw hval;obtain⟨n,g,s⟩:=y;simp only at hval;refine aD bI func123 rfl ?_;refine Z ?_;refine aJ.useR bI [(1,0),(2,1),(3,2)] hw ef (.s (.cons (Xi rfl rfl rfl) .nil)) ⟨aF 1 dQ,aF 2 dQ,aF 3 dQ,trivial⟩ rfl ?_;rintro r m n' ⟨rfl,rfl⟩;refine⟨[(1,cI n),(2,cB g),(3,cB s)],nn,⟨aF 0 dQ,aF 1 dQ,aF 2 dQ,trivial⟩,rfl, ?_⟩;cases g with
  | false=>
   refine Z ?_;refine aA nn ⟨?_,rfl,rfl⟩;rw[<-hval];rfl
  | true=>
   cases s with
   | false=>
    refine Z ?_;refine aA nn ⟨?_,rfl,rfl⟩;rw[<-hval];simp
   | true=>
    refine Z ?_;refine aL (λh=>?_) (λh=>?_)
    .refine Z ?_;refine aA nn ⟨?_,rfl,rfl⟩;rw[<-hval,Y3 sq,Y7 bk]
    .refine Z ?_;refine aA nn ⟨?_,rfl,rfl⟩;rw[<-hval,Y3 sq,Y3 (by simp at h;simp;omega)]
end Go.Proofs.YthggfhnnkclooaaGreatDoor
namespace Go.Proofs.YthggfhnnkclooaaGreatDoor
open Go Go.Ax Go.Proofs Tryz
theorem LG(x:Nd)(ks:List bH):aU prog [] 68 [.ip (dM x),.il 4 (aQ ks)] (cC (dW x.name ks)):=by
 obtain⟨kind,name,lo,hi,ws,ls,vals,kids,⟨vk,vn,vs,vks⟩⟩:=x;refine aD bI func68 rfl ?_;unfold dW;refine Z ?_;refine aL (λh=>?_) (λh=>?_)
 .have h1:name=[]:=su h
  rw[Y7 h1];refine Z ?_;exact aA nn C'
 .have h1:¬name=[]:=su h
  rw[Y3 h1];refine Rt ?_;exact aA nn C' 
theorem Ur(x:Nd)(hx:tY x)(hs:bS x.value<=1048576)(hv:∀v∈x.values,bS v<=1048576)(h0:x.kind=0->x.values=[]):aU prog [] 63 [.ip (dM x)] (.int .i64 (fU (qA x))):=by
 have hV:=J0 x.value hx.value hs;have hvv:=hx.valuesI;have hvl:=hx.values;obtain⟨kind,name,lo,hi,ws,ls,vals,kids,⟨vk,vn,vs,vks⟩⟩:=x;simp only at hV hv h0 hvv hvl;refine aD bI func63 rfl ?_;refine Z ?_;refine aL (λh=>?_) (λh=>?_)
 .have h1:kind=0:=su h
  subst h1;have e:fU (qA ⟨0,name,lo,hi,ws,ls,vals,kids,.mk vk vn vs vks⟩)=hZ (.mk vk vn vs vks):=by
   rw[h0 rfl];simp only[qA,if_true,aAi,fU];split
   .rfl
   .rename_i h;simpa using (Decidable.not_not.1 h).symm
  rw[e];generalize hZ (.mk vk vn vs vks)=z at hV;refine Z ?_;refine hV.go ?_;refine Z ?_;exact aA nn C'
 .have h1:¬kind=0:=su h
  have e:qA ⟨kind,name,lo,hi,ws,ls,vals,kids,.mk vk vn vs vks⟩=vals:=by simp[qA,h1]
  rw[e];refine Z ?_;refine bJ.at bI (λi:Nat=>i<=vals.length/\fU vals=fU (vals.drop i)) (λi=>⟨[(19,.il 4 (aQ vals)),(20,.int .i64 vals.length),(21,.int .i64 i)],[],0,31⟩) (λi=>vals.length-i) 0 [] ⟨sq,sq⟩
   (b9 ⟨aP (.il' (aX _)),⟨_,rfl,.int (by rw[aB])⟩,aG,trivial⟩) ?_
  rintro i ⟨hi,hf⟩;refine Z ?_;refine aL (λh=>?_) (λh=>?_)
  .have hil:i<vals.length:=su h
   have ei:(aQ vals)[((i:Nat):Int).toNat]? = some (cC vals[i]):=by simp[jH,Yz hil]
   have hm:=Za hil;have hV2:=J0 vals[i] (hvv _ hm).1 (hv _ hm);rw[List.drop_eq_getElem_cons hil,fU] at hf;generalize vals[i]=y at ei hV2 hf;generalize hZ y=z at hV2 hf;obtain⟨y1,y2,y3,y4⟩:=y;refine Z ?_;refine aC ei ?_;refine Z ?_;refine hV2.go ?_;refine Z ?_;refine aL (λh2=>?_) (λh2=>?_)
   .have e:z≠0:=su h2
    rw[Y7 e] at hf;rw[hf];refine Z ?_;exact aA nn C'
   .have e:¬z≠0:=su h2
    rw[Y3 e] at hf;refine Z ?_;exact .mk (i+1) [] ⟨om,hf⟩ (b9 ⟨aP (.il' (aX _)),aG,RF,trivial⟩) om
  .have hil:i=vals.length:=by simp at h;omega
   rw[hil,aAn,fU] at hf;rw[hf];refine Z ?_;exact aA nn C' 
theorem Uf(x:Nd)(hx:tY x):aU prog [] 64 [.ip (dM x)] (.bool (Go.Ax.d6 x)):=by
 have b1:=hx.lo;have b2:=hx.hi;have b3:=hx.weights;clear hx;obtain⟨kind,name,lo,hi,ws,ls,vals,kids,⟨vk,vn,vs,vks⟩⟩:=x;simp only[i64] at b1 b2 b3;have hnum:Go.Ax.d6 ⟨kind,name,lo,hi,ws,ls,vals,kids,.mk vk vn vs vks⟩=(decide (lo<=hi) && decide (-4611686018427387904<=lo) && decide (hi<=4611686018427387904) && decide (hi<lo+1099511627776) && ws.all λw=>decide (1<=w) && decide (w<=1000)):=rfl;generalize Go.Ax.d6 ⟨kind,name,lo,hi,ws,ls,vals,kids,.mk vk vn vs vks⟩=res at hnum;have hF:∀P:Prop,(res=true->P)->(¬P)->res=false:=λP h1 h2=>by
  cases hr:res with
  | false=>rfl
  | true=>exact absurd (h1 hr) h2
 refine aD bI func64 rfl ?_;refine Rt ?_;by_cases h1:lo<=hi
 .have d1:decide (lo>hi)=false:=by simp;omega
  rw[d1];refine Rt ?_;by_cases h2 : -4611686018427387904<=lo
  .have d2:decide (lo < -4611686018427387904)=false:=by simp;omega
   rw[d2];refine Rt ?_;by_cases h3:hi<=4611686018427387904
   .have d3:decide (hi>4611686018427387904)=false:=by simp;omega
    rw[d3];refine Rt ?_;have hw:IntKind.u64.wrap (IntKind.u64.wrap hi-IntKind.u64.wrap lo)=hi-lo:=by rw[kA,kA,kA];omega
    simp only[hw];by_cases h4:hi<lo+1099511627776
    .have d4:decide (hi-lo≥1099511627776)=false:=by simp;omega
     rw[d4];refine Z ?_;refine bJ.at bI (λk:Nat=>k<=ws.length/\∀j w,j<k->ws[j]? = some w->1<=w/\w<=1000)
      (λk=>⟨[(45,.il 1 (aY ws)),(46,.int .i64 ws.length),(47,.int .i64 k)],[],0,58⟩) (λk=>ws.length-k) 0 [] ⟨sq,sq⟩
      (b9 ⟨aP (.il' (aW _)),gp,aG,trivial⟩) ?_
     rintro k ⟨hk,hall⟩;refine Z ?_;refine aL (λh=>?_) (λh=>?_)
     .have hlt:k<ws.length:=su h
      have e1:(aY ws)[(k:Int).toNat]? = some (.int .i64 ws[k]):=ck
      have hg:ws[k]? = some ws[k]:=Yz hlt;generalize ws[k]=w at e1 hg;have hbad:(1<=w/\w<=1000->False)->res=false:=λhb=>hF (1<=w/\w<=1000) (by
       intro e;rw[hnum] at e;simp only[Y6,Z8,Zc] at e;exact e.2 w (Y5 hg)) hb
      refine Z ?_;refine aC e1 ?_;refine Z ?_;by_cases g1:1<=w
      .have d1:decide (w<1)=false:=by simp;omega
       rw[d1];refine Z ?_;refine aL (λh=>?_) (λh=>?_)
       .refine Z ?_;refine aA nn ⟨?_,rfl,rfl⟩;rw[hbad bk]
       .have g2:w<=1000:=su h
        refine Z ?_;refine .mk (k+1) [] ⟨om,λj w2 hj hw2=>?_⟩ (b9 ⟨aP (.il' (aW _)),aG,RF,trivial⟩) om;rcases ZL j k with hj'|hj'
        .exact hall j w2 hj' hw2
        .have hjk:j=k:=om;rw[hjk,hg] at hw2;cases hw2;exact⟨g1,g2⟩
      .have d1:decide (w<1)=true:=by simp;omega
       rw[d1];refine Z ?_;refine aA nn ⟨?_,rfl,rfl⟩;rw[hbad om]
     .have hk':k=ws.length:=by simp at h;omega
      refine Z ?_;refine aA nn ⟨?_,rfl,rfl⟩;rw[hnum];congr 1;symm;simp only[Y6,Z8,Zc];refine⟨⟨⟨⟨h1,h2⟩,h3⟩,h4⟩,λw hw=>?_⟩;obtain⟨j,hj⟩:=Zl hw;exact hall j w (by rw[hk'];exact(Y4.1 hj).1) hj
    .have d4:decide (hi-lo≥1099511627776)=true:=by simp;omega
     rw[d4];refine Z ?_;refine aA nn ⟨?_,rfl,rfl⟩;rw[hF (hi<lo+1099511627776) cz h4]
   .have d3:decide (hi>4611686018427387904)=true:=by simp;omega
    rw[d3];refine Z ?_;refine aA nn ⟨?_,rfl,rfl⟩;rw[hF (hi<=4611686018427387904) cz h3]
  .have d2:decide (lo < -4611686018427387904)=true:=by simp;omega
   rw[d2];refine Z ?_;refine aA nn ⟨?_,rfl,rfl⟩;rw[hF (-4611686018427387904<=lo) cz h2]
 .have d1:decide (lo>hi)=true:=by simp;omega
  rw[d1];refine Z ?_;refine aA nn ⟨?_,rfl,rfl⟩;rw[hF (lo<=hi) cz h1]
theorem Lm(bs:List Int)(x:Nd)(hx:tY x)(hkl:x.kids.length<=65536)(hb:∀y∈bs,0<=y/\y<=1024)(hk:∀(j:Nat) (k:Int),x.kids[j]? = some k->0<=k/\k<bs.length)(h4:4<=x.kind->0<x.kids.length)(hkind:0<=x.kind/\x.kind<=4) :
  aU prog [] 67 [.ip (dM x),.il 1 (aY bs)] (.int .i64 (Go.Ax.f8 bs x)):=by
 have hxn:=bP x;have hat:∀k:Int,0<=eP bs k/\eP bs k<=1024:=λk=>by
  unfold eP;rw[Y0];cases h:bs[k.toNat]? with
  | none=>simp
  | some y=>exact hb y (Y5 h)
 have eat:∀k:Int,0<=k->k<bs.length->(aY bs)[k.toNat]? = some (.int .i64 (eP bs k)):=λk h0 h1=>by
  have:k.toNat<bs.length:=om;rw[bU,Yz this];unfold eP;rw[Y0,Yz this];rfl
 have hs:=λl=>jY (b:=bs) (M:=1024) om hb l
 have hm:=λl=>iK (b:=bs) (M:=1024) om hb l
 have hlen:Go.Ax.f8 bs x=if x.kind=0 then 0 else if x.kind=1 then 1 else if x.kind=3 then gB bs x.kids else if x.kind=2 then 1+c9 bs (eT x) else eP bs (x.kids.getD 0 0)+c9 bs (eT x):=rfl
 have hM:∀k:Nat,k<x.kids.length->(c9 bs (if x.kind=2 then x.kids.take (k+1) else(x.kids.take (k+1)).drop 1))=if 0<k\/x.kind=2 then max (c9 bs (if x.kind=2 then x.kids.take k else(x.kids.take k).drop 1)) (eP bs (x.kids.getD k 0)) else c9 bs (if x.kind=2 then x.kids.take k else(x.kids.take k).drop 1):=λk hk=>by
  have eg:x.kids.getD k 0=x.kids[k]:=by rw[Y0,Yz hk];rfl
  rw[eg];by_cases e2:x.kind=2
  .rw[Y7 e2,Y7 (.inr e2),Y7 e2,s6 hk]
  .rw[Y3 e2,Y3 e2];by_cases e0:0<k
   .rw[Y7 (.inl e0),pZ hk e0]
   .rw[Y3 om];have:k=0:=om;subst this;simp[c9,Zm]
 obtain⟨kind,name,lo,hi,ws,ls,vals,kids,⟨vk,vn,vs,vks⟩⟩:=x;simp only at hkl hk h4 hkind hlen hM;generalize Go.Ax.f8 bs ⟨kind,name,lo,hi,ws,ls,vals,kids,.mk vk vn vs vks⟩=res at hlen;refine aD bI func67 rfl ?_;refine Z ?_;refine bJ.at bI (λp:Nat × Int × Int=>p.1<=kids.length/\p.2.1=gB bs (kids.take p.1)/\p.2.2=c9 bs (if kind=2 then kids.take p.1 else(kids.take p.1).drop 1))
  (λp=>⟨[(0,.ip (dM ⟨kind,name,lo,hi,ws,ls,vals,kids,.mk vk vn vs vks⟩)),(1,.il 1 (aY bs)),(5,.int .i64 p.2.1),(6,.int .i64 p.2.2),(12,.il 1 (aY kids)),(13,.int .i64 kids.length),(14,.int .i64 p.1)],[],0,67⟩)
  (λp=>kids.length-p.1) (0,0,0) [] ⟨sq,by simp[gB],by simp[c9]⟩
  (b9 ⟨aP (.ip _ (hxn.cells.get)),aP (.il' (aW _)),aG,aG,aP (.il' (aW _)),gp,aG,trivial⟩) ?_
 rintro⟨k,sum,most⟩ ⟨hkk,hsum,hmost⟩;simp only at hkk hsum hmost |-;have bsum:=hs (kids.take k);rw[<-hsum] at bsum;have bm:=hm (if kind=2 then kids.take k else(kids.take k).drop 1);rw[<-hmost] at bm;have btk:(kids.take k).length<=65536:=B'
 refine Z ?_;refine aL (λh=>?_) (λh=>?_)
 .have hlt:k<kids.length:=su h
  have e1:(aY kids)[(k:Int).toNat]? = some (.int .i64 kids[k]):=ck
  obtain⟨q0,q1⟩:=hk k _ (Yz hlt);have hst:=wA (b:=bs) hlt;have hM:=hM k hlt;have eg:kids.getD k 0=kids[k]:=by rw[Y0,Yz hlt];rfl
  rw[<-hsum] at hst;rw[eg,<-hmost] at hM;generalize kids[k]=q at e1 q0 q1 hst hM;obtain⟨q,rfl⟩:=ZU q0;have e2:=eat q q0 q1;have hq:=hat q;generalize eP bs q=z at e2 hq hst hM;have hw:IntKind.i64.wrap (sum+z)=sum+z:=bF oq;refine Z ?_;repeat((first|refine aC e1 ?_|refine aC e2 ?_);refine Z ?_)
  by_cases k0:0<k
  .have d0:decide ((k:Int)>0)=true:=by simp;omega
   rw[d0];refine Z ?_;repeat((first|refine aC e1 ?_|refine aC e2 ?_);refine Z ?_)
   exact .mk (k+1,sum+z,max most z) [] ⟨by simp only;omega,by simp only;rw[hst],by simp only;rw[hM,Y7 (.inl k0)]⟩ (b9 ⟨aP (.ip _ (hxn.cells.get)),aP (.il' (aW _)),⟨_,rfl,.int (by simp only;exact hw)⟩,⟨_,rfl,.int (by simp only;split<;>omega)⟩,aP (.il' (aW _)),aG,⟨_,rfl,.wp⟩,trivial⟩) J'
  .have k0':k=0:=om;have d0:decide ((k:Int)>0)=false:=by simp;omega
   rw[d0];refine Z ?_;by_cases k2:kind=2
   .subst k2;refine Z ?_;repeat((first|refine aC e1 ?_|refine aC e2 ?_);refine Z ?_)
    exact .mk (k+1,sum+z,max most z) [] ⟨by simp only;omega,by simp only;rw[hst],by show max most z=c9 bs (if (2:Int)=2 then kids.take (k+1) else(kids.take (k+1)).drop 1);rw[hM,Y7 (.inr rfl)]⟩ (b9 ⟨aP (.ip _ (hxn.cells.get)),aP (.il' (aW _)),⟨_,rfl,.int (by simp only;exact hw)⟩,⟨_,rfl,.int (by simp only;split<;>omega)⟩,aP (.il' (aW _)),aG,⟨_,rfl,.wp⟩,trivial⟩) J'
   .have d2:(kind == 2)=false:=su k2
    rw[d2];refine Z ?_;exact .mk (k+1,sum+z,most) [] ⟨by simp only;omega,by simp only;rw[hst],by simp only;rw[hM,Y3 om]⟩ (b9 ⟨aP (.ip _ (hxn.cells.get)),aP (.il' (aW _)),⟨_,rfl,.int (by simp only;exact hw)⟩,aG,aP (.il' (aW _)),aG,⟨_,rfl,.wp⟩,trivial⟩) J'
 .have hk':k=kids.length:=by simp at h;omega
  subst hk';rw[ZK] at hsum hmost;have har:eT ⟨kind,name,lo,hi,ws,ls,vals,kids,.mk vk vn vs vks⟩=if kind=2 then kids else kids.drop 1:=rfl
  rw[har,<-hmost,<-hsum] at hlen;rcases(show kind=0\/kind=1\/kind=2\/kind=3\/kind=4 by omega) with rfl|rfl|rfl|rfl|rfl
  .rw[hlen,Y7 rfl];refine Z ?_;exact aA nn C'
  .rw[hlen,Y3 H',Y7 rfl];refine Z ?_;exact aA nn C'
  .rw[hlen,Y3 H',Y3 H',Y3 H',Y7 rfl];refine Z ?_;rw[bF (n:=1+most) oq];exact aA nn C'
  .rw[hlen,Y3 H',Y3 H',Y7 rfl];refine Z ?_;exact aA nn C'
  .rw[hlen,Y3 H',Y3 H',Y3 H',Y3 H'];have hlt:0<kids.length:=h4 om;have e1:(aY kids)[(0:Int).toNat]? = some (.int .i64 kids[0]):=by rw[show (0:Int).toNat=0 from rfl,bU,Yz hlt];rfl
   obtain⟨q0,q1⟩:=hk 0 _ (Yz hlt);have eg:kids.getD 0 0=kids[0]:=by rw[Y0,Yz hlt];rfl
   rw[eg];generalize kids[0]=q at e1 q0 q1;obtain⟨q,rfl⟩:=ZU q0;have e2:=eat q q0 q1;have hq:=hat q;generalize eP bs q=z at e2 hq;refine Z ?_;repeat((first|refine aC e1 ?_|refine aC e2 ?_);refine Z ?_)
   rw[bF (n:=z+most) oq];exact aA nn C' 
mutual
theorem Lo:∀(a b:bH),c8 a b=0->a=b
 | .mk k n s ks,.mk k' n' s' ks',h=>by
  simp only[c8,andThen] at h;split at h
  .rename_i h1;split at h
   .rename_i h2;split at h
    .rename_i h3;have e1:k=k':=Decidable.byContradiction λe=>v7 e h1
     have e2:n=n':=Decidable.byContradiction λe=>v7 e h2
     rw[e1,e2,pE h3,Ll ks ks' h]
    .rename_i h3;exact absurd h h3
   .rename_i h2;exact absurd h h2
  .rename_i h1;exact absurd h h1
theorem Ll:∀(l m:List bH),g7 l m=0->l=m
 | [],[],_=>rfl
 | [],_::_,h=>by simp[g7] at h
 | _::_,[],h=>by simp[g7] at h
 | a::l,b::m,h=>by
  simp only[g7,andThen] at h;split at h
  .rename_i h1;rw[Lo a b h1,Ll l m h]
  .rename_i h1;exact absurd h h1
end
def tH(x:Nd):Bool:=decide (0<=x.kind) && decide (x.kind<=4) && kC x
theorem CM{v:bH}:iS [] [] [cC v,.agg [.int .i64 0,.int .i64 0,.str [],.nsl]] [cC v,cC (.mk 0 0 [] [])]:=
 .cons (.same _ (bZ v)) (.cons (.agg' bf) .nil)
theorem UT(x:Nd)(hx:tY x):aU prog [] 61 [.ip (dM x)] (.bool (tH x)):=by
 have hC:=pO x.value (.mk 0 0 [] []) hx.value;have hz:(c8 x.value (.mk 0 0 [] []) == 0)=DX x.value:=by
  obtain⟨k,n,s,ks⟩:=x.value;rw[Zv];simp only[DX,Y6,Zc,beq_iff_eq];constructor
  .intro h;have:=Lo _ _ h;cases this;simp
  .rintro⟨⟨⟨rfl,rfl⟩,rfl⟩,h⟩;have:ks=[]:=aAs.1 h;subst this;exact(nC _).refl
 have hres:tH x=(decide (0<=x.kind) && decide (x.kind<=4) && ((decide (x.kind=0) || DX x.value) && (decide (x.kind=1) || (decide (x.lo=0) && decide (x.hi=0))) && (decide (x.kind=3) || decide (x.name=[])) &&
  (decide (x.kind=2) || (decide (x.weights.length=0) && decide (x.labels.length=0))) && (decide (x.kind=4) || decide (x.values.length=0)) && ((decide (x.kind≠0) && decide (x.kind≠1)) || decide (x.kids.length=0)))):=rfl
 generalize tH x=res at hres;rw[<-hz] at hres;obtain⟨c,hc⟩:∃c,c=c8 x.value (.mk 0 0 [] []):=cm
 rw[<-hc] at hC hres;clear hz hc hx;obtain⟨kind,name,lo,hi,ws,ls,vals,kids,⟨vk,vn,vs,vks⟩⟩:=x;simp only at hres hC;have eW:(((aY ws).length:Int) == 0)=decide (ws.length=0):=by rw[aN,Zv];simp
 have eL:(((tL ls).length:Int) == 0)=decide (ls.length=0):=by rw[eC,Zv];simp
 have eV:(((aQ vals).length:Int) == 0)=decide (vals.length=0):=by rw[aB,Zv];simp
 have eK:(((aY kids).length:Int) == 0)=decide (kids.length=0):=by rw[aN,Zv];simp
 have eN:(name == [])=decide (name=[]):=by rw[Zv];simp
 have e1:(lo == 0)=decide (lo=0):=by rw[Zv];simp
 have e2:(hi == 0)=decide (hi=0):=by rw[Zv];simp
 refine aD bI func61 rfl ?_;rcases(show kind=0\/kind=1\/kind=2\/kind=3\/kind=4\/(kind<0\/4<kind) by omega) with rfl|rfl|rfl|rfl|rfl|hk
 .refine Z ?_;rw[e1];generalize decide (lo=0)=b1 at hres |-;cases b1 with
  | false=>
   refine Z ?_;exact aA nn T'
  | true=>
  refine Z ?_;rw[e2];generalize decide (hi=0)=b2 at hres |-;cases b2 with
  | false=>
   refine Z ?_;exact aA nn T'
  | true=>
  refine Z ?_;rw[eW];generalize decide (ws.length=0)=b3 at hres |-;cases b3 with
  | false=>
   refine Z ?_;exact aA nn T'
  | true=>
  refine Z ?_;rw[eL];generalize decide (ls.length=0)=b4 at hres |-;cases b4 with
  | false=>
   refine Z ?_;exact aA nn T'
  | true=>
  refine Z ?_;rw[eN];generalize decide (name=[])=b5 at hres |-;cases b5 with
  | false=>
   refine Z ?_;exact aA nn T'
  | true=>
  refine Z ?_;rw[eV];generalize decide (vals.length=0)=b6 at hres |-;cases b6 with
  | false=>
   refine Z ?_;exact aA nn T'
  | true=>
  refine Z ?_;rw[eK];generalize decide (kids.length=0)=b7 at hres |-;cases b7 with
  | false=>
   refine Z ?_;exact aA nn T'
  | true=>
  refine Z ?_;exact aA nn T'
 .refine Z ?_;refine hC.useC bI CM nn ?_;refine Z ?_;generalize (c == 0)=b1 at hres |-;cases b1 with
  | false=>
   refine Z ?_;exact aA nn T'
  | true=>
  refine Z ?_;rw[eW];generalize decide (ws.length=0)=b2 at hres |-;cases b2 with
  | false=>
   refine Z ?_;exact aA nn T'
  | true=>
  refine Z ?_;rw[eL];generalize decide (ls.length=0)=b3 at hres |-;cases b3 with
  | false=>
   refine Z ?_;exact aA nn T'
  | true=>
  refine Z ?_;rw[eN];generalize decide (name=[])=b4 at hres |-;cases b4 with
  | false=>
   refine Z ?_;exact aA nn T'
  | true=>
  refine Z ?_;rw[eV];generalize decide (vals.length=0)=b5 at hres |-;cases b5 with
  | false=>
   refine Z ?_;exact aA nn T'
  | true=>
  refine Z ?_;rw[eK];generalize decide (kids.length=0)=b6 at hres |-;cases b6 with
  | false=>
   refine Z ?_;exact aA nn T'
  | true=>
  refine Z ?_;exact aA nn T'
 .refine Z ?_;refine hC.useC bI CM nn ?_;refine Z ?_;generalize (c == 0)=b1 at hres |-;cases b1 with
  | false=>
   refine Z ?_;exact aA nn T'
  | true=>
  refine Z ?_;rw[e1];generalize decide (lo=0)=b2 at hres |-;cases b2 with
  | false=>
   refine Z ?_;exact aA nn T'
  | true=>
  refine Z ?_;rw[e2];generalize decide (hi=0)=b3 at hres |-;cases b3 with
  | false=>
   refine Z ?_;exact aA nn T'
  | true=>
  refine Z ?_;rw[eN];generalize decide (name=[])=b4 at hres |-;cases b4 with
  | false=>
   refine Z ?_;exact aA nn T'
  | true=>
  refine Z ?_;rw[eV];generalize decide (vals.length=0)=b5 at hres |-;cases b5 with
  | false=>
   refine Z ?_;exact aA nn T'
  | true=>
  refine Z ?_;exact aA nn T'
 .refine Z ?_;refine hC.useC bI CM nn ?_;refine Z ?_;generalize (c == 0)=b1 at hres |-;cases b1 with
  | false=>
   refine Z ?_;exact aA nn T'
  | true=>
  refine Z ?_;rw[e1];generalize decide (lo=0)=b2 at hres |-;cases b2 with
  | false=>
   refine Z ?_;exact aA nn T'
  | true=>
  refine Z ?_;rw[e2];generalize decide (hi=0)=b3 at hres |-;cases b3 with
  | false=>
   refine Z ?_;exact aA nn T'
  | true=>
  refine Z ?_;rw[eW];generalize decide (ws.length=0)=b4 at hres |-;cases b4 with
  | false=>
   refine Z ?_;exact aA nn T'
  | true=>
  refine Z ?_;rw[eL];generalize decide (ls.length=0)=b5 at hres |-;cases b5 with
  | false=>
   refine Z ?_;exact aA nn T'
  | true=>
  refine Z ?_;rw[eV];generalize decide (vals.length=0)=b6 at hres |-;cases b6 with
  | false=>
   refine Z ?_;exact aA nn T'
  | true=>
  refine Z ?_;exact aA nn T'
 .refine Z ?_;refine hC.useC bI CM nn ?_;refine Z ?_;generalize (c == 0)=b1 at hres |-;cases b1 with
  | false=>
   refine Z ?_;exact aA nn T'
  | true=>
  refine Z ?_;rw[e1];generalize decide (lo=0)=b2 at hres |-;cases b2 with
  | false=>
   refine Z ?_;exact aA nn T'
  | true=>
  refine Z ?_;rw[e2];generalize decide (hi=0)=b3 at hres |-;cases b3 with
  | false=>
   refine Z ?_;exact aA nn T'
  | true=>
  refine Z ?_;rw[eW];generalize decide (ws.length=0)=b4 at hres |-;cases b4 with
  | false=>
   refine Z ?_;exact aA nn T'
  | true=>
  refine Z ?_;rw[eL];generalize decide (ls.length=0)=b5 at hres |-;cases b5 with
  | false=>
   refine Z ?_;exact aA nn T'
  | true=>
  refine Z ?_;rw[eN];generalize decide (name=[])=b6 at hres |-;cases b6 with
  | false=>
   refine Z ?_;exact aA nn T'
  | true=>
  refine Z ?_;exact aA nn T'
 .rcases hk with hk|hk
  .have d0:decide (kind≥0)=false:=by simp;omega
   refine Z ?_;rw[d0];refine Z ?_;exact aA nn ⟨by rw[hres,ZG (show ¬0<=kind by omega)];simp,rfl,rfl⟩
  .have d0:decide (kind≥0)=true:=by simp;omega
   have d1:decide (kind<=4)=false:=B'
   refine Z ?_;rw[d0];refine Z ?_;rw[d1];refine Z ?_;exact aA nn ⟨by rw[hres,d1];simp,rfl,rfl⟩
theorem RK(ns:List Nd)(i:Nat)(x:Nd)(hl:ns.length<=4294967296)(hi:ns[i]? = some x)(hx:tY x)(hvl:x.values.length<=1000000)(hc:tH x=true) :
  aU prog [] 62 [.ip (.agg [.il 12 (bG ns),.junk,.junk,.junk]),.int .i64 i] (.bool (dS i x)):=by
 have hil:=(Y4.1 hi).1;have ex:(bG ns)[(i:Int).toNat]? = some (dM x):=by simp[o8,hi]
 have b1:=hx.kids;have hxn:=bP x;have hnn:=bB ns;have hcmp:∀a∈x.values,∀b,aU prog [] 104 [cC a,cC b] (.int .i64 (c8 a b)):=λa ha b=>pO a b (hx.valuesI a ha).1
 have hV:=J0 (.mk 3 0 x.name []) (mJ oq oq hx.name sq (by simp[zO])) (by simp[bS,c7]);have hcap:(hZ (.mk 3 0 x.name []) == 0)=gA x.name:=by
  simp only[hZ,cQ,dL,Go.Ax.d9,oP,An,rT,bS,c7];cases gA x.name<;>simp
 have hres:dS i x=(kC x && (decide (0<=x.kind) && decide (x.kind<=4)) && uU i x.kids && (decide (x.kind≠2) || (decide (1<=x.kids.length) && decide (x.kids.length<=256) && decide (x.weights.length=x.kids.length) && (decide (x.labels.length=0) || decide (x.labels.length=x.kids.length)))) &&
  (decide (x.kind≠3) || (decide (x.kids.length<=256) && (decide (x.name=[]) || (gA x.name && decide (x.kids.length<=16))))) && (decide (x.kind≠4) || decide (x.kids.length=x.values.length+1)) && gH x.values):=rfl
 simp only[tH,Y6,Zc] at hc;obtain⟨⟨hk0,hk4⟩,hun⟩:=hc;rw[hun,Y8 hk0,Y8 hk4] at hres;have hvs:x.kind≠4->x.values=[]:=λh=>by
  unfold kC at hun;simp only[Y6,aAb,Zc] at hun;rcases hun.1.2 with h'|h'
  .exact absurd h' h
  .exact aAs.1 h'
 generalize dS i x=res at hres;rw[<-hcap] at hres;generalize hZ (.mk 3 0 x.name [])=cv at hV hres;clear hx hcap hi hun;obtain⟨kind,name,lo,hi,ws,ls,vals,kids,⟨vk,vn,vs,vks⟩⟩:=x;simp only at hres hV hcmp hvs hk0 hk4 b1 hvl;have hF:(res=true->False)->AV.bool false=AV.bool res:=λh1=>by
  cases hr:res with
  | false=>rfl
  | true=>exact(h1 hr).elim
 refine aD bI func62 rfl ?_;refine Z ?_;repeat(refine aC ex ?_;refine Z ?_)
 refine bJ.at bI (λk:Nat=>k<=kids.length/\∀(j:Nat) (q:Int),j<k->kids[j]? = some q->0<=q/\q<i)
  (λk=>⟨[(1,.int .i64 i),(5,.ip (dM ⟨kind,name,lo,hi,ws,ls,vals,kids,.mk vk vn vs vks⟩)),(6,.int .i64 kids.length),(24,.il 1 (aY kids)),(25,.int .i64 kids.length),(26,.int .i64 k)],[],0,132⟩) (λk=>kids.length-k) 0 [] ⟨sq,sq⟩
  (b9 ⟨aG,aP (.ip _ (hxn.cells.get)),gp,aP (.il' (aW _)),gp,aG,trivial⟩) ?_
 rintro k ⟨hk,hall⟩;refine Z ?_;refine aL (λh=>?_) (λh=>?_)
 .have hlt:k<kids.length:=su h
  have e1:(aY kids)[(k:Int).toNat]? = some (.int .i64 kids[k]):=ck
  have hg:kids[k]? = some kids[k]:=Yz hlt;generalize kids[k]=q at e1 hg;have hbad:(0<=q/\q<i->False)->AV.bool false=AV.bool res:=λhb=>hF (by
   intro e;rw[hres] at e;simp only[Y6] at e;exact hb (pX.1 e.1.1.1.1.2 k q hg))
  refine Z ?_;refine aC e1 ?_;refine Z ?_;by_cases g1:0<=q
  .have d1:decide (q<0)=false:=by simp;omega
   rw[d1];refine Z ?_;refine aL (λh=>?_) (λh=>?_)
   .refine Z ?_;exact aA nn ⟨hbad bk,rfl,rfl⟩
   .have g2:q<i:=su h
    refine Z ?_;refine .mk (k+1) [] ⟨om,λj w2 hj hw2=>?_⟩ (b9 ⟨aG,aP (.ip _ (hxn.cells.get)),aG,aP (.il' (aW _)),aG,RF,trivial⟩) om;rcases ZL j k with hj'|hj'
    .exact hall j w2 hj' hw2
    .have hjk:j=k:=om;rw[hjk,hg] at hw2;cases hw2;exact⟨g1,g2⟩
  .have d1:decide (q<0)=true:=by simp;omega
   rw[d1];refine Z ?_;exact aA nn ⟨hbad om,rfl,rfl⟩
 .have hk':k=kids.length:=by simp at h;omega
  have hkin:uU i kids=true:=pX.2 λj q hj=>hall j q (by rw[hk'];exact(Y4.1 hj).1) hj
  rw[hkin] at hres;clear hall hk hk' h hkin;rcases(show kind=0\/kind=1\/kind=2\/kind=3\/kind=4 by omega) with rfl|rfl|rfl|rfl|rfl
  .obtain rfl:=hvs H';refine Z ?_;exact aA nn ⟨by rw[hres];simp[gH],rfl,rfl⟩
  .obtain rfl:=hvs H';refine Z ?_;exact aA nn ⟨by rw[hres];simp[gH],rfl,rfl⟩
  .obtain rfl:=hvs H';have f1:decide ((kids.length:Int)≥1)=decide (1<=kids.length):=by rw[Zv];simp;omega
   have f2:decide ((kids.length:Int)<=256)=decide (kids.length<=256):=by rw[Zv];simp;omega
   have f3:(((aY ws).length:Int) == (kids.length:Int))=decide (ws.length=kids.length):=by rw[aN,Zv];simp;omega
   have f4:(((tL ls).length:Int) == 0)=decide (ls.length=0):=by rw[eC,Zv];simp
   have f5:(((tL ls).length:Int) == (kids.length:Int))=decide (ls.length=kids.length):=by rw[eC,Zv];simp;omega
   refine Z ?_;rw[f1];generalize decide (1<=kids.length)=b1 at hres |-;cases b1 with
   | false=>
    refine Z ?_;exact aA nn T'
   | true=>
   refine Z ?_;rw[f2];generalize decide (kids.length<=256)=b2 at hres |-;cases b2 with
   | false=>
    refine Z ?_;exact aA nn T'
   | true=>
   refine Z ?_;rw[f3];generalize decide (ws.length=kids.length)=b3 at hres |-;cases b3 with
   | false=>
    refine Z ?_;exact aA nn T'
   | true=>
   refine Z ?_;rw[f4];generalize decide (ls.length=0)=b4 at hres |-;cases b4 with
   | true=>
    refine Z ?_;exact aA nn ⟨by rw[hres];simp[gH],rfl,rfl⟩
   | false=>
    refine Z ?_;rw[f5];exact aA nn ⟨by rw[hres];simp[gH],rfl,rfl⟩
  .obtain rfl:=hvs H';have f1:decide ((kids.length:Int)<=16)=decide (kids.length<=16):=by rw[Zv];simp;omega
   have f2:decide ((kids.length:Int)<=256)=decide (kids.length<=256):=by rw[Zv];simp;omega
   refine Z ?_;refine aL (λh=>?_) (λh=>?_)
   .have hn:name=[]:=su h
    rw[Y8 hn] at hres;refine Z ?_;rw[f2];exact aA nn ⟨by rw[hres];simp[gH],rfl,rfl⟩
   .have hn:¬name=[]:=su h
    rw[ZG hn] at hres;refine Z ?_;rw[f1];by_cases g:kids.length<=16
    .rw[Y8 g] at hres |-;rw[Y8 (show kids.length<=256 by omega)] at hres;refine Z ?_;refine hV.useC bI (.cons (.agg' bf) .nil) nn ?_;refine Z ?_;exact aA nn ⟨by rw[hres];simp[gH],rfl,rfl⟩
    .rw[ZG g] at hres |-;refine Z ?_;exact aA nn T'
  .have hw4:IntKind.i64.wrap ((vals.length:Int)+1)=(vals.length:Int)+1:=w64 rfl oq;refine Z ?_;refine bJ.at bI (λk:Nat=>1<=k/\k<=max 1 vals.length/\∀(j:Nat) (a b:bH),j+1<k->vals[j]? = some a->vals[j+1]? = some b->c8 a b<0)
    (λk=>⟨[(5,.ip (dM ⟨4,name,lo,hi,ws,ls,vals,kids,.mk vk vn vs vks⟩)),(6,.int .i64 kids.length),(9,.int .i64 k)],[],0,132⟩) (λk=>vals.length-k) 1 [] ⟨om,om,λj a b h=>om⟩
    (b9 ⟨aP (.ip _ (hxn.cells.get)),aG,aG,trivial⟩) ?_
   rintro k ⟨hk1,hk2,hall⟩;refine Z ?_;refine aL (λh=>?_) (λh=>?_)
   .have hlt:k<vals.length:=by rw[aB] at h;simpa using h
    obtain⟨p1,p2,p3,p4,pm,pg,-,ep⟩:=dU (l:=vals) (k:=k-1) om;obtain⟨q1,q2,q3,q4,qm,qg,-,eq⟩:=dU (l:=vals) (k:=k) hlt;have hw1:IntKind.i64.wrap ((k:Int)-1)=((k-1:Nat):Int):=w64 om oq;have hc:=hcmp _ pm (.mk q1 q2 q3 q4);obtain⟨c,hc0⟩:∃c,c=c8 (.mk p1 p2 p3 p4) (.mk q1 q2 q3 q4):=cm
    rw[<-hc0] at hc;refine Rt ?_;rw[hw1];refine Z ?_;repeat((first|refine aC ep ?_|refine aC eq ?_|refine bK ?_);refine Z ?_)
    refine hc.go ?_;refine Z ?_;repeat((first|refine aC ep ?_|refine aC eq ?_|refine bK ?_);refine Z ?_)
    refine aL (λh=>?_) (λh=>?_)
    .refine Z ?_;refine aA nn ⟨hF ?_,rfl,rfl⟩;intro e;rw[hres] at e;simp only[Y6] at e;have:=y8 e.2 (k-1) _ _ pg (by rw[show k-1+1=k by omega];exact qg);rw[<-hc0] at this;simp at h;omega
    .refine Z ?_;refine .mk (k+1) [] ⟨om,om,λj a b hj ha hb=>?_⟩ (b9 ⟨aP (.ip _ (hxn.cells.get)),aG,RF,trivial⟩) om;rcases ZL (j+1) k with hj'|hj'
     .exact hall j a b hj' ha hb
     .have hjk:j=k-1:=om;subst hjk;rw[pg] at ha;rw[show k-1+1=k by omega,qg] at hb;cases ha;cases hb;rw[<-hc0];simpa using h
   .have hlt:vals.length<=k:=by rw[aB] at h;simpa using h
    have hso:gH vals=true:=yX λj a b ha hb=>hall j a b (by have:=(Y4.1 hb).1;omega) ha hb
    rw[hso] at hres;refine Z ?_;rw[aB,hw4];refine aA nn ⟨?_,rfl,rfl⟩;rw[hres];congr 1;rw[Zv];simp;omega
theorem bV{a b:Bool}(h1:a=true)(h2:b=true):(a && b)=true:=by rw[h1,h2];rfl
theorem pP{n:Nat}{s m:Int}(hn:Nat.ble n 100=true)(hs:0<=s)(h:100*s<=m):decide ((n:Int)*s<=m)=true:=by
 have hn:=Y9 hn;have:(n:Int)*s<=100*s:=Int.mul_le_mul_of_nonneg_right om hs;simp;omega
theorem RL(a b:List bH)(ha:a.length<=1000000)(hb:b.length<=1000000)(hok:∀v∈a,jG v) :
  aU prog [] 258 [.il 4 (aQ a),.il 4 (aQ b)] (.il 4 (aQ (fZ a b))):=by
 refine aD bI func258 rfl ?_;cases a with
 | nil=>
  rw[DB];refine Z ?_;exact aA (.il' (aX _)) C'
 | cons x l=>
  have d0:(((aQ (x::l)).length:Int) == 0)=false:=by rw[aB,beq_eq_false_iff_ne];simp;omega
  obtain⟨a,hae⟩:∃a,a=x::l:=cm
  rw[<-hae] at d0 ha hok |-;clear hae;refine Z ?_;rw[d0];have hw:IntKind.i64.wrap (((aQ a).length:Int)+((aQ b).length:Int))=((aQ a).length:Int)+((aQ b).length:Int):=bF ⟨om,by rw[aB,aB];omega⟩;have hal:(aQ a).length<=1000000:=by rw[aB];exact ha
  have hbl:(aQ b).length<=1000000:=by rw[aB];exact hb
  refine Z ?_;rw[hw];refine aK (bV rfl (bV rfl (bV rfl (bV rfl (bV (Y8 om) (bV (pP rfl om om) (Y8 om))))))) ?_;refine Z ?_;refine bJ.at bI (λp:List bH × List bH × List bH=>fZ a b=p.1++fZ p.2.1 p.2.2/\p.1.length<=2000000-p.2.1.length-p.2.2.length/\p.2.1.length+p.2.2.length<=2000000/\∀v∈p.2.1,jG v)
   (λp=>⟨[(0,.il 4 (aQ p.2.1)),(1,.il 4 (aQ p.2.2)),(5,.sl 0 0 p.1.length)],[(0,.row 50 4 (aQ p.1))],1,57⟩) (λp=>p.2.1.length+p.2.2.length) ([],a,b) [(0,0)] ⟨sq,sq,by simp only;omega,hok⟩
   (aH _ rfl ⟨aF 0 .nil,trivial⟩ ⟨aP (.il' (aX _)),aP (.il' (aX _)),bd,trivial⟩) ?_
  clear hok hw hal hbl d0 ha hb;rintro⟨out,a',b'⟩ ⟨hm,hlen,hle,hok⟩;simp only at hm hlen hle hok |-;have eg:∀(z:bH) (r:List bH),decide (((aQ (z::r)).length:Int)>0)=true:=λz r=>by rw[aB];simp
  have WP:∀(z:bH) (r:List bH),((Int.toNat 1).ble (aQ (z::r)).length && ((aQ (z::r)).length.ble (aQ (z::r)).length && (aQ (z::r)).length.ble (aQ (z::r)).length))=true:=λz r=>bV (Y2 (by rw[aB];simp)) (bV (Y2 (ZA _)) (Y2 (ZA _)))
  have ec:∀(z:bH) (r:List bH),List.take ((aQ (z::r)).length-Int.toNat 1) (List.drop (Int.toNat 1) (aQ (z::r)))=aQ r:=λz r=>by
   show List.take ((aQ (z::r)).length-1) (aQ r)=aQ r
   exact ZD (by rw[aB,aB];simp)
  have fin:∀(o p q:List bH) (mem:aR) (n:Nat) (id:Nat),fZ a b=o++p++q->lk mem id=some (.row 50 4 (aQ o++aQ p++aQ q))->oC 0 (λr m n=>r=AV.il 4 (aQ (fZ a b))/\m=[]/\n=0) (.sl id 0 (o.length+(aQ p).length+(aQ q).length)) mem n:=by
   intro o p q mem n id h hl;refine cN (r':=.il 4 (aQ (fZ a b))) (.fzR hl rfl (.eq (aX _) (by rw[h];simp[gR])) (by rw[h];simp[aB];omega)) C'
  cases a' with
  | nil=>
   rw[DB] at hm;refine Z ?_;refine aK cw ?_;refine Z ?_;refine aK cw ?_;refine Z ?_;exact fin out [] b' _ _ _ (su hm) rfl
  | cons x l=>
   cases b' with
   | nil=>
    rw[H0] at hm;refine Z ?_;rw[eg];refine Z ?_;refine aK cw ?_;refine Z ?_;refine aK cw ?_;refine Z ?_;exact fin out (x::l) [] _ _ _ (su hm) rfl
   | cons y m=>
    rw[Ii] at hm;have hc:=pO x y (hok x sq);have hok':∀v∈l,jG v:=λv hv=>hok v (by simp[hv])
    obtain⟨c,hc0⟩:∃c,c=c8 x y:=cm
    rw[<-hc0] at hc hm;clear hc0;obtain⟨x1,x2,x3,x4⟩:=x;obtain⟨y1,y2,y3,y4⟩:=y;refine Z ?_;rw[eg];refine Z ?_;rw[eg];refine Rt ?_;refine hc.go ?_;refine Z ?_;rcases(show c<0\/c=0\/0<c by omega) with hcc|hcc|hcc
    .have d1:decide (c<=0)=true:=by simp;omega
     have d2:decide (c≥0)=false:=B'
     rw[Y7 hcc] at hm;rw[d1];refine Rt ?_;refine aK cw ?_;refine Z ?_;refine aK (WP _ _) ?_;rw[ec];refine Z ?_;rw[d2];refine Z ?_;exact .mk (out++[.mk x1 x2 x3 x4],l,(.mk y1 y2 y3 y4)::m) [(10,0)] ⟨su hm,by simp at *;omega,by simp at *;omega,hok'⟩ dp (by first|(simp;done)|(simp;omega))
    .have d1:decide (c<=0)=true:=by simp;omega
     have d2:decide (c≥0)=true:=B'
     rw[Y3 om,Y7 hcc] at hm;rw[d1];refine Rt ?_;refine aK cw ?_;refine Z ?_;refine aK (WP _ _) ?_;rw[ec];refine Z ?_;rw[d2];refine Z ?_;refine aK (WP _ _) ?_;rw[ec];refine Z ?_;exact .mk (out++[.mk x1 x2 x3 x4],l,m) [(10,0)] ⟨su hm,by simp at *;omega,by simp at *;omega,hok'⟩ dp (by first|(simp;done)|(simp;omega))
    .have d1:decide (c<=0)=false:=by simp;omega
     have d2:decide (c≥0)=true:=B'
     rw[Y3 om,Y3 om] at hm;rw[d1];refine Rt ?_;refine aK cw ?_;refine Z ?_;rw[d2];refine Z ?_;refine aK (WP _ _) ?_;rw[ec];refine Z ?_;exact .mk (out++[.mk y1 y2 y3 y4],(.mk x1 x2 x3 x4)::l,m) [(10,0)] ⟨su hm,by simp at *;omega,by simp at *;omega,hok⟩ dp (by first|(simp;done)|(simp;omega))
theorem vL{G β γ:Type}(f:G->β->γ):∀(a:List G) (b:List β) (i:Nat) (x:G) (y:β),b[i]? = some y->List.zipWith f (a.set i x) b=(List.zipWith f a b).set i (f x y)
 | [],b,i,x,y,_=>sq
 | p::a,[],i,x,y,hy=>by simp at hy
 | p::a,q::b,0,x,y,hy=>by simp at hy;subst hy;simp
 | p::a,q::b,i+1,x,y,hy=>by simp at hy;simp[vL f a b i x y hy]
def kB(kn:List Bool):List AV:=kn.map AV.bool
def lB(L:List iX)(kn:List Bool):List AV:=List.zipWith (λb (x:iX)=>AV.il 4 (aQ (if b=true then x.vals else []))) kn L
def mB(L:List iX)(kn:List Bool):List AV:=List.zipWith (λb (x:iX)=>AV.bool (b && x.many)) kn L
theorem jC(kn:List Bool):jR (kB kn):=λa ha=>by
 obtain⟨n,_,rfl⟩:=ZW.1 ha;exact .bool _
theorem Lw{G β γ:Type}{f:G->β->γ}{a:List G}{b:List β}{z:γ}(h:z∈List.zipWith f a b):∃x y,z=f x y:=by
 obtain⟨i,hi⟩:=Zl h;rw[aBJ] at hi;split at hi
 .cases hi;exact⟨_,_,rfl⟩
 .cases hi
theorem AL(L:List iX)(kn:List Bool):jR (lB L kn):=λa ha=>by
 obtain⟨x,y,rfl⟩:=Lw ha;exact .il' (aX _)
theorem xZ(L:List iX)(kn:List Bool):jR (mB L kn):=λa ha=>by
 obtain⟨x,y,rfl⟩:=Lw ha;exact .bool _
theorem AF{L:List iX}{i:Nat}(h:i<L.length):L[i]? = some (dT L i):=by
 unfold dT;rw[Y0,Y1,Yz h];rfl
theorem Oj{kn:List Bool}{i:Nat}{b:Bool}(h:kn[i]? = some b):(kB kn)[i]? = some (.bool b):=by simp[kB,h]
theorem P0{L:List iX}{kn:List Bool}{i:Nat}{b:Bool}(h:kn[i]? = some b)(hl:i<L.length):(lB L kn)[i]? = some (.il 4 (aQ (if b=true then(dT L i).vals else []))):=by
 simp[lB,aBJ,h,AF hl]
theorem N9{L:List iX}{kn:List Bool}{i:Nat}{b:Bool}(h:kn[i]? = some b)(hl:i<L.length):(mB L kn)[i]? = some (.bool (b && (dT L i).many)):=by
 simp[mB,aBJ,h,AF hl]
theorem Vk(kn:List Bool)(i:Nat)(b:Bool):kB (kn.set i b)=(kB kn).set i (.bool b):=by simp[kB,aA7]
theorem UU{L:List iX}(kn:List Bool){i:Nat}(hl:i<L.length):lB L (kn.set i true)=(lB L kn).set i (.il 4 (aQ (dT L i).vals)):=by
 unfold lB;rw[vL _ kn L i true _ (AF hl)];simp
theorem U4{L:List iX}(kn:List Bool){i:Nat}(hl:i<L.length):mB L (kn.set i true)=(mB L kn).set i (.bool (dT L i).many):=by
 unfold mB;rw[vL _ kn L i true _ (AF hl)];simp
def sM(ns:List Nd)(kn:List Bool):aR:=[(0,.row 144 4 [.agg [.il 12 (bG ns),.sl 1 0 ns.length,.sl 2 0 ns.length,.sl 3 0 ns.length]]),(1,.row 4 1 (kB kn)),(2,.row 48 1 (lB (aS ns) kn)),(3,.row 4 1 (mB (aS ns) kn))]
def uQ(ns:List Nd)(l:iX):AV->aR->Nat->Prop:=λr m k=>∃kn,kn.length=ns.length/\r = .tup [.il 4 (aQ l.vals),.bool (!l.many)]/\m=sM ns kn/\k=4
def sQ(ns:List Nd)(i:Nat):AV->aR->Nat->Prop:=uQ ns (dT (aS ns) i)
theorem Eh{mem:aR}{J:List (Nat × Nat)}{ns:List Nd}{N a b c a' b' c':Nat}(h1:lk J a=some a')(h2:lk J b=some b')(h3:lk J c=some c') :
  rY mem J [.agg [.il 12 (bG ns),.sl a 0 N,.sl b 0 N,.sl c 0 N]] [.agg [.il 12 (bG ns),.sl a' 0 N,.sl b' 0 N,.sl c' 0 N]]:=
 .cons (.agg (.cons (.same _ (.il' (bB _))) (.cons (.sl a a' 0 N h1) (.cons (.sl b b' 0 N h2) (.cons (.sl c c' 0 N h3) .nil))))) .nil
theorem gZ(ns:List Nd)(kn:List Bool):cZ (sM ns kn) (rV [0,1,2,3]) (sM ns kn):=
 ⟨⟨0,_,rfl,rfl,Eh rfl rfl rfl⟩,aF 1 (jC _),aF 2 (AL _ _),aF 3 (xZ _ _),trivial⟩
theorem YL{ns:List Nd}{n:Nat}(h:i6 ns n)(i:Nat)(hi:i<n)(kn:List Bool)(hk:kn.length=ns.length)
  (hF:aJ prog [] 195 [.ptr 0 0 0,.int .i64 i] (sM ns kn) 4 (sQ ns i)) :
  aJ prog [] 125 [.ptr 0 0 0,.int .i64 i] (sM ns kn) 4 (sQ ns i):=by
 have hN:=h.hn;have hL:i<(aS ns).length:=by rw[gP];omega
 have h0:0+((i:Nat):Int).toNat=i:=sq
 have hg:∀kn:List Bool,kn.length=ns.length->∃b,kn[i]? = some b:=λkn hk=>⟨kn[i],Yz om⟩
 obtain⟨b,hb⟩:=hg kn hk;have e1:(kB kn)[0+((i:Nat):Int).toNat]? = some (.bool b):=by rw[h0];exact Oj hb
 have g1:Nat.blt ((i:Nat):Int).toNat ns.length=true:=Y2 B';refine aD bI func125 rfl ?_;refine Z ?_;repeat((first|refine aK g1 ?_|refine aC e1 ?_);refine Z ?_)
 have fin:∀(mem:aR) (kn':List Bool),kn'.length=ns.length->cZ mem (rV [0,1,2,3]) (sM ns kn')->∀(r:AV) (nx:Nat),Cv mem (rV [0,1,2,3]) r (.tup [.il 4 (aQ (dT (aS ns) i).vals),.bool (!(dT (aS ns) i).many)])->oC 4 (sQ ns i) r mem nx:=
  λmem kn' hk' hM r nx hr=>bL (n':=4) (m':=sM ns kn') (rV [0,1,2,3]) rfl hM hr ⟨kn',hk',rfl,rfl,rfl⟩
 cases b with
 | true=>
  have e2:(lB (aS ns) kn)[0+((i:Nat):Int).toNat]? = some (.il 4 (aQ (dT (aS ns) i).vals)):=by rw[h0,P0 hb hL];rfl
  have e3:(mB (aS ns) kn)[0+((i:Nat):Int).toNat]? = some (.bool (dT (aS ns) i).many):=by rw[h0,N9 hb hL];rfl
  refine Z ?_;repeat((first|refine aK g1 ?_|refine aC e1 ?_|refine aC e2 ?_|refine aC e3 ?_|refine bK ?_);refine Z ?_)
  exact fin _ kn hk (gZ ns kn) _ _ cc
 | false=>
  refine Z ?_;refine aJ.useI bI [0,1,2,3] hF ef (.cons bj ax) (gZ ns kn) ef ?_;rintro r m k ⟨kn',hk',rfl,rfl,rfl⟩;refine⟨nn,gZ ns kn',by rfl, ?_⟩;obtain⟨b',hb'⟩:=hg kn' hk';have e1:(kB kn')[0+((i:Nat):Int).toNat]? = some (.bool b'):=by rw[h0];exact Oj hb'
  have e2:=P0 hb' hL;have e3:=N9 hb' hL;rw[<-h0] at e2 e3;have q1:((kB kn').set (0+((i:Nat):Int).toNat) (.bool true))[0+((i:Nat):Int).toNat]? = some (.bool true):=by rw[h0];exact Zy (by simp[kB];omega)
  have q2:((lB (aS ns) kn').set (0+((i:Nat):Int).toNat) (.il 4 (aQ (dT (aS ns) i).vals)))[0+((i:Nat):Int).toNat]? = some (.il 4 (aQ (dT (aS ns) i).vals)):=by rw[h0];exact Zy (by simp[lB,List.length_zipWith];omega)
  have q3:((mB (aS ns) kn').set (0+((i:Nat):Int).toNat) (.bool (!(!(dT (aS ns) i).many))))[0+((i:Nat):Int).toNat]? = some (.bool (!(!(dT (aS ns) i).many))):=by rw[h0];exact Zy (by simp[mB,List.length_zipWith];omega)
  refine Z ?_;repeat((first|refine aK g1 ?_|refine aC e1 ?_|refine aC e2 ?_|refine aC e3 ?_|refine aC q1 ?_|refine aC q2 ?_|refine aC q3 ?_|refine bK ?_|refine cY.2 ?_);refine Z ?_)
  rw[h0];refine fin _ (kn'.set i true) (by simp[hk']) ⟨⟨0,_,rfl,rfl,Eh rfl rfl rfl⟩,⟨1,_,rfl,rfl,.eq (jC _) (Vk _ _ _).symm⟩,⟨2,_,rfl,rfl,.eq (AL _ _) (UU _ hL).symm⟩,⟨3,_,rfl,rfl,.eq (xZ _ _) (by rw[U4 _ hL,Bool.not_not])⟩,trivial⟩ _ _ (.eq nn (by rw[Bool.not_not]))
def Rg(ns:List Nd)(i:Nat):Prop:=∀kn:List Bool,kn.length=ns.length->aJ prog [] 125 [.ptr 0 0 0,.int .i64 i] (sM ns kn) 4 (sQ ns i)
theorem CA{ns:List Nd}{l:iX}(mem:aR)(kn':List Bool)(hk':kn'.length=ns.length)(hM:cZ mem (rV [0,1,2,3]) (sM ns kn'))(r:AV)(nx:Nat)(hr:Cv mem (rV [0,1,2,3]) r (.tup [.il 4 (aQ l.vals),.bool (!l.many)])):oC 4 (uQ ns l) r mem nx:=
 bL (n':=4) (m':=sM ns kn') (rV [0,1,2,3]) rfl hM hr ⟨kn',hk',rfl,rfl,rfl⟩
theorem UZ{ns:List Nd}{n:Nat}(h:i6 ns n)(i:Nat)(hi:i<=n)(kids:List Int)(hkl:kids.length<=65536)(hkids:∀k∈kids,0<=k/\k<i)(hOf:∀j<i,Rg ns j)(kn:List Bool)(hk:kn.length=ns.length) :
  aJ prog [] 237 [.ptr 0 0 0,.il 1 (aY kids)] (sM ns kn) 4 (uQ ns (mN (aS ns) kids)):=by
 refine aD bI func237 rfl ?_;refine Z ?_;refine bJ.at bI (λp:Nat × List Bool × List bH=>p.1<=kids.length/\p.2.1.length=ns.length/\(kids.take p.1).foldl (bY (aS ns)) ([],false)=(p.2.2,false)/\mS p.2.2/\p.2.2.length<=1024/\∀v∈p.2.2,jG v)
  (λp=>⟨[(0,.ptr 0 0 0),(6,.il 4 (aQ p.2.2)),(11,.il 1 (aY kids)),(12,.int .i64 kids.length),(13,.int .i64 p.1)],sM ns p.2.1,4,33⟩) (λp=>kids.length-p.1) (0,kn,[]) (rV [0,1,2,3])
  ⟨sq,hk,sq,by simp[mS],sq,sq⟩
  (aH _ rfl (gZ ns kn) ⟨aM,⟨_,rfl,.nil 4⟩,aP (.il' (aW _)),gp,aG,trivial⟩) ?_
 rintro⟨j,kn,out⟩ ⟨hj,hk,hf,hso,hol,hok⟩;simp only at hj hk hf hso hol hok |-;refine Z ?_;refine aL (λhb=>?_) (λhb=>?_)
 .have hlt:j<kids.length:=su hb
  have e1:(aY kids)[(j:Int).toNat]? = some (.int .i64 kids[j]):=ck
  have hg:kids[j]? = some kids[j]:=Yz hlt;generalize kids[j]=k at e1 hg;obtain⟨k0,k1⟩:=hkids k (Y5 hg);obtain⟨k,rfl⟩:=ZU k0;have hO:=hOf k om kn hk;have hst:=VI hg hf;have hvals:=h.vals (k:=k) om om;have hsr:=Xr ns k;simp only[bY,aBz] at hst;unfold sQ at hO;refine Z ?_;refine aC e1 ?_;refine Z ?_;refine aJ.useI bI [0,1,2,3] hO ef (.cons bj ax) (gZ ns kn) ef ?_;rintro r m k' ⟨kn',hk',rfl,rfl,rfl⟩;refine⟨nn,gZ ns kn',by rfl, ?_⟩;generalize dT (aS ns) k=lk at hst hvals hsr;obtain⟨lv,lm⟩:=lk;simp only at hst hvals hsr;cases lm with
  | true=>
   have hbad:=Lj (bs:=aS ns) (kids:=kids) (j:=j+1) (by rw[hst];rfl);rw[hbad];refine Z ?_;exact CA _ kn' hk' (gZ ns kn') _ _ (.tup' ik)
  | false=>
   have hm:=RL out lv om om hok;have hms:=IN hso hsr;rw[<-hms] at hst;have hmok:∀v∈fZ out lv,jG v:=λv hv=>by
    rcases(pH _ _ _).1 hv with hv|hv
    .exact hok v hv
    .exact hvals.2 v hv
   have hmsr:=Ci out lv hso hsr;generalize fZ out lv=mg at *;refine Z ?_;refine hm.go ?_;refine Z ?_;refine aL (λhb2=>?_) (λhb2=>?_)
   .have h1:1024<mg.length:=by rw[aB] at hb2;simp at hb2;omega
    have hbad:=Lj (bs:=aS ns) (kids:=kids) (j:=j+1) (by rw[hst];simpa using h1);rw[hbad];refine Z ?_;exact CA _ kn' hk' (gZ ns kn') _ _ (.tup' ik)
   .have h1:mg.length<=1024:=by rw[aB] at hb2;simp at hb2;omega
    refine Z ?_;exact .mk (j+1,kn',mg) (rV [0,1,2,3]) ⟨by simp only;omega,hk',by simp only;rw[hst];simp;omega,hmsr,h1,hmok⟩
     (aH _ rfl (gZ ns kn') ⟨aM,aG,aP (.il' (aW _)),aG,⟨_,rfl,.wp⟩,trivial⟩) J'
 .have hlt:j=kids.length:=by simp at hb;omega
  rw[hlt,ZK] at hf;rw[Pe hf];refine Z ?_;exact CA _ kn hk (gZ ns kn) _ _ cc 
def cK(ls:List (List bH)):List AV:=ls.map λl=>.il 4 (aQ l)
theorem bW(ls:List (List bH)):jR (cK ls):=λa ha=>by
 obtain⟨l,_,rfl⟩:=ZW.1 ha;exact .il' (aX _)
theorem sU(ls:List (List bH)):(cK ls).length=ls.length:=by simp[cK]
theorem mW{ls:List (List bH)}{i:Nat}{l:List bH}(h:ls[i]? = some l):(cK ls)[i]? = some (.il 4 (aQ l)):=by simp[cK,h]
def Vo(ns:List Nd)(kn:List Bool)(rest:aR):aR:=(0,.row 144 4 [.agg [.il 12 (bG ns),.sl 1 0 ns.length,.sl 2 0 ns.length,.sl 3 0 ns.length]])::(1,.row 4 1 (kB kn))::(2,.row 48 1 (lB (aS ns) kn))::(3,.row 4 1 (mB (aS ns) kn))::rest
theorem iN{mem:aR}{J:List (Nat × Nat)}{ns:List Nd}{kn:List Bool}{rest:aR}(h0:lk J 0=some 0)(h1:lk J 1=some 1)(h2:lk J 2=some 2)(h3:lk J 3=some 3)
  (m0:lk mem 0=some (.row 144 4 [.agg [.il 12 (bG ns),.sl 1 0 ns.length,.sl 2 0 ns.length,.sl 3 0 ns.length]])) (m1:lk mem 1=some (.row 4 1 (kB kn))) (m2:lk mem 2=some (.row 48 1 (lB (aS ns) kn))) (m3:lk mem 3=some (.row 4 1 (mB (aS ns) kn)))
  (hr:cZ mem J rest):cZ mem J (Vo ns kn rest):=
 ⟨⟨0,_,h0,m0,Eh h1 h2 h3⟩,⟨1,_,h1,m1,.same (jC _)⟩,⟨2,_,h2,m2,.same (AL _ _)⟩,⟨3,_,h3,m3,.same (xZ _ _)⟩,hr⟩
theorem EL{mem:aR}{J:List (Nat × Nat)}:∀m:Nat,rY mem J (List.replicate m .nsl) (cK (List.replicate m []))
 | 0=>.nil
 | m+1=>by
  rw[Zz,Zz];exact .cons (.one rfl rfl (.nil 4)) (EL m)
theorem Sm(ls:List (List bH))(i:Nat)(l:List bH):cK (ls.set i l)=(cK ls).set i (.il 4 (aQ l)):=by simp[cK,aA7]
theorem FH{mem:aR}{J:List (Nat × Nat)}:∀m:Nat,rY mem J (List.replicate m (.agg [.int .i64 0,.int .i64 0,.str [],.nsl])) (aQ (List.replicate m (.mk 0 0 [] [])))
 | 0=>.nil
 | m+1=>by
  rw[Zz,Zz,aQ];exact .cons (x7 0 0 []) (FH m)
theorem Oy{ns:List Nd}{n:Nat}(h:i6 ns n)(i:Nat)(hi:i<=n)(x:Nd)(hkl:x.kids.length<=65536)(hkids:∀k∈x.kids,0<=k/\k<i)(hOf:∀j<i,Rg ns j)(kn:List Bool)(hk:kn.length=ns.length) :
  aJ prog [] 238 [.ptr 0 0 0,.ip (dM x)] (sM ns kn) 4 (uQ ns (p9 (aS ns) x)):=by
 have hxn:=bP x;have hpb:=λ(j:Nat) (e:((x.kids.take j).foldl (iQ (aS ns)) (1,false)).2=true)=>SY (bs:=aS ns) (x:=x) (j:=j) e
 have hpg:=λ(t:Nat) (e:x.kids.foldl (iQ (aS ns)) (1,false)=(t,false))=>Pg (DZ ns) (x:=x) (t:=t) e
 have hmade:=λks=>LG x ks
 generalize p9 (aS ns) x=res at hpb hpg |-;obtain⟨kind,name,lo,hi',ws,ls,vals,kids,⟨vk,vn,vs,vks⟩⟩:=x;simp only at hkl hkids hpb hpg;refine aD bI func238 rfl ?_;refine Z ?_;refine aK (bV rfl (bV rfl (bV rfl (bV (Y8 om) (bV (Y8 om) (bV (pP rfl om (by simp only[aN];omega)) (Y8 (by simp only[aN];omega)))))))) ?_;refine Z ?_;refine bJ.at bI (λp:Nat × List Bool × Nat × List (List bH)=>p.1<=kids.length/\p.2.1.length=ns.length/\(kids.take p.1).foldl (iQ (aS ns)) (1,false)=(p.2.2.1,false)/\p.2.2.1<=1024/\p.2.2.2.length=kids.length/\(∀(q:Nat) (k:Int),q<p.1->kids[q]? = some k->p.2.2.2[q]? = some (dT (aS ns) k).vals/\(dT (aS ns) k).vals≠[]))
  (λp=>⟨[(0,.ptr 0 0 0),(1,.ip (dM ⟨kind,name,lo,hi',ws,ls,vals,kids,.mk vk vn vs vks⟩)),(6,.sl 4 0 kids.length),(7,.int .i64 p.2.2.1),(25,.il 1 (aY kids)),(26,.int .i64 kids.length),(27,.int .i64 p.1)],Vo ns p.2.1 [(4,.row 48 1 (cK p.2.2.2))],5,98⟩)
  (λp=>kids.length-p.1) (0,kn,1,List.replicate kids.length []) (rV [0,1,2,3,4])
  ⟨sq,hk,sq,sq,sq,λq k hq=>by simp at hq⟩
  (aH _ rfl (iN rfl rfl rfl rfl rfl rfl rfl rfl ⟨⟨4,_,rfl,rfl,.to (EL kids.length) (by rw[show (((aY kids).length:Nat):Int).toNat=kids.length by rw[aN];simp])⟩,trivial⟩) ⟨aM,aP (.ip' hxn),⟨_,rfl,.slE rfl (by rw[aN];simp)⟩,aG,aP (.il' (aW _)),gp,aG,trivial⟩) ?_
 rintro⟨j,kn,total,lists⟩ ⟨hj,hk,hf,hto,hll,hls⟩;simp only at hj hk hf hto hll hls |-;refine Z ?_;refine aL (λhb=>?_) (λhb=>?_)
 .have hlt:j<kids.length:=su hb
  have e1:(aY kids)[(j:Int).toNat]? = some (.int .i64 kids[j]):=ck
  have hg:kids[j]? = some kids[j]:=Yz hlt;generalize kids[j]=k at e1 hg;obtain⟨k0,k1⟩:=hkids k (Y5 hg);obtain⟨k,rfl⟩:=ZU k0;have hO:=hOf k om kn hk;have hst:=UM hg hf;have hvals:=h.vals (k:=k) om om;have hne:=h.ne (k:=k) om om;have hls':∀(q:Nat) (k':Int),q<j+1->kids[q]? = some k'->(q<j/\(lists[q]? = some (dT (aS ns) k').vals/\(dT (aS ns) k').vals≠[]))\/(q=j/\k'=k):=λq k' hq hk'=>by
   rcases ZL q j with hq'|hq'
   .exact .inl ⟨hq',hls q k' hq' hk'⟩
   .have:q=j:=om;subst this;rw[hg] at hk';cases hk';exact .inr gj
  simp only[iQ,aBz] at hst;unfold sQ at hO;refine Z ?_;refine aC e1 ?_;refine Z ?_;refine aJ.useI bI [0,1,2,3] hO ef (.cons bj ax) (gZ ns kn) ef ?_;rintro r m k' ⟨kn',hk',rfl,rfl,rfl⟩;refine⟨nn,gZ ns kn',by rfl, ?_⟩;obtain⟨lk,hlk⟩:∃lk,lk=dT (aS ns) k:=cm
  rw[<-hlk] at hst hvals hne |-;obtain⟨lv,lm⟩:=lk;simp only at hst hvals hne;cases lm with
  | true=>
   have hbad:=hpb (j+1) (by rw[hst];rfl);rw[hbad];refine Z ?_;exact CA _ kn' hk' gv _ _ (.tup' ik)
  | false=>
   have hw:IntKind.i64.wrap ((total:Int)*((aQ lv).length:Int))=((total*lv.length:Nat):Int):=by
    have:total*lv.length<=1024*1024:=Z7 hto hvals.1;exact w64 (by rw[aB];simp) oq
   refine Z ?_;rw[hw];refine Z ?_;refine aL (λhb2=>?_) (λhb2=>?_)
   .have hbad:=hpb (j+1) (by rw[hst];simp at hb2 |-;omega);rw[hbad];refine Z ?_;exact CA _ kn' hk' gv _ _ (.tup' ik)
   .have hto':total*lv.length<=1024:=by simp at hb2;omega
    have h0:0+((j:Nat):Int).toNat=j:=sq
    have g1:Nat.blt ((j:Nat):Int).toNat kids.length=true:=Y2 B';have e3:(cK lists)[0+((j:Nat):Int).toNat]? = some (.il 4 (aQ lists[j])):=by rw[h0];exact mW (Yz om)
    have e4:((cK lists).set (0+((j:Nat):Int).toNat) (.il 4 (aQ lv)))[0+((j:Nat):Int).toNat]? = some (.il 4 (aQ lv)):=by rw[h0];exact Zy (by rw[sU];omega)
    refine Rt ?_;repeat((first|refine aK g1 ?_|refine aC e3 ?_|refine aC e4 ?_);refine Rt ?_)
    exact .mk (j+1,kn',total*lv.length,lists.set j lv) (rV [0,1,2,3,4]) ⟨by simp only;omega,hk',by simp only;rw[hst];simp;omega,hto',by simp only[aAR];exact hll,λq k' hq hkq=>by
      simp only at hq |-;rcases hls' q k' hq hkq with⟨h1,h2,h3⟩|⟨rfl,rfl⟩
      .rw[aBq om];exact⟨h2,h3⟩
      .rw[Zy om,<-hlk];exact⟨rfl,hne rfl⟩⟩
     (aH _ rfl (iN rfl rfl rfl rfl rfl rfl rfl rfl ⟨⟨4,_,rfl,rfl,.eq (bW _) (by rw[h0];exact(Sm _ _ _).symm)⟩,trivial⟩) ⟨aM,aP (.ip' hxn),V',aG,aP (.il' (aW _)),aG,⟨_,rfl,.wp⟩,trivial⟩) J'
 .have hlt:j=kids.length:=by simp at hb;omega
  rw[hlt,ZK] at hf;obtain⟨hres,hpr⟩:=hpg total hf;rw[hres];have hlv:lists=kids.map λk=>(dT (aS ns) k).vals:=List.ext_getElem? λq=>by
   rw[Zx];rcases ZL q kids.length with hq|hq
   .rw[(hls q _ om (Yz hq)).1,Yz hq];rfl
   .rw[ZJ om,ZJ hq];rfl
  have hlne:∀l∈lists,l≠[]:=λl hl=>by
   rw[hlv] at hl;obtain⟨k,hk,rfl⟩:=ZW.1 hl;obtain⟨q,hq⟩:=Zl hk;exact(hls q k (by rw[hlt];exact(Y4.1 hq).1) hq).2
  have hllen:∀l∈lists,l.length<=1024:=λl hl=>by
   rw[hlv] at hl;obtain⟨k,hk,rfl⟩:=ZW.1 hl;obtain⟨k0,k1⟩:=hkids k hk;exact(h.vals k0 om).1
  rw[<-hlv] at hpr |-;clear hpb hpg hls hlv hres hf;refine Z ?_;refine aK (bV rfl (bV rfl (bV rfl (bV rfl (bV (Y8 om) (bV (pP rfl om om) (Y8 om))))))) ?_;refine Z ?_;refine bJ.at bI (λp:Nat × List bH=>p.1<=total/\p.2=((rC lists.reverse).take p.1).map (dW name)/\p.2.length=p.1)
   (λp=>⟨[(1,.ip (dM ⟨kind,name,lo,hi',ws,ls,vals,kids,.mk vk vn vs vks⟩)),(6,.sl 4 0 kids.length),(12,.sl 5 0 p.1),(53,.int .i64 total),(54,.int .i64 p.1)],Vo ns kn [(4,.row 48 1 (cK lists)),(5,.row 50 4 (aQ p.2))],6,98⟩)
   (λp=>total-p.1) (0,[]) (rV [0,1,2,3,4,5])
   ⟨sq,sq,sq⟩
   (aH _ rfl (iN rfl rfl rfl rfl rfl rfl rfl rfl ⟨aF 4 (bW _),⟨5,_,rfl,rfl,.nil⟩,trivial⟩) ⟨aP (.ip' hxn),V',V',aG,aG,trivial⟩) ?_
  rintro⟨k,all⟩ ⟨hkt,hall,hal⟩;simp only at hkt hall hal |-;refine Z ?_;refine aL (λhb=>?_) (λhb=>?_)
  .have hlt2:k<total:=su hb
   refine Z ?_;refine aK aj ?_;refine Z ?_;refine bJ.at bI (λp:Nat × Nat × List bH=>p.1<=kids.length/\p.2.1<=1024/\p.2.2.length=kids.length/\Go.Ax.rowAt (lists.take p.1).reverse p.2.1++p.2.2.drop p.1=Go.Ax.rowAt lists.reverse k)
    (λp=>⟨[(1,.ip (dM ⟨kind,name,lo,hi',ws,ls,vals,kids,.mk vk vn vs vks⟩)),(6,.sl 4 0 kids.length),(12,.sl 5 0 k),(13,.int .i64 p.2.1),(14,.sl 6 0 kids.length),(15,.int .i64 ((p.1:Int)-1)),(53,.int .i64 total),(54,.int .i64 k)],Vo ns kn [(4,.row 48 1 (cK lists)),(5,.row 50 4 (aQ all)),(6,.row 50 4 (aQ p.2.2))],7,98⟩)
    (λp=>p.1) (kids.length,k,List.replicate kids.length (.mk 0 0 [] [])) (rV [0,1,2,3,4,5,6])
    ⟨sq,by simp only;omega,sq,by simp only;rw[<-hll,ZK,aAe sq];simp⟩
    (aH _ rfl (iN rfl rfl rfl rfl rfl rfl rfl rfl ⟨aF 4 (bW _),aF 5 (aX _),⟨6,_,rfl,rfl,FH _⟩,trivial⟩) ⟨aP (.ip' hxn),V',V',aG,⟨_,rfl,.slE rfl sq⟩,⟨_,rfl,.w64 (by simp only) U'⟩,aG,aG,trivial⟩) ?_
   rintro⟨q,kk,row⟩ ⟨hq,hkk,hrl,hrow⟩;simp only at hq hkk hrl hrow |-;refine Z ?_;refine aL (λhb=>?_) (λhb=>?_)
   .obtain⟨q,rfl⟩:∃q',q=q'+1:=⟨q-1,by simp at hb;omega⟩
    obtain⟨l,hl⟩:∃l,lists[q]? = some l:=⟨lists[q],Yz om⟩
    have hlm:=Y5 hl;have hl0:=aAl.2 (hlne l hlm);have hl1:=hllen l hlm;have hmod:=Zr kk hl0;have hdiv:=aAu kk l.length;obtain⟨v1,v2,v3,v4,vm,vg,-,ev⟩:=dU (l:=l) (k:=kk%l.length) hmod;have hrs:=Jp (kk:=kk) hl vg;have e0:0+((q:Nat):Int).toNat=q:=sq
    have g1:Nat.blt ((q:Nat):Int).toNat kids.length=true:=Y2 B';have e3:(cK lists)[0+((q:Nat):Int).toNat]? = some (.il 4 (aQ l)):=by rw[e0];exact mW hl
    have e15:((q+1:Nat):Int)-1=(q:Int):=om;rw[e15];refine Z ?_;have d0:(!decide (((aQ l).length:Int)=0))=true:=by rw[aB,Bool.not_eq_true',aAZ];omega
    have em:(kk:Int).tmod ((aQ l).length:Int)=((kk%l.length:Nat):Int):=by rw[aB];exact(Int.ofNat_tmod kk l.length).symm
    have ed:(kk:Int).tdiv ((aQ l).length:Int)=((kk/l.length:Nat):Int):=by rw[aB];exact(Int.ofNat_tdiv kk l.length).symm
    have ex:(aQ row)[0+((q:Nat):Int).toNat]? = some (cC row[q]):=by rw[e0,jH,Yz om];rfl
    have ey:((aQ row).set (0+((q:Nat):Int).toNat) (cC (.mk v1 v2 v3 v4)))[0+((q:Nat):Int).toNat]? = some (cC (.mk v1 v2 v3 v4)):=by rw[e0];exact Zy gr
    generalize row[q]=old at ex;obtain⟨o1,o2,o3,o4⟩:=old;repeat((first|refine aK g1 ?_|refine aC e3 ?_|refine aC ev ?_|refine aC ex ?_|refine aC ey ?_|refine cY.2 ?_|refine bK ?_|refine aK d0 ?_;(first|rw[em]|rw[ed]|skip));refine Z ?_)
    have hdr:(row.set q (.mk v1 v2 v3 v4)).drop q = .mk v1 v2 v3 v4::row.drop (q+1):=by
     rw[List.drop_eq_getElem_cons B'];simp[List.drop_set]
    have hy:i64 ((kk/l.length:Nat):Int):=by
     have:=hdiv;generalize kk/l.length=d at this |-;clear ed;exact oq
    have hset:aQ (row.set q (.mk v1 v2 v3 v4))=(aQ row).set q (cC (.mk v1 v2 v3 v4)):=by rw[gR,gR,aA7]
    exact .mk (q,kk/l.length,row.set q (.mk v1 v2 v3 v4)) (rV [0,1,2,3,4,5,6]) ⟨by simp only;omega,by simp only;omega,by simp only[aAR];exact hrl,by simp only;rw[hdr,<-hrow,hrs,List.append_assoc];rfl⟩
     (aH _ rfl (iN rfl rfl rfl rfl rfl rfl rfl rfl ⟨aF 4 (bW _),aF 5 (aX _),⟨6,_,rfl,rfl,.eq (aX _) (by simp only;rw[e0,hset];rfl)⟩,trivial⟩) ⟨aP (.ip' hxn),V',V',⟨_,rfl,.w64 (y:=((kk/l.length:Nat):Int)) (by first|exact ed|rfl) hy⟩,V',ej,aG,aG,trivial⟩) J'
   .have hq0:q=0:=by simp at hb;omega
    subst hq0;simp only[aCd,List.reverse_nil,Go.Ax.rowAt,Zp,ZT] at hrow;have hmd:=hmade row;simp only at hmd;refine Z ?_;refine aJ.pre bI (mem':=Vo ns kn [(4,.row 48 1 (cK lists)),(5,.row 50 4 (aQ all))]) (rV [0,1,2,3,4,5]) ef
     (iN rfl rfl rfl rfl rfl rfl rfl rfl ⟨aF 4 (bW _),aF 5 (aX _),trivial⟩)
     (.cons (.same _ (.ip' hxn)) (.cons (.fz' (id:=6) (t:=50) (xs:=aQ row) rfl rfl gr (by rw[ZT];exact ZD gr) (aX _)) .nil)) ?_
    refine hmd.go ?_;have hr:=Fy lists.reverse k (by rw[<-hpr];exact hlt2);rw[<-hrow] at hr;obtain⟨⟨m1,m2,m3,m4⟩,hmv⟩:∃mv,mv=dW name row:=cm
    rw[<-hmv];refine Z ?_;refine aK (b8 rfl rfl (by simp[aB];omega) B') ?_;refine Z ?_;exact .mk (k+1,all++[.mk m1 m2 m3 m4]) [(0,0),(1,1),(2,2),(3,3),(4,4),(8,5)] ⟨by simp only;omega,by
      simp only;rw[hall,aB2,hr,aA1,hmv];rfl,by simp[hal]⟩
     (aH _ rfl (iN rfl rfl rfl rfl rfl rfl rfl rfl ⟨aF 4 (bW _),⟨8,_,rfl,rfl,.eq (aX _) (by rw[gW];rfl)⟩,trivial⟩) ⟨aP (.ip' hxn),V',⟨_,rfl,.slE rfl sq⟩,aG,⟨_,rfl,.wp⟩,trivial⟩) J'
  .have hlt2:k=total:=by simp at hb;omega
   refine Z ?_;refine CA _ kn hk gv _ _ (.tup' (.cons (.fz' (id:=5) (t:=50) (xs:=aQ all) rfl rfl gr ?_ (aX _)) ax));rw[ZT,ZD gr,hall,hlt2,hpr,<-BH,ZK]
theorem WE{ns:List Nd}{n:Nat}(h:i6 ns n)(i:Nat)(hi:i<n)(hOf:∀j<i,Rg ns j)(kn:List Bool)(hk:kn.length=ns.length) :
  aJ prog [] 195 [.ptr 0 0 0,.int .i64 i] (sM ns kn) 4 (sQ ns i):=by
 obtain⟨x,hx⟩:∃x,ns[i]? = some x:=⟨ns[i]'(by have:=h.hn;omega),Yz _⟩
 have ex:(bG ns)[((i:Nat):Int).toNat]? = some (dM x):=by simp[o8,hx]
 unfold sQ;rw[h.at hi hx];have hG:=h.node hi hx;have hO:=h.nodeOK hi hx;have hxn:=bP x;have hkm:∀k∈x.kids,0<=k/\k<i:=λk hk=>by
  obtain⟨j,hj⟩:=Zl hk;exact hG.kids j k hj
 have hU:=λ(kids:List Int) (h1:kids.length<=65536) (h2:∀k∈kids,0<=k/\k<i)=>UZ h i om kids h1 h2 hOf kn hk
 have hP:=Oy h i om x hG.klen hkm hOf kn hk;have hb:=hO.bind;have hkl:=hG.klen;have hkd:=hG.kind;have hnum:=cE hG.num;have e0:x.kind=0->dN x (aS ns)=⟨[x.value],false⟩:=λe=>by unfold dN;rw[Y7 e]
 have e1:x.kind=1->dN x (aS ns)=if 1024<=x.hi-x.lo then⟨[],true⟩ else⟨iR x.lo x.hi,false⟩:=λe=>by unfold dN;rw[Y3 om,Y7 e]
 have e2:x.kind=2->dN x (aS ns)=mN (aS ns) x.kids:=λe=>by unfold dN;rw[Y3 om,Y3 om,Y3 om,Y3 om]
 have e3:x.kind=3->dN x (aS ns)=p9 (aS ns) x:=λe=>by unfold dN;rw[Y3 om,Y3 om,Y7 e]
 have e4:x.kind=4->dN x (aS ns)=mN (aS ns) (x.kids.drop 1):=λe=>by unfold dN;rw[Y3 om,Y3 om,Y3 om,Y7 e]
 generalize dN x (aS ns)=res at e0 e1 e2 e3 e4 |-;clear hG hO hOf;have hP:x.kind=3->aJ prog [] 238 [.ptr 0 0 0,.ip (dM x)] (sM ns kn) 4 (uQ ns res):=λe=>by rw[e3 e];exact hP
 clear e3;obtain⟨kind,name,lo,hi',ws,ls,vals,kids,⟨vk,vn,vs,vks⟩⟩:=x;simp only at hkm hb hkl hkd hnum e0 e1 e2 e4 hP;refine aD bI func195 rfl ?_;refine Z ?_;repeat(refine aC ex ?_;refine Z ?_)
 have call:∀(F:FuncId) (a:List AV) (K:AV->aR->Nat->Prop) (nx:Nat),jR a->aJ prog [] F (.ptr 0 0 0::a) (sM ns kn) 4 (uQ ns res)->(∀kn',kn'.length=ns.length->K (.tup [.il 4 (aQ res.vals),.bool (!res.many)]) (sM ns kn'++gQ [0,1,2,3] (sM ns kn)) nx)->aJ prog [] F (.ptr 0 0 0::a) (sM ns kn) nx K:=λF a K nx ha hc hK=>by
  refine aJ.useI bI [0,1,2,3] hc ef (.cons bj (.same ha)) (gZ ns kn) ef ?_;rintro r m k' ⟨kn',hk',rfl,rfl,rfl⟩;exact⟨nn,gZ ns kn',by rfl,hK kn' hk'⟩
 rcases(show kind=0\/kind=1\/kind=2\/kind=3\/kind=4 by omega) with rfl|rfl|rfl|rfl|rfl
 .rw[e0 rfl];refine Z ?_;repeat(refine aC ex ?_;refine Z ?_)
  exact CA _ kn hk gv _ _ (.tup' (.cons (.fz' (id:=4) (t:=50) (xs:=aQ [.mk vk vn vs vks]) rfl rfl (by rw[aB];simp) rfl (aX _)) ax))
 .rw[e1 rfl];have hw:IntKind.i64.wrap (hi'-lo)=hi'-lo:=bF oq;refine Z ?_;simp only[hw];refine aL (λhb=>?_) (λhb=>?_)
  .have hb:1024<=hi'-lo:=su hb
   rw[Y7 hb];refine Z ?_;exact CA _ kn hk (gZ ns kn) _ _ (.tup' ik)
  .have hb:¬1024<=hi'-lo:=su hb
   rw[Y3 hb];refine Z ?_;refine bJ.ph 50 4 ?_;refine bJ.at bI (λc:Nat=>c<=(hi'+1-lo).toNat)
    (λc=>⟨[(6,.ip (dM ⟨1,name,lo,hi',ws,ls,vals,kids,.mk vk vn vs vks⟩)),(7,.sl 4 0 c),(8,.int .i64 (lo+c))],Vo ns kn [(4,.row 50 4 (aQ (iR lo (lo+c-1))))],5,82⟩)
    (λc=>(hi'+1-lo).toNat-c) 0 [(0,0),(1,1),(2,2),(3,3),(14,4)] sq
    (aH _ rfl (iN rfl rfl rfl rfl rfl rfl rfl rfl ⟨⟨14,_,rfl,rfl,by rw[show iR lo (lo+((0:Nat):Int)-1)=[] by simp[iR]];exact .nil⟩,trivial⟩) ⟨aP (.ip' hxn),⟨_,rfl,.nslk 14 4 _ rfl rfl⟩,⟨_,rfl,.int sq⟩,trivial⟩) ?_
   intro c hc;have hrl:∀c:Nat,(iR lo (lo+c-1)).length=c:=λc=>by simp[iR];omega
   refine Z ?_;refine aL (λhb2=>?_) (λhb2=>?_)
   .have hb2:lo+c<=hi':=su hb2
    have hrs:iR lo (lo+((c+1:Nat):Int)-1)=iR lo (lo+c-1)++[.mk 0 (lo+c) [] []]:=by
     unfold iR;rw[show (lo+((c+1:Nat):Int)-1+1-lo).toNat=c+1 by omega,show (lo+(c:Int)-1+1-lo).toNat=c by omega,aCc,aA1];rfl
    refine Z ?_;refine aK (b8 rfl rfl (by rw[aB,hrl]) B') ?_;refine Z ?_;exact .mk (c+1) [(0,0),(1,1),(2,2),(3,3),(6,4)] om
     (aH _ rfl (iN rfl rfl rfl rfl rfl rfl rfl rfl ⟨⟨6,_,rfl,rfl,by rw[hrs,gW];exact .snoc rfl (.same (aX _)) (x7 0 (lo+c) [])⟩,trivial⟩) ⟨aP (.ip' hxn),⟨_,rfl,.slE rfl sq⟩,RF,trivial⟩) om
   .have hb2:¬lo+c<=hi':=su hb2
    have hcc:lo+c-1=hi':=om;refine Z ?_;rw[hcc];refine CA _ kn hk gv _ _ (.tup' (.cons (.fz' (id:=4) (t:=50) (xs:=aQ (iR lo hi')) rfl rfl (by rw[aB];have:=hrl c;rw[hcc] at this;omega) ?_ (aX _)) ax));rw[ZT];exact ZD (by rw[aB];have:=hrl c;rw[hcc] at this;omega)
 .rw[e2 rfl] at call |-;refine Z ?_;refine call _ _ _ _ (.cons (.il' (aW _)) .nil) (hU kids hkl hkm) λkn' hk'=>?_
  refine Z ?_;exact CA _ kn' hk' (gZ ns kn') _ _ cc
 .refine Z ?_;refine call _ _ _ _ (.cons (.ip' hxn) .nil) (hP rfl) λkn' hk'=>?_
  refine Z ?_;exact CA _ kn' hk' (gZ ns kn') _ _ cc
 .rw[e4 rfl] at call |-;have hb:=hb rfl;refine Z ?_;refine aK (bV (Y2 (by rw[aN];simp;omega)) (bV (Y2 (ZA _)) (Y2 (ZA _)))) ?_;have ed:List.take ((aY kids).length-Int.toNat 1) (List.drop (Int.toNat 1) (aY kids))=aY (kids.drop 1):=by
   rw[ZD sq];simp[aY]
  rw[ed];refine Z ?_;refine call _ _ _ _ (.cons (.il' (aW _)) .nil) (hU (kids.drop 1) (by rw[aAg];omega) λk hk=>hkm k (Zn hk)) λkn' hk'=>?_
  refine Z ?_;exact CA _ kn' hk' (gZ ns kn') _ _ cc 
theorem Yw{ns:List Nd}{n:Nat}(h:i6 ns n):∀i<n,Rg ns i:=by
 intro i
 induction i using Nat.strongRecOn with
 | ind i ih=>exact λhi kn hk=>YL h i hi kn hk (WE h i hi (λj hj=>ih j hj om) kn hk)
theorem YD(a b:bH)(ha:jG a):aU prog [] 126 [cC a,cC b] (.bool (c8 a b == 0)):=by
 have hc:=pO a b ha;obtain⟨a1,a2,a3,a4⟩:=a;obtain⟨b1,b2,b3,b4⟩:=b;generalize c8 (.mk a1 a2 a3 a4) (.mk b1 b2 b3 b4)=c at hc |-;refine aD bI func126 rfl ?_;refine Z ?_;refine hc.go ?_;refine Z ?_;exact aA nn C' 
theorem Ju(l m:List bH)(hl:l.length<=4294967296)(hm:m.length<=4294967296)(hok:∀a∈l,jG a) :
  aU prog [] 107 [.il 4 (aQ l),.il 4 (aQ m),.fn (.func 126) [] []] (.bool (eO l m)):=by
 have hE:=λa ha b=>YD a b (hok a ha)
 refine aD bI func107 rfl ?_;refine Z ?_;refine aL (λh=>?_) (λh=>?_)
 .have h1:l.length≠m.length:=by rw[aB,aB] at h;simp at h;omega
  have:eO l m=false:=by
   cases e:eO l m with
   | false=>rfl
   | true=>exact absurd (oE e) h1
  rw[this];refine Z ?_;exact aA nn C'
 .have h1:l.length=m.length:=by rw[aB,aB] at h;simp at h;omega
  refine Z ?_;refine bJ.at bI (λi:Nat=>i<=l.length/\eO l m=eO (l.drop i) (m.drop i)) (λi=>⟨[(1,.il 4 (aQ m)),(2,.fn (.func 126) [] []),(15,.il 4 (aQ l)),(16,.int .i64 l.length),(17,.int .i64 i)],[],0,32⟩) (λi=>l.length-i) 0 [] ⟨sq,sq⟩
   (b9 ⟨aP (.il' (aX _)),aG,aP (.il' (aX _)),⟨_,rfl,.int (by rw[aB])⟩,aG,trivial⟩) ?_
  rintro i ⟨hi,hs⟩;refine Z ?_;refine aL (λhb=>?_) (λhb=>?_)
  .have hil:i<l.length:=su hb
   obtain⟨p1,p2,p3,p4,pm,pg,pe,ep⟩:=dU (l:=l) (k:=i) hil;obtain⟨q1,q2,q3,q4,qm,qg,qe,eq⟩:=dU (l:=m) (k:=i) om;rw[List.drop_eq_getElem_cons hil,List.drop_eq_getElem_cons (show i<m.length by omega),eO,pe,qe] at hs;have hc:=hE _ pm (.mk q1 q2 q3 q4);obtain⟨c,hc0⟩:∃c,c=c8 (.mk p1 p2 p3 p4) (.mk q1 q2 q3 q4):=cm
   rw[<-hc0] at hc hs;refine Z ?_;repeat((first|refine aC ep ?_|refine aC eq ?_|refine bK ?_);refine Z ?_)
   refine hc.go ?_;refine Z ?_;refine aL (λh=>?_) (λh=>?_)
   .have:decide (c=0)=false:=su h
    rw[hs,this];refine Z ?_;exact aA nn C'
   .have:decide (c=0)=true:=su h
    rw[this] at hs;refine Z ?_;exact .mk (i+1) [] ⟨om,hs⟩ (b9 ⟨aP (.il' (aX _)),aG,aP (.il' (aX _)),aG,RF,trivial⟩) om
  .have hil:i=l.length:=by simp at hb;omega
   rw[hil,aAn,h1,aAn,eO] at hs;rw[hs];refine Z ?_;exact aA nn C' 
def HV(ns:List Nd)(ls ss:List Int)(kn:List Bool)(rest:aR):aR:=(0,.row 132 4 [.agg [.il 12 (bG ns),.sl 1 0 ns.length,.sl 2 0 ns.length,.ptr 3 0 0]])::(1,.row 3 1 (aY ls))::(2,.row 3 1 (aY ss)) ::
 (3,.row 144 4 [.agg [.il 12 (bG ns),.sl 4 0 ns.length,.sl 5 0 ns.length,.sl 6 0 ns.length]])::(4,.row 4 1 (kB kn))::(5,.row 48 1 (lB (aS ns) kn))::(6,.row 4 1 (mB (aS ns) kn))::rest
def WM(ns:List Nd)(l1 l2:List AV)(kn:List Bool):aR:=[(0,.row 132 4 [.agg [.il 12 (bG ns),.sl 1 0 ns.length,.sl 2 0 ns.length,.ptr 3 0 0]]),(1,.row 3 1 l1),(2,.row 3 1 l2),
 (3,.row 144 4 [.agg [.il 12 (bG ns),.sl 4 0 ns.length,.sl 5 0 ns.length,.sl 6 0 ns.length]]),(4,.row 4 1 (kB kn)),(5,.row 48 1 (lB (aS ns) kn)),(6,.row 4 1 (mB (aS ns) kn))]
theorem WB{mem:aR}{J:List (Nat × Nat)}{ns:List Nd}{N a b c a' b' c':Nat}(h1:lk J a=some a')(h2:lk J b=some b')(h3:lk J c=some c') :
  rY mem J [.agg [.il 12 (bG ns),.sl a 0 N,.sl b 0 N,.ptr c 0 0]] [.agg [.il 12 (bG ns),.sl a' 0 N,.sl b' 0 N,.ptr c' 0 0]]:=
 .cons (.agg (.cons (.same _ (.il' (bB _))) (.cons (.sl a a' 0 N h1) (.cons (.sl b b' 0 N h2) (.cons (.ptr c c' 0 0 h3) .nil))))) .nil
theorem kL{mem:aR}{J:List (Nat × Nat)}{ns:List Nd}{kn:List Bool}{ls ss:List Int}{l1 l2:List AV}{rest:aR}(h0:lk J 0=some 0)(h1:lk J 1=some 1)(h2:lk J 2=some 2)(h3:lk J 3=some 3)(h4:lk J 4=some 4)(h5:lk J 5=some 5)(h6:lk J 6=some 6)
  (m0:lk mem 0=some (.row 132 4 [.agg [.il 12 (bG ns),.sl 1 0 ns.length,.sl 2 0 ns.length,.ptr 3 0 0]])) (m1:lk mem 1=some (.row 3 1 l1)) (m2:lk mem 2=some (.row 3 1 l2)) (e1:l1=aY ls) (e2:l2=aY ss)
  (m3:lk mem 3=some (.row 144 4 [.agg [.il 12 (bG ns),.sl 4 0 ns.length,.sl 5 0 ns.length,.sl 6 0 ns.length]])) (m4:lk mem 4=some (.row 4 1 (kB kn))) (m5:lk mem 5=some (.row 48 1 (lB (aS ns) kn))) (m6:lk mem 6=some (.row 4 1 (mB (aS ns) kn)))
  (hr:cZ mem J rest):cZ mem J (HV ns ls ss kn rest):=
 ⟨⟨0,_,h0,m0,WB h1 h2 h3⟩,⟨1,_,h1,m1,.eq (aW _) e1⟩,⟨2,_,h2,m2,.eq (aW _) e2⟩,⟨3,_,h3,m3,Eh h4 h5 h6⟩,⟨4,_,h4,m4,.same (jC _)⟩,⟨5,_,h5,m5,.same (AL _ _)⟩,⟨6,_,h6,m6,.same (xZ _ _)⟩,hr⟩
theorem nT(ns:List Nd)(ls ss:List Int)(kn:List Bool):cZ (HV ns ls ss kn []) (rV [0,1,2,3,4,5,6]) (HV ns ls ss kn []):=kL rfl rfl rfl rfl rfl rfl rfl rfl rfl rfl rfl rfl rfl rfl rfl rfl trivial
theorem oD(l:List Int)(i:Nat)(y:Int):aY (l.set i y)=(aY l).set i (.int .i64 y):=by simp[aY,aA7]
theorem Ut{ns:List Nd}(i:Nat)(x:Nd)(hx:ns[i]? = some x)(hok:tY x)(hsz:bS x.value<=1048576)(hkl:x.kids.length<=65536)(hkids:∀(j:Nat) (k:Int),x.kids[j]? = some k->0<=k/\k<i)(hkd:0<=x.kind/\x.kind<=4)(h4:4<=x.kind->0<x.kids.length)
  (ls ss:List Int) (kn:List Bool) (hls:ls.length=ns.length) (hss:ss.length=ns.length) (bl:∀y∈ls,0<=y/\y<=1024) (bs:∀y∈ss,0<=y/\y<=1024) :
  aJ prog [] 65 [.ptr 0 0 0,.int .i64 i] (HV ns ls ss kn []) 7 λr m k=>r = .bool (decide (Go.Ax.f8 ls x<=256) && decide (AN ss x<=1024))/\m=HV ns (ls.set i (Go.Ax.f8 ls x)) (ss.set i (AN ss x)) kn []/\k=7:=by
 have hil:=(Y4.1 hx).1;have ex:(bG ns)[((i:Nat):Int).toNat]? = some (dM x):=by simp[o8,hx]
 have hxn:=bP x;have hL:=Lm ls x hok hkl bl (λj k hk=>by have:=hkids j k hk;omega) h4 hkd;have hV:=Vv x.value hsz;have hP:AN ss x=if x.kind=0 then(bS x.value:Int) else if x.kind=1 then 1 else if x.kind=3 then 1+gB ss x.kids else max 1 (c9 ss (eT x)):=rfl
 have hs:=λl=>jY (b:=ss) (M:=1024) om bs l
 have hm:=λl=>iK (b:=ss) (M:=1024) om bs l
 have har:eT x=if x.kind=2 then x.kids else x.kids.drop 1:=rfl
 have hat:=λq=>nG (b:=ss) (M:=1024) om bs q
 have eat:∀k:Int,0<=k->k<ss.length->(aY ss)[0+k.toNat]? = some (.int .i64 (eP ss k)):=λk h0 h1=>by
  have:k.toNat<ss.length:=om;rw[ZP,bU,Yz this];unfold eP;rw[Y0,Yz this];rfl
 have hM:∀k:Nat,k<x.kids.length->(c9 ss (if x.kind=2 then x.kids.take (k+1) else(x.kids.take (k+1)).drop 1))=if 0<k\/x.kind=2 then max (c9 ss (if x.kind=2 then x.kids.take k else(x.kids.take k).drop 1)) (eP ss (x.kids.getD k 0)) else c9 ss (if x.kind=2 then x.kids.take k else(x.kids.take k).drop 1):=λk hk=>by
  have eg:x.kids.getD k 0=x.kids[k]:=by rw[Y0,Yz hk];rfl
  rw[eg];by_cases e2:x.kind=2
  .rw[Y7 e2,Y7 (.inr e2),Y7 e2,s6 hk]
  .rw[Y3 e2,Y3 e2];by_cases e0:0<k
   .rw[Y7 (.inl e0),pZ hk e0]
   .rw[Y3 om];have:k=0:=om;subst this;simp[c9,Zm]
 have h0:0+((i:Nat):Int).toNat=i:=sq
 have g1:Nat.blt ((i:Nat):Int).toNat ns.length=true:=Y2 B';generalize hlen:Go.Ax.f8 ls x=len at *;generalize hsiz:AN ss x=siz at *;clear hlen hsiz hok;obtain⟨kind,name,lo,hi',ws,lbs,vals,kids,⟨vk,vn,vs,vks⟩⟩:=x;simp only at hsz hkl hkids hkd h4 hV hP hM;obtain⟨sv,hsv⟩:∃sv,sv=bS (.mk vk vn vs vks):=cm
 rw[<-hsv] at hV hP hsz;have f1:(aY ls)[0+((i:Nat):Int).toNat]? = some (.int .i64 ls[i]):=by rw[h0,bU,Yz om];rfl
 have f2:((aY ls).set (0+((i:Nat):Int).toNat) (.int .i64 len))[0+((i:Nat):Int).toNat]? = some (.int .i64 len):=by rw[h0];exact Zy (by rw[aN];omega)
 have f3:(aY ss)[0+((i:Nat):Int).toNat]? = some (.int .i64 ss[i]):=by rw[h0,bU,Yz om];rfl
 have f4:∀siz:Int,((aY ss).set (0+((i:Nat):Int).toNat) (.int .i64 siz))[0+((i:Nat):Int).toNat]? = some (.int .i64 siz):=λsiz=>by rw[h0];exact Zy (by rw[aN];omega)
 generalize ls[i]=l0 at f1;generalize ss[i]=s0 at f3;refine aD bI func65 rfl ?_;refine Rt ?_;repeat((first|refine aK g1 ?_|refine aC ex ?_|refine aC f1 ?_|refine aC f2 ?_);refine Rt ?_)
 refine hL.lend bI (.cons (.same _ (.ip' hxn)) (.cons (.fz' (id:=1) (t:=3) (xs:=aY ls) rfl rfl (by rw[aN];omega) (by rw[ZT];exact ZD (by rw[aN];omega)) (aW _)) .nil)) (.int _ _) ?_;refine Rt ?_;repeat((first|refine aK g1 ?_|refine aC ex ?_|refine aC f1 ?_|refine aC f2 ?_);refine Rt ?_)
 obtain⟨d1,hd1⟩:∃d1,d1=decide (len<=256):=cm
 rw[<-hd1];have fin:∀(mem:aR) (nx:Nat) {d:Bool},d=(d1 && decide (siz<=1024))->mem=WM ns ((aY ls).set (0+((i:Nat):Int).toNat) (.int .i64 len)) ((aY ss).set (0+((i:Nat):Int).toNat) (.int .i64 siz)) kn ->
   oC 7 (λr m k=>r = .bool (d1 && decide (siz<=1024))/\m=HV ns (ls.set i len) (ss.set i siz) kn []/\k=7) (.bool d) mem nx:=by
  rintro mem nx d rfl rfl;exact bL (n':=7) (m':=HV ns (ls.set i len) (ss.set i siz) kn []) (rV [0,1,2,3,4,5,6]) rfl (kL rfl rfl rfl rfl rfl rfl rfl rfl rfl rfl (by rw[h0];exact(oD _ _ _).symm) (by rw[h0];exact(oD _ _ _).symm) rfl rfl rfl rfl trivial) cc C'
 have fin':∀(mem:aR) (nx:Nat) {d:Bool},d=(d1 && decide (siz<=1024))->mem=WM ns (aY (ls.set i len)) ((aY ss).set (0+((i:Nat):Int).toNat) (.int .i64 siz)) kn ->
   oC 7 (λr m k=>r = .bool (d1 && decide (siz<=1024))/\m=HV ns (ls.set i len) (ss.set i siz) kn []/\k=7) (.bool d) mem nx:=by
  rintro mem nx d rfl rfl;exact bL (n':=7) (m':=HV ns (ls.set i len) (ss.set i siz) kn []) (rV [0,1,2,3,4,5,6]) rfl (kL rfl rfl rfl rfl rfl rfl rfl rfl rfl rfl rfl (by rw[h0];exact(oD _ _ _).symm) rfl rfl rfl rfl trivial) cc C'
 have f2':(aY (ls.set i len))[0+((i:Nat):Int).toNat]? = some (.int .i64 len):=by rw[h0,oD];exact Zy (by rw[aN];omega)
 rcases(show kind=0\/kind=1\/kind=2\/kind=3\/kind=4 by omega) with rfl|rfl|rfl|rfl|rfl
 .rw[Y7 rfl] at hP;subst hP;refine Z ?_;refine hV.go ?_;refine Rt ?_;repeat((first|refine aK g1 ?_|refine aC f3 ?_|refine aC (f4 _) ?_|refine aC f2 ?_);refine Rt ?_)
  rw[<-hd1];clear hd1;cases d1 with
  | true=>
   refine Z ?_;exact fin _ _ rfl rfl
  | false=>
   refine Z ?_;exact fin _ _ rfl rfl
 .rw[Y3 H',Y7 rfl] at hP;subst hP;refine Rt ?_;repeat((first|refine aK g1 ?_|refine aC f3 ?_|refine aC (f4 _) ?_|refine aC f2 ?_);refine Rt ?_)
  rw[<-hd1];clear hd1;cases d1 with
  | true=>
   refine Z ?_;exact fin _ _ rfl rfl
  | false=>
   refine Z ?_;exact fin _ _ rfl rfl
 .rw[Y3 H',Y3 H',Y3 H'] at hP;refine Z ?_;refine bJ.at bI (λp:Nat × Int=>p.1<=kids.length/\p.2=max 1 (c9 ss (kids.take p.1)))
   (λp=>⟨[(0,.ptr 0 0 0),(1,.int .i64 i),(5,.ip (dM ⟨2,name,lo,hi',ws,lbs,vals,kids,.mk vk vn vs vks⟩)),(6,.int .i64 p.2),(67,.il 1 (aY kids)),(68,.int .i64 kids.length),(69,.int .i64 p.1)],HV ns (ls.set i len) ss kn [],7,112⟩) (λp=>kids.length-p.1) (0,1) (rV [0,1,2,3,4,5,6]) ⟨sq,by simp[c9];omega⟩
   (aH _ rfl dy ⟨aM,aG,aP (.ip' hxn),aG,aP (.il' (aW _)),gp,aG,trivial⟩) ?_
  rintro⟨j,size⟩ ⟨hj,hsize⟩;simp only at hj hsize |-;have bsz:=hm (kids.take j);refine Z ?_;refine aL (λh=>?_) (λh=>?_)
  .have hlt:j<kids.length:=su h
   have e1:(aY kids)[(j:Int).toNat]? = some (.int .i64 kids[j]):=ck
   obtain⟨q0,q1⟩:=hkids j _ (Yz hlt);have hM:=hM j hlt;have eg:kids.getD j 0=kids[j]:=by rw[Y0,Yz hlt];rfl
   rw[eg] at hM;have hM:c9 ss (kids.take (j+1))=max (c9 ss (kids.take j)) (eP ss kids[j]):=su hM
   generalize kids[j]=q at e1 q0 q1 hM;obtain⟨q,rfl⟩:=ZU q0;have e2:=eat q q0 om;have hq:=hat q;have g2:Nat.blt ((q:Nat):Int).toNat ns.length=true:=Y2 B';generalize eP ss q=z at e2 hq hM;refine Z ?_;repeat((first|refine aK g2 ?_|refine aC e1 ?_|refine aC e2 ?_);refine Z ?_)
   by_cases k0:0<j
   .have d0:decide ((j:Int)>0)=true:=by simp;omega
    rw[d0];refine Z ?_;repeat((first|refine aK g2 ?_|refine aC e1 ?_|refine aC e2 ?_);refine Z ?_)
    exact .mk (j+1,max size z) (rV [0,1,2,3,4,5,6]) ⟨by simp only;omega,by simp only;rw[hM,hsize];omega⟩
     dh J'
   .have d0:decide ((j:Int)>0)=false:=by simp;omega
    rw[d0];refine Z ?_;repeat((first|refine aK g2 ?_|refine aC e1 ?_|refine aC e2 ?_);refine Z ?_)
    exact .mk (j+1,max size z) (rV [0,1,2,3,4,5,6]) ⟨by simp only;omega,by simp only;rw[hM,hsize];omega⟩
     dh J'
  .have hlt:j=kids.length:=by simp at h;omega
   rw[hlt,ZK,show c9 ss kids=c9 ss (eT ⟨2,name,lo,hi',ws,lbs,vals,kids,.mk vk vn vs vks⟩) from rfl,<-hP] at hsize;subst hsize;refine Rt ?_;repeat((first|refine aK g1 ?_|refine aC f3 ?_|refine aC (f4 _) ?_|refine aC f2' ?_);refine Rt ?_)
   rw[<-hd1];clear hd1;cases d1 with
   | true=>
    refine Z ?_;exact fin' _ _ rfl rfl
   | false=>
    refine Z ?_;exact fin' _ _ rfl rfl
 .rw[Y3 H',Y3 H',Y7 rfl] at hP;refine Z ?_;refine bJ.at bI (λp:Nat × Int=>p.1<=kids.length/\p.2=1+gB ss (kids.take p.1))
   (λp=>⟨[(0,.ptr 0 0 0),(1,.int .i64 i),(6,.int .i64 p.2),(45,.il 1 (aY kids)),(46,.int .i64 kids.length),(47,.int .i64 p.1)],HV ns (ls.set i len) ss kn [],7,112⟩) (λp=>kids.length-p.1) (0,1) (rV [0,1,2,3,4,5,6]) ⟨sq,by simp[gB]⟩
   (aH _ rfl dy ⟨aM,aG,aG,aP (.il' (aW _)),gp,aG,trivial⟩) ?_
  rintro⟨j,size⟩ ⟨hj,hsize⟩;simp only at hj hsize |-;have bsz:=hs (kids.take j);have btk:(kids.take j).length<=65536:=B'
  refine Z ?_;refine aL (λh=>?_) (λh=>?_)
  .have hlt:j<kids.length:=su h
   have e1:(aY kids)[(j:Int).toNat]? = some (.int .i64 kids[j]):=ck
   obtain⟨q0,q1⟩:=hkids j _ (Yz hlt);have hst:=wA (b:=ss) hlt;generalize kids[j]=q at e1 q0 q1 hst;obtain⟨q,rfl⟩:=ZU q0;have e2:=eat q q0 om;have hq:=hat q;have g2:Nat.blt ((q:Nat):Int).toNat ns.length=true:=Y2 B';generalize eP ss q=z at e2 hq hst;refine Z ?_;repeat((first|refine aK g2 ?_|refine aC e1 ?_|refine aC e2 ?_);refine Z ?_)
   exact .mk (j+1,size+z) (rV [0,1,2,3,4,5,6]) ⟨by simp only;omega,by simp only;rw[hst,hsize];omega⟩
    (aH _ rfl (nT _ _ _ _) ⟨aM,aG,ej,aP (.il' (aW _)),aG,⟨_,rfl,.wp⟩,trivial⟩) J'
  .have hlt:j=kids.length:=by simp at h;omega
   rw[hlt,ZK,<-hP] at hsize;subst hsize;refine Rt ?_;repeat((first|refine aK g1 ?_|refine aC f3 ?_|refine aC (f4 _) ?_|refine aC f2' ?_);refine Rt ?_)
   rw[<-hd1];clear hd1;cases d1 with
   | true=>
    refine Z ?_;exact fin' _ _ rfl rfl
   | false=>
    refine Z ?_;exact fin' _ _ rfl rfl
 .rw[Y3 H',Y3 H',Y3 H'] at hP;refine Z ?_;refine bJ.at bI (λp:Nat × Int=>p.1<=kids.length/\p.2=max 1 (c9 ss ((kids.take p.1).drop 1)))
   (λp=>⟨[(0,.ptr 0 0 0),(1,.int .i64 i),(5,.ip (dM ⟨4,name,lo,hi',ws,lbs,vals,kids,.mk vk vn vs vks⟩)),(6,.int .i64 p.2),(67,.il 1 (aY kids)),(68,.int .i64 kids.length),(69,.int .i64 p.1)],HV ns (ls.set i len) ss kn [],7,112⟩) (λp=>kids.length-p.1) (0,1) (rV [0,1,2,3,4,5,6]) ⟨sq,by simp[c9];omega⟩
   (aH _ rfl dy ⟨aM,aG,aP (.ip' hxn),aG,aP (.il' (aW _)),gp,aG,trivial⟩) ?_
  rintro⟨j,size⟩ ⟨hj,hsize⟩;simp only at hj hsize |-;have bsz:=hm ((kids.take j).drop 1);refine Z ?_;refine aL (λh=>?_) (λh=>?_)
  .have hlt:j<kids.length:=su h
   have e1:(aY kids)[(j:Int).toNat]? = some (.int .i64 kids[j]):=ck
   obtain⟨q0,q1⟩:=hkids j _ (Yz hlt);have hM:=hM j hlt;have eg:kids.getD j 0=kids[j]:=by rw[Y0,Yz hlt];rfl
   rw[eg] at hM;have hM:0<j->c9 ss ((kids.take (j+1)).drop 1)=max (c9 ss ((kids.take j).drop 1)) (eP ss kids[j]):=λhj=>by rw[pZ hlt hj]
   generalize kids[j]=q at e1 q0 q1 hM;obtain⟨q,rfl⟩:=ZU q0;have e2:=eat q q0 om;have hq:=hat q;have g2:Nat.blt ((q:Nat):Int).toNat ns.length=true:=Y2 B';generalize eP ss q=z at e2 hq hM;refine Z ?_;repeat((first|refine aK g2 ?_|refine aC e1 ?_|refine aC e2 ?_);refine Z ?_)
   by_cases k0:0<j
   .have d0:decide ((j:Int)>0)=true:=by simp;omega
    rw[d0];refine Z ?_;repeat((first|refine aK g2 ?_|refine aC e1 ?_|refine aC e2 ?_);refine Z ?_)
    exact .mk (j+1,max size z) (rV [0,1,2,3,4,5,6]) ⟨by simp only;omega,by simp only;rw[hM k0,hsize];omega⟩
     dh J'
   .have d0:decide ((j:Int)>0)=false:=by simp;omega
    rw[d0];refine Z ?_;repeat((first|refine aK g2 ?_|refine aC e1 ?_|refine aC e2 ?_);refine Z ?_)
    have j0:j=0:=om;subst j0;exact .mk (1,size) (rV [0,1,2,3,4,5,6]) ⟨by simp only;omega,by simp only;rw[hsize];simp[Zm]⟩
     (aH _ rfl (nT _ _ _ _) ⟨aM,aG,aP (.ip' hxn),aG,aP (.il' (aW _)),aG,⟨_,rfl,.wp⟩,trivial⟩) J'
  .have hlt:j=kids.length:=by simp at h;omega
   rw[hlt,ZK,show c9 ss (kids.drop 1)=c9 ss (eT ⟨4,name,lo,hi',ws,lbs,vals,kids,.mk vk vn vs vks⟩) from rfl,<-hP] at hsize;subst hsize;refine Rt ?_;repeat((first|refine aK g1 ?_|refine aC f3 ?_|refine aC (f4 _) ?_|refine aC f2' ?_);refine Rt ?_)
   rw[<-hd1];clear hd1;cases d1 with
   | true=>
    refine Z ?_;exact fin' _ _ rfl rfl
   | false=>
    refine Z ?_;exact fin' _ _ rfl rfl
theorem VP{ns:List Nd}{n:Nat}(h:i6 ns n)(x:Nd)(hvl:x.values.length<=1000000)(hk4:x.kind=4->∃k:Nat,x.kids[0]? = some (k:Int)/\k<n)(ls ss:List Int)(kn:List Bool)(hk:kn.length=ns.length) :
  aJ prog [] 66 [.ptr 0 0 0,.ip (dM x)] (HV ns ls ss kn []) 7 λr m k=>∃kn',kn'.length=ns.length /\
   r = .int .i64 (if x.kind=4 then(if (dT (aS ns) (x.kids.getD 0 0)).many=true then 4 else if eO (dT (aS ns) (x.kids.getD 0 0)).vals x.values=true then 0 else 1) else 0)/\m=HV ns ls ss kn' []/\k=7:=by
 have hxn:=bP x;generalize hres:(if x.kind=4 then(if (dT (aS ns) (x.kids.getD 0 0)).many=true then 4 else if eO (dT (aS ns) (x.kids.getD 0 0)).vals x.values=true then 0 else 1) else(0:Int))=res;have fin:∀(kn':List Bool) (mem:aR) (nx:Nat) (c:Int),kn'.length=ns.length->c=res->cZ mem (rV [0,1,2,3,4,5,6]) (HV ns ls ss kn' []) ->
   oC 7 (λr m k=>∃kn',kn'.length=ns.length/\r = .int .i64 res/\m=HV ns ls ss kn' []/\k=7) (.int .i64 c) mem nx:=by
  rintro kn' mem nx c hk' rfl hM;exact bL (n':=7) (m':=HV ns ls ss kn' []) (rV [0,1,2,3,4,5,6]) rfl hM cc ⟨kn',hk',rfl,rfl,rfl⟩
 by_cases e4:x.kind=4
 .obtain⟨k,hkg,hkn⟩:=hk4 e4;have eg:x.kids.getD 0 0=(k:Int):=by rw[Y0,hkg];rfl
  rw[Y7 e4,eg] at hres;have ek:(aY x.kids)[(0:Int).toNat]? = some (.int .i64 k):=by rw[show (0:Int).toNat=0 from rfl,bU,hkg];rfl
  have hO:=Yw h k hkn kn hk;have hv:=h.vals (k:=k) om om;obtain⟨lk,hlk⟩:∃lk,lk=dT (aS ns) k:=cm
  unfold sQ at hO;rw[<-hlk] at hv hres;simp only[<-hlk] at hO;obtain⟨lv,lm⟩:=lk;simp only at hv hres;have hE:=λl (hl:l.length<=1024) hok=>Ju l x.values om om hok
  obtain⟨kind,name,lo,hi',ws,lbs,vals,kids,⟨vk,vn,vs,vks⟩⟩:=x;simp only at e4 ek hvl hE hres;subst e4;refine aD bI func66 rfl ?_;refine Z ?_;repeat((first|refine aC ek ?_|refine bK ?_);refine Z ?_)
  refine aJ.useR bI [(3,0),(4,1),(5,2),(6,3)] hO ef (.cons (.ptr 3 0 0 0 rfl) ax) ⟨⟨3,_,rfl,rfl,Eh rfl rfl rfl⟩,aF 4 (jC _),aF 5 (AL _ _),aF 6 (xZ _ _),trivial⟩ ef ?_;rintro r m nn' ⟨kn',hk',rfl,rfl,rfl⟩;refine⟨[(3,.row 144 4 [.agg [.il 12 (bG ns),.sl 4 0 ns.length,.sl 5 0 ns.length,.sl 6 0 ns.length]]),(4,.row 4 1 (kB kn')),(5,.row 48 1 (lB (aS ns) kn')),(6,.row 4 1 (mB (aS ns) kn'))],nn,⟨⟨0,_,rfl,rfl,Eh rfl rfl rfl⟩,aF 1 (jC _),aF 2 (AL _ _),aF 3 (xZ _ _),trivial⟩,by rfl, ?_⟩;cases lm with
  | true=>
   refine Z ?_;refine fin kn' _ _ _ hk' (by rw[<-hres];simp) ?_;exact kL rfl rfl rfl rfl rfl rfl rfl rfl rfl rfl rfl rfl rfl rfl rfl rfl trivial
  | false=>
   have hE:=hE lv hv.1 hv.2;obtain⟨sv,hsv⟩:∃sv,sv=eO lv vals:=cm
   rw[<-hsv] at hE hres;refine Z ?_;refine hE.go ?_;cases sv with
   | true=>
    refine Z ?_;refine fin kn' _ _ _ hk' (by rw[<-hres];simp) ?_;exact kL rfl rfl rfl rfl rfl rfl rfl rfl rfl rfl rfl rfl rfl rfl rfl rfl trivial
   | false=>
    refine Z ?_;refine fin kn' _ _ _ hk' (by rw[<-hres];simp) ?_;exact kL rfl rfl rfl rfl rfl rfl rfl rfl rfl rfl rfl rfl rfl rfl rfl rfl trivial
 .rw[Y3 e4] at hres;obtain⟨kind,name,lo,hi',ws,lbs,vals,kids,⟨vk,vn,vs,vks⟩⟩:=x;simp only at e4;refine aD bI func66 rfl ?_;refine Z ?_;refine aL (λ_=>?_) (λh=>absurd (su h) e4);refine Z ?_;exact fin kn _ _ _ hk hres (nT _ _ _ _)
end Go.Proofs.YthggfhnnkclooaaGreatDoor
