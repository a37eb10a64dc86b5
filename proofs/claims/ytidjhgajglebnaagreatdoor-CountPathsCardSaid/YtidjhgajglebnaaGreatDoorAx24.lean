/- A part of the proof. -/
import Derived.Test.YtidjhgajglebnaaGreatDoorAx23
set_option linter.unusedVariables false
set_option linter.unusedSimpArgs false
namespace Go.Proofs.YtidjhgajglebnaaGreatDoor
open Go Go.Ax Go.Proofs Tryz
set_option maxRecDepth 100000
set_option maxHeartbeats 16000000
theorem jG(A:List Nd)(i:Nat)(o:Option aR):iO A (i,o)=lW A i o:=by cases o<;>rfl
def yN(A:List Nd)(S:List aR)(i:Nat)(o:Option aR)(E:List Key):Prop:=aF prog [] 94 [.ptr 0 0 0,cD (aJ A i),.bool o.isNone,cN (o.getD J8)] (gN A E 1) 2 (fun r m k=>∃F,(∀q∈F,q.1<i)/\nK A S (E++F)/\r = .il 6 (bK (iO A (i,o)))/\m=gN A (E++F) 2/\k=3)
theorem W4{A:List Nd}{S:List aR}(h:VT A)(hS:FJ A S)(i:Nat)(hi:i<A.length)(ih:∀j<i,Hl A S j)(k2:(aJ A i).kind=2)(o:Option aR)(E:List Key)(ho:∀v,o=some v->v∈S)(hE:nK A S E):yN A S i o E:=by
 have hx:=bS hi;have hxm:=Yv hx;have gx:=h.node hx;have hkm:=fun(k:Int) (hk:k∈(aJ A i).kids)=>fI h hx hk
 have nN:=aV (aJ A i);have nv:=dC (o.getD J8);have hres:iO A (i,o)=Np A (aJ A i) o (aJ A i).kids.length:=by rw[jG];exact Sd h hi k2 o
 have hvo:∀v,o=some v->bP v=0:=fun v e=>(hS.ok v (ho v e)).2
 have hb:=Wu h hi k2 hvo;have hnx:=fun(k:Nat) (hk:k<(aJ A i).kids.length)=>Qc (A:=A) (x:=aJ A i) (o:=o) hk
 have hwl:=h.wlen hx k2;have hwi:=Ki gx.node.num;have hkl:=h.tin.klen _ hxm;have hrw:=fun(j:Nat) (hj:j<i)=>oM h (i:=j) (by omega) hvo
 have hWs:=fun k=>Qg hwi (by omega) k
 have hS0:=SM hwi (by omega);have h0:Np A (aJ A i) o 0=[]:=by unfold Np;rw[aAy];rfl
 unfold yN;generalize Np A (aJ A i) o=G at *;obtain⟨w,hw⟩:∃w,o.getD J8=w:=⟨_,rfl⟩
 rw[hw] at nv ⊢;obtain⟨al,hal⟩:∃al,o.isNone=al:=⟨_,rfl⟩
 rw[hal,hres];generalize aJ A i=x at *;obtain⟨xk,xn,xl,xh,xw,xb,xv,xc,⟨yk,yn,ys,yks⟩⟩:=x;simp only at k2 hkm hres hnx hwl hwi hkl hWs hS0 hb ⊢;subst k2;have hSum:=Vp xw (by omega) hWs;have hWt:i64 (pO xw):=by have:=hWs xw.length;rwa [ZB] at this
 have lc:=aI xc;generalize pO xw=sw at *;obtain⟨vk,vn,vs,vks⟩:=w;refine aD bD func94 rfl ?_;refine Rt ?_;refine hSum.go ?_ (.cons (.il' (bE _)) .nil) nn;refine Rt ?_;refine aZ.at bD (fun p:Nat × List Key=>p.1<=xc.length/\(∀q∈p.2,q.1<i)/\nK A S (E++p.2))
  (fun p=>⟨[(0,.ptr 0 0 0),(2,.bool al),(5,.ptr 2 0 0),(7,.ptr 3 0 0),(9,.il 6 (bK (G p.1))),(11,.int .i64 sw),(12,.int .i64 p.1)],[(0,.row 99 3 [.agg [.il 12 (bG A),.bool false,.sl 4 0 (E++p.2).length]]),(4,.row 169 7 (iW A (E++p.2))),(2,.row 57 12 [cD ⟨2,xn,xl,xh,xw,xb,xv,xc,.mk yk yn ys yks⟩]),(3,.row 55 4 [cN (.mk vk vn vs vks)])],5,186⟩)
  (fun p=>xc.length-p.1) (0,[]) [(0,0),(1,4),(2,2),(3,3)] ⟨Zd _,by simp,by simpa using hE⟩
  (aE _ rfl ⟨⟨0,_,rfl,rfl,.cons (.agg (.cons (.same _ (.il' (aP A))) (.cons (.same _ (gH _)) (.cons (.slE rfl (by simp)) .nil)))) .nil⟩,⟨1,_,rfl,rfl,.eq (gI _ _) (by simp)⟩,aL 2 (.cons nN .nil),aL 3 (.cons nv .nil),trivial⟩
   ⟨aG,aN (gH _),aG,aG,⟨_,rfl,by rw[h0];exact .nil 6⟩,aK,aK,trivial⟩) ?_
 rintro⟨k,F⟩ ⟨hk,hF1,hF2⟩;simp only at hk hF1 hF2 ⊢;refine Rr ?_;rw[lc];refine aH (fun hbb=>?_) (fun hbb=>?_)
 ·have hlt:k<xc.length:=by simpa using hbb
  have hnk:=hnx k hlt;have e1:(bH xw)[((k:Nat):Int).toNat]? = some (.int .i64 xw[k]):=by simp[bU,Yj (show k<xw.length by omega)]
  have e2:(bH xc)[((k:Nat):Int).toNat]? = some (.int .i64 xc[k]):=by simp[bU,Yj hlt]
  have ew:xw.getD k 0=xw[k]:=by rw[Ym,Yj (show k<xw.length by omega)];rfl
  have hwk:=hwi xw[k] (Y8 _);rw[ew] at hnk;obtain⟨q0,q1⟩:=hkm xc[k] (Y8 hlt);generalize xw[k]=wk at *;generalize xc[k]=q at *;obtain⟨j,rfl⟩:∃j:Nat,q=(j:Int):=⟨q.toNat,by omega⟩
  rw[Yl] at q1 hnk;have hO:=Kj 1 wk sw ⟨by omega,by omega⟩ (by omega) ⟨by omega,by omega⟩ hWt hS0;have hr:=hrw j q1;rw[←jG] at hnk hr;have nO:=bW (jI 1 wk sw);have hbk:=hb k;have sO:cR (jI 1 wk sw)=1:=by rw[sA];rfl
  have lO:(jI 1 wk sw).length=2:=rfl;have hM:=fun E'=>Cn (A:=A) E' (jI 1 wk sw) (iO A (j,o)) (by omega) (by omega) (by rw[sO];exact mW _) (Yw hr.2 (c8 (by omega)))
  have lM:=iK false (a:=jI 1 wk sw) (b:=iO A (j,o)) (p:=1) (q:=256) (by omega) (by omega);have sM:=Aa (a:=jI 1 wk sw) (b:=iO A (j,o)) (by rw[sO];exact mW _) hr.2;have hA:=fun E'=>MH (A:=A) E' (G k) (hZ false (jI 1 wk sw) (iO A (j,o))) (by omega) (by omega) hbk.2 (Yw sM (c8 (by omega)))
  rw[←hnk] at hA;generalize jI 1 wk sw=O at *;refine Rt ?_;repeat((first|refine aB e1 ?_|refine aB e2 ?_);refine Rt ?_)
  refine hO.go ?_ (.cons nn (.cons nn (.cons nn .nil))) (.il' nO);refine Rt ?_;repeat((first|refine aB e1 ?_|refine aB e2 ?_);refine Rt ?_)
  refine QS (ih j q1) o ho hF2 hal hw 4 rfl rfl rfl rfl rfl rfl (fun _=>rfl) (fun F' h1 h2=>?_);rw[List.append_assoc] at h2 ⊢;unfold gN;refine Rt ?_;repeat((first|refine aB e1 ?_|refine aB e2 ?_);refine Rt ?_)
  refine GV (hM (E++(F++F'))) 27 rfl rfl rfl rfl rfl rfl rfl rfl ?_;unfold gN;refine Rt ?_;repeat((first|refine aB e1 ?_|refine aB e2 ?_);refine Rt ?_)
  refine GV (hA (E++(F++F'))) 27 rfl rfl rfl rfl rfl rfl rfl rfl ?_;unfold gN;refine Rt ?_;repeat((first|refine aB e1 ?_|refine aB e2 ?_);refine Rt ?_)
  exact .mk (k+1,F++F') [(0,0),(27,4),(2,2),(3,3)] ⟨by simp only;omega,fun p hp=>by
    rcases Yz.1 hp with hp|hp
    ·exact hF1 p hp
    ·have:=h1 p hp;omega,h2⟩
   (aE _ rfl ⟨⟨0,_,rfl,rfl,.cons (.agg (.cons (.same _ (.il' (aP A))) (.cons (.same _ (gH _)) (.cons (.slE rfl rfl) .nil)))) .nil⟩,aL 27 (gI _ _),aL 2 (.cons nN .nil),aL 3 (.cons nv .nil),trivial⟩
    ⟨aG,aN (gH _),aG,aG,aN (.il' (bW _)),aK,⟨_,rfl,.int (by rw[bA ⟨by omega,by omega⟩];simp)⟩,trivial⟩) (by simp only;omega)
 ·have hke:k=xc.length:=by
   have:¬k<xc.length:=by simpa using hbb
   omega
  rw[hke];refine Rt ?_;exact bF (n':=3) (m':=gN A (E++F) 2) [(0,0),(4,2)] rfl (dL (ia:=0) (ib:=4) rfl rfl rfl rfl rfl rfl) (.same _ (.il' (bW _))) ⟨F,hF1,hF2,rfl,rfl,rfl⟩
set_option maxHeartbeats 16000000
theorem WV{A:List Nd}{S:List aR}(h:VT A)(hS:FJ A S)(i:Nat)(hi:i<A.length)(ih:∀j<i,Hl A S j)(k4:(aJ A i).kind=4)(o:Option aR)(E:List Key)(ho:∀v,o=some v->v∈S)(hE:nK A S E):yN A S i o E:=by
 have hx:=bS hi;have hxm:=Yv hx;have gx:=h.node hx;have hkm:=fun(k:Int) (hk:k∈(aJ A i).kids)=>fI h hx hk
 have nN:=aV (aJ A i);have nv:=dC (o.getD J8);have hres:iO A (i,o)=Nv A (aJ A i) o (aJ A i).values.length:=by rw[jG];exact R4 h hi k4 o
 have hvo:∀v,o=some v->bP v=0:=fun v e=>(hS.ok v (ho v e)).2
 have hvv:=fun(u:aR) (hu:u∈(aJ A i).values)=>h.vals_valid hx hu
 have hvS:=fun(u:aR) (hu:u∈(aJ A i).values)=>hS.own _ hxm u hu
 have hb:=Ww h hi k4 hvv hvo;have hbl:=gx.node.bind k4;have hnx:=fun(k:Nat) (hk:k<(aJ A i).values.length)=>Qu (A:=A) (x:=aJ A i) (o:=o) hk hbl
 have hkl:=h.tin.vlen _ hxm;have hrw:=fun(j:Nat) (hj:j<i)=>oM h (i:=j) (by omega) hvo
 have hrv:=fun(j:Nat) (hj:j<i) (u:aR) (hu:u∈(aJ A i).values)=>oM h (i:=j) (by omega) (o:=some u) (fun v e=>by injection e with e;exact e ▸ hvv u hu)
 have h0:Nv A (aJ A i) o 0=[]:=by unfold Nv;rw[aAy];rfl
 have hk0:gB (aJ A i)=((aJ A i).kids.getD 0 0).toNat:=rfl;rw[hk0] at hnx;unfold yN;generalize Nv A (aJ A i) o=G at *;obtain⟨w,hw⟩:∃w,o.getD J8=w:=⟨_,rfl⟩
 rw[hw] at nv ⊢;obtain⟨al,hal⟩:∃al,o.isNone=al:=⟨_,rfl⟩
 rw[hal,hres];generalize aJ A i=x at *;obtain⟨xk,xn,xl,xh,xw,xb,xv,xc,⟨yk,yn,ys,yks⟩⟩:=x;simp only at k4 hkm hres hnx hbl hkl hb hvv hvS hrv ⊢;subst k4;have lc:=aC xv;obtain⟨vk,vn,vs,vks⟩:=w;refine aD bD func94 rfl ?_;refine Rt ?_;refine aZ.at bD (fun p:Nat × List Key=>p.1<=xv.length/\(∀q∈p.2,q.1<i)/\nK A S (E++p.2))
  (fun p=>⟨[(0,.ptr 0 0 0),(2,.bool al),(5,.ptr 2 0 0),(7,.ptr 3 0 0),(9,.il 6 (bK (G p.1))),(16,.int .i64 p.1)],[(0,.row 99 3 [.agg [.il 12 (bG A),.bool false,.sl 4 0 (E++p.2).length]]),(4,.row 169 7 (iW A (E++p.2))),(2,.row 57 12 [cD ⟨4,xn,xl,xh,xw,xb,xv,xc,.mk yk yn ys yks⟩]),(3,.row 55 4 [cN (.mk vk vn vs vks)])],5,186⟩)
  (fun p=>xv.length-p.1) (0,[]) [(0,0),(1,4),(2,2),(3,3)] ⟨Zd _,by simp,by simpa using hE⟩
  (aE _ rfl ⟨⟨0,_,rfl,rfl,.cons (.agg (.cons (.same _ (.il' (aP A))) (.cons (.same _ (gH _)) (.cons (.slE rfl (by simp)) .nil)))) .nil⟩,⟨1,_,rfl,rfl,.eq (gI _ _) (by simp)⟩,aL 2 (.cons nN .nil),aL 3 (.cons nv .nil),trivial⟩
   ⟨aG,aN (gH _),aG,aG,⟨_,rfl,by rw[h0];exact .nil 6⟩,aK,trivial⟩) ?_
 rintro⟨k,F⟩ ⟨hk,hF1,hF2⟩;simp only at hk hF1 hF2 ⊢;refine Rr ?_;rw[lc];refine aH (fun hbb=>?_) (fun hbb=>?_)
 ·have hlt:k<xv.length:=by simpa using hbb
  have hlt2:k+1<xc.length:=by omega
  have hlt0:0<xc.length:=by omega
  have hnk:=hnx k hlt;have e1:(aU xv)[((k:Nat):Int).toNat]? = some (cN xv[k]):=by rw[Yl,jE,Yj hlt];rfl
  have hwr:IntKind.i64.wrap ((k:Int)+1)=((k+1:Nat):Int):=by
   rw[bA ⟨by omega,by omega⟩];simp
  have e2:(bH xc)[((k+1:Nat):Int).toNat]? = some (.int .i64 xc[k+1]):=by
   rw[Yl];simp[bU,Yj hlt2]
  have e0:(bH xc)[(0:Int).toNat]? = some (.int .i64 (xc.getD 0 0)):=by
   rw[show (0:Int).toNat=0 from rfl,Ym,Yj hlt0];simp[bU,Yj hlt0]
  obtain⟨q0,q1⟩:=hkm xc[k+1] (Y8 hlt2);obtain⟨p0,p1⟩:=hkm (xc.getD 0 0) (by rw[Ym,Yj hlt0];exact Y8 hlt0);have huS:=hvS _ (Y8 hlt);have huV:=fun(j:Nat) (hj:j<i)=>hrv j hj _ (Y8 hlt)
  generalize xc[k+1]=q at *;generalize xc.getD 0 0=p at *;generalize xv[k]=u at *;obtain⟨q,rfl⟩:=Y4 q0;obtain⟨p,rfl⟩:=Y4 p0;rw[Yl] at q1 p1;rw[Yl,Yl] at hnk;have hr1:=huV p p1;have hr2:=hrw q q1;rw[←jG] at hr1 hr2;rw[←jG,←jG] at hnk;have hbk:=hb k;have hM:=fun E'=>Cn (A:=A) E' (iO A (p,some u)) (iO A (q,o)) (by omega) (by omega) (Yw hr1.2 (c8 (by omega))) (Yw hr2.2 (c8 (by omega)))
  have lM:=iK false (a:=iO A (p,some u)) (b:=iO A (q,o)) (p:=256) (q:=256) (by omega) (by omega);have sM:=Aa (a:=iO A (p,some u)) (b:=iO A (q,o)) hr1.2 hr2.2;have hA:=fun E'=>MH (A:=A) E' (G k) (hZ false (iO A (p,some u)) (iO A (q,o))) (by omega) (by omega) hbk.2 (Yw sM (c8 (by omega)))
  rw[←hnk] at hA;obtain⟨u1,u2,u3,u4⟩:=u;refine Rt ?_;repeat((first|refine aB e1 ?_|refine aB e0 ?_|rw[hwr]|refine aB e2 ?_);refine Rt ?_)
  refine QS (ih p p1) (some (.mk u1 u2 u3 u4)) (fun v e=>by injection e with e;exact e ▸ huS) hF2 rfl rfl 4 rfl rfl rfl rfl rfl rfl (fun _=>rfl) (fun F' h1 h2=>?_);rw[List.append_assoc] at h2 ⊢;unfold gN;refine Rt ?_;repeat((first|refine aB e1 ?_|refine aB e0 ?_|rw[hwr]|refine aB e2 ?_);refine Rt ?_)
  refine QS (ih q q1) o ho h2 hal hw 32 rfl rfl rfl rfl rfl rfl (fun _=>rfl) (fun F'' h3 h4=>?_);rw[List.append_assoc,List.append_assoc,←List.append_assoc F F' F''] at h4 ⊢;unfold gN;refine Rt ?_;repeat((first|refine aB e1 ?_|refine aB e0 ?_|rw[hwr]|refine aB e2 ?_);refine Rt ?_)
  refine GV (hM (E++(F++F'++F''))) 33 rfl rfl rfl rfl rfl rfl rfl rfl ?_;unfold gN;refine Rt ?_;repeat((first|refine aB e1 ?_|refine aB e0 ?_|rw[hwr]|refine aB e2 ?_);refine Rt ?_)
  refine GV (hA (E++(F++F'++F''))) 33 rfl rfl rfl rfl rfl rfl rfl rfl ?_;unfold gN;refine Rt ?_;repeat((first|refine aB e1 ?_|refine aB e0 ?_|rw[hwr]|refine aB e2 ?_);refine Rt ?_)
  exact .mk (k+1,F++F'++F'') [(0,0),(33,4),(2,2),(3,3)] ⟨by simp only;omega,fun r hp=>by
    rcases Yz.1 hp with hp|hp
    ·rcases Yz.1 hp with hp|hp
     ·exact hF1 r hp
     ·have:=h1 r hp;omega
    ·have:=h3 r hp;omega,h4⟩
   (aE _ rfl ⟨⟨0,_,rfl,rfl,.cons (.agg (.cons (.same _ (.il' (aP A))) (.cons (.same _ (gH _)) (.cons (.slE rfl rfl) .nil)))) .nil⟩,aL 33 (gI _ _),aL 2 (.cons nN .nil),aL 3 (.cons nv .nil),trivial⟩
    ⟨aG,aN (gH _),aG,aG,aN (.il' (bW _)),⟨_,rfl,.int (by rfl)⟩,trivial⟩) (by simp only;omega)
 ·have hke:k=xv.length:=by
   have:¬k<xv.length:=by simpa using hbb
   omega
  rw[hke];refine Rt ?_;exact bF (n':=3) (m':=gN A (E++F) 2) [(0,0),(4,2)] rfl (dL (ia:=0) (ib:=4) rfl rfl rfl rfl rfl rfl) (.same _ (.il' (bW _))) ⟨F,hF1,hF2,rfl,rfl,rfl⟩
set_option maxHeartbeats 16000000
theorem K4{A:List Nd}{S:List aR}{j:Nat}(ih:Hl A S j)(o:Option aR){E:List Key}(ho:∀v,o=some v->v∈S)(hE:nK A S E){al:Bool}{w:aR}(hal:o.isNone=al)(hw:o.getD J8=w){mem:aQ}{nx:Nat}(rid:Nat){wa:AV}(cw:iB (jM [0,rid] mem) [(0,0),(rid,1)] [wa] [cN w]){K:AV->aQ->Nat->Prop}
  (hp:jM [0,rid] mem=gN A E rid) (s0:lk [(0,0),(rid,1)] 0=some 0) (s1:lk [(0,0),(rid,1)] rid=some 1) (m0:lk (gN A E rid) 0=some (.row 99 3 [.agg [.il 12 (bG A),.bool false,.sl rid 0 E.length]])) (m1:lk (gN A E rid) rid=some (.row 169 7 (iW A E))) (hc0:(oD (gN A E 1) && (n9 [(0,0),(rid,1)] && tI 2 [(0,0),(rid,1)]))=true)
  (hc:∀L':List Key,(oD (gN A L' nx) && (n9 [(0,0),(2,nx)] && (Nat.ble nx (nx+1) && (tO [0,rid] nx (gN A L' nx) && Ao [(0,0),(rid,1)] 2 nx (nx+1) [(0,0),(2,nx)]))))=true)
  (hk:∀F:List Key,(∀q∈F,q.1<=j)->nK A S (E++F)->K (.il 6 (bK (iO A (j,o)))) (gN A (E++F) nx++iS [0,rid] mem) (nx+1)):aF prog [] 46 [.ptr 0 0 0,.int .i64 j,.bool al,wa] mem nx K:=by
 subst hal hw;refine aF.useN bD [(0,0),(rid,1)] (ih o E ho hE) hp (.cons (.ptr 0 0 0 0 s0) (.s (.cons (.same _ (gH _)) (by rw[←hp];exact cw)))) (dL (ia:=0) (ib:=rid) s0 s1 m0 m1 rfl rfl) hc0 ?_;rintro r m k ⟨F,h1,h2,rfl,rfl,rfl⟩;exact⟨[(0,0),(2,nx)],.il 6 (bK (iO A (j,o))),gN A (E++F) nx,nx+1,.same _ (.il' (bW _)),dL (ia:=0) (ib:=2) rfl rfl rfl rfl rfl rfl,hc _,hk F h1 h2⟩
theorem Wr{A:List Nd}{S:List aR}(h:VT A)(hS:FJ A S)(i:Nat)(hi:i<A.length)(ih:∀j<i,Hl A S j)(k3:(aJ A i).kind=3)(E:List Key)(hE:nK A S E):yN A S i none E:=by
 have hx:=bS hi;have hxm:=Yv hx;have gx:=h.node hx;have hkm:=fun(k:Int) (hk:k∈(aJ A i).kids)=>fI h hx hk
 have nN:=aV (aJ A i);have hkl:=h.tin.klen _ hxm;have hres:iO A (i,none)=JP A (aJ A i) (List.replicate (aJ A i).kids.length none) (aJ A i).kids.length:=by rw[jG];exact SY h hi k3
 obtain⟨ps,hps⟩:∃ps:List (Option aR),ps=List.replicate (aJ A i).kids.length none:=⟨_,rfl⟩
 rw[←hps] at hres;have hpl:ps.length=(aJ A i).kids.length:=by rw[hps];simp
 have hpv:∀o∈ps,∀v,o=some v->bP v=0:=fun o ho v e=>by
  rw[hps] at ho;rw[(List.mem_replicate.1 ho).2] at e;cases e
 have hpn:∀(k:Nat) (hk:k<ps.length),ps[k]=none:=fun k hk=>by subst hps;simp
 have hb:=Tk h hi k3 ps hpv;have hnx:=fun(k:Nat) (hk:k<(aJ A i).kids.length) (hl:k<ps.length)=>J6 (A:=A) (x:=aJ A i) (ps:=ps) hk hl
 have hrw:=fun(j:Nat) (hj:j<i) (o:Option aR) (ho:∀v,o=some v->bP v=0)=>oM h (i:=j) (by omega) ho
 have h0:JP A (aJ A i) ps 0=fW:=by unfold JP;rw[aAy];rfl
 unfold yN;generalize JP A (aJ A i) ps=G at *;rw[hres];have hMd:=Oq (aJ A i) [];have nv:=dC J8;have hEm:=AM;have nEm:=bW fW;generalize aJ A i=x at *;obtain⟨xk,xn,xl,xh,xw,xb,xv,xc,⟨yk,yn,ys,yks⟩⟩:=x;simp only at k3 hkm hnx hkl hb hMd hres hpl ⊢;subst k3;have lc:=aI xc;rw[JQ] at hMd;have nMd:=dC (.mk (if xn=[] then 2 else 3) 0 xn []);generalize (if xn=[] then(2:Int) else 3)=mk at *;refine aD bD func94 rfl ?_;refine Rt ?_;refine hMd.go ?_ (.cons nN (.cons (.il' (bI [])) .nil)) nMd;refine Rt ?_;refine hEm.go ?_ .nil (.il' nEm);refine Rt ?_;refine aZ.at bD (fun p:Nat × List Key=>p.1<=xc.length/\(∀q∈p.2,q.1<i)/\nK A S (E++p.2))
  (fun p=>⟨[(0,.ptr 0 0 0),(2,.bool true),(5,.ptr 2 0 0),(7,.ptr 3 0 0),(9,.il 6 (bK (G p.1))),(14,.int .i64 p.1)],[(0,.row 99 3 [.agg [.il 12 (bG A),.bool false,.sl 4 0 (E++p.2).length]]),(4,.row 169 7 (iW A (E++p.2))),(2,.row 57 12 [cD ⟨3,xn,xl,xh,xw,xb,xv,xc,.mk yk yn ys yks⟩]),(3,.row 55 4 [cN J8])],5,186⟩)
  (fun p=>xc.length-p.1) (0,[]) [(0,0),(1,4),(2,2),(3,3)] ⟨Zd _,by simp,by simpa using hE⟩
  (aE _ rfl ⟨⟨0,_,rfl,rfl,.cons (.agg (.cons (.same _ (.il' (aP A))) (.cons (.same _ (gH _)) (.cons (.slE rfl (by simp)) .nil)))) .nil⟩,⟨1,_,rfl,rfl,.eq (gI _ _) (by simp)⟩,aL 2 (.cons nN .nil),aL 3 (.cons nv .nil),trivial⟩
   ⟨aG,aN (gH _),aG,aG,⟨_,rfl,.eq (.il' (bW _)) (by rw[h0])⟩,aK,trivial⟩) ?_
 rintro⟨k,F⟩ ⟨hk,hF1,hF2⟩;simp only at hk hF1 hF2 ⊢;refine Rr ?_;rw[lc];refine aH (fun hbb=>?_) (fun hbb=>?_)
 ·have hlt:k<xc.length:=by simpa using hbb
  have hltp:k<ps.length:=by omega
  have hnk:=hnx k hlt hltp;have hpk:=hpv ps[k] (Y8 hltp);have e2:(bH xc)[((k:Nat):Int).toNat]? = some (.int .i64 xc[k]):=by simp[bU,Yj hlt]
  obtain⟨q0,q1⟩:=hkm xc[k] (Y8 hlt);rw[hpn k hltp] at hnk hpk;obtain⟨part,hpart⟩:∃part:Option aR,part=none:=⟨_,rfl⟩
  rw[←hpart] at hnk hpk;generalize xc[k]=q at *;obtain⟨j,rfl⟩:∃j:Nat,q=(j:Int):=⟨q.toNat,by omega⟩
  rw[Yl] at q1 hnk;have hr:=hrw j q1 part hpk;rw[←jG] at hnk hr;have hbk:=hb k;have hM:=fun E'=>Cn (A:=A) E' (G k) (iO A (j,part)) (by omega) (by omega) (Yw hbk.2 (c8 (by omega))) (Yw hr.2 (c8 (by omega)))
  rw[←hnk] at hM;refine Rt ?_;repeat(refine aB e2 ?_;refine Rt ?_)
  refine K4 (ih j q1) none (fun v e=>by cases e) hF2 rfl rfl 4 (iB.cons (Cv.agg' (iB.cons (Cv.same _ nn) (iB.cons (Cv.same _ nn) (iB.cons (Cv.same _ nn) (iB.cons (Cv.nil 4) iB.nil))))) iB.nil) rfl rfl rfl rfl rfl rfl (fun _=>rfl) (fun F' h1 h2=>?_);rw[←hpart];rw[List.append_assoc] at h2 ⊢;unfold gN;refine Rt ?_;repeat(refine aB e2 ?_;refine Rt ?_)
  refine GV (hM (E++(F++F'))) 19 rfl rfl rfl rfl rfl rfl rfl rfl ?_;unfold gN;refine Rt ?_;repeat(refine aB e2 ?_;refine Rt ?_)
  exact .mk (k+1,F++F') [(0,0),(19,4),(2,2),(3,3)] ⟨by simp only;omega,fun p hp=>by
    rcases Yz.1 hp with hp|hp
    ·exact hF1 p hp
    ·have:=h1 p hp;omega,h2⟩
   (aE _ rfl ⟨⟨0,_,rfl,rfl,.cons (.agg (.cons (.same _ (.il' (aP A))) (.cons (.same _ (gH _)) (.cons (.slE rfl rfl) .nil)))) .nil⟩,aL 19 (gI _ _),aL 2 (.cons nN .nil),aL 3 (.cons nv .nil),trivial⟩
    ⟨aG,aN (gH _),aG,aG,aN (.il' (bW _)),⟨_,rfl,.int (by rw[bA ⟨by omega,by omega⟩];simp)⟩,trivial⟩) (by simp only;omega)
 ·have hke:k=xc.length:=by
   have:¬k<xc.length:=by simpa using hbb
   omega
  rw[hke];refine Rt ?_;exact bF (n':=3) (m':=gN A (E++F) 2) [(0,0),(4,2)] rfl (dL (ia:=0) (ib:=4) rfl rfl rfl rfl rfl rfl) (.same _ (.il' (bW _))) ⟨F,hF1,hF2,rfl,rfl,rfl⟩
set_option maxHeartbeats 16000000
theorem Wd{A:List Nd}{S:List aR}(h:VT A)(hS:FJ A S)(i:Nat)(hi:i<A.length)(ih:∀j<i,Hl A S j)(k3:(aJ A i).kind=3)(v:aR)(E:List Key)(ho:v∈S)(hE:nK A S E):yN A S i (some v) E:=by
 have hx:=bS hi;have hxm:=Yv hx;have gx:=h.node hx;have hkm:=fun(k:Int) (hk:k∈(aJ A i).kids)=>fI h hx hk
 have nN:=aV (aJ A i);have hkl:=h.tin.klen _ hxm;have hok:=hS.ok v ho;have hkS:=hS.kid v ho;have hSv:=Sr h hi k3 v;rw[←jG] at hSv;have hMd:=Oq (aJ A i) (jZ v);obtain⟨ps,hps⟩:∃ps:List (Option aR),ps=(jZ v).map some:=⟨_,rfl⟩
 rw[←hps] at hSv;have hpl:ps.length=(jZ v).length:=by rw[hps];simp
 have hpv:∀o∈ps,∀v,o=some v->bP v=0:=fun o ho v e=>by
  rw[hps] at ho;obtain⟨u,hu,rfl⟩:=ZF.1 ho;injection e with e;exact e ▸ (hS.ok u (hkS u hu)).2
 have hpn:∀(k:Nat) (hk:k<ps.length) (hk2:k<(jZ v).length),ps[k]=some (jZ v)[k]:=fun k hk hk2=>by subst hps;simp
 have hb:=Tk h hi k3 ps hpv;have hnx:=fun(k:Nat) (hk:k<(aJ A i).kids.length) (hl:k<ps.length)=>J6 (A:=A) (x:=aJ A i) (ps:=ps) hk hl
 have hrw:=fun(j:Nat) (hj:j<i) (o:Option aR) (ho:∀v,o=some v->bP v=0)=>oM h (i:=j) (by omega) ho
 have h0:JP A (aJ A i) ps 0=fW:=by unfold JP;rw[aAy];rfl
 unfold yN;generalize JP A (aJ A i) ps=G at *;obtain⟨vk,vn,vs,vks⟩:=v;have hir:=fun x=>K3 (x:=x) hok.2
 have nv:=dC (.mk vk vn vs vks);have hEm:=AM;have nEm:=bW fW;generalize aJ A i=x at *;obtain⟨xk,xn,xl,xh,xw,xb,xv,xc,⟨yk,yn,ys,yks⟩⟩:=x;simp only at k3 hkm hnx hkl hb hMd hSv ⊢;subst k3;have lc:=aI xc;rw[JQ] at hMd;have nMd:=dC (.mk (if xn=[] then 2 else 3) 0 xn vks);have hie:=hir ⟨3,xn,xl,xh,xw,xb,xv,xc,.mk yk yn ys yks⟩;simp only at hie;have lv:=aC vks
 replace hMd:aT prog [] 155 [cD ⟨3,xn,xl,xh,xw,xb,xv,xc,.mk yk yn ys yks⟩,.il 4 (aU vks)] (cN (.mk (if xn=[] then 2 else 3) 0 xn vks)):=hMd
 replace hpl:ps.length=vks.length:=hpl
 replace hpn:∀(k:Nat) (hk:k<ps.length) (hk2:k<vks.length),ps[k]=some vks[k]:=hpn
 replace hkS:∀u∈vks,u∈S:=hkS
 have hvl:vks.length<=4294967296:=hok.1.2.2.2.1;generalize (if xn=[] then(2:Int) else 3)=mk at *;refine aD bD func94 rfl ?_;refine Rt ?_;refine hMd.go ?_ (.cons nN (.cons (.il' (bI vks)) .nil)) nMd;refine Rt ?_;by_cases c1:mk=vk
 ·have b1:(mk != vk)=false:=by simp[c1]
  rw[b1];refine Rt ?_;by_cases c2:xn=vs
  ·have b2:(!(xn == vs))=false:=by simp[c2]
   rw[b2];refine Rt ?_;rw[lv,lc];by_cases c3:vks.length=xc.length
   ·have b3:((vks.length:Int) != (xc.length:Int))=false:=by simp[c3]
    rw[b3];have him:=hie.2 ⟨c1,c2,c3⟩;rw[him,Yt rfl] at hSv;rw[hSv];refine Rt ?_;refine hEm.go ?_ .nil (.il' nEm);refine Rt ?_;refine aZ.at bD (fun p:Nat × List Key=>p.1<=xc.length/\(∀q∈p.2,q.1<i)/\nK A S (E++p.2))
     (fun p=>⟨[(0,.ptr 0 0 0),(2,.bool false),(5,.ptr 2 0 0),(7,.ptr 3 0 0),(9,.il 6 (bK (G p.1))),(14,.int .i64 p.1)],[(0,.row 99 3 [.agg [.il 12 (bG A),.bool false,.sl 4 0 (E++p.2).length]]),(4,.row 169 7 (iW A (E++p.2))),(2,.row 57 12 [cD ⟨3,xn,xl,xh,xw,xb,xv,xc,.mk yk yn ys yks⟩]),(3,.row 55 4 [cN (.mk vk vn vs vks)])],5,186⟩)
     (fun p=>xc.length-p.1) (0,[]) [(0,0),(1,4),(2,2),(3,3)] ⟨Zd _,by simp,by simpa using hE⟩
     (aE _ rfl ⟨⟨0,_,rfl,rfl,.cons (.agg (.cons (.same _ (.il' (aP A))) (.cons (.same _ (gH _)) (.cons (.slE rfl (by simp)) .nil)))) .nil⟩,⟨1,_,rfl,rfl,.eq (gI _ _) (by simp)⟩,aL 2 (.cons nN .nil),aL 3 (.cons nv .nil),trivial⟩
      ⟨aG,aN (gH _),aG,aG,⟨_,rfl,.eq (.il' (bW _)) (by rw[h0])⟩,aK,trivial⟩) ?_
    rintro⟨k,F⟩ ⟨hk,hF1,hF2⟩;simp only at hk hF1 hF2 ⊢;refine Rr ?_;rw[lc];refine aH (fun hbb=>?_) (fun hbb=>?_)
    ·have hlt:k<xc.length:=by simpa using hbb
     have hltp:k<ps.length:=by omega
     have hnk:=hnx k hlt hltp;have hpk:=hpv ps[k] (Y8 hltp);have e2:(bH xc)[((k:Nat):Int).toNat]? = some (.int .i64 xc[k]):=by simp[bU,Yj hlt]
     obtain⟨q0,q1⟩:=hkm xc[k] (Y8 hlt);have hltv:k<vks.length:=by omega
     rw[hpn k hltp hltv] at hnk hpk;have e1:(aU vks)[((k:Nat):Int).toNat]? = some (cN vks[k]):=by rw[Yl,jE,Yj hltv];rfl
     have huS:=hkS vks[k] (Y8 hltv);generalize vks[k]=u at *;obtain⟨part,hpart⟩:∃part:Option aR,part=some u:=⟨_,rfl⟩
     rw[←hpart] at hnk hpk;generalize xc[k]=q at *;obtain⟨j,rfl⟩:∃j:Nat,q=(j:Int):=⟨q.toNat,by omega⟩
     rw[Yl] at q1 hnk;have hr:=hrw j q1 part hpk;rw[←jG] at hnk hr;have hbk:=hb k;have hM:=fun E'=>Cn (A:=A) E' (G k) (iO A (j,part)) (by omega) (by omega) (Yw hbk.2 (c8 (by omega))) (Yw hr.2 (c8 (by omega)))
     rw[←hnk] at hM;obtain⟨u1,u2,u3,u4⟩:=u;refine Rt ?_;repeat((first|refine aB e1 ?_|refine aB e2 ?_);refine Rt ?_)
     refine K4 (ih j q1) (some (.mk u1 u2 u3 u4)) (fun v e=>by injection e with e;exact e ▸ huS) hF2 rfl rfl 4 (iB.cons (Cv.same _ (dC _)) iB.nil) rfl rfl rfl rfl rfl rfl (fun _=>rfl) (fun F' h1 h2=>?_);rw[←hpart];rw[List.append_assoc] at h2 ⊢;unfold gN;refine Rt ?_;repeat((first|refine aB e1 ?_|refine aB e2 ?_);refine Rt ?_)
     refine GV (hM (E++(F++F'))) 19 rfl rfl rfl rfl rfl rfl rfl rfl ?_;unfold gN;refine Rt ?_;repeat((first|refine aB e1 ?_|refine aB e2 ?_);refine Rt ?_)
     exact .mk (k+1,F++F') [(0,0),(19,4),(2,2),(3,3)] ⟨by simp only;omega,fun p hp=>by
       rcases Yz.1 hp with hp|hp
       ·exact hF1 p hp
       ·have:=h1 p hp;omega,h2⟩
      (aE _ rfl ⟨⟨0,_,rfl,rfl,.cons (.agg (.cons (.same _ (.il' (aP A))) (.cons (.same _ (gH _)) (.cons (.slE rfl rfl) .nil)))) .nil⟩,aL 19 (gI _ _),aL 2 (.cons nN .nil),aL 3 (.cons nv .nil),trivial⟩
       ⟨aG,aN (gH _),aG,aG,aN (.il' (bW _)),⟨_,rfl,.int (by rw[bA ⟨by omega,by omega⟩];simp)⟩,trivial⟩) (by simp only;omega)
    ·have hke:k=xc.length:=by
      have:¬k<xc.length:=by simpa using hbb
      omega
     rw[hke];refine Rt ?_;exact bF (n':=3) (m':=gN A (E++F) 2) [(0,0),(4,2)] rfl (dL (ia:=0) (ib:=4) rfl rfl rfl rfl rfl rfl) (.same _ (.il' (bW _))) ⟨F,hF1,hF2,rfl,rfl,rfl⟩
   ·have b3:((vks.length:Int) != (xc.length:Int))=true:=bne_iff_ne.2 (by omega);rw[b3];have him:jH ⟨3,xn,xl,xh,xw,xb,xv,xc,.mk yk yn ys yks⟩ (.mk vk vn vs vks)=false:=by
     rw[Z7];exact fun e=>c3 (hie.1 e).2.2
    rw[him,Yo (by simp)] at hSv;rw[hSv];refine Rt ?_;exact bF (n':=3) (m':=gN A (E++[]) 2) [(0,0),(1,2)] rfl (dL (ia:=0) (ib:=1) rfl rfl rfl rfl (by simp) (by simp)) (.nil 6) ⟨[],by simp,by rw[ZZ];exact hE,rfl,rfl,rfl⟩
  ·have b2:(!(xn == vs))=true:=by simp[c2]
   rw[b2];have him:jH ⟨3,xn,xl,xh,xw,xb,xv,xc,.mk yk yn ys yks⟩ (.mk vk vn vs vks)=false:=by
    rw[Z7];exact fun e=>c2 (hie.1 e).2.1
   rw[him,Yo (by simp)] at hSv;rw[hSv];refine Rt ?_;exact bF (n':=3) (m':=gN A (E++[]) 2) [(0,0),(1,2)] rfl (dL (ia:=0) (ib:=1) rfl rfl rfl rfl (by simp) (by simp)) (.nil 6) ⟨[],by simp,by rw[ZZ];exact hE,rfl,rfl,rfl⟩
 ·have b1:(mk != vk)=true:=bne_iff_ne.2 c1;rw[b1];have him:jH ⟨3,xn,xl,xh,xw,xb,xv,xc,.mk yk yn ys yks⟩ (.mk vk vn vs vks)=false:=by
   rw[Z7];exact fun e=>c1 (hie.1 e).1
  rw[him,Yo (by simp)] at hSv;rw[hSv];refine Rt ?_;exact bF (n':=3) (m':=gN A (E++[]) 2) [(0,0),(1,2)] rfl (dL (ia:=0) (ib:=1) rfl rfl rfl rfl (by simp) (by simp)) (.nil 6) ⟨[],by simp,by rw[ZZ];exact hE,rfl,rfl,rfl⟩
set_option maxHeartbeats 16000000
theorem UL{A:List Nd}{S:List aR}(h:VT A)(hS:FJ A S)(i:Nat)(hi:i<A.length)(k01:(aJ A i).kind=0∨(aJ A i).kind=1)(o:Option aR)(E:List Key)(ho:∀v,o=some v->v∈S)(hE:nK A S E):yN A S i o E:=by
 have hx:=bS hi;have hxm:=Yv hx;have gx:=h.node hx;have nN:=aV (aJ A i);have hnum:=gx.node.num;have hokv:=(h.tin.ok _ hxm).value;have nEm:=bW fW;unfold yN;cases o with
 | none=>
  rcases k01 with k0|k1
  ·have hres:iO A (i,none)=fW:=by rw[jG];exact Ri h hi k0
   rw[hres];generalize aJ A i=x at *;obtain⟨xk,xn,xl,xh,xw,xb,xv,xc,⟨yk,yn,ys,yks⟩⟩:=x;simp only at k0;subst k0;refine aD bD func94 rfl ?_;refine Rt ?_;refine AM.go ?_ .nil (.il' nEm);refine Rt ?_;exact bF (n':=3) (m':=gN A (E++[]) 2) [(0,0),(1,2)] rfl (dL (ia:=0) (ib:=1) rfl rfl rfl rfl (by simp) (by simp)) (.same _ (.il' nEm)) ⟨[],by simp,by rw[ZZ];exact hE,rfl,rfl,rfl⟩
  ·have hres:iO A (i,none)=jI ((aJ A i).hi-(aJ A i).lo+1) 1 1:=by rw[jG];exact Sa h hi k1
   rw[hres];generalize aJ A i=x at *;obtain⟨xk,xn,xl,xh,xw,xb,xv,xc,⟨yk,yn,ys,yks⟩⟩:=x;simp only at k1 ⊢;subst k1;obtain⟨r1,r2,r3,r4⟩:=cY hnum;simp only at r1 r2 r3 r4;have hO:=Kj (xh-xl+1) 1 1 ⟨by omega,by omega⟩ (by omega) ⟨by omega,by omega⟩ ⟨by omega,by omega⟩ (by omega);have nr:=bW (jI (xh-xl+1) 1 1);have w1:IntKind.i64.wrap (xh-xl)=xh-xl:=bA ⟨by omega,by omega⟩;have w2:IntKind.i64.wrap (xh-xl+1)=xh-xl+1:=bA ⟨by omega,by omega⟩;have hO2:aT prog [] 151 [.int .i64 (IntKind.i64.wrap (IntKind.i64.wrap (xh-xl)+1)),.int .i64 1,.int .i64 1] (.il 6 (bK (jI (xh-xl+1) 1 1))):=by rw[w1,w2];exact hO
   refine aD bD func94 rfl ?_;refine Rt ?_;refine hO2.go ?_ (.cons nn (.cons nn (.cons nn .nil))) (.il' nr);refine Rt ?_;exact bF (n':=3) (m':=gN A (E++[]) 2) [(0,0),(1,2)] rfl (dL (ia:=0) (ib:=1) rfl rfl rfl rfl (by simp) (by simp)) (.same _ (.il' nr)) ⟨[],by simp,by rw[ZZ];exact hE,rfl,rfl,rfl⟩
 | some v=>
  have hok:=hS.ok v (ho v rfl);have nv:=dC v;rcases k01 with k0|k1
  ·have hres:iO A (i,some v)=_:=(jG A i (some v)).trans (SH h hi k0 v);rw[hres];generalize aJ A i=x at *;obtain⟨xk,xn,xl,xh,xw,xb,xv,xc,y⟩:=x;simp only at k0 hokv ⊢;subst k0;have hC:=rW y v hokv;have ny:=dC y;generalize cE y v=c at *;obtain⟨yk,yn,ys,yks⟩:=y;obtain⟨vk,vn,vs,vks⟩:=v;refine aD bD func94 rfl ?_;refine Rt ?_;refine hC.go ?_ (.cons ny (.cons nv .nil)) nn;refine Rt ?_;refine aH (fun hb=>?_) (fun hb=>?_)
   ·rw[Yt (by simpa using hb)];refine Rt ?_;refine AM.go ?_ .nil (.il' nEm);refine Rt ?_;exact bF (n':=3) (m':=gN A (E++[]) 2) [(0,0),(1,2)] rfl (dL (ia:=0) (ib:=1) rfl rfl rfl rfl (by simp) (by simp)) (.same _ (.il' nEm)) ⟨[],by simp,by rw[ZZ];exact hE,rfl,rfl,rfl⟩
   ·rw[Yo (by simpa using hb)];refine Rt ?_;exact bF (n':=3) (m':=gN A (E++[]) 2) [(0,0),(1,2)] rfl (dL (ia:=0) (ib:=1) rfl rfl rfl rfl (by simp) (by simp)) (.nil 6) ⟨[],by simp,by rw[ZZ];exact hE,rfl,rfl,rfl⟩
  ·have hres:iO A (i,some v)=_:=(jG A i (some v)).trans (S2 h hi k1 v);rw[hres];generalize aJ A i=x at *;obtain⟨xk,xn,xl,xh,xw,xb,xv,xc,⟨yk,yn,ys,yks⟩⟩:=x;simp only at k1 ⊢;subst k1;obtain⟨r1,r2,r3,r4⟩:=cY hnum;simp only at r1 r2 r3 r4;have hO:=Kj 1 1 (xh-xl+1) ⟨by omega,by omega⟩ (by omega) ⟨by omega,by omega⟩ ⟨by omega,by omega⟩ (by omega);have nr:=bW (jI 1 1 (xh-xl+1));have w1:IntKind.i64.wrap (xh-xl)=xh-xl:=bA ⟨by omega,by omega⟩;have w2:IntKind.i64.wrap (xh-xl+1)=xh-xl+1:=bA ⟨by omega,by omega⟩;have hO2:aT prog [] 151 [.int .i64 1,.int .i64 1,.int .i64 (IntKind.i64.wrap (IntKind.i64.wrap (xh-xl)+1))] (.il 6 (bK (jI 1 1 (xh-xl+1)))):=by rw[w1,w2];exact hO
   have hir:BF ⟨1,xn,xl,xh,xw,xb,xv,xc,.mk yk yn ys yks⟩ v=(decide (Jx v=0) && decide (xl<=KZ v) && decide (KZ v<=xh)):=rfl;rw[hir];obtain⟨vk,vn,vs,vks⟩:=v;have e1:Jx (.mk vk vn vs vks)=vk:=rfl;have e2:KZ (.mk vk vn vs vks)=vn:=rfl;rw[e1,e2];refine aD bD func94 rfl ?_;refine Rt ?_;by_cases c1:vk=0
   ·have b1:(vk == 0)=true:=by simp[c1]
    rw[b1];refine Rt ?_;by_cases c2:xl<=vn
    ·have b2:decide (vn≥(⟨1,xn,xl,xh,xw,xb,xv,xc,.mk yk yn ys yks⟩:Nd).lo)=true:=Y0 c2;rw[b2];refine Rt ?_;by_cases c3:vn<=xh
     ·have b3:decide (vn<=(⟨1,xn,xl,xh,xw,xb,xv,xc,.mk yk yn ys yks⟩:Nd).hi)=true:=Y0 c3;rw[b3];rw[Yt (by simp[c1,c2,c3])];refine Rt ?_;refine hO2.go ?_ (.cons nn (.cons nn (.cons nn .nil))) (.il' nr);refine Rt ?_;exact bF (n':=3) (m':=gN A (E++[]) 2) [(0,0),(1,2)] rfl (dL (ia:=0) (ib:=1) rfl rfl rfl rfl (by simp) (by simp)) (.same _ (.il' nr)) ⟨[],by simp,by rw[ZZ];exact hE,rfl,rfl,rfl⟩
     ·have b3:decide (vn<=(⟨1,xn,xl,xh,xw,xb,xv,xc,.mk yk yn ys yks⟩:Nd).hi)=false:=ZC c3;rw[b3];rw[Yo (by simp[c1,c2,c3])];refine Rt ?_;exact bF (n':=3) (m':=gN A (E++[]) 2) [(0,0),(1,2)] rfl (dL (ia:=0) (ib:=1) rfl rfl rfl rfl (by simp) (by simp)) (.nil 6) ⟨[],by simp,by rw[ZZ];exact hE,rfl,rfl,rfl⟩
    ·have b2:decide (vn≥(⟨1,xn,xl,xh,xw,xb,xv,xc,.mk yk yn ys yks⟩:Nd).lo)=false:=ZC c2;rw[b2];rw[Yo (by simp[c1,c2])];refine Rt ?_;exact bF (n':=3) (m':=gN A (E++[]) 2) [(0,0),(1,2)] rfl (dL (ia:=0) (ib:=1) rfl rfl rfl rfl (by simp) (by simp)) (.nil 6) ⟨[],by simp,by rw[ZZ];exact hE,rfl,rfl,rfl⟩
   ·have b1:(vk == 0)=false:=beq_eq_false_iff_ne.2 c1;rw[b1];rw[Yo (by simp[c1])];refine Rt ?_;exact bF (n':=3) (m':=gN A (E++[]) 2) [(0,0),(1,2)] rfl (dL (ia:=0) (ib:=1) rfl rfl rfl rfl (by simp) (by simp)) (.nil 6) ⟨[],by simp,by rw[ZZ];exact hE,rfl,rfl,rfl⟩
theorem YO{A:List Nd}{S:List aR}(h:VT A)(hS:FJ A S)(i:Nat)(hi:i<A.length)(ih:∀j<i,Hl A S j):Wy A S i:=by
 intro o E ho hE;have hk:=(h.node (bS hi)).node.kind;have hc:(aJ A i).kind=0∨(aJ A i).kind=1∨(aJ A i).kind=2∨(aJ A i).kind=3∨(aJ A i).kind=4:=by omega
 rcases hc with k|k|k|k|k
 ·exact UL h hS i hi (.inl k) o E ho hE
 ·exact UL h hS i hi (.inr k) o E ho hE
 ·exact W4 h hS i hi ih k o E ho hE
 ·cases o with
  | none=>exact Wr h hS i hi ih k E hE
  | some v=>exact Wd h hS i hi ih k v E (ho v rfl) hE
 ·exact WV h hS i hi ih k o E ho hE
theorem WI{A:List Nd}{S:List aR}(h:VT A)(hS:FJ A S):∀i,i<A.length->Hl A S i:=by
 intro i
 induction i using Nat.strongRecOn with
 | ind i ih=>exact fun hi=>XQ h hS i hi (YO h hS i hi fun j hj=>ih j hj (by omega))
set_option maxHeartbeats 16000000
theorem Ny{A:List Nd}(E:List Key)(a:List Cell)(ha:a.length<=100000)(sa:∀c∈a,q7 c)(ss:∀k,q7 ⟨cR (a.take k),zF⟩):aF prog [] 45 [.ptr 0 0 0,.il 6 (bK a)] (gN A E 1) 2 fun r m k=>r=gO ⟨cR a,zF⟩/\m=gN A E 1/\k=2:=by
 have na:NN (.il 6 (bK a)):=.il' (bW a);have nE:=gI A E;have la:=fE a;have hN:=Ak;have nz:=g8 zC;obtain⟨y0,r0,y1,r1,y2,r2,ez1,ez2⟩:=jP zC;rw[ez2] at hN nz;have h0:gO ⟨cR (a.take 0),zF⟩=gO zC:=rfl;refine aD bD func45 rfl ?_;refine Rr ?_;refine hN.go ?_ .nil nz;refine Rt ?_;refine aZ.at bD (fun i:Nat=>i<=a.length)
  (fun i=>⟨[(0,.ptr 0 0 0),(1,.il 6 (bK a)),(4,.ptr 2 0 0),(5,.ptr 3 0 0),(6,.int .i64 i)],[(0,.row 99 3 [.agg [.il 12 (bG A),.bool false,.sl 1 0 E.length]]),(1,.row 169 7 (iW A E)),(2,.row 103 6 [.agg [.bool false,.nsl,.bool false,.nsl,.bool false,.nsl]]),(3,.row 103 6 [gO ⟨cR (a.take i),zF⟩])],4,40⟩) (fun i=>a.length-i) 0 [(0,0),(1,1),(2,2),(3,3)] (by omega)
  (aE _ rfl ⟨⟨0,_,rfl,rfl,.cons (.agg (.cons (.same _ (.il' (aP A))) (.cons (.same _ (gH _)) (.cons (.slE rfl rfl) .nil)))) .nil⟩,aL 1 nE,aL 2 (.cons (.agg' (.cons (gH _) (.cons .nsl (.cons (gH _) (.cons .nsl (.cons (gH _) (.cons .nsl .nil))))))) .nil),⟨3,_,rfl,rfl,.eq (.cons (g8 _) .nil) (by rw[h0,ez2])⟩,trivial⟩ ⟨aG,aN na,aG,aG,aK,trivial⟩) ?_
 intro i hi;obtain⟨z,f0,z1,f1,z2,f2,ex1,ex2⟩:=jP ⟨cR (a.take i),zF⟩;rw[ex2];refine Rr ?_;rw[la];refine aH (fun hb=>?_) (fun hb=>?_)
 ·have hlt:i<a.length:=by simpa using hb
  have ea:(bK a)[((i:Nat):Int).toNat]? = some (gO a[i]):=by rw[Yl,nZ,Yj hlt];rfl
  have hst:cR (a.take (i+1))=cR (a.take i)+a[i].n:=by
   unfold cR;rw[Ys hlt,Zk,aAb];simp
  have s1:=ss i;have sx:=sa _ (Y8 hlt);generalize a[i]=x at *;obtain⟨w,g0,w1,g1,w2,g2,ey1,ey2⟩:=jP x;have hA:=Qy (cR (a.take i)) x.n (Yw s1 (by omega)) (Yw sx (by omega));rw[←Int.natCast_add,←hst] at hA;obtain⟨u,v,ev⟩:=eR ((cR (a.take (i+1)):Nat):Int);have hc:gO ⟨cR (a.take (i+1)),zF⟩=_:=Hu (c:=⟨cR (a.take i),zF⟩) (m:=cR (a.take (i+1))) ev ex2;have nc:=g8 ⟨cR (a.take (i+1)),zF⟩;have ex1:dW ((cR (a.take i):Nat):Int)=_:=ex1;rw[ex1,ey1,ev] at hA;rw[ey2] at ea;refine Rt ?_;repeat(refine aB ea ?_;refine Rt ?_)
  refine hA.go ?_ (.cons (fD _ _) (.cons (fD _ _) .nil)) (fD _ _);refine Rt ?_;repeat(refine aB ea ?_;refine Rt ?_)
  exact .mk (i+1) [(0,0),(1,1),(2,2),(3,3)] (by omega)
   (aE _ rfl ⟨⟨0,_,rfl,rfl,.cons (.agg (.cons (.same _ (.il' (aP A))) (.cons (.same _ (gH _)) (.cons (.slE rfl rfl) .nil)))) .nil⟩,aL 1 nE,aL 2 (.cons (.agg' (.cons (gH _) (.cons .nsl (.cons (gH _) (.cons .nsl (.cons (gH _) (.cons .nsl .nil))))))) .nil),⟨3,_,rfl,rfl,.eq (.cons nc .nil) (by rw[hc])⟩,trivial⟩ ⟨aG,aN na,aG,aG,⟨_,rfl,.int (by rw[bA ⟨by omega,by omega⟩];simp)⟩,trivial⟩) (by omega)
 ·have he:a.take i=a:=Yu (by
   have:¬i<a.length:=by simpa using hb
   omega)
  have nc:=g8 ⟨cR (a.take i),zF⟩;rw[←he,ex2];rw[ex2] at nc;refine Rt ?_;exact bF (n':=2) (m':=gN A E 1) [(0,0),(1,1)] rfl (dL (ia:=0) (ib:=1) rfl rfl rfl rfl rfl rfl) (.same _ nc) ⟨rfl,rfl,rfl⟩
theorem NA{A:List Nd}(E:List Key)(a:List Cell)(ha:a.length<=100000)(sa:cR a<=mO 600):aF prog [] 45 [.ptr 0 0 0,.il 6 (bK a)] (gN A E 1) 2 fun r m k=>r=gO ⟨cR a,zF⟩/\m=gN A E 1/\k=2:=
 Ny E a ha (fun c hc=>kR (Yw (oI hc) sa)) fun k=>kR (Yw (sS a k) sa)
theorem U6{A:List Nd}{E:List Key}{f:Nat}{a:List Cell}{c:Cell}(h:aF prog [] f [.ptr 0 0 0,.il 6 (bK a)] (gN A E 1) 2 fun r m k=>r=gO c/\m=gN A E 1/\k=2){mem:aQ}{nx:Nat}(rid:Nat){K:AV->aQ->Nat->Prop}
  (hp:jM [0,rid] mem=gN A E rid) (s0:lk [(0,0),(rid,1)] 0=some 0) (s1:lk [(0,0),(rid,1)] rid=some 1) (m0:lk (gN A E rid) 0=some (.row 99 3 [.agg [.il 12 (bG A),.bool false,.sl rid 0 E.length]])) (m1:lk (gN A E rid) rid=some (.row 169 7 (iW A E))) (hc0:(oD (gN A E 1) && (n9 [(0,0),(rid,1)] && tI 2 [(0,0),(rid,1)]))=true)
  (t1:lk [(0,0),(1,rid)] 1=some rid) (hc:(oD (gN A E rid) && (n9 [(0,0),(1,rid)] && (Nat.ble nx nx && (tO [0,rid] nx (gN A E rid) && Ao [(0,0),(rid,1)] 2 nx nx [(0,0),(1,rid)]))))=true)
  (hk:K (gO c) (gN A E rid++iS [0,rid] mem) nx):aF prog [] f [.ptr 0 0 0,.il 6 (bK a)] mem nx K:=by
 refine aF.useN bD [(0,0),(rid,1)] h hp (.cons (.ptr 0 0 0 0 s0) (.cons (.same _ (.il' (bW _))) .nil)) (dL (ia:=0) (ib:=rid) s0 s1 m0 m1 rfl rfl) hc0 ?_;rintro r m k ⟨rfl,rfl,rfl⟩;exact⟨[(0,0),(1,rid)],gO c,gN A E rid,nx,.same _ (g8 _),dL (ia:=0) (ib:=1) rfl t1 rfl rfl rfl rfl,hc,hk⟩
theorem S8{A:List Nd}(h:VT A)(hl:A.length<=100):aT prog [] 48 [.agg [.il 12 (bG A)],.bool false,.bool true,.agg [.int .i64 0,.int .i64 0,.str [],.nsl]] (.il 6 (bK (iO A (A.length-1,none)))):=by
 have hS:=Ei h hl;have hp:=h.pos;have hR:=WI h hS (A.length-1) (by omega);have lA:=cG A;have nA:=aP A;have hd:(((A.length:Nat):Int) == 0)=false:=beq_eq_false_iff_ne.2 (by omega);have hw:IntKind.i64.wrap (((A.length:Nat):Int)-1)=((A.length-1:Nat):Int):=by
  rw[bA ⟨by omega,by omega⟩];omega
 refine aD bD func48 rfl ?_;refine Rr ?_;rw[lA,hd];refine Rt ?_;rw[lA,hw];refine Rr ?_;refine aF.ph 169 7 ?_;refine aF.useN bD [(2,0),(3,1)] (hR none [] (fun v e=>by cases e) (nK.nil A _)) rfl (.cons (.ptr 2 0 0 0 rfl) (.s (.cons (.same _ (gH _)) (.cons (Cv.agg' (iB.cons (Cv.same _ nn) (iB.cons (Cv.same _ nn) (iB.cons (Cv.same _ nn) (iB.cons (Cv.nil 4) iB.nil))))) .nil)))) ⟨⟨2,_,rfl,rfl,.cons (.agg (.cons (.same _ (.il' nA)) (.cons (.same _ (gH _)) (.cons (.nslk 3 1 _ rfl rfl) .nil)))) .nil⟩,⟨3,_,rfl,rfl,.nil⟩,trivial⟩ rfl ?_;rintro r m k ⟨F,h1,h2,rfl,rfl,rfl⟩;refine⟨[],.il 6 (bK (iO A (A.length-1,none))),[],4,.same _ (.il' (bW _)),trivial,rfl, ?_⟩;refine Rt ?_;exact aA (.il' (bW _)) ⟨rfl,rfl,rfl⟩
set_option maxHeartbeats 16000000
theorem VG{mem:aQ}{σ:List (Nat × Nat)}{id:Nat}{t:TypeId}{sz:Nat}{a b:AV}(h1:lk mem id=some (.row t sz [.agg [a,.bool false,b]]))(h2:lk σ id=none):Cv mem σ (.ptr id 0 0) WD:=
 .fzp id 0 0 t sz _ _ _ h1 h2 rfl (Yy _) fun k c c' h1 h2=>(iB.cons (Cv.junk a) (iB.cons (Cv.same _ (gH false)) (iB.cons (Cv.junk b) iB.nil))).2 k c c' (by simpa[AV.cells] using h1) (by simpa[AV.cells] using h2)
theorem P1:aT prog [] 48 [.agg [.il 12 (bG [])],.bool false,.bool true,.agg [.int .i64 0,.int .i64 0,.str [],.nsl]] (.il 6 (bK [])):=by
 refine aD bD func48 rfl ?_;refine Rt ?_;exact bF (n':=0) (m':=[]) [] rfl trivial (.nil 6) ⟨rfl,rfl,rfl⟩
theorem GZ{A:List Nd}{R:List Cell}(hR:aT prog [] 48 [.agg [.il 12 (bG A)],.bool false,.bool true,.agg [.int .i64 0,.int .i64 0,.str [],.nsl]] (.il 6 (bK R)))(hl:R.length<=257)(hs:cR R<=mO 256):aT prog [] 14 [.agg [.il 12 (bG A)]] (dW ((cR R:Nat):Int)):=by
 have nA:=aP A;have hT:=OO R (by omega) (Yw hs (c8 (by omega)));have nR:=bW R;have nc:=g8 ⟨cR R,zF⟩;obtain⟨z,f0,z1,f1,z2,f2,ex1,ex2⟩:=jP ⟨cR R,zF⟩;rw[ex2] at hT nc;have ex1:dW ((cR R:Nat):Int)=_:=ex1;rw[ex1];refine aD bD func14 rfl ?_;refine Rr ?_;refine hR.go ?_ (.cons (.agg' (.cons (.il' nA) .nil)) (.cons nn (.cons nn (.cons (.agg' (.cons nn (.cons nn (.cons nn (.cons .nsl .nil))))) .nil)))) (.il' nR);refine Rr ?_;refine aF.pre bD [(1,1)] (mem':=[(1,.row 44 2 [.agg [.bool false,.nsl]])]) rfl ⟨aL 1 (.cons (.agg' (.cons nn (.cons .nsl .nil))) .nil),trivial⟩ (iB.cons (VG rfl rfl) (iB.cons (Cv.same _ (.il' nR)) iB.nil)) ?_;refine hT.go ?_ (.cons Qt (.cons (.il' nR) .nil)) nc;refine Rt ?_;exact aA (fD _ _) ⟨rfl,rfl,rfl⟩
theorem On{A:List Nd}(h:VT A)(hl:A.length<=100):aT prog [] 14 [.agg [.il 12 (bG A)]] (dW ((cZ.all A (A.length-1):Nat):Int)):=by
 have hp:=h.pos;have hb:=oM h (i:=A.length-1) (by omega) (o:=none) (fun v e=>by cases e);have hn:=(Gn false h (A.length-1) (by omega)).1;have:=GZ (A:=A) (R:=iO A (A.length-1,none)) (S8 h hl) (by rw[jG];exact hb.1) (by rw[jG];exact hb.2);rw[←hn];exact this
theorem OA:aT prog [] 14 [.agg [.il 12 (bG [])]] (dW 0):=
 GZ (A:=[]) (R:=[]) P1 (by simp) (Zd _)
theorem QA{A:List Nd}(h:VT A)(hl:A.length<=100):aT prog [] 12 [.agg [.il 12 (bG A)]] (.il 2 ((List.range A.length).map fun i=>dW ((cZ.all A i:Nat):Int))):=by
 have hS:=Ei h hl;have lA:=cG A;have nA:=aP A;have hW:=fun j (hj:j<A.length)=>WI h hS j hj
 have hB:=fun j (hj:j<A.length)=>oM h (i:=j) hj (o:=none) (fun v e=>by cases e)
 have hN:=fun j (hj:j<A.length)=>(Gn false h j hj).1
 refine aD bD func12 rfl ?_;refine Rr ?_;refine aZ.ph 169 7 ?_;refine aZ.ph 44 2 ?_;obtain⟨X,hX⟩:∃X:Nat->List AV,∀k,X k=(List.range k).map fun i=>dW ((cZ.all A i:Nat):Int):=⟨_,fun _=>rfl⟩
 have hX0:X 0=[]:=by rw[hX];rfl
 have hXs:∀k,X (k+1)=X k++[dW ((cZ.all A k:Nat):Int)]:=fun k=>by rw[hX,hX,aBa,Zk];rfl
 have hXl:∀k,(X k).length=k:=fun k=>by rw[hX];simp
 have nX:∀k,kI (X k):=fun k a ha=>by
  rw[hX] at ha;obtain⟨i,-,rfl⟩:=ZF.1 ha;obtain⟨u,v,e⟩:=eR ((cZ.all A i:Nat):Int);rw[e];exact fD _ _
 rw[←hX A.length];refine aZ.at bD (fun p:Nat × List Key=>p.1<=A.length/\nK A (u6 A) p.2)
  (fun p=>⟨[(1,.ptr 2 0 0),(3,.ptr 0 0 0),(4,.sl 3 0 p.1),(5,.int .i64 p.1)],[(0,.row 99 3 [.agg [.il 12 (bG A),.bool false,.sl 1 0 p.2.length]]),(1,.row 169 7 (iW A p.2)),(2,.row 25 1 [.agg [.il 12 (bG A)]]),(3,.row 44 2 (X p.1))],4,27⟩)
  (fun p=>A.length-p.1) (0,[]) [(0,2),(1,0),(2,1),(3,3)] ⟨Zd _,nK.nil A _⟩
  (aE _ rfl ⟨⟨1,_,rfl,rfl,.cons (.agg (.cons (.same _ (.il' nA)) (.cons (.same _ (gH _)) (.cons (.nslk 2 1 _ rfl rfl) .nil)))) .nil⟩,⟨2,_,rfl,rfl,.nil⟩,aL 0 (.cons (.agg' (.cons (.il' nA) .nil)) .nil),⟨3,_,rfl,rfl,.eq (nX 0) (by rw[hX0])⟩,trivial⟩
   ⟨aG,aG,⟨_,rfl,.nslk 3 3 _ rfl rfl⟩,aK,trivial⟩) ?_
 rintro⟨k,E⟩ ⟨hk,hE⟩;simp only at hk hE ⊢;refine Rr ?_;rw[lA];refine aH (fun hbb=>?_) (fun hbb=>?_)
 ·have hlt:k<A.length:=by simpa using hbb
  have hb:=hB k hlt;have hn:=hN k hlt;have hT:=fun E'=>NA (A:=A) E' (iO A (k,none)) (by rw[jG];omega) (Yw (by rw[jG];exact hb.2) (c8 (by omega)))
  have hsm:cR (iO A (k,none))=cZ.all A k:=hn;rw[hsm] at hT;have hs:=hXs k;have lX:=hXl k;have nX1:=nX (k+1);obtain⟨z,f0,z1,f1,z2,f2,ex1,ex2⟩:=jP ⟨cZ.all A k,zF⟩;have ex1:dW ((cZ.all A k:Nat):Int)=_:=ex1;rw[ex1] at hs;refine Rr ?_;refine K4 (hW k hlt) none (fun v e=>by cases e) hE rfl rfl 1 (iB.cons (Cv.agg' (iB.cons (Cv.same _ nn) (iB.cons (Cv.same _ nn) (iB.cons (Cv.same _ nn) (iB.cons (Cv.nil 4) iB.nil))))) iB.nil) rfl rfl rfl rfl rfl rfl (fun _=>rfl) (fun F h1 h2=>?_);unfold gN;refine Rr ?_;refine U6 (hT (E++F)) 4 rfl rfl rfl rfl rfl rfl rfl rfl ?_;unfold gN;rw[ex2];generalize X k=Y at *;refine Rt ?_;refine aM (bT rfl rfl lX.symm (by simp;omega)) ?_;refine Rt ?_;exact .mk (k+1,E++F) [(2,2),(0,0),(4,1),(6,3)] ⟨by simp only;omega,h2⟩
   (aE _ rfl ⟨⟨0,_,rfl,rfl,.cons (.agg (.cons (.same _ (.il' nA)) (.cons (.same _ (gH _)) (.cons (.slE rfl rfl) .nil)))) .nil⟩,aL 4 (gI _ _),aL 2 (.cons (.agg' (.cons (.il' nA) .nil)) .nil),⟨6,_,rfl,rfl,.eq nX1 (by rw[hs];rfl)⟩,trivial⟩
    ⟨aG,aG,⟨_,rfl,.slE rfl rfl⟩,⟨_,rfl,.int (by rw[bA ⟨by omega,by omega⟩];simp)⟩,trivial⟩) (by simp only;omega)
 ·have hke:k=A.length:=by
   have:¬k<A.length:=by simpa using hbb
   omega
  rw[hke];have lX:=hXl A.length;refine Rr ?_;exact bF (n':=0) (m':=[]) [] rfl trivial (Cv.fzR (id:=3) rfl rfl (.same (nX _)) lX) ⟨rfl,rfl,rfl⟩
end Go.Proofs.YtidjhgajglebnaaGreatDoor
namespace Go.Ax
open Go
structure VQ(x:Nd):Prop where
 ok:uW x
 val:bB x.value<=1024
 vals:∀v∈x.values,bB v<=1024
 vlen:x.values.length<=1024
 klen:x.kids.length<=1025
 llen:x.labels.length<=256
 wlen:x.weights.length<=256
 lab:∀s∈x.labels,s∈zQ
theorem CY:∀{l:List aR},eP l=0->∀v∈l,bP v=0
 | [],_,v,hv=>by simp at hv
 | a::r,h,v,hv=>by
  simp only[eP] at h;split at h
  ·rename_i h1;exact absurd h h1
  ·rename_i h1;rcases Yr.1 hv with rfl|hv
   ·exact Decidable.not_not.1 h1
   ·exact CY h v hv
theorem CZ{v:aR}(h:bP v=0):bB v<=1024:=by
 unfold bP at h;split at h
 ·omega
 ·split at h
  ·omega
  ·rename_i h1;rw[not_or] at h1;omega
theorem Kf{v:aR}(h:Er v=true):bB v<=1024:=by
 obtain⟨k,n,s,ks⟩:=v;simp only[Er,Yk,ZA] at h;have:ks=[]:=Zn.1 h.2;subst this;simp[bB,bZ]
theorem GW{ns:List Nd}(h:lZ ns):∀x∈ns,VQ x:=by
 intro x hx;obtain⟨j,hj⟩:=ZQ hx;have hn:=uA ns h.valid j x hj;have hN:=mT hn;have hg:=h.gen x hx;have hf:=kK hn;have hfe:eP (qM x)=0:=by
  unfold fS at hn;rw[Yo (by rw[hf];simp)] at hn;split at hn
  ·rename_i h1;exact absurd hn h1
  ·rename_i h1;exact Decidable.not_not.1 h1
 have hv:=CY hfe;unfold dN at hf;simp only[Yk] at hf;obtain⟨⟨⟨⟨⟨⟨hu,hkd⟩,hki⟩,h2⟩,h3⟩,h4⟩,h5⟩:=hf;unfold lH at hu;simp only[Yk,Zy,ZA] at hu h2 h4;have hul:=hu.1.1.2;have hz:=hu.1.1.1.1.1;have hvl:=hg.vals;refine⟨hg.ok, ?_,fun v hm=>CZ (hv v (by unfold qM;exact Zz _ hm)),hvl, ?_, ?_, ?_,hg.labels⟩
 ·rcases hz with e|e
  ·exact CZ (hv x.value (by unfold qM;rw[Yt e];simp))
  ·exact Kf e
 ·by_cases e:x.kind=4
  ·have:=hN.bind e;omega
  ·have:=hN.klen e;omega
 ·rcases hul with e|e
  ·rcases h2 with h2|h2
   ·exact absurd e h2
   ·omega
  ·omega
 ·rcases hul with e|e
  ·rcases h2 with h2|h2
   ·exact absurd e h2
   ·omega
  ·omega
structure Br(LB:List (List UInt8))(x:Nd):Prop where
 ok:uW x
 val:bB x.value<=1048576
 vals:∀v∈x.values,bB v<=1048576
 vlen:x.values.length<=2000
 klen:x.kids.length<=2000
 llen:x.labels.length<=1000
 lab:∀s∈x.labels,s∈LB
variable {LB:List (List UInt8)}
theorem Lp(hLB:∀s∈zQ,s∈LB){x:Nd}(h:VQ x):Br LB x:=
 ⟨h.ok,by have:=h.val;omega,fun v hv=>by have:=h.vals v hv;omega,by have:=h.vlen;omega,by have:=h.klen;omega,by have:=h.llen;omega,fun s hs=>hLB s (h.lab s hs)⟩
theorem F0{ns:List Nd}(hLB:∀s∈LB,s.length<=19)(h:∀x∈ns,Br LB x)(hl:ns.length<=1000):tX ns:=
 ⟨fun x hx=>(h x hx).ok,fun x hx=>(h x hx).val,fun x hx=>(h x hx).vals,fun x hx=>(h x hx).vlen,fun x hx=>(h x hx).klen,fun x hx=>(h x hx).llen,fun x hx s hs=>by have:=hLB s ((h x hx).lab s hs);omega,hl⟩
theorem Mb{l:List Int}{n:Int}(h:∀w∈l,i64 w)(hn:i64 n):∀w∈l++[n],i64 w:=fun w hw=>by
 rcases Yz.1 hw with hw|hw
 ·exact h w hw
 ·simp at hw;rw[hw];exact hn
theorem RY{x:Nd}{n:Int}(h:Br LB x)(hn:i64 n):Br LB { x with kind:=n }:=⟨⟨hn,h.ok.name,h.ok.lo,h.ok.hi,h.ok.weights,h.ok.weightsI,h.ok.labels,h.ok.labelsI,h.ok.values,h.ok.valuesI,h.ok.kids,h.ok.kidsI,h.ok.value,h.ok.valueS⟩,h.val,h.vals,h.vlen,h.klen,h.llen,h.lab⟩
theorem Wj{x:Nd}{n:Int}(h:Br LB x)(hn:i64 n):Br LB { x with lo:=n }:=⟨⟨h.ok.kind,h.ok.name,hn,h.ok.hi,h.ok.weights,h.ok.weightsI,h.ok.labels,h.ok.labelsI,h.ok.values,h.ok.valuesI,h.ok.kids,h.ok.kidsI,h.ok.value,h.ok.valueS⟩,h.val,h.vals,h.vlen,h.klen,h.llen,h.lab⟩
theorem XJ{x:Nd}{n:Int}(h:Br LB x)(hn:i64 n):Br LB { x with hi:=n }:=⟨⟨h.ok.kind,h.ok.name,h.ok.lo,hn,h.ok.weights,h.ok.weightsI,h.ok.labels,h.ok.labelsI,h.ok.values,h.ok.valuesI,h.ok.kids,h.ok.kidsI,h.ok.value,h.ok.valueS⟩,h.val,h.vals,h.vlen,h.klen,h.llen,h.lab⟩
theorem DO{x:Nd}{ws:List Int}(h:Br LB x)(hl:ws.length<=100000)(hi:∀w∈ws,i64 w):Br LB { x with weights:=ws }:=⟨⟨h.ok.kind,h.ok.name,h.ok.lo,h.ok.hi,by simp only;omega,hi,h.ok.labels,h.ok.labelsI,h.ok.values,h.ok.valuesI,h.ok.kids,h.ok.kidsI,h.ok.value,h.ok.valueS⟩,h.val,h.vals,h.vlen,h.klen,h.llen,h.lab⟩
theorem MW{x:Nd}{ks:List Int}(h:Br LB x)(hl:ks.length<=2000)(hi:∀w∈ks,i64 w):Br LB { x with kids:=ks }:=⟨⟨h.ok.kind,h.ok.name,h.ok.lo,h.ok.hi,h.ok.weights,h.ok.weightsI,h.ok.labels,h.ok.labelsI,h.ok.values,h.ok.valuesI,by simp only;omega,hi,h.ok.value,h.ok.valueS⟩,h.val,h.vals,h.vlen,hl,h.llen,h.lab⟩
theorem xR{x:Nd}{s:List UInt8}(h:Br LB x)(hs:s.length<=1000):Br LB { x with name:=s }:=⟨⟨h.ok.kind,by simp only;omega,h.ok.lo,h.ok.hi,h.ok.weights,h.ok.weightsI,h.ok.labels,h.ok.labelsI,h.ok.values,h.ok.valuesI,h.ok.kids,h.ok.kidsI,h.ok.value,h.ok.valueS⟩,h.val,h.vals,h.vlen,h.klen,h.llen,h.lab⟩
theorem OW{x:Nd}{ls:List (List UInt8)}(h:Br LB x)(hl:ls.length<=1000)(hs:∀s∈ls,s∈LB)(hLB:∀s∈LB,s.length<=19):Br LB { x with labels:=ls }:=⟨⟨h.ok.kind,h.ok.name,h.ok.lo,h.ok.hi,h.ok.weights,h.ok.weightsI,by simp only;omega,fun s hm=>by have:=hLB s (hs s hm);omega,h.ok.values,h.ok.valuesI,h.ok.kids,h.ok.kidsI,h.ok.value,h.ok.valueS⟩,h.val,h.vals,h.vlen,h.klen,hl,hs⟩
theorem OL{x:Nd}{vs:List aR}(h:Br LB x)(hl:vs.length<=2000)(hv:∀v∈vs,g9 v/\bB v<=1048576):Br LB { x with values:=vs }:=⟨⟨h.ok.kind,h.ok.name,h.ok.lo,h.ok.hi,h.ok.weights,h.ok.weightsI,h.ok.labels,h.ok.labelsI,by simp only;omega,fun v hm=>⟨(hv v hm).1,by have:=(hv v hm).2;omega⟩,h.ok.kids,h.ok.kidsI,h.ok.value,h.ok.valueS⟩,h.val,fun v hm=>(hv v hm).2,hl,h.klen,h.llen,h.lab⟩
theorem Qd{x:Nd}{v:aR}(h:Br LB x)(hv:g9 v)(hs:bB v<=1048576):Br LB { x with value:=v }:=⟨⟨h.ok.kind,h.ok.name,h.ok.lo,h.ok.hi,h.ok.weights,h.ok.weightsI,h.ok.labels,h.ok.labelsI,h.ok.values,h.ok.valuesI,h.ok.kids,h.ok.kidsI,hv,by simp only;omega⟩,hs,h.vals,h.vlen,h.klen,h.llen,h.lab⟩
theorem Ux{ns:List Nd}{i:Nat}{x:Nd}(h:∀y∈ns,Br LB y)(hx:Br LB x):∀y∈ns.set i x,Br LB y:=fun y hy=>by
 rcases aAP hy with hy|rfl
 ·exact h y hy
 ·exact hx
end Go.Ax
namespace Go.Ax
open Go
section
variable {A:List Nd}
end
end Go.Ax
namespace Go.Ax
open Go
structure Ft where
 cs:List Int
 val:aR
structure As(r:Yf)(f:Ft):Prop where
 val:r.val=f.val
 used:r.used=f.cs.length
 stop:r.stop = -1
section
variable {A:List Nd}
theorem VT.opt(h:VT A){i:Nat}{x:Nd}(hx:A[i]? = some x)(hk:x.kind=1∨x.kind=2):1<=NT x:=by
 have hg:=h.node hx;unfold NT;split
 ·have:=(cY hg.node.num).1;omega
 ·have:=(hg.opt.ch (by omega)).1;omega
end
end Go.Ax
namespace Go.Ax
open Go
def Xh(x y:Nd):Prop:=(y.kind=x.kind/\y.kids.length<=x.kids.length+1)∨(y.kids=x.kids/\y.values=x.values/\y.weights=x.weights)
end Go.Ax
