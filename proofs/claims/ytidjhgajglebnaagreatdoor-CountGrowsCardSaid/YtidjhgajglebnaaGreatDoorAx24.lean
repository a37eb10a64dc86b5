/- A part of the proof. -/
import Derived.Test.YtidjhgajglebnaaGreatDoorAx23
import Derived.Test.YtidjhgajglebnaaGreatDoorProg
set_option linter.unusedVariables false
set_option linter.unusedSimpArgs false
namespace Go.Proofs.YtidjhgajglebnaaGreatDoor
open Go Go.Ax Go.Proofs Tryz
set_option maxRecDepth 100000
set_option maxHeartbeats 16000000
def l8:List (List UInt8):=[[45,49],[48],[50],[48,50],[45,48],[97],[57,50,50,51,51,55,50,48,51,54,56,53,52,55,55,53,56,48,56],[]]
def LB:List (List UInt8):=[120]::(l8++vG)
theorem H0{s:List UInt8}(h:s∈LB):s.length<=19:=by
 simp only[LB,l8,vG,Uv,Um,T6,WS,or_false] at h;rcases h with rfl|rfl|rfl|rfl|rfl|rfl|rfl|rfl|rfl|rfl|rfl|rfl|rfl<;>simp
set_option maxHeartbeats 16000000
theorem FO:∀s∈vG,s∈LB:=fun s hs=>by unfold LB;exact UF _ (U7 _ hs)
theorem R8(l:List Int)(hl:∀x∈l,i64 x){Γ:List (Nat × AV)}{mem:aN}{nx:Nat}{K:AV->aN->Nat->Prop}(hk:∀ns:List Nd,jQ ns->ns.length<=14->K (.agg [.il 12 (bD ns)]) mem nx):aE prog Γ 6 [.il 1 (bG l)] mem nx K:=by
 refine aE.goG0 (Su l hl) ?_;rintro r m n ⟨ns,hT,hlen,rfl,rfl,rfl⟩;exact⟨.agg [.il 12 (bD ns)],.agg' (.cons (.fz' (id:=0) rfl rfl (by rw[cO];omega) (by rw[Ub];exact UB (by rw[cO];omega)) (aX _)) .nil),hk ns hT hlen⟩
theorem g0(l:List Int)(h:¬l.length=0):([]++bG l)[0+Int.toNat 0]? = some (.int .i64 (l[0]'(by omega))):=by
 rw[Um,bL]
 show (l[0]?).map _=_
 rw[Ty (by omega)];rfl
set_option maxHeartbeats 8000000
theorem Q0(ns:List Nd)(n:Nat)(hn:n<=ns.length)(hl:ns.length<=100000)(hg:∀(i:Nat) (x:Nd),i<n->ns[i]? = some x->iU i x) :
  aE prog [] 127 [.agg [.il 12 (bD ns)],.int .i64 n] [] 0 fun r m k=>r = .sl 0 0 n/\m=[(0,.row 225 2 (Go.Ax.encLs (aL (ns.take n))))]/\k=1:=by
 refine aG bB func127 rfl ?_;refine Rr ?_;refine bA.ph 225 2 ?_;refine bA.at bB (fun i:Nat=>i<=n)
  (fun i=>⟨[(1,.int .i64 n),(2,.ptr 1 0 0),(5,.sl 2 0 i),(6,.int .i64 i)],[(1,.row 25 1 [.agg [.il 12 (bD ns)]]),(2,.row 225 2 (Go.Ax.encLs (aL (ns.take i))))],3,23⟩)
  (fun i=>n-i) 0 [(0,1),(1,2)] (by simp)
  (aF _ rfl ⟨aK 0 (.cons (.agg' (.cons (.il' (aX _)) .nil)) .nil),aK 1 .nil,trivial⟩ ⟨aJ,aI,⟨_,rfl,.nslk 1 2 _ rfl rfl⟩,aJ,trivial⟩) ?_
 intro i hi;refine Rr ?_;refine aD (fun h=>?_) (fun h=>?_)
 ·have hin:i<n:=by simp at h;omega
  obtain⟨x,hx1,hx2,ex,bx⟩:=C7 (l:=ns) (k:=i) (n:=ns.length) (by omega) rfl;have ex:(bD ns)[((i:Nat):Int).toNat]? = some (cN x):=by rw[UT] at ex;exact ex
  have hgx:=hg i x hin hx1;have htl:(aL (ns.take i)).length=i:=by rw[dL];simp;omega
  have hL:=Pz i x (aL (ns.take i)) hgx htl.symm (iO _ fun j y hy=>by
   have hj:=(T0.1 hy).1;rw[Ua,T7 (by simp at hj;omega)] at hy;exact hg j y (by simp at hj;omega) hy)
  have hnx:aL (ns.take (i+1))=aL (ns.take i)++[dA x (aL (ns.take i))]:=by rw[T9 (by omega),hx2,gR]
  have hxn:=aW x;have hxc:(cN x).cells.length=12:=by obtain⟨kind,name,lo,hi,ws,ls,vals,kids,⟨vk,vn,vs,vks⟩⟩:=x;rfl
  generalize dA x (aL (ns.take i))=nl at hL hnx;obtain⟨bs,hbs⟩:∃bs,bs=aL (ns.take i):=⟨_,rfl⟩
  rw[←hbs] at hL hnx htl ⊢;obtain⟨kind,name,lo,hi,ws,ls,vals,kids,⟨vk,vn,vs,vks⟩⟩:=x;refine Rr ?_;repeat((first|refine aM bx ?_|refine aC ex ?_);refine Rr ?_)
  refine aE.use1 bB hL 2 rfl (Go.Ax.encLs_nn bs) (.cons (.same _ hxn) (.cons (.slE rfl htl.symm) .nil)) ?_;rintro r m k ⟨rfl,rfl⟩;refine⟨_,rfl,lZ _,Go.Ax.encLs_nn bs, ?_⟩;refine Rr ?_;refine aM (bT rfl rfl (by rw[Go.Ax.encLs_length,htl]) (by simp;omega)) ?_;refine Rr ?_;exact .mk (i+1) [(1,1),(4,2)] (by omega)
   (aF _ rfl ⟨aK 1 (.cons (.agg' (.cons (.il' (aX _)) .nil)) .nil),⟨4,_,rfl,rfl,.eq (Go.Ax.encLs_nn _) (by rw[hnx];simp[Go.Ax.encLs])⟩,trivial⟩ ⟨aJ,aI,⟨_,rfl,.slE rfl (by simp)⟩,⟨_,rfl,.wo⟩,trivial⟩) (by omega)
 ·have hin:i=n:=by simp at h;omega
  subst hin;refine Rr ?_;exact bJ (r':=.sl 0 0 i) (n':=1) (m':=[(0,.row 225 2 (Go.Ax.encLs (aL (ns.take i))))]) [(2,0)] rfl ⟨aK 2 (Go.Ax.encLs_nn _),trivial⟩ (.sl 2 0 0 _ rfl) ⟨rfl,rfl,rfl⟩
theorem OL(ns:List Nd)(i:Nat)(hi:i<ns.length)(hl:ns.length<=100000)(hg:∀(j:Nat) (x:Nd),j<i+1->ns[j]? = some x->iU j x) :
  aE prog [] 69 [.agg [.il 12 (bD ns)],.int .i64 i] [] 0 fun r m k=>r = .tup [.il 4 (aS (dB (aL (ns.take (i+1))) i).vals),.bool (!(dB (aL (ns.take (i+1))) i).many)]/\m=[]/\k=0:=by
 have hL:=Q0 ns (i+1) (by omega) hl hg;have hw:IntKind.i64.wrap ((i:Int)+1)=((i+1:Nat):Int):=w64 (by omega) ⟨by omega,by omega⟩;have hat:=EN hi;have hlen:(aL (ns.take (i+1))).length=i+1:=by rw[dL];simp;omega
 generalize dB (aL (ns.take (i+1))) i=b at hat ⊢;generalize aL (ns.take (i+1))=bs at hL hat hlen;obtain⟨bv,bm⟩:=b;have e2:(Go.Ax.encLs bs)[0+((i:Nat):Int).toNat]? = some (k7 ⟨bv,bm⟩):=by rw[UT,T4,Go.Ax.encLs_get,hat];rfl
 have b2:Nat.blt ((i:Nat):Int).toNat (i+1)=true:=T8 (by simp);refine aG bB func69 rfl ?_;refine Rr ?_;rw[hw];refine aE.useN bB [] hL rfl (.cons (.same _ (.agg' (.cons (.il' (aX _)) .nil))) (.s .nil)) trivial rfl ?_;rintro r m k ⟨rfl,rfl,rfl⟩;refine⟨[(0,2)],.sl 2 0 (i+1),[(2,.row 225 2 (Go.Ax.encLs bs))],3,.sl 0 2 0 _ rfl,⟨aK 0 (Go.Ax.encLs_nn _),trivial⟩,rfl, ?_⟩;refine Rr ?_;repeat((first|refine bH ?_|refine aM b2 ?_|refine aC e2 ?_);refine Rr ?_)
 exact aA nn ⟨rfl,rfl,rfl⟩
theorem iM(ns:List Nd)(x:Nd)(i:Nat)(hi:i<=ns.length)(hl:ns.length<=100000)(hg:∀(j:Nat) (x:Nd),j<i->ns[j]? = some x->iU j x)(hx:rJ x)(hk0:0<x.kids.length)(hk:∀(j:Nat) (k:Int),x.kids[j]? = some k->0<=k/\k<i) :
  aZ prog [] 34 [.agg [.il 12 (bD ns)],cN x] (.int .i64 (fZ ns x)):=by
 obtain⟨q,hq⟩:∃q,x.kids[0]? = some q:=⟨x.kids[0],Ty hk0⟩
 obtain⟨q1,q2⟩:=hk 0 q hq;obtain⟨qn,rfl⟩:=UH q1;have hgd:x.kids.getD 0 0=qn:=by rw[T1,hq];rfl
 have hV:=OL ns qn (by omega) hl fun j y hj hy=>hg j y (by omega) hy
 have hbl:=pI (iO (ns.take (qn+1)) fun j y hy=>hg j y (by have:=(fO hy).2;omega) (fO hy).1) qn;have hbe:fZ ns x=if (dB (aL (ns.take (qn+1))) qn).many=true then 4 else if cL (dB (aL (ns.take (qn+1))) qn).vals x.values=true then 0 else 1:=by
  unfold fZ;simp only[hgd,T4]
 rw[hbe];generalize dB (aL (ns.take (qn+1))) qn=b at hV hbl ⊢;obtain⟨bv,bm⟩:=b;simp only at hV hbl ⊢;have hS:=Iy bv x.values (by omega) hbl.2;generalize cL bv x.values=sm at hS ⊢;have ek:(bG x.kids)[(0:Int).toNat]? = some (.int .i64 (qn:Int)):=by rw[bL];simp[hq]
 obtain⟨kind,name,lo,hi',ws,ls,vals,kids,⟨vk,vn,vs,vks⟩⟩:=x;simp only at hS ek;refine aG bB func34 rfl ?_;refine Rr ?_;repeat((first|refine bH ?_|refine aC ek ?_);refine Rr ?_)
 refine aZ.go hV ?_ (.cons (.agg' (.cons (.il' (aX _)) .nil)) (.cons nn .nil));cases bm with
 | true=>
  refine Rr ?_;repeat((first|refine bH ?_|refine aC ek ?_);refine Rr ?_)
  exact aA nn ⟨rfl,rfl,rfl⟩
 | false=>
  refine Rr ?_;repeat((first|refine bH ?_|refine aC ek ?_);refine Rr ?_)
  refine hS.go ?_;cases sm with
  | true=>
   refine Rr ?_;exact aA nn ⟨rfl,rfl,rfl⟩
  | false=>
   refine Rr ?_;exact aA nn ⟨rfl,rfl,rfl⟩
end Go.Proofs.YtidjhgajglebnaaGreatDoor
namespace Go.Ax
open Go
def Eo(nx:Nat):aN->aN->(aN->aN->Prop)->Prop
 | [],acc,K=>K acc []
 | (i,b)::r,acc,K=>match Nat.ble nx i with
  | true=>Eo nx r ((i,b)::acc) K
  | false=>K acc ((i,b)::r)
def KZ(f:AV->(AV->Prop)->Prop->Prop):List AV->(List AV->Prop)->Prop->Prop
 | [],K,_=>K []
 | a::r,K,N=>f a (fun b=>KZ f r (fun t=>K (b::t)) N) N
def LH:Nat->aN->AV->(AV->Prop)->Prop->Prop
 | 0,_,_,_,N=>N
 | n+1,m,v,K,N=>match v with
  | .bool b=>K (.bool b)
  | .int k i=>K (.int k i)
  | .str s=>K (.str s)
  | .nptr=>K .nptr
  | .nsl=>K .nsl
  | .nmap=>K .nmap
  | .nfn=>K .nfn
  | .nif=>K .nif
  | .sl id off len=>match lk m id with
   | some (.row t sz xs)=>match Nat.ble (off+len) xs.length with
    | true=>KZ (LH n m) ((xs.drop off).take len) (fun ys=>K (.il sz ys)) N
    | false=>N
   | _=>N
  | .il sz xs=>KZ (LH n m) xs (fun ys=>K (.il sz ys)) N
  | .ifc t v=>LH n m v (fun v'=>K (.ifc t v')) N
  | .agg cs=>KZ (LH n m) cs (fun ys=>K (.agg ys)) N
  | .tup cs=>KZ (LH n m) cs (fun ys=>K (.tup ys)) N
  | _=>N
theorem Bb{f:AV->(AV->Prop)->Prop->Prop}{g:AV->Option AV}{N:Prop}(hf:∀v K,f v K N->N∨∃v',g v=some v'/\K v'):∀{l:List AV} {K:List AV->Prop},KZ f l K N->N∨∃l',zB g l=some l'/\K l'
 | [],K,h=>.inr ⟨[],rfl,h⟩
 | a::r,K,h=>by
  rcases hf a _ h with h|⟨b,h1,h⟩
  ·exact .inl h
  ·rcases Bb hf h with h|⟨t,h2,h⟩
   ·exact .inl h
   ·exact .inr ⟨b::t,by simp only[zB,h1,h2],h⟩
theorem QD{m:aN}{N:Prop}:∀(n:Nat) (v:AV) (K:AV->Prop),LH n m v K N->N∨∃v',frz n [] m v=some v'/\K v'
 | 0,v,K,h=>.inl h
 | n+1,v,K,h=>by
  have ih:=QD (m:=m) (N:=N) n;cases v with
  | bool b=>exact .inr ⟨_,rfl,h⟩
  | int k i=>exact .inr ⟨_,rfl,h⟩
  | str s=>exact .inr ⟨_,rfl,h⟩
  | nptr=>exact .inr ⟨_,rfl,h⟩
  | nsl=>exact .inr ⟨_,rfl,h⟩
  | nmap=>exact .inr ⟨_,rfl,h⟩
  | nfn=>exact .inr ⟨_,rfl,h⟩
  | nif=>exact .inr ⟨_,rfl,h⟩
  | ptr id i j=>exact .inl h
  | mp id=>exact .inl h
  | ip v=>exact .inl h
  | fn f a b=>exact .inl h
  | junk=>exact .inl h
  | yld id=>exact .inl h
  | sl id off len=>
   simp only[LH] at h;split at h
   ·rename_i t sz xs hx;split at h
    ·rename_i hle;rcases Bb ih h with h|⟨ys,h1,h⟩
     ·exact .inl h
     ·exact .inr ⟨_,by simp only[frz,lk,hx,hle,h1],h⟩
    ·exact .inl h
   ·exact .inl h
  | il sz xs=>
   simp only[LH] at h;rcases Bb ih h with h|⟨ys,h1,h⟩
   ·exact .inl h
   ·exact .inr ⟨_,by simp only[frz,h1],h⟩
  | ifc t v=>
   simp only[LH] at h;rcases ih v _ h with h|⟨v',h1,h⟩
   ·exact .inl h
   ·exact .inr ⟨_,by simp only[frz,h1],h⟩
  | agg cs=>
   simp only[LH] at h;rcases Bb ih h with h|⟨ys,h1,h⟩
   ·exact .inl h
   ·exact .inr ⟨_,by simp only[frz,h1],h⟩
  | tup cs=>
   simp only[LH] at h;rcases Bb ih h with h|⟨ys,h1,h⟩
   ·exact .inl h
   ·exact .inr ⟨_,by simp only[frz,h1],h⟩
def Te(nx:Nat)(K:AV->aN->Nat->Prop)(r:AV)(m:aN)(n:Nat):Prop:=
 Eo nx m [] fun m1 rest=>LH 60 m1 r (fun r'=>K r' rest n) (K r m n)
theorem G9{nx:Nat}:∀{m acc:aN} {K:aN->aN->Prop},Eo nx m acc K->∃m0 rest,m=m0++rest/\K (m0.reverse++acc) rest
 | [],acc,K,h=>⟨[],[],rfl,h⟩
 | (i,b)::r,acc,K,h=>by
  simp only[Eo] at h;split at h
  ·obtain⟨m0,rest,h1,h2⟩:=G9 h;exact⟨(i,b)::m0,rest,by rw[h1];rfl,by simpa using h2⟩
  ·exact⟨[],(i,b)::r,rfl,h⟩
theorem MR.sub{Γ:List (Nat × AV)}{X:Nat->Prop}{ρ:Nat->cW}{D:Nat->Prop}{mem rest:aN}{w:World}(hm:MR Γ X ρ D mem w)(hs:∀p∈rest,p∈mem)(hn:(rest.map (·.1)).Nodup):MR Γ X ρ D rest w:=by
 have ho:∀b,¬OX X ρ mem b->¬OX X ρ rest b:=by
  rintro b h (h'|⟨p,hp,h1,h2⟩)
  ·exact h (.inl h')
  ·exact h (.inr ⟨p,hs p hp,h1,h2⟩)
 refine⟨fun p h=>hm.low p (hs p h),fun p h hn=>?_,fun p h=>hm.emp p (hs p h),fun p h q h'=>hm.inj p (hs p h) q (hs q h'),hn,fun b hb=>⟨(hm.bar b hb).1,fun⟨p,hp,h1,h2⟩=>(hm.bar b hb).2 ⟨p,hs p hp,h1,h2⟩⟩,fun p h=>(hm.glo p h).mono (fun _ _=>rfl) (fun _ h=>h) fun b _ h=>⟨ho b h,rfl⟩⟩;obtain⟨o,h1,h2⟩:=hm.blk p (hs p h) hn;exact⟨o,h1,h2.mono (fun _ _=>rfl) (fun _ h=>h) fun b _ h=>⟨ho b h,rfl⟩⟩
theorem LS{P:Program}{Γ:List (Nat × AV)}(hΓ:∀p∈Γ,NN p.2){F:FuncId}{args:List AV}{mem:aN}{nx:Nat}{K:AV->aN->Nat->Prop}{Kp:Value->aN->Nat->Prop}(h:fY P Γ F args mem nx (Te nx K) Kp):fY P Γ F args mem nx K Kp:=by
 refine⟨fun X D ρ w vs hD hm hv=>(h.run X D ρ w vs hD hm hv).mono ?_⟩;rintro e w' ⟨m',n',ρ',hn,hm',hext,hend⟩;rcases hend with⟨r,v,rfl,hq,hr⟩|⟨x,rfl,hq⟩
 ·obtain⟨m0,rest,rfl,hq⟩:=G9 hq;rw[Vn] at hq;rcases QD 60 r _ hq with hq|⟨r',h1,hq⟩
  ·exact⟨_,n',ρ',hn,hm',hext,.inl ⟨r,v,rfl,hq,hr⟩⟩
  ·have hnd:=hm'.nod;rw[VP,V7] at hnd;obtain⟨d1,d2,d3⟩:=hnd;have hp:u0 (m0++rest) m0.reverse rest:=⟨fun p h=>Ud _ (W7.1 h),fun p h=>U7 _ h,fun p h=>by
    rcases UI.1 h with h|h
    ·exact .inl (W7.2 h)
    ·exact .inr h,fun p h1 q h2=>d3 _ (US.2 ⟨p,W7.1 h1,rfl⟩) _ (US.2 ⟨q,h2,rfl⟩),by
    rw[List.map_reverse];exact List.pairwise_reverse.2 (d1.imp fun h=>Ne.symm h)⟩
   obtain⟨p1,pv⟩:=hm'.part hp;have hF:=nD (m:=m0.reverse) (σ:=[]) 60 r r' h1;obtain⟨-,v1,-⟩:=Cg (σ:=[]) (m':=[]) (n':=n') hΓ hD p1 (fun p hp=>by cases hp) Wy (fun i j k h=>by simp[lk] at h) (fun i j h=>by simp[lk] at h);have e:mF [] ρ' ρ'=ρ':=funext fun i=>zL (by rintro⟨j,h⟩;simp[lk] at h)
   have hv':=v1 r r' hF.cv v (pv _ _ hr);rw[e] at hv';refine⟨rest,n',ρ',hn,hm'.sub (fun p h=>U7 _ h) d2,⟨hext.le,hext.agree,hext.size,hext.keep,fun p h=>hext.fresh p (U7 _ h),hext.env⟩,.inl ⟨r',v,rfl,hq,hv'.mono (fun _ _=>rfl) (fun _ h=>h) fun b _ ho=>⟨fun h=>ho (.inl ?_),rfl⟩⟩⟩;exact h
 ·exact⟨m',n',ρ',hn,hm',hext,.inr ⟨x,rfl,hq⟩⟩
def SW:List (Nat × List AV × AV)->Nat->List AV->(AV->Prop)->Prop->Prop
 | [],_,_,_,N=>N
 | (G,as',r)::t,F,args,K,N=>match Nat.beq G F with
  | true=>match pF args as' with
   | true=>K r
   | false=>SW t F args K N
  | false=>SW t F args K N
def fX(P:Program)(Γ:List (Nat × AV))(tb:List (Nat × List AV × AV)):Prop:=∀e∈tb,aZ P Γ e.1 e.2.1 e.2.2/\kH e.2.1/\NN e.2.2
theorem Me{P:Program}{Γ:List (Nat × AV)}(hΓ:∀p∈Γ,NN p.2){F:Nat}{args:List AV}{mem:aN}{nx:Nat}{K:AV->aN->Nat->Prop}{N:Prop}:∀{tb:List (Nat × List AV × AV)},fX P Γ tb->SW tb F args (fun r=>K r mem nx) N->N∨aE P Γ F args mem nx K
 | [],_,h=>.inl h
 | (G,as',r)::t,ht,h=>by
  have h2:fX P Γ t:=fun e he=>ht e (UF _ he)
  simp only[SW] at h;split at h
  ·rename_i hG;split at h
   ·rename_i he;have e1:=T2 hG;have e2:=kP he;subst e1 e2;obtain⟨g1,g2,g3⟩:=ht _ (UN ..);exact .inr (g1.use hΓ g2 g3 h)
   ·exact Me hΓ h2 h
  ·exact Me hΓ h2 h
def mP(P:Program)(Γ:List (Nat × AV))(tb:List (Nat × List AV × AV))(dl pl:List Nat):Nat->Hk
 | 0=>{ call:=fun _ _ _ _ _ _=>False,loop:=fun _ _ _=>False }
 | n+1=>{
   call:=fun F args mem nx K Kp=>SW tb F args (fun r=>K r mem nx) (match Nat.beq F YF with
    | false=>match P.funcs[F]? with
     | some fn=>match fn.body with
      | some c=>match RN F dl with
       | false=>match RN F pl with
        | false=>zK fn.ntmps args mem nx fun s=>Ao true P Γ (mP P Γ tb dl pl n) c s (Ib P fn.results.toList K Kp)
        | true=>zK fn.ntmps args mem nx fun s=>Ao true P Γ (mP P Γ tb dl pl n) c s (Ib P fn.results.toList (Te nx K) Kp)
       | true=>zK fn.ntmps args mem nx fun s=>Ha true P Γ (mP P Γ tb dl pl n) c s (LR P Γ (mP P Γ tb dl pl n) fn.results.toList K Kp)
      | none=>False
     | none=>False
    | true=>False)
   loop:=fun c s Q=>Ao true P Γ (mP P Γ tb dl pl n) c s fun e s'=>match e with
    | .normal=>(mP P Γ tb dl pl n).loop c s' Q
    | e=>Q e s' }
theorem Eu(P:Program)(Γ:List (Nat × AV))(hΓ:∀p∈Γ,NN p.2){tb:List (Nat × List AV × AV)}(ht:fX P Γ tb)(dl pl:List Nat):∀n B,zY P Γ B (mP P Γ tb dl pl n) /\
  ∀c s Q,(mP P Γ tb dl pl n).loop c s Q->∀rd X ds D ρ a w,(∀i,D i->i<B)->SR Γ X ds ρ (dn D B s.nx) s a w->B<=s.nx->AN rd ds c ->
   Code.roundsIn (FW rd) 0 P c (fun e a' w'=>∃(s':St) (ρ':Nat->cW),Q e s'/\B<=s'.nx/\SR Γ X ds ρ' (dn D B s'.nx) s' a' w'/\Ext D ρ s.mem w ρ' (dn D B s'.nx) s'.mem w') n a w:=by
 intro n
 induction n with
 | zero=>exact fun B=>⟨⟨fun _ _ _ _ _ _ h=>h.elim,fun _ _ _ h=>h.elim⟩,fun _ _ _ h=>h.elim⟩
 | succ n ih=>
  intro B;have hr:∀c s Q,(mP P Γ tb dl pl (n+1)).loop c s Q->∀rd X ds D ρ a w,(∀i,D i->i<B)->SR Γ X ds ρ (dn D B s.nx) s a w->B<=s.nx->AN rd ds c ->
    Code.roundsIn (FW rd) 0 P c (fun e a' w'=>∃(s':St) (ρ':Nat->cW),Q e s'/\B<=s'.nx/\SR Γ X ds ρ' (dn D B s'.nx) s' a' w'/\Ext D ρ s.mem w ρ' (dn D B s'.nx) s'.mem w') (n+1) a w:=by
   intro c s Q h rd X ds D ρ a w hD hs hB hno;have h':=(eY (ih B).1 c s _ h).run rd X ds D ρ a w hD hs hB hno;rw[roundsIn_succ];refine wpIn_mono h' ?_;rintro e a1 w1 ⟨s1,ρ1,hq,hB1,hs1,hext⟩;cases e with
   | normal=>
    have key:=(ih B).2 c s1 Q hq rd X ds D ρ1 a1 w1 hD hs1 hB1 hno;refine AR n a1 w1 _ _ ?_ key;rintro e a2 w2 ⟨s2,ρ2,h1,h2,h3,h4⟩;exact⟨s2,ρ2,h1,h2,h3,hext.trans h4⟩
   | exit id=>exact⟨s1,ρ1,hq,hB1,hs1,hext⟩
   | goto l=>exact⟨s1,ρ1,hq,hB1,hs1,hext⟩
   | ret=>exact⟨s1,ρ1,hq,hB1,hs1,hext⟩
   | panic ch=>exact⟨s1,ρ1,hq,hB1,hs1,hext⟩
   | outgrown=>exact⟨s1,ρ1,hq,hB1,hs1,hext⟩
  refine⟨⟨fun F args mem nx K Kp h=>?_,fun c s Q h=>⟨fun rd X ds D ρ a w hD hs hB hno=>wpIn_loop_rounds (n+1) (hr c s Q h rd X ds D ρ a w hD hs hB hno.loop)⟩⟩,hr⟩;simp only[mP] at h;rcases Me (K:=K) hΓ ht h with h'|h'
  rotate_left
  ·exact h'.toP
  clear h;have h:=h';clear h';split at h
  ·rename_i hF;split at h
   ·rename_i fn hf;split at h
    ·rename_i c hc;split at h
     ·split at h
      ·exact rS hf hc ((eY (ih nx).1 _ _ _ (nQ h)).mono fun _ _ h=>IY h) hF
      ·exact LS hΓ (rS hf hc ((eY (ih nx).1 _ _ _ (nQ h)).mono fun _ _ h=>IY h) hF)
     ·exact Aq hf hc (HZ (fun B=>(ih B).1) nx _ _ _ (nQ h)) hF
    ·exact h.elim
   ·exact h.elim
  ·exact h.elim
theorem Ba{P:Program}{Γ:List (Nat × AV)}(hΓ:∀p∈Γ,NN p.2){tb:List (Nat × List AV × AV)}(ht:fX P Γ tb){F:FuncId}{args:List AV}{mem:aN}{nx:Nat}{Q:AV->aN->Nat->Prop}(dl pl:List Nat)(n:Nat)(h:(mP P Γ tb dl pl n).call F args mem nx Q fun _ _ _=>False):aE P Γ F args mem nx Q:=
 ((Eu P Γ hΓ ht dl pl n nx).1.call F args mem nx Q _ h).toC fun _ _ _ h=>h
theorem cU{P:Program}{Γ:List (Nat × AV)}{F:FuncId}{args:List AV}{mem:aN}{nx:Nat}{want:AV}(hΓ:∀p∈Γ,NN p.2){tb:List (Nat × List AV × AV)}(ht:fX P Γ tb)(dl pl:List Nat)(n:Nat)
  (hc:(rG (P4 mem) && (rF mem && (uY nx nx (P4 mem) && Nat.ble nx nx)))=true)
  (h:((mP P Γ tb dl pl n).call F args mem nx (fun r m _=>Ti mem want r m) fun _ _ _=>False)=True):aE P Γ F args mem nx fun r m k=>r=want/\m=mem/\k=nx:=by
 refine aE.turn hΓ ((Ba hΓ ht dl pl n (by rw[h];trivial)).mono fun r m k hk=>?_);unfold Ti at hk;split at hk
 ·rename_i hb;unfold Tc at hb;split at hb
  ·rename_i v hv;split at hb
   ·rename_i he;have e:=wZ he;subst e;have hn:(mem.map (·.1)).Nodup:=by
     simp only[Tz] at hc;exact fE hc.2.1
    exact bJ (P4 mem) hc (AJ _ hb (N9 hn)) (nD 30 r v hv).cv ⟨rfl,rfl,rfl⟩
   ·cases hb
  ·cases hb
 ·exact hk.elim
theorem fX.nil{P:Program}{Γ:List (Nat × AV)}:fX P Γ []:=fun e h=>by cases h
theorem fX.cons{P:Program}{Γ:List (Nat × AV)}{F:Nat}{xs:List AV}{r:AV}{t:List (Nat × List AV × AV)}(h:aZ P Γ F xs r)(h1:zB (frz 30 [] []) xs=some xs)(h2:frz 30 [] [] r=some r)(ht:fX P Γ t):fX P Γ ((F,xs,r)::t):=by
 intro e he;rcases T6.1 he with rfl|he
 ·obtain⟨g1,g2⟩:=jU (m:=[]) (σ:=[]) (nD 30) h1;exact⟨h,tI g1 g2,(nD (m:=[]) (σ:=[]) 30 r r h2).nn⟩
 ·exact ht e he
end Go.Ax
