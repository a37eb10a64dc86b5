/- A part of the proof. -/
import Derived.Test.YthempfhilcmfnaaGreatAx10
set_option linter.unusedVariables false
set_option linter.unusedSimpArgs false
namespace Go.Ax
open Go
section
variable {P:Program} {Γ:List (Nat × AV)} {B:Nat}
theorem bO.use{F:FuncId}{asz args:List AV}{ms mem m1 rest:aS}{ns nx:Nat}{Qs K:AV->aS->Nat->Prop}{Qsp Kp:Value->aS->Nat->Prop}(hΓ:∀p∈Γ,NN p.2)(h:bO P Γ F asz ms ns Qs Qsp)(σ:List (Nat × Nat))
  (hp:uT mem m1 rest) (hrest:(rest.map (·.1)).Nodup) (hargs:iL m1 σ args asz) (hM:LC m1 σ ms) (hnod:(ms.map (·.1)).Nodup) (hinj:Gi σ) (hlt:∀id i,lk σ id=some i->i<ns)
  (hk:∀r m n,Qs r m n->ns<=n->∃τ r' m' n',nx<=n'/\Cv m τ r r'/\LC m τ m'/\(m'.map (·.1)).Nodup/\Gi τ/\(∀i id,lk τ i=some id->(i<ns/\lk σ id=some i)∨(ns<=i/\nx<=id/\id<n')) /\
   (∀p∈m',∀q∈rest,p.1≠q.1)/\K r' (m'++rest) n')
  (hkp:∀x m n,Qsp x m n->ns<=n->∃τ m' n',nx<=n'/\LC m τ m'/\(m'.map (·.1)).Nodup/\Gi τ/\(∀i id,lk τ i=some id->(i<ns/\lk σ id=some i)∨(ns<=i/\nx<=id/\id<n')) /\
   (∀p∈m',∀q∈rest,p.1≠q.1)/\Kp x (m'++rest) n'):bO P Γ F args mem nx K Kp:=by
 refine⟨fun X D ρ w vs hD hm hv=>?_⟩;obtain⟨p1,pv⟩:=hm.part hp;have hσ:∀id i,lk σ id=some i->D id->(∃id,lk σ id=some i/\D id)/\jD σ ρ ρ i=ρ id:=fun id i h1 h2=>⟨⟨id,h1,h2⟩,jC hinj h1⟩
 obtain⟨s1,sv,so⟩:=p1.turn (D':=fun i=>∃id,lk σ id=some i/\D id) hΓ hσ hM hnod hinj;have hvs:jA (jD σ ρ ρ) (fun i=>∃id,lk σ id=some i/\D id) (OX (XR X ρ rest) (jD σ ρ ρ) ms) w asz vs:=
  ⟨by rw[←hargs.1];exact hv.1,fun j c' x hc' hx=>by
   obtain⟨c,hc⟩:=cX hargs.1 hc';exact sv c c' (hargs.2 j c c' hc hc') _ (pv _ _ (hv.2 j c x hc hx))⟩
 refine(h.run _ _ _ w vs (fun i ⟨id,h1,_⟩=>hlt id i h1) s1 hvs).mono ?_;rintro e w' ⟨m,n,ρs,hn,r1,ext,hres⟩;have main:∀(τ:List (Nat × Nat)) (m':aS) (n':Nat),nx<=n'->LC m τ m'->(m'.map (·.1)).Nodup->Gi τ->(∀i id,lk τ i=some id->(i<ns/\lk σ id=some i)∨(ns<=i/\nx<=id/\id<n'))->(∀p∈m',∀q∈rest,p.1≠q.1) ->
   ∃ρ',MR Γ X ρ' (dn D nx n') (m'++rest) w'/\Ext D ρ mem w ρ' (dn D nx n') (m'++rest) w'/\∀r r',Cv m τ r r'->∀x,VR ρs (dn (fun i=>∃id,lk σ id=some i/\D id) ns n) (OX (XR X ρ rest) ρs m) w' r x->VR ρ' (dn D nx n') (OX X ρ' (m'++rest)) w' r' x:=by
  intro τ m' n' hn' t2 t3 t4 t5 t6;have hτ:∀i id,lk τ i=some id->dn (fun i=>∃id,lk σ id=some i/\D id) ns n i->dn D nx n' id/\jD τ ρs ρ id=ρs i:=by
   intro i id h1 h2;refine⟨?_,jC t4 h1⟩;rcases t5 i id h1 with⟨h3,h4⟩|⟨h3,h4,h5⟩
   ·rcases h2 with⟨id0,h5,h6⟩|⟨h5,_⟩
    ·rw[hinj id id0 i h4 h5];exact .inl h6
    ·omega
   ·exact .inr ⟨h4,h5⟩
  obtain⟨u1,uv,uo⟩:=r1.turn hΓ hτ t2 t3 t4;have hext:Ext D ρ m1 w (jD τ ρs ρ) (dn D nx n') m' w':=by
   refine⟨fun i hi=>.inl hi,fun id hid=>?_,ext.size,fun b hb ho=>?_,fun p hp' hpn=>?_,ext.env⟩
   ·by_cases hex:∃i,lk τ i=some id
    ·obtain⟨i,hi⟩:=hex;rw[jC t4 hi];rcases t5 i id hi with⟨h3,h4⟩|⟨h3,h4,h5⟩
     ·rw[ext.agree i ⟨id,h4,hid⟩,jC hinj h4]
     ·have:=hD id hid;omega
    ·exact y5 hex
   ·refine ext.keep b hb fun⟨p,hp',hpn,e⟩=>ho ?_
    rw[←e];exact so p hp' hpn
   ·obtain⟨q,hq',hqn,e⟩:=uo p hp' hpn;rw[←e];rcases ext.fresh q hq' hqn with⟨q',hq1,hq2,e'⟩|h1
    ·rw[←e'];exact .inl (so q' hq1 hq2)
    ·exact .inr h1
  obtain⟨j1,j2,j3,j4⟩:=MR.join (D':=dn D nx n') hm hp u1 hext (fun p hp=>hp) t6 hrest;exact⟨_,j1,j4 D fun i hi=>hi,fun r r' hc x hx=>j2 _ _ (uv r r' hc _ hx)⟩
 rcases hres with⟨r,v,rfl,hq,rv⟩|⟨x,rfl,hq⟩
 ·obtain⟨τ,r',m',n',hn',t1,t2,t3,t4,t5,t6,hK⟩:=hk r m n hq hn;obtain⟨ρ',k1,k2,k3⟩:=main τ m' n' hn' t2 t3 t4 t5 t6;exact⟨_,n',ρ',hn',k1,k2,.inl ⟨r',v,rfl,hK,k3 r r' t1 _ rv⟩⟩
 ·obtain⟨τ,m',n',hn',t2,t3,t4,t5,t6,hK⟩:=hkp x m n hq hn;obtain⟨ρ',k1,k2,k3⟩:=main τ m' n' hn' t2 t3 t4 t5 t6;exact⟨_,n',ρ',hn',k1,k2,.inr ⟨x,rfl,hK⟩⟩
theorem bO.useI{P:Program}{Γ:List (Nat × AV)}{F:FuncId}{args args':List AV}{ms mem:aS}{ns nx:Nat}{Qs K:AV->aS->Nat->Prop}{Qsp Kp:Value->aS->Nat->Prop}(hΓ:∀p∈Γ,NN p.2)(ids:List Nat)(h:bO P Γ F args' ms ns Qs Qsp)
  (hp:jE ids mem=ms) (hargs:iL ms (nD ids) args args') (hM:cH ms (nD ids) ms) (hc:(iK ms && Fl ns ids)=true)
  (hk:∀r m n,Qs r m n->NN r/\cH m (nD ids) m/\(iK m && vE ids m)=true/\K r (m++eT ids mem) nx)
  (hkp:∀x m n,Qsp x m n->cH m (nD ids) m/\(iK m && vE ids m)=true/\Kp x (m++eT ids mem) nx):bO P Γ F args mem nx K Kp:=by
 simp only[Rr] at hc;refine⟨fun X D ρ w vs hD hm hv=>?_⟩;have hinj:Gi (nD ids):=fun i j k h1 h2=>by
  have a:=(o6 h1).1;have b:=(o6 h2).1;omega
 refine(bO.use (K:=K) (Kp:=Kp) (nx:=nx) hΓ h (nD ids) (m1:=ms) (rest:=eT ids mem) ⟨fun p hp'=>?_,fun p hp'=>(cK.1 hp').1,fun p hp'=>?_,fun p h1 q h2=>?_, ?_⟩ ?_ hargs hM.cvm (dH hc.1) hinj (fun id i hl=>?_) ?_ ?_).run X D ρ w vs hD hm hv
 ·rw[←hp] at hp';exact(dO.1 hp').1
 ·cases hi:zO p.1 ids with
  | true=>left;rw[←hp];exact dO.2 ⟨hp',hi⟩
  | false=>right;exact cK.2 ⟨hp',hi⟩
 ·rw[←hp] at h1;have a:=(dO.1 h1).2;have b:=(cK.1 h2).2;intro e;rw[e,b] at a;cases a
 ·rw[←hp];exact hm.nod.sublist ((kN mem).map _)
 ·exact hm.nod.sublist ((kI mem).map _)
 ·obtain⟨h1,h2⟩:=o6 hl;rw[←h1];exact kC hc.2 h2
 ·intro r m n hq hn;obtain⟨h1,h2,h3,h4⟩:=hk r m n hq;simp only[Rr] at h3;refine⟨nD ids,r,m,nx,R2 _,.same r h1,h2.cvm,dH h3.1,hinj,fun i id hl=>?_,fun p h5 q h6=>?_,h4⟩
  ·obtain⟨e1,e2⟩:=o6 hl;subst e1;exact .inl ⟨kC hc.2 e2,Eg e2⟩
  ·have a:=k6 h3.2 p h5;have b:=(cK.1 h6).2;intro e;rw[e,b] at a;cases a
 ·intro x m n hq hn;obtain⟨h2,h3,h4⟩:=hkp x m n hq;simp only[Rr] at h3;refine⟨nD ids,m,nx,R2 _,h2.cvm,dH h3.1,hinj,fun i id hl=>?_,fun p h5 q h6=>?_,h4⟩
  ·obtain⟨e1,e2⟩:=o6 hl;subst e1;exact .inl ⟨kC hc.2 e2,Eg e2⟩
  ·have a:=k6 h3.2 p h5;have b:=(cK.1 h6).2;intro e;rw[e,b] at a;cases a
def IJ(B:Nat)(Qp:Value->aS->Nat->Prop)(x:Value)(m:aS)(n:Nat):Prop:=lE B (fun _ m n=>Qp x m n) .junk m n
theorem bO.turn{F:FuncId}{args:List AV}{mem:aS}{nx:Nat}{Q:AV->aS->Nat->Prop}{Qp:Value->aS->Nat->Prop}(hΓ:∀p∈Γ,NN p.2)(h:bO P Γ F args mem nx (lE nx Q) (IJ nx Qp)):bO P Γ F args mem nx Q Qp:=by
 refine⟨fun X D ρ w vs hD hm hv=>(h.run X D ρ w vs hD hm hv).mono ?_⟩;rintro e w' ⟨m,n,ρ',h3,h4,h6,(⟨r,v,h1,⟨σ,r',m',n',hc,hq⟩,h5⟩|⟨x,h1,⟨σ,r',m',n',hc,hq⟩⟩)⟩
 ·obtain⟨m1,v1,e1⟩:=yE hΓ hD h4 hc.mem hc.nod hc.inj hc.old;exact⟨m',n',_,hc.nx,m1,h6.trans e1,.inl ⟨r',v,h1,hq,v1 r r' hc.res _ h5⟩⟩
 ·obtain⟨m1,v1,e1⟩:=yE hΓ hD h4 hc.mem hc.nod hc.inj hc.old;exact⟨m',n',_,hc.nx,m1,h6.trans e1,.inr ⟨x,h1,hq⟩⟩
structure n4(P:Program)(Γ:List (Nat × AV))(B:Nat)(ops l:List Oper)(s:St)(K:St->Prop)(Kp:Value->St->Prop):Prop where
 run:uL P Γ (ES P Γ B) ops l s K Kp
def Jl(P:Program)(Γ:List (Nat × AV))(B:Nat)(ops:List Oper)(K:St->Prop)(Kp:Value->St->Prop)(next:List Oper->St->Prop)(l:List Oper)(s:St):Prop:=
 match l with
 | []=>K s
 | o::r=>CJ s fun sl mem nx nt=>rC ops sl o.guard
   (Fx false P Γ (ES P Γ B) sl mem nx o.op (fun v mem nx=>kO s o.dst v mem nx fun s'=>next r s') fun x mem nx=>Kp x ⟨sl,mem,nx,nt⟩)
   (kO s o.dst (.tup []) mem nx fun s'=>next r s')
theorem yA{ops:List Oper}{K:St->Prop}{Kp:Value->St->Prop}{next:List Oper->St->Prop}(hn:∀r s,next r s->n4 P Γ B ops r s K Kp){l:List Oper}{s:St}(h:Jl P Γ B ops K Kp next l s):n4 P Γ B ops l s K Kp:=by
 refine⟨?_⟩;cases l with
 | nil=>exact h
 | cons o r=>
  have h:rC ops s.sl o.guard (Fx false P Γ (ES P Γ B) s.sl s.mem s.nx o.op (fun v mem nx=>kO s o.dst v mem nx fun s'=>next r s') fun x mem nx=>Kp x ⟨s.sl,mem,nx,s.nt⟩) (kO s o.dst (.tup []) s.mem s.nx fun s'=>next r s'):=h;simp only[uL];rcases rA h with⟨h1,h⟩|⟨h1,h⟩
  ·simp only[h1];rcases IZ h with⟨v,m,n,h2,h⟩|⟨h2,F,l,h3,h⟩|⟨h2,h3,y,h4,h⟩
   ·obtain⟨s',h4,h⟩:=d8 h;simp only[h2,h4];exact(hn _ _ h).run
   ·simp only[h2,h3];refine(show bO P Γ F l s.mem s.nx _ _ from h).mono (fun v m n h=>?_) fun x m n h=>h
    obtain⟨s',h4,h⟩:=d8 h;simp only[h4];exact(hn _ _ h).run
   ·simp only[h2,h3,h4];exact h
  ·obtain⟨s',h4,h⟩:=d8 h;simp only[h1,h4];exact(hn _ _ h).run
def QD(P:Program)(Γ:List (Nat × AV))(B:Nat)(ops:List Oper)(K:St->Prop)(Kp:Value->St->Prop)(l:List Oper)(s:St):Prop:=n4 P Γ B ops l s K Kp
theorem NH{ops:List Oper}{K:St->Prop}{Kp:Value->St->Prop}(l:List Oper)(s:St)(h:QD P Γ B ops K Kp l s):n4 P Γ B ops l s K Kp:=h
def QU(P:Program)(Γ:List (Nat × AV))(B:Nat)(ops:List Oper)(K:St->Prop)(Kp:Value->St->Prop)(l:List Oper)(s:St):Prop:=Jl P Γ B ops K Kp (QD P Γ B ops K Kp) l s
theorem NA{ops:List Oper}{K:St->Prop}{Kp:Value->St->Prop}(l:List Oper)(s:St)(h:QU P Γ B ops K Kp l s):n4 P Γ B ops l s K Kp:=yA NH h
def Qf(P:Program)(Γ:List (Nat × AV))(B:Nat)(ops:List Oper)(K:St->Prop)(Kp:Value->St->Prop)(l:List Oper)(s:St):Prop:=Jl P Γ B ops K Kp (QU P Γ B ops K Kp) l s
theorem My{ops:List Oper}{K:St->Prop}{Kp:Value->St->Prop}(l:List Oper)(s:St)(h:Qf P Γ B ops K Kp l s):n4 P Γ B ops l s K Kp:=yA NA h
def Qv(P:Program)(Γ:List (Nat × AV))(B:Nat)(ops:List Oper)(K:St->Prop)(Kp:Value->St->Prop)(l:List Oper)(s:St):Prop:=Jl P Γ B ops K Kp (Qf P Γ B ops K Kp) l s
theorem M1{ops:List Oper}{K:St->Prop}{Kp:Value->St->Prop}(l:List Oper)(s:St)(h:Qv P Γ B ops K Kp l s):n4 P Γ B ops l s K Kp:=yA My h
def Qc(P:Program)(Γ:List (Nat × AV))(B:Nat)(ops:List Oper)(K:St->Prop)(Kp:Value->St->Prop)(l:List Oper)(s:St):Prop:=Jl P Γ B ops K Kp (Qv P Γ B ops K Kp) l s
theorem MZ{ops:List Oper}{K:St->Prop}{Kp:Value->St->Prop}(l:List Oper)(s:St)(h:Qc P Γ B ops K Kp l s):n4 P Γ B ops l s K Kp:=yA M1 h
def PL(P:Program)(Γ:List (Nat × AV))(B:Nat)(ops:List Oper)(K:St->Prop)(Kp:Value->St->Prop)(l:List Oper)(s:St):Prop:=Jl P Γ B ops K Kp (Qc P Γ B ops K Kp) l s
theorem NV{ops:List Oper}{K:St->Prop}{Kp:Value->St->Prop}(l:List Oper)(s:St)(h:PL P Γ B ops K Kp l s):n4 P Γ B ops l s K Kp:=yA MZ h
theorem n4.many{ops l:List Oper}{s:St}{K:St->Prop}{Kp:Value->St->Prop}(h:PL P Γ B ops K Kp l s):n4 P Γ B ops l s K Kp:=NV l s h
structure AW(P:Program)(Γ:List (Nat × AV))(B:Nat)(ops:List Oper)(tr:List (List Nat))(base:Nat)(K:St->Prop)(Kp:Value->aS->Nat->Prop)(l:List Nat)(recs:List yV)(s:St):Prop where
 run:oJ P Γ (ES P Γ B) ops tr base K Kp l recs s
def OL(P:Program)(Γ:List (Nat × AV))(B:Nat)(ops:List Oper)(tr:List (List Nat))(base:Nat)(K:St->Prop)(Kp:Value->aS->Nat->Prop)(l:List Nat)(recs:List yV)(s:St):Prop:=
 match l with
 | []=>K s
 | i::r=>match ops[i]? with
  | none=>False
  | some o=>CJ s fun sl mem nx nt=>rC ops sl o.guard
   (match kind P o.op with
    | .pure=>match still o.op with
     | true=>oU false P Γ sl [] nx o.op fun v _ _=>kO s o.dst v mem nx fun s'=>AW P Γ B ops tr base K Kp r (⟨i,sl,true,v⟩::recs) s'
     | false=>fT (fun p=>GZ tr base ops.length i p.1) mem fun m=>oU false P Γ sl m nx o.op fun v _ _=>kO s o.dst v mem nx fun s'=>AW P Γ B ops tr base K Kp r (⟨i,sl,true,v⟩::recs) s'
    | .al=>nQ (base+i) fun id=>oU false P Γ sl [] id o.op fun v m _=>match m with
     | [(_,b)]=>kO s o.dst v ((id,b)::mem) nx fun s'=>AW P Γ B ops tr base K Kp r (⟨i,sl,true,v⟩::recs) s'
     | _=>False
    | .eff=>fT (fun p=>GZ tr base ops.length i p.1) mem fun m=>CU false P Γ (ES P Γ B) sl m nx o.op (fun v m nx'=>fT (fun p=>!GZ tr base ops.length i p.1) mem fun rest=>fT (fun p=>!p7 p.1 m) rest fun rest=>AQ m rest fun m=>
      kO s o.dst v m nx' fun s'=>q9 false P Γ ops tr base i m nx' recs (AW P Γ B ops tr base K Kp r recs s')) Kp)
   (kO s o.dst (.tup []) mem nx fun s'=>AW P Γ B ops tr base K Kp r (⟨i,sl,false,.tup []⟩::recs) s')
theorem AW.go{ops:List Oper}{tr:List (List Nat)}{base:Nat}{K:St->Prop}{Kp:Value->aS->Nat->Prop}{l:List Nat}{recs:List yV}{s:St}(h:OL P Γ B ops tr base K Kp l recs s):AW P Γ B ops tr base K Kp l recs s:=by
 refine⟨?_⟩;cases l with
 | nil=>exact h
 | cons i r=>
  simp only[OL] at h;simp only[oJ];split at h
  ·exact h.elim
  ·rename_i o ho;simp only[ho];have h:=kZ.1 h;rcases rA h with⟨h1,h⟩|⟨h1,h⟩
   ·simp only[h1];split at h
    ·rename_i hkd;simp only[hkd];split at h
     ·rename_i hst;obtain⟨v,m,n,h2,h⟩:=jO (s:={ sl:=s.sl,mem:=[],nx:=s.nx,nt:=s.nt }) h;obtain⟨m',n',h2'⟩:=oN (s:={ sl:=s.sl,mem:=[],nx:=s.nx,nt:=s.nt }) (s':={ s with mem:=iR tr base ops.length i s.mem }) hst rfl h2;obtain⟨s',h3,h⟩:=d8 h;simp only[h2',h3];exact h.run
     ·have h:=cG.1 h;obtain⟨v,m,n,h2,h⟩:=jO (s:={ s with mem:=iR tr base ops.length i s.mem }) h;obtain⟨s',h3,h⟩:=d8 h;simp only[h2,h3];exact h.run
    ·rename_i hkd;simp only[hkd];have h:=dV.1 h;obtain⟨v,m,n,h2,h⟩:=jO (s:={ s with mem:=[],nx:=base+i }) h;simp only[h2];split at h
     ·obtain⟨s',h3,h⟩:=d8 h;simp only[h3];exact h.run
     ·exact h.elim
    ·rename_i hkd;simp only[hkd];have h:=cG.1 h;rcases y8 (s:={ s with mem:=iR tr base ops.length i s.mem }) h with⟨v,m,n,h2,h⟩|⟨h2,F,l,h3,h⟩
     ·simp only[h2];have h:=gP.1 (cG.1 (cG.1 h));obtain⟨s',h3,h⟩:=d8 h;have h3:eI s o.dst v (m++oW m (fG tr base ops.length i s.mem)) n=some s':=h3;simp only[h3];obtain⟨e1,e2,_⟩:=fH h3;have h:q9 false P Γ ops tr base i (m++oW m (fG tr base ops.length i s.mem)) n recs (AW P Γ B ops tr base K Kp r recs s'):=h;rw[←e1,←e2] at h;obtain⟨h4,h⟩:=mT h;exact⟨h4,h.run⟩
     ·rw[oQ (s':=s) (fun x _=>by cases x<;>rfl)] at h3;simp only[h2,h3];refine(show bO P Γ F l _ _ _ _ from h).mono (fun v m n h=>?_) fun x m n h=>h
      have h:=gP.1 (cG.1 (cG.1 h));obtain⟨s',h3,h⟩:=d8 h;have h3:eI s o.dst v (m++oW m (fG tr base ops.length i s.mem)) n=some s':=h3;simp only[h3];obtain⟨e1,e2,_⟩:=fH h3;have h:q9 false P Γ ops tr base i (m++oW m (fG tr base ops.length i s.mem)) n recs (AW P Γ B ops tr base K Kp r recs s'):=h;rw[←e1,←e2] at h;obtain⟨h4,h⟩:=mT h;exact⟨h4,h.run⟩
   ·obtain⟨s',h3,h⟩:=d8 h;simp only[h1,h3];exact h.run
def LA(P:Program)(Γ:List (Nat × AV))(B:Nat)(ops:List Oper)(s:St)(Q:Exit->St->Prop):Prop:=
 match P.follows .mixedOrders with
 | true=>match yX P ops (sS P ops ops.length [] (vQ ops.length)) with
  | true=>CJ s fun sl mem nx nt=>nQ (nx+ops.length) fun n=>x7 (sS P ops ops.length [] (vQ ops.length)) fun ord=>AW P Γ B ops (Id ops []) nx (fun s'=>Q .normal s') (fun x m n=>Q (.panic [pe x]) ⟨sD ops sl,m,n,nt⟩) ord [] ⟨sl,mem,n,nt⟩
  | false=>False
 | false=>False
def QE(P:Program)(Γ:List (Nat × AV))(B:Nat)(c:Code)(s:St)(Q:Exit->St->Prop):Prop:=
 match c with
 | .region _ ops draw=>match draw with
  | false=>n4 P Γ B ops.toList ops.toList s (fun s'=>Q .normal s') fun x s'=>Q (.panic [pe x]) s'
  | true=>LA P Γ B ops.toList s Q
 | c=>PK P Γ B c s Q
theorem eA.goP{c:Code}{s:St}{Q:Exit->St->Prop}(h:QE P Γ B c s Q):eA P Γ B c s Q:=by
 cases c with
 | region id ops draw=>
  cases draw with
  | false=>exact pQ Dy (.region id ops false) s Q (show n4 P Γ B ops.toList ops.toList s _ _ from h).run
  | true=>
   refine pQ Dy (.region id ops true) s Q ?_;have h:LA P Γ B ops.toList s Q:=h;unfold LA at h;simp only[B6];split at h
   ·rename_i hmix;simp only[hmix];split at h
    ·rename_i hok;simp only[DI,hok];exact(lS.1 (dV.1 (kZ.1 h))).run
    ·exact h.elim
   ·exact h.elim
 | _=>exact eA.go h
def Hm(P:Program)(Γ:List (Nat × AV))(B:Nat)(next:Code->St->(Exit->St->Prop)->Prop)(c:Code)(s:St)(Q:Exit->St->Prop):Prop:=
 match c with
 | .seq x y=>next x s (HV P Γ B y Q)
 | .block id c=>next c s (AT id Q)
 | c=>QE P Γ B c s Q
theorem uK{next:Code->St->(Exit->St->Prop)->Prop}(hn:∀c s Q,next c s Q->eA P Γ B c s Q){c:Code}{s:St}{Q:Exit->St->Prop}(h:Hm P Γ B next c s Q):eA P Γ B c s Q:=by
 cases c with
 | seq x y=>exact eA.go (show PK P Γ B (.seq x y) s Q from hn _ _ _ h)
 | block id c=>exact eA.go (show PK P Γ B (.block id c) s Q from hn _ _ _ h)
 | _=>exact eA.goP h
def Q6(P:Program)(Γ:List (Nat × AV))(B:Nat)(c:Code)(s:St)(Q:Exit->St->Prop):Prop:=eA P Γ B c s Q
theorem NE(c:Code)(s:St)(Q:Exit->St->Prop)(h:Q6 P Γ B c s Q):eA P Γ B c s Q:=h
def Po(P:Program)(Γ:List (Nat × AV))(B:Nat)(c:Code)(s:St)(Q:Exit->St->Prop):Prop:=Hm P Γ B (Q6 P Γ B) c s Q
theorem NI(c:Code)(s:St)(Q:Exit->St->Prop)(h:Po P Γ B c s Q):eA P Γ B c s Q:=uK NE h
def QW(P:Program)(Γ:List (Nat × AV))(B:Nat)(c:Code)(s:St)(Q:Exit->St->Prop):Prop:=Hm P Γ B (Po P Γ B) c s Q
theorem M3(c:Code)(s:St)(Q:Exit->St->Prop)(h:QW P Γ B c s Q):eA P Γ B c s Q:=uK NI h
def P2(P:Program)(Γ:List (Nat × AV))(B:Nat)(c:Code)(s:St)(Q:Exit->St->Prop):Prop:=Hm P Γ B (QW P Γ B) c s Q
theorem NJ(c:Code)(s:St)(Q:Exit->St->Prop)(h:P2 P Γ B c s Q):eA P Γ B c s Q:=uK M3 h
def Pl(P:Program)(Γ:List (Nat × AV))(B:Nat)(c:Code)(s:St)(Q:Exit->St->Prop):Prop:=Hm P Γ B (P2 P Γ B) c s Q
theorem MV(c:Code)(s:St)(Q:Exit->St->Prop)(h:Pl P Γ B c s Q):eA P Γ B c s Q:=uK NJ h
def Qy(P:Program)(Γ:List (Nat × AV))(B:Nat)(c:Code)(s:St)(Q:Exit->St->Prop):Prop:=Hm P Γ B (Pl P Γ B) c s Q
theorem Nf(c:Code)(s:St)(Q:Exit->St->Prop)(h:Qy P Γ B c s Q):eA P Γ B c s Q:=uK MV h
def PR(P:Program)(Γ:List (Nat × AV))(B:Nat)(c:Code)(s:St)(Q:Exit->St->Prop):Prop:=Hm P Γ B (Qy P Γ B) c s Q
theorem MY(c:Code)(s:St)(Q:Exit->St->Prop)(h:PR P Γ B c s Q):eA P Γ B c s Q:=uK Nf h
theorem eA.manyP{c:Code}{s:St}{Q:Exit->St->Prop}(h:PR P Γ B c s Q):eA P Γ B c s Q:=MY c s Q h
class YG(p:Prop)(q:outParam Prop):Prop where
 h:q->p
instance{c:Code}{s:St}{Q:Exit->St->Prop}:YG (eA P Γ B c s Q) (PR P Γ B c s Q):=⟨eA.manyP⟩
instance{ops l:List Oper}{s:St}{K:St->Prop}{Kp:Value->St->Prop}:YG (n4 P Γ B ops l s K Kp) (PL P Γ B ops K Kp l s):=⟨n4.many⟩
instance{ops:List Oper}{tr:List (List Nat)}{base:Nat}{K:St->Prop}{Kp:Value->aS->Nat->Prop}{l:List Nat}{recs:List yV}{s:St}:YG (AW P Γ B ops tr base K Kp l recs s) (OL P Γ B ops tr base K Kp l recs s):=⟨AW.go⟩
theorem Yg{p q:Prop}[i:YG p q](x:q):p:=i.h x
theorem Aq{F:FuncId}{fn:Func}{c:Code}{args:List AV}{mem:aS}{nx:Nat}{Q:AV->aS->Nat->Prop}{Qp:Value->aS->Nat->Prop}(hΓ:∀p∈Γ,NN p.2)(hf:P.funcs[F]? = some fn)(hb:fn.body=some c)
  (h:vX fn.ntmps args mem nx fun s=>eA P Γ nx c s (H9 P fn.results.toList (lE nx Q) (IJ nx Qp))) (hF:Nat.beq F YF=false:=by rfl):bO P Γ F args mem nx Q Qp:=
 (rZ hf hb ((lO h).mono fun _ _ h=>H4 h) hF).turn hΓ
end
end Go.Ax
