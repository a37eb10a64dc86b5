/- A part of the proof. -/
import Derived.Test.YtioogodkiglceaaGreatDoorAx10
set_option linter.unusedVariables false
set_option linter.unusedSimpArgs false
set_option linter.unusedSectionVars false
namespace Go.Ax
open Go
section
variable {P:Program} {Γ:List (Nat × AV)} {B:Nat}
theorem bP.use{F:FuncId}{asz args:List AV}{ms mem m1 rest:aP}{ns nx:Nat}{Qs K:AV->aP->Nat->Prop}{Qsp Kp:Value->aP->Nat->Prop}(hΓ:∀p∈Γ,NN p.2)(h:bP P Γ F asz ms ns Qs Qsp)(σ:List (Nat × Nat))
  (hp:tU mem m1 rest) (hrest:(rest.map (·.1)).Nodup) (hargs:kU m1 σ args asz) (hM:M6 m1 σ ms) (hnod:(ms.map (·.1)).Nodup) (hinj:JI σ) (hlt:∀id i,lk σ id=some i->i<ns)
  (hk:∀r m n,Qs r m n->ns<=n->∃τ r' m' n',nx<=n'/\Cv m τ r r'/\M6 m τ m'/\(m'.map (·.1)).Nodup/\JI τ/\(∀i id,lk τ i=some id->(i<ns/\lk σ id=some i)∨(ns<=i/\nx<=id/\id<n')) /\
   (∀p∈m',∀q∈rest,p.1≠q.1)/\K r' (m'++rest) n')
  (hkp:∀x m n,Qsp x m n->ns<=n->∃τ m' n',nx<=n'/\M6 m τ m'/\(m'.map (·.1)).Nodup/\JI τ/\(∀i id,lk τ i=some id->(i<ns/\lk σ id=some i)∨(ns<=i/\nx<=id/\id<n')) /\
   (∀p∈m',∀q∈rest,p.1≠q.1)/\Kp x (m'++rest) n'):bP P Γ F args mem nx K Kp:=by
 refine⟨fun X D ρ w vs hD hm hv=>?_⟩;obtain⟨p1,pv⟩:=hm.part hp;have hσ:∀id i,lk σ id=some i->D id->(∃id,lk σ id=some i/\D id)/\jU σ ρ ρ i=ρ id:=fun id i h1 h2=>⟨⟨id,h1,h2⟩,j7 hinj h1⟩
 obtain⟨s1,sv,so⟩:=p1.turn (D':=fun i=>∃id,lk σ id=some i/\D id) hΓ hσ hM hnod hinj;have hvs:jR (jU σ ρ ρ) (fun i=>∃id,lk σ id=some i/\D id) (OX (XR X ρ rest) (jU σ ρ ρ) ms) w asz vs:=
  ⟨by rw[←hargs.1];exact hv.1,fun j c' x hc' hx=>by
   obtain⟨c,hc⟩:=dH hargs.1 hc';exact sv c c' (hargs.2 j c c' hc hc') _ (pv _ _ (hv.2 j c x hc hx))⟩
 refine(h.run _ _ _ w vs (fun i ⟨id,h1,_⟩=>hlt id i h1) s1 hvs).mono ?_;rintro e w' ⟨m,n,ρs,hn,r1,ext,hres⟩;have main:∀(τ:List (Nat × Nat)) (m':aP) (n':Nat),nx<=n'->M6 m τ m'->(m'.map (·.1)).Nodup->JI τ->(∀i id,lk τ i=some id->(i<ns/\lk σ id=some i)∨(ns<=i/\nx<=id/\id<n'))->(∀p∈m',∀q∈rest,p.1≠q.1) ->
   ∃ρ',MR Γ X ρ' (dn D nx n') (m'++rest) w'/\Ext D ρ mem w ρ' (dn D nx n') (m'++rest) w'/\∀r r',Cv m τ r r'->∀x,VR ρs (dn (fun i=>∃id,lk σ id=some i/\D id) ns n) (OX (XR X ρ rest) ρs m) w' r x->VR ρ' (dn D nx n') (OX X ρ' (m'++rest)) w' r' x:=by
  intro τ m' n' hn' t2 t3 t4 t5 t6;have hτ:∀i id,lk τ i=some id->dn (fun i=>∃id,lk σ id=some i/\D id) ns n i->dn D nx n' id/\jU τ ρs ρ id=ρs i:=by
   intro i id h1 h2;refine⟨?_,j7 t4 h1⟩;rcases t5 i id h1 with⟨h3,h4⟩|⟨h3,h4,h5⟩
   ·rcases h2 with⟨id0,h5,h6⟩|⟨h5,_⟩
    ·rw[hinj id id0 i h4 h5];exact .inl h6
    ·omega
   ·exact .inr ⟨h4,h5⟩
  obtain⟨u1,uv,uo⟩:=r1.turn hΓ hτ t2 t3 t4;have hext:Ext D ρ m1 w (jU τ ρs ρ) (dn D nx n') m' w':=by
   refine⟨fun i hi=>.inl hi,fun id hid=>?_,ext.size,fun b hb ho=>?_,fun p hp' hpn=>?_,ext.env⟩
   ·by_cases hex:∃i,lk τ i=some id
    ·obtain⟨i,hi⟩:=hex;rw[j7 t4 hi];rcases t5 i id hi with⟨h3,h4⟩|⟨h3,h4,h5⟩
     ·rw[ext.agree i ⟨id,h4,hid⟩,j7 hinj h4]
     ·have:=hD id hid;omega
    ·exact vM hex
   ·refine ext.keep b hb fun⟨p,hp',hpn,e⟩=>ho ?_
    rw[←e];exact so p hp' hpn
   ·obtain⟨q,hq',hqn,e⟩:=uo p hp' hpn;rw[←e];rcases ext.fresh q hq' hqn with⟨q',hq1,hq2,e'⟩|h1
    ·rw[←e'];exact .inl (so q' hq1 hq2)
    ·exact .inr h1
  obtain⟨j1,j2,j3,j4⟩:=MR.join (D':=dn D nx n') hm hp u1 hext (fun p hp=>hp) t6 hrest;exact⟨_,j1,j4 D fun i hi=>hi,fun r r' hc x hx=>j2 _ _ (uv r r' hc _ hx)⟩
 rcases hres with⟨r,v,rfl,hq,rv⟩|⟨x,rfl,hq⟩
 ·obtain⟨τ,r',m',n',hn',t1,t2,t3,t4,t5,t6,hK⟩:=hk r m n hq hn;obtain⟨ρ',k1,k2,k3⟩:=main τ m' n' hn' t2 t3 t4 t5 t6;exact⟨_,n',ρ',hn',k1,k2,.inl ⟨r',v,rfl,hK,k3 r r' t1 _ rv⟩⟩
 ·obtain⟨τ,m',n',hn',t2,t3,t4,t5,t6,hK⟩:=hkp x m n hq hn;obtain⟨ρ',k1,k2,k3⟩:=main τ m' n' hn' t2 t3 t4 t5 t6;exact⟨_,n',ρ',hn',k1,k2,.inr ⟨x,rfl,hK⟩⟩
def KT(B:Nat)(Qp:Value->aP->Nat->Prop)(x:Value)(m:aP)(n:Nat):Prop:=kN B (fun _ m n=>Qp x m n) .junk m n
theorem bP.turn{F:FuncId}{args:List AV}{mem:aP}{nx:Nat}{Q:AV->aP->Nat->Prop}{Qp:Value->aP->Nat->Prop}(hΓ:∀p∈Γ,NN p.2)(h:bP P Γ F args mem nx (kN nx Q) (KT nx Qp)):bP P Γ F args mem nx Q Qp:=by
 refine⟨fun X D ρ w vs hD hm hv=>(h.run X D ρ w vs hD hm hv).mono ?_⟩;rintro e w' ⟨m,n,ρ',h3,h4,h6,(⟨r,v,h1,⟨σ,r',m',n',hc,hq⟩,h5⟩|⟨x,h1,⟨σ,r',m',n',hc,hq⟩⟩)⟩
 ·obtain⟨m1,v1,e1⟩:=uR hΓ hD h4 hc.mem hc.nod hc.inj hc.old;exact⟨m',n',_,hc.nx,m1,h6.trans e1,.inl ⟨r',v,h1,hq,v1 r r' hc.res _ h5⟩⟩
 ·obtain⟨m1,v1,e1⟩:=uR hΓ hD h4 hc.mem hc.nod hc.inj hc.old;exact⟨m',n',_,hc.nx,m1,h6.trans e1,.inr ⟨x,h1,hq⟩⟩
structure pF(P:Program)(Γ:List (Nat × AV))(B:Nat)(ops l:List Oper)(s:St)(K:St->Prop)(Kp:Value->St->Prop):Prop where
 run:wL P Γ (Gd P Γ B) ops l s K Kp
def LX(P:Program)(Γ:List (Nat × AV))(B:Nat)(ops:List Oper)(K:St->Prop)(Kp:Value->St->Prop)(next:List Oper->St->Prop)(l:List Oper)(s:St):Prop:=
 match l with
 | []=>K s
 | o::r=>Dw s fun sl mem nx nt=>pK ops sl o.guard
   (DX false P Γ (Gd P Γ B) sl mem nx o.op (fun v mem nx=>kT s o.dst v mem nx fun s'=>next r s') fun x mem nx=>Kp x ⟨sl,mem,nx,nt⟩)
   (kT s o.dst (.tup []) mem nx fun s'=>next r s')
theorem AH{ops:List Oper}{K:St->Prop}{Kp:Value->St->Prop}{next:List Oper->St->Prop}(hn:∀r s,next r s->pF P Γ B ops r s K Kp){l:List Oper}{s:St}(h:LX P Γ B ops K Kp next l s):pF P Γ B ops l s K Kp:=by
 refine⟨?_⟩;cases l with
 | nil=>exact h
 | cons o r=>
  have h:pK ops s.sl o.guard (DX false P Γ (Gd P Γ B) s.sl s.mem s.nx o.op (fun v mem nx=>kT s o.dst v mem nx fun s'=>next r s') fun x mem nx=>Kp x ⟨s.sl,mem,nx,s.nt⟩) (kT s o.dst (.tup []) s.mem s.nx fun s'=>next r s'):=h;simp only[wL];rcases sR h with⟨h1,h⟩|⟨h1,h⟩
  ·simp only[h1];rcases Ke h with⟨v,m,n,h2,h⟩|⟨h2,F,l,h3,h⟩|⟨h2,h3,y,h4,h⟩
   ·obtain⟨s',h4,h⟩:=eC h;simp only[h2,h4];exact(hn _ _ h).run
   ·simp only[h2,h3];refine(show bP P Γ F l s.mem s.nx _ _ from h).mono (fun v m n h=>?_) fun x m n h=>h
    obtain⟨s',h4,h⟩:=eC h;simp only[h4];exact(hn _ _ h).run
   ·simp only[h2,h3,h4];exact h
  ·obtain⟨s',h4,h⟩:=eC h;simp only[h1,h4];exact(hn _ _ h).run
def S8(P:Program)(Γ:List (Nat × AV))(B:Nat)(ops:List Oper)(K:St->Prop)(Kp:Value->St->Prop)(l:List Oper)(s:St):Prop:=pF P Γ B ops l s K Kp
theorem O3{ops:List Oper}{K:St->Prop}{Kp:Value->St->Prop}(l:List Oper)(s:St)(h:S8 P Γ B ops K Kp l s):pF P Γ B ops l s K Kp:=h
def UI(P:Program)(Γ:List (Nat × AV))(B:Nat)(ops:List Oper)(K:St->Prop)(Kp:Value->St->Prop)(l:List Oper)(s:St):Prop:=LX P Γ B ops K Kp (S8 P Γ B ops K Kp) l s
theorem QD{ops:List Oper}{K:St->Prop}{Kp:Value->St->Prop}(l:List Oper)(s:St)(h:UI P Γ B ops K Kp l s):pF P Γ B ops l s K Kp:=AH O3 h
def UK(P:Program)(Γ:List (Nat × AV))(B:Nat)(ops:List Oper)(K:St->Prop)(Kp:Value->St->Prop)(l:List Oper)(s:St):Prop:=LX P Γ B ops K Kp (UI P Γ B ops K Kp) l s
theorem P4{ops:List Oper}{K:St->Prop}{Kp:Value->St->Prop}(l:List Oper)(s:St)(h:UK P Γ B ops K Kp l s):pF P Γ B ops l s K Kp:=AH QD h
def UG(P:Program)(Γ:List (Nat × AV))(B:Nat)(ops:List Oper)(K:St->Prop)(Kp:Value->St->Prop)(l:List Oper)(s:St):Prop:=LX P Γ B ops K Kp (UK P Γ B ops K Kp) l s
theorem PS{ops:List Oper}{K:St->Prop}{Kp:Value->St->Prop}(l:List Oper)(s:St)(h:UG P Γ B ops K Kp l s):pF P Γ B ops l s K Kp:=AH P4 h
def TR(P:Program)(Γ:List (Nat × AV))(B:Nat)(ops:List Oper)(K:St->Prop)(Kp:Value->St->Prop)(l:List Oper)(s:St):Prop:=LX P Γ B ops K Kp (UG P Γ B ops K Kp) l s
theorem PI{ops:List Oper}{K:St->Prop}{Kp:Value->St->Prop}(l:List Oper)(s:St)(h:TR P Γ B ops K Kp l s):pF P Γ B ops l s K Kp:=AH PS h
def Sa(P:Program)(Γ:List (Nat × AV))(B:Nat)(ops:List Oper)(K:St->Prop)(Kp:Value->St->Prop)(l:List Oper)(s:St):Prop:=LX P Γ B ops K Kp (TR P Γ B ops K Kp) l s
theorem QA{ops:List Oper}{K:St->Prop}{Kp:Value->St->Prop}(l:List Oper)(s:St)(h:Sa P Γ B ops K Kp l s):pF P Γ B ops l s K Kp:=AH PI h
theorem pF.many{ops l:List Oper}{s:St}{K:St->Prop}{Kp:Value->St->Prop}(h:Sa P Γ B ops K Kp l s):pF P Γ B ops l s K Kp:=QA l s h
structure BZ(P:Program)(Γ:List (Nat × AV))(B:Nat)(ops:List Oper)(tr:List (List Nat))(base:Nat)(K:St->Prop)(Kp:Value->aP->Nat->Prop)(l:List Nat)(recs:List AT)(s:St):Prop where
 run:pW P Γ (Gd P Γ B) ops tr base K Kp l recs s
def Ru(P:Program)(Γ:List (Nat × AV))(B:Nat)(ops:List Oper)(tr:List (List Nat))(base:Nat)(K:St->Prop)(Kp:Value->aP->Nat->Prop)(l:List Nat)(recs:List AT)(s:St):Prop:=
 match l with
 | []=>K s
 | i::r=>match ops[i]? with
  | none=>False
  | some o=>Dw s fun sl mem nx nt=>pK ops sl o.guard
   (match kind P o.op with
    | .pure=>match still o.op with
     | true=>p7 false P Γ sl [] nx o.op fun v _ _=>kT s o.dst v mem nx fun s'=>BZ P Γ B ops tr base K Kp r (⟨i,sl,true,v⟩::recs) s'
     | false=>gC (fun p=>Gp tr base ops.length i p.1) mem fun m=>p7 false P Γ sl m nx o.op fun v _ _=>kT s o.dst v mem nx fun s'=>BZ P Γ B ops tr base K Kp r (⟨i,sl,true,v⟩::recs) s'
    | .al=>pD (base+i) fun id=>p7 false P Γ sl [] id o.op fun v m _=>match m with
     | [(_,b)]=>kT s o.dst v ((id,b)::mem) nx fun s'=>BZ P Γ B ops tr base K Kp r (⟨i,sl,true,v⟩::recs) s'
     | _=>False
    | .eff=>gC (fun p=>Gp tr base ops.length i p.1) mem fun m=>EA false P Γ (Gd P Γ B) sl m nx o.op (fun v m nx'=>gC (fun p=>!Gp tr base ops.length i p.1) mem fun rest=>gC (fun p=>!sP p.1 m) rest fun rest=>AO m rest fun m=>
      kT s o.dst v m nx' fun s'=>rH false P Γ ops tr base i m nx' recs (BZ P Γ B ops tr base K Kp r recs s')) Kp)
   (kT s o.dst (.tup []) mem nx fun s'=>BZ P Γ B ops tr base K Kp r (⟨i,sl,false,.tup []⟩::recs) s')
theorem BZ.go{ops:List Oper}{tr:List (List Nat)}{base:Nat}{K:St->Prop}{Kp:Value->aP->Nat->Prop}{l:List Nat}{recs:List AT}{s:St}(h:Ru P Γ B ops tr base K Kp l recs s):BZ P Γ B ops tr base K Kp l recs s:=by
 refine⟨?_⟩;cases l with
 | nil=>exact h
 | cons i r=>
  simp only[Ru] at h;simp only[pW];split at h
  ·exact h.elim
  ·rename_i o ho;simp only[ho];have h:=mD.1 h;rcases sR h with⟨h1,h⟩|⟨h1,h⟩
   ·simp only[h1];split at h
    ·rename_i hkd;simp only[hkd];split at h
     ·rename_i hst;obtain⟨v,m,n,h2,h⟩:=kJ (s:={ sl:=s.sl,mem:=[],nx:=s.nx,nt:=s.nt }) h;obtain⟨m',n',h2'⟩:=qF (s:={ sl:=s.sl,mem:=[],nx:=s.nx,nt:=s.nt }) (s':={ s with mem:=fH tr base ops.length i s.mem }) hst rfl h2;obtain⟨s',h3,h⟩:=eC h;simp only[h2',h3];exact h.run
     ·have h:=cK.1 h;obtain⟨v,m,n,h2,h⟩:=kJ (s:={ s with mem:=fH tr base ops.length i s.mem }) h;obtain⟨s',h3,h⟩:=eC h;simp only[h2,h3];exact h.run
    ·rename_i hkd;simp only[hkd];have h:=dY.1 h;obtain⟨v,m,n,h2,h⟩:=kJ (s:={ s with mem:=[],nx:=base+i }) h;simp only[h2];split at h
     ·obtain⟨s',h3,h⟩:=eC h;simp only[h3];exact h.run
     ·exact h.elim
    ·rename_i hkd;simp only[hkd];have h:=cK.1 h;rcases Av (s:={ s with mem:=fH tr base ops.length i s.mem }) h with⟨v,m,n,h2,h⟩|⟨h2,F,l,h3,h⟩
     ·simp only[h2];have h:=fN.1 (cK.1 (cK.1 h));obtain⟨s',h3,h⟩:=eC h;have h3:eO s o.dst v (m++qJ m (fR tr base ops.length i s.mem)) n=some s':=h3;simp only[h3];obtain⟨e1,e2,_⟩:=fP h3;have h:rH false P Γ ops tr base i (m++qJ m (fR tr base ops.length i s.mem)) n recs (BZ P Γ B ops tr base K Kp r recs s'):=h;rw[←e1,←e2] at h;obtain⟨h4,h⟩:=n8 h;exact⟨h4,h.run⟩
     ·rw[p9 (s':=s) (fun x _=>by cases x<;>rfl)] at h3;simp only[h2,h3];refine(show bP P Γ F l _ _ _ _ from h).mono (fun v m n h=>?_) fun x m n h=>h
      have h:=fN.1 (cK.1 (cK.1 h));obtain⟨s',h3,h⟩:=eC h;have h3:eO s o.dst v (m++qJ m (fR tr base ops.length i s.mem)) n=some s':=h3;simp only[h3];obtain⟨e1,e2,_⟩:=fP h3;have h:rH false P Γ ops tr base i (m++qJ m (fR tr base ops.length i s.mem)) n recs (BZ P Γ B ops tr base K Kp r recs s'):=h;rw[←e1,←e2] at h;obtain⟨h4,h⟩:=n8 h;exact⟨h4,h.run⟩
   ·obtain⟨s',h3,h⟩:=eC h;simp only[h1,h3];exact h.run
def OY(P:Program)(Γ:List (Nat × AV))(B:Nat)(ops:List Oper)(s:St)(Q:Exit->St->Prop):Prop:=
 match P.follows .mixedOrders with
 | true=>match At P ops (uS P ops ops.length [] (xV ops.length)) with
  | true=>Dw s fun sl mem nx nt=>pD (nx+ops.length) fun n=>uM (uS P ops ops.length [] (xV ops.length)) fun ord=>BZ P Γ B ops (KJ ops []) nx (fun s'=>Q .normal s') (fun x m n=>Q (.panic [pe x]) ⟨tQ ops sl,m,n,nt⟩) ord [] ⟨sl,mem,n,nt⟩
  | false=>False
 | false=>False
def TD(P:Program)(Γ:List (Nat × AV))(B:Nat)(c:Code)(s:St)(Q:Exit->St->Prop):Prop:=
 match c with
 | .region _ ops draw=>match draw with
  | false=>pF P Γ B ops.toList ops.toList s (fun s'=>Q .normal s') fun x s'=>Q (.panic [pe x]) s'
  | true=>OY P Γ B ops.toList s Q
 | c=>RU P Γ B c s Q
theorem eD.goP{c:Code}{s:St}{Q:Exit->St->Prop}(h:TD P Γ B c s Q):eD P Γ B c s Q:=by
 cases c with
 | region id ops draw=>
  cases draw with
  | false=>exact qZ GF (.region id ops false) s Q (show pF P Γ B ops.toList ops.toList s _ _ from h).run
  | true=>
   refine qZ GF (.region id ops true) s Q ?_;have h:OY P Γ B ops.toList s Q:=h;unfold OY at h;simp only[Ca];split at h
   ·rename_i hmix;simp only[hmix];split at h
    ·rename_i hok;simp only[Fc,hok];exact(lK.1 (dY.1 (mD.1 h))).run
    ·exact h.elim
   ·exact h.elim
 | _=>exact eD.go h
def J3(P:Program)(Γ:List (Nat × AV))(B:Nat)(next:Code->St->(Exit->St->Prop)->Prop)(c:Code)(s:St)(Q:Exit->St->Prop):Prop:=
 match c with
 | .seq x y=>next x s (JB P Γ B y Q)
 | .block id c=>next c s (Bi id Q)
 | c=>TD P Γ B c s Q
theorem vI{next:Code->St->(Exit->St->Prop)->Prop}(hn:∀c s Q,next c s Q->eD P Γ B c s Q){c:Code}{s:St}{Q:Exit->St->Prop}(h:J3 P Γ B next c s Q):eD P Γ B c s Q:=by
 cases c with
 | seq x y=>exact eD.go (show RU P Γ B (.seq x y) s Q from hn _ _ _ h)
 | block id c=>exact eD.go (show RU P Γ B (.block id c) s Q from hn _ _ _ h)
 | _=>exact eD.goP h
def UQ(P:Program)(Γ:List (Nat × AV))(B:Nat)(c:Code)(s:St)(Q:Exit->St->Prop):Prop:=eD P Γ B c s Q
theorem PF(c:Code)(s:St)(Q:Exit->St->Prop)(h:UQ P Γ B c s Q):eD P Γ B c s Q:=h
def TM(P:Program)(Γ:List (Nat × AV))(B:Nat)(c:Code)(s:St)(Q:Exit->St->Prop):Prop:=J3 P Γ B (UQ P Γ B) c s Q
theorem PG(c:Code)(s:St)(Q:Exit->St->Prop)(h:TM P Γ B c s Q):eD P Γ B c s Q:=vI PF h
def TY(P:Program)(Γ:List (Nat × AV))(B:Nat)(c:Code)(s:St)(Q:Exit->St->Prop):Prop:=J3 P Γ B (TM P Γ B) c s Q
theorem PO(c:Code)(s:St)(Q:Exit->St->Prop)(h:TY P Γ B c s Q):eD P Γ B c s Q:=vI PG h
def UD(P:Program)(Γ:List (Nat × AV))(B:Nat)(c:Code)(s:St)(Q:Exit->St->Prop):Prop:=J3 P Γ B (TY P Γ B) c s Q
theorem Pc(c:Code)(s:St)(Q:Exit->St->Prop)(h:UD P Γ B c s Q):eD P Γ B c s Q:=vI PO h
def Su(P:Program)(Γ:List (Nat × AV))(B:Nat)(c:Code)(s:St)(Q:Exit->St->Prop):Prop:=J3 P Γ B (UD P Γ B) c s Q
theorem PA(c:Code)(s:St)(Q:Exit->St->Prop)(h:Su P Γ B c s Q):eD P Γ B c s Q:=vI Pc h
def UE(P:Program)(Γ:List (Nat × AV))(B:Nat)(c:Code)(s:St)(Q:Exit->St->Prop):Prop:=J3 P Γ B (Su P Γ B) c s Q
theorem PT(c:Code)(s:St)(Q:Exit->St->Prop)(h:UE P Γ B c s Q):eD P Γ B c s Q:=vI PA h
def SK(P:Program)(Γ:List (Nat × AV))(B:Nat)(c:Code)(s:St)(Q:Exit->St->Prop):Prop:=J3 P Γ B (UE P Γ B) c s Q
theorem Pp(c:Code)(s:St)(Q:Exit->St->Prop)(h:SK P Γ B c s Q):eD P Γ B c s Q:=vI PT h
theorem eD.manyP{c:Code}{s:St}{Q:Exit->St->Prop}(h:SK P Γ B c s Q):eD P Γ B c s Q:=Pp c s Q h
class YG(p:Prop)(q:outParam Prop):Prop where
 h:q->p
instance{c:Code}{s:St}{Q:Exit->St->Prop}:YG (eD P Γ B c s Q) (SK P Γ B c s Q):=⟨eD.manyP⟩
instance{ops l:List Oper}{s:St}{K:St->Prop}{Kp:Value->St->Prop}:YG (pF P Γ B ops l s K Kp) (Sa P Γ B ops K Kp l s):=⟨pF.many⟩
instance{ops:List Oper}{tr:List (List Nat)}{base:Nat}{K:St->Prop}{Kp:Value->aP->Nat->Prop}{l:List Nat}{recs:List AT}{s:St}:YG (BZ P Γ B ops tr base K Kp l recs s) (Ru P Γ B ops tr base K Kp l recs s):=⟨BZ.go⟩
theorem Yg{p q:Prop}[i:YG p q](x:q):p:=i.h x
theorem Rq{p q:Prop}(x:q)(e:q->p:=by(intro x;(conv=>whnf);(repeat(refine Yg ?_;conv=>whnf));exact x)):p:=e x
theorem CM{F:FuncId}{fn:Func}{c:Code}{args:List AV}{mem:aP}{nx:Nat}{Q:AV->aP->Nat->Prop}{Qp:Value->aP->Nat->Prop}(hΓ:∀p∈Γ,NN p.2)(hf:P.funcs[F]? = some fn)(hb:fn.body=some c)
  (h:sJ fn.ntmps args mem nx fun s=>eD P Γ nx c s (Et P fn.results.toList (kN nx Q) (KT nx Qp))) (hF:Nat.beq F YF=false:=by rfl):bP P Γ F args mem nx Q Qp:=
 (mA hf hb ((jM h).mono fun _ _ h=>Bp h) hF).turn hΓ
end
end Go.Ax
namespace Go.Ax
open Go
theorem bP.useN{P:Program}{Γ:List (Nat × AV)}{F:FuncId}{args args':List AV}{ms mem m1:aP}{ns nx:Nat}{Qs K:AV->aP->Nat->Prop}{Qsp Kp:Value->aP->Nat->Prop}(hΓ:∀p∈Γ,NN p.2)(σ:List (Nat × Nat))(h:bP P Γ F args' ms ns Qs Qsp)
  (hp:jD (g9 σ) mem=m1) (hargs:kU m1 σ args args') (hM:cN m1 σ ms) (hc:(jX ms && (kD σ && pE ns σ))=true)
  (hk:∀r m n,Qs r m n->∃τ r' m' n',Cv m τ r r'/\cN m τ m'/\(jX m' && (kD τ && (Nat.ble nx n' && (kR (g9 σ) nx m' && pX σ ns nx n' τ))))=true/\K r' (m'++gR (g9 σ) mem) n')
  (hkp:∀x m n,Qsp x m n->∃τ m' n',cN m τ m'/\(jX m' && (kD τ && (Nat.ble nx n' && (kR (g9 σ) nx m' && pX σ ns nx n' τ))))=true/\Kp x (m'++gR (g9 σ) mem) n'):bP P Γ F args mem nx K Kp:=by
 simp only[VZ] at hc;obtain⟨hc1,hc2,hc4⟩:=hc;refine⟨fun X D ρ w vs hD hm hv=>?_⟩;have key:∀(m':aP) (n':Nat),kR (g9 σ) nx m'=true->∀p∈m',∀q∈gR (g9 σ) mem,p.1≠q.1:=fun m' n' hko p h5 q h6=>by
  have b:=(c8.1 h6).2;rcases rK hko p h5 with a|a
  ·have:=hD _ (hm.low q (c8.1 h6).1);omega
  ·intro e;rw[e,b] at a;cases a
 refine(bP.use (K:=K) (Kp:=Kp) (nx:=nx) hΓ h σ (m1:=m1) (rest:=gR (g9 σ) mem) ⟨fun p hp'=>?_,fun p hp'=>(c8.1 hp').1,fun p hp'=>?_,fun p h1 q h2=>?_, ?_⟩ ?_ hargs hM.cvm (d7 hc1) (lX hc2) (fun id i hl=>lR hc4 _ (bI hl)) ?_ ?_).run X D ρ w vs hD hm hv
 ·rw[←hp] at hp';exact(d8.1 hp').1
 ·cases hi:Ap p.1 (g9 σ) with
  | true=>left;rw[←hp];exact d8.2 ⟨hp',hi⟩
  | false=>right;exact c8.2 ⟨hp',hi⟩
 ·rw[←hp] at h1;have a:=(d8.1 h1).2;have b:=(c8.1 h2).2;intro e;rw[e,b] at a;cases a
 ·rw[←hp];exact hm.nod.sublist ((nF mem).map _)
 ·exact hm.nod.sublist ((mU mem).map _)
 ·intro r m n hq hn;obtain⟨τ,r',m',n',h1,h2,h3,h4⟩:=hk r m n hq;simp only[VZ] at h3;exact⟨τ,r',m',n',Vd h3.2.2.1,h1,h2.cvm,d7 h3.1,lX h3.2.1,fun i id hl=>qG h3.2.2.2.2 _ (bI hl),key m' n' h3.2.2.2.1,h4⟩
 ·intro x m n hq hn;obtain⟨τ,m',n',h2,h3,h4⟩:=hkp x m n hq;simp only[VZ] at h3;exact⟨τ,m',n',Vd h3.2.2.1,h2.cvm,d7 h3.1,lX h3.2.1,fun i id hl=>qG h3.2.2.2.2 _ (bI hl),key m' n' h3.2.2.2.1,h4⟩
theorem bB.goP{P:Program}{F:FuncId}{args:List AV}{r:AV}{mem:aP}{nx:Nat}{K:AV->aP->Nat->Prop}{Kp:Value->aP->Nat->Prop}(h:bB P [] F args r)(hk:K r mem nx)(ha:jZ args:=by exact dE)(hr:NN r:=by exact nn):bP P [] F args mem nx K Kp:=(h.go hk ha hr).toP
theorem bP.pre{P:Program}{Γ:List (Nat × AV)}{F:FuncId}{args args':List AV}{mem mem':aP}{nx:Nat}{K:AV->aP->Nat->Prop}{Kp:Value->aP->Nat->Prop}(hΓ:∀p∈Γ,NN p.2)(σ:List (Nat × Nat))(hid:(HV σ && jX mem')=true)
  (hM:cN mem σ mem') (hargs:kU mem σ args args') (h:bP P Γ F args' mem' nx K Kp):bP P Γ F args mem nx K Kp:=by
 simp only[VZ] at hid;have hid1:=u7 hid.1;have hnod:=d7 hid.2;refine⟨fun X D ρ w vs hD hm hv=>?_⟩;have hσ:∀id id',lk σ id=some id'->D id->D id'/\ρ id'=ρ id:=by
  intro id id' h hd;have:=hid1 _ (bI h);simp only at this;subst this;exact⟨hd,rfl⟩
 have hinj:JI σ:=fun i j k h1 h2=>by
  have a:=hid1 _ (bI h1);have b:=hid1 _ (bI h2);simp only at a b;omega
 obtain⟨m1,v1,o1⟩:=hm.turn (D':=D) (ρ':=ρ) hΓ hσ hM.cvm hnod hinj;have hvs:jR ρ D (OX X ρ mem') w args' vs:=⟨by rw[←hargs.1];exact hv.1,fun j c' x hc' hx=>by
   obtain⟨c,hc⟩:=dH hargs.1 hc';exact v1 c c' (hargs.2 j c c' hc hc') _ (hv.2 j c x hc hx)⟩
 refine(h.run X D ρ w vs hD m1 hvs).mono ?_;rintro e w' ⟨m,n,ρ',h3,h4,h6,hr⟩;have e0:Ext D ρ mem w ρ D mem' w:=⟨fun i hi=>hi,fun _ _=>rfl,Vh _,fun _ _ _=>rfl,fun p hp hn=>.inl (o1 p hp hn),.refl _⟩
 exact⟨m,n,ρ',h3,h4,e0.trans h6,hr⟩
theorem bP.ph{P:Program}{Γ:List (Nat × AV)}{F:FuncId}{args:List AV}{mem:aP}{nx:Nat}{K:AV->aP->Nat->Prop}{Kp:Value->aP->Nat->Prop}(t:TypeId)(sz:Nat)(h:bP P Γ F args ((nx,.row t sz [])::mem) (nx+1) K Kp):bP P Γ F args mem nx K Kp:=by
 refine⟨fun X D ρ w vs hD hm hv=>?_⟩;obtain⟨m1,v1,e1⟩:=hm.phantom (n:=nx) (D':=dn D nx (nx+1)) (fun h'=>W1 _ (hD _ h')) (fun i hi=>.inl hi) (.inr ⟨Vh _,WQ _⟩) t sz;refine(h.run X _ _ w vs (fun i hi=>?_) m1 ⟨hv.1,fun j c x hc hx=>v1 _ _ (hv.2 j c x hc hx)⟩).mono ?_
 ·rcases hi with hi|hi
  ·have:=hD i hi;omega
  ·exact hi.2
 ·rintro e w' ⟨m,n,ρ',hn,hm',ext,hr⟩;have ed:dn (dn D nx (nx+1)) (nx+1) n=dn D nx n:=by
   funext i
   apply propext;constructor
   ·rintro((hi|⟨h1,h2⟩)|⟨h1,h2⟩)
    ·exact .inl hi
    ·exact .inr ⟨h1,om⟩
    ·exact .inr ⟨om,h2⟩
   ·rintro(hi|⟨h1,h2⟩)
    ·exact .inl (.inl hi)
    ·rcases Vm i (nx+1) with h3|h3
     ·exact .inl (.inr ⟨h1,h3⟩)
     ·exact .inr ⟨h3,h2⟩
  rw[ed] at hm' ext;have e2:=e1 D fun i hi=>hi
  refine⟨m,n,ρ',om,hm',e2.trans ⟨fun i hi=>ext.le i (.inl hi),fun i hi=>ext.agree i (.inl hi),ext.size,ext.keep,ext.fresh,ext.env⟩, ?_⟩;rcases hr with⟨r,v,h1,h2,h3⟩|hr
  ·rw[ed] at h3;exact .inl ⟨r,v,h1,h2,h3⟩
  ·exact .inr hr
theorem BX{P:Program}{Γ:List (Nat × AV)}{H:Hk}{F:FuncId}{fn:Func}{c:Code}{args:List AV}{mem:aP}{nx:Nat}{Q:AV->aP->Nat->Prop}{Qp:Value->aP->Nat->Prop}(hΓ:∀p∈Γ,NN p.2)(hf:P.funcs[F]? = some fn)(hb:fn.body=some c)
  (h:sJ fn.ntmps args mem nx fun s=>oL P Γ nx c s (CD P Γ H fn.results.toList (kN nx Q) (KT nx Qp))) (hF:Nat.beq F YF=false:=by rfl):bP P Γ F args mem nx Q Qp:=
 (s7 hf hb (jM h) hF).turn hΓ
theorem bB.frz{P:Program}{Γ:List (Nat × AV)}{F:FuncId}{args asz:List AV}{r:AV}{mem:aP}{nx:Nat}{K:AV->aP->Nat->Prop}(h:bB P Γ F asz r)(ids:List Nat)(hΓ:∀p∈Γ,NN p.2)(hargs:kU (jD ids mem) [] args asz)(hr:NN r)(hk:K r (gR ids mem) nx) :
  aH P Γ F args mem nx K:=by
 refine⟨fun X D ρ w vs hD hm hv=>?_⟩;refine(aH.use (K:=K) (nx:=nx) hΓ h [] (m1:=jD ids mem) (rest:=gR ids mem) ⟨fun p hp'=>(d8.1 hp').1,fun p hp'=>(c8.1 hp').1,fun p hp'=>?_,fun p h1 q h2=>?_, ?_⟩ ?_ hargs (fun p hp=>by cases hp) (by simp) (fun i j k h=>by simp[lk] at h) (fun id i hl=>by simp[lk] at hl) ?_).run X D ρ w vs hD hm hv
 ·cases hi:Ap p.1 ids with
  | true=>left;exact d8.2 ⟨hp',hi⟩
  | false=>right;exact c8.2 ⟨hp',hi⟩
 ·have a:=(d8.1 h1).2;have b:=(c8.1 h2).2;intro e;rw[e,b] at a;cases a
 ·exact hm.nod.sublist ((nF mem).map _)
 ·exact hm.nod.sublist ((mU mem).map _)
 ·rintro r' m n ⟨rfl,rfl,rfl⟩ _;exact⟨[],r',[],nx,Vh _,.same r' hr,(fun p hp=>by cases hp),by simp,(fun i j k h=>by simp[lk] at h),(fun i id hl=>by simp[lk] at hl),(fun p hp=>by cases hp),hk⟩
end Go.Ax
