/- A part of the proof. -/
import Derived.Test.YtidjhgajglebnaaGreatDoorAx3
import Derived.Deep.LoopGhost
set_option linter.unusedVariables false
set_option linter.unusedSimpArgs false
set_option maxRecDepth 1000000
set_option maxHeartbeats 16000000
namespace Go.Ax
open Go
variable{J:List (Nat × Nat)}{n nx id:Nat}{Q:AV->aP->Nat->Prop}{mem:aP}{x:Value}{w w':World}{D D' O X O':Nat->Prop}{v:AV}{C C':Nat->dP}{F:FuncId}{args:List AV}{s:St}{ds:List Deferred × Nat}
structure Conv(B:Nat)(J:List (Nat × Nat))(s s':St):Prop where
 nt:s'.nt=s.nt
 sl:∀i v',lk s'.sl i=some v'->∃v,lk s.sl i=some v/\Cv s.mem J v v'
 mem:Wi s.mem J s'.mem
 nod:(s'.mem.map (·.1)).Nodup
 inj:Si J
 old:∀id id',lk J id=some id'->(id'<B->id'=id)/\id'<s'.nx
 nx:B<=s'.nx
open Classical in
noncomputable def pV(J:List (Nat × Nat))(C ρ0:Nat->dP)(n:Nat):dP:=if h:∃id,lk J id=some n then C h.choose else ρ0 n
theorem uH(hi:Si J){ρ0:Nat->dP}(h:lk J id=some n):pV J C ρ0 n=C id:=by
 have hex:∃id,lk J id=some n:=⟨id,h⟩
 unfold pV;rw[dif_pos hex];exact congrArg C (hi _ _ n hex.choose_spec h)
theorem CO{ρ0:Nat->dP}(h:¬ ∃id,lk J id=some n):pV J C ρ0 n=ρ0 n:=by
 unfold pV;rw[dif_neg h]
theorem Fq{Z:List (Nat × AV)}{X:Nat->Prop}{C:Nat->dP}{D:Nat->Prop}{B n n':Nat}{J:List (Nat × Nat)}{m m':aP}{w:World}(hΓ:∀p∈Z,NN p.2)(hD:∀i,D i->i<B)
  (hm:MR Z X C (dn D B n) m w) (hM:Wi m J m') (hnod:(m'.map (·.1)).Nodup) (hinj:Si J) (hold:∀id id',lk J id=some id'->(id'<B->id'=id)/\id'<n') :
  MR Z X (pV J C C) (dn D B n') m' w/\(∀v v',Cv m J v v'->∀x,VR C (dn D B n) (OX X C m) w v x->VR (pV J C C) (dn D B n') (OX X (pV J C C) m') w v' x) /\
   Ext D C m w (pV J C C) (dn D B n') m' w:=by
 have hσ:∀id id',lk J id=some id'->dn D B n id->dn D B n' id'/\pV J C C id'=C id:=by
  intro id id' h hd;refine⟨?_,uH hinj h⟩;obtain⟨h1,h2⟩:=hold id id' h;rcases aAr id' B with h3|h3
  .have h4:=h1 h3;rcases hd with hd|⟨hd1,hd2⟩
   .rw[h4];exact .inl hd
   .omega
  .exact .inr ⟨h3,h2⟩
 obtain⟨m1,v1,o1⟩:=hm.turn hΓ hσ hM hnod hinj;refine⟨m1,v1,λi hi=>.inl hi,λi hi=>?_,aAp _,λ_ _ _=>rfl,λp hp hn=>.inl (o1 p hp hn),.go⟩;by_cases hex:∃id,lk J id=some i
 .obtain⟨id,h⟩:=hex;rw[uH hinj h];rw[(hold id i h).1 (hD i hi)]
 .exact CO hex
section
variable {P:Program} {Z:List (Nat × AV)} {B:Nat} {c:Code}
theorem SR.conv{s':St}{a:Act}(hΓ:∀p∈Z,NN p.2)(hD:∀i,D i->i<B)(hc:Conv B J s s')(hs:SR Z X ds C (dn D B s.nx) s a w):
  SR Z X ds (pV J C C) (dn D B s'.nx) s' a w/\Ext D C s.mem w (pV J C C) (dn D B s'.nx) s'.mem w:=by
 obtain⟨m1,v1,e1⟩:=Fq hΓ hD hs.mr hc.mem hc.nod hc.inj hc.old;have e1':=e1;refine⟨⟨m1,e1'.mks hs.def0,by rw[hc.nt];exact hs.size,λi v' hi=>?_⟩,e1⟩;obtain⟨v,hv,hcv⟩:=hc.sl i v' hi;exact v1 v v' hcv _ (hs.slot i v hv)
theorem gC.conv{s':St}{Q:Exit->St->Prop}(hΓ:∀p∈Z,NN p.2)(hc:Conv B J s s')(h:gC P Z B c s' Q):gC P Z B c s Q:=by
 refine⟨λrd X ds D C a w hD hs hB hr=>?_⟩;obtain⟨h1,h2⟩:=hs.conv hΓ hD hc;refine wpIn_mono (h.run rd X ds D _ a w hD h1 hc.nx hr) ?_;rintro e a' w' ⟨s2,ρ2,k1,k2,k3,k4⟩;exact⟨s2,ρ2,k1,k2,k3,h2.trans k4⟩
theorem gC.ph{Q:Exit->St->Prop}(t:TypeId)(sz:Nat)(h:gC P Z B c ⟨s.sl,(s.nx,.row t sz [])::s.mem,s.nx+1,s.nt⟩ Q):gC P Z B c s Q:=by
 refine⟨λrd X ds D C a w hD hs hB hr=>?_⟩;obtain⟨m1,v1,e1⟩:=hs.mr.phantom (n:=s.nx) (D':=dn D B (s.nx+1)) (λh'=>aCv _ (A8 hD hB _ h')) (Dx (aC8 _)) (.inr ⟨hB,aBx _⟩) t sz;refine wpIn_mono (h.run rd X ds D _ a w hD ⟨m1,(e1 D λi hi=>.inl hi).mks hs.def0,hs.size,λi v hi=>v1 _ _ (hs.slot i v hi)⟩ (aAx hB (aC8 _)) hr) ?_;rintro e a' w' ⟨s2,ρ2,k1,k2,k3,k4⟩;exact⟨s2,ρ2,k1,k2,k3,(e1 D λi hi=>.inl hi).trans k4⟩
structure YZ(B:Nat)(J:List (Nat × Nat))(r:AV)(m:aP)(r':AV)(m':aP)(n':Nat):Prop where
 res:Cv m J r r'
 mem:Wi m J m'
 nod:(m'.map (·.1)).Nodup
 inj:Si J
 old:∀id id',lk J id=some id'->(id'<B->id'=id)/\id'<n'
 nx:B<=n'
inductive rE (B:Nat) (Q:AV->aP->Nat->Prop) (r:AV) (m:aP) (n:Nat):Prop
 | mk (J:List (Nat × Nat)) (r':AV) (m':aP) (n':Nat):YZ B J r m r' m' n'->Q r' m' n'->rE B Q r m n
theorem aH.turn(hΓ:∀p∈Z,NN p.2)(h:aH P Z F args mem nx (rE nx Q)):aH P Z F args mem nx Q:=by
 refine⟨λX D C w vs hD hm hv=>(h.run X D C w vs hD hm hv).mono ?_⟩;rintro e w' ⟨r,v,m,n,C',h1,⟨J,r',m',n',hc,hq⟩,h3,h4,h5,h6⟩;obtain⟨m1,v1,e1⟩:=Fq hΓ hD h4 hc.mem hc.nod hc.inj hc.old;exact⟨r',v,m',n',_,h1,hq,hc.nx,m1,v1 r r' hc.res _ h5,h6.trans e1⟩
theorem gC.loop{V:Type}(hΓ:∀p∈Z,NN p.2)(I:V->St)(μ:V->Nat){Q:Exit->St->Prop}
  (h:∀x,gC P Z B c (I x) λe s=>match e with
   | .normal=>∃y J,Conv B J s (I y)/\μ y<μ x
   | e=>Q e s) (x:V):gC P Z B (.loop c) (I x) Q:=by
 refine⟨λrd X ds D C a w hD hs hB hr=>?_⟩;refine Dq (λn a' w'=>∃(y:V) (C':Nat->dP),n=μ y/\B<=(I y).nx/\SR Z X ds C' (dn D B (I y).nx) (I y) a' w'/\Ext D C (I x).mem w C' (dn D B (I y).nx) (I y).mem w') (μ x) ⟨x,C,rfl,hB,hs,Ext.refl λi hi=>.inl hi⟩ ?_;rintro n a1 w1 ⟨y,ρ1,rfl,hB1,hs1,e1⟩;refine wpIn_mono ((h y).run rd X ds D ρ1 a1 w1 hD hs1 hB1 hr.loop) ?_;rintro e a2 w2 ⟨s2,ρ2,hq,hB2,hs2,e2⟩;cases e with
 | normal=>
  obtain⟨z,J,hc,hlt⟩:=hq;obtain⟨h1,h2⟩:=hs2.conv hΓ hD hc;exact⟨μ z,hlt,z,_,rfl,hc.nx,h1,(e1.trans e2).trans h2⟩
 | exit i=>exact⟨s2,ρ2,hq,hB2,hs2,e1.trans e2⟩
 | goto l=>exact⟨s2,ρ2,hq,hB2,hs2,e1.trans e2⟩
 | ret=>exact⟨s2,ρ2,hq,hB2,hs2,e1.trans e2⟩
 | panic c=>exact⟨s2,ρ2,hq,hB2,hs2,e1.trans e2⟩
 | outgrown=>exact⟨s2,ρ2,hq,hB2,hs2,e1.trans e2⟩
def NV(P:Program)(Z:List (Nat × AV))(B:Nat):Hk:={ call:=λF args mem nx K _=>aH P Z F args mem nx K,loop:=λc s Q=>gC P Z B (.loop c) s Q }
theorem wS:CK P Z B (NV P Z B):=⟨λ_ _ _ _ _ _ h=>aH.toP h,λ_ _ _ h=>h⟩
def KN(P:Program)(Z:List (Nat × AV))(B:Nat):Hk:={ call:=kR P Z,loop:=λc s Q=>gC P Z B (.loop c) s Q }
theorem UR:CK P Z B (KN P Z B):=⟨λ_ _ _ _ _ _ h=>h,λ_ _ _ h=>h⟩
def jB(mem:aP)(J:List (Nat × Nat))(as bs:List AV):Prop:=as.length=bs.length/\∀(j:Nat) (c c':AV),as[j]? = some c->bs[j]? = some c'->Cv mem J c c'
theorem aH.use{F:FuncId}{as args:List AV}{ms mem m1 rest:aP}{ns nx:Nat}{Qs K:AV->aP->Nat->Prop}(hΓ:∀p∈Z,NN p.2)(h:aH P Z F as ms ns Qs)(J:List (Nat × Nat))
  (hp:z8 mem m1 rest) (hrest:(rest.map (·.1)).Nodup) (hargs:jB m1 J args as) (hM:Wi m1 J ms) (hnod:(ms.map (·.1)).Nodup) (hinj:Si J) (hlt:∀id i,lk J id=some i->i<ns)
  (hk:∀r m n,Qs r m n->ns<=n->∃τ r' m' n',nx<=n'/\Cv m τ r r'/\Wi m τ m'/\(m'.map (·.1)).Nodup/\Si τ/\(∀i id,lk τ i=some id->(i<ns/\lk J id=some i)\/(ns<=i/\nx<=id/\id<n')) /\
   (∀p∈m',∀q∈rest,p.1≠q.1)/\K r' (m'++rest) n'):aH P Z F args mem nx K:=by
 refine⟨λX D C w vs hD hm hv=>?_⟩;obtain⟨p1,pv⟩:=hm.part hp;have hσ:∀id i,lk J id=some i->D id->(∃id,lk J id=some i/\D id)/\pV J C C i=C id:=λid i h1 h2=>⟨⟨id,h1,h2⟩,uH hinj h1⟩
 obtain⟨s1,sv,so⟩:=p1.turn (D':=λi=>∃id,lk J id=some i/\D id) hΓ hσ hM hnod hinj;have hvs:m9 (pV J C C) (λi=>∃id,lk J id=some i/\D id) (OX (XR X C rest) (pV J C C) ms) w as vs:=
  ⟨by rw[<-hargs.1];exact hv.1,λj c' x hc' hx=>by
   obtain⟨c,hc⟩:=dZ hargs.1 hc';exact sv c c' (hargs.2 j c c' hc hc') _ (pv _ _ (hv.2 j c x hc hx))⟩
 refine(h.run _ _ _ w vs (λi ⟨id,h1,_⟩=>hlt id i h1) s1 hvs).mono ?_;rintro e w' ⟨r,v,m,n,ρs,rfl,hq,hn,r1,rv,ext⟩;obtain⟨τ,r',m',n',hn',t1,t2,t3,t4,t5,t6,hK⟩:=hk r m n hq hn;have hτ:∀i id,lk τ i=some id->dn (λi=>∃id,lk J id=some i/\D id) ns n i->dn D nx n' id/\pV τ ρs C id=ρs i:=by
  intro i id h1 h2;refine⟨?_,uH t4 h1⟩;rcases t5 i id h1 with⟨h3,h4⟩|⟨h3,h4,h5⟩
  .rcases h2 with⟨id0,h5,h6⟩|⟨h5,_⟩
   .rw[hinj id id0 i h4 h5];exact .inl h6
   .omega
  .exact .inr ⟨h4,h5⟩
 obtain⟨u1,uv,uo⟩:=r1.turn hΓ hτ t2 t3 t4;have hext:Ext D C m1 w (pV τ ρs C) (dn D nx n') m' w':=by
  refine⟨λi hi=>.inl hi,λid hid=>?_,ext.size,λb hb ho=>?_,λp hp' hpn=>?_,ext.env⟩
  .by_cases hex:∃i,lk τ i=some id
   .obtain⟨i,hi⟩:=hex;rw[uH t4 hi];rcases t5 i id hi with⟨h3,h4⟩|⟨h3,h4,h5⟩
    .rw[ext.agree i ⟨id,h4,hid⟩,uH hinj h4]
    .have:=hD id hid;omega
   .exact CO hex
  .refine ext.keep b hb λ⟨p,hp',hpn,e⟩=>ho ?_
   rw[<-e];exact so p hp' hpn
  .obtain⟨q,hq',hqn,e⟩:=uo p hp' hpn;rw[<-e];rcases ext.fresh q hq' hqn with⟨q',hq1,hq2,e'⟩|h1
   .rw[<-e'];exact .inl (so q' hq1 hq2)
   .exact .inr h1
 obtain⟨j1,j2,j3,j4⟩:=MR.join (D':=dn D nx n') hm hp u1 hext (λp hp=>hp) t6 hrest;exact⟨r',v,m'++rest,n',_,rfl,hK,hn',j1,j2 _ _ (uv r r' t1 _ rv),j4 D λi hi=>hi⟩
inductive Sc:AV->Prop
 | bool (b:Bool):Sc (.bool b)
 | int (k:IntKind) (n:Int):Sc (.int k n)
 | str (s:List UInt8):Sc (.str s)
 | nptr:Sc .nptr
 | nsl:Sc .nsl
 | nmap:Sc .nmap
 | nfn:Sc .nfn
 | nif:Sc .nif
 | junk:Sc .junk
 | ifc (t:TypeId) (v:AV):Sc v->Sc (.ifc t v)
 | agg (cs:List AV):(∀(j:Nat) (c:AV),cs[j]? = some c->Sc c)->Sc (.agg cs)
 | tup (cs:List AV):(∀(j:Nat) (c:AV),cs[j]? = some c->Sc c)->Sc (.tup cs)
theorem Sc.vr(h:VR C D O w v x)(hn:Sc v):VR C' D' O' w' v x:=by
 induction h with
 | bool=>exact .bool _
 | int=>exact .int _ _
 | str=>exact .str _
 | nptr=>exact .nptr
 | nsl=>exact .nsl
 | nmap=>exact .nmap
 | nfn=>exact .nfn
 | nif=>exact .nif
 | ifc t v x _ ih=>cases hn with|ifc _ _ hn=>exact .ifc t v x (ih hn)
 | agg cs arr hl ho _ ih=>cases hn with|agg _ hn=>exact .agg cs arr hl ho λj c x h1 h2=>ih j c x h1 h2 (hn j c h1)
 | tup cs arr hl _ ih=>cases hn with|tup _ hn=>exact .tup cs arr hl λj c x h1 h2=>ih j c x h1 h2 (hn j c h1)
 | junk x=>exact .junk x
 | _=>cases hn
theorem aH.lend{F:FuncId}{as args:List AV}{mem:aP}{nx:Nat}{Qs K:AV->aP->Nat->Prop}(hΓ:∀p∈Z,NN p.2)(h:aH P Z F as [] 0 Qs)(hargs:jB mem [] args as)
  (hk:∀r m n,Qs r m n->Sc r/\K r mem nx):aH P Z F args mem nx K:=by
 refine⟨λX D C w vs hD hm hv=>?_⟩;obtain⟨s1,sv,so⟩:=hm.turn (J:=[]) (C':=C) (D':=λ_=>False) (mem':=[]) hΓ (λid id' h=>by simp[lk] at h) (λp hp=>by simp at hp) sq (λi j k h=>by simp[lk] at h);have hvs:m9 C (λ_=>False) (OX X C []) w as vs:=
  ⟨by rw[<-hargs.1];exact hv.1,λj c' x hc' hx=>by
   obtain⟨c,hc⟩:=dZ hargs.1 hc';exact sv c c' (hargs.2 j c c' hc hc') _ (hv.2 j c x hc hx)⟩
 refine(h.run _ _ _ w vs (λi h=>h.elim) s1 hvs).mono ?_;rintro e w' ⟨r,v,m,n,ρs,rfl,hq,hn,r1,rv,ext⟩;obtain⟨hsc,hK⟩:=hk r m n hq;obtain⟨m2,e2⟩:=hm.still ext.size (λb hb=>ext.keep b hb (λ⟨p,hp,_⟩=>by simp at hp)) ext.env;obtain⟨m3,v3,e3⟩:=m2.widen (D':=dn D nx nx) (λi hi=>.inl hi);exact⟨r,v,mem,nx,C,rfl,hK,aAp _,m3,Sc.vr rv hsc,(e2 D λi hi=>hi).trans (e3 D λi hi=>hi)⟩
end
end Go.Ax
