/- A part of the proof. -/
import Derived.Test.YthggfhnnkclooaaGreatDoorAx3
import Derived.Deep.LoopGhost
set_option linter.unusedSectionVars false
set_option linter.unusedVariables false
set_option linter.unusedSimpArgs false
set_option maxRecDepth 1000000
set_option maxHeartbeats 16000000
namespace Go.Ax
open Go
structure Conv(B:Nat)(J:List (Nat × Nat))(s s':St):Prop where
 nt:s'.nt=s.nt
 sl:∀i v',lk s'.sl i=some v'->∃v,lk s.sl i=some v/\Cv s.mem J v v'
 mem:PK s.mem J s'.mem
 nod:(s'.mem.map (·.1)).Nodup
 inj:J1 J
 old:∀id id',lk J id=some id'->(id'<B->id'=id)/\id'<s'.nx
 nx:B<=s'.nx
open Classical in
noncomputable def kF(J:List (Nat × Nat))(E ρ0:Nat->dP)(n:Nat):dP:=if h:∃id,lk J id=some n then E h.choose else ρ0 n
theorem kM{J:List (Nat × Nat)}(hi:J1 J){E ρ0:Nat->dP}{id n:Nat}(h:lk J id=some n):kF J E ρ0 n=E id:=by
 have hex:∃id,lk J id=some n:=⟨id,h⟩
 unfold kF;rw[dif_pos hex];exact congrArg E (hi _ _ n hex.choose_spec h)
theorem wY{J:List (Nat × Nat)}{E ρ0:Nat->dP}{n:Nat}(h:¬ ∃id,lk J id=some n):kF J E ρ0 n=ρ0 n:=by
 unfold kF;rw[dif_neg h]
theorem u9{C:List (Nat × AV)}{X:Nat->Prop}{E:Nat->dP}{D:Nat->Prop}{B n n':Nat}{J:List (Nat × Nat)}{m m':aR}{w:World}(hΓ:∀p∈C,NN p.2)(hD:∀i,D i->i<B)
  (hm:MR C X E (dn D B n) m w) (hM:PK m J m') (hnod:(m'.map (·.1)).Nodup) (hinj:J1 J) (hold:∀id id',lk J id=some id'->(id'<B->id'=id)/\id'<n') :
  MR C X (kF J E E) (dn D B n') m' w/\(∀v v',Cv m J v v'->∀x,VR E (dn D B n) (OX X E m) w v x->VR (kF J E E) (dn D B n') (OX X (kF J E E) m') w v' x) /\
   Ext D E m w (kF J E E) (dn D B n') m' w:=by
 have hσ:∀id id',lk J id=some id'->dn D B n id->dn D B n' id'/\kF J E E id'=E id:=by
  intro id id' h hd;refine⟨?_,kM hinj h⟩;obtain⟨h1,h2⟩:=hold id id' h;rcases ZL id' B with h3|h3
  .have h4:=h1 h3;rcases hd with hd|⟨hd1,hd2⟩
   .rw[h4];exact .inl hd
   .omega
  .exact .inr ⟨h3,h2⟩
 obtain⟨m1,v1,o1⟩:=hm.turn hΓ hσ hM hnod hinj;refine⟨m1,v1,λi hi=>.inl hi,λi hi=>?_,ZA _,λ_ _ _=>rfl,λp hp hn=>.inl (o1 p hp hn),.go⟩;by_cases hex:∃id,lk J id=some i
 .obtain⟨id,h⟩:=hex;rw[kM hinj h];rw[(hold id i h).1 (hD i hi)]
 .exact wY hex
section
variable {P:Program} {C:List (Nat × AV)} {B:Nat} {c:Code}
theorem SR.conv{X:Nat->Prop}{ds:List Deferred × Nat}{E:Nat->dP}{D:Nat->Prop}{s s':St}{a:Act}{w:World}{J:List (Nat × Nat)}(hΓ:∀p∈C,NN p.2)(hD:∀i,D i->i<B)(hc:Conv B J s s')(hs:SR C X ds E (dn D B s.nx) s a w) :
  SR C X ds (kF J E E) (dn D B s'.nx) s' a w/\Ext D E s.mem w (kF J E E) (dn D B s'.nx) s'.mem w:=by
 obtain⟨m1,v1,e1⟩:=u9 hΓ hD hs.mr hc.mem hc.nod hc.inj hc.old;have e1':=e1;refine⟨⟨m1,e1'.mks hs.def0,by rw[hc.nt];exact hs.size,λi v' hi=>?_⟩,e1⟩;obtain⟨v,hv,hcv⟩:=hc.sl i v' hi;exact v1 v v' hcv _ (hs.slot i v hv)
theorem eQ.conv{s s':St}{Q:Exit->St->Prop}{J:List (Nat × Nat)}(hΓ:∀p∈C,NN p.2)(hc:Conv B J s s')(h:eQ P C B c s' Q):eQ P C B c s Q:=by
 refine⟨λrd X ds D E a w hD hs hB hr=>?_⟩;obtain⟨h1,h2⟩:=hs.conv hΓ hD hc;refine wpIn_mono (h.run rd X ds D _ a w hD h1 hc.nx hr) ?_;rintro e a' w' ⟨s2,ρ2,k1,k2,k3,k4⟩;exact⟨s2,ρ2,k1,k2,k3,h2.trans k4⟩
theorem eQ.ph{s:St}{Q:Exit->St->Prop}(t:TypeId)(sz:Nat)(h:eQ P C B c ⟨s.sl,(s.nx,.row t sz [])::s.mem,s.nx+1,s.nt⟩ Q):eQ P C B c s Q:=by
 refine⟨λrd X ds D E a w hD hs hB hr=>?_⟩;obtain⟨m1,v1,e1⟩:=hs.mr.phantom (n:=s.nx) (D':=dn D B (s.nx+1)) (λh'=>aBh _ (z7 hD hB _ h')) (Ca (aB0 _)) (.inr ⟨hB,aAv _⟩) t sz;refine wpIn_mono (h.run rd X ds D _ a w hD ⟨m1,(e1 D λi hi=>.inl hi).mks hs.def0,hs.size,λi v hi=>v1 _ _ (hs.slot i v hi)⟩ (Zk hB (aB0 _)) hr) ?_;rintro e a' w' ⟨s2,ρ2,k1,k2,k3,k4⟩;exact⟨s2,ρ2,k1,k2,k3,(e1 D λi hi=>.inl hi).trans k4⟩
structure Wt(B:Nat)(J:List (Nat × Nat))(r:AV)(m:aR)(r':AV)(m':aR)(n':Nat):Prop where
 res:Cv m J r r'
 mem:PK m J m'
 nod:(m'.map (·.1)).Nodup
 inj:J1 J
 old:∀id id',lk J id=some id'->(id'<B->id'=id)/\id'<n'
 nx:B<=n'
inductive oC (B:Nat) (Q:AV->aR->Nat->Prop) (r:AV) (m:aR) (n:Nat):Prop
 | mk (J:List (Nat × Nat)) (r':AV) (m':aR) (n':Nat):Wt B J r m r' m' n'->Q r' m' n'->oC B Q r m n
theorem aJ.turn{F:FuncId}{args:List AV}{mem:aR}{nx:Nat}{Q:AV->aR->Nat->Prop}(hΓ:∀p∈C,NN p.2)(h:aJ P C F args mem nx (oC nx Q)):aJ P C F args mem nx Q:=by
 refine⟨λX D E w vs hD hm hv=>(h.run X D E w vs hD hm hv).mono ?_⟩;rintro e w' ⟨r,v,m,n,E',h1,⟨J,r',m',n',hc,hq⟩,h3,h4,h5,h6⟩;obtain⟨m1,v1,e1⟩:=u9 hΓ hD h4 hc.mem hc.nod hc.inj hc.old;exact⟨r',v,m',n',_,h1,hq,hc.nx,m1,v1 r r' hc.res _ h5,h6.trans e1⟩
theorem eQ.loop{G:Type}(hΓ:∀p∈C,NN p.2)(ah:G->St)(μ:G->Nat){Q:Exit->St->Prop}
  (h:∀x,eQ P C B c (ah x) λe s=>match e with
   | .normal=>∃y J,Conv B J s (ah y)/\μ y<μ x
   | e=>Q e s) (x:G):eQ P C B (.loop c) (ah x) Q:=by
 refine⟨λrd X ds D E a w hD hs hB hr=>?_⟩;refine CC (λn a' w'=>∃(y:G) (E':Nat->dP),n=μ y/\B<=(ah y).nx/\SR C X ds E' (dn D B (ah y).nx) (ah y) a' w'/\Ext D E (ah x).mem w E' (dn D B (ah y).nx) (ah y).mem w') (μ x) ⟨x,E,rfl,hB,hs,Ext.refl λi hi=>.inl hi⟩ ?_;rintro n a1 w1 ⟨y,ρ1,rfl,hB1,hs1,e1⟩;refine wpIn_mono ((h y).run rd X ds D ρ1 a1 w1 hD hs1 hB1 hr.loop) ?_;rintro e a2 w2 ⟨s2,ρ2,hq,hB2,hs2,e2⟩;cases e with
 | normal=>
  obtain⟨z,J,hc,hlt⟩:=hq;obtain⟨h1,h2⟩:=hs2.conv hΓ hD hc;exact⟨μ z,hlt,z,_,rfl,hc.nx,h1,(e1.trans e2).trans h2⟩
 | exit i=>exact⟨s2,ρ2,hq,hB2,hs2,e1.trans e2⟩
 | goto l=>exact⟨s2,ρ2,hq,hB2,hs2,e1.trans e2⟩
 | ret=>exact⟨s2,ρ2,hq,hB2,hs2,e1.trans e2⟩
 | panic c=>exact⟨s2,ρ2,hq,hB2,hs2,e1.trans e2⟩
 | outgrown=>exact⟨s2,ρ2,hq,hB2,hs2,e1.trans e2⟩
def F8(P:Program)(C:List (Nat × AV))(B:Nat):Hk:={ call:=λF args mem nx K _=>aJ P C F args mem nx K,loop:=λc s Q=>eQ P C B (.loop c) s Q }
theorem vJ:BB P C B (F8 P C B):=⟨λ_ _ _ _ _ _ h=>aJ.toP h,λ_ _ _ h=>h⟩
def G9(P:Program)(C:List (Nat × AV))(B:Nat):Hk:={ call:=cD P C,loop:=λc s Q=>eQ P C B (.loop c) s Q }
theorem Gd:BB P C B (G9 P C B):=⟨λ_ _ _ _ _ _ h=>h,λ_ _ _ h=>h⟩
def iS(mem:aR)(J:List (Nat × Nat))(as bs:List AV):Prop:=as.length=bs.length/\∀(j:Nat) (c c':AV),as[j]? = some c->bs[j]? = some c'->Cv mem J c c'
theorem aJ.use{F:FuncId}{as args:List AV}{ms mem m1 rest:aR}{ns nx:Nat}{Qs K:AV->aR->Nat->Prop}(hΓ:∀p∈C,NN p.2)(h:aJ P C F as ms ns Qs)(J:List (Nat × Nat))
  (hp:vB mem m1 rest) (hrest:(rest.map (·.1)).Nodup) (hargs:iS m1 J args as) (hM:PK m1 J ms) (hnod:(ms.map (·.1)).Nodup) (hinj:J1 J) (hlt:∀id i,lk J id=some i->i<ns)
  (hk:∀r m n,Qs r m n->ns<=n->∃I r' m' n',nx<=n'/\Cv m I r r'/\PK m I m'/\(m'.map (·.1)).Nodup/\J1 I/\(∀i id,lk I i=some id->(i<ns/\lk J id=some i)\/(ns<=i/\nx<=id/\id<n')) /\
   (∀p∈m',∀q∈rest,p.1≠q.1)/\K r' (m'++rest) n'):aJ P C F args mem nx K:=by
 refine⟨λX D E w vs hD hm hv=>?_⟩;obtain⟨p1,pv⟩:=hm.part hp;have hσ:∀id i,lk J id=some i->D id->(∃id,lk J id=some i/\D id)/\kF J E E i=E id:=λid i h1 h2=>⟨⟨id,h1,h2⟩,kM hinj h1⟩
 obtain⟨s1,sv,so⟩:=p1.turn (D':=λi=>∃id,lk J id=some i/\D id) hΓ hσ hM hnod hinj;have hvs:kY (kF J E E) (λi=>∃id,lk J id=some i/\D id) (OX (XR X E rest) (kF J E E) ms) w as vs:=
  ⟨by rw[<-hargs.1];exact hv.1,λj c' x hc' hx=>by
   obtain⟨c,hc⟩:=dO hargs.1 hc';exact sv c c' (hargs.2 j c c' hc hc') _ (pv _ _ (hv.2 j c x hc hx))⟩
 refine(h.run _ _ _ w vs (λi ⟨id,h1,_⟩=>hlt id i h1) s1 hvs).mono ?_;rintro e w' ⟨r,v,m,n,ρs,rfl,hq,hn,r1,rv,ext⟩;obtain⟨I,r',m',n',hn',t1,t2,t3,t4,t5,t6,hK⟩:=hk r m n hq hn;have hτ:∀i id,lk I i=some id->dn (λi=>∃id,lk J id=some i/\D id) ns n i->dn D nx n' id/\kF I ρs E id=ρs i:=by
  intro i id h1 h2;refine⟨?_,kM t4 h1⟩;rcases t5 i id h1 with⟨h3,h4⟩|⟨h3,h4,h5⟩
  .rcases h2 with⟨id0,h5,h6⟩|⟨h5,_⟩
   .rw[hinj id id0 i h4 h5];exact .inl h6
   .omega
  .exact .inr ⟨h4,h5⟩
 obtain⟨u1,uv,uo⟩:=r1.turn hΓ hτ t2 t3 t4;have hext:Ext D E m1 w (kF I ρs E) (dn D nx n') m' w':=by
  refine⟨λi hi=>.inl hi,λid hid=>?_,ext.size,λb hb ho=>?_,λp hp' hpn=>?_,ext.env⟩
  .by_cases hex:∃i,lk I i=some id
   .obtain⟨i,hi⟩:=hex;rw[kM t4 hi];rcases t5 i id hi with⟨h3,h4⟩|⟨h3,h4,h5⟩
    .rw[ext.agree i ⟨id,h4,hid⟩,kM hinj h4]
    .have:=hD id hid;omega
   .exact wY hex
  .refine ext.keep b hb λ⟨p,hp',hpn,e⟩=>ho ?_
   rw[<-e];exact so p hp' hpn
  .obtain⟨q,hq',hqn,e⟩:=uo p hp' hpn;rw[<-e];rcases ext.fresh q hq' hqn with⟨q',hq1,hq2,e'⟩|h1
   .rw[<-e'];exact .inl (so q' hq1 hq2)
   .exact .inr h1
 obtain⟨j1,j2,j3,j4⟩:=MR.join (D':=dn D nx n') hm hp u1 hext (λp hp=>hp) t6 hrest;exact⟨r',v,m'++rest,n',_,rfl,hK,hn',j1,j2 _ _ (uv r r' t1 _ rv),j4 D λi hi=>hi⟩
inductive Sc:AV->Prop
 | bool (b:Bool):Sc (.bool b)
 | int (k:IntKind) (n:Int):Sc (.int k n)
 | str (s:List UInt8):Sc (.str s)
 | nptr:Sc .nptr
 | nsl:Sc .nsl
 | nmap:Sc .nmap
 | nfn:Sc .nfn
 | nif:Sc .nif
 | junk:Sc .junk
 | ifc (t:TypeId) (v:AV):Sc v->Sc (.ifc t v)
 | agg (cs:List AV):(∀(j:Nat) (c:AV),cs[j]? = some c->Sc c)->Sc (.agg cs)
 | tup (cs:List AV):(∀(j:Nat) (c:AV),cs[j]? = some c->Sc c)->Sc (.tup cs)
theorem Sc.vr{E E':Nat->dP}{D D' O O':Nat->Prop}{w w':World}{v:AV}{x:Value}(h:VR E D O w v x)(hn:Sc v):VR E' D' O' w' v x:=by
 induction h with
 | bool=>exact .bool _
 | int=>exact .int _ _
 | str=>exact .str _
 | nptr=>exact .nptr
 | nsl=>exact .nsl
 | nmap=>exact .nmap
 | nfn=>exact .nfn
 | nif=>exact .nif
 | ifc t v x _ ih=>cases hn with|ifc _ _ hn=>exact .ifc t v x (ih hn)
 | agg cs arr hl ho _ ih=>cases hn with|agg _ hn=>exact .agg cs arr hl ho λj c x h1 h2=>ih j c x h1 h2 (hn j c h1)
 | tup cs arr hl _ ih=>cases hn with|tup _ hn=>exact .tup cs arr hl λj c x h1 h2=>ih j c x h1 h2 (hn j c h1)
 | junk x=>exact .junk x
 | _=>cases hn
theorem aJ.lend{F:FuncId}{as args:List AV}{mem:aR}{nx:Nat}{Qs K:AV->aR->Nat->Prop}(hΓ:∀p∈C,NN p.2)(h:aJ P C F as [] 0 Qs)(hargs:iS mem [] args as)
  (hk:∀r m n,Qs r m n->Sc r/\K r mem nx):aJ P C F args mem nx K:=by
 refine⟨λX D E w vs hD hm hv=>?_⟩;obtain⟨s1,sv,so⟩:=hm.turn (J:=[]) (E':=E) (D':=λ_=>False) (mem':=[]) hΓ (λid id' h=>by simp[lk] at h) (λp hp=>by simp at hp) sq (λi j k h=>by simp[lk] at h);have hvs:kY E (λ_=>False) (OX X E []) w as vs:=
  ⟨by rw[<-hargs.1];exact hv.1,λj c' x hc' hx=>by
   obtain⟨c,hc⟩:=dO hargs.1 hc';exact sv c c' (hargs.2 j c c' hc hc') _ (hv.2 j c x hc hx)⟩
 refine(h.run _ _ _ w vs (λi h=>h.elim) s1 hvs).mono ?_;rintro e w' ⟨r,v,m,n,ρs,rfl,hq,hn,r1,rv,ext⟩;obtain⟨hsc,hK⟩:=hk r m n hq;obtain⟨m2,e2⟩:=hm.still ext.size (λb hb=>ext.keep b hb (λ⟨p,hp,_⟩=>by simp at hp)) ext.env;obtain⟨m3,v3,e3⟩:=m2.widen (D':=dn D nx nx) (λi hi=>.inl hi);exact⟨r,v,mem,nx,E,rfl,hK,ZA _,m3,Sc.vr rv hsc,(e2 D λi hi=>hi).trans (e3 D λi hi=>hi)⟩
end
end Go.Ax
