/- A part of the proof. -/
import Derived.Test.YthggfhnnkclooaaGreatDoorAx3
import Derived.LoopNIn
import Derived.Scope
import Derived.Deep.LoopGhost
set_option linter.unusedSectionVars false
set_option linter.unusedVariables false
set_option linter.unusedSimpArgs false
set_option maxRecDepth 1000000
set_option maxHeartbeats 16000000
namespace Go.Ax
open Go
def EW(P:Program)(C:List (Nat × AV))(H:Hk):Code->St->(Exit->St->Prop)->Prop
 | .skip,s,Q=>Q .normal s
 | .seq x y,s,Q=>EW P C H x s λe s'=>match e with
  | .normal=>EW P C H y s' Q
  | e=>Q e s'
 | .cond c x y,s,Q=>match ev C s c with
  | some (.bool b)=>match b with
   | true=>EW P C H x s Q
   | false=>EW P C H y s Q
  | _=>False
 | .block id c,s,Q=>EW P C H c s λe s'=>match e with
  | .exit i=>match Nat.beq i id with
   | true=>Q .normal s'
   | false=>Q (.exit i) s'
  | e=>Q e s'
 | .label _,s,Q=>Q .normal s
 | .scope c,s,Q=>EW P C H c s λe s'=>match e with
  | .goto _=>False
  | e=>Q e s'
 | .loop c,s,Q=>H.loop c s Q
 | .exit i,s,Q=>Q (.exit i) s
 | .ret,s,Q=>Q .ret s
 | .region _ ops draw,s,Q=>match draw with
  | false=>xA P C H ops.toList ops.toList s (λs'=>Q .normal s') λx s'=>Q (.panic [pe x]) s'
  | true=>match P.follows .mixedOrders with
   | true=>FJ P C H ops.toList s (λs'=>Q .normal s') λx m n=>Q (.panic [pe x]) ⟨vH ops.toList s.sl,m,n,s.nt⟩
   | false=>False
 | _,_,_=>False
theorem DG{F:Fence}{n:Nat}{P:Program}{Q:Exit->Act->World->Prop}{a:Act}{w:World}{c:Code}(h:c.wpIn F n P (Exit.noGoto Q) a w):(Code.scope c).wpIn F n P Q a w:=by
 intro b k cs hro hb hr;have s1:step P (lone (b.atR a (.code (.scope c)::k)) cs w) = .next (lone (b.atR a (.code c :: .inScope c::k)) cs w):=step_lone_go (by simp[stepG,stepG.exec,Frame.atR]);have s2:∀(a:Act) (w:World),step P (lone (b.atR a (.inScope c::k)) cs w) = .next (lone (b.atR a k) cs w):=λa w=>step_lone_go (by simp[stepG,stepG.exec,Frame.atR])
 obtain⟨e,a₁,w₁,hq,harr⟩:=h b (.inScope c::k) cs hro hb hr;cases e with
 | normal=>exact⟨.normal,a₁,w₁,hq,.head (fenced_calm hb hr rfl) s1 (StepsIn.trans harr (.one (fenced_calm hb hr rfl) (s2 a₁ w₁)))⟩
 | goto l=>exact hq.elim
 | exit id=>
  have ex:exitTo id (.inScope c::k)=exitTo id k:=by simp[exitTo]
  exact⟨.exit id,a₁,w₁,hq,.of_steps (.one (fenced_calm hb hr rfl) s1) ⟨λk' hk=>harr.1 k' (by rw[ex];exact hk),λh1 hk=>harr.2 h1 (by rw[ex];exact hk)⟩⟩
 | ret=>exact⟨.ret,a₁,w₁,hq,.of_steps (.one (fenced_calm hb hr rfl) s1) harr⟩
 | panic ch=>exact⟨.panic ch,a₁,w₁,hq,.of_steps (.one (fenced_calm hb hr rfl) s1) harr⟩
 | outgrown=>exact⟨.outgrown,a₁,w₁,hq,.of_steps (.one (fenced_calm hb hr rfl) s1) harr⟩
theorem rN{P:Program}{C:List (Nat × AV)}{H:Hk}{B:Nat}(hH:zL P C B H):∀(c:Code) (s:St) (Q:Exit->St->Prop),EW P C H c s Q->eH P C B c s Q:=by
 intro c
 induction c with
 | skip=>exact λs Q h=>⟨λrd X ds D E a w hD hs hB _=>wpIn_skip ⟨s,E,h,hB,hs,Ext.refl λi hi=>.inl hi⟩⟩
 | exit i=>exact λs Q h=>⟨λrd X ds D E a w hD hs hB _=>wpIn_exit ⟨s,E,h,hB,hs,Ext.refl λi hi=>.inl hi⟩⟩
 | ret=>exact λs Q h=>⟨λrd X ds D E a w hD hs hB _=>wpIn_ret ⟨s,E,h,hB,hs,Ext.refl λi hi=>.inl hi⟩⟩
 | loop c ih=>exact λs Q h=>hH.loop c s Q h
 | label l=>exact λs Q h=>⟨λrd X ds D E a w hD hs hB _=>wpIn_label ⟨s,E,h,hB,hs,Ext.refl λi hi=>.inl hi⟩⟩
 | scope c ih=>
  intro s Q h;simp only[EW] at h;refine⟨λrd X ds D E a w hD hs hB hr=>DG (wpIn_mono ((ih s _ h).run rd X ds D E a w hD hs hB hr.scope) ?_)⟩;rintro e a' w' ⟨s',E',hq,hB',hs',hext⟩;cases e with
  | goto l=>exact hq.elim
  | normal=>exact⟨s',E',hq,hB',hs',hext⟩
  | exit i=>exact⟨s',E',hq,hB',hs',hext⟩
  | ret=>exact⟨s',E',hq,hB',hs',hext⟩
  | panic c=>exact⟨s',E',hq,hB',hs',hext⟩
  | outgrown=>exact⟨s',E',hq,hB',hs',hext⟩
 | seq x y ihx ihy=>
  intro s Q h;refine⟨λrd X ds D E a w hD hs hB hr=>wpIn_seq (wpIn_mono ((ihx s _ h).run rd X ds D E a w hD hs hB hr.seq1) ?_)⟩;rintro e a' w' ⟨s',E',hq,hB',hs',hext⟩;cases e with
  | normal=>
   refine wpIn_mono ((ihy s' Q hq).run rd X ds D E' a' w' hD hs' hB' hr.seq2) ?_;rintro e a2 w2 ⟨s2,ρ2,h1,h2,h3,h4⟩;exact⟨s2,ρ2,h1,h2,h3,hext.trans h4⟩
  | exit i=>exact⟨s',E',hq,hB',hs',hext⟩
  | goto l=>exact⟨s',E',hq,hB',hs',hext⟩
  | ret=>exact⟨s',E',hq,hB',hs',hext⟩
  | panic c=>exact⟨s',E',hq,hB',hs',hext⟩
  | outgrown=>exact⟨s',E',hq,hB',hs',hext⟩
 | cond c x y ihx ihy=>
  intro s Q h;simp only[EW] at h;split at h
  .rename_i b hc;refine⟨λrd X ds D E a w hD hs hB hr=>?_⟩;have hv:=aZ hs hc;generalize he:a.eval c=cv at hv;cases hv;cases b with
   | true=>exact wpIn_cond_true he ((ihx s Q h).run rd X ds D E a w hD hs hB hr.cond1)
   | false=>exact wpIn_cond_false he ((ihy s Q h).run rd X ds D E a w hD hs hB hr.cond2)
  .exact h.elim
 | block id c ih=>
  intro s Q h;refine⟨λrd X ds D E a w hD hs hB hr=>wpIn_block (wpIn_mono ((ih s _ h).run rd X ds D E a w hD hs hB hr.block) ?_)⟩;rintro e a' w' ⟨s',E',hq,hB',hs',hext⟩;cases e with
  | exit i=>
   simp only[Exit.inBlock];simp only at hq;split at hq
   .rename_i hi;rw[Y4 (Nat.eq_of_beq_eq_true hi)];exact⟨s',E',hq,hB',hs',hext⟩
   .rename_i hi;rw[Yz (Z6 hi)];exact⟨s',E',hq,hB',hs',hext⟩
  | normal=>exact⟨s',E',hq,hB',hs',hext⟩
  | goto l=>exact⟨s',E',hq,hB',hs',hext⟩
  | ret=>exact⟨s',E',hq,hB',hs',hext⟩
  | panic c=>exact⟨s',E',hq,hB',hs',hext⟩
  | outgrown=>exact⟨s',E',hq,hB',hs',hext⟩
 | region id ops draw=>
  intro s Q h;cases draw with
  | false=>
   simp only[EW] at h;refine⟨λrd X ds D E a w hD hs hB _=>wpIn_region_list ?_⟩;have:=s9 hH ops.toList ops.toList s _ _ h rd X ds D E a w (λe a' w'=>∃(s':St) (E':Nat->dP),Q e s'/\B<=s'.nx/\SR C X ds E' (dn D B s'.nx) s' a' w'/\Ext D E s.mem w E' (dn D B s'.nx) s'.mem w') hD hs hB
    (λs' E' a' w' h1 h2 h3 h4=>⟨s',E',h1,h2,h3,h4⟩) (λx s' E' a' w' h1 h2 h3 h4=>⟨s',E',h1,h2,h3,h4⟩)
   simpa using this
  | true=>
   simp only[EW] at h;split at h
   .rename_i hmix;refine⟨λrd X ds D E a w hD hs hB hr=>?_⟩;have:=Hf hH h hmix id rd X ds D E a w hD hs hB (λe a' w'=>∃(s':St) (E':Nat->dP),Q e s'/\B<=s'.nx/\SR C X ds E' (dn D B s'.nx) s' a' w'/\Ext D E s.mem w E' (dn D B s'.nx) s'.mem w')
     (λs' E' a' w' h1 h2 h3 h4=>⟨s',E',h1,h2,h3,h4⟩) (λx m' n' E' a' w' h1 h2 h3 h4=>⟨_,E',h1,h2,h3,h4⟩)
    simpa using this
   .exact h.elim
 | _=>intro s Q h;simp only[EW] at h
def IN(k:Nat):List AV->List (Nat × AV)
 | []=>[]
 | a::r=>(k,a)::IN (k+1) r
theorem L3:∀(l:List AV) (k i:Nat) (v:AV),lk (IN k l) i=some v->k<=i/\l[i-k]? = some v
 | [],k,i,v,h=>by simp[IN,lk] at h
 | a::r,k,i,v,h=>by
  simp only[IN,lk] at h;split at h
  .rename_i hk;have hk:=Nat.eq_of_beq_eq_true hk;subst hk;cases h;simp
  .rename_i hk;have hk:=Z6 hk;obtain⟨h1,h2⟩:=L3 r (k+1) i v h;refine⟨om, ?_⟩;rw[show i-k=(i-(k+1))+1 by omega];simpa using h2
def enter(ntmps:Nat)(args:List AV)(mem:aQ)(nx:Nat):St:={ sl:=IN 0 args,mem:=mem,nx:=nx,nt:=args.length+(ntmps-args.length) }
def xR(P:Program)(s:St):List ResultVar->Option (List AV)
 | []=>some []
 | .tmp t::r=>match lk s.sl t with
  | some v=>match xR P s r with
   | some l=>some (v::l)
   | none=>none
  | none=>none
 | .cell a t::r=>match lk s.sl a with
  | some p=>match DY P s.mem t p with
   | some v=>match xR P s r with
    | some l=>some (v::l)
    | none=>none
   | none=>none
  | none=>none
def Ah(P:Program)(rs:List ResultVar)(s:St):Option AV:=
 match xR P s rs with
 | some [v]=>some v
 | some l=>some (.tup l)
 | none=>none
theorem qD{P:Program}{C:List (Nat × AV)}{X:Nat->Prop}{ds:List Deferred × Nat}{E:Nat->dP}{D:Nat->Prop}{s:St}{a:Act}{w:World}(hs:SR C X ds E D s a w):∀{rs:List ResultVar} {l:List AV},xR P s rs=some l ->
  ∃vs:List Value,(rs.mapM λx=>match x with
     | ResultVar.tmp t=>(pure (a.tmps.getD t undef):Sem Value)
     | ResultVar.cell x t=>do
      let p <-asAddr (a.tmps.getD x undef)
      loadVar t p).run P w = .ok vs w/\j8 E D (OX X E s.mem) w l vs
 | [],l,h=>by simp only[xR] at h;cases h;exact⟨[],sq,.nil⟩
 | .tmp t::r,l,h=>by
  simp only[xR] at h;split at h
  .rename_i v hv;split at h
   .rename_i l' hl;cases h;obtain⟨vs,h1,h2⟩:=qD hs hl;exact⟨a.tmps.getD t undef::vs,by rw[List.mapM_cons,Sem.run_bind,Sem.run_pure,Result.andThen_ok,Sem.run_bind,h1];rfl,.cons (hs.slot t v hv) h2⟩
   .cases h
  .cases h
 | .cell x t::r,l,h=>by
  simp only[xR] at h;split at h
  .rename_i p hp;split at h
   .rename_i v hv;split at h
    .rename_i l' hl;cases h;obtain⟨vs,h1,h2⟩:=qD hs hl;obtain⟨y,hy,hr⟩:=uP (P:=P) hs.mr hv (hs.slot x p hp);refine⟨y::vs, ?_,.cons hr h2⟩;have hy':(do let p <-asAddr (a.tmps.getD x undef);loadVar t p:Sem Value).run P w = .ok y w:=by
      rw[<-hy];have hpv:=hs.slot x p hp;unfold DY at hv;split at hv
      .generalize a.tmps.getD x undef=q at hpv;cases hpv;simp[Instr.loadAt,Instr.sureAddr,asAddr]
      .generalize a.tmps.getD x undef=q at hpv;cases hpv;simp[Instr.loadAt,Instr.sureAddr,asAddr]
      .cases hv
     rw[List.mapM_cons,Sem.run_bind,hy',Result.andThen_ok,Sem.run_bind,h1];rfl
    .cases h
   .cases h
  .cases h
theorem yV {P:Program} {w:World} {fn:Func} {tmps:Array Value} {vs:List Value} (h:(fn.results.toList.mapM λx=>match x with
     | ResultVar.tmp t=>(pure (tmps.getD t undef):Sem Value)
     | ResultVar.cell x t=>do
      let p <-asAddr (tmps.getD x undef)
      loadVar t p).run P w = .ok vs w):(results fn tmps).run P w = .ok (match vs with|[x]=>x|_=>.tuple vs.toArray) w:=by
 unfold results;rw[Sem.run_bind,Array.mapM_eq_mapM_toList];have h':(List.toArray <$> (fn.results.toList.mapM λx=>match x with
     | ResultVar.tmp t=>(pure (tmps.getD t undef):Sem Value)
     | ResultVar.cell x t=>do
      let p <-asAddr (tmps.getD x undef)
      loadVar t p)).run P w = .ok vs.toArray w:=by
  rw[Sem.run_map,h];rfl
 refine(congrArg (λr:Result (Array Value)=>r.andThen λvs w'=>Sem.run P (pure (if h:vs.size=1 then vs[0] else Value.tuple vs)) w') h').trans ?_
 match vs with
 | []=>rfl
 | [x]=>rfl
 | x::y::r=>simp
theorem x9{P:Program}{C:List (Nat × AV)}{X:Nat->Prop}{ds:List Deferred × Nat}{E:Nat->dP}{D:Nat->Prop}{s:St}{a:Act}{w:World}(hs:SR C X ds E D s a w){fn:Func}{v:AV}(h:Ah P fn.results.toList s=some v) :
  ∃x,(results fn a.tmps).run P w = .ok x w/\VR E D (OX X E s.mem) w v x:=by
 unfold Ah at h;split at h
 .rename_i u hu;cases h;obtain⟨vs,h1,h2⟩:=qD hs hu;obtain⟨x,rfl⟩:∃x,vs=[x]:=by
   have:=h2.1;simp at this;exact List.length_eq_one_iff.1 this.symm
  exact⟨x,yV h1,h2.2 0 v x rfl rfl⟩
 .rename_i l hl hu;cases h;obtain⟨vs,h1,h2⟩:=qD hs hu;refine⟨.tuple vs.toArray, ?_,h2.tup⟩;rw[yV h1]
  match vs,h2.1 with
  | [],_=>rfl
  | [x],e=>
   exfalso;simp at e;obtain⟨y,rfl⟩:=List.length_eq_one_iff.1 e;exact hl y rfl
  | x::y::r,_=>rfl
 .cases h
def Nc(P:Program)(rs:List ResultVar)(Q:AV->aQ->Nat->Prop):Exit->St->Prop:=λe s=>
 match e with
 | .normal=>match Ah P rs s with
  | some r=>Q r s.mem s.nx
  | none=>False
 | .ret=>match Ah P rs s with
  | some r=>Q r s.mem s.nx
  | none=>False
 | _=>False
theorem Ae{C:List (Nat × AV)}{X D:Nat->Prop}{E:Nat->dP}{w:World}{n:Nat}{args:List AV}{vs:List Value}{mem:aQ}{nx:Nat}(hD:∀i,D i->i<nx)(hm:MR C X E D mem w)(hv:j8 E D (OX X E mem) w args vs){k:Nat}(hk:k<=w.heap.size+1) :
  SR C X ([],k) E (dn D nx nx) (enter n args mem nx) { tmps:=vs.toArray++Array.replicate (n-vs.toArray.size) undef,defers:=[] } w:=by
 have hl:=hv.1;obtain⟨m1,mono1,_⟩:=hm.widen (D':=dn D nx nx) (λi hi=>.inl hi);refine⟨m1,FX.start (ds:=([],k)) hk,by simp[enter,hl],λi v hi=>?_⟩;obtain⟨_,h2⟩:=L3 args 0 i v hi;simp only[Nat.sub_zero] at h2;have hlt:i<vs.length:=by
  rw[<-hl];rcases ZG i args.length with h'|h'
  .exact h'
  .rw[ZH h'] at h2;cases h2
 have e:(vs.toArray++Array.replicate (n-vs.toArray.size) undef).getD i undef=vs[i]:=by
  simp[aBI,hlt]
 rw[e];exact mono1 _ _ (hv.2 i v _ h2 (by simp[hlt]))
theorem sP{P:Program}{fn:Func}{tmps:Array Value}{R:Ending->World->Prop}{ds:List Deferred}{u:FrameMode}(hu:u≠.run)(k:Nat)(O:Nat->Prop)(af:World->Prop)
  (hJ:∀w b,af w->k<=b+1->¬O b->w.heap[b]? = some (.deferred (some []))->af (w.putObj b (.deferred none))) (hend:∀w,af w->LeavesInM (FW none) 0 P fn tmps R ds u w) :
  ∀(ms:List Deferred) (w:World),af w->ms.Nodup->(∀d∈ms,∃b,d={ target:=.collected b,args:=#[] }/\k<=b+1/\¬O b/\w.heap[b]? = some (.deferred (some [])))->LeavesInM (FW none) 0 P fn tmps R (ms++ds) u w
 | [],w,h,_,_=>hend w h
 | d::ms,w,h,hn,hd=>by
  obtain⟨b,rfl,hb,ho,hh⟩:=hd d (ZQ ..);refine⟨hu,.inl ⟨b,_,rfl,run_takeDeferred hh,sP hu k O af hJ hend ms _ (hJ w b h hb ho hh) (Zv.1 hn).2 λd' hd'=>?_⟩⟩;obtain⟨b',rfl,hb',ho',hh'⟩:=hd d' (ZE _ hd');refine⟨b',rfl,hb',ho', ?_⟩;have hne:b'≠b:=by
   rintro rfl;exact(Zv.1 hn).1 hd'
  rw[World.putObj_heap_other hne];exact hh'
theorem nD{P:Program}{C:List (Nat × AV)}{X D:Nat->Prop}{E E':Nat->dP}{B:Nat}{mem:aQ}{w w':World}{s':St}{a':Act}{fn:Func}{R:Ending->World->Prop}{r:AV}(hr:Ah P fn.results.toList s'=some r)
  (hs':SR C X ([],w.heap.size+1) E' (dn D B s'.nx) s' a' w') (hext:Ext D E mem w E' (dn D B s'.nx) s'.mem w')
  (hR:∀x w2,MR C X E' (dn D B s'.nx) s'.mem w2->VR E' (dn D B s'.nx) (OX X E' s'.mem) w2 r x->Ext D E mem w E' (dn D B s'.nx) s'.mem w2->R (.returned x) w2) :
  LeavesInM (FW none) 0 P fn a'.tmps R a'.defers .returning w':=by
 obtain⟨_,ms,h2,_,hn,h3⟩:=hs'.def0;rw[h2];refine sP sq (w.heap.size+1) (OX X E' s'.mem) (λw2=>MR C X E' (dn D B s'.nx) s'.mem w2/\(∀i v,lk s'.sl i=some v->VR E' (dn D B s'.nx) (OX X E' s'.mem) w2 v (a'.tmps.getD i undef))/\Ext D E mem w E' (dn D B s'.nx) s'.mem w2)
  ?_ ?_ ms w' ⟨hs'.mr,hs'.slot,hext⟩ hn h3
 .rintro w2 b ⟨j1,j2,j3⟩ hb ho hh;obtain⟨k1,k2⟩:=j1.shut (o':=.deferred none) hh rfl ho;refine⟨k1,λi v hi=>k2 _ _ (j2 i v hi),j3.le,j3.agree,by simpa using j3.size,λc hc hno=>?_,j3.fresh,⟨j3.env.os,j3.env.output,j3.env.tape,j3.env.drawn⟩⟩;rw[World.putObj_heap_other om];exact j3.keep c hc hno
 .rintro w2 ⟨j1,j2,j3⟩;obtain⟨x,h1,h2⟩:=x9 (ds:=([],0)) (a:={ a' with defers:=[] }) ⟨j1,FX.start (ds:=([],0)) (aAp _),hs'.size,j2⟩ hr;exact⟨x,h1,hR x w2 j1 h2 j3⟩
theorem vY{P:Program}{C:List (Nat × AV)}{X D:Nat->Prop}{E E':Nat->dP}{B:Nat}{mem:aQ}{w w':World}{s':St}{a':Act}{fn:Func}{R:Ending->World->Prop}{ch:List PanicEntry}
  (hs':SR C X ([],w.heap.size+1) E' (dn D B s'.nx) s' a' w') (hext:Ext D E mem w E' (dn D B s'.nx) s'.mem w')
  (hR:∀w2,MR C X E' (dn D B s'.nx) s'.mem w2->Ext D E mem w E' (dn D B s'.nx) s'.mem w2->R (.panicked ch) w2) :
  LeavesInM (FW none) 0 P fn a'.tmps R a'.defers (.panicking ch) w':=by
 obtain⟨_,ms,h2,_,hn,h3⟩:=hs'.def0;rw[h2];refine sP sq (w.heap.size+1) (OX X E' s'.mem) (λw2=>MR C X E' (dn D B s'.nx) s'.mem w2/\Ext D E mem w E' (dn D B s'.nx) s'.mem w2)
  ?_ ?_ ms w' ⟨hs'.mr,hext⟩ hn h3
 .rintro w2 b ⟨j1,j3⟩ hb ho hh;obtain⟨k1,k2⟩:=j1.shut (o':=.deferred none) hh rfl ho;refine⟨k1,j3.le,j3.agree,by simpa using j3.size,λc hc hno=>?_,j3.fresh,⟨j3.env.os,j3.env.output,j3.env.tape,j3.env.drawn⟩⟩;rw[World.putObj_heap_other om];exact j3.keep c hc hno
 .rintro w2 ⟨j1,j3⟩;exact hR w2 j1 j3
theorem xG{P:Program}{C:List (Nat × AV)}{F:FuncId}{fn:Func}{c:Code}{args:List AV}{mem:aQ}{nx:Nat}{Q:AV->aQ->Nat->Prop}(hf:P.funcs[F]? = some fn)(hb:fn.body=some c)
  (h:eH P C nx c (enter fn.ntmps args mem nx) (Nc P fn.results.toList Q)) (hF:Nat.beq F YF=false:=by rfl):aJ P C F args mem nx Q:=by
 refine⟨λX D E w vs hD hm hv=>.of hF (callsIn_wide (n:=0).1 (callsIn_of_wp_marks (F:=FW none) hf hb trivial ?_))⟩;refine wpIn_mono (h.run none X ([],w.heap.size+1) D E _ w hD (Ae hD hm hv (Y8 _)) (Y8 _) (λ_=>⟨rfl,Nat.succ_ne_zero _⟩)) ?_;rintro e a' w' ⟨s',E',hq,hB',hs',hext⟩;cases e with
 | normal=>
  simp only[Nc] at hq;split at hq
  .rename_i r hr;exact nD hr hs' hext λx w2 j1 j2 j3=>⟨r,x,s'.mem,s'.nx,E',rfl,hq,hB',j1,j2,j3⟩
  .exact hq.elim
 | ret=>
  simp only[Nc] at hq;split at hq
  .rename_i r hr;exact nD hr hs' hext λx w2 j1 j2 j3=>⟨r,x,s'.mem,s'.nx,E',rfl,hq,hB',j1,j2,j3⟩
  .exact hq.elim
 | _=>exact hq.elim
def DA(P:Program)(rs:List ResultVar)(Q:AV->aQ->Nat->Prop)(Qp:Value->aQ->Nat->Prop):Exit->St->Prop:=λe s=>
 match e with
 | .normal=>match Ah P rs s with
  | some r=>Q r s.mem s.nx
  | none=>False
 | .ret=>match Ah P rs s with
  | some r=>Q r s.mem s.nx
  | none=>False
 | .panic [⟨x,false,false⟩]=>Qp x s.mem s.nx
 | _=>False
theorem mD{P:Program}{C:List (Nat × AV)}{F:FuncId}{fn:Func}{c:Code}{args:List AV}{mem:aQ}{nx:Nat}{Q:AV->aQ->Nat->Prop}{Qp:Value->aQ->Nat->Prop}(hf:P.funcs[F]? = some fn)(hb:fn.body=some c)
  (h:eH P C nx c (enter fn.ntmps args mem nx) (DA P fn.results.toList Q Qp)) (hF:Nat.beq F YF=false:=by rfl):bV P C F args mem nx Q Qp:=by
 refine⟨λX D E w vs hD hm hv=>.of hF (callsIn_wide (n:=0).1 (callsIn_of_wp_marks (F:=FW none) hf hb trivial ?_))⟩;refine wpIn_mono (h.run none X ([],w.heap.size+1) D E _ w hD (Ae hD hm hv (Y8 _)) (Y8 _) (λ_=>⟨rfl,Nat.succ_ne_zero _⟩)) ?_;rintro e a' w' ⟨s',E',hq,hB',hs',hext⟩;cases e with
 | normal=>
  simp only[DA] at hq;split at hq
  .rename_i r hr;exact nD hr hs' hext λx w2 j1 j2 j3=>⟨s'.mem,s'.nx,E',hB',j1,j3,.inl ⟨r,x,rfl,hq,j2⟩⟩
  .exact hq.elim
 | ret=>
  simp only[DA] at hq;split at hq
  .rename_i r hr;exact nD hr hs' hext λx w2 j1 j2 j3=>⟨s'.mem,s'.nx,E',hB',j1,j3,.inl ⟨r,x,rfl,hq,j2⟩⟩
  .exact hq.elim
 | panic ch=>
  simp only[DA] at hq;split at hq
  .rename_i x he;cases he
  .rename_i x he;cases he
  .rename_i x he;cases he;exact vY hs' hext λw2 j1 j3=>⟨s'.mem,s'.nx,E',hB',j1,j3,.inr ⟨x,rfl,hq⟩⟩
  .exact hq.elim
 | _=>exact(show False from hq).elim
theorem Bs{rd:Option Nat}{P:Program}{c:Code}:∀(m:Nat) (a:Act) (w:World) (Q1 Q2:Exit->Act->World->Prop),(∀e a w,Q1 e a w->Q2 e a w)->Code.roundsIn (FW rd) 0 P c Q1 m a w->Code.roundsIn (FW rd) 0 P c Q2 m a w
 | 0,_,_,_,_,_,h=>h
 | m+1,a,w,Q1,Q2,h12,h=>by
  rw[roundsIn_succ] at h |-;refine wpIn_mono h ?_;intro e a w h;cases e with
  | normal=>exact Bs m a w Q1 Q2 h12 h
  | exit id=>exact h12 _ _ _ h
  | goto l=>exact h12 _ _ _ h
  | ret=>exact h12 _ _ _ h
  | panic ch=>exact h12 _ _ _ h
  | outgrown=>exact h12 _ _ _ h
theorem B5{F:Fence}{n:Nat}{P:Program}{Q:Exit->Act->World->Prop}{a:Act}{w:World}{c:Code}(ah:Nat->Act->World->Prop)(n₀:Nat)(h₀:ah n₀ a w)
  (round:∀m a w,ah m a w->c.wpIn F n P (Exit.then (λa' w'=>∃m',m'<m/\ah m' a' w') Q) a w):(Code.loop c).wpIn F n P Q a w:=by
 have key:∀(k m:Nat) (a:Act) (w:World),m<k->ah m a w->Code.roundsIn F n P c Q k a w:=by
  intro k
  induction k with
  | zero=>intro m a w h;omega
  | succ k ih=>
   intro m a w hm hI;rw[roundsIn_succ];refine wpIn_mono (round m a w hI) ?_;intro e a' w' hq;cases e with
   | normal=>obtain⟨m',hlt,hI'⟩:=hq;exact ih m' a' w' om hI'
   | exit id=>exact hq
   | goto l=>exact hq
   | ret=>exact hq
   | panic ch=>exact hq
   | outgrown=>exact hq
 exact wpIn_loop_rounds (n₀+1) (key _ n₀ a w (aAH _) h₀)
end Go.Ax
namespace Go.Ax
open Go
structure Conv(B:Nat)(J:List (Nat × Nat))(s s':St):Prop where
 nt:s'.nt=s.nt
 sl:∀i v',lk s'.sl i=some v'->∃v,lk s.sl i=some v/\Cv s.mem J v v'
 mem:Qb s.mem J s'.mem
 nod:(s'.mem.map (·.1)).Nodup
 inj:Jv J
 old:∀id id',lk J id=some id'->(id'<B->id'=id)/\id'<s'.nx
 nx:B<=s'.nx
open Classical in
noncomputable def j7(J:List (Nat × Nat))(E ρ0:Nat->dP)(n:Nat):dP:=if h:∃id,lk J id=some n then E h.choose else ρ0 n
theorem kD{J:List (Nat × Nat)}(hi:Jv J){E ρ0:Nat->dP}{id n:Nat}(h:lk J id=some n):j7 J E ρ0 n=E id:=by
 have hex:∃id,lk J id=some n:=⟨id,h⟩
 unfold j7;rw[dif_pos hex];exact congrArg E (hi _ _ n hex.choose_spec h)
theorem wH{J:List (Nat × Nat)}{E ρ0:Nat->dP}{n:Nat}(h:¬ ∃id,lk J id=some n):j7 J E ρ0 n=ρ0 n:=by
 unfold j7;rw[dif_neg h]
theorem u9{C:List (Nat × AV)}{X:Nat->Prop}{E:Nat->dP}{D:Nat->Prop}{B n n':Nat}{J:List (Nat × Nat)}{m m':aQ}{w:World}(hΓ:∀p∈C,NN p.2)(hD:∀i,D i->i<B)
  (hm:MR C X E (dn D B n) m w) (hM:Qb m J m') (hnod:(m'.map (·.1)).Nodup) (hinj:Jv J) (hold:∀id id',lk J id=some id'->(id'<B->id'=id)/\id'<n') :
  MR C X (j7 J E E) (dn D B n') m' w/\(∀v v',Cv m J v v'->∀x,VR E (dn D B n) (OX X E m) w v x->VR (j7 J E E) (dn D B n') (OX X (j7 J E E) m') w v' x) /\
   Ext D E m w (j7 J E E) (dn D B n') m' w:=by
 have hσ:∀id id',lk J id=some id'->dn D B n id->dn D B n' id'/\j7 J E E id'=E id:=by
  intro id id' h hd;refine⟨?_,kD hinj h⟩;obtain⟨h1,h2⟩:=hold id id' h;rcases ZG id' B with h3|h3
  .have h4:=h1 h3;rcases hd with hd|⟨hd1,hd2⟩
   .rw[h4];exact .inl hd
   .omega
  .exact .inr ⟨h3,h2⟩
 obtain⟨m1,v1,o1⟩:=hm.turn hΓ hσ hM hnod hinj;refine⟨m1,v1,λi hi=>.inl hi,λi hi=>?_,Y8 _,λ_ _ _=>rfl,λp hp hn=>.inl (o1 p hp hn),.go⟩;by_cases hex:∃id,lk J id=some i
 .obtain⟨id,h⟩:=hex;rw[kD hinj h];rw[(hold id i h).1 (hD i hi)]
 .exact wH hex
section
variable {P:Program} {C:List (Nat × AV)} {B:Nat} {c:Code}
theorem SR.conv{X:Nat->Prop}{ds:List Deferred × Nat}{E:Nat->dP}{D:Nat->Prop}{s s':St}{a:Act}{w:World}{J:List (Nat × Nat)}(hΓ:∀p∈C,NN p.2)(hD:∀i,D i->i<B)(hc:Conv B J s s')(hs:SR C X ds E (dn D B s.nx) s a w) :
  SR C X ds (j7 J E E) (dn D B s'.nx) s' a w/\Ext D E s.mem w (j7 J E E) (dn D B s'.nx) s'.mem w:=by
 obtain⟨m1,v1,e1⟩:=u9 hΓ hD hs.mr hc.mem hc.nod hc.inj hc.old;have e1':=e1;refine⟨⟨m1,e1'.mks hs.def0,by rw[hc.nt];exact hs.size,λi v' hi=>?_⟩,e1⟩;obtain⟨v,hv,hcv⟩:=hc.sl i v' hi;exact v1 v v' hcv _ (hs.slot i v hv)
theorem eH.conv{s s':St}{Q:Exit->St->Prop}{J:List (Nat × Nat)}(hΓ:∀p∈C,NN p.2)(hc:Conv B J s s')(h:eH P C B c s' Q):eH P C B c s Q:=by
 refine⟨λrd X ds D E a w hD hs hB hr=>?_⟩;obtain⟨h1,h2⟩:=hs.conv hΓ hD hc;refine wpIn_mono (h.run rd X ds D _ a w hD h1 hc.nx hr) ?_;rintro e a' w' ⟨s2,ρ2,k1,k2,k3,k4⟩;exact⟨s2,ρ2,k1,k2,k3,h2.trans k4⟩
theorem eH.ph{s:St}{Q:Exit->St->Prop}(t:TypeId)(sz:Nat)(h:eH P C B c ⟨s.sl,(s.nx,.row t sz [])::s.mem,s.nx+1,s.nt⟩ Q):eH P C B c s Q:=by
 refine⟨λrd X ds D E a w hD hs hB hr=>?_⟩;obtain⟨m1,v1,e1⟩:=hs.mr.phantom (n:=s.nx) (D':=dn D B (s.nx+1)) (λh'=>aBc _ (z7 hD hB _ h')) (CS (aCg _)) (.inr ⟨hB,aAH _⟩) t sz;refine wpIn_mono (h.run rd X ds D _ a w hD ⟨m1,(e1 D λi hi=>.inl hi).mks hs.def0,hs.size,λi v hi=>v1 _ _ (hs.slot i v hi)⟩ (Zj hB (aCg _)) hr) ?_;rintro e a' w' ⟨s2,ρ2,k1,k2,k3,k4⟩;exact⟨s2,ρ2,k1,k2,k3,(e1 D λi hi=>.inl hi).trans k4⟩
structure XH(B:Nat)(J:List (Nat × Nat))(r:AV)(m:aQ)(r':AV)(m':aQ)(n':Nat):Prop where
 res:Cv m J r r'
 mem:Qb m J m'
 nod:(m'.map (·.1)).Nodup
 inj:Jv J
 old:∀id id',lk J id=some id'->(id'<B->id'=id)/\id'<n'
 nx:B<=n'
inductive kH (B:Nat) (Q:AV->aQ->Nat->Prop) (r:AV) (m:aQ) (n:Nat):Prop
 | mk (J:List (Nat × Nat)) (r':AV) (m':aQ) (n':Nat):XH B J r m r' m' n'->Q r' m' n'->kH B Q r m n
theorem aJ.turn{F:FuncId}{args:List AV}{mem:aQ}{nx:Nat}{Q:AV->aQ->Nat->Prop}(hΓ:∀p∈C,NN p.2)(h:aJ P C F args mem nx (kH nx Q)):aJ P C F args mem nx Q:=by
 refine⟨λX D E w vs hD hm hv=>(h.run X D E w vs hD hm hv).mono ?_⟩;rintro e w' ⟨r,v,m,n,E',h1,⟨J,r',m',n',hc,hq⟩,h3,h4,h5,h6⟩;obtain⟨m1,v1,e1⟩:=u9 hΓ hD h4 hc.mem hc.nod hc.inj hc.old;exact⟨r',v,m',n',_,h1,hq,hc.nx,m1,v1 r r' hc.res _ h5,h6.trans e1⟩
theorem eH.loop{G:Type}(hΓ:∀p∈C,NN p.2)(ah:G->St)(μ:G->Nat){Q:Exit->St->Prop}
  (h:∀x,eH P C B c (ah x) λe s=>match e with
   | .normal=>∃y J,Conv B J s (ah y)/\μ y<μ x
   | e=>Q e s) (x:G):eH P C B (.loop c) (ah x) Q:=by
 refine⟨λrd X ds D E a w hD hs hB hr=>?_⟩;refine B5 (λn a' w'=>∃(y:G) (E':Nat->dP),n=μ y/\B<=(ah y).nx/\SR C X ds E' (dn D B (ah y).nx) (ah y) a' w'/\Ext D E (ah x).mem w E' (dn D B (ah y).nx) (ah y).mem w') (μ x) ⟨x,E,rfl,hB,hs,Ext.refl λi hi=>.inl hi⟩ ?_;rintro n a1 w1 ⟨y,ρ1,rfl,hB1,hs1,e1⟩;refine wpIn_mono ((h y).run rd X ds D ρ1 a1 w1 hD hs1 hB1 hr.loop) ?_;rintro e a2 w2 ⟨s2,ρ2,hq,hB2,hs2,e2⟩;cases e with
 | normal=>
  obtain⟨z,J,hc,hlt⟩:=hq;obtain⟨h1,h2⟩:=hs2.conv hΓ hD hc;exact⟨μ z,hlt,z,_,rfl,hc.nx,h1,(e1.trans e2).trans h2⟩
 | exit i=>exact⟨s2,ρ2,hq,hB2,hs2,e1.trans e2⟩
 | goto l=>exact⟨s2,ρ2,hq,hB2,hs2,e1.trans e2⟩
 | ret=>exact⟨s2,ρ2,hq,hB2,hs2,e1.trans e2⟩
 | panic c=>exact⟨s2,ρ2,hq,hB2,hs2,e1.trans e2⟩
 | outgrown=>exact⟨s2,ρ2,hq,hB2,hs2,e1.trans e2⟩
def Gw(P:Program)(C:List (Nat × AV))(B:Nat):Hk:={ call:=λF args mem nx K _=>aJ P C F args mem nx K,loop:=λc s Q=>eH P C B (.loop c) s Q }
theorem vU:zL P C B (Gw P C B):=⟨λ_ _ _ _ _ _ h=>aJ.toP h,λ_ _ _ h=>h⟩
def G6(P:Program)(C:List (Nat × AV))(B:Nat):Hk:={ call:=bV P C,loop:=λc s Q=>eH P C B (.loop c) s Q }
theorem GC:zL P C B (G6 P C B):=⟨λ_ _ _ _ _ _ h=>h,λ_ _ _ h=>h⟩
def g6(mem:aQ)(J:List (Nat × Nat))(as bs:List AV):Prop:=as.length=bs.length/\∀(j:Nat) (c c':AV),as[j]? = some c->bs[j]? = some c'->Cv mem J c c'
theorem aJ.use{F:FuncId}{as args:List AV}{ms mem m1 rest:aQ}{ns nx:Nat}{Qs K:AV->aQ->Nat->Prop}(hΓ:∀p∈C,NN p.2)(h:aJ P C F as ms ns Qs)(J:List (Nat × Nat))
  (hp:uT mem m1 rest) (hrest:(rest.map (·.1)).Nodup) (hargs:g6 m1 J args as) (hM:Qb m1 J ms) (hnod:(ms.map (·.1)).Nodup) (hinj:Jv J) (hlt:∀id i,lk J id=some i->i<ns)
  (hk:∀r m n,Qs r m n->ns<=n->∃I r' m' n',nx<=n'/\Cv m I r r'/\Qb m I m'/\(m'.map (·.1)).Nodup/\Jv I/\(∀i id,lk I i=some id->(i<ns/\lk J id=some i)\/(ns<=i/\nx<=id/\id<n')) /\
   (∀p∈m',∀q∈rest,p.1≠q.1)/\K r' (m'++rest) n'):aJ P C F args mem nx K:=by
 refine⟨λX D E w vs hD hm hv=>?_⟩;obtain⟨p1,pv⟩:=hm.part hp;have hσ:∀id i,lk J id=some i->D id->(∃id,lk J id=some i/\D id)/\j7 J E E i=E id:=λid i h1 h2=>⟨⟨id,h1,h2⟩,kD hinj h1⟩
 obtain⟨s1,sv,so⟩:=p1.turn (D':=λi=>∃id,lk J id=some i/\D id) hΓ hσ hM hnod hinj;have hvs:j8 (j7 J E E) (λi=>∃id,lk J id=some i/\D id) (OX (XR X E rest) (j7 J E E) ms) w as vs:=
  ⟨by rw[<-hargs.1];exact hv.1,λj c' x hc' hx=>by
   obtain⟨c,hc⟩:=dS hargs.1 hc';exact sv c c' (hargs.2 j c c' hc hc') _ (pv _ _ (hv.2 j c x hc hx))⟩
 refine(h.run _ _ _ w vs (λi ⟨id,h1,_⟩=>hlt id i h1) s1 hvs).mono ?_;rintro e w' ⟨r,v,m,n,ρs,rfl,hq,hn,r1,rv,ext⟩;obtain⟨I,r',m',n',hn',t1,t2,t3,t4,t5,t6,hK⟩:=hk r m n hq hn;have hτ:∀i id,lk I i=some id->dn (λi=>∃id,lk J id=some i/\D id) ns n i->dn D nx n' id/\j7 I ρs E id=ρs i:=by
  intro i id h1 h2;refine⟨?_,kD t4 h1⟩;rcases t5 i id h1 with⟨h3,h4⟩|⟨h3,h4,h5⟩
  .rcases h2 with⟨id0,h5,h6⟩|⟨h5,_⟩
   .rw[hinj id id0 i h4 h5];exact .inl h6
   .omega
  .exact .inr ⟨h4,h5⟩
 obtain⟨u1,uv,uo⟩:=r1.turn hΓ hτ t2 t3 t4;have hext:Ext D E m1 w (j7 I ρs E) (dn D nx n') m' w':=by
  refine⟨λi hi=>.inl hi,λid hid=>?_,ext.size,λb hb ho=>?_,λp hp' hpn=>?_,ext.env⟩
  .by_cases hex:∃i,lk I i=some id
   .obtain⟨i,hi⟩:=hex;rw[kD t4 hi];rcases t5 i id hi with⟨h3,h4⟩|⟨h3,h4,h5⟩
    .rw[ext.agree i ⟨id,h4,hid⟩,kD hinj h4]
    .have:=hD id hid;omega
   .exact wH hex
  .refine ext.keep b hb λ⟨p,hp',hpn,e⟩=>ho ?_
   rw[<-e];exact so p hp' hpn
  .obtain⟨q,hq',hqn,e⟩:=uo p hp' hpn;rw[<-e];rcases ext.fresh q hq' hqn with⟨q',hq1,hq2,e'⟩|h1
   .rw[<-e'];exact .inl (so q' hq1 hq2)
   .exact .inr h1
 obtain⟨j1,j2,j3,j4⟩:=MR.join (D':=dn D nx n') hm hp u1 hext (λp hp=>hp) t6 hrest;exact⟨r',v,m'++rest,n',_,rfl,hK,hn',j1,j2 _ _ (uv r r' t1 _ rv),j4 D λi hi=>hi⟩
inductive Sc:AV->Prop
 | bool (b:Bool):Sc (.bool b)
 | int (k:IntKind) (n:Int):Sc (.int k n)
 | str (s:List UInt8):Sc (.str s)
 | nptr:Sc .nptr
 | nsl:Sc .nsl
 | nmap:Sc .nmap
 | nfn:Sc .nfn
 | nif:Sc .nif
 | junk:Sc .junk
 | ifc (t:TypeId) (v:AV):Sc v->Sc (.ifc t v)
 | agg (cs:List AV):(∀(j:Nat) (c:AV),cs[j]? = some c->Sc c)->Sc (.agg cs)
 | tup (cs:List AV):(∀(j:Nat) (c:AV),cs[j]? = some c->Sc c)->Sc (.tup cs)
theorem Sc.vr{E E':Nat->dP}{D D' O O':Nat->Prop}{w w':World}{v:AV}{x:Value}(h:VR E D O w v x)(hn:Sc v):VR E' D' O' w' v x:=by
 induction h with
 | bool=>exact .bool _
 | int=>exact .int _ _
 | str=>exact .str _
 | nptr=>exact .nptr
 | nsl=>exact .nsl
 | nmap=>exact .nmap
 | nfn=>exact .nfn
 | nif=>exact .nif
 | ifc t v x _ ih=>cases hn with|ifc _ _ hn=>exact .ifc t v x (ih hn)
 | agg cs arr hl ho _ ih=>cases hn with|agg _ hn=>exact .agg cs arr hl ho λj c x h1 h2=>ih j c x h1 h2 (hn j c h1)
 | tup cs arr hl _ ih=>cases hn with|tup _ hn=>exact .tup cs arr hl λj c x h1 h2=>ih j c x h1 h2 (hn j c h1)
 | junk x=>exact .junk x
 | _=>cases hn
theorem aJ.lend{F:FuncId}{as args:List AV}{mem:aQ}{nx:Nat}{Qs K:AV->aQ->Nat->Prop}(hΓ:∀p∈C,NN p.2)(h:aJ P C F as [] 0 Qs)(hargs:g6 mem [] args as)
  (hk:∀r m n,Qs r m n->Sc r/\K r mem nx):aJ P C F args mem nx K:=by
 refine⟨λX D E w vs hD hm hv=>?_⟩;obtain⟨s1,sv,so⟩:=hm.turn (J:=[]) (E':=E) (D':=λ_=>False) (mem':=[]) hΓ (λid id' h=>by simp[lk] at h) (λp hp=>by simp at hp) sq (λi j k h=>by simp[lk] at h);have hvs:j8 E (λ_=>False) (OX X E []) w as vs:=
  ⟨by rw[<-hargs.1];exact hv.1,λj c' x hc' hx=>by
   obtain⟨c,hc⟩:=dS hargs.1 hc';exact sv c c' (hargs.2 j c c' hc hc') _ (hv.2 j c x hc hx)⟩
 refine(h.run _ _ _ w vs (λi h=>h.elim) s1 hvs).mono ?_;rintro e w' ⟨r,v,m,n,ρs,rfl,hq,hn,r1,rv,ext⟩;obtain⟨hsc,hK⟩:=hk r m n hq;obtain⟨m2,e2⟩:=hm.still ext.size (λb hb=>ext.keep b hb (λ⟨p,hp,_⟩=>by simp at hp)) ext.env;obtain⟨m3,v3,e3⟩:=m2.widen (D':=dn D nx nx) (λi hi=>.inl hi);exact⟨r,v,mem,nx,E,rfl,hK,Y8 _,m3,Sc.vr rv hsc,(e2 D λi hi=>hi).trans (e3 D λi hi=>hi)⟩
end
end Go.Ax
