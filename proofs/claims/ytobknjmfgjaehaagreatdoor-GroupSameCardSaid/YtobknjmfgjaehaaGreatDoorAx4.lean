/- A part of the proof. -/
import Derived.Test.YtobknjmfgjaehaaGreatDoorAx3
import Derived.LoopNIn
import Derived.Scope
import Derived.Deep.LoopGhost
set_option linter.unusedVariables false
set_option linter.unusedSimpArgs false
set_option linter.unusedSectionVars false
namespace Go.Ax
open Go
def A8(P:Program)(Γ:List (Nat × AV))(H:Hk):Code->St->(Exit->St->Prop)->Prop
 | .skip,s,Q=>Q .normal s
 | .seq x y,s,Q=>A8 P Γ H x s fun e s'=>match e with
  | .normal=>A8 P Γ H y s' Q
  | e=>Q e s'
 | .cond c x y,s,Q=>match ev Γ s c with
  | some (.bool b)=>match b with
   | true=>A8 P Γ H x s Q
   | false=>A8 P Γ H y s Q
  | _=>False
 | .block id c,s,Q=>A8 P Γ H c s fun e s'=>match e with
  | .exit i=>match Nat.beq i id with
   | true=>Q .normal s'
   | false=>Q (.exit i) s'
  | e=>Q e s'
 | .label _,s,Q=>Q .normal s
 | .scope c,s,Q=>A8 P Γ H c s fun e s'=>match e with
  | .goto _=>False
  | e=>Q e s'
 | .loop c,s,Q=>H.loop c s Q
 | .exit i,s,Q=>Q (.exit i) s
 | .ret,s,Q=>Q .ret s
 | .region _ ops draw,s,Q=>match draw with
  | false=>tQ P Γ H ops.toList ops.toList s (fun s'=>Q .normal s') fun x s'=>Q (.panic [pe x]) s'
  | true=>match P.follows .mixedOrders with
   | true=>CS P Γ H ops.toList s (fun s'=>Q .normal s') fun x m n=>Q (.panic [pe x]) ⟨rZ ops.toList s.sl,m,n,s.nt⟩
   | false=>False
 | .rangeFunc g ps ca cb,s,Q=>match ev Γ s g with
  | some (.fn (.func G) first cap)=>match P.funcs[G]? with
   | some fn=>match fn.body with
    | some _=>match fn.name == "runtime.NumGoroutine" with
     | false=>match Nat.beq G YF with
      | false=>H.call G (first ++ .yld s.nx::cap) ((s.nx,.loop s.sl s.nt ps ca cb .ready none)::s.mem) (s.nx+1) (fun _ m n=>C1 s Q m n) fun x m n=>Q (.panic [pe x]) ⟨s.sl,m,n,s.nt⟩
      | true=>False
     | true=>False
    | none=>False
   | none=>False
  | _=>False
 | _,_,_=>False
theorem A5{F:Fence}{n:Nat}{P:Program}{Q:Exit->Act->World->Prop}{a:Act}{w:World}{c:Code}(h:c.wpIn F n P (Exit.noGoto Q) a w):(Code.scope c).wpIn F n P Q a w:=by
 intro b k cs hro hb hr;have s1:step P (lone (b.atR a (.code (.scope c)::k)) cs w) = .next (lone (b.atR a (.code c :: .inScope c::k)) cs w):=step_lone_go (by simp[stepG,stepG.exec,Frame.atR]);have s2:∀(a:Act) (w:World),step P (lone (b.atR a (.inScope c::k)) cs w) = .next (lone (b.atR a k) cs w):=fun a w=>step_lone_go (by simp[stepG,stepG.exec,Frame.atR])
 obtain⟨e,a₁,w₁,hq,harr⟩:=h b (.inScope c::k) cs hro hb hr;cases e with
 | normal=>exact⟨.normal,a₁,w₁,hq,.head (fenced_calm hb hr rfl) s1 (StepsIn.trans harr (.one (fenced_calm hb hr rfl) (s2 a₁ w₁)))⟩
 | goto l=>exact hq.elim
 | exit id=>
  have ex:exitTo id (.inScope c::k)=exitTo id k:=by simp[exitTo]
  exact⟨.exit id,a₁,w₁,hq,.of_steps (.one (fenced_calm hb hr rfl) s1) ⟨fun k' hk=>harr.1 k' (by rw[ex];exact hk),fun h1 hk=>harr.2 h1 (by rw[ex];exact hk)⟩⟩
 | ret=>exact⟨.ret,a₁,w₁,hq,.of_steps (.one (fenced_calm hb hr rfl) s1) harr⟩
 | panic ch=>exact⟨.panic ch,a₁,w₁,hq,.of_steps (.one (fenced_calm hb hr rfl) s1) harr⟩
 | outgrown=>exact⟨.outgrown,a₁,w₁,hq,.of_steps (.one (fenced_calm hb hr rfl) s1) harr⟩
theorem o5{P:Program}{Γ:List (Nat × AV)}{H:Hk}{B:Nat}(hH:wA P Γ B H):∀(c:Code) (s:St) (Q:Exit->St->Prop),A8 P Γ H c s Q->dI P Γ B c s Q:=by
 intro c
 induction c with
 | skip=>exact fun s Q h=>⟨fun rd X ds D ρ a w hD hs hB _=>wpIn_skip ⟨s,ρ,h,hB,hs,Ext.refl fun i hi=>.inl hi⟩⟩
 | exit i=>exact fun s Q h=>⟨fun rd X ds D ρ a w hD hs hB _=>wpIn_exit ⟨s,ρ,h,hB,hs,Ext.refl fun i hi=>.inl hi⟩⟩
 | ret=>exact fun s Q h=>⟨fun rd X ds D ρ a w hD hs hB _=>wpIn_ret ⟨s,ρ,h,hB,hs,Ext.refl fun i hi=>.inl hi⟩⟩
 | loop c ih=>exact fun s Q h=>hH.loop c s Q h
 | label l=>exact fun s Q h=>⟨fun rd X ds D ρ a w hD hs hB _=>wpIn_label ⟨s,ρ,h,hB,hs,Ext.refl fun i hi=>.inl hi⟩⟩
 | scope c ih=>
  intro s Q h;simp only[A8] at h;refine⟨fun rd X ds D ρ a w hD hs hB hr=>A5 (wpIn_mono ((ih s _ h).run rd X ds D ρ a w hD hs hB hr.scope) ?_)⟩;rintro e a' w' ⟨s',ρ',hq,hB',hs',hext⟩;cases e with
  | goto l=>exact hq.elim
  | normal=>exact⟨s',ρ',hq,hB',hs',hext⟩
  | exit i=>exact⟨s',ρ',hq,hB',hs',hext⟩
  | ret=>exact⟨s',ρ',hq,hB',hs',hext⟩
  | panic c=>exact⟨s',ρ',hq,hB',hs',hext⟩
  | outgrown=>exact⟨s',ρ',hq,hB',hs',hext⟩
 | seq x y ihx ihy=>
  intro s Q h;refine⟨fun rd X ds D ρ a w hD hs hB hr=>wpIn_seq (wpIn_mono ((ihx s _ h).run rd X ds D ρ a w hD hs hB hr.seq1) ?_)⟩;rintro e a' w' ⟨s',ρ',hq,hB',hs',hext⟩;cases e with
  | normal=>
   refine wpIn_mono ((ihy s' Q hq).run rd X ds D ρ' a' w' hD hs' hB' hr.seq2) ?_;rintro e a2 w2 ⟨s2,ρ2,h1,h2,h3,h4⟩;exact⟨s2,ρ2,h1,h2,h3,hext.trans h4⟩
  | exit i=>exact⟨s',ρ',hq,hB',hs',hext⟩
  | goto l=>exact⟨s',ρ',hq,hB',hs',hext⟩
  | ret=>exact⟨s',ρ',hq,hB',hs',hext⟩
  | panic c=>exact⟨s',ρ',hq,hB',hs',hext⟩
  | outgrown=>exact⟨s',ρ',hq,hB',hs',hext⟩
 | cond c x y ihx ihy=>
  intro s Q h;simp only[A8] at h;split at h
  ·rename_i b hc;refine⟨fun rd X ds D ρ a w hD hs hB hr=>?_⟩;have hv:=aV hs hc;generalize he:a.eval c=cv at hv;cases hv;cases b with
   | true=>exact wpIn_cond_true he ((ihx s Q h).run rd X ds D ρ a w hD hs hB hr.cond1)
   | false=>exact wpIn_cond_false he ((ihy s Q h).run rd X ds D ρ a w hD hs hB hr.cond2)
  ·exact h.elim
 | block id c ih=>
  intro s Q h;refine⟨fun rd X ds D ρ a w hD hs hB hr=>wpIn_block (wpIn_mono ((ih s _ h).run rd X ds D ρ a w hD hs hB hr.block) ?_)⟩;rintro e a' w' ⟨s',ρ',hq,hB',hs',hext⟩;cases e with
  | exit i=>
   simp only[Exit.inBlock];simp only at hq;split at hq
   ·rename_i hi;rw[if_pos (Nat.eq_of_beq_eq_true hi)];exact⟨s',ρ',hq,hB',hs',hext⟩
   ·rename_i hi;rw[if_neg (Nat.ne_of_beq_eq_false hi)];exact⟨s',ρ',hq,hB',hs',hext⟩
  | normal=>exact⟨s',ρ',hq,hB',hs',hext⟩
  | goto l=>exact⟨s',ρ',hq,hB',hs',hext⟩
  | ret=>exact⟨s',ρ',hq,hB',hs',hext⟩
  | panic c=>exact⟨s',ρ',hq,hB',hs',hext⟩
  | outgrown=>exact⟨s',ρ',hq,hB',hs',hext⟩
 | region id ops draw=>
  intro s Q h;cases draw with
  | false=>
   simp only[A8] at h;refine⟨fun rd X ds D ρ a w hD hs hB _=>wpIn_region_list ?_⟩;have:=pD hH ops.toList ops.toList s _ _ h rd X ds D ρ a w (fun e a' w'=>∃(s':St) (ρ':Nat->cU),Q e s'/\B<=s'.nx/\SR Γ X ds ρ' (dn D B s'.nx) s' a' w'/\Ext D ρ s.mem w ρ' (dn D B s'.nx) s'.mem w') hD hs hB
    (fun s' ρ' a' w' h1 h2 h3 h4=>⟨s',ρ',h1,h2,h3,h4⟩) (fun x s' ρ' a' w' h1 h2 h3 h4=>⟨s',ρ',h1,h2,h3,h4⟩)
   simpa using this
  | true=>
   simp only[A8] at h;split at h
   ·rename_i hmix;refine⟨fun rd X ds D ρ a w hD hs hB hr=>?_⟩;have:=FG hH h hmix id rd X ds D ρ a w hD hs hB (fun e a' w'=>∃(s':St) (ρ':Nat->cU),Q e s'/\B<=s'.nx/\SR Γ X ds ρ' (dn D B s'.nx) s' a' w'/\Ext D ρ s.mem w ρ' (dn D B s'.nx) s'.mem w')
     (fun s' ρ' a' w' h1 h2 h3 h4=>⟨s',ρ',h1,h2,h3,h4⟩) (fun x m' n' ρ' a' w' h1 h2 h3 h4=>⟨_,ρ',h1,h2,h3,h4⟩)
    simpa using this
   ·exact h.elim
 | rangeFunc g ps ca cb=>
  intro s Q h;simp only[A8] at h;split at h<;>first|exact h.elim|skip
  rename_i hg;split at h<;>first|exact h.elim|skip
  rename_i fn hf;split at h<;>first|exact h.elim|skip
  rename_i c0 hb;split at h<;>first|exact h.elim|skip
  rename_i hn;split at h<;>first|exact h.elim|skip
  rename_i hG;exact dI.range hg hf hb hn hG (hH.call _ _ _ _ _ _ h)
 | _=>intro s Q h;simp only[A8] at h
def FV(k:Nat):List AV->List (Nat × AV)
 | []=>[]
 | a::r=>(k,a)::FV (k+1) r
theorem HW:∀(l:List AV) (k i:Nat) (v:AV),lk (FV k l) i=some v->k<=i/\l[i-k]? = some v
 | [],k,i,v,h=>by simp[FV,lk] at h
 | a::r,k,i,v,h=>by
  simp only[FV,lk] at h;split at h
  ·rename_i hk;have hk:=Nat.eq_of_beq_eq_true hk;subst hk;cases h;simp
  ·rename_i hk;have hk:=Nat.ne_of_beq_eq_false hk;obtain⟨h1,h2⟩:=HW r (k+1) i v h;refine⟨om, ?_⟩;rw[show i-k=(i-(k+1))+1 by omega];simpa using h2
def enter(ntmps:Nat)(args:List AV)(mem:aN)(nx:Nat):St:={ sl:=FV 0 args,mem:=mem,nx:=nx,nt:=args.length+(ntmps-args.length) }
def uD(P:Program)(s:St):List ResultVar->Option (List AV)
 | []=>some []
 | .tmp t::r=>match lk s.sl t with
  | some v=>match uD P s r with
   | some l=>some (v::l)
   | none=>none
  | none=>none
 | .cell a t::r=>match lk s.sl a with
  | some p=>match BY P s.mem t p with
   | some v=>match uD P s r with
    | some l=>some (v::l)
    | none=>none
   | none=>none
  | none=>none
def wD(P:Program)(rs:List ResultVar)(s:St):Option AV:=
 match uD P s rs with
 | some [v]=>some v
 | some l=>some (.tup l)
 | none=>none
theorem nS{P:Program}{Γ:List (Nat × AV)}{X:Nat->Prop}{ds:List Deferred × Nat}{ρ:Nat->cU}{D:Nat->Prop}{s:St}{a:Act}{w:World}(hs:SR Γ X ds ρ D s a w):∀{rs:List ResultVar} {l:List AV},uD P s rs=some l ->
  ∃vs:List Value,(rs.mapM fun x=>match x with
     | ResultVar.tmp t=>(pure (a.tmps.getD t undef):Sem Value)
     | ResultVar.cell x t=>do
      let p ←asAddr (a.tmps.getD x undef)
      loadVar t p).run P w = .ok vs w/\iH ρ D (OX X ρ s.mem) w l vs
 | [],l,h=>by simp only[uD] at h;cases h;exact⟨[],by simp,.nil⟩
 | .tmp t::r,l,h=>by
  simp only[uD] at h;split at h
  ·rename_i v hv;split at h
   ·rename_i l' hl;cases h;obtain⟨vs,h1,h2⟩:=nS hs hl;exact⟨a.tmps.getD t undef::vs,by rw[List.mapM_cons,Sem.run_bind,Sem.run_pure,Result.andThen_ok,Sem.run_bind,h1];rfl,.cons (hs.slot t v hv) h2⟩
   ·cases h
  ·cases h
 | .cell x t::r,l,h=>by
  simp only[uD] at h;split at h
  ·rename_i p hp;split at h
   ·rename_i v hv;split at h
    ·rename_i l' hl;cases h;obtain⟨vs,h1,h2⟩:=nS hs hl;obtain⟨y,hy,hr⟩:=qW (P:=P) hs.mr hv (hs.slot x p hp);refine⟨y::vs, ?_,.cons hr h2⟩;have hy':(do let p ←asAddr (a.tmps.getD x undef);loadVar t p:Sem Value).run P w = .ok y w:=by
      rw[←hy];have hpv:=hs.slot x p hp;unfold BY at hv;split at hv
      ·generalize a.tmps.getD x undef=q at hpv;cases hpv;simp[Instr.loadAt,Instr.sureAddr,asAddr]
      ·generalize a.tmps.getD x undef=q at hpv;cases hpv;simp[Instr.loadAt,Instr.sureAddr,asAddr]
      ·cases hv
     rw[List.mapM_cons,Sem.run_bind,hy',Result.andThen_ok,Sem.run_bind,h1];rfl
    ·cases h
   ·cases h
  ·cases h
theorem vH {P:Program} {w:World} {fn:Func} {tmps:Array Value} {vs:List Value} (h:(fn.results.toList.mapM fun x=>match x with
     | ResultVar.tmp t=>(pure (tmps.getD t undef):Sem Value)
     | ResultVar.cell x t=>do
      let p ←asAddr (tmps.getD x undef)
      loadVar t p).run P w = .ok vs w):(results fn tmps).run P w = .ok (match vs with|[x]=>x|_=>.tuple vs.toArray) w:=by
 unfold results;rw[Sem.run_bind,Array.mapM_eq_mapM_toList];have h':(List.toArray <$> (fn.results.toList.mapM fun x=>match x with
     | ResultVar.tmp t=>(pure (tmps.getD t undef):Sem Value)
     | ResultVar.cell x t=>do
      let p ←asAddr (tmps.getD x undef)
      loadVar t p)).run P w = .ok vs.toArray w:=by
  rw[Sem.run_map,h];rfl
 refine(congrArg (fun r:Result (Array Value)=>r.andThen fun vs w'=>Sem.run P (pure (if h:vs.size=1 then vs[0] else Value.tuple vs)) w') h').trans ?_
 match vs with
 | []=>rfl
 | [x]=>rfl
 | x::y::r=>simp
theorem uY{P:Program}{Γ:List (Nat × AV)}{X:Nat->Prop}{ds:List Deferred × Nat}{ρ:Nat->cU}{D:Nat->Prop}{s:St}{a:Act}{w:World}(hs:SR Γ X ds ρ D s a w){fn:Func}{v:AV}(h:wD P fn.results.toList s=some v) :
  ∃x,(results fn a.tmps).run P w = .ok x w/\VR ρ D (OX X ρ s.mem) w v x:=by
 unfold wD at h;split at h
 ·rename_i u hu;cases h;obtain⟨vs,h1,h2⟩:=nS hs hu;obtain⟨x,rfl⟩:∃x,vs=[x]:=by
   have:=h2.1;simp at this;exact List.length_eq_one_iff.1 this.symm
  exact⟨x,vH h1,h2.2 0 v x rfl rfl⟩
 ·rename_i l hl hu;cases h;obtain⟨vs,h1,h2⟩:=nS hs hu;refine⟨.tuple vs.toArray, ?_,h2.tup⟩;rw[vH h1]
  match vs,h2.1 with
  | [],_=>rfl
  | [x],e=>
   exfalso;simp at e;obtain⟨y,rfl⟩:=List.length_eq_one_iff.1 e;exact hl y rfl
  | x::y::r,_=>rfl
 ·cases h
def Id(P:Program)(rs:List ResultVar)(Q:AV->aN->Nat->Prop):Exit->St->Prop:=fun e s=>
 match e with
 | .normal=>match wD P rs s with
  | some r=>Q r s.mem s.nx
  | none=>False
 | .ret=>match wD P rs s with
  | some r=>Q r s.mem s.nx
  | none=>False
 | _=>False
theorem wI{Γ:List (Nat × AV)}{X D:Nat->Prop}{ρ:Nat->cU}{w:World}{n:Nat}{args:List AV}{vs:List Value}{mem:aN}{nx:Nat}(hD:∀i,D i->i<nx)(hm:MR Γ X ρ D mem w)(hv:iH ρ D (OX X ρ mem) w args vs){k:Nat}(hk:k<=w.heap.size+1) :
  SR Γ X ([],k) ρ (dn D nx nx) (enter n args mem nx) { tmps:=vs.toArray++Array.replicate (n-vs.toArray.size) undef,defers:=[] } w:=by
 have hl:=hv.1;obtain⟨m1,mono1,_⟩:=hm.widen (D':=dn D nx nx) (fun i hi=>.inl hi);refine⟨m1,zM.start (ds:=([],k)) hk,by simp[enter,hl],fun i v hi=>?_⟩;obtain⟨_,h2⟩:=HW args 0 i v hi;simp only[Nat.sub_zero] at h2;have hlt:i<vs.length:=by
  rw[←hl];rcases Nat.lt_or_ge i args.length with h'|h'
  ·exact h'
  ·rw[List.getElem?_eq_none h'] at h2;cases h2
 have e:(vs.toArray++Array.replicate (n-vs.toArray.size) undef).getD i undef=vs[i]:=by
  simp[Array.getElem?_append,hlt]
 rw[e];exact mono1 _ _ (hv.2 i v _ h2 (by simp[hlt]))
theorem o8{P:Program}{fn:Func}{tmps:Array Value}{R:Ending->World->Prop}{ds:List Deferred}{u:FrameMode}(hu:u≠.run)(k:Nat)(O:Nat->Prop)(J:World->Prop)
  (hJ:∀w b,J w->k<=b+1->¬O b->w.heap[b]? = some (.deferred (some []))->J (w.putObj b (.deferred none))) (hend:∀w,J w->LeavesInM (FW none) 0 P fn tmps R ds u w) :
  ∀(ms:List Deferred) (w:World),J w->ms.Nodup->(∀d∈ms,∃b,d={ target:=.collected b,args:=#[] }/\k<=b+1/\¬O b/\w.heap[b]? = some (.deferred (some [])))->LeavesInM (FW none) 0 P fn tmps R (ms++ds) u w
 | [],w,h,_,_=>hend w h
 | d::ms,w,h,hn,hd=>by
  obtain⟨b,rfl,hb,ho,hh⟩:=hd d (List.mem_cons_self ..);refine⟨hu,.inl ⟨b,_,rfl,run_takeDeferred hh,o8 hu k O J hJ hend ms _ (hJ w b h hb ho hh) (List.nodup_cons.1 hn).2 fun d' hd'=>?_⟩⟩;obtain⟨b',rfl,hb',ho',hh'⟩:=hd d' (List.mem_cons_of_mem _ hd');refine⟨b',rfl,hb',ho', ?_⟩;have hne:b'≠b:=by
   rintro rfl;exact(List.nodup_cons.1 hn).1 hd'
  rw[World.putObj_heap_other hne];exact hh'
theorem kX{P:Program}{Γ:List (Nat × AV)}{X D:Nat->Prop}{ρ ρ':Nat->cU}{B:Nat}{mem:aN}{w w':World}{s':St}{a':Act}{fn:Func}{R:Ending->World->Prop}{r:AV}(hr:wD P fn.results.toList s'=some r)
  (hs':SR Γ X ([],w.heap.size+1) ρ' (dn D B s'.nx) s' a' w') (hext:Ext D ρ mem w ρ' (dn D B s'.nx) s'.mem w')
  (hR:∀x w2,MR Γ X ρ' (dn D B s'.nx) s'.mem w2->VR ρ' (dn D B s'.nx) (OX X ρ' s'.mem) w2 r x->Ext D ρ mem w ρ' (dn D B s'.nx) s'.mem w2->R (.returned x) w2) :
  LeavesInM (FW none) 0 P fn a'.tmps R a'.defers .returning w':=by
 obtain⟨_,ms,h2,_,hn,h3⟩:=hs'.def0;rw[h2];refine o8 (by simp) (w.heap.size+1) (OX X ρ' s'.mem) (fun w2=>MR Γ X ρ' (dn D B s'.nx) s'.mem w2/\(∀i v,lk s'.sl i=some v->VR ρ' (dn D B s'.nx) (OX X ρ' s'.mem) w2 v (a'.tmps.getD i undef))/\Ext D ρ mem w ρ' (dn D B s'.nx) s'.mem w2)
  ?_ ?_ ms w' ⟨hs'.mr,hs'.slot,hext⟩ hn h3
 ·rintro w2 b ⟨j1,j2,j3⟩ hb ho hh;obtain⟨k1,k2⟩:=j1.shut (o':=.deferred none) hh rfl ho;refine⟨k1,fun i v hi=>k2 _ _ (j2 i v hi),j3.le,j3.agree,by simpa using j3.size,fun c hc hno=>?_,j3.fresh,⟨j3.env.os,j3.env.output,j3.env.tape,j3.env.drawn⟩⟩;rw[World.putObj_heap_other om];exact j3.keep c hc hno
 ·rintro w2 ⟨j1,j2,j3⟩;obtain⟨x,h1,h2⟩:=uY (ds:=([],0)) (a:={ a' with defers:=[] }) ⟨j1,zM.start (ds:=([],0)) (Nat.zero_le _),hs'.size,j2⟩ hr;exact⟨x,h1,hR x w2 j1 h2 j3⟩
theorem sY{P:Program}{Γ:List (Nat × AV)}{X D:Nat->Prop}{ρ ρ':Nat->cU}{B:Nat}{mem:aN}{w w':World}{s':St}{a':Act}{fn:Func}{R:Ending->World->Prop}{ch:List PanicEntry}
  (hs':SR Γ X ([],w.heap.size+1) ρ' (dn D B s'.nx) s' a' w') (hext:Ext D ρ mem w ρ' (dn D B s'.nx) s'.mem w')
  (hR:∀w2,MR Γ X ρ' (dn D B s'.nx) s'.mem w2->Ext D ρ mem w ρ' (dn D B s'.nx) s'.mem w2->R (.panicked ch) w2) :
  LeavesInM (FW none) 0 P fn a'.tmps R a'.defers (.panicking ch) w':=by
 obtain⟨_,ms,h2,_,hn,h3⟩:=hs'.def0;rw[h2];refine o8 (by simp) (w.heap.size+1) (OX X ρ' s'.mem) (fun w2=>MR Γ X ρ' (dn D B s'.nx) s'.mem w2/\Ext D ρ mem w ρ' (dn D B s'.nx) s'.mem w2)
  ?_ ?_ ms w' ⟨hs'.mr,hext⟩ hn h3
 ·rintro w2 b ⟨j1,j3⟩ hb ho hh;obtain⟨k1,k2⟩:=j1.shut (o':=.deferred none) hh rfl ho;refine⟨k1,j3.le,j3.agree,by simpa using j3.size,fun c hc hno=>?_,j3.fresh,⟨j3.env.os,j3.env.output,j3.env.tape,j3.env.drawn⟩⟩;rw[World.putObj_heap_other om];exact j3.keep c hc hno
 ·rintro w2 ⟨j1,j3⟩;exact hR w2 j1 j3
theorem t0{P:Program}{Γ:List (Nat × AV)}{F:FuncId}{fn:Func}{c:Code}{args:List AV}{mem:aN}{nx:Nat}{Q:AV->aN->Nat->Prop}(hf:P.funcs[F]? = some fn)(hb:fn.body=some c)
  (h:dI P Γ nx c (enter fn.ntmps args mem nx) (Id P fn.results.toList Q)) (hF:Nat.beq F YF=false:=by rfl):aG P Γ F args mem nx Q:=by
 refine⟨fun X D ρ w vs hD hm hv=>.of hF (callsIn_wide (n:=0).1 (callsIn_of_wp_marks (F:=FW none) hf hb trivial ?_))⟩;refine wpIn_mono (h.run none X ([],w.heap.size+1) D ρ _ w hD (wI hD hm hv (Nat.le_refl _)) (Nat.le_refl _) (fun _=>⟨rfl,Nat.succ_ne_zero _⟩)) ?_;rintro e a' w' ⟨s',ρ',hq,hB',hs',hext⟩;cases e with
 | normal=>
  simp only[Id] at hq;split at hq
  ·rename_i r hr;exact kX hr hs' hext fun x w2 j1 j2 j3=>⟨r,x,s'.mem,s'.nx,ρ',rfl,hq,hB',j1,j2,j3⟩
  ·exact hq.elim
 | ret=>
  simp only[Id] at hq;split at hq
  ·rename_i r hr;exact kX hr hs' hext fun x w2 j1 j2 j3=>⟨r,x,s'.mem,s'.nx,ρ',rfl,hq,hB',j1,j2,j3⟩
  ·exact hq.elim
 | _=>exact hq.elim
def AO(P:Program)(rs:List ResultVar)(Q:AV->aN->Nat->Prop)(Qp:Value->aN->Nat->Prop):Exit->St->Prop:=fun e s=>
 match e with
 | .normal=>match wD P rs s with
  | some r=>Q r s.mem s.nx
  | none=>False
 | .ret=>match wD P rs s with
  | some r=>Q r s.mem s.nx
  | none=>False
 | .panic [⟨x,false,false⟩]=>Qp x s.mem s.nx
 | _=>False
theorem jZ{P:Program}{Γ:List (Nat × AV)}{F:FuncId}{fn:Func}{c:Code}{args:List AV}{mem:aN}{nx:Nat}{Q:AV->aN->Nat->Prop}{Qp:Value->aN->Nat->Prop}(hf:P.funcs[F]? = some fn)(hb:fn.body=some c)
  (h:dI P Γ nx c (enter fn.ntmps args mem nx) (AO P fn.results.toList Q Qp)) (hF:Nat.beq F YF=false:=by rfl):bI P Γ F args mem nx Q Qp:=by
 refine⟨fun X D ρ w vs hD hm hv=>.of hF (callsIn_wide (n:=0).1 (callsIn_of_wp_marks (F:=FW none) hf hb trivial ?_))⟩;refine wpIn_mono (h.run none X ([],w.heap.size+1) D ρ _ w hD (wI hD hm hv (Nat.le_refl _)) (Nat.le_refl _) (fun _=>⟨rfl,Nat.succ_ne_zero _⟩)) ?_;rintro e a' w' ⟨s',ρ',hq,hB',hs',hext⟩;cases e with
 | normal=>
  simp only[AO] at hq;split at hq
  ·rename_i r hr;exact kX hr hs' hext fun x w2 j1 j2 j3=>⟨s'.mem,s'.nx,ρ',hB',j1,j3,.inl ⟨r,x,rfl,hq,j2⟩⟩
  ·exact hq.elim
 | ret=>
  simp only[AO] at hq;split at hq
  ·rename_i r hr;exact kX hr hs' hext fun x w2 j1 j2 j3=>⟨s'.mem,s'.nx,ρ',hB',j1,j3,.inl ⟨r,x,rfl,hq,j2⟩⟩
  ·exact hq.elim
 | panic ch=>
  simp only[AO] at hq;split at hq
  ·rename_i x he;cases he
  ·rename_i x he;cases he
  ·rename_i x he;cases he;exact sY hs' hext fun w2 j1 j3=>⟨s'.mem,s'.nx,ρ',hB',j1,j3,.inr ⟨x,rfl,hq⟩⟩
  ·exact hq.elim
 | _=>exact(show False from hq).elim
theorem yI{rd:Option Nat}{P:Program}{c:Code}:∀(m:Nat) (a:Act) (w:World) (Q1 Q2:Exit->Act->World->Prop),(∀e a w,Q1 e a w->Q2 e a w)->Code.roundsIn (FW rd) 0 P c Q1 m a w->Code.roundsIn (FW rd) 0 P c Q2 m a w
 | 0,_,_,_,_,_,h=>h
 | m+1,a,w,Q1,Q2,h12,h=>by
  rw[roundsIn_succ] at h ⊢;refine wpIn_mono h ?_;intro e a w h;cases e with
  | normal=>exact yI m a w Q1 Q2 h12 h
  | exit id=>exact h12 _ _ _ h
  | goto l=>exact h12 _ _ _ h
  | ret=>exact h12 _ _ _ h
  | panic ch=>exact h12 _ _ _ h
  | outgrown=>exact h12 _ _ _ h
theorem zK{F:Fence}{n:Nat}{P:Program}{Q:Exit->Act->World->Prop}{a:Act}{w:World}{c:Code}(I:Nat->Act->World->Prop)(n₀:Nat)(h₀:I n₀ a w)
  (round:∀m a w,I m a w->c.wpIn F n P (Exit.then (fun a' w'=>∃m',m'<m/\I m' a' w') Q) a w):(Code.loop c).wpIn F n P Q a w:=by
 have key:∀(k m:Nat) (a:Act) (w:World),m<k->I m a w->Code.roundsIn F n P c Q k a w:=by
  intro k
  induction k with
  | zero=>intro m a w h;omega
  | succ k ih=>
   intro m a w hm hI;rw[roundsIn_succ];refine wpIn_mono (round m a w hI) ?_;intro e a' w' hq;cases e with
   | normal=>obtain⟨m',hlt,hI'⟩:=hq;exact ih m' a' w' om hI'
   | exit id=>exact hq
   | goto l=>exact hq
   | ret=>exact hq
   | panic ch=>exact hq
   | outgrown=>exact hq
 exact wpIn_loop_rounds (n₀+1) (key _ n₀ a w (Nat.lt_succ_self _) h₀)
end Go.Ax
namespace Go.Ax
open Go
structure Conv(B:Nat)(σ:List (Nat × Nat))(s s':St):Prop where
 nt:s'.nt=s.nt
 sl:∀i v',lk s'.sl i=some v'->∃v,lk s.sl i=some v/\Cv s.mem σ v v'
 mem:K7 s.mem σ s'.mem
 nod:(s'.mem.map (·.1)).Nodup
 inj:Gx σ
 old:∀id id',lk σ id=some id'->(id'<B->id'=id)/\id'<s'.nx
 nx:B<=s'.nx
open Classical in
noncomputable def iG(σ:List (Nat × Nat))(ρ ρ0:Nat->cU)(n:Nat):cU:=if h:∃id,lk σ id=some n then ρ h.choose else ρ0 n
theorem iI{σ:List (Nat × Nat)}(hi:Gx σ){ρ ρ0:Nat->cU}{id n:Nat}(h:lk σ id=some n):iG σ ρ ρ0 n=ρ id:=by
 have hex:∃id,lk σ id=some n:=⟨id,h⟩
 unfold iG;rw[dif_pos hex];exact congrArg ρ (hi _ _ n hex.choose_spec h)
theorem sV{σ:List (Nat × Nat)}{ρ ρ0:Nat->cU}{n:Nat}(h:¬ ∃id,lk σ id=some n):iG σ ρ ρ0 n=ρ0 n:=by
 unfold iG;rw[dif_neg h]
theorem rJ{Γ:List (Nat × AV)}{X:Nat->Prop}{ρ:Nat->cU}{D:Nat->Prop}{B n n':Nat}{σ:List (Nat × Nat)}{m m':aN}{w:World}(hΓ:∀p∈Γ,NN p.2)(hD:∀i,D i->i<B)
  (hm:MR Γ X ρ (dn D B n) m w) (hM:K7 m σ m') (hnod:(m'.map (·.1)).Nodup) (hinj:Gx σ) (hold:∀id id',lk σ id=some id'->(id'<B->id'=id)/\id'<n') :
  MR Γ X (iG σ ρ ρ) (dn D B n') m' w/\(∀v v',Cv m σ v v'->∀x,VR ρ (dn D B n) (OX X ρ m) w v x->VR (iG σ ρ ρ) (dn D B n') (OX X (iG σ ρ ρ) m') w v' x) /\
   Ext D ρ m w (iG σ ρ ρ) (dn D B n') m' w:=by
 have hσ:∀id id',lk σ id=some id'->dn D B n id->dn D B n' id'/\iG σ ρ ρ id'=ρ id:=by
  intro id id' h hd;refine⟨?_,iI hinj h⟩;obtain⟨h1,h2⟩:=hold id id' h;rcases Nat.lt_or_ge id' B with h3|h3
  ·have h4:=h1 h3;rcases hd with hd|⟨hd1,hd2⟩
   ·rw[h4];exact .inl hd
   ·omega
  ·exact .inr ⟨h3,h2⟩
 obtain⟨m1,v1,o1⟩:=hm.turn hΓ hσ hM hnod hinj;refine⟨m1,v1,fun i hi=>.inl hi,fun i hi=>?_,Nat.le_refl _,fun _ _ _=>rfl,fun p hp hn=>.inl (o1 p hp hn),.go⟩;by_cases hex:∃id,lk σ id=some i
 ·obtain⟨id,h⟩:=hex;rw[iI hinj h];rw[(hold id i h).1 (hD i hi)]
 ·exact sV hex
section
variable {P:Program} {Γ:List (Nat × AV)} {B:Nat} {c:Code}
theorem SR.conv{X:Nat->Prop}{ds:List Deferred × Nat}{ρ:Nat->cU}{D:Nat->Prop}{s s':St}{a:Act}{w:World}{σ:List (Nat × Nat)}(hΓ:∀p∈Γ,NN p.2)(hD:∀i,D i->i<B)(hc:Conv B σ s s')(hs:SR Γ X ds ρ (dn D B s.nx) s a w) :
  SR Γ X ds (iG σ ρ ρ) (dn D B s'.nx) s' a w/\Ext D ρ s.mem w (iG σ ρ ρ) (dn D B s'.nx) s'.mem w:=by
 obtain⟨m1,v1,e1⟩:=rJ hΓ hD hs.mr hc.mem hc.nod hc.inj hc.old;have e1':=e1;refine⟨⟨m1,e1'.mks hs.def0,by rw[hc.nt];exact hs.size,fun i v' hi=>?_⟩,e1⟩;obtain⟨v,hv,hcv⟩:=hc.sl i v' hi;exact v1 v v' hcv _ (hs.slot i v hv)
theorem dI.conv{s s':St}{Q:Exit->St->Prop}{σ:List (Nat × Nat)}(hΓ:∀p∈Γ,NN p.2)(hc:Conv B σ s s')(h:dI P Γ B c s' Q):dI P Γ B c s Q:=by
 refine⟨fun rd X ds D ρ a w hD hs hB hr=>?_⟩;obtain⟨h1,h2⟩:=hs.conv hΓ hD hc;refine wpIn_mono (h.run rd X ds D _ a w hD h1 hc.nx hr) ?_;rintro e a' w' ⟨s2,ρ2,k1,k2,k3,k4⟩;exact⟨s2,ρ2,k1,k2,k3,h2.trans k4⟩
theorem dI.ph{s:St}{Q:Exit->St->Prop}(t:TypeId)(sz:Nat)(h:dI P Γ B c ⟨s.sl,(s.nx,.row t sz [])::s.mem,s.nx+1,s.nt⟩ Q):dI P Γ B c s Q:=by
 refine⟨fun rd X ds D ρ a w hD hs hB hr=>?_⟩;obtain⟨m1,v1,e1⟩:=hs.mr.phantom (n:=s.nx) (D':=dn D B (s.nx+1)) (fun h'=>Nat.lt_irrefl _ (r8 hD hB _ h')) (tN (Nat.le_succ _)) (.inr ⟨hB,Nat.lt_succ_self _⟩) t sz;refine wpIn_mono (h.run rd X ds D _ a w hD ⟨m1,(e1 D fun i hi=>.inl hi).mks hs.def0,hs.size,fun i v hi=>v1 _ _ (hs.slot i v hi)⟩ (Nat.le_trans hB (Nat.le_succ _)) hr) ?_;rintro e a' w' ⟨s2,ρ2,k1,k2,k3,k4⟩;exact⟨s2,ρ2,k1,k2,k3,(e1 D fun i hi=>.inl hi).trans k4⟩
structure QH(B:Nat)(σ:List (Nat × Nat))(r:AV)(m:aN)(r':AV)(m':aN)(n':Nat):Prop where
 res:Cv m σ r r'
 mem:K7 m σ m'
 nod:(m'.map (·.1)).Nodup
 inj:Gx σ
 old:∀id id',lk σ id=some id'->(id'<B->id'=id)/\id'<n'
 nx:B<=n'
inductive kQ (B:Nat) (Q:AV->aN->Nat->Prop) (r:AV) (m:aN) (n:Nat):Prop
 | mk (σ:List (Nat × Nat)) (r':AV) (m':aN) (n':Nat):QH B σ r m r' m' n'->Q r' m' n'->kQ B Q r m n
theorem aG.turn{F:FuncId}{args:List AV}{mem:aN}{nx:Nat}{Q:AV->aN->Nat->Prop}(hΓ:∀p∈Γ,NN p.2)(h:aG P Γ F args mem nx (kQ nx Q)):aG P Γ F args mem nx Q:=by
 refine⟨fun X D ρ w vs hD hm hv=>(h.run X D ρ w vs hD hm hv).mono ?_⟩;rintro e w' ⟨r,v,m,n,ρ',h1,⟨σ,r',m',n',hc,hq⟩,h3,h4,h5,h6⟩;obtain⟨m1,v1,e1⟩:=rJ hΓ hD h4 hc.mem hc.nod hc.inj hc.old;exact⟨r',v,m',n',_,h1,hq,hc.nx,m1,v1 r r' hc.res _ h5,h6.trans e1⟩
theorem dI.loop{α:Type}(hΓ:∀p∈Γ,NN p.2)(I:α->St)(μ:α->Nat){Q:Exit->St->Prop}
  (h:∀x,dI P Γ B c (I x) fun e s=>match e with
   | .normal=>∃y σ,Conv B σ s (I y)/\μ y<μ x
   | e=>Q e s) (x:α):dI P Γ B (.loop c) (I x) Q:=by
 refine⟨fun rd X ds D ρ a w hD hs hB hr=>?_⟩;refine zK (fun n a' w'=>∃(y:α) (ρ':Nat->cU),n=μ y/\B<=(I y).nx/\SR Γ X ds ρ' (dn D B (I y).nx) (I y) a' w'/\Ext D ρ (I x).mem w ρ' (dn D B (I y).nx) (I y).mem w') (μ x) ⟨x,ρ,rfl,hB,hs,Ext.refl fun i hi=>.inl hi⟩ ?_;rintro n a1 w1 ⟨y,ρ1,rfl,hB1,hs1,e1⟩;refine wpIn_mono ((h y).run rd X ds D ρ1 a1 w1 hD hs1 hB1 hr.loop) ?_;rintro e a2 w2 ⟨s2,ρ2,hq,hB2,hs2,e2⟩;cases e with
 | normal=>
  obtain⟨z,σ,hc,hlt⟩:=hq;obtain⟨h1,h2⟩:=hs2.conv hΓ hD hc;exact⟨μ z,hlt,z,_,rfl,hc.nx,h1,(e1.trans e2).trans h2⟩
 | exit i=>exact⟨s2,ρ2,hq,hB2,hs2,e1.trans e2⟩
 | goto l=>exact⟨s2,ρ2,hq,hB2,hs2,e1.trans e2⟩
 | ret=>exact⟨s2,ρ2,hq,hB2,hs2,e1.trans e2⟩
 | panic c=>exact⟨s2,ρ2,hq,hB2,hs2,e1.trans e2⟩
 | outgrown=>exact⟨s2,ρ2,hq,hB2,hs2,e1.trans e2⟩
def CO(P:Program)(Γ:List (Nat × AV))(B:Nat):Hk:={ call:=fun F args mem nx K _=>aG P Γ F args mem nx K,loop:=fun c s Q=>dI P Γ B (.loop c) s Q }
theorem qH:wA P Γ B (CO P Γ B):=⟨fun _ _ _ _ _ _ h=>aG.toP h,fun _ _ _ h=>h⟩
def Dd(P:Program)(Γ:List (Nat × AV))(B:Nat):Hk:={ call:=bI P Γ,loop:=fun c s Q=>dI P Γ B (.loop c) s Q }
theorem Dw:wA P Γ B (Dd P Γ B):=⟨fun _ _ _ _ _ _ h=>h,fun _ _ _ h=>h⟩
def jL(mem:aN)(σ:List (Nat × Nat))(as bs:List AV):Prop:=as.length=bs.length/\∀(j:Nat) (c c':AV),as[j]? = some c->bs[j]? = some c'->Cv mem σ c c'
theorem aG.use{F:FuncId}{as args:List AV}{ms mem m1 rest:aN}{ns nx:Nat}{Qs K:AV->aN->Nat->Prop}(hΓ:∀p∈Γ,NN p.2)(h:aG P Γ F as ms ns Qs)(σ:List (Nat × Nat))
  (hp:rC mem m1 rest) (hrest:(rest.map (·.1)).Nodup) (hargs:jL m1 σ args as) (hM:K7 m1 σ ms) (hnod:(ms.map (·.1)).Nodup) (hinj:Gx σ) (hlt:∀id i,lk σ id=some i->i<ns)
  (hk:∀r m n,Qs r m n->ns<=n->∃τ r' m' n',nx<=n'/\Cv m τ r r'/\K7 m τ m'/\(m'.map (·.1)).Nodup/\Gx τ/\(∀i id,lk τ i=some id->(i<ns/\lk σ id=some i)∨(ns<=i/\nx<=id/\id<n')) /\
   (∀p∈m',∀q∈rest,p.1≠q.1)/\K r' (m'++rest) n'):aG P Γ F args mem nx K:=by
 refine⟨fun X D ρ w vs hD hm hv=>?_⟩;obtain⟨p1,pv⟩:=hm.part hp;have hσ:∀id i,lk σ id=some i->D id->(∃id,lk σ id=some i/\D id)/\iG σ ρ ρ i=ρ id:=fun id i h1 h2=>⟨⟨id,h1,h2⟩,iI hinj h1⟩
 obtain⟨s1,sv,so⟩:=p1.turn (D':=fun i=>∃id,lk σ id=some i/\D id) hΓ hσ hM hnod hinj;have hvs:iH (iG σ ρ ρ) (fun i=>∃id,lk σ id=some i/\D id) (OX (XR X ρ rest) (iG σ ρ ρ) ms) w as vs:=
  ⟨by rw[←hargs.1];exact hv.1,fun j c' x hc' hx=>by
   obtain⟨c,hc⟩:=cQ hargs.1 hc';exact sv c c' (hargs.2 j c c' hc hc') _ (pv _ _ (hv.2 j c x hc hx))⟩
 refine(h.run _ _ _ w vs (fun i ⟨id,h1,_⟩=>hlt id i h1) s1 hvs).mono ?_;rintro e w' ⟨r,v,m,n,ρs,rfl,hq,hn,r1,rv,ext⟩;obtain⟨τ,r',m',n',hn',t1,t2,t3,t4,t5,t6,hK⟩:=hk r m n hq hn;have hτ:∀i id,lk τ i=some id->dn (fun i=>∃id,lk σ id=some i/\D id) ns n i->dn D nx n' id/\iG τ ρs ρ id=ρs i:=by
  intro i id h1 h2;refine⟨?_,iI t4 h1⟩;rcases t5 i id h1 with⟨h3,h4⟩|⟨h3,h4,h5⟩
  ·rcases h2 with⟨id0,h5,h6⟩|⟨h5,_⟩
   ·rw[hinj id id0 i h4 h5];exact .inl h6
   ·omega
  ·exact .inr ⟨h4,h5⟩
 obtain⟨u1,uv,uo⟩:=r1.turn hΓ hτ t2 t3 t4;have hext:Ext D ρ m1 w (iG τ ρs ρ) (dn D nx n') m' w':=by
  refine⟨fun i hi=>.inl hi,fun id hid=>?_,ext.size,fun b hb ho=>?_,fun p hp' hpn=>?_,ext.env⟩
  ·by_cases hex:∃i,lk τ i=some id
   ·obtain⟨i,hi⟩:=hex;rw[iI t4 hi];rcases t5 i id hi with⟨h3,h4⟩|⟨h3,h4,h5⟩
    ·rw[ext.agree i ⟨id,h4,hid⟩,iI hinj h4]
    ·have:=hD id hid;omega
   ·exact sV hex
  ·refine ext.keep b hb fun⟨p,hp',hpn,e⟩=>ho ?_
   rw[←e];exact so p hp' hpn
  ·obtain⟨q,hq',hqn,e⟩:=uo p hp' hpn;rw[←e];rcases ext.fresh q hq' hqn with⟨q',hq1,hq2,e'⟩|h1
   ·rw[←e'];exact .inl (so q' hq1 hq2)
   ·exact .inr h1
 obtain⟨j1,j2,j3,j4⟩:=MR.join (D':=dn D nx n') hm hp u1 hext (fun p hp=>hp) t6 hrest;exact⟨r',v,m'++rest,n',_,rfl,hK,hn',j1,j2 _ _ (uv r r' t1 _ rv),j4 D fun i hi=>hi⟩
inductive Sc:AV->Prop
 | bool (b:Bool):Sc (.bool b)
 | int (k:IntKind) (n:Int):Sc (.int k n)
 | str (s:List UInt8):Sc (.str s)
 | nptr:Sc .nptr
 | nsl:Sc .nsl
 | nmap:Sc .nmap
 | nfn:Sc .nfn
 | nif:Sc .nif
 | junk:Sc .junk
 | ifc (t:TypeId) (v:AV):Sc v->Sc (.ifc t v)
 | agg (cs:List AV):(∀(j:Nat) (c:AV),cs[j]? = some c->Sc c)->Sc (.agg cs)
 | tup (cs:List AV):(∀(j:Nat) (c:AV),cs[j]? = some c->Sc c)->Sc (.tup cs)
theorem Sc.vr{ρ ρ':Nat->cU}{D D' O O':Nat->Prop}{w w':World}{v:AV}{x:Value}(h:VR ρ D O w v x)(hn:Sc v):VR ρ' D' O' w' v x:=by
 induction h with
 | bool=>exact .bool _
 | int=>exact .int _ _
 | str=>exact .str _
 | nptr=>exact .nptr
 | nsl=>exact .nsl
 | nmap=>exact .nmap
 | nfn=>exact .nfn
 | nif=>exact .nif
 | ifc t v x _ ih=>cases hn with|ifc _ _ hn=>exact .ifc t v x (ih hn)
 | agg cs arr hl ho _ ih=>cases hn with|agg _ hn=>exact .agg cs arr hl ho fun j c x h1 h2=>ih j c x h1 h2 (hn j c h1)
 | tup cs arr hl _ ih=>cases hn with|tup _ hn=>exact .tup cs arr hl fun j c x h1 h2=>ih j c x h1 h2 (hn j c h1)
 | junk x=>exact .junk x
 | _=>cases hn
theorem aG.lend{F:FuncId}{as args:List AV}{mem:aN}{nx:Nat}{Qs K:AV->aN->Nat->Prop}(hΓ:∀p∈Γ,NN p.2)(h:aG P Γ F as [] 0 Qs)(hargs:jL mem [] args as)
  (hk:∀r m n,Qs r m n->Sc r/\K r mem nx):aG P Γ F args mem nx K:=by
 refine⟨fun X D ρ w vs hD hm hv=>?_⟩;obtain⟨s1,sv,so⟩:=hm.turn (σ:=[]) (ρ':=ρ) (D':=fun _=>False) (mem':=[]) hΓ (fun id id' h=>by simp[lk] at h) (fun p hp=>by simp at hp) (by simp) (fun i j k h=>by simp[lk] at h);have hvs:iH ρ (fun _=>False) (OX X ρ []) w as vs:=
  ⟨by rw[←hargs.1];exact hv.1,fun j c' x hc' hx=>by
   obtain⟨c,hc⟩:=cQ hargs.1 hc';exact sv c c' (hargs.2 j c c' hc hc') _ (hv.2 j c x hc hx)⟩
 refine(h.run _ _ _ w vs (fun i h=>h.elim) s1 hvs).mono ?_;rintro e w' ⟨r,v,m,n,ρs,rfl,hq,hn,r1,rv,ext⟩;obtain⟨hsc,hK⟩:=hk r m n hq;obtain⟨m2,e2⟩:=hm.still ext.size (fun b hb=>ext.keep b hb (fun⟨p,hp,_⟩=>by simp at hp)) ext.env;obtain⟨m3,v3,e3⟩:=m2.widen (D':=dn D nx nx) (fun i hi=>.inl hi);exact⟨r,v,mem,nx,ρ,rfl,hK,Nat.le_refl _,m3,Sc.vr rv hsc,(e2 D fun i hi=>hi).trans (e3 D fun i hi=>hi)⟩
end
end Go.Ax
