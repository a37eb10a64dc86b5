/- A part of the proof. -/
import Derived.Test.YtnbkfjjdlofdpaaGreatDoorAx3
import Derived.RangeFuncLeaves
import Derived.LoopNIn
import Derived.Scope
import Derived.Deep.LoopGhost
set_option linter.unusedVariables false
set_option linter.unusedSimpArgs false
set_option linter.unusedSectionVars false
namespace Go.Ax
open Go
theorem MR.still{Γ:List (Nat × AV)}{X:Nat->Prop}{ρ:Nat->a6}{D:Nat->Prop}{mem:aA}{w w':World}(hm:MR Γ X ρ D mem w)(hsz:w.heap.size<=w'.heap.size)(hh:∀b,b<w.heap.size->w'.heap[b]? = w.heap[b]?)(hos:tF w w') :
  MR Γ X ρ D mem w'/\∀A:Nat->Prop,(∀i,A i->D i)->Ext A ρ mem w ρ D mem w':=by
 have hk:∀b,b<w.heap.size->¬OX X ρ mem b->¬OX X ρ mem b/\w'.heap[b]? = w.heap[b]? := fun b hb ho=>⟨ho,hh b hb⟩
 have hmono:∀v x,VR ρ D (OX X ρ mem) w v x->VR ρ D (OX X ρ mem) w' v x:=fun v x h=>h.mono (fun _ _=>rfl) (fun _ h=>h) hk
 refine⟨⟨hm.low,fun p hp hn=>?_,hm.emp,hm.inj,hm.nod,fun b hb=>⟨Nat.lt_of_lt_of_le (hm.bar b hb).1 hsz,(hm.bar b hb).2⟩,fun p hp=>hmono _ _ (hm.glo p hp)⟩,fun A hA=>⟨fun i hi=>hA i hi,fun _ _=>rfl,hsz,fun b hb _=>hh b hb,fun p hp hn=>.inl ⟨p,hp,hn,rfl⟩,hos⟩⟩;obtain⟨o,ho,hb⟩:=hm.blk p hp hn;exact⟨o,by rw[hh _ (eA hm (.inr ⟨p,hp,hn,rfl⟩))];exact ho,hb.mono (fun _ _=>rfl) (fun _ h=>h) hk⟩
theorem VR.swap{ρ:Nat->a6}{D:Nat->Prop}{O O':Nat->Prop}{w w':World}(hk:∀b off v,w.cell? ⟨b,off,none⟩=some v->¬O b->¬O' b/\w'.cell? ⟨b,off,none⟩=some v){v:AV}{x:Value}(h:VR ρ D O w v x):VR ρ D O' w' v x:=by
 induction h with
 | bool=>exact .bool _
 | int=>exact .int _ _
 | str=>exact .str _
 | nptr=>exact .nptr
 | nsl=>exact .nsl
 | nmap=>exact .nmap
 | nfn=>exact .nfn
 | nif=>exact .nif
 | ptr id i j hid=>exact .ptr id i j hid
 | sl id off len cap hid h1 h2=>exact .sl id off len cap hid h1 h2
 | slz id off b o hid=>exact .slz id off b o hid
 | slzn id off hid=>exact .slzn id off hid
 | mp id hid=>exact .mp id hid
 | ip v b off f h1 _ ih=>
  refine .ip v b off f (fun j c hj=>?_) ih;obtain⟨ho,hc,hone⟩:=h1 j c hj;exact⟨(hk _ _ _ hc ho).1,(hk _ _ _ hc ho).2,hone⟩
 | il sz xs b off cap f hl hs h1 _ ih=>
  refine .il sz xs b off cap f hl hs (fun i x j c hi hj=>?_) ih;obtain⟨ho,hc,hone⟩:=h1 i x j c hi hj;exact⟨(hk _ _ _ hc ho).1,(hk _ _ _ hc ho).2,hone⟩
 | iln=>exact .iln _
 | fn f first cap a1 a2 l1 l2 _ _ ih1 ih2=>exact .fn f first cap a1 a2 l1 l2 ih1 ih2
 | ifc t v x _ ih=>exact .ifc t v x ih
 | agg cs arr hl ho _ ih=>exact .agg cs arr hl ho ih
 | tup cs arr hl _ ih=>exact .tup cs arr hl ih
 | junk x=>exact .junk x
 | yld id hid=>exact .yld id hid
theorem BR.swap{ρ:Nat->a6}{D:Nat->Prop}{O O':Nat->Prop}{w w':World}(hk:∀b off v,w.cell? ⟨b,off,none⟩=some v->¬O b->¬O' b/\w'.cell? ⟨b,off,none⟩=some v){l:a6}{o:Obj}{a:AB}(h:BR ρ D O w l o a):BR ρ D O' w' l o a:=by
 cases a with
 | row t sz xs=>
  obtain⟨h0,arr,fr,h1,hf,h2,h3,h4⟩:=h;refine⟨h0,arr,fr,h1,hf,h2,h3,fun i x hi=>⟨(h4 i x hi).1,fun j c hj=>?_⟩⟩;obtain⟨v,hv,ho,hr⟩:=(h4 i x hi).2 j c hj;exact⟨v,hv,ho,hr.swap hk⟩
 | mapb es=>
  obtain⟨arr,clk,h1,h2,h3,hc⟩:=h;refine⟨arr,clk,h1,h2,fun i e he=>?_,hc⟩;obtain⟨m,hm,hr1,hr2⟩:=h3 i e he;exact⟨m,hm,hr1.swap hk,hr2.swap hk⟩
 | loop sl nt ps ca cb st pd=>
  obtain⟨arr,fn,df,h1,h2,h3⟩:=h;exact⟨arr,fn,df,h1,h2,fun i v hi=>(h3 i v hi).swap hk⟩
 | iter mid n bK=>exact h
theorem MR.shut{Γ:List (Nat × AV)}{X D:Nat->Prop}{ρ:Nat->a6}{mem:aA}{w:World}(hm:MR Γ X ρ D mem w){b:Nat}{o o':Obj}(ho:w.heap[b]? = some o)(hc:o.isCells=false)(hb:¬OX X ρ mem b) :
  MR Γ X ρ D mem (w.putObj b o')/\(∀v x,VR ρ D (OX X ρ mem) w v x->VR ρ D (OX X ρ mem) (w.putObj b o') v x):=by
 have hk:∀c off v,w.cell? ⟨c,off,none⟩=some v->¬OX X ρ mem c->¬OX X ρ mem c/\(w.putObj b o').cell? ⟨c,off,none⟩=some v:=by
  intro c off v hv hn;refine⟨hn, ?_⟩;have hne:c≠b:=by
   rintro rfl;simp only[World.cell?,ho] at hv;cases o<;>simp_all[Obj.isCells]
  rw[oS (World.putObj_heap_other hne)];exact hv
 refine⟨⟨hm.low,fun p hp hn=>?_,hm.emp,hm.inj,hm.nod,fun c hx=>⟨by simpa using (hm.bar c hx).1,(hm.bar c hx).2⟩,fun p hp=>(hm.glo p hp).swap hk⟩,fun v x h=>h.swap hk⟩;obtain⟨o1,h1,h2⟩:=hm.blk p hp hn;have hne:(ρ p.1).b≠b:=fun e=>hb (.inr ⟨p,hp,hn,e⟩)
 exact⟨o1,by rw[World.putObj_heap_other hne];exact h1,h2.swap hk⟩
theorem uA(w:World)(o:Obj){b:Nat}(hb:b<w.heap.size):(w.alloc o).heap[b]? = w.heap[b]? := by
 show (w.heap.push o)[b]? = _
 simp[J7,Nat.ne_of_lt hb]
theorem qL.push{Γ:List (Nat × AV)}{X D:Nat->Prop}{ρ:Nat->a6}{mem:aA}{w:World}{ds:List Deferred × Nat}{dd:List Deferred}(hm:MR Γ X ρ D mem w)(h:qL (OX X ρ mem) w ds dd)(h0:ds.2≠0) :
  qL (OX X ρ mem) (w.alloc (.deferred (some []))) ds ({ target:=.collected w.heap.size,args:=#[] }::dd):=by
 obtain⟨h1,ms,h2,_,hn,h3⟩:=h;refine⟨by simp;omega,_::ms,by rw[h2];rfl,fun e=>absurd e h0,JU.2 ⟨fun hd=>?_,hn⟩,fun d hd=>?_⟩
 ·obtain⟨b,e,_,_,hh⟩:=h3 _ hd;have hlt:b<w.heap.size:=(J3.1 hh).1;cases e;omega
 ·rcases JA.1 hd with rfl|hd
  ·exact⟨_,rfl,h1,fun ho=>KG _ (eA hm ho),World.alloc_heap_new _ _⟩
  ·obtain⟨b,e,hb,ho,hh⟩:=h3 d hd;have hlt:b<w.heap.size:=(J3.1 hh).1;exact⟨b,e,hb,ho,(uA _ _ hlt).trans hh⟩
def rP(id:Nat)(m:aA):aA:=m.filter fun p=>!Nat.beq p.1 id
def vV(s:St)(Q:Exit->St->Prop)(m:aA)(n:Nat):Prop:=
 match lk m s.nx with
 | some (.loop _ _ _ _ _ st pd)=>match st with
  | .busy=>False
  | _=>match pd with
   | none=>Q .normal ⟨s.sl,rP s.nx m,n,s.nt⟩
   | some .ret=>Q .ret ⟨s.sl,rP s.nx m,n,s.nt⟩
   | some (.exit i)=>Q (.exit i) ⟨s.sl,rP s.nx m,n,s.nt⟩
   | some _=>False
 | _=>False
theorem qJ{Γ:List (Nat × AV)}{X D:Nat->Prop}{ρ:Nat->a6}{mem:aA}{w:World}(hm:MR Γ X ρ D mem w){id nt:Nat}{sl:List (Nat × AV)}{ps:Array Tmp}{ca cb:Code}{st:LoopState}{pd:Option Code}(h:lk mem id=some (.loop sl nt ps ca cb st pd)) :
  0<(ρ id).n/\∃(arr:Array Value) (fn:FuncId) (df:Nat),w.heap[(ρ id).b]? = some (.loop { state:=st,pending:=pd,fn:=fn,tmps:=arr,params:=ps,assign:=ca,body:=cb,defers:=df })/\arr.size=nt/\∀(i:Nat) (v:AV),lk sl i=some v->VR ρ D (OX X ρ mem) w v (arr.getD i undef):=by
 have hp:0<(ρ id).n:=by
  rcases JT (ρ id).n with h'|h'
  ·obtain⟨t',sz',e,_⟩:=hm.emp _ (aF h) h';cases e
  ·exact h'
 obtain⟨o,ho,arr,fn,df,rfl,h1,h2⟩:=hm.blk _ (aF h) hp;exact⟨hp,arr,fn,df,ho,h1,h2⟩
theorem cJ.range{P:Program}{Γ:List (Nat × AV)}{B:Nat}{g:Operand}{ps:Array Tmp}{ca cb:Code}{s:St}{Q:Exit->St->Prop}{G:FuncId}{first cap:List AV}{fn:Func}{c0:Code}
  (hg:ev Γ s g=some (.fn (.func G) first cap)) (hf:P.funcs[G]? = some fn) (hb:fn.body=some c0) (hn:(fn.name == "runtime.NumGoroutine")=false) (hG:Nat.beq G YF=false)
  (h:bZ P Γ G (first ++ .yld s.nx::cap) ((s.nx,.loop s.sl s.nt ps ca cb .ready none)::s.mem) (s.nx+1) (fun _ m n=>vV s Q m n) fun x m n=>Q (.panic [pe x]) ⟨s.sl,m,n,s.nt⟩) :
  cJ P Γ B (.rangeFunc g ps ca cb) s Q:=by
 refine⟨fun rd X ds D ρ a w hD hs hB hr=>wpIn_rangeFunc fun fn0 _=>?_⟩;obtain⟨rfl,hds⟩:=hr rfl;have hgv:=aB hs hg;generalize he:a.eval g=gv at hgv;cases hgv with
 | fn _ _ _ a1 a2 l1 l2 r1 r2=>
  obtain⟨rec,hrec⟩:∃rec:Loop,rec={ state:=.ready,pending:=none,fn:=fn0,tmps:=a.tmps,params:=ps,assign:=ca,body:=cb,defers:=w.heap.size }:=⟨_,rfl⟩
  obtain⟨m0,e0⟩:=hs.mr.still (w':=w.alloc (.deferred (some []))) (by simp) (fun b hb=>uA _ _ hb) .go;have e0':=e0 _ fun i hi=>hi
  have hn0:¬dn D B s.nx s.nx:=fun h'=>KG _ (jI hD hB _ h')
  obtain⟨m1,v1,e1⟩:=m0.allocG (n:=s.nx) (D':=dn D B (s.nx+1)) hn0 (kZ (Kq _)) (.inr ⟨hB,J9 _⟩) (l:=⟨(w.alloc (.deferred (some []))).heap.size,1,1⟩) (o:=.loop rec)
   (a:=.loop s.sl s.nt ps ca cb .ready none) (w':=(w.alloc (.deferred (some []))).alloc (.loop rec)) rfl Nat.one_pos rfl .go ⟨a.tmps,fn0,w.heap.size,by rw[hrec],hs.size,fun i v hi=>e0'.vr (hs.slot i v hi)⟩
  have e1':=e1 _ fun i hi=>hi
  have hid:bQ ρ s.nx ⟨(w.alloc (.deferred (some []))).heap.size,1,1⟩ s.nx=⟨w.heap.size+1,1,1⟩:=by simp[bQ]
  have hyv:=VR.yld (ρ:=bQ ρ s.nx ⟨(w.alloc (.deferred (some []))).heap.size,1,1⟩) (D:=dn D B (s.nx+1)) (O:=OX X (bQ ρ s.nx ⟨(w.alloc (.deferred (some []))).heap.size,1,1⟩) ((s.nx,.loop s.sl s.nt ps ca cb .ready none)::s.mem)) (w:=(w.alloc (.deferred (some []))).alloc (.loop rec)) s.nx (.inr ⟨hB,J9 _⟩);rw[hid] at hyv;have hvs:=dO.append (cs:=first) (xs:=a1.toList) ⟨by simpa using l1,fun j c x h1 h2=>v1 _ _ (e0'.vr (r1 j c x h1 (by simpa using h2)))⟩ (dO.cons hyv (cs:=cap) (xs:=a2.toList) ⟨by simpa using l2,fun j c x h1 h2=>v1 _ _ (e0'.vr (r2 j c x h1 (by simpa using h2)))⟩);have hcall:=(h.run X (dn D B (s.nx+1)) _ _ _ (jI hD (Jh hB (Kq _))) m1 hvs).calls hG;have hname':¬fn.name = "runtime.NumGoroutine" := by simpa using hn
  refine⟨w.heap.size+1,[{ target:=.collected w.heap.size,args:=#[] }],(w.alloc (.deferred (some []))).alloc (.loop rec),{ target:=.fn (.func G) a2,args:=a1 ++ #[.func (.yield (w.heap.size+1)) #[] #[]] },(w.alloc (.deferred (some []))).alloc (.loop rec),G,_,(w.alloc (.deferred (some []))).alloc (.loop rec), ?_, ?_,fun _ _=>trivial, ?_,fun h=>by simp[FW,Fence.wide] at h,qZ.2 (hcall.mono ?_)⟩
  ·rw[hrec];exact run_enterLoop_outer _ _ _ _ _
  ·simp[resolve,he,Deferred.ofValue];rfl
  ·simp[invoke,callFunc,hf,hb,hname']
  ·rintro e w2 ⟨mem2,nx2,ρ2,hnx,m2,ext2,hres⟩;have hnx':s.nx+1<=nx2:=hnx;obtain⟨m2,mono2,_⟩:=m2.widen (g5 (Jh hB (Kq _)) hnx);have ext2':=ext2.wide (g5 (Jh hB (Kq _)) hnx);have hB2:B<=nx2:=om;have E2:Ext D ρ s.mem w ρ2 (dn D B nx2) mem2 w2:=((e0 D fun i hi=>.inl hi).wide (kZ (JG _))).trans ((e1 D fun i hi=>.inl hi).trans (ext2'.sub fun i hi=>.inl hi));have hk2:qL (OX X ρ2 mem2) w2 ds ({ target:=.collected w.heap.size,args:=#[] }::a.defers):=ext2'.mks (e1'.mks (hs.def0.push hs.mr hds));have hsl:∀i v,lk s.sl i=some v->VR ρ2 (dn D B nx2) (OX X ρ2 mem2) w2 v (a.tmps.getD i undef):=fun i v hi=>ext2'.vr (v1 _ _ (e0'.vr (hs.slot i v hi)))
   rcases hres with⟨r,v,rfl,hq,rv⟩|⟨x,rfl,hq⟩
   ·simp only[vV] at hq;split at hq
    ·rename_i sl' nt' ps' ca' cb' st pd hl;have hag:ρ2 s.nx=⟨w.heap.size+1,1,1⟩:=by rw[ext2.agree s.nx (.inr ⟨hB,J9 _⟩),hid]
     obtain⟨hp,arr,fn',df,ho,h1,h2⟩:=qJ m2 hl;rw[hag] at ho;have hnb:st≠.busy:=by rintro rfl;exact hq
     have hend:=run_endLoop (P:=P) ho hnb;have hsub:∀p∈rP s.nx mem2,p∈mem2:=fun p hp=>(JS.1 hp).1
     obtain⟨m3,v3,e3⟩:=m2.less hsub (bR m2.nod);have hno:¬OX X ρ2 (rP s.nx mem2) (w.heap.size+1):=by
      rintro(hx|⟨p,hp',hpn,e⟩)
      ·exact(m2.bar _ hx).2 ⟨_,aF hl,hp,by rw[hag]⟩
      ·have:=m2.inj p (hsub p hp') _ (aF hl) hpn hp (by rw[hag];exact e);have h':=(JS.1 hp').2;simp only at this;rw[this] at h';simp at h'
     obtain⟨m4,v4⟩:=m3.shut (o':=.loop { state:=.exhausted,pending:=pd,fn:=fn',tmps:=arr,params:=ps',assign:=ca',body:=cb',defers:=df }) ho rfl hno;have E3:=E2.trans (e3 D fun i hi=>.inl hi);have E4:Ext D ρ s.mem w ρ2 (dn D B nx2) (rP s.nx mem2) (w2.putObj (w.heap.size+1) (.loop { state:=.exhausted,pending:=pd,fn:=fn',tmps:=arr,params:=ps',assign:=ca',body:=cb',defers:=df })):=
      ⟨E3.le,E3.agree,by simpa using E3.size,fun b hb hno=>by rw[World.putObj_heap_other om];exact E3.keep b hb hno,E3.fresh,⟨E3.env.os,E3.env.output,E3.env.tape,E3.env.drawn⟩⟩
     have S4:SR Γ X ds ρ2 (dn D B nx2) ⟨s.sl,rP s.nx mem2,nx2,s.nt⟩ { a with defers:=[{ target:=.collected w.heap.size,args:=#[] }]++a.defers } (w2.putObj (w.heap.size+1) (.loop { state:=.exhausted,pending:=pd,fn:=fn',tmps:=arr,params:=ps',assign:=ca',body:=cb',defers:=df })):=by
      refine⟨m4,hk2.at (by simp) fun b hb hno=>⟨fun h=>hno (h.imp (fun h=>h) fun⟨p,h1,h2⟩=>⟨p,hsub p h1,h2⟩), ?_⟩,hs.size,fun i v hi=>v4 _ _ (v3 _ _ (hsl i v hi))⟩;rw[World.putObj_heap_other];rintro rfl;exact hno (.inr ⟨_,aF hl,hp,by rw[hag]⟩)
     refine⟨pd,_,hend, ?_⟩;split at hq
     ·exact hq.elim
     ·split at hq
      ·exact⟨_,ρ2,hq,hB2,S4,E4⟩
      ·exact wpIn_ret ⟨_,ρ2,hq,hB2,S4,E4⟩
      ·exact wpIn_exit ⟨_,ρ2,hq,hB2,S4,E4⟩
      ·exact hq.elim
    ·exact hq.elim
   ·exact⟨_,ρ2,hq,hB2,⟨m2,hk2,hs.size,hsl⟩,E2⟩
def pK(nt:Nat):List Tmp->List AV->List (Nat × AV)->Option (List (Nat × AV))
 | [],[],sl=>some sl
 | t::ts,v::vs,sl=>match Nat.blt t nt with
  | true=>pK nt ts vs (up sl t v)
  | false=>none
 | _,_,_=>none
theorem pI{ρ:Nat->a6}{D O:Nat->Prop}{w:World}{nt:Nat}:∀{ts:List Tmp} {vs:List AV} {sl sl':List (Nat × AV)} {xs:List Value} {arr:Array Value},pK nt ts vs sl=some sl'->dO ρ D O w vs xs->arr.size=nt ->
  (∀i v,lk sl i=some v->VR ρ D O w v (arr.getD i undef))->ts.length=xs.length/\((ts.zip xs).foldl (fun t (p,v)=>t.setIfInBounds p v) arr).size=nt/\∀i v,lk sl' i=some v->VR ρ D O w v (((ts.zip xs).foldl (fun t (p,v)=>t.setIfInBounds p v) arr).getD i undef)
 | [],[],sl,sl',xs,arr,h,hv,hs,hsl=>by
  simp only[pK] at h;cases h;have:=hv.1;simp at this;rw[JF this.symm];exact⟨rfl,hs,hsl⟩
 | t::ts,v::vs,sl,sl',xs,arr,h,hv,hs,hsl=>by
  simp only[pK] at h;split at h
  ·rename_i ht;have ht:t<nt:=JB ht
   match xs,hv with
   | [],hv=>have:=hv.1;simp at this
   | x::xs,hv=>
    have h0:=hv.2 0 _ _ rfl rfl;have hr:dO ρ D O w vs xs:=⟨by have:=hv.1;simpa using this,fun j c x h1 h2=>hv.2 (j+1) c x (by simpa using h1) (by simpa using h2)⟩
    obtain⟨q1,q2,q3⟩:=pI (arr:=arr.setIfInBounds t x) h hr (by simpa using hs) fun i u hi=>by
     simp only[zB] at hi;by_cases hid:i=t
     ·subst hid;rw[JL rfl] at hi;cases hi;simpa[hs,ht] using h0
     ·rw[JJ hid] at hi;have:=hsl i u hi;simpa[Jt (Ne.symm hid)] using this
    exact⟨by simp[q1],by simpa using q2,by simpa using q3⟩
  ·cases h
 | [],_::_,_,_,_,_,h,_,_,_=>by simp[pK] at h
 | _::_,[],_,_,_,_,h,_,_,_=>by simp[pK] at h
def F3(id:Nat)(K:AV->aA->Nat->Prop)(e:Exit)(s:St):Prop:=
 match lk s.mem id with
 | some (.loop sl nt ps ca cb _ _)=>match e with
  | .normal=>K (.bool true) (up s.mem id (.loop sl nt ps ca cb .ready none)) s.nx
  | .ret=>K (.bool false) (up s.mem id (.loop sl nt ps ca cb .done (some .ret))) s.nx
  | .exit i=>K (.bool false) (up s.mem id (.loop sl nt ps ca cb .done (some (.exit i)))) s.nx
  | _=>False
 | _=>False
def Fy(P:Program)(Γ:List (Nat × AV))(B id:Nat)(cb:Code)(K:AV->aA->Nat->Prop)(e:Exit)(s:St):Prop:=
 match e with
 | .normal=>match lk s.mem id with
  | some (.loop sl nt ps ca cb' .ready pd)=>cJ P Γ B cb ⟨s.sl,up s.mem id (.loop sl nt ps ca cb' .busy pd),s.nx,s.nt⟩ (F3 id K)
  | _=>False
 | _=>False
theorem bZ.round{P:Program}{Γ:List (Nat × AV)}{id:Nat}{args:List AV}{mem:aA}{nx:Nat}{K:AV->aA->Nat->Prop}{Kp:Value->aA->Nat->Prop}{sl sl':List (Nat × AV)}{nt:Nat}{ps:Array Tmp}{ca cb:Code}{st:LoopState}{pd:Option Code}
  (hl:lk mem id=some (.loop sl nt ps ca cb st pd)) (hp:pK nt ps.toList args sl=some sl') (ha:cU ca=false) (hb:cU cb=false)
  (h:cJ P Γ nx ca ⟨sl',mem,nx,nt⟩ (Fy P Γ nx id cb K)):bZ P Γ YF (.yld id::args) mem nx K Kp:=by
 refine⟨fun X D ρ w vs hD hm hv=>?_⟩;obtain⟨x,xs,rfl⟩:∃x xs,vs=x::xs:=by
  match vs,hv with
  | [],hv=>have:=hv.1;simp at this
  | x::xs,_=>exact⟨x,xs,rfl⟩
 have h0:=hv.2 0 _ _ rfl rfl;have hr:dO ρ D (OX X ρ mem) w args xs:=⟨by have:=hv.1;simpa using this,fun j c x h1 h2=>hv.2 (j+1) c x (by simpa using h1) (by simpa using h2)⟩
 cases h0 with
 | yld _ hid=>
  obtain⟨hpos,arr,fn,df,ho,hsz,hsl⟩:=qJ hm hl;obtain⟨q1,q2,q3⟩:=pI hp hr hsz hsl;have hy:=run_yield (P:=P) (args:=xs.toArray) ho (by simpa using q1.symm);obtain⟨m0,mono0,e0⟩:=hm.widen (D':=dn D nx nx) (fun i hi=>.inl hi);have etm:(ps.zip xs.toArray).foldl (fun tmps (t,a)=>tmps.setIfInBounds t a) arr=(ps.toList.zip xs).foldl (fun t (p,v)=>t.setIfInBounds p v) arr:=by
   rw[←Array.foldl_toList];simp
  have hs:SR Γ X ([],0) ρ (dn D nx nx) ⟨sl',mem,nx,nt⟩ { tmps:=(ps.zip xs.toArray).foldl (fun tmps (t,a)=>tmps.setIfInBounds t a) arr,defers:=[] } w:=
   ⟨m0,qL.start (ds:=([],0)) (Ke _),by rw[etm];exact q2,fun i v hi=>by rw[etm];exact mono0 _ _ (q3 i v hi)⟩
  refine .inl ⟨(ρ id).b,xs.toArray,fn,_,ca,cb,by simp,hy,roundIn_of_wpIn trivial (wpIn_mono (h.run (some (ρ id).b) X ([],0) D ρ _ w hD hs (JG _) (.no ha)) ?_)⟩;rintro e a1 w1 ⟨s1,ρ1,hq,hB1,hs1,e1⟩;cases e with
  | normal=>
   simp only[Fy] at hq;split at hq
   ·rename_i sl1 nt1 ps1 ca1 cb1 pd1 hl1;obtain⟨hpos1,arr1,fn1,df1,ho1,hsz1,hsl1⟩:=qJ hs1.mr hl1;rw[e1.agree id hid] at ho1;refine⟨_,run_beginRound ho1 rfl, ?_⟩;obtain⟨m2,v2,e2⟩:=hs1.mr.changeG (a':=.loop sl1 nt1 ps1 ca1 cb1 .busy pd1) (o:=.loop { state:=.busy,pending:=pd1,fn:=fn1,tmps:=arr1,params:=ps1,assign:=ca1,body:=cb1,defers:=df1 })
     (w':=w1.putObj (ρ id).b (.loop { state:=.busy,pending:=pd1,fn:=fn1,tmps:=arr1,params:=ps1,assign:=ca1,body:=cb1,defers:=df1 })) hl1 hpos1 (by rw[e1.agree id hid];rfl) .go ⟨arr1,fn1,df1,rfl,hsz1,hsl1⟩
    have e2':=e2 _ fun i hi=>hi
    have hs2:SR Γ X ([],0) ρ1 (dn D nx s1.nx) ⟨s1.sl,up s1.mem id (.loop sl1 nt1 ps1 ca1 cb1 .busy pd1),s1.nx,s1.nt⟩ a1 (w1.putObj (ρ id).b (.loop { state:=.busy,pending:=pd1,fn:=fn1,tmps:=arr1,params:=ps1,assign:=ca1,body:=cb1,defers:=df1 })):=
     ⟨m2,e2'.mks hs1.def0,hs1.size,fun i v hi=>v2 _ _ (hs1.slot i v hi)⟩
    refine wpIn_mono (hq.run (some (ρ id).b) X ([],0) D ρ1 a1 _ hD hs2 hB1 (.no hb)) ?_;rintro e a3 w3 ⟨s3,ρ3,hq3,hB3,hs3,e3⟩;have E3:Ext D ρ mem w ρ3 (dn D nx s3.nx) s3.mem w3:=(e1.trans (e2 D fun i hi=>.inl hi)).trans e3;have hag:ρ3 id=ρ id:=E3.agree id hid;simp only[F3] at hq3;split at hq3
    ·rename_i sl3 nt3 ps3 ca3 cb3 st3 pd3 hl3;obtain⟨hpos3,arr3,fn3,df3,ho3,hsz3,hsl3⟩:=qJ hs3.mr hl3;rw[hag] at ho3;have fin:∀(jump:Option Code) (b:Bool) (st4:LoopState),b=jump.isNone->st4=(if jump.isNone then .ready else .done)->K (.bool b) (up s3.mem id (.loop sl3 nt3 ps3 ca3 cb3 st4 jump)) s3.nx ->
       ∃v w4,(Instr.endRound (ρ id).b jump).run P w3 = .ok v w4/\∃(mem':aA) (nx':Nat) (ρ':Nat->a6),nx<=nx'/\MR Γ X ρ' (dn D nx nx') mem' w4/\Ext D ρ mem w ρ' (dn D nx nx') mem' w4 /\
        ((∃(r:AV) (v':Value),Ending.returned v = .returned v'/\K r mem' nx'/\VR ρ' (dn D nx nx') (OX X ρ' mem') w4 r v')∨(∃x:Value,Ending.returned v = .panicked [pe x]/\Kp x mem' nx')):=by
      rintro jump b st4 rfl rfl hK;refine⟨_,_,run_endRound jump ho3, ?_⟩;obtain⟨m4,v4,e4⟩:=hs3.mr.changeG (a':=.loop sl3 nt3 ps3 ca3 cb3 (if jump.isNone then .ready else .done) jump) (o:=.loop { state:=if jump.isNone then .ready else .done,pending:=jump,fn:=fn3,tmps:=arr3,params:=ps3,assign:=ca3,body:=cb3,defers:=df3 })
       (w':=w3.putObj (ρ id).b (.loop { state:=if jump.isNone then .ready else .done,pending:=jump,fn:=fn3,tmps:=arr3,params:=ps3,assign:=ca3,body:=cb3,defers:=df3 })) hl3 hpos3 (by rw[hag];rfl) .go ⟨arr3,fn3,df3,rfl,hsz3,hsl3⟩
      exact⟨_,s3.nx,ρ3,hB3,m4,E3.trans (e4 D fun i hi=>.inl hi),.inl ⟨_,_,rfl,hK,.bool _⟩⟩
     split at hq3
     ·exact fin none _ _ rfl rfl hq3
     ·exact fin (some .ret) _ _ rfl rfl hq3
     ·exact fin (some (.exit _)) _ _ rfl rfl hq3
     ·exact hq3.elim
    ·exact hq3.elim
   ·exact hq.elim
  | _=>exact(show False from hq).elim
def tE(P:Program)(Γ:List (Nat × AV))(H:Hk):Code->St->(Exit->St->Prop)->Prop
 | .skip,s,Q=>Q .normal s
 | .seq x y,s,Q=>tE P Γ H x s fun e s'=>match e with
  | .normal=>tE P Γ H y s' Q
  | e=>Q e s'
 | .cond c x y,s,Q=>match ev Γ s c with
  | some (.bool b)=>match b with
   | true=>tE P Γ H x s Q
   | false=>tE P Γ H y s Q
  | _=>False
 | .block id c,s,Q=>tE P Γ H c s fun e s'=>match e with
  | .exit i=>match Nat.beq i id with
   | true=>Q .normal s'
   | false=>Q (.exit i) s'
  | e=>Q e s'
 | .label _,s,Q=>Q .normal s
 | .scope c,s,Q=>tE P Γ H c s fun e s'=>match e with
  | .goto _=>False
  | e=>Q e s'
 | .loop c,s,Q=>H.loop c s Q
 | .exit i,s,Q=>Q (.exit i) s
 | .ret,s,Q=>Q .ret s
 | .region _ ops draw,s,Q=>match draw with
  | false=>mM P Γ H ops.toList ops.toList s (fun s'=>Q .normal s') fun x s'=>Q (.panic [pe x]) s'
  | true=>match P.follows .mixedOrders with
   | true=>zH P Γ H ops.toList s (fun s'=>Q .normal s') fun x m n=>Q (.panic [pe x]) ⟨lX ops.toList s.sl,m,n,s.nt⟩
   | false=>False
 | .rangeFunc g ps ca cb,s,Q=>match ev Γ s g with
  | some (.fn (.func G) first cap)=>match P.funcs[G]? with
   | some fn=>match fn.body with
    | some _=>match fn.name == "runtime.NumGoroutine" with
     | false=>match Nat.beq G YF with
      | false=>H.call G (first ++ .yld s.nx::cap) ((s.nx,.loop s.sl s.nt ps ca cb .ready none)::s.mem) (s.nx+1) (fun _ m n=>vV s Q m n) fun x m n=>Q (.panic [pe x]) ⟨s.sl,m,n,s.nt⟩
      | true=>False
     | true=>False
    | none=>False
   | none=>False
  | _=>False
 | _,_,_=>False
theorem rW{F:Fence}{n:Nat}{P:Program}{Q:Exit->Act->World->Prop}{a:Act}{w:World}{c:Code}(h:c.wpIn F n P (Exit.noGoto Q) a w):(Code.scope c).wpIn F n P Q a w:=by
 intro b k cs hro hb hr;have s1:step P (lone (b.atR a (.code (.scope c)::k)) cs w) = .next (lone (b.atR a (.code c :: .inScope c::k)) cs w):=step_lone_go (by simp[stepG,stepG.exec,Frame.atR]);have s2:∀(a:Act) (w:World),step P (lone (b.atR a (.inScope c::k)) cs w) = .next (lone (b.atR a k) cs w):=fun a w=>step_lone_go (by simp[stepG,stepG.exec,Frame.atR])
 obtain⟨e,a₁,w₁,hq,harr⟩:=h b (.inScope c::k) cs hro hb hr;cases e with
 | normal=>exact⟨.normal,a₁,w₁,hq,.head (fenced_calm hb hr rfl) s1 (StepsIn.trans harr (.one (fenced_calm hb hr rfl) (s2 a₁ w₁)))⟩
 | goto l=>exact hq.elim
 | exit id=>
  have ex:exitTo id (.inScope c::k)=exitTo id k:=by simp[exitTo]
  exact⟨.exit id,a₁,w₁,hq,.of_steps (.one (fenced_calm hb hr rfl) s1) ⟨fun k' hk=>harr.1 k' (by rw[ex];exact hk),fun h1 hk=>harr.2 h1 (by rw[ex];exact hk)⟩⟩
 | ret=>exact⟨.ret,a₁,w₁,hq,.of_steps (.one (fenced_calm hb hr rfl) s1) harr⟩
 | panic ch=>exact⟨.panic ch,a₁,w₁,hq,.of_steps (.one (fenced_calm hb hr rfl) s1) harr⟩
 | outgrown=>exact⟨.outgrown,a₁,w₁,hq,.of_steps (.one (fenced_calm hb hr rfl) s1) harr⟩
theorem oY{P:Program}{Γ:List (Nat × AV)}{H:Hk}{B:Nat}(hH:mX P Γ B H):∀(c:Code) (s:St) (Q:Exit->St->Prop),tE P Γ H c s Q->cJ P Γ B c s Q:=by
 intro c
 induction c with
 | skip=>exact fun s Q h=>⟨fun rd X ds D ρ a w hD hs hB _=>wpIn_skip ⟨s,ρ,h,hB,hs,Ext.refl fun i hi=>.inl hi⟩⟩
 | exit i=>exact fun s Q h=>⟨fun rd X ds D ρ a w hD hs hB _=>wpIn_exit ⟨s,ρ,h,hB,hs,Ext.refl fun i hi=>.inl hi⟩⟩
 | ret=>exact fun s Q h=>⟨fun rd X ds D ρ a w hD hs hB _=>wpIn_ret ⟨s,ρ,h,hB,hs,Ext.refl fun i hi=>.inl hi⟩⟩
 | loop c ih=>exact fun s Q h=>hH.loop c s Q h
 | label l=>exact fun s Q h=>⟨fun rd X ds D ρ a w hD hs hB _=>wpIn_label ⟨s,ρ,h,hB,hs,Ext.refl fun i hi=>.inl hi⟩⟩
 | scope c ih=>
  intro s Q h;simp only[tE] at h;refine⟨fun rd X ds D ρ a w hD hs hB hr=>rW (wpIn_mono ((ih s _ h).run rd X ds D ρ a w hD hs hB hr.scope) ?_)⟩;rintro e a' w' ⟨s',ρ',hq,hB',hs',hext⟩;cases e with
  | goto l=>exact hq.elim
  | normal=>exact⟨s',ρ',hq,hB',hs',hext⟩
  | exit i=>exact⟨s',ρ',hq,hB',hs',hext⟩
  | ret=>exact⟨s',ρ',hq,hB',hs',hext⟩
  | panic c=>exact⟨s',ρ',hq,hB',hs',hext⟩
  | outgrown=>exact⟨s',ρ',hq,hB',hs',hext⟩
 | seq x y ihx ihy=>
  intro s Q h;refine⟨fun rd X ds D ρ a w hD hs hB hr=>wpIn_seq (wpIn_mono ((ihx s _ h).run rd X ds D ρ a w hD hs hB hr.seq1) ?_)⟩;rintro e a' w' ⟨s',ρ',hq,hB',hs',hext⟩;cases e with
  | normal=>
   refine wpIn_mono ((ihy s' Q hq).run rd X ds D ρ' a' w' hD hs' hB' hr.seq2) ?_;rintro e a2 w2 ⟨s2,ρ2,h1,h2,h3,h4⟩;exact⟨s2,ρ2,h1,h2,h3,hext.trans h4⟩
  | exit i=>exact⟨s',ρ',hq,hB',hs',hext⟩
  | goto l=>exact⟨s',ρ',hq,hB',hs',hext⟩
  | ret=>exact⟨s',ρ',hq,hB',hs',hext⟩
  | panic c=>exact⟨s',ρ',hq,hB',hs',hext⟩
  | outgrown=>exact⟨s',ρ',hq,hB',hs',hext⟩
 | cond c x y ihx ihy=>
  intro s Q h;simp only[tE] at h;split at h
  ·rename_i b hc;refine⟨fun rd X ds D ρ a w hD hs hB hr=>?_⟩;have hv:=aB hs hc;generalize he:a.eval c=cv at hv;cases hv;cases b with
   | true=>exact wpIn_cond_true he ((ihx s Q h).run rd X ds D ρ a w hD hs hB hr.cond1)
   | false=>exact wpIn_cond_false he ((ihy s Q h).run rd X ds D ρ a w hD hs hB hr.cond2)
  ·exact h.elim
 | block id c ih=>
  intro s Q h;refine⟨fun rd X ds D ρ a w hD hs hB hr=>wpIn_block (wpIn_mono ((ih s _ h).run rd X ds D ρ a w hD hs hB hr.block) ?_)⟩;rintro e a' w' ⟨s',ρ',hq,hB',hs',hext⟩;cases e with
  | exit i=>
   simp only[Exit.inBlock];simp only at hq;split at hq
   ·rename_i hi;rw[JL (Nat.eq_of_beq_eq_true hi)];exact⟨s',ρ',hq,hB',hs',hext⟩
   ·rename_i hi;rw[JJ (Jk hi)];exact⟨s',ρ',hq,hB',hs',hext⟩
  | normal=>exact⟨s',ρ',hq,hB',hs',hext⟩
  | goto l=>exact⟨s',ρ',hq,hB',hs',hext⟩
  | ret=>exact⟨s',ρ',hq,hB',hs',hext⟩
  | panic c=>exact⟨s',ρ',hq,hB',hs',hext⟩
  | outgrown=>exact⟨s',ρ',hq,hB',hs',hext⟩
 | region id ops draw=>
  intro s Q h;cases draw with
  | false=>
   simp only[tE] at h;refine⟨fun rd X ds D ρ a w hD hs hB _=>wpIn_region_list ?_⟩;have:=i7 hH ops.toList ops.toList s _ _ h rd X ds D ρ a w (fun e a' w'=>∃(s':St) (ρ':Nat->a6),Q e s'/\B<=s'.nx/\SR Γ X ds ρ' (dn D B s'.nx) s' a' w'/\Ext D ρ s.mem w ρ' (dn D B s'.nx) s'.mem w') hD hs hB
    (fun s' ρ' a' w' h1 h2 h3 h4=>⟨s',ρ',h1,h2,h3,h4⟩) (fun x s' ρ' a' w' h1 h2 h3 h4=>⟨s',ρ',h1,h2,h3,h4⟩)
   simpa using this
  | true=>
   simp only[tE] at h;split at h
   ·rename_i hmix;refine⟨fun rd X ds D ρ a w hD hs hB hr=>?_⟩;have:=y6 hH h hmix id rd X ds D ρ a w hD hs hB (fun e a' w'=>∃(s':St) (ρ':Nat->a6),Q e s'/\B<=s'.nx/\SR Γ X ds ρ' (dn D B s'.nx) s' a' w'/\Ext D ρ s.mem w ρ' (dn D B s'.nx) s'.mem w')
     (fun s' ρ' a' w' h1 h2 h3 h4=>⟨s',ρ',h1,h2,h3,h4⟩) (fun x m' n' ρ' a' w' h1 h2 h3 h4=>⟨_,ρ',h1,h2,h3,h4⟩)
    simpa using this
   ·exact h.elim
 | rangeFunc g ps ca cb=>
  intro s Q h;simp only[tE] at h;split at h<;>first|exact h.elim|skip
  rename_i hg;split at h<;>first|exact h.elim|skip
  rename_i fn hf;split at h<;>first|exact h.elim|skip
  rename_i c0 hb;split at h<;>first|exact h.elim|skip
  rename_i hn;split at h<;>first|exact h.elim|skip
  rename_i hG;exact cJ.range hg hf hb hn hG (hH.call _ _ _ _ _ _ h)
 | _=>intro s Q h;simp only[tE] at h
def xO(k:Nat):List AV->List (Nat × AV)
 | []=>[]
 | a::r=>(k,a)::xO (k+1) r
theorem BA:∀(l:List AV) (k i:Nat) (v:AV),lk (xO k l) i=some v->k<=i/\l[i-k]? = some v
 | [],k,i,v,h=>by simp[xO,lk] at h
 | a::r,k,i,v,h=>by
  simp only[xO,lk] at h;split at h
  ·rename_i hk;have hk:=Nat.eq_of_beq_eq_true hk;subst hk;cases h;simp
  ·rename_i hk;have hk:=Jk hk;obtain⟨h1,h2⟩:=BA r (k+1) i v h;refine⟨om, ?_⟩;rw[show i-k=(i-(k+1))+1 by omega];simpa using h2
def enter(ntmps:Nat)(args:List AV)(mem:aA)(nx:Nat):St:={ sl:=xO 0 args,mem:=mem,nx:=nx,nt:=args.length+(ntmps-args.length) }
def lV(P:Program)(s:St):List ResultVar->Option (List AV)
 | []=>some []
 | .tmp t::r=>match lk s.sl t with
  | some v=>match lV P s r with
   | some l=>some (v::l)
   | none=>none
  | none=>none
 | .cell a t::r=>match lk s.sl a with
  | some p=>match qY P s.mem t p with
   | some v=>match lV P s r with
    | some l=>some (v::l)
    | none=>none
   | none=>none
  | none=>none
def p8(P:Program)(rs:List ResultVar)(s:St):Option AV:=
 match lV P s rs with
 | some [v]=>some v
 | some l=>some (.tup l)
 | none=>none
theorem gZ{P:Program}{Γ:List (Nat × AV)}{X:Nat->Prop}{ds:List Deferred × Nat}{ρ:Nat->a6}{D:Nat->Prop}{s:St}{a:Act}{w:World}(hs:SR Γ X ds ρ D s a w):∀{rs:List ResultVar} {l:List AV},lV P s rs=some l ->
  ∃vs:List Value,(rs.mapM fun x=>match x with
     | ResultVar.tmp t=>(pure (a.tmps.getD t undef):Sem Value)
     | ResultVar.cell x t=>do
      let p ←asAddr (a.tmps.getD x undef)
      loadVar t p).run P w = .ok vs w/\dO ρ D (OX X ρ s.mem) w l vs
 | [],l,h=>by simp only[lV] at h;cases h;exact⟨[],by simp,.nil⟩
 | .tmp t::r,l,h=>by
  simp only[lV] at h;split at h
  ·rename_i v hv;split at h
   ·rename_i l' hl;cases h;obtain⟨vs,h1,h2⟩:=gZ hs hl;exact⟨a.tmps.getD t undef::vs,by rw[List.mapM_cons,Sem.run_bind,Sem.run_pure,Result.andThen_ok,Sem.run_bind,h1];rfl,.cons (hs.slot t v hv) h2⟩
   ·cases h
  ·cases h
 | .cell x t::r,l,h=>by
  simp only[lV] at h;split at h
  ·rename_i p hp;split at h
   ·rename_i v hv;split at h
    ·rename_i l' hl;cases h;obtain⟨vs,h1,h2⟩:=gZ hs hl;obtain⟨y,hy,hr⟩:=jR (P:=P) hs.mr hv (hs.slot x p hp);refine⟨y::vs, ?_,.cons hr h2⟩;have hy':(do let p ←asAddr (a.tmps.getD x undef);loadVar t p:Sem Value).run P w = .ok y w:=by
      rw[←hy];have hpv:=hs.slot x p hp;unfold qY at hv;split at hv
      ·generalize a.tmps.getD x undef=q at hpv;cases hpv;simp[Instr.loadAt,Instr.sureAddr,asAddr]
      ·generalize a.tmps.getD x undef=q at hpv;cases hpv;simp[Instr.loadAt,Instr.sureAddr,asAddr]
      ·cases hv
     rw[List.mapM_cons,Sem.run_bind,hy',Result.andThen_ok,Sem.run_bind,h1];rfl
    ·cases h
   ·cases h
  ·cases h
theorem mS {P:Program} {w:World} {fn:Func} {tmps:Array Value} {vs:List Value} (h:(fn.results.toList.mapM fun x=>match x with
     | ResultVar.tmp t=>(pure (tmps.getD t undef):Sem Value)
     | ResultVar.cell x t=>do
      let p ←asAddr (tmps.getD x undef)
      loadVar t p).run P w = .ok vs w):(results fn tmps).run P w = .ok (match vs with|[x]=>x|_=>.tuple vs.toArray) w:=by
 unfold results;rw[Sem.run_bind,Array.mapM_eq_mapM_toList];have h':(List.toArray <$> (fn.results.toList.mapM fun x=>match x with
     | ResultVar.tmp t=>(pure (tmps.getD t undef):Sem Value)
     | ResultVar.cell x t=>do
      let p ←asAddr (tmps.getD x undef)
      loadVar t p)).run P w = .ok vs.toArray w:=by
  rw[Sem.run_map,h];rfl
 refine(congrArg (fun r:Result (Array Value)=>r.andThen fun vs w'=>Sem.run P (pure (if h:vs.size=1 then vs[0] else Value.tuple vs)) w') h').trans ?_
 match vs with
 | []=>rfl
 | [x]=>rfl
 | x::y::r=>simp
theorem mF{P:Program}{Γ:List (Nat × AV)}{X:Nat->Prop}{ds:List Deferred × Nat}{ρ:Nat->a6}{D:Nat->Prop}{s:St}{a:Act}{w:World}(hs:SR Γ X ds ρ D s a w){fn:Func}{v:AV}(h:p8 P fn.results.toList s=some v) :
  ∃x,(results fn a.tmps).run P w = .ok x w/\VR ρ D (OX X ρ s.mem) w v x:=by
 unfold p8 at h;split at h
 ·rename_i u hu;cases h;obtain⟨vs,h1,h2⟩:=gZ hs hu;obtain⟨x,rfl⟩:∃x,vs=[x]:=by
   have:=h2.1;simp at this;exact List.length_eq_one_iff.1 this.symm
  exact⟨x,mS h1,h2.2 0 v x rfl rfl⟩
 ·rename_i l hl hu;cases h;obtain⟨vs,h1,h2⟩:=gZ hs hu;refine⟨.tuple vs.toArray, ?_,h2.tup⟩;rw[mS h1]
  match vs,h2.1 with
  | [],_=>rfl
  | [x],e=>
   exfalso;simp at e;obtain⟨y,rfl⟩:=List.length_eq_one_iff.1 e;exact hl y rfl
  | x::y::r,_=>rfl
 ·cases h
def CQ(P:Program)(rs:List ResultVar)(Q:AV->aA->Nat->Prop):Exit->St->Prop:=fun e s=>
 match e with
 | .normal=>match p8 P rs s with
  | some r=>Q r s.mem s.nx
  | none=>False
 | .ret=>match p8 P rs s with
  | some r=>Q r s.mem s.nx
  | none=>False
 | _=>False
theorem m9{Γ:List (Nat × AV)}{X D:Nat->Prop}{ρ:Nat->a6}{w:World}{n:Nat}{args:List AV}{vs:List Value}{mem:aA}{nx:Nat}(hD:∀i,D i->i<nx)(hm:MR Γ X ρ D mem w)(hv:dO ρ D (OX X ρ mem) w args vs){k:Nat}(hk:k<=w.heap.size+1) :
  SR Γ X ([],k) ρ (dn D nx nx) (enter n args mem nx) { tmps:=vs.toArray++Array.replicate (n-vs.toArray.size) undef,defers:=[] } w:=by
 have hl:=hv.1;obtain⟨m1,mono1,_⟩:=hm.widen (D':=dn D nx nx) (fun i hi=>.inl hi);refine⟨m1,qL.start (ds:=([],k)) hk,by simp[enter,hl],fun i v hi=>?_⟩;obtain⟨_,h2⟩:=BA args 0 i v hi;simp only[Nat.sub_zero] at h2;have hlt:i<vs.length:=by
  rw[←hl];rcases JK i args.length with h'|h'
  ·exact h'
  ·rw[JH h'] at h2;cases h2
 have e:(vs.toArray++Array.replicate (n-vs.toArray.size) undef).getD i undef=vs[i]:=by
  simp[Ku,hlt]
 rw[e];exact mono1 _ _ (hv.2 i v _ h2 (by simp[hlt]))
theorem jA{P:Program}{fn:Func}{tmps:Array Value}{R:Ending->World->Prop}{ds:List Deferred}{u:FrameMode}(hu:u≠.run)(k:Nat)(O:Nat->Prop)(J:World->Prop)
  (hJ:∀w b,J w->k<=b+1->¬O b->w.heap[b]? = some (.deferred (some []))->J (w.putObj b (.deferred none))) (hend:∀w,J w->LeavesInM (FW none) 0 P fn tmps R ds u w) :
  ∀(ms:List Deferred) (w:World),J w->ms.Nodup->(∀d∈ms,∃b,d={ target:=.collected b,args:=#[] }/\k<=b+1/\¬O b/\w.heap[b]? = some (.deferred (some [])))->LeavesInM (FW none) 0 P fn tmps R (ms++ds) u w
 | [],w,h,_,_=>hend w h
 | d::ms,w,h,hn,hd=>by
  obtain⟨b,rfl,hb,ho,hh⟩:=hd d (JW ..);refine⟨hu,.inl ⟨b,_,rfl,run_takeDeferred hh,jA hu k O J hJ hend ms _ (hJ w b h hb ho hh) (JU.1 hn).2 fun d' hd'=>?_⟩⟩;obtain⟨b',rfl,hb',ho',hh'⟩:=hd d' (JO _ hd');refine⟨b',rfl,hb',ho', ?_⟩;have hne:b'≠b:=by
   rintro rfl;exact(JU.1 hn).1 hd'
  rw[World.putObj_heap_other hne];exact hh'
theorem lB{P:Program}{Γ:List (Nat × AV)}{X D:Nat->Prop}{ρ ρ':Nat->a6}{B:Nat}{mem:aA}{w w':World}{s':St}{a':Act}{fn:Func}{R:Ending->World->Prop}{r:AV}(hr:p8 P fn.results.toList s'=some r)
  (hs':SR Γ X ([],w.heap.size+1) ρ' (dn D B s'.nx) s' a' w') (hext:Ext D ρ mem w ρ' (dn D B s'.nx) s'.mem w')
  (hR:∀x w2,MR Γ X ρ' (dn D B s'.nx) s'.mem w2->VR ρ' (dn D B s'.nx) (OX X ρ' s'.mem) w2 r x->Ext D ρ mem w ρ' (dn D B s'.nx) s'.mem w2->R (.returned x) w2) :
  LeavesInM (FW none) 0 P fn a'.tmps R a'.defers .returning w':=by
 obtain⟨_,ms,h2,_,hn,h3⟩:=hs'.def0;rw[h2];refine jA (by simp) (w.heap.size+1) (OX X ρ' s'.mem) (fun w2=>MR Γ X ρ' (dn D B s'.nx) s'.mem w2/\(∀i v,lk s'.sl i=some v->VR ρ' (dn D B s'.nx) (OX X ρ' s'.mem) w2 v (a'.tmps.getD i undef))/\Ext D ρ mem w ρ' (dn D B s'.nx) s'.mem w2)
  ?_ ?_ ms w' ⟨hs'.mr,hs'.slot,hext⟩ hn h3
 ·rintro w2 b ⟨j1,j2,j3⟩ hb ho hh;obtain⟨k1,k2⟩:=j1.shut (o':=.deferred none) hh rfl ho;refine⟨k1,fun i v hi=>k2 _ _ (j2 i v hi),j3.le,j3.agree,by simpa using j3.size,fun c hc hno=>?_,j3.fresh,⟨j3.env.os,j3.env.output,j3.env.tape,j3.env.drawn⟩⟩;rw[World.putObj_heap_other om];exact j3.keep c hc hno
 ·rintro w2 ⟨j1,j2,j3⟩;obtain⟨x,h1,h2⟩:=mF (ds:=([],0)) (a:={ a' with defers:=[] }) ⟨j1,qL.start (ds:=([],0)) (Ke _),hs'.size,j2⟩ hr;exact⟨x,h1,hR x w2 j1 h2 j3⟩
theorem CN{P:Program}{Γ:List (Nat × AV)}{X D:Nat->Prop}{ρ ρ':Nat->a6}{B:Nat}{mem:aA}{w w':World}{s':St}{a':Act}{fn:Func}{R:Ending->World->Prop}{ch:List PanicEntry}
  (hs':SR Γ X ([],w.heap.size+1) ρ' (dn D B s'.nx) s' a' w') (hext:Ext D ρ mem w ρ' (dn D B s'.nx) s'.mem w')
  (hR:∀w2,MR Γ X ρ' (dn D B s'.nx) s'.mem w2->Ext D ρ mem w ρ' (dn D B s'.nx) s'.mem w2->R (.panicked ch) w2) :
  LeavesInM (FW none) 0 P fn a'.tmps R a'.defers (.panicking ch) w':=by
 obtain⟨_,ms,h2,_,hn,h3⟩:=hs'.def0;rw[h2];refine jA (by simp) (w.heap.size+1) (OX X ρ' s'.mem) (fun w2=>MR Γ X ρ' (dn D B s'.nx) s'.mem w2/\Ext D ρ mem w ρ' (dn D B s'.nx) s'.mem w2)
  ?_ ?_ ms w' ⟨hs'.mr,hext⟩ hn h3
 ·rintro w2 b ⟨j1,j3⟩ hb ho hh;obtain⟨k1,k2⟩:=j1.shut (o':=.deferred none) hh rfl ho;refine⟨k1,j3.le,j3.agree,by simpa using j3.size,fun c hc hno=>?_,j3.fresh,⟨j3.env.os,j3.env.output,j3.env.tape,j3.env.drawn⟩⟩;rw[World.putObj_heap_other om];exact j3.keep c hc hno
 ·rintro w2 ⟨j1,j3⟩;exact hR w2 j1 j3
theorem lY{P:Program}{Γ:List (Nat × AV)}{F:FuncId}{fn:Func}{c:Code}{args:List AV}{mem:aA}{nx:Nat}{Q:AV->aA->Nat->Prop}(hf:P.funcs[F]? = some fn)(hb:fn.body=some c)
  (h:cJ P Γ nx c (enter fn.ntmps args mem nx) (CQ P fn.results.toList Q)) (hF:Nat.beq F YF=false:=by rfl):aC P Γ F args mem nx Q:=by
 refine⟨fun X D ρ w vs hD hm hv=>.of hF (callsIn_wide (n:=0).1 (callsIn_of_wp_marks (F:=FW none) hf hb trivial ?_))⟩;refine wpIn_mono (h.run none X ([],w.heap.size+1) D ρ _ w hD (m9 hD hm hv (JG _)) (JG _) (fun _=>⟨rfl,Nat.succ_ne_zero _⟩)) ?_;rintro e a' w' ⟨s',ρ',hq,hB',hs',hext⟩;cases e with
 | normal=>
  simp only[CQ] at hq;split at hq
  ·rename_i r hr;exact lB hr hs' hext fun x w2 j1 j2 j3=>⟨r,x,s'.mem,s'.nx,ρ',rfl,hq,hB',j1,j2,j3⟩
  ·exact hq.elim
 | ret=>
  simp only[CQ] at hq;split at hq
  ·rename_i r hr;exact lB hr hs' hext fun x w2 j1 j2 j3=>⟨r,x,s'.mem,s'.nx,ρ',rfl,hq,hB',j1,j2,j3⟩
  ·exact hq.elim
 | _=>exact hq.elim
def qU(P:Program)(rs:List ResultVar)(Q:AV->aA->Nat->Prop)(Qp:Value->aA->Nat->Prop):Exit->St->Prop:=fun e s=>
 match e with
 | .normal=>match p8 P rs s with
  | some r=>Q r s.mem s.nx
  | none=>False
 | .ret=>match p8 P rs s with
  | some r=>Q r s.mem s.nx
  | none=>False
 | .panic [⟨x,false,false⟩]=>Qp x s.mem s.nx
 | _=>False
theorem gL{P:Program}{Γ:List (Nat × AV)}{F:FuncId}{fn:Func}{c:Code}{args:List AV}{mem:aA}{nx:Nat}{Q:AV->aA->Nat->Prop}{Qp:Value->aA->Nat->Prop}(hf:P.funcs[F]? = some fn)(hb:fn.body=some c)
  (h:cJ P Γ nx c (enter fn.ntmps args mem nx) (qU P fn.results.toList Q Qp)) (hF:Nat.beq F YF=false:=by rfl):bZ P Γ F args mem nx Q Qp:=by
 refine⟨fun X D ρ w vs hD hm hv=>.of hF (callsIn_wide (n:=0).1 (callsIn_of_wp_marks (F:=FW none) hf hb trivial ?_))⟩;refine wpIn_mono (h.run none X ([],w.heap.size+1) D ρ _ w hD (m9 hD hm hv (JG _)) (JG _) (fun _=>⟨rfl,Nat.succ_ne_zero _⟩)) ?_;rintro e a' w' ⟨s',ρ',hq,hB',hs',hext⟩;cases e with
 | normal=>
  simp only[qU] at hq;split at hq
  ·rename_i r hr;exact lB hr hs' hext fun x w2 j1 j2 j3=>⟨s'.mem,s'.nx,ρ',hB',j1,j3,.inl ⟨r,x,rfl,hq,j2⟩⟩
  ·exact hq.elim
 | ret=>
  simp only[qU] at hq;split at hq
  ·rename_i r hr;exact lB hr hs' hext fun x w2 j1 j2 j3=>⟨s'.mem,s'.nx,ρ',hB',j1,j3,.inl ⟨r,x,rfl,hq,j2⟩⟩
  ·exact hq.elim
 | panic ch=>
  simp only[qU] at hq;split at hq
  ·rename_i x he;cases he
  ·rename_i x he;cases he
  ·rename_i x he;cases he;exact CN hs' hext fun w2 j1 j3=>⟨s'.mem,s'.nx,ρ',hB',j1,j3,.inr ⟨x,rfl,hq⟩⟩
  ·exact hq.elim
 | _=>exact(show False from hq).elim
theorem pE{rd:Option Nat}{P:Program}{c:Code}:∀(m:Nat) (a:Act) (w:World) (Q1 Q2:Exit->Act->World->Prop),(∀e a w,Q1 e a w->Q2 e a w)->Code.roundsIn (FW rd) 0 P c Q1 m a w->Code.roundsIn (FW rd) 0 P c Q2 m a w
 | 0,_,_,_,_,_,h=>h
 | m+1,a,w,Q1,Q2,h12,h=>by
  rw[roundsIn_succ] at h ⊢;refine wpIn_mono h ?_;intro e a w h;cases e with
  | normal=>exact pE m a w Q1 Q2 h12 h
  | exit id=>exact h12 _ _ _ h
  | goto l=>exact h12 _ _ _ h
  | ret=>exact h12 _ _ _ h
  | panic ch=>exact h12 _ _ _ h
  | outgrown=>exact h12 _ _ _ h
theorem p7{F:Fence}{n:Nat}{P:Program}{Q:Exit->Act->World->Prop}{a:Act}{w:World}{c:Code}(I:Nat->Act->World->Prop)(n₀:Nat)(h₀:I n₀ a w)
  (round:∀m a w,I m a w->c.wpIn F n P (Exit.then (fun a' w'=>∃m',m'<m/\I m' a' w') Q) a w):(Code.loop c).wpIn F n P Q a w:=by
 have key:∀(k m:Nat) (a:Act) (w:World),m<k->I m a w->Code.roundsIn F n P c Q k a w:=by
  intro k
  induction k with
  | zero=>intro m a w h;omega
  | succ k ih=>
   intro m a w hm hI;rw[roundsIn_succ];refine wpIn_mono (round m a w hI) ?_;intro e a' w' hq;cases e with
   | normal=>obtain⟨m',hlt,hI'⟩:=hq;exact ih m' a' w' om hI'
   | exit id=>exact hq
   | goto l=>exact hq
   | ret=>exact hq
   | panic ch=>exact hq
   | outgrown=>exact hq
 exact wpIn_loop_rounds (n₀+1) (key _ n₀ a w (J9 _) h₀)
end Go.Ax
namespace Go.Ax
open Go
structure Conv(B:Nat)(σ:List (Nat × Nat))(s s':St):Prop where
 nt:s'.nt=s.nt
 sl:∀i v',lk s'.sl i=some v'->∃v,lk s.sl i=some v/\Cv s.mem σ v v'
 mem:tH s.mem σ s'.mem
 nod:(s'.mem.map (·.1)).Nodup
 inj:Cn σ
 old:∀id id',lk σ id=some id'->(id'<B->id'=id)/\id'<s'.nx
 nx:B<=s'.nx
open Classical in
noncomputable def fG(σ:List (Nat × Nat))(ρ ρ0:Nat->a6)(n:Nat):a6:=if h:∃id,lk σ id=some n then ρ h.choose else ρ0 n
theorem iN{σ:List (Nat × Nat)}(hi:Cn σ){ρ ρ0:Nat->a6}{id n:Nat}(h:lk σ id=some n):fG σ ρ ρ0 n=ρ id:=by
 have hex:∃id,lk σ id=some n:=⟨id,h⟩
 unfold fG;rw[dif_pos hex];exact congrArg ρ (hi _ _ n hex.choose_spec h)
theorem oP{σ:List (Nat × Nat)}{ρ ρ0:Nat->a6}{n:Nat}(h:¬ ∃id,lk σ id=some n):fG σ ρ ρ0 n=ρ0 n:=by
 unfold fG;rw[dif_neg h]
theorem sP{Γ:List (Nat × AV)}{X:Nat->Prop}{ρ:Nat->a6}{D:Nat->Prop}{B n n':Nat}{σ:List (Nat × Nat)}{m m':aA}{w:World}(hΓ:∀p∈Γ,NN p.2)(hD:∀i,D i->i<B)
  (hm:MR Γ X ρ (dn D B n) m w) (hM:tH m σ m') (hnod:(m'.map (·.1)).Nodup) (hinj:Cn σ) (hold:∀id id',lk σ id=some id'->(id'<B->id'=id)/\id'<n') :
  MR Γ X (fG σ ρ ρ) (dn D B n') m' w/\(∀v v',Cv m σ v v'->∀x,VR ρ (dn D B n) (OX X ρ m) w v x->VR (fG σ ρ ρ) (dn D B n') (OX X (fG σ ρ ρ) m') w v' x) /\
   Ext D ρ m w (fG σ ρ ρ) (dn D B n') m' w:=by
 have hσ:∀id id',lk σ id=some id'->dn D B n id->dn D B n' id'/\fG σ ρ ρ id'=ρ id:=by
  intro id id' h hd;refine⟨?_,iN hinj h⟩;obtain⟨h1,h2⟩:=hold id id' h;rcases JK id' B with h3|h3
  ·have h4:=h1 h3;rcases hd with hd|⟨hd1,hd2⟩
   ·rw[h4];exact .inl hd
   ·omega
  ·exact .inr ⟨h3,h2⟩
 obtain⟨m1,v1,o1⟩:=hm.turn hΓ hσ hM hnod hinj;refine⟨m1,v1,fun i hi=>.inl hi,fun i hi=>?_,JG _,fun _ _ _=>rfl,fun p hp hn=>.inl (o1 p hp hn),.go⟩;by_cases hex:∃id,lk σ id=some i
 ·obtain⟨id,h⟩:=hex;rw[iN hinj h];rw[(hold id i h).1 (hD i hi)]
 ·exact oP hex
section
variable {P:Program} {Γ:List (Nat × AV)} {B:Nat} {c:Code}
theorem SR.conv{X:Nat->Prop}{ds:List Deferred × Nat}{ρ:Nat->a6}{D:Nat->Prop}{s s':St}{a:Act}{w:World}{σ:List (Nat × Nat)}(hΓ:∀p∈Γ,NN p.2)(hD:∀i,D i->i<B)(hc:Conv B σ s s')(hs:SR Γ X ds ρ (dn D B s.nx) s a w) :
  SR Γ X ds (fG σ ρ ρ) (dn D B s'.nx) s' a w/\Ext D ρ s.mem w (fG σ ρ ρ) (dn D B s'.nx) s'.mem w:=by
 obtain⟨m1,v1,e1⟩:=sP hΓ hD hs.mr hc.mem hc.nod hc.inj hc.old;have e1':=e1;refine⟨⟨m1,e1'.mks hs.def0,by rw[hc.nt];exact hs.size,fun i v' hi=>?_⟩,e1⟩;obtain⟨v,hv,hcv⟩:=hc.sl i v' hi;exact v1 v v' hcv _ (hs.slot i v hv)
theorem cJ.conv{s s':St}{Q:Exit->St->Prop}{σ:List (Nat × Nat)}(hΓ:∀p∈Γ,NN p.2)(hc:Conv B σ s s')(h:cJ P Γ B c s' Q):cJ P Γ B c s Q:=by
 refine⟨fun rd X ds D ρ a w hD hs hB hr=>?_⟩;obtain⟨h1,h2⟩:=hs.conv hΓ hD hc;refine wpIn_mono (h.run rd X ds D _ a w hD h1 hc.nx hr) ?_;rintro e a' w' ⟨s2,ρ2,k1,k2,k3,k4⟩;exact⟨s2,ρ2,k1,k2,k3,h2.trans k4⟩
theorem cJ.ph{s:St}{Q:Exit->St->Prop}(t:TypeId)(sz:Nat)(h:cJ P Γ B c ⟨s.sl,(s.nx,.row t sz [])::s.mem,s.nx+1,s.nt⟩ Q):cJ P Γ B c s Q:=by
 refine⟨fun rd X ds D ρ a w hD hs hB hr=>?_⟩;obtain⟨m1,v1,e1⟩:=hs.mr.phantom (n:=s.nx) (D':=dn D B (s.nx+1)) (fun h'=>KG _ (jI hD hB _ h')) (kZ (Kq _)) (.inr ⟨hB,J9 _⟩) t sz;refine wpIn_mono (h.run rd X ds D _ a w hD ⟨m1,(e1 D fun i hi=>.inl hi).mks hs.def0,hs.size,fun i v hi=>v1 _ _ (hs.slot i v hi)⟩ (Jh hB (Kq _)) hr) ?_;rintro e a' w' ⟨s2,ρ2,k1,k2,k3,k4⟩;exact⟨s2,ρ2,k1,k2,k3,(e1 D fun i hi=>.inl hi).trans k4⟩
structure HJ(B:Nat)(σ:List (Nat × Nat))(r:AV)(m:aA)(r':AV)(m':aA)(n':Nat):Prop where
 res:Cv m σ r r'
 mem:tH m σ m'
 nod:(m'.map (·.1)).Nodup
 inj:Cn σ
 old:∀id id',lk σ id=some id'->(id'<B->id'=id)/\id'<n'
 nx:B<=n'
inductive z7 (B:Nat) (Q:AV->aA->Nat->Prop) (r:AV) (m:aA) (n:Nat):Prop
 | mk (σ:List (Nat × Nat)) (r':AV) (m':aA) (n':Nat):HJ B σ r m r' m' n'->Q r' m' n'->z7 B Q r m n
theorem aC.turn{F:FuncId}{args:List AV}{mem:aA}{nx:Nat}{Q:AV->aA->Nat->Prop}(hΓ:∀p∈Γ,NN p.2)(h:aC P Γ F args mem nx (z7 nx Q)):aC P Γ F args mem nx Q:=by
 refine⟨fun X D ρ w vs hD hm hv=>(h.run X D ρ w vs hD hm hv).mono ?_⟩;rintro e w' ⟨r,v,m,n,ρ',h1,⟨σ,r',m',n',hc,hq⟩,h3,h4,h5,h6⟩;obtain⟨m1,v1,e1⟩:=sP hΓ hD h4 hc.mem hc.nod hc.inj hc.old;exact⟨r',v,m',n',_,h1,hq,hc.nx,m1,v1 r r' hc.res _ h5,h6.trans e1⟩
theorem cJ.loop{α:Type}(hΓ:∀p∈Γ,NN p.2)(I:α->St)(μ:α->Nat){Q:Exit->St->Prop}
  (h:∀x,cJ P Γ B c (I x) fun e s=>match e with
   | .normal=>∃y σ,Conv B σ s (I y)/\μ y<μ x
   | e=>Q e s) (x:α):cJ P Γ B (.loop c) (I x) Q:=by
 refine⟨fun rd X ds D ρ a w hD hs hB hr=>?_⟩;refine p7 (fun n a' w'=>∃(y:α) (ρ':Nat->a6),n=μ y/\B<=(I y).nx/\SR Γ X ds ρ' (dn D B (I y).nx) (I y) a' w'/\Ext D ρ (I x).mem w ρ' (dn D B (I y).nx) (I y).mem w') (μ x) ⟨x,ρ,rfl,hB,hs,Ext.refl fun i hi=>.inl hi⟩ ?_;rintro n a1 w1 ⟨y,ρ1,rfl,hB1,hs1,e1⟩;refine wpIn_mono ((h y).run rd X ds D ρ1 a1 w1 hD hs1 hB1 hr.loop) ?_;rintro e a2 w2 ⟨s2,ρ2,hq,hB2,hs2,e2⟩;cases e with
 | normal=>
  obtain⟨z,σ,hc,hlt⟩:=hq;obtain⟨h1,h2⟩:=hs2.conv hΓ hD hc;exact⟨μ z,hlt,z,_,rfl,hc.nx,h1,(e1.trans e2).trans h2⟩
 | exit i=>exact⟨s2,ρ2,hq,hB2,hs2,e1.trans e2⟩
 | goto l=>exact⟨s2,ρ2,hq,hB2,hs2,e1.trans e2⟩
 | ret=>exact⟨s2,ρ2,hq,hB2,hs2,e1.trans e2⟩
 | panic c=>exact⟨s2,ρ2,hq,hB2,hs2,e1.trans e2⟩
 | outgrown=>exact⟨s2,ρ2,hq,hB2,hs2,e1.trans e2⟩
def BK(P:Program)(Γ:List (Nat × AV))(B:Nat):Hk:={ call:=fun F args mem nx K _=>aC P Γ F args mem nx K,loop:=fun c s Q=>cJ P Γ B (.loop c) s Q }
theorem kP:mX P Γ B (BK P Γ B):=⟨fun _ _ _ _ _ _ h=>aC.toP h,fun _ _ _ h=>h⟩
def CL(P:Program)(Γ:List (Nat × AV))(B:Nat):Hk:={ call:=bZ P Γ,loop:=fun c s Q=>cJ P Γ B (.loop c) s Q }
theorem EH:mX P Γ B (CL P Γ B):=⟨fun _ _ _ _ _ _ h=>h,fun _ _ _ h=>h⟩
def mV(mem:aA)(σ:List (Nat × Nat))(as bs:List AV):Prop:=as.length=bs.length/\∀(j:Nat) (c c':AV),as[j]? = some c->bs[j]? = some c'->Cv mem σ c c'
theorem aC.use{F:FuncId}{as args:List AV}{ms mem m1 rest:aA}{ns nx:Nat}{Qs K:AV->aA->Nat->Prop}(hΓ:∀p∈Γ,NN p.2)(h:aC P Γ F as ms ns Qs)(σ:List (Nat × Nat))
  (hp:kO mem m1 rest) (hrest:(rest.map (·.1)).Nodup) (hargs:mV m1 σ args as) (hM:tH m1 σ ms) (hnod:(ms.map (·.1)).Nodup) (hinj:Cn σ) (hlt:∀id i,lk σ id=some i->i<ns)
  (hk:∀r m n,Qs r m n->ns<=n->∃τ r' m' n',nx<=n'/\Cv m τ r r'/\tH m τ m'/\(m'.map (·.1)).Nodup/\Cn τ/\(∀i id,lk τ i=some id->(i<ns/\lk σ id=some i)∨(ns<=i/\nx<=id/\id<n')) /\
   (∀p∈m',∀q∈rest,p.1≠q.1)/\K r' (m'++rest) n'):aC P Γ F args mem nx K:=by
 refine⟨fun X D ρ w vs hD hm hv=>?_⟩;obtain⟨p1,pv⟩:=hm.part hp;have hσ:∀id i,lk σ id=some i->D id->(∃id,lk σ id=some i/\D id)/\fG σ ρ ρ i=ρ id:=fun id i h1 h2=>⟨⟨id,h1,h2⟩,iN hinj h1⟩
 obtain⟨s1,sv,so⟩:=p1.turn (D':=fun i=>∃id,lk σ id=some i/\D id) hΓ hσ hM hnod hinj;have hvs:dO (fG σ ρ ρ) (fun i=>∃id,lk σ id=some i/\D id) (OX (XR X ρ rest) (fG σ ρ ρ) ms) w as vs:=
  ⟨by rw[←hargs.1];exact hv.1,fun j c' x hc' hx=>by
   obtain⟨c,hc⟩:=bC hargs.1 hc';exact sv c c' (hargs.2 j c c' hc hc') _ (pv _ _ (hv.2 j c x hc hx))⟩
 refine(h.run _ _ _ w vs (fun i ⟨id,h1,_⟩=>hlt id i h1) s1 hvs).mono ?_;rintro e w' ⟨r,v,m,n,ρs,rfl,hq,hn,r1,rv,ext⟩;obtain⟨τ,r',m',n',hn',t1,t2,t3,t4,t5,t6,hK⟩:=hk r m n hq hn;have hτ:∀i id,lk τ i=some id->dn (fun i=>∃id,lk σ id=some i/\D id) ns n i->dn D nx n' id/\fG τ ρs ρ id=ρs i:=by
  intro i id h1 h2;refine⟨?_,iN t4 h1⟩;rcases t5 i id h1 with⟨h3,h4⟩|⟨h3,h4,h5⟩
  ·rcases h2 with⟨id0,h5,h6⟩|⟨h5,_⟩
   ·rw[hinj id id0 i h4 h5];exact .inl h6
   ·omega
  ·exact .inr ⟨h4,h5⟩
 obtain⟨u1,uv,uo⟩:=r1.turn hΓ hτ t2 t3 t4;have hext:Ext D ρ m1 w (fG τ ρs ρ) (dn D nx n') m' w':=by
  refine⟨fun i hi=>.inl hi,fun id hid=>?_,ext.size,fun b hb ho=>?_,fun p hp' hpn=>?_,ext.env⟩
  ·by_cases hex:∃i,lk τ i=some id
   ·obtain⟨i,hi⟩:=hex;rw[iN t4 hi];rcases t5 i id hi with⟨h3,h4⟩|⟨h3,h4,h5⟩
    ·rw[ext.agree i ⟨id,h4,hid⟩,iN hinj h4]
    ·have:=hD id hid;omega
   ·exact oP hex
  ·refine ext.keep b hb fun⟨p,hp',hpn,e⟩=>ho ?_
   rw[←e];exact so p hp' hpn
  ·obtain⟨q,hq',hqn,e⟩:=uo p hp' hpn;rw[←e];rcases ext.fresh q hq' hqn with⟨q',hq1,hq2,e'⟩|h1
   ·rw[←e'];exact .inl (so q' hq1 hq2)
   ·exact .inr h1
 obtain⟨j1,j2,j3,j4⟩:=MR.join (D':=dn D nx n') hm hp u1 hext (fun p hp=>hp) t6 hrest;exact⟨r',v,m'++rest,n',_,rfl,hK,hn',j1,j2 _ _ (uv r r' t1 _ rv),j4 D fun i hi=>hi⟩
inductive Sc:AV->Prop
 | bool (b:Bool):Sc (.bool b)
 | int (k:IntKind) (n:Int):Sc (.int k n)
 | str (s:List UInt8):Sc (.str s)
 | nptr:Sc .nptr
 | nsl:Sc .nsl
 | nmap:Sc .nmap
 | nfn:Sc .nfn
 | nif:Sc .nif
 | junk:Sc .junk
 | ifc (t:TypeId) (v:AV):Sc v->Sc (.ifc t v)
 | agg (cs:List AV):(∀(j:Nat) (c:AV),cs[j]? = some c->Sc c)->Sc (.agg cs)
 | tup (cs:List AV):(∀(j:Nat) (c:AV),cs[j]? = some c->Sc c)->Sc (.tup cs)
theorem Sc.vr{ρ ρ':Nat->a6}{D D' O O':Nat->Prop}{w w':World}{v:AV}{x:Value}(h:VR ρ D O w v x)(hn:Sc v):VR ρ' D' O' w' v x:=by
 induction h with
 | bool=>exact .bool _
 | int=>exact .int _ _
 | str=>exact .str _
 | nptr=>exact .nptr
 | nsl=>exact .nsl
 | nmap=>exact .nmap
 | nfn=>exact .nfn
 | nif=>exact .nif
 | ifc t v x _ ih=>cases hn with|ifc _ _ hn=>exact .ifc t v x (ih hn)
 | agg cs arr hl ho _ ih=>cases hn with|agg _ hn=>exact .agg cs arr hl ho fun j c x h1 h2=>ih j c x h1 h2 (hn j c h1)
 | tup cs arr hl _ ih=>cases hn with|tup _ hn=>exact .tup cs arr hl fun j c x h1 h2=>ih j c x h1 h2 (hn j c h1)
 | junk x=>exact .junk x
 | _=>cases hn
theorem aC.lend{F:FuncId}{as args:List AV}{mem:aA}{nx:Nat}{Qs K:AV->aA->Nat->Prop}(hΓ:∀p∈Γ,NN p.2)(h:aC P Γ F as [] 0 Qs)(hargs:mV mem [] args as)
  (hk:∀r m n,Qs r m n->Sc r/\K r mem nx):aC P Γ F args mem nx K:=by
 refine⟨fun X D ρ w vs hD hm hv=>?_⟩;obtain⟨s1,sv,so⟩:=hm.turn (σ:=[]) (ρ':=ρ) (D':=fun _=>False) (mem':=[]) hΓ (fun id id' h=>by simp[lk] at h) (fun p hp=>by simp at hp) (by simp) (fun i j k h=>by simp[lk] at h);have hvs:dO ρ (fun _=>False) (OX X ρ []) w as vs:=
  ⟨by rw[←hargs.1];exact hv.1,fun j c' x hc' hx=>by
   obtain⟨c,hc⟩:=bC hargs.1 hc';exact sv c c' (hargs.2 j c c' hc hc') _ (hv.2 j c x hc hx)⟩
 refine(h.run _ _ _ w vs (fun i h=>h.elim) s1 hvs).mono ?_;rintro e w' ⟨r,v,m,n,ρs,rfl,hq,hn,r1,rv,ext⟩;obtain⟨hsc,hK⟩:=hk r m n hq;obtain⟨m2,e2⟩:=hm.still ext.size (fun b hb=>ext.keep b hb (fun⟨p,hp,_⟩=>by simp at hp)) ext.env;obtain⟨m3,v3,e3⟩:=m2.widen (D':=dn D nx nx) (fun i hi=>.inl hi);exact⟨r,v,mem,nx,ρ,rfl,hK,JG _,m3,Sc.vr rv hsc,(e2 D fun i hi=>hi).trans (e3 D fun i hi=>hi)⟩
end
end Go.Ax
