/- A part of the proof. -/
import Derived.Test.YtidjhgajglebnaaGreatDoorAx1
import Derived.WalkKit
import Derived.WalkSpells
import Derived.WalkLawsBesides
import Derived.Lib.Strings
import Derived.Laws.StructEq
import Derived.MapKept
import Derived.Lib.UnsafeStr
import Derived.KernelRfl
import Derived.Laws.Externs
set_option linter.unusedVariables false
set_option linter.unusedSimpArgs false
set_option maxRecDepth 1000000
set_option maxHeartbeats 16000000
namespace Go.Ax
open Go
variable{off:Nat}{w w':World}{D O:Nat->Prop}{V:Type}{ds:List Deferred × Nat}{dd:List Deferred}
theorem om{p:Prop}(h:p:=by omega):p:=h
abbrev aAa:=@List.getElem?_eq_getElem
abbrev aAb:=@List.getD_eq_getElem?_getD
abbrev aAc:=@Int.toNat_natCast
abbrev aAd:=@Bool.and_eq_true
abbrev aAe:=@if_neg
abbrev aAf:=@Nat.ble_eq_true_of_le
abbrev aAg:=@List.getElem?_eq_some_iff
abbrev aAh:=@if_pos
abbrev aAi:=@Nat.le_of_ble_eq_true
abbrev aAj:=@List.mem_cons
abbrev aAk:=@List.take_of_length_le
abbrev aAl:=@List.take_succ_eq_append_getElem
abbrev aAm:=@List.mem_of_getElem?
abbrev aAn:=@decide_eq_true
abbrev aAo:=@List.mem_cons_of_mem
abbrev aAp:=@Nat.le_refl
abbrev aAq:=@List.getElem_mem
abbrev aAr:=@Nat.lt_or_ge
abbrev aAs:=@List.getElem?_eq_none
abbrev aAt:=@List.mem_append
abbrev aAu:=@Int.eq_ofNat_of_zero_le
abbrev aAv:=@List.mem_cons_self
abbrev aAw:=@decide_eq_false
abbrev aAx:=@Nat.le_trans
abbrev aAy:=@List.foldl_cons
abbrev aAz:=@Nat.eq_zero_or_pos
abbrev aAA:=@List.length_append
abbrev aAB:=@List.eq_nil_of_length_eq_zero
abbrev aAC:=@decide_eq_true_eq
abbrev aAD:=@List.take_length
abbrev aAE:=@List.mem_map
abbrev aAF:=@Nat.zero_add
abbrev aAG:=@Nat.mul_le_mul_right
abbrev aAH:=@List.length_cons
abbrev aAI:=@List.mem_of_mem_take
abbrev aAJ:=@List.drop_zero
abbrev aAK:=@List.getElem?_map
abbrev aAL:=@List.getElem?_take
abbrev aAM:=@List.getElem?_append_left
abbrev aAN:=@Nat.zero_le
abbrev aAO:=@List.getElem?_append
abbrev aAP:=@List.mem_filter
abbrev aAQ:=@List.mem_append_left
abbrev aAR:=@List.length_take
abbrev aAS:=@Bool.eq_iff_iff
abbrev aAT:=@List.map_cons
abbrev aAU:=@List.getElem?_of_mem
abbrev aAV:=@List.getElem?_drop
abbrev aAW:=@List.getElem?_append_right
abbrev aAX:=@List.mem_of_mem_drop
abbrev aAY:=@of_decide_eq_true
abbrev aAZ:=@List.nil_append
abbrev aA0:=@List.of_mem_zip
abbrev aA1:=@List.pairwise_cons
abbrev aA2:=@decide_eq_decide
abbrev aA3:=@List.append_nil
abbrev aA4:=@List.zip_cons_cons
abbrev aA5:=@List.length_pos_iff
abbrev aA6:=@List.replicate_succ
abbrev aA7:=@List.length_singleton
abbrev aA8:=@List.nodup_cons
abbrev aA9:=@List.length_replicate
abbrev aBa:=@List.mem_singleton
abbrev aBb:=@Nat.mod_eq_of_lt
abbrev aBc:=@List.cons_append
abbrev aBd:=@Int.natAbs_natCast
abbrev aBe:=@List.getElem?_set_self
abbrev aBf:=@Nat.pow_le_pow_right
abbrev aBg:=@Nat.mul_comm
abbrev aBh:=@List.length_eq_zero_iff
abbrev aBi:=@Array.getElem?_toList
abbrev aBj:=@Nat.ne_of_beq_eq_false
abbrev aBk:=@List.drop_of_length_le
abbrev aBl:=@List.drop_eq_nil_of_le
abbrev aBm:=@Bool.or_eq_true
abbrev aBn:=@Nat.mul_le_mul
abbrev aBo:=@Nat.add_zero
abbrev aBp:=@List.mem_append_right
abbrev aBq:=@Nat.one_mul
abbrev aBr:=@List.getElem?_replicate
abbrev aBs:=@List.flatMap_cons
abbrev aBt:=@Nat.mod_lt
abbrev aBu:=@List.map_append
abbrev aBv:=@Option.getD_some
abbrev aBw:=@List.length_drop
abbrev aBx:=@Nat.lt_succ_self
abbrev aBy:=@List.drop_length
abbrev aBz:=@Bool.eq_false_iff
abbrev aBA:=@of_decide_eq_false
abbrev aBB:=@Bool.false_eq_true
abbrev aBC:=@List.length_nil
abbrev aBD:=@List.all_eq_true
abbrev aBE:=@List.sizeOf_lt_of_mem
abbrev aBF:=@Nat.pow_succ
abbrev aBG:=@Array.getElem?_setIfInBounds_ne
abbrev aBH:=@Int.tdiv_eq_ediv_of_nonneg
abbrev aBI:=@List.zipIdx_cons
abbrev aBJ:=@List.getElem?_toArray
abbrev aBK:=@Bool.false_and
abbrev aBL:=@List.sum_cons
abbrev aBM:=@Option.map_some
abbrev aBN:=@Nat.min_eq_left
abbrev aBO:=@List.length_map
abbrev aBP:=@Int.tmod_lt_of_pos
abbrev aBQ:=@List.getElem?_set
abbrev aBR:=@Bool.and_false
abbrev aBS:=@Nat.mul_le_mul_left
abbrev aBT:=@List.take_succ_cons
abbrev aBU:=@Array.getElem?_modify
abbrev aBV:=@Bool.and_eq_false_iff
abbrev aBW:=@Nat.div_lt_iff_lt_mul
abbrev aBX:=@Array.eq_empty_of_size_eq_zero
abbrev aBY:=@Bool.true_and
abbrev aBZ:=@List.take_zero
abbrev aB0:=@Bool.or_eq_false_iff
abbrev aB1:=@List.reverse_cons
abbrev aB2:=@decide_eq_false_iff_not
abbrev aB3:=@List.length_set
abbrev aB4:=@Int.tmod_nonneg
abbrev aB5:=@Int.tdiv_nonneg
abbrev aB6:=@List.getElem?_range
abbrev aB7:=@Array.getD_eq_getD_getElem?
abbrev aB8:=@List.mem_flatMap
abbrev aB9:=@Nat.lt_of_lt_of_le
abbrev aCa:=@Int.fdiv_eq_ediv_of_nonneg
abbrev aCb:=@Nat.le_div_iff_mul_le
abbrev aCc:=@Array.getElem?_eq_getElem
abbrev aCd:=@Nat.mul_pos
abbrev aCe:=@List.nodup_append
abbrev aCf:=@List.ext_getElem?
abbrev aCg:=@List.eq_of_mem_replicate
abbrev aCh:=@Array.getElem?_push
abbrev aCi:=@List.mem_range
abbrev aCj:=@Nat.div_eq_of_lt
abbrev aCk:=@List.take_take
abbrev aCl:=@List.append_of_mem
abbrev aCm:=@Nat.lt_of_le_of_lt
abbrev aCn:=@Nat.mul_zero
abbrev aCo:=@List.set_append_right
abbrev aCp:=@Array.toArray_toList
abbrev aCq:=@Nat.zero_mul
abbrev aCr:=@Array.mem_append
abbrev aCs:=@List.map_set
abbrev aCt:=@List.map_congr_left
abbrev aCu:=@Option.isSome_iff_exists
abbrev aCv:=@Nat.lt_irrefl
abbrev aCw:=@Bool.false_or
abbrev aCx:=@Nat.div_add_mod
abbrev aCy:=@List.range_succ
abbrev aCz:=@Nat.div_lt_self
abbrev aCA:=@Nat.mod_add_div
abbrev aCB:=@Array.ext'
abbrev aCC:=@List.countP_append
abbrev aCD:=@List.set_cons_zero
abbrev aCE:=@Nat.add_sub_cancel_left
abbrev aCF:=@Array.getElem?_eq_none
abbrev aCG:=@Option.map_eq_some_iff
abbrev aCH:=@Nat.add_comm
abbrev aCI:=@Nat.mul_left_comm
abbrev aCJ:=@Array.getElem?_append
abbrev aCK:=@List.getElem?_zipWith
abbrev aCL:=@List.filter_cons
abbrev aCM:=@List.getElem_zip
abbrev aCN:=@List.getElem?_set_ne
abbrev aCO:=@Array.mem_toList_iff
abbrev aCP:=@List.drop_append_of_le_length
abbrev aCQ:=@List.replicate_succ'
abbrev aCR:=@List.take_append_of_le_length
abbrev aCS:=@Array.getElem?_setIfInBounds
abbrev aCT:=@Nat.div_le_self
abbrev aCU:=@Nat.div_mul_le_self
abbrev aCV:=@List.filterMap_cons
abbrev aCW:=@List.sum_append_nat
abbrev aCX:=@List.flatten_append
abbrev aCY:=@Int.toNat_of_nonneg
abbrev aCZ:=@Nat.sub_self
abbrev aC0:=@Int.lt_or_le
abbrev aC1:=@Array.getElem?_eq_some_iff
abbrev aC2:=@Array.ext_getElem?
abbrev aC3:=@Nat.add_mul_mod_self_right
abbrev aC4:=@List.nodup_nil
abbrev aC5:=@List.mem_replicate
abbrev aC6:=@List.mem_or_eq_of_mem_set
abbrev aC7:=@List.exists_mem_of_ne_nil
abbrev aC8:=@Nat.le_succ
abbrev aC9:=@List.size_toArray
abbrev aDa:=@List.pairwise_map
abbrev aDb:=@Int.mul_neg
abbrev aDc:=@List.mem_reverse
abbrev aDd:=@Nat.le_of_lt
abbrev aDe:=@List.countP_map
abbrev aDf:=@Nat.mul_one
abbrev aDg:=@Bool.and_assoc
abbrev aDh:=@List.foldl_nil
abbrev aDi:=@Int.natAbs_pos
inductive AV where
 | bool (b:Bool)
 | int (k:IntKind) (n:Int)
 | str (s:List UInt8)
 | nptr|nsl|nmap|nfn|nif
 | ptr (id i j:Nat)
 | sl (id off len:Nat)
 | mp (id:Nat)
 | ip (v:AV)
 | il (sz:Nat) (xs:List AV)
 | fn (f:Fn) (first cap:List AV)
 | ifc (t:TypeId) (v:AV)
 | agg (cs:List AV)
 | tup (vs:List AV)
 | junk
 | yld (id:Nat)
def AV.cells:AV->List AV
 | .agg cs=>cs
 | v=>[v]
structure dP where
 b:Nat
 n:Nat
 sz:Nat
inductive VR (C:Nat->dP) (D:Nat->Prop) (O:Nat->Prop) (w:World):AV->Value->Prop
 | bool (b:Bool):VR C D O w (.bool b) (.bool b)
 | int (k:IntKind) (n:Int):VR C D O w (.int k n) (.int k n)
 | str (s:List UInt8):VR C D O w (.str s) (.string ⟨s.toArray⟩)
 | nptr:VR C D O w .nptr (.pointer none)
 | nsl:VR C D O w .nsl (.slice none 0 0)
 | nmap:VR C D O w .nmap (.map none)
 | nfn:VR C D O w .nfn .nilFunc
 | nif:VR C D O w .nif .nilIface
 | ptr (id i j:Nat):D id->VR C D O w (.ptr id i j) (.pointer (some ⟨(C id).b,i*(C id).sz+j,none⟩))
 | sl (id off len cap:Nat):D id->len<=cap->(off+cap)*(C id).sz<=(C id).n ->
   VR C D O w (.sl id off len) (.slice (some ⟨(C id).b,off*(C id).sz,none⟩) len cap)
 | slz (id off b o:Nat):D id->VR C D O w (.sl id off 0) (.slice (some ⟨b,o,none⟩) 0 0)
 | slzn (id off:Nat):D id->VR C D O w (.sl id off 0) (.slice none 0 0)
 | mp (id:Nat):D id->VR C D O w (.mp id) (.map (some (C id).b))
 | ip (v:AV) (b off:Nat) (f:Nat->Value) :
   (∀(j:Nat) (c:AV),v.cells[j]? = some c->¬O b/\w.cell? ⟨b,off+j,none⟩=some (f j)/\(f j).oneCell'=true) ->
   (∀(j:Nat) (c:AV),v.cells[j]? = some c->VR C D O w c (f j))->VR C D O w (.ip v) (.pointer (some ⟨b,off,none⟩))
 | il (sz:Nat) (xs:List AV) (b off cap:Nat) (f:Nat->Nat->Value):xs.length<=cap ->
   (∀(i:Nat) (x:AV),xs[i]? = some x->x.cells.length=sz) ->
   (∀(i:Nat) (x:AV) (j:Nat) (c:AV),xs[i]? = some x->x.cells[j]? = some c->¬O b/\w.cell? ⟨b,off+(i*sz+j),none⟩=some (f i j)/\(f i j).oneCell'=true) ->
   (∀(i:Nat) (x:AV) (j:Nat) (c:AV),xs[i]? = some x->x.cells[j]? = some c->VR C D O w c (f i j)) ->
   VR C D O w (.il sz xs) (.slice (some ⟨b,off,none⟩) xs.length cap)
 | iln (sz:Nat):VR C D O w (.il sz []) (.slice none 0 0)
 | fn (f:Fn) (first cap:List AV) (a1 a2:Array Value):first.length=a1.size->cap.length=a2.size ->
   (∀(j:Nat) (c:AV) (x:Value),first[j]? = some c->a1[j]? = some x->VR C D O w c x) ->
   (∀(j:Nat) (c:AV) (x:Value),cap[j]? = some c->a2[j]? = some x->VR C D O w c x)->VR C D O w (.fn f first cap) (.func f a1 a2)
 | ifc (t:TypeId) (v:AV) (x:Value):VR C D O w v x->VR C D O w (.ifc t v) (.iface t x)
 | agg (cs:List AV) (arr:Array Value):cs.length=arr.size->(∀x∈arr,x.oneCell'=true) ->
   (∀(j:Nat) (c:AV) (x:Value),cs[j]? = some c->arr[j]? = some x->VR C D O w c x)->VR C D O w (.agg cs) (.agg arr)
 | tup (cs:List AV) (arr:Array Value):cs.length=arr.size ->
   (∀(j:Nat) (c:AV) (x:Value),cs[j]? = some c->arr[j]? = some x->VR C D O w c x)->VR C D O w (.tup cs) (.tuple arr)
 | junk (x:Value):VR C D O w .junk x
 | yld (id:Nat):D id->VR C D O w (.yld id) (.func (.yield (C id).b) #[] #[])
theorem yW{b:Nat}{v:Value}(h:w.cell? ⟨b,off,none⟩=some v):b<w.heap.size:=by
 unfold World.cell? at h;rcases aAr b w.heap.size with hb|hb
 .exact hb
 .simp[aCF hb] at h
theorem Cb{b:Nat}(h:w'.heap[b]? = w.heap[b]?):w'.cell? ⟨b,off,none⟩=w.cell? ⟨b,off,none⟩:=by
 simp[World.cell?,h]
theorem VR.mono{C C':Nat->dP}{D D':Nat->Prop}{O O':Nat->Prop}{w w':World}{v:AV}{x:Value}(h:VR C D O w v x)
  (hρ:∀id,D id->C' id=C id) (hN:∀id,D id->D' id)
  (hk:∀b,b<w.heap.size->¬O b->¬O' b/\w'.heap[b]? = w.heap[b]?):VR C' D' O' w' v x:=by
 induction h with
 | bool=>exact .bool _
 | int=>exact .int _ _
 | str=>exact .str _
 | nptr=>exact .nptr
 | nsl=>exact .nsl
 | nmap=>exact .nmap
 | nfn=>exact .nfn
 | nif=>exact .nif
 | ptr id i j hid=>rw[<-hρ id hid];exact .ptr id i j (hN id hid)
 | sl id off len cap hid h1 h2=>rw[<-hρ id hid] at h2 |-;exact .sl id off len cap (hN id hid) h1 h2
 | slz id off b o hid=>exact .slz id off b o (hN id hid)
 | slzn id off hid=>exact .slzn id off (hN id hid)
 | mp id hid=>rw[<-hρ id hid];exact .mp id (hN id hid)
 | ip v b off f h1 _ ih=>
  refine .ip v b off f (λj c hj=>?_) ih;obtain⟨ho,hc,hone⟩:=h1 j c hj;obtain⟨ho',hb⟩:=hk b (yW hc) ho;exact⟨ho',by rw[Cb hb,hc],hone⟩
 | il sz xs b off cap f hl hs h1 _ ih=>
  refine .il sz xs b off cap f hl hs (λi x j c hi hj=>?_) ih;obtain⟨ho,hc,hone⟩:=h1 i x j c hi hj;obtain⟨ho',hb⟩:=hk b (yW hc) ho;exact⟨ho',by rw[Cb hb,hc],hone⟩
 | iln=>exact .iln _
 | fn f first cap a1 a2 l1 l2 _ _ ih1 ih2=>exact .fn f first cap a1 a2 l1 l2 ih1 ih2
 | ifc t v x _ ih=>exact .ifc t v x ih
 | agg cs arr hl ho _ ih=>exact .agg cs arr hl ho ih
 | tup cs arr hl _ ih=>exact .tup cs arr hl ih
 | junk x=>exact .junk x
 | yld id hid=>rw[<-hρ id hid];exact .yld id (hN id hid)
def m9(C:Nat->dP)(D:Nat->Prop)(O:Nat->Prop)(w:World)(cs:List AV)(vs:List Value):Prop:=
 cs.length=vs.length/\∀(j:Nat) (c:AV) (x:Value),cs[j]? = some c->vs[j]? = some x->VR C D O w c x
theorem m9.nil{C:Nat->dP}:m9 C D O w [] []:=⟨rfl,sq⟩
theorem m9.cons{C:Nat->dP}{D:Nat->Prop}{O:Nat->Prop}{w:World}{c:AV}{cs:List AV}{x:Value}{xs:List Value}
  (h:VR C D O w c x) (hs:m9 C D O w cs xs):m9 C D O w (c::cs) (x::xs):=by
 refine⟨by simp[hs.1],λj c' x' h1 h2=>?_⟩;cases j with
 | zero=>simp at h1 h2;subst h1 h2;exact h
 | succ j=>simp at h1 h2;exact hs.2 j c' x' h1 h2
theorem m9.append{C:Nat->dP}{D:Nat->Prop}{O:Nat->Prop}{w:World}{cs cs':List AV}{xs xs':List Value}
  (h:m9 C D O w cs xs) (h':m9 C D O w cs' xs'):m9 C D O w (cs++cs') (xs++xs'):=by
 refine⟨by simp[h.1,h'.1],λj c x h1 h2=>?_⟩;rw[aAO] at h1 h2;rw[<-h.1] at h2;by_cases hj:j<cs.length
 .rw[aAh hj] at h1 h2;exact h.2 j c x h1 h2
 .rw[aAe hj] at h1 h2;exact h'.2 _ c x h1 h2
theorem m9.mono{C C':Nat->dP}{D D':Nat->Prop}{O O':Nat->Prop}{w w':World}{cs:List AV}{xs:List Value}(h:m9 C D O w cs xs)
  (hρ:∀id,D id->C' id=C id) (hN:∀id,D id->D' id)
  (hk:∀b,b<w.heap.size->¬O b->¬O' b/\w'.heap[b]? = w.heap[b]?):m9 C' D' O' w' cs xs:=
 ⟨h.1,λj c x h1 h2=>(h.2 j c x h1 h2).mono hρ hN hk⟩
def L4(C:Nat->dP)(D:Nat->Prop)(O:Nat->Prop)(w:World)(cs:List AV)(vs:List Value):Prop:=
 m9 C D O w cs vs/\∀x∈vs,x.oneCell'=true
def lk{V:Type}:List (Nat × V)->Nat->Option V
 | [],_=>none
 | (i,v)::r,j=>match Nat.beq i j with
  | true=>some v
  | false=>lk r j
def up{V:Type}:List (Nat × V)->Nat->V->List (Nat × V)
 | [],j,v=>[(j,v)]
 | (i,u)::r,j,v=>match Nat.beq i j with
  | true=>(i,v)::r
  | false=>(i,u)::up r j v
inductive AB where
 | row (t:TypeId) (sz:Nat) (xs:List AV)
 | mapb (es:List (AV × AV))
 | loop (sl:List (Nat × AV)) (nt:Nat) (ps:Array Tmp) (ca cb:Code) (st:LoopState) (pd:Option Code)
def BR(C:Nat->dP)(D:Nat->Prop)(O:Nat->Prop)(w:World)(l:dP)(o:Obj):AB->Prop
 | .row t sz xs=>l.sz=sz/\∃arr fr,o = .cells arr t fr/\(∀j,j<arr.size->¬(fr.1<=j/\j<fr.2))/\arr.size=l.n/\xs.length*l.sz<=l.n /\
   ∀(i:Nat) (x:AV),xs[i]? = some x->x.cells.length=l.sz /\
    ∀(j:Nat) (c:AV),x.cells[j]? = some c->∃v,arr[i*l.sz+j]? = some v/\v.oneCell'=true/\VR C D O w c v
 | .mapb es=>∃arr clk,o = .map arr clk/\arr.size=es.length/\∀(i:Nat) (e:AV × AV),es[i]? = some e->∃m,arr[i]? = some m/\VR C D O w e.1 m.key/\VR C D O w e.2 m.val
 | .loop sl nt ps ca cb st pd=>∃(arr:Array Value) (fn:FuncId) (df:Nat),o = .loop { state:=st,pending:=pd,fn:=fn,tmps:=arr,params:=ps,assign:=ca,body:=cb,defers:=df }/\arr.size=nt /\
   ∀(i:Nat) (v:AV),lk sl i=some v->VR C D O w v (arr.getD i undef)
theorem BR.mono{C C':Nat->dP}{D D':Nat->Prop}{O O':Nat->Prop}{w w':World}{l:dP}{o:Obj}{a:AB}(h:BR C D O w l o a)
  (hρ:∀id,D id->C' id=C id) (hN:∀id,D id->D' id)
  (hk:∀b,b<w.heap.size->¬O b->¬O' b/\w'.heap[b]? = w.heap[b]?):BR C' D' O' w' l o a:=by
 cases a with
 | row t sz xs=>
  obtain⟨h0,arr,fr,h1,hf,h2,h3,h4⟩:=h;refine⟨h0,arr,fr,h1,hf,h2,h3,λi x hi=>⟨(h4 i x hi).1,λj c hj=>?_⟩⟩;obtain⟨v,hv,ho,hr⟩:=(h4 i x hi).2 j c hj;exact⟨v,hv,ho,hr.mono hρ hN hk⟩
 | mapb es=>
  obtain⟨arr,clk,h1,h2,h3⟩:=h;refine⟨arr,clk,h1,h2,λi e he=>?_⟩;obtain⟨m,hm,hr1,hr2⟩:=h3 i e he;exact⟨m,hm,hr1.mono hρ hN hk,hr2.mono hρ hN hk⟩
 | loop sl nt ps ca cb st pd=>
  obtain⟨arr,fn,df,h1,h2,h3⟩:=h;exact⟨arr,fn,df,h1,h2,λi v hi=>(h3 i v hi).mono hρ hN hk⟩
abbrev aP:=List (Nat × AB)
def own(C:Nat->dP)(mem:aP)(b:Nat):Prop:=∃p∈mem,0<(C p.1).n/\(C p.1).b=b
def OX(X:Nat->Prop)(C:Nat->dP)(mem:aP)(b:Nat):Prop:=X b\/own C mem b
structure MR(Z:List (Nat × AV))(X:Nat->Prop)(C:Nat->dP)(D:Nat->Prop)(mem:aP)(w:World):Prop where
 low:∀p∈mem,D p.1
 blk:∀p∈mem,0<(C p.1).n->∃o,w.heap[(C p.1).b]? = some o/\BR C D (OX X C mem) w (C p.1) o p.2
 emp:∀p∈mem,(C p.1).n=0->∃t sz,p.2 = .row t sz []/\(C p.1).sz=sz
 inj:∀p∈mem,∀q∈mem,0<(C p.1).n->0<(C q.1).n->(C p.1).b=(C q.1).b->p.1=q.1
 nod:(mem.map (·.1)).Nodup
 bar:∀b,X b->b<w.heap.size/\¬own C mem b
 glo:∀p∈Z,VR C D (OX X C mem) w (.ip p.2) (.pointer (some ⟨p.1,0,none⟩))
structure G6(w w':World):Prop where
 os:w'.os=w.os
 output:w'.output=w.output
 tape:w'.tape=w.tape
 drawn:w.drawn<=w'.drawn
theorem G6.refl(w:World):G6 w w:=⟨rfl,rfl,rfl,aAp _⟩
theorem G6.trans{w'':World}(h:G6 w w')(h':G6 w' w''):G6 w w'':=⟨h'.os.trans h.os,h'.output.trans h.output,h'.tape.trans h.tape,aAx h.drawn h'.drawn⟩
theorem G6.go(h:G6 w w':=by exact⟨rfl,rfl,rfl,by first|exact aAp _|exact aC8 _|exact Nat.le_add_right _ _⟩):G6 w w':=h
structure Ext(A:Nat->Prop)(C:Nat->dP)(mem:aP)(w:World)(C':Nat->dP)(D':Nat->Prop)(mem':aP)(w':World):Prop where
 le:∀id,A id->D' id
 agree:∀id,A id->C' id=C id
 size:w.heap.size<=w'.heap.size
 keep:∀b,b<w.heap.size->¬own C mem b->w'.heap[b]? = w.heap[b]?
 fresh:∀p∈mem',0<(C' p.1).n->own C mem (C' p.1).b\/w.heap.size<=(C' p.1).b
 env:G6 w w'
theorem Ext.refl{A:Nat->Prop}{C:Nat->dP}{mem:aP}(h:∀id,A id->D id):Ext A C mem w C D mem w:=
 ⟨h,λ_ _=>rfl,aAp _,λ_ _ _=>rfl,λp hp hn=>.inl ⟨p,hp,hn,rfl⟩,.refl _⟩
theorem Ext.trans{A:Nat->Prop}{D₁ D₂:Nat->Prop}{C ρ₁ ρ₂:Nat->dP}{mem mem₁ mem₂:aP}{w₁ w₂:World}(h:Ext A C mem w ρ₁ D₁ mem₁ w₁)(h':Ext A ρ₁ mem₁ w₁ ρ₂ D₂ mem₂ w₂):
  Ext A C mem w ρ₂ D₂ mem₂ w₂:=by
 refine⟨h'.le,λid hid=>by rw[h'.agree id hid,h.agree id hid],aAx h.size h'.size,λb hb ho=>?_,λp hp hn=>?_,h.env.trans h'.env⟩
 .rw[h'.keep b (aB9 hb h.size) ?_,h.keep b hb ho];rintro⟨p,hp,hn,rfl⟩;rcases h.fresh p hp hn with h1|h1
  .exact ho h1
  .omega
 .rcases h'.fresh p hp hn with⟨q,hq,hqn,e⟩|h1
  .rw[<-e];exact h.fresh q hq hqn
  .exact .inr (aAx h.size h1)
def dn(D0:Nat->Prop)(B n:Nat):Nat->Prop:=λi=>D0 i\/(B<=i/\i<n)
structure St where
 sl:List (Nat × AV)
 mem:aP
 nx:Nat
 nt:Nat
theorem pI{a b:Nat}(h:a≠b):Nat.beq a b=false:=by
 cases h':Nat.beq a b with
 | false=>rfl
 | true=>exact absurd (Nat.eq_of_beq_eq_true h') h
theorem M8(l:List (Nat × V))(j:Nat)(v:V)(i:Nat):lk (up l j v) i=if i=j then some v else lk l i:=by
 induction l with
 | nil=>
  by_cases h:i=j
  .subst h;simp[up,lk]
  .have:Nat.beq j i=false:=pI λe=>h e.symm
   simp[up,lk,this,h]
 | cons p r ih=>
  obtain⟨k,u⟩:=p;simp only[up];cases hk:Nat.beq k j with
  | true=>
   have:k=j:=Nat.eq_of_beq_eq_true hk;subst this;by_cases h:i=k
   .subst h;simp[lk]
   .have:Nat.beq k i=false:=pI λe=>h e.symm
    simp[lk,this,h]
  | false=>
   have hne:k≠j:=aBj hk;simp only[lk];cases hki:Nat.beq k i with
   | true=>
    have:k=i:=Nat.eq_of_beq_eq_true hki;subst this;simp[hne]
   | false=>simpa using ih
def St.put(s:St)(d:Option Nat)(v:AV):St:=
 match d with
 | some i=>{ s with sl:=up s.sl i v }
 | none=>s
def IL(O:Nat->Prop)(w:World)(ds:List Deferred × Nat)(dd:List Deferred):Prop:=
 ds.2<=w.heap.size+1/\∃ms,dd=ms++ds.1/\(ds.2=0->ms=[])/\ms.Nodup/\∀d∈ms,∃b,d={ target:=.collected b,args:=#[] }/\ds.2<=b+1/\¬O b/\w.heap[b]? = some (.deferred (some []))
theorem IL.at{O O':Nat->Prop}{w w':World}{ds:List Deferred × Nat}{dd:List Deferred}(h:IL O w ds dd)(hs:w.heap.size<=w'.heap.size)
  (hk:∀b,b<w.heap.size->¬O b->¬O' b/\w'.heap[b]? = w.heap[b]?):IL O' w' ds dd:=by
 obtain⟨h1,ms,h2,h0,hn,h3⟩:=h;refine⟨aAx h1 (Nat.succ_le_succ hs),ms,h2,h0,hn,λd hd=>?_⟩;obtain⟨b,e,hb,ho,hh⟩:=h3 d hd;have hlt:b<w.heap.size:=(aC1.1 hh).1;exact⟨b,e,hb,(hk b hlt ho).1,(hk b hlt ho).2.trans hh⟩
theorem IL.start(h:ds.2<=w.heap.size+1):IL O w ds ds.1:=⟨h,[],rfl,λ_=>rfl,.nil,λd hd=>by cases hd⟩
theorem IL.eq{l:List Deferred}(h:IL O w (l,0) dd):dd=l:=by
 obtain⟨_,ms,h2,h0,_⟩:=h;rw[h2,h0 rfl];rfl
structure SR(Z:List (Nat × AV))(X:Nat->Prop)(ds:List Deferred × Nat)(C:Nat->dP)(D:Nat->Prop)(s:St)(a:Act)(w:World):Prop where
 mr:MR Z X C D s.mem w
 def0:IL (OX X C s.mem) w ds a.defers
 size:a.tmps.size=s.nt
 slot:∀i v,lk s.sl i=some v->VR C D (OX X C s.mem) w v (a.tmps.getD i undef)
end Go.Ax
namespace Go.Ax
open Go
variable{n i sz id:Nat}{t:TypeId}{x:Value}{v p:AV}{xs cs:List AV}{vs:List Value}{sh:Option Nat}
def yP:Value->Option AV
 | .bool b=>some (.bool b)
 | .int k n=>some (.int k n)
 | .string s=>some (.str s.data.toList)
 | .pointer none=>some .nptr
 | .slice none 0 0=>some .nsl
 | .map none=>some .nmap
 | .nilFunc=>some .nfn
 | .nilIface=>some .nif
 | _=>none
def rM:List Value->Option (List AV)
 | []=>some []
 | v::r=>match yP v with
  | some a=>match rM r with
   | some l=>some (a::l)
   | none=>none
  | none=>none
def Bz:Value->Option AV
 | .agg cs=>match rM cs.toList with
  | some l=>some (.agg l)
  | none=>none
 | .tuple cs=>match cs.toList with
  | []=>some (.tup [])
  | _=>none
 | v=>yP v
section
variable {C:Nat->dP} {D:Nat->Prop} {O:Nat->Prop} {w:World}
theorem zS{v:Value}{a:AV}(h:yP v=some a):VR C D O w a v:=by
 unfold yP at h;split at h<;>first|cases h|skip
 .exact .bool _
 .exact .int _ _
 .rename_i s;have:=VR.str (C:=C) (D:=D) (O:=O) (w:=w) s.data.toList;simpa using this
 .exact .nptr
 .exact .nsl
 .exact .nmap
 .exact .nfn
 .exact .nif
theorem J9{v:Value}{a:AV}(h:yP v=some a):v.oneCell'=true:=by
 unfold yP at h;split at h<;>first|(cases h;done)|rfl
theorem BW:∀{vs:List Value} {l:List AV},rM vs=some l->∀x∈vs,x.oneCell'=true
 | [],l,h=>sq
 | v::r,l,h=>by
  simp only[rM] at h;split at h
  .rename_i a ha;split at h
   .rename_i l' hl;intro x hx;rcases aAj.1 hx with rfl|hx
    .exact J9 ha
    .exact BW hl x hx
   .cases h
  .cases h
theorem xO:∀{vs:List Value} {l:List AV},rM vs=some l->m9 C D O w l vs
 | [],l,h=>by simp[rM] at h;subst h;exact .nil
 | v::r,l,h=>by
  simp only[rM] at h;split at h
  .rename_i a ha;split at h
   .rename_i l' hl;cases h;exact .cons (zS ha) (xO hl)
   .cases h
  .cases h
theorem L4.agg(h:L4 C D O w cs vs):VR C D O w (.agg cs) (.agg vs.toArray):=
 .agg cs vs.toArray (by simpa using h.1.1) (by simpa using h.2) (λj c x h1 h2=>h.1.2 j c x h1 (su h2))
theorem m9.tup(h:m9 C D O w cs vs):VR C D O w (.tup cs) (.tuple vs.toArray):=
 .tup cs vs.toArray (by simpa using h.1) (λj c x h1 h2=>h.2 j c x h1 (su h2))
theorem VR.agg_inv(h:VR C D O w (.agg cs) x):∃vs:List Value,x = .agg vs.toArray/\L4 C D O w cs vs:=by
 cases h with
 | agg _ arr hl ho hr=>exact⟨arr.toList,sq,⟨su hl,λj c x h1 h2=>hr j c x h1 (su h2)⟩,su ho⟩
theorem VR.tup_inv(h:VR C D O w (.tup cs) x):∃vs:List Value,x = .tuple vs.toArray/\m9 C D O w cs vs:=by
 cases h with
 | tup _ arr hl hr=>exact⟨arr.toList,sq,su hl,λj c x h1 h2=>hr j c x h1 (su h2)⟩
theorem mN{v:Value}{a:AV}(h:Bz v=some a):VR C D O w a v:=by
 unfold Bz at h;split at h
 .rename_i cs;split at h
  .rename_i l hl;cases h;have:=L4.agg ⟨xO (C:=C) (D:=D) (O:=O) (w:=w) hl,BW hl⟩;simpa using this
  .cases h
 .rename_i cs;split at h
  .rename_i hc;cases h;have:cs = #[]:=su hc
   subst this;exact .tup [] #[] rfl sq
  .cases h
 .exact zS h
end
theorem b8{V:Type}:∀{l:List (Nat × V)} {i:Nat} {v:V},lk l i=some v->(i,v)∈l
 | (k,u)::r,i,v,h=>by
  simp only[lk] at h;split at h
  .rename_i hk;cases h;simp[Nat.eq_of_beq_eq_true hk]
  .exact aAo _ (b8 h)
def ev(Z:List (Nat × AV))(s:St):Operand->Option AV
 | .tmp t=>lk s.sl t
 | .const v=>Bz v
 | .global g=>match lk Z g with
  | some v=>some (.ip v)
  | none=>none
 | .func f=>some (.fn (.func f) [] [])
def EK(Z:List (Nat × AV))(s:St):List Operand->Option (List AV)
 | []=>some []
 | x::r=>match ev Z s x with
  | some a=>match EK Z s r with
   | some l=>some (a::l)
   | none=>none
  | none=>none
section
variable {Z:List (Nat × AV)} {X:Nat->Prop} {ds:List Deferred × Nat} {C:Nat->dP} {D:Nat->Prop} {s:St} {a:Act} {w:World}
theorem a8(hs:SR Z X ds C D s a w){x:Operand}(h:ev Z s x=some v):VR C D (OX X C s.mem) w v (a.eval x):=by
 cases x with
 | tmp t=>exact hs.slot t v h
 | const c=>exact mN h
 | global g=>
  simp only[ev] at h;split at h
  .rename_i u hu;cases h;exact hs.mr.glo _ (b8 hu)
  .cases h
 | func f=>simp only[ev] at h;cases h;exact .fn _ [] [] #[] #[] rfl rfl sq sq
theorem iW(hs:SR Z X ds C D s a w):∀{xs:List Operand} {vs:List AV},EK Z s xs=some vs->m9 C D (OX X C s.mem) w vs (xs.map a.eval)
 | [],vs,h=>by simp[EK] at h;subst h;exact .nil
 | x::r,vs,h=>by
  simp only[EK] at h;split at h
  .rename_i v hv;split at h
   .rename_i l hl;cases h;exact .cons (a8 hs hv) (iW hs hl)
   .cases h
  .cases h
end
def GS(P:Program)(t:TypeId):Option (Option Nat):=
 match P.underlying t with
 | some (.struct _)=>match P.info? t with
  | some i=>some (some i.size)
  | none=>none
 | some (.array _ _)=>match P.info? t with
  | some i=>some (some i.size)
  | none=>none
 | some _=>some none
 | none=>none
def iI(P:Program)(t:TypeId):Option Nat:=
 match P.info? t with
 | some i=>some i.size
 | none=>none
def one:AV->Option AV
 | .agg _=>none
 | v=>some v
theorem Fv{c v:AV}(h:one c=some v):c=v/\v.cells=[v]:=by
 unfold one at h;split at h
 .cases h
 .cases h;refine⟨rfl, ?_⟩;cases c<;>first|rfl|(rename_i h1;exact(h1 _ rfl).elim)|(rename_i h1 _;exact(h1 _ rfl).elim)
def sub(sh:Option Nat)(cs:List AV)(j:Nat):Option AV:=
 match sh with
 | none=>match cs[j]? with
  | some c=>one c
  | none=>none
 | some n=>match Nat.beq ((cs.drop j).take n).length n with
  | true=>some (.agg ((cs.drop j).take n))
  | false=>none
section
variable {P:Program} {w:World}
theorem HN(h:GS P t=some sh):(isAgg t).run P w = .ok sh.isSome w/\∀n,sh=some n->(Go.sizeOf t).run P w = .ok n w:=by
 unfold GS at h;split at h
 .rename_i fs hu;split at h
  .rename_i i hi;cases h;refine⟨by simp[isAgg,run_underlying hu], ?_⟩;rintro n ⟨⟩;simp[Go.sizeOf,typeInfo,hi]
  .cases h
 .rename_i hu;split at h
  .rename_i i hi;cases h;refine⟨by simp[isAgg,run_underlying hu], ?_⟩;rintro n ⟨⟩;simp[Go.sizeOf,typeInfo,hi]
  .cases h
 .rename_i d h1 h2 hu;cases h;refine⟨?_,by rintro n ⟨⟩⟩;cases d<;>first|exact(h1 _ rfl).elim|exact(h2 _ _ rfl).elim|simp[isAgg,run_underlying hu]
 .cases h
theorem iX(h:iI P t=some n):(Go.sizeOf t).run P w = .ok n w:=by
 unfold iI at h;split at h
 .rename_i i hi;cases h;simp[Go.sizeOf,typeInfo,hi]
 .cases h
end
section
variable {P:Program} {C:Nat->dP} {D:Nat->Prop} {O:Nat->Prop} {w:World}
theorem p8{t:TypeId}{sh:Option Nat}(hsh:GS P t=some sh){cs:List AV}{j:Nat}{v:AV}(hv:sub sh cs j=some v)
  {b off:Nat} (hc:∀(i:Nat) (c:AV),cs[i]? = some c->∃x,w.cell? ⟨b,off+i,none⟩=some x/\x.oneCell'=true/\VR C D O w c x) :
  ∃x,(loadVar t ⟨b,off+j,none⟩).run P w = .ok x w/\VR C D O w v x:=by
 obtain⟨hag,hsz⟩:=HN (w:=w) hsh;cases sh with
 | none=>
  simp only[sub] at hv;split at hv
  .rename_i c hcj;obtain⟨rfl,_⟩:=Fv hv;obtain⟨x,hx,_,hr⟩:=hc j c hcj;exact⟨x,by simp[loadVar,hag,hx],hr⟩
  .cases hv
 | some n=>
  simp only[sub] at hv;split at hv
  .rename_i hl;cases hv;have hl:=Nat.eq_of_beq_eq_true hl;have key:∀i,i<n->∃x c,(List.take n (List.drop j cs))[i]? = some c/\w.cell? ⟨b,off+j+i,none⟩=some x/\x.oneCell'=true/\VR C D O w c x:=by
    intro i hi;have h1:(List.take n (List.drop j cs))[i]? = some ((List.take n (List.drop j cs))[i]'om):=aAa _;have h2:cs[j+i]? = some ((List.take n (List.drop j cs))[i]'om):=by
     rw[aAL,aAh hi,aAV] at h1;exact h1
    obtain⟨x,hx,ho,hr⟩:=hc _ _ h2;exact⟨x,_,h1,by rw[Nat.add_assoc];exact hx,ho,hr⟩
   have hget:∀i,i<n->w.cell? (Addr.add ⟨b,off+j,none⟩ i)=some ((w.cell? ⟨b,off+j+i,none⟩).getD undef):=by
    intro i hi;obtain⟨x,c,_,hx,_,_⟩:=key i hi;simp[Addr.add_lit,hx]
   refine⟨.agg ((List.range n).map λi=>(w.cell? ⟨b,off+j+i,none⟩).getD undef).toArray, ?_, ?_⟩
   .simp[loadVar,hag,hsz n rfl,run_loadCells w ⟨b,off+j,none⟩ n (λi=>(w.cell? ⟨b,off+j+i,none⟩).getD undef) hget]
   .refine L4.agg ⟨⟨by simp[hl],λi c x h1 h2=>?_⟩,λx hx=>?_⟩
    rotate_left
    .obtain⟨i,hi,rfl⟩:=aAE.1 hx;obtain⟨x',c',_,e2,ho,_⟩:=key i (aCi.1 hi);simp[e2,ho]
    have hi:i<n:=by
     rcases aAr i n with h|h
     .exact h
     .simp[h] at h2
    obtain⟨x',c',e1,e2,_,hr⟩:=key i hi;rw[h1] at e1;cases e1;simp[hi,e2] at h2;subst h2;exact hr
  .cases hv
end
def G5:List AV->List AV
 | []=>[]
 | x::r=>x.cells++G5 r
theorem Hc{R:Nat->AV->Prop}{sz:Nat}:∀{xs:List AV} {k:Nat},(∀(i:Nat) (x:AV),xs[i]? = some x->x.cells.length=sz/\∀(j:Nat) (c:AV),x.cells[j]? = some c->R ((k+i)*sz+j) c) ->
  ∀(q:Nat) (c:AV),(G5 xs)[q]? = some c->R (k*sz+q) c
 | [],k,h,q,c,hq=>by simp[G5] at hq
 | x::r,k,h,q,c,hq=>by
  obtain⟨h1,h2⟩:=h 0 x rfl;simp only[G5,aAO,h1] at hq;by_cases hlt:q<sz
  .rw[aAh hlt] at hq;simpa using h2 q c hq
  .rw[aAe hlt] at hq;have:=Hc (R:=R) (sz:=sz) (xs:=r) (k:=k+1) (λi y hy=>by
    obtain⟨h3,h4⟩:=h (i+1) y (su hy);exact⟨h3,λj c hj=>by rw[show k+1+i=k+(i+1) by omega];exact h4 j c hj⟩) (q-sz) c hq
   rw[show (k+1)*sz+(q-sz)=k*sz+q by rw[Nat.add_mul];omega] at this;exact this
def Fd(P:Program)(mem:aP)(t:TypeId)(p:AV):Option AV:=
 match p with
 | .ip u=>match GS P t with
  | some sh=>sub sh u.cells 0
  | none=>none
 | .ptr id i j=>match lk mem id with
  | some (.row _ sz xs)=>match xs[i]? with
   | some x=>match GS P t with
    | some sh=>match sub sh x.cells j with
     | some v=>some v
     | none=>match P.underlying t with
      | some (.array _ _)=>sub sh (G5 xs) (i*sz+j)
      | _=>none
    | none=>none
   | none=>none
  | _=>none
 | _=>none
section
variable {P:Program} {Z:List (Nat × AV)} {X:Nat->Prop} {C:Nat->dP} {D:Nat->Prop} {mem:aP} {w:World}
theorem RZ{u:AV}{O:Nat->Prop}(h:VR C D O w (.ip u) x):
  ∃b off,x = .pointer (some ⟨b,off,none⟩)/\∀(i:Nat) (c:AV),u.cells[i]? = some c->¬O b/\∃x,w.cell? ⟨b,off+i,none⟩=some x/\x.oneCell'=true/\VR C D O w c x:=by
 cases h with
 | ip _ b off f h1 h2=>exact⟨b,off,rfl,λi c hc=>⟨(h1 i c hc).1,f i,(h1 i c hc).2.1,(h1 i c hc).2.2,h2 i c hc⟩⟩
theorem iB(hm:MR Z X C D mem w)(hid:lk mem id=some (.row t sz xs)){x:AV}(hx:xs[i]? = some x):
  x.cells.length=(C id).sz/\∀(j:Nat) (c:AV),x.cells[j]? = some c->∃v,w.cell? ⟨(C id).b,i*(C id).sz+j,none⟩=some v/\v.oneCell'=true/\VR C D (OX X C mem) w c v:=by
 have hn:0<(C id).n:=by
  rcases aAz (C id).n with h|h
  .obtain⟨t',sz',e,_⟩:=hm.emp _ (b8 hid) h;cases e;simp at hx
  .exact h
 obtain⟨o,ho,_,arr,fr,rfl,_,_,_,h4⟩:=hm.blk _ (b8 hid) hn;refine⟨(h4 i x hx).1,λj c hc=>?_⟩;obtain⟨v,hv,h1,hr⟩:=(h4 i x hx).2 j c hc;exact⟨v,by simp[World.cell?,ho,hv],h1,hr⟩
theorem yJ(hm:MR Z X C D mem w)(h:Fd P mem t p=some v)(hx:VR C D (OX X C mem) w p x):
  ∃y,(Instr.loadAt t x).run P w = .ok y w/\VR C D (OX X C mem) w v y:=by
 unfold Fd at h;split at h
 .rename_i u;split at h
  .rename_i sh hsh;obtain⟨b,off,rfl,hc⟩:=RZ hx;obtain⟨y,hy,hr⟩:=p8 hsh h (λi c hi=>(hc i c hi).2);exact⟨y,by simpa[Instr.loadAt,Instr.sureAddr] using hy,hr⟩
  .cases h
 .rename_i id i j;split at h
  .rename_i t' sz' xs hid;split at h
   .rename_i e he;split at h
    .rename_i sh hsh;cases hx;split at h
     .rename_i v0 hv0;cases h;obtain⟨y,hy,hr⟩:=p8 hsh hv0 (iB hm hid he).2;exact⟨y,by simpa[Instr.loadAt,Instr.sureAddr] using hy,hr⟩
     .split at h
      .have hsz:(C id).sz=sz':=by
        rcases aAz (C id).n with h0|h0
        .obtain⟨t2,sz2,e2,e3⟩:=hm.emp _ (b8 hid) h0;cases e2;exact e3
        .obtain⟨o,ho,q0,_⟩:=hm.blk _ (b8 hid) h0;exact q0
       obtain⟨y,hy,hr⟩:=p8 (w:=w) (C:=C) (D:=D) (O:=OX X C mem) (b:=(C id).b) (off:=0) hsh h (λq c hq=>by
        have:=Hc (R:=λq c=>∃v,w.cell? ⟨(C id).b,q,none⟩=some v/\v.oneCell'=true/\VR C D (OX X C mem) w c v) (sz:=(C id).sz) (k:=0) (λi x hx=>by
         obtain⟨h1,h2⟩:=iB hm hid hx;exact⟨h1,λj c hj=>by simpa using h2 j c hj⟩) q c hq
        simpa using this)
       rw[hsz];exact⟨y,by simpa[Instr.loadAt,Instr.sureAddr] using hy,hr⟩
      .cases h
    .cases h
   .cases h
  .cases h
 .cases h
end
end Go.Ax
namespace Go.Ax
open Go
variable{j:Nat}{t:TypeId}{x:Value}{v p:AV}{cs:List AV}{vs:List Value}{sh:Option Nat}
def UY:AV->Option AV
 | .ptr id i j=>some (.ptr id i j)
 | .ip v=>some (.ip v)
 | .fn (.func f) a b=>some (.fn (.func f) a b)
 | _=>none
def rS(P:Program)(t:TypeId)(f:Nat)(p:AV):Option AV:=
 match P.underlying t with
 | some (.struct fs)=>match fs[f]? with
  | some fd=>match iI P fd.type with
   | some (_+1)=>match p with
    | .ptr id i j=>some (.ptr id i (j+fd.offset))
    | .ip u=>match GS P fd.type with
     | some sh=>match sub sh u.cells fd.offset with
      | some v=>some (.ip v)
      | none=>none
     | none=>none
    | _=>none
   | _=>none
  | none=>none
 | _=>none
def Fh(P:Program)(t:TypeId)(f:Nat)(v:AV):Option AV:=
 match P.underlying t with
 | some (.struct fs)=>match fs[f]? with
  | some fd=>match v with
   | .agg cs=>match GS P fd.type with
    | some sh=>sub sh cs fd.offset
    | none=>none
   | _=>none
  | none=>none
 | _=>none
def Ej(mem:aP)(id i j sz:Nat):Bool:=
 match j with
 | 0=>match lk mem id with
  | some (.row _ _ xs)=>match xs[i]? with
   | some x=>Nat.beq x.cells.length sz
   | none=>false
  | _=>false
 | _+1=>false
def rU(P:Program)(mem:aP)(t:TypeId)(p ix:AV):Option AV:=
 match ix with
 | .int _ n=>match decide (0<=n) with
  | true=>match P.underlying t with
   | some (.slice e)=>match iI P e with
    | some sz=>match p with
     | .sl id off len=>match lk mem id with
      | some (.row _ _ xs)=>match Nat.blt n.toNat len with
       | true=>match xs[off+n.toNat]? with
        | some x=>match Nat.beq x.cells.length sz with
         | true=>some (.ptr id (off+n.toNat) 0)
         | false=>none
        | none=>none
       | false=>none
      | _=>none
     | .il sz' xs=>match xs[n.toNat]? with
      | some x=>match Nat.beq sz sz' with
       | true=>some (.ip x)
       | false=>none
      | none=>none
     | _=>none
    | none=>none
   | some (.array m e)=>match iI P e,GS P e with
    | some sz,some sh=>match Nat.blt n.toNat m with
     | true=>match p with
      | .ptr id i j=>match Ej mem id i j sz with
       | true=>some (.ptr id (i+n.toNat) 0)
       | false=>some (.ptr id i (j+n.toNat*sz))
      | .ip u=>match sub sh u.cells (n.toNat*sz) with
       | some v=>some (.ip v)
       | none=>none
      | _=>none
     | false=>none
    | _,_=>none
   | _=>none
  | false=>none
 | _=>none
def Eh(P:Program)(t:TypeId)(v ix:AV):Option AV:=
 match ix with
 | .int _ n=>match decide (0<=n) with
  | true=>match P.underlying t with
   | some .string=>match v with
    | .str s=>match s[n.toNat]? with
     | some b=>some (.int .u8 (b.toNat:Int))
     | none=>none
    | _=>none
   | some (.array m e)=>match v with
    | .agg cs=>match Nat.blt n.toNat m with
     | true=>match iI P e,GS P e with
      | some sz,some sh=>sub sh cs (n.toNat*sz)
      | _,_=>none
     | false=>none
    | _=>none
   | _=>none
  | false=>none
 | _=>none
section
variable {P:Program} {Z:List (Nat × AV)} {X:Nat->Prop} {C:Nat->dP} {D:Nat->Prop} {O:Nat->Prop} {mem:aP} {w:World}
theorem CW(h:sub sh cs j=some v)(i:Nat)(c:AV)(hc:v.cells[i]? = some c):cs[j+i]? = some c:=by
 cases sh with
 | none=>
  simp only[sub] at h;split at h
  .rename_i u hu;obtain⟨rfl,hf⟩:=Fv h;rw[hf] at hc;cases i with
   | zero=>simp at hc;subst hc;exact hu
   | succ i=>simp at hc
  .cases h
 | some n=>
  simp only[sub] at h;split at h
  .cases h;simp only[AV.cells] at hc;rw[aAL] at hc;split at hc
   .rw[aAV] at hc;exact hc
   .cases hc
  .cases h
theorem NY(h:sub sh cs j=some v):v.cells.length=sh.getD 1:=by
 cases sh with
 | none=>
  simp only[sub] at h;split at h
  .obtain⟨rfl,hf⟩:=Fv h;rw[hf];rfl
  .cases h
 | some n=>
  simp only[sub] at h;split at h
  .rename_i hl;cases h;exact Nat.eq_of_beq_eq_true hl
  .cases h
theorem RT{u:AV}(h:VR C D O w (.ip u) x)(hv:sub sh u.cells j=some v):
  ∃b off,x = .pointer (some ⟨b,off,none⟩)/\VR C D O w (.ip v) (.pointer (some ⟨b,off+j,none⟩)):=by
 cases h with
 | ip _ b off f h1 h2=>
  refine⟨b,off,rfl,.ip v b (off+j) (λi=>f (j+i)) (λi c hc=>?_) (λi c hc=>?_)⟩
  .have:=h1 (j+i) c (CW hv i c hc);exact⟨this.1,by rw[Nat.add_assoc];exact this.2.1,this.2.2⟩
  .exact h2 (j+i) c (CW hv i c hc)
theorem Fb(h:UY p=some v)(hx:VR C D O w p x)(o:Oper)(f:Operand->Value)(y:Operand)(ho:o.op = .nilCheck y)(hy:f y=x):
  (execOp f o).run P w = .ok (.value x) w/\VR C D O w v x:=by
 unfold UY at h;split at h<;>first|cases h|skip
 all_goals
  cases hx;refine⟨by simp[execOp,ho,hy], ?_⟩
 .exact .ptr _ _ _ (by assumption)
 .exact .ip _ _ _ _ (by assumption) (by assumption)
 .exact .fn _ _ _ _ _ (by assumption) (by assumption) (by assumption) (by assumption)
theorem t7{f:Nat}(h:rS P t f p=some v)(hx:VR C D O w p x):
  ∃y,(Instr.fieldAt t x f).run P w = .ok y w/\VR C D O w v y:=by
 unfold rS at h;split at h
 .rename_i fs hu;split at h
  .rename_i fd hfd;split at h
   .rename_i n hn;have hrun:=iX (w:=w) hn;split at h
    .rename_i id i j;cases h;cases hx;refine⟨.pointer (some ⟨(C id).b,i*(C id).sz+j+fd.offset,none⟩), ?_, ?_⟩
     .simp[Instr.fieldAt,run_underlying hu,hfd,Instr.sureAddr,fieldPlace,hrun,Addr.add_lit]
     .rw[Nat.add_assoc];exact .ptr id i (j+fd.offset) (by assumption)
    .rename_i u;split at h
     .rename_i sh hsh;split at h
      .rename_i v' hv';cases h;obtain⟨b,off,rfl,hr⟩:=RT hx hv';exact⟨_,by simp[Instr.fieldAt,run_underlying hu,hfd,Instr.sureAddr,fieldPlace,hrun,Addr.add_lit],hr⟩
      .cases h
     .cases h
    .cases h
   .cases h
  .cases h
 .cases h
theorem xB(hsh:GS P t=some sh)(hv:sub sh cs j=some v)(hc:L4 C D O w cs vs):
  ∃x,(part t vs.toArray j).run P w = .ok x w/\VR C D O w v x:=by
 obtain⟨hag,hsz⟩:=HN (w:=w) hsh;cases sh with
 | none=>
  simp only[sub] at hv;split at hv
  .rename_i c hcj;obtain⟨rfl,_⟩:=Fv hv;have hlt:j<vs.length:=by
    rw[<-hc.1.1];rcases aAr j cs.length with h|h
    .exact h
    .rw[aAs h] at hcj;cases hcj
   exact⟨vs[j],by simp[part,hag,hlt],hc.1.2 j c _ hcj (by simp[hlt])⟩
  .cases hv
 | some n=>
  have hlen:=NY hv;simp only[sub] at hv;split at hv
  .cases hv;refine⟨.agg (vs.toArray.extract j (j+n)),by simp[part,hag,hsz n rfl], ?_⟩;have e:vs.toArray.extract j (j+n)=((vs.drop j).take n).toArray:=by
    simp[List.extract_toArray,List.extract_eq_take_drop]
   rw[e];refine L4.agg ⟨⟨?_,λi c x h1 h2=>?_⟩,λx hx=>hc.2 x (aAX (aAI hx))⟩
   .simp[hc.1.1]
   .rw[aAL] at h1 h2;split at h1
    .rename_i hi;rw[aAh hi] at h2;rw[aAV] at h1 h2;exact hc.1.2 _ c x h1 h2
    .cases h1
  .cases hv
theorem BO{f:Nat}(h:Fh P t f p=some v)(hx:VR C D O w p x):
  ∃y,(Instr.field t x f).run P w = .ok y w/\VR C D O w v y:=by
 unfold Fh at h;split at h
 .rename_i fs hu;split at h
  .rename_i fd hfd;split at h
   .rename_i cs;split at h
    .rename_i sh hsh;obtain⟨vs,rfl,hvs⟩:=hx.agg_inv;obtain⟨y,hy,hr⟩:=xB (w:=w) hsh h hvs;exact⟨y,by simp[Instr.field,run_underlying hu,hfd,asAgg,hy],hr⟩
    .cases h
   .cases h
  .cases h
 .cases h
end
end Go.Ax
namespace Go.Ax
open Go
variable{i j sz id:Nat}{t:TypeId}{x y:Value}{v a p:AV}{op:BinOp}
section
variable {P:Program} {Z:List (Nat × AV)} {X:Nat->Prop} {C:Nat->dP} {D:Nat->Prop} {O:Nat->Prop} {mem:aP} {w:World}
theorem DW(hm:MR Z X C D mem w)(h:Ej mem id i j sz=true):j=0/\(C id).sz=sz:=by
 unfold Ej at h;split at h
 .split at h
  .rename_i hid;split at h
   .rename_i hx;exact⟨rfl,by rw[<-(iB hm hid hx).1];exact Nat.eq_of_beq_eq_true h⟩
   .cases h
  .cases h
 .cases h
theorem tT(hm:MR Z X C D mem w){t:TypeId}{p ix v:AV}{x y:Value}(h:rU P mem t p ix=some v)
  (hx:VR C D (OX X C mem) w p x) (hy:VR C D (OX X C mem) w ix y) :
  ∃z,(Instr.indexAt t x y).run P w = .ok z w/\VR C D (OX X C mem) w v z:=by
 unfold rU at h;split at h
 .rename_i k n;cases hy;split at h
  .rename_i hn;have hn:0<=n:=aAY hn;split at h
   .rename_i e hu;split at h
    .rename_i sz hsz;have hrun:=iX (w:=w) hsz;split at h
     .rename_i id off len;split at h
      .rename_i t' sz0 xs hid;split at h
       .rename_i hlt;have hlt:n.toNat<len:=aAi hlt;split at h
        .rename_i u hu';split at h
         .rename_i hl;have hl:=Nat.eq_of_beq_eq_true hl;cases h;have hz:=(iB hm hid hu').1;rw[hl] at hz;have hlt':n<(len:Int):=om;cases hx with
          | sl _ _ _ cap hid' h1 h2=>
           refine⟨.pointer (some ⟨(C id).b,off*(C id).sz+n.toNat*sz,none⟩), ?_, ?_⟩
           .simp[Instr.indexAt,asIntOf,run_underlying hu,hn,hlt',hrun,Addr.add_lit]
           .have e:off*(C id).sz+n.toNat*sz=(off+n.toNat)*(C id).sz+0:=by rw[hz,Nat.add_mul];omega
            rw[e];exact .ptr id _ 0 hid'
          | slz _ _ a a' hid'=>omega
          | slzn _ _ hid'=>omega
         .cases h
        .cases h
       .cases h
      .cases h
     .rename_i sz' xs;split at h
      .rename_i u hu';split at h
       .rename_i hl;have hl:=Nat.eq_of_beq_eq_true hl;subst hl;cases h;have hlt:n.toNat<xs.length:=by
         rcases aAr n.toNat xs.length with h|h
         .exact h
         .rw[aAs h] at hu';cases hu'
        have hlt':n<(xs.length:Int):=om;cases hx with
        | il _ _ b off cap f h0 h1 h2 h3=>
         refine⟨.pointer (some ⟨b,off+n.toNat*sz,none⟩), ?_, ?_⟩
         .simp[Instr.indexAt,asIntOf,run_underlying hu,hn,hlt',hrun,Addr.add_lit]
         .refine .ip _ b _ (λj=>f n.toNat j) (λj c hc=>?_) (λj c hc=>h3 _ _ j c hu' hc);have:=h2 _ _ j c hu' hc;exact⟨this.1,by rw[Nat.add_assoc];exact this.2.1,this.2.2⟩
        | iln=>simp at hlt
       .cases h
      .cases h
     .cases h
    .cases h
   .rename_i m e hu;split at h
    .rename_i sz sh hsz hsh;have hrun:=iX (w:=w) hsz;split at h
     .rename_i hlt;have hlt:n.toNat<m:=aAi hlt;have hlt':n<(m:Int):=om;split at h
      .rename_i id i j;cases hx;refine⟨.pointer (some ⟨(C id).b,i*(C id).sz+j+n.toNat*sz,none⟩), ?_, ?_⟩
       .simp[Instr.indexAt,asIntOf,run_underlying hu,Instr.sureAddr,hn,hlt',hrun,Addr.add_lit]
       .split at h
        .rename_i he;cases h;obtain⟨rfl,hz⟩:=DW hm he;have e:i*(C id).sz+0+n.toNat*sz=(i+n.toNat)*(C id).sz+0:=by rw[hz,Nat.add_mul];omega
         rw[e];exact .ptr id _ 0 (by assumption)
        .cases h;rw[Nat.add_assoc];exact .ptr id i _ (by assumption)
      .rename_i u;split at h
       .rename_i v' hv';cases h;obtain⟨b,off,rfl,hr⟩:=RT hx hv';exact⟨_,by simp[Instr.indexAt,asIntOf,run_underlying hu,Instr.sureAddr,hn,hlt',hrun,Addr.add_lit],hr⟩
       .cases h
      .cases h
     .cases h
    .cases h
   .cases h
  .cases h
 .cases h
theorem BQ{ix:AV}(h:Eh P t p ix=some v)(hx:VR C D O w p x)(hy:VR C D O w ix y):
  ∃z,(Instr.index t x y).run P w = .ok z w/\VR C D O w v z:=by
 unfold Eh at h;split at h
 .rename_i k n;cases hy;split at h
  .rename_i hn;have hn:0<=n:=aAY hn;split at h
   .rename_i hu;split at h
    .rename_i s;split at h
     .rename_i b hb;cases h;cases hx;refine⟨.int .u8 (b.toNat:Int), ?_,.int _ _⟩;have hlt:n.toNat<s.length:=by
       rcases aAr n.toNat s.length with h|h
       .exact h
       .rw[aAs h] at hb;cases hb
      have hb':(⟨s.toArray⟩:ByteArray)[n.toNat]? = some b:=by
       rw[ByteArray.getElem?_lt' (⟨s.toArray⟩:ByteArray) n.toNat (by simpa[ByteArray.size] using hlt)];rw[aAa hlt] at hb;exact hb
      simp[Instr.index,asIntOf,run_underlying hu,hn,hb']
     .cases h
    .cases h
   .rename_i m e hu;split at h
    .rename_i cs;split at h
     .rename_i hlt;have hlt:n.toNat<m:=aAi hlt;have hlt':n<(m:Int):=om;split at h
      .rename_i sz sh hsz hsh;obtain⟨vs,rfl,hvs⟩:=hx.agg_inv;obtain⟨z,hz,hr⟩:=xB (w:=w) hsh h hvs;exact⟨z,by simp[Instr.index,asIntOf,run_underlying hu,hn,hlt',iX hsz,hz],hr⟩
      .cases h
     .cases h
    .cases h
   .cases h
  .cases h
 .cases h
end
def GA(op:BinOp)(k:IntKind)(x y:Int):Option AV:=
 match op with
 | .add=>some (.int k (k.wrap (x+y)))
 | .sub=>some (.int k (k.wrap (x-y)))
 | .mul=>some (.int k (k.wrap (x*y)))
 | .quo=>match decide (y=0) with
  | true=>none
  | false=>some (.int k (k.wrap (x.tdiv y)))
 | .rem=>match decide (y=0) with
  | true=>none
  | false=>some (.int k (x.tmod y))
 | .and=>some (.int k (bits .and k x y))
 | .or=>some (.int k (bits .or k x y))
 | .xor=>some (.int k (bits .xor k x y))
 | .andNot=>some (.int k (bits .andNot k x y))
 | .eql=>some (.bool (x == y))
 | .neq=>some (.bool (x != y))
 | .lss=>some (.bool (decide (x<y)))
 | .leq=>some (.bool (decide (x<=y)))
 | .gtr=>some (.bool (decide (x>y)))
 | .geq=>some (.bool (decide (x≥y)))
 | _=>none
def FZ(op:BinOp)(x y:List UInt8):Option AV:=
 match op with
 | .add=>match decide ((x.length:Int)+y.length<=9223372036854775807) with
  | true=>some (.str (x++y))
  | false=>none
 | .eql=>some (.bool (x == y))
 | .neq=>some (.bool (!(x == y)))
 | .lss=>some (.bool (Op.bytesLess x y))
 | .leq=>some (.bool (Op.bytesLess x y || x == y))
 | .gtr=>some (.bool (!(Op.bytesLess x y || x == y)))
 | .geq=>some (.bool (!(Op.bytesLess x y)))
 | _=>none
def CI(op:BinOp)(k:IntKind)(x y:Int):Option AV:=
 match decide (y<0) with
 | true=>none
 | false=>match op with
  | .shl=>some (.int k (k.wrap (x*2 ^ (min y.toNat k.bits))))
  | .shr=>some (.int k (x.fdiv (2 ^ (min y.toNat k.bits))))
  | _=>none
def JK(P:Program)(t:TypeId)(x y:AV):Option Bool:=
 match P.underlying t with
 | some (.int _)=>match x,y with
  | .int k a,.int k' b=>match decide (k=k') with
   | true=>some (a == b)
   | false=>none
  | _,_=>none
 | some .string=>match x,y with
  | .str a,.str b=>some (a == b)
  | _,_=>none
 | some .bool=>match x,y with
  | .bool a,.bool b=>some (a == b)
  | _,_=>none
 | _=>none
def P3(P:Program)(lit:Bool)(t:TypeId)(x y:AV):Option Bool:=
 match P.underlying t with
 | some .bool=>match x,y with
  | .bool a,.bool b=>some (a == b)
  | _,_=>none
 | some (.pointer e)=>match x,y with
  | .nptr,.nptr=>some true
  | .nptr,.ptr _ _ _=>some false
  | .nptr,.ip _=>some false
  | .ptr _ _ _,.nptr=>some false
  | .ip _,.nptr=>some false
  | .ptr i j k,.ptr i' j' k'=>match P.info? e with
   | some _=>match Nat.beq i i' && (Nat.beq j j' && Nat.beq k k') with
    | true=>some true
    | false=>none
   | none=>none
  | _,_=>none
 | some (.slice _)=>match x,y with
  | .nsl,.nsl=>some true
  | .sl _ _ (_+1),.nsl=>some false
  | .nsl,.sl _ _ (_+1)=>some false
  | .il _ (_::_),.nsl=>some false
  | .nsl,.il _ (_::_)=>some false
  | _,_=>none
 | some (.map _ _)=>match x,y with
  | .nmap,.nmap=>some true
  | .mp _,.nmap=>some false
  | .nmap,.mp _=>some false
  | _,_=>none
 | some (.func _ _ _)=>match x,y with
  | .nfn,.nfn=>some true
  | .fn _ _ _,.nfn=>some false
  | .nfn,.fn _ _ _=>some false
  | _,_=>none
 | some (.interface _)=>match x,y with
  | .nif,.nif=>match lit with
   | true=>some true
   | false=>none
  | .nif,.ifc _ _=>some false
  | .ifc _ _,.nif=>some false
  | .ifc t1 v1,.ifc t2 v2=>match Nat.beq t1 t2 with
   | false=>some false
   | true=>match P.info? t1 with
    | some i=>match i.comparable with
     | true=>JK P t1 v1 v2
     | false=>none
    | none=>none
  | _,_=>none
 | _=>none
def Ut(P:Program)(xs ys:List AV):List Field->Option Bool
 | []=>some true
 | f::r=>match f.name == "_" with
  | true=>none
  | false=>match GS P f.type with
   | some sh=>match sub sh xs f.offset with
    | some x=>match sub sh ys f.offset with
     | some y=>match JK P f.type x y with
      | some b=>match Ut P xs ys r with
       | some c=>some (b && c)
       | none=>none
      | none=>none
     | none=>none
    | none=>none
   | none=>none
def Hz(P:Program)(t:TypeId)(xs ys:List AV):Option Bool:=
 match P.underlying t with
 | some (.struct fs)=>match P.stoodInHeld t with
  | false=>Ut P xs ys fs.toList
  | true=>none
 | _=>none
def nV:Operand->Bool
 | .const _=>true
 | _=>false
def SS(P:Program)(op:BinOp)(t:TypeId)(xo yo:Operand)(x y:AV):Option AV:=
 match x,y with
 | .int k a,.int k' b=>match op with
  | .shl=>CI .shl k a b
  | .shr=>CI .shr k a b
  | _=>match decide (k=k') with
   | true=>GA op k a b
   | false=>none
 | .str a,.str b=>FZ op a b
 | .agg a,.agg b=>match P.eqGuardType P.depth t with
  | false=>match op with
   | .eql=>match Hz P t a b with
    | some r=>some (.bool r)
    | none=>none
   | .neq=>match Hz P t a b with
    | some r=>some (.bool (!r))
    | none=>none
   | _=>none
  | true=>none
 | _,_=>match op with
  | .eql=>match P3 P (nV xo || nV yo) t x y with
   | some b=>some (.bool b)
   | none=>none
  | .neq=>match P3 P (nV xo || nV yo) t x y with
   | some b=>some (.bool (!b))
   | none=>none
  | _=>none
section
variable {P:Program} {C:Nat->dP} {D:Nat->Prop} {O:Nat->Prop} {w:World}
theorem Iq{k:IntKind}{x y:Int}(h:GA op k x y=some v)(t:TypeId):
  ∃z,(binOp op t (.int k x) (.int k y)).run P w = .ok z w/\VR C D O w v z:=by
 cases op<;>simp only[GA] at h<;>first|(cases h;done)|skip
 all_goals first
  | (cases h;refine⟨_, ?_,VR.int _ _⟩;simp[binOp,Op.intArith,intBits_and,intBits_or,intBits_xor,intBits_andNot];done)
  | (cases h;refine⟨_, ?_,VR.bool _⟩;simp[binOp,Op.intCmp];done)
  | (split at h<;>first|(cases h;done)|(rename_i hd;cases h;refine⟨_, ?_,VR.int _ _⟩;simp[binOp,Op.intDiv,aBA hd]))
theorem IR{x y:List UInt8}(h:FZ op x y=some v)(t:TypeId):
  ∃z,(binOp op t (.string ⟨x.toArray⟩) (.string ⟨y.toArray⟩)).run P w = .ok z w/\VR C D O w v z:=by
 cases op<;>simp only[FZ] at h<;>first|(cases h;done)|skip
 case add=>
  split at h
  .rename_i hd;cases h;have hd:=aAY hd;refine⟨_, ?_,VR.str _⟩;have e:(⟨x.toArray⟩:ByteArray)++⟨y.toArray⟩=⟨(x++y).toArray⟩:=by
    rw[<-Lib.mk_data ((⟨x.toArray⟩:ByteArray)++⟨y.toArray⟩)];congr 1
   simp[binOp,Op.stringOp,ByteArray.size,e];exact hd
  .cases h
 all_goals (cases h;refine⟨_, ?_,VR.bool _⟩;simp[binOp,Op.stringOp])
theorem A0{k k':IntKind}{x y:Int}(h:CI op k x y=some v)(t:TypeId):
  ∃z,(binOp op t (.int k x) (.int k' y)).run P w = .ok z w/\VR C D O w v z:=by
 unfold CI at h;split at h
 .cases h
 .rename_i hd;have hd:=aBA hd;split at h<;>first|(cases h;done)|skip
  all_goals
   cases h;refine⟨_, ?_,VR.int _ _⟩;simp[binOp,Op.shift,hd]
theorem AM{b:AV}{r:Bool}(h:JK P t a b=some r)(hx:VR C D O w a x)(hy:VR C D O w b y)(d:Nat):(Op.equalIn (d+1) t x y).run P w = .ok r w:=by
 unfold JK at h;split at h
 .rename_i hu;split at h
  .split at h
   .rename_i hk;have hk:=aAY hk;subst hk;cases h;cases hx;cases hy;exact run_equalIn_int w d t _ _ _ _ hu
   .cases h
  .cases h
 .rename_i hu;split at h
  .cases h;cases hx;cases hy;rw[run_equalIn_string w d t _ _ hu,ByteArray.toList_eq,ByteArray.toList_eq]
  .cases h
 .rename_i hu;split at h
  .cases h;cases hx;cases hy;exact run_equalIn_bool' w d t _ _ hu
  .cases h
 .cases h
theorem Jy{e:TypeId}{i:TypeInfo}(hu:P.underlying t=some (.pointer e))(hi:P.info? e=some i)(a:Addr):(Op.equal t (.pointer (some a)) (.pointer (some a))).run P w = .ok true w:=by
 show (Op.equalIn (9999+1) t _ _).run P w=_
 rw[Op.equalIn,Sem.run_bind,run_underlying hu];simp only[Result.andThen_ok];have hs:(sizeOf e).run P w = .ok i.size w:=by simp[sizeOf,typeInfo,hi]
 rw[Sem.run_bind,hs];simp only[Result.andThen_ok];split
 .simp[sameAddr]
 .simp
theorem HT{lit:Bool}{b:AV}{r:Bool}(h:P3 P lit t a b=some r)(hx:VR C D O w a x)(hy:VR C D O w b y):
    (Op.equal t x y).run P w = .ok r w/\∀(op:BinOp) (xo yo:Operand),lit=(nV xo || nV yo)->eqGuard op t xo yo x y=pure ():=by
  by_cases hpp:∃i j k i' j' k',a = .ptr i j k/\b = .ptr i' j' k'
  · obtain⟨i,j,k,i',j',k',rfl,rfl⟩:=hpp
    unfold P3 at h;split at h<;>first|(cases h;done)|skip
    rename_i e hu;simp only at h;split at h<;>first|(cases h;done)|skip
    rename_i inf hi;split at h<;>first|(cases h;done)|skip
    rename_i hc;cases h;simp only[aAd] at hc;obtain⟨c1,c2,c3⟩:=hc;have c1:=Nat.eq_of_beq_eq_true c1;have c2:=Nat.eq_of_beq_eq_true c2;have c3:=Nat.eq_of_beq_eq_true c3;subst c1 c2 c3;cases hx;cases hy;refine⟨Jy hu hi _,λop xo yo _=>?_⟩;cases op<;>rfl
  by_cases hii:∃t1 v1 t2 v2,a = .ifc t1 v1/\b = .ifc t2 v2
  · obtain⟨t1,v1,t2,v2,rfl,rfl⟩:=hii
    unfold P3 at h;split at h<;>first|(cases h;done)|skip
    rename_i ms hu;simp only at h;cases hx with
    | ifc _ _ x1 hx1=>
      cases hy with
      | ifc _ _ y1 hy1=>
        refine⟨?_,λop xo yo _=>by cases op<;>rfl⟩
        show (Op.equalIn (9999+1) t _ _).run P w=_
        rw[Op.equalIn,Sem.run_bind,run_underlying hu];simp only[Result.andThen_ok];split at h
        · rename_i hne
          cases h;have hne:t1≠t2:=aBj hne;simp[hne]
        · rename_i he
          have he:=Nat.eq_of_beq_eq_true he;subst he;split at h<;>first|(cases h;done)|skip
          rename_i inf hi;split at h<;>first|(cases h;done)|skip
          rename_i hcmp;have h1:=AM (P:=P) (w:=w) h hx1 hy1 9998;simp[typeInfo,hi,hcmp];exact h1
  unfold P3 at h;split at h<;>first|(cases h;done)|skip
  all_goals rename_i hu
  all_goals
    split at h<;>first|(cases h;done)|(exact absurd ⟨_,_,_,_,_,_,rfl,rfl⟩ hpp)|(exact absurd ⟨_,_,_,_,rfl,rfl⟩ hii)|skip
  all_goals first|(split at h<;>first|(cases h;done)|skip)|skip
  all_goals
    cases h;cases hx<;>cases hy<;>first
      | (refine⟨by show (Op.equalIn (9999+1) t _ _).run P w=_;rw[Op.equalIn,Sem.run_bind,run_underlying hu];rfl,λop xo yo _=>?_⟩
         cases op<;>rfl)
      | (refine⟨by show (Op.equalIn (9999+1) t _ _).run P w=_;rw[Op.equalIn,Sem.run_bind,run_underlying hu];rfl,λop xo yo hl=>?_⟩
         cases op<;>cases xo<;>cases yo<;>first|rfl|(simp[nV] at hl))
theorem EZ{xs ys:List AV}{vs us:List Value}(hx:L4 C D O w xs vs)(hy:L4 C D O w ys us)(d:Nat):∀{fs:List Field} {r:Bool},Ut P xs ys fs=some r->(Op.eqFields (d+1) vs.toArray us.toArray fs).run P w = .ok r w
 | [],r,h=>by cases h;simp[Op.eqFields]
 | f::fs,r,h=>by
  simp only[Ut] at h;split at h
  .cases h
  .rename_i hn;have hn:f.name≠"_" :=su hn
   split at h
   .rename_i sh hsh;split at h
    .rename_i x hx1;split at h
     .rename_i y hy1;split at h
      .rename_i b hb;split at h
       .rename_i c hc;cases h;obtain⟨z1,p1,q1⟩:=xB (w:=w) hsh hx1 hx;obtain⟨z2,p2,q2⟩:=xB (w:=w) hsh hy1 hy;have e:=AM (P:=P) hb q1 q2 d;have ih:=EZ hx hy d hc;rw[Op.eqFields,aAh hn,Sem.run_bind,p1,Result.andThen_ok,Sem.run_bind,p2,Result.andThen_ok,Sem.run_bind,e,Result.andThen_ok,Sem.run_ite];cases b
        .simp
        .simpa using ih
       .cases h
      .cases h
     .cases h
    .cases h
   .cases h
theorem Ac{a b:List AV}{r:Bool}(h:Hz P t a b=some r)(hx:VR C D O w (.agg a) x)(hy:VR C D O w (.agg b) y):(Op.equal t x y).run P w = .ok r w/\∃xs ys,x = .agg xs/\y = .agg ys:=by
 unfold Hz at h;split at h
 .rename_i fs hu;split at h
  .rename_i hs;obtain⟨vs,rfl,hvs⟩:=hx.agg_inv;obtain⟨us,rfl,hus⟩:=hy.agg_inv;have hf:P.fieldsOf t=fs:=by simp[Program.fieldsOf,hu]
   refine⟨?_,_,_,rfl,rfl⟩
   show (Op.equalIn (9999+1) t _ _).run P w=_
   rw[run_equalIn_struct w 9999 t _ _ (by rw[hf];exact hu) hs,hf];exact EZ hvs hus 9998 h
  .cases h
 .cases h
theorem Ef{xo yo:Operand}{b:AV}(h:SS P op t xo yo a b=some v)(hx:VR C D O w a x)(hy:VR C D O w b y):
  ∃z,(do eqGuard op t xo yo x y;binOp op t x y).run P w = .ok z w/\VR C D O w v z:=by
 unfold SS at h;split at h
 .rename_i k p k' q;cases hx;cases hy;have g:∀op,eqGuard op t xo yo (.int k p) (.int k' q)=pure ():=λop=>by cases op<;>rfl
  rw[g];split at h
  .obtain⟨z,hz,hr⟩:=A0 (P:=P) (C:=C) (D:=D) (O:=O) (w:=w) (k':=k') h t;exact⟨z,su hz,hr⟩
  .obtain⟨z,hz,hr⟩:=A0 (P:=P) (C:=C) (D:=D) (O:=O) (w:=w) (k':=k') h t;exact⟨z,su hz,hr⟩
  .split at h
   .rename_i hk;have hk:=aAY hk;subst hk;obtain⟨z,hz,hr⟩:=Iq (P:=P) (C:=C) (D:=D) (O:=O) (w:=w) h t;exact⟨z,su hz,hr⟩
   .cases h
 .cases hx;cases hy;have g:∀op p q,eqGuard op t xo yo (.string p) (.string q)=pure ():=λop p q=>by cases op<;>rfl
  rw[g];obtain⟨z,hz,hr⟩:=IR (P:=P) (C:=C) (D:=D) (O:=O) (w:=w) h t;exact⟨z,su hz,hr⟩
 .split at h
  .rename_i hg;split at h
   .split at h
    .rename_i r he;cases h;obtain⟨h1,xs,ys,rfl,rfl⟩:=Ac he hx hy;refine⟨.bool r, ?_,.bool _⟩;rw[Sem.run_bind,run_eqGuard_agg w _ _ _ _ _ _ hg,Result.andThen_ok,run_eql_struct];have h1:(Op.equalIn 10000 t (.agg xs) (.agg ys)).run P w = .ok r w:=h1;rw[h1];rfl
    .cases h
   .split at h
    .rename_i r he;cases h;obtain⟨h1,xs,ys,rfl,rfl⟩:=Ac he hx hy;refine⟨.bool (!r), ?_,.bool _⟩;rw[Sem.run_bind,run_eqGuard_agg w _ _ _ _ _ _ hg,Result.andThen_ok,run_neq_struct];have h1:(Op.equalIn 10000 t (.agg xs) (.agg ys)).run P w = .ok r w:=h1;rw[h1];rfl
    .cases h
   .cases h
  .cases h
 .rename_i hni hns hna;have nint:∀k n k' n',x = .int k n->y = .int k' n'->False:=by
   intro k n k' n' e1 e2;subst e1 e2;cases hx<;>cases hy<;>first|exact hni _ _ _ _ rfl rfl|skip
   all_goals (split at h<;>first|(cases h;done)|skip)
   all_goals (split at h<;>first|(cases h;done)|skip)
   all_goals (rename_i he;unfold P3 at he;split at he<;>first|(cases he;done)|(split at he<;>cases he))
  split at h
  .split at h
   .rename_i r he;cases h;obtain⟨h1,h2⟩:=HT he hx hy;rw[h2 _ _ _ rfl];refine⟨.bool r, ?_,.bool _⟩;have e:binOp .eql t x y=(do let r <-Op.equal t x y;pure (.bool r)):=by
     unfold P3 at he;split at he<;>first|(cases he;done)|skip
     all_goals (split at he<;>first|(cases he;done)|skip)
     all_goals (cases hx<;>cases hy<;>rfl)
    rw[e];simp[h1]
   .cases h
  .split at h
   .rename_i r he;cases h;obtain⟨h1,h2⟩:=HT he hx hy;rw[h2 _ _ _ rfl];refine⟨.bool (!r), ?_,.bool _⟩;have e:binOp .neq t x y=(do let r <-Op.equal t x y;pure (.bool (!r))):=by
     unfold P3 at he;split at he<;>first|(cases he;done)|skip
     all_goals (split at he<;>first|(cases he;done)|skip)
     all_goals (cases hx<;>cases hy<;>rfl)
    rw[e];simp[h1]
   .cases h
  .cases h
end
end Go.Ax
namespace Go.Ax
open Go
variable{j:Nat}{x:Value}{v a:AV}{cs:List AV}{vs:List Value}
def Yy(op:UnOp)(x:AV):Option AV:=
 match op,x with
 | .neg,.int k n=>some (.int k (k.wrap (0-n)))
 | .not,.bool b=>some (.bool (!b))
 | _,_=>none
def gB:List AV->Option (List UInt8)
 | []=>some []
 | .int .u8 n::r=>match gB r with
  | some l=>some (UInt8.ofNat n.toNat::l)
  | none=>none
 | _=>none
def T8(P:Program)(mem:aP)(d:TypeDesc)(x:AV):Option AV:=
 match d with
 | .pointer t=>match x with
  | .ptr id i j=>match lk mem id with
   | some (.row _ sz xs)=>match P.info? t with
    | some inf=>match Nat.blt 0 inf.size && (Nat.blt i xs.length && Nat.blt j sz) with
     | true=>some (.ptr id i j)
     | false=>none
    | none=>none
   | _=>none
  | _=>none
 | _=>none
def H5(P:Program)(mem:aP)(d:TypeDesc)(u:TypeId)(x:AV):Option AV:=
 match d with
 | .unsafePointer=>match x with
  | .ptr id i j=>match lk mem id with
   | some (.row t sz xs)=>match P.info? u with
    | some _=>match liesAt P P.depth t xs.length (i*sz+j) u 1 && (Nat.blt i xs.length && (Nat.blt j sz && Nat.beq sz (P.cellsOf t))) with
     | true=>some (.ptr id i j)
     | false=>none
    | none=>none
   | _=>none
  | _=>none
 | _=>none
def Ee(P:Program)(mem:aP)(src dst:TypeId)(x:AV):Option AV:=
 match P.underlying src with
 | none=>none
 | some d=>match P.underlying dst with
  | some (.int k)=>match x with
   | .int _ n=>some (.int k (k.wrap n))
   | _=>none
  | some .string=>match x with
   | .str s=>some (.str s)
   | _=>match d with
    | .slice e=>match P.underlying e with
     | some (.int .u8)=>match x with
      | .nsl=>some (.str [])
      | .il sz xs=>match Nat.beq sz 1 with
       | true=>match gB xs with
        | some l=>some (.str l)
        | none=>none
       | false=>none
      | .sl id off len=>match lk mem id with
       | some (.row _ _ xs)=>match Nat.ble (off+len) xs.length with
        | true=>match gB ((xs.drop off).take len) with
         | some l=>some (.str l)
         | none=>none
        | false=>none
       | _=>none
      | _=>none
     | _=>none
    | _=>none
  | some .unsafePointer=>T8 P mem d x
  | some (.pointer u)=>H5 P mem d u x
  | _=>none
def B2(x:AV)(i:Nat):Option AV:=
 match x with
 | .tup vs=>vs[i]?
 | _=>none
def H7(P:Program)(t:TypeId)(x:AV):Option AV:=
 match P.concrete t with
 | true=>some (.ifc t x)
 | false=>none
def mX:AV->Bool
 | .tup _=>false
 | .junk=>false
 | _=>true
def A6(place:Nat->Option (Nat × Nat)):List AV->List (Nat × AV)->Option (List AV)
 | cells,[]=>some cells
 | cells,(i,v)::r=>match place i with
  | none=>none
  | some (off,size)=>match mX v && (Nat.beq v.cells.length size && Nat.ble (off+v.cells.length) cells.length) with
   | true=>A6 place (v.cells.zipIdx.foldl (λcs p=>cs.set (off+p.2) p.1) cells) r
   | false=>none
def y8(P:Program):List Field->Option (List (Nat × Nat))
 | []=>some []
 | f::r=>match iI P f.type with
  | some n=>match y8 P r with
   | some l=>some ((f.offset,n)::l)
   | none=>none
  | none=>none
def Ek(P:Program)(t:TypeId)(parts:List (Nat × AV)):Option AV:=
 match P.info? t with
 | some it=>match it.zero with
  | some z=>match Bz z with
   | some (.agg zs)=>match P.underlying t with
    | some (.array _ e)=>match iI P e with
     | some n=>match A6 (λi=>some (i*n,n)) zs parts with
      | some cs=>some (.agg cs)
      | none=>none
     | none=>none
    | some (.struct fs)=>match y8 P fs.toList with
     | some places=>match A6 (λi=>places[i]?) zs parts with
      | some cs=>some (.agg cs)
      | none=>none
     | none=>none
    | _=>none
   | _=>none
  | none=>none
 | none=>none
section
variable {P:Program} {Z:List (Nat × AV)} {X:Nat->Prop} {C:Nat->dP} {D:Nat->Prop} {O:Nat->Prop} {mem:aP} {w:World}
theorem HJ{op:UnOp}(h:Yy op a=some v)(hx:VR C D O w a x):
  ∃z,(Op.unary op x).run P w = .ok z w/\VR C D O w v z:=by
 unfold Yy at h;split at h<;>first|(cases h;done)|skip
 .cases h;cases hx;exact⟨_,by simp[Op.unary,Op.intArith],.int _ _⟩
 .cases h;cases hx;exact⟨_,by simp[Op.unary],.bool _⟩
theorem zU{msg:String}:∀{xs:List AV} {l:List UInt8} {vs:List Value},gB xs=some l->m9 C D O w xs vs ->
  ∀(s:ByteArray),(forIn vs s λc __s=>
     match c with
     | Value.int IntKind.u8 n=>(pure (ForInStep.yield (__s.push (UInt8.ofNat n.toNat))):Sem (ForInStep ByteArray))
     | _=>do
      stuck msg
      pure (ForInStep.yield __s)).run P w = .ok ⟨s.data++l.toArray⟩ w
 | [],l,vs,h,hv,s=>by
  have:vs=[]:=by have:=hv.1;simp at this;exact aAB this.symm
  subst this;simp[gB] at h;subst h;simp
 | a::xs,l,vs,h,hv,s=>by
  cases vs with
  | nil=>have:=hv.1;simp at this
  | cons v vs=>
   unfold gB at h;split at h
   .rename_i e;cases e
   .rename_i n r e;cases e;split at h
    .rename_i l' hl;cases h;have h0:=hv.2 0 _ v rfl rfl;cases h0;have hr:m9 C D O w xs vs:=⟨by have:=hv.1;simpa using this,λj c x h1 h2=>hv.2 (j+1) c x (su h1) (su h2)⟩
     have ih:=zU (msg:=msg) hl hr (s.push (UInt8.ofNat n.toNat));simp only[List.forIn_cons,pure_bind];rw[ih];simp[ByteArray.push]
    .cases h
   .cases h
theorem m9.set(h:m9 C D O w cs vs){c:AV}(hc:VR C D O w c x)(i:Nat):m9 C D O w (cs.set i c) (vs.set i x):=by
 refine⟨by simp[h.1],λj c' x' h1 h2=>?_⟩;rw[aBQ] at h1 h2;by_cases hij:i=j
 .subst hij;simp only[if_true] at h1 h2;split at h1
  .split at h2
   .cases h1;cases h2;exact hc
   .cases h2
  .cases h1
 .rw[aAe hij] at h1 h2;exact h.2 j c' x' h1 h2
theorem m9.sets{off:Nat}:∀{as:List AV} {xs:List Value} (_:m9 C D O w as xs) (k:Nat) {cs:List AV} {vs:List Value} (_:m9 C D O w cs vs),
  m9 C D O w ((as.zipIdx k).foldl (λcs p=>cs.set (off+p.2) p.1) cs) ((xs.zipIdx k).foldl (λcs p=>cs.set (off+p.2) p.1) vs)
 | [],xs,ha,k,cs,vs,h=>by
  have:xs=[]:=by have:=ha.1;simp at this;exact aAB this.symm
  subst this;exact h
 | a::as,xs,ha,k,cs,vs,h=>by
  cases xs with
  | nil=>have:=ha.1;simp at this
  | cons x xs=>
   simp only[aBI,aAy];exact m9.sets ⟨by have:=ha.1;simpa using this,λj c x h1 h2=>ha.2 (j+1) c x (su h1) (su h2)⟩ (k+1) (h.set (ha.2 0 a x rfl rfl) _)
theorem kW(off:Nat):∀(l:List (Value × Nat)) (A:Array Value),
  (l.foldl (λcs p=>cs.setIfInBounds (off+p.2) p.1) A).toList=l.foldl (λcs p=>cs.set (off+p.2) p.1) A.toList
 | [],A=>rfl
 | p::l,A=>by simp only[aAy];rw[kW off l];simp
theorem VR.cells_of(h:VR C D O w a x)(hj:mX a=true):L4 C D O w a.cells x.cells.toList:=by
 cases h
 case agg cs arr hl ho hr=>exact⟨⟨by simpa[AV.cells,Value.cells] using hl,λj c x h1 h2=>hr j c x h1 (by simpa[Value.cells] using h2)⟩,by simpa[Value.cells] using ho⟩
 case junk=>simp[mX] at hj
 case tup=>simp[mX] at hj
 all_goals exact⟨m9.cons (by constructor<;>assumption) .nil,by simp[Value.cells,Value.oneCell']⟩
theorem L4.get(h:L4 C D O w cs vs){c:AV}(hj:cs[j]? = some c):∃v,vs[j]? = some v/\v.oneCell'=true/\VR C D O w c v:=by
 have hlt:j<vs.length:=by
  rw[<-h.1.1];rcases aAr j cs.length with h'|h'
  .exact h'
  .rw[aAs h'] at hj;cases hj
 exact⟨vs[j],by simp[hlt],h.2 _ sq,h.1.2 j c _ hj (by simp[hlt])⟩
theorem K6{off:Nat}:∀(l:List (Value × Nat)) (L:List Value),(∀p∈l,p.1.oneCell'=true)->(∀x∈L,x.oneCell'=true) ->
  ∀x∈l.foldl (λcs p=>cs.set (off+p.2) p.1) L,x.oneCell'=true
 | [],L,h1,h2=>h2
 | p::l,L,h1,h2=>by
  simp only[aAy];refine K6 l _ (λq hq=>h1 q (aAo _ hq)) (λx hx=>?_);rcases aC6 hx with h|rfl
  .exact h2 x h
  .exact h1 p (aAv ..)
theorem x7{place:Nat->Option (Nat × Nat)}:∀{parts:List (Nat × AV)} {ps:List (Nat × Value)} {cells cs:List AV} {A:Array Value},
  A6 place cells parts=some cs->parts.length=ps.length ->
  (∀(j:Nat) (p:Nat × AV) (q:Nat × Value),parts[j]? = some p->ps[j]? = some q->p.1=q.1/\VR C D O w p.2 q.2) ->
  L4 C D O w cells A.toList->∃B:Array Value,Instr.fill place A ps=some B/\L4 C D O w cs B.toList
 | [],ps,cells,cs,A,h,hl,hp,hA=>by
  have:ps=[]:=by simp at hl;exact aAB hl.symm
  subst this;simp only[A6] at h;cases h;exact⟨A,rfl,hA⟩
 | (i,v)::r,ps,cells,cs,A,h,hl,hp,hA=>by
  cases ps with
  | nil=>simp at hl
  | cons q ps=>
   obtain⟨i',x⟩:=q;obtain⟨e,hv⟩:=hp 0 _ _ rfl rfl;simp only at e hv;subst e;simp only[A6] at h;split at h
   .cases h
   .rename_i off size hpl;split at h
    .rename_i hb;simp only[aAd] at hb;have h1:=Nat.eq_of_beq_eq_true hb.2.1;have h2:=aAi hb.2.2;have hc:=hv.cells_of hb.1;have e1:x.cells.size=size:=by rw[<-h1,hc.1.1];simp
     have e2:off+x.cells.size<=A.size:=by have:=hA.1.1;have:=hc.1.1;simp at this |-;simp at *;omega
     have ih:=x7 (A:=Array.foldl (λcs p=>cs.setIfInBounds (off+p.2) p.1) A x.cells.zipIdx) h (su hl)
      (λj p q h1 h2=>hp (j+1) p q (su h1) (su h2)) (by
       rw[<-Array.foldl_toList,kW,Array.toList_zipIdx];exact⟨hc.1.sets 0 hA.1,K6 _ _ (λp hp=>hc.2 _ (List.fst_mem_of_mem_zipIdx hp)) hA.2⟩)
     obtain⟨B,hB,hr⟩:=ih;refine⟨B, ?_,hr⟩;rw[Instr.fill];simp only[hpl];rw[aAe (by simp[e1];omega)];exact hB
    .cases h
theorem AL:∀{fs:List Field} {l:List (Nat × Nat)},y8 P fs=some l->fs.mapM (λf=>(P.info? f.type).map λi=>(f.offset,i.size))=some l
 | [],l,h=>by simp only[y8] at h;cases h;rfl
 | f::r,l,h=>by
  simp only[y8] at h;split at h
  .rename_i n hn;split at h
   .rename_i l' hl;cases h;unfold iI at hn;split at hn
    .rename_i i hi;cases hn;simp[hi,AL hl]
    .cases hn
   .cases h
  .cases h
theorem Bq{t:TypeId}{parts:List (Nat × AV)}{ps:List (Nat × Value)}{v:AV}(h:Ek P t parts=some v)(hl:parts.length=ps.length)
  (hp:∀(j:Nat) (p:Nat × AV) (q:Nat × Value),parts[j]? = some p->ps[j]? = some q->p.1=q.1/\VR C D O w p.2 q.2) :
  ∃z,(Instr.build t ps.toArray).run P w = .ok z w/\VR C D O w v z:=by
 unfold Ek at h;split at h
 .rename_i it hit;split at h
  .rename_i z hz;split at h
   .rename_i zs hzs;obtain⟨vs,rfl,hvs⟩:=(mN (C:=C) (D:=D) (O:=O) (w:=w) hzs).agg_inv;split at h
    .rename_i m e hu;split at h
     .rename_i n hn;split at h
      .rename_i cs hcs;cases h;obtain⟨B,hB,hr⟩:=x7 (A:=vs.toArray) hcs hl hp (su hvs);have hb:P.built t ps.toArray.toList=some B:=by
        unfold iI at hn;split at hn
        .rename_i ie hie;cases hn;simp[Program.built,hit,hu,hz,hie,Value.cells,hB]
        .cases hn
       exact⟨.agg B,run_build w t _ B hb,by have:=hr.agg;simpa using this⟩
      .cases h
     .cases h
    .rename_i fs hu;split at h
     .rename_i places hpl;split at h
      .rename_i cs hcs;cases h;obtain⟨B,hB,hr⟩:=x7 (A:=vs.toArray) hcs hl hp (su hvs);have hb:P.built t ps.toArray.toList=some B:=by
        simp[Program.built,hit,hu,hz,AL hpl,Value.cells,hB]
       exact⟨.agg B,run_build w t _ B hb,by have:=hr.agg;simpa using this⟩
      .cases h
     .cases h
    .cases h
   .cases h
  .cases h
 .cases h
end
end Go.Ax
namespace Go.Ax
open Go
variable{i sz id d:Nat}{t u:TypeId}{x:Value}{v a:AV}{xs:List AV}
def fU(d:Nat):Option AV->Option Nat
 | none=>some d
 | some (.int _ n)=>match decide (0<=n) with
  | true=>some n.toNat
  | false=>none
 | some _=>none
def Fa(P:Program)(mem:aP)(t:TypeId)(x:AV)(lo hi mx:Option AV):Option AV:=
 match P.underlying t with
 | some .string=>match x,mx with
  | .str s,none=>match fU 0 lo with
   | some l=>match fU s.length hi with
    | some h=>match Nat.ble l h && Nat.ble h s.length with
     | true=>some (.str ((s.drop l).take (h-l)))
     | false=>none
    | none=>none
   | none=>none
  | _,_=>none
 | some (.slice e)=>match iI P e with
  | none=>none
  | some sz=>match x with
   | .nsl=>match fU 0 lo,fU 0 hi,fU 0 mx with
    | some 0,some 0,some 0=>some .nsl
    | _,_,_=>none
   | .il sz' xs=>match Nat.beq sz sz' with
    | true=>match fU 0 lo,fU xs.length hi,fU xs.length mx with
     | some l,some h,some m=>match Nat.ble l h && (Nat.ble h m && Nat.ble m xs.length) with
      | true=>some (.il sz' ((xs.drop l).take (h-l)))
      | false=>none
     | _,_,_=>none
    | false=>none
   | .sl id off len=>match lk mem id with
    | some (.row _ sz0 _)=>match Nat.beq sz0 sz with
     | true=>match fU 0 lo,fU len hi,fU len mx with
      | some l,some h,some m=>match Nat.ble l h && (Nat.ble h m && Nat.ble m len) with
       | true=>some (.sl id (off+l) (h-l))
       | false=>none
      | _,_,_=>none
     | false=>none
    | _=>none
   | _=>none
 | some (.array n e)=>match iI P e with
  | none=>none
  | some sz=>match x with
   | .ptr id i 0=>match lk mem id with
    | some (.row _ _ xs)=>match Ej mem id i 0 sz && Nat.ble (i+n) xs.length with
     | true=>match fU 0 lo,fU n hi,fU n mx with
      | some l,some h,some m=>match Nat.ble l h && (Nat.ble h m && Nat.ble m n) with
       | true=>some (.sl id (i+l) (h-l))
       | false=>none
      | _,_,_=>none
     | false=>none
    | _=>none
   | _=>none
 | _=>none
def Tu(P:Program)(mem:aP)(t:TypeId)(x:AV):Option AV:=
 match P.underlying t with
 | some .string=>match x with
  | .str s=>some (.int .i64 (s.length:Int))
  | _=>none
 | some (.array n _)=>some (.int .i64 (n:Int))
 | some (.slice _)=>match x with
  | .nsl=>some (.int .i64 0)
  | .il _ xs=>some (.int .i64 (xs.length:Int))
  | .sl _ _ len=>some (.int .i64 (len:Int))
  | _=>none
 | some (.map _ _)=>match x with
  | .nmap=>some (.int .i64 0)
  | _=>none
 | _=>none
def OD:Int->List AV->Option Int
 | x,[]=>some x
 | x,.int _ y::r=>OD (if y<x then y else x) r
 | _,_=>none
def PC:Int->List AV->Option Int
 | x,[]=>some x
 | x,.int _ y::r=>PC (if y>x then y else x) r
 | _,_=>none
section
variable {P:Program} {Z:List (Nat × AV)} {X:Nat->Prop} {C:Nat->dP} {D:Nat->Prop} {O:Nat->Prop} {mem:aP} {w:World}
theorem OB{xs:List AV}{b off:Nat}{f:AV->Value->Prop}
  (hs:∀(i:Nat) (x:AV),xs[i]? = some x->x.cells.length=1)
  (hc:∀(i:Nat) (x:AV),xs[i]? = some x->∃v,w.cell? ⟨b,off+i,none⟩=some v/\f x v) :
  ∃vs:List Value,vs.length=xs.length/\(∀(j:Nat) (v:Value),vs[j]? = some v->w.cell? (Addr.add ⟨b,off,none⟩ j)=some v) /\
   ∀(j:Nat) (c:AV) (x:Value),xs[j]? = some c->vs[j]? = some x->f c x:=by
 refine⟨(List.range xs.length).map λi=>(w.cell? ⟨b,off+i,none⟩).getD undef,sq,λj v hj=>?_,λj c x h1 h2=>?_⟩
 .have hlt:j<xs.length:=by
   rcases aAr j xs.length with h|h
   .exact h
   .simp[h] at hj
  obtain⟨v',hv',_⟩:=hc j _ (aAa hlt);simp[hlt,hv'] at hj;subst hj;simp[Addr.add_lit,hv']
 .have hlt:j<xs.length:=by
   rcases aAr j xs.length with h|h
   .exact h
   .simp[h] at h2
  obtain⟨v',hv',hr⟩:=hc j c h1;simp[hlt,hv'] at h2;subst h2;exact hr
theorem sP:∀{xs:List AV} {l:List UInt8},gB xs=some l->∀(i:Nat) (x:AV),xs[i]? = some x->x.cells=[x]
 | [],l,h,i,x,hi=>by simp at hi
 | a::xs,l,h,i,x,hi=>by
  unfold gB at h;split at h
  .rename_i e;cases e
  .rename_i n r e;cases e;split at h
   .rename_i l' hl;cases i with
    | zero=>simp at hi;subst hi;rfl
    | succ i=>exact sP hl i x (su hi)
   .cases h
  .cases h
theorem sR{xs:List AV}{l:List UInt8}(h:gB xs=some l){b off cap:Nat}
  (hc:∀(i:Nat) (x:AV),xs[i]? = some x->∃v,w.cell? ⟨b,off+i,none⟩=some v/\VR C D O w x v) :
  (Conv.bytesToString (.slice (some ⟨b,off,none⟩) xs.length cap)).run P w = .ok (.string ⟨l.toArray⟩) w:=by
 obtain⟨vs,hl,hv,hr⟩:=OB (w:=w) (b:=b) (off:=off) (f:=VR C D O w) (λi x hi=>by rw[sP h i x hi];rfl) hc;have hload:=run_loadCells_list (P:=P) w ⟨b,off,none⟩ vs hv;have hfor:=λmsg:String=>zU (msg:=msg) (P:=P) (w:=w) (C:=C) (D:=D) (O:=O) h ⟨hl.symm,hr⟩ ByteArray.empty
 simp only[Conv.bytesToString];rw[<-hl,Sem.run_bind,hload];simp only[Result.andThen_ok];rw[Sem.run_bind,List.forIn_toArray];refine(congrArg (λr:Result ByteArray=>r.andThen λa w'=>Sem.run P (pure (Value.string a)) w') (hfor _)).trans ?_;simp[ByteArray.empty,ByteArray.emptyWithCapacity];rfl
theorem ML{p:Program}{pK:TypeId->Bool}{e count count' off n:Nat}(hc:count<=count'):∀d:Nat,rowAt p pK d e count off n=true->rowAt p pK d e count' off n=true
 | 0,h=>by simp[rowAt] at h
 | d+1,h=>by
  unfold rowAt at h |-
  dsimp only at h |-
  by_cases hs:p.cellsOf e=0
  .simp[hs] at h
  .rw[aAe hs] at h |-;simp only[aBm,aAd,aAC] at h |-;rcases h with⟨⟨h1,h2⟩,h3⟩|⟨h1,h2⟩
   .exact .inl ⟨⟨h1,om⟩,h3⟩
   .exact .inr ⟨om,h2⟩
theorem C6{p:Program}{e count count' off:Nat}(hc:count<=count'):∀(d u n:Nat),liesAt p d e count off u n=true->liesAt p d e count' off u n=true
 | 0,u,n,h=>by simp[liesAt] at h
 | d+1,u,n,h=>by
  unfold liesAt at h |-;simp only[aBm] at h |-;rcases h with h|h
  .exact .inl (ML hc _ h)
  .right;split at h
   .exact C6 hc d _ _ h
   .cases h
theorem HW(hm:MR Z X C D mem w)(hid:lk mem id=some (.row t sz xs))(hi:i<xs.length):
  (C id).sz=sz/\w.shape? (C id).b=some (t,(C id).n)/\xs.length*sz<=(C id).n:=by
 have hin:=b8 hid;rcases aAz (C id).n with h0|h0
 .obtain⟨t',sz',e1,_⟩:=hm.emp _ hin h0;cases e1;simp at hi
 .obtain⟨o,ho,hsz,arr,fr,rfl,hf,hs,hle,_⟩:=hm.blk _ hin h0;simp only at ho hsz hs hle;exact⟨hsz,by simp[World.shape?,ho,hs],by rw[<-hsz];exact hle⟩
theorem LZ(hm:MR Z X C D mem w){src dst:TypeId}{d:TypeDesc}(hd:P.underlying src=some d)(hu:P.underlying dst=some .unsafePointer)(h:T8 P mem d a=some v)(hx:VR C D (OX X C mem) w a x):
  ∃z,(convert src dst x).run P w = .ok z w/\VR C D (OX X C mem) w v z:=by
 unfold T8 at h;split at h<;>first|(cases h;done)|skip
 rename_i t;split at h<;>first|(cases h;done)|skip
 rename_i id i j;split at h<;>first|(cases h;done)|skip
 rename_i t' sz xs hid;split at h<;>first|(cases h;done)|skip
 rename_i inf hi;split at h<;>first|(cases h;done)|skip
 rename_i hc;cases h;simp only[aAd] at hc;obtain⟨c1,c2,c3⟩:=hc;have c1:0<inf.size:=aAi c1;have c2:i<xs.length:=aAi c2;have c3:j<sz:=aAi c3;obtain⟨hsz,hsh,hle⟩:=HW hm hid c2;have hx0:=hx;cases hx;refine⟨_, ?_,hx0⟩;have hlt:i*(C id).sz+j<(C id).n:=by
  rw[hsz];have h1:(i+1)*sz<=xs.length*sz:=aAG _ c2;rw[Nat.add_mul] at h1;omega
 have hne:¬inf.size=0:=om;have hge:¬(C id).n<=i*(C id).sz+j:=om;simp[convert,run_underlying hd,run_underlying hu,Conv.unsafePointer,Conv.seenAt,viewAt,cellsIn,hsh,sizeOf,typeInfo,hi,hne,hge]
theorem H3(hm:MR Z X C D mem w){src dst:TypeId}{d:TypeDesc}(hd:P.underlying src=some d)(hu:P.underlying dst=some (.pointer u))(h:H5 P mem d u a=some v)(hx:VR C D (OX X C mem) w a x):
  ∃z,(convert src dst x).run P w = .ok z w/\VR C D (OX X C mem) w v z:=by
 unfold H5 at h;split at h<;>first|(cases h;done)|skip
 split at h<;>first|(cases h;done)|skip
 rename_i id i j;split at h<;>first|(cases h;done)|skip
 rename_i t' sz xs hid;split at h<;>first|(cases h;done)|skip
 rename_i inf hi;split at h<;>first|(cases h;done)|skip
 rename_i hc;cases h;simp only[aAd] at hc;obtain⟨c1,c2,c3,c4⟩:=hc;have c2:i<xs.length:=aAi c2;have c3:j<sz:=aAi c3;have c4:=Nat.eq_of_beq_eq_true c4;obtain⟨hsz,hsh,hle⟩:=HW hm hid c2;have hx0:=hx;cases hx;refine⟨_, ?_,hx0⟩;have hl:liesAt P P.depth t' ((C id).n/P.cellsOf t') (i*(C id).sz+j) u 1=true:=by
  rw[hsz];refine C6 ?_ _ _ _ c1;rw[<-c4];exact(aCb om).2 hle
 simp[convert,run_underlying hd,run_underlying hu,Conv.unsafePointer,Conv.seenAt,viewAt,variablesAt,hsh,sizeOf,typeInfo,hi,hl]
theorem DA(hm:MR Z X C D mem w){src dst:TypeId}(h:Ee P mem src dst a=some v)(hx:VR C D (OX X C mem) w a x):
  ∃z,(convert src dst x).run P w = .ok z w/\VR C D (OX X C mem) w v z:=by
 unfold Ee at h;split at h
 .cases h
 .rename_i d hd;split at h
  .rename_i k hk;split at h
   .cases h;cases hx;exact⟨_,by simp[convert,run_underlying hd,run_underlying hk,Conv.intToInt],.int _ _⟩
   .cases h
  .rename_i hk;split at h
   .cases h;cases hx;exact⟨_,by simp[convert,run_underlying hd,run_underlying hk],.str _⟩
   .split at h
    .rename_i e;split at h
     .rename_i he;split at h
      .cases h;cases hx;refine⟨_, ?_,.str []⟩;simp[convert,run_underlying hd,run_underlying hk,run_underlying he,Conv.bytesToString];rfl
      .rename_i sz xs _;split at h
       .rename_i hsz;have hsz:=Nat.eq_of_beq_eq_true hsz;subst hsz;split at h
        .rename_i l hl;cases h;cases hx with
         | il _ _ b off cap f h0 h1 h2 h3=>
          refine⟨_, ?_,.str l⟩;have:=sR (P:=P) (w:=w) (C:=C) (D:=D) (O:=OX X C mem) hl (b:=b) (off:=off) (cap:=cap) (λi x hi=>by
           have hc:x.cells=[x]:=sP hl i x hi;have h4:=h2 i x 0 x hi (by rw[hc];rfl);exact⟨f i 0,by simpa using h4.2.1,h3 i x 0 x hi (by rw[hc];rfl)⟩)
          simp[convert,run_underlying hd,run_underlying hk,run_underlying he,this]
         | iln=>
          simp[gB] at hl;subst hl;refine⟨_, ?_,.str []⟩;simp[convert,run_underlying hd,run_underlying hk,run_underlying he,Conv.bytesToString];rfl
        .cases h
       .cases h
      .rename_i id off len _;split at h
       .rename_i t' sz0 xs hid;split at h
        .rename_i hle;have hle:=aAi hle;split at h
         .rename_i l hl;cases h;have hlen:((xs.drop off).take len).length=len:=by simp;omega
          cases hx with
          | sl _ _ _ cap hid' h1 h2=>
           refine⟨_, ?_,.str l⟩;have:=sR (P:=P) (w:=w) (C:=C) (D:=D) (O:=OX X C mem) hl (b:=(C id).b) (off:=off*(C id).sz) (cap:=cap) (λi x hi=>by
            have hc:x.cells=[x]:=sP hl i x hi;have hi':xs[off+i]? = some x:=by
             rw[aAL] at hi;split at hi
             .rw[aAV] at hi;exact hi
             .cases hi
            obtain⟨hz,hcell⟩:=iB hm hid hi';obtain⟨v,hv,_,hr⟩:=hcell 0 x (by rw[hc];rfl);have hsz:(C id).sz=1:=by rw[<-hz,hc];rfl
            refine⟨v, ?_,hr⟩;rw[hsz] at hv |-;simpa using hv)
           rw[hlen] at this;simp[convert,run_underlying hd,run_underlying hk,run_underlying he,this]
          | slz _ _ a' ao' hid'=>
           simp[gB] at hl;subst hl;refine⟨_, ?_,.str []⟩;simp[convert,run_underlying hd,run_underlying hk,run_underlying he,Conv.bytesToString,loadCells,loadCellsFrom];rfl
          | slzn _ _ hid'=>
           simp[gB] at hl;subst hl;refine⟨_, ?_,.str []⟩;simp[convert,run_underlying hd,run_underlying hk,run_underlying he,Conv.bytesToString];rfl
         .cases h
        .cases h
       .cases h
      .cases h
     .cases h
    .cases h
  .rename_i hk;exact LZ hm hd hk h hx
  .rename_i u hk;exact H3 hm hd hk h hx
  .cases h
theorem xF(h:B2 a i=some v)(hx:VR C D O w a x):∃z,(Instr.extract x i).run P w = .ok z w/\VR C D O w v z:=by
 unfold B2 at h;split at h
 .obtain⟨vs,rfl,hl,hr⟩:=hx.tup_inv;rename_i cs;have hlt:i<vs.length:=by
   rcases aAr i vs.length with h'|h'
   .exact h'
   .rw[aAs om] at h;cases h
  exact⟨vs[i],by simp[Instr.extract,hlt],hr i v _ h (by simp[hlt])⟩
 .cases h
theorem BE(h:H7 P t a=some v)(hx:VR C D O w a x):∃z,(Instr.makeInterface t x).run P w = .ok z w/\VR C D O w v z:=by
 unfold H7 at h;split at h
 .rename_i hc;cases h;exact⟨.iface t x,run_makeInterface w t x hc,.ifc t a x hx⟩
 .cases h
inductive Mf (C:Nat->dP) (D:Nat->Prop) (O:Nat->Prop) (w:World):Option AV->Option Value->Prop
 | none:Mf C D O w none none
 | some (a:AV) (x:Value):VR C D O w a x->Mf C D O w (some a) (some x)
theorem vB{a:Option AV}{x:Option Value}{l:Nat}(h:fU d a=some l)(hx:Mf C D O w a x)(y:Nat)(hy:l<=y)(c:BoundsCode):
  (x=none/\l=d)\/∃v,x=some v/\(Instr.sliceBound v y c).run P w = .ok l w:=by
 cases hx with
 | none=>simp only[fU] at h;cases h;exact .inl ⟨rfl,rfl⟩
 | some a x hr=>
  right;refine⟨x,rfl, ?_⟩;unfold fU at h;split at h
  .rename_i e;cases e
  .rename_i k n e;cases e;cases hr;split at h
   .rename_i hn;have hn:=aAY hn;cases h;have h2:n<=(y:Int):=om;simp[Instr.sliceBound,asIntOf,hn,h2]
   .cases h
  .cases h
theorem AW{isS:Bool}{len cap l h m:Nat}{lo hi mx:Option AV}{x y z:Option Value}(h1:fU 0 lo=some l)(h2:fU len hi=some h)
  (r1:Mf C D O w lo x) (r2:Mf C D O w hi y) (r3:Mf C D O w mx z) (hl:l<=h) (hh:h<=m) (hm:(z=none/\m=cap)\/(z.isSome=true/\y.isSome=true/\fU cap mx=some m/\m<=cap)) :
  (Instr.sliceBounds isS len cap x y z).run P w = .ok (l,h,m) w:=by
 have b1:=λc=>vB (P:=P) (w:=w) h1 r1 h hl c
 have b2:=λc=>vB (P:=P) (w:=w) h2 r2 m hh c
 rcases hm with⟨rfl,rfl⟩|⟨hz,hy,h3,hmc⟩
 .rcases b1 .sliceB with⟨rfl,rfl⟩|⟨v,rfl,_⟩
  .rcases b2 .sliceB with⟨rfl,rfl⟩|⟨u,rfl,_⟩
   .simp[Instr.sliceBounds]
   .have e:=λc=>(b2 c).resolve_left sq
    simp only[Option.some.injEq,exists_eq_left'] at e;simp[Instr.sliceBounds,e]
  .have e1:=λc=>(b1 c).resolve_left sq
   simp only[Option.some.injEq,exists_eq_left'] at e1;rcases b2 .sliceB with⟨rfl,rfl⟩|⟨u,rfl,_⟩
   .simp[Instr.sliceBounds,e1]
   .have e:=λc=>(b2 c).resolve_left sq
    simp only[Option.some.injEq,exists_eq_left'] at e;simp[Instr.sliceBounds,e,e1]
 .have b3:=λc=>vB (P:=P) (w:=w) h3 r3 cap hmc c
  obtain⟨zv,rfl⟩:=aCu.1 hz;obtain⟨yv,rfl⟩:=aCu.1 hy;have e3:=λc=>(b3 c).resolve_left sq
  have e2:=λc=>(b2 c).resolve_left sq
  simp only[Option.some.injEq,exists_eq_left'] at e2 e3;rcases b1 .sliceB with⟨rfl,rfl⟩|⟨v,rfl,_⟩
  .simp[Instr.sliceBounds,e3,e2]
  .have e1:=λc=>(b1 c).resolve_left sq
   simp only[Option.some.injEq,exists_eq_left'] at e1;simp[Instr.sliceBounds,e3,e2,e1]
theorem Ae(hm:MR Z X C D mem w)(hid:lk mem id=some (.row t sz xs)):(C id).sz=sz:=by
 rcases aAz (C id).n with h|h
 .obtain⟨t',sz',e,h2⟩:=hm.emp _ (b8 hid) h;cases e;exact h2
 .obtain⟨o,ho,h2,_⟩:=hm.blk _ (b8 hid) h;exact h2
theorem MY{a:Option AV}{x:Option Value}(h:Mf C D O w a x):x.isSome=a.isSome:=by cases h<;>rfl
theorem gX{isS:Bool}{len cap l h m:Nat}{lo hi mx:Option AV}{x y z:Option Value}(h1:fU 0 lo=some l)(h2:fU len hi=some h)
  (h3:fU len mx=some m) (hlc:len<=cap)
  (r1:Mf C D O w lo x) (r2:Mf C D O w hi y) (r3:Mf C D O w mx z) (hl:l<=h) (hh:h<=m) (hm:m<=len) (hmx:mx.isSome=true->hi.isSome=true) :
  ∃m',h<=m'/\m'<=cap/\(Instr.sliceBounds isS len cap x y z).run P w = .ok (l,h,m') w:=by
 cases mx with
 | none=>
  cases r3;exact⟨cap,om,aAp _,AW h1 h2 r1 r2 .none hl om (.inl ⟨rfl,rfl⟩)⟩
 | some a=>
  have hz:=MY r3;have hy:=MY r2;refine⟨m,hh,om,AW h1 h2 r1 r2 r3 hl hh (.inr ⟨hz,by rw[hy];exact hmx rfl, ?_,om⟩)⟩;cases a<;>simp only[fU] at h3 |- <;> exact h3
theorem Bc(hm:MR Z X C D mem w){t:TypeId}{a v:AV}{x:Value}{lo hi mx:Option AV}{x1 x2 x3:Option Value}(h:Fa P mem t a lo hi mx=some v)
  (hx:VR C D (OX X C mem) w a x) (r1:Mf C D (OX X C mem) w lo x1) (r2:Mf C D (OX X C mem) w hi x2) (r3:Mf C D (OX X C mem) w mx x3) (hmx:mx.isSome=true->hi.isSome=true) :
  ∃z,(Instr.sliceAt t x x1 x2 x3).run P w = .ok z w/\VR C D (OX X C mem) w v z:=by
 unfold Fa at h;split at h
 .rename_i hu;split at h
  .rename_i s;cases r3;split at h
   .rename_i l hl;split at h
    .rename_i hh hhi;split at h
     .rename_i hb;rw[aAd] at hb;have b1:=aAi hb.1;have b2:=aAi hb.2;cases h;cases hx;have hb:=AW (P:=P) (isS:=false) (len:=s.length) (cap:=s.length) (m:=s.length) hl hhi r1 r2 .none b1 b2 (.inl ⟨rfl,rfl⟩);refine⟨_, ?_,.str _⟩;have hsz:(⟨s.toArray⟩:ByteArray).size=s.length:=by simp[ByteArray.size]
      simp only[Instr.sliceAt,Sem.run_bind,run_underlying hu,Result.andThen_ok,Instr.slice,hsz,Option.isSome_none,aBB,if_false,hb,ByteArray.extract_mk];rfl
     .cases h
    .cases h
   .cases h
  .cases h
 .rename_i e hu;split at h
  .cases h
  .rename_i sz hsz;have hrun:=iX (w:=w) hsz;split at h
   .split at h
    .rename_i h1 h2 h3;cases h;cases hx;obtain⟨m',_,hm',hb⟩:=gX (P:=P) (isS:=true) (cap:=0) h1 h2 h3 (aAp _) r1 r2 r3 (aAp _) (aAp _) (aAp _) hmx;have:m'=0:=om;subst this;refine⟨_, ?_,.nsl⟩;simp only[Instr.sliceAt,Sem.run_bind,run_underlying hu,Result.andThen_ok,Instr.slice,hb,hrun];rfl
    .cases h
   .rename_i sz' xs;split at h
    .rename_i hsz';have hsz':=Nat.eq_of_beq_eq_true hsz';subst hsz';split at h
     .rename_i l hh m h1 h2 h3;split at h
      .rename_i hb;simp only[aAd] at hb;have b1:=aAi hb.1;have b2:=aAi hb.2.1;have b3:=aAi hb.2.2;cases h;cases hx with
       | il _ _ b off cap f g0 g1 g2 g3=>
        obtain⟨m',hm1,hm2,hb⟩:=gX (P:=P) (isS:=true) (cap:=cap) h1 h2 h3 g0 r1 r2 r3 b1 b2 b3 hmx;have hlen:((xs.drop l).take (hh-l)).length=hh-l:=by simp;omega
        by_cases hml:m'=l
        .have e0:hh-l=0:=om;have e1:(xs.drop l).take (hh-l)=[]:=by rw[e0];simp
         refine⟨.slice (some ⟨b,off,none⟩) (hh-l) (m'-l), ?_, ?_⟩
         .simp only[Instr.sliceAt,Sem.run_bind,run_underlying hu,Result.andThen_ok,Instr.slice,hb,hrun,hml,if_true];rfl
         .rw[e1,e0];exact .il sz [] b off _ (λ_ _=>undef) sq sq sq sq
        .refine⟨.slice (some ⟨b,off+l*sz,none⟩) (hh-l) (m'-l), ?_, ?_⟩
         .simp only[Instr.sliceAt,Sem.run_bind,run_underlying hu,Result.andThen_ok,Instr.slice,hb,hrun,hml,if_false,aBM,Addr.add_lit];rfl
         .have key:∀(i:Nat) (x:AV),((xs.drop l).take (hh-l))[i]? = some x->xs[l+i]? = some x:=by
           intro i x hi;rw[aAL] at hi;split at hi
           .rw[aAV] at hi;exact hi
           .cases hi
          generalize (xs.drop l).take (hh-l)=Y at *;rw[<-hlen];refine .il sz _ b (off+l*sz) _ (λi j=>f (l+i) j) om (λi x hi=>g1 _ x (key i x hi)) (λi x j c hi hj=>?_) (λi x j c hi hj=>g3 _ x j c (key i x hi) hj);have:=g2 _ x j c (key i x hi) hj;refine⟨this.1, ?_,this.2.2⟩;rw[<-this.2.1,Nat.add_mul];congr 2;omega
       | iln=>
        simp at b3;subst b3;obtain rfl:hh=0:=om;obtain rfl:l=0:=om;obtain⟨m',_,hm',hb⟩:=gX (P:=P) (isS:=true) (cap:=0) h1 h2 h3 sq r1 r2 r3 (aAp _) (aAp _) sq hmx;have:m'=0:=om;subst this;refine⟨.slice none 0 0, ?_,by simpa using VR.iln sz⟩;simp only[aBC] at hb;simp only[Instr.sliceAt,Sem.run_bind,run_underlying hu,Result.andThen_ok,Instr.slice,hb,hrun];rfl
      .cases h
     .cases h
    .cases h
   .rename_i id off len;split at h
    .rename_i t' sz0 xs hid;split at h
     .rename_i hsz';have hsz':=Nat.eq_of_beq_eq_true hsz';have hz:(C id).sz=sz:=by rw[Ae hm hid];exact hsz'
      split at h
      .rename_i l hh m h1 h2 h3;split at h
       .rename_i hb;simp only[aAd] at hb;have b1:=aAi hb.1;have b2:=aAi hb.2.1;have b3:=aAi hb.2.2;cases h;cases hx with
        | sl _ _ _ cap hid' g1 g2=>
         obtain⟨m',hm1,hm2,hb⟩:=gX (P:=P) (isS:=true) (cap:=cap) h1 h2 h3 g1 r1 r2 r3 b1 b2 b3 hmx;by_cases hml:m'=l
         .have e0:hh-l=0:=om;have e2:m'-l=0:=om;refine⟨.slice (some ⟨(C id).b,off*(C id).sz,none⟩) (hh-l) (m'-l), ?_, ?_⟩
          .simp only[Instr.sliceAt,Sem.run_bind,run_underlying hu,Result.andThen_ok,Instr.slice,hb,hrun,hml,if_true];rfl
          .rw[e0,e2];exact .slz id _ _ _ hid'
         .refine⟨.slice (some ⟨(C id).b,off*(C id).sz+l*sz,none⟩) (hh-l) (m'-l), ?_, ?_⟩
          .simp only[Instr.sliceAt,Sem.run_bind,run_underlying hu,Result.andThen_ok,Instr.slice,hb,hrun,hml,if_false,aBM,Addr.add_lit];rfl
          .have e:off*(C id).sz+l*sz=(off+l)*(C id).sz:=by rw[hz,Nat.add_mul]
           rw[e];refine .sl id (off+l) (hh-l) (m'-l) hid' om (aAx (aAG _ ?_) g2);omega
        | slz _ _ ad ao hid'=>
         have:m=0:=om;subst this;obtain rfl:hh=0:=om;obtain rfl:l=0:=om;obtain⟨m',_,hm',hb⟩:=gX (P:=P) (isS:=true) (cap:=0) h1 h2 h3 (aAp _) r1 r2 r3 (aAp _) (aAp _) sq hmx;have:m'=0:=om;subst this;refine⟨.slice (some ⟨ad,ao,none⟩) 0 0, ?_,.slz id _ ad ao hid'⟩;simp only[Instr.sliceAt,Sem.run_bind,run_underlying hu,Result.andThen_ok,Instr.slice,hb,hrun,if_true];rfl
        | slzn _ _ hid'=>
         have:m=0:=om;subst this;obtain rfl:hh=0:=om;obtain rfl:l=0:=om;obtain⟨m',_,hm',hb⟩:=gX (P:=P) (isS:=true) (cap:=0) h1 h2 h3 (aAp _) r1 r2 r3 (aAp _) (aAp _) sq hmx;have:m'=0:=om;subst this;refine⟨.slice none 0 0, ?_,.slzn id _ hid'⟩;simp only[Instr.sliceAt,Sem.run_bind,run_underlying hu,Result.andThen_ok,Instr.slice,hb,hrun,if_true];rfl
       .cases h
      .cases h
     .cases h
    .cases h
   .cases h
 .rename_i n e hu;split at h
  .cases h
  .rename_i sz hsz;have hrun:=iX (w:=w) hsz;split at h
   .rename_i id i;split at h
    .rename_i t' sz0 xs hid;split at h
     .rename_i hel;rw[aAd] at hel;have hin:=aAi hel.2;have hz:=(DW hm hel.1).2;split at h
      .rename_i l hh m h1 h2 h3;split at h
       .rename_i hb;simp only[aAd] at hb;have b1:=aAi hb.1;have b2:=aAi hb.2.1;have b3:=aAi hb.2.2;cases h;cases hx with
        | ptr _ _ _ hid'=>
         obtain⟨m',hm1,hm2,hb⟩:=gX (P:=P) (isS:=false) (cap:=n) h1 h2 h3 (aAp _) r1 r2 r3 b1 b2 b3 hmx;have hn0:0<(C id).n:=by
          rcases aAz (C id).n with h'|h'
          .obtain⟨t',sz1,e,_⟩:=hm.emp _ (b8 hid) h';cases e;simp[Ej,hid] at hel
          .exact h'
         obtain⟨o,ho,_,arr,fr,rfl,_,q1,q2,_⟩:=hm.blk _ (b8 hid) hn0;by_cases hml:m'=l
         .have e0:hh-l=0:=om;have e2:m'-l=0:=om;refine⟨.slice (some ⟨(C id).b,i*(C id).sz+0,none⟩) (hh-l) (m'-l), ?_, ?_⟩
          .simp only[Instr.sliceAt,Sem.run_bind,run_underlying hu,Result.andThen_ok,Instr.sureAddr,Sem.run_pure,hb,hrun,hml,if_true]
          .rw[e0,e2];exact .slz id _ _ _ hid'
         .refine⟨.slice (some ⟨(C id).b,i*(C id).sz+0+l*sz,none⟩) (hh-l) (m'-l), ?_, ?_⟩
          .simp only[Instr.sliceAt,Sem.run_bind,run_underlying hu,Result.andThen_ok,Instr.sureAddr,Sem.run_pure,hb,hrun,hml,if_false,Addr.add_lit]
          .have e:i*(C id).sz+0+l*sz=(i+l)*(C id).sz:=by rw[hz,Nat.add_mul];omega
           rw[e];refine .sl id (i+l) (hh-l) (m'-l) hid' om (aAx (aAG _ ?_) q2);omega
       .cases h
      .cases h
     .cases h
    .cases h
   .cases h
 .cases h
theorem Et(h:Tu P mem t a=some v)(hx:VR C D O w a x)(ty:TypeId):
    ∃z,(Builtin.len_ #[t] ty #[x]).run P w = .ok z w/\VR C D O w v z:=by
  unfold Tu at h;split at h
  · rename_i hu
    split at h
    · cases h;cases hx
      refine⟨_, ?_,.int _ _⟩;simp[Builtin.len_,run_underlying hu,goInt,ByteArray.size_mk']
    · cases h
  · rename_i hu
    cases h;refine⟨_, ?_,.int _ _⟩;simp[Builtin.len_,run_underlying hu,goInt]
  · rename_i hu
    split at h<;>first|(cases h;done)|skip
    all_goals
      cases h;cases hx <;>
        (refine⟨_, ?_,.int _ _⟩
         simp[Builtin.len_,run_underlying hu,goInt])
  · rename_i hu
    split at h
    · cases h;cases hx
      refine⟨_, ?_,.int _ _⟩;simp[Builtin.len_,run_underlying hu,goInt]
    · cases h
  · cases h
theorem Aw(k:IntKind):∀{cs:List AV} {vs:List Value} {x r:Int},OD x cs=some r->m9 C D O w cs vs->(List.foldlM Builtin.min2 (.int k x) vs).run P w = .ok (.int k r) w
 | [],vs,x,r,h,hv=>by
  have:vs=[]:=by have:=hv.1;simp at this;exact aAB this.symm
  subst this;simp only[OD] at h;cases h;simp
 | c::cs,vs,x,r,h,hv=>by
  cases vs with
  | nil=>have:=hv.1;simp at this
  | cons v vs=>
   unfold OD at h;split at h
   .rename_i e;cases e
   .rename_i k' y r' e;cases e;have h0:=hv.2 0 _ v rfl rfl;cases h0;have hr:m9 C D O w cs vs:=⟨by have:=hv.1;simpa using this,λj c x h1 h2=>hv.2 (j+1) c x (su h1) (su h2)⟩
    simp[Builtin.min2,Aw k h hr]
   .cases h
theorem Aj(k:IntKind):∀{cs:List AV} {vs:List Value} {x r:Int},PC x cs=some r->m9 C D O w cs vs->(List.foldlM Builtin.max2 (.int k x) vs).run P w = .ok (.int k r) w
 | [],vs,x,r,h,hv=>by
  have:vs=[]:=by have:=hv.1;simp at this;exact aAB this.symm
  subst this;simp only[PC] at h;cases h;simp
 | c::cs,vs,x,r,h,hv=>by
  cases vs with
  | nil=>have:=hv.1;simp at this
  | cons v vs=>
   unfold PC at h;split at h
   .rename_i e;cases e
   .rename_i k' y r' e;cases e;have h0:=hv.2 0 _ v rfl rfl;cases h0;have hr:m9 C D O w cs vs:=⟨by have:=hv.1;simpa using this,λj c x h1 h2=>hv.2 (j+1) c x (su h1) (su h2)⟩
    simp[Builtin.max2,Aj k h hr]
   .cases h
end
end Go.Ax
namespace Go.Ax
open Go
def gP(C:Nat->dP)(n:Nat)(l:dP):Nat->dP:=λi=>if i=n then l else C i
theorem cS(C:Nat->dP)(n:Nat)(l:dP):gP C n l n=l:=by simp[gP]
theorem D2(C:Nat->dP)(n:Nat)(l:dP){i:Nat}(h:i≠n):gP C n l i=C i:=by simp[gP,h]
def CJ(C:Nat->dP)(D:Nat->Prop)(O:Nat->Prop)(w:World)(sz:Nat)(arr:Array Value)(xs:List AV):Prop:=
 xs.length*sz<=arr.size/\∀(i:Nat) (x:AV),xs[i]? = some x->x.cells.length=sz /\
  ∀(j:Nat) (c:AV),x.cells[j]? = some c->∃v,arr[i*sz+j]? = some v/\v.oneCell'=true/\VR C D O w c v
section
variable {P:Program} {Z:List (Nat × AV)} {X:Nat->Prop} {C:Nat->dP} {D:Nat->Prop} {O:Nat->Prop} {mem:aP} {w w':World}
theorem qB(hm:MR Z X C D mem w){b:Nat}(h:OX X C mem b):b<w.heap.size:=by
 rcases h with h|⟨p,hp,hn,rfl⟩
 .exact(hm.bar b h).1
 .obtain⟨o,ho,_⟩:=hm.blk p hp hn;rcases aAr (C p.1).b w.heap.size with h|h
  .exact h
  .rw[aCF h] at ho;cases ho
theorem MR.alloc{n:Nat}{D':Nat->Prop}(hn0:¬D n)(hD:∀i,D i->D' i)(hDn:D' n)(hm:MR Z X C D mem w){t:TypeId}{xs:List AV}{arr:Array Value}{sz:Nat}{fr:Nat × Nat}(hw:w'.heap=w.heap.push (.cells arr t fr))(hos:G6 w w')
  (hfr:∀j,j<arr.size->¬(fr.1<=j/\j<fr.2)) (hr:CJ C D (OX X C mem) w sz arr xs) (hsz:arr.size=0->xs=[]) :
  MR Z X (gP C n ⟨w.heap.size,arr.size,sz⟩) D' ((n,.row t sz xs)::mem) w' /\
  (∀v x,VR C D (OX X C mem) w v x->VR (gP C n ⟨w.heap.size,arr.size,sz⟩) D' (OX X (gP C n ⟨w.heap.size,arr.size,sz⟩) ((n,.row t sz xs)::mem)) w' v x) /\
  (∀A:Nat->Prop,(∀i,A i->D i)->Ext A C mem w (gP C n ⟨w.heap.size,arr.size,sz⟩) D' ((n,.row t sz xs)::mem) w'):=by
 have hne:∀p∈mem,p.1≠n:=λp hp e=>hn0 (e ▸ hm.low p hp)
 have hρ:∀id,D id->gP C n ⟨w.heap.size,arr.size,sz⟩ id=C id:=λid h=>D2 _ _ _ (λe=>hn0 (e ▸ h))
 have hρm:∀p∈mem,gP C n ⟨w.heap.size,arr.size,sz⟩ p.1=C p.1:=λp hp=>hρ _ (hm.low p hp)
 have hheap:∀b,b<w.heap.size->w'.heap[b]? = w.heap[b]? := λb hb=>by rw[hw,aCh];simp[Nat.ne_of_lt hb]
 have hnew:w'.heap[w.heap.size]? = some (.cells arr t fr):=by rw[hw];simp
 have hsize:w'.heap.size=w.heap.size+1:=by rw[hw];simp
 have hk:∀b,b<w.heap.size->¬OX X C mem b->¬OX X (gP C n ⟨w.heap.size,arr.size,sz⟩) ((n,.row t sz xs)::mem) b/\w'.heap[b]? = w.heap[b]? := by
  intro b hb ho;refine⟨?_,hheap b hb⟩;rintro(h|⟨p,hp,hn,e⟩)
  .exact ho (.inl h)
  .rcases aAj.1 hp with rfl|hp
   .rw[cS] at e;simp at e;omega
   .rw[hρm p hp] at e hn;exact ho (.inr ⟨p,hp,hn,e⟩)
 have hmono:∀v x,VR C D (OX X C mem) w v x->VR (gP C n ⟨w.heap.size,arr.size,sz⟩) D' (OX X (gP C n ⟨w.heap.size,arr.size,sz⟩) ((n,.row t sz xs)::mem)) w' v x:=
  λv x h=>h.mono hρ hD hk
 refine⟨⟨?_, ?_, ?_, ?_, ?_, ?_, ?_⟩,hmono,λB hB=>⟨λi hi=>hD i (hB i hi),λid h=>hρ id (hB id h),om,λb hb _=>hheap b hb, ?_,hos⟩⟩
 .intro p hp;rcases aAj.1 hp with rfl|hp
  .exact hDn
  .exact hD _ (hm.low p hp)
 .intro p hp hn;rcases aAj.1 hp with rfl|hp
  .rw[cS];exact⟨_,hnew,rfl,arr,fr,rfl,hfr,rfl,hr.1,λi x hi=>⟨(hr.2 i x hi).1,λj c hj=>by
    obtain⟨v,hv,h1,h⟩:=(hr.2 i x hi).2 j c hj;exact⟨v,hv,h1,hmono _ _ h⟩⟩⟩
  .rw[hρm p hp] at hn |-;obtain⟨o,ho,hb⟩:=hm.blk p hp hn;have hlt:=qB hm (.inr ⟨p,hp,hn,rfl⟩);exact⟨o,by rw[hheap _ hlt];exact ho,hb.mono hρ hD hk⟩
 .intro p hp hn;rcases aAj.1 hp with rfl|hp
  .rw[cS] at hn |-;exact⟨t,sz,by rw[hsz hn],rfl⟩
  .rw[hρm p hp] at hn |-;exact hm.emp p hp hn
 .intro p hp q hq hpn hqn e;rcases aAj.1 hp with rfl|hp<;>rcases aAj.1 hq with rfl|hq
  .rfl
  .rw[hρm q hq] at e hqn;rw[cS] at e;have:=qB hm (.inr ⟨q,hq,hqn,rfl⟩);simp at e;omega
  .rw[hρm p hp] at e hpn;rw[cS] at e;have:=qB hm (.inr ⟨p,hp,hpn,rfl⟩);simp at e;omega
  .rw[hρm p hp] at e hpn;rw[hρm q hq] at e hqn;exact hm.inj p hp q hq hpn hqn e
 .simp only[aAT,aA8];refine⟨λh=>?_,hm.nod⟩;obtain⟨p,hp,e⟩:=aAE.1 h;exact hne p hp e
 .intro b hb;obtain⟨h1,h2⟩:=hm.bar b hb;refine⟨om, ?_⟩;rintro⟨p,hp,hn,e⟩;rcases aAj.1 hp with rfl|hp
  .rw[cS] at e;simp at e;omega
  .rw[hρm p hp] at e hn;exact h2 ⟨p,hp,hn,e⟩
 .exact λp hp=>hmono _ _ (hm.glo p hp)
 .intro p hp hn;rcases aAj.1 hp with rfl|hp
  .rw[cS];exact .inr (aAp _)
  .rw[hρm p hp] at hn |-;exact .inl ⟨p,hp,hn,rfl⟩
theorem IN:∀{m:aP} {id:Nat} {a b:AB},lk m id=some a->(up m id b).map (·.1)=m.map (·.1)
 | (k,u)::r,id,a,b,h=>by
  simp only[lk] at h;simp only[up];split at h
  .rfl
  .simp[IN h]
theorem oS:∀{m:aP} {id:Nat} {a b:AB} (_:lk m id=some a) (_:(m.map (·.1)).Nodup) {p:Nat × AB},p∈up m id b->p=(id,b)\/(p∈m/\p.1≠id)
 | (k,u)::r,id,a,b,h,hn,p,hp=>by
  simp only[lk] at h;simp only[up] at hp;simp only[aAT,aA8] at hn;cases hk:Nat.beq k id with
  | true=>
   rw[hk] at hp;have hk:=Nat.eq_of_beq_eq_true hk;subst hk;rcases aAj.1 hp with rfl|hp
   .exact .inl rfl
   .refine .inr ⟨aAo _ hp,λe=>hn.1 (aAE.2 ⟨p,hp,e⟩)⟩
  | false=>
   rw[hk] at hp h;rcases aAj.1 hp with rfl|hp
   .exact .inr ⟨aAv ..,aBj hk⟩
   .rcases oS h hn.2 hp with h1|⟨h1,h2⟩
    .exact .inl h1
    .exact .inr ⟨aAo _ h1,h2⟩
theorem MR.change(hm:MR Z X C D mem w){id:Nat}{t:TypeId}{sz:Nat}{xs xs':List AV}(hid:lk mem id=some (.row t sz xs))(hn:0<(C id).n){arr:Array Value}{fr:Nat × Nat}
  (hw:w'.heap=w.heap.setIfInBounds (C id).b (.cells arr t fr)) (hos:G6 w w') (hfr:∀j,j<arr.size->¬(fr.1<=j/\j<fr.2)) (hsize:arr.size=(C id).n)
  (hr:CJ C D (OX X C mem) w sz arr xs') :
  MR Z X C D (up mem id (.row t sz xs')) w' /\
  (∀v x,VR C D (OX X C mem) w v x->VR C D (OX X C (up mem id (.row t sz xs'))) w' v x) /\
  (∀A:Nat->Prop,(∀i,A i->D i)->Ext A C mem w C D (up mem id (.row t sz xs')) w'):=by
 have hidm:=b8 hid;have hszr:(C id).sz=sz:=Ae hm hid;have hlt:=qB hm (.inr ⟨_,hidm,hn,rfl⟩);have hheap:∀b,b≠(C id).b->w'.heap[b]? = w.heap[b]? := λb hb=>by rw[hw,aBG (Ne.symm hb)]
 have hnew:w'.heap[(C id).b]? = some (.cells arr t fr):=by rw[hw];simp[hlt]
 have hsz:w'.heap.size=w.heap.size:=by rw[hw];simp
 have hown:∀b,own C (up mem id (.row t sz xs')) b->own C mem b:=by
  rintro b ⟨p,hp,hpn,e⟩;rcases oS hid hm.nod hp with rfl|⟨h1,_⟩
  .exact⟨_,hidm,hpn,e⟩
  .exact⟨p,h1,hpn,e⟩
 have hOX:∀b,OX X C (up mem id (.row t sz xs')) b->OX X C mem b:=λb h=>h.imp (λx=>x) (hown b)
 have hk:∀b,b<w.heap.size->¬OX X C mem b->¬OX X C (up mem id (.row t sz xs')) b/\w'.heap[b]? = w.heap[b]? := by
  intro b hb ho;refine⟨λh=>ho (hOX b h),hheap b ?_⟩;rintro rfl;exact ho (.inr ⟨_,hidm,hn,rfl⟩)
 have hmono:∀v x,VR C D (OX X C mem) w v x->VR C D (OX X C (up mem id (.row t sz xs'))) w' v x:=λv x h=>h.mono (λ_ _=>rfl) (λ_ h=>h) hk
 refine⟨⟨?_, ?_, ?_, ?_, ?_, ?_, ?_⟩,hmono,λB hB=>⟨hB,λ_ _=>rfl,om,λb hb ho=>hheap b ?_, ?_,hos⟩⟩
 .intro p hp;rcases oS hid hm.nod hp with rfl|⟨h1,_⟩
  .exact(hm.low _ hidm :)
  .exact hm.low p h1
 .intro p hp hpn;rcases oS hid hm.nod hp with rfl|⟨h1,hne⟩
  .refine⟨_,hnew,hszr,arr,fr,rfl,hfr,hsize,by rw[<-hsize,hszr];exact hr.1,λi x hi=>⟨by rw[hszr];exact(hr.2 i x hi).1,λj c hj=>by
    rw[hszr];obtain⟨v,hv,h1,h⟩:=(hr.2 i x hi).2 j c hj;exact⟨v,hv,h1,hmono _ _ h⟩⟩⟩
  .obtain⟨o,ho,hb⟩:=hm.blk p h1 hpn;refine⟨o, ?_,hb.mono (λ_ _=>rfl) (λ_ h=>h) hk⟩;rw[hheap _ (λe=>hne (hm.inj p h1 _ hidm hpn hn e))];exact ho
 .intro p hp hpn;rcases oS hid hm.nod hp with rfl|⟨h1,hne⟩
  .exact absurd hpn (Nat.ne_of_gt hn)
  .exact hm.emp p h1 hpn
 .intro p hp q hq hpn hqn e;have a:∀p∈up mem id (.row t sz xs'),∃p'∈mem,p'.1=p.1:=by
   intro p hp;rcases oS hid hm.nod hp with rfl|⟨h1,_⟩
   .exact⟨_,hidm,rfl⟩
   .exact⟨p,h1,rfl⟩
  obtain⟨p',hp',e1⟩:=a p hp;obtain⟨q',hq',e2⟩:=a q hq;rw[<-e1,<-e2] at e |-;rw[<-e1] at hpn;rw[<-e2] at hqn;exact hm.inj p' hp' q' hq' hpn hqn e
 .rw[IN hid];exact hm.nod
 .intro b hb;obtain⟨h1,h2⟩:=hm.bar b hb;exact⟨om,λh=>h2 (hown b h)⟩
 .exact λp hp=>hmono _ _ (hm.glo p hp)
 .rintro rfl;exact ho ⟨_,hidm,hn,rfl⟩
 .intro p hp hpn;refine .inl ?_;rcases oS hid hm.nod hp with rfl|⟨h1,_⟩
  .exact⟨_,hidm,hpn,rfl⟩
  .exact⟨p,h1,hpn,rfl⟩
def drop(id:Nat):aP->aP
 | []=>[]
 | (k,u)::r=>match Nat.beq k id with
  | true=>r
  | false=>(k,u)::drop id r
theorem dQ:∀{m:aP} {id:Nat} {p:Nat × AB},p∈drop id m->p∈m
 | (k,u)::r,id,p,hp=>by
  simp only[drop] at hp;split at hp
  .exact aAo _ hp
  .rcases aAj.1 hp with rfl|hp
   .exact aAv ..
   .exact aAo _ (dQ hp)
theorem u9:∀{m:aP} {id:Nat} (_:(m.map (·.1)).Nodup) {p:Nat × AB},p∈drop id m->p.1≠id
 | (k,u)::r,id,hn,p,hp=>by
  simp only[aAT,aA8] at hn;simp only[drop] at hp;split at hp
  .rename_i hk;have hk:=Nat.eq_of_beq_eq_true hk;subst hk;exact λe=>hn.1 (aAE.2 ⟨p,hp,e⟩)
  .rename_i hk;rcases aAj.1 hp with rfl|hp
   .exact aBj hk
   .exact u9 hn.2 hp
theorem l6:∀{m:aP} {id:Nat} (_:(m.map (·.1)).Nodup),((drop id m).map (·.1)).Nodup
 | [],id,hn=>by simp[drop]
 | (k,u)::r,id,hn=>by
  simp only[aAT,aA8] at hn;simp only[drop];split
  .exact hn.2
  .simp only[aAT,aA8];refine⟨λh=>hn.1 ?_,l6 hn.2⟩;obtain⟨p,hp,e⟩:=aAE.1 h;exact aAE.2 ⟨p,dQ hp,e⟩
theorem MR.widen{D':Nat->Prop}(hm:MR Z X C D mem w)(hD:∀i,D i->D' i) :
  MR Z X C D' mem w/\(∀v x,VR C D (OX X C mem) w v x->VR C D' (OX X C mem) w v x)/\(∀A:Nat->Prop,(∀i,A i->D i)->Ext A C mem w C D' mem w):=by
 have hk:∀b,b<w.heap.size->¬OX X C mem b->¬OX X C mem b/\w.heap[b]? = w.heap[b]? := λb _ ho=>⟨ho,rfl⟩
 have hmono:∀v x,VR C D (OX X C mem) w v x->VR C D' (OX X C mem) w v x:=λv x h=>h.mono (λ_ _=>rfl) hD hk
 refine⟨⟨λp hp=>hD _ (hm.low p hp),λp hp hn=>?_,hm.emp,hm.inj,hm.nod,hm.bar,λp hp=>hmono _ _ (hm.glo p hp)⟩,hmono,λB hB=>Ext.refl λi hi=>hD i (hB i hi)⟩;obtain⟨o,ho,hb⟩:=hm.blk p hp hn;exact⟨o,ho,hb.mono (λ_ _=>rfl) hD hk⟩
theorem MR.less(hm:MR Z X C D mem w){mem':aP}(hsub:∀p∈mem',p∈mem)(hnod:(mem'.map (·.1)).Nodup) :
  MR Z X C D mem' w/\(∀v x,VR C D (OX X C mem) w v x->VR C D (OX X C mem') w v x)/\(∀A:Nat->Prop,(∀i,A i->D i)->Ext A C mem w C D mem' w):=by
 have hown:∀b,own C mem' b->own C mem b:=λb ⟨p,hp,hn,e⟩=>⟨p,hsub p hp,hn,e⟩
 have hk:∀b,b<w.heap.size->¬OX X C mem b->¬OX X C mem' b/\w.heap[b]? = w.heap[b]? := λb _ ho=>⟨λh=>ho (h.imp (λx=>x) (hown b)),rfl⟩
 have hmono:∀v x,VR C D (OX X C mem) w v x->VR C D (OX X C mem') w v x:=λv x h=>h.mono (λ_ _=>rfl) (λ_ h=>h) hk
 refine⟨⟨λp hp=>hm.low p (hsub p hp),λp hp hn=>?_,λp hp hn=>hm.emp p (hsub p hp) hn,λp hp q hq=>hm.inj p (hsub p hp) q (hsub q hq),hnod,
  λb hb=>⟨(hm.bar b hb).1,λh=>(hm.bar b hb).2 (hown b h)⟩,λp hp=>hmono _ _ (hm.glo p hp)⟩,hmono,
  λB hB=>⟨hB,λ_ _=>rfl,aAp _,λ_ _ _=>rfl,λp hp hn=>.inl ⟨p,hsub p hp,hn,rfl⟩,.refl _⟩⟩
 obtain⟨o,ho,hb⟩:=hm.blk p (hsub p hp) hn;exact⟨o,ho,hb.mono (λ_ _=>rfl) (λ_ h=>h) hk⟩
end
end Go.Ax
namespace Go.Ax
open Go
variable{n sz N':Nat}{t:TypeId}{mem':aP}{x:Value}{D':Nat->Prop}{v a:AV}{xs:List AV}
def FA(sz:Nat)(sh:Option Nat):Nat->List AV->Option (List AV)
 | 0,_=>some []
 | m+1,cs=>match sub sh cs 0 with
  | some x=>match FA sz sh m (cs.drop sz) with
   | some l=>some (x::l)
   | none=>none
  | none=>none
def GB(P:Program)(t:TypeId)(v:AV):Option (Nat × List AV):=
 match P.underlying t with
 | some (.array m e)=>match v with
  | .agg cs=>match iI P e,GS P e with
   | some sz,some sh=>match Nat.beq (sh.getD 1) sz && (Nat.blt 0 sz && Nat.beq cs.length (m*sz)) with
    | true=>match FA sz sh m cs with
     | some xs=>some (sz,xs)
     | none=>none
    | false=>none
   | _,_=>none
  | _=>none
 | some _=>match mX v with
  | true=>match v.cells with
   | []=>some (0,[])
   | _::_=>some (v.cells.length,[v])
  | false=>none
 | none=>none
section
variable {P:Program} {Z:List (Nat × AV)} {X:Nat->Prop} {C:Nat->dP} {D:Nat->Prop} {O:Nat->Prop} {mem:aP} {w w':World}
theorem Da{sz:Nat}{sh:Option Nat}(hsh:sh.getD 1=sz):∀{m:Nat} {cs:List AV} {xs:List AV},FA sz sh m cs=some xs ->
  xs.length=m/\∀(i:Nat) (x:AV),xs[i]? = some x->x.cells.length=sz/\∀(j:Nat) (c:AV),x.cells[j]? = some c->cs[i*sz+j]? = some c
 | 0,cs,xs,h=>by simp only[FA] at h;cases h;simp
 | m+1,cs,xs,h=>by
  simp only[FA] at h;split at h
  .rename_i x hx;split at h
   .rename_i l hl;cases h;obtain⟨h1,h2⟩:=Da hsh hl;refine⟨by simp[h1],λi y hi=>?_⟩;cases i with
    | zero=>
     simp at hi;subst hi;refine⟨by rw[NY hx];exact hsh,λj c hj=>?_⟩;have:=CW hx j c hj;simpa using this
    | succ i=>
     simp at hi;obtain⟨h3,h4⟩:=h2 i y hi;refine⟨h3,λj c hj=>?_⟩;have:=h4 j c hj;rw[aAV] at this;rw[Nat.add_mul,aBq];rw[<-this];congr 1;omega
   .cases h
  .cases h
theorem xP(h:GB P t v=some (sz,xs))(hx:VR C D O w v x):
  CJ C D O w sz x.cells xs/\(x.cells.size=0->xs=[]):=by
 unfold GB at h;split at h
 .rename_i m e hu;split at h
  .rename_i cs;split at h
   .rename_i sz' sh hsz hsh;split at h
    .rename_i hb;simp only[aAd] at hb;have b1:=Nat.eq_of_beq_eq_true hb.1;have b2:=aAi hb.2.1;have b3:=Nat.eq_of_beq_eq_true hb.2.2;split at h
     .rename_i xs' hxs;cases h;obtain⟨vs,rfl,hvs⟩:=hx.agg_inv;obtain⟨h1,h2⟩:=Da b1 hxs;have hs:vs.length=m*sz:=by rw[<-hvs.1.1];exact b3
      refine⟨⟨by simp[Value.cells,h1,hs],λi y hi=>⟨(h2 i y hi).1,λj c hj=>?_⟩⟩,λh0=>?_⟩
      .obtain⟨v,hv,ho,hr⟩:=hvs.get ((h2 i y hi).2 j c hj);exact⟨v,by simpa[Value.cells] using hv,ho,hr⟩
      .simp[Value.cells] at h0;subst h0;simp at hs;have:m=0:=by
        rcases aAz m with h'|h'
        .exact h'
        .have:=aCd h' b2;omega
       subst this;exact aAB h1
     .cases h
    .cases h
   .cases h
  .cases h
 .split at h
  .rename_i hj;have hc:=hx.cells_of hj;split at h
   .cases h;exact⟨⟨sq,sq⟩,λ_=>rfl⟩
   .rename_i c0 cr hcs;cases h;have hsz:x.cells.size=v.cells.length:=by have:=hc.1.1;simp at this;omega
    refine⟨⟨by simp[hsz],λi y hi=>?_⟩,λh0=>?_⟩
    .cases i with
     | zero=>
      simp at hi;subst hi;refine⟨rfl,λj c hjc=>?_⟩;obtain⟨u,hu,ho,hr⟩:=hc.get hjc;exact⟨u,su hu,ho,hr⟩
     | succ i=>simp at hi
    .rw[hsz,hcs] at h0;simp at h0
  .cases h
 .cases h
def xG(P:Program)(mem:aP)(nx:Nat)(t:TypeId):Option (AV × aP × Nat):=
 match P.info? t with
 | some i=>match i.zero with
  | some z=>match Bz z with
   | some v=>match GB P t v with
    | some (sz,xs)=>some (.ptr nx 0 0,(nx,.row t sz xs)::mem,nx+1)
    | none=>none
   | none=>none
  | none=>none
 | none=>none
def Jt(P:Program)(mem:aP)(nx:Nat)(t:TypeId)(v:AV):Option (AV × aP × Nat):=
 match GB P t v with
 | some (sz,xs)=>some (.ptr nx 0 0,(nx,.row t sz xs)::mem,nx+1)
 | none=>none
structure uK(P:Program)(Z:List (Nat × AV))(X:Nat->Prop)(C:Nat->dP)(D:Nat->Prop)(mem:aP)(w:World)(r:Result Value)(v:AV)(mem':aP)(D':Nat->Prop):Prop where
 ex:∃(x:Value) (w':World) (C':Nat->dP),r = .ok x w'/\MR Z X C' D' mem' w'/\VR C' D' (OX X C' mem') w' v x /\
  (∀u y,VR C D (OX X C mem) w u y->VR C' D' (OX X C' mem') w' u y)/\∀A:Nat->Prop,(∀i,A i->D i)->Ext A C mem w C' D' mem' w'
theorem Y6:∀j,j<n->¬((0,0).1<=j/\j<((0,0):Nat × Nat).2):=λj _ h=>by simp at h
theorem uK.alloc{n:Nat}{D':Nat->Prop}(hn0:¬D n)(hD:∀i,D i->D' i)(hDn:D' n)(hm:MR Z X C D mem w){t:TypeId}{xs:List AV}{arr:Array Value}{sz:Nat}{r:Result Value}{v:AV}(f:Nat->Value)
  (hr:r = .ok (f w.heap.size) w') (hw:w'.heap=w.heap.push (.cells arr t (0,0))) (hos:G6 w w')
  (hrow:CJ C D (OX X C mem) w sz arr xs) (hsz:arr.size=0->xs=[])
  (hv:∀(C':Nat->dP) (O':Nat->Prop),C' n=⟨w.heap.size,arr.size,sz⟩->VR C' D' O' w' v (f w.heap.size)) :
  uK P Z X C D mem w r v ((n,.row t sz xs)::mem) D':=by
 obtain⟨h1,h2,h3⟩:=hm.alloc hn0 hD hDn hw hos Y6 hrow hsz;exact⟨_,w',_,hr,h1,hv _ _ (cS _ _ _),h2,h3⟩
theorem LQ(hn0:¬D n)(hD:∀i,D i->D' i)(hDn:D' n)(hm:MR Z X C D mem w)(h:Jt P mem n t a=some (v,mem',N'))(hx:VR C D (OX X C mem) w a x):
  uK P Z X C D mem w ((Instr.box t x).run P w) v mem' D':=by
 unfold Jt at h;split at h
 .rename_i sz xs hrow;cases h;obtain⟨h1,h2⟩:=xP hrow hx;refine uK.alloc hn0 hD hDn hm (λb=>.pointer (some ⟨b,0,none⟩)) (w':=w.alloc (.cells x.cells t)) (by simp[Instr.box,newVar,newRow]) rfl .go h1 h2 (λC' O' e=>?_);have:=VR.ptr (C:=C') (D:=D') (O:=O') (w:=w.alloc (.cells x.cells t)) n 0 0 hDn;rw[e] at this;simpa using this
 .cases h
theorem Ir(hn0:¬D n)(hD:∀i,D i->D' i)(hDn:D' n)(hm:MR Z X C D mem w)(h:xG P mem n t=some (v,mem',N')):
  uK P Z X C D mem w ((Instr.alloc t true (.tuple #[])).run P w) v mem' D':=by
 unfold xG at h;split at h
 .rename_i i hi;split at h
  .rename_i z hz;split at h
   .rename_i zv hzv;split at h
    .rename_i sz xs hrow;cases h;obtain⟨h1,h2⟩:=xP hrow (mN (C:=C) (D:=D) (O:=OX X C mem) (w:=w) hzv);refine uK.alloc hn0 hD hDn hm (λb=>.pointer (some ⟨b,0,none⟩)) (w':=w.alloc (.cells z.cells t)) (by simp[Instr.alloc,zeroValue,typeInfo,hi,hz,newVar,newRow]) rfl .go h1 h2 (λC' O' e=>?_);have:=VR.ptr (C:=C') (D:=D') (O:=O') (w:=w.alloc (.cells z.cells t)) n 0 0 hDn;rw[e] at this;simpa using this
    .cases h
   .cases h
  .cases h
 .cases h
def xZ(sz:Nat):List AV->List (Nat × AV)->Option (List AV)
 | xs,[]=>some xs
 | xs,(i,v)::r=>match mX v && (Nat.beq v.cells.length sz && Nat.blt i xs.length) with
  | true=>xZ sz (xs.set i v) r
  | false=>none
def nP(P:Program)(e:TypeId):Option AV:=
 match P.info? e with
 | some i=>match i.zero with
  | some z=>Bz z
  | none=>none
 | none=>none
def jG(P:Program)(mem:aP)(nx:Nat)(t:TypeId)(len:Nat)(parts:List (Nat × AV)):Option (AV × aP × Nat):=
 match P.underlying t with
 | some (.slice e)=>match iI P e,nP P e with
  | some sz,some z=>match mX z && (Nat.beq z.cells.length sz && (Nat.blt 0 sz && Nat.ble (len*sz) 16777216)) with
   | true=>match xZ sz (List.replicate len z) parts with
    | some xs=>some (.sl nx 0 len,(nx,.row e sz xs)::mem,nx+1)
    | none=>none
   | false=>none
  | _,_=>none
 | _=>none
theorem sW(off:Nat):∀(l:List (Value × Nat)) (L:List Value),(l.foldl (λcs p=>cs.set (off+p.2) p.1) L).length=L.length
 | [],L=>rfl
 | p::l,L=>by simp only[aAy];rw[sW off l];simp
theorem z6(off:Nat):∀(vs:List Value) (k:Nat) (L:List Value) (p:Nat),off+k+vs.length<=L.length ->
  ((vs.zipIdx k).foldl (λcs q=>cs.set (off+q.2) q.1) L)[p]? = if off+k<=p/\p<off+k+vs.length then vs[p-(off+k)]? else L[p]?
 | [],k,L,p,h=>by
  have:¬(off+k<=p/\p<off+k+([]:List Value).length):=by simp only[aBC];omega
  rw[aAe this];simp
 | v::vs,k,L,p,h=>by
  simp only[aAH] at h;simp only[aBI,aAy];rw[z6 off vs (k+1) (L.set (off+k) v) p (by simp;omega)];by_cases hp:p=off+k
  .subst hp;rw[aAe om,aAh sq];rw[aBQ];rw[aAh rfl,aAh om];simp
  .by_cases h1:off+(k+1)<=p/\p<off+(k+1)+vs.length
   .rw[aAh h1,aAh (by simp;omega)];have:p-(off+k)=(p-(off+(k+1)))+1:=om;rw[this];simp
   .rw[aAe h1,aAe (by simp only[aAH];omega)];rw[aBQ];rw[aAe (λe=>hp e.symm)]
theorem Bu{sz:Nat}:∀{parts:List (Nat × AV)} {ps:List (Nat × Value)} {xs ys:List AV} {A:Array Value},
  xZ sz xs parts=some ys->parts.length=ps.length ->
  (∀(j:Nat) (p:Nat × AV) (q:Nat × Value),parts[j]? = some p->ps[j]? = some q->p.1=q.1/\VR C D O w p.2 q.2) ->
  CJ C D O w sz A xs->A.size=xs.length*sz->∃B:Array Value,Instr.fill (λi=>some (i*sz,sz)) A ps=some B/\CJ C D O w sz B ys/\B.size=xs.length*sz/\ys.length=xs.length
 | [],ps,xs,ys,A,h,hl,hp,hA,hs=>by
  have:ps=[]:=by simp at hl;exact aAB hl.symm
  subst this;simp only[xZ] at h;cases h;exact⟨A,rfl,hA,hs,rfl⟩
 | (i,v)::r,ps,xs,ys,A,h,hl,hp,hA,hs=>by
  cases ps with
  | nil=>simp at hl
  | cons q ps=>
   obtain⟨i',x⟩:=q;obtain⟨e,hv⟩:=hp 0 _ _ rfl rfl;simp only at e hv;subst e;simp only[xZ] at h;split at h
   .rename_i hb;simp only[aAd] at hb;have h1:=Nat.eq_of_beq_eq_true hb.2.1;have h2:i<xs.length:=aAi hb.2.2;have hc:=hv.cells_of hb.1;have e1:x.cells.toList.length=sz:=by rw[<-hc.1.1];exact h1
    have e1':x.cells.size=sz:=su e1
    have hle:(i+1)*sz<=xs.length*sz:=aAG _ h2;rw[Nat.add_mul,aBq] at hle;have hget:=λp=>z6 (i*sz) x.cells.toList 0 A.toList p (by simp[e1',hs];omega)
    have hA':CJ C D O w sz (Array.foldl (λcs p=>cs.setIfInBounds (i*sz+p.2) p.1) A x.cells.zipIdx) (xs.set i v):=by
     have hlen:(Array.foldl (λcs p=>cs.setIfInBounds (i*sz+p.2) p.1) A x.cells.zipIdx).toList=(x.cells.toList.zipIdx 0).foldl (λcs q=>cs.set (i*sz+q.2) q.1) A.toList:=by
      rw[<-Array.foldl_toList,kW,Array.toList_zipIdx]
     have hsz':(Array.foldl (λcs p=>cs.setIfInBounds (i*sz+p.2) p.1) A x.cells.zipIdx).size=A.size:=by
      rw[<-Array.length_toList,hlen,sW];simp
     refine⟨by rw[hsz',aB3];exact hA.1,λk y hk=>?_⟩;have hg:∀p,(Array.foldl (λcs p=>cs.setIfInBounds (i*sz+p.2) p.1) A x.cells.zipIdx)[p]? = if i*sz+0<=p/\p<i*sz+0+x.cells.toList.length then x.cells.toList[p-(i*sz+0)]? else A.toList[p]? := by
      intro p;rw[<-hget p,<-hlen];simp
     rw[aBQ] at hk;by_cases hik:i=k
     .subst hik;rw[aAh rfl,aAh h2] at hk;cases hk;refine⟨h1,λj c hj=>?_⟩;have hjl:j<sz:=by
       rw[<-h1];rcases aAr j v.cells.length with h'|h'
       .exact h'
       .rw[aAs h'] at hj;cases hj
      obtain⟨u,hu,ho,hr⟩:=hc.get hj;refine⟨u, ?_,ho,hr⟩;rw[hg,aAh om];rw[show i*sz+j-(i*sz+0)=j by omega];exact hu
     .rw[aAe hik] at hk;obtain⟨h3,h4⟩:=hA.2 k y hk;refine⟨h3,λj c hj=>?_⟩;obtain⟨u,hu,ho,hr⟩:=h4 j c hj;have hjl:j<sz:=by
       rw[<-h3];rcases aAr j y.cells.length with h'|h'
       .exact h'
       .rw[aAs h'] at hj;cases hj
      refine⟨u, ?_,ho,hr⟩;rw[hg,aAe,aBi]
      .exact hu
      .rintro⟨h5,h6⟩;rcases Nat.lt_or_gt_of_ne hik with h7|h7
       .have:(i+1)*sz<=k*sz:=aAG _ h7;rw[Nat.add_mul,aBq] at this;omega
       .have:(k+1)*sz<=i*sz:=aAG _ h7;rw[Nat.add_mul,aBq] at this;omega
    have hsz2:(Array.foldl (λcs p=>cs.setIfInBounds (i*sz+p.2) p.1) A x.cells.zipIdx).size=(xs.set i v).length*sz:=by
     rw[aB3,<-hs,<-Array.length_toList,<-Array.foldl_toList,kW,sW];simp
    obtain⟨B,hB,hr,hBs,hys⟩:=Bu (A:=Array.foldl (λcs p=>cs.setIfInBounds (i*sz+p.2) p.1) A x.cells.zipIdx) h (su hl)
     (λj p q h1 h2=>hp (j+1) p q (su h1) (su h2)) hA' hsz2
    refine⟨B, ?_,hr,su hBs,su hys⟩;rw[Instr.fill];simp only[];rw[aAe (by simp[e1',hs];omega)];exact hB
   .cases h
theorem getElem!_lt {z:Array Value} {i:Nat} (h:i<z.size):z[i]! = z[i]:=by simp[h]
theorem JW{z:AV}{zx:Value}(hz:VR C D O w z zx)(hj:mX z=true)(hl:z.cells.length=sz)(hp:0<sz)(len n:Nat)(hn:len*sz<=n):
  CJ C D O w sz ((Array.range n).map λk=>zx.cells[k%zx.cells.size]!) (List.replicate len z):=by
 have hc:=hz.cells_of hj;have hs:zx.cells.size=sz:=by have:=hc.1.1;simp at this;omega
 refine⟨by simp;exact hn,λi x hi=>?_⟩;rw[aBr] at hi;split at hi
 .rename_i hlt;cases hi;refine⟨hl,λj c hjc=>?_⟩;have hjl:j<sz:=by
   rw[<-hl];rcases aAr j z.cells.length with h'|h'
   .exact h'
   .rw[aAs h'] at hjc;cases hjc
  obtain⟨u,hu,ho,hr⟩:=hc.get hjc;refine⟨u, ?_,ho,hr⟩;have hlt2:i*sz+j<n:=by
   have:(i+1)*sz<=len*sz:=aAG _ hlt;rw[Nat.add_mul,aBq] at this;omega
  have hmod:(i*sz+j)%sz=j:=by rw[aBg,Nat.mul_add_mod];exact aBb hjl
  have hu':zx.cells[j]? = some u:=su hu
  rw[Array.getElem?_map];simp only[Array.getElem?_range,hlt2,if_true,aBM,hs,hmod];rw[getElem!_lt om];rw[aCc om] at hu';exact hu'
 .cases hi
theorem BV{n:Nat}{D':Nat->Prop}(hn0:¬D n)(hD:∀i,D i->D' i)(hDn:D' n)(hm:MR Z X C D mem w){t:TypeId}{len:Nat}{parts:List (Nat × AV)}{ps:List (Nat × Value)}{v:AV}{mem':aP}{N':Nat}
  (h:jG P mem n t len parts=some (v,mem',N')) (hl:parts.length=ps.length)
  (hp:∀(j:Nat) (p:Nat × AV) (q:Nat × Value),parts[j]? = some p->ps[j]? = some q->p.1=q.1/\VR C D (OX X C mem) w p.2 q.2) :
  uK P Z X C D mem w ((Instr.buildSlice t len ps.toArray).run P w) v mem' D':=by
 unfold jG at h;split at h
 .rename_i e hu;split at h
  .rename_i sz z hsz hz;split at h
   .rename_i hb;simp only[aAd] at hb;have b1:=Nat.eq_of_beq_eq_true hb.2.1;have b2:0<sz:=aAi hb.2.2.1;have b3:=aAi hb.2.2.2;split at h
    .rename_i xs hxs;cases h;unfold nP at hz;split at hz
     .rename_i i hi;split at hz
      .rename_i zx hzx;have hzr:=mN (C:=C) (D:=D) (O:=OX X C mem) (w:=w) hz;have hmade:=JW hzr hb.1 b1 b2 len (len*sz) (aAp _);obtain⟨B,hB,hr,hBs,hys⟩:=Bu hxs hl hp hmade sq;simp only[aA9] at hBs hys;have hrun:=iX (w:=w) hsz;have hbig:¬(len*sz>16777216):=om;refine uK.alloc hn0 hD hDn hm (λb=>.slice (some ⟨b,0,none⟩) len len) (w':=w.alloc (.cells B e)) ?_ rfl .go hr (λh0=>?_) (λC' O' eq=>?_)
       .by_cases h0:len*sz=0
        .have hB':Instr.fill (λi=>some (i*sz,sz)) #[] ps=some B:=by
          rw[<-hB];congr 1;rw[h0];simp[Array.range_zero']
         simp only[Instr.buildSlice,Sem.run_bind,run_underlying hu,Result.andThen_ok,hrun];simp[h0,Array.range_zero',hB',newRow]
        .simp only[Instr.buildSlice,Sem.run_bind,run_underlying hu,Result.andThen_ok,hrun];simp[hbig,h0,zeroValue,typeInfo,hi,hzx,hB,newRow]
       .rw[hBs] at h0;have:len=0:=by
         rcases aAz len with h'|h'
         .exact h'
         .have:=aCd h' b2;omega
        exact aAB om
       .have:=VR.sl (C:=C') (D:=D') (O:=O') (w:=w.alloc (.cells B e)) n 0 len len hDn (aAp _) (by rw[eq];simp[hBs]);rw[eq] at this;simpa using this
      .cases hz
     .cases hz
    .cases h
   .cases h
  .cases h
 .cases h
end
end Go.Ax
namespace Go.Ax
open Go
theorem nG(w:World)(g:Nat)(cur arr:Array Value)(t:TypeId)(fr:Nat × Nat)(h:w.heap[g]? = some (.cells cur t fr)) :
  (w.setRow g arr).heap=w.heap.setIfInBounds g (.cells arr t fr):=by
 apply aC2;intro i;simp only[World.setRow,aBU,aCS];by_cases hi:g=i
 .subst hi;have hlt:g<w.heap.size:=by
   rcases aAr g w.heap.size with h'|h'
   .exact h'
   .rw[aCF h'] at h;cases h
  rw[aCc hlt] at h;simp only[Option.some.injEq] at h;simp[h,hlt]
 .simp[hi]
theorem fO(P:Program)(g o:Nat)(t:TypeId)(fr:Nat × Nat):∀(vs:List Value) (i:Nat) (cur:Array Value) (w:World),w.heap[g]? = some (.cells cur t fr) ->
  (∀j,j<cur.size->¬(fr.1<=j/\j<fr.2))->o+i+vs.length<=cur.size->(∀v∈vs,v.oneCell'=true) ->
  (storeCells ⟨g,o,none⟩ vs i).run P w = .ok () (w.setRow g (cur.toList.take (o+i)++vs++cur.toList.drop (o+i+vs.length)).toArray)
 | [],i,cur,w,hg,_,_,_=>by
  simp only[storeCells,aA3,aBC,aBo,List.take_append_drop,aCp];rw[setRow_self w g cur t fr hg];rfl
 | v::rest,i,cur,w,hg,hf,hl,h1=>by
  have hi:o+i<cur.size:=by simp at hl;omega
  have hadd:(⟨g,o,none⟩:Addr).add i=⟨g,o+i,none⟩:=by unfold Addr.add;split<;>simp_all
  have hcell:w.cell? ⟨g,o+i,none⟩=some cur[o+i]:=by simp[World.cell?,hg,hi]
  have hfro:w.frozen? ⟨g,o+i,none⟩=false:=by
   have:=hf _ hi;simp only[World.frozen?,hg];rw[aBV];by_cases h:fr.1<=o+i
   .right;simp;omega
   .left;simpa using h
  have hst:(store ((⟨g,o,none⟩:Addr).add i) v).run P w = .ok () (w.setRow g (cur.setIfInBounds (o+i) v)):=by
   rw[hadd,run_store P w _ v _ (h1 v sq),hcell];simp[hfro,setCell_eq_setRow w g (o+i) cur t fr v hg]
  have ih:=fO P g o t fr rest (i+1) (cur.setIfInBounds (o+i) v) (w.setRow g (cur.setIfInBounds (o+i) v)) (setRow_heap w g cur _ t _ hg) (su hf) (by simp at hl |-;omega) (λx hx=>h1 x (by simp[hx]));simp only[storeCells,Sem.run_bind,hst,Result.andThen_ok,ih,setRow_setRow];congr 3;have e:=list_seg_step cur.toList (o+i) v rest (by simp at hl |-;omega);simpa[Array.toList_setIfInBounds,Nat.add_assoc] using e
def xQ(x:AV)(j:Nat)(cs:List AV):Option AV:=
 match x with
 | .agg xs=>some (.agg (xs.take j++cs++xs.drop (j+cs.length)))
 | _=>match cs with
  | [c]=>one c
  | _=>none
def B5(P:Program)(mem:aP)(t:TypeId)(p v:AV):Option aP:=
 match p with
 | .ptr id i j=>match lk mem id with
  | some (.row t' sz' xs)=>match xs[i]? with
   | some x=>match iI P t with
    | some n=>match mX v && (Nat.beq v.cells.length n && Nat.ble (j+n) x.cells.length) with
     | true=>match xQ x j v.cells with
      | some x'=>some (up mem id (.row t' sz' (xs.set i x')))
      | none=>none
     | false=>none
    | none=>none
   | none=>none
  | _=>none
 | _=>none
def ID(P:Program)(mem:aP)(t:TypeId)(p v:AV):Option aP:=
 match p with
 | .ptr id 0 0=>match lk mem id with
  | some (.row t' sz' (_::xs))=>match P.underlying t with
   | some (.array _ _)=>match GB P t v with
    | some (sz,ys)=>match iI P t with
     | some n=>match mX v && (Nat.beq v.cells.length n && (Nat.beq sz sz' && (Nat.beq ys.length (xs.length+1) && Nat.beq n (ys.length*sz)))) with
      | true=>some (up mem id (.row t' sz' ys))
      | false=>none
     | none=>none
    | none=>none
   | _=>none
  | _=>none
 | _=>none
def zE(P:Program)(mem:aP)(t:TypeId)(p v:AV):Option aP:=
 match p with
 | .ptr _ _ _=>match iI P t with
  | some 0=>match mX v with
   | true=>match v.cells with
    | []=>some mem
    | _::_=>none
   | false=>none
  | _=>none
 | _=>none
def AU(P:Program)(mem:aP)(t:TypeId)(p v:AV):Option aP:=
 match zE P mem t p v with
 | some m=>some m
 | none=>match B5 P mem t p v with
  | some m=>some m
  | none=>ID P mem t p v
section
variable {P:Program} {Z:List (Nat × AV)} {X:Nat->Prop} {C:Nat->dP} {D:Nat->Prop} {O:Nat->Prop} {mem:aP} {w w':World}
theorem E5{x x':AV}{j:Nat}{cs:List AV}(h:xQ x j cs=some x')(hl:j+cs.length<=x.cells.length) :
  x'.cells.length=x.cells.length/\∀(k:Nat) (c:AV),x'.cells[k]? = some c->(j<=k/\k<j+cs.length/\cs[k-j]? = some c)\/(¬(j<=k/\k<j+cs.length)/\x.cells[k]? = some c):=by
 unfold xQ at h;split at h
 .rename_i xs;cases h;simp only[AV.cells] at hl |-;refine⟨by simp;omega,λk c hk=>?_⟩;rw[List.append_assoc,aAO] at hk;have e1:(xs.take j).length=j:=by simp;omega
  rw[e1] at hk;by_cases h1:k<j
  .rw[aAh h1,aAL,aAh h1] at hk;exact .inr ⟨om,hk⟩
  .rw[aAe h1,aAO] at hk;by_cases h2:k-j<cs.length
   .rw[aAh h2] at hk;exact .inl ⟨om,om,hk⟩
   .rw[aAe h2,aAV] at hk;refine .inr ⟨om, ?_⟩;rw[<-hk];congr 1;omega
 .rename_i hagg;split at h
  .rename_i c;obtain⟨rfl,hoc⟩:=Fv h;have hxc:x.cells=[x]:=by
    cases x<;>first|rfl|exact(hagg _ rfl).elim
   rw[hxc] at hl |-;simp at hl;subst hl;rw[hoc];refine⟨rfl,λk c hk=>.inl ?_⟩;cases k with
   | zero=>simp at hk;subst hk;simp
   | succ k=>simp at hk
  .cases h
theorem GT(hm:MR Z X C D mem w){t:TypeId}{p v:AV}{x y:Value}{mem':aP}(h:B5 P mem t p v=some mem')
  (hx:VR C D (OX X C mem) w p x) (hy:VR C D (OX X C mem) w v y) :
  ∃w',(Instr.storeAt t x y).run P w = .ok () w'/\MR Z X C D mem' w'/\(∀u z,VR C D (OX X C mem) w u z->VR C D (OX X C mem') w' u z)/\∀A:Nat->Prop,(∀i,A i->D i)->Ext A C mem w C D mem' w':=by
 unfold B5 at h;split at h
 .rename_i id i j;split at h
  .rename_i t' sz' xs hid;split at h
   .rename_i e he;split at h
    .rename_i n hn;split at h
     .rename_i hb;simp only[aAd] at hb;have b1:=Nat.eq_of_beq_eq_true hb.2.1;have b3:=aAi hb.2.2;split at h
      .rename_i e' he';cases h;cases hx;obtain⟨s1,s2⟩:=E5 he' om;have hn0:0<(C id).n:=by
        rcases aAz (C id).n with h'|h'
        .obtain⟨t2,sz2,e2,_⟩:=hm.emp _ (b8 hid) h';cases e2;simp at he
        .exact h'
       obtain⟨o,ho,q0,arr,fr,rfl,hfr,q1,q2,q3⟩:=hm.blk _ (b8 hid) hn0;have hc:=hy.cells_of hb.1;simp only at ho q0 q1 q2 q3;have hsz:(C id).sz=e.cells.length:=((q3 i e he).1).symm;have hlt:i<xs.length:=by
        rcases aAr i xs.length with h'|h'
        .exact h'
        .rw[aAs h'] at he;cases he
       have hle:(i+1)*(C id).sz<=xs.length*(C id).sz:=aAG _ hlt;rw[Nat.add_mul,aBq] at hle;have hyl:y.cells.toList.length=n:=by rw[<-hc.1.1];exact b1
       have hys:y.cells.size=n:=su hyl
       have hfit:i*(C id).sz+j+0+y.cells.toList.length<=arr.size:=om;have hrun:=fO P (C id).b (i*(C id).sz+j) t' fr y.cells.toList 0 arr w ho hfr hfit hc.2;simp only[aBo] at hrun hfit;refine⟨w.setRow (C id).b (List.take (i*(C id).sz+j) arr.toList++y.cells.toList++List.drop (i*(C id).sz+j+y.cells.toList.length) arr.toList).toArray, ?_,
        hm.change hid hn0 (xs':=xs.set i e') (nG w _ arr _ t' fr ho) .go ?_ ?_ ?_⟩
       .have hsz2:=iX (w:=w) hn;simp[Instr.storeAt,Instr.sureAddr,storeVar,hsz2,hys,hrun]
       .intro k hk;refine hfr k ?_;simp at hk;omega
       .simp;omega
       .rw[<-q0];refine⟨by simp;omega,λk z hk=>?_⟩;have harr:∀q,(List.take (i*(C id).sz+j) arr.toList++y.cells.toList++List.drop (i*(C id).sz+j+y.cells.toList.length) arr.toList).toArray[q]? =
          if i*(C id).sz+j<=q/\q<i*(C id).sz+j+n then y.cells.toList[q-(i*(C id).sz+j)]? else arr[q]? := by
         intro q;rw[aBJ,List.append_assoc,aAO];have e1:(List.take (i*(C id).sz+j) arr.toList).length=i*(C id).sz+j:=by simp;omega
         rw[e1];by_cases h1:q<i*(C id).sz+j
         .rw[aAh h1,aAe om,aAL,aAh h1,aBi]
         .rw[aAe h1,aAO,hyl];by_cases h2:q-(i*(C id).sz+j)<n
          .rw[aAh h2,aAh om]
          .rw[aAe h2,aAe om,aAV,aBi];congr 1;omega
        rw[aBQ] at hk;by_cases hik:i=k
        .subst hik;rw[aAh rfl,aAh hlt] at hk;cases hk;refine⟨by rw[s1,hsz],λl c hl=>?_⟩;rcases s2 l c hl with⟨g1,g2,g3⟩|⟨g1,g2⟩
         .obtain⟨u,hu,ho1,hr⟩:=hc.get g3;refine⟨u, ?_,ho1,hr⟩;rw[harr,aAh om];rw[show i*(C id).sz+l-(i*(C id).sz+j)=l-j by omega];exact hu
         .obtain⟨u,hu,ho1,hr⟩:=(q3 i e he).2 l c g2;refine⟨u, ?_,ho1,hr⟩;rw[harr,aAe om];exact hu
        .rw[aAe hik] at hk;refine⟨(q3 k z hk).1,λl c hl=>?_⟩;obtain⟨u,hu,ho1,hr⟩:=(q3 k z hk).2 l c hl;refine⟨u, ?_,ho1,hr⟩;have hll:l<(C id).sz:=by
          rw[<-(q3 k z hk).1];rcases aAr l z.cells.length with h'|h'
          .exact h'
          .rw[aAs h'] at hl;cases hl
         rw[harr,aAe]
         .exact hu
         .rintro⟨h5,h6⟩;rcases Nat.lt_or_gt_of_ne hik with h7|h7
          .have:(i+1)*(C id).sz<=k*(C id).sz:=aAG _ h7;rw[Nat.add_mul,aBq] at this;omega
          .have:(k+1)*(C id).sz<=i*(C id).sz:=aAG _ h7;rw[Nat.add_mul,aBq] at this;omega
      .cases h
     .cases h
    .cases h
   .cases h
  .cases h
 .cases h
theorem GL(hm:MR Z X C D mem w){t:TypeId}{p v:AV}{x y:Value}{mem':aP}(h:ID P mem t p v=some mem')
  (hx:VR C D (OX X C mem) w p x) (hy:VR C D (OX X C mem) w v y) :
  ∃w',(Instr.storeAt t x y).run P w = .ok () w'/\MR Z X C D mem' w'/\(∀u z,VR C D (OX X C mem) w u z->VR C D (OX X C mem') w' u z)/\∀A:Nat->Prop,(∀i,A i->D i)->Ext A C mem w C D mem' w':=by
 unfold ID at h;split at h<;>first|(cases h;done)|skip
 rename_i id;split at h<;>first|(cases h;done)|skip
 rename_i t' sz' x0 xs hid;split at h<;>first|(cases h;done)|skip
 split at h<;>first|(cases h;done)|skip
 rename_i sz ys hrow;split at h<;>first|(cases h;done)|skip
 rename_i n hn;split at h<;>first|(cases h;done)|skip
 rename_i hb;cases h;simp only[aAd] at hb;obtain⟨hok,b1,b2,b3,b4⟩:=hb;have b1:=Nat.eq_of_beq_eq_true b1;have b2:=Nat.eq_of_beq_eq_true b2;have b3:=Nat.eq_of_beq_eq_true b3;have b4:=Nat.eq_of_beq_eq_true b4;subst b2;cases hx;have hn0:0<(C id).n:=by
  rcases aAz (C id).n with h'|h'
  .obtain⟨t2,sz2,e2,_⟩:=hm.emp _ (b8 hid) h';cases e2
  .exact h'
 obtain⟨o,ho,q0,arr,fr,rfl,hfr,q1,q2,q3⟩:=hm.blk _ (b8 hid) hn0;have hc:=hy.cells_of hok;simp only at ho q0 q1 q2 q3;have hyl:y.cells.toList.length=n:=by rw[<-hc.1.1];exact b1
 have hys:y.cells.size=n:=su hyl
 have hle:n<=arr.size:=by
  rw[b4,b3,q1,<-q0];simpa using q2
 obtain⟨r1,r2⟩:=xP hrow hy;have hrun:=fO P (C id).b 0 t' fr y.cells.toList 0 arr w ho hfr om hc.2;simp only[aBo,aAF,aBZ,aAZ] at hrun;have harr:∀q,q<n->(y.cells.toList++List.drop y.cells.toList.length arr.toList).toArray[q]? = y.cells[q]? := by
  intro q hq;rw[aBJ,aAO,aAh om,aBi]
 refine⟨w.setRow (C id).b (y.cells.toList++List.drop y.cells.toList.length arr.toList).toArray, ?_,
  hm.change hid hn0 (xs':=ys) (nG w _ arr _ t' fr ho) .go ?_ ?_ ?_⟩
 .have hsz2:=iX (w:=w) hn;simp[Instr.storeAt,Instr.sureAddr,storeVar,hsz2,hys];simpa[hys] using hrun
 .intro k hk;refine hfr k ?_;simp at hk;omega
 .simp;omega
 .refine⟨by simp;omega,λk z hk=>⟨(r1.2 k z hk).1,λl c hl=>?_⟩⟩;obtain⟨u,hu,ho1,hr⟩:=(r1.2 k z hk).2 l c hl;refine⟨u, ?_,ho1,hr⟩;have hq:k*sz+l<n:=by
   have:=(aC1.1 hu).1;omega
  rw[harr _ hq];exact hu
theorem GR(hm:MR Z X C D mem w){t:TypeId}{p v:AV}{x y:Value}{mem':aP}(h:zE P mem t p v=some mem')
  (hx:VR C D (OX X C mem) w p x) (hy:VR C D (OX X C mem) w v y) :
  ∃w',(Instr.storeAt t x y).run P w = .ok () w'/\MR Z X C D mem' w'/\(∀u z,VR C D (OX X C mem) w u z->VR C D (OX X C mem') w' u z)/\∀A:Nat->Prop,(∀i,A i->D i)->Ext A C mem w C D mem' w':=by
 unfold zE at h;split at h<;>first|(cases h;done)|skip
 split at h<;>first|(cases h;done)|skip
 rename_i hn;split at h<;>first|(cases h;done)|skip
 rename_i ho;split at h<;>first|(cases h;done)|skip
 rename_i hc;cases h;cases hx;have hys:y.cells = #[]:=by
  have:=(hy.cells_of ho).1.1;rw[hc] at this;exact aBX (by simpa using this.symm)
 have hsz2:=iX (w:=w) hn;exact⟨w,by simp[Instr.storeAt,Instr.sureAddr,storeVar,hsz2,hys,storeCells],hm,λ_ _ h=>h,λA hA=>Ext.refl hA⟩
theorem Ho(hm:MR Z X C D mem w){t:TypeId}{p v:AV}{x y:Value}{mem':aP}(h:AU P mem t p v=some mem')
  (hx:VR C D (OX X C mem) w p x) (hy:VR C D (OX X C mem) w v y) :
  ∃w',(Instr.storeAt t x y).run P w = .ok () w'/\MR Z X C D mem' w'/\(∀u z,VR C D (OX X C mem) w u z->VR C D (OX X C mem') w' u z)/\∀A:Nat->Prop,(∀i,A i->D i)->Ext A C mem w C D mem' w':=by
 unfold AU at h;split at h
 .rename_i m hm1;cases h;exact GR hm hm1 hx hy
 .split at h
  .rename_i m hm1;cases h;exact GT hm hm1 hx hy
  .exact GL hm h hx hy
def DB(P:Program)(mem:aP)(nx:Nat)(t:TypeId)(l c:AV):Option (AV × aP × Nat):=
 match l,c with
 | .int _ l,.int _ c=>match P.underlying t with
  | some (.slice e)=>match P.info? e with
   | some i=>match nP P e with
    | some z=>match mX z && (Nat.beq z.cells.length i.size && (Nat.blt 0 i.size && (decide (0<=l) && (decide (l<=c) && (decide ((i.bytes:Int)*c<=281474976710656) && decide (c<=9223372036854775807)))))) with
     | true=>some (.sl nx 0 l.toNat,(nx,.row e i.size (List.replicate l.toNat z))::mem,nx+1)
     | false=>none
    | none=>none
   | none=>none
  | _=>none
 | _,_=>none
theorem JT{n:Nat}{D':Nat->Prop}(hn0:¬D n)(hD:∀i,D i->D' i)(hDn:D' n)(hm:MR Z X C D mem w){t:TypeId}{a b v:AV}{x y:Value}{mem':aP}{N':Nat}(h:DB P mem n t a b=some (v,mem',N'))
  (hx:VR C D (OX X C mem) w a x) (hy:VR C D (OX X C mem) w b y):uK P Z X C D mem w ((Instr.makeSlice t x y).run P w) v mem' D':=by
 unfold DB at h;split at h
 .rename_i k1 l k2 c;cases hx;cases hy;split at h
  .rename_i e hu;split at h
   .rename_i i hi;split at h
    .rename_i z hz;split at h
     .rename_i hb;simp only[aAd] at hb;obtain⟨b0,b1,b2,b3,b4,b5,b6⟩:=hb;have b1:=Nat.eq_of_beq_eq_true b1;have b2:0<i.size:=aAi b2;have b3:=aAY b3;have b4:=aAY b4;have b5:=aAY b5;have b6:=aAY b6;cases h;unfold nP at hz;rw[hi] at hz;simp only at hz;split at hz
      .rename_i zx hzx;have hrun:=run_make (P:=P) w t e i zx hu hi hzx k1 k2 l c b3 b4 b5 b6;have hle:l.toNat*i.size<=c.toNat*i.size:=aAG _ om;have hrow:=JW (mN (C:=C) (D:=D) (O:=OX X C mem) (w:=w) hz) b0 b1 b2 l.toNat (c.toNat*i.size) hle;refine uK.alloc hn0 hD hDn hm (λb=>.slice (some ⟨b,0,none⟩) l.toNat c.toNat) hrun rfl .go (sz:=i.size) hrow (λh0=>?_) (λC' O' eq=>?_)
       .rw[size_madeCells] at h0;have:l.toNat=0:=by
         rcases aAz l.toNat with h'|h'
         .exact h'
         .have:=aCd h' b2;omega
        rw[this];rfl
       .have:=VR.sl (C:=C') (D:=D') (O:=O') (w:=w.alloc (.cells (madeCells zx.cells (c.toNat*i.size)) e)) n 0 l.toNat c.toNat hDn om (by rw[eq];simp[size_madeCells]);rw[eq] at this;simpa using this
      .cases hz
     .cases h
    .cases h
   .cases h
  .cases h
 .cases h
end
end Go.Ax
namespace Go.Ax
open Go
variable{n sz:Nat}{u:TypeId}{x:Value}{a:AV}{ys:List AV}{vs:List Value}
def Pl(mem:aP)(sz:Nat):AV->Option (List AV)
 | .nsl=>some []
 | .il sz' ys=>match Nat.beq sz' sz with
  | true=>some ys
  | false=>none
 | .sl id off len=>match lk mem id with
  | some (.row _ sz' xs)=>match Nat.beq sz' sz && Nat.ble (off+len) xs.length with
   | true=>some ((xs.drop off).take len)
   | false=>none
  | _=>none
 | .str s=>match Nat.beq sz 1 with
  | true=>some (s.map λb=>.int .u8 (b.toNat:Int))
  | false=>none
 | _=>none
def Am:Option TypeDesc->Bool
 | some (.slice _)=>true
 | some .string=>true
 | _=>false
def vU(P:Program)(mem:aP)(nx:Nat)(t u:TypeId)(s x:AV):Option (AV × aP × Nat):=
 match P.underlying t with
 | some (.slice e)=>match P.info? e with
  | some i=>match i.zero with
   | some z=>match Am (P.underlying u) && (Nat.blt 0 i.size && Nat.beq z.cells.size i.size) with
    | true=>match Pl mem i.size x with
     | some ys=>match s with
      | .nsl=>match Nat.ble (ys.length*i.bytes) 140737488355328 && Nat.ble ys.length 9223372036854775807 with
       | true=>some (.sl nx 0 ys.length,(nx,.row e i.size ys)::mem,nx+1)
       | false=>none
      | .sl id 0 len=>match lk mem id with
       | some (.row t' sz' xs)=>match Nat.beq t' e && (Nat.beq sz' i.size && (Nat.beq len xs.length && (Nat.ble ((len+ys.length)*i.bytes) 140737488355328 && Nat.ble (len+ys.length) 9223372036854775807))) with
        | true=>some (.sl nx 0 (len+ys.length),(nx,.row e i.size (xs++ys))::drop id mem,nx+1)
        | false=>none
       | _=>none
      | _=>none
     | none=>none
    | false=>none
   | none=>none
  | none=>none
 | _=>none
section
variable {P:Program} {Z:List (Nat × AV)} {X:Nat->Prop} {C:Nat->dP} {D:Nat->Prop} {O:Nat->Prop} {mem:aP} {w w':World}
def xD(C:Nat->dP)(D:Nat->Prop)(O:Nat->Prop)(w:World)(sz:Nat)(ys:List AV)(vs:List Value):Prop:=
 vs.length=ys.length*sz/\(∀v∈vs,v.oneCell'=true)/\∀(i:Nat) (y:AV),ys[i]? = some y->y.cells.length=sz /\
  ∀(j:Nat) (c:AV),y.cells[j]? = some c->∃v,vs[i*sz+j]? = some v/\VR C D O w c v
theorem HZ{q:Nat}(hp:0<sz)(h:q<n*sz):q/sz<n/\q%sz<sz/\q/sz*sz+q%sz=q:=
 ⟨(aBW hp).2 h,aBt _ hp,by rw[aBg];exact aCx q sz⟩
theorem M3{sz:Nat}{ys:List AV}{b off:Nat}(hp:0<sz)
  (hc:∀(i:Nat) (y:AV),ys[i]? = some y->y.cells.length=sz/\∀(j:Nat) (c:AV),y.cells[j]? = some c->∃v,w.cell? ⟨b,off+(i*sz+j),none⟩=some v/\v.oneCell'=true/\VR C D O w c v) :
  ∃vs,xD C D O w sz ys vs/\∀(j:Nat) (v:Value),vs[j]? = some v->w.cell? (Addr.add ⟨b,off,none⟩ j)=some v:=by
 have key:∀q,q<ys.length*sz->∃v,w.cell? ⟨b,off+q,none⟩=some v/\v.oneCell'=true/\∀(y c:AV),ys[q/sz]? = some y->y.cells[q%sz]? = some c->VR C D O w c v:=by
  intro q hq;obtain⟨h1,h2,h3⟩:=HZ hp hq;have hy:ys[q/sz]? = some ys[q/sz]:=aAa h1;obtain⟨h4,h5⟩:=hc _ _ hy;have hcc:ys[q/sz].cells[q%sz]? = some (ys[q/sz].cells[q%sz]'om):=aAa _;obtain⟨v,hv,ho,hr⟩:=h5 _ _ hcc;rw[h3] at hv;refine⟨v,hv,ho,λy c e1 e2=>?_⟩;rw[hy] at e1;cases e1;rw[hcc] at e2;cases e2;exact hr
 refine⟨(List.range (ys.length*sz)).map λq=>(w.cell? ⟨b,off+q,none⟩).getD undef,⟨sq,λv hv=>?_,λi y hi=>⟨(hc i y hi).1,λj c hj=>?_⟩⟩,λj v hj=>?_⟩
 .obtain⟨q,hq,rfl⟩:=aAE.1 hv;obtain⟨v,hv,ho,_⟩:=key q (aCi.1 hq);simp[hv,ho]
 .obtain⟨v,hv,ho,hr⟩:=(hc i y hi).2 j c hj;have hjl:j<sz:=by
   rw[<-(hc i y hi).1];rcases aAr j y.cells.length with h'|h'
   .exact h'
   .rw[aAs h'] at hj;cases hj
  have hil:i<ys.length:=by
   rcases aAr i ys.length with h'|h'
   .exact h'
   .rw[aAs h'] at hi;cases hi
  have:(i+1)*sz<=ys.length*sz:=aAG _ hil;rw[Nat.add_mul,aBq] at this;refine⟨v, ?_,hr⟩;rw[aAK,aB6 om];simp[hv]
 .have hjl:j<ys.length*sz:=by
   rcases aAr j (ys.length*sz) with h'|h'
   .exact h'
   .simp[h'] at hj
  obtain⟨v',hv,_⟩:=key j hjl;simp[hjl,hv] at hj;subst hj;simp[Addr.add_lit,hv]
theorem Fx(hm:MR Z X C D mem w)(hp:0<sz)(h:Pl mem sz a=some ys)(hx:VR C D (OX X C mem) w a x):
  ∃vs,xD C D (OX X C mem) w sz ys vs/\Builtin.lenOf x=pure ys.length/\∀w',w'.heap=w.heap->(Builtin.firstCells sz ys.length x).run P w' = .ok vs.toArray w':=by
 have cellw:∀w':World,w'.heap=w.heap->∀a,w'.cell? a=w.cell? a:=λw' e a=>by simp[World.cell?,e]
 have fin:∀{b off len cap:Nat},(∀(i:Nat) (y:AV),ys[i]? = some y->y.cells.length=sz/\∀(j:Nat) (c:AV),y.cells[j]? = some c->∃v,w.cell? ⟨b,off+(i*sz+j),none⟩=some v/\v.oneCell'=true/\VR C D (OX X C mem) w c v) ->
   len=ys.length->∃vs,xD C D (OX X C mem) w sz ys vs/\Builtin.lenOf (.slice (some ⟨b,off,none⟩) len cap)=pure ys.length /\
    ∀w',w'.heap=w.heap->(Builtin.firstCells sz ys.length (.slice (some ⟨b,off,none⟩) len cap)).run P w' = .ok vs.toArray w':=by
  intro b off len cap hc hl;obtain⟨vs,hf,hv⟩:=M3 hp hc;refine⟨vs,hf,by rw[hl];rfl,λw' e=>?_⟩;exact run_firstCells_some w' sz ys.length ⟨b,off,none⟩ len cap vs hf.1 (λj v hj=>by rw[cellw w' e];exact hv j v hj)
 have finz:ys=[]->∀(ad:Option Addr) (cap:Nat),x = .slice ad 0 cap->∃vs,xD C D (OX X C mem) w sz ys vs/\Builtin.lenOf x=pure ys.length /\
    ∀w',w'.heap=w.heap->(Builtin.firstCells sz ys.length x).run P w' = .ok vs.toArray w':=by
  intro e ad cap ex;subst e ex;refine⟨[],⟨sq,sq,sq⟩,rfl,λw' _=>?_⟩;cases ad with
  | none=>rfl
  | some ad=>simp[Builtin.firstCells,loadCells,loadCellsFrom]
 unfold Pl at h;split at h
 .cases h;cases hx;exact finz rfl _ _ rfl
 .rename_i sz' ys';split at h
  .rename_i hs;have hs:=Nat.eq_of_beq_eq_true hs;cases h;subst hs;cases hx with
   | il _ _ b off cap f h0 h1 h2 h3=>
    exact fin (λi y hi=>⟨h1 i y hi,λj c hj=>⟨f i j,(h2 i y j c hi hj).2.1,(h2 i y j c hi hj).2.2,h3 i y j c hi hj⟩⟩) rfl
   | iln=>exact finz rfl _ _ rfl
  .cases h
 .rename_i id off len;split at h
  .rename_i t' sz' xs hid;split at h
   .rename_i hb;rw[aAd] at hb;have b1:=Nat.eq_of_beq_eq_true hb.1;have b2:=aAi hb.2;have hz:(C id).sz=sz:=by rw[Ae hm hid];exact b1
    cases h;cases hx with
    | sl _ _ _ cap hid' g1 g2=>
     refine fin (λi y hi=>?_) (by simp;omega);have hi':xs[off+i]? = some y:=by
      rw[aAL] at hi;split at hi
      .rw[aAV] at hi;exact hi
      .cases hi
     obtain⟨h1,h2⟩:=iB hm hid hi';refine⟨by rw[h1,hz],λj c hj=>?_⟩;obtain⟨v,hv,ho,hr⟩:=h2 j c hj;refine⟨v, ?_,ho,hr⟩;rw[hz,Nat.add_mul,Nat.add_assoc] at hv;rw[hz];exact hv
    | slz _ _ ad ao hid'=>exact finz sq _ _ rfl
    | slzn _ _ hid'=>exact finz sq _ _ rfl
   .cases h
  .cases h
 .rename_i s;split at h
  .rename_i hs;have hs:=Nat.eq_of_beq_eq_true hs;cases h;subst hs;cases hx;refine⟨s.map λb=>.int .u8 (b.toNat:Int),⟨sq,λv hv=>?_,λi y hi=>?_⟩, ?_,λw' _=>?_⟩
   .obtain⟨b,_,rfl⟩:=aAE.1 hv;rfl
   .rw[aAK] at hi;obtain⟨b,hb,rfl⟩:=aCG.1 hi;refine⟨rfl,λj c hj=>?_⟩;cases j with
    | zero=>
     simp[AV.cells] at hj;subst hj;exact⟨_,by simp[aAK,hb],.int _ _⟩
    | succ j=>simp[AV.cells] at hj
   .simp[Builtin.lenOf,ByteArray.size_mk']
   .simp[Builtin.firstCells,ByteArray.extract_mk]
  .cases h
 .cases h
theorem xD.row(h:xD C D O w sz ys vs){pre:List AV}{ps:List Value}(h':xD C D O w sz pre ps)(post:Array Value):
  CJ C D O w sz (ps.toArray++vs.toArray++post) (pre++ys):=by
 obtain⟨h1,ho,h2⟩:=h;obtain⟨h3,ho',h4⟩:=h';refine⟨by simp[h1,h3,Nat.add_mul],λi y hi=>?_⟩;have key:∀(q:Nat) (v:Value),(ps++vs)[q]? = some v->(ps.toArray++vs.toArray++post)[q]? = some v:=by
  intro q v hq;have hlt:q<(ps++vs).length:=by
   rcases aAr q (ps++vs).length with h'|h'
   .exact h'
   .rw[aAs h'] at hq;cases hq
  rw[aCJ,aAh (su hlt)];simpa using hq
 rw[aAO] at hi;split at hi
 .rename_i hlt;refine⟨(h4 i y hi).1,λj c hj=>?_⟩;obtain⟨v,hv,hr⟩:=(h4 i y hi).2 j c hj;refine⟨v,key _ _ ?_,ho' v (aAm hv),hr⟩;have hlt2:i*sz+j<ps.length:=by
   rcases aAr (i*sz+j) ps.length with h'|h'
   .exact h'
   .rw[aAs h'] at hv;cases hv
  rw[aAO,aAh hlt2];exact hv
 .rename_i hge;refine⟨(h2 _ y hi).1,λj c hj=>?_⟩;obtain⟨v,hv,hr⟩:=(h2 _ y hi).2 j c hj;refine⟨v,key _ _ ?_,ho v (aAm hv),hr⟩;have e:i*sz+j=ps.length+((i-pre.length)*sz+j):=by
   rw[h3,Nat.sub_mul];have:pre.length*sz<=i*sz:=aAG _ om;omega
  rw[e,aAW om];rw[aCE];exact hv
theorem oQ(hu:Am (P.underlying u)=true):(∃e,P.underlying u=some (.slice e))\/P.underlying u=some .string:=by
 cases h:P.underlying u with
 | none=>rw[h] at hu;cases hu
 | some d=>rw[h] at hu;cases d<;>first|exact .inr rfl|exact .inl ⟨_,rfl⟩|(simp[Am] at hu)
theorem Do{t u ty e:TypeId}{i:TypeInfo}{z x:Value}{base:Option Addr}{sLen sCap n:Nat}{news olds:Array Value}(ht:P.underlying t=some (.slice e))(hu:Am (P.underlying u)=true)
  (hi:P.info? e=some i) (hz:i.zero=some z) (hlen:Builtin.lenOf x=pure n) (hnew:∀w',w'.heap=w.heap->(Builtin.firstCells i.size n x).run P w' = .ok news w')
  (hold:∀w',w'.heap=w.heap->(Builtin.firstCells i.size sLen (.slice base sLen sCap)).run P w' = .ok olds w') (hgt:sCap<sLen+n) (h63:sLen+n<=9223372036854775807) (h47:(sLen+n)*i.bytes<=140737488355328) :
  (Builtin.append_ #[t,u] ty #[.slice base sLen sCap,x]).run P w =
   .ok (.slice (some ⟨w.heap.size,0,none⟩) (sLen+n) (grownCap w (sLen+n) sCap e)) (w.drew.alloc (.cells (olds++news++Builtin.zeroCells z.cells (grownCap w (sLen+n) sCap e-(sLen+n))) e)):=by
 have hn:¬(sLen+n<=sCap):=om;have h48:=growslice_fits hgt h47;have h48':¬(281474976710656<Builtin.nextslicecap (sLen+n) sCap*i.bytes):=om;have h63':¬((9223372036854775807:Int)<(sLen:Int)+(n:Int)/\i.bytes=0):=by rintro⟨h1,_⟩;omega
 have hnew':=hnew w.drew rfl;have hold':=hold w.drew rfl;rcases oQ hu with⟨e',hd⟩|hd
 .simp[Builtin.append_,run_underlying ht,run_underlying hd,Go.sizeOf,typeInfo,zeroValue,hi,hz,hlen,hn,h63',h48',Question.forced,hnew',hold',newRow,grownCap]
 .simp[Builtin.append_,run_underlying ht,run_underlying hd,Go.sizeOf,typeInfo,zeroValue,hi,hz,hlen,hn,h63',h48',Question.forced,hnew',hold',newRow,grownCap]
theorem Di{t u ty e:TypeId}{i:TypeInfo}{x:Value}{g sLen sCap n:Nat}{news:List Value}{cur:Array Value}{fr:Nat × Nat}(ht:P.underlying t=some (.slice e))(hu:Am (P.underlying u)=true)
  (hi:P.info? e=some i) (hlen:Builtin.lenOf x=pure n) (hnew:(Builtin.firstCells i.size n x).run P w = .ok news.toArray w) (hg:w.heap[g]? = some (.cells cur e fr)) (hfr:∀j,j<cur.size->¬(fr.1<=j/\j<fr.2))
  (hone:∀v∈news,v.oneCell'=true) (hroom:sLen+n<=sCap) (hfit:sLen*i.size+news.length<=cur.size) :
  (Builtin.append_ #[t,u] ty #[.slice (some ⟨g,0,none⟩) sLen sCap,x]).run P w =
   .ok (.slice (some ⟨g,0,none⟩) (sLen+n) sCap) (w.setRow g (cur.toList.take (sLen*i.size)++news++cur.toList.drop (sLen*i.size+news.length)).toArray):=by
 have hst:=fO P g (sLen*i.size) e fr news 0 cur w hg hfr (su hfit) hone;simp only[aBo] at hst;rcases oQ hu with⟨e',hd⟩|hd
 .simp[Builtin.append_,run_underlying ht,run_underlying hd,Go.sizeOf,typeInfo,hi,hlen,hroom,hnew,Addr.add_lit,hst]
 .simp[Builtin.append_,run_underlying ht,run_underlying hd,Go.sizeOf,typeInfo,hi,hlen,hroom,hnew,Addr.add_lit,hst]
theorem wD{t u ty e:TypeId}{i:TypeInfo}{x:Value}{ad:Option Addr}(ht:P.underlying t=some (.slice e))(hu:Am (P.underlying u)=true)
  (hi:P.info? e=some i) (hlen:Builtin.lenOf x=pure 0) (hnew:(Builtin.firstCells i.size 0 x).run P w = .ok #[] w) :
  (Builtin.append_ #[t,u] ty #[.slice ad 0 0,x]).run P w = .ok (.slice ad 0 0) w:=by
 rcases oQ hu with⟨e',hd⟩|hd
 .cases ad<;>simp[Builtin.append_,run_underlying ht,run_underlying hd,Go.sizeOf,typeInfo,hi,hlen,hnew,storeCells]
 .cases ad<;>simp[Builtin.append_,run_underlying ht,run_underlying hd,Go.sizeOf,typeInfo,hi,hlen,hnew,storeCells]
end
end Go.Ax
namespace Go.Ax
open Go
variable{n sz id:Nat}{D':Nat->Prop}
section
variable {P:Program} {Z:List (Nat × AV)} {X:Nat->Prop} {C:Nat->dP} {D:Nat->Prop} {O:Nat->Prop} {mem:aP} {w w':World}
theorem MR.phantom(hn0:¬D n)(hD:∀i,D i->D' i)(hDn:D' n)(hm:MR Z X C D mem w)(t:TypeId)(sz:Nat):
  MR Z X (gP C n ⟨0,0,sz⟩) D' ((n,.row t sz [])::mem) w /\
  (∀v x,VR C D (OX X C mem) w v x->VR (gP C n ⟨0,0,sz⟩) D' (OX X (gP C n ⟨0,0,sz⟩) ((n,.row t sz [])::mem)) w v x) /\
  (∀A:Nat->Prop,(∀i,A i->D i)->Ext A C mem w (gP C n ⟨0,0,sz⟩) D' ((n,.row t sz [])::mem) w):=by
 have hne:∀p∈mem,p.1≠n:=λp hp e=>hn0 (e ▸ hm.low p hp)
 have hρ:∀id,D id->gP C n ⟨0,0,sz⟩ id=C id:=λid h=>D2 _ _ _ (λe=>hn0 (e ▸ h))
 have hρm:∀p∈mem,gP C n ⟨0,0,sz⟩ p.1=C p.1:=λp hp=>hρ _ (hm.low p hp)
 have hown:∀b,own (gP C n ⟨0,0,sz⟩) ((n,.row t sz [])::mem) b->own C mem b:=by
  rintro b ⟨p,hp,hn,e⟩;rcases aAj.1 hp with rfl|hp
  .rw[cS] at hn;simp at hn
  .rw[hρm p hp] at hn e;exact⟨p,hp,hn,e⟩
 have hk:∀b,b<w.heap.size->¬OX X C mem b->¬OX X (gP C n ⟨0,0,sz⟩) ((n,.row t sz [])::mem) b/\w.heap[b]? = w.heap[b]? :=
  λb _ ho=>⟨λh=>ho (h.imp (λx=>x) (hown b)),rfl⟩
 have hmono:∀v x,VR C D (OX X C mem) w v x->VR (gP C n ⟨0,0,sz⟩) D' (OX X (gP C n ⟨0,0,sz⟩) ((n,.row t sz [])::mem)) w v x:=
  λv x h=>h.mono hρ hD hk
 refine⟨⟨?_, ?_, ?_, ?_, ?_, ?_, ?_⟩,hmono,λB hB=>⟨λi hi=>hD i (hB i hi),λid h=>hρ id (hB id h),aAp _,λ_ _ _=>rfl, ?_,.go⟩⟩
 .intro p hp;rcases aAj.1 hp with rfl|hp
  .exact hDn
  .exact hD _ (hm.low p hp)
 .intro p hp hn;rcases aAj.1 hp with rfl|hp
  .rw[cS] at hn;simp at hn
  .rw[hρm p hp] at hn |-;obtain⟨o,ho,hb⟩:=hm.blk p hp hn;exact⟨o,ho,hb.mono hρ hD hk⟩
 .intro p hp hn;rcases aAj.1 hp with rfl|hp
  .exact⟨t,sz,rfl,by rw[cS]⟩
  .rw[hρm p hp] at hn |-;exact hm.emp p hp hn
 .intro p hp q hq hpn hqn e;rcases aAj.1 hp with rfl|hp
  .rw[cS] at hpn;simp at hpn
  .rcases aAj.1 hq with rfl|hq
   .rw[cS] at hqn;simp at hqn
   .rw[hρm p hp] at e hpn;rw[hρm q hq] at e hqn;exact hm.inj p hp q hq hpn hqn e
 .simp only[aAT,aA8];refine⟨λh=>?_,hm.nod⟩;obtain⟨p,hp,e⟩:=aAE.1 h;exact hne p hp e
 .exact λb hb=>⟨(hm.bar b hb).1,λh=>(hm.bar b hb).2 (hown b h)⟩
 .exact λp hp=>hmono _ _ (hm.glo p hp)
 .intro p hp hn;exact .inl (hown _ ⟨p,hp,hn,rfl⟩)
theorem MR.move(hn0:¬D n)(hD:∀i,D i->D' i)(hDn:D' n)(hm:MR Z X C D mem w){a:AB}(hid:lk mem id=some a):
  MR Z X (gP C n (C id)) D' ((n,a)::drop id mem) w /\
  (∀v x,VR C D (OX X C mem) w v x->VR (gP C n (C id)) D' (OX X (gP C n (C id)) ((n,a)::drop id mem)) w v x) /\
  (∀A:Nat->Prop,(∀i,A i->D i)->Ext A C mem w (gP C n (C id)) D' ((n,a)::drop id mem) w):=by
 have hidm:=b8 hid;have hlow:=hm.low _ hidm;have hρ:∀i,D i->gP C n (C id) i=C i:=λi h=>D2 _ _ _ (λe=>hn0 (e ▸ h))
 have hρm:∀p∈mem,gP C n (C id) p.1=C p.1:=λp hp=>hρ _ (hm.low p hp)
 have hown:∀b,own (gP C n (C id)) ((n,a)::drop id mem) b->own C mem b:=by
  rintro b ⟨p,hp,hn,e⟩;rcases aAj.1 hp with rfl|hp
  .rw[cS] at hn e;exact⟨_,hidm,hn,e⟩
  .have hp:=dQ hp;rw[hρm p hp] at hn e;exact⟨p,hp,hn,e⟩
 have hk:∀b,b<w.heap.size->¬OX X C mem b->¬OX X (gP C n (C id)) ((n,a)::drop id mem) b/\w.heap[b]? = w.heap[b]? :=
  λb _ ho=>⟨λh=>ho (h.imp (λx=>x) (hown b)),rfl⟩
 have hmono:∀v x,VR C D (OX X C mem) w v x->VR (gP C n (C id)) D' (OX X (gP C n (C id)) ((n,a)::drop id mem)) w v x:=
  λv x h=>h.mono hρ hD hk
 refine⟨⟨?_, ?_, ?_, ?_, ?_, ?_, ?_⟩,hmono,λB hB=>⟨λi hi=>hD i (hB i hi),λi h=>hρ i (hB i h),aAp _,λ_ _ _=>rfl, ?_,.go⟩⟩
 .intro p hp;rcases aAj.1 hp with rfl|hp
  .exact hDn
  .exact hD _ (hm.low p (dQ hp))
 .intro p hp hn;rcases aAj.1 hp with rfl|hp
  .rw[cS] at hn |-;obtain⟨o,ho,hb⟩:=hm.blk _ hidm hn;exact⟨o,ho,hb.mono hρ hD hk⟩
  .have hp:=dQ hp;rw[hρm p hp] at hn |-;obtain⟨o,ho,hb⟩:=hm.blk p hp hn;exact⟨o,ho,hb.mono hρ hD hk⟩
 .intro p hp hn;rcases aAj.1 hp with rfl|hp
  .rw[cS] at hn |-;exact hm.emp _ hidm hn
  .have hp:=dQ hp;rw[hρm p hp] at hn |-;exact hm.emp p hp hn
 .intro p hp q hq hpn hqn e;rcases aAj.1 hp with rfl|hp
  .rcases aAj.1 hq with rfl|hq
   .rfl
   .exfalso;have hne:=u9 hm.nod hq;have hq:=dQ hq;rw[hρm q hq] at e hqn;rw[cS] at e hpn;exact hne (hm.inj _ hq _ hidm hqn hpn e.symm)
  .rcases aAj.1 hq with rfl|hq
   .exfalso;have hne:=u9 hm.nod hp;have hp:=dQ hp;rw[hρm p hp] at e hpn;rw[cS] at e hqn;exact hne (hm.inj _ hp _ hidm hpn hqn e)
   .have hp:=dQ hp;have hq:=dQ hq;rw[hρm p hp] at e hpn;rw[hρm q hq] at e hqn;exact hm.inj p hp q hq hpn hqn e
 .simp only[aAT,aA8];refine⟨λh=>?_,l6 hm.nod⟩;obtain⟨p,hp,e⟩:=aAE.1 h;exact hn0 (e ▸ hm.low p (dQ hp))
 .exact λb hb=>⟨(hm.bar b hb).1,λh=>(hm.bar b hb).2 (hown b h)⟩
 .exact λp hp=>hmono _ _ (hm.glo p hp)
 .intro p hp hn;exact .inl (hown _ ⟨p,hp,hn,rfl⟩)
theorem LH:∀{m:aP} {id:Nat} {a b:AB},lk m id=some a->lk (up m id b) id=some b:=by
 intro m id a b h;rw[M8];simp
theorem Nm:∀{m:aP} {id:Nat} {b:AB},drop id (up m id b)=drop id m\/lk m id=none
 | [],id,b=>.inr rfl
 | (k,u)::r,id,b=>by
  simp only[up,drop,lk];cases hk:Nat.beq k id with
  | true=>simp[drop,hk]
  | false=>
   simp only[drop,hk];rcases Nm (m:=r) (id:=id) (b:=b) with h|h
   .exact .inl (by rw[h])
   .exact .inr h
theorem CJ.nil{arr:Array Value}:CJ C D O w sz arr []:=⟨sq,sq⟩
theorem xD.nil:xD C D O w sz [] []:=⟨sq,sq,sq⟩
theorem GK{n:Nat}{D':Nat->Prop}(hn0:¬D n)(hD:∀i,D i->D' i)(hm:MR Z X C D mem w){t u ty:TypeId}{a b v:AV}{x y:Value}{mem':aP}{N':Nat}(hDn':N'=n+1->D' n)(h:vU P mem n t u a b=some (v,mem',N'))
  (hx:VR C D (OX X C mem) w a x) (hy:VR C D (OX X C mem) w b y):uK P Z X C D mem w ((Builtin.append_ #[t,u] ty #[x,y]).run P w) v mem' D':=by
 unfold vU at h;split at h
 .rename_i e ht;split at h
  .rename_i i hi;split at h
   .rename_i z hz;split at h
    .rename_i hb;simp only[aAd] at hb;obtain⟨hu,hp,hzs⟩:=hb;have hp:0<i.size:=aAi hp;have hzs:=Nat.eq_of_beq_eq_true hzs;split at h
     .rename_i ys hys;obtain⟨news,hflat,hlen,hfirst⟩:=Fx (P:=P) hm hp hys hy;have grow:D' n->∀(base:Option Addr) (sLen sCap:Nat) (pre:List AV) (olds:List Value),xD C D (OX X C mem) w i.size pre olds->pre.length=sLen ->
        (∀w',w'.heap=w.heap->(Builtin.firstCells i.size sLen (.slice base sLen sCap)).run P w' = .ok olds.toArray w')->sCap<sLen+ys.length->(sLen+ys.length)*i.bytes<=140737488355328->sLen+ys.length<=9223372036854775807 ->
        uK P Z X C D mem w ((Builtin.append_ #[t,u] ty #[.slice base sLen sCap,y]).run P w) (.sl n 0 (sLen+ys.length)) ((n,.row e i.size (pre++ys))::mem) D':=by
       intro hDn base sLen sCap pre olds hpre hpl hold hgt h47 h63;have hrun:=Do (P:=P) (w:=w) (ty:=ty) ht hu hi hz hlen hfirst hold hgt h63 h47;have hcap:=grownCap_ge w (sLen+ys.length) sCap e;have hsize:(olds.toArray++news.toArray++Builtin.zeroCells z.cells (grownCap w (sLen+ys.length) sCap e-(sLen+ys.length))).size=grownCap w (sLen+ys.length) sCap e*i.size:=by
        simp[size_zeroCells,hzs,hflat.1,hpre.1,hpl];rw[<-Nat.add_mul,<-Nat.add_mul];congr 1;omega
       refine uK.alloc hn0 hD hDn hm (λb=>.slice (some ⟨b,0,none⟩) (sLen+ys.length) (grownCap w (sLen+ys.length) sCap e)) hrun rfl .go (hflat.row hpre _) (λh0=>?_) (λC' O' eq=>?_)
       .exfalso;rw[hsize] at h0;have:=aCd (show 0<grownCap w (sLen+ys.length) sCap e by omega) hp;omega
       .have:=VR.sl (C:=C') (D:=D') (O:=O') (w:=w.drew.alloc (.cells (olds.toArray++news.toArray++Builtin.zeroCells z.cells (grownCap w (sLen+ys.length) sCap e-(sLen+ys.length))) e)) n 0 (sLen+ys.length) (grownCap w (sLen+ys.length) sCap e) hDn hcap (by rw[eq];simp only[hsize];simp);rw[eq] at this;simpa using this
      split at h
      .cases hx;split at h
       .rename_i hb2;rw[aAd] at hb2;have b1:=aAi hb2.1;have b2:=aAi hb2.2;cases h;have hDn:=hDn' rfl;cases ys with
        | nil=>
         have hr:=wD (P:=P) (w:=w) (ty:=ty) (ad:=none) ht hu hi hlen (by have e3:=hfirst w rfl;have:=hflat.1;simp at this;rw[this] at e3;exact e3);obtain⟨w1,w2,w3⟩:=hm.phantom hn0 hD hDn e i.size;exact⟨_,w,_,hr,w1,.slzn n 0 hDn,w2,w3⟩
        | cons y0 yr=>
         have:=grow hDn none 0 0 [] [] xD.nil rfl (λw' _=>rfl) sq (su b1) (su b2);simpa using this
       .cases h
      .rename_i id len;split at h
       .rename_i t' sz' xs hid;split at h
        .rename_i hb2;simp only[aAd] at hb2;obtain⟨c1,c2,c3,c4,c5⟩:=hb2;have c1:=Nat.eq_of_beq_eq_true c1;have c2:=Nat.eq_of_beq_eq_true c2;have c3:=Nat.eq_of_beq_eq_true c3;have c4:=aAi c4;have c5:=aAi c5;cases h;have hDn:=hDn' rfl;have hszr:(C id).sz=i.size:=by rw[Ae hm hid];exact c2
         have hidm:=b8 hid;have growd:∀(base:Option Addr) (sCap:Nat) (olds:List Value),xD C D (OX X C mem) w i.size xs olds ->
           (∀w',w'.heap=w.heap->(Builtin.firstCells i.size len (.slice base len sCap)).run P w' = .ok olds.toArray w')->sCap<len+ys.length ->
           uK P Z X C D mem w ((Builtin.append_ #[t,u] ty #[.slice base len sCap,y]).run P w) (.sl n 0 (len+ys.length)) ((n,.row e i.size (xs++ys))::drop id mem) D':=by
          intro base sCap olds h1 h2 h3;obtain⟨r,w1,ρ1,e1,m1,v1,mono1,ext1⟩:=(grow hDn base len sCap xs olds h1 c3.symm h2 h3 c4 c5).ex;have hsub:∀p∈(n,AB.row e i.size (xs++ys))::drop id mem,p∈(n,AB.row e i.size (xs++ys))::mem:=by
           intro p hp;rcases aAj.1 hp with rfl|hp
           .exact aAv ..
           .exact aAo _ (dQ hp)
          have hnd:(((n,AB.row e i.size (xs++ys))::drop id mem).map (·.1)).Nodup:=by
           simp only[aAT,aA8];refine⟨λh=>?_,l6 hm.nod⟩;obtain⟨p,hp,e'⟩:=aAE.1 h;exact hn0 (e' ▸ hm.low p (dQ hp))
          obtain⟨m2,mono2,ext2⟩:=m1.less hsub hnd;exact⟨r,w1,ρ1,e1,m2,mono2 _ _ v1,λu' y' h'=>mono2 _ _ (mono1 u' y' h'),λB hB=>(ext1 B hB).trans (ext2 B (λi hi=>hD i (hB i hi)))⟩
         have stays:∀(ad:Option Addr),len=0->ys=[]->(∀C':Nat->dP,∀O',VR C' D' O' w (.sl n 0 0) (.slice ad 0 0)) ->
           uK P Z X C D mem w ((Builtin.append_ #[t,u] ty #[.slice ad 0 0,y]).run P w) (.sl n 0 (len+ys.length)) ((n,.row e i.size (xs++ys))::drop id mem) D':=by
          intro ad e0 e1 hv;subst e1;have e2:xs=[]:=aAB om;subst e0 e2;have hr:=wD (P:=P) (w:=w) (ty:=ty) (ad:=ad) ht hu hi hlen (by have e3:=hfirst w rfl;have:=hflat.1;simp at this;rw[this] at e3;exact e3);obtain⟨m1,mono1,ext1⟩:=hm.less (mem':=drop id mem) (λp hp=>dQ hp) (l6 hm.nod);obtain⟨m2,mono2,ext2⟩:=m1.phantom hn0 hD hDn e i.size;exact⟨_,w,_,hr,m2,hv _ _,λu' y' h'=>mono2 _ _ (mono1 _ _ h'),λB hB=>(ext1 B hB).trans (ext2 B hB)⟩
         cases hx with
         | sl _ _ _ cap hid' g1 g2=>
          rcases aAz (C id).n with hn|hn
          .obtain⟨t2,sz2,e2,_⟩:=hm.emp _ hidm hn;simp only[AB.row.injEq] at e2;obtain⟨_,_,rfl⟩:=e2;simp only[aBC] at c3;subst c3;have hcap0:cap=0:=by
            rw[hn,hszr,aAF] at g2;rcases aAz cap with h'|h'
            .exact h'
            .have:=aCd h' hp;omega
           subst hcap0;cases ys with
           | nil=>exact stays _ rfl rfl (λC' O'=>.slz n 0 _ _ hDn)
           | cons y0 yr=>exact growd _ 0 [] xD.nil (λw' _=>by simp[Builtin.firstCells,loadCells,loadCellsFrom]) sq
          .obtain⟨o,ho,q0,arr,fr,rfl,hfr,q1,q2,q3⟩:=hm.blk _ hidm hn;simp only at ho q0 q1 q2 q3;by_cases hroom:len+ys.length<=cap
           .have hfit:len*i.size+news.length<=arr.size:=by
             rw[hflat.1,<-Nat.add_mul,q1];refine aAx (aAG _ hroom) ?_;rw[hszr] at g2;simpa using g2
            have hcell:(Builtin.firstCells i.size ys.length y).run P w = .ok news.toArray w:=hfirst w rfl;subst c1;have hrun:=Di (P:=P) (w:=w) (ty:=ty) (sLen:=len) (sCap:=cap) ht hu hi hlen hcell ho hfr hflat.2.1 hroom hfit;have hrow:CJ C D (OX X C mem) w sz' (arr.toList.take (len*i.size)++news++arr.toList.drop (len*i.size+news.length)).toArray (xs++ys):=by
             have hfx:xD C D (OX X C mem) w i.size xs (arr.toList.take (len*i.size)):=by
              refine⟨by simp;rw[<-c3];omega,λv hv=>?_,λk x' hk=>?_⟩
              .obtain⟨q,hq⟩:=aAU hv;rw[aAL] at hq;split at hq
               .rename_i hlt;rw[c3] at hlt;obtain⟨h1,h2,h3⟩:=HZ hp hlt;have hxx:=aAa h1;obtain⟨h4,h5⟩:=q3 _ _ hxx;have hcc:xs[q/i.size].cells[q%i.size]? = some (xs[q/i.size].cells[q%i.size]'(by rw[h4,hszr];exact h2)):=aAa _;obtain⟨v',hv',ho',_⟩:=h5 _ _ hcc;rw[hszr,h3] at hv';rw[aBi,hv'] at hq;cases hq;exact ho'
               .cases hq
              .obtain⟨h4,h5⟩:=q3 k x' hk;refine⟨by rw[h4,hszr],λj c hj=>?_⟩;obtain⟨v',hv',_,hr'⟩:=h5 j c hj;rw[hszr] at hv';refine⟨v', ?_,hr'⟩;have hkl:k<xs.length:=by
                rcases aAr k xs.length with h'|h'
                .exact h'
                .rw[aAs h'] at hk;cases hk
               have hjl:j<i.size:=by
                rw[<-hszr,<-h4];rcases aAr j x'.cells.length with h'|h'
                .exact h'
                .rw[aAs h'] at hj;cases hj
               have hm2:(k+1)*i.size<=xs.length*i.size:=aAG _ hkl;rw[Nat.add_mul,aBq] at hm2;rw[aAL,aAh (by rw[c3];omega),aBi];exact hv'
             have:=hflat.row hfx (arr.toList.drop (len*i.size+news.length)).toArray;rw[<-c2] at this;rw[<-c2];simpa using this
            have hsz2:(arr.toList.take (len*i.size)++news++arr.toList.drop (len*i.size+news.length)).toArray.size=arr.size:=by simp;omega
            obtain⟨m1,mono1,ext1⟩:=hm.change hid hn (nG w _ arr _ t' fr ho) .go (λj hj=>hfr j (by rw[hsz2] at hj;exact hj)) (by rw[hsz2];exact q1) hrow;obtain⟨m2,mono2,ext2⟩:=m1.move hn0 hD hDn (LH hid);have hdu:drop id (up mem id (.row t' sz' (xs++ys)))=drop id mem:=by
             rcases Nm (m:=mem) (id:=id) (b:=.row t' sz' (xs++ys)) with h'|h'
             .exact h'
             .rw[hid] at h';cases h'
            rw[hdu] at m2 mono2 ext2;subst c2;refine⟨_,_,_,su hrun,m2, ?_,λu' y' h'=>mono2 _ _ (mono1 _ _ h'),λB hB=>(ext1 B hB).trans (ext2 B hB)⟩;have:=VR.sl (C:=gP C n (C id)) (D:=D') (O:=OX X (gP C n (C id)) ((n,.row t' i.size (xs++ys))::drop id mem)) (w:=w.setRow (C id).b (arr.toList.take (len*i.size)++news++arr.toList.drop (len*i.size+news.length)).toArray) n 0 (len+ys.length) cap hDn hroom (by rw[cS];simpa using g2);rw[cS] at this;simpa using this
           .have hfc:∃olds,xD C D (OX X C mem) w i.size xs olds/\∀w',w'.heap=w.heap->(Builtin.firstCells i.size len (.slice (some ⟨(C id).b,0*(C id).sz,none⟩) len cap)).run P w' = .ok olds.toArray w':=by
             obtain⟨vs,hf,hv⟩:=M3 (C:=C) (D:=D) (O:=OX X C mem) (w:=w) (b:=(C id).b) (off:=0) hp (ys:=xs) (λk x' hk=>by
              obtain⟨h4,h5⟩:=iB hm hid hk;refine⟨by rw[h4,hszr],λj c hj=>?_⟩;obtain⟨v',hv',ho',hr'⟩:=h5 j c hj;rw[hszr] at hv';exact⟨v',su hv',ho',hr'⟩)
             refine⟨vs,hf,λw' ew=>?_⟩;rw[aCq];exact run_firstCells_some w' i.size len ⟨(C id).b,0,none⟩ len cap vs (by rw[hf.1,c3]) (λj v hj=>by
              have:=hv j v hj;simpa[World.cell?,ew] using this)
            obtain⟨olds,h1,h2⟩:=hfc;exact growd _ cap olds h1 h2 om
         | slz _ _ ad ao hid'=>
          have e2:xs=[]:=aAB c3.symm;subst e2;cases ys with
          | nil=>exact stays _ rfl rfl (λC' O'=>.slz n 0 _ _ hDn)
          | cons y0 yr=>exact growd _ 0 [] xD.nil (λw' _=>by simp[Builtin.firstCells,loadCells,loadCellsFrom]) sq
         | slzn _ _ hid'=>
          have e2:xs=[]:=aAB c3.symm;subst e2;cases ys with
          | nil=>exact stays _ rfl rfl (λC' O'=>.slzn n 0 hDn)
          | cons y0 yr=>exact growd _ 0 [] xD.nil (λw' _=>rfl) sq
        .cases h
       .cases h
      .cases h
     .cases h
    .cases h
   .cases h
  .cases h
 .cases h
end
end Go.Ax
namespace Go.Ax
open Go
section
variable {P:Program} {Z:List (Nat × AV)} {X:Nat->Prop} {C:Nat->dP} {D:Nat->Prop} {O:Nat->Prop} {mem:aP} {w w':World}
theorem MR.allocG{n:Nat}{D':Nat->Prop}(hn0:¬D n)(hD:∀i,D i->D' i)(hDn:D' n)(hm:MR Z X C D mem w){l:dP}{o:Obj}{a:AB}(hl:l.b=w.heap.size)(hpos:0<l.n)(hw:w'.heap=w.heap.push o)(hos:G6 w w')
  (hr:BR C D (OX X C mem) w l o a) :
  MR Z X (gP C n l) D' ((n,a)::mem) w' /\
  (∀v x,VR C D (OX X C mem) w v x->VR (gP C n l) D' (OX X (gP C n l) ((n,a)::mem)) w' v x) /\
  (∀A:Nat->Prop,(∀i,A i->D i)->Ext A C mem w (gP C n l) D' ((n,a)::mem) w'):=by
 have hne:∀p∈mem,p.1≠n:=λp hp e=>hn0 (e ▸ hm.low p hp)
 have hρ:∀id,D id->gP C n l id=C id:=λid h=>D2 _ _ _ (λe=>hn0 (e ▸ h))
 have hρm:∀p∈mem,gP C n l p.1=C p.1:=λp hp=>hρ _ (hm.low p hp)
 have hheap:∀b,b<w.heap.size->w'.heap[b]? = w.heap[b]? := λb hb=>by rw[hw,aCh];simp[Nat.ne_of_lt hb]
 have hnew:w'.heap[w.heap.size]? = some o:=by rw[hw];simp
 have hsize:w'.heap.size=w.heap.size+1:=by rw[hw];simp
 have hk:∀b,b<w.heap.size->¬OX X C mem b->¬OX X (gP C n l) ((n,a)::mem) b/\w'.heap[b]? = w.heap[b]? := by
  intro b hb ho;refine⟨?_,hheap b hb⟩;rintro(h|⟨p,hp,hn,e⟩)
  .exact ho (.inl h)
  .rcases aAj.1 hp with rfl|hp
   .rw[cS] at e;omega
   .rw[hρm p hp] at e hn;exact ho (.inr ⟨p,hp,hn,e⟩)
 have hmono:∀v x,VR C D (OX X C mem) w v x->VR (gP C n l) D' (OX X (gP C n l) ((n,a)::mem)) w' v x:=
  λv x h=>h.mono hρ hD hk
 refine⟨⟨?_, ?_, ?_, ?_, ?_, ?_, ?_⟩,hmono,λB hB=>⟨λi hi=>hD i (hB i hi),λid h=>hρ id (hB id h),om,λb hb _=>hheap b hb, ?_,hos⟩⟩
 .intro p hp;rcases aAj.1 hp with rfl|hp
  .exact hDn
  .exact hD _ (hm.low p hp)
 .intro p hp hn;rcases aAj.1 hp with rfl|hp
  .rw[cS,hl];exact⟨o,hnew,hr.mono hρ hD hk⟩
  .rw[hρm p hp] at hn |-;obtain⟨o,ho,hb⟩:=hm.blk p hp hn;have hlt:=qB hm (.inr ⟨p,hp,hn,rfl⟩);exact⟨o,by rw[hheap _ hlt];exact ho,hb.mono hρ hD hk⟩
 .intro p hp hn;rcases aAj.1 hp with rfl|hp
  .rw[cS] at hn;omega
  .rw[hρm p hp] at hn |-;exact hm.emp p hp hn
 .intro p hp q hq hpn hqn e;rcases aAj.1 hp with rfl|hp<;>rcases aAj.1 hq with rfl|hq
  .rfl
  .rw[hρm q hq] at e hqn;rw[cS] at e;have:=qB hm (.inr ⟨q,hq,hqn,rfl⟩);omega
  .rw[hρm p hp] at e hpn;rw[cS] at e;have:=qB hm (.inr ⟨p,hp,hpn,rfl⟩);omega
  .rw[hρm p hp] at e hpn;rw[hρm q hq] at e hqn;exact hm.inj p hp q hq hpn hqn e
 .simp only[aAT,aA8];refine⟨λh=>?_,hm.nod⟩;obtain⟨p,hp,e⟩:=aAE.1 h;exact hne p hp e
 .intro b hb;obtain⟨h1,h2⟩:=hm.bar b hb;refine⟨om, ?_⟩;rintro⟨p,hp,hn,e⟩;rcases aAj.1 hp with rfl|hp
  .rw[cS] at e;omega
  .rw[hρm p hp] at e hn;exact h2 ⟨p,hp,hn,e⟩
 .exact λp hp=>hmono _ _ (hm.glo p hp)
 .intro p hp hn;rcases aAj.1 hp with rfl|hp
  .rw[cS,hl];exact .inr (aAp _)
  .rw[hρm p hp] at hn |-;exact .inl ⟨p,hp,hn,rfl⟩
theorem MR.changeG(hm:MR Z X C D mem w){id:Nat}{a a':AB}(hid:lk mem id=some a)(hn:0<(C id).n){o:Obj}
  (hw:w'.heap=w.heap.setIfInBounds (C id).b o) (hos:G6 w w') (hr:BR C D (OX X C mem) w (C id) o a') :
  MR Z X C D (up mem id a') w' /\
  (∀v x,VR C D (OX X C mem) w v x->VR C D (OX X C (up mem id a')) w' v x) /\
  (∀A:Nat->Prop,(∀i,A i->D i)->Ext A C mem w C D (up mem id a') w'):=by
 have hidm:=b8 hid;have hlt:=qB hm (.inr ⟨_,hidm,hn,rfl⟩);have hheap:∀b,b≠(C id).b->w'.heap[b]? = w.heap[b]? := λb hb=>by rw[hw,aBG (Ne.symm hb)]
 have hnew:w'.heap[(C id).b]? = some o:=by rw[hw];simp[hlt]
 have hsz:w'.heap.size=w.heap.size:=by rw[hw];simp
 have hown:∀b,own C (up mem id a') b->own C mem b:=by
  rintro b ⟨p,hp,hpn,e⟩;rcases oS hid hm.nod hp with rfl|⟨h1,_⟩
  .exact⟨_,hidm,hpn,e⟩
  .exact⟨p,h1,hpn,e⟩
 have hOX:∀b,OX X C (up mem id a') b->OX X C mem b:=λb h=>h.imp (λx=>x) (hown b)
 have hk:∀b,b<w.heap.size->¬OX X C mem b->¬OX X C (up mem id a') b/\w'.heap[b]? = w.heap[b]? := by
  intro b hb ho;refine⟨λh=>ho (hOX b h),hheap b ?_⟩;rintro rfl;exact ho (.inr ⟨_,hidm,hn,rfl⟩)
 have hmono:∀v x,VR C D (OX X C mem) w v x->VR C D (OX X C (up mem id a')) w' v x:=λv x h=>h.mono (λ_ _=>rfl) (λ_ h=>h) hk
 refine⟨⟨?_, ?_, ?_, ?_, ?_, ?_, ?_⟩,hmono,λB hB=>⟨hB,λ_ _=>rfl,om,λb hb ho=>hheap b ?_, ?_,hos⟩⟩
 .intro p hp;rcases oS hid hm.nod hp with rfl|⟨h1,_⟩
  .exact(hm.low _ hidm :)
  .exact hm.low p h1
 .intro p hp hpn;rcases oS hid hm.nod hp with rfl|⟨h1,hne⟩
  .exact⟨_,hnew,hr.mono (λ_ _=>rfl) (λ_ h=>h) hk⟩
  .obtain⟨o,ho,hb⟩:=hm.blk p h1 hpn;refine⟨o, ?_,hb.mono (λ_ _=>rfl) (λ_ h=>h) hk⟩;rw[hheap _ (λe=>hne (hm.inj p h1 _ hidm hpn hn e))];exact ho
 .intro p hp hpn;rcases oS hid hm.nod hp with rfl|⟨h1,hne⟩
  .exact absurd hpn (Nat.ne_of_gt hn)
  .exact hm.emp p h1 hpn
 .intro p hp q hq hpn hqn e;have a:∀p∈up mem id a',∃p'∈mem,p'.1=p.1:=by
   intro p hp;rcases oS hid hm.nod hp with rfl|⟨h1,_⟩
   .exact⟨_,hidm,rfl⟩
   .exact⟨p,h1,rfl⟩
  obtain⟨p',hp',e1⟩:=a p hp;obtain⟨q',hq',e2⟩:=a q hq;rw[<-e1,<-e2] at e |-;rw[<-e1] at hpn;rw[<-e2] at hqn;exact hm.inj p' hp' q' hq' hpn hqn e
 .rw[IN hid];exact hm.nod
 .intro b hb;obtain⟨h1,h2⟩:=hm.bar b hb;exact⟨om,λh=>h2 (hown b h)⟩
 .exact λp hp=>hmono _ _ (hm.glo p hp)
 .rintro rfl;exact ho ⟨_,hidm,hn,rfl⟩
 .intro p hp hpn;refine .inl ?_;rcases oS hid hm.nod hp with rfl|⟨h1,_⟩
  .exact⟨_,hidm,hpn,rfl⟩
  .exact⟨p,h1,hpn,rfl⟩
theorem JF(hm:MR Z X C D mem w){id:Nat}{es:List (AV × AV)}(hid:lk mem id=some (.mapb es)):0<(C id).n:=by
 rcases aAz (C id).n with h|h
 .obtain⟨t,sz,e,_⟩:=hm.emp _ (b8 hid) h;cases e
 .exact h
end
end Go.Ax
namespace Go.Ax
open Go
variable{n N':Nat}{t:TypeId}{mem':aP}{x y:Value}{v a:AV}
def Jc(mem:aP)(nx:Nat)(reserve:Option AV):Option (AV × aP × Nat):=
 match reserve with
 | none=>some (.mp nx,(nx,.mapb [])::mem,nx+1)
 | some _=>none
def Lo:Option TypeDesc->Bool
 | some (.int _)=>true
 | some .string=>true
 | some .bool=>true
 | _=>false
def Nb(P:Program)(cs:List AV):List Field->Bool
 | []=>true
 | f::r=>!(f.name == "_") && (Lo (P.underlying f.type) && ((sub none cs f.offset).isSome && Nb P cs r))
def H8(P:Program)(t:TypeId)(k:AV):Bool:=
 match P.underlying t with
 | some (.struct fs)=>match k with
  | .agg cs=>Nb P cs fs.toList
  | _=>false
 | d=>Lo d
def CN(P:Program)(t:TypeId)(k e:AV):Option Bool:=
 match P.underlying t with
 | some (.struct _)=>match k,e with
  | .agg a,.agg b=>Hz P t a b
  | _,_=>none
 | _=>JK P t k e
def gT(P:Program)(t:TypeId)(k:AV):List (AV × AV)->Nat->Option (Option (Nat × AV))
 | [],_=>some none
 | (a,v)::r,i=>match CN P t k a with
  | some true=>some (some (i,v))
  | some false=>gT P t k r (i+1)
  | none=>none
def sK(P:Program)(mem:aP)(t:TypeId)(m k:AV)(ok:Bool):Option AV:=
 match P.underlying t with
 | some (.map kt et)=>match H8 P kt k with
  | true=>match m with
   | .nmap=>match nP P et with
    | some z=>match ok with
     | true=>some (.tup [z,.bool false])
     | false=>some z
    | none=>none
   | .mp id=>match lk mem id with
    | some (.mapb es)=>match gT P kt k es 0 with
     | some (some (_,v))=>match ok with
      | true=>some (.tup [v,.bool true])
      | false=>some v
     | some none=>match nP P et with
      | some z=>match ok with
       | true=>some (.tup [z,.bool false])
       | false=>some z
      | none=>none
     | none=>none
    | _=>none
   | _=>none
  | false=>none
 | _=>none
def KI:AV->AV->Bool
 | .int k a,.int k' b=>decide (k=k') && decide (a=b)
 | .str a,.str b=>decide (a=b)
 | .bool a,.bool b=>decide (a=b)
 | _,_=>false
def AX:List AV->List AV->Bool
 | [],[]=>true
 | a::r,b::t=>KI a b && AX r t
 | _,_=>false
def z7:AV->AV->Bool
 | .agg a,.agg b=>AX a b
 | a,b=>KI a b
def oK(P:Program)(mem:aP)(t:TypeId)(m k v:AV):Option aP:=
 match P.underlying t with
 | some (.map kt _)=>match H8 P kt k with
  | true=>match m with
   | .mp id=>match lk mem id with
    | some (.mapb es)=>match gT P kt k es 0 with
     | some (some (i,_))=>match es[i]? with
      | some (k',_)=>match z7 k' k with
       | true=>some (up mem id (.mapb (es.set i (k,v))))
       | false=>none
      | none=>none
     | some none=>some (up mem id (.mapb (es++[(k,v)])))
     | none=>none
    | _=>none
   | _=>none
  | false=>none
 | _=>none
section
variable {P:Program} {Z:List (Nat × AV)} {X:Nat->Prop} {C:Nat->dP} {D D':Nat->Prop} {O:Nat->Prop} {mem:aP} {w w':World}
theorem GE{r:Nat}{es:Array MapEntry}{c:Nat}(h:w.heap[r]? = some (.map es c)):(getObj r).run P w = .ok (.map es c) w:=by simp[getObj,Sem.run,h]
theorem Fl{r:Nat}{es:Array MapEntry}{c:Nat}(o':Obj)(h:w.heap[r]? = some (.map es c)):(setObj r o').run P w = .ok () { w with heap:=w.heap.setIfInBounds r o' }:=by simp[setObj,Sem.run,h]
theorem E3(hn0:¬D n)(hD:∀i,D i->D' i)(hDn:D' n)(hm:MR Z X C D mem w)(h:Jc mem n none=some (v,mem',N')):
  uK P Z X C D mem w ((Instr.makeMap t none).run P w) v mem' D':=by
 cases h;obtain⟨h1,h2,h3⟩:=hm.allocG hn0 hD hDn (l:=⟨w.heap.size,1,1⟩) (o:=.map #[] 0) (a:=.mapb []) (w':=w.alloc (.map #[] 0)) rfl Nat.one_pos rfl .go ⟨#[],0,rfl,rfl,sq⟩;refine⟨.map (some w.heap.size),w.alloc (.map #[] 0),_,by simp[Instr.makeMap],h1, ?_,h2,h3⟩;have:=VR.mp (C:=gP C n ⟨w.heap.size,1,1⟩) (D:=D') (O:=OX X (gP C n ⟨w.heap.size,1,1⟩) ((n,.mapb [])::mem)) (w:=w.alloc (.map #[] 0)) n hDn;rw[cS] at this;exact this
theorem sN(h:Lo (P.underlying t)=true)(em:Bool)(d:Nat)(x:Value):(Instr.checkKey em (d+1) t x).run P w = .ok () w:=by
 unfold Lo at h;split at h<;>first|(cases h;done)|skip
 all_goals
  rename_i hu;rw[Instr.checkKey,Sem.run_bind,run_underlying hu,Result.andThen_ok];rfl
theorem Qa(h:Lo (P.underlying t)=true):GS P t=some none:=by
 unfold Lo at h;unfold GS;split at h<;>first|(cases h;done)|(rename_i hu;rw[hu])
theorem kJ{k:AV}(h:H8 P t k=true)(hx:VR C D O w k x)(em:Bool):(Instr.checkKey em 10000 t x).run P w = .ok () w:=by
 unfold H8 at h;split at h
 .rename_i fs hu;split at h
  .rename_i cs;obtain⟨vs,rfl,hvs⟩:=hx.agg_inv;rw[Instr.checkKey,Sem.run_bind,run_underlying hu,Result.andThen_ok];simp only;rw[Sem.run_bind];have key:∀l:List Field,Nb P cs l=true->(forIn l PUnit.unit (λf _=>if f.name≠"_" then do Instr.checkKey em 9999 f.type (<-part f.type vs.toArray f.offset);pure (ForInStep.yield PUnit.unit) else pure (ForInStep.yield PUnit.unit)):Sem PUnit).run P w = .ok PUnit.unit w:=by
    intro l
    induction l with
    | nil=>intro _;simp
    | cons f r ih=>
     intro hl;simp only[Nb,aAd] at hl;obtain⟨h1,h2,h3,h4⟩:=hl;obtain⟨v,hv⟩:=aCu.1 h3;obtain⟨z,p1,_⟩:=xB (w:=w) (Qa h2) hv hvs;have hn:f.name≠"_" :=su h1
     rw[List.forIn_cons,aAh hn];simp only[Sem.run_bind,p1,Result.andThen_ok,sN h2 em 9998 z,Sem.run_pure];exact ih h4
   have:=key fs.toList h;rw[<-Array.forIn_toList];rw[this];rfl
  .cases h
 .exact sN h em 9999 x
theorem zP{k e:AV}{r:Bool}(h:CN P t k e=some r)(hx:VR C D O w k x)(hy:VR C D O w e y):(Op.equal t x y).run P w = .ok r w:=by
 unfold CN at h;split at h
 .split at h
  .exact(Ac h hx hy).1
  .cases h
 .exact AM h hx hy 9999
theorem C9{d:TypeDesc}(hu:P.underlying t=some d){k e:AV}{r:Bool}(h:CN P t k e=some r)(hx:VR C D O w k x)(hy:VR C D O w e y):
  Instr.sameNow d x y=some r\/(Instr.sameNow d x y=none):=by
 unfold CN at h;rw[hu] at h;cases d with
 | int kk=>
  simp only[JK,hu] at h;split at h
  .split at h
   .rename_i hk;have hk:=aAY hk;subst hk;cases h;cases hx;cases hy;left;simp[Instr.sameNow]
   .cases h
  .cases h
 | string=>
  simp only[JK,hu] at h;split at h
  .cases h;cases hx;cases hy;left;simp only[Instr.sameNow];rw[beq_toListBytes,ByteArray.toList_eq,ByteArray.toList_eq]
  .cases h
 | bool=>
  simp only[JK,hu] at h;split at h
  .cases h;cases hx;cases hy;left;simp[Instr.sameNow]
  .cases h
 | _=>right;simp[Instr.sameNow]
def FR(C:Nat->dP)(D:Nat->Prop)(O:Nat->Prop)(w:World):Option (Nat × AV)->Option (Nat × Value)->Prop
 | none,none=>True
 | some (i,v),some (j,x)=>i=j/\VR C D O w v x
 | _,_=>False
def J0(C:Nat->dP)(D:Nat->Prop)(O:Nat->Prop)(w:World)(es:List (AV × AV))(l:List MapEntry):Prop:=
 l.length=es.length/\∀(i:Nat) (e:AV × AV),es[i]? = some e->∃m,l[i]? = some m/\VR C D O w e.1 m.key/\VR C D O w e.2 m.val
theorem J0.tail{e:AV × AV}{es:List (AV × AV)}{m:MapEntry}{l:List MapEntry}(h:J0 C D O w (e::es) (m::l)):VR C D O w e.1 m.key/\VR C D O w e.2 m.val/\J0 C D O w es l:=by
 obtain⟨h1,h2⟩:=h;obtain⟨m',e1,r1,r2⟩:=h2 0 e rfl;simp at e1;subst e1;exact⟨r1,r2,su h1,λi e' he=>by
  obtain⟨m',e1,r1,r2⟩:=h2 (i+1) e' (su he);exact⟨m',su e1,r1,r2⟩⟩
theorem AA{t:TypeId}{k:AV}{x:Value}(hx:VR C D O w k x):∀{es:List (AV × AV)} {l:List MapEntry} {i:Nat} {r:Option (Nat × AV)},J0 C D O w es l->gT P t k es i=some r ->
  ∃o,(Instr.findAsking t x l i).run P w = .ok o w/\FR C D O w r o
 | [],l,i,r,hl,h=>by
  cases h;have:l=[]:=aAB hl.1;subst this;exact⟨none,by simp[Instr.findAsking],trivial⟩
 | (a,v)::es,[],i,r,hl,h=>by have:=hl.1;simp at this
 | (a,v)::es,m::l,i,r,hl,h=>by
  obtain⟨r1,r2,r3⟩:=hl.tail;simp only[gT] at h;split at h
  .rename_i he;cases h;have e:=zP (P:=P) he hx r1;exact⟨some (i,m.val),by rw[Instr.findAsking,Sem.run_bind,e,Result.andThen_ok];simp,rfl,r2⟩
  .rename_i he;have e:=zP (P:=P) he hx r1;obtain⟨o,h1,h2⟩:=AA hx r3 h;exact⟨o,by rw[Instr.findAsking,Sem.run_bind,e,Result.andThen_ok];simpa using h1,h2⟩
  .cases h
theorem EY{t:TypeId}{d:TypeDesc}(hu:P.underlying t=some d){k:AV}{x:Value}(hx:VR C D O w k x):∀{es:List (AV × AV)} {l:List MapEntry} {i:Nat} {r:Option (Nat × AV)},J0 C D O w es l->gT P t k es i=some r ->
  Instr.findNow d x l i=none\/∃o,Instr.findNow d x l i=some o/\FR C D O w r o
 | [],l,i,r,hl,h=>by
  cases h;have:l=[]:=aAB hl.1;subst this;exact .inr ⟨none,by simp[Instr.findNow],trivial⟩
 | (a,v)::es,[],i,r,hl,h=>by have:=hl.1;simp at this
 | (a,v)::es,m::l,i,r,hl,h=>by
  obtain⟨r1,r2,r3⟩:=hl.tail;simp only[gT] at h;split at h
  .rename_i he;cases h;rcases C9 hu he hx r1 with e|e
   .exact .inr ⟨some (i,m.val),by simp[Instr.findNow,e],rfl,r2⟩
   .exact .inl (by simp[Instr.findNow,e])
  .rename_i he;rcases C9 hu he hx r1 with e|e
   .rcases EY hu hx r3 h with h1|⟨o,h1,h2⟩
    .exact .inl (by simp[Instr.findNow,e,h1])
    .exact .inr ⟨o,by simp[Instr.findNow,e,h1],h2⟩
   .exact .inl (by simp[Instr.findNow,e])
  .cases h
theorem nJ{k:AV}(hkey:H8 P t k=true)(hx:VR C D O w k x){es:List (AV × AV)}{l:List MapEntry}{r:Option (Nat × AV)}(hl:J0 C D O w es l)(h:gT P t k es 0=some r):
  ∃o,(Instr.findKey t x l).run P w = .ok o w/\FR C D O w r o:=by
 obtain⟨d,hu⟩:∃d,P.underlying t=some d:=by
  unfold H8 at hkey;split at hkey
  .rename_i hu;exact⟨_,hu⟩
  .unfold Lo at hkey;split at hkey<;>first|(cases hkey;done)|exact⟨_,by assumption⟩
 rw[Instr.findKey,Sem.run_bind,run_underlying hu,Result.andThen_ok];rcases EY hu hx hl h with h1|⟨o,h1,h2⟩
 .rw[h1];exact AA hx hl h
 .rw[h1];exact⟨o,rfl,h2⟩
theorem AY{et:TypeId}{z:AV}(h:nP P et=some z):∃x,(zeroValue et).run P w = .ok x w/\VR C D O w z x:=by
 unfold nP at h;split at h
 .rename_i i hi;split at h
  .rename_i zv hz;exact⟨zv,by simp[zeroValue,typeInfo,hi,hz],mN h⟩
  .cases h
 .cases h
theorem WI{b:AV}(h1:VR C D O w a x)(h2:VR C D O w b y):VR C D O w (.tup [a,b]) (.tuple #[x,y]):=
 (m9.cons h1 (m9.cons h2 m9.nil)).tup
theorem AG(hm:MR Z X C D mem w){m k:AV}{ok:Bool}(h:sK P mem t m k ok=some v)(hx:VR C D (OX X C mem) w m x)(hy:VR C D (OX X C mem) w k y):
  ∃z,(Instr.lookup t x y ok).run P w = .ok z w/\VR C D (OX X C mem) w v z:=by
 unfold sK at h;split at h
 .rename_i kt et hu;split at h
  .rename_i hkey;split at h
   .cases hx;split at h
    .rename_i z hz;obtain⟨zv,q1,q2⟩:=AY (P:=P) (C:=C) (D:=D) (O:=OX X C mem) (w:=w) hz;have hf:(Instr.findKey kt y []).run P w = .ok none w:=by
      obtain⟨o,f1,f2⟩:=nJ (P:=P) (C:=C) (D:=D) (O:=OX X C mem) (w:=w) hkey hy (es:=[]) (l:=[]) (r:=none) ⟨rfl,sq⟩ rfl;cases o with
      | none=>exact f1
      | some o=>exact f2.elim
     split at h
     .cases h;exact⟨.tuple #[zv,.bool false],by simp[Instr.lookup,run_underlying hu,kJ hkey hy,hf,q1],WI q2 (.bool _)⟩
     .cases h;exact⟨zv,by simp[Instr.lookup,run_underlying hu,kJ hkey hy,hf,q1],q2⟩
    .cases h
   .rename_i id;split at h
    .rename_i es hid;have hpos:=JF hm hid;obtain⟨o,ho,arr,clk,rfl,a1,a2⟩:=hm.blk _ (b8 hid) hpos;cases hx;have hl:J0 C D (OX X C mem) w es arr.toList:=⟨su a1,λi e he=>by
      obtain⟨m,m1,m2,m3⟩:=a2 i e he;exact⟨m,su m1,m2,m3⟩⟩
     have hg:=GE (P:=P) ho;split at h
     .rename_i i u hf;obtain⟨o,f1,f2⟩:=nJ (P:=P) hkey hy hl hf;cases o with
      | none=>exact f2.elim
      | some o=>
       obtain⟨j,ux⟩:=o;obtain⟨_,f2⟩:=f2;split at h
       .cases h;exact⟨.tuple #[ux,.bool true],by simp[Instr.lookup,run_underlying hu,hg,kJ hkey hy,f1],WI f2 (.bool _)⟩
       .cases h;exact⟨ux,by simp[Instr.lookup,run_underlying hu,hg,kJ hkey hy,f1],f2⟩
     .rename_i hf;obtain⟨o,f1,f2⟩:=nJ (P:=P) hkey hy hl hf;cases o with
      | some o=>exact f2.elim
      | none=>
       split at h
       .rename_i z hz;obtain⟨zv,q1,q2⟩:=AY (P:=P) (C:=C) (D:=D) (O:=OX X C mem) (w:=w) hz;split at h
        .cases h;exact⟨.tuple #[zv,.bool false],by simp[Instr.lookup,run_underlying hu,hg,kJ hkey hy,f1,q1],WI q2 (.bool _)⟩
        .cases h;exact⟨zv,by simp[Instr.lookup,run_underlying hu,hg,kJ hkey hy,f1,q1],q2⟩
       .cases h
     .cases h
    .cases h
   .cases h
  .cases h
 .cases h
theorem EW{b:AV}(h:KI a b=true)(hx:VR C D O w a x)(hy:VR C D O w b y)(n:Nat):Instr.sameBits n x y=true:=by
 unfold KI at h;split at h
 .simp at h;obtain⟨rfl,rfl⟩:=h;cases hx;cases hy;simp[Instr.sameBits]
 .simp at h;subst h;cases hx;cases hy;simp only[Instr.sameBits];rw[beq_toListBytes];simp
 .simp at h;subst h;cases hx;cases hy;simp[Instr.sameBits]
 .cases h
theorem C7(n:Nat):∀{as bs:List AV} {xs ys:List Value},AX as bs=true->m9 C D O w as xs->m9 C D O w bs ys->xs.length=ys.length/\(xs.zip ys).all (λp=>Instr.sameBits n p.1 p.2)=true
 | [],[],xs,ys,h,hx,hy=>by
  have e1:xs=[]:=aAB hx.1.symm;have e2:ys=[]:=aAB hy.1.symm;subst e1 e2;simp
 | a::as,b::bs,[],ys,h,hx,hy=>by have:=hx.1;simp at this
 | a::as,b::bs,x::xs,[],h,hx,hy=>by have:=hy.1;simp at this
 | a::as,b::bs,x::xs,y::ys,h,hx,hy=>by
  simp only[AX,aAd] at h;have h1:=EW (C:=C) (D:=D) (O:=O) (w:=w) h.1 (hx.2 0 a x rfl rfl) (hy.2 0 b y rfl rfl) n;have hx':m9 C D O w as xs:=⟨by simpa using hx.1,λj c x h1 h2=>hx.2 (j+1) c x (su h1) (su h2)⟩
  have hy':m9 C D O w bs ys:=⟨by simpa using hy.1,λj c x h1 h2=>hy.2 (j+1) c x (su h1) (su h2)⟩
  obtain⟨i1,i2⟩:=C7 n h.2 hx' hy';exact⟨by simp[i1],by simp only[aA4,List.all_cons,h1,i2,Bool.and_self]⟩
 | [],b::bs,xs,ys,h,hx,hy=>by simp[AX] at h
 | a::as,[],xs,ys,h,hx,hy=>by simp[AX] at h
theorem MJ{b:AV}(h:z7 a b=true)(hx:VR C D O w a x)(hy:VR C D O w b y):Instr.sameBits 10000 x y=true:=by
 unfold z7 at h;split at h
 .obtain⟨xs,rfl,hxs⟩:=hx.agg_inv;obtain⟨ys,rfl,hys⟩:=hy.agg_inv;obtain⟨h1,h2⟩:=C7 (C:=C) (D:=D) (O:=O) (w:=w) 9999 h hxs.1 hys.1;rw[Instr.sameBits];simp only[aC9,h1,BEq.rfl,aBY];exact h2
 .exact EW h hx hy 10000
theorem tZ(hm:MR Z X C D mem w){m k:AV}{z:Value}(h:oK P mem t m k v=some mem')(hx:VR C D (OX X C mem) w m x)(hy:VR C D (OX X C mem) w k y)(hz:VR C D (OX X C mem) w v z):
  ∃w',(Instr.mapUpdate t x y z).run P w = .ok () w'/\MR Z X C D mem' w'/\(∀u y,VR C D (OX X C mem) w u y->VR C D (OX X C mem') w' u y)/\∀A:Nat->Prop,(∀i,A i->D i)->Ext A C mem w C D mem' w':=by
 unfold oK at h;split at h
 .rename_i kt et hu;split at h
  .rename_i hkey;split at h
   .rename_i id;split at h
    .rename_i es hid;have hpos:=JF hm hid;obtain⟨o,ho,arr,clk,rfl,a1,a2⟩:=hm.blk _ (b8 hid) hpos;cases hx;have hl:J0 C D (OX X C mem) w es arr.toList:=⟨su a1,λi e he=>by
      obtain⟨m,m1,m2,m3⟩:=a2 i e he;exact⟨m,su m1,m2,m3⟩⟩
     have hg:=GE (P:=P) ho;split at h
     .rename_i i u hf;split at h
      .rename_i k' u' hi;split at h
       .rename_i hsame;cases h;obtain⟨o,f1,f2⟩:=nJ (P:=P) hkey hy hl hf;cases o with
        | none=>exact f2.elim
        | some o=>
         obtain⟨j,ux⟩:=o;obtain⟨rfl,f2⟩:=f2;obtain⟨me,m1,m2,m3⟩:=a2 i _ hi;have hb:Instr.sameBits 10000 me.key y=true:=MJ hsame m2 hy;have hks:(Instr.keyThatStays me.key y).run P w = .ok y w:=by simp[Instr.keyThatStays,hb]
         obtain⟨c1,c2,c3⟩:=hm.changeG (o:=.map (arr.modify i λe=>{ e with key:=y,val:=z }) clk) (a':=.mapb (es.set i (k,v))) (w':={ w with heap:=w.heap.setIfInBounds (C id).b (.map (arr.modify i λe=>{ e with key:=y,val:=z }) clk) }) hid hpos rfl .go
          ⟨_,_,rfl,su a1,λq e he=>by
           by_cases hqi:q=i
           .subst hqi;have:q<es.length:=by
             rcases aAr q es.length with h'|h'
             .exact h'
             .rw[aAs h'] at hi;cases hi
            rw[aBe this] at he;cases he;exact⟨{ me with key:=y,val:=z },by simp[aBU,m1],hy,hz⟩
           .rw[aCN (Ne.symm hqi)] at he;obtain⟨m,n1,n2,n3⟩:=a2 q e he;exact⟨m,by simp[aBU,Ne.symm hqi,n1],n2,n3⟩⟩
         refine⟨_, ?_,c1,c2,c3⟩;simp only[Instr.mapUpdate,Sem.run_bind,run_underlying hu,Result.andThen_ok,hg,kJ hkey hy,f1,m1,aBM,aBv,hks];exact Fl _ ho
       .cases h
      .cases h
     .rename_i hf;cases h;obtain⟨o,f1,f2⟩:=nJ (P:=P) hkey hy hl hf;cases o with
      | some o=>exact f2.elim
      | none=>
       obtain⟨c1,c2,c3⟩:=hm.changeG (o:=.map (arr.push { key:=y,val:=z,born:=clk }) (clk+1)) (a':=.mapb (es++[(k,v)])) (w':={ w with heap:=w.heap.setIfInBounds (C id).b (.map (arr.push { key:=y,val:=z,born:=clk }) (clk+1)) }) hid hpos rfl .go
        ⟨_,_,rfl,su a1,λq e he=>by
         by_cases hq:q<es.length
         .rw[aAM hq] at he;obtain⟨m,n1,n2,n3⟩:=a2 q e he;exact⟨m,by rw[aCh,aAe om];exact n1,n2,n3⟩
         .rw[aAW om] at he;have:q-es.length=0:=by
           rcases aAz (q-es.length) with h'|h'
           .exact h'
           .rw[aAs (by simp;omega)] at he;cases he
          have hqe:q=arr.size:=om;rw[this] at he;simp at he;subst he;exact⟨{ key:=y,val:=z,born:=clk },by rw[aCh,aAh hqe],hy,hz⟩⟩
       refine⟨_, ?_,c1,c2,c3⟩;simp only[Instr.mapUpdate,Sem.run_bind,run_underlying hu,Result.andThen_ok,hg,kJ hkey hy,f1];exact Fl _ ho
     .cases h
    .cases h
   .cases h
  .cases h
 .cases h
end
end Go.Ax
namespace Go.Ax
open Go
section
variable {P:Program} {Z:List (Nat × AV)} {X:Nat->Prop} {C:Nat->dP} {D:Nat->Prop} {mem:aP} {w w':World}
theorem MR.lose(hm:MR Z X C D mem w){id:Nat}{a:AB}(hid:lk mem id=some a)(hn:0<(C id).n)(hsz:w'.heap.size=w.heap.size)(hw:∀b,b≠(C id).b->w'.heap[b]? = w.heap[b]?)
  (hos:G6 w w') :
  MR Z X C D (drop id mem) w'/\(∀v x,VR C D (OX X C mem) w v x->VR C D (OX X C (drop id mem)) w' v x)/\(∀A:Nat->Prop,(∀i,A i->D i)->Ext A C mem w C D (drop id mem) w'):=by
 have hin:=b8 hid;have hown:∀b,own C (drop id mem) b->own C mem b:=λb ⟨p,hp,hn,e⟩=>⟨p,dQ hp,hn,e⟩
 have hk:∀b,b<w.heap.size->¬OX X C mem b->¬OX X C (drop id mem) b/\w'.heap[b]? = w.heap[b]? := λb _ ho=>
  ⟨λh=>ho (h.imp (λx=>x) (hown b)),hw b λe=>ho (.inr ⟨_,hin,hn,e.symm⟩)⟩
 have hmono:∀v x,VR C D (OX X C mem) w v x->VR C D (OX X C (drop id mem)) w' v x:=λv x h=>h.mono (λ_ _=>rfl) (λ_ h=>h) hk
 refine⟨⟨λp hp=>hm.low p (dQ hp),λp hp hpn=>?_,λp hp hpn=>hm.emp p (dQ hp) hpn,λp hp q hq=>hm.inj p (dQ hp) q (dQ hq),l6 hm.nod,
  λb hb=>⟨by rw[hsz];exact(hm.bar b hb).1,λh=>(hm.bar b hb).2 (hown b h)⟩,λp hp=>hmono _ _ (hm.glo p hp)⟩,hmono,
  λB hB=>⟨hB,λ_ _=>rfl,om,λb hb ho=>hw b λe=>ho ⟨_,hin,hn,e.symm⟩,λp hp hpn=>.inl ⟨p,dQ hp,hpn,rfl⟩,hos⟩⟩
 obtain⟨o,ho,hb⟩:=hm.blk p (dQ hp) hpn;refine⟨o, ?_,hb.mono (λ_ _=>rfl) (λ_ h=>h) hk⟩;rw[hw _ λe=>u9 hm.nod hp (hm.inj p (dQ hp) _ hin hpn hn e)];exact ho
def vI(a:AV):Option AV:=
 match a with
 | .nsl=>some .nptr
 | .sl id off (_+1)=>some (.ptr id off 0)
 | _=>none
theorem Cw{O:Nat->Prop}{a v:AV}{x:Value}(h:vI a=some v)(hx:VR C D O w a x)(ts:Array TypeId)(ty:TypeId) :
  ∃z,(Builtin.unsafeSliceData_ ts ty #[x]).run P w = .ok z w/\VR C D O w v z:=by
 unfold vI at h;split at h
 .cases h;cases hx;exact⟨_,Lib.run_unsafeSliceData_nil w ts ty _ _,.nptr⟩
 .cases h;cases hx with
  | sl _ _ _ cap hid h1 h2=>
   exact⟨_,Lib.run_unsafeSliceData_row w ts ty _ _ _ om,VR.ptr _ _ 0 hid⟩
 .cases h
def pH:List AV->Option (List UInt8)
 | []=>some []
 | .int .u8 (.ofNat m)::r=>match Nat.ble m 255 with
  | true=>match pH r with
   | some l=>some (UInt8.ofNat m::l)
   | none=>none
  | false=>none
 | _=>none
theorem DC:∀{xs:List AV} {l:List UInt8},pH xs=some l->∀(i:Nat) (b:UInt8),l[i]? = some b->xs[i]? = some (.int .u8 b.toNat)
 | [],l,h,i,b,hi=>by simp[pH] at h;subst h;simp at hi
 | a::xs,l,h,i,b,hi=>by
  unfold pH at h;split at h
  .rename_i e;cases e
  .rename_i m r e;cases e;split at h
   .rename_i hm;split at h
    .rename_i l' hl;cases h;cases i with
     | zero=>
      simp at hi;subst hi;have:m<256:=by have:=aAi hm;omega
      simp[aBb this]
     | succ i=>exact DC hl i b (su hi)
    .cases h
   .cases h
  .cases h
def tS(P:Program)(mem:aP)(pt:TypeId)(a n:AV):Option (AV × aP):=
 match n with
 | .int .i64 (.ofNat 0)=>match a with
  | .nptr=>some (.str [],mem)
  | .ptr _ _ _=>some (.str [],mem)
  | _=>none
 | .int .i64 (.ofNat (k+1))=>match a with
  | .ptr id 0 0=>match lk mem id with
   | some (.row t sz xs)=>match P.underlying pt with
    | some (.pointer e)=>match Nat.beq e t && (Nat.beq sz 1 && (Nat.beq (P.cellsOf e) 1 && Nat.ble (k+1) 9223372036854775807)) with
     | true=>match pH (xs.take (k+1)) with
      | some l=>match Nat.beq l.length (k+1) with
       | true=>some (.str l,drop id mem)
       | false=>none
      | none=>none
     | false=>none
    | _=>none
   | _=>none
  | _=>none
 | _=>none
theorem FB(hm:MR Z X C D mem w){pt it ty:TypeId}{a n v:AV}{x y:Value}{mem':aP}(h:tS P mem pt a n=some (v,mem'))(hx:VR C D (OX X C mem) w a x)(hy:VR C D (OX X C mem) w n y) :
  ∃z w',(Builtin.unsafeString_ #[pt,it] ty #[x,y]).run P w = .ok z w'/\MR Z X C D mem' w'/\VR C D (OX X C mem') w' v z /\
   (∀u y,VR C D (OX X C mem) w u y->VR C D (OX X C mem') w' u y)/\∀A:Nat->Prop,(∀i,A i->D i)->Ext A C mem w C D mem' w':=by
 have e0:(ByteArray.empty:ByteArray)=⟨([]:List UInt8).toArray⟩:=rfl;unfold tS at h;split at h
 .cases hy;split at h<;>first|(cases h;done)|skip
  .cases h;cases hx;exact⟨_,w,Lib.run_unsafeString_none w pt it ty none,hm,by rw[e0];exact .str [],λ_ _ h=>h,λA hA=>Ext.refl hA⟩
  .cases h;cases hx;exact⟨_,w,Lib.run_unsafeString_none w pt it ty (some _),hm,by rw[e0];exact .str [],λ_ _ h=>h,λA hA=>Ext.refl hA⟩
 .rename_i k;cases hy;split at h<;>first|(cases h;done)|skip
  rename_i id;split at h<;>first|(cases h;done)|skip
  rename_i t sz xs hid;split at h<;>first|(cases h;done)|skip
  rename_i e hp;split at h<;>first|(cases h;done)|skip
  rename_i hc;split at h<;>first|(cases h;done)|skip
  rename_i l hl;split at h<;>first|(cases h;done)|skip
  rename_i hlen;cases h;cases hx;simp only[aAd] at hc;obtain⟨c1,c2,c3,c4⟩:=hc;have c1:=Nat.eq_of_beq_eq_true c1;have c2:=Nat.eq_of_beq_eq_true c2;have c3:=Nat.eq_of_beq_eq_true c3;have c4:=aAi c4;have hlen:=Nat.eq_of_beq_eq_true hlen;subst c1 c2;have hget:=DC hl;have hin:=b8 hid;have hn:0<(C id).n:=by
   rcases aAz (C id).n with h0|h0
   .obtain⟨t',sz',e1,_⟩:=hm.emp _ hin h0;cases e1;simp[pH] at hl;subst hl;simp at hlen
   .exact h0
  obtain⟨o,ho,hsz,arr,fr,rfl,hf,hs,hle,hrow⟩:=hm.blk _ hin hn;simp only at ho hsz hs hle hrow;rw[hsz] at hrow hle;have hcell:∀j b,l[j]? = some b->w.cell? ((⟨(C id).b,0,none⟩:Addr).add j)=some (.int .u8 b.toNat):=by
   intro j b hb;have h1:=hget j b hb;have hj:j<k+1:=by have:=(aAg.1 hb).1;omega
   rw[aAL,aAh hj] at h1;obtain⟨v,hv,_,hr⟩:=(hrow j _ h1).2 0 (.int .u8 b.toNat) rfl;cases hr;have ea:(⟨(C id).b,0,none⟩:Addr).add j=⟨(C id).b,j,none⟩:=by
    unfold Addr.add;split
    .rename_i h0;rw[h0]
    .simp
   rw[ea];simp only[World.cell?,ho];simpa using hv
  have hxl:l.length<=arr.size:=by
   have:l.length<=xs.length:=by
    have h1:=hget (l.length-1) l[l.length-1] sq;have:=(aAg.1 h1).1;simp at this;omega
   omega
  have hrun:=Lib.run_unsafeString_row (P:=P) w pt it ty _ hp c3 (C id).b arr.size (by simp[World.shape?,ho]) l (by intro h0;rw[h0] at hlen;simp at hlen) hxl om hcell;have hfz:(w.freeze ⟨(C id).b,0,none⟩ l.length).heap.size=w.heap.size/\(∀b,b≠(C id).b->(w.freeze ⟨(C id).b,0,none⟩ l.length).heap[b]? = w.heap[b]?) /\
    G6 w (w.freeze ⟨(C id).b,0,none⟩ l.length):=by
   unfold World.freeze;split
   .exact⟨rfl,λ_ _=>rfl,.go⟩
   .refine⟨sq,λb hb=>?_,.go⟩;simp only[aBU];rw[aAe λe=>hb e.symm]
  obtain⟨m1,m2,m3⟩:=hm.lose hid hn hfz.1 hfz.2.1 hfz.2.2;refine⟨_,_, ?_,m1,.str l,m2,m3⟩;have ek:(Int.ofNat (k+1))=(l.length:Int):=by rw[hlen];rfl
  rw[ek,show 0*(C id).sz+0=0 by simp];exact hrun
 .cases h
end
end Go.Ax
namespace Go.Ax
open Go
def EA(fn:Func):Bool:=fn.name == "internal/abi.NoEscape" && (Extern.findNext fn).isNone
theorem Gn:Extern.allGenericRows.lookup "internal/abi.NoEscape" = none/\Extern.allTypedRows.lookup "internal/abi.NoEscape" = none:=⟨by kernel_rfl,by kernel_rfl⟩
theorem L5:Extern.allRows.lookup "internal/abi.NoEscape" = some Extern.AbiNoEscape.same:=by kernel_rfl
theorem Ow{P:Program}{w:World}{F:FuncId}{fn:Func}(hf:P.funcs[F]? = some fn)(hb:fn.body=none)(hn:EA fn=true)(x:Value):(callFunc F #[x]).run P w = .ok (.value x) w:=by
 unfold EA at hn;simp only[aAd,beq_iff_eq] at hn;obtain⟨h1,h2⟩:=hn;have h3:Extern.findNext fn=none:=su h2
 have h4:Extern.find fn=some Extern.AbiNoEscape.same:=by
  simp[Extern.find,h1,Gn.1,Gn.2,L5]
 rw[run_callFunc_extern hf (by rw[h1];decide) (by rw[hb];rfl) h3 h4];rfl
end Go.Ax
namespace Go.Ax
open Go
def J4(P:Program)(mem:aP)(t:TypeId)(x y:AV):Option (AV × aP):=
 match P.underlying t with
 | some (.slice e)=>match iI P e with
  | some n=>match Nat.blt 0 n with
   | true=>match x with
    | .sl id 0 len=>match lk mem id with
     | some (.row t' sz' xs)=>match Pl mem n y with
      | some ys=>match Nat.beq sz' n && (Nat.ble ys.length len && Nat.ble len xs.length) with
       | true=>some (.int .i64 ys.length,up mem id (.row t' sz' (ys++xs.drop ys.length)))
       | false=>none
      | none=>none
     | _=>none
    | _=>none
   | false=>none
  | none=>none
 | _=>none
theorem NZ{V:Type}:∀{m:List (Nat × V)} {i:Nat} {v:V},lk m i=some v->up m i v=m
 | [],i,v,h=>by cases h
 | (j,u)::r,i,v,h=>by
  simp only[lk] at h;simp only[up];cases hb:Nat.beq j i with
  | true=>rw[hb] at h;cases h;rfl
  | false=>rw[hb] at h;simp only at h |-;rw[NZ h]
section
variable {P:Program} {Z:List (Nat × AV)} {X:Nat->Prop} {C:Nat->dP} {D:Nat->Prop} {mem:aP} {w:World}
theorem JN(hm:MR Z X C D mem w){t u ty:TypeId}{p q v:AV}{x y:Value}{mem':aP}(h:J4 P mem t p q=some (v,mem'))
  (hx:VR C D (OX X C mem) w p x) (hy:VR C D (OX X C mem) w q y) :
  ∃(n:Nat) (w':World),v = .int .i64 n/\(Builtin.copy_ #[t,u] ty #[x,y]).run P w = .ok (.int .i64 n) w'/\MR Z X C D mem' w'/\(∀u z,VR C D (OX X C mem) w u z->VR C D (OX X C mem') w' u z)/\∀A:Nat->Prop,(∀i,A i->D i)->Ext A C mem w C D mem' w':=by
 unfold J4 at h;split at h<;>first|(cases h;done)|skip
 rename_i e ht;split at h<;>first|(cases h;done)|skip
 rename_i n hn;split at h<;>first|(cases h;done)|skip
 rename_i hpos;have hpos:0<n:=aAi hpos;split at h<;>first|(cases h;done)|skip
 rename_i id len;split at h<;>first|(cases h;done)|skip
 rename_i t' sz' xs hid;split at h<;>first|(cases h;done)|skip
 rename_i ys hys;split at h<;>first|(cases h;done)|skip
 rename_i hb;cases h;simp only[aAd] at hb;have b1:=Nat.eq_of_beq_eq_true hb.1;have b2:=aAi hb.2.1;have b3:=aAi hb.2.2;obtain⟨vs,hf,hlen,hfirst⟩:=Fx (P:=P) hm hpos hys hy;have hsz2:=iX (w:=w) hn;have hfw:=hfirst w rfl;have nothing:ys=[]->∀(ad:Option Addr) (len cap:Nat),x = .slice ad len cap->∃(n:Nat) (w':World),AV.int .i64 (ys.length:Int) = .int .i64 n/\(Builtin.copy_ #[t,u] ty #[x,y]).run P w = .ok (.int .i64 n) w'/\MR Z X C D (up mem id (.row t' sz' (ys++xs.drop ys.length))) w' /\
   (∀u z,VR C D (OX X C mem) w u z->VR C D (OX X C (up mem id (.row t' sz' (ys++xs.drop ys.length)))) w' u z)/\∀A:Nat->Prop,(∀i,A i->D i)->Ext A C mem w C D (up mem id (.row t' sz' (ys++xs.drop ys.length))) w':=by
  intro e1 ad len cap e2;subst e1 e2;have hv:vs=[]:=aAB (by have:=hf.1;simpa using this);subst hv;simp only[aBC,aAJ,aAZ];rw[NZ hid];refine⟨0,w,rfl, ?_,hm,λ_ _ h=>h,λA hA=>Ext.refl hA⟩;simp only[aBC] at hlen hfw;cases ad<;>simp[Builtin.copy_,run_underlying ht,hlen,hsz2,hfw,storeCells,Nat.min_def,goInt]
 by_cases hys0:ys=[]
 .cases hx with
  | sl _ _ _ cap hid' g1 g2=>exact nothing hys0 _ _ _ rfl
  | slz _ _ b o hid'=>exact nothing hys0 _ _ _ rfl
  | slzn _ _ hid'=>exact nothing hys0 _ _ _ rfl
 .have hy1:0<ys.length:=aA5.2 hys0;cases hx with
  | slz _ _ b o hid'=>omega
  | slzn _ _ hid'=>omega
  | sl _ _ _ cap hid' g1 g2=>
   have hz:(C id).sz=n:=by rw[Ae hm hid];exact b1
   have hn0:0<(C id).n:=by
    rw[hz,aAF] at g2;have:1*1<=cap*n:=aBn om om;omega
   obtain⟨o,ho,q0,arr,fr,rfl,hfr,q1,q2,q3⟩:=hm.blk _ (b8 hid) hn0;simp only at ho q0 q1 q2 q3;obtain⟨f1,f2,f3⟩:=hf;have hle:ys.length*n<=xs.length*n:=aAG _ om;have hfit:0+0+vs.length<=arr.size:=by rw[f1,q1];rw[hz] at q2;omega
   have hrun:=fO P (C id).b 0 t' fr vs 0 arr w ho hfr hfit f2;simp only[aBo,aAF,aBZ,aAZ] at hrun;refine⟨ys.length,w.setRow (C id).b (vs++arr.toList.drop vs.length).toArray,rfl, ?_,hm.change hid hn0 (xs':=ys++xs.drop ys.length) (nG w _ arr _ t' fr ho) .go ?_ ?_ ?_⟩
   .have e1:Nat.min ys.length len=ys.length:=aBN b2;simp[Builtin.copy_,run_underlying ht,hlen,hsz2,e1,hfw,hrun,goInt]
   .intro k hk;refine hfr k ?_;simp at hk;omega
   .simp;omega
   .have hvl:vs.length=ys.length*(C id).sz:=by rw[f1,hz]
    have harr:∀q,(vs++arr.toList.drop vs.length).toArray[q]? = if q<vs.length then vs[q]? else arr[q]? := by
     intro q;rw[aBJ,aAO];split
     .rfl
     .rw[aAV,aBi];congr 1;omega
    have hq2:=q2;rw[<-q0];refine⟨by simp[Nat.add_mul];rw[hvl,<-Nat.add_mul,show ys.length+(xs.length-ys.length)=xs.length by omega];omega,λk z hk=>?_⟩;rw[aAO] at hk;split at hk
    .rename_i hkl;obtain⟨h1,h2⟩:=f3 k z hk;refine⟨by rw[h1,hz],λj c hj=>?_⟩;obtain⟨u,hu,hr⟩:=h2 j c hj;rw[<-hz] at hu;refine⟨u, ?_,f2 u (aAm hu),hr⟩;rw[harr,aAh]
     .exact hu
     .rcases aAr (k*(C id).sz+j) vs.length with h'|h'
      .exact h'
      .rw[aAs h'] at hu;cases hu
    .rename_i hkl;rw[aAV] at hk;rw[show ys.length+(k-ys.length)=k by omega] at hk;refine⟨(q3 k z hk).1,λj c hj=>?_⟩;obtain⟨u,hu,ho1,hr⟩:=(q3 k z hk).2 j c hj;refine⟨u, ?_,ho1,hr⟩;rw[harr,aAe]
     .exact hu
     .have:ys.length*(C id).sz<=k*(C id).sz:=aAG _ om;rw[hvl];omega
end
end Go.Ax
