/- A part of the proof. -/
import Derived.Test.YthggfhnnkclooaaGreatDoorAx1
import Derived.WalkKit
import Derived.WalkSpells
import Derived.WalkLawsBesides
import Derived.Lib.Strings
import Derived.Laws.StructEq
import Derived.MapKept
import Derived.Lib.UnsafeStr
import Derived.KernelRfl
import Derived.Laws.Externs
set_option linter.unusedSectionVars false
set_option linter.unusedVariables false
set_option linter.unusedSimpArgs false
set_option maxRecDepth 1000000
set_option maxHeartbeats 16000000
namespace Go.Ax
open Go
theorem om{p:Prop}(h:p:=by omega):p:=h
abbrev Yw:=@List.getElem?_eq_getElem
abbrev Yx:=@List.getD_eq_getElem?_getD
abbrev Yy:=@Int.toNat_natCast
abbrev Yz:=@if_neg
abbrev Y0:=@List.getElem?_eq_some_iff
abbrev Y1:=@Bool.and_eq_true
abbrev Y2:=@List.mem_of_getElem?
abbrev Y3:=@Nat.ble_eq_true_of_le
abbrev Y4:=@if_pos
abbrev Y5:=@Nat.le_of_ble_eq_true
abbrev Y6:=@List.mem_cons
abbrev Y7:=@decide_eq_true
abbrev Y8:=@Nat.le_refl
abbrev Y9:=@List.take_of_length_le
abbrev ZA:=@List.length_append
abbrev ZB:=@List.eq_nil_of_length_eq_zero
abbrev ZC:=@Nat.eq_zero_or_pos
abbrev ZD:=@Int.eq_ofNat_of_zero_le
abbrev ZE:=@List.mem_cons_of_mem
abbrev ZF:=@Nat.mul_le_mul_right
abbrev ZG:=@Nat.lt_or_ge
abbrev ZH:=@List.getElem?_eq_none
abbrev ZI:=@List.mem_append
abbrev ZJ:=@List.take_length
abbrev ZK:=@List.getElem?_append_left
abbrev ZL:=@List.mem_map
abbrev ZM:=@List.getElem?_append_right
abbrev ZN:=@decide_eq_false
abbrev ZO:=@List.length_take
abbrev ZP:=@Nat.zero_add
abbrev ZQ:=@List.mem_cons_self
abbrev ZR:=@decide_eq_true_eq
abbrev ZS:=@List.getElem?_drop
abbrev ZT:=@List.getElem?_map
abbrev ZU:=@List.drop_zero
abbrev ZV:=@List.getElem?_of_mem
abbrev ZW:=@List.getElem_mem
abbrev ZX:=@Nat.mul_comm
abbrev ZY:=@List.foldl_cons
abbrev ZZ:=@List.length_singleton
abbrev Za:=@List.getElem?_take
abbrev Zb:=@Int.natAbs_natCast
abbrev Zc:=@List.length_cons
abbrev Zd:=@List.mem_filter
abbrev Ze:=@Bool.eq_iff_iff
abbrev Zf:=@List.mem_append_left
abbrev Zg:=@List.mem_of_mem_take
abbrev Zh:=@of_decide_eq_true
abbrev Zi:=@List.nil_append
abbrev Zj:=@Nat.le_trans
abbrev Zk:=@List.getElem?_append
abbrev Zl:=@Nat.mul_le_mul_left
abbrev Zm:=@Nat.add_zero
abbrev Zn:=@List.pairwise_cons
abbrev Zo:=@List.cons_append
abbrev Zp:=@decide_eq_decide
abbrev Zq:=@List.replicate_succ
abbrev Zr:=@List.mem_of_mem_drop
abbrev Zs:=@Nat.mod_eq_of_lt
abbrev Zt:=@List.getElem?_set_self
abbrev Zu:=@List.length_eq_zero_iff
abbrev Zv:=@List.nodup_cons
abbrev Zw:=@List.set_append_right
abbrev Zx:=@Nat.mod_lt
abbrev Zy:=@List.drop_eq_nil_of_le
abbrev Zz:=@List.foldl_append
abbrev Z0:=@Bool.or_eq_true
abbrev Z1:=@Nat.min_eq_left
abbrev Z2:=@List.map_cons
abbrev Z3:=@List.all_eq_true
abbrev Z4:=@Array.getElem?_toList
abbrev Z5:=@Nat.mul_le_mul
abbrev Z6:=@Nat.ne_of_beq_eq_false
abbrev Z7:=@List.drop_of_length_le
abbrev Z8:=@List.drop_length
abbrev Z9:=@List.mem_append_right
abbrev aAa:=@Nat.one_mul
abbrev aAb:=@List.take_append_of_le_length
abbrev aAc:=@List.length_pos_iff
abbrev aAd:=@Nat.pow_le_pow_right
abbrev aAe:=@Nat.sub_self
abbrev aAf:=@Nat.lt_of_le_of_lt
abbrev aAg:=@Nat.gcd_pos_of_pos_right
abbrev aAh:=@Array.getElem?_setIfInBounds_ne
abbrev aAi:=@List.append_nil
abbrev aAj:=@Nat.div_eq_of_lt
abbrev aAk:=@List.getElem?_zip_eq_some
abbrev aAl:=@Bool.false_eq_true
abbrev aAm:=@List.getElem?_replicate
abbrev aAn:=@decide_eq_false_iff_not
abbrev aAo:=@Nat.lt_of_lt_of_le
abbrev aAp:=@Nat.zero_le
abbrev aAq:=@Option.map_some
abbrev aAr:=@List.length_nil
abbrev aAs:=@List.length_map
abbrev aAt:=@Option.getD_some
abbrev aAu:=@Array.getElem?_modify
abbrev aAv:=@List.getElem?_toArray
abbrev aAw:=@List.sizeOf_lt_of_mem
abbrev aAx:=@Nat.mul_zero
abbrev aAy:=@List.set_cons_zero
abbrev aAz:=@Int.tmod_lt_of_pos
abbrev aAA:=@Nat.mul_one
abbrev aAB:=@Nat.mul_div_cancel_left
abbrev aAC:=@Bool.eq_false_iff
abbrev aAD:=@Bool.and_eq_false_iff
abbrev aAE:=@Nat.div_lt_iff_lt_mul
abbrev aAF:=@Array.eq_empty_of_size_eq_zero
abbrev aAG:=@List.length_drop
abbrev aAH:=@Nat.lt_succ_self
abbrev aAI:=@Nat.gcd_dvd_left
abbrev aAJ:=@Int.mul_ediv_cancel_left
abbrev aAK:=@List.eq_of_mem_replicate
abbrev aAL:=@List.mem_range
abbrev aAM:=@Nat.mul_pos
abbrev aAN:=@Nat.pow_pos
abbrev aAO:=@Nat.mul_left_comm
abbrev aAP:=@List.flatMap_cons
abbrev aAQ:=@List.map_append
abbrev aAR:=@Int.tmod_nonneg
abbrev aAS:=@Nat.div_le_self
abbrev aAT:=@Int.tdiv_nonneg
abbrev aAU:=@Array.getElem?_push
abbrev aAV:=@Array.getD_eq_getD_getElem?
abbrev aAW:=@Nat.mul_lt_mul_of_pos_right
abbrev aAX:=@of_decide_eq_false
abbrev aAY:=@List.mem_singleton
abbrev aAZ:=@Nat.add_sub_cancel
abbrev aA0:=@Nat.lt_of_mul_lt_mul_right
abbrev aA1:=@Nat.div_eq_of_eq_mul_right
abbrev aA2:=@Int.tdiv_eq_ediv_of_nonneg
abbrev aA3:=@List.length_replicate
abbrev aA4:=@Array.getElem?_eq_getElem
abbrev aA5:=@Nat.lt_of_mul_lt_mul_left
abbrev aA6:=@List.of_mem_zip
abbrev aA7:=@List.getElem?_set
abbrev aA8:=@Bool.or_eq_false_iff
abbrev aA9:=@List.map_set
abbrev aBa:=@Nat.le_of_lt
abbrev aBb:=@Bool.true_and
abbrev aBc:=@Nat.lt_irrefl
abbrev aBd:=@Nat.add_sub_cancel_left
abbrev aBe:=@List.take_take
abbrev aBf:=@List.drop_append_of_le_length
abbrev aBg:=@List.length_set
abbrev aBh:=@Nat.mod_add_div
abbrev aBi:=@Bool.false_or
abbrev aBj:=@Int.mul_ediv_add_emod
abbrev aBk:=@List.nodup_append
abbrev aBl:=@Nat.gcd_dvd_right
abbrev aBm:=@Nat.coprime_div_gcd_div_gcd
abbrev aBn:=@Array.toArray_toList
abbrev aBo:=@List.getElem?_set_ne
abbrev aBp:=@Bool.and_false
abbrev aBq:=@Array.mem_append
abbrev aBr:=@List.mem_or_eq_of_mem_set
abbrev aBs:=@List.pairwise_iff_getElem
abbrev aBt:=@Nat.add_mul_mod_self_left
abbrev aBu:=@Option.isSome_iff_exists
abbrev aBv:=@Nat.div_add_mod
abbrev aBw:=@Array.ext'
abbrev aBx:=@List.append_of_mem
abbrev aBy:=@Int.lt_or_eq_of_le
abbrev aBz:=@Int.emod_lt_of_pos
abbrev aBA:=@Int.mul_neg
abbrev aBB:=@Array.getElem?_eq_none
abbrev aBC:=@Option.map_eq_some_iff
abbrev aBD:=@List.reverse_cons
abbrev aBE:=@Nat.add_comm
abbrev aBF:=@Bool.and_assoc
abbrev aBG:=@Bool.false_and
abbrev aBH:=@Int.mul_comm
abbrev aBI:=@Array.getElem?_append
abbrev aBJ:=@List.getElem?_zipWith
abbrev aBK:=@List.filter_cons
abbrev aBL:=@Int.mul_le_mul_of_nonneg_right
abbrev aBM:=@Array.mem_toList_iff
abbrev aBN:=@Nat.add_mul_div_left
abbrev aBO:=@Array.getElem?_setIfInBounds
abbrev aBP:=@List.all_append
abbrev aBQ:=@Nat.div_lt_self
abbrev aBR:=@Int.emod_nonneg
abbrev aBS:=@List.getElem?_range
abbrev aBT:=@List.getElem_of_mem
abbrev aBU:=@List.filterMap_cons
abbrev aBV:=@Nat.zero_mul
abbrev aBW:=@List.take_length_add_append
abbrev aBX:=@Array.getElem?_eq_some_iff
abbrev aBY:=@Array.ext_getElem?
abbrev aBZ:=@Int.natAbs_pos
abbrev aB0:=@Int.natAbs_mul
abbrev aB1:=@Int.fdiv_eq_ediv_of_nonneg
abbrev aB2:=@List.foldl_nil
abbrev aB3:=@Int.natAbs_ediv_le_natAbs
abbrev aB4:=@List.size_toArray
abbrev aB5:=@List.take_add_one
abbrev aB6:=@List.pairwise_map
abbrev aB7:=@List.zipIdx_cons
abbrev aB8:=@List.mem_flatMap
abbrev aB9:=@List.mem_reverse
abbrev aCa:=@Int.lt_or_le
abbrev aCb:=@Nat.mul_add_mod
abbrev aCc:=@Nat.log2_eq_iff
abbrev aCd:=@List.range_succ
abbrev aCe:=@List.take_zero
abbrev aCf:=@List.nodup_nil
abbrev aCg:=@Nat.le_succ
abbrev aCh:=@Nat.div_pos
inductive AV where
 | bool (b:Bool)
 | int (k:IntKind) (n:Int)
 | str (s:List UInt8)
 | nptr|nsl|nmap|nfn|nif
 | ptr (id i j:Nat)
 | sl (id off len:Nat)
 | mp (id:Nat)
 | ip (v:AV)
 | il (sz:Nat) (xs:List AV)
 | fn (f:Fn) (first cap:List AV)
 | ifc (t:TypeId) (v:AV)
 | agg (cs:List AV)
 | tup (vs:List AV)
 | junk
 | yld (id:Nat)
def AV.cells:AV->List AV
 | .agg cs=>cs
 | v=>[v]
structure dP where
 b:Nat
 n:Nat
 sz:Nat
inductive VR (E:Nat->dP) (D:Nat->Prop) (O:Nat->Prop) (w:World):AV->Value->Prop
 | bool (b:Bool):VR E D O w (.bool b) (.bool b)
 | int (k:IntKind) (n:Int):VR E D O w (.int k n) (.int k n)
 | str (s:List UInt8):VR E D O w (.str s) (.string ⟨s.toArray⟩)
 | nptr:VR E D O w .nptr (.pointer none)
 | nsl:VR E D O w .nsl (.slice none 0 0)
 | nmap:VR E D O w .nmap (.map none)
 | nfn:VR E D O w .nfn .nilFunc
 | nif:VR E D O w .nif .nilIface
 | ptr (id i j:Nat):D id->VR E D O w (.ptr id i j) (.pointer (some ⟨(E id).b,i*(E id).sz+j,none⟩))
 | sl (id off len cap:Nat):D id->len<=cap->(off+cap)*(E id).sz<=(E id).n ->
   VR E D O w (.sl id off len) (.slice (some ⟨(E id).b,off*(E id).sz,none⟩) len cap)
 | slz (id off b o:Nat):D id->VR E D O w (.sl id off 0) (.slice (some ⟨b,o,none⟩) 0 0)
 | slzn (id off:Nat):D id->VR E D O w (.sl id off 0) (.slice none 0 0)
 | mp (id:Nat):D id->VR E D O w (.mp id) (.map (some (E id).b))
 | ip (v:AV) (b off:Nat) (f:Nat->Value) :
   (∀(j:Nat) (c:AV),v.cells[j]? = some c->¬O b/\w.cell? ⟨b,off+j,none⟩=some (f j)/\(f j).oneCell'=true) ->
   (∀(j:Nat) (c:AV),v.cells[j]? = some c->VR E D O w c (f j))->VR E D O w (.ip v) (.pointer (some ⟨b,off,none⟩))
 | il (sz:Nat) (xs:List AV) (b off cap:Nat) (f:Nat->Nat->Value):xs.length<=cap ->
   (∀(i:Nat) (x:AV),xs[i]? = some x->x.cells.length=sz) ->
   (∀(i:Nat) (x:AV) (j:Nat) (c:AV),xs[i]? = some x->x.cells[j]? = some c->¬O b/\w.cell? ⟨b,off+(i*sz+j),none⟩=some (f i j)/\(f i j).oneCell'=true) ->
   (∀(i:Nat) (x:AV) (j:Nat) (c:AV),xs[i]? = some x->x.cells[j]? = some c->VR E D O w c (f i j)) ->
   VR E D O w (.il sz xs) (.slice (some ⟨b,off,none⟩) xs.length cap)
 | iln (sz:Nat):VR E D O w (.il sz []) (.slice none 0 0)
 | fn (f:Fn) (first cap:List AV) (a1 a2:Array Value):first.length=a1.size->cap.length=a2.size ->
   (∀(j:Nat) (c:AV) (x:Value),first[j]? = some c->a1[j]? = some x->VR E D O w c x) ->
   (∀(j:Nat) (c:AV) (x:Value),cap[j]? = some c->a2[j]? = some x->VR E D O w c x)->VR E D O w (.fn f first cap) (.func f a1 a2)
 | ifc (t:TypeId) (v:AV) (x:Value):VR E D O w v x->VR E D O w (.ifc t v) (.iface t x)
 | agg (cs:List AV) (arr:Array Value):cs.length=arr.size->(∀x∈arr,x.oneCell'=true) ->
   (∀(j:Nat) (c:AV) (x:Value),cs[j]? = some c->arr[j]? = some x->VR E D O w c x)->VR E D O w (.agg cs) (.agg arr)
 | tup (cs:List AV) (arr:Array Value):cs.length=arr.size ->
   (∀(j:Nat) (c:AV) (x:Value),cs[j]? = some c->arr[j]? = some x->VR E D O w c x)->VR E D O w (.tup cs) (.tuple arr)
 | junk (x:Value):VR E D O w .junk x
 | yld (id:Nat):D id->VR E D O w (.yld id) (.func (.yield (E id).b) #[] #[])
theorem wF{w:World}{b off:Nat}{v:Value}(h:w.cell? ⟨b,off,none⟩=some v):b<w.heap.size:=by
 unfold World.cell? at h;rcases ZG b w.heap.size with hb|hb
 .exact hb
 .simp[aBB hb] at h
theorem Av{w w':World}{b off:Nat}(h:w'.heap[b]? = w.heap[b]?):w'.cell? ⟨b,off,none⟩=w.cell? ⟨b,off,none⟩:=by
 simp[World.cell?,h]
theorem VR.mono{E E':Nat->dP}{D D':Nat->Prop}{O O':Nat->Prop}{w w':World}{v:AV}{x:Value}(h:VR E D O w v x)
  (hρ:∀id,D id->E' id=E id) (hN:∀id,D id->D' id)
  (hk:∀b,b<w.heap.size->¬O b->¬O' b/\w'.heap[b]? = w.heap[b]?):VR E' D' O' w' v x:=by
 induction h with
 | bool=>exact .bool _
 | int=>exact .int _ _
 | str=>exact .str _
 | nptr=>exact .nptr
 | nsl=>exact .nsl
 | nmap=>exact .nmap
 | nfn=>exact .nfn
 | nif=>exact .nif
 | ptr id i j hid=>rw[<-hρ id hid];exact .ptr id i j (hN id hid)
 | sl id off len cap hid h1 h2=>rw[<-hρ id hid] at h2 |-;exact .sl id off len cap (hN id hid) h1 h2
 | slz id off b o hid=>exact .slz id off b o (hN id hid)
 | slzn id off hid=>exact .slzn id off (hN id hid)
 | mp id hid=>rw[<-hρ id hid];exact .mp id (hN id hid)
 | ip v b off f h1 _ ih=>
  refine .ip v b off f (λj c hj=>?_) ih;obtain⟨ho,hc,hone⟩:=h1 j c hj;obtain⟨ho',hb⟩:=hk b (wF hc) ho;exact⟨ho',by rw[Av hb,hc],hone⟩
 | il sz xs b off cap f hl hs h1 _ ih=>
  refine .il sz xs b off cap f hl hs (λi x j c hi hj=>?_) ih;obtain⟨ho,hc,hone⟩:=h1 i x j c hi hj;obtain⟨ho',hb⟩:=hk b (wF hc) ho;exact⟨ho',by rw[Av hb,hc],hone⟩
 | iln=>exact .iln _
 | fn f first cap a1 a2 l1 l2 _ _ ih1 ih2=>exact .fn f first cap a1 a2 l1 l2 ih1 ih2
 | ifc t v x _ ih=>exact .ifc t v x ih
 | agg cs arr hl ho _ ih=>exact .agg cs arr hl ho ih
 | tup cs arr hl _ ih=>exact .tup cs arr hl ih
 | junk x=>exact .junk x
 | yld id hid=>rw[<-hρ id hid];exact .yld id (hN id hid)
def j8(E:Nat->dP)(D:Nat->Prop)(O:Nat->Prop)(w:World)(cs:List AV)(vs:List Value):Prop:=
 cs.length=vs.length/\∀(j:Nat) (c:AV) (x:Value),cs[j]? = some c->vs[j]? = some x->VR E D O w c x
theorem j8.nil{E:Nat->dP}{D:Nat->Prop}{O:Nat->Prop}{w:World}:j8 E D O w [] []:=⟨rfl,sq⟩
theorem j8.cons{E:Nat->dP}{D:Nat->Prop}{O:Nat->Prop}{w:World}{c:AV}{cs:List AV}{x:Value}{xs:List Value}
  (h:VR E D O w c x) (hs:j8 E D O w cs xs):j8 E D O w (c::cs) (x::xs):=by
 refine⟨by simp[hs.1],λj c' x' h1 h2=>?_⟩;cases j with
 | zero=>simp at h1 h2;subst h1 h2;exact h
 | succ j=>simp at h1 h2;exact hs.2 j c' x' h1 h2
theorem j8.append{E:Nat->dP}{D:Nat->Prop}{O:Nat->Prop}{w:World}{cs cs':List AV}{xs xs':List Value}
  (h:j8 E D O w cs xs) (h':j8 E D O w cs' xs'):j8 E D O w (cs++cs') (xs++xs'):=by
 refine⟨by simp[h.1,h'.1],λj c x h1 h2=>?_⟩;rw[Zk] at h1 h2;rw[<-h.1] at h2;by_cases hj:j<cs.length
 .rw[Y4 hj] at h1 h2;exact h.2 j c x h1 h2
 .rw[Yz hj] at h1 h2;exact h'.2 _ c x h1 h2
theorem j8.mono{E E':Nat->dP}{D D':Nat->Prop}{O O':Nat->Prop}{w w':World}{cs:List AV}{xs:List Value}(h:j8 E D O w cs xs)
  (hρ:∀id,D id->E' id=E id) (hN:∀id,D id->D' id)
  (hk:∀b,b<w.heap.size->¬O b->¬O' b/\w'.heap[b]? = w.heap[b]?):j8 E' D' O' w' cs xs:=
 ⟨h.1,λj c x h1 h2=>(h.2 j c x h1 h2).mono hρ hN hk⟩
def Jm(E:Nat->dP)(D:Nat->Prop)(O:Nat->Prop)(w:World)(cs:List AV)(vs:List Value):Prop:=
 j8 E D O w cs vs/\∀x∈vs,x.oneCell'=true
def lk{G:Type}:List (Nat × G)->Nat->Option G
 | [],_=>none
 | (i,v)::r,j=>match Nat.beq i j with
  | true=>some v
  | false=>lk r j
def up{G:Type}:List (Nat × G)->Nat->G->List (Nat × G)
 | [],j,v=>[(j,v)]
 | (i,u)::r,j,v=>match Nat.beq i j with
  | true=>(i,v)::r
  | false=>(i,u)::up r j v
inductive AB where
 | row (t:TypeId) (sz:Nat) (xs:List AV)
 | mapb (es:List (AV × AV))
 | loop (sl:List (Nat × AV)) (nt:Nat) (ps:Array Tmp) (ca cb:Code) (st:LoopState) (pd:Option Code)
 | iter1 (mid:Nat) (fin:Bool)
def BR(E:Nat->dP)(D:Nat->Prop)(O:Nat->Prop)(w:World)(l:dP)(o:Obj):AB->Prop
 | .row t sz xs=>l.sz=sz/\∃arr fr,o = .cells arr t fr/\(∀j,j<arr.size->¬(fr.1<=j/\j<fr.2))/\arr.size=l.n/\xs.length*l.sz<=l.n /\
   ∀(i:Nat) (x:AV),xs[i]? = some x->x.cells.length=l.sz /\
    ∀(j:Nat) (c:AV),x.cells[j]? = some c->∃v,arr[i*l.sz+j]? = some v/\v.oneCell'=true/\VR E D O w c v
 | .mapb es=>∃arr clk,o = .map arr clk/\arr.size=es.length/\(∀(i:Nat) (e:AV × AV),es[i]? = some e->∃m,arr[i]? = some m/\VR E D O w e.1 m.key/\VR E D O w e.2 m.val)/\clk=arr.size/\∀(i:Nat) (m:MapEntry),arr[i]? = some m->m.born=i
 | .loop sl nt ps ca cb st pd=>∃(arr:Array Value) (fn:FuncId) (df:Nat),o = .loop { state:=st,pending:=pd,fn:=fn,tmps:=arr,params:=ps,assign:=ca,body:=cb,defers:=df }/\arr.size=nt /\
   ∀(i:Nat) (v:AV),lk sl i=some v->VR E D O w v (arr.getD i undef)
 | .iter1 mid fin=>D mid/\o = .mapIter (some (E mid).b) 1 (match fin with|true=>#[0]|false=>#[]) 1
theorem BR.mono{E E':Nat->dP}{D D':Nat->Prop}{O O':Nat->Prop}{w w':World}{l:dP}{o:Obj}{a:AB}(h:BR E D O w l o a)
  (hρ:∀id,D id->E' id=E id) (hN:∀id,D id->D' id)
  (hk:∀b,b<w.heap.size->¬O b->¬O' b/\w'.heap[b]? = w.heap[b]?):BR E' D' O' w' l o a:=by
 cases a with
 | row t sz xs=>
  obtain⟨h0,arr,fr,h1,hf,h2,h3,h4⟩:=h;refine⟨h0,arr,fr,h1,hf,h2,h3,λi x hi=>⟨(h4 i x hi).1,λj c hj=>?_⟩⟩;obtain⟨v,hv,ho,hr⟩:=(h4 i x hi).2 j c hj;exact⟨v,hv,ho,hr.mono hρ hN hk⟩
 | mapb es=>
  obtain⟨arr,clk,h1,h2,h3,hc⟩:=h;refine⟨arr,clk,h1,h2,λi e he=>?_,hc⟩;obtain⟨m,hm,hr1,hr2⟩:=h3 i e he;exact⟨m,hm,hr1.mono hρ hN hk,hr2.mono hρ hN hk⟩
 | loop sl nt ps ca cb st pd=>
  obtain⟨arr,fn,df,h1,h2,h3⟩:=h;exact⟨arr,fn,df,h1,h2,λi v hi=>(h3 i v hi).mono hρ hN hk⟩
 | iter1 mid fin=>
  obtain⟨h1,h2⟩:=h;exact⟨hN mid h1,by rw[hρ mid h1];exact h2⟩
abbrev aQ:=List (Nat × AB)
def own(E:Nat->dP)(mem:aQ)(b:Nat):Prop:=∃p∈mem,0<(E p.1).n/\(E p.1).b=b
def OX(X:Nat->Prop)(E:Nat->dP)(mem:aQ)(b:Nat):Prop:=X b\/own E mem b
structure MR(C:List (Nat × AV))(X:Nat->Prop)(E:Nat->dP)(D:Nat->Prop)(mem:aQ)(w:World):Prop where
 low:∀p∈mem,D p.1
 blk:∀p∈mem,0<(E p.1).n->∃o,w.heap[(E p.1).b]? = some o/\BR E D (OX X E mem) w (E p.1) o p.2
 emp:∀p∈mem,(E p.1).n=0->∃t sz,p.2 = .row t sz []/\(E p.1).sz=sz
 inj:∀p∈mem,∀q∈mem,0<(E p.1).n->0<(E q.1).n->(E p.1).b=(E q.1).b->p.1=q.1
 nod:(mem.map (·.1)).Nodup
 bar:∀b,X b->b<w.heap.size/\¬own E mem b
 glo:∀p∈C,VR E D (OX X E mem) w (.ip p.2) (.pointer (some ⟨p.1,0,none⟩))
structure FI(w w':World):Prop where
 os:w'.os=w.os
 output:w'.output=w.output
 tape:w'.tape=w.tape
 drawn:True
theorem FI.refl(w:World):FI w w:=⟨rfl,rfl,rfl,trivial⟩
theorem FI.trans{w w' w'':World}(h:FI w w')(h':FI w' w''):FI w w'':=⟨h'.os.trans h.os,h'.output.trans h.output,h'.tape.trans h.tape,trivial⟩
theorem FI.go{w w':World}(h:FI w w':=by exact⟨rfl,rfl,rfl,trivial⟩):FI w w':=h
structure Ext(A:Nat->Prop)(E:Nat->dP)(mem:aQ)(w:World)(E':Nat->dP)(D':Nat->Prop)(mem':aQ)(w':World):Prop where
 le:∀id,A id->D' id
 agree:∀id,A id->E' id=E id
 size:w.heap.size<=w'.heap.size
 keep:∀b,b<w.heap.size->¬own E mem b->w'.heap[b]? = w.heap[b]?
 fresh:∀p∈mem',0<(E' p.1).n->own E mem (E' p.1).b\/w.heap.size<=(E' p.1).b
 env:FI w w'
theorem Ext.refl{A:Nat->Prop}{D:Nat->Prop}{E:Nat->dP}{mem:aQ}{w:World}(h:∀id,A id->D id):Ext A E mem w E D mem w:=
 ⟨h,λ_ _=>rfl,Y8 _,λ_ _ _=>rfl,λp hp hn=>.inl ⟨p,hp,hn,rfl⟩,.refl _⟩
theorem Ext.trans{A:Nat->Prop}{D₁ D₂:Nat->Prop}{E ρ₁ ρ₂:Nat->dP}{mem mem₁ mem₂:aQ}{w w₁ w₂:World}(h:Ext A E mem w ρ₁ D₁ mem₁ w₁)(h':Ext A ρ₁ mem₁ w₁ ρ₂ D₂ mem₂ w₂) :
  Ext A E mem w ρ₂ D₂ mem₂ w₂:=by
 refine⟨h'.le,λid hid=>by rw[h'.agree id hid,h.agree id hid],Zj h.size h'.size,λb hb ho=>?_,λp hp hn=>?_,h.env.trans h'.env⟩
 .rw[h'.keep b (aAo hb h.size) ?_,h.keep b hb ho];rintro⟨p,hp,hn,rfl⟩;rcases h.fresh p hp hn with h1|h1
  .exact ho h1
  .omega
 .rcases h'.fresh p hp hn with⟨q,hq,hqn,e⟩|h1
  .rw[<-e];exact h.fresh q hq hqn
  .exact .inr (Zj h.size h1)
def dn(D0:Nat->Prop)(B n:Nat):Nat->Prop:=λi=>D0 i\/(B<=i/\i<n)
structure St where
 sl:List (Nat × AV)
 mem:aQ
 nx:Nat
 nt:Nat
theorem tH{a b:Nat}(h:a≠b):Nat.beq a b=false:=by
 cases h':Nat.beq a b with
 | false=>rfl
 | true=>exact absurd (Nat.eq_of_beq_eq_true h') h
theorem HZ{G:Type}(l:List (Nat × G))(j:Nat)(v:G)(i:Nat):lk (up l j v) i=if i=j then some v else lk l i:=by
 induction l with
 | nil=>
  by_cases h:i=j
  .subst h;simp[up,lk]
  .have:Nat.beq j i=false:=tH λe=>h e.symm
   simp[up,lk,this,h]
 | cons p r ih=>
  obtain⟨k,u⟩:=p;simp only[up];cases hk:Nat.beq k j with
  | true=>
   have:k=j:=Nat.eq_of_beq_eq_true hk;subst this;by_cases h:i=k
   .subst h;simp[lk]
   .have:Nat.beq k i=false:=tH λe=>h e.symm
    simp[lk,this,h]
  | false=>
   have hne:k≠j:=Z6 hk;simp only[lk];cases hki:Nat.beq k i with
   | true=>
    have:k=i:=Nat.eq_of_beq_eq_true hki;subst this;simp[hne]
   | false=>simpa using ih
def St.put(s:St)(d:Option Nat)(v:AV):St:=
 match d with
 | some i=>{ s with sl:=up s.sl i v }
 | none=>s
def FX(O:Nat->Prop)(w:World)(ds:List Deferred × Nat)(dd:List Deferred):Prop:=
 ds.2<=w.heap.size+1/\∃ms,dd=ms++ds.1/\(ds.2=0->ms=[])/\ms.Nodup/\∀d∈ms,∃b,d={ target:=.collected b,args:=#[] }/\ds.2<=b+1/\¬O b/\w.heap[b]? = some (.deferred (some []))
theorem FX.at{O O':Nat->Prop}{w w':World}{ds:List Deferred × Nat}{dd:List Deferred}(h:FX O w ds dd)(hs:w.heap.size<=w'.heap.size)
  (hk:∀b,b<w.heap.size->¬O b->¬O' b/\w'.heap[b]? = w.heap[b]?):FX O' w' ds dd:=by
 obtain⟨h1,ms,h2,h0,hn,h3⟩:=h;refine⟨Zj h1 (Nat.succ_le_succ hs),ms,h2,h0,hn,λd hd=>?_⟩;obtain⟨b,e,hb,ho,hh⟩:=h3 d hd;have hlt:b<w.heap.size:=(aBX.1 hh).1;exact⟨b,e,hb,(hk b hlt ho).1,(hk b hlt ho).2.trans hh⟩
theorem FX.start{O:Nat->Prop}{w:World}{ds:List Deferred × Nat}(h:ds.2<=w.heap.size+1):FX O w ds ds.1:=⟨h,[],rfl,λ_=>rfl,.nil,λd hd=>by cases hd⟩
theorem FX.eq{O:Nat->Prop}{w:World}{dd l:List Deferred}(h:FX O w (l,0) dd):dd=l:=by
 obtain⟨_,ms,h2,h0,_⟩:=h;rw[h2,h0 rfl];rfl
structure SR(C:List (Nat × AV))(X:Nat->Prop)(ds:List Deferred × Nat)(E:Nat->dP)(D:Nat->Prop)(s:St)(a:Act)(w:World):Prop where
 mr:MR C X E D s.mem w
 def0:FX (OX X E s.mem) w ds a.defers
 size:a.tmps.size=s.nt
 slot:∀i v,lk s.sl i=some v->VR E D (OX X E s.mem) w v (a.tmps.getD i undef)
end Go.Ax
namespace Go.Ax
open Go
def wM:Value->Option AV
 | .bool b=>some (.bool b)
 | .int k n=>some (.int k n)
 | .string s=>some (.str s.data.toList)
 | .pointer none=>some .nptr
 | .slice none 0 0=>some .nsl
 | .map none=>some .nmap
 | .nilFunc=>some .nfn
 | .nilIface=>some .nif
 | _=>none
def pL:List Value->Option (List AV)
 | []=>some []
 | v::r=>match wM v with
  | some a=>match pL r with
   | some l=>some (a::l)
   | none=>none
  | none=>none
def xQ:Value->Option AV
 | .agg cs=>match pL cs.toList with
  | some l=>some (.agg l)
  | none=>none
 | .tuple cs=>match cs.toList with
  | []=>some (.tup [])
  | _=>none
 | v=>wM v
section
variable {E:Nat->dP} {D:Nat->Prop} {O:Nat->Prop} {w:World}
theorem xV{v:Value}{a:AV}(h:wM v=some a):VR E D O w a v:=by
 unfold wM at h;split at h<;>first|cases h|skip
 .exact .bool _
 .exact .int _ _
 .rename_i s;have:=VR.str (E:=E) (D:=D) (O:=O) (w:=w) s.data.toList;simpa using this
 .exact .nptr
 .exact .nsl
 .exact .nmap
 .exact .nfn
 .exact .nif
theorem IM{v:Value}{a:AV}(h:wM v=some a):v.oneCell'=true:=by
 unfold wM at h;split at h<;>first|(cases h;done)|rfl
theorem zP:∀{vs:List Value} {l:List AV},pL vs=some l->∀x∈vs,x.oneCell'=true
 | [],l,h=>sq
 | v::r,l,h=>by
  simp only[pL] at h;split at h
  .rename_i a ha;split at h
   .rename_i l' hl;intro x hx;rcases Y6.1 hx with rfl|hx
    .exact IM ha
    .exact zP hl x hx
   .cases h
  .cases h
theorem uD:∀{vs:List Value} {l:List AV},pL vs=some l->j8 E D O w l vs
 | [],l,h=>by simp[pL] at h;subst h;exact .nil
 | v::r,l,h=>by
  simp only[pL] at h;split at h
  .rename_i a ha;split at h
   .rename_i l' hl;cases h;exact .cons (xV ha) (uD hl)
   .cases h
  .cases h
theorem Jm.agg{cs:List AV}{vs:List Value}(h:Jm E D O w cs vs):VR E D O w (.agg cs) (.agg vs.toArray):=
 .agg cs vs.toArray (by simpa using h.1.1) (by simpa using h.2) (λj c x h1 h2=>h.1.2 j c x h1 (su h2))
theorem j8.tup{cs:List AV}{vs:List Value}(h:j8 E D O w cs vs):VR E D O w (.tup cs) (.tuple vs.toArray):=
 .tup cs vs.toArray (by simpa using h.1) (λj c x h1 h2=>h.2 j c x h1 (su h2))
theorem VR.agg_inv{cs:List AV}{x:Value}(h:VR E D O w (.agg cs) x):∃vs:List Value,x = .agg vs.toArray/\Jm E D O w cs vs:=by
 cases h with
 | agg _ arr hl ho hr=>exact⟨arr.toList,sq,⟨su hl,λj c x h1 h2=>hr j c x h1 (su h2)⟩,su ho⟩
theorem VR.tup_inv{cs:List AV}{x:Value}(h:VR E D O w (.tup cs) x):∃vs:List Value,x = .tuple vs.toArray/\j8 E D O w cs vs:=by
 cases h with
 | tup _ arr hl hr=>exact⟨arr.toList,sq,su hl,λj c x h1 h2=>hr j c x h1 (su h2)⟩
theorem lJ{v:Value}{a:AV}(h:xQ v=some a):VR E D O w a v:=by
 unfold xQ at h;split at h
 .rename_i cs;split at h
  .rename_i l hl;cases h;have:=Jm.agg ⟨uD (E:=E) (D:=D) (O:=O) (w:=w) hl,zP hl⟩;simpa using this
  .cases h
 .rename_i cs;split at h
  .rename_i hc;cases h;have:cs = #[]:=su hc
   subst this;exact .tup [] #[] rfl sq
  .cases h
 .exact xV h
end
theorem bL{G:Type}:∀{l:List (Nat × G)} {i:Nat} {v:G},lk l i=some v->(i,v)∈l
 | (k,u)::r,i,v,h=>by
  simp only[lk] at h;split at h
  .rename_i hk;cases h;simp[Nat.eq_of_beq_eq_true hk]
  .exact ZE _ (bL h)
def ev(C:List (Nat × AV))(s:St):Operand->Option AV
 | .tmp t=>lk s.sl t
 | .const v=>xQ v
 | .global g=>match lk C g with
  | some v=>some (.ip v)
  | none=>none
 | .func f=>some (.fn (.func f) [] [])
def B6(C:List (Nat × AV))(s:St):List Operand->Option (List AV)
 | []=>some []
 | x::r=>match ev C s x with
  | some a=>match B6 C s r with
   | some l=>some (a::l)
   | none=>none
  | none=>none
section
variable {C:List (Nat × AV)} {X:Nat->Prop} {ds:List Deferred × Nat} {E:Nat->dP} {D:Nat->Prop} {s:St} {a:Act} {w:World}
theorem aZ(hs:SR C X ds E D s a w){x:Operand}{v:AV}(h:ev C s x=some v):VR E D (OX X E s.mem) w v (a.eval x):=by
 cases x with
 | tmp t=>exact hs.slot t v h
 | const c=>exact lJ h
 | global g=>
  simp only[ev] at h;split at h
  .rename_i u hu;cases h;exact hs.mr.glo _ (bL hu)
  .cases h
 | func f=>simp only[ev] at h;cases h;exact .fn _ [] [] #[] #[] rfl rfl sq sq
theorem iB(hs:SR C X ds E D s a w):∀{xs:List Operand} {vs:List AV},B6 C s xs=some vs->j8 E D (OX X E s.mem) w vs (xs.map a.eval)
 | [],vs,h=>by simp[B6] at h;subst h;exact .nil
 | x::r,vs,h=>by
  simp only[B6] at h;split at h
  .rename_i v hv;split at h
   .rename_i l hl;cases h;exact .cons (aZ hs hv) (iB hs hl)
   .cases h
  .cases h
end
def EO(P:Program)(t:TypeId):Option (Option Nat):=
 match P.underlying t with
 | some (.struct _)=>match P.info? t with
  | some i=>some (some i.size)
  | none=>none
 | some (.array _ _)=>match P.info? t with
  | some i=>some (some i.size)
  | none=>none
 | some _=>some none
 | none=>none
def gP(P:Program)(t:TypeId):Option Nat:=
 match P.info? t with
 | some i=>some i.size
 | none=>none
def one:AV->Option AV
 | .agg _=>none
 | v=>some v
theorem C5{c v:AV}(h:one c=some v):c=v/\v.cells=[v]:=by
 unfold one at h;split at h
 .cases h
 .cases h;refine⟨rfl, ?_⟩;cases c<;>first|rfl|(rename_i h1;exact(h1 _ rfl).elim)|(rename_i h1 _;exact(h1 _ rfl).elim)
def sub(sh:Option Nat)(cs:List AV)(j:Nat):Option AV:=
 match sh with
 | none=>match cs[j]? with
  | some c=>one c
  | none=>none
 | some n=>match Nat.beq ((cs.drop j).take n).length n with
  | true=>some (.agg ((cs.drop j).take n))
  | false=>none
section
variable {P:Program} {w:World}
theorem FF{t:TypeId}{sh:Option Nat}(h:EO P t=some sh):(isAgg t).run P w = .ok sh.isSome w/\∀n,sh=some n->(Go.sizeOf t).run P w = .ok n w:=by
 unfold EO at h;split at h
 .rename_i fs hu;split at h
  .rename_i i hi;cases h;refine⟨by simp[isAgg,run_underlying hu], ?_⟩;rintro n ⟨⟩;simp[Go.sizeOf,typeInfo,hi]
  .cases h
 .rename_i hu;split at h
  .rename_i i hi;cases h;refine⟨by simp[isAgg,run_underlying hu], ?_⟩;rintro n ⟨⟩;simp[Go.sizeOf,typeInfo,hi]
  .cases h
 .rename_i d h1 h2 hu;cases h;refine⟨?_,by rintro n ⟨⟩⟩;cases d<;>first|exact(h1 _ rfl).elim|exact(h2 _ _ rfl).elim|simp[isAgg,run_underlying hu]
 .cases h
theorem hZ{t:TypeId}{n:Nat}(h:gP P t=some n):(Go.sizeOf t).run P w = .ok n w:=by
 unfold gP at h;split at h
 .rename_i i hi;cases h;simp[Go.sizeOf,typeInfo,hi]
 .cases h
end
section
variable {P:Program} {E:Nat->dP} {D:Nat->Prop} {O:Nat->Prop} {w:World}
theorem oG{t:TypeId}{sh:Option Nat}(hsh:EO P t=some sh){cs:List AV}{j:Nat}{v:AV}(hv:sub sh cs j=some v)
  {b off:Nat} (hc:∀(i:Nat) (c:AV),cs[i]? = some c->∃x,w.cell? ⟨b,off+i,none⟩=some x/\x.oneCell'=true/\VR E D O w c x) :
  ∃x,(loadVar t ⟨b,off+j,none⟩).run P w = .ok x w/\VR E D O w v x:=by
 obtain⟨hag,hsz⟩:=FF (w:=w) hsh;cases sh with
 | none=>
  simp only[sub] at hv;split at hv
  .rename_i c hcj;obtain⟨rfl,_⟩:=C5 hv;obtain⟨x,hx,_,hr⟩:=hc j c hcj;exact⟨x,by simp[loadVar,hag,hx],hr⟩
  .cases hv
 | some n=>
  simp only[sub] at hv;split at hv
  .rename_i hl;cases hv;have hl:=Nat.eq_of_beq_eq_true hl;have key:∀i,i<n->∃x c,(List.take n (List.drop j cs))[i]? = some c/\w.cell? ⟨b,off+j+i,none⟩=some x/\x.oneCell'=true/\VR E D O w c x:=by
    intro i hi;have h1:(List.take n (List.drop j cs))[i]? = some ((List.take n (List.drop j cs))[i]'om):=Yw _;have h2:cs[j+i]? = some ((List.take n (List.drop j cs))[i]'om):=by
     rw[Za,Y4 hi,ZS] at h1;exact h1
    obtain⟨x,hx,ho,hr⟩:=hc _ _ h2;exact⟨x,_,h1,by rw[Nat.add_assoc];exact hx,ho,hr⟩
   have hget:∀i,i<n->w.cell? (Addr.add ⟨b,off+j,none⟩ i)=some ((w.cell? ⟨b,off+j+i,none⟩).getD undef):=by
    intro i hi;obtain⟨x,c,_,hx,_,_⟩:=key i hi;simp[Addr.add_lit,hx]
   refine⟨.agg ((List.range n).map λi=>(w.cell? ⟨b,off+j+i,none⟩).getD undef).toArray, ?_, ?_⟩
   .simp[loadVar,hag,hsz n rfl,run_loadCells w ⟨b,off+j,none⟩ n (λi=>(w.cell? ⟨b,off+j+i,none⟩).getD undef) hget]
   .refine Jm.agg ⟨⟨by simp[hl],λi c x h1 h2=>?_⟩,λx hx=>?_⟩
    rotate_left
    .obtain⟨i,hi,rfl⟩:=ZL.1 hx;obtain⟨x',c',_,e2,ho,_⟩:=key i (aAL.1 hi);simp[e2,ho]
    have hi:i<n:=by
     rcases ZG i n with h|h
     .exact h
     .simp[h] at h2
    obtain⟨x',c',e1,e2,_,hr⟩:=key i hi;rw[h1] at e1;cases e1;simp[hi,e2] at h2;subst h2;exact hr
  .cases hv
end
def E6:List AV->List AV
 | []=>[]
 | x::r=>x.cells++E6 r
theorem Fu{R:Nat->AV->Prop}{sz:Nat}:∀{xs:List AV} {k:Nat},(∀(i:Nat) (x:AV),xs[i]? = some x->x.cells.length=sz/\∀(j:Nat) (c:AV),x.cells[j]? = some c->R ((k+i)*sz+j) c) ->
  ∀(q:Nat) (c:AV),(E6 xs)[q]? = some c->R (k*sz+q) c
 | [],k,h,q,c,hq=>by simp[E6] at hq
 | x::r,k,h,q,c,hq=>by
  obtain⟨h1,h2⟩:=h 0 x rfl;simp only[E6,Zk,h1] at hq;by_cases hlt:q<sz
  .rw[Y4 hlt] at hq;simpa using h2 q c hq
  .rw[Yz hlt] at hq;have:=Fu (R:=R) (sz:=sz) (xs:=r) (k:=k+1) (λi y hy=>by
    obtain⟨h3,h4⟩:=h (i+1) y (su hy);exact⟨h3,λj c hj=>by rw[show k+1+i=k+(i+1) by omega];exact h4 j c hj⟩) (q-sz) c hq
   rw[show (k+1)*sz+(q-sz)=k*sz+q by rw[Nat.add_mul];omega] at this;exact this
def DY(P:Program)(mem:aQ)(t:TypeId)(p:AV):Option AV:=
 match p with
 | .ip u=>match EO P t with
  | some sh=>sub sh u.cells 0
  | none=>none
 | .ptr id i j=>match lk mem id with
  | some (.row _ sz xs)=>match xs[i]? with
   | some x=>match EO P t with
    | some sh=>match sub sh x.cells j with
     | some v=>some v
     | none=>match P.underlying t with
      | some (.array _ _)=>sub sh (E6 xs) (i*sz+j)
      | _=>none
    | none=>none
   | none=>none
  | _=>none
 | _=>none
section
variable {P:Program} {C:List (Nat × AV)} {X:Nat->Prop} {E:Nat->dP} {D:Nat->Prop} {mem:aQ} {w:World}
theorem PO{u:AV}{x:Value}{O:Nat->Prop}(h:VR E D O w (.ip u) x) :
  ∃b off,x = .pointer (some ⟨b,off,none⟩)/\∀(i:Nat) (c:AV),u.cells[i]? = some c->¬O b/\∃x,w.cell? ⟨b,off+i,none⟩=some x/\x.oneCell'=true/\VR E D O w c x:=by
 cases h with
 | ip _ b off f h1 h2=>exact⟨b,off,rfl,λi c hc=>⟨(h1 i c hc).1,f i,(h1 i c hc).2.1,(h1 i c hc).2.2,h2 i c hc⟩⟩
theorem gL(hm:MR C X E D mem w){id:Nat}{t:TypeId}{sz:Nat}{xs:List AV}(hid:lk mem id=some (.row t sz xs)){i:Nat}{x:AV}(hx:xs[i]? = some x) :
  x.cells.length=(E id).sz/\∀(j:Nat) (c:AV),x.cells[j]? = some c->∃v,w.cell? ⟨(E id).b,i*(E id).sz+j,none⟩=some v/\v.oneCell'=true/\VR E D (OX X E mem) w c v:=by
 have hn:0<(E id).n:=by
  rcases ZC (E id).n with h|h
  .obtain⟨t',sz',e,_⟩:=hm.emp _ (bL hid) h;cases e;simp at hx
  .exact h
 obtain⟨o,ho,_,arr,fr,rfl,_,_,_,h4⟩:=hm.blk _ (bL hid) hn;refine⟨(h4 i x hx).1,λj c hc=>?_⟩;obtain⟨v,hv,h1,hr⟩:=(h4 i x hx).2 j c hc;exact⟨v,by simp[World.cell?,ho,hv],h1,hr⟩
theorem uP(hm:MR C X E D mem w){t:TypeId}{p v:AV}{x:Value}(h:DY P mem t p=some v)(hx:VR E D (OX X E mem) w p x) :
  ∃y,(Instr.loadAt t x).run P w = .ok y w/\VR E D (OX X E mem) w v y:=by
 unfold DY at h;split at h
 .rename_i u;split at h
  .rename_i sh hsh;obtain⟨b,off,rfl,hc⟩:=PO hx;obtain⟨y,hy,hr⟩:=oG hsh h (λi c hi=>(hc i c hi).2);exact⟨y,by simpa[Instr.loadAt,Instr.sureAddr] using hy,hr⟩
  .cases h
 .rename_i id i j;split at h
  .rename_i t' sz' xs hid;split at h
   .rename_i e he;split at h
    .rename_i sh hsh;cases hx;split at h
     .rename_i v0 hv0;cases h;obtain⟨y,hy,hr⟩:=oG hsh hv0 (gL hm hid he).2;exact⟨y,by simpa[Instr.loadAt,Instr.sureAddr] using hy,hr⟩
     .split at h
      .have hsz:(E id).sz=sz':=by
        rcases ZC (E id).n with h0|h0
        .obtain⟨t2,sz2,e2,e3⟩:=hm.emp _ (bL hid) h0;cases e2;exact e3
        .obtain⟨o,ho,q0,_⟩:=hm.blk _ (bL hid) h0;exact q0
       obtain⟨y,hy,hr⟩:=oG (w:=w) (E:=E) (D:=D) (O:=OX X E mem) (b:=(E id).b) (off:=0) hsh h (λq c hq=>by
        have:=Fu (R:=λq c=>∃v,w.cell? ⟨(E id).b,q,none⟩=some v/\v.oneCell'=true/\VR E D (OX X E mem) w c v) (sz:=(E id).sz) (k:=0) (λi x hx=>by
         obtain⟨h1,h2⟩:=gL hm hid hx;exact⟨h1,λj c hj=>by simpa using h2 j c hj⟩) q c hq
        simpa using this)
       rw[hsz];exact⟨y,by simpa[Instr.loadAt,Instr.sureAddr] using hy,hr⟩
      .cases h
    .cases h
   .cases h
  .cases h
 .cases h
end
end Go.Ax
namespace Go.Ax
open Go
def Pr:AV->Option AV
 | .ptr id i j=>some (.ptr id i j)
 | .ip v=>some (.ip v)
 | .fn (.func f) a b=>some (.fn (.func f) a b)
 | _=>none
def o9(P:Program)(t:TypeId)(f:Nat)(p:AV):Option AV:=
 match P.underlying t with
 | some (.struct fs)=>match fs[f]? with
  | some fd=>match gP P fd.type with
   | some (_+1)=>match p with
    | .ptr id i j=>some (.ptr id i (j+fd.offset))
    | .ip u=>match EO P fd.type with
     | some sh=>match sub sh u.cells fd.offset with
      | some v=>some (.ip v)
      | none=>none
     | none=>none
    | _=>none
   | _=>none
  | none=>none
 | _=>none
def DT(P:Program)(t:TypeId)(f:Nat)(v:AV):Option AV:=
 match P.underlying t with
 | some (.struct fs)=>match fs[f]? with
  | some fd=>match v with
   | .agg cs=>match EO P fd.type with
    | some sh=>sub sh cs fd.offset
    | none=>none
   | _=>none
  | none=>none
 | _=>none
def xS(mem:aQ)(id i j sz:Nat):Bool:=
 match j with
 | 0=>match lk mem id with
  | some (.row _ _ xs)=>match xs[i]? with
   | some x=>Nat.beq x.cells.length sz
   | none=>false
  | _=>false
 | _+1=>false
def pC(P:Program)(mem:aQ)(t:TypeId)(p ix:AV):Option AV:=
 match ix with
 | .int _ n=>match decide (0<=n) with
  | true=>match P.underlying t with
   | some (.slice e)=>match gP P e with
    | some sz=>match p with
     | .sl id off len=>match lk mem id with
      | some (.row _ _ xs)=>match Nat.blt n.toNat len with
       | true=>match xs[off+n.toNat]? with
        | some x=>match Nat.beq x.cells.length sz with
         | true=>some (.ptr id (off+n.toNat) 0)
         | false=>none
        | none=>none
       | false=>none
      | _=>none
     | .il sz' xs=>match xs[n.toNat]? with
      | some x=>match Nat.beq sz sz' with
       | true=>some (.ip x)
       | false=>none
      | none=>none
     | _=>none
    | none=>none
   | some (.array m e)=>match gP P e,EO P e with
    | some sz,some sh=>match Nat.blt n.toNat m with
     | true=>match p with
      | .ptr id i j=>match xS mem id i j sz with
       | true=>some (.ptr id (i+n.toNat) 0)
       | false=>some (.ptr id i (j+n.toNat*sz))
      | .ip u=>match sub sh u.cells (n.toNat*sz) with
       | some v=>some (.ip v)
       | none=>none
      | _=>none
     | false=>none
    | _,_=>none
   | _=>none
  | false=>none
 | _=>none
def DS(P:Program)(t:TypeId)(v ix:AV):Option AV:=
 match ix with
 | .int _ n=>match decide (0<=n) with
  | true=>match P.underlying t with
   | some .string=>match v with
    | .str s=>match s[n.toNat]? with
     | some b=>some (.int .u8 (b.toNat:Int))
     | none=>none
    | _=>none
   | some (.array m e)=>match v with
    | .agg cs=>match Nat.blt n.toNat m with
     | true=>match gP P e,EO P e with
      | some sz,some sh=>sub sh cs (n.toNat*sz)
      | _,_=>none
     | false=>none
    | _=>none
   | _=>none
  | false=>none
 | _=>none
section
variable {P:Program} {C:List (Nat × AV)} {X:Nat->Prop} {E:Nat->dP} {D:Nat->Prop} {O:Nat->Prop} {mem:aQ} {w:World}
theorem BQ{sh:Option Nat}{cs:List AV}{j:Nat}{v:AV}(h:sub sh cs j=some v)(i:Nat)(c:AV)(hc:v.cells[i]? = some c):cs[j+i]? = some c:=by
 cases sh with
 | none=>
  simp only[sub] at h;split at h
  .rename_i u hu;obtain⟨rfl,hf⟩:=C5 h;rw[hf] at hc;cases i with
   | zero=>simp at hc;subst hc;exact hu
   | succ i=>simp at hc
  .cases h
 | some n=>
  simp only[sub] at h;split at h
  .cases h;simp only[AV.cells] at hc;rw[Za] at hc;split at hc
   .rw[ZS] at hc;exact hc
   .cases hc
  .cases h
theorem Lw{sh:Option Nat}{cs:List AV}{j:Nat}{v:AV}(h:sub sh cs j=some v):v.cells.length=sh.getD 1:=by
 cases sh with
 | none=>
  simp only[sub] at h;split at h
  .obtain⟨rfl,hf⟩:=C5 h;rw[hf];rfl
  .cases h
 | some n=>
  simp only[sub] at h;split at h
  .rename_i hl;cases h;exact Nat.eq_of_beq_eq_true hl
  .cases h
theorem PU{u v:AV}{x:Value}(h:VR E D O w (.ip u) x){sh:Option Nat}{j:Nat}(hv:sub sh u.cells j=some v) :
  ∃b off,x = .pointer (some ⟨b,off,none⟩)/\VR E D O w (.ip v) (.pointer (some ⟨b,off+j,none⟩)):=by
 cases h with
 | ip _ b off f h1 h2=>
  refine⟨b,off,rfl,.ip v b (off+j) (λi=>f (j+i)) (λi c hc=>?_) (λi c hc=>?_)⟩
  .have:=h1 (j+i) c (BQ hv i c hc);exact⟨this.1,by rw[Nat.add_assoc];exact this.2.1,this.2.2⟩
  .exact h2 (j+i) c (BQ hv i c hc)
theorem D2{p v:AV}{x:Value}(h:Pr p=some v)(hx:VR E D O w p x)(o:Oper)(f:Operand->Value)(y:Operand)(ho:o.op = .nilCheck y)(hy:f y=x) :
  (execOp f o).run P w = .ok (.value x) w/\VR E D O w v x:=by
 unfold Pr at h;split at h<;>first|cases h|skip
 all_goals
  cases hx;refine⟨by simp[execOp,ho,hy], ?_⟩
 .exact .ptr _ _ _ (by assumption)
 .exact .ip _ _ _ _ (by assumption) (by assumption)
 .exact .fn _ _ _ _ _ (by assumption) (by assumption) (by assumption) (by assumption)
theorem q6{t:TypeId}{f:Nat}{p v:AV}{x:Value}(h:o9 P t f p=some v)(hx:VR E D O w p x) :
  ∃y,(Instr.fieldAt t x f).run P w = .ok y w/\VR E D O w v y:=by
 unfold o9 at h;split at h
 .rename_i fs hu;split at h
  .rename_i fd hfd;split at h
   .rename_i n hn;have hrun:=hZ (w:=w) hn;split at h
    .rename_i id i j;cases h;cases hx;refine⟨.pointer (some ⟨(E id).b,i*(E id).sz+j+fd.offset,none⟩), ?_, ?_⟩
     .simp[Instr.fieldAt,run_underlying hu,hfd,Instr.sureAddr,fieldPlace,hrun,Addr.add_lit]
     .rw[Nat.add_assoc];exact .ptr id i (j+fd.offset) (by assumption)
    .rename_i u;split at h
     .rename_i sh hsh;split at h
      .rename_i v' hv';cases h;obtain⟨b,off,rfl,hr⟩:=PU hx hv';exact⟨_,by simp[Instr.fieldAt,run_underlying hu,hfd,Instr.sureAddr,fieldPlace,hrun,Addr.add_lit],hr⟩
      .cases h
     .cases h
    .cases h
   .cases h
  .cases h
 .cases h
theorem uX{t:TypeId}{sh:Option Nat}(hsh:EO P t=some sh){cs:List AV}{j:Nat}{v:AV}(hv:sub sh cs j=some v){vs:List Value}(hc:Jm E D O w cs vs) :
  ∃x,(part t vs.toArray j).run P w = .ok x w/\VR E D O w v x:=by
 obtain⟨hag,hsz⟩:=FF (w:=w) hsh;cases sh with
 | none=>
  simp only[sub] at hv;split at hv
  .rename_i c hcj;obtain⟨rfl,_⟩:=C5 hv;have hlt:j<vs.length:=by
    rw[<-hc.1.1];rcases ZG j cs.length with h|h
    .exact h
    .rw[ZH h] at hcj;cases hcj
   exact⟨vs[j],by simp[part,hag,hlt],hc.1.2 j c _ hcj (by simp[hlt])⟩
  .cases hv
 | some n=>
  have hlen:=Lw hv;simp only[sub] at hv;split at hv
  .cases hv;refine⟨.agg (vs.toArray.extract j (j+n)),by simp[part,hag,hsz n rfl], ?_⟩;have e:vs.toArray.extract j (j+n)=((vs.drop j).take n).toArray:=by
    simp[List.extract_toArray,List.extract_eq_take_drop]
   rw[e];refine Jm.agg ⟨⟨?_,λi c x h1 h2=>?_⟩,λx hx=>hc.2 x (Zr (Zg hx))⟩
   .simp[hc.1.1]
   .rw[Za] at h1 h2;split at h1
    .rename_i hi;rw[Y4 hi] at h2;rw[ZS] at h1 h2;exact hc.1.2 _ c x h1 h2
    .cases h1
  .cases hv
theorem AO{t:TypeId}{f:Nat}{p v:AV}{x:Value}(h:DT P t f p=some v)(hx:VR E D O w p x) :
  ∃y,(Instr.field t x f).run P w = .ok y w/\VR E D O w v y:=by
 unfold DT at h;split at h
 .rename_i fs hu;split at h
  .rename_i fd hfd;split at h
   .rename_i cs;split at h
    .rename_i sh hsh;obtain⟨vs,rfl,hvs⟩:=hx.agg_inv;obtain⟨y,hy,hr⟩:=uX (w:=w) hsh h hvs;exact⟨y,by simp[Instr.field,run_underlying hu,hfd,asAgg,hy],hr⟩
    .cases h
   .cases h
  .cases h
 .cases h
end
end Go.Ax
namespace Go.Ax
open Go
section
variable {P:Program} {C:List (Nat × AV)} {X:Nat->Prop} {E:Nat->dP} {D:Nat->Prop} {O:Nat->Prop} {mem:aQ} {w:World}
theorem Bu(hm:MR C X E D mem w){id i j sz:Nat}(h:xS mem id i j sz=true):j=0/\(E id).sz=sz:=by
 unfold xS at h;split at h
 .split at h
  .rename_i hid;split at h
   .rename_i hx;exact⟨rfl,by rw[<-(gL hm hid hx).1];exact Nat.eq_of_beq_eq_true h⟩
   .cases h
  .cases h
 .cases h
theorem rM(hm:MR C X E D mem w){t:TypeId}{p ix v:AV}{x y:Value}(h:pC P mem t p ix=some v)
  (hx:VR E D (OX X E mem) w p x) (hy:VR E D (OX X E mem) w ix y) :
  ∃z,(Instr.indexAt t x y).run P w = .ok z w/\VR E D (OX X E mem) w v z:=by
 unfold pC at h;split at h
 .rename_i k n;cases hy;split at h
  .rename_i hn;have hn:0<=n:=Zh hn;split at h
   .rename_i e hu;split at h
    .rename_i sz hsz;have hrun:=hZ (w:=w) hsz;split at h
     .rename_i id off len;split at h
      .rename_i t' sz0 xs hid;split at h
       .rename_i hlt;have hlt:n.toNat<len:=Y5 hlt;split at h
        .rename_i u hu';split at h
         .rename_i hl;have hl:=Nat.eq_of_beq_eq_true hl;cases h;have hz:=(gL hm hid hu').1;rw[hl] at hz;have hlt':n<(len:Int):=om;cases hx with
          | sl _ _ _ cap hid' h1 h2=>
           refine⟨.pointer (some ⟨(E id).b,off*(E id).sz+n.toNat*sz,none⟩), ?_, ?_⟩
           .simp[Instr.indexAt,asIntOf,run_underlying hu,hn,hlt',hrun,Addr.add_lit]
           .have e:off*(E id).sz+n.toNat*sz=(off+n.toNat)*(E id).sz+0:=by rw[hz,Nat.add_mul];omega
            rw[e];exact .ptr id _ 0 hid'
          | slz _ _ a a' hid'=>omega
          | slzn _ _ hid'=>omega
         .cases h
        .cases h
       .cases h
      .cases h
     .rename_i sz' xs;split at h
      .rename_i u hu';split at h
       .rename_i hl;have hl:=Nat.eq_of_beq_eq_true hl;subst hl;cases h;have hlt:n.toNat<xs.length:=by
         rcases ZG n.toNat xs.length with h|h
         .exact h
         .rw[ZH h] at hu';cases hu'
        have hlt':n<(xs.length:Int):=om;cases hx with
        | il _ _ b off cap f h0 h1 h2 h3=>
         refine⟨.pointer (some ⟨b,off+n.toNat*sz,none⟩), ?_, ?_⟩
         .simp[Instr.indexAt,asIntOf,run_underlying hu,hn,hlt',hrun,Addr.add_lit]
         .refine .ip _ b _ (λj=>f n.toNat j) (λj c hc=>?_) (λj c hc=>h3 _ _ j c hu' hc);have:=h2 _ _ j c hu' hc;exact⟨this.1,by rw[Nat.add_assoc];exact this.2.1,this.2.2⟩
        | iln=>simp at hlt
       .cases h
      .cases h
     .cases h
    .cases h
   .rename_i m e hu;split at h
    .rename_i sz sh hsz hsh;have hrun:=hZ (w:=w) hsz;split at h
     .rename_i hlt;have hlt:n.toNat<m:=Y5 hlt;have hlt':n<(m:Int):=om;split at h
      .rename_i id i j;cases hx;refine⟨.pointer (some ⟨(E id).b,i*(E id).sz+j+n.toNat*sz,none⟩), ?_, ?_⟩
       .simp[Instr.indexAt,asIntOf,run_underlying hu,Instr.sureAddr,hn,hlt',hrun,Addr.add_lit]
       .split at h
        .rename_i he;cases h;obtain⟨rfl,hz⟩:=Bu hm he;have e:i*(E id).sz+0+n.toNat*sz=(i+n.toNat)*(E id).sz+0:=by rw[hz,Nat.add_mul];omega
         rw[e];exact .ptr id _ 0 (by assumption)
        .cases h;rw[Nat.add_assoc];exact .ptr id i _ (by assumption)
      .rename_i u;split at h
       .rename_i v' hv';cases h;obtain⟨b,off,rfl,hr⟩:=PU hx hv';exact⟨_,by simp[Instr.indexAt,asIntOf,run_underlying hu,Instr.sureAddr,hn,hlt',hrun,Addr.add_lit],hr⟩
       .cases h
      .cases h
     .cases h
    .cases h
   .cases h
  .cases h
 .cases h
theorem zO{t:TypeId}{p ix v:AV}{x y:Value}(h:DS P t p ix=some v)(hx:VR E D O w p x)(hy:VR E D O w ix y) :
  ∃z,(Instr.index t x y).run P w = .ok z w/\VR E D O w v z:=by
 unfold DS at h;split at h
 .rename_i k n;cases hy;split at h
  .rename_i hn;have hn:0<=n:=Zh hn;split at h
   .rename_i hu;split at h
    .rename_i s;split at h
     .rename_i b hb;cases h;cases hx;refine⟨.int .u8 (b.toNat:Int), ?_,.int _ _⟩;have hlt:n.toNat<s.length:=by
       rcases ZG n.toNat s.length with h|h
       .exact h
       .rw[ZH h] at hb;cases hb
      have hb':(⟨s.toArray⟩:ByteArray)[n.toNat]? = some b:=by
       rw[ByteArray.getElem?_lt' (⟨s.toArray⟩:ByteArray) n.toNat (by simpa[ByteArray.size] using hlt)];rw[Yw hlt] at hb;exact hb
      simp[Instr.index,asIntOf,run_underlying hu,hn,hb']
     .cases h
    .cases h
   .rename_i m e hu;split at h
    .rename_i cs;split at h
     .rename_i hlt;have hlt:n.toNat<m:=Y5 hlt;have hlt':n<(m:Int):=om;split at h
      .rename_i sz sh hsz hsh;obtain⟨vs,rfl,hvs⟩:=hx.agg_inv;obtain⟨z,hz,hr⟩:=uX (w:=w) hsh h hvs;exact⟨z,by simp[Instr.index,asIntOf,run_underlying hu,hn,hlt',hZ hsz,hz],hr⟩
      .cases h
     .cases h
    .cases h
   .cases h
  .cases h
 .cases h
end
def Cy(op:BinOp)(k:IntKind)(x y:Int):Option AV:=
 match op with
 | .add=>some (.int k (k.wrap (x+y)))
 | .sub=>some (.int k (k.wrap (x-y)))
 | .mul=>some (.int k (k.wrap (x*y)))
 | .quo=>match decide (y=0) with
  | true=>none
  | false=>some (.int k (k.wrap (x.tdiv y)))
 | .rem=>match decide (y=0) with
  | true=>none
  | false=>some (.int k (x.tmod y))
 | .and=>some (.int k (bits .and k x y))
 | .or=>some (.int k (bits .or k x y))
 | .xor=>some (.int k (bits .xor k x y))
 | .andNot=>some (.int k (bits .andNot k x y))
 | .eql=>some (.bool (x == y))
 | .neq=>some (.bool (x != y))
 | .lss=>some (.bool (decide (x<y)))
 | .leq=>some (.bool (decide (x<=y)))
 | .gtr=>some (.bool (decide (x>y)))
 | .geq=>some (.bool (decide (x≥y)))
 | _=>none
def C0(op:BinOp)(x y:List UInt8):Option AV:=
 match op with
 | .add=>match decide ((x.length:Int)+y.length<=9223372036854775807) with
  | true=>some (.str (x++y))
  | false=>none
 | .eql=>some (.bool (x == y))
 | .neq=>some (.bool (!(x == y)))
 | .lss=>some (.bool (Op.bytesLess x y))
 | .leq=>some (.bool (Op.bytesLess x y || x == y))
 | .gtr=>some (.bool (!(Op.bytesLess x y || x == y)))
 | .geq=>some (.bool (!(Op.bytesLess x y)))
 | _=>none
def A1(op:BinOp)(k:IntKind)(x y:Int):Option AV:=
 match decide (y<0) with
 | true=>none
 | false=>match op with
  | .shl=>some (.int k (k.wrap (x*2 ^ (min y.toNat k.bits))))
  | .shr=>some (.int k (x.fdiv (2 ^ (min y.toNat k.bits))))
  | _=>none
def IX(P:Program)(t:TypeId)(x y:AV):Option Bool:=
 match P.underlying t with
 | some (.int _)=>match x,y with
  | .int k a,.int k' b=>match decide (k=k') with
   | true=>some (a == b)
   | false=>none
  | _,_=>none
 | some .string=>match x,y with
  | .str a,.str b=>some (a == b)
  | _,_=>none
 | some .bool=>match x,y with
  | .bool a,.bool b=>some (a == b)
  | _,_=>none
 | _=>none
def PR(P:Program)(lit:Bool)(t:TypeId)(x y:AV):Option Bool:=
 match P.underlying t with
 | some .bool=>match x,y with
  | .bool a,.bool b=>some (a == b)
  | _,_=>none
 | some (.pointer e)=>match x,y with
  | .nptr,.nptr=>some true
  | .nptr,.ptr _ _ _=>some false
  | .nptr,.ip _=>some false
  | .ptr _ _ _,.nptr=>some false
  | .ip _,.nptr=>some false
  | .ptr i j k,.ptr i' j' k'=>match P.info? e with
   | some _=>match Nat.beq i i' && (Nat.beq j j' && Nat.beq k k') with
    | true=>some true
    | false=>none
   | none=>none
  | _,_=>none
 | some (.slice _)=>match x,y with
  | .nsl,.nsl=>some true
  | .sl _ _ (_+1),.nsl=>some false
  | .nsl,.sl _ _ (_+1)=>some false
  | .il _ (_::_),.nsl=>some false
  | .nsl,.il _ (_::_)=>some false
  | _,_=>none
 | some (.map _ _)=>match x,y with
  | .nmap,.nmap=>some true
  | .mp _,.nmap=>some false
  | .nmap,.mp _=>some false
  | _,_=>none
 | some (.func _ _ _)=>match x,y with
  | .nfn,.nfn=>some true
  | .fn _ _ _,.nfn=>some false
  | .nfn,.fn _ _ _=>some false
  | _,_=>none
 | some (.interface _)=>match x,y with
  | .nif,.nif=>match lit with
   | true=>some true
   | false=>none
  | .nif,.ifc _ _=>some false
  | .ifc _ _,.nif=>some false
  | .ifc t1 v1,.ifc t2 v2=>match Nat.beq t1 t2 with
   | false=>some false
   | true=>match P.info? t1 with
    | some i=>match i.comparable with
     | true=>IX P t1 v1 v2
     | false=>none
    | none=>none
  | _,_=>none
 | _=>none
def Q6(P:Program)(xs ys:List AV):List Field->Option Bool
 | []=>some true
 | f::r=>match f.name == "_" with
  | true=>none
  | false=>match EO P f.type with
   | some sh=>match sub sh xs f.offset with
    | some x=>match sub sh ys f.offset with
     | some y=>match IX P f.type x y with
      | some b=>match Q6 P xs ys r with
       | some c=>some (b && c)
       | none=>none
      | none=>none
     | none=>none
    | none=>none
   | none=>none
def GF(P:Program)(t:TypeId)(xs ys:List AV):Option Bool:=
 match P.underlying t with
 | some (.struct fs)=>match P.stoodInHeld t with
  | false=>Q6 P xs ys fs.toList
  | true=>none
 | _=>none
def lU:Operand->Bool
 | .const _=>true
 | _=>false
def PJ(P:Program)(op:BinOp)(t:TypeId)(xo yo:Operand)(x y:AV):Option AV:=
 match x,y with
 | .int k a,.int k' b=>match op with
  | .shl=>A1 .shl k a b
  | .shr=>A1 .shr k a b
  | _=>match decide (k=k') with
   | true=>Cy op k a b
   | false=>none
 | .str a,.str b=>C0 op a b
 | .agg a,.agg b=>match P.eqGuardType P.depth t with
  | false=>match op with
   | .eql=>match GF P t a b with
    | some r=>some (.bool r)
    | none=>none
   | .neq=>match GF P t a b with
    | some r=>some (.bool (!r))
    | none=>none
   | _=>none
  | true=>none
 | _,_=>match op with
  | .eql=>match PR P (lU xo || lU yo) t x y with
   | some b=>some (.bool b)
   | none=>none
  | .neq=>match PR P (lU xo || lU yo) t x y with
   | some b=>some (.bool (!b))
   | none=>none
  | _=>none
section
variable {P:Program} {E:Nat->dP} {D:Nat->Prop} {O:Nat->Prop} {w:World}
theorem Ge{op:BinOp}{k:IntKind}{x y:Int}{v:AV}(h:Cy op k x y=some v)(t:TypeId) :
  ∃z,(binOp op t (.int k x) (.int k y)).run P w = .ok z w/\VR E D O w v z:=by
 cases op<;>simp only[Cy] at h<;>first|(cases h;done)|skip
 all_goals first
  | (cases h;refine⟨_, ?_,VR.int _ _⟩;simp[binOp,Op.intArith,intBits_and,intBits_or,intBits_xor,intBits_andNot];done)
  | (cases h;refine⟨_, ?_,VR.bool _⟩;simp[binOp,Op.intCmp];done)
  | (split at h<;>first|(cases h;done)|(rename_i hd;cases h;refine⟨_, ?_,VR.int _ _⟩;simp[binOp,Op.intDiv,aAX hd]))
theorem HJ{op:BinOp}{x y:List UInt8}{v:AV}(h:C0 op x y=some v)(t:TypeId) :
  ∃z,(binOp op t (.string ⟨x.toArray⟩) (.string ⟨y.toArray⟩)).run P w = .ok z w/\VR E D O w v z:=by
 cases op<;>simp only[C0] at h<;>first|(cases h;done)|skip
 case add=>
  split at h
  .rename_i hd;cases h;have hd:=Zh hd;refine⟨_, ?_,VR.str _⟩;have e:(⟨x.toArray⟩:ByteArray)++⟨y.toArray⟩=⟨(x++y).toArray⟩:=by
    rw[<-Lib.mk_data ((⟨x.toArray⟩:ByteArray)++⟨y.toArray⟩)];congr 1
   simp[binOp,Op.stringOp,ByteArray.size,e];exact hd
  .cases h
 all_goals (cases h;refine⟨_, ?_,VR.bool _⟩;simp[binOp,Op.stringOp])
theorem AX{op:BinOp}{k k':IntKind}{x y:Int}{v:AV}(h:A1 op k x y=some v)(t:TypeId) :
  ∃z,(binOp op t (.int k x) (.int k' y)).run P w = .ok z w/\VR E D O w v z:=by
 unfold A1 at h;split at h
 .cases h
 .rename_i hd;have hd:=aAX hd;split at h<;>first|(cases h;done)|skip
  all_goals
   cases h;refine⟨_, ?_,VR.int _ _⟩;simp[binOp,Op.shift,hd]
theorem yU{t:TypeId}{a b:AV}{x y:Value}{r:Bool}(h:IX P t a b=some r)(hx:VR E D O w a x)(hy:VR E D O w b y)(d:Nat):(Op.equalIn (d+1) t x y).run P w = .ok r w:=by
 unfold IX at h;split at h
 .rename_i hu;split at h
  .split at h
   .rename_i hk;have hk:=Zh hk;subst hk;cases h;cases hx;cases hy;exact run_equalIn_int w d t _ _ _ _ hu
   .cases h
  .cases h
 .rename_i hu;split at h
  .cases h;cases hx;cases hy;rw[run_equalIn_string w d t _ _ hu,ByteArray.toList_eq,ByteArray.toList_eq]
  .cases h
 .rename_i hu;split at h
  .cases h;cases hx;cases hy;exact run_equalIn_bool' w d t _ _ hu
  .cases h
 .cases h
theorem IJ{t e:TypeId}{i:TypeInfo}(hu:P.underlying t=some (.pointer e))(hi:P.info? e=some i)(a:Addr):(Op.equal t (.pointer (some a)) (.pointer (some a))).run P w = .ok true w:=by
 show (Op.equalIn (9999+1) t _ _).run P w=_
 rw[Op.equalIn,Sem.run_bind,run_underlying hu];simp only[Result.andThen_ok];have hs:(sizeOf e).run P w = .ok i.size w:=by simp[sizeOf,typeInfo,hi]
 rw[Sem.run_bind,hs];simp only[Result.andThen_ok];split
 .simp[sameAddr]
 .simp
theorem Ff{lit:Bool}{t:TypeId}{a b:AV}{x y:Value}{r:Bool}(h:PR P lit t a b=some r)(hx:VR E D O w a x)(hy:VR E D O w b y) :
    (Op.equal t x y).run P w = .ok r w/\∀(op:BinOp) (xo yo:Operand),lit=(lU xo || lU yo)->eqGuard op t xo yo x y=pure ():=by
  by_cases hpp:∃i j k i' j' k',a = .ptr i j k/\b = .ptr i' j' k'
  · obtain⟨i,j,k,i',j',k',rfl,rfl⟩:=hpp
    unfold PR at h;split at h<;>first|(cases h;done)|skip
    rename_i e hu;simp only at h;split at h<;>first|(cases h;done)|skip
    rename_i inf hi;split at h<;>first|(cases h;done)|skip
    rename_i hc;cases h;simp only[Y1] at hc;obtain⟨c1,c2,c3⟩:=hc;have c1:=Nat.eq_of_beq_eq_true c1;have c2:=Nat.eq_of_beq_eq_true c2;have c3:=Nat.eq_of_beq_eq_true c3;subst c1 c2 c3;cases hx;cases hy;refine⟨IJ hu hi _,λop xo yo _=>?_⟩;cases op<;>rfl
  by_cases hii:∃t1 v1 t2 v2,a = .ifc t1 v1/\b = .ifc t2 v2
  · obtain⟨t1,v1,t2,v2,rfl,rfl⟩:=hii
    unfold PR at h;split at h<;>first|(cases h;done)|skip
    rename_i ms hu;simp only at h;cases hx with
    | ifc _ _ x1 hx1=>
      cases hy with
      | ifc _ _ y1 hy1=>
        refine⟨?_,λop xo yo _=>by cases op<;>rfl⟩
        show (Op.equalIn (9999+1) t _ _).run P w=_
        rw[Op.equalIn,Sem.run_bind,run_underlying hu];simp only[Result.andThen_ok];split at h
        · rename_i hne
          cases h;have hne:t1≠t2:=Z6 hne;simp[hne]
        · rename_i he
          have he:=Nat.eq_of_beq_eq_true he;subst he;split at h<;>first|(cases h;done)|skip
          rename_i inf hi;split at h<;>first|(cases h;done)|skip
          rename_i hcmp;have h1:=yU (P:=P) (w:=w) h hx1 hy1 9998;simp[typeInfo,hi,hcmp];exact h1
  unfold PR at h;split at h<;>first|(cases h;done)|skip
  all_goals rename_i hu
  all_goals
    split at h<;>first|(cases h;done)|(exact absurd ⟨_,_,_,_,_,_,rfl,rfl⟩ hpp)|(exact absurd ⟨_,_,_,_,rfl,rfl⟩ hii)|skip
  all_goals first|(split at h<;>first|(cases h;done)|skip)|skip
  all_goals
    cases h;cases hx<;>cases hy<;>first
      | (refine⟨by show (Op.equalIn (9999+1) t _ _).run P w=_;rw[Op.equalIn,Sem.run_bind,run_underlying hu];rfl,λop xo yo _=>?_⟩
         cases op<;>rfl)
      | (refine⟨by show (Op.equalIn (9999+1) t _ _).run P w=_;rw[Op.equalIn,Sem.run_bind,run_underlying hu];rfl,λop xo yo hl=>?_⟩
         cases op<;>cases xo<;>cases yo<;>first|rfl|(simp[lU] at hl))
theorem Da{xs ys:List AV}{vs us:List Value}(hx:Jm E D O w xs vs)(hy:Jm E D O w ys us)(d:Nat):∀{fs:List Field} {r:Bool},Q6 P xs ys fs=some r->(Op.eqFields (d+1) vs.toArray us.toArray fs).run P w = .ok r w
 | [],r,h=>by cases h;simp[Op.eqFields]
 | f::fs,r,h=>by
  simp only[Q6] at h;split at h
  .cases h
  .rename_i hn;have hn:f.name≠"_" :=su hn
   split at h
   .rename_i sh hsh;split at h
    .rename_i x hx1;split at h
     .rename_i y hy1;split at h
      .rename_i b hb;split at h
       .rename_i c hc;cases h;obtain⟨z1,p1,q1⟩:=uX (w:=w) hsh hx1 hx;obtain⟨z2,p2,q2⟩:=uX (w:=w) hsh hy1 hy;have e:=yU (P:=P) hb q1 q2 d;have ih:=Da hx hy d hc;rw[Op.eqFields,Y4 hn,Sem.run_bind,p1,Result.andThen_ok,Sem.run_bind,p2,Result.andThen_ok,Sem.run_bind,e,Result.andThen_ok,Sem.run_ite];cases b
        .simp
        .simpa using ih
       .cases h
      .cases h
     .cases h
    .cases h
   .cases h
theorem yL{t:TypeId}{a b:List AV}{x y:Value}{r:Bool}(h:GF P t a b=some r)(hx:VR E D O w (.agg a) x)(hy:VR E D O w (.agg b) y):(Op.equal t x y).run P w = .ok r w/\∃xs ys,x = .agg xs/\y = .agg ys:=by
 unfold GF at h;split at h
 .rename_i fs hu;split at h
  .rename_i hs;obtain⟨vs,rfl,hvs⟩:=hx.agg_inv;obtain⟨us,rfl,hus⟩:=hy.agg_inv;have hf:P.fieldsOf t=fs:=by simp[Program.fieldsOf,hu]
   refine⟨?_,_,_,rfl,rfl⟩
   show (Op.equalIn (9999+1) t _ _).run P w=_
   rw[run_equalIn_struct w 9999 t _ _ (by rw[hf];exact hu) hs,hf];exact Da hvs hus 9998 h
  .cases h
 .cases h
theorem EI{op:BinOp}{t:TypeId}{xo yo:Operand}{a b v:AV}{x y:Value}(h:PJ P op t xo yo a b=some v)(hx:VR E D O w a x)(hy:VR E D O w b y) :
  ∃z,(do eqGuard op t xo yo x y;binOp op t x y).run P w = .ok z w/\VR E D O w v z:=by
 unfold PJ at h;split at h
 .rename_i k p k' q;cases hx;cases hy;have g:∀op,eqGuard op t xo yo (.int k p) (.int k' q)=pure ():=λop=>by cases op<;>rfl
  rw[g];split at h
  .obtain⟨z,hz,hr⟩:=AX (P:=P) (E:=E) (D:=D) (O:=O) (w:=w) (k':=k') h t;exact⟨z,su hz,hr⟩
  .obtain⟨z,hz,hr⟩:=AX (P:=P) (E:=E) (D:=D) (O:=O) (w:=w) (k':=k') h t;exact⟨z,su hz,hr⟩
  .split at h
   .rename_i hk;have hk:=Zh hk;subst hk;obtain⟨z,hz,hr⟩:=Ge (P:=P) (E:=E) (D:=D) (O:=O) (w:=w) h t;exact⟨z,su hz,hr⟩
   .cases h
 .cases hx;cases hy;have g:∀op p q,eqGuard op t xo yo (.string p) (.string q)=pure ():=λop p q=>by cases op<;>rfl
  rw[g];obtain⟨z,hz,hr⟩:=HJ (P:=P) (E:=E) (D:=D) (O:=O) (w:=w) h t;exact⟨z,su hz,hr⟩
 .split at h
  .rename_i hg;split at h
   .split at h
    .rename_i r he;cases h;obtain⟨h1,xs,ys,rfl,rfl⟩:=yL he hx hy;refine⟨.bool r, ?_,.bool _⟩;rw[Sem.run_bind,run_eqGuard_agg w _ _ _ _ _ _ hg,Result.andThen_ok,run_eql_struct];have h1:(Op.equalIn 10000 t (.agg xs) (.agg ys)).run P w = .ok r w:=h1;rw[h1];rfl
    .cases h
   .split at h
    .rename_i r he;cases h;obtain⟨h1,xs,ys,rfl,rfl⟩:=yL he hx hy;refine⟨.bool (!r), ?_,.bool _⟩;rw[Sem.run_bind,run_eqGuard_agg w _ _ _ _ _ _ hg,Result.andThen_ok,run_neq_struct];have h1:(Op.equalIn 10000 t (.agg xs) (.agg ys)).run P w = .ok r w:=h1;rw[h1];rfl
    .cases h
   .cases h
  .cases h
 .rename_i hni hns hna;have nint:∀k n k' n',x = .int k n->y = .int k' n'->False:=by
   intro k n k' n' e1 e2;subst e1 e2;cases hx<;>cases hy<;>first|exact hni _ _ _ _ rfl rfl|skip
   all_goals (split at h<;>first|(cases h;done)|skip)
   all_goals (split at h<;>first|(cases h;done)|skip)
   all_goals (rename_i he;unfold PR at he;split at he<;>first|(cases he;done)|(split at he<;>cases he))
  split at h
  .split at h
   .rename_i r he;cases h;obtain⟨h1,h2⟩:=Ff he hx hy;rw[h2 _ _ _ rfl];refine⟨.bool r, ?_,.bool _⟩;have e:binOp .eql t x y=(do let r <-Op.equal t x y;pure (.bool r)):=by
     unfold PR at he;split at he<;>first|(cases he;done)|skip
     all_goals (split at he<;>first|(cases he;done)|skip)
     all_goals (cases hx<;>cases hy<;>rfl)
    rw[e];simp[h1]
   .cases h
  .split at h
   .rename_i r he;cases h;obtain⟨h1,h2⟩:=Ff he hx hy;rw[h2 _ _ _ rfl];refine⟨.bool (!r), ?_,.bool _⟩;have e:binOp .neq t x y=(do let r <-Op.equal t x y;pure (.bool (!r))):=by
     unfold PR at he;split at he<;>first|(cases he;done)|skip
     all_goals (split at he<;>first|(cases he;done)|skip)
     all_goals (cases hx<;>cases hy<;>rfl)
    rw[e];simp[h1]
   .cases h
  .cases h
end
end Go.Ax
namespace Go.Ax
open Go
def Xd(op:UnOp)(x:AV):Option AV:=
 match op,x with
 | .neg,.int k n=>some (.int k (k.wrap (0-n)))
 | .not,.bool b=>some (.bool (!b))
 | _,_=>none
def gI:List AV->Option (List UInt8)
 | []=>some []
 | .int .u8 n::r=>match gI r with
  | some l=>some (UInt8.ofNat n.toNat::l)
  | none=>none
 | _=>none
def SF(P:Program)(mem:aQ)(d:TypeDesc)(x:AV):Option AV:=
 match d with
 | .pointer t=>match x with
  | .ptr id i j=>match lk mem id with
   | some (.row _ sz xs)=>match P.info? t with
    | some inf=>match Nat.blt 0 inf.size && (Nat.blt i xs.length && Nat.blt j sz) with
     | true=>some (.ptr id i j)
     | false=>none
    | none=>none
   | _=>none
  | _=>none
 | _=>none
def Gb(P:Program)(mem:aQ)(d:TypeDesc)(u:TypeId)(x:AV):Option AV:=
 match d with
 | .unsafePointer=>match x with
  | .ptr id i j=>match lk mem id with
   | some (.row t sz xs)=>match P.info? u with
    | some _=>match liesAt P P.depth t xs.length (i*sz+j) u 1 && (Nat.blt i xs.length && (Nat.blt j sz && Nat.beq sz (P.cellsOf t))) with
     | true=>some (.ptr id i j)
     | false=>none
    | none=>none
   | _=>none
  | _=>none
 | _=>none
def D6(P:Program)(mem:aQ)(src dst:TypeId)(x:AV):Option AV:=
 match P.underlying src with
 | none=>none
 | some d=>match P.underlying dst with
  | some (.int k)=>match x with
   | .int _ n=>some (.int k (k.wrap n))
   | _=>none
  | some .string=>match x with
   | .str s=>some (.str s)
   | _=>match d with
    | .slice e=>match P.underlying e with
     | some (.int .u8)=>match x with
      | .nsl=>some (.str [])
      | .il sz xs=>match Nat.beq sz 1 with
       | true=>match gI xs with
        | some l=>some (.str l)
        | none=>none
       | false=>none
      | .sl id off len=>match lk mem id with
       | some (.row _ _ xs)=>match Nat.ble (off+len) xs.length with
        | true=>match gI ((xs.drop off).take len) with
         | some l=>some (.str l)
         | none=>none
        | false=>none
       | _=>none
      | _=>none
     | _=>none
    | _=>none
  | some .unsafePointer=>SF P mem d x
  | some (.pointer u)=>Gb P mem d u x
  | _=>none
def tX(x:AV)(i:Nat):Option AV:=
 match x with
 | .tup vs=>vs[i]?
 | _=>none
def HE(P:Program)(t:TypeId)(x:AV):Option AV:=
 match P.concrete t with
 | true=>some (.ifc t x)
 | false=>none
def lF:AV->Bool
 | .tup _=>false
 | .junk=>false
 | _=>true
def zU(place:Nat->Option (Nat × Nat)):List AV->List (Nat × AV)->Option (List AV)
 | cells,[]=>some cells
 | cells,(i,v)::r=>match place i with
  | none=>none
  | some (off,size)=>match lF v && (Nat.beq v.cells.length size && Nat.ble (off+v.cells.length) cells.length) with
   | true=>zU place (v.cells.zipIdx.foldl (λcs p=>cs.set (off+p.2) p.1) cells) r
   | false=>none
def wI(P:Program):List Field->Option (List (Nat × Nat))
 | []=>some []
 | f::r=>match gP P f.type with
  | some n=>match wI P r with
   | some l=>some ((f.offset,n)::l)
   | none=>none
  | none=>none
def Cc(P:Program)(t:TypeId)(parts:List (Nat × AV)):Option AV:=
 match P.info? t with
 | some it=>match it.zero with
  | some z=>match xQ z with
   | some (.agg zs)=>match P.underlying t with
    | some (.array _ e)=>match gP P e with
     | some n=>match zU (λi=>some (i*n,n)) zs parts with
      | some cs=>some (.agg cs)
      | none=>none
     | none=>none
    | some (.struct fs)=>match wI P fs.toList with
     | some places=>match zU (λi=>places[i]?) zs parts with
      | some cs=>some (.agg cs)
      | none=>none
     | none=>none
    | _=>none
   | _=>none
  | none=>none
 | none=>none
section
variable {P:Program} {C:List (Nat × AV)} {X:Nat->Prop} {E:Nat->dP} {D:Nat->Prop} {O:Nat->Prop} {mem:aQ} {w:World}
theorem Ez{op:UnOp}{a v:AV}{x:Value}(h:Xd op a=some v)(hx:VR E D O w a x) :
  ∃z,(Op.unary op x).run P w = .ok z w/\VR E D O w v z:=by
 unfold Xd at h;split at h<;>first|(cases h;done)|skip
 .cases h;cases hx;exact⟨_,by simp[Op.unary,Op.intArith],.int _ _⟩
 .cases h;cases hx;exact⟨_,by simp[Op.unary],.bool _⟩
theorem xD{msg:String}:∀{xs:List AV} {l:List UInt8} {vs:List Value},gI xs=some l->j8 E D O w xs vs ->
  ∀(s:ByteArray),(forIn vs s λc __s=>
     match c with
     | Value.int IntKind.u8 n=>(pure (ForInStep.yield (__s.push (UInt8.ofNat n.toNat))):Sem (ForInStep ByteArray))
     | _=>do
      stuck msg
      pure (ForInStep.yield __s)).run P w = .ok ⟨s.data++l.toArray⟩ w
 | [],l,vs,h,hv,s=>by
  have:vs=[]:=by have:=hv.1;simp at this;exact ZB this.symm
  subst this;simp[gI] at h;subst h;simp
 | a::xs,l,vs,h,hv,s=>by
  cases vs with
  | nil=>have:=hv.1;simp at this
  | cons v vs=>
   unfold gI at h;split at h
   .rename_i e;cases e
   .rename_i n r e;cases e;split at h
    .rename_i l' hl;cases h;have h0:=hv.2 0 _ v rfl rfl;cases h0;have hr:j8 E D O w xs vs:=⟨by have:=hv.1;simpa using this,λj c x h1 h2=>hv.2 (j+1) c x (su h1) (su h2)⟩
     have ih:=xD (msg:=msg) hl hr (s.push (UInt8.ofNat n.toNat));simp only[List.forIn_cons,pure_bind];rw[ih];simp[ByteArray.push]
    .cases h
   .cases h
theorem j8.set{cs:List AV}{vs:List Value}(h:j8 E D O w cs vs){c:AV}{x:Value}(hc:VR E D O w c x)(i:Nat):j8 E D O w (cs.set i c) (vs.set i x):=by
 refine⟨by simp[h.1],λj c' x' h1 h2=>?_⟩;rw[aA7] at h1 h2;by_cases hij:i=j
 .subst hij;simp only[if_true] at h1 h2;split at h1
  .split at h2
   .cases h1;cases h2;exact hc
   .cases h2
  .cases h1
 .rw[Yz hij] at h1 h2;exact h.2 j c' x' h1 h2
theorem j8.sets{off:Nat}:∀{as:List AV} {xs:List Value} (_:j8 E D O w as xs) (k:Nat) {cs:List AV} {vs:List Value} (_:j8 E D O w cs vs),
  j8 E D O w ((as.zipIdx k).foldl (λcs p=>cs.set (off+p.2) p.1) cs) ((xs.zipIdx k).foldl (λcs p=>cs.set (off+p.2) p.1) vs)
 | [],xs,ha,k,cs,vs,h=>by
  have:xs=[]:=by have:=ha.1;simp at this;exact ZB this.symm
  subst this;exact h
 | a::as,xs,ha,k,cs,vs,h=>by
  cases xs with
  | nil=>have:=ha.1;simp at this
  | cons x xs=>
   simp only[aB7,ZY];exact j8.sets ⟨by have:=ha.1;simpa using this,λj c x h1 h2=>ha.2 (j+1) c x (su h1) (su h2)⟩ (k+1) (h.set (ha.2 0 a x rfl rfl) _)
theorem jZ(off:Nat):∀(l:List (Value × Nat)) (A:Array Value),
  (l.foldl (λcs p=>cs.setIfInBounds (off+p.2) p.1) A).toList=l.foldl (λcs p=>cs.set (off+p.2) p.1) A.toList
 | [],A=>rfl
 | p::l,A=>by simp only[ZY];rw[jZ off l];simp
theorem VR.cells_of{a:AV}{x:Value}(h:VR E D O w a x)(hj:lF a=true):Jm E D O w a.cells x.cells.toList:=by
 cases h
 case agg cs arr hl ho hr=>exact⟨⟨by simpa[AV.cells,Value.cells] using hl,λj c x h1 h2=>hr j c x h1 (by simpa[Value.cells] using h2)⟩,by simpa[Value.cells] using ho⟩
 case junk=>simp[lF] at hj
 case tup=>simp[lF] at hj
 all_goals exact⟨j8.cons (by constructor<;>assumption) .nil,by simp[Value.cells,Value.oneCell']⟩
theorem Jm.get{cs:List AV}{vs:List Value}(h:Jm E D O w cs vs){j:Nat}{c:AV}(hj:cs[j]? = some c):∃v,vs[j]? = some v/\v.oneCell'=true/\VR E D O w c v:=by
 have hlt:j<vs.length:=by
  rw[<-h.1.1];rcases ZG j cs.length with h'|h'
  .exact h'
  .rw[ZH h'] at hj;cases hj
 exact⟨vs[j],by simp[hlt],h.2 _ sq,h.1.2 j c _ hj (by simp[hlt])⟩
theorem IZ{off:Nat}:∀(l:List (Value × Nat)) (L:List Value),(∀p∈l,p.1.oneCell'=true)->(∀x∈L,x.oneCell'=true) ->
  ∀x∈l.foldl (λcs p=>cs.set (off+p.2) p.1) L,x.oneCell'=true
 | [],L,h1,h2=>h2
 | p::l,L,h1,h2=>by
  simp only[ZY];refine IZ l _ (λq hq=>h1 q (ZE _ hq)) (λx hx=>?_);rcases aBr hx with h|rfl
  .exact h2 x h
  .exact h1 p (ZQ ..)
theorem uR{place:Nat->Option (Nat × Nat)}:∀{parts:List (Nat × AV)} {ps:List (Nat × Value)} {cells cs:List AV} {A:Array Value},
  zU place cells parts=some cs->parts.length=ps.length ->
  (∀(j:Nat) (p:Nat × AV) (q:Nat × Value),parts[j]? = some p->ps[j]? = some q->p.1=q.1/\VR E D O w p.2 q.2) ->
  Jm E D O w cells A.toList->∃B:Array Value,Instr.fill place A ps=some B/\Jm E D O w cs B.toList
 | [],ps,cells,cs,A,h,hl,hp,hA=>by
  have:ps=[]:=by simp at hl;exact ZB hl.symm
  subst this;simp only[zU] at h;cases h;exact⟨A,rfl,hA⟩
 | (i,v)::r,ps,cells,cs,A,h,hl,hp,hA=>by
  cases ps with
  | nil=>simp at hl
  | cons q ps=>
   obtain⟨i',x⟩:=q;obtain⟨e,hv⟩:=hp 0 _ _ rfl rfl;simp only at e hv;subst e;simp only[zU] at h;split at h
   .cases h
   .rename_i off size hpl;split at h
    .rename_i hb;simp only[Y1] at hb;have h1:=Nat.eq_of_beq_eq_true hb.2.1;have h2:=Y5 hb.2.2;have hc:=hv.cells_of hb.1;have e1:x.cells.size=size:=by rw[<-h1,hc.1.1];simp
     have e2:off+x.cells.size<=A.size:=by have:=hA.1.1;have:=hc.1.1;simp at this |-;simp at *;omega
     have ih:=uR (A:=Array.foldl (λcs p=>cs.setIfInBounds (off+p.2) p.1) A x.cells.zipIdx) h (su hl)
      (λj p q h1 h2=>hp (j+1) p q (su h1) (su h2)) (by
       rw[<-Array.foldl_toList,jZ,Array.toList_zipIdx];exact⟨hc.1.sets 0 hA.1,IZ _ _ (λp hp=>hc.2 _ (List.fst_mem_of_mem_zipIdx hp)) hA.2⟩)
     obtain⟨B,hB,hr⟩:=ih;refine⟨B, ?_,hr⟩;rw[Instr.fill];simp only[hpl];rw[Yz (by simp[e1];omega)];exact hB
    .cases h
theorem xM:∀{fs:List Field} {l:List (Nat × Nat)},wI P fs=some l->fs.mapM (λf=>(P.info? f.type).map λi=>(f.offset,i.size))=some l
 | [],l,h=>by simp only[wI] at h;cases h;rfl
 | f::r,l,h=>by
  simp only[wI] at h;split at h
  .rename_i n hn;split at h
   .rename_i l' hl;cases h;unfold gP at hn;split at hn
    .rename_i i hi;cases hn;simp[hi,xM hl]
    .cases hn
   .cases h
  .cases h
theorem AW{t:TypeId}{parts:List (Nat × AV)}{ps:List (Nat × Value)}{v:AV}(h:Cc P t parts=some v)(hl:parts.length=ps.length)
  (hp:∀(j:Nat) (p:Nat × AV) (q:Nat × Value),parts[j]? = some p->ps[j]? = some q->p.1=q.1/\VR E D O w p.2 q.2) :
  ∃z,(Instr.build t ps.toArray).run P w = .ok z w/\VR E D O w v z:=by
 unfold Cc at h;split at h
 .rename_i it hit;split at h
  .rename_i z hz;split at h
   .rename_i zs hzs;obtain⟨vs,rfl,hvs⟩:=(lJ (E:=E) (D:=D) (O:=O) (w:=w) hzs).agg_inv;split at h
    .rename_i m e hu;split at h
     .rename_i n hn;split at h
      .rename_i cs hcs;cases h;obtain⟨B,hB,hr⟩:=uR (A:=vs.toArray) hcs hl hp (su hvs);have hb:P.built t ps.toArray.toList=some B:=by
        unfold gP at hn;split at hn
        .rename_i ie hie;cases hn;simp[Program.built,hit,hu,hz,hie,Value.cells,hB]
        .cases hn
       exact⟨.agg B,run_build w t _ B hb,by have:=hr.agg;simpa using this⟩
      .cases h
     .cases h
    .rename_i fs hu;split at h
     .rename_i places hpl;split at h
      .rename_i cs hcs;cases h;obtain⟨B,hB,hr⟩:=uR (A:=vs.toArray) hcs hl hp (su hvs);have hb:P.built t ps.toArray.toList=some B:=by
        simp[Program.built,hit,hu,hz,xM hpl,Value.cells,hB]
       exact⟨.agg B,run_build w t _ B hb,by have:=hr.agg;simpa using this⟩
      .cases h
     .cases h
    .cases h
   .cases h
  .cases h
 .cases h
end
end Go.Ax
namespace Go.Ax
open Go
def fK(d:Nat):Option AV->Option Nat
 | none=>some d
 | some (.int _ n)=>match decide (0<=n) with
  | true=>some n.toNat
  | false=>none
 | some _=>none
def DI(P:Program)(mem:aQ)(t:TypeId)(x:AV)(lo hi mx:Option AV):Option AV:=
 match P.underlying t with
 | some .string=>match x,mx with
  | .str s,none=>match fK 0 lo with
   | some l=>match fK s.length hi with
    | some h=>match Nat.ble l h && Nat.ble h s.length with
     | true=>some (.str ((s.drop l).take (h-l)))
     | false=>none
    | none=>none
   | none=>none
  | _,_=>none
 | some (.slice e)=>match gP P e with
  | none=>none
  | some sz=>match x with
   | .nsl=>match fK 0 lo,fK 0 hi,fK 0 mx with
    | some 0,some 0,some 0=>some .nsl
    | _,_,_=>none
   | .il sz' xs=>match Nat.beq sz sz' with
    | true=>match fK 0 lo,fK xs.length hi,fK xs.length mx with
     | some l,some h,some m=>match Nat.ble l h && (Nat.ble h m && Nat.ble m xs.length) with
      | true=>some (.il sz' ((xs.drop l).take (h-l)))
      | false=>none
     | _,_,_=>none
    | false=>none
   | .sl id off len=>match lk mem id with
    | some (.row _ sz0 _)=>match Nat.beq sz0 sz with
     | true=>match fK 0 lo,fK len hi,fK len mx with
      | some l,some h,some m=>match Nat.ble l h && (Nat.ble h m && Nat.ble m len) with
       | true=>some (.sl id (off+l) (h-l))
       | false=>none
      | _,_,_=>none
     | false=>none
    | _=>none
   | _=>none
 | some (.array n e)=>match gP P e with
  | none=>none
  | some sz=>match x with
   | .ptr id i 0=>match lk mem id with
    | some (.row _ _ xs)=>match xS mem id i 0 sz && Nat.ble (i+n) xs.length with
     | true=>match fK 0 lo,fK n hi,fK n mx with
      | some l,some h,some m=>match Nat.ble l h && (Nat.ble h m && Nat.ble m n) with
       | true=>some (.sl id (i+l) (h-l))
       | false=>none
      | _,_,_=>none
     | false=>none
    | _=>none
   | _=>none
 | _=>none
def RX(P:Program)(mem:aQ)(t:TypeId)(x:AV):Option AV:=
 match P.underlying t with
 | some .string=>match x with
  | .str s=>some (.int .i64 (s.length:Int))
  | _=>none
 | some (.array n _)=>some (.int .i64 (n:Int))
 | some (.slice _)=>match x with
  | .nsl=>some (.int .i64 0)
  | .il _ xs=>some (.int .i64 (xs.length:Int))
  | .sl _ _ len=>some (.int .i64 (len:Int))
  | _=>none
 | some (.map _ _)=>match x with
  | .nmap=>some (.int .i64 0)
  | _=>none
 | _=>none
def Mz:Int->List AV->Option Int
 | x,[]=>some x
 | x,.int _ y::r=>Mz (if y<x then y else x) r
 | _,_=>none
def Na:Int->List AV->Option Int
 | x,[]=>some x
 | x,.int _ y::r=>Na (if y>x then y else x) r
 | _,_=>none
section
variable {P:Program} {C:List (Nat × AV)} {X:Nat->Prop} {E:Nat->dP} {D:Nat->Prop} {O:Nat->Prop} {mem:aQ} {w:World}
theorem M5{xs:List AV}{b off:Nat}{f:AV->Value->Prop}
  (hs:∀(i:Nat) (x:AV),xs[i]? = some x->x.cells.length=1)
  (hc:∀(i:Nat) (x:AV),xs[i]? = some x->∃v,w.cell? ⟨b,off+i,none⟩=some v/\f x v) :
  ∃vs:List Value,vs.length=xs.length/\(∀(j:Nat) (v:Value),vs[j]? = some v->w.cell? (Addr.add ⟨b,off,none⟩ j)=some v) /\
   ∀(j:Nat) (c:AV) (x:Value),xs[j]? = some c->vs[j]? = some x->f c x:=by
 refine⟨(List.range xs.length).map λi=>(w.cell? ⟨b,off+i,none⟩).getD undef,sq,λj v hj=>?_,λj c x h1 h2=>?_⟩
 .have hlt:j<xs.length:=by
   rcases ZG j xs.length with h|h
   .exact h
   .simp[h] at hj
  obtain⟨v',hv',_⟩:=hc j _ (Yw hlt);simp[hlt,hv'] at hj;subst hj;simp[Addr.add_lit,hv']
 .have hlt:j<xs.length:=by
   rcases ZG j xs.length with h|h
   .exact h
   .simp[h] at h2
  obtain⟨v',hv',hr⟩:=hc j c h1;simp[hlt,hv'] at h2;subst h2;exact hr
theorem qF:∀{xs:List AV} {l:List UInt8},gI xs=some l->∀(i:Nat) (x:AV),xs[i]? = some x->x.cells=[x]
 | [],l,h,i,x,hi=>by simp at hi
 | a::xs,l,h,i,x,hi=>by
  unfold gI at h;split at h
  .rename_i e;cases e
  .rename_i n r e;cases e;split at h
   .rename_i l' hl;cases i with
    | zero=>simp at hi;subst hi;rfl
    | succ i=>exact qF hl i x (su hi)
   .cases h
  .cases h
theorem qO{xs:List AV}{l:List UInt8}(h:gI xs=some l){b off cap:Nat}
  (hc:∀(i:Nat) (x:AV),xs[i]? = some x->∃v,w.cell? ⟨b,off+i,none⟩=some v/\VR E D O w x v) :
  (Conv.bytesToString (.slice (some ⟨b,off,none⟩) xs.length cap)).run P w = .ok (.string ⟨l.toArray⟩) w:=by
 obtain⟨vs,hl,hv,hr⟩:=M5 (w:=w) (b:=b) (off:=off) (f:=VR E D O w) (λi x hi=>by rw[qF h i x hi];rfl) hc;have hload:=run_loadCells_list (P:=P) w ⟨b,off,none⟩ vs hv;have hfor:=λmsg:String=>xD (msg:=msg) (P:=P) (w:=w) (E:=E) (D:=D) (O:=O) h ⟨hl.symm,hr⟩ ByteArray.empty
 simp only[Conv.bytesToString];rw[<-hl,Sem.run_bind,hload];simp only[Result.andThen_ok];rw[Sem.run_bind,List.forIn_toArray];refine(congrArg (λr:Result ByteArray=>r.andThen λa w'=>Sem.run P (pure (Value.string a)) w') (hfor _)).trans ?_;simp[ByteArray.empty,ByteArray.emptyWithCapacity];rfl
theorem Kv{p:Program}{iR:TypeId->Bool}{e count count' off n:Nat}(hc:count<=count'):∀d:Nat,rowAt p iR d e count off n=true->rowAt p iR d e count' off n=true
 | 0,h=>by simp[rowAt] at h
 | d+1,h=>by
  unfold rowAt at h |-
  dsimp only at h |-
  by_cases hs:p.cellsOf e=0
  .simp[hs] at h
  .rw[Yz hs] at h |-;simp only[Z0,Y1,ZR] at h |-;rcases h with⟨⟨h1,h2⟩,h3⟩|⟨h1,h2⟩
   .exact .inl ⟨⟨h1,om⟩,h3⟩
   .exact .inr ⟨om,h2⟩
theorem Bj{p:Program}{e count count' off:Nat}(hc:count<=count'):∀(d u n:Nat),liesAt p d e count off u n=true->liesAt p d e count' off u n=true
 | 0,u,n,h=>by simp[liesAt] at h
 | d+1,u,n,h=>by
  unfold liesAt at h |-;simp only[Z0] at h |-;rcases h with h|h
  .exact .inl (Kv hc _ h)
  .right;split at h
   .exact Bj hc d _ _ h
   .cases h
theorem Ef(hm:MR C X E D mem w){id:Nat}{t:TypeId}{sz:Nat}{xs:List AV}(hid:lk mem id=some (.row t sz xs)){i:Nat}(hi:i<xs.length) :
  (E id).sz=sz/\w.shape? (E id).b=some (t,(E id).n)/\xs.length*sz<=(E id).n:=by
 have hin:=bL hid;rcases ZC (E id).n with h0|h0
 .obtain⟨t',sz',e1,_⟩:=hm.emp _ hin h0;cases e1;simp at hi
 .obtain⟨o,ho,hsz,arr,fr,rfl,hf,hs,hle,_⟩:=hm.blk _ hin h0;simp only at ho hsz hs hle;exact⟨hsz,by simp[World.shape?,ho,hs],by rw[<-hsz];exact hle⟩
theorem K1(hm:MR C X E D mem w){src dst:TypeId}{d:TypeDesc}{a v:AV}{x:Value}(hd:P.underlying src=some d)(hu:P.underlying dst=some .unsafePointer)(h:SF P mem d a=some v)(hx:VR E D (OX X E mem) w a x) :
  ∃z,(convert src dst x).run P w = .ok z w/\VR E D (OX X E mem) w v z:=by
 unfold SF at h;split at h<;>first|(cases h;done)|skip
 rename_i t;split at h<;>first|(cases h;done)|skip
 rename_i id i j;split at h<;>first|(cases h;done)|skip
 rename_i t' sz xs hid;split at h<;>first|(cases h;done)|skip
 rename_i inf hi;split at h<;>first|(cases h;done)|skip
 rename_i hc;cases h;simp only[Y1] at hc;obtain⟨c1,c2,c3⟩:=hc;have c1:0<inf.size:=Y5 c1;have c2:i<xs.length:=Y5 c2;have c3:j<sz:=Y5 c3;obtain⟨hsz,hsh,hle⟩:=Ef hm hid c2;have hx0:=hx;cases hx;refine⟨_, ?_,hx0⟩;have hlt:i*(E id).sz+j<(E id).n:=by
  rw[hsz];have h1:(i+1)*sz<=xs.length*sz:=ZF _ c2;rw[Nat.add_mul] at h1;omega
 have hne:¬inf.size=0:=om;have hge:¬(E id).n<=i*(E id).sz+j:=om;simp[convert,run_underlying hd,run_underlying hu,Conv.unsafePointer,Conv.seenAt,viewAt,cellsIn,hsh,sizeOf,typeInfo,hi,hne,hge]
theorem Gq(hm:MR C X E D mem w){src dst u:TypeId}{d:TypeDesc}{a v:AV}{x:Value}(hd:P.underlying src=some d)(hu:P.underlying dst=some (.pointer u))(h:Gb P mem d u a=some v)(hx:VR E D (OX X E mem) w a x) :
  ∃z,(convert src dst x).run P w = .ok z w/\VR E D (OX X E mem) w v z:=by
 unfold Gb at h;split at h<;>first|(cases h;done)|skip
 split at h<;>first|(cases h;done)|skip
 rename_i id i j;split at h<;>first|(cases h;done)|skip
 rename_i t' sz xs hid;split at h<;>first|(cases h;done)|skip
 rename_i inf hi;split at h<;>first|(cases h;done)|skip
 rename_i hc;cases h;simp only[Y1] at hc;obtain⟨c1,c2,c3,c4⟩:=hc;have c2:i<xs.length:=Y5 c2;have c3:j<sz:=Y5 c3;have c4:=Nat.eq_of_beq_eq_true c4;obtain⟨hsz,hsh,hle⟩:=Ef hm hid c2;have hx0:=hx;cases hx;refine⟨_, ?_,hx0⟩;have hl:liesAt P P.depth t' ((E id).n/P.cellsOf t') (i*(E id).sz+j) u 1=true:=by
  rw[hsz];refine Bj ?_ _ _ _ c1;rw[<-c4];exact(Nat.le_div_iff_mul_le om).2 hle
 simp[convert,run_underlying hd,run_underlying hu,Conv.unsafePointer,Conv.seenAt,viewAt,variablesAt,hsh,sizeOf,typeInfo,hi,hl]
theorem Bo(hm:MR C X E D mem w){src dst:TypeId}{a v:AV}{x:Value}(h:D6 P mem src dst a=some v)(hx:VR E D (OX X E mem) w a x) :
  ∃z,(convert src dst x).run P w = .ok z w/\VR E D (OX X E mem) w v z:=by
 unfold D6 at h;split at h
 .cases h
 .rename_i d hd;split at h
  .rename_i k hk;split at h
   .cases h;cases hx;exact⟨_,by simp[convert,run_underlying hd,run_underlying hk,Conv.intToInt],.int _ _⟩
   .cases h
  .rename_i hk;split at h
   .cases h;cases hx;exact⟨_,by simp[convert,run_underlying hd,run_underlying hk],.str _⟩
   .split at h
    .rename_i e;split at h
     .rename_i he;split at h
      .cases h;cases hx;refine⟨_, ?_,.str []⟩;simp[convert,run_underlying hd,run_underlying hk,run_underlying he,Conv.bytesToString];rfl
      .rename_i sz xs _;split at h
       .rename_i hsz;have hsz:=Nat.eq_of_beq_eq_true hsz;subst hsz;split at h
        .rename_i l hl;cases h;cases hx with
         | il _ _ b off cap f h0 h1 h2 h3=>
          refine⟨_, ?_,.str l⟩;have:=qO (P:=P) (w:=w) (E:=E) (D:=D) (O:=OX X E mem) hl (b:=b) (off:=off) (cap:=cap) (λi x hi=>by
           have hc:x.cells=[x]:=qF hl i x hi;have h4:=h2 i x 0 x hi (by rw[hc];rfl);exact⟨f i 0,by simpa using h4.2.1,h3 i x 0 x hi (by rw[hc];rfl)⟩)
          simp[convert,run_underlying hd,run_underlying hk,run_underlying he,this]
         | iln=>
          simp[gI] at hl;subst hl;refine⟨_, ?_,.str []⟩;simp[convert,run_underlying hd,run_underlying hk,run_underlying he,Conv.bytesToString];rfl
        .cases h
       .cases h
      .rename_i id off len _;split at h
       .rename_i t' sz0 xs hid;split at h
        .rename_i hle;have hle:=Y5 hle;split at h
         .rename_i l hl;cases h;have hlen:((xs.drop off).take len).length=len:=by simp;omega
          cases hx with
          | sl _ _ _ cap hid' h1 h2=>
           refine⟨_, ?_,.str l⟩;have:=qO (P:=P) (w:=w) (E:=E) (D:=D) (O:=OX X E mem) hl (b:=(E id).b) (off:=off*(E id).sz) (cap:=cap) (λi x hi=>by
            have hc:x.cells=[x]:=qF hl i x hi;have hi':xs[off+i]? = some x:=by
             rw[Za] at hi;split at hi
             .rw[ZS] at hi;exact hi
             .cases hi
            obtain⟨hz,hcell⟩:=gL hm hid hi';obtain⟨v,hv,_,hr⟩:=hcell 0 x (by rw[hc];rfl);have hsz:(E id).sz=1:=by rw[<-hz,hc];rfl
            refine⟨v, ?_,hr⟩;rw[hsz] at hv |-;simpa using hv)
           rw[hlen] at this;simp[convert,run_underlying hd,run_underlying hk,run_underlying he,this]
          | slz _ _ a' ao' hid'=>
           simp[gI] at hl;subst hl;refine⟨_, ?_,.str []⟩;simp[convert,run_underlying hd,run_underlying hk,run_underlying he,Conv.bytesToString,loadCells,loadCellsFrom];rfl
          | slzn _ _ hid'=>
           simp[gI] at hl;subst hl;refine⟨_, ?_,.str []⟩;simp[convert,run_underlying hd,run_underlying hk,run_underlying he,Conv.bytesToString];rfl
         .cases h
        .cases h
       .cases h
      .cases h
     .cases h
    .cases h
  .rename_i hk;exact K1 hm hd hk h hx
  .rename_i u hk;exact Gq hm hd hk h hx
  .cases h
theorem vR{a v:AV}{i:Nat}{x:Value}(h:tX a i=some v)(hx:VR E D O w a x):∃z,(Instr.extract x i).run P w = .ok z w/\VR E D O w v z:=by
 unfold tX at h;split at h
 .obtain⟨vs,rfl,hl,hr⟩:=hx.tup_inv;rename_i cs;have hlt:i<vs.length:=by
   rcases ZG i vs.length with h'|h'
   .exact h'
   .rw[ZH om] at h;cases h
  exact⟨vs[i],by simp[Instr.extract,hlt],hr i v _ h (by simp[hlt])⟩
 .cases h
theorem zN{t:TypeId}{a v:AV}{x:Value}(h:HE P t a=some v)(hx:VR E D O w a x):∃z,(Instr.makeInterface t x).run P w = .ok z w/\VR E D O w v z:=by
 unfold HE at h;split at h
 .rename_i hc;cases h;exact⟨.iface t x,run_makeInterface w t x hc,.ifc t a x hx⟩
 .cases h
inductive L6 (E:Nat->dP) (D:Nat->Prop) (O:Nat->Prop) (w:World):Option AV->Option Value->Prop
 | none:L6 E D O w none none
 | some (a:AV) (x:Value):VR E D O w a x->L6 E D O w (some a) (some x)
theorem sZ{a:Option AV}{x:Option Value}{d l:Nat}(h:fK d a=some l)(hx:L6 E D O w a x)(y:Nat)(hy:l<=y)(c:BoundsCode) :
  (x=none/\l=d)\/∃v,x=some v/\(Instr.sliceBound v y c).run P w = .ok l w:=by
 cases hx with
 | none=>simp only[fK] at h;cases h;exact .inl ⟨rfl,rfl⟩
 | some a x hr=>
  right;refine⟨x,rfl, ?_⟩;unfold fK at h;split at h
  .rename_i e;cases e
  .rename_i k n e;cases e;cases hr;split at h
   .rename_i hn;have hn:=Zh hn;cases h;have h2:n<=(y:Int):=om;simp[Instr.sliceBound,asIntOf,hn,h2]
   .cases h
  .cases h
theorem yH{isS:Bool}{len cap l h m:Nat}{lo hi mx:Option AV}{x y z:Option Value}(h1:fK 0 lo=some l)(h2:fK len hi=some h)
  (r1:L6 E D O w lo x) (r2:L6 E D O w hi y) (r3:L6 E D O w mx z) (hl:l<=h) (hh:h<=m) (hm:(z=none/\m=cap)\/(z.isSome=true/\y.isSome=true/\fK cap mx=some m/\m<=cap)) :
  (Instr.sliceBounds isS len cap x y z).run P w = .ok (l,h,m) w:=by
 have b1:=λc=>sZ (P:=P) (w:=w) h1 r1 h hl c
 have b2:=λc=>sZ (P:=P) (w:=w) h2 r2 m hh c
 rcases hm with⟨rfl,rfl⟩|⟨hz,hy,h3,hmc⟩
 .rcases b1 .sliceB with⟨rfl,rfl⟩|⟨v,rfl,_⟩
  .rcases b2 .sliceB with⟨rfl,rfl⟩|⟨u,rfl,_⟩
   .simp[Instr.sliceBounds]
   .have e:=λc=>(b2 c).resolve_left sq
    simp only[Option.some.injEq,exists_eq_left'] at e;simp[Instr.sliceBounds,e]
  .have e1:=λc=>(b1 c).resolve_left sq
   simp only[Option.some.injEq,exists_eq_left'] at e1;rcases b2 .sliceB with⟨rfl,rfl⟩|⟨u,rfl,_⟩
   .simp[Instr.sliceBounds,e1]
   .have e:=λc=>(b2 c).resolve_left sq
    simp only[Option.some.injEq,exists_eq_left'] at e;simp[Instr.sliceBounds,e,e1]
 .have b3:=λc=>sZ (P:=P) (w:=w) h3 r3 cap hmc c
  obtain⟨zv,rfl⟩:=aBu.1 hz;obtain⟨yv,rfl⟩:=aBu.1 hy;have e3:=λc=>(b3 c).resolve_left sq
  have e2:=λc=>(b2 c).resolve_left sq
  simp only[Option.some.injEq,exists_eq_left'] at e2 e3;rcases b1 .sliceB with⟨rfl,rfl⟩|⟨v,rfl,_⟩
  .simp[Instr.sliceBounds,e3,e2]
  .have e1:=λc=>(b1 c).resolve_left sq
   simp only[Option.some.injEq,exists_eq_left'] at e1;simp[Instr.sliceBounds,e3,e2,e1]
theorem x5(hm:MR C X E D mem w){id:Nat}{t:TypeId}{sz:Nat}{xs:List AV}(hid:lk mem id=some (.row t sz xs)):(E id).sz=sz:=by
 rcases ZC (E id).n with h|h
 .obtain⟨t',sz',e,h2⟩:=hm.emp _ (bL hid) h;cases e;exact h2
 .obtain⟨o,ho,h2,_⟩:=hm.blk _ (bL hid) h;exact h2
theorem LQ{a:Option AV}{x:Option Value}(h:L6 E D O w a x):x.isSome=a.isSome:=by cases h<;>rfl
theorem gE{isS:Bool}{len cap l h m:Nat}{lo hi mx:Option AV}{x y z:Option Value}(h1:fK 0 lo=some l)(h2:fK len hi=some h)
  (h3:fK len mx=some m) (hlc:len<=cap)
  (r1:L6 E D O w lo x) (r2:L6 E D O w hi y) (r3:L6 E D O w mx z) (hl:l<=h) (hh:h<=m) (hm:m<=len) (hmx:mx.isSome=true->hi.isSome=true) :
  ∃m',h<=m'/\m'<=cap/\(Instr.sliceBounds isS len cap x y z).run P w = .ok (l,h,m') w:=by
 cases mx with
 | none=>
  cases r3;exact⟨cap,om,Y8 _,yH h1 h2 r1 r2 .none hl om (.inl ⟨rfl,rfl⟩)⟩
 | some a=>
  have hz:=LQ r3;have hy:=LQ r2;refine⟨m,hh,om,yH h1 h2 r1 r2 r3 hl hh (.inr ⟨hz,by rw[hy];exact hmx rfl, ?_,om⟩)⟩;cases a<;>simp only[fK] at h3 |- <;> exact h3
theorem AK(hm:MR C X E D mem w){t:TypeId}{a v:AV}{x:Value}{lo hi mx:Option AV}{x1 x2 x3:Option Value}(h:DI P mem t a lo hi mx=some v)
  (hx:VR E D (OX X E mem) w a x) (r1:L6 E D (OX X E mem) w lo x1) (r2:L6 E D (OX X E mem) w hi x2) (r3:L6 E D (OX X E mem) w mx x3) (hmx:mx.isSome=true->hi.isSome=true) :
  ∃z,(Instr.sliceAt t x x1 x2 x3).run P w = .ok z w/\VR E D (OX X E mem) w v z:=by
 unfold DI at h;split at h
 .rename_i hu;split at h
  .rename_i s;cases r3;split at h
   .rename_i l hl;split at h
    .rename_i hh hhi;split at h
     .rename_i hb;rw[Y1] at hb;have b1:=Y5 hb.1;have b2:=Y5 hb.2;cases h;cases hx;have hb:=yH (P:=P) (isS:=false) (len:=s.length) (cap:=s.length) (m:=s.length) hl hhi r1 r2 .none b1 b2 (.inl ⟨rfl,rfl⟩);refine⟨_, ?_,.str _⟩;have hsz:(⟨s.toArray⟩:ByteArray).size=s.length:=by simp[ByteArray.size]
      simp only[Instr.sliceAt,Sem.run_bind,run_underlying hu,Result.andThen_ok,Instr.slice,hsz,Option.isSome_none,aAl,if_false,hb,ByteArray.extract_mk];rfl
     .cases h
    .cases h
   .cases h
  .cases h
 .rename_i e hu;split at h
  .cases h
  .rename_i sz hsz;have hrun:=hZ (w:=w) hsz;split at h
   .split at h
    .rename_i h1 h2 h3;cases h;cases hx;obtain⟨m',_,hm',hb⟩:=gE (P:=P) (isS:=true) (cap:=0) h1 h2 h3 (Y8 _) r1 r2 r3 (Y8 _) (Y8 _) (Y8 _) hmx;have:m'=0:=om;subst this;refine⟨_, ?_,.nsl⟩;simp only[Instr.sliceAt,Sem.run_bind,run_underlying hu,Result.andThen_ok,Instr.slice,hb,hrun];rfl
    .cases h
   .rename_i sz' xs;split at h
    .rename_i hsz';have hsz':=Nat.eq_of_beq_eq_true hsz';subst hsz';split at h
     .rename_i l hh m h1 h2 h3;split at h
      .rename_i hb;simp only[Y1] at hb;have b1:=Y5 hb.1;have b2:=Y5 hb.2.1;have b3:=Y5 hb.2.2;cases h;cases hx with
       | il _ _ b off cap f g0 g1 g2 g3=>
        obtain⟨m',hm1,hm2,hb⟩:=gE (P:=P) (isS:=true) (cap:=cap) h1 h2 h3 g0 r1 r2 r3 b1 b2 b3 hmx;have hlen:((xs.drop l).take (hh-l)).length=hh-l:=by simp;omega
        by_cases hml:m'=l
        .have e0:hh-l=0:=om;have e1:(xs.drop l).take (hh-l)=[]:=by rw[e0];simp
         refine⟨.slice (some ⟨b,off,none⟩) (hh-l) (m'-l), ?_, ?_⟩
         .simp only[Instr.sliceAt,Sem.run_bind,run_underlying hu,Result.andThen_ok,Instr.slice,hb,hrun,hml,if_true];rfl
         .rw[e1,e0];exact .il sz [] b off _ (λ_ _=>undef) sq sq sq sq
        .refine⟨.slice (some ⟨b,off+l*sz,none⟩) (hh-l) (m'-l), ?_, ?_⟩
         .simp only[Instr.sliceAt,Sem.run_bind,run_underlying hu,Result.andThen_ok,Instr.slice,hb,hrun,hml,if_false,aAq,Addr.add_lit];rfl
         .have key:∀(i:Nat) (x:AV),((xs.drop l).take (hh-l))[i]? = some x->xs[l+i]? = some x:=by
           intro i x hi;rw[Za] at hi;split at hi
           .rw[ZS] at hi;exact hi
           .cases hi
          generalize (xs.drop l).take (hh-l)=Y at *;rw[<-hlen];refine .il sz _ b (off+l*sz) _ (λi j=>f (l+i) j) om (λi x hi=>g1 _ x (key i x hi)) (λi x j c hi hj=>?_) (λi x j c hi hj=>g3 _ x j c (key i x hi) hj);have:=g2 _ x j c (key i x hi) hj;refine⟨this.1, ?_,this.2.2⟩;rw[<-this.2.1,Nat.add_mul];congr 2;omega
       | iln=>
        simp at b3;subst b3;obtain rfl:hh=0:=om;obtain rfl:l=0:=om;obtain⟨m',_,hm',hb⟩:=gE (P:=P) (isS:=true) (cap:=0) h1 h2 h3 sq r1 r2 r3 (Y8 _) (Y8 _) sq hmx;have:m'=0:=om;subst this;refine⟨.slice none 0 0, ?_,by simpa using VR.iln sz⟩;simp only[aAr] at hb;simp only[Instr.sliceAt,Sem.run_bind,run_underlying hu,Result.andThen_ok,Instr.slice,hb,hrun];rfl
      .cases h
     .cases h
    .cases h
   .rename_i id off len;split at h
    .rename_i t' sz0 xs hid;split at h
     .rename_i hsz';have hsz':=Nat.eq_of_beq_eq_true hsz';have hz:(E id).sz=sz:=by rw[x5 hm hid];exact hsz'
      split at h
      .rename_i l hh m h1 h2 h3;split at h
       .rename_i hb;simp only[Y1] at hb;have b1:=Y5 hb.1;have b2:=Y5 hb.2.1;have b3:=Y5 hb.2.2;cases h;cases hx with
        | sl _ _ _ cap hid' g1 g2=>
         obtain⟨m',hm1,hm2,hb⟩:=gE (P:=P) (isS:=true) (cap:=cap) h1 h2 h3 g1 r1 r2 r3 b1 b2 b3 hmx;by_cases hml:m'=l
         .have e0:hh-l=0:=om;have e2:m'-l=0:=om;refine⟨.slice (some ⟨(E id).b,off*(E id).sz,none⟩) (hh-l) (m'-l), ?_, ?_⟩
          .simp only[Instr.sliceAt,Sem.run_bind,run_underlying hu,Result.andThen_ok,Instr.slice,hb,hrun,hml,if_true];rfl
          .rw[e0,e2];exact .slz id _ _ _ hid'
         .refine⟨.slice (some ⟨(E id).b,off*(E id).sz+l*sz,none⟩) (hh-l) (m'-l), ?_, ?_⟩
          .simp only[Instr.sliceAt,Sem.run_bind,run_underlying hu,Result.andThen_ok,Instr.slice,hb,hrun,hml,if_false,aAq,Addr.add_lit];rfl
          .have e:off*(E id).sz+l*sz=(off+l)*(E id).sz:=by rw[hz,Nat.add_mul]
           rw[e];refine .sl id (off+l) (hh-l) (m'-l) hid' om (Zj (ZF _ ?_) g2);omega
        | slz _ _ ad ao hid'=>
         have:m=0:=om;subst this;obtain rfl:hh=0:=om;obtain rfl:l=0:=om;obtain⟨m',_,hm',hb⟩:=gE (P:=P) (isS:=true) (cap:=0) h1 h2 h3 (Y8 _) r1 r2 r3 (Y8 _) (Y8 _) sq hmx;have:m'=0:=om;subst this;refine⟨.slice (some ⟨ad,ao,none⟩) 0 0, ?_,.slz id _ ad ao hid'⟩;simp only[Instr.sliceAt,Sem.run_bind,run_underlying hu,Result.andThen_ok,Instr.slice,hb,hrun,if_true];rfl
        | slzn _ _ hid'=>
         have:m=0:=om;subst this;obtain rfl:hh=0:=om;obtain rfl:l=0:=om;obtain⟨m',_,hm',hb⟩:=gE (P:=P) (isS:=true) (cap:=0) h1 h2 h3 (Y8 _) r1 r2 r3 (Y8 _) (Y8 _) sq hmx;have:m'=0:=om;subst this;refine⟨.slice none 0 0, ?_,.slzn id _ hid'⟩;simp only[Instr.sliceAt,Sem.run_bind,run_underlying hu,Result.andThen_ok,Instr.slice,hb,hrun,if_true];rfl
       .cases h
      .cases h
     .cases h
    .cases h
   .cases h
 .rename_i n e hu;split at h
  .cases h
  .rename_i sz hsz;have hrun:=hZ (w:=w) hsz;split at h
   .rename_i id i;split at h
    .rename_i t' sz0 xs hid;split at h
     .rename_i hel;rw[Y1] at hel;have hin:=Y5 hel.2;have hz:=(Bu hm hel.1).2;split at h
      .rename_i l hh m h1 h2 h3;split at h
       .rename_i hb;simp only[Y1] at hb;have b1:=Y5 hb.1;have b2:=Y5 hb.2.1;have b3:=Y5 hb.2.2;cases h;cases hx with
        | ptr _ _ _ hid'=>
         obtain⟨m',hm1,hm2,hb⟩:=gE (P:=P) (isS:=false) (cap:=n) h1 h2 h3 (Y8 _) r1 r2 r3 b1 b2 b3 hmx;have hn0:0<(E id).n:=by
          rcases ZC (E id).n with h'|h'
          .obtain⟨t',sz1,e,_⟩:=hm.emp _ (bL hid) h';cases e;simp[xS,hid] at hel
          .exact h'
         obtain⟨o,ho,_,arr,fr,rfl,_,q1,q2,_⟩:=hm.blk _ (bL hid) hn0;by_cases hml:m'=l
         .have e0:hh-l=0:=om;have e2:m'-l=0:=om;refine⟨.slice (some ⟨(E id).b,i*(E id).sz+0,none⟩) (hh-l) (m'-l), ?_, ?_⟩
          .simp only[Instr.sliceAt,Sem.run_bind,run_underlying hu,Result.andThen_ok,Instr.sureAddr,Sem.run_pure,hb,hrun,hml,if_true]
          .rw[e0,e2];exact .slz id _ _ _ hid'
         .refine⟨.slice (some ⟨(E id).b,i*(E id).sz+0+l*sz,none⟩) (hh-l) (m'-l), ?_, ?_⟩
          .simp only[Instr.sliceAt,Sem.run_bind,run_underlying hu,Result.andThen_ok,Instr.sureAddr,Sem.run_pure,hb,hrun,hml,if_false,Addr.add_lit]
          .have e:i*(E id).sz+0+l*sz=(i+l)*(E id).sz:=by rw[hz,Nat.add_mul];omega
           rw[e];refine .sl id (i+l) (hh-l) (m'-l) hid' om (Zj (ZF _ ?_) q2);omega
       .cases h
      .cases h
     .cases h
    .cases h
   .cases h
 .cases h
theorem Dn{t:TypeId}{a v:AV}{x:Value}(h:RX P mem t a=some v)(hx:VR E D O w a x)(ty:TypeId) :
    ∃z,(Builtin.len_ #[t] ty #[x]).run P w = .ok z w/\VR E D O w v z:=by
  unfold RX at h;split at h
  · rename_i hu
    split at h
    · cases h;cases hx
      refine⟨_, ?_,.int _ _⟩;simp[Builtin.len_,run_underlying hu,goInt,ByteArray.size_mk']
    · cases h
  · rename_i hu
    cases h;refine⟨_, ?_,.int _ _⟩;simp[Builtin.len_,run_underlying hu,goInt]
  · rename_i hu
    split at h<;>first|(cases h;done)|skip
    all_goals
      cases h;cases hx <;>
        (refine⟨_, ?_,.int _ _⟩
         simp[Builtin.len_,run_underlying hu,goInt])
  · rename_i hu
    split at h
    · cases h;cases hx
      refine⟨_, ?_,.int _ _⟩;simp[Builtin.len_,run_underlying hu,goInt]
    · cases h
  · cases h
theorem yR(k:IntKind):∀{cs:List AV} {vs:List Value} {x r:Int},Mz x cs=some r->j8 E D O w cs vs->(List.foldlM Builtin.min2 (.int k x) vs).run P w = .ok (.int k r) w
 | [],vs,x,r,h,hv=>by
  have:vs=[]:=by have:=hv.1;simp at this;exact ZB this.symm
  subst this;simp only[Mz] at h;cases h;simp
 | c::cs,vs,x,r,h,hv=>by
  cases vs with
  | nil=>have:=hv.1;simp at this
  | cons v vs=>
   unfold Mz at h;split at h
   .rename_i e;cases e
   .rename_i k' y r' e;cases e;have h0:=hv.2 0 _ v rfl rfl;cases h0;have hr:j8 E D O w cs vs:=⟨by have:=hv.1;simpa using this,λj c x h1 h2=>hv.2 (j+1) c x (su h1) (su h2)⟩
    simp[Builtin.min2,yR k h hr]
   .cases h
theorem yP(k:IntKind):∀{cs:List AV} {vs:List Value} {x r:Int},Na x cs=some r->j8 E D O w cs vs->(List.foldlM Builtin.max2 (.int k x) vs).run P w = .ok (.int k r) w
 | [],vs,x,r,h,hv=>by
  have:vs=[]:=by have:=hv.1;simp at this;exact ZB this.symm
  subst this;simp only[Na] at h;cases h;simp
 | c::cs,vs,x,r,h,hv=>by
  cases vs with
  | nil=>have:=hv.1;simp at this
  | cons v vs=>
   unfold Na at h;split at h
   .rename_i e;cases e
   .rename_i k' y r' e;cases e;have h0:=hv.2 0 _ v rfl rfl;cases h0;have hr:j8 E D O w cs vs:=⟨by have:=hv.1;simpa using this,λj c x h1 h2=>hv.2 (j+1) c x (su h1) (su h2)⟩
    simp[Builtin.max2,yP k h hr]
   .cases h
end
end Go.Ax
namespace Go.Ax
open Go
def fS(E:Nat->dP)(n:Nat)(l:dP):Nat->dP:=λi=>if i=n then l else E i
theorem bZ(E:Nat->dP)(n:Nat)(l:dP):fS E n l n=l:=by simp[fS]
theorem CD(E:Nat->dP)(n:Nat)(l:dP){i:Nat}(h:i≠n):fS E n l i=E i:=by simp[fS,h]
def A6(E:Nat->dP)(D:Nat->Prop)(O:Nat->Prop)(w:World)(sz:Nat)(arr:Array Value)(xs:List AV):Prop:=
 xs.length*sz<=arr.size/\∀(i:Nat) (x:AV),xs[i]? = some x->x.cells.length=sz /\
  ∀(j:Nat) (c:AV),x.cells[j]? = some c->∃v,arr[i*sz+j]? = some v/\v.oneCell'=true/\VR E D O w c v
section
variable {P:Program} {C:List (Nat × AV)} {X:Nat->Prop} {E:Nat->dP} {D:Nat->Prop} {O:Nat->Prop} {mem:aQ} {w w':World}
theorem oH(hm:MR C X E D mem w){b:Nat}(h:OX X E mem b):b<w.heap.size:=by
 rcases h with h|⟨p,hp,hn,rfl⟩
 .exact(hm.bar b h).1
 .obtain⟨o,ho,_⟩:=hm.blk p hp hn;rcases ZG (E p.1).b w.heap.size with h|h
  .exact h
  .rw[aBB h] at ho;cases ho
theorem MR.alloc{n:Nat}{D':Nat->Prop}(hn0:¬D n)(hD:∀i,D i->D' i)(hDn:D' n)(hm:MR C X E D mem w){t:TypeId}{xs:List AV}{arr:Array Value}{sz:Nat}{fr:Nat × Nat}(hw:w'.heap=w.heap.push (.cells arr t fr))(hos:FI w w')
  (hfr:∀j,j<arr.size->¬(fr.1<=j/\j<fr.2)) (hr:A6 E D (OX X E mem) w sz arr xs) (hsz:arr.size=0->xs=[]) :
  MR C X (fS E n ⟨w.heap.size,arr.size,sz⟩) D' ((n,.row t sz xs)::mem) w' /\
  (∀v x,VR E D (OX X E mem) w v x->VR (fS E n ⟨w.heap.size,arr.size,sz⟩) D' (OX X (fS E n ⟨w.heap.size,arr.size,sz⟩) ((n,.row t sz xs)::mem)) w' v x) /\
  (∀A:Nat->Prop,(∀i,A i->D i)->Ext A E mem w (fS E n ⟨w.heap.size,arr.size,sz⟩) D' ((n,.row t sz xs)::mem) w'):=by
 have hne:∀p∈mem,p.1≠n:=λp hp e=>hn0 (e ▸ hm.low p hp)
 have hρ:∀id,D id->fS E n ⟨w.heap.size,arr.size,sz⟩ id=E id:=λid h=>CD _ _ _ (λe=>hn0 (e ▸ h))
 have hρm:∀p∈mem,fS E n ⟨w.heap.size,arr.size,sz⟩ p.1=E p.1:=λp hp=>hρ _ (hm.low p hp)
 have hheap:∀b,b<w.heap.size->w'.heap[b]? = w.heap[b]? := λb hb=>by rw[hw,aAU];simp[Nat.ne_of_lt hb]
 have hnew:w'.heap[w.heap.size]? = some (.cells arr t fr):=by rw[hw];simp
 have hsize:w'.heap.size=w.heap.size+1:=by rw[hw];simp
 have hk:∀b,b<w.heap.size->¬OX X E mem b->¬OX X (fS E n ⟨w.heap.size,arr.size,sz⟩) ((n,.row t sz xs)::mem) b/\w'.heap[b]? = w.heap[b]? := by
  intro b hb ho;refine⟨?_,hheap b hb⟩;rintro(h|⟨p,hp,hn,e⟩)
  .exact ho (.inl h)
  .rcases Y6.1 hp with rfl|hp
   .rw[bZ] at e;simp at e;omega
   .rw[hρm p hp] at e hn;exact ho (.inr ⟨p,hp,hn,e⟩)
 have hmono:∀v x,VR E D (OX X E mem) w v x->VR (fS E n ⟨w.heap.size,arr.size,sz⟩) D' (OX X (fS E n ⟨w.heap.size,arr.size,sz⟩) ((n,.row t sz xs)::mem)) w' v x:=
  λv x h=>h.mono hρ hD hk
 refine⟨⟨?_, ?_, ?_, ?_, ?_, ?_, ?_⟩,hmono,λB hB=>⟨λi hi=>hD i (hB i hi),λid h=>hρ id (hB id h),om,λb hb _=>hheap b hb, ?_,hos⟩⟩
 .intro p hp;rcases Y6.1 hp with rfl|hp
  .exact hDn
  .exact hD _ (hm.low p hp)
 .intro p hp hn;rcases Y6.1 hp with rfl|hp
  .rw[bZ];exact⟨_,hnew,rfl,arr,fr,rfl,hfr,rfl,hr.1,λi x hi=>⟨(hr.2 i x hi).1,λj c hj=>by
    obtain⟨v,hv,h1,h⟩:=(hr.2 i x hi).2 j c hj;exact⟨v,hv,h1,hmono _ _ h⟩⟩⟩
  .rw[hρm p hp] at hn |-;obtain⟨o,ho,hb⟩:=hm.blk p hp hn;have hlt:=oH hm (.inr ⟨p,hp,hn,rfl⟩);exact⟨o,by rw[hheap _ hlt];exact ho,hb.mono hρ hD hk⟩
 .intro p hp hn;rcases Y6.1 hp with rfl|hp
  .rw[bZ] at hn |-;exact⟨t,sz,by rw[hsz hn],rfl⟩
  .rw[hρm p hp] at hn |-;exact hm.emp p hp hn
 .intro p hp q hq hpn hqn e;rcases Y6.1 hp with rfl|hp<;>rcases Y6.1 hq with rfl|hq
  .rfl
  .rw[hρm q hq] at e hqn;rw[bZ] at e;have:=oH hm (.inr ⟨q,hq,hqn,rfl⟩);simp at e;omega
  .rw[hρm p hp] at e hpn;rw[bZ] at e;have:=oH hm (.inr ⟨p,hp,hpn,rfl⟩);simp at e;omega
  .rw[hρm p hp] at e hpn;rw[hρm q hq] at e hqn;exact hm.inj p hp q hq hpn hqn e
 .simp only[Z2,Zv];refine⟨λh=>?_,hm.nod⟩;obtain⟨p,hp,e⟩:=ZL.1 h;exact hne p hp e
 .intro b hb;obtain⟨h1,h2⟩:=hm.bar b hb;refine⟨om, ?_⟩;rintro⟨p,hp,hn,e⟩;rcases Y6.1 hp with rfl|hp
  .rw[bZ] at e;simp at e;omega
  .rw[hρm p hp] at e hn;exact h2 ⟨p,hp,hn,e⟩
 .exact λp hp=>hmono _ _ (hm.glo p hp)
 .intro p hp hn;rcases Y6.1 hp with rfl|hp
  .rw[bZ];exact .inr (Y8 _)
  .rw[hρm p hp] at hn |-;exact .inl ⟨p,hp,hn,rfl⟩
theorem Gf:∀{m:aQ} {id:Nat} {a b:AB},lk m id=some a->(up m id b).map (·.1)=m.map (·.1)
 | (k,u)::r,id,a,b,h=>by
  simp only[lk] at h;simp only[up];split at h
  .rfl
  .simp[Gf h]
theorem nG:∀{m:aQ} {id:Nat} {a b:AB} (_:lk m id=some a) (_:(m.map (·.1)).Nodup) {p:Nat × AB},p∈up m id b->p=(id,b)\/(p∈m/\p.1≠id)
 | (k,u)::r,id,a,b,h,hn,p,hp=>by
  simp only[lk] at h;simp only[up] at hp;simp only[Z2,Zv] at hn;cases hk:Nat.beq k id with
  | true=>
   rw[hk] at hp;have hk:=Nat.eq_of_beq_eq_true hk;subst hk;rcases Y6.1 hp with rfl|hp
   .exact .inl rfl
   .refine .inr ⟨ZE _ hp,λe=>hn.1 (ZL.2 ⟨p,hp,e⟩)⟩
  | false=>
   rw[hk] at hp h;rcases Y6.1 hp with rfl|hp
   .exact .inr ⟨ZQ ..,Z6 hk⟩
   .rcases nG h hn.2 hp with h1|⟨h1,h2⟩
    .exact .inl h1
    .exact .inr ⟨ZE _ h1,h2⟩
theorem MR.change(hm:MR C X E D mem w){id:Nat}{t:TypeId}{sz:Nat}{xs xs':List AV}(hid:lk mem id=some (.row t sz xs))(hn:0<(E id).n){arr:Array Value}{fr:Nat × Nat}
  (hw:w'.heap=w.heap.setIfInBounds (E id).b (.cells arr t fr)) (hos:FI w w') (hfr:∀j,j<arr.size->¬(fr.1<=j/\j<fr.2)) (hsize:arr.size=(E id).n)
  (hr:A6 E D (OX X E mem) w sz arr xs') :
  MR C X E D (up mem id (.row t sz xs')) w' /\
  (∀v x,VR E D (OX X E mem) w v x->VR E D (OX X E (up mem id (.row t sz xs'))) w' v x) /\
  (∀A:Nat->Prop,(∀i,A i->D i)->Ext A E mem w E D (up mem id (.row t sz xs')) w'):=by
 have hidm:=bL hid;have hszr:(E id).sz=sz:=x5 hm hid;have hlt:=oH hm (.inr ⟨_,hidm,hn,rfl⟩);have hheap:∀b,b≠(E id).b->w'.heap[b]? = w.heap[b]? := λb hb=>by rw[hw,aAh (Ne.symm hb)]
 have hnew:w'.heap[(E id).b]? = some (.cells arr t fr):=by rw[hw];simp[hlt]
 have hsz:w'.heap.size=w.heap.size:=by rw[hw];simp
 have hown:∀b,own E (up mem id (.row t sz xs')) b->own E mem b:=by
  rintro b ⟨p,hp,hpn,e⟩;rcases nG hid hm.nod hp with rfl|⟨h1,_⟩
  .exact⟨_,hidm,hpn,e⟩
  .exact⟨p,h1,hpn,e⟩
 have hOX:∀b,OX X E (up mem id (.row t sz xs')) b->OX X E mem b:=λb h=>h.imp (λx=>x) (hown b)
 have hk:∀b,b<w.heap.size->¬OX X E mem b->¬OX X E (up mem id (.row t sz xs')) b/\w'.heap[b]? = w.heap[b]? := by
  intro b hb ho;refine⟨λh=>ho (hOX b h),hheap b ?_⟩;rintro rfl;exact ho (.inr ⟨_,hidm,hn,rfl⟩)
 have hmono:∀v x,VR E D (OX X E mem) w v x->VR E D (OX X E (up mem id (.row t sz xs'))) w' v x:=λv x h=>h.mono (λ_ _=>rfl) (λ_ h=>h) hk
 refine⟨⟨?_, ?_, ?_, ?_, ?_, ?_, ?_⟩,hmono,λB hB=>⟨hB,λ_ _=>rfl,om,λb hb ho=>hheap b ?_, ?_,hos⟩⟩
 .intro p hp;rcases nG hid hm.nod hp with rfl|⟨h1,_⟩
  .exact(hm.low _ hidm :)
  .exact hm.low p h1
 .intro p hp hpn;rcases nG hid hm.nod hp with rfl|⟨h1,hne⟩
  .refine⟨_,hnew,hszr,arr,fr,rfl,hfr,hsize,by rw[<-hsize,hszr];exact hr.1,λi x hi=>⟨by rw[hszr];exact(hr.2 i x hi).1,λj c hj=>by
    rw[hszr];obtain⟨v,hv,h1,h⟩:=(hr.2 i x hi).2 j c hj;exact⟨v,hv,h1,hmono _ _ h⟩⟩⟩
  .obtain⟨o,ho,hb⟩:=hm.blk p h1 hpn;refine⟨o, ?_,hb.mono (λ_ _=>rfl) (λ_ h=>h) hk⟩;rw[hheap _ (λe=>hne (hm.inj p h1 _ hidm hpn hn e))];exact ho
 .intro p hp hpn;rcases nG hid hm.nod hp with rfl|⟨h1,hne⟩
  .exact absurd hpn (Nat.ne_of_gt hn)
  .exact hm.emp p h1 hpn
 .intro p hp q hq hpn hqn e;have a:∀p∈up mem id (.row t sz xs'),∃p'∈mem,p'.1=p.1:=by
   intro p hp;rcases nG hid hm.nod hp with rfl|⟨h1,_⟩
   .exact⟨_,hidm,rfl⟩
   .exact⟨p,h1,rfl⟩
  obtain⟨p',hp',e1⟩:=a p hp;obtain⟨q',hq',e2⟩:=a q hq;rw[<-e1,<-e2] at e |-;rw[<-e1] at hpn;rw[<-e2] at hqn;exact hm.inj p' hp' q' hq' hpn hqn e
 .rw[Gf hid];exact hm.nod
 .intro b hb;obtain⟨h1,h2⟩:=hm.bar b hb;exact⟨om,λh=>h2 (hown b h)⟩
 .exact λp hp=>hmono _ _ (hm.glo p hp)
 .rintro rfl;exact ho ⟨_,hidm,hn,rfl⟩
 .intro p hp hpn;refine .inl ?_;rcases nG hid hm.nod hp with rfl|⟨h1,_⟩
  .exact⟨_,hidm,hpn,rfl⟩
  .exact⟨p,h1,hpn,rfl⟩
def drop(id:Nat):aQ->aQ
 | []=>[]
 | (k,u)::r=>match Nat.beq k id with
  | true=>r
  | false=>(k,u)::drop id r
theorem dT:∀{m:aQ} {id:Nat} {p:Nat × AB},p∈drop id m->p∈m
 | (k,u)::r,id,p,hp=>by
  simp only[drop] at hp;split at hp
  .exact ZE _ hp
  .rcases Y6.1 hp with rfl|hp
   .exact ZQ ..
   .exact ZE _ (dT hp)
theorem sD:∀{m:aQ} {id:Nat} (_:(m.map (·.1)).Nodup) {p:Nat × AB},p∈drop id m->p.1≠id
 | (k,u)::r,id,hn,p,hp=>by
  simp only[Z2,Zv] at hn;simp only[drop] at hp;split at hp
  .rename_i hk;have hk:=Nat.eq_of_beq_eq_true hk;subst hk;exact λe=>hn.1 (ZL.2 ⟨p,hp,e⟩)
  .rename_i hk;rcases Y6.1 hp with rfl|hp
   .exact Z6 hk
   .exact sD hn.2 hp
theorem kS:∀{m:aQ} {id:Nat} (_:(m.map (·.1)).Nodup),((drop id m).map (·.1)).Nodup
 | [],id,hn=>by simp[drop]
 | (k,u)::r,id,hn=>by
  simp only[Z2,Zv] at hn;simp only[drop];split
  .exact hn.2
  .simp only[Z2,Zv];refine⟨λh=>hn.1 ?_,kS hn.2⟩;obtain⟨p,hp,e⟩:=ZL.1 h;exact ZL.2 ⟨p,dT hp,e⟩
theorem MR.widen{D':Nat->Prop}(hm:MR C X E D mem w)(hD:∀i,D i->D' i) :
  MR C X E D' mem w/\(∀v x,VR E D (OX X E mem) w v x->VR E D' (OX X E mem) w v x)/\(∀A:Nat->Prop,(∀i,A i->D i)->Ext A E mem w E D' mem w):=by
 have hk:∀b,b<w.heap.size->¬OX X E mem b->¬OX X E mem b/\w.heap[b]? = w.heap[b]? := λb _ ho=>⟨ho,rfl⟩
 have hmono:∀v x,VR E D (OX X E mem) w v x->VR E D' (OX X E mem) w v x:=λv x h=>h.mono (λ_ _=>rfl) hD hk
 refine⟨⟨λp hp=>hD _ (hm.low p hp),λp hp hn=>?_,hm.emp,hm.inj,hm.nod,hm.bar,λp hp=>hmono _ _ (hm.glo p hp)⟩,hmono,λB hB=>Ext.refl λi hi=>hD i (hB i hi)⟩;obtain⟨o,ho,hb⟩:=hm.blk p hp hn;exact⟨o,ho,hb.mono (λ_ _=>rfl) hD hk⟩
theorem MR.less(hm:MR C X E D mem w){mem':aQ}(hsub:∀p∈mem',p∈mem)(hnod:(mem'.map (·.1)).Nodup) :
  MR C X E D mem' w/\(∀v x,VR E D (OX X E mem) w v x->VR E D (OX X E mem') w v x)/\(∀A:Nat->Prop,(∀i,A i->D i)->Ext A E mem w E D mem' w):=by
 have hown:∀b,own E mem' b->own E mem b:=λb ⟨p,hp,hn,e⟩=>⟨p,hsub p hp,hn,e⟩
 have hk:∀b,b<w.heap.size->¬OX X E mem b->¬OX X E mem' b/\w.heap[b]? = w.heap[b]? := λb _ ho=>⟨λh=>ho (h.imp (λx=>x) (hown b)),rfl⟩
 have hmono:∀v x,VR E D (OX X E mem) w v x->VR E D (OX X E mem') w v x:=λv x h=>h.mono (λ_ _=>rfl) (λ_ h=>h) hk
 refine⟨⟨λp hp=>hm.low p (hsub p hp),λp hp hn=>?_,λp hp hn=>hm.emp p (hsub p hp) hn,λp hp q hq=>hm.inj p (hsub p hp) q (hsub q hq),hnod,
  λb hb=>⟨(hm.bar b hb).1,λh=>(hm.bar b hb).2 (hown b h)⟩,λp hp=>hmono _ _ (hm.glo p hp)⟩,hmono,
  λB hB=>⟨hB,λ_ _=>rfl,Y8 _,λ_ _ _=>rfl,λp hp hn=>.inl ⟨p,hsub p hp,hn,rfl⟩,.refl _⟩⟩
 obtain⟨o,ho,hb⟩:=hm.blk p (hsub p hp) hn;exact⟨o,ho,hb.mono (λ_ _=>rfl) (λ_ h=>h) hk⟩
end
end Go.Ax
namespace Go.Ax
open Go
def Ds(sz:Nat)(sh:Option Nat):Nat->List AV->Option (List AV)
 | 0,_=>some []
 | m+1,cs=>match sub sh cs 0 with
  | some x=>match Ds sz sh m (cs.drop sz) with
   | some l=>some (x::l)
   | none=>none
  | none=>none
def DM(P:Program)(t:TypeId)(v:AV):Option (Nat × List AV):=
 match P.underlying t with
 | some (.array m e)=>match v with
  | .agg cs=>match gP P e,EO P e with
   | some sz,some sh=>match Nat.beq (sh.getD 1) sz && (Nat.blt 0 sz && Nat.beq cs.length (m*sz)) with
    | true=>match Ds sz sh m cs with
     | some xs=>some (sz,xs)
     | none=>none
    | false=>none
   | _,_=>none
  | _=>none
 | some _=>match lF v with
  | true=>match v.cells with
   | []=>some (0,[])
   | _::_=>some (v.cells.length,[v])
  | false=>none
 | none=>none
section
variable {P:Program} {C:List (Nat × AV)} {X:Nat->Prop} {E:Nat->dP} {D:Nat->Prop} {O:Nat->Prop} {mem:aQ} {w w':World}
theorem Bk{sz:Nat}{sh:Option Nat}(hsh:sh.getD 1=sz):∀{m:Nat} {cs:List AV} {xs:List AV},Ds sz sh m cs=some xs ->
  xs.length=m/\∀(i:Nat) (x:AV),xs[i]? = some x->x.cells.length=sz/\∀(j:Nat) (c:AV),x.cells[j]? = some c->cs[i*sz+j]? = some c
 | 0,cs,xs,h=>by simp only[Ds] at h;cases h;simp
 | m+1,cs,xs,h=>by
  simp only[Ds] at h;split at h
  .rename_i x hx;split at h
   .rename_i l hl;cases h;obtain⟨h1,h2⟩:=Bk hsh hl;refine⟨by simp[h1],λi y hi=>?_⟩;cases i with
    | zero=>
     simp at hi;subst hi;refine⟨by rw[Lw hx];exact hsh,λj c hj=>?_⟩;have:=BQ hx j c hj;simpa using this
    | succ i=>
     simp at hi;obtain⟨h3,h4⟩:=h2 i y hi;refine⟨h3,λj c hj=>?_⟩;have:=h4 j c hj;rw[ZS] at this;rw[Nat.add_mul,aAa];rw[<-this];congr 1;omega
   .cases h
  .cases h
theorem vG{t:TypeId}{v:AV}{x:Value}{sz:Nat}{xs:List AV}(h:DM P t v=some (sz,xs))(hx:VR E D O w v x) :
  A6 E D O w sz x.cells xs/\(x.cells.size=0->xs=[]):=by
 unfold DM at h;split at h
 .rename_i m e hu;split at h
  .rename_i cs;split at h
   .rename_i sz' sh hsz hsh;split at h
    .rename_i hb;simp only[Y1] at hb;have b1:=Nat.eq_of_beq_eq_true hb.1;have b2:=Y5 hb.2.1;have b3:=Nat.eq_of_beq_eq_true hb.2.2;split at h
     .rename_i xs' hxs;cases h;obtain⟨vs,rfl,hvs⟩:=hx.agg_inv;obtain⟨h1,h2⟩:=Bk b1 hxs;have hs:vs.length=m*sz:=by rw[<-hvs.1.1];exact b3
      refine⟨⟨by simp[Value.cells,h1,hs],λi y hi=>⟨(h2 i y hi).1,λj c hj=>?_⟩⟩,λh0=>?_⟩
      .obtain⟨v,hv,ho,hr⟩:=hvs.get ((h2 i y hi).2 j c hj);exact⟨v,by simpa[Value.cells] using hv,ho,hr⟩
      .simp[Value.cells] at h0;subst h0;simp at hs;have:m=0:=by
        rcases ZC m with h'|h'
        .exact h'
        .have:=aAM h' b2;omega
       subst this;exact ZB h1
     .cases h
    .cases h
   .cases h
  .cases h
 .split at h
  .rename_i hj;have hc:=hx.cells_of hj;split at h
   .cases h;exact⟨⟨sq,sq⟩,λ_=>rfl⟩
   .rename_i c0 cr hcs;cases h;have hsz:x.cells.size=v.cells.length:=by have:=hc.1.1;simp at this;omega
    refine⟨⟨by simp[hsz],λi y hi=>?_⟩,λh0=>?_⟩
    .cases i with
     | zero=>
      simp at hi;subst hi;refine⟨rfl,λj c hjc=>?_⟩;obtain⟨u,hu,ho,hr⟩:=hc.get hjc;exact⟨u,su hu,ho,hr⟩
     | succ i=>simp at hi
    .rw[hsz,hcs] at h0;simp at h0
  .cases h
 .cases h
def uG(P:Program)(mem:aQ)(nx:Nat)(t:TypeId):Option (AV × aQ × Nat):=
 match P.info? t with
 | some i=>match i.zero with
  | some z=>match xQ z with
   | some v=>match DM P t v with
    | some (sz,xs)=>some (.ptr nx 0 0,(nx,.row t sz xs)::mem,nx+1)
    | none=>none
   | none=>none
  | none=>none
 | none=>none
def IC(P:Program)(mem:aQ)(nx:Nat)(t:TypeId)(v:AV):Option (AV × aQ × Nat):=
 match DM P t v with
 | some (sz,xs)=>some (.ptr nx 0 0,(nx,.row t sz xs)::mem,nx+1)
 | none=>none
structure q5(P:Program)(C:List (Nat × AV))(X:Nat->Prop)(E:Nat->dP)(D:Nat->Prop)(mem:aQ)(w:World)(r:Result Value)(v:AV)(mem':aQ)(D':Nat->Prop):Prop where
 ex:∃(x:Value) (w':World) (E':Nat->dP),r = .ok x w'/\MR C X E' D' mem' w'/\VR E' D' (OX X E' mem') w' v x /\
  (∀u y,VR E D (OX X E mem) w u y->VR E' D' (OX X E' mem') w' u y)/\∀A:Nat->Prop,(∀i,A i->D i)->Ext A E mem w E' D' mem' w'
theorem Xl{n:Nat}:∀j,j<n->¬((0,0).1<=j/\j<((0,0):Nat × Nat).2):=λj _ h=>by simp at h
theorem q5.alloc{n:Nat}{D':Nat->Prop}(hn0:¬D n)(hD:∀i,D i->D' i)(hDn:D' n)(hm:MR C X E D mem w){t:TypeId}{xs:List AV}{arr:Array Value}{sz:Nat}{r:Result Value}{v:AV}(f:Nat->Value)
  (hr:r = .ok (f w.heap.size) w') (hw:w'.heap=w.heap.push (.cells arr t (0,0))) (hos:FI w w')
  (hrow:A6 E D (OX X E mem) w sz arr xs) (hsz:arr.size=0->xs=[])
  (hv:∀(E':Nat->dP) (O':Nat->Prop),E' n=⟨w.heap.size,arr.size,sz⟩->VR E' D' O' w' v (f w.heap.size)) :
  q5 P C X E D mem w r v ((n,.row t sz xs)::mem) D':=by
 obtain⟨h1,h2,h3⟩:=hm.alloc hn0 hD hDn hw hos Xl hrow hsz;exact⟨_,w',_,hr,h1,hv _ _ (bZ _ _ _),h2,h3⟩
theorem Jr{n:Nat}{D':Nat->Prop}(hn0:¬D n)(hD:∀i,D i->D' i)(hDn:D' n)(hm:MR C X E D mem w){t:TypeId}{a v:AV}{x:Value}{mem':aQ}{N':Nat}(h:IC P mem n t a=some (v,mem',N'))(hx:VR E D (OX X E mem) w a x) :
  q5 P C X E D mem w ((Instr.box t x).run P w) v mem' D':=by
 unfold IC at h;split at h
 .rename_i sz xs hrow;cases h;obtain⟨h1,h2⟩:=vG hrow hx;refine q5.alloc hn0 hD hDn hm (λb=>.pointer (some ⟨b,0,none⟩)) (w':=w.alloc (.cells x.cells t)) (by simp[Instr.box,newVar,newRow]) rfl .go h1 h2 (λE' O' e=>?_);have:=VR.ptr (E:=E') (D:=D') (O:=O') (w:=w.alloc (.cells x.cells t)) n 0 0 hDn;rw[e] at this;simpa using this
 .cases h
theorem GO{n:Nat}{D':Nat->Prop}(hn0:¬D n)(hD:∀i,D i->D' i)(hDn:D' n)(hm:MR C X E D mem w){t:TypeId}{v:AV}{mem':aQ}{N':Nat}(h:uG P mem n t=some (v,mem',N')) :
  q5 P C X E D mem w ((Instr.alloc t true (.tuple #[])).run P w) v mem' D':=by
 unfold uG at h;split at h
 .rename_i i hi;split at h
  .rename_i z hz;split at h
   .rename_i zv hzv;split at h
    .rename_i sz xs hrow;cases h;obtain⟨h1,h2⟩:=vG hrow (lJ (E:=E) (D:=D) (O:=OX X E mem) (w:=w) hzv);refine q5.alloc hn0 hD hDn hm (λb=>.pointer (some ⟨b,0,none⟩)) (w':=w.alloc (.cells z.cells t)) (by simp[Instr.alloc,zeroValue,typeInfo,hi,hz,newVar,newRow]) rfl .go h1 h2 (λE' O' e=>?_);have:=VR.ptr (E:=E') (D:=D') (O:=O') (w:=w.alloc (.cells z.cells t)) n 0 0 hDn;rw[e] at this;simpa using this
    .cases h
   .cases h
  .cases h
 .cases h
def u7(sz:Nat):List AV->List (Nat × AV)->Option (List AV)
 | xs,[]=>some xs
 | xs,(i,v)::r=>match lF v && (Nat.beq v.cells.length sz && Nat.blt i xs.length) with
  | true=>u7 sz (xs.set i v) r
  | false=>none
def nE(P:Program)(e:TypeId):Option AV:=
 match P.info? e with
 | some i=>match i.zero with
  | some z=>xQ z
  | none=>none
 | none=>none
def iP(P:Program)(mem:aQ)(nx:Nat)(t:TypeId)(len:Nat)(parts:List (Nat × AV)):Option (AV × aQ × Nat):=
 match P.underlying t with
 | some (.slice e)=>match gP P e,nE P e with
  | some sz,some z=>match lF z && (Nat.beq z.cells.length sz && (Nat.blt 0 sz && Nat.ble (len*sz) 16777216)) with
   | true=>match u7 sz (List.replicate len z) parts with
    | some xs=>some (.sl nx 0 len,(nx,.row e sz xs)::mem,nx+1)
    | none=>none
   | false=>none
  | _,_=>none
 | _=>none
theorem qU(off:Nat):∀(l:List (Value × Nat)) (L:List Value),(l.foldl (λcs p=>cs.set (off+p.2) p.1) L).length=L.length
 | [],L=>rfl
 | p::l,L=>by simp only[ZY];rw[qU off l];simp
theorem xN(off:Nat):∀(vs:List Value) (k:Nat) (L:List Value) (p:Nat),off+k+vs.length<=L.length ->
  ((vs.zipIdx k).foldl (λcs q=>cs.set (off+q.2) q.1) L)[p]? = if off+k<=p/\p<off+k+vs.length then vs[p-(off+k)]? else L[p]?
 | [],k,L,p,h=>by
  have:¬(off+k<=p/\p<off+k+([]:List Value).length):=by simp only[aAr];omega
  rw[Yz this];simp
 | v::vs,k,L,p,h=>by
  simp only[Zc] at h;simp only[aB7,ZY];rw[xN off vs (k+1) (L.set (off+k) v) p (by simp;omega)];by_cases hp:p=off+k
  .subst hp;rw[Yz om,Y4 sq];rw[aA7];rw[Y4 rfl,Y4 om];simp
  .by_cases h1:off+(k+1)<=p/\p<off+(k+1)+vs.length
   .rw[Y4 h1,Y4 (by simp;omega)];have:p-(off+k)=(p-(off+(k+1)))+1:=om;rw[this];simp
   .rw[Yz h1,Yz (by simp only[Zc];omega)];rw[aA7];rw[Yz (λe=>hp e.symm)]
theorem zE{sz:Nat}:∀{parts:List (Nat × AV)} {ps:List (Nat × Value)} {xs ys:List AV} {A:Array Value},
  u7 sz xs parts=some ys->parts.length=ps.length ->
  (∀(j:Nat) (p:Nat × AV) (q:Nat × Value),parts[j]? = some p->ps[j]? = some q->p.1=q.1/\VR E D O w p.2 q.2) ->
  A6 E D O w sz A xs->A.size=xs.length*sz->∃B:Array Value,Instr.fill (λi=>some (i*sz,sz)) A ps=some B/\A6 E D O w sz B ys/\B.size=xs.length*sz/\ys.length=xs.length
 | [],ps,xs,ys,A,h,hl,hp,hA,hs=>by
  have:ps=[]:=by simp at hl;exact ZB hl.symm
  subst this;simp only[u7] at h;cases h;exact⟨A,rfl,hA,hs,rfl⟩
 | (i,v)::r,ps,xs,ys,A,h,hl,hp,hA,hs=>by
  cases ps with
  | nil=>simp at hl
  | cons q ps=>
   obtain⟨i',x⟩:=q;obtain⟨e,hv⟩:=hp 0 _ _ rfl rfl;simp only at e hv;subst e;simp only[u7] at h;split at h
   .rename_i hb;simp only[Y1] at hb;have h1:=Nat.eq_of_beq_eq_true hb.2.1;have h2:i<xs.length:=Y5 hb.2.2;have hc:=hv.cells_of hb.1;have e1:x.cells.toList.length=sz:=by rw[<-hc.1.1];exact h1
    have e1':x.cells.size=sz:=su e1
    have hle:(i+1)*sz<=xs.length*sz:=ZF _ h2;rw[Nat.add_mul,aAa] at hle;have hget:=λp=>xN (i*sz) x.cells.toList 0 A.toList p (by simp[e1',hs];omega)
    have hA':A6 E D O w sz (Array.foldl (λcs p=>cs.setIfInBounds (i*sz+p.2) p.1) A x.cells.zipIdx) (xs.set i v):=by
     have hlen:(Array.foldl (λcs p=>cs.setIfInBounds (i*sz+p.2) p.1) A x.cells.zipIdx).toList=(x.cells.toList.zipIdx 0).foldl (λcs q=>cs.set (i*sz+q.2) q.1) A.toList:=by
      rw[<-Array.foldl_toList,jZ,Array.toList_zipIdx]
     have hsz':(Array.foldl (λcs p=>cs.setIfInBounds (i*sz+p.2) p.1) A x.cells.zipIdx).size=A.size:=by
      rw[<-Array.length_toList,hlen,qU];simp
     refine⟨by rw[hsz',aBg];exact hA.1,λk y hk=>?_⟩;have hg:∀p,(Array.foldl (λcs p=>cs.setIfInBounds (i*sz+p.2) p.1) A x.cells.zipIdx)[p]? = if i*sz+0<=p/\p<i*sz+0+x.cells.toList.length then x.cells.toList[p-(i*sz+0)]? else A.toList[p]? := by
      intro p;rw[<-hget p,<-hlen];simp
     rw[aA7] at hk;by_cases hik:i=k
     .subst hik;rw[Y4 rfl,Y4 h2] at hk;cases hk;refine⟨h1,λj c hj=>?_⟩;have hjl:j<sz:=by
       rw[<-h1];rcases ZG j v.cells.length with h'|h'
       .exact h'
       .rw[ZH h'] at hj;cases hj
      obtain⟨u,hu,ho,hr⟩:=hc.get hj;refine⟨u, ?_,ho,hr⟩;rw[hg,Y4 om];rw[show i*sz+j-(i*sz+0)=j by omega];exact hu
     .rw[Yz hik] at hk;obtain⟨h3,h4⟩:=hA.2 k y hk;refine⟨h3,λj c hj=>?_⟩;obtain⟨u,hu,ho,hr⟩:=h4 j c hj;have hjl:j<sz:=by
       rw[<-h3];rcases ZG j y.cells.length with h'|h'
       .exact h'
       .rw[ZH h'] at hj;cases hj
      refine⟨u, ?_,ho,hr⟩;rw[hg,Yz,Z4]
      .exact hu
      .rintro⟨h5,h6⟩;rcases Nat.lt_or_gt_of_ne hik with h7|h7
       .have:(i+1)*sz<=k*sz:=ZF _ h7;rw[Nat.add_mul,aAa] at this;omega
       .have:(k+1)*sz<=i*sz:=ZF _ h7;rw[Nat.add_mul,aAa] at this;omega
    have hsz2:(Array.foldl (λcs p=>cs.setIfInBounds (i*sz+p.2) p.1) A x.cells.zipIdx).size=(xs.set i v).length*sz:=by
     rw[aBg,<-hs,<-Array.length_toList,<-Array.foldl_toList,jZ,qU];simp
    obtain⟨B,hB,hr,hBs,hys⟩:=zE (A:=Array.foldl (λcs p=>cs.setIfInBounds (i*sz+p.2) p.1) A x.cells.zipIdx) h (su hl)
     (λj p q h1 h2=>hp (j+1) p q (su h1) (su h2)) hA' hsz2
    refine⟨B, ?_,hr,su hBs,su hys⟩;rw[Instr.fill];simp only[];rw[Yz (by simp[e1',hs];omega)];exact hB
   .cases h
theorem getElem!_lt {z:Array Value} {i:Nat} (h:i<z.size):z[i]! = z[i]:=by simp[h]
theorem Hb{sz:Nat}{z:AV}{zx:Value}(hz:VR E D O w z zx)(hj:lF z=true)(hl:z.cells.length=sz)(hp:0<sz)(len n:Nat)(hn:len*sz<=n) :
  A6 E D O w sz ((Array.range n).map λk=>zx.cells[k%zx.cells.size]!) (List.replicate len z):=by
 have hc:=hz.cells_of hj;have hs:zx.cells.size=sz:=by have:=hc.1.1;simp at this;omega
 refine⟨by simp;exact hn,λi x hi=>?_⟩;rw[aAm] at hi;split at hi
 .rename_i hlt;cases hi;refine⟨hl,λj c hjc=>?_⟩;have hjl:j<sz:=by
   rw[<-hl];rcases ZG j z.cells.length with h'|h'
   .exact h'
   .rw[ZH h'] at hjc;cases hjc
  obtain⟨u,hu,ho,hr⟩:=hc.get hjc;refine⟨u, ?_,ho,hr⟩;have hlt2:i*sz+j<n:=by
   have:(i+1)*sz<=len*sz:=ZF _ hlt;rw[Nat.add_mul,aAa] at this;omega
  have hmod:(i*sz+j)%sz=j:=by rw[ZX,aCb];exact Zs hjl
  have hu':zx.cells[j]? = some u:=su hu
  rw[Array.getElem?_map];simp only[Array.getElem?_range,hlt2,if_true,aAq,hs,hmod];rw[getElem!_lt om];rw[aA4 om] at hu';exact hu'
 .cases hi
theorem AR{n:Nat}{D':Nat->Prop}(hn0:¬D n)(hD:∀i,D i->D' i)(hDn:D' n)(hm:MR C X E D mem w){t:TypeId}{len:Nat}{parts:List (Nat × AV)}{ps:List (Nat × Value)}{v:AV}{mem':aQ}{N':Nat}
  (h:iP P mem n t len parts=some (v,mem',N')) (hl:parts.length=ps.length)
  (hp:∀(j:Nat) (p:Nat × AV) (q:Nat × Value),parts[j]? = some p->ps[j]? = some q->p.1=q.1/\VR E D (OX X E mem) w p.2 q.2) :
  q5 P C X E D mem w ((Instr.buildSlice t len ps.toArray).run P w) v mem' D':=by
 unfold iP at h;split at h
 .rename_i e hu;split at h
  .rename_i sz z hsz hz;split at h
   .rename_i hb;simp only[Y1] at hb;have b1:=Nat.eq_of_beq_eq_true hb.2.1;have b2:0<sz:=Y5 hb.2.2.1;have b3:=Y5 hb.2.2.2;split at h
    .rename_i xs hxs;cases h;unfold nE at hz;split at hz
     .rename_i i hi;split at hz
      .rename_i zx hzx;have hzr:=lJ (E:=E) (D:=D) (O:=OX X E mem) (w:=w) hz;have hmade:=Hb hzr hb.1 b1 b2 len (len*sz) (Y8 _);obtain⟨B,hB,hr,hBs,hys⟩:=zE hxs hl hp hmade sq;simp only[aA3] at hBs hys;have hrun:=hZ (w:=w) hsz;have hbig:¬(len*sz>16777216):=om;refine q5.alloc hn0 hD hDn hm (λb=>.slice (some ⟨b,0,none⟩) len len) (w':=w.alloc (.cells B e)) ?_ rfl .go hr (λh0=>?_) (λE' O' eq=>?_)
       .by_cases h0:len*sz=0
        .have hB':Instr.fill (λi=>some (i*sz,sz)) #[] ps=some B:=by
          rw[<-hB];congr 1;rw[h0];simp[Array.range_zero']
         simp only[Instr.buildSlice,Sem.run_bind,run_underlying hu,Result.andThen_ok,hrun];simp[h0,Array.range_zero',hB',newRow]
        .simp only[Instr.buildSlice,Sem.run_bind,run_underlying hu,Result.andThen_ok,hrun];simp[hbig,h0,zeroValue,typeInfo,hi,hzx,hB,newRow]
       .rw[hBs] at h0;have:len=0:=by
         rcases ZC len with h'|h'
         .exact h'
         .have:=aAM h' b2;omega
        exact ZB om
       .have:=VR.sl (E:=E') (D:=D') (O:=O') (w:=w.alloc (.cells B e)) n 0 len len hDn (Y8 _) (by rw[eq];simp[hBs]);rw[eq] at this;simpa using this
      .cases hz
     .cases hz
    .cases h
   .cases h
  .cases h
 .cases h
end
end Go.Ax
namespace Go.Ax
open Go
theorem lS(w:World)(g:Nat)(cur arr:Array Value)(t:TypeId)(fr:Nat × Nat)(h:w.heap[g]? = some (.cells cur t fr)) :
  (w.setRow g arr).heap=w.heap.setIfInBounds g (.cells arr t fr):=by
 apply aBY;intro i;simp only[World.setRow,aAu,aBO];by_cases hi:g=i
 .subst hi;have hlt:g<w.heap.size:=by
   rcases ZG g w.heap.size with h'|h'
   .exact h'
   .rw[aBB h'] at h;cases h
  rw[aA4 hlt] at h;simp only[Option.some.injEq] at h;simp[h,hlt]
 .simp[hi]
theorem fF(P:Program)(g o:Nat)(t:TypeId)(fr:Nat × Nat):∀(vs:List Value) (i:Nat) (cur:Array Value) (w:World),w.heap[g]? = some (.cells cur t fr) ->
  (∀j,j<cur.size->¬(fr.1<=j/\j<fr.2))->o+i+vs.length<=cur.size->(∀v∈vs,v.oneCell'=true) ->
  (storeCells ⟨g,o,none⟩ vs i).run P w = .ok () (w.setRow g (cur.toList.take (o+i)++vs++cur.toList.drop (o+i+vs.length)).toArray)
 | [],i,cur,w,hg,_,_,_=>by
  simp only[storeCells,aAi,aAr,Zm,List.take_append_drop,aBn];rw[setRow_self w g cur t fr hg];rfl
 | v::rest,i,cur,w,hg,hf,hl,h1=>by
  have hi:o+i<cur.size:=by simp at hl;omega
  have hadd:(⟨g,o,none⟩:Addr).add i=⟨g,o+i,none⟩:=by unfold Addr.add;split<;>simp_all
  have hcell:w.cell? ⟨g,o+i,none⟩=some cur[o+i]:=by simp[World.cell?,hg,hi]
  have hfro:w.frozen? ⟨g,o+i,none⟩=false:=by
   have:=hf _ hi;simp only[World.frozen?,hg];rw[aAD];by_cases h:fr.1<=o+i
   .right;simp;omega
   .left;simpa using h
  have hst:(store ((⟨g,o,none⟩:Addr).add i) v).run P w = .ok () (w.setRow g (cur.setIfInBounds (o+i) v)):=by
   rw[hadd,run_store P w _ v _ (h1 v sq),hcell];simp[hfro,setCell_eq_setRow w g (o+i) cur t fr v hg]
  have ih:=fF P g o t fr rest (i+1) (cur.setIfInBounds (o+i) v) (w.setRow g (cur.setIfInBounds (o+i) v)) (setRow_heap w g cur _ t _ hg) (su hf) (by simp at hl |-;omega) (λx hx=>h1 x (by simp[hx]));simp only[storeCells,Sem.run_bind,hst,Result.andThen_ok,ih,setRow_setRow];congr 3;have e:=list_seg_step cur.toList (o+i) v rest (by simp at hl |-;omega);simpa[Array.toList_setIfInBounds,Nat.add_assoc] using e
def uC(x:AV)(j:Nat)(cs:List AV):Option AV:=
 match x with
 | .agg xs=>some (.agg (xs.take j++cs++xs.drop (j+cs.length)))
 | _=>match cs with
  | [c]=>one c
  | _=>none
def AN(P:Program)(mem:aQ)(t:TypeId)(p v:AV):Option aQ:=
 match p with
 | .ptr id i j=>match lk mem id with
  | some (.row t' sz' xs)=>match xs[i]? with
   | some x=>match gP P t with
    | some n=>match lF v && (Nat.beq v.cells.length n && Nat.ble (j+n) x.cells.length) with
     | true=>match uC x j v.cells with
      | some x'=>some (up mem id (.row t' sz' (xs.set i x')))
      | none=>none
     | false=>none
    | none=>none
   | none=>none
  | _=>none
 | _=>none
def HL(P:Program)(mem:aQ)(t:TypeId)(p v:AV):Option aQ:=
 match p with
 | .ptr id 0 0=>match lk mem id with
  | some (.row t' sz' (_::xs))=>match P.underlying t with
   | some (.array _ _)=>match DM P t v with
    | some (sz,ys)=>match gP P t with
     | some n=>match lF v && (Nat.beq v.cells.length n && (Nat.beq sz sz' && (Nat.beq ys.length (xs.length+1) && Nat.beq n (ys.length*sz)))) with
      | true=>some (up mem id (.row t' sz' ys))
      | false=>none
     | none=>none
    | none=>none
   | _=>none
  | _=>none
 | _=>none
def w6(P:Program)(mem:aQ)(t:TypeId)(p v:AV):Option aQ:=
 match p with
 | .ptr _ _ _=>match gP P t with
  | some 0=>match lF v with
   | true=>match v.cells with
    | []=>some mem
    | _::_=>none
   | false=>none
  | _=>none
 | _=>none
def yX(P:Program)(mem:aQ)(t:TypeId)(p v:AV):Option aQ:=
 match w6 P mem t p v with
 | some m=>some m
 | none=>match AN P mem t p v with
  | some m=>some m
  | none=>HL P mem t p v
section
variable {P:Program} {C:List (Nat × AV)} {X:Nat->Prop} {E:Nat->dP} {D:Nat->Prop} {O:Nat->Prop} {mem:aQ} {w w':World}
theorem D7{x x':AV}{j:Nat}{cs:List AV}(h:uC x j cs=some x')(hl:j+cs.length<=x.cells.length) :
  x'.cells.length=x.cells.length/\∀(k:Nat) (c:AV),x'.cells[k]? = some c->(j<=k/\k<j+cs.length/\cs[k-j]? = some c)\/(¬(j<=k/\k<j+cs.length)/\x.cells[k]? = some c):=by
 unfold uC at h;split at h
 .rename_i xs;cases h;simp only[AV.cells] at hl |-;refine⟨by simp;omega,λk c hk=>?_⟩;rw[List.append_assoc,Zk] at hk;have e1:(xs.take j).length=j:=by simp;omega
  rw[e1] at hk;by_cases h1:k<j
  .rw[Y4 h1,Za,Y4 h1] at hk;exact .inr ⟨om,hk⟩
  .rw[Yz h1,Zk] at hk;by_cases h2:k-j<cs.length
   .rw[Y4 h2] at hk;exact .inl ⟨om,om,hk⟩
   .rw[Yz h2,ZS] at hk;refine .inr ⟨om, ?_⟩;rw[<-hk];congr 1;omega
 .rename_i hagg;split at h
  .rename_i c;obtain⟨rfl,hoc⟩:=C5 h;have hxc:x.cells=[x]:=by
    cases x<;>first|rfl|exact(hagg _ rfl).elim
   rw[hxc] at hl |-;simp at hl;subst hl;rw[hoc];refine⟨rfl,λk c hk=>.inl ?_⟩;cases k with
   | zero=>simp at hk;subst hk;simp
   | succ k=>simp at hk
  .cases h
theorem Ed(hm:MR C X E D mem w){t:TypeId}{p v:AV}{x y:Value}{mem':aQ}(h:AN P mem t p v=some mem')
  (hx:VR E D (OX X E mem) w p x) (hy:VR E D (OX X E mem) w v y) :
  ∃w',(Instr.storeAt t x y).run P w = .ok () w'/\MR C X E D mem' w'/\(∀u z,VR E D (OX X E mem) w u z->VR E D (OX X E mem') w' u z)/\∀A:Nat->Prop,(∀i,A i->D i)->Ext A E mem w E D mem' w':=by
 unfold AN at h;split at h
 .rename_i id i j;split at h
  .rename_i t' sz' xs hid;split at h
   .rename_i e he;split at h
    .rename_i n hn;split at h
     .rename_i hb;simp only[Y1] at hb;have b1:=Nat.eq_of_beq_eq_true hb.2.1;have b3:=Y5 hb.2.2;split at h
      .rename_i e' he';cases h;cases hx;obtain⟨s1,s2⟩:=D7 he' om;have hn0:0<(E id).n:=by
        rcases ZC (E id).n with h'|h'
        .obtain⟨t2,sz2,e2,_⟩:=hm.emp _ (bL hid) h';cases e2;simp at he
        .exact h'
       obtain⟨o,ho,q0,arr,fr,rfl,hfr,q1,q2,q3⟩:=hm.blk _ (bL hid) hn0;have hc:=hy.cells_of hb.1;simp only at ho q0 q1 q2 q3;have hsz:(E id).sz=e.cells.length:=((q3 i e he).1).symm;have hlt:i<xs.length:=by
        rcases ZG i xs.length with h'|h'
        .exact h'
        .rw[ZH h'] at he;cases he
       have hle:(i+1)*(E id).sz<=xs.length*(E id).sz:=ZF _ hlt;rw[Nat.add_mul,aAa] at hle;have hyl:y.cells.toList.length=n:=by rw[<-hc.1.1];exact b1
       have hys:y.cells.size=n:=su hyl
       have hfit:i*(E id).sz+j+0+y.cells.toList.length<=arr.size:=om;have hrun:=fF P (E id).b (i*(E id).sz+j) t' fr y.cells.toList 0 arr w ho hfr hfit hc.2;simp only[Zm] at hrun hfit;refine⟨w.setRow (E id).b (List.take (i*(E id).sz+j) arr.toList++y.cells.toList++List.drop (i*(E id).sz+j+y.cells.toList.length) arr.toList).toArray, ?_,
        hm.change hid hn0 (xs':=xs.set i e') (lS w _ arr _ t' fr ho) .go ?_ ?_ ?_⟩
       .have hsz2:=hZ (w:=w) hn;simp[Instr.storeAt,Instr.sureAddr,storeVar,hsz2,hys,hrun]
       .intro k hk;refine hfr k ?_;simp at hk;omega
       .simp;omega
       .rw[<-q0];refine⟨by simp;omega,λk z hk=>?_⟩;have harr:∀q,(List.take (i*(E id).sz+j) arr.toList++y.cells.toList++List.drop (i*(E id).sz+j+y.cells.toList.length) arr.toList).toArray[q]? =
          if i*(E id).sz+j<=q/\q<i*(E id).sz+j+n then y.cells.toList[q-(i*(E id).sz+j)]? else arr[q]? := by
         intro q;rw[aAv,List.append_assoc,Zk];have e1:(List.take (i*(E id).sz+j) arr.toList).length=i*(E id).sz+j:=by simp;omega
         rw[e1];by_cases h1:q<i*(E id).sz+j
         .rw[Y4 h1,Yz om,Za,Y4 h1,Z4]
         .rw[Yz h1,Zk,hyl];by_cases h2:q-(i*(E id).sz+j)<n
          .rw[Y4 h2,Y4 om]
          .rw[Yz h2,Yz om,ZS,Z4];congr 1;omega
        rw[aA7] at hk;by_cases hik:i=k
        .subst hik;rw[Y4 rfl,Y4 hlt] at hk;cases hk;refine⟨by rw[s1,hsz],λl c hl=>?_⟩;rcases s2 l c hl with⟨g1,g2,g3⟩|⟨g1,g2⟩
         .obtain⟨u,hu,ho1,hr⟩:=hc.get g3;refine⟨u, ?_,ho1,hr⟩;rw[harr,Y4 om];rw[show i*(E id).sz+l-(i*(E id).sz+j)=l-j by omega];exact hu
         .obtain⟨u,hu,ho1,hr⟩:=(q3 i e he).2 l c g2;refine⟨u, ?_,ho1,hr⟩;rw[harr,Yz om];exact hu
        .rw[Yz hik] at hk;refine⟨(q3 k z hk).1,λl c hl=>?_⟩;obtain⟨u,hu,ho1,hr⟩:=(q3 k z hk).2 l c hl;refine⟨u, ?_,ho1,hr⟩;have hll:l<(E id).sz:=by
          rw[<-(q3 k z hk).1];rcases ZG l z.cells.length with h'|h'
          .exact h'
          .rw[ZH h'] at hl;cases hl
         rw[harr,Yz]
         .exact hu
         .rintro⟨h5,h6⟩;rcases Nat.lt_or_gt_of_ne hik with h7|h7
          .have:(i+1)*(E id).sz<=k*(E id).sz:=ZF _ h7;rw[Nat.add_mul,aAa] at this;omega
          .have:(k+1)*(E id).sz<=i*(E id).sz:=ZF _ h7;rw[Nat.add_mul,aAa] at this;omega
      .cases h
     .cases h
    .cases h
   .cases h
  .cases h
 .cases h
theorem EU(hm:MR C X E D mem w){t:TypeId}{p v:AV}{x y:Value}{mem':aQ}(h:HL P mem t p v=some mem')
  (hx:VR E D (OX X E mem) w p x) (hy:VR E D (OX X E mem) w v y) :
  ∃w',(Instr.storeAt t x y).run P w = .ok () w'/\MR C X E D mem' w'/\(∀u z,VR E D (OX X E mem) w u z->VR E D (OX X E mem') w' u z)/\∀A:Nat->Prop,(∀i,A i->D i)->Ext A E mem w E D mem' w':=by
 unfold HL at h;split at h<;>first|(cases h;done)|skip
 rename_i id;split at h<;>first|(cases h;done)|skip
 rename_i t' sz' x0 xs hid;split at h<;>first|(cases h;done)|skip
 split at h<;>first|(cases h;done)|skip
 rename_i sz ys hrow;split at h<;>first|(cases h;done)|skip
 rename_i n hn;split at h<;>first|(cases h;done)|skip
 rename_i hb;cases h;simp only[Y1] at hb;obtain⟨hok,b1,b2,b3,b4⟩:=hb;have b1:=Nat.eq_of_beq_eq_true b1;have b2:=Nat.eq_of_beq_eq_true b2;have b3:=Nat.eq_of_beq_eq_true b3;have b4:=Nat.eq_of_beq_eq_true b4;subst b2;cases hx;have hn0:0<(E id).n:=by
  rcases ZC (E id).n with h'|h'
  .obtain⟨t2,sz2,e2,_⟩:=hm.emp _ (bL hid) h';cases e2
  .exact h'
 obtain⟨o,ho,q0,arr,fr,rfl,hfr,q1,q2,q3⟩:=hm.blk _ (bL hid) hn0;have hc:=hy.cells_of hok;simp only at ho q0 q1 q2 q3;have hyl:y.cells.toList.length=n:=by rw[<-hc.1.1];exact b1
 have hys:y.cells.size=n:=su hyl
 have hle:n<=arr.size:=by
  rw[b4,b3,q1,<-q0];simpa using q2
 obtain⟨r1,r2⟩:=vG hrow hy;have hrun:=fF P (E id).b 0 t' fr y.cells.toList 0 arr w ho hfr om hc.2;simp only[Zm,ZP,aCe,Zi] at hrun;have harr:∀q,q<n->(y.cells.toList++List.drop y.cells.toList.length arr.toList).toArray[q]? = y.cells[q]? := by
  intro q hq;rw[aAv,Zk,Y4 om,Z4]
 refine⟨w.setRow (E id).b (y.cells.toList++List.drop y.cells.toList.length arr.toList).toArray, ?_,
  hm.change hid hn0 (xs':=ys) (lS w _ arr _ t' fr ho) .go ?_ ?_ ?_⟩
 .have hsz2:=hZ (w:=w) hn;simp[Instr.storeAt,Instr.sureAddr,storeVar,hsz2,hys];simpa[hys] using hrun
 .intro k hk;refine hfr k ?_;simp at hk;omega
 .simp;omega
 .refine⟨by simp;omega,λk z hk=>⟨(r1.2 k z hk).1,λl c hl=>?_⟩⟩;obtain⟨u,hu,ho1,hr⟩:=(r1.2 k z hk).2 l c hl;refine⟨u, ?_,ho1,hr⟩;have hq:k*sz+l<n:=by
   have:=(aBX.1 hu).1;omega
  rw[harr _ hq];exact hu
theorem ES(hm:MR C X E D mem w){t:TypeId}{p v:AV}{x y:Value}{mem':aQ}(h:w6 P mem t p v=some mem')
  (hx:VR E D (OX X E mem) w p x) (hy:VR E D (OX X E mem) w v y) :
  ∃w',(Instr.storeAt t x y).run P w = .ok () w'/\MR C X E D mem' w'/\(∀u z,VR E D (OX X E mem) w u z->VR E D (OX X E mem') w' u z)/\∀A:Nat->Prop,(∀i,A i->D i)->Ext A E mem w E D mem' w':=by
 unfold w6 at h;split at h<;>first|(cases h;done)|skip
 split at h<;>first|(cases h;done)|skip
 rename_i hn;split at h<;>first|(cases h;done)|skip
 rename_i ho;split at h<;>first|(cases h;done)|skip
 rename_i hc;cases h;cases hx;have hys:y.cells = #[]:=by
  have:=(hy.cells_of ho).1.1;rw[hc] at this;exact aAF (by simpa using this.symm)
 have hsz2:=hZ (w:=w) hn;exact⟨w,by simp[Instr.storeAt,Instr.sureAddr,storeVar,hsz2,hys,storeCells],hm,λ_ _ h=>h,λA hA=>Ext.refl hA⟩
theorem G0(hm:MR C X E D mem w){t:TypeId}{p v:AV}{x y:Value}{mem':aQ}(h:yX P mem t p v=some mem')
  (hx:VR E D (OX X E mem) w p x) (hy:VR E D (OX X E mem) w v y) :
  ∃w',(Instr.storeAt t x y).run P w = .ok () w'/\MR C X E D mem' w'/\(∀u z,VR E D (OX X E mem) w u z->VR E D (OX X E mem') w' u z)/\∀A:Nat->Prop,(∀i,A i->D i)->Ext A E mem w E D mem' w':=by
 unfold yX at h;split at h
 .rename_i m hm1;cases h;exact ES hm hm1 hx hy
 .split at h
  .rename_i m hm1;cases h;exact Ed hm hm1 hx hy
  .exact EU hm h hx hy
def Bt(P:Program)(mem:aQ)(nx:Nat)(t:TypeId)(l c:AV):Option (AV × aQ × Nat):=
 match l,c with
 | .int _ l,.int _ c=>match P.underlying t with
  | some (.slice e)=>match P.info? e with
   | some i=>match nE P e with
    | some z=>match lF z && (Nat.beq z.cells.length i.size && (Nat.blt 0 i.size && (decide (0<=l) && (decide (l<=c) && (decide ((i.bytes:Int)*c<=281474976710656) && decide (c<=9223372036854775807)))))) with
     | true=>some (.sl nx 0 l.toNat,(nx,.row e i.size (List.replicate l.toNat z))::mem,nx+1)
     | false=>none
    | none=>none
   | none=>none
  | _=>none
 | _,_=>none
theorem H5{n:Nat}{D':Nat->Prop}(hn0:¬D n)(hD:∀i,D i->D' i)(hDn:D' n)(hm:MR C X E D mem w){t:TypeId}{a b v:AV}{x y:Value}{mem':aQ}{N':Nat}(h:Bt P mem n t a b=some (v,mem',N'))
  (hx:VR E D (OX X E mem) w a x) (hy:VR E D (OX X E mem) w b y):q5 P C X E D mem w ((Instr.makeSlice t x y).run P w) v mem' D':=by
 unfold Bt at h;split at h
 .rename_i k1 l k2 c;cases hx;cases hy;split at h
  .rename_i e hu;split at h
   .rename_i i hi;split at h
    .rename_i z hz;split at h
     .rename_i hb;simp only[Y1] at hb;obtain⟨b0,b1,b2,b3,b4,b5,b6⟩:=hb;have b1:=Nat.eq_of_beq_eq_true b1;have b2:0<i.size:=Y5 b2;have b3:=Zh b3;have b4:=Zh b4;have b5:=Zh b5;have b6:=Zh b6;cases h;unfold nE at hz;rw[hi] at hz;simp only at hz;split at hz
      .rename_i zx hzx;have hrun:=run_make (P:=P) w t e i zx hu hi hzx k1 k2 l c b3 b4 b5 b6;have hle:l.toNat*i.size<=c.toNat*i.size:=ZF _ om;have hrow:=Hb (lJ (E:=E) (D:=D) (O:=OX X E mem) (w:=w) hz) b0 b1 b2 l.toNat (c.toNat*i.size) hle;refine q5.alloc hn0 hD hDn hm (λb=>.slice (some ⟨b,0,none⟩) l.toNat c.toNat) hrun rfl .go (sz:=i.size) hrow (λh0=>?_) (λE' O' eq=>?_)
       .rw[size_madeCells] at h0;have:l.toNat=0:=by
         rcases ZC l.toNat with h'|h'
         .exact h'
         .have:=aAM h' b2;omega
        rw[this];rfl
       .have:=VR.sl (E:=E') (D:=D') (O:=O') (w:=w.alloc (.cells (madeCells zx.cells (c.toNat*i.size)) e)) n 0 l.toNat c.toNat hDn om (by rw[eq];simp[size_madeCells]);rw[eq] at this;simpa using this
      .cases hz
     .cases h
    .cases h
   .cases h
  .cases h
 .cases h
end
end Go.Ax
namespace Go.Ax
open Go
def M4(mem:aQ)(sz:Nat):AV->Option (List AV)
 | .nsl=>some []
 | .il sz' ys=>match Nat.beq sz' sz with
  | true=>some ys
  | false=>none
 | .sl id off len=>match lk mem id with
  | some (.row _ sz' xs)=>match Nat.beq sz' sz && Nat.ble (off+len) xs.length with
   | true=>some ((xs.drop off).take len)
   | false=>none
  | _=>none
 | .str s=>match Nat.beq sz 1 with
  | true=>some (s.map λb=>.int .u8 (b.toNat:Int))
  | false=>none
 | _=>none
def yZ:Option TypeDesc->Bool
 | some (.slice _)=>true
 | some .string=>true
 | _=>false
def sB(P:Program)(mem:aQ)(nx:Nat)(t u:TypeId)(s x:AV):Option (AV × aQ × Nat):=
 match P.underlying t with
 | some (.slice e)=>match P.info? e with
  | some i=>match i.zero with
   | some z=>match yZ (P.underlying u) && (Nat.blt 0 i.size && Nat.beq z.cells.size i.size) with
    | true=>match M4 mem i.size x with
     | some ys=>match s with
      | .nsl=>match Nat.ble (ys.length*i.bytes) 140737488355328 && Nat.ble ys.length 9223372036854775807 with
       | true=>some (.sl nx 0 ys.length,(nx,.row e i.size ys)::mem,nx+1)
       | false=>none
      | .sl id 0 len=>match lk mem id with
       | some (.row t' sz' xs)=>match Nat.beq t' e && (Nat.beq sz' i.size && (Nat.beq len xs.length && (Nat.ble ((len+ys.length)*i.bytes) 140737488355328 && Nat.ble (len+ys.length) 9223372036854775807))) with
        | true=>some (.sl nx 0 (len+ys.length),(nx,.row e i.size (xs++ys))::drop id mem,nx+1)
        | false=>none
       | _=>none
      | _=>none
     | none=>none
    | false=>none
   | none=>none
  | none=>none
 | _=>none
section
variable {P:Program} {C:List (Nat × AV)} {X:Nat->Prop} {E:Nat->dP} {D:Nat->Prop} {O:Nat->Prop} {mem:aQ} {w w':World}
def uJ(E:Nat->dP)(D:Nat->Prop)(O:Nat->Prop)(w:World)(sz:Nat)(ys:List AV)(vs:List Value):Prop:=
 vs.length=ys.length*sz/\(∀v∈vs,v.oneCell'=true)/\∀(i:Nat) (y:AV),ys[i]? = some y->y.cells.length=sz /\
  ∀(j:Nat) (c:AV),y.cells[j]? = some c->∃v,vs[i*sz+j]? = some v/\VR E D O w c v
theorem FY{q sz n:Nat}(hp:0<sz)(h:q<n*sz):q/sz<n/\q%sz<sz/\q/sz*sz+q%sz=q:=
 ⟨(aAE hp).2 h,Zx _ hp,by rw[ZX];exact aBv q sz⟩
theorem Lf{sz:Nat}{ys:List AV}{b off:Nat}(hp:0<sz)
  (hc:∀(i:Nat) (y:AV),ys[i]? = some y->y.cells.length=sz/\∀(j:Nat) (c:AV),y.cells[j]? = some c->∃v,w.cell? ⟨b,off+(i*sz+j),none⟩=some v/\v.oneCell'=true/\VR E D O w c v) :
  ∃vs,uJ E D O w sz ys vs/\∀(j:Nat) (v:Value),vs[j]? = some v->w.cell? (Addr.add ⟨b,off,none⟩ j)=some v:=by
 have key:∀q,q<ys.length*sz->∃v,w.cell? ⟨b,off+q,none⟩=some v/\v.oneCell'=true/\∀(y c:AV),ys[q/sz]? = some y->y.cells[q%sz]? = some c->VR E D O w c v:=by
  intro q hq;obtain⟨h1,h2,h3⟩:=FY hp hq;have hy:ys[q/sz]? = some ys[q/sz]:=Yw h1;obtain⟨h4,h5⟩:=hc _ _ hy;have hcc:ys[q/sz].cells[q%sz]? = some (ys[q/sz].cells[q%sz]'om):=Yw _;obtain⟨v,hv,ho,hr⟩:=h5 _ _ hcc;rw[h3] at hv;refine⟨v,hv,ho,λy c e1 e2=>?_⟩;rw[hy] at e1;cases e1;rw[hcc] at e2;cases e2;exact hr
 refine⟨(List.range (ys.length*sz)).map λq=>(w.cell? ⟨b,off+q,none⟩).getD undef,⟨sq,λv hv=>?_,λi y hi=>⟨(hc i y hi).1,λj c hj=>?_⟩⟩,λj v hj=>?_⟩
 .obtain⟨q,hq,rfl⟩:=ZL.1 hv;obtain⟨v,hv,ho,_⟩:=key q (aAL.1 hq);simp[hv,ho]
 .obtain⟨v,hv,ho,hr⟩:=(hc i y hi).2 j c hj;have hjl:j<sz:=by
   rw[<-(hc i y hi).1];rcases ZG j y.cells.length with h'|h'
   .exact h'
   .rw[ZH h'] at hj;cases hj
  have hil:i<ys.length:=by
   rcases ZG i ys.length with h'|h'
   .exact h'
   .rw[ZH h'] at hi;cases hi
  have:(i+1)*sz<=ys.length*sz:=ZF _ hil;rw[Nat.add_mul,aAa] at this;refine⟨v, ?_,hr⟩;rw[ZT,aBS om];simp[hv]
 .have hjl:j<ys.length*sz:=by
   rcases ZG j (ys.length*sz) with h'|h'
   .exact h'
   .simp[h'] at hj
  obtain⟨v',hv,_⟩:=key j hjl;simp[hjl,hv] at hj;subst hj;simp[Addr.add_lit,hv]
theorem Dx(hm:MR C X E D mem w){sz:Nat}{a:AV}{x:Value}{ys:List AV}(hp:0<sz)(h:M4 mem sz a=some ys)(hx:VR E D (OX X E mem) w a x) :
  ∃vs,uJ E D (OX X E mem) w sz ys vs/\Builtin.lenOf x=pure ys.length/\∀w',w'.heap=w.heap->(Builtin.firstCells sz ys.length x).run P w' = .ok vs.toArray w':=by
 have cellw:∀w':World,w'.heap=w.heap->∀a,w'.cell? a=w.cell? a:=λw' e a=>by simp[World.cell?,e]
 have fin:∀{b off len cap:Nat},(∀(i:Nat) (y:AV),ys[i]? = some y->y.cells.length=sz/\∀(j:Nat) (c:AV),y.cells[j]? = some c->∃v,w.cell? ⟨b,off+(i*sz+j),none⟩=some v/\v.oneCell'=true/\VR E D (OX X E mem) w c v) ->
   len=ys.length->∃vs,uJ E D (OX X E mem) w sz ys vs/\Builtin.lenOf (.slice (some ⟨b,off,none⟩) len cap)=pure ys.length /\
    ∀w',w'.heap=w.heap->(Builtin.firstCells sz ys.length (.slice (some ⟨b,off,none⟩) len cap)).run P w' = .ok vs.toArray w':=by
  intro b off len cap hc hl;obtain⟨vs,hf,hv⟩:=Lf hp hc;refine⟨vs,hf,by rw[hl];rfl,λw' e=>?_⟩;exact run_firstCells_some w' sz ys.length ⟨b,off,none⟩ len cap vs hf.1 (λj v hj=>by rw[cellw w' e];exact hv j v hj)
 have finz:ys=[]->∀(ad:Option Addr) (cap:Nat),x = .slice ad 0 cap->∃vs,uJ E D (OX X E mem) w sz ys vs/\Builtin.lenOf x=pure ys.length /\
    ∀w',w'.heap=w.heap->(Builtin.firstCells sz ys.length x).run P w' = .ok vs.toArray w':=by
  intro e ad cap ex;subst e ex;refine⟨[],⟨sq,sq,sq⟩,rfl,λw' _=>?_⟩;cases ad with
  | none=>rfl
  | some ad=>simp[Builtin.firstCells,loadCells,loadCellsFrom]
 unfold M4 at h;split at h
 .cases h;cases hx;exact finz rfl _ _ rfl
 .rename_i sz' ys';split at h
  .rename_i hs;have hs:=Nat.eq_of_beq_eq_true hs;cases h;subst hs;cases hx with
   | il _ _ b off cap f h0 h1 h2 h3=>
    exact fin (λi y hi=>⟨h1 i y hi,λj c hj=>⟨f i j,(h2 i y j c hi hj).2.1,(h2 i y j c hi hj).2.2,h3 i y j c hi hj⟩⟩) rfl
   | iln=>exact finz rfl _ _ rfl
  .cases h
 .rename_i id off len;split at h
  .rename_i t' sz' xs hid;split at h
   .rename_i hb;rw[Y1] at hb;have b1:=Nat.eq_of_beq_eq_true hb.1;have b2:=Y5 hb.2;have hz:(E id).sz=sz:=by rw[x5 hm hid];exact b1
    cases h;cases hx with
    | sl _ _ _ cap hid' g1 g2=>
     refine fin (λi y hi=>?_) (by simp;omega);have hi':xs[off+i]? = some y:=by
      rw[Za] at hi;split at hi
      .rw[ZS] at hi;exact hi
      .cases hi
     obtain⟨h1,h2⟩:=gL hm hid hi';refine⟨by rw[h1,hz],λj c hj=>?_⟩;obtain⟨v,hv,ho,hr⟩:=h2 j c hj;refine⟨v, ?_,ho,hr⟩;rw[hz,Nat.add_mul,Nat.add_assoc] at hv;rw[hz];exact hv
    | slz _ _ ad ao hid'=>exact finz sq _ _ rfl
    | slzn _ _ hid'=>exact finz sq _ _ rfl
   .cases h
  .cases h
 .rename_i s;split at h
  .rename_i hs;have hs:=Nat.eq_of_beq_eq_true hs;cases h;subst hs;cases hx;refine⟨s.map λb=>.int .u8 (b.toNat:Int),⟨sq,λv hv=>?_,λi y hi=>?_⟩, ?_,λw' _=>?_⟩
   .obtain⟨b,_,rfl⟩:=ZL.1 hv;rfl
   .rw[ZT] at hi;obtain⟨b,hb,rfl⟩:=aBC.1 hi;refine⟨rfl,λj c hj=>?_⟩;cases j with
    | zero=>
     simp[AV.cells] at hj;subst hj;exact⟨_,by simp[ZT,hb],.int _ _⟩
    | succ j=>simp[AV.cells] at hj
   .simp[Builtin.lenOf,ByteArray.size_mk']
   .simp[Builtin.firstCells,ByteArray.extract_mk]
  .cases h
 .cases h
theorem uJ.row{sz:Nat}{ys:List AV}{vs:List Value}(h:uJ E D O w sz ys vs){pre:List AV}{ps:List Value}(h':uJ E D O w sz pre ps)(post:Array Value) :
  A6 E D O w sz (ps.toArray++vs.toArray++post) (pre++ys):=by
 obtain⟨h1,ho,h2⟩:=h;obtain⟨h3,ho',h4⟩:=h';refine⟨by simp[h1,h3,Nat.add_mul],λi y hi=>?_⟩;have key:∀(q:Nat) (v:Value),(ps++vs)[q]? = some v->(ps.toArray++vs.toArray++post)[q]? = some v:=by
  intro q v hq;have hlt:q<(ps++vs).length:=by
   rcases ZG q (ps++vs).length with h'|h'
   .exact h'
   .rw[ZH h'] at hq;cases hq
  rw[aBI,Y4 (su hlt)];simpa using hq
 rw[Zk] at hi;split at hi
 .rename_i hlt;refine⟨(h4 i y hi).1,λj c hj=>?_⟩;obtain⟨v,hv,hr⟩:=(h4 i y hi).2 j c hj;refine⟨v,key _ _ ?_,ho' v (Y2 hv),hr⟩;have hlt2:i*sz+j<ps.length:=by
   rcases ZG (i*sz+j) ps.length with h'|h'
   .exact h'
   .rw[ZH h'] at hv;cases hv
  rw[Zk,Y4 hlt2];exact hv
 .rename_i hge;refine⟨(h2 _ y hi).1,λj c hj=>?_⟩;obtain⟨v,hv,hr⟩:=(h2 _ y hi).2 j c hj;refine⟨v,key _ _ ?_,ho v (Y2 hv),hr⟩;have e:i*sz+j=ps.length+((i-pre.length)*sz+j):=by
   rw[h3,Nat.sub_mul];have:pre.length*sz<=i*sz:=ZF _ om;omega
  rw[e,ZM om];rw[aBd];exact hv
theorem mW{u:TypeId}(hu:yZ (P.underlying u)=true):(∃e,P.underlying u=some (.slice e))\/P.underlying u=some .string:=by
 cases h:P.underlying u with
 | none=>rw[h] at hu;cases hu
 | some d=>rw[h] at hu;cases d<;>first|exact .inr rfl|exact .inl ⟨_,rfl⟩|(simp[yZ] at hu)
theorem CA{t u ty e:TypeId}{i:TypeInfo}{z x:Value}{base:Option Addr}{sLen sCap n:Nat}{news olds:Array Value}(ht:P.underlying t=some (.slice e))(hu:yZ (P.underlying u)=true)
  (hi:P.info? e=some i) (hz:i.zero=some z) (hlen:Builtin.lenOf x=pure n) (hnew:∀w',w'.heap=w.heap->(Builtin.firstCells i.size n x).run P w' = .ok news w')
  (hold:∀w',w'.heap=w.heap->(Builtin.firstCells i.size sLen (.slice base sLen sCap)).run P w' = .ok olds w') (hgt:sCap<sLen+n) (h63:sLen+n<=9223372036854775807) (h47:(sLen+n)*i.bytes<=140737488355328) :
  (Builtin.append_ #[t,u] ty #[.slice base sLen sCap,x]).run P w =
   .ok (.slice (some ⟨w.heap.size,0,none⟩) (sLen+n) (grownCap w (sLen+n) sCap e)) (w.drew.alloc (.cells (olds++news++Builtin.zeroCells z.cells (grownCap w (sLen+n) sCap e-(sLen+n))) e)):=by
 have hn:¬(sLen+n<=sCap):=om;have h48:=growslice_fits hgt h47;have h48':¬(281474976710656<Builtin.nextslicecap (sLen+n) sCap*i.bytes):=om;have h63':¬((9223372036854775807:Int)<(sLen:Int)+(n:Int)/\i.bytes=0):=by rintro⟨h1,_⟩;omega
 have hnew':=hnew w.drew rfl;have hold':=hold w.drew rfl;rcases mW hu with⟨e',hd⟩|hd
 .simp[Builtin.append_,run_underlying ht,run_underlying hd,Go.sizeOf,typeInfo,zeroValue,hi,hz,hlen,hn,h63',h48',Question.forced,hnew',hold',newRow,grownCap]
 .simp[Builtin.append_,run_underlying ht,run_underlying hd,Go.sizeOf,typeInfo,zeroValue,hi,hz,hlen,hn,h63',h48',Question.forced,hnew',hold',newRow,grownCap]
theorem B9{t u ty e:TypeId}{i:TypeInfo}{x:Value}{g sLen sCap n:Nat}{news:List Value}{cur:Array Value}{fr:Nat × Nat}(ht:P.underlying t=some (.slice e))(hu:yZ (P.underlying u)=true)
  (hi:P.info? e=some i) (hlen:Builtin.lenOf x=pure n) (hnew:(Builtin.firstCells i.size n x).run P w = .ok news.toArray w) (hg:w.heap[g]? = some (.cells cur e fr)) (hfr:∀j,j<cur.size->¬(fr.1<=j/\j<fr.2))
  (hone:∀v∈news,v.oneCell'=true) (hroom:sLen+n<=sCap) (hfit:sLen*i.size+news.length<=cur.size) :
  (Builtin.append_ #[t,u] ty #[.slice (some ⟨g,0,none⟩) sLen sCap,x]).run P w =
   .ok (.slice (some ⟨g,0,none⟩) (sLen+n) sCap) (w.setRow g (cur.toList.take (sLen*i.size)++news++cur.toList.drop (sLen*i.size+news.length)).toArray):=by
 have hst:=fF P g (sLen*i.size) e fr news 0 cur w hg hfr (su hfit) hone;simp only[Zm] at hst;rcases mW hu with⟨e',hd⟩|hd
 .simp[Builtin.append_,run_underlying ht,run_underlying hd,Go.sizeOf,typeInfo,hi,hlen,hroom,hnew,Addr.add_lit,hst]
 .simp[Builtin.append_,run_underlying ht,run_underlying hd,Go.sizeOf,typeInfo,hi,hlen,hroom,hnew,Addr.add_lit,hst]
theorem tV{t u ty e:TypeId}{i:TypeInfo}{x:Value}{ad:Option Addr}(ht:P.underlying t=some (.slice e))(hu:yZ (P.underlying u)=true)
  (hi:P.info? e=some i) (hlen:Builtin.lenOf x=pure 0) (hnew:(Builtin.firstCells i.size 0 x).run P w = .ok #[] w) :
  (Builtin.append_ #[t,u] ty #[.slice ad 0 0,x]).run P w = .ok (.slice ad 0 0) w:=by
 rcases mW hu with⟨e',hd⟩|hd
 .cases ad<;>simp[Builtin.append_,run_underlying ht,run_underlying hd,Go.sizeOf,typeInfo,hi,hlen,hnew,storeCells]
 .cases ad<;>simp[Builtin.append_,run_underlying ht,run_underlying hd,Go.sizeOf,typeInfo,hi,hlen,hnew,storeCells]
end
end Go.Ax
namespace Go.Ax
open Go
section
variable {P:Program} {C:List (Nat × AV)} {X:Nat->Prop} {E:Nat->dP} {D:Nat->Prop} {O:Nat->Prop} {mem:aQ} {w w':World}
theorem MR.phantom{n:Nat}{D':Nat->Prop}(hn0:¬D n)(hD:∀i,D i->D' i)(hDn:D' n)(hm:MR C X E D mem w)(t:TypeId)(sz:Nat) :
  MR C X (fS E n ⟨0,0,sz⟩) D' ((n,.row t sz [])::mem) w /\
  (∀v x,VR E D (OX X E mem) w v x->VR (fS E n ⟨0,0,sz⟩) D' (OX X (fS E n ⟨0,0,sz⟩) ((n,.row t sz [])::mem)) w v x) /\
  (∀A:Nat->Prop,(∀i,A i->D i)->Ext A E mem w (fS E n ⟨0,0,sz⟩) D' ((n,.row t sz [])::mem) w):=by
 have hne:∀p∈mem,p.1≠n:=λp hp e=>hn0 (e ▸ hm.low p hp)
 have hρ:∀id,D id->fS E n ⟨0,0,sz⟩ id=E id:=λid h=>CD _ _ _ (λe=>hn0 (e ▸ h))
 have hρm:∀p∈mem,fS E n ⟨0,0,sz⟩ p.1=E p.1:=λp hp=>hρ _ (hm.low p hp)
 have hown:∀b,own (fS E n ⟨0,0,sz⟩) ((n,.row t sz [])::mem) b->own E mem b:=by
  rintro b ⟨p,hp,hn,e⟩;rcases Y6.1 hp with rfl|hp
  .rw[bZ] at hn;simp at hn
  .rw[hρm p hp] at hn e;exact⟨p,hp,hn,e⟩
 have hk:∀b,b<w.heap.size->¬OX X E mem b->¬OX X (fS E n ⟨0,0,sz⟩) ((n,.row t sz [])::mem) b/\w.heap[b]? = w.heap[b]? :=
  λb _ ho=>⟨λh=>ho (h.imp (λx=>x) (hown b)),rfl⟩
 have hmono:∀v x,VR E D (OX X E mem) w v x->VR (fS E n ⟨0,0,sz⟩) D' (OX X (fS E n ⟨0,0,sz⟩) ((n,.row t sz [])::mem)) w v x:=
  λv x h=>h.mono hρ hD hk
 refine⟨⟨?_, ?_, ?_, ?_, ?_, ?_, ?_⟩,hmono,λB hB=>⟨λi hi=>hD i (hB i hi),λid h=>hρ id (hB id h),Y8 _,λ_ _ _=>rfl, ?_,.go⟩⟩
 .intro p hp;rcases Y6.1 hp with rfl|hp
  .exact hDn
  .exact hD _ (hm.low p hp)
 .intro p hp hn;rcases Y6.1 hp with rfl|hp
  .rw[bZ] at hn;simp at hn
  .rw[hρm p hp] at hn |-;obtain⟨o,ho,hb⟩:=hm.blk p hp hn;exact⟨o,ho,hb.mono hρ hD hk⟩
 .intro p hp hn;rcases Y6.1 hp with rfl|hp
  .exact⟨t,sz,rfl,by rw[bZ]⟩
  .rw[hρm p hp] at hn |-;exact hm.emp p hp hn
 .intro p hp q hq hpn hqn e;rcases Y6.1 hp with rfl|hp
  .rw[bZ] at hpn;simp at hpn
  .rcases Y6.1 hq with rfl|hq
   .rw[bZ] at hqn;simp at hqn
   .rw[hρm p hp] at e hpn;rw[hρm q hq] at e hqn;exact hm.inj p hp q hq hpn hqn e
 .simp only[Z2,Zv];refine⟨λh=>?_,hm.nod⟩;obtain⟨p,hp,e⟩:=ZL.1 h;exact hne p hp e
 .exact λb hb=>⟨(hm.bar b hb).1,λh=>(hm.bar b hb).2 (hown b h)⟩
 .exact λp hp=>hmono _ _ (hm.glo p hp)
 .intro p hp hn;exact .inl (hown _ ⟨p,hp,hn,rfl⟩)
theorem MR.move{n:Nat}{D':Nat->Prop}(hn0:¬D n)(hD:∀i,D i->D' i)(hDn:D' n)(hm:MR C X E D mem w){id:Nat}{a:AB}(hid:lk mem id=some a) :
  MR C X (fS E n (E id)) D' ((n,a)::drop id mem) w /\
  (∀v x,VR E D (OX X E mem) w v x->VR (fS E n (E id)) D' (OX X (fS E n (E id)) ((n,a)::drop id mem)) w v x) /\
  (∀A:Nat->Prop,(∀i,A i->D i)->Ext A E mem w (fS E n (E id)) D' ((n,a)::drop id mem) w):=by
 have hidm:=bL hid;have hlow:=hm.low _ hidm;have hρ:∀i,D i->fS E n (E id) i=E i:=λi h=>CD _ _ _ (λe=>hn0 (e ▸ h))
 have hρm:∀p∈mem,fS E n (E id) p.1=E p.1:=λp hp=>hρ _ (hm.low p hp)
 have hown:∀b,own (fS E n (E id)) ((n,a)::drop id mem) b->own E mem b:=by
  rintro b ⟨p,hp,hn,e⟩;rcases Y6.1 hp with rfl|hp
  .rw[bZ] at hn e;exact⟨_,hidm,hn,e⟩
  .have hp:=dT hp;rw[hρm p hp] at hn e;exact⟨p,hp,hn,e⟩
 have hk:∀b,b<w.heap.size->¬OX X E mem b->¬OX X (fS E n (E id)) ((n,a)::drop id mem) b/\w.heap[b]? = w.heap[b]? :=
  λb _ ho=>⟨λh=>ho (h.imp (λx=>x) (hown b)),rfl⟩
 have hmono:∀v x,VR E D (OX X E mem) w v x->VR (fS E n (E id)) D' (OX X (fS E n (E id)) ((n,a)::drop id mem)) w v x:=
  λv x h=>h.mono hρ hD hk
 refine⟨⟨?_, ?_, ?_, ?_, ?_, ?_, ?_⟩,hmono,λB hB=>⟨λi hi=>hD i (hB i hi),λi h=>hρ i (hB i h),Y8 _,λ_ _ _=>rfl, ?_,.go⟩⟩
 .intro p hp;rcases Y6.1 hp with rfl|hp
  .exact hDn
  .exact hD _ (hm.low p (dT hp))
 .intro p hp hn;rcases Y6.1 hp with rfl|hp
  .rw[bZ] at hn |-;obtain⟨o,ho,hb⟩:=hm.blk _ hidm hn;exact⟨o,ho,hb.mono hρ hD hk⟩
  .have hp:=dT hp;rw[hρm p hp] at hn |-;obtain⟨o,ho,hb⟩:=hm.blk p hp hn;exact⟨o,ho,hb.mono hρ hD hk⟩
 .intro p hp hn;rcases Y6.1 hp with rfl|hp
  .rw[bZ] at hn |-;exact hm.emp _ hidm hn
  .have hp:=dT hp;rw[hρm p hp] at hn |-;exact hm.emp p hp hn
 .intro p hp q hq hpn hqn e;rcases Y6.1 hp with rfl|hp
  .rcases Y6.1 hq with rfl|hq
   .rfl
   .exfalso;have hne:=sD hm.nod hq;have hq:=dT hq;rw[hρm q hq] at e hqn;rw[bZ] at e hpn;exact hne (hm.inj _ hq _ hidm hqn hpn e.symm)
  .rcases Y6.1 hq with rfl|hq
   .exfalso;have hne:=sD hm.nod hp;have hp:=dT hp;rw[hρm p hp] at e hpn;rw[bZ] at e hqn;exact hne (hm.inj _ hp _ hidm hpn hqn e)
   .have hp:=dT hp;have hq:=dT hq;rw[hρm p hp] at e hpn;rw[hρm q hq] at e hqn;exact hm.inj p hp q hq hpn hqn e
 .simp only[Z2,Zv];refine⟨λh=>?_,kS hm.nod⟩;obtain⟨p,hp,e⟩:=ZL.1 h;exact hn0 (e ▸ hm.low p (dT hp))
 .exact λb hb=>⟨(hm.bar b hb).1,λh=>(hm.bar b hb).2 (hown b h)⟩
 .exact λp hp=>hmono _ _ (hm.glo p hp)
 .intro p hp hn;exact .inl (hown _ ⟨p,hp,hn,rfl⟩)
theorem KM:∀{m:aQ} {id:Nat} {a b:AB},lk m id=some a->lk (up m id b) id=some b:=by
 intro m id a b h;rw[HZ];simp
theorem LA:∀{m:aQ} {id:Nat} {b:AB},drop id (up m id b)=drop id m\/lk m id=none
 | [],id,b=>.inr rfl
 | (k,u)::r,id,b=>by
  simp only[up,drop,lk];cases hk:Nat.beq k id with
  | true=>simp[drop,hk]
  | false=>
   simp only[drop,hk];rcases LA (m:=r) (id:=id) (b:=b) with h|h
   .exact .inl (by rw[h])
   .exact .inr h
theorem A6.nil{sz:Nat}{arr:Array Value}:A6 E D O w sz arr []:=⟨sq,sq⟩
theorem uJ.nil{sz:Nat}:uJ E D O w sz [] []:=⟨sq,sq,sq⟩
theorem EY{n:Nat}{D':Nat->Prop}(hn0:¬D n)(hD:∀i,D i->D' i)(hm:MR C X E D mem w){t u ty:TypeId}{a b v:AV}{x y:Value}{mem':aQ}{N':Nat}(hDn':N'=n+1->D' n)(h:sB P mem n t u a b=some (v,mem',N'))
  (hx:VR E D (OX X E mem) w a x) (hy:VR E D (OX X E mem) w b y):q5 P C X E D mem w ((Builtin.append_ #[t,u] ty #[x,y]).run P w) v mem' D':=by
 unfold sB at h;split at h
 .rename_i e ht;split at h
  .rename_i i hi;split at h
   .rename_i z hz;split at h
    .rename_i hb;simp only[Y1] at hb;obtain⟨hu,hp,hzs⟩:=hb;have hp:0<i.size:=Y5 hp;have hzs:=Nat.eq_of_beq_eq_true hzs;split at h
     .rename_i ys hys;obtain⟨news,hflat,hlen,hfirst⟩:=Dx (P:=P) hm hp hys hy;have grow:D' n->∀(base:Option Addr) (sLen sCap:Nat) (pre:List AV) (olds:List Value),uJ E D (OX X E mem) w i.size pre olds->pre.length=sLen ->
        (∀w',w'.heap=w.heap->(Builtin.firstCells i.size sLen (.slice base sLen sCap)).run P w' = .ok olds.toArray w')->sCap<sLen+ys.length->(sLen+ys.length)*i.bytes<=140737488355328->sLen+ys.length<=9223372036854775807 ->
        q5 P C X E D mem w ((Builtin.append_ #[t,u] ty #[.slice base sLen sCap,y]).run P w) (.sl n 0 (sLen+ys.length)) ((n,.row e i.size (pre++ys))::mem) D':=by
       intro hDn base sLen sCap pre olds hpre hpl hold hgt h47 h63;have hrun:=CA (P:=P) (w:=w) (ty:=ty) ht hu hi hz hlen hfirst hold hgt h63 h47;have hcap:=grownCap_ge w (sLen+ys.length) sCap e;have hsize:(olds.toArray++news.toArray++Builtin.zeroCells z.cells (grownCap w (sLen+ys.length) sCap e-(sLen+ys.length))).size=grownCap w (sLen+ys.length) sCap e*i.size:=by
        simp[size_zeroCells,hzs,hflat.1,hpre.1,hpl];rw[<-Nat.add_mul,<-Nat.add_mul];congr 1;omega
       refine q5.alloc hn0 hD hDn hm (λb=>.slice (some ⟨b,0,none⟩) (sLen+ys.length) (grownCap w (sLen+ys.length) sCap e)) hrun rfl .go (hflat.row hpre _) (λh0=>?_) (λE' O' eq=>?_)
       .exfalso;rw[hsize] at h0;have:=aAM (show 0<grownCap w (sLen+ys.length) sCap e by omega) hp;omega
       .have:=VR.sl (E:=E') (D:=D') (O:=O') (w:=w.drew.alloc (.cells (olds.toArray++news.toArray++Builtin.zeroCells z.cells (grownCap w (sLen+ys.length) sCap e-(sLen+ys.length))) e)) n 0 (sLen+ys.length) (grownCap w (sLen+ys.length) sCap e) hDn hcap (by rw[eq];simp only[hsize];simp);rw[eq] at this;simpa using this
      split at h
      .cases hx;split at h
       .rename_i hb2;rw[Y1] at hb2;have b1:=Y5 hb2.1;have b2:=Y5 hb2.2;cases h;have hDn:=hDn' rfl;cases ys with
        | nil=>
         have hr:=tV (P:=P) (w:=w) (ty:=ty) (ad:=none) ht hu hi hlen (by have e3:=hfirst w rfl;have:=hflat.1;simp at this;rw[this] at e3;exact e3);obtain⟨w1,w2,w3⟩:=hm.phantom hn0 hD hDn e i.size;exact⟨_,w,_,hr,w1,.slzn n 0 hDn,w2,w3⟩
        | cons y0 yr=>
         have:=grow hDn none 0 0 [] [] uJ.nil rfl (λw' _=>rfl) sq (su b1) (su b2);simpa using this
       .cases h
      .rename_i id len;split at h
       .rename_i t' sz' xs hid;split at h
        .rename_i hb2;simp only[Y1] at hb2;obtain⟨c1,c2,c3,c4,c5⟩:=hb2;have c1:=Nat.eq_of_beq_eq_true c1;have c2:=Nat.eq_of_beq_eq_true c2;have c3:=Nat.eq_of_beq_eq_true c3;have c4:=Y5 c4;have c5:=Y5 c5;cases h;have hDn:=hDn' rfl;have hszr:(E id).sz=i.size:=by rw[x5 hm hid];exact c2
         have hidm:=bL hid;have growd:∀(base:Option Addr) (sCap:Nat) (olds:List Value),uJ E D (OX X E mem) w i.size xs olds ->
           (∀w',w'.heap=w.heap->(Builtin.firstCells i.size len (.slice base len sCap)).run P w' = .ok olds.toArray w')->sCap<len+ys.length ->
           q5 P C X E D mem w ((Builtin.append_ #[t,u] ty #[.slice base len sCap,y]).run P w) (.sl n 0 (len+ys.length)) ((n,.row e i.size (xs++ys))::drop id mem) D':=by
          intro base sCap olds h1 h2 h3;obtain⟨r,w1,ρ1,e1,m1,v1,mono1,ext1⟩:=(grow hDn base len sCap xs olds h1 c3.symm h2 h3 c4 c5).ex;have hsub:∀p∈(n,AB.row e i.size (xs++ys))::drop id mem,p∈(n,AB.row e i.size (xs++ys))::mem:=by
           intro p hp;rcases Y6.1 hp with rfl|hp
           .exact ZQ ..
           .exact ZE _ (dT hp)
          have hnd:(((n,AB.row e i.size (xs++ys))::drop id mem).map (·.1)).Nodup:=by
           simp only[Z2,Zv];refine⟨λh=>?_,kS hm.nod⟩;obtain⟨p,hp,e'⟩:=ZL.1 h;exact hn0 (e' ▸ hm.low p (dT hp))
          obtain⟨m2,mono2,ext2⟩:=m1.less hsub hnd;exact⟨r,w1,ρ1,e1,m2,mono2 _ _ v1,λu' y' h'=>mono2 _ _ (mono1 u' y' h'),λB hB=>(ext1 B hB).trans (ext2 B (λi hi=>hD i (hB i hi)))⟩
         have stays:∀(ad:Option Addr),len=0->ys=[]->(∀E':Nat->dP,∀O',VR E' D' O' w (.sl n 0 0) (.slice ad 0 0)) ->
           q5 P C X E D mem w ((Builtin.append_ #[t,u] ty #[.slice ad 0 0,y]).run P w) (.sl n 0 (len+ys.length)) ((n,.row e i.size (xs++ys))::drop id mem) D':=by
          intro ad e0 e1 hv;subst e1;have e2:xs=[]:=ZB om;subst e0 e2;have hr:=tV (P:=P) (w:=w) (ty:=ty) (ad:=ad) ht hu hi hlen (by have e3:=hfirst w rfl;have:=hflat.1;simp at this;rw[this] at e3;exact e3);obtain⟨m1,mono1,ext1⟩:=hm.less (mem':=drop id mem) (λp hp=>dT hp) (kS hm.nod);obtain⟨m2,mono2,ext2⟩:=m1.phantom hn0 hD hDn e i.size;exact⟨_,w,_,hr,m2,hv _ _,λu' y' h'=>mono2 _ _ (mono1 _ _ h'),λB hB=>(ext1 B hB).trans (ext2 B hB)⟩
         cases hx with
         | sl _ _ _ cap hid' g1 g2=>
          rcases ZC (E id).n with hn|hn
          .obtain⟨t2,sz2,e2,_⟩:=hm.emp _ hidm hn;simp only[AB.row.injEq] at e2;obtain⟨_,_,rfl⟩:=e2;simp only[aAr] at c3;subst c3;have hcap0:cap=0:=by
            rw[hn,hszr,ZP] at g2;rcases ZC cap with h'|h'
            .exact h'
            .have:=aAM h' hp;omega
           subst hcap0;cases ys with
           | nil=>exact stays _ rfl rfl (λE' O'=>.slz n 0 _ _ hDn)
           | cons y0 yr=>exact growd _ 0 [] uJ.nil (λw' _=>by simp[Builtin.firstCells,loadCells,loadCellsFrom]) sq
          .obtain⟨o,ho,q0,arr,fr,rfl,hfr,q1,q2,q3⟩:=hm.blk _ hidm hn;simp only at ho q0 q1 q2 q3;by_cases hroom:len+ys.length<=cap
           .have hfit:len*i.size+news.length<=arr.size:=by
             rw[hflat.1,<-Nat.add_mul,q1];refine Zj (ZF _ hroom) ?_;rw[hszr] at g2;simpa using g2
            have hcell:(Builtin.firstCells i.size ys.length y).run P w = .ok news.toArray w:=hfirst w rfl;subst c1;have hrun:=B9 (P:=P) (w:=w) (ty:=ty) (sLen:=len) (sCap:=cap) ht hu hi hlen hcell ho hfr hflat.2.1 hroom hfit;have hrow:A6 E D (OX X E mem) w sz' (arr.toList.take (len*i.size)++news++arr.toList.drop (len*i.size+news.length)).toArray (xs++ys):=by
             have hfx:uJ E D (OX X E mem) w i.size xs (arr.toList.take (len*i.size)):=by
              refine⟨by simp;rw[<-c3];omega,λv hv=>?_,λk x' hk=>?_⟩
              .obtain⟨q,hq⟩:=ZV hv;rw[Za] at hq;split at hq
               .rename_i hlt;rw[c3] at hlt;obtain⟨h1,h2,h3⟩:=FY hp hlt;have hxx:=Yw h1;obtain⟨h4,h5⟩:=q3 _ _ hxx;have hcc:xs[q/i.size].cells[q%i.size]? = some (xs[q/i.size].cells[q%i.size]'(by rw[h4,hszr];exact h2)):=Yw _;obtain⟨v',hv',ho',_⟩:=h5 _ _ hcc;rw[hszr,h3] at hv';rw[Z4,hv'] at hq;cases hq;exact ho'
               .cases hq
              .obtain⟨h4,h5⟩:=q3 k x' hk;refine⟨by rw[h4,hszr],λj c hj=>?_⟩;obtain⟨v',hv',_,hr'⟩:=h5 j c hj;rw[hszr] at hv';refine⟨v', ?_,hr'⟩;have hkl:k<xs.length:=by
                rcases ZG k xs.length with h'|h'
                .exact h'
                .rw[ZH h'] at hk;cases hk
               have hjl:j<i.size:=by
                rw[<-hszr,<-h4];rcases ZG j x'.cells.length with h'|h'
                .exact h'
                .rw[ZH h'] at hj;cases hj
               have hm2:(k+1)*i.size<=xs.length*i.size:=ZF _ hkl;rw[Nat.add_mul,aAa] at hm2;rw[Za,Y4 (by rw[c3];omega),Z4];exact hv'
             have:=hflat.row hfx (arr.toList.drop (len*i.size+news.length)).toArray;rw[<-c2] at this;rw[<-c2];simpa using this
            have hsz2:(arr.toList.take (len*i.size)++news++arr.toList.drop (len*i.size+news.length)).toArray.size=arr.size:=by simp;omega
            obtain⟨m1,mono1,ext1⟩:=hm.change hid hn (lS w _ arr _ t' fr ho) .go (λj hj=>hfr j (by rw[hsz2] at hj;exact hj)) (by rw[hsz2];exact q1) hrow;obtain⟨m2,mono2,ext2⟩:=m1.move hn0 hD hDn (KM hid);have hdu:drop id (up mem id (.row t' sz' (xs++ys)))=drop id mem:=by
             rcases LA (m:=mem) (id:=id) (b:=.row t' sz' (xs++ys)) with h'|h'
             .exact h'
             .rw[hid] at h';cases h'
            rw[hdu] at m2 mono2 ext2;subst c2;refine⟨_,_,_,su hrun,m2, ?_,λu' y' h'=>mono2 _ _ (mono1 _ _ h'),λB hB=>(ext1 B hB).trans (ext2 B hB)⟩;have:=VR.sl (E:=fS E n (E id)) (D:=D') (O:=OX X (fS E n (E id)) ((n,.row t' i.size (xs++ys))::drop id mem)) (w:=w.setRow (E id).b (arr.toList.take (len*i.size)++news++arr.toList.drop (len*i.size+news.length)).toArray) n 0 (len+ys.length) cap hDn hroom (by rw[bZ];simpa using g2);rw[bZ] at this;simpa using this
           .have hfc:∃olds,uJ E D (OX X E mem) w i.size xs olds/\∀w',w'.heap=w.heap->(Builtin.firstCells i.size len (.slice (some ⟨(E id).b,0*(E id).sz,none⟩) len cap)).run P w' = .ok olds.toArray w':=by
             obtain⟨vs,hf,hv⟩:=Lf (E:=E) (D:=D) (O:=OX X E mem) (w:=w) (b:=(E id).b) (off:=0) hp (ys:=xs) (λk x' hk=>by
              obtain⟨h4,h5⟩:=gL hm hid hk;refine⟨by rw[h4,hszr],λj c hj=>?_⟩;obtain⟨v',hv',ho',hr'⟩:=h5 j c hj;rw[hszr] at hv';exact⟨v',su hv',ho',hr'⟩)
             refine⟨vs,hf,λw' ew=>?_⟩;rw[aBV];exact run_firstCells_some w' i.size len ⟨(E id).b,0,none⟩ len cap vs (by rw[hf.1,c3]) (λj v hj=>by
              have:=hv j v hj;simpa[World.cell?,ew] using this)
            obtain⟨olds,h1,h2⟩:=hfc;exact growd _ cap olds h1 h2 om
         | slz _ _ ad ao hid'=>
          have e2:xs=[]:=ZB c3.symm;subst e2;cases ys with
          | nil=>exact stays _ rfl rfl (λE' O'=>.slz n 0 _ _ hDn)
          | cons y0 yr=>exact growd _ 0 [] uJ.nil (λw' _=>by simp[Builtin.firstCells,loadCells,loadCellsFrom]) sq
         | slzn _ _ hid'=>
          have e2:xs=[]:=ZB c3.symm;subst e2;cases ys with
          | nil=>exact stays _ rfl rfl (λE' O'=>.slzn n 0 hDn)
          | cons y0 yr=>exact growd _ 0 [] uJ.nil (λw' _=>rfl) sq
        .cases h
       .cases h
      .cases h
     .cases h
    .cases h
   .cases h
  .cases h
 .cases h
end
end Go.Ax
namespace Go.Ax
open Go
section
variable {P:Program} {C:List (Nat × AV)} {X:Nat->Prop} {E:Nat->dP} {D:Nat->Prop} {O:Nat->Prop} {mem:aQ} {w w':World}
theorem MR.allocG{n:Nat}{D':Nat->Prop}(hn0:¬D n)(hD:∀i,D i->D' i)(hDn:D' n)(hm:MR C X E D mem w){l:dP}{o:Obj}{a:AB}(hl:l.b=w.heap.size)(hpos:0<l.n)(hw:w'.heap=w.heap.push o)(hos:FI w w')
  (hr:BR E D (OX X E mem) w l o a) :
  MR C X (fS E n l) D' ((n,a)::mem) w' /\
  (∀v x,VR E D (OX X E mem) w v x->VR (fS E n l) D' (OX X (fS E n l) ((n,a)::mem)) w' v x) /\
  (∀A:Nat->Prop,(∀i,A i->D i)->Ext A E mem w (fS E n l) D' ((n,a)::mem) w'):=by
 have hne:∀p∈mem,p.1≠n:=λp hp e=>hn0 (e ▸ hm.low p hp)
 have hρ:∀id,D id->fS E n l id=E id:=λid h=>CD _ _ _ (λe=>hn0 (e ▸ h))
 have hρm:∀p∈mem,fS E n l p.1=E p.1:=λp hp=>hρ _ (hm.low p hp)
 have hheap:∀b,b<w.heap.size->w'.heap[b]? = w.heap[b]? := λb hb=>by rw[hw,aAU];simp[Nat.ne_of_lt hb]
 have hnew:w'.heap[w.heap.size]? = some o:=by rw[hw];simp
 have hsize:w'.heap.size=w.heap.size+1:=by rw[hw];simp
 have hk:∀b,b<w.heap.size->¬OX X E mem b->¬OX X (fS E n l) ((n,a)::mem) b/\w'.heap[b]? = w.heap[b]? := by
  intro b hb ho;refine⟨?_,hheap b hb⟩;rintro(h|⟨p,hp,hn,e⟩)
  .exact ho (.inl h)
  .rcases Y6.1 hp with rfl|hp
   .rw[bZ] at e;omega
   .rw[hρm p hp] at e hn;exact ho (.inr ⟨p,hp,hn,e⟩)
 have hmono:∀v x,VR E D (OX X E mem) w v x->VR (fS E n l) D' (OX X (fS E n l) ((n,a)::mem)) w' v x:=
  λv x h=>h.mono hρ hD hk
 refine⟨⟨?_, ?_, ?_, ?_, ?_, ?_, ?_⟩,hmono,λB hB=>⟨λi hi=>hD i (hB i hi),λid h=>hρ id (hB id h),om,λb hb _=>hheap b hb, ?_,hos⟩⟩
 .intro p hp;rcases Y6.1 hp with rfl|hp
  .exact hDn
  .exact hD _ (hm.low p hp)
 .intro p hp hn;rcases Y6.1 hp with rfl|hp
  .rw[bZ,hl];exact⟨o,hnew,hr.mono hρ hD hk⟩
  .rw[hρm p hp] at hn |-;obtain⟨o,ho,hb⟩:=hm.blk p hp hn;have hlt:=oH hm (.inr ⟨p,hp,hn,rfl⟩);exact⟨o,by rw[hheap _ hlt];exact ho,hb.mono hρ hD hk⟩
 .intro p hp hn;rcases Y6.1 hp with rfl|hp
  .rw[bZ] at hn;omega
  .rw[hρm p hp] at hn |-;exact hm.emp p hp hn
 .intro p hp q hq hpn hqn e;rcases Y6.1 hp with rfl|hp<;>rcases Y6.1 hq with rfl|hq
  .rfl
  .rw[hρm q hq] at e hqn;rw[bZ] at e;have:=oH hm (.inr ⟨q,hq,hqn,rfl⟩);omega
  .rw[hρm p hp] at e hpn;rw[bZ] at e;have:=oH hm (.inr ⟨p,hp,hpn,rfl⟩);omega
  .rw[hρm p hp] at e hpn;rw[hρm q hq] at e hqn;exact hm.inj p hp q hq hpn hqn e
 .simp only[Z2,Zv];refine⟨λh=>?_,hm.nod⟩;obtain⟨p,hp,e⟩:=ZL.1 h;exact hne p hp e
 .intro b hb;obtain⟨h1,h2⟩:=hm.bar b hb;refine⟨om, ?_⟩;rintro⟨p,hp,hn,e⟩;rcases Y6.1 hp with rfl|hp
  .rw[bZ] at e;omega
  .rw[hρm p hp] at e hn;exact h2 ⟨p,hp,hn,e⟩
 .exact λp hp=>hmono _ _ (hm.glo p hp)
 .intro p hp hn;rcases Y6.1 hp with rfl|hp
  .rw[bZ,hl];exact .inr (Y8 _)
  .rw[hρm p hp] at hn |-;exact .inl ⟨p,hp,hn,rfl⟩
theorem MR.changeG(hm:MR C X E D mem w){id:Nat}{a a':AB}(hid:lk mem id=some a)(hn:0<(E id).n){o:Obj}
  (hw:w'.heap=w.heap.setIfInBounds (E id).b o) (hos:FI w w') (hr:BR E D (OX X E mem) w (E id) o a') :
  MR C X E D (up mem id a') w' /\
  (∀v x,VR E D (OX X E mem) w v x->VR E D (OX X E (up mem id a')) w' v x) /\
  (∀A:Nat->Prop,(∀i,A i->D i)->Ext A E mem w E D (up mem id a') w'):=by
 have hidm:=bL hid;have hlt:=oH hm (.inr ⟨_,hidm,hn,rfl⟩);have hheap:∀b,b≠(E id).b->w'.heap[b]? = w.heap[b]? := λb hb=>by rw[hw,aAh (Ne.symm hb)]
 have hnew:w'.heap[(E id).b]? = some o:=by rw[hw];simp[hlt]
 have hsz:w'.heap.size=w.heap.size:=by rw[hw];simp
 have hown:∀b,own E (up mem id a') b->own E mem b:=by
  rintro b ⟨p,hp,hpn,e⟩;rcases nG hid hm.nod hp with rfl|⟨h1,_⟩
  .exact⟨_,hidm,hpn,e⟩
  .exact⟨p,h1,hpn,e⟩
 have hOX:∀b,OX X E (up mem id a') b->OX X E mem b:=λb h=>h.imp (λx=>x) (hown b)
 have hk:∀b,b<w.heap.size->¬OX X E mem b->¬OX X E (up mem id a') b/\w'.heap[b]? = w.heap[b]? := by
  intro b hb ho;refine⟨λh=>ho (hOX b h),hheap b ?_⟩;rintro rfl;exact ho (.inr ⟨_,hidm,hn,rfl⟩)
 have hmono:∀v x,VR E D (OX X E mem) w v x->VR E D (OX X E (up mem id a')) w' v x:=λv x h=>h.mono (λ_ _=>rfl) (λ_ h=>h) hk
 refine⟨⟨?_, ?_, ?_, ?_, ?_, ?_, ?_⟩,hmono,λB hB=>⟨hB,λ_ _=>rfl,om,λb hb ho=>hheap b ?_, ?_,hos⟩⟩
 .intro p hp;rcases nG hid hm.nod hp with rfl|⟨h1,_⟩
  .exact(hm.low _ hidm :)
  .exact hm.low p h1
 .intro p hp hpn;rcases nG hid hm.nod hp with rfl|⟨h1,hne⟩
  .exact⟨_,hnew,hr.mono (λ_ _=>rfl) (λ_ h=>h) hk⟩
  .obtain⟨o,ho,hb⟩:=hm.blk p h1 hpn;refine⟨o, ?_,hb.mono (λ_ _=>rfl) (λ_ h=>h) hk⟩;rw[hheap _ (λe=>hne (hm.inj p h1 _ hidm hpn hn e))];exact ho
 .intro p hp hpn;rcases nG hid hm.nod hp with rfl|⟨h1,hne⟩
  .exact absurd hpn (Nat.ne_of_gt hn)
  .exact hm.emp p h1 hpn
 .intro p hp q hq hpn hqn e;have a:∀p∈up mem id a',∃p'∈mem,p'.1=p.1:=by
   intro p hp;rcases nG hid hm.nod hp with rfl|⟨h1,_⟩
   .exact⟨_,hidm,rfl⟩
   .exact⟨p,h1,rfl⟩
  obtain⟨p',hp',e1⟩:=a p hp;obtain⟨q',hq',e2⟩:=a q hq;rw[<-e1,<-e2] at e |-;rw[<-e1] at hpn;rw[<-e2] at hqn;exact hm.inj p' hp' q' hq' hpn hqn e
 .rw[Gf hid];exact hm.nod
 .intro b hb;obtain⟨h1,h2⟩:=hm.bar b hb;exact⟨om,λh=>h2 (hown b h)⟩
 .exact λp hp=>hmono _ _ (hm.glo p hp)
 .rintro rfl;exact ho ⟨_,hidm,hn,rfl⟩
 .intro p hp hpn;refine .inl ?_;rcases nG hid hm.nod hp with rfl|⟨h1,_⟩
  .exact⟨_,hidm,hpn,rfl⟩
  .exact⟨p,h1,hpn,rfl⟩
theorem u6(hm:MR C X E D mem w){id:Nat}{es:List (AV × AV)}(hid:lk mem id=some (.mapb es)):0<(E id).n:=by
 rcases ZC (E id).n with h|h
 .obtain⟨t,sz,e,_⟩:=hm.emp _ (bL hid) h;cases e
 .exact h
end
end Go.Ax
namespace Go.Ax
open Go
def JA(mem:aQ)(nx:Nat)(reserve:Option AV):Option (AV × aQ × Nat):=
 match reserve with
 | none=>some (.mp nx,(nx,.mapb [])::mem,nx+1)
 | some _=>none
def KR:Option TypeDesc->Bool
 | some (.int _)=>true
 | some .string=>true
 | some .bool=>true
 | _=>false
def L8(P:Program)(cs:List AV):List Field->Bool
 | []=>true
 | f::r=>!(f.name == "_") && (KR (P.underlying f.type) && ((sub none cs f.offset).isSome && L8 P cs r))
def HW(P:Program)(t:TypeId)(k:AV):Bool:=
 match P.underlying t with
 | some (.struct fs)=>match k with
  | .agg cs=>L8 P cs fs.toList
  | _=>false
 | d=>KR d
def A8(P:Program)(t:TypeId)(k e:AV):Option Bool:=
 match P.underlying t with
 | some (.struct _)=>match k,e with
  | .agg a,.agg b=>GF P t a b
  | _,_=>none
 | _=>IX P t k e
def mE(P:Program)(t:TypeId)(k:AV):List (AV × AV)->Nat->Option (Option (Nat × AV))
 | [],_=>some none
 | (a,v)::r,i=>match A8 P t k a with
  | some true=>some (some (i,v))
  | some false=>mE P t k r (i+1)
  | none=>none
def sX(P:Program)(mem:aQ)(t:TypeId)(m k:AV)(ok:Bool):Option AV:=
 match P.underlying t with
 | some (.map kt et)=>match HW P kt k with
  | true=>match m with
   | .nmap=>match nE P et with
    | some z=>match ok with
     | true=>some (.tup [z,.bool false])
     | false=>some z
    | none=>none
   | .mp id=>match lk mem id with
    | some (.mapb es)=>match mE P kt k es 0 with
     | some (some (_,v))=>match ok with
      | true=>some (.tup [v,.bool true])
      | false=>some v
     | some none=>match nE P et with
      | some z=>match ok with
       | true=>some (.tup [z,.bool false])
       | false=>some z
      | none=>none
     | none=>none
    | _=>none
   | _=>none
  | false=>none
 | _=>none
def MG:AV->AV->Bool
 | .int k a,.int k' b=>decide (k=k') && decide (a=b)
 | .str a,.str b=>decide (a=b)
 | .bool a,.bool b=>decide (a=b)
 | _,_=>false
def BA:List AV->List AV->Bool
 | [],[]=>true
 | a::r,b::t=>MG a b && BA r t
 | _,_=>false
def LH:AV->AV->Bool
 | .agg a,.agg b=>BA a b
 | a,b=>MG a b
def mV(P:Program)(mem:aQ)(t:TypeId)(m k v:AV):Option aQ:=
 match P.underlying t with
 | some (.map kt _)=>match HW P kt k with
  | true=>match m with
   | .mp id=>match lk mem id with
    | some (.mapb es)=>match mE P kt k es 0 with
     | some (some (i,_))=>match es[i]? with
      | some (k',_)=>match LH k' k with
       | true=>some (up mem id (.mapb (es.set i (k,v))))
       | false=>none
      | none=>none
     | some none=>some (up mem id (.mapb (es++[(k,v)])))
     | none=>none
    | _=>none
   | _=>none
  | false=>none
 | _=>none
section
variable {P:Program} {C:List (Nat × AV)} {X:Nat->Prop} {E:Nat->dP} {D D':Nat->Prop} {O:Nat->Prop} {mem:aQ} {w w':World}
theorem yD{r:Nat}{es:Array MapEntry}{c:Nat}(h:w.heap[r]? = some (.map es c)):(getObj r).run P w = .ok (.map es c) w:=by simp[getObj,Sem.run,h]
theorem DC{r:Nat}{es:Array MapEntry}{c:Nat}(o':Obj)(h:w.heap[r]? = some (.map es c)):(setObj r o').run P w = .ok () { w with heap:=w.heap.setIfInBounds r o' }:=by simp[setObj,Sem.run,h]
theorem Cz{n:Nat}(hn0:¬D n)(hD:∀i,D i->D' i)(hDn:D' n)(hm:MR C X E D mem w){t:TypeId}{v:AV}{mem':aQ}{N':Nat}(h:JA mem n none=some (v,mem',N')) :
  q5 P C X E D mem w ((Instr.makeMap t none).run P w) v mem' D':=by
 cases h;obtain⟨h1,h2,h3⟩:=hm.allocG hn0 hD hDn (l:=⟨w.heap.size,1,1⟩) (o:=.map #[] 0) (a:=.mapb []) (w':=w.alloc (.map #[] 0)) rfl Nat.one_pos rfl .go ⟨#[],0,rfl,rfl,sq,rfl,sq⟩;refine⟨.map (some w.heap.size),w.alloc (.map #[] 0),_,by simp[Instr.makeMap],h1, ?_,h2,h3⟩;have:=VR.mp (E:=fS E n ⟨w.heap.size,1,1⟩) (D:=D') (O:=OX X (fS E n ⟨w.heap.size,1,1⟩) ((n,.mapb [])::mem)) (w:=w.alloc (.map #[] 0)) n hDn;rw[bZ] at this;exact this
theorem qE{t:TypeId}(h:KR (P.underlying t)=true)(em:Bool)(d:Nat)(x:Value):(Instr.checkKey em (d+1) t x).run P w = .ok () w:=by
 unfold KR at h;split at h<;>first|(cases h;done)|skip
 all_goals
  rename_i hu;rw[Instr.checkKey,Sem.run_bind,run_underlying hu,Result.andThen_ok];rfl
theorem O1{t:TypeId}(h:KR (P.underlying t)=true):EO P t=some none:=by
 unfold KR at h;unfold EO;split at h<;>first|(cases h;done)|(rename_i hu;rw[hu])
theorem jL{t:TypeId}{k:AV}{x:Value}(h:HW P t k=true)(hx:VR E D O w k x)(em:Bool):(Instr.checkKey em 10000 t x).run P w = .ok () w:=by
 unfold HW at h;split at h
 .rename_i fs hu;split at h
  .rename_i cs;obtain⟨vs,rfl,hvs⟩:=hx.agg_inv;rw[Instr.checkKey,Sem.run_bind,run_underlying hu,Result.andThen_ok];simp only;rw[Sem.run_bind];have key:∀l:List Field,L8 P cs l=true->(forIn l PUnit.unit (λf _=>if f.name≠"_" then do Instr.checkKey em 9999 f.type (<-part f.type vs.toArray f.offset);pure (ForInStep.yield PUnit.unit) else pure (ForInStep.yield PUnit.unit)):Sem PUnit).run P w = .ok PUnit.unit w:=by
    intro l
    induction l with
    | nil=>intro _;simp
    | cons f r ih=>
     intro hl;simp only[L8,Y1] at hl;obtain⟨h1,h2,h3,h4⟩:=hl;obtain⟨v,hv⟩:=aBu.1 h3;obtain⟨z,p1,_⟩:=uX (w:=w) (O1 h2) hv hvs;have hn:f.name≠"_" :=su h1
     rw[List.forIn_cons,Y4 hn];simp only[Sem.run_bind,p1,Result.andThen_ok,qE h2 em 9998 z,Sem.run_pure];exact ih h4
   have:=key fs.toList h;rw[<-Array.forIn_toList];rw[this];rfl
  .cases h
 .exact qE h em 9999 x
theorem xF{t:TypeId}{k e:AV}{x y:Value}{r:Bool}(h:A8 P t k e=some r)(hx:VR E D O w k x)(hy:VR E D O w e y):(Op.equal t x y).run P w = .ok r w:=by
 unfold A8 at h;split at h
 .split at h
  .exact(yL h hx hy).1
  .cases h
 .exact yU h hx hy 9999
theorem Bf{t:TypeId}{d:TypeDesc}(hu:P.underlying t=some d){k e:AV}{x y:Value}{r:Bool}(h:A8 P t k e=some r)(hx:VR E D O w k x)(hy:VR E D O w e y) :
  Instr.sameNow d x y=some r\/(Instr.sameNow d x y=none):=by
 unfold A8 at h;rw[hu] at h;cases d with
 | int kk=>
  simp only[IX,hu] at h;split at h
  .split at h
   .rename_i hk;have hk:=Zh hk;subst hk;cases h;cases hx;cases hy;left;simp[Instr.sameNow]
   .cases h
  .cases h
 | string=>
  simp only[IX,hu] at h;split at h
  .cases h;cases hx;cases hy;left;simp only[Instr.sameNow];rw[beq_toListBytes,ByteArray.toList_eq,ByteArray.toList_eq]
  .cases h
 | bool=>
  simp only[IX,hu] at h;split at h
  .cases h;cases hx;cases hy;left;simp[Instr.sameNow]
  .cases h
 | _=>right;simp[Instr.sameNow]
def FR(E:Nat->dP)(D:Nat->Prop)(O:Nat->Prop)(w:World):Option (Nat × AV)->Option (Nat × Value)->Prop
 | none,none=>True
 | some (i,v),some (j,x)=>i=j/\VR E D O w v x
 | _,_=>False
def Ij(E:Nat->dP)(D:Nat->Prop)(O:Nat->Prop)(w:World)(es:List (AV × AV))(l:List MapEntry):Prop:=
 l.length=es.length/\∀(i:Nat) (e:AV × AV),es[i]? = some e->∃m,l[i]? = some m/\VR E D O w e.1 m.key/\VR E D O w e.2 m.val
theorem Ij.tail{e:AV × AV}{es:List (AV × AV)}{m:MapEntry}{l:List MapEntry}(h:Ij E D O w (e::es) (m::l)):VR E D O w e.1 m.key/\VR E D O w e.2 m.val/\Ij E D O w es l:=by
 obtain⟨h1,h2⟩:=h;obtain⟨m',e1,r1,r2⟩:=h2 0 e rfl;simp at e1;subst e1;exact⟨r1,r2,su h1,λi e' he=>by
  obtain⟨m',e1,r1,r2⟩:=h2 (i+1) e' (su he);exact⟨m',su e1,r1,r2⟩⟩
theorem xT{t:TypeId}{k:AV}{x:Value}(hx:VR E D O w k x):∀{es:List (AV × AV)} {l:List MapEntry} {i:Nat} {r:Option (Nat × AV)},Ij E D O w es l->mE P t k es i=some r ->
  ∃o,(Instr.findAsking t x l i).run P w = .ok o w/\FR E D O w r o
 | [],l,i,r,hl,h=>by
  cases h;have:l=[]:=ZB hl.1;subst this;exact⟨none,by simp[Instr.findAsking],trivial⟩
 | (a,v)::es,[],i,r,hl,h=>by have:=hl.1;simp at this
 | (a,v)::es,m::l,i,r,hl,h=>by
  obtain⟨r1,r2,r3⟩:=hl.tail;simp only[mE] at h;split at h
  .rename_i he;cases h;have e:=xF (P:=P) he hx r1;exact⟨some (i,m.val),by rw[Instr.findAsking,Sem.run_bind,e,Result.andThen_ok];simp,rfl,r2⟩
  .rename_i he;have e:=xF (P:=P) he hx r1;obtain⟨o,h1,h2⟩:=xT hx r3 h;exact⟨o,by rw[Instr.findAsking,Sem.run_bind,e,Result.andThen_ok];simpa using h1,h2⟩
  .cases h
theorem Co{t:TypeId}{d:TypeDesc}(hu:P.underlying t=some d){k:AV}{x:Value}(hx:VR E D O w k x):∀{es:List (AV × AV)} {l:List MapEntry} {i:Nat} {r:Option (Nat × AV)},Ij E D O w es l->mE P t k es i=some r ->
  Instr.findNow d x l i=none\/∃o,Instr.findNow d x l i=some o/\FR E D O w r o
 | [],l,i,r,hl,h=>by
  cases h;have:l=[]:=ZB hl.1;subst this;exact .inr ⟨none,by simp[Instr.findNow],trivial⟩
 | (a,v)::es,[],i,r,hl,h=>by have:=hl.1;simp at this
 | (a,v)::es,m::l,i,r,hl,h=>by
  obtain⟨r1,r2,r3⟩:=hl.tail;simp only[mE] at h;split at h
  .rename_i he;cases h;rcases Bf hu he hx r1 with e|e
   .exact .inr ⟨some (i,m.val),by simp[Instr.findNow,e],rfl,r2⟩
   .exact .inl (by simp[Instr.findNow,e])
  .rename_i he;rcases Bf hu he hx r1 with e|e
   .rcases Co hu hx r3 h with h1|⟨o,h1,h2⟩
    .exact .inl (by simp[Instr.findNow,e,h1])
    .exact .inr ⟨o,by simp[Instr.findNow,e,h1],h2⟩
   .exact .inl (by simp[Instr.findNow,e])
  .cases h
theorem mC{t:TypeId}{k:AV}{x:Value}(hkey:HW P t k=true)(hx:VR E D O w k x){es:List (AV × AV)}{l:List MapEntry}{r:Option (Nat × AV)}(hl:Ij E D O w es l)(h:mE P t k es 0=some r) :
  ∃o,(Instr.findKey t x l).run P w = .ok o w/\FR E D O w r o:=by
 obtain⟨d,hu⟩:∃d,P.underlying t=some d:=by
  unfold HW at hkey;split at hkey
  .rename_i hu;exact⟨_,hu⟩
  .unfold KR at hkey;split at hkey<;>first|(cases hkey;done)|exact⟨_,by assumption⟩
 rw[Instr.findKey,Sem.run_bind,run_underlying hu,Result.andThen_ok];rcases Co hu hx hl h with h1|⟨o,h1,h2⟩
 .rw[h1];exact xT hx hl h
 .rw[h1];exact⟨o,rfl,h2⟩
theorem x6{et:TypeId}{z:AV}(h:nE P et=some z):∃x,(zeroValue et).run P w = .ok x w/\VR E D O w z x:=by
 unfold nE at h;split at h
 .rename_i i hi;split at h
  .rename_i zv hz;exact⟨zv,by simp[zeroValue,typeInfo,hi,hz],lJ h⟩
  .cases h
 .cases h
theorem Ur{a b:AV}{x y:Value}(h1:VR E D O w a x)(h2:VR E D O w b y):VR E D O w (.tup [a,b]) (.tuple #[x,y]):=
 (j8.cons h1 (j8.cons h2 j8.nil)).tup
theorem xP(hm:MR C X E D mem w){t:TypeId}{m k v:AV}{ok:Bool}{x y:Value}(h:sX P mem t m k ok=some v)(hx:VR E D (OX X E mem) w m x)(hy:VR E D (OX X E mem) w k y) :
  ∃z,(Instr.lookup t x y ok).run P w = .ok z w/\VR E D (OX X E mem) w v z:=by
 unfold sX at h;split at h
 .rename_i kt et hu;split at h
  .rename_i hkey;split at h
   .cases hx;split at h
    .rename_i z hz;obtain⟨zv,q1,q2⟩:=x6 (P:=P) (E:=E) (D:=D) (O:=OX X E mem) (w:=w) hz;have hf:(Instr.findKey kt y []).run P w = .ok none w:=by
      obtain⟨o,f1,f2⟩:=mC (P:=P) (E:=E) (D:=D) (O:=OX X E mem) (w:=w) hkey hy (es:=[]) (l:=[]) (r:=none) ⟨rfl,sq⟩ rfl;cases o with
      | none=>exact f1
      | some o=>exact f2.elim
     split at h
     .cases h;exact⟨.tuple #[zv,.bool false],by simp[Instr.lookup,run_underlying hu,jL hkey hy,hf,q1],Ur q2 (.bool _)⟩
     .cases h;exact⟨zv,by simp[Instr.lookup,run_underlying hu,jL hkey hy,hf,q1],q2⟩
    .cases h
   .rename_i id;split at h
    .rename_i es hid;have hpos:=u6 hm hid;obtain⟨o,ho,arr,clk,rfl,a1,a2,a3⟩:=hm.blk _ (bL hid) hpos;cases hx;have hl:Ij E D (OX X E mem) w es arr.toList:=⟨su a1,λi e he=>by
      obtain⟨m,m1,m2,m3⟩:=a2 i e he;exact⟨m,su m1,m2,m3⟩⟩
     have hg:=yD (P:=P) ho;split at h
     .rename_i i u hf;obtain⟨o,f1,f2⟩:=mC (P:=P) hkey hy hl hf;cases o with
      | none=>exact f2.elim
      | some o=>
       obtain⟨j,ux⟩:=o;obtain⟨_,f2⟩:=f2;split at h
       .cases h;exact⟨.tuple #[ux,.bool true],by simp[Instr.lookup,run_underlying hu,hg,jL hkey hy,f1],Ur f2 (.bool _)⟩
       .cases h;exact⟨ux,by simp[Instr.lookup,run_underlying hu,hg,jL hkey hy,f1],f2⟩
     .rename_i hf;obtain⟨o,f1,f2⟩:=mC (P:=P) hkey hy hl hf;cases o with
      | some o=>exact f2.elim
      | none=>
       split at h
       .rename_i z hz;obtain⟨zv,q1,q2⟩:=x6 (P:=P) (E:=E) (D:=D) (O:=OX X E mem) (w:=w) hz;split at h
        .cases h;exact⟨.tuple #[zv,.bool false],by simp[Instr.lookup,run_underlying hu,hg,jL hkey hy,f1,q1],Ur q2 (.bool _)⟩
        .cases h;exact⟨zv,by simp[Instr.lookup,run_underlying hu,hg,jL hkey hy,f1,q1],q2⟩
       .cases h
     .cases h
    .cases h
   .cases h
  .cases h
 .cases h
theorem Dj{a b:AV}{x y:Value}(h:MG a b=true)(hx:VR E D O w a x)(hy:VR E D O w b y)(n:Nat):Instr.sameBits n x y=true:=by
 unfold MG at h;split at h
 .simp at h;obtain⟨rfl,rfl⟩:=h;cases hx;cases hy;simp[Instr.sameBits]
 .simp at h;subst h;cases hx;cases hy;simp only[Instr.sameBits];rw[beq_toListBytes];simp
 .simp at h;subst h;cases hx;cases hy;simp[Instr.sameBits]
 .cases h
theorem Bl(n:Nat):∀{as bs:List AV} {xs ys:List Value},BA as bs=true->j8 E D O w as xs->j8 E D O w bs ys->xs.length=ys.length/\(xs.zip ys).all (λp=>Instr.sameBits n p.1 p.2)=true
 | [],[],xs,ys,h,hx,hy=>by
  have e1:xs=[]:=ZB hx.1.symm;have e2:ys=[]:=ZB hy.1.symm;subst e1 e2;simp
 | a::as,b::bs,[],ys,h,hx,hy=>by have:=hx.1;simp at this
 | a::as,b::bs,x::xs,[],h,hx,hy=>by have:=hy.1;simp at this
 | a::as,b::bs,x::xs,y::ys,h,hx,hy=>by
  simp only[BA,Y1] at h;have h1:=Dj (E:=E) (D:=D) (O:=O) (w:=w) h.1 (hx.2 0 a x rfl rfl) (hy.2 0 b y rfl rfl) n;have hx':j8 E D O w as xs:=⟨by simpa using hx.1,λj c x h1 h2=>hx.2 (j+1) c x (su h1) (su h2)⟩
  have hy':j8 E D O w bs ys:=⟨by simpa using hy.1,λj c x h1 h2=>hy.2 (j+1) c x (su h1) (su h2)⟩
  obtain⟨i1,i2⟩:=Bl n h.2 hx' hy';exact⟨by simp[i1],by simp only[List.zip_cons_cons,List.all_cons,h1,i2,Bool.and_self]⟩
 | [],b::bs,xs,ys,h,hx,hy=>by simp[BA] at h
 | a::as,[],xs,ys,h,hx,hy=>by simp[BA] at h
theorem Jx{a b:AV}{x y:Value}(h:LH a b=true)(hx:VR E D O w a x)(hy:VR E D O w b y):Instr.sameBits 10000 x y=true:=by
 unfold LH at h;split at h
 .obtain⟨xs,rfl,hxs⟩:=hx.agg_inv;obtain⟨ys,rfl,hys⟩:=hy.agg_inv;obtain⟨h1,h2⟩:=Bl (E:=E) (D:=D) (O:=O) (w:=w) 9999 h hxs.1 hys.1;rw[Instr.sameBits];simp only[aB4,h1,BEq.rfl,aBb];exact h2
 .exact Dj h hx hy 10000
theorem rG(hm:MR C X E D mem w){t:TypeId}{m k v:AV}{x y z:Value}{mem':aQ}(h:mV P mem t m k v=some mem')(hx:VR E D (OX X E mem) w m x)(hy:VR E D (OX X E mem) w k y)(hz:VR E D (OX X E mem) w v z) :
  ∃w',(Instr.mapUpdate t x y z).run P w = .ok () w'/\MR C X E D mem' w'/\(∀u y,VR E D (OX X E mem) w u y->VR E D (OX X E mem') w' u y)/\∀A:Nat->Prop,(∀i,A i->D i)->Ext A E mem w E D mem' w':=by
 unfold mV at h;split at h
 .rename_i kt et hu;split at h
  .rename_i hkey;split at h
   .rename_i id;split at h
    .rename_i es hid;have hpos:=u6 hm hid;obtain⟨o,ho,arr,clk,rfl,a1,a2,a3⟩:=hm.blk _ (bL hid) hpos;cases hx;have hl:Ij E D (OX X E mem) w es arr.toList:=⟨su a1,λi e he=>by
      obtain⟨m,m1,m2,m3⟩:=a2 i e he;exact⟨m,su m1,m2,m3⟩⟩
     have hg:=yD (P:=P) ho;split at h
     .rename_i i u hf;split at h
      .rename_i k' u' hi;split at h
       .rename_i hsame;cases h;obtain⟨o,f1,f2⟩:=mC (P:=P) hkey hy hl hf;cases o with
        | none=>exact f2.elim
        | some o=>
         obtain⟨j,ux⟩:=o;obtain⟨rfl,f2⟩:=f2;obtain⟨me,m1,m2,m3⟩:=a2 i _ hi;have hb:Instr.sameBits 10000 me.key y=true:=Jx hsame m2 hy;have hks:(Instr.keyThatStays me.key y).run P w = .ok y w:=by simp[Instr.keyThatStays,hb]
         obtain⟨c1,c2,c3⟩:=hm.changeG (o:=.map (arr.modify i λe=>{ e with key:=y,val:=z }) clk) (a':=.mapb (es.set i (k,v))) (w':={ w with heap:=w.heap.setIfInBounds (E id).b (.map (arr.modify i λe=>{ e with key:=y,val:=z }) clk) }) hid hpos rfl .go
          ⟨_,_,rfl,su a1,λq e he=>by
           by_cases hqi:q=i
           .subst hqi;have:q<es.length:=by
             rcases ZG q es.length with h'|h'
             .exact h'
             .rw[ZH h'] at hi;cases hi
            rw[Zt this] at he;cases he;exact⟨{ me with key:=y,val:=z },by simp[aAu,m1],hy,hz⟩
           .rw[aBo (Ne.symm hqi)] at he;obtain⟨m,n1,n2,n3⟩:=a2 q e he;exact⟨m,by simp[aAu,Ne.symm hqi,n1],n2,n3⟩,by simpa using a3.1,λq m hq=>by
           rw[aAu] at hq;split at hq
           .cases h':arr[q]? with
            | none=>rw[h'] at hq;cases hq
            | some m'=>rw[h'] at hq;simp at hq;rw[<-hq];exact a3.2 q m' h'
           .exact a3.2 q m hq⟩
         refine⟨_, ?_,c1,c2,c3⟩;simp only[Instr.mapUpdate,Sem.run_bind,run_underlying hu,Result.andThen_ok,hg,jL hkey hy,f1,m1,aAq,aAt,hks];exact DC _ ho
       .cases h
      .cases h
     .rename_i hf;cases h;obtain⟨o,f1,f2⟩:=mC (P:=P) hkey hy hl hf;cases o with
      | some o=>exact f2.elim
      | none=>
       obtain⟨c1,c2,c3⟩:=hm.changeG (o:=.map (arr.push { key:=y,val:=z,born:=clk }) (clk+1)) (a':=.mapb (es++[(k,v)])) (w':={ w with heap:=w.heap.setIfInBounds (E id).b (.map (arr.push { key:=y,val:=z,born:=clk }) (clk+1)) }) hid hpos rfl .go
        ⟨_,_,rfl,su a1,λq e he=>by
         by_cases hq:q<es.length
         .rw[ZK hq] at he;obtain⟨m,n1,n2,n3⟩:=a2 q e he;exact⟨m,by rw[aAU,Yz om];exact n1,n2,n3⟩
         .rw[ZM om] at he;have:q-es.length=0:=by
           rcases ZC (q-es.length) with h'|h'
           .exact h'
           .rw[ZH (by simp;omega)] at he;cases he
          have hqe:q=arr.size:=om;rw[this] at he;simp at he;subst he;exact⟨{ key:=y,val:=z,born:=clk },by rw[aAU,Y4 hqe],hy,hz⟩,by simp[a3.1],λq m hq=>by
          rw[aAU] at hq;split at hq
          .rename_i hqe;cases hq;simp[a3.1,hqe]
          .exact a3.2 q m hq⟩
       refine⟨_, ?_,c1,c2,c3⟩;simp only[Instr.mapUpdate,Sem.run_bind,run_underlying hu,Result.andThen_ok,hg,jL hkey hy,f1];exact DC _ ho
     .cases h
    .cases h
   .cases h
  .cases h
 .cases h
end
end Go.Ax
namespace Go.Ax
open Go
def BP(P:Program)(mem:aQ)(nx:Nat)(t:TypeId)(x:AV):Option (AV × aQ × Nat):=
 match P.underlying t with
 | some (.map _ _)=>match x with
  | .mp id=>match lk mem id with
   | some (.mapb es)=>match es with
    | [_]=>some (.ptr nx 0 0,(nx,.iter1 id false)::mem,nx+1)
    | _=>none
   | _=>none
  | _=>none
 | _=>none
def LJ(mem:aQ)(x:AV):Option (AV × aQ):=
 match x with
 | .ptr id 0 0=>match lk mem id with
  | some (.iter1 mid fin)=>match lk mem mid with
   | some (.mapb es)=>match es with
    | [(k,v)]=>match fin with
     | false=>some (.tup [.bool true,k,v],up mem id (.iter1 mid true))
     | true=>some (.tup [.bool false],mem)
    | _=>none
   | _=>none
  | _=>none
 | _=>none
def G5(mem:aQ)(x:AV):Option AV:=
 match x with
 | .ptr id 0 0=>match lk mem id with
  | some (.iter1 mid fin)=>match lk mem mid with
   | some (.mapb es)=>match es with
    | [(k,v)]=>match fin with
     | true=>some (.tup [k,v])
     | false=>none
    | _=>none
   | _=>none
  | _=>none
 | _=>none
section
variable {P:Program} {C:List (Nat × AV)} {X:Nat->Prop} {E:Nat->dP} {D D':Nat->Prop} {O:Nat->Prop} {mem:aQ} {w w':World}
theorem zI{n:Nat}(hn0:¬D n)(hD:∀i,D i->D' i)(hDn:D' n)(hm:MR C X E D mem w){t:TypeId}{a:AV}{x:Value}{v:AV}{mem':aQ}{N':Nat}(h:BP P mem n t a=some (v,mem',N'))(hx:VR E D (OX X E mem) w a x) :
  q5 P C X E D mem w ((Instr.range t x).run P w) v mem' D'/\N'=n+1:=by
 unfold BP at h;split at h
 .rename_i kt et hu;split at h
  .rename_i id;split at h
   .rename_i es hid;split at h
    .rename_i e0;cases h;refine⟨?_,rfl⟩;have hpos:=u6 hm hid;obtain⟨o,ho,arr,clk,rfl,a1,a2,a3,a4⟩:=hm.blk _ (bL hid) hpos;cases hx;have hD0:=hm.low _ (bL hid);have hs:arr.size=1:=su a1
     rw[hs] at a3;subst a3;obtain⟨h1,h2,h3⟩:=hm.allocG hn0 hD hDn (l:=⟨w.heap.size,1,1⟩) (o:=.mapIter (some (E id).b) 1 #[] 1) (a:=.iter1 id false) (w':=w.alloc (.mapIter (some (E id).b) 1 #[] 1)) rfl Nat.one_pos rfl .go ⟨hD0,rfl⟩;refine⟨.pointer (some ⟨w.heap.size,0,none⟩),w.alloc (.mapIter (some (E id).b) 1 #[] 1),_,by simp[Instr.range,run_underlying hu,yD ho],h1, ?_,h2,h3⟩;have:=VR.ptr (E:=fS E n ⟨w.heap.size,1,1⟩) (D:=D') (O:=OX X (fS E n ⟨w.heap.size,1,1⟩) ((n,.iter1 id false)::mem)) (w:=w.alloc (.mapIter (some (E id).b) 1 #[] 1)) n 0 0 hDn;rw[bZ] at this;exact this
    .cases h
   .cases h
  .cases h
 .cases h
theorem JU(hm:MR C X E D mem w){id mid:Nat}{fin:Bool}(hid:lk mem id=some (.iter1 mid fin)):0<(E id).n:=by
 rcases ZC (E id).n with h|h
 .obtain⟨t,sz,e,_⟩:=hm.emp _ (bL hid) h;cases e
 .exact h
theorem GL{r m:Nat}{e:MapEntry}{ty:TypeId}(hr:w.heap[r]? = some (.mapIter (some m) 1 #[] 1))(hm:w.heap[m]? = some (.map #[e] 1))(hb:e.born=0) :
  (Instr.next (.pointer (some ⟨r,0,none⟩)) false ty).run P w = .ok (.tuple #[.bool true,e.key,e.val]) { w with heap:=w.heap.setIfInBounds r (.mapIter (some m) 1 #[0] 1) }:=by
 simp[Instr.next,getObj,setObj,choose,Sem.run,hr,hm,hb,Question.forced]
theorem GV{r m:Nat}{e:MapEntry}{ty:TypeId}(hr:w.heap[r]? = some (.mapIter (some m) 1 #[0] 1))(hm:w.heap[m]? = some (.map #[e] 1))(hb:e.born=0) :
  (Instr.next (.pointer (some ⟨r,0,none⟩)) false ty).run P w = .ok (.tuple #[.bool false]) w:=by
 simp[Instr.next,getObj,setObj,choose,Sem.run,hr,hm,hb,Question.forced]
theorem Hw(hm:MR C X E D mem w){a:AV}{x:Value}{v:AV}{mem':aQ}{ty:TypeId}(h:LJ mem a=some (v,mem'))(hx:VR E D (OX X E mem) w a x) :
  ∃y w',(Instr.next x false ty).run P w = .ok y w'/\MR C X E D mem' w'/\VR E D (OX X E mem') w' v y/\(∀u y,VR E D (OX X E mem) w u y->VR E D (OX X E mem') w' u y)/\∀A:Nat->Prop,(∀i,A i->D i)->Ext A E mem w E D mem' w':=by
 unfold LJ at h;split at h
 .rename_i id;split at h
  .rename_i mid fin hid;split at h
   .rename_i es hmid;split at h
    .rename_i k q;have hpos:=JU hm hid;have hposm:=u6 hm hmid;obtain⟨o,ho,hd,rfl⟩:=hm.blk _ (bL hid) hpos;obtain⟨o',ho',arr,clk,rfl,a1,a2,a3,a4⟩:=hm.blk _ (bL hmid) hposm;have hs:arr.size=1:=su a1
     rw[hs] at a3;subst a3;obtain⟨e,he⟩:∃e,arr = #[e]:=by
      obtain⟨l⟩:=arr
      match l,hs with
      | [e],_=>exact⟨e,rfl⟩
     subst he;have hb:e.born=0:=a4 0 e rfl;obtain⟨m,m1,r1,r2⟩:=a2 0 (k,q) rfl;have:m=e:=by simpa using m1.symm
     subst this;cases hx;rw[show 0*(E id).sz+0=0 by simp];split at h
     .cases h;obtain⟨c1,c2,c3⟩:=hm.changeG (o:=.mapIter (some (E mid).b) 1 #[0] 1) (a':=.iter1 mid true) (w':={ w with heap:=w.heap.setIfInBounds (E id).b (.mapIter (some (E mid).b) 1 #[0] 1) }) hid hpos rfl .go ⟨hd,rfl⟩;refine⟨_,_,GL ho ho' hb,c1, ?_,c2,c3⟩;exact .tup _ _ rfl λj c x h1 h2=>by
       match j,h1,h2 with
       | 0,h1,h2=>simp at h1 h2;subst h1 h2;exact .bool _
       | 1,h1,h2=>simp at h1 h2;subst h1 h2;exact c2 _ _ r1
       | 2,h1,h2=>simp at h1 h2;subst h1 h2;exact c2 _ _ r2
       | j+3,h1,h2=>simp at h1
     .cases h;refine⟨_,_,GV ho ho' hb,hm, ?_,λ_ _ h=>h,λA hA=>.refl hA⟩;exact .tup _ _ rfl λj c x h1 h2=>by
       match j,h1,h2 with
       | 0,h1,h2=>simp at h1 h2;subst h1 h2;exact .bool _
       | j+1,h1,h2=>simp at h1
    .cases h
   .cases h
  .cases h
 .cases h
theorem K5{r m:Nat}{e:MapEntry}(hr:w.heap[r]? = some (.mapIter (some m) 1 #[0] 1))(hm:w.heap[m]? = some (.map #[e] 1))(hb:e.born=0) :
  (Instr.entry (.pointer (some ⟨r,0,none⟩))).run P w = .ok (.tuple #[e.key,e.val]) w:=by
 simp[Instr.entry,getObj,Sem.run,hr,hm,hb]
theorem Gv(hm:MR C X E D mem w){a:AV}{x:Value}{v:AV}(h:G5 mem a=some v)(hx:VR E D (OX X E mem) w a x) :
  ∃y,(Instr.entry x).run P w = .ok y w/\VR E D (OX X E mem) w v y:=by
 unfold G5 at h;split at h
 .rename_i id;split at h
  .rename_i mid fin hid;split at h
   .rename_i es hmid;split at h
    .rename_i k q;have hpos:=JU hm hid;have hposm:=u6 hm hmid;obtain⟨o,ho,hd,rfl⟩:=hm.blk _ (bL hid) hpos;obtain⟨o',ho',arr,clk,rfl,a1,a2,a3,a4⟩:=hm.blk _ (bL hmid) hposm;have hs:arr.size=1:=su a1
     rw[hs] at a3;subst a3;obtain⟨e,he⟩:∃e,arr = #[e]:=by
      obtain⟨l⟩:=arr
      match l,hs with
      | [e],_=>exact⟨e,rfl⟩
     subst he;have hb:e.born=0:=a4 0 e rfl;obtain⟨m,m1,r1,r2⟩:=a2 0 (k,q) rfl;have:m=e:=by simpa using m1.symm
     subst this;cases hx;rw[show 0*(E id).sz+0=0 by simp];split at h
     .cases h;refine⟨_,K5 ho ho' hb, ?_⟩;exact .tup _ _ rfl λj c x h1 h2=>by
       match j,h1,h2 with
       | 0,h1,h2=>simp at h1 h2;subst h1 h2;exact r1
       | 1,h1,h2=>simp at h1 h2;subst h1 h2;exact r2
       | j+2,h1,h2=>simp at h1
     .cases h
    .cases h
   .cases h
  .cases h
 .cases h
end
end Go.Ax
namespace Go.Ax
open Go
section
variable {P:Program} {C:List (Nat × AV)} {X:Nat->Prop} {E:Nat->dP} {D:Nat->Prop} {mem:aQ} {w w':World}
theorem MR.lose(hm:MR C X E D mem w){id:Nat}{a:AB}(hid:lk mem id=some a)(hn:0<(E id).n)(hsz:w'.heap.size=w.heap.size)(hw:∀b,b≠(E id).b->w'.heap[b]? = w.heap[b]?)
  (hos:FI w w') :
  MR C X E D (drop id mem) w'/\(∀v x,VR E D (OX X E mem) w v x->VR E D (OX X E (drop id mem)) w' v x)/\(∀A:Nat->Prop,(∀i,A i->D i)->Ext A E mem w E D (drop id mem) w'):=by
 have hin:=bL hid;have hown:∀b,own E (drop id mem) b->own E mem b:=λb ⟨p,hp,hn,e⟩=>⟨p,dT hp,hn,e⟩
 have hk:∀b,b<w.heap.size->¬OX X E mem b->¬OX X E (drop id mem) b/\w'.heap[b]? = w.heap[b]? := λb _ ho=>
  ⟨λh=>ho (h.imp (λx=>x) (hown b)),hw b λe=>ho (.inr ⟨_,hin,hn,e.symm⟩)⟩
 have hmono:∀v x,VR E D (OX X E mem) w v x->VR E D (OX X E (drop id mem)) w' v x:=λv x h=>h.mono (λ_ _=>rfl) (λ_ h=>h) hk
 refine⟨⟨λp hp=>hm.low p (dT hp),λp hp hpn=>?_,λp hp hpn=>hm.emp p (dT hp) hpn,λp hp q hq=>hm.inj p (dT hp) q (dT hq),kS hm.nod,
  λb hb=>⟨by rw[hsz];exact(hm.bar b hb).1,λh=>(hm.bar b hb).2 (hown b h)⟩,λp hp=>hmono _ _ (hm.glo p hp)⟩,hmono,
  λB hB=>⟨hB,λ_ _=>rfl,om,λb hb ho=>hw b λe=>ho ⟨_,hin,hn,e.symm⟩,λp hp hpn=>.inl ⟨p,dT hp,hpn,rfl⟩,hos⟩⟩
 obtain⟨o,ho,hb⟩:=hm.blk p (dT hp) hpn;refine⟨o, ?_,hb.mono (λ_ _=>rfl) (λ_ h=>h) hk⟩;rw[hw _ λe=>sD hm.nod hp (hm.inj p (dT hp) _ hin hpn hn e)];exact ho
def sJ(a:AV):Option AV:=
 match a with
 | .nsl=>some .nptr
 | .sl id off (_+1)=>some (.ptr id off 0)
 | _=>none
theorem BO{O:Nat->Prop}{a v:AV}{x:Value}(h:sJ a=some v)(hx:VR E D O w a x)(ts:Array TypeId)(ty:TypeId) :
  ∃z,(Builtin.unsafeSliceData_ ts ty #[x]).run P w = .ok z w/\VR E D O w v z:=by
 unfold sJ at h;split at h
 .cases h;cases hx;exact⟨_,Lib.run_unsafeSliceData_nil w ts ty _ _,.nptr⟩
 .cases h;cases hx with
  | sl _ _ _ cap hid h1 h2=>
   exact⟨_,Lib.run_unsafeSliceData_row w ts ty _ _ _ om,VR.ptr _ _ 0 hid⟩
 .cases h
def wT:List AV->Option (List UInt8)
 | []=>some []
 | .int .u8 (.ofNat m)::r=>match Nat.ble m 255 with
  | true=>match wT r with
   | some l=>some (UInt8.ofNat m::l)
   | none=>none
  | false=>none
 | _=>none
theorem Bq:∀{xs:List AV} {l:List UInt8},wT xs=some l->∀(i:Nat) (b:UInt8),l[i]? = some b->xs[i]? = some (.int .u8 b.toNat)
 | [],l,h,i,b,hi=>by simp[wT] at h;subst h;simp at hi
 | a::xs,l,h,i,b,hi=>by
  unfold wT at h;split at h
  .rename_i e;cases e
  .rename_i m r e;cases e;split at h
   .rename_i hm;split at h
    .rename_i l' hl;cases h;cases i with
     | zero=>
      simp at hi;subst hi;have:m<256:=by have:=Y5 hm;omega
      simp[Zs this]
     | succ i=>exact Bq hl i b (su hi)
    .cases h
   .cases h
  .cases h
def Ai(P:Program)(mem:aQ)(pt:TypeId)(a n:AV):Option (AV × aQ):=
 match n with
 | .int .i64 (.ofNat 0)=>match a with
  | .nptr=>some (.str [],mem)
  | .ptr _ _ _=>some (.str [],mem)
  | _=>none
 | .int .i64 (.ofNat (k+1))=>match a with
  | .ptr id 0 0=>match lk mem id with
   | some (.row t sz xs)=>match P.underlying pt with
    | some (.pointer e)=>match Nat.beq e t && (Nat.beq sz 1 && (Nat.beq (P.cellsOf e) 1 && Nat.ble (k+1) 9223372036854775807)) with
     | true=>match wT (xs.take (k+1)) with
      | some l=>match Nat.beq l.length (k+1) with
       | true=>some (.str l,drop id mem)
       | false=>none
      | none=>none
     | false=>none
    | _=>none
   | _=>none
  | _=>none
 | _=>none
theorem CW(hm:MR C X E D mem w){pt it ty:TypeId}{a n v:AV}{x y:Value}{mem':aQ}(h:Ai P mem pt a n=some (v,mem'))(hx:VR E D (OX X E mem) w a x)(hy:VR E D (OX X E mem) w n y) :
  ∃z w',(Builtin.unsafeString_ #[pt,it] ty #[x,y]).run P w = .ok z w'/\MR C X E D mem' w'/\VR E D (OX X E mem') w' v z /\
   (∀u y,VR E D (OX X E mem) w u y->VR E D (OX X E mem') w' u y)/\∀A:Nat->Prop,(∀i,A i->D i)->Ext A E mem w E D mem' w':=by
 have e0:(ByteArray.empty:ByteArray)=⟨([]:List UInt8).toArray⟩:=rfl;unfold Ai at h;split at h
 .cases hy;split at h<;>first|(cases h;done)|skip
  .cases h;cases hx;exact⟨_,w,Lib.run_unsafeString_none w pt it ty none,hm,by rw[e0];exact .str [],λ_ _ h=>h,λA hA=>Ext.refl hA⟩
  .cases h;cases hx;exact⟨_,w,Lib.run_unsafeString_none w pt it ty (some _),hm,by rw[e0];exact .str [],λ_ _ h=>h,λA hA=>Ext.refl hA⟩
 .rename_i k;cases hy;split at h<;>first|(cases h;done)|skip
  rename_i id;split at h<;>first|(cases h;done)|skip
  rename_i t sz xs hid;split at h<;>first|(cases h;done)|skip
  rename_i e hp;split at h<;>first|(cases h;done)|skip
  rename_i hc;split at h<;>first|(cases h;done)|skip
  rename_i l hl;split at h<;>first|(cases h;done)|skip
  rename_i hlen;cases h;cases hx;simp only[Y1] at hc;obtain⟨c1,c2,c3,c4⟩:=hc;have c1:=Nat.eq_of_beq_eq_true c1;have c2:=Nat.eq_of_beq_eq_true c2;have c3:=Nat.eq_of_beq_eq_true c3;have c4:=Y5 c4;have hlen:=Nat.eq_of_beq_eq_true hlen;subst c1 c2;have hget:=Bq hl;have hin:=bL hid;have hn:0<(E id).n:=by
   rcases ZC (E id).n with h0|h0
   .obtain⟨t',sz',e1,_⟩:=hm.emp _ hin h0;cases e1;simp[wT] at hl;subst hl;simp at hlen
   .exact h0
  obtain⟨o,ho,hsz,arr,fr,rfl,hf,hs,hle,hrow⟩:=hm.blk _ hin hn;simp only at ho hsz hs hle hrow;rw[hsz] at hrow hle;have hcell:∀j b,l[j]? = some b->w.cell? ((⟨(E id).b,0,none⟩:Addr).add j)=some (.int .u8 b.toNat):=by
   intro j b hb;have h1:=hget j b hb;have hj:j<k+1:=by have:=(Y0.1 hb).1;omega
   rw[Za,Y4 hj] at h1;obtain⟨v,hv,_,hr⟩:=(hrow j _ h1).2 0 (.int .u8 b.toNat) rfl;cases hr;have ea:(⟨(E id).b,0,none⟩:Addr).add j=⟨(E id).b,j,none⟩:=by
    unfold Addr.add;split
    .rename_i h0;rw[h0]
    .simp
   rw[ea];simp only[World.cell?,ho];simpa using hv
  have hxl:l.length<=arr.size:=by
   have:l.length<=xs.length:=by
    have h1:=hget (l.length-1) l[l.length-1] sq;have:=(Y0.1 h1).1;simp at this;omega
   omega
  have hrun:=Lib.run_unsafeString_row (P:=P) w pt it ty _ hp c3 (E id).b arr.size (by simp[World.shape?,ho]) l (by intro h0;rw[h0] at hlen;simp at hlen) hxl om hcell;have hfz:(w.freeze ⟨(E id).b,0,none⟩ l.length).heap.size=w.heap.size/\(∀b,b≠(E id).b->(w.freeze ⟨(E id).b,0,none⟩ l.length).heap[b]? = w.heap[b]?) /\
    FI w (w.freeze ⟨(E id).b,0,none⟩ l.length):=by
   unfold World.freeze;split
   .exact⟨rfl,λ_ _=>rfl,.go⟩
   .refine⟨sq,λb hb=>?_,.go⟩;simp only[aAu];rw[Yz λe=>hb e.symm]
  obtain⟨m1,m2,m3⟩:=hm.lose hid hn hfz.1 hfz.2.1 hfz.2.2;refine⟨_,_, ?_,m1,.str l,m2,m3⟩;have ek:(Int.ofNat (k+1))=(l.length:Int):=by rw[hlen];rfl
  rw[ek,show 0*(E id).sz+0=0 by simp];exact hrun
 .cases h
end
end Go.Ax
namespace Go.Ax
open Go
def CR(fn:Func):Bool:=fn.name == "internal/abi.NoEscape" && (Extern.findNext fn).isNone
theorem Fj:Extern.allGenericRows.lookup "internal/abi.NoEscape" = none/\Extern.allTypedRows.lookup "internal/abi.NoEscape" = none:=⟨by kernel_rfl,by kernel_rfl⟩
theorem KH:Extern.allRows.lookup "internal/abi.NoEscape" = some Extern.AbiNoEscape.same:=by kernel_rfl
theorem NB{P:Program}{w:World}{F:FuncId}{fn:Func}(hf:P.funcs[F]? = some fn)(hb:fn.body=none)(hn:CR fn=true)(x:Value):(callFunc F #[x]).run P w = .ok (.value x) w:=by
 unfold CR at hn;simp only[Y1,beq_iff_eq] at hn;obtain⟨h1,h2⟩:=hn;have h3:Extern.findNext fn=none:=su h2
 have h4:Extern.find fn=some Extern.AbiNoEscape.same:=by
  simp[Extern.find,h1,Fj.1,Fj.2,KH]
 rw[run_callFunc_extern hf (by rw[h1];decide) (by rw[hb];rfl) h3 h4];rfl
end Go.Ax
