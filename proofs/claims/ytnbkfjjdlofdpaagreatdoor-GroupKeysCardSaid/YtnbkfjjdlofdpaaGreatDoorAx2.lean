/- A part of the proof. -/
import Derived.Test.YtnbkfjjdlofdpaaGreatDoorAx1
import Derived.WalkKit
import Derived.WalkSpells
import Derived.WalkLawsBesides
import Derived.Lib.Strings
import Derived.Laws.StructEq
import Derived.MapKept
set_option linter.unusedVariables false
set_option linter.unusedSimpArgs false
set_option linter.unusedSectionVars false
namespace Go.Ax
open Go
theorem om{p:Prop}(h:p:=by omega):p:=h
abbrev I9:=@List.getElem?_eq_getElem
abbrev JA:=@List.mem_cons
abbrev JB:=@Nat.le_of_ble_eq_true
abbrev JC:=@List.getElem?_eq_some_iff
abbrev JD:=@Nat.ble_eq_true_of_le
abbrev JE:=@Bool.and_eq_true
abbrev JF:=@List.eq_nil_of_length_eq_zero
abbrev JG:=@Nat.le_refl
abbrev JH:=@List.getElem?_eq_none
abbrev JI:=@List.mem_append
abbrev JJ:=@if_neg
abbrev JK:=@Nat.lt_or_ge
abbrev JL:=@if_pos
abbrev JM:=@List.mem_map
abbrev JN:=@List.mem_append_left
abbrev JO:=@List.mem_cons_of_mem
abbrev JP:=@Nat.mul_le_mul_right
abbrev JQ:=@List.getElem_mem
abbrev JR:=@List.take_succ_eq_append_getElem
abbrev JS:=@List.mem_filter
abbrev JT:=@Nat.eq_zero_or_pos
abbrev JU:=@List.nodup_cons
abbrev JV:=@of_decide_eq_true
abbrev JW:=@List.mem_cons_self
abbrev JX:=@decide_eq_true
abbrev JY:=@List.getElem?_append
abbrev JZ:=@decide_eq_false
abbrev Ja:=@List.getElem?_map
abbrev Jb:=@List.getElem?_take
abbrev Jc:=@List.getElem?_drop
abbrev Jd:=@Nat.zero_add
abbrev Je:=@List.mem_of_getElem?
abbrev Jf:=@List.mem_append_right
abbrev Jg:=@List.map_cons
abbrev Jh:=@Nat.le_trans
abbrev Ji:=@List.getElem?_append_left
abbrev Jj:=@Array.getElem?_eq_getElem
abbrev Jk:=@Nat.ne_of_beq_eq_false
abbrev Jl:=@Array.getD_eq_getD_getElem?
abbrev Jm:=@Array.eq_empty_of_size_eq_zero
abbrev Jn:=@decide_eq_decide
abbrev Jo:=@List.getElem?_append_right
abbrev Jp:=@List.pairwise_iff_getElem
abbrev Jq:=@List.map_append
abbrev Jr:=@List.take_length
abbrev Js:=@List.mem_of_mem_take
abbrev Jt:=@Array.getElem?_setIfInBounds_ne
abbrev Ju:=@Array.getElem?_modify
abbrev Jv:=@Option.map_some
abbrev Jw:=@List.getD_eq_getElem?_getD
abbrev Jx:=@Int.toNat_natCast
abbrev Jy:=@Option.map_eq_some_iff
abbrev Jz:=@List.length_append
abbrev J0:=@List.length_take
abbrev J1:=@List.getElem?_toArray
abbrev J2:=@List.nodup_append
abbrev J3:=@Array.getElem?_eq_some_iff
abbrev J4:=@List.getElem?_of_mem
abbrev J5:=@List.pairwise_append
abbrev J6:=@Bool.false_eq_true
abbrev J7:=@Array.getElem?_push
abbrev J8:=@of_decide_eq_false
abbrev J9:=@Nat.lt_succ_self
abbrev KA:=@List.not_mem_nil
abbrev KB:=@Nat.add_zero
abbrev KC:=@List.getElem?_set
abbrev KD:=@List.nil_append
abbrev KE:=@List.take_of_length_le
abbrev KF:=@Nat.one_mul
abbrev KG:=@Nat.lt_irrefl
abbrev KH:=@List.length_cons
abbrev KI:=@Bool.and_eq_false_iff
abbrev KJ:=@Array.mem_iff_getElem
abbrev KK:=@List.append_assoc
abbrev KL:=@List.reverse_reverse
abbrev KM:=@List.getElem_of_mem
abbrev KN:=@List.mem_range
abbrev KO:=@List.cons_append
abbrev KP:=@List.pairwise_singleton
abbrev KQ:=@List.take_append_of_le_length
abbrev KR:=@Array.getElem?_eq_none
abbrev KS:=@Array.ext_getElem?
abbrev KT:=@List.append_of_mem
abbrev KU:=@Int.lt_or_eq_of_le
abbrev KV:=@List.foldl_cons
abbrev KW:=@Bool.or_eq_true
abbrev KX:=@List.length_nil
abbrev KY:=@Array.getElem?_setIfInBounds
abbrev KZ:=@List.append_nil
abbrev Ka:=@List.take_append_drop
abbrev Kb:=@List.reverse_cons
abbrev Kc:=@Array.toArray_toList
abbrev Ke:=@Nat.zero_le
abbrev Kf:=@Array.getElem?_append_left
abbrev Kg:=@Nat.mod_eq_of_lt
abbrev Kh:=@Option.getD_some
abbrev Ki:=@Array.mem_append
abbrev Kj:=@List.getElem_map
abbrev Kk:=@List.mem_reverse
abbrev Kl:=@Option.isSome_iff_exists
abbrev Km:=@List.length_set
abbrev Kn:=@Array.ext'
abbrev Ko:=@List.mem_singleton
abbrev Kq:=@Nat.le_succ
abbrev Kr:=@Nat.mul_comm
abbrev Ks:=@List.drop_of_length_le
abbrev Kt:=@List.length_replicate
abbrev Ku:=@Array.getElem?_append
abbrev Kv:=@Nat.mod_lt
abbrev Kw:=@List.all_eq_true
abbrev Kx:=@List.filter_cons
abbrev Kz:=@Array.mem_toList_iff
abbrev K0:=@List.filterMap_cons
abbrev K2:=@List.mem_map_of_mem
abbrev K3:=@List.length_reverse
abbrev K4:=@Array.getElem?_map
abbrev K5:=@List.pairwise_cons
abbrev K6:=@Int.tdiv_eq_ediv_of_nonneg
abbrev K7:=@List.drop_drop
abbrev K8:=@List.mem_or_eq_of_mem_set
abbrev K9:=@decide_eq_true_eq
abbrev LA:=@Nat.mul_pos
abbrev LB:=@List.size_toArray
abbrev LC:=@Nat.lt_trichotomy
abbrev LD:=@List.ext_getElem?
abbrev LE:=@List.zipIdx_cons
abbrev LF:=@List.drop_zero
abbrev LG:=@Nat.mul_le_mul
abbrev LH:=@List.nodup_nil
inductive AV where
 | bool (b:Bool)
 | int (k:IntKind) (n:Int)
 | str (s:List UInt8)
 | nptr|nsl|nmap|nfn|nif
 | ptr (id i j:Nat)
 | sl (id off len:Nat)
 | mp (id:Nat)
 | ip (v:AV)
 | il (sz:Nat) (xs:List AV)
 | fn (f:Fn) (first cap:List AV)
 | ifc (t:TypeId) (v:AV)
 | agg (cs:List AV)
 | tup (vs:List AV)
 | junk
 | yld (id:Nat)
def AV.cells:AV->List AV
 | .agg cs=>cs
 | v=>[v]
structure a6 where
 b:Nat
 n:Nat
 sz:Nat
inductive VR (ρ:Nat->a6) (D:Nat->Prop) (O:Nat->Prop) (w:World):AV->Value->Prop
 | bool (b:Bool):VR ρ D O w (.bool b) (.bool b)
 | int (k:IntKind) (n:Int):VR ρ D O w (.int k n) (.int k n)
 | str (s:List UInt8):VR ρ D O w (.str s) (.string ⟨s.toArray⟩)
 | nptr:VR ρ D O w .nptr (.pointer none)
 | nsl:VR ρ D O w .nsl (.slice none 0 0)
 | nmap:VR ρ D O w .nmap (.map none)
 | nfn:VR ρ D O w .nfn .nilFunc
 | nif:VR ρ D O w .nif .nilIface
 | ptr (id i j:Nat):D id->VR ρ D O w (.ptr id i j) (.pointer (some ⟨(ρ id).b,i*(ρ id).sz+j,none⟩))
 | sl (id off len cap:Nat):D id->len<=cap->(off+cap)*(ρ id).sz<=(ρ id).n ->
   VR ρ D O w (.sl id off len) (.slice (some ⟨(ρ id).b,off*(ρ id).sz,none⟩) len cap)
 | slz (id off b o:Nat):D id->VR ρ D O w (.sl id off 0) (.slice (some ⟨b,o,none⟩) 0 0)
 | slzn (id off:Nat):D id->VR ρ D O w (.sl id off 0) (.slice none 0 0)
 | mp (id:Nat):D id->VR ρ D O w (.mp id) (.map (some (ρ id).b))
 | ip (v:AV) (b off:Nat) (f:Nat->Value) :
   (∀(j:Nat) (c:AV),v.cells[j]? = some c->¬O b/\w.cell? ⟨b,off+j,none⟩=some (f j)/\(f j).oneCell'=true) ->
   (∀(j:Nat) (c:AV),v.cells[j]? = some c->VR ρ D O w c (f j))->VR ρ D O w (.ip v) (.pointer (some ⟨b,off,none⟩))
 | il (sz:Nat) (xs:List AV) (b off cap:Nat) (f:Nat->Nat->Value):xs.length<=cap ->
   (∀(i:Nat) (x:AV),xs[i]? = some x->x.cells.length=sz) ->
   (∀(i:Nat) (x:AV) (j:Nat) (c:AV),xs[i]? = some x->x.cells[j]? = some c->¬O b/\w.cell? ⟨b,off+(i*sz+j),none⟩=some (f i j)/\(f i j).oneCell'=true) ->
   (∀(i:Nat) (x:AV) (j:Nat) (c:AV),xs[i]? = some x->x.cells[j]? = some c->VR ρ D O w c (f i j)) ->
   VR ρ D O w (.il sz xs) (.slice (some ⟨b,off,none⟩) xs.length cap)
 | iln (sz:Nat):VR ρ D O w (.il sz []) (.slice none 0 0)
 | fn (f:Fn) (first cap:List AV) (a1 a2:Array Value):first.length=a1.size->cap.length=a2.size ->
   (∀(j:Nat) (c:AV) (x:Value),first[j]? = some c->a1[j]? = some x->VR ρ D O w c x) ->
   (∀(j:Nat) (c:AV) (x:Value),cap[j]? = some c->a2[j]? = some x->VR ρ D O w c x)->VR ρ D O w (.fn f first cap) (.func f a1 a2)
 | ifc (t:TypeId) (v:AV) (x:Value):VR ρ D O w v x->VR ρ D O w (.ifc t v) (.iface t x)
 | agg (cs:List AV) (arr:Array Value):cs.length=arr.size->(∀x∈arr,x.oneCell'=true) ->
   (∀(j:Nat) (c:AV) (x:Value),cs[j]? = some c->arr[j]? = some x->VR ρ D O w c x)->VR ρ D O w (.agg cs) (.agg arr)
 | tup (cs:List AV) (arr:Array Value):cs.length=arr.size ->
   (∀(j:Nat) (c:AV) (x:Value),cs[j]? = some c->arr[j]? = some x->VR ρ D O w c x)->VR ρ D O w (.tup cs) (.tuple arr)
 | junk (x:Value):VR ρ D O w .junk x
 | yld (id:Nat):D id->VR ρ D O w (.yld id) (.func (.yield (ρ id).b) #[] #[])
theorem kV{w:World}{b off:Nat}{v:Value}(h:w.cell? ⟨b,off,none⟩=some v):b<w.heap.size:=by
 unfold World.cell? at h;rcases JK b w.heap.size with hb|hb
 ·exact hb
 ·simp[KR hb] at h
theorem oS{w w':World}{b off:Nat}(h:w'.heap[b]? = w.heap[b]?):w'.cell? ⟨b,off,none⟩=w.cell? ⟨b,off,none⟩:=by
 simp[World.cell?,h]
theorem VR.mono{ρ ρ':Nat->a6}{D D':Nat->Prop}{O O':Nat->Prop}{w w':World}{v:AV}{x:Value}(h:VR ρ D O w v x)
  (hρ:∀id,D id->ρ' id=ρ id) (hN:∀id,D id->D' id)
  (hk:∀b,b<w.heap.size->¬O b->¬O' b/\w'.heap[b]? = w.heap[b]?):VR ρ' D' O' w' v x:=by
 induction h with
 | bool=>exact .bool _
 | int=>exact .int _ _
 | str=>exact .str _
 | nptr=>exact .nptr
 | nsl=>exact .nsl
 | nmap=>exact .nmap
 | nfn=>exact .nfn
 | nif=>exact .nif
 | ptr id i j hid=>rw[←hρ id hid];exact .ptr id i j (hN id hid)
 | sl id off len cap hid h1 h2=>rw[←hρ id hid] at h2 ⊢;exact .sl id off len cap (hN id hid) h1 h2
 | slz id off b o hid=>exact .slz id off b o (hN id hid)
 | slzn id off hid=>exact .slzn id off (hN id hid)
 | mp id hid=>rw[←hρ id hid];exact .mp id (hN id hid)
 | ip v b off f h1 _ ih=>
  refine .ip v b off f (fun j c hj=>?_) ih;obtain⟨ho,hc,hone⟩:=h1 j c hj;obtain⟨ho',hb⟩:=hk b (kV hc) ho;exact⟨ho',by rw[oS hb,hc],hone⟩
 | il sz xs b off cap f hl hs h1 _ ih=>
  refine .il sz xs b off cap f hl hs (fun i x j c hi hj=>?_) ih;obtain⟨ho,hc,hone⟩:=h1 i x j c hi hj;obtain⟨ho',hb⟩:=hk b (kV hc) ho;exact⟨ho',by rw[oS hb,hc],hone⟩
 | iln=>exact .iln _
 | fn f first cap a1 a2 l1 l2 _ _ ih1 ih2=>exact .fn f first cap a1 a2 l1 l2 ih1 ih2
 | ifc t v x _ ih=>exact .ifc t v x ih
 | agg cs arr hl ho _ ih=>exact .agg cs arr hl ho ih
 | tup cs arr hl _ ih=>exact .tup cs arr hl ih
 | junk x=>exact .junk x
 | yld id hid=>rw[←hρ id hid];exact .yld id (hN id hid)
def dO(ρ:Nat->a6)(D:Nat->Prop)(O:Nat->Prop)(w:World)(cs:List AV)(vs:List Value):Prop:=
 cs.length=vs.length/\∀(j:Nat) (c:AV) (x:Value),cs[j]? = some c->vs[j]? = some x->VR ρ D O w c x
theorem dO.nil{ρ:Nat->a6}{D:Nat->Prop}{O:Nat->Prop}{w:World}:dO ρ D O w [] []:=⟨rfl,by simp⟩
theorem dO.cons{ρ:Nat->a6}{D:Nat->Prop}{O:Nat->Prop}{w:World}{c:AV}{cs:List AV}{x:Value}{xs:List Value}
  (h:VR ρ D O w c x) (hs:dO ρ D O w cs xs):dO ρ D O w (c::cs) (x::xs):=by
 refine⟨by simp[hs.1],fun j c' x' h1 h2=>?_⟩;cases j with
 | zero=>simp at h1 h2;subst h1 h2;exact h
 | succ j=>simp at h1 h2;exact hs.2 j c' x' h1 h2
theorem dO.append{ρ:Nat->a6}{D:Nat->Prop}{O:Nat->Prop}{w:World}{cs cs':List AV}{xs xs':List Value}
  (h:dO ρ D O w cs xs) (h':dO ρ D O w cs' xs'):dO ρ D O w (cs++cs') (xs++xs'):=by
 refine⟨by simp[h.1,h'.1],fun j c x h1 h2=>?_⟩;rw[JY] at h1 h2;rw[←h.1] at h2;by_cases hj:j<cs.length
 ·rw[JL hj] at h1 h2;exact h.2 j c x h1 h2
 ·rw[JJ hj] at h1 h2;exact h'.2 _ c x h1 h2
theorem dO.mono{ρ ρ':Nat->a6}{D D':Nat->Prop}{O O':Nat->Prop}{w w':World}{cs:List AV}{xs:List Value}(h:dO ρ D O w cs xs)
  (hρ:∀id,D id->ρ' id=ρ id) (hN:∀id,D id->D' id)
  (hk:∀b,b<w.heap.size->¬O b->¬O' b/\w'.heap[b]? = w.heap[b]?):dO ρ' D' O' w' cs xs:=
 ⟨h.1,fun j c x h1 h2=>(h.2 j c x h1 h2).mono hρ hN hk⟩
def zZ(ρ:Nat->a6)(D:Nat->Prop)(O:Nat->Prop)(w:World)(cs:List AV)(vs:List Value):Prop:=
 dO ρ D O w cs vs/\∀x∈vs,x.oneCell'=true
def lk{α:Type}:List (Nat × α)->Nat->Option α
 | [],_=>none
 | (i,v)::r,j=>match Nat.beq i j with
  | true=>some v
  | false=>lk r j
def up{α:Type}:List (Nat × α)->Nat->α->List (Nat × α)
 | [],j,v=>[(j,v)]
 | (i,u)::r,j,v=>match Nat.beq i j with
  | true=>(i,v)::r
  | false=>(i,u)::up r j v
inductive AB where
 | row (t:TypeId) (sz:Nat) (xs:List AV)
 | mapb (es:List (AV × AV))
 | loop (sl:List (Nat × AV)) (nt:Nat) (ps:Array Tmp) (ca cb:Code) (st:LoopState) (pd:Option Code)
 | iter (mid n:Nat) (bK:List Nat)
def BR(ρ:Nat->a6)(D:Nat->Prop)(O:Nat->Prop)(w:World)(l:a6)(o:Obj):AB->Prop
 | .row t sz xs=>l.sz=sz/\∃arr fr,o = .cells arr t fr/\(∀j,j<arr.size->¬(fr.1<=j/\j<fr.2))/\arr.size=l.n/\xs.length*l.sz<=l.n /\
   ∀(i:Nat) (x:AV),xs[i]? = some x->x.cells.length=l.sz /\
    ∀(j:Nat) (c:AV),x.cells[j]? = some c->∃v,arr[i*l.sz+j]? = some v/\v.oneCell'=true/\VR ρ D O w c v
 | .mapb es=>∃arr clk,o = .map arr clk/\arr.size=es.length/\(∀(i:Nat) (e:AV × AV),es[i]? = some e->∃m,arr[i]? = some m/\VR ρ D O w e.1 m.key/\VR ρ D O w e.2 m.val)/\clk=arr.size/\∀(i:Nat) (m:MapEntry),arr[i]? = some m->m.born=i
 | .loop sl nt ps ca cb st pd=>∃(arr:Array Value) (fn:FuncId) (df:Nat),o = .loop { state:=st,pending:=pd,fn:=fn,tmps:=arr,params:=ps,assign:=ca,body:=cb,defers:=df }/\arr.size=nt /\
   ∀(i:Nat) (v:AV),lk sl i=some v->VR ρ D O w v (arr.getD i undef)
 | .iter mid n bK=>D mid/\o = .mapIter (some (ρ mid).b) n bK.reverse.toArray n
theorem BR.mono{ρ ρ':Nat->a6}{D D':Nat->Prop}{O O':Nat->Prop}{w w':World}{l:a6}{o:Obj}{a:AB}(h:BR ρ D O w l o a)
  (hρ:∀id,D id->ρ' id=ρ id) (hN:∀id,D id->D' id)
  (hk:∀b,b<w.heap.size->¬O b->¬O' b/\w'.heap[b]? = w.heap[b]?):BR ρ' D' O' w' l o a:=by
 cases a with
 | row t sz xs=>
  obtain⟨h0,arr,fr,h1,hf,h2,h3,h4⟩:=h;refine⟨h0,arr,fr,h1,hf,h2,h3,fun i x hi=>⟨(h4 i x hi).1,fun j c hj=>?_⟩⟩;obtain⟨v,hv,ho,hr⟩:=(h4 i x hi).2 j c hj;exact⟨v,hv,ho,hr.mono hρ hN hk⟩
 | mapb es=>
  obtain⟨arr,clk,h1,h2,h3,hc⟩:=h;refine⟨arr,clk,h1,h2,fun i e he=>?_,hc⟩;obtain⟨m,hm,hr1,hr2⟩:=h3 i e he;exact⟨m,hm,hr1.mono hρ hN hk,hr2.mono hρ hN hk⟩
 | loop sl nt ps ca cb st pd=>
  obtain⟨arr,fn,df,h1,h2,h3⟩:=h;exact⟨arr,fn,df,h1,h2,fun i v hi=>(h3 i v hi).mono hρ hN hk⟩
 | iter mid n bK=>
  obtain⟨h1,h2⟩:=h;exact⟨hN mid h1,by rw[hρ mid h1];exact h2⟩
abbrev aA:=List (Nat × AB)
def own(ρ:Nat->a6)(mem:aA)(b:Nat):Prop:=∃p∈mem,0<(ρ p.1).n/\(ρ p.1).b=b
def OX(X:Nat->Prop)(ρ:Nat->a6)(mem:aA)(b:Nat):Prop:=X b∨own ρ mem b
structure MR(Γ:List (Nat × AV))(X:Nat->Prop)(ρ:Nat->a6)(D:Nat->Prop)(mem:aA)(w:World):Prop where
 low:∀p∈mem,D p.1
 blk:∀p∈mem,0<(ρ p.1).n->∃o,w.heap[(ρ p.1).b]? = some o/\BR ρ D (OX X ρ mem) w (ρ p.1) o p.2
 emp:∀p∈mem,(ρ p.1).n=0->∃t sz,p.2 = .row t sz []/\(ρ p.1).sz=sz
 inj:∀p∈mem,∀q∈mem,0<(ρ p.1).n->0<(ρ q.1).n->(ρ p.1).b=(ρ q.1).b->p.1=q.1
 nod:(mem.map (·.1)).Nodup
 bar:∀b,X b->b<w.heap.size/\¬own ρ mem b
 glo:∀p∈Γ,VR ρ D (OX X ρ mem) w (.ip p.2) (.pointer (some ⟨p.1,0,none⟩))
structure tF(w w':World):Prop where
 os:w'.os=w.os
 output:w'.output=w.output
 tape:w'.tape=w.tape
 drawn:w.drawn<=w'.drawn
theorem tF.refl(w:World):tF w w:=⟨rfl,rfl,rfl,JG _⟩
theorem tF.trans{w w' w'':World}(h:tF w w')(h':tF w' w''):tF w w'':=⟨h'.os.trans h.os,h'.output.trans h.output,h'.tape.trans h.tape,Jh h.drawn h'.drawn⟩
theorem tF.go{w w':World}(h:tF w w':=by exact⟨rfl,rfl,rfl,by first|exact JG _|exact Kq _|exact Nat.le_add_right _ _⟩):tF w w':=h
structure Ext(A:Nat->Prop)(ρ:Nat->a6)(mem:aA)(w:World)(ρ':Nat->a6)(D':Nat->Prop)(mem':aA)(w':World):Prop where
 le:∀id,A id->D' id
 agree:∀id,A id->ρ' id=ρ id
 size:w.heap.size<=w'.heap.size
 keep:∀b,b<w.heap.size->¬own ρ mem b->w'.heap[b]? = w.heap[b]?
 fresh:∀p∈mem',0<(ρ' p.1).n->own ρ mem (ρ' p.1).b∨w.heap.size<=(ρ' p.1).b
 env:tF w w'
theorem Ext.refl{A:Nat->Prop}{D:Nat->Prop}{ρ:Nat->a6}{mem:aA}{w:World}(h:∀id,A id->D id):Ext A ρ mem w ρ D mem w:=
 ⟨h,fun _ _=>rfl,JG _,fun _ _ _=>rfl,fun p hp hn=>.inl ⟨p,hp,hn,rfl⟩,.refl _⟩
theorem Ext.trans{A:Nat->Prop}{D₁ D₂:Nat->Prop}{ρ ρ₁ ρ₂:Nat->a6}{mem mem₁ mem₂:aA}{w w₁ w₂:World}(h:Ext A ρ mem w ρ₁ D₁ mem₁ w₁)(h':Ext A ρ₁ mem₁ w₁ ρ₂ D₂ mem₂ w₂) :
  Ext A ρ mem w ρ₂ D₂ mem₂ w₂:=by
 refine⟨h'.le,fun id hid=>by rw[h'.agree id hid,h.agree id hid],Jh h.size h'.size,fun b hb ho=>?_,fun p hp hn=>?_,h.env.trans h'.env⟩
 ·rw[h'.keep b (Nat.lt_of_lt_of_le hb h.size) ?_,h.keep b hb ho];rintro⟨p,hp,hn,rfl⟩;rcases h.fresh p hp hn with h1|h1
  ·exact ho h1
  ·omega
 ·rcases h'.fresh p hp hn with⟨q,hq,hqn,e⟩|h1
  ·rw[←e];exact h.fresh q hq hqn
  ·exact .inr (Jh h.size h1)
def dn(D0:Nat->Prop)(B n:Nat):Nat->Prop:=fun i=>D0 i∨(B<=i/\i<n)
structure St where
 sl:List (Nat × AV)
 mem:aA
 nx:Nat
 nt:Nat
theorem aL{a b:Nat}(h:a≠b):Nat.beq a b=false:=by
 cases h':Nat.beq a b with
 | false=>rfl
 | true=>exact absurd (Nat.eq_of_beq_eq_true h') h
theorem zB{α:Type}(l:List (Nat × α))(j:Nat)(v:α)(i:Nat):lk (up l j v) i=if i=j then some v else lk l i:=by
 induction l with
 | nil=>
  by_cases h:i=j
  ·subst h;simp[up,lk]
  ·have:Nat.beq j i=false:=aL fun e=>h e.symm
   simp[up,lk,this,h]
 | cons p r ih=>
  obtain⟨k,u⟩:=p;simp only[up];cases hk:Nat.beq k j with
  | true=>
   have:k=j:=Nat.eq_of_beq_eq_true hk;subst this;by_cases h:i=k
   ·subst h;simp[lk]
   ·have:Nat.beq k i=false:=aL fun e=>h e.symm
    simp[lk,this,h]
  | false=>
   have hne:k≠j:=Jk hk;simp only[lk];cases hki:Nat.beq k i with
   | true=>
    have:k=i:=Nat.eq_of_beq_eq_true hki;subst this;simp[hne]
   | false=>simpa using ih
def St.put(s:St)(d:Option Nat)(v:AV):St:=
 match d with
 | some i=>{ s with sl:=up s.sl i v }
 | none=>s
def qL(O:Nat->Prop)(w:World)(ds:List Deferred × Nat)(dd:List Deferred):Prop:=
 ds.2<=w.heap.size+1/\∃ms,dd=ms++ds.1/\(ds.2=0->ms=[])/\ms.Nodup/\∀d∈ms,∃b,d={ target:=.collected b,args:=#[] }/\ds.2<=b+1/\¬O b/\w.heap[b]? = some (.deferred (some []))
theorem qL.at{O O':Nat->Prop}{w w':World}{ds:List Deferred × Nat}{dd:List Deferred}(h:qL O w ds dd)(hs:w.heap.size<=w'.heap.size)
  (hk:∀b,b<w.heap.size->¬O b->¬O' b/\w'.heap[b]? = w.heap[b]?):qL O' w' ds dd:=by
 obtain⟨h1,ms,h2,h0,hn,h3⟩:=h;refine⟨Jh h1 (Nat.succ_le_succ hs),ms,h2,h0,hn,fun d hd=>?_⟩;obtain⟨b,e,hb,ho,hh⟩:=h3 d hd;have hlt:b<w.heap.size:=(J3.1 hh).1;exact⟨b,e,hb,(hk b hlt ho).1,(hk b hlt ho).2.trans hh⟩
theorem qL.start{O:Nat->Prop}{w:World}{ds:List Deferred × Nat}(h:ds.2<=w.heap.size+1):qL O w ds ds.1:=⟨h,[],rfl,fun _=>rfl,.nil,fun d hd=>by cases hd⟩
theorem qL.eq{O:Nat->Prop}{w:World}{dd l:List Deferred}(h:qL O w (l,0) dd):dd=l:=by
 obtain⟨_,ms,h2,h0,_⟩:=h;rw[h2,h0 rfl];rfl
structure SR(Γ:List (Nat × AV))(X:Nat->Prop)(ds:List Deferred × Nat)(ρ:Nat->a6)(D:Nat->Prop)(s:St)(a:Act)(w:World):Prop where
 mr:MR Γ X ρ D s.mem w
 def0:qL (OX X ρ s.mem) w ds a.defers
 size:a.tmps.size=s.nt
 slot:∀i v,lk s.sl i=some v->VR ρ D (OX X ρ s.mem) w v (a.tmps.getD i undef)
end Go.Ax
namespace Go.Ax
open Go
def k8:Value->Option AV
 | .bool b=>some (.bool b)
 | .int k n=>some (.int k n)
 | .string s=>some (.str s.data.toList)
 | .pointer none=>some .nptr
 | .slice none 0 0=>some .nsl
 | .map none=>some .nmap
 | .nilFunc=>some .nfn
 | .nilIface=>some .nif
 | _=>none
def gH:List Value->Option (List AV)
 | []=>some []
 | v::r=>match k8 v with
  | some a=>match gH r with
   | some l=>some (a::l)
   | none=>none
  | none=>none
def lO:Value->Option AV
 | .agg cs=>match gH cs.toList with
  | some l=>some (.agg l)
  | none=>none
 | .tuple cs=>match cs.toList with
  | []=>some (.tup [])
  | _=>none
 | v=>k8 v
section
variable {ρ:Nat->a6} {D:Nat->Prop} {O:Nat->Prop} {w:World}
theorem l5{v:Value}{a:AV}(h:k8 v=some a):VR ρ D O w a v:=by
 unfold k8 at h;split at h<;>first|cases h|skip
 ·exact .bool _
 ·exact .int _ _
 ·rename_i s;have:=VR.str (ρ:=ρ) (D:=D) (O:=O) (w:=w) s.data.toList;simpa using this
 ·exact .nptr
 ·exact .nsl
 ·exact .nmap
 ·exact .nfn
 ·exact .nif
theorem xY{v:Value}{a:AV}(h:k8 v=some a):v.oneCell'=true:=by
 unfold k8 at h;split at h<;>first|(cases h;done)|rfl
theorem n5:∀{vs:List Value} {l:List AV},gH vs=some l->∀x∈vs,x.oneCell'=true
 | [],l,h=>by simp
 | v::r,l,h=>by
  simp only[gH] at h;split at h
  ·rename_i a ha;split at h
   ·rename_i l' hl;intro x hx;rcases JA.1 hx with rfl|hx
    ·exact xY ha
    ·exact n5 hl x hx
   ·cases h
  ·cases h
theorem jU:∀{vs:List Value} {l:List AV},gH vs=some l->dO ρ D O w l vs
 | [],l,h=>by simp[gH] at h;subst h;exact .nil
 | v::r,l,h=>by
  simp only[gH] at h;split at h
  ·rename_i a ha;split at h
   ·rename_i l' hl;cases h;exact .cons (l5 ha) (jU hl)
   ·cases h
  ·cases h
theorem zZ.agg{cs:List AV}{vs:List Value}(h:zZ ρ D O w cs vs):VR ρ D O w (.agg cs) (.agg vs.toArray):=
 .agg cs vs.toArray (by simpa using h.1.1) (by simpa using h.2) (fun j c x h1 h2=>h.1.2 j c x h1 (by simpa using h2))
theorem dO.tup{cs:List AV}{vs:List Value}(h:dO ρ D O w cs vs):VR ρ D O w (.tup cs) (.tuple vs.toArray):=
 .tup cs vs.toArray (by simpa using h.1) (fun j c x h1 h2=>h.2 j c x h1 (by simpa using h2))
theorem VR.agg_inv{cs:List AV}{x:Value}(h:VR ρ D O w (.agg cs) x):∃vs:List Value,x = .agg vs.toArray/\zZ ρ D O w cs vs:=by
 cases h with
 | agg _ arr hl ho hr=>exact⟨arr.toList,by simp,⟨by simpa using hl,fun j c x h1 h2=>hr j c x h1 (by simpa using h2)⟩,by simpa using ho⟩
theorem VR.tup_inv{cs:List AV}{x:Value}(h:VR ρ D O w (.tup cs) x):∃vs:List Value,x = .tuple vs.toArray/\dO ρ D O w cs vs:=by
 cases h with
 | tup _ arr hl hr=>exact⟨arr.toList,by simp,by simpa using hl,fun j c x h1 h2=>hr j c x h1 (by simpa using h2)⟩
theorem dU{v:Value}{a:AV}(h:lO v=some a):VR ρ D O w a v:=by
 unfold lO at h;split at h
 ·rename_i cs;split at h
  ·rename_i l hl;cases h;have:=zZ.agg ⟨jU (ρ:=ρ) (D:=D) (O:=O) (w:=w) hl,n5 hl⟩;simpa using this
  ·cases h
 ·rename_i cs;split at h
  ·rename_i hc;cases h;have:cs = #[]:=by simpa using hc
   subst this;exact .tup [] #[] rfl (by simp)
  ·cases h
 ·exact l5 h
end
theorem aF{α:Type}:∀{l:List (Nat × α)} {i:Nat} {v:α},lk l i=some v->(i,v)∈l
 | (k,u)::r,i,v,h=>by
  simp only[lk] at h;split at h
  ·rename_i hk;cases h;simp[Nat.eq_of_beq_eq_true hk]
  ·exact JO _ (aF h)
def ev(Γ:List (Nat × AV))(s:St):Operand->Option AV
 | .tmp t=>lk s.sl t
 | .const v=>lO v
 | .global g=>match lk Γ g with
  | some v=>some (.ip v)
  | none=>none
 | .func f=>some (.fn (.func f) [] [])
def r9(Γ:List (Nat × AV))(s:St):List Operand->Option (List AV)
 | []=>some []
 | x::r=>match ev Γ s x with
  | some a=>match r9 Γ s r with
   | some l=>some (a::l)
   | none=>none
  | none=>none
section
variable {Γ:List (Nat × AV)} {X:Nat->Prop} {ds:List Deferred × Nat} {ρ:Nat->a6} {D:Nat->Prop} {s:St} {a:Act} {w:World}
theorem aB(hs:SR Γ X ds ρ D s a w){x:Operand}{v:AV}(h:ev Γ s x=some v):VR ρ D (OX X ρ s.mem) w v (a.eval x):=by
 cases x with
 | tmp t=>exact hs.slot t v h
 | const c=>exact dU h
 | global g=>
  simp only[ev] at h;split at h
  ·rename_i u hu;cases h;exact hs.mr.glo _ (aF hu)
  ·cases h
 | func f=>simp only[ev] at h;cases h;exact .fn _ [] [] #[] #[] rfl rfl (by simp) (by simp)
theorem cN(hs:SR Γ X ds ρ D s a w):∀{xs:List Operand} {vs:List AV},r9 Γ s xs=some vs->dO ρ D (OX X ρ s.mem) w vs (xs.map a.eval)
 | [],vs,h=>by simp[r9] at h;subst h;exact .nil
 | x::r,vs,h=>by
  simp only[r9] at h;split at h
  ·rename_i v hv;split at h
   ·rename_i l hl;cases h;exact .cons (aB hs hv) (cN hs hl)
   ·cases h
  ·cases h
end
def tP(P:Program)(t:TypeId):Option (Option Nat):=
 match P.underlying t with
 | some (.struct _)=>match P.info? t with
  | some i=>some (some i.size)
  | none=>none
 | some (.array _ _)=>match P.info? t with
  | some i=>some (some i.size)
  | none=>none
 | some _=>some none
 | none=>none
def cF(P:Program)(t:TypeId):Option Nat:=
 match P.info? t with
 | some i=>some i.size
 | none=>none
def one:AV->Option AV
 | .agg _=>none
 | v=>some v
theorem rH{c v:AV}(h:one c=some v):c=v/\v.cells=[v]:=by
 unfold one at h;split at h
 ·cases h
 ·cases h;refine⟨rfl, ?_⟩;cases c<;>first|rfl|(rename_i h1;exact(h1 _ rfl).elim)|(rename_i h1 _;exact(h1 _ rfl).elim)
def sub(sh:Option Nat)(cs:List AV)(j:Nat):Option AV:=
 match sh with
 | none=>match cs[j]? with
  | some c=>one c
  | none=>none
 | some n=>match Nat.beq ((cs.drop j).take n).length n with
  | true=>some (.agg ((cs.drop j).take n))
  | false=>none
section
variable {P:Program} {w:World}
theorem uC{t:TypeId}{sh:Option Nat}(h:tP P t=some sh):(isAgg t).run P w = .ok sh.isSome w/\∀n,sh=some n->(Go.sizeOf t).run P w = .ok n w:=by
 unfold tP at h;split at h
 ·rename_i fs hu;split at h
  ·rename_i i hi;cases h;refine⟨by simp[isAgg,run_underlying hu], ?_⟩;rintro n ⟨⟩;simp[Go.sizeOf,typeInfo,hi]
  ·cases h
 ·rename_i hu;split at h
  ·rename_i i hi;cases h;refine⟨by simp[isAgg,run_underlying hu], ?_⟩;rintro n ⟨⟩;simp[Go.sizeOf,typeInfo,hi]
  ·cases h
 ·rename_i d h1 h2 hu;cases h;refine⟨?_,by rintro n ⟨⟩⟩;cases d<;>first|exact(h1 _ rfl).elim|exact(h2 _ _ rfl).elim|simp[isAgg,run_underlying hu]
 ·cases h
theorem cQ{t:TypeId}{n:Nat}(h:cF P t=some n):(Go.sizeOf t).run P w = .ok n w:=by
 unfold cF at h;split at h
 ·rename_i i hi;cases h;simp[Go.sizeOf,typeInfo,hi]
 ·cases h
end
section
variable {P:Program} {ρ:Nat->a6} {D:Nat->Prop} {O:Nat->Prop} {w:World}
theorem fM{t:TypeId}{sh:Option Nat}(hsh:tP P t=some sh){cs:List AV}{j:Nat}{v:AV}(hv:sub sh cs j=some v)
  {b off:Nat} (hc:∀(i:Nat) (c:AV),cs[i]? = some c->∃x,w.cell? ⟨b,off+i,none⟩=some x/\x.oneCell'=true/\VR ρ D O w c x) :
  ∃x,(loadVar t ⟨b,off+j,none⟩).run P w = .ok x w/\VR ρ D O w v x:=by
 obtain⟨hag,hsz⟩:=uC (w:=w) hsh;cases sh with
 | none=>
  simp only[sub] at hv;split at hv
  ·rename_i c hcj;obtain⟨rfl,_⟩:=rH hv;obtain⟨x,hx,_,hr⟩:=hc j c hcj;exact⟨x,by simp[loadVar,hag,hx],hr⟩
  ·cases hv
 | some n=>
  simp only[sub] at hv;split at hv
  ·rename_i hl;cases hv;have hl:=Nat.eq_of_beq_eq_true hl;have key:∀i,i<n->∃x c,(List.take n (List.drop j cs))[i]? = some c/\w.cell? ⟨b,off+j+i,none⟩=some x/\x.oneCell'=true/\VR ρ D O w c x:=by
    intro i hi;have h1:(List.take n (List.drop j cs))[i]? = some ((List.take n (List.drop j cs))[i]'om):=I9 _;have h2:cs[j+i]? = some ((List.take n (List.drop j cs))[i]'om):=by
     rw[Jb,JL hi,Jc] at h1;exact h1
    obtain⟨x,hx,ho,hr⟩:=hc _ _ h2;exact⟨x,_,h1,by rw[Nat.add_assoc];exact hx,ho,hr⟩
   have hget:∀i,i<n->w.cell? (Addr.add ⟨b,off+j,none⟩ i)=some ((w.cell? ⟨b,off+j+i,none⟩).getD undef):=by
    intro i hi;obtain⟨x,c,_,hx,_,_⟩:=key i hi;simp[Addr.add_lit,hx]
   refine⟨.agg ((List.range n).map fun i=>(w.cell? ⟨b,off+j+i,none⟩).getD undef).toArray, ?_, ?_⟩
   ·simp[loadVar,hag,hsz n rfl,run_loadCells w ⟨b,off+j,none⟩ n (fun i=>(w.cell? ⟨b,off+j+i,none⟩).getD undef) hget]
   ·refine zZ.agg ⟨⟨by simp[hl],fun i c x h1 h2=>?_⟩,fun x hx=>?_⟩
    rotate_left
    ·obtain⟨i,hi,rfl⟩:=JM.1 hx;obtain⟨x',c',_,e2,ho,_⟩:=key i (KN.1 hi);simp[e2,ho]
    have hi:i<n:=by
     rcases JK i n with h|h
     ·exact h
     ·simp[h] at h2
    obtain⟨x',c',e1,e2,_,hr⟩:=key i hi;rw[h1] at e1;cases e1;simp[hi,e2] at h2;subst h2;exact hr
  ·cases hv
end
def u4:List AV->List AV
 | []=>[]
 | x::r=>x.cells++u4 r
theorem t8{R:Nat->AV->Prop}{sz:Nat}:∀{xs:List AV} {k:Nat},(∀(i:Nat) (x:AV),xs[i]? = some x->x.cells.length=sz/\∀(j:Nat) (c:AV),x.cells[j]? = some c->R ((k+i)*sz+j) c) ->
  ∀(q:Nat) (c:AV),(u4 xs)[q]? = some c->R (k*sz+q) c
 | [],k,h,q,c,hq=>by simp[u4] at hq
 | x::r,k,h,q,c,hq=>by
  obtain⟨h1,h2⟩:=h 0 x rfl;simp only[u4,JY,h1] at hq;by_cases hlt:q<sz
  ·rw[JL hlt] at hq;simpa using h2 q c hq
  ·rw[JJ hlt] at hq;have:=t8 (R:=R) (sz:=sz) (xs:=r) (k:=k+1) (fun i y hy=>by
    obtain⟨h3,h4⟩:=h (i+1) y (by simpa using hy);exact⟨h3,fun j c hj=>by rw[show k+1+i=k+(i+1) by omega];exact h4 j c hj⟩) (q-sz) c hq
   rw[show (k+1)*sz+(q-sz)=k*sz+q by rw[Nat.add_mul];omega] at this;exact this
def qY(P:Program)(mem:aA)(t:TypeId)(p:AV):Option AV:=
 match p with
 | .ip u=>match tP P t with
  | some sh=>sub sh u.cells 0
  | none=>none
 | .ptr id i j=>match lk mem id with
  | some (.row _ sz xs)=>match xs[i]? with
   | some x=>match tP P t with
    | some sh=>match sub sh x.cells j with
     | some v=>some v
     | none=>match P.underlying t with
      | some (.array _ _)=>sub sh (u4 xs) (i*sz+j)
      | _=>none
    | none=>none
   | none=>none
  | _=>none
 | _=>none
section
variable {P:Program} {Γ:List (Nat × AV)} {X:Nat->Prop} {ρ:Nat->a6} {D:Nat->Prop} {mem:aA} {w:World}
theorem Cu{u:AV}{x:Value}{O:Nat->Prop}(h:VR ρ D O w (.ip u) x) :
  ∃b off,x = .pointer (some ⟨b,off,none⟩)/\∀(i:Nat) (c:AV),u.cells[i]? = some c->¬O b/\∃x,w.cell? ⟨b,off+i,none⟩=some x/\x.oneCell'=true/\VR ρ D O w c x:=by
 cases h with
 | ip _ b off f h1 h2=>exact⟨b,off,rfl,fun i c hc=>⟨(h1 i c hc).1,f i,(h1 i c hc).2.1,(h1 i c hc).2.2,h2 i c hc⟩⟩
theorem cC(hm:MR Γ X ρ D mem w){id:Nat}{t:TypeId}{sz:Nat}{xs:List AV}(hid:lk mem id=some (.row t sz xs)){i:Nat}{x:AV}(hx:xs[i]? = some x) :
  x.cells.length=(ρ id).sz/\∀(j:Nat) (c:AV),x.cells[j]? = some c->∃v,w.cell? ⟨(ρ id).b,i*(ρ id).sz+j,none⟩=some v/\v.oneCell'=true/\VR ρ D (OX X ρ mem) w c v:=by
 have hn:0<(ρ id).n:=by
  rcases JT (ρ id).n with h|h
  ·obtain⟨t',sz',e,_⟩:=hm.emp _ (aF hid) h;cases e;simp at hx
  ·exact h
 obtain⟨o,ho,_,arr,fr,rfl,_,_,_,h4⟩:=hm.blk _ (aF hid) hn;refine⟨(h4 i x hx).1,fun j c hc=>?_⟩;obtain⟨v,hv,h1,hr⟩:=(h4 i x hx).2 j c hc;exact⟨v,by simp[World.cell?,ho,hv],h1,hr⟩
theorem jR(hm:MR Γ X ρ D mem w){t:TypeId}{p v:AV}{x:Value}(h:qY P mem t p=some v)(hx:VR ρ D (OX X ρ mem) w p x) :
  ∃y,(Instr.loadAt t x).run P w = .ok y w/\VR ρ D (OX X ρ mem) w v y:=by
 unfold qY at h;split at h
 ·rename_i u;split at h
  ·rename_i sh hsh;obtain⟨b,off,rfl,hc⟩:=Cu hx;obtain⟨y,hy,hr⟩:=fM hsh h (fun i c hi=>(hc i c hi).2);exact⟨y,by simpa[Instr.loadAt,Instr.sureAddr] using hy,hr⟩
  ·cases h
 ·rename_i id i j;split at h
  ·rename_i t' sz' xs hid;split at h
   ·rename_i e he;split at h
    ·rename_i sh hsh;cases hx;split at h
     ·rename_i v0 hv0;cases h;obtain⟨y,hy,hr⟩:=fM hsh hv0 (cC hm hid he).2;exact⟨y,by simpa[Instr.loadAt,Instr.sureAddr] using hy,hr⟩
     ·split at h
      ·have hsz:(ρ id).sz=sz':=by
        rcases JT (ρ id).n with h0|h0
        ·obtain⟨t2,sz2,e2,e3⟩:=hm.emp _ (aF hid) h0;cases e2;exact e3
        ·obtain⟨o,ho,q0,_⟩:=hm.blk _ (aF hid) h0;exact q0
       obtain⟨y,hy,hr⟩:=fM (w:=w) (ρ:=ρ) (D:=D) (O:=OX X ρ mem) (b:=(ρ id).b) (off:=0) hsh h (fun q c hq=>by
        have:=t8 (R:=fun q c=>∃v,w.cell? ⟨(ρ id).b,q,none⟩=some v/\v.oneCell'=true/\VR ρ D (OX X ρ mem) w c v) (sz:=(ρ id).sz) (k:=0) (fun i x hx=>by
         obtain⟨h1,h2⟩:=cC hm hid hx;exact⟨h1,fun j c hj=>by simpa using h2 j c hj⟩) q c hq
        simpa using this)
       rw[hsz];exact⟨y,by simpa[Instr.loadAt,Instr.sureAddr] using hy,hr⟩
      ·cases h
    ·cases h
   ·cases h
  ·cases h
 ·cases h
end
end Go.Ax
namespace Go.Ax
open Go
def DJ:AV->Option AV
 | .ptr id i j=>some (.ptr id i j)
 | .ip v=>some (.ip v)
 | .fn (.func f) a b=>some (.fn (.func f) a b)
 | _=>none
def gJ(P:Program)(t:TypeId)(f:Nat)(p:AV):Option AV:=
 match P.underlying t with
 | some (.struct fs)=>match fs[f]? with
  | some fd=>match cF P fd.type with
   | some (_+1)=>match p with
    | .ptr id i j=>some (.ptr id i (j+fd.offset))
    | .ip u=>match tP P fd.type with
     | some sh=>match sub sh u.cells fd.offset with
      | some v=>some (.ip v)
      | none=>none
     | none=>none
    | _=>none
   | _=>none
  | none=>none
 | _=>none
def rM(P:Program)(t:TypeId)(f:Nat)(v:AV):Option AV:=
 match P.underlying t with
 | some (.struct fs)=>match fs[f]? with
  | some fd=>match v with
   | .agg cs=>match tP P fd.type with
    | some sh=>sub sh cs fd.offset
    | none=>none
   | _=>none
  | none=>none
 | _=>none
def rR(mem:aA)(id i j sz:Nat):Bool:=
 match j with
 | 0=>match lk mem id with
  | some (.row _ _ xs)=>match xs[i]? with
   | some x=>Nat.beq x.cells.length sz
   | none=>false
  | _=>false
 | _+1=>false
def gG(P:Program)(mem:aA)(t:TypeId)(p ix:AV):Option AV:=
 match ix with
 | .int _ n=>match decide (0<=n) with
  | true=>match P.underlying t with
   | some (.slice e)=>match cF P e with
    | some sz=>match p with
     | .sl id off len=>match lk mem id with
      | some (.row _ _ xs)=>match Nat.blt n.toNat len with
       | true=>match xs[off+n.toNat]? with
        | some x=>match Nat.beq x.cells.length sz with
         | true=>some (.ptr id (off+n.toNat) 0)
         | false=>none
        | none=>none
       | false=>none
      | _=>none
     | .il sz' xs=>match xs[n.toNat]? with
      | some x=>match Nat.beq sz sz' with
       | true=>some (.ip x)
       | false=>none
      | none=>none
     | _=>none
    | none=>none
   | some (.array m e)=>match cF P e,tP P e with
    | some sz,some sh=>match Nat.blt n.toNat m with
     | true=>match p with
      | .ptr id i j=>match rR mem id i j sz with
       | true=>some (.ptr id (i+n.toNat) 0)
       | false=>some (.ptr id i (j+n.toNat*sz))
      | .ip u=>match sub sh u.cells (n.toNat*sz) with
       | some v=>some (.ip v)
       | none=>none
      | _=>none
     | false=>none
    | _,_=>none
   | _=>none
  | false=>none
 | _=>none
def qS(P:Program)(t:TypeId)(v ix:AV):Option AV:=
 match ix with
 | .int _ n=>match decide (0<=n) with
  | true=>match P.underlying t with
   | some .string=>match v with
    | .str s=>match s[n.toNat]? with
     | some b=>some (.int .u8 (b.toNat:Int))
     | none=>none
    | _=>none
   | some (.array m e)=>match v with
    | .agg cs=>match Nat.blt n.toNat m with
     | true=>match cF P e,tP P e with
      | some sz,some sh=>sub sh cs (n.toNat*sz)
      | _,_=>none
     | false=>none
    | _=>none
   | _=>none
  | false=>none
 | _=>none
section
variable {P:Program} {Γ:List (Nat × AV)} {X:Nat->Prop} {ρ:Nat->a6} {D:Nat->Prop} {O:Nat->Prop} {mem:aA} {w:World}
theorem oZ{sh:Option Nat}{cs:List AV}{j:Nat}{v:AV}(h:sub sh cs j=some v)(i:Nat)(c:AV)(hc:v.cells[i]? = some c):cs[j+i]? = some c:=by
 cases sh with
 | none=>
  simp only[sub] at h;split at h
  ·rename_i u hu;obtain⟨rfl,hf⟩:=rH h;rw[hf] at hc;cases i with
   | zero=>simp at hc;subst hc;exact hu
   | succ i=>simp at hc
  ·cases h
 | some n=>
  simp only[sub] at h;split at h
  ·cases h;simp only[AV.cells] at hc;rw[Jb] at hc;split at hc
   ·rw[Jc] at hc;exact hc
   ·cases hc
  ·cases h
theorem BS{sh:Option Nat}{cs:List AV}{j:Nat}{v:AV}(h:sub sh cs j=some v):v.cells.length=sh.getD 1:=by
 cases sh with
 | none=>
  simp only[sub] at h;split at h
  ·obtain⟨rfl,hf⟩:=rH h;rw[hf];rfl
  ·cases h
 | some n=>
  simp only[sub] at h;split at h
  ·rename_i hl;cases h;exact Nat.eq_of_beq_eq_true hl
  ·cases h
theorem Dx{u v:AV}{x:Value}(h:VR ρ D O w (.ip u) x){sh:Option Nat}{j:Nat}(hv:sub sh u.cells j=some v) :
  ∃b off,x = .pointer (some ⟨b,off,none⟩)/\VR ρ D O w (.ip v) (.pointer (some ⟨b,off+j,none⟩)):=by
 cases h with
 | ip _ b off f h1 h2=>
  refine⟨b,off,rfl,.ip v b (off+j) (fun i=>f (j+i)) (fun i c hc=>?_) (fun i c hc=>?_)⟩
  ·have:=h1 (j+i) c (oZ hv i c hc);exact⟨this.1,by rw[Nat.add_assoc];exact this.2.1,this.2.2⟩
  ·exact h2 (j+i) c (oZ hv i c hc)
theorem q7{p v:AV}{x:Value}(h:DJ p=some v)(hx:VR ρ D O w p x)(o:Oper)(f:Operand->Value)(y:Operand)(ho:o.op = .nilCheck y)(hy:f y=x) :
  (execOp f o).run P w = .ok (.value x) w/\VR ρ D O w v x:=by
 unfold DJ at h;split at h<;>first|cases h|skip
 all_goals
  cases hx;refine⟨by simp[execOp,ho,hy], ?_⟩
 ·exact .ptr _ _ _ (by assumption)
 ·exact .ip _ _ _ _ (by assumption) (by assumption)
 ·exact .fn _ _ _ _ _ (by assumption) (by assumption) (by assumption) (by assumption)
theorem iJ{t:TypeId}{f:Nat}{p v:AV}{x:Value}(h:gJ P t f p=some v)(hx:VR ρ D O w p x) :
  ∃y,(Instr.fieldAt t x f).run P w = .ok y w/\VR ρ D O w v y:=by
 unfold gJ at h;split at h
 ·rename_i fs hu;split at h
  ·rename_i fd hfd;split at h
   ·rename_i n hn;have hrun:=cQ (w:=w) hn;split at h
    ·rename_i id i j;cases h;cases hx;refine⟨.pointer (some ⟨(ρ id).b,i*(ρ id).sz+j+fd.offset,none⟩), ?_, ?_⟩
     ·simp[Instr.fieldAt,run_underlying hu,hfd,Instr.sureAddr,fieldPlace,hrun,Addr.add_lit]
     ·rw[Nat.add_assoc];exact .ptr id i (j+fd.offset) (by assumption)
    ·rename_i u;split at h
     ·rename_i sh hsh;split at h
      ·rename_i v' hv';cases h;obtain⟨b,off,rfl,hr⟩:=Dx hx hv';exact⟨_,by simp[Instr.fieldAt,run_underlying hu,hfd,Instr.sureAddr,fieldPlace,hrun,Addr.add_lit],hr⟩
      ·cases h
     ·cases h
    ·cases h
   ·cases h
  ·cases h
 ·cases h
theorem kL{t:TypeId}{sh:Option Nat}(hsh:tP P t=some sh){cs:List AV}{j:Nat}{v:AV}(hv:sub sh cs j=some v){vs:List Value}(hc:zZ ρ D O w cs vs) :
  ∃x,(part t vs.toArray j).run P w = .ok x w/\VR ρ D O w v x:=by
 obtain⟨hag,hsz⟩:=uC (w:=w) hsh;cases sh with
 | none=>
  simp only[sub] at hv;split at hv
  ·rename_i c hcj;obtain⟨rfl,_⟩:=rH hv;have hlt:j<vs.length:=by
    rw[←hc.1.1];rcases JK j cs.length with h|h
    ·exact h
    ·rw[JH h] at hcj;cases hcj
   exact⟨vs[j],by simp[part,hag,hlt],hc.1.2 j c _ hcj (by simp[hlt])⟩
  ·cases hv
 | some n=>
  have hlen:=BS hv;simp only[sub] at hv;split at hv
  ·cases hv;refine⟨.agg (vs.toArray.extract j (j+n)),by simp[part,hag,hsz n rfl], ?_⟩;have e:vs.toArray.extract j (j+n)=((vs.drop j).take n).toArray:=by
    simp[List.extract_toArray,List.extract_eq_take_drop]
   rw[e];refine zZ.agg ⟨⟨?_,fun i c x h1 h2=>?_⟩,fun x hx=>hc.2 x (List.mem_of_mem_drop (Js hx))⟩
   ·simp[hc.1.1]
   ·rw[Jb] at h1 h2;split at h1
    ·rename_i hi;rw[JL hi] at h2;rw[Jc] at h1 h2;exact hc.1.2 _ c x h1 h2
    ·cases h1
  ·cases hv
theorem oE{t:TypeId}{f:Nat}{p v:AV}{x:Value}(h:rM P t f p=some v)(hx:VR ρ D O w p x) :
  ∃y,(Instr.field t x f).run P w = .ok y w/\VR ρ D O w v y:=by
 unfold rM at h;split at h
 ·rename_i fs hu;split at h
  ·rename_i fd hfd;split at h
   ·rename_i cs;split at h
    ·rename_i sh hsh;obtain⟨vs,rfl,hvs⟩:=hx.agg_inv;obtain⟨y,hy,hr⟩:=kL (w:=w) hsh h hvs;exact⟨y,by simp[Instr.field,run_underlying hu,hfd,asAgg,hy],hr⟩
    ·cases h
   ·cases h
  ·cases h
 ·cases h
end
end Go.Ax
namespace Go.Ax
open Go
section
variable {P:Program} {Γ:List (Nat × AV)} {X:Nat->Prop} {ρ:Nat->a6} {D:Nat->Prop} {O:Nat->Prop} {mem:aA} {w:World}
theorem pD(hm:MR Γ X ρ D mem w){id i j sz:Nat}(h:rR mem id i j sz=true):j=0/\(ρ id).sz=sz:=by
 unfold rR at h;split at h
 ·split at h
  ·rename_i hid;split at h
   ·rename_i hx;exact⟨rfl,by rw[←(cC hm hid hx).1];exact Nat.eq_of_beq_eq_true h⟩
   ·cases h
  ·cases h
 ·cases h
theorem iM(hm:MR Γ X ρ D mem w){t:TypeId}{p ix v:AV}{x y:Value}(h:gG P mem t p ix=some v)
  (hx:VR ρ D (OX X ρ mem) w p x) (hy:VR ρ D (OX X ρ mem) w ix y) :
  ∃z,(Instr.indexAt t x y).run P w = .ok z w/\VR ρ D (OX X ρ mem) w v z:=by
 unfold gG at h;split at h
 ·rename_i k n;cases hy;split at h
  ·rename_i hn;have hn:0<=n:=JV hn;split at h
   ·rename_i e hu;split at h
    ·rename_i sz hsz;have hrun:=cQ (w:=w) hsz;split at h
     ·rename_i id off len;split at h
      ·rename_i t' sz0 xs hid;split at h
       ·rename_i hlt;have hlt:n.toNat<len:=JB hlt;split at h
        ·rename_i u hu';split at h
         ·rename_i hl;have hl:=Nat.eq_of_beq_eq_true hl;cases h;have hz:=(cC hm hid hu').1;rw[hl] at hz;have hlt':n<(len:Int):=om;cases hx with
          | sl _ _ _ cap hid' h1 h2=>
           refine⟨.pointer (some ⟨(ρ id).b,off*(ρ id).sz+n.toNat*sz,none⟩), ?_, ?_⟩
           ·simp[Instr.indexAt,asIntOf,run_underlying hu,hn,hlt',hrun,Addr.add_lit]
           ·have e:off*(ρ id).sz+n.toNat*sz=(off+n.toNat)*(ρ id).sz+0:=by rw[hz,Nat.add_mul];omega
            rw[e];exact .ptr id _ 0 hid'
          | slz _ _ a a' hid'=>omega
          | slzn _ _ hid'=>omega
         ·cases h
        ·cases h
       ·cases h
      ·cases h
     ·rename_i sz' xs;split at h
      ·rename_i u hu';split at h
       ·rename_i hl;have hl:=Nat.eq_of_beq_eq_true hl;subst hl;cases h;have hlt:n.toNat<xs.length:=by
         rcases JK n.toNat xs.length with h|h
         ·exact h
         ·rw[JH h] at hu';cases hu'
        have hlt':n<(xs.length:Int):=om;cases hx with
        | il _ _ b off cap f h0 h1 h2 h3=>
         refine⟨.pointer (some ⟨b,off+n.toNat*sz,none⟩), ?_, ?_⟩
         ·simp[Instr.indexAt,asIntOf,run_underlying hu,hn,hlt',hrun,Addr.add_lit]
         ·refine .ip _ b _ (fun j=>f n.toNat j) (fun j c hc=>?_) (fun j c hc=>h3 _ _ j c hu' hc);have:=h2 _ _ j c hu' hc;exact⟨this.1,by rw[Nat.add_assoc];exact this.2.1,this.2.2⟩
        | iln=>simp at hlt
       ·cases h
      ·cases h
     ·cases h
    ·cases h
   ·rename_i m e hu;split at h
    ·rename_i sz sh hsz hsh;have hrun:=cQ (w:=w) hsz;split at h
     ·rename_i hlt;have hlt:n.toNat<m:=JB hlt;have hlt':n<(m:Int):=om;split at h
      ·rename_i id i j;cases hx;refine⟨.pointer (some ⟨(ρ id).b,i*(ρ id).sz+j+n.toNat*sz,none⟩), ?_, ?_⟩
       ·simp[Instr.indexAt,asIntOf,run_underlying hu,Instr.sureAddr,hn,hlt',hrun,Addr.add_lit]
       ·split at h
        ·rename_i he;cases h;obtain⟨rfl,hz⟩:=pD hm he;have e:i*(ρ id).sz+0+n.toNat*sz=(i+n.toNat)*(ρ id).sz+0:=by rw[hz,Nat.add_mul];omega
         rw[e];exact .ptr id _ 0 (by assumption)
        ·cases h;rw[Nat.add_assoc];exact .ptr id i _ (by assumption)
      ·rename_i u;split at h
       ·rename_i v' hv';cases h;obtain⟨b,off,rfl,hr⟩:=Dx hx hv';exact⟨_,by simp[Instr.indexAt,asIntOf,run_underlying hu,Instr.sureAddr,hn,hlt',hrun,Addr.add_lit],hr⟩
       ·cases h
      ·cases h
     ·cases h
    ·cases h
   ·cases h
  ·cases h
 ·cases h
theorem nK{t:TypeId}{p ix v:AV}{x y:Value}(h:qS P t p ix=some v)(hx:VR ρ D O w p x)(hy:VR ρ D O w ix y) :
  ∃z,(Instr.index t x y).run P w = .ok z w/\VR ρ D O w v z:=by
 unfold qS at h;split at h
 ·rename_i k n;cases hy;split at h
  ·rename_i hn;have hn:0<=n:=JV hn;split at h
   ·rename_i hu;split at h
    ·rename_i s;split at h
     ·rename_i b hb;cases h;cases hx;refine⟨.int .u8 (b.toNat:Int), ?_,.int _ _⟩;have hlt:n.toNat<s.length:=by
       rcases JK n.toNat s.length with h|h
       ·exact h
       ·rw[JH h] at hb;cases hb
      have hb':(⟨s.toArray⟩:ByteArray)[n.toNat]? = some b:=by
       rw[ByteArray.getElem?_lt' (⟨s.toArray⟩:ByteArray) n.toNat (by simpa[ByteArray.size] using hlt)];rw[I9 hlt] at hb;exact hb
      simp[Instr.index,asIntOf,run_underlying hu,hn,hb']
     ·cases h
    ·cases h
   ·rename_i m e hu;split at h
    ·rename_i cs;split at h
     ·rename_i hlt;have hlt:n.toNat<m:=JB hlt;have hlt':n<(m:Int):=om;split at h
      ·rename_i sz sh hsz hsh;obtain⟨vs,rfl,hvs⟩:=hx.agg_inv;obtain⟨z,hz,hr⟩:=kL (w:=w) hsh h hvs;exact⟨z,by simp[Instr.index,asIntOf,run_underlying hu,hn,hlt',cQ hsz,hz],hr⟩
      ·cases h
     ·cases h
    ·cases h
   ·cases h
  ·cases h
 ·cases h
end
def sM(op:BinOp)(k:IntKind)(x y:Int):Option AV:=
 match op with
 | .add=>some (.int k (k.wrap (x+y)))
 | .sub=>some (.int k (k.wrap (x-y)))
 | .mul=>some (.int k (k.wrap (x*y)))
 | .quo=>match decide (y=0) with
  | true=>none
  | false=>some (.int k (k.wrap (x.tdiv y)))
 | .rem=>match decide (y=0) with
  | true=>none
  | false=>some (.int k (x.tmod y))
 | .and=>some (.int k (bits .and k x y))
 | .or=>some (.int k (bits .or k x y))
 | .xor=>some (.int k (bits .xor k x y))
 | .andNot=>some (.int k (bits .andNot k x y))
 | .eql=>some (.bool (x == y))
 | .neq=>some (.bool (x != y))
 | .lss=>some (.bool (decide (x<y)))
 | .leq=>some (.bool (decide (x<=y)))
 | .gtr=>some (.bool (decide (x>y)))
 | .geq=>some (.bool (decide (x≥y)))
 | _=>none
def sL(op:BinOp)(x y:List UInt8):Option AV:=
 match op with
 | .add=>match decide ((x.length:Int)+y.length<=9223372036854775807) with
  | true=>some (.str (x++y))
  | false=>none
 | .eql=>some (.bool (x == y))
 | .neq=>some (.bool (!(x == y)))
 | .lss=>some (.bool (Op.bytesLess x y))
 | .leq=>some (.bool (Op.bytesLess x y || x == y))
 | .gtr=>some (.bool (!(Op.bytesLess x y || x == y)))
 | .geq=>some (.bool (!(Op.bytesLess x y)))
 | _=>none
def oM(op:BinOp)(k:IntKind)(x y:Int):Option AV:=
 match decide (y<0) with
 | true=>none
 | false=>match op with
  | .shl=>some (.int k (k.wrap (x*2 ^ (min y.toNat k.bits))))
  | .shr=>some (.int k (x.fdiv (2 ^ (min y.toNat k.bits))))
  | _=>none
def x5(P:Program)(t:TypeId)(x y:AV):Option Bool:=
 match P.underlying t with
 | some (.int _)=>match x,y with
  | .int k a,.int k' b=>match decide (k=k') with
   | true=>some (a == b)
   | false=>none
  | _,_=>none
 | some .string=>match x,y with
  | .str a,.str b=>some (a == b)
  | _,_=>none
 | some .bool=>match x,y with
  | .bool a,.bool b=>some (a == b)
  | _,_=>none
 | _=>none
def Cr(P:Program)(lit:Bool)(t:TypeId)(x y:AV):Option Bool:=
 match P.underlying t with
 | some .bool=>match x,y with
  | .bool a,.bool b=>some (a == b)
  | _,_=>none
 | some (.pointer e)=>match x,y with
  | .nptr,.nptr=>some true
  | .nptr,.ptr _ _ _=>some false
  | .nptr,.ip _=>some false
  | .ptr _ _ _,.nptr=>some false
  | .ip _,.nptr=>some false
  | .ptr i j k,.ptr i' j' k'=>match P.info? e with
   | some _=>match Nat.beq i i' && (Nat.beq j j' && Nat.beq k k') with
    | true=>some true
    | false=>none
   | none=>none
  | _,_=>none
 | some (.slice _)=>match x,y with
  | .nsl,.nsl=>some true
  | .sl _ _ (_+1),.nsl=>some false
  | .nsl,.sl _ _ (_+1)=>some false
  | .il _ (_::_),.nsl=>some false
  | .nsl,.il _ (_::_)=>some false
  | _,_=>none
 | some (.map _ _)=>match x,y with
  | .nmap,.nmap=>some true
  | .mp _,.nmap=>some false
  | .nmap,.mp _=>some false
  | _,_=>none
 | some (.func _ _ _)=>match x,y with
  | .nfn,.nfn=>some true
  | .fn _ _ _,.nfn=>some false
  | .nfn,.fn _ _ _=>some false
  | _,_=>none
 | some (.interface _)=>match x,y with
  | .nif,.nif=>match lit with
   | true=>some true
   | false=>none
  | .nif,.ifc _ _=>some false
  | .ifc _ _,.nif=>some false
  | .ifc t1 v1,.ifc t2 v2=>match Nat.beq t1 t2 with
   | false=>some false
   | true=>match P.info? t1 with
    | some i=>match i.comparable with
     | true=>x5 P t1 v1 v2
     | false=>none
    | none=>none
  | _,_=>none
 | _=>none
def EM(P:Program)(xs ys:List AV):List Field->Option Bool
 | []=>some true
 | f::r=>match f.name == "_" with
  | true=>none
  | false=>match tP P f.type with
   | some sh=>match sub sh xs f.offset with
    | some x=>match sub sh ys f.offset with
     | some y=>match x5 P f.type x y with
      | some b=>match EM P xs ys r with
       | some c=>some (b && c)
       | none=>none
      | none=>none
     | none=>none
    | none=>none
   | none=>none
def Ao(P:Program)(t:TypeId)(xs ys:List AV):Option Bool:=
 match P.underlying t with
 | some (.struct fs)=>match P.stoodInHeld t with
  | false=>EM P xs ys fs.toList
  | true=>none
 | _=>none
def eE:Operand->Bool
 | .const _=>true
 | _=>false
def Co(P:Program)(op:BinOp)(t:TypeId)(xo yo:Operand)(x y:AV):Option AV:=
 match x,y with
 | .int k a,.int k' b=>match op with
  | .shl=>oM .shl k a b
  | .shr=>oM .shr k a b
  | _=>match decide (k=k') with
   | true=>sM op k a b
   | false=>none
 | .str a,.str b=>sL op a b
 | .agg a,.agg b=>match P.eqGuardType P.depth t with
  | false=>match op with
   | .eql=>match Ao P t a b with
    | some r=>some (.bool r)
    | none=>none
   | .neq=>match Ao P t a b with
    | some r=>some (.bool (!r))
    | none=>none
   | _=>none
  | true=>none
 | _,_=>match op with
  | .eql=>match Cr P (eE xo || eE yo) t x y with
   | some b=>some (.bool b)
   | none=>none
  | .neq=>match Cr P (eE xo || eE yo) t x y with
   | some b=>some (.bool (!b))
   | none=>none
  | _=>none
section
variable {P:Program} {ρ:Nat->a6} {D:Nat->Prop} {O:Nat->Prop} {w:World}
theorem vH{op:BinOp}{k:IntKind}{x y:Int}{v:AV}(h:sM op k x y=some v)(t:TypeId) :
  ∃z,(binOp op t (.int k x) (.int k y)).run P w = .ok z w/\VR ρ D O w v z:=by
 cases op<;>simp only[sM] at h<;>first|(cases h;done)|skip
 all_goals first
  | (cases h;refine⟨_, ?_,VR.int _ _⟩;simp[binOp,Op.intArith,intBits_and,intBits_or,intBits_xor,intBits_andNot];done)
  | (cases h;refine⟨_, ?_,VR.bool _⟩;simp[binOp,Op.intCmp];done)
  | (split at h<;>first|(cases h;done)|(rename_i hd;cases h;refine⟨_, ?_,VR.int _ _⟩;simp[binOp,Op.intDiv,J8 hd]))
theorem vB{op:BinOp}{x y:List UInt8}{v:AV}(h:sL op x y=some v)(t:TypeId) :
  ∃z,(binOp op t (.string ⟨x.toArray⟩) (.string ⟨y.toArray⟩)).run P w = .ok z w/\VR ρ D O w v z:=by
 cases op<;>simp only[sL] at h<;>first|(cases h;done)|skip
 case add=>
  split at h
  ·rename_i hd;cases h;have hd:=JV hd;refine⟨_, ?_,VR.str _⟩;have e:(⟨x.toArray⟩:ByteArray)++⟨y.toArray⟩=⟨(x++y).toArray⟩:=by
    rw[←Lib.mk_data ((⟨x.toArray⟩:ByteArray)++⟨y.toArray⟩)];congr 1
   simp[binOp,Op.stringOp,ByteArray.size,e];exact hd
  ·cases h
 all_goals (cases h;refine⟨_, ?_,VR.bool _⟩;simp[binOp,Op.stringOp])
theorem m5{op:BinOp}{k k':IntKind}{x y:Int}{v:AV}(h:oM op k x y=some v)(t:TypeId) :
  ∃z,(binOp op t (.int k x) (.int k' y)).run P w = .ok z w/\VR ρ D O w v z:=by
 unfold oM at h;split at h
 ·cases h
 ·rename_i hd;have hd:=J8 hd;split at h<;>first|(cases h;done)|skip
  all_goals
   cases h;refine⟨_, ?_,VR.int _ _⟩;simp[binOp,Op.shift,hd]
theorem mK{t:TypeId}{a b:AV}{x y:Value}{r:Bool}(h:x5 P t a b=some r)(hx:VR ρ D O w a x)(hy:VR ρ D O w b y)(d:Nat):(Op.equalIn (d+1) t x y).run P w = .ok r w:=by
 unfold x5 at h;split at h
 ·rename_i hu;split at h
  ·split at h
   ·rename_i hk;have hk:=JV hk;subst hk;cases h;cases hx;cases hy;exact run_equalIn_int w d t _ _ _ _ hu
   ·cases h
  ·cases h
 ·rename_i hu;split at h
  ·cases h;cases hx;cases hy;rw[run_equalIn_string w d t _ _ hu,ByteArray.toList_eq,ByteArray.toList_eq]
  ·cases h
 ·rename_i hu;split at h
  ·cases h;cases hx;cases hy;exact run_equalIn_bool' w d t _ _ hu
  ·cases h
 ·cases h
theorem zI{t e:TypeId}{i:TypeInfo}(hu:P.underlying t=some (.pointer e))(hi:P.info? e=some i)(a:Addr):(Op.equal t (.pointer (some a)) (.pointer (some a))).run P w = .ok true w:=by
 show (Op.equalIn (9999+1) t _ _).run P w=_
 rw[Op.equalIn,Sem.run_bind,run_underlying hu];simp only[Result.andThen_ok];have hs:(sizeOf e).run P w = .ok i.size w:=by simp[sizeOf,typeInfo,hi]
 rw[Sem.run_bind,hs];simp only[Result.andThen_ok];split
 ·simp[sameAddr]
 ·simp
theorem uI{lit:Bool}{t:TypeId}{a b:AV}{x y:Value}{r:Bool}(h:Cr P lit t a b=some r)(hx:VR ρ D O w a x)(hy:VR ρ D O w b y) :
    (Op.equal t x y).run P w = .ok r w/\∀(op:BinOp) (xo yo:Operand),lit=(eE xo || eE yo)->eqGuard op t xo yo x y=pure ():=by
  by_cases hpp:∃i j k i' j' k',a = .ptr i j k/\b = .ptr i' j' k'
  · obtain⟨i,j,k,i',j',k',rfl,rfl⟩:=hpp
    unfold Cr at h;split at h<;>first|(cases h;done)|skip
    rename_i e hu;simp only at h;split at h<;>first|(cases h;done)|skip
    rename_i inf hi;split at h<;>first|(cases h;done)|skip
    rename_i hc;cases h;simp only[JE] at hc;obtain⟨c1,c2,c3⟩:=hc;have c1:=Nat.eq_of_beq_eq_true c1;have c2:=Nat.eq_of_beq_eq_true c2;have c3:=Nat.eq_of_beq_eq_true c3;subst c1 c2 c3;cases hx;cases hy;refine⟨zI hu hi _,fun op xo yo _=>?_⟩;cases op<;>rfl
  by_cases hii:∃t1 v1 t2 v2,a = .ifc t1 v1/\b = .ifc t2 v2
  · obtain⟨t1,v1,t2,v2,rfl,rfl⟩:=hii
    unfold Cr at h;split at h<;>first|(cases h;done)|skip
    rename_i ms hu;simp only at h;cases hx with
    | ifc _ _ x1 hx1=>
      cases hy with
      | ifc _ _ y1 hy1=>
        refine⟨?_,fun op xo yo _=>by cases op<;>rfl⟩
        show (Op.equalIn (9999+1) t _ _).run P w=_
        rw[Op.equalIn,Sem.run_bind,run_underlying hu];simp only[Result.andThen_ok];split at h
        · rename_i hne
          cases h;have hne:t1≠t2:=Jk hne;simp[hne]
        · rename_i he
          have he:=Nat.eq_of_beq_eq_true he;subst he;split at h<;>first|(cases h;done)|skip
          rename_i inf hi;split at h<;>first|(cases h;done)|skip
          rename_i hcmp;have h1:=mK (P:=P) (w:=w) h hx1 hy1 9998;simp[typeInfo,hi,hcmp];exact h1
  unfold Cr at h;split at h<;>first|(cases h;done)|skip
  all_goals rename_i hu
  all_goals
    split at h<;>first|(cases h;done)|(exact absurd ⟨_,_,_,_,_,_,rfl,rfl⟩ hpp)|(exact absurd ⟨_,_,_,_,rfl,rfl⟩ hii)|skip
  all_goals first|(split at h<;>first|(cases h;done)|skip)|skip
  all_goals
    cases h;cases hx<;>cases hy<;>first
      | (refine⟨by show (Op.equalIn (9999+1) t _ _).run P w=_;rw[Op.equalIn,Sem.run_bind,run_underlying hu];rfl,fun op xo yo _=>?_⟩
         cases op<;>rfl)
      | (refine⟨by show (Op.equalIn (9999+1) t _ _).run P w=_;rw[Op.equalIn,Sem.run_bind,run_underlying hu];rfl,fun op xo yo hl=>?_⟩
         cases op<;>cases xo<;>cases yo<;>first|rfl|(simp[eE] at hl))
theorem r7{xs ys:List AV}{vs us:List Value}(hx:zZ ρ D O w xs vs)(hy:zZ ρ D O w ys us)(d:Nat):∀{fs:List Field} {r:Bool},EM P xs ys fs=some r->(Op.eqFields (d+1) vs.toArray us.toArray fs).run P w = .ok r w
 | [],r,h=>by cases h;simp[Op.eqFields]
 | f::fs,r,h=>by
  simp only[EM] at h;split at h
  ·cases h
  ·rename_i hn;have hn:f.name≠"_" := by simpa using hn
   split at h
   ·rename_i sh hsh;split at h
    ·rename_i x hx1;split at h
     ·rename_i y hy1;split at h
      ·rename_i b hb;split at h
       ·rename_i c hc;cases h;obtain⟨z1,p1,q1⟩:=kL (w:=w) hsh hx1 hx;obtain⟨z2,p2,q2⟩:=kL (w:=w) hsh hy1 hy;have e:=mK (P:=P) hb q1 q2 d;have ih:=r7 hx hy d hc;rw[Op.eqFields,JL hn,Sem.run_bind,p1,Result.andThen_ok,Sem.run_bind,p2,Result.andThen_ok,Sem.run_bind,e,Result.andThen_ok,Sem.run_ite];cases b
        ·simp
        ·simpa using ih
       ·cases h
      ·cases h
     ·cases h
    ·cases h
   ·cases h
theorem mT{t:TypeId}{a b:List AV}{x y:Value}{r:Bool}(h:Ao P t a b=some r)(hx:VR ρ D O w (.agg a) x)(hy:VR ρ D O w (.agg b) y):(Op.equal t x y).run P w = .ok r w/\∃xs ys,x = .agg xs/\y = .agg ys:=by
 unfold Ao at h;split at h
 ·rename_i fs hu;split at h
  ·rename_i hs;obtain⟨vs,rfl,hvs⟩:=hx.agg_inv;obtain⟨us,rfl,hus⟩:=hy.agg_inv;have hf:P.fieldsOf t=fs:=by simp[Program.fieldsOf,hu]
   refine⟨?_,_,_,rfl,rfl⟩
   show (Op.equalIn (9999+1) t _ _).run P w=_
   rw[run_equalIn_struct w 9999 t _ _ (by rw[hf];exact hu) hs,hf];exact r7 hvs hus 9998 h
  ·cases h
 ·cases h
theorem sD{op:BinOp}{t:TypeId}{xo yo:Operand}{a b v:AV}{x y:Value}(h:Co P op t xo yo a b=some v)(hx:VR ρ D O w a x)(hy:VR ρ D O w b y) :
  ∃z,(do eqGuard op t xo yo x y;binOp op t x y).run P w = .ok z w/\VR ρ D O w v z:=by
 unfold Co at h;split at h
 ·rename_i k p k' q;cases hx;cases hy;have g:∀op,eqGuard op t xo yo (.int k p) (.int k' q)=pure ():=fun op=>by cases op<;>rfl
  rw[g];split at h
  ·obtain⟨z,hz,hr⟩:=m5 (P:=P) (ρ:=ρ) (D:=D) (O:=O) (w:=w) (k':=k') h t;exact⟨z,by simpa using hz,hr⟩
  ·obtain⟨z,hz,hr⟩:=m5 (P:=P) (ρ:=ρ) (D:=D) (O:=O) (w:=w) (k':=k') h t;exact⟨z,by simpa using hz,hr⟩
  ·split at h
   ·rename_i hk;have hk:=JV hk;subst hk;obtain⟨z,hz,hr⟩:=vH (P:=P) (ρ:=ρ) (D:=D) (O:=O) (w:=w) h t;exact⟨z,by simpa using hz,hr⟩
   ·cases h
 ·cases hx;cases hy;have g:∀op p q,eqGuard op t xo yo (.string p) (.string q)=pure ():=fun op p q=>by cases op<;>rfl
  rw[g];obtain⟨z,hz,hr⟩:=vB (P:=P) (ρ:=ρ) (D:=D) (O:=O) (w:=w) h t;exact⟨z,by simpa using hz,hr⟩
 ·split at h
  ·rename_i hg;split at h
   ·split at h
    ·rename_i r he;cases h;obtain⟨h1,xs,ys,rfl,rfl⟩:=mT he hx hy;refine⟨.bool r, ?_,.bool _⟩;rw[Sem.run_bind,run_eqGuard_agg w _ _ _ _ _ _ hg,Result.andThen_ok,run_eql_struct];have h1:(Op.equalIn 10000 t (.agg xs) (.agg ys)).run P w = .ok r w:=h1;rw[h1];rfl
    ·cases h
   ·split at h
    ·rename_i r he;cases h;obtain⟨h1,xs,ys,rfl,rfl⟩:=mT he hx hy;refine⟨.bool (!r), ?_,.bool _⟩;rw[Sem.run_bind,run_eqGuard_agg w _ _ _ _ _ _ hg,Result.andThen_ok,run_neq_struct];have h1:(Op.equalIn 10000 t (.agg xs) (.agg ys)).run P w = .ok r w:=h1;rw[h1];rfl
    ·cases h
   ·cases h
  ·cases h
 ·rename_i hni hns hna;have nint:∀k n k' n',x = .int k n->y = .int k' n'->False:=by
   intro k n k' n' e1 e2;subst e1 e2;cases hx<;>cases hy<;>first|exact hni _ _ _ _ rfl rfl|skip
   all_goals (split at h<;>first|(cases h;done)|skip)
   all_goals (split at h<;>first|(cases h;done)|skip)
   all_goals (rename_i he;unfold Cr at he;split at he<;>first|(cases he;done)|(split at he<;>cases he))
  split at h
  ·split at h
   ·rename_i r he;cases h;obtain⟨h1,h2⟩:=uI he hx hy;rw[h2 _ _ _ rfl];refine⟨.bool r, ?_,.bool _⟩;have e:binOp .eql t x y=(do let r ←Op.equal t x y;pure (.bool r)):=by
     unfold Cr at he;split at he<;>first|(cases he;done)|skip
     all_goals (split at he<;>first|(cases he;done)|skip)
     all_goals (cases hx<;>cases hy<;>rfl)
    rw[e];simp[h1]
   ·cases h
  ·split at h
   ·rename_i r he;cases h;obtain⟨h1,h2⟩:=uI he hx hy;rw[h2 _ _ _ rfl];refine⟨.bool (!r), ?_,.bool _⟩;have e:binOp .neq t x y=(do let r ←Op.equal t x y;pure (.bool (!r))):=by
     unfold Cr at he;split at he<;>first|(cases he;done)|skip
     all_goals (split at he<;>first|(cases he;done)|skip)
     all_goals (cases hx<;>cases hy<;>rfl)
    rw[e];simp[h1]
   ·cases h
  ·cases h
end
end Go.Ax
namespace Go.Ax
open Go
def H7(op:UnOp)(x:AV):Option AV:=
 match op,x with
 | .neg,.int k n=>some (.int k (k.wrap (0-n)))
 | .not,.bool b=>some (.bool (!b))
 | _,_=>none
def cB:List AV->Option (List UInt8)
 | []=>some []
 | .int .u8 n::r=>match cB r with
  | some l=>some (UInt8.ofNat n.toNat::l)
  | none=>none
 | _=>none
def FI(P:Program)(mem:aA)(d:TypeDesc)(x:AV):Option AV:=
 match d with
 | .pointer t=>match x with
  | .ptr id i j=>match lk mem id with
   | some (.row _ sz xs)=>match P.info? t with
    | some inf=>match Nat.blt 0 inf.size && (Nat.blt i xs.length && Nat.blt j sz) with
     | true=>some (.ptr id i j)
     | false=>none
    | none=>none
   | _=>none
  | _=>none
 | _=>none
def vR(P:Program)(mem:aA)(d:TypeDesc)(u:TypeId)(x:AV):Option AV:=
 match d with
 | .unsafePointer=>match x with
  | .ptr id i j=>match lk mem id with
   | some (.row t sz xs)=>match P.info? u with
    | some _=>match liesAt P P.depth t xs.length (i*sz+j) u 1 && (Nat.blt i xs.length && (Nat.blt j sz && Nat.beq sz (P.cellsOf t))) with
     | true=>some (.ptr id i j)
     | false=>none
    | none=>none
   | _=>none
  | _=>none
 | _=>none
def sQ(P:Program)(mem:aA)(src dst:TypeId)(x:AV):Option AV:=
 match P.underlying src with
 | none=>none
 | some d=>match P.underlying dst with
  | some (.int k)=>match x with
   | .int _ n=>some (.int k (k.wrap n))
   | _=>none
  | some .string=>match x with
   | .str s=>some (.str s)
   | _=>match d with
    | .slice e=>match P.underlying e with
     | some (.int .u8)=>match x with
      | .nsl=>some (.str [])
      | .il sz xs=>match Nat.beq sz 1 with
       | true=>match cB xs with
        | some l=>some (.str l)
        | none=>none
       | false=>none
      | .sl id off len=>match lk mem id with
       | some (.row _ _ xs)=>match Nat.ble (off+len) xs.length with
        | true=>match cB ((xs.drop off).take len) with
         | some l=>some (.str l)
         | none=>none
        | false=>none
       | _=>none
      | _=>none
     | _=>none
    | _=>none
  | some .unsafePointer=>FI P mem d x
  | some (.pointer u)=>vR P mem d u x
  | _=>none
def j6(x:AV)(i:Nat):Option AV:=
 match x with
 | .tup vs=>vs[i]?
 | _=>none
def vM(P:Program)(t:TypeId)(x:AV):Option AV:=
 match P.concrete t with
 | true=>some (.ifc t x)
 | false=>none
def d6:AV->Bool
 | .tup _=>false
 | .junk=>false
 | _=>true
def nV(place:Nat->Option (Nat × Nat)):List AV->List (Nat × AV)->Option (List AV)
 | cells,[]=>some cells
 | cells,(i,v)::r=>match place i with
  | none=>none
  | some (off,size)=>match d6 v && (Nat.beq v.cells.length size && Nat.ble (off+v.cells.length) cells.length) with
   | true=>nV place (v.cells.zipIdx.foldl (fun cs p=>cs.set (off+p.2) p.1) cells) r
   | false=>none
def kY(P:Program):List Field->Option (List (Nat × Nat))
 | []=>some []
 | f::r=>match cF P f.type with
  | some n=>match kY P r with
   | some l=>some ((f.offset,n)::l)
   | none=>none
  | none=>none
def sG(P:Program)(t:TypeId)(parts:List (Nat × AV)):Option AV:=
 match P.info? t with
 | some it=>match it.zero with
  | some z=>match lO z with
   | some (.agg zs)=>match P.underlying t with
    | some (.array _ e)=>match cF P e with
     | some n=>match nV (fun i=>some (i*n,n)) zs parts with
      | some cs=>some (.agg cs)
      | none=>none
     | none=>none
    | some (.struct fs)=>match kY P fs.toList with
     | some places=>match nV (fun i=>places[i]?) zs parts with
      | some cs=>some (.agg cs)
      | none=>none
     | none=>none
    | _=>none
   | _=>none
  | none=>none
 | none=>none
section
variable {P:Program} {Γ:List (Nat × AV)} {X:Nat->Prop} {ρ:Nat->a6} {D:Nat->Prop} {O:Nat->Prop} {mem:aA} {w:World}
theorem uP{op:UnOp}{a v:AV}{x:Value}(h:H7 op a=some v)(hx:VR ρ D O w a x) :
  ∃z,(Op.unary op x).run P w = .ok z w/\VR ρ D O w v z:=by
 unfold H7 at h;split at h<;>first|(cases h;done)|skip
 ·cases h;cases hx;exact⟨_,by simp[Op.unary,Op.intArith],.int _ _⟩
 ·cases h;cases hx;exact⟨_,by simp[Op.unary],.bool _⟩
theorem lS{msg:String}:∀{xs:List AV} {l:List UInt8} {vs:List Value},cB xs=some l->dO ρ D O w xs vs ->
  ∀(s:ByteArray),(forIn vs s fun c __s=>
     match c with
     | Value.int IntKind.u8 n=>(pure (ForInStep.yield (__s.push (UInt8.ofNat n.toNat))):Sem (ForInStep ByteArray))
     | _=>do
      stuck msg
      pure (ForInStep.yield __s)).run P w = .ok ⟨s.data++l.toArray⟩ w
 | [],l,vs,h,hv,s=>by
  have:vs=[]:=by have:=hv.1;simp at this;exact JF this.symm
  subst this;simp[cB] at h;subst h;simp
 | a::xs,l,vs,h,hv,s=>by
  cases vs with
  | nil=>have:=hv.1;simp at this
  | cons v vs=>
   unfold cB at h;split at h
   ·rename_i e;cases e
   ·rename_i n r e;cases e;split at h
    ·rename_i l' hl;cases h;have h0:=hv.2 0 _ v rfl rfl;cases h0;have hr:dO ρ D O w xs vs:=⟨by have:=hv.1;simpa using this,fun j c x h1 h2=>hv.2 (j+1) c x (by simpa using h1) (by simpa using h2)⟩
     have ih:=lS (msg:=msg) hl hr (s.push (UInt8.ofNat n.toNat));simp only[List.forIn_cons,pure_bind];rw[ih];simp[ByteArray.push]
    ·cases h
   ·cases h
theorem dO.set{cs:List AV}{vs:List Value}(h:dO ρ D O w cs vs){c:AV}{x:Value}(hc:VR ρ D O w c x)(i:Nat):dO ρ D O w (cs.set i c) (vs.set i x):=by
 refine⟨by simp[h.1],fun j c' x' h1 h2=>?_⟩;rw[KC] at h1 h2;by_cases hij:i=j
 ·subst hij;simp only[if_true] at h1 h2;split at h1
  ·split at h2
   ·cases h1;cases h2;exact hc
   ·cases h2
  ·cases h1
 ·rw[JJ hij] at h1 h2;exact h.2 j c' x' h1 h2
theorem dO.sets{off:Nat}:∀{as:List AV} {xs:List Value} (_:dO ρ D O w as xs) (k:Nat) {cs:List AV} {vs:List Value} (_:dO ρ D O w cs vs),
  dO ρ D O w ((as.zipIdx k).foldl (fun cs p=>cs.set (off+p.2) p.1) cs) ((xs.zipIdx k).foldl (fun cs p=>cs.set (off+p.2) p.1) vs)
 | [],xs,ha,k,cs,vs,h=>by
  have:xs=[]:=by have:=ha.1;simp at this;exact JF this.symm
  subst this;exact h
 | a::as,xs,ha,k,cs,vs,h=>by
  cases xs with
  | nil=>have:=ha.1;simp at this
  | cons x xs=>
   simp only[LE,KV];exact dO.sets ⟨by have:=ha.1;simpa using this,fun j c x h1 h2=>ha.2 (j+1) c x (by simpa using h1) (by simpa using h2)⟩ (k+1) (h.set (ha.2 0 a x rfl rfl) _)
theorem dL(off:Nat):∀(l:List (Value × Nat)) (A:Array Value),
  (l.foldl (fun cs p=>cs.setIfInBounds (off+p.2) p.1) A).toList=l.foldl (fun cs p=>cs.set (off+p.2) p.1) A.toList
 | [],A=>rfl
 | p::l,A=>by simp only[KV];rw[dL off l];simp
theorem VR.cells_of{a:AV}{x:Value}(h:VR ρ D O w a x)(hj:d6 a=true):zZ ρ D O w a.cells x.cells.toList:=by
 cases h
 case agg cs arr hl ho hr=>exact⟨⟨by simpa[AV.cells,Value.cells] using hl,fun j c x h1 h2=>hr j c x h1 (by simpa[Value.cells] using h2)⟩,by simpa[Value.cells] using ho⟩
 case junk=>simp[d6] at hj
 case tup=>simp[d6] at hj
 all_goals exact⟨dO.cons (by constructor<;>assumption) .nil,by simp[Value.cells,Value.oneCell']⟩
theorem zZ.get{cs:List AV}{vs:List Value}(h:zZ ρ D O w cs vs){j:Nat}{c:AV}(hj:cs[j]? = some c):∃v,vs[j]? = some v/\v.oneCell'=true/\VR ρ D O w c v:=by
 have hlt:j<vs.length:=by
  rw[←h.1.1];rcases JK j cs.length with h'|h'
  ·exact h'
  ·rw[JH h'] at hj;cases hj
 exact⟨vs[j],by simp[hlt],h.2 _ (by simp),h.1.2 j c _ hj (by simp[hlt])⟩
theorem zK{off:Nat}:∀(l:List (Value × Nat)) (L:List Value),(∀p∈l,p.1.oneCell'=true)->(∀x∈L,x.oneCell'=true) ->
  ∀x∈l.foldl (fun cs p=>cs.set (off+p.2) p.1) L,x.oneCell'=true
 | [],L,h1,h2=>h2
 | p::l,L,h1,h2=>by
  simp only[KV];refine zK l _ (fun q hq=>h1 q (JO _ hq)) (fun x hx=>?_);rcases K8 hx with h|rfl
  ·exact h2 x h
  ·exact h1 p (JW ..)
theorem kT{place:Nat->Option (Nat × Nat)}:∀{parts:List (Nat × AV)} {ps:List (Nat × Value)} {cells cs:List AV} {A:Array Value},
  nV place cells parts=some cs->parts.length=ps.length ->
  (∀(j:Nat) (p:Nat × AV) (q:Nat × Value),parts[j]? = some p->ps[j]? = some q->p.1=q.1/\VR ρ D O w p.2 q.2) ->
  zZ ρ D O w cells A.toList->∃B:Array Value,Instr.fill place A ps=some B/\zZ ρ D O w cs B.toList
 | [],ps,cells,cs,A,h,hl,hp,hA=>by
  have:ps=[]:=by simp at hl;exact JF hl.symm
  subst this;simp only[nV] at h;cases h;exact⟨A,rfl,hA⟩
 | (i,v)::r,ps,cells,cs,A,h,hl,hp,hA=>by
  cases ps with
  | nil=>simp at hl
  | cons q ps=>
   obtain⟨i',x⟩:=q;obtain⟨e,hv⟩:=hp 0 _ _ rfl rfl;simp only at e hv;subst e;simp only[nV] at h;split at h
   ·cases h
   ·rename_i off size hpl;split at h
    ·rename_i hb;simp only[JE] at hb;have h1:=Nat.eq_of_beq_eq_true hb.2.1;have h2:=JB hb.2.2;have hc:=hv.cells_of hb.1;have e1:x.cells.size=size:=by rw[←h1,hc.1.1];simp
     have e2:off+x.cells.size<=A.size:=by have:=hA.1.1;have:=hc.1.1;simp at this ⊢;simp at *;omega
     have ih:=kT (A:=Array.foldl (fun cs p=>cs.setIfInBounds (off+p.2) p.1) A x.cells.zipIdx) h (by simpa using hl)
      (fun j p q h1 h2=>hp (j+1) p q (by simpa using h1) (by simpa using h2)) (by
       rw[←Array.foldl_toList,dL,Array.toList_zipIdx];exact⟨hc.1.sets 0 hA.1,zK _ _ (fun p hp=>hc.2 _ (List.fst_mem_of_mem_zipIdx hp)) hA.2⟩)
     obtain⟨B,hB,hr⟩:=ih;refine⟨B, ?_,hr⟩;rw[Instr.fill];simp only[hpl];rw[JJ (by simp[e1];omega)];exact hB
    ·cases h
theorem lT:∀{fs:List Field} {l:List (Nat × Nat)},kY P fs=some l->fs.mapM (fun f=>(P.info? f.type).map fun i=>(f.offset,i.size))=some l
 | [],l,h=>by simp only[kY] at h;cases h;rfl
 | f::r,l,h=>by
  simp only[kY] at h;split at h
  ·rename_i n hn;split at h
   ·rename_i l' hl;cases h;unfold cF at hn;split at hn
    ·rename_i i hi;cases hn;simp[hi,lT hl]
    ·cases hn
   ·cases h
  ·cases h
theorem mZ{t:TypeId}{parts:List (Nat × AV)}{ps:List (Nat × Value)}{v:AV}(h:sG P t parts=some v)(hl:parts.length=ps.length)
  (hp:∀(j:Nat) (p:Nat × AV) (q:Nat × Value),parts[j]? = some p->ps[j]? = some q->p.1=q.1/\VR ρ D O w p.2 q.2) :
  ∃z,(Instr.build t ps.toArray).run P w = .ok z w/\VR ρ D O w v z:=by
 unfold sG at h;split at h
 ·rename_i it hit;split at h
  ·rename_i z hz;split at h
   ·rename_i zs hzs;obtain⟨vs,rfl,hvs⟩:=(dU (ρ:=ρ) (D:=D) (O:=O) (w:=w) hzs).agg_inv;split at h
    ·rename_i m e hu;split at h
     ·rename_i n hn;split at h
      ·rename_i cs hcs;cases h;obtain⟨B,hB,hr⟩:=kT (A:=vs.toArray) hcs hl hp (by simpa using hvs);have hb:P.built t ps.toArray.toList=some B:=by
        unfold cF at hn;split at hn
        ·rename_i ie hie;cases hn;simp[Program.built,hit,hu,hz,hie,Value.cells,hB]
        ·cases hn
       exact⟨.agg B,run_build w t _ B hb,by have:=hr.agg;simpa using this⟩
      ·cases h
     ·cases h
    ·rename_i fs hu;split at h
     ·rename_i places hpl;split at h
      ·rename_i cs hcs;cases h;obtain⟨B,hB,hr⟩:=kT (A:=vs.toArray) hcs hl hp (by simpa using hvs);have hb:P.built t ps.toArray.toList=some B:=by
        simp[Program.built,hit,hu,hz,lT hpl,Value.cells,hB]
       exact⟨.agg B,run_build w t _ B hb,by have:=hr.agg;simpa using this⟩
      ·cases h
     ·cases h
    ·cases h
   ·cases h
  ·cases h
 ·cases h
end
end Go.Ax
namespace Go.Ax
open Go
def bT(d:Nat):Option AV->Option Nat
 | none=>some d
 | some (.int _ n)=>match decide (0<=n) with
  | true=>some n.toNat
  | false=>none
 | some _=>none
def rI(P:Program)(mem:aA)(t:TypeId)(x:AV)(lo hi mx:Option AV):Option AV:=
 match P.underlying t with
 | some .string=>match x,mx with
  | .str s,none=>match bT 0 lo with
   | some l=>match bT s.length hi with
    | some h=>match Nat.ble l h && Nat.ble h s.length with
     | true=>some (.str ((s.drop l).take (h-l)))
     | false=>none
    | none=>none
   | none=>none
  | _,_=>none
 | some (.slice e)=>match cF P e with
  | none=>none
  | some sz=>match x with
   | .nsl=>match bT 0 lo,bT 0 hi,bT 0 mx with
    | some 0,some 0,some 0=>some .nsl
    | _,_,_=>none
   | .il sz' xs=>match Nat.beq sz sz' with
    | true=>match bT 0 lo,bT xs.length hi,bT xs.length mx with
     | some l,some h,some m=>match Nat.ble l h && (Nat.ble h m && Nat.ble m xs.length) with
      | true=>some (.il sz' ((xs.drop l).take (h-l)))
      | false=>none
     | _,_,_=>none
    | false=>none
   | .sl id off len=>match lk mem id with
    | some (.row _ sz0 _)=>match Nat.beq sz0 sz with
     | true=>match bT 0 lo,bT len hi,bT len mx with
      | some l,some h,some m=>match Nat.ble l h && (Nat.ble h m && Nat.ble m len) with
       | true=>some (.sl id (off+l) (h-l))
       | false=>none
      | _,_,_=>none
     | false=>none
    | _=>none
   | _=>none
 | some (.array n e)=>match cF P e with
  | none=>none
  | some sz=>match x with
   | .ptr id i 0=>match lk mem id with
    | some (.row _ _ xs)=>match rR mem id i 0 sz && Nat.ble (i+n) xs.length with
     | true=>match bT 0 lo,bT n hi,bT n mx with
      | some l,some h,some m=>match Nat.ble l h && (Nat.ble h m && Nat.ble m n) with
       | true=>some (.sl id (i+l) (h-l))
       | false=>none
      | _,_,_=>none
     | false=>none
    | _=>none
   | _=>none
 | _=>none
def D6(P:Program)(mem:aA)(t:TypeId)(x:AV):Option AV:=
 match P.underlying t with
 | some .string=>match x with
  | .str s=>some (.int .i64 (s.length:Int))
  | _=>none
 | some (.array n _)=>some (.int .i64 (n:Int))
 | some (.slice _)=>match x with
  | .nsl=>some (.int .i64 0)
  | .il _ xs=>some (.int .i64 (xs.length:Int))
  | .sl _ _ len=>some (.int .i64 (len:Int))
  | _=>none
 | some (.map _ _)=>match x with
  | .nmap=>some (.int .i64 0)
  | _=>none
 | _=>none
def CW:Int->List AV->Option Int
 | x,[]=>some x
 | x,.int _ y::r=>CW (if y<x then y else x) r
 | _,_=>none
def B5:Int->List AV->Option Int
 | x,[]=>some x
 | x,.int _ y::r=>B5 (if y>x then y else x) r
 | _,_=>none
section
variable {P:Program} {Γ:List (Nat × AV)} {X:Nat->Prop} {ρ:Nat->a6} {D:Nat->Prop} {O:Nat->Prop} {mem:aA} {w:World}
theorem CS{xs:List AV}{b off:Nat}{f:AV->Value->Prop}
  (hs:∀(i:Nat) (x:AV),xs[i]? = some x->x.cells.length=1)
  (hc:∀(i:Nat) (x:AV),xs[i]? = some x->∃v,w.cell? ⟨b,off+i,none⟩=some v/\f x v) :
  ∃vs:List Value,vs.length=xs.length/\(∀(j:Nat) (v:Value),vs[j]? = some v->w.cell? (Addr.add ⟨b,off,none⟩ j)=some v) /\
   ∀(j:Nat) (c:AV) (x:Value),xs[j]? = some c->vs[j]? = some x->f c x:=by
 refine⟨(List.range xs.length).map fun i=>(w.cell? ⟨b,off+i,none⟩).getD undef,by simp,fun j v hj=>?_,fun j c x h1 h2=>?_⟩
 ·have hlt:j<xs.length:=by
   rcases JK j xs.length with h|h
   ·exact h
   ·simp[h] at hj
  obtain⟨v',hv',_⟩:=hc j _ (I9 hlt);simp[hlt,hv'] at hj;subst hj;simp[Addr.add_lit,hv']
 ·have hlt:j<xs.length:=by
   rcases JK j xs.length with h|h
   ·exact h
   ·simp[h] at h2
  obtain⟨v',hv',hr⟩:=hc j c h1;simp[hlt,hv'] at h2;subst h2;exact hr
theorem g9:∀{xs:List AV} {l:List UInt8},cB xs=some l->∀(i:Nat) (x:AV),xs[i]? = some x->x.cells=[x]
 | [],l,h,i,x,hi=>by simp at hi
 | a::xs,l,h,i,x,hi=>by
  unfold cB at h;split at h
  ·rename_i e;cases e
  ·rename_i n r e;cases e;split at h
   ·rename_i l' hl;cases i with
    | zero=>simp at hi;subst hi;rfl
    | succ i=>exact g9 hl i x (by simpa using hi)
   ·cases h
  ·cases h
theorem gU{xs:List AV}{l:List UInt8}(h:cB xs=some l){b off cap:Nat}
  (hc:∀(i:Nat) (x:AV),xs[i]? = some x->∃v,w.cell? ⟨b,off+i,none⟩=some v/\VR ρ D O w x v) :
  (Conv.bytesToString (.slice (some ⟨b,off,none⟩) xs.length cap)).run P w = .ok (.string ⟨l.toArray⟩) w:=by
 obtain⟨vs,hl,hv,hr⟩:=CS (w:=w) (b:=b) (off:=off) (f:=VR ρ D O w) (fun i x hi=>by rw[g9 h i x hi];rfl) hc;have hload:=run_loadCells_list (P:=P) w ⟨b,off,none⟩ vs hv;have hfor:=fun msg:String=>lS (msg:=msg) (P:=P) (w:=w) (ρ:=ρ) (D:=D) (O:=O) h ⟨hl.symm,hr⟩ ByteArray.empty
 simp only[Conv.bytesToString];rw[←hl,Sem.run_bind,hload];simp only[Result.andThen_ok];rw[Sem.run_bind,List.forIn_toArray];refine(congrArg (fun r:Result ByteArray=>r.andThen fun a w'=>Sem.run P (pure (Value.string a)) w') (hfor _)).trans ?_;simp[ByteArray.empty,ByteArray.emptyWithCapacity];rfl
theorem zR{p:Program}{fits:TypeId->Bool}{e count count' off n:Nat}(hc:count<=count'):∀d:Nat,rowAt p fits d e count off n=true->rowAt p fits d e count' off n=true
 | 0,h=>by simp[rowAt] at h
 | d+1,h=>by
  unfold rowAt at h ⊢
  dsimp only at h ⊢
  by_cases hs:p.cellsOf e=0
  ·simp[hs] at h
  ·rw[JJ hs] at h ⊢;simp only[KW,JE,K9] at h ⊢;rcases h with⟨⟨h1,h2⟩,h3⟩|⟨h1,h2⟩
   ·exact .inl ⟨⟨h1,om⟩,h3⟩
   ·exact .inr ⟨om,h2⟩
theorem pQ{p:Program}{e count count' off:Nat}(hc:count<=count'):∀(d u n:Nat),liesAt p d e count off u n=true->liesAt p d e count' off u n=true
 | 0,u,n,h=>by simp[liesAt] at h
 | d+1,u,n,h=>by
  unfold liesAt at h ⊢;simp only[KW] at h ⊢;rcases h with h|h
  ·exact .inl (zR hc _ h)
  ·right;split at h
   ·exact pQ hc d _ _ h
   ·cases h
theorem uK(hm:MR Γ X ρ D mem w){id:Nat}{t:TypeId}{sz:Nat}{xs:List AV}(hid:lk mem id=some (.row t sz xs)){i:Nat}(hi:i<xs.length) :
  (ρ id).sz=sz/\w.shape? (ρ id).b=some (t,(ρ id).n)/\xs.length*sz<=(ρ id).n:=by
 have hin:=aF hid;rcases JT (ρ id).n with h0|h0
 ·obtain⟨t',sz',e1,_⟩:=hm.emp _ hin h0;cases e1;simp at hi
 ·obtain⟨o,ho,hsz,arr,fr,rfl,hf,hs,hle,_⟩:=hm.blk _ hin h0;simp only at ho hsz hs hle;exact⟨hsz,by simp[World.shape?,ho,hs],by rw[←hsz];exact hle⟩
theorem AD(hm:MR Γ X ρ D mem w){src dst:TypeId}{d:TypeDesc}{a v:AV}{x:Value}(hd:P.underlying src=some d)(hu:P.underlying dst=some .unsafePointer)(h:FI P mem d a=some v)(hx:VR ρ D (OX X ρ mem) w a x) :
  ∃z,(convert src dst x).run P w = .ok z w/\VR ρ D (OX X ρ mem) w v z:=by
 unfold FI at h;split at h<;>first|(cases h;done)|skip
 rename_i t;split at h<;>first|(cases h;done)|skip
 rename_i id i j;split at h<;>first|(cases h;done)|skip
 rename_i t' sz xs hid;split at h<;>first|(cases h;done)|skip
 rename_i inf hi;split at h<;>first|(cases h;done)|skip
 rename_i hc;cases h;simp only[JE] at hc;obtain⟨c1,c2,c3⟩:=hc;have c1:0<inf.size:=JB c1;have c2:i<xs.length:=JB c2;have c3:j<sz:=JB c3;obtain⟨hsz,hsh,hle⟩:=uK hm hid c2;have hx0:=hx;cases hx;refine⟨_, ?_,hx0⟩;have hlt:i*(ρ id).sz+j<(ρ id).n:=by
  rw[hsz];have h1:(i+1)*sz<=xs.length*sz:=JP _ c2;rw[Nat.add_mul] at h1;omega
 have hne:¬inf.size=0:=om;have hge:¬(ρ id).n<=i*(ρ id).sz+j:=om;simp[convert,run_underlying hd,run_underlying hu,Conv.unsafePointer,Conv.seenAt,viewAt,cellsIn,hsh,sizeOf,typeInfo,hi,hne,hge]
theorem vA(hm:MR Γ X ρ D mem w){src dst u:TypeId}{d:TypeDesc}{a v:AV}{x:Value}(hd:P.underlying src=some d)(hu:P.underlying dst=some (.pointer u))(h:vR P mem d u a=some v)(hx:VR ρ D (OX X ρ mem) w a x) :
  ∃z,(convert src dst x).run P w = .ok z w/\VR ρ D (OX X ρ mem) w v z:=by
 unfold vR at h;split at h<;>first|(cases h;done)|skip
 split at h<;>first|(cases h;done)|skip
 rename_i id i j;split at h<;>first|(cases h;done)|skip
 rename_i t' sz xs hid;split at h<;>first|(cases h;done)|skip
 rename_i inf hi;split at h<;>first|(cases h;done)|skip
 rename_i hc;cases h;simp only[JE] at hc;obtain⟨c1,c2,c3,c4⟩:=hc;have c2:i<xs.length:=JB c2;have c3:j<sz:=JB c3;have c4:=Nat.eq_of_beq_eq_true c4;obtain⟨hsz,hsh,hle⟩:=uK hm hid c2;have hx0:=hx;cases hx;refine⟨_, ?_,hx0⟩;have hl:liesAt P P.depth t' ((ρ id).n/P.cellsOf t') (i*(ρ id).sz+j) u 1=true:=by
  rw[hsz];refine pQ ?_ _ _ _ c1;rw[←c4];exact(Nat.le_div_iff_mul_le om).2 hle
 simp[convert,run_underlying hd,run_underlying hu,Conv.unsafePointer,Conv.seenAt,viewAt,variablesAt,hsh,sizeOf,typeInfo,hi,hl]
theorem pR(hm:MR Γ X ρ D mem w){src dst:TypeId}{a v:AV}{x:Value}(h:sQ P mem src dst a=some v)(hx:VR ρ D (OX X ρ mem) w a x) :
  ∃z,(convert src dst x).run P w = .ok z w/\VR ρ D (OX X ρ mem) w v z:=by
 unfold sQ at h;split at h
 ·cases h
 ·rename_i d hd;split at h
  ·rename_i k hk;split at h
   ·cases h;cases hx;exact⟨_,by simp[convert,run_underlying hd,run_underlying hk,Conv.intToInt],.int _ _⟩
   ·cases h
  ·rename_i hk;split at h
   ·cases h;cases hx;exact⟨_,by simp[convert,run_underlying hd,run_underlying hk],.str _⟩
   ·split at h
    ·rename_i e;split at h
     ·rename_i he;split at h
      ·cases h;cases hx;refine⟨_, ?_,.str []⟩;simp[convert,run_underlying hd,run_underlying hk,run_underlying he,Conv.bytesToString];rfl
      ·rename_i sz xs _;split at h
       ·rename_i hsz;have hsz:=Nat.eq_of_beq_eq_true hsz;subst hsz;split at h
        ·rename_i l hl;cases h;cases hx with
         | il _ _ b off cap f h0 h1 h2 h3=>
          refine⟨_, ?_,.str l⟩;have:=gU (P:=P) (w:=w) (ρ:=ρ) (D:=D) (O:=OX X ρ mem) hl (b:=b) (off:=off) (cap:=cap) (fun i x hi=>by
           have hc:x.cells=[x]:=g9 hl i x hi;have h4:=h2 i x 0 x hi (by rw[hc];rfl);exact⟨f i 0,by simpa using h4.2.1,h3 i x 0 x hi (by rw[hc];rfl)⟩)
          simp[convert,run_underlying hd,run_underlying hk,run_underlying he,this]
         | iln=>
          simp[cB] at hl;subst hl;refine⟨_, ?_,.str []⟩;simp[convert,run_underlying hd,run_underlying hk,run_underlying he,Conv.bytesToString];rfl
        ·cases h
       ·cases h
      ·rename_i id off len _;split at h
       ·rename_i t' sz0 xs hid;split at h
        ·rename_i hle;have hle:=JB hle;split at h
         ·rename_i l hl;cases h;have hlen:((xs.drop off).take len).length=len:=by simp;omega
          cases hx with
          | sl _ _ _ cap hid' h1 h2=>
           refine⟨_, ?_,.str l⟩;have:=gU (P:=P) (w:=w) (ρ:=ρ) (D:=D) (O:=OX X ρ mem) hl (b:=(ρ id).b) (off:=off*(ρ id).sz) (cap:=cap) (fun i x hi=>by
            have hc:x.cells=[x]:=g9 hl i x hi;have hi':xs[off+i]? = some x:=by
             rw[Jb] at hi;split at hi
             ·rw[Jc] at hi;exact hi
             ·cases hi
            obtain⟨hz,hcell⟩:=cC hm hid hi';obtain⟨v,hv,_,hr⟩:=hcell 0 x (by rw[hc];rfl);have hsz:(ρ id).sz=1:=by rw[←hz,hc];rfl
            refine⟨v, ?_,hr⟩;rw[hsz] at hv ⊢;simpa using hv)
           rw[hlen] at this;simp[convert,run_underlying hd,run_underlying hk,run_underlying he,this]
          | slz _ _ a' ao' hid'=>
           simp[cB] at hl;subst hl;refine⟨_, ?_,.str []⟩;simp[convert,run_underlying hd,run_underlying hk,run_underlying he,Conv.bytesToString,loadCells,loadCellsFrom];rfl
          | slzn _ _ hid'=>
           simp[cB] at hl;subst hl;refine⟨_, ?_,.str []⟩;simp[convert,run_underlying hd,run_underlying hk,run_underlying he,Conv.bytesToString];rfl
         ·cases h
        ·cases h
       ·cases h
      ·cases h
     ·cases h
    ·cases h
  ·rename_i hk;exact AD hm hd hk h hx
  ·rename_i u hk;exact vA hm hd hk h hx
  ·cases h
theorem kC{a v:AV}{i:Nat}{x:Value}(h:j6 a i=some v)(hx:VR ρ D O w a x):∃z,(Instr.extract x i).run P w = .ok z w/\VR ρ D O w v z:=by
 unfold j6 at h;split at h
 ·obtain⟨vs,rfl,hl,hr⟩:=hx.tup_inv;rename_i cs;have hlt:i<vs.length:=by
   rcases JK i vs.length with h'|h'
   ·exact h'
   ·rw[JH om] at h;cases h
  exact⟨vs[i],by simp[Instr.extract,hlt],hr i v _ h (by simp[hlt])⟩
 ·cases h
theorem nE{t:TypeId}{a v:AV}{x:Value}(h:vM P t a=some v)(hx:VR ρ D O w a x):∃z,(Instr.makeInterface t x).run P w = .ok z w/\VR ρ D O w v z:=by
 unfold vM at h;split at h
 ·rename_i hc;cases h;exact⟨.iface t x,run_makeInterface w t x hc,.ifc t a x hx⟩
 ·cases h
inductive Bl (ρ:Nat->a6) (D:Nat->Prop) (O:Nat->Prop) (w:World):Option AV->Option Value->Prop
 | none:Bl ρ D O w none none
 | some (a:AV) (x:Value):VR ρ D O w a x->Bl ρ D O w (some a) (some x)
theorem iV{a:Option AV}{x:Option Value}{d l:Nat}(h:bT d a=some l)(hx:Bl ρ D O w a x)(y:Nat)(hy:l<=y)(c:BoundsCode) :
  (x=none/\l=d)∨∃v,x=some v/\(Instr.sliceBound v y c).run P w = .ok l w:=by
 cases hx with
 | none=>simp only[bT] at h;cases h;exact .inl ⟨rfl,rfl⟩
 | some a x hr=>
  right;refine⟨x,rfl, ?_⟩;unfold bT at h;split at h
  ·rename_i e;cases e
  ·rename_i k n e;cases e;cases hr;split at h
   ·rename_i hn;have hn:=JV hn;cases h;have h2:n<=(y:Int):=om;simp[Instr.sliceBound,asIntOf,hn,h2]
   ·cases h
  ·cases h
theorem mN{isS:Bool}{len cap l h m:Nat}{lo hi mx:Option AV}{x y z:Option Value}(h1:bT 0 lo=some l)(h2:bT len hi=some h)
  (r1:Bl ρ D O w lo x) (r2:Bl ρ D O w hi y) (r3:Bl ρ D O w mx z) (hl:l<=h) (hh:h<=m) (hm:(z=none/\m=cap)∨(z.isSome=true/\y.isSome=true/\bT cap mx=some m/\m<=cap)) :
  (Instr.sliceBounds isS len cap x y z).run P w = .ok (l,h,m) w:=by
 have b1:=fun c=>iV (P:=P) (w:=w) h1 r1 h hl c
 have b2:=fun c=>iV (P:=P) (w:=w) h2 r2 m hh c
 rcases hm with⟨rfl,rfl⟩|⟨hz,hy,h3,hmc⟩
 ·rcases b1 .sliceB with⟨rfl,rfl⟩|⟨v,rfl,_⟩
  ·rcases b2 .sliceB with⟨rfl,rfl⟩|⟨u,rfl,_⟩
   ·simp[Instr.sliceBounds]
   ·have e:=fun c=>(b2 c).resolve_left (by simp)
    simp only[Option.some.injEq,exists_eq_left'] at e;simp[Instr.sliceBounds,e]
  ·have e1:=fun c=>(b1 c).resolve_left (by simp)
   simp only[Option.some.injEq,exists_eq_left'] at e1;rcases b2 .sliceB with⟨rfl,rfl⟩|⟨u,rfl,_⟩
   ·simp[Instr.sliceBounds,e1]
   ·have e:=fun c=>(b2 c).resolve_left (by simp)
    simp only[Option.some.injEq,exists_eq_left'] at e;simp[Instr.sliceBounds,e,e1]
 ·have b3:=fun c=>iV (P:=P) (w:=w) h3 r3 cap hmc c
  obtain⟨zv,rfl⟩:=Kl.1 hz;obtain⟨yv,rfl⟩:=Kl.1 hy;have e3:=fun c=>(b3 c).resolve_left (by simp)
  have e2:=fun c=>(b2 c).resolve_left (by simp)
  simp only[Option.some.injEq,exists_eq_left'] at e2 e3;rcases b1 .sliceB with⟨rfl,rfl⟩|⟨v,rfl,_⟩
  ·simp[Instr.sliceBounds,e3,e2]
  ·have e1:=fun c=>(b1 c).resolve_left (by simp)
   simp only[Option.some.injEq,exists_eq_left'] at e1;simp[Instr.sliceBounds,e3,e2,e1]
theorem jV(hm:MR Γ X ρ D mem w){id:Nat}{t:TypeId}{sz:Nat}{xs:List AV}(hid:lk mem id=some (.row t sz xs)):(ρ id).sz=sz:=by
 rcases JT (ρ id).n with h|h
 ·obtain⟨t',sz',e,h2⟩:=hm.emp _ (aF hid) h;cases e;exact h2
 ·obtain⟨o,ho,h2,_⟩:=hm.blk _ (aF hid) h;exact h2
theorem Bh{a:Option AV}{x:Option Value}(h:Bl ρ D O w a x):x.isSome=a.isSome:=by cases h<;>rfl
theorem b9{isS:Bool}{len cap l h m:Nat}{lo hi mx:Option AV}{x y z:Option Value}(h1:bT 0 lo=some l)(h2:bT len hi=some h)
  (h3:bT len mx=some m) (hlc:len<=cap)
  (r1:Bl ρ D O w lo x) (r2:Bl ρ D O w hi y) (r3:Bl ρ D O w mx z) (hl:l<=h) (hh:h<=m) (hm:m<=len) (hmx:mx.isSome=true->hi.isSome=true) :
  ∃m',h<=m'/\m'<=cap/\(Instr.sliceBounds isS len cap x y z).run P w = .ok (l,h,m') w:=by
 cases mx with
 | none=>
  cases r3;exact⟨cap,om,JG _,mN h1 h2 r1 r2 .none hl om (.inl ⟨rfl,rfl⟩)⟩
 | some a=>
  have hz:=Bh r3;have hy:=Bh r2;refine⟨m,hh,om,mN h1 h2 r1 r2 r3 hl hh (.inr ⟨hz,by rw[hy];exact hmx rfl, ?_,om⟩)⟩;cases a<;>simp only[bT] at h3 ⊢ <;> exact h3
theorem nC(hm:MR Γ X ρ D mem w){t:TypeId}{a v:AV}{x:Value}{lo hi mx:Option AV}{x1 x2 x3:Option Value}(h:rI P mem t a lo hi mx=some v)
  (hx:VR ρ D (OX X ρ mem) w a x) (r1:Bl ρ D (OX X ρ mem) w lo x1) (r2:Bl ρ D (OX X ρ mem) w hi x2) (r3:Bl ρ D (OX X ρ mem) w mx x3) (hmx:mx.isSome=true->hi.isSome=true) :
  ∃z,(Instr.sliceAt t x x1 x2 x3).run P w = .ok z w/\VR ρ D (OX X ρ mem) w v z:=by
 unfold rI at h;split at h
 ·rename_i hu;split at h
  ·rename_i s;cases r3;split at h
   ·rename_i l hl;split at h
    ·rename_i hh hhi;split at h
     ·rename_i hb;rw[JE] at hb;have b1:=JB hb.1;have b2:=JB hb.2;cases h;cases hx;have hb:=mN (P:=P) (isS:=false) (len:=s.length) (cap:=s.length) (m:=s.length) hl hhi r1 r2 .none b1 b2 (.inl ⟨rfl,rfl⟩);refine⟨_, ?_,.str _⟩;have hsz:(⟨s.toArray⟩:ByteArray).size=s.length:=by simp[ByteArray.size]
      simp only[Instr.sliceAt,Sem.run_bind,run_underlying hu,Result.andThen_ok,Instr.slice,hsz,Option.isSome_none,J6,if_false,hb,ByteArray.extract_mk];rfl
     ·cases h
    ·cases h
   ·cases h
  ·cases h
 ·rename_i e hu;split at h
  ·cases h
  ·rename_i sz hsz;have hrun:=cQ (w:=w) hsz;split at h
   ·split at h
    ·rename_i h1 h2 h3;cases h;cases hx;obtain⟨m',_,hm',hb⟩:=b9 (P:=P) (isS:=true) (cap:=0) h1 h2 h3 (JG _) r1 r2 r3 (JG _) (JG _) (JG _) hmx;have:m'=0:=om;subst this;refine⟨_, ?_,.nsl⟩;simp only[Instr.sliceAt,Sem.run_bind,run_underlying hu,Result.andThen_ok,Instr.slice,hb,hrun];rfl
    ·cases h
   ·rename_i sz' xs;split at h
    ·rename_i hsz';have hsz':=Nat.eq_of_beq_eq_true hsz';subst hsz';split at h
     ·rename_i l hh m h1 h2 h3;split at h
      ·rename_i hb;simp only[JE] at hb;have b1:=JB hb.1;have b2:=JB hb.2.1;have b3:=JB hb.2.2;cases h;cases hx with
       | il _ _ b off cap f g0 g1 g2 g3=>
        obtain⟨m',hm1,hm2,hb⟩:=b9 (P:=P) (isS:=true) (cap:=cap) h1 h2 h3 g0 r1 r2 r3 b1 b2 b3 hmx;have hlen:((xs.drop l).take (hh-l)).length=hh-l:=by simp;omega
        by_cases hml:m'=l
        ·have e0:hh-l=0:=om;have e1:(xs.drop l).take (hh-l)=[]:=by rw[e0];simp
         refine⟨.slice (some ⟨b,off,none⟩) (hh-l) (m'-l), ?_, ?_⟩
         ·simp only[Instr.sliceAt,Sem.run_bind,run_underlying hu,Result.andThen_ok,Instr.slice,hb,hrun,hml,if_true];rfl
         ·rw[e1,e0];exact .il sz [] b off _ (fun _ _=>undef) (by simp) (by simp) (by simp) (by simp)
        ·refine⟨.slice (some ⟨b,off+l*sz,none⟩) (hh-l) (m'-l), ?_, ?_⟩
         ·simp only[Instr.sliceAt,Sem.run_bind,run_underlying hu,Result.andThen_ok,Instr.slice,hb,hrun,hml,if_false,Jv,Addr.add_lit];rfl
         ·have key:∀(i:Nat) (x:AV),((xs.drop l).take (hh-l))[i]? = some x->xs[l+i]? = some x:=by
           intro i x hi;rw[Jb] at hi;split at hi
           ·rw[Jc] at hi;exact hi
           ·cases hi
          generalize (xs.drop l).take (hh-l)=Y at *;rw[←hlen];refine .il sz _ b (off+l*sz) _ (fun i j=>f (l+i) j) om (fun i x hi=>g1 _ x (key i x hi)) (fun i x j c hi hj=>?_) (fun i x j c hi hj=>g3 _ x j c (key i x hi) hj);have:=g2 _ x j c (key i x hi) hj;refine⟨this.1, ?_,this.2.2⟩;rw[←this.2.1,Nat.add_mul];congr 2;omega
       | iln=>
        simp at b3;subst b3;obtain rfl:hh=0:=om;obtain rfl:l=0:=om;obtain⟨m',_,hm',hb⟩:=b9 (P:=P) (isS:=true) (cap:=0) h1 h2 h3 (by simp) r1 r2 r3 (JG _) (JG _) (by simp) hmx;have:m'=0:=om;subst this;refine⟨.slice none 0 0, ?_,by simpa using VR.iln sz⟩;simp only[KX] at hb;simp only[Instr.sliceAt,Sem.run_bind,run_underlying hu,Result.andThen_ok,Instr.slice,hb,hrun];rfl
      ·cases h
     ·cases h
    ·cases h
   ·rename_i id off len;split at h
    ·rename_i t' sz0 xs hid;split at h
     ·rename_i hsz';have hsz':=Nat.eq_of_beq_eq_true hsz';have hz:(ρ id).sz=sz:=by rw[jV hm hid];exact hsz'
      split at h
      ·rename_i l hh m h1 h2 h3;split at h
       ·rename_i hb;simp only[JE] at hb;have b1:=JB hb.1;have b2:=JB hb.2.1;have b3:=JB hb.2.2;cases h;cases hx with
        | sl _ _ _ cap hid' g1 g2=>
         obtain⟨m',hm1,hm2,hb⟩:=b9 (P:=P) (isS:=true) (cap:=cap) h1 h2 h3 g1 r1 r2 r3 b1 b2 b3 hmx;by_cases hml:m'=l
         ·have e0:hh-l=0:=om;have e2:m'-l=0:=om;refine⟨.slice (some ⟨(ρ id).b,off*(ρ id).sz,none⟩) (hh-l) (m'-l), ?_, ?_⟩
          ·simp only[Instr.sliceAt,Sem.run_bind,run_underlying hu,Result.andThen_ok,Instr.slice,hb,hrun,hml,if_true];rfl
          ·rw[e0,e2];exact .slz id _ _ _ hid'
         ·refine⟨.slice (some ⟨(ρ id).b,off*(ρ id).sz+l*sz,none⟩) (hh-l) (m'-l), ?_, ?_⟩
          ·simp only[Instr.sliceAt,Sem.run_bind,run_underlying hu,Result.andThen_ok,Instr.slice,hb,hrun,hml,if_false,Jv,Addr.add_lit];rfl
          ·have e:off*(ρ id).sz+l*sz=(off+l)*(ρ id).sz:=by rw[hz,Nat.add_mul]
           rw[e];refine .sl id (off+l) (hh-l) (m'-l) hid' om (Jh (JP _ ?_) g2);omega
        | slz _ _ ad ao hid'=>
         have:m=0:=om;subst this;obtain rfl:hh=0:=om;obtain rfl:l=0:=om;obtain⟨m',_,hm',hb⟩:=b9 (P:=P) (isS:=true) (cap:=0) h1 h2 h3 (JG _) r1 r2 r3 (JG _) (JG _) (by simp) hmx;have:m'=0:=om;subst this;refine⟨.slice (some ⟨ad,ao,none⟩) 0 0, ?_,.slz id _ ad ao hid'⟩;simp only[Instr.sliceAt,Sem.run_bind,run_underlying hu,Result.andThen_ok,Instr.slice,hb,hrun,if_true];rfl
        | slzn _ _ hid'=>
         have:m=0:=om;subst this;obtain rfl:hh=0:=om;obtain rfl:l=0:=om;obtain⟨m',_,hm',hb⟩:=b9 (P:=P) (isS:=true) (cap:=0) h1 h2 h3 (JG _) r1 r2 r3 (JG _) (JG _) (by simp) hmx;have:m'=0:=om;subst this;refine⟨.slice none 0 0, ?_,.slzn id _ hid'⟩;simp only[Instr.sliceAt,Sem.run_bind,run_underlying hu,Result.andThen_ok,Instr.slice,hb,hrun,if_true];rfl
       ·cases h
      ·cases h
     ·cases h
    ·cases h
   ·cases h
 ·rename_i n e hu;split at h
  ·cases h
  ·rename_i sz hsz;have hrun:=cQ (w:=w) hsz;split at h
   ·rename_i id i;split at h
    ·rename_i t' sz0 xs hid;split at h
     ·rename_i hel;rw[JE] at hel;have hin:=JB hel.2;have hz:=(pD hm hel.1).2;split at h
      ·rename_i l hh m h1 h2 h3;split at h
       ·rename_i hb;simp only[JE] at hb;have b1:=JB hb.1;have b2:=JB hb.2.1;have b3:=JB hb.2.2;cases h;cases hx with
        | ptr _ _ _ hid'=>
         obtain⟨m',hm1,hm2,hb⟩:=b9 (P:=P) (isS:=false) (cap:=n) h1 h2 h3 (JG _) r1 r2 r3 b1 b2 b3 hmx;have hn0:0<(ρ id).n:=by
          rcases JT (ρ id).n with h'|h'
          ·obtain⟨t',sz1,e,_⟩:=hm.emp _ (aF hid) h';cases e;simp[rR,hid] at hel
          ·exact h'
         obtain⟨o,ho,_,arr,fr,rfl,_,q1,q2,_⟩:=hm.blk _ (aF hid) hn0;by_cases hml:m'=l
         ·have e0:hh-l=0:=om;have e2:m'-l=0:=om;refine⟨.slice (some ⟨(ρ id).b,i*(ρ id).sz+0,none⟩) (hh-l) (m'-l), ?_, ?_⟩
          ·simp only[Instr.sliceAt,Sem.run_bind,run_underlying hu,Result.andThen_ok,Instr.sureAddr,Sem.run_pure,hb,hrun,hml,if_true]
          ·rw[e0,e2];exact .slz id _ _ _ hid'
         ·refine⟨.slice (some ⟨(ρ id).b,i*(ρ id).sz+0+l*sz,none⟩) (hh-l) (m'-l), ?_, ?_⟩
          ·simp only[Instr.sliceAt,Sem.run_bind,run_underlying hu,Result.andThen_ok,Instr.sureAddr,Sem.run_pure,hb,hrun,hml,if_false,Addr.add_lit]
          ·have e:i*(ρ id).sz+0+l*sz=(i+l)*(ρ id).sz:=by rw[hz,Nat.add_mul];omega
           rw[e];refine .sl id (i+l) (hh-l) (m'-l) hid' om (Jh (JP _ ?_) q2);omega
       ·cases h
      ·cases h
     ·cases h
    ·cases h
   ·cases h
 ·cases h
theorem rV{t:TypeId}{a v:AV}{x:Value}(h:D6 P mem t a=some v)(hx:VR ρ D O w a x)(ty:TypeId) :
    ∃z,(Builtin.len_ #[t] ty #[x]).run P w = .ok z w/\VR ρ D O w v z:=by
  unfold D6 at h;split at h
  · rename_i hu
    split at h
    · cases h;cases hx
      refine⟨_, ?_,.int _ _⟩;simp[Builtin.len_,run_underlying hu,goInt,ByteArray.size_mk']
    · cases h
  · rename_i hu
    cases h;refine⟨_, ?_,.int _ _⟩;simp[Builtin.len_,run_underlying hu,goInt]
  · rename_i hu
    split at h<;>first|(cases h;done)|skip
    all_goals
      cases h;cases hx <;>
        (refine⟨_, ?_,.int _ _⟩
         simp[Builtin.len_,run_underlying hu,goInt])
  · rename_i hu
    split at h
    · cases h;cases hx
      refine⟨_, ?_,.int _ _⟩;simp[Builtin.len_,run_underlying hu,goInt]
    · cases h
  · cases h
theorem mC(k:IntKind):∀{cs:List AV} {vs:List Value} {x r:Int},CW x cs=some r->dO ρ D O w cs vs->(List.foldlM Builtin.min2 (.int k x) vs).run P w = .ok (.int k r) w
 | [],vs,x,r,h,hv=>by
  have:vs=[]:=by have:=hv.1;simp at this;exact JF this.symm
  subst this;simp only[CW] at h;cases h;simp
 | c::cs,vs,x,r,h,hv=>by
  cases vs with
  | nil=>have:=hv.1;simp at this
  | cons v vs=>
   unfold CW at h;split at h
   ·rename_i e;cases e
   ·rename_i k' y r' e;cases e;have h0:=hv.2 0 _ v rfl rfl;cases h0;have hr:dO ρ D O w cs vs:=⟨by have:=hv.1;simpa using this,fun j c x h1 h2=>hv.2 (j+1) c x (by simpa using h1) (by simpa using h2)⟩
    simp[Builtin.min2,mC k h hr]
   ·cases h
theorem mD(k:IntKind):∀{cs:List AV} {vs:List Value} {x r:Int},B5 x cs=some r->dO ρ D O w cs vs->(List.foldlM Builtin.max2 (.int k x) vs).run P w = .ok (.int k r) w
 | [],vs,x,r,h,hv=>by
  have:vs=[]:=by have:=hv.1;simp at this;exact JF this.symm
  subst this;simp only[B5] at h;cases h;simp
 | c::cs,vs,x,r,h,hv=>by
  cases vs with
  | nil=>have:=hv.1;simp at this
  | cons v vs=>
   unfold B5 at h;split at h
   ·rename_i e;cases e
   ·rename_i k' y r' e;cases e;have h0:=hv.2 0 _ v rfl rfl;cases h0;have hr:dO ρ D O w cs vs:=⟨by have:=hv.1;simpa using this,fun j c x h1 h2=>hv.2 (j+1) c x (by simpa using h1) (by simpa using h2)⟩
    simp[Builtin.max2,mD k h hr]
   ·cases h
end
end Go.Ax
namespace Go.Ax
open Go
def bQ(ρ:Nat->a6)(n:Nat)(l:a6):Nat->a6:=fun i=>if i=n then l else ρ i
theorem aO(ρ:Nat->a6)(n:Nat)(l:a6):bQ ρ n l n=l:=by simp[bQ]
theorem qA(ρ:Nat->a6)(n:Nat)(l:a6){i:Nat}(h:i≠n):bQ ρ n l i=ρ i:=by simp[bQ,h]
def oQ(ρ:Nat->a6)(D:Nat->Prop)(O:Nat->Prop)(w:World)(sz:Nat)(arr:Array Value)(xs:List AV):Prop:=
 xs.length*sz<=arr.size/\∀(i:Nat) (x:AV),xs[i]? = some x->x.cells.length=sz /\
  ∀(j:Nat) (c:AV),x.cells[j]? = some c->∃v,arr[i*sz+j]? = some v/\v.oneCell'=true/\VR ρ D O w c v
section
variable {P:Program} {Γ:List (Nat × AV)} {X:Nat->Prop} {ρ:Nat->a6} {D:Nat->Prop} {O:Nat->Prop} {mem:aA} {w w':World}
theorem eA(hm:MR Γ X ρ D mem w){b:Nat}(h:OX X ρ mem b):b<w.heap.size:=by
 rcases h with h|⟨p,hp,hn,rfl⟩
 ·exact(hm.bar b h).1
 ·obtain⟨o,ho,_⟩:=hm.blk p hp hn;rcases JK (ρ p.1).b w.heap.size with h|h
  ·exact h
  ·rw[KR h] at ho;cases ho
theorem MR.alloc{n:Nat}{D':Nat->Prop}(hn0:¬D n)(hD:∀i,D i->D' i)(hDn:D' n)(hm:MR Γ X ρ D mem w){t:TypeId}{xs:List AV}{arr:Array Value}{sz:Nat}{fr:Nat × Nat}(hw:w'.heap=w.heap.push (.cells arr t fr))(hos:tF w w')
  (hfr:∀j,j<arr.size->¬(fr.1<=j/\j<fr.2)) (hr:oQ ρ D (OX X ρ mem) w sz arr xs) (hsz:arr.size=0->xs=[]) :
  MR Γ X (bQ ρ n ⟨w.heap.size,arr.size,sz⟩) D' ((n,.row t sz xs)::mem) w' /\
  (∀v x,VR ρ D (OX X ρ mem) w v x->VR (bQ ρ n ⟨w.heap.size,arr.size,sz⟩) D' (OX X (bQ ρ n ⟨w.heap.size,arr.size,sz⟩) ((n,.row t sz xs)::mem)) w' v x) /\
  (∀A:Nat->Prop,(∀i,A i->D i)->Ext A ρ mem w (bQ ρ n ⟨w.heap.size,arr.size,sz⟩) D' ((n,.row t sz xs)::mem) w'):=by
 have hne:∀p∈mem,p.1≠n:=fun p hp e=>hn0 (e ▸ hm.low p hp)
 have hρ:∀id,D id->bQ ρ n ⟨w.heap.size,arr.size,sz⟩ id=ρ id:=fun id h=>qA _ _ _ (fun e=>hn0 (e ▸ h))
 have hρm:∀p∈mem,bQ ρ n ⟨w.heap.size,arr.size,sz⟩ p.1=ρ p.1:=fun p hp=>hρ _ (hm.low p hp)
 have hheap:∀b,b<w.heap.size->w'.heap[b]? = w.heap[b]? := fun b hb=>by rw[hw,J7];simp[Nat.ne_of_lt hb]
 have hnew:w'.heap[w.heap.size]? = some (.cells arr t fr):=by rw[hw];simp
 have hsize:w'.heap.size=w.heap.size+1:=by rw[hw];simp
 have hk:∀b,b<w.heap.size->¬OX X ρ mem b->¬OX X (bQ ρ n ⟨w.heap.size,arr.size,sz⟩) ((n,.row t sz xs)::mem) b/\w'.heap[b]? = w.heap[b]? := by
  intro b hb ho;refine⟨?_,hheap b hb⟩;rintro(h|⟨p,hp,hn,e⟩)
  ·exact ho (.inl h)
  ·rcases JA.1 hp with rfl|hp
   ·rw[aO] at e;simp at e;omega
   ·rw[hρm p hp] at e hn;exact ho (.inr ⟨p,hp,hn,e⟩)
 have hmono:∀v x,VR ρ D (OX X ρ mem) w v x->VR (bQ ρ n ⟨w.heap.size,arr.size,sz⟩) D' (OX X (bQ ρ n ⟨w.heap.size,arr.size,sz⟩) ((n,.row t sz xs)::mem)) w' v x:=
  fun v x h=>h.mono hρ hD hk
 refine⟨⟨?_, ?_, ?_, ?_, ?_, ?_, ?_⟩,hmono,fun B hB=>⟨fun i hi=>hD i (hB i hi),fun id h=>hρ id (hB id h),om,fun b hb _=>hheap b hb, ?_,hos⟩⟩
 ·intro p hp;rcases JA.1 hp with rfl|hp
  ·exact hDn
  ·exact hD _ (hm.low p hp)
 ·intro p hp hn;rcases JA.1 hp with rfl|hp
  ·rw[aO];exact⟨_,hnew,rfl,arr,fr,rfl,hfr,rfl,hr.1,fun i x hi=>⟨(hr.2 i x hi).1,fun j c hj=>by
    obtain⟨v,hv,h1,h⟩:=(hr.2 i x hi).2 j c hj;exact⟨v,hv,h1,hmono _ _ h⟩⟩⟩
  ·rw[hρm p hp] at hn ⊢;obtain⟨o,ho,hb⟩:=hm.blk p hp hn;have hlt:=eA hm (.inr ⟨p,hp,hn,rfl⟩);exact⟨o,by rw[hheap _ hlt];exact ho,hb.mono hρ hD hk⟩
 ·intro p hp hn;rcases JA.1 hp with rfl|hp
  ·rw[aO] at hn ⊢;exact⟨t,sz,by rw[hsz hn],rfl⟩
  ·rw[hρm p hp] at hn ⊢;exact hm.emp p hp hn
 ·intro p hp q hq hpn hqn e;rcases JA.1 hp with rfl|hp<;>rcases JA.1 hq with rfl|hq
  ·rfl
  ·rw[hρm q hq] at e hqn;rw[aO] at e;have:=eA hm (.inr ⟨q,hq,hqn,rfl⟩);simp at e;omega
  ·rw[hρm p hp] at e hpn;rw[aO] at e;have:=eA hm (.inr ⟨p,hp,hpn,rfl⟩);simp at e;omega
  ·rw[hρm p hp] at e hpn;rw[hρm q hq] at e hqn;exact hm.inj p hp q hq hpn hqn e
 ·simp only[Jg,JU];refine⟨fun h=>?_,hm.nod⟩;obtain⟨p,hp,e⟩:=JM.1 h;exact hne p hp e
 ·intro b hb;obtain⟨h1,h2⟩:=hm.bar b hb;refine⟨om, ?_⟩;rintro⟨p,hp,hn,e⟩;rcases JA.1 hp with rfl|hp
  ·rw[aO] at e;simp at e;omega
  ·rw[hρm p hp] at e hn;exact h2 ⟨p,hp,hn,e⟩
 ·exact fun p hp=>hmono _ _ (hm.glo p hp)
 ·intro p hp hn;rcases JA.1 hp with rfl|hp
  ·rw[aO];exact .inr (JG _)
  ·rw[hρm p hp] at hn ⊢;exact .inl ⟨p,hp,hn,rfl⟩
theorem v8:∀{m:aA} {id:Nat} {a b:AB},lk m id=some a->(up m id b).map (·.1)=m.map (·.1)
 | (k,u)::r,id,a,b,h=>by
  simp only[lk] at h;simp only[up];split at h
  ·rfl
  ·simp[v8 h]
theorem eX:∀{m:aA} {id:Nat} {a b:AB} (_:lk m id=some a) (_:(m.map (·.1)).Nodup) {p:Nat × AB},p∈up m id b->p=(id,b)∨(p∈m/\p.1≠id)
 | (k,u)::r,id,a,b,h,hn,p,hp=>by
  simp only[lk] at h;simp only[up] at hp;simp only[Jg,JU] at hn;cases hk:Nat.beq k id with
  | true=>
   rw[hk] at hp;have hk:=Nat.eq_of_beq_eq_true hk;subst hk;rcases JA.1 hp with rfl|hp
   ·exact .inl rfl
   ·refine .inr ⟨JO _ hp,fun e=>hn.1 (JM.2 ⟨p,hp,e⟩)⟩
  | false=>
   rw[hk] at hp h;rcases JA.1 hp with rfl|hp
   ·exact .inr ⟨JW ..,Jk hk⟩
   ·rcases eX h hn.2 hp with h1|⟨h1,h2⟩
    ·exact .inl h1
    ·exact .inr ⟨JO _ h1,h2⟩
theorem MR.change(hm:MR Γ X ρ D mem w){id:Nat}{t:TypeId}{sz:Nat}{xs xs':List AV}(hid:lk mem id=some (.row t sz xs))(hn:0<(ρ id).n){arr:Array Value}{fr:Nat × Nat}
  (hw:w'.heap=w.heap.setIfInBounds (ρ id).b (.cells arr t fr)) (hos:tF w w') (hfr:∀j,j<arr.size->¬(fr.1<=j/\j<fr.2)) (hsize:arr.size=(ρ id).n)
  (hr:oQ ρ D (OX X ρ mem) w sz arr xs') :
  MR Γ X ρ D (up mem id (.row t sz xs')) w' /\
  (∀v x,VR ρ D (OX X ρ mem) w v x->VR ρ D (OX X ρ (up mem id (.row t sz xs'))) w' v x) /\
  (∀A:Nat->Prop,(∀i,A i->D i)->Ext A ρ mem w ρ D (up mem id (.row t sz xs')) w'):=by
 have hidm:=aF hid;have hszr:(ρ id).sz=sz:=jV hm hid;have hlt:=eA hm (.inr ⟨_,hidm,hn,rfl⟩);have hheap:∀b,b≠(ρ id).b->w'.heap[b]? = w.heap[b]? := fun b hb=>by rw[hw,Jt (Ne.symm hb)]
 have hnew:w'.heap[(ρ id).b]? = some (.cells arr t fr):=by rw[hw];simp[hlt]
 have hsz:w'.heap.size=w.heap.size:=by rw[hw];simp
 have hown:∀b,own ρ (up mem id (.row t sz xs')) b->own ρ mem b:=by
  rintro b ⟨p,hp,hpn,e⟩;rcases eX hid hm.nod hp with rfl|⟨h1,_⟩
  ·exact⟨_,hidm,hpn,e⟩
  ·exact⟨p,h1,hpn,e⟩
 have hOX:∀b,OX X ρ (up mem id (.row t sz xs')) b->OX X ρ mem b:=fun b h=>h.imp (fun x=>x) (hown b)
 have hk:∀b,b<w.heap.size->¬OX X ρ mem b->¬OX X ρ (up mem id (.row t sz xs')) b/\w'.heap[b]? = w.heap[b]? := by
  intro b hb ho;refine⟨fun h=>ho (hOX b h),hheap b ?_⟩;rintro rfl;exact ho (.inr ⟨_,hidm,hn,rfl⟩)
 have hmono:∀v x,VR ρ D (OX X ρ mem) w v x->VR ρ D (OX X ρ (up mem id (.row t sz xs'))) w' v x:=fun v x h=>h.mono (fun _ _=>rfl) (fun _ h=>h) hk
 refine⟨⟨?_, ?_, ?_, ?_, ?_, ?_, ?_⟩,hmono,fun B hB=>⟨hB,fun _ _=>rfl,om,fun b hb ho=>hheap b ?_, ?_,hos⟩⟩
 ·intro p hp;rcases eX hid hm.nod hp with rfl|⟨h1,_⟩
  ·exact(hm.low _ hidm :)
  ·exact hm.low p h1
 ·intro p hp hpn;rcases eX hid hm.nod hp with rfl|⟨h1,hne⟩
  ·refine⟨_,hnew,hszr,arr,fr,rfl,hfr,hsize,by rw[←hsize,hszr];exact hr.1,fun i x hi=>⟨by rw[hszr];exact(hr.2 i x hi).1,fun j c hj=>by
    rw[hszr];obtain⟨v,hv,h1,h⟩:=(hr.2 i x hi).2 j c hj;exact⟨v,hv,h1,hmono _ _ h⟩⟩⟩
  ·obtain⟨o,ho,hb⟩:=hm.blk p h1 hpn;refine⟨o, ?_,hb.mono (fun _ _=>rfl) (fun _ h=>h) hk⟩;rw[hheap _ (fun e=>hne (hm.inj p h1 _ hidm hpn hn e))];exact ho
 ·intro p hp hpn;rcases eX hid hm.nod hp with rfl|⟨h1,hne⟩
  ·exact absurd hpn (Nat.ne_of_gt hn)
  ·exact hm.emp p h1 hpn
 ·intro p hp q hq hpn hqn e;have a:∀p∈up mem id (.row t sz xs'),∃p'∈mem,p'.1=p.1:=by
   intro p hp;rcases eX hid hm.nod hp with rfl|⟨h1,_⟩
   ·exact⟨_,hidm,rfl⟩
   ·exact⟨p,h1,rfl⟩
  obtain⟨p',hp',e1⟩:=a p hp;obtain⟨q',hq',e2⟩:=a q hq;rw[←e1,←e2] at e ⊢;rw[←e1] at hpn;rw[←e2] at hqn;exact hm.inj p' hp' q' hq' hpn hqn e
 ·rw[v8 hid];exact hm.nod
 ·intro b hb;obtain⟨h1,h2⟩:=hm.bar b hb;exact⟨om,fun h=>h2 (hown b h)⟩
 ·exact fun p hp=>hmono _ _ (hm.glo p hp)
 ·rintro rfl;exact ho ⟨_,hidm,hn,rfl⟩
 ·intro p hp hpn;refine .inl ?_;rcases eX hid hm.nod hp with rfl|⟨h1,_⟩
  ·exact⟨_,hidm,hpn,rfl⟩
  ·exact⟨p,h1,hpn,rfl⟩
def drop(id:Nat):aA->aA
 | []=>[]
 | (k,u)::r=>match Nat.beq k id with
  | true=>r
  | false=>(k,u)::drop id r
theorem bD:∀{m:aA} {id:Nat} {p:Nat × AB},p∈drop id m->p∈m
 | (k,u)::r,id,p,hp=>by
  simp only[drop] at hp;split at hp
  ·exact JO _ hp
  ·rcases JA.1 hp with rfl|hp
   ·exact JW ..
   ·exact JO _ (bD hp)
theorem qE:∀{m:aA} {id:Nat} (_:(m.map (·.1)).Nodup) {p:Nat × AB},p∈drop id m->p.1≠id
 | (k,u)::r,id,hn,p,hp=>by
  simp only[Jg,JU] at hn;simp only[drop] at hp;split at hp
  ·rename_i hk;have hk:=Nat.eq_of_beq_eq_true hk;subst hk;exact fun e=>hn.1 (JM.2 ⟨p,hp,e⟩)
  ·rename_i hk;rcases JA.1 hp with rfl|hp
   ·exact Jk hk
   ·exact qE hn.2 hp
theorem gM:∀{m:aA} {id:Nat} (_:(m.map (·.1)).Nodup),((drop id m).map (·.1)).Nodup
 | [],id,hn=>by simp[drop]
 | (k,u)::r,id,hn=>by
  simp only[Jg,JU] at hn;simp only[drop];split
  ·exact hn.2
  ·simp only[Jg,JU];refine⟨fun h=>hn.1 ?_,gM hn.2⟩;obtain⟨p,hp,e⟩:=JM.1 h;exact JM.2 ⟨p,bD hp,e⟩
theorem MR.widen{D':Nat->Prop}(hm:MR Γ X ρ D mem w)(hD:∀i,D i->D' i) :
  MR Γ X ρ D' mem w/\(∀v x,VR ρ D (OX X ρ mem) w v x->VR ρ D' (OX X ρ mem) w v x)/\(∀A:Nat->Prop,(∀i,A i->D i)->Ext A ρ mem w ρ D' mem w):=by
 have hk:∀b,b<w.heap.size->¬OX X ρ mem b->¬OX X ρ mem b/\w.heap[b]? = w.heap[b]? := fun b _ ho=>⟨ho,rfl⟩
 have hmono:∀v x,VR ρ D (OX X ρ mem) w v x->VR ρ D' (OX X ρ mem) w v x:=fun v x h=>h.mono (fun _ _=>rfl) hD hk
 refine⟨⟨fun p hp=>hD _ (hm.low p hp),fun p hp hn=>?_,hm.emp,hm.inj,hm.nod,hm.bar,fun p hp=>hmono _ _ (hm.glo p hp)⟩,hmono,fun B hB=>Ext.refl fun i hi=>hD i (hB i hi)⟩;obtain⟨o,ho,hb⟩:=hm.blk p hp hn;exact⟨o,ho,hb.mono (fun _ _=>rfl) hD hk⟩
theorem MR.less(hm:MR Γ X ρ D mem w){mem':aA}(hsub:∀p∈mem',p∈mem)(hnod:(mem'.map (·.1)).Nodup) :
  MR Γ X ρ D mem' w/\(∀v x,VR ρ D (OX X ρ mem) w v x->VR ρ D (OX X ρ mem') w v x)/\(∀A:Nat->Prop,(∀i,A i->D i)->Ext A ρ mem w ρ D mem' w):=by
 have hown:∀b,own ρ mem' b->own ρ mem b:=fun b ⟨p,hp,hn,e⟩=>⟨p,hsub p hp,hn,e⟩
 have hk:∀b,b<w.heap.size->¬OX X ρ mem b->¬OX X ρ mem' b/\w.heap[b]? = w.heap[b]? := fun b _ ho=>⟨fun h=>ho (h.imp (fun x=>x) (hown b)),rfl⟩
 have hmono:∀v x,VR ρ D (OX X ρ mem) w v x->VR ρ D (OX X ρ mem') w v x:=fun v x h=>h.mono (fun _ _=>rfl) (fun _ h=>h) hk
 refine⟨⟨fun p hp=>hm.low p (hsub p hp),fun p hp hn=>?_,fun p hp hn=>hm.emp p (hsub p hp) hn,fun p hp q hq=>hm.inj p (hsub p hp) q (hsub q hq),hnod,
  fun b hb=>⟨(hm.bar b hb).1,fun h=>(hm.bar b hb).2 (hown b h)⟩,fun p hp=>hmono _ _ (hm.glo p hp)⟩,hmono,
  fun B hB=>⟨hB,fun _ _=>rfl,JG _,fun _ _ _=>rfl,fun p hp hn=>.inl ⟨p,hsub p hp,hn,rfl⟩,.refl _⟩⟩
 obtain⟨o,ho,hb⟩:=hm.blk p (hsub p hp) hn;exact⟨o,ho,hb.mono (fun _ _=>rfl) (fun _ h=>h) hk⟩
end
end Go.Ax
namespace Go.Ax
open Go
def sX(sz:Nat)(sh:Option Nat):Nat->List AV->Option (List AV)
 | 0,_=>some []
 | m+1,cs=>match sub sh cs 0 with
  | some x=>match sX sz sh m (cs.drop sz) with
   | some l=>some (x::l)
   | none=>none
  | none=>none
def s4(P:Program)(t:TypeId)(v:AV):Option (Nat × List AV):=
 match P.underlying t with
 | some (.array m e)=>match v with
  | .agg cs=>match cF P e,tP P e with
   | some sz,some sh=>match Nat.beq (sh.getD 1) sz && (Nat.blt 0 sz && Nat.beq cs.length (m*sz)) with
    | true=>match sX sz sh m cs with
     | some xs=>some (sz,xs)
     | none=>none
    | false=>none
   | _,_=>none
  | _=>none
 | some _=>match d6 v with
  | true=>match v.cells with
   | []=>some (0,[])
   | _::_=>some (v.cells.length,[v])
  | false=>none
 | none=>none
section
variable {P:Program} {Γ:List (Nat × AV)} {X:Nat->Prop} {ρ:Nat->a6} {D:Nat->Prop} {O:Nat->Prop} {mem:aA} {w w':World}
theorem pB{sz:Nat}{sh:Option Nat}(hsh:sh.getD 1=sz):∀{m:Nat} {cs:List AV} {xs:List AV},sX sz sh m cs=some xs ->
  xs.length=m/\∀(i:Nat) (x:AV),xs[i]? = some x->x.cells.length=sz/\∀(j:Nat) (c:AV),x.cells[j]? = some c->cs[i*sz+j]? = some c
 | 0,cs,xs,h=>by simp only[sX] at h;cases h;simp
 | m+1,cs,xs,h=>by
  simp only[sX] at h;split at h
  ·rename_i x hx;split at h
   ·rename_i l hl;cases h;obtain⟨h1,h2⟩:=pB hsh hl;refine⟨by simp[h1],fun i y hi=>?_⟩;cases i with
    | zero=>
     simp at hi;subst hi;refine⟨by rw[BS hx];exact hsh,fun j c hj=>?_⟩;have:=oZ hx j c hj;simpa using this
    | succ i=>
     simp at hi;obtain⟨h3,h4⟩:=h2 i y hi;refine⟨h3,fun j c hj=>?_⟩;have:=h4 j c hj;rw[Jc] at this;rw[Nat.add_mul,KF];rw[←this];congr 1;omega
   ·cases h
  ·cases h
theorem j8{t:TypeId}{v:AV}{x:Value}{sz:Nat}{xs:List AV}(h:s4 P t v=some (sz,xs))(hx:VR ρ D O w v x) :
  oQ ρ D O w sz x.cells xs/\(x.cells.size=0->xs=[]):=by
 unfold s4 at h;split at h
 ·rename_i m e hu;split at h
  ·rename_i cs;split at h
   ·rename_i sz' sh hsz hsh;split at h
    ·rename_i hb;simp only[JE] at hb;have b1:=Nat.eq_of_beq_eq_true hb.1;have b2:=JB hb.2.1;have b3:=Nat.eq_of_beq_eq_true hb.2.2;split at h
     ·rename_i xs' hxs;cases h;obtain⟨vs,rfl,hvs⟩:=hx.agg_inv;obtain⟨h1,h2⟩:=pB b1 hxs;have hs:vs.length=m*sz:=by rw[←hvs.1.1];exact b3
      refine⟨⟨by simp[Value.cells,h1,hs],fun i y hi=>⟨(h2 i y hi).1,fun j c hj=>?_⟩⟩,fun h0=>?_⟩
      ·obtain⟨v,hv,ho,hr⟩:=hvs.get ((h2 i y hi).2 j c hj);exact⟨v,by simpa[Value.cells] using hv,ho,hr⟩
      ·simp[Value.cells] at h0;subst h0;simp at hs;have:m=0:=by
        rcases JT m with h'|h'
        ·exact h'
        ·have:=LA h' b2;omega
       subst this;exact JF h1
     ·cases h
    ·cases h
   ·cases h
  ·cases h
 ·split at h
  ·rename_i hj;have hc:=hx.cells_of hj;split at h
   ·cases h;exact⟨⟨by simp,by simp⟩,fun _=>rfl⟩
   ·rename_i c0 cr hcs;cases h;have hsz:x.cells.size=v.cells.length:=by have:=hc.1.1;simp at this;omega
    refine⟨⟨by simp[hsz],fun i y hi=>?_⟩,fun h0=>?_⟩
    ·cases i with
     | zero=>
      simp at hi;subst hi;refine⟨rfl,fun j c hjc=>?_⟩;obtain⟨u,hu,ho,hr⟩:=hc.get hjc;exact⟨u,by simpa using hu,ho,hr⟩
     | succ i=>simp at hi
    ·rw[hsz,hcs] at h0;simp at h0
  ·cases h
 ·cases h
def kI(P:Program)(mem:aA)(nx:Nat)(t:TypeId):Option (AV × aA × Nat):=
 match P.info? t with
 | some i=>match i.zero with
  | some z=>match lO z with
   | some v=>match s4 P t v with
    | some (sz,xs)=>some (.ptr nx 0 0,(nx,.row t sz xs)::mem,nx+1)
    | none=>none
   | none=>none
  | none=>none
 | none=>none
def yU(P:Program)(mem:aA)(nx:Nat)(t:TypeId)(v:AV):Option (AV × aA × Nat):=
 match s4 P t v with
 | some (sz,xs)=>some (.ptr nx 0 0,(nx,.row t sz xs)::mem,nx+1)
 | none=>none
structure iR(P:Program)(Γ:List (Nat × AV))(X:Nat->Prop)(ρ:Nat->a6)(D:Nat->Prop)(mem:aA)(w:World)(r:Result Value)(v:AV)(mem':aA)(D':Nat->Prop):Prop where
 ex:∃(x:Value) (w':World) (ρ':Nat->a6),r = .ok x w'/\MR Γ X ρ' D' mem' w'/\VR ρ' D' (OX X ρ' mem') w' v x /\
  (∀u y,VR ρ D (OX X ρ mem) w u y->VR ρ' D' (OX X ρ' mem') w' u y)/\∀A:Nat->Prop,(∀i,A i->D i)->Ext A ρ mem w ρ' D' mem' w'
theorem Io{n:Nat}:∀j,j<n->¬((0,0).1<=j/\j<((0,0):Nat × Nat).2):=fun j _ h=>by simp at h
theorem iR.alloc{n:Nat}{D':Nat->Prop}(hn0:¬D n)(hD:∀i,D i->D' i)(hDn:D' n)(hm:MR Γ X ρ D mem w){t:TypeId}{xs:List AV}{arr:Array Value}{sz:Nat}{r:Result Value}{v:AV}(f:Nat->Value)
  (hr:r = .ok (f w.heap.size) w') (hw:w'.heap=w.heap.push (.cells arr t (0,0))) (hos:tF w w')
  (hrow:oQ ρ D (OX X ρ mem) w sz arr xs) (hsz:arr.size=0->xs=[])
  (hv:∀(ρ':Nat->a6) (O':Nat->Prop),ρ' n=⟨w.heap.size,arr.size,sz⟩->VR ρ' D' O' w' v (f w.heap.size)) :
  iR P Γ X ρ D mem w r v ((n,.row t sz xs)::mem) D':=by
 obtain⟨h1,h2,h3⟩:=hm.alloc hn0 hD hDn hw hos Io hrow hsz;exact⟨_,w',_,hr,h1,hv _ _ (aO _ _ _),h2,h3⟩
theorem Aa{n:Nat}{D':Nat->Prop}(hn0:¬D n)(hD:∀i,D i->D' i)(hDn:D' n)(hm:MR Γ X ρ D mem w){t:TypeId}{a v:AV}{x:Value}{mem':aA}{N':Nat}(h:yU P mem n t a=some (v,mem',N'))(hx:VR ρ D (OX X ρ mem) w a x) :
  iR P Γ X ρ D mem w ((Instr.box t x).run P w) v mem' D':=by
 unfold yU at h;split at h
 ·rename_i sz xs hrow;cases h;obtain⟨h1,h2⟩:=j8 hrow hx;refine iR.alloc hn0 hD hDn hm (fun b=>.pointer (some ⟨b,0,none⟩)) (w':=w.alloc (.cells x.cells t)) (by simp[Instr.box,newVar,newRow]) rfl .go h1 h2 (fun ρ' O' e=>?_);have:=VR.ptr (ρ:=ρ') (D:=D') (O:=O') (w:=w.alloc (.cells x.cells t)) n 0 0 hDn;rw[e] at this;simpa using this
 ·cases h
theorem vJ{n:Nat}{D':Nat->Prop}(hn0:¬D n)(hD:∀i,D i->D' i)(hDn:D' n)(hm:MR Γ X ρ D mem w){t:TypeId}{v:AV}{mem':aA}{N':Nat}(h:kI P mem n t=some (v,mem',N')) :
  iR P Γ X ρ D mem w ((Instr.alloc t true (.tuple #[])).run P w) v mem' D':=by
 unfold kI at h;split at h
 ·rename_i i hi;split at h
  ·rename_i z hz;split at h
   ·rename_i zv hzv;split at h
    ·rename_i sz xs hrow;cases h;obtain⟨h1,h2⟩:=j8 hrow (dU (ρ:=ρ) (D:=D) (O:=OX X ρ mem) (w:=w) hzv);refine iR.alloc hn0 hD hDn hm (fun b=>.pointer (some ⟨b,0,none⟩)) (w':=w.alloc (.cells z.cells t)) (by simp[Instr.alloc,zeroValue,typeInfo,hi,hz,newVar,newRow]) rfl .go h1 h2 (fun ρ' O' e=>?_);have:=VR.ptr (ρ:=ρ') (D:=D') (O:=O') (w:=w.alloc (.cells z.cells t)) n 0 0 hDn;rw[e] at this;simpa using this
    ·cases h
   ·cases h
  ·cases h
 ·cases h
def j7(sz:Nat):List AV->List (Nat × AV)->Option (List AV)
 | xs,[]=>some xs
 | xs,(i,v)::r=>match d6 v && (Nat.beq v.cells.length sz && Nat.blt i xs.length) with
  | true=>j7 sz (xs.set i v) r
  | false=>none
def eV(P:Program)(e:TypeId):Option AV:=
 match P.info? e with
 | some i=>match i.zero with
  | some z=>lO z
  | none=>none
 | none=>none
def cR(P:Program)(mem:aA)(nx:Nat)(t:TypeId)(len:Nat)(parts:List (Nat × AV)):Option (AV × aA × Nat):=
 match P.underlying t with
 | some (.slice e)=>match cF P e,eV P e with
  | some sz,some z=>match d6 z && (Nat.beq z.cells.length sz && (Nat.blt 0 sz && Nat.ble (len*sz) 16777216)) with
   | true=>match j7 sz (List.replicate len z) parts with
    | some xs=>some (.sl nx 0 len,(nx,.row e sz xs)::mem,nx+1)
    | none=>none
   | false=>none
  | _,_=>none
 | _=>none
theorem h9(off:Nat):∀(l:List (Value × Nat)) (L:List Value),(l.foldl (fun cs p=>cs.set (off+p.2) p.1) L).length=L.length
 | [],L=>rfl
 | p::l,L=>by simp only[KV];rw[h9 off l];simp
theorem lR(off:Nat):∀(vs:List Value) (k:Nat) (L:List Value) (p:Nat),off+k+vs.length<=L.length ->
  ((vs.zipIdx k).foldl (fun cs q=>cs.set (off+q.2) q.1) L)[p]? = if off+k<=p/\p<off+k+vs.length then vs[p-(off+k)]? else L[p]?
 | [],k,L,p,h=>by
  have:¬(off+k<=p/\p<off+k+([]:List Value).length):=by simp only[KX];omega
  rw[JJ this];simp
 | v::vs,k,L,p,h=>by
  simp only[KH] at h;simp only[LE,KV];rw[lR off vs (k+1) (L.set (off+k) v) p (by simp;omega)];by_cases hp:p=off+k
  ·subst hp;rw[JJ om,JL (by simp)];rw[KC];rw[JL rfl,JL om];simp
  ·by_cases h1:off+(k+1)<=p/\p<off+(k+1)+vs.length
   ·rw[JL h1,JL (by simp;omega)];have:p-(off+k)=(p-(off+(k+1)))+1:=om;rw[this];simp
   ·rw[JJ h1,JJ (by simp only[KH];omega)];rw[KC];rw[JJ (fun e=>hp e.symm)]
theorem nO{sz:Nat}:∀{parts:List (Nat × AV)} {ps:List (Nat × Value)} {xs ys:List AV} {A:Array Value},
  j7 sz xs parts=some ys->parts.length=ps.length ->
  (∀(j:Nat) (p:Nat × AV) (q:Nat × Value),parts[j]? = some p->ps[j]? = some q->p.1=q.1/\VR ρ D O w p.2 q.2) ->
  oQ ρ D O w sz A xs->A.size=xs.length*sz->∃B:Array Value,Instr.fill (fun i=>some (i*sz,sz)) A ps=some B/\oQ ρ D O w sz B ys/\B.size=xs.length*sz/\ys.length=xs.length
 | [],ps,xs,ys,A,h,hl,hp,hA,hs=>by
  have:ps=[]:=by simp at hl;exact JF hl.symm
  subst this;simp only[j7] at h;cases h;exact⟨A,rfl,hA,hs,rfl⟩
 | (i,v)::r,ps,xs,ys,A,h,hl,hp,hA,hs=>by
  cases ps with
  | nil=>simp at hl
  | cons q ps=>
   obtain⟨i',x⟩:=q;obtain⟨e,hv⟩:=hp 0 _ _ rfl rfl;simp only at e hv;subst e;simp only[j7] at h;split at h
   ·rename_i hb;simp only[JE] at hb;have h1:=Nat.eq_of_beq_eq_true hb.2.1;have h2:i<xs.length:=JB hb.2.2;have hc:=hv.cells_of hb.1;have e1:x.cells.toList.length=sz:=by rw[←hc.1.1];exact h1
    have e1':x.cells.size=sz:=by simpa using e1
    have hle:(i+1)*sz<=xs.length*sz:=JP _ h2;rw[Nat.add_mul,KF] at hle;have hget:=fun p=>lR (i*sz) x.cells.toList 0 A.toList p (by simp[e1',hs];omega)
    have hA':oQ ρ D O w sz (Array.foldl (fun cs p=>cs.setIfInBounds (i*sz+p.2) p.1) A x.cells.zipIdx) (xs.set i v):=by
     have hlen:(Array.foldl (fun cs p=>cs.setIfInBounds (i*sz+p.2) p.1) A x.cells.zipIdx).toList=(x.cells.toList.zipIdx 0).foldl (fun cs q=>cs.set (i*sz+q.2) q.1) A.toList:=by
      rw[←Array.foldl_toList,dL,Array.toList_zipIdx]
     have hsz':(Array.foldl (fun cs p=>cs.setIfInBounds (i*sz+p.2) p.1) A x.cells.zipIdx).size=A.size:=by
      rw[←Array.length_toList,hlen,h9];simp
     refine⟨by rw[hsz',Km];exact hA.1,fun k y hk=>?_⟩;have hg:∀p,(Array.foldl (fun cs p=>cs.setIfInBounds (i*sz+p.2) p.1) A x.cells.zipIdx)[p]? = if i*sz+0<=p/\p<i*sz+0+x.cells.toList.length then x.cells.toList[p-(i*sz+0)]? else A.toList[p]? := by
      intro p;rw[←hget p,←hlen];simp
     rw[KC] at hk;by_cases hik:i=k
     ·subst hik;rw[JL rfl,JL h2] at hk;cases hk;refine⟨h1,fun j c hj=>?_⟩;have hjl:j<sz:=by
       rw[←h1];rcases JK j v.cells.length with h'|h'
       ·exact h'
       ·rw[JH h'] at hj;cases hj
      obtain⟨u,hu,ho,hr⟩:=hc.get hj;refine⟨u, ?_,ho,hr⟩;rw[hg,JL om];rw[show i*sz+j-(i*sz+0)=j by omega];exact hu
     ·rw[JJ hik] at hk;obtain⟨h3,h4⟩:=hA.2 k y hk;refine⟨h3,fun j c hj=>?_⟩;obtain⟨u,hu,ho,hr⟩:=h4 j c hj;have hjl:j<sz:=by
       rw[←h3];rcases JK j y.cells.length with h'|h'
       ·exact h'
       ·rw[JH h'] at hj;cases hj
      refine⟨u, ?_,ho,hr⟩;rw[hg,JJ,Array.getElem?_toList]
      ·exact hu
      ·rintro⟨h5,h6⟩;rcases Nat.lt_or_gt_of_ne hik with h7|h7
       ·have:(i+1)*sz<=k*sz:=JP _ h7;rw[Nat.add_mul,KF] at this;omega
       ·have:(k+1)*sz<=i*sz:=JP _ h7;rw[Nat.add_mul,KF] at this;omega
    have hsz2:(Array.foldl (fun cs p=>cs.setIfInBounds (i*sz+p.2) p.1) A x.cells.zipIdx).size=(xs.set i v).length*sz:=by
     rw[Km,←hs,←Array.length_toList,←Array.foldl_toList,dL,h9];simp
    obtain⟨B,hB,hr,hBs,hys⟩:=nO (A:=Array.foldl (fun cs p=>cs.setIfInBounds (i*sz+p.2) p.1) A x.cells.zipIdx) h (by simpa using hl)
     (fun j p q h1 h2=>hp (j+1) p q (by simpa using h1) (by simpa using h2)) hA' hsz2
    refine⟨B, ?_,hr,by simpa using hBs,by simpa using hys⟩;rw[Instr.fill];simp only[];rw[JJ (by simp[e1',hs];omega)];exact hB
   ·cases h
theorem getElem!_lt {z:Array Value} {i:Nat} (h:i<z.size):z[i]! = z[i]:=by simp[h]
theorem xX{sz:Nat}{z:AV}{zx:Value}(hz:VR ρ D O w z zx)(hj:d6 z=true)(hl:z.cells.length=sz)(hp:0<sz)(len n:Nat)(hn:len*sz<=n) :
  oQ ρ D O w sz ((Array.range n).map fun k=>zx.cells[k%zx.cells.size]!) (List.replicate len z):=by
 have hc:=hz.cells_of hj;have hs:zx.cells.size=sz:=by have:=hc.1.1;simp at this;omega
 refine⟨by simp;exact hn,fun i x hi=>?_⟩;rw[List.getElem?_replicate] at hi;split at hi
 ·rename_i hlt;cases hi;refine⟨hl,fun j c hjc=>?_⟩;have hjl:j<sz:=by
   rw[←hl];rcases JK j z.cells.length with h'|h'
   ·exact h'
   ·rw[JH h'] at hjc;cases hjc
  obtain⟨u,hu,ho,hr⟩:=hc.get hjc;refine⟨u, ?_,ho,hr⟩;have hlt2:i*sz+j<n:=by
   have:(i+1)*sz<=len*sz:=JP _ hlt;rw[Nat.add_mul,KF] at this;omega
  have hmod:(i*sz+j)%sz=j:=by rw[Kr,Nat.mul_add_mod];exact Kg hjl
  have hu':zx.cells[j]? = some u:=by simpa using hu
  rw[K4];simp only[Array.getElem?_range,hlt2,if_true,Jv,hs,hmod];rw[getElem!_lt om];rw[Jj om] at hu';exact hu'
 ·cases hi
theorem oD{n:Nat}{D':Nat->Prop}(hn0:¬D n)(hD:∀i,D i->D' i)(hDn:D' n)(hm:MR Γ X ρ D mem w){t:TypeId}{len:Nat}{parts:List (Nat × AV)}{ps:List (Nat × Value)}{v:AV}{mem':aA}{N':Nat}
  (h:cR P mem n t len parts=some (v,mem',N')) (hl:parts.length=ps.length)
  (hp:∀(j:Nat) (p:Nat × AV) (q:Nat × Value),parts[j]? = some p->ps[j]? = some q->p.1=q.1/\VR ρ D (OX X ρ mem) w p.2 q.2) :
  iR P Γ X ρ D mem w ((Instr.buildSlice t len ps.toArray).run P w) v mem' D':=by
 unfold cR at h;split at h
 ·rename_i e hu;split at h
  ·rename_i sz z hsz hz;split at h
   ·rename_i hb;simp only[JE] at hb;have b1:=Nat.eq_of_beq_eq_true hb.2.1;have b2:0<sz:=JB hb.2.2.1;have b3:=JB hb.2.2.2;split at h
    ·rename_i xs hxs;cases h;unfold eV at hz;split at hz
     ·rename_i i hi;split at hz
      ·rename_i zx hzx;have hzr:=dU (ρ:=ρ) (D:=D) (O:=OX X ρ mem) (w:=w) hz;have hmade:=xX hzr hb.1 b1 b2 len (len*sz) (JG _);obtain⟨B,hB,hr,hBs,hys⟩:=nO hxs hl hp hmade (by simp);simp only[Kt] at hBs hys;have hrun:=cQ (w:=w) hsz;have hbig:¬(len*sz>16777216):=om;refine iR.alloc hn0 hD hDn hm (fun b=>.slice (some ⟨b,0,none⟩) len len) (w':=w.alloc (.cells B e)) ?_ rfl .go hr (fun h0=>?_) (fun ρ' O' eq=>?_)
       ·by_cases h0:len*sz=0
        ·have hB':Instr.fill (fun i=>some (i*sz,sz)) #[] ps=some B:=by
          rw[←hB];congr 1;rw[h0];simp[Array.range_zero']
         simp only[Instr.buildSlice,Sem.run_bind,run_underlying hu,Result.andThen_ok,hrun];simp[h0,Array.range_zero',hB',newRow]
        ·simp only[Instr.buildSlice,Sem.run_bind,run_underlying hu,Result.andThen_ok,hrun];simp[hbig,h0,zeroValue,typeInfo,hi,hzx,hB,newRow]
       ·rw[hBs] at h0;have:len=0:=by
         rcases JT len with h'|h'
         ·exact h'
         ·have:=LA h' b2;omega
        exact JF om
       ·have:=VR.sl (ρ:=ρ') (D:=D') (O:=O') (w:=w.alloc (.cells B e)) n 0 len len hDn (JG _) (by rw[eq];simp[hBs]);rw[eq] at this;simpa using this
      ·cases hz
     ·cases hz
    ·cases h
   ·cases h
  ·cases h
 ·cases h
end
end Go.Ax
namespace Go.Ax
open Go
theorem eC(w:World)(g:Nat)(cur arr:Array Value)(t:TypeId)(fr:Nat × Nat)(h:w.heap[g]? = some (.cells cur t fr)) :
  (w.setRow g arr).heap=w.heap.setIfInBounds g (.cells arr t fr):=by
 apply KS;intro i;simp only[World.setRow,Ju,KY];by_cases hi:g=i
 ·subst hi;have hlt:g<w.heap.size:=by
   rcases JK g w.heap.size with h'|h'
   ·exact h'
   ·rw[KR h'] at h;cases h
  rw[Jj hlt] at h;simp only[Option.some.injEq] at h;simp[h,hlt]
 ·simp[hi]
theorem bO(P:Program)(g o:Nat)(t:TypeId)(fr:Nat × Nat):∀(vs:List Value) (i:Nat) (cur:Array Value) (w:World),w.heap[g]? = some (.cells cur t fr) ->
  (∀j,j<cur.size->¬(fr.1<=j/\j<fr.2))->o+i+vs.length<=cur.size->(∀v∈vs,v.oneCell'=true) ->
  (storeCells ⟨g,o,none⟩ vs i).run P w = .ok () (w.setRow g (cur.toList.take (o+i)++vs++cur.toList.drop (o+i+vs.length)).toArray)
 | [],i,cur,w,hg,_,_,_=>by
  simp only[storeCells,KZ,KX,KB,Ka,Kc];rw[setRow_self w g cur t fr hg];rfl
 | v::rest,i,cur,w,hg,hf,hl,h1=>by
  have hi:o+i<cur.size:=by simp at hl;omega
  have hadd:(⟨g,o,none⟩:Addr).add i=⟨g,o+i,none⟩:=by unfold Addr.add;split<;>simp_all
  have hcell:w.cell? ⟨g,o+i,none⟩=some cur[o+i]:=by simp[World.cell?,hg,hi]
  have hfro:w.frozen? ⟨g,o+i,none⟩=false:=by
   have:=hf _ hi;simp only[World.frozen?,hg];rw[KI];by_cases h:fr.1<=o+i
   ·right;simp;omega
   ·left;simpa using h
  have hst:(store ((⟨g,o,none⟩:Addr).add i) v).run P w = .ok () (w.setRow g (cur.setIfInBounds (o+i) v)):=by
   rw[hadd,run_store P w _ v _ (h1 v (by simp)),hcell];simp[hfro,setCell_eq_setRow w g (o+i) cur t fr v hg]
  have ih:=bO P g o t fr rest (i+1) (cur.setIfInBounds (o+i) v) (w.setRow g (cur.setIfInBounds (o+i) v)) (setRow_heap w g cur _ t _ hg) (by simpa using hf) (by simp at hl ⊢;omega) (fun x hx=>h1 x (by simp[hx]));simp only[storeCells,Sem.run_bind,hst,Result.andThen_ok,ih,setRow_setRow];congr 3;have e:=list_seg_step cur.toList (o+i) v rest (by simp at hl ⊢;omega);simpa[Array.toList_setIfInBounds,Nat.add_assoc] using e
def kM(x:AV)(j:Nat)(cs:List AV):Option AV:=
 match x with
 | .agg xs=>some (.agg (xs.take j++cs++xs.drop (j+cs.length)))
 | _=>match cs with
  | [c]=>one c
  | _=>none
def nS(P:Program)(mem:aA)(t:TypeId)(p v:AV):Option aA:=
 match p with
 | .ptr id i j=>match lk mem id with
  | some (.row t' sz' xs)=>match xs[i]? with
   | some x=>match cF P t with
    | some n=>match d6 v && (Nat.beq v.cells.length n && Nat.ble (j+n) x.cells.length) with
     | true=>match kM x j v.cells with
      | some x'=>some (up mem id (.row t' sz' (xs.set i x')))
      | none=>none
     | false=>none
    | none=>none
   | none=>none
  | _=>none
 | _=>none
def wD(P:Program)(mem:aA)(t:TypeId)(p v:AV):Option aA:=
 match p with
 | .ptr id 0 0=>match lk mem id with
  | some (.row t' sz' (_::xs))=>match P.underlying t with
   | some (.array _ _)=>match s4 P t v with
    | some (sz,ys)=>match cF P t with
     | some n=>match d6 v && (Nat.beq v.cells.length n && (Nat.beq sz sz' && (Nat.beq ys.length (xs.length+1) && Nat.beq n (ys.length*sz)))) with
      | true=>some (up mem id (.row t' sz' ys))
      | false=>none
     | none=>none
    | none=>none
   | _=>none
  | _=>none
 | _=>none
def kW(P:Program)(mem:aA)(t:TypeId)(p v:AV):Option aA:=
 match p with
 | .ptr _ _ _=>match cF P t with
  | some 0=>match d6 v with
   | true=>match v.cells with
    | []=>some mem
    | _::_=>none
   | false=>none
  | _=>none
 | _=>none
def mH(P:Program)(mem:aA)(t:TypeId)(p v:AV):Option aA:=
 match kW P mem t p v with
 | some m=>some m
 | none=>match nS P mem t p v with
  | some m=>some m
  | none=>wD P mem t p v
section
variable {P:Program} {Γ:List (Nat × AV)} {X:Nat->Prop} {ρ:Nat->a6} {D:Nat->Prop} {O:Nat->Prop} {mem:aA} {w w':World}
theorem qW{x x':AV}{j:Nat}{cs:List AV}(h:kM x j cs=some x')(hl:j+cs.length<=x.cells.length) :
  x'.cells.length=x.cells.length/\∀(k:Nat) (c:AV),x'.cells[k]? = some c->(j<=k/\k<j+cs.length/\cs[k-j]? = some c)∨(¬(j<=k/\k<j+cs.length)/\x.cells[k]? = some c):=by
 unfold kM at h;split at h
 ·rename_i xs;cases h;simp only[AV.cells] at hl ⊢;refine⟨by simp;omega,fun k c hk=>?_⟩;rw[KK,JY] at hk;have e1:(xs.take j).length=j:=by simp;omega
  rw[e1] at hk;by_cases h1:k<j
  ·rw[JL h1,Jb,JL h1] at hk;exact .inr ⟨om,hk⟩
  ·rw[JJ h1,JY] at hk;by_cases h2:k-j<cs.length
   ·rw[JL h2] at hk;exact .inl ⟨om,om,hk⟩
   ·rw[JJ h2,Jc] at hk;refine .inr ⟨om, ?_⟩;rw[←hk];congr 1;omega
 ·rename_i hagg;split at h
  ·rename_i c;obtain⟨rfl,hoc⟩:=rH h;have hxc:x.cells=[x]:=by
    cases x<;>first|rfl|exact(hagg _ rfl).elim
   rw[hxc] at hl ⊢;simp at hl;subst hl;rw[hoc];refine⟨rfl,fun k c hk=>.inl ?_⟩;cases k with
   | zero=>simp at hk;subst hk;simp
   | succ k=>simp at hk
  ·cases h
theorem tK(hm:MR Γ X ρ D mem w){t:TypeId}{p v:AV}{x y:Value}{mem':aA}(h:nS P mem t p v=some mem')
  (hx:VR ρ D (OX X ρ mem) w p x) (hy:VR ρ D (OX X ρ mem) w v y) :
  ∃w',(Instr.storeAt t x y).run P w = .ok () w'/\MR Γ X ρ D mem' w'/\(∀u z,VR ρ D (OX X ρ mem) w u z->VR ρ D (OX X ρ mem') w' u z)/\∀A:Nat->Prop,(∀i,A i->D i)->Ext A ρ mem w ρ D mem' w':=by
 unfold nS at h;split at h
 ·rename_i id i j;split at h
  ·rename_i t' sz' xs hid;split at h
   ·rename_i e he;split at h
    ·rename_i n hn;split at h
     ·rename_i hb;simp only[JE] at hb;have b1:=Nat.eq_of_beq_eq_true hb.2.1;have b3:=JB hb.2.2;split at h
      ·rename_i e' he';cases h;cases hx;obtain⟨s1,s2⟩:=qW he' om;have hn0:0<(ρ id).n:=by
        rcases JT (ρ id).n with h'|h'
        ·obtain⟨t2,sz2,e2,_⟩:=hm.emp _ (aF hid) h';cases e2;simp at he
        ·exact h'
       obtain⟨o,ho,q0,arr,fr,rfl,hfr,q1,q2,q3⟩:=hm.blk _ (aF hid) hn0;have hc:=hy.cells_of hb.1;simp only at ho q0 q1 q2 q3;have hsz:(ρ id).sz=e.cells.length:=((q3 i e he).1).symm;have hlt:i<xs.length:=by
        rcases JK i xs.length with h'|h'
        ·exact h'
        ·rw[JH h'] at he;cases he
       have hle:(i+1)*(ρ id).sz<=xs.length*(ρ id).sz:=JP _ hlt;rw[Nat.add_mul,KF] at hle;have hyl:y.cells.toList.length=n:=by rw[←hc.1.1];exact b1
       have hys:y.cells.size=n:=by simpa using hyl
       have hfit:i*(ρ id).sz+j+0+y.cells.toList.length<=arr.size:=om;have hrun:=bO P (ρ id).b (i*(ρ id).sz+j) t' fr y.cells.toList 0 arr w ho hfr hfit hc.2;simp only[KB] at hrun hfit;refine⟨w.setRow (ρ id).b (List.take (i*(ρ id).sz+j) arr.toList++y.cells.toList++List.drop (i*(ρ id).sz+j+y.cells.toList.length) arr.toList).toArray, ?_,
        hm.change hid hn0 (xs':=xs.set i e') (eC w _ arr _ t' fr ho) .go ?_ ?_ ?_⟩
       ·have hsz2:=cQ (w:=w) hn;simp[Instr.storeAt,Instr.sureAddr,storeVar,hsz2,hys,hrun]
       ·intro k hk;refine hfr k ?_;simp at hk;omega
       ·simp;omega
       ·rw[←q0];refine⟨by simp;omega,fun k z hk=>?_⟩;have harr:∀q,(List.take (i*(ρ id).sz+j) arr.toList++y.cells.toList++List.drop (i*(ρ id).sz+j+y.cells.toList.length) arr.toList).toArray[q]? =
          if i*(ρ id).sz+j<=q/\q<i*(ρ id).sz+j+n then y.cells.toList[q-(i*(ρ id).sz+j)]? else arr[q]? := by
         intro q;rw[J1,KK,JY];have e1:(List.take (i*(ρ id).sz+j) arr.toList).length=i*(ρ id).sz+j:=by simp;omega
         rw[e1];by_cases h1:q<i*(ρ id).sz+j
         ·rw[JL h1,JJ om,Jb,JL h1,Array.getElem?_toList]
         ·rw[JJ h1,JY,hyl];by_cases h2:q-(i*(ρ id).sz+j)<n
          ·rw[JL h2,JL om]
          ·rw[JJ h2,JJ om,Jc,Array.getElem?_toList];congr 1;omega
        rw[KC] at hk;by_cases hik:i=k
        ·subst hik;rw[JL rfl,JL hlt] at hk;cases hk;refine⟨by rw[s1,hsz],fun l c hl=>?_⟩;rcases s2 l c hl with⟨g1,g2,g3⟩|⟨g1,g2⟩
         ·obtain⟨u,hu,ho1,hr⟩:=hc.get g3;refine⟨u, ?_,ho1,hr⟩;rw[harr,JL om];rw[show i*(ρ id).sz+l-(i*(ρ id).sz+j)=l-j by omega];exact hu
         ·obtain⟨u,hu,ho1,hr⟩:=(q3 i e he).2 l c g2;refine⟨u, ?_,ho1,hr⟩;rw[harr,JJ om];exact hu
        ·rw[JJ hik] at hk;refine⟨(q3 k z hk).1,fun l c hl=>?_⟩;obtain⟨u,hu,ho1,hr⟩:=(q3 k z hk).2 l c hl;refine⟨u, ?_,ho1,hr⟩;have hll:l<(ρ id).sz:=by
          rw[←(q3 k z hk).1];rcases JK l z.cells.length with h'|h'
          ·exact h'
          ·rw[JH h'] at hl;cases hl
         rw[harr,JJ]
         ·exact hu
         ·rintro⟨h5,h6⟩;rcases Nat.lt_or_gt_of_ne hik with h7|h7
          ·have:(i+1)*(ρ id).sz<=k*(ρ id).sz:=JP _ h7;rw[Nat.add_mul,KF] at this;omega
          ·have:(k+1)*(ρ id).sz<=i*(ρ id).sz:=JP _ h7;rw[Nat.add_mul,KF] at this;omega
      ·cases h
     ·cases h
    ·cases h
   ·cases h
  ·cases h
 ·cases h
theorem tJ(hm:MR Γ X ρ D mem w){t:TypeId}{p v:AV}{x y:Value}{mem':aA}(h:wD P mem t p v=some mem')
  (hx:VR ρ D (OX X ρ mem) w p x) (hy:VR ρ D (OX X ρ mem) w v y) :
  ∃w',(Instr.storeAt t x y).run P w = .ok () w'/\MR Γ X ρ D mem' w'/\(∀u z,VR ρ D (OX X ρ mem) w u z->VR ρ D (OX X ρ mem') w' u z)/\∀A:Nat->Prop,(∀i,A i->D i)->Ext A ρ mem w ρ D mem' w':=by
 unfold wD at h;split at h<;>first|(cases h;done)|skip
 rename_i id;split at h<;>first|(cases h;done)|skip
 rename_i t' sz' x0 xs hid;split at h<;>first|(cases h;done)|skip
 split at h<;>first|(cases h;done)|skip
 rename_i sz ys hrow;split at h<;>first|(cases h;done)|skip
 rename_i n hn;split at h<;>first|(cases h;done)|skip
 rename_i hb;cases h;simp only[JE] at hb;obtain⟨hok,b1,b2,b3,b4⟩:=hb;have b1:=Nat.eq_of_beq_eq_true b1;have b2:=Nat.eq_of_beq_eq_true b2;have b3:=Nat.eq_of_beq_eq_true b3;have b4:=Nat.eq_of_beq_eq_true b4;subst b2;cases hx;have hn0:0<(ρ id).n:=by
  rcases JT (ρ id).n with h'|h'
  ·obtain⟨t2,sz2,e2,_⟩:=hm.emp _ (aF hid) h';cases e2
  ·exact h'
 obtain⟨o,ho,q0,arr,fr,rfl,hfr,q1,q2,q3⟩:=hm.blk _ (aF hid) hn0;have hc:=hy.cells_of hok;simp only at ho q0 q1 q2 q3;have hyl:y.cells.toList.length=n:=by rw[←hc.1.1];exact b1
 have hys:y.cells.size=n:=by simpa using hyl
 have hle:n<=arr.size:=by
  rw[b4,b3,q1,←q0];simpa using q2
 obtain⟨r1,r2⟩:=j8 hrow hy;have hrun:=bO P (ρ id).b 0 t' fr y.cells.toList 0 arr w ho hfr om hc.2;simp only[KB,Jd,List.take_zero,KD] at hrun;have harr:∀q,q<n->(y.cells.toList++List.drop y.cells.toList.length arr.toList).toArray[q]? = y.cells[q]? := by
  intro q hq;rw[J1,JY,JL om,Array.getElem?_toList]
 refine⟨w.setRow (ρ id).b (y.cells.toList++List.drop y.cells.toList.length arr.toList).toArray, ?_,
  hm.change hid hn0 (xs':=ys) (eC w _ arr _ t' fr ho) .go ?_ ?_ ?_⟩
 ·have hsz2:=cQ (w:=w) hn;simp[Instr.storeAt,Instr.sureAddr,storeVar,hsz2,hys];simpa[hys] using hrun
 ·intro k hk;refine hfr k ?_;simp at hk;omega
 ·simp;omega
 ·refine⟨by simp;omega,fun k z hk=>⟨(r1.2 k z hk).1,fun l c hl=>?_⟩⟩;obtain⟨u,hu,ho1,hr⟩:=(r1.2 k z hk).2 l c hl;refine⟨u, ?_,ho1,hr⟩;have hq:k*sz+l<n:=by
   have:=(J3.1 hu).1;omega
  rw[harr _ hq];exact hu
theorem tI(hm:MR Γ X ρ D mem w){t:TypeId}{p v:AV}{x y:Value}{mem':aA}(h:kW P mem t p v=some mem')
  (hx:VR ρ D (OX X ρ mem) w p x) (hy:VR ρ D (OX X ρ mem) w v y) :
  ∃w',(Instr.storeAt t x y).run P w = .ok () w'/\MR Γ X ρ D mem' w'/\(∀u z,VR ρ D (OX X ρ mem) w u z->VR ρ D (OX X ρ mem') w' u z)/\∀A:Nat->Prop,(∀i,A i->D i)->Ext A ρ mem w ρ D mem' w':=by
 unfold kW at h;split at h<;>first|(cases h;done)|skip
 split at h<;>first|(cases h;done)|skip
 rename_i hn;split at h<;>first|(cases h;done)|skip
 rename_i ho;split at h<;>first|(cases h;done)|skip
 rename_i hc;cases h;cases hx;have hys:y.cells = #[]:=by
  have:=(hy.cells_of ho).1.1;rw[hc] at this;exact Jm (by simpa using this.symm)
 have hsz2:=cQ (w:=w) hn;exact⟨w,by simp[Instr.storeAt,Instr.sureAddr,storeVar,hsz2,hys,storeCells],hm,fun _ _ h=>h,fun A hA=>Ext.refl hA⟩
theorem wH(hm:MR Γ X ρ D mem w){t:TypeId}{p v:AV}{x y:Value}{mem':aA}(h:mH P mem t p v=some mem')
  (hx:VR ρ D (OX X ρ mem) w p x) (hy:VR ρ D (OX X ρ mem) w v y) :
  ∃w',(Instr.storeAt t x y).run P w = .ok () w'/\MR Γ X ρ D mem' w'/\(∀u z,VR ρ D (OX X ρ mem) w u z->VR ρ D (OX X ρ mem') w' u z)/\∀A:Nat->Prop,(∀i,A i->D i)->Ext A ρ mem w ρ D mem' w':=by
 unfold mH at h;split at h
 ·rename_i m hm1;cases h;exact tI hm hm1 hx hy
 ·split at h
  ·rename_i m hm1;cases h;exact tK hm hm1 hx hy
  ·exact tJ hm h hx hy
def o8(P:Program)(mem:aA)(nx:Nat)(t:TypeId)(l c:AV):Option (AV × aA × Nat):=
 match l,c with
 | .int _ l,.int _ c=>match P.underlying t with
  | some (.slice e)=>match P.info? e with
   | some i=>match eV P e with
    | some z=>match d6 z && (Nat.beq z.cells.length i.size && (Nat.blt 0 i.size && (decide (0<=l) && (decide (l<=c) && (decide ((i.bytes:Int)*c<=281474976710656) && decide (c<=9223372036854775807)))))) with
     | true=>some (.sl nx 0 l.toNat,(nx,.row e i.size (List.replicate l.toNat z))::mem,nx+1)
     | false=>none
    | none=>none
   | none=>none
  | _=>none
 | _,_=>none
theorem xU{n:Nat}{D':Nat->Prop}(hn0:¬D n)(hD:∀i,D i->D' i)(hDn:D' n)(hm:MR Γ X ρ D mem w){t:TypeId}{a b v:AV}{x y:Value}{mem':aA}{N':Nat}(h:o8 P mem n t a b=some (v,mem',N'))
  (hx:VR ρ D (OX X ρ mem) w a x) (hy:VR ρ D (OX X ρ mem) w b y):iR P Γ X ρ D mem w ((Instr.makeSlice t x y).run P w) v mem' D':=by
 unfold o8 at h;split at h
 ·rename_i k1 l k2 c;cases hx;cases hy;split at h
  ·rename_i e hu;split at h
   ·rename_i i hi;split at h
    ·rename_i z hz;split at h
     ·rename_i hb;simp only[JE] at hb;obtain⟨b0,b1,b2,b3,b4,b5,b6⟩:=hb;have b1:=Nat.eq_of_beq_eq_true b1;have b2:0<i.size:=JB b2;have b3:=JV b3;have b4:=JV b4;have b5:=JV b5;have b6:=JV b6;cases h;unfold eV at hz;rw[hi] at hz;simp only at hz;split at hz
      ·rename_i zx hzx;have hrun:=run_make (P:=P) w t e i zx hu hi hzx k1 k2 l c b3 b4 b5 b6;have hle:l.toNat*i.size<=c.toNat*i.size:=JP _ om;have hrow:=xX (dU (ρ:=ρ) (D:=D) (O:=OX X ρ mem) (w:=w) hz) b0 b1 b2 l.toNat (c.toNat*i.size) hle;refine iR.alloc hn0 hD hDn hm (fun b=>.slice (some ⟨b,0,none⟩) l.toNat c.toNat) hrun rfl .go (sz:=i.size) hrow (fun h0=>?_) (fun ρ' O' eq=>?_)
       ·rw[size_madeCells] at h0;have:l.toNat=0:=by
         rcases JT l.toNat with h'|h'
         ·exact h'
         ·have:=LA h' b2;omega
        rw[this];rfl
       ·have:=VR.sl (ρ:=ρ') (D:=D') (O:=O') (w:=w.alloc (.cells (madeCells zx.cells (c.toNat*i.size)) e)) n 0 l.toNat c.toNat hDn om (by rw[eq];simp[size_madeCells]);rw[eq] at this;simpa using this
      ·cases hz
     ·cases h
    ·cases h
   ·cases h
  ·cases h
 ·cases h
end
end Go.Ax
namespace Go.Ax
open Go
def CE(mem:aA)(sz:Nat):AV->Option (List AV)
 | .nsl=>some []
 | .il sz' ys=>match Nat.beq sz' sz with
  | true=>some ys
  | false=>none
 | .sl id off len=>match lk mem id with
  | some (.row _ sz' xs)=>match Nat.beq sz' sz && Nat.ble (off+len) xs.length with
   | true=>some ((xs.drop off).take len)
   | false=>none
  | _=>none
 | .str s=>match Nat.beq sz 1 with
  | true=>some (s.map fun b=>.int .u8 (b.toNat:Int))
  | false=>none
 | _=>none
def mG:Option TypeDesc->Bool
 | some (.slice _)=>true
 | some .string=>true
 | _=>false
def iT(P:Program)(mem:aA)(nx:Nat)(t u:TypeId)(s x:AV):Option (AV × aA × Nat):=
 match P.underlying t with
 | some (.slice e)=>match P.info? e with
  | some i=>match i.zero with
   | some z=>match mG (P.underlying u) && (Nat.blt 0 i.size && Nat.beq z.cells.size i.size) with
    | true=>match CE mem i.size x with
     | some ys=>match s with
      | .nsl=>match Nat.ble (ys.length*i.bytes) 140737488355328 && Nat.ble ys.length 9223372036854775807 with
       | true=>some (.sl nx 0 ys.length,(nx,.row e i.size ys)::mem,nx+1)
       | false=>none
      | .sl id 0 len=>match lk mem id with
       | some (.row t' sz' xs)=>match Nat.beq t' e && (Nat.beq sz' i.size && (Nat.beq len xs.length && (Nat.ble ((len+ys.length)*i.bytes) 140737488355328 && Nat.ble (len+ys.length) 9223372036854775807))) with
        | true=>some (.sl nx 0 (len+ys.length),(nx,.row e i.size (xs++ys))::drop id mem,nx+1)
        | false=>none
       | _=>none
      | _=>none
     | none=>none
    | false=>none
   | none=>none
  | none=>none
 | _=>none
section
variable {P:Program} {Γ:List (Nat × AV)} {X:Nat->Prop} {ρ:Nat->a6} {D:Nat->Prop} {O:Nat->Prop} {mem:aA} {w w':World}
def kQ(ρ:Nat->a6)(D:Nat->Prop)(O:Nat->Prop)(w:World)(sz:Nat)(ys:List AV)(vs:List Value):Prop:=
 vs.length=ys.length*sz/\(∀v∈vs,v.oneCell'=true)/\∀(i:Nat) (y:AV),ys[i]? = some y->y.cells.length=sz /\
  ∀(j:Nat) (c:AV),y.cells[j]? = some c->∃v,vs[i*sz+j]? = some v/\VR ρ D O w c v
theorem uJ{q sz n:Nat}(hp:0<sz)(h:q<n*sz):q/sz<n/\q%sz<sz/\q/sz*sz+q%sz=q:=
 ⟨(Nat.div_lt_iff_lt_mul hp).2 h,Kv _ hp,by rw[Kr];exact Nat.div_add_mod q sz⟩
theorem BL{sz:Nat}{ys:List AV}{b off:Nat}(hp:0<sz)
  (hc:∀(i:Nat) (y:AV),ys[i]? = some y->y.cells.length=sz/\∀(j:Nat) (c:AV),y.cells[j]? = some c->∃v,w.cell? ⟨b,off+(i*sz+j),none⟩=some v/\v.oneCell'=true/\VR ρ D O w c v) :
  ∃vs,kQ ρ D O w sz ys vs/\∀(j:Nat) (v:Value),vs[j]? = some v->w.cell? (Addr.add ⟨b,off,none⟩ j)=some v:=by
 have key:∀q,q<ys.length*sz->∃v,w.cell? ⟨b,off+q,none⟩=some v/\v.oneCell'=true/\∀(y c:AV),ys[q/sz]? = some y->y.cells[q%sz]? = some c->VR ρ D O w c v:=by
  intro q hq;obtain⟨h1,h2,h3⟩:=uJ hp hq;have hy:ys[q/sz]? = some ys[q/sz]:=I9 h1;obtain⟨h4,h5⟩:=hc _ _ hy;have hcc:ys[q/sz].cells[q%sz]? = some (ys[q/sz].cells[q%sz]'om):=I9 _;obtain⟨v,hv,ho,hr⟩:=h5 _ _ hcc;rw[h3] at hv;refine⟨v,hv,ho,fun y c e1 e2=>?_⟩;rw[hy] at e1;cases e1;rw[hcc] at e2;cases e2;exact hr
 refine⟨(List.range (ys.length*sz)).map fun q=>(w.cell? ⟨b,off+q,none⟩).getD undef,⟨by simp,fun v hv=>?_,fun i y hi=>⟨(hc i y hi).1,fun j c hj=>?_⟩⟩,fun j v hj=>?_⟩
 ·obtain⟨q,hq,rfl⟩:=JM.1 hv;obtain⟨v,hv,ho,_⟩:=key q (KN.1 hq);simp[hv,ho]
 ·obtain⟨v,hv,ho,hr⟩:=(hc i y hi).2 j c hj;have hjl:j<sz:=by
   rw[←(hc i y hi).1];rcases JK j y.cells.length with h'|h'
   ·exact h'
   ·rw[JH h'] at hj;cases hj
  have hil:i<ys.length:=by
   rcases JK i ys.length with h'|h'
   ·exact h'
   ·rw[JH h'] at hi;cases hi
  have:(i+1)*sz<=ys.length*sz:=JP _ hil;rw[Nat.add_mul,KF] at this;refine⟨v, ?_,hr⟩;rw[Ja,List.getElem?_range om];simp[hv]
 ·have hjl:j<ys.length*sz:=by
   rcases JK j (ys.length*sz) with h'|h'
   ·exact h'
   ·simp[h'] at hj
  obtain⟨v',hv,_⟩:=key j hjl;simp[hjl,hv] at hj;subst hj;simp[Addr.add_lit,hv]
theorem sZ(hm:MR Γ X ρ D mem w){sz:Nat}{a:AV}{x:Value}{ys:List AV}(hp:0<sz)(h:CE mem sz a=some ys)(hx:VR ρ D (OX X ρ mem) w a x) :
  ∃vs,kQ ρ D (OX X ρ mem) w sz ys vs/\Builtin.lenOf x=pure ys.length/\∀w',w'.heap=w.heap->(Builtin.firstCells sz ys.length x).run P w' = .ok vs.toArray w':=by
 have cellw:∀w':World,w'.heap=w.heap->∀a,w'.cell? a=w.cell? a:=fun w' e a=>by simp[World.cell?,e]
 have fin:∀{b off len cap:Nat},(∀(i:Nat) (y:AV),ys[i]? = some y->y.cells.length=sz/\∀(j:Nat) (c:AV),y.cells[j]? = some c->∃v,w.cell? ⟨b,off+(i*sz+j),none⟩=some v/\v.oneCell'=true/\VR ρ D (OX X ρ mem) w c v) ->
   len=ys.length->∃vs,kQ ρ D (OX X ρ mem) w sz ys vs/\Builtin.lenOf (.slice (some ⟨b,off,none⟩) len cap)=pure ys.length /\
    ∀w',w'.heap=w.heap->(Builtin.firstCells sz ys.length (.slice (some ⟨b,off,none⟩) len cap)).run P w' = .ok vs.toArray w':=by
  intro b off len cap hc hl;obtain⟨vs,hf,hv⟩:=BL hp hc;refine⟨vs,hf,by rw[hl];rfl,fun w' e=>?_⟩;exact run_firstCells_some w' sz ys.length ⟨b,off,none⟩ len cap vs hf.1 (fun j v hj=>by rw[cellw w' e];exact hv j v hj)
 have finz:ys=[]->∀(ad:Option Addr) (cap:Nat),x = .slice ad 0 cap->∃vs,kQ ρ D (OX X ρ mem) w sz ys vs/\Builtin.lenOf x=pure ys.length /\
    ∀w',w'.heap=w.heap->(Builtin.firstCells sz ys.length x).run P w' = .ok vs.toArray w':=by
  intro e ad cap ex;subst e ex;refine⟨[],⟨by simp,by simp,by simp⟩,rfl,fun w' _=>?_⟩;cases ad with
  | none=>rfl
  | some ad=>simp[Builtin.firstCells,loadCells,loadCellsFrom]
 unfold CE at h;split at h
 ·cases h;cases hx;exact finz rfl _ _ rfl
 ·rename_i sz' ys';split at h
  ·rename_i hs;have hs:=Nat.eq_of_beq_eq_true hs;cases h;subst hs;cases hx with
   | il _ _ b off cap f h0 h1 h2 h3=>
    exact fin (fun i y hi=>⟨h1 i y hi,fun j c hj=>⟨f i j,(h2 i y j c hi hj).2.1,(h2 i y j c hi hj).2.2,h3 i y j c hi hj⟩⟩) rfl
   | iln=>exact finz rfl _ _ rfl
  ·cases h
 ·rename_i id off len;split at h
  ·rename_i t' sz' xs hid;split at h
   ·rename_i hb;rw[JE] at hb;have b1:=Nat.eq_of_beq_eq_true hb.1;have b2:=JB hb.2;have hz:(ρ id).sz=sz:=by rw[jV hm hid];exact b1
    cases h;cases hx with
    | sl _ _ _ cap hid' g1 g2=>
     refine fin (fun i y hi=>?_) (by simp;omega);have hi':xs[off+i]? = some y:=by
      rw[Jb] at hi;split at hi
      ·rw[Jc] at hi;exact hi
      ·cases hi
     obtain⟨h1,h2⟩:=cC hm hid hi';refine⟨by rw[h1,hz],fun j c hj=>?_⟩;obtain⟨v,hv,ho,hr⟩:=h2 j c hj;refine⟨v, ?_,ho,hr⟩;rw[hz,Nat.add_mul,Nat.add_assoc] at hv;rw[hz];exact hv
    | slz _ _ ad ao hid'=>exact finz (by simp) _ _ rfl
    | slzn _ _ hid'=>exact finz (by simp) _ _ rfl
   ·cases h
  ·cases h
 ·rename_i s;split at h
  ·rename_i hs;have hs:=Nat.eq_of_beq_eq_true hs;cases h;subst hs;cases hx;refine⟨s.map fun b=>.int .u8 (b.toNat:Int),⟨by simp,fun v hv=>?_,fun i y hi=>?_⟩, ?_,fun w' _=>?_⟩
   ·obtain⟨b,_,rfl⟩:=JM.1 hv;rfl
   ·rw[Ja] at hi;obtain⟨b,hb,rfl⟩:=Jy.1 hi;refine⟨rfl,fun j c hj=>?_⟩;cases j with
    | zero=>
     simp[AV.cells] at hj;subst hj;exact⟨_,by simp[Ja,hb],.int _ _⟩
    | succ j=>simp[AV.cells] at hj
   ·simp[Builtin.lenOf,ByteArray.size_mk']
   ·simp[Builtin.firstCells,ByteArray.extract_mk]
  ·cases h
 ·cases h
theorem kQ.row{sz:Nat}{ys:List AV}{vs:List Value}(h:kQ ρ D O w sz ys vs){pre:List AV}{ps:List Value}(h':kQ ρ D O w sz pre ps)(post:Array Value) :
  oQ ρ D O w sz (ps.toArray++vs.toArray++post) (pre++ys):=by
 obtain⟨h1,ho,h2⟩:=h;obtain⟨h3,ho',h4⟩:=h';refine⟨by simp[h1,h3,Nat.add_mul],fun i y hi=>?_⟩;have key:∀(q:Nat) (v:Value),(ps++vs)[q]? = some v->(ps.toArray++vs.toArray++post)[q]? = some v:=by
  intro q v hq;have hlt:q<(ps++vs).length:=by
   rcases JK q (ps++vs).length with h'|h'
   ·exact h'
   ·rw[JH h'] at hq;cases hq
  rw[Ku,JL (by simpa using hlt)];simpa using hq
 rw[JY] at hi;split at hi
 ·rename_i hlt;refine⟨(h4 i y hi).1,fun j c hj=>?_⟩;obtain⟨v,hv,hr⟩:=(h4 i y hi).2 j c hj;refine⟨v,key _ _ ?_,ho' v (Je hv),hr⟩;have hlt2:i*sz+j<ps.length:=by
   rcases JK (i*sz+j) ps.length with h'|h'
   ·exact h'
   ·rw[JH h'] at hv;cases hv
  rw[JY,JL hlt2];exact hv
 ·rename_i hge;refine⟨(h2 _ y hi).1,fun j c hj=>?_⟩;obtain⟨v,hv,hr⟩:=(h2 _ y hi).2 j c hj;refine⟨v,key _ _ ?_,ho v (Je hv),hr⟩;have e:i*sz+j=ps.length+((i-pre.length)*sz+j):=by
   rw[h3,Nat.sub_mul];have:pre.length*sz<=i*sz:=JP _ om;omega
  rw[e,Jo om];rw[Nat.add_sub_cancel_left];exact hv
theorem e6{u:TypeId}(hu:mG (P.underlying u)=true):(∃e,P.underlying u=some (.slice e))∨P.underlying u=some .string:=by
 cases h:P.underlying u with
 | none=>rw[h] at hu;cases hu
 | some d=>rw[h] at hu;cases d<;>first|exact .inr rfl|exact .inl ⟨_,rfl⟩|(simp[mG] at hu)
theorem pX{t u ty e:TypeId}{i:TypeInfo}{z x:Value}{base:Option Addr}{sLen sCap n:Nat}{news olds:Array Value}(ht:P.underlying t=some (.slice e))(hu:mG (P.underlying u)=true)
  (hi:P.info? e=some i) (hz:i.zero=some z) (hlen:Builtin.lenOf x=pure n) (hnew:∀w',w'.heap=w.heap->(Builtin.firstCells i.size n x).run P w' = .ok news w')
  (hold:∀w',w'.heap=w.heap->(Builtin.firstCells i.size sLen (.slice base sLen sCap)).run P w' = .ok olds w') (hgt:sCap<sLen+n) (h63:sLen+n<=9223372036854775807) (h47:(sLen+n)*i.bytes<=140737488355328) :
  (Builtin.append_ #[t,u] ty #[.slice base sLen sCap,x]).run P w =
   .ok (.slice (some ⟨w.heap.size,0,none⟩) (sLen+n) (grownCap w (sLen+n) sCap e)) (w.drew.alloc (.cells (olds++news++Builtin.zeroCells z.cells (grownCap w (sLen+n) sCap e-(sLen+n))) e)):=by
 have hn:¬(sLen+n<=sCap):=om;have h48:=growslice_fits hgt h47;have h48':¬(281474976710656<Builtin.nextslicecap (sLen+n) sCap*i.bytes):=om;have h63':¬((9223372036854775807:Int)<(sLen:Int)+(n:Int)/\i.bytes=0):=by rintro⟨h1,_⟩;omega
 have hnew':=hnew w.drew rfl;have hold':=hold w.drew rfl;rcases e6 hu with⟨e',hd⟩|hd
 ·simp[Builtin.append_,run_underlying ht,run_underlying hd,Go.sizeOf,typeInfo,zeroValue,hi,hz,hlen,hn,h63',h48',Question.forced,hnew',hold',newRow,grownCap]
 ·simp[Builtin.append_,run_underlying ht,run_underlying hd,Go.sizeOf,typeInfo,zeroValue,hi,hz,hlen,hn,h63',h48',Question.forced,hnew',hold',newRow,grownCap]
theorem p4{t u ty e:TypeId}{i:TypeInfo}{x:Value}{g sLen sCap n:Nat}{news:List Value}{cur:Array Value}{fr:Nat × Nat}(ht:P.underlying t=some (.slice e))(hu:mG (P.underlying u)=true)
  (hi:P.info? e=some i) (hlen:Builtin.lenOf x=pure n) (hnew:(Builtin.firstCells i.size n x).run P w = .ok news.toArray w) (hg:w.heap[g]? = some (.cells cur e fr)) (hfr:∀j,j<cur.size->¬(fr.1<=j/\j<fr.2))
  (hone:∀v∈news,v.oneCell'=true) (hroom:sLen+n<=sCap) (hfit:sLen*i.size+news.length<=cur.size) :
  (Builtin.append_ #[t,u] ty #[.slice (some ⟨g,0,none⟩) sLen sCap,x]).run P w =
   .ok (.slice (some ⟨g,0,none⟩) (sLen+n) sCap) (w.setRow g (cur.toList.take (sLen*i.size)++news++cur.toList.drop (sLen*i.size+news.length)).toArray):=by
 have hst:=bO P g (sLen*i.size) e fr news 0 cur w hg hfr (by simpa using hfit) hone;simp only[KB] at hst;rcases e6 hu with⟨e',hd⟩|hd
 ·simp[Builtin.append_,run_underlying ht,run_underlying hd,Go.sizeOf,typeInfo,hi,hlen,hroom,hnew,Addr.add_lit,hst]
 ·simp[Builtin.append_,run_underlying ht,run_underlying hd,Go.sizeOf,typeInfo,hi,hlen,hroom,hnew,Addr.add_lit,hst]
theorem jL{t u ty e:TypeId}{i:TypeInfo}{x:Value}{ad:Option Addr}(ht:P.underlying t=some (.slice e))(hu:mG (P.underlying u)=true)
  (hi:P.info? e=some i) (hlen:Builtin.lenOf x=pure 0) (hnew:(Builtin.firstCells i.size 0 x).run P w = .ok #[] w) :
  (Builtin.append_ #[t,u] ty #[.slice ad 0 0,x]).run P w = .ok (.slice ad 0 0) w:=by
 rcases e6 hu with⟨e',hd⟩|hd
 ·cases ad<;>simp[Builtin.append_,run_underlying ht,run_underlying hd,Go.sizeOf,typeInfo,hi,hlen,hnew,storeCells]
 ·cases ad<;>simp[Builtin.append_,run_underlying ht,run_underlying hd,Go.sizeOf,typeInfo,hi,hlen,hnew,storeCells]
end
end Go.Ax
namespace Go.Ax
open Go
section
variable {P:Program} {Γ:List (Nat × AV)} {X:Nat->Prop} {ρ:Nat->a6} {D:Nat->Prop} {O:Nat->Prop} {mem:aA} {w w':World}
theorem MR.phantom{n:Nat}{D':Nat->Prop}(hn0:¬D n)(hD:∀i,D i->D' i)(hDn:D' n)(hm:MR Γ X ρ D mem w)(t:TypeId)(sz:Nat) :
  MR Γ X (bQ ρ n ⟨0,0,sz⟩) D' ((n,.row t sz [])::mem) w /\
  (∀v x,VR ρ D (OX X ρ mem) w v x->VR (bQ ρ n ⟨0,0,sz⟩) D' (OX X (bQ ρ n ⟨0,0,sz⟩) ((n,.row t sz [])::mem)) w v x) /\
  (∀A:Nat->Prop,(∀i,A i->D i)->Ext A ρ mem w (bQ ρ n ⟨0,0,sz⟩) D' ((n,.row t sz [])::mem) w):=by
 have hne:∀p∈mem,p.1≠n:=fun p hp e=>hn0 (e ▸ hm.low p hp)
 have hρ:∀id,D id->bQ ρ n ⟨0,0,sz⟩ id=ρ id:=fun id h=>qA _ _ _ (fun e=>hn0 (e ▸ h))
 have hρm:∀p∈mem,bQ ρ n ⟨0,0,sz⟩ p.1=ρ p.1:=fun p hp=>hρ _ (hm.low p hp)
 have hown:∀b,own (bQ ρ n ⟨0,0,sz⟩) ((n,.row t sz [])::mem) b->own ρ mem b:=by
  rintro b ⟨p,hp,hn,e⟩;rcases JA.1 hp with rfl|hp
  ·rw[aO] at hn;simp at hn
  ·rw[hρm p hp] at hn e;exact⟨p,hp,hn,e⟩
 have hk:∀b,b<w.heap.size->¬OX X ρ mem b->¬OX X (bQ ρ n ⟨0,0,sz⟩) ((n,.row t sz [])::mem) b/\w.heap[b]? = w.heap[b]? :=
  fun b _ ho=>⟨fun h=>ho (h.imp (fun x=>x) (hown b)),rfl⟩
 have hmono:∀v x,VR ρ D (OX X ρ mem) w v x->VR (bQ ρ n ⟨0,0,sz⟩) D' (OX X (bQ ρ n ⟨0,0,sz⟩) ((n,.row t sz [])::mem)) w v x:=
  fun v x h=>h.mono hρ hD hk
 refine⟨⟨?_, ?_, ?_, ?_, ?_, ?_, ?_⟩,hmono,fun B hB=>⟨fun i hi=>hD i (hB i hi),fun id h=>hρ id (hB id h),JG _,fun _ _ _=>rfl, ?_,.go⟩⟩
 ·intro p hp;rcases JA.1 hp with rfl|hp
  ·exact hDn
  ·exact hD _ (hm.low p hp)
 ·intro p hp hn;rcases JA.1 hp with rfl|hp
  ·rw[aO] at hn;simp at hn
  ·rw[hρm p hp] at hn ⊢;obtain⟨o,ho,hb⟩:=hm.blk p hp hn;exact⟨o,ho,hb.mono hρ hD hk⟩
 ·intro p hp hn;rcases JA.1 hp with rfl|hp
  ·exact⟨t,sz,rfl,by rw[aO]⟩
  ·rw[hρm p hp] at hn ⊢;exact hm.emp p hp hn
 ·intro p hp q hq hpn hqn e;rcases JA.1 hp with rfl|hp
  ·rw[aO] at hpn;simp at hpn
  ·rcases JA.1 hq with rfl|hq
   ·rw[aO] at hqn;simp at hqn
   ·rw[hρm p hp] at e hpn;rw[hρm q hq] at e hqn;exact hm.inj p hp q hq hpn hqn e
 ·simp only[Jg,JU];refine⟨fun h=>?_,hm.nod⟩;obtain⟨p,hp,e⟩:=JM.1 h;exact hne p hp e
 ·exact fun b hb=>⟨(hm.bar b hb).1,fun h=>(hm.bar b hb).2 (hown b h)⟩
 ·exact fun p hp=>hmono _ _ (hm.glo p hp)
 ·intro p hp hn;exact .inl (hown _ ⟨p,hp,hn,rfl⟩)
theorem MR.move{n:Nat}{D':Nat->Prop}(hn0:¬D n)(hD:∀i,D i->D' i)(hDn:D' n)(hm:MR Γ X ρ D mem w){id:Nat}{a:AB}(hid:lk mem id=some a) :
  MR Γ X (bQ ρ n (ρ id)) D' ((n,a)::drop id mem) w /\
  (∀v x,VR ρ D (OX X ρ mem) w v x->VR (bQ ρ n (ρ id)) D' (OX X (bQ ρ n (ρ id)) ((n,a)::drop id mem)) w v x) /\
  (∀A:Nat->Prop,(∀i,A i->D i)->Ext A ρ mem w (bQ ρ n (ρ id)) D' ((n,a)::drop id mem) w):=by
 have hidm:=aF hid;have hlow:=hm.low _ hidm;have hρ:∀i,D i->bQ ρ n (ρ id) i=ρ i:=fun i h=>qA _ _ _ (fun e=>hn0 (e ▸ h))
 have hρm:∀p∈mem,bQ ρ n (ρ id) p.1=ρ p.1:=fun p hp=>hρ _ (hm.low p hp)
 have hown:∀b,own (bQ ρ n (ρ id)) ((n,a)::drop id mem) b->own ρ mem b:=by
  rintro b ⟨p,hp,hn,e⟩;rcases JA.1 hp with rfl|hp
  ·rw[aO] at hn e;exact⟨_,hidm,hn,e⟩
  ·have hp:=bD hp;rw[hρm p hp] at hn e;exact⟨p,hp,hn,e⟩
 have hk:∀b,b<w.heap.size->¬OX X ρ mem b->¬OX X (bQ ρ n (ρ id)) ((n,a)::drop id mem) b/\w.heap[b]? = w.heap[b]? :=
  fun b _ ho=>⟨fun h=>ho (h.imp (fun x=>x) (hown b)),rfl⟩
 have hmono:∀v x,VR ρ D (OX X ρ mem) w v x->VR (bQ ρ n (ρ id)) D' (OX X (bQ ρ n (ρ id)) ((n,a)::drop id mem)) w v x:=
  fun v x h=>h.mono hρ hD hk
 refine⟨⟨?_, ?_, ?_, ?_, ?_, ?_, ?_⟩,hmono,fun B hB=>⟨fun i hi=>hD i (hB i hi),fun i h=>hρ i (hB i h),JG _,fun _ _ _=>rfl, ?_,.go⟩⟩
 ·intro p hp;rcases JA.1 hp with rfl|hp
  ·exact hDn
  ·exact hD _ (hm.low p (bD hp))
 ·intro p hp hn;rcases JA.1 hp with rfl|hp
  ·rw[aO] at hn ⊢;obtain⟨o,ho,hb⟩:=hm.blk _ hidm hn;exact⟨o,ho,hb.mono hρ hD hk⟩
  ·have hp:=bD hp;rw[hρm p hp] at hn ⊢;obtain⟨o,ho,hb⟩:=hm.blk p hp hn;exact⟨o,ho,hb.mono hρ hD hk⟩
 ·intro p hp hn;rcases JA.1 hp with rfl|hp
  ·rw[aO] at hn ⊢;exact hm.emp _ hidm hn
  ·have hp:=bD hp;rw[hρm p hp] at hn ⊢;exact hm.emp p hp hn
 ·intro p hp q hq hpn hqn e;rcases JA.1 hp with rfl|hp
  ·rcases JA.1 hq with rfl|hq
   ·rfl
   ·exfalso;have hne:=qE hm.nod hq;have hq:=bD hq;rw[hρm q hq] at e hqn;rw[aO] at e hpn;exact hne (hm.inj _ hq _ hidm hqn hpn e.symm)
  ·rcases JA.1 hq with rfl|hq
   ·exfalso;have hne:=qE hm.nod hp;have hp:=bD hp;rw[hρm p hp] at e hpn;rw[aO] at e hqn;exact hne (hm.inj _ hp _ hidm hpn hqn e)
   ·have hp:=bD hp;have hq:=bD hq;rw[hρm p hp] at e hpn;rw[hρm q hq] at e hqn;exact hm.inj p hp q hq hpn hqn e
 ·simp only[Jg,JU];refine⟨fun h=>?_,gM hm.nod⟩;obtain⟨p,hp,e⟩:=JM.1 h;exact hn0 (e ▸ hm.low p (bD hp))
 ·exact fun b hb=>⟨(hm.bar b hb).1,fun h=>(hm.bar b hb).2 (hown b h)⟩
 ·exact fun p hp=>hmono _ _ (hm.glo p hp)
 ·intro p hp hn;exact .inl (hown _ ⟨p,hp,hn,rfl⟩)
theorem AT:∀{m:aA} {id:Nat} {a b:AB},lk m id=some a->lk (up m id b) id=some b:=by
 intro m id a b h;rw[zB];simp
theorem Bo:∀{m:aA} {id:Nat} {b:AB},drop id (up m id b)=drop id m∨lk m id=none
 | [],id,b=>.inr rfl
 | (k,u)::r,id,b=>by
  simp only[up,drop,lk];cases hk:Nat.beq k id with
  | true=>simp[drop,hk]
  | false=>
   simp only[drop,hk];rcases Bo (m:=r) (id:=id) (b:=b) with h|h
   ·exact .inl (by rw[h])
   ·exact .inr h
theorem oQ.nil{sz:Nat}{arr:Array Value}:oQ ρ D O w sz arr []:=⟨by simp,by simp⟩
theorem kQ.nil{sz:Nat}:kQ ρ D O w sz [] []:=⟨by simp,by simp,by simp⟩
theorem tN{n:Nat}{D':Nat->Prop}(hn0:¬D n)(hD:∀i,D i->D' i)(hm:MR Γ X ρ D mem w){t u ty:TypeId}{a b v:AV}{x y:Value}{mem':aA}{N':Nat}(hDn':N'=n+1->D' n)(h:iT P mem n t u a b=some (v,mem',N'))
  (hx:VR ρ D (OX X ρ mem) w a x) (hy:VR ρ D (OX X ρ mem) w b y):iR P Γ X ρ D mem w ((Builtin.append_ #[t,u] ty #[x,y]).run P w) v mem' D':=by
 unfold iT at h;split at h
 ·rename_i e ht;split at h
  ·rename_i i hi;split at h
   ·rename_i z hz;split at h
    ·rename_i hb;simp only[JE] at hb;obtain⟨hu,hp,hzs⟩:=hb;have hp:0<i.size:=JB hp;have hzs:=Nat.eq_of_beq_eq_true hzs;split at h
     ·rename_i ys hys;obtain⟨news,hflat,hlen,hfirst⟩:=sZ (P:=P) hm hp hys hy;have grow:D' n->∀(base:Option Addr) (sLen sCap:Nat) (pre:List AV) (olds:List Value),kQ ρ D (OX X ρ mem) w i.size pre olds->pre.length=sLen ->
        (∀w',w'.heap=w.heap->(Builtin.firstCells i.size sLen (.slice base sLen sCap)).run P w' = .ok olds.toArray w')->sCap<sLen+ys.length->(sLen+ys.length)*i.bytes<=140737488355328->sLen+ys.length<=9223372036854775807 ->
        iR P Γ X ρ D mem w ((Builtin.append_ #[t,u] ty #[.slice base sLen sCap,y]).run P w) (.sl n 0 (sLen+ys.length)) ((n,.row e i.size (pre++ys))::mem) D':=by
       intro hDn base sLen sCap pre olds hpre hpl hold hgt h47 h63;have hrun:=pX (P:=P) (w:=w) (ty:=ty) ht hu hi hz hlen hfirst hold hgt h63 h47;have hcap:=grownCap_ge w (sLen+ys.length) sCap e;have hsize:(olds.toArray++news.toArray++Builtin.zeroCells z.cells (grownCap w (sLen+ys.length) sCap e-(sLen+ys.length))).size=grownCap w (sLen+ys.length) sCap e*i.size:=by
        simp[size_zeroCells,hzs,hflat.1,hpre.1,hpl];rw[←Nat.add_mul,←Nat.add_mul];congr 1;omega
       refine iR.alloc hn0 hD hDn hm (fun b=>.slice (some ⟨b,0,none⟩) (sLen+ys.length) (grownCap w (sLen+ys.length) sCap e)) hrun rfl .go (hflat.row hpre _) (fun h0=>?_) (fun ρ' O' eq=>?_)
       ·exfalso;rw[hsize] at h0;have:=LA (show 0<grownCap w (sLen+ys.length) sCap e by omega) hp;omega
       ·have:=VR.sl (ρ:=ρ') (D:=D') (O:=O') (w:=w.drew.alloc (.cells (olds.toArray++news.toArray++Builtin.zeroCells z.cells (grownCap w (sLen+ys.length) sCap e-(sLen+ys.length))) e)) n 0 (sLen+ys.length) (grownCap w (sLen+ys.length) sCap e) hDn hcap (by rw[eq];simp only[hsize];simp);rw[eq] at this;simpa using this
      split at h
      ·cases hx;split at h
       ·rename_i hb2;rw[JE] at hb2;have b1:=JB hb2.1;have b2:=JB hb2.2;cases h;have hDn:=hDn' rfl;cases ys with
        | nil=>
         have hr:=jL (P:=P) (w:=w) (ty:=ty) (ad:=none) ht hu hi hlen (by have e3:=hfirst w rfl;have:=hflat.1;simp at this;rw[this] at e3;exact e3);obtain⟨w1,w2,w3⟩:=hm.phantom hn0 hD hDn e i.size;exact⟨_,w,_,hr,w1,.slzn n 0 hDn,w2,w3⟩
        | cons y0 yr=>
         have:=grow hDn none 0 0 [] [] kQ.nil rfl (fun w' _=>rfl) (by simp) (by simpa using b1) (by simpa using b2);simpa using this
       ·cases h
      ·rename_i id len;split at h
       ·rename_i t' sz' xs hid;split at h
        ·rename_i hb2;simp only[JE] at hb2;obtain⟨c1,c2,c3,c4,c5⟩:=hb2;have c1:=Nat.eq_of_beq_eq_true c1;have c2:=Nat.eq_of_beq_eq_true c2;have c3:=Nat.eq_of_beq_eq_true c3;have c4:=JB c4;have c5:=JB c5;cases h;have hDn:=hDn' rfl;have hszr:(ρ id).sz=i.size:=by rw[jV hm hid];exact c2
         have hidm:=aF hid;have growd:∀(base:Option Addr) (sCap:Nat) (olds:List Value),kQ ρ D (OX X ρ mem) w i.size xs olds ->
           (∀w',w'.heap=w.heap->(Builtin.firstCells i.size len (.slice base len sCap)).run P w' = .ok olds.toArray w')->sCap<len+ys.length ->
           iR P Γ X ρ D mem w ((Builtin.append_ #[t,u] ty #[.slice base len sCap,y]).run P w) (.sl n 0 (len+ys.length)) ((n,.row e i.size (xs++ys))::drop id mem) D':=by
          intro base sCap olds h1 h2 h3;obtain⟨r,w1,ρ1,e1,m1,v1,mono1,ext1⟩:=(grow hDn base len sCap xs olds h1 c3.symm h2 h3 c4 c5).ex;have hsub:∀p∈(n,AB.row e i.size (xs++ys))::drop id mem,p∈(n,AB.row e i.size (xs++ys))::mem:=by
           intro p hp;rcases JA.1 hp with rfl|hp
           ·exact JW ..
           ·exact JO _ (bD hp)
          have hnd:(((n,AB.row e i.size (xs++ys))::drop id mem).map (·.1)).Nodup:=by
           simp only[Jg,JU];refine⟨fun h=>?_,gM hm.nod⟩;obtain⟨p,hp,e'⟩:=JM.1 h;exact hn0 (e' ▸ hm.low p (bD hp))
          obtain⟨m2,mono2,ext2⟩:=m1.less hsub hnd;exact⟨r,w1,ρ1,e1,m2,mono2 _ _ v1,fun u' y' h'=>mono2 _ _ (mono1 u' y' h'),fun B hB=>(ext1 B hB).trans (ext2 B (fun i hi=>hD i (hB i hi)))⟩
         have stays:∀(ad:Option Addr),len=0->ys=[]->(∀ρ':Nat->a6,∀O',VR ρ' D' O' w (.sl n 0 0) (.slice ad 0 0)) ->
           iR P Γ X ρ D mem w ((Builtin.append_ #[t,u] ty #[.slice ad 0 0,y]).run P w) (.sl n 0 (len+ys.length)) ((n,.row e i.size (xs++ys))::drop id mem) D':=by
          intro ad e0 e1 hv;subst e1;have e2:xs=[]:=JF om;subst e0 e2;have hr:=jL (P:=P) (w:=w) (ty:=ty) (ad:=ad) ht hu hi hlen (by have e3:=hfirst w rfl;have:=hflat.1;simp at this;rw[this] at e3;exact e3);obtain⟨m1,mono1,ext1⟩:=hm.less (mem':=drop id mem) (fun p hp=>bD hp) (gM hm.nod);obtain⟨m2,mono2,ext2⟩:=m1.phantom hn0 hD hDn e i.size;exact⟨_,w,_,hr,m2,hv _ _,fun u' y' h'=>mono2 _ _ (mono1 _ _ h'),fun B hB=>(ext1 B hB).trans (ext2 B hB)⟩
         cases hx with
         | sl _ _ _ cap hid' g1 g2=>
          rcases JT (ρ id).n with hn|hn
          ·obtain⟨t2,sz2,e2,_⟩:=hm.emp _ hidm hn;simp only[AB.row.injEq] at e2;obtain⟨_,_,rfl⟩:=e2;simp only[KX] at c3;subst c3;have hcap0:cap=0:=by
            rw[hn,hszr,Jd] at g2;rcases JT cap with h'|h'
            ·exact h'
            ·have:=LA h' hp;omega
           subst hcap0;cases ys with
           | nil=>exact stays _ rfl rfl (fun ρ' O'=>.slz n 0 _ _ hDn)
           | cons y0 yr=>exact growd _ 0 [] kQ.nil (fun w' _=>by simp[Builtin.firstCells,loadCells,loadCellsFrom]) (by simp)
          ·obtain⟨o,ho,q0,arr,fr,rfl,hfr,q1,q2,q3⟩:=hm.blk _ hidm hn;simp only at ho q0 q1 q2 q3;by_cases hroom:len+ys.length<=cap
           ·have hfit:len*i.size+news.length<=arr.size:=by
             rw[hflat.1,←Nat.add_mul,q1];refine Jh (JP _ hroom) ?_;rw[hszr] at g2;simpa using g2
            have hcell:(Builtin.firstCells i.size ys.length y).run P w = .ok news.toArray w:=hfirst w rfl;subst c1;have hrun:=p4 (P:=P) (w:=w) (ty:=ty) (sLen:=len) (sCap:=cap) ht hu hi hlen hcell ho hfr hflat.2.1 hroom hfit;have hrow:oQ ρ D (OX X ρ mem) w sz' (arr.toList.take (len*i.size)++news++arr.toList.drop (len*i.size+news.length)).toArray (xs++ys):=by
             have hfx:kQ ρ D (OX X ρ mem) w i.size xs (arr.toList.take (len*i.size)):=by
              refine⟨by simp;rw[←c3];omega,fun v hv=>?_,fun k x' hk=>?_⟩
              ·obtain⟨q,hq⟩:=J4 hv;rw[Jb] at hq;split at hq
               ·rename_i hlt;rw[c3] at hlt;obtain⟨h1,h2,h3⟩:=uJ hp hlt;have hxx:=I9 h1;obtain⟨h4,h5⟩:=q3 _ _ hxx;have hcc:xs[q/i.size].cells[q%i.size]? = some (xs[q/i.size].cells[q%i.size]'(by rw[h4,hszr];exact h2)):=I9 _;obtain⟨v',hv',ho',_⟩:=h5 _ _ hcc;rw[hszr,h3] at hv';rw[Array.getElem?_toList,hv'] at hq;cases hq;exact ho'
               ·cases hq
              ·obtain⟨h4,h5⟩:=q3 k x' hk;refine⟨by rw[h4,hszr],fun j c hj=>?_⟩;obtain⟨v',hv',_,hr'⟩:=h5 j c hj;rw[hszr] at hv';refine⟨v', ?_,hr'⟩;have hkl:k<xs.length:=by
                rcases JK k xs.length with h'|h'
                ·exact h'
                ·rw[JH h'] at hk;cases hk
               have hjl:j<i.size:=by
                rw[←hszr,←h4];rcases JK j x'.cells.length with h'|h'
                ·exact h'
                ·rw[JH h'] at hj;cases hj
               have hm2:(k+1)*i.size<=xs.length*i.size:=JP _ hkl;rw[Nat.add_mul,KF] at hm2;rw[Jb,JL (by rw[c3];omega),Array.getElem?_toList];exact hv'
             have:=hflat.row hfx (arr.toList.drop (len*i.size+news.length)).toArray;rw[←c2] at this;rw[←c2];simpa using this
            have hsz2:(arr.toList.take (len*i.size)++news++arr.toList.drop (len*i.size+news.length)).toArray.size=arr.size:=by simp;omega
            obtain⟨m1,mono1,ext1⟩:=hm.change hid hn (eC w _ arr _ t' fr ho) .go (fun j hj=>hfr j (by rw[hsz2] at hj;exact hj)) (by rw[hsz2];exact q1) hrow;obtain⟨m2,mono2,ext2⟩:=m1.move hn0 hD hDn (AT hid);have hdu:drop id (up mem id (.row t' sz' (xs++ys)))=drop id mem:=by
             rcases Bo (m:=mem) (id:=id) (b:=.row t' sz' (xs++ys)) with h'|h'
             ·exact h'
             ·rw[hid] at h';cases h'
            rw[hdu] at m2 mono2 ext2;subst c2;refine⟨_,_,_,by simpa using hrun,m2, ?_,fun u' y' h'=>mono2 _ _ (mono1 _ _ h'),fun B hB=>(ext1 B hB).trans (ext2 B hB)⟩;have:=VR.sl (ρ:=bQ ρ n (ρ id)) (D:=D') (O:=OX X (bQ ρ n (ρ id)) ((n,.row t' i.size (xs++ys))::drop id mem)) (w:=w.setRow (ρ id).b (arr.toList.take (len*i.size)++news++arr.toList.drop (len*i.size+news.length)).toArray) n 0 (len+ys.length) cap hDn hroom (by rw[aO];simpa using g2);rw[aO] at this;simpa using this
           ·have hfc:∃olds,kQ ρ D (OX X ρ mem) w i.size xs olds/\∀w',w'.heap=w.heap->(Builtin.firstCells i.size len (.slice (some ⟨(ρ id).b,0*(ρ id).sz,none⟩) len cap)).run P w' = .ok olds.toArray w':=by
             obtain⟨vs,hf,hv⟩:=BL (ρ:=ρ) (D:=D) (O:=OX X ρ mem) (w:=w) (b:=(ρ id).b) (off:=0) hp (ys:=xs) (fun k x' hk=>by
              obtain⟨h4,h5⟩:=cC hm hid hk;refine⟨by rw[h4,hszr],fun j c hj=>?_⟩;obtain⟨v',hv',ho',hr'⟩:=h5 j c hj;rw[hszr] at hv';exact⟨v',by simpa using hv',ho',hr'⟩)
             refine⟨vs,hf,fun w' ew=>?_⟩;rw[Nat.zero_mul];exact run_firstCells_some w' i.size len ⟨(ρ id).b,0,none⟩ len cap vs (by rw[hf.1,c3]) (fun j v hj=>by
              have:=hv j v hj;simpa[World.cell?,ew] using this)
            obtain⟨olds,h1,h2⟩:=hfc;exact growd _ cap olds h1 h2 om
         | slz _ _ ad ao hid'=>
          have e2:xs=[]:=JF c3.symm;subst e2;cases ys with
          | nil=>exact stays _ rfl rfl (fun ρ' O'=>.slz n 0 _ _ hDn)
          | cons y0 yr=>exact growd _ 0 [] kQ.nil (fun w' _=>by simp[Builtin.firstCells,loadCells,loadCellsFrom]) (by simp)
         | slzn _ _ hid'=>
          have e2:xs=[]:=JF c3.symm;subst e2;cases ys with
          | nil=>exact stays _ rfl rfl (fun ρ' O'=>.slzn n 0 hDn)
          | cons y0 yr=>exact growd _ 0 [] kQ.nil (fun w' _=>rfl) (by simp)
        ·cases h
       ·cases h
      ·cases h
     ·cases h
    ·cases h
   ·cases h
  ·cases h
 ·cases h
end
end Go.Ax
namespace Go.Ax
open Go
section
variable {P:Program} {Γ:List (Nat × AV)} {X:Nat->Prop} {ρ:Nat->a6} {D:Nat->Prop} {O:Nat->Prop} {mem:aA} {w w':World}
theorem MR.allocG{n:Nat}{D':Nat->Prop}(hn0:¬D n)(hD:∀i,D i->D' i)(hDn:D' n)(hm:MR Γ X ρ D mem w){l:a6}{o:Obj}{a:AB}(hl:l.b=w.heap.size)(hpos:0<l.n)(hw:w'.heap=w.heap.push o)(hos:tF w w')
  (hr:BR ρ D (OX X ρ mem) w l o a) :
  MR Γ X (bQ ρ n l) D' ((n,a)::mem) w' /\
  (∀v x,VR ρ D (OX X ρ mem) w v x->VR (bQ ρ n l) D' (OX X (bQ ρ n l) ((n,a)::mem)) w' v x) /\
  (∀A:Nat->Prop,(∀i,A i->D i)->Ext A ρ mem w (bQ ρ n l) D' ((n,a)::mem) w'):=by
 have hne:∀p∈mem,p.1≠n:=fun p hp e=>hn0 (e ▸ hm.low p hp)
 have hρ:∀id,D id->bQ ρ n l id=ρ id:=fun id h=>qA _ _ _ (fun e=>hn0 (e ▸ h))
 have hρm:∀p∈mem,bQ ρ n l p.1=ρ p.1:=fun p hp=>hρ _ (hm.low p hp)
 have hheap:∀b,b<w.heap.size->w'.heap[b]? = w.heap[b]? := fun b hb=>by rw[hw,J7];simp[Nat.ne_of_lt hb]
 have hnew:w'.heap[w.heap.size]? = some o:=by rw[hw];simp
 have hsize:w'.heap.size=w.heap.size+1:=by rw[hw];simp
 have hk:∀b,b<w.heap.size->¬OX X ρ mem b->¬OX X (bQ ρ n l) ((n,a)::mem) b/\w'.heap[b]? = w.heap[b]? := by
  intro b hb ho;refine⟨?_,hheap b hb⟩;rintro(h|⟨p,hp,hn,e⟩)
  ·exact ho (.inl h)
  ·rcases JA.1 hp with rfl|hp
   ·rw[aO] at e;omega
   ·rw[hρm p hp] at e hn;exact ho (.inr ⟨p,hp,hn,e⟩)
 have hmono:∀v x,VR ρ D (OX X ρ mem) w v x->VR (bQ ρ n l) D' (OX X (bQ ρ n l) ((n,a)::mem)) w' v x:=
  fun v x h=>h.mono hρ hD hk
 refine⟨⟨?_, ?_, ?_, ?_, ?_, ?_, ?_⟩,hmono,fun B hB=>⟨fun i hi=>hD i (hB i hi),fun id h=>hρ id (hB id h),om,fun b hb _=>hheap b hb, ?_,hos⟩⟩
 ·intro p hp;rcases JA.1 hp with rfl|hp
  ·exact hDn
  ·exact hD _ (hm.low p hp)
 ·intro p hp hn;rcases JA.1 hp with rfl|hp
  ·rw[aO,hl];exact⟨o,hnew,hr.mono hρ hD hk⟩
  ·rw[hρm p hp] at hn ⊢;obtain⟨o,ho,hb⟩:=hm.blk p hp hn;have hlt:=eA hm (.inr ⟨p,hp,hn,rfl⟩);exact⟨o,by rw[hheap _ hlt];exact ho,hb.mono hρ hD hk⟩
 ·intro p hp hn;rcases JA.1 hp with rfl|hp
  ·rw[aO] at hn;omega
  ·rw[hρm p hp] at hn ⊢;exact hm.emp p hp hn
 ·intro p hp q hq hpn hqn e;rcases JA.1 hp with rfl|hp<;>rcases JA.1 hq with rfl|hq
  ·rfl
  ·rw[hρm q hq] at e hqn;rw[aO] at e;have:=eA hm (.inr ⟨q,hq,hqn,rfl⟩);omega
  ·rw[hρm p hp] at e hpn;rw[aO] at e;have:=eA hm (.inr ⟨p,hp,hpn,rfl⟩);omega
  ·rw[hρm p hp] at e hpn;rw[hρm q hq] at e hqn;exact hm.inj p hp q hq hpn hqn e
 ·simp only[Jg,JU];refine⟨fun h=>?_,hm.nod⟩;obtain⟨p,hp,e⟩:=JM.1 h;exact hne p hp e
 ·intro b hb;obtain⟨h1,h2⟩:=hm.bar b hb;refine⟨om, ?_⟩;rintro⟨p,hp,hn,e⟩;rcases JA.1 hp with rfl|hp
  ·rw[aO] at e;omega
  ·rw[hρm p hp] at e hn;exact h2 ⟨p,hp,hn,e⟩
 ·exact fun p hp=>hmono _ _ (hm.glo p hp)
 ·intro p hp hn;rcases JA.1 hp with rfl|hp
  ·rw[aO,hl];exact .inr (JG _)
  ·rw[hρm p hp] at hn ⊢;exact .inl ⟨p,hp,hn,rfl⟩
theorem MR.changeG(hm:MR Γ X ρ D mem w){id:Nat}{a a':AB}(hid:lk mem id=some a)(hn:0<(ρ id).n){o:Obj}
  (hw:w'.heap=w.heap.setIfInBounds (ρ id).b o) (hos:tF w w') (hr:BR ρ D (OX X ρ mem) w (ρ id) o a') :
  MR Γ X ρ D (up mem id a') w' /\
  (∀v x,VR ρ D (OX X ρ mem) w v x->VR ρ D (OX X ρ (up mem id a')) w' v x) /\
  (∀A:Nat->Prop,(∀i,A i->D i)->Ext A ρ mem w ρ D (up mem id a') w'):=by
 have hidm:=aF hid;have hlt:=eA hm (.inr ⟨_,hidm,hn,rfl⟩);have hheap:∀b,b≠(ρ id).b->w'.heap[b]? = w.heap[b]? := fun b hb=>by rw[hw,Jt (Ne.symm hb)]
 have hnew:w'.heap[(ρ id).b]? = some o:=by rw[hw];simp[hlt]
 have hsz:w'.heap.size=w.heap.size:=by rw[hw];simp
 have hown:∀b,own ρ (up mem id a') b->own ρ mem b:=by
  rintro b ⟨p,hp,hpn,e⟩;rcases eX hid hm.nod hp with rfl|⟨h1,_⟩
  ·exact⟨_,hidm,hpn,e⟩
  ·exact⟨p,h1,hpn,e⟩
 have hOX:∀b,OX X ρ (up mem id a') b->OX X ρ mem b:=fun b h=>h.imp (fun x=>x) (hown b)
 have hk:∀b,b<w.heap.size->¬OX X ρ mem b->¬OX X ρ (up mem id a') b/\w'.heap[b]? = w.heap[b]? := by
  intro b hb ho;refine⟨fun h=>ho (hOX b h),hheap b ?_⟩;rintro rfl;exact ho (.inr ⟨_,hidm,hn,rfl⟩)
 have hmono:∀v x,VR ρ D (OX X ρ mem) w v x->VR ρ D (OX X ρ (up mem id a')) w' v x:=fun v x h=>h.mono (fun _ _=>rfl) (fun _ h=>h) hk
 refine⟨⟨?_, ?_, ?_, ?_, ?_, ?_, ?_⟩,hmono,fun B hB=>⟨hB,fun _ _=>rfl,om,fun b hb ho=>hheap b ?_, ?_,hos⟩⟩
 ·intro p hp;rcases eX hid hm.nod hp with rfl|⟨h1,_⟩
  ·exact(hm.low _ hidm :)
  ·exact hm.low p h1
 ·intro p hp hpn;rcases eX hid hm.nod hp with rfl|⟨h1,hne⟩
  ·exact⟨_,hnew,hr.mono (fun _ _=>rfl) (fun _ h=>h) hk⟩
  ·obtain⟨o,ho,hb⟩:=hm.blk p h1 hpn;refine⟨o, ?_,hb.mono (fun _ _=>rfl) (fun _ h=>h) hk⟩;rw[hheap _ (fun e=>hne (hm.inj p h1 _ hidm hpn hn e))];exact ho
 ·intro p hp hpn;rcases eX hid hm.nod hp with rfl|⟨h1,hne⟩
  ·exact absurd hpn (Nat.ne_of_gt hn)
  ·exact hm.emp p h1 hpn
 ·intro p hp q hq hpn hqn e;have a:∀p∈up mem id a',∃p'∈mem,p'.1=p.1:=by
   intro p hp;rcases eX hid hm.nod hp with rfl|⟨h1,_⟩
   ·exact⟨_,hidm,rfl⟩
   ·exact⟨p,h1,rfl⟩
  obtain⟨p',hp',e1⟩:=a p hp;obtain⟨q',hq',e2⟩:=a q hq;rw[←e1,←e2] at e ⊢;rw[←e1] at hpn;rw[←e2] at hqn;exact hm.inj p' hp' q' hq' hpn hqn e
 ·rw[v8 hid];exact hm.nod
 ·intro b hb;obtain⟨h1,h2⟩:=hm.bar b hb;exact⟨om,fun h=>h2 (hown b h)⟩
 ·exact fun p hp=>hmono _ _ (hm.glo p hp)
 ·rintro rfl;exact ho ⟨_,hidm,hn,rfl⟩
 ·intro p hp hpn;refine .inl ?_;rcases eX hid hm.nod hp with rfl|⟨h1,_⟩
  ·exact⟨_,hidm,hpn,rfl⟩
  ·exact⟨p,h1,hpn,rfl⟩
theorem jX(hm:MR Γ X ρ D mem w){id:Nat}{es:List (AV × AV)}(hid:lk mem id=some (.mapb es)):0<(ρ id).n:=by
 rcases JT (ρ id).n with h|h
 ·obtain⟨t,sz,e,_⟩:=hm.emp _ (aF hid) h;cases e
 ·exact h
end
end Go.Ax
namespace Go.Ax
open Go
def y4(mem:aA)(nx:Nat)(reserve:Option AV):Option (AV × aA × Nat):=
 match reserve with
 | none=>some (.mp nx,(nx,.mapb [])::mem,nx+1)
 | some _=>none
def zQ:Option TypeDesc->Bool
 | some (.int _)=>true
 | some .string=>true
 | some .bool=>true
 | _=>false
def BO(P:Program)(cs:List AV):List Field->Bool
 | []=>true
 | f::r=>!(f.name == "_") && (zQ (P.underlying f.type) && ((sub none cs f.offset).isSome && BO P cs r))
def wN(P:Program)(t:TypeId)(k:AV):Bool:=
 match P.underlying t with
 | some (.struct fs)=>match k with
  | .agg cs=>BO P cs fs.toList
  | _=>false
 | d=>zQ d
def oG(P:Program)(t:TypeId)(k e:AV):Option Bool:=
 match P.underlying t with
 | some (.struct _)=>match k,e with
  | .agg a,.agg b=>Ao P t a b
  | _,_=>none
 | _=>x5 P t k e
def eD(P:Program)(t:TypeId)(k:AV):List (AV × AV)->Nat->Option (Option (Nat × AV))
 | [],_=>some none
 | (a,v)::r,i=>match oG P t k a with
  | some true=>some (some (i,v))
  | some false=>eD P t k r (i+1)
  | none=>none
def f0(P:Program)(mem:aA)(t:TypeId)(m k:AV)(ok:Bool):Option AV:=
 match P.underlying t with
 | some (.map kt et)=>match wN P kt k with
  | true=>match m with
   | .nmap=>match eV P et with
    | some z=>match ok with
     | true=>some (.tup [z,.bool false])
     | false=>some z
    | none=>none
   | .mp id=>match lk mem id with
    | some (.mapb es)=>match eD P kt k es 0 with
     | some (some (_,v))=>match ok with
      | true=>some (.tup [v,.bool true])
      | false=>some v
     | some none=>match eV P et with
      | some z=>match ok with
       | true=>some (.tup [z,.bool false])
       | false=>some z
      | none=>none
     | none=>none
    | _=>none
   | _=>none
  | false=>none
 | _=>none
def Aw:AV->AV->Bool
 | .int k a,.int k' b=>decide (k=k') && decide (a=b)
 | .str a,.str b=>decide (a=b)
 | .bool a,.bool b=>decide (a=b)
 | _,_=>false
def o4:List AV->List AV->Bool
 | [],[]=>true
 | a::r,b::t=>Aw a b && o4 r t
 | _,_=>false
def Bb:AV->AV->Bool
 | .agg a,.agg b=>o4 a b
 | a,b=>Aw a b
def eU(P:Program)(mem:aA)(t:TypeId)(m k v:AV):Option aA:=
 match P.underlying t with
 | some (.map kt _)=>match wN P kt k with
  | true=>match m with
   | .mp id=>match lk mem id with
    | some (.mapb es)=>match eD P kt k es 0 with
     | some (some (i,_))=>match es[i]? with
      | some (k',_)=>match Bb k' k with
       | true=>some (up mem id (.mapb (es.set i (k,v))))
       | false=>none
      | none=>none
     | some none=>some (up mem id (.mapb (es++[(k,v)])))
     | none=>none
    | _=>none
   | _=>none
  | false=>none
 | _=>none
section
variable {P:Program} {Γ:List (Nat × AV)} {X:Nat->Prop} {ρ:Nat->a6} {D D':Nat->Prop} {O:Nat->Prop} {mem:aA} {w w':World}
theorem mI{r:Nat}{es:Array MapEntry}{c:Nat}(h:w.heap[r]? = some (.map es c)):(getObj r).run P w = .ok (.map es c) w:=by simp[getObj,Sem.run,h]
theorem r8{r:Nat}{es:Array MapEntry}{c:Nat}(o':Obj)(h:w.heap[r]? = some (.map es c)):(setObj r o').run P w = .ok () { w with heap:=w.heap.setIfInBounds r o' }:=by simp[setObj,Sem.run,h]
theorem rL{n:Nat}(hn0:¬D n)(hD:∀i,D i->D' i)(hDn:D' n)(hm:MR Γ X ρ D mem w){t:TypeId}{v:AV}{mem':aA}{N':Nat}(h:y4 mem n none=some (v,mem',N')) :
  iR P Γ X ρ D mem w ((Instr.makeMap t none).run P w) v mem' D':=by
 cases h;obtain⟨h1,h2,h3⟩:=hm.allocG hn0 hD hDn (l:=⟨w.heap.size,1,1⟩) (o:=.map #[] 0) (a:=.mapb []) (w':=w.alloc (.map #[] 0)) rfl Nat.one_pos rfl .go ⟨#[],0,rfl,rfl,by simp,rfl,by simp⟩;refine⟨.map (some w.heap.size),w.alloc (.map #[] 0),_,by simp[Instr.makeMap],h1, ?_,h2,h3⟩;have:=VR.mp (ρ:=bQ ρ n ⟨w.heap.size,1,1⟩) (D:=D') (O:=OX X (bQ ρ n ⟨w.heap.size,1,1⟩) ((n,.mapb [])::mem)) (w:=w.alloc (.map #[] 0)) n hDn;rw[aO] at this;exact this
theorem gX{t:TypeId}(h:zQ (P.underlying t)=true)(em:Bool)(d:Nat)(x:Value):(Instr.checkKey em (d+1) t x).run P w = .ok () w:=by
 unfold zQ at h;split at h<;>first|(cases h;done)|skip
 all_goals
  rename_i hu;rw[Instr.checkKey,Sem.run_bind,run_underlying hu,Result.andThen_ok];rfl
theorem Cc{t:TypeId}(h:zQ (P.underlying t)=true):tP P t=some none:=by
 unfold zQ at h;unfold tP;split at h<;>first|(cases h;done)|(rename_i hu;rw[hu])
theorem dG{t:TypeId}{k:AV}{x:Value}(h:wN P t k=true)(hx:VR ρ D O w k x)(em:Bool):(Instr.checkKey em 10000 t x).run P w = .ok () w:=by
 unfold wN at h;split at h
 ·rename_i fs hu;split at h
  ·rename_i cs;obtain⟨vs,rfl,hvs⟩:=hx.agg_inv;rw[Instr.checkKey,Sem.run_bind,run_underlying hu,Result.andThen_ok];simp only;rw[Sem.run_bind];have key:∀l:List Field,BO P cs l=true->(forIn l PUnit.unit (fun f _=>if f.name≠"_" then do Instr.checkKey em 9999 f.type (←part f.type vs.toArray f.offset);pure (ForInStep.yield PUnit.unit) else pure (ForInStep.yield PUnit.unit)):Sem PUnit).run P w = .ok PUnit.unit w:=by
    intro l
    induction l with
    | nil=>intro _;simp
    | cons f r ih=>
     intro hl;simp only[BO,JE] at hl;obtain⟨h1,h2,h3,h4⟩:=hl;obtain⟨v,hv⟩:=Kl.1 h3;obtain⟨z,p1,_⟩:=kL (w:=w) (Cc h2) hv hvs;have hn:f.name≠"_" := by simpa using h1
     rw[List.forIn_cons,JL hn];simp only[Sem.run_bind,p1,Result.andThen_ok,gX h2 em 9998 z,Sem.run_pure];exact ih h4
   have:=key fs.toList h;rw[←Array.forIn_toList];rw[this];rfl
  ·cases h
 ·exact gX h em 9999 x
theorem l4{t:TypeId}{k e:AV}{x y:Value}{r:Bool}(h:oG P t k e=some r)(hx:VR ρ D O w k x)(hy:VR ρ D O w e y):(Op.equal t x y).run P w = .ok r w:=by
 unfold oG at h;split at h
 ·split at h
  ·exact(mT h hx hy).1
  ·cases h
 ·exact mK h hx hy 9999
theorem pO{t:TypeId}{d:TypeDesc}(hu:P.underlying t=some d){k e:AV}{x y:Value}{r:Bool}(h:oG P t k e=some r)(hx:VR ρ D O w k x)(hy:VR ρ D O w e y) :
  Instr.sameNow d x y=some r∨(Instr.sameNow d x y=none):=by
 unfold oG at h;rw[hu] at h;cases d with
 | int kk=>
  simp only[x5,hu] at h;split at h
  ·split at h
   ·rename_i hk;have hk:=JV hk;subst hk;cases h;cases hx;cases hy;left;simp[Instr.sameNow]
   ·cases h
  ·cases h
 | string=>
  simp only[x5,hu] at h;split at h
  ·cases h;cases hx;cases hy;left;simp only[Instr.sameNow];rw[beq_toListBytes,ByteArray.toList_eq,ByteArray.toList_eq]
  ·cases h
 | bool=>
  simp only[x5,hu] at h;split at h
  ·cases h;cases hx;cases hy;left;simp[Instr.sameNow]
  ·cases h
 | _=>right;simp[Instr.sameNow]
def FR(ρ:Nat->a6)(D:Nat->Prop)(O:Nat->Prop)(w:World):Option (Nat × AV)->Option (Nat × Value)->Prop
 | none,none=>True
 | some (i,v),some (j,x)=>i=j/\VR ρ D O w v x
 | _,_=>False
def zC(ρ:Nat->a6)(D:Nat->Prop)(O:Nat->Prop)(w:World)(es:List (AV × AV))(l:List MapEntry):Prop:=
 l.length=es.length/\∀(i:Nat) (e:AV × AV),es[i]? = some e->∃m,l[i]? = some m/\VR ρ D O w e.1 m.key/\VR ρ D O w e.2 m.val
theorem zC.tail{e:AV × AV}{es:List (AV × AV)}{m:MapEntry}{l:List MapEntry}(h:zC ρ D O w (e::es) (m::l)):VR ρ D O w e.1 m.key/\VR ρ D O w e.2 m.val/\zC ρ D O w es l:=by
 obtain⟨h1,h2⟩:=h;obtain⟨m',e1,r1,r2⟩:=h2 0 e rfl;simp at e1;subst e1;exact⟨r1,r2,by simpa using h1,fun i e' he=>by
  obtain⟨m',e1,r1,r2⟩:=h2 (i+1) e' (by simpa using he);exact⟨m',by simpa using e1,r1,r2⟩⟩
theorem lN{t:TypeId}{k:AV}{x:Value}(hx:VR ρ D O w k x):∀{es:List (AV × AV)} {l:List MapEntry} {i:Nat} {r:Option (Nat × AV)},zC ρ D O w es l->eD P t k es i=some r ->
  ∃o,(Instr.findAsking t x l i).run P w = .ok o w/\FR ρ D O w r o
 | [],l,i,r,hl,h=>by
  cases h;have:l=[]:=JF hl.1;subst this;exact⟨none,by simp[Instr.findAsking],trivial⟩
 | (a,v)::es,[],i,r,hl,h=>by have:=hl.1;simp at this
 | (a,v)::es,m::l,i,r,hl,h=>by
  obtain⟨r1,r2,r3⟩:=hl.tail;simp only[eD] at h;split at h
  ·rename_i he;cases h;have e:=l4 (P:=P) he hx r1;exact⟨some (i,m.val),by rw[Instr.findAsking,Sem.run_bind,e,Result.andThen_ok];simp,rfl,r2⟩
  ·rename_i he;have e:=l4 (P:=P) he hx r1;obtain⟨o,h1,h2⟩:=lN hx r3 h;exact⟨o,by rw[Instr.findAsking,Sem.run_bind,e,Result.andThen_ok];simpa using h1,h2⟩
  ·cases h
theorem sI{t:TypeId}{d:TypeDesc}(hu:P.underlying t=some d){k:AV}{x:Value}(hx:VR ρ D O w k x):∀{es:List (AV × AV)} {l:List MapEntry} {i:Nat} {r:Option (Nat × AV)},zC ρ D O w es l->eD P t k es i=some r ->
  Instr.findNow d x l i=none∨∃o,Instr.findNow d x l i=some o/\FR ρ D O w r o
 | [],l,i,r,hl,h=>by
  cases h;have:l=[]:=JF hl.1;subst this;exact .inr ⟨none,by simp[Instr.findNow],trivial⟩
 | (a,v)::es,[],i,r,hl,h=>by have:=hl.1;simp at this
 | (a,v)::es,m::l,i,r,hl,h=>by
  obtain⟨r1,r2,r3⟩:=hl.tail;simp only[eD] at h;split at h
  ·rename_i he;cases h;rcases pO hu he hx r1 with e|e
   ·exact .inr ⟨some (i,m.val),by simp[Instr.findNow,e],rfl,r2⟩
   ·exact .inl (by simp[Instr.findNow,e])
  ·rename_i he;rcases pO hu he hx r1 with e|e
   ·rcases sI hu hx r3 h with h1|⟨o,h1,h2⟩
    ·exact .inl (by simp[Instr.findNow,e,h1])
    ·exact .inr ⟨o,by simp[Instr.findNow,e,h1],h2⟩
   ·exact .inl (by simp[Instr.findNow,e])
  ·cases h
theorem eK{t:TypeId}{k:AV}{x:Value}(hkey:wN P t k=true)(hx:VR ρ D O w k x){es:List (AV × AV)}{l:List MapEntry}{r:Option (Nat × AV)}(hl:zC ρ D O w es l)(h:eD P t k es 0=some r) :
  ∃o,(Instr.findKey t x l).run P w = .ok o w/\FR ρ D O w r o:=by
 obtain⟨d,hu⟩:∃d,P.underlying t=some d:=by
  unfold wN at hkey;split at hkey
  ·rename_i hu;exact⟨_,hu⟩
  ·unfold zQ at hkey;split at hkey<;>first|(cases hkey;done)|exact⟨_,by assumption⟩
 rw[Instr.findKey,Sem.run_bind,run_underlying hu,Result.andThen_ok];rcases sI hu hx hl h with h1|⟨o,h1,h2⟩
 ·rw[h1];exact lN hx hl h
 ·rw[h1];exact⟨o,rfl,h2⟩
theorem mU{et:TypeId}{z:AV}(h:eV P et=some z):∃x,(zeroValue et).run P w = .ok x w/\VR ρ D O w z x:=by
 unfold eV at h;split at h
 ·rename_i i hi;split at h
  ·rename_i zv hz;exact⟨zv,by simp[zeroValue,typeInfo,hi,hz],dU h⟩
  ·cases h
 ·cases h
theorem Fs{a b:AV}{x y:Value}(h1:VR ρ D O w a x)(h2:VR ρ D O w b y):VR ρ D O w (.tup [a,b]) (.tuple #[x,y]):=
 (dO.cons h1 (dO.cons h2 dO.nil)).tup
theorem l6(hm:MR Γ X ρ D mem w){t:TypeId}{m k v:AV}{ok:Bool}{x y:Value}(h:f0 P mem t m k ok=some v)(hx:VR ρ D (OX X ρ mem) w m x)(hy:VR ρ D (OX X ρ mem) w k y) :
  ∃z,(Instr.lookup t x y ok).run P w = .ok z w/\VR ρ D (OX X ρ mem) w v z:=by
 unfold f0 at h;split at h
 ·rename_i kt et hu;split at h
  ·rename_i hkey;split at h
   ·cases hx;split at h
    ·rename_i z hz;obtain⟨zv,q1,q2⟩:=mU (P:=P) (ρ:=ρ) (D:=D) (O:=OX X ρ mem) (w:=w) hz;have hf:(Instr.findKey kt y []).run P w = .ok none w:=by
      obtain⟨o,f1,f2⟩:=eK (P:=P) (ρ:=ρ) (D:=D) (O:=OX X ρ mem) (w:=w) hkey hy (es:=[]) (l:=[]) (r:=none) ⟨rfl,by simp⟩ rfl;cases o with
      | none=>exact f1
      | some o=>exact f2.elim
     split at h
     ·cases h;exact⟨.tuple #[zv,.bool false],by simp[Instr.lookup,run_underlying hu,dG hkey hy,hf,q1],Fs q2 (.bool _)⟩
     ·cases h;exact⟨zv,by simp[Instr.lookup,run_underlying hu,dG hkey hy,hf,q1],q2⟩
    ·cases h
   ·rename_i id;split at h
    ·rename_i es hid;have hpos:=jX hm hid;obtain⟨o,ho,arr,clk,rfl,a1,a2,a3⟩:=hm.blk _ (aF hid) hpos;cases hx;have hl:zC ρ D (OX X ρ mem) w es arr.toList:=⟨by simpa using a1,fun i e he=>by
      obtain⟨m,m1,m2,m3⟩:=a2 i e he;exact⟨m,by simpa using m1,m2,m3⟩⟩
     have hg:=mI (P:=P) ho;split at h
     ·rename_i i u hf;obtain⟨o,f1,f2⟩:=eK (P:=P) hkey hy hl hf;cases o with
      | none=>exact f2.elim
      | some o=>
       obtain⟨j,ux⟩:=o;obtain⟨_,f2⟩:=f2;split at h
       ·cases h;exact⟨.tuple #[ux,.bool true],by simp[Instr.lookup,run_underlying hu,hg,dG hkey hy,f1],Fs f2 (.bool _)⟩
       ·cases h;exact⟨ux,by simp[Instr.lookup,run_underlying hu,hg,dG hkey hy,f1],f2⟩
     ·rename_i hf;obtain⟨o,f1,f2⟩:=eK (P:=P) hkey hy hl hf;cases o with
      | some o=>exact f2.elim
      | none=>
       split at h
       ·rename_i z hz;obtain⟨zv,q1,q2⟩:=mU (P:=P) (ρ:=ρ) (D:=D) (O:=OX X ρ mem) (w:=w) hz;split at h
        ·cases h;exact⟨.tuple #[zv,.bool false],by simp[Instr.lookup,run_underlying hu,hg,dG hkey hy,f1,q1],Fs q2 (.bool _)⟩
        ·cases h;exact⟨zv,by simp[Instr.lookup,run_underlying hu,hg,dG hkey hy,f1,q1],q2⟩
       ·cases h
     ·cases h
    ·cases h
   ·cases h
  ·cases h
 ·cases h
theorem sT{a b:AV}{x y:Value}(h:Aw a b=true)(hx:VR ρ D O w a x)(hy:VR ρ D O w b y)(n:Nat):Instr.sameBits n x y=true:=by
 unfold Aw at h;split at h
 ·simp at h;obtain⟨rfl,rfl⟩:=h;cases hx;cases hy;simp[Instr.sameBits]
 ·simp at h;subst h;cases hx;cases hy;simp only[Instr.sameBits];rw[beq_toListBytes];simp
 ·simp at h;subst h;cases hx;cases hy;simp[Instr.sameBits]
 ·cases h
theorem pU(n:Nat):∀{as bs:List AV} {xs ys:List Value},o4 as bs=true->dO ρ D O w as xs->dO ρ D O w bs ys->xs.length=ys.length/\(xs.zip ys).all (fun p=>Instr.sameBits n p.1 p.2)=true
 | [],[],xs,ys,h,hx,hy=>by
  have e1:xs=[]:=JF hx.1.symm;have e2:ys=[]:=JF hy.1.symm;subst e1 e2;simp
 | a::as,b::bs,[],ys,h,hx,hy=>by have:=hx.1;simp at this
 | a::as,b::bs,x::xs,[],h,hx,hy=>by have:=hy.1;simp at this
 | a::as,b::bs,x::xs,y::ys,h,hx,hy=>by
  simp only[o4,JE] at h;have h1:=sT (ρ:=ρ) (D:=D) (O:=O) (w:=w) h.1 (hx.2 0 a x rfl rfl) (hy.2 0 b y rfl rfl) n;have hx':dO ρ D O w as xs:=⟨by simpa using hx.1,fun j c x h1 h2=>hx.2 (j+1) c x (by simpa using h1) (by simpa using h2)⟩
  have hy':dO ρ D O w bs ys:=⟨by simpa using hy.1,fun j c x h1 h2=>hy.2 (j+1) c x (by simpa using h1) (by simpa using h2)⟩
  obtain⟨i1,i2⟩:=pU n h.2 hx' hy';exact⟨by simp[i1],by simp only[List.zip_cons_cons,List.all_cons,h1,i2,Bool.and_self]⟩
 | [],b::bs,xs,ys,h,hx,hy=>by simp[o4] at h
 | a::as,[],xs,ys,h,hx,hy=>by simp[o4] at h
theorem Ah{a b:AV}{x y:Value}(h:Bb a b=true)(hx:VR ρ D O w a x)(hy:VR ρ D O w b y):Instr.sameBits 10000 x y=true:=by
 unfold Bb at h;split at h
 ·obtain⟨xs,rfl,hxs⟩:=hx.agg_inv;obtain⟨ys,rfl,hys⟩:=hy.agg_inv;obtain⟨h1,h2⟩:=pU (ρ:=ρ) (D:=D) (O:=O) (w:=w) 9999 h hxs.1 hys.1;rw[Instr.sameBits];simp only[LB,h1,BEq.rfl,Bool.true_and];exact h2
 ·exact sT h hx hy 10000
theorem iO(hm:MR Γ X ρ D mem w){t:TypeId}{m k v:AV}{x y z:Value}{mem':aA}(h:eU P mem t m k v=some mem')(hx:VR ρ D (OX X ρ mem) w m x)(hy:VR ρ D (OX X ρ mem) w k y)(hz:VR ρ D (OX X ρ mem) w v z) :
  ∃w',(Instr.mapUpdate t x y z).run P w = .ok () w'/\MR Γ X ρ D mem' w'/\(∀u y,VR ρ D (OX X ρ mem) w u y->VR ρ D (OX X ρ mem') w' u y)/\∀A:Nat->Prop,(∀i,A i->D i)->Ext A ρ mem w ρ D mem' w':=by
 unfold eU at h;split at h
 ·rename_i kt et hu;split at h
  ·rename_i hkey;split at h
   ·rename_i id;split at h
    ·rename_i es hid;have hpos:=jX hm hid;obtain⟨o,ho,arr,clk,rfl,a1,a2,a3⟩:=hm.blk _ (aF hid) hpos;cases hx;have hl:zC ρ D (OX X ρ mem) w es arr.toList:=⟨by simpa using a1,fun i e he=>by
      obtain⟨m,m1,m2,m3⟩:=a2 i e he;exact⟨m,by simpa using m1,m2,m3⟩⟩
     have hg:=mI (P:=P) ho;split at h
     ·rename_i i u hf;split at h
      ·rename_i k' u' hi;split at h
       ·rename_i hsame;cases h;obtain⟨o,f1,f2⟩:=eK (P:=P) hkey hy hl hf;cases o with
        | none=>exact f2.elim
        | some o=>
         obtain⟨j,ux⟩:=o;obtain⟨rfl,f2⟩:=f2;obtain⟨me,m1,m2,m3⟩:=a2 i _ hi;have hb:Instr.sameBits 10000 me.key y=true:=Ah hsame m2 hy;have hks:(Instr.keyThatStays me.key y).run P w = .ok y w:=by simp[Instr.keyThatStays,hb]
         obtain⟨c1,c2,c3⟩:=hm.changeG (o:=.map (arr.modify i fun e=>{ e with key:=y,val:=z }) clk) (a':=.mapb (es.set i (k,v))) (w':={ w with heap:=w.heap.setIfInBounds (ρ id).b (.map (arr.modify i fun e=>{ e with key:=y,val:=z }) clk) }) hid hpos rfl .go
          ⟨_,_,rfl,by simpa using a1,fun q e he=>by
           by_cases hqi:q=i
           ·subst hqi;have:q<es.length:=by
             rcases JK q es.length with h'|h'
             ·exact h'
             ·rw[JH h'] at hi;cases hi
            rw[List.getElem?_set_self this] at he;cases he;exact⟨{ me with key:=y,val:=z },by simp[Ju,m1],hy,hz⟩
           ·rw[List.getElem?_set_ne (Ne.symm hqi)] at he;obtain⟨m,n1,n2,n3⟩:=a2 q e he;exact⟨m,by simp[Ju,Ne.symm hqi,n1],n2,n3⟩,by simpa using a3.1,fun q m hq=>by
           rw[Ju] at hq;split at hq
           ·cases h':arr[q]? with
            | none=>rw[h'] at hq;cases hq
            | some m'=>rw[h'] at hq;simp at hq;rw[←hq];exact a3.2 q m' h'
           ·exact a3.2 q m hq⟩
         refine⟨_, ?_,c1,c2,c3⟩;simp only[Instr.mapUpdate,Sem.run_bind,run_underlying hu,Result.andThen_ok,hg,dG hkey hy,f1,m1,Jv,Kh,hks];exact r8 _ ho
       ·cases h
      ·cases h
     ·rename_i hf;cases h;obtain⟨o,f1,f2⟩:=eK (P:=P) hkey hy hl hf;cases o with
      | some o=>exact f2.elim
      | none=>
       obtain⟨c1,c2,c3⟩:=hm.changeG (o:=.map (arr.push { key:=y,val:=z,born:=clk }) (clk+1)) (a':=.mapb (es++[(k,v)])) (w':={ w with heap:=w.heap.setIfInBounds (ρ id).b (.map (arr.push { key:=y,val:=z,born:=clk }) (clk+1)) }) hid hpos rfl .go
        ⟨_,_,rfl,by simpa using a1,fun q e he=>by
         by_cases hq:q<es.length
         ·rw[Ji hq] at he;obtain⟨m,n1,n2,n3⟩:=a2 q e he;exact⟨m,by rw[J7,JJ om];exact n1,n2,n3⟩
         ·rw[Jo om] at he;have:q-es.length=0:=by
           rcases JT (q-es.length) with h'|h'
           ·exact h'
           ·rw[JH (by simp;omega)] at he;cases he
          have hqe:q=arr.size:=om;rw[this] at he;simp at he;subst he;exact⟨{ key:=y,val:=z,born:=clk },by rw[J7,JL hqe],hy,hz⟩,by simp[a3.1],fun q m hq=>by
          rw[J7] at hq;split at hq
          ·rename_i hqe;cases hq;simp[a3.1,hqe]
          ·exact a3.2 q m hq⟩
       refine⟨_, ?_,c1,c2,c3⟩;simp only[Instr.mapUpdate,Sem.run_bind,run_underlying hu,Result.andThen_ok,hg,dG hkey hy,f1];exact r8 _ ho
     ·cases h
    ·cases h
   ·cases h
  ·cases h
 ·cases h
end
end Go.Ax
namespace Go.Ax
open Go
def oN(P:Program)(mem:aA)(nx:Nat)(t:TypeId)(x:AV):Option (AV × aA × Nat):=
 match P.underlying t with
 | some (.map _ _)=>match x with
  | .mp id=>match lk mem id with
   | some (.mapb es)=>some (.ptr nx 0 0,(nx,.iter id es.length [])::mem,nx+1)
   | _=>none
  | _=>none
 | _=>none
def nU(mem:aA)(x:AV):Option (AV × aA):=
 match x with
 | .ptr id 0 0=>match lk mem id with
  | some (.iter mid n bK)=>match lk mem mid with
   | some (.mapb es)=>match n with
    | 0=>match es with
     | []=>some (.tup [.bool false],mem)
     | _=>none
    | 1=>match es with
     | [(k,v)]=>match bK with
      | []=>some (.tup [.bool true,k,v],up mem id (.iter mid 1 [0]))
      | [0]=>some (.tup [.bool false],mem)
      | _=>none
     | _=>none
    | _=>none
   | _=>none
  | _=>none
 | _=>none
def sA(mem:aA)(x:AV):Option AV:=
 match x with
 | .ptr id 0 0=>match lk mem id with
  | some (.iter mid n bK)=>match lk mem mid with
   | some (.mapb es)=>match bK with
    | i::_=>match Nat.beq es.length n with
     | true=>match es[i]? with
      | some (k,v)=>some (.tup [k,v])
      | none=>none
     | false=>none
    | []=>none
   | _=>none
  | _=>none
 | _=>none
section
variable {P:Program} {Γ:List (Nat × AV)} {X:Nat->Prop} {ρ:Nat->a6} {D D':Nat->Prop} {O:Nat->Prop} {mem:aA} {w w':World}
theorem m7{n:Nat}(hn0:¬D n)(hD:∀i,D i->D' i)(hDn:D' n)(hm:MR Γ X ρ D mem w){t:TypeId}{a:AV}{x:Value}{v:AV}{mem':aA}{N':Nat}(h:oN P mem n t a=some (v,mem',N'))(hx:VR ρ D (OX X ρ mem) w a x) :
  iR P Γ X ρ D mem w ((Instr.range t x).run P w) v mem' D'/\N'=n+1:=by
 unfold oN at h;split at h
 ·rename_i kt et hu;split at h
  ·rename_i id;split at h
   ·rename_i es hid;cases h;refine⟨?_,rfl⟩;have hpos:=jX hm hid;obtain⟨o,ho,arr,clk,rfl,a1,a2,a3,a4⟩:=hm.blk _ (aF hid) hpos;cases hx;have hD0:=hm.low _ (aF hid);rw[a1] at a3;subst a3;obtain⟨h1,h2,h3⟩:=hm.allocG hn0 hD hDn (l:=⟨w.heap.size,1,1⟩) (o:=.mapIter (some (ρ id).b) es.length #[] es.length) (a:=.iter id es.length []) (w':=w.alloc (.mapIter (some (ρ id).b) es.length #[] es.length)) rfl Nat.one_pos rfl .go ⟨hD0,rfl⟩;refine⟨.pointer (some ⟨w.heap.size,0,none⟩),w.alloc (.mapIter (some (ρ id).b) es.length #[] es.length),_,by simp[Instr.range,run_underlying hu,mI ho],h1, ?_,h2,h3⟩;have:=VR.ptr (ρ:=bQ ρ n ⟨w.heap.size,1,1⟩) (D:=D') (O:=OX X (bQ ρ n ⟨w.heap.size,1,1⟩) ((n,.iter id es.length [])::mem)) (w:=w.alloc (.mapIter (some (ρ id).b) es.length #[] es.length)) n 0 0 hDn;rw[aO] at this;exact this
   ·cases h
  ·cases h
 ·cases h
theorem xP(hm:MR Γ X ρ D mem w){id mid n:Nat}{sn:List Nat}(hid:lk mem id=some (.iter mid n sn)):0<(ρ id).n:=by
 rcases JT (ρ id).n with h|h
 ·obtain⟨t,sz,e,_⟩:=hm.emp _ (aF hid) h;cases e
 ·exact h
theorem u7{r m n:Nat}{es:Array MapEntry}{sn:Array Nat}{ty:TypeId}(hr:w.heap[r]? = some (.mapIter (some m) n sn n))(hm:w.heap[m]? = some (.map es n))(hsz:es.size=n)(hb:∀(i:Nat) (e:MapEntry),es[i]? = some e->e.born=i) :
  (∃(i:Nat) (e:MapEntry) (w1:World),es[i]? = some e/\i∉sn/\w1.heap=w.heap.setIfInBounds r (.mapIter (some m) n (sn.push i) n)/\tF w w1/\(Instr.next (.pointer (some ⟨r,0,none⟩)) false ty).run P w = .ok (.tuple #[.bool true,e.key,e.val]) w1) ∨
   ((∀i,i<n->i∈sn)/\(Instr.next (.pointer (some ⟨r,0,none⟩)) false ty).run P w = .ok (.tuple #[.bool false]) w):=by
 have hlt:∀e∈es,e.born<n:=fun e he=>by
  obtain⟨i,hi,rfl⟩:=KJ.1 he;rw[hb i es[i] (by simp[hi]),←hsz];exact hi
 have hall:(!sn.isEmpty && !es.isEmpty && es.all fun e=>decide (e.born≥n))=false:=by
  cases h:es.isEmpty with
  | true=>simp
  | false=>
   have:∃e,e∈es:=by
    have h0:0<es.size:=by
     rcases JT es.size with h'|h'
     ·simp[Array.isEmpty,h'] at h
     ·exact h'
    exact⟨es[0],by simp⟩
   obtain⟨e,he⟩:=this;have:(es.all fun e=>decide (e.born≥n))=false:=by
    rw[Array.all_eq_false];obtain⟨i,hi,rfl⟩:=KJ.1 he;exact⟨i,hi,by simpa using hlt _ he⟩
   simp[this]
 generalize hleft:(es.filter fun e=>!sn.contains e.born)=left;have hmem:∀e,e∈left↔e∈es/\e.born∉sn:=fun e=>by rw[←hleft];simp
 have hold:(left.filter fun e=>decide (e.born<n))=left:=Array.filter_eq_self.2 fun e he=>by simpa using hlt e ((hmem e).1 he).1
 have hnew:(left.filter fun e=>decide (e.born≥n)) = #[]:=Array.filter_eq_empty_iff.2 fun e he=>by simpa using hlt e ((hmem e).1 he).1
 have key:(Instr.next (.pointer (some ⟨r,0,none⟩)) false ty).run P w=(do
   match ((if left.isEmpty then #[none] else #[])++left.map some)[←choose (.mapNext ((if left.isEmpty then #[none] else #[])++left.map some).size)]? with
   | some (some e)=>
    setObj r (.mapIter (some m) n (sn.push e.born) n)
    pure (.tuple #[.bool true,e.key,e.val])
   | some none=>pure (.tuple #[.bool false])
   | none=>stuck "Next: no such candidate" : Sem Value).run P w:=by
  simp only[Instr.next,Sem.run_bind,getObj,Sem.run,hr,hm,Result.andThen,hall,J6,if_false,hleft,hold,hnew,Array.append_empty];rfl
 rcases JT left.size with h0|h0
 ·have he:left = #[]:=Jm h0;refine .inr ⟨fun i hi=>?_, ?_⟩
  ·apply Classical.byContradiction;intro hno;have:es[i]∈left:=(hmem _).2 ⟨by simp,by rw[hb i es[i] (by simp[hsz,hi])];exact hno⟩;rw[he] at this;simp at this
  ·rw[key,he];simp[choose,Sem.run,Question.forced]
 ·have hemp:left.isEmpty=false:=by
   cases h:left.isEmpty with
   | false=>rfl
   | true=>
    have:left = #[]:=by simpa using h
    rw[this] at h0;simp at h0
  obtain⟨q,w0,hq,hw0,hew,hrun⟩:∃(q:Nat) (w0:World),q<left.size/\w0.heap=w.heap/\tF w w0/\(choose (.mapNext left.size)).run P w = .ok q w0:=by
   by_cases h1:left.size<=1
   ·exact⟨0,w,h0,rfl,.refl w,by simp[choose,Sem.run,Question.forced,h1]⟩
   ·exact⟨w.tape w.drawn (.mapNext left.size)%left.size,{ w with drawn:=w.drawn+1 },Kv _ h0,rfl,.go,by simp[choose,Sem.run,Question.forced,h1,Question.cut]⟩
  have hqm:=(hmem left[q]).1 (by simp);obtain⟨i,hi,he⟩:=KJ.1 hqm.1;have hbi:=hb i es[i] (by simp[hi]);rw[he] at hbi;have hr0:w0.heap[r]? = some (.mapIter (some m) n sn n):=by rw[hw0];exact hr
  refine .inl ⟨i,left[q],{ w0 with heap:=w0.heap.setIfInBounds r (.mapIter (some m) n (sn.push i) n) }, ?_, ?_,by rw[←hw0],⟨hew.os,hew.output,hew.tape,hew.drawn⟩, ?_⟩
  ·rw[←he];simp
  ·rw[←hbi];exact hqm.2
  ·rw[key];simp only[hemp,J6,if_false,Array.empty_append,Array.size_map,Sem.run_bind,hrun,Result.andThen_ok,K4,Jj hq,Jv,hbi];simp[setObj,Sem.run,hr0]
theorem yF(hm:MR Γ X ρ D mem w){id mid n:Nat}{sn:List Nat}{es:List (AV × AV)}{x:Value}{ty:TypeId}(hid:lk mem id=some (.iter mid n sn))(hmid:lk mem mid=some (.mapb es))(hn:es.length=n)(hx:VR ρ D (OX X ρ mem) w (.ptr id 0 0) x) :
  ∃(v:AV) (mem':aA) (y:Value) (w':World),((∃i k u,i∉sn/\es[i]? = some (k,u)/\v = .tup [.bool true,k,u]/\mem'=up mem id (.iter mid n (i::sn)))∨((∀i,i<n->i∈sn)/\v = .tup [.bool false]/\mem'=mem)) /\
   (∃b,x = .pointer b)/\(Instr.next x false ty).run P w = .ok y w'/\MR Γ X ρ D mem' w'/\VR ρ D (OX X ρ mem') w' v y/\(∀u y,VR ρ D (OX X ρ mem) w u y->VR ρ D (OX X ρ mem') w' u y)/\∀A:Nat->Prop,(∀i,A i->D i)->Ext A ρ mem w ρ D mem' w':=by
 have hpos:=xP hm hid;have hposm:=jX hm hmid;obtain⟨o,ho,hd,rfl⟩:=hm.blk _ (aF hid) hpos;obtain⟨o',ho',arr,clk,rfl,a1,a2,a3,a4⟩:=hm.blk _ (aF hmid) hposm;subst hn;rw[a1] at a3;subst a3;cases hx;rw[show 0*(ρ id).sz+0=0 by simp];rcases u7 (P:=P) (ty:=ty) ho ho' a1 a4 with⟨i,e,w1,b1,b2,b3,b4,b5⟩|⟨b1,b2⟩
 ·have hi:i<es.length:=by
   rw[←a1];exact(J3.1 b1).1
  obtain⟨⟨k,u⟩,hes⟩:∃ku,es[i]? = some ku:=⟨es[i],by simp⟩
  obtain⟨m,m1,r1,r2⟩:=a2 i (k,u) hes;rw[b1] at m1;cases m1;obtain⟨c1,c2,c3⟩:=hm.changeG (o:=.mapIter (some (ρ mid).b) es.length (i::sn).reverse.toArray es.length) (a':=.iter mid es.length (i::sn)) (w':=w1) hid hpos (by rw[b3];simp) b4 ⟨hd,rfl⟩;refine⟨_,_,_,w1,.inl ⟨i,k,u,by simpa using b2,hes,rfl,rfl⟩,⟨_,rfl⟩,b5,c1, ?_,c2,c3⟩;exact .tup _ _ rfl fun j c x h1 h2=>by
   match j,h1,h2 with
   | 0,h1,h2=>simp at h1 h2;subst h1 h2;exact .bool _
   | 1,h1,h2=>simp at h1 h2;subst h1 h2;exact c2 _ _ r1
   | 2,h1,h2=>simp at h1 h2;subst h1 h2;exact c2 _ _ r2
   | j+3,h1,h2=>simp at h1
 ·refine⟨_,mem,_,w,.inr ⟨fun i hi=>by simpa using b1 i hi,rfl,rfl⟩,⟨_,rfl⟩,b2,hm, ?_,fun _ _ h=>h,fun A hA=>.refl hA⟩;exact .tup _ _ rfl fun j c x h1 h2=>by
   match j,h1,h2 with
   | 0,h1,h2=>simp at h1 h2;subst h1 h2;exact .bool _
   | j+1,h1,h2=>simp at h1
theorem yC{id:Nat}{v:AV}{mem':aA}(h:nU mem (.ptr id 0 0)=some (v,mem')):∃mid n sn es,lk mem id=some (.iter mid n sn)/\lk mem mid=some (.mapb es)/\es.length=n /\
  ∀v' m',((∃i k u,i∉sn/\es[i]? = some (k,u)/\v' = .tup [.bool true,k,u]/\m'=up mem id (.iter mid n (i::sn)))∨((∀i,i<n->i∈sn)/\v' = .tup [.bool false]/\m'=mem))->v'=v/\m'=mem':=by
 unfold nU at h;simp only at h;split at h
 ·rename_i mid n sn hid;split at h
  ·rename_i es hmid;split at h
   ·split at h
    ·cases h;refine⟨mid,0,sn,[],hid,hmid,rfl, ?_⟩;rintro v' m' (⟨i,k,u,h1,h2,rfl,rfl⟩|⟨h1,rfl,rfl⟩)
     ·simp at h2
     ·exact⟨rfl,rfl⟩
    ·cases h
   ·split at h
    ·rename_i k v;split at h
     ·cases h;refine⟨mid,1,[],[(k,v)],hid,hmid,rfl, ?_⟩;rintro v' m' (⟨i,k',u,h1,h2,rfl,rfl⟩|⟨h1,rfl,rfl⟩)
      ·cases i with
       | zero=>simp at h2;obtain⟨rfl,rfl⟩:=h2;exact⟨rfl,rfl⟩
       | succ i=>simp at h2
      ·exact absurd (h1 0 Nat.one_pos) (by simp)
     ·cases h;refine⟨mid,1,[0],[(k,v)],hid,hmid,rfl, ?_⟩;rintro v' m' (⟨i,k',u,h1,h2,rfl,rfl⟩|⟨h1,rfl,rfl⟩)
      ·cases i with
       | zero=>simp at h1
       | succ i=>simp at h2
      ·exact⟨rfl,rfl⟩
     ·cases h
    ·cases h
   ·cases h
  ·cases h
 ·cases h
theorem Bx{a v:AV}{mem':aA}(h:nU mem a=some (v,mem')):∃id,a = .ptr id 0 0:=by
 unfold nU at h;split at h
 ·exact⟨_,rfl⟩
 ·cases h
theorem y5(hm:MR Γ X ρ D mem w){a:AV}{x:Value}{v:AV}{mem':aA}{ty:TypeId}(h:nU mem a=some (v,mem'))(hx:VR ρ D (OX X ρ mem) w a x) :
  ∃y w',(Instr.next x false ty).run P w = .ok y w'/\MR Γ X ρ D mem' w'/\VR ρ D (OX X ρ mem') w' v y/\(∀u y,VR ρ D (OX X ρ mem) w u y->VR ρ D (OX X ρ mem') w' u y)/\∀A:Nat->Prop,(∀i,A i->D i)->Ext A ρ mem w ρ D mem' w':=by
 obtain⟨id,rfl⟩:=Bx h;obtain⟨mid,n,sn,es,h1,h2,h3,h4⟩:=yC h;obtain⟨v',m',y,w',k1,_,k2⟩:=yF (P:=P) (ty:=ty) hm h1 h2 h3 hx;obtain⟨rfl,rfl⟩:=h4 v' m' k1;exact⟨y,w',k2⟩
theorem tS{r m n i:Nat}{es:Array MapEntry}{sn:Array Nat}{e:MapEntry}(hr:w.heap[r]? = some (.mapIter (some m) n sn n))(hm:w.heap[m]? = some (.map es n))(hi:sn.back? = some i)(he:es[i]? = some e)(hb:∀(i:Nat) (e:MapEntry),es[i]? = some e->e.born=i) :
  (Instr.entry (.pointer (some ⟨r,0,none⟩))).run P w = .ok (.tuple #[e.key,e.val]) w:=by
 have hf:es.find? (fun x=>x.born == i)=some e:=by
  cases h:es.find? (fun x=>x.born == i) with
  | none=>
   rw[Array.find?_eq_none] at h;have:=h e (Array.mem_of_getElem? he);rw[hb i e he] at this;simp at this
  | some x=>
   have h1:=Array.find?_some h;have h2:=Array.mem_of_find?_eq_some h;obtain⟨j,hj,hx⟩:=KJ.1 h2;have h3:=hb j x (by rw[←hx];simp[hj]);have:x.born=i:=by simpa using h1
   have:j=i:=om;subst this;rw[←hx];simpa[hj] using he
 simp[Instr.entry,getObj,Sem.run,hr,hm,hi,hf]
theorem wP(hm:MR Γ X ρ D mem w){a:AV}{x:Value}{v:AV}(h:sA mem a=some v)(hx:VR ρ D (OX X ρ mem) w a x) :
  ∃y,(Instr.entry x).run P w = .ok y w/\VR ρ D (OX X ρ mem) w v y:=by
 unfold sA at h;split at h
 ·rename_i id;split at h
  ·rename_i mid n sn hid;split at h
   ·rename_i es hmid;split at h
    ·rename_i i r;split at h
     ·rename_i hn;have hn:=Nat.eq_of_beq_eq_true hn;split at h
      ·rename_i k q hes;cases h;have hpos:=xP hm hid;have hposm:=jX hm hmid;obtain⟨o,ho,hd,rfl⟩:=hm.blk _ (aF hid) hpos;obtain⟨o',ho',arr,clk,rfl,a1,a2,a3,a4⟩:=hm.blk _ (aF hmid) hposm;rw[a1,hn] at a3;subst a3;obtain⟨e,m1,r1,r2⟩:=a2 i (k,q) hes;cases hx;rw[show 0*(ρ id).sz+0=0 by simp];refine⟨_,tS ho ho' (by simp) m1 a4, ?_⟩;exact .tup _ _ rfl fun j c x h1 h2=>by
        match j,h1,h2 with
        | 0,h1,h2=>simp at h1 h2;subst h1 h2;exact r1
        | 1,h1,h2=>simp at h1 h2;subst h1 h2;exact r2
        | j+2,h1,h2=>simp at h1
      ·cases h
     ·cases h
    ·cases h
   ·cases h
  ·cases h
 ·cases h
end
end Go.Ax
