/- A part of the proof. -/
import Derived.Test.YthggfhnnkclooaaGreatDoorAx2
import Derived.RangeFuncOwn
import Derived.OrdersIn
import Derived.TacticsIn
import Derived.Orders
import Derived.RangeFuncLeaves
set_option linter.unusedSectionVars false
set_option linter.unusedVariables false
set_option linter.unusedSimpArgs false
set_option maxRecDepth 1000000
set_option maxHeartbeats 16000000
namespace Go.Ax
open Go
def Hj(P:Program)(mem:aQ)(t:TypeId)(x y:AV):Option (AV × aQ):=
 match P.underlying t with
 | some (.slice e)=>match gP P e with
  | some n=>match Nat.blt 0 n with
   | true=>match x with
    | .sl id 0 len=>match lk mem id with
     | some (.row t' sz' xs)=>match M4 mem n y with
      | some ys=>match Nat.beq sz' n && (Nat.ble ys.length len && Nat.ble len xs.length) with
       | true=>some (.int .i64 ys.length,up mem id (.row t' sz' (ys++xs.drop ys.length)))
       | false=>none
      | none=>none
     | _=>none
    | _=>none
   | false=>none
  | none=>none
 | _=>none
theorem LI{G:Type}:∀{m:List (Nat × G)} {i:Nat} {v:G},lk m i=some v->up m i v=m
 | [],i,v,h=>by cases h
 | (j,u)::r,i,v,h=>by
  simp only[lk] at h;simp only[up];cases hb:Nat.beq j i with
  | true=>rw[hb] at h;cases h;rfl
  | false=>rw[hb] at h;simp only at h |-;rw[LI h]
section
variable {P:Program} {C:List (Nat × AV)} {X:Nat->Prop} {E:Nat->dP} {D:Nat->Prop} {mem:aQ} {w:World}
theorem IB(hm:MR C X E D mem w){t u ty:TypeId}{p q v:AV}{x y:Value}{mem':aQ}(h:Hj P mem t p q=some (v,mem'))
  (hx:VR E D (OX X E mem) w p x) (hy:VR E D (OX X E mem) w q y) :
  ∃(n:Nat) (w':World),v = .int .i64 n/\(Builtin.copy_ #[t,u] ty #[x,y]).run P w = .ok (.int .i64 n) w'/\MR C X E D mem' w'/\(∀u z,VR E D (OX X E mem) w u z->VR E D (OX X E mem') w' u z)/\∀A:Nat->Prop,(∀i,A i->D i)->Ext A E mem w E D mem' w':=by
 unfold Hj at h;split at h<;>first|(cases h;done)|skip
 rename_i e ht;split at h<;>first|(cases h;done)|skip
 rename_i n hn;split at h<;>first|(cases h;done)|skip
 rename_i hpos;have hpos:0<n:=Y5 hpos;split at h<;>first|(cases h;done)|skip
 rename_i id len;split at h<;>first|(cases h;done)|skip
 rename_i t' sz' xs hid;split at h<;>first|(cases h;done)|skip
 rename_i ys hys;split at h<;>first|(cases h;done)|skip
 rename_i hb;cases h;simp only[Y1] at hb;have b1:=Nat.eq_of_beq_eq_true hb.1;have b2:=Y5 hb.2.1;have b3:=Y5 hb.2.2;obtain⟨vs,hf,hlen,hfirst⟩:=Dx (P:=P) hm hpos hys hy;have hsz2:=hZ (w:=w) hn;have hfw:=hfirst w rfl;have nothing:ys=[]->∀(ad:Option Addr) (len cap:Nat),x = .slice ad len cap->∃(n:Nat) (w':World),AV.int .i64 (ys.length:Int) = .int .i64 n/\(Builtin.copy_ #[t,u] ty #[x,y]).run P w = .ok (.int .i64 n) w'/\MR C X E D (up mem id (.row t' sz' (ys++xs.drop ys.length))) w' /\
   (∀u z,VR E D (OX X E mem) w u z->VR E D (OX X E (up mem id (.row t' sz' (ys++xs.drop ys.length)))) w' u z)/\∀A:Nat->Prop,(∀i,A i->D i)->Ext A E mem w E D (up mem id (.row t' sz' (ys++xs.drop ys.length))) w':=by
  intro e1 ad len cap e2;subst e1 e2;have hv:vs=[]:=ZB (by have:=hf.1;simpa using this);subst hv;simp only[aAr,ZU,Zi];rw[LI hid];refine⟨0,w,rfl, ?_,hm,λ_ _ h=>h,λA hA=>Ext.refl hA⟩;simp only[aAr] at hlen hfw;cases ad<;>simp[Builtin.copy_,run_underlying ht,hlen,hsz2,hfw,storeCells,Nat.min_def,goInt]
 by_cases hys0:ys=[]
 .cases hx with
  | sl _ _ _ cap hid' g1 g2=>exact nothing hys0 _ _ _ rfl
  | slz _ _ b o hid'=>exact nothing hys0 _ _ _ rfl
  | slzn _ _ hid'=>exact nothing hys0 _ _ _ rfl
 .have hy1:0<ys.length:=aAc.2 hys0;cases hx with
  | slz _ _ b o hid'=>omega
  | slzn _ _ hid'=>omega
  | sl _ _ _ cap hid' g1 g2=>
   have hz:(E id).sz=n:=by rw[x5 hm hid];exact b1
   have hn0:0<(E id).n:=by
    rw[hz,ZP] at g2;have:1*1<=cap*n:=Z5 om om;omega
   obtain⟨o,ho,q0,arr,fr,rfl,hfr,q1,q2,q3⟩:=hm.blk _ (bL hid) hn0;simp only at ho q0 q1 q2 q3;obtain⟨f1,f2,f3⟩:=hf;have hle:ys.length*n<=xs.length*n:=ZF _ om;have hfit:0+0+vs.length<=arr.size:=by rw[f1,q1];rw[hz] at q2;omega
   have hrun:=fF P (E id).b 0 t' fr vs 0 arr w ho hfr hfit f2;simp only[Zm,ZP,aCe,Zi] at hrun;refine⟨ys.length,w.setRow (E id).b (vs++arr.toList.drop vs.length).toArray,rfl, ?_,hm.change hid hn0 (xs':=ys++xs.drop ys.length) (lS w _ arr _ t' fr ho) .go ?_ ?_ ?_⟩
   .have e1:Nat.min ys.length len=ys.length:=Z1 b2;simp[Builtin.copy_,run_underlying ht,hlen,hsz2,e1,hfw,hrun,goInt]
   .intro k hk;refine hfr k ?_;simp at hk;omega
   .simp;omega
   .have hvl:vs.length=ys.length*(E id).sz:=by rw[f1,hz]
    have harr:∀q,(vs++arr.toList.drop vs.length).toArray[q]? = if q<vs.length then vs[q]? else arr[q]? := by
     intro q;rw[aAv,Zk];split
     .rfl
     .rw[ZS,Z4];congr 1;omega
    have hq2:=q2;rw[<-q0];refine⟨by simp[Nat.add_mul];rw[hvl,<-Nat.add_mul,show ys.length+(xs.length-ys.length)=xs.length by omega];omega,λk z hk=>?_⟩;rw[Zk] at hk;split at hk
    .rename_i hkl;obtain⟨h1,h2⟩:=f3 k z hk;refine⟨by rw[h1,hz],λj c hj=>?_⟩;obtain⟨u,hu,hr⟩:=h2 j c hj;rw[<-hz] at hu;refine⟨u, ?_,f2 u (Y2 hu),hr⟩;rw[harr,Y4]
     .exact hu
     .rcases ZG (k*(E id).sz+j) vs.length with h'|h'
      .exact h'
      .rw[ZH h'] at hu;cases hu
    .rename_i hkl;rw[ZS] at hk;rw[show ys.length+(k-ys.length)=k by omega] at hk;refine⟨(q3 k z hk).1,λj c hj=>?_⟩;obtain⟨u,hu,ho1,hr⟩:=(q3 k z hk).2 j c hj;refine⟨u, ?_,ho1,hr⟩;rw[harr,Yz]
     .exact hu
     .have:ys.length*(E id).sz<=k*(E id).sz:=ZF _ om;rw[hvl];omega
end
end Go.Ax
namespace Go.Ax
open Go
def D9(P:Program)(mem:aQ)(t:TypeId)(x:AV):Option aQ:=
 match P.underlying t with
 | some (.slice e)=>match nE P e with
  | some z=>match x with
   | .sl id off len=>match lk mem id with
    | some (.row t' sz xs)=>match lF z && (Nat.beq z.cells.length sz && (Nat.blt 0 sz && (Nat.blt 0 len && Nat.ble (off+len) xs.length))) with
     | true=>some (up mem id (.row t' sz (xs.take off++(List.replicate len z++xs.drop (off+len)))))
     | false=>none
    | _=>none
   | _=>none
  | none=>none
 | _=>none
section
variable {P:Program} {C:List (Nat × AV)} {X:Nat->Prop} {E:Nat->dP} {D:Nat->Prop} {mem:aQ} {w:World}
theorem GJ(hm:MR C X E D mem w){t ty:TypeId}{p:AV}{x:Value}{mem':aQ}(h:D9 P mem t p=some mem')(hx:VR E D (OX X E mem) w p x) :
  ∃(w':World),(Builtin.clear_ #[t] ty #[x]).run P w = .ok (.tuple #[]) w'/\MR C X E D mem' w'/\(∀u z,VR E D (OX X E mem) w u z->VR E D (OX X E mem') w' u z)/\∀A:Nat->Prop,(∀i,A i->D i)->Ext A E mem w E D mem' w':=by
 unfold D9 at h;split at h<;>first|(cases h;done)|skip
 rename_i e ht;split at h<;>first|(cases h;done)|skip
 rename_i z hz;split at h<;>first|(cases h;done)|skip
 rename_i id off len;split at h<;>first|(cases h;done)|skip
 rename_i t' sz xs hid;split at h<;>first|(cases h;done)|skip
 rename_i hb;cases h;simp only[Y1] at hb;have b0:=hb.1;have b1:=Nat.eq_of_beq_eq_true hb.2.1;have b2:0<sz:=Y5 hb.2.2.1;have b3:0<len:=Y5 hb.2.2.2.1;have b4:=Y5 hb.2.2.2.2;have hsz:=x5 hm hid;cases hx with
 | slz _ _ b o hid'=>omega
 | slzn _ _ hid'=>omega
 | sl _ _ _ cap hid' g1 g2=>
  have hn0:0<(E id).n:=by
   rw[hsz] at g2;have:1*1<=(off+cap)*sz:=Z5 om om;omega
  obtain⟨o,ho,q0,arr,fr,rfl,hfr,q1,q2,q3⟩:=hm.blk _ (bL hid) hn0;simp only at ho q0 q1 q2 q3;obtain⟨zv,hzr,hzv⟩:=x6 (P:=P) (E:=E) (D:=D) (O:=OX X E mem) (w:=w) hz;have hzc:=VR.cells_of hzv b0;obtain⟨⟨c1,c2⟩,c3⟩:=hzc;have hzn:zv.cells.size=sz:=by rw[<-b1,c1];simp
  obtain⟨vs,hvs⟩:∃vs,vs=(Builtin.zeroCells zv.cells len).toList:=⟨_,rfl⟩
  have hvl:vs.length=len*sz:=by rw[hvs];simp[Builtin.zeroCells,hzn]
  have hvg:∀q,q<len*sz->vs[q]? = zv.cells[q%sz]? := λq hq=>by
   have hlt:q%sz<zv.cells.size:=by rw[hzn];exact Zx _ b2
   rw[hvs];simp only[Builtin.zeroCells,hzn];have hr:(Array.range (len*sz))[q]? = some q:=by simp[hq]
   rw[Z4,Array.getElem?_map,hr,aAq,aA4 hlt,getElem!_pos zv.cells (q%sz) hlt]
  have hone:∀v∈vs,v.oneCell'=true:=λv hv=>by
   obtain⟨q,hq,rfl⟩:=aBT hv;have:=hvg q (by rw[<-hvl];exact hq);rw[Yw hq] at this;exact c3 _ (by rw[aBM];exact Array.mem_of_getElem? this.symm)
  have hfit:off*sz+0+vs.length<=arr.size:=by
   rw[hvl,q1];rw[hsz] at g2;have:(off+len)*sz<=(off+cap)*sz:=ZF _ om;rw[Nat.add_mul] at this;omega
  have hrun:=fF P (E id).b (off*sz) t' fr vs 0 arr w ho hfr hfit hone;simp only[Zm] at hrun;obtain⟨narr,hna⟩:∃narr,narr=(arr.toList.take (off*sz)++vs++arr.toList.drop (off*sz+vs.length)).toArray:=⟨_,rfl⟩
  rw[<-hna] at hrun;have hget:∀q,narr[q]? = if off*sz<=q/\q<off*sz+len*sz then vs[q-off*sz]? else arr[q]? := by
   intro q;have htl:(arr.toList.take (off*sz)).length=off*sz:=by simp;omega
   rw[hna,aAv,List.append_assoc,Zk,htl];split
   .rename_i h1;rw[Yz om,Za,Y4 h1,Z4]
   .rename_i h1;rw[Zk,hvl];split
    .rename_i h2;rw[Y4 om]
    .rename_i h2;rw[Yz om,ZS,Z4];congr 1;omega
  have hns:narr.size=arr.size:=by rw[hna];simp;omega
  refine⟨w.setRow (E id).b narr, ?_,hm.change hid hn0 (xs':=xs.take off++(List.replicate len z++xs.drop (off+len))) (lS w _ arr _ t' fr ho) .go ?_ (by rw[hns,q1]) ?_⟩
  .have hl0:len≠0:=om;rw[hvs] at hrun;rw[hsz];cases len with
   | zero=>omega
   | succ len=>simp[Builtin.clear_,run_underlying ht,hzr,hrun]
  .intro k hk;exact hfr k om
  .have htk:(xs.take off).length=off:=by simp;omega
   rw[hsz] at q2;refine⟨by rw[hns];simp only[ZA,htk,aA3,aAG];rw[show off+(len+(xs.length-(off+len)))=xs.length by omega,q1];exact q2,λi y hi=>?_⟩;rw[Zk,htk] at hi;split at hi
   .rename_i h1;rw[Za,Y4 h1] at hi;rw[hsz] at q3;refine⟨(q3 i y hi).1,λj c hj=>?_⟩;obtain⟨u,hu,ho1,hr⟩:=(q3 i y hi).2 j c hj;have hjs:j<sz:=by have:=(Y0.1 hj).1;have:=(q3 i y hi).1;omega
    refine⟨u, ?_,ho1,hr⟩;rw[hget,Yz]
    .exact hu
    .have:(i+1)*sz<=off*sz:=ZF _ om;rw[Nat.add_mul] at this;omega
   .rename_i h1;rw[Zk,aA3] at hi;split at hi
    .rename_i h2;rw[aAm,Y4 h2] at hi;cases hi;refine⟨b1,λj c hj=>?_⟩;have hjs:j<sz:=by have:=(Y0.1 hj).1;omega
     have hju:zv.cells[j]? = some (zv.cells[j]'(by rw[hzn];exact hjs)):=aA4 _;have hlt:i*sz+j-off*sz<len*sz:=by
      have:(i-off+1)*sz<=len*sz:=ZF _ om;rw[Nat.add_mul,Nat.sub_mul] at this;have:off*sz<=i*sz:=ZF _ om;omega
     have hge:off*sz<=i*sz:=ZF _ om;refine⟨zv.cells[j]'(by rw[hzn];exact hjs), ?_,c3 _ sq, ?_⟩
     .rw[hget,Y4 oq,hvg _ hlt];rw[show i*sz+j-off*sz=j+(i-off)*sz by rw[Nat.sub_mul];omega,Nat.add_mul_mod_self_right,Zs hjs];exact hju
     .exact c2 j c _ hj (by rw[Z4];exact hju)
    .rename_i h2;rw[ZS] at hi;rw[show off+len+(i-off-len)=i by omega] at hi;rw[hsz] at q3;refine⟨(q3 i y hi).1,λj c hj=>?_⟩;obtain⟨u,hu,ho1,hr⟩:=(q3 i y hi).2 j c hj;refine⟨u, ?_,ho1,hr⟩;rw[hget,Yz]
     .exact hu
     .have:(off+len)*sz<=i*sz:=ZF _ om;rw[Nat.add_mul] at this;omega
end
end Go.Ax
namespace Go.Ax
open Go
def lC(P:Program)(mem:aQ)(nx:Nat)(src dst:TypeId)(x:AV):Option (AV × aQ × Nat):=
 match P.underlying src with
 | none=>none
 | some _=>match P.underlying dst with
  | some (.slice e)=>match P.underlying e with
   | some (.int .u8)=>match x with
    | .str s=>some (.sl nx 0 s.length,(nx,.row e 1 (s.map λb=>.int .u8 (b.toNat:Int)))::mem,nx+1)
    | _=>none
   | _=>none
  | _=>none
section
variable {P:Program} {C:List (Nat × AV)} {X:Nat->Prop} {E:Nat->dP} {D:Nat->Prop} {O:Nat->Prop} {mem:aQ} {w w':World}
theorem B4{n:Nat}{D':Nat->Prop}(hn0:¬D n)(hD:∀i,D i->D' i)(hDn:D' n)(hm:MR C X E D mem w){src dst:TypeId}{a v:AV}{x:Value}{mem':aQ}{N':Nat}(h:lC P mem n src dst a=some (v,mem',N'))
  (hx:VR E D (OX X E mem) w a x):q5 P C X E D mem w ((convert src dst x).run P w) v mem' D':=by
 unfold lC at h;split at h
 .cases h
 .rename_i d hd;split at h
  .rename_i e hu;split at h
   .rename_i he;split at h
    .rename_i s
     .cases h;cases hx;have hsz:(⟨s.toArray⟩:ByteArray).size=s.length:=by simp[ByteArray.size]
      have hcap:s.length<=grownCap w s.length 0 e:=grownCap_ge w s.length 0 e;generalize hc:grownCap w s.length 0 e=cap at *;have hasize:((s.map λb=>Value.int .u8 (b.toNat:Int)).toArray++Array.replicate (cap-s.length) (Value.int .u8 0)).size=cap:=by simp;omega
      generalize harr:(s.map λb=>Value.int .u8 (b.toNat:Int)).toArray++Array.replicate (cap-s.length) (Value.int .u8 0)=arr at *;have hrow:A6 E D (OX X E mem) w 1 arr (s.map λb=>.int .u8 (b.toNat:Int)):=by
       refine⟨by simp;omega,λi y hi=>?_⟩;rw[ZT] at hi;obtain⟨b,hb,rfl⟩:=aBC.1 hi;refine⟨rfl,λj c hj=>?_⟩;cases j with
       | zero=>
        simp[AV.cells] at hj;subst hj;refine⟨.int .u8 (b.toNat:Int), ?_,rfl,.int _ _⟩;have hil:i<s.length:=by
         rcases ZG i s.length with h'|h'
         .exact h'
         .rw[ZH h'] at hb;cases hb
        rw[<-harr,aBI,Y4 (su hil)];simp[hb]
       | succ j=>simp[AV.cells] at hj
      have hheap:((w.drew.alloc (.cells arr e)).freeze ⟨w.heap.size,arr.size,none⟩ 1).heap=w.heap.push (.cells arr e (arr.size,arr.size+1)):=by
       apply aBY;intro i;simp only[World.freeze,World.alloc,World.drew];rw[Yz sq];simp only[aAu,aAU];by_cases hi:i=w.heap.size
       .subst hi;simp
       .simp[hi,Ne.symm hi]
      obtain⟨h1,h2,h3⟩:=hm.alloc hn0 hD hDn hheap .go (λj hj=>by simp;omega) hrow (λh0=>List.map_eq_nil_iff.2 (Zu.1 om));refine⟨.slice (some ⟨w.heap.size,0,none⟩) s.length cap,_,_, ?_,h1, ?_,h2,h3⟩
      .have hch:(choose (Question.appendCap s.length 0 e)).run P w = .ok cap w.drew:=by
        rw[run_choose_drew];simp[Question.forced,<-hc,grownCap]
       have hel:Array.map (λb=>Value.int IntKind.u8 (b.toNat:Int)) s.toArray++Array.replicate (cap-s.length) (Value.int .u8 0)=arr:=by rw[<-harr];simp
       have hshape:(w.drew.alloc (.cells arr e)).shape? w.heap.size=some (e,arr.size):=by
        have hh:(w.drew.alloc (.cells arr e)).heap[w.heap.size]? = some (.cells arr e (0,0)):=by
         show (w.heap.push (.cells arr e (0,0)))[w.heap.size]? = _
         simp
        simp only[World.shape?,hh]
       simp only[convert,Sem.run_bind,run_underlying hd,run_underlying hu,run_underlying he,Result.andThen_ok];cases d<;>simp only[Conv.stringToBytes,Sem.run_bind,Result.andThen_ok,hsz,hch,hel,newRow,run_newObj_alloc,Sem.run_pure,markStringish,run_shape] <;>
        simp[hshape]
      .have:=VR.sl (E:=fS E n ⟨w.heap.size,arr.size,1⟩) (D:=D') (O:=OX X (fS E n ⟨w.heap.size,arr.size,1⟩) ((n,.row e 1 (s.map λb=>.int .u8 (b.toNat:Int)))::mem)) (w:=(w.drew.alloc (.cells arr e)).freeze ⟨w.heap.size,arr.size,none⟩ 1) n 0 s.length cap hDn hcap (by rw[bZ];simp;omega);rw[bZ] at this;simpa using this
    .cases h
   .cases h
  .cases h
end
def jG(C:List (Nat × AV))(s:St):List (Nat × Operand)->Option (List (Nat × AV))
 | []=>some []
 | (i,x)::r=>match ev C s x with
  | some a=>match jG C s r with
   | some l=>some ((i,a)::l)
   | none=>none
  | none=>none
def xX(C:List (Nat × AV))(s:St):Option Operand->Option (Option AV)
 | none=>some none
 | some x=>match ev C s x with
  | some a=>some (some a)
  | none=>none
def bP(s:St):Option AV->Option (AV × aQ × Nat)
 | some v=>some (v,s.mem,s.nx)
 | none=>none
def eU(P:Program)(C:List (Nat × AV))(s:St)(b:Builtin)(args:List Operand)(ts:List TypeId):Option (AV × aQ × Nat):=
 match b with
 | .len=>match args,ts with
  | [x],[t]=>match ev C s x with
   | some a=>bP s (RX P s.mem t a)
   | none=>none
  | _,_=>none
 | .append=>match args,ts with
  | [x,y],[t,u]=>match ev C s x with
   | some a=>match ev C s y with
    | some b=>sB P s.mem s.nx t u a b
    | none=>none
   | none=>none
  | _,_=>none
 | .min=>match B6 C s args with
  | some (.int k x::r)=>match Mz x r with
   | some m=>some (.int k m,s.mem,s.nx)
   | none=>none
  | _=>none
 | .max=>match B6 C s args with
  | some (.int k x::r)=>match Na x r with
   | some m=>some (.int k m,s.mem,s.nx)
   | none=>none
  | _=>none
 | .unsafeSliceData=>match args,ts with
  | [x],[_]=>match ev C s x with
   | some a=>bP s (sJ a)
   | none=>none
  | _,_=>none
 | .unsafeString=>match args,ts with
  | [x,y],[t,_]=>match ev C s x with
   | some a=>match ev C s y with
    | some b=>match Ai P s.mem t a b with
     | some (v,m)=>some (v,m,s.nx)
     | none=>none
    | none=>none
   | none=>none
  | _,_=>none
 | .copy=>match args,ts with
  | [x,y],[t,_]=>match ev C s x with
   | some a=>match ev C s y with
    | some b=>match Hj P s.mem t a b with
     | some (v,m)=>some (v,m,s.nx)
     | none=>none
    | none=>none
   | none=>none
  | _,_=>none
 | .clear=>match args,ts with
  | [x],[t]=>match ev C s x with
   | some a=>match D9 P s.mem t a with
    | some m=>some (.tup [],m,s.nx)
    | none=>none
   | none=>none
  | _,_=>none
 | _=>none
def Gm(P:Program)(C:List (Nat × AV))(s:St)(f:Operand)(args:List Operand):Option (AV × aQ × Nat):=
 match ev C s f with
 | some (.fn (.func F) [] [])=>match P.funcs[F]? with
  | some fn=>match fn.body with
   | none=>match CR fn with
    | true=>match B6 C s args with
     | some [v]=>some (v,s.mem,s.nx)
     | _=>none
    | false=>none
   | some _=>none
  | none=>none
 | _=>none
def CM(P:Program)(t:TypeId)(ok:Bool)(x:AV):Option AV:=
 match P.underlying t with
 | some (.interface _)=>none
 | some _=>match x with
  | .ifc u v=>match Nat.beq u t with
   | true=>match ok with
    | true=>some (.tup [v,.bool true])
    | false=>some v
   | false=>none
  | _=>none
 | none=>none
def c8(P:Program)(C:List (Nat × AV))(s:St)(op:Op):Option (AV × aQ × Nat):=
 match op with
 | .move x=>bP s (ev C s x)
 | .assign x=>bP s (ev C s x)
 | .pick c a b=>match ev C s c with
  | some (.bool true)=>bP s (ev C s a)
  | some (.bool false)=>bP s (ev C s b)
  | _=>none
 | .alloc t=>uG P s.mem s.nx t
 | .box t x=>match ev C s x with
  | some v=>IC P s.mem s.nx t v
  | none=>none
 | .build t parts=>match jG C s parts.toList with
  | some ps=>bP s (Cc P t ps)
  | none=>none
 | .buildSlice t len parts=>match jG C s parts.toList with
  | some ps=>iP P s.mem s.nx t len ps
  | none=>none
 | .load t x=>match ev C s x with
  | some p=>bP s (DY P s.mem t p)
  | none=>none
 | .store t x y=>match ev C s x with
  | some p=>match ev C s y with
   | some v=>match yX P s.mem t p v with
    | some m=>some (.tup [],m,s.nx)
    | none=>none
   | none=>none
  | none=>none
 | .nilCheck x=>match ev C s x with
  | some p=>bP s (Pr p)
  | none=>none
 | .binOp op t x y _=>match ev C s x with
  | some a=>match ev C s y with
   | some b=>bP s (PJ P op t x y a b)
   | none=>none
  | none=>none
 | .unOp op _ x=>match ev C s x with
  | some a=>bP s (Xd op a)
  | none=>none
 | .convert src dst x=>match ev C s x with
  | some a=>match D6 P s.mem src dst a with
   | some v=>some (v,s.mem,s.nx)
   | none=>lC P s.mem s.nx src dst a
  | none=>none
 | .makeInterface t x=>match ev C s x with
  | some a=>bP s (HE P t a)
  | none=>none
 | .makeFunc fn first cap=>match B6 C s first.toList with
  | some l1=>match B6 C s cap.toList with
   | some l2=>some (.fn fn l1 l2,s.mem,s.nx)
   | none=>none
  | none=>none
 | .makeSlice t l c=>match ev C s l with
  | some a=>match ev C s c with
   | some b=>Bt P s.mem s.nx t a b
   | none=>none
  | none=>none
 | .slice t x lo hi mx=>match ev C s x with
  | some a=>match xX C s lo with
   | some l=>match xX C s hi with
    | some h=>match xX C s mx with
     | some m=>match !m.isSome || h.isSome with
      | true=>bP s (DI P s.mem t a l h m)
      | false=>none
     | none=>none
    | none=>none
   | none=>none
  | none=>none
 | .fieldAddr t x f=>match ev C s x with
  | some p=>bP s (o9 P t f p)
  | none=>none
 | .field t x f=>match ev C s x with
  | some p=>bP s (DT P t f p)
  | none=>none
 | .indexAddr t x ix=>match ev C s x with
  | some p=>match ev C s ix with
   | some i=>bP s (pC P s.mem t p i)
   | none=>none
  | none=>none
 | .index t x ix=>match ev C s x with
  | some p=>match ev C s ix with
   | some i=>bP s (DS P t p i)
   | none=>none
  | none=>none
 | .extract x i=>match ev C s x with
  | some p=>bP s (tX p i)
  | none=>none
 | .typeAssert x _ t ok=>match ev C s x with
  | some p=>bP s (CM P t ok p)
  | none=>none
 | .makeMap _ reserve=>match reserve with
  | none=>JA s.mem s.nx none
  | some _=>none
 | .lookup t x ix ok=>match ev C s x with
  | some p=>match ev C s ix with
   | some i=>bP s (sX P s.mem t p i ok)
   | none=>none
  | none=>none
 | .mapUpdate t x y z=>match ev C s x with
  | some p=>match ev C s y with
   | some k=>match ev C s z with
    | some v=>match mV P s.mem t p k v with
     | some m=>some (.tup [],m,s.nx)
     | none=>none
    | none=>none
   | none=>none
  | none=>none
 | .insert t x y z=>match ev C s x with
  | some p=>match ev C s y with
   | some k=>match ev C s z with
    | some v=>match mV P s.mem t p k v with
     | some m=>some (.tup [],m,s.nx)
     | none=>none
    | none=>none
   | none=>none
  | none=>none
 | .range t x=>match ev C s x with
  | some p=>BP P s.mem s.nx t p
  | none=>none
 | .entry x=>match ev C s x with
  | some p=>bP s (G5 s.mem p)
  | none=>none
 | .next x b=>match b with
  | false=>match ev C s x with
   | some p=>match LJ s.mem p with
    | some (v,m)=>some (v,m,s.nx)
    | none=>none
   | none=>none
  | true=>none
 | .call c=>match c.callee with
  | .builtin b=>eU P C s b c.args.toList c.argTypes.toList
  | .value f=>Gm P C s f c.args.toList
  | _=>none
 | _=>none
def Ee(P:Program)(C:List (Nat × AV))(X:Nat->Prop)(E:Nat->dP)(D:Nat->Prop)(mem:aQ)(w:World)(r:Result Next)(v:AV)(mem':aQ)(D':Nat->Prop):Prop:=
 ∃(x:Value) (n:Next) (w':World) (E':Nat->dP),r = .ok n w'/\(n = .value x\/(n = .skip/\x=undef))/\MR C X E' D' mem' w'/\VR E' D' (OX X E' mem') w' v x /\
  (∀u y,VR E D (OX X E mem) w u y->VR E' D' (OX X E' mem') w' u y)/\∀A:Nat->Prop,(∀i,A i->D i)->Ext A E mem w E' D' mem' w'
section
variable {P:Program} {C:List (Nat × AV)} {X:Nat->Prop} {ds:List Deferred × Nat} {E:Nat->dP} {D D':Nat->Prop} {s:St} {a:Act} {w:World}
theorem q5.next{mem mem':aQ}{m:Sem Value}{v:AV}(h:q5 P C X E D mem w (m.run P w) v mem' D') :
  Ee P C X E D mem w ((do let x <-m;pure (Next.value x)).run P w) v mem' D':=by
 obtain⟨x,w',E',h1,h2,h3,h4,h5⟩:=h.ex;exact⟨x,.value x,w',E',by simp[h1],.inl rfl,h2,h3,h4,h5⟩
theorem eX(hD:∀i,D i->D' i)(hs:SR C X ds E D s a w){m:Sem Value}{v:AV}{o:Option AV}{v':AV}{mem':aQ}{N':Nat}(h:bP s o=some (v',mem',N'))
  (hm:∀v,o=some v->∃x,m.run P w = .ok x w/\VR E D (OX X E s.mem) w v x) :
  Ee P C X E D s.mem w ((do let x <-m;pure (Next.value x)).run P w) v' mem' D':=by
 unfold bP at h;split at h
 .rename_i v0;cases h;obtain⟨x,h1,h2⟩:=hm _ rfl;obtain⟨w1,w2,w3⟩:=hs.mr.widen hD;exact⟨x,.value x,w,E,by simp[h1],.inl rfl,w1,w2 _ _ h2,w2,w3⟩
 .cases h
theorem nR(hs:SR C X ds E D s a w):∀{ps:List (Nat × Operand)} {vs:List (Nat × AV)},jG C s ps=some vs ->
  vs.length=(ps.map λ(i,x)=>(i,a.eval x)).length/\∀(j:Nat) (p:Nat × AV) (q:Nat × Value),vs[j]? = some p->(ps.map λ(i,x)=>(i,a.eval x))[j]? = some q->p.1=q.1/\VR E D (OX X E s.mem) w p.2 q.2
 | [],vs,h=>by simp[jG] at h;subst h;simp
 | (i,x)::r,vs,h=>by
  simp only[jG] at h;split at h
  .rename_i v hv;split at h
   .rename_i l hl;cases h;obtain⟨h1,h2⟩:=nR hs hl;refine⟨su h1,λj p q hp hq=>?_⟩;cases j with
    | zero=>simp at hp hq;subst hp hq;exact⟨rfl,aZ hs hv⟩
    | succ j=>simp at hp hq;exact h2 j p q hp (su hq)
   .cases h
  .cases h
theorem kY(hs:SR C X ds E D s a w){x:Option Operand}{v:Option AV}(h:xX C s x=some v):L6 E D (OX X E s.mem) w v (x.map a.eval):=by
 unfold xX at h;split at h
 .cases h;exact .none
 .split at h
  .rename_i u hu;cases h;exact .some _ _ (aZ hs hu)
  .cases h
end
end Go.Ax
namespace Go.Ax
open Go
theorem Eu{P:Program}{mem:aQ}{nx:Nat}{t:TypeId}{v:AV}{m:aQ}{n:Nat}(h:uG P mem nx t=some (v,m,n)):n=nx+1:=by
 unfold uG at h;repeat(split at h<;>first|(cases h;done)|skip)
 cases h;rfl
theorem ME{P:Program}{mem:aQ}{nx:Nat}{t:TypeId}{a v:AV}{m:aQ}{n:Nat}(h:IC P mem nx t a=some (v,m,n)):n=nx+1:=by
 unfold IC at h;repeat(split at h<;>first|(cases h;done)|skip)
 cases h;rfl
theorem vJ{P:Program}{mem:aQ}{nx:Nat}{t:TypeId}{l:Nat}{ps:List (Nat × AV)}{v:AV}{m:aQ}{n:Nat}(h:iP P mem nx t l ps=some (v,m,n)):n=nx+1:=by
 unfold iP at h;repeat(split at h<;>first|(cases h;done)|skip)
 cases h;rfl
theorem zJ{P:Program}{mem:aQ}{nx:Nat}{t u:TypeId}{a v:AV}{m:aQ}{n:Nat}(h:lC P mem nx t u a=some (v,m,n)):n=nx+1:=by
 unfold lC at h;repeat(split at h<;>first|(cases h;done)|skip)
 cases h;rfl
theorem Hi{P:Program}{mem:aQ}{nx:Nat}{t:TypeId}{a b v:AV}{m:aQ}{n:Nat}(h:Bt P mem nx t a b=some (v,m,n)):n=nx+1:=by
 unfold Bt at h;repeat(split at h<;>first|(cases h;done)|skip)
 cases h;rfl
theorem MO{P:Program}{mem:aQ}{nx:Nat}{t:TypeId}{a v:AV}{m:aQ}{n:Nat}(h:BP P mem nx t a=some (v,m,n)):n=nx+1:=by
 unfold BP at h;repeat(split at h<;>first|(cases h;done)|skip)
 cases h;rfl
theorem Kt{P:Program}{mem:aQ}{nx:Nat}{t u:TypeId}{a b v:AV}{m:aQ}{n:Nat}(h:sB P mem nx t u a b=some (v,m,n)):n=nx\/n=nx+1:=by
 unfold sB at h;repeat' (first|(cases h;done)|split at h)
 all_goals first|(cases h;exact .inl rfl)|(cases h;exact .inr rfl)
section
variable {P:Program} {C:List (Nat × AV)} {X:Nat->Prop} {ds:List Deferred × Nat} {E:Nat->dP} {D D':Nat->Prop} {s:St} {a:Act} {w:World}
theorem Cb(hn0:¬D s.nx)(hD:∀i,D i->D' i)(hs:SR C X ds E D s a w){b:Builtin}{args:List Operand}{ts:List TypeId}{v:AV}{mem':aQ}{N':Nat}(hDn:N'=s.nx+1->D' s.nx)(h:eU P C s b args ts=some (v,mem',N'))
  (ty:TypeId) (cs:Array Bool) :
  Ee P C X E D s.mem w ((builtin b ts.toArray ty cs (args.map a.eval).toArray).run P w) v mem' D':=by
 unfold eU at h;split at h
 .split at h
  .rename_i x t;split at h
   .rename_i p hp;have:=eX (P:=P) hD (m:=Builtin.len_ #[t] ty #[a.eval x]) (v:=v) hs h (λv' hv=>Dn hv (aZ hs hp) ty);simpa[builtin] using this
   .cases h
  .cases h
 .split at h
  .rename_i x y t u;split at h
   .rename_i p hp;split at h
    .rename_i q hq;have:=(EY (P:=P) (ty:=ty) hn0 hD hs.mr hDn h (aZ hs hp) (aZ hs hq)).next;simpa[builtin] using this
    .cases h
   .cases h
  .cases h
 .split at h
  .rename_i k x r hr;split at h
   .rename_i m hm;cases h;have hv:=iB hs hr;obtain⟨y,ys,e⟩:∃y ys,args.map a.eval=y::ys:=by
     cases hl:args.map a.eval with
     | nil=>have:=hv.1;rw[hl] at this;simp at this
     | cons y ys=>exact⟨y,ys,rfl⟩
    rw[e] at hv |-;have h0:=hv.2 0 _ y rfl rfl;cases h0;have hr':j8 E D (OX X E s.mem) w r ys:=⟨by have:=hv.1;simpa using this,λj c x h1 h2=>hv.2 (j+1) c x (su h1) (su h2)⟩
    have:=yR (P:=P) k hm hr';obtain⟨w1,w2,w3⟩:=hs.mr.widen hD;exact⟨.int k m,.value (.int k m),w,E,by simp[builtin,Builtin.min_,this],.inl rfl,w1,.int _ _,w2,w3⟩
   .cases h
  .cases h
 .split at h
  .rename_i k x r hr;split at h
   .rename_i m hm;cases h;have hv:=iB hs hr;obtain⟨y,ys,e⟩:∃y ys,args.map a.eval=y::ys:=by
     cases hl:args.map a.eval with
     | nil=>have:=hv.1;rw[hl] at this;simp at this
     | cons y ys=>exact⟨y,ys,rfl⟩
    rw[e] at hv |-;have h0:=hv.2 0 _ y rfl rfl;cases h0;have hr':j8 E D (OX X E s.mem) w r ys:=⟨by have:=hv.1;simpa using this,λj c x h1 h2=>hv.2 (j+1) c x (su h1) (su h2)⟩
    have:=yP (P:=P) k hm hr';obtain⟨w1,w2,w3⟩:=hs.mr.widen hD;exact⟨.int k m,.value (.int k m),w,E,by simp[builtin,Builtin.max_,this],.inl rfl,w1,.int _ _,w2,w3⟩
   .cases h
  .cases h
 .split at h
  .rename_i x t;split at h
   .rename_i p hp;have:=eX (P:=P) hD (m:=Builtin.unsafeSliceData_ #[t] ty #[a.eval x]) (v:=v) hs h (λv' hv=>BO hv (aZ hs hp) _ ty);simpa[builtin] using this
   .cases h
  .cases h
 .split at h
  .rename_i x y t u;split at h
   .rename_i p hp;split at h
    .rename_i q hq;split at h
     .rename_i v0 m0 hu;cases h;obtain⟨w1,w2,w3⟩:=hs.mr.widen hD;obtain⟨z,w',hr,m1,m2,m3,m4⟩:=CW (P:=P) (it:=u) (ty:=ty) w1 hu (w2 _ _ (aZ hs hp)) (w2 _ _ (aZ hs hq));exact⟨z,.value z,w',E,by simp[builtin,hr],.inl rfl,m1,m2,λu y h=>m3 u y (w2 u y h),λA hA=>m4 A (λi hi=>hD i (hA i hi))⟩
     .cases h
    .cases h
   .cases h
  .cases h
 .split at h
  .rename_i x y t u;split at h
   .rename_i p hp;split at h
    .rename_i q hq;split at h
     .rename_i v0 m0 hu;cases h;obtain⟨w1,w2,w3⟩:=hs.mr.widen hD;obtain⟨n0,w',hv0,hr,m1,m3,m4⟩:=IB (P:=P) (t:=t) (u:=u) (ty:=ty) w1 hu (w2 _ _ (aZ hs hp)) (w2 _ _ (aZ hs hq));refine⟨.int .i64 n0,.value (.int .i64 n0),w',E,by simp[builtin,hr],.inl rfl,m1, ?_,λu y h=>m3 u y (w2 u y h),λA hA=>m4 A (λi hi=>hD i (hA i hi))⟩;rw[hv0];exact .int _ _
     .cases h
    .cases h
   .cases h
  .cases h
 .split at h
  .rename_i x t;split at h
   .rename_i p hp;split at h
    .rename_i m0 hu;cases h;obtain⟨w1,w2,w3⟩:=hs.mr.widen hD;obtain⟨w',hr,m1,m3,m4⟩:=GJ (P:=P) (t:=t) (ty:=ty) w1 hu (w2 _ _ (aZ hs hp));exact⟨.tuple #[],.value (.tuple #[]),w',E,by simp[builtin,hr],.inl rfl,m1,.tup [] #[] rfl sq,λu y h=>m3 u y (w2 u y h),λA hA=>m4 A (λi hi=>hD i (hA i hi))⟩
    .cases h
   .cases h
  .cases h
 .cases h
theorem KE(hD:∀i,D i->D' i)(hs:SR C X ds E D s a w)(o:Oper){c:Call}{f:Operand}(hop:o.op = .call c)(hc:c.callee = .value f){v:AV}{mem':aQ}{N':Nat}(h:Gm P C s f c.args.toList=some (v,mem',N')) :
  Ee P C X E D s.mem w ((execOp a.eval o).run P w) v mem' D':=by
 unfold Gm at h;split at h<;>first|(cases h;done)|skip
 rename_i F hf;split at h<;>first|(cases h;done)|skip
 rename_i fn hfn;split at h<;>first|(cases h;done)|skip
 rename_i hb;split at h<;>first|(cases h;done)|skip
 rename_i hn;split at h<;>first|(cases h;done)|skip
 rename_i v0 hargs;cases h;have hv:=aZ hs hf;have hr:=iB hs hargs;obtain⟨y,hy⟩:∃y,c.args.toList.map a.eval=[y]:=by
  have h1:=hr.1
  match hm:c.args.toList.map a.eval,h1 with
  | [y],_=>exact⟨y,rfl⟩
 rw[hy] at hr;have hy':c.args.map a.eval = #[y]:=by apply aBw;simpa using hy
 generalize he:a.eval f=fv at hv;cases hv with
 | fn _ _ _ a1 a2 l1 l2 r1 r2=>
  have e1:a1 = #[]:=aAF (by simpa using l1.symm);have e2:a2 = #[]:=aAF (by simpa using l2.symm);subst e1 e2;obtain⟨w1,w2,w3⟩:=hs.mr.widen hD;refine⟨y,.value y,w,E, ?_,.inl rfl,w1,w2 _ _ (hr.2 0 _ _ rfl rfl),w2,w3⟩;have:=NB (w:=w) hfn hb hn y;simp[execOp,hop,resolve,hc,he,Deferred.ofValue,invoke,hy',this]
theorem Eb{O:Nat->Prop}{t xt:TypeId}{ok:Bool}{p v:AV}{x:Value}(h:CM P t ok p=some v)(hx:VR E D O w p x):∃y,(Instr.typeAssert x xt t ok).run P w = .ok y w/\VR E D O w v y:=by
 unfold CM at h;split at h
 .cases h
 .rename_i d hni hu;split at h
  .rename_i u q;split at h
   .rename_i he;have he:=Nat.eq_of_beq_eq_true he;subst he;cases hx with
    | ifc _ _ z hz=>
     have key:(Instr.typeAssert (.iface u z) xt u ok).run P w = .ok (if ok then .tuple #[z,.bool true] else z) w:=by
      cases d<;>first|exact(hni _ rfl).elim|exact(hni _ hu).elim|simp[Instr.typeAssert,run_underlying hu]
     refine⟨_,key, ?_⟩;split at h
     .cases h;exact .tup [q,.bool true] #[z,.bool true] rfl (λj c y h1 h2=>by
       match j,h1,h2 with
       | 0,h1,h2=>simp at h1 h2;subst h1 h2;exact hz
       | 1,h1,h2=>simp at h1 h2;subst h1 h2;exact .bool _
       | j+2,h1,h2=>simp at h1)
     .cases h;exact hz
   .cases h
  .cases h
 .cases h
theorem wU(hD:∀i,D i->D' i)(hs:SR C X ds E D s a w){x:Operand}{v:AV}{mem':aQ}{N':Nat}(h:bP s (ev C s x)=some (v,mem',N')) :
  Ee P C X E D s.mem w (.ok (.value (a.eval x)) w) v mem' D':=by
 unfold bP at h;split at h
 .rename_i v0 hv;cases h;obtain⟨w1,w2,w3⟩:=hs.mr.widen hD;exact⟨_,_,w,E,rfl,.inl rfl,w1,w2 _ _ (aZ hs hv),w2,w3⟩
 .cases h
theorem n9(hn0:¬D s.nx)(hD:∀i,D i->D' i)(hs:SR C X ds E D s a w)(o:Oper){v:AV}{mem':aQ}{N':Nat}(hDn:N'=s.nx+1->D' s.nx)(h:c8 P C s o.op=some (v,mem',N')) :
  Ee P C X E D s.mem w ((execOp a.eval o).run P w) v mem' D':=by
 cases hop:o.op<;>rw[hop] at h<;>simp only[c8] at h<;>first|(cases h;done)|skip
 case move x=>simpa[execOp,hop] using wU (P:=P) hD hs h
 case assign x=>simpa[execOp,hop] using wU (P:=P) hD hs h
 case pick c x y=>
  split at h
  .rename_i hc;have hb:=aZ hs hc;generalize he:a.eval c=cv at hb;cases hb;simpa[execOp,hop,asBool,he] using wU (P:=P) hD hs h
  .rename_i hc;have hb:=aZ hs hc;generalize he:a.eval c=cv at hb;cases hb;simpa[execOp,hop,asBool,he] using wU (P:=P) hD hs h
  .cases h
 case alloc t=>simpa[execOp,hop] using (GO (P:=P) hn0 hD (hDn (Eu h)) hs.mr h).next
 case box t x=>
  split at h
  .rename_i p hp;simpa[execOp,hop] using (Jr (P:=P) hn0 hD (hDn (ME h)) hs.mr h (aZ hs hp)).next
  .cases h
 case build t parts=>
  split at h
  .rename_i ps hps;obtain⟨h1,h2⟩:=nR hs hps;have:=eX (P:=P) hD (m:=Instr.build t (parts.toList.map λ(i,x)=>(i,a.eval x)).toArray) (v:=v) hs h (λv' hv=>AW hv h1 h2);have e:(parts.map λ(i,x)=>(i,a.eval x))=(parts.toList.map λ(i,x)=>(i,a.eval x)).toArray:=by apply aBw;simp
   simp only[execOp,hop];rw[e];exact this
  .cases h
 case buildSlice t len parts=>
  split at h
  .rename_i ps hps;obtain⟨h1,h2⟩:=nR hs hps;have:=(AR (P:=P) hn0 hD (hDn (vJ h)) hs.mr h h1 h2).next;have e:(parts.map λ(i,x)=>(i,a.eval x))=(parts.toList.map λ(i,x)=>(i,a.eval x)).toArray:=by apply aBw;simp
   simp only[execOp,hop];rw[e];exact this
  .cases h
 case load t x=>
  split at h
  .rename_i p hp;have:=eX (P:=P) hD (m:=Instr.loadAt t (a.eval x)) (v:=v) hs h (λv' hv=>uP hs.mr hv (aZ hs hp));simpa[execOp,hop] using this
  .cases h
 case store t x y=>
  split at h
  .rename_i p hp;split at h
   .rename_i q hq;split at h
    .rename_i m hm;cases h;obtain⟨w',h1,h2,h3,h4⟩:=G0 (P:=P) hs.mr hm (aZ hs hp) (aZ hs hq);obtain⟨w1,w2,w3⟩:=h2.widen hD;exact⟨undef,.skip,w',E,by simp[execOp,hop,h1],.inr ⟨rfl,rfl⟩,w1,.tup [] #[] rfl sq,λu y hu=>w2 _ _ (h3 u y hu),λB hB=>(h4 B hB).trans (w3 B hB)⟩
    .cases h
   .cases h
  .cases h
 case typeAssert x xt t ok=>
  split at h
  .rename_i p hp;have:=eX (P:=P) hD (m:=Instr.typeAssert (a.eval x) xt t ok) (v:=v) hs h (λv' hv=>Eb hv (aZ hs hp));simpa[execOp,hop] using this
  .cases h
 case makeMap t r=>
  split at h
  .have hnx:N'=s.nx+1:=by cases h;rfl
   simpa[execOp,hop] using (Cz (P:=P) (t:=t) hn0 hD (hDn hnx) hs.mr h).next
  .cases h
 case lookup t x ix ok=>
  split at h
  .rename_i p hp;split at h
   .rename_i i hi;have:=eX (P:=P) hD (m:=Instr.lookup t (a.eval x) (a.eval ix) ok) (v:=v) hs h (λv' hv=>xP hs.mr hv (aZ hs hp) (aZ hs hi));simpa[execOp,hop] using this
   .cases h
  .cases h
 case mapUpdate t x y z=>
  split at h
  .rename_i p hp;split at h
   .rename_i k hk;split at h
    .rename_i q hq;split at h
     .rename_i m hm;cases h;obtain⟨w',h1,h2,h3,h4⟩:=rG (P:=P) hs.mr hm (aZ hs hp) (aZ hs hk) (aZ hs hq);obtain⟨w1,w2,w3⟩:=h2.widen hD;exact⟨undef,.skip,w',E,by simp[execOp,hop,h1],.inr ⟨rfl,rfl⟩,w1,.tup [] #[] rfl sq,λu y hu=>w2 _ _ (h3 u y hu),λB hB=>(h4 B hB).trans (w3 B hB)⟩
     .cases h
    .cases h
   .cases h
  .cases h
 case range t x=>
  split at h
  .rename_i p hp;obtain⟨h1,h2⟩:=zI (P:=P) (D':=λi=>D' i\/i=s.nx) hn0 (λi hi=>.inl (hD i hi)) (.inr rfl) hs.mr h (aZ hs hp);obtain⟨h1,-⟩:=zI (P:=P) hn0 hD (hDn h2) hs.mr h (aZ hs hp);simpa[execOp,hop] using h1.next
  .cases h
 case entry x=>
  split at h
  .rename_i p hp;have:=eX (P:=P) hD (m:=Instr.entry (a.eval x)) (v:=v) hs h (λv' hv=>Gv hs.mr hv (aZ hs hp));simpa[execOp,hop] using this
  .cases h
 case next x b=>
  split at h
  .split at h
   .rename_i p hp;split at h
    .rename_i u m hm;cases h;obtain⟨y,w',h1,h2,h3,h4,h5⟩:=Hw (P:=P) (ty:=o.type) hs.mr hm (aZ hs hp);obtain⟨w1,w2,w3⟩:=h2.widen hD;exact⟨y,.value y,w',E,by simp[execOp,hop,h1],.inl rfl,w1,w2 _ _ h3,λu y hu=>w2 _ _ (h4 u y hu),λB hB=>(h5 B hB).trans (w3 B hB)⟩
    .cases h
   .cases h
  .cases h
 case insert t x y z=>
  split at h
  .rename_i p hp;split at h
   .rename_i k hk;split at h
    .rename_i q hq;split at h
     .rename_i m hm;cases h;obtain⟨w',h1,h2,h3,h4⟩:=rG (P:=P) hs.mr hm (aZ hs hp) (aZ hs hk) (aZ hs hq);obtain⟨w1,w2,w3⟩:=h2.widen hD;exact⟨undef,.skip,w',E,by simp[execOp,hop,h1],.inr ⟨rfl,rfl⟩,w1,.tup [] #[] rfl sq,λu y hu=>w2 _ _ (h3 u y hu),λB hB=>(h4 B hB).trans (w3 B hB)⟩
     .cases h
    .cases h
   .cases h
  .cases h
 case nilCheck x=>
  split at h
  .rename_i p hp;unfold bP at h;split at h
   .rename_i v0 hv;cases h;obtain⟨h1,h2⟩:=D2 (P:=P) hv (aZ hs hp) o a.eval x hop rfl;obtain⟨w1,w2,w3⟩:=hs.mr.widen hD;exact⟨_,_,w,E,h1,.inl rfl,w1,w2 _ _ h2,w2,w3⟩
   .cases h
  .cases h
 case binOp op t x y t'=>
  split at h
  .rename_i p hp;split at h
   .rename_i q hq;have:=eX (P:=P) hD (m:=do eqGuard op t x y (a.eval x) (a.eval y);binOp op t (a.eval x) (a.eval y)) (v:=v) hs h (λv' hv=>EI hv (aZ hs hp) (aZ hs hq));simpa[execOp,hop] using this
   .cases h
  .cases h
 case unOp op t x=>
  split at h
  .rename_i p hp;have:=eX (P:=P) hD (m:=Op.unary op (a.eval x)) (v:=v) hs h (λv' hv=>Ez hv (aZ hs hp));simpa[execOp,hop] using this
  .cases h
 case convert src dst x=>
  split at h
  .rename_i p hp;split at h
   .rename_i v0 hv;cases h;obtain⟨z,h1,h2⟩:=Bo (P:=P) hs.mr hv (aZ hs hp);obtain⟨w1,w2,w3⟩:=hs.mr.widen hD;exact⟨z,.value z,w,E,by simp[execOp,hop,h1],.inl rfl,w1,w2 _ _ h2,w2,w3⟩
   .simpa[execOp,hop] using (B4 (P:=P) hn0 hD (hDn (zJ h)) hs.mr h (aZ hs hp)).next
  .cases h
 case makeInterface t x=>
  split at h
  .rename_i p hp;have:=eX (P:=P) hD (m:=Instr.makeInterface t (a.eval x)) (v:=v) hs h (λv' hv=>zN hv (aZ hs hp));simpa[execOp,hop] using this
  .cases h
 case makeFunc fn first cap=>
  split at h
  .rename_i l1 h1;split at h
   .rename_i l2 h2;cases h;have e1:=iB hs h1;have e2:=iB hs h2;obtain⟨w1,w2,w3⟩:=hs.mr.widen hD;refine⟨.func fn (first.map a.eval) (cap.map a.eval),.value (.func fn (first.map a.eval) (cap.map a.eval)),w,E,by simp[execOp,hop,Instr.makeFunc],.inl rfl,w1,w2 _ _ ?_,w2,w3⟩;exact .fn fn l1 l2 _ _ (by have:=e1.1;simpa using this) (by have:=e2.1;simpa using this)
     (λj c x g1 g2=>e1.2 j c x g1 (su g2)) (λj c x g1 g2=>e2.2 j c x g1 (su g2))
   .cases h
  .cases h
 case makeSlice t l c=>
  split at h
  .rename_i p hp;split at h
   .rename_i q hq;simpa[execOp,hop] using (H5 (P:=P) hn0 hD (hDn (Hi h)) hs.mr h (aZ hs hp) (aZ hs hq)).next
   .cases h
  .cases h
 case slice t x lo hi mx=>
  split at h
  .rename_i p hp;split at h
   .rename_i l hl;split at h
    .rename_i hh hhi;split at h
     .rename_i m hm;split at h
      .rename_i hmx;have hmx':m.isSome=true->hh.isSome=true:=by
        intro e;rw[e] at hmx;simpa using hmx
       have:=eX (P:=P) hD (m:=Instr.sliceAt t (a.eval x) (lo.map a.eval) (hi.map a.eval) (mx.map a.eval)) (v:=v) hs h
        (λv' hv=>AK hs.mr hv (aZ hs hp) (kY hs hl) (kY hs hhi) (kY hs hm) hmx')
       simpa[execOp,hop] using this
      .cases h
     .cases h
    .cases h
   .cases h
  .cases h
 case fieldAddr t x f=>
  split at h
  .rename_i p hp;have:=eX (P:=P) hD (m:=Instr.fieldAt t (a.eval x) f) (v:=v) hs h (λv' hv=>q6 hv (aZ hs hp));simpa[execOp,hop] using this
  .cases h
 case field t x f=>
  split at h
  .rename_i p hp;have:=eX (P:=P) hD (m:=Instr.field t (a.eval x) f) (v:=v) hs h (λv' hv=>AO hv (aZ hs hp));simpa[execOp,hop] using this
  .cases h
 case indexAddr t x ix=>
  split at h
  .rename_i p hp;split at h
   .rename_i q hq;have:=eX (P:=P) hD (m:=Instr.indexAt t (a.eval x) (a.eval ix)) (v:=v) hs h (λv' hv=>rM hs.mr hv (aZ hs hp) (aZ hs hq));simpa[execOp,hop] using this
   .cases h
  .cases h
 case index t x ix=>
  split at h
  .rename_i p hp;split at h
   .rename_i q hq;have:=eX (P:=P) hD (m:=Instr.index t (a.eval x) (a.eval ix)) (v:=v) hs h (λv' hv=>zO hv (aZ hs hp) (aZ hs hq));simpa[execOp,hop] using this
   .cases h
  .cases h
 case extract x i=>
  split at h
  .rename_i p hp;have:=eX (P:=P) hD (m:=Instr.extract (a.eval x) i) (v:=v) hs h (λv' hv=>vR hv (aZ hs hp));simpa[execOp,hop] using this
  .cases h
 case call c=>
  split at h
  .rename_i b hb;have h1:=λcs=>Cb (P:=P) hn0 hD hs hDn h o.type cs
   have e:(c.args.toList.map a.eval).toArray=c.args.map a.eval:=by apply aBw;simp
   simp only[e,aBn] at h1;simp only[execOp,hop,resolve,hb,Sem.run_bind,Sem.run_pure,Result.andThen_ok,invoke];exact h1 _
  .rename_i f hf;exact KE hD hs o hop hf h
  .cases h
theorem EE{o:Option AV}{v:AV}{m:aQ}{n:Nat}(h:bP s o=some (v,m,n)):n=s.nx:=by
 unfold bP at h;split at h
 .cases h;rfl
 .cases h
theorem H4{b:Builtin}{args:List Operand}{ts:List TypeId}{v:AV}{m:aQ}{n:Nat}(h:eU P C s b args ts=some (v,m,n)):n=s.nx\/n=s.nx+1:=by
 unfold eU at h;repeat' (first|(cases h;done)|split at h)
 all_goals first
  | exact .inl (EE h)
  | exact Kt h
  | (cases h;exact .inl rfl)
theorem RT{f:Operand}{args:List Operand}{v:AV}{m:aQ}{n:Nat}(h:Gm P C s f args=some (v,m,n)):n=s.nx:=by
 unfold Gm at h;repeat(split at h<;>first|(cases h;done)|skip)
 cases h;rfl
theorem AE{op:Op}{v:AV}{m:aQ}{n:Nat}(h:c8 P C s op=some (v,m,n)):n=s.nx\/n=s.nx+1:=by
 unfold c8 at h;repeat' (first|(cases h;done)|split at h)
 all_goals first
  | exact .inl (EE h)
  | exact .inr (Eu h)
  | exact .inr (ME h)
  | exact .inr (vJ h)
  | exact .inr (zJ h)
  | exact .inr (Hi h)
  | exact .inr (MO h)
  | exact H4 h
  | exact .inl (RT h)
  | (cases h;exact .inl rfl)
  | (cases h;exact .inr rfl)
  | (cases h;done)
end
end Go.Ax
namespace Go.Ax
open Go
def FW(rd:Option Nat):Fence:={ Fence.wide with round:=rd }
theorem KV{rd:Option Nat}{n:Nat}{P:Program}{f:FuncId}{args:Array Value}{w:World}{R:Ending->World->Prop}:CallsIn (FW rd) n P f args w R↔Calls P f args w R:=callsIn_wide (n:=n)
theorem GY{P:Program}{c:Code}{Q:Exit->Act->World->Prop}{a:Act}{w:World}:c.wpIn (FW none) 0 P Q a w↔c.wp P Q a w:=wpIn_wide
theorem tI{rd:Option Nat}{P:Program}{o:Oper}{a:Act}{w:World}{K:Act->World->Prop}{Q:Exit->Act->World->Prop}(hnd:∀c,o.op≠.defer c){r:Result Next}(h:(execOp a.eval o).run P w=r)(hu:o.uponIn (FW rd) 0 P a K Q r) :
  o.wpIn (FW rd) 0 P a w K Q:=⟨λ_ _=>trivial,by rw[Oper.semAt_eq _ _ _ hnd,h];exact hu⟩
theorem KC{rd:Option Nat}{P:Program}{o:Oper}{a:Act}{w w':World}{K:Act->World->Prop}{Q:Exit->Act->World->Prop}(hnd:∀c,o.op≠.defer c){f:FuncId}{args:Array Value}(h:(execOp a.eval o).run P w = .ok (.enter f args) w')
  (hu:Calls P f args w' fun
   | .returned v,w''=>K (a.put o.dst v) w''
   | .panicked chain,w''=>Q (.panic chain) a w''
   | .outgrown,_=>LetsOut Q):o.wpIn (FW rd) 0 P a w K Q:=
 tI hnd h ⟨λh=>by simp[FW,Fence.wide] at h,KV.2 hu⟩
theorem Ao{P:Program}{C:List (Nat × AV)}{s:St}{op:Op}{x:AV × aQ × Nat}(h:c8 P C s op=some x):∀c,op≠.defer c:=by
 rintro c rfl;simp[c8] at h
def YF:Nat:=1000000007
def CallsZ(P:Program)(F:FuncId)(vs:Array Value)(w:World)(R:Ending->World->Prop):Prop:=
 match Nat.beq F YF with
 | false=>Calls P F vs w R
 | true=>∃(l:Nat) (rest:Array Value) (fn:FuncId) (tmps:Array Value) (ca cb:Code),vs = #[.func (.yield l) #[] #[]]++rest/\(Instr.yield l rest).run P w = .ok (.round l fn tmps ca cb) w/\RoundIn (FW none) 0 P l fn tmps ca cb w R
theorem CallsZ.mono{P:Program}{F:FuncId}{vs:Array Value}{w:World}{R R':Ending->World->Prop}(h:CallsZ P F vs w R)(hr:∀e w',R e w'->R' e w'):CallsZ P F vs w R':=by
 unfold CallsZ at h |-;split at h
 .exact h.mono hr
 .obtain⟨l,rest,fn,tmps,ca,cb,h1,h2,h3⟩:=h;exact⟨l,rest,fn,tmps,ca,cb,h1,h2,h3.mono hr⟩
theorem CallsZ.of{P:Program}{F:FuncId}{vs:Array Value}{w:World}{R:Ending->World->Prop}(hF:Nat.beq F YF=false)(h:Calls P F vs w R):CallsZ P F vs w R:=by
 unfold CallsZ;rw[hF];exact h
theorem CallsZ.calls{P:Program}{F:FuncId}{vs:Array Value}{w:World}{R:Ending->World->Prop}(hF:Nat.beq F YF=false)(h:CallsZ P F vs w R):Calls P F vs w R:=by
 unfold CallsZ at h;rw[hF] at h;exact h
def iM:Code->Bool
 | .seq x y=>match iM x with
  | true=>true
  | false=>iM y
 | .cond _ x y=>match iM x with
  | true=>true
  | false=>iM y
 | .block _ c=>iM c
 | .loop c=>iM c
 | .scope c=>iM c
 | .rangeFunc _ _ _ _=>true
 | _=>false
def Bm(rd:Option Nat)(ds:List Deferred × Nat)(c:Code):Prop:=iM c=true->rd=none/\ds.2≠0
section
variable {rd:Option Nat} {ds:List Deferred × Nat} {x y c:Code}
theorem Bm.seq1(h:Bm rd ds (.seq x y)):Bm rd ds x:=λhx=>h (by simp only[iM,hx])
theorem Bm.seq2(h:Bm rd ds (.seq x y)):Bm rd ds y:=λhx=>h (by simp only[iM,hx];split<;>rfl)
theorem Bm.cond1{o:Operand}(h:Bm rd ds (.cond o x y)):Bm rd ds x:=λhx=>h (by simp only[iM,hx])
theorem Bm.cond2{o:Operand}(h:Bm rd ds (.cond o x y)):Bm rd ds y:=λhx=>h (by simp only[iM,hx];split<;>rfl)
theorem Bm.block{i:Nat}(h:Bm rd ds (.block i c)):Bm rd ds c:=λhx=>h (by simpa only[iM] using hx)
theorem Bm.loop(h:Bm rd ds (.loop c)):Bm rd ds c:=λhx=>h (by simpa only[iM] using hx)
theorem Bm.scope(h:Bm rd ds (.scope c)):Bm rd ds c:=λhx=>h (by simpa only[iM] using hx)
theorem Bm.no(h:iM c=false):Bm rd ds c:=λhx=>by rw[h] at hx;cases hx
end
structure aJ(P:Program)(C:List (Nat × AV))(F:FuncId)(args:List AV)(mem:aQ)(nx:Nat)(Q:AV->aQ->Nat->Prop):Prop where
 run:∀(X:Nat->Prop) (D:Nat->Prop) (E:Nat->dP) (w:World) (vs:List Value),(∀i,D i->i<nx)->MR C X E D mem w->j8 E D (OX X E mem) w args vs ->
  CallsZ P F vs.toArray w λe w'=>∃(r:AV) (v:Value) (mem':aQ) (nx':Nat) (E':Nat->dP),e = .returned v/\Q r mem' nx'/\nx<=nx'/\MR C X E' (dn D nx nx') mem' w' /\
   VR E' (dn D nx nx') (OX X E' mem') w' r v/\Ext D E mem w E' (dn D nx nx') mem' w'
structure eH(P:Program)(C:List (Nat × AV))(B:Nat)(c:Code)(s:St)(Q:Exit->St->Prop):Prop where
 run:∀(rd:Option Nat) (X:Nat->Prop) (ds:List Deferred × Nat) (D:Nat->Prop) (E:Nat->dP) (a:Act) (w:World),(∀i,D i->i<B)->SR C X ds E (dn D B s.nx) s a w->B<=s.nx->Bm rd ds c ->
  c.wpIn (FW rd) 0 P (λe a' w'=>∃(s':St) (E':Nat->dP),Q e s'/\B<=s'.nx/\SR C X ds E' (dn D B s'.nx) s' a' w'/\Ext D E s.mem w E' (dn D B s'.nx) s'.mem w') a w
def pe(x:Value):PanicEntry:={ v:=x,recovered:=false }
structure bV(P:Program)(C:List (Nat × AV))(F:FuncId)(args:List AV)(mem:aQ)(nx:Nat)(Q:AV->aQ->Nat->Prop)(Qp:Value->aQ->Nat->Prop):Prop where
 run:∀(X:Nat->Prop) (D:Nat->Prop) (E:Nat->dP) (w:World) (vs:List Value),(∀i,D i->i<nx)->MR C X E D mem w->j8 E D (OX X E mem) w args vs ->
  CallsZ P F vs.toArray w λe w'=>∃(mem':aQ) (nx':Nat) (E':Nat->dP),nx<=nx'/\MR C X E' (dn D nx nx') mem' w'/\Ext D E mem w E' (dn D nx nx') mem' w' /\
   ((∃(r:AV) (v:Value),e = .returned v/\Q r mem' nx'/\VR E' (dn D nx nx') (OX X E' mem') w' r v)\/(∃x:Value,e = .panicked [pe x]/\Qp x mem' nx'))
theorem aJ.toP{P:Program}{C:List (Nat × AV)}{F:FuncId}{args:List AV}{mem:aQ}{nx:Nat}{Q:AV->aQ->Nat->Prop}{Qp:Value->aQ->Nat->Prop}(h:aJ P C F args mem nx Q):bV P C F args mem nx Q Qp:=
 ⟨λX D E w vs hD hm hv=>(h.run X D E w vs hD hm hv).mono λe w' ⟨r,v,m,n,E',h1,h2,h3,h4,h5,h6⟩=>⟨m,n,E',h3,h4,h6,.inl ⟨r,v,h1,h2,h5⟩⟩⟩
theorem bV.toC{P:Program}{C:List (Nat × AV)}{F:FuncId}{args:List AV}{mem:aQ}{nx:Nat}{Q:AV->aQ->Nat->Prop}{Qp:Value->aQ->Nat->Prop}(h:bV P C F args mem nx Q Qp)(hp:∀x m n,¬Qp x m n):aJ P C F args mem nx Q:=
 ⟨λX D E w vs hD hm hv=>(h.run X D E w vs hD hm hv).mono λe w' ⟨m,n,E',h3,h4,h6,h⟩=>by
  rcases h with⟨r,v,h1,h2,h5⟩|⟨x,_,h2⟩
  .exact⟨r,v,m,n,E',h1,h2,h3,h4,h5,h6⟩
  .exact(hp _ _ _ h2).elim⟩
theorem bV.mono{P:Program}{C:List (Nat × AV)}{F:FuncId}{args:List AV}{mem:aQ}{nx:Nat}{Q Q':AV->aQ->Nat->Prop}{Qp Qp':Value->aQ->Nat->Prop}(h:bV P C F args mem nx Q Qp)
  (hq:∀r m n,Q r m n->Q' r m n) (hp:∀x m n,Qp x m n->Qp' x m n):bV P C F args mem nx Q' Qp':=
 ⟨λX D E w vs hD hm hv=>(h.run X D E w vs hD hm hv).mono λe w' ⟨m,n,E',h3,h4,h6,h⟩=>
  ⟨m,n,E',h3,h4,h6,h.imp (λ⟨r,v,h1,h2,h5⟩=>⟨r,v,h1,hq _ _ _ h2,h5⟩) (λ⟨x,h1,h2⟩=>⟨x,h1,hp _ _ _ h2⟩)⟩⟩
theorem aJ.mono{P:Program}{C:List (Nat × AV)}{F:FuncId}{args:List AV}{mem:aQ}{nx:Nat}{Q Q':AV->aQ->Nat->Prop}(h:aJ P C F args mem nx Q)
  (hq:∀r m n,Q r m n->Q' r m n):aJ P C F args mem nx Q':=
 ⟨λX D E w vs hD hm hv=>(h.run X D E w vs hD hm hv).mono λe w' ⟨r,v,m,n,E',h1,h2,h3⟩=>⟨r,v,m,n,E',h1,hq _ _ _ h2,h3⟩⟩
theorem eH.mono{P:Program}{C:List (Nat × AV)}{B:Nat}{c:Code}{s:St}{Q Q':Exit->St->Prop}(h:eH P C B c s Q)(hq:∀e s,Q e s->Q' e s):eH P C B c s Q':=
 ⟨λrd X ds D E a w hD hs hB hr=>wpIn_mono (h.run rd X ds D E a w hD hs hB hr) λe a' w' ⟨s',E',h1,h2⟩=>⟨s',E',hq _ _ h1,h2⟩⟩
theorem Ext.own{A:Nat->Prop}{D':Nat->Prop}{E E':Nat->dP}{mem mem':aQ}{w w':World}{X:Nat->Prop}(h:Ext A E mem w E' D' mem' w') :
  ∀b,b<w.heap.size->¬OX X E mem b->¬OX X E' mem' b/\w'.heap[b]? = w.heap[b]? := by
 intro b hb ho;refine⟨?_,h.keep b hb (λh'=>ho (.inr h'))⟩;rintro(h'|⟨p,hp,hn,rfl⟩)
 .exact ho (.inl h')
 .rcases h.fresh p hp hn with h1|h1
  .exact ho (.inr h1)
  .omega
theorem Ext.vr{D D':Nat->Prop}{E E':Nat->dP}{mem mem':aQ}{w w':World}{X:Nat->Prop}(h:Ext D E mem w E' D' mem' w'){v:AV}{x:Value}(hv:VR E D (OX X E mem) w v x) :
  VR E' D' (OX X E' mem') w' v x:=hv.mono h.agree h.le h.own
theorem Ext.mks{A D':Nat->Prop}{E E':Nat->dP}{mem mem':aQ}{w w':World}{X:Nat->Prop}(h:Ext A E mem w E' D' mem' w'){ds:List Deferred × Nat}{dd:List Deferred}(hk:FX (OX X E mem) w ds dd) :
  FX (OX X E' mem') w' ds dd:=hk.at h.size h.own
theorem Ext.sub{A A' D':Nat->Prop}{E E':Nat->dP}{mem mem':aQ}{w w':World}(h:Ext A E mem w E' D' mem' w')(hA:∀i,A' i->A i):Ext A' E mem w E' D' mem' w':=
 ⟨λi hi=>h.le i (hA i hi),λi hi=>h.agree i (hA i hi),h.size,h.keep,h.fresh,h.env⟩
theorem CS{D:Nat->Prop}{B n n':Nat}(h:n<=n'):∀i,dn D B n i->dn D B n' i:=by
 rintro i (h1|⟨h1,h2⟩)
 .exact .inl h1
 .exact .inr ⟨h1,om⟩
theorem z7{D:Nat->Prop}{B n:Nat}(hD:∀i,D i->i<B)(hB:B<=n):∀i,dn D B n i->i<n:=by
 rintro i (h1|⟨h1,h2⟩)
 .have:=hD i h1;omega
 .exact h2
theorem xJ{D:Nat->Prop}{B n n':Nat}(hB:B<=n)(hn:n<=n'):∀i,dn (dn D B n) n n' i->dn D B n' i:=by
 rintro i ((h1|⟨h1,h2⟩)|⟨h1,h2⟩)
 .exact .inl h1
 .exact .inr ⟨h1,om⟩
 .exact .inr ⟨om,h2⟩
theorem Ext.wide{A D D':Nat->Prop}{E E':Nat->dP}{mem mem':aQ}{w w':World}(h:Ext A E mem w E' D mem' w')(hD:∀i,D i->D' i):Ext A E mem w E' D' mem' w':=
 ⟨λi hi=>hD i (h.le i hi),h.agree,h.size,h.keep,h.fresh,h.env⟩
def eY(s:St)(d:Option Nat)(v:AV)(mem:aQ)(nx:Nat):Option St:=
 match d with
 | none=>some { s with mem:=mem,nx:=nx }
 | some d=>match Nat.blt d s.nt with
  | true=>some { s with sl:=up s.sl d v,mem:=mem,nx:=nx }
  | false=>none
theorem gW{C:List (Nat × AV)}{X:Nat->Prop}{ds:List Deferred × Nat}{E E':Nat->dP}{s s':St}{a:Act}{w w':World}{d:Option Nat}{v:AV}{x:Value}{mem:aQ}{nx:Nat}
  {D D':Nat->Prop} (h:eY s d v mem nx=some s') (hs:SR C X ds E D s a w) (hm:MR C X E' D' mem w') (hv:VR E' D' (OX X E' mem) w' v x) (hk:FX (OX X E s.mem) w ds a.defers->FX (OX X E' mem) w' ds a.defers)
  (hmono:∀u y,VR E D (OX X E s.mem) w u y->VR E' D' (OX X E' mem) w' u y):SR C X ds E' D' s' (a.put d x) w'/\s'.mem=mem/\s'.nx=nx:=by
 unfold eY at h;split at h
 .cases h;exact⟨⟨hm,hk hs.def0,hs.size,λi u hi=>hmono _ _ (hs.slot i u hi)⟩,rfl,rfl⟩
 .rename_i d';split at h
  .rename_i hlt;have hlt:d'<s.nt:=Y5 hlt;cases h;refine⟨⟨hm,by simpa[Act.put] using hk hs.def0,by simpa[Act.put] using hs.size,λi u hi=>?_⟩,rfl,rfl⟩;simp only[HZ] at hi;have hsz:=hs.size;by_cases hid:i=d'
   .subst hid;rw[Y4 rfl] at hi;cases hi;have hlt':i<a.tmps.size:=om;simpa[Act.put,hlt'] using hv
   .rw[Yz hid] at hi;have:=hmono _ _ (hs.slot i u hi);have e:(a.put (some d') x).tmps.getD i undef=a.tmps.getD i undef:=by
     simp[Act.put,aAh (Ne.symm hid)]
    rw[e];exact this
  .cases h
def mQ(ops:List Oper)(s:St)(g:Option (Nat × Bool)):Option Bool:=
 match g with
 | none=>some true
 | some (j,want)=>match ops[j]? with
  | none=>some false
  | some o=>match o.dst with
   | none=>some false
   | some d=>match lk s.sl d with
    | some (.bool b)=>match want with
     | true=>some b
     | false=>some (!b)
    | some (.tup [])=>some false
    | _=>none
theorem iO{C:List (Nat × AV)}{X:Nat->Prop}{ds:List Deferred × Nat}{E:Nat->dP}{s:St}{a:Act}{w:World}{D:Nat->Prop}{ops:List Oper}{o:Oper}{b:Bool}(hs:SR C X ds E D s a w)(h:mQ ops s o.guard=some b) :
  Region.wanted o (yielded ops.toArray a.tmps)=b:=by
 unfold mQ at h;split at h
 .rename_i hg;cases h;simp[Region.wanted,hg]
 .rename_i j want hg;split at h
  .rename_i hj;cases h;simp[Region.wanted,hg,yielded,hj]
  .rename_i oj hj;split at h
   .rename_i hd;cases h;simp[Region.wanted,hg,yielded,hj,hd]
   .rename_i d hd;have key:∀v,lk s.sl d=some v->∀x,VR E D (OX X E s.mem) w v x->True:=λ_ _ _ _=>trivial
    split at h
    .rename_i bb hl;have hv:=hs.slot d _ hl;generalize hx:a.tmps.getD d undef=x at hv;cases hv;have hget:a.tmps[d]? = some (.bool bb):=by
      rcases ZG d a.tmps.size with hlt|hge
      .simpa[hlt] using hx
      .simp[Array.getD,Nat.not_lt.2 hge,undef] at hx
     split at h
     .cases h;simp[Region.wanted,hg,yielded,hj,hd,hget]
     .cases h;simp[Region.wanted,hg,yielded,hj,hd,hget]
    .rename_i hl;cases h;have hv:=hs.slot d _ hl;generalize hx:a.tmps.getD d undef=x at hv;cases hv with
     | tup _ arr hsz _=>
      have harr:arr = #[]:=by simp at hsz;exact aAF hsz.symm
      subst harr;have hget:a.tmps[d]? = some (.tuple #[])\/a.tmps[d]? = none:=by
       rcases ZG d a.tmps.size with hlt|hge
       .left;simpa[hlt] using hx
       .right;simp[hge]
      rcases hget with hget|hget<;>simp[Region.wanted,hg,yielded,hj,hd,hget]
    .cases h
def pD(P:Program)(C:List (Nat × AV))(s:St)(op:Op):Option (FuncId × List AV):=
 match op with
 | .call c=>match c.callee with
  | .value f=>match ev C s f with
   | some (.fn (.func F) first cap)=>match B6 C s c.args.toList with
    | some args=>match P.funcs[F]? with
     | some fn=>match fn.body with
      | some _=>match fn.name == "runtime.NumGoroutine" with
       | false=>match Nat.beq F YF with
        | false=>some (F,first++args++cap)
        | true=>none
       | true=>none
      | none=>none
     | none=>none
    | none=>none
   | some (.yld id)=>match B6 C s c.args.toList with
    | some args=>some (YF,.yld id::args)
    | none=>none
   | _=>none
  | _=>none
 | _=>none
def Pw(P:Program)(F:FuncId)(vs:List Value)(w:World)(r:Result Next):Prop:=
 (Nat.beq F YF=false/\r = .ok (.enter F vs.toArray) w)\/(Nat.beq F YF=true/\∃(l:Nat) (rest:List Value),vs = .func (.yield l) #[] #[]::rest/\r=(Instr.yield l rest.toArray).run P w)
theorem By{P:Program}{C:List (Nat × AV)}{X:Nat->Prop}{ds:List Deferred × Nat}{E:Nat->dP}{s:St}{a:Act}{w:World}{D:Nat->Prop}(hs:SR C X ds E D s a w)(o:Oper){F:FuncId}{args:List AV}
  (h:pD P C s o.op=some (F,args)):∃vs:List Value,Pw P F vs w ((execOp a.eval o).run P w)/\j8 E D (OX X E s.mem) w args vs:=by
 unfold pD at h;split at h
 .rename_i c hop;split at h
  .rename_i f hc;split at h
   .rename_i F' first cap hf
    split at h
    .rename_i as has;split at h
     .rename_i fn hfn;split at h
      .rename_i body hbody;split at h
       .rename_i hname;split at h
        .rename_i hF;cases h;have hv:=aZ hs hf;generalize he:a.eval f=fv at hv;cases hv with
         | fn _ _ _ a1 a2 l1 l2 r1 r2=>
          have hargs:=iB hs has;refine⟨a1.toList++(c.args.toList.map a.eval)++a2.toList,.inl ⟨hF, ?_⟩, ?_⟩
          .have hname':¬fn.name = "runtime.NumGoroutine" :=su hname
           simp[execOp,hop,resolve,hc,he,Deferred.ofValue,invoke,callFunc,hfn,hbody,hname']
          .refine(j8.append (j8.append ⟨su l1,λj c x h1 h2=>r1 j c x h1 (su h2)⟩ hargs) ⟨su l2,λj c x h1 h2=>r2 j c x h1 (su h2)⟩)
        .cases h
       .cases h
      .cases h
     .cases h
    .cases h
   .rename_i id hf;split at h
    .rename_i as has;cases h;have hv:=aZ hs hf;generalize he:a.eval f=fv at hv;cases hv with
     | yld _ hid=>
      have hargs:=iB hs has;refine⟨.func (.yield (E id).b) #[] #[]::c.args.toList.map a.eval,.inr ⟨rfl,_,_,rfl, ?_⟩,.cons (.yld id hid) hargs⟩;rw[show (c.args.toList.map a.eval).toArray=c.args.map a.eval from by rw[<-Array.toList_map]];simp[execOp,hop,resolve,hc,he,Deferred.ofValue,invoke]
    .cases h
   .cases h
  .cases h
 .cases h
theorem FS{rd:Option Nat}{P:Program}{o:Oper}{a:Act}{w:World}{K:Act->World->Prop}{Q:Exit->Act->World->Prop}(hnd:∀c,o.op≠.defer c){F:FuncId}{vs:List Value}(h:Pw P F vs w ((execOp a.eval o).run P w))
  (hu:CallsZ P F vs.toArray w fun
   | .returned v,w''=>K (a.put o.dst v) w''
   | .panicked chain,w''=>Q (.panic chain) a w''
   | .outgrown,_=>LetsOut Q):o.wpIn (FW rd) 0 P a w K Q:=by
 rcases h with⟨hF,h⟩|⟨hF,l,rest,rfl,h⟩
 .exact KC hnd h (hu.calls hF)
 .unfold CallsZ at hu;rw[hF] at hu;obtain⟨l',rest',fn,tmps,ca,cb,h1,h2,h3⟩:=hu;have e:l'=l/\rest'=rest.toArray:=by
   obtain⟨r'⟩:=rest';simp only[List.append_toArray,Zo,Zi,Array.mk.injEq,List.cons.injEq] at h1;obtain⟨a1,a2⟩:=h1;simp at a1;exact⟨a1.symm,by rw[a2]⟩
  obtain⟨rfl,rfl⟩:=e;exact tI hnd (h.trans h2) ⟨λh=>by simp[FW,Fence.wide] at h,h3⟩
theorem Ip{P:Program}{C:List (Nat × AV)}{s:St}{op:Op}{x:FuncId × List AV}(h:pD P C s op=some x):∀c,op≠.defer c:=by
 rintro c rfl;simp[pD] at h
def M8:List AV->Option (List Value)
 | []=>some []
 | .int k n::r=>match M8 r with
  | some l=>some (.int k n::l)
  | none=>none
 | .bool b::r=>match M8 r with
  | some l=>some (.bool b::l)
  | none=>none
 | _=>none
def quo:AV->Option Value
 | .ifc t (.agg cs)=>match M8 cs with
  | some l=>some (.iface t (.agg l.toArray))
  | none=>none
 | _=>none
theorem Cm{E:Nat->dP}{D:Nat->Prop}{O:Nat->Prop}{w:World}:∀{cs:List AV} {l xs:List Value},M8 cs=some l->j8 E D O w cs xs->xs=l
 | [],l,xs,h,hv=>by
  simp only[M8] at h;cases h;have:=hv.1;simp at this;exact ZB this.symm
 | c::r,l,xs,h,hv=>by
  match xs,hv with
  | [],hv=>have:=hv.1;simp at this
  | x::xs,hv=>
   have h0:=hv.2 0 _ _ rfl rfl;have hr:j8 E D O w r xs:=⟨by have:=hv.1;simpa using this,λj c x h1 h2=>hv.2 (j+1) c x (su h1) (su h2)⟩
   cases c<;>simp only[M8] at h<;>first|(cases h;done)|skip
   all_goals
    split at h
    .rename_i l' hl;cases h;cases h0;rw[Cm hl hr]
    .cases h
theorem Ma{E:Nat->dP}{D:Nat->Prop}{O:Nat->Prop}{w:World}{v:AV}{x y:Value}(h:quo v=some x)(hv:VR E D O w v y):y=x/\∃t z,x = .iface t z:=by
 unfold quo at h;split at h
 .rename_i t cs;split at h
  .rename_i l hl;cases h;cases hv with
   | ifc _ _ z hz=>
    cases hz with
    | agg _ arr h1 h2 h3=>
     have:arr.toList=l:=Cm hl ⟨su h1,λj c x k1 k2=>h3 j c x k1 (su k2)⟩;refine⟨?_,_,_,rfl⟩;rw[<-this]
  .cases h
 .cases h
def J7(C:List (Nat × AV))(s:St)(op:Op):Option Value:=
 match op with
 | .panic x=>match ev C s x with
  | some v=>quo v
  | none=>none
 | _=>none
theorem KS{P:Program}{C:List (Nat × AV)}{X:Nat->Prop}{ds:List Deferred × Nat}{E:Nat->dP}{s:St}{a:Act}{w:World}{D:Nat->Prop}(hs:SR C X ds E D s a w)(o:Oper){x:Value}(h:J7 C s o.op=some x) :
  (execOp a.eval o).run P w = .halt (.panic x) w:=by
 unfold J7 at h;split at h
 .rename_i y hop;split at h
  .rename_i v hv;obtain⟨h1,t,z,h2⟩:=Ma h (aZ hs hv);rw[h2] at h1;simp only[execOp,hop,h1,h2,Instr.panic,goPanic];rfl
  .cases h
 .cases h
theorem Sa{C:List (Nat × AV)}{s:St}{op:Op}{x:Value}(h:J7 C s op=some x):∀c,op≠.defer c:=by
 rintro c rfl;simp[J7] at h
structure Hk where
 call:FuncId->List AV->aQ->Nat->(AV->aQ->Nat->Prop)->(Value->aQ->Nat->Prop)->Prop
 loop:Code->St->(Exit->St->Prop)->Prop
def xA(P:Program)(C:List (Nat × AV))(H:Hk)(ops:List Oper):List Oper->St->(St->Prop)->(Value->St->Prop)->Prop
 | [],s,K,_=>K s
 | o::r,s,K,Kp=>match mQ ops s o.guard with
  | none=>False
  | some false=>match eY s o.dst (.tup []) s.mem s.nx with
   | some s'=>xA P C H ops r s' K Kp
   | none=>False
  | some true=>match c8 P C s o.op with
   | some (v,mem,nx)=>match eY s o.dst v mem nx with
    | some s'=>xA P C H ops r s' K Kp
    | none=>False
   | none=>match pD P C s o.op with
    | some (F,args)=>H.call F args s.mem s.nx (λv mem nx=>match eY s o.dst v mem nx with
     | some s'=>xA P C H ops r s' K Kp
     | none=>False) λx mem nx=>Kp x { s with mem:=mem,nx:=nx }
    | none=>match J7 C s o.op with
     | some x=>Kp x s
     | none=>False
structure zL(P:Program)(C:List (Nat × AV))(B:Nat)(H:Hk):Prop where
 call:∀F args mem nx K Kp,H.call F args mem nx K Kp->bV P C F args mem nx K Kp
 loop:∀c s Q,H.loop c s Q->eH P C B (.loop c) s Q
theorem vW{E:Nat->dP}{D:Nat->Prop}{O:Nat->Prop}{w:World}:VR E D O w (.tup []) undef:=.tup [] #[] rfl sq
theorem s9{P:Program}{C:List (Nat × AV)}{H:Hk}{B:Nat}(hH:zL P C B H)(ops:List Oper):∀(l:List Oper) (s:St) (K:St->Prop) (Kp:Value->St->Prop),xA P C H ops l s K Kp ->
  ∀(rd:Option Nat) (X:Nat->Prop) (ds:List Deferred × Nat) (D:Nat->Prop) (E:Nat->dP) (a:Act) (w:World) (Q:Exit->Act->World->Prop),(∀i,D i->i<B)->SR C X ds E (dn D B s.nx) s a w->B<=s.nx ->
   (∀(s':St) (E':Nat->dP) (a':Act) (w':World),K s'->B<=s'.nx->SR C X ds E' (dn D B s'.nx) s' a' w'->Ext D E s.mem w E' (dn D B s'.nx) s'.mem w'->Q .normal a' w') ->
   (∀(x:Value) (s':St) (E':Nat->dP) (a':Act) (w':World),Kp x s'->B<=s'.nx->SR C X ds E' (dn D B s'.nx) s' a' w'->Ext D E s.mem w E' (dn D B s'.nx) s'.mem w'->Q (.panic [pe x]) a' w')->wpListIn (FW rd) 0 P ops.toArray Q l a w
 | [],s,K,Kp,h,rd,X,ds,D,E,a,w,Q,hD,hs,hB,hQ,hP=>wpListIn_nil (hQ s E a w h hB hs (Ext.refl λi hi=>.inl hi))
 | o::r,s,K,Kp,h,rd,X,ds,D,E,a,w,Q,hD,hs,hB,hQ,hP=>by
  simp only[xA] at h;refine wpListIn_step λK' hK'=>?_
  split at h
  .exact h.elim
  .rename_i hw;rw[iO hs hw];simp only[aAl,if_false];split at h
   .rename_i s' hst;obtain⟨h1,h2,h3⟩:=gW hst hs hs.mr vW (λh=>h) (λ_ _ h=>h);refine⟨λ_ _=>trivial, ?_⟩;refine hK' _ _ (s9 hH ops r s' K Kp h rd X ds D E _ w Q hD (by rw[h3];exact h1) om (λs2 ρ2 a2 w2 k1 k2 k3 k4=>hQ s2 ρ2 a2 w2 k1 k2 k3 (by rw[<-h2];exact k4)) λx s2 ρ2 a2 w2 k1 k2 k3 k4=>hP x s2 ρ2 a2 w2 k1 k2 k3 (by rw[<-h2];exact k4))
   .exact h.elim
  .rename_i hw;rw[iO hs hw];simp only[if_true];split at h
   .rename_i v mem nx hstep;split at h
    .rename_i s' hst;have hnx:s.nx<=nx:=by rcases AE hstep with h'|h'<;>omega
     obtain⟨x,n,w',E',e1,e2,m1,v1,mono1,ext1⟩:=n9 (P:=P) (D:=dn D B s.nx) (D':=dn D B nx) (λh'=>aBc _ (z7 hD hB _ h')) (CS hnx) hs o (λe=>.inr ⟨hB,om⟩) hstep;obtain⟨h1,h2,h3⟩:=gW hst hs m1 v1 (ext1 _ λi hi=>hi).mks mono1;have fin:K' (a.put o.dst x) w':=by
      refine hK' _ _ (s9 hH ops r s' K Kp h rd X ds D E' _ w' Q hD (by rw[h3];exact h1) (by rw[h3];exact Zj hB hnx) (λs2 ρ2 a2 w2 k1 k2 k3 k4=>hQ s2 ρ2 a2 w2 k1 k2 k3 ((ext1 D λi hi=>.inl hi).trans (by rw[<-h2];exact k4))) λx s2 ρ2 a2 w2 k1 k2 k3 k4=>hP x s2 ρ2 a2 w2 k1 k2 k3 ((ext1 D λi hi=>.inl hi).trans (by rw[<-h2];exact k4)))
     refine tI (Ao hstep) e1 ?_;rcases e2 with rfl|⟨rfl,rfl⟩
     .exact fin
     .exact fin
    .exact h.elim
   .split at h
    .rename_i F args hcall;obtain⟨vs,e1,hvs⟩:=By (P:=P) hs o hcall;refine FS (Ip hcall) e1 ?_;refine((hH.call _ _ _ _ _ _ h).run X (dn D B s.nx) E w vs (z7 hD hB) hs.mr hvs).mono ?_;rintro e w' ⟨mem',nx',E',hnx,m1,ext1,(⟨rv,v,rfl,hq,v1⟩|⟨x,rfl,hq⟩)⟩
     .split at hq
      .rename_i s' hst;obtain⟨m2,mono2,_⟩:=m1.widen (xJ hB hnx);obtain⟨h1,h2,h3⟩:=gW hst hs m2 (mono2 _ _ v1) ext1.mks (λu y hu=>mono2 _ _ (ext1.vr hu));have ext2:Ext D E s.mem w E' (dn D B nx') mem' w':=(ext1.sub λi hi=>.inl hi).wide (xJ hB hnx);refine hK' _ _ (s9 hH ops r s' K Kp hq rd X ds D E' _ w' Q hD (by rw[h3];exact h1) (by rw[h3];exact Zj hB hnx) (λs2 ρ2 a2 w2 k1 k2 k3 k4=>hQ s2 ρ2 a2 w2 k1 k2 k3 (ext2.trans (by rw[<-h2];exact k4))) λx s2 ρ2 a2 w2 k1 k2 k3 k4=>hP x s2 ρ2 a2 w2 k1 k2 k3 (ext2.trans (by rw[<-h2];exact k4)))
      .exact hq.elim
     .obtain⟨m2,mono2,_⟩:=m1.widen (xJ hB hnx);have ext2:Ext D E s.mem w E' (dn D B nx') mem' w':=(ext1.sub λi hi=>.inl hi).wide (xJ hB hnx);exact hP x _ E' a w' hq (Zj hB hnx) ⟨m2,ext1.mks hs.def0,hs.size,λi u hi=>mono2 _ _ (ext1.vr (hs.slot i u hi))⟩ ext2
    .split at h
     .rename_i x hpan;refine tI (Sa hpan) (KS (P:=P) hs o hpan) ?_;exact hP x s E a w h hB hs (Ext.refl λi hi=>.inl hi)
     .exact h.elim
end Go.Ax
namespace Go.Ax
open Go
section
variable {C:List (Nat × AV)} {X:Nat->Prop} {E E':Nat->dP} {D D':Nat->Prop} {mem m1 m1' rest rest':aQ} {w w':World}
def XR(X:Nat->Prop)(E:Nat->dP)(rest:aQ):Nat->Prop:=λb=>X b\/own E rest b
structure uT(mem m1 rest:aQ):Prop where
 sub1:∀p∈m1,p∈mem
 subr:∀p∈rest,p∈mem
 all:∀p∈mem,p∈m1\/p∈rest
 dis:∀p∈m1,∀q∈rest,p.1≠q.1
 nod1:(m1.map (·.1)).Nodup
theorem uT.own(hp:uT mem m1 rest)(b:Nat):OX (XR X E rest) E m1 b↔OX X E mem b:=by
 constructor
 .rintro((h|⟨p,hp',hn,e⟩)|⟨p,hp',hn,e⟩)
  .exact .inl h
  .exact .inr ⟨p,hp.subr p hp',hn,e⟩
  .exact .inr ⟨p,hp.sub1 p hp',hn,e⟩
 .rintro(h|⟨p,hp',hn,e⟩)
  .exact .inl (.inl h)
  .rcases hp.all p hp' with h|h
   .exact .inr ⟨p,h,hn,e⟩
   .exact .inl (.inr ⟨p,h,hn,e⟩)
theorem uT.mks(hp:uT mem m1 rest){ds:List Deferred × Nat}{dd:List Deferred}(h:FX (OX X E mem) w ds dd):FX (OX (XR X E rest) E m1) w ds dd:=
 h.at (Y8 _) λb _ ho=>⟨λh'=>ho ((hp.own b).1 h'),rfl⟩
theorem MR.part(hm:MR C X E D mem w)(hp:uT mem m1 rest) :
  MR C (XR X E rest) E D m1 w/\(∀v x,VR E D (OX X E mem) w v x->VR E D (OX (XR X E rest) E m1) w v x):=by
 have hk:∀b,b<w.heap.size->¬OX X E mem b->¬OX (XR X E rest) E m1 b/\w.heap[b]? = w.heap[b]? := λb _ ho=>⟨λh=>ho ((hp.own b).1 h),rfl⟩
 have hmono:∀v x,VR E D (OX X E mem) w v x->VR E D (OX (XR X E rest) E m1) w v x:=λv x h=>h.mono (λ_ _=>rfl) (λ_ h=>h) hk
 refine⟨⟨λp h=>hm.low p (hp.sub1 p h),λp h hn=>?_,λp h=>hm.emp p (hp.sub1 p h),λp h q h'=>hm.inj p (hp.sub1 p h) q (hp.sub1 q h'),hp.nod1, ?_,λp h=>hmono _ _ (hm.glo p h)⟩,hmono⟩
 .obtain⟨o,ho,hb⟩:=hm.blk p (hp.sub1 p h) hn;exact⟨o,ho,hb.mono (λ_ _=>rfl) (λ_ h=>h) hk⟩
 .rintro b (h|⟨q,hq,hn,e⟩)
  .exact⟨(hm.bar b h).1,λ⟨p,hp',hn,e⟩=>(hm.bar b h).2 ⟨p,hp.sub1 p hp',hn,e⟩⟩
  .refine⟨oH hm (.inr ⟨q,hp.subr q hq,hn,e⟩),λ⟨p,hp',hn',e'⟩=>hp.dis p hp' q hq ?_⟩;exact hm.inj p (hp.sub1 p hp') q (hp.subr q hq) hn' hn (e'.trans e.symm)
theorem MR.join(hm:MR C X E D mem w)(hp:uT mem m1 rest)(h':MR C (XR X E rest) E' D' m1' w')(ext:Ext D E m1 w E' D' m1' w')
  (hsub:∀p∈rest',p∈rest) (hdis:∀p∈m1',∀q∈rest',p.1≠q.1) (hnod:(rest'.map (·.1)).Nodup) :
  MR C X E' D' (m1'++rest') w'/\(∀v x,VR E' D' (OX (XR X E rest) E' m1') w' v x->VR E' D' (OX X E' (m1'++rest')) w' v x) /\
  (∀v x,VR E D (OX X E mem) w v x->VR E' D' (OX X E' (m1'++rest')) w' v x)/\∀A:Nat->Prop,(∀i,A i->D i)->Ext A E mem w E' D' (m1'++rest') w':=by
 have hρ:∀q∈rest,E' q.1=E q.1:=λq hq=>ext.agree _ (hm.low q (hp.subr q hq))
 have hown':∀b,OX X E' (m1'++rest') b->OX (XR X E rest) E' m1' b:=by
  rintro b (h|⟨p,hp',hn,e⟩)
  .exact .inl (.inl h)
  .rcases ZI.1 hp' with h|h
   .exact .inr ⟨p,h,hn,e⟩
   .rw[hρ p (hsub p h)] at hn e;exact .inl (.inr ⟨p,hsub p h,hn,e⟩)
 have hk':∀b,b<w'.heap.size->¬OX (XR X E rest) E' m1' b->¬OX X E' (m1'++rest') b/\w'.heap[b]? = w'.heap[b]? := λb _ ho=>⟨λh=>ho (hown' b h),rfl⟩
 have hmono':∀v x,VR E' D' (OX (XR X E rest) E' m1') w' v x->VR E' D' (OX X E' (m1'++rest')) w' v x:=λv x h=>h.mono (λ_ _=>rfl) (λ_ h=>h) hk'
 have hk:∀b,b<w.heap.size->¬OX X E mem b->¬OX X E' (m1'++rest') b/\w'.heap[b]? = w.heap[b]? := by
  intro b hb ho;have ho1:¬OX (XR X E rest) E m1 b:=λh=>ho ((hp.own b).1 h)
  obtain⟨h1,h2⟩:=ext.own (X:=XR X E rest) b hb ho1;exact⟨λh=>h1 (hown' b h),h2⟩
 have hmono:∀v x,VR E D (OX X E mem) w v x->VR E' D' (OX X E' (m1'++rest')) w' v x:=λv x h=>h.mono ext.agree ext.le hk
 have hheap:∀q∈rest,0<(E q.1).n->w'.heap[(E q.1).b]? = w.heap[(E q.1).b]? := by
  intro q hq hn;refine ext.keep _ (oH hm (.inr ⟨q,hp.subr q hq,hn,rfl⟩)) ?_;rintro⟨p,hp',hn',e⟩;exact hp.dis p hp' q hq (hm.inj p (hp.sub1 p hp') q (hp.subr q hq) hn' hn e)
 refine⟨⟨?_, ?_, ?_, ?_, ?_, ?_,λp h=>hmono' _ _ (h'.glo p h)⟩,hmono',hmono,λA hA=>⟨λi hi=>ext.le i (hA i hi),λi hi=>ext.agree i (hA i hi),ext.size,λb hb ho=>?_, ?_,ext.env⟩⟩
 .intro p h;rcases ZI.1 h with h|h
  .exact h'.low p h
  .exact ext.le _ (hm.low p (hp.subr p (hsub p h)))
 .intro p h hn;rcases ZI.1 h with h|h
  .obtain⟨o,ho,hb⟩:=h'.blk p h hn;exact⟨o,ho,hb.mono (λ_ _=>rfl) (λ_ h=>h) hk'⟩
  .rw[hρ p (hsub p h)] at hn |-;obtain⟨o,ho,hb⟩:=hm.blk p (hp.subr p (hsub p h)) hn;exact⟨o,by rw[hheap p (hsub p h) hn];exact ho,hb.mono ext.agree ext.le hk⟩
 .intro p h hn;rcases ZI.1 h with h|h
  .exact h'.emp p h hn
  .rw[hρ p (hsub p h)] at hn |-;exact hm.emp p (hp.subr p (hsub p h)) hn
 .intro p h q hq hpn hqn e;rcases ZI.1 h with h|h<;>rcases ZI.1 hq with hq|hq
  .exact h'.inj p h q hq hpn hqn e
  .exfalso;rw[hρ q (hsub q hq)] at hqn e;exact(h'.bar _ (.inr ⟨q,hsub q hq,hqn,rfl⟩)).2 ⟨p,h,hpn,e⟩
  .exfalso;rw[hρ p (hsub p h)] at hpn e;exact(h'.bar _ (.inr ⟨p,hsub p h,hpn,rfl⟩)).2 ⟨q,hq,hqn,e.symm⟩
  .rw[hρ p (hsub p h)] at hpn e;rw[hρ q (hsub q hq)] at hqn e;exact hm.inj p (hp.subr p (hsub p h)) q (hp.subr q (hsub q hq)) hpn hqn e
 .rw[aAQ,aBk];refine⟨h'.nod,hnod,λx hx y hy=>?_⟩;obtain⟨p,hp',rfl⟩:=ZL.1 hx;obtain⟨q,hq,rfl⟩:=ZL.1 hy;exact hdis p hp' q hq
 .intro b hb;obtain⟨h1,h2⟩:=h'.bar b (.inl hb);refine⟨h1, ?_⟩;rintro⟨p,h,hn,e⟩;rcases ZI.1 h with h|h
  .exact h2 ⟨p,h,hn,e⟩
  .rw[hρ p (hsub p h)] at hn e;exact(hm.bar b hb).2 ⟨p,hp.subr p (hsub p h),hn,e⟩
 .refine ext.keep b hb (λ⟨p,h,hn,e⟩=>ho ⟨p,hp.sub1 p h,hn,e⟩)
 .intro p h hn;rcases ZI.1 h with h|h
  .rcases ext.fresh p h hn with⟨q,hq,hqn,e⟩|h1
   .exact .inl ⟨q,hp.sub1 q hq,hqn,e⟩
   .exact .inr h1
  .rw[hρ p (hsub p h)] at hn |-;exact .inl ⟨p,hp.subr p (hsub p h),hn,rfl⟩
end
end Go.Ax
namespace Go.Ax
open Go
inductive NN:AV->Prop
 | bool (b:Bool):NN (.bool b)
 | int (k:IntKind) (n:Int):NN (.int k n)
 | str (s:List UInt8):NN (.str s)
 | nptr:NN .nptr
 | nsl:NN .nsl
 | nmap:NN .nmap
 | nfn:NN .nfn
 | nif:NN .nif
 | junk:NN .junk
 | ip (v:AV):(∀(j:Nat) (c:AV),v.cells[j]? = some c->NN c)->NN (.ip v)
 | il (sz:Nat) (xs:List AV):(∀(i:Nat) (x:AV) (j:Nat) (c:AV),xs[i]? = some x->x.cells[j]? = some c->NN c)->NN (.il sz xs)
 | fn (f:Fn) (a b:List AV):(∀(j:Nat) (c:AV),a[j]? = some c->NN c)->(∀(j:Nat) (c:AV),b[j]? = some c->NN c)->NN (.fn f a b)
 | ifc (t:TypeId) (v:AV):NN v->NN (.ifc t v)
 | agg (cs:List AV):(∀(j:Nat) (c:AV),cs[j]? = some c->NN c)->NN (.agg cs)
 | tup (cs:List AV):(∀(j:Nat) (c:AV),cs[j]? = some c->NN c)->NN (.tup cs)
theorem NN.vr{E E':Nat->dP}{D D' O O':Nat->Prop}{w:World}{v:AV}{x:Value}(h:VR E D O w v x)(hO:∀b,b<w.heap.size->¬O b->¬O' b)(hn:NN v):VR E' D' O' w v x:=by
 induction h with
 | bool=>exact .bool _
 | int=>exact .int _ _
 | str=>exact .str _
 | nptr=>exact .nptr
 | nsl=>exact .nsl
 | nmap=>exact .nmap
 | nfn=>exact .nfn
 | nif=>exact .nif
 | ptr id i j hid=>cases hn
 | sl id off len cap hid h1 h2=>cases hn
 | slz id off b o hid=>cases hn
 | slzn id off hid=>cases hn
 | mp id hid=>cases hn
 | ip v b off f h1 _ ih=>
  cases hn with
  | ip _ hn=>
   refine .ip v b off f (λj c hj=>?_) λj c hj=>ih j c hj (hn j c hj)
   obtain⟨ho,hc,hone⟩:=h1 j c hj;exact⟨hO b (wF hc) ho,hc,hone⟩
 | il sz xs b off cap f hl hs h1 _ ih=>
  cases hn with
  | il _ _ hn=>
   refine .il sz xs b off cap f hl hs (λi x j c hi hj=>?_) λi x j c hi hj=>ih i x j c hi hj (hn i x j c hi hj)
   obtain⟨ho,hc,hone⟩:=h1 i x j c hi hj;exact⟨hO b (wF hc) ho,hc,hone⟩
 | iln=>exact .iln _
 | fn f first cap a1 a2 l1 l2 _ _ ih1 ih2=>
  cases hn with
  | fn _ _ _ n1 n2=>exact .fn f first cap a1 a2 l1 l2 (λj c x h1 h2=>ih1 j c x h1 h2 (n1 j c h1)) (λj c x h1 h2=>ih2 j c x h1 h2 (n2 j c h1))
 | ifc t v x _ ih=>cases hn with|ifc _ _ hn=>exact .ifc t v x (ih hn)
 | agg cs arr hl ho _ ih=>cases hn with|agg _ hn=>exact .agg cs arr hl ho λj c x h1 h2=>ih j c x h1 h2 (hn j c h1)
 | tup cs arr hl _ ih=>cases hn with|tup _ hn=>exact .tup cs arr hl λj c x h1 h2=>ih j c x h1 h2 (hn j c h1)
 | junk x=>exact .junk x
 | yld id hid=>cases hn
inductive Cv (mem:aQ) (J:List (Nat × Nat)):AV->AV->Prop
 | same (v:AV):NN v->Cv mem J v v
 | junk (v:AV):Cv mem J v .junk
 | nil (sz:Nat):Cv mem J .nsl (.il sz [])
 | nslk (id id':Nat) (a:AB):lk mem id=some a->lk J id=some id'->Cv mem J .nsl (.sl id' 0 0)
 | ptr (id id' i j:Nat):lk J id=some id'->Cv mem J (.ptr id i j) (.ptr id' i j)
 | sl (id id' off len:Nat):lk J id=some id'->Cv mem J (.sl id off len) (.sl id' off len)
 | mp (id id':Nat):lk J id=some id'->Cv mem J (.mp id) (.mp id')
 | yld (id id':Nat):lk J id=some id'->Cv mem J (.yld id) (.yld id')
 | fz (id off len:Nat) (t:TypeId) (sz:Nat) (xs ys:List AV):lk mem id=some (.row t sz xs)->lk J id=none->off+len<=xs.length->ys.length=len ->
   (∀(i:Nat) (x y:AV),xs[off+i]? = some x->ys[i]? = some y->x.cells.length=y.cells.length) ->
   (∀(i:Nat) (x y:AV) (j:Nat) (c c':AV),xs[off+i]? = some x->ys[i]? = some y->x.cells[j]? = some c->y.cells[j]? = some c'->Cv mem J c c') ->
   Cv mem J (.sl id off len) (.il sz ys)
 | fzp (id i j:Nat) (t:TypeId) (sz:Nat) (xs:List AV) (x v:AV):lk mem id=some (.row t sz xs)->lk J id=none->xs[i]? = some x->j+v.cells.length<=x.cells.length ->
   (∀(k:Nat) (c c':AV),x.cells[j+k]? = some c->v.cells[k]? = some c'->Cv mem J c c')->Cv mem J (.ptr id i j) (.ip v)
 | ip (u v:AV):v.cells.length<=u.cells.length->(∀(j:Nat) (c c':AV),u.cells[j]? = some c->v.cells[j]? = some c'->Cv mem J c c')->Cv mem J (.ip u) (.ip v)
 | il (sz:Nat) (xs ys:List AV):xs.length=ys.length ->
   (∀(i:Nat) (x y:AV),xs[i]? = some x->ys[i]? = some y->x.cells.length=y.cells.length) ->
   (∀(i:Nat) (x y:AV) (j:Nat) (c c':AV),xs[i]? = some x->ys[i]? = some y->x.cells[j]? = some c->y.cells[j]? = some c'->Cv mem J c c')->Cv mem J (.il sz xs) (.il sz ys)
 | fn (f:Fn) (a a' b b':List AV):a.length=a'.length->b.length=b'.length->(∀(j:Nat) (c c':AV),a[j]? = some c->a'[j]? = some c'->Cv mem J c c') ->
   (∀(j:Nat) (c c':AV),b[j]? = some c->b'[j]? = some c'->Cv mem J c c')->Cv mem J (.fn f a b) (.fn f a' b')
 | ifc (t:TypeId) (v v':AV):Cv mem J v v'->Cv mem J (.ifc t v) (.ifc t v')
 | agg (cs cs':List AV):cs.length=cs'.length->(∀(j:Nat) (c c':AV),cs[j]? = some c->cs'[j]? = some c'->Cv mem J c c')->Cv mem J (.agg cs) (.agg cs')
 | tup (cs cs':List AV):cs.length=cs'.length->(∀(j:Nat) (c c':AV),cs[j]? = some c->cs'[j]? = some c'->Cv mem J c c')->Cv mem J (.tup cs) (.tup cs')
theorem dS{G β:Type}{xs:List G}{ys:List β}(h:xs.length=ys.length){i:Nat}{y:β}(hy:ys[i]? = some y):∃x,xs[i]? = some x:=by
 have:i<ys.length:=by
  rcases ZG i ys.length with h'|h'
  .exact h'
  .rw[ZH h'] at hy;cases hy
 exact⟨xs[i],by simp[h,this]⟩
theorem lP{G β:Type}{xs:List G}{ys:List β}(k:Nat)(h:k+ys.length<=xs.length){i:Nat}{y:β}(hy:ys[i]? = some y):∃x,xs[k+i]? = some x:=by
 have:i<ys.length:=by
  rcases ZG i ys.length with h'|h'
  .exact h'
  .rw[ZH h'] at hy;cases hy
 exact⟨xs[k+i],sq⟩
section
variable {C:List (Nat × AV)} {X:Nat->Prop} {E E':Nat->dP} {D D':Nat->Prop} {mem mem':aQ} {w w':World} {J:List (Nat × Nat)}
theorem Cv.vr{O':Nat->Prop}(hm:MR C X E D mem w)(hσ:∀id id',lk J id=some id'->D id->D' id'/\E' id'=E id)(hO:∀b,b<w.heap.size->¬OX X E mem b->¬O' b)
  (hfz:∀p∈mem,lk J p.1=none->0<(E p.1).n->¬O' (E p.1).b) {v v':AV} (hc:Cv mem J v v'):∀x,VR E D (OX X E mem) w v x->VR E' D' O' w v' x:=by
 have hpos:∀{id:Nat} {t:TypeId} {sz:Nat} {xs:List AV} {i:Nat} {x:AV},lk mem id=some (.row t sz xs)->xs[i]? = some x->0<(E id).n:=by
  intro id t sz xs i x hid hx;rcases ZC (E id).n with h|h
  .obtain⟨t',sz',e,_⟩:=hm.emp _ (bL hid) h;cases e;simp at hx
  .exact h
 induction hc with
 | same v hn=>exact λx h=>hn.vr h hO
 | junk v=>exact λx h=>.junk x
 | nil sz=>intro x h;cases h;exact .iln sz
 | nslk id id' a h1 h2=>intro x h;cases h;exact .slzn id' 0 (hσ id id' h2 (hm.low _ (bL h1))).1
 | ptr id id' i j h=>
  intro x hx;cases hx with
  | ptr _ _ _ hid=>
   obtain⟨h1,h2⟩:=hσ id id' h hid;rw[<-h2];exact .ptr id' i j h1
 | sl id id' off len h=>
  intro x hx;cases hx with
  | sl _ _ _ cap hid h3 h4=>
   obtain⟨h1,h2⟩:=hσ id id' h hid;rw[<-h2] at h4 |-;exact .sl id' off len cap h1 h3 h4
  | slz _ _ b o hid=>exact .slz id' off b o (hσ id id' h hid).1
  | slzn _ _ hid=>exact .slzn id' off (hσ id id' h hid).1
 | mp id id' h=>
  intro x hx;cases hx with
  | mp _ hid=>
   obtain⟨h1,h2⟩:=hσ id id' h hid;rw[<-h2];exact .mp id' h1
 | yld id id' h=>
  intro x hx;cases hx with
  | yld _ hid=>
   obtain⟨h1,h2⟩:=hσ id id' h hid;rw[<-h2];exact .yld id' h1
 | fz id off len t sz xs ys hid hno hlen hys hcl hcs ih=>
  intro x hx;have hsz:(E id).sz=sz:=by
   rcases ZC (E id).n with h|h
   .obtain⟨t',sz',e,h'⟩:=hm.emp _ (bL hid) h;cases e;exact h'
   .obtain⟨o,ho,h',_⟩:=hm.blk _ (bL hid) h;exact h'
  cases hx with
  | sl _ _ _ cap hD h1 h2=>
   subst hys;rw[hsz] at h2 |-;refine .il sz ys _ _ cap (λi j=>(w.cell? ⟨(E id).b,off*sz+(i*sz+j),none⟩).getD undef) h1 (λi y hy=>?_) (λi y j c' hy hc'=>?_) (λi y j c' hy hc'=>?_)
   .obtain⟨x,hx⟩:=lP off hlen hy;rw[<-hcl i x y hx hy,(gL hm hid hx).1,hsz]
   .obtain⟨x,hx⟩:=lP off hlen hy;obtain⟨c,hc⟩:=dS (hcl i x y hx hy) hc';obtain⟨v,hv,hone,_⟩:=(gL hm hid hx).2 j c hc;rw[hsz,Nat.add_mul,Nat.add_assoc] at hv;exact⟨hfz _ (bL hid) hno (hpos hid hx),by rw[hv];rfl,by rw[hv];exact hone⟩
   .obtain⟨x,hx⟩:=lP off hlen hy;obtain⟨c,hc⟩:=dS (hcl i x y hx hy) hc';obtain⟨v,hv,hone,hr⟩:=(gL hm hid hx).2 j c hc;rw[hsz,Nat.add_mul,Nat.add_assoc] at hv;rw[hv];exact ih i x y j c c' hx hy hc hc' _ hr
  | slz _ _ b o hD=>
   have:ys=[]:=ZB hys;subst this;exact .il sz [] b o 0 (λ_ _=>undef) (Y8 _) sq sq sq
  | slzn _ _ hD=>
   have:ys=[]:=ZB hys;subst this;exact .iln sz
 | fzp id i j t sz xs x v hid hno hx hlen hcs ih=>
  intro y hy;cases hy with
  | ptr _ _ _ hD=>
   refine .ip v _ _ (λk=>(w.cell? ⟨(E id).b,i*(E id).sz+j+k,none⟩).getD undef) (λk c' hc'=>?_) (λk c' hc'=>?_)
   .obtain⟨c,hc⟩:=lP j hlen hc';obtain⟨u,hu,hone,_⟩:=(gL hm hid hx).2 _ c hc;rw[<-Nat.add_assoc] at hu;exact⟨hfz _ (bL hid) hno (hpos hid hx),by rw[hu];rfl,by rw[hu];exact hone⟩
   .obtain⟨c,hc⟩:=lP j hlen hc';obtain⟨u,hu,hone,hr⟩:=(gL hm hid hx).2 _ c hc;rw[<-Nat.add_assoc] at hu;rw[hu];exact ih k c c' hc hc' _ hr
 | ip u v hlen hcs ih=>
  intro x hx;cases hx with
  | ip _ b off f h1 h2=>
   refine .ip v b off f (λj c' hc'=>?_) (λj c' hc'=>?_)
   .obtain⟨c,hc⟩:=lP 0 (su hlen) hc';rw[ZP] at hc;obtain⟨ho,hc1,hone⟩:=h1 j c hc;exact⟨hO b (wF hc1) ho,hc1,hone⟩
   .obtain⟨c,hc⟩:=lP 0 (su hlen) hc';rw[ZP] at hc;exact ih j c c' hc hc' _ (h2 j c hc)
 | il sz xs ys hlen hcl hcs ih=>
  intro x hx;cases hx with
  | il _ _ b off cap f hl hs h1 h2=>
   rw[hlen] at hl |-;refine .il sz ys b off cap f hl (λi y hy=>?_) (λi y j c' hy hc'=>?_) (λi y j c' hy hc'=>?_)
   .obtain⟨x,hx⟩:=dS hlen hy;rw[<-hcl i x y hx hy];exact hs i x hx
   .obtain⟨x,hx⟩:=dS hlen hy;obtain⟨c,hc⟩:=dS (hcl i x y hx hy) hc';obtain⟨ho,hc1,hone⟩:=h1 i x j c hx hc;exact⟨hO b (wF hc1) ho,hc1,hone⟩
   .obtain⟨x,hx⟩:=dS hlen hy;obtain⟨c,hc⟩:=dS (hcl i x y hx hy) hc';exact ih i x y j c c' hx hy hc hc' _ (h2 i x j c hx hc)
  | iln=>
   have:ys=[]:=ZB (by simpa using hlen.symm);subst this;exact .iln sz
 | fn f a a' b b' la lb ha hb iha ihb=>
  intro x hx;cases hx with
  | fn _ _ _ a1 a2 l1 l2 r1 r2=>
   refine .fn f a' b' a1 a2 om om (λj c' y hc' hy=>?_) (λj c' y hc' hy=>?_)
   .obtain⟨c,hc⟩:=dS la hc';exact iha j c c' hc hc' _ (r1 j c y hc hy)
   .obtain⟨c,hc⟩:=dS lb hc';exact ihb j c c' hc hc' _ (r2 j c y hc hy)
 | ifc t v v' h ih=>
  intro x hx;cases hx with
  | ifc _ _ y hy=>exact .ifc t v' y (ih _ hy)
 | agg cs cs' hl hcs ih=>
  intro x hx;cases hx with
  | agg _ arr h1 h2 h3=>
   refine .agg cs' arr om h2 λj c' y hc' hy=>?_
   obtain⟨c,hc⟩:=dS hl hc';exact ih j c c' hc hc' _ (h3 j c y hc hy)
 | tup cs cs' hl hcs ih=>
  intro x hx;cases hx with
  | tup _ arr h1 h3=>
   refine .tup cs' arr om λj c' y hc' hy=>?_
   obtain⟨c,hc⟩:=dS hl hc';exact ih j c c' hc hc' _ (h3 j c y hc hy)
def Ji(mem:aQ)(J:List (Nat × Nat))(x y:AV):Prop:=
 x.cells.length=y.cells.length/\∀(j:Nat) (c c':AV),x.cells[j]? = some c->y.cells[j]? = some c'->Cv mem J c c'
def tO(mem:aQ)(J:List (Nat × Nat))(xs ys:List AV):Prop:=
 ys.length<=xs.length/\∀(i:Nat) (x y:AV),xs[i]? = some x->ys[i]? = some y->Ji mem J x y
def Xc(mem:aQ)(J:List (Nat × Nat))(es es':List (AV × AV)):Prop:=
 es.length=es'.length/\∀(i:Nat) (e e':AV × AV),es[i]? = some e->es'[i]? = some e'->Cv mem J e.1 e'.1/\Cv mem J e.2 e'.2
def X5(mem:aQ)(J:List (Nat × Nat))(sl sl':List (Nat × AV)):Prop:=∀i v',lk sl' i=some v'->∃v,lk sl i=some v/\Cv mem J v v'
def Qb(mem:aQ)(J:List (Nat × Nat))(mem':aQ):Prop:=
 ∀p∈mem',(∃id t sz xs ys,p.2 = .row t sz ys/\lk J id=some p.1/\lk mem id=some (.row t sz xs)/\tO mem J xs ys) \/
  (∃id es es',p.2 = .mapb es'/\lk J id=some p.1/\lk mem id=some (.mapb es)/\Xc mem J es es') \/
  (∃id sl sl' nt ps ca cb st pd,p.2 = .loop sl' nt ps ca cb st pd/\lk J id=some p.1/\lk mem id=some (.loop sl nt ps ca cb st pd)/\X5 mem J sl sl')
def Jv(J:List (Nat × Nat)):Prop:=∀i j k,lk J i=some k->lk J j=some k->i=j
theorem MR.turn(hΓ:∀p∈C,NN p.2)(hm:MR C X E D mem w)(hσ:∀id id',lk J id=some id'->D id->D' id'/\E' id'=E id)(hM:Qb mem J mem')(hnod:(mem'.map (·.1)).Nodup)(hinj:Jv J) :
  MR C X E' D' mem' w/\(∀v v',Cv mem J v v'->∀x,VR E D (OX X E mem) w v x->VR E' D' (OX X E' mem') w v' x)/\∀p∈mem',0<(E' p.1).n->own E mem (E' p.1).b:=by
 have hp:∀p∈mem',∃id a,lk J id=some p.1/\lk mem id=some a/\((∃t sz xs ys,p.2 = .row t sz ys/\a = .row t sz xs/\tO mem J xs ys)\/(∃es es',p.2 = .mapb es'/\a = .mapb es/\Xc mem J es es')\/(∃sl sl' nt ps ca cb st pd,p.2 = .loop sl' nt ps ca cb st pd/\a = .loop sl nt ps ca cb st pd/\X5 mem J sl sl'))/\D' p.1/\E' p.1=E id/\D id:=by
  intro p h;rcases hM p h with⟨id,t,sz,xs,ys,h1,h2,h3,h4⟩|⟨id,es,es',h1,h2,h3,h4⟩|⟨id,sl,sl',nt,ps,ca,cb,st,pd,h1,h2,h3,h4⟩
  .have hD:=hm.low _ (bL h3);obtain⟨h5,h6⟩:=hσ id p.1 h2 hD;exact⟨id,_,h2,h3,.inl ⟨t,sz,xs,ys,h1,rfl,h4⟩,h5,h6,hD⟩
  .have hD:=hm.low _ (bL h3);obtain⟨h5,h6⟩:=hσ id p.1 h2 hD;exact⟨id,_,h2,h3,.inr (.inl ⟨es,es',h1,rfl,h4⟩),h5,h6,hD⟩
  .have hD:=hm.low _ (bL h3);obtain⟨h5,h6⟩:=hσ id p.1 h2 hD;exact⟨id,_,h2,h3,.inr (.inr ⟨sl,sl',nt,ps,ca,cb,st,pd,h1,rfl,h4⟩),h5,h6,hD⟩
 have hown:∀b,own E' mem' b->own E mem b:=by
  rintro b ⟨p,h,hn,e⟩;obtain⟨id,a,h2,h3,h4,h5,h6,h7⟩:=hp p h;rw[h6] at hn e;exact⟨_,bL h3,hn,e⟩
 have hO:∀b,b<w.heap.size->¬OX X E mem b->¬OX X E' mem' b:=λb _ ho h=>ho (h.imp (λx=>x) (hown b))
 have hfz:∀p∈mem,lk J p.1=none->0<(E p.1).n->¬OX X E' mem' (E p.1).b:=by
  rintro p h hno hn (hx|⟨q,hq,hqn,e⟩)
  .exact(hm.bar _ hx).2 ⟨p,h,hn,rfl⟩
  .obtain⟨id,a,h2,h3,h4,h5,h6,h7⟩:=hp q hq;rw[h6] at hqn e;have:=hm.inj _ (bL h3) p h hqn hn e;simp only at this;rw[<-this,h2] at hno;cases hno
 have hv:∀v v',Cv mem J v v'->∀x,VR E D (OX X E mem) w v x->VR E' D' (OX X E' mem') w v' x:=λv v' hc=>hc.vr hm hσ hO hfz
 refine⟨⟨λp h=>?_,λp h hn=>?_,λp h hn=>?_,λp h q hq hpn hqn e=>?_,hnod,λb hb=>⟨(hm.bar b hb).1,λh=>(hm.bar b hb).2 (hown b h)⟩,λp h=>?_⟩,hv,λp h hn=>hown _ ⟨p,h,hn,rfl⟩⟩
 .obtain⟨id,a,h2,h3,h4,h5,h6,h7⟩:=hp p h;exact h5
 .obtain⟨id,a,h2,h3,h4,h5,h6,h7⟩:=hp p h;rw[h6] at hn |-;rcases h4 with⟨t,sz,xs,ys,h1,rfl,h4⟩|⟨es,es',h1,rfl,h4⟩|⟨sl,sl',nt,ps,ca,cb,st,pd,h1,rfl,h4⟩
  .obtain⟨o,ho,k1,arr,fr,rfl,k2,k3,k4,k5⟩:=hm.blk _ (bL h3) hn;refine⟨_,ho, ?_⟩;rw[h1];refine⟨k1,arr,fr,rfl,k2,k3,Zj (ZF _ h4.1) k4,λi y hy=>?_⟩;obtain⟨x,hx⟩:=lP 0 (by simpa using h4.1) hy;rw[ZP] at hx;obtain⟨c1,c2⟩:=h4.2 i x y hx hy;refine⟨by rw[<-c1];exact(k5 i x hx).1,λj c' hc'=>?_⟩;obtain⟨c,hc⟩:=dS c1 hc';obtain⟨u,hu,hone,hr⟩:=(k5 i x hx).2 j c hc;exact⟨u,hu,hone,hv _ _ (c2 j c c' hc hc') _ hr⟩
  .obtain⟨o,ho,arr,clk,rfl,k2,k3,k4⟩:=hm.blk _ (bL h3) hn;refine⟨_,ho, ?_⟩;rw[h1];refine⟨arr,clk,rfl,by rw[k2];exact h4.1,λi e' he'=>?_,k4⟩;obtain⟨e,he⟩:=dS h4.1 he';obtain⟨m,hm1,r1,r2⟩:=k3 i e he;obtain⟨c1,c2⟩:=h4.2 i e e' he he';exact⟨m,hm1,hv _ _ c1 _ r1,hv _ _ c2 _ r2⟩
  .obtain⟨o,ho,arr,fn,df,rfl,k2,k3⟩:=hm.blk _ (bL h3) hn;refine⟨_,ho, ?_⟩;rw[h1];refine⟨arr,fn,df,rfl,k2,λi v' hi=>?_⟩;obtain⟨v,hl,hc⟩:=h4 i v' hi;exact hv _ _ hc _ (k3 i v hl)
 .obtain⟨id,a,h2,h3,h4,h5,h6,h7⟩:=hp p h;rw[h6] at hn |-;obtain⟨t',sz',e1,e2⟩:=hm.emp _ (bL h3) hn;rcases h4 with⟨t,sz,xs,ys,h1,rfl,h4⟩|⟨es,es',h1,rfl,h4⟩|⟨sl,sl',nt,ps,ca,cb,st,pd,h1,rfl,h4⟩
  .cases e1;have:ys=[]:=ZB (by have:=h4.1;simpa using this);subst this;exact⟨_,_,h1,e2⟩
  .cases e1
  .cases e1
 .obtain⟨id,a,h2,h3,h4,h5,h6,h7⟩:=hp p h;obtain⟨id',a',h2',h3',h4',h5',h6',h7'⟩:=hp q hq;rw[h6] at hpn e;rw[h6'] at hqn e;have:=hm.inj _ (bL h3) _ (bL h3') hpn hqn e;simp only at this;subst this;rw[h2] at h2';exact Option.some.inj h2'
 .have hg:=hm.glo p h;exact NN.vr hg hO (.ip _ λj c hc=>by
   have:=hΓ p h
   revert hc
   cases hpv:p.2 with
   | agg cs=>rw[hpv] at this;cases this with|agg _ hn=>exact λhc=>hn j c hc
   | _=>intro hc;rw[hpv] at this;cases j with
    | zero=>simp[AV.cells] at hc;rw[<-hc];exact this
    | succ j=>simp[AV.cells] at hc)
end
end Go.Ax
namespace Go.Ax
open Go
inductive Kd where
 | pure|al|eff
def kind(P:Program):Op->Kd
 | .move _=>.pure
 | .assign _=>.pure
 | .pick _ _ _=>.pure
 | .build _ _=>.pure
 | .load _ _=>.pure
 | .nilCheck _=>.pure
 | .binOp _ _ _ _ _=>.pure
 | .unOp _ _ _=>.pure
 | .makeInterface _ _=>.pure
 | .makeFunc _ _ _=>.pure
 | .slice _ _ _ _ _=>.pure
 | .fieldAddr _ _ _=>.pure
 | .field _ _ _=>.pure
 | .indexAddr _ _ _=>.pure
 | .index _ _ _=>.pure
 | .extract _ _=>.pure
 | .lookup _ _ _ _=>.pure
 | .convert _ dst _=>match P.underlying dst with
  | some (.slice _)=>.eff
  | _=>.pure
 | .call c=>match c.callee with
  | .builtin .len=>.pure
  | .builtin .min=>.pure
  | .builtin .max=>.pure
  | _=>.eff
 | .alloc _=>.al
 | .box _ _=>.al
 | .buildSlice _ _ _=>.al
 | .makeSlice _ _ _=>.al
 | .makeMap _ _=>.al
 | _=>.eff
def still:Op->Bool
 | .move _=>true
 | .assign _=>true
 | .pick _ _ _=>true
 | .build _ _=>true
 | .nilCheck _=>true
 | .binOp _ _ _ _ _=>true
 | .unOp _ _ _=>true
 | .makeInterface _ _=>true
 | .makeFunc _ _ _=>true
 | .fieldAddr _ _ _=>true
 | .field _ _ _=>true
 | .index _ _ _=>true
 | .extract _ _=>true
 | .call c=>match c.callee with
  | .builtin .len=>true
  | .builtin .min=>true
  | .builtin .max=>true
  | _=>false
 | _=>false
theorem eT{s:St}{o:Option AV}{v:AV}{m:aQ}{n:Nat}(h:bP s o=some (v,m,n))(s':St):∃m' n',bP s' o=some (v,m',n'):=by
 unfold bP at h;split at h
 .cases h;exact⟨_,_,rfl⟩
 .cases h
theorem qI{P:Program}{C:List (Nat × AV)}{s s':St}{op:Op}(hst:still op=true)(hsl:s'.sl=s.sl){v:AV}{m:aQ}{n:Nat}(h:c8 P C s op=some (v,m,n)):∃m' n',c8 P C s' op=some (v,m',n'):=by
 have hev:∀x,ev C s' x=ev C s x:=λx=>by cases x<;>simp[ev,hsl]
 have hevs:∀l,B6 C s' l=B6 C s l:=λl=>by
  induction l with
  | nil=>rfl
  | cons x r ih=>simp only[B6,hev,ih]
 have hparts:∀l,jG C s' l=jG C s l:=λl=>by
  induction l with
  | nil=>rfl
  | cons x r ih=>obtain⟨i,x⟩:=x;simp only[jG,hev,ih]
 cases op<;>simp only[still] at hst<;>first|(cases hst;done)|skip
 case move x=>simp only[c8,hev] at h |-;exact eT h s'
 case assign x=>simp only[c8,hev] at h |-;exact eT h s'
 case pick c x y=>
  simp only[c8,hev] at h |-;split at h
  .exact eT h s'
  .exact eT h s'
  .cases h
 case build t parts=>
  simp only[c8,hparts] at h |-;split at h
  .exact eT h s'
  .cases h
 case nilCheck x=>
  simp only[c8,hev] at h |-;split at h
  .exact eT h s'
  .cases h
 case binOp op t x y t'=>
  simp only[c8,hev] at h |-;split at h
  .split at h
   .exact eT h s'
   .cases h
  .cases h
 case unOp op t x=>
  simp only[c8,hev] at h |-;split at h
  .exact eT h s'
  .cases h
 case makeInterface t x=>
  simp only[c8,hev] at h |-;split at h
  .exact eT h s'
  .cases h
 case makeFunc fn first cap=>
  simp only[c8,hevs] at h |-;split at h
  .split at h
   .cases h;exact⟨_,_,rfl⟩
   .cases h
  .cases h
 case fieldAddr t x f=>
  simp only[c8,hev] at h |-;split at h
  .exact eT h s'
  .cases h
 case field t x f=>
  simp only[c8,hev] at h |-;split at h
  .exact eT h s'
  .cases h
 case index t x ix=>
  simp only[c8,hev] at h |-;split at h
  .split at h
   .exact eT h s'
   .cases h
  .cases h
 case extract x i=>
  simp only[c8,hev] at h |-;split at h
  .exact eT h s'
  .cases h
 case call c=>
  cases hc:c.callee with
  | value f=>rw[hc] at hst;simp at hst
  | invoke a b=>rw[hc] at hst;simp at hst
  | builtin b=>
   rw[hc] at hst;simp only[c8,hc] at h |-;unfold eU at h |-;cases b<;>simp only at hst<;>first|(cases hst;done)|skip
   case len=>
    simp only[hev] at h |-;split at h
    .split at h
     .exact eT h s'
     .cases h
    .cases h
   case min=>
    simp only[hevs] at h |-;split at h
    .split at h
     .cases h;exact⟨_,_,rfl⟩
     .cases h
    .cases h
   case max=>
    simp only[hevs] at h |-;split at h
    .split at h
     .cases h;exact⟨_,_,rfl⟩
     .cases h
    .cases h
section
variable {P:Program} {C:List (Nat × AV)} {s s':St}
theorem o5:∀{l:List Operand},(∀x∈l,ev C s x=ev C s' x)->B6 C s l=B6 C s' l
 | [],h=>rfl
 | x::r,h=>by
  simp only[B6,h x (ZQ ..),o5 λy hy=>h y (ZE _ hy)]
theorem qQ:∀{l:List (Nat × Operand)},(∀x∈l.map (·.2),ev C s x=ev C s' x)->jG C s l=jG C s' l
 | [],h=>rfl
 | (i,x)::r,h=>by
  simp only[jG,h x sq,qQ λy hy=>h y (by simp only[Z2];exact ZE _ hy)]
theorem vM{o:Option Operand}(h:∀x∈o.toList,ev C s x=ev C s' x):xX C s o=xX C s' o:=by
 cases o with
 | none=>rfl
 | some x=>simp only[xX,h x sq]
theorem uF{op:Op}(h:∀x∈op.operands,ev C s x=ev C s' x)(hm:s.mem=s'.mem)(hn:s.nx=s'.nx):c8 P C s op=c8 P C s' op:=by
 have hp:∀o:Option AV,bP s o=bP s' o:=λo=>by cases o<;>simp[bP,hm,hn]
 cases op<;>simp only[Op.operands] at h<;>simp only[c8]
 case move x=>rw[h x sq,hp]
 case assign x=>rw[h x sq,hp]
 case pick c x y=>rw[h c sq,h x sq,h y sq,hp,hp]
 case alloc t=>rw[hm,hn]
 case box t x=>rw[h x sq,hm,hn]
 case build t parts=>rw[qQ (s:=s) (s':=s') (λx hx=>h x (su hx))];simp only[hp]
 case buildSlice t len parts=>rw[qQ (s:=s) (s':=s') (λx hx=>h x (su hx)),hm,hn]
 case load t x=>rw[h x sq,hm];simp only[hp]
 case store t x y=>rw[h x sq,h y sq,hm,hn]
 case nilCheck x=>rw[h x sq];simp only[hp]
 case binOp op t x y t'=>rw[h x sq,h y sq];simp only[hp]
 case unOp op t x=>rw[h x sq];simp only[hp]
 case convert src dst x=>rw[h x sq,hm,hn]
 case makeInterface t x=>rw[h x sq];simp only[hp]
 case makeFunc fn first cap=>
  rw[o5 (s:=s) (s':=s') (l:=first.toList) (λx hx=>h x (by simp only[aBq];exact .inl (su hx))),o5 (s:=s) (s':=s') (l:=cap.toList) (λx hx=>h x (by simp only[aBq];exact .inr (su hx))),hm,hn]
 case makeSlice t l c=>rw[h l sq,h c sq,hm,hn]
 case slice t x lo hi mx=>
  rw[h x sq,vM (s:=s) (s':=s') (o:=lo) (λy hy=>h y (by cases lo<;>simp_all)),vM (s:=s) (s':=s') (o:=hi) (λy hy=>h y (by cases hi<;>simp_all)),
   vM (s:=s) (s':=s') (o:=mx) (λy hy=>h y (by cases mx<;>simp_all)),hm]
  simp only[hp]
 case fieldAddr t x f=>rw[h x sq];simp only[hp]
 case field t x f=>rw[h x sq];simp only[hp]
 case indexAddr t x ix=>rw[h x sq,h ix sq,hm];simp only[hp]
 case index t x ix=>rw[h x sq,h ix sq];simp only[hp]
 case extract x i=>rw[h x sq];simp only[hp]
 case typeAssert x xt t ok=>rw[h x sq];simp only[hp]
 case makeMap t r=>rw[hm,hn]
 case lookup t x ix ok=>rw[h x sq,h ix sq,hm];simp only[hp]
 case mapUpdate t x y z=>rw[h x sq,h y sq,h z sq,hm,hn]
 case range t x=>rw[h x sq,hm,hn]
 case entry x=>rw[h x sq,hm];simp only[hp]
 case next x b=>cases b<;>simp only[]<;>first|rfl|rw[h x sq,hm,hn]
 case insert t x y z=>rw[h x sq,h y sq,h z sq,hm,hn]
 case call c=>
  cases hc:c.callee with
  | builtin b=>
   simp only;have ha:∀x∈c.args.toList,ev C s x=ev C s' x:=λx hx=>h x (by simp only[Call.operands,aBq];exact .inr (su hx))
   have hargs:=o5 (C:=C) (s:=s) (s':=s') ha;unfold eU;cases b<;>simp only[hargs,hm,hn]
   case len=>
    split
    .rename_i x t e _;rw[ha x (by rw[e];simp)];simp only[hp]
    .rfl
   case append=>
    split
    .rename_i x y t u e _;rw[ha x (by rw[e];simp),ha y (by rw[e];simp)]
    .rfl
   case copy=>
    split
    .rename_i x y t u e _;rw[ha x (by rw[e];simp),ha y (by rw[e];simp)]
    .rfl
   case clear=>
    split
    .rename_i x t e _;rw[ha x (by rw[e];simp)]
    .rfl
   case unsafeSliceData=>
    split
    .rename_i x t e _;rw[ha x (by rw[e];simp)];simp only[hp]
    .rfl
   case unsafeString=>
    split
    .rename_i x y t u e _;rw[ha x (by rw[e];simp),ha y (by rw[e];simp)]
    .rfl
  | invoke r m=>rfl
  | value f=>
   have hf:ev C s f=ev C s' f:=h f (by simp[Call.operands,hc]);have hargs:B6 C s c.args.toList=B6 C s' c.args.toList:=o5 λx hx=>h x (by simp only[Call.operands,aBq];exact .inr (su hx))
   simp only[Gm,hf,hargs,hm,hn]
theorem qL{op:Op}(h:∀x∈op.operands,ev C s x=ev C s' x):pD P C s op=pD P C s' op:=by
 cases op<;>simp only[pD];rename_i c;simp only[Op.operands] at h;cases hc:c.callee with
 | builtin b=>rfl
 | invoke r m=>rfl
 | value f=>
  have hf:ev C s f=ev C s' f:=h f (by simp[Call.operands,hc]);have hargs:B6 C s c.args.toList=B6 C s' c.args.toList:=o5 λx hx=>h x (by simp only[Call.operands,aBq];exact .inr (su hx))
  simp only[hf,hargs]
end
section
variable {P:Program} {C:List (Nat × AV)} {X:Nat->Prop} {ds:List Deferred × Nat} {E E':Nat->dP} {D D':Nat->Prop} {s:St} {a:Act} {w w':World}
theorem sT{o:Option AV}{v:AV}{m:aQ}{n:Nat}(h:bP s o=some (v,m,n)):o=some v/\m=s.mem/\n=s.nx:=by
 unfold bP at h;split at h
 .cases h;exact⟨rfl,rfl,rfl⟩
 .cases h
theorem GW(hs:SR C X ds E D s a w){b:Builtin}(hb:b = .len\/b = .min\/b = .max){args:List Operand}{ts:List TypeId}{v:AV}{m:aQ}{n:Nat}(h:eU P C s b args ts=some (v,m,n))
    (ty:TypeId) (cs:Array Bool) :
    m=s.mem/\n=s.nx/\∃x,(builtin b ts.toArray ty cs (args.map a.eval).toArray).run P w = .ok (.value x) w/\VR E D (OX X E s.mem) w v x:=by
  rcases hb with rfl|rfl|rfl
  · simp only[eU] at h
    split at h
    · rename_i x t
      split at h
      · rename_i p hp
        obtain⟨h1,rfl,rfl⟩:=sT h;obtain⟨z,h2,h3⟩:=Dn (P:=P) h1 (aZ hs hp) ty;exact⟨rfl,rfl,z,by simp[builtin,h2],h3⟩
      · cases h
    · cases h
  all_goals
    simp only[eU] at h;split at h
    · rename_i k x r hr
      split at h
      · rename_i mm hm
        cases h;have hv:=iB hs hr;obtain⟨y,ys,e⟩:∃y ys,args.map a.eval=y::ys:=by
          cases hl:args.map a.eval with
          | nil=>have:=hv.1;rw[hl] at this;simp at this
          | cons y ys=>exact⟨y,ys,rfl⟩
        rw[e] at hv |-;have h0:=hv.2 0 _ y rfl rfl;cases h0;have hr':j8 E D (OX X E s.mem) w r ys:=⟨by have:=hv.1;simpa using this,λj c x h1 h2=>hv.2 (j+1) c x (su h1) (su h2)⟩
        first
          | (have:=yR (P:=P) k hm hr'
             exact⟨rfl,rfl,.int k mm,by simp[builtin,Builtin.min_,this],.int _ _⟩)
          | (have:=yP (P:=P) k hm hr'
             exact⟨rfl,rfl,.int k mm,by simp[builtin,Builtin.max_,this],.int _ _⟩)
      · cases h
    · cases h
theorem Jc(hs:SR C X ds E D s a w)(o:Oper)(hk:kind P o.op = .pure){v:AV}{m:aQ}{n:Nat}(h:c8 P C s o.op=some (v,m,n)) :
  m=s.mem/\n=s.nx/\∃x,(execOp a.eval o).run P w = .ok (.value x) w/\VR E D (OX X E s.mem) w v x:=by
 have wrap:∀{mm:Sem Value} {oo:Option AV},bP s oo=some (v,m,n)->(∀v,oo=some v->∃x,mm.run P w = .ok x w/\VR E D (OX X E s.mem) w v x) ->
   m=s.mem/\n=s.nx/\∃x,((do let x <-mm;pure (Next.value x)).run P w) = .ok (.value x) w/\VR E D (OX X E s.mem) w v x:=by
  intro mm oo h1 h2;obtain⟨rfl,rfl,rfl⟩:=sT h1;obtain⟨x,h3,h4⟩:=h2 _ rfl;exact⟨rfl,rfl,x,by simp[h3],h4⟩
 have same:∀{x:Operand},bP s (ev C s x)=some (v,m,n)->m=s.mem/\n=s.nx/\VR E D (OX X E s.mem) w v (a.eval x):=by
  intro x h1;obtain⟨h2,rfl,rfl⟩:=sT h1;exact⟨rfl,rfl,aZ hs h2⟩
 cases hop:o.op<;>rw[hop] at h hk<;>simp only[kind] at hk<;>first|(cases hk;done)|skip
 all_goals simp only[c8] at h
 case move x=>obtain⟨h1,h2,h3⟩:=same h;exact⟨h1,h2,_,by simp[execOp,hop],h3⟩
 case assign x=>obtain⟨h1,h2,h3⟩:=same h;exact⟨h1,h2,_,by simp[execOp,hop],h3⟩
 case pick c x y=>
  split at h
  .rename_i hc;have hb:=aZ hs hc;generalize he:a.eval c=cv at hb;cases hb;obtain⟨h1,h2,h3⟩:=same h;exact⟨h1,h2,_,by simp[execOp,hop,asBool,he],h3⟩
  .rename_i hc;have hb:=aZ hs hc;generalize he:a.eval c=cv at hb;cases hb;obtain⟨h1,h2,h3⟩:=same h;exact⟨h1,h2,_,by simp[execOp,hop,asBool,he],h3⟩
  .cases h
 case build t parts=>
  split at h
  .rename_i ps hps;obtain⟨h1,h2⟩:=nR hs hps;have:=wrap (mm:=Instr.build t (parts.toList.map λ(i,x)=>(i,a.eval x)).toArray) h (λv' hv=>AW hv h1 h2);have e:(parts.map λ(i,x)=>(i,a.eval x))=(parts.toList.map λ(i,x)=>(i,a.eval x)).toArray:=by apply aBw;simp
   simp only[execOp,hop];rw[e];exact this
  .cases h
 case lookup t x ix ok=>
  split at h
  .rename_i p hp;split at h
   .rename_i i hi;simpa[execOp,hop] using wrap (mm:=Instr.lookup t (a.eval x) (a.eval ix) ok) h (λv' hv=>xP hs.mr hv (aZ hs hp) (aZ hs hi))
   .cases h
  .cases h
 case load t x=>
  split at h
  .rename_i p hp;simpa[execOp,hop] using wrap (mm:=Instr.loadAt t (a.eval x)) h (λv' hv=>uP hs.mr hv (aZ hs hp))
  .cases h
 case nilCheck x=>
  split at h
  .rename_i p hp;obtain⟨h2,rfl,rfl⟩:=sT h;obtain⟨h3,h4⟩:=D2 (P:=P) h2 (aZ hs hp) o a.eval x hop rfl;exact⟨rfl,rfl,_,h3,h4⟩
  .cases h
 case binOp op t x y t'=>
  split at h
  .rename_i p hp;split at h
   .rename_i q hq;simpa[execOp,hop] using wrap (mm:=do eqGuard op t x y (a.eval x) (a.eval y);binOp op t (a.eval x) (a.eval y)) h (λv' hv=>EI hv (aZ hs hp) (aZ hs hq))
   .cases h
  .cases h
 case unOp op t x=>
  split at h
  .rename_i p hp;simpa[execOp,hop] using wrap (mm:=Op.unary op (a.eval x)) h (λv' hv=>Ez hv (aZ hs hp))
  .cases h
 case convert src dst x=>
  split at h
  .rename_i p hp;split at h
   .rename_i v0 hv;cases h;obtain⟨z,h1,h2⟩:=Bo (P:=P) hs.mr hv (aZ hs hp);exact⟨rfl,rfl,z,by simp[execOp,hop,h1],h2⟩
   .exfalso;unfold lC at h;split at h
    .cases h
    .split at h
     .rename_i e hu;rw[hu] at hk;cases hk
     .cases h
  .cases h
 case makeInterface t x=>
  split at h
  .rename_i p hp;simpa[execOp,hop] using wrap (mm:=Instr.makeInterface t (a.eval x)) h (λv' hv=>zN hv (aZ hs hp))
  .cases h
 case makeFunc fn first cap=>
  split at h
  .rename_i l1 h1;split at h
   .rename_i l2 h2;cases h;have e1:=iB hs h1;have e2:=iB hs h2;refine⟨rfl,rfl,.func fn (first.map a.eval) (cap.map a.eval),by simp[execOp,hop,Instr.makeFunc], ?_⟩;exact .fn fn l1 l2 _ _ (by have:=e1.1;simpa using this) (by have:=e2.1;simpa using this)
     (λj c x g1 g2=>e1.2 j c x g1 (su g2)) (λj c x g1 g2=>e2.2 j c x g1 (su g2))
   .cases h
  .cases h
 case slice t x lo hi mx=>
  split at h
  .rename_i p hp;split at h
   .rename_i l hl;split at h
    .rename_i hh hhi;split at h
     .rename_i m' hm;split at h
      .rename_i hmx;have hmx':m'.isSome=true->hh.isSome=true:=by
        intro e;rw[e] at hmx;simpa using hmx
       simpa[execOp,hop] using wrap (mm:=Instr.sliceAt t (a.eval x) (lo.map a.eval) (hi.map a.eval) (mx.map a.eval)) h
        (λv' hv=>AK hs.mr hv (aZ hs hp) (kY hs hl) (kY hs hhi) (kY hs hm) hmx')
      .cases h
     .cases h
    .cases h
   .cases h
  .cases h
 case fieldAddr t x f=>
  split at h
  .rename_i p hp;simpa[execOp,hop] using wrap (mm:=Instr.fieldAt t (a.eval x) f) h (λv' hv=>q6 hv (aZ hs hp))
  .cases h
 case field t x f=>
  split at h
  .rename_i p hp;simpa[execOp,hop] using wrap (mm:=Instr.field t (a.eval x) f) h (λv' hv=>AO hv (aZ hs hp))
  .cases h
 case indexAddr t x ix=>
  split at h
  .rename_i p hp;split at h
   .rename_i q hq;simpa[execOp,hop] using wrap (mm:=Instr.indexAt t (a.eval x) (a.eval ix)) h (λv' hv=>rM hs.mr hv (aZ hs hp) (aZ hs hq))
   .cases h
  .cases h
 case index t x ix=>
  split at h
  .rename_i p hp;split at h
   .rename_i q hq;simpa[execOp,hop] using wrap (mm:=Instr.index t (a.eval x) (a.eval ix)) h (λv' hv=>zO hv (aZ hs hp) (aZ hs hq))
   .cases h
  .cases h
 case extract x i=>
  split at h
  .rename_i p hp;simpa[execOp,hop] using wrap (mm:=Instr.extract (a.eval x) i) h (λv' hv=>vR hv (aZ hs hp))
  .cases h
 case call c=>
  cases hc:c.callee with
  | value f=>rw[hc] at hk;simp at hk
  | invoke r m=>rw[hc] at h;cases h
  | builtin b=>
   rw[hc] at h hk;simp only at h hk;have e:(c.args.toList.map a.eval).toArray=c.args.map a.eval:=by apply aBw;simp
   have red:(execOp a.eval o).run P w=(builtin b c.argTypes o.type (c.args.map fun | .const _=>true|_=>false) (c.args.map a.eval)).run P w:=by
    simp only[execOp,hop,resolve,hc,Sem.run_bind,Sem.run_pure,Result.andThen_ok,invoke];rfl
   rw[red];have hb:=GW hs (by cases b<;>first|exact .inl rfl|exact .inr (.inl rfl)|exact .inr (.inr rfl)|(simp at hk)) h o.type (c.args.map fun | .const _=>true|_=>false);rw[e] at hb;simpa using hb
end
end Go.Ax
namespace Go.Ax
open Go
mutual
def lQ:AV->AV->Bool
 | .bool a,.bool b=>a == b
 | .int k n,.int k' n'=>decide (k=k') && decide (n=n')
 | .str s,.str s'=>s == s'
 | .nptr,.nptr=>true
 | .nsl,.nsl=>true
 | .nmap,.nmap=>true
 | .nfn,.nfn=>true
 | .nif,.nif=>true
 | .ptr a b c,.ptr a' b' c'=>Nat.beq a a' && (Nat.beq b b' && Nat.beq c c')
 | .sl a b c,.sl a' b' c'=>Nat.beq a a' && (Nat.beq b b' && Nat.beq c c')
 | .mp a,.mp a'=>Nat.beq a a'
 | .yld a,.yld a'=>Nat.beq a a'
 | .ip v,.ip v'=>lQ v v'
 | .il a xs,.il a' xs'=>Nat.beq a a' && pT xs xs'
 | .fn (.func f) xs ys,.fn (.func f') xs' ys'=>Nat.beq f f' && (pT xs xs' && pT ys ys')
 | .ifc t v,.ifc t' v'=>Nat.beq t t' && lQ v v'
 | .agg xs,.agg xs'=>pT xs xs'
 | .tup xs,.tup xs'=>pT xs xs'
 | _,_=>false
def pT:List AV->List AV->Bool
 | [],[]=>true
 | a::r,b::t=>lQ a b && pT r t
 | _,_=>false
end
mutual
theorem sI:∀{a b:AV},lQ a b=true->a=b
 | .bool a,b,h=>by cases b<;>simp_all[lQ]
 | .int k n,b,h=>by cases b<;>simp_all[lQ]
 | .str s,b,h=>by cases b<;>simp_all[lQ]
 | .nptr,b,h=>by cases b<;>simp_all[lQ]
 | .nsl,b,h=>by cases b<;>simp_all[lQ]
 | .nmap,b,h=>by cases b<;>simp_all[lQ]
 | .nfn,b,h=>by cases b<;>simp_all[lQ]
 | .nif,b,h=>by cases b<;>simp_all[lQ]
 | .ptr x y z,b,h=>by cases b<;>simp_all[lQ]
 | .sl x y z,b,h=>by cases b<;>simp_all[lQ]
 | .mp x,b,h=>by cases b<;>simp_all[lQ]
 | .yld x,b,h=>by cases b<;>simp_all[lQ]
 | .junk,b,h=>by cases b<;>simp_all[lQ]
 | .ip v,b,h=>by
  cases b<;>simp only[lQ] at h<;>first|(cases h;done)|skip
  rw[sI h]
 | .il n xs,b,h=>by
  cases b<;>simp only[lQ] at h<;>first|(cases h;done)|skip
  rw[Y1] at h;rw[Nat.eq_of_beq_eq_true h.1,iX h.2]
 | .fn f xs ys,b,h=>by
  cases b<;>first|(cases f<;>simp[lQ] at h;done)|skip
  rename_i f' xs' ys';cases f<;>first|(simp[lQ] at h;done)|skip
  cases f'<;>first|(simp[lQ] at h;done)|skip
  simp only[lQ,Y1] at h;rw[Nat.eq_of_beq_eq_true h.1,iX h.2.1,iX h.2.2]
 | .ifc t v,b,h=>by
  cases b<;>simp only[lQ] at h<;>first|(cases h;done)|skip
  rw[Y1] at h;rw[Nat.eq_of_beq_eq_true h.1,sI h.2]
 | .agg xs,b,h=>by
  cases b<;>simp only[lQ] at h<;>first|(cases h;done)|skip
  rw[iX h]
 | .tup xs,b,h=>by
  cases b<;>simp only[lQ] at h<;>first|(cases h;done)|skip
  rw[iX h]
theorem iX:∀{l t:List AV},pT l t=true->l=t
 | [],[],h=>rfl
 | [],b::t,h=>by simp[pT] at h
 | a::r,[],h=>by simp[pT] at h
 | a::r,b::t,h=>by
  simp only[pT,Y1] at h;rw[sI h.1,iX h.2]
end
def xZ(x:Nat):List Nat->Bool
 | []=>false
 | y::r=>match Nat.beq x y with
  | true=>true
  | false=>xZ x r
theorem l5{x:Nat}:∀{l:List Nat},xZ x l=true↔x∈l
 | []=>by simp[xZ]
 | y::r=>by
  simp only[xZ];cases h:Nat.beq x y with
  | true=>simp[Nat.eq_of_beq_eq_true h]
  | false=>
   have:=Z6 h;simp[this,l5]
def DX:List Nat->List Nat->List Nat
 | [],l=>l
 | x::r,l=>match xZ x l with
  | true=>DX r l
  | false=>DX r (x::l)
theorem yT{x:Nat}:∀{a l:List Nat},x∈DX a l->x∈a\/x∈l
 | [],l,h=>.inr h
 | y::r,l,h=>by
  simp only[DX] at h;split at h
  .rcases yT h with h|h
   .exact .inl (ZE _ h)
   .exact .inr h
  .rcases yT h with h|h
   .exact .inl (ZE _ h)
   .rcases Y6.1 h with rfl|h
    .exact .inl (ZQ ..)
    .exact .inr h
def mF(o:Oper):List Nat:=(o.after.toList.filter λe=>Region.binds .any e).map (·.on)
def FN(acc:List (List Nat)):List Nat->List Nat
 | []=>[]
 | j::r=>DX (j::(acc[j]?).getD []) (FN acc r)
def Li:List Oper->List (List Nat)->List (List Nat)
 | [],acc=>acc
 | o::r,acc=>Li r (acc++[FN acc (mF o)])
theorem Fv{acc:List (List Nat)}{x:Nat}:∀{l:List Nat},x∈FN acc l->∃j∈l,x=j\/x∈(acc[j]?).getD []
 | [],h=>by simp[FN] at h
 | j::r,h=>by
  simp only[FN] at h;rcases yT h with h|h
  .rcases Y6.1 h with h|h
   .exact⟨j,ZQ ..,.inl h⟩
   .exact⟨j,ZQ ..,.inr h⟩
  .obtain⟨k,hk,h⟩:=Fv h;exact⟨k,ZE _ hk,h⟩
def Nj(ops:List Oper)(tr:List (List Nat)):Prop:=
 ∀(i x:Nat),x∈(tr[i]?).getD []->∃o,ops[i]? = some o/\∃j∈mF o,x=j\/(j<i/\x∈(tr[j]?).getD [])
theorem OR:∀(l pre:List Oper) (acc:List (List Nat)),acc.length=pre.length->Nj pre acc->Nj (pre++l) (Li l acc)
 | [],pre,acc,hl,h=>by simpa[Li] using h
 | o::r,pre,acc,hl,h=>by
  simp only[Li];have:=OR r (pre++[o]) (acc++[FN acc (mF o)]) (by simp[hl]) (by
   intro i x hx;rcases Nat.lt_trichotomy i acc.length with hi|hi|hi
   .rw[ZK hi] at hx;obtain⟨o',ho',j,hj,h'⟩:=h i x hx;refine⟨o',by rw[ZK om];exact ho',j,hj,h'.imp (λe=>e) (λ⟨h1,h2⟩=>⟨h1, ?_⟩)⟩;rw[ZK om];exact h2
   .subst hi;rw[ZM (Y8 _)] at hx;simp at hx;obtain⟨j,hj,h'⟩:=Fv hx;refine⟨o,by rw[ZM om];simp[hl],j,hj,h'.imp (λe=>e) (λh2=>?_)⟩;have hjl:j<acc.length:=by
     rcases ZG j acc.length with h3|h3
     .exact h3
     .rw[ZH h3] at h2;simp at h2
    exact⟨hjl,by rw[ZK hjl];exact h2⟩
   .rw[ZH (by simp;omega)] at hx;simp at hx)
  simpa using this
theorem Rh(ops:List Oper):Nj ops (Li ops []):=by
 have:=OR ops [] [] rfl (λi x hx=>by simp at hx);simpa using this
theorem Nj.closed{ops:List Oper}{tr:List (List Nat)}(h:Nj ops tr){L:Nat->Prop}(hL:∀i o,L i->ops[i]? = some o->∀j∈mF o,L j) :
  ∀(i:Nat),L i->∀x∈(tr[i]?).getD [],L x:=by
 intro i
 induction i using Nat.strongRecOn with
 | _ i ih=>
  intro hi x hx;obtain⟨o,ho,j,hj,h'⟩:=h i x hx;have hLj:=hL i o hi ho j hj;rcases h' with rfl|⟨h1,h2⟩
  .exact hLj
  .exact ih j h1 hLj x h2
def looks(ops:List Oper)(o:Oper):List Nat:=
  (o.op.operands.toList.filterMap λx=>match x with | .tmp t=>some t|_=>none) ++
  (match o.guard with
   | some (g,_)=>match ops[g]? with
     | some og=>og.dst.toList
     | none=>[]
   | none=>[])
def AP:List Nat->List Nat->Bool
 | [],_=>true
 | x::r,l=>match xZ x l with
  | true=>AP r l
  | false=>false
theorem uU:∀{a l:List Nat},AP a l=true->∀x∈a,x∈l
 | [],l,h,x,hx=>by simp at hx
 | y::r,l,h,x,hx=>by
  simp only[AP] at h;split at h
  .rename_i hy;rcases Y6.1 hx with rfl|hx
   .exact l5.1 hy
   .exact uU h x hx
  .cases h
def kN(P:Program)(ops:List Oper)(i:Nat):Bool:=
 match ops[i]? with
 | some o=>match kind P o.op with
  | .eff=>true
  | _=>false
 | none=>true
def CE(ops:List Oper)(done:List Nat)(i:Nat):Bool:=
 match ops[i]? with
 | some o=>AP (mF o) done
 | none=>false
def PA(f:Nat->Bool):List Nat->Option Nat
 | []=>none
 | x::r=>match f x with
  | true=>some x
  | false=>PA f r
def Jz(x:Nat):List Nat->List Nat
 | []=>[]
 | y::r=>match Nat.beq x y with
  | true=>r
  | false=>y::Jz x r
def t8(P:Program)(ops:List Oper):Nat->List Nat->List Nat->List Nat
 | 0,_,_=>[]
 | n+1,done,pend=>match PA (λi=>!kN P ops i && CE ops done i) pend with
  | some i=>i::t8 P ops n (i::done) (Jz i pend)
  | none=>match PA (λi=>CE ops done i) pend with
   | some i=>i::t8 P ops n (i::done) (Jz i pend)
   | none=>[]
def yC:Nat->List Nat
 | 0=>[]
 | n+1=>yC n++[n]
def Lr(P:Program)(ops:List Oper)(tr:List (List Nat)):List Nat->List Nat->Bool
 | _,[]=>true
 | done,i::r=>!xZ i done && (Nat.blt i ops.length && (CE ops done i &&
   ((match kN P ops i with
    | true=>r.all λk=>xZ i ((tr[k]?).getD [])
    | false=>true) && Lr P ops tr (i::done) r)))
def Ru(ops:List Oper)(tr:List (List Nat)):Bool:=
 (yC ops.length).all λj=>match ops[j]? with
  | some oj=>match oj.dst with
   | some d=>(yC ops.length).all λi=>match ops[i]? with
    | some oi=>Nat.beq i j || ((match oi.dst with|some d'=>!Nat.beq d d'|none=>true) && (!xZ d (looks ops oi) || (xZ j ((tr[i]?).getD []) || xZ i ((tr[j]?).getD []))))
    | none=>true
   | none=>true
  | none=>true
def BL(P:Program)(ops:List Oper)(ord:List Nat):Bool:=
 AP (yC ops.length) ord && (Lr P ops (Li ops []) [] ord && Ru ops (Li ops []))
def T(tr:List (List Nat))(i:Nat):List Nat:=(tr[i]?).getD []
structure yQ(P:Program)(ops:List Oper)(ord:List Nat)(tr:List (List Nat)):Prop where
 tok:Nj ops tr
 lt:∀i∈ord,i<ops.length
 full:∀i,i<ops.length->i∈ord
 resp:∀pre i r,ord=pre++i::r->∀o,ops[i]? = some o->∀j∈mF o,j∈pre
 eff:∀pre x r,ord=pre++x::r->kN P ops x=true->∀i∈r,x∈T tr i
 nod:ord.Nodup
 dst:∀(i j:Nat) (oi oj:Oper) (d:Nat),ops[i]? = some oi->ops[j]? = some oj->oi.dst=some d->oj.dst=some d->i=j
 look:∀(i j:Nat) (oi oj:Oper) (d:Nat),i≠j->ops[i]? = some oi->ops[j]? = some oj->oj.dst=some d->d∈looks ops oi->j∈T tr i\/i∈T tr j
theorem zX:∀{n i:Nat},i<n->i∈yC n
 | n+1,i,h=>by
  simp only[yC,ZI,aAY];rcases ZG i n with h'|h'
  .exact .inl (zX h')
  .exact .inr om
theorem BU{P:Program}{ops:List Oper}{tr:List (List Nat)}:∀{done ord:List Nat},Lr P ops tr done ord=true->done.Nodup ->
  (∀i∈ord,i<ops.length/\i∉done)/\ord.Nodup/\(∀pre i r,ord=pre++i::r->(∀o,ops[i]? = some o->∀j∈mF o,j∈pre\/j∈done)/\(kN P ops i=true->∀k∈r,i∈T tr k))
 | done,[],h,hn=>⟨sq,aCf,λpre i r e=>by simp at e⟩
 | done,i::r,h,hn=>by
  simp only[Lr,Y1] at h;obtain⟨h1,h2,h3,h4,h5⟩:=h;have h1:i∉done:=λhm=>by rw[l5.2 hm] at h1;simp at h1
  have h2:i<ops.length:=Y5 h2;obtain⟨k1,k2,k3⟩:=BU h5 (Zv.2 ⟨h1,hn⟩);refine⟨λk hk=>?_,Zv.2 ⟨λhm=>(k1 i hm).2 (ZQ ..),k2⟩,λpre x t e=>?_⟩
  .rcases Y6.1 hk with rfl|hk
   .exact⟨h2,h1⟩
   .exact⟨(k1 k hk).1,λhm=>(k1 k hk).2 (ZE _ hm)⟩
  .cases pre with
   | nil=>
    simp at e;obtain⟨rfl,rfl⟩:=e;refine⟨λo ho j hj=>?_,λhe k hk=>?_⟩
    .unfold CE at h3;rw[ho] at h3;exact .inr (uU h3 j hj)
    .rw[he] at h4;simp only[Z3] at h4;exact l5.1 (h4 k hk)
   | cons p pre=>
    simp at e;obtain⟨rfl,rfl⟩:=e;obtain⟨q1,q2⟩:=k3 pre x t rfl;refine⟨λo ho j hj=>?_,q2⟩;rcases q1 o ho j hj with h|h
    .exact .inl (ZE _ h)
    .rcases Y6.1 h with rfl|h
     .exact .inl (ZQ ..)
     .exact .inr h
theorem G3{P:Program}{ops:List Oper}{ord:List Nat}(h:BL P ops ord=true):yQ P ops ord (Li ops []):=by
 simp only[BL,Y1] at h;obtain⟨h1,h2,h3⟩:=h;obtain⟨k1,k2,k3⟩:=BU h2 aCf;have hsl:∀(i j:Nat) (oi oj:Oper) (d:Nat),i≠j->ops[i]? = some oi->ops[j]? = some oj->oj.dst=some d->(∀d',oi.dst=some d'->d≠d')/\(d∈looks ops oi->j∈T (Li ops []) i\/i∈T (Li ops []) j):=by
  intro i j oi oj d hij hi hj hd;have hil:i<ops.length:=by
   rcases ZG i ops.length with h'|h'
   .exact h'
   .rw[ZH h'] at hi;cases hi
  have hjl:j<ops.length:=by
   rcases ZG j ops.length with h'|h'
   .exact h'
   .rw[ZH h'] at hj;cases hj
  have a1:=Z3.1 h3 j (zX hjl);simp only[hj,hd] at a1;have a2:=Z3.1 a1 i (zX hil);simp only[hi,Z0,Y1] at a2;rcases a2 with a2|⟨a2,a3⟩
  .exact absurd (Nat.eq_of_beq_eq_true a2) hij
  .refine⟨λd' hd' e=>?_,λhl=>?_⟩
   .rw[hd'] at a2;subst e;simp at a2
   .rcases a3 with a3|a3|a3
    .rw[l5.2 hl] at a3;simp at a3
    .exact .inl (l5.1 a3)
    .exact .inr (l5.1 a3)
 refine⟨Rh ops,λi hi=>(k1 i hi).1,λi hi=>uU h1 i (zX hi),λpre i r e o ho j hj=>?_,λpre x r e he=>(k3 pre x r e).2 he,k2, ?_, ?_⟩
 .rcases(k3 pre i r e).1 o ho j hj with h|h
  .exact h
  .simp at h
 .intro i j oi oj d hi hj hdi hdj;refine Classical.byContradiction λhij=>?_
  exact(hsl i j oi oj d hij hi hj hdj).1 d hdi rfl
 .intro i j oi oj d hij hi hj hd hl;exact(hsl i j oi oj d hij hi hj hd).2 hl
theorem yQ.tpre{P:Program}{ops:List Oper}{ord:List Nat}{tr:List (List Nat)}(h:yQ P ops ord tr):∀pre i r,ord=pre++i::r->∀x∈T tr i,x∈pre:=by
 intro pre i r e x hx;have hcl:=h.tok.closed (L:=λk=>k∈pre++[i]) (λk o hk ho j hj=>by
  rcases ZI.1 hk with hk|hk
  .obtain⟨p1,p2,rfl⟩:=aBx hk;have:=h.resp p1 k (p2++i::r) (by rw[e];simp) o ho j hj;exact Zf _ (Zf _ this)
  .simp at hk;subst hk;exact Zf _ (h.resp pre k r e o ho j hj)) i sq x hx
 rcases ZI.1 hcl with h1|h1
 .exact h1
 .exfalso;simp at h1;subst h1;have key:∀k x',x'∈T tr k->∀p q,ord=p++k::q->x'∈p:=by
   intro k
   induction k using Nat.strongRecOn with
   | _ k ih=>
    intro x' hx' p q ep;obtain⟨o,ho,j,hj,h'⟩:=h.tok k x' hx';have hjp:=h.resp p k q ep o ho j hj;rcases h' with rfl|⟨h1,h2⟩
    .exact hjp
    .obtain⟨p1,p2,rfl⟩:=aBx hjp;have:=ih j h1 x' h2 p1 (p2++k::q) (by rw[ep];simp);exact Zf _ this
  have:=key x x hx pre r e;have hnd:=h.nod;rw[e] at hnd;rw[aBk] at hnd;exact hnd.2.2 x this x (ZQ ..) rfl
structure BD where
 i:Nat
 sl:List (Nat × AV)
 want:Bool
 v:AV
def HV(tr:List (List Nat))(base n i id:Nat):Bool:=
 match Nat.ble base id && Nat.blt id (base+n) with
 | true=>xZ (id-base) (T tr i)
 | false=>true
def fL(tr:List (List Nat))(base n i:Nat)(m:aQ):aQ:=m.filter λp=>HV tr base n i p.1
def fZ(tr:List (List Nat))(base n i:Nat)(m:aQ):aQ:=m.filter λp=>!HV tr base n i p.1
def s6(k:Nat):aQ->Bool
 | []=>false
 | p::r=>match Nat.beq p.1 k with
  | true=>true
  | false=>s6 k r
theorem yM{k:Nat}:∀{m:aQ},s6 k m=true↔∃p∈m,p.1=k
 | []=>by simp[s6]
 | p::r=>by
  simp only[s6];cases h:Nat.beq p.1 k with
  | true=>simp[Nat.eq_of_beq_eq_true h]
  | false=>
   have:=Z6 h;simp[this,yM]
def qW(m l:aQ):aQ:=l.filter λp=>!s6 p.1 m
def T0(P:Program)(C:List (Nat × AV))(ops:List Oper)(tr:List (List Nat))(base x:Nat)(s:St):List BD->Prop
 | []=>True
 | r::rs=>(xZ r.i (T tr x)=false->r.want=true->∀o,ops[r.i]? = some o->kind P o.op = .pure->still o.op=false ->
   ∃m k,c8 P C { sl:=r.sl,mem:=fL tr base ops.length r.i s.mem,nx:=s.nx,nt:=s.nt } o.op=some (r.v,m,k))/\T0 P C ops tr base x s rs
def p8(P:Program)(C:List (Nat × AV))(H:Hk)(ops:List Oper)(tr:List (List Nat))(base:Nat)(K:St->Prop)(Kp:Value->aQ->Nat->Prop):List Nat->List BD->St->Prop
 | [],recs,s=>K s
 | i::r,recs,s=>match ops[i]? with
  | none=>False
  | some o=>match mQ ops s o.guard with
   | none=>False
   | some false=>match eY s o.dst (.tup []) s.mem s.nx with
    | some s'=>p8 P C H ops tr base K Kp r (⟨i,s.sl,false,.tup []⟩::recs) s'
    | none=>False
   | some true=>match kind P o.op with
    | .pure=>match c8 P C { s with mem:=fL tr base ops.length i s.mem } o.op with
     | some (v,_,_)=>match eY s o.dst v s.mem s.nx with
      | some s'=>p8 P C H ops tr base K Kp r (⟨i,s.sl,true,v⟩::recs) s'
      | none=>False
     | none=>False
    | .al=>match c8 P C { s with mem:=[],nx:=base+i } o.op with
     | some (v,[(_,b)],_)=>match eY s o.dst v ((base+i,b)::s.mem) s.nx with
      | some s'=>p8 P C H ops tr base K Kp r (⟨i,s.sl,true,v⟩::recs) s'
      | none=>False
     | _=>False
    | .eff=>match c8 P C { s with mem:=fL tr base ops.length i s.mem } o.op with
     | some (v,m,nx)=>match eY s o.dst v (m++qW m (fZ tr base ops.length i s.mem)) nx with
      | some s'=>T0 P C ops tr base i s' recs/\p8 P C H ops tr base K Kp r recs s'
      | none=>False
     | none=>match pD P C s o.op with
      | some (F,args)=>H.call F args (fL tr base ops.length i s.mem) s.nx (λv m nx=>match eY s o.dst v (m++qW m (fZ tr base ops.length i s.mem)) nx with
       | some s'=>T0 P C ops tr base i s' recs/\p8 P C H ops tr base K Kp r recs s'
       | none=>False) Kp
      | none=>False
def FJ(P:Program)(C:List (Nat × AV))(H:Hk)(ops:List Oper)(s:St)(K:St->Prop)(Kp:Value->aQ->Nat->Prop):Prop:=
 match BL P ops (t8 P ops ops.length [] (yC ops.length)) with
 | true=>p8 P C H ops (Li ops []) s.nx K Kp (t8 P ops ops.length [] (yC ops.length)) [] { s with nx:=s.nx+ops.length }
 | false=>False
def gF(sl:List (Nat × AV)):List Nat->List (Nat × AV)
 | []=>[]
 | t::r=>match lk sl t with
  | some v=>(t,v)::gF sl r
  | none=>gF sl r
theorem AS{sl:List (Nat × AV)}:∀{ts:List Nat} {t:Nat} {v:AV},lk (gF sl ts) t=some v->t∈ts/\lk sl t=some v
 | [],t,v,h=>by simp[gF,lk] at h
 | u::r,t,v,h=>by
  simp only[gF] at h;split at h
  .rename_i x hx;simp only[lk] at h;split at h
   .rename_i hu;have hu:=Nat.eq_of_beq_eq_true hu;subst hu;cases h;exact⟨ZQ ..,hx⟩
   .obtain⟨h1,h2⟩:=AS h;exact⟨ZE _ h1,h2⟩
  .obtain⟨h1,h2⟩:=AS h;exact⟨ZE _ h1,h2⟩
theorem CQ{sl:List (Nat × AV)}:∀{ts:List Nat} {t:Nat},t∈ts->lk (gF sl ts) t=lk sl t
 | u::r,t,h=>by
  simp only[gF];by_cases htu:t=u
  .subst htu;split
   .rename_i x hx;simp[lk,hx]
   .rename_i hx;rw[hx];cases hl:lk (gF sl r) t with
    | none=>rfl
    | some v=>rw[(AS hl).2] at hx;cases hx
  .have hr:t∈r:=by
    rcases Y6.1 h with h|h
    .exact absurd h htu
    .exact h
   split
   .rename_i x hx;simp only[lk,tH (Ne.symm htu)];exact CQ hr
   .exact CQ hr
theorem EN{ops:List Oper}{o:Oper}{t:Nat}(h:Operand.tmp t∈o.op.operands):t∈looks ops o:=by
 refine Zf _ (List.mem_filterMap.2 ⟨.tmp t,su h,rfl⟩)
theorem JE{ops:List Oper}{o og:Oper}{g:Nat}{b:Bool}{d:Nat}(h:o.guard=some (g,b))(hg:ops[g]? = some og)(hd:og.dst=some d):d∈looks ops o:=by
 refine Z9 _ ?_;simp[h,hg,hd]
theorem CC{C:List (Nat × AV)}{ops:List Oper}{o:Oper}{s s':St}(hs:s'.sl=gF s.sl (looks ops o)):∀x∈o.op.operands,ev C s x=ev C s' x:=by
 intro x hx;cases x with
 | tmp t=>simp only[ev,hs];exact(CQ (EN hx)).symm
 | const c=>rfl
 | global g=>rfl
 | func f=>rfl
theorem yA{ops:List Oper}{o:Oper}{s s':St}(hs:s'.sl=gF s.sl (looks ops o)):mQ ops s o.guard=mQ ops s' o.guard:=by
 unfold mQ;cases hg:o.guard with
 | none=>rfl
 | some p=>
  obtain⟨j,b⟩:=p;simp only;cases hj:ops[j]? with
  | none=>rfl
  | some oj=>
   simp only;cases hd:oj.dst with
   | none=>rfl
   | some d=>
    simp only[hs];rw[CQ (JE hg hj hd)]
def Fa(L:Nat->Bool)(base n id:Nat):Bool:=!(Nat.ble base id && Nat.blt id (base+n)) || L (id-base)
def gC(L:Nat->Bool)(base n:Nat)(m:aQ):aQ:=m.filter λp=>Fa L base n p.1
def DN(D0:Nat->Prop)(B base n:Nat)(L:Nat->Bool)(cur:Nat):Nat->Prop:=
 λid=>D0 id\/(B<=id/\id<base)\/(∃i,id=base+i/\i<n/\L i=true)\/(base+n<=id/\id<cur)
theorem Gx{tr:List (List Nat)}{base n i id:Nat}:HV tr base n i id=true↔(base<=id/\id<base+n->id-base∈T tr i):=by
 unfold HV;split
 .rename_i h;rw[Y1] at h;have h1:=Y5 h.1;have h2:id<base+n:=Y5 h.2;rw[l5];exact⟨λh' _=>h',λh'=>h' ⟨h1,h2⟩⟩
 .rename_i h;simp only[true_iff];rintro⟨h1,h2⟩;rw[aAD] at h;exfalso;rcases h with h|h
  .rw[Y3 h1] at h;cases h
  .have:Nat.blt id (base+n)=true:=Y3 h2;rw[this] at h;cases h
theorem jA{L:Nat->Bool}{base n id:Nat}:Fa L base n id=true↔(base<=id/\id<base+n->L (id-base)=true):=by
 unfold Fa;rw[Z0];constructor
 .rintro(h|h) ⟨h1,h2⟩
  .have a1:=Y3 h1;have a2:Nat.blt id (base+n)=true:=Y3 h2;rw[a1,a2] at h;simp at h
  .exact h
 .intro h;by_cases h1:base<=id/\id<base+n
  .exact .inr (h h1)
  .left;have:(Nat.ble base id && Nat.blt id (base+n))=false:=by
    rw[aAD];by_cases h2:base<=id
    .right;cases h3:Nat.blt id (base+n) with
     | false=>rfl
     | true=>exact absurd ⟨h2,Y5 h3⟩ h1
    .left;cases h3:Nat.ble base id with
     | false=>rfl
     | true=>exact absurd (Y5 h3) h2
   rw[this];rfl
theorem f7{m:aQ}{f:Nat × AB->Bool}(h:(m.map (·.1)).Nodup):((m.filter f).map (·.1)).Nodup:=by
 induction m with
 | nil=>simp
 | cons p r ih=>
  simp only[Z2,Zv] at h;rw[aBK];split
  .simp only[Z2,Zv];refine⟨λhm=>h.1 ?_,ih h.2⟩;obtain⟨q,hq,e⟩:=ZL.1 hm;exact ZL.2 ⟨q,(Zd.1 hq).1,e⟩
  .exact ih h.2
theorem sF{m:aQ}(h:(m.map (·.1)).Nodup){p q:Nat × AB}(hp:p∈m)(hq:q∈m)(e:p.1=q.1):p=q:=by
 induction m with
 | nil=>cases hp
 | cons x r ih=>
  simp only[Z2,Zv] at h;rcases Y6.1 hp with hp1|hp1<;>rcases Y6.1 hq with hq1|hq1
  .rw[hp1,hq1]
  .exact absurd (show x.1∈r.map (·.1) from ZL.2 ⟨q,hq1,by rw[<-e,hp1]⟩) h.1
  .exact absurd (show x.1∈r.map (·.1) from ZL.2 ⟨p,hp1,by rw[e,hq1]⟩) h.1
  .exact ih h.2 hp1 hq1
theorem I7{L:Nat->Bool}{tr:List (List Nat)}{base n i:Nat}{m:aQ}(hn:(m.map (·.1)).Nodup)(hT:∀j∈T tr i,L j=true) :
  uT (gC L base n m) (fL tr base n i m) (gC L base n (fZ tr base n i m)):=by
 refine⟨λp hp=>?_,λp hp=>?_,λp hp=>?_,λp hp q hq e=>?_,f7 hn⟩
 .obtain⟨h1,h2⟩:=Zd.1 hp;exact Zd.2 ⟨h1,jA.2 λh=>hT _ (Gx.1 h2 h)⟩
 .obtain⟨h1,h2⟩:=Zd.1 hp;exact Zd.2 ⟨(Zd.1 h1).1,h2⟩
 .obtain⟨h1,h2⟩:=Zd.1 hp;cases hv:HV tr base n i p.1 with
  | true=>exact .inl (Zd.2 ⟨h1,hv⟩)
  | false=>exact .inr (Zd.2 ⟨Zd.2 ⟨h1,by simp[hv]⟩,h2⟩)
 .obtain⟨h1,h2⟩:=Zd.1 hp;obtain⟨h3,_⟩:=Zd.1 hq;obtain⟨h4,h5⟩:=Zd.1 h3;have:=sF hn h1 h4 e;subst this;rw[h2] at h5;simp at h5
structure PD(P:Program)(C:List (Nat × AV))(ops:List Oper)(tr:List (List Nat))(base:Nat)(s0 s:St)(r:BD)(o:Oper):Prop where
 op:ops[r.i]? = some o
 want:∀s':St,s'.sl=r.sl->mQ ops s' o.guard=some r.want
 dst:∀d,o.dst=some d->d<s0.nt/\lk s.sl d=some r.v
 lookT:∀t∈looks ops o,∀j∈T tr r.i,∀oj,ops[j]? = some oj->oj.dst=some t->lk r.sl t=lk s.sl t
 look0:∀t∈looks ops o,(∀j∈T tr r.i,∀oj,ops[j]? = some oj->oj.dst≠some t)->lk r.sl t=lk s0.sl t
 no:r.want=false->r.v = .tup []
 neff:r.want=true->kind P o.op≠.eff
 noal:(r.want=false\/kind P o.op≠.al)->∀p∈s.mem,p.1≠base+r.i
 pur:r.want=true->kind P o.op = .pure->∃m k,c8 P C { sl:=r.sl,mem:=fL tr base ops.length r.i s.mem,nx:=s.nx,nt:=s.nt } o.op=some (r.v,m,k)
 alc:r.want=true->kind P o.op = .al->∃b k k',c8 P C { sl:=r.sl,mem:=[],nx:=base+r.i,nt:=s.nt } o.op=some (r.v,[(k,b)],k')/\(base+r.i,b)∈s.mem
structure AZ(P:Program)(C:List (Nat × AV))(H:Hk)(ops:List Oper)(ord:List Nat)(tr:List (List Nat))(base B:Nat)(D0 X:Nat->Prop)(ds:List Deferred × Nat)(K:St->Prop)(Kp:Value->aQ->Nat->Prop)(s0:St)(ρ0:Nat->dP)(w0:World)
  (L:Nat->Bool) (pre rest:List Nat) (recs:List BD) (s:St) (E:Nat->dP) (a:Act) (w:World):Prop where
 eq:ord=pre++rest
 run:p8 P C H ops tr base K Kp rest recs s
 Lpre:∀i,L i=true->i∈pre
 effL:∀i∈pre,kN P ops i=true->L i=true
 clos:∀i o,L i=true->ops[i]? = some o->∀j∈mF o,L j=true
 nx:base+ops.length<=s.nx
 nt:s.nt=s0.nt
 mr:MR C X E (DN D0 B base ops.length L s.nx) (gC L base ops.length s.mem) w
 nod:(s.mem.map (·.1)).Nodup
 low:∀p∈s.mem,p.1<s.nx
 def0:FX (OX X ρ0 s0.mem) w0 ds a.defers
 size:a.tmps.size=s0.nt
 slotL:∀i o d v,L i=true->ops[i]? = some o->o.dst=some d->lk s.sl d=some v->VR E (DN D0 B base ops.length L s.nx) (OX X E (gC L base ops.length s.mem)) w v (a.tmps.getD d undef)
 slot0:∀t v,(∀i o,L i=true->ops[i]? = some o->o.dst≠some t)->lk s0.sl t=some v->VR E (DN D0 B base ops.length L s.nx) (OX X E (gC L base ops.length s.mem)) w v (a.tmps.getD t undef)
 virt0:∀t,(∀i∈pre,∀o,ops[i]? = some o->o.dst≠some t)->lk s.sl t=lk s0.sl t
 recs:∀i∈pre,L i=false->∃r∈recs,r.i=i/\∃o,PD P C ops tr base s0 s r o
 alid:∀p∈s.mem,base<=p.1->p.1<base+ops.length->p.1-base∈pre
 ext:Ext D0 ρ0 s0.mem w0 E (DN D0 B base ops.length L s.nx) (gC L base ops.length s.mem) w
end Go.Ax
namespace Go.Ax
open Go
theorem Of{ops:List Oper}{s s':St}(h:s'.sl=s.sl)(g:Option (Nat × Bool)):mQ ops s' g=mQ ops s g:=by
 unfold mQ;rw[h]
theorem f6{s s':St}{d:Option Nat}{v:AV}{mem:aQ}{nx:Nat}(h:eY s d v mem nx=some s') :
  s'.mem=mem/\s'.nx=nx/\s'.nt=s.nt/\(∀t,d≠some t->lk s'.sl t=lk s.sl t)/\∀t,d=some t->t<s.nt/\lk s'.sl t=some v:=by
 unfold eY at h;split at h
 .cases h;exact⟨rfl,rfl,rfl,λ_ _=>rfl,λt e=>by cases e⟩
 .rename_i d';split at h
  .rename_i hlt;have hlt:d'<s.nt:=Y5 hlt;cases h;refine⟨rfl,rfl,rfl,λt e=>?_,λt e=>?_⟩
   .simp only[HZ];rw[Yz (λe'=>e (by rw[e']))]
   .cases e;exact⟨hlt,by simp only[HZ,if_true]⟩
  .cases h
section
variable {P:Program} {C:List (Nat × AV)} {H:Hk} {ops:List Oper} {ord:List Nat} {tr:List (List Nat)} {base B:Nat} {D0 X:Nat->Prop} {ds:List Deferred × Nat} {K:St->Prop} {Kp:Value->aQ->Nat->Prop} {s0:St} {ρ0:Nat->dP} {w0:World}
 {L:Nat->Bool} {pre rest:List Nat} {recs:List BD} {s:St} {E:Nat->dP} {a:Act} {w:World}
theorem w5(st:yQ P ops ord tr){i:Nat}{r:List Nat}(e:ord=pre++i::r):i∉pre/\i∉r/\∀k∈r,k∉pre:=by
 have hn:=st.nod;rw[e,aBk] at hn;obtain⟨h1,h2,h3⟩:=hn;exact⟨λh=>h3 i h i (ZQ ..) rfl,(Zv.1 h2).1,λk hk h=>h3 k h k (ZE _ hk) rfl⟩
theorem JM(st:yQ P ops ord tr){i:Nat}{r:List Nat}(e:ord=pre++i::r){k:Nat}(hk:k∈pre):∀x∈T tr k,x∈pre:=by
 intro x hx;obtain⟨p1,p2,rfl⟩:=aBx hk;have:=st.tpre p1 k (p2++i::r) (by rw[e];simp) x hx;exact Zf _ this
theorem AZ.ahead(st:yQ P ops ord tr){i:Nat}{r:List Nat}(h:AZ P C H ops ord tr base B D0 X ds K Kp s0 ρ0 w0 L pre (i::r) recs s E a w)(hne:kN P ops i=false) :
  ∃recs' s',AZ P C H ops ord tr base B D0 X ds K Kp s0 ρ0 w0 L (pre++[i]) r recs' s' E a w:=by
 obtain⟨hi1,hi2,hi3⟩:=w5 st h.eq;have hLi:L i=false:=by
  cases hL:L i with
  | false=>rfl
  | true=>exact absurd (h.Lpre i hL) hi1
 have hilt:i<ops.length:=st.lt i (by rw[h.eq];simp);have hrun:=h.run;simp only[p8] at hrun;split at hrun
 .exact hrun.elim
 .rename_i o ho;have hneff:kind P o.op≠.eff:=by
   intro e;simp[kN,ho,e] at hne
  have main:∀(want:Bool) (v:AV) (m':aQ) (s':St),mQ ops s o.guard=some want->eY s o.dst v m' s.nx=some s'->(want=false->v = .tup []) ->
    (m'=s.mem\/∃b,m'=(base+i,b)::s.mem/\want=true/\kind P o.op = .al/\∃k k',c8 P C { s with mem:=[],nx:=base+i } o.op=some (v,[(k,b)],k')) ->
    (want=true->kind P o.op = .al->m'≠s.mem) ->
    (want=true->kind P o.op = .pure->m'=s.mem/\∃m k,c8 P C { s with mem:=fL tr base ops.length i s.mem } o.op=some (v,m,k)) ->
    p8 P C H ops tr base K Kp r (⟨i,s.sl,want,v⟩::recs) s' ->
    AZ P C H ops ord tr base B D0 X ds K Kp s0 ρ0 w0 L (pre++[i]) r (⟨i,s.sl,want,v⟩::recs) s' E a w:=by
   intro want v m' s' hw hst hno hm hal hpur hr;obtain⟨e1,e2,e3,e4,e5⟩:=f6 hst;have hnokey:∀p∈s.mem,p.1≠base+i:=by
    intro p hp e;have:=h.alid p hp om om;rw[e] at this;simp at this;exact hi1 this
   have hmem:gC L base ops.length s'.mem=gC L base ops.length s.mem:=by
    rw[e1];rcases hm with rfl|⟨b,rfl,_⟩
    .rfl
    .unfold gC;rw[aBK,Yz];simp only[Fa];have a1:Nat.ble base (base+i)=true:=Y3 om;have a2:Nat.blt (base+i) (base+ops.length)=true:=Y3 om;rw[a1,a2];simp[hLi]
   have hseen:∀k∈pre,fL tr base ops.length k s'.mem=fL tr base ops.length k s.mem:=by
    intro k hk;rw[e1];rcases hm with rfl|⟨b,rfl,_⟩
    .rfl
    .unfold fL;rw[aBK,Yz];simp only;rw[Bool.not_eq_true];cases hv:HV tr base ops.length k (base+i) with
     | false=>rfl
     | true=>
      have:=Gx.1 hv oq;simp at this;exact absurd (JM st h.eq hk i this) hi1
   have hsub:∀p∈s.mem,p∈s'.mem:=by
    intro p hp;rw[e1];rcases hm with rfl|⟨b,rfl,_⟩
    .exact hp
    .exact ZE _ hp
   have hback:∀p∈s'.mem,p∈s.mem\/p.1=base+i:=by
    intro p hp;rw[e1] at hp;rcases hm with rfl|⟨b,rfl,_⟩
    .exact .inl hp
    .rcases Y6.1 hp with rfl|hp
     .exact .inr rfl
     .exact .inl hp
   have hdk:∀k ok d,k≠i->ops[k]? = some ok->ok.dst=some d->o.dst≠some d:=λk ok d hki hok hd e=>hki (st.dst k i ok o d hok ho hd e)
   refine⟨by rw[h.eq];simp,hr,λk hk=>Zf _ (h.Lpre k hk), ?_,h.clos,by rw[e2];exact h.nx,by rw[e3];exact h.nt, ?_, ?_, ?_,h.def0,h.size, ?_, ?_, ?_, ?_, ?_, ?_⟩
   .intro k hk he;rcases ZI.1 hk with hk|hk
    .exact h.effL k hk he
    .simp at hk;subst hk;rw[hne] at he;cases he
   .rw[e2,hmem];exact h.mr
   .rw[e1];rcases hm with rfl|⟨b,rfl,_⟩
    .exact h.nod
    .simp only[Z2,Zv];refine⟨λhm=>?_,h.nod⟩;obtain⟨p,hp,e⟩:=ZL.1 hm;exact hnokey p hp e
   .intro p hp;rw[e2];rcases hback p hp with hp|e
    .exact h.low p hp
    .have:=h.nx;omega
   .intro k ok d v' hk hok hd hl;rw[e2,hmem];have hki:k≠i:=λe=>by rw[e,hLi] at hk;cases hk
    rw[e4 d (hdk k ok d hki hok hd)] at hl;exact h.slotL k ok d v' hk hok hd hl
   .intro t v' ht hl;rw[e2,hmem];exact h.slot0 t v' ht hl
   .intro t ht;rw[e4 t (ht i sq o ho)];exact h.virt0 t λk hk ok hok=>ht k (Zf _ hk) ok hok
   .intro k hk hLk;rcases ZI.1 hk with hk|hk
    .obtain⟨rc,hrc,rfl,ok,hok⟩:=h.recs k hk hLk;have hki:rc.i≠i:=λe=>hi1 (e ▸ hk)
     refine⟨rc,ZE _ hrc,rfl,ok,hok.op,hok.want,λd hd=>?_,λt ht j hj oj hoj hdj=>?_,hok.look0,hok.no,hok.neff,λhc p hp=>?_,λhw' hk'=>?_,λhw' hk'=>?_⟩
     .rw[e4 d (hdk _ ok d hki hok.op hd)];exact hok.dst d hd
     .have hji:j≠i:=λe=>hi1 (e ▸ JM st h.eq hk j hj)
      rw[e4 t (hdk j oj t hji hoj hdj)];exact hok.lookT t ht j hj oj hoj hdj
     .rcases hback p hp with hp|e
      .exact hok.noal hc p hp
      .intro e';omega
     .rw[hseen _ hk,e2,e3];exact hok.pur hw' hk'
     .obtain⟨b,k1,k2,q1,q2⟩:=hok.alc hw' hk';exact⟨b,k1,k2,by rw[e3];exact q1,hsub _ q2⟩
    .simp at hk;subst hk;refine⟨⟨k,s.sl,want,v⟩,ZQ ..,rfl,o,ho,λs2 hs2=>?_,λd hd=>?_,λt ht j hj oj hoj hdj=>?_,λt ht hnj=>?_,hno,λ_=>hneff,λhc p hp=>?_,λhw' hk'=>?_,λhw' hk'=>?_⟩
     .rw[Of hs2];exact hw
     .obtain⟨q1,q2⟩:=e5 d hd;exact⟨by rw[<-h.nt];exact q1,q2⟩
     .have hjk:j≠k:=λe=>hi1 (e ▸ st.tpre pre k r h.eq j hj)
      exact(e4 t (hdk j oj t hjk hoj hdj)).symm
     .refine h.virt0 t λj hj oj hoj hdj=>?_
      have hjk:j≠k:=λe=>hi1 (e ▸ hj)
      rcases st.look k j o oj t (Ne.symm hjk) ho hoj hdj ht with h1|h1
      .exact hnj j h1 oj hoj hdj
      .exact hi1 (JM st h.eq hj k h1)
     .rcases hback p hp with hp|e
      .exact hnokey p hp
      .exfalso;rcases hm with rfl|⟨b,_,h1,h2,_⟩
       .rw[e1] at hp;exact hnokey p hp e
       .rcases hc with hc|hc
        .simp only at hc;rw[h1] at hc;cases hc
        .exact hc h2
     .obtain⟨q1,m,k',q2⟩:=hpur hw' hk';refine⟨m,k', ?_⟩;simp only;rw[e1,q1,e2,e3];exact q2
     .rcases hm with rfl|⟨b,rfl,h1,h2,k1,k2,q⟩
      .exact absurd rfl (hal hw' hk')
      .refine⟨b,k1,k2, ?_,by rw[e1];exact ZQ ..⟩;simp only;rw[e3];exact q
   .intro p hp h1 h2;rcases hback p hp with hp|e
    .exact Zf _ (h.alid p hp h1 h2)
    .rw[e];simp
   .rw[e2,hmem];exact h.ext
  split at hrun
  .exact hrun.elim
  .rename_i hw;split at hrun
   .rename_i s' hst;exact⟨_,s',main false _ s.mem s' hw hst (λ_=>rfl) (.inl rfl) (λe=>by cases e) (λe=>by cases e) hrun⟩
   .exact hrun.elim
  .rename_i hw;split at hrun
   .rename_i hk;split at hrun
    .rename_i v m k hstep;split at hrun
     .rename_i s' hst;exact⟨_,s',main true v s.mem s' hw hst (λe=>by cases e) (.inl rfl) (λ_ e=>by rw[hk] at e;cases e) (λ_ _=>⟨rfl,m,k,hstep⟩) hrun⟩
     .exact hrun.elim
    .exact hrun.elim
   .rename_i hk;split at hrun
    .rename_i v k b k' hstep;split at hrun
     .rename_i s' hst;exact⟨_,s',main true v ((base+i,b)::s.mem) s' hw hst (λe=>by cases e) (.inr ⟨b,rfl,rfl,hk,k,k',hstep⟩) (λ_ _ e=>by simpa using congrArg List.length e) (λ_ e=>by rw[hk] at e;cases e) hrun⟩
     .exact hrun.elim
    .exact hrun.elim
   .rename_i hk;exact absurd hk hneff
theorem AZ.far(st:yQ P ops ord tr):∀{rest pre:List Nat} {recs:List BD} {s:St},AZ P C H ops ord tr base B D0 X ds K Kp s0 ρ0 w0 L pre rest recs s E a w ->
  ∃pre' rest' recs' s',AZ P C H ops ord tr base B D0 X ds K Kp s0 ρ0 w0 L pre' rest' recs' s' E a w/\∀x r,rest'=x::r->kN P ops x=true
 | [],pre,recs,s,h=>⟨pre,[],recs,s,h,λx r e=>by cases e⟩
 | i::r,pre,recs,s,h=>by
  cases he:kN P ops i with
  | true=>exact⟨pre,i::r,recs,s,h,λx r' e=>by cases e;exact he⟩
  | false=>
   obtain⟨recs',s',h'⟩:=h.ahead st he;exact AZ.far st h'
end
end Go.Ax
namespace Go.Ax
open Go
theorem O3{P:Program}{C:List (Nat × AV)}{s:St}{op:Op}(hk:kind P op = .al){v:AV}{m:aQ}{n:Nat}(h:c8 P C s op=some (v,m,n)):n=s.nx+1/\∃b,m=(s.nx,b)::s.mem:=by
 cases op<;>simp only[kind] at hk<;>first|(cases hk;done)|skip
 case alloc t=>
  simp only[c8] at h;unfold uG at h;repeat(split at h<;>first|(cases h;done)|skip)
  cases h;exact⟨rfl,_,rfl⟩
 case box t x=>
  simp only[c8] at h;split at h
  .unfold IC at h;repeat(split at h<;>first|(cases h;done)|skip)
   cases h;exact⟨rfl,_,rfl⟩
  .cases h
 case buildSlice t l p=>
  simp only[c8] at h;split at h
  .unfold iP at h;repeat(split at h<;>first|(cases h;done)|skip)
   cases h;exact⟨rfl,_,rfl⟩
  .cases h
 case makeSlice t x y=>
  simp only[c8] at h;split at h
  .split at h
   .unfold Bt at h;repeat(split at h<;>first|(cases h;done)|skip)
    cases h;exact⟨rfl,_,rfl⟩
   .cases h
  .cases h
 case makeMap t x=>
  simp only[c8] at h;split at h
  .cases h;exact⟨rfl,_,rfl⟩
  .cases h
 case convert src dst x=>
  exfalso;split at hk<;>cases hk
 case call c=>
  exfalso;split at hk<;>cases hk
def fT(L:Nat->Bool)(i:Nat):Nat->Bool:=λk=>Nat.beq k i || L k
theorem lE{L:Nat->Bool}{i:Nat}:fT L i i=true:=by simp[fT]
theorem jT{L:Nat->Bool}{i k:Nat}(h:L k=true):fT L i k=true:=by simp[fT,h]
theorem tC{L:Nat->Bool}{i k:Nat}(h:k≠i):fT L i k=L k:=by simp[fT,tH h]
theorem p5{L:Nat->Bool}{i k:Nat}:fT L i k=true↔k=i\/L k=true:=by
 by_cases h:k=i
 .subst h;simp[fT]
 .simp[fT,tH h,h]
theorem GQ{a:Act}{d:Option Nat}{x:Value}{t:Nat}(h:d≠some t):(a.put d x).tmps.getD t undef=a.tmps.getD t undef:=by
 cases d with
 | none=>rfl
 | some d=>
  have:d≠t:=λe=>h (by rw[e])
  simp[Act.put,aAh this]
theorem Pd{a:Act}{d:Nat}{x:Value}(h:d<a.tmps.size):(a.put (some d) x).tmps.getD d undef=x:=by
 simp[Act.put,h]
section
variable {P:Program} {C:List (Nat × AV)} {H:Hk} {ops:List Oper} {ord:List Nat} {tr:List (List Nat)} {base B:Nat} {D0 X:Nat->Prop} {ds:List Deferred × Nat} {K:St->Prop} {Kp:Value->aQ->Nat->Prop} {s0:St} {ρ0:Nat->dP} {w0:World}
 {L:Nat->Bool} {pre rest:List Nat} {recs:List BD} {s:St} {E E':Nat->dP} {a:Act} {w w':World}
theorem EC{n cur cur' i:Nat}(hc:cur<=cur'):∀id,DN D0 B base n L cur id->DN D0 B base n (fT L i) cur' id:=by
 rintro id (h|h|⟨k,h1,h2,h3⟩|⟨h1,h2⟩)
 .exact .inl h
 .exact .inr (.inl h)
 .exact .inr (.inr (.inl ⟨k,h1,h2,jT h3⟩))
 .exact .inr (.inr (.inr ⟨h1,om⟩))
theorem D5{n i:Nat}{m:aQ}(h:∀p∈m,p.1≠base+i):gC (fT L i) base n m=gC L base n m:=by
 unfold gC;refine List.filter_congr λp hp=>?_
 have hp:=h p hp;cases h1:Fa L base n p.1 with
 | true=>exact jA.2 λh'=>jT (jA.1 h1 h')
 | false=>
  cases h2:Fa (fT L i) base n p.1 with
  | false=>rfl
  | true=>
   have:=jA.1 h2;rw[<-h1];refine(jA.2 λh'=>?_).symm;have h3:=this h'
   rwa [tC om] at h3
theorem AT(st:yQ P ops ord tr)(h:AZ P C H ops ord tr base B D0 X ds K Kp s0 ρ0 w0 L pre rest recs s E a w){i:Nat}{o:Oper}(ho:ops[i]? = some o)(hr:∀j∈mF o,L j=true):(∀j∈T tr i,L j=true)/\i∉T tr i:=by
 have hio:i∈ord:=st.full i (by
  rcases ZG i ops.length with h'|h'
  .exact h'
  .rw[ZH h'] at ho;cases ho)
 obtain⟨p,q,e⟩:=aBx hio;have hself:i∉T tr i:=λh'=>(w5 st e).1 (st.tpre p i q e i h')
 refine⟨λj hj=>?_,hself⟩;have:=st.tok.closed (L:=λk=>k=i\/L k=true) (λk ok hk hok x hx=>by
  rcases hk with rfl|hk
  .rw[ho] at hok;cases hok;exact .inr (hr x hx)
  .exact .inr (h.clos k ok hk hok x hx)) i (.inl rfl) j hj
 rcases this with rfl|h'
 .exact absurd hj hself
 .exact h'
theorem T5(st:yQ P ops ord tr)(h:AZ P C H ops ord tr base B D0 X ds K Kp s0 ρ0 w0 L pre rest recs s E a w){k:Nat}(hk:L k=true):∀j∈T tr k,L j=true:=
 st.tok.closed (L:=λk=>L k=true) (λi o hi ho j hj=>h.clos i o hi ho j hj) k hk
theorem AZ.small(st:yQ P ops ord tr)(h:AZ P C H ops ord tr base B D0 X ds K Kp s0 ρ0 w0 L pre rest recs s E a w){r:BD}{o:Oper}(hr:PD P C ops tr base s0 s r o)(hL:L r.i=false)(hrd:∀j∈mF o,L j=true) :
  ∀t v,lk (gF r.sl (looks ops o)) t=some v->VR E (DN D0 B base ops.length L s.nx) (OX X E (gC L base ops.length s.mem)) w v (a.tmps.getD t undef):=by
 intro t v hl;obtain⟨ht,hl⟩:=AS hl;obtain⟨hT,_⟩:=AT st h hr.op hrd;by_cases hj:∃j∈T tr r.i,∃oj,ops[j]? = some oj/\oj.dst=some t
 .obtain⟨j,hj,oj,hoj,hd⟩:=hj;rw[hr.lookT t ht j hj oj hoj hd] at hl;exact h.slotL j oj t v (hT j hj) hoj hd hl
 .have hnj:∀j∈T tr r.i,∀oj,ops[j]? = some oj->oj.dst≠some t:=λj h1 oj h2 h3=>hj ⟨j,h1,oj,h2,h3⟩
  rw[hr.look0 t ht hnj] at hl;refine h.slot0 t v (λk ok hk hok hd=>?_) hl;have hki:r.i≠k:=λe=>by rw[<-e,hL] at hk;cases hk
  rcases st.look r.i k o ok t hki hr.op hok hd ht with h1|h1
  .exact hnj k h1 ok hok hd
  .have:=T5 st h hk r.i h1;rw[hL] at this;cases this
theorem AZ.list(st:yQ P ops ord tr)(h:AZ P C H ops ord tr base B D0 X ds K Kp s0 ρ0 w0 L pre rest recs s E a w){i:Nat}{o:Oper}(hi:i∈pre)(hL:L i=false)(ho:ops[i]? = some o)(hrd:∀j∈mF o,L j=true)
  (hm:MR C X E' (DN D0 B base ops.length (fT L i) s.nx) (gC (fT L i) base ops.length s.mem) w')
  (mono:∀v x,VR E (DN D0 B base ops.length L s.nx) (OX X E (gC L base ops.length s.mem)) w v x->VR E' (DN D0 B base ops.length (fT L i) s.nx) (OX X E' (gC (fT L i) base ops.length s.mem)) w' v x)
  (ext:Ext D0 E (gC L base ops.length s.mem) w E' (DN D0 B base ops.length (fT L i) s.nx) (gC (fT L i) base ops.length s.mem) w') {x:Value}
  (hd:∀d v,o.dst=some d->lk s.sl d=some v->d<s0.nt/\VR E' (DN D0 B base ops.length (fT L i) s.nx) (OX X E' (gC (fT L i) base ops.length s.mem)) w' v x) :
  AZ P C H ops ord tr base B D0 X ds K Kp s0 ρ0 w0 (fT L i) pre rest recs s E' (a.put o.dst x) w':=by
 refine⟨h.eq,h.run,λk hk=>?_,λk hk he=>jT (h.effL k hk he),λk ok hk hok j hj=>?_,h.nx,h.nt,hm,h.nod,h.low, ?_, ?_, ?_, ?_,h.virt0,λk hk hk'=>?_,h.alid,h.ext.trans ext⟩
 .rcases p5.1 hk with rfl|hk
  .exact hi
  .exact h.Lpre k hk
 .rcases p5.1 hk with rfl|hk
  .rw[ho] at hok;cases hok;exact jT (hrd j hj)
  .exact jT (h.clos k ok hk hok j hj)
 .cases hdd:o.dst<;>simpa[Act.put] using h.def0
 .cases hdd:o.dst<;>simpa[Act.put] using h.size
 .intro k ok d v hk hok hdd hl;rcases p5.1 hk with rfl|hk'
  .rw[ho] at hok;cases hok;obtain⟨h1,h2⟩:=hd d v hdd hl;rw[hdd,Pd (by rw[h.size];exact h1)];exact h2
  .have hne:o.dst≠some d:=λe=>by
    have:=st.dst k i ok o d hok ho hdd e;rw[this,hL] at hk';cases hk'
   rw[GQ hne];exact mono _ _ (h.slotL k ok d v hk' hok hdd hl)
 .intro t v ht hl;rw[GQ (ht i o lE ho)];exact mono _ _ (h.slot0 t v (λk ok hk hok=>ht k ok (jT hk) hok) hl)
 .have hki:k≠i:=λe=>by rw[e,lE] at hk';cases hk'
  rw[tC hki] at hk';exact h.recs k hk hk'
end
end Go.Ax
namespace Go.Ax
open Go
section
variable {P:Program} {C:List (Nat × AV)} {H:Hk} {ops:List Oper} {ord:List Nat} {tr:List (List Nat)} {base B:Nat} {D0 X:Nat->Prop} {ds:List Deferred × Nat} {K:St->Prop} {Kp:Value->aQ->Nat->Prop} {s0:St} {ρ0:Nat->dP} {w0:World}
 {L:Nat->Bool} {pre rest:List Nat} {recs:List BD} {s:St} {E E':Nat->dP} {a:Act} {w w':World}
theorem N2{n cur:Nat}(hD:∀i,D0 i->i<B)(hB:B<=base)(hc:base+n<=cur):∀id,DN D0 B base n L cur id->id<cur:=by
 rintro id (h|⟨h1,h2⟩|⟨k,h1,h2,h3⟩|⟨h1,h2⟩)
 .have:=hD id h;omega
 .omega
 .omega
 .exact h2
theorem P8{n cur k:Nat}(hD:∀i,D0 i->i<B)(hB:B<=base)(hk:k<n)(h:DN D0 B base n L cur (base+k)):L k=true:=by
 rcases h with h|⟨h1,h2⟩|⟨j,h1,h2,h3⟩|⟨h1,h2⟩
 .have:=hD _ h;omega
 .omega
 .rwa [show k=j by omega]
 .omega
theorem oY{i:Nat}{o:Oper}(ho:ops[i]? = some o):i<ops.length:=by
 rcases ZG i ops.length with h'|h'
 .exact h'
 .rw[ZH h'] at ho;cases ho
theorem AZ.step(rd:Option Nat)(st:yQ P ops ord tr)(hD:∀i,D0 i->i<B)(hB:B<=base)(h:AZ P C H ops ord tr base B D0 X ds K Kp s0 ρ0 w0 L pre rest recs s E a w){i:Nat}{o:Oper}(hi:i∈pre)(hL:L i=false)(ho:ops[i]? = some o)
  (hrd:∀j∈mF o,L j=true) (Q:Exit->Act->World->Prop) (K':Act->World->Prop)
  (hK':∀E' a' w',AZ P C H ops ord tr base B D0 X ds K Kp s0 ρ0 w0 (fT L i) pre rest recs s E' a' w'->K' a' w') :
  if Region.wanted o (yielded ops.toArray a.tmps) then o.wpIn (FW rd) 0 P a w K' Q else K' (a.put o.dst undef) w:=by
 obtain⟨r,hrm,rfl,o',hr⟩:=h.recs i hi hL;have e:=hr.op;rw[ho] at e;cases e;have hsm:=h.small st hr hL hrd;obtain⟨hT,hself⟩:=AT st h ho hrd;have hil:=oY ho;have hp0:uT (gC L base ops.length s.mem) [] (gC L base ops.length s.mem):=
  ⟨λp hp=>by simp at hp,λp hp=>hp,λp hp=>.inr hp,λp hp=>by simp at hp,sq⟩
 obtain⟨m0,v0⟩:=h.mr.part hp0;have hs0:∀nx,SR C (XR X E (gC L base ops.length s.mem)) ds E (DN D0 B base ops.length L s.nx) { sl:=gF r.sl (looks ops o),mem:=[],nx:=nx,nt:=s.nt } a w:=
  λnx=>⟨m0,hp0.mks (h.ext.mks h.def0),by rw[h.size,<-h.nt],λt v hl=>v0 _ _ (hsm t v hl)⟩
 have hw:mQ ops { sl:=gF r.sl (looks ops o),mem:=[],nx:=0,nt:=s.nt } o.guard=some r.want:=by
  rw[<-yA (s:={ sl:=r.sl,mem:=[],nx:=0,nt:=s.nt }) (o:=o) rfl];exact hr.want _ rfl
 rw[iO (hs0 0) hw];have hsame:(r.want=false\/kind P o.op≠.al)->∀x,(∀d v,o.dst=some d->lk s.sl d=some v->d<s0.nt/\VR E (DN D0 B base ops.length L s.nx) (OX X E (gC L base ops.length s.mem)) w v x)->K' (a.put o.dst x) w:=by
  intro hc x hd;obtain⟨w1,w2,w3⟩:=h.mr.widen (EC (cur:=s.nx) (cur':=s.nx) (i:=r.i) (Y8 _));have em:gC (fT L r.i) base ops.length s.mem=gC L base ops.length s.mem:=D5 (hr.noal hc);refine hK' E _ w (h.list st hi hL ho hrd (by rw[em];exact w1) (by rw[em];exact w2) (by rw[em];exact w3 D0 λi hi=>.inl hi) λd v hd1 hd2=>?_);rw[em];obtain⟨q1,q2⟩:=hd d v hd1 hd2;exact⟨q1,w2 _ _ q2⟩
 cases hwant:r.want with
 | false=>
  simp only[aAl,if_false];refine hsame (.inl hwant) undef λd v hd hl=>?_
  obtain⟨q1,q2⟩:=hr.dst d hd;rw[q2] at hl;cases hl;rw[hr.no hwant];exact⟨q1,vW⟩
 | true=>
  simp only[if_true];cases hk:kind P o.op with
  | eff=>exact absurd hk (hr.neff hwant)
  | pure=>
   obtain⟨m,k,hstep⟩:=hr.pur hwant hk;have hp:=I7 (base:=base) (n:=ops.length) h.nod hT;obtain⟨m1,v1⟩:=h.mr.part hp;have hs1:SR C (XR X E (gC L base ops.length (fZ tr base ops.length r.i s.mem))) ds E (DN D0 B base ops.length L s.nx) { sl:=gF r.sl (looks ops o),mem:=fL tr base ops.length r.i s.mem,nx:=s.nx,nt:=s.nt } a w:=
    ⟨m1,hp.mks (h.ext.mks h.def0),by rw[h.size,<-h.nt],λt v hl=>v1 _ _ (hsm t v hl)⟩
   rw[uF (s:={ sl:=r.sl,mem:=fL tr base ops.length r.i s.mem,nx:=s.nx,nt:=s.nt }) (s':={ sl:=gF r.sl (looks ops o),mem:=fL tr base ops.length r.i s.mem,nx:=s.nx,nt:=s.nt }) (CC (ops:=ops) (o:=o) rfl) rfl rfl] at hstep;obtain⟨_,_,x,e1,e2⟩:=Jc hs1 o hk hstep;refine tI (Ao hstep) e1 ?_;simp only[Oper.uponIn];refine hsame (.inr (by rw[hk];intro e;cases e)) x λd v hd hl=>?_
   obtain⟨q1,q2⟩:=hr.dst d hd;rw[q2] at hl;cases hl;exact⟨q1,e2.mono (λ_ _=>rfl) (λ_ h=>h) λb _ hb=>⟨λh'=>hb ((hp.own b).2 h'),rfl⟩⟩
  | al=>
   obtain⟨b,k,k',hstep,hbm⟩:=hr.alc hwant hk;rw[uF (s:={ sl:=r.sl,mem:=[],nx:=base+r.i,nt:=s.nt }) (s':={ sl:=gF r.sl (looks ops o),mem:=[],nx:=base+r.i,nt:=s.nt }) (CC (ops:=ops) (o:=o) rfl) rfl rfl] at hstep;obtain⟨e1,b',e2⟩:=O3 hk hstep;simp only at e1 e2;simp at e2;obtain⟨⟨rfl,rfl⟩⟩:=e2;obtain⟨x,n,w',E',r1,r2,r3,r4,r5,r6⟩:=n9 (P:=P) (D':=DN D0 B base ops.length (fT L r.i) s.nx)
    (λh'=>by have:=P8 hD hB hil h';rw[hL] at this;cases this) (EC (Y8 _)) (hs0 (base+r.i)) o (λ_=>.inr (.inr (.inl ⟨r.i,rfl,hil,lE⟩))) hstep
   have hnok:∀q∈gC L base ops.length s.mem,q.1≠base+r.i:=by
    intro q hq e;have:=jA.1 (Zd.1 hq).2 oq;rw[show q.1-base=r.i by omega,hL] at this;cases this
   obtain⟨j1,j2,j3,j4⟩:=h.mr.join hp0 r3 (r6 _ λi hi=>hi) (λp hp=>hp) (λp hp q hq=>by
    simp at hp;subst hp;exact Ne.symm (hnok q hq)) (f7 h.nod)
   obtain⟨l1,l2,l3⟩:=j1.less (mem':=gC (fT L r.i) base ops.length s.mem) (λp hp=>by
    obtain⟨p1,p2⟩:=Zd.1 hp;by_cases hpe:p.1=base+r.i
    .have:=sF h.nod p1 hbm hpe;rw[this];simp
    .refine Z9 _ (Zd.2 ⟨p1,jA.2 λh'=>?_⟩);have:=jA.1 p2 h'
     rwa [tC om] at this) (f7 h.nod)
   have fin:K' (a.put o.dst x) w':=by
    refine hK' E' _ w' (h.list st hi hL ho hrd l1 (λv y hv=>l2 _ _ (j3 _ _ hv)) ((j4 D0 λi hi=>.inl hi).trans (l3 D0 λi hi=>.inl hi)) λd v hd hl=>?_);obtain⟨q1,q2⟩:=hr.dst d hd;rw[q2] at hl;cases hl;exact⟨q1,l2 _ _ (j2 _ _ r4)⟩
   refine tI (Ao hstep) r1 ?_;rcases r2 with rfl|⟨rfl,rfl⟩
   .exact fin
   .exact fin
theorem AZ.head(st:yQ P ops ord tr){i:Nat}{r:List Nat}(h:AZ P C H ops ord tr base B D0 X ds K Kp s0 ρ0 w0 L pre (i::r) recs s E a w){o:Oper}(ho:ops[i]? = some o)(hrd:∀j∈mF o,L j=true)
  (he:kN P ops i=true) {recs':List BD} {s':St} {v:AV} {x:Value} {m':aQ} {nx':Nat} (hsub:∀c∈recs,c∈recs') (hst:eY s o.dst v m' nx'=some s') (hrun:p8 P C H ops tr base K Kp r recs' s') (hnx:s.nx<=nx')
  (c1:(m'.map (·.1)).Nodup) (c2:∀p∈m',p.1<nx') (c3:∀p∈m',base<=p.1->p.1<base+ops.length->fT L i (p.1-base)=true\/p∈s.mem)
  (c4:∀p∈s.mem,base<=p.1->p.1<base+ops.length->fT L i (p.1-base)=false->p∈m')
  (hm:MR C X E' (DN D0 B base ops.length (fT L i) nx') (gC (fT L i) base ops.length m') w')
  (mono:∀v x,VR E (DN D0 B base ops.length L s.nx) (OX X E (gC L base ops.length s.mem)) w v x->VR E' (DN D0 B base ops.length (fT L i) nx') (OX X E' (gC (fT L i) base ops.length m')) w' v x)
  (ext:Ext D0 E (gC L base ops.length s.mem) w E' (DN D0 B base ops.length (fT L i) nx') (gC (fT L i) base ops.length m') w')
  (hv:VR E' (DN D0 B base ops.length (fT L i) nx') (OX X E' (gC (fT L i) base ops.length m')) w' v x)
  (c6:∀c∈recs,c.i∉T tr i->∀oc,PD P C ops tr base s0 s c oc->c.want=true->kind P oc.op = .pure->∃m k,c8 P C { sl:=c.sl,mem:=fL tr base ops.length c.i s'.mem,nx:=s'.nx,nt:=s'.nt } oc.op=some (c.v,m,k)) :
  AZ P C H ops ord tr base B D0 X ds K Kp s0 ρ0 w0 (fT L i) (pre++[i]) r recs' s' E' (a.put o.dst x) w':=by
 obtain⟨hi1,hi2,hi3⟩:=w5 st h.eq;have hLi:L i=false:=by
  cases hL:L i with
  | false=>rfl
  | true=>exact absurd (h.Lpre i hL) hi1
 obtain⟨hT,hself⟩:=AT st h ho hrd;obtain⟨e1,e2,e3,e4,e5⟩:=f6 hst;have hdk:∀k ok d,k≠i->ops[k]? = some ok->ok.dst=some d->o.dst≠some d:=λk ok d hki hok hd e=>hki (st.dst k i ok o d hok ho hd e)
 have hne:∀k∈pre,k≠i:=λk hk e=>hi1 (e ▸ hk)
 refine⟨by rw[h.eq];simp,hrun,λk hk=>?_,λk hk he'=>?_,λk ok hk hok j hj=>?_,by rw[e2];exact Zj h.nx hnx,by rw[e3];exact h.nt,by rw[e1,e2];exact hm,by rw[e1];exact c1,by rw[e1,e2];exact c2, ?_, ?_, ?_, ?_, ?_, ?_, ?_,by rw[e1,e2];exact h.ext.trans ext⟩
 .rcases p5.1 hk with rfl|hk
  .simp
  .exact Zf _ (h.Lpre k hk)
 .rcases ZI.1 hk with hk|hk
  .exact jT (h.effL k hk he')
  .simp at hk;subst hk;exact lE
 .rcases p5.1 hk with rfl|hk
  .rw[ho] at hok;cases hok;exact jT (hrd j hj)
  .exact jT (h.clos k ok hk hok j hj)
 .cases hdd:o.dst<;>simpa[Act.put] using h.def0
 .cases hdd:o.dst<;>simpa[Act.put] using h.size
 .intro k ok d u hk hok hdd hl;rw[e1,e2];rcases p5.1 hk with rfl|hk'
  .rw[ho] at hok;cases hok;obtain⟨q1,q2⟩:=e5 d hdd;rw[q2] at hl;cases hl;rw[hdd,Pd (by rw[h.size,<-h.nt];exact q1)];exact hv
  .have hn:=hdk k ok d (hne k (h.Lpre k hk')) hok hdd;rw[GQ hn];rw[e4 d hn] at hl;exact mono _ _ (h.slotL k ok d u hk' hok hdd hl)
 .intro t u ht hl;rw[e1,e2,GQ (ht i o lE ho)];exact mono _ _ (h.slot0 t u (λk ok hk hok=>ht k ok (jT hk) hok) hl)
 .intro t ht;rw[e4 t (ht i sq o ho)];exact h.virt0 t λk hk ok hok=>ht k (Zf _ hk) ok hok
 .intro k hk hLk;have hki:k≠i:=λe=>by rw[e,lE] at hLk;cases hLk
  have hLk':L k=false:=by rwa [tC hki] at hLk
  have hkp:k∈pre:=by
   rcases ZI.1 hk with hk|hk
   .exact hk
   .simp at hk;exact absurd hk hki
  obtain⟨rc,hrc,rfl,ok,hok⟩:=h.recs k hkp hLk';have hnT:rc.i∉T tr i:=λh'=>by have:=hT _ h';rw[hLk'] at this;cases this
  have hrl:=oY hok.op;refine⟨rc,hsub _ hrc,rfl,ok,hok.op,hok.want,λd hd=>?_,λt ht j hj oj hoj hdj=>?_,hok.look0,hok.no,hok.neff,λhc p hp e=>?_,λhw' hk'=>?_,λhw' hk'=>?_⟩
  .rw[e4 d (hdk _ ok d hki hok.op hd)];exact hok.dst d hd
  .rw[e4 t (hdk j oj t (hne j (JM st h.eq hkp j hj)) hoj hdj)];exact hok.lookT t ht j hj oj hoj hdj
  .rw[e1] at hp;rcases c3 p hp om om with h1|h1
   .rw[show p.1-base=rc.i by omega,hLk] at h1;cases h1
   .exact hok.noal hc p h1 e
  .exact c6 rc hrc hnT ok hok hw' hk'
  .obtain⟨b,k1,k2,q1,q2⟩:=hok.alc hw' hk';refine⟨b,k1,k2,by rw[e3];exact q1, ?_⟩;rw[e1];refine c4 _ q2 sq (by simp;exact hrl) ?_;simpa using hLk
 .intro p hp h1 h2;rw[e1] at hp;rcases c3 p hp h1 h2 with h3|h3
  .rcases p5.1 h3 with h3|h3
   .rw[h3];simp
   .exact Zf _ (h.Lpre _ h3)
  .exact Zf _ (h.alid p h3 h1 h2)
end
end Go.Ax
namespace Go.Ax
open Go
theorem I6{m l:aQ}:∀p∈qW m l,p∈l:=λp hp=>(Zd.1 hp).1
theorem IL{m l:aQ}:∀p∈m,∀q∈qW m l,p.1≠q.1:=by
 intro p hp q hq e;have:=(Zd.1 hq).2;rw[yM.2 ⟨p,hp,e⟩] at this;cases this
theorem LS{P:Program}{C:List (Nat × AV)}{ops:List Oper}{tr:List (List Nat)}{base x:Nat}{s:St}:∀{recs:List BD},T0 P C ops tr base x s recs->∀c∈recs,c.i∉T tr x->c.want=true ->
  ∀o,ops[c.i]? = some o->kind P o.op = .pure->still o.op=false->∃m k,c8 P C { sl:=c.sl,mem:=fL tr base ops.length c.i s.mem,nx:=s.nx,nt:=s.nt } o.op=some (c.v,m,k)
 | [],h,c,hc,_,_,_,_,_,_=>by simp at hc
 | r::rs,h,c,hc,h1,h2,o,ho,hk,hs=>by
  obtain⟨h',h⟩:=h;rcases Y6.1 hc with rfl|hc
  .refine h' ?_ h2 o ho hk hs;cases hm:xZ c.i (T tr x) with
   | false=>rfl
   | true=>exact absurd (l5.1 hm) h1
  .exact LS h c hc h1 h2 o ho hk hs
def C9(t:Nat):List Oper->Bool
 | []=>false
 | o::r=>match o.dst with
  | some d=>match Nat.beq d t with
   | true=>true
   | false=>C9 t r
  | none=>C9 t r
def vH(ops:List Oper):List (Nat × AV)->List (Nat × AV)
 | []=>[]
 | (t,v)::r=>match C9 t ops with
  | true=>vH ops r
  | false=>(t,v)::vH ops r
theorem BW{t:Nat}:∀{ops:List Oper},C9 t ops=false->∀(i:Nat) (o:Oper),ops[i]? = some o->o.dst≠some t
 | [],_,i,o,h=>by simp at h
 | p::r,h,i,o,ho=>by
  simp only[C9] at h;have key:C9 t r=false/\p.dst≠some t:=by
   split at h
   .rename_i d hd;split at h
    .cases h
    .rename_i hb;exact⟨h,by rw[hd];intro e;cases e;exact Z6 hb rfl⟩
   .rename_i hd;exact⟨h,by rw[hd];intro e;cases e⟩
  cases i with
  | zero=>simp at ho;subst ho;exact key.2
  | succ i=>exact BW key.1 i o (su ho)
theorem Dq{ops:List Oper}:∀{sl:List (Nat × AV)} {t:Nat} {v:AV},lk (vH ops sl) t=some v->lk sl t=some v/\C9 t ops=false
 | [],t,v,h=>by simp[vH,lk] at h
 | (i,u)::r,t,v,h=>by
  simp only[vH] at h;split at h
  .rename_i hd;obtain⟨h1,h2⟩:=Dq h;refine⟨?_,h2⟩;simp only[lk];split
   .rename_i e;rw[Nat.eq_of_beq_eq_true e] at hd;rw[hd] at h2;cases h2
   .exact h1
  .rename_i hd;simp only[lk] at h |-;split at h
   .rename_i e;rw[Nat.eq_of_beq_eq_true e] at hd;exact⟨h,hd⟩
   .exact Dq h
section
variable {P:Program} {C:List (Nat × AV)} {H:Hk} {ops:List Oper} {ord:List Nat} {tr:List (List Nat)} {base B:Nat} {D0 X:Nat->Prop} {ds:List Deferred × Nat} {K:St->Prop} {Kp:Value->aQ->Nat->Prop} {s0:St} {ρ0:Nat->dP} {w0:World}
 {L:Nat->Bool} {pre rest:List Nat} {recs:List BD} {s:St} {E E':Nat->dP} {a:Act} {w w':World}
theorem AZ.now(rd:Option Nat)(st:yQ P ops ord tr)(hH:zL P C B H)(hD:∀i,D0 i->i<B)(hB:B<=base){i:Nat}{r:List Nat}(h:AZ P C H ops ord tr base B D0 X ds K Kp s0 ρ0 w0 L pre (i::r) recs s E a w){o:Oper}(ho:ops[i]? = some o)(hrd:∀j∈mF o,L j=true)
  (he:kN P ops i=true) (Q:Exit->Act->World->Prop) (K':Act->World->Prop)
  (hK':∀pre' rest' recs' s' E' a' w',AZ P C H ops ord tr base B D0 X ds K Kp s0 ρ0 w0 (fT L i) pre' rest' recs' s' E' a' w'->K' a' w')
  (hP:∀(x:Value) (m':aQ) (nx':Nat) (E':Nat->dP) (w':World),Kp x m' nx'->B<=nx'->SR C X ds E' (dn D0 B nx') ⟨vH ops s0.sl,m',nx',s0.nt⟩ a w'->Ext D0 ρ0 s0.mem w0 E' (dn D0 B nx') m' w'->Q (.panic [pe x]) a w') :
  if Region.wanted o (yielded ops.toArray a.tmps) then o.wpIn (FW rd) 0 P a w K' Q else K' (a.put o.dst undef) w:=by
 obtain⟨hi1,hi2,hi3⟩:=w5 st h.eq;have hLi:L i=false:=by
  cases hL:L i with
  | false=>rfl
  | true=>exact absurd (h.Lpre i hL) hi1
 obtain⟨hT,hself⟩:=AT st h ho hrd;have hil:=oY ho;have hkind:kind P o.op = .eff:=by
  simp only[kN,ho] at he;split at he
  .assumption
  .cases he
 have hp:=I7 (base:=base) (n:=ops.length) h.nod hT;obtain⟨m1,v1⟩:=h.mr.part hp;have hsm:∀t v,lk (gF s.sl (looks ops o)) t=some v->VR E (DN D0 B base ops.length L s.nx) (OX X E (gC L base ops.length s.mem)) w v (a.tmps.getD t undef):=by
  intro t v hl;obtain⟨ht,hl⟩:=AS hl;by_cases hj:∃j∈pre,∃oj,ops[j]? = some oj/\oj.dst=some t
  .obtain⟨j,hj,oj,hoj,hd⟩:=hj;rcases st.look i j o oj t (λe=>hi1 (e ▸ hj)) ho hoj hd ht with h1|h1
   .exact h.slotL j oj t v (hT j h1) hoj hd hl
   .exact absurd (JM st h.eq hj i h1) hi1
  .have hnj:∀j∈pre,∀oj,ops[j]? = some oj->oj.dst≠some t:=λj h1 oj h2 h3=>hj ⟨j,h1,oj,h2,h3⟩
   rw[h.virt0 t hnj] at hl;exact h.slot0 t v (λk ok hk hok=>hnj k (h.Lpre k hk) ok hok) hl
 have hs1:SR C (XR X E (gC L base ops.length (fZ tr base ops.length i s.mem))) ds E (DN D0 B base ops.length L s.nx) { sl:=gF s.sl (looks ops o),mem:=fL tr base ops.length i s.mem,nx:=s.nx,nt:=s.nt } a w:=
  ⟨m1,hp.mks (h.ext.mks h.def0),by rw[h.size,<-h.nt],λt v hl=>v1 _ _ (hsm t v hl)⟩
 have hnokey:∀p∈s.mem,p.1≠base+i:=by
  intro p hp' e;have:=h.alid p hp' om om;rw[e] at this;simp at this;exact hi1 this
 have behind:∀(v:AV) (x:Value) (m:aQ) (nx':Nat) (s':St) (E':Nat->dP) (w':World),eY s o.dst v (m++qW m (fZ tr base ops.length i s.mem)) nx'=some s'->T0 P C ops tr base i s' recs ->
   p8 P C H ops tr base K Kp r recs s'->s.nx<=nx'->MR C (XR X E (gC L base ops.length (fZ tr base ops.length i s.mem))) E' (DN D0 B base ops.length (fT L i) nx') m w' ->
   VR E' (DN D0 B base ops.length (fT L i) nx') (OX (XR X E (gC L base ops.length (fZ tr base ops.length i s.mem))) E' m) w' v x ->
   Ext (DN D0 B base ops.length L s.nx) E (fL tr base ops.length i s.mem) w E' (DN D0 B base ops.length (fT L i) nx') m w'->K' (a.put o.dst x) w':=by
  intro v x m nx' s' E' w' hst hchk hrun hnx hm hv hext;have eL:∀l:aQ,(∀p∈l,p∈s.mem)->gC (fT L i) base ops.length l=gC L base ops.length l:=λl hl=>D5 λp hp'=>hnokey p (hl p hp')
  have hun:∀p∈qW m (fZ tr base ops.length i s.mem),p∈s.mem:=λp hp'=>(Zd.1 (I6 p hp')).1
  obtain⟨j1,j2,j3,j4⟩:=h.mr.join hp hm hext (rest':=gC (fT L i) base ops.length (qW m (fZ tr base ops.length i s.mem)))
   (λp hp'=>by
    rw[eL _ hun] at hp';obtain⟨q1,q2⟩:=Zd.1 hp';exact Zd.2 ⟨I6 p q1,q2⟩)
   (λp hp' q hq=>IL p hp' q (Zd.1 hq).1) (f7 (f7 (f7 h.nod)))
  have hnod:((m++qW m (fZ tr base ops.length i s.mem)).map (·.1)).Nodup:=by
   rw[aAQ,aBk];refine⟨hm.nod,f7 (f7 h.nod),λp hp' q hq=>?_⟩;obtain⟨p',hp1,rfl⟩:=ZL.1 hp';obtain⟨q',hq1,rfl⟩:=ZL.1 hq;exact IL p' hp1 q' hq1
  obtain⟨l1,l2,l3⟩:=j1.less (mem':=gC (fT L i) base ops.length (m++qW m (fZ tr base ops.length i s.mem))) (λp hp'=>by
   obtain⟨q1,q2⟩:=Zd.1 hp';rcases ZI.1 q1 with q1|q1
   .exact Zf _ q1
   .exact Z9 _ (Zd.2 ⟨q1,q2⟩)) (f7 hnod)
  have hcur:base+ops.length<=nx':=Zj h.nx hnx;refine hK' _ _ _ _ E' _ w' (h.head st ho hrd he (λc hc=>hc) hst hrun hnx hnod ?_ ?_ ?_ l1 (λu y hu=>l2 _ _ (j3 _ _ hu)) ((j4 D0 λi hi=>.inl hi).trans (l3 D0 λi hi=>.inl hi)) (l2 _ _ (j2 _ _ hv)) ?_)
  .intro p hp';rcases ZI.1 hp' with hp'|hp'
   .exact N2 hD hB hcur _ (hm.low p hp')
   .have:=h.low p (hun p hp');omega
  .intro p hp' h1 h2;rcases ZI.1 hp' with hp'|hp'
   .left;have:=hm.low p hp';rw[show p.1=base+(p.1-base) by omega] at this;exact P8 hD hB om this
   .exact .inr (hun p hp')
  .intro p hp' h1 h2 h3;refine Z9 _ (Zd.2 ⟨Zd.2 ⟨hp', ?_⟩, ?_⟩)
   .cases hv:HV tr base ops.length i p.1 with
    | false=>rfl
    | true=>
     have:=hT _ (Gx.1 hv ⟨h1,h2⟩);rw[jT this] at h3;cases h3
   .cases hh:s6 p.1 m with
    | false=>rfl
    | true=>
     obtain⟨q,hq,e⟩:=yM.1 hh;have:=hm.low q hq;rw[e,show p.1=base+(p.1-base) by omega] at this;have:=P8 hD hB om this;rw[h3] at this;cases this
  .intro c hc hcT oc hoc hw hk;cases hst':still oc.op with
   | false=>exact LS hchk c hc hcT hw oc hoc.op hk hst'
   | true=>
    obtain⟨m,k,q⟩:=hoc.pur hw hk;exact qI (s:={ sl:=c.sl,mem:=fL tr base ops.length c.i s.mem,nx:=s.nx,nt:=s.nt }) (s':={ sl:=c.sl,mem:=fL tr base ops.length c.i s'.mem,nx:=s'.nx,nt:=s'.nt }) hst' rfl q
 have hrun:=h.run;simp only[p8,ho] at hrun;split at hrun
 .exact hrun.elim
 .rename_i hw;rw[yA (s':={ sl:=gF s.sl (looks ops o),mem:=fL tr base ops.length i s.mem,nx:=s.nx,nt:=s.nt }) (o:=o) rfl] at hw;rw[iO hs1 hw];simp only[aAl,if_false];split at hrun
  .rename_i s' hst;obtain⟨w1,w2,w3⟩:=h.mr.widen (EC (cur:=s.nx) (cur':=s.nx) (i:=i) (Y8 _));have em:gC (fT L i) base ops.length s.mem=gC L base ops.length s.mem:=D5 hnokey;obtain⟨e1,e2,e3,e4,e5⟩:=f6 hst;refine hK' _ _ _ _ E _ w (h.head st ho hrd he (λc hc=>ZE _ hc) hst hrun (Y8 _) h.nod h.low (λp hp' _ _=>.inr hp') (λp hp' _ _ _=>hp') (by rw[em];exact w1) (by rw[em];exact w2) (by rw[em];exact w3 D0 λi hi=>.inl hi) vW ?_);intro c hc hcT oc hoc hw hk;rw[e1,e2,e3];exact hoc.pur hw hk
  .exact hrun.elim
 .rename_i hw;rw[yA (s':={ sl:=gF s.sl (looks ops o),mem:=fL tr base ops.length i s.mem,nx:=s.nx,nt:=s.nt }) (o:=o) rfl] at hw;rw[iO hs1 hw];simp only[if_true];simp only[hkind] at hrun;split at hrun
  .rename_i v m nx' hstep;split at hrun
   .rename_i s' hst;obtain⟨hchk,hrun⟩:=hrun
    .rw[uF (s:={ s with mem:=fL tr base ops.length i s.mem }) (s':={ sl:=gF s.sl (looks ops o),mem:=fL tr base ops.length i s.mem,nx:=s.nx,nt:=s.nt }) (CC (ops:=ops) (o:=o) rfl) rfl rfl] at hstep;have hnx:s.nx<=nx':=by have h':=AE hstep;dsimp only at h';omega
     obtain⟨x,n,w',E',r1,r2,r3,r4,r5,r6⟩:=n9 (P:=P) (s:={ sl:=gF s.sl (looks ops o),mem:=fL tr base ops.length i s.mem,nx:=s.nx,nt:=s.nt }) (D':=DN D0 B base ops.length (fT L i) nx')
      (λh'=>aBc _ (N2 hD hB h.nx _ h')) (EC hnx) hs1 o (λ(e:nx'=s.nx+1)=>.inr (.inr (.inr ⟨h.nx,by rw[e];exact aAH _⟩))) hstep
     have fin:=behind v x m nx' s' E' w' hst hchk hrun hnx r3 r4 (r6 _ λi hi=>hi);refine tI (Ao hstep) r1 ?_;rcases r2 with rfl|⟨rfl,rfl⟩
     .exact fin
     .exact fin
   .exact hrun.elim
  .split at hrun
   .rename_i F args hcall;rw[qL (s:=s) (s':={ sl:=gF s.sl (looks ops o),mem:=fL tr base ops.length i s.mem,nx:=s.nx,nt:=s.nt }) (CC (ops:=ops) (o:=o) rfl)] at hcall;obtain⟨vs,r1,hvs⟩:=By (P:=P) hs1 o hcall;refine FS (Ip hcall) r1 ?_;refine((hH.call _ _ _ _ _ _ hrun).run _ _ E w vs (N2 hD hB h.nx) m1 hvs).mono ?_;rintro e w' ⟨mem',nx',E',hnx,m2,ext2,hres⟩;have hwd:∀id,dn (DN D0 B base ops.length L s.nx) s.nx nx' id->DN D0 B base ops.length (fT L i) nx' id:=by
     rintro id (h1|⟨h1,h2⟩)
     .exact EC hnx id h1
     .exact .inr (.inr (.inr ⟨Zj h.nx h1,h2⟩))
    rcases hres with⟨rv,v,rfl,hq,v2⟩|⟨x,rfl,hq⟩
    .obtain⟨m3,mono3,_⟩:=m2.widen hwd;split at hq
     .rename_i s' hst;exact behind rv v mem' nx' s' E' w' hst hq.1 hq.2 hnx m3 (mono3 _ _ v2) (ext2.wide hwd)
     .exact hq.elim
    .have hdn:∀id,dn (DN D0 B base ops.length L s.nx) s.nx nx' id->dn D0 B nx' id:=by
      have:=h.nx;rintro id ((h1|⟨h1,h2⟩|⟨k,h1,h2,h3⟩|⟨h1,h2⟩)|⟨h1,h2⟩)
      .exact .inl h1
      .exact .inr ⟨h1,om⟩
      .exact .inr oq
      .exact .inr oq
      .exact .inr ⟨om,h2⟩
     obtain⟨m3,mono3,_⟩:=m2.widen hdn;obtain⟨j1,j2,j3,j4⟩:=h.mr.join hp m3 (ext2.wide hdn) (rest':=[]) (λp hp'=>by cases hp') (λp hp' q hq'=>by cases hq') sq;rw[aAi] at j1 j2 j3 j4;refine hP x mem' nx' E' w' hq (by have:=h.nx;omega) ⟨j1,(h.ext.trans (j4 D0 λi hi=>.inl hi)).mks h.def0,h.size,λt v hl=>?_⟩ (h.ext.trans (j4 D0 λi hi=>.inl hi));obtain⟨hl1,hl2⟩:=Dq hl;exact j3 _ _ (h.slot0 t v (λk ok hk hok=>BW hl2 k ok hok) hl1)
   .exact hrun.elim
end
def Nr(L:Nat->Bool):Nat->Nat
 | 0=>0
 | n+1=>Nr L n+(if L n then 0 else 1)
theorem IW{L:Nat->Bool}{i:Nat}:∀{n:Nat},n<=i->Nr (fT L i) n=Nr L n
 | 0,_=>rfl
 | n+1,h=>by
  simp only[Nr];rw[IW om,tC om]
theorem LM{L:Nat->Bool}{i:Nat}(hL:L i=false):∀{n:Nat},i<n->Nr (fT L i) n+1=Nr L n
 | n+1,h=>by
  simp only[Nr];by_cases hi:i=n
  .subst hi;rw[IW (Y8 _),lE,hL];simp
  .rw[tC (Ne.symm hi),<-LM hL (n:=n) om];omega
theorem Hs{L:Nat->Bool}:∀{n:Nat},Nr L n=0->∀i,i<n->L i=true
 | n+1,h,i,hi=>by
  simp only[Nr] at h;by_cases hn:i=n
  .subst hn;cases hL:L i with
   | true=>rfl
   | false=>rw[hL] at h;simp at h
  .exact Hs (n:=n) om i om
section
variable {P:Program} {C:List (Nat × AV)} {H:Hk} {ops:List Oper} {ord:List Nat} {tr:List (List Nat)} {base B:Nat} {D0 X:Nat->Prop} {ds:List Deferred × Nat} {K:St->Prop} {Kp:Value->aQ->Nat->Prop} {s0:St} {ρ0:Nat->dP} {w0:World}
theorem FH{ops:List Oper}{listed:Array Bool}{L:Nat->Bool}(hsz:listed.size=ops.length)(hl:∀k,k<ops.length->listed[k]? = some (L k))(hout:∀k,L k=true->k<ops.length){i:Nat}(hi:i∈Region.ready .any ops.toArray listed) :
  ∃o,ops[i]? = some o/\L i=false/\∀j∈mF o,L j=true:=by
 simp only[Region.ready,Zd,aAL,aB4,Y1] at hi;obtain⟨h1,h2,h3⟩:=hi;have ho:ops[i]? = some ops[i]:=by simp[h1]
 refine⟨ops[i],ho, ?_,λj hj=>?_⟩
 .have:=hl i h1;simp only[aAV,this,aAt] at h2;simpa using h2
 .simp only[aAv,ho,aAq,aAt,Array.all_eq_true] at h3;simp only[mF,ZL,Zd,aBM] at hj;obtain⟨e,⟨he1,he2⟩,rfl⟩:=hj;obtain⟨k,hk,rfl⟩:=Array.mem_iff_getElem.1 he1;have:=h3 k hk;rw[he2] at this;simp only[Bool.not_true,aBi] at this;rcases ZG (ops[i].after[k].on) ops.length with hlt|hge
  .have h4:=hl _ hlt;simp only[aAV,h4,aAt] at this;exact this
  .have hge':listed.size<=ops[i].after[k].on:=om;simp[hge'] at this
theorem AZ.main(rd:Option Nat)(st:yQ P ops ord tr)(hH:zL P C B H)(hD:∀i,D0 i->i<B)(hB:B<=base)(Q:Exit->Act->World->Prop)
  (hQ:∀(s':St) (E':Nat->dP) (a':Act) (w':World),K s'->B<=s'.nx->SR C X ds E' (dn D0 B s'.nx) s' a' w'->Ext D0 ρ0 s0.mem w0 E' (dn D0 B s'.nx) s'.mem w'->Q .normal a' w')
  (hP:∀(x:Value) (m':aQ) (nx':Nat) (E':Nat->dP) (a':Act) (w':World),Kp x m' nx'->B<=nx'->SR C X ds E' (dn D0 B nx') ⟨vH ops s0.sl,m',nx',s0.nt⟩ a' w'->Ext D0 ρ0 s0.mem w0 E' (dn D0 B nx') m' w'->Q (.panic [pe x]) a' w') :
  ∀(fuel:Nat) (listed:Array Bool) (L:Nat->Bool) (pre rest:List Nat) (recs:List BD) (s:St) (E:Nat->dP) (a:Act) (w:World),Nr L ops.length<=fuel->listed.size=ops.length->(∀k,k<ops.length->listed[k]? = some (L k)) ->
   AZ P C H ops ord tr base B D0 X ds K Kp s0 ρ0 w0 L pre rest recs s E a w->wpAnyIn (FW rd) 0 P .any ops.toArray Q fuel listed a w:=by
 have done:∀(L:Nat->Bool) (pre rest:List Nat) (recs:List BD) (s:St) (E:Nat->dP) (a:Act) (w:World),(∀i,i<ops.length->L i=true) ->
   AZ P C H ops ord tr base B D0 X ds K Kp s0 ρ0 w0 L pre rest recs s E a w->Q .normal a w:=by
  intro L pre rest recs s E a w hall h;have hrest:rest=[]:=by
   cases hr:rest with
   | nil=>rfl
   | cons i r=>
    rw[hr] at h;exact absurd (h.Lpre i (hall i (st.lt i (by rw[h.eq];simp)))) (w5 st h.eq).1
  subst hrest;have hk:=h.run;simp only[p8] at hk;have hlt:∀i,L i=true->i<ops.length:=λi hi=>st.lt i (by rw[h.eq];simpa using h.Lpre i hi)
  have hdn:∀id,DN D0 B base ops.length L s.nx id->dn D0 B s.nx id:=by
   rintro id (h1|⟨h1,h2⟩|⟨k,h1,h2,h3⟩|⟨h1,h2⟩)
   .exact .inl h1
   .exact .inr ⟨h1,by have:=h.nx;omega⟩
   .exact .inr ⟨om,by have:=h.nx;omega⟩
   .exact .inr ⟨om,h2⟩
  have hmem:gC L base ops.length s.mem=s.mem:=by
   unfold gC;refine List.filter_eq_self.2 λp hp=>jA.2 λh'=>hall _ om
  have hm:=h.mr;have hext:=h.ext;rw[hmem] at hm hext;obtain⟨w1,w2,w3⟩:=hm.widen hdn;refine hQ s E a w hk (by have:=h.nx;omega) ⟨w1,hext.mks h.def0,by rw[h.size,<-h.nt],λt v hl=>?_⟩ (hext.wide hdn);refine w2 _ _ ?_;by_cases hj:∃j∈pre,∃oj,ops[j]? = some oj/\oj.dst=some t
  .obtain⟨j,hj,oj,hoj,hd⟩:=hj;have:=h.slotL j oj t v (hall j (oY hoj)) hoj hd hl
   rwa [hmem] at this
  .have hnj:∀j∈pre,∀oj,ops[j]? = some oj->oj.dst≠some t:=λj h1 oj h2 h3=>hj ⟨j,h1,oj,h2,h3⟩
   rw[h.virt0 t hnj] at hl;have:=h.slot0 t v (λk ok hk hok=>hnj k (h.Lpre k hk) ok hok) hl
   rwa [hmem] at this
 have empty:∀(listed:Array Bool) (L:Nat->Bool),(∀k,k<ops.length->listed[k]? = some (L k))->(∀i o,L i=true->ops[i]? = some o->∀j∈mF o,L j=true)->Region.ready .any ops.toArray listed=[]->∀i,i<ops.length->L i=true:=by
  intro listed L hl hcl hr;have key:∀(post pre:List Nat),ord=pre++post->(∀i∈pre,L i=true)->∀i∈ord,L i=true:=by
   intro post
   induction post with
   | nil=>intro pre e ih i hi;rw[e] at hi;simp at hi;exact ih i hi
   | cons x post ihp=>
    intro pre e ih';refine ihp (pre++[x]) (by rw[e];simp) λi hi=>?_
    rcases ZI.1 hi with hi|hi
    .exact ih' i hi
    .simp at hi;subst hi;cases hL:L i with
     | true=>rfl
     | false=>
      exfalso;have hlt:i<ops.length:=st.lt i (by rw[e];simp);have ho:ops[i]? = some ops[i]:=by simp[hlt]
      have hrd:=st.resp pre i post e _ ho;have:i∈Region.ready .any ops.toArray listed:=by
       simp only[Region.ready,Zd,aAL,aB4,Y1];refine⟨hlt, ?_, ?_⟩
       .simp[aAV,hl i hlt,hL]
       .simp only[aAv,ho,aAq,aAt,Array.all_eq_true];intro k hk;cases hb:Region.binds .any ops[i].after[k] with
        | false=>rfl
        | true=>
         have hj:ops[i].after[k].on∈mF ops[i]:=by
          simp only[mF,ZL,Zd,aBM];exact⟨_,⟨Array.getElem_mem hk,hb⟩,rfl⟩
         have h1:=ih' _ (hrd _ hj);have h2:ops[i].after[k].on<ops.length:=st.lt _ (by rw[e];exact Zf _ (hrd _ hj));simp[aAV,hl _ h2,h1]
      rw[hr] at this;cases this
  intro i hi;exact key ord [] sq sq i (st.full i hi)
 intro fuel
 induction fuel with
 | zero=>
  intro listed L pre rest recs s E a w hu hsz hl h;have hall:=Hs (Nat.le_zero.1 hu);refine⟨?_,done L pre rest recs s E a w hall h⟩;rw[List.eq_nil_iff_forall_not_mem];intro i hi;obtain⟨o,ho,hL,_⟩:=FH hsz hl (λk hk=>st.lt k (by rw[h.eq];exact Zf _ (h.Lpre k hk))) hi;rw[hall i (oY ho)] at hL;cases hL
 | succ fuel ih=>
  intro listed L pre rest recs s E a w hu hsz hl h;have hout:∀k,L k=true->k<ops.length:=λk hk=>st.lt k (by rw[h.eq];exact Zf _ (h.Lpre k hk))
  refine⟨λhr=>done L pre rest recs s E a w (empty listed L hl h.clos hr) h,λi hi=>?_⟩;obtain⟨o,ho,hLi,hrd⟩:=FH hsz hl hout hi;have hil:=oY ho;obtain⟨pre',rest',recs',s',h',hfar⟩:=h.far st;have next:∀pre2 rest2 recs2 s2 ρ2 a2 w2,AZ P C H ops ord tr base B D0 X ds K Kp s0 ρ0 w0 (fT L i) pre2 rest2 recs2 s2 ρ2 a2 w2->wpAnyIn (FW rd) 0 P .any ops.toArray Q fuel (listed.setIfInBounds i true) a2 w2:=by
   intro pre2 rest2 recs2 s2 ρ2 a2 w2 h2;refine ih _ (fT L i) pre2 rest2 recs2 s2 ρ2 a2 w2 ?_ (su hsz) (λk hk=>?_) h2
   .have:=LM hLi hil;omega
   .by_cases hki:k=i
    .subst hki;rw[lE];simp[hsz,hk]
    .rw[tC hki,aAh (Ne.symm hki)];exact hl k hk
  have fin:if Region.wanted o (yielded ops.toArray a.tmps) then o.wpIn (FW rd) 0 P a w (wpAnyIn (FW rd) 0 P .any ops.toArray Q fuel (listed.setIfInBounds i true)) Q else(wpAnyIn (FW rd) 0 P .any ops.toArray Q fuel (listed.setIfInBounds i true)) (a.put o.dst undef) w:=by
   by_cases hip:i∈pre'
   .exact h'.step rd st hD hB hip hLi ho hrd Q _ λρ2 a2 w2 h2=>next _ _ _ _ ρ2 a2 w2 h2
   .have hio:=st.full i hil;rw[h'.eq] at hio;cases hrs:rest' with
    | nil=>rw[hrs] at hio;simp at hio;exact absurd hio hip
    | cons x r=>
     have he:=hfar x r hrs;rw[hrs] at h' hio;have hix:i=x:=by
      rcases ZI.1 hio with h1|h1
      .exact absurd h1 hip
      .rcases Y6.1 h1 with h1|h1
       .exact h1
       .exfalso;have h2:=st.eff pre' x r h'.eq he i h1;have h3:=(AT st h' ho hrd).1 x h2;exact(w5 st h'.eq).1 (h'.Lpre x h3)
     subst hix;exact h'.now rd st hH hD hB ho hrd he Q _ (λpre2 rest2 recs2 s2 ρ2 a2 w2 h2=>next pre2 rest2 recs2 s2 ρ2 a2 w2 h2) λx m' nx' E' w'=>hP x m' nx' E' a w'
  simp only[wpOpIn,aAv,ho];split
  .rename_i hw;rw[Y4 hw] at fin;exact fin
  .rename_i hw;rw[Yz hw] at fin;exact⟨λ_ _=>trivial,fin⟩
end
end Go.Ax
namespace Go.Ax
open Go
theorem MR.same{C:List (Nat × AV)}{X:Nat->Prop}{E:Nat->dP}{D:Nat->Prop}{mem:aQ}{w w':World}(hm:MR C X E D mem w)(hh:w'.heap=w.heap)(hos:FI w w') :
  MR C X E D mem w'/\(∀v x,VR E D (OX X E mem) w v x->VR E D (OX X E mem) w' v x)/\∀A:Nat->Prop,(∀i,A i->D i)->Ext A E mem w E D mem w':=by
 have hk:∀b,b<w.heap.size->¬OX X E mem b->¬OX X E mem b/\w'.heap[b]? = w.heap[b]? := λb _ ho=>⟨ho,by rw[hh]⟩
 have hmono:∀v x,VR E D (OX X E mem) w v x->VR E D (OX X E mem) w' v x:=λv x h=>h.mono (λ_ _=>rfl) (λ_ h=>h) hk
 refine⟨⟨hm.low,λp hp hn=>?_,hm.emp,hm.inj,hm.nod,λb hb=>?_,λp hp=>hmono _ _ (hm.glo p hp)⟩,hmono,λA hA=>⟨λi hi=>hA i hi,λ_ _=>rfl,by rw[hh];exact Y8 _,λb _ _=>by rw[hh],λp hp hn=>.inl ⟨p,hp,hn,rfl⟩,hos⟩⟩
 .obtain⟨o,ho,hb⟩:=hm.blk p hp hn;exact⟨o,by rw[hh];exact ho,hb.mono (λ_ _=>rfl) (λ_ h=>h) hk⟩
 .rw[hh];exact hm.bar b hb
theorem Hf{P:Program}{C:List (Nat × AV)}{H:Hk}{B:Nat}(hH:zL P C B H){ops:List Oper}{s:St}{K:St->Prop}{Kp:Value->aQ->Nat->Prop}(h:FJ P C H ops s K Kp)(hmix:P.follows .mixedOrders=true)(id:Nat)
  (rd:Option Nat) (X:Nat->Prop) (ds:List Deferred × Nat) (D:Nat->Prop) (E:Nat->dP) (a:Act) (w:World) (hD:∀i,D i->i<B) (hs:SR C X ds E (dn D B s.nx) s a w) (hB:B<=s.nx) (Q:Exit->Act->World->Prop)
  (hQ:∀(s':St) (E':Nat->dP) (a':Act) (w':World),K s'->B<=s'.nx->SR C X ds E' (dn D B s'.nx) s' a' w'->Ext D E s.mem w E' (dn D B s'.nx) s'.mem w'->Q .normal a' w')
  (hP:∀(x:Value) (m':aQ) (nx':Nat) (E':Nat->dP) (a':Act) (w':World),Kp x m' nx'->B<=nx'->SR C X ds E' (dn D B nx') ⟨vH ops s.sl,m',nx',s.nt⟩ a' w'->Ext D E s.mem w E' (dn D B nx') m' w'->Q (.panic [pe x]) a' w') :
  (Code.region id ops.toArray true).wpIn (FW rd) 0 P Q a w:=by
 unfold FJ at h;split at h
 .rename_i hok;have st:=G3 hok;refine wpIn_region_any hmix ?_;obtain⟨m1,mono1,ext1⟩:=hs.mr.same (w':={ w with drawn:=w.drawn+1 }) rfl .go;have hdn:∀id,dn D B s.nx id↔DN D B s.nx ops.length (λ_=>false) (s.nx+ops.length) id:=by
   intro id;constructor
   .rintro(h1|h1)
    .exact .inl h1
    .exact .inr (.inl h1)
   .rintro(h1|h1|⟨k,_,_,h3⟩|⟨h1,h2⟩)
    .exact .inl h1
    .exact .inr h1
    .cases h3
    .omega
  have hlow:∀p∈s.mem,p.1<s.nx:=λp hp=>z7 hD hB _ (hs.mr.low p hp)
  have hmem:gC (λ_=>false) s.nx ops.length s.mem=s.mem:=by
   unfold gC;refine List.filter_eq_self.2 λp hp=>jA.2 λh'=>?_
   have:=hlow p hp;omega
  obtain⟨m2,mono2,ext2⟩:=m1.widen (λid h=>(hdn id).1 h);have hsize:ops.toArray.size=ops.length:=sq
  refine AZ.main rd st hH hD hB Q (ρ0:=E) (s0:=s) (w0:=w) hQ hP ops.toArray.size _ (λ_=>false) [] (t8 P ops ops.length [] (yC ops.length)) [] { s with nx:=s.nx+ops.length } E a _ ?_ sq (λk hk=>by simp[hk]) ?_
  .rw[hsize];have:∀n,Nr (λ_=>false) n=n:=by
    intro n
    induction n with
    | zero=>rfl
    | succ n ih=>simp[Nr,ih]
   rw[this];exact Y8 _
  .refine⟨sq,h,(λi hi=>by cases hi),(λi hi=>by simp at hi),(λi o hi=>by cases hi),Y8 _,rfl, ?_,hs.mr.nod,λp hp=>?_,hs.def0,hs.size,(λi o d v hi=>by cases hi),λt v _ hl=>?_,λt _=>rfl,(λi hi=>by simp at hi),λp hp h1 h2=>?_, ?_⟩
   .simp only;rw[hmem];exact m2
   .have:=hlow p hp;simp only;omega
   .simp only;rw[hmem];exact mono2 _ _ (mono1 _ _ (hs.slot t v hl))
   .have:=hlow p hp;omega
   .simp only;rw[hmem];exact(ext1 D λi hi=>.inl hi).trans (ext2 D λi hi=>.inl hi)
 .exact h.elim
theorem MR.still{C:List (Nat × AV)}{X:Nat->Prop}{E:Nat->dP}{D:Nat->Prop}{mem:aQ}{w w':World}(hm:MR C X E D mem w)(hsz:w.heap.size<=w'.heap.size)(hh:∀b,b<w.heap.size->w'.heap[b]? = w.heap[b]?)(hos:FI w w') :
  MR C X E D mem w'/\∀A:Nat->Prop,(∀i,A i->D i)->Ext A E mem w E D mem w':=by
 have hk:∀b,b<w.heap.size->¬OX X E mem b->¬OX X E mem b/\w'.heap[b]? = w.heap[b]? := λb hb ho=>⟨ho,hh b hb⟩
 have hmono:∀v x,VR E D (OX X E mem) w v x->VR E D (OX X E mem) w' v x:=λv x h=>h.mono (λ_ _=>rfl) (λ_ h=>h) hk
 refine⟨⟨hm.low,λp hp hn=>?_,hm.emp,hm.inj,hm.nod,λb hb=>⟨aAo (hm.bar b hb).1 hsz,(hm.bar b hb).2⟩,λp hp=>hmono _ _ (hm.glo p hp)⟩,λA hA=>⟨λi hi=>hA i hi,λ_ _=>rfl,hsz,λb hb _=>hh b hb,λp hp hn=>.inl ⟨p,hp,hn,rfl⟩,hos⟩⟩;obtain⟨o,ho,hb⟩:=hm.blk p hp hn;exact⟨o,by rw[hh _ (oH hm (.inr ⟨p,hp,hn,rfl⟩))];exact ho,hb.mono (λ_ _=>rfl) (λ_ h=>h) hk⟩
theorem VR.swap{E:Nat->dP}{D:Nat->Prop}{O O':Nat->Prop}{w w':World}(hk:∀b off v,w.cell? ⟨b,off,none⟩=some v->¬O b->¬O' b/\w'.cell? ⟨b,off,none⟩=some v){v:AV}{x:Value}(h:VR E D O w v x):VR E D O' w' v x:=by
 induction h with
 | bool=>exact .bool _
 | int=>exact .int _ _
 | str=>exact .str _
 | nptr=>exact .nptr
 | nsl=>exact .nsl
 | nmap=>exact .nmap
 | nfn=>exact .nfn
 | nif=>exact .nif
 | ptr id i j hid=>exact .ptr id i j hid
 | sl id off len cap hid h1 h2=>exact .sl id off len cap hid h1 h2
 | slz id off b o hid=>exact .slz id off b o hid
 | slzn id off hid=>exact .slzn id off hid
 | mp id hid=>exact .mp id hid
 | ip v b off f h1 _ ih=>
  refine .ip v b off f (λj c hj=>?_) ih;obtain⟨ho,hc,hone⟩:=h1 j c hj;exact⟨(hk _ _ _ hc ho).1,(hk _ _ _ hc ho).2,hone⟩
 | il sz xs b off cap f hl hs h1 _ ih=>
  refine .il sz xs b off cap f hl hs (λi x j c hi hj=>?_) ih;obtain⟨ho,hc,hone⟩:=h1 i x j c hi hj;exact⟨(hk _ _ _ hc ho).1,(hk _ _ _ hc ho).2,hone⟩
 | iln=>exact .iln _
 | fn f first cap a1 a2 l1 l2 _ _ ih1 ih2=>exact .fn f first cap a1 a2 l1 l2 ih1 ih2
 | ifc t v x _ ih=>exact .ifc t v x ih
 | agg cs arr hl ho _ ih=>exact .agg cs arr hl ho ih
 | tup cs arr hl _ ih=>exact .tup cs arr hl ih
 | junk x=>exact .junk x
 | yld id hid=>exact .yld id hid
theorem BR.swap{E:Nat->dP}{D:Nat->Prop}{O O':Nat->Prop}{w w':World}(hk:∀b off v,w.cell? ⟨b,off,none⟩=some v->¬O b->¬O' b/\w'.cell? ⟨b,off,none⟩=some v){l:dP}{o:Obj}{a:AB}(h:BR E D O w l o a):BR E D O' w' l o a:=by
 cases a with
 | row t sz xs=>
  obtain⟨h0,arr,fr,h1,hf,h2,h3,h4⟩:=h;refine⟨h0,arr,fr,h1,hf,h2,h3,λi x hi=>⟨(h4 i x hi).1,λj c hj=>?_⟩⟩;obtain⟨v,hv,ho,hr⟩:=(h4 i x hi).2 j c hj;exact⟨v,hv,ho,hr.swap hk⟩
 | mapb es=>
  obtain⟨arr,clk,h1,h2,h3,hc⟩:=h;refine⟨arr,clk,h1,h2,λi e he=>?_,hc⟩;obtain⟨m,hm,hr1,hr2⟩:=h3 i e he;exact⟨m,hm,hr1.swap hk,hr2.swap hk⟩
 | loop sl nt ps ca cb st pd=>
  obtain⟨arr,fn,df,h1,h2,h3⟩:=h;exact⟨arr,fn,df,h1,h2,λi v hi=>(h3 i v hi).swap hk⟩
 | iter1 mid fin=>exact h
theorem MR.shut{C:List (Nat × AV)}{X D:Nat->Prop}{E:Nat->dP}{mem:aQ}{w:World}(hm:MR C X E D mem w){b:Nat}{o o':Obj}(ho:w.heap[b]? = some o)(hc:o.isCells=false)(hb:¬OX X E mem b) :
  MR C X E D mem (w.putObj b o')/\(∀v x,VR E D (OX X E mem) w v x->VR E D (OX X E mem) (w.putObj b o') v x):=by
 have hk:∀c off v,w.cell? ⟨c,off,none⟩=some v->¬OX X E mem c->¬OX X E mem c/\(w.putObj b o').cell? ⟨c,off,none⟩=some v:=by
  intro c off v hv hn;refine⟨hn, ?_⟩;have hne:c≠b:=by
   rintro rfl;simp only[World.cell?,ho] at hv;cases o<;>simp_all[Obj.isCells]
  rw[Av (World.putObj_heap_other hne)];exact hv
 refine⟨⟨hm.low,λp hp hn=>?_,hm.emp,hm.inj,hm.nod,λc hx=>⟨by simpa using (hm.bar c hx).1,(hm.bar c hx).2⟩,λp hp=>(hm.glo p hp).swap hk⟩,λv x h=>h.swap hk⟩;obtain⟨o1,h1,h2⟩:=hm.blk p hp hn;have hne:(E p.1).b≠b:=λe=>hb (.inr ⟨p,hp,hn,e⟩)
 exact⟨o1,by rw[World.putObj_heap_other hne];exact h1,h2.swap hk⟩
theorem HC{C:List (Nat × AV)}{X D:Nat->Prop}{E:Nat->dP}{mem:aQ}{w:World}(hm:MR C X E D mem w){id nt:Nat}{sl:List (Nat × AV)}{ps:Array Tmp}{ca cb:Code}{st:LoopState}{pd:Option Code}(h:lk mem id=some (.loop sl nt ps ca cb st pd)) :
  0<(E id).n/\∃(arr:Array Value) (fn:FuncId) (df:Nat),w.heap[(E id).b]? = some (.loop { state:=st,pending:=pd,fn:=fn,tmps:=arr,params:=ps,assign:=ca,body:=cb,defers:=df })/\arr.size=nt/\∀(i:Nat) (v:AV),lk sl i=some v->VR E D (OX X E mem) w v (arr.getD i undef):=by
 have hp:0<(E id).n:=by
  rcases ZC (E id).n with h'|h'
  .obtain⟨t',sz',e,_⟩:=hm.emp _ (bL h) h';cases e
  .exact h'
 obtain⟨o,ho,arr,fn,df,rfl,h1,h2⟩:=hm.blk _ (bL h) hp;exact⟨hp,arr,fn,df,ho,h1,h2⟩
def Bp(nt:Nat):List Tmp->List AV->List (Nat × AV)->Option (List (Nat × AV))
 | [],[],sl=>some sl
 | t::ts,v::vs,sl=>match Nat.blt t nt with
  | true=>Bp nt ts vs (up sl t v)
  | false=>none
 | _,_,_=>none
theorem Bz{E:Nat->dP}{D O:Nat->Prop}{w:World}{nt:Nat}:∀{ts:List Tmp} {vs:List AV} {sl sl':List (Nat × AV)} {xs:List Value} {arr:Array Value},Bp nt ts vs sl=some sl'->j8 E D O w vs xs->arr.size=nt ->
  (∀i v,lk sl i=some v->VR E D O w v (arr.getD i undef))->ts.length=xs.length/\((ts.zip xs).foldl (λt (p,v)=>t.setIfInBounds p v) arr).size=nt/\∀i v,lk sl' i=some v->VR E D O w v (((ts.zip xs).foldl (λt (p,v)=>t.setIfInBounds p v) arr).getD i undef)
 | [],[],sl,sl',xs,arr,h,hv,hs,hsl=>by
  simp only[Bp] at h;cases h;have:=hv.1;simp at this;rw[ZB this.symm];exact⟨rfl,hs,hsl⟩
 | t::ts,v::vs,sl,sl',xs,arr,h,hv,hs,hsl=>by
  simp only[Bp] at h;split at h
  .rename_i ht;have ht:t<nt:=Y5 ht
   match xs,hv with
   | [],hv=>have:=hv.1;simp at this
   | x::xs,hv=>
    have h0:=hv.2 0 _ _ rfl rfl;have hr:j8 E D O w vs xs:=⟨by have:=hv.1;simpa using this,λj c x h1 h2=>hv.2 (j+1) c x (su h1) (su h2)⟩
    obtain⟨q1,q2,q3⟩:=Bz (arr:=arr.setIfInBounds t x) h hr (su hs) λi u hi=>by
     simp only[HZ] at hi;by_cases hid:i=t
     .subst hid;rw[Y4 rfl] at hi;cases hi;simpa[hs,ht] using h0
     .rw[Yz hid] at hi;have:=hsl i u hi;simpa[aAh (Ne.symm hid)] using this
    exact⟨by simp[q1],su q2,su q3⟩
  .cases h
 | [],_::_,_,_,_,_,h,_,_,_=>by simp[Bp] at h
 | _::_,[],_,_,_,_,h,_,_,_=>by simp[Bp] at h
def UO(id:Nat)(K:AV->aQ->Nat->Prop)(e:Exit)(s:St):Prop:=
 match lk s.mem id with
 | some (.loop sl nt ps ca cb _ _)=>match e with
  | .normal=>K (.bool true) (up s.mem id (.loop sl nt ps ca cb .ready none)) s.nx
  | .ret=>K (.bool false) (up s.mem id (.loop sl nt ps ca cb .done (some .ret))) s.nx
  | .exit i=>K (.bool false) (up s.mem id (.loop sl nt ps ca cb .done (some (.exit i)))) s.nx
  | _=>False
 | _=>False
def VK(P:Program)(C:List (Nat × AV))(B id:Nat)(cb:Code)(K:AV->aQ->Nat->Prop)(e:Exit)(s:St):Prop:=
 match e with
 | .normal=>match lk s.mem id with
  | some (.loop sl nt ps ca cb' .ready pd)=>eH P C B cb ⟨s.sl,up s.mem id (.loop sl nt ps ca cb' .busy pd),s.nx,s.nt⟩ (UO id K)
  | _=>False
 | _=>False
theorem bV.round{P:Program}{C:List (Nat × AV)}{id:Nat}{args:List AV}{mem:aQ}{nx:Nat}{K:AV->aQ->Nat->Prop}{Kp:Value->aQ->Nat->Prop}{sl sl':List (Nat × AV)}{nt:Nat}{ps:Array Tmp}{ca cb:Code}{st:LoopState}{pd:Option Code}
  (hl:lk mem id=some (.loop sl nt ps ca cb st pd)) (hp:Bp nt ps.toList args sl=some sl') (ha:iM ca=false) (hb:iM cb=false)
  (h:eH P C nx ca ⟨sl',mem,nx,nt⟩ (VK P C nx id cb K)):bV P C YF (.yld id::args) mem nx K Kp:=by
 refine⟨λX D E w vs hD hm hv=>?_⟩;obtain⟨x,xs,rfl⟩:∃x xs,vs=x::xs:=by
  match vs,hv with
  | [],hv=>have:=hv.1;simp at this
  | x::xs,_=>exact⟨x,xs,rfl⟩
 have h0:=hv.2 0 _ _ rfl rfl;have hr:j8 E D (OX X E mem) w args xs:=⟨by have:=hv.1;simpa using this,λj c x h1 h2=>hv.2 (j+1) c x (su h1) (su h2)⟩
 cases h0 with
 | yld _ hid=>
  obtain⟨hpos,arr,fn,df,ho,hsz,hsl⟩:=HC hm hl;obtain⟨q1,q2,q3⟩:=Bz hp hr hsz hsl;have hy:=run_yield (P:=P) (args:=xs.toArray) ho (by simpa using q1.symm);obtain⟨m0,mono0,e0⟩:=hm.widen (D':=dn D nx nx) (λi hi=>.inl hi);have etm:(ps.zip xs.toArray).foldl (λtmps (t,a)=>tmps.setIfInBounds t a) arr=(ps.toList.zip xs).foldl (λt (p,v)=>t.setIfInBounds p v) arr:=by
   rw[<-Array.foldl_toList];simp
  have hs:SR C X ([],0) E (dn D nx nx) ⟨sl',mem,nx,nt⟩ { tmps:=(ps.zip xs.toArray).foldl (λtmps (t,a)=>tmps.setIfInBounds t a) arr,defers:=[] } w:=
   ⟨m0,FX.start (ds:=([],0)) (aAp _),by rw[etm];exact q2,λi v hi=>by rw[etm];exact mono0 _ _ (q3 i v hi)⟩
  refine⟨(E id).b,xs.toArray,fn,_,ca,cb,sq,hy,roundIn_of_wpIn trivial (wpIn_mono (h.run (some (E id).b) X ([],0) D E _ w hD hs (Y8 _) (.no ha)) ?_)⟩;rintro e a1 w1 ⟨s1,ρ1,hq,hB1,hs1,e1⟩;cases e with
  | normal=>
   simp only[VK] at hq;split at hq
   .rename_i sl1 nt1 ps1 ca1 cb1 pd1 hl1;obtain⟨hpos1,arr1,fn1,df1,ho1,hsz1,hsl1⟩:=HC hs1.mr hl1;rw[e1.agree id hid] at ho1;refine⟨_,run_beginRound ho1 rfl, ?_⟩;obtain⟨m2,v2,e2⟩:=hs1.mr.changeG (a':=.loop sl1 nt1 ps1 ca1 cb1 .busy pd1) (o:=.loop { state:=.busy,pending:=pd1,fn:=fn1,tmps:=arr1,params:=ps1,assign:=ca1,body:=cb1,defers:=df1 })
     (w':=w1.putObj (E id).b (.loop { state:=.busy,pending:=pd1,fn:=fn1,tmps:=arr1,params:=ps1,assign:=ca1,body:=cb1,defers:=df1 })) hl1 hpos1 (by rw[e1.agree id hid];rfl) .go ⟨arr1,fn1,df1,rfl,hsz1,hsl1⟩
    have e2':=e2 _ λi hi=>hi
    have hs2:SR C X ([],0) ρ1 (dn D nx s1.nx) ⟨s1.sl,up s1.mem id (.loop sl1 nt1 ps1 ca1 cb1 .busy pd1),s1.nx,s1.nt⟩ a1 (w1.putObj (E id).b (.loop { state:=.busy,pending:=pd1,fn:=fn1,tmps:=arr1,params:=ps1,assign:=ca1,body:=cb1,defers:=df1 })):=
     ⟨m2,e2'.mks hs1.def0,hs1.size,λi v hi=>v2 _ _ (hs1.slot i v hi)⟩
    refine wpIn_mono (hq.run (some (E id).b) X ([],0) D ρ1 a1 _ hD hs2 hB1 (.no hb)) ?_;rintro e a3 w3 ⟨s3,ρ3,hq3,hB3,hs3,e3⟩;have E3:Ext D E mem w ρ3 (dn D nx s3.nx) s3.mem w3:=(e1.trans (e2 D λi hi=>.inl hi)).trans e3;have hag:ρ3 id=E id:=E3.agree id hid;simp only[UO] at hq3;split at hq3
    .rename_i sl3 nt3 ps3 ca3 cb3 st3 pd3 hl3;obtain⟨hpos3,arr3,fn3,df3,ho3,hsz3,hsl3⟩:=HC hs3.mr hl3;rw[hag] at ho3;have fin:∀(jump:Option Code) (b:Bool) (st4:LoopState),b=jump.isNone->st4=(if jump.isNone then .ready else .done)->K (.bool b) (up s3.mem id (.loop sl3 nt3 ps3 ca3 cb3 st4 jump)) s3.nx ->
       ∃v w4,(Instr.endRound (E id).b jump).run P w3 = .ok v w4/\∃(mem':aQ) (nx':Nat) (E':Nat->dP),nx<=nx'/\MR C X E' (dn D nx nx') mem' w4/\Ext D E mem w E' (dn D nx nx') mem' w4 /\
        ((∃(r:AV) (v':Value),Ending.returned v = .returned v'/\K r mem' nx'/\VR E' (dn D nx nx') (OX X E' mem') w4 r v')\/(∃x:Value,Ending.returned v = .panicked [pe x]/\Kp x mem' nx')):=by
      rintro jump b st4 rfl rfl hK;refine⟨_,_,run_endRound jump ho3, ?_⟩;obtain⟨m4,v4,e4⟩:=hs3.mr.changeG (a':=.loop sl3 nt3 ps3 ca3 cb3 (if jump.isNone then .ready else .done) jump) (o:=.loop { state:=if jump.isNone then .ready else .done,pending:=jump,fn:=fn3,tmps:=arr3,params:=ps3,assign:=ca3,body:=cb3,defers:=df3 })
       (w':=w3.putObj (E id).b (.loop { state:=if jump.isNone then .ready else .done,pending:=jump,fn:=fn3,tmps:=arr3,params:=ps3,assign:=ca3,body:=cb3,defers:=df3 })) hl3 hpos3 (by rw[hag];rfl) .go ⟨arr3,fn3,df3,rfl,hsz3,hsl3⟩
      exact⟨_,s3.nx,ρ3,hB3,m4,E3.trans (e4 D λi hi=>.inl hi),.inl ⟨_,_,rfl,hK,.bool _⟩⟩
     split at hq3
     .exact fin none _ _ rfl rfl hq3
     .exact fin (some .ret) _ _ rfl rfl hq3
     .exact fin (some (.exit _)) _ _ rfl rfl hq3
     .exact hq3.elim
    .exact hq3.elim
   .exact hq.elim
  | _=>exact(show False from hq).elim
end Go.Ax
