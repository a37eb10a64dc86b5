/- A part of the proof. -/
import Derived.Test.YtnbkfjjdlofdpaaGreatDoorAx2
import Derived.Lib.UnsafeStr
import Derived.KernelRfl
import Derived.Laws.Externs
import Derived.RangeFuncOwn
import Derived.OrdersIn
import Derived.TacticsIn
import Derived.Orders
set_option linter.unusedVariables false
set_option linter.unusedSimpArgs false
set_option linter.unusedSectionVars false
namespace Go.Ax
open Go
section
variable {P:Program} {Γ:List (Nat × AV)} {X:Nat->Prop} {ρ:Nat->a6} {D:Nat->Prop} {mem:aA} {w w':World}
theorem MR.lose(hm:MR Γ X ρ D mem w){id:Nat}{a:AB}(hid:lk mem id=some a)(hn:0<(ρ id).n)(hsz:w'.heap.size=w.heap.size)(hw:∀b,b≠(ρ id).b->w'.heap[b]? = w.heap[b]?)
  (hos:tF w w') :
  MR Γ X ρ D (drop id mem) w'/\(∀v x,VR ρ D (OX X ρ mem) w v x->VR ρ D (OX X ρ (drop id mem)) w' v x)/\(∀A:Nat->Prop,(∀i,A i->D i)->Ext A ρ mem w ρ D (drop id mem) w'):=by
 have hin:=aF hid;have hown:∀b,own ρ (drop id mem) b->own ρ mem b:=fun b ⟨p,hp,hn,e⟩=>⟨p,bD hp,hn,e⟩
 have hk:∀b,b<w.heap.size->¬OX X ρ mem b->¬OX X ρ (drop id mem) b/\w'.heap[b]? = w.heap[b]? := fun b _ ho=>
  ⟨fun h=>ho (h.imp (fun x=>x) (hown b)),hw b fun e=>ho (.inr ⟨_,hin,hn,e.symm⟩)⟩
 have hmono:∀v x,VR ρ D (OX X ρ mem) w v x->VR ρ D (OX X ρ (drop id mem)) w' v x:=fun v x h=>h.mono (fun _ _=>rfl) (fun _ h=>h) hk
 refine⟨⟨fun p hp=>hm.low p (bD hp),fun p hp hpn=>?_,fun p hp hpn=>hm.emp p (bD hp) hpn,fun p hp q hq=>hm.inj p (bD hp) q (bD hq),gM hm.nod,
  fun b hb=>⟨by rw[hsz];exact(hm.bar b hb).1,fun h=>(hm.bar b hb).2 (hown b h)⟩,fun p hp=>hmono _ _ (hm.glo p hp)⟩,hmono,
  fun B hB=>⟨hB,fun _ _=>rfl,om,fun b hb ho=>hw b fun e=>ho ⟨_,hin,hn,e.symm⟩,fun p hp hpn=>.inl ⟨p,bD hp,hpn,rfl⟩,hos⟩⟩
 obtain⟨o,ho,hb⟩:=hm.blk p (bD hp) hpn;refine⟨o, ?_,hb.mono (fun _ _=>rfl) (fun _ h=>h) hk⟩;rw[hw _ fun e=>qE hm.nod hp (hm.inj p (bD hp) _ hin hpn hn e)];exact ho
def i6(a:AV):Option AV:=
 match a with
 | .nsl=>some .nptr
 | .sl id off (_+1)=>some (.ptr id off 0)
 | _=>none
theorem oL{O:Nat->Prop}{a v:AV}{x:Value}(h:i6 a=some v)(hx:VR ρ D O w a x)(ts:Array TypeId)(ty:TypeId) :
  ∃z,(Builtin.unsafeSliceData_ ts ty #[x]).run P w = .ok z w/\VR ρ D O w v z:=by
 unfold i6 at h;split at h
 ·cases h;cases hx;exact⟨_,Lib.run_unsafeSliceData_nil w ts ty _ _,.nptr⟩
 ·cases h;cases hx with
  | sl _ _ _ cap hid h1 h2=>
   exact⟨_,Lib.run_unsafeSliceData_row w ts ty _ _ _ om,VR.ptr _ _ 0 hid⟩
 ·cases h
def kX:List AV->Option (List UInt8)
 | []=>some []
 | .int .u8 (.ofNat m)::r=>match Nat.ble m 255 with
  | true=>match kX r with
   | some l=>some (UInt8.ofNat m::l)
   | none=>none
  | false=>none
 | _=>none
theorem pC:∀{xs:List AV} {l:List UInt8},kX xs=some l->∀(i:Nat) (b:UInt8),l[i]? = some b->xs[i]? = some (.int .u8 b.toNat)
 | [],l,h,i,b,hi=>by simp[kX] at h;subst h;simp at hi
 | a::xs,l,h,i,b,hi=>by
  unfold kX at h;split at h
  ·rename_i e;cases e
  ·rename_i m r e;cases e;split at h
   ·rename_i hm;split at h
    ·rename_i l' hl;cases h;cases i with
     | zero=>
      simp at hi;subst hi;have:m<256:=by have:=JB hm;omega
      simp[Kg this]
     | succ i=>exact pC hl i b (by simpa using hi)
    ·cases h
   ·cases h
  ·cases h
def oC(P:Program)(mem:aA)(pt:TypeId)(a n:AV):Option (AV × aA):=
 match n with
 | .int .i64 (.ofNat 0)=>match a with
  | .nptr=>some (.str [],mem)
  | .ptr _ _ _=>some (.str [],mem)
  | _=>none
 | .int .i64 (.ofNat (k+1))=>match a with
  | .ptr id 0 0=>match lk mem id with
   | some (.row t sz xs)=>match P.underlying pt with
    | some (.pointer e)=>match Nat.beq e t && (Nat.beq sz 1 && (Nat.beq (P.cellsOf e) 1 && Nat.ble (k+1) 9223372036854775807)) with
     | true=>match kX (xs.take (k+1)) with
      | some l=>match Nat.beq l.length (k+1) with
       | true=>some (.str l,drop id mem)
       | false=>none
      | none=>none
     | false=>none
    | _=>none
   | _=>none
  | _=>none
 | _=>none
theorem rU(hm:MR Γ X ρ D mem w){pt it ty:TypeId}{a n v:AV}{x y:Value}{mem':aA}(h:oC P mem pt a n=some (v,mem'))(hx:VR ρ D (OX X ρ mem) w a x)(hy:VR ρ D (OX X ρ mem) w n y) :
  ∃z w',(Builtin.unsafeString_ #[pt,it] ty #[x,y]).run P w = .ok z w'/\MR Γ X ρ D mem' w'/\VR ρ D (OX X ρ mem') w' v z /\
   (∀u y,VR ρ D (OX X ρ mem) w u y->VR ρ D (OX X ρ mem') w' u y)/\∀A:Nat->Prop,(∀i,A i->D i)->Ext A ρ mem w ρ D mem' w':=by
 have e0:(ByteArray.empty:ByteArray)=⟨([]:List UInt8).toArray⟩:=rfl;unfold oC at h;split at h
 ·cases hy;split at h<;>first|(cases h;done)|skip
  ·cases h;cases hx;exact⟨_,w,Lib.run_unsafeString_none w pt it ty none,hm,by rw[e0];exact .str [],fun _ _ h=>h,fun A hA=>Ext.refl hA⟩
  ·cases h;cases hx;exact⟨_,w,Lib.run_unsafeString_none w pt it ty (some _),hm,by rw[e0];exact .str [],fun _ _ h=>h,fun A hA=>Ext.refl hA⟩
 ·rename_i k;cases hy;split at h<;>first|(cases h;done)|skip
  rename_i id;split at h<;>first|(cases h;done)|skip
  rename_i t sz xs hid;split at h<;>first|(cases h;done)|skip
  rename_i e hp;split at h<;>first|(cases h;done)|skip
  rename_i hc;split at h<;>first|(cases h;done)|skip
  rename_i l hl;split at h<;>first|(cases h;done)|skip
  rename_i hlen;cases h;cases hx;simp only[JE] at hc;obtain⟨c1,c2,c3,c4⟩:=hc;have c1:=Nat.eq_of_beq_eq_true c1;have c2:=Nat.eq_of_beq_eq_true c2;have c3:=Nat.eq_of_beq_eq_true c3;have c4:=JB c4;have hlen:=Nat.eq_of_beq_eq_true hlen;subst c1 c2;have hget:=pC hl;have hin:=aF hid;have hn:0<(ρ id).n:=by
   rcases JT (ρ id).n with h0|h0
   ·obtain⟨t',sz',e1,_⟩:=hm.emp _ hin h0;cases e1;simp[kX] at hl;subst hl;simp at hlen
   ·exact h0
  obtain⟨o,ho,hsz,arr,fr,rfl,hf,hs,hle,hrow⟩:=hm.blk _ hin hn;simp only at ho hsz hs hle hrow;rw[hsz] at hrow hle;have hcell:∀j b,l[j]? = some b->w.cell? ((⟨(ρ id).b,0,none⟩:Addr).add j)=some (.int .u8 b.toNat):=by
   intro j b hb;have h1:=hget j b hb;have hj:j<k+1:=by have:=(JC.1 hb).1;omega
   rw[Jb,JL hj] at h1;obtain⟨v,hv,_,hr⟩:=(hrow j _ h1).2 0 (.int .u8 b.toNat) rfl;cases hr;have ea:(⟨(ρ id).b,0,none⟩:Addr).add j=⟨(ρ id).b,j,none⟩:=by
    unfold Addr.add;split
    ·rename_i h0;rw[h0]
    ·simp
   rw[ea];simp only[World.cell?,ho];simpa using hv
  have hxl:l.length<=arr.size:=by
   have:l.length<=xs.length:=by
    have h1:=hget (l.length-1) l[l.length-1] (by simp);have:=(JC.1 h1).1;simp at this;omega
   omega
  have hrun:=Lib.run_unsafeString_row (P:=P) w pt it ty _ hp c3 (ρ id).b arr.size (by simp[World.shape?,ho]) l (by intro h0;rw[h0] at hlen;simp at hlen) hxl om hcell;have hfz:(w.freeze ⟨(ρ id).b,0,none⟩ l.length).heap.size=w.heap.size/\(∀b,b≠(ρ id).b->(w.freeze ⟨(ρ id).b,0,none⟩ l.length).heap[b]? = w.heap[b]?) /\
    tF w (w.freeze ⟨(ρ id).b,0,none⟩ l.length):=by
   unfold World.freeze;split
   ·exact⟨rfl,fun _ _=>rfl,.go⟩
   ·refine⟨by simp,fun b hb=>?_,.go⟩;simp only[Ju];rw[JJ fun e=>hb e.symm]
  obtain⟨m1,m2,m3⟩:=hm.lose hid hn hfz.1 hfz.2.1 hfz.2.2;refine⟨_,_, ?_,m1,.str l,m2,m3⟩;have ek:(Int.ofNat (k+1))=(l.length:Int):=by rw[hlen];rfl
  rw[ek,show 0*(ρ id).sz+0=0 by simp];exact hrun
 ·cases h
end
end Go.Ax
namespace Go.Ax
open Go
def qP(fn:Func):Bool:=fn.name == "internal/abi.NoEscape" && (Extern.findNext fn).isNone
theorem tW:Extern.allGenericRows.lookup "internal/abi.NoEscape" = none/\Extern.allTypedRows.lookup "internal/abi.NoEscape" = none:=⟨by kernel_rfl,by kernel_rfl⟩
theorem zV:Extern.allRows.lookup "internal/abi.NoEscape" = some Extern.AbiNoEscape.same:=by kernel_rfl
theorem Bp{P:Program}{w:World}{F:FuncId}{fn:Func}(hf:P.funcs[F]? = some fn)(hb:fn.body=none)(hn:qP fn=true)(x:Value):(callFunc F #[x]).run P w = .ok (.value x) w:=by
 unfold qP at hn;simp only[JE,beq_iff_eq] at hn;obtain⟨h1,h2⟩:=hn;have h3:Extern.findNext fn=none:=by simpa using h2
 have h4:Extern.find fn=some Extern.AbiNoEscape.same:=by
  simp[Extern.find,h1,tW.1,tW.2,zV]
 rw[run_callFunc_extern hf (by rw[h1];decide) (by rw[hb];rfl) h3 h4];rfl
end Go.Ax
namespace Go.Ax
open Go
def xV(P:Program)(mem:aA)(t:TypeId)(x y:AV):Option (AV × aA):=
 match P.underlying t with
 | some (.slice e)=>match cF P e with
  | some n=>match Nat.blt 0 n with
   | true=>match x with
    | .sl id 0 len=>match lk mem id with
     | some (.row t' sz' xs)=>match CE mem n y with
      | some ys=>match Nat.beq sz' n && (Nat.ble ys.length len && Nat.ble len xs.length) with
       | true=>some (.int .i64 ys.length,up mem id (.row t' sz' (ys++xs.drop ys.length)))
       | false=>none
      | none=>none
     | _=>none
    | _=>none
   | false=>none
  | none=>none
 | _=>none
theorem Ay{α:Type}:∀{m:List (Nat × α)} {i:Nat} {v:α},lk m i=some v->up m i v=m
 | [],i,v,h=>by cases h
 | (j,u)::r,i,v,h=>by
  simp only[lk] at h;simp only[up];cases hb:Nat.beq j i with
  | true=>rw[hb] at h;cases h;rfl
  | false=>rw[hb] at h;simp only at h ⊢;rw[Ay h]
section
variable {P:Program} {Γ:List (Nat × AV)} {X:Nat->Prop} {ρ:Nat->a6} {D:Nat->Prop} {mem:aA} {w:World}
theorem yN(hm:MR Γ X ρ D mem w){t u ty:TypeId}{p q v:AV}{x y:Value}{mem':aA}(h:xV P mem t p q=some (v,mem'))
  (hx:VR ρ D (OX X ρ mem) w p x) (hy:VR ρ D (OX X ρ mem) w q y) :
  ∃(n:Nat) (w':World),v = .int .i64 n/\(Builtin.copy_ #[t,u] ty #[x,y]).run P w = .ok (.int .i64 n) w'/\MR Γ X ρ D mem' w'/\(∀u z,VR ρ D (OX X ρ mem) w u z->VR ρ D (OX X ρ mem') w' u z)/\∀A:Nat->Prop,(∀i,A i->D i)->Ext A ρ mem w ρ D mem' w':=by
 unfold xV at h;split at h<;>first|(cases h;done)|skip
 rename_i e ht;split at h<;>first|(cases h;done)|skip
 rename_i n hn;split at h<;>first|(cases h;done)|skip
 rename_i hpos;have hpos:0<n:=JB hpos;split at h<;>first|(cases h;done)|skip
 rename_i id len;split at h<;>first|(cases h;done)|skip
 rename_i t' sz' xs hid;split at h<;>first|(cases h;done)|skip
 rename_i ys hys;split at h<;>first|(cases h;done)|skip
 rename_i hb;cases h;simp only[JE] at hb;have b1:=Nat.eq_of_beq_eq_true hb.1;have b2:=JB hb.2.1;have b3:=JB hb.2.2;obtain⟨vs,hf,hlen,hfirst⟩:=sZ (P:=P) hm hpos hys hy;have hsz2:=cQ (w:=w) hn;have hfw:=hfirst w rfl;have nothing:ys=[]->∀(ad:Option Addr) (len cap:Nat),x = .slice ad len cap->∃(n:Nat) (w':World),AV.int .i64 (ys.length:Int) = .int .i64 n/\(Builtin.copy_ #[t,u] ty #[x,y]).run P w = .ok (.int .i64 n) w'/\MR Γ X ρ D (up mem id (.row t' sz' (ys++xs.drop ys.length))) w' /\
   (∀u z,VR ρ D (OX X ρ mem) w u z->VR ρ D (OX X ρ (up mem id (.row t' sz' (ys++xs.drop ys.length)))) w' u z)/\∀A:Nat->Prop,(∀i,A i->D i)->Ext A ρ mem w ρ D (up mem id (.row t' sz' (ys++xs.drop ys.length))) w':=by
  intro e1 ad len cap e2;subst e1 e2;have hv:vs=[]:=JF (by have:=hf.1;simpa using this);subst hv;simp only[KX,LF,KD];rw[Ay hid];refine⟨0,w,rfl, ?_,hm,fun _ _ h=>h,fun A hA=>Ext.refl hA⟩;simp only[KX] at hlen hfw;cases ad<;>simp[Builtin.copy_,run_underlying ht,hlen,hsz2,hfw,storeCells,Nat.min_def,goInt]
 by_cases hys0:ys=[]
 ·cases hx with
  | sl _ _ _ cap hid' g1 g2=>exact nothing hys0 _ _ _ rfl
  | slz _ _ b o hid'=>exact nothing hys0 _ _ _ rfl
  | slzn _ _ hid'=>exact nothing hys0 _ _ _ rfl
 ·have hy1:0<ys.length:=List.length_pos_iff.2 hys0;cases hx with
  | slz _ _ b o hid'=>omega
  | slzn _ _ hid'=>omega
  | sl _ _ _ cap hid' g1 g2=>
   have hz:(ρ id).sz=n:=by rw[jV hm hid];exact b1
   have hn0:0<(ρ id).n:=by
    rw[hz,Jd] at g2;have:1*1<=cap*n:=LG om om;omega
   obtain⟨o,ho,q0,arr,fr,rfl,hfr,q1,q2,q3⟩:=hm.blk _ (aF hid) hn0;simp only at ho q0 q1 q2 q3;obtain⟨f1,f2,f3⟩:=hf;have hle:ys.length*n<=xs.length*n:=JP _ om;have hfit:0+0+vs.length<=arr.size:=by rw[f1,q1];rw[hz] at q2;omega
   have hrun:=bO P (ρ id).b 0 t' fr vs 0 arr w ho hfr hfit f2;simp only[KB,Jd,List.take_zero,KD] at hrun;refine⟨ys.length,w.setRow (ρ id).b (vs++arr.toList.drop vs.length).toArray,rfl, ?_,hm.change hid hn0 (xs':=ys++xs.drop ys.length) (eC w _ arr _ t' fr ho) .go ?_ ?_ ?_⟩
   ·have e1:Nat.min ys.length len=ys.length:=Nat.min_eq_left b2;simp[Builtin.copy_,run_underlying ht,hlen,hsz2,e1,hfw,hrun,goInt]
   ·intro k hk;refine hfr k ?_;simp at hk;omega
   ·simp;omega
   ·have hvl:vs.length=ys.length*(ρ id).sz:=by rw[f1,hz]
    have harr:∀q,(vs++arr.toList.drop vs.length).toArray[q]? = if q<vs.length then vs[q]? else arr[q]? := by
     intro q;rw[J1,JY];split
     ·rfl
     ·rw[Jc,Array.getElem?_toList];congr 1;omega
    have hq2:=q2;rw[←q0];refine⟨by simp[Nat.add_mul];rw[hvl,←Nat.add_mul,show ys.length+(xs.length-ys.length)=xs.length by omega];omega,fun k z hk=>?_⟩;rw[JY] at hk;split at hk
    ·rename_i hkl;obtain⟨h1,h2⟩:=f3 k z hk;refine⟨by rw[h1,hz],fun j c hj=>?_⟩;obtain⟨u,hu,hr⟩:=h2 j c hj;rw[←hz] at hu;refine⟨u, ?_,f2 u (Je hu),hr⟩;rw[harr,JL]
     ·exact hu
     ·rcases JK (k*(ρ id).sz+j) vs.length with h'|h'
      ·exact h'
      ·rw[JH h'] at hu;cases hu
    ·rename_i hkl;rw[Jc] at hk;rw[show ys.length+(k-ys.length)=k by omega] at hk;refine⟨(q3 k z hk).1,fun j c hj=>?_⟩;obtain⟨u,hu,ho1,hr⟩:=(q3 k z hk).2 j c hj;refine⟨u, ?_,ho1,hr⟩;rw[harr,JJ]
     ·exact hu
     ·have:ys.length*(ρ id).sz<=k*(ρ id).sz:=JP _ om;rw[hvl];omega
end
end Go.Ax
namespace Go.Ax
open Go
def sR(P:Program)(mem:aA)(t:TypeId)(x:AV):Option aA:=
 match P.underlying t with
 | some (.slice e)=>match eV P e with
  | some z=>match x with
   | .sl id off len=>match lk mem id with
    | some (.row t' sz xs)=>match d6 z && (Nat.beq z.cells.length sz && (Nat.blt 0 sz && (Nat.blt 0 len && Nat.ble (off+len) xs.length))) with
     | true=>some (up mem id (.row t' sz (xs.take off++(List.replicate len z++xs.drop (off+len)))))
     | false=>none
    | _=>none
   | _=>none
  | none=>none
 | _=>none
section
variable {P:Program} {Γ:List (Nat × AV)} {X:Nat->Prop} {ρ:Nat->a6} {D:Nat->Prop} {mem:aA} {w:World}
theorem wG(hm:MR Γ X ρ D mem w){t ty:TypeId}{p:AV}{x:Value}{mem':aA}(h:sR P mem t p=some mem')(hx:VR ρ D (OX X ρ mem) w p x) :
  ∃(w':World),(Builtin.clear_ #[t] ty #[x]).run P w = .ok (.tuple #[]) w'/\MR Γ X ρ D mem' w'/\(∀u z,VR ρ D (OX X ρ mem) w u z->VR ρ D (OX X ρ mem') w' u z)/\∀A:Nat->Prop,(∀i,A i->D i)->Ext A ρ mem w ρ D mem' w':=by
 unfold sR at h;split at h<;>first|(cases h;done)|skip
 rename_i e ht;split at h<;>first|(cases h;done)|skip
 rename_i z hz;split at h<;>first|(cases h;done)|skip
 rename_i id off len;split at h<;>first|(cases h;done)|skip
 rename_i t' sz xs hid;split at h<;>first|(cases h;done)|skip
 rename_i hb;cases h;simp only[JE] at hb;have b0:=hb.1;have b1:=Nat.eq_of_beq_eq_true hb.2.1;have b2:0<sz:=JB hb.2.2.1;have b3:0<len:=JB hb.2.2.2.1;have b4:=JB hb.2.2.2.2;have hsz:=jV hm hid;cases hx with
 | slz _ _ b o hid'=>omega
 | slzn _ _ hid'=>omega
 | sl _ _ _ cap hid' g1 g2=>
  have hn0:0<(ρ id).n:=by
   rw[hsz] at g2;have:1*1<=(off+cap)*sz:=LG om om;omega
  obtain⟨o,ho,q0,arr,fr,rfl,hfr,q1,q2,q3⟩:=hm.blk _ (aF hid) hn0;simp only at ho q0 q1 q2 q3;obtain⟨zv,hzr,hzv⟩:=mU (P:=P) (ρ:=ρ) (D:=D) (O:=OX X ρ mem) (w:=w) hz;have hzc:=VR.cells_of hzv b0;obtain⟨⟨c1,c2⟩,c3⟩:=hzc;have hzn:zv.cells.size=sz:=by rw[←b1,c1];simp
  obtain⟨vs,hvs⟩:∃vs,vs=(Builtin.zeroCells zv.cells len).toList:=⟨_,rfl⟩
  have hvl:vs.length=len*sz:=by rw[hvs];simp[Builtin.zeroCells,hzn]
  have hvg:∀q,q<len*sz->vs[q]? = zv.cells[q%sz]? := fun q hq=>by
   have hlt:q%sz<zv.cells.size:=by rw[hzn];exact Kv _ b2
   rw[hvs];simp only[Builtin.zeroCells,hzn];have hr:(Array.range (len*sz))[q]? = some q:=by simp[hq]
   rw[Array.getElem?_toList,K4,hr,Jv,Jj hlt,getElem!_pos zv.cells (q%sz) hlt]
  have hone:∀v∈vs,v.oneCell'=true:=fun v hv=>by
   obtain⟨q,hq,rfl⟩:=KM hv;have:=hvg q (by rw[←hvl];exact hq);rw[I9 hq] at this;exact c3 _ (by rw[Kz];exact Array.mem_of_getElem? this.symm)
  have hfit:off*sz+0+vs.length<=arr.size:=by
   rw[hvl,q1];rw[hsz] at g2;have:(off+len)*sz<=(off+cap)*sz:=JP _ om;rw[Nat.add_mul] at this;omega
  have hrun:=bO P (ρ id).b (off*sz) t' fr vs 0 arr w ho hfr hfit hone;simp only[KB] at hrun;obtain⟨narr,hna⟩:∃narr,narr=(arr.toList.take (off*sz)++vs++arr.toList.drop (off*sz+vs.length)).toArray:=⟨_,rfl⟩
  rw[←hna] at hrun;have hget:∀q,narr[q]? = if off*sz<=q/\q<off*sz+len*sz then vs[q-off*sz]? else arr[q]? := by
   intro q;have htl:(arr.toList.take (off*sz)).length=off*sz:=by simp;omega
   rw[hna,J1,KK,JY,htl];split
   ·rename_i h1;rw[JJ om,Jb,JL h1,Array.getElem?_toList]
   ·rename_i h1;rw[JY,hvl];split
    ·rename_i h2;rw[JL om]
    ·rename_i h2;rw[JJ om,Jc,Array.getElem?_toList];congr 1;omega
  have hns:narr.size=arr.size:=by rw[hna];simp;omega
  refine⟨w.setRow (ρ id).b narr, ?_,hm.change hid hn0 (xs':=xs.take off++(List.replicate len z++xs.drop (off+len))) (eC w _ arr _ t' fr ho) .go ?_ (by rw[hns,q1]) ?_⟩
  ·have hl0:len≠0:=om;rw[hvs] at hrun;rw[hsz];cases len with
   | zero=>omega
   | succ len=>simp[Builtin.clear_,run_underlying ht,hzr,hrun]
  ·intro k hk;exact hfr k om
  ·have htk:(xs.take off).length=off:=by simp;omega
   rw[hsz] at q2;refine⟨by rw[hns];simp only[Jz,htk,Kt,List.length_drop];rw[show off+(len+(xs.length-(off+len)))=xs.length by omega,q1];exact q2,fun i y hi=>?_⟩;rw[JY,htk] at hi;split at hi
   ·rename_i h1;rw[Jb,JL h1] at hi;rw[hsz] at q3;refine⟨(q3 i y hi).1,fun j c hj=>?_⟩;obtain⟨u,hu,ho1,hr⟩:=(q3 i y hi).2 j c hj;have hjs:j<sz:=by have:=(JC.1 hj).1;have:=(q3 i y hi).1;omega
    refine⟨u, ?_,ho1,hr⟩;rw[hget,JJ]
    ·exact hu
    ·have:(i+1)*sz<=off*sz:=JP _ om;rw[Nat.add_mul] at this;omega
   ·rename_i h1;rw[JY,Kt] at hi;split at hi
    ·rename_i h2;rw[List.getElem?_replicate,JL h2] at hi;cases hi;refine⟨b1,fun j c hj=>?_⟩;have hjs:j<sz:=by have:=(JC.1 hj).1;omega
     have hju:zv.cells[j]? = some (zv.cells[j]'(by rw[hzn];exact hjs)):=Jj _;have hlt:i*sz+j-off*sz<len*sz:=by
      have:(i-off+1)*sz<=len*sz:=JP _ om;rw[Nat.add_mul,Nat.sub_mul] at this;have:off*sz<=i*sz:=JP _ om;omega
     have hge:off*sz<=i*sz:=JP _ om;refine⟨zv.cells[j]'(by rw[hzn];exact hjs), ?_,c3 _ (by simp), ?_⟩
     ·rw[hget,JL ⟨om,om⟩,hvg _ hlt];rw[show i*sz+j-off*sz=j+(i-off)*sz by rw[Nat.sub_mul];omega,Nat.add_mul_mod_self_right,Kg hjs];exact hju
     ·exact c2 j c _ hj (by rw[Array.getElem?_toList];exact hju)
    ·rename_i h2;rw[Jc] at hi;rw[show off+len+(i-off-len)=i by omega] at hi;rw[hsz] at q3;refine⟨(q3 i y hi).1,fun j c hj=>?_⟩;obtain⟨u,hu,ho1,hr⟩:=(q3 i y hi).2 j c hj;refine⟨u, ?_,ho1,hr⟩;rw[hget,JJ]
     ·exact hu
     ·have:(off+len)*sz<=i*sz:=JP _ om;rw[Nat.add_mul] at this;omega
end
end Go.Ax
namespace Go.Ax
open Go
def dY(P:Program)(mem:aA)(nx:Nat)(src dst:TypeId)(x:AV):Option (AV × aA × Nat):=
 match P.underlying src with
 | none=>none
 | some _=>match P.underlying dst with
  | some (.slice e)=>match P.underlying e with
   | some (.int .u8)=>match x with
    | .str s=>some (.sl nx 0 s.length,(nx,.row e 1 (s.map fun b=>.int .u8 (b.toNat:Int)))::mem,nx+1)
    | _=>none
   | _=>none
  | _=>none
section
variable {P:Program} {Γ:List (Nat × AV)} {X:Nat->Prop} {ρ:Nat->a6} {D:Nat->Prop} {O:Nat->Prop} {mem:aA} {w w':World}
theorem pZ{n:Nat}{D':Nat->Prop}(hn0:¬D n)(hD:∀i,D i->D' i)(hDn:D' n)(hm:MR Γ X ρ D mem w){src dst:TypeId}{a v:AV}{x:Value}{mem':aA}{N':Nat}(h:dY P mem n src dst a=some (v,mem',N'))
  (hx:VR ρ D (OX X ρ mem) w a x):iR P Γ X ρ D mem w ((convert src dst x).run P w) v mem' D':=by
 unfold dY at h;split at h
 ·cases h
 ·rename_i d hd;split at h
  ·rename_i e hu;split at h
   ·rename_i he;split at h
    ·rename_i s
     ·cases h;cases hx;have hsz:(⟨s.toArray⟩:ByteArray).size=s.length:=by simp[ByteArray.size]
      have hcap:s.length<=grownCap w s.length 0 e:=grownCap_ge w s.length 0 e;generalize hc:grownCap w s.length 0 e=cap at *;have hasize:((s.map fun b=>Value.int .u8 (b.toNat:Int)).toArray++Array.replicate (cap-s.length) (Value.int .u8 0)).size=cap:=by simp;omega
      generalize harr:(s.map fun b=>Value.int .u8 (b.toNat:Int)).toArray++Array.replicate (cap-s.length) (Value.int .u8 0)=arr at *;have hrow:oQ ρ D (OX X ρ mem) w 1 arr (s.map fun b=>.int .u8 (b.toNat:Int)):=by
       refine⟨by simp;omega,fun i y hi=>?_⟩;rw[Ja] at hi;obtain⟨b,hb,rfl⟩:=Jy.1 hi;refine⟨rfl,fun j c hj=>?_⟩;cases j with
       | zero=>
        simp[AV.cells] at hj;subst hj;refine⟨.int .u8 (b.toNat:Int), ?_,rfl,.int _ _⟩;have hil:i<s.length:=by
         rcases JK i s.length with h'|h'
         ·exact h'
         ·rw[JH h'] at hb;cases hb
        rw[←harr,Ku,JL (by simpa using hil)];simp[hb]
       | succ j=>simp[AV.cells] at hj
      have hheap:((w.drew.alloc (.cells arr e)).freeze ⟨w.heap.size,arr.size,none⟩ 1).heap=w.heap.push (.cells arr e (arr.size,arr.size+1)):=by
       apply KS;intro i;simp only[World.freeze,World.alloc,World.drew];rw[JJ (by simp)];simp only[Ju,J7];by_cases hi:i=w.heap.size
       ·subst hi;simp
       ·simp[hi,Ne.symm hi]
      obtain⟨h1,h2,h3⟩:=hm.alloc hn0 hD hDn hheap .go (fun j hj=>by simp;omega) hrow (fun h0=>List.map_eq_nil_iff.2 (List.length_eq_zero_iff.1 om));refine⟨.slice (some ⟨w.heap.size,0,none⟩) s.length cap,_,_, ?_,h1, ?_,h2,h3⟩
      ·have hch:(choose (Question.appendCap s.length 0 e)).run P w = .ok cap w.drew:=by
        rw[run_choose_drew];simp[Question.forced,←hc,grownCap]
       have hel:Array.map (fun b=>Value.int IntKind.u8 (b.toNat:Int)) s.toArray++Array.replicate (cap-s.length) (Value.int .u8 0)=arr:=by rw[←harr];simp
       have hshape:(w.drew.alloc (.cells arr e)).shape? w.heap.size=some (e,arr.size):=by
        have hh:(w.drew.alloc (.cells arr e)).heap[w.heap.size]? = some (.cells arr e (0,0)):=by
         show (w.heap.push (.cells arr e (0,0)))[w.heap.size]? = _
         simp
        simp only[World.shape?,hh]
       simp only[convert,Sem.run_bind,run_underlying hd,run_underlying hu,run_underlying he,Result.andThen_ok];cases d<;>simp only[Conv.stringToBytes,Sem.run_bind,Result.andThen_ok,hsz,hch,hel,newRow,run_newObj_alloc,Sem.run_pure,markStringish,run_shape] <;>
        simp[hshape]
      ·have:=VR.sl (ρ:=bQ ρ n ⟨w.heap.size,arr.size,1⟩) (D:=D') (O:=OX X (bQ ρ n ⟨w.heap.size,arr.size,1⟩) ((n,.row e 1 (s.map fun b=>.int .u8 (b.toNat:Int)))::mem)) (w:=(w.drew.alloc (.cells arr e)).freeze ⟨w.heap.size,arr.size,none⟩ 1) n 0 s.length cap hDn hcap (by rw[aO];simp;omega);rw[aO] at this;simpa using this
    ·cases h
   ·cases h
  ·cases h
end
def dD(Γ:List (Nat × AV))(s:St):List (Nat × Operand)->Option (List (Nat × AV))
 | []=>some []
 | (i,x)::r=>match ev Γ s x with
  | some a=>match dD Γ s r with
   | some l=>some ((i,a)::l)
   | none=>none
  | none=>none
def lQ(Γ:List (Nat × AV))(s:St):Option Operand->Option (Option AV)
 | none=>some none
 | some x=>match ev Γ s x with
  | some a=>some (some a)
  | none=>none
def aG(s:St):Option AV->Option (AV × aA × Nat)
 | some v=>some (v,s.mem,s.nx)
 | none=>none
def bH(P:Program)(Γ:List (Nat × AV))(s:St)(b:Builtin)(args:List Operand)(ts:List TypeId):Option (AV × aA × Nat):=
 match b with
 | .len=>match args,ts with
  | [x],[t]=>match ev Γ s x with
   | some a=>aG s (D6 P s.mem t a)
   | none=>none
  | _,_=>none
 | .append=>match args,ts with
  | [x,y],[t,u]=>match ev Γ s x with
   | some a=>match ev Γ s y with
    | some b=>iT P s.mem s.nx t u a b
    | none=>none
   | none=>none
  | _,_=>none
 | .min=>match r9 Γ s args with
  | some (.int k x::r)=>match CW x r with
   | some m=>some (.int k m,s.mem,s.nx)
   | none=>none
  | _=>none
 | .max=>match r9 Γ s args with
  | some (.int k x::r)=>match B5 x r with
   | some m=>some (.int k m,s.mem,s.nx)
   | none=>none
  | _=>none
 | .unsafeSliceData=>match args,ts with
  | [x],[_]=>match ev Γ s x with
   | some a=>aG s (i6 a)
   | none=>none
  | _,_=>none
 | .unsafeString=>match args,ts with
  | [x,y],[t,_]=>match ev Γ s x with
   | some a=>match ev Γ s y with
    | some b=>match oC P s.mem t a b with
     | some (v,m)=>some (v,m,s.nx)
     | none=>none
    | none=>none
   | none=>none
  | _,_=>none
 | .copy=>match args,ts with
  | [x,y],[t,_]=>match ev Γ s x with
   | some a=>match ev Γ s y with
    | some b=>match xV P s.mem t a b with
     | some (v,m)=>some (v,m,s.nx)
     | none=>none
    | none=>none
   | none=>none
  | _,_=>none
 | .clear=>match args,ts with
  | [x],[t]=>match ev Γ s x with
   | some a=>match sR P s.mem t a with
    | some m=>some (.tup [],m,s.nx)
    | none=>none
   | none=>none
  | _,_=>none
 | _=>none
def wS(P:Program)(Γ:List (Nat × AV))(s:St)(f:Operand)(args:List Operand):Option (AV × aA × Nat):=
 match ev Γ s f with
 | some (.fn (.func F) [] [])=>match P.funcs[F]? with
  | some fn=>match fn.body with
   | none=>match qP fn with
    | true=>match r9 Γ s args with
     | some [v]=>some (v,s.mem,s.nx)
     | _=>none
    | false=>none
   | some _=>none
  | none=>none
 | _=>none
def qM(P:Program)(t:TypeId)(ok:Bool)(x:AV):Option AV:=
 match P.underlying t with
 | some (.interface _)=>none
 | some _=>match x with
  | .ifc u v=>match Nat.beq u t with
   | true=>match ok with
    | true=>some (.tup [v,.bool true])
    | false=>some v
   | false=>none
  | _=>none
 | none=>none
def aW(P:Program)(Γ:List (Nat × AV))(s:St)(op:Op):Option (AV × aA × Nat):=
 match op with
 | .move x=>aG s (ev Γ s x)
 | .assign x=>aG s (ev Γ s x)
 | .pick c a b=>match ev Γ s c with
  | some (.bool true)=>aG s (ev Γ s a)
  | some (.bool false)=>aG s (ev Γ s b)
  | _=>none
 | .alloc t=>kI P s.mem s.nx t
 | .box t x=>match ev Γ s x with
  | some v=>yU P s.mem s.nx t v
  | none=>none
 | .build t parts=>match dD Γ s parts.toList with
  | some ps=>aG s (sG P t ps)
  | none=>none
 | .buildSlice t len parts=>match dD Γ s parts.toList with
  | some ps=>cR P s.mem s.nx t len ps
  | none=>none
 | .load t x=>match ev Γ s x with
  | some p=>aG s (qY P s.mem t p)
  | none=>none
 | .store t x y=>match ev Γ s x with
  | some p=>match ev Γ s y with
   | some v=>match mH P s.mem t p v with
    | some m=>some (.tup [],m,s.nx)
    | none=>none
   | none=>none
  | none=>none
 | .nilCheck x=>match ev Γ s x with
  | some p=>aG s (DJ p)
  | none=>none
 | .binOp op t x y _=>match ev Γ s x with
  | some a=>match ev Γ s y with
   | some b=>aG s (Co P op t x y a b)
   | none=>none
  | none=>none
 | .unOp op _ x=>match ev Γ s x with
  | some a=>aG s (H7 op a)
  | none=>none
 | .convert src dst x=>match ev Γ s x with
  | some a=>match sQ P s.mem src dst a with
   | some v=>some (v,s.mem,s.nx)
   | none=>dY P s.mem s.nx src dst a
  | none=>none
 | .makeInterface t x=>match ev Γ s x with
  | some a=>aG s (vM P t a)
  | none=>none
 | .makeFunc fn first cap=>match r9 Γ s first.toList with
  | some l1=>match r9 Γ s cap.toList with
   | some l2=>some (.fn fn l1 l2,s.mem,s.nx)
   | none=>none
  | none=>none
 | .makeSlice t l c=>match ev Γ s l with
  | some a=>match ev Γ s c with
   | some b=>o8 P s.mem s.nx t a b
   | none=>none
  | none=>none
 | .slice t x lo hi mx=>match ev Γ s x with
  | some a=>match lQ Γ s lo with
   | some l=>match lQ Γ s hi with
    | some h=>match lQ Γ s mx with
     | some m=>match !m.isSome || h.isSome with
      | true=>aG s (rI P s.mem t a l h m)
      | false=>none
     | none=>none
    | none=>none
   | none=>none
  | none=>none
 | .fieldAddr t x f=>match ev Γ s x with
  | some p=>aG s (gJ P t f p)
  | none=>none
 | .field t x f=>match ev Γ s x with
  | some p=>aG s (rM P t f p)
  | none=>none
 | .indexAddr t x ix=>match ev Γ s x with
  | some p=>match ev Γ s ix with
   | some i=>aG s (gG P s.mem t p i)
   | none=>none
  | none=>none
 | .index t x ix=>match ev Γ s x with
  | some p=>match ev Γ s ix with
   | some i=>aG s (qS P t p i)
   | none=>none
  | none=>none
 | .extract x i=>match ev Γ s x with
  | some p=>aG s (j6 p i)
  | none=>none
 | .typeAssert x _ t ok=>match ev Γ s x with
  | some p=>aG s (qM P t ok p)
  | none=>none
 | .makeMap _ reserve=>match reserve with
  | none=>y4 s.mem s.nx none
  | some _=>none
 | .lookup t x ix ok=>match ev Γ s x with
  | some p=>match ev Γ s ix with
   | some i=>aG s (f0 P s.mem t p i ok)
   | none=>none
  | none=>none
 | .mapUpdate t x y z=>match ev Γ s x with
  | some p=>match ev Γ s y with
   | some k=>match ev Γ s z with
    | some v=>match eU P s.mem t p k v with
     | some m=>some (.tup [],m,s.nx)
     | none=>none
    | none=>none
   | none=>none
  | none=>none
 | .insert t x y z=>match ev Γ s x with
  | some p=>match ev Γ s y with
   | some k=>match ev Γ s z with
    | some v=>match eU P s.mem t p k v with
     | some m=>some (.tup [],m,s.nx)
     | none=>none
    | none=>none
   | none=>none
  | none=>none
 | .range t x=>match ev Γ s x with
  | some p=>oN P s.mem s.nx t p
  | none=>none
 | .entry x=>match ev Γ s x with
  | some p=>aG s (sA s.mem p)
  | none=>none
 | .next x b=>match b with
  | false=>match ev Γ s x with
   | some p=>match nU s.mem p with
    | some (v,m)=>some (v,m,s.nx)
    | none=>none
   | none=>none
  | true=>none
 | .call c=>match c.callee with
  | .builtin b=>bH P Γ s b c.args.toList c.argTypes.toList
  | .value f=>wS P Γ s f c.args.toList
  | _=>none
 | _=>none
def uL(P:Program)(Γ:List (Nat × AV))(X:Nat->Prop)(ρ:Nat->a6)(D:Nat->Prop)(mem:aA)(w:World)(r:Result Next)(v:AV)(mem':aA)(D':Nat->Prop):Prop:=
 ∃(x:Value) (n:Next) (w':World) (ρ':Nat->a6),r = .ok n w'/\(n = .value x∨(n = .skip/\x=undef))/\MR Γ X ρ' D' mem' w'/\VR ρ' D' (OX X ρ' mem') w' v x /\
  (∀u y,VR ρ D (OX X ρ mem) w u y->VR ρ' D' (OX X ρ' mem') w' u y)/\∀A:Nat->Prop,(∀i,A i->D i)->Ext A ρ mem w ρ' D' mem' w'
section
variable {P:Program} {Γ:List (Nat × AV)} {X:Nat->Prop} {ds:List Deferred × Nat} {ρ:Nat->a6} {D D':Nat->Prop} {s:St} {a:Act} {w:World}
theorem iR.next{mem mem':aA}{m:Sem Value}{v:AV}(h:iR P Γ X ρ D mem w (m.run P w) v mem' D') :
  uL P Γ X ρ D mem w ((do let x ←m;pure (Next.value x)).run P w) v mem' D':=by
 obtain⟨x,w',ρ',h1,h2,h3,h4,h5⟩:=h.ex;exact⟨x,.value x,w',ρ',by simp[h1],.inl rfl,h2,h3,h4,h5⟩
theorem bM(hD:∀i,D i->D' i)(hs:SR Γ X ds ρ D s a w){m:Sem Value}{v:AV}{o:Option AV}{v':AV}{mem':aA}{N':Nat}(h:aG s o=some (v',mem',N'))
  (hm:∀v,o=some v->∃x,m.run P w = .ok x w/\VR ρ D (OX X ρ s.mem) w v x) :
  uL P Γ X ρ D s.mem w ((do let x ←m;pure (Next.value x)).run P w) v' mem' D':=by
 unfold aG at h;split at h
 ·rename_i v0;cases h;obtain⟨x,h1,h2⟩:=hm _ rfl;obtain⟨w1,w2,w3⟩:=hs.mr.widen hD;exact⟨x,.value x,w,ρ,by simp[h1],.inl rfl,w1,w2 _ _ h2,w2,w3⟩
 ·cases h
theorem fB(hs:SR Γ X ds ρ D s a w):∀{ps:List (Nat × Operand)} {vs:List (Nat × AV)},dD Γ s ps=some vs ->
  vs.length=(ps.map fun(i,x)=>(i,a.eval x)).length/\∀(j:Nat) (p:Nat × AV) (q:Nat × Value),vs[j]? = some p->(ps.map fun(i,x)=>(i,a.eval x))[j]? = some q->p.1=q.1/\VR ρ D (OX X ρ s.mem) w p.2 q.2
 | [],vs,h=>by simp[dD] at h;subst h;simp
 | (i,x)::r,vs,h=>by
  simp only[dD] at h;split at h
  ·rename_i v hv;split at h
   ·rename_i l hl;cases h;obtain⟨h1,h2⟩:=fB hs hl;refine⟨by simpa using h1,fun j p q hp hq=>?_⟩;cases j with
    | zero=>simp at hp hq;subst hp hq;exact⟨rfl,aB hs hv⟩
    | succ j=>simp at hp hq;exact h2 j p q hp (by simpa using hq)
   ·cases h
  ·cases h
theorem dV(hs:SR Γ X ds ρ D s a w){x:Option Operand}{v:Option AV}(h:lQ Γ s x=some v):Bl ρ D (OX X ρ s.mem) w v (x.map a.eval):=by
 unfold lQ at h;split at h
 ·cases h;exact .none
 ·split at h
  ·rename_i u hu;cases h;exact .some _ _ (aB hs hu)
  ·cases h
end
end Go.Ax
namespace Go.Ax
open Go
theorem u6{P:Program}{mem:aA}{nx:Nat}{t:TypeId}{v:AV}{m:aA}{n:Nat}(h:kI P mem nx t=some (v,m,n)):n=nx+1:=by
 unfold kI at h;repeat(split at h<;>first|(cases h;done)|skip)
 cases h;rfl
theorem BI{P:Program}{mem:aA}{nx:Nat}{t:TypeId}{a v:AV}{m:aA}{n:Nat}(h:yU P mem nx t a=some (v,m,n)):n=nx+1:=by
 unfold yU at h;repeat(split at h<;>first|(cases h;done)|skip)
 cases h;rfl
theorem kA{P:Program}{mem:aA}{nx:Nat}{t:TypeId}{l:Nat}{ps:List (Nat × AV)}{v:AV}{m:aA}{n:Nat}(h:cR P mem nx t l ps=some (v,m,n)):n=nx+1:=by
 unfold cR at h;repeat(split at h<;>first|(cases h;done)|skip)
 cases h;rfl
theorem nL{P:Program}{mem:aA}{nx:Nat}{t u:TypeId}{a v:AV}{m:aA}{n:Nat}(h:dY P mem nx t u a=some (v,m,n)):n=nx+1:=by
 unfold dY at h;repeat(split at h<;>first|(cases h;done)|skip)
 cases h;rfl
theorem xJ{P:Program}{mem:aA}{nx:Nat}{t:TypeId}{a b v:AV}{m:aA}{n:Nat}(h:o8 P mem nx t a b=some (v,m,n)):n=nx+1:=by
 unfold o8 at h;repeat(split at h<;>first|(cases h;done)|skip)
 cases h;rfl
theorem B4{P:Program}{mem:aA}{nx:Nat}{t:TypeId}{a v:AV}{m:aA}{n:Nat}(h:oN P mem nx t a=some (v,m,n)):n=nx+1:=by
 unfold oN at h;repeat(split at h<;>first|(cases h;done)|skip)
 cases h;rfl
theorem AQ{P:Program}{mem:aA}{nx:Nat}{t u:TypeId}{a b v:AV}{m:aA}{n:Nat}(h:iT P mem nx t u a b=some (v,m,n)):n=nx∨n=nx+1:=by
 unfold iT at h;repeat' (first|(cases h;done)|split at h)
 all_goals first|(cases h;exact .inl rfl)|(cases h;exact .inr rfl)
section
variable {P:Program} {Γ:List (Nat × AV)} {X:Nat->Prop} {ds:List Deferred × Nat} {ρ:Nat->a6} {D D':Nat->Prop} {s:St} {a:Act} {w:World}
theorem rQ(hn0:¬D s.nx)(hD:∀i,D i->D' i)(hs:SR Γ X ds ρ D s a w){b:Builtin}{args:List Operand}{ts:List TypeId}{v:AV}{mem':aA}{N':Nat}(hDn:N'=s.nx+1->D' s.nx)(h:bH P Γ s b args ts=some (v,mem',N'))
  (ty:TypeId) (cs:Array Bool) :
  uL P Γ X ρ D s.mem w ((builtin b ts.toArray ty cs (args.map a.eval).toArray).run P w) v mem' D':=by
 unfold bH at h;split at h
 ·split at h
  ·rename_i x t;split at h
   ·rename_i p hp;have:=bM (P:=P) hD (m:=Builtin.len_ #[t] ty #[a.eval x]) (v:=v) hs h (fun v' hv=>rV hv (aB hs hp) ty);simpa[builtin] using this
   ·cases h
  ·cases h
 ·split at h
  ·rename_i x y t u;split at h
   ·rename_i p hp;split at h
    ·rename_i q hq;have:=(tN (P:=P) (ty:=ty) hn0 hD hs.mr hDn h (aB hs hp) (aB hs hq)).next;simpa[builtin] using this
    ·cases h
   ·cases h
  ·cases h
 ·split at h
  ·rename_i k x r hr;split at h
   ·rename_i m hm;cases h;have hv:=cN hs hr;obtain⟨y,ys,e⟩:∃y ys,args.map a.eval=y::ys:=by
     cases hl:args.map a.eval with
     | nil=>have:=hv.1;rw[hl] at this;simp at this
     | cons y ys=>exact⟨y,ys,rfl⟩
    rw[e] at hv ⊢;have h0:=hv.2 0 _ y rfl rfl;cases h0;have hr':dO ρ D (OX X ρ s.mem) w r ys:=⟨by have:=hv.1;simpa using this,fun j c x h1 h2=>hv.2 (j+1) c x (by simpa using h1) (by simpa using h2)⟩
    have:=mC (P:=P) k hm hr';obtain⟨w1,w2,w3⟩:=hs.mr.widen hD;exact⟨.int k m,.value (.int k m),w,ρ,by simp[builtin,Builtin.min_,this],.inl rfl,w1,.int _ _,w2,w3⟩
   ·cases h
  ·cases h
 ·split at h
  ·rename_i k x r hr;split at h
   ·rename_i m hm;cases h;have hv:=cN hs hr;obtain⟨y,ys,e⟩:∃y ys,args.map a.eval=y::ys:=by
     cases hl:args.map a.eval with
     | nil=>have:=hv.1;rw[hl] at this;simp at this
     | cons y ys=>exact⟨y,ys,rfl⟩
    rw[e] at hv ⊢;have h0:=hv.2 0 _ y rfl rfl;cases h0;have hr':dO ρ D (OX X ρ s.mem) w r ys:=⟨by have:=hv.1;simpa using this,fun j c x h1 h2=>hv.2 (j+1) c x (by simpa using h1) (by simpa using h2)⟩
    have:=mD (P:=P) k hm hr';obtain⟨w1,w2,w3⟩:=hs.mr.widen hD;exact⟨.int k m,.value (.int k m),w,ρ,by simp[builtin,Builtin.max_,this],.inl rfl,w1,.int _ _,w2,w3⟩
   ·cases h
  ·cases h
 ·split at h
  ·rename_i x t;split at h
   ·rename_i p hp;have:=bM (P:=P) hD (m:=Builtin.unsafeSliceData_ #[t] ty #[a.eval x]) (v:=v) hs h (fun v' hv=>oL hv (aB hs hp) _ ty);simpa[builtin] using this
   ·cases h
  ·cases h
 ·split at h
  ·rename_i x y t u;split at h
   ·rename_i p hp;split at h
    ·rename_i q hq;split at h
     ·rename_i v0 m0 hu;cases h;obtain⟨w1,w2,w3⟩:=hs.mr.widen hD;obtain⟨z,w',hr,m1,m2,m3,m4⟩:=rU (P:=P) (it:=u) (ty:=ty) w1 hu (w2 _ _ (aB hs hp)) (w2 _ _ (aB hs hq));exact⟨z,.value z,w',ρ,by simp[builtin,hr],.inl rfl,m1,m2,fun u y h=>m3 u y (w2 u y h),fun A hA=>m4 A (fun i hi=>hD i (hA i hi))⟩
     ·cases h
    ·cases h
   ·cases h
  ·cases h
 ·split at h
  ·rename_i x y t u;split at h
   ·rename_i p hp;split at h
    ·rename_i q hq;split at h
     ·rename_i v0 m0 hu;cases h;obtain⟨w1,w2,w3⟩:=hs.mr.widen hD;obtain⟨n0,w',hv0,hr,m1,m3,m4⟩:=yN (P:=P) (t:=t) (u:=u) (ty:=ty) w1 hu (w2 _ _ (aB hs hp)) (w2 _ _ (aB hs hq));refine⟨.int .i64 n0,.value (.int .i64 n0),w',ρ,by simp[builtin,hr],.inl rfl,m1, ?_,fun u y h=>m3 u y (w2 u y h),fun A hA=>m4 A (fun i hi=>hD i (hA i hi))⟩;rw[hv0];exact .int _ _
     ·cases h
    ·cases h
   ·cases h
  ·cases h
 ·split at h
  ·rename_i x t;split at h
   ·rename_i p hp;split at h
    ·rename_i m0 hu;cases h;obtain⟨w1,w2,w3⟩:=hs.mr.widen hD;obtain⟨w',hr,m1,m3,m4⟩:=wG (P:=P) (t:=t) (ty:=ty) w1 hu (w2 _ _ (aB hs hp));exact⟨.tuple #[],.value (.tuple #[]),w',ρ,by simp[builtin,hr],.inl rfl,m1,.tup [] #[] rfl (by simp),fun u y h=>m3 u y (w2 u y h),fun A hA=>m4 A (fun i hi=>hD i (hA i hi))⟩
    ·cases h
   ·cases h
  ·cases h
 ·cases h
theorem Am(hD:∀i,D i->D' i)(hs:SR Γ X ds ρ D s a w)(o:Oper){c:Call}{f:Operand}(hop:o.op = .call c)(hc:c.callee = .value f){v:AV}{mem':aA}{N':Nat}(h:wS P Γ s f c.args.toList=some (v,mem',N')) :
  uL P Γ X ρ D s.mem w ((execOp a.eval o).run P w) v mem' D':=by
 unfold wS at h;split at h<;>first|(cases h;done)|skip
 rename_i F hf;split at h<;>first|(cases h;done)|skip
 rename_i fn hfn;split at h<;>first|(cases h;done)|skip
 rename_i hb;split at h<;>first|(cases h;done)|skip
 rename_i hn;split at h<;>first|(cases h;done)|skip
 rename_i v0 hargs;cases h;have hv:=aB hs hf;have hr:=cN hs hargs;obtain⟨y,hy⟩:∃y,c.args.toList.map a.eval=[y]:=by
  have h1:=hr.1
  match hm:c.args.toList.map a.eval,h1 with
  | [y],_=>exact⟨y,rfl⟩
 rw[hy] at hr;have hy':c.args.map a.eval = #[y]:=by apply Kn;simpa using hy
 generalize he:a.eval f=fv at hv;cases hv with
 | fn _ _ _ a1 a2 l1 l2 r1 r2=>
  have e1:a1 = #[]:=Jm (by simpa using l1.symm);have e2:a2 = #[]:=Jm (by simpa using l2.symm);subst e1 e2;obtain⟨w1,w2,w3⟩:=hs.mr.widen hD;refine⟨y,.value y,w,ρ, ?_,.inl rfl,w1,w2 _ _ (hr.2 0 _ _ rfl rfl),w2,w3⟩;have:=Bp (w:=w) hfn hb hn y;simp[execOp,hop,resolve,hc,he,Deferred.ofValue,invoke,hy',this]
theorem tL{O:Nat->Prop}{t xt:TypeId}{ok:Bool}{p v:AV}{x:Value}(h:qM P t ok p=some v)(hx:VR ρ D O w p x):∃y,(Instr.typeAssert x xt t ok).run P w = .ok y w/\VR ρ D O w v y:=by
 unfold qM at h;split at h
 ·cases h
 ·rename_i d hni hu;split at h
  ·rename_i u q;split at h
   ·rename_i he;have he:=Nat.eq_of_beq_eq_true he;subst he;cases hx with
    | ifc _ _ z hz=>
     have key:(Instr.typeAssert (.iface u z) xt u ok).run P w = .ok (if ok then .tuple #[z,.bool true] else z) w:=by
      cases d<;>first|exact(hni _ rfl).elim|exact(hni _ hu).elim|simp[Instr.typeAssert,run_underlying hu]
     refine⟨_,key, ?_⟩;split at h
     ·cases h;exact .tup [q,.bool true] #[z,.bool true] rfl (fun j c y h1 h2=>by
       match j,h1,h2 with
       | 0,h1,h2=>simp at h1 h2;subst h1 h2;exact hz
       | 1,h1,h2=>simp at h1 h2;subst h1 h2;exact .bool _
       | j+2,h1,h2=>simp at h1)
     ·cases h;exact hz
   ·cases h
  ·cases h
 ·cases h
theorem lA(hD:∀i,D i->D' i)(hs:SR Γ X ds ρ D s a w){x:Operand}{v:AV}{mem':aA}{N':Nat}(h:aG s (ev Γ s x)=some (v,mem',N')) :
  uL P Γ X ρ D s.mem w (.ok (.value (a.eval x)) w) v mem' D':=by
 unfold aG at h;split at h
 ·rename_i v0 hv;cases h;obtain⟨w1,w2,w3⟩:=hs.mr.widen hD;exact⟨_,_,w,ρ,rfl,.inl rfl,w1,w2 _ _ (aB hs hv),w2,w3⟩
 ·cases h
theorem fK(hn0:¬D s.nx)(hD:∀i,D i->D' i)(hs:SR Γ X ds ρ D s a w)(o:Oper){v:AV}{mem':aA}{N':Nat}(hDn:N'=s.nx+1->D' s.nx)(h:aW P Γ s o.op=some (v,mem',N')) :
  uL P Γ X ρ D s.mem w ((execOp a.eval o).run P w) v mem' D':=by
 cases hop:o.op<;>rw[hop] at h<;>simp only[aW] at h<;>first|(cases h;done)|skip
 case move x=>simpa[execOp,hop] using lA (P:=P) hD hs h
 case assign x=>simpa[execOp,hop] using lA (P:=P) hD hs h
 case pick c x y=>
  split at h
  ·rename_i hc;have hb:=aB hs hc;generalize he:a.eval c=cv at hb;cases hb;simpa[execOp,hop,asBool,he] using lA (P:=P) hD hs h
  ·rename_i hc;have hb:=aB hs hc;generalize he:a.eval c=cv at hb;cases hb;simpa[execOp,hop,asBool,he] using lA (P:=P) hD hs h
  ·cases h
 case alloc t=>simpa[execOp,hop] using (vJ (P:=P) hn0 hD (hDn (u6 h)) hs.mr h).next
 case box t x=>
  split at h
  ·rename_i p hp;simpa[execOp,hop] using (Aa (P:=P) hn0 hD (hDn (BI h)) hs.mr h (aB hs hp)).next
  ·cases h
 case build t parts=>
  split at h
  ·rename_i ps hps;obtain⟨h1,h2⟩:=fB hs hps;have:=bM (P:=P) hD (m:=Instr.build t (parts.toList.map fun(i,x)=>(i,a.eval x)).toArray) (v:=v) hs h (fun v' hv=>mZ hv h1 h2);have e:(parts.map fun(i,x)=>(i,a.eval x))=(parts.toList.map fun(i,x)=>(i,a.eval x)).toArray:=by apply Kn;simp
   simp only[execOp,hop];rw[e];exact this
  ·cases h
 case buildSlice t len parts=>
  split at h
  ·rename_i ps hps;obtain⟨h1,h2⟩:=fB hs hps;have:=(oD (P:=P) hn0 hD (hDn (kA h)) hs.mr h h1 h2).next;have e:(parts.map fun(i,x)=>(i,a.eval x))=(parts.toList.map fun(i,x)=>(i,a.eval x)).toArray:=by apply Kn;simp
   simp only[execOp,hop];rw[e];exact this
  ·cases h
 case load t x=>
  split at h
  ·rename_i p hp;have:=bM (P:=P) hD (m:=Instr.loadAt t (a.eval x)) (v:=v) hs h (fun v' hv=>jR hs.mr hv (aB hs hp));simpa[execOp,hop] using this
  ·cases h
 case store t x y=>
  split at h
  ·rename_i p hp;split at h
   ·rename_i q hq;split at h
    ·rename_i m hm;cases h;obtain⟨w',h1,h2,h3,h4⟩:=wH (P:=P) hs.mr hm (aB hs hp) (aB hs hq);obtain⟨w1,w2,w3⟩:=h2.widen hD;exact⟨undef,.skip,w',ρ,by simp[execOp,hop,h1],.inr ⟨rfl,rfl⟩,w1,.tup [] #[] rfl (by simp),fun u y hu=>w2 _ _ (h3 u y hu),fun B hB=>(h4 B hB).trans (w3 B hB)⟩
    ·cases h
   ·cases h
  ·cases h
 case typeAssert x xt t ok=>
  split at h
  ·rename_i p hp;have:=bM (P:=P) hD (m:=Instr.typeAssert (a.eval x) xt t ok) (v:=v) hs h (fun v' hv=>tL hv (aB hs hp));simpa[execOp,hop] using this
  ·cases h
 case makeMap t r=>
  split at h
  ·have hnx:N'=s.nx+1:=by cases h;rfl
   simpa[execOp,hop] using (rL (P:=P) (t:=t) hn0 hD (hDn hnx) hs.mr h).next
  ·cases h
 case lookup t x ix ok=>
  split at h
  ·rename_i p hp;split at h
   ·rename_i i hi;have:=bM (P:=P) hD (m:=Instr.lookup t (a.eval x) (a.eval ix) ok) (v:=v) hs h (fun v' hv=>l6 hs.mr hv (aB hs hp) (aB hs hi));simpa[execOp,hop] using this
   ·cases h
  ·cases h
 case mapUpdate t x y z=>
  split at h
  ·rename_i p hp;split at h
   ·rename_i k hk;split at h
    ·rename_i q hq;split at h
     ·rename_i m hm;cases h;obtain⟨w',h1,h2,h3,h4⟩:=iO (P:=P) hs.mr hm (aB hs hp) (aB hs hk) (aB hs hq);obtain⟨w1,w2,w3⟩:=h2.widen hD;exact⟨undef,.skip,w',ρ,by simp[execOp,hop,h1],.inr ⟨rfl,rfl⟩,w1,.tup [] #[] rfl (by simp),fun u y hu=>w2 _ _ (h3 u y hu),fun B hB=>(h4 B hB).trans (w3 B hB)⟩
     ·cases h
    ·cases h
   ·cases h
  ·cases h
 case range t x=>
  split at h
  ·rename_i p hp;obtain⟨h1,h2⟩:=m7 (P:=P) (D':=fun i=>D' i∨i=s.nx) hn0 (fun i hi=>.inl (hD i hi)) (.inr rfl) hs.mr h (aB hs hp);obtain⟨h1,-⟩:=m7 (P:=P) hn0 hD (hDn h2) hs.mr h (aB hs hp);simpa[execOp,hop] using h1.next
  ·cases h
 case entry x=>
  split at h
  ·rename_i p hp;have:=bM (P:=P) hD (m:=Instr.entry (a.eval x)) (v:=v) hs h (fun v' hv=>wP hs.mr hv (aB hs hp));simpa[execOp,hop] using this
  ·cases h
 case next x b=>
  split at h
  ·split at h
   ·rename_i p hp;split at h
    ·rename_i u m hm;cases h;obtain⟨y,w',h1,h2,h3,h4,h5⟩:=y5 (P:=P) (ty:=o.type) hs.mr hm (aB hs hp);obtain⟨w1,w2,w3⟩:=h2.widen hD;exact⟨y,.value y,w',ρ,by simp[execOp,hop,h1],.inl rfl,w1,w2 _ _ h3,fun u y hu=>w2 _ _ (h4 u y hu),fun B hB=>(h5 B hB).trans (w3 B hB)⟩
    ·cases h
   ·cases h
  ·cases h
 case insert t x y z=>
  split at h
  ·rename_i p hp;split at h
   ·rename_i k hk;split at h
    ·rename_i q hq;split at h
     ·rename_i m hm;cases h;obtain⟨w',h1,h2,h3,h4⟩:=iO (P:=P) hs.mr hm (aB hs hp) (aB hs hk) (aB hs hq);obtain⟨w1,w2,w3⟩:=h2.widen hD;exact⟨undef,.skip,w',ρ,by simp[execOp,hop,h1],.inr ⟨rfl,rfl⟩,w1,.tup [] #[] rfl (by simp),fun u y hu=>w2 _ _ (h3 u y hu),fun B hB=>(h4 B hB).trans (w3 B hB)⟩
     ·cases h
    ·cases h
   ·cases h
  ·cases h
 case nilCheck x=>
  split at h
  ·rename_i p hp;unfold aG at h;split at h
   ·rename_i v0 hv;cases h;obtain⟨h1,h2⟩:=q7 (P:=P) hv (aB hs hp) o a.eval x hop rfl;obtain⟨w1,w2,w3⟩:=hs.mr.widen hD;exact⟨_,_,w,ρ,h1,.inl rfl,w1,w2 _ _ h2,w2,w3⟩
   ·cases h
  ·cases h
 case binOp op t x y t'=>
  split at h
  ·rename_i p hp;split at h
   ·rename_i q hq;have:=bM (P:=P) hD (m:=do eqGuard op t x y (a.eval x) (a.eval y);binOp op t (a.eval x) (a.eval y)) (v:=v) hs h (fun v' hv=>sD hv (aB hs hp) (aB hs hq));simpa[execOp,hop] using this
   ·cases h
  ·cases h
 case unOp op t x=>
  split at h
  ·rename_i p hp;have:=bM (P:=P) hD (m:=Op.unary op (a.eval x)) (v:=v) hs h (fun v' hv=>uP hv (aB hs hp));simpa[execOp,hop] using this
  ·cases h
 case convert src dst x=>
  split at h
  ·rename_i p hp;split at h
   ·rename_i v0 hv;cases h;obtain⟨z,h1,h2⟩:=pR (P:=P) hs.mr hv (aB hs hp);obtain⟨w1,w2,w3⟩:=hs.mr.widen hD;exact⟨z,.value z,w,ρ,by simp[execOp,hop,h1],.inl rfl,w1,w2 _ _ h2,w2,w3⟩
   ·simpa[execOp,hop] using (pZ (P:=P) hn0 hD (hDn (nL h)) hs.mr h (aB hs hp)).next
  ·cases h
 case makeInterface t x=>
  split at h
  ·rename_i p hp;have:=bM (P:=P) hD (m:=Instr.makeInterface t (a.eval x)) (v:=v) hs h (fun v' hv=>nE hv (aB hs hp));simpa[execOp,hop] using this
  ·cases h
 case makeFunc fn first cap=>
  split at h
  ·rename_i l1 h1;split at h
   ·rename_i l2 h2;cases h;have e1:=cN hs h1;have e2:=cN hs h2;obtain⟨w1,w2,w3⟩:=hs.mr.widen hD;refine⟨.func fn (first.map a.eval) (cap.map a.eval),.value (.func fn (first.map a.eval) (cap.map a.eval)),w,ρ,by simp[execOp,hop,Instr.makeFunc],.inl rfl,w1,w2 _ _ ?_,w2,w3⟩;exact .fn fn l1 l2 _ _ (by have:=e1.1;simpa using this) (by have:=e2.1;simpa using this)
     (fun j c x g1 g2=>e1.2 j c x g1 (by simpa using g2)) (fun j c x g1 g2=>e2.2 j c x g1 (by simpa using g2))
   ·cases h
  ·cases h
 case makeSlice t l c=>
  split at h
  ·rename_i p hp;split at h
   ·rename_i q hq;simpa[execOp,hop] using (xU (P:=P) hn0 hD (hDn (xJ h)) hs.mr h (aB hs hp) (aB hs hq)).next
   ·cases h
  ·cases h
 case slice t x lo hi mx=>
  split at h
  ·rename_i p hp;split at h
   ·rename_i l hl;split at h
    ·rename_i hh hhi;split at h
     ·rename_i m hm;split at h
      ·rename_i hmx;have hmx':m.isSome=true->hh.isSome=true:=by
        intro e;rw[e] at hmx;simpa using hmx
       have:=bM (P:=P) hD (m:=Instr.sliceAt t (a.eval x) (lo.map a.eval) (hi.map a.eval) (mx.map a.eval)) (v:=v) hs h
        (fun v' hv=>nC hs.mr hv (aB hs hp) (dV hs hl) (dV hs hhi) (dV hs hm) hmx')
       simpa[execOp,hop] using this
      ·cases h
     ·cases h
    ·cases h
   ·cases h
  ·cases h
 case fieldAddr t x f=>
  split at h
  ·rename_i p hp;have:=bM (P:=P) hD (m:=Instr.fieldAt t (a.eval x) f) (v:=v) hs h (fun v' hv=>iJ hv (aB hs hp));simpa[execOp,hop] using this
  ·cases h
 case field t x f=>
  split at h
  ·rename_i p hp;have:=bM (P:=P) hD (m:=Instr.field t (a.eval x) f) (v:=v) hs h (fun v' hv=>oE hv (aB hs hp));simpa[execOp,hop] using this
  ·cases h
 case indexAddr t x ix=>
  split at h
  ·rename_i p hp;split at h
   ·rename_i q hq;have:=bM (P:=P) hD (m:=Instr.indexAt t (a.eval x) (a.eval ix)) (v:=v) hs h (fun v' hv=>iM hs.mr hv (aB hs hp) (aB hs hq));simpa[execOp,hop] using this
   ·cases h
  ·cases h
 case index t x ix=>
  split at h
  ·rename_i p hp;split at h
   ·rename_i q hq;have:=bM (P:=P) hD (m:=Instr.index t (a.eval x) (a.eval ix)) (v:=v) hs h (fun v' hv=>nK hv (aB hs hp) (aB hs hq));simpa[execOp,hop] using this
   ·cases h
  ·cases h
 case extract x i=>
  split at h
  ·rename_i p hp;have:=bM (P:=P) hD (m:=Instr.extract (a.eval x) i) (v:=v) hs h (fun v' hv=>kC hv (aB hs hp));simpa[execOp,hop] using this
  ·cases h
 case call c=>
  split at h
  ·rename_i b hb;have h1:=fun cs=>rQ (P:=P) hn0 hD hs hDn h o.type cs
   have e:(c.args.toList.map a.eval).toArray=c.args.map a.eval:=by apply Kn;simp
   simp only[e,Kc] at h1;simp only[execOp,hop,resolve,hb,Sem.run_bind,Sem.run_pure,Result.andThen_ok,invoke];exact h1 _
  ·rename_i f hf;exact Am hD hs o hop hf h
  ·cases h
theorem tA{o:Option AV}{v:AV}{m:aA}{n:Nat}(h:aG s o=some (v,m,n)):n=s.nx:=by
 unfold aG at h;split at h
 ·cases h;rfl
 ·cases h
theorem yA{b:Builtin}{args:List Operand}{ts:List TypeId}{v:AV}{m:aA}{n:Nat}(h:bH P Γ s b args ts=some (v,m,n)):n=s.nx∨n=s.nx+1:=by
 unfold bH at h;repeat' (first|(cases h;done)|split at h)
 all_goals first
  | exact .inl (tA h)
  | exact AQ h
  | (cases h;exact .inl rfl)
theorem EV{f:Operand}{args:List Operand}{v:AV}{m:aA}{n:Nat}(h:wS P Γ s f args=some (v,m,n)):n=s.nx:=by
 unfold wS at h;repeat(split at h<;>first|(cases h;done)|skip)
 cases h;rfl
theorem mW{op:Op}{v:AV}{m:aA}{n:Nat}(h:aW P Γ s op=some (v,m,n)):n=s.nx∨n=s.nx+1:=by
 unfold aW at h;repeat' (first|(cases h;done)|split at h)
 all_goals first
  | exact .inl (tA h)
  | exact .inr (u6 h)
  | exact .inr (BI h)
  | exact .inr (kA h)
  | exact .inr (nL h)
  | exact .inr (xJ h)
  | exact .inr (B4 h)
  | exact yA h
  | exact .inl (EV h)
  | (cases h;exact .inl rfl)
  | (cases h;exact .inr rfl)
  | (cases h;done)
end
end Go.Ax
namespace Go.Ax
open Go
def FW(rd:Option Nat):Fence:={ Fence.wide with round:=rd }
theorem qZ{rd:Option Nat}{n:Nat}{P:Program}{f:FuncId}{args:Array Value}{w:World}{R:Ending->World->Prop}:CallsIn (FW rd) n P f args w R↔Calls P f args w R:=callsIn_wide (n:=n)
theorem w7{P:Program}{c:Code}{Q:Exit->Act->World->Prop}{a:Act}{w:World}:c.wpIn (FW none) 0 P Q a w↔c.wp P Q a w:=wpIn_wide
theorem g7{rd:Option Nat}{P:Program}{o:Oper}{a:Act}{w:World}{K:Act->World->Prop}{Q:Exit->Act->World->Prop}(hnd:∀c,o.op≠.defer c){r:Result Next}(h:(execOp a.eval o).run P w=r)(hu:o.uponIn (FW rd) 0 P a K Q r) :
  o.wpIn (FW rd) 0 P a w K Q:=⟨fun _ _=>trivial,by rw[Oper.semAt_eq _ _ _ hnd,h];exact hu⟩
theorem Ae{rd:Option Nat}{P:Program}{o:Oper}{a:Act}{w w':World}{K:Act->World->Prop}{Q:Exit->Act->World->Prop}(hnd:∀c,o.op≠.defer c){f:FuncId}{args:Array Value}(h:(execOp a.eval o).run P w = .ok (.enter f args) w')
  (hu:Calls P f args w' fun
   | .returned v,w''=>K (a.put o.dst v) w''
   | .panicked chain,w''=>Q (.panic chain) a w''
   | .outgrown,_=>LetsOut Q):o.wpIn (FW rd) 0 P a w K Q:=
 g7 hnd h ⟨fun h=>by simp[FW,Fence.wide] at h,qZ.2 hu⟩
theorem nX{P:Program}{Γ:List (Nat × AV)}{s:St}{op:Op}{x:AV × aA × Nat}(h:aW P Γ s op=some x):∀c,op≠.defer c:=by
 rintro c rfl;simp[aW] at h
def YF:Nat:=1000000007
def CallsZ(P:Program)(F:FuncId)(vs:Array Value)(w:World)(R:Ending->World->Prop):Prop:=
 match Nat.beq F YF with
 | false=>Calls P F vs w R
 | true=>(∃(l:Nat) (rest:Array Value) (fn:FuncId) (tmps:Array Value) (ca cb:Code),vs = #[.func (.yield l) #[] #[]]++rest/\(Instr.yield l rest).run P w = .ok (.round l fn tmps ca cb) w/\RoundIn (FW none) 0 P l fn tmps ca cb w R) ∨
  ∃(b:Option Addr) (y:Value) (w':World),vs = #[.pointer b]/\(∀ty,(Instr.next (.pointer b) false ty).run P w = .ok y w')/\R (.returned y) w'
theorem CallsZ.mono{P:Program}{F:FuncId}{vs:Array Value}{w:World}{R R':Ending->World->Prop}(h:CallsZ P F vs w R)(hr:∀e w',R e w'->R' e w'):CallsZ P F vs w R':=by
 unfold CallsZ at h ⊢;split at h
 ·exact h.mono hr
 ·rcases h with⟨l,rest,fn,tmps,ca,cb,h1,h2,h3⟩|⟨b,y,w',h1,h2,h3⟩
  ·exact .inl ⟨l,rest,fn,tmps,ca,cb,h1,h2,h3.mono hr⟩
  ·exact .inr ⟨b,y,w',h1,h2,hr _ _ h3⟩
theorem CallsZ.of{P:Program}{F:FuncId}{vs:Array Value}{w:World}{R:Ending->World->Prop}(hF:Nat.beq F YF=false)(h:Calls P F vs w R):CallsZ P F vs w R:=by
 unfold CallsZ;rw[hF];exact h
theorem CallsZ.calls{P:Program}{F:FuncId}{vs:Array Value}{w:World}{R:Ending->World->Prop}(hF:Nat.beq F YF=false)(h:CallsZ P F vs w R):Calls P F vs w R:=by
 unfold CallsZ at h;rw[hF] at h;exact h
def cU:Code->Bool
 | .seq x y=>match cU x with
  | true=>true
  | false=>cU y
 | .cond _ x y=>match cU x with
  | true=>true
  | false=>cU y
 | .block _ c=>cU c
 | .loop c=>cU c
 | .scope c=>cU c
 | .rangeFunc _ _ _ _=>true
 | _=>false
def o6(rd:Option Nat)(ds:List Deferred × Nat)(c:Code):Prop:=cU c=true->rd=none/\ds.2≠0
section
variable {rd:Option Nat} {ds:List Deferred × Nat} {x y c:Code}
theorem o6.seq1(h:o6 rd ds (.seq x y)):o6 rd ds x:=fun hx=>h (by simp only[cU,hx])
theorem o6.seq2(h:o6 rd ds (.seq x y)):o6 rd ds y:=fun hx=>h (by simp only[cU,hx];split<;>rfl)
theorem o6.cond1{o:Operand}(h:o6 rd ds (.cond o x y)):o6 rd ds x:=fun hx=>h (by simp only[cU,hx])
theorem o6.cond2{o:Operand}(h:o6 rd ds (.cond o x y)):o6 rd ds y:=fun hx=>h (by simp only[cU,hx];split<;>rfl)
theorem o6.block{i:Nat}(h:o6 rd ds (.block i c)):o6 rd ds c:=fun hx=>h (by simpa only[cU] using hx)
theorem o6.loop(h:o6 rd ds (.loop c)):o6 rd ds c:=fun hx=>h (by simpa only[cU] using hx)
theorem o6.scope(h:o6 rd ds (.scope c)):o6 rd ds c:=fun hx=>h (by simpa only[cU] using hx)
theorem o6.no(h:cU c=false):o6 rd ds c:=fun hx=>by rw[h] at hx;cases hx
end
structure aC(P:Program)(Γ:List (Nat × AV))(F:FuncId)(args:List AV)(mem:aA)(nx:Nat)(Q:AV->aA->Nat->Prop):Prop where
 run:∀(X:Nat->Prop) (D:Nat->Prop) (ρ:Nat->a6) (w:World) (vs:List Value),(∀i,D i->i<nx)->MR Γ X ρ D mem w->dO ρ D (OX X ρ mem) w args vs ->
  CallsZ P F vs.toArray w fun e w'=>∃(r:AV) (v:Value) (mem':aA) (nx':Nat) (ρ':Nat->a6),e = .returned v/\Q r mem' nx'/\nx<=nx'/\MR Γ X ρ' (dn D nx nx') mem' w' /\
   VR ρ' (dn D nx nx') (OX X ρ' mem') w' r v/\Ext D ρ mem w ρ' (dn D nx nx') mem' w'
structure cJ(P:Program)(Γ:List (Nat × AV))(B:Nat)(c:Code)(s:St)(Q:Exit->St->Prop):Prop where
 run:∀(rd:Option Nat) (X:Nat->Prop) (ds:List Deferred × Nat) (D:Nat->Prop) (ρ:Nat->a6) (a:Act) (w:World),(∀i,D i->i<B)->SR Γ X ds ρ (dn D B s.nx) s a w->B<=s.nx->o6 rd ds c ->
  c.wpIn (FW rd) 0 P (fun e a' w'=>∃(s':St) (ρ':Nat->a6),Q e s'/\B<=s'.nx/\SR Γ X ds ρ' (dn D B s'.nx) s' a' w'/\Ext D ρ s.mem w ρ' (dn D B s'.nx) s'.mem w') a w
def pe(x:Value):PanicEntry:={ v:=x,recovered:=false }
structure bZ(P:Program)(Γ:List (Nat × AV))(F:FuncId)(args:List AV)(mem:aA)(nx:Nat)(Q:AV->aA->Nat->Prop)(Qp:Value->aA->Nat->Prop):Prop where
 run:∀(X:Nat->Prop) (D:Nat->Prop) (ρ:Nat->a6) (w:World) (vs:List Value),(∀i,D i->i<nx)->MR Γ X ρ D mem w->dO ρ D (OX X ρ mem) w args vs ->
  CallsZ P F vs.toArray w fun e w'=>∃(mem':aA) (nx':Nat) (ρ':Nat->a6),nx<=nx'/\MR Γ X ρ' (dn D nx nx') mem' w'/\Ext D ρ mem w ρ' (dn D nx nx') mem' w' /\
   ((∃(r:AV) (v:Value),e = .returned v/\Q r mem' nx'/\VR ρ' (dn D nx nx') (OX X ρ' mem') w' r v)∨(∃x:Value,e = .panicked [pe x]/\Qp x mem' nx'))
theorem aC.toP{P:Program}{Γ:List (Nat × AV)}{F:FuncId}{args:List AV}{mem:aA}{nx:Nat}{Q:AV->aA->Nat->Prop}{Qp:Value->aA->Nat->Prop}(h:aC P Γ F args mem nx Q):bZ P Γ F args mem nx Q Qp:=
 ⟨fun X D ρ w vs hD hm hv=>(h.run X D ρ w vs hD hm hv).mono fun e w' ⟨r,v,m,n,ρ',h1,h2,h3,h4,h5,h6⟩=>⟨m,n,ρ',h3,h4,h6,.inl ⟨r,v,h1,h2,h5⟩⟩⟩
theorem bZ.toC{P:Program}{Γ:List (Nat × AV)}{F:FuncId}{args:List AV}{mem:aA}{nx:Nat}{Q:AV->aA->Nat->Prop}{Qp:Value->aA->Nat->Prop}(h:bZ P Γ F args mem nx Q Qp)(hp:∀x m n,¬Qp x m n):aC P Γ F args mem nx Q:=
 ⟨fun X D ρ w vs hD hm hv=>(h.run X D ρ w vs hD hm hv).mono fun e w' ⟨m,n,ρ',h3,h4,h6,h⟩=>by
  rcases h with⟨r,v,h1,h2,h5⟩|⟨x,_,h2⟩
  ·exact⟨r,v,m,n,ρ',h1,h2,h3,h4,h5,h6⟩
  ·exact(hp _ _ _ h2).elim⟩
theorem bZ.mono{P:Program}{Γ:List (Nat × AV)}{F:FuncId}{args:List AV}{mem:aA}{nx:Nat}{Q Q':AV->aA->Nat->Prop}{Qp Qp':Value->aA->Nat->Prop}(h:bZ P Γ F args mem nx Q Qp)
  (hq:∀r m n,Q r m n->Q' r m n) (hp:∀x m n,Qp x m n->Qp' x m n):bZ P Γ F args mem nx Q' Qp':=
 ⟨fun X D ρ w vs hD hm hv=>(h.run X D ρ w vs hD hm hv).mono fun e w' ⟨m,n,ρ',h3,h4,h6,h⟩=>
  ⟨m,n,ρ',h3,h4,h6,h.imp (fun⟨r,v,h1,h2,h5⟩=>⟨r,v,h1,hq _ _ _ h2,h5⟩) (fun⟨x,h1,h2⟩=>⟨x,h1,hp _ _ _ h2⟩)⟩⟩
theorem aC.mono{P:Program}{Γ:List (Nat × AV)}{F:FuncId}{args:List AV}{mem:aA}{nx:Nat}{Q Q':AV->aA->Nat->Prop}(h:aC P Γ F args mem nx Q)
  (hq:∀r m n,Q r m n->Q' r m n):aC P Γ F args mem nx Q':=
 ⟨fun X D ρ w vs hD hm hv=>(h.run X D ρ w vs hD hm hv).mono fun e w' ⟨r,v,m,n,ρ',h1,h2,h3⟩=>⟨r,v,m,n,ρ',h1,hq _ _ _ h2,h3⟩⟩
theorem cJ.mono{P:Program}{Γ:List (Nat × AV)}{B:Nat}{c:Code}{s:St}{Q Q':Exit->St->Prop}(h:cJ P Γ B c s Q)(hq:∀e s,Q e s->Q' e s):cJ P Γ B c s Q':=
 ⟨fun rd X ds D ρ a w hD hs hB hr=>wpIn_mono (h.run rd X ds D ρ a w hD hs hB hr) fun e a' w' ⟨s',ρ',h1,h2⟩=>⟨s',ρ',hq _ _ h1,h2⟩⟩
theorem Ext.own{A:Nat->Prop}{D':Nat->Prop}{ρ ρ':Nat->a6}{mem mem':aA}{w w':World}{X:Nat->Prop}(h:Ext A ρ mem w ρ' D' mem' w') :
  ∀b,b<w.heap.size->¬OX X ρ mem b->¬OX X ρ' mem' b/\w'.heap[b]? = w.heap[b]? := by
 intro b hb ho;refine⟨?_,h.keep b hb (fun h'=>ho (.inr h'))⟩;rintro(h'|⟨p,hp,hn,rfl⟩)
 ·exact ho (.inl h')
 ·rcases h.fresh p hp hn with h1|h1
  ·exact ho (.inr h1)
  ·omega
theorem Ext.vr{D D':Nat->Prop}{ρ ρ':Nat->a6}{mem mem':aA}{w w':World}{X:Nat->Prop}(h:Ext D ρ mem w ρ' D' mem' w'){v:AV}{x:Value}(hv:VR ρ D (OX X ρ mem) w v x) :
  VR ρ' D' (OX X ρ' mem') w' v x:=hv.mono h.agree h.le h.own
theorem Ext.mks{A D':Nat->Prop}{ρ ρ':Nat->a6}{mem mem':aA}{w w':World}{X:Nat->Prop}(h:Ext A ρ mem w ρ' D' mem' w'){ds:List Deferred × Nat}{dd:List Deferred}(hk:qL (OX X ρ mem) w ds dd) :
  qL (OX X ρ' mem') w' ds dd:=hk.at h.size h.own
theorem Ext.sub{A A' D':Nat->Prop}{ρ ρ':Nat->a6}{mem mem':aA}{w w':World}(h:Ext A ρ mem w ρ' D' mem' w')(hA:∀i,A' i->A i):Ext A' ρ mem w ρ' D' mem' w':=
 ⟨fun i hi=>h.le i (hA i hi),fun i hi=>h.agree i (hA i hi),h.size,h.keep,h.fresh,h.env⟩
theorem kZ{D:Nat->Prop}{B n n':Nat}(h:n<=n'):∀i,dn D B n i->dn D B n' i:=by
 rintro i (h1|⟨h1,h2⟩)
 ·exact .inl h1
 ·exact .inr ⟨h1,om⟩
theorem jI{D:Nat->Prop}{B n:Nat}(hD:∀i,D i->i<B)(hB:B<=n):∀i,dn D B n i->i<n:=by
 rintro i (h1|⟨h1,h2⟩)
 ·have:=hD i h1;omega
 ·exact h2
theorem g5{D:Nat->Prop}{B n n':Nat}(hB:B<=n)(hn:n<=n'):∀i,dn (dn D B n) n n' i->dn D B n' i:=by
 rintro i ((h1|⟨h1,h2⟩)|⟨h1,h2⟩)
 ·exact .inl h1
 ·exact .inr ⟨h1,om⟩
 ·exact .inr ⟨om,h2⟩
theorem Ext.wide{A D D':Nat->Prop}{ρ ρ':Nat->a6}{mem mem':aA}{w w':World}(h:Ext A ρ mem w ρ' D mem' w')(hD:∀i,D i->D' i):Ext A ρ mem w ρ' D' mem' w':=
 ⟨fun i hi=>hD i (h.le i hi),h.agree,h.size,h.keep,h.fresh,h.env⟩
theorem aC.next{P:Program}{Γ:List (Nat × AV)}{id mid n:Nat}{sn:List Nat}{es:List (AV × AV)}{mem:aA}{nx:Nat}{K:AV->aA->Nat->Prop}(hid:lk mem id=some (.iter mid n sn))(hmid:lk mem mid=some (.mapb es))(hn:es.length=n)
  (h1:∀i k v,i∉sn->es[i]? = some (k,v)->K (.tup [.bool true,k,v]) (up mem id (.iter mid n (i::sn))) nx) (h2:(∀i,i<n->i∈sn)->K (.tup [.bool false]) mem nx):aC P Γ YF [.ptr id 0 0] mem nx K:=by
 refine⟨fun X D ρ w vs hD hm hv=>?_⟩;obtain⟨x,rfl⟩:∃x,vs=[x]:=by
  match vs,hv with
  | [],hv=>have:=hv.1;simp at this
  | [x],_=>exact⟨x,rfl⟩
  | _::_::_,hv=>have:=hv.1;simp at this
 have h0:=hv.2 0 _ _ rfl rfl;obtain⟨v,mem',y,w',hc,⟨b,rfl⟩,r1,r2,r3,r4,r5⟩:=yF (P:=P) (ty:=default) hm hid hmid hn h0;obtain⟨m1,v1,e1⟩:=r2.widen (D':=dn D nx nx) (fun i hi=>.inl hi);have hK:K v mem' nx:=by
  rcases hc with⟨i,k,u,q1,q2,rfl,rfl⟩|⟨q1,rfl,rfl⟩
  ·exact h1 i k u q1 q2
  ·exact h2 q1
 exact .inr ⟨b,y,w',rfl,fun _=>r1,v,y,mem',nx,ρ,rfl,hK,JG _,m1,v1 _ _ r3,(r5 D fun i hi=>hi).trans (e1 D fun i hi=>hi)⟩
def bU(s:St)(d:Option Nat)(v:AV)(mem:aA)(nx:Nat):Option St:=
 match d with
 | none=>some { s with mem:=mem,nx:=nx }
 | some d=>match Nat.blt d s.nt with
  | true=>some { s with sl:=up s.sl d v,mem:=mem,nx:=nx }
  | false=>none
theorem cH{Γ:List (Nat × AV)}{X:Nat->Prop}{ds:List Deferred × Nat}{ρ ρ':Nat->a6}{s s':St}{a:Act}{w w':World}{d:Option Nat}{v:AV}{x:Value}{mem:aA}{nx:Nat}
  {D D':Nat->Prop} (h:bU s d v mem nx=some s') (hs:SR Γ X ds ρ D s a w) (hm:MR Γ X ρ' D' mem w') (hv:VR ρ' D' (OX X ρ' mem) w' v x) (hk:qL (OX X ρ s.mem) w ds a.defers->qL (OX X ρ' mem) w' ds a.defers)
  (hmono:∀u y,VR ρ D (OX X ρ s.mem) w u y->VR ρ' D' (OX X ρ' mem) w' u y):SR Γ X ds ρ' D' s' (a.put d x) w'/\s'.mem=mem/\s'.nx=nx:=by
 unfold bU at h;split at h
 ·cases h;exact⟨⟨hm,hk hs.def0,hs.size,fun i u hi=>hmono _ _ (hs.slot i u hi)⟩,rfl,rfl⟩
 ·rename_i d';split at h
  ·rename_i hlt;have hlt:d'<s.nt:=JB hlt;cases h;refine⟨⟨hm,by simpa[Act.put] using hk hs.def0,by simpa[Act.put] using hs.size,fun i u hi=>?_⟩,rfl,rfl⟩;simp only[zB] at hi;have hsz:=hs.size;by_cases hid:i=d'
   ·subst hid;rw[JL rfl] at hi;cases hi;have hlt':i<a.tmps.size:=om;simpa[Act.put,hlt'] using hv
   ·rw[JJ hid] at hi;have:=hmono _ _ (hs.slot i u hi);have e:(a.put (some d') x).tmps.getD i undef=a.tmps.getD i undef:=by
     simp[Act.put,Jt (Ne.symm hid)]
    rw[e];exact this
  ·cases h
def eR(ops:List Oper)(s:St)(g:Option (Nat × Bool)):Option Bool:=
 match g with
 | none=>some true
 | some (j,want)=>match ops[j]? with
  | none=>some false
  | some o=>match o.dst with
   | none=>some false
   | some d=>match lk s.sl d with
    | some (.bool b)=>match want with
     | true=>some b
     | false=>some (!b)
    | some (.tup [])=>some false
    | _=>none
theorem cS{Γ:List (Nat × AV)}{X:Nat->Prop}{ds:List Deferred × Nat}{ρ:Nat->a6}{s:St}{a:Act}{w:World}{D:Nat->Prop}{ops:List Oper}{o:Oper}{b:Bool}(hs:SR Γ X ds ρ D s a w)(h:eR ops s o.guard=some b) :
  Region.wanted o (yielded ops.toArray a.tmps)=b:=by
 unfold eR at h;split at h
 ·rename_i hg;cases h;simp[Region.wanted,hg]
 ·rename_i j want hg;split at h
  ·rename_i hj;cases h;simp[Region.wanted,hg,yielded,hj]
  ·rename_i oj hj;split at h
   ·rename_i hd;cases h;simp[Region.wanted,hg,yielded,hj,hd]
   ·rename_i d hd;have key:∀v,lk s.sl d=some v->∀x,VR ρ D (OX X ρ s.mem) w v x->True:=fun _ _ _ _=>trivial
    split at h
    ·rename_i bb hl;have hv:=hs.slot d _ hl;generalize hx:a.tmps.getD d undef=x at hv;cases hv;have hget:a.tmps[d]? = some (.bool bb):=by
      rcases JK d a.tmps.size with hlt|hge
      ·simpa[hlt] using hx
      ·simp[Array.getD,Nat.not_lt.2 hge,undef] at hx
     split at h
     ·cases h;simp[Region.wanted,hg,yielded,hj,hd,hget]
     ·cases h;simp[Region.wanted,hg,yielded,hj,hd,hget]
    ·rename_i hl;cases h;have hv:=hs.slot d _ hl;generalize hx:a.tmps.getD d undef=x at hv;cases hv with
     | tup _ arr hsz _=>
      have harr:arr = #[]:=by simp at hsz;exact Jm hsz.symm
      subst harr;have hget:a.tmps[d]? = some (.tuple #[])∨a.tmps[d]? = none:=by
       rcases JK d a.tmps.size with hlt|hge
       ·left;simpa[hlt] using hx
       ·right;simp[hge]
      rcases hget with hget|hget<;>simp[Region.wanted,hg,yielded,hj,hd,hget]
    ·cases h
def fR(P:Program)(Γ:List (Nat × AV))(s:St)(op:Op):Option (FuncId × List AV):=
 match op with
 | .call c=>match c.callee with
  | .value f=>match ev Γ s f with
   | some (.fn (.func F) first cap)=>match r9 Γ s c.args.toList with
    | some args=>match P.funcs[F]? with
     | some fn=>match fn.body with
      | some _=>match fn.name == "runtime.NumGoroutine" with
       | false=>match Nat.beq F YF with
        | false=>some (F,first++args++cap)
        | true=>none
       | true=>none
      | none=>none
     | none=>none
    | none=>none
   | some (.yld id)=>match r9 Γ s c.args.toList with
    | some args=>some (YF,.yld id::args)
    | none=>none
   | _=>none
  | _=>none
 | .next x b=>match b with
  | false=>match ev Γ s x with
   | some (.ptr id i j)=>some (YF,[.ptr id i j])
   | _=>none
  | true=>none
 | _=>none
def Cs(P:Program)(F:FuncId)(vs:List Value)(w:World)(r:Result Next):Prop:=
 (Nat.beq F YF=false/\r = .ok (.enter F vs.toArray) w)∨(Nat.beq F YF=true/\((∃(l:Nat) (rest:List Value),vs = .func (.yield l) #[] #[]::rest/\r=(Instr.yield l rest.toArray).run P w) ∨
  ∃(b:Option Addr) (ty:TypeId),vs=[.pointer b]/\r=((do let x ←Instr.next (.pointer b) false ty;pure (Next.value x)):Sem Next).run P w))
theorem pH{P:Program}{Γ:List (Nat × AV)}{X:Nat->Prop}{ds:List Deferred × Nat}{ρ:Nat->a6}{s:St}{a:Act}{w:World}{D:Nat->Prop}(hs:SR Γ X ds ρ D s a w)(o:Oper){F:FuncId}{args:List AV}
  (h:fR P Γ s o.op=some (F,args)):∃vs:List Value,Cs P F vs w ((execOp a.eval o).run P w)/\dO ρ D (OX X ρ s.mem) w args vs:=by
 unfold fR at h;split at h
 ·rename_i c hop;split at h
  ·rename_i f hc;split at h
   ·rename_i F' first cap hf
    split at h
    ·rename_i as has;split at h
     ·rename_i fn hfn;split at h
      ·rename_i body hbody;split at h
       ·rename_i hname;split at h
        ·rename_i hF;cases h;have hv:=aB hs hf;generalize he:a.eval f=fv at hv;cases hv with
         | fn _ _ _ a1 a2 l1 l2 r1 r2=>
          have hargs:=cN hs has;refine⟨a1.toList++(c.args.toList.map a.eval)++a2.toList,.inl ⟨hF, ?_⟩, ?_⟩
          ·have hname':¬fn.name = "runtime.NumGoroutine" := by simpa using hname
           simp[execOp,hop,resolve,hc,he,Deferred.ofValue,invoke,callFunc,hfn,hbody,hname']
          ·refine(dO.append (dO.append ⟨by simpa using l1,fun j c x h1 h2=>r1 j c x h1 (by simpa using h2)⟩ hargs) ⟨by simpa using l2,fun j c x h1 h2=>r2 j c x h1 (by simpa using h2)⟩)
        ·cases h
       ·cases h
      ·cases h
     ·cases h
    ·cases h
   ·rename_i id hf;split at h
    ·rename_i as has;cases h;have hv:=aB hs hf;generalize he:a.eval f=fv at hv;cases hv with
     | yld _ hid=>
      have hargs:=cN hs has;refine⟨.func (.yield (ρ id).b) #[] #[]::c.args.toList.map a.eval,.inr ⟨rfl,.inl ⟨_,_,rfl, ?_⟩⟩,.cons (.yld id hid) hargs⟩;rw[show (c.args.toList.map a.eval).toArray=c.args.map a.eval from by rw[←Array.toList_map]];simp[execOp,hop,resolve,hc,he,Deferred.ofValue,invoke]
    ·cases h
   ·cases h
  ·cases h
 ·rename_i x b hop;split at h
  ·split at h
   ·rename_i id i j hp;cases h;have hv:=aB hs hp;obtain⟨y,hy⟩:∃y,a.eval x = .pointer y:=by
     generalize a.eval x=z at hv;cases hv;exact⟨_,rfl⟩
    exact⟨[a.eval x],.inr ⟨rfl,.inr ⟨y,o.type,by rw[hy],by simp[execOp,hop,hy]⟩⟩,.cons hv .nil⟩
   ·cases h
  ·cases h
 ·cases h
theorem tV{rd:Option Nat}{P:Program}{o:Oper}{a:Act}{w:World}{K:Act->World->Prop}{Q:Exit->Act->World->Prop}(hnd:∀c,o.op≠.defer c){F:FuncId}{vs:List Value}(h:Cs P F vs w ((execOp a.eval o).run P w))
  (hu:CallsZ P F vs.toArray w fun
   | .returned v,w''=>K (a.put o.dst v) w''
   | .panicked chain,w''=>Q (.panic chain) a w''
   | .outgrown,_=>LetsOut Q):o.wpIn (FW rd) 0 P a w K Q:=by
 rcases h with⟨hF,h⟩|⟨hF,⟨l,rest,rfl,h⟩|⟨b,ty,rfl,h⟩⟩
 ·exact Ae hnd h (hu.calls hF)
 ·unfold CallsZ at hu;rw[hF] at hu;rcases hu with⟨l',rest',fn,tmps,ca,cb,h1,h2,h3⟩|⟨b',y,w',h1,h2,h3⟩
  ·have e:l'=l/\rest'=rest.toArray:=by
    obtain⟨r'⟩:=rest';simp only[List.append_toArray,KO,KD,Array.mk.injEq,List.cons.injEq] at h1;obtain⟨a1,a2⟩:=h1;simp at a1;exact⟨a1.symm,by rw[a2]⟩
   obtain⟨rfl,rfl⟩:=e;exact g7 hnd (h.trans h2) ⟨fun h=>by simp[FW,Fence.wide] at h,h3⟩
  ·simp at h1
 ·unfold CallsZ at hu;rw[hF] at hu;rcases hu with⟨l',rest',fn,tmps,ca,cb,h1,h2,h3⟩|⟨b',y,w',h1,h2,h3⟩
  ·simp at h1
  ·have e:b=b':=by simpa using h1
   subst e;refine g7 hnd (r:=.ok (.value y) w') (by rw[h];simp[h2 ty]) h3
theorem yG{P:Program}{Γ:List (Nat × AV)}{s:St}{op:Op}{x:FuncId × List AV}(h:fR P Γ s op=some x):∀c,op≠.defer c:=by
 rintro c rfl;simp[fR] at h
def B2:List AV->Option (List Value)
 | []=>some []
 | .int k n::r=>match B2 r with
  | some l=>some (.int k n::l)
  | none=>none
 | .bool b::r=>match B2 r with
  | some l=>some (.bool b::l)
  | none=>none
 | _=>none
def quo:AV->Option Value
 | .ifc t (.agg cs)=>match B2 cs with
  | some l=>some (.iface t (.agg l.toArray))
  | none=>none
 | _=>none
theorem sV{ρ:Nat->a6}{D:Nat->Prop}{O:Nat->Prop}{w:World}:∀{cs:List AV} {l xs:List Value},B2 cs=some l->dO ρ D O w cs xs->xs=l
 | [],l,xs,h,hv=>by
  simp only[B2] at h;cases h;have:=hv.1;simp at this;exact JF this.symm
 | c::r,l,xs,h,hv=>by
  match xs,hv with
  | [],hv=>have:=hv.1;simp at this
  | x::xs,hv=>
   have h0:=hv.2 0 _ _ rfl rfl;have hr:dO ρ D O w r xs:=⟨by have:=hv.1;simpa using this,fun j c x h1 h2=>hv.2 (j+1) c x (by simpa using h1) (by simpa using h2)⟩
   cases c<;>simp only[B2] at h<;>first|(cases h;done)|skip
   all_goals
    split at h
    ·rename_i l' hl;cases h;cases h0;rw[sV hl hr]
    ·cases h
theorem B8{ρ:Nat->a6}{D:Nat->Prop}{O:Nat->Prop}{w:World}{v:AV}{x y:Value}(h:quo v=some x)(hv:VR ρ D O w v y):y=x/\∃t z,x = .iface t z:=by
 unfold quo at h;split at h
 ·rename_i t cs;split at h
  ·rename_i l hl;cases h;cases hv with
   | ifc _ _ z hz=>
    cases hz with
    | agg _ arr h1 h2 h3=>
     have:arr.toList=l:=sV hl ⟨by simpa using h1,fun j c x k1 k2=>h3 j c x k1 (by simpa using k2)⟩;refine⟨?_,_,_,rfl⟩;rw[←this]
  ·cases h
 ·cases h
def Ab(Γ:List (Nat × AV))(s:St)(op:Op):Option Value:=
 match op with
 | .panic x=>match ev Γ s x with
  | some v=>quo v
  | none=>none
 | _=>none
theorem Al{P:Program}{Γ:List (Nat × AV)}{X:Nat->Prop}{ds:List Deferred × Nat}{ρ:Nat->a6}{s:St}{a:Act}{w:World}{D:Nat->Prop}(hs:SR Γ X ds ρ D s a w)(o:Oper){x:Value}(h:Ab Γ s o.op=some x) :
  (execOp a.eval o).run P w = .halt (.panic x) w:=by
 unfold Ab at h;split at h
 ·rename_i y hop;split at h
  ·rename_i v hv;obtain⟨h1,t,z,h2⟩:=B8 h (aB hs hv);rw[h2] at h1;simp only[execOp,hop,h1,h2,Instr.panic,goPanic];rfl
  ·cases h
 ·cases h
theorem EE{Γ:List (Nat × AV)}{s:St}{op:Op}{x:Value}(h:Ab Γ s op=some x):∀c,op≠.defer c:=by
 rintro c rfl;simp[Ab] at h
structure Hk where
 call:FuncId->List AV->aA->Nat->(AV->aA->Nat->Prop)->(Value->aA->Nat->Prop)->Prop
 loop:Code->St->(Exit->St->Prop)->Prop
def mM(P:Program)(Γ:List (Nat × AV))(H:Hk)(ops:List Oper):List Oper->St->(St->Prop)->(Value->St->Prop)->Prop
 | [],s,K,_=>K s
 | o::r,s,K,Kp=>match eR ops s o.guard with
  | none=>False
  | some false=>match bU s o.dst (.tup []) s.mem s.nx with
   | some s'=>mM P Γ H ops r s' K Kp
   | none=>False
  | some true=>match aW P Γ s o.op with
   | some (v,mem,nx)=>match bU s o.dst v mem nx with
    | some s'=>mM P Γ H ops r s' K Kp
    | none=>False
   | none=>match fR P Γ s o.op with
    | some (F,args)=>H.call F args s.mem s.nx (fun v mem nx=>match bU s o.dst v mem nx with
     | some s'=>mM P Γ H ops r s' K Kp
     | none=>False) fun x mem nx=>Kp x { s with mem:=mem,nx:=nx }
    | none=>match Ab Γ s o.op with
     | some x=>Kp x s
     | none=>False
structure mX(P:Program)(Γ:List (Nat × AV))(B:Nat)(H:Hk):Prop where
 call:∀F args mem nx K Kp,H.call F args mem nx K Kp->bZ P Γ F args mem nx K Kp
 loop:∀c s Q,H.loop c s Q->cJ P Γ B (.loop c) s Q
theorem kS{ρ:Nat->a6}{D:Nat->Prop}{O:Nat->Prop}{w:World}:VR ρ D O w (.tup []) undef:=.tup [] #[] rfl (by simp)
theorem i7{P:Program}{Γ:List (Nat × AV)}{H:Hk}{B:Nat}(hH:mX P Γ B H)(ops:List Oper):∀(l:List Oper) (s:St) (K:St->Prop) (Kp:Value->St->Prop),mM P Γ H ops l s K Kp ->
  ∀(rd:Option Nat) (X:Nat->Prop) (ds:List Deferred × Nat) (D:Nat->Prop) (ρ:Nat->a6) (a:Act) (w:World) (Q:Exit->Act->World->Prop),(∀i,D i->i<B)->SR Γ X ds ρ (dn D B s.nx) s a w->B<=s.nx ->
   (∀(s':St) (ρ':Nat->a6) (a':Act) (w':World),K s'->B<=s'.nx->SR Γ X ds ρ' (dn D B s'.nx) s' a' w'->Ext D ρ s.mem w ρ' (dn D B s'.nx) s'.mem w'->Q .normal a' w') ->
   (∀(x:Value) (s':St) (ρ':Nat->a6) (a':Act) (w':World),Kp x s'->B<=s'.nx->SR Γ X ds ρ' (dn D B s'.nx) s' a' w'->Ext D ρ s.mem w ρ' (dn D B s'.nx) s'.mem w'->Q (.panic [pe x]) a' w')->wpListIn (FW rd) 0 P ops.toArray Q l a w
 | [],s,K,Kp,h,rd,X,ds,D,ρ,a,w,Q,hD,hs,hB,hQ,hP=>wpListIn_nil (hQ s ρ a w h hB hs (Ext.refl fun i hi=>.inl hi))
 | o::r,s,K,Kp,h,rd,X,ds,D,ρ,a,w,Q,hD,hs,hB,hQ,hP=>by
  simp only[mM] at h;refine wpListIn_step fun K' hK'=>?_
  split at h
  ·exact h.elim
  ·rename_i hw;rw[cS hs hw];simp only[J6,if_false];split at h
   ·rename_i s' hst;obtain⟨h1,h2,h3⟩:=cH hst hs hs.mr kS (fun h=>h) (fun _ _ h=>h);refine⟨fun _ _=>trivial, ?_⟩;refine hK' _ _ (i7 hH ops r s' K Kp h rd X ds D ρ _ w Q hD (by rw[h3];exact h1) om (fun s2 ρ2 a2 w2 k1 k2 k3 k4=>hQ s2 ρ2 a2 w2 k1 k2 k3 (by rw[←h2];exact k4)) fun x s2 ρ2 a2 w2 k1 k2 k3 k4=>hP x s2 ρ2 a2 w2 k1 k2 k3 (by rw[←h2];exact k4))
   ·exact h.elim
  ·rename_i hw;rw[cS hs hw];simp only[if_true];split at h
   ·rename_i v mem nx hstep;split at h
    ·rename_i s' hst;have hnx:s.nx<=nx:=by rcases mW hstep with h'|h'<;>omega
     obtain⟨x,n,w',ρ',e1,e2,m1,v1,mono1,ext1⟩:=fK (P:=P) (D:=dn D B s.nx) (D':=dn D B nx) (fun h'=>KG _ (jI hD hB _ h')) (kZ hnx) hs o (fun e=>.inr ⟨hB,om⟩) hstep;obtain⟨h1,h2,h3⟩:=cH hst hs m1 v1 (ext1 _ fun i hi=>hi).mks mono1;have fin:K' (a.put o.dst x) w':=by
      refine hK' _ _ (i7 hH ops r s' K Kp h rd X ds D ρ' _ w' Q hD (by rw[h3];exact h1) (by rw[h3];exact Jh hB hnx) (fun s2 ρ2 a2 w2 k1 k2 k3 k4=>hQ s2 ρ2 a2 w2 k1 k2 k3 ((ext1 D fun i hi=>.inl hi).trans (by rw[←h2];exact k4))) fun x s2 ρ2 a2 w2 k1 k2 k3 k4=>hP x s2 ρ2 a2 w2 k1 k2 k3 ((ext1 D fun i hi=>.inl hi).trans (by rw[←h2];exact k4)))
     refine g7 (nX hstep) e1 ?_;rcases e2 with rfl|⟨rfl,rfl⟩
     ·exact fin
     ·exact fin
    ·exact h.elim
   ·split at h
    ·rename_i F args hcall;obtain⟨vs,e1,hvs⟩:=pH (P:=P) hs o hcall;refine tV (yG hcall) e1 ?_;refine((hH.call _ _ _ _ _ _ h).run X (dn D B s.nx) ρ w vs (jI hD hB) hs.mr hvs).mono ?_;rintro e w' ⟨mem',nx',ρ',hnx,m1,ext1,(⟨rv,v,rfl,hq,v1⟩|⟨x,rfl,hq⟩)⟩
     ·split at hq
      ·rename_i s' hst;obtain⟨m2,mono2,_⟩:=m1.widen (g5 hB hnx);obtain⟨h1,h2,h3⟩:=cH hst hs m2 (mono2 _ _ v1) ext1.mks (fun u y hu=>mono2 _ _ (ext1.vr hu));have ext2:Ext D ρ s.mem w ρ' (dn D B nx') mem' w':=(ext1.sub fun i hi=>.inl hi).wide (g5 hB hnx);refine hK' _ _ (i7 hH ops r s' K Kp hq rd X ds D ρ' _ w' Q hD (by rw[h3];exact h1) (by rw[h3];exact Jh hB hnx) (fun s2 ρ2 a2 w2 k1 k2 k3 k4=>hQ s2 ρ2 a2 w2 k1 k2 k3 (ext2.trans (by rw[←h2];exact k4))) fun x s2 ρ2 a2 w2 k1 k2 k3 k4=>hP x s2 ρ2 a2 w2 k1 k2 k3 (ext2.trans (by rw[←h2];exact k4)))
      ·exact hq.elim
     ·obtain⟨m2,mono2,_⟩:=m1.widen (g5 hB hnx);have ext2:Ext D ρ s.mem w ρ' (dn D B nx') mem' w':=(ext1.sub fun i hi=>.inl hi).wide (g5 hB hnx);exact hP x _ ρ' a w' hq (Jh hB hnx) ⟨m2,ext1.mks hs.def0,hs.size,fun i u hi=>mono2 _ _ (ext1.vr (hs.slot i u hi))⟩ ext2
    ·split at h
     ·rename_i x hpan;refine g7 (EE hpan) (Al (P:=P) hs o hpan) ?_;exact hP x s ρ a w h hB hs (Ext.refl fun i hi=>.inl hi)
     ·exact h.elim
end Go.Ax
namespace Go.Ax
open Go
section
variable {Γ:List (Nat × AV)} {X:Nat->Prop} {ρ ρ':Nat->a6} {D D':Nat->Prop} {mem m1 m1' rest rest':aA} {w w':World}
def XR(X:Nat->Prop)(ρ:Nat->a6)(rest:aA):Nat->Prop:=fun b=>X b∨own ρ rest b
structure kO(mem m1 rest:aA):Prop where
 sub1:∀p∈m1,p∈mem
 subr:∀p∈rest,p∈mem
 all:∀p∈mem,p∈m1∨p∈rest
 dis:∀p∈m1,∀q∈rest,p.1≠q.1
 nod1:(m1.map (·.1)).Nodup
theorem kO.own(hp:kO mem m1 rest)(b:Nat):OX (XR X ρ rest) ρ m1 b↔OX X ρ mem b:=by
 constructor
 ·rintro((h|⟨p,hp',hn,e⟩)|⟨p,hp',hn,e⟩)
  ·exact .inl h
  ·exact .inr ⟨p,hp.subr p hp',hn,e⟩
  ·exact .inr ⟨p,hp.sub1 p hp',hn,e⟩
 ·rintro(h|⟨p,hp',hn,e⟩)
  ·exact .inl (.inl h)
  ·rcases hp.all p hp' with h|h
   ·exact .inr ⟨p,h,hn,e⟩
   ·exact .inl (.inr ⟨p,h,hn,e⟩)
theorem kO.mks(hp:kO mem m1 rest){ds:List Deferred × Nat}{dd:List Deferred}(h:qL (OX X ρ mem) w ds dd):qL (OX (XR X ρ rest) ρ m1) w ds dd:=
 h.at (JG _) fun b _ ho=>⟨fun h'=>ho ((hp.own b).1 h'),rfl⟩
theorem MR.part(hm:MR Γ X ρ D mem w)(hp:kO mem m1 rest) :
  MR Γ (XR X ρ rest) ρ D m1 w/\(∀v x,VR ρ D (OX X ρ mem) w v x->VR ρ D (OX (XR X ρ rest) ρ m1) w v x):=by
 have hk:∀b,b<w.heap.size->¬OX X ρ mem b->¬OX (XR X ρ rest) ρ m1 b/\w.heap[b]? = w.heap[b]? := fun b _ ho=>⟨fun h=>ho ((hp.own b).1 h),rfl⟩
 have hmono:∀v x,VR ρ D (OX X ρ mem) w v x->VR ρ D (OX (XR X ρ rest) ρ m1) w v x:=fun v x h=>h.mono (fun _ _=>rfl) (fun _ h=>h) hk
 refine⟨⟨fun p h=>hm.low p (hp.sub1 p h),fun p h hn=>?_,fun p h=>hm.emp p (hp.sub1 p h),fun p h q h'=>hm.inj p (hp.sub1 p h) q (hp.sub1 q h'),hp.nod1, ?_,fun p h=>hmono _ _ (hm.glo p h)⟩,hmono⟩
 ·obtain⟨o,ho,hb⟩:=hm.blk p (hp.sub1 p h) hn;exact⟨o,ho,hb.mono (fun _ _=>rfl) (fun _ h=>h) hk⟩
 ·rintro b (h|⟨q,hq,hn,e⟩)
  ·exact⟨(hm.bar b h).1,fun⟨p,hp',hn,e⟩=>(hm.bar b h).2 ⟨p,hp.sub1 p hp',hn,e⟩⟩
  ·refine⟨eA hm (.inr ⟨q,hp.subr q hq,hn,e⟩),fun⟨p,hp',hn',e'⟩=>hp.dis p hp' q hq ?_⟩;exact hm.inj p (hp.sub1 p hp') q (hp.subr q hq) hn' hn (e'.trans e.symm)
theorem MR.join(hm:MR Γ X ρ D mem w)(hp:kO mem m1 rest)(h':MR Γ (XR X ρ rest) ρ' D' m1' w')(ext:Ext D ρ m1 w ρ' D' m1' w')
  (hsub:∀p∈rest',p∈rest) (hdis:∀p∈m1',∀q∈rest',p.1≠q.1) (hnod:(rest'.map (·.1)).Nodup) :
  MR Γ X ρ' D' (m1'++rest') w'/\(∀v x,VR ρ' D' (OX (XR X ρ rest) ρ' m1') w' v x->VR ρ' D' (OX X ρ' (m1'++rest')) w' v x) /\
  (∀v x,VR ρ D (OX X ρ mem) w v x->VR ρ' D' (OX X ρ' (m1'++rest')) w' v x)/\∀A:Nat->Prop,(∀i,A i->D i)->Ext A ρ mem w ρ' D' (m1'++rest') w':=by
 have hρ:∀q∈rest,ρ' q.1=ρ q.1:=fun q hq=>ext.agree _ (hm.low q (hp.subr q hq))
 have hown':∀b,OX X ρ' (m1'++rest') b->OX (XR X ρ rest) ρ' m1' b:=by
  rintro b (h|⟨p,hp',hn,e⟩)
  ·exact .inl (.inl h)
  ·rcases JI.1 hp' with h|h
   ·exact .inr ⟨p,h,hn,e⟩
   ·rw[hρ p (hsub p h)] at hn e;exact .inl (.inr ⟨p,hsub p h,hn,e⟩)
 have hk':∀b,b<w'.heap.size->¬OX (XR X ρ rest) ρ' m1' b->¬OX X ρ' (m1'++rest') b/\w'.heap[b]? = w'.heap[b]? := fun b _ ho=>⟨fun h=>ho (hown' b h),rfl⟩
 have hmono':∀v x,VR ρ' D' (OX (XR X ρ rest) ρ' m1') w' v x->VR ρ' D' (OX X ρ' (m1'++rest')) w' v x:=fun v x h=>h.mono (fun _ _=>rfl) (fun _ h=>h) hk'
 have hk:∀b,b<w.heap.size->¬OX X ρ mem b->¬OX X ρ' (m1'++rest') b/\w'.heap[b]? = w.heap[b]? := by
  intro b hb ho;have ho1:¬OX (XR X ρ rest) ρ m1 b:=fun h=>ho ((hp.own b).1 h)
  obtain⟨h1,h2⟩:=ext.own (X:=XR X ρ rest) b hb ho1;exact⟨fun h=>h1 (hown' b h),h2⟩
 have hmono:∀v x,VR ρ D (OX X ρ mem) w v x->VR ρ' D' (OX X ρ' (m1'++rest')) w' v x:=fun v x h=>h.mono ext.agree ext.le hk
 have hheap:∀q∈rest,0<(ρ q.1).n->w'.heap[(ρ q.1).b]? = w.heap[(ρ q.1).b]? := by
  intro q hq hn;refine ext.keep _ (eA hm (.inr ⟨q,hp.subr q hq,hn,rfl⟩)) ?_;rintro⟨p,hp',hn',e⟩;exact hp.dis p hp' q hq (hm.inj p (hp.sub1 p hp') q (hp.subr q hq) hn' hn e)
 refine⟨⟨?_, ?_, ?_, ?_, ?_, ?_,fun p h=>hmono' _ _ (h'.glo p h)⟩,hmono',hmono,fun A hA=>⟨fun i hi=>ext.le i (hA i hi),fun i hi=>ext.agree i (hA i hi),ext.size,fun b hb ho=>?_, ?_,ext.env⟩⟩
 ·intro p h;rcases JI.1 h with h|h
  ·exact h'.low p h
  ·exact ext.le _ (hm.low p (hp.subr p (hsub p h)))
 ·intro p h hn;rcases JI.1 h with h|h
  ·obtain⟨o,ho,hb⟩:=h'.blk p h hn;exact⟨o,ho,hb.mono (fun _ _=>rfl) (fun _ h=>h) hk'⟩
  ·rw[hρ p (hsub p h)] at hn ⊢;obtain⟨o,ho,hb⟩:=hm.blk p (hp.subr p (hsub p h)) hn;exact⟨o,by rw[hheap p (hsub p h) hn];exact ho,hb.mono ext.agree ext.le hk⟩
 ·intro p h hn;rcases JI.1 h with h|h
  ·exact h'.emp p h hn
  ·rw[hρ p (hsub p h)] at hn ⊢;exact hm.emp p (hp.subr p (hsub p h)) hn
 ·intro p h q hq hpn hqn e;rcases JI.1 h with h|h<;>rcases JI.1 hq with hq|hq
  ·exact h'.inj p h q hq hpn hqn e
  ·exfalso;rw[hρ q (hsub q hq)] at hqn e;exact(h'.bar _ (.inr ⟨q,hsub q hq,hqn,rfl⟩)).2 ⟨p,h,hpn,e⟩
  ·exfalso;rw[hρ p (hsub p h)] at hpn e;exact(h'.bar _ (.inr ⟨p,hsub p h,hpn,rfl⟩)).2 ⟨q,hq,hqn,e.symm⟩
  ·rw[hρ p (hsub p h)] at hpn e;rw[hρ q (hsub q hq)] at hqn e;exact hm.inj p (hp.subr p (hsub p h)) q (hp.subr q (hsub q hq)) hpn hqn e
 ·rw[Jq,J2];refine⟨h'.nod,hnod,fun x hx y hy=>?_⟩;obtain⟨p,hp',rfl⟩:=JM.1 hx;obtain⟨q,hq,rfl⟩:=JM.1 hy;exact hdis p hp' q hq
 ·intro b hb;obtain⟨h1,h2⟩:=h'.bar b (.inl hb);refine⟨h1, ?_⟩;rintro⟨p,h,hn,e⟩;rcases JI.1 h with h|h
  ·exact h2 ⟨p,h,hn,e⟩
  ·rw[hρ p (hsub p h)] at hn e;exact(hm.bar b hb).2 ⟨p,hp.subr p (hsub p h),hn,e⟩
 ·refine ext.keep b hb (fun⟨p,h,hn,e⟩=>ho ⟨p,hp.sub1 p h,hn,e⟩)
 ·intro p h hn;rcases JI.1 h with h|h
  ·rcases ext.fresh p h hn with⟨q,hq,hqn,e⟩|h1
   ·exact .inl ⟨q,hp.sub1 q hq,hqn,e⟩
   ·exact .inr h1
  ·rw[hρ p (hsub p h)] at hn ⊢;exact .inl ⟨p,hp.subr p (hsub p h),hn,rfl⟩
end
end Go.Ax
namespace Go.Ax
open Go
inductive NN:AV->Prop
 | bool (b:Bool):NN (.bool b)
 | int (k:IntKind) (n:Int):NN (.int k n)
 | str (s:List UInt8):NN (.str s)
 | nptr:NN .nptr
 | nsl:NN .nsl
 | nmap:NN .nmap
 | nfn:NN .nfn
 | nif:NN .nif
 | junk:NN .junk
 | ip (v:AV):(∀(j:Nat) (c:AV),v.cells[j]? = some c->NN c)->NN (.ip v)
 | il (sz:Nat) (xs:List AV):(∀(i:Nat) (x:AV) (j:Nat) (c:AV),xs[i]? = some x->x.cells[j]? = some c->NN c)->NN (.il sz xs)
 | fn (f:Fn) (a b:List AV):(∀(j:Nat) (c:AV),a[j]? = some c->NN c)->(∀(j:Nat) (c:AV),b[j]? = some c->NN c)->NN (.fn f a b)
 | ifc (t:TypeId) (v:AV):NN v->NN (.ifc t v)
 | agg (cs:List AV):(∀(j:Nat) (c:AV),cs[j]? = some c->NN c)->NN (.agg cs)
 | tup (cs:List AV):(∀(j:Nat) (c:AV),cs[j]? = some c->NN c)->NN (.tup cs)
theorem NN.vr{ρ ρ':Nat->a6}{D D' O O':Nat->Prop}{w:World}{v:AV}{x:Value}(h:VR ρ D O w v x)(hO:∀b,b<w.heap.size->¬O b->¬O' b)(hn:NN v):VR ρ' D' O' w v x:=by
 induction h with
 | bool=>exact .bool _
 | int=>exact .int _ _
 | str=>exact .str _
 | nptr=>exact .nptr
 | nsl=>exact .nsl
 | nmap=>exact .nmap
 | nfn=>exact .nfn
 | nif=>exact .nif
 | ptr id i j hid=>cases hn
 | sl id off len cap hid h1 h2=>cases hn
 | slz id off b o hid=>cases hn
 | slzn id off hid=>cases hn
 | mp id hid=>cases hn
 | ip v b off f h1 _ ih=>
  cases hn with
  | ip _ hn=>
   refine .ip v b off f (fun j c hj=>?_) fun j c hj=>ih j c hj (hn j c hj)
   obtain⟨ho,hc,hone⟩:=h1 j c hj;exact⟨hO b (kV hc) ho,hc,hone⟩
 | il sz xs b off cap f hl hs h1 _ ih=>
  cases hn with
  | il _ _ hn=>
   refine .il sz xs b off cap f hl hs (fun i x j c hi hj=>?_) fun i x j c hi hj=>ih i x j c hi hj (hn i x j c hi hj)
   obtain⟨ho,hc,hone⟩:=h1 i x j c hi hj;exact⟨hO b (kV hc) ho,hc,hone⟩
 | iln=>exact .iln _
 | fn f first cap a1 a2 l1 l2 _ _ ih1 ih2=>
  cases hn with
  | fn _ _ _ n1 n2=>exact .fn f first cap a1 a2 l1 l2 (fun j c x h1 h2=>ih1 j c x h1 h2 (n1 j c h1)) (fun j c x h1 h2=>ih2 j c x h1 h2 (n2 j c h1))
 | ifc t v x _ ih=>cases hn with|ifc _ _ hn=>exact .ifc t v x (ih hn)
 | agg cs arr hl ho _ ih=>cases hn with|agg _ hn=>exact .agg cs arr hl ho fun j c x h1 h2=>ih j c x h1 h2 (hn j c h1)
 | tup cs arr hl _ ih=>cases hn with|tup _ hn=>exact .tup cs arr hl fun j c x h1 h2=>ih j c x h1 h2 (hn j c h1)
 | junk x=>exact .junk x
 | yld id hid=>cases hn
inductive Cv (mem:aA) (σ:List (Nat × Nat)):AV->AV->Prop
 | same (v:AV):NN v->Cv mem σ v v
 | junk (v:AV):Cv mem σ v .junk
 | nil (sz:Nat):Cv mem σ .nsl (.il sz [])
 | nslk (id id':Nat) (a:AB):lk mem id=some a->lk σ id=some id'->Cv mem σ .nsl (.sl id' 0 0)
 | ptr (id id' i j:Nat):lk σ id=some id'->Cv mem σ (.ptr id i j) (.ptr id' i j)
 | sl (id id' off len:Nat):lk σ id=some id'->Cv mem σ (.sl id off len) (.sl id' off len)
 | mp (id id':Nat):lk σ id=some id'->Cv mem σ (.mp id) (.mp id')
 | yld (id id':Nat):lk σ id=some id'->Cv mem σ (.yld id) (.yld id')
 | fz (id off len:Nat) (t:TypeId) (sz:Nat) (xs ys:List AV):lk mem id=some (.row t sz xs)->lk σ id=none->off+len<=xs.length->ys.length=len ->
   (∀(i:Nat) (x y:AV),xs[off+i]? = some x->ys[i]? = some y->x.cells.length=y.cells.length) ->
   (∀(i:Nat) (x y:AV) (j:Nat) (c c':AV),xs[off+i]? = some x->ys[i]? = some y->x.cells[j]? = some c->y.cells[j]? = some c'->Cv mem σ c c') ->
   Cv mem σ (.sl id off len) (.il sz ys)
 | fzp (id i j:Nat) (t:TypeId) (sz:Nat) (xs:List AV) (x v:AV):lk mem id=some (.row t sz xs)->lk σ id=none->xs[i]? = some x->j+v.cells.length<=x.cells.length ->
   (∀(k:Nat) (c c':AV),x.cells[j+k]? = some c->v.cells[k]? = some c'->Cv mem σ c c')->Cv mem σ (.ptr id i j) (.ip v)
 | ip (u v:AV):v.cells.length<=u.cells.length->(∀(j:Nat) (c c':AV),u.cells[j]? = some c->v.cells[j]? = some c'->Cv mem σ c c')->Cv mem σ (.ip u) (.ip v)
 | il (sz:Nat) (xs ys:List AV):xs.length=ys.length ->
   (∀(i:Nat) (x y:AV),xs[i]? = some x->ys[i]? = some y->x.cells.length=y.cells.length) ->
   (∀(i:Nat) (x y:AV) (j:Nat) (c c':AV),xs[i]? = some x->ys[i]? = some y->x.cells[j]? = some c->y.cells[j]? = some c'->Cv mem σ c c')->Cv mem σ (.il sz xs) (.il sz ys)
 | fn (f:Fn) (a a' b b':List AV):a.length=a'.length->b.length=b'.length->(∀(j:Nat) (c c':AV),a[j]? = some c->a'[j]? = some c'->Cv mem σ c c') ->
   (∀(j:Nat) (c c':AV),b[j]? = some c->b'[j]? = some c'->Cv mem σ c c')->Cv mem σ (.fn f a b) (.fn f a' b')
 | ifc (t:TypeId) (v v':AV):Cv mem σ v v'->Cv mem σ (.ifc t v) (.ifc t v')
 | agg (cs cs':List AV):cs.length=cs'.length->(∀(j:Nat) (c c':AV),cs[j]? = some c->cs'[j]? = some c'->Cv mem σ c c')->Cv mem σ (.agg cs) (.agg cs')
 | tup (cs cs':List AV):cs.length=cs'.length->(∀(j:Nat) (c c':AV),cs[j]? = some c->cs'[j]? = some c'->Cv mem σ c c')->Cv mem σ (.tup cs) (.tup cs')
theorem bC{α β:Type}{xs:List α}{ys:List β}(h:xs.length=ys.length){i:Nat}{y:β}(hy:ys[i]? = some y):∃x,xs[i]? = some x:=by
 have:i<ys.length:=by
  rcases JK i ys.length with h'|h'
  ·exact h'
  ·rw[JH h'] at hy;cases hy
 exact⟨xs[i],by simp[h,this]⟩
theorem dT{α β:Type}{xs:List α}{ys:List β}(k:Nat)(h:k+ys.length<=xs.length){i:Nat}{y:β}(hy:ys[i]? = some y):∃x,xs[k+i]? = some x:=by
 have:i<ys.length:=by
  rcases JK i ys.length with h'|h'
  ·exact h'
  ·rw[JH h'] at hy;cases hy
 exact⟨xs[k+i],by simp⟩
section
variable {Γ:List (Nat × AV)} {X:Nat->Prop} {ρ ρ':Nat->a6} {D D':Nat->Prop} {mem mem':aA} {w w':World} {σ:List (Nat × Nat)}
theorem Cv.vr{O':Nat->Prop}(hm:MR Γ X ρ D mem w)(hσ:∀id id',lk σ id=some id'->D id->D' id'/\ρ' id'=ρ id)(hO:∀b,b<w.heap.size->¬OX X ρ mem b->¬O' b)
  (hfz:∀p∈mem,lk σ p.1=none->0<(ρ p.1).n->¬O' (ρ p.1).b) {v v':AV} (hc:Cv mem σ v v'):∀x,VR ρ D (OX X ρ mem) w v x->VR ρ' D' O' w v' x:=by
 have hpos:∀{id:Nat} {t:TypeId} {sz:Nat} {xs:List AV} {i:Nat} {x:AV},lk mem id=some (.row t sz xs)->xs[i]? = some x->0<(ρ id).n:=by
  intro id t sz xs i x hid hx;rcases JT (ρ id).n with h|h
  ·obtain⟨t',sz',e,_⟩:=hm.emp _ (aF hid) h;cases e;simp at hx
  ·exact h
 induction hc with
 | same v hn=>exact fun x h=>hn.vr h hO
 | junk v=>exact fun x h=>.junk x
 | nil sz=>intro x h;cases h;exact .iln sz
 | nslk id id' a h1 h2=>intro x h;cases h;exact .slzn id' 0 (hσ id id' h2 (hm.low _ (aF h1))).1
 | ptr id id' i j h=>
  intro x hx;cases hx with
  | ptr _ _ _ hid=>
   obtain⟨h1,h2⟩:=hσ id id' h hid;rw[←h2];exact .ptr id' i j h1
 | sl id id' off len h=>
  intro x hx;cases hx with
  | sl _ _ _ cap hid h3 h4=>
   obtain⟨h1,h2⟩:=hσ id id' h hid;rw[←h2] at h4 ⊢;exact .sl id' off len cap h1 h3 h4
  | slz _ _ b o hid=>exact .slz id' off b o (hσ id id' h hid).1
  | slzn _ _ hid=>exact .slzn id' off (hσ id id' h hid).1
 | mp id id' h=>
  intro x hx;cases hx with
  | mp _ hid=>
   obtain⟨h1,h2⟩:=hσ id id' h hid;rw[←h2];exact .mp id' h1
 | yld id id' h=>
  intro x hx;cases hx with
  | yld _ hid=>
   obtain⟨h1,h2⟩:=hσ id id' h hid;rw[←h2];exact .yld id' h1
 | fz id off len t sz xs ys hid hno hlen hys hcl hcs ih=>
  intro x hx;have hsz:(ρ id).sz=sz:=by
   rcases JT (ρ id).n with h|h
   ·obtain⟨t',sz',e,h'⟩:=hm.emp _ (aF hid) h;cases e;exact h'
   ·obtain⟨o,ho,h',_⟩:=hm.blk _ (aF hid) h;exact h'
  cases hx with
  | sl _ _ _ cap hD h1 h2=>
   subst hys;rw[hsz] at h2 ⊢;refine .il sz ys _ _ cap (fun i j=>(w.cell? ⟨(ρ id).b,off*sz+(i*sz+j),none⟩).getD undef) h1 (fun i y hy=>?_) (fun i y j c' hy hc'=>?_) (fun i y j c' hy hc'=>?_)
   ·obtain⟨x,hx⟩:=dT off hlen hy;rw[←hcl i x y hx hy,(cC hm hid hx).1,hsz]
   ·obtain⟨x,hx⟩:=dT off hlen hy;obtain⟨c,hc⟩:=bC (hcl i x y hx hy) hc';obtain⟨v,hv,hone,_⟩:=(cC hm hid hx).2 j c hc;rw[hsz,Nat.add_mul,Nat.add_assoc] at hv;exact⟨hfz _ (aF hid) hno (hpos hid hx),by rw[hv];rfl,by rw[hv];exact hone⟩
   ·obtain⟨x,hx⟩:=dT off hlen hy;obtain⟨c,hc⟩:=bC (hcl i x y hx hy) hc';obtain⟨v,hv,hone,hr⟩:=(cC hm hid hx).2 j c hc;rw[hsz,Nat.add_mul,Nat.add_assoc] at hv;rw[hv];exact ih i x y j c c' hx hy hc hc' _ hr
  | slz _ _ b o hD=>
   have:ys=[]:=JF hys;subst this;exact .il sz [] b o 0 (fun _ _=>undef) (JG _) (by simp) (by simp) (by simp)
  | slzn _ _ hD=>
   have:ys=[]:=JF hys;subst this;exact .iln sz
 | fzp id i j t sz xs x v hid hno hx hlen hcs ih=>
  intro y hy;cases hy with
  | ptr _ _ _ hD=>
   refine .ip v _ _ (fun k=>(w.cell? ⟨(ρ id).b,i*(ρ id).sz+j+k,none⟩).getD undef) (fun k c' hc'=>?_) (fun k c' hc'=>?_)
   ·obtain⟨c,hc⟩:=dT j hlen hc';obtain⟨u,hu,hone,_⟩:=(cC hm hid hx).2 _ c hc;rw[←Nat.add_assoc] at hu;exact⟨hfz _ (aF hid) hno (hpos hid hx),by rw[hu];rfl,by rw[hu];exact hone⟩
   ·obtain⟨c,hc⟩:=dT j hlen hc';obtain⟨u,hu,hone,hr⟩:=(cC hm hid hx).2 _ c hc;rw[←Nat.add_assoc] at hu;rw[hu];exact ih k c c' hc hc' _ hr
 | ip u v hlen hcs ih=>
  intro x hx;cases hx with
  | ip _ b off f h1 h2=>
   refine .ip v b off f (fun j c' hc'=>?_) (fun j c' hc'=>?_)
   ·obtain⟨c,hc⟩:=dT 0 (by simpa using hlen) hc';rw[Jd] at hc;obtain⟨ho,hc1,hone⟩:=h1 j c hc;exact⟨hO b (kV hc1) ho,hc1,hone⟩
   ·obtain⟨c,hc⟩:=dT 0 (by simpa using hlen) hc';rw[Jd] at hc;exact ih j c c' hc hc' _ (h2 j c hc)
 | il sz xs ys hlen hcl hcs ih=>
  intro x hx;cases hx with
  | il _ _ b off cap f hl hs h1 h2=>
   rw[hlen] at hl ⊢;refine .il sz ys b off cap f hl (fun i y hy=>?_) (fun i y j c' hy hc'=>?_) (fun i y j c' hy hc'=>?_)
   ·obtain⟨x,hx⟩:=bC hlen hy;rw[←hcl i x y hx hy];exact hs i x hx
   ·obtain⟨x,hx⟩:=bC hlen hy;obtain⟨c,hc⟩:=bC (hcl i x y hx hy) hc';obtain⟨ho,hc1,hone⟩:=h1 i x j c hx hc;exact⟨hO b (kV hc1) ho,hc1,hone⟩
   ·obtain⟨x,hx⟩:=bC hlen hy;obtain⟨c,hc⟩:=bC (hcl i x y hx hy) hc';exact ih i x y j c c' hx hy hc hc' _ (h2 i x j c hx hc)
  | iln=>
   have:ys=[]:=JF (by simpa using hlen.symm);subst this;exact .iln sz
 | fn f a a' b b' la lb ha hb iha ihb=>
  intro x hx;cases hx with
  | fn _ _ _ a1 a2 l1 l2 r1 r2=>
   refine .fn f a' b' a1 a2 om om (fun j c' y hc' hy=>?_) (fun j c' y hc' hy=>?_)
   ·obtain⟨c,hc⟩:=bC la hc';exact iha j c c' hc hc' _ (r1 j c y hc hy)
   ·obtain⟨c,hc⟩:=bC lb hc';exact ihb j c c' hc hc' _ (r2 j c y hc hy)
 | ifc t v v' h ih=>
  intro x hx;cases hx with
  | ifc _ _ y hy=>exact .ifc t v' y (ih _ hy)
 | agg cs cs' hl hcs ih=>
  intro x hx;cases hx with
  | agg _ arr h1 h2 h3=>
   refine .agg cs' arr om h2 fun j c' y hc' hy=>?_
   obtain⟨c,hc⟩:=bC hl hc';exact ih j c c' hc hc' _ (h3 j c y hc hy)
 | tup cs cs' hl hcs ih=>
  intro x hx;cases hx with
  | tup _ arr h1 h3=>
   refine .tup cs' arr om fun j c' y hc' hy=>?_
   obtain⟨c,hc⟩:=bC hl hc';exact ih j c c' hc hc' _ (h3 j c y hc hy)
def D4(mem:aA)(σ:List (Nat × Nat))(x y:AV):Prop:=
 x.cells.length=y.cells.length/\∀(j:Nat) (c c':AV),x.cells[j]? = some c->y.cells[j]? = some c'->Cv mem σ c c'
def tG(mem:aA)(σ:List (Nat × Nat))(xs ys:List AV):Prop:=
 ys.length<=xs.length/\∀(i:Nat) (x y:AV),xs[i]? = some x->ys[i]? = some y->D4 mem σ x y
def IE(mem:aA)(σ:List (Nat × Nat))(es es':List (AV × AV)):Prop:=
 es.length=es'.length/\∀(i:Nat) (e e':AV × AV),es[i]? = some e->es'[i]? = some e'->Cv mem σ e.1 e'.1/\Cv mem σ e.2 e'.2
def IS(mem:aA)(σ:List (Nat × Nat))(sl sl':List (Nat × AV)):Prop:=∀i v',lk sl' i=some v'->∃v,lk sl i=some v/\Cv mem σ v v'
def tH(mem:aA)(σ:List (Nat × Nat))(mem':aA):Prop:=
 ∀p∈mem',(∃id t sz xs ys,p.2 = .row t sz ys/\lk σ id=some p.1/\lk mem id=some (.row t sz xs)/\tG mem σ xs ys) ∨
  (∃id es es',p.2 = .mapb es'/\lk σ id=some p.1/\lk mem id=some (.mapb es)/\IE mem σ es es') ∨
  (∃id sl sl' nt ps ca cb st pd,p.2 = .loop sl' nt ps ca cb st pd/\lk σ id=some p.1/\lk mem id=some (.loop sl nt ps ca cb st pd)/\IS mem σ sl sl') ∨
  (∃id mid mid' n sn,p.2 = .iter mid' n sn/\lk σ id=some p.1/\lk mem id=some (.iter mid n sn)/\lk σ mid=some mid')
def Cn(σ:List (Nat × Nat)):Prop:=∀i j k,lk σ i=some k->lk σ j=some k->i=j
theorem MR.turn(hΓ:∀p∈Γ,NN p.2)(hm:MR Γ X ρ D mem w)(hσ:∀id id',lk σ id=some id'->D id->D' id'/\ρ' id'=ρ id)(hM:tH mem σ mem')(hnod:(mem'.map (·.1)).Nodup)(hinj:Cn σ) :
  MR Γ X ρ' D' mem' w/\(∀v v',Cv mem σ v v'->∀x,VR ρ D (OX X ρ mem) w v x->VR ρ' D' (OX X ρ' mem') w v' x)/\∀p∈mem',0<(ρ' p.1).n->own ρ mem (ρ' p.1).b:=by
 have hp:∀p∈mem',∃id a,lk σ id=some p.1/\lk mem id=some a/\((∃t sz xs ys,p.2 = .row t sz ys/\a = .row t sz xs/\tG mem σ xs ys)∨(∃es es',p.2 = .mapb es'/\a = .mapb es/\IE mem σ es es')∨(∃sl sl' nt ps ca cb st pd,p.2 = .loop sl' nt ps ca cb st pd/\a = .loop sl nt ps ca cb st pd/\IS mem σ sl sl')∨(∃mid mid' n sn,p.2 = .iter mid' n sn/\a = .iter mid n sn/\lk σ mid=some mid'))/\D' p.1/\ρ' p.1=ρ id/\D id:=by
  intro p h;rcases hM p h with⟨id,t,sz,xs,ys,h1,h2,h3,h4⟩|⟨id,es,es',h1,h2,h3,h4⟩|⟨id,sl,sl',nt,ps,ca,cb,st,pd,h1,h2,h3,h4⟩|⟨id,mid,mid',n,sn,h1,h2,h3,h4⟩
  ·have hD:=hm.low _ (aF h3);obtain⟨h5,h6⟩:=hσ id p.1 h2 hD;exact⟨id,_,h2,h3,.inl ⟨t,sz,xs,ys,h1,rfl,h4⟩,h5,h6,hD⟩
  ·have hD:=hm.low _ (aF h3);obtain⟨h5,h6⟩:=hσ id p.1 h2 hD;exact⟨id,_,h2,h3,.inr (.inl ⟨es,es',h1,rfl,h4⟩),h5,h6,hD⟩
  ·have hD:=hm.low _ (aF h3);obtain⟨h5,h6⟩:=hσ id p.1 h2 hD;exact⟨id,_,h2,h3,.inr (.inr (.inl ⟨sl,sl',nt,ps,ca,cb,st,pd,h1,rfl,h4⟩)),h5,h6,hD⟩
  ·have hD:=hm.low _ (aF h3);obtain⟨h5,h6⟩:=hσ id p.1 h2 hD;exact⟨id,_,h2,h3,.inr (.inr (.inr ⟨mid,mid',n,sn,h1,rfl,h4⟩)),h5,h6,hD⟩
 have hown:∀b,own ρ' mem' b->own ρ mem b:=by
  rintro b ⟨p,h,hn,e⟩;obtain⟨id,a,h2,h3,h4,h5,h6,h7⟩:=hp p h;rw[h6] at hn e;exact⟨_,aF h3,hn,e⟩
 have hO:∀b,b<w.heap.size->¬OX X ρ mem b->¬OX X ρ' mem' b:=fun b _ ho h=>ho (h.imp (fun x=>x) (hown b))
 have hfz:∀p∈mem,lk σ p.1=none->0<(ρ p.1).n->¬OX X ρ' mem' (ρ p.1).b:=by
  rintro p h hno hn (hx|⟨q,hq,hqn,e⟩)
  ·exact(hm.bar _ hx).2 ⟨p,h,hn,rfl⟩
  ·obtain⟨id,a,h2,h3,h4,h5,h6,h7⟩:=hp q hq;rw[h6] at hqn e;have:=hm.inj _ (aF h3) p h hqn hn e;simp only at this;rw[←this,h2] at hno;cases hno
 have hv:∀v v',Cv mem σ v v'->∀x,VR ρ D (OX X ρ mem) w v x->VR ρ' D' (OX X ρ' mem') w v' x:=fun v v' hc=>hc.vr hm hσ hO hfz
 refine⟨⟨fun p h=>?_,fun p h hn=>?_,fun p h hn=>?_,fun p h q hq hpn hqn e=>?_,hnod,fun b hb=>⟨(hm.bar b hb).1,fun h=>(hm.bar b hb).2 (hown b h)⟩,fun p h=>?_⟩,hv,fun p h hn=>hown _ ⟨p,h,hn,rfl⟩⟩
 ·obtain⟨id,a,h2,h3,h4,h5,h6,h7⟩:=hp p h;exact h5
 ·obtain⟨id,a,h2,h3,h4,h5,h6,h7⟩:=hp p h;rw[h6] at hn ⊢;rcases h4 with⟨t,sz,xs,ys,h1,rfl,h4⟩|⟨es,es',h1,rfl,h4⟩|⟨sl,sl',nt,ps,ca,cb,st,pd,h1,rfl,h4⟩|⟨mid,mid',n,sn,h1,rfl,h4⟩
  ·obtain⟨o,ho,k1,arr,fr,rfl,k2,k3,k4,k5⟩:=hm.blk _ (aF h3) hn;refine⟨_,ho, ?_⟩;rw[h1];refine⟨k1,arr,fr,rfl,k2,k3,Jh (JP _ h4.1) k4,fun i y hy=>?_⟩;obtain⟨x,hx⟩:=dT 0 (by simpa using h4.1) hy;rw[Jd] at hx;obtain⟨c1,c2⟩:=h4.2 i x y hx hy;refine⟨by rw[←c1];exact(k5 i x hx).1,fun j c' hc'=>?_⟩;obtain⟨c,hc⟩:=bC c1 hc';obtain⟨u,hu,hone,hr⟩:=(k5 i x hx).2 j c hc;exact⟨u,hu,hone,hv _ _ (c2 j c c' hc hc') _ hr⟩
  ·obtain⟨o,ho,arr,clk,rfl,k2,k3,k4⟩:=hm.blk _ (aF h3) hn;refine⟨_,ho, ?_⟩;rw[h1];refine⟨arr,clk,rfl,by rw[k2];exact h4.1,fun i e' he'=>?_,k4⟩;obtain⟨e,he⟩:=bC h4.1 he';obtain⟨m,hm1,r1,r2⟩:=k3 i e he;obtain⟨c1,c2⟩:=h4.2 i e e' he he';exact⟨m,hm1,hv _ _ c1 _ r1,hv _ _ c2 _ r2⟩
  ·obtain⟨o,ho,arr,fn,df,rfl,k2,k3⟩:=hm.blk _ (aF h3) hn;refine⟨_,ho, ?_⟩;rw[h1];refine⟨arr,fn,df,rfl,k2,fun i v' hi=>?_⟩;obtain⟨v,hl,hc⟩:=h4 i v' hi;exact hv _ _ hc _ (k3 i v hl)
  ·obtain⟨o,ho,k1,k2⟩:=hm.blk _ (aF h3) hn;obtain⟨q1,q2⟩:=hσ mid mid' h4 k1;refine⟨_,ho, ?_⟩;rw[h1];exact⟨q1,by rw[q2];exact k2⟩
 ·obtain⟨id,a,h2,h3,h4,h5,h6,h7⟩:=hp p h;rw[h6] at hn ⊢;obtain⟨t',sz',e1,e2⟩:=hm.emp _ (aF h3) hn;rcases h4 with⟨t,sz,xs,ys,h1,rfl,h4⟩|⟨es,es',h1,rfl,h4⟩|⟨sl,sl',nt,ps,ca,cb,st,pd,h1,rfl,h4⟩|⟨mid,mid',n,sn,h1,rfl,h4⟩
  ·cases e1;have:ys=[]:=JF (by have:=h4.1;simpa using this);subst this;exact⟨_,_,h1,e2⟩
  ·cases e1
  ·cases e1
  ·cases e1
 ·obtain⟨id,a,h2,h3,h4,h5,h6,h7⟩:=hp p h;obtain⟨id',a',h2',h3',h4',h5',h6',h7'⟩:=hp q hq;rw[h6] at hpn e;rw[h6'] at hqn e;have:=hm.inj _ (aF h3) _ (aF h3') hpn hqn e;simp only at this;subst this;rw[h2] at h2';exact Option.some.inj h2'
 ·have hg:=hm.glo p h;exact NN.vr hg hO (.ip _ fun j c hc=>by
   have:=hΓ p h
   revert hc
   cases hpv:p.2 with
   | agg cs=>rw[hpv] at this;cases this with|agg _ hn=>exact fun hc=>hn j c hc
   | _=>intro hc;rw[hpv] at this;cases j with
    | zero=>simp[AV.cells] at hc;rw[←hc];exact this
    | succ j=>simp[AV.cells] at hc)
end
end Go.Ax
namespace Go.Ax
open Go
inductive Kd where
 | pure|al|eff
def kind(P:Program):Op->Kd
 | .move _=>.pure
 | .assign _=>.pure
 | .pick _ _ _=>.pure
 | .build _ _=>.pure
 | .load _ _=>.pure
 | .nilCheck _=>.pure
 | .binOp _ _ _ _ _=>.pure
 | .unOp _ _ _=>.pure
 | .makeInterface _ _=>.pure
 | .makeFunc _ _ _=>.pure
 | .slice _ _ _ _ _=>.pure
 | .fieldAddr _ _ _=>.pure
 | .field _ _ _=>.pure
 | .indexAddr _ _ _=>.pure
 | .index _ _ _=>.pure
 | .extract _ _=>.pure
 | .lookup _ _ _ _=>.pure
 | .convert _ dst _=>match P.underlying dst with
  | some (.slice _)=>.eff
  | _=>.pure
 | .call c=>match c.callee with
  | .builtin .len=>.pure
  | .builtin .min=>.pure
  | .builtin .max=>.pure
  | _=>.eff
 | .alloc _=>.al
 | .box _ _=>.al
 | .buildSlice _ _ _=>.al
 | .makeSlice _ _ _=>.al
 | .makeMap _ _=>.al
 | _=>.eff
def still:Op->Bool
 | .move _=>true
 | .assign _=>true
 | .pick _ _ _=>true
 | .build _ _=>true
 | .nilCheck _=>true
 | .binOp _ _ _ _ _=>true
 | .unOp _ _ _=>true
 | .makeInterface _ _=>true
 | .makeFunc _ _ _=>true
 | .fieldAddr _ _ _=>true
 | .field _ _ _=>true
 | .index _ _ _=>true
 | .extract _ _=>true
 | .call c=>match c.callee with
  | .builtin .len=>true
  | .builtin .min=>true
  | .builtin .max=>true
  | _=>false
 | _=>false
theorem bL{s:St}{o:Option AV}{v:AV}{m:aA}{n:Nat}(h:aG s o=some (v,m,n))(s':St):∃m' n',aG s' o=some (v,m',n'):=by
 unfold aG at h;split at h
 ·cases h;exact⟨_,_,rfl⟩
 ·cases h
theorem j0{P:Program}{Γ:List (Nat × AV)}{s s':St}{op:Op}(hst:still op=true)(hsl:s'.sl=s.sl){v:AV}{m:aA}{n:Nat}(h:aW P Γ s op=some (v,m,n)):∃m' n',aW P Γ s' op=some (v,m',n'):=by
 have hev:∀x,ev Γ s' x=ev Γ s x:=fun x=>by cases x<;>simp[ev,hsl]
 have hevs:∀l,r9 Γ s' l=r9 Γ s l:=fun l=>by
  induction l with
  | nil=>rfl
  | cons x r ih=>simp only[r9,hev,ih]
 have hparts:∀l,dD Γ s' l=dD Γ s l:=fun l=>by
  induction l with
  | nil=>rfl
  | cons x r ih=>obtain⟨i,x⟩:=x;simp only[dD,hev,ih]
 cases op<;>simp only[still] at hst<;>first|(cases hst;done)|skip
 case move x=>simp only[aW,hev] at h ⊢;exact bL h s'
 case assign x=>simp only[aW,hev] at h ⊢;exact bL h s'
 case pick c x y=>
  simp only[aW,hev] at h ⊢;split at h
  ·exact bL h s'
  ·exact bL h s'
  ·cases h
 case build t parts=>
  simp only[aW,hparts] at h ⊢;split at h
  ·exact bL h s'
  ·cases h
 case nilCheck x=>
  simp only[aW,hev] at h ⊢;split at h
  ·exact bL h s'
  ·cases h
 case binOp op t x y t'=>
  simp only[aW,hev] at h ⊢;split at h
  ·split at h
   ·exact bL h s'
   ·cases h
  ·cases h
 case unOp op t x=>
  simp only[aW,hev] at h ⊢;split at h
  ·exact bL h s'
  ·cases h
 case makeInterface t x=>
  simp only[aW,hev] at h ⊢;split at h
  ·exact bL h s'
  ·cases h
 case makeFunc fn first cap=>
  simp only[aW,hevs] at h ⊢;split at h
  ·split at h
   ·cases h;exact⟨_,_,rfl⟩
   ·cases h
  ·cases h
 case fieldAddr t x f=>
  simp only[aW,hev] at h ⊢;split at h
  ·exact bL h s'
  ·cases h
 case field t x f=>
  simp only[aW,hev] at h ⊢;split at h
  ·exact bL h s'
  ·cases h
 case index t x ix=>
  simp only[aW,hev] at h ⊢;split at h
  ·split at h
   ·exact bL h s'
   ·cases h
  ·cases h
 case extract x i=>
  simp only[aW,hev] at h ⊢;split at h
  ·exact bL h s'
  ·cases h
 case call c=>
  cases hc:c.callee with
  | value f=>rw[hc] at hst;simp at hst
  | invoke a b=>rw[hc] at hst;simp at hst
  | builtin b=>
   rw[hc] at hst;simp only[aW,hc] at h ⊢;unfold bH at h ⊢;cases b<;>simp only at hst<;>first|(cases hst;done)|skip
   case len=>
    simp only[hev] at h ⊢;split at h
    ·split at h
     ·exact bL h s'
     ·cases h
    ·cases h
   case min=>
    simp only[hevs] at h ⊢;split at h
    ·split at h
     ·cases h;exact⟨_,_,rfl⟩
     ·cases h
    ·cases h
   case max=>
    simp only[hevs] at h ⊢;split at h
    ·split at h
     ·cases h;exact⟨_,_,rfl⟩
     ·cases h
    ·cases h
section
variable {P:Program} {Γ:List (Nat × AV)} {s s':St}
theorem f7:∀{l:List Operand},(∀x∈l,ev Γ s x=ev Γ s' x)->r9 Γ s l=r9 Γ s' l
 | [],h=>rfl
 | x::r,h=>by
  simp only[r9,h x (JW ..),f7 fun y hy=>h y (JO _ hy)]
theorem iA:∀{l:List (Nat × Operand)},(∀x∈l.map (·.2),ev Γ s x=ev Γ s' x)->dD Γ s l=dD Γ s' l
 | [],h=>rfl
 | (i,x)::r,h=>by
  simp only[dD,h x (by simp),iA fun y hy=>h y (by simp only[Jg];exact JO _ hy)]
theorem kK{o:Option Operand}(h:∀x∈o.toList,ev Γ s x=ev Γ s' x):lQ Γ s o=lQ Γ s' o:=by
 cases o with
 | none=>rfl
 | some x=>simp only[lQ,h x (by simp)]
theorem kD{op:Op}(h:∀x∈op.operands,ev Γ s x=ev Γ s' x)(hm:s.mem=s'.mem)(hn:s.nx=s'.nx):aW P Γ s op=aW P Γ s' op:=by
 have hp:∀o:Option AV,aG s o=aG s' o:=fun o=>by cases o<;>simp[aG,hm,hn]
 cases op<;>simp only[Op.operands] at h<;>simp only[aW]
 case move x=>rw[h x (by simp),hp]
 case assign x=>rw[h x (by simp),hp]
 case pick c x y=>rw[h c (by simp),h x (by simp),h y (by simp),hp,hp]
 case alloc t=>rw[hm,hn]
 case box t x=>rw[h x (by simp),hm,hn]
 case build t parts=>rw[iA (s:=s) (s':=s') (fun x hx=>h x (by simpa using hx))];simp only[hp]
 case buildSlice t len parts=>rw[iA (s:=s) (s':=s') (fun x hx=>h x (by simpa using hx)),hm,hn]
 case load t x=>rw[h x (by simp),hm];simp only[hp]
 case store t x y=>rw[h x (by simp),h y (by simp),hm,hn]
 case nilCheck x=>rw[h x (by simp)];simp only[hp]
 case binOp op t x y t'=>rw[h x (by simp),h y (by simp)];simp only[hp]
 case unOp op t x=>rw[h x (by simp)];simp only[hp]
 case convert src dst x=>rw[h x (by simp),hm,hn]
 case makeInterface t x=>rw[h x (by simp)];simp only[hp]
 case makeFunc fn first cap=>
  rw[f7 (s:=s) (s':=s') (l:=first.toList) (fun x hx=>h x (by simp only[Ki];exact .inl (by simpa using hx))),f7 (s:=s) (s':=s') (l:=cap.toList) (fun x hx=>h x (by simp only[Ki];exact .inr (by simpa using hx))),hm,hn]
 case makeSlice t l c=>rw[h l (by simp),h c (by simp),hm,hn]
 case slice t x lo hi mx=>
  rw[h x (by simp),kK (s:=s) (s':=s') (o:=lo) (fun y hy=>h y (by cases lo<;>simp_all)),kK (s:=s) (s':=s') (o:=hi) (fun y hy=>h y (by cases hi<;>simp_all)),
   kK (s:=s) (s':=s') (o:=mx) (fun y hy=>h y (by cases mx<;>simp_all)),hm]
  simp only[hp]
 case fieldAddr t x f=>rw[h x (by simp)];simp only[hp]
 case field t x f=>rw[h x (by simp)];simp only[hp]
 case indexAddr t x ix=>rw[h x (by simp),h ix (by simp),hm];simp only[hp]
 case index t x ix=>rw[h x (by simp),h ix (by simp)];simp only[hp]
 case extract x i=>rw[h x (by simp)];simp only[hp]
 case typeAssert x xt t ok=>rw[h x (by simp)];simp only[hp]
 case makeMap t r=>rw[hm,hn]
 case lookup t x ix ok=>rw[h x (by simp),h ix (by simp),hm];simp only[hp]
 case mapUpdate t x y z=>rw[h x (by simp),h y (by simp),h z (by simp),hm,hn]
 case range t x=>rw[h x (by simp),hm,hn]
 case entry x=>rw[h x (by simp),hm];simp only[hp]
 case next x b=>cases b<;>simp only[]<;>first|rfl|rw[h x (by simp),hm,hn]
 case insert t x y z=>rw[h x (by simp),h y (by simp),h z (by simp),hm,hn]
 case call c=>
  cases hc:c.callee with
  | builtin b=>
   simp only;have ha:∀x∈c.args.toList,ev Γ s x=ev Γ s' x:=fun x hx=>h x (by simp only[Call.operands,Ki];exact .inr (by simpa using hx))
   have hargs:=f7 (Γ:=Γ) (s:=s) (s':=s') ha;unfold bH;cases b<;>simp only[hargs,hm,hn]
   case len=>
    split
    ·rename_i x t e _;rw[ha x (by rw[e];simp)];simp only[hp]
    ·rfl
   case append=>
    split
    ·rename_i x y t u e _;rw[ha x (by rw[e];simp),ha y (by rw[e];simp)]
    ·rfl
   case copy=>
    split
    ·rename_i x y t u e _;rw[ha x (by rw[e];simp),ha y (by rw[e];simp)]
    ·rfl
   case clear=>
    split
    ·rename_i x t e _;rw[ha x (by rw[e];simp)]
    ·rfl
   case unsafeSliceData=>
    split
    ·rename_i x t e _;rw[ha x (by rw[e];simp)];simp only[hp]
    ·rfl
   case unsafeString=>
    split
    ·rename_i x y t u e _;rw[ha x (by rw[e];simp),ha y (by rw[e];simp)]
    ·rfl
  | invoke r m=>rfl
  | value f=>
   have hf:ev Γ s f=ev Γ s' f:=h f (by simp[Call.operands,hc]);have hargs:r9 Γ s c.args.toList=r9 Γ s' c.args.toList:=f7 fun x hx=>h x (by simp only[Call.operands,Ki];exact .inr (by simpa using hx))
   simp only[wS,hf,hargs,hm,hn]
theorem kE{op:Op}(h:∀x∈op.operands,ev Γ s x=ev Γ s' x):fR P Γ s op=fR P Γ s' op:=by
 cases op<;>simp only[fR]
 case next x b=>cases b<;>simp only[]<;>first|rfl|(simp only[Op.operands] at h;rw[h x (by simp)])
 rename_i c;simp only[Op.operands] at h;cases hc:c.callee with
 | builtin b=>rfl
 | invoke r m=>rfl
 | value f=>
  have hf:ev Γ s f=ev Γ s' f:=h f (by simp[Call.operands,hc]);have hargs:r9 Γ s c.args.toList=r9 Γ s' c.args.toList:=f7 fun x hx=>h x (by simp only[Call.operands,Ki];exact .inr (by simpa using hx))
  simp only[hf,hargs]
end
section
variable {P:Program} {Γ:List (Nat × AV)} {X:Nat->Prop} {ds:List Deferred × Nat} {ρ ρ':Nat->a6} {D D':Nat->Prop} {s:St} {a:Act} {w w':World}
theorem iZ{o:Option AV}{v:AV}{m:aA}{n:Nat}(h:aG s o=some (v,m,n)):o=some v/\m=s.mem/\n=s.nx:=by
 unfold aG at h;split at h
 ·cases h;exact⟨rfl,rfl,rfl⟩
 ·cases h
theorem w6(hs:SR Γ X ds ρ D s a w){b:Builtin}(hb:b = .len∨b = .min∨b = .max){args:List Operand}{ts:List TypeId}{v:AV}{m:aA}{n:Nat}(h:bH P Γ s b args ts=some (v,m,n))
    (ty:TypeId) (cs:Array Bool) :
    m=s.mem/\n=s.nx/\∃x,(builtin b ts.toArray ty cs (args.map a.eval).toArray).run P w = .ok (.value x) w/\VR ρ D (OX X ρ s.mem) w v x:=by
  rcases hb with rfl|rfl|rfl
  · simp only[bH] at h
    split at h
    · rename_i x t
      split at h
      · rename_i p hp
        obtain⟨h1,rfl,rfl⟩:=iZ h;obtain⟨z,h2,h3⟩:=rV (P:=P) h1 (aB hs hp) ty;exact⟨rfl,rfl,z,by simp[builtin,h2],h3⟩
      · cases h
    · cases h
  all_goals
    simp only[bH] at h;split at h
    · rename_i k x r hr
      split at h
      · rename_i mm hm
        cases h;have hv:=cN hs hr;obtain⟨y,ys,e⟩:∃y ys,args.map a.eval=y::ys:=by
          cases hl:args.map a.eval with
          | nil=>have:=hv.1;rw[hl] at this;simp at this
          | cons y ys=>exact⟨y,ys,rfl⟩
        rw[e] at hv ⊢;have h0:=hv.2 0 _ y rfl rfl;cases h0;have hr':dO ρ D (OX X ρ s.mem) w r ys:=⟨by have:=hv.1;simpa using this,fun j c x h1 h2=>hv.2 (j+1) c x (by simpa using h1) (by simpa using h2)⟩
        first
          | (have:=mC (P:=P) k hm hr'
             exact⟨rfl,rfl,.int k mm,by simp[builtin,Builtin.min_,this],.int _ _⟩)
          | (have:=mD (P:=P) k hm hr'
             exact⟨rfl,rfl,.int k mm,by simp[builtin,Builtin.max_,this],.int _ _⟩)
      · cases h
    · cases h
theorem zD(hs:SR Γ X ds ρ D s a w)(o:Oper)(hk:kind P o.op = .pure){v:AV}{m:aA}{n:Nat}(h:aW P Γ s o.op=some (v,m,n)) :
  m=s.mem/\n=s.nx/\∃x,(execOp a.eval o).run P w = .ok (.value x) w/\VR ρ D (OX X ρ s.mem) w v x:=by
 have wrap:∀{mm:Sem Value} {oo:Option AV},aG s oo=some (v,m,n)->(∀v,oo=some v->∃x,mm.run P w = .ok x w/\VR ρ D (OX X ρ s.mem) w v x) ->
   m=s.mem/\n=s.nx/\∃x,((do let x ←mm;pure (Next.value x)).run P w) = .ok (.value x) w/\VR ρ D (OX X ρ s.mem) w v x:=by
  intro mm oo h1 h2;obtain⟨rfl,rfl,rfl⟩:=iZ h1;obtain⟨x,h3,h4⟩:=h2 _ rfl;exact⟨rfl,rfl,x,by simp[h3],h4⟩
 have same:∀{x:Operand},aG s (ev Γ s x)=some (v,m,n)->m=s.mem/\n=s.nx/\VR ρ D (OX X ρ s.mem) w v (a.eval x):=by
  intro x h1;obtain⟨h2,rfl,rfl⟩:=iZ h1;exact⟨rfl,rfl,aB hs h2⟩
 cases hop:o.op<;>rw[hop] at h hk<;>simp only[kind] at hk<;>first|(cases hk;done)|skip
 all_goals simp only[aW] at h
 case move x=>obtain⟨h1,h2,h3⟩:=same h;exact⟨h1,h2,_,by simp[execOp,hop],h3⟩
 case assign x=>obtain⟨h1,h2,h3⟩:=same h;exact⟨h1,h2,_,by simp[execOp,hop],h3⟩
 case pick c x y=>
  split at h
  ·rename_i hc;have hb:=aB hs hc;generalize he:a.eval c=cv at hb;cases hb;obtain⟨h1,h2,h3⟩:=same h;exact⟨h1,h2,_,by simp[execOp,hop,asBool,he],h3⟩
  ·rename_i hc;have hb:=aB hs hc;generalize he:a.eval c=cv at hb;cases hb;obtain⟨h1,h2,h3⟩:=same h;exact⟨h1,h2,_,by simp[execOp,hop,asBool,he],h3⟩
  ·cases h
 case build t parts=>
  split at h
  ·rename_i ps hps;obtain⟨h1,h2⟩:=fB hs hps;have:=wrap (mm:=Instr.build t (parts.toList.map fun(i,x)=>(i,a.eval x)).toArray) h (fun v' hv=>mZ hv h1 h2);have e:(parts.map fun(i,x)=>(i,a.eval x))=(parts.toList.map fun(i,x)=>(i,a.eval x)).toArray:=by apply Kn;simp
   simp only[execOp,hop];rw[e];exact this
  ·cases h
 case lookup t x ix ok=>
  split at h
  ·rename_i p hp;split at h
   ·rename_i i hi;simpa[execOp,hop] using wrap (mm:=Instr.lookup t (a.eval x) (a.eval ix) ok) h (fun v' hv=>l6 hs.mr hv (aB hs hp) (aB hs hi))
   ·cases h
  ·cases h
 case load t x=>
  split at h
  ·rename_i p hp;simpa[execOp,hop] using wrap (mm:=Instr.loadAt t (a.eval x)) h (fun v' hv=>jR hs.mr hv (aB hs hp))
  ·cases h
 case nilCheck x=>
  split at h
  ·rename_i p hp;obtain⟨h2,rfl,rfl⟩:=iZ h;obtain⟨h3,h4⟩:=q7 (P:=P) h2 (aB hs hp) o a.eval x hop rfl;exact⟨rfl,rfl,_,h3,h4⟩
  ·cases h
 case binOp op t x y t'=>
  split at h
  ·rename_i p hp;split at h
   ·rename_i q hq;simpa[execOp,hop] using wrap (mm:=do eqGuard op t x y (a.eval x) (a.eval y);binOp op t (a.eval x) (a.eval y)) h (fun v' hv=>sD hv (aB hs hp) (aB hs hq))
   ·cases h
  ·cases h
 case unOp op t x=>
  split at h
  ·rename_i p hp;simpa[execOp,hop] using wrap (mm:=Op.unary op (a.eval x)) h (fun v' hv=>uP hv (aB hs hp))
  ·cases h
 case convert src dst x=>
  split at h
  ·rename_i p hp;split at h
   ·rename_i v0 hv;cases h;obtain⟨z,h1,h2⟩:=pR (P:=P) hs.mr hv (aB hs hp);exact⟨rfl,rfl,z,by simp[execOp,hop,h1],h2⟩
   ·exfalso;unfold dY at h;split at h
    ·cases h
    ·split at h
     ·rename_i e hu;rw[hu] at hk;cases hk
     ·cases h
  ·cases h
 case makeInterface t x=>
  split at h
  ·rename_i p hp;simpa[execOp,hop] using wrap (mm:=Instr.makeInterface t (a.eval x)) h (fun v' hv=>nE hv (aB hs hp))
  ·cases h
 case makeFunc fn first cap=>
  split at h
  ·rename_i l1 h1;split at h
   ·rename_i l2 h2;cases h;have e1:=cN hs h1;have e2:=cN hs h2;refine⟨rfl,rfl,.func fn (first.map a.eval) (cap.map a.eval),by simp[execOp,hop,Instr.makeFunc], ?_⟩;exact .fn fn l1 l2 _ _ (by have:=e1.1;simpa using this) (by have:=e2.1;simpa using this)
     (fun j c x g1 g2=>e1.2 j c x g1 (by simpa using g2)) (fun j c x g1 g2=>e2.2 j c x g1 (by simpa using g2))
   ·cases h
  ·cases h
 case slice t x lo hi mx=>
  split at h
  ·rename_i p hp;split at h
   ·rename_i l hl;split at h
    ·rename_i hh hhi;split at h
     ·rename_i m' hm;split at h
      ·rename_i hmx;have hmx':m'.isSome=true->hh.isSome=true:=by
        intro e;rw[e] at hmx;simpa using hmx
       simpa[execOp,hop] using wrap (mm:=Instr.sliceAt t (a.eval x) (lo.map a.eval) (hi.map a.eval) (mx.map a.eval)) h
        (fun v' hv=>nC hs.mr hv (aB hs hp) (dV hs hl) (dV hs hhi) (dV hs hm) hmx')
      ·cases h
     ·cases h
    ·cases h
   ·cases h
  ·cases h
 case fieldAddr t x f=>
  split at h
  ·rename_i p hp;simpa[execOp,hop] using wrap (mm:=Instr.fieldAt t (a.eval x) f) h (fun v' hv=>iJ hv (aB hs hp))
  ·cases h
 case field t x f=>
  split at h
  ·rename_i p hp;simpa[execOp,hop] using wrap (mm:=Instr.field t (a.eval x) f) h (fun v' hv=>oE hv (aB hs hp))
  ·cases h
 case indexAddr t x ix=>
  split at h
  ·rename_i p hp;split at h
   ·rename_i q hq;simpa[execOp,hop] using wrap (mm:=Instr.indexAt t (a.eval x) (a.eval ix)) h (fun v' hv=>iM hs.mr hv (aB hs hp) (aB hs hq))
   ·cases h
  ·cases h
 case index t x ix=>
  split at h
  ·rename_i p hp;split at h
   ·rename_i q hq;simpa[execOp,hop] using wrap (mm:=Instr.index t (a.eval x) (a.eval ix)) h (fun v' hv=>nK hv (aB hs hp) (aB hs hq))
   ·cases h
  ·cases h
 case extract x i=>
  split at h
  ·rename_i p hp;simpa[execOp,hop] using wrap (mm:=Instr.extract (a.eval x) i) h (fun v' hv=>kC hv (aB hs hp))
  ·cases h
 case call c=>
  cases hc:c.callee with
  | value f=>rw[hc] at hk;simp at hk
  | invoke r m=>rw[hc] at h;cases h
  | builtin b=>
   rw[hc] at h hk;simp only at h hk;have e:(c.args.toList.map a.eval).toArray=c.args.map a.eval:=by apply Kn;simp
   have red:(execOp a.eval o).run P w=(builtin b c.argTypes o.type (c.args.map fun | .const _=>true|_=>false) (c.args.map a.eval)).run P w:=by
    simp only[execOp,hop,resolve,hc,Sem.run_bind,Sem.run_pure,Result.andThen_ok,invoke];rfl
   rw[red];have hb:=w6 hs (by cases b<;>first|exact .inl rfl|exact .inr (.inl rfl)|exact .inr (.inr rfl)|(simp at hk)) h o.type (c.args.map fun | .const _=>true|_=>false);rw[e] at hb;simpa using hb
end
end Go.Ax
namespace Go.Ax
open Go
mutual
def d7:AV->AV->Bool
 | .bool a,.bool b=>a == b
 | .int k n,.int k' n'=>decide (k=k') && decide (n=n')
 | .str s,.str s'=>s == s'
 | .nptr,.nptr=>true
 | .nsl,.nsl=>true
 | .nmap,.nmap=>true
 | .nfn,.nfn=>true
 | .nif,.nif=>true
 | .ptr a b c,.ptr a' b' c'=>Nat.beq a a' && (Nat.beq b b' && Nat.beq c c')
 | .sl a b c,.sl a' b' c'=>Nat.beq a a' && (Nat.beq b b' && Nat.beq c c')
 | .mp a,.mp a'=>Nat.beq a a'
 | .yld a,.yld a'=>Nat.beq a a'
 | .ip v,.ip v'=>d7 v v'
 | .il a xs,.il a' xs'=>Nat.beq a a' && gK xs xs'
 | .fn (.func f) xs ys,.fn (.func f') xs' ys'=>Nat.beq f f' && (gK xs xs' && gK ys ys')
 | .ifc t v,.ifc t' v'=>Nat.beq t t' && d7 v v'
 | .agg xs,.agg xs'=>gK xs xs'
 | .tup xs,.tup xs'=>gK xs xs'
 | _,_=>false
def gK:List AV->List AV->Bool
 | [],[]=>true
 | a::r,b::t=>d7 a b && gK r t
 | _,_=>false
end
mutual
theorem iY:∀{a b:AV},d7 a b=true->a=b
 | .bool a,b,h=>by cases b<;>simp_all[d7]
 | .int k n,b,h=>by cases b<;>simp_all[d7]
 | .str s,b,h=>by cases b<;>simp_all[d7]
 | .nptr,b,h=>by cases b<;>simp_all[d7]
 | .nsl,b,h=>by cases b<;>simp_all[d7]
 | .nmap,b,h=>by cases b<;>simp_all[d7]
 | .nfn,b,h=>by cases b<;>simp_all[d7]
 | .nif,b,h=>by cases b<;>simp_all[d7]
 | .ptr x y z,b,h=>by cases b<;>simp_all[d7]
 | .sl x y z,b,h=>by cases b<;>simp_all[d7]
 | .mp x,b,h=>by cases b<;>simp_all[d7]
 | .yld x,b,h=>by cases b<;>simp_all[d7]
 | .junk,b,h=>by cases b<;>simp_all[d7]
 | .ip v,b,h=>by
  cases b<;>simp only[d7] at h<;>first|(cases h;done)|skip
  rw[iY h]
 | .il n xs,b,h=>by
  cases b<;>simp only[d7] at h<;>first|(cases h;done)|skip
  rw[JE] at h;rw[Nat.eq_of_beq_eq_true h.1,cX h.2]
 | .fn f xs ys,b,h=>by
  cases b<;>first|(cases f<;>simp[d7] at h;done)|skip
  rename_i f' xs' ys';cases f<;>first|(simp[d7] at h;done)|skip
  cases f'<;>first|(simp[d7] at h;done)|skip
  simp only[d7,JE] at h;rw[Nat.eq_of_beq_eq_true h.1,cX h.2.1,cX h.2.2]
 | .ifc t v,b,h=>by
  cases b<;>simp only[d7] at h<;>first|(cases h;done)|skip
  rw[JE] at h;rw[Nat.eq_of_beq_eq_true h.1,iY h.2]
 | .agg xs,b,h=>by
  cases b<;>simp only[d7] at h<;>first|(cases h;done)|skip
  rw[cX h]
 | .tup xs,b,h=>by
  cases b<;>simp only[d7] at h<;>first|(cases h;done)|skip
  rw[cX h]
theorem cX:∀{l t:List AV},gK l t=true->l=t
 | [],[],h=>rfl
 | [],b::t,h=>by simp[gK] at h
 | a::r,[],h=>by simp[gK] at h
 | a::r,b::t,h=>by
  simp only[gK,JE] at h;rw[iY h.1,cX h.2]
end
def mO(x:Nat):List Nat->Bool
 | []=>false
 | y::r=>match Nat.beq x y with
  | true=>true
  | false=>mO x r
theorem eM{x:Nat}:∀{l:List Nat},mO x l=true↔x∈l
 | []=>by simp[mO]
 | y::r=>by
  simp only[mO];cases h:Nat.beq x y with
  | true=>simp[Nat.eq_of_beq_eq_true h]
  | false=>
   have:=Jk h;simp[this,eM]
def qV:List Nat->List Nat->List Nat
 | [],l=>l
 | x::r,l=>match mO x l with
  | true=>qV r l
  | false=>qV r (x::l)
theorem mP{x:Nat}:∀{a l:List Nat},x∈qV a l->x∈a∨x∈l
 | [],l,h=>.inr h
 | y::r,l,h=>by
  simp only[qV] at h;split at h
  ·rcases mP h with h|h
   ·exact .inl (JO _ h)
   ·exact .inr h
  ·rcases mP h with h|h
   ·exact .inl (JO _ h)
   ·rcases JA.1 h with rfl|h
    ·exact .inl (JW ..)
    ·exact .inr h
def d8(o:Oper):List Nat:=(o.after.toList.filter fun e=>Region.binds .any e).map (·.on)
def uN(acc:List (List Nat)):List Nat->List Nat
 | []=>[]
 | j::r=>qV (j::(acc[j]?).getD []) (uN acc r)
def Bs:List Oper->List (List Nat)->List (List Nat)
 | [],acc=>acc
 | o::r,acc=>Bs r (acc++[uN acc (d8 o)])
theorem uQ{acc:List (List Nat)}{x:Nat}:∀{l:List Nat},x∈uN acc l->∃j∈l,x=j∨x∈(acc[j]?).getD []
 | [],h=>by simp[uN] at h
 | j::r,h=>by
  simp only[uN] at h;rcases mP h with h|h
  ·rcases JA.1 h with h|h
   ·exact⟨j,JW ..,.inl h⟩
   ·exact⟨j,JW ..,.inr h⟩
  ·obtain⟨k,hk,h⟩:=uQ h;exact⟨k,JO _ hk,h⟩
def B0(ops:List Oper)(tr:List (List Nat)):Prop:=
 ∀(i x:Nat),x∈(tr[i]?).getD []->∃o,ops[i]? = some o/\∃j∈d8 o,x=j∨(j<i/\x∈(tr[j]?).getD [])
theorem Cw:∀(l pre:List Oper) (acc:List (List Nat)),acc.length=pre.length->B0 pre acc->B0 (pre++l) (Bs l acc)
 | [],pre,acc,hl,h=>by simpa[Bs] using h
 | o::r,pre,acc,hl,h=>by
  simp only[Bs];have:=Cw r (pre++[o]) (acc++[uN acc (d8 o)]) (by simp[hl]) (by
   intro i x hx;rcases LC i acc.length with hi|hi|hi
   ·rw[Ji hi] at hx;obtain⟨o',ho',j,hj,h'⟩:=h i x hx;refine⟨o',by rw[Ji om];exact ho',j,hj,h'.imp (fun e=>e) (fun⟨h1,h2⟩=>⟨h1, ?_⟩)⟩;rw[Ji om];exact h2
   ·subst hi;rw[Jo (JG _)] at hx;simp at hx;obtain⟨j,hj,h'⟩:=uQ hx;refine⟨o,by rw[Jo om];simp[hl],j,hj,h'.imp (fun e=>e) (fun h2=>?_)⟩;have hjl:j<acc.length:=by
     rcases JK j acc.length with h3|h3
     ·exact h3
     ·rw[JH h3] at h2;simp at h2
    exact⟨hjl,by rw[Ji hjl];exact h2⟩
   ·rw[JH (by simp;omega)] at hx;simp at hx)
  simpa using this
theorem E1(ops:List Oper):B0 ops (Bs ops []):=by
 have:=Cw ops [] [] rfl (fun i x hx=>by simp at hx);simpa using this
theorem B0.closed{ops:List Oper}{tr:List (List Nat)}(h:B0 ops tr){L:Nat->Prop}(hL:∀i o,L i->ops[i]? = some o->∀j∈d8 o,L j) :
  ∀(i:Nat),L i->∀x∈(tr[i]?).getD [],L x:=by
 intro i
 induction i using Nat.strongRecOn with
 | _ i ih=>
  intro hi x hx;obtain⟨o,ho,j,hj,h'⟩:=h i x hx;have hLj:=hL i o hi ho j hj;rcases h' with rfl|⟨h1,h2⟩
  ·exact hLj
  ·exact ih j h1 hLj x h2
def looks(ops:List Oper)(o:Oper):List Nat:=
  (o.op.operands.toList.filterMap fun x=>match x with | .tmp t=>some t|_=>none) ++
  (match o.guard with
   | some (g,_)=>match ops[g]? with
     | some og=>og.dst.toList
     | none=>[]
   | none=>[])
def nZ:List Nat->List Nat->Bool
 | [],_=>true
 | x::r,l=>match mO x l with
  | true=>nZ r l
  | false=>false
theorem kH:∀{a l:List Nat},nZ a l=true->∀x∈a,x∈l
 | [],l,h,x,hx=>by simp at hx
 | y::r,l,h,x,hx=>by
  simp only[nZ] at h;split at h
  ·rename_i hy;rcases JA.1 hx with rfl|hx
   ·exact eM.1 hy
   ·exact kH h x hx
  ·cases h
def dR(P:Program)(ops:List Oper)(i:Nat):Bool:=
 match ops[i]? with
 | some o=>match kind P o.op with
  | .eff=>true
  | _=>false
 | none=>true
def qF(ops:List Oper)(done:List Nat)(i:Nat):Bool:=
 match ops[i]? with
 | some o=>nZ (d8 o) done
 | none=>false
def Cx(f:Nat->Bool):List Nat->Option Nat
 | []=>none
 | x::r=>match f x with
  | true=>some x
  | false=>Cx f r
def AF(x:Nat):List Nat->List Nat
 | []=>[]
 | y::r=>match Nat.beq x y with
  | true=>r
  | false=>y::AF x r
def nT(P:Program)(ops:List Oper):Nat->List Nat->List Nat->List Nat
 | 0,_,_=>[]
 | n+1,done,pend=>match Cx (fun i=>!dR P ops i && qF ops done i) pend with
  | some i=>i::nT P ops n (i::done) (AF i pend)
  | none=>match Cx (fun i=>qF ops done i) pend with
   | some i=>i::nT P ops n (i::done) (AF i pend)
   | none=>[]
def oH:Nat->List Nat
 | 0=>[]
 | n+1=>oH n++[n]
def BC(P:Program)(ops:List Oper)(tr:List (List Nat)):List Nat->List Nat->Bool
 | _,[]=>true
 | done,i::r=>!mO i done && (Nat.blt i ops.length && (qF ops done i &&
   ((match dR P ops i with
    | true=>r.all fun k=>mO i ((tr[k]?).getD [])
    | false=>true) && BC P ops tr (i::done) r)))
def EU(ops:List Oper)(tr:List (List Nat)):Bool:=
 (oH ops.length).all fun j=>match ops[j]? with
  | some oj=>match oj.dst with
   | some d=>(oH ops.length).all fun i=>match ops[i]? with
    | some oi=>Nat.beq i j || ((match oi.dst with|some d'=>!Nat.beq d d'|none=>true) && (!mO d (looks ops oi) || (mO j ((tr[i]?).getD []) || mO i ((tr[j]?).getD []))))
    | none=>true
   | none=>true
  | none=>true
def rZ(P:Program)(ops:List Oper)(ord:List Nat):Bool:=
 nZ (oH ops.length) ord && (BC P ops (Bs ops []) [] ord && EU ops (Bs ops []))
def T(tr:List (List Nat))(i:Nat):List Nat:=(tr[i]?).getD []
structure mQ(P:Program)(ops:List Oper)(ord:List Nat)(tr:List (List Nat)):Prop where
 tok:B0 ops tr
 lt:∀i∈ord,i<ops.length
 full:∀i,i<ops.length->i∈ord
 resp:∀pre i r,ord=pre++i::r->∀o,ops[i]? = some o->∀j∈d8 o,j∈pre
 eff:∀pre x r,ord=pre++x::r->dR P ops x=true->∀i∈r,x∈T tr i
 nod:ord.Nodup
 dst:∀(i j:Nat) (oi oj:Oper) (d:Nat),ops[i]? = some oi->ops[j]? = some oj->oi.dst=some d->oj.dst=some d->i=j
 look:∀(i j:Nat) (oi oj:Oper) (d:Nat),i≠j->ops[i]? = some oi->ops[j]? = some oj->oj.dst=some d->d∈looks ops oi->j∈T tr i∨i∈T tr j
theorem nA:∀{n i:Nat},i<n->i∈oH n
 | n+1,i,h=>by
  simp only[oH,JI,Ko];rcases JK i n with h'|h'
  ·exact .inl (nA h')
  ·exact .inr om
theorem pM{P:Program}{ops:List Oper}{tr:List (List Nat)}:∀{done ord:List Nat},BC P ops tr done ord=true->done.Nodup ->
  (∀i∈ord,i<ops.length/\i∉done)/\ord.Nodup/\(∀pre i r,ord=pre++i::r->(∀o,ops[i]? = some o->∀j∈d8 o,j∈pre∨j∈done)/\(dR P ops i=true->∀k∈r,i∈T tr k))
 | done,[],h,hn=>⟨by simp,LH,fun pre i r e=>by simp at e⟩
 | done,i::r,h,hn=>by
  simp only[BC,JE] at h;obtain⟨h1,h2,h3,h4,h5⟩:=h;have h1:i∉done:=fun hm=>by rw[eM.2 hm] at h1;simp at h1
  have h2:i<ops.length:=JB h2;obtain⟨k1,k2,k3⟩:=pM h5 (JU.2 ⟨h1,hn⟩);refine⟨fun k hk=>?_,JU.2 ⟨fun hm=>(k1 i hm).2 (JW ..),k2⟩,fun pre x t e=>?_⟩
  ·rcases JA.1 hk with rfl|hk
   ·exact⟨h2,h1⟩
   ·exact⟨(k1 k hk).1,fun hm=>(k1 k hk).2 (JO _ hm)⟩
  ·cases pre with
   | nil=>
    simp at e;obtain⟨rfl,rfl⟩:=e;refine⟨fun o ho j hj=>?_,fun he k hk=>?_⟩
    ·unfold qF at h3;rw[ho] at h3;exact .inr (kH h3 j hj)
    ·rw[he] at h4;simp only[Kw] at h4;exact eM.1 (h4 k hk)
   | cons p pre=>
    simp at e;obtain⟨rfl,rfl⟩:=e;obtain⟨q1,q2⟩:=k3 pre x t rfl;refine⟨fun o ho j hj=>?_,q2⟩;rcases q1 o ho j hj with h|h
    ·exact .inl (JO _ h)
    ·rcases JA.1 h with rfl|h
     ·exact .inl (JW ..)
     ·exact .inr h
theorem wF{P:Program}{ops:List Oper}{ord:List Nat}(h:rZ P ops ord=true):mQ P ops ord (Bs ops []):=by
 simp only[rZ,JE] at h;obtain⟨h1,h2,h3⟩:=h;obtain⟨k1,k2,k3⟩:=pM h2 LH;have hsl:∀(i j:Nat) (oi oj:Oper) (d:Nat),i≠j->ops[i]? = some oi->ops[j]? = some oj->oj.dst=some d->(∀d',oi.dst=some d'->d≠d')/\(d∈looks ops oi->j∈T (Bs ops []) i∨i∈T (Bs ops []) j):=by
  intro i j oi oj d hij hi hj hd;have hil:i<ops.length:=by
   rcases JK i ops.length with h'|h'
   ·exact h'
   ·rw[JH h'] at hi;cases hi
  have hjl:j<ops.length:=by
   rcases JK j ops.length with h'|h'
   ·exact h'
   ·rw[JH h'] at hj;cases hj
  have a1:=Kw.1 h3 j (nA hjl);simp only[hj,hd] at a1;have a2:=Kw.1 a1 i (nA hil);simp only[hi,KW,JE] at a2;rcases a2 with a2|⟨a2,a3⟩
  ·exact absurd (Nat.eq_of_beq_eq_true a2) hij
  ·refine⟨fun d' hd' e=>?_,fun hl=>?_⟩
   ·rw[hd'] at a2;subst e;simp at a2
   ·rcases a3 with a3|a3|a3
    ·rw[eM.2 hl] at a3;simp at a3
    ·exact .inl (eM.1 a3)
    ·exact .inr (eM.1 a3)
 refine⟨E1 ops,fun i hi=>(k1 i hi).1,fun i hi=>kH h1 i (nA hi),fun pre i r e o ho j hj=>?_,fun pre x r e he=>(k3 pre x r e).2 he,k2, ?_, ?_⟩
 ·rcases(k3 pre i r e).1 o ho j hj with h|h
  ·exact h
  ·simp at h
 ·intro i j oi oj d hi hj hdi hdj;refine Classical.byContradiction fun hij=>?_
  exact(hsl i j oi oj d hij hi hj hdj).1 d hdi rfl
 ·intro i j oi oj d hij hi hj hd hl;exact(hsl i j oi oj d hij hi hj hd).2 hl
theorem mQ.tpre{P:Program}{ops:List Oper}{ord:List Nat}{tr:List (List Nat)}(h:mQ P ops ord tr):∀pre i r,ord=pre++i::r->∀x∈T tr i,x∈pre:=by
 intro pre i r e x hx;have hcl:=h.tok.closed (L:=fun k=>k∈pre++[i]) (fun k o hk ho j hj=>by
  rcases JI.1 hk with hk|hk
  ·obtain⟨p1,p2,rfl⟩:=KT hk;have:=h.resp p1 k (p2++i::r) (by rw[e];simp) o ho j hj;exact JN _ (JN _ this)
  ·simp at hk;subst hk;exact JN _ (h.resp pre k r e o ho j hj)) i (by simp) x hx
 rcases JI.1 hcl with h1|h1
 ·exact h1
 ·exfalso;simp at h1;subst h1;have key:∀k x',x'∈T tr k->∀p q,ord=p++k::q->x'∈p:=by
   intro k
   induction k using Nat.strongRecOn with
   | _ k ih=>
    intro x' hx' p q ep;obtain⟨o,ho,j,hj,h'⟩:=h.tok k x' hx';have hjp:=h.resp p k q ep o ho j hj;rcases h' with rfl|⟨h1,h2⟩
    ·exact hjp
    ·obtain⟨p1,p2,rfl⟩:=KT hjp;have:=ih j h1 x' h2 p1 (p2++k::q) (by rw[ep];simp);exact JN _ this
  have:=key x x hx pre r e;have hnd:=h.nod;rw[e] at hnd;rw[J2] at hnd;exact hnd.2.2 x this x (JW ..) rfl
structure qK where
 i:Nat
 sl:List (Nat × AV)
 want:Bool
 v:AV
def BZ(tr:List (List Nat))(base n i id:Nat):Bool:=
 match Nat.ble base id && Nat.blt id (base+n) with
 | true=>mO (id-base) (T tr i)
 | false=>true
def bK(tr:List (List Nat))(base n i:Nat)(m:aA):aA:=m.filter fun p=>BZ tr base n i p.1
def cP(tr:List (List Nat))(base n i:Nat)(m:aA):aA:=m.filter fun p=>!BZ tr base n i p.1
def kF(k:Nat):aA->Bool
 | []=>false
 | p::r=>match Nat.beq p.1 k with
  | true=>true
  | false=>kF k r
theorem mA{k:Nat}:∀{m:aA},kF k m=true↔∃p∈m,p.1=k
 | []=>by simp[kF]
 | p::r=>by
  simp only[kF];cases h:Nat.beq p.1 k with
  | true=>simp[Nat.eq_of_beq_eq_true h]
  | false=>
   have:=Jk h;simp[this,mA]
def kJ(m l:aA):aA:=l.filter fun p=>!kF p.1 m
def GF(P:Program)(Γ:List (Nat × AV))(ops:List Oper)(tr:List (List Nat))(base x:Nat)(s:St):List qK->Prop
 | []=>True
 | r::rs=>(mO r.i (T tr x)=false->r.want=true->∀o,ops[r.i]? = some o->kind P o.op = .pure->still o.op=false ->
   ∃m k,aW P Γ { sl:=r.sl,mem:=bK tr base ops.length r.i s.mem,nx:=s.nx,nt:=s.nt } o.op=some (r.v,m,k))/\GF P Γ ops tr base x s rs
def hY(P:Program)(Γ:List (Nat × AV))(H:Hk)(ops:List Oper)(tr:List (List Nat))(base:Nat)(K:St->Prop)(Kp:Value->aA->Nat->Prop):List Nat->List qK->St->Prop
 | [],recs,s=>K s
 | i::r,recs,s=>match ops[i]? with
  | none=>False
  | some o=>match eR ops s o.guard with
   | none=>False
   | some false=>match bU s o.dst (.tup []) s.mem s.nx with
    | some s'=>hY P Γ H ops tr base K Kp r (⟨i,s.sl,false,.tup []⟩::recs) s'
    | none=>False
   | some true=>match kind P o.op with
    | .pure=>match aW P Γ { s with mem:=bK tr base ops.length i s.mem } o.op with
     | some (v,_,_)=>match bU s o.dst v s.mem s.nx with
      | some s'=>hY P Γ H ops tr base K Kp r (⟨i,s.sl,true,v⟩::recs) s'
      | none=>False
     | none=>False
    | .al=>match aW P Γ { s with mem:=[],nx:=base+i } o.op with
     | some (v,[(_,b)],_)=>match bU s o.dst v ((base+i,b)::s.mem) s.nx with
      | some s'=>hY P Γ H ops tr base K Kp r (⟨i,s.sl,true,v⟩::recs) s'
      | none=>False
     | _=>False
    | .eff=>match aW P Γ { s with mem:=bK tr base ops.length i s.mem } o.op with
     | some (v,m,nx)=>match bU s o.dst v (m++kJ m (cP tr base ops.length i s.mem)) nx with
      | some s'=>GF P Γ ops tr base i s' recs/\hY P Γ H ops tr base K Kp r recs s'
      | none=>False
     | none=>match fR P Γ s o.op with
      | some (F,args)=>H.call F args (bK tr base ops.length i s.mem) s.nx (fun v m nx=>match bU s o.dst v (m++kJ m (cP tr base ops.length i s.mem)) nx with
       | some s'=>GF P Γ ops tr base i s' recs/\hY P Γ H ops tr base K Kp r recs s'
       | none=>False) Kp
      | none=>False
def zH(P:Program)(Γ:List (Nat × AV))(H:Hk)(ops:List Oper)(s:St)(K:St->Prop)(Kp:Value->aA->Nat->Prop):Prop:=
 match rZ P ops (nT P ops ops.length [] (oH ops.length)) with
 | true=>hY P Γ H ops (Bs ops []) s.nx K Kp (nT P ops ops.length [] (oH ops.length)) [] { s with nx:=s.nx+ops.length }
 | false=>False
def b8(sl:List (Nat × AV)):List Nat->List (Nat × AV)
 | []=>[]
 | t::r=>match lk sl t with
  | some v=>(t,v)::b8 sl r
  | none=>b8 sl r
theorem mY{sl:List (Nat × AV)}:∀{ts:List Nat} {t:Nat} {v:AV},lk (b8 sl ts) t=some v->t∈ts/\lk sl t=some v
 | [],t,v,h=>by simp[b8,lk] at h
 | u::r,t,v,h=>by
  simp only[b8] at h;split at h
  ·rename_i x hx;simp only[lk] at h;split at h
   ·rename_i hu;have hu:=Nat.eq_of_beq_eq_true hu;subst hu;cases h;exact⟨JW ..,hx⟩
   ·obtain⟨h1,h2⟩:=mY h;exact⟨JO _ h1,h2⟩
  ·obtain⟨h1,h2⟩:=mY h;exact⟨JO _ h1,h2⟩
theorem qN{sl:List (Nat × AV)}:∀{ts:List Nat} {t:Nat},t∈ts->lk (b8 sl ts) t=lk sl t
 | u::r,t,h=>by
  simp only[b8];by_cases htu:t=u
  ·subst htu;split
   ·rename_i x hx;simp[lk,hx]
   ·rename_i hx;rw[hx];cases hl:lk (b8 sl r) t with
    | none=>rfl
    | some v=>rw[(mY hl).2] at hx;cases hx
  ·have hr:t∈r:=by
    rcases JA.1 h with h|h
    ·exact absurd h htu
    ·exact h
   split
   ·rename_i x hx;simp only[lk,aL (Ne.symm htu)];exact qN hr
   ·exact qN hr
theorem tM{ops:List Oper}{o:Oper}{t:Nat}(h:Operand.tmp t∈o.op.operands):t∈looks ops o:=by
 refine JN _ (List.mem_filterMap.2 ⟨.tmp t,by simpa using h,rfl⟩)
theorem yS{ops:List Oper}{o og:Oper}{g:Nat}{b:Bool}{d:Nat}(h:o.guard=some (g,b))(hg:ops[g]? = some og)(hd:og.dst=some d):d∈looks ops o:=by
 refine Jf _ ?_;simp[h,hg,hd]
theorem qI{Γ:List (Nat × AV)}{ops:List Oper}{o:Oper}{s s':St}(hs:s'.sl=b8 s.sl (looks ops o)):∀x∈o.op.operands,ev Γ s x=ev Γ s' x:=by
 intro x hx;cases x with
 | tmp t=>simp only[ev,hs];exact(qN (tM hx)).symm
 | const c=>rfl
 | global g=>rfl
 | func f=>rfl
theorem l8{ops:List Oper}{o:Oper}{s s':St}(hs:s'.sl=b8 s.sl (looks ops o)):eR ops s o.guard=eR ops s' o.guard:=by
 unfold eR;cases hg:o.guard with
 | none=>rfl
 | some p=>
  obtain⟨j,b⟩:=p;simp only;cases hj:ops[j]? with
  | none=>rfl
  | some oj=>
   simp only;cases hd:oj.dst with
   | none=>rfl
   | some d=>
    simp only[hs];rw[qN (yS hg hj hd)]
def uB(L:Nat->Bool)(base n id:Nat):Bool:=!(Nat.ble base id && Nat.blt id (base+n)) || L (id-base)
def b7(L:Nat->Bool)(base n:Nat)(m:aA):aA:=m.filter fun p=>uB L base n p.1
def DN(D0:Nat->Prop)(B base n:Nat)(L:Nat->Bool)(cur:Nat):Nat->Prop:=
 fun id=>D0 id∨(B<=id/\id<base)∨(∃i,id=base+i/\i<n/\L i=true)∨(base+n<=id/\id<cur)
theorem wC{tr:List (List Nat)}{base n i id:Nat}:BZ tr base n i id=true↔(base<=id/\id<base+n->id-base∈T tr i):=by
 unfold BZ;split
 ·rename_i h;rw[JE] at h;have h1:=JB h.1;have h2:id<base+n:=JB h.2;rw[eM];exact⟨fun h' _=>h',fun h'=>h' ⟨h1,h2⟩⟩
 ·rename_i h;simp only[true_iff];rintro⟨h1,h2⟩;rw[KI] at h;exfalso;rcases h with h|h
  ·rw[JD h1] at h;cases h
  ·have:Nat.blt id (base+n)=true:=JD h2;rw[this] at h;cases h
theorem c8{L:Nat->Bool}{base n id:Nat}:uB L base n id=true↔(base<=id/\id<base+n->L (id-base)=true):=by
 unfold uB;rw[KW];constructor
 ·rintro(h|h) ⟨h1,h2⟩
  ·have a1:=JD h1;have a2:Nat.blt id (base+n)=true:=JD h2;rw[a1,a2] at h;simp at h
  ·exact h
 ·intro h;by_cases h1:base<=id/\id<base+n
  ·exact .inr (h h1)
  ·left;have:(Nat.ble base id && Nat.blt id (base+n))=false:=by
    rw[KI];by_cases h2:base<=id
    ·right;cases h3:Nat.blt id (base+n) with
     | false=>rfl
     | true=>exact absurd ⟨h2,JB h3⟩ h1
    ·left;cases h3:Nat.ble base id with
     | false=>rfl
     | true=>exact absurd (JB h3) h2
   rw[this];rfl
theorem bR{m:aA}{f:Nat × AB->Bool}(h:(m.map (·.1)).Nodup):((m.filter f).map (·.1)).Nodup:=by
 induction m with
 | nil=>simp
 | cons p r ih=>
  simp only[Jg,JU] at h;rw[Kx];split
  ·simp only[Jg,JU];refine⟨fun hm=>h.1 ?_,ih h.2⟩;obtain⟨q,hq,e⟩:=JM.1 hm;exact JM.2 ⟨q,(JS.1 hq).1,e⟩
  ·exact ih h.2
theorem rG{m:aA}(h:(m.map (·.1)).Nodup){p q:Nat × AB}(hp:p∈m)(hq:q∈m)(e:p.1=q.1):p=q:=by
 induction m with
 | nil=>cases hp
 | cons x r ih=>
  simp only[Jg,JU] at h;rcases JA.1 hp with hp1|hp1<;>rcases JA.1 hq with hq1|hq1
  ·rw[hp1,hq1]
  ·exact absurd (show x.1∈r.map (·.1) from JM.2 ⟨q,hq1,by rw[←e,hp1]⟩) h.1
  ·exact absurd (show x.1∈r.map (·.1) from JM.2 ⟨p,hp1,by rw[e,hq1]⟩) h.1
  ·exact ih h.2 hp1 hq1
theorem yJ{L:Nat->Bool}{tr:List (List Nat)}{base n i:Nat}{m:aA}(hn:(m.map (·.1)).Nodup)(hT:∀j∈T tr i,L j=true) :
  kO (b7 L base n m) (bK tr base n i m) (b7 L base n (cP tr base n i m)):=by
 refine⟨fun p hp=>?_,fun p hp=>?_,fun p hp=>?_,fun p hp q hq e=>?_,bR hn⟩
 ·obtain⟨h1,h2⟩:=JS.1 hp;exact JS.2 ⟨h1,c8.2 fun h=>hT _ (wC.1 h2 h)⟩
 ·obtain⟨h1,h2⟩:=JS.1 hp;exact JS.2 ⟨(JS.1 h1).1,h2⟩
 ·obtain⟨h1,h2⟩:=JS.1 hp;cases hv:BZ tr base n i p.1 with
  | true=>exact .inl (JS.2 ⟨h1,hv⟩)
  | false=>exact .inr (JS.2 ⟨JS.2 ⟨h1,by simp[hv]⟩,h2⟩)
 ·obtain⟨h1,h2⟩:=JS.1 hp;obtain⟨h3,_⟩:=JS.1 hq;obtain⟨h4,h5⟩:=JS.1 h3;have:=rG hn h1 h4 e;subst this;rw[h2] at h5;simp at h5
structure C2(P:Program)(Γ:List (Nat × AV))(ops:List Oper)(tr:List (List Nat))(base:Nat)(s0 s:St)(r:qK)(o:Oper):Prop where
 op:ops[r.i]? = some o
 want:∀s':St,s'.sl=r.sl->eR ops s' o.guard=some r.want
 dst:∀d,o.dst=some d->d<s0.nt/\lk s.sl d=some r.v
 lookT:∀t∈looks ops o,∀j∈T tr r.i,∀oj,ops[j]? = some oj->oj.dst=some t->lk r.sl t=lk s.sl t
 look0:∀t∈looks ops o,(∀j∈T tr r.i,∀oj,ops[j]? = some oj->oj.dst≠some t)->lk r.sl t=lk s0.sl t
 no:r.want=false->r.v = .tup []
 neff:r.want=true->kind P o.op≠.eff
 noal:(r.want=false∨kind P o.op≠.al)->∀p∈s.mem,p.1≠base+r.i
 pur:r.want=true->kind P o.op = .pure->∃m k,aW P Γ { sl:=r.sl,mem:=bK tr base ops.length r.i s.mem,nx:=s.nx,nt:=s.nt } o.op=some (r.v,m,k)
 alc:r.want=true->kind P o.op = .al->∃b k k',aW P Γ { sl:=r.sl,mem:=[],nx:=base+r.i,nt:=s.nt } o.op=some (r.v,[(k,b)],k')/\(base+r.i,b)∈s.mem
structure nN(P:Program)(Γ:List (Nat × AV))(H:Hk)(ops:List Oper)(ord:List Nat)(tr:List (List Nat))(base B:Nat)(D0 X:Nat->Prop)(ds:List Deferred × Nat)(K:St->Prop)(Kp:Value->aA->Nat->Prop)(s0:St)(ρ0:Nat->a6)(w0:World)
  (L:Nat->Bool) (pre rest:List Nat) (recs:List qK) (s:St) (ρ:Nat->a6) (a:Act) (w:World):Prop where
 eq:ord=pre++rest
 run:hY P Γ H ops tr base K Kp rest recs s
 Lpre:∀i,L i=true->i∈pre
 effL:∀i∈pre,dR P ops i=true->L i=true
 clos:∀i o,L i=true->ops[i]? = some o->∀j∈d8 o,L j=true
 nx:base+ops.length<=s.nx
 nt:s.nt=s0.nt
 mr:MR Γ X ρ (DN D0 B base ops.length L s.nx) (b7 L base ops.length s.mem) w
 nod:(s.mem.map (·.1)).Nodup
 low:∀p∈s.mem,p.1<s.nx
 def0:qL (OX X ρ0 s0.mem) w0 ds a.defers
 size:a.tmps.size=s0.nt
 slotL:∀i o d v,L i=true->ops[i]? = some o->o.dst=some d->lk s.sl d=some v->VR ρ (DN D0 B base ops.length L s.nx) (OX X ρ (b7 L base ops.length s.mem)) w v (a.tmps.getD d undef)
 slot0:∀t v,(∀i o,L i=true->ops[i]? = some o->o.dst≠some t)->lk s0.sl t=some v->VR ρ (DN D0 B base ops.length L s.nx) (OX X ρ (b7 L base ops.length s.mem)) w v (a.tmps.getD t undef)
 virt0:∀t,(∀i∈pre,∀o,ops[i]? = some o->o.dst≠some t)->lk s.sl t=lk s0.sl t
 recs:∀i∈pre,L i=false->∃r∈recs,r.i=i/\∃o,C2 P Γ ops tr base s0 s r o
 alid:∀p∈s.mem,base<=p.1->p.1<base+ops.length->p.1-base∈pre
 ext:Ext D0 ρ0 s0.mem w0 ρ (DN D0 B base ops.length L s.nx) (b7 L base ops.length s.mem) w
end Go.Ax
namespace Go.Ax
open Go
theorem D1{ops:List Oper}{s s':St}(h:s'.sl=s.sl)(g:Option (Nat × Bool)):eR ops s' g=eR ops s g:=by
 unfold eR;rw[h]
theorem cW{s s':St}{d:Option Nat}{v:AV}{mem:aA}{nx:Nat}(h:bU s d v mem nx=some s') :
  s'.mem=mem/\s'.nx=nx/\s'.nt=s.nt/\(∀t,d≠some t->lk s'.sl t=lk s.sl t)/\∀t,d=some t->t<s.nt/\lk s'.sl t=some v:=by
 unfold bU at h;split at h
 ·cases h;exact⟨rfl,rfl,rfl,fun _ _=>rfl,fun t e=>by cases e⟩
 ·rename_i d';split at h
  ·rename_i hlt;have hlt:d'<s.nt:=JB hlt;cases h;refine⟨rfl,rfl,rfl,fun t e=>?_,fun t e=>?_⟩
   ·simp only[zB];rw[JJ (fun e'=>e (by rw[e']))]
   ·cases e;exact⟨hlt,by simp only[zB,if_true]⟩
  ·cases h
section
variable {P:Program} {Γ:List (Nat × AV)} {H:Hk} {ops:List Oper} {ord:List Nat} {tr:List (List Nat)} {base B:Nat} {D0 X:Nat->Prop} {ds:List Deferred × Nat} {K:St->Prop} {Kp:Value->aA->Nat->Prop} {s0:St} {ρ0:Nat->a6} {w0:World}
 {L:Nat->Bool} {pre rest:List Nat} {recs:List qK} {s:St} {ρ:Nat->a6} {a:Act} {w:World}
theorem k6(st:mQ P ops ord tr){i:Nat}{r:List Nat}(e:ord=pre++i::r):i∉pre/\i∉r/\∀k∈r,k∉pre:=by
 have hn:=st.nod;rw[e,J2] at hn;obtain⟨h1,h2,h3⟩:=hn;exact⟨fun h=>h3 i h i (JW ..) rfl,(JU.1 h2).1,fun k hk h=>h3 k h k (JO _ hk) rfl⟩
theorem yP(st:mQ P ops ord tr){i:Nat}{r:List Nat}(e:ord=pre++i::r){k:Nat}(hk:k∈pre):∀x∈T tr k,x∈pre:=by
 intro x hx;obtain⟨p1,p2,rfl⟩:=KT hk;have:=st.tpre p1 k (p2++i::r) (by rw[e];simp) x hx;exact JN _ this
theorem nN.ahead(st:mQ P ops ord tr){i:Nat}{r:List Nat}(h:nN P Γ H ops ord tr base B D0 X ds K Kp s0 ρ0 w0 L pre (i::r) recs s ρ a w)(hne:dR P ops i=false) :
  ∃recs' s',nN P Γ H ops ord tr base B D0 X ds K Kp s0 ρ0 w0 L (pre++[i]) r recs' s' ρ a w:=by
 obtain⟨hi1,hi2,hi3⟩:=k6 st h.eq;have hLi:L i=false:=by
  cases hL:L i with
  | false=>rfl
  | true=>exact absurd (h.Lpre i hL) hi1
 have hilt:i<ops.length:=st.lt i (by rw[h.eq];simp);have hrun:=h.run;simp only[hY] at hrun;split at hrun
 ·exact hrun.elim
 ·rename_i o ho;have hneff:kind P o.op≠.eff:=by
   intro e;simp[dR,ho,e] at hne
  have main:∀(want:Bool) (v:AV) (m':aA) (s':St),eR ops s o.guard=some want->bU s o.dst v m' s.nx=some s'->(want=false->v = .tup []) ->
    (m'=s.mem∨∃b,m'=(base+i,b)::s.mem/\want=true/\kind P o.op = .al/\∃k k',aW P Γ { s with mem:=[],nx:=base+i } o.op=some (v,[(k,b)],k')) ->
    (want=true->kind P o.op = .al->m'≠s.mem) ->
    (want=true->kind P o.op = .pure->m'=s.mem/\∃m k,aW P Γ { s with mem:=bK tr base ops.length i s.mem } o.op=some (v,m,k)) ->
    hY P Γ H ops tr base K Kp r (⟨i,s.sl,want,v⟩::recs) s' ->
    nN P Γ H ops ord tr base B D0 X ds K Kp s0 ρ0 w0 L (pre++[i]) r (⟨i,s.sl,want,v⟩::recs) s' ρ a w:=by
   intro want v m' s' hw hst hno hm hal hpur hr;obtain⟨e1,e2,e3,e4,e5⟩:=cW hst;have hnokey:∀p∈s.mem,p.1≠base+i:=by
    intro p hp e;have:=h.alid p hp om om;rw[e] at this;simp at this;exact hi1 this
   have hmem:b7 L base ops.length s'.mem=b7 L base ops.length s.mem:=by
    rw[e1];rcases hm with rfl|⟨b,rfl,_⟩
    ·rfl
    ·unfold b7;rw[Kx,JJ];simp only[uB];have a1:Nat.ble base (base+i)=true:=JD om;have a2:Nat.blt (base+i) (base+ops.length)=true:=JD om;rw[a1,a2];simp[hLi]
   have hseen:∀k∈pre,bK tr base ops.length k s'.mem=bK tr base ops.length k s.mem:=by
    intro k hk;rw[e1];rcases hm with rfl|⟨b,rfl,_⟩
    ·rfl
    ·unfold bK;rw[Kx,JJ];simp only;rw[Bool.not_eq_true];cases hv:BZ tr base ops.length k (base+i) with
     | false=>rfl
     | true=>
      have:=wC.1 hv ⟨om,om⟩;simp at this;exact absurd (yP st h.eq hk i this) hi1
   have hsub:∀p∈s.mem,p∈s'.mem:=by
    intro p hp;rw[e1];rcases hm with rfl|⟨b,rfl,_⟩
    ·exact hp
    ·exact JO _ hp
   have hback:∀p∈s'.mem,p∈s.mem∨p.1=base+i:=by
    intro p hp;rw[e1] at hp;rcases hm with rfl|⟨b,rfl,_⟩
    ·exact .inl hp
    ·rcases JA.1 hp with rfl|hp
     ·exact .inr rfl
     ·exact .inl hp
   have hdk:∀k ok d,k≠i->ops[k]? = some ok->ok.dst=some d->o.dst≠some d:=fun k ok d hki hok hd e=>hki (st.dst k i ok o d hok ho hd e)
   refine⟨by rw[h.eq];simp,hr,fun k hk=>JN _ (h.Lpre k hk), ?_,h.clos,by rw[e2];exact h.nx,by rw[e3];exact h.nt, ?_, ?_, ?_,h.def0,h.size, ?_, ?_, ?_, ?_, ?_, ?_⟩
   ·intro k hk he;rcases JI.1 hk with hk|hk
    ·exact h.effL k hk he
    ·simp at hk;subst hk;rw[hne] at he;cases he
   ·rw[e2,hmem];exact h.mr
   ·rw[e1];rcases hm with rfl|⟨b,rfl,_⟩
    ·exact h.nod
    ·simp only[Jg,JU];refine⟨fun hm=>?_,h.nod⟩;obtain⟨p,hp,e⟩:=JM.1 hm;exact hnokey p hp e
   ·intro p hp;rw[e2];rcases hback p hp with hp|e
    ·exact h.low p hp
    ·have:=h.nx;omega
   ·intro k ok d v' hk hok hd hl;rw[e2,hmem];have hki:k≠i:=fun e=>by rw[e,hLi] at hk;cases hk
    rw[e4 d (hdk k ok d hki hok hd)] at hl;exact h.slotL k ok d v' hk hok hd hl
   ·intro t v' ht hl;rw[e2,hmem];exact h.slot0 t v' ht hl
   ·intro t ht;rw[e4 t (ht i (by simp) o ho)];exact h.virt0 t fun k hk ok hok=>ht k (JN _ hk) ok hok
   ·intro k hk hLk;rcases JI.1 hk with hk|hk
    ·obtain⟨rc,hrc,rfl,ok,hok⟩:=h.recs k hk hLk;have hki:rc.i≠i:=fun e=>hi1 (e ▸ hk)
     refine⟨rc,JO _ hrc,rfl,ok,hok.op,hok.want,fun d hd=>?_,fun t ht j hj oj hoj hdj=>?_,hok.look0,hok.no,hok.neff,fun hc p hp=>?_,fun hw' hk'=>?_,fun hw' hk'=>?_⟩
     ·rw[e4 d (hdk _ ok d hki hok.op hd)];exact hok.dst d hd
     ·have hji:j≠i:=fun e=>hi1 (e ▸ yP st h.eq hk j hj)
      rw[e4 t (hdk j oj t hji hoj hdj)];exact hok.lookT t ht j hj oj hoj hdj
     ·rcases hback p hp with hp|e
      ·exact hok.noal hc p hp
      ·intro e';omega
     ·rw[hseen _ hk,e2,e3];exact hok.pur hw' hk'
     ·obtain⟨b,k1,k2,q1,q2⟩:=hok.alc hw' hk';exact⟨b,k1,k2,by rw[e3];exact q1,hsub _ q2⟩
    ·simp at hk;subst hk;refine⟨⟨k,s.sl,want,v⟩,JW ..,rfl,o,ho,fun s2 hs2=>?_,fun d hd=>?_,fun t ht j hj oj hoj hdj=>?_,fun t ht hnj=>?_,hno,fun _=>hneff,fun hc p hp=>?_,fun hw' hk'=>?_,fun hw' hk'=>?_⟩
     ·rw[D1 hs2];exact hw
     ·obtain⟨q1,q2⟩:=e5 d hd;exact⟨by rw[←h.nt];exact q1,q2⟩
     ·have hjk:j≠k:=fun e=>hi1 (e ▸ st.tpre pre k r h.eq j hj)
      exact(e4 t (hdk j oj t hjk hoj hdj)).symm
     ·refine h.virt0 t fun j hj oj hoj hdj=>?_
      have hjk:j≠k:=fun e=>hi1 (e ▸ hj)
      rcases st.look k j o oj t (Ne.symm hjk) ho hoj hdj ht with h1|h1
      ·exact hnj j h1 oj hoj hdj
      ·exact hi1 (yP st h.eq hj k h1)
     ·rcases hback p hp with hp|e
      ·exact hnokey p hp
      ·exfalso;rcases hm with rfl|⟨b,_,h1,h2,_⟩
       ·rw[e1] at hp;exact hnokey p hp e
       ·rcases hc with hc|hc
        ·simp only at hc;rw[h1] at hc;cases hc
        ·exact hc h2
     ·obtain⟨q1,m,k',q2⟩:=hpur hw' hk';refine⟨m,k', ?_⟩;simp only;rw[e1,q1,e2,e3];exact q2
     ·rcases hm with rfl|⟨b,rfl,h1,h2,k1,k2,q⟩
      ·exact absurd rfl (hal hw' hk')
      ·refine⟨b,k1,k2, ?_,by rw[e1];exact JW ..⟩;simp only;rw[e3];exact q
   ·intro p hp h1 h2;rcases hback p hp with hp|e
    ·exact JN _ (h.alid p hp h1 h2)
    ·rw[e];simp
   ·rw[e2,hmem];exact h.ext
  split at hrun
  ·exact hrun.elim
  ·rename_i hw;split at hrun
   ·rename_i s' hst;exact⟨_,s',main false _ s.mem s' hw hst (fun _=>rfl) (.inl rfl) (fun e=>by cases e) (fun e=>by cases e) hrun⟩
   ·exact hrun.elim
  ·rename_i hw;split at hrun
   ·rename_i hk;split at hrun
    ·rename_i v m k hstep;split at hrun
     ·rename_i s' hst;exact⟨_,s',main true v s.mem s' hw hst (fun e=>by cases e) (.inl rfl) (fun _ e=>by rw[hk] at e;cases e) (fun _ _=>⟨rfl,m,k,hstep⟩) hrun⟩
     ·exact hrun.elim
    ·exact hrun.elim
   ·rename_i hk;split at hrun
    ·rename_i v k b k' hstep;split at hrun
     ·rename_i s' hst;exact⟨_,s',main true v ((base+i,b)::s.mem) s' hw hst (fun e=>by cases e) (.inr ⟨b,rfl,rfl,hk,k,k',hstep⟩) (fun _ _ e=>by simpa using congrArg List.length e) (fun _ e=>by rw[hk] at e;cases e) hrun⟩
     ·exact hrun.elim
    ·exact hrun.elim
   ·rename_i hk;exact absurd hk hneff
theorem nN.far(st:mQ P ops ord tr):∀{rest pre:List Nat} {recs:List qK} {s:St},nN P Γ H ops ord tr base B D0 X ds K Kp s0 ρ0 w0 L pre rest recs s ρ a w ->
  ∃pre' rest' recs' s',nN P Γ H ops ord tr base B D0 X ds K Kp s0 ρ0 w0 L pre' rest' recs' s' ρ a w/\∀x r,rest'=x::r->dR P ops x=true
 | [],pre,recs,s,h=>⟨pre,[],recs,s,h,fun x r e=>by cases e⟩
 | i::r,pre,recs,s,h=>by
  cases he:dR P ops i with
  | true=>exact⟨pre,i::r,recs,s,h,fun x r' e=>by cases e;exact he⟩
  | false=>
   obtain⟨recs',s',h'⟩:=h.ahead st he;exact nN.far st h'
end
end Go.Ax
namespace Go.Ax
open Go
theorem DW{P:Program}{Γ:List (Nat × AV)}{s:St}{op:Op}(hk:kind P op = .al){v:AV}{m:aA}{n:Nat}(h:aW P Γ s op=some (v,m,n)):n=s.nx+1/\∃b,m=(s.nx,b)::s.mem:=by
 cases op<;>simp only[kind] at hk<;>first|(cases hk;done)|skip
 case alloc t=>
  simp only[aW] at h;unfold kI at h;repeat(split at h<;>first|(cases h;done)|skip)
  cases h;exact⟨rfl,_,rfl⟩
 case box t x=>
  simp only[aW] at h;split at h
  ·unfold yU at h;repeat(split at h<;>first|(cases h;done)|skip)
   cases h;exact⟨rfl,_,rfl⟩
  ·cases h
 case buildSlice t l p=>
  simp only[aW] at h;split at h
  ·unfold cR at h;repeat(split at h<;>first|(cases h;done)|skip)
   cases h;exact⟨rfl,_,rfl⟩
  ·cases h
 case makeSlice t x y=>
  simp only[aW] at h;split at h
  ·split at h
   ·unfold o8 at h;repeat(split at h<;>first|(cases h;done)|skip)
    cases h;exact⟨rfl,_,rfl⟩
   ·cases h
  ·cases h
 case makeMap t x=>
  simp only[aW] at h;split at h
  ·cases h;exact⟨rfl,_,rfl⟩
  ·cases h
 case convert src dst x=>
  exfalso;split at hk<;>cases hk
 case call c=>
  exfalso;split at hk<;>cases hk
def bX(L:Nat->Bool)(i:Nat):Nat->Bool:=fun k=>Nat.beq k i || L k
theorem dW{L:Nat->Bool}{i:Nat}:bX L i i=true:=by simp[bX]
theorem dJ{L:Nat->Bool}{i k:Nat}(h:L k=true):bX L i k=true:=by simp[bX,h]
theorem iX{L:Nat->Bool}{i k:Nat}(h:k≠i):bX L i k=L k:=by simp[bX,aL h]
theorem gB{L:Nat->Bool}{i k:Nat}:bX L i k=true↔k=i∨L k=true:=by
 by_cases h:k=i
 ·subst h;simp[bX]
 ·simp[bX,aL h,h]
theorem wO{a:Act}{d:Option Nat}{x:Value}{t:Nat}(h:d≠some t):(a.put d x).tmps.getD t undef=a.tmps.getD t undef:=by
 cases d with
 | none=>rfl
 | some d=>
  have:d≠t:=fun e=>h (by rw[e])
  simp[Act.put,Jt this]
theorem Di{a:Act}{d:Nat}{x:Value}(h:d<a.tmps.size):(a.put (some d) x).tmps.getD d undef=x:=by
 simp[Act.put,h]
section
variable {P:Program} {Γ:List (Nat × AV)} {H:Hk} {ops:List Oper} {ord:List Nat} {tr:List (List Nat)} {base B:Nat} {D0 X:Nat->Prop} {ds:List Deferred × Nat} {K:St->Prop} {Kp:Value->aA->Nat->Prop} {s0:St} {ρ0:Nat->a6} {w0:World}
 {L:Nat->Bool} {pre rest:List Nat} {recs:List qK} {s:St} {ρ ρ':Nat->a6} {a:Act} {w w':World}
theorem rX{n cur cur' i:Nat}(hc:cur<=cur'):∀id,DN D0 B base n L cur id->DN D0 B base n (bX L i) cur' id:=by
 rintro id (h|h|⟨k,h1,h2,h3⟩|⟨h1,h2⟩)
 ·exact .inl h
 ·exact .inr (.inl h)
 ·exact .inr (.inr (.inl ⟨k,h1,h2,dJ h3⟩))
 ·exact .inr (.inr (.inr ⟨h1,om⟩))
theorem q9{n i:Nat}{m:aA}(h:∀p∈m,p.1≠base+i):b7 (bX L i) base n m=b7 L base n m:=by
 unfold b7;refine List.filter_congr fun p hp=>?_
 have hp:=h p hp;cases h1:uB L base n p.1 with
 | true=>exact c8.2 fun h'=>dJ (c8.1 h1 h')
 | false=>
  cases h2:uB (bX L i) base n p.1 with
  | false=>rfl
  | true=>
   have:=c8.1 h2;rw[←h1];refine(c8.2 fun h'=>?_).symm;have h3:=this h'
   rwa [iX om] at h3
theorem nD(st:mQ P ops ord tr)(h:nN P Γ H ops ord tr base B D0 X ds K Kp s0 ρ0 w0 L pre rest recs s ρ a w){i:Nat}{o:Oper}(ho:ops[i]? = some o)(hr:∀j∈d8 o,L j=true):(∀j∈T tr i,L j=true)/\i∉T tr i:=by
 have hio:i∈ord:=st.full i (by
  rcases JK i ops.length with h'|h'
  ·exact h'
  ·rw[JH h'] at ho;cases ho)
 obtain⟨p,q,e⟩:=KT hio;have hself:i∉T tr i:=fun h'=>(k6 st e).1 (st.tpre p i q e i h')
 refine⟨fun j hj=>?_,hself⟩;have:=st.tok.closed (L:=fun k=>k=i∨L k=true) (fun k ok hk hok x hx=>by
  rcases hk with rfl|hk
  ·rw[ho] at hok;cases hok;exact .inr (hr x hx)
  ·exact .inr (h.clos k ok hk hok x hx)) i (.inl rfl) j hj
 rcases this with rfl|h'
 ·exact absurd hj hself
 ·exact h'
theorem Fx(st:mQ P ops ord tr)(h:nN P Γ H ops ord tr base B D0 X ds K Kp s0 ρ0 w0 L pre rest recs s ρ a w){k:Nat}(hk:L k=true):∀j∈T tr k,L j=true:=
 st.tok.closed (L:=fun k=>L k=true) (fun i o hi ho j hj=>h.clos i o hi ho j hj) k hk
theorem nN.small(st:mQ P ops ord tr)(h:nN P Γ H ops ord tr base B D0 X ds K Kp s0 ρ0 w0 L pre rest recs s ρ a w){r:qK}{o:Oper}(hr:C2 P Γ ops tr base s0 s r o)(hL:L r.i=false)(hrd:∀j∈d8 o,L j=true) :
  ∀t v,lk (b8 r.sl (looks ops o)) t=some v->VR ρ (DN D0 B base ops.length L s.nx) (OX X ρ (b7 L base ops.length s.mem)) w v (a.tmps.getD t undef):=by
 intro t v hl;obtain⟨ht,hl⟩:=mY hl;obtain⟨hT,_⟩:=nD st h hr.op hrd;by_cases hj:∃j∈T tr r.i,∃oj,ops[j]? = some oj/\oj.dst=some t
 ·obtain⟨j,hj,oj,hoj,hd⟩:=hj;rw[hr.lookT t ht j hj oj hoj hd] at hl;exact h.slotL j oj t v (hT j hj) hoj hd hl
 ·have hnj:∀j∈T tr r.i,∀oj,ops[j]? = some oj->oj.dst≠some t:=fun j h1 oj h2 h3=>hj ⟨j,h1,oj,h2,h3⟩
  rw[hr.look0 t ht hnj] at hl;refine h.slot0 t v (fun k ok hk hok hd=>?_) hl;have hki:r.i≠k:=fun e=>by rw[←e,hL] at hk;cases hk
  rcases st.look r.i k o ok t hki hr.op hok hd ht with h1|h1
  ·exact hnj k h1 ok hok hd
  ·have:=Fx st h hk r.i h1;rw[hL] at this;cases this
theorem nN.list(st:mQ P ops ord tr)(h:nN P Γ H ops ord tr base B D0 X ds K Kp s0 ρ0 w0 L pre rest recs s ρ a w){i:Nat}{o:Oper}(hi:i∈pre)(hL:L i=false)(ho:ops[i]? = some o)(hrd:∀j∈d8 o,L j=true)
  (hm:MR Γ X ρ' (DN D0 B base ops.length (bX L i) s.nx) (b7 (bX L i) base ops.length s.mem) w')
  (mono:∀v x,VR ρ (DN D0 B base ops.length L s.nx) (OX X ρ (b7 L base ops.length s.mem)) w v x->VR ρ' (DN D0 B base ops.length (bX L i) s.nx) (OX X ρ' (b7 (bX L i) base ops.length s.mem)) w' v x)
  (ext:Ext D0 ρ (b7 L base ops.length s.mem) w ρ' (DN D0 B base ops.length (bX L i) s.nx) (b7 (bX L i) base ops.length s.mem) w') {x:Value}
  (hd:∀d v,o.dst=some d->lk s.sl d=some v->d<s0.nt/\VR ρ' (DN D0 B base ops.length (bX L i) s.nx) (OX X ρ' (b7 (bX L i) base ops.length s.mem)) w' v x) :
  nN P Γ H ops ord tr base B D0 X ds K Kp s0 ρ0 w0 (bX L i) pre rest recs s ρ' (a.put o.dst x) w':=by
 refine⟨h.eq,h.run,fun k hk=>?_,fun k hk he=>dJ (h.effL k hk he),fun k ok hk hok j hj=>?_,h.nx,h.nt,hm,h.nod,h.low, ?_, ?_, ?_, ?_,h.virt0,fun k hk hk'=>?_,h.alid,h.ext.trans ext⟩
 ·rcases gB.1 hk with rfl|hk
  ·exact hi
  ·exact h.Lpre k hk
 ·rcases gB.1 hk with rfl|hk
  ·rw[ho] at hok;cases hok;exact dJ (hrd j hj)
  ·exact dJ (h.clos k ok hk hok j hj)
 ·cases hdd:o.dst<;>simpa[Act.put] using h.def0
 ·cases hdd:o.dst<;>simpa[Act.put] using h.size
 ·intro k ok d v hk hok hdd hl;rcases gB.1 hk with rfl|hk'
  ·rw[ho] at hok;cases hok;obtain⟨h1,h2⟩:=hd d v hdd hl;rw[hdd,Di (by rw[h.size];exact h1)];exact h2
  ·have hne:o.dst≠some d:=fun e=>by
    have:=st.dst k i ok o d hok ho hdd e;rw[this,hL] at hk';cases hk'
   rw[wO hne];exact mono _ _ (h.slotL k ok d v hk' hok hdd hl)
 ·intro t v ht hl;rw[wO (ht i o dW ho)];exact mono _ _ (h.slot0 t v (fun k ok hk hok=>ht k ok (dJ hk) hok) hl)
 ·have hki:k≠i:=fun e=>by rw[e,dW] at hk';cases hk'
  rw[iX hki] at hk';exact h.recs k hk hk'
end
end Go.Ax
namespace Go.Ax
open Go
section
variable {P:Program} {Γ:List (Nat × AV)} {H:Hk} {ops:List Oper} {ord:List Nat} {tr:List (List Nat)} {base B:Nat} {D0 X:Nat->Prop} {ds:List Deferred × Nat} {K:St->Prop} {Kp:Value->aA->Nat->Prop} {s0:St} {ρ0:Nat->a6} {w0:World}
 {L:Nat->Bool} {pre rest:List Nat} {recs:List qK} {s:St} {ρ ρ':Nat->a6} {a:Act} {w w':World}
theorem DY{n cur:Nat}(hD:∀i,D0 i->i<B)(hB:B<=base)(hc:base+n<=cur):∀id,DN D0 B base n L cur id->id<cur:=by
 rintro id (h|⟨h1,h2⟩|⟨k,h1,h2,h3⟩|⟨h1,h2⟩)
 ·have:=hD id h;omega
 ·omega
 ·omega
 ·exact h2
theorem Cf{n cur k:Nat}(hD:∀i,D0 i->i<B)(hB:B<=base)(hk:k<n)(h:DN D0 B base n L cur (base+k)):L k=true:=by
 rcases h with h|⟨h1,h2⟩|⟨j,h1,h2,h3⟩|⟨h1,h2⟩
 ·have:=hD _ h;omega
 ·omega
 ·rwa [show k=j by omega]
 ·omega
theorem gA{i:Nat}{o:Oper}(ho:ops[i]? = some o):i<ops.length:=by
 rcases JK i ops.length with h'|h'
 ·exact h'
 ·rw[JH h'] at ho;cases ho
theorem nN.step(rd:Option Nat)(st:mQ P ops ord tr)(hD:∀i,D0 i->i<B)(hB:B<=base)(h:nN P Γ H ops ord tr base B D0 X ds K Kp s0 ρ0 w0 L pre rest recs s ρ a w){i:Nat}{o:Oper}(hi:i∈pre)(hL:L i=false)(ho:ops[i]? = some o)
  (hrd:∀j∈d8 o,L j=true) (Q:Exit->Act->World->Prop) (K':Act->World->Prop)
  (hK':∀ρ' a' w',nN P Γ H ops ord tr base B D0 X ds K Kp s0 ρ0 w0 (bX L i) pre rest recs s ρ' a' w'->K' a' w') :
  if Region.wanted o (yielded ops.toArray a.tmps) then o.wpIn (FW rd) 0 P a w K' Q else K' (a.put o.dst undef) w:=by
 obtain⟨r,hrm,rfl,o',hr⟩:=h.recs i hi hL;have e:=hr.op;rw[ho] at e;cases e;have hsm:=h.small st hr hL hrd;obtain⟨hT,hself⟩:=nD st h ho hrd;have hil:=gA ho;have hp0:kO (b7 L base ops.length s.mem) [] (b7 L base ops.length s.mem):=
  ⟨fun p hp=>by simp at hp,fun p hp=>hp,fun p hp=>.inr hp,fun p hp=>by simp at hp,by simp⟩
 obtain⟨m0,v0⟩:=h.mr.part hp0;have hs0:∀nx,SR Γ (XR X ρ (b7 L base ops.length s.mem)) ds ρ (DN D0 B base ops.length L s.nx) { sl:=b8 r.sl (looks ops o),mem:=[],nx:=nx,nt:=s.nt } a w:=
  fun nx=>⟨m0,hp0.mks (h.ext.mks h.def0),by rw[h.size,←h.nt],fun t v hl=>v0 _ _ (hsm t v hl)⟩
 have hw:eR ops { sl:=b8 r.sl (looks ops o),mem:=[],nx:=0,nt:=s.nt } o.guard=some r.want:=by
  rw[←l8 (s:={ sl:=r.sl,mem:=[],nx:=0,nt:=s.nt }) (o:=o) rfl];exact hr.want _ rfl
 rw[cS (hs0 0) hw];have hsame:(r.want=false∨kind P o.op≠.al)->∀x,(∀d v,o.dst=some d->lk s.sl d=some v->d<s0.nt/\VR ρ (DN D0 B base ops.length L s.nx) (OX X ρ (b7 L base ops.length s.mem)) w v x)->K' (a.put o.dst x) w:=by
  intro hc x hd;obtain⟨w1,w2,w3⟩:=h.mr.widen (rX (cur:=s.nx) (cur':=s.nx) (i:=r.i) (JG _));have em:b7 (bX L r.i) base ops.length s.mem=b7 L base ops.length s.mem:=q9 (hr.noal hc);refine hK' ρ _ w (h.list st hi hL ho hrd (by rw[em];exact w1) (by rw[em];exact w2) (by rw[em];exact w3 D0 fun i hi=>.inl hi) fun d v hd1 hd2=>?_);rw[em];obtain⟨q1,q2⟩:=hd d v hd1 hd2;exact⟨q1,w2 _ _ q2⟩
 cases hwant:r.want with
 | false=>
  simp only[J6,if_false];refine hsame (.inl hwant) undef fun d v hd hl=>?_
  obtain⟨q1,q2⟩:=hr.dst d hd;rw[q2] at hl;cases hl;rw[hr.no hwant];exact⟨q1,kS⟩
 | true=>
  simp only[if_true];cases hk:kind P o.op with
  | eff=>exact absurd hk (hr.neff hwant)
  | pure=>
   obtain⟨m,k,hstep⟩:=hr.pur hwant hk;have hp:=yJ (base:=base) (n:=ops.length) h.nod hT;obtain⟨m1,v1⟩:=h.mr.part hp;have hs1:SR Γ (XR X ρ (b7 L base ops.length (cP tr base ops.length r.i s.mem))) ds ρ (DN D0 B base ops.length L s.nx) { sl:=b8 r.sl (looks ops o),mem:=bK tr base ops.length r.i s.mem,nx:=s.nx,nt:=s.nt } a w:=
    ⟨m1,hp.mks (h.ext.mks h.def0),by rw[h.size,←h.nt],fun t v hl=>v1 _ _ (hsm t v hl)⟩
   rw[kD (s:={ sl:=r.sl,mem:=bK tr base ops.length r.i s.mem,nx:=s.nx,nt:=s.nt }) (s':={ sl:=b8 r.sl (looks ops o),mem:=bK tr base ops.length r.i s.mem,nx:=s.nx,nt:=s.nt }) (qI (ops:=ops) (o:=o) rfl) rfl rfl] at hstep;obtain⟨_,_,x,e1,e2⟩:=zD hs1 o hk hstep;refine g7 (nX hstep) e1 ?_;simp only[Oper.uponIn];refine hsame (.inr (by rw[hk];intro e;cases e)) x fun d v hd hl=>?_
   obtain⟨q1,q2⟩:=hr.dst d hd;rw[q2] at hl;cases hl;exact⟨q1,e2.mono (fun _ _=>rfl) (fun _ h=>h) fun b _ hb=>⟨fun h'=>hb ((hp.own b).2 h'),rfl⟩⟩
  | al=>
   obtain⟨b,k,k',hstep,hbm⟩:=hr.alc hwant hk;rw[kD (s:={ sl:=r.sl,mem:=[],nx:=base+r.i,nt:=s.nt }) (s':={ sl:=b8 r.sl (looks ops o),mem:=[],nx:=base+r.i,nt:=s.nt }) (qI (ops:=ops) (o:=o) rfl) rfl rfl] at hstep;obtain⟨e1,b',e2⟩:=DW hk hstep;simp only at e1 e2;simp at e2;obtain⟨⟨rfl,rfl⟩⟩:=e2;obtain⟨x,n,w',ρ',r1,r2,r3,r4,r5,r6⟩:=fK (P:=P) (D':=DN D0 B base ops.length (bX L r.i) s.nx)
    (fun h'=>by have:=Cf hD hB hil h';rw[hL] at this;cases this) (rX (JG _)) (hs0 (base+r.i)) o (fun _=>.inr (.inr (.inl ⟨r.i,rfl,hil,dW⟩))) hstep
   have hnok:∀q∈b7 L base ops.length s.mem,q.1≠base+r.i:=by
    intro q hq e;have:=c8.1 (JS.1 hq).2 ⟨om,om⟩;rw[show q.1-base=r.i by omega,hL] at this;cases this
   obtain⟨j1,j2,j3,j4⟩:=h.mr.join hp0 r3 (r6 _ fun i hi=>hi) (fun p hp=>hp) (fun p hp q hq=>by
    simp at hp;subst hp;exact Ne.symm (hnok q hq)) (bR h.nod)
   obtain⟨l1,l2,l3⟩:=j1.less (mem':=b7 (bX L r.i) base ops.length s.mem) (fun p hp=>by
    obtain⟨p1,p2⟩:=JS.1 hp;by_cases hpe:p.1=base+r.i
    ·have:=rG h.nod p1 hbm hpe;rw[this];simp
    ·refine Jf _ (JS.2 ⟨p1,c8.2 fun h'=>?_⟩);have:=c8.1 p2 h'
     rwa [iX om] at this) (bR h.nod)
   have fin:K' (a.put o.dst x) w':=by
    refine hK' ρ' _ w' (h.list st hi hL ho hrd l1 (fun v y hv=>l2 _ _ (j3 _ _ hv)) ((j4 D0 fun i hi=>.inl hi).trans (l3 D0 fun i hi=>.inl hi)) fun d v hd hl=>?_);obtain⟨q1,q2⟩:=hr.dst d hd;rw[q2] at hl;cases hl;exact⟨q1,l2 _ _ (j2 _ _ r4)⟩
   refine g7 (nX hstep) r1 ?_;rcases r2 with rfl|⟨rfl,rfl⟩
   ·exact fin
   ·exact fin
theorem nN.head(st:mQ P ops ord tr){i:Nat}{r:List Nat}(h:nN P Γ H ops ord tr base B D0 X ds K Kp s0 ρ0 w0 L pre (i::r) recs s ρ a w){o:Oper}(ho:ops[i]? = some o)(hrd:∀j∈d8 o,L j=true)
  (he:dR P ops i=true) {recs':List qK} {s':St} {v:AV} {x:Value} {m':aA} {nx':Nat} (hsub:∀c∈recs,c∈recs') (hst:bU s o.dst v m' nx'=some s') (hrun:hY P Γ H ops tr base K Kp r recs' s') (hnx:s.nx<=nx')
  (c1:(m'.map (·.1)).Nodup) (c2:∀p∈m',p.1<nx') (c3:∀p∈m',base<=p.1->p.1<base+ops.length->bX L i (p.1-base)=true∨p∈s.mem)
  (c4:∀p∈s.mem,base<=p.1->p.1<base+ops.length->bX L i (p.1-base)=false->p∈m')
  (hm:MR Γ X ρ' (DN D0 B base ops.length (bX L i) nx') (b7 (bX L i) base ops.length m') w')
  (mono:∀v x,VR ρ (DN D0 B base ops.length L s.nx) (OX X ρ (b7 L base ops.length s.mem)) w v x->VR ρ' (DN D0 B base ops.length (bX L i) nx') (OX X ρ' (b7 (bX L i) base ops.length m')) w' v x)
  (ext:Ext D0 ρ (b7 L base ops.length s.mem) w ρ' (DN D0 B base ops.length (bX L i) nx') (b7 (bX L i) base ops.length m') w')
  (hv:VR ρ' (DN D0 B base ops.length (bX L i) nx') (OX X ρ' (b7 (bX L i) base ops.length m')) w' v x)
  (c6:∀c∈recs,c.i∉T tr i->∀oc,C2 P Γ ops tr base s0 s c oc->c.want=true->kind P oc.op = .pure->∃m k,aW P Γ { sl:=c.sl,mem:=bK tr base ops.length c.i s'.mem,nx:=s'.nx,nt:=s'.nt } oc.op=some (c.v,m,k)) :
  nN P Γ H ops ord tr base B D0 X ds K Kp s0 ρ0 w0 (bX L i) (pre++[i]) r recs' s' ρ' (a.put o.dst x) w':=by
 obtain⟨hi1,hi2,hi3⟩:=k6 st h.eq;have hLi:L i=false:=by
  cases hL:L i with
  | false=>rfl
  | true=>exact absurd (h.Lpre i hL) hi1
 obtain⟨hT,hself⟩:=nD st h ho hrd;obtain⟨e1,e2,e3,e4,e5⟩:=cW hst;have hdk:∀k ok d,k≠i->ops[k]? = some ok->ok.dst=some d->o.dst≠some d:=fun k ok d hki hok hd e=>hki (st.dst k i ok o d hok ho hd e)
 have hne:∀k∈pre,k≠i:=fun k hk e=>hi1 (e ▸ hk)
 refine⟨by rw[h.eq];simp,hrun,fun k hk=>?_,fun k hk he'=>?_,fun k ok hk hok j hj=>?_,by rw[e2];exact Jh h.nx hnx,by rw[e3];exact h.nt,by rw[e1,e2];exact hm,by rw[e1];exact c1,by rw[e1,e2];exact c2, ?_, ?_, ?_, ?_, ?_, ?_, ?_,by rw[e1,e2];exact h.ext.trans ext⟩
 ·rcases gB.1 hk with rfl|hk
  ·simp
  ·exact JN _ (h.Lpre k hk)
 ·rcases JI.1 hk with hk|hk
  ·exact dJ (h.effL k hk he')
  ·simp at hk;subst hk;exact dW
 ·rcases gB.1 hk with rfl|hk
  ·rw[ho] at hok;cases hok;exact dJ (hrd j hj)
  ·exact dJ (h.clos k ok hk hok j hj)
 ·cases hdd:o.dst<;>simpa[Act.put] using h.def0
 ·cases hdd:o.dst<;>simpa[Act.put] using h.size
 ·intro k ok d u hk hok hdd hl;rw[e1,e2];rcases gB.1 hk with rfl|hk'
  ·rw[ho] at hok;cases hok;obtain⟨q1,q2⟩:=e5 d hdd;rw[q2] at hl;cases hl;rw[hdd,Di (by rw[h.size,←h.nt];exact q1)];exact hv
  ·have hn:=hdk k ok d (hne k (h.Lpre k hk')) hok hdd;rw[wO hn];rw[e4 d hn] at hl;exact mono _ _ (h.slotL k ok d u hk' hok hdd hl)
 ·intro t u ht hl;rw[e1,e2,wO (ht i o dW ho)];exact mono _ _ (h.slot0 t u (fun k ok hk hok=>ht k ok (dJ hk) hok) hl)
 ·intro t ht;rw[e4 t (ht i (by simp) o ho)];exact h.virt0 t fun k hk ok hok=>ht k (JN _ hk) ok hok
 ·intro k hk hLk;have hki:k≠i:=fun e=>by rw[e,dW] at hLk;cases hLk
  have hLk':L k=false:=by rwa [iX hki] at hLk
  have hkp:k∈pre:=by
   rcases JI.1 hk with hk|hk
   ·exact hk
   ·simp at hk;exact absurd hk hki
  obtain⟨rc,hrc,rfl,ok,hok⟩:=h.recs k hkp hLk';have hnT:rc.i∉T tr i:=fun h'=>by have:=hT _ h';rw[hLk'] at this;cases this
  have hrl:=gA hok.op;refine⟨rc,hsub _ hrc,rfl,ok,hok.op,hok.want,fun d hd=>?_,fun t ht j hj oj hoj hdj=>?_,hok.look0,hok.no,hok.neff,fun hc p hp e=>?_,fun hw' hk'=>?_,fun hw' hk'=>?_⟩
  ·rw[e4 d (hdk _ ok d hki hok.op hd)];exact hok.dst d hd
  ·rw[e4 t (hdk j oj t (hne j (yP st h.eq hkp j hj)) hoj hdj)];exact hok.lookT t ht j hj oj hoj hdj
  ·rw[e1] at hp;rcases c3 p hp om om with h1|h1
   ·rw[show p.1-base=rc.i by omega,hLk] at h1;cases h1
   ·exact hok.noal hc p h1 e
  ·exact c6 rc hrc hnT ok hok hw' hk'
  ·obtain⟨b,k1,k2,q1,q2⟩:=hok.alc hw' hk';refine⟨b,k1,k2,by rw[e3];exact q1, ?_⟩;rw[e1];refine c4 _ q2 (by simp) (by simp;exact hrl) ?_;simpa using hLk
 ·intro p hp h1 h2;rw[e1] at hp;rcases c3 p hp h1 h2 with h3|h3
  ·rcases gB.1 h3 with h3|h3
   ·rw[h3];simp
   ·exact JN _ (h.Lpre _ h3)
  ·exact JN _ (h.alid p h3 h1 h2)
end
end Go.Ax
namespace Go.Ax
open Go
theorem yE{m l:aA}:∀p∈kJ m l,p∈l:=fun p hp=>(JS.1 hp).1
theorem y9{m l:aA}:∀p∈m,∀q∈kJ m l,p.1≠q.1:=by
 intro p hp q hq e;have:=(JS.1 hq).2;rw[mA.2 ⟨p,hp,e⟩] at this;cases this
theorem BH{P:Program}{Γ:List (Nat × AV)}{ops:List Oper}{tr:List (List Nat)}{base x:Nat}{s:St}:∀{recs:List qK},GF P Γ ops tr base x s recs->∀c∈recs,c.i∉T tr x->c.want=true ->
  ∀o,ops[c.i]? = some o->kind P o.op = .pure->still o.op=false->∃m k,aW P Γ { sl:=c.sl,mem:=bK tr base ops.length c.i s.mem,nx:=s.nx,nt:=s.nt } o.op=some (c.v,m,k)
 | [],h,c,hc,_,_,_,_,_,_=>by simp at hc
 | r::rs,h,c,hc,h1,h2,o,ho,hk,hs=>by
  obtain⟨h',h⟩:=h;rcases JA.1 hc with rfl|hc
  ·refine h' ?_ h2 o ho hk hs;cases hm:mO c.i (T tr x) with
   | false=>rfl
   | true=>exact absurd (eM.1 hm) h1
  ·exact BH h c hc h1 h2 o ho hk hs
def tC(t:Nat):List Oper->Bool
 | []=>false
 | o::r=>match o.dst with
  | some d=>match Nat.beq d t with
   | true=>true
   | false=>tC t r
  | none=>tC t r
def lX(ops:List Oper):List (Nat × AV)->List (Nat × AV)
 | []=>[]
 | (t,v)::r=>match tC t ops with
  | true=>lX ops r
  | false=>(t,v)::lX ops r
theorem o9{t:Nat}:∀{ops:List Oper},tC t ops=false->∀(i:Nat) (o:Oper),ops[i]? = some o->o.dst≠some t
 | [],_,i,o,h=>by simp at h
 | p::r,h,i,o,ho=>by
  simp only[tC] at h;have key:tC t r=false/\p.dst≠some t:=by
   split at h
   ·rename_i d hd;split at h
    ·cases h
    ·rename_i hb;exact⟨h,by rw[hd];intro e;cases e;exact Jk hb rfl⟩
   ·rename_i hd;exact⟨h,by rw[hd];intro e;cases e⟩
  cases i with
  | zero=>simp at ho;subst ho;exact key.2
  | succ i=>exact o9 key.1 i o (by simpa using ho)
theorem s8{ops:List Oper}:∀{sl:List (Nat × AV)} {t:Nat} {v:AV},lk (lX ops sl) t=some v->lk sl t=some v/\tC t ops=false
 | [],t,v,h=>by simp[lX,lk] at h
 | (i,u)::r,t,v,h=>by
  simp only[lX] at h;split at h
  ·rename_i hd;obtain⟨h1,h2⟩:=s8 h;refine⟨?_,h2⟩;simp only[lk];split
   ·rename_i e;rw[Nat.eq_of_beq_eq_true e] at hd;rw[hd] at h2;cases h2
   ·exact h1
  ·rename_i hd;simp only[lk] at h ⊢;split at h
   ·rename_i e;rw[Nat.eq_of_beq_eq_true e] at hd;exact⟨h,hd⟩
   ·exact s8 h
section
variable {P:Program} {Γ:List (Nat × AV)} {H:Hk} {ops:List Oper} {ord:List Nat} {tr:List (List Nat)} {base B:Nat} {D0 X:Nat->Prop} {ds:List Deferred × Nat} {K:St->Prop} {Kp:Value->aA->Nat->Prop} {s0:St} {ρ0:Nat->a6} {w0:World}
 {L:Nat->Bool} {pre rest:List Nat} {recs:List qK} {s:St} {ρ ρ':Nat->a6} {a:Act} {w w':World}
theorem nN.now(rd:Option Nat)(st:mQ P ops ord tr)(hH:mX P Γ B H)(hD:∀i,D0 i->i<B)(hB:B<=base){i:Nat}{r:List Nat}(h:nN P Γ H ops ord tr base B D0 X ds K Kp s0 ρ0 w0 L pre (i::r) recs s ρ a w){o:Oper}(ho:ops[i]? = some o)(hrd:∀j∈d8 o,L j=true)
  (he:dR P ops i=true) (Q:Exit->Act->World->Prop) (K':Act->World->Prop)
  (hK':∀pre' rest' recs' s' ρ' a' w',nN P Γ H ops ord tr base B D0 X ds K Kp s0 ρ0 w0 (bX L i) pre' rest' recs' s' ρ' a' w'->K' a' w')
  (hP:∀(x:Value) (m':aA) (nx':Nat) (ρ':Nat->a6) (w':World),Kp x m' nx'->B<=nx'->SR Γ X ds ρ' (dn D0 B nx') ⟨lX ops s0.sl,m',nx',s0.nt⟩ a w'->Ext D0 ρ0 s0.mem w0 ρ' (dn D0 B nx') m' w'->Q (.panic [pe x]) a w') :
  if Region.wanted o (yielded ops.toArray a.tmps) then o.wpIn (FW rd) 0 P a w K' Q else K' (a.put o.dst undef) w:=by
 obtain⟨hi1,hi2,hi3⟩:=k6 st h.eq;have hLi:L i=false:=by
  cases hL:L i with
  | false=>rfl
  | true=>exact absurd (h.Lpre i hL) hi1
 obtain⟨hT,hself⟩:=nD st h ho hrd;have hil:=gA ho;have hkind:kind P o.op = .eff:=by
  simp only[dR,ho] at he;split at he
  ·assumption
  ·cases he
 have hp:=yJ (base:=base) (n:=ops.length) h.nod hT;obtain⟨m1,v1⟩:=h.mr.part hp;have hsm:∀t v,lk (b8 s.sl (looks ops o)) t=some v->VR ρ (DN D0 B base ops.length L s.nx) (OX X ρ (b7 L base ops.length s.mem)) w v (a.tmps.getD t undef):=by
  intro t v hl;obtain⟨ht,hl⟩:=mY hl;by_cases hj:∃j∈pre,∃oj,ops[j]? = some oj/\oj.dst=some t
  ·obtain⟨j,hj,oj,hoj,hd⟩:=hj;rcases st.look i j o oj t (fun e=>hi1 (e ▸ hj)) ho hoj hd ht with h1|h1
   ·exact h.slotL j oj t v (hT j h1) hoj hd hl
   ·exact absurd (yP st h.eq hj i h1) hi1
  ·have hnj:∀j∈pre,∀oj,ops[j]? = some oj->oj.dst≠some t:=fun j h1 oj h2 h3=>hj ⟨j,h1,oj,h2,h3⟩
   rw[h.virt0 t hnj] at hl;exact h.slot0 t v (fun k ok hk hok=>hnj k (h.Lpre k hk) ok hok) hl
 have hs1:SR Γ (XR X ρ (b7 L base ops.length (cP tr base ops.length i s.mem))) ds ρ (DN D0 B base ops.length L s.nx) { sl:=b8 s.sl (looks ops o),mem:=bK tr base ops.length i s.mem,nx:=s.nx,nt:=s.nt } a w:=
  ⟨m1,hp.mks (h.ext.mks h.def0),by rw[h.size,←h.nt],fun t v hl=>v1 _ _ (hsm t v hl)⟩
 have hnokey:∀p∈s.mem,p.1≠base+i:=by
  intro p hp' e;have:=h.alid p hp' om om;rw[e] at this;simp at this;exact hi1 this
 have behind:∀(v:AV) (x:Value) (m:aA) (nx':Nat) (s':St) (ρ':Nat->a6) (w':World),bU s o.dst v (m++kJ m (cP tr base ops.length i s.mem)) nx'=some s'->GF P Γ ops tr base i s' recs ->
   hY P Γ H ops tr base K Kp r recs s'->s.nx<=nx'->MR Γ (XR X ρ (b7 L base ops.length (cP tr base ops.length i s.mem))) ρ' (DN D0 B base ops.length (bX L i) nx') m w' ->
   VR ρ' (DN D0 B base ops.length (bX L i) nx') (OX (XR X ρ (b7 L base ops.length (cP tr base ops.length i s.mem))) ρ' m) w' v x ->
   Ext (DN D0 B base ops.length L s.nx) ρ (bK tr base ops.length i s.mem) w ρ' (DN D0 B base ops.length (bX L i) nx') m w'->K' (a.put o.dst x) w':=by
  intro v x m nx' s' ρ' w' hst hchk hrun hnx hm hv hext;have eL:∀l:aA,(∀p∈l,p∈s.mem)->b7 (bX L i) base ops.length l=b7 L base ops.length l:=fun l hl=>q9 fun p hp'=>hnokey p (hl p hp')
  have hun:∀p∈kJ m (cP tr base ops.length i s.mem),p∈s.mem:=fun p hp'=>(JS.1 (yE p hp')).1
  obtain⟨j1,j2,j3,j4⟩:=h.mr.join hp hm hext (rest':=b7 (bX L i) base ops.length (kJ m (cP tr base ops.length i s.mem)))
   (fun p hp'=>by
    rw[eL _ hun] at hp';obtain⟨q1,q2⟩:=JS.1 hp';exact JS.2 ⟨yE p q1,q2⟩)
   (fun p hp' q hq=>y9 p hp' q (JS.1 hq).1) (bR (bR (bR h.nod)))
  have hnod:((m++kJ m (cP tr base ops.length i s.mem)).map (·.1)).Nodup:=by
   rw[Jq,J2];refine⟨hm.nod,bR (bR h.nod),fun p hp' q hq=>?_⟩;obtain⟨p',hp1,rfl⟩:=JM.1 hp';obtain⟨q',hq1,rfl⟩:=JM.1 hq;exact y9 p' hp1 q' hq1
  obtain⟨l1,l2,l3⟩:=j1.less (mem':=b7 (bX L i) base ops.length (m++kJ m (cP tr base ops.length i s.mem))) (fun p hp'=>by
   obtain⟨q1,q2⟩:=JS.1 hp';rcases JI.1 q1 with q1|q1
   ·exact JN _ q1
   ·exact Jf _ (JS.2 ⟨q1,q2⟩)) (bR hnod)
  have hcur:base+ops.length<=nx':=Jh h.nx hnx;refine hK' _ _ _ _ ρ' _ w' (h.head st ho hrd he (fun c hc=>hc) hst hrun hnx hnod ?_ ?_ ?_ l1 (fun u y hu=>l2 _ _ (j3 _ _ hu)) ((j4 D0 fun i hi=>.inl hi).trans (l3 D0 fun i hi=>.inl hi)) (l2 _ _ (j2 _ _ hv)) ?_)
  ·intro p hp';rcases JI.1 hp' with hp'|hp'
   ·exact DY hD hB hcur _ (hm.low p hp')
   ·have:=h.low p (hun p hp');omega
  ·intro p hp' h1 h2;rcases JI.1 hp' with hp'|hp'
   ·left;have:=hm.low p hp';rw[show p.1=base+(p.1-base) by omega] at this;exact Cf hD hB om this
   ·exact .inr (hun p hp')
  ·intro p hp' h1 h2 h3;refine Jf _ (JS.2 ⟨JS.2 ⟨hp', ?_⟩, ?_⟩)
   ·cases hv:BZ tr base ops.length i p.1 with
    | false=>rfl
    | true=>
     have:=hT _ (wC.1 hv ⟨h1,h2⟩);rw[dJ this] at h3;cases h3
   ·cases hh:kF p.1 m with
    | false=>rfl
    | true=>
     obtain⟨q,hq,e⟩:=mA.1 hh;have:=hm.low q hq;rw[e,show p.1=base+(p.1-base) by omega] at this;have:=Cf hD hB om this;rw[h3] at this;cases this
  ·intro c hc hcT oc hoc hw hk;cases hst':still oc.op with
   | false=>exact BH hchk c hc hcT hw oc hoc.op hk hst'
   | true=>
    obtain⟨m,k,q⟩:=hoc.pur hw hk;exact j0 (s:={ sl:=c.sl,mem:=bK tr base ops.length c.i s.mem,nx:=s.nx,nt:=s.nt }) (s':={ sl:=c.sl,mem:=bK tr base ops.length c.i s'.mem,nx:=s'.nx,nt:=s'.nt }) hst' rfl q
 have hrun:=h.run;simp only[hY,ho] at hrun;split at hrun
 ·exact hrun.elim
 ·rename_i hw;rw[l8 (s':={ sl:=b8 s.sl (looks ops o),mem:=bK tr base ops.length i s.mem,nx:=s.nx,nt:=s.nt }) (o:=o) rfl] at hw;rw[cS hs1 hw];simp only[J6,if_false];split at hrun
  ·rename_i s' hst;obtain⟨w1,w2,w3⟩:=h.mr.widen (rX (cur:=s.nx) (cur':=s.nx) (i:=i) (JG _));have em:b7 (bX L i) base ops.length s.mem=b7 L base ops.length s.mem:=q9 hnokey;obtain⟨e1,e2,e3,e4,e5⟩:=cW hst;refine hK' _ _ _ _ ρ _ w (h.head st ho hrd he (fun c hc=>JO _ hc) hst hrun (JG _) h.nod h.low (fun p hp' _ _=>.inr hp') (fun p hp' _ _ _=>hp') (by rw[em];exact w1) (by rw[em];exact w2) (by rw[em];exact w3 D0 fun i hi=>.inl hi) kS ?_);intro c hc hcT oc hoc hw hk;rw[e1,e2,e3];exact hoc.pur hw hk
  ·exact hrun.elim
 ·rename_i hw;rw[l8 (s':={ sl:=b8 s.sl (looks ops o),mem:=bK tr base ops.length i s.mem,nx:=s.nx,nt:=s.nt }) (o:=o) rfl] at hw;rw[cS hs1 hw];simp only[if_true];simp only[hkind] at hrun;split at hrun
  ·rename_i v m nx' hstep;split at hrun
   ·rename_i s' hst;obtain⟨hchk,hrun⟩:=hrun
    ·rw[kD (s:={ s with mem:=bK tr base ops.length i s.mem }) (s':={ sl:=b8 s.sl (looks ops o),mem:=bK tr base ops.length i s.mem,nx:=s.nx,nt:=s.nt }) (qI (ops:=ops) (o:=o) rfl) rfl rfl] at hstep;have hnx:s.nx<=nx':=by have h':=mW hstep;dsimp only at h';omega
     obtain⟨x,n,w',ρ',r1,r2,r3,r4,r5,r6⟩:=fK (P:=P) (s:={ sl:=b8 s.sl (looks ops o),mem:=bK tr base ops.length i s.mem,nx:=s.nx,nt:=s.nt }) (D':=DN D0 B base ops.length (bX L i) nx')
      (fun h'=>KG _ (DY hD hB h.nx _ h')) (rX hnx) hs1 o (fun(e:nx'=s.nx+1)=>.inr (.inr (.inr ⟨h.nx,by rw[e];exact J9 _⟩))) hstep
     have fin:=behind v x m nx' s' ρ' w' hst hchk hrun hnx r3 r4 (r6 _ fun i hi=>hi);refine g7 (nX hstep) r1 ?_;rcases r2 with rfl|⟨rfl,rfl⟩
     ·exact fin
     ·exact fin
   ·exact hrun.elim
  ·split at hrun
   ·rename_i F args hcall;rw[kE (s:=s) (s':={ sl:=b8 s.sl (looks ops o),mem:=bK tr base ops.length i s.mem,nx:=s.nx,nt:=s.nt }) (qI (ops:=ops) (o:=o) rfl)] at hcall;obtain⟨vs,r1,hvs⟩:=pH (P:=P) hs1 o hcall;refine tV (yG hcall) r1 ?_;refine((hH.call _ _ _ _ _ _ hrun).run _ _ ρ w vs (DY hD hB h.nx) m1 hvs).mono ?_;rintro e w' ⟨mem',nx',ρ',hnx,m2,ext2,hres⟩;have hwd:∀id,dn (DN D0 B base ops.length L s.nx) s.nx nx' id->DN D0 B base ops.length (bX L i) nx' id:=by
     rintro id (h1|⟨h1,h2⟩)
     ·exact rX hnx id h1
     ·exact .inr (.inr (.inr ⟨Jh h.nx h1,h2⟩))
    rcases hres with⟨rv,v,rfl,hq,v2⟩|⟨x,rfl,hq⟩
    ·obtain⟨m3,mono3,_⟩:=m2.widen hwd;split at hq
     ·rename_i s' hst;exact behind rv v mem' nx' s' ρ' w' hst hq.1 hq.2 hnx m3 (mono3 _ _ v2) (ext2.wide hwd)
     ·exact hq.elim
    ·have hdn:∀id,dn (DN D0 B base ops.length L s.nx) s.nx nx' id->dn D0 B nx' id:=by
      have:=h.nx;rintro id ((h1|⟨h1,h2⟩|⟨k,h1,h2,h3⟩|⟨h1,h2⟩)|⟨h1,h2⟩)
      ·exact .inl h1
      ·exact .inr ⟨h1,om⟩
      ·exact .inr ⟨om,om⟩
      ·exact .inr ⟨om,om⟩
      ·exact .inr ⟨om,h2⟩
     obtain⟨m3,mono3,_⟩:=m2.widen hdn;obtain⟨j1,j2,j3,j4⟩:=h.mr.join hp m3 (ext2.wide hdn) (rest':=[]) (fun p hp'=>by cases hp') (fun p hp' q hq'=>by cases hq') (by simp);rw[KZ] at j1 j2 j3 j4;refine hP x mem' nx' ρ' w' hq (by have:=h.nx;omega) ⟨j1,(h.ext.trans (j4 D0 fun i hi=>.inl hi)).mks h.def0,h.size,fun t v hl=>?_⟩ (h.ext.trans (j4 D0 fun i hi=>.inl hi));obtain⟨hl1,hl2⟩:=s8 hl;exact j3 _ _ (h.slot0 t v (fun k ok hk hok=>o9 hl2 k ok hok) hl1)
   ·exact hrun.elim
end
def CY(L:Nat->Bool):Nat->Nat
 | 0=>0
 | n+1=>CY L n+(if L n then 0 else 1)
theorem xW{L:Nat->Bool}{i:Nat}:∀{n:Nat},n<=i->CY (bX L i) n=CY L n
 | 0,_=>rfl
 | n+1,h=>by
  simp only[CY];rw[xW om,iX om]
theorem BQ{L:Nat->Bool}{i:Nat}(hL:L i=false):∀{n:Nat},i<n->CY (bX L i) n+1=CY L n
 | n+1,h=>by
  simp only[CY];by_cases hi:i=n
  ·subst hi;rw[xW (JG _),dW,hL];simp
  ·rw[iX (Ne.symm hi),←BQ hL (n:=n) om];omega
theorem xI{L:Nat->Bool}:∀{n:Nat},CY L n=0->∀i,i<n->L i=true
 | n+1,h,i,hi=>by
  simp only[CY] at h;by_cases hn:i=n
  ·subst hn;cases hL:L i with
   | true=>rfl
   | false=>rw[hL] at h;simp at h
  ·exact xI (n:=n) om i om
section
variable {P:Program} {Γ:List (Nat × AV)} {H:Hk} {ops:List Oper} {ord:List Nat} {tr:List (List Nat)} {base B:Nat} {D0 X:Nat->Prop} {ds:List Deferred × Nat} {K:St->Prop} {Kp:Value->aA->Nat->Prop} {s0:St} {ρ0:Nat->a6} {w0:World}
theorem uS{ops:List Oper}{listed:Array Bool}{L:Nat->Bool}(hsz:listed.size=ops.length)(hl:∀k,k<ops.length->listed[k]? = some (L k))(hout:∀k,L k=true->k<ops.length){i:Nat}(hi:i∈Region.ready .any ops.toArray listed) :
  ∃o,ops[i]? = some o/\L i=false/\∀j∈d8 o,L j=true:=by
 simp only[Region.ready,JS,KN,LB,JE] at hi;obtain⟨h1,h2,h3⟩:=hi;have ho:ops[i]? = some ops[i]:=by simp[h1]
 refine⟨ops[i],ho, ?_,fun j hj=>?_⟩
 ·have:=hl i h1;simp only[Jl,this,Kh] at h2;simpa using h2
 ·simp only[J1,ho,Jv,Kh,Array.all_eq_true] at h3;simp only[d8,JM,JS,Kz] at hj;obtain⟨e,⟨he1,he2⟩,rfl⟩:=hj;obtain⟨k,hk,rfl⟩:=KJ.1 he1;have:=h3 k hk;rw[he2] at this;simp only[Bool.not_true,Bool.false_or] at this;rcases JK (ops[i].after[k].on) ops.length with hlt|hge
  ·have h4:=hl _ hlt;simp only[Jl,h4,Kh] at this;exact this
  ·have hge':listed.size<=ops[i].after[k].on:=om;simp[hge'] at this
theorem nN.main(rd:Option Nat)(st:mQ P ops ord tr)(hH:mX P Γ B H)(hD:∀i,D0 i->i<B)(hB:B<=base)(Q:Exit->Act->World->Prop)
  (hQ:∀(s':St) (ρ':Nat->a6) (a':Act) (w':World),K s'->B<=s'.nx->SR Γ X ds ρ' (dn D0 B s'.nx) s' a' w'->Ext D0 ρ0 s0.mem w0 ρ' (dn D0 B s'.nx) s'.mem w'->Q .normal a' w')
  (hP:∀(x:Value) (m':aA) (nx':Nat) (ρ':Nat->a6) (a':Act) (w':World),Kp x m' nx'->B<=nx'->SR Γ X ds ρ' (dn D0 B nx') ⟨lX ops s0.sl,m',nx',s0.nt⟩ a' w'->Ext D0 ρ0 s0.mem w0 ρ' (dn D0 B nx') m' w'->Q (.panic [pe x]) a' w') :
  ∀(fuel:Nat) (listed:Array Bool) (L:Nat->Bool) (pre rest:List Nat) (recs:List qK) (s:St) (ρ:Nat->a6) (a:Act) (w:World),CY L ops.length<=fuel->listed.size=ops.length->(∀k,k<ops.length->listed[k]? = some (L k)) ->
   nN P Γ H ops ord tr base B D0 X ds K Kp s0 ρ0 w0 L pre rest recs s ρ a w->wpAnyIn (FW rd) 0 P .any ops.toArray Q fuel listed a w:=by
 have done:∀(L:Nat->Bool) (pre rest:List Nat) (recs:List qK) (s:St) (ρ:Nat->a6) (a:Act) (w:World),(∀i,i<ops.length->L i=true) ->
   nN P Γ H ops ord tr base B D0 X ds K Kp s0 ρ0 w0 L pre rest recs s ρ a w->Q .normal a w:=by
  intro L pre rest recs s ρ a w hall h;have hrest:rest=[]:=by
   cases hr:rest with
   | nil=>rfl
   | cons i r=>
    rw[hr] at h;exact absurd (h.Lpre i (hall i (st.lt i (by rw[h.eq];simp)))) (k6 st h.eq).1
  subst hrest;have hk:=h.run;simp only[hY] at hk;have hlt:∀i,L i=true->i<ops.length:=fun i hi=>st.lt i (by rw[h.eq];simpa using h.Lpre i hi)
  have hdn:∀id,DN D0 B base ops.length L s.nx id->dn D0 B s.nx id:=by
   rintro id (h1|⟨h1,h2⟩|⟨k,h1,h2,h3⟩|⟨h1,h2⟩)
   ·exact .inl h1
   ·exact .inr ⟨h1,by have:=h.nx;omega⟩
   ·exact .inr ⟨om,by have:=h.nx;omega⟩
   ·exact .inr ⟨om,h2⟩
  have hmem:b7 L base ops.length s.mem=s.mem:=by
   unfold b7;refine List.filter_eq_self.2 fun p hp=>c8.2 fun h'=>hall _ om
  have hm:=h.mr;have hext:=h.ext;rw[hmem] at hm hext;obtain⟨w1,w2,w3⟩:=hm.widen hdn;refine hQ s ρ a w hk (by have:=h.nx;omega) ⟨w1,hext.mks h.def0,by rw[h.size,←h.nt],fun t v hl=>?_⟩ (hext.wide hdn);refine w2 _ _ ?_;by_cases hj:∃j∈pre,∃oj,ops[j]? = some oj/\oj.dst=some t
  ·obtain⟨j,hj,oj,hoj,hd⟩:=hj;have:=h.slotL j oj t v (hall j (gA hoj)) hoj hd hl
   rwa [hmem] at this
  ·have hnj:∀j∈pre,∀oj,ops[j]? = some oj->oj.dst≠some t:=fun j h1 oj h2 h3=>hj ⟨j,h1,oj,h2,h3⟩
   rw[h.virt0 t hnj] at hl;have:=h.slot0 t v (fun k ok hk hok=>hnj k (h.Lpre k hk) ok hok) hl
   rwa [hmem] at this
 have empty:∀(listed:Array Bool) (L:Nat->Bool),(∀k,k<ops.length->listed[k]? = some (L k))->(∀i o,L i=true->ops[i]? = some o->∀j∈d8 o,L j=true)->Region.ready .any ops.toArray listed=[]->∀i,i<ops.length->L i=true:=by
  intro listed L hl hcl hr;have key:∀(post pre:List Nat),ord=pre++post->(∀i∈pre,L i=true)->∀i∈ord,L i=true:=by
   intro post
   induction post with
   | nil=>intro pre e ih i hi;rw[e] at hi;simp at hi;exact ih i hi
   | cons x post ihp=>
    intro pre e ih';refine ihp (pre++[x]) (by rw[e];simp) fun i hi=>?_
    rcases JI.1 hi with hi|hi
    ·exact ih' i hi
    ·simp at hi;subst hi;cases hL:L i with
     | true=>rfl
     | false=>
      exfalso;have hlt:i<ops.length:=st.lt i (by rw[e];simp);have ho:ops[i]? = some ops[i]:=by simp[hlt]
      have hrd:=st.resp pre i post e _ ho;have:i∈Region.ready .any ops.toArray listed:=by
       simp only[Region.ready,JS,KN,LB,JE];refine⟨hlt, ?_, ?_⟩
       ·simp[Jl,hl i hlt,hL]
       ·simp only[J1,ho,Jv,Kh,Array.all_eq_true];intro k hk;cases hb:Region.binds .any ops[i].after[k] with
        | false=>rfl
        | true=>
         have hj:ops[i].after[k].on∈d8 ops[i]:=by
          simp only[d8,JM,JS,Kz];exact⟨_,⟨Array.getElem_mem hk,hb⟩,rfl⟩
         have h1:=ih' _ (hrd _ hj);have h2:ops[i].after[k].on<ops.length:=st.lt _ (by rw[e];exact JN _ (hrd _ hj));simp[Jl,hl _ h2,h1]
      rw[hr] at this;cases this
  intro i hi;exact key ord [] (by simp) (by simp) i (st.full i hi)
 intro fuel
 induction fuel with
 | zero=>
  intro listed L pre rest recs s ρ a w hu hsz hl h;have hall:=xI (Nat.le_zero.1 hu);refine⟨?_,done L pre rest recs s ρ a w hall h⟩;rw[List.eq_nil_iff_forall_not_mem];intro i hi;obtain⟨o,ho,hL,_⟩:=uS hsz hl (fun k hk=>st.lt k (by rw[h.eq];exact JN _ (h.Lpre k hk))) hi;rw[hall i (gA ho)] at hL;cases hL
 | succ fuel ih=>
  intro listed L pre rest recs s ρ a w hu hsz hl h;have hout:∀k,L k=true->k<ops.length:=fun k hk=>st.lt k (by rw[h.eq];exact JN _ (h.Lpre k hk))
  refine⟨fun hr=>done L pre rest recs s ρ a w (empty listed L hl h.clos hr) h,fun i hi=>?_⟩;obtain⟨o,ho,hLi,hrd⟩:=uS hsz hl hout hi;have hil:=gA ho;obtain⟨pre',rest',recs',s',h',hfar⟩:=h.far st;have next:∀pre2 rest2 recs2 s2 ρ2 a2 w2,nN P Γ H ops ord tr base B D0 X ds K Kp s0 ρ0 w0 (bX L i) pre2 rest2 recs2 s2 ρ2 a2 w2->wpAnyIn (FW rd) 0 P .any ops.toArray Q fuel (listed.setIfInBounds i true) a2 w2:=by
   intro pre2 rest2 recs2 s2 ρ2 a2 w2 h2;refine ih _ (bX L i) pre2 rest2 recs2 s2 ρ2 a2 w2 ?_ (by simpa using hsz) (fun k hk=>?_) h2
   ·have:=BQ hLi hil;omega
   ·by_cases hki:k=i
    ·subst hki;rw[dW];simp[hsz,hk]
    ·rw[iX hki,Jt (Ne.symm hki)];exact hl k hk
  have fin:if Region.wanted o (yielded ops.toArray a.tmps) then o.wpIn (FW rd) 0 P a w (wpAnyIn (FW rd) 0 P .any ops.toArray Q fuel (listed.setIfInBounds i true)) Q else(wpAnyIn (FW rd) 0 P .any ops.toArray Q fuel (listed.setIfInBounds i true)) (a.put o.dst undef) w:=by
   by_cases hip:i∈pre'
   ·exact h'.step rd st hD hB hip hLi ho hrd Q _ fun ρ2 a2 w2 h2=>next _ _ _ _ ρ2 a2 w2 h2
   ·have hio:=st.full i hil;rw[h'.eq] at hio;cases hrs:rest' with
    | nil=>rw[hrs] at hio;simp at hio;exact absurd hio hip
    | cons x r=>
     have he:=hfar x r hrs;rw[hrs] at h' hio;have hix:i=x:=by
      rcases JI.1 hio with h1|h1
      ·exact absurd h1 hip
      ·rcases JA.1 h1 with h1|h1
       ·exact h1
       ·exfalso;have h2:=st.eff pre' x r h'.eq he i h1;have h3:=(nD st h' ho hrd).1 x h2;exact(k6 st h'.eq).1 (h'.Lpre x h3)
     subst hix;exact h'.now rd st hH hD hB ho hrd he Q _ (fun pre2 rest2 recs2 s2 ρ2 a2 w2 h2=>next pre2 rest2 recs2 s2 ρ2 a2 w2 h2) fun x m' nx' ρ' w'=>hP x m' nx' ρ' a w'
  simp only[wpOpIn,J1,ho];split
  ·rename_i hw;rw[JL hw] at fin;exact fin
  ·rename_i hw;rw[JJ hw] at fin;exact⟨fun _ _=>trivial,fin⟩
end
end Go.Ax
namespace Go.Ax
open Go
theorem MR.same{Γ:List (Nat × AV)}{X:Nat->Prop}{ρ:Nat->a6}{D:Nat->Prop}{mem:aA}{w w':World}(hm:MR Γ X ρ D mem w)(hh:w'.heap=w.heap)(hos:tF w w') :
  MR Γ X ρ D mem w'/\(∀v x,VR ρ D (OX X ρ mem) w v x->VR ρ D (OX X ρ mem) w' v x)/\∀A:Nat->Prop,(∀i,A i->D i)->Ext A ρ mem w ρ D mem w':=by
 have hk:∀b,b<w.heap.size->¬OX X ρ mem b->¬OX X ρ mem b/\w'.heap[b]? = w.heap[b]? := fun b _ ho=>⟨ho,by rw[hh]⟩
 have hmono:∀v x,VR ρ D (OX X ρ mem) w v x->VR ρ D (OX X ρ mem) w' v x:=fun v x h=>h.mono (fun _ _=>rfl) (fun _ h=>h) hk
 refine⟨⟨hm.low,fun p hp hn=>?_,hm.emp,hm.inj,hm.nod,fun b hb=>?_,fun p hp=>hmono _ _ (hm.glo p hp)⟩,hmono,fun A hA=>⟨fun i hi=>hA i hi,fun _ _=>rfl,by rw[hh];exact JG _,fun b _ _=>by rw[hh],fun p hp hn=>.inl ⟨p,hp,hn,rfl⟩,hos⟩⟩
 ·obtain⟨o,ho,hb⟩:=hm.blk p hp hn;exact⟨o,by rw[hh];exact ho,hb.mono (fun _ _=>rfl) (fun _ h=>h) hk⟩
 ·rw[hh];exact hm.bar b hb
theorem y6{P:Program}{Γ:List (Nat × AV)}{H:Hk}{B:Nat}(hH:mX P Γ B H){ops:List Oper}{s:St}{K:St->Prop}{Kp:Value->aA->Nat->Prop}(h:zH P Γ H ops s K Kp)(hmix:P.follows .mixedOrders=true)(id:Nat)
  (rd:Option Nat) (X:Nat->Prop) (ds:List Deferred × Nat) (D:Nat->Prop) (ρ:Nat->a6) (a:Act) (w:World) (hD:∀i,D i->i<B) (hs:SR Γ X ds ρ (dn D B s.nx) s a w) (hB:B<=s.nx) (Q:Exit->Act->World->Prop)
  (hQ:∀(s':St) (ρ':Nat->a6) (a':Act) (w':World),K s'->B<=s'.nx->SR Γ X ds ρ' (dn D B s'.nx) s' a' w'->Ext D ρ s.mem w ρ' (dn D B s'.nx) s'.mem w'->Q .normal a' w')
  (hP:∀(x:Value) (m':aA) (nx':Nat) (ρ':Nat->a6) (a':Act) (w':World),Kp x m' nx'->B<=nx'->SR Γ X ds ρ' (dn D B nx') ⟨lX ops s.sl,m',nx',s.nt⟩ a' w'->Ext D ρ s.mem w ρ' (dn D B nx') m' w'->Q (.panic [pe x]) a' w') :
  (Code.region id ops.toArray true).wpIn (FW rd) 0 P Q a w:=by
 unfold zH at h;split at h
 ·rename_i hok;have st:=wF hok;refine wpIn_region_any hmix ?_;obtain⟨m1,mono1,ext1⟩:=hs.mr.same (w':={ w with drawn:=w.drawn+1 }) rfl .go;have hdn:∀id,dn D B s.nx id↔DN D B s.nx ops.length (fun _=>false) (s.nx+ops.length) id:=by
   intro id;constructor
   ·rintro(h1|h1)
    ·exact .inl h1
    ·exact .inr (.inl h1)
   ·rintro(h1|h1|⟨k,_,_,h3⟩|⟨h1,h2⟩)
    ·exact .inl h1
    ·exact .inr h1
    ·cases h3
    ·omega
  have hlow:∀p∈s.mem,p.1<s.nx:=fun p hp=>jI hD hB _ (hs.mr.low p hp)
  have hmem:b7 (fun _=>false) s.nx ops.length s.mem=s.mem:=by
   unfold b7;refine List.filter_eq_self.2 fun p hp=>c8.2 fun h'=>?_
   have:=hlow p hp;omega
  obtain⟨m2,mono2,ext2⟩:=m1.widen (fun id h=>(hdn id).1 h);have hsize:ops.toArray.size=ops.length:=by simp
  refine nN.main rd st hH hD hB Q (ρ0:=ρ) (s0:=s) (w0:=w) hQ hP ops.toArray.size _ (fun _=>false) [] (nT P ops ops.length [] (oH ops.length)) [] { s with nx:=s.nx+ops.length } ρ a _ ?_ (by simp) (fun k hk=>by simp[hk]) ?_
  ·rw[hsize];have:∀n,CY (fun _=>false) n=n:=by
    intro n
    induction n with
    | zero=>rfl
    | succ n ih=>simp[CY,ih]
   rw[this];exact JG _
  ·refine⟨by simp,h,(fun i hi=>by cases hi),(fun i hi=>by simp at hi),(fun i o hi=>by cases hi),JG _,rfl, ?_,hs.mr.nod,fun p hp=>?_,hs.def0,hs.size,(fun i o d v hi=>by cases hi),fun t v _ hl=>?_,fun t _=>rfl,(fun i hi=>by simp at hi),fun p hp h1 h2=>?_, ?_⟩
   ·simp only;rw[hmem];exact m2
   ·have:=hlow p hp;simp only;omega
   ·simp only;rw[hmem];exact mono2 _ _ (mono1 _ _ (hs.slot t v hl))
   ·have:=hlow p hp;omega
   ·simp only;rw[hmem];exact(ext1 D fun i hi=>.inl hi).trans (ext2 D fun i hi=>.inl hi)
 ·exact h.elim
end Go.Ax
