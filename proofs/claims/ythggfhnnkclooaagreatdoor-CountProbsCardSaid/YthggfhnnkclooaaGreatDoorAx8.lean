/- A part of the proof. -/
import Derived.Test.YthggfhnnkclooaaGreatDoorAx7
import Derived.ProofKit
import Derived.OpenShut
import Derived.Carry
import Derived.ChangeSlices
import Derived.Deep.DeepHandedRow
import Derived.Deep.DeepWitnessRowRef
import Derived.Stop.LaidErr
set_option linter.unusedSectionVars false
set_option linter.unusedVariables false
set_option linter.unusedSimpArgs false
set_option maxRecDepth 1000000
set_option maxHeartbeats 16000000
namespace Go.Ax
open Go Go.RowKit
theorem UP(w:World)(E:Nat->dP):MR [] (λ_=>False) E (λ_=>False) [] w:=
 ⟨(λp hp=>by cases hp),(λp hp=>by cases hp),(λp hp=>by cases hp),(λp hp=>by cases hp),sq,(λb hb=>hb.elim),(λp hp=>by cases hp)⟩
theorem OU(E:Nat->dP)(b:Nat):¬OX (λ_=>False) E [] b:=by
 rintro(h|⟨p,hp,_⟩)
 .exact h
 .cases hp
def HG(w w':World):Prop:=Below w.heap.size w { w' with tape:=w.tape }
theorem HG.frame{W w':World}(h:HG W w')(may:MemPlace->Prop):W.keptBut w' may:=
 Below.frame (w':={ w' with tape:=W.tape }) h may
theorem HG.trod{H:Type}{enc:TypeId × Value->H}{P:Program}{t:TypeId}(hl:laidOutB P=true)(hr:P.readableRec t=true)(hrow:t<P.types.size){W W':World}{v:Value}{d:DataW H}{ps:List MemPlace}
  (h:DataW.Trod enc P W 0 (λ_=>true) true t v d ps) (hb:HG W W') :
  DataW.Trod enc P W' 0 (λb=>decide (b<W.heap.size)) true t v d ps:=by
 have hlt:∀x∈ps,x.block<W.heap.size:=by
  obtain⟨n,hn⟩:=h;exact DataW.trod_lt n _ _ _ hn
 exact WideElems.Trod_stays hl hr hrow h (λx hx=>Below.same (w':={ W' with tape:=W.tape }) hb (hlt x hx)) (λx hx=>by simpa using hlt x hx)
theorem aU.calls{P:Program}{F:FuncId}{args:List AV}{b:Bool}(h:aU P [] F args (.bool b))(w:World)(vs:List Value)(hv:kY (λ_=>⟨0,0,0⟩) (λ_=>False) (OX (λ_=>False) (λ_=>⟨0,0,0⟩) []) w args vs)(hF:Nat.beq F YF=false:=by rfl) :
  Calls P F vs.toArray w λe w'=>e = .returned (.bool b)/\HG w w':=by
 refine((h.run _ _ _ w vs (λi h=>h.elim) (UP w _) hv).calls hF).mono ?_;rintro e w' ⟨r,v,m,n,E',rfl,⟨rfl,rfl,rfl⟩,_,_,hr,ext⟩;cases hr;refine⟨rfl,⟨ext.env.1,rfl,ext.env.2,ext.size,λk hk=>ext.keep k hk ?_⟩⟩;rintro⟨p,hp,_⟩;cases hp
theorem LE{w:World}{a:Addr}{len cap:Nat}{zs:List Int}(ha:a.spot=none)(hl:len<=cap)(hz:len<=zs.length)(hc:∀i,i<zs.length->w.cell? (a.add i)=some (.int .i64 (zs.getD i 0))) :
  VR (λ_=>⟨0,0,0⟩) (λ_=>False) (OX (λ_=>False) (λ_=>⟨0,0,0⟩) []) w (.il 1 (aY (zs.take len))) (.slice (some a) len cap):=by
 have hlen:(aY (zs.take len)).length=len:=by simp[aY];omega
 obtain⟨b,off,sp⟩:=a;simp only at ha;subst ha;have key:=VR.il (E:=λ_=>⟨0,0,0⟩) (D:=λ_=>False) (O:=OX (λ_=>False) (λ_=>⟨0,0,0⟩) []) (w:=w) 1 (aY (zs.take len)) b off cap
  (λi _=>.int .i64 (zs.getD i 0)) om ?_ ?_ ?_
 .rw[hlen] at key;exact key
 .intro i x hx;obtain⟨z,_,rfl⟩:=ZW.1 (Y5 hx);rfl
 .intro i x j c hx hj;have hi:i<len:=by have:=(Y4.1 hx).1;omega
  obtain⟨z,_,rfl⟩:=ZW.1 (Y5 hx);have hj0:j=0:=by have:=(Y4.1 hj).1;simpa[AV.cells] using this
  subst hj0;refine⟨OU _ _, ?_,rfl⟩;have:=hc i om;rw[show off+(i*1+0)=off+i by omega];rw[<-this];unfold Addr.add;split
  .rename_i h0;rw[h0];rfl
  .rfl
 .intro i x j c hx hj;have hj0:j=0:=by
   obtain⟨z,_,rfl⟩:=ZW.1 (Y5 hx);have:=(Y4.1 hj).1;simpa[AV.cells] using this
  subst hj0;have hi:i<len:=by have:=(Y4.1 hx).1;omega
  simp only[aY,Zx,Zb,Y7 hi] at hx;rw[Yz om] at hx;simp only[aAQ,Option.some.injEq] at hx;subst hx;simp only[AV.cells,List.getElem?_cons_zero,Option.some.injEq] at hj;subst hj;rw[show zs.getD i 0=zs[i] by rw[Y0,Yz om];rfl];exact .int _ _
theorem KZ{P:Program}{H:Type}{enc:TypeId × Value->H}{w:World}{t e:TypeId}{b0:Nat}{v:Value}{d:DataW H}{ps:List MemPlace}
  (ht:P.underlying t=some (.slice e)) (he:P.underlying e=some (.int .i64)) (hc:P.cellsOf e=1) (hval:Value.okWide P w .any b0 t v) (h:DataW.Trod enc P w 0 (λ_=>true) true t v d ps) :
  ∃l:List Int,(∀x∈l,i64 x)/\VR (λ_=>⟨0,0,0⟩) (λ_=>False) (OX (λ_=>False) (λ_=>⟨0,0,0⟩) []) w (.il 1 (aY l)) v:=by
 obtain⟨a0,len0,cap0,rfl⟩:=WideShapes.okWide_slice ht hval;obtain⟨n,hn⟩:=h;rcases ChangeShapes.open_ints ht he hc hn with⟨hcs,_⟩|⟨a,len,cap,zs,hcs,_,hl,_,hz,_,hcell,hwf⟩
 .simp[Value.cells] at hcs;obtain⟨rfl,rfl,rfl⟩:=hcs;exact⟨[],sq,.iln _⟩
 .simp[Value.cells] at hcs;obtain⟨rfl,rfl,rfl⟩:=hcs;have hsp:a.spot=none:=by
   simp only[Value.okWide,ht,Cell.okWide,Cell.ok,World.has] at hval;exact hval.2.2.2.1
  simp only[if_true] at hz;refine⟨zs.take len0,λx hx=>?_,LE hsp hl om hcell⟩;have:=hwf x (Ze hx);have e1:IntKind.i64.min = -9223372036854775808:=rfl;have e2:IntKind.i64.max=9223372036854775807:=rfl;simp[Lit.wf,e1,e2] at this;unfold i64;omega
theorem Ug{C:List (Nat × AV)}(w:World)(E:Nat->dP)(hg:∀p∈C,VR E (λ_=>False) (OX (λ_=>False) E []) w (.ip p.2) (.pointer (some ⟨p.1,0,none⟩))):MR C (λ_=>False) E (λ_=>False) [] w:=
 ⟨(λp hp=>by cases hp),(λp hp=>by cases hp),(λp hp=>by cases hp),(λp hp=>by cases hp),sq,(λb hb=>hb.elim),hg⟩
theorem aU.callsG{P:Program}{C:List (Nat × AV)}{F:FuncId}{args:List AV}{b:Bool}(h:aU P C F args (.bool b))(w:World)(vs:List Value)(hg:∀p∈C,VR (λ_=>⟨0,0,0⟩) (λ_=>False) (OX (λ_=>False) (λ_=>⟨0,0,0⟩) []) w (.ip p.2) (.pointer (some ⟨p.1,0,none⟩)))
  (hv:kY (λ_=>⟨0,0,0⟩) (λ_=>False) (OX (λ_=>False) (λ_=>⟨0,0,0⟩) []) w args vs) (hF:Nat.beq F YF=false:=by rfl) :
  Calls P F vs.toArray w λe w'=>e = .returned (.bool b)/\HG w w':=by
 refine((h.run _ _ _ w vs (λi h=>h.elim) (Ug w _ hg) hv).calls hF).mono ?_;rintro e w' ⟨r,v,m,n,E',rfl,⟨rfl,rfl,rfl⟩,_,_,hr,ext⟩;cases hr;refine⟨rfl,⟨ext.env.1,rfl,ext.env.2,ext.size,λk hk=>ext.keep k hk ?_⟩⟩;rintro⟨p,hp,_⟩;cases hp
end Go.Ax
