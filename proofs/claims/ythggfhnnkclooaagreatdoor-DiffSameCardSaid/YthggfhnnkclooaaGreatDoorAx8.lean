/- A part of the proof. -/
import Derived.Test.YthggfhnnkclooaaGreatDoorAx7
import Derived.ProofKit
import Derived.OpenShut
import Derived.Carry
import Derived.ChangeSlices
import Derived.Deep.DeepHandedRow
import Derived.Deep.DeepWitnessRowRef
import Derived.Stop.LaidErr
set_option linter.unusedSectionVars false
set_option linter.unusedVariables false
set_option linter.unusedSimpArgs false
set_option maxRecDepth 1000000
set_option maxHeartbeats 16000000
namespace Go.Ax
open Go Go.RowKit
theorem UL(w:World)(E:Nat->dP):MR [] (λ_=>False) E (λ_=>False) [] w:=
 ⟨(λp hp=>by cases hp),(λp hp=>by cases hp),(λp hp=>by cases hp),(λp hp=>by cases hp),sq,(λb hb=>hb.elim),(λp hp=>by cases hp)⟩
theorem J1(E:Nat->dP)(b:Nat):¬OX (λ_=>False) E [] b:=by
 rintro(h|⟨p,hp,_⟩)
 .exact h
 .cases hp
def ET(w w':World):Prop:=Below w.heap.size w { w' with tape:=w.tape }
theorem ET.frame{W w':World}(h:ET W w')(may:MemPlace->Prop):W.keptBut w' may:=
 Below.frame (w':={ w' with tape:=W.tape }) h may
theorem ET.trod{H:Type}{enc:TypeId × Value->H}{P:Program}{t:TypeId}(hl:laidOutB P=true)(hr:P.readableRec t=true)(hrow:t<P.types.size){W W':World}{v:Value}{d:DataW H}{ps:List MemPlace}
  (h:DataW.Trod enc P W 0 (λ_=>true) true t v d ps) (hb:ET W W') :
  DataW.Trod enc P W' 0 (λb=>decide (b<W.heap.size)) true t v d ps:=by
 have hlt:∀x∈ps,x.block<W.heap.size:=by
  obtain⟨n,hn⟩:=h;exact DataW.trod_lt n _ _ _ hn
 exact WideElems.Trod_stays hl hr hrow h (λx hx=>Below.same (w':={ W' with tape:=W.tape }) hb (hlt x hx)) (λx hx=>by simpa using hlt x hx)
theorem aX.calls{P:Program}{F:FuncId}{args:List AV}{b:Bool}(h:aX P [] F args (.bool b))(w:World)(vs:List Value)(hv:j8 (λ_=>⟨0,0,0⟩) (λ_=>False) (OX (λ_=>False) (λ_=>⟨0,0,0⟩) []) w args vs)(hF:Nat.beq F YF=false:=by rfl) :
  Calls P F vs.toArray w λe w'=>e = .returned (.bool b)/\ET w w':=by
 refine((h.run _ _ _ w vs (λi h=>h.elim) (UL w _) hv).calls hF).mono ?_;rintro e w' ⟨r,v,m,n,E',rfl,⟨rfl,rfl,rfl⟩,_,_,hr,ext⟩;cases hr;refine⟨rfl,⟨ext.env.1,rfl,ext.env.2,ext.size,λk hk=>ext.keep k hk ?_⟩⟩;rintro⟨p,hp,_⟩;cases hp
theorem Rv{w:World}{a:Addr}{len cap:Nat}{zs:List Int}(ha:a.spot=none)(hl:len<=cap)(hz:len<=zs.length)(hc:∀i,i<zs.length->w.cell? (a.add i)=some (.int .i64 (zs.getD i 0))) :
  VR (λ_=>⟨0,0,0⟩) (λ_=>False) (OX (λ_=>False) (λ_=>⟨0,0,0⟩) []) w (.il 1 (aV (zs.take len))) (.slice (some a) len cap):=by
 have hlen:(aV (zs.take len)).length=len:=by simp[aV];omega
 obtain⟨b,off,sp⟩:=a;simp only at ha;subst ha;have key:=VR.il (E:=λ_=>⟨0,0,0⟩) (D:=λ_=>False) (O:=OX (λ_=>False) (λ_=>⟨0,0,0⟩) []) (w:=w) 1 (aV (zs.take len)) b off cap
  (λi _=>.int .i64 (zs.getD i 0)) om ?_ ?_ ?_
 .rw[hlen] at key;exact key
 .intro i x hx;obtain⟨z,_,rfl⟩:=ZL.1 (Y2 hx);rfl
 .intro i x j c hx hj;have hi:i<len:=by have:=(Y0.1 hx).1;omega
  obtain⟨z,_,rfl⟩:=ZL.1 (Y2 hx);have hj0:j=0:=by have:=(Y0.1 hj).1;simpa[AV.cells] using this
  subst hj0;refine⟨J1 _ _, ?_,rfl⟩;have:=hc i om;rw[show off+(i*1+0)=off+i by omega];rw[<-this];unfold Addr.add;split
  .rename_i h0;rw[h0];rfl
  .rfl
 .intro i x j c hx hj;have hj0:j=0:=by
   obtain⟨z,_,rfl⟩:=ZL.1 (Y2 hx);have:=(Y0.1 hj).1;simpa[AV.cells] using this
  subst hj0;have hi:i<len:=by have:=(Y0.1 hx).1;omega
  simp only[aV,ZT,Za,Y4 hi] at hx;rw[Yw om] at hx;simp only[aAq,Option.some.injEq] at hx;subst hx;simp only[AV.cells,List.getElem?_cons_zero,Option.some.injEq] at hj;subst hj;rw[show zs.getD i 0=zs[i] by rw[Yx,Yw om];rfl];exact .int _ _
theorem UQ{C:List (Nat × AV)}(w:World)(E:Nat->dP)(hg:∀p∈C,VR E (λ_=>False) (OX (λ_=>False) E []) w (.ip p.2) (.pointer (some ⟨p.1,0,none⟩))):MR C (λ_=>False) E (λ_=>False) [] w:=
 ⟨(λp hp=>by cases hp),(λp hp=>by cases hp),(λp hp=>by cases hp),(λp hp=>by cases hp),sq,(λb hb=>hb.elim),hg⟩
theorem aX.callsG{P:Program}{C:List (Nat × AV)}{F:FuncId}{args:List AV}{b:Bool}(h:aX P C F args (.bool b))(w:World)(vs:List Value)(hg:∀p∈C,VR (λ_=>⟨0,0,0⟩) (λ_=>False) (OX (λ_=>False) (λ_=>⟨0,0,0⟩) []) w (.ip p.2) (.pointer (some ⟨p.1,0,none⟩)))
  (hv:j8 (λ_=>⟨0,0,0⟩) (λ_=>False) (OX (λ_=>False) (λ_=>⟨0,0,0⟩) []) w args vs) (hF:Nat.beq F YF=false:=by rfl) :
  Calls P F vs.toArray w λe w'=>e = .returned (.bool b)/\ET w w':=by
 refine((h.run _ _ _ w vs (λi h=>h.elim) (UQ w _ hg) hv).calls hF).mono ?_;rintro e w' ⟨r,v,m,n,E',rfl,⟨rfl,rfl,rfl⟩,_,_,hr,ext⟩;cases hr;refine⟨rfl,⟨ext.env.1,rfl,ext.env.2,ext.size,λk hk=>ext.keep k hk ?_⟩⟩;rintro⟨p,hp,_⟩;cases hp
theorem zZ{P:Program}{w:World}{n:String}{g:Nat}{t:TypeId}{a:Addr}(hg:P.globalNamed n=some g)(hv:w.var? P n=some #[.iface t (.pointer (some a))])(ha:a.spot=none) :
  VR (λ_=>⟨0,0,0⟩) (λ_=>False) (OX (λ_=>False) (λ_=>⟨0,0,0⟩) []) w (.ip (.ifc t (.ip (.agg [])))) (.pointer (some ⟨g,0,none⟩)):=by
 have hc:=World.var?_cell hg hv 0;obtain⟨b,off,sp⟩:=a;simp only at ha;subst ha;refine .ip _ g 0 (λ_=>.iface t (.pointer (some ⟨b,off,none⟩))) (λj c hj=>?_) (λj c hj=>?_)
 .have hj0:j=0:=by have:=(Y0.1 hj).1;simpa[AV.cells] using this
  subst hj0;exact⟨J1 _ _,su hc,rfl⟩
 .have hj0:j=0:=by have:=(Y0.1 hj).1;simpa[AV.cells] using this
  subst hj0;simp[AV.cells] at hj;subst hj;exact .ifc t _ _ (.ip _ b off (λ_=>undef) (λj c h=>by simp[AV.cells] at h) (λj c h=>by simp[AV.cells] at h))
theorem En{P:Program}{n:String}{d:DataW Unit}{r:List (String × DataW Unit)}{w:World}{g:Nat}{tp te:TypeId}{a:Addr}(h:laidMet P ((n,d)::r) w)(hg:P.globalNamed n=some g)
  (hv:w.var? P n=some #[.iface tp (.pointer (some a))]) (hp:P.underlying tp=some (.pointer te)):a.spot=none:=by
 obtain⟨ps,⟨g0,t0,cs0,f0,p0,q0,hg0,ht0,hv0,hd0,_,e0⟩,_,hrows⟩:=h;obtain rfl:=Option.some.inj (hg.symm.trans hg0);obtain rfl:=Option.some.inj (hv.symm.trans hv0);subst e0;have hok:=(hrows g 0 (by simp[MemPlace.row])).2 _ _ (by simpa using World.var?_cell hg0 hv0 0);simp only[Value.okWide,hp,Cell.okWide,Cell.ok,World.has] at hok;exact hok.2.1
end Go.Ax
