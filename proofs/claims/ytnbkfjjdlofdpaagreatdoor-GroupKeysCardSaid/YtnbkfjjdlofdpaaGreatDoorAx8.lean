/- A part of the proof. -/
import Derived.Test.YtnbkfjjdlofdpaaGreatDoorAx7
import Derived.ProofKit
import Derived.OpenShut
import Derived.Carry
import Derived.ChangeSlices
import Derived.Deep.DeepHandedRow
import Derived.Deep.DeepWitnessRowRef
import Derived.Stop.LaidErr
set_option linter.unusedVariables false
set_option linter.unusedSimpArgs false
set_option linter.unusedSectionVars false
namespace Go.Ax
open Go Go.RowKit
theorem Gh(w:World)(ρ:Nat->a6):MR [] (fun _=>False) ρ (fun _=>False) [] w:=
 ⟨(fun p hp=>by cases hp),(fun p hp=>by cases hp),(fun p hp=>by cases hp),(fun p hp=>by cases hp),by simp,(fun b hb=>hb.elim),(fun p hp=>by cases hp)⟩
theorem DZ(ρ:Nat->a6)(b:Nat):¬OX (fun _=>False) ρ [] b:=by
 rintro(h|⟨p,hp,_⟩)
 ·exact h
 ·cases hp
def AU(w w':World):Prop:=Below w.heap.size w { w' with tape:=w.tape }
theorem AU.frame{W w':World}(h:AU W w')(may:MemPlace->Prop):W.keptBut w' may:=
 Below.frame (w':={ w' with tape:=W.tape }) h may
theorem AU.trod{H:Type}{enc:TypeId × Value->H}{P:Program}{t:TypeId}(hl:laidOutB P=true)(hr:P.readableRec t=true)(hrow:t<P.types.size){W W':World}{v:Value}{d:DataW H}{ps:List MemPlace}
  (h:DataW.Trod enc P W 0 (fun _=>true) true t v d ps) (hb:AU W W') :
  DataW.Trod enc P W' 0 (fun b=>decide (b<W.heap.size)) true t v d ps:=by
 have hlt:∀x∈ps,x.block<W.heap.size:=by
  obtain⟨n,hn⟩:=h;exact DataW.trod_lt n _ _ _ hn
 exact WideElems.Trod_stays hl hr hrow h (fun x hx=>Below.same (w':={ W' with tape:=W.tape }) hb (hlt x hx)) (fun x hx=>by simpa using hlt x hx)
theorem aS.calls{P:Program}{F:FuncId}{args:List AV}{b:Bool}(h:aS P [] F args (.bool b))(w:World)(vs:List Value)(hv:dO (fun _=>⟨0,0,0⟩) (fun _=>False) (OX (fun _=>False) (fun _=>⟨0,0,0⟩) []) w args vs)(hF:Nat.beq F YF=false:=by rfl) :
  Calls P F vs.toArray w fun e w'=>e = .returned (.bool b)/\AU w w':=by
 refine((h.run _ _ _ w vs (fun i h=>h.elim) (Gh w _) hv).calls hF).mono ?_;rintro e w' ⟨r,v,m,n,ρ',rfl,⟨rfl,rfl,rfl⟩,_,_,hr,ext⟩;cases hr;refine⟨rfl,⟨ext.env.1,rfl,ext.env.2,ext.size,fun k hk=>ext.keep k hk ?_⟩⟩;rintro⟨p,hp,_⟩;cases hp
theorem El{w:World}{a:Addr}{len cap:Nat}{zs:List Int}(ha:a.spot=none)(hl:len<=cap)(hz:len<=zs.length)(hc:∀i,i<zs.length->w.cell? (a.add i)=some (.int .i64 (zs.getD i 0))) :
  VR (fun _=>⟨0,0,0⟩) (fun _=>False) (OX (fun _=>False) (fun _=>⟨0,0,0⟩) []) w (.il 1 (aY (zs.take len))) (.slice (some a) len cap):=by
 have hlen:(aY (zs.take len)).length=len:=by simp[aY];omega
 obtain⟨b,off,sp⟩:=a;simp only at ha;subst ha;have key:=VR.il (ρ:=fun _=>⟨0,0,0⟩) (D:=fun _=>False) (O:=OX (fun _=>False) (fun _=>⟨0,0,0⟩) []) (w:=w) 1 (aY (zs.take len)) b off cap
  (fun i _=>.int .i64 (zs.getD i 0)) om ?_ ?_ ?_
 ·rw[hlen] at key;exact key
 ·intro i x hx;obtain⟨z,_,rfl⟩:=JM.1 (Je hx);rfl
 ·intro i x j c hx hj;have hi:i<len:=by have:=(JC.1 hx).1;omega
  obtain⟨z,_,rfl⟩:=JM.1 (Je hx);have hj0:j=0:=by have:=(JC.1 hj).1;simpa[AV.cells] using this
  subst hj0;refine⟨DZ _ _, ?_,rfl⟩;have:=hc i om;rw[show off+(i*1+0)=off+i by omega];rw[←this];unfold Addr.add;split
  ·rename_i h0;rw[h0];rfl
  ·rfl
 ·intro i x j c hx hj;have hj0:j=0:=by
   obtain⟨z,_,rfl⟩:=JM.1 (Je hx);have:=(JC.1 hj).1;simpa[AV.cells] using this
  subst hj0;have hi:i<len:=by have:=(JC.1 hx).1;omega
  simp only[aY,Ja,Jb,JL hi] at hx;rw[I9 om] at hx;simp only[Jv,Option.some.injEq] at hx;subst hx;simp only[AV.cells,List.getElem?_cons_zero,Option.some.injEq] at hj;subst hj;rw[show zs.getD i 0=zs[i] by rw[Jw,I9 om];rfl];exact .int _ _
theorem Ga{Γ:List (Nat × AV)}(w:World)(ρ:Nat->a6)(hg:∀p∈Γ,VR ρ (fun _=>False) (OX (fun _=>False) ρ []) w (.ip p.2) (.pointer (some ⟨p.1,0,none⟩))):MR Γ (fun _=>False) ρ (fun _=>False) [] w:=
 ⟨(fun p hp=>by cases hp),(fun p hp=>by cases hp),(fun p hp=>by cases hp),(fun p hp=>by cases hp),by simp,(fun b hb=>hb.elim),hg⟩
theorem aS.callsG{P:Program}{Γ:List (Nat × AV)}{F:FuncId}{args:List AV}{b:Bool}(h:aS P Γ F args (.bool b))(w:World)(vs:List Value)(hg:∀p∈Γ,VR (fun _=>⟨0,0,0⟩) (fun _=>False) (OX (fun _=>False) (fun _=>⟨0,0,0⟩) []) w (.ip p.2) (.pointer (some ⟨p.1,0,none⟩)))
  (hv:dO (fun _=>⟨0,0,0⟩) (fun _=>False) (OX (fun _=>False) (fun _=>⟨0,0,0⟩) []) w args vs) (hF:Nat.beq F YF=false:=by rfl) :
  Calls P F vs.toArray w fun e w'=>e = .returned (.bool b)/\AU w w':=by
 refine((h.run _ _ _ w vs (fun i h=>h.elim) (Ga w _ hg) hv).calls hF).mono ?_;rintro e w' ⟨r,v,m,n,ρ',rfl,⟨rfl,rfl,rfl⟩,_,_,hr,ext⟩;cases hr;refine⟨rfl,⟨ext.env.1,rfl,ext.env.2,ext.size,fun k hk=>ext.keep k hk ?_⟩⟩;rintro⟨p,hp,_⟩;cases hp
end Go.Ax
