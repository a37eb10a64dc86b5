/- A part of the proof. -/
import Derived.Test.YtidjhgajglebnaaGreatDoorAx21
set_option linter.unusedVariables false
set_option linter.unusedSimpArgs false
namespace Go.Proofs.YtidjhgajglebnaaGreatDoor
open Go Go.Ax Go.Proofs Tryz
set_option maxRecDepth 100000
set_option maxHeartbeats 16000000
structure TR(A:List Nd)(S:List aT):Prop where
 own:∀x∈A,∀v∈x.values,v∈S
 kid:∀u∈S,∀w∈xR u,w∈S
 ok:∀u∈S,g5 u/\bS u=0
 len:A.length*(S.length+1)<=34000000000
def Pp:aT:=.mk 0 0 [] []
structure IB(A:List Nd)(S:List aT)(E:List Key):Prop where
 nod:E.Nodup
 node:∀k∈E,k.1<A.length
 val:∀k∈E,∀v,k.2=some v->v∈S
theorem IB.len{A:List Nd}{S:List aT}{E:List Key}(h:IB A S E)(hS:TR A S):E.length<=34000000000:=by
 have h1:=D4 (m:=(List.range A.length).flatMap fun i=>(none::S.map some).map fun o=>(i,o)) h.nod fun k hk=>by
  refine W5.2 ⟨k.1,WM.2 (h.node k hk),US.2 ⟨k.2, ?_,rfl⟩⟩;cases ho:k.2 with
  | none=>exact UN ..
  | some v=>exact UF _ (US.2 ⟨v,h.val k hk v ho,rfl⟩)
 have h2:=AG (fun i:Nat=>(none::S.map some).map fun o=>((i,o):Key)) (S.length+1) (List.range A.length) fun x _=>by simp
 rw[List.length_range] at h2;have:=hS.len;omega
theorem IB.nil(A:List Nd)(S:List aT):IB A S []:=⟨Wy,by simp,by simp⟩
theorem IB.snoc{A:List Nd}{S:List aT}{E:List Key}(h:IB A S E){k:Key}(hk:k∉E)(h1:k.1<A.length)(h2:∀v,k.2=some v->v∈S):IB A S (E++[k]):=by
 refine⟨?_,fun q hq=>?_,fun q hq v hv=>?_⟩
 ·rw[V7];refine⟨h.nod,by simp,fun a ha b hb e=>?_⟩;rw[VD.1 hb] at e;exact hk (e ▸ ha)
 ·rcases UI.1 hq with hq|hq
  ·exact h.node q hq
  ·rw[VD.1 hq];exact h1
 ·rcases UI.1 hq with hq|hq
  ·exact h.val q hq v hv
  ·rw[VD.1 hq] at hv;exact h2 v hv
set_option maxHeartbeats 16000000
set_option maxHeartbeats 16000000
set_option maxHeartbeats 16000000
set_option maxHeartbeats 16000000
set_option maxHeartbeats 16000000
end Go.Proofs.YtidjhgajglebnaaGreatDoor
namespace Go.Ax
open Go
theorem VT.wlen{A:List Nd}(h:VT A){i:Nat}{x:Nd}(hx:A[i]? = some x)(h2:x.kind=2):x.weights.length=x.kids.length/\1<=x.kids.length:=by
 have hf:=iX (pR A h.v0 i x hx);unfold c7 at hf;simp only[Tz,U5,UJ] at hf;rcases hf.1.1.1.2 with h3|h3
 ·exact absurd h2 h3
 ·exact⟨h3.1.2,h3.1.1.1⟩
section
variable {A:List Nd} (h:VT A) {i:Nat} (hi:i<A.length)
include h hi
end
section
variable {A:List Nd} (h:VT A) {i:Nat} (hi:i<A.length)
include h hi
end
end Go.Ax
