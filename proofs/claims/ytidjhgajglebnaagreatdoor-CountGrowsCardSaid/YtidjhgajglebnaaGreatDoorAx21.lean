/- A part of the proof. -/
import Derived.Test.YtidjhgajglebnaaGreatDoorAx20
set_option linter.unusedVariables false
set_option linter.unusedSimpArgs false
namespace Go.Proofs.YtidjhgajglebnaaGreatDoor
open Go Go.Ax Go.Proofs Tryz
set_option maxRecDepth 100000
set_option maxHeartbeats 16000000
end Go.Proofs.YtidjhgajglebnaaGreatDoor
namespace Go.Ax
open Go
theorem D4{α:Type}:∀{l m:List α},l.Nodup->(∀x∈l,x∈m)->l.length<=m.length
 | [],m,_,_=>VL _
 | a::l,m,hn,hs=>by
  obtain⟨m1,m2,rfl⟩:=WI (hs a (UN ..));obtain⟨h1,h2⟩:=Uo.1 hn;have:=D4 (m:=m1++m2) h2 fun x hx=>by
   have hm:=hs x (UF _ hx);rw[UI,T6] at hm;rw[UI];rcases hm with hm|hm|hm
   ·exact .inl hm
   ·subst hm;exact absurd hx h1
   ·exact .inr hm
  simp only[UV,Ul] at this ⊢;omega
theorem AG{α β:Type}(f:α->List β)(N:Nat):∀(l:List α),(∀x∈l,(f x).length<=N)->(l.flatMap f).length<=l.length*N
 | [],_=>by simp
 | a::l,h=>by
  have h1:=h a (UN ..);have h2:=AG f N l fun x hx=>h x (UF _ hx)
  rw[VA,UV,Ul,Nat.succ_mul];omega
end Go.Ax
