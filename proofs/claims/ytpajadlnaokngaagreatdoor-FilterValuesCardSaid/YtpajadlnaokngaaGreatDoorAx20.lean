/- A part of the proof. -/
import Derived.Test.YtpajadlnaokngaaGreatDoorAx19
set_option linter.unusedVariables false
set_option linter.unusedSimpArgs false
set_option linter.unusedSectionVars false
namespace Go.Proofs.YtpajadlnaokngaaGreatDoor
open Go Go.Ax Go.Proofs Tryz
theorem mM:∀p∈gz,NN p.2:=fun p hp=>by
 simp only[gz,Qw,List.not_mem_nil,or_false] at hp;rcases hp with rfl|rfl|rfl
 ·exact nn
 ·exact nn
 ·exact nn
end Go.Proofs.YtpajadlnaokngaaGreatDoor
namespace Go.Ax
open Go
theorem Nr{mem:aN}{id len:Nat}{t:TypeId}{sz:Nat}{xs ys:List AV}(h1:lk mem id=some (.row t sz xs))(e:len=xs.length)(h:xs=ys)(h5:iV ys):Cv mem [] (.sl id 0 len) (.il sz ys):=by
 subst e h;exact Cv.fzR h1 rfl (.same h5) rfl
theorem Mx{l:List Int}{k:Nat}(h:k<l.length):(aW l)[(k:Int).toNat]? = some (.int .i64 l[k]):=by simp[aW,Qq h]
end Go.Ax
