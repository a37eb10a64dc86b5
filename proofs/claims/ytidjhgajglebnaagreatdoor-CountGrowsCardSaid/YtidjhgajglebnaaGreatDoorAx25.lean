/- A part of the proof. -/
import Derived.Test.YtidjhgajglebnaaGreatDoorAx24
set_option linter.unusedVariables false
set_option linter.unusedSimpArgs false
namespace Go.Proofs.YtidjhgajglebnaaGreatDoor
open Go Go.Ax Go.Proofs Tryz
set_option maxRecDepth 100000
set_option maxHeartbeats 16000000
theorem Cs(A:List Nd):NN (.agg [.il 12 (bD A)]):=.agg' (.cons (.il' (aX _)) .nil)
end Go.Proofs.YtidjhgajglebnaaGreatDoor
namespace Go.Ax
open Go
theorem IS{A B:List Nd}{i:Nat}(h:i<A.length):aO (A++B) i=aO A i:=by
 have h1:=b9 (A:=A++B) (i:=i) (by simp;omega);have h2:=b9 (A:=A) (i:=i) h;rw[UY h,h2] at h1;exact(Option.some.inj h1).symm
theorem AU{A:List Nd}{x:Nd}:aO (A++[x]) A.length=x:=by
 have h1:=b9 (A:=A++[x]) (i:=A.length) (by simp);rw[Uf (UC _)] at h1;simp at h1;exact h1.symm
theorem Sys.app{S R:Type}(y:Sys S R){A B:List Nd}(h:VT A)(h':VT (A++B)):∀i,i<A.length->y.all (A++B) i=y.all A i/\∀v,y.of (A++B) i v=y.of A i v:=by
 intro i
 induction i using Nat.strongRecOn with
 | ind i ih=>
  intro hi;have hi':i<(A++B).length:=by simp;omega
  have hn:=IS (B:=B) hi;have hk:=fun(k:Int) (hk:k∈(aO A i).kids)=>g7 h (b9 hi) hk
  have ia:=fun(k:Int) (hm:k∈(aO A i).kids)=>ih k.toNat (hk k hm).2 (by have:=hk k hm;omega)
  rw[y.all_eq h' hi',y.all_eq h hi,hn];refine⟨y.la _ _ _ _ _ (fun k hm=>(ia k hm).1) fun k hm=>(ia k hm).2,fun v=>?_⟩;rw[y.of_eq h' hi',y.of_eq h hi,hn];exact y.lf _ _ _ _ fun k hm=>(ia k hm).2
theorem IW{A:List Nd}{x:Nd}{i k:Nat}(h:VT A)(h':VT (A++[x]))(h2:x.kind=2)(hk:x.kids=[(i:Int),(k:Int)])(hi:i<A.length)(hk':k<A.length):cV.all (A++[x]) A.length=cV.all A i+cV.all A k:=by
 rw[cV.all_eq h' (by simp),AU]
 show iG _ _ _=_
 unfold iG;rw[T5 (by omega),T5 (by omega),T7 h2,hk];simp only[UR,XE,T4,UT];rw[(cV.app h h' i hi).1,(cV.app h h' k hk').1]
theorem Ns{A:List Nd}{x:Nd}{i k:Nat}(h:VT A)(h':VT (A++[x]))(h3:x.kind=3)(hk:x.kids=[(i:Int),(k:Int)])(hi:i<A.length)(hk':k<A.length):cV.all (A++[x]) A.length=cV.all A i*cV.all A k:=by
 rw[cV.all_eq h' (by simp),AU]
 show iG _ _ _=_
 unfold iG;rw[T5 (by omega),T7 h3,hk];simp only[UR,XE,T4,U8];rw[(cV.app h h' i hi).1,(cV.app h h' k hk').1]
end Go.Ax
