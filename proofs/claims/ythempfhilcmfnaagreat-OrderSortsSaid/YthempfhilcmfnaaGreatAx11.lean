/- A part of the proof. -/
import Derived.Test.YthempfhilcmfnaaGreatAx10
import Derived.Test.YthempfhilcmfnaaGreatProg
import Derived.KernelRfl
set_option linter.unusedVariables false
namespace Go.Proofs.YthempfhilcmfnaaGreat
open Go Go.Ax Go.Proofs
set_option maxRecDepth 100000
set_option maxHeartbeats 4000000
set_option maxHeartbeats 4000000
set_option maxHeartbeats 4000000
theorem i64w (n : Int) : i64 (IntKind.i64.wrap n) := by
 rw [IntKind.wrap_i64]
 exact ⟨by omega,by omega⟩
theorem rAround (n most : Int) (hn : i64 n) (hm : 1 ≤ most) : PureC Tryz.prog [] 18 [.int .i64 n,.int .i64 most] (.int .i64 (aroundI n most)) := by
 have hz : decide (most ≠ 0) = true := by simp; omega
 unfold i64 at hn
 refine acalls_go nnΓ Tryz.func18 rfl ?_
 ((conv=>whnf);repeat(refine Xg ?_;conv=>whnf))
 refine bcs_mk (fun h => ?_) (fun h => ?_)
 ·have h : n < 0 := by simpa using h
  ((conv=>whnf);repeat(refine Xg ?_;conv=>whnf))
  refine grd_mk (by rw [decide_eq_false (by omega)]; rfl) ?_
  ((conv=>whnf);repeat(refine Xg ?_;conv=>whnf))
  refine fin_pure nn ⟨?_,rfl,rfl⟩
  rw [aroundI,if_pos h,w64 (x := n + 1) (y := n + 1) rfl ⟨by omega,by omega⟩,w64 (x := 0 - (n + 1)) (y := -(n + 1)) (by omega) ⟨by omega,by omega⟩]
 ·have h : ¬ n < 0 := by simpa using h
  ((conv=>whnf);repeat(refine Xg ?_;conv=>whnf))
  refine grd_mk (by rw [decide_eq_false (by omega)]; rfl) ?_
  ((conv=>whnf);repeat(refine Xg ?_;conv=>whnf))
  refine fin_pure nn ⟨?_,rfl,rfl⟩
  rw [aroundI,if_neg h]
theorem rPick (l : List Int) (i most : Int) (hl : ∀ x ∈ l,i64 x) (hm : 1 ≤ most) : PureC Tryz.prog [] 10 [.il 1 (Go.Ax.encI l),.int .i64 i,.int .i64 most] (.int .i64 (pickI l i most)) := by
 refine acalls_go nnΓ Tryz.func10 rfl ?_
 ((conv=>whnf);repeat(refine Xg ?_;conv=>whnf))
 refine bcs_mk (fun h => ?_) (fun h => ?_)
 ·rw [h]
  ((conv=>whnf);repeat(refine Xg ?_;conv=>whnf))
  refine fin_pure nn ⟨?_,rfl,rfl⟩
  rw [pickI,if_pos (.inl (by simpa using h))]
 ·have h0 : 0 ≤ i := by simpa using h
  rw [h]
  ((conv=>whnf);repeat(refine Xg ?_;conv=>whnf))
  refine bcs_mk (fun h => ?_) (fun h => ?_)
  ·((conv=>whnf);repeat(refine Xg ?_;conv=>whnf))
   refine fin_pure nn ⟨?_,rfl,rfl⟩
   rw [encI_length] at h
   rw [pickI,if_pos (.inr (by simpa using h))]
  ·rw [encI_length] at h
   have h1 : i < l.length := by simpa using h
   obtain ⟨q,rfl⟩ := Int.eq_ofNat_of_zero_le h0
   have hq : q < l.length := by omega
   ((conv=>whnf);repeat(refine Xg ?_;conv=>whnf))
   refine opt_mk (a := .int .i64 l[q]) (by rw [Int.toNat_natCast,encI_get,List.getElem?_eq_getElem hq]; rfl) ?_
   ((conv=>whnf);repeat(refine Xg ?_;conv=>whnf))
   refine (rAround l[q] most (hl _ (List.getElem_mem hq)) hm).go ?_
   ((conv=>whnf);repeat(refine Xg ?_;conv=>whnf))
   refine fin_pure nn ⟨?_,rfl,rfl⟩
   rw [pickI,if_neg (by omega),Int.toNat_natCast,List.getD_eq_getElem?_getD,List.getElem?_eq_getElem hq]
   rfl
end Go.Proofs.YthempfhilcmfnaaGreat
