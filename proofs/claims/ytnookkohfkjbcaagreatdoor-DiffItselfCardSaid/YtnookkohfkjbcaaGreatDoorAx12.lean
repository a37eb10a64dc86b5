/- A part of the proof. -/
import Derived.Test.YtnookkohfkjbcaaGreatDoorAx11
import Derived.Test.YtnookkohfkjbcaaGreatDoorProg
import Derived.KernelRfl
set_option linter.unusedVariables false
namespace Go.Proofs.YtnookkohfkjbcaaGreatDoor
open Go Go.Ax Go.Proofs
set_option maxRecDepth 100000
set_option maxHeartbeats 8000000
theorem rCap14 (s : List UInt8) (hs : s.length ≤ 4294967296) : PureC Tryz.prog [] 102 [.str s] (.bool (capital s)) := by
  refine acalls_go nnΓ Tryz.func102 rfl ?_
  ((conv=>whnf);repeat(refine Xg ?_;conv=>whnf))
  refine bcs_mk (fun h => ?_) (fun h => ?_)
  · rw [h]
    ((conv=>whnf);repeat(refine Xg ?_;conv=>whnf))
    refine fin_pure nn ⟨?_,rfl,rfl⟩
    rw [capital_nil (by simp at h; rw [h]; simp)]
  have h1 : 1 ≤ s.length := by
    rcases Nat.eq_zero_or_pos s.length with h' | h'
    · rw [h'] at h; simp at h
    · exact h'
  rw [h]
  ((conv=>whnf);repeat(refine Xg ?_;conv=>whnf))
  refine bcs_mk (fun h => ?_) (fun h => ?_)
  · rw [h]
    ((conv=>whnf);repeat(refine Xg ?_;conv=>whnf))
    refine fin_pure nn ⟨?_,rfl,rfl⟩
    rw [capital_long (by simp at h; omega)]
  have h2 : s.length ≤ 16 := by simp at h; omega
  rw [h]
  obtain ⟨a,ha⟩ : ∃ a,s[0]? = some a := ⟨s[0],by simp⟩
  ((conv=>whnf);repeat(refine Xg ?_;conv=>whnf))
  refine opt_mk ha ?_
  ((conv=>whnf);repeat(refine Xg ?_;conv=>whnf))
  refine bcs_mk (fun h => ?_) (fun h => ?_)
  · rw [h]
    ((conv=>whnf);repeat(refine Xg ?_;conv=>whnf))
    refine fin_pure nn ⟨?_,rfl,rfl⟩
    rw [capital_up ha (by simp [upper] at *; omega)]
  have h3 : 65 ≤ (a.toNat : Int) := by simpa using h
  rw [h]
  ((conv=>whnf);repeat(refine Xg ?_;conv=>whnf))
  refine opt_mk ha ?_
  ((conv=>whnf);repeat(refine Xg ?_;conv=>whnf))
  refine bcs_mk (fun h => ?_) (fun h => ?_)
  · ((conv=>whnf);repeat(refine Xg ?_;conv=>whnf))
    refine fin_pure nn ⟨?_,rfl,rfl⟩
    rw [capital_up ha (by simp [upper] at *; omega)]
  have h4 : (a.toNat : Int) ≤ 90 := by simpa using h
  ((conv=>whnf);repeat(refine Xg ?_;conv=>whnf))
  refine ALoop.at nnΓ (fun i : Nat => i ≤ s.length ∧ ∀ j c,j < i → s[j]? = some c → inNm c.toNat = true)
    (fun i => ⟨[(0,.str s),(3,.int .i64 i)],[],0,59⟩) (fun i => s.length - i) 0 [] ⟨by simp,by simp⟩
    (conv_pure ⟨⟨_,rfl,.same _ nn⟩,⟨_,rfl,.same _ nn⟩,trivial⟩) ?_
  rintro i ⟨hi,hall⟩
  ((conv=>whnf);repeat(refine Xg ?_;conv=>whnf))
  refine bcs_mk (fun h => ?_) (fun h => ?_)
  · have hlt : i < s.length := by simpa using h
    obtain ⟨c,hc⟩ : ∃ c,s[i]? = some c := ⟨s[i],by simp [hlt]⟩
    have hc' : s[(i : Int).toNat]? = some c := by rw [Int.toNat_natCast]; exact hc
    ((conv=>whnf);repeat(refine Xg ?_;conv=>whnf))
    refine opt_mk hc' ?_
    ((conv=>whnf);repeat(refine Xg ?_;conv=>whnf))
    repeat' (refine bcs_mk (fun h => ?_) (fun h => ?_) <;> ((try rw [h]); ((conv=>whnf);repeat(refine Xg ?_;conv=>whnf))))
    all_goals first
      | (refine fin_pure nn ⟨?_,rfl,rfl⟩
         rw [capital_in hc (by rw [Bool.eq_false_iff]; simp [inNm] at *; omega)])
      | (refine .mk (i + 1) [] ⟨by omega,fun j c2 hj hc2 => ?_⟩ (conv_pure ⟨⟨_,rfl,.same _ nn⟩,⟨_,rfl,.w64 (by omega) ⟨by omega,by omega⟩⟩,trivial⟩) (by omega)
         rcases Nat.lt_or_ge j i with hj' | hj'
         · exact hall j c2 hj' hc2
         · have hji : j = i := by omega
           rw [hji,hc] at hc2
           cases hc2
           simp [inNm] at *
           omega)
  · ((conv=>whnf);repeat(refine Xg ?_;conv=>whnf))
    refine fin_pure nn ⟨?_,rfl,rfl⟩
    have hk : i = s.length := by simp at h; omega
    rw [capital_of ha h2 (by simp [upper]; omega) fun j c hc => hall j c (by rw [hk]; exact (List.getElem?_eq_some_iff.1 hc).1) hc]
theorem rUnused (x : Nd) : PureC Tryz.prog [] 101 [encN x] (.bool (unusedN x)) := by
 obtain ⟨kind,name,lo,hi,ws,ls,vals,kids,⟨vk,vn,vs,vks⟩⟩ := x
 refine acalls_go nnΓ Tryz.func101 rfl ?_
 rcases (show kind = 0 ∨ kind = 1 ∨ kind = 2 ∨ kind = 3 ∨ kind = 4 ∨ (kind ≠ 0 ∧ kind ≠ 1 ∧ kind ≠ 2 ∧ kind ≠ 3 ∧ kind ≠ 4) by omega) with rfl | rfl | rfl | rfl | rfl | hk
 all_goals
  ((conv=>whnf);repeat(refine Xg ?_;conv=>whnf))
  repeat' (refine bcs_mk (fun h => ?_) (fun h => ?_) <;> ((try rw [h]); ((conv=>whnf);repeat(refine Xg ?_;conv=>whnf))))
 all_goals
  refine fin_pure nn ⟨?_,rfl,rfl⟩
  congr 1
  rw [Bool.eq_iff_iff]
  simp_all [unusedN,zeroV,encVs_length,encI_length,encS_length,List.length_pos_iff]
theorem rNumbers (x : Nd) (hx : okN x) : PureC Tryz.prog [] 80 [encN x] (.bool (numbersN x)) := by
 have b1 := hx.lo
 have b2 := hx.hi
 have b3 := hx.weights
 clear hx
 obtain ⟨kind,name,lo,hi,ws,ls,vals,kids,⟨vk,vn,vs,vks⟩⟩ := x
 simp only [i64] at b1 b2 b3
 have hnum : numbersN ⟨kind,name,lo,hi,ws,ls,vals,kids,.mk vk vn vs vks⟩ = (decide (lo ≤ hi) && decide (-4611686018427387904 ≤ lo) && decide (hi ≤ 4611686018427387904) && decide (hi < lo + 1099511627776) && ws.all fun w => decide (1 ≤ w) && decide (w ≤ 1000)) := rfl
 generalize numbersN ⟨kind,name,lo,hi,ws,ls,vals,kids,.mk vk vn vs vks⟩ = res at hnum
 have hF : ∀ P : Prop,(res = true → P) → (¬ P) → res = false := fun P h1 h2 => by
  cases hr : res with
  | false => rfl
  | true => exact absurd (h1 hr) h2
 refine acalls_go nnΓ Tryz.func80 rfl ?_
 ((conv=>whnf);repeat(refine Xg ?_;conv=>whnf))
 refine bcs_mk (fun h => ?_) (fun h => ?_)
 ·rw [h]
  ((conv=>whnf);repeat(refine Xg ?_;conv=>whnf))
  refine fin_pure nn ⟨?_,rfl,rfl⟩
  rw [hF (lo ≤ hi) (by intro e; rw [hnum] at e; simp at e; omega) (by simp at h; omega)]
 have h1 : lo ≤ hi := by simpa using h
 rw [h]
 ((conv=>whnf);repeat(refine Xg ?_;conv=>whnf))
 refine bcs_mk (fun h => ?_) (fun h => ?_)
 ·rw [h]
  ((conv=>whnf);repeat(refine Xg ?_;conv=>whnf))
  refine fin_pure nn ⟨?_,rfl,rfl⟩
  rw [hF (-4611686018427387904 ≤ lo) (by intro e; rw [hnum] at e; simp at e; omega) (by simp at h; omega)]
 have h2 : -4611686018427387904 ≤ lo := by simpa using h
 rw [h]
 ((conv=>whnf);repeat(refine Xg ?_;conv=>whnf))
 refine bcs_mk (fun h => ?_) (fun h => ?_)
 ·rw [h]
  ((conv=>whnf);repeat(refine Xg ?_;conv=>whnf))
  refine fin_pure nn ⟨?_,rfl,rfl⟩
  rw [hF (hi ≤ 4611686018427387904) (by intro e; rw [hnum] at e; simp at e; omega) (by simp at h; omega)]
 have h3 : hi ≤ 4611686018427387904 := by simpa using h
 rw [h]
 have hw : IntKind.i64.wrap (lo + 1099511627776) = lo + 1099511627776 := w64 rfl ⟨by omega,by omega⟩
 ((conv=>whnf);repeat(refine Xg ?_;conv=>whnf))
 rw [hw]
 refine bcs_mk (fun h => ?_) (fun h => ?_)
 ·((conv=>whnf);repeat(refine Xg ?_;conv=>whnf))
  refine fin_pure nn ⟨?_,rfl,rfl⟩
  rw [hF (hi < lo + 1099511627776) (by intro e; rw [hnum] at e; simp at e; omega) (by simp at h; omega)]
 have h4 : hi < lo + 1099511627776 := by simpa using h
 ((conv=>whnf);repeat(refine Xg ?_;conv=>whnf))
 refine ALoop.at nnΓ (fun k : Nat => k ≤ ws.length ∧ ∀ j w,j < k → ws[j]? = some w → 1 ≤ w ∧ w ≤ 1000)
  (fun k => ⟨[(1,.ptr 0 0 0),(3,.int .i64 k)],[(0,.row 35 12 [encN ⟨kind,name,lo,hi,ws,ls,vals,kids,.mk vk vn vs vks⟩])],1,48⟩) (fun k => ws.length - k) 0 [(0,0)] ⟨by simp,by simp⟩
  (conv_mk _ rfl ⟨⟨0,_,rfl,rfl,.same (.cons (encN_nn _) .nil)⟩,trivial⟩ ⟨⟨_,rfl,.ptr 0 0 0 0 rfl⟩,⟨_,rfl,.same _ nn⟩,trivial⟩) ?_
 rintro k ⟨hk,hall⟩
 ((conv=>whnf);repeat(refine Xg ?_;conv=>whnf))
 refine bcs_mk (fun h => ?_) (fun h => ?_)
 ·have hlt : k < ws.length := by rw [encI_length] at h; simpa using h
  have e1 : (encI ws)[(k : Int).toNat]? = some (.int .i64 ws[k]) := by rw [Int.toNat_natCast,encI_get,List.getElem?_eq_getElem hlt]; rfl
  have hg : ws[k]? = some ws[k] := List.getElem?_eq_getElem hlt
  generalize ws[k] = w at e1 hg
  have hbad : (1 ≤ w ∧ w ≤ 1000 → False) → res = false := fun hb => hF (1 ≤ w ∧ w ≤ 1000) (by
   intro e
   rw [hnum] at e
   simp only [Bool.and_eq_true,List.all_eq_true,decide_eq_true_eq] at e
   exact e.2 w (List.mem_of_getElem? hg)) hb
  ((conv=>whnf);repeat(refine Xg ?_;conv=>whnf))
  refine opt_mk e1 ?_
  ((conv=>whnf);repeat(refine Xg ?_;conv=>whnf))
  refine bcs_mk (fun h => ?_) (fun h => ?_)
  ·rw [h]
   ((conv=>whnf);repeat(refine Xg ?_;conv=>whnf))
   refine fin_pure nn ⟨?_,rfl,rfl⟩
   rw [hbad (by simp at h; omega)]
  ·have g1 : 1 ≤ w := by simpa using h
   rw [h]
   ((conv=>whnf);repeat(refine Xg ?_;conv=>whnf))
   refine opt_mk e1 ?_
   ((conv=>whnf);repeat(refine Xg ?_;conv=>whnf))
   refine bcs_mk (fun h => ?_) (fun h => ?_)
   ·((conv=>whnf);repeat(refine Xg ?_;conv=>whnf))
    refine fin_pure nn ⟨?_,rfl,rfl⟩
    rw [hbad (by simp at h; omega)]
   ·have g2 : w ≤ 1000 := by simpa using h
    ((conv=>whnf);repeat(refine Xg ?_;conv=>whnf))
    refine .mk (k + 1) [(0,0)] ⟨by omega,fun j w2 hj hw2 => ?_⟩ (conv_mk _ rfl ⟨⟨0,_,rfl,rfl,.same (.cons (encN_nn _) .nil)⟩,trivial⟩ ⟨⟨_,rfl,.ptr 0 0 0 0 rfl⟩,⟨_,rfl,.w64 (by omega) ⟨by omega,by omega⟩⟩,trivial⟩) (by omega)
    rcases Nat.lt_or_ge j k with hj' | hj'
    ·exact hall j w2 hj' hw2
    ·have hjk : j = k := by omega
     rw [hjk,hg] at hw2
     cases hw2
     exact ⟨g1,g2⟩
 ·have hk' : k = ws.length := by rw [encI_length] at h; simp at h; omega
  ((conv=>whnf);repeat(refine Xg ?_;conv=>whnf))
  refine fin_pure nn ⟨?_,rfl,rfl⟩
  rw [hnum]
  congr 1
  symm
  simp only [Bool.and_eq_true,List.all_eq_true,decide_eq_true_eq]
  refine ⟨⟨⟨⟨h1,h2⟩,h3⟩,h4⟩,fun w hw => ?_⟩
  obtain ⟨j,hj⟩ := List.getElem?_of_mem hw
  exact hall j w (by rw [hk']; exact (List.getElem?_eq_some_iff.1 hj).1) hj
theorem isNaNI (x : Int) : PureC Tryz.prog [] 112 [.int .i64 x] (.bool false) := by
 refine acalls_run nnΓ Tryz.func112 rfl ?_
 conv => whnf
 refine fin_pure (.bool _) ⟨?_, rfl, rfl⟩
 simp
theorem isNaNS (x : List UInt8) : PureC Tryz.prog [] 113 [.str x] (.bool false) := by
 refine acalls_run nnΓ Tryz.func113 rfl ?_
 conv => whnf
 refine fin_pure (.bool _) ⟨?_, rfl, rfl⟩
 simp
theorem cmpInt (x y : Int) : PureC Tryz.prog [] 88 [.int .i64 x, .int .i64 y] (.int .i64 (cmpI x y)) := by
 refine acalls_run nnΓ Tryz.func88 rfl ?_
 conv => whnf
 refine (isNaNI x).use nnΓ (.cons (.int _ _) .nil) (.bool _) ?_
 conv => whnf
 refine (isNaNI y).use nnΓ (.cons (.int _ _) .nil) (.bool _) ?_
 conv => whnf
 refine bcs_mk (fun h => ?_) (fun h => ?_)
 ·conv => whnf
  refine fin_pure (.int _ _) ⟨?_, rfl, rfl⟩
  simp at h
  simp [cmpI, h]
 conv => whnf
 refine bcs_mk (fun h' => ?_) (fun h' => ?_)
 ·conv => whnf
  refine fin_pure (.int _ _) ⟨?_, rfl, rfl⟩
  simp at h h'
  simp only [cmpI]
  rw [if_neg (by omega), if_pos (by omega)]
 ·conv => whnf
  refine fin_pure (.int _ _) ⟨?_, rfl, rfl⟩
  simp at h h'
  simp only [cmpI]
  rw [if_neg (by omega), if_neg (by omega)]
theorem cmpStr (x y : List UInt8) : PureC Tryz.prog [] 89 [.str x, .str y] (.int .i64 (cmpS x y)) := by
 refine acalls_run nnΓ Tryz.func89 rfl ?_
 conv => whnf
 refine (isNaNS x).use nnΓ (.cons (.str _) .nil) (.bool _) ?_
 conv => whnf
 refine (isNaNS y).use nnΓ (.cons (.str _) .nil) (.bool _) ?_
 conv => whnf
 refine bcs_mk (fun h => ?_) (fun h => ?_)
 ·conv => whnf
  refine fin_pure (.int _ _) ⟨?_, rfl, rfl⟩
  rw [cmpS_less.1 h]
 conv => whnf
 refine bcs_mk (fun h' => ?_) (fun h' => ?_)
 ·conv => whnf
  refine fin_pure (.int _ _) ⟨?_, rfl, rfl⟩
  rw [cmpS_more h h']
 ·conv => whnf
  refine fin_pure (.int _ _) ⟨?_, rfl, rfl⟩
  rw [cmpS_same h h']
theorem cmpFunc (l1 l2 : List Val) (hb : l1.length ≤ 4294967296) (hc : ∀ a ∈ l1, ∀ b ∈ l2, PureC Tryz.prog [] 59 [encV a, encV b] (.int .i64 (cmpV a b))) :
  PureC Tryz.prog [] 90 [.il 4 (encVs l1), .il 4 (encVs l2), .fn (.func 59) [] []] (.int .i64 (cmpL l1 l2)) := by
 have n1 : NN (.il 4 (encVs l1)) := .il' (encVs_nn l1)
 have n2 : NN (.il 4 (encVs l2)) := .il' (encVs_nn l2)
 have n3 : NN (.fn (.func 59) [] []) := .fn _ _ _ (by simp) (by simp)
 refine acalls_run nnΓ Tryz.func90 rfl ?_
 conv => whnf
 refine AWp.loopAt nnΓ (fun k : Nat => k ≤ l1.length ∧ k ≤ l2.length ∧ cmpL l1 l2 = cmpL (l1.drop k) (l2.drop k))
  (fun k => ⟨[(0, .il 4 (encVs l1)), (1, .il 4 (encVs l2)), (2, .fn (.func 59) [] []), (11, .il 4 (encVs l1)), (12, .int .i64 (encVs l1).length), (13, .int .i64 k)], [], 0, 39⟩)
  (fun k => l1.length - k) 0 [] ⟨by simp, by simp, by simp⟩
  (conv_pure ⟨⟨_, rfl, .same _ n1⟩, ⟨_, rfl, .same _ n2⟩, ⟨_, rfl, .same _ n3⟩, ⟨_, rfl, .same _ n1⟩, ⟨_, rfl, .same _ (.int _ _)⟩, ⟨_, rfl, .same _ (.int _ _)⟩, trivial⟩) ?_
 rintro k ⟨h1, h2, h3⟩
 conv => whnf
 refine bcs_mk (fun h => ?_) (fun h => ?_)
 ·have hk : k < l1.length := by rw [encVs_length] at h; simpa using h
  obtain ⟨⟨ka, na, sa, ksa⟩, hv⟩ : ∃ v, v = l1[k] := ⟨_, rfl⟩
  have hm : Val.mk ka na sa ksa ∈ l1 := by rw [hv]; exact List.getElem_mem hk
  have e : (encVs l1)[(k : Int).toNat]? = some (encV (.mk ka na sa ksa)) := by rw [Int.toNat_natCast, encVs_get, List.getElem?_eq_getElem hk, hv]; rfl
  conv => whnf
  refine opt_mk e ?_
  conv => whnf
  refine bcs_mk (fun h' => ?_) (fun h' => ?_)
  ·have hk2 : k = l2.length := by rw [encVs_length] at h'; simp at h'; omega
   conv => whnf
   refine fin_pure (.int _ _) ⟨?_, rfl, rfl⟩
   rw [h3, List.drop_of_length_le (l := l2) (by omega), List.drop_eq_getElem_cons hk, cmpL]
  ·have hk2 : k < l2.length := by rw [encVs_length] at h'; simpa using h'
   obtain ⟨⟨kb, nb, sb, ksb⟩, hv2⟩ : ∃ v, v = l2[k] := ⟨_, rfl⟩
   have hm2 : Val.mk kb nb sb ksb ∈ l2 := by rw [hv2]; exact List.getElem_mem hk2
   have e2 : (encVs l2)[(k : Int).toNat]? = some (encV (.mk kb nb sb ksb)) := by rw [Int.toNat_natCast, encVs_get, List.getElem?_eq_getElem hk2, hv2]; rfl
   conv => whnf
   refine opt_mk e2 ?_
   conv => whnf
   refine (hc _ hm _ hm2).use nnΓ (.cons (encV_nn _) (.cons (encV_nn _) .nil)) (.int _ _) ?_
   conv => whnf
   have hs := cmpL_step hk hk2
   rw [← hv, ← hv2] at hs
   refine bcs_mk (fun h4 => ?_) (fun h4 => ?_)
   ·conv => whnf
    refine fin_pure (.int _ _) ⟨?_, rfl, rfl⟩
    have h4 : cmpV (.mk ka na sa ksa) (.mk kb nb sb ksb) ≠ 0 := by simpa using h4
    rw [h3, hs, andThen, if_neg h4]
   ·have h4 : cmpV (.mk ka na sa ksa) (.mk kb nb sb ksb) = 0 := by simpa using h4
    conv => whnf
    refine .mk (k + 1) [] ⟨by omega, by omega, ?_⟩ (conv_pure ⟨⟨_, rfl, .same _ n1⟩, ⟨_, rfl, .same _ n2⟩, ⟨_, rfl, .same _ n3⟩, ⟨_, rfl, .same _ n1⟩, ⟨_, rfl, .same _ (.int _ _)⟩, ⟨_, rfl, .eq (.int _ _) ?_⟩, trivial⟩) (by omega)
    ·rw [h3, hs, andThen, if_pos h4]
    ·rw [wrap64 ⟨by omega, by omega⟩]; rfl
 ·have hk : k = l1.length := by rw [encVs_length] at h; simp at h; omega
  have hd : l1.drop k = [] := List.drop_of_length_le (by omega)
  conv => whnf
  refine bcs_mk (fun h' => ?_) (fun h' => ?_)
  ·have hk2 : l1.length < l2.length := by rw [encVs_length, encVs_length] at h'; simpa using h'
   conv => whnf
   refine fin_pure (.int _ _) ⟨?_, rfl, rfl⟩
   rw [h3, hd, List.drop_eq_getElem_cons (show k < l2.length by omega), cmpL]
  ·have hk2 : l2.length ≤ l1.length := by rw [encVs_length, encVs_length] at h'; simpa using h'
   conv => whnf
   refine fin_pure (.int _ _) ⟨?_, rfl, rfl⟩
   rw [h3, hd, List.drop_of_length_le (by omega), cmpL]
theorem vCompare : ∀ (a b : Val), okV a → PureC Tryz.prog [] 59 [encV a, encV b] (.int .i64 (cmpV a b))
 | .mk ka na sa ksa, .mk kb nb sb ksb, ha => by
  simp only [okV] at ha
  have hkids : ∀ a ∈ ksa, ∀ b ∈ ksb, PureC Tryz.prog [] 59 [encV a, encV b] (.int .i64 (cmpV a b)) := fun a hm b _ => vCompare a b (okVs_mem ha.2.2.2.2 a hm)
  refine acalls_run nnΓ Tryz.func59 rfl ?_
  conv => whnf
  refine (cmpInt ka kb).use nnΓ (.cons (.int _ _) (.cons (.int _ _) .nil)) (.int _ _) ?_
  conv => whnf
  refine bcs_mk (fun h => ?_) (fun h => ?_)
  ·conv => whnf
   refine fin_pure (.int _ _) ⟨?_, rfl, rfl⟩
   have h : cmpI ka kb ≠ 0 := by simpa using h
   rw [cmpV, andThen, if_neg h]
  have h : cmpI ka kb = 0 := by simpa using h
  conv => whnf
  refine (cmpInt na nb).use nnΓ (.cons (.int _ _) (.cons (.int _ _) .nil)) (.int _ _) ?_
  conv => whnf
  refine bcs_mk (fun h2 => ?_) (fun h2 => ?_)
  ·conv => whnf
   refine fin_pure (.int _ _) ⟨?_, rfl, rfl⟩
   have h2 : cmpI na nb ≠ 0 := by simpa using h2
   rw [cmpV, andThen, if_pos h, andThen, if_neg h2]
  have h2 : cmpI na nb = 0 := by simpa using h2
  conv => whnf
  refine (cmpStr sa sb).use nnΓ (.cons (.str _) (.cons (.str _) .nil)) (.int _ _) ?_
  conv => whnf
  refine bcs_mk (fun h3 => ?_) (fun h3 => ?_)
  ·conv => whnf
   refine fin_pure (.int _ _) ⟨?_, rfl, rfl⟩
   have h3 : cmpS sa sb ≠ 0 := by simpa using h3
   rw [cmpV, andThen, if_pos h, andThen, if_pos h2, andThen, if_neg h3]
  have h3 : cmpS sa sb = 0 := by simpa using h3
  conv => whnf
  refine (cmpFunc ksa ksb ha.2.2.2.1 hkids).use nnΓ (.cons (.il' (encVs_nn _)) (.cons (.il' (encVs_nn _)) (.cons (.fn _ _ _ (by simp) (by simp)) .nil))) (.int _ _) ?_
  conv => whnf
  refine fin_pure (.int _ _) ⟨?_, rfl, rfl⟩
  rw [cmpV, andThen, if_pos h, andThen, if_pos h2, andThen, if_pos h3]
 termination_by a => SizeOf.sizeOf a
 decreasing_by simp; have := List.sizeOf_lt_of_mem hm; omega
theorem signC (b : Bool) : PureC Tryz.prog [] 86 [.bool b] (.int .i64 (if b then -1 else 1)) := by
 refine acalls_run nnΓ Tryz.func86 rfl ?_
 conv => whnf
 refine bcs_mk (fun h => ?_) (fun h => ?_)
 ·conv => whnf
  exact fin_pure (.int _ _) ⟨by rw [h]; rfl, rfl, rfl⟩
 ·conv => whnf
  exact fin_pure (.int _ _) ⟨by rw [h]; rfl, rfl, rfl⟩
theorem rCompare : ∀ (a b : Val), okV a → PureC Tryz.prog [] 56 [encV a, encV b] (.int .i64 (cmpV a b))
 | .mk ka na sa ksa, .mk kb nb sb ksb, ha => by
  simp only [okV] at ha
  have hb : ksa.length ≤ 4294967296 := ha.2.2.2.1
  have hkids : ∀ a ∈ ksa, ∀ b ∈ ksb, PureC Tryz.prog [] 56 [encV a, encV b] (.int .i64 (cmpV a b)) := fun a hm b _ => rCompare a b (okVs_mem ha.2.2.2.2 a hm)
  refine acalls_run nnΓ Tryz.func56 rfl ?_
  conv => whnf
  refine bcs_mk (fun h => ?_) (fun h => ?_)
  ·conv => whnf
   refine (signC _).use nnΓ (.cons (.bool _) .nil) (.int _ _) ?_
   conv => whnf
   refine fin_pure (.int _ _) ⟨?_, rfl, rfl⟩
   rw [cmpV_kind (by simpa using h)]
   simp
  have h : ka = kb := by simpa using h
  conv => whnf
  refine bcs_mk (fun h2 => ?_) (fun h2 => ?_)
  ·conv => whnf
   refine (signC _).use nnΓ (.cons (.bool _) .nil) (.int _ _) ?_
   conv => whnf
   refine fin_pure (.int _ _) ⟨?_, rfl, rfl⟩
   rw [cmpV_n h (by simpa using h2)]
   simp
  have h2 : na = nb := by simpa using h2
  conv => whnf
  refine bcs_mk (fun h3 => ?_) (fun h3 => ?_)
  ·conv => whnf
   refine (signC _).use nnΓ (.cons (.bool _) .nil) (.int _ _) ?_
   conv => whnf
   refine fin_pure (.int _ _) ⟨?_, rfl, rfl⟩
   rw [cmpV_s h h2 (by simpa using h3)]
  have h3 : sa = sb := by simpa using h3
  have hcmp : cmpV (.mk ka na sa ksa) (.mk kb nb sb ksb) = cmpL ksa ksb := cmpV_l h h2 h3
  conv => whnf
  refine AWp.loopAt nnΓ (fun k : Nat => k ≤ ksa.length ∧ k ≤ ksb.length ∧ cmpL ksa ksb = cmpL (ksa.drop k) (ksb.drop k))
   (fun k => ⟨[(2, .ptr 0 0 0), (3, .ptr 1 0 0), (5, .int .i64 k)], [(1, .row 33 4 [encV (.mk kb nb sb ksb)]), (0, .row 33 4 [encV (.mk ka na sa ksa)])], 2, 83⟩)
   (fun k => ksa.length - k) 0 [(0, 0), (1, 1)] ⟨by simp, by simp, by simp⟩
   (conv_mk _ rfl ⟨⟨1, _, rfl, rfl, .same (.cons (encV_nn _) .nil)⟩, ⟨0, _, rfl, rfl, .same (.cons (encV_nn _) .nil)⟩, trivial⟩ ⟨⟨_, rfl, .ptr 0 0 0 0 rfl⟩, ⟨_, rfl, .ptr 1 1 0 0 rfl⟩, ⟨_, rfl, .same _ (.int _ _)⟩, trivial⟩) ?_
  rintro k ⟨h4, h5, h6⟩
  conv => whnf
  refine bcs_mk (fun h7 => ?_) (fun h7 => ?_)
  ·have hk : k < ksa.length := by rw [encVs_length] at h7; simpa using h7
   rw [h7]
   conv => whnf
   refine bcs_mk (fun h8 => ?_) (fun h8 => ?_)
   ·have hk2 : k < ksb.length := by rw [encVs_length] at h8; simpa using h8
    conv => whnf
    have e1 := enc_at hk
    have e2 := enc_at hk2
    obtain ⟨⟨k1, n1, s1, ks1⟩, hv1⟩ : ∃ v, v = ksa[k] := ⟨_, rfl⟩
    obtain ⟨⟨k2, n2, s2, ks2⟩, hv2⟩ : ∃ v, v = ksb[k] := ⟨_, rfl⟩
    rw [← hv1] at e1
    rw [← hv2] at e2
    refine opt_mk e1 ?_
    conv => whnf
    refine opt_mk e2 ?_
    conv => whnf
    have hm1 : Val.mk k1 n1 s1 ks1 ∈ ksa := by rw [hv1]; exact List.getElem_mem hk
    have hm2 : Val.mk k2 n2 s2 ks2 ∈ ksb := by rw [hv2]; exact List.getElem_mem hk2
    have hs := cmpL_step hk hk2
    rw [← hv1, ← hv2] at hs
    refine (hkids _ hm1 _ hm2).use nnΓ (.cons (encV_nn _) (.cons (encV_nn _) .nil)) (.int _ _) ?_
    conv => whnf
    refine bcs_mk (fun h9 => ?_) (fun h9 => ?_)
    ·have h9 : cmpV (.mk k1 n1 s1 ks1) (.mk k2 n2 s2 ks2) ≠ 0 := by simpa using h9
     conv => whnf
     refine fin_pure (.int _ _) ⟨?_, rfl, rfl⟩
     rw [hcmp, h6, hs, andThen, if_neg h9]
    ·have h9 : cmpV (.mk k1 n1 s1 ks1) (.mk k2 n2 s2 ks2) = 0 := by simpa using h9
     conv => whnf
     refine .mk (k + 1) [(0, 0), (1, 1)] ⟨by omega, by omega, by rw [h6, hs, andThen, if_pos h9]⟩ (conv_mk _ rfl ⟨⟨1, _, rfl, rfl, .same (.cons (encV_nn _) .nil)⟩, ⟨0, _, rfl, rfl, .same (.cons (encV_nn _) .nil)⟩, trivial⟩ ⟨⟨_, rfl, .ptr 0 0 0 0 rfl⟩, ⟨_, rfl, .ptr 1 1 0 0 rfl⟩, ⟨_, rfl, .eq (.int _ _) ?_⟩, trivial⟩) (by omega)
     rw [wrap64 ⟨by omega, by omega⟩]; rfl
   ·have hk2 : k = ksb.length := by rw [encVs_length] at h8; simp at h8; omega
    conv => whnf
    refine bcs_mk (fun h9 => ?_) (fun h9 => ?_)
    ·exfalso
     rw [encVs_length, encVs_length] at h9
     simp at h9
     omega
    ·conv => whnf
     refine (signC _).use nnΓ (.cons (.bool _) .nil) (.int _ _) ?_
     conv => whnf
     refine fin_pure (.int _ _) ⟨?_, rfl, rfl⟩
     rw [hcmp, h6, List.drop_of_length_le (l := ksb) (by omega), List.drop_eq_getElem_cons hk, cmpL, encVs_length, encVs_length, if_neg (by simp; omega)]
  ·have hk : k = ksa.length := by rw [encVs_length] at h7; simp at h7; omega
   have hd : ksa.drop k = [] := List.drop_of_length_le (by omega)
   rw [h7]
   conv => whnf
   refine bcs_mk (fun h9 => ?_) (fun h9 => ?_)
   ·have h9 : ksa.length = ksb.length := by rw [encVs_length, encVs_length] at h9; simp at h9; omega
    conv => whnf
    refine fin_pure (.int _ _) ⟨?_, rfl, rfl⟩
    rw [hcmp, h6, hd, List.drop_of_length_le (by omega), cmpL]
   ·have h9 : ksa.length ≠ ksb.length := by rw [encVs_length, encVs_length] at h9; simp at h9; omega
    conv => whnf
    refine (signC _).use nnΓ (.cons (.bool _) .nil) (.int _ _) ?_
    conv => whnf
    refine fin_pure (.int _ _) ⟨?_, rfl, rfl⟩
    rw [hcmp, h6, hd, List.drop_eq_getElem_cons (show k < ksb.length by omega), cmpL, encVs_length, encVs_length, if_pos (by simp; omega)]
 termination_by a => SizeOf.sizeOf a
 decreasing_by simp; have := List.sizeOf_lt_of_mem hm; omega
end Go.Proofs.YtnookkohfkjbcaaGreatDoor
