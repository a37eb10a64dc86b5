/- A part of the proof. -/
import Derived.Test.YtndfionmfihcoaaGreatDoorAx9
import Derived.Test.YtndfionmfihcoaaGreatDoorProg
import Derived.KernelRfl
set_option linter.unusedVariables false
namespace Go.Proofs.YtndfionmfihcoaaGreatDoor
open Go Go.Ax Go.Proofs
set_option maxRecDepth 100000
theorem isNaNI (x : Int) : PureC Tryz.prog [] 66 [.int .i64 x] (.bool false) := by
 refine acalls_run nnΓ Tryz.func66 rfl ?_
 conv => whnf
 refine fin_pure (.bool _) ⟨?_, rfl, rfl⟩
 simp
theorem isNaNS (x : List UInt8) : PureC Tryz.prog [] 67 [.str x] (.bool false) := by
 refine acalls_run nnΓ Tryz.func67 rfl ?_
 conv => whnf
 refine fin_pure (.bool _) ⟨?_, rfl, rfl⟩
 simp
theorem cmpInt (x y : Int) : PureC Tryz.prog [] 41 [.int .i64 x, .int .i64 y] (.int .i64 (cmpI x y)) := by
 refine acalls_run nnΓ Tryz.func41 rfl ?_
 conv => whnf
 refine (isNaNI x).use nnΓ (.cons (.int _ _) .nil) (.bool _) ?_
 conv => whnf
 refine (isNaNI y).use nnΓ (.cons (.int _ _) .nil) (.bool _) ?_
 conv => whnf
 refine bcs_mk (fun h => ?_) (fun h => ?_)
 ·conv => whnf
  refine fin_pure (.int _ _) ⟨?_, rfl, rfl⟩
  simp at h
  simp [cmpI, h]
 conv => whnf
 refine bcs_mk (fun h' => ?_) (fun h' => ?_)
 ·conv => whnf
  refine fin_pure (.int _ _) ⟨?_, rfl, rfl⟩
  simp at h h'
  simp only [cmpI]
  rw [if_neg (by omega), if_pos (by omega)]
 ·conv => whnf
  refine fin_pure (.int _ _) ⟨?_, rfl, rfl⟩
  simp at h h'
  simp only [cmpI]
  rw [if_neg (by omega), if_neg (by omega)]
theorem cmpStr (x y : List UInt8) : PureC Tryz.prog [] 42 [.str x, .str y] (.int .i64 (cmpS x y)) := by
 refine acalls_run nnΓ Tryz.func42 rfl ?_
 conv => whnf
 refine (isNaNS x).use nnΓ (.cons (.str _) .nil) (.bool _) ?_
 conv => whnf
 refine (isNaNS y).use nnΓ (.cons (.str _) .nil) (.bool _) ?_
 conv => whnf
 refine bcs_mk (fun h => ?_) (fun h => ?_)
 ·conv => whnf
  refine fin_pure (.int _ _) ⟨?_, rfl, rfl⟩
  rw [cmpS_less.1 h]
 conv => whnf
 refine bcs_mk (fun h' => ?_) (fun h' => ?_)
 ·conv => whnf
  refine fin_pure (.int _ _) ⟨?_, rfl, rfl⟩
  rw [cmpS_more h h']
 ·conv => whnf
  refine fin_pure (.int _ _) ⟨?_, rfl, rfl⟩
  rw [cmpS_same h h']
theorem cmpFunc (l1 l2 : List Val) (hb : l1.length ≤ 4294967296) (hc : ∀ a ∈ l1, ∀ b ∈ l2, PureC Tryz.prog [] 19 [encV a, encV b] (.int .i64 (cmpV a b))) :
  PureC Tryz.prog [] 43 [.il 4 (encVs l1), .il 4 (encVs l2), .fn (.func 19) [] []] (.int .i64 (cmpL l1 l2)) := by
 have n1 : NN (.il 4 (encVs l1)) := .il' (encVs_nn l1)
 have n2 : NN (.il 4 (encVs l2)) := .il' (encVs_nn l2)
 have n3 : NN (.fn (.func 19) [] []) := .fn _ _ _ (by simp) (by simp)
 refine acalls_run nnΓ Tryz.func43 rfl ?_
 conv => whnf
 refine AWp.loopAt nnΓ (fun k : Nat => k ≤ l1.length ∧ k ≤ l2.length ∧ cmpL l1 l2 = cmpL (l1.drop k) (l2.drop k))
  (fun k => ⟨[(0, .il 4 (encVs l1)), (1, .il 4 (encVs l2)), (2, .fn (.func 19) [] []), (11, .il 4 (encVs l1)), (12, .int .i64 (encVs l1).length), (13, .int .i64 k)], [], 0, 39⟩)
  (fun k => l1.length - k) 0 [] ⟨by simp, by simp, by simp⟩
  (conv_pure ⟨⟨_, rfl, .same _ n1⟩, ⟨_, rfl, .same _ n2⟩, ⟨_, rfl, .same _ n3⟩, ⟨_, rfl, .same _ n1⟩, ⟨_, rfl, .same _ (.int _ _)⟩, ⟨_, rfl, .same _ (.int _ _)⟩, trivial⟩) ?_
 rintro k ⟨h1, h2, h3⟩
 conv => whnf
 refine bcs_mk (fun h => ?_) (fun h => ?_)
 ·have hk : k < l1.length := by rw [encVs_length] at h; simpa using h
  obtain ⟨⟨ka, na, sa, ksa⟩, hv⟩ : ∃ v, v = l1[k] := ⟨_, rfl⟩
  have hm : Val.mk ka na sa ksa ∈ l1 := by rw [hv]; exact List.getElem_mem hk
  have e : (encVs l1)[(k : Int).toNat]? = some (encV (.mk ka na sa ksa)) := by rw [Int.toNat_natCast, encVs_get, List.getElem?_eq_getElem hk, hv]; rfl
  conv => whnf
  refine opt_mk e ?_
  conv => whnf
  refine bcs_mk (fun h' => ?_) (fun h' => ?_)
  ·have hk2 : k = l2.length := by rw [encVs_length] at h'; simp at h'; omega
   conv => whnf
   refine fin_pure (.int _ _) ⟨?_, rfl, rfl⟩
   rw [h3, List.drop_of_length_le (l := l2) (by omega), List.drop_eq_getElem_cons hk, cmpL]
  ·have hk2 : k < l2.length := by rw [encVs_length] at h'; simpa using h'
   obtain ⟨⟨kb, nb, sb, ksb⟩, hv2⟩ : ∃ v, v = l2[k] := ⟨_, rfl⟩
   have hm2 : Val.mk kb nb sb ksb ∈ l2 := by rw [hv2]; exact List.getElem_mem hk2
   have e2 : (encVs l2)[(k : Int).toNat]? = some (encV (.mk kb nb sb ksb)) := by rw [Int.toNat_natCast, encVs_get, List.getElem?_eq_getElem hk2, hv2]; rfl
   conv => whnf
   refine opt_mk e2 ?_
   conv => whnf
   refine (hc _ hm _ hm2).use nnΓ (.cons (encV_nn _) (.cons (encV_nn _) .nil)) (.int _ _) ?_
   conv => whnf
   have hs := cmpL_step hk hk2
   rw [← hv, ← hv2] at hs
   refine bcs_mk (fun h4 => ?_) (fun h4 => ?_)
   ·conv => whnf
    refine fin_pure (.int _ _) ⟨?_, rfl, rfl⟩
    have h4 : cmpV (.mk ka na sa ksa) (.mk kb nb sb ksb) ≠ 0 := by simpa using h4
    rw [h3, hs, andThen, if_neg h4]
   ·have h4 : cmpV (.mk ka na sa ksa) (.mk kb nb sb ksb) = 0 := by simpa using h4
    conv => whnf
    refine .mk (k + 1) [] ⟨by omega, by omega, ?_⟩ (conv_pure ⟨⟨_, rfl, .same _ n1⟩, ⟨_, rfl, .same _ n2⟩, ⟨_, rfl, .same _ n3⟩, ⟨_, rfl, .same _ n1⟩, ⟨_, rfl, .same _ (.int _ _)⟩, ⟨_, rfl, .eq (.int _ _) ?_⟩, trivial⟩) (by omega)
    ·rw [h3, hs, andThen, if_pos h4]
    ·rw [wrap64 ⟨by omega, by omega⟩]; rfl
 ·have hk : k = l1.length := by rw [encVs_length] at h; simp at h; omega
  have hd : l1.drop k = [] := List.drop_of_length_le (by omega)
  conv => whnf
  refine bcs_mk (fun h' => ?_) (fun h' => ?_)
  ·have hk2 : l1.length < l2.length := by rw [encVs_length, encVs_length] at h'; simpa using h'
   conv => whnf
   refine fin_pure (.int _ _) ⟨?_, rfl, rfl⟩
   rw [h3, hd, List.drop_eq_getElem_cons (show k < l2.length by omega), cmpL]
  ·have hk2 : l2.length ≤ l1.length := by rw [encVs_length, encVs_length] at h'; simpa using h'
   conv => whnf
   refine fin_pure (.int _ _) ⟨?_, rfl, rfl⟩
   rw [h3, hd, List.drop_of_length_le (by omega), cmpL]
theorem vCompare : ∀ (a b : Val), okV a → PureC Tryz.prog [] 19 [encV a, encV b] (.int .i64 (cmpV a b))
 | .mk ka na sa ksa, .mk kb nb sb ksb, ha => by
  simp only [okV] at ha
  have hkids : ∀ a ∈ ksa, ∀ b ∈ ksb, PureC Tryz.prog [] 19 [encV a, encV b] (.int .i64 (cmpV a b)) := fun a hm b _ => vCompare a b (okVs_mem ha.2.2.2.2 a hm)
  refine acalls_run nnΓ Tryz.func19 rfl ?_
  conv => whnf
  refine (cmpInt ka kb).use nnΓ (.cons (.int _ _) (.cons (.int _ _) .nil)) (.int _ _) ?_
  conv => whnf
  refine bcs_mk (fun h => ?_) (fun h => ?_)
  ·conv => whnf
   refine fin_pure (.int _ _) ⟨?_, rfl, rfl⟩
   have h : cmpI ka kb ≠ 0 := by simpa using h
   rw [cmpV, andThen, if_neg h]
  have h : cmpI ka kb = 0 := by simpa using h
  conv => whnf
  refine (cmpInt na nb).use nnΓ (.cons (.int _ _) (.cons (.int _ _) .nil)) (.int _ _) ?_
  conv => whnf
  refine bcs_mk (fun h2 => ?_) (fun h2 => ?_)
  ·conv => whnf
   refine fin_pure (.int _ _) ⟨?_, rfl, rfl⟩
   have h2 : cmpI na nb ≠ 0 := by simpa using h2
   rw [cmpV, andThen, if_pos h, andThen, if_neg h2]
  have h2 : cmpI na nb = 0 := by simpa using h2
  conv => whnf
  refine (cmpStr sa sb).use nnΓ (.cons (.str _) (.cons (.str _) .nil)) (.int _ _) ?_
  conv => whnf
  refine bcs_mk (fun h3 => ?_) (fun h3 => ?_)
  ·conv => whnf
   refine fin_pure (.int _ _) ⟨?_, rfl, rfl⟩
   have h3 : cmpS sa sb ≠ 0 := by simpa using h3
   rw [cmpV, andThen, if_pos h, andThen, if_pos h2, andThen, if_neg h3]
  have h3 : cmpS sa sb = 0 := by simpa using h3
  conv => whnf
  refine (cmpFunc ksa ksb ha.2.2.2.1 hkids).use nnΓ (.cons (.il' (encVs_nn _)) (.cons (.il' (encVs_nn _)) (.cons (.fn _ _ _ (by simp) (by simp)) .nil))) (.int _ _) ?_
  conv => whnf
  refine fin_pure (.int _ _) ⟨?_, rfl, rfl⟩
  rw [cmpV, andThen, if_pos h, andThen, if_pos h2, andThen, if_pos h3]
 termination_by a => SizeOf.sizeOf a
 decreasing_by simp; have := List.sizeOf_lt_of_mem hm; omega
theorem signC (b : Bool) : PureC Tryz.prog [] 48 [.bool b] (.int .i64 (if b then -1 else 1)) := by
 refine acalls_run nnΓ Tryz.func48 rfl ?_
 conv => whnf
 refine bcs_mk (fun h => ?_) (fun h => ?_)
 ·conv => whnf
  exact fin_pure (.int _ _) ⟨by rw [h]; rfl, rfl, rfl⟩
 ·conv => whnf
  exact fin_pure (.int _ _) ⟨by rw [h]; rfl, rfl, rfl⟩
theorem rCompare : ∀ (a b : Val), okV a → PureC Tryz.prog [] 26 [encV a, encV b] (.int .i64 (cmpV a b))
 | .mk ka na sa ksa, .mk kb nb sb ksb, ha => by
  simp only [okV] at ha
  have hb : ksa.length ≤ 4294967296 := ha.2.2.2.1
  have hkids : ∀ a ∈ ksa, ∀ b ∈ ksb, PureC Tryz.prog [] 26 [encV a, encV b] (.int .i64 (cmpV a b)) := fun a hm b _ => rCompare a b (okVs_mem ha.2.2.2.2 a hm)
  refine acalls_run nnΓ Tryz.func26 rfl ?_
  conv => whnf
  refine bcs_mk (fun h => ?_) (fun h => ?_)
  ·conv => whnf
   refine (signC _).use nnΓ (.cons (.bool _) .nil) (.int _ _) ?_
   conv => whnf
   refine fin_pure (.int _ _) ⟨?_, rfl, rfl⟩
   rw [cmpV_kind (by simpa using h)]
   simp
  have h : ka = kb := by simpa using h
  conv => whnf
  refine bcs_mk (fun h2 => ?_) (fun h2 => ?_)
  ·conv => whnf
   refine (signC _).use nnΓ (.cons (.bool _) .nil) (.int _ _) ?_
   conv => whnf
   refine fin_pure (.int _ _) ⟨?_, rfl, rfl⟩
   rw [cmpV_n h (by simpa using h2)]
   simp
  have h2 : na = nb := by simpa using h2
  conv => whnf
  refine bcs_mk (fun h3 => ?_) (fun h3 => ?_)
  ·conv => whnf
   refine (signC _).use nnΓ (.cons (.bool _) .nil) (.int _ _) ?_
   conv => whnf
   refine fin_pure (.int _ _) ⟨?_, rfl, rfl⟩
   rw [cmpV_s h h2 (by simpa using h3)]
  have h3 : sa = sb := by simpa using h3
  have hcmp : cmpV (.mk ka na sa ksa) (.mk kb nb sb ksb) = cmpL ksa ksb := cmpV_l h h2 h3
  conv => whnf
  refine AWp.loopAt nnΓ (fun k : Nat => k ≤ ksa.length ∧ k ≤ ksb.length ∧ cmpL ksa ksb = cmpL (ksa.drop k) (ksb.drop k))
   (fun k => ⟨[(2, .ptr 0 0 0), (3, .ptr 1 0 0), (5, .int .i64 k)], [(1, .row 28 4 [encV (.mk kb nb sb ksb)]), (0, .row 28 4 [encV (.mk ka na sa ksa)])], 2, 83⟩)
   (fun k => ksa.length - k) 0 [(0, 0), (1, 1)] ⟨by simp, by simp, by simp⟩
   (conv_mk _ rfl ⟨⟨1, _, rfl, rfl, .same (.cons (encV_nn _) .nil)⟩, ⟨0, _, rfl, rfl, .same (.cons (encV_nn _) .nil)⟩, trivial⟩ ⟨⟨_, rfl, .ptr 0 0 0 0 rfl⟩, ⟨_, rfl, .ptr 1 1 0 0 rfl⟩, ⟨_, rfl, .same _ (.int _ _)⟩, trivial⟩) ?_
  rintro k ⟨h4, h5, h6⟩
  conv => whnf
  refine bcs_mk (fun h7 => ?_) (fun h7 => ?_)
  ·have hk : k < ksa.length := by rw [encVs_length] at h7; simpa using h7
   rw [h7]
   conv => whnf
   refine bcs_mk (fun h8 => ?_) (fun h8 => ?_)
   ·have hk2 : k < ksb.length := by rw [encVs_length] at h8; simpa using h8
    conv => whnf
    have e1 := enc_at hk
    have e2 := enc_at hk2
    obtain ⟨⟨k1, n1, s1, ks1⟩, hv1⟩ : ∃ v, v = ksa[k] := ⟨_, rfl⟩
    obtain ⟨⟨k2, n2, s2, ks2⟩, hv2⟩ : ∃ v, v = ksb[k] := ⟨_, rfl⟩
    rw [← hv1] at e1
    rw [← hv2] at e2
    refine opt_mk e1 ?_
    conv => whnf
    refine opt_mk e2 ?_
    conv => whnf
    have hm1 : Val.mk k1 n1 s1 ks1 ∈ ksa := by rw [hv1]; exact List.getElem_mem hk
    have hm2 : Val.mk k2 n2 s2 ks2 ∈ ksb := by rw [hv2]; exact List.getElem_mem hk2
    have hs := cmpL_step hk hk2
    rw [← hv1, ← hv2] at hs
    refine (hkids _ hm1 _ hm2).use nnΓ (.cons (encV_nn _) (.cons (encV_nn _) .nil)) (.int _ _) ?_
    conv => whnf
    refine bcs_mk (fun h9 => ?_) (fun h9 => ?_)
    ·have h9 : cmpV (.mk k1 n1 s1 ks1) (.mk k2 n2 s2 ks2) ≠ 0 := by simpa using h9
     conv => whnf
     refine fin_pure (.int _ _) ⟨?_, rfl, rfl⟩
     rw [hcmp, h6, hs, andThen, if_neg h9]
    ·have h9 : cmpV (.mk k1 n1 s1 ks1) (.mk k2 n2 s2 ks2) = 0 := by simpa using h9
     conv => whnf
     refine .mk (k + 1) [(0, 0), (1, 1)] ⟨by omega, by omega, by rw [h6, hs, andThen, if_pos h9]⟩ (conv_mk _ rfl ⟨⟨1, _, rfl, rfl, .same (.cons (encV_nn _) .nil)⟩, ⟨0, _, rfl, rfl, .same (.cons (encV_nn _) .nil)⟩, trivial⟩ ⟨⟨_, rfl, .ptr 0 0 0 0 rfl⟩, ⟨_, rfl, .ptr 1 1 0 0 rfl⟩, ⟨_, rfl, .eq (.int _ _) ?_⟩, trivial⟩) (by omega)
     rw [wrap64 ⟨by omega, by omega⟩]; rfl
   ·have hk2 : k = ksb.length := by rw [encVs_length] at h8; simp at h8; omega
    conv => whnf
    refine bcs_mk (fun h9 => ?_) (fun h9 => ?_)
    ·exfalso
     rw [encVs_length, encVs_length] at h9
     simp at h9
     omega
    ·conv => whnf
     refine (signC _).use nnΓ (.cons (.bool _) .nil) (.int _ _) ?_
     conv => whnf
     refine fin_pure (.int _ _) ⟨?_, rfl, rfl⟩
     rw [hcmp, h6, List.drop_of_length_le (l := ksb) (by omega), List.drop_eq_getElem_cons hk, cmpL, encVs_length, encVs_length, if_neg (by simp; omega)]
  ·have hk : k = ksa.length := by rw [encVs_length] at h7; simp at h7; omega
   have hd : ksa.drop k = [] := List.drop_of_length_le (by omega)
   rw [h7]
   conv => whnf
   refine bcs_mk (fun h9 => ?_) (fun h9 => ?_)
   ·have h9 : ksa.length = ksb.length := by rw [encVs_length, encVs_length] at h9; simp at h9; omega
    conv => whnf
    refine fin_pure (.int _ _) ⟨?_, rfl, rfl⟩
    rw [hcmp, h6, hd, List.drop_of_length_le (by omega), cmpL]
   ·have h9 : ksa.length ≠ ksb.length := by rw [encVs_length, encVs_length] at h9; simp at h9; omega
    conv => whnf
    refine (signC _).use nnΓ (.cons (.bool _) .nil) (.int _ _) ?_
    conv => whnf
    refine fin_pure (.int _ _) ⟨?_, rfl, rfl⟩
    rw [hcmp, h6, hd, List.drop_eq_getElem_cons (show k < ksb.length by omega), cmpL, encVs_length, encVs_length, if_pos (by simp; omega)]
 termination_by a => SizeOf.sizeOf a
 decreasing_by simp; have := List.sizeOf_lt_of_mem hm; omega
def gB (l : List Int) (at_ : Nat) : AB := .row 47 2 [.agg [.il 1 (encI l), .int .i64 at_]]
theorem gNN (l : List Int) (i : Nat) : NNs [.agg [.il 1 (encI l), .int .i64 i]] := .cons (.agg' (.cons (.il' (encI_nn l)) (.cons (.int _ _) .nil))) .nil
theorem gNext (l : List Int) (i : Nat) (most : Int) (hi : i ≤ 4611686018427387904) (hm : most ≤ 4611686018427387904) :
  ACalls Tryz.prog [] 20 [.ptr 0 0 0, .int .i64 most] [(0, gB l i)] 1 fun r m n => ∃ k : Int, r = .int .i64 k ∧ 0 ≤ k ∧ (k = 0 ∨ k < most) ∧ m = [(0, gB l (i + 1))] := by
 refine acalls_run nnΓ Tryz.func20 rfl ?_
 have hw : IntKind.i64.wrap ((i : Int) + 1) = ((i + 1 : Nat) : Int) := wrap64 ⟨by omega, by omega⟩
 have fin : ∀ (k : Int) (n : Nat), 0 ≤ k → (k = 0 ∨ k < most) → Fini 1 (fun r m _ => ∃ k : Int, r = .int .i64 k ∧ 0 ≤ k ∧ (k = 0 ∨ k < most) ∧ m = [(0, gB l (i + 1))]) (.int .i64 k) [(0, .row 47 2 [.agg [.il 1 (encI l), .int .i64 (IntKind.i64.wrap ((i : Int) + 1))]])] n := by
  intro k n h1 h2
  refine fin_mk (n' := 1) (m' := [(0, gB l (i + 1))]) [(0, 0)] rfl ⟨⟨0, _, rfl, rfl, .eq (gNN l (i + 1)) (by rw [hw])⟩, trivial⟩ (.same _ (.int _ _)) ⟨k, rfl, h1, h2, rfl⟩
 conv => whnf
 refine bcs_mk (fun h => ?_) (fun h => ?_)
 ·rw [h]
  conv => whnf
  exact fin 0 _ (by omega) (.inl rfl)
 ·have hlt : i < l.length := by rw [encI_length] at h; simp at h; omega
  rw [h]
  conv => whnf
  refine bcs_mk (fun h2 => ?_) (fun h2 => ?_)
  ·conv => whnf
   exact fin 0 _ (by omega) (.inl rfl)
  ·have h2 : 2 ≤ most := by simpa using h2
   conv => whnf
   refine opt_mk (a := .int .i64 l[i]) (by rw [Int.toNat_natCast, encI_get, List.getElem?_eq_getElem hlt]; rfl) ?_
   conv => whnf
   refine grd_mk (by rw [decide_eq_false (by omega)]; rfl) ?_
   conv => whnf
   have hr : -most < l[i].tmod most ∧ l[i].tmod most < most := by
    constructor
    ·have := Int.lt_tmod_of_pos l[i] (show 0 < most by omega); omega
    ·exact Int.tmod_lt_of_pos _ (by omega)
   refine bcs_mk (fun h3 => ?_) (fun h3 => ?_)
   ·have h3 : l[i].tmod most < 0 := by simpa using h3
    conv => whnf
    have hw2 : IntKind.i64.wrap (l[i].tmod most + most) = l[i].tmod most + most := wrap64 ⟨by omega, by omega⟩
    rw [hw2]
    exact fin _ _ (by omega) (.inr (by omega))
   ·have h3 : 0 ≤ l[i].tmod most := by simpa using h3
    conv => whnf
    exact fin _ _ h3 (.inr hr.2)
theorem gNextUse {l : List Int} {i : Nat} (most : Int) (hi : i ≤ 4611686018427387904) (hm : most ≤ 4611686018427387904) (hp : 1 ≤ most) {mem : Mem} {nx : Nat} {K : AV → Mem → Nat → Prop} (hg : lk mem 0 = some (gB l i))
  (hk : ∀ k : Int, 0 ≤ k → k < most → dropK 0 mem fun rest => K (.int .i64 k) ((0, gB l (i + 1)) :: rest) nx) : ACalls Tryz.prog [] 20 [.ptr 0 0 0, .int .i64 most] mem nx K := by
 refine ACalls.use1 nnΓ (gNext l i most hi hm) 0 hg (gNN l i) (.cons (.ptr 0 0 0 0 rfl) (.cons (.same _ (.int _ _)) .nil)) ?_
 rintro r m n ⟨k, rfl, h1, h2, rfl⟩
 exact ⟨_, rfl, .int _ _, gNN l (i + 1), hk k h1 (by omega)⟩
theorem i64_wrap (n : Int) : i64 (IntKind.i64.wrap n) := by
 rw [IntKind.wrap_i64]
 exact ⟨by omega, by omega⟩
theorem gNextAt (g : Nat) {l : List Int} {i : Nat} (most : Int) (hi : i ≤ 4611686018427387904) (hm : most ≤ 4611686018427387904) (hp : 1 ≤ most) {mem : Mem} {nx : Nat} {K : AV → Mem → Nat → Prop} (hg : lk mem g = some (gB l i))
  (hk : ∀ k : Int, 0 ≤ k → k < most → dropK g mem fun rest => K (.int .i64 k) ((g, gB l (i + 1)) :: rest) nx) : ACalls Tryz.prog [] 20 [.ptr g 0 0, .int .i64 most] mem nx K := by
 refine ACalls.use1 nnΓ (gNext l i most hi hm) g hg (gNN l i) (.cons (.ptr g 0 0 0 (by simp [lk])) (.cons (.same _ (.int _ _)) .nil)) ?_
 rintro r m n ⟨k, rfl, h1, h2, rfl⟩
 exact ⟨_, rfl, .int _ _, gNN l (i + 1), hk k h1 (by omega)⟩
theorem isAt_some {l : List Val} {k : Nat} {v a : Val} (h : l[k]? = some a) : isAt l k v = (cmpV a v == 0) := by simp [isAt, h]
theorem isAt_none {l : List Val} {k : Nat} {v : Val} (h : l.length ≤ k) : isAt l k v = false := by simp [isAt, List.getElem?_eq_none h]
theorem rFind (l : List Val) (v : Val) (hl : l.length ≤ 4294967296) (hok : ∀ a ∈ l, okV a) :
  PureC Tryz.prog [] 12 [.il 4 (encVs l), encV v] (.tup [.int .i64 (findV l v).1, .bool (findV l v).2]) := by
 obtain ⟨vk, vn, vs, vks⟩ := v
 have nl : NN (.il 4 (encVs l)) := .il' (encVs_nn l)
 have nt : ∀ (k : Int) (b : Bool), NN (.tup [.int .i64 k, .bool b]) := fun k b => .tup' (.cons (.int _ _) (.cons (.bool _) .nil))
 refine acalls_run nnΓ Tryz.func12 rfl ?_
 conv => whnf
 refine AWp.loopAt nnΓ (fun k : Nat => k ≤ l.length ∧ ∀ p a, p < k → l[p]? = some a → cmpV a (.mk vk vn vs vks) < 0)
  (fun k => ⟨[(0, .il 4 (encVs l)), (3, .ptr 0 0 0), (6, .int .i64 k)], [(0, .row 28 4 [encV (.mk vk vn vs vks)])], 1, 27⟩)
  (fun k => l.length - k) 0 [(0, 0)] ⟨by simp, by simp⟩
  (conv_mk _ rfl ⟨⟨0, _, rfl, rfl, .same (.cons (encV_nn _) .nil)⟩, trivial⟩ ⟨⟨_, rfl, .same _ nl⟩, ⟨_, rfl, .ptr 0 0 0 0 rfl⟩, ⟨_, rfl, .same _ (.int _ _)⟩, trivial⟩) ?_
 rintro k ⟨h1, h2⟩
 conv => whnf
 refine bcs_mk (fun h => ?_) (fun h => ?_)
 ·have hk : k < l.length := by rw [encVs_length] at h; simpa using h
  have e := enc_at hk
  obtain ⟨⟨ak, an, az, aks⟩, hv⟩ : ∃ a, a = l[k] := ⟨_, rfl⟩
  rw [← hv] at e
  have hm : Val.mk ak an az aks ∈ l := by rw [hv]; exact List.getElem_mem hk
  have hg : l[k]? = some (Val.mk ak an az aks) := by rw [hv]; exact List.getElem?_eq_getElem hk
  conv => whnf
  refine opt_mk e ?_
  conv => whnf
  refine (rCompare (.mk ak an az aks) (.mk vk vn vs vks) (hok _ hm)).use nnΓ (.cons (encV_nn _) (.cons (encV_nn _) .nil)) (.int _ _) ?_
  conv => whnf
  refine bcs_mk (fun h3 => ?_) (fun h3 => ?_)
  ·have h3 : 0 ≤ cmpV (.mk ak an az aks) (.mk vk vn vs vks) := by simpa using h3
   conv => whnf
   refine fin_pure (nt _ _) ⟨?_, rfl, rfl⟩
   rw [findV_at h1 h2 (fun a ha => by rw [hg] at ha; cases ha; exact h3), isAt_some hg]
  ·have h3 : cmpV (.mk ak an az aks) (.mk vk vn vs vks) < 0 := by simpa using h3
   conv => whnf
   refine .mk (k + 1) [(0, 0)] ⟨by omega, fun p a hp ha => ?_⟩ (conv_mk _ rfl ⟨⟨0, _, rfl, rfl, .same (.cons (encV_nn _) .nil)⟩, trivial⟩ ⟨⟨_, rfl, .same _ nl⟩, ⟨_, rfl, .ptr 0 0 0 0 rfl⟩, ⟨_, rfl, .eq (.int _ _) ?_⟩, trivial⟩) (by omega)
   ·rcases Nat.lt_or_ge p k with hp' | hp'
    ·exact h2 p a hp' ha
    ·have : p = k := by omega
     subst this
     rw [hg] at ha
     cases ha
     exact h3
   ·rw [wrap64 ⟨by omega, by omega⟩]; rfl
 ·have hk : k = l.length := by rw [encVs_length] at h; simp at h; omega
  conv => whnf
  refine fin_pure (nt _ _) ⟨?_, rfl, rfl⟩
  rw [findV_at h1 h2 (fun a ha => by rw [List.getElem?_eq_none (by omega)] at ha; cases ha), isAt_none (by omega), encVs_length, hk]
theorem vSearch (l : List Val) (v : Val) (hl : l.length ≤ 4294967296) (hok : ∀ a ∈ l, okV a) (hs : Srt l) :
  PureC Tryz.prog [] 27 [.il 4 (encVs l), encV v, .fn (.func 19) [] []] (.tup [.int .i64 (findV l v).1, .bool (findV l v).2]) := by
 obtain ⟨vk, vn, vs, vks⟩ := v
 have nl : NN (.il 4 (encVs l)) := .il' (encVs_nn l)
 have nf : NN (.fn (.func 19) [] []) := .fn _ _ _ (by simp) (by simp)
 have nt : ∀ (k : Int) (b : Bool), NN (.tup [.int .i64 k, .bool b]) := fun k b => .tup' (.cons (.int _ _) (.cons (.bool _) .nil))
 refine acalls_run nnΓ Tryz.func27 rfl ?_
 conv => whnf
 refine AWp.loopAt nnΓ (fun x : Nat × Nat => x.1 ≤ x.2 ∧ x.2 ≤ l.length ∧ (∀ p a, p < x.1 → l[p]? = some a → cmpV a (.mk vk vn vs vks) < 0) ∧ ∀ a, l[x.2]? = some a → 0 ≤ cmpV a (.mk vk vn vs vks))
  (fun x => ⟨[(0, .il 4 (encVs l)), (2, .fn (.func 19) [] []), (4, .ptr 0 0 0), (8, .int .i64 (encVs l).length), (9, .int .i64 x.1), (10, .int .i64 x.2)], [(0, .row 28 4 [encV (.mk vk vn vs vks)])], 1, 49⟩)
  (fun x => x.2 - x.1) (0, l.length) [(0, 0)] ⟨by simp, by simp, by simp, fun a ha => by simp at ha⟩
  (conv_mk _ rfl ⟨⟨0, _, rfl, rfl, .same (.cons (encV_nn _) .nil)⟩, trivial⟩ ⟨⟨_, rfl, .same _ nl⟩, ⟨_, rfl, .same _ nf⟩, ⟨_, rfl, .ptr 0 0 0 0 rfl⟩, ⟨_, rfl, .same _ (.int _ _)⟩, ⟨_, rfl, .same _ (.int _ _)⟩, ⟨_, rfl, .eq (.int _ _) (by rw [encVs_length])⟩, trivial⟩) ?_
 rintro ⟨i, j⟩ ⟨h1, h2, h3, h4⟩
 dsimp only at h1 h2 h3 h4 ⊢
 conv => whnf
 refine bcs_mk (fun h => ?_) (fun h => ?_)
 ·have hij : i < j := by simpa using h
  have hw1 : IntKind.i64.wrap ((i : Int) + j) = ((i + j : Nat) : Int) := wrap64 ⟨by omega, by omega⟩
  have hw2 : IntKind.u64.wrap ((i + j : Nat) : Int) = ((i + j : Nat) : Int) := IntWalk.u64_in _ ⟨by omega, by omega⟩
  have hw3 : ((i + j : Nat) : Int).fdiv (2 ^ min (Int.toNat 1) IntKind.u64.bits) = (((i + j) / 2 : Nat) : Int) := by
   rw [show (2 : Int) ^ min (Int.toNat 1) IntKind.u64.bits = 2 from rfl, Int.fdiv_eq_ediv_of_nonneg _ (by omega)]
   omega
  have hw4 : IntKind.i64.wrap (((i + j) / 2 : Nat) : Int) = (((i + j) / 2 : Nat) : Int) := wrap64 ⟨by omega, by omega⟩
  generalize hm : (i + j) / 2 = m at *
  have hm1 : i ≤ m := by omega
  have hm2 : m < j := by omega
  have hk : m < l.length := by omega
  have e := enc_at hk
  obtain ⟨⟨ak, an, az, aks⟩, hv⟩ : ∃ a, a = l[m] := ⟨_, rfl⟩
  rw [← hv] at e
  have hmem : Val.mk ak an az aks ∈ l := by rw [hv]; exact List.getElem_mem hk
  have hg : l[m]? = some (Val.mk ak an az aks) := by rw [hv]; exact List.getElem?_eq_getElem hk
  conv => whnf
  rw [hw1, hw2, hw3, hw4]
  conv => whnf
  refine opt_mk e ?_
  conv => whnf
  refine (vCompare (.mk ak an az aks) (.mk vk vn vs vks) (hok _ hmem)).use nnΓ (.cons (encV_nn _) (.cons (encV_nn _) .nil)) (.int _ _) ?_
  conv => whnf
  refine bcs_mk (fun h5 => ?_) (fun h5 => ?_)
  ·have h5 : cmpV (.mk ak an az aks) (.mk vk vn vs vks) < 0 := by simpa using h5
   conv => whnf
   refine .mk (m + 1, j) [(0, 0)] ⟨by simp only; omega, h2, fun p a hp ha => ?_, h4⟩ (conv_mk _ rfl ⟨⟨0, _, rfl, rfl, .same (.cons (encV_nn _) .nil)⟩, trivial⟩ ⟨⟨_, rfl, .same _ nl⟩, ⟨_, rfl, .same _ nf⟩, ⟨_, rfl, .ptr 0 0 0 0 rfl⟩, ⟨_, rfl, .same _ (.int _ _)⟩, ⟨_, rfl, .eq (.int _ _) ?_⟩, ⟨_, rfl, .same _ (.int _ _)⟩, trivial⟩) (by simp only; omega)
   ·simp only at hp
    rcases Nat.lt_or_ge p m with hp' | hp'
    ·exact le_lt (by have := hs.get hp' ha hg; omega) h5
    ·have : p = m := by omega
     subst this
     rw [hg] at ha
     cases ha
     exact h5
   ·rw [wrap64 ⟨by omega, by omega⟩]; rfl
  ·have h5 : 0 ≤ cmpV (.mk ak an az aks) (.mk vk vn vs vks) := by simpa using h5
   conv => whnf
   exact .mk (i, m) [(0, 0)] ⟨hm1, by simp only; omega, h3, fun a ha => by rw [hg] at ha; cases ha; exact h5⟩ (conv_mk _ rfl ⟨⟨0, _, rfl, rfl, .same (.cons (encV_nn _) .nil)⟩, trivial⟩ ⟨⟨_, rfl, .same _ nl⟩, ⟨_, rfl, .same _ nf⟩, ⟨_, rfl, .ptr 0 0 0 0 rfl⟩, ⟨_, rfl, .same _ (.int _ _)⟩, ⟨_, rfl, .same _ (.int _ _)⟩, ⟨_, rfl, .same _ (.int _ _)⟩, trivial⟩) (by simp only; omega)
 ·have hij : i = j := by simp at h; omega
  subst hij
  have hf := findV_at h2 h3 h4
  conv => whnf
  refine bcs_mk (fun h5 => ?_) (fun h5 => ?_)
  ·have hk : i < l.length := by rw [encVs_length] at h5; simpa using h5
   have e := enc_at hk
   obtain ⟨⟨ak, an, az, aks⟩, hv⟩ : ∃ a, a = l[i] := ⟨_, rfl⟩
   rw [← hv] at e
   have hmem : Val.mk ak an az aks ∈ l := by rw [hv]; exact List.getElem_mem hk
   have hg : l[i]? = some (Val.mk ak an az aks) := by rw [hv]; exact List.getElem?_eq_getElem hk
   rw [h5]
   conv => whnf
   refine opt_mk e ?_
   conv => whnf
   refine (vCompare (.mk ak an az aks) (.mk vk vn vs vks) (hok _ hmem)).use nnΓ (.cons (encV_nn _) (.cons (encV_nn _) .nil)) (.int _ _) ?_
   conv => whnf
   refine fin_pure (nt _ _) ⟨?_, rfl, rfl⟩
   rw [hf, isAt_some hg]
  ·have hk : l.length ≤ i := by rw [encVs_length] at h5; simpa using h5
   rw [h5]
   conv => whnf
   refine fin_pure (nt _ _) ⟨?_, rfl, rfl⟩
   rw [hf, isAt_none hk]
theorem vFind (l : List Val) (v : Val) (hl : l.length ≤ 4294967296) (hok : ∀ a ∈ l, okV a) (hs : Srt l) :
  PureC Tryz.prog [] 9 [.il 4 (encVs l), encV v] (.tup [.int .i64 (findV l v).1, .bool (findV l v).2]) := by
 obtain ⟨vk, vn, vs, vks⟩ := v
 have nl : NN (.il 4 (encVs l)) := .il' (encVs_nn l)
 have nf : NN (.fn (.func 19) [] []) := .fn _ _ _ (by simp) (by simp)
 have nt : ∀ (k : Int) (b : Bool), NN (.tup [.int .i64 k, .bool b]) := fun k b => .tup' (.cons (.int _ _) (.cons (.bool _) .nil))
 refine acalls_run nnΓ Tryz.func9 rfl ?_
 conv => whnf
 refine (vSearch l (.mk vk vn vs vks) hl hok hs).use nnΓ (.cons nl (.cons (encV_nn _) (.cons nf .nil))) (nt _ _) ?_
 conv => whnf
 exact fin_pure (nt _ _) ⟨rfl, rfl, rfl⟩
end Go.Proofs.YtndfionmfihcoaaGreatDoor
namespace Go.Ax
open Go
def tauOK (σ : List (Nat × Nat)) (ns nx n' : Nat) : List (Nat × Nat) → Bool
 | [] => true
 | (i, id) :: r => (match Nat.blt i ns with
   | true => match lk σ id with
    | some j => Nat.beq j i
    | none => false
   | false => Nat.ble nx id && Nat.blt id n') && tauOK σ ns nx n' r
def keysOr (ids : List Nat) (nx : Nat) : Mem → Bool
 | [] => true
 | (k, _) :: r => (match Nat.ble nx k with
   | true => true
   | false => inL k ids) && keysOr ids nx r
theorem tauOK_sound {σ : List (Nat × Nat)} {ns nx n' : Nat} : ∀ {τ : List (Nat × Nat)}, tauOK σ ns nx n' τ = true → ∀ p ∈ τ, (p.1 < ns ∧ lk σ p.2 = some p.1) ∨ (ns ≤ p.1 ∧ nx ≤ p.2 ∧ p.2 < n')
 | [], _, p, hp => by cases hp
 | (i, id) :: r, h, p, hp => by
  simp only [tauOK, Bool.and_eq_true] at h
  rcases List.mem_cons.1 hp with rfl | hp
  ·have h1 := h.1
   split at h1
   ·rename_i hb
    split at h1
    ·rename_i j hj
     exact .inl ⟨Nat.le_of_ble_eq_true hb, by rw [hj, Nat.eq_of_beq_eq_true h1]⟩
    ·cases h1
   ·rename_i hb
    simp only [Bool.and_eq_true] at h1
    refine .inr ⟨?_, Nat.le_of_ble_eq_true h1.1, Nat.le_of_ble_eq_true h1.2⟩
    rcases Nat.lt_or_ge i ns with hl | hl
    ·have e : Nat.blt i ns = true := Nat.ble_eq_true_of_le hl
     rw [e] at hb; cases hb
    ·exact hl
  ·exact tauOK_sound h.2 p hp
theorem keysOr_sound : ∀ {m : Mem} {ids : List Nat} {nx : Nat}, keysOr ids nx m = true → ∀ p ∈ m, nx ≤ p.1 ∨ inL p.1 ids = true
 | [], ids, nx, _, p, hp => by cases hp
 | (k, b) :: r, ids, nx, h, p, hp => by
  simp only [keysOr, Bool.and_eq_true] at h
  rcases List.mem_cons.1 hp with rfl | hp
  ·have h1 := h.1
   split at h1
   ·rename_i hb; exact .inl (Nat.le_of_ble_eq_true hb)
   ·exact .inr h1
  ·exact keysOr_sound h.2 p hp
theorem ACalls.useN {P : Program} {Γ : List (Nat × AV)} {F : FuncId} {args args' : List AV} {ms mem m1 : Mem} {ns nx : Nat} {Qs K : AV → Mem → Nat → Prop} (hΓ : ∀ p ∈ Γ, NN p.2) (σ : List (Nat × Nat)) (h : ACalls P Γ F args' ms ns Qs)
  (hp : pickM (keysS σ) mem = m1) (hargs : CvL m1 σ args args') (hM : MemConv m1 σ ms) (hc : (nodM ms && (nod2 σ && valsLt ns σ)) = true)
  (hk : ∀ r m n, Qs r m n → ∃ τ r' m' n', Cv m τ r r' ∧ MemConv m τ m' ∧ (nodM m' && (nod2 τ && (Nat.ble nx n' && (keysOr (keysS σ) nx m' && tauOK σ ns nx n' τ)))) = true ∧ K r' (m' ++ dropM (keysS σ) mem) n') : ACalls P Γ F args mem nx K := by
 simp only [Bool.and_eq_true] at hc
 obtain ⟨hc1, hc2, hc4⟩ := hc
 refine ⟨fun X D ρ w vs hD hm hv => ?_⟩
 refine (ACalls.use (K := K) (nx := nx) hΓ h σ (m1 := m1) (rest := dropM (keysS σ) mem) ⟨fun p hp' => ?_, fun p hp' => (dropM_mem.1 hp').1, fun p hp' => ?_, fun p h1 q h2 => ?_, ?_⟩ ?_ hargs hM.cvm (nodM_sound hc1) (inj_of hc2) (fun id i hl => valsLt_sound hc4 _ (lk_mem hl)) ?_).run X D ρ w vs hD hm hv
 ·rw [← hp] at hp'; exact (pickM_mem.1 hp').1
 ·cases hi : inL p.1 (keysS σ) with
  | true => left; rw [← hp]; exact pickM_mem.2 ⟨hp', hi⟩
  | false => right; exact dropM_mem.2 ⟨hp', hi⟩
 ·rw [← hp] at h1
  have a := (pickM_mem.1 h1).2
  have b := (dropM_mem.1 h2).2
  intro e
  rw [e, b] at a
  cases a
 ·rw [← hp]; exact hm.nod.sublist ((pickM_sub mem).map _)
 ·exact hm.nod.sublist ((dropM_sub mem).map _)
 ·intro r m n hq hn
  obtain ⟨τ, r', m', n', h1, h2, h3, h4⟩ := hk r m n hq
  simp only [Bool.and_eq_true] at h3
  refine ⟨τ, r', m', n', Nat.le_of_ble_eq_true h3.2.2.1, h1, h2.cvm, nodM_sound h3.1, inj_of h3.2.1, fun i id hl => tauOK_sound h3.2.2.2.2 _ (lk_mem hl), fun p h5 q h6 => ?_, h4⟩
  have b := (dropM_mem.1 h6).2
  rcases keysOr_sound h3.2.2.2.1 p h5 with a | a
  ·have := hD _ (hm.low q (dropM_mem.1 h6).1)
   omega
  ·intro e
   rw [e, b] at a
   cases a
theorem ACalls.ph {P : Program} {Γ : List (Nat × AV)} {F : FuncId} {args : List AV} {mem : Mem} {nx : Nat} {K : AV → Mem → Nat → Prop} (t : TypeId) (sz : Nat) (h : ACalls P Γ F args ((nx, .row t sz []) :: mem) (nx + 1) K) : ACalls P Γ F args mem nx K := by
 refine ⟨fun X D ρ w vs hD hm hv => ?_⟩
 obtain ⟨m1, v1, e1⟩ := hm.phantom (n := nx) (D' := dn D nx (nx + 1)) (fun h' => Nat.lt_irrefl _ (hD _ h')) (fun i hi => .inl hi) (.inr ⟨Nat.le_refl _, Nat.lt_succ_self _⟩) t sz
 refine (h.run X _ _ w vs (fun i hi => ?_) m1 ⟨hv.1, fun j c x hc hx => v1 _ _ (hv.2 j c x hc hx)⟩).mono ?_
 ·rcases hi with hi | hi
  ·have := hD i hi; omega
  ·exact hi.2
 ·rintro e w' ⟨r, v, m, n, ρ', rfl, hk, hn, hm', hr, ext⟩
  have ed : dn (dn D nx (nx + 1)) (nx + 1) n = dn D nx n := by
   funext i
   apply propext
   constructor
   ·rintro ((hi | ⟨h1, h2⟩) | ⟨h1, h2⟩)
    ·exact .inl hi
    ·exact .inr ⟨h1, by omega⟩
    ·exact .inr ⟨by omega, h2⟩
   ·rintro (hi | ⟨h1, h2⟩)
    ·exact .inl (.inl hi)
    ·rcases Nat.lt_or_ge i (nx + 1) with h3 | h3
     ·exact .inl (.inr ⟨h1, h3⟩)
     ·exact .inr ⟨h3, h2⟩
  rw [ed] at hm' hr ext
  refine ⟨r, v, m, n, ρ', rfl, hk, by omega, hm', hr, ?_⟩
  have e2 := e1 D fun i hi => hi
  exact e2.trans ⟨fun i hi => ext.le i (.inl hi), fun i hi => ext.agree i (.inl hi), ext.size, ext.keep, ext.fresh, ext.env⟩
end Go.Ax
namespace Go.Ax
open Go
section
variable {P : Program} {Γ : List (Nat × AV)} {B : Nat}
end
end Go.Ax
namespace Go.Ax
open Go
mutual
def sizeV : Val → Nat
 | .mk _ _ _ kids => 1 + sizeL kids
def sizeL : List Val → Nat
 | [] => 0
 | v :: r => sizeV v + sizeL r
end
theorem sizeL_snoc : ∀ (l : List Val) (v : Val), sizeL (l ++ [v]) = sizeL l + sizeV v
 | [], v => by simp [sizeL]
 | a :: r, v => by simp only [List.cons_append, sizeL, sizeL_snoc r v]; omega
theorem sizeV_pos : ∀ v : Val, 1 ≤ sizeV v
 | .mk _ _ _ kids => by simp only [sizeV]; omega
theorem sizeV_mem {l : List Val} {v : Val} (h : v ∈ l) : sizeV v ≤ sizeL l := by
 induction l with
 | nil => cases h
 | cons a r ih =>
  simp only [sizeL]
  rcases List.mem_cons.1 h with rfl | h
  ·omega
  ·have := ih h; omega
theorem sizeL_len (l : List Val) : l.length ≤ sizeL l := by
 induction l with
 | nil => simp
 | cons a r ih => simp only [sizeL, List.length_cons]; have := sizeV_pos a; omega
def inNm (c : Int) : Bool := (decide (97 ≤ c) && decide (c ≤ 122)) || (decide (65 ≤ c) && decide (c ≤ 90)) || (decide (48 ≤ c) && decide (c ≤ 57)) || decide (c = 95)
def upper (c : Int) : Bool := decide (65 ≤ c) && decide (c ≤ 90)
def capital : List UInt8 → Bool
 | [] => false
 | c :: r => decide (r.length < 16) && upper c.toNat && r.all fun c => inNm c.toNat
def formed1 (k n : Int) (s : List UInt8) (len : Nat) : Bool :=
 if k = 0 then decide (s = []) && decide (len = 0)
 else if k = 1 then (decide (n = 0) || decide (n = 1)) && decide (s = []) && decide (len = 0)
 else if k = 2 then decide (n = 0) && decide (s = [])
 else if k = 3 then decide (n = 0) && capital s
 else false
mutual
def formedV : Val → Bool
 | .mk k n s kids => formed1 k n s kids.length && formedL kids
def formedL : List Val → Bool
 | [] => true
 | v :: r => formedV v && formedL r
end
def wide1 (k : Int) (len : Nat) : Bool := (decide (k = 2) && decide (256 < len)) || (decide (k = 3) && decide (16 < len))
mutual
def wideV : Val → Bool
 | .mk k _ _ kids => wide1 k kids.length || wideL kids
def wideL : List Val → Bool
 | [] => false
 | v :: r => wideV v || wideL r
end
def validV (v : Val) : Int := if formedV v = false then 1 else if wideV v = true ∨ 1024 < sizeV v then 4 else 0
def manyV (n : Nat) : List Val := (List.range n).map fun i : Nat => .mk 0 ((i : Int).tmod 3) [] []
theorem manyV_succ (n : Nat) : manyV (n + 1) = manyV n ++ [.mk 0 ((n : Int).tmod 3) [] []] := by simp [manyV, List.range_succ]
theorem manyV_length (n : Nat) : (manyV n).length = n := by simp [manyV]
theorem manyV_size (n : Nat) : sizeL (manyV n) = n := by
 induction n with
 | zero => rfl
 | succ n ih => rw [manyV_succ, sizeL_snoc, ih]; simp [sizeV, sizeL]
theorem okV_leaf {k n : Int} (hk : i64 k) (hn : i64 n) : okV (.mk k n [] []) := by
 simp only [okV, okVs]; exact ⟨hk, hn, by simp, by simp, trivial⟩
theorem manyV_ok (n : Nat) : okVs (manyV n) := okVs_of fun v hv => by
 obtain ⟨i, _, rfl⟩ := List.mem_map.1 hv
 have h := Int.tmod_lt_of_pos (i : Int) (show (0 : Int) < 3 by omega)
 have h' := Int.lt_tmod_of_pos (i : Int) (show (0 : Int) < 3 by omega)
 exact okV_leaf ⟨by omega, by omega⟩ ⟨by omega, by omega⟩
theorem okV_list {n : Int} {l : List Val} {k : Int} {s : List UInt8} (hk : i64 k) (hn : i64 n) (hs : s.length ≤ 4294967296) (hl : l.length ≤ 4294967296) (h : okVs l) : okV (.mk k n s l) := by
 simp only [okV]; exact ⟨hk, hn, hs, hl, h⟩
theorem encVs_set (l : List Val) (i : Nat) (v : Val) : encVs (l.set i v) = (encVs l).set i (encV v) := by simp [encVs_map, List.map_set]
theorem sizeL_set : ∀ {l : List Val} {i : Nat} (v : Val) (h : i < l.length), sizeL (l.set i v) + sizeV l[i] = sizeL l + sizeV v
 | a :: r, 0, v, h => by simp only [List.set_cons_zero, List.getElem_cons_zero, sizeL]; omega
 | a :: r, i + 1, v, h => by
  have := sizeL_set (l := r) (i := i) v (by simpa using h)
  simp only [List.set_cons_succ, List.getElem_cons_succ, sizeL]; omega
theorem okVs_set {l : List Val} {i : Nat} {v : Val} (hl : okVs l) (hv : okV v) : okVs (l.set i v) := okVs_of fun a ha => by
 rcases List.mem_or_eq_of_mem_set ha with h | rfl
 ·exact okVs_mem hl a h
 ·exact hv
theorem sizeL_le {l : List Val} {n : Nat} (h : ∀ v ∈ l, sizeV v ≤ n) : sizeL l ≤ l.length * n := by
 induction l with
 | nil => simp [sizeL]
 | cons a r ih =>
  simp only [sizeL, List.length_cons, Nat.add_mul, Nat.one_mul]
  have h1 := h a (List.mem_cons_self ..)
  have h2 := ih fun v hv => h v (List.mem_cons_of_mem _ hv)
  omega
theorem genV_size_pow : ∀ {d : Nat} {v : Val}, genV d v → sizeV v ≤ 4 ^ d
 | 0, .mk k n s kids, h => by
  simp only [genV] at h
  obtain ⟨_, rfl⟩ := h
  simp [sizeV, sizeL]
 | d + 1, .mk k n s kids, h => by
  simp only [genV] at h
  obtain ⟨_, h2, h3⟩ := h
  have := sizeL_le fun v hv => genV_size_pow (h3 v hv)
  have h4 : kids.length * 4 ^ d ≤ 3 * 4 ^ d := Nat.mul_le_mul_right _ h2
  have h5 : 1 ≤ 4 ^ d := Nat.one_le_pow _ _ (by omega)
  simp only [sizeV, Nat.pow_succ]
  omega
theorem genV_size {v : Val} (h : genV 3 v) : sizeV v ≤ 64 := genV_size_pow h
structure Nd where
 kind : Int
 name : List UInt8
 lo : Int
 hi : Int
 weights : List Int
 labels : List (List UInt8)
 values : List Val
 kids : List Int
 value : Val
structure okN (x : Nd) : Prop where
 kind : i64 x.kind
 name : x.name.length ≤ 4294967296
 lo : i64 x.lo
 hi : i64 x.hi
 weights : x.weights.length ≤ 4294967296
 weightsI : ∀ w ∈ x.weights, i64 w
 labels : x.labels.length ≤ 4294967296
 labelsI : ∀ w ∈ x.labels, w.length ≤ 4294967296
 values : x.values.length ≤ 4294967296
 valuesI : ∀ v ∈ x.values, okV v ∧ sizeV v ≤ 4294967296
 kids : x.kids.length ≤ 4294967296
 kidsI : ∀ k ∈ x.kids, i64 k
 value : okV x.value
 valueS : sizeV x.value ≤ 4294967296
def zeroV : Val → Bool
 | .mk k n s ks => decide (k = 0) && decide (n = 0) && decide (s = []) && decide (ks.length = 0)
def unusedN (x : Nd) : Bool :=
 (decide (x.kind = 0) || zeroV x.value) && (decide (x.kind = 1) || (decide (x.lo = 0) && decide (x.hi = 0))) && (decide (x.kind = 3) || decide (x.name = [])) &&
 (decide (x.kind = 2) || (decide (x.weights.length = 0) && decide (x.labels.length = 0))) && (decide (x.kind = 4) || decide (x.values.length = 0)) && ((decide (x.kind ≠ 0) && decide (x.kind ≠ 1)) || decide (x.kids.length = 0))
def sortedA : List Val → Bool
 | a :: b :: r => decide (cmpV a b < 0) && sortedA (b :: r)
 | _ => true
def kidsIn (i : Int) (l : List Int) : Bool := l.all fun k => decide (0 ≤ k) && decide (k < i)
def formedN (i : Int) (x : Nd) : Bool :=
 unusedN x && (decide (0 ≤ x.kind) && decide (x.kind ≤ 4)) && kidsIn i x.kids &&
 (decide (x.kind ≠ 2) || (decide (1 ≤ x.kids.length) && decide (x.kids.length ≤ 256) && decide (x.weights.length = x.kids.length) && (decide (x.labels.length = 0) || decide (x.labels.length = x.kids.length)))) &&
 (decide (x.kind ≠ 3) || (decide (x.kids.length ≤ 256) && (decide (x.name = []) || (capital x.name && decide (x.kids.length ≤ 16))))) &&
 (decide (x.kind ≠ 4) || decide (x.kids.length = x.values.length + 1)) && sortedA x.values
def numbersN (x : Nd) : Bool :=
 decide (x.lo ≤ x.hi) && decide (-4611686018427387904 ≤ x.lo) && decide (x.hi ≤ 4611686018427387904) && decide (x.hi < x.lo + 1099511627776) && x.weights.all fun w => decide (1 ≤ w) && decide (w ≤ 1000)
def firstE : List Val → Int
 | [] => 0
 | v :: r => if validV v ≠ 0 then validV v else firstE r
def ownN (x : Nd) : List Val := (if x.kind = 0 then [x.value] else []) ++ x.values
def nodeE (i : Int) (x : Nd) : Int :=
 if formedN i x = false then 1 else if firstE (ownN x) ≠ 0 then firstE (ownN x) else if numbersN x = false then 5 else 0
def atI (l : List Int) (k : Int) : Int := l.getD k.toNat 0
def sumK (before kids : List Int) : Int := kids.foldl (fun s k => s + atI before k) 0
def mostK (before kids : List Int) : Int := kids.foldl (fun s k => max s (atI before k)) 0
def armsN (x : Nd) : List Int := if x.kind = 2 then x.kids else x.kids.drop 1
def lenN (before : List Int) (x : Nd) : Int :=
 if x.kind = 0 then 0 else if x.kind = 1 then 1 else if x.kind = 3 then sumK before x.kids else if x.kind = 2 then 1 + mostK before (armsN x) else atI before (x.kids.getD 0 0) + mostK before (armsN x)
def sizN (before : List Int) (x : Nd) : Int :=
 if x.kind = 0 then sizeV x.value else if x.kind = 1 then 1 else if x.kind = 3 then 1 + sumK before x.kids else mostK before (armsN x)
structure Lst where
 vals : List Val
 many : Bool
def madeV (name : List UInt8) (kids : List Val) : Val := if name = [] then .mk 2 0 [] kids else .mk 3 0 name kids
def atL (l : List Lst) (k : Int) : Lst := l.getD k.toNat ⟨[], false⟩
def rangeV (lo hi : Int) : List Val := (List.range (hi + 1 - lo).toNat).map fun i : Nat => .mk 0 (lo + (i : Int)) [] []
def uniStep (before : List Lst) (x : List Val × Bool) (k : Int) : List Val × Bool :=
 (sortV (x.1 ++ (atL before k).vals), x.2 || (atL before k).many || decide (1024 < (sortV (x.1 ++ (atL before k).vals)).length))
def uniL (before : List Lst) (kids : List Int) : Lst :=
 if (kids.foldl (uniStep before) ([], false)).2 then ⟨[], true⟩ else ⟨(kids.foldl (uniStep before) ([], false)).1, false⟩
def rowsX (rows : List (List Val)) (l : List Val) : List (List Val) := rows.flatMap fun r => l.map fun v => r ++ [v]
def rowsL (before : List Lst) : List Int → List (List Val) → Option (List (List Val))
 | [], rows => some rows
 | k :: r, rows => if (atL before k).many = true ∨ 1024 < rows.length * (atL before k).vals.length then none else rowsL before r (rowsX rows (atL before k).vals)
def seqL (before : List Lst) (x : Nd) : Lst :=
 match rowsL before x.kids [[]] with
 | none => ⟨[], true⟩
 | some rows => ⟨sortV (rows.map (madeV x.name)), false⟩
def listN (x : Nd) (before : List Lst) : Lst :=
 if x.kind = 0 then ⟨[x.value], false⟩
 else if x.kind = 1 then (if 1024 ≤ x.hi - x.lo then ⟨[], true⟩ else ⟨rangeV x.lo x.hi, false⟩)
 else if x.kind = 3 then seqL before x
 else uniL before (if x.kind = 4 then x.kids.drop 1 else x.kids)
def listsT (nodes : List Nd) : List Lst := nodes.foldl (fun out x => out ++ [listN x out]) []
def sameVs : List Val → List Val → Bool
 | [], [] => true
 | a :: l, b :: m => decide (cmpV a b = 0) && sameVs l m
 | _, _ => false
def boundE (nodes : List Nd) (x : Nd) : Int :=
 let l := atL (listsT (nodes.take ((x.kids.getD 0 0).toNat + 1))) (x.kids.getD 0 0)
 if l.many = true then 4 else if sameVs l.vals x.values = true then 0 else 1
def stepE (before : List Nd) (ls ss : List Int) (x : Nd) : Int :=
 if nodeE before.length x ≠ 0 then nodeE before.length x
 else if 256 < lenN ls x ∨ 1024 < sizN ss x then 4
 else if x.kind = 4 then boundE before x else 0
def lensT (nodes : List Nd) : List Int := nodes.foldl (fun ls x => ls ++ [lenN ls x]) []
def sizsT (nodes : List Nd) : List Int := nodes.foldl (fun ls x => ls ++ [sizN ls x]) []
def validF : List Nd → List Nd → Int
 | _, [] => 0
 | before, x :: r => if stepE before (lensT before) (sizsT before) x ≠ 0 then stepE before (lensT before) (sizsT before) x else validF (before ++ [x]) r
def validT (nodes : List Nd) : Int := if 4096 < nodes.length then 4 else validF [] nodes
end Go.Ax
namespace Go.Ax
open Go
end Go.Ax
namespace Go.Ax
open Go
theorem snoc_ind {α : Type} {P : List α → Prop} (h0 : P []) (h1 : ∀ (l : List α) (x : α), P l → P (l ++ [x])) (l : List α) : P l := by
 rw [← List.reverse_reverse l]
 induction l.reverse with
 | nil => exact h0
 | cons a r ih => rw [List.reverse_cons]; exact h1 _ _ ih
structure GoodN (i : Nat) (x : Nd) : Prop where
 ok : okN x
 kind : 0 ≤ x.kind ∧ x.kind ≤ 4
 kids : ∀ (j : Nat) (k : Int), x.kids[j]? = some k → 0 ≤ k ∧ k < i
 klen : x.kids.length ≤ 65536
 num : numbersN x = true
structure NodeOK (i : Nat) (x : Nd) : Prop where
 kind : 0 ≤ x.kind ∧ x.kind ≤ 4
 kids : ∀ (j : Nat) (k : Int), x.kids[j]? = some k → 0 ≤ k ∧ k < i
 num : numbersN x = true
 klen : x.kind ≠ 4 → x.kids.length ≤ 256
 bind : x.kind = 4 → x.kids.length = x.values.length + 1
def abcd : List (List UInt8) := [[97], [98], [99], [100]]
structure GenN (x : Nd) : Prop where
 ok : okN x
 vals : x.values.length ≤ 1024
 labels : ∀ s ∈ x.labels, s ∈ abcd
structure TreeOK (ns : List Nd) : Prop where
 valid : validF [] ns = 0
 gen : ∀ x ∈ ns, GenN x
theorem TreeOK.ok {ns : List Nd} (h : TreeOK ns) : ∀ x ∈ ns, okN x := fun x hx => (h.gen x hx).ok
theorem TreeOK.snoc {ns : List Nd} {x : Nd} (h : TreeOK ns) (hl : ns.length ≤ 1000) (hx : GenN x) (hv : validT (ns ++ [x]) = 0) : TreeOK (ns ++ [x]) := by
 unfold validT at hv
 rw [if_neg (by simp; omega)] at hv
 refine ⟨hv, fun y hy => ?_⟩
 rcases List.mem_append.1 hy with hy | hy
 ·exact h.gen y hy
 ·simp at hy; rw [hy]; exact hx
end Go.Ax
namespace Go.Ax
open Go
mutual
theorem valEq : ∀ (a b : Val), cmpV a b = 0 → a = b
 | .mk k n s ks, .mk k' n' s' ks', h => by
  simp only [cmpV, andThen] at h
  split at h
  ·rename_i h1
   split at h
   ·rename_i h2
    split at h
    ·rename_i h3
     have e1 : k = k' := Decidable.byContradiction fun e => cmpI_nz e h1
     have e2 : n = n' := Decidable.byContradiction fun e => cmpI_nz e h2
     rw [e1, e2, cmpS_zero h3, valsEq ks ks' h]
    ·rename_i h3; exact absurd h h3
   ·rename_i h2; exact absurd h h2
  ·rename_i h1; exact absurd h h1
theorem valsEq : ∀ (l m : List Val), cmpL l m = 0 → l = m
 | [], [], _ => rfl
 | [], _ :: _, h => by simp [cmpL] at h
 | _ :: _, [], h => by simp [cmpL] at h
 | a :: l, b :: m, h => by
  simp only [cmpL, andThen] at h
  split at h
  ·rename_i h1; rw [valEq a b h1, valsEq l m h]
  ·rename_i h1; exact absurd h h1
end
theorem cmpV_irr (a : Val) : ¬ cmpV a a < 0 := by rw [(cmpV_good a).refl]; omega
theorem srt_ext : ∀ {a b : List Val}, Srt a → Srt b → (∀ x, x ∈ a ↔ x ∈ b) → a = b
 | [], [], _, _, _ => rfl
 | [], y :: m, _, _, h => by have := (h y).2 (by simp); simp at this
 | x :: l, [], _, _, h => by have := (h x).1 (by simp); simp at this
 | x :: l, y :: m, h1, h2, h => by
  unfold Srt at h1 h2
  rw [List.pairwise_cons] at h1 h2
  have e : x = y := by
   rcases List.mem_cons.1 ((h x).1 (by simp)) with e | e
   ·exact e
   ·rcases List.mem_cons.1 ((h y).2 (by simp)) with e' | e'
    ·exact e'.symm
    ·have a1 := h2.1 x e
     have a2 := h1.1 y e'
     have := lt_le a1 (by omega : cmpV x y ≤ 0)
     exact absurd this (cmpV_irr y)
  subst e
  congr 1
  refine srt_ext h1.2 h2.2 fun z => ?_
  constructor
  ·intro hz
   rcases List.mem_cons.1 ((h z).1 (by simp [hz])) with e | e
   ·subst e; exact absurd (h1.1 z hz) (cmpV_irr z)
   ·exact e
  ·intro hz
   rcases List.mem_cons.1 ((h z).2 (by simp [hz])) with e | e
   ·subst e; exact absurd (h2.1 z hz) (cmpV_irr z)
   ·exact e
theorem insV_has : ∀ (l : List Val) (v x : Val), x ∈ insV l v ↔ x = v ∨ x ∈ l
 | [], v, x => by simp [insV, findV]
 | a :: r, v, x => by
  rw [insV_cons]
  split
  ·split
   ·rename_i h
    have e := valEq a v (by simpa using h)
    subst e
    constructor
    ·intro h; exact .inr h
    ·rintro (rfl | h)
     ·simp
     ·exact h
   ·simp
  ·simp only [List.mem_cons, insV_has r v x]
   constructor
   ·rintro (h | h | h)
    ·exact .inr (.inl h)
    ·exact .inl h
    ·exact .inr (.inr h)
   ·rintro (h | h | h)
    ·exact .inr (.inl h)
    ·exact .inl h
    ·exact .inr (.inr h)
theorem sortV_has (l : List Val) (x : Val) : x ∈ sortV l ↔ x ∈ l := by
 refine snoc_ind (P := fun l => x ∈ sortV l ↔ x ∈ l) (by simp [sortV]) (fun l a ih => ?_) l
 rw [sortV_snoc, insV_has, ih]
 simp only [List.mem_append, List.mem_singleton]
 constructor
 ·rintro (h | h)
  ·exact .inr h
  ·exact .inl h
 ·rintro (h | h)
  ·exact .inr h
  ·exact .inl h
theorem sortV_of_srt {l : List Val} (h : Srt l) : sortV l = l := srt_ext (sortV_srt l) h (sortV_has l)
def rowAt : List (List Val) → Nat → List Val
 | [], _ => []
 | l :: r, k => rowAt r (k / l.length) ++ (l[k % l.length]?).toList
theorem cmpV_self (a : Val) : cmpV a a = 0 := (cmpV_good a).refl
theorem sortV_iff (l : List Val) (x : Val) : x ∈ sortV l ↔ x ∈ l := sortV_has l x
theorem sortV_eq {l m : List Val} (h : ∀ x, x ∈ l ↔ x ∈ m) : sortV l = sortV m :=
 srt_ext (sortV_srt l) (sortV_srt m) fun x => by rw [sortV_iff, sortV_iff, h]
def keepAt (l : List Val) : Nat → Bool
 | 0 => true
 | i + 1 => match l[i + 1]?, l[i]? with
  | some b, some a => !(cmpV b a == 0)
  | _, _ => true
def dedN (l : List Val) : Nat → List Val
 | 0 => []
 | i + 1 => match l[i]? with
  | some v => if keepAt l i = true then dedN l i ++ [v] else dedN l i
  | none => dedN l i
theorem dedN_all {l : List Val} : ∀ i, i ≤ l.length → (∀ j, j < i → keepAt l j = true) → dedN l i = l.take i
 | 0, _, _ => by simp [dedN]
 | i + 1, h, hk => by
  unfold dedN
  rw [List.getElem?_eq_getElem (by omega)]
  simp only
  rw [if_pos (hk i (by omega)), dedN_all i (by omega) (fun j hj => hk j (by omega)), List.take_succ_eq_append_getElem (by omega)]
def Asc (l : List Val) : Prop := ∀ (i j : Nat) (x y : Val), i < j → l[i]? = some x → l[j]? = some y → ¬ cmpV y x < 0
theorem dedN_ok {l : List Val} (h : Asc l) : ∀ i, i ≤ l.length → Srt (dedN l i) ∧ (∀ x, x ∈ dedN l i ↔ x ∈ l.take i)
 | 0, _ => ⟨by simp [dedN, Srt], by simp [dedN]⟩
 | i + 1, hi => by
  obtain ⟨s1, s2⟩ := dedN_ok h i (by omega)
  have hg : l[i]? = some l[i] := List.getElem?_eq_getElem (by omega)
  have ht : l.take (i + 1) = l.take i ++ [l[i]] := List.take_succ_eq_append_getElem (by omega)
  unfold dedN
  rw [hg]
  simp only
  by_cases hk : keepAt l i = true
  ·rw [if_pos hk]
   refine ⟨?_, fun x => by rw [ht, List.mem_append, List.mem_append, s2]⟩
   unfold Srt
   refine List.pairwise_append.2 ⟨s1, by simp, fun a ha b hb => ?_⟩
   have hb : b = l[i] := by simpa using hb
   subst hb
   have ha2 := (s2 a).1 ha
   obtain ⟨k, hkk, rfl⟩ := List.getElem_of_mem ha2
   have hki : k < i := by simp at hkk; omega
   rw [List.getElem_take]
   cases i with
   | zero => omega
   | succ i =>
    simp only [keepAt] at hk
    rw [hg, List.getElem?_eq_getElem (show i < l.length by omega)] at hk
    have hne : cmpV l[i + 1] l[i] ≠ 0 := by simpa using hk
    have h1 := h i (i + 1) _ _ (by omega) (List.getElem?_eq_getElem (by omega)) hg
    have h2 : cmpV l[i] l[i + 1] < 0 := flip_gt (by omega)
    rcases Nat.lt_or_ge k i with e | e
    ·have h3 := h k i _ _ e (List.getElem?_eq_getElem (by omega)) (List.getElem?_eq_getElem (by omega))
     exact le_lt (flip_ge (by omega)) h2
    ·have : k = i := by omega
     subst this; exact h2
  ·rw [if_neg hk]
   refine ⟨s1, fun x => ?_⟩
   rw [s2, ht, List.mem_append]
   refine ⟨fun hx => .inl hx, fun hx => ?_⟩
   rcases hx with hx | hx
   ·exact hx
   ·have hx : x = l[i] := by simpa using hx
    cases i with
    | zero => exact absurd rfl hk
    | succ i =>
     simp only [keepAt] at hk
     rw [hg, List.getElem?_eq_getElem (show i < l.length by omega)] at hk
     have he : cmpV l[i + 1] l[i] = 0 := by simpa using hk
     rw [hx, valEq _ _ he]
     exact List.mem_iff_getElem.2 ⟨i, by simp; omega, by rw [List.getElem_take]⟩
theorem ded_sort {l m : List Val} (hp : m.Perm l) (h : Asc m) : dedN m m.length = sortV l := by
 obtain ⟨h1, h2⟩ := dedN_ok h m.length (Nat.le_refl _)
 refine srt_ext h1 (sortV_srt l) fun x => ?_
 rw [h2, List.take_length, sortV_iff]
 exact hp.mem_iff
theorem findV_mem {l : List Val} (h : Srt l) {x : Val} (hx : x ∈ l) : ∃ k, findV l x = (k, true) ∧ k < l.length ∧ l[k]? = some x := by
 obtain ⟨k, hk, rfl⟩ := List.getElem_of_mem hx
 have hg : l[k]? = some l[k] := List.getElem?_eq_getElem hk
 refine ⟨k, ?_, hk, hg⟩
 rw [findV_at (Nat.le_of_lt hk) (fun p a hp ha => Srt.get h hp ha hg) (fun a ha => by rw [hg] at ha; cases ha; rw [cmpV_self]; omega)]
 unfold isAt
 rw [hg]
 simp [cmpV_self]
theorem ord_vals (l : List Val) : (∀ x ∈ l, ¬ cmpV x x < 0) ∧ (∀ x ∈ l, ∀ y ∈ l, ∀ z ∈ l, cmpV x y < 0 → cmpV y z < 0 → cmpV x z < 0) ∧ (∀ x ∈ l, ∀ y ∈ l, ∀ z ∈ l, ¬ cmpV x y < 0 → ¬ cmpV y z < 0 → ¬ cmpV x z < 0) := by
 refine ⟨fun x _ => by rw [cmpV_self]; omega, fun x _ y _ z _ h1 h2 => lt_le h1 (by omega), fun x _ y _ z _ h1 h2 h3 => ?_⟩
 have a := flip_ge (show 0 ≤ cmpV x y by omega)
 have b := flip_ge (show 0 ≤ cmpV y z by omega)
 have c := (cmpV_good z).trans y x b a
 have := flip_lt h3
 omega
end Go.Ax
