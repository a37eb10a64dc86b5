/- For every input (a slice of ints, a string, an int, a byte), refuterlaw10.ValuesParses returns true, and its arguments read behind the call as they read before (the card ValuesParsesCardSaid, the full form). Conditions: the package-level variables that the row lists hold, when the call begins, what the program's text lays (the card ties them to it); no bound on sizes. -/
import Derived.Test.YtfnhkfdjhmgjbaaGreatDoorAx10
import Derived.Test.YtfnhkfdjhmgjbaaGreatDoorProg
import Derived.KernelRfl
import Derived.Test.YtfnhkfdjhmgjbaaGreatDoorCards
import Derived.Test.YtfnhkfdjhmgjbaaGreatDoorTie
import Derived.Lib.LaidIn

namespace Go.Proofs.YtfnhkfdjhmgjbaaGreatDoor
open Go Go.Ax Go.Proofs
set_option linter.unusedVariables false
set_option maxRecDepth 100000

theorem isNaNI (x : Int) : PureC Tryz.prog [] 120 [.int .i64 x] (.bool false) := by
  refine acalls_run nnΓ Tryz.func120 rfl ?_
  conv => whnf
  refine fin_pure (.bool _) ⟨?_, rfl, rfl⟩
  simp

theorem isNaNS (x : List UInt8) : PureC Tryz.prog [] 121 [.str x] (.bool false) := by
  refine acalls_run nnΓ Tryz.func121 rfl ?_
  conv => whnf
  refine fin_pure (.bool _) ⟨?_, rfl, rfl⟩
  simp

theorem cmpInt (x y : Int) : PureC Tryz.prog [] 73 [.int .i64 x, .int .i64 y] (.int .i64 (cmpI x y)) := by
  refine acalls_run nnΓ Tryz.func73 rfl ?_
  conv => whnf
  refine (isNaNI x).use nnΓ (.cons (.int _ _) .nil) (.bool _) ?_
  conv => whnf
  refine (isNaNI y).use nnΓ (.cons (.int _ _) .nil) (.bool _) ?_
  conv => whnf
  refine bcs_mk (fun h => ?_) (fun h => ?_)
  · conv => whnf
    refine fin_pure (.int _ _) ⟨?_, rfl, rfl⟩
    simp at h
    simp [cmpI, h]
  conv => whnf
  refine bcs_mk (fun h' => ?_) (fun h' => ?_)
  · conv => whnf
    refine fin_pure (.int _ _) ⟨?_, rfl, rfl⟩
    simp at h h'
    simp only [cmpI]
    rw [if_neg (by omega), if_pos (by omega)]
  · conv => whnf
    refine fin_pure (.int _ _) ⟨?_, rfl, rfl⟩
    simp at h h'
    simp only [cmpI]
    rw [if_neg (by omega), if_neg (by omega)]

theorem cmpStr (x y : List UInt8) : PureC Tryz.prog [] 74 [.str x, .str y] (.int .i64 (cmpS x y)) := by
  refine acalls_run nnΓ Tryz.func74 rfl ?_
  conv => whnf
  refine (isNaNS x).use nnΓ (.cons (.str _) .nil) (.bool _) ?_
  conv => whnf
  refine (isNaNS y).use nnΓ (.cons (.str _) .nil) (.bool _) ?_
  conv => whnf
  refine bcs_mk (fun h => ?_) (fun h => ?_)
  · conv => whnf
    refine fin_pure (.int _ _) ⟨?_, rfl, rfl⟩
    rw [cmpS_less.1 h]
  conv => whnf
  refine bcs_mk (fun h' => ?_) (fun h' => ?_)
  · conv => whnf
    refine fin_pure (.int _ _) ⟨?_, rfl, rfl⟩
    rw [cmpS_more h h']
  · conv => whnf
    refine fin_pure (.int _ _) ⟨?_, rfl, rfl⟩
    rw [cmpS_same h h']

theorem cmpFunc (l1 l2 : List Val) (hb : l1.length ≤ 4294967296) (hc : ∀ a ∈ l1, ∀ b ∈ l2, PureC Tryz.prog [] 30 [encV a, encV b] (.int .i64 (cmpV a b))) :
    PureC Tryz.prog [] 75 [.il 4 (encVs l1), .il 4 (encVs l2), .fn (.func 30) [] []] (.int .i64 (cmpL l1 l2)) := by
  have n1 : NN (.il 4 (encVs l1)) := .il' (encVs_nn l1)
  have n2 : NN (.il 4 (encVs l2)) := .il' (encVs_nn l2)
  have n3 : NN (.fn (.func 30) [] []) := .fn _ _ _ (by simp) (by simp)
  refine acalls_run nnΓ Tryz.func75 rfl ?_
  conv => whnf
  refine AWp.loopAt nnΓ (fun k : Nat => k ≤ l1.length ∧ k ≤ l2.length ∧ cmpL l1 l2 = cmpL (l1.drop k) (l2.drop k))
    (fun k => ⟨[(0, .il 4 (encVs l1)), (1, .il 4 (encVs l2)), (2, .fn (.func 30) [] []), (11, .il 4 (encVs l1)), (12, .int .i64 (encVs l1).length), (13, .int .i64 k)], [], 0, 39⟩)
    (fun k => l1.length - k) 0 [] ⟨by simp, by simp, by simp⟩
    (conv_pure ⟨⟨_, rfl, .same _ n1⟩, ⟨_, rfl, .same _ n2⟩, ⟨_, rfl, .same _ n3⟩, ⟨_, rfl, .same _ n1⟩, ⟨_, rfl, .same _ (.int _ _)⟩, ⟨_, rfl, .same _ (.int _ _)⟩, trivial⟩) ?_
  rintro k ⟨h1, h2, h3⟩
  conv => whnf
  refine bcs_mk (fun h => ?_) (fun h => ?_)
  · have hk : k < l1.length := by rw [encVs_length] at h; simpa using h
    obtain ⟨⟨ka, na, sa, ksa⟩, hv⟩ : ∃ v, v = l1[k] := ⟨_, rfl⟩
    have hm : Val.mk ka na sa ksa ∈ l1 := by rw [hv]; exact List.getElem_mem hk
    have e : (encVs l1)[(k : Int).toNat]? = some (encV (.mk ka na sa ksa)) := by rw [Int.toNat_natCast, encVs_get, List.getElem?_eq_getElem hk, hv]; rfl
    conv => whnf
    refine opt_mk e ?_
    conv => whnf
    refine bcs_mk (fun h' => ?_) (fun h' => ?_)
    · have hk2 : k = l2.length := by rw [encVs_length] at h'; simp at h'; omega
      conv => whnf
      refine fin_pure (.int _ _) ⟨?_, rfl, rfl⟩
      rw [h3, List.drop_of_length_le (l := l2) (by omega), List.drop_eq_getElem_cons hk, cmpL]
    · have hk2 : k < l2.length := by rw [encVs_length] at h'; simpa using h'
      obtain ⟨⟨kb, nb, sb, ksb⟩, hv2⟩ : ∃ v, v = l2[k] := ⟨_, rfl⟩
      have hm2 : Val.mk kb nb sb ksb ∈ l2 := by rw [hv2]; exact List.getElem_mem hk2
      have e2 : (encVs l2)[(k : Int).toNat]? = some (encV (.mk kb nb sb ksb)) := by rw [Int.toNat_natCast, encVs_get, List.getElem?_eq_getElem hk2, hv2]; rfl
      conv => whnf
      refine opt_mk e2 ?_
      conv => whnf
      refine (hc _ hm _ hm2).use nnΓ (.cons (encV_nn _) (.cons (encV_nn _) .nil)) (.int _ _) ?_
      conv => whnf
      have hs := cmpL_step hk hk2
      rw [← hv, ← hv2] at hs
      refine bcs_mk (fun h4 => ?_) (fun h4 => ?_)
      · conv => whnf
        refine fin_pure (.int _ _) ⟨?_, rfl, rfl⟩
        have h4 : cmpV (.mk ka na sa ksa) (.mk kb nb sb ksb) ≠ 0 := by simpa using h4
        rw [h3, hs, andThen, if_neg h4]
      · have h4 : cmpV (.mk ka na sa ksa) (.mk kb nb sb ksb) = 0 := by simpa using h4
        conv => whnf
        refine .mk (k + 1) [] ⟨by omega, by omega, ?_⟩ (conv_pure ⟨⟨_, rfl, .same _ n1⟩, ⟨_, rfl, .same _ n2⟩, ⟨_, rfl, .same _ n3⟩, ⟨_, rfl, .same _ n1⟩, ⟨_, rfl, .same _ (.int _ _)⟩, ⟨_, rfl, .eq (.int _ _) ?_⟩, trivial⟩) (by omega)
        · rw [h3, hs, andThen, if_pos h4]
        · rw [wrap64 ⟨by omega, by omega⟩]; rfl
  · have hk : k = l1.length := by rw [encVs_length] at h; simp at h; omega
    have hd : l1.drop k = [] := List.drop_of_length_le (by omega)
    conv => whnf
    refine bcs_mk (fun h' => ?_) (fun h' => ?_)
    · have hk2 : l1.length < l2.length := by rw [encVs_length, encVs_length] at h'; simpa using h'
      conv => whnf
      refine fin_pure (.int _ _) ⟨?_, rfl, rfl⟩
      rw [h3, hd, List.drop_eq_getElem_cons (show k < l2.length by omega), cmpL]
    · have hk2 : l2.length ≤ l1.length := by rw [encVs_length, encVs_length] at h'; simpa using h'
      conv => whnf
      refine fin_pure (.int _ _) ⟨?_, rfl, rfl⟩
      rw [h3, hd, List.drop_of_length_le (by omega), cmpL]

/-- 'values.Compare'. -/
theorem vCompare : ∀ (a b : Val), okV a → PureC Tryz.prog [] 30 [encV a, encV b] (.int .i64 (cmpV a b))
  | .mk ka na sa ksa, .mk kb nb sb ksb, ha => by
    simp only [okV] at ha
    have hkids : ∀ a ∈ ksa, ∀ b ∈ ksb, PureC Tryz.prog [] 30 [encV a, encV b] (.int .i64 (cmpV a b)) := fun a hm b _ => vCompare a b (okVs_mem ha.2.2.2.2 a hm)
    refine acalls_run nnΓ Tryz.func30 rfl ?_
    conv => whnf
    refine (cmpInt ka kb).use nnΓ (.cons (.int _ _) (.cons (.int _ _) .nil)) (.int _ _) ?_
    conv => whnf
    refine bcs_mk (fun h => ?_) (fun h => ?_)
    · conv => whnf
      refine fin_pure (.int _ _) ⟨?_, rfl, rfl⟩
      have h : cmpI ka kb ≠ 0 := by simpa using h
      rw [cmpV, andThen, if_neg h]
    have h : cmpI ka kb = 0 := by simpa using h
    conv => whnf
    refine (cmpInt na nb).use nnΓ (.cons (.int _ _) (.cons (.int _ _) .nil)) (.int _ _) ?_
    conv => whnf
    refine bcs_mk (fun h2 => ?_) (fun h2 => ?_)
    · conv => whnf
      refine fin_pure (.int _ _) ⟨?_, rfl, rfl⟩
      have h2 : cmpI na nb ≠ 0 := by simpa using h2
      rw [cmpV, andThen, if_pos h, andThen, if_neg h2]
    have h2 : cmpI na nb = 0 := by simpa using h2
    conv => whnf
    refine (cmpStr sa sb).use nnΓ (.cons (.str _) (.cons (.str _) .nil)) (.int _ _) ?_
    conv => whnf
    refine bcs_mk (fun h3 => ?_) (fun h3 => ?_)
    · conv => whnf
      refine fin_pure (.int _ _) ⟨?_, rfl, rfl⟩
      have h3 : cmpS sa sb ≠ 0 := by simpa using h3
      rw [cmpV, andThen, if_pos h, andThen, if_pos h2, andThen, if_neg h3]
    have h3 : cmpS sa sb = 0 := by simpa using h3
    conv => whnf
    refine (cmpFunc ksa ksb ha.2.2.2.1 hkids).use nnΓ (.cons (.il' (encVs_nn _)) (.cons (.il' (encVs_nn _)) (.cons (.fn _ _ _ (by simp) (by simp)) .nil))) (.int _ _) ?_
    conv => whnf
    refine fin_pure (.int _ _) ⟨?_, rfl, rfl⟩
    rw [cmpV, andThen, if_pos h, andThen, if_pos h2, andThen, if_pos h3]
  termination_by a => SizeOf.sizeOf a
  decreasing_by simp; have := List.sizeOf_lt_of_mem hm; omega

theorem signC (b : Bool) : PureC Tryz.prog [] 106 [.bool b] (.int .i64 (if b then -1 else 1)) := by
  refine acalls_run nnΓ Tryz.func106 rfl ?_
  conv => whnf
  refine bcs_mk (fun h => ?_) (fun h => ?_)
  · conv => whnf
    exact fin_pure (.int _ _) ⟨by rw [h]; rfl, rfl, rfl⟩
  · conv => whnf
    exact fin_pure (.int _ _) ⟨by rw [h]; rfl, rfl, rfl⟩

/-- 'refuterref10.Compare'. -/
theorem rCompare : ∀ (a b : Val), okV a → PureC Tryz.prog [] 60 [encV a, encV b] (.int .i64 (cmpV a b))
  | .mk ka na sa ksa, .mk kb nb sb ksb, ha => by
    simp only [okV] at ha
    have hb : ksa.length ≤ 4294967296 := ha.2.2.2.1
    have hkids : ∀ a ∈ ksa, ∀ b ∈ ksb, PureC Tryz.prog [] 60 [encV a, encV b] (.int .i64 (cmpV a b)) := fun a hm b _ => rCompare a b (okVs_mem ha.2.2.2.2 a hm)
    refine acalls_run nnΓ Tryz.func60 rfl ?_
    conv => whnf
    refine bcs_mk (fun h => ?_) (fun h => ?_)
    · conv => whnf
      refine (signC _).use nnΓ (.cons (.bool _) .nil) (.int _ _) ?_
      conv => whnf
      refine fin_pure (.int _ _) ⟨?_, rfl, rfl⟩
      rw [cmpV_kind (by simpa using h)]
      simp
    have h : ka = kb := by simpa using h
    conv => whnf
    refine bcs_mk (fun h2 => ?_) (fun h2 => ?_)
    · conv => whnf
      refine (signC _).use nnΓ (.cons (.bool _) .nil) (.int _ _) ?_
      conv => whnf
      refine fin_pure (.int _ _) ⟨?_, rfl, rfl⟩
      rw [cmpV_n h (by simpa using h2)]
      simp
    have h2 : na = nb := by simpa using h2
    conv => whnf
    refine bcs_mk (fun h3 => ?_) (fun h3 => ?_)
    · conv => whnf
      refine (signC _).use nnΓ (.cons (.bool _) .nil) (.int _ _) ?_
      conv => whnf
      refine fin_pure (.int _ _) ⟨?_, rfl, rfl⟩
      rw [cmpV_s h h2 (by simpa using h3)]
    have h3 : sa = sb := by simpa using h3
    have hcmp : cmpV (.mk ka na sa ksa) (.mk kb nb sb ksb) = cmpL ksa ksb := cmpV_l h h2 h3
    conv => whnf
    refine AWp.loopAt nnΓ (fun k : Nat => k ≤ ksa.length ∧ k ≤ ksb.length ∧ cmpL ksa ksb = cmpL (ksa.drop k) (ksb.drop k))
      (fun k => ⟨[(2, .ptr 0 0 0), (3, .ptr 1 0 0), (5, .int .i64 k)], [(1, .row 33 4 [encV (.mk kb nb sb ksb)]), (0, .row 33 4 [encV (.mk ka na sa ksa)])], 2, 83⟩)
      (fun k => ksa.length - k) 0 [(0, 0), (1, 1)] ⟨by simp, by simp, by simp⟩
      (conv_mk _ rfl ⟨⟨1, _, rfl, rfl, .same (.cons (encV_nn _) .nil)⟩, ⟨0, _, rfl, rfl, .same (.cons (encV_nn _) .nil)⟩, trivial⟩ ⟨⟨_, rfl, .ptr 0 0 0 0 rfl⟩, ⟨_, rfl, .ptr 1 1 0 0 rfl⟩, ⟨_, rfl, .same _ (.int _ _)⟩, trivial⟩) ?_
    rintro k ⟨h4, h5, h6⟩
    conv => whnf
    refine bcs_mk (fun h7 => ?_) (fun h7 => ?_)
    · have hk : k < ksa.length := by rw [encVs_length] at h7; simpa using h7
      rw [h7]
      conv => whnf
      refine bcs_mk (fun h8 => ?_) (fun h8 => ?_)
      · have hk2 : k < ksb.length := by rw [encVs_length] at h8; simpa using h8
        conv => whnf
        have e1 := enc_at hk
        have e2 := enc_at hk2
        obtain ⟨⟨k1, n1, s1, ks1⟩, hv1⟩ : ∃ v, v = ksa[k] := ⟨_, rfl⟩
        obtain ⟨⟨k2, n2, s2, ks2⟩, hv2⟩ : ∃ v, v = ksb[k] := ⟨_, rfl⟩
        rw [← hv1] at e1
        rw [← hv2] at e2
        refine opt_mk e1 ?_
        conv => whnf
        refine opt_mk e2 ?_
        conv => whnf
        have hm1 : Val.mk k1 n1 s1 ks1 ∈ ksa := by rw [hv1]; exact List.getElem_mem hk
        have hm2 : Val.mk k2 n2 s2 ks2 ∈ ksb := by rw [hv2]; exact List.getElem_mem hk2
        have hs := cmpL_step hk hk2
        rw [← hv1, ← hv2] at hs
        refine (hkids _ hm1 _ hm2).use nnΓ (.cons (encV_nn _) (.cons (encV_nn _) .nil)) (.int _ _) ?_
        conv => whnf
        refine bcs_mk (fun h9 => ?_) (fun h9 => ?_)
        · have h9 : cmpV (.mk k1 n1 s1 ks1) (.mk k2 n2 s2 ks2) ≠ 0 := by simpa using h9
          conv => whnf
          refine fin_pure (.int _ _) ⟨?_, rfl, rfl⟩
          rw [hcmp, h6, hs, andThen, if_neg h9]
        · have h9 : cmpV (.mk k1 n1 s1 ks1) (.mk k2 n2 s2 ks2) = 0 := by simpa using h9
          conv => whnf
          refine .mk (k + 1) [(0, 0), (1, 1)] ⟨by omega, by omega, by rw [h6, hs, andThen, if_pos h9]⟩ (conv_mk _ rfl ⟨⟨1, _, rfl, rfl, .same (.cons (encV_nn _) .nil)⟩, ⟨0, _, rfl, rfl, .same (.cons (encV_nn _) .nil)⟩, trivial⟩ ⟨⟨_, rfl, .ptr 0 0 0 0 rfl⟩, ⟨_, rfl, .ptr 1 1 0 0 rfl⟩, ⟨_, rfl, .eq (.int _ _) ?_⟩, trivial⟩) (by omega)
          rw [wrap64 ⟨by omega, by omega⟩]; rfl
      · have hk2 : k = ksb.length := by rw [encVs_length] at h8; simp at h8; omega
        conv => whnf
        refine bcs_mk (fun h9 => ?_) (fun h9 => ?_)
        · exfalso
          rw [encVs_length, encVs_length] at h9
          simp at h9
          omega
        · conv => whnf
          refine (signC _).use nnΓ (.cons (.bool _) .nil) (.int _ _) ?_
          conv => whnf
          refine fin_pure (.int _ _) ⟨?_, rfl, rfl⟩
          rw [hcmp, h6, List.drop_of_length_le (l := ksb) (by omega), List.drop_eq_getElem_cons hk, cmpL, encVs_length, encVs_length, if_neg (by simp; omega)]
    · have hk : k = ksa.length := by rw [encVs_length] at h7; simp at h7; omega
      have hd : ksa.drop k = [] := List.drop_of_length_le (by omega)
      rw [h7]
      conv => whnf
      refine bcs_mk (fun h9 => ?_) (fun h9 => ?_)
      · have h9 : ksa.length = ksb.length := by rw [encVs_length, encVs_length] at h9; simp at h9; omega
        conv => whnf
        refine fin_pure (.int _ _) ⟨?_, rfl, rfl⟩
        rw [hcmp, h6, hd, List.drop_of_length_le (by omega), cmpL]
      · have h9 : ksa.length ≠ ksb.length := by rw [encVs_length, encVs_length] at h9; simp at h9; omega
        conv => whnf
        refine (signC _).use nnΓ (.cons (.bool _) .nil) (.int _ _) ?_
        conv => whnf
        refine fin_pure (.int _ _) ⟨?_, rfl, rfl⟩
        rw [hcmp, h6, hd, List.drop_eq_getElem_cons (show k < ksb.length by omega), cmpL, encVs_length, encVs_length, if_pos (by simp; omega)]
  termination_by a => SizeOf.sizeOf a
  decreasing_by simp; have := List.sizeOf_lt_of_mem hm; omega
end Go.Proofs.YtfnhkfdjhmgjbaaGreatDoor

namespace Go.Proofs.YtfnhkfdjhmgjbaaGreatDoor
open Go Go.Ax Go.Proofs
set_option linter.unusedVariables false
set_option maxRecDepth 100000
set_option maxHeartbeats 4000000

def eqV (a b : Val) : Bool := cmpV a b == 0
theorem rEqual (a b : Val) (ho : okV a) : PureC Tryz.prog [] 20 [encV a, encV b] (.bool (eqV a b)) := by
  have hC := rCompare a b ho
  unfold eqV
  obtain ⟨c, hc⟩ : ∃ c, c = cmpV a b := ⟨_, rfl⟩
  rw [← hc] at hC ⊢
  clear hc
  refine acalls_go nnΓ Tryz.func20 rfl ?_
  obtain ⟨a1, a2, a3, a4⟩ := a
  obtain ⟨b1, b2, b3, b4⟩ := b
  ((conv => whnf); repeat ((first | refine AWp.many ?_ | refine AOps.many ?_ | refine ADr.go ?_); conv => whnf))
  refine hC.go ?_
  ((conv => whnf); repeat ((first | refine AWp.many ?_ | refine AOps.many ?_ | refine ADr.go ?_); conv => whnf))
  exact fin_pure (.bool _) ⟨rfl, rfl, rfl⟩
theorem eqV_self (a : Val) : eqV a a = true := by
  unfold eqV
  have := (cmpV_good a).anti a
  simp
  omega
end Go.Proofs.YtfnhkfdjhmgjbaaGreatDoor

namespace Go.Proofs.YtfnhkfdjhmgjbaaGreatDoor
open Go Go.Ax Go.Proofs
set_option linter.unusedVariables false
set_option maxRecDepth 100000
set_option maxHeartbeats 4000000

theorem encB_set (l : List UInt8) (i : Nat) (b : UInt8) : (encB l).set i (.int .u8 (b.toNat : Int)) = encB (l.set i b) := by rw [encB, encB, List.map_set]

theorem toB {xs : List AV} {l : List UInt8} {n : Nat} (h : xs = encB l) (hn : n = l.length) : toBytes (List.take n (List.drop 0 xs)) = some l := by
  rw [h, List.drop_zero, encB_take, toBytes_encB, hn, List.take_length]

theorem toB' {l : List UInt8} {n m : Nat} (hm : m = n) : toBytes (List.take m (List.drop 0 (encB l))) = some (l.take n) := by
  rw [List.drop_zero, encB_take, toBytes_encB, hm]

theorem lawParsesW (l : List Int) (raw : List UInt8) (at_ : Int) (by_ : UInt8) (hl : ∀ x ∈ l, i64 x) (hr : raw.length ≤ 9223372036854775807) (ha : i64 at_) (_ : True) : PureC Tryz.prog gz 5 [.il 1 (encI l), .str raw, .int .i64 at_, .int .u8 by_.toNat] (.bool true) := by
  refine acalls_go nngz Tryz.func5 rfl ?_
  have h0 : i64 0 := ⟨by omega, by omega⟩
  ((conv => whnf); repeat ((first | refine AWp.many ?_ | refine AOps.many ?_ | refine ADr.go ?_); conv => whnf))
  refine ACalls.goG0 (rSome l 0 0 h0) ?_
  rintro r m' n' ⟨⟨a1, a2, a3, a4⟩, rfl, oa, sa, ga, rfl, rfl⟩
  refine ⟨_, .same _ nn, ?_⟩
  have hg := ga (by omega)
  have hfm := genV_formed hg
  have hsz := genV_size hg
  have hlen := print_len _ oa hfm
  have hpos := print_pos hfm
  have hP := rPrint _ oa hfm (by omega)
  clear hg hfm ga
  generalize printV (.mk a1 a2 a3 a4) = t at hlen hpos hP
  replace hlen : t.length ≤ 2000 := by omega
  ((conv => whnf); repeat ((first | refine AWp.many ?_ | refine AOps.many ?_ | refine ADr.go ?_); conv => whnf))
  refine hP.goG ?_
  ((conv => whnf); repeat ((first | refine AWp.many ?_ | refine AOps.many ?_ | refine ADr.go ?_); conv => whnf))
  refine ACalls.pre nngz [(2, 2), (0, 0)] (mem' := [(2, gB [at_] 0), (0, .row 5 1 (encB t))]) rfl
    ⟨⟨2, _, rfl, rfl, .cons (.agg (.cons (.fz' rfl rfl (by simp) rfl nns) (.cons (.int rfl) .nil))) .nil⟩, ⟨0, _, rfl, rfl, .same (encB_nn _)⟩, trivial⟩ (.cons (.ptr 2 2 0 0 rfl) (.cons (.same _ nn) .nil)) ?_
  refine ACalls.glob (gNextAt 2 _ (by omega) (by omega) (by omega) rfl fun k k0 k1 => ?_)
  obtain ⟨k, rfl⟩ : ∃ i : Nat, k = i := ⟨k.toNat, by omega⟩
  replace k1 : k < t.length := by omega
  have eT : List.take t.length (List.drop 0 (encB t)) = encB t := by rw [List.drop_zero, List.take_of_length_le (by rw [encB_length]; omega)]
  have lT := encB_length t
  ((conv => whnf); repeat ((first | refine AWp.many ?_ | refine AOps.many ?_ | refine ADr.go ?_); conv => whnf))
  refine grd_mk (src_ok (by rw [lT]; omega)) ?_
  rw [eT]
  ((conv => whnf); repeat ((first | refine AWp.many ?_ | refine AOps.many ?_ | refine ADr.go ?_); conv => whnf))
  refine grd_mk (app_ok rfl rfl rfl (by rw [lT]; omega)) ?_
  have eA : ([] : List AV) ++ encB t = encB t := rfl
  have hgk : (encB t)[k]? = some (.int .u8 (t[k].toNat : Int)) := by rw [encB_get, List.getElem?_eq_getElem k1]; rfl
  have hgk' : (encB t)[0 + ((k : Int)).toNat]? = some (.int .u8 (t[k].toNat : Int)) := by simpa using hgk
  generalize t[k] = tk at hgk hgk'
  ((conv => whnf); repeat ((first | refine AWp.many ?_ | refine AOps.many ?_ | refine ADr.go ?_); conv => whnf))
  rw [eA]
  refine grd_mk (Nat.ble_eq_true_of_le (by rw [lT]; simp; omega)) ?_
  refine opt_mk hgk' ?_
  ((conv => whnf); repeat ((first | refine AWp.many ?_ | refine AOps.many ?_ | refine ADr.go ?_); conv => whnf))
  refine opt_mk hgk' ?_
  ((conv => whnf); repeat ((first | refine AWp.many ?_ | refine AOps.many ?_ | refine ADr.go ?_); conv => whnf))
  refine setK_iff.2 ?_
  rw [encB_set]
  have lU : (t.set (0 + ((k : Int)).toNat) by_).length = t.length := List.length_set
  generalize t.set (0 + ((k : Int)).toNat) by_ = u1 at lU
  ((conv => whnf); repeat ((first | refine AWp.many ?_ | refine AOps.many ?_ | refine ADr.go ?_); conv => whnf))
  refine grd_mk (sl_ok (by omega) (by simp; omega) (by omega)) ?_
  ((conv => whnf); repeat ((first | refine AWp.many ?_ | refine AOps.many ?_ | refine ADr.go ?_); conv => whnf))
  rw [w64 (x := (k : Int) + 1) (y := ((k + 1 : Nat) : Int)) (by omega) ⟨by omega, by omega⟩]
  ((conv => whnf); repeat ((first | refine AWp.many ?_ | refine AOps.many ?_ | refine ADr.go ?_); conv => whnf))
  refine grd_mk (sl_ok (by simp; omega) (by omega) (by omega)) ?_
  have eK : List.take (((k : Int)).toNat - 0) (List.drop (0 + 0) (encB t)) = encB (t.take k) := by rw [encB_drop, encB_take]; simp
  have eK1 : List.take (t.length - (((k + 1 : Nat) : Int)).toNat) (List.drop (0 + (((k + 1 : Nat) : Int)).toNat) (encB t)) = encB (t.drop (k + 1)) := by
    rw [encB_drop, encB_take, Int.toNat_natCast, Nat.zero_add, List.take_of_length_le (by simp)]
  have lK : (encB (t.take k)).length = k := by rw [encB_length]; simp; omega
  have lK1 : (encB (t.drop (k + 1))).length = t.length - (k + 1) := by rw [encB_length]; simp
  ((conv => whnf); repeat ((first | refine AWp.many ?_ | refine AOps.many ?_ | refine ADr.go ?_); conv => whnf))
  refine grd_mk (src_ok (by rw [lT]; simp; omega)) ?_
  rw [eK]
  ((conv => whnf); repeat ((first | refine AWp.many ?_ | refine AOps.many ?_ | refine ADr.go ?_); conv => whnf))
  refine grd_mk (app_nil rfl (by rw [lK]; omega)) ?_
  ((conv => whnf); repeat ((first | refine AWp.many ?_ | refine AOps.many ?_ | refine ADr.go ?_); conv => whnf))
  repeat (first | (refine ⟨rfl, ?_⟩; ((conv => whnf); repeat ((first | refine AWp.many ?_ | refine AOps.many ?_ | refine ADr.go ?_); conv => whnf))) | (refine grd_mk (sl_ok (by (try simp) <;> omega) (by (try simp) <;> omega) (by (try simp) <;> omega)) ?_; ((conv => whnf); repeat ((first | refine AWp.many ?_ | refine AOps.many ?_ | refine ADr.go ?_); conv => whnf))))
  refine grd_mk (src_ok (by rw [lT]; simp; omega)) ?_
  rw [eK1]
  ((conv => whnf); repeat ((first | refine AWp.many ?_ | refine AOps.many ?_ | refine ADr.go ?_); conv => whnf))
  refine grd_mk (app_ok rfl rfl rfl (by rw [lK, lK1]; omega)) ?_
  ((conv => whnf); repeat ((first | refine AWp.many ?_ | refine AOps.many ?_ | refine ADr.go ?_); conv => whnf))
  repeat (first | (refine ⟨rfl, ?_⟩; ((conv => whnf); repeat ((first | refine AWp.many ?_ | refine AOps.many ?_ | refine ADr.go ?_); conv => whnf))) | (refine grd_mk (sl_ok (by (try simp) <;> omega) (by (try simp) <;> omega) (by (try simp) <;> omega)) ?_; ((conv => whnf); repeat ((first | refine AWp.many ?_ | refine AOps.many ?_ | refine ADr.go ?_); conv => whnf))))
  have eK2 : List.take (t.length - ((k : Int)).toNat) (List.drop (0 + ((k : Int)).toNat) (encB t)) = encB (t.drop k) := by
    rw [encB_drop, encB_take, Int.toNat_natCast, Nat.zero_add, List.take_of_length_le (by simp)]
  have lK2 : (encB (t.drop k)).length = t.length - k := by rw [encB_length]; simp
  refine grd_mk (src_ok (by rw [lT]; simp; omega)) ?_
  rw [eK]
  ((conv => whnf); repeat ((first | refine AWp.many ?_ | refine AOps.many ?_ | refine ADr.go ?_); conv => whnf))
  refine grd_mk (app_nil rfl (by rw [lK]; omega)) ?_
  ((conv => whnf); repeat ((first | refine AWp.many ?_ | refine AOps.many ?_ | refine ADr.go ?_); conv => whnf))
  repeat (first | (refine ⟨rfl, ?_⟩; ((conv => whnf); repeat ((first | refine AWp.many ?_ | refine AOps.many ?_ | refine ADr.go ?_); conv => whnf))) | (refine grd_mk (sl_ok (by (try simp) <;> omega) (by (try simp) <;> omega) (by (try simp) <;> omega)) ?_; ((conv => whnf); repeat ((first | refine AWp.many ?_ | refine AOps.many ?_ | refine ADr.go ?_); conv => whnf))))
  refine grd_mk (app_ok rfl rfl rfl (by rw [lK]; simp; omega)) ?_
  ((conv => whnf); repeat ((first | refine AWp.many ?_ | refine AOps.many ?_ | refine ADr.go ?_); conv => whnf))
  repeat (first | (refine ⟨rfl, ?_⟩; ((conv => whnf); repeat ((first | refine AWp.many ?_ | refine AOps.many ?_ | refine ADr.go ?_); conv => whnf))) | (refine grd_mk (sl_ok (by (try simp) <;> omega) (by (try simp) <;> omega) (by (try simp) <;> omega)) ?_; ((conv => whnf); repeat ((first | refine AWp.many ?_ | refine AOps.many ?_ | refine ADr.go ?_); conv => whnf))))
  refine grd_mk (src_ok (by rw [lT]; simp; omega)) ?_
  rw [eK2]
  ((conv => whnf); repeat ((first | refine AWp.many ?_ | refine AOps.many ?_ | refine ADr.go ?_); conv => whnf))
  refine grd_mk (app_ok rfl rfl (by simp) (by rw [lK, lK2]; simp; omega)) ?_
  ((conv => whnf); repeat ((first | refine AWp.many ?_ | refine AOps.many ?_ | refine ADr.go ?_); conv => whnf))
  repeat (first | (refine ⟨rfl, ?_⟩; ((conv => whnf); repeat ((first | refine AWp.many ?_ | refine AOps.many ?_ | refine ADr.go ?_); conv => whnf))) | (refine grd_mk (sl_ok (by (try simp) <;> omega) (by (try simp) <;> omega) (by (try simp) <;> omega)) ?_; ((conv => whnf); repeat ((first | refine AWp.many ?_ | refine AOps.many ?_ | refine ADr.go ?_); conv => whnf))))
  have eX : encB (t.take k) ++ encB (t.drop (k + 1)) = encB (t.take k ++ t.drop (k + 1)) := (encB_append _ _).symm
  have eY : encB (t.take k) ++ List.take 1 (List.drop 0 [AV.int IntKind.u8 (by_.toNat : Int)]) ++ encB (t.drop k) = encB (t.take k ++ [by_] ++ t.drop k) := by rw [encB_append, encB_append]; rfl
  have lX : (t.take k ++ t.drop (k + 1)).length = t.length - 1 := by simp; omega
  have lY : (t.take k ++ [by_] ++ t.drop k).length = t.length + 1 := by simp; omega
  rw [eX, eY]
  refine grd_mk (Nat.ble_eq_true_of_le (by rw [lT, encB_length, lU]; omega)) ?_
  refine opt_mk (toB rfl (by rw [lT, lU]; omega)) ?_
  ((conv => whnf); repeat ((first | refine AWp.many ?_ | refine AOps.many ?_ | refine ADr.go ?_); conv => whnf))
  refine grd_mk (Nat.ble_eq_true_of_le (by rw [lK, lK1, encB_length, lX]; omega)) ?_
  refine opt_mk (toB rfl (by rw [lK, lK1, lX]; omega)) ?_
  ((conv => whnf); repeat ((first | refine AWp.many ?_ | refine AOps.many ?_ | refine ADr.go ?_); conv => whnf))
  refine grd_mk (Nat.ble_eq_true_of_le (by rw [lK, lK2, encB_length, lY]; simp; omega)) ?_
  refine opt_mk (toB rfl (by rw [lK, lK2, lY]; simp; omega)) ?_
  ((conv => whnf); repeat ((first | refine AWp.many ?_ | refine AOps.many ?_ | refine ADr.go ?_); conv => whnf))
  have eM : (if (100 : Int) < (raw.length : Int) then 100 else (raw.length : Int)) = ((min raw.length 100 : Nat) : Int) := by split <;> omega
  rw [eM]
  have hmn1 : min raw.length 100 ≤ raw.length := by omega
  have hmn2 : min raw.length 100 ≤ 100 := by omega
  generalize min raw.length 100 = mn at hmn1 hmn2
  ((conv => whnf); repeat ((first | refine AWp.many ?_ | refine AOps.many ?_ | refine ADr.go ?_); conv => whnf))
  refine grd_mk (sl_ok (by omega) (by simp; omega) (by omega)) ?_
  ((conv => whnf); repeat ((first | refine AWp.many ?_ | refine AOps.many ?_ | refine ADr.go ?_); conv => whnf))
  refine grd_mk (Nat.ble_eq_true_of_le (show _ ≤ (encB raw).length by rw [encB_length]; simp; omega)) ?_
  refine opt_mk (toB' (l := raw) (n := mn) (by simp)) ?_
  ((conv => whnf); repeat ((first | refine AWp.many ?_ | refine AOps.many ?_ | refine ADr.go ?_); conv => whnf))
  repeat (first | (refine grd_mk (b := Nat.ble (0 + t.length) (encB t).length) (Nat.ble_eq_true_of_le (by rw [lT]; omega)) ?_; refine opt_mk (toB (l := t) rfl rfl) ?_; ((conv => whnf); repeat ((first | refine AWp.many ?_ | refine AOps.many ?_ | refine ADr.go ?_); conv => whnf))) | (refine grd_mk (Nat.ble_eq_true_of_le (by simp; omega)) ?_; ((conv => whnf); repeat ((first | refine AWp.many ?_ | refine AOps.many ?_ | refine ADr.go ?_); conv => whnf))))
  obtain ⟨ss, hss⟩ : ∃ ss : List (List UInt8), ss = [u1, t.take k ++ t.drop (k + 1), t.take k ++ [by_] ++ t.drop k, raw.take mn, t ++ [32], [91] ++ t, t ++ [41]] := ⟨_, rfl⟩
  have hl7 : ss.length = 7 := by rw [hss]; rfl
  have hsl : ∀ s ∈ ss, s.length ≤ 1000000000 := by
    intro s hs
    rw [hss] at hs
    simp only [List.mem_cons, List.not_mem_nil, or_false] at hs
    rcases hs with rfl | rfl | rfl | rfl | rfl | rfl | rfl
    · omega
    · omega
    · omega
    · simp; omega
    · simp; omega
    · simp; omega
    · simp; omega
  have hnS : NNs (ss.map AV.str) := fun a ha => by obtain ⟨x, _, rfl⟩ := List.mem_map.1 ha; exact .str x
  refine ALoop.at nngz (fun i : Nat => i ≤ 7) (fun i => ⟨[(15, .sl 0 0 7), (16, .int .i64 i)], [(0, .row 9 1 (ss.map AV.str))], 1, 128⟩) (fun i => 7 - i) 0 [(56, 0)] (by simp)
    (conv_mk _ rfl ⟨⟨56, _, rfl, rfl, .eq hnS (by rw [hss]; rfl)⟩, trivial⟩ ⟨⟨_, rfl, .sl 56 0 0 7 rfl⟩, ⟨_, rfl, .same _ nn⟩, trivial⟩) ?_
  clear hss
  intro i hi
  ((conv => whnf); repeat ((first | refine AWp.many ?_ | refine AOps.many ?_ | refine ADr.go ?_); conv => whnf))
  refine bcs_mk (fun h => ?_) (fun h => ?_)
  · have hi7 : i < 7 := by simp at h; omega
    have hgi : (ss.map AV.str)[0 + ((i : Int)).toNat]? = some (.str ss[i]) := by simp [List.getElem?_eq_getElem (show i < ss.length by omega)]
    have hbi : Nat.blt ((i : Int)).toNat 7 = true := Nat.ble_eq_true_of_le (by simp; omega)
    have hPa := vParse ss[i] (hsl _ (List.getElem_mem _))
    generalize ss[i] = s at hgi hPa
    ((conv => whnf); repeat ((first | refine AWp.many ?_ | refine AOps.many ?_ | refine ADr.go ?_); conv => whnf))
    repeat (first | (refine grd_mk hbi ?_; ((conv => whnf); repeat ((first | refine AWp.many ?_ | refine AOps.many ?_ | refine ADr.go ?_); conv => whnf))) | (refine opt_mk hgi ?_; ((conv => whnf); repeat ((first | refine AWp.many ?_ | refine AOps.many ?_ | refine ADr.go ?_); conv => whnf))))
    clear eX eY lX lY eM eK eK1 eK2 lK lK1 lK2 eA eT lT hgk hgk' hP
    refine ACalls.call0 nngz hPa nns ?_
    rintro r m' n' ⟨⟨v1, v2, v3, v4⟩, e, rfl, rfl, rfl, hv⟩
    refine ⟨_, .same _ nn, ?_⟩
    rcases hv with ⟨rfl, ov, sv, vv, pv⟩ | ⟨rfl, hz, _⟩
    · have hV := rValid _ ov (by omega)
      rw [vv] at hV
      have hPr := rPrint _ ov (valid_fits vv).1 (by omega)
      have es := pVal_sound _ _ _ _ _ _ pv
      rw [List.append_nil] at es
      rw [← es] at hPr
      clear hPa es pv
      ((conv => whnf); repeat ((first | refine AWp.many ?_ | refine AOps.many ?_ | refine ADr.go ?_); conv => whnf))
      refine hV.goG ?_
      ((conv => whnf); repeat ((first | refine AWp.many ?_ | refine AOps.many ?_ | refine ADr.go ?_); conv => whnf))
      repeat (first | (refine grd_mk hbi ?_; ((conv => whnf); repeat ((first | refine AWp.many ?_ | refine AOps.many ?_ | refine ADr.go ?_); conv => whnf))) | (refine opt_mk hgi ?_; ((conv => whnf); repeat ((first | refine AWp.many ?_ | refine AOps.many ?_ | refine ADr.go ?_); conv => whnf))))
      refine hPr.goG ?_
      ((conv => whnf); repeat ((first | refine AWp.many ?_ | refine AOps.many ?_ | refine ADr.go ?_); conv => whnf))
      repeat (first | (refine ⟨rfl, ?_⟩; ((conv => whnf); repeat ((first | refine AWp.many ?_ | refine AOps.many ?_ | refine ADr.go ?_); conv => whnf))) | (refine grd_mk hbi ?_; ((conv => whnf); repeat ((first | refine AWp.many ?_ | refine AOps.many ?_ | refine ADr.go ?_); conv => whnf))) | (refine opt_mk hgi ?_; ((conv => whnf); repeat ((first | refine AWp.many ?_ | refine AOps.many ?_ | refine ADr.go ?_); conv => whnf))))
      have hne : (s == s) = true := by simp
      rw [hne]
      ((conv => whnf); repeat ((first | refine AWp.many ?_ | refine AOps.many ?_ | refine ADr.go ?_); conv => whnf))
      exact .mk (i + 1) [(0, 0)] (by omega) (conv_mk _ rfl ⟨⟨0, _, rfl, rfl, .same hnS⟩, trivial⟩ ⟨⟨_, rfl, .sl 0 0 0 7 rfl⟩, ⟨_, rfl, .w64 (by omega) ⟨by omega, by omega⟩⟩, trivial⟩) (by omega)
    · cases hz
      have hE := rEqual (.mk 0 0 [] []) (.mk 0 0 [] []) (okV_leaf ⟨by omega, by omega⟩ ⟨by omega, by omega⟩)
      rw [eqV_self] at hE
      ((conv => whnf); repeat ((first | refine AWp.many ?_ | refine AOps.many ?_ | refine ADr.go ?_); conv => whnf))
      refine ACalls.pre nngz [(0, 0)] (mem' := [(0, .row 9 1 (ss.map AV.str))]) rfl
        ⟨⟨0, _, rfl, rfl, .same hnS⟩, trivial⟩ (.cons (.same _ nn) (.cons (cvLeaf _ _ _) .nil)) ?_
      refine hE.goG ?_
      ((conv => whnf); repeat ((first | refine AWp.many ?_ | refine AOps.many ?_ | refine ADr.go ?_); conv => whnf))
      exact .mk (i + 1) [(0, 0)] (by omega) (conv_mk _ rfl ⟨⟨0, _, rfl, rfl, .same hnS⟩, trivial⟩ ⟨⟨_, rfl, .sl 0 0 0 7 rfl⟩, ⟨_, rfl, .w64 (by omega) ⟨by omega, by omega⟩⟩, trivial⟩) (by omega)
  · ((conv => whnf); repeat ((first | refine AWp.many ?_ | refine AOps.many ?_ | refine ADr.go ?_); conv => whnf))
    refine ACalls.call0 nngz (acalls_closed 60 (by rw [lives10]; trivial)) .nil ?_
    intro r m' n' hr
    rw [saysTrue_eq hr]
    refine ⟨_, .same _ (.bool true), ?_⟩
    ((conv => whnf); repeat ((first | refine AWp.many ?_ | refine AOps.many ?_ | refine ADr.go ?_); conv => whnf))
    exact fin_pure (.bool _) ⟨rfl, rfl, rfl⟩
end Go.Proofs.YtfnhkfdjhmgjbaaGreatDoor

/- For every input (a slice of ints, a string, an int, a byte), refuterlaw10.ValuesParses returns true, and its arguments read behind the call as they read before (the card ValuesParsesCardSaid, the full form). Conditions: the package-level variables that the row lists hold, when the call begins, what the program's text lays (the card ties them to it); no bound on sizes. -/
namespace Go.Proofs.YtfnhkfdjhmgjbaaGreatDoor.ValuesParses
open Go.ChangeShapes Go.WideShapes Go.ChangeAt Go.RowKit Go.Lib Go.Ax
set_option linter.unusedVariables false

theorem own : ownKnob Tryz.prog.godebug = none := by kernel_rfl
theorem laidOut : laidOutB Tryz.prog = true := by kernel_rfl
theorem cells3 : Tryz.prog.cellsOf 3 = 1 := by kernel_rfl
theorem cells8 : Tryz.prog.cellsOf 5 = 1 := by kernel_rfl
theorem gName : Tryz.prog.globalNamed "strconv.ErrSyntax" = some 0 := by kernel_rfl
theorem gNameR : Tryz.prog.globalNamed "strconv.ErrRange" = some 1 := by kernel_rfl
theorem gNameP : Tryz.prog.globalNamed "internal/strconv.uint64pow10" = some 2 := by kernel_rfl

theorem gType : (Tryz.prog.globals[0]?).map (·.type) = some 131 := by kernel_rfl
theorem gTypeR : (Tryz.prog.globals[1]?).map (·.type) = some 131 := by kernel_rfl
theorem gTypeP : (Tryz.prog.globals[2]?).map (·.type) = some 240 := by kernel_rfl
theorem star : "*" ++ "errors.errorString" = "*errors.errorString" := by decide
theorem named (u : TypeId) (h : Tryz.prog.typeName? 3 u = some "*errors.errorString") : u = 243 :=
  typeName_ptr_named (nm := "errors.errorString") (by rw [star]; kernel_rfl) (by kernel_rfl) (by decide) u (by rw [star]; exact h)
theorem cellsE : Tryz.prog.cellsOf 245 = 1 := by kernel_rfl
theorem cellsS : Tryz.prog.cellsOf 9 = 1 := by kernel_rfl
theorem cellsU : Tryz.prog.cellsOf 60 = 1 := by kernel_rfl
theorem cellsP : Tryz.prog.cellsOf 240 = 20 := by kernel_rfl
def pows : List Int := [1, 10, 100, 1000, 10000, 100000, 1000000, 10000000, 100000000, 1000000000, 10000000000, 100000000000, 1000000000000, 10000000000000, 100000000000000, 1000000000000000, 10000000000000000, 100000000000000000, 1000000000000000000, 10000000000000000000]

/-- What the row's list gives: the variables that are read. -/
theorem vars {W : World} (h : laidMetH Tryz.prog Rows.valuesParsesRow.laid W) : ∀ p ∈ gz, VR (fun _ => ⟨0, 0, 0⟩) (fun _ => False) (OX (fun _ => False) (fun _ => ⟨0, 0, 0⟩) []) W (.ip p.2) (.pointer (some ⟨p.1, 0, none⟩)) := by
  have h : laidMet Tryz.prog Rows.valuesParsesRow.laid W := h
  have h4 := h.tail.tail.tail.tail
  obtain ⟨a, s, hv, hc, hs, hz⟩ := laid_sentinel (tp := 243) (te := 245) (ts := 9) h4 gName gType Tryz.underlying131 named Tryz.underlying243 Tryz.underlying245 rfl rfl Tryz.underlying9 cellsE cellsS
  have hsp := laid_spot h4 gName hv Tryz.underlying243
  have h3 := h.tail.tail.tail
  obtain ⟨a', s', hv', hc', hs', hz'⟩ := laid_sentinel (tp := 243) (te := 245) (ts := 9) h3 gNameR gTypeR Tryz.underlying131 named Tryz.underlying243 Tryz.underlying245 rfl rfl Tryz.underlying9 cellsE cellsS
  have hsp' := laid_spot h3 gNameR hv' Tryz.underlying243
  have h2 := h.tail.tail
  have htab := tabIs_of_head (k := .u64) (zs := pows) gNameP gTypeP Tryz.underlying240 Tryz.underlying60 cellsU cellsP h2
  intro p hp
  simp only [gz, List.mem_cons, List.not_mem_nil, or_false] at hp
  rcases hp with rfl | rfl | rfl
  · exact vr_iface_var gName hv hsp
  · exact vr_iface_var gNameR hv' hsp'
  · exact vr_tab_var gNameP htab

set_option maxRecDepth 100000 in
/-- What the walk gives, for every argument. -/
theorem contract (H : Type) (enc : TypeId × Value → H) (W : World) (base : Nat) (args : Array Value) (ds gs : List (DataW H)) (before : List MemPlace)
    (hval : ∀ (j : Nat) t v, Tryz.f5.params[j]? = some t → args[j]? = some v → Value.okWide Tryz.prog W .any base t v)
    (hW : DataW.Whole enc Tryz.prog Tryz.f5.params.toList Rows.valuesParsesSpec.vars false W args.toList ds gs before) (hL : laidMetH Tryz.prog Rows.valuesParsesRow.laid W) :
    Calls Tryz.prog 5 args W fun e W' => ∃ v, e = .returned v ∧ Rows.valuesParsesSpec.post enc Tryz.prog Tryz.f5 false true false false W args v W' := by
  have hW' := hW
  obtain ⟨p, q, hA0, hV, rfl, hfz, hnd⟩ := hW
  have hA : DataW.TrodAll enc Tryz.prog W 0 (fun _ => true) true Tryz.f5.params.toList args.toList ds p := hA0
  rw [Tryz.params5] at hA hval
  obtain ⟨v0, vs0, d0, ds0, p0, q0, hargs, rfl, rfl, h0, r0⟩ := trodAll_cons hA
  obtain ⟨v1, vs1, d1, ds1, p1, q1, rfl, rfl, rfl, h1, r1⟩ := trodAll_cons r0
  obtain ⟨v2, vs2, d2, ds2, p2, q2, rfl, rfl, rfl, h2, r2⟩ := trodAll_cons r1
  obtain ⟨v3, vs3, d3, ds3, p3, q3, rfl, rfl, rfl, h3, r3⟩ := trodAll_cons r2
  obtain ⟨rfl, rfl, rfl⟩ := trodAll_nil r3
  obtain rfl : args = #[v0, v1, v2, v3] := by cases args; simp_all
  obtain ⟨rfl, rfl⟩ := trodVars_none hV
  have h0k := h0
  obtain ⟨x0, b0, e0⟩ := vr_ints_of Tryz.underlying22 Tryz.underlying3 cells3 (hval 0 22 v0 rfl rfl) h0
  have h1k := h1
  obtain ⟨x1, rfl, rfl, b1⟩ := str_of Tryz.underlying9 (hval 1 9 v1 rfl rfl) h1
  have h2k := h2
  obtain ⟨x2, rfl, rfl, rfl, hwf2⟩ := open_int Tryz.underlying3 (hval 2 3 v2 rfl rfl) h2
  have b2 : i64 x2 := by
    have e1 : IntKind.i64.min = -9223372036854775808 := rfl
    have e2 : IntKind.i64.max = 9223372036854775807 := rfl
    simp [Lit.wf, e1, e2] at hwf2
    unfold i64
    omega
  have h3k := h3
  obtain ⟨x3, rfl, rfl⟩ := byte_of Tryz.underlying5 (hval 3 5 v3 rfl rfl) h3
  have b3 : True := trivial
  clear hA0
  refine ((lawParsesW x0 x1 x2 x3 b0 b1 b2 b3).callsG W [v0, .string ⟨x1.toArray⟩, .int .i64 x2, .int .u8 (x3.toNat : Int)] (vars hL) (.cons e0 (.cons (.str _) (.cons (.int _ _) (.cons (.int _ _) .nil))))).mono ?_
  rintro e W' ⟨rfl, hk⟩
  refine ⟨_, rfl, _, _, _, [], p0 ++ ([] ++ ([] ++ ([] ++ []))), [], hW', ?_, ?_, ?_, hk.frame _, fun h => by cases h⟩
  · exact trodAll_cons_mk (shut_bool Tryz.underlying4 _) trodAll_mk0
  · exact trodAll_cons_mk (Kept.trod laidOut (by kernel_rfl) (of_decide_eq_true (by kernel_rfl)) h0k hk) (trodAll_cons_mk (Kept.trod laidOut (by kernel_rfl) (of_decide_eq_true (by kernel_rfl)) h1k hk) (trodAll_cons_mk (Kept.trod laidOut (by kernel_rfl) (of_decide_eq_true (by kernel_rfl)) h2k hk) (trodAll_cons_mk (Kept.trod laidOut (by kernel_rfl) (of_decide_eq_true (by kernel_rfl)) h3k hk) trodAll_mk0)))
  · rfl

/-- A world for the witness: the settled one with two blocks more (the two errors' structs), the five variables holding what their initialisers lay. -/
noncomputable def laidWorld (os : Os) : World :=
  let N := (World.settled Tryz.prog os).heap.size
  let w0 := World.holding Tryz.prog os ⟨#[
    .cells #[.string ⟨#[105, 110, 118, 97, 108, 105, 100, 32, 115, 121, 110, 116, 97, 120]⟩] 245,
    .cells #[.string ⟨#[118, 97, 108, 117, 101, 32, 111, 117, 116, 32, 111, 102, 32, 114, 97, 110, 103, 101]⟩] 245], #[], []⟩
  let put (h : Array Obj) (g : Nat) (cs : Array Value) : Array Obj := h.modify g fun
    | .cells _ t frozen => .cells cs t frozen
    | o => o
  let nums (d : DataW Unit) : Array Value := match d with
    | .agg ds => (ds.map fun
      | .lit (.int k n) => Value.int k n
      | _ => .bool false).toArray
    | _ => #[]
  let h0 := put (put w0.heap 0 #[.iface 243 (.pointer (some ⟨N, 0, none⟩))]) 1 #[.iface 243 (.pointer (some ⟨N + 1, 0, none⟩))]
  let h1 := put h0 2 (nums Rows.laid_internal_strconv_uint64pow10)
  let h2 := put h1 3 (nums Rows.laid_math_bits_deBruijn32tab)
  let h3 := put h2 4 (nums Rows.laid_math_bits_deBruijn64tab)
  { w0 with heap := h3 }
noncomputable abbrev N0 : Nat := (World.settled Tryz.prog default).heap.size
theorem laid_met (os : Os) (args : Array Value) : laidMet Tryz.prog Rows.valuesParsesRow.laid ((laidWorld os).forCall (fun _ _ => 0) ⟨#[], args, []⟩).memory :=
  (LaidIn.of_run (l := Rows.valuesParsesRow.laid) [0, 1, 2, 3, 4, N0, N0 + 1] 8 (by kernel_rfl) (by kernel_rfl) (by kernel_rfl) (by kernel_rfl)).met

noncomputable abbrev wargs : Array Value := #[.slice none 0 0, .string ⟨#[]⟩, .int .i64 0, .int .u8 0]
theorem reads (os : Os) {H : Type} (enc : TypeId × Value → H) : ∃ places, DataW.whole enc Tryz.prog ((laidWorld os).forCall (fun _ _ => 0) ⟨#[], wargs, []⟩).memory Tryz.f5.params.toList Rows.valuesParsesSpec.vars false wargs.toList 8 = some ([.nil, .lit (.string []), .lit (.int .i64 0), .lit (.int .u8 0)], [], places) :=
  ⟨[], by kernel_rfl⟩

set_option maxRecDepth 100000 in
theorem lifted (os : Os) (started : os.Started) (H : Type) (enc : TypeId × Value → H) (F : Stop.Interp) :
    ReturnsInHanded {} Tryz.checked os 5 .any ((OpenSpec.ofChange Rows.valuesParsesSpec).preRow enc Tryz.prog Tryz.f5 Rows.valuesParsesRow.domain false Rows.valuesParsesRow.laid) (((OpenSpec.ofChange Rows.valuesParsesSpec).at F).post enc Tryz.prog Tryz.f5 false true false false) := by
  obtain ⟨places, hx⟩ := reads os enc
  refine returnsInHanded_of_row (C := Tryz.checked) (s := OpenSpec.ofChange Rows.valuesParsesSpec) own started (by kernel_rfl) Tryz.func5
    (witness_row_atRef (enc := enc) (C := Tryz.checked) false (laidWorld os) wargs rfl (by kernel_rfl) (by kernel_rfl) (by kernel_rfl)
      (OpenSpec.preRow_of_cond 8 hx (by kernel_rfl) (fun k hk => by cases hk) (by kernel_rfl) (laid_met os _))) ?_
  intro W base args ds gs before hval hW _ _ _ hL _ _
  exact contract H enc W base args ds gs before hval hW hL

theorem said : Rows.ValuesParsesSaid :=
  OpenClaim.holds_of_cond 5 Tryz.f5 rfl rfl rfl rfl rfl rfl rfl ⟨rfl, rfl, rfl, rfl, rfl⟩ rfl rfl rfl rfl rfl (by kernel_rfl) Tryz.func5 (by kernel_rfl)
    (of_decide_eq_true (by kernel_rfl)) (by unfold Func.isWrapper; first | (rw [if_pos (by decide +kernel)]; kernel_rfl) | (rw [if_neg (by decide +kernel)]; exact ⟨rfl, rfl⟩))
    (fun os started H enc _ F => by rw [OpenClaim.pre_eq_preRow]; exact lifted os started H enc F)

theorem plain (f : FuncId) (fn : Func) (hf : Tryz.pinned.checked.prog.funcNamed "refuter/refuterlaw10.ValuesParses" = some f) (hfn : Tryz.pinned.checked.prog.funcs[f]? = some fn) :
    true = Tryz.pinned.checked.prog.looks [] ∧ ∀ (j : Nat) t, fn.params[j]? = some t → Tryz.pinned.checked.prog.wantsStandIn t = false := by
  obtain rfl : f = 5 := Option.some.inj ((show Tryz.prog.funcNamed "refuter/refuterlaw10.ValuesParses" = some 5 by kernel_rfl).symm.trans hf) |>.symm
  obtain rfl : fn = Tryz.f5 := (Option.some.inj (Tryz.func5.symm.trans hfn)).symm
  refine ⟨by kernel_rfl, fun j t ht => ?_⟩
  rw [Tryz.params5] at ht
  have hTI : Tryz.prog.wantsStandIn 22 = false := by kernel_rfl
  have hTi : Tryz.prog.wantsStandIn 3 = false := by kernel_rfl
  have hTs : Tryz.prog.wantsStandIn 9 = false := by kernel_rfl
  have hTb : Tryz.prog.wantsStandIn 5 = false := by kernel_rfl
  have hm := Array.mem_of_getElem? ht
  simp at hm
  repeat' (first | (rw [(hm : t = 22)]; exact hTI) | (rw [(hm : t = 3)]; exact hTi) | (rw [(hm : t = 9)]; exact hTs) | (rw [(hm : t = 5)]; exact hTb) | rcases hm with hm | hm)

/-- The card. -/
theorem card : Rows.ValuesParsesCardSaid :=
  Claim7.holds_tied_plain_at .later [] _ _ _ _ said (fun _ h => by cases h) (by kernel_rfl) (fun _ h => by cases h) valuesParses_row_tie rfl ⟨rfl, rfl⟩ (by kernel_rfl) rfl plain (by kernel_rfl)
end Go.Proofs.YtfnhkfdjhmgjbaaGreatDoor.ValuesParses
