/- A part of the proof. -/
import Derived.Test.YtnookkohfkjbcaaGreatDoorAx10
import Derived.Test.YtnookkohfkjbcaaGreatDoorProg
import Derived.KernelRfl
set_option linter.unusedVariables false
namespace Go.Proofs.YtnookkohfkjbcaaGreatDoor
open Go Go.Ax Go.Proofs
set_option maxRecDepth 100000
set_option maxHeartbeats 4000000
theorem rSize : ∀ v : Val, sizeV v ≤ 1099511627776 → PureC Tryz.prog [] 81 [encV v] (.int .i64 (sizeV v))
 | .mk vk vn vs ks, hs => by
  have hs' : sizeL ks + 1 ≤ 1099511627776 := by simp only [sizeV] at hs; omega
  have ih : ∀ a ∈ ks, PureC Tryz.prog [] 81 [encV a] (.int .i64 (sizeV a)) := fun a hm => rSize a (by have := sizeV_mem hm; omega)
  have hl := sizeL_len ks
  refine acalls_go nnΓ Tryz.func81 rfl ?_
  ((conv=>whnf);repeat(refine Xg ?_;conv=>whnf))
  refine ALoop.at nnΓ (fun k : Nat => k ≤ ks.length)
   (fun k => ⟨[(1, .ptr 0 0 0), (3, .int .i64 (1 + sizeL (ks.take k) : Nat)), (4, .int .i64 k)], [(0, .row 33 4 [encV (.mk vk vn vs ks)])], 1, 21⟩)
   (fun k => ks.length - k) 0 [(0, 0)] (by simp)
   (conv_mk _ rfl ⟨⟨0, _, rfl, rfl, .same nns⟩, trivial⟩ ⟨⟨_, rfl, .ptr 0 0 0 0 rfl⟩, ⟨_, rfl, .same _ nn⟩, ⟨_, rfl, .same _ nn⟩, trivial⟩) ?_
  intro k hk
  ((conv=>whnf);repeat(refine Xg ?_;conv=>whnf))
  refine bcs_mk (fun h => ?_) (fun h => ?_)
  ·have hlt := klt h
   obtain ⟨a, b, c, d, hm, hg, he, e1⟩ := enc_cases hlt
   have hsz := sizeL_take hlt
   have hle := sizeL_take_le ks (k + 1)
   rw [he] at hsz
   ((conv=>whnf);repeat(refine Xg ?_;conv=>whnf))
   refine opt_mk e1 ?_
   ((conv=>whnf);repeat(refine Xg ?_;conv=>whnf))
   refine (ih _ hm).go ?_
   ((conv=>whnf);repeat(refine Xg ?_;conv=>whnf))
   exact .mk (k + 1) [(0, 0)] (by omega) (conv_mk _ rfl ⟨⟨0, _, rfl, rfl, .same nns⟩, trivial⟩ ⟨⟨_, rfl, .ptr 0 0 0 0 rfl⟩, ⟨_, rfl, .w64 (by omega) ⟨by omega, by omega⟩⟩, ⟨_, rfl, .w64 (by omega) ⟨by omega, by omega⟩⟩, trivial⟩) (by omega)
  ·have hk' : k = ks.length := by have := kge h; omega
   ((conv=>whnf);repeat(refine Xg ?_;conv=>whnf))
   refine fin_pure nn ⟨?_, rfl, rfl⟩
   rw [hk', List.take_length, sizeV]
 termination_by v => SizeOf.sizeOf v
 decreasing_by simp; have := List.sizeOf_lt_of_mem hm; omega
theorem vInName (c : Int) : PureC Tryz.prog [] 143 [.int .u8 c] (.bool (inNm c)) := by
 refine acalls_go nnΓ Tryz.func143 rfl ?_
 ((conv=>whnf);repeat(refine Xg ?_;conv=>whnf))
 repeat' (refine bcs_mk (fun h => ?_) (fun h => ?_) <;> ((try rw [h]); ((conv=>whnf);repeat(refine Xg ?_;conv=>whnf))))
 all_goals
  refine fin_pure nn ⟨?_, rfl, rfl⟩
  congr 1
  rw [Bool.eq_iff_iff]
  simp [inNm] at *
  try omega
theorem rCapital (s : List UInt8) (hs : s.length ≤ 4294967296) : PureC Tryz.prog [] 123 [.str s] (.bool (capital s)) := by
  refine acalls_go nnΓ Tryz.func123 rfl ?_
  ((conv=>whnf);repeat(refine Xg ?_;conv=>whnf))
  refine bcs_mk (fun h => ?_) (fun h => ?_)
  · rw [h]
    ((conv=>whnf);repeat(refine Xg ?_;conv=>whnf))
    refine fin_pure nn ⟨?_, rfl, rfl⟩
    rw [capital_nil (by simp at h; omega)]
  have h1 : 1 ≤ s.length := by simp at h; omega
  rw [h]
  ((conv=>whnf);repeat(refine Xg ?_;conv=>whnf))
  refine bcs_mk (fun h => ?_) (fun h => ?_)
  · rw [h]
    ((conv=>whnf);repeat(refine Xg ?_;conv=>whnf))
    refine fin_pure nn ⟨?_, rfl, rfl⟩
    rw [capital_long (by simp at h; omega)]
  have h2 : s.length ≤ 16 := by simp at h; omega
  rw [h]
  obtain ⟨a, ha⟩ : ∃ a, s[0]? = some a := ⟨s[0], by simp⟩
  ((conv=>whnf);repeat(refine Xg ?_;conv=>whnf))
  refine opt_mk ha ?_
  ((conv=>whnf);repeat(refine Xg ?_;conv=>whnf))
  refine bcs_mk (fun h => ?_) (fun h => ?_)
  · rw [h]
    ((conv=>whnf);repeat(refine Xg ?_;conv=>whnf))
    refine fin_pure nn ⟨?_, rfl, rfl⟩
    rw [capital_up ha (by simp [upper] at *; omega)]
  have h3 : 65 ≤ (a.toNat : Int) := by simpa using h
  rw [h]
  ((conv=>whnf);repeat(refine Xg ?_;conv=>whnf))
  refine opt_mk ha ?_
  ((conv=>whnf);repeat(refine Xg ?_;conv=>whnf))
  refine bcs_mk (fun h => ?_) (fun h => ?_)
  · ((conv=>whnf);repeat(refine Xg ?_;conv=>whnf))
    refine fin_pure nn ⟨?_, rfl, rfl⟩
    rw [capital_up ha (by simp [upper] at *; omega)]
  have h4 : (a.toNat : Int) ≤ 90 := by simpa using h
  ((conv=>whnf);repeat(refine Xg ?_;conv=>whnf))
  refine ALoop.at nnΓ (fun i : Nat => i ≤ s.length ∧ ∀ j c, j < i → s[j]? = some c → inNm c.toNat = true)
    (fun i => ⟨[(0, .str s), (3, .int .i64 i)], [], 0, 64⟩) (fun i => s.length - i) 0 [] ⟨by simp, by simp⟩
    (conv_pure ⟨⟨_, rfl, .same _ nn⟩, ⟨_, rfl, .same _ nn⟩, trivial⟩) ?_
  rintro i ⟨hi, hall⟩
  ((conv=>whnf);repeat(refine Xg ?_;conv=>whnf))
  refine bcs_mk (fun h => ?_) (fun h => ?_)
  · have hlt : i < s.length := by simpa using h
    obtain ⟨c, hc⟩ : ∃ c, s[i]? = some c := ⟨s[i], by simp [hlt]⟩
    have hc' : s[(i : Int).toNat]? = some c := by rw [Int.toNat_natCast]; exact hc
    ((conv=>whnf);repeat(refine Xg ?_;conv=>whnf))
    refine opt_mk hc' ?_
    ((conv=>whnf);repeat(refine Xg ?_;conv=>whnf))
    repeat' (refine bcs_mk (fun h => ?_) (fun h => ?_) <;> ((try rw [h]); ((conv=>whnf);repeat(refine Xg ?_;conv=>whnf))))
    all_goals first
      | (refine fin_pure nn ⟨?_, rfl, rfl⟩
         rw [capital_in hc (by rw [Bool.eq_false_iff]; simp [inNm] at *; omega)])
      | (refine .mk (i + 1) [] ⟨by omega, fun j c2 hj hc2 => ?_⟩ (conv_pure ⟨⟨_, rfl, .same _ nn⟩, ⟨_, rfl, .w64 (by omega) ⟨by omega, by omega⟩⟩, trivial⟩) (by omega)
         rcases Nat.lt_or_ge j i with hj' | hj'
         · exact hall j c2 hj' hc2
         · have hji : j = i := by omega
           rw [hji, hc] at hc2
           cases hc2
           simp [inNm] at *
           omega)
  · ((conv=>whnf);repeat(refine Xg ?_;conv=>whnf))
    refine fin_pure nn ⟨?_, rfl, rfl⟩
    have hk : i = s.length := by simp at h; omega
    rw [capital_of ha h2 (by simp [upper]; omega) fun j c hc => hall j c (by rw [hk]; exact (List.getElem?_eq_some_iff.1 hc).1) hc]
theorem vCapital (s : List UInt8) (hs : s.length ≤ 4294967296) : PureC Tryz.prog [] 132 [.str s] (.bool (capital s)) := by
 refine acalls_go nnΓ Tryz.func132 rfl ?_
 ((conv=>whnf);repeat(refine Xg ?_;conv=>whnf))
 refine bcs_mk (fun h => ?_) (fun h => ?_)
 ·rw [h]
  ((conv=>whnf);repeat(refine Xg ?_;conv=>whnf))
  refine fin_pure nn ⟨?_, rfl, rfl⟩
  rw [capital_nil (by simp at h; rw [h]; simp)]
 have h1 : 1 ≤ s.length := by
  rcases Nat.eq_zero_or_pos s.length with h' | h'
  ·rw [List.eq_nil_of_length_eq_zero h'] at h; simp at h
  ·exact h'
 rw [h]
 ((conv=>whnf);repeat(refine Xg ?_;conv=>whnf))
 refine bcs_mk (fun h => ?_) (fun h => ?_)
 ·rw [h]
  ((conv=>whnf);repeat(refine Xg ?_;conv=>whnf))
  refine fin_pure nn ⟨?_, rfl, rfl⟩
  rw [capital_long (by simp at h; omega)]
 have h2 : s.length ≤ 16 := by simp at h; omega
 rw [h]
 obtain ⟨a, ha⟩ : ∃ a, s[0]? = some a := ⟨s[0], by simp⟩
 ((conv=>whnf);repeat(refine Xg ?_;conv=>whnf))
 refine opt_mk ha ?_
 ((conv=>whnf);repeat(refine Xg ?_;conv=>whnf))
 refine bcs_mk (fun h => ?_) (fun h => ?_)
 ·rw [h]
  ((conv=>whnf);repeat(refine Xg ?_;conv=>whnf))
  refine fin_pure nn ⟨?_, rfl, rfl⟩
  rw [capital_up ha (by simp [upper] at *; omega)]
 have h3 : 65 ≤ (a.toNat : Int) := by simpa using h
 rw [h]
 ((conv=>whnf);repeat(refine Xg ?_;conv=>whnf))
 refine opt_mk ha ?_
 ((conv=>whnf);repeat(refine Xg ?_;conv=>whnf))
 refine bcs_mk (fun h => ?_) (fun h => ?_)
 ·((conv=>whnf);repeat(refine Xg ?_;conv=>whnf))
  refine fin_pure nn ⟨?_, rfl, rfl⟩
  rw [capital_up ha (by simp [upper] at *; omega)]
 have h4 : (a.toNat : Int) ≤ 90 := by simpa using h
 have hua : upper a.toNat = true := by simp [upper]; omega
 ((conv=>whnf);repeat(refine Xg ?_;conv=>whnf))
 refine ALoop.at nnΓ (fun i : Nat => 1 ≤ i ∧ i ≤ s.length ∧ ∀ j c, j < i → s[j]? = some c → inNm c.toNat = true)
  (fun i => ⟨[(0, .str s), (3, .int .i64 i)], [], 0, 32⟩) (fun i => s.length - i) 1 [] ⟨by simp, h1, fun j c hj hc => by rw [show j = 0 by omega, ha] at hc; cases hc; exact upper_in hua⟩
  (conv_pure ⟨⟨_, rfl, .same _ nn⟩, ⟨_, rfl, .same _ nn⟩, trivial⟩) ?_
 rintro i ⟨h0, hi, hall⟩
 ((conv=>whnf);repeat(refine Xg ?_;conv=>whnf))
 refine bcs_mk (fun h => ?_) (fun h => ?_)
 ·have hlt : i < s.length := by simpa using h
  obtain ⟨c, hc⟩ : ∃ c, s[i]? = some c := ⟨s[i], by simp [hlt]⟩
  have hc' : s[(i : Int).toNat]? = some c := by rw [Int.toNat_natCast]; exact hc
  ((conv=>whnf);repeat(refine Xg ?_;conv=>whnf))
  refine opt_mk hc' ?_
  ((conv=>whnf);repeat(refine Xg ?_;conv=>whnf))
  refine (vInName c.toNat).go ?_
  ((conv=>whnf);repeat(refine Xg ?_;conv=>whnf))
  cases hb : inNm c.toNat with
  | false =>
   ((conv=>whnf);repeat(refine Xg ?_;conv=>whnf))
   refine fin_pure nn ⟨?_, rfl, rfl⟩
   rw [capital_in hc hb]
  | true =>
   ((conv=>whnf);repeat(refine Xg ?_;conv=>whnf))
   refine .mk (i + 1) [] ⟨by omega, by omega, fun j c2 hj hc2 => ?_⟩ (conv_pure ⟨⟨_, rfl, .same _ nn⟩, ⟨_, rfl, .w64 (by omega) ⟨by omega, by omega⟩⟩, trivial⟩) (by omega)
   rcases Nat.lt_or_ge j i with hj' | hj'
   ·exact hall j c2 hj' hc2
   ·have hji : j = i := by omega
    rw [hji, hc] at hc2
    cases hc2
    exact hb
 ·((conv=>whnf);repeat(refine Xg ?_;conv=>whnf))
  refine fin_pure nn ⟨?_, rfl, rfl⟩
  have hk : i = s.length := by simp at h; omega
  rw [capital_of ha h2 hua fun j c hc => hall j c (by rw [hk]; exact (List.getElem?_eq_some_iff.1 hc).1) hc]
set_option maxHeartbeats 4000000
theorem vFormed (vk vn : Int) (vs : List UInt8) (ks : List Val) (hs : vs.length ≤ 4294967296) : PureC Tryz.prog [] 116 [encV (.mk vk vn vs ks)] (.bool (formed1 vk vn vs ks.length)) := by
 refine acalls_go nnΓ Tryz.func116 rfl ?_
 ((conv=>whnf);repeat(refine Xg ?_;conv=>whnf))
 repeat' (first | (refine bcs_mk (fun h => ?_) (fun h => ?_) <;> ((try rw [h]); ((conv=>whnf);repeat(refine Xg ?_;conv=>whnf)))) | (refine (vCapital vs hs).go ?_; ((conv=>whnf);repeat(refine Xg ?_;conv=>whnf))))
 all_goals
  refine fin_pure nn ⟨?_, rfl, rfl⟩
  congr 1
  rw [Bool.eq_iff_iff]
  simp_all [formed1, encVs_length, List.length_eq_zero_iff, List.isEmpty_iff]
theorem vFits (vk vn : Int) (vs : List UInt8) (ks : List Val) : PureC Tryz.prog [] 117 [encV (.mk vk vn vs ks)] (.bool (fits1 vk ks.length)) := by
 refine acalls_go nnΓ Tryz.func117 rfl ?_
 ((conv=>whnf);repeat(refine Xg ?_;conv=>whnf))
 repeat' (refine bcs_mk (fun h => ?_) (fun h => ?_) <;> ((try rw [h]); ((conv=>whnf);repeat(refine Xg ?_;conv=>whnf))))
 all_goals
  refine fin_pure nn ⟨?_, rfl, rfl⟩
  congr 1
  rw [Bool.eq_iff_iff]
  simp [fits1, encVs_length] at *
  try omega
theorem rFormed : ∀ v : Val, okV v → PureC Tryz.prog [] 103 [encV v] (.bool (formedV v))
  | .mk vk vn vs ks, hv => by
    simp only [okV] at hv
    obtain ⟨hv1, hv2, hv3, hv4, hv5⟩ := hv
    have ih : ∀ a ∈ ks, PureC Tryz.prog [] 103 [encV a] (.bool (formedV a)) := fun a hm => rFormed a (okVs_mem hv5 a hm)
    clear hv5
    refine acalls_go nnΓ Tryz.func103 rfl ?_
    ((conv=>whnf);repeat(refine Xg ?_;conv=>whnf))
    refine (rCapital vs hv3).go ?_
    obtain ⟨cb, hcb⟩ : ∃ cb, cb = capital vs := ⟨_, rfl⟩
    rw [← hcb]
    rcases (show vk = 0 ∨ vk = 1 ∨ vk = 2 ∨ vk = 3 ∨ (vk < 0 ∨ 3 < vk) by omega) with rfl | rfl | rfl | rfl | hk
    · ((conv=>whnf);repeat(refine Xg ?_;conv=>whnf))
      repeat' (refine bcs_mk (fun h => ?_) (fun h => ?_) <;> ((try rw [h]); ((conv=>whnf);repeat(refine Xg ?_;conv=>whnf))))
      all_goals first
        | (refine fin_pure nn ⟨?_, rfl, rfl⟩
           clear ih
           have hf1 : formed1 0 vn vs ks.length = false := by
             rw [Bool.eq_false_iff]
             simp_all [formed1, encVs_length, List.length_pos_iff]
             try omega
           rw [formedV, hf1]
           rfl)
        | (have hf1 : formed1 0 vn vs ks.length = true := by
             clear ih
             simp_all [formed1, encVs_length, List.length_pos_iff]
             try omega
           refine ALoop.at nnΓ (fun k : Nat => k ≤ ks.length ∧ formedL (ks.take k) = true)
             (fun k => ⟨[(1, .ptr 0 0 0), (4, .int .i64 k)], [(0, .row 33 4 [encV (.mk 0 vn vs ks)])], 1, 95⟩) (fun k => ks.length - k) 0 [(0, 0)] ⟨by simp, rfl⟩
             (conv_mk _ rfl ⟨⟨0, _, rfl, rfl, .same nns⟩, trivial⟩ ⟨⟨_, rfl, .ptr 0 0 0 0 rfl⟩, ⟨_, rfl, .same _ nn⟩, trivial⟩) ?_
           rintro k ⟨hk, hall⟩
           ((conv=>whnf);repeat(refine Xg ?_;conv=>whnf))
           refine bcs_mk (fun h => ?_) (fun h => ?_)
           · have hlt := klt h
             obtain ⟨a, b, c, d, hm, hg, he, e1⟩ := enc_cases hlt
             have hih := ih _ hm
             obtain ⟨fb, hfb⟩ : ∃ fb, fb = formedV (.mk a b c d) := ⟨_, rfl⟩
             rw [← hfb] at hih
             ((conv=>whnf);repeat(refine Xg ?_;conv=>whnf))
             refine opt_mk e1 ?_
             ((conv=>whnf);repeat(refine Xg ?_;conv=>whnf))
             refine hih.go ?_
             cases fb with
             | false =>
               ((conv=>whnf);repeat(refine Xg ?_;conv=>whnf))
               refine fin_pure nn ⟨?_, rfl, rfl⟩
               rw [formedV, formedL_mem hm hfb.symm, Bool.and_false]
             | true =>
               ((conv=>whnf);repeat(refine Xg ?_;conv=>whnf))
               refine .mk (k + 1) [(0, 0)] ⟨by omega, ?_⟩ (conv_mk _ rfl ⟨⟨0, _, rfl, rfl, .same nns⟩, trivial⟩ ⟨⟨_, rfl, .ptr 0 0 0 0 rfl⟩, ⟨_, rfl, .w64 (by omega) ⟨by omega, by omega⟩⟩, trivial⟩) (by omega)
               rw [formedL_take hlt, hall, he, ← hfb]
               rfl
           · have hk' : k = ks.length := by have := kge h; omega
             ((conv=>whnf);repeat(refine Xg ?_;conv=>whnf))
             refine fin_pure nn ⟨?_, rfl, rfl⟩
             rw [hk', List.take_length] at hall
             rw [formedV, hf1, hall]
             rfl)
    · ((conv=>whnf);repeat(refine Xg ?_;conv=>whnf))
      repeat' (refine bcs_mk (fun h => ?_) (fun h => ?_) <;> ((try rw [h]); ((conv=>whnf);repeat(refine Xg ?_;conv=>whnf))))
      all_goals first
        | (refine fin_pure nn ⟨?_, rfl, rfl⟩
           clear ih
           have hf1 : formed1 1 vn vs ks.length = false := by
             rw [Bool.eq_false_iff]
             simp_all [formed1, encVs_length, List.length_pos_iff]
             try omega
           rw [formedV, hf1]
           rfl)
        | (have hf1 : formed1 1 vn vs ks.length = true := by
             clear ih
             simp_all [formed1, encVs_length, List.length_pos_iff]
             try omega
           refine ALoop.at nnΓ (fun k : Nat => k ≤ ks.length ∧ formedL (ks.take k) = true)
             (fun k => ⟨[(1, .ptr 0 0 0), (4, .int .i64 k)], [(0, .row 33 4 [encV (.mk 1 vn vs ks)])], 1, 95⟩) (fun k => ks.length - k) 0 [(0, 0)] ⟨by simp, rfl⟩
             (conv_mk _ rfl ⟨⟨0, _, rfl, rfl, .same nns⟩, trivial⟩ ⟨⟨_, rfl, .ptr 0 0 0 0 rfl⟩, ⟨_, rfl, .same _ nn⟩, trivial⟩) ?_
           rintro k ⟨hk, hall⟩
           ((conv=>whnf);repeat(refine Xg ?_;conv=>whnf))
           refine bcs_mk (fun h => ?_) (fun h => ?_)
           · have hlt := klt h
             obtain ⟨a, b, c, d, hm, hg, he, e1⟩ := enc_cases hlt
             have hih := ih _ hm
             obtain ⟨fb, hfb⟩ : ∃ fb, fb = formedV (.mk a b c d) := ⟨_, rfl⟩
             rw [← hfb] at hih
             ((conv=>whnf);repeat(refine Xg ?_;conv=>whnf))
             refine opt_mk e1 ?_
             ((conv=>whnf);repeat(refine Xg ?_;conv=>whnf))
             refine hih.go ?_
             cases fb with
             | false =>
               ((conv=>whnf);repeat(refine Xg ?_;conv=>whnf))
               refine fin_pure nn ⟨?_, rfl, rfl⟩
               rw [formedV, formedL_mem hm hfb.symm, Bool.and_false]
             | true =>
               ((conv=>whnf);repeat(refine Xg ?_;conv=>whnf))
               refine .mk (k + 1) [(0, 0)] ⟨by omega, ?_⟩ (conv_mk _ rfl ⟨⟨0, _, rfl, rfl, .same nns⟩, trivial⟩ ⟨⟨_, rfl, .ptr 0 0 0 0 rfl⟩, ⟨_, rfl, .w64 (by omega) ⟨by omega, by omega⟩⟩, trivial⟩) (by omega)
               rw [formedL_take hlt, hall, he, ← hfb]
               rfl
           · have hk' : k = ks.length := by have := kge h; omega
             ((conv=>whnf);repeat(refine Xg ?_;conv=>whnf))
             refine fin_pure nn ⟨?_, rfl, rfl⟩
             rw [hk', List.take_length] at hall
             rw [formedV, hf1, hall]
             rfl)
    · ((conv=>whnf);repeat(refine Xg ?_;conv=>whnf))
      repeat' (refine bcs_mk (fun h => ?_) (fun h => ?_) <;> ((try rw [h]); ((conv=>whnf);repeat(refine Xg ?_;conv=>whnf))))
      all_goals first
        | (refine fin_pure nn ⟨?_, rfl, rfl⟩
           clear ih
           have hf1 : formed1 2 vn vs ks.length = false := by
             rw [Bool.eq_false_iff]
             simp_all [formed1]
             try omega
           rw [formedV, hf1]
           rfl)
        | (have hf1 : formed1 2 vn vs ks.length = true := by
             clear ih
             simp_all [formed1]
             try omega
           refine ALoop.at nnΓ (fun k : Nat => k ≤ ks.length ∧ formedL (ks.take k) = true)
             (fun k => ⟨[(1, .ptr 0 0 0), (4, .int .i64 k)], [(0, .row 33 4 [encV (.mk 2 vn vs ks)])], 1, 95⟩) (fun k => ks.length - k) 0 [(0, 0)] ⟨by simp, rfl⟩
             (conv_mk _ rfl ⟨⟨0, _, rfl, rfl, .same nns⟩, trivial⟩ ⟨⟨_, rfl, .ptr 0 0 0 0 rfl⟩, ⟨_, rfl, .same _ nn⟩, trivial⟩) ?_
           rintro k ⟨hk, hall⟩
           ((conv=>whnf);repeat(refine Xg ?_;conv=>whnf))
           refine bcs_mk (fun h => ?_) (fun h => ?_)
           · have hlt := klt h
             obtain ⟨a, b, c, d, hm, hg, he, e1⟩ := enc_cases hlt
             have hih := ih _ hm
             obtain ⟨fb, hfb⟩ : ∃ fb, fb = formedV (.mk a b c d) := ⟨_, rfl⟩
             rw [← hfb] at hih
             ((conv=>whnf);repeat(refine Xg ?_;conv=>whnf))
             refine opt_mk e1 ?_
             ((conv=>whnf);repeat(refine Xg ?_;conv=>whnf))
             refine hih.go ?_
             cases fb with
             | false =>
               ((conv=>whnf);repeat(refine Xg ?_;conv=>whnf))
               refine fin_pure nn ⟨?_, rfl, rfl⟩
               rw [formedV, formedL_mem hm hfb.symm, Bool.and_false]
             | true =>
               ((conv=>whnf);repeat(refine Xg ?_;conv=>whnf))
               refine .mk (k + 1) [(0, 0)] ⟨by omega, ?_⟩ (conv_mk _ rfl ⟨⟨0, _, rfl, rfl, .same nns⟩, trivial⟩ ⟨⟨_, rfl, .ptr 0 0 0 0 rfl⟩, ⟨_, rfl, .w64 (by omega) ⟨by omega, by omega⟩⟩, trivial⟩) (by omega)
               rw [formedL_take hlt, hall, he, ← hfb]
               rfl
           · have hk' : k = ks.length := by have := kge h; omega
             ((conv=>whnf);repeat(refine Xg ?_;conv=>whnf))
             refine fin_pure nn ⟨?_, rfl, rfl⟩
             rw [hk', List.take_length] at hall
             rw [formedV, hf1, hall]
             rfl)
    · ((conv=>whnf);repeat(refine Xg ?_;conv=>whnf))
      repeat' (refine bcs_mk (fun h => ?_) (fun h => ?_) <;> ((try rw [h]); ((conv=>whnf);repeat(refine Xg ?_;conv=>whnf))))
      all_goals first
        | (refine fin_pure nn ⟨?_, rfl, rfl⟩
           clear ih
           have hf1 : formed1 3 vn vs ks.length = false := by
             rw [Bool.eq_false_iff]
             simp_all [formed1]
             try omega
           rw [formedV, hf1]
           rfl)
        | (have hf1 : formed1 3 vn vs ks.length = true := by
             clear ih
             simp_all [formed1]
             try omega
           refine ALoop.at nnΓ (fun k : Nat => k ≤ ks.length ∧ formedL (ks.take k) = true)
             (fun k => ⟨[(1, .ptr 0 0 0), (4, .int .i64 k)], [(0, .row 33 4 [encV (.mk 3 vn vs ks)])], 1, 95⟩) (fun k => ks.length - k) 0 [(0, 0)] ⟨by simp, rfl⟩
             (conv_mk _ rfl ⟨⟨0, _, rfl, rfl, .same nns⟩, trivial⟩ ⟨⟨_, rfl, .ptr 0 0 0 0 rfl⟩, ⟨_, rfl, .same _ nn⟩, trivial⟩) ?_
           rintro k ⟨hk, hall⟩
           ((conv=>whnf);repeat(refine Xg ?_;conv=>whnf))
           refine bcs_mk (fun h => ?_) (fun h => ?_)
           · have hlt := klt h
             obtain ⟨a, b, c, d, hm, hg, he, e1⟩ := enc_cases hlt
             have hih := ih _ hm
             obtain ⟨fb, hfb⟩ : ∃ fb, fb = formedV (.mk a b c d) := ⟨_, rfl⟩
             rw [← hfb] at hih
             ((conv=>whnf);repeat(refine Xg ?_;conv=>whnf))
             refine opt_mk e1 ?_
             ((conv=>whnf);repeat(refine Xg ?_;conv=>whnf))
             refine hih.go ?_
             cases fb with
             | false =>
               ((conv=>whnf);repeat(refine Xg ?_;conv=>whnf))
               refine fin_pure nn ⟨?_, rfl, rfl⟩
               rw [formedV, formedL_mem hm hfb.symm, Bool.and_false]
             | true =>
               ((conv=>whnf);repeat(refine Xg ?_;conv=>whnf))
               refine .mk (k + 1) [(0, 0)] ⟨by omega, ?_⟩ (conv_mk _ rfl ⟨⟨0, _, rfl, rfl, .same nns⟩, trivial⟩ ⟨⟨_, rfl, .ptr 0 0 0 0 rfl⟩, ⟨_, rfl, .w64 (by omega) ⟨by omega, by omega⟩⟩, trivial⟩) (by omega)
               rw [formedL_take hlt, hall, he, ← hfb]
               rfl
           · have hk' : k = ks.length := by have := kge h; omega
             ((conv=>whnf);repeat(refine Xg ?_;conv=>whnf))
             refine fin_pure nn ⟨?_, rfl, rfl⟩
             rw [hk', List.take_length] at hall
             rw [formedV, hf1, hall]
             rfl)
    · have e0 : (vk == 0) = false := by simp; omega
      have e1 : (vk == 1) = false := by simp; omega
      have e2 : (vk == 2) = false := by simp; omega
      have e3 : (vk == 3) = false := by simp; omega
      have hf1 : formed1 vk vn vs ks.length = false := by
        unfold formed1
        rw [if_neg (by omega), if_neg (by omega), if_neg (by omega), if_neg (by omega)]
      have hfin : AV.bool false = AV.bool (formedV (.mk vk vn vs ks)) := by rw [formedV, hf1]; rfl
      ((conv=>whnf);repeat(refine Xg ?_;conv=>whnf))
      repeat ((first | rw [e0] | rw [e1] | rw [e2] | rw [e3]); ((conv=>whnf);repeat(refine Xg ?_;conv=>whnf)))
      refine bcs_mk (fun h => ?_) (fun h => ?_)
      · rw [h]
        ((conv=>whnf);repeat(refine Xg ?_;conv=>whnf))
        exact fin_pure nn ⟨hfin, rfl, rfl⟩
      · rw [h]
        ((conv=>whnf);repeat(refine Xg ?_;conv=>whnf))
        refine bcs_mk (fun h' => ?_) (fun h' => ?_)
        · ((conv=>whnf);repeat(refine Xg ?_;conv=>whnf))
          exact fin_pure nn ⟨hfin, rfl, rfl⟩
        · exfalso
          simp at h h'
          omega
  termination_by v => SizeOf.sizeOf v
  decreasing_by simp; have := List.sizeOf_lt_of_mem hm; omega
theorem rWide : ∀ v : Val, okV v → PureC Tryz.prog [] 104 [encV v] (.bool (wideV v))
  | .mk vk vn vs ks, hv => by
    simp only [okV] at hv
    obtain ⟨hv1, hv2, hv3, hv4, hv5⟩ := hv
    have ih : ∀ a ∈ ks, PureC Tryz.prog [] 104 [encV a] (.bool (wideV a)) := fun a hm => rWide a (okVs_mem hv5 a hm)
    clear hv5
    refine acalls_go nnΓ Tryz.func104 rfl ?_
    ((conv=>whnf);repeat(refine Xg ?_;conv=>whnf))
    repeat' (refine bcs_mk (fun h => ?_) (fun h => ?_) <;> ((try rw [h]); ((conv=>whnf);repeat(refine Xg ?_;conv=>whnf))))
    all_goals first
      | (refine fin_pure nn ⟨?_, rfl, rfl⟩
         clear ih
         have hf1 : wide1 vk ks.length = true := by
           simp [wide1, encVs_length] at *
           omega
         rw [wideV, hf1]
         rfl)
      | (have hf1 : wide1 vk ks.length = false := by
           clear ih
           rw [Bool.eq_false_iff]
           simp [wide1, encVs_length] at *
           omega
         refine ALoop.at nnΓ (fun k : Nat => k ≤ ks.length ∧ wideL (ks.take k) = false)
           (fun k => ⟨[(1, .ptr 0 0 0), (3, .int .i64 k)], [(0, .row 33 4 [encV (.mk vk vn vs ks)])], 1, 39⟩) (fun k => ks.length - k) 0 [(0, 0)] ⟨by simp, rfl⟩
           (conv_mk _ rfl ⟨⟨0, _, rfl, rfl, .same nns⟩, trivial⟩ ⟨⟨_, rfl, .ptr 0 0 0 0 rfl⟩, ⟨_, rfl, .same _ nn⟩, trivial⟩) ?_
         rintro k ⟨hk, hall⟩
         ((conv=>whnf);repeat(refine Xg ?_;conv=>whnf))
         refine bcs_mk (fun h => ?_) (fun h => ?_)
         · have hlt := klt h
           obtain ⟨a, b, c, d, hm, hg, he, e1⟩ := enc_cases hlt
           have hih := ih _ hm
           obtain ⟨fb, hfb⟩ : ∃ fb, fb = wideV (.mk a b c d) := ⟨_, rfl⟩
           rw [← hfb] at hih
           ((conv=>whnf);repeat(refine Xg ?_;conv=>whnf))
           refine opt_mk e1 ?_
           ((conv=>whnf);repeat(refine Xg ?_;conv=>whnf))
           refine hih.go ?_
           cases fb with
           | true =>
             ((conv=>whnf);repeat(refine Xg ?_;conv=>whnf))
             refine fin_pure nn ⟨?_, rfl, rfl⟩
             rw [wideV, wideL_mem hm hfb.symm, Bool.or_true]
           | false =>
             ((conv=>whnf);repeat(refine Xg ?_;conv=>whnf))
             refine .mk (k + 1) [(0, 0)] ⟨by omega, ?_⟩ (conv_mk _ rfl ⟨⟨0, _, rfl, rfl, .same nns⟩, trivial⟩ ⟨⟨_, rfl, .ptr 0 0 0 0 rfl⟩, ⟨_, rfl, .w64 (by omega) ⟨by omega, by omega⟩⟩, trivial⟩) (by omega)
             rw [wideL_take hlt, hall, he, ← hfb]
             rfl
         · have hk' : k = ks.length := by have := kge h; omega
           ((conv=>whnf);repeat(refine Xg ?_;conv=>whnf))
           refine fin_pure nn ⟨?_, rfl, rfl⟩
           rw [hk', List.take_length] at hall
           rw [wideV, hf1, hall]
           rfl)
  termination_by v => SizeOf.sizeOf v
  decreasing_by simp; have := List.sizeOf_lt_of_mem hm; omega
theorem rValid : ∀ v : Val, okV v → sizeV v ≤ 1099511627776 → PureC Tryz.prog [] 79 [encV v] (.int .i64 (validV v))
 | .mk vk vn vs ks, hv, hs => by
  have h1 := rFormed _ hv
  have h2 := rWide _ hv
  have h3 := rSize _ hs
  have hval : validV (.mk vk vn vs ks) = if formedV (.mk vk vn vs ks) = false then 1 else if wideV (.mk vk vn vs ks) = true ∨ 1024 < sizeV (.mk vk vn vs ks) then 4 else 0 := rfl
  generalize formedV (.mk vk vn vs ks) = fb at h1 hval
  generalize wideV (.mk vk vn vs ks) = wb at h2 hval
  generalize sizeV (.mk vk vn vs ks) = sz at h3 hval
  generalize validV (.mk vk vn vs ks) = res at hval
  refine acalls_go nnΓ Tryz.func79 rfl ?_
  ((conv=>whnf);repeat(refine Xg ?_;conv=>whnf))
  refine h1.go ?_
  cases fb with
  | false =>
   ((conv=>whnf);repeat(refine Xg ?_;conv=>whnf))
   refine fin_pure nn ⟨?_, rfl, rfl⟩
   rw [hval]; rfl
  | true =>
   ((conv=>whnf);repeat(refine Xg ?_;conv=>whnf))
   refine h2.go ?_
   cases wb with
   | true =>
    ((conv=>whnf);repeat(refine Xg ?_;conv=>whnf))
    refine fin_pure nn ⟨?_, rfl, rfl⟩
    rw [hval]; simp
   | false =>
    ((conv=>whnf);repeat(refine Xg ?_;conv=>whnf))
    refine h3.go ?_
    ((conv=>whnf);repeat(refine Xg ?_;conv=>whnf))
    refine bcs_mk (fun h => ?_) (fun h => ?_)
    ·((conv=>whnf);repeat(refine Xg ?_;conv=>whnf))
     refine fin_pure nn ⟨?_, rfl, rfl⟩
     rw [hval, if_neg (by simp), if_pos (by simp at h; omega)]
    ·((conv=>whnf);repeat(refine Xg ?_;conv=>whnf))
     refine fin_pure nn ⟨?_, rfl, rfl⟩
     rw [hval, if_neg (by simp), if_neg (by simp at h; simp; omega)]
set_option maxHeartbeats 4000000
theorem i64w (n : Int) : i64 (IntKind.i64.wrap n) := by
 rw [IntKind.wrap_i64]
 exact ⟨by omega,by omega⟩
theorem rAround (n most : Int) (hn : i64 n) (hm : 1 ≤ most) : PureC Tryz.prog [] 32 [.int .i64 n,.int .i64 most] (.int .i64 (aroundI n most)) := by
 have hz : decide (most ≠ 0) = true := by simp; omega
 unfold i64 at hn
 refine acalls_go nnΓ Tryz.func32 rfl ?_
 ((conv=>whnf);repeat(refine Xg ?_;conv=>whnf))
 refine bcs_mk (fun h => ?_) (fun h => ?_)
 ·have h : n < 0 := by simpa using h
  ((conv=>whnf);repeat(refine Xg ?_;conv=>whnf))
  refine grd_mk (by rw [decide_eq_false (by omega)]; rfl) ?_
  ((conv=>whnf);repeat(refine Xg ?_;conv=>whnf))
  refine fin_pure nn ⟨?_,rfl,rfl⟩
  rw [aroundI,if_pos h,w64 (x := n + 1) (y := n + 1) rfl ⟨by omega,by omega⟩,w64 (x := 0 - (n + 1)) (y := -(n + 1)) (by omega) ⟨by omega,by omega⟩]
 ·have h : ¬ n < 0 := by simpa using h
  ((conv=>whnf);repeat(refine Xg ?_;conv=>whnf))
  refine grd_mk (by rw [decide_eq_false (by omega)]; rfl) ?_
  ((conv=>whnf);repeat(refine Xg ?_;conv=>whnf))
  refine fin_pure nn ⟨?_,rfl,rfl⟩
  rw [aroundI,if_neg h]
theorem rPick (l : List Int) (i most : Int) (hl : ∀ x ∈ l,i64 x) (hm : 1 ≤ most) : PureC Tryz.prog [] 21 [.il 1 (encI l),.int .i64 i,.int .i64 most] (.int .i64 (pickI l i most)) := by
 refine acalls_go nnΓ Tryz.func21 rfl ?_
 ((conv=>whnf);repeat(refine Xg ?_;conv=>whnf))
 refine bcs_mk (fun h => ?_) (fun h => ?_)
 ·rw [h]
  ((conv=>whnf);repeat(refine Xg ?_;conv=>whnf))
  refine fin_pure nn ⟨?_,rfl,rfl⟩
  rw [pickI,if_pos (.inl (by simpa using h))]
 ·have h0 : 0 ≤ i := by simpa using h
  rw [h]
  ((conv=>whnf);repeat(refine Xg ?_;conv=>whnf))
  refine bcs_mk (fun h => ?_) (fun h => ?_)
  ·((conv=>whnf);repeat(refine Xg ?_;conv=>whnf))
   refine fin_pure nn ⟨?_,rfl,rfl⟩
   rw [encI_length] at h
   rw [pickI,if_pos (.inr (by simpa using h))]
  ·rw [encI_length] at h
   have h1 : i < l.length := by simpa using h
   obtain ⟨q,rfl⟩ := Int.eq_ofNat_of_zero_le h0
   have hq : q < l.length := by omega
   ((conv=>whnf);repeat(refine Xg ?_;conv=>whnf))
   refine opt_mk (a := .int .i64 l[q]) (by rw [Int.toNat_natCast,encI_get,List.getElem?_eq_getElem hq]; rfl) ?_
   ((conv=>whnf);repeat(refine Xg ?_;conv=>whnf))
   refine (rAround l[q] most (hl _ (List.getElem_mem hq)) hm).go ?_
   ((conv=>whnf);repeat(refine Xg ?_;conv=>whnf))
   refine fin_pure nn ⟨?_,rfl,rfl⟩
   rw [pickI,if_neg (by omega),Int.toNat_natCast,List.getD_eq_getElem?_getD,List.getElem?_eq_getElem hq]
   rfl
theorem rKid (l : List Int) (i j : Int) (hl : ∀ x ∈ l,i64 x) (hi : 1 ≤ i) (hi' : i ≤ 1000) (hj : 0 ≤ j) (hj' : j ≤ 1000) : PureC Tryz.prog [] 23 [.il 1 (encI l),.int .i64 i,.int .i64 j] (.int .i64 (kidI l i j)) := by
 have hp := rPick l (3 * i + j + 2) 1000000 hl (by omega)
 have hb := pickI_bound (l := l) (i := 3 * i + j + 2) (most := 1000000) (by omega)
 have hk : kidI l i j = if (pickI l (3 * i + j + 2) 1000000).tmod 3 = 0 then ((pickI l (3 * i + j + 2) 1000000).tdiv 3).tmod i else max 0 (i - 1 - ((pickI l (3 * i + j + 2) 1000000).tdiv 3).tmod 3) := rfl
 generalize pickI l (3 * i + j + 2) 1000000 = p at hp hb hk
 rw [hk]
 have hd : 0 ≤ p.tdiv 3 ∧ p.tdiv 3 ≤ 1000000 := by
  rw [Int.tdiv_eq_ediv_of_nonneg hb.1]; omega
 have hd3 : 0 ≤ (p.tdiv 3).tmod 3 ∧ (p.tdiv 3).tmod 3 < 3 := ⟨Int.tmod_nonneg _ hd.1,Int.tmod_lt_of_pos _ (by omega)⟩
 refine acalls_go nnΓ Tryz.func23 rfl ?_
 ((conv=>whnf);repeat(refine Xg ?_;conv=>whnf))
 rw [w64 (x := 3 * i) (y := 3 * i) rfl ⟨by omega,by omega⟩,w64 (x := 3 * i + j) (y := 3 * i + j) rfl ⟨by omega,by omega⟩,w64 (x := 3 * i + j + 2) (y := 3 * i + j + 2) rfl ⟨by omega,by omega⟩]
 refine hp.go ?_
 ((conv=>whnf);repeat(refine Xg ?_;conv=>whnf))
 refine bcs_mk (fun h => ?_) (fun h => ?_)
 ·have h : p.tmod 3 = 0 := by simpa using h
  ((conv=>whnf);repeat(refine Xg ?_;conv=>whnf))
  refine grd_mk (by rw [decide_eq_false (by omega)]; rfl) ?_
  ((conv=>whnf);repeat(refine Xg ?_;conv=>whnf))
  refine fin_pure nn ⟨?_,rfl,rfl⟩
  rw [if_pos h,w64 (x := p.tdiv 3) (y := p.tdiv 3) rfl ⟨by omega,by omega⟩]
 ·have h : ¬ p.tmod 3 = 0 := by simpa using h
  ((conv=>whnf);repeat(refine Xg ?_;conv=>whnf))
  refine fin_pure nn ⟨?_,rfl,rfl⟩
  rw [if_neg h,w64 (x := p.tdiv 3) (y := p.tdiv 3) rfl ⟨by omega,by omega⟩,w64 (x := i - 1) (y := i - 1) rfl ⟨by omega,by omega⟩,w64 (x := i - 1 - (p.tdiv 3).tmod 3) (y := i - 1 - (p.tdiv 3).tmod 3) rfl ⟨by omega,by omega⟩]
  congr 1
  simp
  omega
theorem rLeaf (k : Int) (h0 : 0 ≤ k) (h1 : k ≤ 1000000) : PureC Tryz.prog [] 22 [.int .i64 k] (encV (leafV k)) := by
 have hd : 0 ≤ k.tdiv 4 ∧ k.tdiv 4 ≤ 1000000 := by
  rw [Int.tdiv_eq_ediv_of_nonneg h0]; omega
 have hm : 0 ≤ k.tmod 4 ∧ k.tmod 4 < 4 := ⟨Int.tmod_nonneg _ h0,Int.tmod_lt_of_pos _ (by omega)⟩
 have h9 : 0 ≤ (k.tdiv 4).tmod 9 ∧ (k.tdiv 4).tmod 9 < 9 := ⟨Int.tmod_nonneg _ hd.1,Int.tmod_lt_of_pos _ (by omega)⟩
 have h3 : 0 ≤ (k.tdiv 4).tmod 3 ∧ (k.tdiv 4).tmod 3 < 3 := ⟨Int.tmod_nonneg _ hd.1,Int.tmod_lt_of_pos _ (by omega)⟩
 have hw : IntKind.i64.wrap (k.tdiv 4) = k.tdiv 4 := w64 rfl ⟨by omega,by omega⟩
 have hv : leafV k = if k.tmod 4 = 0 then .mk 0 ((k.tdiv 4).tmod 9 - 4) [] []
  else if k.tmod 4 = 1 then .mk 1 ((k.tdiv 4).tmod 2) [] []
  else if k.tmod 4 = 2 then .mk 3 0 (([[76,101,97,102],[82,101,100],[88]] : List (List UInt8)).getD ((k.tdiv 4).tmod 3).toNat []) []
  else .mk 2 0 [] [.mk 0 ((k.tdiv 4).tmod 3) [] []] := rfl
 generalize leafV k = v at hv
 have hw9 : IntKind.i64.wrap ((k.tdiv 4).tmod 9 - 4) = (k.tdiv 4).tmod 9 - 4 := w64 rfl ⟨by omega,by omega⟩
 refine acalls_go nnΓ Tryz.func22 rfl ?_
 rcases (show k.tmod 4 = 0 ∨ k.tmod 4 = 1 ∨ k.tmod 4 = 2 ∨ k.tmod 4 = 3 by omega) with e | e | e | e
 ·rw [if_pos e] at hv
  ((conv=>whnf);repeat(refine Xg ?_;conv=>whnf))
  rw [e]
  ((conv=>whnf);repeat(refine Xg ?_;conv=>whnf))
  rw [hw,hw9]
  exact fin_cv (.agg' (.cons (.same _ nn) (.cons (.same _ nn) (.cons (.same _ nn) (.cons (.nil 4) .nil))))) ⟨by rw [hv]; rfl,rfl,rfl⟩
 ·rw [if_neg (by omega),if_pos e] at hv
  ((conv=>whnf);repeat(refine Xg ?_;conv=>whnf))
  rw [e]
  ((conv=>whnf);repeat(refine Xg ?_;conv=>whnf))
  rw [hw]
  exact fin_cv (.agg' (.cons (.same _ nn) (.cons (.same _ nn) (.cons (.same _ nn) (.cons (.nil 4) .nil))))) ⟨by rw [hv]; rfl,rfl,rfl⟩
 ·rw [if_neg (by omega),if_neg (by omega),if_pos e] at hv
  ((conv=>whnf);repeat(refine Xg ?_;conv=>whnf))
  rw [e]
  ((conv=>whnf);repeat(refine Xg ?_;conv=>whnf))
  rw [hw]
  rcases (show (k.tdiv 4).tmod 3 = 0 ∨ (k.tdiv 4).tmod 3 = 1 ∨ (k.tdiv 4).tmod 3 = 2 by omega) with e3 | e3 | e3
  all_goals
   rw [e3] at hv ⊢
   ((conv=>whnf);repeat(refine Xg ?_;conv=>whnf))
   exact fin_cv (.agg' (.cons (.same _ nn) (.cons (.same _ nn) (.cons (.same _ nn) (.cons (.nil 4) .nil))))) ⟨by rw [hv]; rfl,rfl,rfl⟩
 ·rw [if_neg (by omega),if_neg (by omega),if_neg (by omega)] at hv
  ((conv=>whnf);repeat(refine Xg ?_;conv=>whnf))
  rw [e]
  ((conv=>whnf);repeat(refine Xg ?_;conv=>whnf))
  rw [hw]
  exact fin_cv (.agg' (.cons (.same _ nn) (.cons (.same _ nn) (.cons (.same _ nn) (.cons (.fzR rfl rfl (.cons (cvVal _ _ _) .nil) rfl) .nil))))) ⟨by rw [hv]; rfl,rfl,rfl⟩
end Go.Proofs.YtnookkohfkjbcaaGreatDoor
