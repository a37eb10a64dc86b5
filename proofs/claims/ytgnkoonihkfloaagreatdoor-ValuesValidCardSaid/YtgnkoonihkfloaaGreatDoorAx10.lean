/- For every input (a slice of ints, three ints), refuterlaw10.ValuesValid returns true, and its arguments read behind the call as they read before (the card ValuesValidCardSaid, the full form). Conditions: the five package-level variables that the row lists hold, when the call begins, what the program's text lays (the card ties them to it); no bound on sizes. -/
import Derived.Test.YtgnkoonihkfloaaGreatDoorAx9
import Derived.Test.YtgnkoonihkfloaaGreatDoorProg
import Derived.KernelRfl
import Derived.Test.YtgnkoonihkfloaaGreatDoorCards
import Derived.Test.YtgnkoonihkfloaaGreatDoorTie
import Derived.Lib.LaidIn

namespace Go.Proofs.YtgnkoonihkfloaaGreatDoor
open Go Go.Ax Go.Proofs
set_option linter.unusedVariables false
set_option maxRecDepth 100000
set_option maxHeartbeats 4000000

/-- 'refuterref10.Size'. -/
theorem rSize : ∀ v : Val, sizeV v ≤ 1099511627776 → PureC Tryz.prog [] 31 [encV v] (.int .i64 (sizeV v))
  | .mk vk vn vs ks, hs => by
    have hs' : sizeL ks + 1 ≤ 1099511627776 := by simp only [sizeV] at hs; omega
    have ih : ∀ a ∈ ks, PureC Tryz.prog [] 31 [encV a] (.int .i64 (sizeV a)) := fun a hm => rSize a (by have := sizeV_mem hm; omega)
    have hl := sizeL_len ks
    refine acalls_go nnΓ Tryz.func31 rfl ?_
    ((conv => whnf); repeat ((first | refine AWp.many ?_ | refine AOps.many ?_ | refine ADr.go ?_); conv => whnf))
    refine ALoop.at nnΓ (fun k : Nat => k ≤ ks.length)
      (fun k => ⟨[(1, .ptr 0 0 0), (3, .int .i64 (1 + sizeL (ks.take k) : Nat)), (4, .int .i64 k)], [(0, .row 33 4 [encV (.mk vk vn vs ks)])], 1, 21⟩)
      (fun k => ks.length - k) 0 [(0, 0)] (by simp)
      (conv_mk _ rfl ⟨⟨0, _, rfl, rfl, .same nns⟩, trivial⟩ ⟨⟨_, rfl, .ptr 0 0 0 0 rfl⟩, ⟨_, rfl, .same _ nn⟩, ⟨_, rfl, .same _ nn⟩, trivial⟩) ?_
    intro k hk
    ((conv => whnf); repeat ((first | refine AWp.many ?_ | refine AOps.many ?_ | refine ADr.go ?_); conv => whnf))
    refine bcs_mk (fun h => ?_) (fun h => ?_)
    · have hlt := klt h
      obtain ⟨a, b, c, d, hm, hg, he, e1⟩ := enc_cases hlt
      have hsz := sizeL_take hlt
      have hle := sizeL_take_le ks (k + 1)
      rw [he] at hsz
      ((conv => whnf); repeat ((first | refine AWp.many ?_ | refine AOps.many ?_ | refine ADr.go ?_); conv => whnf))
      refine opt_mk e1 ?_
      ((conv => whnf); repeat ((first | refine AWp.many ?_ | refine AOps.many ?_ | refine ADr.go ?_); conv => whnf))
      refine (ih _ hm).go ?_
      ((conv => whnf); repeat ((first | refine AWp.many ?_ | refine AOps.many ?_ | refine ADr.go ?_); conv => whnf))
      exact .mk (k + 1) [(0, 0)] (by omega) (conv_mk _ rfl ⟨⟨0, _, rfl, rfl, .same nns⟩, trivial⟩ ⟨⟨_, rfl, .ptr 0 0 0 0 rfl⟩, ⟨_, rfl, .w64 (by omega) ⟨by omega, by omega⟩⟩, ⟨_, rfl, .w64 (by omega) ⟨by omega, by omega⟩⟩, trivial⟩) (by omega)
    · have hk' : k = ks.length := by have := kge h; omega
      ((conv => whnf); repeat ((first | refine AWp.many ?_ | refine AOps.many ?_ | refine ADr.go ?_); conv => whnf))
      refine fin_pure nn ⟨?_, rfl, rfl⟩
      rw [hk', List.take_length, sizeV]
  termination_by v => SizeOf.sizeOf v
  decreasing_by simp; have := List.sizeOf_lt_of_mem hm; omega

/-- 'refuterref10.Depth'. -/
theorem rDepth : ∀ v : Val, sizeV v ≤ 1099511627776 → PureC Tryz.prog [] 33 [encV v] (.int .i64 (depthV v))
  | .mk vk vn vs ks, hs => by
    have hs' : sizeL ks + 1 ≤ 1099511627776 := by simp only [sizeV] at hs; omega
    have ih : ∀ a ∈ ks, PureC Tryz.prog [] 33 [encV a] (.int .i64 (depthV a)) := fun a hm => rDepth a (by have := sizeV_mem hm; omega)
    have hl := sizeL_len ks
    refine acalls_go nnΓ Tryz.func33 rfl ?_
    ((conv => whnf); repeat ((first | refine AWp.many ?_ | refine AOps.many ?_ | refine ADr.go ?_); conv => whnf))
    refine ALoop.at nnΓ (fun k : Nat => k ≤ ks.length)
      (fun k => ⟨[(1, .ptr 0 0 0), (3, .int .i64 (depthL (ks.take k) : Nat)), (4, .int .i64 k)], [(0, .row 33 4 [encV (.mk vk vn vs ks)])], 1, 22⟩)
      (fun k => ks.length - k) 0 [(0, 0)] (by simp)
      (conv_mk _ rfl ⟨⟨0, _, rfl, rfl, .same nns⟩, trivial⟩ ⟨⟨_, rfl, .ptr 0 0 0 0 rfl⟩, ⟨_, rfl, .same _ nn⟩, ⟨_, rfl, .same _ nn⟩, trivial⟩) ?_
    intro k hk
    ((conv => whnf); repeat ((first | refine AWp.many ?_ | refine AOps.many ?_ | refine ADr.go ?_); conv => whnf))
    refine bcs_mk (fun h => ?_) (fun h => ?_)
    · have hlt := klt h
      obtain ⟨a, b, c, d, hm, hg, he, e1⟩ := enc_cases hlt
      have hsz := depthL_take hlt
      rw [he] at hsz
      ((conv => whnf); repeat ((first | refine AWp.many ?_ | refine AOps.many ?_ | refine ADr.go ?_); conv => whnf))
      refine opt_mk e1 ?_
      ((conv => whnf); repeat ((first | refine AWp.many ?_ | refine AOps.many ?_ | refine ADr.go ?_); conv => whnf))
      refine (ih _ hm).go ?_
      ((conv => whnf); repeat ((first | refine AWp.many ?_ | refine AOps.many ?_ | refine ADr.go ?_); conv => whnf))
      exact .mk (k + 1) [(0, 0)] (by omega) (conv_mk _ rfl ⟨⟨0, _, rfl, rfl, .same nns⟩, trivial⟩ ⟨⟨_, rfl, .ptr 0 0 0 0 rfl⟩, ⟨_, rfl, .int (by simp; omega)⟩, ⟨_, rfl, .w64 (by omega) ⟨by omega, by omega⟩⟩, trivial⟩) (by omega)
    · have hk' : k = ks.length := by have := kge h; omega
      ((conv => whnf); repeat ((first | refine AWp.many ?_ | refine AOps.many ?_ | refine ADr.go ?_); conv => whnf))
      refine fin_pure nn ⟨?_, rfl, rfl⟩
      have hd := depthL_le_size ks
      rw [hk', List.take_length, depthV, w64 (y := ((depthL ks + 1 : Nat) : Int)) (by omega) ⟨by omega, by omega⟩]
  termination_by v => SizeOf.sizeOf v
  decreasing_by simp; have := List.sizeOf_lt_of_mem hm; omega

theorem vInName (c : Int) : PureC Tryz.prog [] 129 [.int .u8 c] (.bool (inNm c)) := by
  refine acalls_go nnΓ Tryz.func129 rfl ?_
  ((conv => whnf); repeat ((first | refine AWp.many ?_ | refine AOps.many ?_ | refine ADr.go ?_); conv => whnf))
  repeat' (refine bcs_mk (fun h => ?_) (fun h => ?_) <;> ((try rw [h]); ((conv => whnf); repeat ((first | refine AWp.many ?_ | refine AOps.many ?_ | refine ADr.go ?_); conv => whnf))))
  all_goals
    refine fin_pure nn ⟨?_, rfl, rfl⟩
    congr 1
    rw [Bool.eq_iff_iff]
    simp [inNm] at *
    try omega

/-- 'refuterref10.Capital'. -/
theorem rCapital (s : List UInt8) (hs : s.length ≤ 4294967296) : PureC Tryz.prog [] 107 [.str s] (.bool (capital s)) := by
  refine acalls_go nnΓ Tryz.func107 rfl ?_
  ((conv => whnf); repeat ((first | refine AWp.many ?_ | refine AOps.many ?_ | refine ADr.go ?_); conv => whnf))
  refine bcs_mk (fun h => ?_) (fun h => ?_)
  · rw [h]
    ((conv => whnf); repeat ((first | refine AWp.many ?_ | refine AOps.many ?_ | refine ADr.go ?_); conv => whnf))
    refine fin_pure nn ⟨?_, rfl, rfl⟩
    rw [capital_nil (by simp at h; omega)]
  have h1 : 1 ≤ s.length := by simp at h; omega
  rw [h]
  ((conv => whnf); repeat ((first | refine AWp.many ?_ | refine AOps.many ?_ | refine ADr.go ?_); conv => whnf))
  refine bcs_mk (fun h => ?_) (fun h => ?_)
  · rw [h]
    ((conv => whnf); repeat ((first | refine AWp.many ?_ | refine AOps.many ?_ | refine ADr.go ?_); conv => whnf))
    refine fin_pure nn ⟨?_, rfl, rfl⟩
    rw [capital_long (by simp at h; omega)]
  have h2 : s.length ≤ 16 := by simp at h; omega
  rw [h]
  obtain ⟨a, ha⟩ : ∃ a, s[0]? = some a := ⟨s[0], by simp⟩
  ((conv => whnf); repeat ((first | refine AWp.many ?_ | refine AOps.many ?_ | refine ADr.go ?_); conv => whnf))
  refine opt_mk ha ?_
  ((conv => whnf); repeat ((first | refine AWp.many ?_ | refine AOps.many ?_ | refine ADr.go ?_); conv => whnf))
  refine bcs_mk (fun h => ?_) (fun h => ?_)
  · rw [h]
    ((conv => whnf); repeat ((first | refine AWp.many ?_ | refine AOps.many ?_ | refine ADr.go ?_); conv => whnf))
    refine fin_pure nn ⟨?_, rfl, rfl⟩
    rw [capital_up ha (by simp [upper] at *; omega)]
  have h3 : 65 ≤ (a.toNat : Int) := by simpa using h
  rw [h]
  ((conv => whnf); repeat ((first | refine AWp.many ?_ | refine AOps.many ?_ | refine ADr.go ?_); conv => whnf))
  refine opt_mk ha ?_
  ((conv => whnf); repeat ((first | refine AWp.many ?_ | refine AOps.many ?_ | refine ADr.go ?_); conv => whnf))
  refine bcs_mk (fun h => ?_) (fun h => ?_)
  · ((conv => whnf); repeat ((first | refine AWp.many ?_ | refine AOps.many ?_ | refine ADr.go ?_); conv => whnf))
    refine fin_pure nn ⟨?_, rfl, rfl⟩
    rw [capital_up ha (by simp [upper] at *; omega)]
  have h4 : (a.toNat : Int) ≤ 90 := by simpa using h
  ((conv => whnf); repeat ((first | refine AWp.many ?_ | refine AOps.many ?_ | refine ADr.go ?_); conv => whnf))
  refine ALoop.at nnΓ (fun i : Nat => i ≤ s.length ∧ ∀ j c, j < i → s[j]? = some c → inNm c.toNat = true)
    (fun i => ⟨[(0, .str s), (3, .int .i64 i)], [], 0, 64⟩) (fun i => s.length - i) 0 [] ⟨by simp, by simp⟩
    (conv_pure ⟨⟨_, rfl, .same _ nn⟩, ⟨_, rfl, .same _ nn⟩, trivial⟩) ?_
  rintro i ⟨hi, hall⟩
  ((conv => whnf); repeat ((first | refine AWp.many ?_ | refine AOps.many ?_ | refine ADr.go ?_); conv => whnf))
  refine bcs_mk (fun h => ?_) (fun h => ?_)
  · have hlt : i < s.length := by simpa using h
    obtain ⟨c, hc⟩ : ∃ c, s[i]? = some c := ⟨s[i], by simp [hlt]⟩
    have hc' : s[(i : Int).toNat]? = some c := by rw [Int.toNat_natCast]; exact hc
    ((conv => whnf); repeat ((first | refine AWp.many ?_ | refine AOps.many ?_ | refine ADr.go ?_); conv => whnf))
    refine opt_mk hc' ?_
    ((conv => whnf); repeat ((first | refine AWp.many ?_ | refine AOps.many ?_ | refine ADr.go ?_); conv => whnf))
    repeat' (refine bcs_mk (fun h => ?_) (fun h => ?_) <;> ((try rw [h]); ((conv => whnf); repeat ((first | refine AWp.many ?_ | refine AOps.many ?_ | refine ADr.go ?_); conv => whnf))))
    all_goals first
      | (refine fin_pure nn ⟨?_, rfl, rfl⟩
         rw [capital_in hc (by rw [Bool.eq_false_iff]; simp [inNm] at *; omega)])
      | (refine .mk (i + 1) [] ⟨by omega, fun j c2 hj hc2 => ?_⟩ (conv_pure ⟨⟨_, rfl, .same _ nn⟩, ⟨_, rfl, .w64 (by omega) ⟨by omega, by omega⟩⟩, trivial⟩) (by omega)
         rcases Nat.lt_or_ge j i with hj' | hj'
         · exact hall j c2 hj' hc2
         · have hji : j = i := by omega
           rw [hji, hc] at hc2
           cases hc2
           simp [inNm] at *
           omega)
  · ((conv => whnf); repeat ((first | refine AWp.many ?_ | refine AOps.many ?_ | refine ADr.go ?_); conv => whnf))
    refine fin_pure nn ⟨?_, rfl, rfl⟩
    have hk : i = s.length := by simp at h; omega
    rw [capital_of ha h2 (by simp [upper]; omega) fun j c hc => hall j c (by rw [hk]; exact (List.getElem?_eq_some_iff.1 hc).1) hc]

/-- 'values.capital'. -/
theorem vCapital (s : List UInt8) (hs : s.length ≤ 4294967296) : PureC Tryz.prog [] 106 [.str s] (.bool (capital s)) := by
  refine acalls_go nnΓ Tryz.func106 rfl ?_
  ((conv => whnf); repeat ((first | refine AWp.many ?_ | refine AOps.many ?_ | refine ADr.go ?_); conv => whnf))
  refine bcs_mk (fun h => ?_) (fun h => ?_)
  · rw [h]
    ((conv => whnf); repeat ((first | refine AWp.many ?_ | refine AOps.many ?_ | refine ADr.go ?_); conv => whnf))
    refine fin_pure nn ⟨?_, rfl, rfl⟩
    rw [capital_nil (by simp at h; rw [h]; simp)]
  have h1 : 1 ≤ s.length := by
    rcases Nat.eq_zero_or_pos s.length with h' | h'
    · rw [List.eq_nil_of_length_eq_zero h'] at h; simp at h
    · exact h'
  rw [h]
  ((conv => whnf); repeat ((first | refine AWp.many ?_ | refine AOps.many ?_ | refine ADr.go ?_); conv => whnf))
  refine bcs_mk (fun h => ?_) (fun h => ?_)
  · rw [h]
    ((conv => whnf); repeat ((first | refine AWp.many ?_ | refine AOps.many ?_ | refine ADr.go ?_); conv => whnf))
    refine fin_pure nn ⟨?_, rfl, rfl⟩
    rw [capital_long (by simp at h; omega)]
  have h2 : s.length ≤ 16 := by simp at h; omega
  rw [h]
  obtain ⟨a, ha⟩ : ∃ a, s[0]? = some a := ⟨s[0], by simp⟩
  ((conv => whnf); repeat ((first | refine AWp.many ?_ | refine AOps.many ?_ | refine ADr.go ?_); conv => whnf))
  refine opt_mk ha ?_
  ((conv => whnf); repeat ((first | refine AWp.many ?_ | refine AOps.many ?_ | refine ADr.go ?_); conv => whnf))
  refine bcs_mk (fun h => ?_) (fun h => ?_)
  · rw [h]
    ((conv => whnf); repeat ((first | refine AWp.many ?_ | refine AOps.many ?_ | refine ADr.go ?_); conv => whnf))
    refine fin_pure nn ⟨?_, rfl, rfl⟩
    rw [capital_up ha (by simp [upper] at *; omega)]
  have h3 : 65 ≤ (a.toNat : Int) := by simpa using h
  rw [h]
  ((conv => whnf); repeat ((first | refine AWp.many ?_ | refine AOps.many ?_ | refine ADr.go ?_); conv => whnf))
  refine opt_mk ha ?_
  ((conv => whnf); repeat ((first | refine AWp.many ?_ | refine AOps.many ?_ | refine ADr.go ?_); conv => whnf))
  refine bcs_mk (fun h => ?_) (fun h => ?_)
  · ((conv => whnf); repeat ((first | refine AWp.many ?_ | refine AOps.many ?_ | refine ADr.go ?_); conv => whnf))
    refine fin_pure nn ⟨?_, rfl, rfl⟩
    rw [capital_up ha (by simp [upper] at *; omega)]
  have h4 : (a.toNat : Int) ≤ 90 := by simpa using h
  have hua : upper a.toNat = true := by simp [upper]; omega
  ((conv => whnf); repeat ((first | refine AWp.many ?_ | refine AOps.many ?_ | refine ADr.go ?_); conv => whnf))
  refine ALoop.at nnΓ (fun i : Nat => 1 ≤ i ∧ i ≤ s.length ∧ ∀ j c, j < i → s[j]? = some c → inNm c.toNat = true)
    (fun i => ⟨[(0, .str s), (3, .int .i64 i)], [], 0, 32⟩) (fun i => s.length - i) 1 [] ⟨by simp, h1, fun j c hj hc => by rw [show j = 0 by omega, ha] at hc; cases hc; exact upper_in hua⟩
    (conv_pure ⟨⟨_, rfl, .same _ nn⟩, ⟨_, rfl, .same _ nn⟩, trivial⟩) ?_
  rintro i ⟨h0, hi, hall⟩
  ((conv => whnf); repeat ((first | refine AWp.many ?_ | refine AOps.many ?_ | refine ADr.go ?_); conv => whnf))
  refine bcs_mk (fun h => ?_) (fun h => ?_)
  · have hlt : i < s.length := by simpa using h
    obtain ⟨c, hc⟩ : ∃ c, s[i]? = some c := ⟨s[i], by simp [hlt]⟩
    have hc' : s[(i : Int).toNat]? = some c := by rw [Int.toNat_natCast]; exact hc
    ((conv => whnf); repeat ((first | refine AWp.many ?_ | refine AOps.many ?_ | refine ADr.go ?_); conv => whnf))
    refine opt_mk hc' ?_
    ((conv => whnf); repeat ((first | refine AWp.many ?_ | refine AOps.many ?_ | refine ADr.go ?_); conv => whnf))
    refine (vInName c.toNat).go ?_
    ((conv => whnf); repeat ((first | refine AWp.many ?_ | refine AOps.many ?_ | refine ADr.go ?_); conv => whnf))
    cases hb : inNm c.toNat with
    | false =>
      ((conv => whnf); repeat ((first | refine AWp.many ?_ | refine AOps.many ?_ | refine ADr.go ?_); conv => whnf))
      refine fin_pure nn ⟨?_, rfl, rfl⟩
      rw [capital_in hc hb]
    | true =>
      ((conv => whnf); repeat ((first | refine AWp.many ?_ | refine AOps.many ?_ | refine ADr.go ?_); conv => whnf))
      refine .mk (i + 1) [] ⟨by omega, by omega, fun j c2 hj hc2 => ?_⟩ (conv_pure ⟨⟨_, rfl, .same _ nn⟩, ⟨_, rfl, .w64 (by omega) ⟨by omega, by omega⟩⟩, trivial⟩) (by omega)
      rcases Nat.lt_or_ge j i with hj' | hj'
      · exact hall j c2 hj' hc2
      · have hji : j = i := by omega
        rw [hji, hc] at hc2
        cases hc2
        exact hb
  · ((conv => whnf); repeat ((first | refine AWp.many ?_ | refine AOps.many ?_ | refine ADr.go ?_); conv => whnf))
    refine fin_pure nn ⟨?_, rfl, rfl⟩
    have hk : i = s.length := by simp at h; omega
    rw [capital_of ha h2 hua fun j c hc => hall j c (by rw [hk]; exact (List.getElem?_eq_some_iff.1 hc).1) hc]
end Go.Proofs.YtgnkoonihkfloaaGreatDoor

namespace Go.Proofs.YtgnkoonihkfloaaGreatDoor
open Go Go.Ax Go.Proofs
set_option linter.unusedVariables false
set_option maxRecDepth 100000
set_option maxHeartbeats 4000000

/-- 'values.formed'. -/
theorem vFormed (vk vn : Int) (vs : List UInt8) (ks : List Val) (hs : vs.length ≤ 4294967296) : PureC Tryz.prog [] 71 [encV (.mk vk vn vs ks)] (.bool (formed1 vk vn vs ks.length)) := by
  refine acalls_go nnΓ Tryz.func71 rfl ?_
  ((conv => whnf); repeat ((first | refine AWp.many ?_ | refine AOps.many ?_ | refine ADr.go ?_); conv => whnf))
  repeat' (first | (refine bcs_mk (fun h => ?_) (fun h => ?_) <;> ((try rw [h]); ((conv => whnf); repeat ((first | refine AWp.many ?_ | refine AOps.many ?_ | refine ADr.go ?_); conv => whnf)))) | (refine (vCapital vs hs).go ?_; ((conv => whnf); repeat ((first | refine AWp.many ?_ | refine AOps.many ?_ | refine ADr.go ?_); conv => whnf))))
  all_goals
    refine fin_pure nn ⟨?_, rfl, rfl⟩
    congr 1
    rw [Bool.eq_iff_iff]
    simp_all [formed1, encVs_length, List.length_eq_zero_iff, List.isEmpty_iff]

/-- 'values.fits'. -/
theorem vFits (vk vn : Int) (vs : List UInt8) (ks : List Val) : PureC Tryz.prog [] 72 [encV (.mk vk vn vs ks)] (.bool (fits1 vk ks.length)) := by
  refine acalls_go nnΓ Tryz.func72 rfl ?_
  ((conv => whnf); repeat ((first | refine AWp.many ?_ | refine AOps.many ?_ | refine ADr.go ?_); conv => whnf))
  repeat' (refine bcs_mk (fun h => ?_) (fun h => ?_) <;> ((try rw [h]); ((conv => whnf); repeat ((first | refine AWp.many ?_ | refine AOps.many ?_ | refine ADr.go ?_); conv => whnf))))
  all_goals
    refine fin_pure nn ⟨?_, rfl, rfl⟩
    congr 1
    rw [Bool.eq_iff_iff]
    simp [fits1, encVs_length] at *
    try omega

/-- 'refuterref10.formed'. -/
theorem rFormed : ∀ v : Val, okV v → PureC Tryz.prog [] 73 [encV v] (.bool (formedV v))
  | .mk vk vn vs ks, hv => by
    simp only [okV] at hv
    obtain ⟨hv1, hv2, hv3, hv4, hv5⟩ := hv
    have ih : ∀ a ∈ ks, PureC Tryz.prog [] 73 [encV a] (.bool (formedV a)) := fun a hm => rFormed a (okVs_mem hv5 a hm)
    clear hv5
    refine acalls_go nnΓ Tryz.func73 rfl ?_
    ((conv => whnf); repeat ((first | refine AWp.many ?_ | refine AOps.many ?_ | refine ADr.go ?_); conv => whnf))
    refine (rCapital vs hv3).go ?_
    obtain ⟨cb, hcb⟩ : ∃ cb, cb = capital vs := ⟨_, rfl⟩
    rw [← hcb]
    rcases (show vk = 0 ∨ vk = 1 ∨ vk = 2 ∨ vk = 3 ∨ (vk < 0 ∨ 3 < vk) by omega) with rfl | rfl | rfl | rfl | hk
    · ((conv => whnf); repeat ((first | refine AWp.many ?_ | refine AOps.many ?_ | refine ADr.go ?_); conv => whnf))
      repeat' (refine bcs_mk (fun h => ?_) (fun h => ?_) <;> ((try rw [h]); ((conv => whnf); repeat ((first | refine AWp.many ?_ | refine AOps.many ?_ | refine ADr.go ?_); conv => whnf))))
      all_goals first
        | (refine fin_pure nn ⟨?_, rfl, rfl⟩
           clear ih
           have hf1 : formed1 0 vn vs ks.length = false := by
             rw [Bool.eq_false_iff]
             simp_all [formed1, encVs_length, List.length_pos_iff]
             try omega
           rw [formedV, hf1]
           rfl)
        | (have hf1 : formed1 0 vn vs ks.length = true := by
             clear ih
             simp_all [formed1, encVs_length, List.length_pos_iff]
             try omega
           refine ALoop.at nnΓ (fun k : Nat => k ≤ ks.length ∧ formedL (ks.take k) = true)
             (fun k => ⟨[(1, .ptr 0 0 0), (4, .int .i64 k)], [(0, .row 33 4 [encV (.mk 0 vn vs ks)])], 1, 95⟩) (fun k => ks.length - k) 0 [(0, 0)] ⟨by simp, rfl⟩
             (conv_mk _ rfl ⟨⟨0, _, rfl, rfl, .same nns⟩, trivial⟩ ⟨⟨_, rfl, .ptr 0 0 0 0 rfl⟩, ⟨_, rfl, .same _ nn⟩, trivial⟩) ?_
           rintro k ⟨hk, hall⟩
           ((conv => whnf); repeat ((first | refine AWp.many ?_ | refine AOps.many ?_ | refine ADr.go ?_); conv => whnf))
           refine bcs_mk (fun h => ?_) (fun h => ?_)
           · have hlt := klt h
             obtain ⟨a, b, c, d, hm, hg, he, e1⟩ := enc_cases hlt
             have hih := ih _ hm
             obtain ⟨fb, hfb⟩ : ∃ fb, fb = formedV (.mk a b c d) := ⟨_, rfl⟩
             rw [← hfb] at hih
             ((conv => whnf); repeat ((first | refine AWp.many ?_ | refine AOps.many ?_ | refine ADr.go ?_); conv => whnf))
             refine opt_mk e1 ?_
             ((conv => whnf); repeat ((first | refine AWp.many ?_ | refine AOps.many ?_ | refine ADr.go ?_); conv => whnf))
             refine hih.go ?_
             cases fb with
             | false =>
               ((conv => whnf); repeat ((first | refine AWp.many ?_ | refine AOps.many ?_ | refine ADr.go ?_); conv => whnf))
               refine fin_pure nn ⟨?_, rfl, rfl⟩
               rw [formedV, formedL_mem hm hfb.symm, Bool.and_false]
             | true =>
               ((conv => whnf); repeat ((first | refine AWp.many ?_ | refine AOps.many ?_ | refine ADr.go ?_); conv => whnf))
               refine .mk (k + 1) [(0, 0)] ⟨by omega, ?_⟩ (conv_mk _ rfl ⟨⟨0, _, rfl, rfl, .same nns⟩, trivial⟩ ⟨⟨_, rfl, .ptr 0 0 0 0 rfl⟩, ⟨_, rfl, .w64 (by omega) ⟨by omega, by omega⟩⟩, trivial⟩) (by omega)
               rw [formedL_take hlt, hall, he, ← hfb]
               rfl
           · have hk' : k = ks.length := by have := kge h; omega
             ((conv => whnf); repeat ((first | refine AWp.many ?_ | refine AOps.many ?_ | refine ADr.go ?_); conv => whnf))
             refine fin_pure nn ⟨?_, rfl, rfl⟩
             rw [hk', List.take_length] at hall
             rw [formedV, hf1, hall]
             rfl)
    · ((conv => whnf); repeat ((first | refine AWp.many ?_ | refine AOps.many ?_ | refine ADr.go ?_); conv => whnf))
      repeat' (refine bcs_mk (fun h => ?_) (fun h => ?_) <;> ((try rw [h]); ((conv => whnf); repeat ((first | refine AWp.many ?_ | refine AOps.many ?_ | refine ADr.go ?_); conv => whnf))))
      all_goals first
        | (refine fin_pure nn ⟨?_, rfl, rfl⟩
           clear ih
           have hf1 : formed1 1 vn vs ks.length = false := by
             rw [Bool.eq_false_iff]
             simp_all [formed1, encVs_length, List.length_pos_iff]
             try omega
           rw [formedV, hf1]
           rfl)
        | (have hf1 : formed1 1 vn vs ks.length = true := by
             clear ih
             simp_all [formed1, encVs_length, List.length_pos_iff]
             try omega
           refine ALoop.at nnΓ (fun k : Nat => k ≤ ks.length ∧ formedL (ks.take k) = true)
             (fun k => ⟨[(1, .ptr 0 0 0), (4, .int .i64 k)], [(0, .row 33 4 [encV (.mk 1 vn vs ks)])], 1, 95⟩) (fun k => ks.length - k) 0 [(0, 0)] ⟨by simp, rfl⟩
             (conv_mk _ rfl ⟨⟨0, _, rfl, rfl, .same nns⟩, trivial⟩ ⟨⟨_, rfl, .ptr 0 0 0 0 rfl⟩, ⟨_, rfl, .same _ nn⟩, trivial⟩) ?_
           rintro k ⟨hk, hall⟩
           ((conv => whnf); repeat ((first | refine AWp.many ?_ | refine AOps.many ?_ | refine ADr.go ?_); conv => whnf))
           refine bcs_mk (fun h => ?_) (fun h => ?_)
           · have hlt := klt h
             obtain ⟨a, b, c, d, hm, hg, he, e1⟩ := enc_cases hlt
             have hih := ih _ hm
             obtain ⟨fb, hfb⟩ : ∃ fb, fb = formedV (.mk a b c d) := ⟨_, rfl⟩
             rw [← hfb] at hih
             ((conv => whnf); repeat ((first | refine AWp.many ?_ | refine AOps.many ?_ | refine ADr.go ?_); conv => whnf))
             refine opt_mk e1 ?_
             ((conv => whnf); repeat ((first | refine AWp.many ?_ | refine AOps.many ?_ | refine ADr.go ?_); conv => whnf))
             refine hih.go ?_
             cases fb with
             | false =>
               ((conv => whnf); repeat ((first | refine AWp.many ?_ | refine AOps.many ?_ | refine ADr.go ?_); conv => whnf))
               refine fin_pure nn ⟨?_, rfl, rfl⟩
               rw [formedV, formedL_mem hm hfb.symm, Bool.and_false]
             | true =>
               ((conv => whnf); repeat ((first | refine AWp.many ?_ | refine AOps.many ?_ | refine ADr.go ?_); conv => whnf))
               refine .mk (k + 1) [(0, 0)] ⟨by omega, ?_⟩ (conv_mk _ rfl ⟨⟨0, _, rfl, rfl, .same nns⟩, trivial⟩ ⟨⟨_, rfl, .ptr 0 0 0 0 rfl⟩, ⟨_, rfl, .w64 (by omega) ⟨by omega, by omega⟩⟩, trivial⟩) (by omega)
               rw [formedL_take hlt, hall, he, ← hfb]
               rfl
           · have hk' : k = ks.length := by have := kge h; omega
             ((conv => whnf); repeat ((first | refine AWp.many ?_ | refine AOps.many ?_ | refine ADr.go ?_); conv => whnf))
             refine fin_pure nn ⟨?_, rfl, rfl⟩
             rw [hk', List.take_length] at hall
             rw [formedV, hf1, hall]
             rfl)
    · ((conv => whnf); repeat ((first | refine AWp.many ?_ | refine AOps.many ?_ | refine ADr.go ?_); conv => whnf))
      repeat' (refine bcs_mk (fun h => ?_) (fun h => ?_) <;> ((try rw [h]); ((conv => whnf); repeat ((first | refine AWp.many ?_ | refine AOps.many ?_ | refine ADr.go ?_); conv => whnf))))
      all_goals first
        | (refine fin_pure nn ⟨?_, rfl, rfl⟩
           clear ih
           have hf1 : formed1 2 vn vs ks.length = false := by
             rw [Bool.eq_false_iff]
             simp_all [formed1, encVs_length, List.length_pos_iff]
             try omega
           rw [formedV, hf1]
           rfl)
        | (have hf1 : formed1 2 vn vs ks.length = true := by
             clear ih
             simp_all [formed1, encVs_length, List.length_pos_iff]
             try omega
           refine ALoop.at nnΓ (fun k : Nat => k ≤ ks.length ∧ formedL (ks.take k) = true)
             (fun k => ⟨[(1, .ptr 0 0 0), (4, .int .i64 k)], [(0, .row 33 4 [encV (.mk 2 vn vs ks)])], 1, 95⟩) (fun k => ks.length - k) 0 [(0, 0)] ⟨by simp, rfl⟩
             (conv_mk _ rfl ⟨⟨0, _, rfl, rfl, .same nns⟩, trivial⟩ ⟨⟨_, rfl, .ptr 0 0 0 0 rfl⟩, ⟨_, rfl, .same _ nn⟩, trivial⟩) ?_
           rintro k ⟨hk, hall⟩
           ((conv => whnf); repeat ((first | refine AWp.many ?_ | refine AOps.many ?_ | refine ADr.go ?_); conv => whnf))
           refine bcs_mk (fun h => ?_) (fun h => ?_)
           · have hlt := klt h
             obtain ⟨a, b, c, d, hm, hg, he, e1⟩ := enc_cases hlt
             have hih := ih _ hm
             obtain ⟨fb, hfb⟩ : ∃ fb, fb = formedV (.mk a b c d) := ⟨_, rfl⟩
             rw [← hfb] at hih
             ((conv => whnf); repeat ((first | refine AWp.many ?_ | refine AOps.many ?_ | refine ADr.go ?_); conv => whnf))
             refine opt_mk e1 ?_
             ((conv => whnf); repeat ((first | refine AWp.many ?_ | refine AOps.many ?_ | refine ADr.go ?_); conv => whnf))
             refine hih.go ?_
             cases fb with
             | false =>
               ((conv => whnf); repeat ((first | refine AWp.many ?_ | refine AOps.many ?_ | refine ADr.go ?_); conv => whnf))
               refine fin_pure nn ⟨?_, rfl, rfl⟩
               rw [formedV, formedL_mem hm hfb.symm, Bool.and_false]
             | true =>
               ((conv => whnf); repeat ((first | refine AWp.many ?_ | refine AOps.many ?_ | refine ADr.go ?_); conv => whnf))
               refine .mk (k + 1) [(0, 0)] ⟨by omega, ?_⟩ (conv_mk _ rfl ⟨⟨0, _, rfl, rfl, .same nns⟩, trivial⟩ ⟨⟨_, rfl, .ptr 0 0 0 0 rfl⟩, ⟨_, rfl, .w64 (by omega) ⟨by omega, by omega⟩⟩, trivial⟩) (by omega)
               rw [formedL_take hlt, hall, he, ← hfb]
               rfl
           · have hk' : k = ks.length := by have := kge h; omega
             ((conv => whnf); repeat ((first | refine AWp.many ?_ | refine AOps.many ?_ | refine ADr.go ?_); conv => whnf))
             refine fin_pure nn ⟨?_, rfl, rfl⟩
             rw [hk', List.take_length] at hall
             rw [formedV, hf1, hall]
             rfl)
    · ((conv => whnf); repeat ((first | refine AWp.many ?_ | refine AOps.many ?_ | refine ADr.go ?_); conv => whnf))
      repeat' (refine bcs_mk (fun h => ?_) (fun h => ?_) <;> ((try rw [h]); ((conv => whnf); repeat ((first | refine AWp.many ?_ | refine AOps.many ?_ | refine ADr.go ?_); conv => whnf))))
      all_goals first
        | (refine fin_pure nn ⟨?_, rfl, rfl⟩
           clear ih
           have hf1 : formed1 3 vn vs ks.length = false := by
             rw [Bool.eq_false_iff]
             simp_all [formed1, encVs_length, List.length_pos_iff]
             try omega
           rw [formedV, hf1]
           rfl)
        | (have hf1 : formed1 3 vn vs ks.length = true := by
             clear ih
             simp_all [formed1, encVs_length, List.length_pos_iff]
             try omega
           refine ALoop.at nnΓ (fun k : Nat => k ≤ ks.length ∧ formedL (ks.take k) = true)
             (fun k => ⟨[(1, .ptr 0 0 0), (4, .int .i64 k)], [(0, .row 33 4 [encV (.mk 3 vn vs ks)])], 1, 95⟩) (fun k => ks.length - k) 0 [(0, 0)] ⟨by simp, rfl⟩
             (conv_mk _ rfl ⟨⟨0, _, rfl, rfl, .same nns⟩, trivial⟩ ⟨⟨_, rfl, .ptr 0 0 0 0 rfl⟩, ⟨_, rfl, .same _ nn⟩, trivial⟩) ?_
           rintro k ⟨hk, hall⟩
           ((conv => whnf); repeat ((first | refine AWp.many ?_ | refine AOps.many ?_ | refine ADr.go ?_); conv => whnf))
           refine bcs_mk (fun h => ?_) (fun h => ?_)
           · have hlt := klt h
             obtain ⟨a, b, c, d, hm, hg, he, e1⟩ := enc_cases hlt
             have hih := ih _ hm
             obtain ⟨fb, hfb⟩ : ∃ fb, fb = formedV (.mk a b c d) := ⟨_, rfl⟩
             rw [← hfb] at hih
             ((conv => whnf); repeat ((first | refine AWp.many ?_ | refine AOps.many ?_ | refine ADr.go ?_); conv => whnf))
             refine opt_mk e1 ?_
             ((conv => whnf); repeat ((first | refine AWp.many ?_ | refine AOps.many ?_ | refine ADr.go ?_); conv => whnf))
             refine hih.go ?_
             cases fb with
             | false =>
               ((conv => whnf); repeat ((first | refine AWp.many ?_ | refine AOps.many ?_ | refine ADr.go ?_); conv => whnf))
               refine fin_pure nn ⟨?_, rfl, rfl⟩
               rw [formedV, formedL_mem hm hfb.symm, Bool.and_false]
             | true =>
               ((conv => whnf); repeat ((first | refine AWp.many ?_ | refine AOps.many ?_ | refine ADr.go ?_); conv => whnf))
               refine .mk (k + 1) [(0, 0)] ⟨by omega, ?_⟩ (conv_mk _ rfl ⟨⟨0, _, rfl, rfl, .same nns⟩, trivial⟩ ⟨⟨_, rfl, .ptr 0 0 0 0 rfl⟩, ⟨_, rfl, .w64 (by omega) ⟨by omega, by omega⟩⟩, trivial⟩) (by omega)
               rw [formedL_take hlt, hall, he, ← hfb]
               rfl
           · have hk' : k = ks.length := by have := kge h; omega
             ((conv => whnf); repeat ((first | refine AWp.many ?_ | refine AOps.many ?_ | refine ADr.go ?_); conv => whnf))
             refine fin_pure nn ⟨?_, rfl, rfl⟩
             rw [hk', List.take_length] at hall
             rw [formedV, hf1, hall]
             rfl)
    · have e0 : (vk == 0) = false := by simp; omega
      have e1 : (vk == 1) = false := by simp; omega
      have e2 : (vk == 2) = false := by simp; omega
      have e3 : (vk == 3) = false := by simp; omega
      have hf1 : formed1 vk vn vs ks.length = false := by
        unfold formed1
        rw [if_neg (by omega), if_neg (by omega), if_neg (by omega), if_neg (by omega)]
      have hfin : AV.bool false = AV.bool (formedV (.mk vk vn vs ks)) := by rw [formedV, hf1]; rfl
      ((conv => whnf); repeat ((first | refine AWp.many ?_ | refine AOps.many ?_ | refine ADr.go ?_); conv => whnf))
      repeat (first | (rw [e0]; ((conv => whnf); repeat ((first | refine AWp.many ?_ | refine AOps.many ?_ | refine ADr.go ?_); conv => whnf))) | (rw [e1]; ((conv => whnf); repeat ((first | refine AWp.many ?_ | refine AOps.many ?_ | refine ADr.go ?_); conv => whnf))) | (rw [e2]; ((conv => whnf); repeat ((first | refine AWp.many ?_ | refine AOps.many ?_ | refine ADr.go ?_); conv => whnf))) | (rw [e3]; ((conv => whnf); repeat ((first | refine AWp.many ?_ | refine AOps.many ?_ | refine ADr.go ?_); conv => whnf))))
      refine bcs_mk (fun h => ?_) (fun h => ?_)
      · rw [h]
        ((conv => whnf); repeat ((first | refine AWp.many ?_ | refine AOps.many ?_ | refine ADr.go ?_); conv => whnf))
        exact fin_pure nn ⟨hfin, rfl, rfl⟩
      · rw [h]
        ((conv => whnf); repeat ((first | refine AWp.many ?_ | refine AOps.many ?_ | refine ADr.go ?_); conv => whnf))
        refine bcs_mk (fun h' => ?_) (fun h' => ?_)
        · ((conv => whnf); repeat ((first | refine AWp.many ?_ | refine AOps.many ?_ | refine ADr.go ?_); conv => whnf))
          exact fin_pure nn ⟨hfin, rfl, rfl⟩
        · exfalso
          simp at h h'
          omega
  termination_by v => SizeOf.sizeOf v
  decreasing_by simp; have := List.sizeOf_lt_of_mem hm; omega

/-- 'refuterref10.wide'. -/
theorem rWide : ∀ v : Val, okV v → PureC Tryz.prog [] 74 [encV v] (.bool (wideV v))
  | .mk vk vn vs ks, hv => by
    simp only [okV] at hv
    obtain ⟨hv1, hv2, hv3, hv4, hv5⟩ := hv
    have ih : ∀ a ∈ ks, PureC Tryz.prog [] 74 [encV a] (.bool (wideV a)) := fun a hm => rWide a (okVs_mem hv5 a hm)
    clear hv5
    refine acalls_go nnΓ Tryz.func74 rfl ?_
    ((conv => whnf); repeat ((first | refine AWp.many ?_ | refine AOps.many ?_ | refine ADr.go ?_); conv => whnf))
    repeat' (refine bcs_mk (fun h => ?_) (fun h => ?_) <;> ((try rw [h]); ((conv => whnf); repeat ((first | refine AWp.many ?_ | refine AOps.many ?_ | refine ADr.go ?_); conv => whnf))))
    all_goals first
      | (refine fin_pure nn ⟨?_, rfl, rfl⟩
         clear ih
         have hf1 : wide1 vk ks.length = true := by
           simp [wide1, encVs_length] at *
           omega
         rw [wideV, hf1]
         rfl)
      | (have hf1 : wide1 vk ks.length = false := by
           clear ih
           rw [Bool.eq_false_iff]
           simp [wide1, encVs_length] at *
           omega
         refine ALoop.at nnΓ (fun k : Nat => k ≤ ks.length ∧ wideL (ks.take k) = false)
           (fun k => ⟨[(1, .ptr 0 0 0), (3, .int .i64 k)], [(0, .row 33 4 [encV (.mk vk vn vs ks)])], 1, 39⟩) (fun k => ks.length - k) 0 [(0, 0)] ⟨by simp, rfl⟩
           (conv_mk _ rfl ⟨⟨0, _, rfl, rfl, .same nns⟩, trivial⟩ ⟨⟨_, rfl, .ptr 0 0 0 0 rfl⟩, ⟨_, rfl, .same _ nn⟩, trivial⟩) ?_
         rintro k ⟨hk, hall⟩
         ((conv => whnf); repeat ((first | refine AWp.many ?_ | refine AOps.many ?_ | refine ADr.go ?_); conv => whnf))
         refine bcs_mk (fun h => ?_) (fun h => ?_)
         · have hlt := klt h
           obtain ⟨a, b, c, d, hm, hg, he, e1⟩ := enc_cases hlt
           have hih := ih _ hm
           obtain ⟨fb, hfb⟩ : ∃ fb, fb = wideV (.mk a b c d) := ⟨_, rfl⟩
           rw [← hfb] at hih
           ((conv => whnf); repeat ((first | refine AWp.many ?_ | refine AOps.many ?_ | refine ADr.go ?_); conv => whnf))
           refine opt_mk e1 ?_
           ((conv => whnf); repeat ((first | refine AWp.many ?_ | refine AOps.many ?_ | refine ADr.go ?_); conv => whnf))
           refine hih.go ?_
           cases fb with
           | true =>
             ((conv => whnf); repeat ((first | refine AWp.many ?_ | refine AOps.many ?_ | refine ADr.go ?_); conv => whnf))
             refine fin_pure nn ⟨?_, rfl, rfl⟩
             rw [wideV, wideL_mem hm hfb.symm, Bool.or_true]
           | false =>
             ((conv => whnf); repeat ((first | refine AWp.many ?_ | refine AOps.many ?_ | refine ADr.go ?_); conv => whnf))
             refine .mk (k + 1) [(0, 0)] ⟨by omega, ?_⟩ (conv_mk _ rfl ⟨⟨0, _, rfl, rfl, .same nns⟩, trivial⟩ ⟨⟨_, rfl, .ptr 0 0 0 0 rfl⟩, ⟨_, rfl, .w64 (by omega) ⟨by omega, by omega⟩⟩, trivial⟩) (by omega)
             rw [wideL_take hlt, hall, he, ← hfb]
             rfl
         · have hk' : k = ks.length := by have := kge h; omega
           ((conv => whnf); repeat ((first | refine AWp.many ?_ | refine AOps.many ?_ | refine ADr.go ?_); conv => whnf))
           refine fin_pure nn ⟨?_, rfl, rfl⟩
           rw [hk', List.take_length] at hall
           rw [wideV, hf1, hall]
           rfl)
  termination_by v => SizeOf.sizeOf v
  decreasing_by simp; have := List.sizeOf_lt_of_mem hm; omega

/-- 'refuterref10.Valid'. -/
theorem rValid : ∀ v : Val, okV v → sizeV v ≤ 1099511627776 → PureC Tryz.prog [] 29 [encV v] (.int .i64 (validV v))
  | .mk vk vn vs ks, hv, hs => by
    have h1 := rFormed _ hv
    have h2 := rWide _ hv
    have h3 := rSize _ hs
    have hval : validV (.mk vk vn vs ks) = if formedV (.mk vk vn vs ks) = false then 1 else if wideV (.mk vk vn vs ks) = true ∨ 1024 < sizeV (.mk vk vn vs ks) then 4 else 0 := rfl
    generalize formedV (.mk vk vn vs ks) = fb at h1 hval
    generalize wideV (.mk vk vn vs ks) = wb at h2 hval
    generalize sizeV (.mk vk vn vs ks) = sz at h3 hval
    generalize validV (.mk vk vn vs ks) = res at hval
    refine acalls_go nnΓ Tryz.func29 rfl ?_
    ((conv => whnf); repeat ((first | refine AWp.many ?_ | refine AOps.many ?_ | refine ADr.go ?_); conv => whnf))
    refine h1.go ?_
    cases fb with
    | false =>
      ((conv => whnf); repeat ((first | refine AWp.many ?_ | refine AOps.many ?_ | refine ADr.go ?_); conv => whnf))
      refine fin_pure nn ⟨?_, rfl, rfl⟩
      rw [hval]; rfl
    | true =>
      ((conv => whnf); repeat ((first | refine AWp.many ?_ | refine AOps.many ?_ | refine ADr.go ?_); conv => whnf))
      refine h2.go ?_
      cases wb with
      | true =>
        ((conv => whnf); repeat ((first | refine AWp.many ?_ | refine AOps.many ?_ | refine ADr.go ?_); conv => whnf))
        refine fin_pure nn ⟨?_, rfl, rfl⟩
        rw [hval]; simp
      | false =>
        ((conv => whnf); repeat ((first | refine AWp.many ?_ | refine AOps.many ?_ | refine ADr.go ?_); conv => whnf))
        refine h3.go ?_
        ((conv => whnf); repeat ((first | refine AWp.many ?_ | refine AOps.many ?_ | refine ADr.go ?_); conv => whnf))
        refine bcs_mk (fun h => ?_) (fun h => ?_)
        · ((conv => whnf); repeat ((first | refine AWp.many ?_ | refine AOps.many ?_ | refine ADr.go ?_); conv => whnf))
          refine fin_pure nn ⟨?_, rfl, rfl⟩
          rw [hval, if_neg (by simp), if_pos (by simp at h; omega)]
        · ((conv => whnf); repeat ((first | refine AWp.many ?_ | refine AOps.many ?_ | refine ADr.go ?_); conv => whnf))
          refine fin_pure nn ⟨?_, rfl, rfl⟩
          rw [hval, if_neg (by simp), if_neg (by simp at h; simp; omega)]
end Go.Proofs.YtgnkoonihkfloaaGreatDoor

namespace Go.Proofs.YtgnkoonihkfloaaGreatDoor
open Go Go.Ax Go.Proofs
set_option linter.unusedVariables false
set_option maxRecDepth 100000
set_option maxHeartbeats 4000000

/-! ### 'values.visit' -/
def cI (n : Nat) : AB := .row 3 1 [.int .i64 n]
def cB (b : Bool) : AB := .row 4 1 [.bool b]
def cF (f : AV) : AB := .row 106 1 [f]

section
variable {mem : Mem} {σ : List (Nat × Nat)}
theorem cvFn1 {F : FuncId} {i : Nat} (h : lk σ i = some i) : CvR mem σ [.fn (.func F) [] [.ptr i 0 0]] [.fn (.func F) [] [.ptr i 0 0]] :=
  .cons (.one rfl rfl (.fn _ _ _ _ _ rfl rfl (by simp) (CvL.cons (.ptr i i 0 0 h) .nil).2)) .nil
theorem cvFn2 {F : FuncId} {i j : Nat} (h : lk σ i = some i) (h' : lk σ j = some j) : CvR mem σ [.fn (.func F) [] [.ptr i 0 0, .ptr j 0 0]] [.fn (.func F) [] [.ptr i 0 0, .ptr j 0 0]] :=
  .cons (.one rfl rfl (.fn _ _ _ _ _ rfl rfl (by simp) (CvL.cons (.ptr i i 0 0 h) (.cons (.ptr j j 0 0 h') .nil)).2)) .nil
theorem cvFn3 {F : FuncId} {i j k : Nat} (h : lk σ i = some i) (h' : lk σ j = some j) (h'' : lk σ k = some k) : CvR mem σ [.fn (.func F) [] [.ptr i 0 0, .ptr j 0 0, .ptr k 0 0]] [.fn (.func F) [] [.ptr i 0 0, .ptr j 0 0, .ptr k 0 0]] :=
  .cons (.one rfl rfl (.fn _ _ _ _ _ rfl rfl (by simp) (CvL.cons (.ptr i i 0 0 h) (.cons (.ptr j j 0 0 h') (.cons (.ptr k k 0 0 h'') .nil))).2)) .nil
end

/-- The memory of the walk over one number. -/
def wMS (n : Nat) : Mem := [(0, cI n), (1, cF (.fn (.func 75) [] [.ptr 0 0 0])), (2, cF (.fn (.func 105) [] [.ptr 1 0 0, .ptr 2 0 0]))]

theorem visit1S (g : Nat → Nat → Nat) (hg : ∀ n d, g n d ≤ max (n + 1) d)
    (hsee : ∀ (v : Val) (d n : Nat), d ≤ 1099511627776 → n ≤ 4398046511104 → ACalls Tryz.prog [] 75 [encV v, .int .i64 d, .ptr 0 0 0] [(0, cI n)] 1 fun r m _ => r = .bool true ∧ m = [(0, cI (g n d))]) :
    ∀ (v : Val) (d n : Nat), d + depthV v ≤ 1099511627776 → max n (d + depthV v) + sizeV v ≤ 4398046511104 →
      ACalls Tryz.prog [] 105 [encV v, .int .i64 d, .ptr 1 0 0, .ptr 2 0 0] (wMS n) 3 fun r m _ => r = .bool true ∧ m = wMS (resV g v d n)
  | .mk vk vn vs ks, d, n, hd, hb => by
    have ih : ∀ a ∈ ks, ∀ (d n : Nat), d + depthV a ≤ 1099511627776 → max n (d + depthV a) + sizeV a ≤ 4398046511104 → ACalls Tryz.prog [] 105 [encV a, .int .i64 d, .ptr 1 0 0, .ptr 2 0 0] (wMS n) 3 fun r m _ => r = .bool true ∧ m = wMS (resV g a d n) :=
      fun a hm d n h1 h2 => visit1S g hg hsee a d n h1 h2
    simp only [depthV, sizeV] at hd hb
    have hlen := sizeL_len ks
    have hgn := hg n d
    refine acalls_go nnΓ Tryz.func105 rfl ?_
    ((conv => whnf); repeat ((first | refine AWp.many ?_ | refine AOps.many ?_ | refine ADr.go ?_); conv => whnf))
    refine ACalls.useI nnΓ [0] (hsee (.mk vk vn vs ks) d n (by omega) (by omega)) (by rfl) (.cons (.same _ nn) (.cons (.same _ nn) (.cons (.ptr 0 0 0 0 rfl) .nil))) ⟨⟨0, _, rfl, rfl, .same nns⟩, trivial⟩ rfl ?_
    rintro r m n' ⟨rfl, rfl⟩
    refine ⟨nn, ⟨⟨0, _, rfl, rfl, .same nns⟩, trivial⟩, rfl, ?_⟩
    ((conv => whnf); repeat ((first | refine AWp.many ?_ | refine AOps.many ?_ | refine ADr.go ?_); conv => whnf))
    refine ALoop.at nnΓ (fun k : Nat => k ≤ ks.length)
      (fun k => ⟨[(1, .int .i64 d), (3, .ptr 2 0 0), (15, .il 4 (encVs ks)), (16, .int .i64 (encVs ks).length), (17, .int .i64 k)], wMS (resL g (ks.take k) (d + 1) (g n d)), 3, 28⟩)
      (fun k => ks.length - k) 0 [(0, 0), (1, 1), (2, 2)] (by simp)
      (conv_mk _ rfl ⟨⟨0, _, rfl, rfl, .same nns⟩, ⟨1, _, rfl, rfl, cvFn1 rfl⟩, ⟨2, _, rfl, rfl, cvFn2 rfl rfl⟩, trivial⟩ ⟨⟨_, rfl, .same _ nn⟩, ⟨_, rfl, .ptr 2 2 0 0 rfl⟩, ⟨_, rfl, .same _ nn⟩, ⟨_, rfl, .same _ nn⟩, ⟨_, rfl, .same _ nn⟩, trivial⟩) ?_
    intro k hk
    have hrl := resL_le hg (ks.take k) (d + 1) (g n d)
    ((conv => whnf); repeat ((first | refine AWp.many ?_ | refine AOps.many ?_ | refine ADr.go ?_); conv => whnf))
    refine bcs_mk (fun h => ?_) (fun h => ?_)
    · have hlt := klt h
      obtain ⟨a, b, c, e, hm, hg', he, e1⟩ := enc_cases hlt
      have hst := sizeL_take hlt
      have hdt := depthL_take hlt
      rw [he] at hst hdt
      have hst' := sizeL_take_le ks (k + 1)
      have hdm := depthL_mem hm
      have hdk : depthL (ks.take k) ≤ depthL ks := depthL_take_le ks k
      have hrt := resL_take g hlt (d + 1) (g n d)
      rw [he] at hrt
      ((conv => whnf); repeat ((first | refine AWp.many ?_ | refine AOps.many ?_ | refine ADr.go ?_); conv => whnf))
      refine opt_mk e1 ?_
      ((conv => whnf); repeat ((first | refine AWp.many ?_ | refine AOps.many ?_ | refine ADr.go ?_); conv => whnf))
      rw [w64 (x := (d : Int) + 1) (y := ((d + 1 : Nat) : Int)) (by omega) ⟨by omega, by omega⟩]
      refine ACalls.useI nnΓ [0, 1, 2] (ih _ hm (d + 1) (resL g (ks.take k) (d + 1) (g n d)) (by omega) (by omega)) (by rfl) (.cons (.same _ nn) (.cons (.same _ nn) (.cons (.ptr 1 1 0 0 rfl) (.cons (.ptr 2 2 0 0 rfl) .nil))))
        ⟨⟨0, _, rfl, rfl, .same nns⟩, ⟨1, _, rfl, rfl, cvFn1 rfl⟩, ⟨2, _, rfl, rfl, cvFn2 rfl rfl⟩, trivial⟩ rfl ?_
      rintro r m n' ⟨rfl, rfl⟩
      refine ⟨nn, ⟨⟨0, _, rfl, rfl, .same nns⟩, ⟨1, _, rfl, rfl, cvFn1 rfl⟩, ⟨2, _, rfl, rfl, cvFn2 rfl rfl⟩, trivial⟩, rfl, ?_⟩
      rw [← hrt]
      ((conv => whnf); repeat ((first | refine AWp.many ?_ | refine AOps.many ?_ | refine ADr.go ?_); conv => whnf))
      exact .mk (k + 1) [(0, 0), (1, 1), (2, 2)] (by omega)
        (conv_mk _ rfl ⟨⟨0, _, rfl, rfl, .same nns⟩, ⟨1, _, rfl, rfl, cvFn1 rfl⟩, ⟨2, _, rfl, rfl, cvFn2 rfl rfl⟩, trivial⟩ ⟨⟨_, rfl, .same _ nn⟩, ⟨_, rfl, .ptr 2 2 0 0 rfl⟩, ⟨_, rfl, .same _ nn⟩, ⟨_, rfl, .same _ nn⟩, ⟨_, rfl, .w64 (by omega) ⟨by omega, by omega⟩⟩, trivial⟩) (by omega)
    · have hk' : k = ks.length := by have := kge h; omega
      ((conv => whnf); repeat ((first | refine AWp.many ?_ | refine AOps.many ?_ | refine ADr.go ?_); conv => whnf))
      refine fin_mk (n' := 3) (m' := wMS (resL g (ks.take k) (d + 1) (g n d))) [(0, 0), (1, 1), (2, 2)] rfl ⟨⟨0, _, rfl, rfl, .same nns⟩, ⟨1, _, rfl, rfl, cvFn1 rfl⟩, ⟨2, _, rfl, rfl, cvFn2 rfl rfl⟩, trivial⟩ (.same _ nn) ⟨rfl, ?_⟩
      rw [hk', List.take_length, resV]
  termination_by v => SizeOf.sizeOf v
  decreasing_by simp; have := List.sizeOf_lt_of_mem hm; omega
/-- The memory of the walk over one number. -/
def wMD (n : Nat) : Mem := [(0, cI n), (1, cF (.fn (.func 76) [] [.ptr 0 0 0])), (2, cF (.fn (.func 105) [] [.ptr 1 0 0, .ptr 2 0 0]))]

theorem visit1D (g : Nat → Nat → Nat) (hg : ∀ n d, g n d ≤ max (n + 1) d)
    (hsee : ∀ (v : Val) (d n : Nat), d ≤ 1099511627776 → n ≤ 4398046511104 → ACalls Tryz.prog [] 76 [encV v, .int .i64 d, .ptr 0 0 0] [(0, cI n)] 1 fun r m _ => r = .bool true ∧ m = [(0, cI (g n d))]) :
    ∀ (v : Val) (d n : Nat), d + depthV v ≤ 1099511627776 → max n (d + depthV v) + sizeV v ≤ 4398046511104 →
      ACalls Tryz.prog [] 105 [encV v, .int .i64 d, .ptr 1 0 0, .ptr 2 0 0] (wMD n) 3 fun r m _ => r = .bool true ∧ m = wMD (resV g v d n)
  | .mk vk vn vs ks, d, n, hd, hb => by
    have ih : ∀ a ∈ ks, ∀ (d n : Nat), d + depthV a ≤ 1099511627776 → max n (d + depthV a) + sizeV a ≤ 4398046511104 → ACalls Tryz.prog [] 105 [encV a, .int .i64 d, .ptr 1 0 0, .ptr 2 0 0] (wMD n) 3 fun r m _ => r = .bool true ∧ m = wMD (resV g a d n) :=
      fun a hm d n h1 h2 => visit1D g hg hsee a d n h1 h2
    simp only [depthV, sizeV] at hd hb
    have hlen := sizeL_len ks
    have hgn := hg n d
    refine acalls_go nnΓ Tryz.func105 rfl ?_
    ((conv => whnf); repeat ((first | refine AWp.many ?_ | refine AOps.many ?_ | refine ADr.go ?_); conv => whnf))
    refine ACalls.useI nnΓ [0] (hsee (.mk vk vn vs ks) d n (by omega) (by omega)) (by rfl) (.cons (.same _ nn) (.cons (.same _ nn) (.cons (.ptr 0 0 0 0 rfl) .nil))) ⟨⟨0, _, rfl, rfl, .same nns⟩, trivial⟩ rfl ?_
    rintro r m n' ⟨rfl, rfl⟩
    refine ⟨nn, ⟨⟨0, _, rfl, rfl, .same nns⟩, trivial⟩, rfl, ?_⟩
    ((conv => whnf); repeat ((first | refine AWp.many ?_ | refine AOps.many ?_ | refine ADr.go ?_); conv => whnf))
    refine ALoop.at nnΓ (fun k : Nat => k ≤ ks.length)
      (fun k => ⟨[(1, .int .i64 d), (3, .ptr 2 0 0), (15, .il 4 (encVs ks)), (16, .int .i64 (encVs ks).length), (17, .int .i64 k)], wMD (resL g (ks.take k) (d + 1) (g n d)), 3, 28⟩)
      (fun k => ks.length - k) 0 [(0, 0), (1, 1), (2, 2)] (by simp)
      (conv_mk _ rfl ⟨⟨0, _, rfl, rfl, .same nns⟩, ⟨1, _, rfl, rfl, cvFn1 rfl⟩, ⟨2, _, rfl, rfl, cvFn2 rfl rfl⟩, trivial⟩ ⟨⟨_, rfl, .same _ nn⟩, ⟨_, rfl, .ptr 2 2 0 0 rfl⟩, ⟨_, rfl, .same _ nn⟩, ⟨_, rfl, .same _ nn⟩, ⟨_, rfl, .same _ nn⟩, trivial⟩) ?_
    intro k hk
    have hrl := resL_le hg (ks.take k) (d + 1) (g n d)
    ((conv => whnf); repeat ((first | refine AWp.many ?_ | refine AOps.many ?_ | refine ADr.go ?_); conv => whnf))
    refine bcs_mk (fun h => ?_) (fun h => ?_)
    · have hlt := klt h
      obtain ⟨a, b, c, e, hm, hg', he, e1⟩ := enc_cases hlt
      have hst := sizeL_take hlt
      have hdt := depthL_take hlt
      rw [he] at hst hdt
      have hst' := sizeL_take_le ks (k + 1)
      have hdm := depthL_mem hm
      have hdk : depthL (ks.take k) ≤ depthL ks := depthL_take_le ks k
      have hrt := resL_take g hlt (d + 1) (g n d)
      rw [he] at hrt
      ((conv => whnf); repeat ((first | refine AWp.many ?_ | refine AOps.many ?_ | refine ADr.go ?_); conv => whnf))
      refine opt_mk e1 ?_
      ((conv => whnf); repeat ((first | refine AWp.many ?_ | refine AOps.many ?_ | refine ADr.go ?_); conv => whnf))
      rw [w64 (x := (d : Int) + 1) (y := ((d + 1 : Nat) : Int)) (by omega) ⟨by omega, by omega⟩]
      refine ACalls.useI nnΓ [0, 1, 2] (ih _ hm (d + 1) (resL g (ks.take k) (d + 1) (g n d)) (by omega) (by omega)) (by rfl) (.cons (.same _ nn) (.cons (.same _ nn) (.cons (.ptr 1 1 0 0 rfl) (.cons (.ptr 2 2 0 0 rfl) .nil))))
        ⟨⟨0, _, rfl, rfl, .same nns⟩, ⟨1, _, rfl, rfl, cvFn1 rfl⟩, ⟨2, _, rfl, rfl, cvFn2 rfl rfl⟩, trivial⟩ rfl ?_
      rintro r m n' ⟨rfl, rfl⟩
      refine ⟨nn, ⟨⟨0, _, rfl, rfl, .same nns⟩, ⟨1, _, rfl, rfl, cvFn1 rfl⟩, ⟨2, _, rfl, rfl, cvFn2 rfl rfl⟩, trivial⟩, rfl, ?_⟩
      rw [← hrt]
      ((conv => whnf); repeat ((first | refine AWp.many ?_ | refine AOps.many ?_ | refine ADr.go ?_); conv => whnf))
      exact .mk (k + 1) [(0, 0), (1, 1), (2, 2)] (by omega)
        (conv_mk _ rfl ⟨⟨0, _, rfl, rfl, .same nns⟩, ⟨1, _, rfl, rfl, cvFn1 rfl⟩, ⟨2, _, rfl, rfl, cvFn2 rfl rfl⟩, trivial⟩ ⟨⟨_, rfl, .same _ nn⟩, ⟨_, rfl, .ptr 2 2 0 0 rfl⟩, ⟨_, rfl, .same _ nn⟩, ⟨_, rfl, .same _ nn⟩, ⟨_, rfl, .w64 (by omega) ⟨by omega, by omega⟩⟩, trivial⟩) (by omega)
    · have hk' : k = ks.length := by have := kge h; omega
      ((conv => whnf); repeat ((first | refine AWp.many ?_ | refine AOps.many ?_ | refine ADr.go ?_); conv => whnf))
      refine fin_mk (n' := 3) (m' := wMD (resL g (ks.take k) (d + 1) (g n d))) [(0, 0), (1, 1), (2, 2)] rfl ⟨⟨0, _, rfl, rfl, .same nns⟩, ⟨1, _, rfl, rfl, cvFn1 rfl⟩, ⟨2, _, rfl, rfl, cvFn2 rfl rfl⟩, trivial⟩ (.same _ nn) ⟨rfl, ?_⟩
      rw [hk', List.take_length, resV]
  termination_by v => SizeOf.sizeOf v
  decreasing_by simp; have := List.sizeOf_lt_of_mem hm; omega
end Go.Proofs.YtgnkoonihkfloaaGreatDoor

namespace Go.Proofs.YtgnkoonihkfloaaGreatDoor
open Go Go.Ax Go.Proofs
set_option linter.unusedVariables false
set_option maxRecDepth 100000
set_option maxHeartbeats 4000000

section
variable {mem : Mem} {σ : List (Nat × Nat)}
theorem cvFn1R {F : FuncId} {i i' : Nat} (h : lk σ i = some i') : CvR mem σ [.fn (.func F) [] [.ptr i 0 0]] [.fn (.func F) [] [.ptr i' 0 0]] :=
  .cons (.one rfl rfl (.fn _ _ _ _ _ rfl rfl (by simp) (CvL.cons (.ptr i i' 0 0 h) .nil).2)) .nil
theorem cvFn2R {F : FuncId} {i j i' j' : Nat} (h : lk σ i = some i') (h' : lk σ j = some j') : CvR mem σ [.fn (.func F) [] [.ptr i 0 0, .ptr j 0 0]] [.fn (.func F) [] [.ptr i' 0 0, .ptr j' 0 0]] :=
  .cons (.one rfl rfl (.fn _ _ _ _ _ rfl rfl (by simp) (CvL.cons (.ptr i i' 0 0 h) (.cons (.ptr j j' 0 0 h') .nil)).2)) .nil
theorem cvFn3R {F : FuncId} {i j k i' j' k' : Nat} (h : lk σ i = some i') (h' : lk σ j = some j') (h'' : lk σ k = some k') : CvR mem σ [.fn (.func F) [] [.ptr i 0 0, .ptr j 0 0, .ptr k 0 0]] [.fn (.func F) [] [.ptr i' 0 0, .ptr j' 0 0, .ptr k' 0 0]] :=
  .cons (.one rfl rfl (.fn _ _ _ _ _ rfl rfl (by simp) (CvL.cons (.ptr i i' 0 0 h) (.cons (.ptr j j' 0 0 h') (.cons (.ptr k k' 0 0 h'') .nil))).2)) .nil
theorem cvF1 {F : FuncId} {i i' : Nat} (h : lk σ i = some i') : Cv mem σ (.fn (.func F) [] [.ptr i 0 0]) (.fn (.func F) [] [.ptr i' 0 0]) :=
  .fn _ _ _ _ _ rfl rfl (by simp) (CvL.cons (.ptr i i' 0 0 h) .nil).2
theorem cvF3 {F : FuncId} {i j k i' j' k' : Nat} (h : lk σ i = some i') (h' : lk σ j = some j') (h'' : lk σ k = some k') : Cv mem σ (.fn (.func F) [] [.ptr i 0 0, .ptr j 0 0, .ptr k 0 0]) (.fn (.func F) [] [.ptr i' 0 0, .ptr j' 0 0, .ptr k' 0 0]) :=
  .fn _ _ _ _ _ rfl rfl (by simp) (CvL.cons (.ptr i i' 0 0 h) (.cons (.ptr j j' 0 0 h') (.cons (.ptr k k' 0 0 h'') .nil))).2
end

theorem seeS : ∀ (v : Val) (d n : Nat), d ≤ 1099511627776 → n ≤ 4398046511104 → ACalls Tryz.prog [] 75 [encV v, .int .i64 d, .ptr 0 0 0] [(0, cI n)] 1 fun r m _ => r = .bool true ∧ m = [(0, cI (n + 1))]
  | .mk vk vn vs ks, d, n, hd, hn => by
    refine acalls_go nnΓ Tryz.func75 rfl ?_
    ((conv => whnf); repeat ((first | refine AWp.many ?_ | refine AOps.many ?_ | refine ADr.go ?_); conv => whnf))
    exact fin_mk (n' := 1) (m' := [(0, cI (n + 1))]) [(0, 0)] rfl ⟨⟨0, _, rfl, rfl, .cons (.one rfl rfl (.w64 (by omega) ⟨by omega, by omega⟩)) .nil⟩, trivial⟩ (.same _ nn) ⟨rfl, rfl⟩

theorem seeD : ∀ (v : Val) (d n : Nat), d ≤ 1099511627776 → n ≤ 4398046511104 → ACalls Tryz.prog [] 76 [encV v, .int .i64 d, .ptr 0 0 0] [(0, cI n)] 1 fun r m _ => r = .bool true ∧ m = [(0, cI (max n d))]
  | .mk vk vn vs ks, d, n, hd, hn => by
    refine acalls_go nnΓ Tryz.func76 rfl ?_
    ((conv => whnf); repeat ((first | refine AWp.many ?_ | refine AOps.many ?_ | refine ADr.go ?_); conv => whnf))
    exact fin_mk (n' := 1) (m' := [(0, cI (max n d))]) [(0, 0)] rfl ⟨⟨0, _, rfl, rfl, .cons (.one rfl rfl (.int (by simp; omega))) .nil⟩, trivial⟩ (.same _ nn) ⟨rfl, rfl⟩

theorem vVisitS : ∀ (v : Val) (n : Nat), 1 + depthV v ≤ 1099511627776 → max n (1 + depthV v) + sizeV v ≤ 4398046511104 →
      ACalls Tryz.prog [] 69 [encV v, .fn (.func 75) [] [.ptr 0 0 0]] [(0, cI n)] 1 fun r m _ => r = .tup [] ∧ m = [(0, cI (resV (fun n _ => n + 1) v 1 n))]
  | .mk vk vn vs ks, n, hd, hb => by
    have hw := visit1S (fun n _ => n + 1) (fun n d => by omega) seeS (.mk vk vn vs ks) 1 n hd hb
    generalize resV (fun n _ => n + 1) (.mk vk vn vs ks) 1 n = res at hw
    refine acalls_go nnΓ Tryz.func69 rfl ?_
    ((conv => whnf); repeat ((first | refine AWp.many ?_ | refine AOps.many ?_ | refine ADr.go ?_); conv => whnf))
    refine ACalls.useR nnΓ [(0, 0), (2, 1), (3, 2)] hw (by rfl) (.cons (.same _ nn) (.cons (.int rfl) (.cons (.ptr 2 1 0 0 rfl) (.cons (.ptr 3 2 0 0 rfl) .nil))))
      ⟨⟨0, _, rfl, rfl, .same nns⟩, ⟨2, _, rfl, rfl, cvFn1R rfl⟩, ⟨3, _, rfl, rfl, cvFn2R rfl rfl⟩, trivial⟩ rfl ?_
    rintro r m n' ⟨rfl, rfl⟩
    refine ⟨[(0, cI res)], nn, ⟨⟨0, _, rfl, rfl, .same nns⟩, trivial⟩, rfl, ?_⟩
    ((conv => whnf); repeat ((first | refine AWp.many ?_ | refine AOps.many ?_ | refine ADr.go ?_); conv => whnf))
    exact fin_mk (n' := 1) (m' := [(0, cI res)]) [(0, 0)] rfl ⟨⟨0, _, rfl, rfl, .same nns⟩, trivial⟩ (.same _ nn) ⟨rfl, rfl⟩

theorem vSize : ∀ v : Val, sizeV v ≤ 1048576 → PureC Tryz.prog [] 30 [encV v] (.int .i64 (sizeV v))
  | .mk vk vn vs ks, hs => by
    have hd := depth_le_size (.mk vk vn vs ks)
    have hw := vVisitS (.mk vk vn vs ks) 0 (by omega) (by omega)
    rw [show resV (fun n _ => n + 1) (.mk vk vn vs ks) 1 0 = sizeV (.mk vk vn vs ks) by rw [res_size]; omega] at hw
    generalize sizeV (.mk vk vn vs ks) = res at hw
    refine acalls_go nnΓ Tryz.func30 rfl ?_
    ((conv => whnf); repeat ((first | refine AWp.many ?_ | refine AOps.many ?_ | refine ADr.go ?_); conv => whnf))
    refine ACalls.useR nnΓ [(1, 0)] hw (by rfl) (.cons (.same _ nn) (.cons (cvF1 rfl) .nil)) ⟨⟨1, _, rfl, rfl, .same nns⟩, trivial⟩ rfl ?_
    rintro r m n' ⟨rfl, rfl⟩
    refine ⟨[(1, cI res)], nn, ⟨⟨0, _, rfl, rfl, .same nns⟩, trivial⟩, rfl, ?_⟩
    ((conv => whnf); repeat ((first | refine AWp.many ?_ | refine AOps.many ?_ | refine ADr.go ?_); conv => whnf))
    exact fin_pure nn ⟨rfl, rfl, rfl⟩

theorem vVisitD : ∀ (v : Val) (n : Nat), 1 + depthV v ≤ 1099511627776 → max n (1 + depthV v) + sizeV v ≤ 4398046511104 →
      ACalls Tryz.prog [] 69 [encV v, .fn (.func 76) [] [.ptr 0 0 0]] [(0, cI n)] 1 fun r m _ => r = .tup [] ∧ m = [(0, cI (resV (fun n d => max n d) v 1 n))]
  | .mk vk vn vs ks, n, hd, hb => by
    have hw := visit1D (fun n d => max n d) (fun n d => by omega) seeD (.mk vk vn vs ks) 1 n hd hb
    generalize resV (fun n d => max n d) (.mk vk vn vs ks) 1 n = res at hw
    refine acalls_go nnΓ Tryz.func69 rfl ?_
    ((conv => whnf); repeat ((first | refine AWp.many ?_ | refine AOps.many ?_ | refine ADr.go ?_); conv => whnf))
    refine ACalls.useR nnΓ [(0, 0), (2, 1), (3, 2)] hw (by rfl) (.cons (.same _ nn) (.cons (.int rfl) (.cons (.ptr 2 1 0 0 rfl) (.cons (.ptr 3 2 0 0 rfl) .nil))))
      ⟨⟨0, _, rfl, rfl, .same nns⟩, ⟨2, _, rfl, rfl, cvFn1R rfl⟩, ⟨3, _, rfl, rfl, cvFn2R rfl rfl⟩, trivial⟩ rfl ?_
    rintro r m n' ⟨rfl, rfl⟩
    refine ⟨[(0, cI res)], nn, ⟨⟨0, _, rfl, rfl, .same nns⟩, trivial⟩, rfl, ?_⟩
    ((conv => whnf); repeat ((first | refine AWp.many ?_ | refine AOps.many ?_ | refine ADr.go ?_); conv => whnf))
    exact fin_mk (n' := 1) (m' := [(0, cI res)]) [(0, 0)] rfl ⟨⟨0, _, rfl, rfl, .same nns⟩, trivial⟩ (.same _ nn) ⟨rfl, rfl⟩

theorem vDepth : ∀ v : Val, sizeV v ≤ 1048576 → PureC Tryz.prog [] 32 [encV v] (.int .i64 (depthV v))
  | .mk vk vn vs ks, hs => by
    have hd := depth_le_size (.mk vk vn vs ks)
    have hw := vVisitD (.mk vk vn vs ks) 0 (by omega) (by omega)
    rw [show resV (fun n d => max n d) (.mk vk vn vs ks) 1 0 = depthV (.mk vk vn vs ks) by rw [res_depth]; omega] at hw
    generalize depthV (.mk vk vn vs ks) = res at hw
    refine acalls_go nnΓ Tryz.func32 rfl ?_
    ((conv => whnf); repeat ((first | refine AWp.many ?_ | refine AOps.many ?_ | refine ADr.go ?_); conv => whnf))
    refine ACalls.useR nnΓ [(1, 0)] hw (by rfl) (.cons (.same _ nn) (.cons (cvF1 rfl) .nil)) ⟨⟨1, _, rfl, rfl, .same nns⟩, trivial⟩ rfl ?_
    rintro r m n' ⟨rfl, rfl⟩
    refine ⟨[(1, cI res)], nn, ⟨⟨0, _, rfl, rfl, .same nns⟩, trivial⟩, rfl, ?_⟩
    ((conv => whnf); repeat ((first | refine AWp.many ?_ | refine AOps.many ?_ | refine ADr.go ?_); conv => whnf))
    exact fin_pure nn ⟨rfl, rfl, rfl⟩


/-! ### 'Valid' -/
abbrev VS := Nat × Bool × Bool
def vC (x : VS) : Mem := [(0, cI x.1), (1, cB x.2.1), (2, cB x.2.2)]
def wV (x : VS) : Mem := [(0, cI x.1), (1, cB x.2.1), (2, cB x.2.2), (3, cF (.fn (.func 70) [] [.ptr 0 0 0, .ptr 1 0 0, .ptr 2 0 0])), (4, cF (.fn (.func 105) [] [.ptr 3 0 0, .ptr 4 0 0]))]

theorem seeV (vk vn : Int) (vs : List UInt8) (ks : List Val) (hs : vs.length ≤ 4294967296) (d : Nat) (x : VS) (hx : x.1 ≤ 4398046511104) :
    ACalls Tryz.prog [] 70 [encV (.mk vk vn vs ks), .int .i64 d, .ptr 0 0 0, .ptr 1 0 0, .ptr 2 0 0] (vC x) 3 fun r m _ => r = .bool (stValid x (.mk vk vn vs ks) d).1 ∧ m = vC (stValid x (.mk vk vn vs ks) d).2 := by
  obtain ⟨n, g, s⟩ := x
  have h1 := vFormed vk vn vs ks hs
  have h2 := vFits vk vn vs ks
  have hst : stValid (n, g, s) (.mk vk vn vs ks) d = (g && formed1 vk vn vs ks.length, (n + 1, g && formed1 vk vn vs ks.length, s && fits1 vk ks.length)) := rfl
  generalize formed1 vk vn vs ks.length = fb at h1 hst
  generalize fits1 vk ks.length = tb at h2 hst
  rw [hst]
  simp only at hx
  refine acalls_go nnΓ Tryz.func70 rfl ?_
  cases g <;> cases s
  all_goals
    ((conv => whnf); repeat ((first | refine AWp.many ?_ | refine AOps.many ?_ | refine ADr.go ?_); conv => whnf))
    try (refine h1.go ?_; ((conv => whnf); repeat ((first | refine AWp.many ?_ | refine AOps.many ?_ | refine ADr.go ?_); conv => whnf)))
    try (refine h2.go ?_; ((conv => whnf); repeat ((first | refine AWp.many ?_ | refine AOps.many ?_ | refine ADr.go ?_); conv => whnf)))
    exact fin_mk (n' := 3) (m' := vC (n + 1, _, _)) [(0, 0), (1, 1), (2, 2)] rfl ⟨⟨0, _, rfl, rfl, .cons (.one rfl rfl (.w64 (by omega) ⟨by omega, by omega⟩)) .nil⟩, ⟨1, _, rfl, rfl, .same nns⟩, ⟨2, _, rfl, rfl, .same nns⟩, trivial⟩ (.same _ nn) ⟨rfl, rfl⟩

theorem visitV : ∀ (v : Val) (d : Nat) (x : VS), okV v → d + depthV v ≤ 1099511627776 → x.1 + sizeV v ≤ 4398046511104 →
      ACalls Tryz.prog [] 105 [encV v, .int .i64 d, .ptr 3 0 0, .ptr 4 0 0] (wV x) 5 fun r m _ => r = .bool (visS stValid v d x).1 ∧ m = wV (visS stValid v d x).2
  | .mk vk vn vs ks, d, x, hok, hd, hb => by
    simp only [okV] at hok
    obtain ⟨hv1, hv2, hv3, hv4, hv5⟩ := hok
    have ih : ∀ a ∈ ks, ∀ (d : Nat) (x : VS), d + depthV a ≤ 1099511627776 → x.1 + sizeV a ≤ 4398046511104 → ACalls Tryz.prog [] 105 [encV a, .int .i64 d, .ptr 3 0 0, .ptr 4 0 0] (wV x) 5 fun r m _ => r = .bool (visS stValid a d x).1 ∧ m = wV (visS stValid a d x).2 :=
      fun a hm d x h1 h2 => visitV a d x (okVs_mem hv5 a hm) h1 h2
    simp only [depthV, sizeV] at hd hb
    have hlen := sizeL_len ks
    have hsee := seeV vk vn vs ks hv3 d x (by omega)
    have hy1 : (stValid x (.mk vk vn vs ks) d).2.1 = x.1 + 1 := rfl
    generalize hst0 : stValid x (.mk vk vn vs ks) d = st at hsee hy1
    obtain ⟨b, y⟩ := st
    simp only at hy1
    refine acalls_go nnΓ Tryz.func105 rfl ?_
    ((conv => whnf); repeat ((first | refine AWp.many ?_ | refine AOps.many ?_ | refine ADr.go ?_); conv => whnf))
    refine ACalls.useI nnΓ [0, 1, 2] hsee (by rfl) (.cons (.same _ nn) (.cons (.same _ nn) (.cons (.ptr 0 0 0 0 rfl) (.cons (.ptr 1 1 0 0 rfl) (.cons (.ptr 2 2 0 0 rfl) .nil))))) ⟨⟨0, _, rfl, rfl, .same nns⟩, ⟨1, _, rfl, rfl, .same nns⟩, ⟨2, _, rfl, rfl, .same nns⟩, trivial⟩ rfl ?_
    rintro r m n' ⟨rfl, rfl⟩
    refine ⟨nn, ⟨⟨0, _, rfl, rfl, .same nns⟩, ⟨1, _, rfl, rfl, .same nns⟩, ⟨2, _, rfl, rfl, .same nns⟩, trivial⟩, rfl, ?_⟩
    cases b with
    | false =>
      ((conv => whnf); repeat ((first | refine AWp.many ?_ | refine AOps.many ?_ | refine ADr.go ?_); conv => whnf))
      refine fin_mk (n' := 5) (m' := wV y) [(0, 0), (1, 1), (2, 2), (3, 3), (4, 4)] rfl ⟨⟨0, _, rfl, rfl, .same nns⟩, ⟨1, _, rfl, rfl, .same nns⟩, ⟨2, _, rfl, rfl, .same nns⟩, ⟨3, _, rfl, rfl, cvFn3 rfl rfl rfl⟩, ⟨4, _, rfl, rfl, cvFn2 rfl rfl⟩, trivial⟩ (.same _ nn) ?_
      have hvis : visS stValid (.mk vk vn vs ks) d x = (false, y) := by rw [visS, hst0]
      rw [hvis]
      exact ⟨rfl, rfl⟩
    | true =>
      have hvis : visS stValid (.mk vk vn vs ks) d x = visL stValid ks (d + 1) y := by rw [visS, hst0]
      ((conv => whnf); repeat ((first | refine AWp.many ?_ | refine AOps.many ?_ | refine ADr.go ?_); conv => whnf))
      refine ALoop.at nnΓ (fun a : Nat × VS => a.1 ≤ ks.length ∧ visL stValid (ks.take a.1) (d + 1) y = (true, a.2))
        (fun a => ⟨[(1, .int .i64 d), (3, .ptr 4 0 0), (15, .il 4 (encVs ks)), (16, .int .i64 (encVs ks).length), (17, .int .i64 a.1)], wV a.2, 5, 28⟩)
        (fun a => ks.length - a.1) (0, y) [(0, 0), (1, 1), (2, 2), (3, 3), (4, 4)] ⟨by simp, rfl⟩
        (conv_mk _ rfl ⟨⟨0, _, rfl, rfl, .same nns⟩, ⟨1, _, rfl, rfl, .same nns⟩, ⟨2, _, rfl, rfl, .same nns⟩, ⟨3, _, rfl, rfl, cvFn3 rfl rfl rfl⟩, ⟨4, _, rfl, rfl, cvFn2 rfl rfl⟩, trivial⟩ ⟨⟨_, rfl, .same _ nn⟩, ⟨_, rfl, .ptr 4 4 0 0 rfl⟩, ⟨_, rfl, .same _ nn⟩, ⟨_, rfl, .same _ nn⟩, ⟨_, rfl, .same _ nn⟩, trivial⟩) ?_
      rintro ⟨k, z⟩ ⟨hk, hz⟩
      simp only at hk hz
      have hcnt := visL_cnt (ks.take k) (d + 1) y
      rw [hz] at hcnt
      simp only at hcnt
      ((conv => whnf); repeat ((first | refine AWp.many ?_ | refine AOps.many ?_ | refine ADr.go ?_); conv => whnf))
      refine bcs_mk (fun h => ?_) (fun h => ?_)
      · have hlt : k < ks.length := klt h
        obtain ⟨a, b, c, e, hm, hg', he, e1⟩ := enc_cases hlt
        have hst := sizeL_take hlt
        rw [he] at hst
        have hst' := sizeL_take_le ks (k + 1)
        have hdm := depthL_mem hm
        have hnext := visL_take stValid hlt (d + 1) y z hz
        rw [he] at hnext
        have hb2 : z.1 + sizeV (.mk a b c e) ≤ 4398046511104 := by omega
        have hih := ih _ hm (d + 1) z (by omega) hb2
        generalize visS stValid (.mk a b c e) (d + 1) z = st2 at hih hnext
        obtain ⟨b2, z2⟩ := st2
        ((conv => whnf); repeat ((first | refine AWp.many ?_ | refine AOps.many ?_ | refine ADr.go ?_); conv => whnf))
        refine opt_mk e1 ?_
        ((conv => whnf); repeat ((first | refine AWp.many ?_ | refine AOps.many ?_ | refine ADr.go ?_); conv => whnf))
        rw [w64 (x := (d : Int) + 1) (y := ((d + 1 : Nat) : Int)) (by omega) ⟨by omega, by omega⟩]
        refine ACalls.useI nnΓ [0, 1, 2, 3, 4] hih (by rfl) (.cons (.same _ nn) (.cons (.same _ nn) (.cons (.ptr 3 3 0 0 rfl) (.cons (.ptr 4 4 0 0 rfl) .nil))))
          ⟨⟨0, _, rfl, rfl, .same nns⟩, ⟨1, _, rfl, rfl, .same nns⟩, ⟨2, _, rfl, rfl, .same nns⟩, ⟨3, _, rfl, rfl, cvFn3 rfl rfl rfl⟩, ⟨4, _, rfl, rfl, cvFn2 rfl rfl⟩, trivial⟩ rfl ?_
        rintro r m n' ⟨rfl, rfl⟩
        refine ⟨nn, ⟨⟨0, _, rfl, rfl, .same nns⟩, ⟨1, _, rfl, rfl, .same nns⟩, ⟨2, _, rfl, rfl, .same nns⟩, ⟨3, _, rfl, rfl, cvFn3 rfl rfl rfl⟩, ⟨4, _, rfl, rfl, cvFn2 rfl rfl⟩, trivial⟩, rfl, ?_⟩
        cases b2 with
        | false =>
          ((conv => whnf); repeat ((first | refine AWp.many ?_ | refine AOps.many ?_ | refine ADr.go ?_); conv => whnf))
          refine fin_mk (n' := 5) (m' := wV z2) [(0, 0), (1, 1), (2, 2), (3, 3), (4, 4)] rfl ⟨⟨0, _, rfl, rfl, .same nns⟩, ⟨1, _, rfl, rfl, .same nns⟩, ⟨2, _, rfl, rfl, .same nns⟩, ⟨3, _, rfl, rfl, cvFn3 rfl rfl rfl⟩, ⟨4, _, rfl, rfl, cvFn2 rfl rfl⟩, trivial⟩ (.same _ nn) ?_
          have := visL_stop stValid (m := ks.drop (k + 1)) hnext
          rw [List.take_append_drop] at this
          rw [hvis, this]
          exact ⟨rfl, rfl⟩
        | true =>
          ((conv => whnf); repeat ((first | refine AWp.many ?_ | refine AOps.many ?_ | refine ADr.go ?_); conv => whnf))
          exact .mk (k + 1, z2) [(0, 0), (1, 1), (2, 2), (3, 3), (4, 4)] ⟨by simp only; omega, hnext⟩
            (conv_mk _ rfl ⟨⟨0, _, rfl, rfl, .same nns⟩, ⟨1, _, rfl, rfl, .same nns⟩, ⟨2, _, rfl, rfl, .same nns⟩, ⟨3, _, rfl, rfl, cvFn3 rfl rfl rfl⟩, ⟨4, _, rfl, rfl, cvFn2 rfl rfl⟩, trivial⟩ ⟨⟨_, rfl, .same _ nn⟩, ⟨_, rfl, .ptr 4 4 0 0 rfl⟩, ⟨_, rfl, .same _ nn⟩, ⟨_, rfl, .same _ nn⟩, ⟨_, rfl, .w64 (by omega) ⟨by omega, by omega⟩⟩, trivial⟩) (by simp only; omega)
      · have hk' : k = ks.length := by have := kge h; omega
        ((conv => whnf); repeat ((first | refine AWp.many ?_ | refine AOps.many ?_ | refine ADr.go ?_); conv => whnf))
        refine fin_mk (n' := 5) (m' := wV z) [(0, 0), (1, 1), (2, 2), (3, 3), (4, 4)] rfl ⟨⟨0, _, rfl, rfl, .same nns⟩, ⟨1, _, rfl, rfl, .same nns⟩, ⟨2, _, rfl, rfl, .same nns⟩, ⟨3, _, rfl, rfl, cvFn3 rfl rfl rfl⟩, ⟨4, _, rfl, rfl, cvFn2 rfl rfl⟩, trivial⟩ (.same _ nn) ?_
        rw [hk', List.take_length] at hz
        rw [hvis, hz]
        exact ⟨rfl, rfl⟩
  termination_by v => SizeOf.sizeOf v
  decreasing_by simp; have := List.sizeOf_lt_of_mem hm; omega

theorem vVisitV : ∀ (v : Val) (x : VS), okV v → 1 + depthV v ≤ 1099511627776 → x.1 + sizeV v ≤ 4398046511104 →
      ACalls Tryz.prog [] 69 [encV v, .fn (.func 70) [] [.ptr 0 0 0, .ptr 1 0 0, .ptr 2 0 0]] (vC x) 3 fun r m _ => r = .tup [] ∧ m = vC (visS stValid v 1 x).2
  | .mk vk vn vs ks, x, hok, hd, hb => by
    have hw := visitV (.mk vk vn vs ks) 1 x hok hd hb
    generalize visS stValid (.mk vk vn vs ks) 1 x = st at hw
    obtain ⟨b, y⟩ := st
    refine acalls_go nnΓ Tryz.func69 rfl ?_
    ((conv => whnf); repeat ((first | refine AWp.many ?_ | refine AOps.many ?_ | refine ADr.go ?_); conv => whnf))
    refine ACalls.useR nnΓ [(0, 0), (1, 1), (2, 2), (4, 3), (5, 4)] hw (by rfl) (.cons (.same _ nn) (.cons (.int rfl) (.cons (.ptr 4 3 0 0 rfl) (.cons (.ptr 5 4 0 0 rfl) .nil))))
      ⟨⟨0, _, rfl, rfl, .same nns⟩, ⟨1, _, rfl, rfl, .same nns⟩, ⟨2, _, rfl, rfl, .same nns⟩, ⟨4, _, rfl, rfl, cvFn3R rfl rfl rfl⟩, ⟨5, _, rfl, rfl, cvFn2R rfl rfl⟩, trivial⟩ rfl ?_
    rintro r m n' ⟨rfl, rfl⟩
    refine ⟨[(0, cI y.1), (1, cB y.2.1), (2, cB y.2.2)], nn, ⟨⟨0, _, rfl, rfl, .same nns⟩, ⟨1, _, rfl, rfl, .same nns⟩, ⟨2, _, rfl, rfl, .same nns⟩, trivial⟩, rfl, ?_⟩
    ((conv => whnf); repeat ((first | refine AWp.many ?_ | refine AOps.many ?_ | refine ADr.go ?_); conv => whnf))
    exact fin_mk (n' := 3) (m' := vC y) [(0, 0), (1, 1), (2, 2)] rfl ⟨⟨0, _, rfl, rfl, .same nns⟩, ⟨1, _, rfl, rfl, .same nns⟩, ⟨2, _, rfl, rfl, .same nns⟩, trivial⟩ (.same _ nn) ⟨rfl, rfl⟩

/-- 'values.Valid'. -/
theorem vValid : ∀ v : Val, okV v → sizeV v ≤ 1048576 → PureC Tryz.prog [] 28 [encV v] (.int .i64 (validV v))
  | .mk vk vn vs ks, hok, hs => by
    have hd := depth_le_size (.mk vk vn vs ks)
    have hw := vVisitV (.mk vk vn vs ks) (0, true, true) hok (by omega) (by simp only; omega)
    have hval := valid_vis (.mk vk vn vs ks)
    generalize validV (.mk vk vn vs ks) = res at hval
    generalize (visS stValid (.mk vk vn vs ks) 1 (0, true, true)).2 = y at hw hval
    obtain ⟨n, g, s⟩ := y
    simp only at hval
    refine acalls_go nnΓ Tryz.func28 rfl ?_
    ((conv => whnf); repeat ((first | refine AWp.many ?_ | refine AOps.many ?_ | refine ADr.go ?_); conv => whnf))
    refine ACalls.useR nnΓ [(1, 0), (2, 1), (3, 2)] hw (by rfl) (.cons (.same _ nn) (.cons (cvF3 rfl rfl rfl) .nil)) ⟨⟨1, _, rfl, rfl, .same nns⟩, ⟨2, _, rfl, rfl, .same nns⟩, ⟨3, _, rfl, rfl, .same nns⟩, trivial⟩ rfl ?_
    rintro r m n' ⟨rfl, rfl⟩
    refine ⟨[(1, cI n), (2, cB g), (3, cB s)], nn, ⟨⟨0, _, rfl, rfl, .same nns⟩, ⟨1, _, rfl, rfl, .same nns⟩, ⟨2, _, rfl, rfl, .same nns⟩, trivial⟩, rfl, ?_⟩
    cases g with
    | false =>
      ((conv => whnf); repeat ((first | refine AWp.many ?_ | refine AOps.many ?_ | refine ADr.go ?_); conv => whnf))
      refine fin_pure nn ⟨?_, rfl, rfl⟩
      rw [← hval]; rfl
    | true =>
      cases s with
      | false =>
        ((conv => whnf); repeat ((first | refine AWp.many ?_ | refine AOps.many ?_ | refine ADr.go ?_); conv => whnf))
        refine fin_pure nn ⟨?_, rfl, rfl⟩
        rw [← hval]; simp
      | true =>
        ((conv => whnf); repeat ((first | refine AWp.many ?_ | refine AOps.many ?_ | refine ADr.go ?_); conv => whnf))
        refine bcs_mk (fun h => ?_) (fun h => ?_)
        · ((conv => whnf); repeat ((first | refine AWp.many ?_ | refine AOps.many ?_ | refine ADr.go ?_); conv => whnf))
          refine fin_pure nn ⟨?_, rfl, rfl⟩
          rw [← hval, if_neg (by simp), if_pos (by simp at h; omega)]
        · ((conv => whnf); repeat ((first | refine AWp.many ?_ | refine AOps.many ?_ | refine ADr.go ?_); conv => whnf))
          refine fin_pure nn ⟨?_, rfl, rfl⟩
          rw [← hval, if_neg (by simp), if_neg (by simp at h; simp; omega)]
end Go.Proofs.YtgnkoonihkfloaaGreatDoor

namespace Go.Proofs.YtgnkoonihkfloaaGreatDoor
open Go Go.Ax Go.Proofs
set_option linter.unusedVariables false
set_option maxRecDepth 100000

/-- The block of a 'refuterref10.G'. -/
def gB (l : List Int) (at_ : Nat) : AB := .row 29 2 [.agg [.il 1 (encI l), .int .i64 at_]]

theorem gNN (l : List Int) (i : Nat) : NNs [.agg [.il 1 (encI l), .int .i64 i]] := .cons (.agg' (.cons (.il' (encI_nn l)) (.cons (.int _ _) .nil))) .nil

theorem gNext (l : List Int) (i : Nat) (most : Int) (hi : i ≤ 4611686018427387904) (hm : most ≤ 4611686018427387904) :
    ACalls Tryz.prog [] 10 [.ptr 0 0 0, .int .i64 most] [(0, gB l i)] 1 fun r m n => ∃ k : Int, r = .int .i64 k ∧ 0 ≤ k ∧ (k = 0 ∨ k < most) ∧ m = [(0, gB l (i + 1))] := by
  refine acalls_run nnΓ Tryz.func10 rfl ?_
  have hw : IntKind.i64.wrap ((i : Int) + 1) = ((i + 1 : Nat) : Int) := wrap64 ⟨by omega, by omega⟩
  have fin : ∀ (k : Int) (n : Nat), 0 ≤ k → (k = 0 ∨ k < most) → Fini 1 (fun r m _ => ∃ k : Int, r = .int .i64 k ∧ 0 ≤ k ∧ (k = 0 ∨ k < most) ∧ m = [(0, gB l (i + 1))]) (.int .i64 k) [(0, .row 29 2 [.agg [.il 1 (encI l), .int .i64 (IntKind.i64.wrap ((i : Int) + 1))]])] n := by
    intro k n h1 h2
    refine fin_mk (n' := 1) (m' := [(0, gB l (i + 1))]) [(0, 0)] rfl ⟨⟨0, _, rfl, rfl, .eq (gNN l (i + 1)) (by rw [hw])⟩, trivial⟩ (.same _ (.int _ _)) ⟨k, rfl, h1, h2, rfl⟩
  conv => whnf
  refine bcs_mk (fun h => ?_) (fun h => ?_)
  · rw [h]
    conv => whnf
    exact fin 0 _ (by omega) (.inl rfl)
  · have hlt : i < l.length := by rw [encI_length] at h; simp at h; omega
    rw [h]
    conv => whnf
    refine bcs_mk (fun h2 => ?_) (fun h2 => ?_)
    · conv => whnf
      exact fin 0 _ (by omega) (.inl rfl)
    · have h2 : 2 ≤ most := by simpa using h2
      conv => whnf
      refine opt_mk (a := .int .i64 l[i]) (by rw [Int.toNat_natCast, encI_get, List.getElem?_eq_getElem hlt]; rfl) ?_
      conv => whnf
      refine grd_mk (by rw [decide_eq_false (by omega)]; rfl) ?_
      conv => whnf
      have hr : -most < l[i].tmod most ∧ l[i].tmod most < most := by
        constructor
        · have := Int.lt_tmod_of_pos l[i] (show 0 < most by omega); omega
        · exact Int.tmod_lt_of_pos _ (by omega)
      refine bcs_mk (fun h3 => ?_) (fun h3 => ?_)
      · have h3 : l[i].tmod most < 0 := by simpa using h3
        conv => whnf
        have hw2 : IntKind.i64.wrap (l[i].tmod most + most) = l[i].tmod most + most := wrap64 ⟨by omega, by omega⟩
        rw [hw2]
        exact fin _ _ (by omega) (.inr (by omega))
      · have h3 : 0 ≤ l[i].tmod most := by simpa using h3
        conv => whnf
        exact fin _ _ h3 (.inr hr.2)

/-- 'Next', used where the generator lies in block 0. -/
theorem gNextUse {l : List Int} {i : Nat} (most : Int) (hi : i ≤ 4611686018427387904) (hm : most ≤ 4611686018427387904) (hp : 1 ≤ most) {mem : Mem} {nx : Nat} {K : AV → Mem → Nat → Prop} (hg : lk mem 0 = some (gB l i))
    (hk : ∀ k : Int, 0 ≤ k → k < most → dropK 0 mem fun rest => K (.int .i64 k) ((0, gB l (i + 1)) :: rest) nx) : ACalls Tryz.prog [] 10 [.ptr 0 0 0, .int .i64 most] mem nx K := by
  refine ACalls.use1 nnΓ (gNext l i most hi hm) 0 hg (gNN l i) (.cons (.ptr 0 0 0 0 rfl) (.cons (.same _ (.int _ _)) .nil)) ?_
  rintro r m n ⟨k, rfl, h1, h2, rfl⟩
  exact ⟨_, rfl, .int _ _, gNN l (i + 1), hk k h1 (by omega)⟩

theorem i64_wrap (n : Int) : i64 (IntKind.i64.wrap n) := by
  rw [IntKind.wrap_i64]
  exact ⟨by omega, by omega⟩

/-- What is said of 'Value'. -/
def gPost (l : List Int) (d i : Nat) : AV → Mem → Nat → Prop := fun r m _ => ∃ (v : Val) (j : Nat), r = encV v ∧ genV d v ∧ i ≤ j ∧ j ≤ i + genCost d ∧ m = [(0, gB l j)]

theorem gFin {l : List Int} {d i j : Nat} {kd n : Int} {s : List UInt8} {kv : AV} {kids : List Val} {mem : Mem} {nx : Nat} (h0 : lk mem 0 = some (gB l j)) (hkv : Cv mem [(0, 0)] kv (.il 4 (encVs kids))) (hg : genV d (.mk kd n s kids)) (h1 : i ≤ j) (h2 : j ≤ i + genCost d) :
    Fini 1 (gPost l d i) (.agg [.int .i64 kd, .int .i64 n, .str s, kv]) mem nx :=
  fin_mk (n' := 1) (m' := [(0, gB l j)]) [(0, 0)] rfl ⟨⟨0, _, rfl, h0, .same (gNN l j)⟩, trivial⟩ (.agg' (.cons (.same _ (.int _ _)) (.cons (.same _ (.int _ _)) (.cons (.same _ (.str _)) (.cons hkv .nil))))) ⟨_, j, rfl, hg, h1, h2, rfl⟩

theorem genV_leaf {d : Nat} {k n : Int} {s : List UInt8} (h : genBase k n s []) : genV d (.mk k n s []) := by
  cases d with
  | zero => exact ⟨h, rfl⟩
  | succ d => exact ⟨h, by simp, by simp⟩

/-- The state at the head of the loop over the kids. -/
def gSt (l : List Int) (d : Nat) (kd : Int) (s : List UInt8) (n : Int) (x : List Val × Nat) : St :=
  ⟨[(0, .ptr 0 0 0), (1, .int .i64 (d + 1 : Nat)), (4, .ptr 1 0 0), (6, .ptr 2 0 0), (7, .int .i64 n), (8, .int .i64 x.1.length)],
    [(0, gB l x.2), (1, .row 33 4 [.agg [.int .i64 0, .int .i64 0, .str [], .nsl]]), (2, .row 33 4 [.agg [.int .i64 kd, .int .i64 0, .str s, .sl 3 0 x.1.length]]), (3, .row 33 4 (encVs x.1))], 4, 72⟩

theorem gLoop (l : List Int) (d j0 : Nat) (hd : d < 10) (hj0 : j0 + 3 * genCost d ≤ 4611686018427387904)
    (ih : ∀ i, i + genCost d ≤ 4611686018427387904 → ACalls Tryz.prog [] 63 [.ptr 0 0 0, .int .i64 d] [(0, gB l i)] 1 (gPost l d i))
    (kd : Int) (s : List UInt8) (n : Int) (hn0 : 0 ≤ n) (hn : n < 4) (Q : Exit → St → Prop) (st : St) (σ : List (Nat × Nat)) (h0 : Conv 1 σ ⟨st.sl, (st.nx, .row 33 4 []) :: st.mem, st.nx + 1, st.nt⟩ (gSt l d kd s n ([], j0)))
    (hQ : ∀ (ks : List Val) (j : Nat), ks.length ≤ 3 → (∀ v ∈ ks, genV d v) → j0 ≤ j → j ≤ j0 + 3 * genCost d →
      Q (.exit 1) ⟨[(0, .ptr 0 0 0), (1, .int .i64 (d + 1 : Nat)), (4, .ptr 1 0 0), (6, .ptr 2 0 0), (7, .int .i64 n), (8, .int .i64 ks.length), (57, .int .i64 ks.length), (58, .int .i64 n), (59, .bool (decide ((ks.length : Int) < n)))], (gSt l d kd s n (ks, j)).mem, 4, 72⟩) :
    AWp Tryz.prog [] 1 (.loop (nthLoop Tryz.f63 0)) st Q := by
  refine AWp.ph 33 4 ?_
  refine AWp.loopAt nnΓ (fun x : List Val × Nat => (x.1.length : Int) ≤ n ∧ (∀ v ∈ x.1, genV d v) ∧ j0 ≤ x.2 ∧ x.2 ≤ j0 + x.1.length * genCost d) (gSt l d kd s n) (fun x => 4 - x.1.length) ([], j0) σ ⟨by simpa using hn0, by simp, Nat.le_refl _, by simp⟩ h0 ?_
  rintro ⟨ks, j⟩ ⟨h1, h2, h3, h4⟩
  have hc := genCost_pos d
  simp only at h1 h2 h3 h4
  have hmul : ks.length * genCost d ≤ 3 * genCost d := Nat.mul_le_mul_right _ (by omega)
  conv => whnf
  refine bcs_mk (fun h => ?_) (fun h => ?_)
  · have hlt : (ks.length : Int) < n := by simpa using h
    have hmul2 : ks.length * genCost d ≤ 2 * genCost d := Nat.mul_le_mul_right _ (by omega)
    conv => whnf
    refine ACalls.use1 nnΓ (ih j (by omega)) 0 rfl (gNN l j) (.cons (.ptr 0 0 0 0 rfl) (.cons (.eq (.int _ _) (by rw [wrap64 ⟨by omega, by omega⟩]; congr 1; omega)) .nil)) ?_
    rintro r m n' ⟨⟨vk, vn, vs, vks⟩, j', rfl, hv, g1, g2, rfl⟩
    refine ⟨_, rfl, encV_nn _, gNN l j', ?_⟩
    conv => whnf
    refine ⟨rfl, ?_⟩
    conv => whnf
    refine grd_mk (app_ok rfl rfl (by rw [encVs_length]) (by simp; omega)) ?_
    conv => whnf
    have hlen : ks.length + (List.take 1 (List.drop 0 [encV (Val.mk vk vn vs vks)])).length = (ks ++ [Val.mk vk vn vs vks]).length := by simp
    have hrow : encVs ks ++ List.take 1 (List.drop 0 [encV (Val.mk vk vn vs vks)]) = encVs (ks ++ [Val.mk vk vn vs vks]) := by simp [encVs_map]
    refine .mk (ks ++ [Val.mk vk vn vs vks], j') [(0, 0), (1, 1), (2, 2), (14, 3)] ⟨by simp; omega, fun v hm => ?_, by simp only; omega, ?_⟩
      (conv_mk _ rfl ⟨⟨0, _, rfl, rfl, .same (gNN l j')⟩, ⟨1, _, rfl, rfl, .same (.cons (.agg' (.cons (.int _ _) (.cons (.int _ _) (.cons (.str _) (.cons .nsl .nil))))) .nil)⟩,
        ⟨2, _, rfl, rfl, .cons (.agg (.cons (.same _ (.int _ _)) (.cons (.same _ (.int _ _)) (.cons (.same _ (.str _)) (.cons (.slE rfl hlen) .nil))))) .nil⟩,
        ⟨14, _, rfl, rfl, .eq (encVs_nn _) hrow⟩, trivial⟩
        ⟨⟨_, rfl, .ptr 0 0 0 0 rfl⟩, ⟨_, rfl, .same _ (.int _ _)⟩, ⟨_, rfl, .ptr 1 1 0 0 rfl⟩, ⟨_, rfl, .ptr 2 2 0 0 rfl⟩, ⟨_, rfl, .same _ (.int _ _)⟩, ⟨_, rfl, .eq (.int _ _) ?_⟩, trivial⟩) (by simp; omega)
    · rcases List.mem_append.1 hm with hm | hm
      · exact h2 v hm
      · simp at hm; rw [hm]; exact hv
    · simp only [List.length_append, List.length_singleton, Nat.add_mul]; omega
    · rw [wrap64 ⟨by simp only; omega, by simp only; omega⟩]; simp
  · conv => whnf
    exact hQ ks j (by omega) h2 h3 (by omega)

theorem gValue (l : List Int) : ∀ (d i : Nat), d ≤ 10 → i + genCost d ≤ 4611686018427387904 →
    ACalls Tryz.prog [] 63 [.ptr 0 0 0, .int .i64 d] [(0, gB l i)] 1 (gPost l d i) := by
  intro d
  induction d with
  | zero =>
    intro i _ hi
    simp only [genCost] at hi
    have hcd : genCost 0 = 6 := rfl
    refine acalls_run nnΓ Tryz.func63 rfl ?_
    conv => whnf
    refine gNextUse 7 (by omega) (by omega) (by omega) rfl fun k h1 h2 => ?_
    rcases (show (k = 0 ∨ k = 1 ∨ k = 4 ∨ k = 5) ∨ (k = 2 ∨ k = 6) ∨ k = 3 by omega) with hk | hk | rfl
    · rcases hk with rfl | rfl | rfl | rfl
      all_goals
        conv => whnf
        refine gNextUse 5 (by omega) (by omega) (by omega) rfl fun a a1 a2 => ?_
        conv => whnf
        refine gNextUse 100 (by omega) (by omega) (by omega) rfl fun b b1 b2 => ?_
        conv => whnf
        refine gNextUse 7 (by omega) (by omega) (by omega) rfl fun c c1 c2 => ?_
        rcases (show c = 0 ∨ c = 1 ∨ c = 2 ∨ c = 3 ∨ c = 4 ∨ c = 5 ∨ c = 6 by omega) with rfl | rfl | rfl | rfl | rfl | rfl | rfl
        all_goals
          conv => whnf
          refine gFin (kids := []) rfl (.nil 4) (genV_leaf (.inl ⟨rfl, ?_, rfl, rfl⟩)) (by omega) (by omega)
          first | exact ⟨by omega, by omega⟩ | exact i64_wrap _
    · rcases hk with rfl | rfl
      all_goals
        conv => whnf
        refine gNextUse 2 (by omega) (by omega) (by omega) rfl fun a a1 a2 => ?_
        conv => whnf
        exact gFin (kids := []) rfl (.nil 4) (genV_leaf (.inr (.inl ⟨rfl, by omega, rfl, rfl⟩))) (by omega) (by omega)
    · conv => whnf
      refine gNextUse 4 (by omega) (by omega) (by omega) rfl fun c c1 c2 => ?_
      rcases (show c = 0 ∨ c = 1 ∨ c = 2 ∨ c = 3 by omega) with rfl | rfl | rfl | rfl
      all_goals
        conv => whnf
        exact gFin (kids := []) rfl (.nil 4) (genV_leaf (.inr (.inr (.inr ⟨rfl, rfl, by simp [genNames]⟩)))) (by omega) (by omega)
  | succ d ih =>
    intro i hd hi
    have hc := genCost_pos d
    have hcd : genCost (d + 1) = 4 * genCost d := rfl
    refine acalls_run nnΓ Tryz.func63 rfl ?_
    conv => whnf
    refine gNextUse 7 (by omega) (by omega) (by omega) rfl fun k h1 h2 => ?_
    rcases (show (k = 0 ∨ k = 1) ∨ k = 2 ∨ k = 3 ∨ (k = 4 ∨ k = 5) ∨ k = 6 by omega) with hk | rfl | rfl | hk | rfl
    · rcases hk with rfl | rfl
      all_goals
        conv => whnf
        refine gNextUse 5 (by omega) (by omega) (by omega) rfl fun a a1 a2 => ?_
        conv => whnf
        refine gNextUse 100 (by omega) (by omega) (by omega) rfl fun b b1 b2 => ?_
        conv => whnf
        refine gNextUse 7 (by omega) (by omega) (by omega) rfl fun c c1 c2 => ?_
        rcases (show c = 0 ∨ c = 1 ∨ c = 2 ∨ c = 3 ∨ c = 4 ∨ c = 5 ∨ c = 6 by omega) with rfl | rfl | rfl | rfl | rfl | rfl | rfl
        all_goals
          conv => whnf
          refine gFin (kids := []) rfl (.nil 4) (genV_leaf (.inl ⟨rfl, ?_, rfl, rfl⟩)) (by omega) (by omega)
          first | exact ⟨by omega, by omega⟩ | exact i64_wrap _
    · conv => whnf
      refine gNextUse 2 (by omega) (by omega) (by omega) rfl fun a a1 a2 => ?_
      conv => whnf
      exact gFin (kids := []) rfl (.nil 4) (genV_leaf (.inr (.inl ⟨rfl, by omega, rfl, rfl⟩))) (by omega) (by omega)
    · conv => whnf
      refine gNextUse 4 (by omega) (by omega) (by omega) rfl fun c c1 c2 => ?_
      rcases (show c = 0 ∨ c = 1 ∨ c = 2 ∨ c = 3 by omega) with rfl | rfl | rfl | rfl
      all_goals
        conv => whnf
        exact gFin (kids := []) rfl (.nil 4) (genV_leaf (.inr (.inr (.inr ⟨rfl, rfl, by simp [genNames]⟩)))) (by omega) (by omega)
    · rcases hk with rfl | rfl
      all_goals
        conv => whnf
        refine gNextUse 4 (by omega) (by omega) (by omega) rfl fun c c1 c2 => ?_
        conv => whnf
        refine gLoop l d (i + 1 + 1) (by omega) (by omega) (fun i' h => ih i' (by omega) h) 2 [] c c1 c2 _ _ [(0, 0), (1, 1), (2, 2), (3, 3)]
          (conv_mk _ rfl ⟨⟨0, _, rfl, rfl, .same (gNN l _)⟩, ⟨1, _, rfl, rfl, .same (.cons (.agg' (.cons (.int _ _) (.cons (.int _ _) (.cons (.str _) (.cons .nsl .nil))))) .nil)⟩,
            ⟨2, _, rfl, rfl, .cons (.agg (.cons (.same _ (.int _ _)) (.cons (.same _ (.int _ _)) (.cons (.same _ (.str _)) (.cons (.nslk 3 3 _ rfl rfl) .nil))))) .nil⟩,
            ⟨3, _, rfl, rfl, .nil⟩, trivial⟩
            ⟨⟨_, rfl, .ptr 0 0 0 0 rfl⟩, ⟨_, rfl, .same _ (.int _ _)⟩, ⟨_, rfl, .ptr 1 1 0 0 rfl⟩, ⟨_, rfl, .ptr 2 2 0 0 rfl⟩, ⟨_, rfl, .same _ (.int _ _)⟩, ⟨_, rfl, .same _ (.int _ _)⟩, trivial⟩) ?_
        intro ks j g1 g2 g3 g4
        conv => whnf
        exact gFin rfl (.fz' (by rfl) rfl (by simp [encVs_length]) (by simp [← encVs_length]) (encVs_nn ks)) ⟨.inr (.inr (.inl ⟨rfl, rfl, rfl⟩)), g1, g2⟩ (by omega) (by omega)
    · conv => whnf
      refine gNextUse 3 (by omega) (by omega) (by omega) rfl fun e e1 e2 => ?_
      rcases (show e = 0 ∨ e = 1 ∨ e = 2 by omega) with rfl | rfl | rfl
      all_goals
        conv => whnf
        refine gNextUse 4 (by omega) (by omega) (by omega) rfl fun c c1 c2 => ?_
        conv => whnf
        refine gLoop l d (i + 1 + 1 + 1) (by omega) (by omega) (fun i' h => ih i' (by omega) h) 3 _ c c1 c2 _ _ [(0, 0), (1, 1), (2, 2), (4, 3)]
          (conv_mk _ rfl ⟨⟨0, _, rfl, rfl, .same (gNN l _)⟩, ⟨1, _, rfl, rfl, .same (.cons (.agg' (.cons (.int _ _) (.cons (.int _ _) (.cons (.str _) (.cons .nsl .nil))))) .nil)⟩,
            ⟨2, _, rfl, rfl, .cons (.agg (.cons (.same _ (.int _ _)) (.cons (.same _ (.int _ _)) (.cons (.same _ (.str _)) (.cons (.nslk 4 3 _ rfl rfl) .nil))))) .nil⟩,
            ⟨4, _, rfl, rfl, .nil⟩, trivial⟩
            ⟨⟨_, rfl, .ptr 0 0 0 0 rfl⟩, ⟨_, rfl, .same _ (.int _ _)⟩, ⟨_, rfl, .ptr 1 1 0 0 rfl⟩, ⟨_, rfl, .ptr 2 2 0 0 rfl⟩, ⟨_, rfl, .same _ (.int _ _)⟩, ⟨_, rfl, .same _ (.int _ _)⟩, trivial⟩) ?_
        intro ks j g1 g2 g3 g4
        conv => whnf
        exact gFin rfl (.fz' (by rfl) rfl (by simp [encVs_length]) (by simp [← encVs_length]) (encVs_nn ks)) ⟨.inr (.inr (.inr ⟨rfl, rfl, by simp [genNames]⟩)), g1, g2⟩ (by omega) (by omega)
end Go.Proofs.YtgnkoonihkfloaaGreatDoor

namespace Go.Proofs.YtgnkoonihkfloaaGreatDoor
open Go Go.Ax Go.Proofs
set_option linter.unusedVariables false
set_option maxRecDepth 100000
set_option maxHeartbeats 4000000

/-- 'refuterref10.Many'. -/
theorem rMany (n : Nat) (hn : n ≤ 1000) : PureC Tryz.prog [] 68 [.int .i64 n] (.il 4 (encVs (manyV n))) := by
  refine acalls_run nnΓ Tryz.func68 rfl ?_
  conv => whnf
  refine AWp.ph 33 4 ?_
  refine AWp.loopAt nnΓ (fun k : Nat => k ≤ n)
    (fun k => ⟨[(0, .int .i64 n), (3, .sl 0 0 (manyV k).length), (4, .int .i64 k)], [(0, .row 33 4 (encVs (manyV k)))], 1, 17⟩)
    (fun k => n - k) 0 [(0, 0)] (by simp)
    (conv_mk _ rfl ⟨⟨0, _, rfl, rfl, .nil⟩, trivial⟩ ⟨⟨_, rfl, .same _ nn⟩, ⟨_, rfl, .nslk 0 0 _ rfl rfl⟩, ⟨_, rfl, .same _ nn⟩, trivial⟩) ?_
  intro k hk
  have hlen := manyV_length k
  conv => whnf
  refine bcs_mk (fun h => ?_) (fun h => ?_)
  · have hlt : k < n := by simpa using h
    conv => whnf
    refine grd_mk (app_ok rfl rfl (by rw [encVs_length]) (by simp; omega)) ?_
    conv => whnf
    exact .mk (k + 1) [(2, 0)] (by omega) (conv_mk _ rfl ⟨⟨2, _, rfl, rfl, by rw [manyV_succ, encVs_snoc]; exact .snoc rfl (.same nns) (cvVal _ _ _)⟩, trivial⟩ ⟨⟨_, rfl, .same _ nn⟩, ⟨_, rfl, .slE rfl (by rw [manyV_succ]; simp)⟩, ⟨_, rfl, .w64 (by omega) ⟨by omega, by omega⟩⟩, trivial⟩) (by omega)
  · have hk' : k = n := by simp at h; omega
    subst hk'
    conv => whnf
    exact fin_cv (.fz' rfl rfl (by rw [encVs_length]; omega) (by rw [← encVs_length]; simp) nns) ⟨rfl, rfl, rfl⟩

/-- 'Next', used where the generator lies in a block. -/
theorem gNextAt (g : Nat) {l : List Int} {i : Nat} (most : Int) (hi : i ≤ 4611686018427387904) (hm : most ≤ 4611686018427387904) (hp : 1 ≤ most) {mem : Mem} {nx : Nat} {K : AV → Mem → Nat → Prop} (hg : lk mem g = some (gB l i))
    (hk : ∀ k : Int, 0 ≤ k → k < most → dropK g mem fun rest => K (.int .i64 k) ((g, gB l (i + 1)) :: rest) nx) : ACalls Tryz.prog [] 10 [.ptr g 0 0, .int .i64 most] mem nx K := by
  refine ACalls.use1 nnΓ (gNext l i most hi hm) g hg (gNN l i) (.cons (.ptr g 0 0 0 (by simp [lk])) (.cons (.same _ (.int _ _)) .nil)) ?_
  rintro r m n ⟨k, rfl, h1, h2, rfl⟩
  exact ⟨_, rfl, .int _ _, gNN l (i + 1), hk k h1 (by omega)⟩

/-- What is said of 'Bent'. -/
def bentQ (v : Val) : AV → Mem → Nat → Prop := fun r m n => ∃ v', r = encV v' ∧ okV v' ∧ sizeV v' ≤ sizeV v + 2000 ∧ m = [] ∧ n = 0

theorem bentF {v : Val} {r : AV} {m : Mem} {n : Nat} (v' : Val) (h : Cv m [] r (encV v')) (h1 : okV v') (h2 : sizeV v' ≤ sizeV v + 2000) : Fini 0 (bentQ v) r m n :=
  fin_cv h ⟨v', rfl, h1, h2, rfl, rfl⟩

theorem rBent : ∀ (v : Val) (which by_ : Int), okV v → sizeV v ≤ 1000000 → i64 by_ → ACalls Tryz.prog [] 27 [encV v, .int .i64 which, .int .i64 by_] [] 0 (bentQ v)
  | .mk vk vn vs ks, which, by_, hv, hsz, hb => by
    have hv0 := hv
    simp only [okV] at hv
    obtain ⟨hv1, hv2, hv3, hv4, hv5⟩ := hv
    have hl := sizeL_len ks
    have hsz' : sizeL ks + 1 ≤ 1000000 := by simp only [sizeV] at hsz; omega
    have ih : ∀ a ∈ ks, ∀ which, ACalls Tryz.prog [] 27 [encV a, .int .i64 which, .int .i64 by_] [] 0 (bentQ a) := fun a hm which => rBent a which by_ (okVs_mem hv5 a hm) (by have := sizeV_mem hm; omega) hb
    refine acalls_run nnΓ Tryz.func27 rfl ?_
    conv => whnf
    refine bcs_mk (fun h => ?_) (fun h => ?_)
    case' refine_1 =>
      have hpos : 0 < ks.length := by rw [encVs_length] at h; simpa using h
      rw [h]
      conv => whnf
      refine ACalls.pre nnΓ [(3, 3), (1, 1), (0, 0)] (mem' := [(3, gB [which, IntKind.i64.wrap (which.tdiv 7), IntKind.i64.wrap (which.tdiv 49)] 0), (1, .row 33 4 [.agg [.int .i64 0, .int .i64 0, .str [], .nsl]]), (0, .row 33 4 [encV (.mk vk vn vs ks)])]) rfl
        ⟨⟨3, _, rfl, rfl, .cons (.agg (.cons (.fz' rfl rfl (by simp) rfl nns) (.cons (.int rfl) .nil))) .nil⟩, ⟨1, _, rfl, rfl, .same nns⟩, ⟨0, _, rfl, rfl, .same nns⟩, trivial⟩ (.cons (.ptr 3 3 0 0 rfl) (.cons (.same _ nn) .nil)) ?_
      refine gNextAt 3 2 (by omega) (by omega) (by omega) rfl fun k h1 h2 => ?_
      conv => whnf
      refine bcs_mk (fun hk => ?_) (fun hk => ?_)
      · conv => whnf
        refine gNextAt 3 _ (by omega) (by rw [encVs_length]; omega) (by rw [encVs_length]; omega) rfl fun j j1 j2 => ?_
        obtain ⟨q, rfl⟩ := Int.eq_ofNat_of_zero_le j1
        have hq : q < ks.length := by rw [encVs_length] at j2; omega
        obtain ⟨a, b, c, d, hm, hg, he, e1⟩ := enc_cases hq
        have hb1 : Nat.blt (q : Int).toNat (encVs ks).length = true := Nat.ble_eq_true_of_le (by rw [encVs_length]; simp; omega)
        have e2 : (encVs ks)[0 + (q : Int).toNat]? = some (encV (.mk a b c d)) := by rw [Nat.zero_add]; exact e1
        conv => whnf
        refine grd_mk (app_nil rfl (by rw [encVs_length]; omega)) ?_
        conv => whnf
        refine grd_mk hb1 ?_
        conv => whnf
        refine opt_mk e2 ?_
        conv => whnf
        refine opt_mk e2 ?_
        conv => whnf
        refine ACalls.go0 (ih _ hm _) ?_
        rintro r m n ⟨⟨a', b', c', d'⟩, rfl, o1, o2, rfl, rfl⟩
        refine ⟨_, .same _ nn, ?_⟩
        conv => whnf
        refine grd_mk hb1 ?_
        conv => whnf
        refine opt_mk e2 ?_
        conv => whnf
        refine opt_mk e2 ?_
        conv => whnf
        refine setK_iff.2 ?_
        conv => whnf
        have hset := sizeL_set (.mk a' b' c' d') hq
        rw [he] at hset
        refine bentF (.mk vk vn vs (ks.set q (.mk a' b' c' d'))) (.agg' (.cons (.same _ nn) (.cons (.same _ nn) (.cons (.same _ nn) (.cons (.fzR rfl rfl (.eq nns ?_) ?_) .nil)))))
          (okV_list hv1 hv2 hv3 (by simpa using hv4) (okVs_set hv5 o1)) (by simp only [sizeV] at hset o2 ⊢; omega)
        · rw [encVs_set, Nat.zero_add, Int.toNat_natCast]; rfl
        · simp [encVs_length]
      conv => whnf
      refine gNextAt 3 7 (by omega) (by omega) (by omega) rfl fun k7 h3 h4 => ?_
    case' refine_2 =>
      rw [h]
      conv => whnf
      refine ACalls.pre nnΓ [(3, 3), (1, 1), (0, 0)] (mem' := [(3, gB [which, IntKind.i64.wrap (which.tdiv 7), IntKind.i64.wrap (which.tdiv 49)] 0), (1, .row 33 4 [.agg [.int .i64 0, .int .i64 0, .str [], .nsl]]), (0, .row 33 4 [encV (.mk vk vn vs ks)])]) rfl
        ⟨⟨3, _, rfl, rfl, .cons (.agg (.cons (.fz' rfl rfl (by simp) rfl nns) (.cons (.int rfl) .nil))) .nil⟩, ⟨1, _, rfl, rfl, .same nns⟩, ⟨0, _, rfl, rfl, .same nns⟩, trivial⟩ (.cons (.ptr 3 3 0 0 rfl) (.cons (.same _ nn) .nil)) ?_
      refine gNextAt 3 7 (by omega) (by omega) (by omega) rfl fun k7 h3 h4 => ?_
    all_goals
      rcases (show k7 = 0 ∨ k7 = 1 ∨ k7 = 2 ∨ k7 = 3 ∨ k7 = 4 ∨ k7 = 5 ∨ k7 = 6 by omega) with rfl | rfl | rfl | rfl | rfl | rfl | rfl
      · conv => whnf
        exact bentF (.mk by_ vn vs ks) (.same _ nn) (okV_list hb hv2 hv3 hv4 hv5) (by simp only [sizeV]; omega)
      · conv => whnf
        exact bentF (.mk vk by_ vs ks) (.same _ nn) (okV_list hv1 hb hv3 hv4 hv5) (by simp only [sizeV]; omega)
      · conv => whnf
        refine ACalls.pre nnΓ [(6, 6), (4, 4), (1, 1), (0, 0)] (mem' := [(6, gB [by_] 0), (4, .row 9 1 [.str [], .str [97], .str [90], .str [65, 66, 67, 68, 69, 70, 71, 72, 73, 74, 75, 76, 77, 78, 79, 80], .str [65, 66, 67, 68, 69, 70, 71, 72, 73, 74, 75, 76, 77, 78, 79, 80, 81], .str [65, 45], .str [65, 98, 57, 95]]), (1, .row 33 4 [.agg [.int .i64 0, .int .i64 0, .str [], .nsl]]), (0, .row 33 4 [encV (.mk vk vn vs ks)])]) rfl
          ⟨⟨6, _, rfl, rfl, .cons (.agg (.cons (.fz' rfl rfl (by simp) rfl nns) (.cons (.int rfl) .nil))) .nil⟩, ⟨4, _, rfl, rfl, .same nns⟩, ⟨1, _, rfl, rfl, .same nns⟩, ⟨0, _, rfl, rfl, .same nns⟩, trivial⟩ (.cons (.ptr 6 6 0 0 rfl) (.cons (.same _ nn) .nil)) ?_
        refine gNextAt 6 7 (by omega) (by omega) (by omega) rfl fun s s1 s2 => ?_
        rcases (show s = 0 ∨ s = 1 ∨ s = 2 ∨ s = 3 ∨ s = 4 ∨ s = 5 ∨ s = 6 by omega) with rfl | rfl | rfl | rfl | rfl | rfl | rfl
        all_goals
          conv => whnf
          exact bentF (.mk vk vn _ ks) (.same _ nn) (okV_list hv1 hv2 (by simp) hv4 hv5) (by simp only [sizeV]; omega)
      · conv => whnf
        refine grd_mk (app_ok rfl rfl (by simp) (by rw [encVs_length]; omega)) ?_
        conv => whnf
        refine bentF (.mk vk vn vs (.mk 0 by_ [] [] :: ks)) (.agg' (.cons (.same _ nn) (.cons (.same _ nn) (.cons (.same _ nn) (.cons (.fzR rfl rfl (.cons (cvVal _ _ _) (.same nns)) ?_) .nil))))) (okV_list hv1 hv2 hv3 (by simp; omega) ⟨okV_leaf ⟨by omega, by omega⟩ hb, hv5⟩) (by simp only [sizeV, sizeL]; omega)
        simp [encVs_length]; omega
      · conv => whnf
        refine ACalls.pre nnΓ [(5, 5), (1, 1), (0, 0)] (mem' := [(5, gB [by_] 0), (1, .row 33 4 [.agg [.int .i64 0, .int .i64 0, .str [], .nsl]]), (0, .row 33 4 [encV (.mk vk vn vs ks)])]) rfl
          ⟨⟨5, _, rfl, rfl, .cons (.agg (.cons (.fz' rfl rfl (by simp) rfl nns) (.cons (.int rfl) .nil))) .nil⟩, ⟨1, _, rfl, rfl, .same nns⟩, ⟨0, _, rfl, rfl, .same nns⟩, trivial⟩ (.cons (.ptr 5 5 0 0 rfl) (.cons (.same _ nn) .nil)) ?_
        refine gNextAt 5 6 (by omega) (by omega) (by omega) rfl fun s s1 s2 => ?_
        conv => whnf
        have hw : IntKind.i64.wrap (253 + s) = ((253 + s.toNat : Nat) : Int) := w64 (by omega) ⟨by omega, by omega⟩
        rw [hw]
        refine (rMany (253 + s.toNat) (by omega)).go ?_
        conv => whnf
        exact bentF (.mk 2 0 [] (manyV (253 + s.toNat))) (.same _ nn) (okV_list ⟨by omega, by omega⟩ ⟨by omega, by omega⟩ (by simp) (by rw [manyV_length]; omega) (manyV_ok _)) (by simp only [sizeV, manyV_size]; omega)
      · conv => whnf
        refine ACalls.pre nnΓ [(5, 5), (1, 1), (0, 0)] (mem' := [(5, gB [by_] 0), (1, .row 33 4 [.agg [.int .i64 0, .int .i64 0, .str [], .nsl]]), (0, .row 33 4 [encV (.mk vk vn vs ks)])]) rfl
          ⟨⟨5, _, rfl, rfl, .cons (.agg (.cons (.fz' rfl rfl (by simp) rfl nns) (.cons (.int rfl) .nil))) .nil⟩, ⟨1, _, rfl, rfl, .same nns⟩, ⟨0, _, rfl, rfl, .same nns⟩, trivial⟩ (.cons (.ptr 5 5 0 0 rfl) (.cons (.same _ nn) .nil)) ?_
        refine gNextAt 5 5 (by omega) (by omega) (by omega) rfl fun s s1 s2 => ?_
        conv => whnf
        have hw : IntKind.i64.wrap (14 + s) = ((14 + s.toNat : Nat) : Int) := w64 (by omega) ⟨by omega, by omega⟩
        rw [hw]
        refine (rMany (14 + s.toNat) (by omega)).go ?_
        conv => whnf
        exact bentF (.mk 3 0 [77] (manyV (14 + s.toNat))) (.same _ nn) (okV_list ⟨by omega, by omega⟩ ⟨by omega, by omega⟩ (by simp) (by rw [manyV_length]; omega) (manyV_ok _)) (by simp only [sizeV, manyV_size]; omega)
      · conv => whnf
        refine (rMany 250 (by omega)).go ?_
        conv => whnf
        refine (rMany 255 (by omega)).go ?_
        conv => whnf
        refine (rMany 256 (by omega)).go ?_
        conv => whnf
        refine ACalls.pre nnΓ [(5, 5), (1, 1), (0, 0)] (mem' := [(5, gB [by_] 0), (1, .row 33 4 [.agg [.int .i64 0, .int .i64 0, .str [], .nsl]]), (0, .row 33 4 [encV (.mk vk vn vs ks)])]) rfl
          ⟨⟨5, _, rfl, rfl, .cons (.agg (.cons (.fz' rfl rfl (by simp) rfl nns) (.cons (.int rfl) .nil))) .nil⟩, ⟨1, _, rfl, rfl, .same nns⟩, ⟨0, _, rfl, rfl, .same nns⟩, trivial⟩ (.cons (.ptr 5 5 0 0 rfl) (.cons (.same _ nn) .nil)) ?_
        refine gNextAt 5 5 (by omega) (by omega) (by omega) rfl fun s s1 s2 => ?_
        conv => whnf
        have hw : IntKind.i64.wrap (252 + s) = ((252 + s.toNat : Nat) : Int) := w64 (by omega) ⟨by omega, by omega⟩
        rw [hw]
        refine (rMany (252 + s.toNat) (by omega)).go ?_
        conv => whnf
        refine bentF (.mk 2 0 [] [.mk 2 0 [] (manyV 250), .mk 2 0 [] (manyV 255), .mk 2 0 [] (manyV 256), .mk 2 0 [] (manyV (252 + s.toNat)), .mk 0 by_ [] [], .mk 0 1 [] []])
          (.agg' (.cons (.same _ nn) (.cons (.same _ nn) (.cons (.same _ nn) (.cons (.fzR rfl rfl (.cons (CvE.same (x := encV (.mk 2 0 [] (manyV 250))) nn) (.cons (CvE.same (x := encV (.mk 2 0 [] (manyV 255))) nn) (.cons (CvE.same (x := encV (.mk 2 0 [] (manyV 256))) nn) (.cons (CvE.same (x := encV (.mk 2 0 [] (manyV (252 + s.toNat)))) nn) (.cons (cvVal _ _ _) (.cons (cvVal _ _ _) .nil)))))) rfl) .nil)))))
          ?_ (by simp only [sizeV, sizeL, manyV_size]; omega)
        have hz : i64 0 := ⟨by omega, by omega⟩
        have h2 : i64 2 := ⟨by omega, by omega⟩
        have hmany : ∀ n : Nat, n ≤ 4294967296 → okV (.mk 2 0 [] (manyV n)) := fun n hn => okV_list h2 hz (by simp) (by rw [manyV_length]; omega) (manyV_ok _)
        exact okV_list h2 hz (by simp) (by simp) ⟨hmany _ (by omega), hmany _ (by omega), hmany _ (by omega), hmany _ (by omega), okV_leaf hz hb, okV_leaf hz ⟨by omega, by omega⟩, trivial⟩
  termination_by v => SizeOf.sizeOf v
  decreasing_by simp; have := List.sizeOf_lt_of_mem hm; omega

/-- 'refuterlaw10.some'. -/
theorem rSome (l : List Int) (bent by_ : Int) (hb : i64 by_) : ACalls Tryz.prog [] 23 [.il 1 (encI l), .int .i64 bent, .int .i64 by_] [] 0 fun r m n => ∃ v', r = encV v' ∧ okV v' ∧ sizeV v' ≤ 10000 ∧ (bent ≤ 0 → genV 3 v') ∧ m = [] ∧ n = 0 := by
  refine acalls_run nnΓ Tryz.func23 rfl ?_
  conv => whnf
  refine ACalls.use1 nnΓ (gValue l 3 0 (by omega) (by decide)) 1 rfl (gNN l 0) (.cons (.ptr 1 0 0 0 rfl) (.cons (.same _ nn) .nil)) ?_
  rintro r m n ⟨⟨a, b, c, d⟩, j, rfl, hv, g1, g2, rfl⟩
  have hok := genV_ok hv
  have hsz := genV_size hv
  refine ⟨_, rfl, nn, gNN l j, ?_⟩
  conv => whnf
  refine bcs_mk (fun h => ?_) (fun h => ?_)
  · have h : 0 < bent := by simpa using h
    conv => whnf
    refine ACalls.go0 (rBent (.mk a b c d) bent by_ hok (by omega) hb) ?_
    rintro r m n ⟨⟨a', b', c', d'⟩, rfl, o1, o2, rfl, rfl⟩
    refine ⟨_, .same _ nn, ?_⟩
    conv => whnf
    exact fin_pure nn ⟨_, rfl, o1, by omega, fun h' => by omega, rfl, rfl⟩
  · conv => whnf
    exact fin_pure nn ⟨_, rfl, hok, by omega, fun _ => hv, rfl, rfl⟩
end Go.Proofs.YtgnkoonihkfloaaGreatDoor

namespace Go.Proofs.YtgnkoonihkfloaaGreatDoor
open Go Go.Ax Go.Proofs
set_option linter.unusedVariables false
set_option maxRecDepth 1000000
def saysTrue (r : AV) : Prop := match r with | .bool b => (match b with | true => True | false => False) | _ => False
theorem saysTrue_eq {r : AV} (h : saysTrue r) : r = .bool true := by
  unfold saysTrue at h
  split at h
  · split at h
    · rfl
    · exact h.elim
  · exact h.elim
/-- The variables that are read: 'strconv.ErrSyntax'. -/
def gz : List (Nat × AV) := [(0, .ifc 215 (.ip (.agg [])))]
theorem lives10 : ((fdeep Tryz.prog gz 60).call 26 [] [] 0 fun r _ _ => saysTrue r) = True := by kernel_rfl
end Go.Proofs.YtgnkoonihkfloaaGreatDoor

namespace Go.Proofs.YtgnkoonihkfloaaGreatDoor
open Go Go.Ax Go.Proofs
set_option linter.unusedVariables false
set_option maxRecDepth 100000
set_option maxHeartbeats 4000000

theorem nngz : ∀ p ∈ gz, NN p.2 := fun p hp => by
  simp [gz] at hp
  subst hp
  exact nn

theorem lawValidW (l : List Int) (bent by_ twice : Int) (_ : ∀ x ∈ l, i64 x) (_ : i64 bent) (hb : i64 by_) (_ : i64 twice) : PureC Tryz.prog gz 6 [.il 1 (encI l), .int .i64 bent, .int .i64 by_, .int .i64 twice] (.bool true) := by
  refine acalls_go nngz Tryz.func6 rfl ?_
  have h0 : i64 0 := ⟨by omega, by omega⟩
  ((conv => whnf); repeat ((first | refine AWp.many ?_ | refine AOps.many ?_ | refine ADr.go ?_); conv => whnf))
  refine ACalls.goG0 (rSome l 0 0 h0) ?_
  rintro r m' n' ⟨⟨a1, a2, a3, a4⟩, rfl, oa, sa, -, rfl, rfl⟩
  refine ⟨_, .same _ nn, ?_⟩
  ((conv => whnf); repeat ((first | refine AWp.many ?_ | refine AOps.many ?_ | refine ADr.go ?_); conv => whnf))
  refine ACalls.goG0 (rSome l bent by_ hb) ?_
  rintro r m' n' ⟨⟨b1, b2, b3, b4⟩, rfl, ob, sb, -, rfl, rfl⟩
  refine ⟨_, .same _ nn, ?_⟩
  ((conv => whnf); repeat ((first | refine AWp.many ?_ | refine AOps.many ?_ | refine ADr.go ?_); conv => whnf))
  refine ACalls.goG0 (rSome l bent by_ hb) ?_
  rintro r m' n' ⟨⟨c1, c2, c3, c4⟩, rfl, oc, sc, -, rfl, rfl⟩
  refine ⟨_, .same _ nn, ?_⟩
  ((conv => whnf); repeat ((first | refine AWp.many ?_ | refine AOps.many ?_ | refine ADr.go ?_); conv => whnf))
  refine ACalls.goG0 (rBent (.mk c1 c2 c3 c4) twice _ oc (by omega) (i64_wrap _)) ?_
  rintro r m' n' ⟨⟨d1, d2, d3, d4⟩, rfl, od, sd, rfl, rfl⟩
  refine ⟨_, .same _ nn, ?_⟩
  ((conv => whnf); repeat ((first | refine AWp.many ?_ | refine AOps.many ?_ | refine ADr.go ?_); conv => whnf))
  obtain ⟨vs, hvs⟩ : ∃ vs, vs = [Val.mk a1 a2 a3 a4, Val.mk b1 b2 b3 b4, Val.mk d1 d2 d3 d4] := ⟨_, rfl⟩
  have hl3 : vs.length = 3 := by rw [hvs]; rfl
  have hok : ∀ v ∈ vs, okV v ∧ sizeV v ≤ 1048576 := by
    intro v hv
    rw [hvs] at hv
    simp only [List.mem_cons, List.not_mem_nil, or_false] at hv
    rcases hv with rfl | rfl | rfl
    · exact ⟨oa, by omega⟩
    · exact ⟨ob, by omega⟩
    · exact ⟨od, by omega⟩
  refine ALoop.at nngz (fun i : Nat => i ≤ 3) (fun i => ⟨[(9, .sl 0 0 3), (10, .int .i64 i)], [(0, .row 33 4 (encVs vs))], 1, 68⟩) (fun i => 3 - i) 0 [(0, 0)] (by simp)
    (conv_mk _ rfl ⟨⟨0, _, rfl, rfl, .eq nns (by rw [hvs]; rfl)⟩, trivial⟩ ⟨⟨_, rfl, .sl 0 0 0 3 rfl⟩, ⟨_, rfl, .same _ nn⟩, trivial⟩) ?_
  clear hvs oa ob oc od sa sb sc sd
  intro i hi
  ((conv => whnf); repeat ((first | refine AWp.many ?_ | refine AOps.many ?_ | refine ADr.go ?_); conv => whnf))
  refine bcs_mk (fun h => ?_) (fun h => ?_)
  · have hi3 : i < 3 := by simp at h; omega
    obtain ⟨x1, x2, x3, x4, xm, xg, -, ex, bx⟩ := enc_own (l := vs) (k := i) (n := 3) (by omega) hl3
    obtain ⟨ok1, ok2⟩ := hok _ xm
    have hV1 := vValid (.mk x1 x2 x3 x4) ok1 ok2
    have hV2 := rValid (.mk x1 x2 x3 x4) ok1 (by omega)
    have hV3 := vSize (.mk x1 x2 x3 x4) ok2
    have hV4 := rSize (.mk x1 x2 x3 x4) (by omega)
    have hV5 := vDepth (.mk x1 x2 x3 x4) ok2
    have hV6 := rDepth (.mk x1 x2 x3 x4) (by omega)
    generalize validV (.mk x1 x2 x3 x4) = e1 at hV1 hV2
    generalize sizeV (.mk x1 x2 x3 x4) = e2 at hV3 hV4
    generalize depthV (.mk x1 x2 x3 x4) = e3 at hV5 hV6
    ((conv => whnf); repeat ((first | refine AWp.many ?_ | refine AOps.many ?_ | refine ADr.go ?_); conv => whnf))
    repeat (first | (refine grd_mk bx ?_; ((conv => whnf); repeat ((first | refine AWp.many ?_ | refine AOps.many ?_ | refine ADr.go ?_); conv => whnf))) | (refine opt_mk ex ?_; ((conv => whnf); repeat ((first | refine AWp.many ?_ | refine AOps.many ?_ | refine ADr.go ?_); conv => whnf))) | (refine ⟨rfl, ?_⟩; ((conv => whnf); repeat ((first | refine AWp.many ?_ | refine AOps.many ?_ | refine ADr.go ?_); conv => whnf))))
    refine hV1.goG ?_
    ((conv => whnf); repeat ((first | refine AWp.many ?_ | refine AOps.many ?_ | refine ADr.go ?_); conv => whnf))
    repeat (first | (refine grd_mk bx ?_; ((conv => whnf); repeat ((first | refine AWp.many ?_ | refine AOps.many ?_ | refine ADr.go ?_); conv => whnf))) | (refine opt_mk ex ?_; ((conv => whnf); repeat ((first | refine AWp.many ?_ | refine AOps.many ?_ | refine ADr.go ?_); conv => whnf))) | (refine ⟨rfl, ?_⟩; ((conv => whnf); repeat ((first | refine AWp.many ?_ | refine AOps.many ?_ | refine ADr.go ?_); conv => whnf))))
    refine hV2.goG ?_
    ((conv => whnf); repeat ((first | refine AWp.many ?_ | refine AOps.many ?_ | refine ADr.go ?_); conv => whnf))
    rw [ne_self']
    ((conv => whnf); repeat ((first | refine AWp.many ?_ | refine AOps.many ?_ | refine ADr.go ?_); conv => whnf))
    repeat (first | (refine grd_mk bx ?_; ((conv => whnf); repeat ((first | refine AWp.many ?_ | refine AOps.many ?_ | refine ADr.go ?_); conv => whnf))) | (refine opt_mk ex ?_; ((conv => whnf); repeat ((first | refine AWp.many ?_ | refine AOps.many ?_ | refine ADr.go ?_); conv => whnf))) | (refine ⟨rfl, ?_⟩; ((conv => whnf); repeat ((first | refine AWp.many ?_ | refine AOps.many ?_ | refine ADr.go ?_); conv => whnf))))
    refine hV3.goG ?_
    ((conv => whnf); repeat ((first | refine AWp.many ?_ | refine AOps.many ?_ | refine ADr.go ?_); conv => whnf))
    repeat (first | (refine grd_mk bx ?_; ((conv => whnf); repeat ((first | refine AWp.many ?_ | refine AOps.many ?_ | refine ADr.go ?_); conv => whnf))) | (refine opt_mk ex ?_; ((conv => whnf); repeat ((first | refine AWp.many ?_ | refine AOps.many ?_ | refine ADr.go ?_); conv => whnf))) | (refine ⟨rfl, ?_⟩; ((conv => whnf); repeat ((first | refine AWp.many ?_ | refine AOps.many ?_ | refine ADr.go ?_); conv => whnf))))
    refine hV4.goG ?_
    ((conv => whnf); repeat ((first | refine AWp.many ?_ | refine AOps.many ?_ | refine ADr.go ?_); conv => whnf))
    rw [ne_self']
    ((conv => whnf); repeat ((first | refine AWp.many ?_ | refine AOps.many ?_ | refine ADr.go ?_); conv => whnf))
    repeat (first | (refine grd_mk bx ?_; ((conv => whnf); repeat ((first | refine AWp.many ?_ | refine AOps.many ?_ | refine ADr.go ?_); conv => whnf))) | (refine opt_mk ex ?_; ((conv => whnf); repeat ((first | refine AWp.many ?_ | refine AOps.many ?_ | refine ADr.go ?_); conv => whnf))) | (refine ⟨rfl, ?_⟩; ((conv => whnf); repeat ((first | refine AWp.many ?_ | refine AOps.many ?_ | refine ADr.go ?_); conv => whnf))))
    refine hV5.goG ?_
    ((conv => whnf); repeat ((first | refine AWp.many ?_ | refine AOps.many ?_ | refine ADr.go ?_); conv => whnf))
    repeat (first | (refine grd_mk bx ?_; ((conv => whnf); repeat ((first | refine AWp.many ?_ | refine AOps.many ?_ | refine ADr.go ?_); conv => whnf))) | (refine opt_mk ex ?_; ((conv => whnf); repeat ((first | refine AWp.many ?_ | refine AOps.many ?_ | refine ADr.go ?_); conv => whnf))) | (refine ⟨rfl, ?_⟩; ((conv => whnf); repeat ((first | refine AWp.many ?_ | refine AOps.many ?_ | refine ADr.go ?_); conv => whnf))))
    refine hV6.goG ?_
    ((conv => whnf); repeat ((first | refine AWp.many ?_ | refine AOps.many ?_ | refine ADr.go ?_); conv => whnf))
    rw [ne_self']
    ((conv => whnf); repeat ((first | refine AWp.many ?_ | refine AOps.many ?_ | refine ADr.go ?_); conv => whnf))
    exact .mk (i + 1) [(0, 0)] (by omega) (conv_mk _ rfl ⟨⟨0, _, rfl, rfl, .same nns⟩, trivial⟩ ⟨⟨_, rfl, .sl 0 0 0 3 rfl⟩, ⟨_, rfl, .w64 (by omega) ⟨by omega, by omega⟩⟩, trivial⟩) (by omega)
  · ((conv => whnf); repeat ((first | refine AWp.many ?_ | refine AOps.many ?_ | refine ADr.go ?_); conv => whnf))
    refine ACalls.call0 nngz (acalls_closed 60 (by rw [lives10]; trivial)) .nil ?_
    intro r m' n' hr
    rw [saysTrue_eq hr]
    refine ⟨_, .same _ (.bool true), ?_⟩
    ((conv => whnf); repeat ((first | refine AWp.many ?_ | refine AOps.many ?_ | refine ADr.go ?_); conv => whnf))
    exact fin_pure (.bool _) ⟨rfl, rfl, rfl⟩
end Go.Proofs.YtgnkoonihkfloaaGreatDoor

/- For every input (a slice of ints, three ints), refuterlaw10.ValuesValid returns true, and its arguments read behind the call as they read before (the card ValuesValidCardSaid, the full form). Conditions: the five package-level variables that the row lists hold, when the call begins, what the program's text lays (the card ties them to it); no bound on sizes. -/
namespace Go.Proofs.YtgnkoonihkfloaaGreatDoor.ValuesValid
open Go.ChangeShapes Go.WideShapes Go.ChangeAt Go.RowKit Go.Lib Go.Ax
set_option linter.unusedVariables false

theorem own : ownKnob Tryz.prog.godebug = none := by kernel_rfl
theorem laidOut : laidOutB Tryz.prog = true := by kernel_rfl
theorem cells3 : Tryz.prog.cellsOf 3 = 1 := by kernel_rfl
theorem gName : Tryz.prog.globalNamed "strconv.ErrSyntax" = some 0 := by kernel_rfl

theorem gType : (Tryz.prog.globals[0]?).map (·.type) = some 129 := by kernel_rfl
theorem star : "*" ++ "errors.errorString" = "*errors.errorString" := by decide
theorem named (u : TypeId) (h : Tryz.prog.typeName? 3 u = some "*errors.errorString") : u = 215 :=
  typeName_ptr_named (nm := "errors.errorString") (by rw [star]; kernel_rfl) (by kernel_rfl) (by decide) u (by rw [star]; exact h)
theorem cellsE : Tryz.prog.cellsOf 217 = 1 := by kernel_rfl
theorem cellsS : Tryz.prog.cellsOf 9 = 1 := by kernel_rfl

/-- What the row's list gives: the variable that is read. -/
theorem vars {W : World} (h : laidMetH Tryz.prog Rows.valuesValidRow.laid W) : ∀ p ∈ gz, VR (fun _ => ⟨0, 0, 0⟩) (fun _ => False) (OX (fun _ => False) (fun _ => ⟨0, 0, 0⟩) []) W (.ip p.2) (.pointer (some ⟨p.1, 0, none⟩)) := by
  have h : laidMet Tryz.prog Rows.valuesValidRow.laid W := h
  have h4 := h.tail.tail.tail.tail
  obtain ⟨a, s, hv, hc, hs, hz⟩ := laid_sentinel (tp := 215) (te := 217) (ts := 9) h4 gName gType Tryz.underlying129 named Tryz.underlying215 Tryz.underlying217 rfl rfl Tryz.underlying9 cellsE cellsS
  have hsp := laid_spot h4 gName hv Tryz.underlying215
  intro p hp
  simp only [gz, List.mem_singleton] at hp
  subst hp
  exact vr_iface_var gName hv hsp

set_option maxRecDepth 100000 in
/-- What the walk gives, for every argument. -/
theorem contract (H : Type) (enc : TypeId × Value → H) (W : World) (base : Nat) (args : Array Value) (ds gs : List (DataW H)) (before : List MemPlace)
    (hval : ∀ (j : Nat) t v, Tryz.f6.params[j]? = some t → args[j]? = some v → Value.okWide Tryz.prog W .any base t v)
    (hW : DataW.Whole enc Tryz.prog Tryz.f6.params.toList Rows.valuesValidSpec.vars false W args.toList ds gs before) (hL : laidMetH Tryz.prog Rows.valuesValidRow.laid W) :
    Calls Tryz.prog 6 args W fun e W' => ∃ v, e = .returned v ∧ Rows.valuesValidSpec.post enc Tryz.prog Tryz.f6 false true false false W args v W' := by
  have hW' := hW
  obtain ⟨p, q, hA0, hV, rfl, hfz, hnd⟩ := hW
  have hA : DataW.TrodAll enc Tryz.prog W 0 (fun _ => true) true Tryz.f6.params.toList args.toList ds p := hA0
  rw [Tryz.params6] at hA hval
  obtain ⟨v0, vs0, d0, ds0, p0, q0, hargs, rfl, rfl, h0, r0⟩ := trodAll_cons hA
  obtain ⟨v1, vs1, d1, ds1, p1, q1, rfl, rfl, rfl, h1, r1⟩ := trodAll_cons r0
  obtain ⟨v2, vs2, d2, ds2, p2, q2, rfl, rfl, rfl, h2, r2⟩ := trodAll_cons r1
  obtain ⟨v3, vs3, d3, ds3, p3, q3, rfl, rfl, rfl, h3, r3⟩ := trodAll_cons r2
  obtain ⟨rfl, rfl, rfl⟩ := trodAll_nil r3
  obtain rfl : args = #[v0, v1, v2, v3] := by cases args; simp_all
  obtain ⟨rfl, rfl⟩ := trodVars_none hV
  have h0k := h0
  obtain ⟨x0, b0, e0⟩ := vr_ints_of Tryz.underlying22 Tryz.underlying3 cells3 (hval 0 22 v0 rfl rfl) h0
  have h1k := h1
  obtain ⟨x1, rfl, rfl, rfl, hwf1⟩ := open_int Tryz.underlying3 (hval 1 3 v1 rfl rfl) h1
  have b1 : i64 x1 := by
    have e1 : IntKind.i64.min = -9223372036854775808 := rfl
    have e2 : IntKind.i64.max = 9223372036854775807 := rfl
    simp [Lit.wf, e1, e2] at hwf1
    unfold i64
    omega
  have h2k := h2
  obtain ⟨x2, rfl, rfl, rfl, hwf2⟩ := open_int Tryz.underlying3 (hval 2 3 v2 rfl rfl) h2
  have b2 : i64 x2 := by
    have e1 : IntKind.i64.min = -9223372036854775808 := rfl
    have e2 : IntKind.i64.max = 9223372036854775807 := rfl
    simp [Lit.wf, e1, e2] at hwf2
    unfold i64
    omega
  have h3k := h3
  obtain ⟨x3, rfl, rfl, rfl, hwf3⟩ := open_int Tryz.underlying3 (hval 3 3 v3 rfl rfl) h3
  have b3 : i64 x3 := by
    have e1 : IntKind.i64.min = -9223372036854775808 := rfl
    have e2 : IntKind.i64.max = 9223372036854775807 := rfl
    simp [Lit.wf, e1, e2] at hwf3
    unfold i64
    omega
  clear hA0
  refine ((lawValidW x0 x1 x2 x3 b0 b1 b2 b3).callsG W [v0, .int .i64 x1, .int .i64 x2, .int .i64 x3] (vars hL) (.cons e0 (.cons (.int _ _) (.cons (.int _ _) (.cons (.int _ _) .nil))))).mono ?_
  rintro e W' ⟨rfl, hk⟩
  refine ⟨_, rfl, _, _, _, [], p0 ++ ([] ++ ([] ++ ([] ++ []))), [], hW', ?_, ?_, ?_, hk.frame _, fun h => by cases h⟩
  · exact trodAll_cons_mk (shut_bool Tryz.underlying4 _) trodAll_mk0
  · exact trodAll_cons_mk (Kept.trod laidOut (by kernel_rfl) (of_decide_eq_true (by kernel_rfl)) h0k hk) (trodAll_cons_mk (Kept.trod laidOut (by kernel_rfl) (of_decide_eq_true (by kernel_rfl)) h1k hk) (trodAll_cons_mk (Kept.trod laidOut (by kernel_rfl) (of_decide_eq_true (by kernel_rfl)) h2k hk) (trodAll_cons_mk (Kept.trod laidOut (by kernel_rfl) (of_decide_eq_true (by kernel_rfl)) h3k hk) trodAll_mk0)))
  · rfl

/-- A world for the witness: the settled one with two blocks more (the two errors' structs), the five variables holding what their initialisers lay. -/
noncomputable def laidWorld (os : Os) : World :=
  let N := (World.settled Tryz.prog os).heap.size
  let w0 := World.holding Tryz.prog os ⟨#[
    .cells #[.string ⟨#[105, 110, 118, 97, 108, 105, 100, 32, 115, 121, 110, 116, 97, 120]⟩] 217,
    .cells #[.string ⟨#[118, 97, 108, 117, 101, 32, 111, 117, 116, 32, 111, 102, 32, 114, 97, 110, 103, 101]⟩] 217], #[], []⟩
  let put (h : Array Obj) (g : Nat) (cs : Array Value) : Array Obj := h.modify g fun
    | .cells _ t frozen => .cells cs t frozen
    | o => o
  let nums (d : DataW Unit) : Array Value := match d with
    | .agg ds => (ds.map fun
      | .lit (.int k n) => Value.int k n
      | _ => .bool false).toArray
    | _ => #[]
  let h0 := put (put w0.heap 0 #[.iface 215 (.pointer (some ⟨N, 0, none⟩))]) 1 #[.iface 215 (.pointer (some ⟨N + 1, 0, none⟩))]
  let h1 := put h0 2 (nums Rows.laid_internal_strconv_uint64pow10)
  let h2 := put h1 3 (nums Rows.laid_math_bits_deBruijn32tab)
  let h3 := put h2 4 (nums Rows.laid_math_bits_deBruijn64tab)
  { w0 with heap := h3 }
noncomputable abbrev N0 : Nat := (World.settled Tryz.prog default).heap.size
theorem laid_met (os : Os) (args : Array Value) : laidMet Tryz.prog Rows.valuesValidRow.laid ((laidWorld os).forCall (fun _ _ => 0) ⟨#[], args, []⟩).memory :=
  (LaidIn.of_run (l := Rows.valuesValidRow.laid) [0, 1, 2, 3, 4, N0, N0 + 1] 8 (by kernel_rfl) (by kernel_rfl) (by kernel_rfl) (by kernel_rfl)).met

noncomputable abbrev wargs : Array Value := #[.slice none 0 0, .int .i64 0, .int .i64 0, .int .i64 0]
theorem reads (os : Os) {H : Type} (enc : TypeId × Value → H) : ∃ places, DataW.whole enc Tryz.prog ((laidWorld os).forCall (fun _ _ => 0) ⟨#[], wargs, []⟩).memory Tryz.f6.params.toList Rows.valuesValidSpec.vars false wargs.toList 8 = some ([.nil, .lit (.int .i64 0), .lit (.int .i64 0), .lit (.int .i64 0)], [], places) :=
  ⟨[], by kernel_rfl⟩

set_option maxRecDepth 100000 in
theorem lifted (os : Os) (started : os.Started) (H : Type) (enc : TypeId × Value → H) (F : Stop.Interp) :
    ReturnsInHanded {} Tryz.checked os 6 .any ((OpenSpec.ofChange Rows.valuesValidSpec).preRow enc Tryz.prog Tryz.f6 Rows.valuesValidRow.domain false Rows.valuesValidRow.laid) (((OpenSpec.ofChange Rows.valuesValidSpec).at F).post enc Tryz.prog Tryz.f6 false true false false) := by
  obtain ⟨places, hx⟩ := reads os enc
  refine returnsInHanded_of_row (C := Tryz.checked) (s := OpenSpec.ofChange Rows.valuesValidSpec) own started (by kernel_rfl) Tryz.func6
    (witness_row_atRef (enc := enc) (C := Tryz.checked) false (laidWorld os) wargs rfl (by kernel_rfl) (by kernel_rfl) (by kernel_rfl)
      (OpenSpec.preRow_of_cond 8 hx (by kernel_rfl) (fun k hk => by cases hk) (by kernel_rfl) (laid_met os _))) ?_
  intro W base args ds gs before hval hW _ _ _ hL _ _
  exact contract H enc W base args ds gs before hval hW hL

theorem said : Rows.ValuesValidSaid :=
  OpenClaim.holds_of_cond 6 Tryz.f6 rfl rfl rfl rfl rfl rfl rfl ⟨rfl, rfl, rfl, rfl, rfl⟩ rfl rfl rfl rfl rfl (by kernel_rfl) Tryz.func6 (by kernel_rfl)
    (of_decide_eq_true (by kernel_rfl)) (by unfold Func.isWrapper; first | (rw [if_pos (by decide +kernel)]; kernel_rfl) | (rw [if_neg (by decide +kernel)]; exact ⟨rfl, rfl⟩))
    (fun os started H enc _ F => by rw [OpenClaim.pre_eq_preRow]; exact lifted os started H enc F)

theorem plain (f : FuncId) (fn : Func) (hf : Tryz.pinned.checked.prog.funcNamed "refuter/refuterlaw10.ValuesValid" = some f) (hfn : Tryz.pinned.checked.prog.funcs[f]? = some fn) :
    true = Tryz.pinned.checked.prog.looks [] ∧ ∀ (j : Nat) t, fn.params[j]? = some t → Tryz.pinned.checked.prog.wantsStandIn t = false := by
  obtain rfl : f = 6 := Option.some.inj ((show Tryz.prog.funcNamed "refuter/refuterlaw10.ValuesValid" = some 6 by kernel_rfl).symm.trans hf) |>.symm
  obtain rfl : fn = Tryz.f6 := (Option.some.inj (Tryz.func6.symm.trans hfn)).symm
  refine ⟨by kernel_rfl, fun j t ht => ?_⟩
  rw [Tryz.params6] at ht
  have hI : Tryz.prog.wantsStandIn 22 = false := by kernel_rfl
  have hi : Tryz.prog.wantsStandIn 3 = false := by kernel_rfl
  have hm := Array.mem_of_getElem? ht
  simp at hm
  rcases (show t = 22 ∨ t = 3 by omega) with rfl | rfl
  · exact hI
  · exact hi

/-- The card. -/
theorem card : Rows.ValuesValidCardSaid :=
  Claim7.holds_tied_plain_at .later [] _ _ _ _ said (fun _ h => by cases h) (by kernel_rfl) (fun _ h => by cases h) valuesValid_row_tie rfl ⟨rfl, rfl⟩ (by kernel_rfl) rfl plain (by kernel_rfl)
end Go.Proofs.YtgnkoonihkfloaaGreatDoor.ValuesValid
