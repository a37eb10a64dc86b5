/- A part of the proof. -/
import Derived.Test.YtndfionmfihcoaaGreatDoorAx10
import Derived.Shelf.SlGeneric
import Derived.Shelf.SlSortCmp.WholeK
import Derived.Shelf.SlSortCmp.NoneTotal
import Derived.Ground.SlsfProg
import Derived.Test.YtndfionmfihcoaaGreatDoorProg
import Derived.Shelf.SlSortCmp.InsertionK
set_option linter.unusedVariables false
namespace Go.Proofs.YtndfionmfihcoaaGreatDoor
open Go Go.Ax Go.Proofs
set_option maxRecDepth 100000
set_option maxHeartbeats 16000000
set_option linter.unusedSimpArgs false
theorem eq0_len {α : Type} (l : List α) (xs : List AV) (h : xs.length = l.length) : (((xs.length : Nat) : Int) == 0) = decide (l.length = 0) := by rw [h, Bool.eq_iff_iff]; simp
theorem mk_ok {a b c : Bool} {n bytes : Nat} (ha : a = true) (hb : b = true) (hc : c = true) (h : n ≤ 4294967296) (hby : Nat.ble bytes 4096 = true) :
  (a && (b && (c && (decide (0 ≤ (n : Int)) && (decide ((n : Int) ≤ n) && (decide ((bytes : Int) * n ≤ 281474976710656) && decide ((n : Int) ≤ 9223372036854775807))))))) = true := by
 have hby := Nat.le_of_ble_eq_true hby
 have h3 : bytes * n ≤ 4096 * 4294967296 := Nat.mul_le_mul hby h
 have h4 : ((bytes : Nat) : Int) * (n : Int) = ((bytes * n : Nat) : Int) := by simp
 rw [ha, hb, hc, h4, decide_eq_true (by omega), decide_eq_true (by omega), decide_eq_true (by omega), decide_eq_true (by omega)]
 rfl
def fillV (zs : List AV) (l : List AV) (k : Nat) : List AV := l.take k ++ zs.drop k
theorem fillV_all {zs l : List AV} (h : zs.length = l.length) : fillV zs l l.length = l := by simp [fillV]; omega
theorem fillV_get {zs l : List AV} (h : zs.length = l.length) {k : Nat} (hk : k < l.length) : (fillV zs l k)[k]? = zs[k]? := by
 unfold fillV
 rw [List.getElem?_append_right (by rw [List.length_take]; omega)]
 rw [List.length_take, Nat.min_eq_left (Nat.le_of_lt hk), Nat.sub_self, List.getElem?_drop, Nat.add_zero]
theorem fillV_set {zs l : List AV} (h : zs.length = l.length) {k : Nat} (hk : k < l.length) {v : AV} (hv : l[k]? = some v) : (fillV zs l k).set k v = fillV zs l (k + 1) := by
 unfold fillV
 rw [List.set_append_right _ _ (by rw [List.length_take]; omega)]
 rw [List.length_take, Nat.min_eq_left (Nat.le_of_lt hk), Nat.sub_self, List.drop_eq_getElem_cons (by omega : k < zs.length), List.set_cons_zero, List.take_add_one, hv]
 simp
theorem cvr_rep {mem : Mem} {σ : List (Nat × Nat)} {x y : AV} (h : CvE mem σ x y) (n : Nat) : CvR mem σ (List.replicate n x) (List.replicate n y) := by
 refine ⟨by simp, fun i a b ha hb => ?_⟩
 rw [List.getElem?_replicate] at ha hb
 split at ha
 ·rename_i e
  rw [if_pos e] at hb
  cases ha; cases hb; exact h
 ·cases ha
theorem rep_nn {x : AV} (h : NN x) (n : Nat) : NNs (List.replicate n x) := fun a ha => by
 rw [List.eq_of_mem_replicate ha]; exact h
theorem fillV_nn {zs l : List AV} (h1 : NNs zs) (h2 : NNs l) (k : Nat) : NNs (fillV zs l k) := fun a ha => by
 rcases List.mem_append.1 ha with ha | ha
 ·exact h2 a (List.mem_of_mem_take ha)
 ·exact h1 a (List.mem_of_mem_drop ha)
theorem cVals (l : List Val) (hl : l.length ≤ 4294967296) (h : ∀ v ∈ l, PureC Tryz.prog [] 45 [encV v] (encV v)) : PureC Tryz.prog [] 44 [.il 4 (encVs l), .fn (.func 45) [] []] (.il 4 (encVs l)) := by
 refine acalls_go nnΓ Tryz.func44 rfl ?_
 ((conv=>whnf);repeat(refine Xg ?_;conv=>whnf))
 rw [eq0_len l _ (encVs_length l)]
 by_cases h0 : l.length = 0
 ·rw [decide_eq_true h0]
  obtain rfl : l = [] := List.eq_nil_of_length_eq_zero h0
  ((conv=>whnf);repeat(refine Xg ?_;conv=>whnf))
  exact fin_cv (r' := .il 4 (encVs [])) (.nil 4) ⟨rfl, rfl, rfl⟩
 ·rw [decide_eq_false h0]
  ((conv=>whnf);repeat(refine Xg ?_;conv=>whnf))
  rw [encVs_length]
  refine grd_mk (mk_ok rfl rfl rfl hl rfl) ?_
  ((conv=>whnf);repeat(refine Xg ?_;conv=>whnf))
  obtain ⟨zs, hzs⟩ : ∃ zs, zs = List.replicate l.length (encV (.mk 0 0 [] [])) := ⟨_, rfl⟩
  have hzn : NNs zs := by rw [hzs]; exact rep_nn nn _
  have hzl : zs.length = (encVs l).length := by rw [hzs, encVs_length]; simp
  refine ALoop.at nnΓ (fun k : Nat => k ≤ l.length) (fun k => ⟨[(0, .il 4 (encVs l)), (1, .fn (.func 45) [] []), (5, .sl 0 0 l.length), (14, .int .i64 l.length), (15, .int .i64 k)], [(0, .row 28 4 (fillV zs (encVs l) k))], 1, 29⟩) (fun k => l.length - k) 0 [(0, 0)] (by simp)
   (conv_mk _ rfl ⟨⟨0, _, rfl, rfl, by rw [hzs]; exact cvr_rep (cvVal 0 0 []) _⟩, trivial⟩ ⟨⟨_, rfl, .same _ (.il' (encVs_nn _))⟩, ⟨_, rfl, .same _ nn⟩, ⟨_, rfl, .slE rfl (by simp)⟩, ⟨_, rfl, .int (by rw [encVs_length])⟩, ⟨_, rfl, .same _ nn⟩, trivial⟩) ?_
  have hz0 : ∀ k < l.length, zs[k]? = some (encV (.mk 0 0 [] [])) := fun k hk => by rw [hzs, List.getElem?_replicate, if_pos hk]
  clear hzs
  intro k hk
  ((conv=>whnf);repeat(refine Xg ?_;conv=>whnf))
  refine bcs_mk (fun hb => ?_) (fun hb => ?_)
  ·have hlt : k < l.length := by simpa using hb
   obtain ⟨v1, v2, v3, v4, vm, vg, -, ev⟩ := enc_cases (l := l) (k := k) hlt
   have hv := h _ vm
   have bx : Nat.blt ((k : Nat) : Int).toNat l.length = true := Nat.ble_eq_true_of_le (by simp; omega)
   have bz : (fillV zs (encVs l) k)[0 + ((k : Nat) : Int).toNat]? = some (encV (.mk 0 0 [] [])) := by
    rw [← hz0 k hlt, show 0 + ((k : Nat) : Int).toNat = k by simp]
    exact fillV_get hzl (by rw [encVs_length]; exact hlt)
   have hs := fillV_set hzl (k := k) (by rw [encVs_length]; exact hlt) (v := encV (.mk v1 v2 v3 v4)) (by rw [encVs_get, vg]; rfl)
   ((conv=>whnf);repeat(refine Xg ?_;conv=>whnf))
   repeat ((first | refine opt_mk ev ?_ | refine ⟨rfl, ?_⟩); ((conv=>whnf);repeat(refine Xg ?_;conv=>whnf)))
   refine hv.go ?_
   ((conv=>whnf);repeat(refine Xg ?_;conv=>whnf))
   repeat ((first | refine grd_mk bx ?_ | refine opt_mk bz ?_ | refine setK_iff.2 ?_ | refine ⟨rfl, ?_⟩); ((conv=>whnf);repeat(refine Xg ?_;conv=>whnf)))
   exact .mk (k + 1) [(0, 0)] (by omega)
    (conv_mk _ rfl ⟨⟨0, _, rfl, rfl, .eq (fillV_nn hzn (encVs_nn _) _) (by rw [← hs]; simp; rfl)⟩, trivial⟩ ⟨⟨_, rfl, .same _ (.il' (encVs_nn _))⟩, ⟨_, rfl, .same _ nn⟩, ⟨_, rfl, .slE rfl rfl⟩, ⟨_, rfl, .same _ nn⟩, ⟨_, rfl, .w64 (by omega) ⟨by omega, by omega⟩⟩, trivial⟩) (by omega)
  ·have hkl : k = l.length := by simp at hb; omega
   subst hkl
   ((conv=>whnf);repeat(refine Xg ?_;conv=>whnf))
   rw [show fillV zs (encVs l) l.length = encVs l by rw [← encVs_length l]; exact fillV_all hzl]
   exact fin_cv (r' := .il 4 (encVs l)) (.fz' (id := 0) rfl rfl (by rw [encVs_length]; omega) (by rw [List.drop_zero]; exact List.take_of_length_le (by rw [encVs_length]; omega)) (encVs_nn _)) ⟨rfl, rfl, rfl⟩
theorem cValsO (l : List Val) (hl : l.length ≤ 4294967296) (h1 : 0 < l.length) (h : ∀ v ∈ l, PureC Tryz.prog [] 45 [encV v] (encV v)) : ACalls Tryz.prog [] 44 [.il 4 (encVs l), .fn (.func 45) [] []] [] 0 fun r m n => r = .sl 0 0 l.length ∧ m = [(0, .row 28 4 (encVs l))] ∧ n = 1 := by
 refine acalls_go nnΓ Tryz.func44 rfl ?_
 ((conv=>whnf);repeat(refine Xg ?_;conv=>whnf))
 rw [eq0_len l _ (encVs_length l)]
 have h0 : ¬ l.length = 0 := by omega
 ·rw [decide_eq_false h0]
  ((conv=>whnf);repeat(refine Xg ?_;conv=>whnf))
  rw [encVs_length]
  refine grd_mk (mk_ok rfl rfl rfl hl rfl) ?_
  ((conv=>whnf);repeat(refine Xg ?_;conv=>whnf))
  obtain ⟨zs, hzs⟩ : ∃ zs, zs = List.replicate l.length (encV (.mk 0 0 [] [])) := ⟨_, rfl⟩
  have hzn : NNs zs := by rw [hzs]; exact rep_nn nn _
  have hzl : zs.length = (encVs l).length := by rw [hzs, encVs_length]; simp
  refine ALoop.at nnΓ (fun k : Nat => k ≤ l.length) (fun k => ⟨[(0, .il 4 (encVs l)), (1, .fn (.func 45) [] []), (5, .sl 0 0 l.length), (14, .int .i64 l.length), (15, .int .i64 k)], [(0, .row 28 4 (fillV zs (encVs l) k))], 1, 29⟩) (fun k => l.length - k) 0 [(0, 0)] (by simp)
   (conv_mk _ rfl ⟨⟨0, _, rfl, rfl, by rw [hzs]; exact cvr_rep (cvVal 0 0 []) _⟩, trivial⟩ ⟨⟨_, rfl, .same _ (.il' (encVs_nn _))⟩, ⟨_, rfl, .same _ nn⟩, ⟨_, rfl, .slE rfl (by simp)⟩, ⟨_, rfl, .int (by rw [encVs_length])⟩, ⟨_, rfl, .same _ nn⟩, trivial⟩) ?_
  have hz0 : ∀ k < l.length, zs[k]? = some (encV (.mk 0 0 [] [])) := fun k hk => by rw [hzs, List.getElem?_replicate, if_pos hk]
  clear hzs
  intro k hk
  ((conv=>whnf);repeat(refine Xg ?_;conv=>whnf))
  refine bcs_mk (fun hb => ?_) (fun hb => ?_)
  ·have hlt : k < l.length := by simpa using hb
   obtain ⟨v1, v2, v3, v4, vm, vg, -, ev⟩ := enc_cases (l := l) (k := k) hlt
   have hv := h _ vm
   have bx : Nat.blt ((k : Nat) : Int).toNat l.length = true := Nat.ble_eq_true_of_le (by simp; omega)
   have bz : (fillV zs (encVs l) k)[0 + ((k : Nat) : Int).toNat]? = some (encV (.mk 0 0 [] [])) := by
    rw [← hz0 k hlt, show 0 + ((k : Nat) : Int).toNat = k by simp]
    exact fillV_get hzl (by rw [encVs_length]; exact hlt)
   have hs := fillV_set hzl (k := k) (by rw [encVs_length]; exact hlt) (v := encV (.mk v1 v2 v3 v4)) (by rw [encVs_get, vg]; rfl)
   ((conv=>whnf);repeat(refine Xg ?_;conv=>whnf))
   repeat ((first | refine opt_mk ev ?_ | refine ⟨rfl, ?_⟩); ((conv=>whnf);repeat(refine Xg ?_;conv=>whnf)))
   refine hv.go ?_
   ((conv=>whnf);repeat(refine Xg ?_;conv=>whnf))
   repeat ((first | refine grd_mk bx ?_ | refine opt_mk bz ?_ | refine setK_iff.2 ?_ | refine ⟨rfl, ?_⟩); ((conv=>whnf);repeat(refine Xg ?_;conv=>whnf)))
   exact .mk (k + 1) [(0, 0)] (by omega)
    (conv_mk _ rfl ⟨⟨0, _, rfl, rfl, .eq (fillV_nn hzn (encVs_nn _) _) (by rw [← hs]; simp; rfl)⟩, trivial⟩ ⟨⟨_, rfl, .same _ (.il' (encVs_nn _))⟩, ⟨_, rfl, .same _ nn⟩, ⟨_, rfl, .slE rfl rfl⟩, ⟨_, rfl, .same _ nn⟩, ⟨_, rfl, .w64 (by omega) ⟨by omega, by omega⟩⟩, trivial⟩) (by omega)
  ·have hkl : k = l.length := by simp at hb; omega
   subst hkl
   ((conv=>whnf);repeat(refine Xg ?_;conv=>whnf))
   rw [show fillV zs (encVs l) l.length = encVs l by rw [← encVs_length l]; exact fillV_all hzl]
   exact fin_mk (r' := .sl 0 0 l.length) (m' := [(0, .row 28 4 (encVs l))]) (n' := 1) [(0, 0)] rfl ⟨⟨0, _, rfl, rfl, .same (encVs_nn _)⟩, trivial⟩ (.sl 0 0 0 _ rfl) ⟨rfl, rfl, rfl⟩
theorem cValue : ∀ (f : Nat) (v : Val), sizeV v ≤ f → okV v → PureC Tryz.prog [] 45 [encV v] (encV v)
 | 0, .mk k n s l, h, _ => by simp [sizeV] at h
 | f + 1, .mk k n s l, h, hv => by
  simp only [okV] at hv
  have hk : ∀ v ∈ l, PureC Tryz.prog [] 45 [encV v] (encV v) := fun v hm => cValue f v (by have := sizeV_mem hm; simp [sizeV] at h; omega) (okVs_mem hv.2.2.2.2 v hm)
  have hc := cVals l hv.2.2.2.1 hk
  refine acalls_go nnΓ Tryz.func45 rfl ?_
  ((conv=>whnf);repeat(refine Xg ?_;conv=>whnf))
  refine hc.go ?_ (.cons (.il' (encVs_nn _)) (.cons nn .nil)) (.il' (encVs_nn _))
  ((conv=>whnf);repeat(refine Xg ?_;conv=>whnf))
  repeat ((first | refine setK_iff.2 ?_ | refine ⟨rfl, ?_⟩); ((conv=>whnf);repeat(refine Xg ?_;conv=>whnf)))
  exact fin_pure (encV_nn (.mk k n s l)) ⟨rfl, rfl, rfl⟩
theorem cValuesO (l : List Val) (hl : l.length ≤ 4294967296) (h1 : 0 < l.length) (h : ∀ v ∈ l, okV v) : ACalls Tryz.prog [] 22 [.il 4 (encVs l)] [] 0 fun r m n => r = .sl 0 0 l.length ∧ m = [(0, .row 28 4 (encVs l))] ∧ n = 1 := by
 have hc := cValsO l hl h1 fun v hm => cValue _ v (Nat.le_refl _) (h v hm)
 refine acalls_go nnΓ Tryz.func22 rfl ?_
 ((conv=>whnf);repeat(refine Xg ?_;conv=>whnf))
 refine ACalls.useN nnΓ [] hc rfl (.same (.cons (.il' (encVs_nn _)) (.cons nn .nil))) trivial rfl ?_
 rintro r m n ⟨rfl, rfl, rfl⟩
 refine ⟨[(0, 0)], .sl 0 0 l.length, [(0, .row 28 4 (encVs l))], 1, .sl 0 0 0 _ rfl, ⟨⟨0, _, rfl, rfl, .same (encVs_nn _)⟩, trivial⟩, rfl, ?_⟩
 ((conv=>whnf);repeat(refine Xg ?_;conv=>whnf))
 exact fin_mk (r' := .sl 0 0 l.length) (m' := [(0, .row 28 4 (encVs l))]) (n' := 1) [(0, 0)] rfl ⟨⟨0, _, rfl, rfl, .same (encVs_nn _)⟩, trivial⟩ (.sl 0 0 0 _ rfl) ⟨rfl, rfl, rfl⟩
end Go.Proofs.YtndfionmfihcoaaGreatDoor
namespace Go.Proofs
open Go.Shelf
def Tryz.laysSlsf6_f23_ren : Go.Shelf.Ren := ⟨fun | 6 => 23 | 15 => 47 | 14 => 46 | 28 => 76 | 29 => 77 | 20 => 68 | 21 => 69 | 22 => 70 | 23 => 71 | 24 => 72 | 25 => 73 | 26 => 74 | 27 => 75 | 46 => 97 | 47 => 98 | 48 => 99 | 49 => 100 | 50 => 101 | 57 => 113 | n => n, fun | 22 => 23 | 24 => 28 | 25 => 43 | 3 => 3 | 39 => 83 | 0 => 0 | 53 => 118 | 55 => 39 | 4 => 4 | 46 => 112 | 45 => 111 | 50 => 29 | 5 => 5 | 9 => 9 | 66 => 130 | 70 => 134 | 76 => 144 | 77 => 145 | n => n, fun | n => n⟩
theorem Tryz.laysSlsf6_f23 : Go.Proofs.SlLaysF0.n6 Tryz.prog Tryz.laysSlsf6_f23_ren := {
 mixed := by kernel_rfl
 f6 := ⟨Tryz.f23.name, by decide, Tryz.func23.trans (congrArg some (by kernel_rfl))⟩
 f14 := ⟨Tryz.f46.name, by decide, Tryz.func46.trans (congrArg some (by kernel_rfl))⟩
 f15 := Tryz.func47.trans (congrArg some (by kernel_rfl))
 f20 := ⟨Tryz.f68.name, by decide, Tryz.func68.trans (congrArg some (by kernel_rfl))⟩
 f21 := ⟨Tryz.f69.name, by decide, Tryz.func69.trans (congrArg some (by kernel_rfl))⟩
 f22 := ⟨Tryz.f70.name, by decide, Tryz.func70.trans (congrArg some (by kernel_rfl))⟩
 f23 := ⟨Tryz.f71.name, by decide, Tryz.func71.trans (congrArg some (by kernel_rfl))⟩
 f24 := ⟨Tryz.f72.name, by decide, Tryz.func72.trans (congrArg some (by kernel_rfl))⟩
 f25 := ⟨Tryz.f73.name, by decide, Tryz.func73.trans (congrArg some (by kernel_rfl))⟩
 f26 := ⟨Tryz.f74.name, by decide, Tryz.func74.trans (congrArg some (by kernel_rfl))⟩
 f27 := ⟨Tryz.f75.name, by decide, Tryz.func75.trans (congrArg some (by kernel_rfl))⟩
 f28 := Tryz.func76.trans (congrArg some (by kernel_rfl))
 f29 := Tryz.func77.trans (congrArg some (by kernel_rfl))
 f46 := ⟨Tryz.f97.name, by decide, Tryz.func97.trans (congrArg some (by kernel_rfl))⟩
 f47 := Tryz.func98.trans (congrArg some (by kernel_rfl))
 f48 := Tryz.func99.trans (congrArg some (by kernel_rfl))
 f49 := ⟨Tryz.f100.name, by decide, Tryz.func100.trans (congrArg some (by kernel_rfl))⟩
 f50 := ⟨Tryz.f101.name, by decide, Tryz.func101.trans (congrArg some (by kernel_rfl))⟩
 f57 := ⟨Tryz.f113.name, by decide, Tryz.func113.trans (congrArg some (by kernel_rfl))⟩
 t0 := Tryz.underlying0
 a0 := Tryz.isAgg0
 z0 := Tryz.sizeOf0
 v0 := Tryz.zeroValue0
 t3 := Tryz.underlying3
 a3 := Tryz.isAgg3
 z3 := Tryz.sizeOf3
 v3 := Tryz.zeroValue3
 t4 := Tryz.underlying4
 a4 := Tryz.isAgg4
 z4 := Tryz.sizeOf4
 v4 := Tryz.zeroValue4
 t5 := Tryz.underlying5
 a5 := Tryz.isAgg5
 z5 := Tryz.sizeOf5
 v5 := Tryz.zeroValue5
 t9 := Tryz.underlying9
 a9 := Tryz.isAgg9
 z9 := Tryz.sizeOf9
 v9 := Tryz.zeroValue9
 t22 := Tryz.underlying23
 a22 := Tryz.isAgg23
 z22 := Tryz.sizeOf23
 v22 := Tryz.zeroValue23
 t25 := Tryz.underlying43
 a25 := Tryz.isAgg43
 z25 := Tryz.sizeOf43
 v25 := Tryz.zeroValue43
 t39 := Tryz.underlying83
 a39 := Tryz.isAgg83
 z39 := Tryz.sizeOf83
 v39 := Tryz.zeroValue83
 t45 := Tryz.underlying111
 a45 := Tryz.isAgg111
 z45 := Tryz.sizeOf111
 v45 := Tryz.zeroValue111
 t46 := Tryz.underlying112
 a46 := Tryz.isAgg112
 z46 := Tryz.sizeOf112
 v46 := Tryz.zeroValue112
 t50 := Tryz.underlying29
 a50 := Tryz.isAgg29
 z50 := Tryz.sizeOf29
 v50 := Tryz.zeroValue29
 t53 := Tryz.underlying118
 a53 := Tryz.isAgg118
 z53 := Tryz.sizeOf118
 v53 := Tryz.zeroValue118
 t55 := Tryz.underlying39
 a55 := Tryz.isAgg39
 z55 := Tryz.sizeOf39
 v55 := Tryz.zeroValue39
 t66 := Tryz.underlying130
 a66 := Tryz.isAgg130
 z66 := Tryz.sizeOf130
 v66 := Tryz.zeroValue130
 t70 := Tryz.underlying134
 a70 := Tryz.isAgg134
 z70 := Tryz.sizeOf134
 v70 := Tryz.zeroValue134
 t76 := Tryz.underlying144
 a76 := Tryz.isAgg144
 z76 := Tryz.sizeOf144
 v76 := Tryz.zeroValue144
 t77 := Tryz.underlying145
 a77 := Tryz.isAgg145
 z77 := Tryz.sizeOf145
 v77 := Tryz.zeroValue145 }
open Go.RowKit Go.Lib Go.Sort in
theorem Tryz.slices_SortFunc {α : Type} [Inhabited α] (k : Nat) (aE : ∀ w, (isAgg 28).run Tryz.prog w = .ok true w) (zE : ∀ w, (Go.sizeOf 28).run Tryz.prog w = .ok k w) (enc : α → List Value) (hk : ∀ x, (enc x).length = k) (h1 : ∀ x, ∀ v ∈ enc x, v.oneCell' = true) (cf : α → α → Int) (hO : SWO (ltOf cf)) (g : Nat) (cb : Array Value) (blk off cap : Nat) (d : Array α) (w : World) (eg : ∀ args w, (callFunc g args).run Tryz.prog w = .ok (.enter g args) w) (hcmp : CmpLays Tryz.prog g cb enc k cf blk off d.size w) (hH : HoldsK enc k w blk off d) (hblk : blk < w.heap.size) (hsz : d.size < 4611686018427387904) :
  Calls Tryz.prog 23 #[.slice (some ⟨blk, off, none⟩) d.size cap, .func (.func g) #[] cb] w fun e w' =>
   e = .returned (.tuple #[]) ∧ ∃ d' n os, PermIn 0 d.size d d' ∧ SortedIn (ltOf cf) 0 d.size d' ∧ w' = sortWorldK enc k w blk off n d' os := AnyQ.slices_SortFunc Tryz.laysSlsf6_f23 k aE zE enc hk h1 cf hO g cb blk off cap d w eg hcmp hH hblk hsz
open Go.RowKit Go.Lib Go.Sort in
theorem Tryz.slices_SortFunc_none {α : Type} [Inhabited α] (p : Option Addr) (cap : Nat) (fv : Value) (w : World) :
  Calls Tryz.prog 23 #[.slice p 0 cap, fv] w fun e w' => e = .returned (.tuple #[]) ∧ w' = w := AnyF.slices_SortFunc_none Tryz.laysSlsf6_f23 p cap fv w
end Go.Proofs
namespace Go.Ax
open Go
def cellsAt (arr : Array Value) (k n : Nat) (i : Nat) : List Value := (List.range k).map fun j => arr.getD (min i (n - 1) * k + j) undef
theorem cellsAt_len (arr : Array Value) (k n i : Nat) : (cellsAt arr k n i).length = k := by simp [cellsAt]
theorem cellsAt_get {arr : Array Value} {k n i j : Nat} (hj : j < k) : (cellsAt arr k n i)[j]? = some (arr.getD (min i (n - 1) * k + j) undef) := by simp [cellsAt, hj]
structure OrdOn {β : Type} (xs : List β) (c : β → β → Int) : Prop where
 irrefl : ∀ x ∈ xs, ¬ c x x < 0
 trans : ∀ x ∈ xs, ∀ y ∈ xs, ∀ z ∈ xs, c x y < 0 → c y z < 0 → c x z < 0
 ntrans : ∀ x ∈ xs, ∀ y ∈ xs, ∀ z ∈ xs, ¬ c x y < 0 → ¬ c y z < 0 → ¬ c x z < 0
def SortedOf {β : Type} (xs ys : List β) (c : β → β → Int) : Prop := ys.Perm xs ∧ ∀ (i j : Nat) (x y : β), i < j → ys[i]? = some x → ys[j]? = some y → ¬ c y x < 0
section
variable {P : Program} {F : FuncId} {t : TypeId} {k : Nat}
open Go.Shelf Go.RowKit Go.Lib Go.Sort Go.Proofs
theorem sort_bridge
  (hF : ∀ (enc : Nat → List Value) (_ : ∀ x, (enc x).length = k) (_ : ∀ x, ∀ v ∈ enc x, v.oneCell' = true) (cf : Nat → Nat → Int) (_ : SWO (ltOf cf)) (g : Nat) (cb : Array Value) (blk off cap : Nat) (d : Array Nat) (w : World)
   (_ : ∀ args w, (callFunc g args).run P w = .ok (.enter g args) w) (_ : CmpLays P g cb enc k cf blk off d.size w) (_ : HoldsK enc k w blk off d) (_ : blk < w.heap.size) (_ : d.size < 4611686018427387904),
   Calls P F #[.slice (some ⟨blk, off, none⟩) d.size cap, .func (.func g) #[] cb] w fun e w' =>
    e = .returned (.tuple #[]) ∧ ∃ d' n os, PermIn 0 d.size d d' ∧ SortedIn (ltOf cf) 0 d.size d' ∧ w' = sortWorldK enc k w blk off n d' os)
  {g : FuncId} (eg : ∀ args w, (callFunc g args).run P w = .ok (.enter g args) w) {β : Type} [Inhabited β] (e : β → AV) (L : List β) (h0 : 0 < L.length) (hk0 : 0 < k) (hlen : L.length < 4611686018427387904) (hagg : ∀ x ∈ L, ∃ cs, e x = .agg cs) (hnn : ∀ x ∈ L, NN (e x))
  (c : β → β → Int) (hO : OrdOn L c) (hc : ∀ x ∈ L, ∀ y ∈ L, PureC P [] g [e x, e y] (.int .i64 (c x y))) :
  ACalls P [] F [.sl 0 0 L.length, .fn (.func g) [] []] [(0, .row t k (L.map e))] 1 fun r m n => r = .tup [] ∧ n = 1 ∧ ∃ ys, SortedOf L ys c ∧ m = [(0, .row t k (ys.map e))] := by
 obtain ⟨xs, hxs⟩ : ∃ xs, xs = L.map e := ⟨_, rfl⟩
 have hxl : L.length = xs.length := by rw [hxs]; simp
 rw [← hxs, hxl]
 rw [hxl] at h0 hlen
 refine ⟨fun X D ρ w vs hD hm hv => ?_⟩
 obtain ⟨hl, hv⟩ := hv
 match vs, hl with
 | [s, fv], _ =>
  have v0 := hv 0 _ s rfl rfl
  have v1 := hv 1 _ fv rfl rfl
  have hid : lk [(0, AB.row t k xs)] 0 = some (.row t k xs) := rfl
  have hsz := row_sz hm hid
  have hn : 0 < (ρ 0).n := by
   rcases Nat.eq_zero_or_pos (ρ 0).n with h | h
   ·obtain ⟨t', sz', e1, _⟩ := hm.emp _ (lk_mem hid) h
    injection e1 with _ _ e2
    rw [e2] at h0
    simp at h0
   ·exact h
  obtain ⟨o, ho, hsz', arr, fr, rfl, hf, hs, hle, hrow⟩ := hm.blk _ (lk_mem hid) hn
  simp only at ho hsz' hs hle hrow
  rw [hsz] at hrow hle
  have hlt := own_lt hm (.inr ⟨_, lk_mem hid, hn, rfl⟩)
  simp only at hlt
  obtain ⟨n, hne⟩ : ∃ n, n = xs.length := ⟨_, rfl⟩
  rw [← hne] at v0 h0 hlen hle
  have hso : ∃ cap, s = .slice (some ⟨(ρ 0).b, 0, none⟩) n cap := by
   cases v0 with
   | sl _ _ _ cap _ h1 h2 => exact ⟨cap, by rw [Nat.zero_mul]⟩
   | slz => omega
   | slzn => omega
  obtain ⟨cap, rfl⟩ := hso
  have hfv : fv = .func (.func g) #[] #[] := by
   cases v1 with
   | fn f a b a1 a2 l1 l2 _ _ =>
    have e1 : a1 = #[] := Array.eq_empty_of_size_eq_zero l1.symm
    have e2 : a2 = #[] := Array.eq_empty_of_size_eq_zero l2.symm
    rw [e1, e2]
  subst hfv
  have hx : ∀ i, i < n → ∃ x, xs[i]? = some x ∧ x ∈ xs ∧ xs.getD i .junk = x := fun i hi => by
   refine ⟨xs[i], List.getElem?_eq_getElem (by omega), List.getElem_mem _, ?_⟩
   rw [List.getD_eq_getElem?_getD, List.getElem?_eq_getElem (by omega)]; rfl
  have hcl : ∀ i, i < n → ∀ j, j < k → ∃ cv v, (xs.getD i .junk).cells[j]? = some cv ∧ arr[i * k + j]? = some v ∧ v.oneCell' = true ∧ VR ρ D (OX X ρ [(0, .row t k xs)]) w cv v := fun i hi j hj => by
   obtain ⟨x, h1, h2, h3⟩ := hx i hi
   obtain ⟨h4, h5⟩ := hrow i x h1
   rw [h3]
   have h6 : x.cells[j]? = some x.cells[j] := List.getElem?_eq_getElem (by omega)
   obtain ⟨v, hv1, hv2, hv3⟩ := h5 j _ h6
   exact ⟨_, v, h6, hv1, hv2, hv3⟩
  have hmin : ∀ i, min i (n - 1) < n := fun i => by omega
  obtain ⟨enc, henc⟩ : ∃ enc : Nat → List Value, enc = cellsAt arr k n := ⟨_, rfl⟩
  obtain ⟨lv, hlv⟩ : ∃ lv : Nat → β, lv = fun i => L.getD (min i (n - 1)) default := ⟨_, rfl⟩
  have hlm : ∀ i, lv i ∈ L := fun i => by
   have hi := hmin i
   rw [hlv]; simp only
   rw [List.getD_eq_getElem?_getD, List.getElem?_eq_getElem (by omega)]
   exact List.getElem_mem _
  obtain ⟨el, hel0⟩ : ∃ el : Nat → AV, el = fun i => e (lv i) := ⟨_, rfl⟩
  have hel : el = fun i => xs.getD (min i (n - 1)) .junk := by
   funext i
   have hi := hmin i
   rw [hel0, hlv, hxs]; simp only
   rw [List.getD_eq_getElem?_getD, List.getD_eq_getElem?_getD, List.getElem?_map, List.getElem?_eq_getElem (by omega)]; rfl
  have hek : ∀ x, (enc x).length = k := fun x => by rw [henc]; exact cellsAt_len _ _ _ _
  have heg : ∀ x j, j < k → (enc x)[j]? = some (arr.getD (min x (n - 1) * k + j) undef) := fun x j hj => by rw [henc]; exact cellsAt_get hj
  have he1 : ∀ x, ∀ v ∈ enc x, v.oneCell' = true := fun x v hv => by
   obtain ⟨j, hj, rfl⟩ := List.getElem_of_mem hv
   have hj' : j < k := by rw [hek] at hj; exact hj
   obtain ⟨cv, v, a1, a2, a3, a4⟩ := hcl _ (hmin x) j hj'
   have := heg x j hj'
   rw [List.getElem?_eq_getElem hj] at this
   rw [Option.some.inj this, Array.getD_eq_getD_getElem?, a2]
   exact a3
  have hlarr : ∀ i, i < n → ∀ j, j < k → i * k + j < arr.size := fun i hi j hj => by
   obtain ⟨cv, v, a1, a2, a3, a4⟩ := hcl i hi j hj
   exact (Array.getElem?_eq_some_iff.1 a2).1
  obtain ⟨d, hd⟩ : ∃ d : Array Nat, d = Array.range n := ⟨_, rfl⟩
  have hdn : d.size = n := by rw [hd]; simp
  have hnk : n * k ≤ arr.size := by rw [hs]; exact hle
  have hH : HoldsK enc k w (ρ 0).b 0 d := by
   unfold HoldsK Holds
   intro j hj
   rw [size_flatK, hdn] at hj
   rw [get_flatK _ _ _ _ (by rw [hdn]; exact hj)]
   have hq : j / k < n := Nat.div_lt_of_lt_mul (by rw [Nat.mul_comm]; exact hj)
   have hr : j % k < k := Nat.mod_lt _ hk0
   have hdj : d[j / k]! = j / k := by rw [hd, getElem!_pos _ _ (by simpa using hq)]; simp
   rw [hdj]
   have hg := heg (j / k) (j % k) hr
   rw [show min (j / k) (n - 1) = j / k by omega, show j / k * k + j % k = j by rw [Nat.mul_comm]; exact Nat.div_add_mod j k] at hg
   have hja : j < arr.size := by omega
   have e : (enc (j / k))[j % k]! = arr[j] := by
    rw [getElem!_pos _ _ (by rw [hek]; exact hr)]
    rw [List.getElem?_eq_getElem (by rw [hek]; exact hr)] at hg
    rw [Option.some.inj hg, Array.getD_eq_getD_getElem?, Array.getElem?_eq_getElem hja]; rfl
   rw [e]
   constructor
   ·simp only [World.cell?, ho, Nat.zero_add]
    rw [if_neg (by simp), Array.getElem?_eq_getElem hja]; rfl
   ·simp only [World.frozen?, ho, Nat.zero_add]
    have := hf j hja
    obtain ⟨a, b⟩ := fr
    simp only at this ⊢
    rw [Bool.and_eq_false_iff]
    simp
    omega
  obtain ⟨cf, hcf⟩ : ∃ cf : Nat → Nat → Int, cf = fun x y => c (lv x) (lv y) := ⟨_, rfl⟩
  have hSW : SWO (ltOf cf) := by
   refine ⟨fun x => ?_, fun x y z h1 h2 => ?_, fun x y z h1 h2 => ?_⟩
   ·simp only [ltOf, hcf]; exact decide_eq_false (hO.irrefl _ (hlm x))
   ·simp only [ltOf, hcf] at h1 h2 ⊢
    exact decide_eq_true (hO.trans _ (hlm x) _ (hlm y) _ (hlm z) (of_decide_eq_true h1) (of_decide_eq_true h2))
   ·simp only [ltOf, hcf] at h1 h2 ⊢
    exact decide_eq_false (hO.ntrans _ (hlm x) _ (hlm y) _ (hlm z) (of_decide_eq_false h1) (of_decide_eq_false h2))
  obtain ⟨O, hOe⟩ : ∃ O, O = OX X ρ [(0, .row t k xs)] := ⟨_, rfl⟩
  rw [← hOe] at hcl
  have hOb : O (ρ 0).b := by rw [hOe]; exact .inr ⟨_, lk_mem hid, hn, rfl⟩
  have hev : ∀ x, VR ρ D O w (el x) (.agg (enc x).toArray) := fun x => by
   obtain ⟨cs, hcs⟩ := hagg _ (hlm x)
   rw [show e (lv x) = el x by rw [hel0]] at hcs
   obtain ⟨ex, h1, h2, h3⟩ := hx _ (hmin x)
   have hee : ex = el x := by rw [hel]; exact h3.symm
   have hlen' := (hrow _ ex h1).1
   rw [hee, hcs] at hlen'
   have hcl' := hcl _ (hmin x)
   rw [show xs.getD (min x (n - 1)) .junk = el x by rw [hel], hcs] at hcl'
   rw [hcs]
   refine .agg cs _ (by have hl' : cs.length = k := hlen'; rw [hl']; simp [hek]) (fun v hv => he1 x v (by simpa using hv)) (fun j cv v hj hv => ?_)
   have hjk : j < k := by have := (List.getElem?_eq_some_iff.1 hj).1; rw [← hlen']; exact this
   obtain ⟨cv', v', a1, a2, a3, a4⟩ := hcl' j hjk
   have a1' : cs[j]? = some cv' := a1
   rw [hj] at a1'
   cases a1'
   have hvv : v = v' := by
    have := heg x j hjk
    rw [List.getElem?_toArray, this, Array.getD_eq_getD_getElem?, a2] at hv
    exact (Option.some.inj hv).symm
   rw [hvv]; exact a4
  have hcmp : CmpLays P g #[] enc k cf (ρ 0).b 0 d.size w := by
   intro m os dk hdk x y
   have hWh : ∀ b, b < w.heap.size → b ≠ (ρ 0).b → (sortWorldK enc k w (ρ 0).b 0 m dk os).heap[b]? = w.heap[b]? := fun b hb hne => by
    show ((w.heap.modify (ρ 0).b _) ++ os)[b]? = _
    rw [Array.getElem?_append_left (by simpa using hb), Array.getElem?_modify, if_neg (Ne.symm hne)]
   have hWs : w.heap.size ≤ (sortWorldK enc k w (ρ 0).b 0 m dk os).heap.size := size_sortWorldK_c enc k w (ρ 0).b 0 m dk os
   generalize sortWorldK enc k w (ρ 0).b 0 m dk os = W at hWh hWs ⊢
   have hat : ∀ z, VR ρ (fun _ => False) (OX (fun _ => False) ρ []) W (el z) (.agg (enc z).toArray) := fun z => by
    have a1 : VR ρ D (fun b => b = (ρ 0).b) w (el z) (.agg (enc z).toArray) := NN.vr (hev z) (fun b _ hb e => hb (by rw [e]; exact hOb)) (by rw [hel0]; exact hnn _ (hlm z))
    have a2 := a1.mono (w' := W) (ρ' := ρ) (D' := D) (O' := fun b => b = (ρ 0).b) (fun _ _ => rfl) (fun _ h => h) (fun b hb hne => ⟨hne, hWh b hb hne⟩)
    exact NN.vr a2 (fun b _ _ h => by rcases h with h | ⟨p, hp, _⟩; exact h; cases hp) (by rw [hel0]; exact hnn _ (hlm z))
   have hcc := hc _ (hlm x) _ (hlm y)
   rw [show e (lv x) = el x by rw [hel0], show e (lv y) = el y by rw [hel0]] at hcc
   have hcall := hcc.run (fun _ => False) (fun _ => False) ρ W [.agg (enc x).toArray, .agg (enc y).toArray] (fun i h => h.elim)
    ⟨fun p hp => (by cases hp), fun p hp => (by cases hp), fun p hp => (by cases hp), fun p hp => (by cases hp), by simp, fun b h => h.elim, fun p hp => (by cases hp)⟩ (.cons (hat x) (.cons (hat y) .nil))
   rw [Array.append_empty]
   refine hcall.mono ?_
   rintro e w' ⟨r, v, mem', nx', ρ', rfl, ⟨rfl, rfl, rfl⟩, _, _, hr, hext⟩
   cases hr
   refine ⟨by rw [hcf], w'.drawn - W.drawn, w'.heap.extract W.heap.size w'.heap.size, ?_⟩
   have h1 := hext.env
   have h2 : w'.heap = W.heap ++ w'.heap.extract W.heap.size w'.heap.size := by
    apply Array.ext_getElem?
    intro b
    rcases Nat.lt_or_ge b W.heap.size with hb | hb
    ·rw [Array.getElem?_append_left hb, hext.keep b hb (fun ⟨p, hp, _⟩ => by cases hp)]
    ·rw [Array.getElem?_append_right hb, Array.getElem?_extract]
     have := hext.size
     split
     ·congr 1; omega
     ·rw [Array.getElem?_eq_none (by omega)]
   have h3 : W.drawn + (w'.drawn - W.drawn) = w'.drawn := by have := h1.drawn; omega
   cases w'
   unfold grow World.drewN
   simp only at h1 h2 h3 ⊢
   rw [h3, ← h2, ← h1.os, ← h1.output, ← h1.tape]
  have hres := hF enc hek he1 cf hSW g #[] (ρ 0).b 0 cap d w eg hcmp hH hlt (by omega)
  rw [hdn] at hres
  refine hres.mono ?_
  rintro e w' ⟨rfl, d', q, os, ⟨p1, _, p3⟩, hsort, rfl⟩
  rw [hdn] at p1
  have hys : ∀ i, i < n → d'[i]? = some d'[i]! := fun i hi => by rw [getElem!_pos d' i (by omega), Array.getElem?_eq_getElem]
  have hW1 : (putRowK enc k (Sort.ahead w q) (ρ 0).b 0 d').heap = w.heap.setIfInBounds (ρ 0).b (.cells (putCells id 0 (flatK enc k d') arr) t fr) := by
   apply Array.ext_getElem?
   intro b
   show (w.heap.modify (ρ 0).b (Sort.onCells _))[b]? = _
   rw [Array.getElem?_modify, Array.getElem?_setIfInBounds]
   by_cases hk : (ρ 0).b = b
   ·subst hk
    rw [if_pos rfl, if_pos rfl, if_pos hlt, ho]
    rfl
   ·rw [if_neg hk, if_neg hk]
  obtain ⟨m1, mv, ext⟩ := hm.change (w' := putRowK enc k (Sort.ahead w q) (ρ 0).b 0 d') (xs' := d'.toList.map el) (arr := putCells id 0 (flatK enc k d') arr) (fr := fr) hid hn hW1 .go
   (fun j hj => hf j (by simpa [putCells] using hj)) (by rw [← hs]; simp [putCells])
   (by
    refine ⟨by simp [putCells, p1]; exact hnk, fun i x hi => ?_⟩
    rw [List.getElem?_map] at hi
    obtain ⟨q0, he, rfl⟩ := Option.map_eq_some_iff.1 hi
    have hin : i < n := by have := (List.getElem?_eq_some_iff.1 he).1; simpa [p1] using this
    have hde : d'[i]! = q0 := by
     have := hys i hin
     rw [← Array.getElem?_toList, he] at this
     exact (Option.some.inj this).symm
    obtain ⟨x, h1, h2, h3⟩ := hx _ (hmin q0)
    have hxe : x = el q0 := by rw [hel]; exact h3.symm
    have hlen' := (hrow _ x h1).1
    rw [hxe] at hlen'
    refine ⟨hlen', fun j cv hj => ?_⟩
    have hjk : j < k := by have := (List.getElem?_eq_some_iff.1 hj).1; rw [← hlen']; exact this
    obtain ⟨cv', v, a1, a2, a3, a4⟩ := hcl _ (hmin q0) j hjk
    have a1' : (el q0).cells[j]? = some cv' := by rw [hel]; exact a1
    rw [hj] at a1'
    cases a1'
    refine ⟨v, ?_, a3, hOe ▸ a4⟩
    have hlt2 : i * k + j < n * k := by
     have : (i + 1) * k ≤ n * k := Nat.mul_le_mul_right k hin
     rw [Nat.add_mul, Nat.one_mul] at this
     omega
    have hF1 : (flatK enc k d')[i * k + j]! = v := by
     rw [get_flatK _ _ _ _ (by rw [p1]; exact hlt2)]
     rw [show (i * k + j) / k = i by rw [Nat.mul_comm, Nat.mul_add_div hk0, Nat.div_eq_of_lt hjk, Nat.add_zero], show (i * k + j) % k = j by rw [Nat.mul_comm, Nat.mul_add_mod, Nat.mod_eq_of_lt hjk], hde]
     have hg := heg q0 j hjk
     rw [Array.getD_eq_getD_getElem?, a2] at hg
     rw [getElem!_pos _ _ (by rw [hek]; exact hjk)]
     rw [List.getElem?_eq_getElem (by rw [hek]; exact hjk)] at hg
     exact Option.some.inj hg
    unfold putCells
    rw [Array.getElem?_mapIdx, Array.getElem?_eq_getElem (show i * k + j < arr.size by omega), Option.map_some]
    rw [if_pos ⟨Nat.zero_le _, by rw [Nat.zero_add, size_flatK, p1]; exact hlt2⟩]
    simp only [Nat.sub_zero, id, hF1])
  obtain ⟨m2, ext2⟩ := m1.still (w' := sortWorldK enc k w (ρ 0).b 0 q d' os) (by unfold sortWorldK; rw [size_grow]; omega) (fun b hb => by
   unfold sortWorldK grow
   rw [Array.getElem?_append_left hb]) .go
  have hsub : ∀ i, D i → dn D 1 1 i := fun i hi => .inl hi
  refine ⟨.tup [], .tuple #[], _, 1, ρ, rfl, ⟨rfl, rfl, d'.toList.map lv, ⟨?_, fun i j x y hij hi hj => ?_⟩, by simp [up, hel0]⟩, Nat.le_refl _, (m2.widen hsub).1, .tup [] #[] rfl (by simp), ((ext D fun i hi => hi).trans (ext2 D fun i hi => hi)).wide hsub⟩
  ·have hp : d'.toList.Perm (List.range n) := by
    have e1 : (d'.extract 0 n) = d' := by rw [← p1]; simp
    have e2 : (d.extract 0 n) = d := by rw [← hdn]; simp
    rw [e1, e2] at p3
    rw [hd] at p3
    simpa using p3
   have h1 := hp.map lv
   have h2 : (List.range n).map lv = L := by
    apply List.ext_getElem?
    intro i
    rw [List.getElem?_map]
    rcases Nat.lt_or_ge i n with hi | hi
    ·rw [List.getElem?_range hi, Option.map_some, hlv]
     simp only
     rw [show min i (n - 1) = i by omega, List.getD_eq_getElem?_getD, List.getElem?_eq_getElem (by omega)]; rfl
    ·rw [List.getElem?_eq_none (by simpa using hi), List.getElem?_eq_none (by omega)]; rfl
   rw [h2] at h1
   exact h1
  ·rw [List.getElem?_map] at hi hj
   obtain ⟨a, ha, rfl⟩ := Option.map_eq_some_iff.1 hi
   obtain ⟨b, hb, rfl⟩ := Option.map_eq_some_iff.1 hj
   have hjn : j < n := by have := (List.getElem?_eq_some_iff.1 hb).1; simpa [p1] using this
   have hia : d'[i]! = a := by
    have := hys i (by omega)
    rw [← Array.getElem?_toList, ha] at this
    exact (Option.some.inj this).symm
   have hjb : d'[j]! = b := by
    have := hys j hjn
    rw [← Array.getElem?_toList, hb] at this
    exact (Option.some.inj this).symm
   have := hsort i j (Nat.zero_le _) hij hjn
   rw [hia, hjb] at this
   simp only [ltOf, hcf] at this
   exact of_decide_eq_false this
end
end Go.Ax
