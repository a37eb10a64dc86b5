/- A part of the proof. -/
import Derived.Test.YtbannipihdlofaaGreatDoorAx10
set_option linter.unusedVariables false
namespace Go.Proofs.YtbannipihdlofaaGreatDoor
open Go Go.Ax Go.Proofs
set_option maxRecDepth 100000
set_option maxHeartbeats 16000000
set_option linter.unusedSimpArgs false
theorem encU_take (l : List Nat) (k : Nat) : (encU l).take k = encU (l.take k) := by unfold encU; rw [List.map_take]
theorem blt_i {i n : Nat} (h : i < n) : Nat.blt ((i : Nat) : Int).toNat n = true := Nat.ble_eq_true_of_le (by simp; omega)
theorem getU {l : List Nat} {i d : Nat} (h : l[i]? = some d) : (encU l)[((i : Nat) : Int).toNat]? = some (.int .u32 (d : Int)) := by rw [Int.toNat_natCast, encU_get, h]; rfl
theorem getU0 {l : List Nat} {i d : Nat} (h : l[i]? = some d) : (encU l)[0 + ((i : Nat) : Int).toNat]? = some (.int .u32 (d : Int)) := by rw [Nat.zero_add]; exact getU h
theorem sl_ok {j n : Nat} (h : j ≤ n) : (Nat.ble 0 ((j : Nat) : Int).toNat && (Nat.ble ((j : Nat) : Int).toNat n && Nat.ble n n)) = true := by
 rw [Int.toNat_natCast, Nat.ble_eq_true_of_le (Nat.zero_le _), Nat.ble_eq_true_of_le h, Nat.ble_eq_true_of_le (Nat.le_refl _)]; rfl
theorem wTrim (l : List Nat) (hl : l.length ≤ 4294967296) : PureC Tryz.prog [] 69 [.il 1 (encU l)] (.il 1 (encU (trimZ l))) := by
 refine acalls_go nnΓ Tryz.func69 rfl ?_
 ((conv=>whnf);repeat(refine Xg ?_;conv=>whnf))
 refine ALoop.at nnΓ (fun k : Nat => k ≤ l.length ∧ trimZ (l.take k) = trimZ l) (fun k => ⟨[(0, .il 1 (encU (l.take k)))], [], 0, 21⟩) (fun k => k) l.length [] ⟨Nat.le_refl _, by rw [List.take_length]⟩
  (conv_pure ⟨⟨_, rfl, .eq (.il' (encU_nn _)) (by rw [List.take_length])⟩, trivial⟩) ?_
 rintro k ⟨hk, ht⟩
 ((conv=>whnf);repeat(refine Xg ?_;conv=>whnf))
 have hlk : (encU (l.take k)).length = k := by rw [encU_length, List.length_take]; omega
 rw [hlk]
 refine bcs_mk (fun hb => ?_) (fun hb => ?_)
 ·rw [hb]
  have hk0 : 0 < k := by simpa using hb
  obtain ⟨j, rfl⟩ : ∃ j, k = j + 1 := ⟨k - 1, by omega⟩
  obtain ⟨d, hd⟩ : ∃ d, l[j]? = some d := ⟨_, List.getElem?_eq_getElem (by omega)⟩
  have hw : IntKind.i64.wrap (((j + 1 : Nat) : Int) - 1) = (j : Int) := by rw [wrap64 ⟨by omega, by omega⟩]; omega
  have hg : (l.take (j + 1))[j]? = some d := by rw [List.getElem?_take, if_pos (by omega)]; exact hd
  have e1 := getU hg
  have hts : trimZ (l.take (j + 1)) = if d = 0 then trimZ (l.take j) else l.take (j + 1) := by
   have e := take_snoc hd
   rw [e, trimZ_snoc]
  ((conv=>whnf);repeat(refine Xg ?_;conv=>whnf))
  rw [hlk, hw]
  refine opt_mk e1 ?_
  ((conv=>whnf);repeat(refine Xg ?_;conv=>whnf))
  repeat (refine ⟨rfl, ?_⟩; ((conv=>whnf);repeat(refine Xg ?_;conv=>whnf)))
  refine bcs_mk (fun hc => ?_) (fun hc => ?_)
  ·have hd0 : d = 0 := by simpa using hc
   ((conv=>whnf);repeat(refine Xg ?_;conv=>whnf))
   rw [hlk, hw]
   refine grd_mk (sl_ok (by omega)) ?_
   ((conv=>whnf);repeat(refine Xg ?_;conv=>whnf))
   exact .mk j [] ⟨by omega, by rw [if_pos hd0] at hts; rw [← hts]; exact ht⟩ (conv_pure ⟨⟨_, rfl, .eq (.il' (encU_nn _)) (by simp [encU, ← List.map_take, List.take_take])⟩, trivial⟩) (by omega)
  ·((conv=>whnf);repeat(refine Xg ?_;conv=>whnf))
   have hd0 : d ≠ 0 := by simpa using hc
   rw [if_neg hd0] at hts
   rw [← ht, hts]
   exact fin_pure (.il' (encU_nn _)) ⟨rfl, rfl, rfl⟩
 ·try rw [hb]
  have hk0 : k = 0 := by simp at hb; omega
  subst hk0
  ((conv=>whnf);repeat(refine Xg ?_;conv=>whnf))
  rw [← ht]
  exact fin_pure (.il' (encU_nn _)) ⟨rfl, rfl, rfl⟩
theorem wCmp (x y : Nat) (hx : (dg 4294967296 x).length ≤ 4294967296) : PureC Tryz.prog [] 66 [.il 1 (encU (dg 4294967296 x)), .il 1 (encU (dg 4294967296 y))] (.int .i64 (cmpJ x y)) := by
 refine acalls_go nnΓ Tryz.func66 rfl ?_
 ((conv=>whnf);repeat(refine Xg ?_;conv=>whnf))
 rw [encU_length, encU_length]
 have hB : (2 : Nat) ≤ 4294967296 := by decide
 have hla := dg_lt hB x
 have hlb := dg_lt hB y
 have hva := vl_dg hB x
 have hvb := vl_dg hB y
 have hL : (dg 4294967296 x).length < (dg 4294967296 y).length → cmpJ (x : Int) y = -1 := fun h => by have := dg_len_lt hB h; unfold cmpJ; rw [if_pos (by omega)]
 have hG : (dg 4294967296 y).length < (dg 4294967296 x).length → cmpJ (x : Int) y = 1 := fun h => by have := dg_len_lt hB h; unfold cmpJ; rw [if_neg (by omega), if_pos (by omega)]
 generalize dg 4294967296 x = a at *
 generalize dg 4294967296 y = b at *
 refine bcs_mk (fun hb => ?_) (fun hb => ?_)
 ·have hne : a.length ≠ b.length := fun e => by rw [e] at hb; simp at hb
  ((conv=>whnf);repeat(refine Xg ?_;conv=>whnf))
  rw [encU_length, encU_length]
  refine bcs_mk (fun hc => ?_) (fun hc => ?_)
  ·((conv=>whnf);repeat(refine Xg ?_;conv=>whnf))
   rw [hL (by simpa using hc)]
   exact fin_pure nn ⟨rfl, rfl, rfl⟩
  ·((conv=>whnf);repeat(refine Xg ?_;conv=>whnf))
   rw [hG (by simp at hc; omega)]
   exact fin_pure nn ⟨rfl, rfl, rfl⟩
 ·have heq : a.length = b.length := by simp at hb; omega
  ((conv=>whnf);repeat(refine Xg ?_;conv=>whnf))
  refine ALoop.at nnΓ (fun m : Nat => m ≤ a.length ∧ a.drop m = b.drop m) (fun m => ⟨[(0, .il 1 (encU a)), (1, .il 1 (encU b)), (5, .int .i64 ((m : Int) - 1))], [], 0, 41⟩) (fun m => m) a.length [] ⟨Nat.le_refl _, by rw [List.drop_length, heq, List.drop_length]⟩
   (conv_pure ⟨⟨_, rfl, .same _ (.il' (encU_nn _))⟩, ⟨_, rfl, .same _ (.il' (encU_nn _))⟩, ⟨_, rfl, .w64 (by rw [encU_length]) ⟨by omega, by omega⟩⟩, trivial⟩) ?_
  rintro m ⟨hm, hd⟩
  ((conv=>whnf);repeat(refine Xg ?_;conv=>whnf))
  refine bcs_mk (fun hc => ?_) (fun hc => ?_)
  ·have hm1 : 0 < m := by simp at hc; omega
   obtain ⟨i, rfl⟩ : ∃ i, m = i + 1 := ⟨m - 1, by omega⟩
   rw [show (((i + 1 : Nat) : Int) - 1) = (i : Int) by omega]
   obtain ⟨u, hu⟩ : ∃ u, a[i]? = some u := ⟨_, List.getElem?_eq_getElem (by omega)⟩
   obtain ⟨v, hv⟩ : ∃ v, b[i]? = some v := ⟨_, List.getElem?_eq_getElem (by omega)⟩
   have e1 := getU hu
   have e2 := getU hv
   ((conv=>whnf);repeat(refine Xg ?_;conv=>whnf))
   repeat ((first | refine opt_mk e1 ?_ | refine opt_mk e2 ?_ | refine ⟨rfl, ?_⟩); ((conv=>whnf);repeat(refine Xg ?_;conv=>whnf)))
   refine bcs_mk (fun hc => ?_) (fun hc => ?_)
   ·have huv : u < v := by simp at hc; omega
    have := vl_lt_of_top hla hB hd hu hv huv heq
    ((conv=>whnf);repeat(refine Xg ?_;conv=>whnf))
    rw [show cmpJ (x : Int) y = -1 by unfold cmpJ; rw [if_pos (by omega)]]
    exact fin_pure nn ⟨rfl, rfl, rfl⟩
   ·((conv=>whnf);repeat(refine Xg ?_;conv=>whnf))
    repeat ((first | refine opt_mk e1 ?_ | refine opt_mk e2 ?_ | refine ⟨rfl, ?_⟩); ((conv=>whnf);repeat(refine Xg ?_;conv=>whnf)))
    refine bcs_mk (fun hc2 => ?_) (fun hc2 => ?_)
    ·have huv : v < u := by simp at hc2; omega
     have := vl_lt_of_top hlb hB hd.symm hv hu huv heq.symm
     ((conv=>whnf);repeat(refine Xg ?_;conv=>whnf))
     rw [show cmpJ (x : Int) y = 1 by unfold cmpJ; rw [if_neg (by omega), if_pos (by omega)]]
     exact fin_pure nn ⟨rfl, rfl, rfl⟩
    ·have huv : u = v := by simp at hc hc2; omega
     ((conv=>whnf);repeat(refine Xg ?_;conv=>whnf))
     exact .mk i [] ⟨by omega, by
       obtain ⟨h1, h2⟩ := List.getElem?_eq_some_iff.1 hu
       obtain ⟨h3, h4⟩ := List.getElem?_eq_some_iff.1 hv
       rw [List.drop_eq_getElem_cons h1, List.drop_eq_getElem_cons h3, h2, h4, huv, hd]⟩
      (conv_pure ⟨⟨_, rfl, .same _ (.il' (encU_nn _))⟩, ⟨_, rfl, .same _ (.il' (encU_nn _))⟩, ⟨_, rfl, .w64 rfl ⟨by omega, by omega⟩⟩, trivial⟩) (by omega)
  ·have hm0 : m = 0 := by simp at hc; omega
   subst hm0
   simp only [List.drop_zero] at hd
   subst hd
   ((conv=>whnf);repeat(refine Xg ?_;conv=>whnf))
   rw [show cmpJ (x : Int) y = 0 by rw [← hva, hvb]; simp [cmpJ]]
   exact fin_pure nn ⟨rfl, rfl, rfl⟩
set_option maxHeartbeats 16000000
set_option linter.unusedSimpArgs false
theorem hT : (2 : Nat) ≤ 10000 := by decide
theorem tD (l : List Nat) : NN (.il 1 (encD l)) := .il' (encD_nn l)
theorem tBo (b : Bool) : NN (.bool b) := .bool b
theorem agR (b : Bool) (l : List Nat) : NN (.agg [.bool b, .il 1 (encD l)]) := .agg' (.cons (tBo _) (.cons (tD _) .nil))
theorem ag0 : NNs [.agg [.bool false, .nsl]] := .cons (.agg' (.cons (tBo _) (.cons .nsl .nil))) .nil
theorem encR_eq (x : Int) : encR x = .agg [.bool (decide (x < 0)), .il 1 (encD (dg 10000 x.natAbs))] := rfl
theorem encR_sg (neg : Bool) (n : Nat) : encR (sg neg n) = .agg [.bool (neg && decide (0 < n)), .il 1 (encD (dg 10000 n))] := by
 unfold encR; rw [sg_abs, sg_neg]
theorem getDn {l : List Nat} {i d : Nat} (h : l[i]? = some d) : (encD l)[((i : Nat) : Int).toNat]? = some (.int .i64 (d : Int)) := by rw [Int.toNat_natCast, encD_get, h]; rfl
theorem getD0 {l : List Nat} {i d : Nat} (h : l[i]? = some d) : (encD l)[0 + ((i : Nat) : Int).toNat]? = some (.int .i64 (d : Int)) := by rw [Nat.zero_add]; exact getDn h
theorem encD_drop (l : List Nat) (k : Nat) : (encD l).drop k = encD (l.drop k) := by unfold encD; rw [List.map_drop]
theorem rNormalL (neg : Bool) (l : List Nat) (hl : l.length ≤ 4294967296) : PureC Tryz.prog [] 77 [.bool neg, .il 1 (encD l)] (.agg [.bool (neg && decide (0 < (trimZ l).length)), .il 1 (encD (trimZ l))]) := by
 refine acalls_go nnΓ Tryz.func77 rfl ?_
 ((conv=>whnf);repeat(refine Xg ?_;conv=>whnf))
 refine ALoop.at nnΓ (fun k : Nat => k ≤ l.length ∧ trimZ (l.take k) = trimZ l) (fun k => ⟨[(0, .bool neg), (1, .il 1 (encD (l.take k))), (4, .ptr 0 0 0)], [(0, .row 43 2 [.agg [.bool false, .nsl]])], 1, 30⟩) (fun k => k) l.length [(0, 0)] ⟨Nat.le_refl _, by rw [List.take_length]⟩
  (conv_mk _ rfl ⟨⟨0, _, rfl, rfl, .same ag0⟩, trivial⟩ ⟨⟨_, rfl, .same _ (tBo _)⟩, ⟨_, rfl, .eq (tD _) (by rw [List.take_length])⟩, ⟨_, rfl, .ptr 0 0 0 0 rfl⟩, trivial⟩) ?_
 rintro k ⟨hk, ht⟩
 ((conv=>whnf);repeat(refine Xg ?_;conv=>whnf))
 have hlk : (encD (l.take k)).length = k := by rw [encD_length, List.length_take]; omega
 rw [hlk]
 refine bcs_mk (fun hb => ?_) (fun hb => ?_)
 ·rw [hb]
  have hk0 : 0 < k := by simpa using hb
  obtain ⟨j, rfl⟩ : ∃ j, k = j + 1 := ⟨k - 1, by omega⟩
  obtain ⟨d, hd⟩ : ∃ d, l[j]? = some d := ⟨_, List.getElem?_eq_getElem (by omega)⟩
  have hw : IntKind.i64.wrap (((j + 1 : Nat) : Int) - 1) = (j : Int) := by rw [wrap64 ⟨by omega, by omega⟩]; omega
  have hg : (l.take (j + 1))[j]? = some d := by rw [List.getElem?_take, if_pos (by omega)]; exact hd
  have e1 := getDn hg
  have hts : trimZ (l.take (j + 1)) = if d = 0 then trimZ (l.take j) else l.take (j + 1) := by
   have e := take_snoc hd
   rw [e, trimZ_snoc]
  ((conv=>whnf);repeat(refine Xg ?_;conv=>whnf))
  rw [hlk, hw]
  refine opt_mk e1 ?_
  ((conv=>whnf);repeat(refine Xg ?_;conv=>whnf))
  repeat (refine ⟨rfl, ?_⟩; ((conv=>whnf);repeat(refine Xg ?_;conv=>whnf)))
  refine bcs_mk (fun hc => ?_) (fun hc => ?_)
  ·have hd0 : d = 0 := by simpa using hc
   ((conv=>whnf);repeat(refine Xg ?_;conv=>whnf))
   rw [hlk, hw]
   refine grd_mk (sl_ok (by omega)) ?_
   ((conv=>whnf);repeat(refine Xg ?_;conv=>whnf))
   exact .mk j [(0, 0)] ⟨by omega, by rw [if_pos hd0] at hts; rw [← hts]; exact ht⟩ (conv_mk _ rfl ⟨⟨0, _, rfl, rfl, .same ag0⟩, trivial⟩ ⟨⟨_, rfl, .same _ (tBo _)⟩, ⟨_, rfl, .eq (tD _) (by simp [encD, ← List.map_take, List.take_take])⟩, ⟨_, rfl, .ptr 0 0 0 0 rfl⟩, trivial⟩) (by omega)
  ·have hd0 : d ≠ 0 := by simpa using hc
   rw [if_neg hd0] at hts
   rw [hts] at ht
   rw [← ht]
   generalize hL : l.take (j + 1) = L at *
   have hpos : decide (((encD L).length : Int) > 0) = decide (0 < L.length) := by rw [encD_length, decide_eq_decide]; omega
   cases neg with
   | false =>
    ((conv=>whnf);repeat(refine Xg ?_;conv=>whnf))
    repeat ((first | refine setK_iff.2 ?_ | refine ⟨rfl, ?_⟩); ((conv=>whnf);repeat(refine Xg ?_;conv=>whnf)))
    exact fin_pure (agR _ _) ⟨rfl, rfl, rfl⟩
   | true =>
    ((conv=>whnf);repeat(refine Xg ?_;conv=>whnf))
    rw [hpos]
    repeat ((first | refine setK_iff.2 ?_ | refine ⟨rfl, ?_⟩); ((conv=>whnf);repeat(refine Xg ?_;conv=>whnf)))
    exact fin_pure (agR _ _) ⟨rfl, rfl, rfl⟩
 ·try rw [hb]
  have hk0 : k = 0 := by simp at hb; omega
  subst hk0
  rw [← ht]
  generalize hL : l.take 0 = L at *
  have hL0 : L = [] := by rw [← hL]; rfl
  subst hL0
  have hpos : decide ((((encD []) : List AV).length : Int) > 0) = false := by rfl
  cases neg with
  | false =>
   ((conv=>whnf);repeat(refine Xg ?_;conv=>whnf))
   repeat ((first | refine setK_iff.2 ?_ | refine ⟨rfl, ?_⟩); ((conv=>whnf);repeat(refine Xg ?_;conv=>whnf)))
   exact fin_pure (agR _ _) ⟨rfl, rfl, rfl⟩
  | true =>
   ((conv=>whnf);repeat(refine Xg ?_;conv=>whnf))
   repeat ((first | refine setK_iff.2 ?_ | refine ⟨rfl, ?_⟩); ((conv=>whnf);repeat(refine Xg ?_;conv=>whnf)))
   exact fin_pure (agR _ _) ⟨rfl, rfl, rfl⟩
theorem rNormal (neg : Bool) (l : List Nat) (n : Nat) (hl : l.length ≤ 4294967296) (hd : ∀ d ∈ l, d < 10000) (hv : vl 10000 l = n) : PureC Tryz.prog [] 77 [.bool neg, .il 1 (encD l)] (encR (sg neg n)) := by
 have h := rNormalL neg l hl
 have e : trimZ l = dg 10000 n := by rw [trimZ_dg hT _ hd, hv]
 rw [e] at h
 rw [encR_sg, ← dg_len_zero hT]
 exact h
theorem rCompared (x y : Nat) (hx : (dg 10000 x).length ≤ 4294967296) : PureC Tryz.prog [] 93 [.il 1 (encD (dg 10000 x)), .il 1 (encD (dg 10000 y))] (.int .i64 (cmpJ x y)) := by
 refine acalls_go nnΓ Tryz.func93 rfl ?_
 ((conv=>whnf);repeat(refine Xg ?_;conv=>whnf))
 rw [encD_length, encD_length]
 have hB := hT
 have hla := dg_lt hB x
 have hlb := dg_lt hB y
 have hva := vl_dg hB x
 have hvb := vl_dg hB y
 have hL : (dg 10000 x).length < (dg 10000 y).length → cmpJ (x : Int) y = -1 := fun h => by have := dg_len_lt hB h; unfold cmpJ; rw [if_pos (by omega)]
 have hG : (dg 10000 y).length < (dg 10000 x).length → cmpJ (x : Int) y = 1 := fun h => by have := dg_len_lt hB h; unfold cmpJ; rw [if_neg (by omega), if_pos (by omega)]
 generalize dg 10000 x = a at *
 generalize dg 10000 y = b at *
 refine bcs_mk (fun hb => ?_) (fun hb => ?_)
 ·((conv=>whnf);repeat(refine Xg ?_;conv=>whnf))
  rw [hL (by simpa using hb)]
  exact fin_pure nn ⟨rfl, rfl, rfl⟩
 ·((conv=>whnf);repeat(refine Xg ?_;conv=>whnf))
  rw [encD_length, encD_length]
  refine bcs_mk (fun hc => ?_) (fun hc => ?_)
  ·((conv=>whnf);repeat(refine Xg ?_;conv=>whnf))
   rw [hG (by simp at hc; omega)]
   exact fin_pure nn ⟨rfl, rfl, rfl⟩
  have heq : a.length = b.length := by simp at hb hc; omega
  ((conv=>whnf);repeat(refine Xg ?_;conv=>whnf))
  refine ALoop.at nnΓ (fun m : Nat => m ≤ a.length ∧ a.drop m = b.drop m) (fun m => ⟨[(0, .il 1 (encD a)), (1, .il 1 (encD b)), (5, .int .i64 ((m : Int) - 1))], [], 0, 41⟩) (fun m => m) a.length [] ⟨Nat.le_refl _, by rw [List.drop_length, heq, List.drop_length]⟩
   (conv_pure ⟨⟨_, rfl, .same _ (tD _)⟩, ⟨_, rfl, .same _ (tD _)⟩, ⟨_, rfl, .w64 (by rw [encD_length]) ⟨by omega, by omega⟩⟩, trivial⟩) ?_
  rintro m ⟨hm, hd⟩
  ((conv=>whnf);repeat(refine Xg ?_;conv=>whnf))
  refine bcs_mk (fun hc => ?_) (fun hc => ?_)
  ·have hm1 : 0 < m := by simp at hc; omega
   obtain ⟨i, rfl⟩ : ∃ i, m = i + 1 := ⟨m - 1, by omega⟩
   rw [show (((i + 1 : Nat) : Int) - 1) = (i : Int) by omega]
   obtain ⟨u, hu⟩ : ∃ u, a[i]? = some u := ⟨_, List.getElem?_eq_getElem (by omega)⟩
   obtain ⟨v, hv⟩ : ∃ v, b[i]? = some v := ⟨_, List.getElem?_eq_getElem (by omega)⟩
   have e1 := getDn hu
   have e2 := getDn hv
   ((conv=>whnf);repeat(refine Xg ?_;conv=>whnf))
   repeat ((first | refine opt_mk e1 ?_ | refine opt_mk e2 ?_ | refine ⟨rfl, ?_⟩); ((conv=>whnf);repeat(refine Xg ?_;conv=>whnf)))
   refine bcs_mk (fun hc => ?_) (fun hc => ?_)
   ·have huv : u < v := by simp at hc; omega
    have := vl_lt_of_top hla hB hd hu hv huv heq
    ((conv=>whnf);repeat(refine Xg ?_;conv=>whnf))
    rw [show cmpJ (x : Int) y = -1 by unfold cmpJ; rw [if_pos (by omega)]]
    exact fin_pure nn ⟨rfl, rfl, rfl⟩
   ·((conv=>whnf);repeat(refine Xg ?_;conv=>whnf))
    repeat ((first | refine opt_mk e1 ?_ | refine opt_mk e2 ?_ | refine ⟨rfl, ?_⟩); ((conv=>whnf);repeat(refine Xg ?_;conv=>whnf)))
    refine bcs_mk (fun hc2 => ?_) (fun hc2 => ?_)
    ·have huv : v < u := by simp at hc2; omega
     have := vl_lt_of_top hlb hB hd.symm hv hu huv heq.symm
     ((conv=>whnf);repeat(refine Xg ?_;conv=>whnf))
     rw [show cmpJ (x : Int) y = 1 by unfold cmpJ; rw [if_neg (by omega), if_pos (by omega)]]
     exact fin_pure nn ⟨rfl, rfl, rfl⟩
    ·have huv : u = v := by simp at hc hc2; omega
     ((conv=>whnf);repeat(refine Xg ?_;conv=>whnf))
     exact .mk i [] ⟨by omega, by
       obtain ⟨h1, h2⟩ := List.getElem?_eq_some_iff.1 hu
       obtain ⟨h3, h4⟩ := List.getElem?_eq_some_iff.1 hv
       rw [List.drop_eq_getElem_cons h1, List.drop_eq_getElem_cons h3, h2, h4, huv, hd]⟩
      (conv_pure ⟨⟨_, rfl, .same _ (tD _)⟩, ⟨_, rfl, .same _ (tD _)⟩, ⟨_, rfl, .w64 rfl ⟨by omega, by omega⟩⟩, trivial⟩) (by omega)
  ·have hm0 : m = 0 := by simp at hc; omega
   subst hm0
   simp only [List.drop_zero] at hd
   subst hd
   ((conv=>whnf);repeat(refine Xg ?_;conv=>whnf))
   rw [show cmpJ (x : Int) y = 0 by rw [← hva, hvb]; simp [cmpJ]]
   exact fin_pure nn ⟨rfl, rfl, rfl⟩
theorem cmpJ_sg (x y : Int) : cmpJ x y = if decide (x < 0) ≠ decide (y < 0) then (if decide (x < 0) = true then -1 else 1) else if decide (x < 0) = true then cmpJ (y.natAbs : Int) (x.natAbs : Int) else cmpJ (x.natAbs : Int) (y.natAbs : Int) := by
 unfold cmpJ
 by_cases hx : x < 0 <;> by_cases hy : y < 0 <;> simp [hx, hy] <;> (repeat' split) <;> omega
theorem rCompare (x y : Int) (hx : (dg 10000 x.natAbs).length ≤ 4294967296) (hy : (dg 10000 y.natAbs).length ≤ 4294967296) : PureC Tryz.prog [] 65 [encR x, encR y] (.int .i64 (cmpJ x y)) := by
 have h1 := rCompared x.natAbs y.natAbs hx
 have h2 := rCompared y.natAbs x.natAbs hy
 have hr := cmpJ_sg x y
 rw [encR_eq x, encR_eq y]
 generalize decide (x < 0) = bx at *
 generalize decide (y < 0) = by_ at *
 generalize dg 10000 x.natAbs = lx at *
 generalize dg 10000 y.natAbs = ly at *
 generalize cmpJ (y.natAbs : Int) (x.natAbs : Int) = c2 at *
 generalize cmpJ (x.natAbs : Int) (y.natAbs : Int) = c1 at *
 rw [hr]
 clear hr
 refine acalls_go nnΓ Tryz.func65 rfl ?_
 cases bx <;> cases by_
 ·((conv=>whnf);repeat(refine Xg ?_;conv=>whnf))
  refine h1.go ?_ (.cons (tD _) (.cons (tD _) .nil)) nn
  ((conv=>whnf);repeat(refine Xg ?_;conv=>whnf))
  exact fin_pure nn ⟨rfl, rfl, rfl⟩
 ·((conv=>whnf);repeat(refine Xg ?_;conv=>whnf))
  exact fin_pure nn ⟨rfl, rfl, rfl⟩
 ·((conv=>whnf);repeat(refine Xg ?_;conv=>whnf))
  exact fin_pure nn ⟨rfl, rfl, rfl⟩
 ·((conv=>whnf);repeat(refine Xg ?_;conv=>whnf))
  refine h2.go ?_ (.cons (tD _) (.cons (tD _) .nil)) nn
  ((conv=>whnf);repeat(refine Xg ?_;conv=>whnf))
  exact fin_pure nn ⟨rfl, rfl, rfl⟩
theorem rNeg (x : Int) (hx : (dg 10000 x.natAbs).length ≤ 4294967296) : PureC Tryz.prog [] 78 [encR x] (encR (-x)) := by
 have h := rNormal (!decide (x < 0)) (dg 10000 x.natAbs) x.natAbs hx (dg_lt hT _) (vl_dg hT _)
 have e : sg (!decide (x < 0)) x.natAbs = -x := by
  unfold sg
  by_cases h : x < 0
  ·simp [h]; omega
  ·simp [h]; omega
 rw [e, encR_eq (-x)] at h
 rw [encR_eq x, encR_eq (-x)]
 generalize decide (-x < 0) = b2 at *
 generalize dg 10000 (-x).natAbs = a2 at *
 generalize dg 10000 x.natAbs = a at *
 generalize decide (x < 0) = b at *
 refine acalls_go nnΓ Tryz.func78 rfl ?_
 ((conv=>whnf);repeat(refine Xg ?_;conv=>whnf))
 refine h.go ?_ (.cons (tBo _) (.cons (tD _) .nil)) (agR _ _)
 ((conv=>whnf);repeat(refine Xg ?_;conv=>whnf))
 repeat ((first | refine setK_iff.2 ?_ | refine ⟨rfl, ?_⟩); ((conv=>whnf);repeat(refine Xg ?_;conv=>whnf)))
 exact fin_pure (agR _ _) ⟨rfl, rfl, rfl⟩
theorem rAt (l : List Nat) (i : Nat) (hl : l.length ≤ 4294967296) : PureC Tryz.prog [] 121 [.il 1 (encD l), .int .i64 i] (.int .i64 (l.getD i 0 : Nat)) := by
 refine acalls_go nnΓ Tryz.func121 rfl ?_
 ((conv=>whnf);repeat(refine Xg ?_;conv=>whnf))
 rw [encD_length]
 refine bcs_mk (fun hb => ?_) (fun hb => ?_)
 ·have hlt : i < l.length := by simpa using hb
  obtain ⟨d, hd⟩ : ∃ d, l[i]? = some d := ⟨_, List.getElem?_eq_getElem hlt⟩
  have e1 := getDn hd
  ((conv=>whnf);repeat(refine Xg ?_;conv=>whnf))
  refine opt_mk e1 ?_
  ((conv=>whnf);repeat(refine Xg ?_;conv=>whnf))
  exact fin_cv (r' := .int .i64 (l.getD i 0 : Nat)) (.int (by rw [List.getD_eq_getElem?_getD, hd]; rfl)) ⟨rfl, rfl, rfl⟩
 ·have hge : l.length ≤ i := by simp at hb; omega
  ((conv=>whnf);repeat(refine Xg ?_;conv=>whnf))
  exact fin_cv (r' := .int .i64 (l.getD i 0 : Nat)) (.int (by rw [List.getD_eq_getElem?_getD, List.getElem?_eq_none hge]; rfl)) ⟨rfl, rfl, rfl⟩
set_option maxHeartbeats 16000000
set_option linter.unusedSimpArgs false
def carM (c : Nat) : Mem := [(0, .row 108 1 [.int .u64 (c : Int)])]
theorem wAddStep (x y c : Nat) (hx : x < 4294967296) (hy : y < 4294967296) (hc : c < 4294967296) : ACalls Tryz.prog [] 107 [.int .u32 x, .int .u32 y, .ptr 0 0 0] (carM c) 1
  fun r m n => r = .int .u32 (((c + (x + y)) % 4294967296 : Nat) : Int) ∧ m = carM ((c + (x + y)) / 4294967296) ∧ n = 1 := by
 have e1 : IntKind.u64.wrap (x : Int) = (x : Int) := w64n (by omega)
 have e2 : IntKind.u64.wrap (y : Int) = (y : Int) := w64n (by omega)
 have e3 : IntKind.u64.wrap ((x : Int) + (y : Int)) = ((x + y : Nat) : Int) := by rw [← Int.natCast_add]; exact w64n (by omega)
 have e4 : IntKind.u64.wrap ((c : Int) + ((x + y : Nat) : Int)) = ((c + (x + y) : Nat) : Int) := by rw [← Int.natCast_add]; exact w64n (by omega)
 refine acalls_go nnΓ Tryz.func107 rfl ?_
 ((conv=>whnf);repeat(refine Xg ?_;conv=>whnf))
 rw [e1, e2, e3, e4]
 ((conv=>whnf);repeat(refine Xg ?_;conv=>whnf))
 exact fin_mk (n' := 1) (m' := carM ((c + (x + y)) / 4294967296)) [(0, 0)] rfl ⟨⟨0, _, rfl, rfl, .cons (.one rfl rfl (.int shr32)) .nil⟩, trivial⟩ (.int (w32 _)) ⟨rfl, rfl, rfl⟩
theorem mk_ok {a b c : Bool} {n bytes : Nat} (ha : a = true) (hb : b = true) (hc : c = true) (h : n ≤ 4294967296) (hby : Nat.ble bytes 4096 = true) :
  (a && (b && (c && (decide (0 ≤ (n : Int)) && (decide ((n : Int) ≤ n) && (decide ((bytes : Int) * n ≤ 281474976710656) && decide ((n : Int) ≤ 9223372036854775807))))))) = true := by
 have hby := Nat.le_of_ble_eq_true hby
 have h3 : bytes * n ≤ 4096 * 4294967296 := Nat.mul_le_mul hby h
 have h4 : ((bytes : Nat) : Int) * (n : Int) = ((bytes * n : Nat) : Int) := by simp
 rw [ha, hb, hc, h4, decide_eq_true (by omega), decide_eq_true (by omega), decide_eq_true (by omega), decide_eq_true (by omega)]
 rfl
theorem nn1 (k : IntKind) (n : Int) : NNs [.int k n] := fun a ha => by
 rw [List.mem_singleton.1 ha]; exact .int _ _
theorem getP {s : List Nat} {n : Nat} (h : s.length < n) : (encU (pre0 s n))[0 + ((s.length : Nat) : Int).toNat]? = some (.int .u32 0) := getU0 (pre0_get h)
theorem setP {s : List Nat} {n d : Nat} (h : s.length < n) : (encU (pre0 s n)).set (0 + ((s.length : Nat) : Int).toNat) (.int .u32 (d : Int)) = encU (pre0 (s ++ [d]) n) := by
 rw [Int.toNat_natCast, Nat.zero_add, encU_set, pre0_set h]
theorem all_snoc {P : Nat → Prop} {l : List Nat} {d : Nat} (h : ∀ x ∈ l, P x) (hd : P d) : ∀ x ∈ l ++ [d], P x := fun x hx => by
 rcases List.mem_append.1 hx with hx | hx
 ·exact h x hx
 ·rw [List.mem_singleton.1 hx]; exact hd
theorem wAddL (X Y : List Nat) (hX : ∀ d ∈ X, d < 4294967296) (hY : ∀ d ∈ Y, d < 4294967296) (hx : X.length ≤ 1000000) (hy : Y.length ≤ 1000000) : PureC Tryz.prog [] 85 [.il 1 (encU X), .il 1 (encU Y)] (.il 1 (encU (dg 4294967296 (vl 4294967296 X + vl 4294967296 Y)))) := by
 have hB : (2 : Nat) ≤ 4294967296 := by decide
 refine acalls_go nnΓ Tryz.func85 rfl ?_
 ((conv=>whnf);repeat(refine Xg ?_;conv=>whnf))
 rw [encU_length, encU_length]
 rcases Nat.lt_or_ge X.length Y.length with hxy | hxy
 ·rw [decide_eq_true (by omega)]
  obtain ⟨S, hS⟩ : ∃ S, S = vl 4294967296 X + vl 4294967296 Y := ⟨_, rfl⟩
  rw [← hS]
  have hla := hY
  have hlb := hX
  have hsum : vl 4294967296 Y + vl 4294967296 X = S := by omega
  generalize Y = a at *
  generalize X = b at *
  have hx := hy
  ((conv=>whnf);repeat(refine Xg ?_;conv=>whnf))
  have hw1 : IntKind.i64.wrap (((encU a).length : Int) + 1) = ((a.length + 1 : Nat) : Int) := by rw [encU_length, wrap64 ⟨by omega, by omega⟩]; omega
  rw [hw1]
  refine grd_mk (mk_ok rfl rfl rfl (by omega) rfl) ?_
  ((conv=>whnf);repeat(refine Xg ?_;conv=>whnf))
  repeat (refine ⟨rfl, ?_⟩; ((conv=>whnf);repeat(refine Xg ?_;conv=>whnf)))
  refine ALoop.at nnΓ (fun p : List Nat × Nat => p.1.length ≤ b.length ∧ (∀ d ∈ p.1, d < 4294967296) ∧ p.2 ≤ 1 ∧ vl 4294967296 p.1 + 4294967296 ^ p.1.length * p.2 = vl 4294967296 (a.take p.1.length) + vl 4294967296 (b.take p.1.length))
   (fun p => ⟨[(0, .il 1 (encU a)), (1, .il 1 (encU b)), (5, .sl 0 0 (a.length + 1)), (6, .ptr 1 0 0), (7, .fn (.func 107) [] [.ptr 1 0 0]), (23, .int .i64 b.length), (24, .int .i64 p.1.length)], [(0, .row 110 1 (encU (pre0 p.1 (a.length + 1)))), (1, .row 108 1 [.int .u64 (p.2 : Int)])], 2, 66⟩)
   (fun p => b.length - p.1.length) ([], 0) [(0, 0), (1, 1)] ⟨by simp, by simp, by simp, by simp [vl]⟩
   (conv_mk _ rfl ⟨⟨0, _, rfl, rfl, .eq (encU_nn _) (by simp [encU, pre0])⟩, ⟨1, _, rfl, rfl, .same (nn1 _ _)⟩, trivial⟩
    ⟨⟨_, rfl, .same _ (.il' (encU_nn _))⟩, ⟨_, rfl, .same _ (.il' (encU_nn _))⟩, ⟨_, rfl, .slE rfl (by simp)⟩, ⟨_, rfl, .ptr 1 1 0 0 rfl⟩, ⟨_, rfl, (.fn _ _ _ _ _ rfl rfl (by simp) (CvL.cons (.ptr 1 1 0 0 rfl) .nil).2)⟩, ⟨_, rfl, .int (by rw [encU_length])⟩, ⟨_, rfl, .same _ nn⟩, trivial⟩) ?_
  rintro ⟨s, c⟩ ⟨h1, h2, h3, h4⟩
  simp only at h1 h2 h3 h4 ⊢
  ((conv=>whnf);repeat(refine Xg ?_;conv=>whnf))
  refine bcs_mk (fun hb => ?_) (fun hb => ?_)
  ·have hlt : s.length < b.length := by simpa using hb
   obtain ⟨u, hu⟩ : ∃ u, a[s.length]? = some u := ⟨_, List.getElem?_eq_getElem (by omega)⟩
   obtain ⟨v, hv⟩ : ∃ v, b[s.length]? = some v := ⟨_, List.getElem?_eq_getElem (by omega)⟩
   have hul := hla _ (List.mem_of_getElem? hu)
   have hvl := hlb _ (List.mem_of_getElem? hv)
   have g1 := getU hu
   have g2 := getU hv
   have g3 := getP (s := s) (n := a.length + 1) (by omega)
   have bi := blt_i (i := s.length) (n := a.length + 1) (by omega)
   ((conv=>whnf);repeat(refine Xg ?_;conv=>whnf))
   repeat ((first | refine opt_mk g1 ?_ | refine opt_mk g2 ?_ | refine ⟨rfl, ?_⟩); ((conv=>whnf);repeat(refine Xg ?_;conv=>whnf)))
   refine ACalls.useN nnΓ [(1, 0)] (wAddStep u v c hul hvl (by omega)) rfl (.cons (.same _ nn) (.cons (.same _ nn) (.cons (.ptr 1 0 0 0 rfl) .nil))) ⟨⟨1, _, rfl, rfl, .same (nn1 _ _)⟩, trivial⟩ rfl ?_
   rintro r' m' n' ⟨rfl, rfl, rfl⟩
   refine ⟨[(0, 1)], _, [(1, .row 108 1 [.int .u64 (((c + (u + v)) / 4294967296 : Nat) : Int)])], 16, .same _ nn, ⟨⟨0, _, rfl, rfl, .same (nn1 _ _)⟩, trivial⟩, rfl, ?_⟩
   ((conv=>whnf);repeat(refine Xg ?_;conv=>whnf))
   repeat ((first | refine grd_mk bi ?_ | refine opt_mk g3 ?_ | refine setK_iff.2 ?_ | refine ⟨rfl, ?_⟩); ((conv=>whnf);repeat(refine Xg ?_;conv=>whnf)))
   have hstep := add_step (B := 4294967296) (by decide) (s := s) (x := u) (y := v) rfl h4
   have hdv : (c + (u + v)) / 4294967296 ≤ 1 := by omega
   have hmd : (c + (u + v)) % 4294967296 < 4294967296 := Nat.mod_lt _ (by decide)
   exact .mk (s ++ [(c + (u + v)) % 4294967296], (c + (u + v)) / 4294967296) [(0, 0), (1, 1)] ⟨by simp; omega, all_snoc h2 hmd, hdv, by simp only [List.length_append, List.length_singleton]; rw [vl_take hu, vl_take hv]; exact hstep⟩
    (conv_mk _ rfl ⟨⟨0, _, rfl, rfl, .eq (encU_nn _) (setP (by omega))⟩, ⟨1, _, rfl, rfl, .same (nn1 _ _)⟩, trivial⟩
     ⟨⟨_, rfl, .same _ (.il' (encU_nn _))⟩, ⟨_, rfl, .same _ (.il' (encU_nn _))⟩, ⟨_, rfl, .slE rfl rfl⟩, ⟨_, rfl, .ptr 1 1 0 0 rfl⟩, ⟨_, rfl, (.fn _ _ _ _ _ rfl rfl (by simp) (CvL.cons (.ptr 1 1 0 0 rfl) .nil).2)⟩, ⟨_, rfl, .same _ nn⟩, ⟨_, rfl, .w64 (by simp) ⟨by simp; omega, by simp; omega⟩⟩, trivial⟩) (by simp; omega)
  ·skip
   have hlt : s.length = b.length := by simp at hb; omega
   rw [hlt, List.take_length] at h4
   ((conv=>whnf);repeat(refine Xg ?_;conv=>whnf))
   refine ALoop.at nnΓ (fun p : List Nat × Nat => b.length ≤ p.1.length ∧ p.1.length ≤ a.length ∧ (∀ d ∈ p.1, d < 4294967296) ∧ p.2 ≤ 1 ∧ vl 4294967296 p.1 + 4294967296 ^ p.1.length * p.2 = vl 4294967296 (a.take p.1.length) + vl 4294967296 b)
    (fun p => ⟨[(0, .il 1 (encU a)), (5, .sl 0 0 (a.length + 1)), (6, .ptr 1 0 0), (7, .fn (.func 107) [] [.ptr 1 0 0]), (9, .int .i64 p.1.length)], [(0, .row 110 1 (encU (pre0 p.1 (a.length + 1)))), (1, .row 108 1 [.int .u64 (p.2 : Int)])], 2, 66⟩)
    (fun p => a.length - p.1.length) (s, c) [(0, 0), (1, 1)] ⟨by simp only; omega, by simp only; omega, h2, h3, by simp only; rw [hlt]; exact h4⟩
    (conv_mk _ rfl ⟨⟨0, _, rfl, rfl, .same (encU_nn _)⟩, ⟨1, _, rfl, rfl, .same (nn1 _ _)⟩, trivial⟩
     ⟨⟨_, rfl, .same _ (.il' (encU_nn _))⟩, ⟨_, rfl, .slE rfl rfl⟩, ⟨_, rfl, .ptr 1 1 0 0 rfl⟩, ⟨_, rfl, (.fn _ _ _ _ _ rfl rfl (by simp) (CvL.cons (.ptr 1 1 0 0 rfl) .nil).2)⟩, ⟨_, rfl, .int (by rw [encU_length, hlt])⟩, trivial⟩) ?_
   clear h1 h2 h3 h4 hlt hb s c
   rintro ⟨s, c⟩ ⟨h0, h1, h2, h3, h4⟩
   simp only at h0 h1 h2 h3 h4 ⊢
   ((conv=>whnf);repeat(refine Xg ?_;conv=>whnf))
   rw [encU_length]
   refine bcs_mk (fun hb => ?_) (fun hb => ?_)
   ·have hlt : s.length < a.length := by simpa using hb
    obtain ⟨u, hu⟩ : ∃ u, a[s.length]? = some u := ⟨_, List.getElem?_eq_getElem (by omega)⟩
    have hul := hla _ (List.mem_of_getElem? hu)
    have g1 := getU hu
    have g3 := getP (s := s) (n := a.length + 1) (by omega)
    have bi := blt_i (i := s.length) (n := a.length + 1) (by omega)
    ((conv=>whnf);repeat(refine Xg ?_;conv=>whnf))
    repeat ((first | refine opt_mk g1 ?_ | refine ⟨rfl, ?_⟩); ((conv=>whnf);repeat(refine Xg ?_;conv=>whnf)))
    refine ACalls.useN nnΓ [(1, 0)] (wAddStep u 0 c hul (by decide) (by omega)) rfl (.cons (.same _ nn) (.cons (.same _ nn) (.cons (.ptr 1 0 0 0 rfl) .nil))) ⟨⟨1, _, rfl, rfl, .same (nn1 _ _)⟩, trivial⟩ rfl ?_
    rintro r' m' n' ⟨rfl, rfl, rfl⟩
    refine ⟨[(0, 1)], _, [(1, .row 108 1 [.int .u64 (((c + (u + 0)) / 4294967296 : Nat) : Int)])], 2, .same _ nn, ⟨⟨0, _, rfl, rfl, .same (nn1 _ _)⟩, trivial⟩, rfl, ?_⟩
    ((conv=>whnf);repeat(refine Xg ?_;conv=>whnf))
    repeat ((first | refine grd_mk bi ?_ | refine opt_mk g3 ?_ | refine setK_iff.2 ?_ | refine ⟨rfl, ?_⟩); ((conv=>whnf);repeat(refine Xg ?_;conv=>whnf)))
    have hstep := add_step (B := 4294967296) (by decide) (s := s) (x := u) (y := 0) rfl h4
    have hdv : (c + (u + 0)) / 4294967296 ≤ 1 := by omega
    have hmd : (c + (u + 0)) % 4294967296 < 4294967296 := Nat.mod_lt _ (by decide)
    exact .mk (s ++ [(c + (u + 0)) % 4294967296], (c + (u + 0)) / 4294967296) [(0, 0), (1, 1)] ⟨by simp; omega, by simp; omega, all_snoc h2 hmd, hdv, by simp only [List.length_append, List.length_singleton]; rw [vl_take hu]; simpa using hstep⟩
     (conv_mk _ rfl ⟨⟨0, _, rfl, rfl, .eq (encU_nn _) (setP (by omega))⟩, ⟨1, _, rfl, rfl, .same (nn1 _ _)⟩, trivial⟩
      ⟨⟨_, rfl, .same _ (.il' (encU_nn _))⟩, ⟨_, rfl, .slE rfl rfl⟩, ⟨_, rfl, .ptr 1 1 0 0 rfl⟩, ⟨_, rfl, (.fn _ _ _ _ _ rfl rfl (by simp) (CvL.cons (.ptr 1 1 0 0 rfl) .nil).2)⟩, ⟨_, rfl, .w64 (by simp) ⟨by simp; omega, by simp; omega⟩⟩, trivial⟩) (by simp; omega)
   ·have hlt : s.length = a.length := by simp at hb; omega
    rw [hlt, List.take_length, hsum] at h4
    have bi := blt_i (i := s.length) (n := s.length + 1) (by omega)
    have g3 := getP (s := s) (n := s.length + 1) (by omega)
    have hcw : IntKind.u32.wrap (c : Int) = (c : Int) := w32s (by omega)
    have hz : trimZ (s ++ [c]) = dg 4294967296 S := by
     rw [trimZ_dg hB _ (all_snoc h2 (by omega)), vl_snoc, hlt, h4]
    ((conv=>whnf);repeat(refine Xg ?_;conv=>whnf))
    rw [encU_length, ← hlt]
    repeat ((first | refine grd_mk bi ?_ | refine opt_mk g3 ?_ | refine setK_iff.2 ?_ | refine ⟨rfl, ?_⟩); ((conv=>whnf);repeat(refine Xg ?_;conv=>whnf)))
    refine ACalls.pre nnΓ [] (mem' := []) rfl trivial (.cons (.fz' (id := 0) (ys := encU (s ++ [c])) rfl rfl (by simp [encU_length, pre0_length]) (by
     rw [hcw, setP (by omega), List.drop_zero, List.take_of_length_le (by rw [encU_length, pre0_length] <;> simp)]
     simp [pre0]) (encU_nn _)) .nil) ?_
    refine (wTrim (s ++ [c]) (by simp; omega)).go ?_ (.cons (.il' (encU_nn _)) .nil) (.il' (encU_nn _))
    rw [hz]
    ((conv=>whnf);repeat(refine Xg ?_;conv=>whnf))
    exact fin_pure (.il' (encU_nn _)) ⟨rfl, rfl, rfl⟩
 ·rw [decide_eq_false (by omega)]
  obtain ⟨S, hS⟩ : ∃ S, S = vl 4294967296 X + vl 4294967296 Y := ⟨_, rfl⟩
  rw [← hS]
  have hla := hX
  have hlb := hY
  have hsum : vl 4294967296 X + vl 4294967296 Y = S := by omega
  generalize X = a at *
  generalize Y = b at *
  ((conv=>whnf);repeat(refine Xg ?_;conv=>whnf))
  have hw1 : IntKind.i64.wrap (((encU a).length : Int) + 1) = ((a.length + 1 : Nat) : Int) := by rw [encU_length, wrap64 ⟨by omega, by omega⟩]; omega
  rw [hw1]
  refine grd_mk (mk_ok rfl rfl rfl (by omega) rfl) ?_
  ((conv=>whnf);repeat(refine Xg ?_;conv=>whnf))
  repeat (refine ⟨rfl, ?_⟩; ((conv=>whnf);repeat(refine Xg ?_;conv=>whnf)))
  refine ALoop.at nnΓ (fun p : List Nat × Nat => p.1.length ≤ b.length ∧ (∀ d ∈ p.1, d < 4294967296) ∧ p.2 ≤ 1 ∧ vl 4294967296 p.1 + 4294967296 ^ p.1.length * p.2 = vl 4294967296 (a.take p.1.length) + vl 4294967296 (b.take p.1.length))
   (fun p => ⟨[(0, .il 1 (encU a)), (1, .il 1 (encU b)), (5, .sl 0 0 (a.length + 1)), (6, .ptr 1 0 0), (7, .fn (.func 107) [] [.ptr 1 0 0]), (23, .int .i64 b.length), (24, .int .i64 p.1.length)], [(0, .row 110 1 (encU (pre0 p.1 (a.length + 1)))), (1, .row 108 1 [.int .u64 (p.2 : Int)])], 2, 66⟩)
   (fun p => b.length - p.1.length) ([], 0) [(0, 0), (1, 1)] ⟨by simp, by simp, by simp, by simp [vl]⟩
   (conv_mk _ rfl ⟨⟨0, _, rfl, rfl, .eq (encU_nn _) (by simp [encU, pre0])⟩, ⟨1, _, rfl, rfl, .same (nn1 _ _)⟩, trivial⟩
    ⟨⟨_, rfl, .same _ (.il' (encU_nn _))⟩, ⟨_, rfl, .same _ (.il' (encU_nn _))⟩, ⟨_, rfl, .slE rfl (by simp)⟩, ⟨_, rfl, .ptr 1 1 0 0 rfl⟩, ⟨_, rfl, (.fn _ _ _ _ _ rfl rfl (by simp) (CvL.cons (.ptr 1 1 0 0 rfl) .nil).2)⟩, ⟨_, rfl, .int (by rw [encU_length])⟩, ⟨_, rfl, .same _ nn⟩, trivial⟩) ?_
  rintro ⟨s, c⟩ ⟨h1, h2, h3, h4⟩
  simp only at h1 h2 h3 h4 ⊢
  ((conv=>whnf);repeat(refine Xg ?_;conv=>whnf))
  refine bcs_mk (fun hb => ?_) (fun hb => ?_)
  ·have hlt : s.length < b.length := by simpa using hb
   obtain ⟨u, hu⟩ : ∃ u, a[s.length]? = some u := ⟨_, List.getElem?_eq_getElem (by omega)⟩
   obtain ⟨v, hv⟩ : ∃ v, b[s.length]? = some v := ⟨_, List.getElem?_eq_getElem (by omega)⟩
   have hul := hla _ (List.mem_of_getElem? hu)
   have hvl := hlb _ (List.mem_of_getElem? hv)
   have g1 := getU hu
   have g2 := getU hv
   have g3 := getP (s := s) (n := a.length + 1) (by omega)
   have bi := blt_i (i := s.length) (n := a.length + 1) (by omega)
   ((conv=>whnf);repeat(refine Xg ?_;conv=>whnf))
   repeat ((first | refine opt_mk g1 ?_ | refine opt_mk g2 ?_ | refine ⟨rfl, ?_⟩); ((conv=>whnf);repeat(refine Xg ?_;conv=>whnf)))
   refine ACalls.useN nnΓ [(1, 0)] (wAddStep u v c hul hvl (by omega)) rfl (.cons (.same _ nn) (.cons (.same _ nn) (.cons (.ptr 1 0 0 0 rfl) .nil))) ⟨⟨1, _, rfl, rfl, .same (nn1 _ _)⟩, trivial⟩ rfl ?_
   rintro r' m' n' ⟨rfl, rfl, rfl⟩
   refine ⟨[(0, 1)], _, [(1, .row 108 1 [.int .u64 (((c + (u + v)) / 4294967296 : Nat) : Int)])], 16, .same _ nn, ⟨⟨0, _, rfl, rfl, .same (nn1 _ _)⟩, trivial⟩, rfl, ?_⟩
   ((conv=>whnf);repeat(refine Xg ?_;conv=>whnf))
   repeat ((first | refine grd_mk bi ?_ | refine opt_mk g3 ?_ | refine setK_iff.2 ?_ | refine ⟨rfl, ?_⟩); ((conv=>whnf);repeat(refine Xg ?_;conv=>whnf)))
   have hstep := add_step (B := 4294967296) (by decide) (s := s) (x := u) (y := v) rfl h4
   have hdv : (c + (u + v)) / 4294967296 ≤ 1 := by omega
   have hmd : (c + (u + v)) % 4294967296 < 4294967296 := Nat.mod_lt _ (by decide)
   exact .mk (s ++ [(c + (u + v)) % 4294967296], (c + (u + v)) / 4294967296) [(0, 0), (1, 1)] ⟨by simp; omega, all_snoc h2 hmd, hdv, by simp only [List.length_append, List.length_singleton]; rw [vl_take hu, vl_take hv]; exact hstep⟩
    (conv_mk _ rfl ⟨⟨0, _, rfl, rfl, .eq (encU_nn _) (setP (by omega))⟩, ⟨1, _, rfl, rfl, .same (nn1 _ _)⟩, trivial⟩
     ⟨⟨_, rfl, .same _ (.il' (encU_nn _))⟩, ⟨_, rfl, .same _ (.il' (encU_nn _))⟩, ⟨_, rfl, .slE rfl rfl⟩, ⟨_, rfl, .ptr 1 1 0 0 rfl⟩, ⟨_, rfl, (.fn _ _ _ _ _ rfl rfl (by simp) (CvL.cons (.ptr 1 1 0 0 rfl) .nil).2)⟩, ⟨_, rfl, .same _ nn⟩, ⟨_, rfl, .w64 (by simp) ⟨by simp; omega, by simp; omega⟩⟩, trivial⟩) (by simp; omega)
  ·skip
   have hlt : s.length = b.length := by simp at hb; omega
   rw [hlt, List.take_length] at h4
   ((conv=>whnf);repeat(refine Xg ?_;conv=>whnf))
   refine ALoop.at nnΓ (fun p : List Nat × Nat => b.length ≤ p.1.length ∧ p.1.length ≤ a.length ∧ (∀ d ∈ p.1, d < 4294967296) ∧ p.2 ≤ 1 ∧ vl 4294967296 p.1 + 4294967296 ^ p.1.length * p.2 = vl 4294967296 (a.take p.1.length) + vl 4294967296 b)
    (fun p => ⟨[(0, .il 1 (encU a)), (5, .sl 0 0 (a.length + 1)), (6, .ptr 1 0 0), (7, .fn (.func 107) [] [.ptr 1 0 0]), (9, .int .i64 p.1.length)], [(0, .row 110 1 (encU (pre0 p.1 (a.length + 1)))), (1, .row 108 1 [.int .u64 (p.2 : Int)])], 2, 66⟩)
    (fun p => a.length - p.1.length) (s, c) [(0, 0), (1, 1)] ⟨by simp only; omega, by simp only; omega, h2, h3, by simp only; rw [hlt]; exact h4⟩
    (conv_mk _ rfl ⟨⟨0, _, rfl, rfl, .same (encU_nn _)⟩, ⟨1, _, rfl, rfl, .same (nn1 _ _)⟩, trivial⟩
     ⟨⟨_, rfl, .same _ (.il' (encU_nn _))⟩, ⟨_, rfl, .slE rfl rfl⟩, ⟨_, rfl, .ptr 1 1 0 0 rfl⟩, ⟨_, rfl, (.fn _ _ _ _ _ rfl rfl (by simp) (CvL.cons (.ptr 1 1 0 0 rfl) .nil).2)⟩, ⟨_, rfl, .int (by rw [encU_length, hlt])⟩, trivial⟩) ?_
   clear h1 h2 h3 h4 hlt hb s c
   rintro ⟨s, c⟩ ⟨h0, h1, h2, h3, h4⟩
   simp only at h0 h1 h2 h3 h4 ⊢
   ((conv=>whnf);repeat(refine Xg ?_;conv=>whnf))
   rw [encU_length]
   refine bcs_mk (fun hb => ?_) (fun hb => ?_)
   ·have hlt : s.length < a.length := by simpa using hb
    obtain ⟨u, hu⟩ : ∃ u, a[s.length]? = some u := ⟨_, List.getElem?_eq_getElem (by omega)⟩
    have hul := hla _ (List.mem_of_getElem? hu)
    have g1 := getU hu
    have g3 := getP (s := s) (n := a.length + 1) (by omega)
    have bi := blt_i (i := s.length) (n := a.length + 1) (by omega)
    ((conv=>whnf);repeat(refine Xg ?_;conv=>whnf))
    repeat ((first | refine opt_mk g1 ?_ | refine ⟨rfl, ?_⟩); ((conv=>whnf);repeat(refine Xg ?_;conv=>whnf)))
    refine ACalls.useN nnΓ [(1, 0)] (wAddStep u 0 c hul (by decide) (by omega)) rfl (.cons (.same _ nn) (.cons (.same _ nn) (.cons (.ptr 1 0 0 0 rfl) .nil))) ⟨⟨1, _, rfl, rfl, .same (nn1 _ _)⟩, trivial⟩ rfl ?_
    rintro r' m' n' ⟨rfl, rfl, rfl⟩
    refine ⟨[(0, 1)], _, [(1, .row 108 1 [.int .u64 (((c + (u + 0)) / 4294967296 : Nat) : Int)])], 2, .same _ nn, ⟨⟨0, _, rfl, rfl, .same (nn1 _ _)⟩, trivial⟩, rfl, ?_⟩
    ((conv=>whnf);repeat(refine Xg ?_;conv=>whnf))
    repeat ((first | refine grd_mk bi ?_ | refine opt_mk g3 ?_ | refine setK_iff.2 ?_ | refine ⟨rfl, ?_⟩); ((conv=>whnf);repeat(refine Xg ?_;conv=>whnf)))
    have hstep := add_step (B := 4294967296) (by decide) (s := s) (x := u) (y := 0) rfl h4
    have hdv : (c + (u + 0)) / 4294967296 ≤ 1 := by omega
    have hmd : (c + (u + 0)) % 4294967296 < 4294967296 := Nat.mod_lt _ (by decide)
    exact .mk (s ++ [(c + (u + 0)) % 4294967296], (c + (u + 0)) / 4294967296) [(0, 0), (1, 1)] ⟨by simp; omega, by simp; omega, all_snoc h2 hmd, hdv, by simp only [List.length_append, List.length_singleton]; rw [vl_take hu]; simpa using hstep⟩
     (conv_mk _ rfl ⟨⟨0, _, rfl, rfl, .eq (encU_nn _) (setP (by omega))⟩, ⟨1, _, rfl, rfl, .same (nn1 _ _)⟩, trivial⟩
      ⟨⟨_, rfl, .same _ (.il' (encU_nn _))⟩, ⟨_, rfl, .slE rfl rfl⟩, ⟨_, rfl, .ptr 1 1 0 0 rfl⟩, ⟨_, rfl, (.fn _ _ _ _ _ rfl rfl (by simp) (CvL.cons (.ptr 1 1 0 0 rfl) .nil).2)⟩, ⟨_, rfl, .w64 (by simp) ⟨by simp; omega, by simp; omega⟩⟩, trivial⟩) (by simp; omega)
   ·have hlt : s.length = a.length := by simp at hb; omega
    rw [hlt, List.take_length, hsum] at h4
    have bi := blt_i (i := s.length) (n := s.length + 1) (by omega)
    have g3 := getP (s := s) (n := s.length + 1) (by omega)
    have hcw : IntKind.u32.wrap (c : Int) = (c : Int) := w32s (by omega)
    have hz : trimZ (s ++ [c]) = dg 4294967296 S := by
     rw [trimZ_dg hB _ (all_snoc h2 (by omega)), vl_snoc, hlt, h4]
    ((conv=>whnf);repeat(refine Xg ?_;conv=>whnf))
    rw [encU_length, ← hlt]
    repeat ((first | refine grd_mk bi ?_ | refine opt_mk g3 ?_ | refine setK_iff.2 ?_ | refine ⟨rfl, ?_⟩); ((conv=>whnf);repeat(refine Xg ?_;conv=>whnf)))
    refine ACalls.pre nnΓ [] (mem' := []) rfl trivial (.cons (.fz' (id := 0) (ys := encU (s ++ [c])) rfl rfl (by simp [encU_length, pre0_length]) (by
     rw [hcw, setP (by omega), List.drop_zero, List.take_of_length_le (by rw [encU_length, pre0_length] <;> simp)]
     simp [pre0]) (encU_nn _)) .nil) ?_
    refine (wTrim (s ++ [c]) (by simp; omega)).go ?_ (.cons (.il' (encU_nn _)) .nil) (.il' (encU_nn _))
    rw [hz]
    ((conv=>whnf);repeat(refine Xg ?_;conv=>whnf))
    exact fin_pure (.il' (encU_nn _)) ⟨rfl, rfl, rfl⟩
theorem wAdd (x y : Nat) (hx : (dg 4294967296 x).length ≤ 1000000) (hy : (dg 4294967296 y).length ≤ 1000000) : PureC Tryz.prog [] 85 [.il 1 (encU (dg 4294967296 x)), .il 1 (encU (dg 4294967296 y))] (.il 1 (encU (dg 4294967296 (x + y)))) := by
 have hB : (2 : Nat) ≤ 4294967296 := by decide
 have h := wAddL _ _ (dg_lt hB x) (dg_lt hB y) hx hy
 rw [vl_dg hB, vl_dg hB] at h
 exact h
set_option maxHeartbeats 16000000
set_option linter.unusedSimpArgs false
def subM (b n : Nat) (l : List Nat) : Mem := [(0, .row 108 1 [.int .u64 (b : Int)]), (1, .row 35 1 [.sl 2 0 n]), (2, .row 110 1 (encU l))]
theorem sl1_cv {mem : Mem} {σ : List (Nat × Nat)} {i j n m : Nat} (h : lk σ i = some j) (e : n = m) : CvR mem σ [.sl i 0 n] [.sl j 0 m] := .cons (.one rfl rfl (.slE h e)) .nil
theorem subW {x y b : Nat} (hx : x < 4294967296) (hy : y < 4294967296) (hb : b ≤ 1) : IntKind.u32.wrap ((x : Int) - IntKind.u32.wrap ((y + b : Nat) : Int)) = ((if y + b > x then x + 4294967296 - (y + b) else x - (y + b) : Nat) : Int) := by
 rw [w32, u32_wrap]
 split <;> omega
theorem wSubStep (l : List Nat) (i x y b n : Nat) (hn : l.length = n) (hi : l[i]? = some x) (hx : x < 4294967296) (hy : y < 4294967296) (hb : b ≤ 1) (hnn : n ≤ 1000000) :
  ACalls Tryz.prog [] 114 [.int .i64 i, .int .u32 y, .ptr 0 0 0, .ptr 1 0 0] (subM b n l) 3
  fun r m k => r = .tup [] ∧ m = subM (if y + b > x then 1 else 0) n (l.set i (if y + b > x then x + 4294967296 - (y + b) else x - (y + b))) ∧ k = 3 := by
 have hil := (List.getElem?_eq_some_iff.1 hi).1
 have e1 : IntKind.u64.wrap (y : Int) = (y : Int) := w64n (by omega)
 have e2 : IntKind.u64.wrap ((y : Int) + (b : Int)) = ((y + b : Nat) : Int) := by rw [← Int.natCast_add]; exact w64n (by omega)
 have e3 : IntKind.u64.wrap (x : Int) = (x : Int) := w64n (by omega)
 have g := getU0 hi
 have bi := blt_i (i := i) (n := n) (by omega)
 refine acalls_go nnΓ Tryz.func114 rfl ?_
 ((conv=>whnf);repeat(refine Xg ?_;conv=>whnf))
 rw [e1, e2]
 repeat ((first | refine grd_mk bi ?_ | refine opt_mk g ?_ | refine ⟨rfl, ?_⟩); ((conv=>whnf);repeat(refine Xg ?_;conv=>whnf)))
 rw [e3]
 have hW := subW hx hy hb
 refine bcs_mk (fun hc => ?_) (fun hc => ?_)
 all_goals
  ((conv=>whnf);repeat(refine Xg ?_;conv=>whnf))
  repeat ((first | refine grd_mk bi ?_ | refine opt_mk g ?_ | refine setK_iff.2 ?_ | refine ⟨rfl, ?_⟩); ((conv=>whnf);repeat(refine Xg ?_;conv=>whnf)))
 ·have hc : y + b > x := by simp at hc; omega
  rw [if_pos hc] at hW ⊢
  rw [if_pos hc]
  exact fin_mk (n' := 3) (m' := subM 1 n (l.set i (x + 4294967296 - (y + b)))) [(0, 0), (1, 1), (2, 2)] rfl ⟨⟨0, _, rfl, rfl, .same (nn1 _ _)⟩, ⟨1, _, rfl, rfl, sl1_cv rfl rfl⟩, ⟨2, _, rfl, rfl, .eq (encU_nn _) (by rw [hW, Int.toNat_natCast, Nat.zero_add, encU_set])⟩, trivial⟩ (.same _ nn) ⟨rfl, rfl, rfl⟩
 ·have hc : ¬ y + b > x := by simp at hc; omega
  rw [if_neg hc] at hW ⊢
  rw [if_neg hc]
  exact fin_mk (n' := 3) (m' := subM 0 n (l.set i (x - (y + b)))) [(0, 0), (1, 1), (2, 2)] rfl ⟨⟨0, _, rfl, rfl, .same (nn1 _ _)⟩, ⟨1, _, rfl, rfl, sl1_cv rfl rfl⟩, ⟨2, _, rfl, rfl, .eq (encU_nn _) (by rw [hW, Int.toNat_natCast, Nat.zero_add, encU_set])⟩, trivial⟩ (.same _ nn) ⟨rfl, rfl, rfl⟩
theorem vl_split (B : Nat) (a : List Nat) (i : Nat) (hi : i ≤ a.length) : vl B a = vl B (a.take i) + B ^ i * vl B (a.drop i) := vl_drop B a i hi
theorem app_get {s a : List Nat} {u : Nat} (h : a[s.length]? = some u) : (s ++ a.drop s.length)[s.length]? = some u := by
 rw [List.getElem?_append_right (Nat.le_refl _), Nat.sub_self, List.getElem?_drop, Nat.add_zero]; exact h
theorem app_set {s a : List Nat} {u : Nat} (h : a[s.length]? = some u) (d : Nat) : (s ++ a.drop s.length).set s.length d = (s ++ [d]) ++ a.drop (s ++ [d]).length := by
 obtain ⟨h1, h2⟩ := List.getElem?_eq_some_iff.1 h
 rw [List.set_append_right _ _ (Nat.le_refl _), Nat.sub_self, List.drop_eq_getElem_cons h1, List.set_cons_zero, List.length_append, List.length_singleton]
 simp
theorem cp_ok {a b : Bool} {n m k : Nat} (ha : a = true) (hb : b = true) (h1 : n ≤ m) (h2 : m ≤ k) : (a && (b && (Nat.ble n m && Nat.ble m k))) = true := by
 rw [ha, hb, Nat.ble_eq_true_of_le h1, Nat.ble_eq_true_of_le h2]; rfl
theorem wSub (x y : Nat) (hxy : y ≤ x) (hx : (dg 4294967296 x).length ≤ 1000000) : PureC Tryz.prog [] 91 [.il 1 (encU (dg 4294967296 x)), .il 1 (encU (dg 4294967296 y))] (.il 1 (encU (dg 4294967296 (x - y)))) := by
 have hB : (2 : Nat) ≤ 4294967296 := by decide
 have hla := dg_lt hB x
 have hlb := dg_lt hB y
 have hva := vl_dg hB x
 have hvb := vl_dg hB y
 have hlen : (dg 4294967296 y).length ≤ (dg 4294967296 x).length := dg_len_mono hB hxy
 generalize dg 4294967296 x = a at *
 generalize dg 4294967296 y = b at *
 refine acalls_go nnΓ Tryz.func91 rfl ?_
 ((conv=>whnf);repeat(refine Xg ?_;conv=>whnf))
 rw [encU_length]
 refine grd_mk (mk_ok rfl rfl rfl (by omega) rfl) ?_
 ((conv=>whnf);repeat(refine Xg ?_;conv=>whnf))
 repeat (refine ⟨rfl, ?_⟩; ((conv=>whnf);repeat(refine Xg ?_;conv=>whnf)))
 refine grd_mk (cp_ok rfl rfl (by rw [encU_length, Int.toNat_natCast]; omega) (by rw [List.length_replicate]; omega)) ?_
 ((conv=>whnf);repeat(refine Xg ?_;conv=>whnf))
 repeat (refine ⟨rfl, ?_⟩; ((conv=>whnf);repeat(refine Xg ?_;conv=>whnf)))
 refine ALoop.at nnΓ (fun p : List Nat × Nat => p.1.length ≤ b.length ∧ (∀ d ∈ p.1, d < 4294967296) ∧ p.2 ≤ 1 ∧ vl 4294967296 p.1 + vl 4294967296 (b.take p.1.length) = vl 4294967296 (a.take p.1.length) + 4294967296 ^ p.1.length * p.2)
  (fun p => ⟨[(1, .il 1 (encU b)), (5, .ptr 1 0 0), (6, .ptr 0 0 0), (7, .fn (.func 114) [] [.ptr 0 0 0, .ptr 1 0 0]), (18, .il 1 (encU b)), (19, .int .i64 b.length), (20, .int .i64 p.1.length)], subM p.2 a.length (p.1 ++ a.drop p.1.length), 3, 47⟩)
  (fun p => b.length - p.1.length) ([], 0) [(2, 0), (1, 1), (0, 2)] ⟨by simp, by simp, by simp, by simp [vl]⟩
  (conv_mk _ rfl ⟨⟨2, _, rfl, rfl, .same (nn1 _ _)⟩, ⟨1, _, rfl, rfl, sl1_cv rfl (by simp)⟩, ⟨0, _, rfl, rfl, .eq (encU_nn _) (by simp [encU])⟩, trivial⟩
   ⟨⟨_, rfl, .same _ (.il' (encU_nn _))⟩, ⟨_, rfl, .ptr 1 1 0 0 rfl⟩, ⟨_, rfl, .ptr 2 0 0 0 rfl⟩, ⟨_, rfl, (.fn _ _ _ _ _ rfl rfl (by simp) (CvL.cons (.ptr 2 0 0 0 rfl) (.cons (.ptr 1 1 0 0 rfl) .nil)).2)⟩, ⟨_, rfl, .same _ (.il' (encU_nn _))⟩, ⟨_, rfl, .int (by rw [encU_length])⟩, ⟨_, rfl, .same _ nn⟩, trivial⟩) ?_
 rintro ⟨s, c⟩ ⟨h1, h2, h3, h4⟩
 simp only at h1 h2 h3 h4 ⊢
 ((conv=>whnf);repeat(refine Xg ?_;conv=>whnf))
 refine bcs_mk (fun hb => ?_) (fun hb => ?_)
 ·have hlt : s.length < b.length := by simpa using hb
  obtain ⟨u, hu⟩ : ∃ u, a[s.length]? = some u := ⟨_, List.getElem?_eq_getElem (by omega)⟩
  obtain ⟨v, hv⟩ : ∃ v, b[s.length]? = some v := ⟨_, List.getElem?_eq_getElem (by omega)⟩
  have hul := hla _ (List.mem_of_getElem? hu)
  have hvl := hlb _ (List.mem_of_getElem? hv)
  have g2 := getU hv
  have hll : (s ++ a.drop s.length).length = a.length := by simp; omega
  ((conv=>whnf);repeat(refine Xg ?_;conv=>whnf))
  repeat ((first | refine opt_mk g2 ?_ | refine ⟨rfl, ?_⟩); ((conv=>whnf);repeat(refine Xg ?_;conv=>whnf)))
  refine ACalls.useN nnΓ [(0, 0), (1, 1), (2, 2)] (wSubStep _ s.length u v c a.length hll (app_get hu) hul hvl h3 (by omega)) rfl (.cons (.same _ nn) (.cons (.same _ nn) (.cons (.ptr 0 0 0 0 rfl) (.cons (.ptr 1 1 0 0 rfl) .nil)))) ⟨⟨0, _, rfl, rfl, .same (nn1 _ _)⟩, ⟨1, _, rfl, rfl, sl1_cv rfl rfl⟩, ⟨2, _, rfl, rfl, .same (encU_nn _)⟩, trivial⟩ rfl ?_
  rintro r' m' n' ⟨rfl, rfl, rfl⟩
  rw [app_set hu]
  have hstep := sub_step (B := 4294967296) (s := s) (x := u) (y := v) (b := c) rfl h4 hul hvl h3
  have hdg := sub_digit (B := 4294967296) (x := u) (y := v) (b := c) hul hvl h3
  generalize (if v + c > u then u + 4294967296 - (v + c) else u - (v + c)) = d at hstep hdg ⊢
  have hbo : (if v + c > u then 1 else 0) ≤ 1 := by split <;> omega
  generalize (if v + c > u then 1 else 0) = bo at hstep hbo ⊢
  refine ⟨[(0, 0), (1, 1), (2, 2)], _, subM bo a.length ((s ++ [d]) ++ a.drop (s ++ [d]).length), 3, .same _ nn, ⟨⟨0, _, rfl, rfl, .same (nn1 _ _)⟩, ⟨1, _, rfl, rfl, sl1_cv rfl rfl⟩, ⟨2, _, rfl, rfl, .same (encU_nn _)⟩, trivial⟩, rfl, ?_⟩
  ((conv=>whnf);repeat(refine Xg ?_;conv=>whnf))
  exact .mk (s ++ [d], bo) [(0, 0), (1, 1), (2, 2)] ⟨by simp; omega, all_snoc h2 hdg, hbo, by simp only [List.length_append, List.length_singleton]; rw [vl_take hu, vl_take hv]; exact hstep⟩
   (conv_mk _ rfl ⟨⟨0, _, rfl, rfl, .same (nn1 _ _)⟩, ⟨1, _, rfl, rfl, sl1_cv rfl rfl⟩, ⟨2, _, rfl, rfl, .same (encU_nn _)⟩, trivial⟩
    ⟨⟨_, rfl, .same _ (.il' (encU_nn _))⟩, ⟨_, rfl, .ptr 1 1 0 0 rfl⟩, ⟨_, rfl, .ptr 0 0 0 0 rfl⟩, ⟨_, rfl, (.fn _ _ _ _ _ rfl rfl (by simp) (CvL.cons (.ptr 0 0 0 0 rfl) (.cons (.ptr 1 1 0 0 rfl) .nil)).2)⟩, ⟨_, rfl, .same _ (.il' (encU_nn _))⟩, ⟨_, rfl, .same _ nn⟩, ⟨_, rfl, .w64 (by simp) ⟨by simp; omega, by simp; omega⟩⟩, trivial⟩) (by simp; omega)
 ·have hlt : s.length = b.length := by simp at hb; omega
  rw [hlt, List.take_length, hvb] at h4
  ((conv=>whnf);repeat(refine Xg ?_;conv=>whnf))
  refine ALoop.at nnΓ (fun p : List Nat × Nat => p.1.length ≤ a.length ∧ (∀ d ∈ p.1, d < 4294967296) ∧ p.2 ≤ 1 ∧ vl 4294967296 p.1 + y = vl 4294967296 (a.take p.1.length) + 4294967296 ^ p.1.length * p.2)
   (fun p => ⟨[(5, .ptr 1 0 0), (6, .ptr 0 0 0), (7, .fn (.func 114) [] [.ptr 0 0 0, .ptr 1 0 0]), (10, .int .i64 p.1.length)], subM p.2 a.length (p.1 ++ a.drop p.1.length), 3, 47⟩)
   (fun p => a.length - p.1.length) (s, c) [(0, 0), (1, 1), (2, 2)] ⟨by simp only; omega, h2, h3, by simp only; rw [hlt]; exact h4⟩
   (conv_mk _ rfl ⟨⟨0, _, rfl, rfl, .same (nn1 _ _)⟩, ⟨1, _, rfl, rfl, sl1_cv rfl rfl⟩, ⟨2, _, rfl, rfl, .same (encU_nn _)⟩, trivial⟩
    ⟨⟨_, rfl, .ptr 1 1 0 0 rfl⟩, ⟨_, rfl, .ptr 0 0 0 0 rfl⟩, ⟨_, rfl, (.fn _ _ _ _ _ rfl rfl (by simp) (CvL.cons (.ptr 0 0 0 0 rfl) (.cons (.ptr 1 1 0 0 rfl) .nil)).2)⟩, ⟨_, rfl, .int (by rw [encU_length, hlt])⟩, trivial⟩) ?_
  clear h1 h2 h3 h4 hlt hb s c
  rintro ⟨s, c⟩ ⟨h1, h2, h3, h4⟩
  simp only at h1 h2 h3 h4 ⊢
  ((conv=>whnf);repeat(refine Xg ?_;conv=>whnf))
  have hsp := vl_split 4294967296 a s.length h1
  refine bcs_mk (fun hb => ?_) (fun hb => ?_)
  ·rw [hb]
   have hlt : s.length < a.length := by simpa using hb
   ((conv=>whnf);repeat(refine Xg ?_;conv=>whnf))
   refine bcs_mk (fun hc => ?_) (fun hc => ?_)
   ·obtain ⟨u, hu⟩ : ∃ u, a[s.length]? = some u := ⟨_, List.getElem?_eq_getElem (by omega)⟩
    have hul := hla _ (List.mem_of_getElem? hu)
    have hll : (s ++ a.drop s.length).length = a.length := by simp; omega
    ((conv=>whnf);repeat(refine Xg ?_;conv=>whnf))
    repeat (refine ⟨rfl, ?_⟩; ((conv=>whnf);repeat(refine Xg ?_;conv=>whnf)))
    refine ACalls.useN nnΓ [(0, 0), (1, 1), (2, 2)] (wSubStep _ s.length u 0 c a.length hll (app_get hu) hul (by decide) h3 (by omega)) rfl (.cons (.same _ nn) (.cons (.same _ nn) (.cons (.ptr 0 0 0 0 rfl) (.cons (.ptr 1 1 0 0 rfl) .nil)))) ⟨⟨0, _, rfl, rfl, .same (nn1 _ _)⟩, ⟨1, _, rfl, rfl, sl1_cv rfl rfl⟩, ⟨2, _, rfl, rfl, .same (encU_nn _)⟩, trivial⟩ rfl ?_
    rintro r' m' n' ⟨rfl, rfl, rfl⟩
    rw [app_set hu]
    have hstep := sub_step (B := 4294967296) (s := s) (x := u) (y := 0) (b := c) rfl h4 hul (by decide) h3
    have hdg := sub_digit (B := 4294967296) (x := u) (y := 0) (b := c) hul (by decide) h3
    generalize (if 0 + c > u then u + 4294967296 - (0 + c) else u - (0 + c)) = d at hstep hdg ⊢
    have hbo : (if 0 + c > u then 1 else 0) ≤ 1 := by split <;> omega
    generalize (if 0 + c > u then 1 else 0) = bo at hstep hbo ⊢
    refine ⟨[(0, 0), (1, 1), (2, 2)], _, subM bo a.length ((s ++ [d]) ++ a.drop (s ++ [d]).length), 3, .same _ nn, ⟨⟨0, _, rfl, rfl, .same (nn1 _ _)⟩, ⟨1, _, rfl, rfl, sl1_cv rfl rfl⟩, ⟨2, _, rfl, rfl, .same (encU_nn _)⟩, trivial⟩, rfl, ?_⟩
    ((conv=>whnf);repeat(refine Xg ?_;conv=>whnf))
    exact .mk (s ++ [d], bo) [(0, 0), (1, 1), (2, 2)] ⟨by simp; omega, all_snoc h2 hdg, hbo, by simp only [List.length_append, List.length_singleton]; rw [vl_take hu]; simpa using hstep⟩
     (conv_mk _ rfl ⟨⟨0, _, rfl, rfl, .same (nn1 _ _)⟩, ⟨1, _, rfl, rfl, sl1_cv rfl rfl⟩, ⟨2, _, rfl, rfl, .same (encU_nn _)⟩, trivial⟩
      ⟨⟨_, rfl, .ptr 1 1 0 0 rfl⟩, ⟨_, rfl, .ptr 0 0 0 0 rfl⟩, ⟨_, rfl, (.fn _ _ _ _ _ rfl rfl (by simp) (CvL.cons (.ptr 0 0 0 0 rfl) (.cons (.ptr 1 1 0 0 rfl) .nil)).2)⟩, ⟨_, rfl, .w64 (by simp) ⟨by simp; omega, by simp; omega⟩⟩, trivial⟩) (by simp; omega)
   ·have hc0 : c = 0 := by simp at hc; omega
    subst hc0
    have hV : vl 4294967296 (s ++ a.drop s.length) = x - y := by rw [vl_append]; omega
    ((conv=>whnf);repeat(refine Xg ?_;conv=>whnf))
    repeat (refine ⟨rfl, ?_⟩; ((conv=>whnf);repeat(refine Xg ?_;conv=>whnf)))
    have hL : ∀ d ∈ s ++ a.drop s.length, d < 4294967296 := fun d hd => by
     rcases List.mem_append.1 hd with hd | hd
     ·exact h2 d hd
     ·exact hla d (List.mem_of_mem_drop hd)
    have hll : (s ++ a.drop s.length).length = a.length := by simp; omega
    have hz : trimZ (s ++ a.drop s.length) = dg 4294967296 (x - y) := by rw [trimZ_dg hB _ hL, hV]
    refine ACalls.pre nnΓ [] (mem' := []) rfl trivial (.cons (.fz' (id := 2) (ys := encU (s ++ a.drop s.length)) rfl rfl (by rw [encU_length, hll]; omega) (by rw [List.drop_zero, List.take_of_length_le (by rw [encU_length, hll]; omega)]) (encU_nn _)) .nil) ?_
    refine (wTrim (s ++ a.drop s.length) (by rw [hll]; omega)).go ?_ (.cons (.il' (encU_nn _)) .nil) (.il' (encU_nn _))
    rw [hz]
    ((conv=>whnf);repeat(refine Xg ?_;conv=>whnf))
    exact fin_pure (.il' (encU_nn _)) ⟨rfl, rfl, rfl⟩
  ·rw [hb]
   have hlt : s.length = a.length := by simp at hb; omega
   have hc0 : c = 0 := by
    rcases Nat.eq_zero_or_pos c with e | e
    ·exact e
    ·have hc1 : c = 1 := by omega
     have := vl_lt hB s h2
     rw [hlt, List.take_length, hva, hc1] at h4
     rw [hlt] at this
     omega
   subst hc0
   have hV : vl 4294967296 (s ++ a.drop s.length) = x - y := by rw [vl_append]; omega
   ((conv=>whnf);repeat(refine Xg ?_;conv=>whnf))
   repeat (refine ⟨rfl, ?_⟩; ((conv=>whnf);repeat(refine Xg ?_;conv=>whnf)))
   have hL : ∀ d ∈ s ++ a.drop s.length, d < 4294967296 := fun d hd => by
    rcases List.mem_append.1 hd with hd | hd
    ·exact h2 d hd
    ·exact hla d (List.mem_of_mem_drop hd)
   have hll : (s ++ a.drop s.length).length = a.length := by simp; omega
   have hz : trimZ (s ++ a.drop s.length) = dg 4294967296 (x - y) := by rw [trimZ_dg hB _ hL, hV]
   refine ACalls.pre nnΓ [] (mem' := []) rfl trivial (.cons (.fz' (id := 2) (ys := encU (s ++ a.drop s.length)) rfl rfl (by rw [encU_length, hll]; omega) (by rw [List.drop_zero, List.take_of_length_le (by rw [encU_length, hll]; omega)]) (encU_nn _)) .nil) ?_
   refine (wTrim (s ++ a.drop s.length) (by rw [hll]; omega)).go ?_ (.cons (.il' (encU_nn _)) .nil) (.il' (encU_nn _))
   rw [hz]
   ((conv=>whnf);repeat(refine Xg ?_;conv=>whnf))
   exact fin_pure (.il' (encU_nn _)) ⟨rfl, rfl, rfl⟩
set_option maxHeartbeats 16000000
set_option linter.unusedSimpArgs false
theorem sg_zero (neg : Bool) (m : Nat) : sg neg m = 0 ↔ m = 0 := by unfold sg; split <;> omega
theorem encD_snoc (l : List Nat) (d : Nat) : encD (l ++ [d]) = encD l ++ [.int .i64 (d : Int)] := by rw [encD_app]; rfl
theorem nN (b : Bool) : NNs [.agg [.bool b, .nsl]] := .cons (.agg' (.cons (tBo _) (.cons .nsl .nil))) .nil
theorem dg_step {m : Nat} (h : 0 < m) : dg 10000 m = (m % 10000) :: dg 10000 (m / 10000) := dg_pos hT h
theorem rOf (n : Int) (hn : i64 n) : PureC Tryz.prog [] 42 [.int .i64 n] (encR n) := by
 obtain ⟨hn1, hn2⟩ := hn
 have hlen : (dg 10000 n.natAbs).length ≤ 5 := dg_len_le hT (by omega)
 have hno := rNormal (decide (n < 0)) (dg 10000 n.natAbs) n.natAbs (by omega) (dg_lt hT _) (vl_dg hT _)
 rw [sg_of] at hno
 have hsg := sg_of n
 obtain ⟨N, hN⟩ : ∃ N, N = n.natAbs := ⟨_, rfl⟩
 have hNb : N ≤ 9223372036854775808 := by omega
 rw [← hN] at hsg hno hlen
 generalize hneg : decide (n < 0) = neg at *
 refine acalls_go nnΓ Tryz.func42 rfl ?_
 ((conv=>whnf);repeat(refine Xg ?_;conv=>whnf))
 rw [hneg]
 refine ALoop.ph 3 1 ?_
 refine ALoop.at nnΓ (fun p : List Nat × Nat => p.1 ++ dg 10000 p.2 = dg 10000 N ∧ p.2 ≤ N)
  (fun p => ⟨[(0, .int .i64 (sg neg p.2)), (2, .ptr 0 0 0), (3, .sl 1 0 p.1.length), (4, .bool neg)], [(0, .row 43 2 [.agg [.bool false, .nsl]]), (1, .row 3 1 (encD p.1))], 2, 25⟩)
  (fun p => p.2) ([], N) [(0, 0), (1, 1)] ⟨by simp, by simp⟩
  (conv_mk _ rfl ⟨⟨0, _, rfl, rfl, .same (nN _)⟩, ⟨1, _, rfl, rfl, .nil⟩, trivial⟩ ⟨⟨_, rfl, .int hsg.symm⟩, ⟨_, rfl, .ptr 0 0 0 0 rfl⟩, ⟨_, rfl, .nslk 1 1 _ rfl rfl⟩, ⟨_, rfl, .same _ (tBo _)⟩, trivial⟩) ?_
 rintro ⟨s, m⟩ ⟨h1, h2⟩
 simp only at h1 h2 ⊢
 have hsl : s.length ≤ 5 := by
  have := congrArg List.length h1
  rw [List.length_append] at this
  omega
 by_cases hm : 0 < m
 ·have hz : (sg neg m != 0) = true := by
   have : sg neg m ≠ 0 := fun h => by rw [sg_zero] at h; omega
   simpa using this
  have hrem : (sg neg m).tmod 10000 = sg neg (m % 10000) := by
   unfold sg
   split
   ·rw [Int.neg_tmod]; exact congrArg _ (tmod_nat m 10000)
   ·exact tmod_nat m 10000
  have hquo : (sg neg m).tdiv 10000 = sg neg (m / 10000) := by
   unfold sg
   split
   ·rw [Int.neg_tdiv]; exact congrArg _ (tdiv_nat m 10000)
   ·exact tdiv_nat m 10000
  have hstep := dg_step hm
  have hsr : i64 (sg neg (m % 10000)) := by unfold sg i64; split <;> omega
  have hsq : i64 (sg neg (m / 10000)) := by unfold sg i64; split <;> omega
  have hw1 : IntKind.i64.wrap ((sg neg m).tmod 10000) = sg neg (m % 10000) := by rw [hrem, wrap64 hsr]
  have hw2 : IntKind.i64.wrap ((sg neg m).tdiv 10000) = sg neg (m / 10000) := by rw [hquo, wrap64 hsq]
  have key : ∀ (s' : List Nat), s' = s ++ [m % 10000] → s' ++ dg 10000 (m / 10000) = dg 10000 N := fun s' h => by
   rw [h, ← h1, hstep]; simp
  have hget : ∀ (x : Int) (mm : Mem), x = ((m % 10000 : Nat) : Int) → CvR mm [(0, 0), (3, 1)] (encD s ++ [.int .i64 x]) (encD (s ++ [m % 10000])) := fun x mm h => .eq (encD_nn _) (by rw [h, encD_snoc])
  ((conv=>whnf);repeat(refine Xg ?_;conv=>whnf))
  rw [hz]
  ((conv=>whnf);repeat(refine Xg ?_;conv=>whnf))
  rw [hrem]
  refine bcs_mk (fun hc => ?_) (fun hc => ?_)
  ·have hk : sg neg (m % 10000) < 0 := of_decide_eq_true hc
   have hw3 : IntKind.i64.wrap (0 - sg neg (m % 10000)) = ((m % 10000 : Nat) : Int) := by
    revert hk
    unfold sg
    split
    ·intro _; rw [wrap64 ⟨by omega, by omega⟩]; omega
    ·intro h; omega
   ((conv=>whnf);repeat(refine Xg ?_;conv=>whnf))
   refine grd_mk (app_ok rfl rfl (by rw [encD_length]) (by simp; omega)) ?_
   ((conv=>whnf);repeat(refine Xg ?_;conv=>whnf))
   exact .mk (s ++ [m % 10000], m / 10000) [(0, 0), (3, 1)] ⟨key _ rfl, by simp only; omega⟩
    (conv_mk _ rfl ⟨⟨0, _, rfl, rfl, .same (nN _)⟩, ⟨3, _, rfl, rfl, hget _ _ hw3⟩, trivial⟩ ⟨⟨_, rfl, .int hw2⟩, ⟨_, rfl, .ptr 0 0 0 0 rfl⟩, ⟨_, rfl, .slE rfl (by simp [encD_length])⟩, ⟨_, rfl, .same _ (tBo _)⟩, trivial⟩) (by simp only; omega)
  ·have hk : ¬ sg neg (m % 10000) < 0 := of_decide_eq_false hc
   have hw3 : sg neg (m % 10000) = ((m % 10000 : Nat) : Int) := by
    revert hk
    unfold sg
    split <;> omega
   ((conv=>whnf);repeat(refine Xg ?_;conv=>whnf))
   refine grd_mk (app_ok rfl rfl (by rw [encD_length]) (by simp; omega)) ?_
   ((conv=>whnf);repeat(refine Xg ?_;conv=>whnf))
   exact .mk (s ++ [m % 10000], m / 10000) [(0, 0), (3, 1)] ⟨key _ rfl, by simp only; omega⟩
    (conv_mk _ rfl ⟨⟨0, _, rfl, rfl, .same (nN _)⟩, ⟨3, _, rfl, rfl, hget _ _ hw3⟩, trivial⟩ ⟨⟨_, rfl, .int hw2⟩, ⟨_, rfl, .ptr 0 0 0 0 rfl⟩, ⟨_, rfl, .slE rfl (by simp [encD_length])⟩, ⟨_, rfl, .same _ (tBo _)⟩, trivial⟩) (by simp only; omega)
 ·have hm0 : m = 0 := by omega
  subst hm0
  have hz : (sg neg 0 != 0) = false := by unfold sg; split <;> rfl
  rw [dg_zero, List.append_nil] at h1
  rw [← h1] at hno
  have hen := encR_nn n
  rw [encR_eq n] at hno hen ⊢
  ((conv=>whnf);repeat(refine Xg ?_;conv=>whnf))
  rw [hz]
  ((conv=>whnf);repeat(refine Xg ?_;conv=>whnf))
  refine ACalls.pre nnΓ [(0, 0)] (mem' := [(0, .row 43 2 [.agg [.bool false, .nsl]])]) rfl ⟨⟨0, _, rfl, rfl, .same (nN _)⟩, trivial⟩
   (.cons (.same _ (tBo _)) (.cons (.fz' (id := 1) (off := 0) (ys := encD s) rfl rfl (by rw [encD_length]; omega) (by rw [List.drop_zero, List.take_of_length_le (by rw [encD_length]; omega)]) (encD_nn _)) .nil)) ?_
  refine hno.go ?_ (.cons (tBo _) (.cons (tD _) .nil)) hen
  ((conv=>whnf);repeat(refine Xg ?_;conv=>whnf))
  repeat ((first | refine setK_iff.2 ?_ | refine ⟨rfl, ?_⟩); ((conv=>whnf);repeat(refine Xg ?_;conv=>whnf)))
  exact fin_pure hen ⟨rfl, rfl, rfl⟩
set_option maxHeartbeats 16000000
set_option linter.unusedSimpArgs false
theorem prod_lt {x y p c : Nat} (hx : x < 4294967296) (hy : y < 4294967296) (hp : p < 4294967296) (hc : c < 4294967296) : x * y ≤ 18446744065119617025 ∧ x * y + p < 18446744073709551616 ∧ c + (x * y + p) < 18446744073709551616 ∧ (c + (x * y + p)) / 4294967296 < 4294967296 := by
 have h : x * y ≤ 4294967295 * 4294967295 := Nat.mul_le_mul (by omega) (by omega)
 refine ⟨by omega, by omega, by omega, ?_⟩
 rw [Nat.div_lt_iff_lt_mul (by omega)]
 omega
theorem set_get_ne {l : List Nat} {i k d : Nat} (h : i ≠ k) : (l.set i d)[k]? = l[k]? := by rw [List.getElem?_set, if_neg h]
theorem wMul (x y : Nat) (hx : (dg 4294967296 x).length ≤ 1000000) (hy : (dg 4294967296 y).length ≤ 1000000) : PureC Tryz.prog [] 86 [.il 1 (encU (dg 4294967296 x)), .il 1 (encU (dg 4294967296 y))] (.il 1 (encU (dg 4294967296 (x * y)))) := by
 have hB : (2 : Nat) ≤ 4294967296 := by decide
 have hla := dg_lt hB x
 have hlb := dg_lt hB y
 have hva := vl_dg hB x
 have hvb := vl_dg hB y
 generalize dg 4294967296 x = a at *
 generalize dg 4294967296 y = b at *
 refine acalls_go nnΓ Tryz.func86 rfl ?_
 ((conv=>whnf);repeat(refine Xg ?_;conv=>whnf))
 rw [encU_length, encU_length]
 have hw : IntKind.i64.wrap ((a.length : Int) + (b.length : Int)) = ((a.length + b.length : Nat) : Int) := by rw [wrap64 ⟨by omega, by omega⟩]; omega
 rw [hw]
 refine grd_mk (mk_ok rfl rfl rfl (by omega) rfl) ?_
 ((conv=>whnf);repeat(refine Xg ?_;conv=>whnf))
 refine ALoop.at nnΓ (fun p : Nat × List Nat => p.1 ≤ a.length ∧ p.2.length = a.length + b.length ∧ (∀ d ∈ p.2, d < 4294967296) ∧ vl 4294967296 p.2 = vl 4294967296 (a.take p.1) * y ∧ ∀ k, p.1 + b.length ≤ k → k < a.length + b.length → p.2[k]? = some 0)
  (fun p => ⟨[(1, .il 1 (encU b)), (5, .sl 0 0 (a.length + b.length)), (17, .il 1 (encU a)), (18, .int .i64 a.length), (19, .int .i64 p.1)], [(0, .row 110 1 (encU p.2))], 1, 67⟩)
  (fun p => a.length - p.1) (0, List.replicate (a.length + b.length) 0) [(0, 0)] ⟨by simp, by simp, by simp, by simp only; rw [vl_zeros]; simp [vl], fun k h1 h2 => by simp only; rw [List.getElem?_replicate, if_pos h2]⟩
  (conv_mk _ rfl ⟨⟨0, _, rfl, rfl, .eq (encU_nn _) (by rw [encU_zeros, Int.toNat_natCast])⟩, trivial⟩
   ⟨⟨_, rfl, .same _ (.il' (encU_nn _))⟩, ⟨_, rfl, .slE rfl (Int.toNat_natCast _)⟩, ⟨_, rfl, .same _ (.il' (encU_nn _))⟩, ⟨_, rfl, .int (by rw [encU_length])⟩, ⟨_, rfl, .same _ nn⟩, trivial⟩) ?_
 rintro ⟨i, P⟩ ⟨h1, h2, h3, h4, h5⟩
 simp only at h1 h2 h3 h4 h5 ⊢
 ((conv=>whnf);repeat(refine Xg ?_;conv=>whnf))
 refine bcs_mk (fun hb => ?_) (fun hb => ?_)
 ·have hlt : i < a.length := by simpa using hb
  obtain ⟨u, hu⟩ : ∃ u, a[i]? = some u := ⟨_, List.getElem?_eq_getElem hlt⟩
  have hul := hla _ (List.mem_of_getElem? hu)
  have g1 := getU hu
  ((conv=>whnf);repeat(refine Xg ?_;conv=>whnf))
  refine opt_mk g1 ?_
  ((conv=>whnf);repeat(refine Xg ?_;conv=>whnf))
  refine ALoop.at nnΓ (fun p : Nat × List Nat × Nat => p.1 ≤ b.length ∧ p.2.1.length = a.length + b.length ∧ (∀ d ∈ p.2.1, d < 4294967296) ∧ p.2.2 < 4294967296 ∧
    vl 4294967296 p.2.1 + 4294967296 ^ (i + p.1) * p.2.2 = vl 4294967296 (a.take i) * y + u * (4294967296 ^ i * vl 4294967296 (b.take p.1)) ∧ ∀ k, i + b.length ≤ k → k < a.length + b.length → p.2.1[k]? = some 0)
   (fun p => ⟨[(1, .il 1 (encU b)), (5, .sl 0 0 (a.length + b.length)), (6, .int .i64 i), (7, .int .u32 u), (8, .int .u64 (p.2.2 : Int)), (17, .il 1 (encU a)), (18, .int .i64 a.length), (19, .int .i64 i), (24, .il 1 (encU b)), (25, .int .i64 b.length), (26, .int .i64 p.1)], [(0, .row 110 1 (encU p.2.1))], 1, 67⟩)
   (fun p => b.length - p.1) (0, P, 0) [(0, 0)] ⟨by simp, h2, h3, by simp, by simp only; rw [h4]; simp [vl], h5⟩
   (conv_mk _ rfl ⟨⟨0, _, rfl, rfl, .same (encU_nn _)⟩, trivial⟩
    ⟨⟨_, rfl, .same _ (.il' (encU_nn _))⟩, ⟨_, rfl, .slE rfl rfl⟩, ⟨_, rfl, .same _ nn⟩, ⟨_, rfl, .same _ nn⟩, ⟨_, rfl, .same _ nn⟩, ⟨_, rfl, .same _ (.il' (encU_nn _))⟩, ⟨_, rfl, .same _ nn⟩, ⟨_, rfl, .same _ nn⟩, ⟨_, rfl, .same _ (.il' (encU_nn _))⟩, ⟨_, rfl, .int (by rw [encU_length])⟩, ⟨_, rfl, .same _ nn⟩, trivial⟩) ?_
  rintro ⟨j, Q, c⟩ ⟨h0, k2, k3, hc, k4, k5⟩
  simp only at h0 k2 k3 hc k4 k5 ⊢
  ((conv=>whnf);repeat(refine Xg ?_;conv=>whnf))
  refine bcs_mk (fun hb => ?_) (fun hb => ?_)
  ·have hlt2 : j < b.length := by simpa using hb
   obtain ⟨v, hv⟩ : ∃ v, b[j]? = some v := ⟨_, List.getElem?_eq_getElem hlt2⟩
   obtain ⟨p, hp⟩ : ∃ p, Q[i + j]? = some p := ⟨_, List.getElem?_eq_getElem (by omega)⟩
   have hvl := hlb _ (List.mem_of_getElem? hv)
   have hpl := k3 _ (List.mem_of_getElem? hp)
   have g2 := getU hv
   have g3 := getU0 hp
   have bi := blt_i (i := i + j) (n := a.length + b.length) (by omega)
   obtain ⟨q1, q2, q3, q4⟩ := prod_lt hul hvl hpl hc
   have e1 : IntKind.u64.wrap (u : Int) = (u : Int) := w64n (by omega)
   have e2 : IntKind.u64.wrap (v : Int) = (v : Int) := w64n (by omega)
   have e3 : IntKind.u64.wrap ((u : Int) * (v : Int)) = ((u * v : Nat) : Int) := by rw [← Int.natCast_mul]; exact w64n (by omega)
   have e4 : IntKind.i64.wrap ((i : Int) + (j : Int)) = ((i + j : Nat) : Int) := by rw [wrap64 ⟨by omega, by omega⟩]; omega
   have e5 : IntKind.u64.wrap (p : Int) = (p : Int) := w64n (by omega)
   have e6 : IntKind.u64.wrap (((u * v : Nat) : Int) + (p : Int)) = ((u * v + p : Nat) : Int) := by rw [← Int.natCast_add]; exact w64n (by omega)
   have e7 : IntKind.u64.wrap ((c : Int) + ((u * v + p : Nat) : Int)) = ((c + (u * v + p) : Nat) : Int) := by rw [← Int.natCast_add]; exact w64n (by omega)
   ((conv=>whnf);repeat(refine Xg ?_;conv=>whnf))
   refine opt_mk g2 ?_
   ((conv=>whnf);repeat(refine Xg ?_;conv=>whnf))
   rw [e1, e2, e3, e4]
   repeat ((first | refine grd_mk bi ?_ | refine opt_mk g3 ?_ | refine ⟨rfl, ?_⟩); ((conv=>whnf);repeat(refine Xg ?_;conv=>whnf)))
   rw [e5, e6, e7]
   repeat ((first | rw [e4] | refine grd_mk bi ?_ | refine opt_mk g3 ?_ | refine setK_iff.2 ?_ | refine ⟨rfl, ?_⟩); ((conv=>whnf);repeat(refine Xg ?_;conv=>whnf)))
   have hms := mul_step (B := 4294967296) hp k4 (y := v)
   have hmd : (c + (u * v + p)) % 4294967296 < 4294967296 := Nat.mod_lt _ (by decide)
   exact .mk (j + 1, Q.set (i + j) ((c + (u * v + p)) % 4294967296), (c + (u * v + p)) / 4294967296) [(0, 0)]
    ⟨by simp only; omega, by simp only [List.length_set]; exact k2, lt_set k3 hmd, q4, by
      simp only
      rw [vl_take hv, Nat.mul_add (4294967296 ^ i), ← Nat.mul_assoc (4294967296 ^ i) (4294967296 ^ j), ← Nat.pow_add]
      exact hms, fun k z1 z2 => by simp only; rw [set_get_ne (by omega)]; exact k5 k z1 z2⟩
    (conv_mk _ rfl ⟨⟨0, _, rfl, rfl, .eq (encU_nn _) (by rw [w32, Int.toNat_natCast, Nat.zero_add, encU_set])⟩, trivial⟩
     ⟨⟨_, rfl, .same _ (.il' (encU_nn _))⟩, ⟨_, rfl, .slE rfl rfl⟩, ⟨_, rfl, .same _ nn⟩, ⟨_, rfl, .same _ nn⟩, ⟨_, rfl, .int shr32⟩, ⟨_, rfl, .same _ (.il' (encU_nn _))⟩, ⟨_, rfl, .same _ nn⟩, ⟨_, rfl, .same _ nn⟩, ⟨_, rfl, .same _ (.il' (encU_nn _))⟩, ⟨_, rfl, .same _ nn⟩, ⟨_, rfl, .w64 (by simp) ⟨by simp only; omega, by simp only; omega⟩⟩, trivial⟩) (by simp only; omega)
  ·have hj : j = b.length := by simp at hb; omega
   subst hj
   rw [List.take_length, hvb] at k4
   have e4 : IntKind.i64.wrap ((i : Int) + (b.length : Int)) = ((i + b.length : Nat) : Int) := by rw [wrap64 ⟨by omega, by omega⟩]; omega
   have hp := k5 (i + b.length) (by omega) (by omega)
   have g3 := getU0 hp
   have bi := blt_i (i := i + b.length) (n := a.length + b.length) (by omega)
   have hvs := vl_set 4294967296 Q (i + b.length) c 0 hp
   ((conv=>whnf);repeat(refine Xg ?_;conv=>whnf))
   rw [encU_length, e4]
   repeat ((first | refine grd_mk bi ?_ | refine opt_mk g3 ?_ | refine setK_iff.2 ?_ | refine ⟨rfl, ?_⟩); ((conv=>whnf);repeat(refine Xg ?_;conv=>whnf)))
   exact .mk (i + 1, Q.set (i + b.length) c) [(0, 0)]
    ⟨by simp only; omega, by simp only [List.length_set]; exact k2, lt_set k3 hc, by
      simp only
      rw [vl_take hu, Nat.add_mul, Nat.mul_assoc (4294967296 ^ i), Nat.mul_left_comm (4294967296 ^ i), ← k4]
      omega, fun k z1 z2 => by simp only; rw [set_get_ne (by omega)]; exact k5 k (by omega) z2⟩
    (conv_mk _ rfl ⟨⟨0, _, rfl, rfl, .eq (encU_nn _) (by rw [w32s hc, Int.toNat_natCast, Nat.zero_add, encU_set])⟩, trivial⟩
     ⟨⟨_, rfl, .same _ (.il' (encU_nn _))⟩, ⟨_, rfl, .slE rfl rfl⟩, ⟨_, rfl, .same _ (.il' (encU_nn _))⟩, ⟨_, rfl, .same _ nn⟩, ⟨_, rfl, .w64 (by simp) ⟨by simp only; omega, by simp only; omega⟩⟩, trivial⟩) (by simp only; omega)
 ·have hi : i = a.length := by simp at hb; omega
  subst hi
  rw [List.take_length, hva] at h4
  have hz : trimZ P = dg 4294967296 (x * y) := by rw [trimZ_dg hB _ h3, h4]
  ((conv=>whnf);repeat(refine Xg ?_;conv=>whnf))
  refine ACalls.pre nnΓ [] (mem' := []) rfl trivial (.cons (.fz' (id := 0) (ys := encU P) rfl rfl (by rw [encU_length, h2]; omega) (by rw [List.drop_zero, List.take_of_length_le (by rw [encU_length, h2]; omega)]) (encU_nn _)) .nil) ?_
  refine (wTrim P (by rw [h2]; omega)).go ?_ (.cons (.il' (encU_nn _)) .nil) (.il' (encU_nn _))
  rw [hz]
  ((conv=>whnf);repeat(refine Xg ?_;conv=>whnf))
  exact fin_pure (.il' (encU_nn _)) ⟨rfl, rfl, rfl⟩
set_option maxHeartbeats 16000000
set_option linter.unusedSimpArgs false
theorem list_of_vl {B : Nat} (hB : 2 ≤ B) : ∀ l : List Nat, (∀ d ∈ l, d < B) → l = pre0 (dg B (vl B l)) l.length
 | [], _ => by simp [vl, dg_zero, pre0]
 | d :: r, h => by
  have ih := list_of_vl hB r fun x hx => h x (by simp [hx])
  have hd := h d (by simp)
  rcases Nat.eq_zero_or_pos (d + B * vl B r) with e | e
  ·have hd0 : d = 0 := by omega
   have hv0 : vl B r = 0 := by
    rcases Nat.eq_zero_or_pos (vl B r) with h1 | h1
    ·exact h1
    ·have := Nat.mul_pos (show 0 < B by omega) h1; omega
   rw [hv0, dg_zero] at ih
   rw [vl, hv0, hd0, Nat.mul_zero, Nat.zero_add, dg_zero]
   conv => lhs; rw [ih]
   simp [pre0, List.replicate_succ]
  ·rw [vl, dg_cons hB hd e]
   conv => lhs; rw [ih]
   simp [pre0]
theorem trimZ_pre0 {z n : Nat} : trimZ (pre0 (dg 4294967296 z) n) = dg 4294967296 z := by
 have hB : (2 : Nat) ≤ 4294967296 := by decide
 have hall : ∀ d ∈ pre0 (dg 4294967296 z) n, d < 4294967296 := fun d hd => by
  rcases List.mem_append.1 hd with h | h
  ·exact dg_lt hB z d h
  ·rw [List.eq_of_mem_replicate h]; decide
 rw [trimZ_dg hB _ hall, vl_pre0, vl_dg hB]
def top0 (m : Nat) (R : List Nat) : List Nat := List.replicate m 0 ++ R
theorem top0_get {i : Nat} {R : List Nat} : (top0 (i + 1) R)[i]? = some 0 := by
 unfold top0
 rw [List.getElem?_append_left (by simp), List.getElem?_replicate, if_pos (by omega)]
theorem top0_set {i d : Nat} {R : List Nat} : (top0 (i + 1) R).set i d = top0 i (d :: R) := by
 unfold top0
 rw [List.replicate_succ', List.append_assoc, List.set_append_right _ _ (by simp)]
 simp
theorem wDivWord (x d : Nat) (hx : (dg 4294967296 x).length ≤ 1000000) (hd0 : 0 < d) (hd : d < 4294967296) : PureC Tryz.prog [] 68 [.il 1 (encU (dg 4294967296 x)), .int .u32 d] (.tup [.il 1 (encU (pre0 (dg 4294967296 (x / d)) (dg 4294967296 x).length)), .int .u32 ((x % d : Nat) : Int)]) := by
 have hB : (2 : Nat) ≤ 4294967296 := by decide
 have hla := dg_lt hB x
 have hva := vl_dg hB x
 generalize dg 4294967296 x = a at *
 refine acalls_go nnΓ Tryz.func68 rfl ?_
 ((conv=>whnf);repeat(refine Xg ?_;conv=>whnf))
 rw [encU_length]
 refine grd_mk (mk_ok rfl rfl rfl (by omega) rfl) ?_
 ((conv=>whnf);repeat(refine Xg ?_;conv=>whnf))
 refine ALoop.at nnΓ (fun p : Nat × List Nat × Nat => p.1 ≤ a.length ∧ p.2.1.length = a.length - p.1 ∧ (∀ d ∈ p.2.1, d < 4294967296) ∧ p.2.2 < d ∧ vl 4294967296 (a.drop p.1) = vl 4294967296 p.2.1 * d + p.2.2)
  (fun p => ⟨[(0, .il 1 (encU a)), (1, .int .u32 d), (6, .sl 0 0 a.length), (7, .int .u64 (p.2.2 : Int)), (8, .int .i64 ((p.1 : Int) - 1))], [(0, .row 110 1 (encU (top0 p.1 p.2.1)))], 1, 42⟩)
  (fun p => p.1) (a.length, [], 0) [(0, 0)] ⟨by simp, by simp, by simp, hd0, by simp [vl]⟩
  (conv_mk _ rfl ⟨⟨0, _, rfl, rfl, .eq (encU_nn _) (by simp [top0, encU_zeros])⟩, trivial⟩
   ⟨⟨_, rfl, .same _ (.il' (encU_nn _))⟩, ⟨_, rfl, .same _ nn⟩, ⟨_, rfl, .slE rfl (Int.toNat_natCast _)⟩, ⟨_, rfl, .same _ nn⟩, ⟨_, rfl, .w64 (by rw [encU_length]) ⟨by simp only; omega, by simp only; omega⟩⟩, trivial⟩) ?_
 rintro ⟨m, R, r⟩ ⟨h1, h2, h3, h4, h5⟩
 simp only at h1 h2 h3 h4 h5 ⊢
 ((conv=>whnf);repeat(refine Xg ?_;conv=>whnf))
 refine bcs_mk (fun hb => ?_) (fun hb => ?_)
 ·have hm1 : 0 < m := by simp at hb; omega
  obtain ⟨i, rfl⟩ : ∃ i, m = i + 1 := ⟨m - 1, by omega⟩
  rw [show (((i + 1 : Nat) : Int) - 1) = (i : Int) by omega]
  obtain ⟨u, hu⟩ : ∃ u, a[i]? = some u := ⟨_, List.getElem?_eq_getElem (by omega)⟩
  have hul := hla _ (List.mem_of_getElem? hu)
  have g1 := getU hu
  have g3 : (encU (top0 (i + 1) R))[0 + ((i : Nat) : Int).toNat]? = some (.int .u32 0) := getU0 top0_get
  have bi := blt_i (i := i) (n := a.length) (by omega)
  have e1 : IntKind.u64.wrap (u : Int) = (u : Int) := w64n (by omega)
  have e2 : IntKind.u64.wrap (d : Int) = (d : Int) := w64n (by omega)
  have e3 : bits BinOp.or IntKind.u64 (IntKind.u64.wrap ((r : Int) * 2 ^ min (Int.toNat 32) IntKind.u64.bits)) (u : Int) = ((r * 4294967296 + u : Nat) : Int) := join64 (by omega) hul
  obtain ⟨s1, s2, s3⟩ := div_step (B := 4294967296) (by decide) (x := u) hd0 h5 h4
  have s3 := s3 hul
  ((conv=>whnf);repeat(refine Xg ?_;conv=>whnf))
  repeat ((first | refine opt_mk g1 ?_ | refine ⟨rfl, ?_⟩); ((conv=>whnf);repeat(refine Xg ?_;conv=>whnf)))
  have hnd : (!decide ((d : Int) = 0)) = true := by simp; omega
  have e4 : IntKind.u64.wrap (((r * 4294967296 + u : Nat) : Int).tdiv (d : Int)) = (((r * 4294967296 + u) / d : Nat) : Int) := by rw [tdiv_nat]; exact w64n (by omega)
  have e5 : IntKind.u64.wrap (((r * 4294967296 + u : Nat) : Int).tmod (d : Int)) = (((r * 4294967296 + u) % d : Nat) : Int) := by rw [tmod_nat]; exact w64n (by omega)
  rw [e1, e2, e3, e4]
  refine grd_mk hnd ?_
  ((conv=>whnf);repeat(refine Xg ?_;conv=>whnf))
  repeat ((first | refine grd_mk bi ?_ | refine opt_mk g3 ?_ | refine setK_iff.2 ?_ | refine ⟨rfl, ?_⟩); ((conv=>whnf);repeat(refine Xg ?_;conv=>whnf)))
  try rw [e2]
  try rw [e5]
  refine grd_mk hnd ?_
  ((conv=>whnf);repeat(refine Xg ?_;conv=>whnf))
  exact .mk (i, (r * 4294967296 + u) / d :: R, (r * 4294967296 + u) % d) [(0, 0)]
   ⟨by simp only; omega, by simp only [List.length_cons]; omega, fun z hz => by
     rcases List.mem_cons.1 hz with rfl | hz
     ·exact s3
     ·exact h3 z hz, s2, by simp only [vl]; rw [vl_cons_drop hu]; exact s1⟩
   (conv_mk _ rfl ⟨⟨0, _, rfl, rfl, .eq (encU_nn _) (by rw [w32s s3, Int.toNat_natCast, Nat.zero_add, encU_set, top0_set])⟩, trivial⟩
    ⟨⟨_, rfl, .same _ (.il' (encU_nn _))⟩, ⟨_, rfl, .same _ nn⟩, ⟨_, rfl, .slE rfl rfl⟩, ⟨_, rfl, .same _ nn⟩, ⟨_, rfl, .w64 rfl ⟨by simp only; omega, by simp only; omega⟩⟩, trivial⟩) (by simp only; omega)
 ·have hm0 : m = 0 := by simp at hb; omega
  subst hm0
  rw [List.drop_zero, hva] at h5
  obtain ⟨q1, q2⟩ := digit_exact (U := x) (v := d) (d := vl 4294967296 R) (by rw [Nat.add_mul]; omega) (by omega)
  have hR : top0 0 R = pre0 (dg 4294967296 (x / d)) a.length := by
   have := list_of_vl hB R h3
   rw [h2, Nat.sub_zero, ← q1] at this
   unfold top0
   rw [List.replicate_zero, List.nil_append]
   exact this
  have hr : x % d = r := by omega
  have e6 : IntKind.u32.wrap (r : Int) = (r : Int) := w32s (by omega)
  ((conv=>whnf);repeat(refine Xg ?_;conv=>whnf))
  rw [hR, e6, hr]
  have hl : (pre0 (dg 4294967296 (x / d)) a.length).length = a.length := by rw [← hR]; simp [top0]; omega
  exact fin_cv (r' := .tup [.il 1 (encU (pre0 (dg 4294967296 (x / d)) a.length)), .int .u32 (r : Int)]) (.tup' (.cons (.fz' (id := 0) rfl rfl (by rw [encU_length, hl]; omega) (by rw [List.drop_zero]; exact List.take_of_length_le (by rw [encU_length, hl]; omega)) (encU_nn _)) (.cons (.same _ nn) .nil))) ⟨rfl, rfl, rfl⟩
set_option maxHeartbeats 16000000
set_option linter.unusedSimpArgs false
theorem shlW {x s : Nat} (hs : s ≤ 32) : IntKind.u32.wrap ((x : Int) * 2 ^ (min ((s : Nat) : Int).toNat IntKind.u32.bits)) = (((x * 2 ^ s) % 4294967296 : Nat) : Int) := by
 have e : min ((s : Nat) : Int).toNat IntKind.u32.bits = s := by rw [Int.toNat_natCast]; exact Nat.min_eq_left hs
 rw [e, show (x : Int) * 2 ^ s = ((x * 2 ^ s : Nat) : Int) by rw [Int.natCast_mul, Int.natCast_pow]; rfl, w32]
theorem shrW {x s : Nat} (hs : s ≤ 32) : ((x : Int).fdiv (2 ^ (min ((s : Nat) : Int).toNat IntKind.u32.bits))) = ((x / 2 ^ s : Nat) : Int) := by
 have e : min ((s : Nat) : Int).toNat IntKind.u32.bits = s := by rw [Int.toNat_natCast]; exact Nat.min_eq_left hs
 rw [e, show ((2 : Int) ^ s) = ((2 ^ s : Nat) : Int) by rw [Int.natCast_pow]; rfl, fdiv_nat]
theorem sub32 {s : Nat} (hs : s ≤ 32) : IntKind.i64.wrap (32 - (s : Int)) = ((32 - s : Nat) : Int) := by rw [wrap64 ⟨by omega, by omega⟩]; omega
theorem tk_get {A R : List Nat} {i m u : Nat} (h : A[i]? = some u) (hi : i < m) (hm : m ≤ A.length) : (A.take m ++ R)[i]? = some u := by
 rw [List.getElem?_append_left (by rw [List.length_take]; omega), List.getElem?_take, if_pos hi]; exact h
theorem tk_set {A R : List Nat} {i d : Nat} (h : i < A.length) : (A.take (i + 1) ++ R).set i d = A.take i ++ (d :: R) := by
 obtain ⟨u, hu⟩ : ∃ u, A[i]? = some u := ⟨_, List.getElem?_eq_getElem h⟩
 have hl : (A.take i).length = i := by rw [List.length_take]; omega
 rw [take_snoc hu, List.append_assoc, List.set_append_right _ _ (by omega), hl, Nat.sub_self]
 rfl
theorem tk_get2 {A R : List Nat} {i d : Nat} (h : i < A.length) : (A.take i ++ (d :: R))[i]? = some d := by
 have hl : (A.take i).length = i := by rw [List.length_take]; omega
 rw [List.getElem?_append_right (by omega), hl, Nat.sub_self]; rfl
theorem tk_set2 {A R : List Nat} {i d e : Nat} (h : i < A.length) : (A.take i ++ (d :: R)).set i e = A.take i ++ (e :: R) := by
 have hl : (A.take i).length = i := by rw [List.length_take]; omega
 rw [List.set_append_right _ _ (by omega), hl, Nat.sub_self]; rfl
def belowD (A : List Nat) (m q : Nat) : Nat := if m = 0 then 0 else A.getD (m - 1) 0 / q
theorem wShifted (x s : Nat) (hs : s < 32) (hx : (dg 4294967296 x).length ≤ 1000000) : ACalls Tryz.prog [] 110 [.il 1 (encU (dg 4294967296 x)), .int .i64 s] [] 0
  fun r m n => r = .sl 0 0 ((dg 4294967296 x).length + 1) ∧ m = [(0, .row 110 1 (encU (pre0 (dg 4294967296 (x * 2 ^ s)) ((dg 4294967296 x).length + 1))))] ∧ n = 1 := by
 have hB : (2 : Nat) ≤ 4294967296 := by decide
 have hla := dg_lt hB x
 have hva := vl_dg hB x
 generalize dg 4294967296 x = a at *
 obtain ⟨A, hA⟩ : ∃ A, A = a ++ [0] := ⟨_, rfl⟩
 have hAl : A.length = a.length + 1 := by rw [hA]; simp
 have hAd : ∀ d ∈ A, d < 4294967296 := by rw [hA]; exact all_snoc hla (by decide)
 have hAv : vl 4294967296 A = x := by rw [hA, vl_snoc, hva]; simp
 have hA0 : A.getD a.length 0 = 0 := by rw [hA, List.getD_eq_getElem?_getD, List.getElem?_append_right (Nat.le_refl _)]; simp
 have hpq : 2 ^ s * 2 ^ (32 - s) = 4294967296 := pow_split (by omega)
 have hp : 0 < 2 ^ s := Nat.pow_pos (by decide)
 have hq : 0 < 2 ^ (32 - s) := Nat.pow_pos (by decide)
 refine acalls_go nnΓ Tryz.func110 rfl ?_
 ((conv=>whnf);repeat(refine Xg ?_;conv=>whnf))
 rw [encU_length]
 have hw : IntKind.i64.wrap ((a.length : Int) + 1) = ((a.length + 1 : Nat) : Int) := by rw [wrap64 ⟨by omega, by omega⟩]; omega
 rw [hw]
 refine grd_mk (mk_ok rfl rfl rfl (by omega) rfl) ?_
 ((conv=>whnf);repeat(refine Xg ?_;conv=>whnf))
 refine grd_mk (cp_ok rfl rfl (by rw [encU_length, Int.toNat_natCast]; omega) (by rw [List.length_replicate]; omega)) ?_
 ((conv=>whnf);repeat(refine Xg ?_;conv=>whnf))
 refine ALoop.at nnΓ (fun p : Nat × List Nat => p.1 ≤ a.length + 1 ∧ p.2.length = a.length + 1 - p.1 ∧ (∀ d ∈ p.2, d < 4294967296) ∧ vl 4294967296 p.2 = vl 4294967296 (A.drop p.1) * 2 ^ s + belowD A p.1 (2 ^ (32 - s)))
  (fun p => ⟨[(1, .int .i64 s), (5, .sl 0 0 (a.length + 1)), (6, .int .i64 ((p.1 : Int) - 1))], [(0, .row 110 1 (encU (A.take p.1 ++ p.2)))], 1, 48⟩)
  (fun p => p.1) (a.length + 1, []) [(0, 0)] ⟨by simp, by simp, by simp, by simp only [belowD]; rw [if_neg (by omega), Nat.add_sub_cancel, hA0, List.drop_eq_nil_of_le (by omega)]; simp [vl]⟩
  (conv_mk _ rfl ⟨⟨0, _, rfl, rfl, .eq (encU_nn _) (by
    rw [List.append_nil, List.take_of_length_le (by omega), hA, encU_app, encU_length, Int.toNat_natCast, List.drop_replicate, show a.length + 1 - a.length = 1 by omega]; rfl)⟩, trivial⟩
   ⟨⟨_, rfl, .same _ nn⟩, ⟨_, rfl, .slE rfl (Int.toNat_natCast _)⟩, ⟨_, rfl, .int (by rw [encU_length]; simp only; omega)⟩, trivial⟩) ?_
 rintro ⟨m, R⟩ ⟨h1, h2, h3, h4⟩
 simp only at h1 h2 h3 h4 ⊢
 ((conv=>whnf);repeat(refine Xg ?_;conv=>whnf))
 refine bcs_mk (fun hb => ?_) (fun hb => ?_)
 ·have hm1 : 0 < m := by simp at hb; omega
  obtain ⟨i, rfl⟩ : ∃ i, m = i + 1 := ⟨m - 1, by omega⟩
  rw [show (((i + 1 : Nat) : Int) - 1) = (i : Int) by omega]
  obtain ⟨u, hu⟩ : ∃ u, A[i]? = some u := ⟨_, List.getElem?_eq_getElem (by omega)⟩
  have hul := hAd _ (List.mem_of_getElem? hu)
  have g1 := getU0 (tk_get (R := R) hu (Nat.lt_succ_self i) (by omega))
  have bi := blt_i (i := i) (n := a.length + 1) (by omega)
  have e1 := shlW (x := u) (s := s) (by omega)
  ((conv=>whnf);repeat(refine Xg ?_;conv=>whnf))
  repeat ((first | refine grd_mk bi ?_ | refine opt_mk g1 ?_ | refine setK_iff.2 ?_ | refine ⟨rfl, ?_⟩); ((conv=>whnf);repeat(refine Xg ?_;conv=>whnf)))
  have hrow : (encU (A.take (i + 1) ++ R)).set (0 + ((i : Nat) : Int).toNat) (.int .u32 (IntKind.u32.wrap ((u : Int) * 2 ^ min ((s : Nat) : Int).toNat IntKind.u32.bits))) = encU (A.take i ++ ((u * 2 ^ s) % 4294967296 :: R)) := by
   rw [e1, Int.toNat_natCast, Nat.zero_add, encU_set, tk_set (by omega)]
  rw [hrow]
  have hbd : belowD A (i + 1) (2 ^ (32 - s)) = u / 2 ^ (32 - s) := by
   unfold belowD
   rw [if_neg (by omega), Nat.add_sub_cancel, List.getD_eq_getElem?_getD, hu]; rfl
  rw [hbd] at h4
  have hup : ∀ y, (u * 2 ^ s) % 4294967296 + y + 4294967296 * vl 4294967296 R = (u + 4294967296 * vl 4294967296 (A.drop (i + 1))) * 2 ^ s + y := fun y => by rw [h4]; exact up_step hpq hp
  refine bcs_mk (fun hc => ?_) (fun hc => ?_)
  ·rw [hc]
   have hi0 : 0 < i := by simp at hc; omega
   ((conv=>whnf);repeat(refine Xg ?_;conv=>whnf))
   refine bcs_mk (fun hc2 => ?_) (fun hc2 => ?_)
   ·have hs0 : 0 < s := by simp at hc2; omega
    obtain ⟨w, hw1⟩ : ∃ w, A[i - 1]? = some w := ⟨_, List.getElem?_eq_getElem (by omega)⟩
    have hwl := hAd _ (List.mem_of_getElem? hw1)
    have e2 : IntKind.i64.wrap ((i : Int) - 1) = ((i - 1 : Nat) : Int) := by rw [wrap64 ⟨by omega, by omega⟩]; omega
    have e3 := sub32 (s := s) (by omega)
    have e4 := shrW (x := w) (s := 32 - s) (by omega)
    obtain ⟨d1, d2, d3⟩ := up_digit (x := u) (y := w) hpq hp hq hwl
    have hmd : (u * 2 ^ s) % 4294967296 < 4294967296 := Nat.mod_lt _ (by decide)
    have e5 : bits .or .u32 (((u * 2 ^ s) % 4294967296 : Nat) : Int) ((w / 2 ^ (32 - s) : Nat) : Int) = (((u * 2 ^ s) % 4294967296 + w / 2 ^ (32 - s) : Nat) : Int) := by
     rw [bits_or32 hmd (by omega), or_add d2 d3]
    have g2 : (encU (A.take i ++ ((u * 2 ^ s) % 4294967296 :: R)))[0 + ((i : Nat) : Int).toNat]? = some (.int .u32 (((u * 2 ^ s) % 4294967296 : Nat) : Int)) := getU0 (tk_get2 (by omega))
    have g3 : (encU (A.take i ++ ((u * 2 ^ s) % 4294967296 :: R)))[0 + (((i - 1 : Nat)) : Int).toNat]? = some (.int .u32 (w : Int)) := getU0 (tk_get hw1 (by omega) (by omega))
    have bi2 := blt_i (i := i - 1) (n := a.length + 1) (by omega)
    have hdl := d1
    have hV : vl 4294967296 (((u * 2 ^ s) % 4294967296 + w / 2 ^ (32 - s)) :: R) = vl 4294967296 (A.drop i) * 2 ^ s + belowD A i (2 ^ (32 - s)) := by
     rw [vl, hup, vl_cons_drop hu]
     unfold belowD
     rw [if_neg (by omega), List.getD_eq_getElem?_getD, hw1]; rfl
    ((conv=>whnf);repeat(refine Xg ?_;conv=>whnf))
    try rw [e2]
    repeat ((first | refine grd_mk bi ?_ | refine opt_mk g2 ?_ | refine grd_mk bi2 ?_ | refine opt_mk g3 ?_ | rw [e2] | refine setK_iff.2 ?_ | refine ⟨rfl, ?_⟩); ((conv=>whnf);repeat(refine Xg ?_;conv=>whnf)))
    rw [e3]
    ((conv=>whnf);repeat(refine Xg ?_;conv=>whnf))
    repeat ((first | refine grd_mk bi ?_ | refine opt_mk g2 ?_ | refine setK_iff.2 ?_ | refine ⟨rfl, ?_⟩); ((conv=>whnf);repeat(refine Xg ?_;conv=>whnf)))
    exact .mk (i, ((u * 2 ^ s) % 4294967296 + w / 2 ^ (32 - s)) :: R) [(0, 0)]
     ⟨by simp only; omega, by simp only [List.length_cons]; omega, fun z hz => by
       rcases List.mem_cons.1 hz with rfl | hz
       ·exact hdl
       ·exact h3 z hz, hV⟩
     (conv_mk _ rfl ⟨⟨0, _, rfl, rfl, .eq (encU_nn _) (by rw [e4, e5, Int.toNat_natCast, Nat.zero_add, encU_set, tk_set2 (by omega)])⟩, trivial⟩
      ⟨⟨_, rfl, .same _ nn⟩, ⟨_, rfl, .slE rfl rfl⟩, ⟨_, rfl, .w64 rfl ⟨by simp only; omega, by simp only; omega⟩⟩, trivial⟩) (by simp only; omega)
   ·have hs0 : s = 0 := by simp at hc2; omega
    subst hs0
    have hdl : (u * 2 ^ 0) % 4294967296 < 4294967296 := Nat.mod_lt _ (by decide)
    have hV : vl 4294967296 ((u * 2 ^ 0) % 4294967296 :: R) = vl 4294967296 (A.drop i) * 2 ^ 0 + belowD A i (2 ^ (32 - 0)) := by
     have hz : belowD A i (2 ^ (32 - 0)) = 0 := by
      unfold belowD
      split
      ·rfl
      ·rw [List.getD_eq_getElem?_getD]
       cases hw1 : A[i - 1]? with
       | none => simp
       | some w =>
        have := hAd _ (List.mem_of_getElem? hw1)
        simp only [Option.getD_some]
        exact Nat.div_eq_of_lt (by simpa using this)
     have := hup 0
     rw [Nat.add_zero, Nat.add_zero] at this
     rw [vl, this, vl_cons_drop hu, hz]
     exact (Nat.add_zero _).symm
    ((conv=>whnf);repeat(refine Xg ?_;conv=>whnf))
    exact .mk (i, (u * 2 ^ 0) % 4294967296 :: R) [(0, 0)]
     ⟨by simp only; omega, by simp only [List.length_cons]; omega, fun z hz => by
       rcases List.mem_cons.1 hz with rfl | hz
       ·exact hdl
       ·exact h3 z hz, hV⟩
     (conv_mk _ rfl ⟨⟨0, _, rfl, rfl, .same (encU_nn _)⟩, trivial⟩
      ⟨⟨_, rfl, .same _ nn⟩, ⟨_, rfl, .slE rfl rfl⟩, ⟨_, rfl, .w64 rfl ⟨by simp only; omega, by simp only; omega⟩⟩, trivial⟩) (by simp only; omega)
  ·rw [hc]
   have hi0 : i = 0 := by simp at hc; omega
   subst hi0
   have hdl : (u * 2 ^ s) % 4294967296 < 4294967296 := Nat.mod_lt _ (by decide)
   have hV : vl 4294967296 ((u * 2 ^ s) % 4294967296 :: R) = vl 4294967296 (A.drop 0) * 2 ^ s + belowD A 0 (2 ^ (32 - s)) := by
    have := hup 0
    rw [Nat.add_zero, Nat.add_zero] at this
    rw [vl, this, vl_cons_drop hu]
    simp [belowD]
   ((conv=>whnf);repeat(refine Xg ?_;conv=>whnf))
   exact .mk (0, (u * 2 ^ s) % 4294967296 :: R) [(0, 0)]
    ⟨by simp only; omega, by simp only [List.length_cons]; omega, fun z hz => by
      rcases List.mem_cons.1 hz with rfl | hz
      ·exact hdl
      ·exact h3 z hz, hV⟩
    (conv_mk _ rfl ⟨⟨0, _, rfl, rfl, .same (encU_nn _)⟩, trivial⟩
     ⟨⟨_, rfl, .same _ nn⟩, ⟨_, rfl, .slE rfl rfl⟩, ⟨_, rfl, .w64 rfl ⟨by simp only; omega, by simp only; omega⟩⟩, trivial⟩) (by simp only; omega)
 ·have hm0 : m = 0 := by simp at hb; omega
  subst hm0
  have h4 : vl 4294967296 R = x * 2 ^ s := by rw [h4, List.drop_zero, hAv]; simp [belowD]
  have hR : R = pre0 (dg 4294967296 (x * 2 ^ s)) (a.length + 1) := by
   have := list_of_vl hB R h3
   rw [h2, Nat.sub_zero, h4] at this
   exact this
  ((conv=>whnf);repeat(refine Xg ?_;conv=>whnf))
  exact fin_mk (n' := 1) (m' := [(0, .row 110 1 (encU (pre0 (dg 4294967296 (x * 2 ^ s)) (a.length + 1))))]) [(0, 0)] rfl ⟨⟨0, _, rfl, rfl, .eq (encU_nn _) (by rw [← hR]; simp)⟩, trivial⟩ (.slE rfl rfl) ⟨rfl, rfl, rfl⟩
set_option maxHeartbeats 16000000
set_option linter.unusedSimpArgs false
theorem take_get {L : List Nat} {n i u : Nat} (h : L[i]? = some u) (hi : i < n) : (L.take n)[i]? = some u := by rw [List.getElem?_take, if_pos hi]; exact h
theorem app_get2 {S L : List Nat} {i u : Nat} (h : L[i]? = some u) (hi : S.length ≤ i) : (S ++ L.drop S.length)[i]? = some u := by
 rw [List.getElem?_append_right hi, List.getElem?_drop, show S.length + (i - S.length) = i by omega]; exact h
theorem app_set2 {S T : List Nat} {d e : Nat} : ((S ++ [d]) ++ T).set S.length e = (S ++ [e]) ++ T := by
 rw [List.append_assoc, List.set_append_right _ _ (Nat.le_refl _), Nat.sub_self]; simp
theorem app_get3 {S T : List Nat} {d : Nat} : ((S ++ [d]) ++ T)[S.length]? = some d := by
 rw [List.append_assoc, List.getElem?_append_right (Nat.le_refl _), Nat.sub_self]; rfl
theorem vl_mod {L : List Nat} {i u : Nat} (h : L[i]? = some u) (hu : u < 4294967296) : vl 4294967296 (L.drop i) % 4294967296 = u := by
 rw [vl_cons_drop h, Nat.add_mul_mod_self_left, Nat.mod_eq_of_lt hu]
theorem wLowered (L : List Nat) (n s : Nat) (hs : s < 32) (hn : n ≤ L.length) (hl : L.length ≤ 1000001) (hL : ∀ d ∈ L, d < 4294967296) : ACalls Tryz.prog [] 113 [.sl 0 0 n, .int .i64 s] [(0, .row 110 1 (encU L))] 1
  fun r m k => r = .sl 0 0 n ∧ m = [(0, .row 110 1 (encU (pre0 (dg 4294967296 (vl 4294967296 (L.take n) / 2 ^ s)) n ++ L.drop n)))] ∧ k = 1 := by
 have hB : (2 : Nat) ≤ 4294967296 := by decide
 have hpq : 2 ^ s * 2 ^ (32 - s) = 4294967296 := pow_split (by omega)
 have hqp : 2 ^ (32 - s) * 2 ^ s = 4294967296 := by rw [Nat.mul_comm]; exact hpq
 have hp : 0 < 2 ^ s := Nat.pow_pos (by decide)
 have hq : 0 < 2 ^ (32 - s) := Nat.pow_pos (by decide)
 have hAl : (L.take n).length = n := by rw [List.length_take]; omega
 refine acalls_go nnΓ Tryz.func113 rfl ?_
 ((conv=>whnf);repeat(refine Xg ?_;conv=>whnf))
 refine ALoop.at nnΓ (fun S : List Nat => S.length ≤ n ∧ (∀ d ∈ S, d < 4294967296) ∧ vl 4294967296 S + 4294967296 ^ S.length * (vl 4294967296 ((L.take n).drop S.length) / 2 ^ s) = vl 4294967296 (L.take n) / 2 ^ s)
  (fun S => ⟨[(0, .sl 0 0 n), (1, .int .i64 s), (7, .int .i64 n), (8, .int .i64 S.length)], [(0, .row 110 1 (encU (S ++ L.drop S.length)))], 1, 43⟩)
  (fun S => n - S.length) [] [(0, 0)] ⟨by simp, by simp, by simp [vl]⟩
  (conv_mk _ rfl ⟨⟨0, _, rfl, rfl, .eq (encU_nn _) (by simp)⟩, trivial⟩
   ⟨⟨_, rfl, .slE rfl rfl⟩, ⟨_, rfl, .same _ nn⟩, ⟨_, rfl, .same _ nn⟩, ⟨_, rfl, .same _ nn⟩, trivial⟩) ?_
 rintro S ⟨h1, h2, h3⟩
 ((conv=>whnf);repeat(refine Xg ?_;conv=>whnf))
 refine bcs_mk (fun hb => ?_) (fun hb => ?_)
 ·have hlt : S.length < n := by simpa using hb
  obtain ⟨u, hu⟩ : ∃ u, L[S.length]? = some u := ⟨_, List.getElem?_eq_getElem (by omega)⟩
  have hul := hL _ (List.mem_of_getElem? hu)
  have g1 := getU0 (app_get (s := S) hu)
  have bi := blt_i (i := S.length) (n := n) hlt
  have e1 := shrW (x := u) (s := s) (by omega)
  have hu2 := take_get hu hlt
  have e2 : IntKind.i64.wrap ((S.length : Int) + 1) = ((S.length + 1 : Nat) : Int) := by rw [wrap64 ⟨by omega, by omega⟩]; omega
  have hrow : (encU (S ++ L.drop S.length)).set (0 + ((S.length : Nat) : Int).toNat) (.int .u32 ((u : Int).fdiv (2 ^ min ((s : Nat) : Int).toNat IntKind.u32.bits))) = encU ((S ++ [u / 2 ^ s]) ++ L.drop (S ++ [u / 2 ^ s]).length) := by
   rw [e1, Int.toNat_natCast, Nat.zero_add, encU_set, app_set hu]
  have hdrop : ∀ Y y, vl 4294967296 ((L.take n).drop (S.length + 1)) = Y → Y % 4294967296 = y → vl 4294967296 ((L.take n).drop S.length) / 2 ^ s = (u / 2 ^ s + (y * 2 ^ (32 - s)) % 4294967296) + 4294967296 * (Y / 2 ^ s) := fun Y y hY hy => by
   rw [vl_cons_drop hu2, hY]; exact down_step hpq hp hy
  have hnext : ∀ Y y, vl 4294967296 ((L.take n).drop (S.length + 1)) = Y → Y % 4294967296 = y → vl 4294967296 (S ++ [u / 2 ^ s + (y * 2 ^ (32 - s)) % 4294967296]) + 4294967296 ^ (S.length + 1) * (Y / 2 ^ s) = vl 4294967296 (L.take n) / 2 ^ s := fun Y y hY hy => by
   rw [← h3, hdrop Y y hY hy]
   generalize u / 2 ^ s + (y * 2 ^ (32 - s)) % 4294967296 = e
   rw [vl_snoc, Nat.pow_succ, Nat.mul_add (4294967296 ^ S.length), ← Nat.mul_assoc (4294967296 ^ S.length) 4294967296, Nat.add_assoc]
  have hle : (S ++ [u / 2 ^ s]).length = S.length + 1 := by simp
  ((conv=>whnf);repeat(refine Xg ?_;conv=>whnf))
  repeat ((first | refine grd_mk bi ?_ | refine opt_mk g1 ?_ | refine setK_iff.2 ?_ | refine ⟨rfl, ?_⟩); ((conv=>whnf);repeat(refine Xg ?_;conv=>whnf)))
  rw [hrow, e2]
  refine bcs_mk (fun hc => ?_) (fun hc => ?_)
  ·rw [hc]
   have hi1 : S.length + 1 < n := by simp at hc; omega
   obtain ⟨w, hw⟩ : ∃ w, L[S.length + 1]? = some w := ⟨_, List.getElem?_eq_getElem (by omega)⟩
   have hwl := hL _ (List.mem_of_getElem? hw)
   have hY := vl_mod (take_get hw hi1) hwl
   ((conv=>whnf);repeat(refine Xg ?_;conv=>whnf))
   refine bcs_mk (fun hc2 => ?_) (fun hc2 => ?_)
   ·have hs0 : 0 < s := by simp at hc2; omega
    have e3 := sub32 (s := s) (by omega)
    have e4 := shlW (x := w) (s := 32 - s) (by omega)
    obtain ⟨d1, d2, d3⟩ := up_digit (x := w) (y := u) hqp hq hp hul
    have hz := Nat.mod_lt (w * 2 ^ (32 - s)) (show 0 < 4294967296 by decide)
    have hu3 : u / 2 ^ s < 4294967296 := Nat.lt_of_le_of_lt (Nat.div_le_self _ _) hul
    have e5 : bits .or .u32 ((u / 2 ^ s : Nat) : Int) (((w * 2 ^ (32 - s)) % 4294967296 : Nat) : Int) = ((u / 2 ^ s + (w * 2 ^ (32 - s)) % 4294967296 : Nat) : Int) := by
     rw [bits_or32 hu3 hz, Nat.or_comm, or_add d2 d3, Nat.add_comm]
    have hdl : u / 2 ^ s + (w * 2 ^ (32 - s)) % 4294967296 < 4294967296 := by omega
    have hV := hnext _ w rfl hY
    have g2 : (encU ((S ++ [u / 2 ^ s]) ++ L.drop (S ++ [u / 2 ^ s]).length))[0 + ((S.length : Nat) : Int).toNat]? = some (.int .u32 ((u / 2 ^ s : Nat) : Int)) := getU0 app_get3
    have g3 : (encU ((S ++ [u / 2 ^ s]) ++ L.drop (S ++ [u / 2 ^ s]).length))[0 + ((S.length + 1 : Nat) : Int).toNat]? = some (.int .u32 (w : Int)) := getU0 (app_get2 hw (by rw [hle]; omega))
    have bi2 := blt_i (i := S.length + 1) (n := n) hi1
    ((conv=>whnf);repeat(refine Xg ?_;conv=>whnf))
    repeat ((first | rw [e2] | refine grd_mk bi ?_ | refine opt_mk g2 ?_ | refine grd_mk bi2 ?_ | refine opt_mk g3 ?_ | refine ⟨rfl, ?_⟩); ((conv=>whnf);repeat(refine Xg ?_;conv=>whnf)))
    rw [e3]
    ((conv=>whnf);repeat(refine Xg ?_;conv=>whnf))
    repeat ((first | rw [e2] | refine grd_mk bi ?_ | refine opt_mk g2 ?_ | refine setK_iff.2 ?_ | refine ⟨rfl, ?_⟩); ((conv=>whnf);repeat(refine Xg ?_;conv=>whnf)))
    exact .mk (S ++ [u / 2 ^ s + (w * 2 ^ (32 - s)) % 4294967296]) [(0, 0)] ⟨by simp; omega, all_snoc h2 hdl, by simp only [List.length_append, List.length_singleton]; exact hV⟩
     (conv_mk _ rfl ⟨⟨0, _, rfl, rfl, .eq (encU_nn _) (by rw [e4, e5, Int.toNat_natCast, Nat.zero_add, encU_set, app_set2, List.length_append, List.length_append]; rfl)⟩, trivial⟩
      ⟨⟨_, rfl, .slE rfl rfl⟩, ⟨_, rfl, .same _ nn⟩, ⟨_, rfl, .same _ nn⟩, ⟨_, rfl, .int (by simp)⟩, trivial⟩) (by simp; omega)
   ·have hs0 : s = 0 := by simp at hc2; omega
    subst hs0
    have hu3 : u / 2 ^ 0 < 4294967296 := Nat.lt_of_le_of_lt (Nat.div_le_self _ _) hul
    have hdl := hu3
    have hz : (w * 2 ^ (32 - 0)) % 4294967296 = 0 := by rw [show (2 : Nat) ^ (32 - 0) = 4294967296 by decide]; exact Nat.mul_mod_left _ _
    have hV := hnext _ w rfl hY
    rw [hz, Nat.add_zero] at hV
    ((conv=>whnf);repeat(refine Xg ?_;conv=>whnf))
    exact .mk (S ++ [u / 2 ^ 0]) [(0, 0)] ⟨by simp; omega, all_snoc h2 hdl, by simp only [List.length_append, List.length_singleton]; exact hV⟩
     (conv_mk _ rfl ⟨⟨0, _, rfl, rfl, .same (encU_nn _)⟩, trivial⟩
      ⟨⟨_, rfl, .slE rfl rfl⟩, ⟨_, rfl, .same _ nn⟩, ⟨_, rfl, .same _ nn⟩, ⟨_, rfl, .w64 (by simp) ⟨by simp; omega, by simp; omega⟩⟩, trivial⟩) (by simp; omega)
  ·rw [hc]
   have hi1 : S.length + 1 = n := by simp at hc; omega
   have hu3 : u / 2 ^ s < 4294967296 := Nat.lt_of_le_of_lt (Nat.div_le_self _ _) hul
   have hdl := hu3
   have hY : vl 4294967296 ((L.take n).drop (S.length + 1)) = 0 := by rw [List.drop_eq_nil_of_le (by omega)]; rfl
   have hV := hnext 0 0 hY rfl
   rw [Nat.zero_mul, Nat.zero_mod, Nat.add_zero, ← hY] at hV
   ((conv=>whnf);repeat(refine Xg ?_;conv=>whnf))
   exact .mk (S ++ [u / 2 ^ s]) [(0, 0)] ⟨by simp; omega, all_snoc h2 hdl, by simp only [List.length_append, List.length_singleton]; exact hV⟩
    (conv_mk _ rfl ⟨⟨0, _, rfl, rfl, .same (encU_nn _)⟩, trivial⟩
     ⟨⟨_, rfl, .slE rfl rfl⟩, ⟨_, rfl, .same _ nn⟩, ⟨_, rfl, .same _ nn⟩, ⟨_, rfl, .w64 (by simp) ⟨by simp; omega, by simp; omega⟩⟩, trivial⟩) (by simp; omega)
 ·have hi : S.length = n := by simp at hb; omega
  rw [hi, List.drop_eq_nil_of_le (by omega)] at h3
  have h3 : vl 4294967296 S = vl 4294967296 (L.take n) / 2 ^ s := by rw [← h3]; simp [vl]
  have hR : S = pre0 (dg 4294967296 (vl 4294967296 (L.take n) / 2 ^ s)) n := by
   have := list_of_vl hB S h2
   rw [h3, hi] at this
   exact this
  ((conv=>whnf);repeat(refine Xg ?_;conv=>whnf))
  exact fin_mk (n' := 1) (m' := [(0, .row 110 1 (encU (pre0 (dg 4294967296 (vl 4294967296 (L.take n) / 2 ^ s)) n ++ L.drop n)))]) [(0, 0)] rfl ⟨⟨0, _, rfl, rfl, .eq (encU_nn _) (by rw [← hR, hi])⟩, trivial⟩ (.slE rfl rfl) ⟨rfl, rfl, rfl⟩
set_option maxHeartbeats 16000000
set_option linter.unusedSimpArgs false
theorem log2_div {x k : Nat} (h : 0 < x / 2 ^ k) : Nat.log2 x = Nat.log2 (x / 2 ^ k) + k := by
 have hx : x ≠ 0 := fun e => by rw [e] at h; simp at h
 have hy : x / 2 ^ k ≠ 0 := by omega
 obtain ⟨h1, h2⟩ := (Nat.log2_eq_iff hy).1 rfl
 generalize Nat.log2 (x / 2 ^ k) = m at *
 rw [Nat.log2_eq_iff hx]
 have hp : 0 < 2 ^ k := Nat.pow_pos (by decide)
 constructor
 ·rw [Nat.pow_add]
  exact Nat.le_trans (Nat.mul_le_mul_right _ h1) (Nat.div_mul_le_self x (2 ^ k))
 ·rw [show m + k + 1 = (m + 1) + k by omega, Nat.pow_add]
  exact (Nat.div_lt_iff_lt_mul hp).1 h2
theorem tab_of {s : List UInt8} (h : (List.range 256).all (fun y => s[y]? == some (UInt8.ofNat (if y = 0 then 0 else Nat.log2 y + 1))) = true) {y : Nat} (h0 : 0 < y) (hy : y < 256) : s[((y : Nat) : Int).toNat]? = some (UInt8.ofNat (Nat.log2 y + 1)) := by
 have := List.all_eq_true.1 h y (List.mem_range.2 hy)
 rw [if_neg (by omega)] at this
 rw [Int.toNat_natCast]
 exact eq_of_beq this
theorem wLen32 (x : Nat) (h0 : 0 < x) (hx : x < 4294967296) : PureC Tryz.prog [] 129 [.int .u32 x] (.int .i64 ((Nat.log2 x + 1 : Nat) : Int)) := by
 have e16 : ∀ y : Nat, ((y : Int).fdiv (2 ^ min (Int.toNat 16) IntKind.u32.bits)) = ((y / 65536 : Nat) : Int) := fun y => shrW (s := 16) (by decide)
 have e8 : ∀ y : Nat, ((y : Int).fdiv (2 ^ min (Int.toNat 8) IntKind.u32.bits)) = ((y / 256 : Nat) : Int) := fun y => shrW (s := 8) (by decide)
 have eu : ∀ y : Nat, y < 256 → IntKind.u8.wrap (y : Int) = (y : Int) := fun y hy => by rw [wrap_u8_mod]; omega
 have el : ∀ y : Nat, 0 < y → y < 256 → Nat.log2 y < 8 := fun y h1 h2 => (Nat.log2_lt (by omega)).2 (by omega)
 have et : ∀ y : Nat, 0 < y → y < 256 → ((UInt8.ofNat (Nat.log2 y + 1)).toNat : Int) = ((Nat.log2 y + 1 : Nat) : Int) := fun y h1 h2 => by
  have := el y h1 h2
  rw [UInt8.toNat_ofNat']; omega
 have ei : ∀ z : Nat, z < 256 → IntKind.i64.wrap (z : Int) = (z : Int) := fun z hz => wrap64 ⟨by omega, by omega⟩
 refine acalls_go nnΓ Tryz.func129 rfl ?_
 ((conv=>whnf);repeat(refine Xg ?_;conv=>whnf))
 refine bcs_mk (fun hb => ?_) (fun hb => ?_)
 ·have hb : 65536 ≤ x := by simp at hb; omega
  ((conv=>whnf);repeat(refine Xg ?_;conv=>whnf))
  rw [e16]
  refine bcs_mk (fun hc => ?_) (fun hc => ?_)
  ·have hc : 256 ≤ x / 65536 := by simp at hc; omega
   have hy0 : 0 < x / 65536 / 256 := by omega
   have hy : x / 65536 / 256 < 256 := by omega
   have h1 : Nat.log2 x = Nat.log2 (x / 65536) + 16 := log2_div (k := 16) (by omega)
   have h2 : Nat.log2 (x / 65536) = Nat.log2 (x / 65536 / 256) + 8 := log2_div (k := 8) (by omega)
   have h3 := el _ hy0 hy
   ((conv=>whnf);repeat(refine Xg ?_;conv=>whnf))
   rw [e8]
   rw [eu _ hy]
   ((conv=>whnf);repeat(refine Xg ?_;conv=>whnf))
   refine opt_mk (tab_of (by decide +kernel) hy0 hy) ?_
   ((conv=>whnf);repeat(refine Xg ?_;conv=>whnf))
   exact fin_cv (.int (by rw [et _ hy0 hy, ei _ (by omega), show IntKind.i64.wrap (16 + 8) = 24 by decide, wrap64 ⟨by omega, by omega⟩]; omega)) ⟨rfl, rfl, rfl⟩
  ·have hc : x / 65536 < 256 := by simp at hc; omega
   have hy0 : 0 < x / 65536 := by omega
   have hy : x / 65536 < 256 := by omega
   have h1 : Nat.log2 x = Nat.log2 (x / 65536) + 16 := log2_div (k := 16) (by omega)
   have h3 := el _ hy0 hy
   ((conv=>whnf);repeat(refine Xg ?_;conv=>whnf))
   rw [eu _ hy]
   ((conv=>whnf);repeat(refine Xg ?_;conv=>whnf))
   refine opt_mk (tab_of (by decide +kernel) hy0 hy) ?_
   ((conv=>whnf);repeat(refine Xg ?_;conv=>whnf))
   exact fin_cv (.int (by rw [et _ hy0 hy, ei _ (by omega), wrap64 ⟨by omega, by omega⟩]; omega)) ⟨rfl, rfl, rfl⟩
 ·have hb : x < 65536 := by simp at hb; omega
  ((conv=>whnf);repeat(refine Xg ?_;conv=>whnf))
  refine bcs_mk (fun hc => ?_) (fun hc => ?_)
  ·have hc : 256 ≤ x := by simp at hc; omega
   have hy0 : 0 < x / 256 := by omega
   have hy : x / 256 < 256 := by omega
   have h2 : Nat.log2 x = Nat.log2 (x / 256) + 8 := log2_div (k := 8) (by omega)
   have h3 := el _ hy0 hy
   ((conv=>whnf);repeat(refine Xg ?_;conv=>whnf))
   rw [e8]
   rw [eu _ hy]
   ((conv=>whnf);repeat(refine Xg ?_;conv=>whnf))
   refine opt_mk (tab_of (by decide +kernel) hy0 hy) ?_
   ((conv=>whnf);repeat(refine Xg ?_;conv=>whnf))
   exact fin_cv (.int (by rw [et _ hy0 hy, ei _ (by omega), show IntKind.i64.wrap (0 + 8) = 8 by decide, wrap64 ⟨by omega, by omega⟩]; omega)) ⟨rfl, rfl, rfl⟩
  ·have hc : x < 256 := by simp at hc; omega
   have hy0 : 0 < x := by omega
   have hy : x < 256 := by omega
   have h3 := el _ hy0 hy
   ((conv=>whnf);repeat(refine Xg ?_;conv=>whnf))
   rw [eu _ hy]
   ((conv=>whnf);repeat(refine Xg ?_;conv=>whnf))
   refine opt_mk (tab_of (by decide +kernel) hy0 hy) ?_
   ((conv=>whnf);repeat(refine Xg ?_;conv=>whnf))
   exact fin_cv (.int (by rw [et _ hy0 hy, ei _ (by omega), wrap64 ⟨by omega, by omega⟩]; omega)) ⟨rfl, rfl, rfl⟩
theorem wLZ (x : Nat) (h0 : 0 < x) (hx : x < 4294967296) : PureC Tryz.prog [] 109 [.int .u32 x] (.int .i64 ((31 - Nat.log2 x : Nat) : Int)) := by
 have hl := wLen32 x h0 hx
 have h1 : Nat.log2 x < 32 := (Nat.log2_lt (by omega)).2 (by omega)
 refine acalls_go nnΓ Tryz.func109 rfl ?_
 ((conv=>whnf);repeat(refine Xg ?_;conv=>whnf))
 refine hl.go ?_ (.cons nn .nil) nn
 ((conv=>whnf);repeat(refine Xg ?_;conv=>whnf))
 exact fin_cv (.int (by rw [wrap64 ⟨by omega, by omega⟩]; omega)) ⟨rfl, rfl, rfl⟩
theorem lz_norm {x : Nat} (h0 : 0 < x) (hx : x < 4294967296) : 31 - Nat.log2 x < 32 ∧ 2147483648 ≤ x * 2 ^ (31 - Nat.log2 x) ∧ x * 2 ^ (31 - Nat.log2 x) < 4294967296 := by
 have h1 : Nat.log2 x < 32 := (Nat.log2_lt (by omega)).2 (by omega)
 obtain ⟨h2, h3⟩ := (Nat.log2_eq_iff (by omega : x ≠ 0)).1 rfl
 generalize Nat.log2 x = m at *
 refine ⟨by omega, ?_, ?_⟩
 ·have := Nat.mul_le_mul_right (2 ^ (31 - m)) h2
  rw [← Nat.pow_add, show m + (31 - m) = 31 by omega] at this
  exact this
 ·have := Nat.mul_lt_mul_of_pos_right h3 (show 0 < 2 ^ (31 - m) from Nat.pow_pos (by decide))
  rw [← Nat.pow_add, show m + 1 + (31 - m) = 32 by omega] at this
  exact this
set_option maxHeartbeats 16000000
set_option linter.unusedSimpArgs false
def tkM (c q b j n : Nat) (L : List Nat) : Mem := [(0, .row 108 1 [.int .u64 (c : Int)]), (1, .row 108 1 [.int .u64 (q : Int)]), (2, .row 108 1 [.int .u64 (b : Int)]), (3, .row 35 1 [.sl 4 j n]), (4, .row 110 1 (encU L))]
def bkM (c j n : Nat) (L : List Nat) : Mem := [(0, .row 108 1 [.int .u64 (c : Int)]), (1, .row 35 1 [.sl 2 j n]), (2, .row 110 1 (encU L))]
theorem slj_cv {mem : Mem} {σ : List (Nat × Nat)} {i j o n m : Nat} (h : lk σ i = some j) (e : n = m) : CvR mem σ [.sl i o n] [.sl j o m] := .cons (.one rfl rfl (.slE h e)) .nil
theorem getJ {l : List Nat} {i j d : Nat} (h : l[j + i]? = some d) : (encU l)[j + ((i : Nat) : Int).toNat]? = some (.int .u32 (d : Int)) := by rw [Int.toNat_natCast, encU_get, h]; rfl
theorem setJ {l : List Nat} {i j d : Nat} : (encU l).set (j + ((i : Nat) : Int).toNat) (.int .u32 (d : Int)) = encU (l.set (j + i) d) := by rw [Int.toNat_natCast, encU_set]
theorem wTakeStep (L : List Nat) (i j x y q c b n : Nat) (hi : i < n) (hx0 : L[j + i]? = some x) (hx : x < 4294967296) (hy : y < 4294967296) (hq : q < 4294967296) (hc : c < 4294967296) (hb : b ≤ 1) (hnn : n ≤ 1000001) :
  ACalls Tryz.prog [] 130 [.int .i64 i, .int .u32 y, .ptr 0 0 0, .ptr 1 0 0, .ptr 2 0 0, .ptr 3 0 0] (tkM c q b j n L) 5
  fun r m k => r = .tup [] ∧ m = tkM ((c + q * y) / 4294967296) q (if (c + q * y) % 4294967296 + b > x then 1 else 0) j n (L.set (j + i) (if (c + q * y) % 4294967296 + b > x then x + 4294967296 - ((c + q * y) % 4294967296 + b) else x - ((c + q * y) % 4294967296 + b))) ∧ k = 5 := by
 obtain ⟨q1, q2, q3, q4⟩ := prod_lt hq hy (show 0 < 4294967296 by decide) hc
 have e1 : IntKind.u64.wrap (y : Int) = (y : Int) := w64n (by omega)
 have e2 : IntKind.u64.wrap ((q : Int) * (y : Int)) = ((q * y : Nat) : Int) := by rw [← Int.natCast_mul]; exact w64n (by omega)
 have e3 : IntKind.u64.wrap ((c : Int) + ((q * y : Nat) : Int)) = ((c + q * y : Nat) : Int) := by rw [← Int.natCast_add]; exact w64n (by omega)
 have e4 : bits .and .u64 ((c + q * y : Nat) : Int) 4294967295 = (((c + q * y) % 4294967296 : Nat) : Int) := Go.Ax.bits_mask (by omega)
 have hlo : (c + q * y) % 4294967296 < 4294967296 := Nat.mod_lt _ (by decide)
 have e5 : IntKind.u64.wrap ((((c + q * y) % 4294967296 : Nat) : Int) + (b : Int)) = (((c + q * y) % 4294967296 + b : Nat) : Int) := by rw [← Int.natCast_add]; exact w64n (by omega)
 have e6 : IntKind.u64.wrap (x : Int) = (x : Int) := w64n (by omega)
 have g := getJ hx0
 have bi := blt_i hi
 have hW := subW hx hlo hb
 have hsh : (((c + q * y : Nat) : Int).fdiv (2 ^ min (Int.toNat 32) IntKind.u64.bits)) = (((c + q * y) / 4294967296 : Nat) : Int) := shr32
 refine acalls_go nnΓ Tryz.func130 rfl ?_
 ((conv=>whnf);repeat(refine Xg ?_;conv=>whnf))
 rw [e1, e2, e3, e4, e5, hsh]
 generalize (c + q * y) % 4294967296 = lo at *
 generalize (c + q * y) / 4294967296 = ca at *
 repeat ((first | refine grd_mk bi ?_ | refine opt_mk g ?_ | refine ⟨rfl, ?_⟩); ((conv=>whnf);repeat(refine Xg ?_;conv=>whnf)))
 rw [e6]
 refine bcs_mk (fun hc => ?_) (fun hc => ?_)
 all_goals
  ((conv=>whnf);repeat(refine Xg ?_;conv=>whnf))
  repeat ((first | refine grd_mk bi ?_ | refine opt_mk g ?_ | refine setK_iff.2 ?_ | refine ⟨rfl, ?_⟩); ((conv=>whnf);repeat(refine Xg ?_;conv=>whnf)))
 ·have hc : lo + b > x := by simp at hc; omega
  rw [if_pos hc] at hW
  rw [if_pos hc, if_pos hc]
  exact fin_mk (n' := 5) (m' := tkM ca q 1 j n (L.set (j + i) (x + 4294967296 - (lo + b)))) [(0, 0), (1, 1), (2, 2), (3, 3), (4, 4)] rfl ⟨⟨0, _, rfl, rfl, .same (nn1 _ _)⟩, ⟨1, _, rfl, rfl, .same (nn1 _ _)⟩, ⟨2, _, rfl, rfl, .same (nn1 _ _)⟩, ⟨3, _, rfl, rfl, slj_cv rfl rfl⟩, ⟨4, _, rfl, rfl, .eq (encU_nn _) (by rw [hW, setJ])⟩, trivial⟩ (.same _ nn) ⟨rfl, rfl, rfl⟩
 ·have hc : ¬ lo + b > x := by simp at hc; omega
  rw [if_neg hc] at hW
  rw [if_neg hc, if_neg hc]
  exact fin_mk (n' := 5) (m' := tkM ca q 0 j n (L.set (j + i) (x - (lo + b)))) [(0, 0), (1, 1), (2, 2), (3, 3), (4, 4)] rfl ⟨⟨0, _, rfl, rfl, .same (nn1 _ _)⟩, ⟨1, _, rfl, rfl, .same (nn1 _ _)⟩, ⟨2, _, rfl, rfl, .same (nn1 _ _)⟩, ⟨3, _, rfl, rfl, slj_cv rfl rfl⟩, ⟨4, _, rfl, rfl, .eq (encU_nn _) (by rw [hW, setJ])⟩, trivial⟩ (.same _ nn) ⟨rfl, rfl, rfl⟩
theorem wBackStep (L : List Nat) (i j x y c n : Nat) (hi : i < n) (hx0 : L[j + i]? = some x) (hx : x < 4294967296) (hy : y < 4294967296) (hc : c < 4294967296) (hnn : n ≤ 1000001) :
  ACalls Tryz.prog [] 131 [.int .i64 i, .int .u32 y, .ptr 0 0 0, .ptr 1 0 0] (bkM c j n L) 3
  fun r m k => r = .tup [] ∧ m = bkM ((c + (x + y)) / 4294967296) j n (L.set (j + i) ((c + (x + y)) % 4294967296)) ∧ k = 3 := by
 have e1 : IntKind.u64.wrap (x : Int) = (x : Int) := w64n (by omega)
 have e2 : IntKind.u64.wrap (y : Int) = (y : Int) := w64n (by omega)
 have e3 : IntKind.u64.wrap ((x : Int) + (y : Int)) = ((x + y : Nat) : Int) := by rw [← Int.natCast_add]; exact w64n (by omega)
 have e4 : IntKind.u64.wrap ((c : Int) + ((x + y : Nat) : Int)) = ((c + (x + y) : Nat) : Int) := by rw [← Int.natCast_add]; exact w64n (by omega)
 have g := getJ hx0
 have bi := blt_i hi
 refine acalls_go nnΓ Tryz.func131 rfl ?_
 ((conv=>whnf);repeat(refine Xg ?_;conv=>whnf))
 repeat ((first | refine grd_mk bi ?_ | refine opt_mk g ?_ | refine ⟨rfl, ?_⟩); ((conv=>whnf);repeat(refine Xg ?_;conv=>whnf)))
 rw [e1, e2, e3, e4]
 repeat ((first | refine grd_mk bi ?_ | refine opt_mk g ?_ | refine setK_iff.2 ?_ | refine ⟨rfl, ?_⟩); ((conv=>whnf);repeat(refine Xg ?_;conv=>whnf)))
 exact fin_mk (n' := 3) (m' := bkM ((c + (x + y)) / 4294967296) j n (L.set (j + i) ((c + (x + y)) % 4294967296))) [(0, 0), (1, 1), (2, 2)] rfl ⟨⟨0, _, rfl, rfl, .cons (.one rfl rfl (.int shr32)) .nil⟩, ⟨1, _, rfl, rfl, slj_cv rfl rfl⟩, ⟨2, _, rfl, rfl, .eq (encU_nn _) (by rw [w32, setJ])⟩, trivial⟩ (.same _ nn) ⟨rfl, rfl, rfl⟩
set_option maxHeartbeats 16000000
set_option linter.unusedSimpArgs false
def tkN (c q b j n : Nat) (L : List Nat) : Mem := [(1, .row 108 1 [.int .u64 (c : Int)]), (2, .row 108 1 [.int .u64 (q : Int)]), (3, .row 108 1 [.int .u64 (b : Int)]), (4, .row 35 1 [.sl 0 j n]), (0, .row 110 1 (encU L))]
def bkN (c j n : Nat) (L : List Nat) : Mem := [(1, .row 108 1 [.int .u64 (c : Int)]), (2, .row 35 1 [.sl 0 j n]), (0, .row 110 1 (encU L))]
def seg3 (L S : List Nat) (j : Nat) : List Nat := L.take j ++ (S ++ L.drop (j + S.length))
theorem seg3_nil {L : List Nat} {j : Nat} : seg3 L [] j = L := by simp [seg3]
theorem seg3_get {L S : List Nat} {j i u : Nat} (h : L[j + i]? = some u) (hi : S.length ≤ i) : (seg3 L S j)[j + i]? = some u := by
 have hj := (List.getElem?_eq_some_iff.1 h).1
 have hl : (L.take j).length = j := by rw [List.length_take]; omega
 unfold seg3
 rw [List.getElem?_append_right (by omega), hl, List.getElem?_append_right (by omega), List.getElem?_drop, show j + S.length + (j + i - j - S.length) = j + i by omega]
 exact h
theorem seg3_set {L S : List Nat} {j u d : Nat} (h : L[j + S.length]? = some u) : (seg3 L S j).set (j + S.length) d = seg3 L (S ++ [d]) j := by
 obtain ⟨h1, h2⟩ := List.getElem?_eq_some_iff.1 h
 have hl : (L.take j).length = j := by rw [List.length_take]; omega
 unfold seg3
 rw [List.set_append_right _ _ (by omega), hl, show j + S.length - j = S.length by omega, List.set_append_right _ _ (Nat.le_refl _), Nat.sub_self, List.drop_eq_getElem_cons h1, List.set_cons_zero, List.length_append, List.length_singleton]
 simp [Nat.add_assoc]
theorem seg3_len {L S : List Nat} {j : Nat} (h : j + S.length ≤ L.length) : (seg3 L S j).length = L.length := by
 simp [seg3]; omega
theorem seg_get {L : List Nat} {j n i u : Nat} (h : ((L.drop j).take n)[i]? = some u) : L[j + i]? = some u := by
 rw [List.getElem?_take] at h
 split at h
 ·rw [List.getElem?_drop] at h; exact h
 ·cases h
theorem seg3_all {L S : List Nat} {j : Nat} (hL : ∀ d ∈ L, d < 4294967296) (hS : ∀ d ∈ S, d < 4294967296) : ∀ d ∈ seg3 L S j, d < 4294967296 := fun d hd => by
 unfold seg3 at hd
 rcases List.mem_append.1 hd with hd | hd
 ·exact hL d (List.mem_of_mem_take hd)
 ·rcases List.mem_append.1 hd with hd | hd
  ·exact hS d hd
  ·exact hL d (List.mem_of_mem_drop hd)
theorem seg3_seg3 {L S T : List Nat} {j : Nat} (h : S.length = T.length) (hj : j + S.length ≤ L.length) : seg3 (seg3 L S j) T j = seg3 L T j := by
 have hl : (L.take j).length = j := by rw [List.length_take]; omega
 unfold seg3
 rw [List.take_append_of_le_length (by omega), List.take_of_length_le (by omega), List.drop_append, List.drop_eq_nil_of_le (by omega), hl, List.nil_append, show j + T.length - j = S.length by omega, List.drop_append, List.drop_length, Nat.sub_self, List.drop_zero, List.nil_append, h]
theorem wTakeAway (L : List Nat) (j n q V : Nat) (hn : (dg 4294967296 V).length ≤ n) (bl : List Nat) (hbl : bl.length = n) (hbd : ∀ d ∈ bl, d < 4294967296) (hbv : vl 4294967296 bl = V) (hL : ∀ d ∈ L, d < 4294967296) (hj : j + (n + 1) ≤ L.length) (hll : L.length ≤ 1000001) (hq : q < 4294967296)
  (U : Nat) (hU : U = vl 4294967296 ((L.drop j).take (n + 1))) (hqv : q * V ≤ U + V) :
  ACalls Tryz.prog [] 112 [.sl 0 j (n + 1), .il 1 (encU bl), .int .u64 q] [(0, .row 110 1 (encU L))] 1
  fun r m k => r = .bool (decide (U < q * V)) ∧ m = [(0, .row 110 1 (encU (seg3 L (pre0 (dg 4294967296 (if U < q * V then U + V - q * V else U - q * V)) (n + 1)) j)))] ∧ k = 1 := by
 have hB : (2 : Nat) ≤ 4294967296 := by decide
 obtain ⟨A, hA⟩ : ∃ A, A = (L.drop j).take (n + 1) := ⟨_, rfl⟩
 rw [← hA] at hU
 have hAl : A.length = n + 1 := by rw [hA, List.length_take, List.length_drop]; omega
 have hAd : ∀ d ∈ A, d < 4294967296 := fun d hd => hL d (List.mem_of_mem_drop (List.mem_of_mem_take (by rw [hA] at hd; exact hd)))
 have hAg : ∀ i u, A[i]? = some u → L[j + i]? = some u := fun i u h => seg_get (by rw [← hA]; exact h)
 clear hA
 refine acalls_go nnΓ Tryz.func112 rfl ?_
 ((conv=>whnf);repeat(refine Xg ?_;conv=>whnf))
 repeat (refine ⟨rfl, ?_⟩; ((conv=>whnf);repeat(refine Xg ?_;conv=>whnf)))
 refine ALoop.at nnΓ (fun p : List Nat × Nat × Nat => p.1.length ≤ n ∧ (∀ d ∈ p.1, d < 4294967296) ∧ p.2.1 < 4294967296 ∧ p.2.2 ≤ 1 ∧ vl 4294967296 p.1 + q * vl 4294967296 (bl.take p.1.length) = vl 4294967296 (A.take p.1.length) + 4294967296 ^ p.1.length * (p.2.1 + p.2.2))
  (fun p => ⟨[(1, .il 1 (encU bl)), (3, .ptr 4 0 0), (7, .ptr 1 0 0), (8, .ptr 3 0 0), (9, .fn (.func 130) [] [.ptr 1 0 0, .ptr 2 0 0, .ptr 3 0 0, .ptr 4 0 0]), (16, .il 1 (encU bl)), (17, .int .i64 n), (18, .int .i64 p.1.length)], tkN p.2.1 q p.2.2 j (n + 1) (seg3 L p.1 j), 5, 51⟩)
  (fun p => n - p.1.length) ([], 0, 0) [(3, 1), (2, 2), (4, 3), (1, 4), (0, 0)] ⟨by simp, by simp, by simp, by simp, by simp [vl]⟩
  (conv_mk _ rfl ⟨⟨3, _, rfl, rfl, .same (nn1 _ _)⟩, ⟨2, _, rfl, rfl, .same (nn1 _ _)⟩, ⟨4, _, rfl, rfl, .same (nn1 _ _)⟩, ⟨1, _, rfl, rfl, slj_cv rfl rfl⟩, ⟨0, _, rfl, rfl, .eq (encU_nn _) (by rw [seg3_nil])⟩, trivial⟩
   ⟨⟨_, rfl, .same _ (.il' (encU_nn _))⟩, ⟨_, rfl, .ptr 1 4 0 0 rfl⟩, ⟨_, rfl, .ptr 3 1 0 0 rfl⟩, ⟨_, rfl, .ptr 4 3 0 0 rfl⟩, ⟨_, rfl, .fn _ _ _ _ _ rfl rfl (by simp) (CvL.cons (.ptr 3 1 0 0 rfl) (.cons (.ptr 2 2 0 0 rfl) (.cons (.ptr 4 3 0 0 rfl) (.cons (.ptr 1 4 0 0 rfl) .nil)))).2⟩, ⟨_, rfl, .same _ (.il' (encU_nn _))⟩, ⟨_, rfl, .int (by rw [encU_length, hbl])⟩, ⟨_, rfl, .same _ nn⟩, trivial⟩) ?_
 rintro ⟨S, c, b⟩ ⟨h1, h2, h3, h4, h5⟩
 simp only at h1 h2 h3 h4 h5 ⊢
 ((conv=>whnf);repeat(refine Xg ?_;conv=>whnf))
 refine bcs_mk (fun hb => ?_) (fun hb => ?_)
 ·have hlt : S.length < n := by simpa using hb
  obtain ⟨u, hu⟩ : ∃ u, A[S.length]? = some u := ⟨_, List.getElem?_eq_getElem (by omega)⟩
  obtain ⟨v, hv⟩ : ∃ v, bl[S.length]? = some v := ⟨_, List.getElem?_eq_getElem (by omega)⟩
  have hul := hAd _ (List.mem_of_getElem? hu)
  have hvl := hbd _ (List.mem_of_getElem? hv)
  have g2 := getU hv
  have hLu := hAg _ _ hu
  have hst := wTakeStep (seg3 L S j) S.length j u v q c b (n + 1) (by omega) (seg3_get hLu (Nat.le_refl _)) hul hvl hq h3 h4 (by omega)
  rw [seg3_set hLu] at hst
  have hstep := take_step (B := 4294967296) hB (s := S) (x := u) (y := v) (q := q) (c := c) (b := b) rfl h5 hul h4
  obtain ⟨-, -, -, hcl⟩ := prod_lt hq hvl (show 0 < 4294967296 by decide) h3
  rw [Nat.add_zero] at hcl
  have hdg := sub_digit (B := 4294967296) (x := u) (y := (c + q * v) % 4294967296) (b := b) hul (Nat.mod_lt _ (by decide)) h4
  generalize (if (c + q * v) % 4294967296 + b > u then u + 4294967296 - ((c + q * v) % 4294967296 + b) else u - ((c + q * v) % 4294967296 + b)) = d at hst hstep hdg
  have hbo : (if (c + q * v) % 4294967296 + b > u then 1 else 0) ≤ 1 := by split <;> omega
  generalize (if (c + q * v) % 4294967296 + b > u then 1 else 0) = bo at hst hstep hbo
  generalize (c + q * v) / 4294967296 = ca at hst hstep hcl
  ((conv=>whnf);repeat(refine Xg ?_;conv=>whnf))
  repeat ((first | refine opt_mk g2 ?_ | refine ⟨rfl, ?_⟩); ((conv=>whnf);repeat(refine Xg ?_;conv=>whnf)))
  refine ACalls.useN nnΓ [(1, 0), (2, 1), (3, 2), (4, 3), (0, 4)] hst rfl (.cons (.same _ nn) (.cons (.same _ nn) (.cons (.ptr 1 0 0 0 rfl) (.cons (.ptr 2 1 0 0 rfl) (.cons (.ptr 3 2 0 0 rfl) (.cons (.ptr 4 3 0 0 rfl) .nil)))))) ⟨⟨1, _, rfl, rfl, .same (nn1 _ _)⟩, ⟨2, _, rfl, rfl, .same (nn1 _ _)⟩, ⟨3, _, rfl, rfl, .same (nn1 _ _)⟩, ⟨4, _, rfl, rfl, slj_cv rfl rfl⟩, ⟨0, _, rfl, rfl, .same (encU_nn _)⟩, trivial⟩ rfl ?_
  rintro r' m' n' ⟨rfl, rfl, rfl⟩
  refine ⟨[(0, 1), (1, 2), (2, 3), (3, 4), (4, 0)], _, tkN ca q bo j (n + 1) (seg3 L (S ++ [d]) j), 5, .same _ nn, ⟨⟨0, _, rfl, rfl, .same (nn1 _ _)⟩, ⟨1, _, rfl, rfl, .same (nn1 _ _)⟩, ⟨2, _, rfl, rfl, .same (nn1 _ _)⟩, ⟨3, _, rfl, rfl, slj_cv rfl rfl⟩, ⟨4, _, rfl, rfl, .same (encU_nn _)⟩, trivial⟩, rfl, ?_⟩
  ((conv=>whnf);repeat(refine Xg ?_;conv=>whnf))
  exact .mk (S ++ [d], ca, bo) [(0, 0), (1, 1), (2, 2), (3, 3), (4, 4)] ⟨by simp; omega, all_snoc h2 hdg, hcl, hbo, by
     simp only [List.length_append, List.length_singleton]
     rw [vl_take hu, vl_take hv, Nat.mul_add q, Nat.mul_left_comm q]
     exact hstep⟩
   (conv_mk _ rfl ⟨⟨1, _, rfl, rfl, .same (nn1 _ _)⟩, ⟨2, _, rfl, rfl, .same (nn1 _ _)⟩, ⟨3, _, rfl, rfl, .same (nn1 _ _)⟩, ⟨4, _, rfl, rfl, slj_cv rfl rfl⟩, ⟨0, _, rfl, rfl, .same (encU_nn _)⟩, trivial⟩
    ⟨⟨_, rfl, .same _ (.il' (encU_nn _))⟩, ⟨_, rfl, .ptr 4 4 0 0 rfl⟩, ⟨_, rfl, .ptr 1 1 0 0 rfl⟩, ⟨_, rfl, .ptr 3 3 0 0 rfl⟩, ⟨_, rfl, (.fn _ _ _ _ _ rfl rfl (by simp) (CvL.cons (.ptr 1 1 0 0 rfl) (.cons (.ptr 2 2 0 0 rfl) (.cons (.ptr 3 3 0 0 rfl) (.cons (.ptr 4 4 0 0 rfl) .nil)))).2)⟩, ⟨_, rfl, .same _ (.il' (encU_nn _))⟩, ⟨_, rfl, .same _ nn⟩, ⟨_, rfl, .w64 (by simp) ⟨by simp; omega, by simp; omega⟩⟩, trivial⟩) (by simp; omega)
 ·have hlt : S.length = n := by simp at hb; omega
  rw [hlt, ← hbl, List.take_length, hbv] at h5
  obtain ⟨u, hu⟩ : ∃ u, A[S.length]? = some u := ⟨_, List.getElem?_eq_getElem (by omega)⟩
  have hul := hAd _ (List.mem_of_getElem? hu)
  have hLu := hAg _ _ hu
  have hst := wTakeStep (seg3 L S j) S.length j u 0 q c b (n + 1) (by omega) (seg3_get hLu (Nat.le_refl _)) hul (by decide) hq h3 h4 (by omega)
  rw [seg3_set hLu] at hst
  have hstep := take_step (B := 4294967296) hB (s := S) (X := q * V) (A := vl 4294967296 (A.take bl.length)) (x := u) (y := 0) (q := q) (c := c) (b := b) (i := S.length) rfl (by rw [hlt, ← hbl]; exact h5) hul h4
  simp only [Nat.mul_zero, Nat.add_zero, Nat.mod_eq_of_lt h3, Nat.div_eq_of_lt h3] at hst hstep
  have hdg := sub_digit (B := 4294967296) (x := u) (y := c) (b := b) hul h3 h4
  generalize (if c + b > u then u + 4294967296 - (c + b) else u - (c + b)) = d at hst hstep hdg
  have hbo : (if c + b > u then 1 else 0) ≤ 1 := by split <;> omega
  generalize (if c + b > u then 1 else 0) = bo at hst hstep hbo
  have hSd : (S ++ [d]).length = n + 1 := by simp; omega
  have hUt : vl 4294967296 (A.take bl.length) + 4294967296 ^ S.length * u = U := by
   rw [hbl, ← hlt, ← vl_take hu, hlt, hU, List.take_of_length_le (by omega)]
  rw [hUt, Nat.zero_add] at hstep
  have hlt2 := vl_lt hB (S ++ [d]) (all_snoc h2 hdg)
  rw [hSd] at hlt2
  rw [hlt] at hstep hst
  have hall := all_snoc h2 hdg
  generalize S ++ [d] = S2 at *
  ((conv=>whnf);repeat(refine Xg ?_;conv=>whnf))
  rw [encU_length, hbl]
  refine ACalls.useN nnΓ [(1, 0), (2, 1), (3, 2), (4, 3), (0, 4)] hst rfl (.cons (.same _ nn) (.cons (.same _ nn) (.cons (.ptr 1 0 0 0 rfl) (.cons (.ptr 2 1 0 0 rfl) (.cons (.ptr 3 2 0 0 rfl) (.cons (.ptr 4 3 0 0 rfl) .nil)))))) ⟨⟨1, _, rfl, rfl, .same (nn1 _ _)⟩, ⟨2, _, rfl, rfl, .same (nn1 _ _)⟩, ⟨3, _, rfl, rfl, .same (nn1 _ _)⟩, ⟨4, _, rfl, rfl, slj_cv rfl rfl⟩, ⟨0, _, rfl, rfl, .same (encU_nn _)⟩, trivial⟩ rfl ?_
  rintro r' m' n' ⟨rfl, rfl, rfl⟩
  refine ⟨[(0, 1), (1, 2), (2, 3), (3, 4), (4, 0)], _, tkN 0 q bo j (n + 1) (seg3 L S2 j), 5, .same _ nn, ⟨⟨0, _, rfl, rfl, .same (nn1 _ _)⟩, ⟨1, _, rfl, rfl, .same (nn1 _ _)⟩, ⟨2, _, rfl, rfl, .same (nn1 _ _)⟩, ⟨3, _, rfl, rfl, slj_cv rfl rfl⟩, ⟨4, _, rfl, rfl, .same (encU_nn _)⟩, trivial⟩, rfl, ?_⟩
  ((conv=>whnf);repeat(refine Xg ?_;conv=>whnf))
  rcases (show bo = 0 ∨ bo = 1 by omega) with rfl | rfl
  ·have hge : ¬ U < q * V := by rw [Nat.mul_zero] at hstep; omega
   have hS2 : S2 = pre0 (dg 4294967296 (U - q * V)) (n + 1) := by
    have := list_of_vl hB S2 hall
    rw [hSd, show vl 4294967296 S2 = U - q * V by omega] at this
    exact this
   ((conv=>whnf);repeat(refine Xg ?_;conv=>whnf))
   exact fin_mk (r' := .bool (decide (U < q * V))) (n' := 1) (m' := [(0, .row 110 1 (encU (seg3 L (pre0 (dg 4294967296 (if U < q * V then U + V - q * V else U - q * V)) (n + 1)) j)))]) [(0, 0)] rfl ⟨⟨0, _, rfl, rfl, .eq (encU_nn _) (by rw [if_neg hge, ← hS2])⟩, trivial⟩ (.bool (by rw [decide_eq_false hge])) ⟨rfl, rfl, rfl⟩
  ·have hlt3 : U < q * V := by rw [Nat.mul_one] at hstep; omega
   have hVlt : V < 4294967296 ^ (n + 1) := Nat.lt_of_lt_of_le (dg_lt_pow hB) (Nat.pow_le_pow_right (by decide) (by omega))
   ((conv=>whnf);repeat(refine Xg ?_;conv=>whnf))
   repeat (refine ⟨rfl, ?_⟩; ((conv=>whnf);repeat(refine Xg ?_;conv=>whnf)))
   refine ALoop.at nnΓ (fun p : List Nat × Nat => p.1.length ≤ n ∧ (∀ d ∈ p.1, d < 4294967296) ∧ p.2 ≤ 1 ∧ vl 4294967296 p.1 + 4294967296 ^ p.1.length * p.2 = vl 4294967296 (S2.take p.1.length) + vl 4294967296 (bl.take p.1.length))
    (fun p => ⟨[(1, .il 1 (encU bl)), (12, .fn (.func 131) [] [.ptr 1 0 0, .ptr 2 0 0]), (35, .il 1 (encU bl)), (36, .int .i64 n), (37, .int .i64 p.1.length)], bkN p.2 j (n + 1) (seg3 (seg3 L S2 j) p.1 j), 3, 51⟩)
    (fun p => n - p.1.length) ([], 0) [(1, 1), (4, 2), (0, 0)] ⟨by simp, by simp, by simp, by simp [vl]⟩
    (conv_mk _ rfl ⟨⟨1, _, rfl, rfl, .same (nn1 _ _)⟩, ⟨4, _, rfl, rfl, slj_cv rfl rfl⟩, ⟨0, _, rfl, rfl, .eq (encU_nn _) (by rw [seg3_nil])⟩, trivial⟩
     ⟨⟨_, rfl, .same _ (.il' (encU_nn _))⟩, ⟨_, rfl, (.fn _ _ _ _ _ rfl rfl (by simp) (CvL.cons (.ptr 1 1 0 0 rfl) (.cons (.ptr 4 2 0 0 rfl) .nil)).2)⟩, ⟨_, rfl, .same _ (.il' (encU_nn _))⟩, ⟨_, rfl, .int (by rw [encU_length, hbl])⟩, ⟨_, rfl, .same _ nn⟩, trivial⟩) ?_
   have hLS := seg3_all (j := j) hL hall
   have hLl : (seg3 L S2 j).length = L.length := seg3_len (by omega)
   have hLg : ∀ i u, S2[i]? = some u → (seg3 L S2 j)[j + i]? = some u := fun i u h => by
    have hi := (List.getElem?_eq_some_iff.1 h).1
    have hl : (L.take j).length = j := by rw [List.length_take]; omega
    unfold seg3
    rw [List.getElem?_append_right (by omega), hl, Nat.add_sub_cancel_left, List.getElem?_append_left hi]
    exact h
   clear h1 h2 h3 h4 h5 hst hu hul hLu hUt hdg hbo hlt S c b u d hb
   rintro ⟨S, c⟩ ⟨h1, h2, h4, h5⟩
   simp only at h1 h2 h4 h5 ⊢
   ((conv=>whnf);repeat(refine Xg ?_;conv=>whnf))
   refine bcs_mk (fun hb => ?_) (fun hb => ?_)
   ·have hlt : S.length < n := by simpa using hb
    obtain ⟨u, hu⟩ : ∃ u, S2[S.length]? = some u := ⟨_, List.getElem?_eq_getElem (by omega)⟩
    obtain ⟨v, hv⟩ : ∃ v, bl[S.length]? = some v := ⟨_, List.getElem?_eq_getElem (by omega)⟩
    have hul := hall _ (List.mem_of_getElem? hu)
    have hvl := hbd _ (List.mem_of_getElem? hv)
    have g2 := getU hv
    have hLu := hLg _ _ hu
    have hst := wBackStep (seg3 (seg3 L S2 j) S j) S.length j u v c (n + 1) (by omega) (seg3_get hLu (Nat.le_refl _)) hul hvl (by omega) (by omega)
    rw [seg3_set hLu] at hst
    have hstep2 := add_step (B := 4294967296) hB (s := S) (x := u) (y := v) rfl h5
    have hdv : (c + (u + v)) / 4294967296 ≤ 1 := by omega
    have hmd : (c + (u + v)) % 4294967296 < 4294967296 := Nat.mod_lt _ (by decide)
    ((conv=>whnf);repeat(refine Xg ?_;conv=>whnf))
    repeat ((first | refine opt_mk g2 ?_ | refine ⟨rfl, ?_⟩); ((conv=>whnf);repeat(refine Xg ?_;conv=>whnf)))
    refine ACalls.useN nnΓ [(1, 0), (2, 1), (0, 2)] hst rfl (.cons (.same _ nn) (.cons (.same _ nn) (.cons (.ptr 1 0 0 0 rfl) (.cons (.ptr 2 1 0 0 rfl) .nil)))) ⟨⟨1, _, rfl, rfl, .same (nn1 _ _)⟩, ⟨2, _, rfl, rfl, slj_cv rfl rfl⟩, ⟨0, _, rfl, rfl, .same (encU_nn _)⟩, trivial⟩ rfl ?_
    rintro r' m' n' ⟨rfl, rfl, rfl⟩
    refine ⟨[(0, 1), (1, 2), (2, 0)], _, bkN ((c + (u + v)) / 4294967296) j (n + 1) (seg3 (seg3 L S2 j) (S ++ [(c + (u + v)) % 4294967296]) j), 3, .same _ nn, ⟨⟨0, _, rfl, rfl, .same (nn1 _ _)⟩, ⟨1, _, rfl, rfl, slj_cv rfl rfl⟩, ⟨2, _, rfl, rfl, .same (encU_nn _)⟩, trivial⟩, rfl, ?_⟩
    ((conv=>whnf);repeat(refine Xg ?_;conv=>whnf))
    exact .mk (S ++ [(c + (u + v)) % 4294967296], (c + (u + v)) / 4294967296) [(0, 0), (1, 1), (2, 2)] ⟨by simp; omega, all_snoc h2 hmd, hdv, by simp only [List.length_append, List.length_singleton]; rw [vl_take hu, vl_take hv]; exact hstep2⟩
     (conv_mk _ rfl ⟨⟨1, _, rfl, rfl, .same (nn1 _ _)⟩, ⟨2, _, rfl, rfl, slj_cv rfl rfl⟩, ⟨0, _, rfl, rfl, .same (encU_nn _)⟩, trivial⟩
      ⟨⟨_, rfl, .same _ (.il' (encU_nn _))⟩, ⟨_, rfl, (.fn _ _ _ _ _ rfl rfl (by simp) (CvL.cons (.ptr 1 1 0 0 rfl) (.cons (.ptr 2 2 0 0 rfl) .nil)).2)⟩, ⟨_, rfl, .same _ (.il' (encU_nn _))⟩, ⟨_, rfl, .same _ nn⟩, ⟨_, rfl, .w64 (by simp) ⟨by simp; omega, by simp; omega⟩⟩, trivial⟩) (by simp; omega)
   ·have hlt : S.length = n := by simp at hb; omega
    rw [hlt, ← hbl, List.take_length, hbv] at h5
    obtain ⟨u, hu⟩ : ∃ u, S2[S.length]? = some u := ⟨_, List.getElem?_eq_getElem (by omega)⟩
    have hul := hall _ (List.mem_of_getElem? hu)
    have hLu := hLg _ _ hu
    have hst := wBackStep (seg3 (seg3 L S2 j) S j) S.length j u 0 c (n + 1) (by omega) (seg3_get hLu (Nat.le_refl _)) hul (by decide) (by omega) (by omega)
    rw [seg3_set hLu] at hst
    have hstep2 := add_step (B := 4294967296) hB (s := S) (va := vl 4294967296 (S2.take bl.length)) (vb := V) (c := c) (i := S.length) (x := u) (y := 0) rfl (by rw [hlt, ← hbl]; exact h5)
    have hdv : (c + (u + 0)) / 4294967296 ≤ 1 := by omega
    have hmd : (c + (u + 0)) % 4294967296 < 4294967296 := Nat.mod_lt _ (by decide)
    have hSd2 : (S ++ [(c + (u + 0)) % 4294967296]).length = n + 1 := by simp; omega
    have hUt2 : vl 4294967296 (S2.take bl.length) + 4294967296 ^ S.length * u = vl 4294967296 S2 := by
     rw [hbl, ← hlt, ← vl_take hu, hlt, List.take_of_length_le (by omega)]
    rw [hUt2, Nat.mul_zero, Nat.add_zero] at hstep2
    have hall2 := all_snoc h2 hmd
    have hlt4 := vl_lt hB (S ++ [(c + (u + 0)) % 4294967296]) hall2
    rw [hSd2] at hlt4
    rw [hlt] at hstep2 hst
    generalize S ++ [(c + (u + 0)) % 4294967296] = T at *
    generalize (c + (u + 0)) / 4294967296 = c2 at *
    have hc2 : c2 = 1 := by
     rcases (show c2 = 0 ∨ c2 = 1 by omega) with e | e
     ·exfalso
      rw [e, Nat.mul_zero] at hstep2
      rw [Nat.mul_one] at hstep
      omega
     ·exact e
    have hT : T = pre0 (dg 4294967296 (U + V - q * V)) (n + 1) := by
     have := list_of_vl hB T hall2
     rw [hSd2, show vl 4294967296 T = U + V - q * V by rw [hc2, Nat.mul_one] at hstep2; rw [Nat.mul_one] at hstep; omega] at this
     exact this
    have hseg : seg3 (seg3 L S2 j) T j = seg3 L T j := seg3_seg3 (by omega) (by omega)
    rw [hseg] at hst
    ((conv=>whnf);repeat(refine Xg ?_;conv=>whnf))
    rw [encU_length, hbl]
    refine ACalls.useN nnΓ [(1, 0), (2, 1), (0, 2)] hst rfl (.cons (.same _ nn) (.cons (.same _ nn) (.cons (.ptr 1 0 0 0 rfl) (.cons (.ptr 2 1 0 0 rfl) .nil)))) ⟨⟨1, _, rfl, rfl, .same (nn1 _ _)⟩, ⟨2, _, rfl, rfl, slj_cv rfl rfl⟩, ⟨0, _, rfl, rfl, .same (encU_nn _)⟩, trivial⟩ rfl ?_
    rintro r' m' n' ⟨rfl, rfl, rfl⟩
    refine ⟨[(0, 1), (1, 2), (2, 0)], _, bkN c2 j (n + 1) (seg3 L T j), 3, .same _ nn, ⟨⟨0, _, rfl, rfl, .same (nn1 _ _)⟩, ⟨1, _, rfl, rfl, slj_cv rfl rfl⟩, ⟨2, _, rfl, rfl, .same (encU_nn _)⟩, trivial⟩, rfl, ?_⟩
    ((conv=>whnf);repeat(refine Xg ?_;conv=>whnf))
    exact fin_mk (r' := .bool (decide (U < q * V))) (n' := 1) (m' := [(0, .row 110 1 (encU (seg3 L (pre0 (dg 4294967296 (if U < q * V then U + V - q * V else U - q * V)) (n + 1)) j)))]) [(0, 0)] rfl ⟨⟨0, _, rfl, rfl, .eq (encU_nn _) (by rw [if_pos hlt3, ← hT])⟩, trivial⟩ (.bool (by rw [decide_eq_true hlt3])) ⟨rfl, rfl, rfl⟩
set_option maxHeartbeats 16000000
set_option linter.unusedSimpArgs false
def stM (n nl qn : Nat) (dl N Q : List Nat) : Mem := [(0, .row 35 1 [.sl 4 0 nl]), (1, .row 3 1 [.int .i64 (n : Int)]), (2, .row 35 1 [.il 1 (encU dl)]), (3, .row 35 1 [.sl 5 0 qn]), (4, .row 110 1 (encU N)), (5, .row 110 1 (encU Q))]
theorem ild_cv {mem : Mem} {σ : List (Nat × Nat)} {l : List Nat} : CvR mem σ [.il 1 (encU l)] [.il 1 (encU l)] := .same (fun a ha => by rw [List.mem_singleton.1 ha]; exact .il' (encU_nn _))
theorem wSettle (N Q dl : List Nat) (j n q V U nl qn : Nat) (hV : (dg 4294967296 V).length ≤ n) (hbl : dl.length = n) (hbd : ∀ d ∈ dl, d < 4294967296) (hbv : vl 4294967296 dl = V) (hN : ∀ d ∈ N, d < 4294967296) (hNl : N.length = nl) (hj : j + (n + 1) ≤ nl) (hnn : nl ≤ 1000001) (hQl : Q.length = qn) (hjq : j < qn) (hq : q < 4294967296)
  (hU : U = vl 4294967296 ((N.drop j).take (n + 1))) (up : U < (q + 1) * V) (hqv : q * V ≤ U + V) :
  ACalls Tryz.prog [] 111 [.int .i64 j, .int .u64 q, .ptr 0 0 0, .ptr 1 0 0, .ptr 2 0 0, .ptr 3 0 0] (stM n nl qn dl N Q) 6
  fun r m k => r = .tup [] ∧ m = stM n nl qn dl (seg3 N (pre0 (dg 4294967296 (U % V)) (n + 1)) j) (Q.set j (U / V)) ∧ k = 6 := by
 have hT := wTakeAway N j n q V hV dl hbl hbd hbv hN (by omega) (by omega) hq U hU hqv
 obtain ⟨z, hz⟩ : ∃ z, Q[j]? = some z := ⟨_, List.getElem?_eq_getElem (by omega)⟩
 have g := getU0 hz
 have bi := blt_i (i := j) (n := qn) hjq
 have e1 : IntKind.i64.wrap ((j : Int) + (n : Int)) = ((j + n : Nat) : Int) := by rw [wrap64 ⟨by omega, by omega⟩]; omega
 have e2 : IntKind.i64.wrap (((j + n : Nat) : Int) + 1) = ((j + (n + 1) : Nat) : Int) := by rw [wrap64 ⟨by omega, by omega⟩]; omega
 refine acalls_go nnΓ Tryz.func111 rfl ?_
 ((conv=>whnf);repeat(refine Xg ?_;conv=>whnf))
 rw [e1, e2]
 ((conv=>whnf);repeat(refine Xg ?_;conv=>whnf))
 have e3 : 0 + ((j : Nat) : Int).toNat = j := by rw [Int.toNat_natCast]; omega
 have e4 : ((j + (n + 1) : Nat) : Int).toNat - ((j : Nat) : Int).toNat = n + 1 := by rw [Int.toNat_natCast, Int.toNat_natCast]; omega
 refine grd_mk (by rw [Int.toNat_natCast, Int.toNat_natCast, Nat.ble_eq_true_of_le (by omega), Nat.ble_eq_true_of_le hj, Nat.ble_eq_true_of_le (Nat.le_refl _)]; rfl) ?_
 ((conv=>whnf);repeat(refine Xg ?_;conv=>whnf))
 rw [e3, e4]
 refine ACalls.useN nnΓ [(4, 0)] hT rfl (.cons (.sl 4 0 j (n + 1) rfl) (.cons (.same _ (.il' (encU_nn _))) (.cons (.same _ nn) .nil))) ⟨⟨4, _, rfl, rfl, .same (encU_nn _)⟩, trivial⟩ rfl ?_
 rintro r' m' n' ⟨rfl, rfl, rfl⟩
 refine ⟨[(0, 4)], _, [(4, .row 110 1 (encU (seg3 N (pre0 (dg 4294967296 (if U < q * V then U + V - q * V else U - q * V)) (n + 1)) j)))], 16, .same _ nn, ⟨⟨0, _, rfl, rfl, .same (encU_nn _)⟩, trivial⟩, rfl, ?_⟩
 ((conv=>whnf);repeat(refine Xg ?_;conv=>whnf))
 repeat (refine ⟨rfl, ?_⟩; ((conv=>whnf);repeat(refine Xg ?_;conv=>whnf)))
 by_cases hc : U < q * V
 ·rw [if_pos hc, decide_eq_true hc]
  have hq0 : 0 < q := by
   rcases Nat.eq_zero_or_pos q with e | e
   ·rw [e, Nat.zero_mul] at hc; omega
   ·exact e
  obtain ⟨q1, q2⟩ := digit_less hq0 hc hqv
  have e5 : IntKind.u64.wrap ((q : Int) - 1) = ((q - 1 : Nat) : Int) := by rw [show (q : Int) - 1 = ((q - 1 : Nat) : Int) by omega]; exact w64n (by omega)
  rw [show U + V - q * V = U % V by omega]
  ((conv=>whnf);repeat(refine Xg ?_;conv=>whnf))
  rw [e5]
  repeat ((first | refine grd_mk bi ?_ | refine opt_mk g ?_ | refine setK_iff.2 ?_ | refine ⟨rfl, ?_⟩); ((conv=>whnf);repeat(refine Xg ?_;conv=>whnf)))
  exact fin_mk (n' := 6) (m' := stM n nl qn dl (seg3 N (pre0 (dg 4294967296 (U % V)) (n + 1)) j) (Q.set j (U / V))) [(0, 0), (1, 1), (2, 2), (3, 3), (4, 4), (5, 5)] rfl ⟨⟨0, _, rfl, rfl, slj_cv rfl rfl⟩, ⟨1, _, rfl, rfl, .same (nn1 _ _)⟩, ⟨2, _, rfl, rfl, ild_cv⟩, ⟨3, _, rfl, rfl, slj_cv rfl rfl⟩, ⟨4, _, rfl, rfl, .same (encU_nn _)⟩, ⟨5, _, rfl, rfl, .eq (encU_nn _) (by rw [w32s (by omega), Int.toNat_natCast, Nat.zero_add, encU_set, q1])⟩, trivial⟩ (.same _ nn) ⟨rfl, rfl, rfl⟩
 ·rw [if_neg hc, decide_eq_false hc]
  obtain ⟨q1, q2⟩ := digit_exact up (by omega)
  rw [← q2]
  ((conv=>whnf);repeat(refine Xg ?_;conv=>whnf))
  repeat ((first | refine grd_mk bi ?_ | refine opt_mk g ?_ | refine setK_iff.2 ?_ | refine ⟨rfl, ?_⟩); ((conv=>whnf);repeat(refine Xg ?_;conv=>whnf)))
  exact fin_mk (n' := 6) (m' := stM n nl qn dl (seg3 N (pre0 (dg 4294967296 (U % V)) (n + 1)) j) (Q.set j (U / V))) [(0, 0), (1, 1), (2, 2), (3, 3), (4, 4), (5, 5)] rfl ⟨⟨0, _, rfl, rfl, slj_cv rfl rfl⟩, ⟨1, _, rfl, rfl, .same (nn1 _ _)⟩, ⟨2, _, rfl, rfl, ild_cv⟩, ⟨3, _, rfl, rfl, slj_cv rfl rfl⟩, ⟨4, _, rfl, rfl, .same (encU_nn _)⟩, ⟨5, _, rfl, rfl, .eq (encU_nn _) (by rw [w32s (by omega), Int.toNat_natCast, Nat.zero_add, encU_set, q1])⟩, trivial⟩ (.same _ nn) ⟨rfl, rfl, rfl⟩
set_option maxHeartbeats 16000000
set_option linter.unusedSimpArgs false
theorem trimZ_prefix : ∀ l : List Nat, trimZ l = l.take (trimZ l).length
 | [] => rfl
 | d :: r => by
  rw [trimZ]
  split
  ·rfl
  ·rw [List.length_cons, List.take_succ_cons, ← trimZ_prefix r]
theorem wTrimO (l : List Nat) (n : Nat) (hn : n ≤ l.length) (hl : l.length ≤ 4294967296) : ACalls Tryz.prog [] 69 [.sl 0 0 n] [(0, .row 110 1 (encU l))] 1
  fun r m k => r = .sl 0 0 (trimZ (l.take n)).length ∧ m = [(0, .row 110 1 (encU l))] ∧ k = 1 := by
 refine acalls_go nnΓ Tryz.func69 rfl ?_
 ((conv=>whnf);repeat(refine Xg ?_;conv=>whnf))
 refine ALoop.at nnΓ (fun k : Nat => k ≤ n ∧ trimZ (l.take k) = trimZ (l.take n)) (fun k => ⟨[(0, .sl 0 0 k)], [(0, .row 110 1 (encU l))], 1, 21⟩) (fun k => k) n [(0, 0)] ⟨Nat.le_refl _, rfl⟩
  (conv_mk _ rfl ⟨⟨0, _, rfl, rfl, .same (encU_nn _)⟩, trivial⟩ ⟨⟨_, rfl, .slE rfl rfl⟩, trivial⟩) ?_
 rintro k ⟨hk, ht⟩
 ((conv=>whnf);repeat(refine Xg ?_;conv=>whnf))
 refine bcs_mk (fun hb => ?_) (fun hb => ?_)
 ·rw [hb]
  have hk0 : 0 < k := by simpa using hb
  obtain ⟨j, rfl⟩ : ∃ j, k = j + 1 := ⟨k - 1, by omega⟩
  obtain ⟨d, hd⟩ : ∃ d, l[j]? = some d := ⟨_, List.getElem?_eq_getElem (by omega)⟩
  have hw : IntKind.i64.wrap (((j + 1 : Nat) : Int) - 1) = (j : Int) := by rw [wrap64 ⟨by omega, by omega⟩]; omega
  have e1 := getU0 hd
  have bi := blt_i (i := j) (n := j + 1) (by omega)
  have hts : trimZ (l.take (j + 1)) = if d = 0 then trimZ (l.take j) else l.take (j + 1) := by
   rw [take_snoc hd, trimZ_snoc]
  ((conv=>whnf);repeat(refine Xg ?_;conv=>whnf))
  rw [hw]
  refine grd_mk bi ?_
  ((conv=>whnf);repeat(refine Xg ?_;conv=>whnf))
  refine opt_mk e1 ?_
  ((conv=>whnf);repeat(refine Xg ?_;conv=>whnf))
  refine opt_mk e1 ?_
  ((conv=>whnf);repeat(refine Xg ?_;conv=>whnf))
  refine bcs_mk (fun hc => ?_) (fun hc => ?_)
  ·have hd0 : d = 0 := by simpa using hc
   ((conv=>whnf);repeat(refine Xg ?_;conv=>whnf))
   rw [hw]
   refine grd_mk (sl_ok (by omega)) ?_
   ((conv=>whnf);repeat(refine Xg ?_;conv=>whnf))
   exact .mk j [(0, 0)] ⟨by omega, by rw [if_pos hd0] at hts; rw [← hts]; exact ht⟩ (conv_mk _ rfl ⟨⟨0, _, rfl, rfl, .same (encU_nn _)⟩, trivial⟩ ⟨⟨_, rfl, .slE rfl (by simp)⟩, trivial⟩) (by omega)
  ·((conv=>whnf);repeat(refine Xg ?_;conv=>whnf))
   have hd0 : d ≠ 0 := by simpa using hc
   rw [if_neg hd0] at hts
   exact fin_mk (n' := 1) (m' := [(0, .row 110 1 (encU l))]) [(0, 0)] rfl ⟨⟨0, _, rfl, rfl, .same (encU_nn _)⟩, trivial⟩ (.slE rfl (by rw [← ht, hts, List.length_take]; omega)) ⟨rfl, rfl, rfl⟩
 ·try rw [hb]
  have hk0 : k = 0 := by simp at hb; omega
  subst hk0
  ((conv=>whnf);repeat(refine Xg ?_;conv=>whnf))
  exact fin_mk (n' := 1) (m' := [(0, .row 110 1 (encU l))]) [(0, 0)] rfl ⟨⟨0, _, rfl, rfl, .same (encU_nn _)⟩, trivial⟩ (.slE rfl (by rw [← ht]; rfl)) ⟨rfl, rfl, rfl⟩
set_option maxHeartbeats 16000000
set_option linter.unusedSimpArgs false
theorem dg_one {d : Nat} (h0 : 0 < d) (h : d < 4294967296) : dg 4294967296 d = [d] := by
 rw [dg_pos (by decide) h0, Nat.mod_eq_of_lt h, Nat.div_eq_of_lt h, dg_zero]
theorem norm_div {y s : Nat} {b : List Nat} {n u : Nat} (hb : b = dg 4294967296 y) (hl : b.length = n + 1) (hu : b[n]? = some u) (h1 : 2147483648 ≤ u * 2 ^ s) (h2 : u * 2 ^ s < 4294967296) (hs : s < 32) :
  2147483648 * 4294967296 ^ n ≤ y * 2 ^ s ∧ y * 2 ^ s < 4294967296 ^ (n + 1) := by
 have hB : (2 : Nat) ≤ 4294967296 := by decide
 have hd := dg_lt hB y
 have hv := vl_dg hB y
 rw [← hb] at hd hv
 have e := vl_drop 4294967296 b n (by omega)
 rw [vl_cons_drop hu, List.drop_eq_nil_of_le (by omega), hv] at e
 have hlt := vl_lt hB (b.take n) fun d hm => hd d (List.mem_of_mem_take hm)
 rw [List.length_take, Nat.min_eq_left (by omega)] at hlt
 simp only [vl, Nat.mul_zero, Nat.add_zero] at e
 have hp : 0 < 2 ^ s := Nat.pow_pos (by decide)
 constructor
 ·have : 4294967296 ^ n * (u * 2 ^ s) ≤ y * 2 ^ s := by rw [← Nat.mul_assoc]; exact Nat.mul_le_mul_right _ (by omega)
  have h3 : 4294967296 ^ n * 2147483648 ≤ 4294967296 ^ n * (u * 2 ^ s) := Nat.mul_le_mul_left _ h1
  rw [Nat.mul_comm 2147483648]; omega
 ·have h3 : y < 4294967296 ^ n * (u + 1) := by rw [Nat.mul_add, Nat.mul_one]; omega
  have h4 : y * 2 ^ s < 4294967296 ^ n * (u + 1) * 2 ^ s := Nat.mul_lt_mul_of_pos_right h3 hp
  have h5 : (u + 1) * 2 ^ s ≤ 4294967296 := by
   have hpq : 2 ^ s * 2 ^ (32 - s) = 4294967296 := pow_split (by omega)
   rw [← hpq, Nat.mul_comm] at h2
   have : u < 2 ^ (32 - s) := Nat.lt_of_mul_lt_mul_left h2
   rw [← hpq, Nat.mul_comm]
   exact Nat.mul_le_mul_left _ this
  have h6 : 4294967296 ^ n * ((u + 1) * 2 ^ s) ≤ 4294967296 ^ n * 4294967296 := Nat.mul_le_mul_left _ h5
  rw [Nat.pow_succ]
  rw [Nat.mul_assoc] at h4
  omega
theorem div_prep (y : Nat) (hy0 : 0 < y) (hb2 : 2 ≤ (dg 4294967296 y).length) : ∃ n u s, (dg 4294967296 y).length = n + 2 ∧ (dg 4294967296 y)[n + 1]? = some u ∧ s < 32 ∧ 2147483648 * 4294967296 ^ (n + 1) ≤ y * 2 ^ s ∧ y * 2 ^ s < 4294967296 ^ (n + 1 + 1) ∧ (dg 4294967296 (y * 2 ^ s)).length = n + 2 ∧
  PureC Tryz.prog [] 109 [.int .u32 u] (.int .i64 (s : Nat)) := by
 have hB : (2 : Nat) ≤ 4294967296 := by decide
 obtain ⟨n, hn⟩ : ∃ n, (dg 4294967296 y).length = n + 2 := ⟨(dg 4294967296 y).length - 2, by omega⟩
 obtain ⟨u, hu⟩ : ∃ u, (dg 4294967296 y)[n + 1]? = some u := ⟨_, List.getElem?_eq_getElem (by omega)⟩
 have hul := dg_lt hB y _ (List.mem_of_getElem? hu)
 have hu0 : 0 < u := by
  have h1 := vl_drop 4294967296 (dg 4294967296 y) (n + 1) (by omega)
  rw [vl_cons_drop hu, List.drop_eq_nil_of_le (by omega), vl_dg hB] at h1
  have h2 := vl_lt hB ((dg 4294967296 y).take (n + 1)) fun d hm => dg_lt hB y d (List.mem_of_mem_take hm)
  rw [List.length_take, Nat.min_eq_left (by omega)] at h2
  have h3 := dg_ge hB y hy0
  rw [hn, show n + 2 - 1 = n + 1 by omega] at h3
  clear hn hu hul
  simp only [vl, Nat.mul_zero, Nat.add_zero] at h1
  generalize 4294967296 ^ (n + 1) = P at *
  rcases Nat.eq_zero_or_pos u with e | e
  ·rw [e, Nat.mul_zero, Nat.add_zero] at h1
   omega
  ·exact e
 have hlz := wLZ u hu0 hul
 obtain ⟨s1, s2, s3⟩ := lz_norm hu0 hul
 generalize 31 - Nat.log2 u = s at *
 obtain ⟨v1, v2⟩ := norm_div rfl hn hu s2 s3 s1
 refine ⟨n, u, s, hn, hu, s1, v1, v2, ?_, hlz⟩
 have h1 := dg_len_le hB v2
 rcases Nat.lt_or_ge (dg 4294967296 (y * 2 ^ s)).length (n + 2) with h2 | h2
 ·exfalso
  have h3 := dg_lt_pow (n := y * 2 ^ s) hB
  have h4 : 4294967296 ^ (dg 4294967296 (y * 2 ^ s)).length ≤ 4294967296 ^ (n + 1) := Nat.pow_le_pow_right (by decide) (by omega)
  have h6 : y * 2 ^ s < 4294967296 ^ (n + 1) := Nat.lt_of_lt_of_le h3 h4
  have h7 : 2147483648 * 4294967296 ^ (n + 1) < 4294967296 ^ (n + 1) := Nat.lt_of_le_of_lt v1 h6
  generalize 4294967296 ^ (n + 1) = P at h7
  omega
 ·omega
theorem seg_put {L : List Nat} {j n i u : Nat} (h : L[j + i]? = some u) (hi : i < n) : ((L.drop j).take n)[i]? = some u := by
 rw [List.getElem?_take, if_pos hi, List.getElem?_drop]; exact h
structure DvI (qn lx V X m : Nat) (N R : List Nat) : Prop where
 a1 : m ≤ qn
 a2 : N.length = lx + 1
 a3 : ∀ d ∈ N, d < 4294967296
 a4 : R.length = qn - m
 a5 : ∀ d ∈ R, d < 4294967296
 a6 : vl 4294967296 R * 4294967296 ^ m * V + vl 4294967296 N = X
 a7 : vl 4294967296 N < V * 4294967296 ^ m
theorem wDivMag (x y : Nat) (hy0 : 0 < y) (hx : (dg 4294967296 x).length ≤ 1000000) (hy : (dg 4294967296 y).length ≤ 1000000) : PureC Tryz.prog [] 90 [.il 1 (encU (dg 4294967296 x)), .il 1 (encU (dg 4294967296 y))] (.tup [.il 1 (encU (dg 4294967296 (x / y))), .il 1 (encU (dg 4294967296 (x % y)))]) := by
 have hB : (2 : Nat) ≤ 4294967296 := by decide
 have hcm := wCmp x y (by omega)
 have ta : NN (.il 1 (encU (dg 4294967296 x))) := .il' (encU_nn _)
 have tb : NN (.il 1 (encU (dg 4294967296 y))) := .il' (encU_nn _)
 have tr : NN (.tup [.il 1 (encU (dg 4294967296 (x / y))), .il 1 (encU (dg 4294967296 (x % y)))]) := .tup' (.cons (.il' (encU_nn _)) (.cons (.il' (encU_nn _)) .nil))
 refine acalls_go nnΓ Tryz.func90 rfl ?_
 ((conv=>whnf);repeat(refine Xg ?_;conv=>whnf))
 refine hcm.go ?_ (.cons ta (.cons tb .nil)) nn
 ((conv=>whnf);repeat(refine Xg ?_;conv=>whnf))
 refine bcs_mk (fun hb => ?_) (fun hb => ?_)
 ·have hlt : x < y := by
   have hb : cmpJ (x : Int) y < 0 := by simpa using hb
   unfold cmpJ at hb; split at hb <;> (try split at hb) <;> omega
  rw [Nat.div_eq_of_lt hlt, Nat.mod_eq_of_lt hlt, dg_zero]
  ((conv=>whnf);repeat(refine Xg ?_;conv=>whnf))
  exact fin_cv (r' := .tup [.il 1 (encU []), .il 1 (encU (dg 4294967296 x))]) (.tup' (.cons (.nil 1) (.cons (.same _ ta) .nil))) ⟨rfl, rfl, rfl⟩
 ·have hge : y ≤ x := by
   have hb : ¬ cmpJ (x : Int) y < 0 := by simpa using hb
   unfold cmpJ at hb; split at hb <;> (try split at hb) <;> omega
  have hlen := dg_len_mono hB hge
  clear hb hcm
  ((conv=>whnf);repeat(refine Xg ?_;conv=>whnf))
  rw [encU_length]
  refine bcs_mk (fun hb => ?_) (fun hb => ?_)
  ·have hb1 : (dg 4294967296 y).length = 1 := by simp at hb; omega
   have hyB : y < 4294967296 := by
    have := dg_lt_pow (n := y) hB
    rw [hb1] at this
    simpa using this
   have hdw := wDivWord x y hx hy0 hyB
   have g : (encU (dg 4294967296 y))[0]? = some (.int .u32 (y : Int)) := by rw [dg_one hy0 hyB]; rfl
   have hlp : (pre0 (dg 4294967296 (x / y)) (dg 4294967296 x).length).length ≤ 4294967296 := by
    have := dgl_div hB x y
    rw [pre0_length this]; omega
   have tq : ∀ l, NN (.il 1 (encU l)) := fun l => .il' (encU_nn l)
   ((conv=>whnf);repeat(refine Xg ?_;conv=>whnf))
   refine opt_mk g ?_
   ((conv=>whnf);repeat(refine Xg ?_;conv=>whnf))
   refine hdw.go ?_ (.cons ta (.cons nn .nil)) (.tup' (.cons (tq _) (.cons nn .nil)))
   ((conv=>whnf);repeat(refine Xg ?_;conv=>whnf))
   refine (wTrim _ hlp).go ?_ (.cons (tq _) .nil) (tq _)
   rw [trimZ_pre0]
   ((conv=>whnf);repeat(refine Xg ?_;conv=>whnf))
   have hr : x % y < 4294967296 := Nat.lt_trans (Nat.mod_lt _ hy0) hyB
   have hz : trimZ [x % y] = dg 4294967296 (x % y) := by
    rw [trimZ_dg hB [x % y] (fun d hd => by rw [List.mem_singleton.1 hd]; exact hr)]
    simp [vl]
   refine ACalls.pre nnΓ [] (mem' := []) rfl trivial (.cons (.fz' (id := 0) (ys := encU [x % y]) rfl rfl (by simp) (by simp [encU]) (encU_nn _)) .nil) ?_
   refine (wTrim [x % y] (by simp)).go ?_ (.cons (tq _) .nil) (tq _)
   rw [hz]
   ((conv=>whnf);repeat(refine Xg ?_;conv=>whnf))
   exact fin_pure tr ⟨rfl, rfl, rfl⟩
  ·have hb2 : 2 ≤ (dg 4294967296 y).length := by
    have : 0 < (dg 4294967296 y).length := by
     have := dg_len_zero (B := 4294967296) (n := y) hB
     rw [decide_eq_decide] at this
     exact this.2 hy0
    simp at hb; omega
   obtain ⟨n, u, s, hn, hu, s1, v1, v2, hVl, hlz⟩ := div_prep y hy0 hb2
   have hw : IntKind.i64.wrap (((encU (dg 4294967296 y)).length : Int) - 1) = ((n + 1 : Nat) : Int) := by rw [encU_length, hn, wrap64 ⟨by omega, by omega⟩]; omega
   have gu := getU hu
   have hsx := wShifted x s s1 hx
   have hsy := wShifted y s s1 hy
   rw [hn] at hsy
   obtain ⟨lx, hlx⟩ : ∃ lx, lx = (dg 4294967296 x).length := ⟨_, rfl⟩
   rw [← hlx] at hsx
   obtain ⟨Nl, hNl⟩ : ∃ Nl, Nl = pre0 (dg 4294967296 (x * 2 ^ s)) (lx + 1) := ⟨_, rfl⟩
   rw [← hNl] at hsx
   obtain ⟨Dl, hDl⟩ : ∃ Dl, Dl = pre0 (dg 4294967296 (y * 2 ^ s)) (n + 2 + 1) := ⟨_, rfl⟩
   rw [← hDl] at hsy
   have ebl := encU_length (dg 4294967296 y)
   rw [hn] at ebl
   generalize hbE : encU (dg 4294967296 y) = bE at *
   generalize haE : encU (dg 4294967296 x) = aE at *
   ((conv=>whnf);repeat(refine Xg ?_;conv=>whnf))
   rw [hw]
   ((conv=>whnf);repeat(refine Xg ?_;conv=>whnf))
   refine opt_mk gu ?_
   ((conv=>whnf);repeat(refine Xg ?_;conv=>whnf))
   refine hlz.go ?_ (.cons nn .nil) nn
   ((conv=>whnf);repeat(refine Xg ?_;conv=>whnf))
   refine ACalls.useN nnΓ [] hsx rfl (.same (.cons ta (.cons nn .nil))) trivial rfl ?_
   rintro r' m' n' ⟨rfl, rfl, rfl⟩
   refine ⟨[(0, 13)], .sl 13 0 (lx + 1), [(13, .row 110 1 (encU Nl))], 14, .sl 0 13 0 _ rfl, ⟨⟨0, _, rfl, rfl, .same (encU_nn _)⟩, trivial⟩, rfl, ?_⟩
   ((conv=>whnf);repeat(refine Xg ?_;conv=>whnf))
   refine ACalls.useN nnΓ [] hsy rfl (.same (.cons tb (.cons nn .nil))) trivial rfl ?_
   rintro r' m' n' ⟨rfl, rfl, rfl⟩
   refine ⟨[(0, 14)], .sl 14 0 (n + 2 + 1), [(14, .row 110 1 (encU Dl))], 15, .sl 0 14 0 _ rfl, ⟨⟨0, _, rfl, rfl, .same (encU_nn _)⟩, trivial⟩, rfl, ?_⟩
   have hV := vl_dg hB (y * 2 ^ s)
   have hVd := dg_lt hB (y * 2 ^ s)
   have hDe : Dl = dg 4294967296 (y * 2 ^ s) ++ [0] := by rw [hDl]; unfold pre0; rw [hVl, show n + 2 + 1 - (n + 2) = 1 by omega]; rfl
   have hNle : (dg 4294967296 (x * 2 ^ s)).length ≤ lx + 1 := by
    refine dg_len_le hB ?_
    have h1 := dg_lt_pow (n := x) hB
    have h2 : 2 ^ s < 4294967296 := by rw [show 4294967296 = 2 ^ 32 by decide]; exact Nat.pow_lt_pow_right (by decide) s1
    rw [← hlx] at h1
    rw [Nat.pow_succ]
    exact Nat.mul_lt_mul'' h1 h2
   have hNv : vl 4294967296 Nl = x * 2 ^ s := by rw [hNl, vl_pre0, vl_dg hB]
   have hNd : ∀ d ∈ Nl, d < 4294967296 := fun d hd => by
    rw [hNl] at hd
    rcases List.mem_append.1 hd with h | h
    ·exact dg_lt hB _ d h
    ·rw [List.eq_of_mem_replicate h]; decide
   have hNlen : Nl.length = lx + 1 := by rw [hNl]; exact pre0_length hNle
   clear hNl hDl
   obtain ⟨dl, hdl⟩ : ∃ dl, dl = dg 4294967296 (y * 2 ^ s) := ⟨_, rfl⟩
   rw [← hdl] at hV hVd hDe hVl
   obtain ⟨lead, hld⟩ : ∃ d, dl[n + 1]? = some d := ⟨_, List.getElem?_eq_getElem (by omega)⟩
   obtain ⟨next, hnx⟩ : ∃ d, dl[n]? = some d := ⟨_, List.getElem?_eq_getElem (by omega)⟩
   have gd1 : (encU Dl)[0 + ((n + 1 : Nat) : Int).toNat]? = some (.int .u32 (lead : Int)) := getU0 (by rw [hDe, List.getElem?_append_left (by omega)]; exact hld)
   have gd2 : (encU Dl)[0 + ((n : Nat) : Int).toNat]? = some (.int .u32 (next : Int)) := getU0 (by rw [hDe, List.getElem?_append_left (by omega)]; exact hnx)
   ((conv=>whnf);repeat(refine Xg ?_;conv=>whnf))
   rw [ebl]
   have hsl : (Nat.ble 0 ((n + 2 : Nat) : Int).toNat && (Nat.ble ((n + 2 : Nat) : Int).toNat (n + 2 + 1) && Nat.ble (n + 2 + 1) (n + 2 + 1))) = true := by
    rw [Int.toNat_natCast, Nat.ble_eq_true_of_le (Nat.zero_le _), Nat.ble_eq_true_of_le (by omega), Nat.ble_eq_true_of_le (Nat.le_refl _)]; rfl
   have ez : ((n + 2 : Nat) : Int).toNat - 0 = n + 2 := by rw [Int.toNat_natCast]; omega
   have ew1 : IntKind.i64.wrap (((n + 2 : Nat) : Int) - 1) = ((n + 1 : Nat) : Int) := by rw [wrap64 ⟨by omega, by omega⟩]; omega
   have ew2 : IntKind.i64.wrap (((n + 2 : Nat) : Int) - 2) = ((n : Nat) : Int) := by rw [wrap64 ⟨by omega, by omega⟩]; omega
   have bb1 := blt_i (i := n + 1) (n := n + 2) (by omega)
   have bb2 := blt_i (i := n) (n := n + 2) (by omega)
   have hle2 : n + 2 ≤ lx := by omega
   obtain ⟨qn, hqn⟩ : ∃ qn, lx + 1 = (n + 2) + qn := ⟨lx + 1 - (n + 2), by omega⟩
   have ew3 : IntKind.i64.wrap (((lx + 1 : Nat) : Int) - ((n + 2 : Nat) : Int)) = (qn : Int) := by rw [wrap64 ⟨by omega, by omega⟩]; omega
   repeat ((first | refine ⟨rfl, ?_⟩ | refine grd_mk hsl ?_ | rw [ez]); ((conv=>whnf);repeat(refine Xg ?_;conv=>whnf)))
   repeat ((first | rw [ew1] | rw [ew2] | refine grd_mk bb1 ?_ | refine grd_mk bb2 ?_ | refine opt_mk gd1 ?_ | refine opt_mk gd2 ?_ | refine ⟨rfl, ?_⟩); ((conv=>whnf);repeat(refine Xg ?_;conv=>whnf)))
   rw [ew3]
   refine grd_mk (mk_ok rfl rfl rfl (by omega) rfl) ?_
   ((conv=>whnf);repeat(refine Xg ?_;conv=>whnf))
   have ew4 : IntKind.i64.wrap ((qn : Int) - 1) = (qn : Int) - 1 := wrap64 ⟨by omega, by omega⟩
   repeat ((first | rw [ew3] | rw [ew4] | refine ⟨rfl, ?_⟩); ((conv=>whnf);repeat(refine Xg ?_;conv=>whnf)))
   obtain ⟨V, hVe⟩ : ∃ V, V = y * 2 ^ s := ⟨_, rfl⟩
   obtain ⟨X, hXe⟩ : ∃ X, X = x * 2 ^ s := ⟨_, rfl⟩
   rw [← hVe] at hV v1 v2 hdl
   rw [← hXe] at hNv
   have hfin := fun Q R => div_scaled (x := x) (y := y) (p := 2 ^ s) (Nat.pow_pos (by decide)) Q R
   rw [← hVe, ← hXe] at hfin
   have hX0 : X < V * 4294967296 ^ qn := by
    have h1 := dg_lt_pow (n := x) hB
    rw [← hlx] at h1
    have h2 : 2 ^ s ≤ 2147483648 := by rw [show 2147483648 = 2 ^ 31 by decide]; exact Nat.pow_le_pow_right (by decide) (by omega)
    have h3 : X < 4294967296 ^ lx * 2147483648 := by rw [hXe]; exact Nat.lt_of_lt_of_le (Nat.mul_lt_mul_of_pos_right h1 (Nat.pow_pos (by decide))) (Nat.mul_le_mul_left _ h2)
    have h4 : 2147483648 * 4294967296 ^ (n + 1) * 4294967296 ^ qn ≤ V * 4294967296 ^ qn := Nat.mul_le_mul_right _ v1
    rw [Nat.mul_assoc, ← Nat.pow_add, show n + 1 + qn = lx by omega, Nat.mul_comm] at h4
    exact Nat.lt_of_lt_of_le h3 h4
   have hldB : lead < 4294967296 := hVd _ (List.mem_of_getElem? hld)
   have hnxB : next < 4294967296 := hVd _ (List.mem_of_getElem? hnx)
   have hdd := hVd
   obtain ⟨w1, w2⟩ := vl_top2 hB hVl hdd hnx hld
   rw [hV] at w1 w2
   have hhalf := lead_half v1 w2 hnxB
   have hV0 : 0 < V := by rw [hVe]; exact Nat.mul_pos hy0 (Nat.pow_pos (by decide))
   have hVlen : (dg 4294967296 V).length ≤ n + 2 := by rw [← hdl, hVl]; omega
   have hDe' := hDe
   clear hVd hDe hu gu hlz hsx hsy v1 hw hlen hge
   refine ALoop.at nnΓ (fun p : Nat × List Nat × List Nat => DvI qn lx V X p.1 p.2.1 p.2.2)
    (fun p => ⟨[(8, .int .i64 s), (9, .ptr 0 0 0), (11, .ptr 1 0 0), (12, .int .u64 lead), (13, .int .u64 next), (14, .ptr 3 0 0), (15, .fn (.func 111) [] [.ptr 0 0 0, .ptr 1 0 0, .ptr 2 0 0, .ptr 3 0 0]), (16, .int .i64 ((p.1 : Int) - 1))], stM (n + 2) (lx + 1) qn dl p.2.1 (top0 p.1 p.2.2), 6, 153⟩)
    (fun p => p.1) (qn, Nl, []) [(9, 0), (15, 1), (10, 2), (31, 3), (13, 4), (30, 5)] ⟨by simp, hNlen, hNd, by simp, by simp, by simp only [vl]; rw [hNv]; omega, by simp only; rw [hNv]; exact hX0⟩
    (conv_mk _ rfl ⟨⟨9, _, rfl, rfl, slj_cv rfl rfl⟩, ⟨15, _, rfl, rfl, .same (nn1 _ _)⟩, ⟨10, _, rfl, rfl, .cons (.one rfl rfl (.fz' (id := 14) rfl rfl (by rw [encU_length, hDe', List.length_append, hVl]; simp) (by rw [hDe', Nat.zero_add, List.drop_zero, encU_app, List.take_append_of_le_length (by rw [encU_length, hVl]; omega), List.take_of_length_le (by rw [encU_length, hVl]; omega)]) (encU_nn _))) .nil⟩, ⟨31, _, rfl, rfl, slj_cv rfl (Int.toNat_natCast _)⟩, ⟨13, _, rfl, rfl, .same (encU_nn _)⟩, ⟨30, _, rfl, rfl, .eq (encU_nn _) (by rw [Int.toNat_natCast]; simp [top0, encU_zeros])⟩, trivial⟩
     ⟨⟨_, rfl, .same _ nn⟩, ⟨_, rfl, .ptr 9 0 0 0 rfl⟩, ⟨_, rfl, .ptr 15 1 0 0 rfl⟩, ⟨_, rfl, .int (w64n (by omega))⟩, ⟨_, rfl, .int (w64n (by omega))⟩, ⟨_, rfl, .ptr 31 3 0 0 rfl⟩, ⟨_, rfl, (.fn _ _ _ _ _ rfl rfl (by simp) (CvL.cons (.ptr 9 0 0 0 rfl) (.cons (.ptr 15 1 0 0 rfl) (.cons (.ptr 10 2 0 0 rfl) (.cons (.ptr 31 3 0 0 rfl) .nil)))).2)⟩, ⟨_, rfl, .int rfl⟩, trivial⟩) ?_
   rintro ⟨m, N, R⟩ ⟨k1, k2, k3, k4, k5, k6, k7⟩
   simp only at k1 k2 k3 k4 k5 k6 k7 ⊢
   ((conv=>whnf);repeat(refine Xg ?_;conv=>whnf))
   refine bcs_mk (fun hb => ?_) (fun hb => ?_)
   ·have hm1 : 0 < m := by simp at hb; omega
    obtain ⟨j, rfl⟩ : ∃ j, m = j + 1 := ⟨m - 1, by omega⟩
    rw [show (((j + 1 : Nat) : Int) - 1) = (j : Int) by omega]
    obtain ⟨sv1, sv2, sv3⟩ := seg_vl hB k3 (by omega) v2 k7
    obtain ⟨u2, hu2⟩ : ∃ d, N[j + (n + 2)]? = some d := ⟨_, List.getElem?_eq_getElem (by omega)⟩
    obtain ⟨u1, hu1⟩ : ∃ d, N[j + (n + 1)]? = some d := ⟨_, List.getElem?_eq_getElem (by omega)⟩
    obtain ⟨u0, hu0⟩ : ∃ d, N[j + n]? = some d := ⟨_, List.getElem?_eq_getElem (by omega)⟩
    have hu2B := k3 _ (List.mem_of_getElem? hu2)
    have hu1B := k3 _ (List.mem_of_getElem? hu1)
    have hu0B := k3 _ (List.mem_of_getElem? hu0)
    have hsl3 : ((N.drop j).take (n + 3)).length = n + 3 := by rw [List.length_take, List.length_drop]; omega
    obtain ⟨q1, q2⟩ := vl_top3 hB hsl3 (fun d hd => k3 d (List.mem_of_mem_drop (List.mem_of_mem_take hd))) (seg_put hu0 (by omega)) (seg_put hu1 (by omega)) (seg_put hu2 (by omega))
    obtain ⟨U, hU⟩ : ∃ U, U = vl 4294967296 ((N.drop j).take (n + 3)) := ⟨_, rfl⟩
    rw [← hU] at sv1 sv3 q1 q2
    have hest : Est 4294967296 (4294967296 ^ n) U V ((u2 * 4294967296 + u1) * 4294967296 + u0) (lead * 4294967296 + next) (u2 * 4294967296 + u1) lead next u0 :=
     ⟨hB, Nat.pow_pos (by decide), q1, q2, w1, w2, rfl, rfl, hu0B, hnxB, hldB, hhalf, sv3⟩
    have hst := fun (q : Nat) (hq : q < 4294967296) (up : U < (q + 1) * V) (hqv : q * V ≤ U + V) =>
     wSettle N (top0 (j + 1) R) dl j (n + 2) q V U (lx + 1) qn hVlen hVl hdd hV k3 k2 (by omega) (by omega) (by simp [top0]; omega) (by omega) hq hU up hqv
    rw [top0_set] at hst
    have hnext := kn_next (B := 4294967296) hB (S := pre0 (dg 4294967296 (U % V)) (n + 3)) (j := j) (n := n) (V := V) (U := U) k3 (by omega)
     (pre0_length (Nat.le_trans (dg_len_mono hB (Nat.le_of_lt (Nat.mod_lt U hV0))) (by omega))) (by rw [vl_pre0, vl_dg hB]) hV0 sv1 sv2 k6
    have hqB : U / V < 4294967296 := quot_lt sv3
    have hei := est_init hest
    have htop := est_top hest
    have hnew : DvI qn lx V X j (seg3 N (pre0 (dg 4294967296 (U % V)) (n + 2 + 1)) j) (U / V :: R) := by
     have hpl : (pre0 (dg 4294967296 (U % V)) (n + 2 + 1)).length = n + 3 := pre0_length (Nat.le_trans (dg_len_mono hB (Nat.le_of_lt (Nat.mod_lt U hV0))) (by omega))
     refine ⟨by omega, by rw [seg3_len (by rw [hpl, k2]; omega)]; exact k2, seg3_all k3 (fun z hz => ?_), by simp only [List.length_cons]; omega, fun z hz => ?_, ?_, ?_⟩
     ·rcases List.mem_append.1 hz with h | h
      ·exact dg_lt hB _ z h
      ·rw [List.eq_of_mem_replicate h]; decide
     ·rcases List.mem_cons.1 hz with rfl | hz
      ·exact hqB
      ·exact k5 z hz
     ·exact hnext.1
     ·exact hnext.2
    clear hnext k6 k7 sv1 sv2 sv3 q1 q2 w1 w2 v2 hX0 hfin hNv hU hV hNd hNlen hdd hVlen k5 hqB
    have x1 : IntKind.i64.wrap ((j : Int) + ((n + 2 : Nat) : Int)) = ((j + (n + 2) : Nat) : Int) := by rw [wrap64 ⟨by omega, by omega⟩]; omega
    have x2 : IntKind.i64.wrap (((j + (n + 2) : Nat) : Int) - 1) = ((j + (n + 1) : Nat) : Int) := by rw [wrap64 ⟨by omega, by omega⟩]; omega
    have x3 : IntKind.i64.wrap (((j + (n + 2) : Nat) : Int) - 2) = ((j + n : Nat) : Int) := by rw [wrap64 ⟨by omega, by omega⟩]; omega
    have b2 := blt_i (i := j + (n + 2)) (n := lx + 1) (by omega)
    have b1 := blt_i (i := j + (n + 1)) (n := lx + 1) (by omega)
    have b0 := blt_i (i := j + n) (n := lx + 1) (by omega)
    have g2 := getU0 hu2
    have g1 := getU0 hu1
    have g0 := getU0 hu0
    have y1 : IntKind.u64.wrap (u1 : Int) = (u1 : Int) := w64n (by omega)
    have y2 : IntKind.u64.wrap (u2 : Int) = (u2 : Int) := w64n (by omega)
    have y0 : IntKind.u64.wrap (u0 : Int) = (u0 : Int) := w64n (by omega)
    have y3 : bits BinOp.or IntKind.u64 (IntKind.u64.wrap ((u2 : Int) * 2 ^ min (Int.toNat 32) IntKind.u64.bits)) (u1 : Int) = ((u2 * 4294967296 + u1 : Nat) : Int) := join64 hu2B hu1B
    obtain ⟨tp, htp⟩ : ∃ tp, tp = u2 * 4294967296 + u1 := ⟨_, rfl⟩
    rw [← htp] at y3 hest hei htop
    have hld0 : (!decide ((lead : Int) = 0)) = true := by simp; omega
    have htpB : tp < 18446744073709551616 := by omega
    have y4 : IntKind.u64.wrap ((tp : Int).tdiv (lead : Int)) = ((tp / lead : Nat) : Int) := by rw [tdiv_nat]; exact w64n (Nat.lt_of_le_of_lt (Nat.div_le_self _ _) htpB)
    have y5 : IntKind.u64.wrap ((tp : Int).tmod (lead : Int)) = ((tp % lead : Nat) : Int) := by rw [tmod_nat]; exact w64n (Nat.lt_of_le_of_lt (Nat.mod_le _ _) htpB)
    ((conv=>whnf);repeat(refine Xg ?_;conv=>whnf))
    repeat ((first | rw [x1] | rw [x2] | refine grd_mk b2 ?_ | refine opt_mk g2 ?_ | refine grd_mk b1 ?_ | refine opt_mk g1 ?_ | refine ⟨rfl, ?_⟩); ((conv=>whnf);repeat(refine Xg ?_;conv=>whnf)))
    rw [y2, y1, y3]
    repeat ((first | refine grd_mk hld0 ?_ | rw [y4] | rw [y5] | refine ⟨rfl, ?_⟩); ((conv=>whnf);repeat(refine Xg ?_;conv=>whnf)))
    have y6 : (tp : Int).tmod (lead : Int) = ((tp % lead : Nat) : Int) := tmod_nat tp lead
    generalize tp / lead = d0 at *
    generalize tp % lead = r0 at *
    refine ALoop.at nnΓ (fun p : Nat × Nat => EstI 4294967296 U V tp lead p.1 p.2)
     (fun p => ⟨[(8, .int .i64 s), (9, .ptr 0 0 0), (11, .ptr 1 0 0), (12, .int .u64 lead), (13, .int .u64 next), (14, .ptr 3 0 0), (15, .fn (.func 111) [] [.ptr 0 0 0, .ptr 1 0 0, .ptr 2 0 0, .ptr 3 0 0]), (16, .int .i64 j), (18, .int .u64 (p.1 : Int)), (19, .int .u64 (p.2 : Int))], stM (n + 2) (lx + 1) qn dl N (top0 (j + 1) R), 6, 153⟩)
     (fun p => p.1) (d0, r0) [(0, 0), (1, 1), (2, 2), (3, 3), (4, 4), (5, 5)] hei
     (conv_mk _ rfl ⟨⟨0, _, rfl, rfl, slj_cv rfl rfl⟩, ⟨1, _, rfl, rfl, .same (nn1 _ _)⟩, ⟨2, _, rfl, rfl, ild_cv⟩, ⟨3, _, rfl, rfl, slj_cv rfl rfl⟩, ⟨4, _, rfl, rfl, .same (encU_nn _)⟩, ⟨5, _, rfl, rfl, .same (encU_nn _)⟩, trivial⟩
      ⟨⟨_, rfl, .same _ nn⟩, ⟨_, rfl, .ptr 0 0 0 0 rfl⟩, ⟨_, rfl, .ptr 1 1 0 0 rfl⟩, ⟨_, rfl, .same _ nn⟩, ⟨_, rfl, .same _ nn⟩, ⟨_, rfl, .ptr 3 3 0 0 rfl⟩, ⟨_, rfl, (.fn _ _ _ _ _ rfl rfl (by simp) (CvL.cons (.ptr 0 0 0 0 rfl) (.cons (.ptr 1 1 0 0 rfl) (.cons (.ptr 2 2 0 0 rfl) (.cons (.ptr 3 3 0 0 rfl) .nil)))).2)⟩, ⟨_, rfl, .same _ nn⟩, ⟨_, rfl, .same _ nn⟩, ⟨_, rfl, .int y6⟩, trivial⟩) ?_
    rintro ⟨d, r⟩ hI
    simp only at hI ⊢
    have hs1 : ((d : Int).fdiv (2 ^ min (Int.toNat 32) IntKind.u64.bits)) = ((d / 4294967296 : Nat) : Int) := shr32
    ((conv=>whnf);repeat(refine Xg ?_;conv=>whnf))
    rw [hs1]
    by_cases hdB : d < 4294967296
    ·rw [Nat.div_eq_of_lt hdB]
     have m1 : d * next ≤ 4294967295 * 4294967295 := Nat.mul_le_mul (by omega) (by omega)
     have z5 : IntKind.u64.wrap ((d : Int) * (next : Int)) = ((d * next : Nat) : Int) := by rw [← Int.natCast_mul]; exact w64n (by omega)
     have z6 : bits BinOp.or IntKind.u64 (IntKind.u64.wrap ((r : Int) * 2 ^ min (Int.toNat 32) IntKind.u64.bits)) (u0 : Int) = ((r * 4294967296 + u0 : Nat) : Int) := join64 hI.rB hu0B
     have g0' := g0
     have y0' := y0
     generalize hrZ : (r : Int) = rZ at z6 ⊢
     generalize hnZ : (next : Int) = nZ at z5 ⊢
     generalize huZ : (u0 : Int) = uZ at z6 y0' g0' ⊢
     generalize hdZ : (d : Int) = dZ at z5 ⊢
     ((conv => whnf); repeat ((first | refine AOps.go ?_ | refine AWp.go ?_); conv => whnf))
     rw [x1]
     ((conv => whnf); repeat ((first | refine AOps.go ?_ | refine AWp.go ?_); conv => whnf))
     rw [x3]
     ((conv => whnf); repeat ((first | refine AOps.go ?_ | refine AWp.go ?_); conv => whnf))
     refine grd_mk b0 ?_
     ((conv => whnf); repeat ((first | refine AOps.go ?_ | refine AWp.go ?_); conv => whnf))
     refine opt_mk g0' ?_
     ((conv => whnf); repeat ((first | refine AOps.go ?_ | refine AWp.go ?_); conv => whnf))
     refine opt_mk g0' ?_
     conv => whnf
     (first | refine AOps.go ?_ | refine AWp.go ?_)
     conv => whnf
     (first | refine AOps.go ?_ | refine AWp.go ?_)
     conv => whnf
     (first | refine AOps.go ?_ | refine AWp.go ?_)
     conv => whnf
     (first | refine AOps.go ?_ | refine AWp.go ?_)
     conv => whnf
     (first | refine AOps.go ?_ | refine AWp.go ?_)
     conv => whnf
     rw [y0', z5]
     generalize IntKind.u64.wrap (rZ * 2 ^ min (Int.toNat 32) IntKind.u64.bits) = w1 at z6 ⊢
     rw [z6]
     subst hrZ hnZ huZ hdZ
     obtain ⟨E1, hE1⟩ : ∃ e, e = r * 4294967296 + u0 := ⟨_, rfl⟩
     obtain ⟨E2, hE2⟩ : ∃ e, e = d * next := ⟨_, rfl⟩
     rw [← hE1, ← hE2]
     generalize hcb : decide ((E2 : Int) > (E1 : Int)) = cb
     generalize (((0 : Nat) : Int) != 0) = b0
     ((conv=>whnf);repeat(refine Xg ?_;conv=>whnf))
     refine bcs_mk (fun hc => ?_) (fun hc => ?_)
     ·have hc : r * 4294967296 + u0 < d * next := by
       rw [hc] at hcb
       have := of_decide_eq_true hcb
       rw [hE1, hE2] at this
       omega
      have dI := hI.hi
      have rI := hI.rB
      obtain ⟨dn1, dn2, dn3⟩ := est_down hest hI (.inr hc)
      have z1 : IntKind.u64.wrap ((d : Int) - 1) = ((d - 1 : Nat) : Int) := by rw [show (d : Int) - 1 = ((d - 1 : Nat) : Int) by omega]; exact w64n (by omega)
      have z2 : IntKind.u64.wrap ((r : Int) + (lead : Int)) = ((r + lead : Nat) : Int) := by rw [← Int.natCast_add]; exact w64n (by omega)
      have z3 : (((r + lead : Nat) : Int).fdiv (2 ^ min (Int.toNat 32) IntKind.u64.bits)) = (((r + lead) / 4294967296 : Nat) : Int) := shr32
      ((conv=>whnf);repeat(refine Xg ?_;conv=>whnf))
      rw [z1, z2, z3]
      refine bcs_mk (fun hc3 => ?_) (fun hc3 => ?_)
      ·have hge3 : 4294967296 ≤ r + lead := by
        rcases Nat.lt_or_ge (r + lead) 4294967296 with e | e
        ·rw [Nat.div_eq_of_lt e] at hc3; simp at hc3
        ·exact e
       obtain ⟨t1, t2⟩ := est_stop hest dn2 hge3
       ((conv=>whnf);repeat(refine Xg ?_;conv=>whnf))
       refine ACalls.useN nnΓ [(0, 0), (1, 1), (2, 2), (3, 3), (4, 4), (5, 5)] (hst (d - 1) t1 dn3 t2) rfl (.cons (.same _ nn) (.cons (.same _ nn) (.cons (.ptr 0 0 0 0 rfl) (.cons (.ptr 1 1 0 0 rfl) (.cons (.ptr 2 2 0 0 rfl) (.cons (.ptr 3 3 0 0 rfl) .nil)))))) ⟨⟨0, _, rfl, rfl, slj_cv rfl rfl⟩, ⟨1, _, rfl, rfl, .same (nn1 _ _)⟩, ⟨2, _, rfl, rfl, ild_cv⟩, ⟨3, _, rfl, rfl, slj_cv rfl rfl⟩, ⟨4, _, rfl, rfl, .same (encU_nn _)⟩, ⟨5, _, rfl, rfl, .same (encU_nn _)⟩, trivial⟩ rfl ?_
       rintro r' m' n' ⟨rfl, rfl, rfl⟩
       refine ⟨[(0, 0), (1, 1), (2, 2), (3, 3), (4, 4), (5, 5)], .tup [], stM (n + 2) (lx + 1) qn dl (seg3 N (pre0 (dg 4294967296 (U % V)) (n + 2 + 1)) j) (top0 j (U / V :: R)), 6, .same _ nn, ⟨⟨0, _, rfl, rfl, slj_cv rfl rfl⟩, ⟨1, _, rfl, rfl, .same (nn1 _ _)⟩, ⟨2, _, rfl, rfl, ild_cv⟩, ⟨3, _, rfl, rfl, slj_cv rfl rfl⟩, ⟨4, _, rfl, rfl, .same (encU_nn _)⟩, ⟨5, _, rfl, rfl, .same (encU_nn _)⟩, trivial⟩, rfl, ?_⟩
       ((conv=>whnf);repeat(refine Xg ?_;conv=>whnf))
       exact .mk (j, seg3 N (pre0 (dg 4294967296 (U % V)) (n + 2 + 1)) j, U / V :: R) [(0, 0), (1, 1), (2, 2), (3, 3), (4, 4), (5, 5)] hnew
        (conv_mk _ rfl ⟨⟨0, _, rfl, rfl, slj_cv rfl rfl⟩, ⟨1, _, rfl, rfl, .same (nn1 _ _)⟩, ⟨2, _, rfl, rfl, ild_cv⟩, ⟨3, _, rfl, rfl, slj_cv rfl rfl⟩, ⟨4, _, rfl, rfl, .same (encU_nn _)⟩, ⟨5, _, rfl, rfl, .same (encU_nn _)⟩, trivial⟩
         ⟨⟨_, rfl, .same _ nn⟩, ⟨_, rfl, .ptr 0 0 0 0 rfl⟩, ⟨_, rfl, .ptr 1 1 0 0 rfl⟩, ⟨_, rfl, .same _ nn⟩, ⟨_, rfl, .same _ nn⟩, ⟨_, rfl, .ptr 3 3 0 0 rfl⟩, ⟨_, rfl, (.fn _ _ _ _ _ rfl rfl (by simp) (CvL.cons (.ptr 0 0 0 0 rfl) (.cons (.ptr 1 1 0 0 rfl) (.cons (.ptr 2 2 0 0 rfl) (.cons (.ptr 3 3 0 0 rfl) .nil)))).2)⟩, ⟨_, rfl, .w64 rfl ⟨by simp only; omega, by simp only; omega⟩⟩, trivial⟩) (by simp only; omega)
      ·have hlt3 : r + lead < 4294967296 := by
        rcases Nat.lt_or_ge (r + lead) 4294967296 with e | e
        ·exact e
        ·exfalso
         have := Nat.div_pos e (show 0 < 4294967296 by decide)
         simp at hc3
         omega
       ((conv=>whnf);repeat(refine Xg ?_;conv=>whnf))
       exact .mk (d - 1, r + lead) [(0, 0), (1, 1), (2, 2), (3, 3), (4, 4), (5, 5)] ⟨dn2, dn3, by simp only; omega, hlt3⟩
        (conv_mk _ rfl ⟨⟨0, _, rfl, rfl, slj_cv rfl rfl⟩, ⟨1, _, rfl, rfl, .same (nn1 _ _)⟩, ⟨2, _, rfl, rfl, ild_cv⟩, ⟨3, _, rfl, rfl, slj_cv rfl rfl⟩, ⟨4, _, rfl, rfl, .same (encU_nn _)⟩, ⟨5, _, rfl, rfl, .same (encU_nn _)⟩, trivial⟩
         ⟨⟨_, rfl, .same _ nn⟩, ⟨_, rfl, .ptr 0 0 0 0 rfl⟩, ⟨_, rfl, .ptr 1 1 0 0 rfl⟩, ⟨_, rfl, .same _ nn⟩, ⟨_, rfl, .same _ nn⟩, ⟨_, rfl, .ptr 3 3 0 0 rfl⟩, ⟨_, rfl, (.fn _ _ _ _ _ rfl rfl (by simp) (CvL.cons (.ptr 0 0 0 0 rfl) (.cons (.ptr 1 1 0 0 rfl) (.cons (.ptr 2 2 0 0 rfl) (.cons (.ptr 3 3 0 0 rfl) .nil)))).2)⟩, ⟨_, rfl, .same _ nn⟩, ⟨_, rfl, .same _ nn⟩, ⟨_, rfl, .same _ nn⟩, trivial⟩) (by simp only; omega)
     ·have hc : d * next ≤ r * 4294967296 + u0 := by
       rw [hc] at hcb
       have := of_decide_eq_false hcb
       rw [hE1, hE2] at this
       omega
      have t2 := est_done hest hI hdB hc
      ((conv=>whnf);repeat(refine Xg ?_;conv=>whnf))
      refine ACalls.useN nnΓ [(0, 0), (1, 1), (2, 2), (3, 3), (4, 4), (5, 5)] (hst d hdB hI.up t2) rfl (.cons (.same _ nn) (.cons (.same _ nn) (.cons (.ptr 0 0 0 0 rfl) (.cons (.ptr 1 1 0 0 rfl) (.cons (.ptr 2 2 0 0 rfl) (.cons (.ptr 3 3 0 0 rfl) .nil)))))) ⟨⟨0, _, rfl, rfl, slj_cv rfl rfl⟩, ⟨1, _, rfl, rfl, .same (nn1 _ _)⟩, ⟨2, _, rfl, rfl, ild_cv⟩, ⟨3, _, rfl, rfl, slj_cv rfl rfl⟩, ⟨4, _, rfl, rfl, .same (encU_nn _)⟩, ⟨5, _, rfl, rfl, .same (encU_nn _)⟩, trivial⟩ rfl ?_
      rintro r' m' n' ⟨rfl, rfl, rfl⟩
      refine ⟨[(0, 0), (1, 1), (2, 2), (3, 3), (4, 4), (5, 5)], .tup [], stM (n + 2) (lx + 1) qn dl (seg3 N (pre0 (dg 4294967296 (U % V)) (n + 2 + 1)) j) (top0 j (U / V :: R)), 6, .same _ nn, ⟨⟨0, _, rfl, rfl, slj_cv rfl rfl⟩, ⟨1, _, rfl, rfl, .same (nn1 _ _)⟩, ⟨2, _, rfl, rfl, ild_cv⟩, ⟨3, _, rfl, rfl, slj_cv rfl rfl⟩, ⟨4, _, rfl, rfl, .same (encU_nn _)⟩, ⟨5, _, rfl, rfl, .same (encU_nn _)⟩, trivial⟩, rfl, ?_⟩
      ((conv=>whnf);repeat(refine Xg ?_;conv=>whnf))
      exact .mk (j, seg3 N (pre0 (dg 4294967296 (U % V)) (n + 2 + 1)) j, U / V :: R) [(0, 0), (1, 1), (2, 2), (3, 3), (4, 4), (5, 5)] hnew
       (conv_mk _ rfl ⟨⟨0, _, rfl, rfl, slj_cv rfl rfl⟩, ⟨1, _, rfl, rfl, .same (nn1 _ _)⟩, ⟨2, _, rfl, rfl, ild_cv⟩, ⟨3, _, rfl, rfl, slj_cv rfl rfl⟩, ⟨4, _, rfl, rfl, .same (encU_nn _)⟩, ⟨5, _, rfl, rfl, .same (encU_nn _)⟩, trivial⟩
        ⟨⟨_, rfl, .same _ nn⟩, ⟨_, rfl, .ptr 0 0 0 0 rfl⟩, ⟨_, rfl, .ptr 1 1 0 0 rfl⟩, ⟨_, rfl, .same _ nn⟩, ⟨_, rfl, .same _ nn⟩, ⟨_, rfl, .ptr 3 3 0 0 rfl⟩, ⟨_, rfl, (.fn _ _ _ _ _ rfl rfl (by simp) (CvL.cons (.ptr 0 0 0 0 rfl) (.cons (.ptr 1 1 0 0 rfl) (.cons (.ptr 2 2 0 0 rfl) (.cons (.ptr 3 3 0 0 rfl) .nil)))).2)⟩, ⟨_, rfl, .w64 rfl ⟨by simp only; omega, by simp only; omega⟩⟩, trivial⟩) (by simp only; omega)
    ·rw [show (((d / 4294967296 : Nat) : Int) != 0) = true by have := Nat.div_pos (Nat.le_of_not_lt hdB) (show 0 < 4294967296 by decide); simp; omega]
     ((conv=>whnf);repeat(refine Xg ?_;conv=>whnf))
     have dI := hI.hi
     have rI := hI.rB
     obtain ⟨dn1, dn2, dn3⟩ := est_down hest hI (.inl (Nat.le_of_not_lt hdB))
     have z1 : IntKind.u64.wrap ((d : Int) - 1) = ((d - 1 : Nat) : Int) := by rw [show (d : Int) - 1 = ((d - 1 : Nat) : Int) by omega]; exact w64n (by omega)
     have z2 : IntKind.u64.wrap ((r : Int) + (lead : Int)) = ((r + lead : Nat) : Int) := by rw [← Int.natCast_add]; exact w64n (by omega)
     have z3 : (((r + lead : Nat) : Int).fdiv (2 ^ min (Int.toNat 32) IntKind.u64.bits)) = (((r + lead) / 4294967296 : Nat) : Int) := shr32
     ((conv=>whnf);repeat(refine Xg ?_;conv=>whnf))
     rw [z1, z2, z3]
     refine bcs_mk (fun hc3 => ?_) (fun hc3 => ?_)
     ·have hge3 : 4294967296 ≤ r + lead := by
       rcases Nat.lt_or_ge (r + lead) 4294967296 with e | e
       ·rw [Nat.div_eq_of_lt e] at hc3; simp at hc3
       ·exact e
      obtain ⟨t1, t2⟩ := est_stop hest dn2 hge3
      ((conv=>whnf);repeat(refine Xg ?_;conv=>whnf))
      refine ACalls.useN nnΓ [(0, 0), (1, 1), (2, 2), (3, 3), (4, 4), (5, 5)] (hst (d - 1) t1 dn3 t2) rfl (.cons (.same _ nn) (.cons (.same _ nn) (.cons (.ptr 0 0 0 0 rfl) (.cons (.ptr 1 1 0 0 rfl) (.cons (.ptr 2 2 0 0 rfl) (.cons (.ptr 3 3 0 0 rfl) .nil)))))) ⟨⟨0, _, rfl, rfl, slj_cv rfl rfl⟩, ⟨1, _, rfl, rfl, .same (nn1 _ _)⟩, ⟨2, _, rfl, rfl, ild_cv⟩, ⟨3, _, rfl, rfl, slj_cv rfl rfl⟩, ⟨4, _, rfl, rfl, .same (encU_nn _)⟩, ⟨5, _, rfl, rfl, .same (encU_nn _)⟩, trivial⟩ rfl ?_
      rintro r' m' n' ⟨rfl, rfl, rfl⟩
      refine ⟨[(0, 0), (1, 1), (2, 2), (3, 3), (4, 4), (5, 5)], .tup [], stM (n + 2) (lx + 1) qn dl (seg3 N (pre0 (dg 4294967296 (U % V)) (n + 2 + 1)) j) (top0 j (U / V :: R)), 6, .same _ nn, ⟨⟨0, _, rfl, rfl, slj_cv rfl rfl⟩, ⟨1, _, rfl, rfl, .same (nn1 _ _)⟩, ⟨2, _, rfl, rfl, ild_cv⟩, ⟨3, _, rfl, rfl, slj_cv rfl rfl⟩, ⟨4, _, rfl, rfl, .same (encU_nn _)⟩, ⟨5, _, rfl, rfl, .same (encU_nn _)⟩, trivial⟩, rfl, ?_⟩
      ((conv=>whnf);repeat(refine Xg ?_;conv=>whnf))
      exact .mk (j, seg3 N (pre0 (dg 4294967296 (U % V)) (n + 2 + 1)) j, U / V :: R) [(0, 0), (1, 1), (2, 2), (3, 3), (4, 4), (5, 5)] hnew
       (conv_mk _ rfl ⟨⟨0, _, rfl, rfl, slj_cv rfl rfl⟩, ⟨1, _, rfl, rfl, .same (nn1 _ _)⟩, ⟨2, _, rfl, rfl, ild_cv⟩, ⟨3, _, rfl, rfl, slj_cv rfl rfl⟩, ⟨4, _, rfl, rfl, .same (encU_nn _)⟩, ⟨5, _, rfl, rfl, .same (encU_nn _)⟩, trivial⟩
        ⟨⟨_, rfl, .same _ nn⟩, ⟨_, rfl, .ptr 0 0 0 0 rfl⟩, ⟨_, rfl, .ptr 1 1 0 0 rfl⟩, ⟨_, rfl, .same _ nn⟩, ⟨_, rfl, .same _ nn⟩, ⟨_, rfl, .ptr 3 3 0 0 rfl⟩, ⟨_, rfl, (.fn _ _ _ _ _ rfl rfl (by simp) (CvL.cons (.ptr 0 0 0 0 rfl) (.cons (.ptr 1 1 0 0 rfl) (.cons (.ptr 2 2 0 0 rfl) (.cons (.ptr 3 3 0 0 rfl) .nil)))).2)⟩, ⟨_, rfl, .w64 rfl ⟨by simp only; omega, by simp only; omega⟩⟩, trivial⟩) (by simp only; omega)
     ·have hlt3 : r + lead < 4294967296 := by
       rcases Nat.lt_or_ge (r + lead) 4294967296 with e | e
       ·exact e
       ·exfalso
        have := Nat.div_pos e (show 0 < 4294967296 by decide)
        simp at hc3
        omega
      ((conv=>whnf);repeat(refine Xg ?_;conv=>whnf))
      exact .mk (d - 1, r + lead) [(0, 0), (1, 1), (2, 2), (3, 3), (4, 4), (5, 5)] ⟨dn2, dn3, by simp only; omega, hlt3⟩
       (conv_mk _ rfl ⟨⟨0, _, rfl, rfl, slj_cv rfl rfl⟩, ⟨1, _, rfl, rfl, .same (nn1 _ _)⟩, ⟨2, _, rfl, rfl, ild_cv⟩, ⟨3, _, rfl, rfl, slj_cv rfl rfl⟩, ⟨4, _, rfl, rfl, .same (encU_nn _)⟩, ⟨5, _, rfl, rfl, .same (encU_nn _)⟩, trivial⟩
        ⟨⟨_, rfl, .same _ nn⟩, ⟨_, rfl, .ptr 0 0 0 0 rfl⟩, ⟨_, rfl, .ptr 1 1 0 0 rfl⟩, ⟨_, rfl, .same _ nn⟩, ⟨_, rfl, .same _ nn⟩, ⟨_, rfl, .ptr 3 3 0 0 rfl⟩, ⟨_, rfl, (.fn _ _ _ _ _ rfl rfl (by simp) (CvL.cons (.ptr 0 0 0 0 rfl) (.cons (.ptr 1 1 0 0 rfl) (.cons (.ptr 2 2 0 0 rfl) (.cons (.ptr 3 3 0 0 rfl) .nil)))).2)⟩, ⟨_, rfl, .same _ nn⟩, ⟨_, rfl, .same _ nn⟩, ⟨_, rfl, .same _ nn⟩, trivial⟩) (by simp only; omega)
   ·have hm0 : m = 0 := by simp at hb; omega
    subst hm0
    rw [Nat.pow_zero, Nat.mul_one] at k6 k7
    obtain ⟨z1, z2⟩ := hfin (vl 4294967296 R) (vl 4294967296 N) k6 k7
    have hvN : vl 4294967296 (N.take (n + 2)) = vl 4294967296 N := by
     have e1 := vl_drop 4294967296 N (n + 2) (by omega)
     have hz : vl 4294967296 (N.drop (n + 2)) = 0 := by
      rcases Nat.eq_zero_or_pos (vl 4294967296 (N.drop (n + 2))) with e | e
      ·exact e
      ·exfalso
       have h1 : 4294967296 ^ (n + 2) * 1 ≤ 4294967296 ^ (n + 2) * vl 4294967296 (N.drop (n + 2)) := Nat.mul_le_mul_left _ e
       generalize 4294967296 ^ (n + 2) * vl 4294967296 (N.drop (n + 2)) = P at *
       have h2 : V < 4294967296 ^ (n + 2) := v2
       generalize 4294967296 ^ (n + 2) = W at *
       clear w1 w2 hX0
       omega
     rw [hz, Nat.mul_zero, Nat.add_zero] at e1
     exact e1.symm
    have hlow := wLowered N (n + 2) s s1 (by omega) (by omega) k3
    rw [hvN, z2] at hlow
    have hz1 : trimZ R = dg 4294967296 (x / y) := by rw [trimZ_dg hB R k5, z1]
    have hsl2 : (Nat.ble 0 ((n + 2 : Nat) : Int).toNat && (Nat.ble ((n + 2 : Nat) : Int).toNat (lx + 1) && Nat.ble (lx + 1) (lx + 1))) = true := by
     rw [Int.toNat_natCast, Nat.ble_eq_true_of_le (Nat.zero_le _), Nat.ble_eq_true_of_le (by omega), Nat.ble_eq_true_of_le (Nat.le_refl _)]; rfl
    clear w1 w2 hX0 k6 k7 v2 hfin
    ((conv=>whnf);repeat(refine Xg ?_;conv=>whnf))
    refine grd_mk hsl2 ?_
    ((conv=>whnf);repeat(refine Xg ?_;conv=>whnf))
    repeat ((first | refine ⟨rfl, ?_⟩ | refine grd_mk hsl2 ?_ | rw [ez]); ((conv=>whnf);repeat(refine Xg ?_;conv=>whnf)))
    have hR0 : top0 0 R = R := by simp [top0]
    rw [hR0]
    refine ACalls.pre nnΓ [(0, 0), (1, 1), (2, 2), (3, 3), (4, 4)] (mem' := [(0, .row 35 1 [.sl 4 0 (lx + 1)]), (1, .row 3 1 [.int .i64 ((n + 2 : Nat) : Int)]), (2, .row 35 1 [.il 1 (encU dl)]), (3, .row 35 1 [.il 1 (encU R)]), (4, .row 110 1 (encU N))]) rfl
     ⟨⟨0, _, rfl, rfl, slj_cv rfl rfl⟩, ⟨1, _, rfl, rfl, .same (nn1 _ _)⟩, ⟨2, _, rfl, rfl, ild_cv⟩, ⟨3, _, rfl, rfl, .cons (.one rfl rfl (.fz' (id := 5) rfl rfl (by rw [encU_length, k4]; omega) (by rw [List.drop_zero, List.take_of_length_le (by rw [encU_length, k4]; omega)]) (encU_nn _))) .nil⟩, ⟨4, _, rfl, rfl, .same (encU_nn _)⟩, trivial⟩
     (.cons (.fz' (id := 5) (ys := encU R) rfl rfl (by rw [encU_length, k4]; omega) (by rw [List.drop_zero, List.take_of_length_le (by rw [encU_length, k4]; omega)]) (encU_nn _)) .nil) ?_
    refine (wTrim R (by omega)).go ?_ (.cons (.il' (encU_nn _)) .nil) (.il' (encU_nn _))
    rw [hz1]
    ((conv=>whnf);repeat(refine Xg ?_;conv=>whnf))
    repeat ((first | refine ⟨rfl, ?_⟩ | refine grd_mk hsl2 ?_ | rw [ez]); ((conv=>whnf);repeat(refine Xg ?_;conv=>whnf)))
    obtain ⟨Rr, hRr⟩ : ∃ Rr, Rr = pre0 (dg 4294967296 (x % y)) (n + 2) ++ N.drop (n + 2) := ⟨_, rfl⟩
    rw [← hRr] at hlow
    refine ACalls.useN nnΓ [(4, 0)] hlow rfl (.cons (.sl 4 0 0 _ rfl) (.cons (.same _ nn) .nil)) ⟨⟨4, _, rfl, rfl, .same (encU_nn _)⟩, trivial⟩ rfl ?_
    rintro r' m' n' ⟨rfl, rfl, rfl⟩
    refine ⟨[(0, 4)], .sl 4 0 (n + 2), [(4, .row 110 1 (encU Rr))], 16, .sl 0 4 0 _ rfl, ⟨⟨0, _, rfl, rfl, .same (encU_nn _)⟩, trivial⟩, rfl, ?_⟩
    ((conv=>whnf);repeat(refine Xg ?_;conv=>whnf))
    repeat ((first | refine ⟨rfl, ?_⟩ | refine grd_mk hsl2 ?_ | rw [ez]); ((conv=>whnf);repeat(refine Xg ?_;conv=>whnf)))
    have hpl : (pre0 (dg 4294967296 (x % y)) (n + 2)).length = n + 2 := pre0_length (Nat.le_trans (dg_len_mono hB (Nat.le_of_lt (Nat.mod_lt x hy0))) (by omega))
    have hRl : Rr.length = lx + 1 := by rw [hRr, List.length_append, hpl, List.length_drop, k2]; omega
    have hRt : Rr.take (n + 2) = pre0 (dg 4294967296 (x % y)) (n + 2) := by rw [hRr, List.take_append_of_le_length (by omega), List.take_of_length_le (by omega)]
    have hto := wTrimO Rr (n + 2) (by omega) (by omega)
    have hpx := trimZ_prefix (Rr.take (n + 2))
    rw [hRt, trimZ_pre0] at hto hpx
    have hln : (dg 4294967296 (x % y)).length ≤ n + 2 := Nat.le_trans (dg_len_mono hB (Nat.le_of_lt (Nat.mod_lt x hy0))) (by omega)
    rw [← hRt, List.take_take, Nat.min_eq_left hln] at hpx
    generalize dg 4294967296 (x % y) = rl at *
    refine ACalls.useN nnΓ [(4, 0)] hto rfl (.cons (.sl 4 0 0 _ rfl) .nil) ⟨⟨4, _, rfl, rfl, .same (encU_nn _)⟩, trivial⟩ rfl ?_
    rintro r' m' n' ⟨rfl, rfl, rfl⟩
    refine ⟨[(0, 4)], .sl 4 0 rl.length, [(4, .row 110 1 (encU Rr))], 17, .sl 0 4 0 _ rfl, ⟨⟨0, _, rfl, rfl, .same (encU_nn _)⟩, trivial⟩, rfl, ?_⟩
    ((conv=>whnf);repeat(refine Xg ?_;conv=>whnf))
    repeat ((first | refine ⟨rfl, ?_⟩ | refine grd_mk hsl2 ?_ | rw [ez]); ((conv=>whnf);repeat(refine Xg ?_;conv=>whnf)))
    exact fin_cv (r' := .tup [.il 1 (encU (dg 4294967296 (x / y))), .il 1 (encU rl)]) (.tup' (.cons (.same _ (.il' (encU_nn _))) (.cons (.fz' (id := 4) rfl rfl (by rw [encU_length]; omega) (by rw [List.drop_zero, encU_take, ← hpx]) (encU_nn _)) .nil))) ⟨rfl, rfl, rfl⟩
set_option maxHeartbeats 16000000
set_option linter.unusedSimpArgs false
theorem tB (b : Bool) : NN (.bool b) := .bool b
theorem tU (l : List Nat) : NN (.il 1 (encU l)) := .il' (encU_nn l)
theorem trimZ_self (n : Nat) : trimZ (dg 4294967296 n) = dg 4294967296 n := by
 have hB : (2 : Nat) ≤ 4294967296 := by decide
 rw [trimZ_dg hB _ (dg_lt hB n), vl_dg hB]
theorem encW_sg (neg : Bool) (n : Nat) : encW (sg neg n) = .agg [.bool (neg && decide (0 < n)), .il 1 (encU (dg 4294967296 n))] := by
 unfold encW; rw [sg_abs, sg_neg]
theorem wMade (neg : Bool) (n : Nat) (hn : (dg 4294967296 n).length ≤ 4294967296) : PureC Tryz.prog [] 67 [.bool neg, .il 1 (encU (dg 4294967296 n))] (encW (sg neg n)) := by
 have ht := wTrim (dg 4294967296 n) hn
 rw [trimZ_self] at ht
 have hw := encW_nn (sg neg n)
 have hz := dg_len_zero (B := 4294967296) (n := n) (by decide)
 rw [encW_sg] at hw ⊢
 generalize dg 4294967296 n = l at *
 refine acalls_go nnΓ Tryz.func67 rfl ?_
 ((conv=>whnf);repeat(refine Xg ?_;conv=>whnf))
 refine ht.go ?_ (.cons (tU _) .nil) (tU _)
 have hlz : decide (((encU l).length : Int) > 0) = decide (0 < n) := by
  rw [encU_length, ← hz, decide_eq_decide]; omega
 cases neg with
 | false =>
  ((conv=>whnf);repeat(refine Xg ?_;conv=>whnf))
  repeat ((first | refine setK_iff.2 ?_ | refine ⟨rfl, ?_⟩); ((conv=>whnf);repeat(refine Xg ?_;conv=>whnf)))
  exact fin_pure hw ⟨rfl, rfl, rfl⟩
 | true =>
  ((conv=>whnf);repeat(refine Xg ?_;conv=>whnf))
  rw [hlz]
  repeat ((first | refine setK_iff.2 ?_ | refine ⟨rfl, ?_⟩); ((conv=>whnf);repeat(refine Xg ?_;conv=>whnf)))
  exact fin_pure hw ⟨rfl, rfl, rfl⟩
theorem encW0 : encW 0 = .agg [.bool false, .il 1 []] := by simp [encW, dg_zero, encU]
def rngW (z : Int) : AV := if fits z = true then .tup [encW z, .int .i64 0] else .tup [encW 0, .int .i64 4]
theorem rngW_nn (z : Int) : NN (rngW z) := by
 unfold rngW
 split
 ·exact .tup' (.cons (encW_nn _) (.cons nn .nil))
 ·exact .tup' (.cons (encW_nn _) (.cons nn .nil))
theorem wRanged (neg : Bool) (n : Nat) (hn : (dg 4294967296 n).length ≤ 4294967296) : PureC Tryz.prog [] 87 [.bool neg, .il 1 (encU (dg 4294967296 n))] (rngW (sg neg n)) := by
 have hm := wMade neg n hn
 have hw := encW_nn (sg neg n)
 have hr := rngW_nn (sg neg n)
 have hf : fits (sg neg n) = decide ((dg 4294967296 n).length ≤ 512) := by have := @fits_words (sg neg n); rw [sg_abs] at this; exact this
 rw [encW_sg] at hm hw
 have hR : rngW (sg neg n) = if fits (sg neg n) = true then .tup [.agg [.bool (neg && decide (0 < n)), .il 1 (encU (dg 4294967296 n))], .int .i64 0] else .tup [.agg [.bool false, .il 1 []], .int .i64 4] := by rw [← encW_sg, ← encW0]; rfl
 rw [hR] at hr ⊢
 refine acalls_go nnΓ Tryz.func87 rfl ?_
 ((conv=>whnf);repeat(refine Xg ?_;conv=>whnf))
 refine hm.go ?_ (.cons (tB _) (.cons (tU _) .nil)) hw
 ((conv=>whnf);repeat(refine Xg ?_;conv=>whnf))
 rw [encU_length]
 refine bcs_mk (fun hb => ?_) (fun hb => ?_)
 ·have hb : ¬ fits (sg neg n) = true := by
   rw [hf]; simp at hb; simp; omega
  rw [if_neg hb] at hr ⊢
  ((conv=>whnf);repeat(refine Xg ?_;conv=>whnf))
  exact fin_cv (r' := .tup [.agg [.bool false, .il 1 []], .int .i64 4]) (.tup' (.cons (.agg' (.cons (.same _ (tB _)) (.cons (.nil 1) .nil))) (.cons (.same _ nn) .nil))) ⟨rfl, rfl, rfl⟩
 ·have hb : fits (sg neg n) = true := by
   rw [hf]; simp at hb; simp; omega
  rw [if_pos hb] at hr ⊢
  ((conv=>whnf);repeat(refine Xg ?_;conv=>whnf))
  repeat ((first | refine setK_iff.2 ?_ | refine ⟨rfl, ?_⟩); ((conv=>whnf);repeat(refine Xg ?_;conv=>whnf)))
  exact fin_pure hr ⟨rfl, rfl, rfl⟩
set_option maxHeartbeats 16000000
set_option linter.unusedSimpArgs false
theorem encW_eq (x : Int) : encW x = .agg [.bool (decide (x < 0)), .il 1 (encU (dg 4294967296 x.natAbs))] := rfl
theorem sg_not (x : Int) : sg (!decide (x < 0)) x.natAbs = -x := by
 unfold sg
 by_cases h : x < 0
 ·simp [h]; omega
 ·simp [h]; omega
theorem sg_mul (x y : Int) : sg (decide (x < 0) != decide (y < 0)) (x.natAbs * y.natAbs) = x * y := by
 have ex := sg_of x
 have ey := sg_of y
 conv => rhs; rw [← ex, ← ey]
 generalize decide (x < 0) = a
 generalize decide (y < 0) = b
 cases a <;> cases b <;> simp [sg, Int.neg_mul, Int.mul_neg]
theorem agW (b : Bool) (l : List Nat) : NN (.agg [.bool b, .il 1 (encU l)]) := .agg' (.cons (tB _) (.cons (tU _) .nil))
theorem wNeg (x : Int) (hx : (dg 4294967296 x.natAbs).length ≤ 1000000) : PureC Tryz.prog [] 56 [encW x] (encW (-x)) := by
 have hm := wMade (!decide (x < 0)) x.natAbs (by omega)
 rw [sg_not, encW_eq (-x)] at hm
 rw [encW_eq x, encW_eq (-x)]
 generalize decide (-x < 0) = b2 at *
 generalize dg 4294967296 (-x).natAbs = a2 at *
 generalize dg 4294967296 x.natAbs = a at *
 generalize decide (x < 0) = b at *
 refine acalls_go nnΓ Tryz.func56 rfl ?_
 ((conv=>whnf);repeat(refine Xg ?_;conv=>whnf))
 refine hm.go ?_ (.cons (tB _) (.cons (tU _) .nil)) (agW _ _)
 ((conv=>whnf);repeat(refine Xg ?_;conv=>whnf))
 repeat ((first | refine setK_iff.2 ?_ | refine ⟨rfl, ?_⟩); ((conv=>whnf);repeat(refine Xg ?_;conv=>whnf)))
 exact fin_pure (agW _ _) ⟨rfl, rfl, rfl⟩
theorem wGcd (x y : Int) (hx : (dg 4294967296 x.natAbs).length ≤ 1000000) (hy : (dg 4294967296 y.natAbs).length ≤ 1000000) : PureC Tryz.prog [] 61 [encW x, encW y] (encW (Nat.gcd x.natAbs y.natAbs : Nat)) := by
 have hB : (2 : Nat) ≤ 4294967296 := by decide
 rw [encW_eq x, encW_eq y]
 generalize decide (x < 0) = bx
 generalize decide (y < 0) = by_
 generalize x.natAbs = a at *
 generalize y.natAbs = b at *
 obtain ⟨g, hg⟩ : ∃ g, g = Nat.gcd a b := ⟨_, rfl⟩
 rw [← hg]
 refine acalls_go nnΓ Tryz.func61 rfl ?_
 ((conv=>whnf);repeat(refine Xg ?_;conv=>whnf))
 repeat (refine ⟨rfl, ?_⟩; ((conv=>whnf);repeat(refine Xg ?_;conv=>whnf)))
 refine ALoop.at nnΓ (fun p : Nat × Nat => (dg 4294967296 p.1).length ≤ 1000000 ∧ (dg 4294967296 p.2).length ≤ 1000000 ∧ Nat.gcd p.1 p.2 = g)
  (fun p => ⟨[(4, .ptr 0 0 0), (5, .il 1 (encU (dg 4294967296 p.1))), (6, .il 1 (encU (dg 4294967296 p.2)))], [(0, .row 37 2 [.agg [.bool false, .nsl]])], 1, 26⟩)
  (fun p => p.2) (a, b) [(2, 0)] ⟨hx, hy, hg.symm⟩
  (conv_mk _ rfl ⟨⟨2, _, rfl, rfl, .same (.cons (.agg' (.cons (tB _) (.cons .nsl .nil))) .nil)⟩, trivial⟩ ⟨⟨_, rfl, .ptr 2 0 0 0 rfl⟩, ⟨_, rfl, .same _ (tU _)⟩, ⟨_, rfl, .same _ (tU _)⟩, trivial⟩) ?_
 rintro ⟨u, v⟩ ⟨h1, h2, h3⟩
 simp only at h1 h2 h3 ⊢
 have hz := dg_len_zero (B := 4294967296) (n := v) hB
 have hlz : decide (((encU (dg 4294967296 v)).length : Int) > 0) = decide (0 < v) := by
  rw [encU_length, ← hz, decide_eq_decide]; omega
 by_cases hv : 0 < v
 ·have hd := wDivMag u v hv h1 h2
  have hm := dgl_mod hB u v
  have hmlt := Nat.mod_lt u hv
  have hgs := gcd_step u v
  generalize u % v = w at *
  generalize dg 4294967296 (u / v) = qq at *
  generalize hlu : dg 4294967296 u = lu at *
  generalize hlv : dg 4294967296 v = lv at *
  generalize hlw : dg 4294967296 w = lw at *
  ((conv=>whnf);repeat(refine Xg ?_;conv=>whnf))
  rw [hlz, decide_eq_true hv]
  ((conv=>whnf);repeat(refine Xg ?_;conv=>whnf))
  refine hd.go ?_ (.cons (tU _) (.cons (tU _) .nil)) (.tup' (.cons (tU _) (.cons (tU _) .nil)))
  ((conv=>whnf);repeat(refine Xg ?_;conv=>whnf))
  exact .mk (v, w) [(0, 0)] ⟨by simp only; rw [hlv]; exact h2, by simp only; rw [hlw]; omega, by simp only; rw [hgs]; exact h3⟩
   (conv_mk _ rfl ⟨⟨0, _, rfl, rfl, .same (.cons (.agg' (.cons (tB _) (.cons .nsl .nil))) .nil)⟩, trivial⟩ ⟨⟨_, rfl, .ptr 0 0 0 0 rfl⟩, ⟨_, rfl, .eq (tU _) (by rw [hlv])⟩, ⟨_, rfl, .eq (tU _) (by rw [hlw])⟩, trivial⟩) (by simp only; omega)
 ·have hv0 : v = 0 := by omega
  have hm := wMade false u (by omega)
  rw [encW_sg] at hm
  rw [hv0, Nat.gcd_zero_right] at h3
  have hsg : encW ((g : Nat) : Int) = .agg [.bool (false && decide (0 < u)), .il 1 (encU (dg 4294967296 u))] := by
   rw [← h3, ← encW_sg]; rfl
  rw [hsg]
  generalize decide (0 < u) = du at *
  generalize dg 4294967296 u = lu at *
  generalize dg 4294967296 v = lv at *
  ((conv=>whnf);repeat(refine Xg ?_;conv=>whnf))
  rw [hlz, decide_eq_false hv]
  ((conv=>whnf);repeat(refine Xg ?_;conv=>whnf))
  refine hm.go ?_ (.cons (tB _) (.cons (tU _) .nil)) (agW _ _)
  ((conv=>whnf);repeat(refine Xg ?_;conv=>whnf))
  repeat ((first | refine setK_iff.2 ?_ | refine ⟨rfl, ?_⟩); ((conv=>whnf);repeat(refine Xg ?_;conv=>whnf)))
  exact fin_pure (agW _ _) ⟨rfl, rfl, rfl⟩
set_option maxHeartbeats 16000000
set_option linter.unusedSimpArgs false
theorem rngW_agg (z : Int) : ∃ (b : Bool) (l : List Nat) (e : Int), rngW z = .tup [.agg [.bool b, .il 1 (encU l)], .int .i64 e] := by
 unfold rngW
 split
 ·exact ⟨_, _, _, rfl⟩
 ·exact ⟨_, _, _, rfl⟩
theorem wMulI (x y : Int) (hx : (dg 4294967296 x.natAbs).length ≤ 1000000) (hy : (dg 4294967296 y.natAbs).length ≤ 1000000) : PureC Tryz.prog [] 92 [encW x, encW y] (rngW (x * y)) := by
 have hm := wMul x.natAbs y.natAbs hx hy
 have hr := wRanged (decide (x < 0) != decide (y < 0)) (x.natAbs * y.natAbs) (by have := dgl_mul (B := 4294967296) (by decide) x.natAbs y.natAbs; omega)
 rw [sg_mul] at hr
 obtain ⟨b, l, e, he⟩ := rngW_agg (x * y)
 rw [he] at hr ⊢
 rw [encW_eq x, encW_eq y]
 generalize dg 4294967296 (x.natAbs * y.natAbs) = ab at *
 generalize dg 4294967296 x.natAbs = a1 at *
 generalize dg 4294967296 y.natAbs = a2 at *
 generalize decide (x < 0) = b1 at *
 generalize decide (y < 0) = b2 at *
 refine acalls_go nnΓ Tryz.func92 rfl ?_
 ((conv=>whnf);repeat(refine Xg ?_;conv=>whnf))
 repeat (refine ⟨rfl, ?_⟩; ((conv=>whnf);repeat(refine Xg ?_;conv=>whnf)))
 refine hm.go ?_ (.cons (tU _) (.cons (tU _) .nil)) (tU _)
 ((conv=>whnf);repeat(refine Xg ?_;conv=>whnf))
 repeat (refine ⟨rfl, ?_⟩; ((conv=>whnf);repeat(refine Xg ?_;conv=>whnf)))
 refine hr.go ?_ (.cons (tB _) (.cons (tU _) .nil)) (.tup' (.cons (agW _ _) (.cons nn .nil)))
 ((conv=>whnf);repeat(refine Xg ?_;conv=>whnf))
 repeat ((first | refine setK_iff.2 ?_ | refine ⟨rfl, ?_⟩); ((conv=>whnf);repeat(refine Xg ?_;conv=>whnf)))
 exact fin_pure (.tup' (.cons (agW _ _) (.cons nn .nil))) ⟨rfl, rfl, rfl⟩
theorem sg_same {x y : Int} (h : decide (x < 0) = decide (y < 0)) : sg (decide (x < 0)) (x.natAbs + y.natAbs) = x + y := by
 unfold sg
 by_cases h1 : x < 0
 ·have h2 : y < 0 := by rw [decide_eq_true h1] at h; exact of_decide_eq_true h.symm
  simp [h1]; omega
 ·have h2 : ¬ y < 0 := by rw [decide_eq_false h1] at h; exact of_decide_eq_false h.symm
  simp [h1]; omega
theorem sg_diff {x y : Int} (h : decide (x < 0) ≠ decide (y < 0)) (hge : y.natAbs ≤ x.natAbs) : sg (decide (x < 0)) (x.natAbs - y.natAbs) = x + y := by
 unfold sg
 by_cases h1 : x < 0
 ·have h2 : ¬ y < 0 := fun h2 => h (by rw [decide_eq_true h1, decide_eq_true h2])
  simp [h1]; omega
 ·have h2 : y < 0 := by
   rcases Int.lt_or_le y 0 with h2 | h2
   ·exact h2
   ·exact absurd (by rw [decide_eq_false h1, decide_eq_false (by omega)]) h
  simp [h1]; omega
theorem wTotal (x y : Int) (hx : (dg 4294967296 x.natAbs).length ≤ 1000000) (hy : (dg 4294967296 y.natAbs).length ≤ 1000000) : PureC Tryz.prog [] 103 [encW x, encW y] (encW (x + y)) := by
 have hB : (2 : Nat) ≤ 4294967296 := by decide
 have hc := wCmp x.natAbs y.natAbs (by omega)
 have ha := wAdd x.natAbs y.natAbs hx hy
 have hma := wMade (decide (x < 0)) (x.natAbs + y.natAbs) (by have := dgl_add hB x.natAbs y.natAbs; omega)
 have hS1 := fun h => wSub x.natAbs y.natAbs h hx
 have hS2 := fun h => wSub y.natAbs x.natAbs h hy
 have hm1 := wMade (decide (x < 0)) (x.natAbs - y.natAbs) (by have := dgl_sub hB x.natAbs y.natAbs; omega)
 have hm2 := wMade (decide (y < 0)) (y.natAbs - x.natAbs) (by have := dgl_sub hB y.natAbs x.natAbs; omega)
 have q1 := fun h => sg_same (x := x) (y := y) h
 have q2 := fun h h2 => sg_diff (x := x) (y := y) h h2
 have q3 := fun h h2 => sg_diff (x := y) (y := x) h h2
 rw [Int.add_comm y x] at q3
 have hcc : cmpJ (x.natAbs : Int) (y.natAbs : Int) ≥ 0 ↔ y.natAbs ≤ x.natAbs := by unfold cmpJ; split <;> (try split) <;> omega
 generalize cmpJ (x.natAbs : Int) (y.natAbs : Int) = cj at *
 rw [encW_eq (x + y)]
 generalize hz1 : decide (x + y < 0) = rb at *
 generalize hz2 : dg 4294967296 (x + y).natAbs = rl at *
 have hE : ∀ z, z = x + y → encW z = .agg [.bool rb, .il 1 (encU rl)] := fun z hz => by rw [hz, encW_eq, hz1, hz2]
 rw [encW_eq x, encW_eq y]
 generalize dg 4294967296 (x.natAbs + y.natAbs) = as_ at *
 generalize dg 4294967296 (x.natAbs - y.natAbs) = ad1 at *
 generalize dg 4294967296 (y.natAbs - x.natAbs) = ad2 at *
 generalize dg 4294967296 x.natAbs = a1 at *
 generalize dg 4294967296 y.natAbs = a2 at *
 generalize decide (x < 0) = b1 at *
 generalize decide (y < 0) = b2 at *
 refine acalls_go nnΓ Tryz.func103 rfl ?_
 ((conv=>whnf);repeat(refine Xg ?_;conv=>whnf))
 by_cases hb : b1 = b2
 ·rw [hE _ (q1 hb)] at hma
  rw [show (b1 == b2) = true by rw [hb]; simp]
  ((conv=>whnf);repeat(refine Xg ?_;conv=>whnf))
  repeat (refine ⟨rfl, ?_⟩; ((conv=>whnf);repeat(refine Xg ?_;conv=>whnf)))
  refine ha.go ?_ (.cons (tU _) (.cons (tU _) .nil)) (tU _)
  ((conv=>whnf);repeat(refine Xg ?_;conv=>whnf))
  repeat (refine ⟨rfl, ?_⟩; ((conv=>whnf);repeat(refine Xg ?_;conv=>whnf)))
  refine hma.go ?_ (.cons (tB _) (.cons (tU _) .nil)) (agW _ _)
  ((conv=>whnf);repeat(refine Xg ?_;conv=>whnf))
  repeat ((first | refine setK_iff.2 ?_ | refine ⟨rfl, ?_⟩); ((conv=>whnf);repeat(refine Xg ?_;conv=>whnf)))
  exact fin_pure (agW _ _) ⟨rfl, rfl, rfl⟩
 ·rw [show (b1 == b2) = false by simpa using hb]
  ((conv=>whnf);repeat(refine Xg ?_;conv=>whnf))
  refine hc.go ?_ (.cons (tU _) (.cons (tU _) .nil)) nn
  ((conv=>whnf);repeat(refine Xg ?_;conv=>whnf))
  refine bcs_mk (fun hcb => ?_) (fun hcb => ?_)
  ·have hge := hcc.1 (by simpa using hcb)
   have hs := hS1 hge
   rw [hE _ (q2 hb hge)] at hm1
   ((conv=>whnf);repeat(refine Xg ?_;conv=>whnf))
   repeat (refine ⟨rfl, ?_⟩; ((conv=>whnf);repeat(refine Xg ?_;conv=>whnf)))
   refine hs.go ?_ (.cons (tU _) (.cons (tU _) .nil)) (tU _)
   ((conv=>whnf);repeat(refine Xg ?_;conv=>whnf))
   repeat (refine ⟨rfl, ?_⟩; ((conv=>whnf);repeat(refine Xg ?_;conv=>whnf)))
   refine hm1.go ?_ (.cons (tB _) (.cons (tU _) .nil)) (agW _ _)
   ((conv=>whnf);repeat(refine Xg ?_;conv=>whnf))
   repeat ((first | refine setK_iff.2 ?_ | refine ⟨rfl, ?_⟩); ((conv=>whnf);repeat(refine Xg ?_;conv=>whnf)))
   exact fin_pure (agW _ _) ⟨rfl, rfl, rfl⟩
  ·have hlt : x.natAbs ≤ y.natAbs := by
    have : ¬ cj ≥ 0 := by simpa using hcb
    have := fun h => this (hcc.2 h)
    omega
   have hs := hS2 hlt
   rw [hE _ (q3 (fun h => hb h.symm) hlt)] at hm2
   ((conv=>whnf);repeat(refine Xg ?_;conv=>whnf))
   repeat (refine ⟨rfl, ?_⟩; ((conv=>whnf);repeat(refine Xg ?_;conv=>whnf)))
   refine hs.go ?_ (.cons (tU _) (.cons (tU _) .nil)) (tU _)
   ((conv=>whnf);repeat(refine Xg ?_;conv=>whnf))
   repeat (refine ⟨rfl, ?_⟩; ((conv=>whnf);repeat(refine Xg ?_;conv=>whnf)))
   refine hm2.go ?_ (.cons (tB _) (.cons (tU _) .nil)) (agW _ _)
   ((conv=>whnf);repeat(refine Xg ?_;conv=>whnf))
   repeat ((first | refine setK_iff.2 ?_ | refine ⟨rfl, ?_⟩); ((conv=>whnf);repeat(refine Xg ?_;conv=>whnf)))
   exact fin_pure (agW _ _) ⟨rfl, rfl, rfl⟩
end Go.Proofs.YtbannipihdlofaaGreatDoor
