/- For every input (of two slices of ints), refuterlaw25.ClaimsNew returns true, and its arguments read behind the call as they read before (the card ClaimsNewCardSaid, the full form). Conditions: the package-level variables that the row lists hold, when the call begins, what the program's text lays (the card ties them to it); no bound on sizes. -/
import Derived.Test.YtbannipihdlofaaGreatDoorAx15
import Derived.Test.YtbannipihdlofaaGreatDoorCards
import Derived.Test.YtbannipihdlofaaGreatDoorTie
import Derived.Lib.LaidIn
set_option linter.unusedVariables false
namespace Go.Proofs.YtbannipihdlofaaGreatDoor
open Go Go.Ax Go.Proofs
set_option maxRecDepth 100000
set_option maxHeartbeats 16000000
set_option linter.unusedSimpArgs false
theorem fPick (l : List Int) (i : Nat) (hi : i ≤ 1000) : PureC Tryz.prog [] 41 [.il 1 (encI l), .int .i64 i] (.int .i64 (pickAt l i)) := by
 have d0 : decide ((i : Int) < 0) = false := decide_eq_false (by omega)
 have d1 : decide ((i : Int) ≥ ((encI l).length : Int)) = decide (l.length ≤ i) := by rw [encI_length]; exact decide_eq_decide.2 (by omega)
 unfold pickAt
 by_cases h : l.length ≤ i
 ·rw [List.getD_eq_getElem?_getD, List.getElem?_eq_none h]
  refine acalls_go nnΓ Tryz.func41 rfl ?_
  ((conv=>whnf);repeat(refine Xg ?_;conv=>whnf))
  rw [d0]
  ((conv=>whnf);repeat(refine Xg ?_;conv=>whnf))
  rw [d1, decide_eq_true h]
  ((conv=>whnf);repeat(refine Xg ?_;conv=>whnf))
  repeat ((first | refine setK_iff.2 ?_ | refine ⟨rfl, ?_⟩); ((conv=>whnf);repeat(refine Xg ?_;conv=>whnf)))
  exact fin_pure nn ⟨rfl, rfl, rfl⟩
 ·have hg : (encI l)[((i : Nat) : Int).toNat]? = some (.int .i64 (l.getD i 0)) := by rw [Int.toNat_natCast, encI_get, List.getD_eq_getElem?_getD, List.getElem?_eq_getElem (by omega)]; rfl
  generalize l.getD i 0 = x at *
  refine acalls_go nnΓ Tryz.func41 rfl ?_
  ((conv=>whnf);repeat(refine Xg ?_;conv=>whnf))
  rw [d0]
  ((conv=>whnf);repeat(refine Xg ?_;conv=>whnf))
  rw [d1, decide_eq_false h]
  ((conv=>whnf);repeat(refine Xg ?_;conv=>whnf))
  repeat ((first | refine opt_mk hg ?_ | refine setK_iff.2 ?_ | refine ⟨rfl, ?_⟩); ((conv=>whnf);repeat(refine Xg ?_;conv=>whnf)))
  exact fin_pure nn ⟨rfl, rfl, rfl⟩
theorem pow_len {z n m : Nat} (h : z ≤ 2 ^ n) (hn : n ≤ m) (hm : 0 < m) : (dg 10000 z).length ≤ m := dg_pow_len (Nat.le_trans h (Nat.pow_le_pow_right (by omega) hn)) hm
theorem fNumber (a b : Int) (ha : i64 a) (hb : i64 b) : PureC Tryz.prog [] 40 [.int .i64 a, .int .i64 b] (encR (numM a b)) := by
 obtain ⟨hb1, hb2⟩ := hb
 have hq7 : IntKind.i64.wrap (a.tdiv 7) = a.tdiv 7 := by
  obtain ⟨ha1, ha2⟩ := ha
  have : (a.tdiv 7).natAbs = a.natAbs / 7 := Int.natAbs_tdiv a 7
  rw [wrap64 ⟨by omega, by omega⟩]
 have k1 := Int.lt_tmod_of_pos a (show (0 : Int) < 7 by omega)
 have k2 := Int.tmod_lt_of_pos a (show (0 : Int) < 7 by omega)
 have hnn := encR_nn (numM a b)
 obtain ⟨kk, hkk⟩ : ∃ kk, kk = numK a := ⟨_, rfl⟩
 have hkd : numK a = if a.tmod 7 < 0 then a.tmod 7 + 7 else a.tmod 7 := rfl
 rw [← hkk] at hkd
 have hM : numM a b = if kk < 4 then b.tmod 60 else if kk < 6 then b else (b + 3) * 1000000007 ^ ((a.tdiv 7).tmod 40).toNat := by unfold numM; rw [hkk]
 have hr1 := Int.lt_tmod_of_pos b (show (0 : Int) < 60 by omega)
 have hr2 := Int.tmod_lt_of_pos b (show (0 : Int) < 60 by omega)
 refine acalls_go nnΓ Tryz.func40 rfl ?_
 ((conv=>whnf);repeat(refine Xg ?_;conv=>whnf))
 generalize hk0 : a.tmod 7 = k0 at *
 have hw : IntKind.i64.wrap (k0 + 7) = k0 + 7 := wrap64 ⟨by omega, by omega⟩
 have hrep := reps_bound a
 have hbd : (b + 3).natAbs ≤ 2 ^ 64 := by omega
 have hlen : ∀ i, i ≤ ((a.tdiv 7).tmod 40).toNat → (dg 10000 ((b + 3) * 1000000007 ^ i).natAbs).length ≤ 1300 := fun i hi => pow_len (pow_bound _ hbd i) (by omega) (by omega)
 have hmul : ∀ i, i < ((a.tdiv 7).tmod 40).toNat → PureC Tryz.prog [] 63 [encR ((b + 3) * 1000000007 ^ i), encR 1000000007] (encR ((b + 3) * 1000000007 ^ (i + 1))) := fun i hi => by
  have := rMul ((b + 3) * 1000000007 ^ i) 1000000007 (by have := hlen i (by omega); omega) (by have : (dg 10000 1000000007).length ≤ 3 := dg_len_le hT (by decide); exact Nat.le_trans this (by omega))
  rw [Int.mul_assoc, ← Int.pow_succ] at this
  exact this
 have hadd : PureC Tryz.prog [] 76 [encR b, encR 3] (encR (b + 3)) := rAdd b 3 (by have : (dg 10000 b.natAbs).length ≤ 64 := dg_pow_len (by omega) (by omega); omega) (by have : (dg 10000 3).length ≤ 1 := dgl_small hT (by decide); exact Nat.le_trans this (by omega))
 have ob := rOf b ⟨by omega, by omega⟩
 have o3 := rOf 3 ⟨by omega, by omega⟩
 have og := rOf 1000000007 ⟨by omega, by omega⟩
 obtain ⟨yb, yl, qy⟩ := encR_ex 3
 obtain ⟨gb, gl, qg⟩ := encR_ex 1000000007
 rw [qy] at o3 hadd
 rw [qg] at og hmul
 refine bcs_mk (fun h => ?_) (fun h => ?_)
 ·have e : IntKind.i64.wrap (k0 + 7) = kk := by rw [hw, hkd, if_pos (of_decide_eq_true h)]
  ((conv=>whnf);repeat(refine Xg ?_;conv=>whnf))
  rw [e]
  by_cases h4 : kk < 4
  ·rw [decide_eq_true h4]
   rw [if_pos h4] at hM
   have ho := rOf (b.tmod 60) ⟨by omega, by omega⟩
   rw [hM]
   obtain ⟨xb, xl, qx⟩ := encR_ex (b.tmod 60)
   rw [qx] at ho ⊢
   ((conv=>whnf);repeat(refine Xg ?_;conv=>whnf))
   repeat ((first | refine setK_iff.2 ?_ | refine ⟨rfl, ?_⟩); ((conv=>whnf);repeat(refine Xg ?_;conv=>whnf)))
   refine ho.go ?_ (.cons nn .nil) (agR _ _)
   ((conv=>whnf);repeat(refine Xg ?_;conv=>whnf))
   repeat ((first | refine setK_iff.2 ?_ | refine ⟨rfl, ?_⟩); ((conv=>whnf);repeat(refine Xg ?_;conv=>whnf)))
   exact fin_pure (agR _ _) ⟨rfl, rfl, rfl⟩
  ·rw [decide_eq_false h4]
   ((conv=>whnf);repeat(refine Xg ?_;conv=>whnf))
   rw [if_neg h4] at hM
   by_cases h6 : kk < 6
   ·rw [decide_eq_true h6]
    rw [if_pos h6] at hM
    have ho := rOf b ⟨by omega, by omega⟩
    rw [hM]
    obtain ⟨xb, xl, qx⟩ := encR_ex b
    rw [qx] at ho ⊢
    ((conv=>whnf);repeat(refine Xg ?_;conv=>whnf))
    repeat ((first | refine setK_iff.2 ?_ | refine ⟨rfl, ?_⟩); ((conv=>whnf);repeat(refine Xg ?_;conv=>whnf)))
    refine ho.go ?_ (.cons nn .nil) (agR _ _)
    ((conv=>whnf);repeat(refine Xg ?_;conv=>whnf))
    repeat ((first | refine setK_iff.2 ?_ | refine ⟨rfl, ?_⟩); ((conv=>whnf);repeat(refine Xg ?_;conv=>whnf)))
    exact fin_pure (agR _ _) ⟨rfl, rfl, rfl⟩
   ·rw [decide_eq_false h6]
    rw [if_neg h6] at hM
    rw [hM]
    obtain ⟨bb, bl, qb⟩ := encR_ex b
    rw [qb] at ob hadd
    obtain ⟨sb, sl, qs⟩ := encR_ex (b + 3)
    rw [qs] at hadd
    obtain ⟨D, hD⟩ : ∃ D, D = (a.tdiv 7).tmod 40 := ⟨_, rfl⟩
    rw [← hD] at hrep hmul hlen ⊢
    ((conv=>whnf);repeat(refine Xg ?_;conv=>whnf))
    repeat ((first | refine setK_iff.2 ?_ | refine ⟨rfl, ?_⟩); ((conv=>whnf);repeat(refine Xg ?_;conv=>whnf)))
    refine ob.go ?_ (.cons nn .nil) (agR _ _)
    ((conv=>whnf);repeat(refine Xg ?_;conv=>whnf))
    repeat ((first | refine setK_iff.2 ?_ | refine ⟨rfl, ?_⟩); ((conv=>whnf);repeat(refine Xg ?_;conv=>whnf)))
    refine o3.go ?_ (.cons nn .nil) (agR _ _)
    ((conv=>whnf);repeat(refine Xg ?_;conv=>whnf))
    repeat ((first | refine setK_iff.2 ?_ | refine ⟨rfl, ?_⟩); ((conv=>whnf);repeat(refine Xg ?_;conv=>whnf)))
    refine hadd.go ?_ (.cons (agR _ _) (.cons (agR _ _) .nil)) (agR _ _)
    ((conv=>whnf);repeat(refine Xg ?_;conv=>whnf))
    repeat ((first | refine setK_iff.2 ?_ | refine ⟨rfl, ?_⟩); ((conv=>whnf);repeat(refine Xg ?_;conv=>whnf)))
    refine ALoop.at nnΓ (fun i : Nat => i ≤ D.toNat)
     (fun i => ⟨[(0, .int .i64 a), (4, .ptr 0 0 0), (6, .ptr 1 0 0), (7, .int .i64 i)], [(0, .row 43 2 [.agg [.bool false, .nsl]]), (1, .row 43 2 [encR ((b + 3) * 1000000007 ^ i)])], 2, 38⟩)
     (fun i => D.toNat - i) 0 [(0, 0), (1, 1)] (Nat.zero_le _)
     (conv_mk _ rfl ⟨⟨0, _, rfl, rfl, .same (nN _)⟩, ⟨1, _, rfl, rfl, .eq (.cons (encR_nn _) .nil) (by rw [Int.pow_zero, Int.mul_one, qs])⟩, trivial⟩ ⟨⟨_, rfl, .same _ nn⟩, ⟨_, rfl, .ptr 0 0 0 0 rfl⟩, ⟨_, rfl, .ptr 1 1 0 0 rfl⟩, ⟨_, rfl, .same _ nn⟩, trivial⟩) ?_
    intro i hi
    by_cases hlt : (i : Int) < D
    ·have hm := hmul i (by omega)
     generalize (b + 3) * 1000000007 ^ i = X at *
     obtain ⟨xb, xl, qx⟩ := encR_ex X
     obtain ⟨zb, zl, qz⟩ := encR_ex ((b + 3) * 1000000007 ^ (i + 1))
     rw [qx, qz] at hm
     rw [qx]
     ((conv=>whnf);repeat(refine Xg ?_;conv=>whnf))
     rw [hq7, ← hD, decide_eq_true hlt]
     ((conv=>whnf);repeat(refine Xg ?_;conv=>whnf))
     repeat ((first | refine setK_iff.2 ?_ | refine ⟨rfl, ?_⟩); ((conv=>whnf);repeat(refine Xg ?_;conv=>whnf)))
     refine og.go ?_ (.cons nn .nil) (agR _ _)
     ((conv=>whnf);repeat(refine Xg ?_;conv=>whnf))
     repeat ((first | refine setK_iff.2 ?_ | refine ⟨rfl, ?_⟩); ((conv=>whnf);repeat(refine Xg ?_;conv=>whnf)))
     refine hm.go ?_ (.cons (agR _ _) (.cons (agR _ _) .nil)) (agR _ _)
     ((conv=>whnf);repeat(refine Xg ?_;conv=>whnf))
     repeat ((first | refine setK_iff.2 ?_ | refine ⟨rfl, ?_⟩); ((conv=>whnf);repeat(refine Xg ?_;conv=>whnf)))
     exact .mk (i + 1) [(0, 0), (1, 1)] (by omega)
      (conv_mk _ rfl ⟨⟨0, _, rfl, rfl, .same (nN _)⟩, ⟨1, _, rfl, rfl, .eq (.cons (encR_nn _) .nil) (by rw [qz])⟩, trivial⟩ ⟨⟨_, rfl, .same _ nn⟩, ⟨_, rfl, .ptr 0 0 0 0 rfl⟩, ⟨_, rfl, .ptr 1 1 0 0 rfl⟩, ⟨_, rfl, .w64 (by omega) ⟨by omega, by omega⟩⟩, trivial⟩) (by omega)
    ·have hiD : i = D.toNat := by omega
     subst hiD
     obtain ⟨zb, zl, qz⟩ := encR_ex ((b + 3) * 1000000007 ^ D.toNat)
     rw [qz]
     ((conv=>whnf);repeat(refine Xg ?_;conv=>whnf))
     rw [hq7, ← hD, decide_eq_false hlt]
     ((conv=>whnf);repeat(refine Xg ?_;conv=>whnf))
     repeat ((first | refine setK_iff.2 ?_ | refine ⟨rfl, ?_⟩); ((conv=>whnf);repeat(refine Xg ?_;conv=>whnf)))
     exact fin_pure (agR _ _) ⟨rfl, rfl, rfl⟩
 ·have e : k0 = kk := by rw [hkd, if_neg (of_decide_eq_false h)]
  ((conv=>whnf);repeat(refine Xg ?_;conv=>whnf))
  rw [e]
  by_cases h4 : kk < 4
  ·rw [decide_eq_true h4]
   rw [if_pos h4] at hM
   have ho := rOf (b.tmod 60) ⟨by omega, by omega⟩
   rw [hM]
   obtain ⟨xb, xl, qx⟩ := encR_ex (b.tmod 60)
   rw [qx] at ho ⊢
   ((conv=>whnf);repeat(refine Xg ?_;conv=>whnf))
   repeat ((first | refine setK_iff.2 ?_ | refine ⟨rfl, ?_⟩); ((conv=>whnf);repeat(refine Xg ?_;conv=>whnf)))
   refine ho.go ?_ (.cons nn .nil) (agR _ _)
   ((conv=>whnf);repeat(refine Xg ?_;conv=>whnf))
   repeat ((first | refine setK_iff.2 ?_ | refine ⟨rfl, ?_⟩); ((conv=>whnf);repeat(refine Xg ?_;conv=>whnf)))
   exact fin_pure (agR _ _) ⟨rfl, rfl, rfl⟩
  ·rw [decide_eq_false h4]
   ((conv=>whnf);repeat(refine Xg ?_;conv=>whnf))
   rw [if_neg h4] at hM
   by_cases h6 : kk < 6
   ·rw [decide_eq_true h6]
    rw [if_pos h6] at hM
    have ho := rOf b ⟨by omega, by omega⟩
    rw [hM]
    obtain ⟨xb, xl, qx⟩ := encR_ex b
    rw [qx] at ho ⊢
    ((conv=>whnf);repeat(refine Xg ?_;conv=>whnf))
    repeat ((first | refine setK_iff.2 ?_ | refine ⟨rfl, ?_⟩); ((conv=>whnf);repeat(refine Xg ?_;conv=>whnf)))
    refine ho.go ?_ (.cons nn .nil) (agR _ _)
    ((conv=>whnf);repeat(refine Xg ?_;conv=>whnf))
    repeat ((first | refine setK_iff.2 ?_ | refine ⟨rfl, ?_⟩); ((conv=>whnf);repeat(refine Xg ?_;conv=>whnf)))
    exact fin_pure (agR _ _) ⟨rfl, rfl, rfl⟩
   ·rw [decide_eq_false h6]
    rw [if_neg h6] at hM
    rw [hM]
    obtain ⟨bb, bl, qb⟩ := encR_ex b
    rw [qb] at ob hadd
    obtain ⟨sb, sl, qs⟩ := encR_ex (b + 3)
    rw [qs] at hadd
    obtain ⟨D, hD⟩ : ∃ D, D = (a.tdiv 7).tmod 40 := ⟨_, rfl⟩
    rw [← hD] at hrep hmul hlen ⊢
    ((conv=>whnf);repeat(refine Xg ?_;conv=>whnf))
    repeat ((first | refine setK_iff.2 ?_ | refine ⟨rfl, ?_⟩); ((conv=>whnf);repeat(refine Xg ?_;conv=>whnf)))
    refine ob.go ?_ (.cons nn .nil) (agR _ _)
    ((conv=>whnf);repeat(refine Xg ?_;conv=>whnf))
    repeat ((first | refine setK_iff.2 ?_ | refine ⟨rfl, ?_⟩); ((conv=>whnf);repeat(refine Xg ?_;conv=>whnf)))
    refine o3.go ?_ (.cons nn .nil) (agR _ _)
    ((conv=>whnf);repeat(refine Xg ?_;conv=>whnf))
    repeat ((first | refine setK_iff.2 ?_ | refine ⟨rfl, ?_⟩); ((conv=>whnf);repeat(refine Xg ?_;conv=>whnf)))
    refine hadd.go ?_ (.cons (agR _ _) (.cons (agR _ _) .nil)) (agR _ _)
    ((conv=>whnf);repeat(refine Xg ?_;conv=>whnf))
    repeat ((first | refine setK_iff.2 ?_ | refine ⟨rfl, ?_⟩); ((conv=>whnf);repeat(refine Xg ?_;conv=>whnf)))
    refine ALoop.at nnΓ (fun i : Nat => i ≤ D.toNat)
     (fun i => ⟨[(0, .int .i64 a), (4, .ptr 0 0 0), (6, .ptr 1 0 0), (7, .int .i64 i)], [(0, .row 43 2 [.agg [.bool false, .nsl]]), (1, .row 43 2 [encR ((b + 3) * 1000000007 ^ i)])], 2, 38⟩)
     (fun i => D.toNat - i) 0 [(0, 0), (1, 1)] (Nat.zero_le _)
     (conv_mk _ rfl ⟨⟨0, _, rfl, rfl, .same (nN _)⟩, ⟨1, _, rfl, rfl, .eq (.cons (encR_nn _) .nil) (by rw [Int.pow_zero, Int.mul_one, qs])⟩, trivial⟩ ⟨⟨_, rfl, .same _ nn⟩, ⟨_, rfl, .ptr 0 0 0 0 rfl⟩, ⟨_, rfl, .ptr 1 1 0 0 rfl⟩, ⟨_, rfl, .same _ nn⟩, trivial⟩) ?_
    intro i hi
    by_cases hlt : (i : Int) < D
    ·have hm := hmul i (by omega)
     generalize (b + 3) * 1000000007 ^ i = X at *
     obtain ⟨xb, xl, qx⟩ := encR_ex X
     obtain ⟨zb, zl, qz⟩ := encR_ex ((b + 3) * 1000000007 ^ (i + 1))
     rw [qx, qz] at hm
     rw [qx]
     ((conv=>whnf);repeat(refine Xg ?_;conv=>whnf))
     rw [hq7, ← hD, decide_eq_true hlt]
     ((conv=>whnf);repeat(refine Xg ?_;conv=>whnf))
     repeat ((first | refine setK_iff.2 ?_ | refine ⟨rfl, ?_⟩); ((conv=>whnf);repeat(refine Xg ?_;conv=>whnf)))
     refine og.go ?_ (.cons nn .nil) (agR _ _)
     ((conv=>whnf);repeat(refine Xg ?_;conv=>whnf))
     repeat ((first | refine setK_iff.2 ?_ | refine ⟨rfl, ?_⟩); ((conv=>whnf);repeat(refine Xg ?_;conv=>whnf)))
     refine hm.go ?_ (.cons (agR _ _) (.cons (agR _ _) .nil)) (agR _ _)
     ((conv=>whnf);repeat(refine Xg ?_;conv=>whnf))
     repeat ((first | refine setK_iff.2 ?_ | refine ⟨rfl, ?_⟩); ((conv=>whnf);repeat(refine Xg ?_;conv=>whnf)))
     exact .mk (i + 1) [(0, 0), (1, 1)] (by omega)
      (conv_mk _ rfl ⟨⟨0, _, rfl, rfl, .same (nN _)⟩, ⟨1, _, rfl, rfl, .eq (.cons (encR_nn _) .nil) (by rw [qz])⟩, trivial⟩ ⟨⟨_, rfl, .same _ nn⟩, ⟨_, rfl, .ptr 0 0 0 0 rfl⟩, ⟨_, rfl, .ptr 1 1 0 0 rfl⟩, ⟨_, rfl, .w64 (by omega) ⟨by omega, by omega⟩⟩, trivial⟩) (by omega)
    ·have hiD : i = D.toNat := by omega
     subst hiD
     obtain ⟨zb, zl, qz⟩ := encR_ex ((b + 3) * 1000000007 ^ D.toNat)
     rw [qz]
     ((conv=>whnf);repeat(refine Xg ?_;conv=>whnf))
     rw [hq7, ← hD, decide_eq_false hlt]
     ((conv=>whnf);repeat(refine Xg ?_;conv=>whnf))
     repeat ((first | refine setK_iff.2 ?_ | refine ⟨rfl, ?_⟩); ((conv=>whnf);repeat(refine Xg ?_;conv=>whnf)))
     exact fin_pure (agR _ _) ⟨rfl, rfl, rfl⟩
theorem fFracM (l : List Int) (hl : ∀ x ∈ l, i64 x) (i : Nat) (hi : i ≤ 900) : PureC Tryz.prog [] 18 [.il 1 (encI l), .int .i64 i] (encF (fracM l i)) := by
 have hp : ∀ j, i64 (pickAt l j) := fun j => by
  unfold pickAt
  rw [List.getD_eq_getElem?_getD]
  cases h : l[j]? with
  | none => exact ⟨by simp, by simp⟩
  | some x => exact hl x (List.mem_of_getElem? h)
 have hpb : ∀ j, (pickAt l j).natAbs ≤ 2 ^ 63 := fun j => by have := hp j; obtain ⟨a, b⟩ := this; omega
 have w1 : IntKind.i64.wrap ((i : Int) + 1) = ((i + 1 : Nat) : Int) := by rw [wrap64 ⟨by omega, by omega⟩]; omega
 have w2 : IntKind.i64.wrap ((i : Int) + 2) = ((i + 2 : Nat) : Int) := by rw [wrap64 ⟨by omega, by omega⟩]; omega
 have w3 : IntKind.i64.wrap ((i : Int) + 3) = ((i + 3 : Nat) : Int) := by rw [wrap64 ⟨by omega, by omega⟩]; omega
 have p0 := fPick l i (by omega)
 have p1 := fPick l (i + 1) (by omega)
 have p2 := fPick l (i + 2) (by omega)
 have p3 := fPick l (i + 3) (by omega)
 have nq := fNumber (pickAt l (i + 2)) (pickAt l (i + 3)) (hp _) (hp _)
 have np := fNumber (pickAt l i) (pickAt l (i + 1)) (hp _) (hp _)
 obtain ⟨w, hw⟩ : ∃ w : Nat, w = 1300 := ⟨_, rfl⟩
 have bq := numM_bound (a := pickAt l (i + 2)) (n := w) (by omega) (hpb (i + 3))
 have bp := numM_bound (a := pickAt l i) (n := w) (by omega) (hpb (i + 1))
 have bo := oneM_bound bq
 unfold fracM
 generalize numM (pickAt l (i + 2)) (pickAt l (i + 3)) = q at *
 generalize numM (pickAt l i) (pickAt l (i + 1)) = p at *
 generalize pickAt l i = x0 at *
 generalize pickAt l (i + 1) = x1 at *
 generalize pickAt l (i + 2) = x2 at *
 generalize pickAt l (i + 3) = x3 at *
 have hm := fMake p (oneM q) (oneM_ne q) (Nat.le_trans (dg_pow_len bp (by omega)) (by omega)) (Nat.le_trans (dg_pow_len bo (by omega)) (by omega))
 have o1 := rOf 1 ⟨by omega, by omega⟩
 have hz : ((((encD (dg 10000 q.natAbs)).length : Nat) : Int) == 0) = decide (q = 0) := by
  rw [encD_length]
  by_cases h : q = 0
  ·rw [h, decide_eq_true rfl]; simp [dg_zero]
  ·rw [decide_eq_false h, beq_eq_false_iff_ne]
   have := dg_step (m := q.natAbs) (by omega)
   rw [this]; simp; omega
 have hq := encR_eq q
 rw [hq] at nq
 generalize dg 10000 q.natAbs = ql at *
 generalize decide (q < 0) = qb at *
 obtain ⟨pb, pl, qp⟩ := encR_ex p
 obtain ⟨fb, fl, fc, fm, -, -, qf⟩ := encF_ex (mkF p (oneM q))
 rw [qp] at np hm
 rw [qf] at hm ⊢
 refine acalls_go nnΓ Tryz.func18 rfl ?_
 ((conv=>whnf);repeat(refine Xg ?_;conv=>whnf))
 repeat ((first | refine setK_iff.2 ?_ | refine ⟨rfl, ?_⟩); ((conv=>whnf);repeat(refine Xg ?_;conv=>whnf)))
 rw [w2]
 refine p2.go ?_ (.cons (.il' (encI_nn l)) (.cons nn .nil)) nn
 ((conv=>whnf);repeat(refine Xg ?_;conv=>whnf))
 repeat ((first | refine setK_iff.2 ?_ | refine ⟨rfl, ?_⟩); ((conv=>whnf);repeat(refine Xg ?_;conv=>whnf)))
 rw [w3]
 refine p3.go ?_ (.cons (.il' (encI_nn l)) (.cons nn .nil)) nn
 ((conv=>whnf);repeat(refine Xg ?_;conv=>whnf))
 repeat ((first | refine setK_iff.2 ?_ | refine ⟨rfl, ?_⟩); ((conv=>whnf);repeat(refine Xg ?_;conv=>whnf)))
 refine nq.go ?_ (.cons nn (.cons nn .nil)) (agR _ _)
 ((conv=>whnf);repeat(refine Xg ?_;conv=>whnf))
 repeat ((first | refine setK_iff.2 ?_ | refine ⟨rfl, ?_⟩); ((conv=>whnf);repeat(refine Xg ?_;conv=>whnf)))
 rw [hz]
 by_cases h : q = 0
 ·rw [decide_eq_true h]
  have hq1 : oneM q = 1 := by unfold oneM; rw [if_pos h]
  rw [hq1] at hm
  obtain ⟨ob, ol, qo⟩ := encR_ex 1
  rw [qo] at o1 hm
  ((conv=>whnf);repeat(refine Xg ?_;conv=>whnf))
  repeat ((first | refine setK_iff.2 ?_ | refine ⟨rfl, ?_⟩); ((conv=>whnf);repeat(refine Xg ?_;conv=>whnf)))
  refine o1.go ?_ (.cons nn .nil) (agR _ _)
  ((conv=>whnf);repeat(refine Xg ?_;conv=>whnf))
  repeat ((first | refine setK_iff.2 ?_ | refine ⟨rfl, ?_⟩); ((conv=>whnf);repeat(refine Xg ?_;conv=>whnf)))
  refine p0.go ?_ (.cons (.il' (encI_nn l)) (.cons nn .nil)) nn
  ((conv=>whnf);repeat(refine Xg ?_;conv=>whnf))
  repeat ((first | refine setK_iff.2 ?_ | refine ⟨rfl, ?_⟩); ((conv=>whnf);repeat(refine Xg ?_;conv=>whnf)))
  rw [w1]
  repeat ((first | refine setK_iff.2 ?_ | refine ⟨rfl, ?_⟩); ((conv=>whnf);repeat(refine Xg ?_;conv=>whnf)))
  refine p1.go ?_ (.cons (.il' (encI_nn l)) (.cons nn .nil)) nn
  ((conv=>whnf);repeat(refine Xg ?_;conv=>whnf))
  repeat ((first | refine setK_iff.2 ?_ | refine ⟨rfl, ?_⟩); ((conv=>whnf);repeat(refine Xg ?_;conv=>whnf)))
  refine np.go ?_ (.cons nn (.cons nn .nil)) (agR _ _)
  ((conv=>whnf);repeat(refine Xg ?_;conv=>whnf))
  repeat ((first | refine setK_iff.2 ?_ | refine ⟨rfl, ?_⟩); ((conv=>whnf);repeat(refine Xg ?_;conv=>whnf)))
  refine hm.go ?_ (.cons (agR _ _) (.cons (agR _ _) .nil)) (.tup' (.cons (agF _ _ _ _) (.cons nn .nil)))
  ((conv=>whnf);repeat(refine Xg ?_;conv=>whnf))
  repeat ((first | refine setK_iff.2 ?_ | refine ⟨rfl, ?_⟩); ((conv=>whnf);repeat(refine Xg ?_;conv=>whnf)))
  exact fin_pure (agF _ _ _ _) ⟨rfl, rfl, rfl⟩
 ·rw [decide_eq_false h]
  have hq1 : oneM q = q := by unfold oneM; rw [if_neg h]
  rw [hq1, hq] at hm
  ((conv=>whnf);repeat(refine Xg ?_;conv=>whnf))
  repeat ((first | refine setK_iff.2 ?_ | refine ⟨rfl, ?_⟩); ((conv=>whnf);repeat(refine Xg ?_;conv=>whnf)))
  refine p0.go ?_ (.cons (.il' (encI_nn l)) (.cons nn .nil)) nn
  ((conv=>whnf);repeat(refine Xg ?_;conv=>whnf))
  repeat ((first | refine setK_iff.2 ?_ | refine ⟨rfl, ?_⟩); ((conv=>whnf);repeat(refine Xg ?_;conv=>whnf)))
  rw [w1]
  repeat ((first | refine setK_iff.2 ?_ | refine ⟨rfl, ?_⟩); ((conv=>whnf);repeat(refine Xg ?_;conv=>whnf)))
  refine p1.go ?_ (.cons (.il' (encI_nn l)) (.cons nn .nil)) nn
  ((conv=>whnf);repeat(refine Xg ?_;conv=>whnf))
  repeat ((first | refine setK_iff.2 ?_ | refine ⟨rfl, ?_⟩); ((conv=>whnf);repeat(refine Xg ?_;conv=>whnf)))
  refine np.go ?_ (.cons nn (.cons nn .nil)) (agR _ _)
  ((conv=>whnf);repeat(refine Xg ?_;conv=>whnf))
  repeat ((first | refine setK_iff.2 ?_ | refine ⟨rfl, ?_⟩); ((conv=>whnf);repeat(refine Xg ?_;conv=>whnf)))
  refine hm.go ?_ (.cons (agR _ _) (.cons (agR _ _) .nil)) (.tup' (.cons (agF _ _ _ _) (.cons nn .nil)))
  ((conv=>whnf);repeat(refine Xg ?_;conv=>whnf))
  repeat ((first | refine setK_iff.2 ?_ | refine ⟨rfl, ?_⟩); ((conv=>whnf);repeat(refine Xg ?_;conv=>whnf)))
  exact fin_pure (agF _ _ _ _) ⟨rfl, rfl, rfl⟩
set_option maxHeartbeats 16000000
set_option linter.unusedSimpArgs false
structure OKF (a : Fr) : Prop where
 sz : Sz 1300 a
 can : Go.Ax.Can a
structure OKN (x : Fr × Fr × Fr × Fr) : Prop where
 a : OKF x.1
 b : OKF x.2.1
 c : OKF x.2.2.1
 d : OKF x.2.2.2
theorem Sm.okf {a : Fr} (h : Sm a) : OKF a := ⟨h.sz.mono (by omega), h.can⟩
theorem txt_one : txtF oneF = [49] := by
 unfold txtF
 rw [if_pos (show oneF.q = 1 from rfl), show oneF.p = ((1 : Nat) : Int) from rfl, decZ_nat, Lib.decDigits_one (by omega)]; rfl
def fr4 (m : List Int) (i : Nat) : List AV := (List.range i).map fun j => encF (fracM m (4 * j))
theorem fr4_succ (m : List Int) (i : Nat) : fr4 m (i + 1) = fr4 m i ++ [encF (fracM m (4 * i))] := by unfold fr4; rw [List.range_succ, List.map_append]; rfl
theorem fr4_len (m : List Int) (i : Nat) : (fr4 m i).length = i := by simp [fr4]
theorem fr4_nn (m : List Int) (i : Nat) : NNs (fr4 m i) := by
 unfold fr4
 generalize List.range i = L
 induction L with
 | nil => exact .nil
 | cons a L ih => exact .cons (encF_nn _) ih
theorem lawNewW (l m : List Int) (_ : ∀ x ∈ l, i64 x) (hm : ∀ x ∈ m, i64 x) : PureC Tryz.prog gz 4 [.il 1 (encI l), .il 1 (encI m)] (.bool true) := by
 obtain ⟨hS, hN⟩ := fNumbers l
 have hF := fun i (hi : i ≤ 900) => fFracM m hm i hi
 have hmb : ∀ x ∈ m, x.natAbs ≤ 2 ^ 63 := fun x hx => by have := hm x hx; obtain ⟨a, b⟩ := this; omega
 have hFo : ∀ i, OKF (fracM m i) := fun i => ⟨(fracM_sz (by omega) hmb i).1, (fracM_sz (n := 1300) (by omega) hmb i).2⟩
 refine acalls_go nngz Tryz.func4 rfl ?_
 ((conv=>whnf);repeat(refine Xg ?_;conv=>whnf))
 refine ALoop.ph 45 4 ?_
 refine ALoop.at nngz (fun i : Nat => i ≤ 4)
  (fun i => ⟨[(0, .il 1 (encI l)), (1, .il 1 (encI m)), (5, .sl 0 0 i), (6, .int .i64 i)], [(0, .row 45 4 (fr4 m i))], 1, 127⟩)
  (fun i => 4 - i) 0 [(0, 0)] (by omega)
  (conv_mk _ rfl ⟨⟨0, _, rfl, rfl, .nil⟩, trivial⟩ ⟨⟨_, rfl, .same _ (.il' (encI_nn l))⟩, ⟨_, rfl, .same _ (.il' (encI_nn m))⟩, ⟨_, rfl, .nslk 0 0 _ rfl rfl⟩, ⟨_, rfl, .same _ nn⟩, trivial⟩) ?_
 intro i hi
 have hd : decide ((i : Int) < 4) = decide (i < 4) := decide_eq_decide.2 (by omega)
 by_cases hlt : i < 4
 ·have hf := hF (4 * i) (by omega)
  have hw : IntKind.i64.wrap (4 * (i : Int)) = ((4 * i : Nat) : Int) := by rw [wrap64 ⟨by omega, by omega⟩]; omega
  have hs := fr4_succ m i
  have hlen := fr4_len m i
  generalize fracM m (4 * i) = f at *
  ((conv=>whnf);repeat(refine Xg ?_;conv=>whnf))
  rw [hd, decide_eq_true hlt]
  ((conv=>whnf);repeat(refine Xg ?_;conv=>whnf))
  rw [hw]
  repeat ((first | refine setK_iff.2 ?_ | refine ⟨rfl, ?_⟩); ((conv=>whnf);repeat(refine Xg ?_;conv=>whnf)))
  refine hf.goG ?_ (.cons (.il' (encI_nn m)) (.cons nn .nil)) (encF_nn _)
  ((conv=>whnf);repeat(refine Xg ?_;conv=>whnf))
  repeat ((first | refine setK_iff.2 ?_ | refine ⟨rfl, ?_⟩); ((conv=>whnf);repeat(refine Xg ?_;conv=>whnf)))
  refine grd_mk (app_ok rfl rfl hlen.symm (by simp; omega)) ?_
  ((conv=>whnf);repeat(refine Xg ?_;conv=>whnf))
  exact .mk (i + 1) [(2, 0)] (by omega)
   (conv_mk _ rfl ⟨⟨2, _, rfl, rfl, .eq (fr4_nn _ _) hs.symm⟩, trivial⟩ ⟨⟨_, rfl, .same _ (.il' (encI_nn l))⟩, ⟨_, rfl, .same _ (.il' (encI_nn m))⟩, ⟨_, rfl, .slE rfl (by simp [hlen])⟩, ⟨_, rfl, .w64 (by omega) ⟨by omega, by omega⟩⟩, trivial⟩) (by omega)
 ·have hi4 : i = 4 := by omega
  subst hi4
  have e4 : fr4 m 4 = [encF (fracM m 0), encF (fracM m 4), encF (fracM m 8), encF (fracM m 12)] := rfl
  have o0 := hFo 0
  have o4 := hFo 4
  have o8 := hFo 8
  have o12 := hFo 12
  rw [e4]
  clear e4 hF hFo hmb
  obtain ⟨X, hX⟩ : ∃ X : Nat → Fr × Fr × Fr × Fr, X = fun i => if i = 0 then numsT l else if i = 1 then (fracM m 0, fracM m 4, fracM m 8, fracM m 12) else (fracM m 0, (numsT l).2.1, (numsT l).2.2.1, fracM m 12) := ⟨_, rfl⟩
  have x0 : X 0 = numsT l := by rw [hX]; rfl
  have x1 : X 1 = (fracM m 0, fracM m 4, fracM m 8, fracM m 12) := by rw [hX]; rfl
  have x2 : X 2 = (fracM m 0, (numsT l).2.1, (numsT l).2.2.1, fracM m 12) := by rw [hX]; rfl
  have hXo : ∀ i, i < 3 → OKN (X i) := fun i hi => by
   rcases (show i = 0 ∨ i = 1 ∨ i = 2 by omega) with e | e | e <;> rw [e]
   ·rw [x0]; exact ⟨hS.a.okf, hS.b.okf, hS.c.okf, hS.d.okf⟩
   ·rw [x1]; exact ⟨o0, o4, o8, o12⟩
   ·rw [x2]; exact ⟨o0, hS.b.okf, hS.c.okf, o12⟩
  clear hX
  generalize fracM m 0 = f0 at *
  generalize fracM m 4 = f4 at *
  generalize fracM m 8 = f8 at *
  generalize fracM m 12 = f12 at *
  clear hS
  obtain ⟨N, hNe⟩ : ∃ N, N = numsT l := ⟨_, rfl⟩
  rw [← hNe] at hN x0 x2
  unfold encNum at hN
  have hNn : NN (.il 4 [encF N.1, encF N.2.1, encF N.2.2.1, encF N.2.2.2]) := .il' (.cons (encF_nn _) (.cons (encF_nn _) (.cons (encF_nn _) (.cons (encF_nn _) .nil))))
  ((conv=>whnf);repeat(refine Xg ?_;conv=>whnf))
  rw [hd, decide_eq_false hlt]
  ((conv=>whnf);repeat(refine Xg ?_;conv=>whnf))
  repeat ((first | refine setK_iff.2 ?_ | refine ⟨rfl, ?_⟩); ((conv=>whnf);repeat(refine Xg ?_;conv=>whnf)))
  refine hN.goG ?_ (.cons (.il' (encI_nn l)) .nil) hNn
  ((conv=>whnf);repeat(refine Xg ?_;conv=>whnf))
  repeat ((first | refine setK_iff.2 ?_ | refine ⟨rfl, ?_⟩); ((conv=>whnf);repeat(refine Xg ?_;conv=>whnf)))
  refine hN.goG ?_ (.cons (.il' (encI_nn l)) .nil) hNn
  ((conv=>whnf);repeat(refine Xg ?_;conv=>whnf))
  repeat ((first | refine setK_iff.2 ?_ | refine ⟨rfl, ?_⟩); ((conv=>whnf);repeat(refine Xg ?_;conv=>whnf)))
  refine hN.goG ?_ (.cons (.il' (encI_nn l)) .nil) hNn
  ((conv=>whnf);repeat(refine Xg ?_;conv=>whnf))
  repeat ((first | refine setK_iff.2 ?_ | refine ⟨rfl, ?_⟩); ((conv=>whnf);repeat(refine Xg ?_;conv=>whnf)))
  have hCn : NNs [.il 4 [encF N.1, encF N.2.1, encF N.2.2.1, encF N.2.2.2], .il 4 [encF f0, encF f4, encF f8, encF f12], .il 4 [encF f0, encF N.2.1, encF N.2.2.1, encF f12]] := .cons hNn (.cons (.il' (.cons (encF_nn _) (.cons (encF_nn _) (.cons (encF_nn _) (.cons (encF_nn _) .nil))))) (.cons (.il' (.cons (encF_nn _) (.cons (encF_nn _) (.cons (encF_nn _) (.cons (encF_nn _) .nil))))) .nil))
  have hcell : ∀ i : Nat, i < 3 → [AV.il 4 [encF N.1, encF N.2.1, encF N.2.2.1, encF N.2.2.2], .il 4 [encF f0, encF f4, encF f8, encF f12], .il 4 [encF f0, encF N.2.1, encF N.2.2.1, encF f12]][((i : Nat) : Int).toNat]? = some (encNum (X i)) := fun i hi => by
   rcases (show i = 0 ∨ i = 1 ∨ i = 2 by omega) with e | e | e <;> rw [e]
   ·rw [x0]; rfl
   ·rw [x1]; rfl
   ·rw [x2]; rfl
  refine ALoop.at nngz (fun i : Nat => i ≤ 3)
   (fun i => ⟨[(7, .sl 0 0 3), (8, .int .i64 i)], [(0, .row 51 1 [.il 4 [encF N.1, encF N.2.1, encF N.2.2.1, encF N.2.2.2], .il 4 [encF f0, encF f4, encF f8, encF f12], .il 4 [encF f0, encF N.2.1, encF N.2.2.1, encF f12]])], 1, 127⟩)
   (fun i => 3 - i) 0 [(19, 0)] (by omega)
   (conv_mk _ rfl ⟨⟨19, _, rfl, rfl, .cons (.same hNn) (.cons (.one rfl rfl (.fz' (id := 0) (off := 0) (len := 4) (xs := [encF f0, encF f4, encF f8, encF f12]) (ys := [encF f0, encF f4, encF f8, encF f12]) rfl rfl (Nat.le_refl 4) rfl (.cons (encF_nn _) (.cons (encF_nn _) (.cons (encF_nn _) (.cons (encF_nn _) .nil)))))) (.cons (.one rfl rfl (.fz' (id := 18) (off := 0) (len := 4) (xs := [encF f0, encF N.2.1, encF N.2.2.1, encF f12]) (ys := [encF f0, encF N.2.1, encF N.2.2.1, encF f12]) rfl rfl (Nat.le_refl 4) rfl (.cons (encF_nn _) (.cons (encF_nn _) (.cons (encF_nn _) (.cons (encF_nn _) .nil)))))) .nil))⟩, trivial⟩ ⟨⟨_, rfl, .slE rfl rfl⟩, ⟨_, rfl, .same _ nn⟩, trivial⟩) ?_
  clear hi hd hlt
  intro i hi
  have hd : decide ((i : Int) < 3) = decide (i < 3) := decide_eq_decide.2 (by omega)
  by_cases hlt : i < 3
  ·have hg := hcell i hlt
   obtain ⟨⟨ha, ka⟩, ⟨hb, kb⟩, ⟨hc, kc⟩, ⟨hd', kd⟩⟩ := hXo i hlt
   clear hcell
   unfold encNum at hg
   generalize (X i).1 = a at *
   generalize (X i).2.1 = b at *
   generalize (X i).2.2.1 = c at *
   generalize (X i).2.2.2 = d at *
   have oa := lOf a (sz_fc ha (by omega) ka)
   have ob := lOf b (sz_fc hb (by omega) kb)
   have oc := lOf c (sz_fc hc (by omega) kc)
   have od := lOf d (sz_fc hd' (by omega) kd)
   have hnP := pNew (n := 1300) (by decide) a b c d ha hb hc hd' ka kb kc kd
   have hnF := fNew (n := 1300) (by decide) a b c d ha hb hc hd' ka kb kc kd
   have h2 := new_two (n := 1300) (by decide) ha hb hc hd'
   have h3 := fun T e => new_zero (claim := a) (low := b) (alpha := c) (beta := d) (T := T) (e := e)
   obtain ⟨ab, al, ac, am, -, -, qa⟩ := encF_ex a
   obtain ⟨bb, bl, bc, bm, -, -, qb⟩ := encF_ex b
   obtain ⟨cb, cl, cc, cm, -, -, qc⟩ := encF_ex c
   obtain ⟨db, dl, dc, dm, -, -, qd⟩ := encF_ex d
   obtain ⟨eb, el, ec, em, -, -, pa⟩ := encP_ex a
   obtain ⟨fb, fl, fc, fm, -, -, pb⟩ := encP_ex b
   obtain ⟨gb, gl, gc, gm, -, -, pc⟩ := encP_ex c
   obtain ⟨hb', hl', hc', hm', -, -, pd⟩ := encP_ex d
   rw [qa, pa] at oa
   rw [qb, pb] at ob
   rw [qc, pc] at oc
   rw [qd, pd] at od
   rw [pa, pb, pc, pd] at hnP
   rw [qa, qb, qc, qd] at hnF hg
   have hCe : [AV.il 4 [encF N.1, encF N.2.1, encF N.2.2.1, encF N.2.2.2], .il 4 [encF f0, encF f4, encF f8, encF f12], .il 4 [encF f0, encF N.2.1, encF N.2.2.1, encF f12]] = [AV.il 4 [encF N.1, encF N.2.1, encF N.2.2.1, encF N.2.2.2], .il 4 [encF f0, encF f4, encF f8, encF f12], .il 4 [encF f0, encF N.2.1, encF N.2.2.1, encF f12]] := rfl
   generalize hCC : [AV.il 4 [encF N.1, encF N.2.1, encF N.2.2.1, encF N.2.2.2], .il 4 [encF f0, encF f4, encF f8, encF f12], .il 4 [encF f0, encF N.2.1, encF N.2.2.1, encF f12]] = CC at hg hCn ⊢
   have hlen3 : 3 = CC.length := by rw [← hCC]; rfl
   clear hCe hCC
   ((conv=>whnf);repeat(refine Xg ?_;conv=>whnf))
   rw [hd, decide_eq_true hlt]
   ((conv=>whnf);repeat(refine Xg ?_;conv=>whnf))
   repeat ((first | refine setK_iff.2 ?_ | refine ⟨rfl, ?_⟩); ((conv=>whnf);repeat(refine Xg ?_;conv=>whnf)))
   have hblt : (((i : Nat) : Int).toNat.blt 3) = true := by rw [Int.toNat_natCast]; exact Nat.ble_eq_true_of_le hlt
   have hg0 := hg
   rw [show ((i : Nat) : Int).toNat = 0 + ((i : Nat) : Int).toNat by omega] at hg0
   rw [hblt]
   ((conv=>whnf);repeat(refine Xg ?_;conv=>whnf))
   refine opt_mk hg0 ?_
   ((conv=>whnf);repeat(refine Xg ?_;conv=>whnf))
   refine opt_mk hg0 ?_
   ((conv=>whnf);repeat(refine Xg ?_;conv=>whnf))
   repeat ((first | refine setK_iff.2 ?_ | refine ⟨rfl, ?_⟩); ((conv=>whnf);repeat(refine Xg ?_;conv=>whnf)))
   refine PureC.use oa nngz (.cons (agF _ _ _ _) .nil) (agP _ _ _ _) ?_
   ((conv=>whnf);repeat(refine Xg ?_;conv=>whnf))
   repeat ((first | refine setK_iff.2 ?_ | refine ⟨rfl, ?_⟩); ((conv=>whnf);repeat(refine Xg ?_;conv=>whnf)))
   refine PureC.use ob nngz (.cons (agF _ _ _ _) .nil) (agP _ _ _ _) ?_
   ((conv=>whnf);repeat(refine Xg ?_;conv=>whnf))
   repeat ((first | refine setK_iff.2 ?_ | refine ⟨rfl, ?_⟩); ((conv=>whnf);repeat(refine Xg ?_;conv=>whnf)))
   refine PureC.use oc nngz (.cons (agF _ _ _ _) .nil) (agP _ _ _ _) ?_
   ((conv=>whnf);repeat(refine Xg ?_;conv=>whnf))
   repeat ((first | refine setK_iff.2 ?_ | refine ⟨rfl, ?_⟩); ((conv=>whnf);repeat(refine Xg ?_;conv=>whnf)))
   refine PureC.use od nngz (.cons (agF _ _ _ _) .nil) (agP _ _ _ _) ?_
   ((conv=>whnf);repeat(refine Xg ?_;conv=>whnf))
   repeat ((first | refine setK_iff.2 ?_ | refine ⟨rfl, ?_⟩); ((conv=>whnf);repeat(refine Xg ?_;conv=>whnf)))
   rcases h2 with hnone | ⟨T, hT, hTF⟩
   ·rw [hnone] at hnP hnF
    have eP : PureC Tryz.prog [] 20 [.agg [.bool eb, .il 1 (encU el), .bool ec, .il 1 (encU em)], .agg [.bool fb, .il 1 (encU fl), .bool fc, .il 1 (encU fm)], .agg [.bool gb, .il 1 (encU gl), .bool gc, .il 1 (encU gm)], .agg [.bool hb', .il 1 (encU hl'), .bool hc', .il 1 (encU hm')]] (.tup [.nptr, .int .i64 1]) := hnP
    have eF : PureC Tryz.prog [] 22 [.agg [.bool ab, .il 1 (encD al), .bool ac, .il 1 (encD am)], .agg [.bool bb, .il 1 (encD bl), .bool bc, .il 1 (encD bm)], .agg [.bool cb, .il 1 (encD cl), .bool cc, .il 1 (encD cm)], .agg [.bool db, .il 1 (encD dl), .bool dc, .il 1 (encD dm)]] (.tup [.nptr, .int .i64 1]) := hnF
    refine eP.goG ?_ (.cons (agP _ _ _ _) (.cons (agP _ _ _ _) (.cons (agP _ _ _ _) (.cons (agP _ _ _ _) .nil)))) nn
    ((conv=>whnf);repeat(refine Xg ?_;conv=>whnf))
    repeat ((first | refine setK_iff.2 ?_ | refine ⟨rfl, ?_⟩); ((conv=>whnf);repeat(refine Xg ?_;conv=>whnf)))
    refine eF.goG ?_ (.cons (agF _ _ _ _) (.cons (agF _ _ _ _) (.cons (agF _ _ _ _) (.cons (agF _ _ _ _) .nil)))) nn
    ((conv=>whnf);repeat(refine Xg ?_;conv=>whnf))
    repeat ((first | refine setK_iff.2 ?_ | refine ⟨rfl, ?_⟩); ((conv=>whnf);repeat(refine Xg ?_;conv=>whnf)))
    exact .mk (i + 1) [(0, 0)] (by omega)
     (conv_mk _ rfl ⟨⟨0, _, rfl, rfl, .same hCn⟩, trivial⟩ ⟨⟨_, rfl, .slE rfl rfl⟩, ⟨_, rfl, .w64 (by omega) ⟨by omega, by omega⟩⟩, trivial⟩) (by omega)
   ·obtain ⟨z1, z2, z3, z4⟩ := h3 T 0 hT
    rw [hT] at hnP hnF
    have eP : ACalls Tryz.prog gz 20 [.agg [.bool eb, .il 1 (encU el), .bool ec, .il 1 (encU em)], .agg [.bool fb, .il 1 (encU fl), .bool fc, .il 1 (encU fm)], .agg [.bool gb, .il 1 (encU gl), .bool gc, .il 1 (encU gm)], .agg [.bool hb', .il 1 (encU hl'), .bool hc', .il 1 (encU hm')]] [] 0 (fun r m n => r = .tup [.ptr 0 0 0, .int .i64 0] ∧ m = [(0, tB0 T)] ∧ n = 1) := ACalls.glob hnP
    have eF : ACalls Tryz.prog gz 22 [.agg [.bool ab, .il 1 (encD al), .bool ac, .il 1 (encD am)], .agg [.bool bb, .il 1 (encD bl), .bool bc, .il 1 (encD bm)], .agg [.bool cb, .il 1 (encD cl), .bool cc, .il 1 (encD cm)], .agg [.bool db, .il 1 (encD dl), .bool dc, .il 1 (encD dm)]] [] 0 (fun r m n => r = .tup [.ptr 0 0 0, .int .i64 0] ∧ m = [(0, rB0 T)] ∧ n = 1) := ACalls.glob hnF
    have hr := pRatio T
    have hn := pRuns T
    have hv := pVerdict T
    have hst := pString oneF oneF_fc
    rw [txt_one] at hst
    rw [z4] at hr
    rw [z1, z2] at hn
    rw [z3] at hv
    obtain ⟨ob1, ol1, oc1, om1, -, -, qo⟩ := encP_ex oneF
    rw [qo] at hr hst
    refine ACalls.useP (r1 := .tup [.ptr 23 0 0, .int .i64 0]) nngz eP (.cons (agP _ _ _ _) (.cons (agP _ _ _ _) (.cons (agP _ _ _ _) (.cons (agP _ _ _ _) .nil)))) (encTP_nn T) (.tup' (.cons (.ptr 0 23 0 0 rfl) (.cons (.same _ nn) .nil))) ?_
    ((conv=>whnf);repeat(refine Xg ?_;conv=>whnf))
    repeat ((first | refine setK_iff.2 ?_ | refine ⟨rfl, ?_⟩); ((conv=>whnf);repeat(refine Xg ?_;conv=>whnf)))
    refine ACalls.useP (r1 := .tup [.ptr 42 0 0, .int .i64 0]) nngz eF (.cons (agF _ _ _ _) (.cons (agF _ _ _ _) (.cons (agF _ _ _ _) (.cons (agF _ _ _ _) .nil)))) (encTF_nn T) (.tup' (.cons (.ptr 0 42 0 0 rfl) (.cons (.same _ nn) .nil))) ?_
    ((conv=>whnf);repeat(refine Xg ?_;conv=>whnf))
    repeat ((first | refine setK_iff.2 ?_ | refine ⟨rfl, ?_⟩); ((conv=>whnf);repeat(refine Xg ?_;conv=>whnf)))
    refine ACalls.useR nngz [(23, 0)] hr.glob rfl (.cons (.ptr 23 0 0 0 rfl) .nil) ⟨⟨23, _, rfl, rfl, .same (encTP_nn _)⟩, trivial⟩ rfl ?_
    rintro r m n ⟨rfl, rfl, rfl⟩
    refine ⟨[(23, tB0 T)], agP _ _ _ _, ⟨⟨0, _, rfl, rfl, .same (encTP_nn _)⟩, trivial⟩, rfl, ?_⟩
    ((conv=>whnf);repeat(refine Xg ?_;conv=>whnf))
    repeat ((first | refine setK_iff.2 ?_ | refine ⟨rfl, ?_⟩); ((conv=>whnf);repeat(refine Xg ?_;conv=>whnf)))
    refine ACalls.useR nngz [(23, 0)] hn.glob rfl (.cons (.ptr 23 0 0 0 rfl) .nil) ⟨⟨23, _, rfl, rfl, .same (encTP_nn _)⟩, trivial⟩ rfl ?_
    rintro r m n ⟨rfl, rfl, rfl⟩
    refine ⟨[(23, tB0 T)], .tup' (.cons nn (.cons nn .nil)), ⟨⟨0, _, rfl, rfl, .same (encTP_nn _)⟩, trivial⟩, rfl, ?_⟩
    ((conv=>whnf);repeat(refine Xg ?_;conv=>whnf))
    repeat ((first | refine setK_iff.2 ?_ | refine ⟨rfl, ?_⟩); ((conv=>whnf);repeat(refine Xg ?_;conv=>whnf)))
    refine ACalls.useR nngz [(23, 0)] hv.glob rfl (.cons (.ptr 23 0 0 0 rfl) .nil) ⟨⟨23, _, rfl, rfl, .same (encTP_nn _)⟩, trivial⟩ rfl ?_
    rintro r m n ⟨rfl, rfl, rfl⟩
    refine ⟨[(23, tB0 T)], nn, ⟨⟨0, _, rfl, rfl, .same (encTP_nn _)⟩, trivial⟩, rfl, ?_⟩
    ((conv=>whnf);repeat(refine Xg ?_;conv=>whnf))
    repeat ((first | refine setK_iff.2 ?_ | refine ⟨rfl, ?_⟩); ((conv=>whnf);repeat(refine Xg ?_;conv=>whnf)))
    refine PureC.use hst nngz (.cons (agP _ _ _ _) .nil) nn ?_
    ((conv=>whnf);repeat(refine Xg ?_;conv=>whnf))
    repeat ((first | refine setK_iff.2 ?_ | refine ⟨rfl, ?_⟩); ((conv=>whnf);repeat(refine Xg ?_;conv=>whnf)))
    exact .mk (i + 1) [(0, 0)] (by omega)
     (conv_mk _ rfl ⟨⟨0, _, rfl, rfl, .same hCn⟩, trivial⟩ ⟨⟨_, rfl, .slE rfl rfl⟩, ⟨_, rfl, .w64 (by omega) ⟨by omega, by omega⟩⟩, trivial⟩) (by omega)
  ·((conv=>whnf);repeat(refine Xg ?_;conv=>whnf))
   rw [hd, decide_eq_false hlt]
   ((conv=>whnf);repeat(refine Xg ?_;conv=>whnf))
   repeat ((first | refine setK_iff.2 ?_ | refine ⟨rfl, ?_⟩); ((conv=>whnf);repeat(refine Xg ?_;conv=>whnf)))
   refine PureC.use lives25 nngz .nil (tBo _) ?_
   ((conv=>whnf);repeat(refine Xg ?_;conv=>whnf))
   exact fin_pure (tBo _) ⟨rfl, rfl, rfl⟩
end Go.Proofs.YtbannipihdlofaaGreatDoor
namespace Go.Proofs.YtbannipihdlofaaGreatDoor.ClaimsNew
open Go.ChangeShapes Go.WideShapes Go.ChangeAt Go.RowKit Go.Lib Go.Ax
theorem own : ownKnob Tryz.prog.godebug = none := by kernel_rfl
theorem laidOut : laidOutB Tryz.prog = true := by kernel_rfl
theorem cells3 : Tryz.prog.cellsOf 3 = 1 := by kernel_rfl
theorem gName : Tryz.prog.globalNamed "strconv.ErrSyntax" = some 0 := by kernel_rfl
theorem gNameR : Tryz.prog.globalNamed "strconv.ErrRange" = some 1 := by kernel_rfl
theorem gNameP : Tryz.prog.globalNamed "internal/strconv.uint64pow10" = some 2 := by kernel_rfl
theorem gType : (Tryz.prog.globals[0]?).map (·.type) = some 123 := by kernel_rfl
theorem gTypeR : (Tryz.prog.globals[1]?).map (·.type) = some 123 := by kernel_rfl
theorem gTypeP : (Tryz.prog.globals[2]?).map (·.type) = some 187 := by kernel_rfl
theorem star : "*" ++ "errors.errorString" = "*errors.errorString" := by decide
theorem named (u : TypeId) (h : Tryz.prog.typeName? 3 u = some "*errors.errorString") : u = 192 :=
 typeName_ptr_named (nm := "errors.errorString") (by rw [star]; kernel_rfl) (by kernel_rfl) (by decide) u (by rw [star]; exact h)
theorem cellsE : Tryz.prog.cellsOf 194 = 1 := by kernel_rfl
theorem cellsS : Tryz.prog.cellsOf 9 = 1 := by kernel_rfl
theorem cellsU : Tryz.prog.cellsOf 108 = 1 := by kernel_rfl
theorem cellsP : Tryz.prog.cellsOf 187 = 20 := by kernel_rfl
def pows : List Int := [1, 10, 100, 1000, 10000, 100000, 1000000, 10000000, 100000000, 1000000000, 10000000000, 100000000000, 1000000000000, 10000000000000, 100000000000000, 1000000000000000, 10000000000000000, 100000000000000000, 1000000000000000000, 10000000000000000000]
theorem vars {W : World} (h : laidMetH Tryz.prog Rows.claimsNewRow.laid W) : ∀ p ∈ gz, VR (fun _ => ⟨0, 0, 0⟩) (fun _ => False) (OX (fun _ => False) (fun _ => ⟨0, 0, 0⟩) []) W (.ip p.2) (.pointer (some ⟨p.1, 0, none⟩)) := by
 have h : laidMet Tryz.prog Rows.claimsNewRow.laid W := h
 have h4 := h.tail.tail.tail.tail
 obtain ⟨a, s, hv, hc, hs, hz⟩ := laid_sentinel (tp := 192) (te := 194) (ts := 9) h4 gName gType Tryz.underlying123 named Tryz.underlying192 Tryz.underlying194 rfl rfl Tryz.underlying9 cellsE cellsS
 have hsp := laid_spot h4 gName hv Tryz.underlying192
 have h3 := h.tail.tail.tail
 obtain ⟨a', s', hv', hc', hs', hz'⟩ := laid_sentinel (tp := 192) (te := 194) (ts := 9) h3 gNameR gTypeR Tryz.underlying123 named Tryz.underlying192 Tryz.underlying194 rfl rfl Tryz.underlying9 cellsE cellsS
 have hsp' := laid_spot h3 gNameR hv' Tryz.underlying192
 have h2 := h.tail.tail
 have htab := tabIs_of_head (k := .u64) (zs := pows) gNameP gTypeP Tryz.underlying187 Tryz.underlying108 cellsU cellsP h2
 intro p hp
 simp only [gz, List.mem_cons, List.not_mem_nil, or_false] at hp
 rcases hp with rfl | rfl | rfl
 ·exact vr_iface_var gName hv hsp
 ·exact vr_iface_var gNameR hv' hsp'
 ·exact vr_tab_var gNameP htab
set_option maxRecDepth 100000 in
theorem contract (H : Type) (enc : TypeId × Value → H) (W : World) (base : Nat) (args : Array Value) (ds gs : List (DataW H)) (before : List MemPlace)
  (hval : ∀ (j : Nat) t v, Tryz.f4.params[j]? = some t → args[j]? = some v → Value.okWide Tryz.prog W .any base t v)
  (hW : DataW.Whole enc Tryz.prog Tryz.f4.params.toList Rows.claimsNewSpec.vars false W args.toList ds gs before) (hL : laidMetH Tryz.prog Rows.claimsNewRow.laid W) :
  Calls Tryz.prog 4 args W fun e W' => ∃ v, e = .returned v ∧ Rows.claimsNewSpec.post enc Tryz.prog Tryz.f4 false true false false W args v W' := by
 have hW' := hW
 obtain ⟨p, q, hA0, hV, rfl, hfz, hnd⟩ := hW
 have hA : DataW.TrodAll enc Tryz.prog W 0 (fun _ => true) true Tryz.f4.params.toList args.toList ds p := hA0
 rw [Tryz.params4] at hA hval
 obtain ⟨v0, vs0, d0, ds0, p0, q0, hargs, rfl, rfl, h0, r0⟩ := trodAll_cons hA
 obtain ⟨v1, vs1, d1, ds1, p1, q1, rfl, rfl, rfl, h1, r1⟩ := trodAll_cons r0
 obtain ⟨rfl, rfl, rfl⟩ := trodAll_nil r1
 obtain rfl : args = #[v0, v1] := by cases args; simp_all
 obtain ⟨rfl, rfl⟩ := trodVars_none hV
 have h0k := h0
 obtain ⟨x0, b0, e0⟩ := vr_ints_of Tryz.underlying22 Tryz.underlying3 cells3 (hval 0 22 v0 rfl rfl) h0
 have h1k := h1
 obtain ⟨x1, b1, e1⟩ := vr_ints_of Tryz.underlying22 Tryz.underlying3 cells3 (hval 1 22 v1 rfl rfl) h1
 clear hA0
 refine ((lawNewW x0 x1 b0 b1).callsG W [v0, v1] (vars hL) (.cons e0 (.cons e1 .nil))).mono ?_
 rintro e W' ⟨rfl, hk⟩
 refine ⟨_, rfl, _, _, _, [], p0 ++ (p1 ++ []), [], hW', ?_, ?_, ?_, hk.frame _, fun h => by cases h⟩
 ·exact trodAll_cons_mk (shut_bool Tryz.underlying4 _) trodAll_mk0
 ·exact trodAll_cons_mk (Kept.trod laidOut (by kernel_rfl) (of_decide_eq_true (by kernel_rfl)) h0k hk) (trodAll_cons_mk (Kept.trod laidOut (by kernel_rfl) (of_decide_eq_true (by kernel_rfl)) h1k hk) trodAll_mk0)
 ·rfl
noncomputable def laidWorld (os : Os) : World :=
 let N := (World.settled Tryz.prog os).heap.size
 let w0 := World.holding Tryz.prog os ⟨#[
  .cells #[.string ⟨#[105, 110, 118, 97, 108, 105, 100, 32, 115, 121, 110, 116, 97, 120]⟩] 194,
  .cells #[.string ⟨#[118, 97, 108, 117, 101, 32, 111, 117, 116, 32, 111, 102, 32, 114, 97, 110, 103, 101]⟩] 194], #[], []⟩
 let put (h : Array Obj) (g : Nat) (cs : Array Value) : Array Obj := h.modify g fun
  | .cells _ t frozen => .cells cs t frozen
  | o => o
 let nums (d : DataW Unit) : Array Value := match d with
  | .agg ds => (ds.map fun
   | .lit (.int k n) => Value.int k n
   | _ => .bool false).toArray
  | _ => #[]
 let h0 := put (put w0.heap 0 #[.iface 192 (.pointer (some ⟨N, 0, none⟩))]) 1 #[.iface 192 (.pointer (some ⟨N + 1, 0, none⟩))]
 let h1 := put h0 2 (nums Rows.laid_internal_strconv_uint64pow10)
 let h2 := put h1 4 (nums Rows.laid_math_bits_deBruijn32tab)
 let h3 := put h2 5 (nums Rows.laid_math_bits_deBruijn64tab)
 { w0 with heap := h3 }
noncomputable abbrev N0 : Nat := (World.settled Tryz.prog default).heap.size
theorem laid_met (os : Os) (args : Array Value) : laidMet Tryz.prog Rows.claimsNewRow.laid ((laidWorld os).forCall (fun _ _ => 0) ⟨#[], args, []⟩).memory :=
 (LaidIn.of_run (l := Rows.claimsNewRow.laid) [0, 1, 2, 4, 5, N0, N0 + 1] 8 (by kernel_rfl) (by kernel_rfl) (by kernel_rfl) (by kernel_rfl)).met
noncomputable abbrev wargs : Array Value := #[.slice none 0 0, .slice none 0 0]
theorem reads (os : Os) {H : Type} (enc : TypeId × Value → H) : ∃ places, DataW.whole enc Tryz.prog ((laidWorld os).forCall (fun _ _ => 0) ⟨#[], wargs, []⟩).memory Tryz.f4.params.toList Rows.claimsNewSpec.vars false wargs.toList 8 = some ([.nil, .nil], [], places) :=
 ⟨[], by kernel_rfl⟩
set_option maxRecDepth 100000 in
theorem lifted (os : Os) (started : os.Started) (H : Type) (enc : TypeId × Value → H) (F : Stop.Interp) :
  ReturnsInHanded {} Tryz.checked os 4 .any ((OpenSpec.ofChange Rows.claimsNewSpec).preRow enc Tryz.prog Tryz.f4 Rows.claimsNewRow.domain false Rows.claimsNewRow.laid) (((OpenSpec.ofChange Rows.claimsNewSpec).at F).post enc Tryz.prog Tryz.f4 false true false false) := by
 obtain ⟨places, hx⟩ := reads os enc
 refine returnsInHanded_of_row (C := Tryz.checked) (s := OpenSpec.ofChange Rows.claimsNewSpec) own started (by kernel_rfl) Tryz.func4
  (witness_row_atRef (enc := enc) (C := Tryz.checked) false (laidWorld os) wargs rfl (by kernel_rfl) (by kernel_rfl) (by kernel_rfl)
   (OpenSpec.preRow_of_cond 8 hx (by kernel_rfl) (fun k hk => by cases hk) (by kernel_rfl) (laid_met os _))) ?_
 intro W base args ds gs before hval hW _ _ _ hL _ _
 exact contract H enc W base args ds gs before hval hW hL
theorem said : Rows.ClaimsNewSaid :=
 OpenClaim.holds_of_cond 4 Tryz.f4 rfl rfl rfl rfl rfl rfl rfl ⟨rfl, rfl, rfl, rfl, rfl⟩ rfl rfl rfl rfl rfl (by kernel_rfl) Tryz.func4 (by kernel_rfl)
  (of_decide_eq_true (by kernel_rfl)) (by unfold Func.isWrapper; first | (rw [if_pos (by decide +kernel)]; kernel_rfl) | (rw [if_neg (by decide +kernel)]; exact ⟨rfl, rfl⟩))
  (fun os started H enc _ F => by rw [OpenClaim.pre_eq_preRow]; exact lifted os started H enc F)
theorem plain (f : FuncId) (fn : Func) (hf : Tryz.pinned.checked.prog.funcNamed "refuter/refuterlaw25.ClaimsNew" = some f) (hfn : Tryz.pinned.checked.prog.funcs[f]? = some fn) :
  true = Tryz.pinned.checked.prog.looks [] ∧ ∀ (j : Nat) t, fn.params[j]? = some t → Tryz.pinned.checked.prog.wantsStandIn t = false := by
 obtain rfl : f = 4 := Option.some.inj ((show Tryz.prog.funcNamed "refuter/refuterlaw25.ClaimsNew" = some 4 by kernel_rfl).symm.trans hf) |>.symm
 obtain rfl : fn = Tryz.f4 := (Option.some.inj (Tryz.func4.symm.trans hfn)).symm
 refine ⟨by kernel_rfl, fun j t ht => ?_⟩
 rw [Tryz.params4] at ht
 have hTI : Tryz.prog.wantsStandIn 22 = false := by kernel_rfl
 have hm := Array.mem_of_getElem? ht
 simp at hm
 repeat' (first | (rw [(hm : t = 22)]; exact hTI) | rcases hm with hm | hm)
theorem card : Rows.ClaimsNewCardSaid :=
 Claim7.holds_tied_plain_at .later [] _ _ _ _ said (fun _ h => by cases h) (by kernel_rfl) (fun _ h => by cases h) claimsNew_row_tie rfl ⟨rfl, rfl⟩ (by kernel_rfl) rfl plain (by kernel_rfl)
end Go.Proofs.YtbannipihdlofaaGreatDoor.ClaimsNew
