/- A part of the proof. -/
import Derived.Test.YtbannipihdlofaaGreatDoorAx11
set_option linter.unusedVariables false
namespace Go.Proofs.YtbannipihdlofaaGreatDoor
open Go Go.Ax Go.Proofs
set_option maxRecDepth 100000
set_option maxHeartbeats 16000000
set_option linter.unusedSimpArgs false
theorem wAddI (x y : Int) (hx : (dg 4294967296 x.natAbs).length ≤ 900000) (hy : (dg 4294967296 y.natAbs).length ≤ 900000) : PureC Tryz.prog [] 81 [encW x, encW y] (rngW (x + y)) := by
 have hB : (2 : Nat) ≤ 4294967296 := by decide
 have ht := wTotal x y (by omega) (by omega)
 have hl : (dg 4294967296 (x + y).natAbs).length ≤ 1000000 := by
  have h1 := Int.natAbs_add_le x y
  have h2 := dg_len_mono hB h1
  have h3 := dgl_add hB x.natAbs y.natAbs
  omega
 have hr := wRanged (decide (x + y < 0)) (x + y).natAbs (by omega)
 rw [sg_of] at hr
 obtain ⟨b, l, e, he⟩ := rngW_agg (x + y)
 rw [he] at hr ⊢
 rw [encW_eq (x + y)] at ht
 rw [encW_eq x, encW_eq y] at *
 generalize dg 4294967296 (x + y).natAbs = ab at *
 generalize dg 4294967296 x.natAbs = a1 at *
 generalize dg 4294967296 y.natAbs = a2 at *
 generalize decide (x + y < 0) = bb at *
 generalize decide (x < 0) = b1 at *
 generalize decide (y < 0) = b2 at *
 refine acalls_go nnΓ Tryz.func81 rfl ?_
 ((conv=>whnf);repeat(refine Xg ?_;conv=>whnf))
 refine ht.go ?_ (.cons (agW _ _) (.cons (agW _ _) .nil)) (agW _ _)
 ((conv=>whnf);repeat(refine Xg ?_;conv=>whnf))
 repeat ((first | refine setK_iff.2 ?_ | refine ⟨rfl, ?_⟩); ((conv=>whnf);repeat(refine Xg ?_;conv=>whnf)))
 refine hr.go ?_ (.cons (tB _) (.cons (tU _) .nil)) (.tup' (.cons (agW _ _) (.cons nn .nil)))
 ((conv=>whnf);repeat(refine Xg ?_;conv=>whnf))
 repeat ((first | refine setK_iff.2 ?_ | refine ⟨rfl, ?_⟩); ((conv=>whnf);repeat(refine Xg ?_;conv=>whnf)))
 exact fin_pure (.tup' (.cons (agW _ _) (.cons nn .nil))) ⟨rfl, rfl, rfl⟩
theorem cmp_abs {x y : Int} : cmpJ x y = if decide (x < 0) = true ∧ decide (y < 0) = true then cmpJ (y.natAbs : Int) (x.natAbs : Int) else if decide (x < 0) = true then -1 else if decide (y < 0) = true then 1 else cmpJ (x.natAbs : Int) (y.natAbs : Int) := by
 by_cases h1 : x < 0 <;> by_cases h2 : y < 0
 ·rw [if_pos ⟨decide_eq_true h1, decide_eq_true h2⟩]; unfold cmpJ; split <;> split <;> (try split) <;> (try split) <;> omega
 ·rw [if_neg (by rw [decide_eq_false h2]; simp), if_pos (decide_eq_true h1)]; unfold cmpJ; rw [if_pos (by omega)]
 ·rw [if_neg (by rw [decide_eq_false h1]; simp), if_neg (by rw [decide_eq_false h1]; simp), if_pos (decide_eq_true h2)]; unfold cmpJ; rw [if_neg (by omega), if_pos (by omega)]
 ·rw [if_neg (by rw [decide_eq_false h1]; simp), if_neg (by rw [decide_eq_false h1]; simp), if_neg (by rw [decide_eq_false h2]; simp)]; unfold cmpJ; split <;> split <;> (try split) <;> (try split) <;> omega
theorem wCompare (x y : Int) (hx : (dg 4294967296 x.natAbs).length ≤ 1000000) (hy : (dg 4294967296 y.natAbs).length ≤ 1000000) : PureC Tryz.prog [] 35 [encW x, encW y] (.int .i64 (cmpJ x y)) := by
 have h1 := wCmp x.natAbs y.natAbs (by omega)
 have h2 := wCmp y.natAbs x.natAbs (by omega)
 rw [cmp_abs (x := x) (y := y), encW_eq x, encW_eq y]
 generalize cmpJ (x.natAbs : Int) (y.natAbs : Int) = c1 at *
 generalize cmpJ (y.natAbs : Int) (x.natAbs : Int) = c2 at *
 generalize dg 4294967296 x.natAbs = a1 at *
 generalize dg 4294967296 y.natAbs = a2 at *
 generalize decide (x < 0) = b1 at *
 generalize decide (y < 0) = b2 at *
 refine acalls_go nnΓ Tryz.func35 rfl ?_
 cases b1 <;> cases b2
 ·((conv=>whnf);repeat(refine Xg ?_;conv=>whnf))
  refine h1.go ?_ (.cons (tU _) (.cons (tU _) .nil)) nn
  ((conv=>whnf);repeat(refine Xg ?_;conv=>whnf))
  exact fin_pure nn ⟨rfl, rfl, rfl⟩
 ·((conv=>whnf);repeat(refine Xg ?_;conv=>whnf))
  exact fin_pure nn ⟨rfl, rfl, rfl⟩
 ·((conv=>whnf);repeat(refine Xg ?_;conv=>whnf))
  exact fin_pure nn ⟨rfl, rfl, rfl⟩
 ·((conv=>whnf);repeat(refine Xg ?_;conv=>whnf))
  refine h2.go ?_ (.cons (tU _) (.cons (tU _) .nil)) nn
  ((conv=>whnf);repeat(refine Xg ?_;conv=>whnf))
  exact fin_pure nn ⟨rfl, rfl, rfl⟩
theorem wSign (x : Int) (hx : (dg 4294967296 x.natAbs).length ≤ 1000000) : PureC Tryz.prog [] 57 [encW x] (.int .i64 (cmpJ x 0)) := by
 have hc := wCompare x 0 hx (by rw [Int.natAbs_zero, dg_zero]; simp)
 rw [encW0, encW_eq x] at hc
 rw [encW_eq x]
 generalize dg 4294967296 x.natAbs = a1 at *
 generalize decide (x < 0) = b1 at *
 refine acalls_go nnΓ Tryz.func57 rfl ?_
 ((conv=>whnf);repeat(refine Xg ?_;conv=>whnf))
 refine ACalls.pre nnΓ [] (mem' := []) rfl trivial (.cons (.same _ (agW _ _)) (.cons (.agg' (.cons (.same _ (tB _)) (.cons (.nil 1) .nil))) .nil)) ?_
 refine hc.go ?_ (.cons (agW _ _) (.cons (agW _ []) .nil)) nn
 ((conv=>whnf);repeat(refine Xg ?_;conv=>whnf))
 exact fin_pure nn ⟨rfl, rfl, rfl⟩
set_option maxHeartbeats 16000000
set_option linter.unusedSimpArgs false
theorem div_unique {x y q r : Int} (hy : y ≠ 0) (h : r + y * q = x) (h0 : 0 ≤ r) (h1 : r < y.natAbs) : x / y = q ∧ x % y = r := by
 rcases Int.lt_or_le y 0 with hn | hn
 ·obtain ⟨b, rfl⟩ : ∃ b, y = -b := ⟨-y, by omega⟩
  have := (Int.ediv_emod_unique (a := x) (b := b) (r := r) (q := -q) (by omega)).2 ⟨by rw [Int.mul_neg, ← Int.neg_mul]; exact h, h0, by omega⟩
  rw [Int.ediv_neg, Int.emod_neg, this.1, this.2]
  exact ⟨by omega, rfl⟩
 ·exact (Int.ediv_emod_unique (by omega)).2 ⟨h, h0, by omega⟩
theorem div_signs {x y : Int} (hy : y ≠ 0) : (decide (x < 0) = true ∧ 0 < x.natAbs % y.natAbs → x / y = sg (decide (x < 0) != decide (y < 0)) (x.natAbs / y.natAbs + 1) ∧ x % y = ((y.natAbs - x.natAbs % y.natAbs : Nat) : Int)) ∧
  (¬ (decide (x < 0) = true ∧ 0 < x.natAbs % y.natAbs) → x / y = sg (decide (x < 0) != decide (y < 0)) (x.natAbs / y.natAbs) ∧ x % y = ((x.natAbs % y.natAbs : Nat) : Int)) := by
 have hyp : 0 < y.natAbs := Int.natAbs_pos.2 hy
 have hd := Nat.div_add_mod x.natAbs y.natAbs
 have hm := Nat.mod_lt x.natAbs hyp
 have hd2 : (y.natAbs : Int) * ((x.natAbs / y.natAbs : Nat) : Int) + ((x.natAbs % y.natAbs : Nat) : Int) = (x.natAbs : Int) := by rw [← Int.natCast_mul, ← Int.natCast_add, hd]
 generalize x.natAbs / y.natAbs = Q at *
 generalize x.natAbs % y.natAbs = R at *
 constructor
 ·rintro ⟨h1, h2⟩
  have h1 := of_decide_eq_true h1
  refine div_unique hy ?_ (by omega) (by omega)
  rw [decide_eq_true h1]
  rcases Int.lt_or_le y 0 with hn | hn
  ·rw [decide_eq_true hn]
   rw [show (y.natAbs : Int) = -y by omega, Int.neg_mul] at hd2
   simp only [sg, bne_self_eq_false, Bool.false_eq_true, if_false, Int.natCast_add, Int.mul_add, Int.natCast_one, Int.mul_one]
   generalize y * (Q : Int) = P at *
   omega
  ·rw [decide_eq_false (by omega)]
   rw [show (y.natAbs : Int) = y by omega] at hd2
   simp only [sg, Bool.true_bne, Bool.not_false, if_true, Int.natCast_add, Int.mul_neg, Int.mul_add, Int.natCast_one, Int.mul_one]
   generalize y * (Q : Int) = P at *
   omega
 ·intro h
  refine div_unique hy ?_ (by omega) (by omega)
  by_cases h1 : x < 0
  ·have hR : R = 0 := by
    rcases Nat.eq_zero_or_pos R with e | e
    ·exact e
    ·exact absurd ⟨decide_eq_true h1, e⟩ h
   subst hR
   rw [decide_eq_true h1]
   rcases Int.lt_or_le y 0 with hn | hn
   ·rw [decide_eq_true hn]
    rw [show (y.natAbs : Int) = -y by omega, Int.neg_mul] at hd2
    simp only [sg, bne_self_eq_false, Bool.false_eq_true, if_false]
    generalize y * (Q : Int) = P at *
    omega
   ·rw [decide_eq_false (by omega)]
    rw [show (y.natAbs : Int) = y by omega] at hd2
    simp only [sg, Bool.true_bne, Bool.not_false, if_true, Int.mul_neg]
    generalize y * (Q : Int) = P at *
    omega
  ·rw [decide_eq_false h1]
   rcases Int.lt_or_le y 0 with hn | hn
   ·rw [decide_eq_true hn]
    rw [show (y.natAbs : Int) = -y by omega, Int.neg_mul] at hd2
    simp only [sg, Bool.false_bne, if_true, Int.mul_neg]
    generalize y * (Q : Int) = P at *
    omega
   ·rw [decide_eq_false (by omega)]
    rw [show (y.natAbs : Int) = y by omega] at hd2
    simp only [sg, bne_self_eq_false, Bool.false_eq_true, if_false]
    generalize y * (Q : Int) = P at *
    omega
set_option maxHeartbeats 16000000
set_option linter.unusedSimpArgs false
theorem wDiv (x y : Int) (hy0 : y ≠ 0) (hx : (dg 4294967296 x.natAbs).length ≤ 900000) (hy : (dg 4294967296 y.natAbs).length ≤ 900000) : PureC Tryz.prog [] 58 [encW x, encW y] (.tup [encW (x / y), encW (x % y), .int .i64 0]) := by
 have hB : (2 : Nat) ≤ 4294967296 := by decide
 have hyp : 0 < y.natAbs := Int.natAbs_pos.2 hy0
 have hd := wDivMag x.natAbs y.natAbs hyp (by omega) (by omega)
 have hs := div_signs (x := x) hy0
 have hrl : decide (0 < (dg 4294967296 (x.natAbs % y.natAbs)).length) = decide (0 < x.natAbs % y.natAbs) := dg_len_zero hB
 have hq1 := dgl_div hB x.natAbs y.natAbs
 have hm := Nat.mod_lt x.natAbs hyp
 have hr1 := dgl_mod hB x.natAbs y.natAbs
 have ha := wAdd (x.natAbs / y.natAbs) 1 (by omega) (by rw [dg_pos hB (by decide)]; simp [dg_zero])
 have hsu := wSub y.natAbs (x.natAbs % y.natAbs) (Nat.le_of_lt hm) (by omega)
 have hq2 := dgl_add hB (x.natAbs / y.natAbs) 1
 have hr2 := dgl_sub hB y.natAbs (x.natAbs % y.natAbs)
 have hone : dg 4294967296 1 = [1] := by rw [dg_pos hB (by decide)]; simp [dg_zero]
 rw [hone] at ha hq2
 have m1 := wMade (decide (x < 0) != decide (y < 0)) (x.natAbs / y.natAbs) (by omega)
 have m2 := wMade (decide (x < 0) != decide (y < 0)) (x.natAbs / y.natAbs + 1) (by simp at hq2; omega)
 have m3 := wMade false (x.natAbs % y.natAbs) (by omega)
 have m4 := wMade false (y.natAbs - x.natAbs % y.natAbs) (by omega)
 have hyl : ∃ c cs, dg 4294967296 y.natAbs = c :: cs := ⟨_, _, dg_pos hB hyp⟩
 obtain ⟨c, cs, hyl⟩ := hyl
 have e1 : ∀ n : Nat, sg false n = (n : Int) := fun n => rfl
 rw [e1] at m3 m4
 obtain ⟨hs1, hs2⟩ := hs
 have aq := encW_eq (x / y)
 have ar := encW_eq (x % y)
 rw [aq, ar, encW_eq x, encW_eq y]
 rw [hyl] at hd hsu ⊢
 clear hq1 hr1 hq2 hr2 hx hy hm
 generalize dg 4294967296 (x.natAbs / y.natAbs) = lq at *
 generalize dg 4294967296 (x.natAbs / y.natAbs + 1) = lq1 at *
 generalize dg 4294967296 (x.natAbs % y.natAbs) = lr at *
 generalize dg 4294967296 (y.natAbs - x.natAbs % y.natAbs) = lr1 at *
 generalize dg 4294967296 (x / y).natAbs = lz1 at *
 generalize dg 4294967296 (x % y).natAbs = lz2 at *
 generalize decide (x / y < 0) = bz1 at *
 generalize decide (x % y < 0) = bz2 at *
 generalize dg 4294967296 x.natAbs = a1 at *
 generalize decide (x < 0) = b1 at *
 generalize decide (y < 0) = b2 at *
 have hlen : (encU lr).length = lr.length := encU_length lr
 refine acalls_go nnΓ Tryz.func58 rfl ?_
 ((conv=>whnf);repeat(refine Xg ?_;conv=>whnf))
 repeat (refine ⟨rfl, ?_⟩; ((conv=>whnf);repeat(refine Xg ?_;conv=>whnf)))
 refine hd.go ?_ (.cons (tU _) (.cons (tU _) .nil)) (.tup' (.cons (tU _) (.cons (tU _) .nil)))
 ((conv=>whnf);repeat(refine Xg ?_;conv=>whnf))
 repeat ((first | refine setK_iff.2 ?_ | refine ⟨rfl, ?_⟩); ((conv=>whnf);repeat(refine Xg ?_;conv=>whnf)))
 have fin : ∀ (x y z : Bool) (l m : List Nat), True := fun _ _ _ _ _ => trivial
 cases b1 with
 | false =>
  obtain ⟨q1, q2⟩ := hs2 (by simp)
  rw [← q1, aq] at m1
  rw [← q2, ar] at m3
  ((conv=>whnf);repeat(refine Xg ?_;conv=>whnf))
  refine m1.go ?_ (.cons (tB _) (.cons (tU _) .nil)) (agW _ _)
  ((conv=>whnf);repeat(refine Xg ?_;conv=>whnf))
  repeat ((first | refine setK_iff.2 ?_ | refine ⟨rfl, ?_⟩); ((conv=>whnf);repeat(refine Xg ?_;conv=>whnf)))
  refine m3.go ?_ (.cons (tB _) (.cons (tU _) .nil)) (agW _ _)
  ((conv=>whnf);repeat(refine Xg ?_;conv=>whnf))
  repeat ((first | refine setK_iff.2 ?_ | refine ⟨rfl, ?_⟩); ((conv=>whnf);repeat(refine Xg ?_;conv=>whnf)))
  exact fin_pure (.tup' (.cons (agW _ _) (.cons (agW _ _) (.cons nn .nil)))) ⟨rfl, rfl, rfl⟩
 | true =>
  cases lr with
  | nil =>
   have h0 : ¬ 0 < x.natAbs % y.natAbs := by simpa using hrl
   obtain ⟨q1, q2⟩ := hs2 (fun h => h0 h.2)
   rw [← q1, aq] at m1
   rw [← q2, ar] at m3
   ((conv=>whnf);repeat(refine Xg ?_;conv=>whnf))
   refine m1.go ?_ (.cons (tB _) (.cons (tU _) .nil)) (agW _ _)
   ((conv=>whnf);repeat(refine Xg ?_;conv=>whnf))
   repeat ((first | refine setK_iff.2 ?_ | refine ⟨rfl, ?_⟩); ((conv=>whnf);repeat(refine Xg ?_;conv=>whnf)))
   refine m3.go ?_ (.cons (tB _) (.cons (tU _) .nil)) (agW _ _)
   ((conv=>whnf);repeat(refine Xg ?_;conv=>whnf))
   repeat ((first | refine setK_iff.2 ?_ | refine ⟨rfl, ?_⟩); ((conv=>whnf);repeat(refine Xg ?_;conv=>whnf)))
   exact fin_pure (.tup' (.cons (agW _ _) (.cons (agW _ _) (.cons nn .nil)))) ⟨rfl, rfl, rfl⟩
  | cons r0 rs =>
   have h0 : 0 < x.natAbs % y.natAbs := by simpa using hrl
   obtain ⟨q1, q2⟩ := hs1 ⟨rfl, h0⟩
   rw [← q1, aq] at m2
   rw [← q2, ar] at m4
   ((conv=>whnf);repeat(refine Xg ?_;conv=>whnf))
   repeat (refine ⟨rfl, ?_⟩; ((conv=>whnf);repeat(refine Xg ?_;conv=>whnf)))
   refine bcs_mk (fun h => ?_) (fun h => absurd h (by simp [encU]))
   ((conv=>whnf);repeat(refine Xg ?_;conv=>whnf))
   refine ACalls.pre nnΓ [(0, 0), (1, 1), (2, 2), (3, 3)] (mem' := [(0, .row 37 2 [.agg [.bool true, .il 1 (encU a1)]]), (1, .row 37 2 [.agg [.bool b2, .il 1 (encU (c :: cs))]]), (2, .row 37 2 [.agg [.bool false, .nsl]]), (3, .row 37 2 [.agg [.bool false, .nsl]])]) rfl
    ⟨⟨0, _, rfl, rfl, .same (.cons (agW _ _) .nil)⟩, ⟨1, _, rfl, rfl, .same (.cons (agW _ _) .nil)⟩, ⟨2, _, rfl, rfl, .same (.cons (.agg' (.cons (tB _) (.cons nn .nil))) .nil)⟩, ⟨3, _, rfl, rfl, .same (.cons (.agg' (.cons (tB _) (.cons nn .nil))) .nil)⟩, trivial⟩
    (.cons (.same _ (tU _)) (.cons (.fz' (id := 4) (off := 0) (len := 1) (xs := [.int .u32 1]) (ys := encU [1]) rfl rfl (Nat.le_refl 1) rfl (encU_nn [1])) .nil)) ?_
   refine ha.go ?_ (.cons (tU _) (.cons (tU _) .nil)) (tU _)
   ((conv=>whnf);repeat(refine Xg ?_;conv=>whnf))
   repeat ((first | refine setK_iff.2 ?_ | refine ⟨rfl, ?_⟩); ((conv=>whnf);repeat(refine Xg ?_;conv=>whnf)))
   refine hsu.go ?_ (.cons (tU _) (.cons (tU _) .nil)) (tU _)
   ((conv=>whnf);repeat(refine Xg ?_;conv=>whnf))
   repeat ((first | refine setK_iff.2 ?_ | refine ⟨rfl, ?_⟩); ((conv=>whnf);repeat(refine Xg ?_;conv=>whnf)))
   refine m2.go ?_ (.cons (tB _) (.cons (tU _) .nil)) (agW _ _)
   ((conv=>whnf);repeat(refine Xg ?_;conv=>whnf))
   repeat ((first | refine setK_iff.2 ?_ | refine ⟨rfl, ?_⟩); ((conv=>whnf);repeat(refine Xg ?_;conv=>whnf)))
   refine m4.go ?_ (.cons (tB _) (.cons (tU _) .nil)) (agW _ _)
   ((conv=>whnf);repeat(refine Xg ?_;conv=>whnf))
   repeat ((first | refine setK_iff.2 ?_ | refine ⟨rfl, ?_⟩); ((conv=>whnf);repeat(refine Xg ?_;conv=>whnf)))
   exact fin_pure (.tup' (.cons (agW _ _) (.cons (agW _ _) (.cons nn .nil)))) ⟨rfl, rfl, rfl⟩
set_option maxHeartbeats 16000000
set_option linter.unusedSimpArgs false
theorem wMadeL (neg : Bool) (l : List Nat) (hl : l.length ≤ 4294967296) : PureC Tryz.prog [] 67 [.bool neg, .il 1 (encU l)] (.agg [.bool (neg && decide (0 < (trimZ l).length)), .il 1 (encU (trimZ l))]) := by
 have ht := wTrim l hl
 generalize trimZ l = z at *
 refine acalls_go nnΓ Tryz.func67 rfl ?_
 ((conv=>whnf);repeat(refine Xg ?_;conv=>whnf))
 refine ht.go ?_ (.cons (tU _) .nil) (tU _)
 have hlz : decide (((encU z).length : Int) > 0) = decide (0 < z.length) := by
  rw [encU_length, decide_eq_decide]; omega
 cases neg with
 | false =>
  ((conv=>whnf);repeat(refine Xg ?_;conv=>whnf))
  repeat ((first | refine setK_iff.2 ?_ | refine ⟨rfl, ?_⟩); ((conv=>whnf);repeat(refine Xg ?_;conv=>whnf)))
  exact fin_pure (agW _ _) ⟨rfl, rfl, rfl⟩
 | true =>
  ((conv=>whnf);repeat(refine Xg ?_;conv=>whnf))
  rw [hlz]
  repeat ((first | refine setK_iff.2 ?_ | refine ⟨rfl, ?_⟩); ((conv=>whnf);repeat(refine Xg ?_;conv=>whnf)))
  exact fin_pure (agW _ _) ⟨rfl, rfl, rfl⟩
theorem made_two (neg : Bool) (m : Nat) (hm : m < 18446744073709551616) : trimZ [m % 4294967296, m / 4294967296] = dg 4294967296 m ∧ AV.agg [.bool (neg && decide (0 < (trimZ [m % 4294967296, m / 4294967296]).length)), .il 1 (encU (trimZ [m % 4294967296, m / 4294967296]))] = encW (sg neg m) := by
 have e : trimZ [m % 4294967296, m / 4294967296] = dg 4294967296 m := by
  rw [trimZ_dg (B := 4294967296) (by decide) _ (by intro d hd; simp at hd; omega)]
  congr 1
  simp [vl]
  omega
 refine ⟨e, ?_⟩
 rw [e, encW_sg, dg_len_zero (by decide)]
theorem wFrom (n : Int) (hn : i64 n) : PureC Tryz.prog [] 37 [.int .i64 n] (encW n) := by
 have hn' := hn
 obtain ⟨hn1, hn2⟩ := hn'
 have hm := wMadeL (decide (n < 0)) [n.natAbs % 4294967296, n.natAbs / 4294967296] (by simp)
 have h2 := (made_two (decide (n < 0)) n.natAbs (by omega)).2
 rw [h2, sg_of] at hm
 rw [encW_eq n] at hm ⊢
 generalize dg 4294967296 n.natAbs = l at *
 have hM : n.natAbs < 18446744073709551616 := by omega
 have x1 : IntKind.u32.wrap (n.natAbs : Int) = ((n.natAbs % 4294967296 : Nat) : Int) := w32 _
 have x2 : IntKind.u32.wrap ((n.natAbs : Int).fdiv (2 ^ 32)) = ((n.natAbs / 4294967296 : Nat) : Int) := by rw [shr32, w32s (by omega)]
 have step : ∀ (X : Int), X = (n.natAbs : Int) → encU [n.natAbs % 4294967296, n.natAbs / 4294967296] = [AV.int IntKind.u32 (IntKind.u32.wrap X), AV.int IntKind.u32 (IntKind.u32.wrap (X.fdiv (2 ^ 32)))] := fun X hX => by rw [hX, x1, x2]; rfl
 refine acalls_go nnΓ Tryz.func37 rfl ?_
 ((conv=>whnf);repeat(refine Xg ?_;conv=>whnf))
 refine bcs_mk (fun hb => ?_) (fun hb => ?_)
 ·rw [hb] at hm ⊢
  have hs := step (IntKind.u64.wrap (0 - IntKind.u64.wrap n)) (by have := of_decide_eq_true hb; rw [wrap_u64_mod, wrap_u64_mod]; omega)
  ((conv=>whnf);repeat(refine Xg ?_;conv=>whnf))
  rw [hb]
  refine ACalls.pre nnΓ [(0, 0)] (mem' := [(0, .row 37 2 [.agg [.bool false, .nsl]])]) rfl ⟨⟨0, _, rfl, rfl, .same (.cons (.agg' (.cons (tB _) (.cons nn .nil))) .nil)⟩, trivial⟩
   (.cons (.same _ (tB _)) (.cons (.fz' (id := 1) (off := 0) (len := 2) (ys := encU [n.natAbs % 4294967296, n.natAbs / 4294967296]) rfl rfl (Nat.le_refl 2) hs.symm (encU_nn _)) .nil)) ?_
  refine hm.go ?_ (.cons (tB _) (.cons (tU _) .nil)) (agW _ _)
  ((conv=>whnf);repeat(refine Xg ?_;conv=>whnf))
  repeat ((first | refine setK_iff.2 ?_ | refine ⟨rfl, ?_⟩); ((conv=>whnf);repeat(refine Xg ?_;conv=>whnf)))
  exact fin_pure (agW _ _) ⟨rfl, rfl, rfl⟩
 ·rw [hb] at hm ⊢
  have hs := step (IntKind.u64.wrap n) (by have := of_decide_eq_false hb; rw [wrap_u64_mod]; omega)
  generalize IntKind.u64.wrap n = X at *
  ((conv=>whnf);repeat(refine Xg ?_;conv=>whnf))
  rw [hb]
  refine ACalls.pre nnΓ [(0, 0)] (mem' := [(0, .row 37 2 [.agg [.bool false, .nsl]])]) rfl ⟨⟨0, _, rfl, rfl, .same (.cons (.agg' (.cons (tB _) (.cons nn .nil))) .nil)⟩, trivial⟩
   (.cons (.same _ (tB _)) (.cons (.fz' (id := 1) (off := 0) (len := 2) (ys := encU [n.natAbs % 4294967296, n.natAbs / 4294967296]) rfl rfl (Nat.le_refl 2) hs.symm (encU_nn _)) .nil)) ?_
  refine hm.go ?_ (.cons (tB _) (.cons (tU _) .nil)) (agW _ _)
  ((conv=>whnf);repeat(refine Xg ?_;conv=>whnf))
  repeat ((first | refine setK_iff.2 ?_ | refine ⟨rfl, ?_⟩); ((conv=>whnf);repeat(refine Xg ?_;conv=>whnf)))
  exact fin_pure (agW _ _) ⟨rfl, rfl, rfl⟩
set_option maxHeartbeats 16000000
set_option linter.unusedSimpArgs false
def smallW (z : Int) : AV := if -9223372036854775808 ≤ z ∧ z ≤ 9223372036854775807 then .tup [.int .i64 z, .bool true] else .tup [.int .i64 0, .bool false]
theorem smallW_nn (z : Int) : NN (smallW z) := by
 unfold smallW
 split
 ·exact .tup' (.cons nn (.cons nn .nil))
 ·exact .tup' (.cons nn (.cons nn .nil))
theorem bits_or64 {a b : Nat} (ha : a < 4294967296) (hb : b < 4294967296) : bits .or .u64 (a : Int) (IntKind.u64.wrap ((b : Int) * 2 ^ 32)) = ((b * 4294967296 + a : Nat) : Int) := by
 rw [← join64 hb ha]
 have e : IntKind.u64.wrap ((b : Int) * 2 ^ 32) = ((b * 4294967296 : Nat) : Int) := by
  rw [show ((b : Int) * 2 ^ 32) = ((b * 4294967296 : Nat) : Int) by omega]
  exact wrap_u64 (by omega) (by omega)
 rw [e]
 simp only [bits]
 rw [BitVec.or_comm]
theorem bits_or0 {b : Nat} (hb : b < 4294967296) : bits .or .u64 0 (IntKind.u64.wrap ((b : Int) * 2 ^ 0)) = (b : Int) := by
 rw [Int.pow_zero, Int.mul_one, w64n (by omega)]
 have := bits_or (a := 0) (b := b) (by omega) (by omega)
 simpa using this
theorem wSmall (z : Int) (hz : (dg 4294967296 z.natAbs).length ≤ 1000000) : PureC Tryz.prog [] 59 [encW z] (smallW z) := by
 have hB : (2 : Nat) ≤ 4294967296 := by decide
 have hl2 : (dg 4294967296 z.natAbs).length ≤ 2 ↔ z.natAbs < 4294967296 ^ 2 := dg_len_iff hB
 have hla := dg_lt hB z.natAbs
 have hva := vl_dg hB z.natAbs
 have hs : decide (z < 0) = true ↔ z < 0 := decide_eq_true_iff
 have hn := smallW_nn z
 rw [encW_eq z]
 generalize hl : dg 4294967296 z.natAbs = l at *
 generalize hbb : decide (z < 0) = b1 at *
 refine acalls_go nnΓ Tryz.func59 rfl ?_
 ((conv=>whnf);repeat(refine Xg ?_;conv=>whnf))
 rw [encU_length]
 refine bcs_mk (fun hb => ?_) (fun hb => ?_)
 ·have hb : ¬ l.length ≤ 2 := by simp at hb; omega
  have hbig : ¬ (-9223372036854775808 ≤ z ∧ z ≤ 9223372036854775807) := by
   rw [hl2] at hb
   omega
  unfold smallW at *
  rw [if_neg hbig] at *
  ((conv=>whnf);repeat(refine Xg ?_;conv=>whnf))
  exact fin_pure hn ⟨rfl, rfl, rfl⟩
 ·have hb : l.length ≤ 2 := by simp at hb; omega
  have hlt := hl2.1 hb
  ((conv=>whnf);repeat(refine Xg ?_;conv=>whnf))
  refine ALoop.at nnΓ (fun i : Nat => i ≤ l.length)
   (fun i => ⟨[(1, .ptr 0 0 0), (4, .int .u64 ((vl 4294967296 (l.take i) : Nat) : Int)), (12, .il 1 (encU l)), (13, .int .i64 l.length), (14, .int .i64 i)], [(0, .row 37 2 [.agg [.bool b1, .il 1 (encU l)]])], 1, 47⟩)
   (fun i => l.length - i) 0 [(0, 0)] (by simp)
   (conv_mk _ rfl ⟨⟨0, _, rfl, rfl, .same (.cons (agW _ _) .nil)⟩, trivial⟩
    ⟨⟨_, rfl, .ptr 0 0 0 0 rfl⟩, ⟨_, rfl, .same _ nn⟩, ⟨_, rfl, .same _ (tU _)⟩, ⟨_, rfl, .int (by rw [encU_length])⟩, ⟨_, rfl, .same _ nn⟩, trivial⟩) ?_
  intro i hi
  ((conv=>whnf);repeat(refine Xg ?_;conv=>whnf))
  refine bcs_mk (fun hb2 => ?_) (fun hb2 => ?_)
  ·have hlt2 : i < l.length := by simpa using hb2
   obtain ⟨v, hv⟩ : ∃ v, l[i]? = some v := ⟨_, List.getElem?_eq_getElem hlt2⟩
   have hvl := hla _ (List.mem_of_getElem? hv)
   have hi01 : i = 0 ∨ i = 1 := by omega
   rcases hi01 with rfl | rfl
   ·have g2 := getU hv
    have e1 : IntKind.u64.wrap (v : Int) = (v : Int) := w64n (by omega)
    have e2 : IntKind.i64.wrap (32 * ((0 : Nat) : Int)) = 0 := by decide
    have e3 := bits_or0 hvl
    ((conv=>whnf);repeat(refine Xg ?_;conv=>whnf))
    refine opt_mk g2 ?_
    ((conv=>whnf);repeat(refine Xg ?_;conv=>whnf))
    exact .mk 1 [(0, 0)] (by omega)
     (conv_mk _ rfl ⟨⟨0, _, rfl, rfl, .same (.cons (agW _ _) .nil)⟩, trivial⟩
      ⟨⟨_, rfl, .ptr 0 0 0 0 rfl⟩, ⟨_, rfl, .int (by
       rw [e1, e2]
       show bits .or .u64 0 (IntKind.u64.wrap ((v : Int) * 2 ^ 0)) = _
       rw [e3, vl_take hv, List.take_zero]
       simp [vl])⟩, ⟨_, rfl, .same _ (tU _)⟩, ⟨_, rfl, .same _ nn⟩, ⟨_, rfl, .int (by decide)⟩, trivial⟩) (by omega)
   ·obtain ⟨v0, hv0⟩ : ∃ v, l[0]? = some v := ⟨_, List.getElem?_eq_getElem (by omega)⟩
    have hvl0 := hla _ (List.mem_of_getElem? hv0)
    have g2 := getU hv
    have e1 : IntKind.u64.wrap (v : Int) = (v : Int) := w64n (by omega)
    have e2 : IntKind.i64.wrap (32 * ((1 : Nat) : Int)) = 32 := by decide
    have e3 := bits_or64 hvl0 hvl
    ((conv=>whnf);repeat(refine Xg ?_;conv=>whnf))
    refine opt_mk g2 ?_
    ((conv=>whnf);repeat(refine Xg ?_;conv=>whnf))
    exact .mk 2 [(0, 0)] (by omega)
     (conv_mk _ rfl ⟨⟨0, _, rfl, rfl, .same (.cons (agW _ _) .nil)⟩, trivial⟩
      ⟨⟨_, rfl, .ptr 0 0 0 0 rfl⟩, ⟨_, rfl, .int (by
       rw [e1, e2, vl_take hv, vl_take hv0, List.take_zero]
       show bits .or .u64 _ (IntKind.u64.wrap ((v : Int) * 2 ^ 32)) = _
       rw [show ((vl 4294967296 [] + 4294967296 ^ 0 * v0 : Nat) : Int) = (v0 : Int) by simp [vl], e3]
       simp [vl]
       omega)⟩, ⟨_, rfl, .same _ (tU _)⟩, ⟨_, rfl, .same _ nn⟩, ⟨_, rfl, .int (by decide)⟩, trivial⟩) (by omega)
  ·have hi2 : i = l.length := by simp at hb2; omega
   subst hi2
   rw [List.take_length, hva]
   generalize hm : z.natAbs = m at *
   generalize hM : (m : Int) = M at *
   cases b1 with
   | false =>
    have hz0 : z = M := by have := of_decide_eq_false hbb; omega
    obtain ⟨dd, hdd⟩ : ∃ dd, dd = decide (M < 9223372036854775808) := ⟨_, rfl⟩
    ((conv => whnf); repeat (first | (rw [← hdd]) | ((first | refine AOps.go ?_ | refine AWp.go ?_); conv => whnf)))
    refine bcs_mk (fun hc => ?_) (fun hc => ?_)
    ·have hc2 : M < 9223372036854775808 := by rw [hdd] at hc; exact of_decide_eq_true hc
     unfold smallW at *
     rw [if_pos (by omega)] at *
     ((conv=>whnf);repeat(refine Xg ?_;conv=>whnf))
     exact fin_cv (r' := .tup [.int .i64 z, .bool true]) (.tup' (.cons (.int (by rw [wrap64 ⟨by omega, by omega⟩, hz0])) (.cons (.same _ nn) .nil))) ⟨rfl, rfl, rfl⟩
    ·have hc2 : ¬ M < 9223372036854775808 := by rw [hdd] at hc; exact of_decide_eq_false hc
     unfold smallW at *
     rw [if_neg (by omega)] at *
     ((conv=>whnf);repeat(refine Xg ?_;conv=>whnf))
     exact fin_pure hn ⟨rfl, rfl, rfl⟩
   | true =>
    have hz0 : z = -M := by have := of_decide_eq_true hbb; omega
    have hm64 : M < 18446744073709551616 := by omega
    ((conv=>whnf);repeat(refine Xg ?_;conv=>whnf))
    refine bcs_mk (fun hc => ?_) (fun hc => ?_)
    ·have hc2 : M ≤ 9223372036854775808 := by simpa using hc
     unfold smallW at *
     rw [if_pos (by omega)] at *
     ((conv=>whnf);repeat(refine Xg ?_;conv=>whnf))
     exact fin_cv (r' := .tup [.int .i64 z, .bool true]) (.tup' (.cons (.int (by
      rw [wrap_u64_mod, wrap_i64_mod]
      split <;> omega)) (.cons (.same _ nn) .nil))) ⟨rfl, rfl, rfl⟩
    ·have hc2 : ¬ M ≤ 9223372036854775808 := by simpa using hc
     unfold smallW at *
     rw [if_neg (by omega)] at *
     ((conv=>whnf);repeat(refine Xg ?_;conv=>whnf))
     exact fin_pure hn ⟨rfl, rfl, rfl⟩
set_option maxHeartbeats 16000000
set_option linter.unusedSimpArgs false
theorem getD_take {l : List Nat} {i : Nat} : vl 10000 (l.take (i + 1)) = vl 10000 (l.take i) + 10000 ^ i * l.getD i 0 := by
 rcases Nat.lt_or_ge i l.length with h | h
 ·have hg : l[i]? = some l[i] := List.getElem?_eq_getElem h
  rw [vl_take hg, List.getD_eq_getElem?_getD, hg]; rfl
 ·rw [take_end_snoc h, List.getD_eq_getElem?_getD, List.getElem?_eq_none h]; simp
theorem getD_lt {l : List Nat} (h : ∀ d ∈ l, d < 10000) (i : Nat) : l.getD i 0 < 10000 := by
 rw [List.getD_eq_getElem?_getD]
 cases hg : l[i]? with
 | none => simp
 | some d => exact h _ (List.mem_of_getElem? hg)
theorem dg_of_len {s : List Nat} {n : Nat} (hs : ∀ d ∈ s, d < 10000) (hv : vl 10000 s = n) (hl : s.length = 0 ∨ 10000 ^ (s.length - 1) ≤ n) : s = dg 10000 n := by
 have h := list_of_vl hT s hs
 rw [hv] at h
 have h1 := dg_lt_pow (n := n) hT
 have h2 : s.length ≤ (dg 10000 n).length := by
  rcases hl with hl | hl
  ·omega
  ·have := Nat.lt_of_le_of_lt hl h1
   have := (Nat.pow_lt_pow_iff_right (a := 10000) (by omega)).1 this
   omega
 rw [h]
 unfold pre0
 rw [show s.length - (dg 10000 n).length = 0 by omega]
 simp
theorem rPlus (x y : Nat) (hx : (dg 10000 x).length ≤ 1000000) (hy : (dg 10000 y).length ≤ 1000000) : PureC Tryz.prog [] 100 [.il 1 (encD (dg 10000 x)), .il 1 (encD (dg 10000 y))] (.il 1 (encD (dg 10000 (x + y)))) := by
 have hla := dg_lt hT x
 have hlb := dg_lt hT y
 have hva := vl_dg hT x
 have hvb := vl_dg hT y
 have hga := dg_ge hT x
 have hgb := dg_ge hT y
 have hza : (dg 10000 x).length = 0 ∨ 0 < x := by
  rcases Nat.eq_zero_or_pos x with h | h
  ·left; rw [h, dg_zero]; rfl
  ·exact .inr h
 have hzb : (dg 10000 y).length = 0 ∨ 0 < y := by
  rcases Nat.eq_zero_or_pos y with h | h
  ·left; rw [h, dg_zero]; rfl
  ·exact .inr h
 obtain ⟨S, hS⟩ : ∃ S, S = x + y := ⟨_, rfl⟩
 rw [← hS]
 have hsum : vl 10000 (dg 10000 x) + vl 10000 (dg 10000 y) = S := by rw [hva, hvb, hS]
 generalize dg 10000 x = a at *
 generalize dg 10000 y = b at *
 have ra := fun i => rAt a i (by omega)
 have rb := fun i => rAt b i (by omega)
 refine acalls_go nnΓ Tryz.func100 rfl ?_
 ((conv=>whnf);repeat(refine Xg ?_;conv=>whnf))
 refine ALoop.ph 3 1 ?_
 refine ALoop.at nnΓ (fun p : List Nat × Nat => (∀ d ∈ p.1, d < 10000) ∧ p.2 ≤ 1 ∧ vl 10000 p.1 + 10000 ^ p.1.length * p.2 = vl 10000 (a.take p.1.length) + vl 10000 (b.take p.1.length) ∧ p.1.length ≤ 1000001 ∧ (p.1.length = 0 ∨ 10000 ^ (p.1.length - 1) ≤ S) ∧ (a.length + 1 ≤ p.1.length ∧ b.length + 1 ≤ p.1.length → p.2 = 0))
  (fun p => ⟨[(0, .il 1 (encD a)), (1, .il 1 (encD b)), (5, .sl 0 0 p.1.length), (6, .int .i64 p.2), (7, .int .i64 p.1.length)], [(0, .row 3 1 (encD p.1))], 1, 42⟩)
  (fun p => 1000002 - p.1.length) ([], 0) [(0, 0)] ⟨by simp, by simp, by simp [vl], by simp, by simp, by simp⟩
  (conv_mk _ rfl ⟨⟨0, _, rfl, rfl, .nil⟩, trivial⟩ ⟨⟨_, rfl, .same _ (tD _)⟩, ⟨_, rfl, .same _ (tD _)⟩, ⟨_, rfl, .nslk 0 0 _ rfl rfl⟩, ⟨_, rfl, .same _ nn⟩, ⟨_, rfl, .same _ nn⟩, trivial⟩) ?_
 rintro ⟨s, c⟩ ⟨h1, h2, h3, h4, h5, h6⟩
 simp only at h1 h2 h3 h4 h5 h6 ⊢
 have ra := ra s.length
 have rb := rb s.length
 have hua := getD_lt hla s.length
 have hub := getD_lt hlb s.length
 have hta := getD_take (l := a) (i := s.length)
 have htb := getD_take (l := b) (i := s.length)
 have hstep := add_step (B := 10000) (by decide) (s := s) (x := a.getD s.length 0) (y := b.getD s.length 0) rfl h3
 rw [← hta, ← htb] at hstep
 have hua0 : a.length ≤ s.length → a.getD s.length 0 = 0 := fun h => by rw [List.getD_eq_getElem?_getD, List.getElem?_eq_none h]; rfl
 have hub0 : b.length ≤ s.length → b.getD s.length 0 = 0 := fun h => by rw [List.getD_eq_getElem?_getD, List.getElem?_eq_none h]; rfl
 generalize a.getD s.length 0 = ua at *
 generalize b.getD s.length 0 = ub at *
 have e1 : IntKind.i64.wrap ((ua : Int) + (ub : Int)) = ((ua + ub : Nat) : Int) := by rw [wrap64 ⟨by omega, by omega⟩]; omega
 have e2 : IntKind.i64.wrap (((ua + ub : Nat) : Int) + (c : Int)) = ((c + (ua + ub) : Nat) : Int) := by rw [wrap64 ⟨by omega, by omega⟩]; omega
 have e3 : (((c + (ua + ub) : Nat) : Int)).tmod 10000 = (((c + (ua + ub)) % 10000 : Nat) : Int) := tmod_nat _ 10000
 have e4 : IntKind.i64.wrap ((((c + (ua + ub) : Nat) : Int)).tdiv 10000) = (((c + (ua + ub)) / 10000 : Nat) : Int) := by
  rw [show (((c + (ua + ub) : Nat) : Int)).tdiv 10000 = (((c + (ua + ub)) / 10000 : Nat) : Int) from tdiv_nat _ 10000, wrap64 ⟨by omega, by omega⟩]
 have hmd : (c + (ua + ub)) % 10000 < 10000 := Nat.mod_lt _ (by decide)
 have hga0 : a.length = 0 ∨ 10000 ^ (a.length - 1) ≤ x := by rcases hza with h | h; exact .inl h; exact .inr (hga h)
 have hgb0 : b.length = 0 ∨ 10000 ^ (b.length - 1) ≤ y := by rcases hzb with h | h; exact .inl h; exact .inr (hgb h)
 have hpow : s.length < a.length ∨ s.length < b.length ∨ 0 < c → 10000 ^ s.length ≤ S := by
  rintro (h | h | h)
  ·have : 10000 ^ s.length ≤ 10000 ^ (a.length - 1) := Nat.pow_le_pow_right (by omega) (by omega)
   omega
  ·have : 10000 ^ s.length ≤ 10000 ^ (b.length - 1) := Nat.pow_le_pow_right (by omega) (by omega)
   omega
  ·by_cases h7 : s.length < a.length
   ·have : 10000 ^ s.length ≤ 10000 ^ (a.length - 1) := Nat.pow_le_pow_right (by omega) (by omega)
    omega
   by_cases h8 : s.length < b.length
   ·have : 10000 ^ s.length ≤ 10000 ^ (b.length - 1) := Nat.pow_le_pow_right (by omega) (by omega)
    omega
   rw [List.take_of_length_le (by omega), List.take_of_length_le (by omega), show c = 1 by omega] at h3
   omega
 have hz7 : a.length ≤ s.length ∧ b.length ≤ s.length → (c + (ua + ub)) / 10000 = 0 := fun ⟨z1, z2⟩ => by have := hua0 z1; have := hub0 z2; omega
 rcases (show (¬ s.length < a.length ∧ ¬ s.length < b.length ∧ c = 0) ∨ s.length < a.length ∨ (¬ s.length < a.length ∧ s.length < b.length) ∨ (¬ s.length < a.length ∧ ¬ s.length < b.length ∧ 0 < c) by omega) with ⟨q1, q2, q3⟩ | q1 | ⟨q1, q2⟩ | ⟨q1, q2, q3⟩
 ·rw [List.take_of_length_le (by omega), List.take_of_length_le (by omega), q3] at h3
  have hsS : s = dg 10000 S := dg_of_len h1 (by omega) h5
  ((conv=>whnf);repeat(refine Xg ?_;conv=>whnf))
  rw [encD_length, decide_eq_false (show ¬ (s.length : Int) < (a.length : Int) by omega)]
  ((conv=>whnf);repeat(refine Xg ?_;conv=>whnf))
  rw [encD_length, decide_eq_false (show ¬ (s.length : Int) < (b.length : Int) by omega)]
  ((conv=>whnf);repeat(refine Xg ?_;conv=>whnf))
  rw [q3]
  ((conv=>whnf);repeat(refine Xg ?_;conv=>whnf))
  exact fin_mk (r' := .il 1 (encD (dg 10000 S))) (m' := []) (n' := 0) [] rfl trivial (.fzR rfl rfl (.eq (encD_nn _) (by rw [hsS])) (by rw [encD_length, hsS])) ⟨rfl, rfl, rfl⟩
 all_goals have hp10 := hpow (by omega)
 all_goals ((conv=>whnf);repeat(refine Xg ?_;conv=>whnf))
 all_goals rw [encD_length]
 all_goals (first | rw [decide_eq_true (show (s.length : Int) < (a.length : Int) by omega)] | rw [decide_eq_false (show ¬ (s.length : Int) < (a.length : Int) by omega)])
 all_goals ((conv=>whnf);repeat(refine Xg ?_;conv=>whnf))
 all_goals (first | (rw [encD_length, decide_eq_true (show (s.length : Int) < (b.length : Int) by omega)]; ((conv=>whnf);repeat(refine Xg ?_;conv=>whnf))) | (rw [encD_length, decide_eq_false (show ¬ (s.length : Int) < (b.length : Int) by omega)]; ((conv=>whnf);repeat(refine Xg ?_;conv=>whnf))) | skip)
 all_goals (first | (rw [decide_eq_true (show (c : Int) > 0 by omega)]; ((conv=>whnf);repeat(refine Xg ?_;conv=>whnf))) | skip)
 all_goals refine ra.go ?_ (.cons (tD _) (.cons nn .nil)) nn
 all_goals ((conv=>whnf);repeat(refine Xg ?_;conv=>whnf))
 all_goals refine rb.go ?_ (.cons (tD _) (.cons nn .nil)) nn
 all_goals ((conv=>whnf);repeat(refine Xg ?_;conv=>whnf))
 all_goals rw [e1, e2, e3]
 all_goals refine grd_mk (app_ok rfl rfl (by rw [encD_length]) (by simp; omega)) ?_
 all_goals ((conv=>whnf);repeat(refine Xg ?_;conv=>whnf))
 all_goals
  exact .mk (s ++ [(c + (ua + ub)) % 10000], (c + (ua + ub)) / 10000) [(2, 0)] ⟨all_snoc h1 hmd, by simp only; omega, by simp only [List.length_append, List.length_singleton]; exact hstep, by simp; omega, .inr (by simpa using hp10), fun h => by simp at h; exact hz7 (by omega)⟩
   (conv_mk _ rfl ⟨⟨2, _, rfl, rfl, .eq (encD_nn _) (by rw [encD_snoc]; rfl)⟩, trivial⟩ ⟨⟨_, rfl, .same _ (tD _)⟩, ⟨_, rfl, .same _ (tD _)⟩, ⟨_, rfl, .slE rfl (by simp [encD_length])⟩, ⟨_, rfl, .int e4⟩, ⟨_, rfl, .w64 (by simp) ⟨by simp; omega, by simp; omega⟩⟩, trivial⟩) (by simp; omega)
theorem rMinus (x y : Nat) (hxy : y ≤ x) (hx : (dg 10000 x).length ≤ 1000000) : PureC Tryz.prog [] 101 [.il 1 (encD (dg 10000 x)), .il 1 (encD (dg 10000 y))] (.il 1 (encD (pre0 (dg 10000 (x - y)) (dg 10000 x).length))) := by
 have hla := dg_lt hT x
 have hlb := dg_lt hT y
 have hva := vl_dg hT x
 have hvb := vl_dg hT y
 have hlen : (dg 10000 y).length ≤ (dg 10000 x).length := dg_len_mono hT hxy
 obtain ⟨S, hS⟩ : ∃ S, S = x - y := ⟨_, rfl⟩
 rw [← hS]
 have hsum : vl 10000 (dg 10000 x) = S + vl 10000 (dg 10000 y) := by rw [hva, hvb, hS]; omega
 generalize dg 10000 x = a at *
 generalize dg 10000 y = b at *
 have ra := fun i => rAt a i (by omega)
 have rb := fun i => rAt b i (by omega)
 refine acalls_go nnΓ Tryz.func101 rfl ?_
 ((conv=>whnf);repeat(refine Xg ?_;conv=>whnf))
 refine ALoop.ph 3 1 ?_
 refine ALoop.at nnΓ (fun p : List Nat × Nat => (∀ d ∈ p.1, d < 10000) ∧ p.2 ≤ 1 ∧ vl 10000 p.1 + vl 10000 (b.take p.1.length) = vl 10000 (a.take p.1.length) + 10000 ^ p.1.length * p.2 ∧ p.1.length ≤ a.length)
  (fun p => ⟨[(0, .il 1 (encD a)), (1, .il 1 (encD b)), (5, .sl 0 0 p.1.length), (6, .int .i64 p.2), (7, .int .i64 p.1.length)], [(0, .row 3 1 (encD p.1))], 1, 33⟩)
  (fun p => a.length - p.1.length) ([], 0) [(0, 0)] ⟨by simp, by simp, by simp [vl], by simp⟩
  (conv_mk _ rfl ⟨⟨0, _, rfl, rfl, .nil⟩, trivial⟩ ⟨⟨_, rfl, .same _ (tD _)⟩, ⟨_, rfl, .same _ (tD _)⟩, ⟨_, rfl, .nslk 0 0 _ rfl rfl⟩, ⟨_, rfl, .same _ nn⟩, ⟨_, rfl, .same _ nn⟩, trivial⟩) ?_
 rintro ⟨s, c⟩ ⟨h1, h2, h3, h4⟩
 simp only at h1 h2 h3 h4 ⊢
 have ra := ra s.length
 have rb := rb s.length
 have hua := getD_lt hla s.length
 have hub := getD_lt hlb s.length
 have hta := getD_take (l := a) (i := s.length)
 have htb := getD_take (l := b) (i := s.length)
 have hstep := sub_step (B := 10000) (s := s) (x := a.getD s.length 0) (y := b.getD s.length 0) rfl h3 hua hub h2
 rw [← hta, ← htb] at hstep
 have hdl := sub_digit (B := 10000) hua hub h2
 generalize a.getD s.length 0 = ua at *
 generalize b.getD s.length 0 = ub at *
 ((conv=>whnf);repeat(refine Xg ?_;conv=>whnf))
 rw [encD_length]
 refine bcs_mk (fun hb => ?_) (fun hb => ?_)
 ·have hlt : s.length < a.length := by simpa using hb
  have e1 : IntKind.i64.wrap ((ua : Int) - (ub : Int)) = (ua : Int) - ub := by rw [wrap64 ⟨by omega, by omega⟩]
  have e2 : IntKind.i64.wrap ((ua : Int) - ub - (c : Int)) = (ua : Int) - ub - c := by rw [wrap64 ⟨by omega, by omega⟩]
  ((conv=>whnf);repeat(refine Xg ?_;conv=>whnf))
  refine ra.go ?_ (.cons (tD _) (.cons nn .nil)) nn
  ((conv=>whnf);repeat(refine Xg ?_;conv=>whnf))
  refine rb.go ?_ (.cons (tD _) (.cons nn .nil)) nn
  ((conv=>whnf);repeat(refine Xg ?_;conv=>whnf))
  rw [e1, e2]
  refine bcs_mk (fun hc => ?_) (fun hc => ?_)
  ·have hc : (ua : Int) - ub - c < 0 := by simpa using hc
   rw [if_pos (by omega)] at hstep hdl
   rw [if_pos (by omega)] at hstep
   have e3 : IntKind.i64.wrap ((ua : Int) - ub - c + 10000) = ((ua + 10000 - (ub + c) : Nat) : Int) := by rw [wrap64 ⟨by omega, by omega⟩]; omega
   ((conv=>whnf);repeat(refine Xg ?_;conv=>whnf))
   rw [e3]
   refine grd_mk (app_ok rfl rfl (by rw [encD_length]) (by simp; omega)) ?_
   ((conv=>whnf);repeat(refine Xg ?_;conv=>whnf))
   exact .mk (s ++ [ua + 10000 - (ub + c)], 1) [(2, 0)] ⟨all_snoc h1 hdl, by simp, by simp only [List.length_append, List.length_singleton]; exact hstep, by simp; omega⟩
    (conv_mk _ rfl ⟨⟨2, _, rfl, rfl, .eq (encD_nn _) (by rw [encD_snoc]; rfl)⟩, trivial⟩ ⟨⟨_, rfl, .same _ (tD _)⟩, ⟨_, rfl, .same _ (tD _)⟩, ⟨_, rfl, .slE rfl (by simp [encD_length])⟩, ⟨_, rfl, .same _ nn⟩, ⟨_, rfl, .w64 (by simp) ⟨by simp; omega, by simp; omega⟩⟩, trivial⟩) (by simp; omega)
  ·have hc : ¬ (ua : Int) - ub - c < 0 := by simpa using hc
   rw [if_neg (by omega)] at hstep hdl
   rw [if_neg (by omega)] at hstep
   have e5 : (ua : Int) - ub - c = ((ua - (ub + c) : Nat) : Int) := by omega
   ((conv=>whnf);repeat(refine Xg ?_;conv=>whnf))
   refine grd_mk (app_ok rfl rfl (by rw [encD_length]) (by simp; omega)) ?_
   ((conv=>whnf);repeat(refine Xg ?_;conv=>whnf))
   exact .mk (s ++ [ua - (ub + c)], 0) [(2, 0)] ⟨all_snoc h1 hdl, by simp, by simp only [List.length_append, List.length_singleton]; exact hstep, by simp; omega⟩
    (conv_mk _ rfl ⟨⟨2, _, rfl, rfl, .eq (encD_nn _) (by rw [encD_snoc, ← e5]; rfl)⟩, trivial⟩ ⟨⟨_, rfl, .same _ (tD _)⟩, ⟨_, rfl, .same _ (tD _)⟩, ⟨_, rfl, .slE rfl (by simp [encD_length])⟩, ⟨_, rfl, .same _ nn⟩, ⟨_, rfl, .w64 (by simp) ⟨by simp; omega, by simp; omega⟩⟩, trivial⟩) (by simp; omega)
 ·have hge : s.length = a.length := by simp at hb; omega
  have hlt := vl_lt hT s h1
  rw [List.take_of_length_le (by omega), List.take_of_length_le (by omega), hsum] at h3
  have hc0 : c = 0 := by
   rcases (show c = 0 ∨ c = 1 by omega) with e | e
   ·exact e
   ·rw [e] at h3; omega
  rw [hc0] at h3
  have hsS : s = pre0 (dg 10000 S) a.length := by
   have := list_of_vl hT s h1
   rw [show vl 10000 s = S by omega, hge] at this
   exact this
  rw [← hsS]
  ((conv=>whnf);repeat(refine Xg ?_;conv=>whnf))
  exact fin_mk (r' := .il 1 (encD s)) (m' := []) (n' := 0) [] rfl trivial (.fzR rfl rfl (.same (encD_nn _)) (by rw [encD_length])) ⟨rfl, rfl, rfl⟩
theorem sgp (x y : Int) (h : decide (x < 0) = decide (y < 0)) : sg (decide (x < 0)) (x.natAbs + y.natAbs) = x + y := by
 unfold sg
 by_cases h1 : x < 0
 ·have h2 : y < 0 := by rw [decide_eq_true h1] at h; exact of_decide_eq_true h.symm
  rw [if_pos (decide_eq_true h1)]; omega
 ·have h2 : ¬ y < 0 := by rw [decide_eq_false h1] at h; exact of_decide_eq_false h.symm
  rw [if_neg (by simpa using h1)]; omega
theorem sgm (x y : Int) (h : decide (x < 0) ≠ decide (y < 0)) (hl : y.natAbs ≤ x.natAbs) : sg (decide (x < 0)) (x.natAbs - y.natAbs) = x + y := by
 unfold sg
 by_cases h1 : x < 0 <;> by_cases h2 : y < 0 <;> simp [h1, h2] at h ⊢ <;> omega
theorem vl_pre0_lt {n k : Nat} : (∀ d ∈ pre0 (dg 10000 n) k, d < 10000) ∧ vl 10000 (pre0 (dg 10000 n) k) = n := by
 refine ⟨fun d hd => ?_, by rw [vl_pre0, vl_dg hT]⟩
 rcases List.mem_append.1 hd with h | h
 ·exact dg_lt hT n d h
 ·rw [List.eq_of_mem_replicate h]; decide
theorem pre0_len' {n : Nat} {k : Nat} (h : (dg 10000 n).length ≤ k) : (pre0 (dg 10000 n) k).length = k := pre0_length h
theorem rAdd (x y : Int) (hx : (dg 10000 x.natAbs).length ≤ 1000000) (hy : (dg 10000 y.natAbs).length ≤ 1000000) : PureC Tryz.prog [] 76 [encR x, encR y] (encR (x + y)) := by
 have hp := rPlus x.natAbs y.natAbs hx hy
 have hpl := dgl_add hT x.natAbs y.natAbs
 have hcm := rCompared x.natAbs y.natAbs (by omega)
 have hnp := rNormal (decide (x < 0)) (dg 10000 (x.natAbs + y.natAbs)) _ (by omega) (dg_lt hT _) (vl_dg hT _)
 have hen := encR_nn (x + y)
 have hm1 : y.natAbs ≤ x.natAbs → _ := fun h => rMinus x.natAbs y.natAbs h hx
 have hm2 : x.natAbs ≤ y.natAbs → _ := fun h => rMinus y.natAbs x.natAbs h hy
 have hn1 := rNormal (decide (x < 0)) (pre0 (dg 10000 (x.natAbs - y.natAbs)) (dg 10000 x.natAbs).length) _ (by rw [pre0_len' (dgl_sub hT _ _)]; omega) vl_pre0_lt.1 vl_pre0_lt.2
 have hn2 := rNormal (decide (y < 0)) (pre0 (dg 10000 (y.natAbs - x.natAbs)) (dg 10000 y.natAbs).length) _ (by rw [pre0_len' (dgl_sub hT _ _)]; omega) vl_pre0_lt.1 vl_pre0_lt.2
 have s1 := sgp x y
 have s2 := sgm x y
 have s3 := sgm y x
 rw [encR_eq (x + y)] at hen ⊢
 have fin : ∀ z : Int, z = x + y → encR z = .agg [.bool (decide (x + y < 0)), .il 1 (encD (dg 10000 (x + y).natAbs))] := fun z h => by rw [h]; rfl
 rw [encR_eq x, encR_eq y]
 have hcj : cmpJ (x.natAbs : Int) (y.natAbs : Int) < 0 ↔ x.natAbs < y.natAbs := by unfold cmpJ; split <;> (try split) <;> omega
 generalize cmpJ (x.natAbs : Int) (y.natAbs : Int) = cj at *
 generalize pre0 (dg 10000 (x.natAbs - y.natAbs)) (dg 10000 x.natAbs).length = p1 at *
 generalize pre0 (dg 10000 (y.natAbs - x.natAbs)) (dg 10000 y.natAbs).length = p2 at *
 generalize dg 10000 (x.natAbs + y.natAbs) = pl at *
 generalize decide (x + y < 0) = bz at *
 generalize dg 10000 (x + y).natAbs = lz at *
 generalize dg 10000 x.natAbs = lx at *
 generalize dg 10000 y.natAbs = ly at *
 generalize decide (x < 0) = bx at *
 generalize decide (y < 0) = by_ at *
 refine acalls_go nnΓ Tryz.func76 rfl ?_
 have same : bx = by_ ∨ bx ≠ by_ := by cases bx <;> cases by_ <;> simp
 rcases same with e | e
 ·rw [fin _ (s1 e)] at hnp
  have hb : (bx == by_) = true := by rw [e]; simp
  subst e
  cases bx
  all_goals ((conv=>whnf);repeat(refine Xg ?_;conv=>whnf))
  all_goals refine hp.go ?_ (.cons (tD _) (.cons (tD _) .nil)) (tD _)
  all_goals ((conv=>whnf);repeat(refine Xg ?_;conv=>whnf))
  all_goals repeat (refine ⟨rfl, ?_⟩; ((conv=>whnf);repeat(refine Xg ?_;conv=>whnf)))
  all_goals refine hnp.go ?_ (.cons (tBo _) (.cons (tD _) .nil)) hen
  all_goals ((conv=>whnf);repeat(refine Xg ?_;conv=>whnf))
  all_goals repeat ((first | refine setK_iff.2 ?_ | refine ⟨rfl, ?_⟩); ((conv=>whnf);repeat(refine Xg ?_;conv=>whnf)))
  all_goals exact fin_pure hen ⟨rfl, rfl, rfl⟩
 ·by_cases hlt : x.natAbs < y.natAbs
  ·have hd : decide (cj < 0) = true := decide_eq_true (hcj.2 hlt)
   rw [fin _ ((s3 (Ne.symm e) (by omega)).trans (Int.add_comm _ _))] at hn2
   have hm2 := hm2 (by omega)
   cases bx <;> cases by_
   ·exact absurd rfl e
   rotate_right
   ·exact absurd rfl e
   all_goals ((conv=>whnf);repeat(refine Xg ?_;conv=>whnf))
   all_goals refine hcm.go ?_ (.cons (tD _) (.cons (tD _) .nil)) nn
   all_goals ((conv=>whnf);repeat(refine Xg ?_;conv=>whnf))
   all_goals rw [hd]
   all_goals ((conv=>whnf);repeat(refine Xg ?_;conv=>whnf))
   all_goals refine hm2.go ?_ (.cons (tD _) (.cons (tD _) .nil)) (tD _)
   all_goals ((conv=>whnf);repeat(refine Xg ?_;conv=>whnf))
   all_goals repeat (refine ⟨rfl, ?_⟩; ((conv=>whnf);repeat(refine Xg ?_;conv=>whnf)))
   all_goals refine hn2.go ?_ (.cons (tBo _) (.cons (tD _) .nil)) hen
   all_goals ((conv=>whnf);repeat(refine Xg ?_;conv=>whnf))
   all_goals repeat ((first | refine setK_iff.2 ?_ | refine ⟨rfl, ?_⟩); ((conv=>whnf);repeat(refine Xg ?_;conv=>whnf)))
   all_goals exact fin_pure hen ⟨rfl, rfl, rfl⟩
  ·have hd : decide (cj < 0) = false := decide_eq_false (fun h => hlt (hcj.1 h))
   rw [fin _ (s2 e (by omega))] at hn1
   have hm1 := hm1 (by omega)
   cases bx <;> cases by_
   ·exact absurd rfl e
   rotate_right
   ·exact absurd rfl e
   all_goals ((conv=>whnf);repeat(refine Xg ?_;conv=>whnf))
   all_goals refine hcm.go ?_ (.cons (tD _) (.cons (tD _) .nil)) nn
   all_goals ((conv=>whnf);repeat(refine Xg ?_;conv=>whnf))
   all_goals rw [hd]
   all_goals ((conv=>whnf);repeat(refine Xg ?_;conv=>whnf))
   all_goals refine hm1.go ?_ (.cons (tD _) (.cons (tD _) .nil)) (tD _)
   all_goals ((conv=>whnf);repeat(refine Xg ?_;conv=>whnf))
   all_goals repeat (refine ⟨rfl, ?_⟩; ((conv=>whnf);repeat(refine Xg ?_;conv=>whnf)))
   all_goals refine hn1.go ?_ (.cons (tBo _) (.cons (tD _) .nil)) hen
   all_goals ((conv=>whnf);repeat(refine Xg ?_;conv=>whnf))
   all_goals repeat ((first | refine setK_iff.2 ?_ | refine ⟨rfl, ?_⟩); ((conv=>whnf);repeat(refine Xg ?_;conv=>whnf)))
   all_goals exact fin_pure hen ⟨rfl, rfl, rfl⟩
set_option maxHeartbeats 16000000
set_option linter.unusedSimpArgs false
theorem prodD {x y p c : Nat} (hx : x < 10000) (hy : y < 10000) (hp : p < 10000) (hc : c < 10000) : x * y ≤ 99980001 ∧ (c + (x * y + p)) / 10000 < 10000 := by
 have h : x * y ≤ 9999 * 9999 := Nat.mul_le_mul (by omega) (by omega)
 refine ⟨by omega, ?_⟩
 rw [Nat.div_lt_iff_lt_mul (by omega)]
 omega
theorem rMul (x y : Int) (hx : (dg 10000 x.natAbs).length ≤ 1000000) (hy : (dg 10000 y.natAbs).length ≤ 1000000) : PureC Tryz.prog [] 63 [encR x, encR y] (encR (x * y)) := by
 have hla := dg_lt hT x.natAbs
 have hlb := dg_lt hT y.natAbs
 have hva := vl_dg hT x.natAbs
 have hvb := vl_dg hT y.natAbs
 have hz := sg_mul x y
 have hen := encR_nn (x * y)
 rw [encR_eq x, encR_eq y]
 generalize dg 10000 x.natAbs = a at *
 generalize dg 10000 y.natAbs = b at *
 have hno : ∀ P : List Nat, P.length = a.length + b.length → (∀ d ∈ P, d < 10000) → vl 10000 P = x.natAbs * y.natAbs → _ := fun P h1 h2 h3 => rNormal (decide (x < 0) != decide (y < 0)) P _ (by omega) h2 h3
 rw [hz] at hno
 generalize decide (x < 0) = bx at *
 generalize decide (y < 0) = by_ at *
 rw [encR_eq (x * y)] at hen hno ⊢
 generalize x.natAbs = X at *
 generalize y.natAbs = Y at *
 generalize decide (x * y < 0) = bz at *
 generalize dg 10000 (x * y).natAbs = lz at *
 refine acalls_go nnΓ Tryz.func63 rfl ?_
 ((conv=>whnf);repeat(refine Xg ?_;conv=>whnf))
 rw [encD_length, encD_length]
 have hw : IntKind.i64.wrap ((a.length : Int) + (b.length : Int)) = ((a.length + b.length : Nat) : Int) := by rw [wrap64 ⟨by omega, by omega⟩]; omega
 rw [hw]
 refine grd_mk (mk_ok rfl rfl rfl (by omega) rfl) ?_
 ((conv=>whnf);repeat(refine Xg ?_;conv=>whnf))
 refine ALoop.at nnΓ (fun p : Nat × List Nat => p.1 ≤ a.length ∧ p.2.length = a.length + b.length ∧ (∀ d ∈ p.2, d < 10000) ∧ vl 10000 p.2 = vl 10000 (a.take p.1) * Y ∧ ∀ k, p.1 + b.length ≤ k → k < a.length + b.length → p.2[k]? = some 0)
  (fun p => ⟨[(2, .ptr 0 0 0), (3, .ptr 1 0 0), (4, .ptr 2 0 0), (5, .sl 3 0 (a.length + b.length)), (6, .int .i64 p.1)], [(0, .row 43 2 [.agg [.bool bx, .il 1 (encD a)]]), (1, .row 43 2 [.agg [.bool by_, .il 1 (encD b)]]), (2, .row 43 2 [.agg [.bool false, .nsl]]), (3, .row 3 1 (encD p.2))], 4, 76⟩)
  (fun p => a.length - p.1) (0, List.replicate (a.length + b.length) 0) [(0, 0), (1, 1), (2, 2), (3, 3)] ⟨by simp, by simp, by simp, by simp only; rw [vl_zeros]; simp [vl], fun k h1 h2 => by simp only; rw [List.getElem?_replicate, if_pos h2]⟩
  (conv_mk _ rfl ⟨⟨0, _, rfl, rfl, .same (.cons (agR _ _) .nil)⟩, ⟨1, _, rfl, rfl, .same (.cons (agR _ _) .nil)⟩, ⟨2, _, rfl, rfl, .same (nN _)⟩, ⟨3, _, rfl, rfl, .eq (encD_nn _) (by rw [encD_zeros, Int.toNat_natCast])⟩, trivial⟩
   ⟨⟨_, rfl, .ptr 0 0 0 0 rfl⟩, ⟨_, rfl, .ptr 1 1 0 0 rfl⟩, ⟨_, rfl, .ptr 2 2 0 0 rfl⟩, ⟨_, rfl, .slE rfl (Int.toNat_natCast _)⟩, ⟨_, rfl, .same _ nn⟩, trivial⟩) ?_
 rintro ⟨i, P⟩ ⟨h1, h2, h3, h4, h5⟩
 simp only at h1 h2 h3 h4 h5 ⊢
 ((conv=>whnf);repeat(refine Xg ?_;conv=>whnf))
 rw [encD_length]
 refine bcs_mk (fun hb => ?_) (fun hb => ?_)
 ·have hlt : i < a.length := by simpa using hb
  obtain ⟨u, hu⟩ : ∃ u, a[i]? = some u := ⟨_, List.getElem?_eq_getElem hlt⟩
  have hul := hla _ (List.mem_of_getElem? hu)
  have g1 := getDn hu
  ((conv=>whnf);repeat(refine Xg ?_;conv=>whnf))
  refine ALoop.at nnΓ (fun p : Nat × List Nat × Nat => p.1 ≤ b.length ∧ p.2.1.length = a.length + b.length ∧ (∀ d ∈ p.2.1, d < 10000) ∧ p.2.2 < 10000 ∧
    vl 10000 p.2.1 + 10000 ^ (i + p.1) * p.2.2 = vl 10000 (a.take i) * Y + u * (10000 ^ i * vl 10000 (b.take p.1)) ∧ ∀ k, i + b.length ≤ k → k < a.length + b.length → p.2.1[k]? = some 0)
   (fun p => ⟨[(2, .ptr 0 0 0), (3, .ptr 1 0 0), (4, .ptr 2 0 0), (5, .sl 3 0 (a.length + b.length)), (6, .int .i64 i), (7, .int .i64 p.2.2), (8, .int .i64 p.1)], [(0, .row 43 2 [.agg [.bool bx, .il 1 (encD a)]]), (1, .row 43 2 [.agg [.bool by_, .il 1 (encD b)]]), (2, .row 43 2 [.agg [.bool false, .nsl]]), (3, .row 3 1 (encD p.2.1))], 4, 76⟩)
   (fun p => b.length - p.1) (0, P, 0) [(0, 0), (1, 1), (2, 2), (3, 3)] ⟨by simp, h2, h3, by simp, by simp only; rw [h4]; simp [vl], h5⟩
   (conv_mk _ rfl ⟨⟨0, _, rfl, rfl, .same (.cons (agR _ _) .nil)⟩, ⟨1, _, rfl, rfl, .same (.cons (agR _ _) .nil)⟩, ⟨2, _, rfl, rfl, .same (nN _)⟩, ⟨3, _, rfl, rfl, .same (encD_nn _)⟩, trivial⟩
    ⟨⟨_, rfl, .ptr 0 0 0 0 rfl⟩, ⟨_, rfl, .ptr 1 1 0 0 rfl⟩, ⟨_, rfl, .ptr 2 2 0 0 rfl⟩, ⟨_, rfl, .slE rfl rfl⟩, ⟨_, rfl, .same _ nn⟩, ⟨_, rfl, .same _ nn⟩, ⟨_, rfl, .same _ nn⟩, trivial⟩) ?_
  rintro ⟨j, Q, c⟩ ⟨h0, k2, k3, hc, k4, k5⟩
  simp only at h0 k2 k3 hc k4 k5 ⊢
  ((conv=>whnf);repeat(refine Xg ?_;conv=>whnf))
  rw [encD_length]
  refine bcs_mk (fun hb => ?_) (fun hb => ?_)
  ·have hlt2 : j < b.length := by simpa using hb
   obtain ⟨v, hv⟩ : ∃ v, b[j]? = some v := ⟨_, List.getElem?_eq_getElem hlt2⟩
   obtain ⟨p, hp⟩ : ∃ p, Q[i + j]? = some p := ⟨_, List.getElem?_eq_getElem (by omega)⟩
   have hvl := hlb _ (List.mem_of_getElem? hv)
   have hpl := k3 _ (List.mem_of_getElem? hp)
   have g2 := getDn hv
   have g3 := getD0 hp
   have bi := blt_i (i := i + j) (n := a.length + b.length) (by omega)
   obtain ⟨q1, q4⟩ := prodD hul hvl hpl hc
   have e3 : IntKind.i64.wrap ((u : Int) * (v : Int)) = ((u * v : Nat) : Int) := by rw [← Int.natCast_mul, wrap64 ⟨by omega, by omega⟩]
   have e4 : IntKind.i64.wrap ((i : Int) + (j : Int)) = ((i + j : Nat) : Int) := by rw [wrap64 ⟨by omega, by omega⟩]; omega
   have e6 : IntKind.i64.wrap ((p : Int) + ((u * v : Nat) : Int)) = ((u * v + p : Nat) : Int) := by rw [wrap64 ⟨by omega, by omega⟩]; omega
   have e7 : IntKind.i64.wrap (((u * v + p : Nat) : Int) + (c : Int)) = ((c + (u * v + p) : Nat) : Int) := by rw [wrap64 ⟨by omega, by omega⟩]; omega
   have e8 : (((c + (u * v + p) : Nat) : Int)).tmod 10000 = (((c + (u * v + p)) % 10000 : Nat) : Int) := tmod_nat _ 10000
   have e9 : IntKind.i64.wrap ((((c + (u * v + p) : Nat) : Int)).tdiv 10000) = (((c + (u * v + p)) / 10000 : Nat) : Int) := by
    rw [show (((c + (u * v + p) : Nat) : Int)).tdiv 10000 = (((c + (u * v + p)) / 10000 : Nat) : Int) from tdiv_nat _ 10000, wrap64 ⟨by omega, by omega⟩]
   have hms := mul_step (B := 10000) hp k4 (y := v)
   have hmd : (c + (u * v + p)) % 10000 < 10000 := Nat.mod_lt _ (by decide)
   ((conv=>whnf);repeat(refine Xg ?_;conv=>whnf))
   rw [e4]
   ((conv=>whnf);repeat(refine Xg ?_;conv=>whnf))
   repeat ((first | refine grd_mk bi ?_ | refine opt_mk g3 ?_ | refine opt_mk g1 ?_ | refine opt_mk g2 ?_ | refine setK_iff.2 ?_ | refine ⟨rfl, ?_⟩); ((conv=>whnf);repeat(refine Xg ?_;conv=>whnf)))
   rw [e3, e6, e7]
   repeat ((first | rw [e4] | refine grd_mk bi ?_ | refine opt_mk g3 ?_ | refine setK_iff.2 ?_ | refine ⟨rfl, ?_⟩); ((conv=>whnf);repeat(refine Xg ?_;conv=>whnf)))
   exact .mk (j + 1, Q.set (i + j) ((c + (u * v + p)) % 10000), (c + (u * v + p)) / 10000) [(0, 0), (1, 1), (2, 2), (3, 3)]
    ⟨by simp only; omega, by simp only [List.length_set]; exact k2, lt_set k3 hmd, q4, by
      simp only
      rw [vl_take hv, Nat.mul_add (10000 ^ i), ← Nat.mul_assoc (10000 ^ i) (10000 ^ j), ← Nat.pow_add]
      exact hms, fun k z1 z2 => by simp only; rw [set_get_ne (by omega)]; exact k5 k z1 z2⟩
    (conv_mk _ rfl ⟨⟨0, _, rfl, rfl, .same (.cons (agR _ _) .nil)⟩, ⟨1, _, rfl, rfl, .same (.cons (agR _ _) .nil)⟩, ⟨2, _, rfl, rfl, .same (nN _)⟩, ⟨3, _, rfl, rfl, .eq (encD_nn _) (by rw [e8, Int.toNat_natCast, Nat.zero_add, encD_set])⟩, trivial⟩
     ⟨⟨_, rfl, .ptr 0 0 0 0 rfl⟩, ⟨_, rfl, .ptr 1 1 0 0 rfl⟩, ⟨_, rfl, .ptr 2 2 0 0 rfl⟩, ⟨_, rfl, .slE rfl rfl⟩, ⟨_, rfl, .same _ nn⟩, ⟨_, rfl, .int e9⟩, ⟨_, rfl, .w64 (by simp) ⟨by simp only; omega, by simp only; omega⟩⟩, trivial⟩) (by simp only; omega)
  ·have hj : j = b.length := by simp at hb; omega
   subst hj
   rw [List.take_length, hvb] at k4
   have e4 : IntKind.i64.wrap ((i : Int) + (b.length : Int)) = ((i + b.length : Nat) : Int) := by rw [wrap64 ⟨by omega, by omega⟩]; omega
   have hp := k5 (i + b.length) (by omega) (by omega)
   have g3 := getD0 hp
   have bi := blt_i (i := i + b.length) (n := a.length + b.length) (by omega)
   have hvs := vl_set 10000 Q (i + b.length) c 0 hp
   ((conv=>whnf);repeat(refine Xg ?_;conv=>whnf))
   rw [encD_length, e4]
   repeat ((first | refine grd_mk bi ?_ | refine opt_mk g3 ?_ | refine setK_iff.2 ?_ | refine ⟨rfl, ?_⟩); ((conv=>whnf);repeat(refine Xg ?_;conv=>whnf)))
   exact .mk (i + 1, Q.set (i + b.length) c) [(0, 0), (1, 1), (2, 2), (3, 3)]
    ⟨by simp only; omega, by simp only [List.length_set]; exact k2, lt_set k3 hc, by
      simp only
      rw [vl_take hu, Nat.add_mul, Nat.mul_assoc (10000 ^ i), Nat.mul_left_comm (10000 ^ i), ← k4]
      omega, fun k z1 z2 => by simp only; rw [set_get_ne (by omega)]; exact k5 k (by omega) z2⟩
    (conv_mk _ rfl ⟨⟨0, _, rfl, rfl, .same (.cons (agR _ _) .nil)⟩, ⟨1, _, rfl, rfl, .same (.cons (agR _ _) .nil)⟩, ⟨2, _, rfl, rfl, .same (nN _)⟩, ⟨3, _, rfl, rfl, .eq (encD_nn _) (by rw [Int.toNat_natCast, Nat.zero_add, encD_set])⟩, trivial⟩
     ⟨⟨_, rfl, .ptr 0 0 0 0 rfl⟩, ⟨_, rfl, .ptr 1 1 0 0 rfl⟩, ⟨_, rfl, .ptr 2 2 0 0 rfl⟩, ⟨_, rfl, .slE rfl rfl⟩, ⟨_, rfl, .w64 (by simp) ⟨by simp only; omega, by simp only; omega⟩⟩, trivial⟩) (by simp only; omega)
 ·have hi : i = a.length := by simp at hb; omega
  subst hi
  rw [List.take_length, hva] at h4
  have hno := hno P h2 h3 h4
  ((conv=>whnf);repeat(refine Xg ?_;conv=>whnf))
  refine ACalls.pre nnΓ [(0, 0), (1, 1), (2, 2)] (mem' := [(0, .row 43 2 [.agg [.bool bx, .il 1 (encD a)]]), (1, .row 43 2 [.agg [.bool by_, .il 1 (encD b)]]), (2, .row 43 2 [.agg [.bool false, .nsl]])]) rfl
   ⟨⟨0, _, rfl, rfl, .same (.cons (agR _ _) .nil)⟩, ⟨1, _, rfl, rfl, .same (.cons (agR _ _) .nil)⟩, ⟨2, _, rfl, rfl, .same (nN _)⟩, trivial⟩
   (.cons (.same _ (tBo _)) (.cons (.fz' (id := 3) (ys := encD P) rfl rfl (by rw [encD_length, h2]; omega) (by rw [List.drop_zero, List.take_of_length_le (by rw [encD_length, h2]; omega)]) (encD_nn _)) .nil)) ?_
  refine hno.go ?_ (.cons (tBo _) (.cons (tD _) .nil)) hen
  ((conv=>whnf);repeat(refine Xg ?_;conv=>whnf))
  repeat ((first | refine setK_iff.2 ?_ | refine ⟨rfl, ?_⟩); ((conv=>whnf);repeat(refine Xg ?_;conv=>whnf)))
  exact fin_pure hen ⟨rfl, rfl, rfl⟩
theorem rSmall (x k : Nat) (hx : (dg 10000 x).length ≤ 1000000) (hk : k < 10000) : PureC Tryz.prog [] 123 [.il 1 (encD (dg 10000 x)), .int .i64 k] (.il 1 (encD (dg 10000 (x * k)))) := by
 have h1 := rOf (k : Int) ⟨by omega, by omega⟩
 have hk1 : (dg 10000 (k : Int).natAbs).length ≤ 1 := dg_len_le hT (by rw [Int.natAbs_natCast]; omega)
 have h2 := rMul (x : Int) (k : Int) (by rw [Int.natAbs_natCast]; exact hx) (by omega)
 have n0 : ∀ n : Nat, decide ((n : Int) < 0) = false := fun n => decide_eq_false (by omega)
 rw [encR_eq (k : Int)] at h1 h2
 rw [← Int.natCast_mul, encR_eq ((x * k : Nat) : Int), encR_eq (x : Int)] at h2
 simp only [Int.natAbs_natCast, n0] at h1 h2
 generalize dg 10000 k = lk at *
 generalize dg 10000 x = a at *
 generalize dg 10000 (x * k) = z at *
 refine acalls_go nnΓ Tryz.func123 rfl ?_
 ((conv=>whnf);repeat(refine Xg ?_;conv=>whnf))
 refine h1.go ?_ (.cons nn .nil) (agR _ _)
 ((conv=>whnf);repeat(refine Xg ?_;conv=>whnf))
 refine h2.go ?_ (.cons (agR _ _) (.cons (agR _ _) .nil)) (agR _ _)
 ((conv=>whnf);repeat(refine Xg ?_;conv=>whnf))
 repeat ((first | refine setK_iff.2 ?_ | refine ⟨rfl, ?_⟩); ((conv=>whnf);repeat(refine Xg ?_;conv=>whnf)))
 exact fin_pure (tD _) ⟨rfl, rfl, rfl⟩
theorem rDigits (l : List Nat) (i : Int) (hl : l.length ≤ 4294967296) : PureC Tryz.prog [] 137 [.il 1 (encD l), .int .i64 i] (.int .i64 (dgI l i : Nat)) := by
 refine acalls_go nnΓ Tryz.func137 rfl ?_
 by_cases h0 : i < 0
 ·((conv=>whnf);repeat(refine Xg ?_;conv=>whnf))
  rw [decide_eq_true h0]
  ((conv=>whnf);repeat(refine Xg ?_;conv=>whnf))
  exact fin_cv (r' := .int .i64 (dgI l i : Nat)) (.int (by unfold dgI; rw [if_pos h0]; rfl)) ⟨rfl, rfl, rfl⟩
 ·obtain ⟨n, rfl⟩ : ∃ n : Nat, i = n := ⟨i.toNat, by omega⟩
  rw [dgI_nat]
  ((conv=>whnf);repeat(refine Xg ?_;conv=>whnf))
  rw [decide_eq_false h0]
  ((conv=>whnf);repeat(refine Xg ?_;conv=>whnf))
  rw [encD_length]
  refine bcs_mk (fun hb => ?_) (fun hb => ?_)
  ·have hge : l.length ≤ n := by simpa using hb
   ((conv=>whnf);repeat(refine Xg ?_;conv=>whnf))
   exact fin_cv (r' := .int .i64 (l.getD n 0 : Nat)) (.int (by rw [List.getD_eq_getElem?_getD, List.getElem?_eq_none hge]; rfl)) ⟨rfl, rfl, rfl⟩
  ·have hlt : n < l.length := by simpa using hb
   obtain ⟨d, hd⟩ : ∃ d, l[n]? = some d := ⟨_, List.getElem?_eq_getElem hlt⟩
   have e1 := getDn hd
   ((conv=>whnf);repeat(refine Xg ?_;conv=>whnf))
   refine opt_mk e1 ?_
   ((conv=>whnf);repeat(refine Xg ?_;conv=>whnf))
   exact fin_cv (r' := .int .i64 (l.getD n 0 : Nat)) (.int (by rw [List.getD_eq_getElem?_getD, hd]; rfl)) ⟨rfl, rfl, rfl⟩
set_option maxHeartbeats 16000000
set_option linter.unusedSimpArgs false
theorem minN (a b : Nat) : (if (b : Int) < (a : Int) then (b : Int) else (a : Int)) = ((min a b : Nat) : Int) := by
 by_cases h : (b : Int) < a
 ·rw [if_pos h, Nat.min_eq_right (by omega)]
 ·rw [if_neg h, Nat.min_eq_left (by omega)]
theorem rDigit (r b : List Nat) (hr : ∀ d ∈ r, d < 10000) (hb : ∀ d ∈ b, d < 10000) (hrl : r.length ≤ 1000000) (hbl : b.length ≤ 1000000) (htop : 0 < dgI b ((b.length : Int) - 1)) :
  PureC Tryz.prog [] 122 [.il 1 (encD r), .il 1 (encD b)] (.tup [.int .i64 ((digB r b).1 : Nat), .int .i64 ((digB r b).2 : Nat)]) := by
 have dr := fun i => rDigits r i (by omega)
 have db := fun i => rDigits b i (by omega)
 have lr := fun i => dgI_lt (show 0 < 10000 by omega) hr i
 have lb := fun i => dgI_lt (show 0 < 10000 by omega) hb i
 have hU : dUp r b = 10000 * (10000 * dgI r (b.length : Int) + dgI r ((b.length : Int) - 1)) + dgI r ((b.length : Int) - 2) := rfl
 have hL : dLw b = 10000 * dgI b ((b.length : Int) - 1) + dgI b ((b.length : Int) - 2) := rfl
 have hR : (if r.length < b.length ∨ b.length = 0 then (0, 0) else (min 9999 (dUp r b / (dLw b + 1)), min 9999 (dUp r b / dLw b))) = digB r b := rfl
 have d1 := dr (b.length : Int)
 have d2 := dr ((b.length : Int) - 1)
 have d3 := dr ((b.length : Int) - 2)
 have d4 := db ((b.length : Int) - 1)
 have d5 := db ((b.length : Int) - 2)
 have l1 := lr (b.length : Int)
 have l2 := lr ((b.length : Int) - 1)
 have l3 := lr ((b.length : Int) - 2)
 have l4 := lb ((b.length : Int) - 1)
 have l5 := lb ((b.length : Int) - 2)
 generalize dgI r (b.length : Int) = u1 at *
 generalize dgI r ((b.length : Int) - 1) = u2 at *
 generalize dgI r ((b.length : Int) - 2) = u3 at *
 generalize dgI b ((b.length : Int) - 1) = v1 at *
 generalize dgI b ((b.length : Int) - 2) = v2 at *
 have hUl : dUp r b < 1000000000000 := by omega
 have hLl : dLw b < 100000000 := by omega
 have hL0 : 0 < dLw b := by omega
 have w1 : IntKind.i64.wrap ((b.length : Int) - 1) = (b.length : Int) - 1 := wrap64 ⟨by omega, by omega⟩
 have w2 : IntKind.i64.wrap ((b.length : Int) - 2) = (b.length : Int) - 2 := wrap64 ⟨by omega, by omega⟩
 have w3 : IntKind.i64.wrap (10000 * (u1 : Int)) = ((10000 * u1 : Nat) : Int) := by rw [wrap64 ⟨by omega, by omega⟩]; omega
 have w4 : IntKind.i64.wrap (((10000 * u1 : Nat) : Int) + (u2 : Int)) = ((10000 * u1 + u2 : Nat) : Int) := by rw [wrap64 ⟨by omega, by omega⟩]; omega
 have w5 : IntKind.i64.wrap (10000 * ((10000 * u1 + u2 : Nat) : Int)) = ((10000 * (10000 * u1 + u2) : Nat) : Int) := by rw [wrap64 ⟨by omega, by omega⟩]; omega
 have w6 : IntKind.i64.wrap (((10000 * (10000 * u1 + u2) : Nat) : Int) + (u3 : Int)) = ((dUp r b : Nat) : Int) := by rw [wrap64 ⟨by omega, by omega⟩]; omega
 have w7 : IntKind.i64.wrap (10000 * (v1 : Int)) = ((10000 * v1 : Nat) : Int) := by rw [wrap64 ⟨by omega, by omega⟩]; omega
 have w8 : IntKind.i64.wrap (((10000 * v1 : Nat) : Int) + (v2 : Int)) = ((dLw b : Nat) : Int) := by rw [wrap64 ⟨by omega, by omega⟩]; omega
 generalize dUp r b = U at *
 generalize dLw b = L at *
 have hq1 : U / (L + 1) ≤ U := Nat.div_le_self _ _
 have hq2 : U / L ≤ U := Nat.div_le_self _ _
 have w9 : IntKind.i64.wrap ((L : Int) + 1) = ((L + 1 : Nat) : Int) := by rw [wrap64 ⟨by omega, by omega⟩]; omega
 have w10 := tdiv_nat U (L + 1)
 have w11 := tdiv_nat U L
 generalize U / (L + 1) = Q1 at *
 generalize U / L = Q2 at *
 have w12 : IntKind.i64.wrap (Q1 : Int) = (Q1 : Int) := wrap64 ⟨by omega, by omega⟩
 have w13 : IntKind.i64.wrap (Q2 : Int) = (Q2 : Int) := wrap64 ⟨by omega, by omega⟩
 have z1 : (!decide (((L + 1 : Nat) : Int) = 0)) = true := by rw [decide_eq_false (by omega)]; rfl
 have z2 : (!decide ((L : Int) = 0)) = true := by rw [decide_eq_false (by omega)]; rfl
 refine acalls_go nnΓ Tryz.func122 rfl ?_
 by_cases hlt : r.length < b.length
 ·rw [if_pos (.inl hlt)] at hR
  rw [← hR]
  ((conv=>whnf);repeat(refine Xg ?_;conv=>whnf))
  rw [encD_length, encD_length, decide_eq_true (by omega)]
  ((conv=>whnf);repeat(refine Xg ?_;conv=>whnf))
  exact fin_pure (.tup' (.cons nn (.cons nn .nil))) ⟨rfl, rfl, rfl⟩
 ·by_cases hb0 : b.length = 0
  ·rw [if_pos (.inr hb0)] at hR
   rw [← hR]
   have hz : ((b.length : Int) == 0) = true := by rw [hb0]; rfl
   ((conv=>whnf);repeat(refine Xg ?_;conv=>whnf))
   rw [encD_length, encD_length, decide_eq_false (by omega)]
   ((conv=>whnf);repeat(refine Xg ?_;conv=>whnf))
   rw [hz]
   ((conv=>whnf);repeat(refine Xg ?_;conv=>whnf))
   exact fin_pure (.tup' (.cons nn (.cons nn .nil))) ⟨rfl, rfl, rfl⟩
  ·rw [if_neg (by omega)] at hR
   rw [← hR]
   have hz : ((b.length : Int) == 0) = false := by simp; intro h; exact hb0 (by rw [h]; rfl)
   ((conv=>whnf);repeat(refine Xg ?_;conv=>whnf))
   rw [encD_length, encD_length, decide_eq_false (by omega)]
   ((conv=>whnf);repeat(refine Xg ?_;conv=>whnf))
   rw [hz]
   ((conv=>whnf);repeat(refine Xg ?_;conv=>whnf))
   refine d1.go ?_ (.cons (tD _) (.cons nn .nil)) nn
   ((conv=>whnf);repeat(refine Xg ?_;conv=>whnf))
   rw [w1]
   refine d2.go ?_ (.cons (tD _) (.cons nn .nil)) nn
   ((conv=>whnf);repeat(refine Xg ?_;conv=>whnf))
   rw [w2]
   refine d3.go ?_ (.cons (tD _) (.cons nn .nil)) nn
   ((conv=>whnf);repeat(refine Xg ?_;conv=>whnf))
   rw [w1]
   refine d4.go ?_ (.cons (tD _) (.cons nn .nil)) nn
   ((conv=>whnf);repeat(refine Xg ?_;conv=>whnf))
   rw [w2]
   refine d5.go ?_ (.cons (tD _) (.cons nn .nil)) nn
   ((conv=>whnf);repeat(refine Xg ?_;conv=>whnf))
   rw [w3, w4, w5, w6, w7, w8, w9, z1]
   ((conv=>whnf);repeat(refine Xg ?_;conv=>whnf))
   rw [w10, w12]
   repeat ((first | refine setK_iff.2 ?_ | refine ⟨rfl, ?_⟩); ((conv=>whnf);repeat(refine Xg ?_;conv=>whnf)))
   rw [z2]
   ((conv=>whnf);repeat(refine Xg ?_;conv=>whnf))
   rw [w11, w13]
   repeat ((first | refine setK_iff.2 ?_ | refine ⟨rfl, ?_⟩); ((conv=>whnf);repeat(refine Xg ?_;conv=>whnf)))
   exact fin_cv (r' := .tup [.int .i64 ((min 9999 Q1 : Nat) : Int), .int .i64 ((min 9999 Q2 : Nat) : Int)]) (.tup' (.cons (.int (minN 9999 Q1)) (.cons (.int (minN 9999 Q2)) .nil))) ⟨rfl, rfl, rfl⟩
set_option maxHeartbeats 16000000
set_option linter.unusedSimpArgs false
theorem rNormF (l : List Nat) (n : Nat) (hl : l.length ≤ 4294967296) (hd : ∀ d ∈ l, d < 10000) (hv : vl 10000 l = n) : PureC Tryz.prog [] 77 [.bool false, .il 1 (encD l)] (.agg [.bool false, .il 1 (encD (dg 10000 n))]) := rNormal false l n hl hd hv
theorem first_eq (la lb : Nat) (h : 1 ≤ lb) : (if (if (la : Int) - lb + 1 < la then (la : Int) - lb + 1 else la) > (0 : Int) then (if (la : Int) - lb + 1 < la then (la : Int) - lb + 1 else la) else 0) = ((la + 1 - lb : Nat) : Int) := by
 split <;> split <;> omega
theorem slF_ok {j n : Nat} (h : j ≤ n) : (Nat.ble ((j : Nat) : Int).toNat n && (Nat.ble n n && Nat.ble n n)) = true := by
 rw [Int.toNat_natCast, Nat.ble_eq_true_of_le h, Nat.ble_eq_true_of_le (Nat.le_refl _)]; rfl
theorem take_drop_n {l : List Nat} {f : Nat} : List.take (l.length - ((f : Nat) : Int).toNat) (List.drop ((f : Nat) : Int).toNat (encD l)) = encD (l.drop f) := by
 rw [Int.toNat_natCast, encD_drop, List.take_of_length_le (by rw [encD_length, List.length_drop]; omega)]
theorem encD_top0_set {i d : Nat} {R : List Nat} : (encD (top0 (i + 1) R)).set (0 + ((i : Nat) : Int).toNat) (.int .i64 (d : Int)) = encD (top0 i (d :: R)) := by
 rw [Int.toNat_natCast, Nat.zero_add, encD_set, top0_set]
theorem rDivided (x y : Nat) (hy : 0 < y) (hx : (dg 10000 x).length ≤ 900000) (hyl : (dg 10000 y).length ≤ 900000) :
  ACalls Tryz.prog [] 102 [.il 1 (encD (dg 10000 x)), .il 1 (encD (dg 10000 y))] [] 0 fun r m n =>
   ∃ Q : List Nat, r = .tup [.il 1 (encD Q), .il 1 (encD (dg 10000 (x % y)))] ∧ m = [] ∧ n = 0 ∧ Q.length = (dg 10000 x).length ∧ (∀ d ∈ Q, d < 10000) ∧ vl 10000 Q = x / y := by
 have hla := dg_lt hT x
 have hlb := dg_lt hT y
 have hva := vl_dg hT x
 have hb1 : 1 ≤ (dg 10000 y).length := by rw [dg_pos hT hy]; simp
 have htop := dg_top hT hy
 have hyb := dg_ge hT y hy
 have hxy : (dg 10000 x).length < (dg 10000 y).length → x < y := dg_len_lt hT
 have rdig : ∀ r : Nat, r < y * 10000 → _ := fun r h => rDigit (dg 10000 r) (dg 10000 y) (dg_lt hT r) hlb (by
  have := dg_len_mono hT (Nat.le_of_lt h)
  have := dgl_mul hT y 10000
  have : (dg 10000 10000).length ≤ 2 := dg_len_le hT (by decide)
  omega) (by omega) htop
 have rsm : ∀ k : Nat, k < 10000 → _ := fun k h => rSmall y k (by omega) h
 have rcm : ∀ k r : Nat, k < 10000 → _ := fun k r h => rCompared (y * k) r (by
  have := dgl_mul hT y k
  have : (dg 10000 k).length ≤ 1 := dgl_small hT h
  omega)
 have dok : ∀ r : Nat, r < y * 10000 → _ := fun r h => digB_ok hy h
 have hrl : ∀ r : Nat, r < y * 10000 → (dg 10000 r).length ≤ 900002 := fun r h => by
  have := dg_len_mono hT (Nat.le_of_lt h)
  have := dgl_mul hT y 10000
  have : (dg 10000 10000).length ≤ 2 := dg_len_le hT (by decide)
  omega
 have rmi : ∀ r k : Nat, r < y * 10000 → y * k ≤ r → _ := fun r k h h2 => rMinus r (y * k) h2 (by have := hrl r h; omega)
 generalize dg 10000 x = a at *
 generalize hbd : dg 10000 y = b at *
 obtain ⟨f, hf⟩ : ∃ f, f = a.length + 1 - b.length := ⟨_, rfl⟩
 have hfl : f ≤ a.length := by omega
 have hR0 : vl 10000 (a.drop f) < y := by
  rcases Nat.eq_zero_or_pos f with e | e
  ·rw [e, List.drop_zero, hva]; exact hxy (by omega)
  ·have h1 := vl_lt hT (a.drop f) fun d h => hla d (List.mem_of_mem_drop h)
   rw [List.length_drop, show a.length - f = b.length - 1 by omega] at h1
   omega
 have hdrop : ∀ d ∈ a.drop f, d < 10000 := fun d h => hla d (List.mem_of_mem_drop h)
 have hno0 := rNormF (a.drop f) _ (by rw [List.length_drop]; omega) hdrop rfl
 refine acalls_go nnΓ Tryz.func102 rfl ?_
 ((conv=>whnf);repeat(refine Xg ?_;conv=>whnf))
 rw [encD_length]
 refine grd_mk (mk_ok rfl rfl rfl (by omega) rfl) ?_
 ((conv=>whnf);repeat(refine Xg ?_;conv=>whnf))
 rw [encD_length, encD_length]
 have w1 : IntKind.i64.wrap ((a.length : Int) - b.length) = (a.length : Int) - b.length := wrap64 ⟨by omega, by omega⟩
 have w2 : IntKind.i64.wrap ((a.length : Int) - b.length + 1) = (a.length : Int) - b.length + 1 := wrap64 ⟨by omega, by omega⟩
 rw [w1, w2]
 have hfe := first_eq a.length b.length hb1
 rw [← hf] at hfe
 rw [hfe, decide_eq_true (show (0 : Int) ≤ (f : Int) by omega)]
 ((conv=>whnf);repeat(refine Xg ?_;conv=>whnf))
 refine grd_mk (slF_ok hfl) ?_
 ((conv=>whnf);repeat(refine Xg ?_;conv=>whnf))
 rw [take_drop_n]
 refine hno0.go ?_ (.cons (tBo _) (.cons (tD _) .nil)) (agR _ _)
 ((conv=>whnf);repeat(refine Xg ?_;conv=>whnf))
 repeat ((first | refine setK_iff.2 ?_ | refine ⟨rfl, ?_⟩); ((conv=>whnf);repeat(refine Xg ?_;conv=>whnf)))
 refine ALoop.at nnΓ (fun p : Nat × List Nat × Nat => p.1 ≤ f ∧ p.2.1.length = a.length - p.1 ∧ (∀ d ∈ p.2.1, d < 10000) ∧ p.2.2 < y ∧ vl 10000 (a.drop p.1) = vl 10000 p.2.1 * y + p.2.2)
  (fun p => ⟨[(0, .il 1 (encD a)), (1, .il 1 (encD b)), (6, .sl 0 0 a.length), (9, .il 1 (encD (dg 10000 p.2.2))), (10, .int .i64 ((p.1 : Int) - 1))], [(0, .row 3 1 (encD (top0 p.1 p.2.1)))], 1, 88⟩)
  (fun p => p.1) (f, List.replicate (a.length - f) 0, vl 10000 (a.drop f)) [(0, 0)] ⟨Nat.le_refl _, by simp, by intro d hd; simp only at hd; rw [List.eq_of_mem_replicate hd]; decide, hR0, by simp only; rw [vl_zeros]; simp⟩
  (conv_mk _ rfl ⟨⟨0, _, rfl, rfl, .eq (encD_nn _) (by
    rw [show encD (top0 f (List.replicate (a.length - f) 0)) = encD (List.replicate a.length 0) by
     unfold top0; rw [List.replicate_append_replicate]; congr 2; omega]
    rw [encD_zeros, Int.toNat_natCast])⟩, trivial⟩
   ⟨⟨_, rfl, .same _ (tD _)⟩, ⟨_, rfl, .same _ (tD _)⟩, ⟨_, rfl, .slE rfl (Int.toNat_natCast _)⟩, ⟨_, rfl, .same _ (tD _)⟩, ⟨_, rfl, .w64 rfl ⟨by simp only; omega, by simp only; omega⟩⟩, trivial⟩) ?_
 clear hR0 hno0
 rintro ⟨m, R, r⟩ ⟨h1, h2, h3, h4, h5⟩
 simp only at h1 h2 h3 h4 h5 ⊢
 ((conv=>whnf);repeat(refine Xg ?_;conv=>whnf))
 refine bcs_mk (fun hb => ?_) (fun hb => ?_)
 ·have hm1 : 0 < m := by simp at hb; omega
  obtain ⟨i, rfl⟩ : ∃ i, m = i + 1 := ⟨m - 1, by omega⟩
  rw [show (((i + 1 : Nat) : Int) - 1) = (i : Int) by omega]
  obtain ⟨u, hu⟩ : ∃ u, a[i]? = some u := ⟨_, List.getElem?_eq_getElem (by omega)⟩
  have hul := hla _ (List.mem_of_getElem? hu)
  have g1 := getDn hu
  obtain ⟨s1, s2, s3⟩ := long_step hy h5 h4 hul
  rw [← vl_cons_drop hu] at s1
  have hrlen : (dg 10000 r).length ≤ 900002 := hrl r (by omega)
  have hdr : ∀ d ∈ u :: dg 10000 r, d < 10000 := fun d hd => by
   rcases List.mem_cons.1 hd with h | h
   ·rw [h]; exact hul
   ·exact dg_lt hT r d h
  have hno1 := rNormF (u :: dg 10000 r) (u + 10000 * r) (by simp; omega) hdr (by rw [vl, vl_dg hT])
  obtain ⟨r1, hr1⟩ : ∃ r1, r1 = u + 10000 * r := ⟨_, rfl⟩
  rw [← hr1] at hno1 s1 s2 s3
  have rdig := rdig r1 s3
  obtain ⟨dk1, dk2, dk3⟩ := dok r1 s3
  generalize (digB (dg 10000 r1) b).1 = lo0 at *
  generalize (digB (dg 10000 r1) b).2 = hi0 at *
  have hrl1 := hrl r1 s3
  have rcm := fun k => rcm k r1
  have rmi := fun k => rmi r1 k s3
  have hq9 : r1 / y < 10000 := by omega
  have hcons : encD (u :: dg 10000 r) = [AV.int .i64 (u : Int)] ++ encD (dg 10000 r) := rfl
  ((conv=>whnf);repeat(refine Xg ?_;conv=>whnf))
  refine opt_mk g1 ?_
  ((conv=>whnf);repeat(refine Xg ?_;conv=>whnf))
  refine grd_mk (app_ok rfl rfl rfl (by rw [encD_length]; omega)) ?_
  ((conv=>whnf);repeat(refine Xg ?_;conv=>whnf))
  refine ACalls.pre nnΓ [(0, 0)] (mem' := [(0, .row 3 1 (encD (top0 (i + 1) R)))]) rfl ⟨⟨0, _, rfl, rfl, .same (encD_nn _)⟩, trivial⟩
   (.cons (.same _ (tBo _)) (.cons (.fz' (id := 2) (off := 0) (ys := encD (u :: dg 10000 r)) rfl rfl (by simp [encD_length]; omega) (by
    rw [List.drop_zero, List.take_of_length_le (by simp [encD_length]; omega)]; rfl) (encD_nn _)) .nil)) ?_
  refine hno1.go ?_ (.cons (tBo _) (.cons (tD _) .nil)) (agR _ _)
  ((conv=>whnf);repeat(refine Xg ?_;conv=>whnf))
  repeat ((first | refine setK_iff.2 ?_ | refine ⟨rfl, ?_⟩); ((conv=>whnf);repeat(refine Xg ?_;conv=>whnf)))
  refine rdig.go ?_ (.cons (tD _) (.cons (tD _) .nil)) nn
  ((conv=>whnf);repeat(refine Xg ?_;conv=>whnf))
  refine ALoop.at nnΓ (fun p : Nat × Nat => p.1 ≤ r1 / y ∧ r1 / y ≤ p.2 ∧ p.2 ≤ 9999)
   (fun p => ⟨[(0, .il 1 (encD a)), (1, .il 1 (encD b)), (6, .sl 0 0 a.length), (9, .il 1 (encD (dg 10000 r1))), (10, .int .i64 i), (12, .int .i64 p.1), (13, .int .i64 p.2)], [(0, .row 3 1 (encD (top0 (i + 1) R)))], 1, 88⟩)
   (fun p => p.2 - p.1) (lo0, hi0) [(0, 0)] ⟨dk1, dk2, dk3⟩
   (conv_mk _ rfl ⟨⟨0, _, rfl, rfl, .same (encD_nn _)⟩, trivial⟩
    ⟨⟨_, rfl, .same _ (tD _)⟩, ⟨_, rfl, .same _ (tD _)⟩, ⟨_, rfl, .slE rfl rfl⟩, ⟨_, rfl, .same _ (tD _)⟩, ⟨_, rfl, .same _ nn⟩, ⟨_, rfl, .same _ nn⟩, ⟨_, rfl, .same _ nn⟩, trivial⟩) ?_
  clear dk1 dk2 dk3
  rintro ⟨lo, hi⟩ ⟨k1, k2, k3⟩
  simp only at k1 k2 k3 ⊢
  ((conv=>whnf);repeat(refine Xg ?_;conv=>whnf))
  refine bcs_mk (fun hc => ?_) (fun hc => ?_)
  ·have hlh : lo < hi := by simpa using hc
   have w3 : IntKind.i64.wrap ((lo : Int) + (hi : Int)) = ((lo + hi : Nat) : Int) := by rw [wrap64 ⟨by omega, by omega⟩]; omega
   have w4 : IntKind.i64.wrap (((lo + hi : Nat) : Int) + 1) = ((lo + hi + 1 : Nat) : Int) := by rw [wrap64 ⟨by omega, by omega⟩]; omega
   have w5 : IntKind.i64.wrap ((((lo + hi + 1 : Nat) : Int)).tdiv 2) = (((lo + hi + 1) / 2 : Nat) : Int) := by
    rw [show (((lo + hi + 1 : Nat) : Int)).tdiv 2 = (((lo + hi + 1) / 2 : Nat) : Int) from tdiv_nat _ 2, wrap64 ⟨by omega, by omega⟩]
   have hmid : (lo + hi + 1) / 2 < 10000 ∧ lo < (lo + hi + 1) / 2 ∧ (lo + hi + 1) / 2 ≤ hi := by omega
   obtain ⟨hm1, hm2, hm3⟩ := hmid
   ((conv=>whnf);repeat(refine Xg ?_;conv=>whnf))
   rw [w3, w4, w5]
   generalize (lo + hi + 1) / 2 = mid at *
   have hmy : mid ≤ r1 / y ↔ y * mid ≤ r1 := by rw [Nat.le_div_iff_mul_le hy, Nat.mul_comm]
   have hcj : cmpJ ((y * mid : Nat) : Int) (r1 : Int) ≤ 0 ↔ y * mid ≤ r1 := by unfold cmpJ; split <;> (try split) <;> omega
   have rcm := rcm mid hm1
   have rsm := rsm mid hm1
   generalize cmpJ ((y * mid : Nat) : Int) (r1 : Int) = cj at *
   generalize dg 10000 (y * mid) = ym at *
   refine rsm.go ?_ (.cons (tD _) (.cons nn .nil)) (tD _)
   ((conv=>whnf);repeat(refine Xg ?_;conv=>whnf))
   refine rcm.go ?_ (.cons (tD _) (.cons (tD _) .nil)) nn
   ((conv=>whnf);repeat(refine Xg ?_;conv=>whnf))
   refine bcs_mk (fun hc => ?_) (fun hc => ?_)
   ·have hc := hmy.2 (hcj.1 (of_decide_eq_true hc))
    ((conv=>whnf);repeat(refine Xg ?_;conv=>whnf))
    exact .mk (mid, hi) [(0, 0)] ⟨hc, k2, k3⟩
     (conv_mk _ rfl ⟨⟨0, _, rfl, rfl, .same (encD_nn _)⟩, trivial⟩
      ⟨⟨_, rfl, .same _ (tD _)⟩, ⟨_, rfl, .same _ (tD _)⟩, ⟨_, rfl, .slE rfl rfl⟩, ⟨_, rfl, .same _ (tD _)⟩, ⟨_, rfl, .same _ nn⟩, ⟨_, rfl, .same _ nn⟩, ⟨_, rfl, .same _ nn⟩, trivial⟩) (by simp only; omega)
   ·have hc : ¬ mid ≤ r1 / y := fun h => of_decide_eq_false hc (hcj.2 (hmy.1 h))
    ((conv=>whnf);repeat(refine Xg ?_;conv=>whnf))
    exact .mk (lo, mid - 1) [(0, 0)] ⟨k1, by simp only; omega, by simp only; omega⟩
     (conv_mk _ rfl ⟨⟨0, _, rfl, rfl, .same (encD_nn _)⟩, trivial⟩
      ⟨⟨_, rfl, .same _ (tD _)⟩, ⟨_, rfl, .same _ (tD _)⟩, ⟨_, rfl, .slE rfl rfl⟩, ⟨_, rfl, .same _ (tD _)⟩, ⟨_, rfl, .same _ nn⟩, ⟨_, rfl, .same _ nn⟩, ⟨_, rfl, .w64 (by simp only; omega) ⟨by simp only; omega, by simp only; omega⟩⟩, trivial⟩) (by simp only; omega)
  ·have hlh : lo = r1 / y := by simp at hc; omega
   rw [hlh]
   have rsm := rsm (r1 / y) hq9
   have hyq : y * (r1 / y) ≤ r1 := Nat.mul_div_le _ _
   have rmi := rmi (r1 / y) hyq
   have hmd : r1 - y * (r1 / y) = r1 % y := by have := Nat.div_add_mod r1 y; omega
   rw [hmd] at rmi
   have hno2 := rNormF (pre0 (dg 10000 (r1 % y)) (dg 10000 r1).length) _ (by rw [pre0_len' (dg_len_mono hT (Nat.mod_le _ _))]; omega) vl_pre0_lt.1 vl_pre0_lt.2
   have g3 : (encD (top0 (i + 1) R))[0 + ((i : Nat) : Int).toNat]? = some (.int .i64 0) := getD0 top0_get
   have bi := blt_i (i := i) (n := a.length) (by omega)
   generalize dg 10000 (y * (r1 / y)) = ym at *
   generalize pre0 (dg 10000 (r1 % y)) (dg 10000 r1).length = pq at *
   ((conv=>whnf);repeat(refine Xg ?_;conv=>whnf))
   refine rsm.go ?_ (.cons (tD _) (.cons nn .nil)) (tD _)
   ((conv=>whnf);repeat(refine Xg ?_;conv=>whnf))
   refine rmi.go ?_ (.cons (tD _) (.cons (tD _) .nil)) (tD _)
   ((conv=>whnf);repeat(refine Xg ?_;conv=>whnf))
   refine hno2.go ?_ (.cons (tBo _) (.cons (tD _) .nil)) (agR _ _)
   ((conv=>whnf);repeat(refine Xg ?_;conv=>whnf))
   repeat ((first | refine grd_mk bi ?_ | refine opt_mk g3 ?_ | refine setK_iff.2 ?_ | refine ⟨rfl, ?_⟩); ((conv=>whnf);repeat(refine Xg ?_;conv=>whnf)))
   exact .mk (i, (r1 / y) :: R, r1 % y) [(0, 0)] ⟨by simp only; omega, by simp; omega, fun d hd => by
     rcases List.mem_cons.1 hd with h | h
     ·rw [h]; exact hq9
     ·exact h3 d h, s2, by simp only [vl]; exact s1⟩
    (conv_mk _ rfl ⟨⟨0, _, rfl, rfl, .eq (encD_nn _) encD_top0_set⟩, trivial⟩
     ⟨⟨_, rfl, .same _ (tD _)⟩, ⟨_, rfl, .same _ (tD _)⟩, ⟨_, rfl, .slE rfl rfl⟩, ⟨_, rfl, .same _ (tD _)⟩, ⟨_, rfl, .w64 rfl ⟨by simp only; omega, by simp only; omega⟩⟩, trivial⟩) (by simp only; omega)
 ·have hm0 : m = 0 := by simp at hb; omega
  subst hm0
  rw [List.drop_zero, hva] at h5
  have e1 : x / y = vl 10000 R := by rw [h5, Nat.add_comm, Nat.add_mul_div_right _ _ hy, Nat.div_eq_of_lt h4, Nat.zero_add]
  have e2 : x % y = r := by rw [h5, Nat.add_comm, Nat.add_mul_mod_self_right, Nat.mod_eq_of_lt h4]
  ((conv=>whnf);repeat(refine Xg ?_;conv=>whnf))
  exact fin_mk (r' := .tup [.il 1 (encD R), .il 1 (encD (dg 10000 r))]) (m' := []) (n' := 0) [] rfl trivial (.tup' (.cons (.fzR rfl rfl (.eq (encD_nn _) (by unfold top0; simp)) (by rw [encD_length]; omega)) (.cons (.same _ (tD _)) .nil))) ⟨R, by rw [e2], rfl, rfl, by omega, h3, e1.symm⟩
set_option maxHeartbeats 16000000
set_option linter.unusedSimpArgs false
theorem sg_add (b : Bool) (m n : Nat) : sg b m + sg b n = sg b (m + n) := by unfold sg; split <;> omega
theorem rDiv (x y : Int) (hy0 : y ≠ 0) (hx : (dg 10000 x.natAbs).length ≤ 900000) (hy : (dg 10000 y.natAbs).length ≤ 900000) : PureC Tryz.prog [] 80 [encR x, encR y] (.tup [encR (x / y), encR (x % y)]) := by
 have hyp : 0 < y.natAbs := Int.natAbs_pos.2 hy0
 have hd := rDivided x.natAbs y.natAbs hyp hx hy
 obtain ⟨hs1, hs2⟩ := div_signs (x := x) hy0
 have hm := Nat.mod_lt x.natAbs hyp
 have hlq := dgl_div hT x.natAbs y.natAbs
 have hlr := dgl_mod hT x.natAbs y.natAbs
 have hno : ∀ Q : List Nat, Q.length = (dg 10000 x.natAbs).length → (∀ d ∈ Q, d < 10000) → vl 10000 Q = x.natAbs / y.natAbs → _ := fun Q h1 h2 h3 => rNormal (decide (x < 0) != decide (y < 0)) Q _ (by omega) h2 h3
 have hnr := rNormF (dg 10000 (x.natAbs % y.natAbs)) _ (by omega) (dg_lt hT _) (vl_dg hT _)
 have h1 := rNormal (decide (x < 0) != decide (y < 0)) [1] 1 (by simp) (by simp) (by simp [vl])
 have ha := rAdd (sg (decide (x < 0) != decide (y < 0)) (x.natAbs / y.natAbs)) (sg (decide (x < 0) != decide (y < 0)) 1) (by rw [sg_abs]; omega) (by rw [sg_abs]; have : (dg 10000 1).length ≤ 1 := dgl_small hT (by decide); omega)
 rw [sg_add] at ha
 have hmi := rMinus y.natAbs (x.natAbs % y.natAbs) (by omega) (by omega)
 have hnm := rNormF (pre0 (dg 10000 (y.natAbs - x.natAbs % y.natAbs)) (dg 10000 y.natAbs).length) _ (by rw [pre0_len' (dgl_sub hT _ _)]; omega) vl_pre0_lt.1 vl_pre0_lt.2
 have hrl : decide (0 < (dg 10000 (x.natAbs % y.natAbs)).length) = decide (0 < x.natAbs % y.natAbs) := dg_len_zero hT
 have e0 : ∀ n : Nat, encR (n : Int) = .agg [.bool false, .il 1 (encD (dg 10000 n))] := fun n => by rw [encR_eq, decide_eq_false (by omega), Int.natAbs_natCast]
 obtain ⟨b1, l1, q1⟩ : ∃ b l, encR (sg (decide (x < 0) != decide (y < 0)) (x.natAbs / y.natAbs)) = .agg [.bool b, .il 1 (encD l)] := ⟨_, _, rfl⟩
 obtain ⟨b2, l2, q2⟩ : ∃ b l, encR (sg (decide (x < 0) != decide (y < 0)) 1) = .agg [.bool b, .il 1 (encD l)] := ⟨_, _, rfl⟩
 obtain ⟨b3, l3, q3⟩ : ∃ b l, encR (sg (decide (x < 0) != decide (y < 0)) (x.natAbs / y.natAbs + 1)) = .agg [.bool b, .il 1 (encD l)] := ⟨_, _, rfl⟩
 rw [q1] at hno ha
 rw [q2] at h1 ha
 rw [q3] at ha
 have fA : decide (x < 0) = true ∧ 0 < x.natAbs % y.natAbs → AV.tup [encR (x / y), encR (x % y)] = .tup [.agg [.bool b3, .il 1 (encD l3)], .agg [.bool false, .il 1 (encD (dg 10000 (y.natAbs - x.natAbs % y.natAbs)))]] := fun h => by
  rw [(hs1 h).1, (hs1 h).2, q3, e0]
 have fB : ¬ (decide (x < 0) = true ∧ 0 < x.natAbs % y.natAbs) → AV.tup [encR (x / y), encR (x % y)] = .tup [.agg [.bool b1, .il 1 (encD l1)], .agg [.bool false, .il 1 (encD (dg 10000 (x.natAbs % y.natAbs)))]] := fun h => by
  rw [(hs2 h).1, (hs2 h).2, q1, e0]
 generalize AV.tup [encR (x / y), encR (x % y)] = RES at *
 rw [encR_eq x, encR_eq y]
 clear hs1 hs2 q1 q2 q3 hlq hlr e0
 generalize pre0 (dg 10000 (y.natAbs - x.natAbs % y.natAbs)) (dg 10000 y.natAbs).length = pq at *
 generalize dg 10000 (y.natAbs - x.natAbs % y.natAbs) = lr1 at *
 generalize dg 10000 (x.natAbs % y.natAbs) = lr at *
 generalize dg 10000 x.natAbs = la at *
 generalize dg 10000 y.natAbs = lb at *
 generalize decide (x < 0) = bx at *
 generalize decide (y < 0) = by_ at *
 have hlen : (encD lr).length = lr.length := encD_length lr
 refine acalls_go nnΓ Tryz.func80 rfl ?_
 ((conv=>whnf);repeat(refine Xg ?_;conv=>whnf))
 repeat (refine ⟨rfl, ?_⟩; ((conv=>whnf);repeat(refine Xg ?_;conv=>whnf)))
 refine ACalls.go0 hd ?_ (.cons (tD _) (.cons (tD _) .nil))
 rintro r m n ⟨Q, rfl, rfl, rfl, z1, z2, z3⟩
 refine ⟨_, .same _ (.tup' (.cons (tD _) (.cons (tD _) .nil))), ?_⟩
 have hno := hno Q z1 z2 z3
 ((conv=>whnf);repeat(refine Xg ?_;conv=>whnf))
 repeat ((first | refine setK_iff.2 ?_ | refine ⟨rfl, ?_⟩); ((conv=>whnf);repeat(refine Xg ?_;conv=>whnf)))
 refine hno.go ?_ (.cons (tBo _) (.cons (tD _) .nil)) (agR _ _)
 ((conv=>whnf);repeat(refine Xg ?_;conv=>whnf))
 repeat ((first | refine setK_iff.2 ?_ | refine ⟨rfl, ?_⟩); ((conv=>whnf);repeat(refine Xg ?_;conv=>whnf)))
 refine hnr.go ?_ (.cons (tBo _) (.cons (tD _) .nil)) (agR _ _)
 cases bx with
 | false =>
  rw [fB (by simp)]
  ((conv=>whnf);repeat(refine Xg ?_;conv=>whnf))
  repeat ((first | refine setK_iff.2 ?_ | refine ⟨rfl, ?_⟩); ((conv=>whnf);repeat(refine Xg ?_;conv=>whnf)))
  exact fin_pure (.tup' (.cons (agR _ _) (.cons (agR _ _) .nil))) ⟨rfl, rfl, rfl⟩
 | true =>
  cases lr with
  | nil =>
   have h0 : ¬ 0 < x.natAbs % y.natAbs := by simpa using hrl
   rw [fB (fun h => h0 h.2)]
   ((conv=>whnf);repeat(refine Xg ?_;conv=>whnf))
   repeat ((first | refine setK_iff.2 ?_ | refine ⟨rfl, ?_⟩); ((conv=>whnf);repeat(refine Xg ?_;conv=>whnf)))
   exact fin_pure (.tup' (.cons (agR _ _) (.cons (agR _ _) .nil))) ⟨rfl, rfl, rfl⟩
  | cons r0 rs =>
   have h0 : 0 < x.natAbs % y.natAbs := by simpa using hrl
   rw [fA ⟨rfl, h0⟩]
   ((conv=>whnf);repeat(refine Xg ?_;conv=>whnf))
   repeat ((first | refine setK_iff.2 ?_ | refine ⟨rfl, ?_⟩); ((conv=>whnf);repeat(refine Xg ?_;conv=>whnf)))
   refine bcs_mk (fun h => ?_) (fun h => absurd h (by simp [encD]))
   ((conv=>whnf);repeat(refine Xg ?_;conv=>whnf))
   refine ACalls.pre nnΓ [(0, 0), (1, 1), (2, 2), (3, 3), (4, 4), (5, 5)] (mem' := [(0, .row 43 2 [.agg [.bool true, .il 1 (encD la)]]), (1, .row 43 2 [.agg [.bool by_, .il 1 (encD lb)]]), (2, .row 43 2 [.agg [.bool false, .nsl]]), (3, .row 43 2 [.agg [.bool false, .nsl]]), (4, .row 43 2 [.agg [.bool b1, .il 1 (encD l1)]]), (5, .row 43 2 [.agg [.bool false, .il 1 (encD (r0 :: rs))]])]) rfl
    ⟨⟨0, _, rfl, rfl, .same (.cons (agR _ _) .nil)⟩, ⟨1, _, rfl, rfl, .same (.cons (agR _ _) .nil)⟩, ⟨2, _, rfl, rfl, .same (nN _)⟩, ⟨3, _, rfl, rfl, .same (nN _)⟩, ⟨4, _, rfl, rfl, .same (.cons (agR _ _) .nil)⟩, ⟨5, _, rfl, rfl, .same (.cons (agR _ _) .nil)⟩, trivial⟩
    (.cons (.same _ (tBo _)) (.cons (.fz' (id := 6) (off := 0) (len := 1) (xs := [.int .i64 1]) (ys := encD [1]) rfl rfl (Nat.le_refl 1) rfl (encD_nn [1])) .nil)) ?_
   refine h1.go ?_ (.cons (tBo _) (.cons (tD _) .nil)) (agR _ _)
   ((conv=>whnf);repeat(refine Xg ?_;conv=>whnf))
   repeat ((first | refine setK_iff.2 ?_ | refine ⟨rfl, ?_⟩); ((conv=>whnf);repeat(refine Xg ?_;conv=>whnf)))
   refine ha.go ?_ (.cons (agR _ _) (.cons (agR _ _) .nil)) (agR _ _)
   ((conv=>whnf);repeat(refine Xg ?_;conv=>whnf))
   repeat ((first | refine setK_iff.2 ?_ | refine ⟨rfl, ?_⟩); ((conv=>whnf);repeat(refine Xg ?_;conv=>whnf)))
   refine hmi.go ?_ (.cons (tD _) (.cons (tD _) .nil)) (tD _)
   ((conv=>whnf);repeat(refine Xg ?_;conv=>whnf))
   repeat ((first | refine setK_iff.2 ?_ | refine ⟨rfl, ?_⟩); ((conv=>whnf);repeat(refine Xg ?_;conv=>whnf)))
   refine hnm.go ?_ (.cons (tBo _) (.cons (tD _) .nil)) (agR _ _)
   ((conv=>whnf);repeat(refine Xg ?_;conv=>whnf))
   repeat ((first | refine setK_iff.2 ?_ | refine ⟨rfl, ?_⟩); ((conv=>whnf);repeat(refine Xg ?_;conv=>whnf)))
   exact fin_pure (.tup' (.cons (agR _ _) (.cons (agR _ _) .nil))) ⟨rfl, rfl, rfl⟩
theorem rGcd (x y : Int) (hx : (dg 10000 x.natAbs).length ≤ 900000) (hy : (dg 10000 y.natAbs).length ≤ 900000) : PureC Tryz.prog [] 79 [encR x, encR y] (encR (Nat.gcd x.natAbs y.natAbs : Nat)) := by
 have e0 : ∀ n : Nat, encR (n : Int) = .agg [.bool false, .il 1 (encD (dg 10000 n))] := fun n => by rw [encR_eq, decide_eq_false (by omega), Int.natAbs_natCast]
 have hn1 := rNormF (dg 10000 x.natAbs) _ (by omega) (dg_lt hT _) (vl_dg hT _)
 have hn2 := rNormF (dg 10000 y.natAbs) _ (by omega) (dg_lt hT _) (vl_dg hT _)
 rw [encR_eq x, encR_eq y, e0]
 generalize decide (x < 0) = bx
 generalize decide (y < 0) = by_
 generalize x.natAbs = a at *
 generalize y.natAbs = b at *
 obtain ⟨g, hg⟩ : ∃ g, g = Nat.gcd a b := ⟨_, rfl⟩
 rw [← hg]
 refine acalls_go nnΓ Tryz.func79 rfl ?_
 ((conv=>whnf);repeat(refine Xg ?_;conv=>whnf))
 repeat ((first | refine setK_iff.2 ?_ | refine ⟨rfl, ?_⟩); ((conv=>whnf);repeat(refine Xg ?_;conv=>whnf)))
 refine hn1.go ?_ (.cons (tBo _) (.cons (tD _) .nil)) (agR _ _)
 ((conv=>whnf);repeat(refine Xg ?_;conv=>whnf))
 repeat ((first | refine setK_iff.2 ?_ | refine ⟨rfl, ?_⟩); ((conv=>whnf);repeat(refine Xg ?_;conv=>whnf)))
 refine hn2.go ?_ (.cons (tBo _) (.cons (tD _) .nil)) (agR _ _)
 ((conv=>whnf);repeat(refine Xg ?_;conv=>whnf))
 repeat ((first | refine setK_iff.2 ?_ | refine ⟨rfl, ?_⟩); ((conv=>whnf);repeat(refine Xg ?_;conv=>whnf)))
 refine ALoop.at nnΓ (fun p : Nat × Nat => (dg 10000 p.1).length ≤ 900000 ∧ (dg 10000 p.2).length ≤ 900000 ∧ Nat.gcd p.1 p.2 = g)
  (fun p => ⟨[(4, .ptr 0 0 0), (5, .ptr 1 0 0), (6, .ptr 2 0 0)], [(0, .row 43 2 [.agg [.bool false, .nsl]]), (1, .row 43 2 [.agg [.bool false, .il 1 (encD (dg 10000 p.1))]]), (2, .row 43 2 [.agg [.bool false, .il 1 (encD (dg 10000 p.2))]])], 3, 28⟩)
  (fun p => p.2) (a, b) [(2, 0), (3, 1), (4, 2)] ⟨hx, hy, hg.symm⟩
  (conv_mk _ rfl ⟨⟨2, _, rfl, rfl, .same (nN _)⟩, ⟨3, _, rfl, rfl, .same (.cons (agR _ _) .nil)⟩, ⟨4, _, rfl, rfl, .same (.cons (agR _ _) .nil)⟩, trivial⟩ ⟨⟨_, rfl, .ptr 2 0 0 0 rfl⟩, ⟨_, rfl, .ptr 3 1 0 0 rfl⟩, ⟨_, rfl, .ptr 4 2 0 0 rfl⟩, trivial⟩) ?_
 clear hn1 hn2
 rintro ⟨u, v⟩ ⟨h1, h2, h3⟩
 simp only at h1 h2 h3 ⊢
 have hz := dg_len_zero (B := 10000) (n := v) hT
 have hlz : decide (((encD (dg 10000 v)).length : Int) > 0) = decide (0 < v) := by
  rw [encD_length, ← hz, decide_eq_decide]; omega
 by_cases hv : 0 < v
 ·have hd := rDiv (u : Int) (v : Int) (by omega) (by rw [Int.natAbs_natCast]; exact h1) (by rw [Int.natAbs_natCast]; exact h2)
  have hm := dgl_mod hT u v
  have hmlt := Nat.mod_lt u hv
  have hgs := gcd_step u v
  rw [← Int.natCast_ediv, ← Int.natCast_emod, e0, e0, e0, e0] at hd
  generalize u % v = w at *
  generalize dg 10000 (u / v) = qq at *
  generalize hlu : dg 10000 u = lu at *
  generalize hlv : dg 10000 v = lv at *
  generalize hlw : dg 10000 w = lw at *
  ((conv=>whnf);repeat(refine Xg ?_;conv=>whnf))
  rw [hlz, decide_eq_true hv]
  ((conv=>whnf);repeat(refine Xg ?_;conv=>whnf))
  repeat ((first | refine setK_iff.2 ?_ | refine ⟨rfl, ?_⟩); ((conv=>whnf);repeat(refine Xg ?_;conv=>whnf)))
  refine hd.go ?_ (.cons (agR _ _) (.cons (agR _ _) .nil)) (.tup' (.cons (agR _ _) (.cons (agR _ _) .nil)))
  ((conv=>whnf);repeat(refine Xg ?_;conv=>whnf))
  repeat ((first | refine setK_iff.2 ?_ | refine ⟨rfl, ?_⟩); ((conv=>whnf);repeat(refine Xg ?_;conv=>whnf)))
  exact .mk (v, w) [(0, 0), (1, 1), (2, 2)] ⟨by simp only; rw [hlv]; exact h2, by simp only; rw [hlw]; omega, by simp only; rw [hgs]; exact h3⟩
   (conv_mk _ rfl ⟨⟨0, _, rfl, rfl, .same (nN _)⟩, ⟨1, _, rfl, rfl, .eq (.cons (agR _ _) .nil) (by rw [hlv])⟩, ⟨2, _, rfl, rfl, .eq (.cons (agR _ _) .nil) (by rw [hlw])⟩, trivial⟩ ⟨⟨_, rfl, .ptr 0 0 0 0 rfl⟩, ⟨_, rfl, .ptr 1 1 0 0 rfl⟩, ⟨_, rfl, .ptr 2 2 0 0 rfl⟩, trivial⟩) (by simp only; omega)
 ·have hv0 : v = 0 := by omega
  rw [hv0, Nat.gcd_zero_right] at h3
  rw [← h3]
  generalize dg 10000 u = lu at *
  generalize dg 10000 v = lv at *
  ((conv=>whnf);repeat(refine Xg ?_;conv=>whnf))
  rw [hlz, decide_eq_false hv]
  ((conv=>whnf);repeat(refine Xg ?_;conv=>whnf))
  repeat ((first | refine setK_iff.2 ?_ | refine ⟨rfl, ?_⟩); ((conv=>whnf);repeat(refine Xg ?_;conv=>whnf)))
  exact fin_pure (agR _ _) ⟨rfl, rfl, rfl⟩
set_option maxHeartbeats 4000000
def digs : List UInt8 := [48, 49, 50, 51, 52, 53, 54, 55, 56, 57]
theorem digs_at {d : Nat} (h : d < 10) : List.take (((d + 1 : Nat) : Int).toNat - ((d : Nat) : Int).toNat) (List.drop ((d : Nat) : Int).toNat digs) = [UInt8.ofNat (48 + d)] := by
 rcases (show d = 0 ∨ d = 1 ∨ d = 2 ∨ d = 3 ∨ d = 4 ∨ d = 5 ∨ d = 6 ∨ d = 7 ∨ d = 8 ∨ d = 9 by omega) with rfl | rfl | rfl | rfl | rfl | rfl | rfl | rfl | rfl | rfl <;> rfl
theorem rDec1 (n : Int) (hn : i64 n) : PureC Tryz.prog [] 75 [.int .i64 n] (.str (Lib.itoa n)) := by
 unfold i64 at hn
 refine acalls_go nnΓ Tryz.func75 rfl ?_
 by_cases h0 : n = 0
 ·subst h0
  rw [itoa_zero]
  ((conv=>whnf);repeat(refine Xg ?_;conv=>whnf))
  exact fin_pure nn ⟨rfl, rfl, rfl⟩
 have e0 : (n == 0) = false := by simpa using h0
 ((conv=>whnf);repeat(refine Xg ?_;conv=>whnf))
 rw [e0]
 ((conv=>whnf);repeat(refine Xg ?_;conv=>whnf))
 refine ALoop.at nnΓ (fun a : Int × List UInt8 => a.1.natAbs ≤ n.natAbs ∧ (a.1 = 0 ∨ (a.1 < 0 ↔ n < 0)) ∧ Lib.decDigits n.natAbs = decRest a.1.natAbs ++ a.2)
  (fun a => ⟨[(0, .int .i64 n), (3, .str digs), (4, .str a.2), (5, .int .i64 a.1)], [], 0, 32⟩) (fun a => a.1.natAbs) (n, []) [] ⟨Nat.le_refl _, .inr Iff.rfl, by simp [decRest, h0]⟩
  (conv_pure ⟨⟨_, rfl, .same _ nn⟩, ⟨_, rfl, .same _ nn⟩, ⟨_, rfl, .same _ nn⟩, ⟨_, rfl, .same _ nn⟩, trivial⟩) ?_
 rintro ⟨k, s⟩ ⟨hk1, hk2, hk3⟩
 simp only at hk1 hk2 hk3
 have hsl : s.length ≤ 20 := by
  have h1 := nDigits_le n.natAbs (by omega)
  rw [← Lib.decDigits_length, hk3, List.length_append] at h1
  omega
 by_cases hk0 : k = 0
 ·subst hk0
  rw [show decRest (Int.natAbs 0) = [] from rfl, List.nil_append] at hk3
  ((conv=>whnf);repeat(refine Xg ?_;conv=>whnf))
  refine bcs_mk (fun h => ?_) (fun h => ?_)
  ·((conv=>whnf);repeat(refine Xg ?_;conv=>whnf))
   refine grd_mk (Nat.ble_eq_true_of_le (by simp; omega)) ?_
   ((conv=>whnf);repeat(refine Xg ?_;conv=>whnf))
   refine fin_pure nn ⟨?_, rfl, rfl⟩
   rw [Lib.itoa, if_pos (by simpa using h), hk3]
   rfl
  ·((conv=>whnf);repeat(refine Xg ?_;conv=>whnf))
   refine fin_pure nn ⟨?_, rfl, rfl⟩
   have h' : ¬ n < 0 := by simpa using h
   have e : n.toNat = n.natAbs := by omega
   rw [Lib.itoa, if_neg h', e, hk3]
 ·have e1 : (k == 0) = false := by simpa using hk0
  ((conv=>whnf);repeat(refine Xg ?_;conv=>whnf))
  rw [show ((k, s).fst != 0) = true by simpa using hk0]
  have hq := Int.mul_tdiv_add_tmod k 10
  have hkq : k.tdiv 10 = if 0 ≤ k then ((k.natAbs / 10 : Nat) : Int) else -((k.natAbs / 10 : Nat) : Int) := by
   split
   ·rw [Int.tdiv_eq_ediv_of_nonneg (by assumption)]; omega
   ·obtain ⟨q, rfl⟩ : ∃ q : Nat, k = -(q : Int) := ⟨k.natAbs, by omega⟩
    rw [Int.neg_tdiv, Int.tdiv_eq_ediv_of_nonneg (by omega)]; simp
  have hkm : (k.tmod 10).natAbs = k.natAbs % 10 := by split at hkq <;> omega
  have hkb : (k.tdiv 10).natAbs = k.natAbs / 10 := by split at hkq <;> omega
  have hstep := decRest_step (k := k.natAbs) (by omega)
  have hnext : ∀ b : UInt8, b = UInt8.ofNat (48 + k.natAbs % 10) → (fun a : Int × List UInt8 => a.1.natAbs ≤ n.natAbs ∧ (a.1 = 0 ∨ (a.1 < 0 ↔ n < 0)) ∧ Lib.decDigits n.natAbs = decRest a.1.natAbs ++ a.2) (k.tdiv 10, b :: s) := by
   intro b hb
   refine ⟨by simp only; omega, ?_, ?_⟩
   ·simp only
    split at hkq <;> omega
   ·simp only
    rw [hk3, hstep, hkb, hb]
    simp
  have hb : i64 (k.tdiv 10) := by
   unfold i64
   split at hkq <;> omega
  ((conv=>whnf);repeat(refine Xg ?_;conv=>whnf))
  refine bcs_mk (fun h => ?_) (fun h => ?_)
  ·have h' : k.tmod 10 < 0 := by simpa using h
   have e1 : IntKind.i64.wrap (0 - k.tmod 10) = ((k.natAbs % 10 : Nat) : Int) := by rw [wrap64 ⟨by omega, by omega⟩]; omega
   have hkk : k.natAbs % 10 < 10 := Nat.mod_lt _ (by decide)
   generalize hd : k.natAbs % 10 = d at *
   have e2 : IntKind.i64.wrap ((d : Int) + 1) = ((d + 1 : Nat) : Int) := by rw [wrap64 ⟨by omega, by omega⟩]; omega
   ((conv=>whnf);repeat(refine Xg ?_;conv=>whnf))
   rw [e1]
   have hd10 : d < 10 := hkk
   rw [e2]
   have z1 : decide (0 ≤ (d : Int)) = true := decide_eq_true (by omega)
   have z3 : (Nat.ble ((d : Nat) : Int).toNat ((d + 1 : Nat) : Int).toNat && Nat.ble ((d + 1 : Nat) : Int).toNat digs.length) = true := by
    rw [Int.toNat_natCast, Int.toNat_natCast, Nat.ble_eq_true_of_le (by omega), Nat.ble_eq_true_of_le (by show d + 1 ≤ 10; omega)]; rfl
   rw [z1]
   ((conv=>whnf);repeat(refine Xg ?_;conv=>whnf))
   refine grd_mk z3 ?_
   ((conv=>whnf);repeat(refine Xg ?_;conv=>whnf))
   rw [digs_at hd10]
   refine grd_mk (Nat.ble_eq_true_of_le (by simp; omega)) ?_
   ((conv=>whnf);repeat(refine Xg ?_;conv=>whnf))
   exact .mk (k.tdiv 10, UInt8.ofNat (48 + d) :: s) [] (hnext _ rfl) (conv_pure ⟨⟨_, rfl, .same _ nn⟩, ⟨_, rfl, .same _ nn⟩, ⟨_, rfl, .same _ nn⟩, ⟨_, rfl, .int (wrap64 hb)⟩, trivial⟩) (by simp only; omega)
  ·have h' : ¬ k.tmod 10 < 0 := by simpa using h
   have e1 : k.tmod 10 = ((k.natAbs % 10 : Nat) : Int) := by omega
   have hkk : k.natAbs % 10 < 10 := Nat.mod_lt _ (by decide)
   generalize hd : k.natAbs % 10 = d at *
   have e2 : IntKind.i64.wrap ((d : Int) + 1) = ((d + 1 : Nat) : Int) := by rw [wrap64 ⟨by omega, by omega⟩]; omega
   ((conv=>whnf);repeat(refine Xg ?_;conv=>whnf))
   rw [e1]
   have hd10 : d < 10 := hkk
   rw [e2]
   have z1 : decide (0 ≤ (d : Int)) = true := decide_eq_true (by omega)
   have z3 : (Nat.ble ((d : Nat) : Int).toNat ((d + 1 : Nat) : Int).toNat && Nat.ble ((d + 1 : Nat) : Int).toNat digs.length) = true := by
    rw [Int.toNat_natCast, Int.toNat_natCast, Nat.ble_eq_true_of_le (by omega), Nat.ble_eq_true_of_le (by show d + 1 ≤ 10; omega)]; rfl
   rw [z1]
   ((conv=>whnf);repeat(refine Xg ?_;conv=>whnf))
   refine grd_mk z3 ?_
   ((conv=>whnf);repeat(refine Xg ?_;conv=>whnf))
   rw [digs_at hd10]
   refine grd_mk (Nat.ble_eq_true_of_le (by simp; omega)) ?_
   ((conv=>whnf);repeat(refine Xg ?_;conv=>whnf))
   exact .mk (k.tdiv 10, UInt8.ofNat (48 + d) :: s) [] (hnext _ rfl) (conv_pure ⟨⟨_, rfl, .same _ nn⟩, ⟨_, rfl, .same _ nn⟩, ⟨_, rfl, .same _ nn⟩, ⟨_, rfl, .int (wrap64 hb)⟩, trivial⟩) (by simp only; omega)
theorem dg_pow_len {n m : Nat} (h : n ≤ 2 ^ m) (hm : 0 < m) : (dg 10000 n).length ≤ m := by
 refine dg_len_le hT (Nat.lt_of_le_of_lt h ?_)
 exact Nat.pow_lt_pow_left (by omega) (by omega)
theorem rPower (k : Nat) (hk : k ≤ 400000) : PureC Tryz.prog [] 108 [.int .i64 k] (encR ((2 ^ k : Nat) : Int)) := by
 have e0 : ∀ n : Nat, encR (n : Int) = .agg [.bool false, .il 1 (encD (dg 10000 n))] := fun n => by rw [encR_eq, decide_eq_false (by omega), Int.natAbs_natCast]
 have h1 := rOf ((1 : Nat) : Int) ⟨by omega, by omega⟩
 have h2 := rOf ((2 : Nat) : Int) ⟨by omega, by omega⟩
 have hmul : ∀ a b : Nat, (dg 10000 a).length ≤ 1000000 → (dg 10000 b).length ≤ 1000000 → PureC Tryz.prog [] 63 [.agg [.bool false, .il 1 (encD (dg 10000 a))], .agg [.bool false, .il 1 (encD (dg 10000 b))]] (.agg [.bool false, .il 1 (encD (dg 10000 (a * b)))]) := fun a b ha hb => by
  have := rMul (a : Int) (b : Int) (by rw [Int.natAbs_natCast]; exact ha) (by rw [Int.natAbs_natCast]; exact hb)
  rw [← Int.natCast_mul, e0, e0, e0] at this
  exact this
 rw [e0] at h1 h2 ⊢
 have hL : (2 : Nat) ^ k ≤ 2 ^ k := Nat.le_refl _
 obtain ⟨T, hTk⟩ : ∃ T, T = 2 ^ k := ⟨_, rfl⟩
 rw [← hTk]
 refine acalls_go nnΓ Tryz.func108 rfl ?_
 ((conv=>whnf);repeat(refine Xg ?_;conv=>whnf))
 refine h1.go ?_ (.cons nn .nil) (agR _ _)
 ((conv=>whnf);repeat(refine Xg ?_;conv=>whnf))
 repeat ((first | refine setK_iff.2 ?_ | refine ⟨rfl, ?_⟩); ((conv=>whnf);repeat(refine Xg ?_;conv=>whnf)))
 refine h2.go ?_ (.cons nn .nil) (agR _ _)
 ((conv=>whnf);repeat(refine Xg ?_;conv=>whnf))
 repeat ((first | refine setK_iff.2 ?_ | refine ⟨rfl, ?_⟩); ((conv=>whnf);repeat(refine Xg ?_;conv=>whnf)))
 refine ALoop.at nnΓ (fun p : Nat × Nat × Nat => p.1 ≤ k ∧ p.2.1 * p.2.2 ^ p.1 = T ∧ p.2.2 ≤ 2 ^ (2 * k + 1) ∧ p.2.1 ≤ T)
  (fun p => ⟨[(0, .int .i64 p.1), (2, .ptr 0 0 0), (3, .ptr 1 0 0), (4, .ptr 2 0 0)], [(0, .row 43 2 [.agg [.bool false, .nsl]]), (1, .row 43 2 [.agg [.bool false, .il 1 (encD (dg 10000 p.2.1))]]), (2, .row 43 2 [.agg [.bool false, .il 1 (encD (dg 10000 p.2.2))]])], 3, 21⟩)
  (fun p => p.1) (k, 1, 2) [(0, 0), (1, 1), (2, 2)] ⟨Nat.le_refl _, by simp only; rw [hTk]; simp, by simp only; rw [Nat.pow_succ]; have := Nat.pow_pos (n := 2 * k) (show 0 < 2 by omega); omega, by simp only; rw [hTk]; exact Nat.pow_pos (by omega)⟩
  (conv_mk _ rfl ⟨⟨0, _, rfl, rfl, .same (nN _)⟩, ⟨1, _, rfl, rfl, .same (.cons (agR _ _) .nil)⟩, ⟨2, _, rfl, rfl, .same (.cons (agR _ _) .nil)⟩, trivial⟩ ⟨⟨_, rfl, .same _ nn⟩, ⟨_, rfl, .ptr 0 0 0 0 rfl⟩, ⟨_, rfl, .ptr 1 1 0 0 rfl⟩, ⟨_, rfl, .ptr 2 2 0 0 rfl⟩, trivial⟩) ?_
 rintro ⟨j, a, t⟩ ⟨g1, g2, g3, g4⟩
 simp only at g1 g2 g3 g4 ⊢
 have lT : (dg 10000 T).length ≤ k + 1 := dg_pow_len (by rw [hTk]; exact Nat.pow_le_pow_right (by omega) (by omega)) (by omega)
 have la : (dg 10000 a).length ≤ k + 1 := Nat.le_trans (dg_len_mono hT g4) lT
 have lt : (dg 10000 t).length ≤ 2 * k + 1 := dg_pow_len g3 (by omega)
 have hT0 : 0 < T := by rw [hTk]; exact Nat.pow_pos (by omega)
 by_cases hj : 0 < j
 ·have ht1 : t ≤ T := by
   rcases Nat.eq_zero_or_pos a with e | e
   ·rw [e] at g2; simp at g2; omega
   ·rcases Nat.eq_zero_or_pos t with e2 | e2
    ·omega
    ·calc t = t ^ 1 := (Nat.pow_one t).symm
      _ ≤ t ^ j := Nat.pow_le_pow_right e2 hj
      _ ≤ a * t ^ j := Nat.le_mul_of_pos_left _ e
      _ = T := g2
  have htt : t * t ≤ 2 ^ (2 * k + 1) := by
   have := Nat.mul_le_mul ht1 ht1
   rw [hTk, ← Nat.pow_add] at this
   exact Nat.le_trans this (Nat.pow_le_pow_right (by omega) (by omega))
  have hm2 := hmul t t (by omega) (by omega)
  have e3 : ((j : Int)).tmod 2 = ((j % 2 : Nat) : Int) := tmod_nat _ 2
  have e4 : IntKind.i64.wrap (((j : Int)).tdiv 2) = ((j / 2 : Nat) : Int) := by
   rw [show ((j : Int)).tdiv 2 = ((j / 2 : Nat) : Int) from tdiv_nat _ 2, wrap64 ⟨by omega, by omega⟩]
  have e5 : decide ((j : Int) > 0) = true := decide_eq_true (by omega)
  rcases Nat.mod_two_eq_zero_or_one j with e | e
  ·have hz : (((0 : Nat) : Int) == 1) = false := rfl
   have hpow : a * (t * t) ^ (j / 2) = T := by
    rw [← g2, ← Nat.pow_two, ← Nat.pow_mul]; congr 2; omega
   ((conv=>whnf);repeat(refine Xg ?_;conv=>whnf))
   rw [e5]
   ((conv=>whnf);repeat(refine Xg ?_;conv=>whnf))
   rw [e3, e]
   ((conv=>whnf);repeat(refine Xg ?_;conv=>whnf))
   repeat ((first | refine setK_iff.2 ?_ | refine ⟨rfl, ?_⟩); ((conv=>whnf);repeat(refine Xg ?_;conv=>whnf)))
   refine hm2.go ?_ (.cons (agR _ _) (.cons (agR _ _) .nil)) (agR _ _)
   ((conv=>whnf);repeat(refine Xg ?_;conv=>whnf))
   repeat ((first | refine setK_iff.2 ?_ | refine ⟨rfl, ?_⟩); ((conv=>whnf);repeat(refine Xg ?_;conv=>whnf)))
   exact .mk (j / 2, a, t * t) [(0, 0), (1, 1), (2, 2)] ⟨by simp only; omega, hpow, htt, g4⟩
    (conv_mk _ rfl ⟨⟨0, _, rfl, rfl, .same (nN _)⟩, ⟨1, _, rfl, rfl, .same (.cons (agR _ _) .nil)⟩, ⟨2, _, rfl, rfl, .same (.cons (agR _ _) .nil)⟩, trivial⟩ ⟨⟨_, rfl, .int e4⟩, ⟨_, rfl, .ptr 0 0 0 0 rfl⟩, ⟨_, rfl, .ptr 1 1 0 0 rfl⟩, ⟨_, rfl, .ptr 2 2 0 0 rfl⟩, trivial⟩) (by simp only; omega)
  ·have hpow : (a * t) * (t * t) ^ (j / 2) = T := by
    rw [← g2, Nat.mul_assoc, ← Nat.pow_two, ← Nat.pow_mul]
    congr 1
    rw [show t * t ^ (2 * (j / 2)) = t ^ (2 * (j / 2) + 1) by rw [Nat.pow_succ, Nat.mul_comm]]
    congr 1; omega
   have hat : a * t ≤ T := by
    rw [← hpow]
    rcases Nat.eq_zero_or_pos t with e2 | e2
    ·rw [e2]; simp
    ·exact Nat.le_mul_of_pos_right _ (Nat.pow_pos (Nat.mul_pos e2 e2))
   have hm1 := hmul a t (by omega) (by omega)
   ((conv=>whnf);repeat(refine Xg ?_;conv=>whnf))
   rw [e5]
   ((conv=>whnf);repeat(refine Xg ?_;conv=>whnf))
   rw [e3, e]
   ((conv=>whnf);repeat(refine Xg ?_;conv=>whnf))
   repeat ((first | refine setK_iff.2 ?_ | refine ⟨rfl, ?_⟩); ((conv=>whnf);repeat(refine Xg ?_;conv=>whnf)))
   refine hm1.go ?_ (.cons (agR _ _) (.cons (agR _ _) .nil)) (agR _ _)
   ((conv=>whnf);repeat(refine Xg ?_;conv=>whnf))
   repeat ((first | refine setK_iff.2 ?_ | refine ⟨rfl, ?_⟩); ((conv=>whnf);repeat(refine Xg ?_;conv=>whnf)))
   refine hm2.go ?_ (.cons (agR _ _) (.cons (agR _ _) .nil)) (agR _ _)
   ((conv=>whnf);repeat(refine Xg ?_;conv=>whnf))
   repeat ((first | refine setK_iff.2 ?_ | refine ⟨rfl, ?_⟩); ((conv=>whnf);repeat(refine Xg ?_;conv=>whnf)))
   exact .mk (j / 2, a * t, t * t) [(0, 0), (1, 1), (2, 2)] ⟨by simp only; omega, hpow, htt, hat⟩
    (conv_mk _ rfl ⟨⟨0, _, rfl, rfl, .same (nN _)⟩, ⟨1, _, rfl, rfl, .same (.cons (agR _ _) .nil)⟩, ⟨2, _, rfl, rfl, .same (.cons (agR _ _) .nil)⟩, trivial⟩ ⟨⟨_, rfl, .int e4⟩, ⟨_, rfl, .ptr 0 0 0 0 rfl⟩, ⟨_, rfl, .ptr 1 1 0 0 rfl⟩, ⟨_, rfl, .ptr 2 2 0 0 rfl⟩, trivial⟩) (by simp only; omega)
 ·have hj0 : j = 0 := by omega
  subst hj0
  have haT : a = T := by simpa using g2
  have e5 : decide (((0 : Nat) : Int) > 0) = false := rfl
  rw [← haT]
  ((conv=>whnf);repeat(refine Xg ?_;conv=>whnf))
  repeat ((first | refine setK_iff.2 ?_ | refine ⟨rfl, ?_⟩); ((conv=>whnf);repeat(refine Xg ?_;conv=>whnf)))
  exact fin_pure (agR _ _) ⟨rfl, rfl, rfl⟩
theorem rFits (z : Int) (hz : (dg 10000 z.natAbs).length ≤ 1000000) : PureC Tryz.prog [] 88 [encR z] (.bool (fits z)) := by
 have e0 : ∀ n : Nat, encR (n : Int) = .agg [.bool false, .il 1 (encD (dg 10000 n))] := fun n => by rw [encR_eq, decide_eq_false (by omega), Int.natAbs_natCast]
 have hp := rPower 16384 (by omega)
 have hs := @fits_short z
 have hc := rCompared z.natAbs (2 ^ 16384) (by omega)
 have hf : fits z = decide (cmpJ (z.natAbs : Int) ((2 ^ 16384 : Nat) : Int) < 0) := by
  unfold fits
  rw [decide_eq_decide]
  have hl := limN_eq
  rw [hl]
  generalize 2 ^ 16384 = W
  unfold cmpJ
  split <;> (try split) <;> omega
 rw [e0] at hp
 rw [encR_eq]
 generalize decide (z < 0) = bz
 generalize dg 10000 (2 ^ 16384) = lw at *
 generalize cmpJ (z.natAbs : Int) ((2 ^ 16384 : Nat) : Int) = cj at *
 generalize dg 10000 z.natAbs = l at *
 refine acalls_go nnΓ Tryz.func88 rfl ?_
 ((conv=>whnf);repeat(refine Xg ?_;conv=>whnf))
 rw [encD_length]
 refine bcs_mk (fun hb => ?_) (fun hb => ?_)
 ·have hlt : l.length < 1230 := by have := of_decide_eq_true hb; omega
  rw [hs hlt]
  ((conv=>whnf);repeat(refine Xg ?_;conv=>whnf))
  exact fin_pure nn ⟨rfl, rfl, rfl⟩
 ·rw [hf]
  ((conv=>whnf);repeat(refine Xg ?_;conv=>whnf))
  refine hp.go ?_ (.cons nn .nil) (agR _ _)
  ((conv=>whnf);repeat(refine Xg ?_;conv=>whnf))
  repeat ((first | refine setK_iff.2 ?_ | refine ⟨rfl, ?_⟩); ((conv=>whnf);repeat(refine Xg ?_;conv=>whnf)))
  refine hc.go ?_ (.cons (tD _) (.cons (tD _) .nil)) nn
  ((conv=>whnf);repeat(refine Xg ?_;conv=>whnf))
  exact fin_pure nn ⟨rfl, rfl, rfl⟩
set_option maxHeartbeats 16000000
set_option linter.unusedSimpArgs false
theorem txtB_step {D : List Nat} {i d : Nat} (h : D[i]? = some d) (hi : i + 1 < D.length) : txtB 4 (D.drop i) = txtB 4 (D.drop (i + 1)) ++ padD 4 d := by
 obtain ⟨h1, h2⟩ := List.getElem?_eq_some_iff.1 h
 rw [List.drop_eq_getElem_cons h1, h2, txtB, if_neg]
 intro e
 have := congrArg List.length e
 rw [List.length_drop] at this
 simp at this
 omega
theorem txtB_end {D : List Nat} {i d : Nat} (h : D[i]? = some d) (hi : i + 1 = D.length) : txtB 4 (D.drop i) = Lib.decDigits d := by
 obtain ⟨h1, h2⟩ := List.getElem?_eq_some_iff.1 h
 rw [List.drop_eq_getElem_cons h1, h2, txtB, if_pos (List.drop_eq_nil_of_le (by omega))]
theorem txtB_len : ∀ (D : List Nat), (∀ d ∈ D, d < 10000) → (txtB 4 D).length ≤ 4 * D.length
 | [], _ => by simp [txtB]
 | d :: r, h => by
  rw [txtB]
  split
  ·rename_i e
   subst e
   have := decD_len 4 d (h d (by simp)) (by decide)
   simp; omega
  ·have := txtB_len r fun x hx => h x (by simp [hx])
   rw [List.length_append, padD_length, List.length_cons]; omega
theorem rText (z : Int) (hz : (dg 10000 z.natAbs).length ≤ 1000000) : PureC Tryz.prog [] 39 [encR z] (.str (decZ z)) := by
 have hla := dg_lt hT z.natAbs
 have htx : 0 < z.natAbs → txtB 4 (dg 10000 z.natAbs) = Lib.decDigits z.natAbs := fun h => txtB_dg (k := 4) (by omega) z.natAbs h
 have hzero : (dg 10000 z.natAbs).length = 0 ↔ z = 0 := by
  constructor
  ·intro h
   have := (dg_nil hT).1 (List.eq_nil_of_length_eq_zero h)
   omega
  ·intro h; rw [h]; simp [dg_zero]
 have hdz : decZ z = if z < 0 then 45 :: Lib.decDigits z.natAbs else Lib.decDigits z.natAbs := by
  unfold decZ Lib.itoa
  split
  ·rfl
  ·rw [show z.toNat = z.natAbs by omega]
 have hdec : ∀ d : Nat, d < 10000 → PureC Tryz.prog [] 75 [.int .i64 d] (.str (Lib.decDigits d)) := fun d h => by
  have := rDec1 (d : Int) ⟨by omega, by omega⟩
  rw [Lib.itoa_nonneg] at this
  exact this
 rw [encR_eq, hdz]
 have hpos : z = 0 ∨ 0 < z.natAbs := by omega
 have hbz : (if z < 0 then 45 :: Lib.decDigits z.natAbs else Lib.decDigits z.natAbs) = (if decide (z < 0) = true then 45 :: Lib.decDigits z.natAbs else Lib.decDigits z.natAbs) := by simp
 rw [hbz]
 generalize hD : dg 10000 z.natAbs = D at *
 generalize hbn : decide (z < 0) = bz at *
 refine acalls_go nnΓ Tryz.func39 rfl ?_
 by_cases h0 : z = 0
 ·have hl0 := hzero.2 h0
  have e1 : ((D.length : Int) == 0) = true := by rw [hl0]; rfl
  have e2 : bz = false := by rw [← hbn, h0]; rfl
  rw [e2, h0]
  ((conv=>whnf);repeat(refine Xg ?_;conv=>whnf))
  rw [encD_length, e1]
  ((conv=>whnf);repeat(refine Xg ?_;conv=>whnf))
  exact fin_pure nn ⟨by rw [if_neg (by simp), show Int.natAbs 0 = 0 from rfl, Lib.decDigits_one (by omega)]; rfl, rfl, rfl⟩
 ·have hl0 : 0 < D.length := by have := hzero.1; omega
  have e1 : ((D.length : Int) == 0) = false := by simp; intro h; rw [h] at hl0; simp at hl0
  have htx := htx (by omega)
  have hw1 : IntKind.i64.wrap ((D.length : Int) - 1) = ((D.length - 1 : Nat) : Int) := by rw [wrap64 ⟨by omega, by omega⟩]; omega
  obtain ⟨t, ht⟩ : ∃ d, D[D.length - 1]? = some d := ⟨_, List.getElem?_eq_getElem (by omega)⟩
  have g1 := getDn ht
  have hd1 := hdec t (hla _ (List.mem_of_getElem? ht))
  ((conv=>whnf);repeat(refine Xg ?_;conv=>whnf))
  rw [encD_length, e1]
  ((conv=>whnf);repeat(refine Xg ?_;conv=>whnf))
  rw [encD_length, hw1]
  refine opt_mk g1 ?_
  ((conv=>whnf);repeat(refine Xg ?_;conv=>whnf))
  repeat (refine ⟨rfl, ?_⟩; ((conv=>whnf);repeat(refine Xg ?_;conv=>whnf)))
  refine hd1.go ?_ (.cons nn .nil) nn
  ((conv=>whnf);repeat(refine Xg ?_;conv=>whnf))
  rw [encD_length]
  refine ALoop.at nnΓ (fun k : Nat => k + 1 ≤ D.length)
   (fun k => ⟨[(1, .ptr 0 0 0), (3, .str (txtB 4 (D.drop k))), (4, .int .i64 ((k : Int) - 1))], [(0, .row 43 2 [.agg [.bool bz, .il 1 (encD D)]])], 1, 46⟩)
   (fun k => k) (D.length - 1) [(0, 0)] (by omega)
   (conv_mk _ rfl ⟨⟨0, _, rfl, rfl, .same (.cons (agR _ _) .nil)⟩, trivial⟩ ⟨⟨_, rfl, .ptr 0 0 0 0 rfl⟩, ⟨_, rfl, .eq nn (by rw [txtB_end ht (by omega)])⟩, ⟨_, rfl, .w64 (by omega) ⟨by omega, by omega⟩⟩, trivial⟩) ?_
  intro k hk
  have hlen := txtB_len (D.drop k) fun d hd => hla d (List.mem_of_mem_drop hd)
  rw [List.length_drop] at hlen
  ((conv=>whnf);repeat(refine Xg ?_;conv=>whnf))
  refine bcs_mk (fun hb => ?_) (fun hb => ?_)
  ·have hk1 : 0 < k := by simp at hb; omega
   obtain ⟨i, rfl⟩ : ∃ i, k = i + 1 := ⟨k - 1, by omega⟩
   rw [show (((i + 1 : Nat) : Int) - 1) = (i : Int) by omega]
   obtain ⟨u, hu⟩ : ∃ u, D[i]? = some u := ⟨_, List.getElem?_eq_getElem (by omega)⟩
   have hul := hla _ (List.mem_of_getElem? hu)
   have g2 := getDn hu
   have hst := txtB_step hu (by omega)
   have hdu := hdec u hul
   have hpe := padD_eq 4 u (by omega) (by decide)
   have hl4 := decD_len 4 u (by omega) (by decide)
   generalize Lib.decDigits u = tu at *
   ((conv=>whnf);repeat(refine Xg ?_;conv=>whnf))
   refine opt_mk g2 ?_
   ((conv=>whnf);repeat(refine Xg ?_;conv=>whnf))
   repeat (refine ⟨rfl, ?_⟩; ((conv=>whnf);repeat(refine Xg ?_;conv=>whnf)))
   refine hdu.go ?_ (.cons nn .nil) nn
   ((conv=>whnf);repeat(refine Xg ?_;conv=>whnf))
   refine ALoop.at nnΓ (fun j : Nat => j + tu.length ≤ 4)
    (fun j => ⟨[(1, .ptr 0 0 0), (3, .str (txtB 4 (D.drop (i + 1)))), (4, .int .i64 i), (5, .str (List.replicate j 48 ++ tu))], [(0, .row 43 2 [.agg [.bool bz, .il 1 (encD D)]])], 1, 46⟩)
    (fun j => 4 - j) 0 [(0, 0)] (by omega)
    (conv_mk _ rfl ⟨⟨0, _, rfl, rfl, .same (.cons (agR _ _) .nil)⟩, trivial⟩ ⟨⟨_, rfl, .ptr 0 0 0 0 rfl⟩, ⟨_, rfl, .same _ nn⟩, ⟨_, rfl, .same _ nn⟩, ⟨_, rfl, .same _ nn⟩, trivial⟩) ?_
   intro j hj
   have hjl : (List.replicate j 48 ++ tu).length = j + tu.length := by simp
   have hcons : ∀ (j : Nat), (48 : UInt8) :: (List.replicate j 48 ++ tu) = List.replicate (j + 1) 48 ++ tu := fun j => rfl
   generalize hs : List.replicate j 48 ++ tu = s at *
   ((conv=>whnf);repeat(refine Xg ?_;conv=>whnf))
   rw [hjl]
   refine bcs_mk (fun hc => ?_) (fun hc => ?_)
   ·have hc : j + tu.length < 4 := by have := of_decide_eq_true hc; omega
    ((conv=>whnf);repeat(refine Xg ?_;conv=>whnf))
    refine grd_mk (Nat.ble_eq_true_of_le (by simp; omega)) ?_
    ((conv=>whnf);repeat(refine Xg ?_;conv=>whnf))
    exact .mk (j + 1) [(0, 0)] (by omega)
     (conv_mk _ rfl ⟨⟨0, _, rfl, rfl, .same (.cons (agR _ _) .nil)⟩, trivial⟩ ⟨⟨_, rfl, .ptr 0 0 0 0 rfl⟩, ⟨_, rfl, .same _ nn⟩, ⟨_, rfl, .same _ nn⟩, ⟨_, rfl, .eq nn (by rw [← hs]; rfl)⟩, trivial⟩) (by omega)
   ·have hc : j + tu.length = 4 := by have := of_decide_eq_false hc; omega
    have hsp : s = padD 4 u := by rw [hpe, ← hs, show 4 - tu.length = j by omega]
    ((conv=>whnf);repeat(refine Xg ?_;conv=>whnf))
    refine grd_mk (Nat.ble_eq_true_of_le (by rw [hjl]; omega)) ?_
    ((conv=>whnf);repeat(refine Xg ?_;conv=>whnf))
    exact .mk i [(0, 0)] (by omega)
     (conv_mk _ rfl ⟨⟨0, _, rfl, rfl, .same (.cons (agR _ _) .nil)⟩, trivial⟩ ⟨⟨_, rfl, .ptr 0 0 0 0 rfl⟩, ⟨_, rfl, .eq nn (by rw [hst, hsp])⟩, ⟨_, rfl, .w64 rfl ⟨by omega, by omega⟩⟩, trivial⟩) (by omega)
  ·have hk0 : k = 0 := by simp at hb; omega
   subst hk0
   rw [List.drop_zero] at hlen
   have hd0 : D.drop 0 = D := List.drop_zero
   cases bz
   ·((conv=>whnf);repeat(refine Xg ?_;conv=>whnf))
    rw [hd0, htx]
    exact fin_pure nn ⟨by rw [if_neg (by simp)], rfl, rfl⟩
   ·((conv=>whnf);repeat(refine Xg ?_;conv=>whnf))
    rw [hd0, htx]
    refine grd_mk (Nat.ble_eq_true_of_le (by rw [← htx]; simp; omega)) ?_
    ((conv=>whnf);repeat(refine Xg ?_;conv=>whnf))
    exact fin_pure nn ⟨by rw [if_pos rfl]; rfl, rfl, rfl⟩
set_option maxHeartbeats 16000000
set_option linter.unusedSimpArgs false
def encF (a : Fr) : AV := .agg [.bool (decide (a.p < 0)), .il 1 (encD (dg 10000 a.p.natAbs)), .bool (decide ((a.q : Int) < 0)), .il 1 (encD (dg 10000 (a.q : Int).natAbs))]
theorem agF (b c : Bool) (l m : List Nat) : NN (.agg [.bool b, .il 1 (encD l), .bool c, .il 1 (encD m)]) := .agg' (.cons (tBo _) (.cons (tD _) (.cons (tBo _) (.cons (tD _) .nil))))
theorem encF_nn (a : Fr) : NN (encF a) := agF _ _ _ _
theorem encR_ex (z : Int) : ∃ b l, encR z = .agg [.bool b, .il 1 (encD l)] := ⟨_, _, rfl⟩
theorem encF_mk {a : Fr} {b c : Bool} {l m : List Nat} (h1 : encR a.p = .agg [.bool b, .il 1 (encD l)]) (h2 : encR (a.q : Int) = .agg [.bool c, .il 1 (encD m)]) : encF a = .agg [.bool b, .il 1 (encD l), .bool c, .il 1 (encD m)] := by
 unfold encR at h1 h2
 unfold encF
 simp only [AV.agg.injEq, List.cons.injEq, and_true] at h1 h2
 rw [h1.1, h1.2, h2.1, h2.2]
theorem encF_ex (a : Fr) : ∃ b l c m, encR a.p = .agg [.bool b, .il 1 (encD l)] ∧ encR (a.q : Int) = .agg [.bool c, .il 1 (encD m)] ∧ encF a = .agg [.bool b, .il 1 (encD l), .bool c, .il 1 (encD m)] := ⟨_, _, _, _, rfl, rfl, rfl⟩
theorem nF0 : NNs [.agg [.bool false, .nsl, .bool false, .nsl]] := .cons (.agg' (.cons (tBo _) (.cons .nsl (.cons (tBo _) (.cons .nsl .nil))))) .nil
structure LF (n : Nat) (a : Fr) : Prop where
 num : (dg 10000 a.p.natAbs).length ≤ n
 den : (dg 10000 a.q).length ≤ n
theorem LF.den' {n : Nat} {a : Fr} (h : LF n a) : (dg 10000 (a.q : Int).natAbs).length ≤ n := by rw [Int.natAbs_natCast]; exact h.den
theorem fOf (n : Int) (hn : i64 n) : PureC Tryz.prog [] 45 [.int .i64 n] (encF ⟨n, 1⟩) := by
 have h1 := rOf n hn
 have h2 := rOf ((1 : Nat) : Int) ⟨by omega, by omega⟩
 obtain ⟨b, l, c, m, q1, q2, q3⟩ := encF_ex ⟨n, 1⟩
 rw [q3]
 rw [q1] at h1
 rw [q2] at h2
 refine acalls_go nnΓ Tryz.func45 rfl ?_
 ((conv=>whnf);repeat(refine Xg ?_;conv=>whnf))
 refine h1.go ?_ (.cons nn .nil) (agR _ _)
 ((conv=>whnf);repeat(refine Xg ?_;conv=>whnf))
 refine h2.go ?_ (.cons nn .nil) (agR _ _)
 ((conv=>whnf);repeat(refine Xg ?_;conv=>whnf))
 repeat ((first | refine setK_iff.2 ?_ | refine ⟨rfl, ?_⟩); ((conv=>whnf);repeat(refine Xg ?_;conv=>whnf)))
 exact fin_pure (agF _ _ _ _) ⟨rfl, rfl, rfl⟩
theorem gcdI_pos {p q : Int} (h : q ≠ 0) : 0 < Nat.gcd p.natAbs q.natAbs := Nat.gcd_pos_of_pos_right _ (Int.natAbs_pos.2 h)
theorem fMake (p q : Int) (hq : q ≠ 0) (h1 : (dg 10000 p.natAbs).length ≤ 800000) (h2 : (dg 10000 q.natAbs).length ≤ 800000) : PureC Tryz.prog [] 43 [encR p, encR q] (.tup [encF (mkF p q), .int .i64 0]) := by
 have hg0 := gcdI_pos (p := p) hq
 have hn1 := rNeg p (by omega)
 have hn2 := rNeg q (by omega)
 have key : ∀ P Q : Int, P = (if q < 0 then -p else p) → Q = (q.natAbs : Int) → PureC Tryz.prog [] 79 [encR P, encR Q] (encR (Nat.gcd p.natAbs q.natAbs : Nat)) ∧
   PureC Tryz.prog [] 80 [encR P, encR (Nat.gcd p.natAbs q.natAbs : Nat)] (.tup [encR (mkF p q).p, encR (P % (Nat.gcd p.natAbs q.natAbs : Nat))]) ∧
   PureC Tryz.prog [] 80 [encR Q, encR (Nat.gcd p.natAbs q.natAbs : Nat)] (.tup [encR ((mkF p q).q : Int), encR (Q % (Nat.gcd p.natAbs q.natAbs : Nat))]) := by
  intro P Q hP hQ
  have a1 : P.natAbs = p.natAbs := by rw [hP]; split <;> simp
  have a2 : Q.natAbs = q.natAbs := by rw [hQ]; simp
  have hgl := dgl_gcd hT p.natAbs q.natAbs
  have z1 := rGcd P Q (by rw [a1]; omega) (by rw [a2]; omega)
  rw [a1, a2] at z1
  have z2 := rDiv P (Nat.gcd p.natAbs q.natAbs : Nat) (by omega) (by rw [a1]; omega) (by rw [Int.natAbs_natCast]; omega)
  have z3 := rDiv Q (Nat.gcd p.natAbs q.natAbs : Nat) (by omega) (by rw [a2]; omega) (by rw [Int.natAbs_natCast]; omega)
  refine ⟨z1, ?_, ?_⟩
  ·have e : (mkF p q).p = P / (Nat.gcd p.natAbs q.natAbs : Nat) := by rw [hP]; rfl
   rw [e]; exact z2
  ·have e : ((mkF p q).q : Int) = Q / (Nat.gcd p.natAbs q.natAbs : Nat) := by rw [hQ, ← Int.natCast_ediv]; rfl
   rw [e]; exact z3
 have kn := key (-p) (-q)
 have kp := key p q
 have hlz := dg_len_zero (B := 10000) (n := q.natAbs) hT
 have hz : (((dg 10000 q.natAbs).length : Int) == 0) = false := by
  have : 0 < (dg 10000 q.natAbs).length := by
   have := decide_eq_decide.1 hlz
   exact this.2 (by omega)
  simp; intro h; rw [h] at this; simp at this
 obtain ⟨b, l, c, m, q1, q2, q3⟩ := encF_ex (mkF p q)
 rw [q1, q2] at kn kp
 rw [q3]
 obtain ⟨bg, lg, hgg⟩ := encR_ex (Nat.gcd p.natAbs q.natAbs : Nat)
 rw [hgg] at kn kp
 obtain ⟨bm, lm, hmm⟩ := encR_ex (-p)
 obtain ⟨bn, ln, hnn⟩ := encR_ex (-q)
 rw [hmm] at hn1 kn
 rw [hnn] at hn2 kn
 clear key q1 q2 q3 hgg hmm hnn hlz hg0
 have ep := encR_eq p
 have eq := encR_eq q
 rw [ep] at hn1 kp ⊢
 rw [eq] at hn2 kp ⊢
 clear ep eq
 generalize hbq : decide (q < 0) = bq at *
 generalize decide (p < 0) = bp at *
 generalize dg 10000 p.natAbs = lp at *
 generalize dg 10000 q.natAbs = lq at *
 refine acalls_go nnΓ Tryz.func43 rfl ?_
 cases bq with
 | true =>
  have hlt := of_decide_eq_true hbq
  obtain ⟨k1, k2, k3⟩ := kn (by rw [if_pos hlt]) (by omega)
  obtain ⟨b1, l1, e1⟩ := encR_ex (-p % (Nat.gcd p.natAbs q.natAbs : Nat))
  obtain ⟨b2, l2, e2⟩ := encR_ex (-q % (Nat.gcd p.natAbs q.natAbs : Nat))
  rw [e1] at k2
  rw [e2] at k3
  ((conv=>whnf);repeat(refine Xg ?_;conv=>whnf))
  repeat ((first | refine setK_iff.2 ?_ | refine ⟨rfl, ?_⟩); ((conv=>whnf);repeat(refine Xg ?_;conv=>whnf)))
  rw [encD_length, hz]
  ((conv=>whnf);repeat(refine Xg ?_;conv=>whnf))
  repeat ((first | refine setK_iff.2 ?_ | refine ⟨rfl, ?_⟩); ((conv=>whnf);repeat(refine Xg ?_;conv=>whnf)))
  refine hn1.go ?_ (.cons (agR _ _) .nil) (agR _ _)
  ((conv=>whnf);repeat(refine Xg ?_;conv=>whnf))
  repeat ((first | refine setK_iff.2 ?_ | refine ⟨rfl, ?_⟩); ((conv=>whnf);repeat(refine Xg ?_;conv=>whnf)))
  refine hn2.go ?_ (.cons (agR _ _) .nil) (agR _ _)
  ((conv=>whnf);repeat(refine Xg ?_;conv=>whnf))
  repeat ((first | refine setK_iff.2 ?_ | refine ⟨rfl, ?_⟩); ((conv=>whnf);repeat(refine Xg ?_;conv=>whnf)))
  refine k1.go ?_ (.cons (agR _ _) (.cons (agR _ _) .nil)) (agR _ _)
  ((conv=>whnf);repeat(refine Xg ?_;conv=>whnf))
  repeat ((first | refine setK_iff.2 ?_ | refine ⟨rfl, ?_⟩); ((conv=>whnf);repeat(refine Xg ?_;conv=>whnf)))
  refine k2.go ?_ (.cons (agR _ _) (.cons (agR _ _) .nil)) (.tup' (.cons (agR _ _) (.cons (agR _ _) .nil)))
  ((conv=>whnf);repeat(refine Xg ?_;conv=>whnf))
  repeat ((first | refine setK_iff.2 ?_ | refine ⟨rfl, ?_⟩); ((conv=>whnf);repeat(refine Xg ?_;conv=>whnf)))
  refine k3.go ?_ (.cons (agR _ _) (.cons (agR _ _) .nil)) (.tup' (.cons (agR _ _) (.cons (agR _ _) .nil)))
  ((conv=>whnf);repeat(refine Xg ?_;conv=>whnf))
  repeat ((first | refine setK_iff.2 ?_ | refine ⟨rfl, ?_⟩); ((conv=>whnf);repeat(refine Xg ?_;conv=>whnf)))
  exact fin_pure (.tup' (.cons (agF _ _ _ _) (.cons nn .nil))) ⟨rfl, rfl, rfl⟩
 | false =>
  have hlt := of_decide_eq_false hbq
  obtain ⟨k1, k2, k3⟩ := kp (by rw [if_neg hlt]) (by omega)
  obtain ⟨b1, l1, e1⟩ := encR_ex (p % (Nat.gcd p.natAbs q.natAbs : Nat))
  obtain ⟨b2, l2, e2⟩ := encR_ex (q % (Nat.gcd p.natAbs q.natAbs : Nat))
  rw [e1] at k2
  rw [e2] at k3
  ((conv=>whnf);repeat(refine Xg ?_;conv=>whnf))
  repeat ((first | refine setK_iff.2 ?_ | refine ⟨rfl, ?_⟩); ((conv=>whnf);repeat(refine Xg ?_;conv=>whnf)))
  rw [encD_length, hz]
  ((conv=>whnf);repeat(refine Xg ?_;conv=>whnf))
  repeat ((first | refine setK_iff.2 ?_ | refine ⟨rfl, ?_⟩); ((conv=>whnf);repeat(refine Xg ?_;conv=>whnf)))
  refine k1.go ?_ (.cons (agR _ _) (.cons (agR _ _) .nil)) (agR _ _)
  ((conv=>whnf);repeat(refine Xg ?_;conv=>whnf))
  repeat ((first | refine setK_iff.2 ?_ | refine ⟨rfl, ?_⟩); ((conv=>whnf);repeat(refine Xg ?_;conv=>whnf)))
  refine k2.go ?_ (.cons (agR _ _) (.cons (agR _ _) .nil)) (.tup' (.cons (agR _ _) (.cons (agR _ _) .nil)))
  ((conv=>whnf);repeat(refine Xg ?_;conv=>whnf))
  repeat ((first | refine setK_iff.2 ?_ | refine ⟨rfl, ?_⟩); ((conv=>whnf);repeat(refine Xg ?_;conv=>whnf)))
  refine k3.go ?_ (.cons (agR _ _) (.cons (agR _ _) .nil)) (.tup' (.cons (agR _ _) (.cons (agR _ _) .nil)))
  ((conv=>whnf);repeat(refine Xg ?_;conv=>whnf))
  repeat ((first | refine setK_iff.2 ?_ | refine ⟨rfl, ?_⟩); ((conv=>whnf);repeat(refine Xg ?_;conv=>whnf)))
  exact fin_pure (.tup' (.cons (agF _ _ _ _) (.cons nn .nil))) ⟨rfl, rfl, rfl⟩
theorem fMake0 (p : Int) : PureC Tryz.prog [] 43 [encR p, encR 0] (.tup [encF zF, .int .i64 1]) := by
 have h := fOf 0 ⟨by omega, by omega⟩
 obtain ⟨b, l, c, m, -, -, q3⟩ := encF_ex zF
 have h' : PureC Tryz.prog [] 45 [.int .i64 0] (encF zF) := h
 rw [q3] at h' ⊢
 have e0 : encR 0 = .agg [.bool false, .il 1 []] := by simp [encR, dg_zero, encD]
 rw [e0, encR_eq p]
 generalize decide (p < 0) = bp
 generalize dg 10000 p.natAbs = lp
 refine acalls_go nnΓ Tryz.func43 rfl ?_
 ((conv=>whnf);repeat(refine Xg ?_;conv=>whnf))
 refine h'.go ?_ (.cons nn .nil) (agF _ _ _ _)
 ((conv=>whnf);repeat(refine Xg ?_;conv=>whnf))
 repeat ((first | refine setK_iff.2 ?_ | refine ⟨rfl, ?_⟩); ((conv=>whnf);repeat(refine Xg ?_;conv=>whnf)))
 exact fin_pure (.tup' (.cons (agF _ _ _ _) (.cons nn .nil))) ⟨rfl, rfl, rfl⟩
theorem fRanged (a : Fr) (ha : LF 1000000 a) : PureC Tryz.prog [] 64 [encF a, .int .i64 0] (.tup [encF (rngF a).1, .int .i64 (rngF a).2]) := by
 have h1 := rFits a.p ha.num
 have h2 := rFits (a.q : Int) ha.den'
 have h3 : PureC Tryz.prog [] 45 [.int .i64 0] (encF zF) := fOf 0 ⟨by omega, by omega⟩
 have hr : rngF a = if fits a.p = true ∧ fits a.q = true then (a, 0) else (zF, 4) := rfl
 obtain ⟨b, l, c, m, q1, q2, q3⟩ := encF_ex a
 obtain ⟨b0, l0, c0, m0, -, -, q0⟩ := encF_ex zF
 rw [q1] at h1
 rw [q2] at h2
 rw [q0] at h3
 rw [q3]
 generalize fits a.p = f1 at *
 generalize fits (a.q : Int) = f2 at *
 have hres : AV.tup [encF (rngF a).1, .int .i64 (rngF a).2] = if (f1 && f2) = true then .tup [.agg [.bool b, .il 1 (encD l), .bool c, .il 1 (encD m)], .int .i64 0] else .tup [.agg [.bool b0, .il 1 (encD l0), .bool c0, .il 1 (encD m0)], .int .i64 4] := by
  rw [hr, ← q3, ← q0]
  cases f1 <;> cases f2 <;> rfl
 rw [hres]
 clear hres hr q1 q2 q3 q0
 refine acalls_go nnΓ Tryz.func64 rfl ?_
 cases f1 <;> cases f2
 all_goals ((conv=>whnf);repeat(refine Xg ?_;conv=>whnf))
 all_goals repeat ((first | refine setK_iff.2 ?_ | refine ⟨rfl, ?_⟩); ((conv=>whnf);repeat(refine Xg ?_;conv=>whnf)))
 all_goals refine h1.go ?_ (.cons (agR _ _) .nil) nn
 all_goals ((conv=>whnf);repeat(refine Xg ?_;conv=>whnf))
 all_goals repeat ((first | refine setK_iff.2 ?_ | refine ⟨rfl, ?_⟩); ((conv=>whnf);repeat(refine Xg ?_;conv=>whnf)))
 all_goals refine h2.go ?_ (.cons (agR _ _) .nil) nn
 all_goals ((conv=>whnf);repeat(refine Xg ?_;conv=>whnf))
 all_goals repeat ((first | refine setK_iff.2 ?_ | refine ⟨rfl, ?_⟩); ((conv=>whnf);repeat(refine Xg ?_;conv=>whnf)))
 all_goals (first | (refine h3.go ?_ (.cons nn .nil) (agF _ _ _ _); ((conv=>whnf);repeat(refine Xg ?_;conv=>whnf))) | skip)
 all_goals repeat ((first | refine setK_iff.2 ?_ | refine ⟨rfl, ?_⟩); ((conv=>whnf);repeat(refine Xg ?_;conv=>whnf)))
 all_goals exact fin_pure (.tup' (.cons (agF _ _ _ _) (.cons nn .nil))) ⟨rfl, rfl, rfl⟩
theorem fRangedE (a : Fr) (ha : LF 1000000 a) : PureC Tryz.prog [] 64 [encF a, .int .i64 1] (.tup [encF zF, .int .i64 1]) := by
 have h1 := rFits a.p ha.num
 have h2 := rFits (a.q : Int) ha.den'
 have h3 : PureC Tryz.prog [] 45 [.int .i64 0] (encF zF) := fOf 0 ⟨by omega, by omega⟩
 obtain ⟨b, l, c, m, q1, q2, q3⟩ := encF_ex a
 obtain ⟨b0, l0, c0, m0, -, -, q0⟩ := encF_ex zF
 rw [q1] at h1
 rw [q2] at h2
 rw [q0] at h3
 rw [q3, q0]
 generalize fits a.p = f1 at *
 generalize fits (a.q : Int) = f2 at *
 refine acalls_go nnΓ Tryz.func64 rfl ?_
 ((conv=>whnf);repeat(refine Xg ?_;conv=>whnf))
 repeat ((first | refine setK_iff.2 ?_ | refine ⟨rfl, ?_⟩); ((conv=>whnf);repeat(refine Xg ?_;conv=>whnf)))
 refine h1.go ?_ (.cons (agR _ _) .nil) nn
 ((conv=>whnf);repeat(refine Xg ?_;conv=>whnf))
 repeat ((first | refine setK_iff.2 ?_ | refine ⟨rfl, ?_⟩); ((conv=>whnf);repeat(refine Xg ?_;conv=>whnf)))
 refine h2.go ?_ (.cons (agR _ _) .nil) nn
 ((conv=>whnf);repeat(refine Xg ?_;conv=>whnf))
 repeat ((first | refine setK_iff.2 ?_ | refine ⟨rfl, ?_⟩); ((conv=>whnf);repeat(refine Xg ?_;conv=>whnf)))
 refine h3.go ?_ (.cons nn .nil) (agF _ _ _ _)
 ((conv=>whnf);repeat(refine Xg ?_;conv=>whnf))
 repeat ((first | refine setK_iff.2 ?_ | refine ⟨rfl, ?_⟩); ((conv=>whnf);repeat(refine Xg ?_;conv=>whnf)))
 exact fin_pure (.tup' (.cons (agF _ _ _ _) (.cons nn .nil))) ⟨rfl, rfl, rfl⟩
set_option maxHeartbeats 16000000
set_option linter.unusedSimpArgs false
theorem fAdd (a b : Fr) (ha : LF 200000 a) (hb : LF 200000 b) (ha0 : 0 < a.q) (hb0 : 0 < b.q) : PureC Tryz.prog [] 52 [encF a, encF b] (.tup [encF (addF a b).1, .int .i64 (addF a b).2]) := by
 have hg : 0 < Nat.gcd a.q b.q := Nat.gcd_pos_of_pos_left _ ha0
 have hgl := dgl_gcd hT a.q b.q
 have la1 := ha.num; have la2 := ha.den; have lb1 := hb.num; have lb2 := hb.den
 have hG := rGcd (a.q : Int) (b.q : Int) (by rw [Int.natAbs_natCast]; omega) (by rw [Int.natAbs_natCast]; omega)
 simp only [Int.natAbs_natCast] at hG
 have hS := rDiv (b.q : Int) (Nat.gcd a.q b.q : Nat) (by omega) (by rw [Int.natAbs_natCast]; omega) (by rw [Int.natAbs_natCast]; omega)
 have hQ := rDiv (a.q : Int) (Nat.gcd a.q b.q : Nat) (by omega) (by rw [Int.natAbs_natCast]; omega) (by rw [Int.natAbs_natCast]; omega)
 rw [← Int.natCast_ediv, ← Int.natCast_emod] at hS hQ
 have hls := dgl_div hT b.q (Nat.gcd a.q b.q)
 have hlq := dgl_div hT a.q (Nat.gcd a.q b.q)
 have hq0 : a.q / Nat.gcd a.q b.q ≠ 0 := by have := Nat.div_pos (Nat.gcd_le_left b.q ha0) hg; omega
 have hres : addF a b = if fits (a.p * (b.q / Nat.gcd a.q b.q : Nat)) = true ∧ fits (b.p * (a.q / Nat.gcd a.q b.q : Nat)) = true ∧ fits ((a.q / Nat.gcd a.q b.q : Nat) * b.q) = true ∧ fits (a.p * (b.q / Nat.gcd a.q b.q : Nat) + b.p * (a.q / Nat.gcd a.q b.q : Nat)) = true then (mkF (a.p * (b.q / Nat.gcd a.q b.q : Nat) + b.p * (a.q / Nat.gcd a.q b.q : Nat)) ((a.q / Nat.gcd a.q b.q : Nat) * b.q), 0) else (zF, 4) := rfl
 obtain ⟨x1, x2, hx⟩ := encR_ex ((b.q % Nat.gcd a.q b.q : Nat) : Int)
 obtain ⟨y1, y2, hy⟩ := encR_ex ((a.q % Nat.gcd a.q b.q : Nat) : Int)
 rw [hx] at hS
 rw [hy] at hQ
 generalize b.q % Nat.gcd a.q b.q = rs at *
 generalize a.q % Nat.gcd a.q b.q = rq at *
 generalize b.q / Nat.gcd a.q b.q = s at *
 generalize a.q / Nat.gcd a.q b.q = q at *
 generalize Nat.gcd a.q b.q = g at *
 have e0 : (a.p * (s : Int)).natAbs = a.p.natAbs * s := by rw [Int.natAbs_mul, Int.natAbs_natCast]
 have e1 : (b.p * (q : Int)).natAbs = b.p.natAbs * q := by rw [Int.natAbs_mul, Int.natAbs_natCast]
 have e2 : ((q : Int) * (b.q : Int)).natAbs = q * b.q := by rw [Int.natAbs_mul, Int.natAbs_natCast, Int.natAbs_natCast]
 have l0 := dgl_mul hT a.p.natAbs s
 have l1 := dgl_mul hT b.p.natAbs q
 have l2 := dgl_mul hT q b.q
 have l3 : (dg 10000 (a.p * (s : Int) + b.p * (q : Int)).natAbs).length ≤ 400001 := by
  have h := dgl_add hT (a.p * (s : Int)).natAbs (b.p * (q : Int)).natAbs
  have h2 := dg_len_mono hT (Int.natAbs_add_le (a.p * (s : Int)) (b.p * (q : Int)))
  rw [e0, e1] at h
  rw [e0, e1] at h2
  omega
 have m0 := rMul a.p (s : Int) (by omega) (by rw [Int.natAbs_natCast]; omega)
 have m1 := rMul b.p (q : Int) (by omega) (by rw [Int.natAbs_natCast]; omega)
 have m2 := rMul (q : Int) (b.q : Int) (by rw [Int.natAbs_natCast]; omega) (by rw [Int.natAbs_natCast]; omega)
 have m3 := rAdd (a.p * (s : Int)) (b.p * (q : Int)) (by rw [e0]; omega) (by rw [e1]; omega)
 have z2 : (q : Int) * (b.q : Int) ≠ 0 := Int.mul_ne_zero (by omega) (by omega)
 have t0 := rFits (a.p * (s : Int)) (by rw [e0]; omega)
 have t1 := rFits (b.p * (q : Int)) (by rw [e1]; omega)
 have t2 := rFits ((q : Int) * (b.q : Int)) (by rw [e2]; omega)
 have t3 := rFits (a.p * (s : Int) + b.p * (q : Int)) (by omega)
 have hm := fMake (a.p * (s : Int) + b.p * (q : Int)) ((q : Int) * (b.q : Int)) z2 (by omega) (by rw [e2]; omega)
 have h3 : PureC Tryz.prog [] 45 [.int .i64 0] (encF zF) := fOf 0 ⟨by omega, by omega⟩
 generalize hM : mkF (a.p * (s : Int) + b.p * (q : Int)) ((q : Int) * (b.q : Int)) = M at *
 clear e0 e1 e2 l0 l1 l2 l3 z2 hq0 hgl hg hls hlq hM hx hy
 generalize a.p * (s : Int) + b.p * (q : Int) = w3 at *
 generalize a.p * (s : Int) = w0 at *
 generalize b.p * (q : Int) = w1 at *
 generalize (q : Int) * (b.q : Int) = w2 at *
 generalize fits w0 = f0 at *
 generalize fits w1 = f1 at *
 generalize fits w2 = f2 at *
 generalize fits w3 = f3 at *
 have hR : AV.tup [encF (addF a b).1, .int .i64 (addF a b).2] = if (f0 && (f1 && (f2 && f3))) = true then .tup [encF M, .int .i64 0] else .tup [encF zF, .int .i64 4] := by
  rw [hres]
  cases f0 <;> cases f1 <;> cases f2 <;> cases f3 <;> rfl
 generalize AV.tup [encF (addF a b).1, .int .i64 (addF a b).2] = RES at *
 clear hres
 obtain ⟨ab, al, ac, am, qa1, qa2, qa3⟩ := encF_ex a
 obtain ⟨bb, bl, bc, bm, qb1, qb2, qb3⟩ := encF_ex b
 obtain ⟨Mb, Ml, Mc, Mm, -, -, qM⟩ := encF_ex M
 obtain ⟨b0, l0, c0, m0', -, -, q0⟩ := encF_ex zF
 obtain ⟨gb, gl, eg⟩ := encR_ex (g : Int)
 obtain ⟨sb, sl, es⟩ := encR_ex (s : Int)
 obtain ⟨qb, ql, eq⟩ := encR_ex (q : Int)
 obtain ⟨b0', l0', k0⟩ := encR_ex w0
 obtain ⟨b1', l1', k1⟩ := encR_ex w1
 obtain ⟨b2', l2', k2⟩ := encR_ex w2
 obtain ⟨b3', l3', k3⟩ := encR_ex w3
 rw [qa2, qb2, eg] at hG
 rw [qb2, eg, es] at hS
 rw [qa2, eg, eq] at hQ
 rw [qa1, es, k0] at m0
 rw [qb1, eq, k1] at m1
 rw [eq, qb2, k2] at m2
 rw [k0, k1, k3] at m3
 rw [k0] at t0
 rw [k1] at t1
 rw [k2] at t2
 rw [k3] at t3
 rw [k3, k2, qM] at hm
 rw [q0] at h3
 rw [qM, q0] at hR
 rw [qa3, qb3]
 clear qa1 qa2 qa3 qb1 qb2 qb3 qM q0 eg es eq k0 k1 k2 k3
 have n2 : NN (.tup [.agg [.bool sb, .il 1 (encD sl)], .agg [.bool x1, .il 1 (encD x2)]]) := .tup' (.cons (agR _ _) (.cons (agR _ _) .nil))
 refine acalls_go nnΓ Tryz.func52 rfl ?_
 ((conv=>whnf);repeat(refine Xg ?_;conv=>whnf))
 repeat ((first | refine setK_iff.2 ?_ | refine ⟨rfl, ?_⟩); ((conv=>whnf);repeat(refine Xg ?_;conv=>whnf)))
 refine hG.go ?_ (.cons (agR _ _) (.cons (agR _ _) .nil)) (agR _ _)
 ((conv=>whnf);repeat(refine Xg ?_;conv=>whnf))
 repeat ((first | refine setK_iff.2 ?_ | refine ⟨rfl, ?_⟩); ((conv=>whnf);repeat(refine Xg ?_;conv=>whnf)))
 refine hS.go ?_ (.cons (agR _ _) (.cons (agR _ _) .nil)) (.tup' (.cons (agR _ _) (.cons (agR _ _) .nil)))
 ((conv=>whnf);repeat(refine Xg ?_;conv=>whnf))
 repeat ((first | refine setK_iff.2 ?_ | refine ⟨rfl, ?_⟩); ((conv=>whnf);repeat(refine Xg ?_;conv=>whnf)))
 refine hQ.go ?_ (.cons (agR _ _) (.cons (agR _ _) .nil)) (.tup' (.cons (agR _ _) (.cons (agR _ _) .nil)))
 ((conv=>whnf);repeat(refine Xg ?_;conv=>whnf))
 repeat ((first | refine setK_iff.2 ?_ | refine ⟨rfl, ?_⟩); ((conv=>whnf);repeat(refine Xg ?_;conv=>whnf)))
 refine m0.go ?_ (.cons (agR _ _) (.cons (agR _ _) .nil)) (agR _ _)
 ((conv=>whnf);repeat(refine Xg ?_;conv=>whnf))
 repeat ((first | refine setK_iff.2 ?_ | refine ⟨rfl, ?_⟩); ((conv=>whnf);repeat(refine Xg ?_;conv=>whnf)))
 refine m1.go ?_ (.cons (agR _ _) (.cons (agR _ _) .nil)) (agR _ _)
 ((conv=>whnf);repeat(refine Xg ?_;conv=>whnf))
 repeat ((first | refine setK_iff.2 ?_ | refine ⟨rfl, ?_⟩); ((conv=>whnf);repeat(refine Xg ?_;conv=>whnf)))
 refine m2.go ?_ (.cons (agR _ _) (.cons (agR _ _) .nil)) (agR _ _)
 ((conv=>whnf);repeat(refine Xg ?_;conv=>whnf))
 repeat ((first | refine setK_iff.2 ?_ | refine ⟨rfl, ?_⟩); ((conv=>whnf);repeat(refine Xg ?_;conv=>whnf)))
 refine m3.go ?_ (.cons (agR _ _) (.cons (agR _ _) .nil)) (agR _ _)
 ((conv=>whnf);repeat(refine Xg ?_;conv=>whnf))
 repeat ((first | refine setK_iff.2 ?_ | refine ⟨rfl, ?_⟩); ((conv=>whnf);repeat(refine Xg ?_;conv=>whnf)))
 refine ALoop.at nnΓ (fun i : Nat => i ≤ 4 ∧ (0 < i → f0 = true) ∧ (1 < i → f1 = true) ∧ (2 < i → f2 = true) ∧ (3 < i → f3 = true))
  (fun i => ⟨[(4, .ptr 0 0 0), (11, .sl 1 0 4), (12, .int .i64 i)], [(0, .row 45 4 [.agg [.bool false, .nsl, .bool false, .nsl]]), (1, .row 43 2 [.agg [.bool b0', .il 1 (encD l0')], .agg [.bool b1', .il 1 (encD l1')], .agg [.bool b2', .il 1 (encD l2')], .agg [.bool b3', .il 1 (encD l3')]])], 2, 77⟩)
  (fun i => 4 - i) 0 [(2, 0), (33, 1)] (by simp)
  (conv_mk _ rfl ⟨⟨2, _, rfl, rfl, .same nF0⟩, ⟨33, _, rfl, rfl, .same (.cons (agR _ _) (.cons (agR _ _) (.cons (agR _ _) (.cons (agR _ _) .nil))))⟩, trivial⟩
   ⟨⟨_, rfl, .ptr 2 0 0 0 rfl⟩, ⟨_, rfl, .slE rfl rfl⟩, ⟨_, rfl, .same _ nn⟩, trivial⟩) ?_
 rintro i ⟨i1, i2, i3, i4, i5⟩
 rcases (show i = 0 ∨ i = 1 ∨ i = 2 ∨ i = 3 ∨ i = 4 by omega) with rfl | rfl | rfl | rfl | rfl
 ·skip
  ((conv=>whnf);repeat(refine Xg ?_;conv=>whnf))
  repeat ((first | refine setK_iff.2 ?_ | refine ⟨rfl, ?_⟩); ((conv=>whnf);repeat(refine Xg ?_;conv=>whnf)))
  refine t0.go ?_ (.cons (agR _ _) .nil) nn
  cases f0
  ·((conv=>whnf);repeat(refine Xg ?_;conv=>whnf))
   refine h3.go ?_ (.cons nn .nil) (agF _ _ _ _)
   ((conv=>whnf);repeat(refine Xg ?_;conv=>whnf))
   repeat ((first | refine setK_iff.2 ?_ | refine ⟨rfl, ?_⟩); ((conv=>whnf);repeat(refine Xg ?_;conv=>whnf)))
   exact fin_pure (.tup' (.cons (agF _ _ _ _) (.cons nn .nil))) ⟨by rw [hR]; rfl, rfl, rfl⟩
  ·((conv=>whnf);repeat(refine Xg ?_;conv=>whnf))
   exact .mk 1 [(0, 0), (1, 1)] ⟨by omega, fun _ => rfl, fun h => absurd h (by omega), fun h => absurd h (by omega), fun h => absurd h (by omega)⟩
    (conv_mk _ rfl ⟨⟨0, _, rfl, rfl, .same nF0⟩, ⟨1, _, rfl, rfl, .same (.cons (agR _ _) (.cons (agR _ _) (.cons (agR _ _) (.cons (agR _ _) .nil))))⟩, trivial⟩
     ⟨⟨_, rfl, .ptr 0 0 0 0 rfl⟩, ⟨_, rfl, .slE rfl rfl⟩, ⟨_, rfl, .int (by decide)⟩, trivial⟩) (by omega)
 ·skip
  have p0 := i2 (by omega)
  subst p0
  ((conv=>whnf);repeat(refine Xg ?_;conv=>whnf))
  repeat ((first | refine setK_iff.2 ?_ | refine ⟨rfl, ?_⟩); ((conv=>whnf);repeat(refine Xg ?_;conv=>whnf)))
  refine t1.go ?_ (.cons (agR _ _) .nil) nn
  cases f1
  ·((conv=>whnf);repeat(refine Xg ?_;conv=>whnf))
   refine h3.go ?_ (.cons nn .nil) (agF _ _ _ _)
   ((conv=>whnf);repeat(refine Xg ?_;conv=>whnf))
   repeat ((first | refine setK_iff.2 ?_ | refine ⟨rfl, ?_⟩); ((conv=>whnf);repeat(refine Xg ?_;conv=>whnf)))
   exact fin_pure (.tup' (.cons (agF _ _ _ _) (.cons nn .nil))) ⟨by rw [hR]; rfl, rfl, rfl⟩
  ·((conv=>whnf);repeat(refine Xg ?_;conv=>whnf))
   exact .mk 2 [(0, 0), (1, 1)] ⟨by omega, fun _ => rfl, fun _ => rfl, fun h => absurd h (by omega), fun h => absurd h (by omega)⟩
    (conv_mk _ rfl ⟨⟨0, _, rfl, rfl, .same nF0⟩, ⟨1, _, rfl, rfl, .same (.cons (agR _ _) (.cons (agR _ _) (.cons (agR _ _) (.cons (agR _ _) .nil))))⟩, trivial⟩
     ⟨⟨_, rfl, .ptr 0 0 0 0 rfl⟩, ⟨_, rfl, .slE rfl rfl⟩, ⟨_, rfl, .int (by decide)⟩, trivial⟩) (by omega)
 ·skip
  have p0 := i2 (by omega)
  subst p0
  have p1 := i3 (by omega)
  subst p1
  ((conv=>whnf);repeat(refine Xg ?_;conv=>whnf))
  repeat ((first | refine setK_iff.2 ?_ | refine ⟨rfl, ?_⟩); ((conv=>whnf);repeat(refine Xg ?_;conv=>whnf)))
  refine t2.go ?_ (.cons (agR _ _) .nil) nn
  cases f2
  ·((conv=>whnf);repeat(refine Xg ?_;conv=>whnf))
   refine h3.go ?_ (.cons nn .nil) (agF _ _ _ _)
   ((conv=>whnf);repeat(refine Xg ?_;conv=>whnf))
   repeat ((first | refine setK_iff.2 ?_ | refine ⟨rfl, ?_⟩); ((conv=>whnf);repeat(refine Xg ?_;conv=>whnf)))
   exact fin_pure (.tup' (.cons (agF _ _ _ _) (.cons nn .nil))) ⟨by rw [hR]; rfl, rfl, rfl⟩
  ·((conv=>whnf);repeat(refine Xg ?_;conv=>whnf))
   exact .mk 3 [(0, 0), (1, 1)] ⟨by omega, fun _ => rfl, fun _ => rfl, fun _ => rfl, fun h => absurd h (by omega)⟩
    (conv_mk _ rfl ⟨⟨0, _, rfl, rfl, .same nF0⟩, ⟨1, _, rfl, rfl, .same (.cons (agR _ _) (.cons (agR _ _) (.cons (agR _ _) (.cons (agR _ _) .nil))))⟩, trivial⟩
     ⟨⟨_, rfl, .ptr 0 0 0 0 rfl⟩, ⟨_, rfl, .slE rfl rfl⟩, ⟨_, rfl, .int (by decide)⟩, trivial⟩) (by omega)
 ·skip
  have p0 := i2 (by omega)
  subst p0
  have p1 := i3 (by omega)
  subst p1
  have p2 := i4 (by omega)
  subst p2
  ((conv=>whnf);repeat(refine Xg ?_;conv=>whnf))
  repeat ((first | refine setK_iff.2 ?_ | refine ⟨rfl, ?_⟩); ((conv=>whnf);repeat(refine Xg ?_;conv=>whnf)))
  refine t3.go ?_ (.cons (agR _ _) .nil) nn
  cases f3
  ·((conv=>whnf);repeat(refine Xg ?_;conv=>whnf))
   refine h3.go ?_ (.cons nn .nil) (agF _ _ _ _)
   ((conv=>whnf);repeat(refine Xg ?_;conv=>whnf))
   repeat ((first | refine setK_iff.2 ?_ | refine ⟨rfl, ?_⟩); ((conv=>whnf);repeat(refine Xg ?_;conv=>whnf)))
   exact fin_pure (.tup' (.cons (agF _ _ _ _) (.cons nn .nil))) ⟨by rw [hR]; rfl, rfl, rfl⟩
  ·((conv=>whnf);repeat(refine Xg ?_;conv=>whnf))
   exact .mk 4 [(0, 0), (1, 1)] ⟨by omega, fun _ => rfl, fun _ => rfl, fun _ => rfl, fun _ => rfl⟩
    (conv_mk _ rfl ⟨⟨0, _, rfl, rfl, .same nF0⟩, ⟨1, _, rfl, rfl, .same (.cons (agR _ _) (.cons (agR _ _) (.cons (agR _ _) (.cons (agR _ _) .nil))))⟩, trivial⟩
     ⟨⟨_, rfl, .ptr 0 0 0 0 rfl⟩, ⟨_, rfl, .slE rfl rfl⟩, ⟨_, rfl, .int (by decide)⟩, trivial⟩) (by omega)
 ·skip
  have p0 := i2 (by omega)
  subst p0
  have p1 := i3 (by omega)
  subst p1
  have p2 := i4 (by omega)
  subst p2
  have p3 := i5 (by omega)
  subst p3
  ((conv=>whnf);repeat(refine Xg ?_;conv=>whnf))
  repeat ((first | refine setK_iff.2 ?_ | refine ⟨rfl, ?_⟩); ((conv=>whnf);repeat(refine Xg ?_;conv=>whnf)))
  refine hm.go ?_ (.cons (agR _ _) (.cons (agR _ _) .nil)) (.tup' (.cons (agF _ _ _ _) (.cons nn .nil)))
  ((conv=>whnf);repeat(refine Xg ?_;conv=>whnf))
  repeat ((first | refine setK_iff.2 ?_ | refine ⟨rfl, ?_⟩); ((conv=>whnf);repeat(refine Xg ?_;conv=>whnf)))
  exact fin_pure (.tup' (.cons (agF _ _ _ _) (.cons nn .nil))) ⟨by rw [hR]; rfl, rfl, rfl⟩
theorem fNeg (a : Fr) (ha : LF 1000000 a) : PureC Tryz.prog [] 89 [encF a] (encF (negF a)) := by
 have h := rNeg a.p (by have := ha.num; omega)
 obtain ⟨ab, al, ac, am, qa1, qa2, qa3⟩ := encF_ex a
 obtain ⟨nb, nl, en⟩ := encR_ex (-a.p)
 have qn : encF (negF a) = .agg [.bool nb, .il 1 (encD nl), .bool ac, .il 1 (encD am)] := encF_mk (a := negF a) en qa2
 rw [qa1, en] at h
 rw [qa3, qn]
 clear qa1 qa2 qa3 en qn
 refine acalls_go nnΓ Tryz.func89 rfl ?_
 ((conv=>whnf);repeat(refine Xg ?_;conv=>whnf))
 repeat ((first | refine setK_iff.2 ?_ | refine ⟨rfl, ?_⟩); ((conv=>whnf);repeat(refine Xg ?_;conv=>whnf)))
 refine h.go ?_ (.cons (agR _ _) .nil) (agR _ _)
 ((conv=>whnf);repeat(refine Xg ?_;conv=>whnf))
 repeat ((first | refine setK_iff.2 ?_ | refine ⟨rfl, ?_⟩); ((conv=>whnf);repeat(refine Xg ?_;conv=>whnf)))
 exact fin_pure (agF _ _ _ _) ⟨rfl, rfl, rfl⟩
theorem LF.neg {n : Nat} {a : Fr} (h : LF n a) : LF n (negF a) := ⟨by unfold negF; simp only [Int.natAbs_neg]; exact h.num, h.den⟩
theorem fSub (a b : Fr) (ha : LF 200000 a) (hb : LF 200000 b) (ha0 : 0 < a.q) (hb0 : 0 < b.q) : PureC Tryz.prog [] 53 [encF a, encF b] (.tup [encF (subF a b).1, .int .i64 (subF a b).2]) := by
 have h1 := fNeg b ⟨by have := hb.num; omega, by have := hb.den; omega⟩
 have h2 : PureC Tryz.prog [] 52 [encF a, encF (negF b)] (.tup [encF (subF a b).1, .int .i64 (subF a b).2]) := fAdd a (negF b) ha hb.neg ha0 hb0
 obtain ⟨ab, al, ac, am, -, -, qa3⟩ := encF_ex a
 obtain ⟨bb, bl, bc, bm, -, -, qb3⟩ := encF_ex b
 obtain ⟨nb, nl, nc, nm, -, -, qn⟩ := encF_ex (negF b)
 obtain ⟨rb, rl, rc, rm, -, -, qr⟩ := encF_ex (subF a b).1
 generalize (subF a b).2 = e at *
 rw [qb3, qn] at h1
 rw [qa3, qn, qr] at h2
 rw [qa3, qb3, qr]
 clear qa3 qb3 qn qr
 refine acalls_go nnΓ Tryz.func53 rfl ?_
 ((conv=>whnf);repeat(refine Xg ?_;conv=>whnf))
 repeat ((first | refine setK_iff.2 ?_ | refine ⟨rfl, ?_⟩); ((conv=>whnf);repeat(refine Xg ?_;conv=>whnf)))
 refine h1.go ?_ (.cons (agF _ _ _ _) .nil) (agF _ _ _ _)
 ((conv=>whnf);repeat(refine Xg ?_;conv=>whnf))
 repeat ((first | refine setK_iff.2 ?_ | refine ⟨rfl, ?_⟩); ((conv=>whnf);repeat(refine Xg ?_;conv=>whnf)))
 refine h2.go ?_ (.cons (agF _ _ _ _) (.cons (agF _ _ _ _) .nil)) (.tup' (.cons (agF _ _ _ _) (.cons nn .nil)))
 ((conv=>whnf);repeat(refine Xg ?_;conv=>whnf))
 repeat ((first | refine setK_iff.2 ?_ | refine ⟨rfl, ?_⟩); ((conv=>whnf);repeat(refine Xg ?_;conv=>whnf)))
 exact fin_pure (.tup' (.cons (agF _ _ _ _) (.cons nn .nil))) ⟨rfl, rfl, rfl⟩
theorem LF.mkF {n : Nat} {p q : Int} (h1 : (dg 10000 p.natAbs).length ≤ n) (h2 : (dg 10000 q.natAbs).length ≤ n) : LF n (mkF p q) :=
 ⟨Nat.le_trans (dg_len_mono hT (mkF_num p q)) h1, Nat.le_trans (dg_len_mono hT (mkF_den p q)) h2⟩
theorem fMul (a b : Fr) (ha : LF 200000 a) (hb : LF 200000 b) (ha0 : 0 < a.q) (hb0 : 0 < b.q) : PureC Tryz.prog [] 33 [encF a, encF b] (.tup [encF (mulF a b).1, .int .i64 (mulF a b).2]) := by
 have la1 := ha.num; have la2 := ha.den; have lb1 := hb.num; have lb2 := hb.den
 have l0 := dgl_mul hT a.p.natAbs b.p.natAbs
 have l1 := dgl_mul hT a.q b.q
 have e0 : (a.p * b.p).natAbs = a.p.natAbs * b.p.natAbs := Int.natAbs_mul _ _
 have e1 : ((a.q : Int) * (b.q : Int)).natAbs = a.q * b.q := by rw [Int.natAbs_mul, Int.natAbs_natCast, Int.natAbs_natCast]
 have m0 := rMul a.p b.p (by omega) (by omega)
 have m1 := rMul (a.q : Int) (b.q : Int) (by rw [Int.natAbs_natCast]; omega) (by rw [Int.natAbs_natCast]; omega)
 have hz : (a.q : Int) * (b.q : Int) ≠ 0 := Int.mul_ne_zero (by omega) (by omega)
 have h2 := fMake (a.p * b.p) ((a.q : Int) * (b.q : Int)) hz (by rw [e0]; omega) (by rw [e1]; omega)
 have h3 : PureC Tryz.prog [] 64 [encF (mkF (a.p * b.p) ((a.q : Int) * (b.q : Int))), .int .i64 0] (.tup [encF (mulF a b).1, .int .i64 (mulF a b).2]) := fRanged _ (LF.mkF (by rw [e0]; omega) (by rw [e1]; omega))
 generalize mkF (a.p * b.p) ((a.q : Int) * (b.q : Int)) = M at *
 obtain ⟨rb, rl, rc, rm, -, -, qr⟩ := encF_ex (mulF a b).1
 generalize (mulF a b).2 = e at *
 obtain ⟨ab, al, ac, am, qa1, qa2, qa3⟩ := encF_ex a
 obtain ⟨bb, bl, bc, bm, qb1, qb2, qb3⟩ := encF_ex b
 obtain ⟨nb, nl, en⟩ := encR_ex (a.p * b.p)
 obtain ⟨db, dl, ed⟩ := encR_ex ((a.q : Int) * (b.q : Int))
 obtain ⟨Mb, Ml, Mc, Mm, -, -, qM⟩ := encF_ex M
 rw [qa1, qb1, en] at m0
 rw [qa2, qb2, ed] at m1
 rw [en, ed, qM] at h2
 rw [qM, qr] at h3
 rw [qa3, qb3, qr]
 clear qa1 qa2 qa3 qb1 qb2 qb3 en ed qM qr e0 e1 hz l0 l1
 refine acalls_go nnΓ Tryz.func33 rfl ?_
 ((conv=>whnf);repeat(refine Xg ?_;conv=>whnf))
 repeat ((first | refine setK_iff.2 ?_ | refine ⟨rfl, ?_⟩); ((conv=>whnf);repeat(refine Xg ?_;conv=>whnf)))
 refine m0.go ?_ (.cons (agR _ _) (.cons (agR _ _) .nil)) (agR _ _)
 ((conv=>whnf);repeat(refine Xg ?_;conv=>whnf))
 repeat ((first | refine setK_iff.2 ?_ | refine ⟨rfl, ?_⟩); ((conv=>whnf);repeat(refine Xg ?_;conv=>whnf)))
 refine m1.go ?_ (.cons (agR _ _) (.cons (agR _ _) .nil)) (agR _ _)
 ((conv=>whnf);repeat(refine Xg ?_;conv=>whnf))
 repeat ((first | refine setK_iff.2 ?_ | refine ⟨rfl, ?_⟩); ((conv=>whnf);repeat(refine Xg ?_;conv=>whnf)))
 refine h2.go ?_ (.cons (agR _ _) (.cons (agR _ _) .nil)) (.tup' (.cons (agF _ _ _ _) (.cons nn .nil)))
 ((conv=>whnf);repeat(refine Xg ?_;conv=>whnf))
 repeat ((first | refine setK_iff.2 ?_ | refine ⟨rfl, ?_⟩); ((conv=>whnf);repeat(refine Xg ?_;conv=>whnf)))
 refine h3.go ?_ (.cons (agF _ _ _ _) (.cons nn .nil)) (.tup' (.cons (agF _ _ _ _) (.cons nn .nil)))
 ((conv=>whnf);repeat(refine Xg ?_;conv=>whnf))
 repeat ((first | refine setK_iff.2 ?_ | refine ⟨rfl, ?_⟩); ((conv=>whnf);repeat(refine Xg ?_;conv=>whnf)))
 exact fin_pure (.tup' (.cons (agF _ _ _ _) (.cons nn .nil))) ⟨rfl, rfl, rfl⟩
theorem fDiv (a b : Fr) (ha : LF 200000 a) (hb : LF 200000 b) (ha0 : 0 < a.q) (hb0 : 0 < b.q) : PureC Tryz.prog [] 54 [encF a, encF b] (.tup [encF (divF a b).1, .int .i64 (divF a b).2]) := by
 have la1 := ha.num; have la2 := ha.den; have lb1 := hb.num; have lb2 := hb.den
 have l0 := dgl_mul hT a.p.natAbs b.q
 have l1 := dgl_mul hT a.q b.p.natAbs
 have e0 : (a.p * (b.q : Int)).natAbs = a.p.natAbs * b.q := by rw [Int.natAbs_mul, Int.natAbs_natCast]
 have e1 : ((a.q : Int) * b.p).natAbs = a.q * b.p.natAbs := by rw [Int.natAbs_mul, Int.natAbs_natCast]
 have m0 := rMul a.p (b.q : Int) (by omega) (by rw [Int.natAbs_natCast]; omega)
 have m1 := rMul (a.q : Int) b.p (by rw [Int.natAbs_natCast]; omega) (by omega)
 obtain ⟨M, e, h2, h3⟩ : ∃ (M : Fr) (e : Int), PureC Tryz.prog [] 43 [encR (a.p * (b.q : Int)), encR ((a.q : Int) * b.p)] (.tup [encF M, .int .i64 e]) ∧ PureC Tryz.prog [] 64 [encF M, .int .i64 e] (.tup [encF (divF a b).1, .int .i64 (divF a b).2]) := by
  by_cases hz : b.p = 0
  ·refine ⟨zF, 1, ?_, ?_⟩
   ·rw [hz, Int.mul_zero]; exact fMake0 _
   ·unfold divF; rw [if_pos hz]
    exact fRangedE zF ⟨by simp [zF, dg_zero], by simp only [zF]; exact Nat.le_trans (dgl_small hT (by decide)) (by decide)⟩
  ·have hq : (a.q : Int) * b.p ≠ 0 := Int.mul_ne_zero (by omega) hz
   refine ⟨_, 0, fMake _ _ hq (by rw [e0]; omega) (by rw [e1]; omega), ?_⟩
   unfold divF; rw [if_neg hz]
   exact fRanged _ (LF.mkF (by rw [e0]; omega) (by rw [e1]; omega))
 obtain ⟨rb, rl, rc, rm, -, -, qr⟩ := encF_ex (divF a b).1
 generalize (divF a b).2 = e' at *
 obtain ⟨ab, al, ac, am, qa1, qa2, qa3⟩ := encF_ex a
 obtain ⟨bb, bl, bc, bm, qb1, qb2, qb3⟩ := encF_ex b
 obtain ⟨nb, nl, en⟩ := encR_ex (a.p * (b.q : Int))
 obtain ⟨db, dl, ed⟩ := encR_ex ((a.q : Int) * b.p)
 obtain ⟨Mb, Ml, Mc, Mm, -, -, qM⟩ := encF_ex M
 rw [qa1, qb2, en] at m0
 rw [qa2, qb1, ed] at m1
 rw [en, ed, qM] at h2
 rw [qM, qr] at h3
 rw [qa3, qb3, qr]
 clear qa1 qa2 qa3 qb1 qb2 qb3 en ed qM qr e0 e1 l0 l1
 refine acalls_go nnΓ Tryz.func54 rfl ?_
 ((conv=>whnf);repeat(refine Xg ?_;conv=>whnf))
 repeat ((first | refine setK_iff.2 ?_ | refine ⟨rfl, ?_⟩); ((conv=>whnf);repeat(refine Xg ?_;conv=>whnf)))
 refine m0.go ?_ (.cons (agR _ _) (.cons (agR _ _) .nil)) (agR _ _)
 ((conv=>whnf);repeat(refine Xg ?_;conv=>whnf))
 repeat ((first | refine setK_iff.2 ?_ | refine ⟨rfl, ?_⟩); ((conv=>whnf);repeat(refine Xg ?_;conv=>whnf)))
 refine m1.go ?_ (.cons (agR _ _) (.cons (agR _ _) .nil)) (agR _ _)
 ((conv=>whnf);repeat(refine Xg ?_;conv=>whnf))
 repeat ((first | refine setK_iff.2 ?_ | refine ⟨rfl, ?_⟩); ((conv=>whnf);repeat(refine Xg ?_;conv=>whnf)))
 refine h2.go ?_ (.cons (agR _ _) (.cons (agR _ _) .nil)) (.tup' (.cons (agF _ _ _ _) (.cons nn .nil)))
 ((conv=>whnf);repeat(refine Xg ?_;conv=>whnf))
 repeat ((first | refine setK_iff.2 ?_ | refine ⟨rfl, ?_⟩); ((conv=>whnf);repeat(refine Xg ?_;conv=>whnf)))
 refine h3.go ?_ (.cons (agF _ _ _ _) (.cons nn .nil)) (.tup' (.cons (agF _ _ _ _) (.cons nn .nil)))
 ((conv=>whnf);repeat(refine Xg ?_;conv=>whnf))
 repeat ((first | refine setK_iff.2 ?_ | refine ⟨rfl, ?_⟩); ((conv=>whnf);repeat(refine Xg ?_;conv=>whnf)))
 exact fin_pure (.tup' (.cons (agF _ _ _ _) (.cons nn .nil))) ⟨rfl, rfl, rfl⟩
theorem fCompare (a b : Fr) (ha : LF 200000 a) (hb : LF 200000 b) : PureC Tryz.prog [] 34 [encF a, encF b] (.int .i64 (cmpF a b)) := by
 have la1 := ha.num; have la2 := ha.den; have lb1 := hb.num; have lb2 := hb.den
 have l0 := dgl_mul hT a.p.natAbs b.q
 have l1 := dgl_mul hT b.p.natAbs a.q
 have e0 : (a.p * (b.q : Int)).natAbs = a.p.natAbs * b.q := by rw [Int.natAbs_mul, Int.natAbs_natCast]
 have e1 : (b.p * (a.q : Int)).natAbs = b.p.natAbs * a.q := by rw [Int.natAbs_mul, Int.natAbs_natCast]
 have m0 := rMul a.p (b.q : Int) (by omega) (by rw [Int.natAbs_natCast]; omega)
 have m1 := rMul b.p (a.q : Int) (by omega) (by rw [Int.natAbs_natCast]; omega)
 have h2 : PureC Tryz.prog [] 65 [encR (a.p * (b.q : Int)), encR (b.p * (a.q : Int))] (.int .i64 (cmpF a b)) := rCompare _ _ (by rw [e0]; omega) (by rw [e1]; omega)
 generalize cmpF a b = c at *
 obtain ⟨ab, al, ac, am, qa1, qa2, qa3⟩ := encF_ex a
 obtain ⟨bb, bl, bc, bm, qb1, qb2, qb3⟩ := encF_ex b
 obtain ⟨nb, nl, en⟩ := encR_ex (a.p * (b.q : Int))
 obtain ⟨db, dl, ed⟩ := encR_ex (b.p * (a.q : Int))
 rw [qa1, qb2, en] at m0
 rw [qb1, qa2, ed] at m1
 rw [en, ed] at h2
 rw [qa3, qb3]
 clear qa1 qa2 qa3 qb1 qb2 qb3 en ed e0 e1 l0 l1
 refine acalls_go nnΓ Tryz.func34 rfl ?_
 ((conv=>whnf);repeat(refine Xg ?_;conv=>whnf))
 repeat ((first | refine setK_iff.2 ?_ | refine ⟨rfl, ?_⟩); ((conv=>whnf);repeat(refine Xg ?_;conv=>whnf)))
 refine m0.go ?_ (.cons (agR _ _) (.cons (agR _ _) .nil)) (agR _ _)
 ((conv=>whnf);repeat(refine Xg ?_;conv=>whnf))
 repeat ((first | refine setK_iff.2 ?_ | refine ⟨rfl, ?_⟩); ((conv=>whnf);repeat(refine Xg ?_;conv=>whnf)))
 refine m1.go ?_ (.cons (agR _ _) (.cons (agR _ _) .nil)) (agR _ _)
 ((conv=>whnf);repeat(refine Xg ?_;conv=>whnf))
 repeat ((first | refine setK_iff.2 ?_ | refine ⟨rfl, ?_⟩); ((conv=>whnf);repeat(refine Xg ?_;conv=>whnf)))
 refine h2.go ?_ (.cons (agR _ _) (.cons (agR _ _) .nil)) nn
 ((conv=>whnf);repeat(refine Xg ?_;conv=>whnf))
 repeat ((first | refine setK_iff.2 ?_ | refine ⟨rfl, ?_⟩); ((conv=>whnf);repeat(refine Xg ?_;conv=>whnf)))
 exact fin_pure nn ⟨rfl, rfl, rfl⟩
theorem fSign (a : Fr) : PureC Tryz.prog [] 51 [encF a] (.int .i64 (sgnF a)) := by
 have hz := dg_len_zero (B := 10000) (n := a.p.natAbs) hT
 have hs : sgnF a = if a.p.natAbs = 0 then 0 else if decide (a.p < 0) = true then -1 else 1 := by
  unfold sgnF cmpJ
  by_cases h : a.p < 0
  ·rw [if_pos h, if_neg (by omega), if_pos (decide_eq_true h)]
  ·by_cases h0 : a.p = 0
   ·rw [h0]; simp
   ·rw [if_neg h, if_pos (by omega), if_neg (by omega), if_neg (by simpa using h)]
 unfold encF
 rw [hs]
 generalize decide (a.p < 0) = b at *
 have hl : ((((dg 10000 a.p.natAbs).length : Nat) : Int) == 0) = decide (a.p.natAbs = 0) := by
  have := decide_eq_decide.1 hz
  by_cases h : a.p.natAbs = 0
  ·rw [h, dg_zero]; rfl
  ·rw [decide_eq_false h]; simp; intro e; rw [e] at this; simp at this; omega
 generalize dg 10000 a.p.natAbs = l at *
 generalize a.p.natAbs = n at *
 refine acalls_go nnΓ Tryz.func51 rfl ?_
 ((conv=>whnf);repeat(refine Xg ?_;conv=>whnf))
 rw [encD_length, hl]
 refine bcs_mk (fun h => ?_) (fun h => ?_)
 ·rw [if_pos (of_decide_eq_true h)]
  ((conv=>whnf);repeat(refine Xg ?_;conv=>whnf))
  exact fin_pure nn ⟨rfl, rfl, rfl⟩
 ·rw [if_neg (of_decide_eq_false h)]
  cases b
  all_goals ((conv=>whnf);repeat(refine Xg ?_;conv=>whnf))
  all_goals exact fin_pure nn ⟨rfl, rfl, rfl⟩
set_option maxHeartbeats 16000000
set_option linter.unusedSimpArgs false
theorem hW : (2 : Nat) ≤ 4294967296 := by decide
theorem encW_ex (z : Int) : ∃ b l, encW z = .agg [.bool b, .il 1 (encU l)] := ⟨_, _, rfl⟩
theorem nW0 : NNs [.agg [.bool false, .nsl]] := nN false
def encP (a : Fr) : AV := .agg [.bool (decide (a.p < 0)), .il 1 (encU (dg 4294967296 a.p.natAbs)), .bool (decide ((a.q : Int) < 0)), .il 1 (encU (dg 4294967296 (a.q : Int).natAbs))]
theorem agP (b c : Bool) (l m : List Nat) : NN (.agg [.bool b, .il 1 (encU l), .bool c, .il 1 (encU m)]) := .agg' (.cons (tB _) (.cons (tU _) (.cons (tB _) (.cons (tU _) .nil))))
theorem encP_mk {a : Fr} {b c : Bool} {l m : List Nat} (h1 : encW a.p = .agg [.bool b, .il 1 (encU l)]) (h2 : encW (a.q : Int) = .agg [.bool c, .il 1 (encU m)]) : encP a = .agg [.bool b, .il 1 (encU l), .bool c, .il 1 (encU m)] := by
 unfold encW at h1 h2
 unfold encP
 simp only [AV.agg.injEq, List.cons.injEq, and_true] at h1 h2
 rw [h1.1, h1.2, h2.1, h2.2]
theorem encP_ex (a : Fr) : ∃ b l c m, encW a.p = .agg [.bool b, .il 1 (encU l)] ∧ encW (a.q : Int) = .agg [.bool c, .il 1 (encU m)] ∧ encP a = .agg [.bool b, .il 1 (encU l), .bool c, .il 1 (encU m)] := ⟨_, _, _, _, rfl, rfl, rfl⟩
def nilF : Fr := ⟨0, 0⟩
theorem encP_nil : encP nilF = .agg [.bool false, .il 1 [], .bool false, .il 1 []] := by simp [encP, nilF, dg_zero, encU]
theorem cvNil {mem : Mem} {σ : List (Nat × Nat)} : Cv mem σ (.agg [.bool false, .nsl, .bool false, .nsl]) (.agg [.bool false, .il 1 [], .bool false, .il 1 []]) :=
 .agg' (.cons (.same _ (tB _)) (.cons (.nil 1) (.cons (.same _ (tB _)) (.cons (.nil 1) .nil))))
theorem cvNilW {mem : Mem} {σ : List (Nat × Nat)} : Cv mem σ (.agg [.bool false, .nsl]) (.agg [.bool false, .il 1 []]) := .agg' (.cons (.same _ (tB _)) (.cons (.nil 1) .nil))
structure LP (n : Nat) (a : Fr) : Prop where
 num : (dg 4294967296 a.p.natAbs).length ≤ n
 den : (dg 4294967296 a.q).length ≤ n
theorem LP.den' {n : Nat} {a : Fr} (h : LP n a) : (dg 4294967296 (a.q : Int).natAbs).length ≤ n := by rw [Int.natAbs_natCast]; exact h.den
theorem pProduct (x y : Int) (hx : fits x = true) (hy : (dg 4294967296 y.natAbs).length ≤ 1000000) : PureC Tryz.prog [] 60 [.il 2 [encW x, encW y]] (rngW (x * y)) := by
 have hxl : (dg 4294967296 x.natAbs).length ≤ 512 := fits_nW hx
 have h0 := wFrom ((1 : Nat) : Int) ⟨by omega, by omega⟩
 have h1 := wMulI ((1 : Nat) : Int) x (by have : (dg 4294967296 1).length ≤ 1 := dgl_small hW (by decide); rw [Int.natAbs_natCast]; omega) (by omega)
 rw [show ((1 : Nat) : Int) * x = x by omega] at h1
 have e1 : rngW x = .tup [encW x, .int .i64 0] := by unfold rngW; rw [if_pos hx]
 rw [e1] at h1
 have h2 := wMulI x y (by omega) hy
 have hr : rngW (x * y) = if fits (x * y) = true then .tup [encW (x * y), .int .i64 0] else .tup [encW 0, .int .i64 4] := rfl
 have hnn := rngW_nn (x * y)
 rw [hr] at h2 hnn ⊢
 rw [encW0] at h2 hnn ⊢
 obtain ⟨b1, l1, q1⟩ := encW_ex ((1 : Nat) : Int)
 obtain ⟨bx, lx, qx⟩ := encW_ex x
 obtain ⟨by_, ly, qy⟩ := encW_ex y
 obtain ⟨bz, lz, qz⟩ := encW_ex (x * y)
 rw [q1] at h0
 rw [q1, qx] at h1
 rw [qx, qy, qz] at h2
 rw [qz] at hnn
 rw [qx, qy, qz]
 generalize fits (x * y) = f at *
 clear q1 qx qy qz hr e1
 refine acalls_go nnΓ Tryz.func60 rfl ?_
 ((conv=>whnf);repeat(refine Xg ?_;conv=>whnf))
 repeat ((first | refine setK_iff.2 ?_ | refine ⟨rfl, ?_⟩); ((conv=>whnf);repeat(refine Xg ?_;conv=>whnf)))
 refine h0.go ?_ (.cons nn .nil) (agW _ _)
 ((conv=>whnf);repeat(refine Xg ?_;conv=>whnf))
 repeat ((first | refine setK_iff.2 ?_ | refine ⟨rfl, ?_⟩); ((conv=>whnf);repeat(refine Xg ?_;conv=>whnf)))
 have n2 : NN (.il 2 [.agg [.bool bx, .il 1 (encU lx)], .agg [.bool by_, .il 1 (encU ly)]]) := .il' (.cons (agW _ _) (.cons (agW _ _) .nil))
 refine ALoop.at nnΓ (fun p : Nat × Bool × List Nat => (p.1 = 0 ∧ p.2 = (b1, l1)) ∨ (p.1 = 1 ∧ p.2 = (bx, lx)) ∨ (p.1 = 2 ∧ p.2 = (bz, lz) ∧ f = true))
  (fun p => ⟨[(2, .ptr 0 0 0), (4, .ptr 1 0 0), (9, .il 2 [.agg [.bool bx, .il 1 (encU lx)], .agg [.bool by_, .il 1 (encU ly)]]), (10, .int .i64 2), (11, .int .i64 p.1)], [(0, .row 37 2 [.agg [.bool false, .nsl]]), (1, .row 37 2 [.agg [.bool p.2.1, .il 1 (encU p.2.2)]])], 2, 27⟩)
  (fun p => 2 - p.1) (0, b1, l1) [(0, 0), (1, 1)] (.inl ⟨rfl, rfl⟩)
  (conv_mk _ rfl ⟨⟨0, _, rfl, rfl, .same nW0⟩, ⟨1, _, rfl, rfl, .same (.cons (agW _ _) .nil)⟩, trivial⟩ ⟨⟨_, rfl, .ptr 0 0 0 0 rfl⟩, ⟨_, rfl, .ptr 1 1 0 0 rfl⟩, ⟨_, rfl, .same _ n2⟩, ⟨_, rfl, .same _ nn⟩, ⟨_, rfl, .same _ nn⟩, trivial⟩) ?_
 rintro ⟨i, p⟩ (⟨e1, e2⟩ | ⟨e1, e2⟩ | ⟨e1, e2, e3⟩)
 ·simp only at e1 e2
  subst e1 e2
  ((conv=>whnf);repeat(refine Xg ?_;conv=>whnf))
  repeat ((first | refine setK_iff.2 ?_ | refine ⟨rfl, ?_⟩); ((conv=>whnf);repeat(refine Xg ?_;conv=>whnf)))
  refine h1.go ?_ (.cons (agW _ _) (.cons (agW _ _) .nil)) (.tup' (.cons (agW _ _) (.cons nn .nil)))
  ((conv=>whnf);repeat(refine Xg ?_;conv=>whnf))
  repeat ((first | refine setK_iff.2 ?_ | refine ⟨rfl, ?_⟩); ((conv=>whnf);repeat(refine Xg ?_;conv=>whnf)))
  exact .mk (1, bx, lx) [(0, 0), (1, 1)] (.inr (.inl ⟨rfl, rfl⟩))
   (conv_mk _ rfl ⟨⟨0, _, rfl, rfl, .same nW0⟩, ⟨1, _, rfl, rfl, .same (.cons (agW _ _) .nil)⟩, trivial⟩ ⟨⟨_, rfl, .ptr 0 0 0 0 rfl⟩, ⟨_, rfl, .ptr 1 1 0 0 rfl⟩, ⟨_, rfl, .same _ n2⟩, ⟨_, rfl, .same _ nn⟩, ⟨_, rfl, .int (by simp only; decide)⟩, trivial⟩) (by simp)
 ·simp only at e1 e2
  subst e1 e2
  ((conv=>whnf);repeat(refine Xg ?_;conv=>whnf))
  repeat ((first | refine setK_iff.2 ?_ | refine ⟨rfl, ?_⟩); ((conv=>whnf);repeat(refine Xg ?_;conv=>whnf)))
  refine h2.go ?_ (.cons (agW _ _) (.cons (agW _ _) .nil)) hnn
  cases f with
  | true =>
   ((conv=>whnf);repeat(refine Xg ?_;conv=>whnf))
   repeat ((first | refine setK_iff.2 ?_ | refine ⟨rfl, ?_⟩); ((conv=>whnf);repeat(refine Xg ?_;conv=>whnf)))
   exact .mk (2, bz, lz) [(0, 0), (1, 1)] (.inr (.inr ⟨rfl, rfl, rfl⟩))
    (conv_mk _ rfl ⟨⟨0, _, rfl, rfl, .same nW0⟩, ⟨1, _, rfl, rfl, .same (.cons (agW _ _) .nil)⟩, trivial⟩ ⟨⟨_, rfl, .ptr 0 0 0 0 rfl⟩, ⟨_, rfl, .ptr 1 1 0 0 rfl⟩, ⟨_, rfl, .same _ n2⟩, ⟨_, rfl, .same _ nn⟩, ⟨_, rfl, .int (by simp only; decide)⟩, trivial⟩) (by simp)
  | false =>
   ((conv=>whnf);repeat(refine Xg ?_;conv=>whnf))
   repeat ((first | refine setK_iff.2 ?_ | refine ⟨rfl, ?_⟩); ((conv=>whnf);repeat(refine Xg ?_;conv=>whnf)))
   exact fin_cv (r' := .tup [.agg [.bool false, .il 1 []], .int .i64 4]) (.tup' (.cons cvNilW (.cons (.same _ nn) .nil))) ⟨rfl, rfl, rfl⟩
 ·simp only at e1 e2
  subst e1 e2 e3
  ((conv=>whnf);repeat(refine Xg ?_;conv=>whnf))
  repeat ((first | refine setK_iff.2 ?_ | refine ⟨rfl, ?_⟩); ((conv=>whnf);repeat(refine Xg ?_;conv=>whnf)))
  exact fin_pure hnn ⟨rfl, rfl, rfl⟩
theorem pOver (x y : Int) (hy0 : y ≠ 0) (hx : (dg 4294967296 x.natAbs).length ≤ 900000) (hy : (dg 4294967296 y.natAbs).length ≤ 900000) : PureC Tryz.prog [] 62 [encW x, encW y] (encW (x / y)) := by
 have h := wDiv x y hy0 hx hy
 obtain ⟨bx, lx, qx⟩ := encW_ex x
 obtain ⟨by_, ly, qy⟩ := encW_ex y
 obtain ⟨bz, lz, qz⟩ := encW_ex (x / y)
 obtain ⟨bm, lm, qm⟩ := encW_ex (x % y)
 rw [qx, qy, qz, qm] at h
 rw [qx, qy, qz]
 refine acalls_go nnΓ Tryz.func62 rfl ?_
 ((conv=>whnf);repeat(refine Xg ?_;conv=>whnf))
 repeat ((first | refine setK_iff.2 ?_ | refine ⟨rfl, ?_⟩); ((conv=>whnf);repeat(refine Xg ?_;conv=>whnf)))
 refine h.go ?_ (.cons (agW _ _) (.cons (agW _ _) .nil)) (.tup' (.cons (agW _ _) (.cons (agW _ _) (.cons nn .nil))))
 ((conv=>whnf);repeat(refine Xg ?_;conv=>whnf))
 repeat ((first | refine setK_iff.2 ?_ | refine ⟨rfl, ?_⟩); ((conv=>whnf);repeat(refine Xg ?_;conv=>whnf)))
 exact fin_pure (agW _ _) ⟨rfl, rfl, rfl⟩
theorem pDen (a : Fr) (ha : (dg 4294967296 a.q).length ≤ 1000000) : PureC Tryz.prog [] 36 [encP a] (encW (a.den : Int)) := by
 have h0 := wSign (a.q : Int) (by rw [Int.natAbs_natCast]; exact ha)
 have h1 := wFrom ((1 : Nat) : Int) ⟨by omega, by omega⟩
 have hc : cmpJ (a.q : Int) 0 = if a.q = 0 then 0 else 1 := by unfold cmpJ; split <;> (try split) <;> (try split) <;> omega
 have hd : a.den = if a.q = 0 then 1 else a.q := rfl
 obtain ⟨bp, lp, bq, lq, -, q2, q3⟩ := encP_ex a
 obtain ⟨b1, l1, e1⟩ := encW_ex ((1 : Nat) : Int)
 rw [hc, q2] at h0
 rw [e1] at h1
 rw [q3, hd]
 refine acalls_go nnΓ Tryz.func36 rfl ?_
 by_cases h : a.q = 0
 ·rw [if_pos h] at h0 ⊢
  rw [e1]
  ((conv=>whnf);repeat(refine Xg ?_;conv=>whnf))
  repeat ((first | refine setK_iff.2 ?_ | refine ⟨rfl, ?_⟩); ((conv=>whnf);repeat(refine Xg ?_;conv=>whnf)))
  refine h0.go ?_ (.cons (agW _ _) .nil) nn
  ((conv=>whnf);repeat(refine Xg ?_;conv=>whnf))
  refine h1.go ?_ (.cons nn .nil) (agW _ _)
  ((conv=>whnf);repeat(refine Xg ?_;conv=>whnf))
  repeat ((first | refine setK_iff.2 ?_ | refine ⟨rfl, ?_⟩); ((conv=>whnf);repeat(refine Xg ?_;conv=>whnf)))
  exact fin_pure (agW _ _) ⟨rfl, rfl, rfl⟩
 ·rw [if_neg h] at h0 ⊢
  rw [q2]
  ((conv=>whnf);repeat(refine Xg ?_;conv=>whnf))
  repeat ((first | refine setK_iff.2 ?_ | refine ⟨rfl, ?_⟩); ((conv=>whnf);repeat(refine Xg ?_;conv=>whnf)))
  refine h0.go ?_ (.cons (agW _ _) .nil) nn
  ((conv=>whnf);repeat(refine Xg ?_;conv=>whnf))
  repeat ((first | refine setK_iff.2 ?_ | refine ⟨rfl, ?_⟩); ((conv=>whnf);repeat(refine Xg ?_;conv=>whnf)))
  exact fin_pure (agW _ _) ⟨rfl, rfl, rfl⟩
theorem pSign (a : Fr) (ha : (dg 4294967296 a.p.natAbs).length ≤ 1000000) : PureC Tryz.prog [] 30 [encP a] (.int .i64 (sgnF a)) := by
 have h0 : PureC Tryz.prog [] 57 [encW a.p] (.int .i64 (sgnF a)) := wSign a.p ha
 obtain ⟨bp, lp, bq, lq, q1, -, q3⟩ := encP_ex a
 rw [q1] at h0
 rw [q3]
 generalize sgnF a = s at *
 refine acalls_go nnΓ Tryz.func30 rfl ?_
 ((conv=>whnf);repeat(refine Xg ?_;conv=>whnf))
 repeat ((first | refine setK_iff.2 ?_ | refine ⟨rfl, ?_⟩); ((conv=>whnf);repeat(refine Xg ?_;conv=>whnf)))
 refine h0.go ?_ (.cons (agW _ _) .nil) nn
 ((conv=>whnf);repeat(refine Xg ?_;conv=>whnf))
 exact fin_pure nn ⟨rfl, rfl, rfl⟩
theorem pMake (p q : Int) (hq : q ≠ 0) (h1 : (dg 4294967296 p.natAbs).length ≤ 800000) (h2 : (dg 4294967296 q.natAbs).length ≤ 800000) : PureC Tryz.prog [] 50 [encW p, encW q] (.tup [encP (mkF p q), .int .i64 0]) := by
 have hg0 := gcdI_pos (p := p) hq
 have hn1 := wNeg p (by omega)
 have hn2 := wNeg q (by omega)
 have hs := wSign q (by omega)
 have key : ∀ P Q : Int, P = (if q < 0 then -p else p) → Q = (q.natAbs : Int) → PureC Tryz.prog [] 61 [encW P, encW Q] (encW (Nat.gcd p.natAbs q.natAbs : Nat)) ∧
   PureC Tryz.prog [] 62 [encW P, encW (Nat.gcd p.natAbs q.natAbs : Nat)] (encW (mkF p q).p) ∧
   PureC Tryz.prog [] 62 [encW Q, encW (Nat.gcd p.natAbs q.natAbs : Nat)] (encW ((mkF p q).q : Int)) := by
  intro P Q hP hQ
  have a1 : P.natAbs = p.natAbs := by rw [hP]; split <;> simp
  have a2 : Q.natAbs = q.natAbs := by rw [hQ]; simp
  have hgl := dgl_gcd hW p.natAbs q.natAbs
  have z1 := wGcd P Q (by rw [a1]; omega) (by rw [a2]; omega)
  rw [a1, a2] at z1
  have z2 := pOver P (Nat.gcd p.natAbs q.natAbs : Nat) (by omega) (by rw [a1]; omega) (by rw [Int.natAbs_natCast]; omega)
  have z3 := pOver Q (Nat.gcd p.natAbs q.natAbs : Nat) (by omega) (by rw [a2]; omega) (by rw [Int.natAbs_natCast]; omega)
  refine ⟨z1, ?_, ?_⟩
  ·have e : (mkF p q).p = P / (Nat.gcd p.natAbs q.natAbs : Nat) := by rw [hP]; rfl
   rw [e]; exact z2
  ·have e : ((mkF p q).q : Int) = Q / (Nat.gcd p.natAbs q.natAbs : Nat) := by rw [hQ, ← Int.natCast_ediv]; rfl
   rw [e]; exact z3
 have kn := key (-p) (-q)
 have kp := key p q
 obtain ⟨b, l, c, m, q1, q2, q3⟩ := encP_ex (mkF p q)
 rw [q1, q2] at kn kp
 rw [q3]
 obtain ⟨bg, lg, hgg⟩ := encW_ex (Nat.gcd p.natAbs q.natAbs : Nat)
 rw [hgg] at kn kp
 obtain ⟨bm, lm, hmm⟩ := encW_ex (-p)
 obtain ⟨bn, ln, hnn⟩ := encW_ex (-q)
 obtain ⟨bp, lp, hpp⟩ := encW_ex p
 obtain ⟨bq, lq, hqq⟩ := encW_ex q
 rw [hmm, hpp] at hn1
 rw [hnn, hqq] at hn2
 rw [hmm, hnn] at kn
 rw [hpp, hqq] at kp
 rw [hqq] at hs
 rw [hpp, hqq]
 clear key q1 q2 q3 hgg hmm hnn hpp hqq hg0
 refine acalls_go nnΓ Tryz.func50 rfl ?_
 by_cases hlt : q < 0
 ·obtain ⟨k1, k2, k3⟩ := kn (by rw [if_pos hlt]) (by omega)
  rw [show cmpJ q 0 = -1 by unfold cmpJ; rw [if_pos hlt]] at hs
  ((conv=>whnf);repeat(refine Xg ?_;conv=>whnf))
  repeat ((first | refine setK_iff.2 ?_ | refine ⟨rfl, ?_⟩); ((conv=>whnf);repeat(refine Xg ?_;conv=>whnf)))
  refine hs.go ?_ (.cons (agW _ _) .nil) nn
  ((conv=>whnf);repeat(refine Xg ?_;conv=>whnf))
  repeat ((first | refine setK_iff.2 ?_ | refine ⟨rfl, ?_⟩); ((conv=>whnf);repeat(refine Xg ?_;conv=>whnf)))
  refine hs.go ?_ (.cons (agW _ _) .nil) nn
  ((conv=>whnf);repeat(refine Xg ?_;conv=>whnf))
  repeat ((first | refine setK_iff.2 ?_ | refine ⟨rfl, ?_⟩); ((conv=>whnf);repeat(refine Xg ?_;conv=>whnf)))
  refine hn1.go ?_ (.cons (agW _ _) .nil) (agW _ _)
  ((conv=>whnf);repeat(refine Xg ?_;conv=>whnf))
  repeat ((first | refine setK_iff.2 ?_ | refine ⟨rfl, ?_⟩); ((conv=>whnf);repeat(refine Xg ?_;conv=>whnf)))
  refine hn2.go ?_ (.cons (agW _ _) .nil) (agW _ _)
  ((conv=>whnf);repeat(refine Xg ?_;conv=>whnf))
  repeat ((first | refine setK_iff.2 ?_ | refine ⟨rfl, ?_⟩); ((conv=>whnf);repeat(refine Xg ?_;conv=>whnf)))
  refine k1.go ?_ (.cons (agW _ _) (.cons (agW _ _) .nil)) (agW _ _)
  ((conv=>whnf);repeat(refine Xg ?_;conv=>whnf))
  repeat ((first | refine setK_iff.2 ?_ | refine ⟨rfl, ?_⟩); ((conv=>whnf);repeat(refine Xg ?_;conv=>whnf)))
  refine k2.go ?_ (.cons (agW _ _) (.cons (agW _ _) .nil)) (agW _ _)
  ((conv=>whnf);repeat(refine Xg ?_;conv=>whnf))
  repeat ((first | refine setK_iff.2 ?_ | refine ⟨rfl, ?_⟩); ((conv=>whnf);repeat(refine Xg ?_;conv=>whnf)))
  refine k3.go ?_ (.cons (agW _ _) (.cons (agW _ _) .nil)) (agW _ _)
  ((conv=>whnf);repeat(refine Xg ?_;conv=>whnf))
  repeat ((first | refine setK_iff.2 ?_ | refine ⟨rfl, ?_⟩); ((conv=>whnf);repeat(refine Xg ?_;conv=>whnf)))
  exact fin_pure (.tup' (.cons (agP _ _ _ _) (.cons nn .nil))) ⟨rfl, rfl, rfl⟩
 ·obtain ⟨k1, k2, k3⟩ := kp (by rw [if_neg hlt]) (by omega)
  rw [show cmpJ q 0 = 1 by unfold cmpJ; rw [if_neg hlt, if_pos (by omega)]] at hs
  ((conv=>whnf);repeat(refine Xg ?_;conv=>whnf))
  repeat ((first | refine setK_iff.2 ?_ | refine ⟨rfl, ?_⟩); ((conv=>whnf);repeat(refine Xg ?_;conv=>whnf)))
  refine hs.go ?_ (.cons (agW _ _) .nil) nn
  ((conv=>whnf);repeat(refine Xg ?_;conv=>whnf))
  repeat ((first | refine setK_iff.2 ?_ | refine ⟨rfl, ?_⟩); ((conv=>whnf);repeat(refine Xg ?_;conv=>whnf)))
  refine hs.go ?_ (.cons (agW _ _) .nil) nn
  ((conv=>whnf);repeat(refine Xg ?_;conv=>whnf))
  repeat ((first | refine setK_iff.2 ?_ | refine ⟨rfl, ?_⟩); ((conv=>whnf);repeat(refine Xg ?_;conv=>whnf)))
  refine k1.go ?_ (.cons (agW _ _) (.cons (agW _ _) .nil)) (agW _ _)
  ((conv=>whnf);repeat(refine Xg ?_;conv=>whnf))
  repeat ((first | refine setK_iff.2 ?_ | refine ⟨rfl, ?_⟩); ((conv=>whnf);repeat(refine Xg ?_;conv=>whnf)))
  refine k2.go ?_ (.cons (agW _ _) (.cons (agW _ _) .nil)) (agW _ _)
  ((conv=>whnf);repeat(refine Xg ?_;conv=>whnf))
  repeat ((first | refine setK_iff.2 ?_ | refine ⟨rfl, ?_⟩); ((conv=>whnf);repeat(refine Xg ?_;conv=>whnf)))
  refine k3.go ?_ (.cons (agW _ _) (.cons (agW _ _) .nil)) (agW _ _)
  ((conv=>whnf);repeat(refine Xg ?_;conv=>whnf))
  repeat ((first | refine setK_iff.2 ?_ | refine ⟨rfl, ?_⟩); ((conv=>whnf);repeat(refine Xg ?_;conv=>whnf)))
  exact fin_pure (.tup' (.cons (agP _ _ _ _) (.cons nn .nil))) ⟨rfl, rfl, rfl⟩
theorem pOf (p q : Int) (hp : i64 p) (hq : i64 q) (hq0 : q ≠ 0) : PureC Tryz.prog [] 55 [.int .i64 p, .int .i64 q] (.tup [encP (mkF p q), .int .i64 0]) := by
 have h1 := wFrom p hp
 have h2 := wFrom q hq
 unfold i64 at hp hq
 have h3 := pMake p q hq0 (by have : (dg 4294967296 p.natAbs).length ≤ 2 := dgl_two hW (by omega); omega) (by have : (dg 4294967296 q.natAbs).length ≤ 2 := dgl_two hW (by omega); omega)
 obtain ⟨b, l, c, m, -, -, q3⟩ := encP_ex (mkF p q)
 obtain ⟨bp, lp, hpp⟩ := encW_ex p
 obtain ⟨bq, lq, hqq⟩ := encW_ex q
 rw [hpp] at h1
 rw [hqq] at h2
 rw [hpp, hqq, q3] at h3
 rw [q3]
 refine acalls_go nnΓ Tryz.func55 rfl ?_
 ((conv=>whnf);repeat(refine Xg ?_;conv=>whnf))
 repeat ((first | refine setK_iff.2 ?_ | refine ⟨rfl, ?_⟩); ((conv=>whnf);repeat(refine Xg ?_;conv=>whnf)))
 refine h1.go ?_ (.cons nn .nil) (agW _ _)
 ((conv=>whnf);repeat(refine Xg ?_;conv=>whnf))
 repeat ((first | refine setK_iff.2 ?_ | refine ⟨rfl, ?_⟩); ((conv=>whnf);repeat(refine Xg ?_;conv=>whnf)))
 refine h2.go ?_ (.cons nn .nil) (agW _ _)
 ((conv=>whnf);repeat(refine Xg ?_;conv=>whnf))
 repeat ((first | refine setK_iff.2 ?_ | refine ⟨rfl, ?_⟩); ((conv=>whnf);repeat(refine Xg ?_;conv=>whnf)))
 refine h3.go ?_ (.cons (agW _ _) (.cons (agW _ _) .nil)) (.tup' (.cons (agP _ _ _ _) (.cons nn .nil)))
 ((conv=>whnf);repeat(refine Xg ?_;conv=>whnf))
 repeat ((first | refine setK_iff.2 ?_ | refine ⟨rfl, ?_⟩); ((conv=>whnf);repeat(refine Xg ?_;conv=>whnf)))
 exact fin_pure (.tup' (.cons (agP _ _ _ _) (.cons nn .nil))) ⟨rfl, rfl, rfl⟩
set_option maxHeartbeats 16000000
set_option linter.unusedSimpArgs false
def nF (a : Fr) : Fr := ⟨a.p, a.den⟩
def outF (r : Fr × Int) : Fr := if r.2 = 0 then r.1 else nilF
structure FP (a : Fr) : Prop where
 num : fits a.p = true
 den : fits (a.den : Int) = true
theorem den_pos (a : Fr) : 0 < a.den := by unfold Fr.den; split <;> omega
theorem FP.ln {a : Fr} (h : FP a) : (dg 4294967296 a.p.natAbs).length ≤ 512 := fits_nW h.num
theorem FP.ld {a : Fr} (h : FP a) : (dg 4294967296 a.den).length ≤ 512 := by have := fits_nW h.den; rw [Int.natAbs_natCast] at this; exact this
theorem FP.lq {a : Fr} (h : FP a) : (dg 4294967296 a.q).length ≤ 512 := by
 have := h.ld
 unfold Fr.den at this
 split at this
 ·rename_i e; rw [e, dg_zero]; simp
 ·exact this
theorem fits_div {a : Nat} (g : Nat) (h : fits (a : Int) = true) : fits ((a / g : Nat) : Int) = true := by
 unfold fits at h ⊢
 rw [Int.natAbs_natCast] at h ⊢
 have := of_decide_eq_true h
 exact decide_eq_true (Nat.lt_of_le_of_lt (Nat.div_le_self _ _) this)
theorem rngW_if (z : Int) : rngW z = if fits z = true then .tup [encW z, .int .i64 0] else .tup [.agg [.bool false, .il 1 []], .int .i64 4] := by rw [← encW0]; rfl
theorem pAdd (a b : Fr) (ha : FP a) (hb : FP b) : PureC Tryz.prog [] 47 [encP a, encP b] (.tup [encP (outF (addF (nF a) (nF b))), .int .i64 (addF (nF a) (nF b)).2]) := by
 have ha0 := den_pos a
 have hb0 := den_pos b
 have la1 := ha.ln; have la2 := ha.ld; have lb1 := hb.ln; have lb2 := hb.ld
 have dA := pDen a (by have := ha.lq; omega)
 have dB := pDen b (by have := hb.lq; omega)
 have hg : 0 < Nat.gcd a.den b.den := Nat.gcd_pos_of_pos_left _ ha0
 have hgl := dgl_gcd hW a.den b.den
 have hG := wGcd (a.den : Int) (b.den : Int) (by rw [Int.natAbs_natCast]; omega) (by rw [Int.natAbs_natCast]; omega)
 simp only [Int.natAbs_natCast] at hG
 have hS := pOver (b.den : Int) (Nat.gcd a.den b.den : Nat) (by omega) (by rw [Int.natAbs_natCast]; omega) (by rw [Int.natAbs_natCast]; omega)
 have hQ := pOver (a.den : Int) (Nat.gcd a.den b.den : Nat) (by omega) (by rw [Int.natAbs_natCast]; omega) (by rw [Int.natAbs_natCast]; omega)
 rw [← Int.natCast_ediv] at hS hQ
 have hls := dgl_div hW b.den (Nat.gcd a.den b.den)
 have hlq := dgl_div hW a.den (Nat.gcd a.den b.den)
 have hfq := fits_div (Nat.gcd a.den b.den) ha.den
 have hq0 : a.den / Nat.gcd a.den b.den ≠ 0 := by have := Nat.div_pos (Nat.gcd_le_left b.den ha0) hg; omega
 have hres : addF (nF a) (nF b) = if fits (a.p * (b.den / Nat.gcd a.den b.den : Nat)) = true ∧ fits (b.p * (a.den / Nat.gcd a.den b.den : Nat)) = true ∧ fits ((a.den / Nat.gcd a.den b.den : Nat) * b.den) = true ∧ fits (a.p * (b.den / Nat.gcd a.den b.den : Nat) + b.p * (a.den / Nat.gcd a.den b.den : Nat)) = true then (mkF (a.p * (b.den / Nat.gcd a.den b.den : Nat) + b.p * (a.den / Nat.gcd a.den b.den : Nat)) ((a.den / Nat.gcd a.den b.den : Nat) * b.den), 0) else (zF, 4) := rfl
 generalize b.den / Nat.gcd a.den b.den = s at *
 generalize a.den / Nat.gcd a.den b.den = q at *
 generalize Nat.gcd a.den b.den = g at *
 have hdb := hb.den
 generalize a.den = ad at *
 generalize b.den = bd at *
 have e0 : (a.p * (s : Int)).natAbs = a.p.natAbs * s := by rw [Int.natAbs_mul, Int.natAbs_natCast]
 have e1 : (b.p * (q : Int)).natAbs = b.p.natAbs * q := by rw [Int.natAbs_mul, Int.natAbs_natCast]
 have e2 : ((q : Int) * (bd : Int)).natAbs = q * bd := by rw [Int.natAbs_mul, Int.natAbs_natCast, Int.natAbs_natCast]
 have l0 := dgl_mul hW a.p.natAbs s
 have l1 := dgl_mul hW b.p.natAbs q
 have l2 := dgl_mul hW q bd
 have l3 : (dg 4294967296 (a.p * (s : Int) + b.p * (q : Int)).natAbs).length ≤ 2000 := by
  have h := dgl_add hW (a.p * (s : Int)).natAbs (b.p * (q : Int)).natAbs
  have h2 := dg_len_mono hW (Int.natAbs_add_le (a.p * (s : Int)) (b.p * (q : Int)))
  rw [e0, e1] at h
  rw [e0, e1] at h2
  omega
 have m0 := pProduct a.p (s : Int) ha.num (by rw [Int.natAbs_natCast]; omega)
 have m1 := pProduct b.p (q : Int) hb.num (by rw [Int.natAbs_natCast]; omega)
 have m2 := pProduct (q : Int) (bd : Int) hfq (by rw [Int.natAbs_natCast]; omega)
 have m3 := wAddI (a.p * (s : Int)) (b.p * (q : Int)) (by rw [e0]; omega) (by rw [e1]; omega)
 have z2 : (q : Int) * (bd : Int) ≠ 0 := Int.mul_ne_zero (by omega) (by omega)
 have hm := pMake (a.p * (s : Int) + b.p * (q : Int)) ((q : Int) * (bd : Int)) z2 (by omega) (by rw [e2]; omega)
 have n0 := rngW_nn (a.p * (s : Int))
 have n1 := rngW_nn (b.p * (q : Int))
 have n2 := rngW_nn ((q : Int) * (bd : Int))
 have n3 := rngW_nn (a.p * (s : Int) + b.p * (q : Int))
 rw [rngW_if] at m0 m1 m2 m3 n0 n1 n2 n3
 generalize hM : mkF (a.p * (s : Int) + b.p * (q : Int)) ((q : Int) * (bd : Int)) = M at *
 clear e0 e1 e2 l0 l1 l2 l3 z2 hq0 hgl hg hls hlq hM la1 la2 lb1 lb2 ha0 hb0 hfq hdb
 generalize a.p * (s : Int) + b.p * (q : Int) = w3 at *
 generalize a.p * (s : Int) = w0 at *
 generalize b.p * (q : Int) = w1 at *
 generalize (q : Int) * (bd : Int) = w2 at *
 generalize fits w0 = f0 at *
 generalize fits w1 = f1 at *
 generalize fits w2 = f2 at *
 generalize fits w3 = f3 at *
 have hR : AV.tup [encP (outF (addF (nF a) (nF b))), .int .i64 (addF (nF a) (nF b)).2] = if (f0 && (f1 && (f3 && f2))) = true then .tup [encP M, .int .i64 0] else .tup [encP nilF, .int .i64 4] := by
  rw [hres]
  cases f0 <;> cases f1 <;> cases f2 <;> cases f3 <;> rfl
 generalize AV.tup [encP (outF (addF (nF a) (nF b))), .int .i64 (addF (nF a) (nF b)).2] = RES at *
 clear hres
 rw [encP_nil] at hR
 obtain ⟨ab, al, ac, am, qa1, qa2, qa3⟩ := encP_ex a
 obtain ⟨bb, bl, bc, bm, qb1, qb2, qb3⟩ := encP_ex b
 obtain ⟨Mb, Ml, Mc, Mm, -, -, qM⟩ := encP_ex M
 obtain ⟨cb, cl, ead⟩ := encW_ex (ad : Int)
 obtain ⟨db, dl, ebd⟩ := encW_ex (bd : Int)
 obtain ⟨gb, gl, eg⟩ := encW_ex (g : Int)
 obtain ⟨sb, sl, es⟩ := encW_ex (s : Int)
 obtain ⟨qb, ql, eq⟩ := encW_ex (q : Int)
 obtain ⟨b0', l0', k0⟩ := encW_ex w0
 obtain ⟨b1', l1', k1⟩ := encW_ex w1
 obtain ⟨b2', l2', k2⟩ := encW_ex w2
 obtain ⟨b3', l3', k3⟩ := encW_ex w3
 rw [qa3, ead] at dA
 rw [qb3, ebd] at dB
 rw [ead, ebd, eg] at hG
 rw [ebd, eg, es] at hS
 rw [ead, eg, eq] at hQ
 rw [qa1, es, k0] at m0
 rw [qb1, eq, k1] at m1
 rw [eq, ebd, k2] at m2
 rw [k0, k1, k3] at m3
 rw [k0] at n0
 rw [k1] at n1
 rw [k2] at n2
 rw [k3] at n3
 rw [k3, k2, qM] at hm
 rw [qM] at hR
 rw [qa3, qb3]
 clear qa1 qa2 qa3 qb1 qb2 qb3 qM eg es eq k0 k1 k2 k3 ead ebd ha hb
 refine acalls_go nnΓ Tryz.func47 rfl ?_
 ((conv=>whnf);repeat(refine Xg ?_;conv=>whnf))
 repeat ((first | refine setK_iff.2 ?_ | refine ⟨rfl, ?_⟩); ((conv=>whnf);repeat(refine Xg ?_;conv=>whnf)))
 refine dA.go ?_ (.cons (agP _ _ _ _) .nil) (agW _ _)
 ((conv=>whnf);repeat(refine Xg ?_;conv=>whnf))
 repeat ((first | refine setK_iff.2 ?_ | refine ⟨rfl, ?_⟩); ((conv=>whnf);repeat(refine Xg ?_;conv=>whnf)))
 refine dB.go ?_ (.cons (agP _ _ _ _) .nil) (agW _ _)
 ((conv=>whnf);repeat(refine Xg ?_;conv=>whnf))
 repeat ((first | refine setK_iff.2 ?_ | refine ⟨rfl, ?_⟩); ((conv=>whnf);repeat(refine Xg ?_;conv=>whnf)))
 refine hG.go ?_ (.cons (agW _ _) (.cons (agW _ _) .nil)) (agW _ _)
 ((conv=>whnf);repeat(refine Xg ?_;conv=>whnf))
 repeat ((first | refine setK_iff.2 ?_ | refine ⟨rfl, ?_⟩); ((conv=>whnf);repeat(refine Xg ?_;conv=>whnf)))
 refine hS.go ?_ (.cons (agW _ _) (.cons (agW _ _) .nil)) (agW _ _)
 ((conv=>whnf);repeat(refine Xg ?_;conv=>whnf))
 repeat ((first | refine setK_iff.2 ?_ | refine ⟨rfl, ?_⟩); ((conv=>whnf);repeat(refine Xg ?_;conv=>whnf)))
 refine ACalls.pre nnΓ [(0, 0), (1, 1), (2, 2), (7, 7), (8, 8), (11, 11)] (mem' := [(0, .row 39 4 [.agg [.bool ab, .il 1 (encU al), .bool ac, .il 1 (encU am)]]), (1, .row 39 4 [.agg [.bool bb, .il 1 (encU bl), .bool bc, .il 1 (encU bm)]]), (2, .row 39 4 [.agg [.bool false, .nsl, .bool false, .nsl]]), (7, .row 37 2 [.agg [.bool cb, .il 1 (encU cl)]]), (8, .row 37 2 [.agg [.bool db, .il 1 (encU dl)]]), (11, .row 37 2 [.agg [.bool gb, .il 1 (encU gl)]])]) rfl ⟨⟨0, _, rfl, rfl, .same (.cons (agP _ _ _ _) .nil)⟩, ⟨1, _, rfl, rfl, .same (.cons (agP _ _ _ _) .nil)⟩, ⟨2, _, rfl, rfl, .same nF0⟩, ⟨7, _, rfl, rfl, .same (.cons (agW _ _) .nil)⟩, ⟨8, _, rfl, rfl, .same (.cons (agW _ _) .nil)⟩, ⟨11, _, rfl, rfl, .same (.cons (agW _ _) .nil)⟩, trivial⟩
  (.cons (.fz' (id := 17) (off := 0) (len := 2) (xs := [.agg [.bool ab, .il 1 (encU al)], .agg [.bool sb, .il 1 (encU sl)]]) (ys := [.agg [.bool ab, .il 1 (encU al)], .agg [.bool sb, .il 1 (encU sl)]]) rfl rfl (Nat.le_refl 2) rfl (.cons (agW _ _) (.cons (agW _ _) .nil))) .nil) ?_
 refine m0.go ?_ (.cons (.il' (.cons (agW _ _) (.cons (agW _ _) .nil))) .nil) n0
 cases f0 with
 | false =>
  ((conv=>whnf);repeat(refine Xg ?_;conv=>whnf))
  repeat ((first | refine setK_iff.2 ?_ | refine ⟨rfl, ?_⟩); ((conv=>whnf);repeat(refine Xg ?_;conv=>whnf)))
  exact fin_cv (r' := .tup [.agg [.bool false, .il 1 [], .bool false, .il 1 []], .int .i64 4]) (.tup' (.cons cvNil (.cons (.same _ nn) .nil))) ⟨by rw [hR]; rfl, rfl, rfl⟩
 | true =>
  ((conv=>whnf);repeat(refine Xg ?_;conv=>whnf))
  repeat ((first | refine setK_iff.2 ?_ | refine ⟨rfl, ?_⟩); ((conv=>whnf);repeat(refine Xg ?_;conv=>whnf)))
  refine hQ.go ?_ (.cons (agW _ _) (.cons (agW _ _) .nil)) (agW _ _)
  ((conv=>whnf);repeat(refine Xg ?_;conv=>whnf))
  repeat ((first | refine setK_iff.2 ?_ | refine ⟨rfl, ?_⟩); ((conv=>whnf);repeat(refine Xg ?_;conv=>whnf)))
  refine ACalls.pre nnΓ [(0, 0), (1, 1), (2, 2), (7, 7), (8, 8), (11, 11), (22, 22)] (mem' := [(0, .row 39 4 [.agg [.bool ab, .il 1 (encU al), .bool ac, .il 1 (encU am)]]), (1, .row 39 4 [.agg [.bool bb, .il 1 (encU bl), .bool bc, .il 1 (encU bm)]]), (2, .row 39 4 [.agg [.bool false, .nsl, .bool false, .nsl]]), (7, .row 37 2 [.agg [.bool cb, .il 1 (encU cl)]]), (8, .row 37 2 [.agg [.bool db, .il 1 (encU dl)]]), (11, .row 37 2 [.agg [.bool gb, .il 1 (encU gl)]]), (22, .row 37 2 [.agg [.bool b0', .il 1 (encU l0')]])]) rfl ⟨⟨0, _, rfl, rfl, .same (.cons (agP _ _ _ _) .nil)⟩, ⟨1, _, rfl, rfl, .same (.cons (agP _ _ _ _) .nil)⟩, ⟨2, _, rfl, rfl, .same nF0⟩, ⟨7, _, rfl, rfl, .same (.cons (agW _ _) .nil)⟩, ⟨8, _, rfl, rfl, .same (.cons (agW _ _) .nil)⟩, ⟨11, _, rfl, rfl, .same (.cons (agW _ _) .nil)⟩, ⟨22, _, rfl, rfl, .same (.cons (agW _ _) .nil)⟩, trivial⟩
   (.cons (.fz' (id := 30) (off := 0) (len := 2) (xs := [.agg [.bool bb, .il 1 (encU bl)], .agg [.bool qb, .il 1 (encU ql)]]) (ys := [.agg [.bool bb, .il 1 (encU bl)], .agg [.bool qb, .il 1 (encU ql)]]) rfl rfl (Nat.le_refl 2) rfl (.cons (agW _ _) (.cons (agW _ _) .nil))) .nil) ?_
  refine m1.go ?_ (.cons (.il' (.cons (agW _ _) (.cons (agW _ _) .nil))) .nil) n1
  cases f1 with
  | false =>
   ((conv=>whnf);repeat(refine Xg ?_;conv=>whnf))
   repeat ((first | refine setK_iff.2 ?_ | refine ⟨rfl, ?_⟩); ((conv=>whnf);repeat(refine Xg ?_;conv=>whnf)))
   exact fin_cv (r' := .tup [.agg [.bool false, .il 1 [], .bool false, .il 1 []], .int .i64 4]) (.tup' (.cons cvNil (.cons (.same _ nn) .nil))) ⟨by rw [hR]; rfl, rfl, rfl⟩
  | true =>
   ((conv=>whnf);repeat(refine Xg ?_;conv=>whnf))
   repeat ((first | refine setK_iff.2 ?_ | refine ⟨rfl, ?_⟩); ((conv=>whnf);repeat(refine Xg ?_;conv=>whnf)))
   refine m3.go ?_ (.cons (agW _ _) (.cons (agW _ _) .nil)) n3
   cases f3 with
   | false =>
    ((conv=>whnf);repeat(refine Xg ?_;conv=>whnf))
    repeat ((first | refine setK_iff.2 ?_ | refine ⟨rfl, ?_⟩); ((conv=>whnf);repeat(refine Xg ?_;conv=>whnf)))
    exact fin_cv (r' := .tup [.agg [.bool false, .il 1 [], .bool false, .il 1 []], .int .i64 4]) (.tup' (.cons cvNil (.cons (.same _ nn) .nil))) ⟨by rw [hR]; rfl, rfl, rfl⟩
   | true =>
    ((conv=>whnf);repeat(refine Xg ?_;conv=>whnf))
    repeat ((first | refine setK_iff.2 ?_ | refine ⟨rfl, ?_⟩); ((conv=>whnf);repeat(refine Xg ?_;conv=>whnf)))
    refine hQ.go ?_ (.cons (agW _ _) (.cons (agW _ _) .nil)) (agW _ _)
    ((conv=>whnf);repeat(refine Xg ?_;conv=>whnf))
    repeat ((first | refine setK_iff.2 ?_ | refine ⟨rfl, ?_⟩); ((conv=>whnf);repeat(refine Xg ?_;conv=>whnf)))
    refine ACalls.pre nnΓ [(0, 0), (1, 1), (2, 2), (7, 7), (8, 8), (11, 11), (22, 22), (35, 35), (38, 38)] (mem' := [(0, .row 39 4 [.agg [.bool ab, .il 1 (encU al), .bool ac, .il 1 (encU am)]]), (1, .row 39 4 [.agg [.bool bb, .il 1 (encU bl), .bool bc, .il 1 (encU bm)]]), (2, .row 39 4 [.agg [.bool false, .nsl, .bool false, .nsl]]), (7, .row 37 2 [.agg [.bool cb, .il 1 (encU cl)]]), (8, .row 37 2 [.agg [.bool db, .il 1 (encU dl)]]), (11, .row 37 2 [.agg [.bool gb, .il 1 (encU gl)]]), (22, .row 37 2 [.agg [.bool b0', .il 1 (encU l0')]]), (35, .row 37 2 [.agg [.bool b1', .il 1 (encU l1')]]), (38, .row 37 2 [.agg [.bool b3', .il 1 (encU l3')]])]) rfl ⟨⟨0, _, rfl, rfl, .same (.cons (agP _ _ _ _) .nil)⟩, ⟨1, _, rfl, rfl, .same (.cons (agP _ _ _ _) .nil)⟩, ⟨2, _, rfl, rfl, .same nF0⟩, ⟨7, _, rfl, rfl, .same (.cons (agW _ _) .nil)⟩, ⟨8, _, rfl, rfl, .same (.cons (agW _ _) .nil)⟩, ⟨11, _, rfl, rfl, .same (.cons (agW _ _) .nil)⟩, ⟨22, _, rfl, rfl, .same (.cons (agW _ _) .nil)⟩, ⟨35, _, rfl, rfl, .same (.cons (agW _ _) .nil)⟩, ⟨38, _, rfl, rfl, .same (.cons (agW _ _) .nil)⟩, trivial⟩
     (.cons (.fz' (id := 43) (off := 0) (len := 2) (xs := [.agg [.bool qb, .il 1 (encU ql)], .agg [.bool db, .il 1 (encU dl)]]) (ys := [.agg [.bool qb, .il 1 (encU ql)], .agg [.bool db, .il 1 (encU dl)]]) rfl rfl (Nat.le_refl 2) rfl (.cons (agW _ _) (.cons (agW _ _) .nil))) .nil) ?_
    refine m2.go ?_ (.cons (.il' (.cons (agW _ _) (.cons (agW _ _) .nil))) .nil) n2
    cases f2 with
    | false =>
     ((conv=>whnf);repeat(refine Xg ?_;conv=>whnf))
     repeat ((first | refine setK_iff.2 ?_ | refine ⟨rfl, ?_⟩); ((conv=>whnf);repeat(refine Xg ?_;conv=>whnf)))
     exact fin_cv (r' := .tup [.agg [.bool false, .il 1 [], .bool false, .il 1 []], .int .i64 4]) (.tup' (.cons cvNil (.cons (.same _ nn) .nil))) ⟨by rw [hR]; rfl, rfl, rfl⟩
    | true =>
     ((conv=>whnf);repeat(refine Xg ?_;conv=>whnf))
     repeat ((first | refine setK_iff.2 ?_ | refine ⟨rfl, ?_⟩); ((conv=>whnf);repeat(refine Xg ?_;conv=>whnf)))
     refine hm.go ?_ (.cons (agW _ _) (.cons (agW _ _) .nil)) (.tup' (.cons (agP _ _ _ _) (.cons nn .nil)))
     ((conv=>whnf);repeat(refine Xg ?_;conv=>whnf))
     repeat ((first | refine setK_iff.2 ?_ | refine ⟨rfl, ?_⟩); ((conv=>whnf);repeat(refine Xg ?_;conv=>whnf)))
     exact fin_pure (.tup' (.cons (agP _ _ _ _) (.cons nn .nil))) ⟨by rw [hR]; rfl, rfl, rfl⟩
theorem pSub (a b : Fr) (ha : FP a) (hb : FP b) : PureC Tryz.prog [] 24 [encP a, encP b] (.tup [encP (outF (subF (nF a) (nF b))), .int .i64 (subF (nF a) (nF b)).2]) := by
 have h1 := wNeg b.p (by have := hb.ln; omega)
 have hn : FP ⟨-b.p, b.q⟩ := ⟨by have := hb.num; unfold fits at this ⊢; rw [Int.natAbs_neg]; exact this, hb.den⟩
 have h2 : PureC Tryz.prog [] 47 [encP a, encP ⟨-b.p, b.q⟩] (.tup [encP (outF (subF (nF a) (nF b))), .int .i64 (subF (nF a) (nF b)).2]) := pAdd a ⟨-b.p, b.q⟩ ha hn
 obtain ⟨ab, al, ac, am, -, -, qa3⟩ := encP_ex a
 obtain ⟨bb, bl, bc, bm, qb1, qb2, qb3⟩ := encP_ex b
 obtain ⟨nb, nl, en⟩ := encW_ex (-b.p)
 have qn : encP ⟨-b.p, b.q⟩ = .agg [.bool nb, .il 1 (encU nl), .bool bc, .il 1 (encU bm)] := encP_mk (a := ⟨-b.p, b.q⟩) en qb2
 obtain ⟨rb, rl, rc, rm, -, -, qr⟩ := encP_ex (outF (subF (nF a) (nF b)))
 generalize (subF (nF a) (nF b)).2 = e at *
 rw [qb1, en] at h1
 rw [qa3, qn, qr] at h2
 rw [qa3, qb3, qr]
 clear qa3 qb1 qb2 qb3 en qn qr
 refine acalls_go nnΓ Tryz.func24 rfl ?_
 ((conv=>whnf);repeat(refine Xg ?_;conv=>whnf))
 repeat ((first | refine setK_iff.2 ?_ | refine ⟨rfl, ?_⟩); ((conv=>whnf);repeat(refine Xg ?_;conv=>whnf)))
 refine h1.go ?_ (.cons (agW _ _) .nil) (agW _ _)
 ((conv=>whnf);repeat(refine Xg ?_;conv=>whnf))
 repeat ((first | refine setK_iff.2 ?_ | refine ⟨rfl, ?_⟩); ((conv=>whnf);repeat(refine Xg ?_;conv=>whnf)))
 refine h2.go ?_ (.cons (agP _ _ _ _) (.cons (agP _ _ _ _) .nil)) (.tup' (.cons (agP _ _ _ _) (.cons nn .nil)))
 ((conv=>whnf);repeat(refine Xg ?_;conv=>whnf))
 repeat ((first | refine setK_iff.2 ?_ | refine ⟨rfl, ?_⟩); ((conv=>whnf);repeat(refine Xg ?_;conv=>whnf)))
 exact fin_pure (.tup' (.cons (agP _ _ _ _) (.cons nn .nil))) ⟨rfl, rfl, rfl⟩
end Go.Proofs.YtbannipihdlofaaGreatDoor
