/- A part of the proof. -/
import Derived.Test.YtbannipihdlofaaGreatDoorAx12
set_option linter.unusedVariables false
namespace Go.Proofs.YtbannipihdlofaaGreatDoor
open Go Go.Ax Go.Proofs
set_option maxRecDepth 100000
set_option maxHeartbeats 16000000
set_option linter.unusedSimpArgs false
theorem fits_abs {x y : Int} (h : fits x = true) (hl : y.natAbs ≤ x.natAbs) : fits y = true := by
 unfold fits at h ⊢
 exact decide_eq_true (Nat.lt_of_le_of_lt hl (of_decide_eq_true h))
theorem ediv_abs (p : Int) (g : Nat) (h : g ∣ p.natAbs) : (p / (g : Int)).natAbs ≤ p.natAbs := by rw [natAbs_ediv_nat p g h]; exact Nat.div_le_self _ _
theorem den_of_pos {T : Fr} (h : 0 < T.q) : T.den = T.q := by unfold Fr.den; rw [if_neg (by omega)]
theorem pMul (a b : Fr) (ha : FP a) (hb : FP b) (ca : Go.Ax.Can (nF a)) (cb : Go.Ax.Can (nF b)) : PureC Tryz.prog [] 32 [encP a, encP b] (.tup [encP (outF (mulF (nF a) (nF b))), .int .i64 (mulF (nF a) (nF b)).2]) := by
 have ha0 := den_pos a
 have hb0 := den_pos b
 have la1 := ha.ln; have la2 := ha.ld; have lb1 := hb.ln; have lb2 := hb.ld
 have dA := pDen a (by have := ha.lq; omega)
 have dB := pDen b (by have := hb.lq; omega)
 have hx : mkF (a.p * b.p) ((a.den : Int) * (b.den : Int)) = ⟨(a.p / (Nat.gcd a.p.natAbs b.den : Int)) * (b.p / (Nat.gcd b.p.natAbs a.den : Int)), (a.den / Nat.gcd b.p.natAbs a.den) * (b.den / Nat.gcd a.p.natAbs b.den)⟩ := mul_cross ca cb
 have cM : Go.Ax.Can (mkF (a.p * b.p) ((a.den : Int) * (b.den : Int))) := mkF_can (Int.mul_ne_zero (by omega) (by omega))
 have hres : mulF (nF a) (nF b) = rngF (mkF (a.p * b.p) ((a.den : Int) * (b.den : Int))) := rfl
 have g1 : 0 < Nat.gcd a.p.natAbs b.den := Nat.gcd_pos_of_pos_right _ hb0
 have g2 : 0 < Nat.gcd b.p.natAbs a.den := Nat.gcd_pos_of_pos_right _ ha0
 have hG := wGcd a.p (b.den : Int) (by omega) (by rw [Int.natAbs_natCast]; omega)
 have hH := wGcd b.p (a.den : Int) (by omega) (by rw [Int.natAbs_natCast]; omega)
 simp only [Int.natAbs_natCast] at hG hH
 have gl1 := dgl_gcd hW a.p.natAbs b.den
 have gl2 := dgl_gcd hW b.p.natAbs a.den
 have o1 := pOver a.p (Nat.gcd a.p.natAbs b.den : Nat) (by omega) (by omega) (by rw [Int.natAbs_natCast]; omega)
 have o2 := pOver b.p (Nat.gcd b.p.natAbs a.den : Nat) (by omega) (by omega) (by rw [Int.natAbs_natCast]; omega)
 have o3 := pOver (a.den : Int) (Nat.gcd b.p.natAbs a.den : Nat) (by omega) (by rw [Int.natAbs_natCast]; omega) (by rw [Int.natAbs_natCast]; omega)
 have o4 := pOver (b.den : Int) (Nat.gcd a.p.natAbs b.den : Nat) (by omega) (by rw [Int.natAbs_natCast]; omega) (by rw [Int.natAbs_natCast]; omega)
 rw [← Int.natCast_ediv] at o3 o4
 have x1 := ediv_abs a.p _ (Nat.gcd_dvd_left a.p.natAbs b.den)
 have x2 := ediv_abs b.p _ (Nat.gcd_dvd_left b.p.natAbs a.den)
 have fx1 := fits_abs ha.num x1
 have fx3 := fits_div (Nat.gcd b.p.natAbs a.den) ha.den
 have y1 := dg_len_mono hW x1
 have y2 := dg_len_mono hW x2
 have y3 := dgl_div hW a.den (Nat.gcd b.p.natAbs a.den)
 have y4 := dgl_div hW b.den (Nat.gcd a.p.natAbs b.den)
 generalize a.p / ((Nat.gcd a.p.natAbs b.den : Nat) : Int) = u1 at *
 generalize b.p / ((Nat.gcd b.p.natAbs a.den : Nat) : Int) = u2 at *
 generalize a.den / Nat.gcd b.p.natAbs a.den = u3 at *
 generalize b.den / Nat.gcd a.p.natAbs b.den = u4 at *
 generalize Nat.gcd a.p.natAbs b.den = g at *
 generalize Nat.gcd b.p.natAbs a.den = h at *
 rw [hx] at cM hres
 have m1 := pProduct u1 u2 fx1 (by omega)
 have m2 := pProduct (u3 : Int) (u4 : Int) fx3 (by rw [Int.natAbs_natCast]; omega)
 have z1 := dgl_mul hW u1.natAbs u2.natAbs
 have z2 := dgl_mul hW u3 u4
 have hm := pMake (u1 * u2) ((u3 * u4 : Nat) : Int) (by have := cM.pos; simp only at this; omega) (by rw [Int.natAbs_mul]; omega) (by rw [Int.natAbs_natCast]; omega)
 have hself : mkF (u1 * u2) ((u3 * u4 : Nat) : Int) = ⟨u1 * u2, u3 * u4⟩ := mkF_self cM
 rw [hself] at hm
 have n1 := rngW_nn (u1 * u2)
 have n2 := rngW_nn ((u3 : Int) * (u4 : Int))
 rw [rngW_if] at m1 m2 n1 n2
 rw [← Int.natCast_mul] at m2 n2
 have hR : AV.tup [encP (outF (mulF (nF a) (nF b))), .int .i64 (mulF (nF a) (nF b)).2] = if (fits (u1 * u2) && fits ((u3 * u4 : Nat) : Int)) = true then .tup [encP ⟨u1 * u2, u3 * u4⟩, .int .i64 0] else .tup [encP nilF, .int .i64 4] := by
  rw [hres]
  unfold rngF
  simp only
  cases fits (u1 * u2) <;> cases fits ((u3 * u4 : Nat) : Int) <;> rfl
 generalize AV.tup [encP (outF (mulF (nF a) (nF b))), .int .i64 (mulF (nF a) (nF b)).2] = RES at *
 rw [encP_nil] at hR
 clear hres hself hx cM x1 x2 y1 y2 y3 y4 z1 z2 fx1 fx3 gl1 gl2 la1 la2 lb1 lb2 ha0 hb0 g1 g2 ca cb ha hb
 obtain ⟨Mb, Ml, Mc, Mm, qM1, qM2, qM⟩ := encP_ex ⟨u1 * u2, u3 * u4⟩
 simp only at qM1 qM2
 obtain ⟨ab, al, ac, am, qa1, qa2, qa3⟩ := encP_ex a
 obtain ⟨bb, bl, bc, bm, qb1, qb2, qb3⟩ := encP_ex b
 obtain ⟨cb, cl, ead⟩ := encW_ex (a.den : Int)
 obtain ⟨db, dl, ebd⟩ := encW_ex (b.den : Int)
 obtain ⟨gb, gl, eg⟩ := encW_ex (g : Int)
 obtain ⟨hb, hl, eh⟩ := encW_ex (h : Int)
 obtain ⟨b1, l1, k1⟩ := encW_ex u1
 obtain ⟨b2, l2, k2⟩ := encW_ex u2
 obtain ⟨b3, l3, k3⟩ := encW_ex (u3 : Int)
 obtain ⟨b4, l4, k4⟩ := encW_ex (u4 : Int)
 rw [qM1, qM2, qM] at hm
 rw [qM1] at n1
 rw [qM2] at n2
 rw [qM] at hR
 rw [k1, k2, qM1] at m1
 rw [k3, k4, qM2] at m2
 generalize fits (u1 * u2) = f1 at *
 generalize fits ((u3 * u4 : Nat) : Int) = f2 at *
 rw [qa3, ead] at dA
 rw [qb3, ebd] at dB
 rw [qa1, ebd, eg] at hG
 rw [qb1, ead, eh] at hH
 rw [qa1, eg, k1] at o1
 rw [qb1, eh, k2] at o2
 rw [ead, eh, k3] at o3
 rw [ebd, eg, k4] at o4
 rw [qa3, qb3]
 clear qa1 qa2 qa3 qb1 qb2 qb3 qM qM1 qM2 eg eh k1 k2 k3 k4 ead ebd
 refine acalls_go nnΓ Tryz.func32 rfl ?_
 ((conv=>whnf);repeat(refine Xg ?_;conv=>whnf))
 repeat ((first | refine setK_iff.2 ?_ | refine ⟨rfl, ?_⟩); ((conv=>whnf);repeat(refine Xg ?_;conv=>whnf)))
 refine dA.go ?_ (.cons (agP _ _ _ _) .nil) (agW _ _)
 ((conv=>whnf);repeat(refine Xg ?_;conv=>whnf))
 repeat ((first | refine setK_iff.2 ?_ | refine ⟨rfl, ?_⟩); ((conv=>whnf);repeat(refine Xg ?_;conv=>whnf)))
 refine dB.go ?_ (.cons (agP _ _ _ _) .nil) (agW _ _)
 ((conv=>whnf);repeat(refine Xg ?_;conv=>whnf))
 repeat ((first | refine setK_iff.2 ?_ | refine ⟨rfl, ?_⟩); ((conv=>whnf);repeat(refine Xg ?_;conv=>whnf)))
 refine hG.go ?_ (.cons (agW _ _) (.cons (agW _ _) .nil)) (agW _ _)
 ((conv=>whnf);repeat(refine Xg ?_;conv=>whnf))
 repeat ((first | refine setK_iff.2 ?_ | refine ⟨rfl, ?_⟩); ((conv=>whnf);repeat(refine Xg ?_;conv=>whnf)))
 refine hH.go ?_ (.cons (agW _ _) (.cons (agW _ _) .nil)) (agW _ _)
 ((conv=>whnf);repeat(refine Xg ?_;conv=>whnf))
 repeat ((first | refine setK_iff.2 ?_ | refine ⟨rfl, ?_⟩); ((conv=>whnf);repeat(refine Xg ?_;conv=>whnf)))
 refine o1.go ?_ (.cons (agW _ _) (.cons (agW _ _) .nil)) (agW _ _)
 ((conv=>whnf);repeat(refine Xg ?_;conv=>whnf))
 repeat ((first | refine setK_iff.2 ?_ | refine ⟨rfl, ?_⟩); ((conv=>whnf);repeat(refine Xg ?_;conv=>whnf)))
 refine o2.go ?_ (.cons (agW _ _) (.cons (agW _ _) .nil)) (agW _ _)
 ((conv=>whnf);repeat(refine Xg ?_;conv=>whnf))
 repeat ((first | refine setK_iff.2 ?_ | refine ⟨rfl, ?_⟩); ((conv=>whnf);repeat(refine Xg ?_;conv=>whnf)))
 refine ACalls.pre nnΓ [(0, 0), (1, 1), (2, 2), (11, 11), (12, 12), (13, 13), (14, 14), (25, 25), (26, 26)] (mem' := [(0, .row 39 4 [.agg [.bool ab, .il 1 (encU al), .bool ac, .il 1 (encU am)]]), (1, .row 39 4 [.agg [.bool bb, .il 1 (encU bl), .bool bc, .il 1 (encU bm)]]), (2, .row 39 4 [.agg [.bool false, .nsl, .bool false, .nsl]]), (11, .row 37 2 [.agg [.bool ab, .il 1 (encU al)]]), (12, .row 37 2 [.agg [.bool cb, .il 1 (encU cl)]]), (13, .row 37 2 [.agg [.bool bb, .il 1 (encU bl)]]), (14, .row 37 2 [.agg [.bool db, .il 1 (encU dl)]]), (25, .row 37 2 [.agg [.bool gb, .il 1 (encU gl)]]), (26, .row 37 2 [.agg [.bool hb, .il 1 (encU hl)]])]) rfl ⟨⟨0, _, rfl, rfl, .same (.cons (agP _ _ _ _) .nil)⟩, ⟨1, _, rfl, rfl, .same (.cons (agP _ _ _ _) .nil)⟩, ⟨2, _, rfl, rfl, .same nF0⟩, ⟨11, _, rfl, rfl, .same (.cons (agW _ _) .nil)⟩, ⟨12, _, rfl, rfl, .same (.cons (agW _ _) .nil)⟩, ⟨13, _, rfl, rfl, .same (.cons (agW _ _) .nil)⟩, ⟨14, _, rfl, rfl, .same (.cons (agW _ _) .nil)⟩, ⟨25, _, rfl, rfl, .same (.cons (agW _ _) .nil)⟩, ⟨26, _, rfl, rfl, .same (.cons (agW _ _) .nil)⟩, trivial⟩
  (.cons (.fz' (id := 35) (off := 0) (len := 2) (xs := [.agg [.bool b1, .il 1 (encU l1)], .agg [.bool b2, .il 1 (encU l2)]]) (ys := [.agg [.bool b1, .il 1 (encU l1)], .agg [.bool b2, .il 1 (encU l2)]]) rfl rfl (Nat.le_refl 2) rfl (.cons (agW _ _) (.cons (agW _ _) .nil))) .nil) ?_
 refine m1.go ?_ (.cons (.il' (.cons (agW _ _) (.cons (agW _ _) .nil))) .nil) n1
 cases f1 with
 | false =>
  ((conv=>whnf);repeat(refine Xg ?_;conv=>whnf))
  repeat ((first | refine setK_iff.2 ?_ | refine ⟨rfl, ?_⟩); ((conv=>whnf);repeat(refine Xg ?_;conv=>whnf)))
  exact fin_cv (r' := .tup [.agg [.bool false, .il 1 [], .bool false, .il 1 []], .int .i64 4]) (.tup' (.cons cvNil (.cons (.same _ nn) .nil))) ⟨by rw [hR]; rfl, rfl, rfl⟩
 | true =>
  ((conv=>whnf);repeat(refine Xg ?_;conv=>whnf))
  repeat ((first | refine setK_iff.2 ?_ | refine ⟨rfl, ?_⟩); ((conv=>whnf);repeat(refine Xg ?_;conv=>whnf)))
  refine o3.go ?_ (.cons (agW _ _) (.cons (agW _ _) .nil)) (agW _ _)
  ((conv=>whnf);repeat(refine Xg ?_;conv=>whnf))
  repeat ((first | refine setK_iff.2 ?_ | refine ⟨rfl, ?_⟩); ((conv=>whnf);repeat(refine Xg ?_;conv=>whnf)))
  refine o4.go ?_ (.cons (agW _ _) (.cons (agW _ _) .nil)) (agW _ _)
  ((conv=>whnf);repeat(refine Xg ?_;conv=>whnf))
  repeat ((first | refine setK_iff.2 ?_ | refine ⟨rfl, ?_⟩); ((conv=>whnf);repeat(refine Xg ?_;conv=>whnf)))
  refine ACalls.pre nnΓ [(0, 0), (1, 1), (2, 2), (11, 11), (12, 12), (13, 13), (14, 14), (25, 25), (26, 26), (40, 40)] (mem' := [(0, .row 39 4 [.agg [.bool ab, .il 1 (encU al), .bool ac, .il 1 (encU am)]]), (1, .row 39 4 [.agg [.bool bb, .il 1 (encU bl), .bool bc, .il 1 (encU bm)]]), (2, .row 39 4 [.agg [.bool false, .nsl, .bool false, .nsl]]), (11, .row 37 2 [.agg [.bool ab, .il 1 (encU al)]]), (12, .row 37 2 [.agg [.bool cb, .il 1 (encU cl)]]), (13, .row 37 2 [.agg [.bool bb, .il 1 (encU bl)]]), (14, .row 37 2 [.agg [.bool db, .il 1 (encU dl)]]), (25, .row 37 2 [.agg [.bool gb, .il 1 (encU gl)]]), (26, .row 37 2 [.agg [.bool hb, .il 1 (encU hl)]]), (40, .row 37 2 [.agg [.bool Mb, .il 1 (encU Ml)]])]) rfl ⟨⟨0, _, rfl, rfl, .same (.cons (agP _ _ _ _) .nil)⟩, ⟨1, _, rfl, rfl, .same (.cons (agP _ _ _ _) .nil)⟩, ⟨2, _, rfl, rfl, .same nF0⟩, ⟨11, _, rfl, rfl, .same (.cons (agW _ _) .nil)⟩, ⟨12, _, rfl, rfl, .same (.cons (agW _ _) .nil)⟩, ⟨13, _, rfl, rfl, .same (.cons (agW _ _) .nil)⟩, ⟨14, _, rfl, rfl, .same (.cons (agW _ _) .nil)⟩, ⟨25, _, rfl, rfl, .same (.cons (agW _ _) .nil)⟩, ⟨26, _, rfl, rfl, .same (.cons (agW _ _) .nil)⟩, ⟨40, _, rfl, rfl, .same (.cons (agW _ _) .nil)⟩, trivial⟩
   (.cons (.fz' (id := 49) (off := 0) (len := 2) (xs := [.agg [.bool b3, .il 1 (encU l3)], .agg [.bool b4, .il 1 (encU l4)]]) (ys := [.agg [.bool b3, .il 1 (encU l3)], .agg [.bool b4, .il 1 (encU l4)]]) rfl rfl (Nat.le_refl 2) rfl (.cons (agW _ _) (.cons (agW _ _) .nil))) .nil) ?_
  refine m2.go ?_ (.cons (.il' (.cons (agW _ _) (.cons (agW _ _) .nil))) .nil) n2
  cases f2 with
  | false =>
   ((conv=>whnf);repeat(refine Xg ?_;conv=>whnf))
   repeat ((first | refine setK_iff.2 ?_ | refine ⟨rfl, ?_⟩); ((conv=>whnf);repeat(refine Xg ?_;conv=>whnf)))
   exact fin_cv (r' := .tup [.agg [.bool false, .il 1 [], .bool false, .il 1 []], .int .i64 4]) (.tup' (.cons cvNil (.cons (.same _ nn) .nil))) ⟨by rw [hR]; rfl, rfl, rfl⟩
  | true =>
   ((conv=>whnf);repeat(refine Xg ?_;conv=>whnf))
   repeat ((first | refine setK_iff.2 ?_ | refine ⟨rfl, ?_⟩); ((conv=>whnf);repeat(refine Xg ?_;conv=>whnf)))
   refine hm.go ?_ (.cons (agW _ _) (.cons (agW _ _) .nil)) (.tup' (.cons (agP _ _ _ _) (.cons nn .nil)))
   ((conv=>whnf);repeat(refine Xg ?_;conv=>whnf))
   repeat ((first | refine setK_iff.2 ?_ | refine ⟨rfl, ?_⟩); ((conv=>whnf);repeat(refine Xg ?_;conv=>whnf)))
   exact fin_pure (.tup' (.cons (agP _ _ _ _) (.cons nn .nil))) ⟨by rw [hR]; rfl, rfl, rfl⟩
theorem pDiv (a b : Fr) (ha : FP a) (hb : FP b) (ca : Go.Ax.Can (nF a)) (cb : Go.Ax.Can (nF b)) : PureC Tryz.prog [] 25 [encP a, encP b] (.tup [encP (outF (divF (nF a) (nF b))), .int .i64 (divF (nF a) (nF b)).2]) := by
 have hb0 := den_pos b
 have lb1 := hb.ln; have lb2 := hb.ld
 have hs := wSign b.p (by omega)
 have dB := pDen b (by have := hb.lq; omega)
 obtain ⟨ab, al, ac, am, -, -, qa3⟩ := encP_ex a
 obtain ⟨bb, bl, bc, bm, qb1, qb2, qb3⟩ := encP_ex b
 rw [qb1] at hs
 rw [qa3, qb3]
 by_cases hz : b.p = 0
 ·have hR : divF (nF a) (nF b) = (zF, 1) := by unfold divF; rw [if_pos (show (nF b).p = 0 from hz)]
  rw [hR, show outF (zF, 1) = nilF from rfl, encP_nil]
  rw [hz, show cmpJ 0 0 = 0 from rfl] at hs
  clear qa3 qb1 qb2 qb3 dB
  refine acalls_go nnΓ Tryz.func25 rfl ?_
  ((conv=>whnf);repeat(refine Xg ?_;conv=>whnf))
  repeat ((first | refine setK_iff.2 ?_ | refine ⟨rfl, ?_⟩); ((conv=>whnf);repeat(refine Xg ?_;conv=>whnf)))
  refine hs.go ?_ (.cons (agW _ _) .nil) nn
  ((conv=>whnf);repeat(refine Xg ?_;conv=>whnf))
  repeat ((first | refine setK_iff.2 ?_ | refine ⟨rfl, ?_⟩); ((conv=>whnf);repeat(refine Xg ?_;conv=>whnf)))
  exact fin_cv (r' := .tup [.agg [.bool false, .il 1 [], .bool false, .il 1 []], .int .i64 1]) (.tup' (.cons cvNil (.cons (.same _ nn) .nil))) ⟨rfl, rfl, rfl⟩
 ·have hmk := pMake (b.den : Int) b.p hz (by rw [Int.natAbs_natCast]; omega) (by omega)
  have hT0 : 0 < (mkF (b.den : Int) b.p).q := (mkF_can hz).pos
  have hTd := den_of_pos hT0
  have hTn : nF (mkF (b.den : Int) b.p) = mkF (b.den : Int) b.p := by unfold nF; rw [hTd]
  have hTP : FP (mkF (b.den : Int) b.p) := ⟨fits_abs hb.den (by have := mkF_num (b.den : Int) b.p; omega), by rw [hTd]; exact fits_abs hb.num (by rw [Int.natAbs_natCast]; exact mkF_den _ _)⟩
  have hmu := pMul a (mkF (b.den : Int) b.p) ha hTP ca (by rw [hTn]; exact mkF_can hz)
  rw [hTn] at hmu
  have hR : mulF (nF a) (mkF (b.den : Int) b.p) = divF (nF a) (nF b) := by
   unfold divF mulF
   rw [if_neg (show ¬ (nF b).p = 0 from hz)]
   exact congrArg rngF (div_turn ca cb hz)
  rw [hR] at hmu
  obtain ⟨tb, tl, tc, tm, -, -, qt⟩ := encP_ex (mkF (b.den : Int) b.p)
  obtain ⟨rb, rl, rc, rm, -, -, qr⟩ := encP_ex (outF (divF (nF a) (nF b)))
  obtain ⟨db, dl, ebd⟩ := encW_ex (b.den : Int)
  generalize (divF (nF a) (nF b)).2 = e at *
  rw [qb3, ebd] at dB
  rw [ebd, qb1, qt] at hmk
  rw [qa3, qt, qr] at hmu
  rw [qr]
  have hsn : (cmpJ b.p 0 == 0) = false := by rw [beq_eq_false_iff_ne]; exact cmpJ_ne hz
  generalize cmpJ b.p 0 = cs at *
  clear qa3 qb1 qb2 qb3 qt qr ebd hR
  refine acalls_go nnΓ Tryz.func25 rfl ?_
  ((conv=>whnf);repeat(refine Xg ?_;conv=>whnf))
  repeat ((first | refine setK_iff.2 ?_ | refine ⟨rfl, ?_⟩); ((conv=>whnf);repeat(refine Xg ?_;conv=>whnf)))
  refine hs.go ?_ (.cons (agW _ _) .nil) nn
  ((conv=>whnf);repeat(refine Xg ?_;conv=>whnf))
  rw [hsn]
  ((conv=>whnf);repeat(refine Xg ?_;conv=>whnf))
  repeat ((first | refine setK_iff.2 ?_ | refine ⟨rfl, ?_⟩); ((conv=>whnf);repeat(refine Xg ?_;conv=>whnf)))
  refine dB.go ?_ (.cons (agP _ _ _ _) .nil) (agW _ _)
  ((conv=>whnf);repeat(refine Xg ?_;conv=>whnf))
  repeat ((first | refine setK_iff.2 ?_ | refine ⟨rfl, ?_⟩); ((conv=>whnf);repeat(refine Xg ?_;conv=>whnf)))
  refine hmk.go ?_ (.cons (agW _ _) (.cons (agW _ _) .nil)) (.tup' (.cons (agP _ _ _ _) (.cons nn .nil)))
  ((conv=>whnf);repeat(refine Xg ?_;conv=>whnf))
  repeat ((first | refine setK_iff.2 ?_ | refine ⟨rfl, ?_⟩); ((conv=>whnf);repeat(refine Xg ?_;conv=>whnf)))
  refine hmu.go ?_ (.cons (agP _ _ _ _) (.cons (agP _ _ _ _) .nil)) (.tup' (.cons (agP _ _ _ _) (.cons nn .nil)))
  ((conv=>whnf);repeat(refine Xg ?_;conv=>whnf))
  repeat ((first | refine setK_iff.2 ?_ | refine ⟨rfl, ?_⟩); ((conv=>whnf);repeat(refine Xg ?_;conv=>whnf)))
  exact fin_pure (.tup' (.cons (agP _ _ _ _) (.cons nn .nil))) ⟨rfl, rfl, rfl⟩
set_option maxHeartbeats 16000000
set_option linter.unusedSimpArgs false
theorem cmpJ_r (x y : Int) : cmpJ x y = -1 ∨ cmpJ x y = 0 ∨ cmpJ x y = 1 := by unfold cmpJ; split <;> (try split) <;> omega
theorem emod_abs (p q : Int) (hq : 0 < q) : (p % q).natAbs ≤ q.natAbs := by
 have h1 := Int.emod_nonneg p (show q ≠ 0 by omega)
 have h2 := Int.emod_lt_of_pos p hq
 omega
theorem pCompare (a b : Fr) (ha : FP a) (hb : FP b) : PureC Tryz.prog [] 26 [encP a, encP b] (.int .i64 (cmpF (nF a) (nF b))) := by
 have ha0 := den_pos a
 have hb0 := den_pos b
 have la1 := ha.ln; have la2 := ha.ld; have lb1 := hb.ln; have lb2 := hb.ld
 have dA := pDen a (by have := ha.lq; omega)
 have dB := pDen b (by have := hb.lq; omega)
 obtain ⟨ab, al, ac, am, qa1, qa2, qa3⟩ := encP_ex a
 obtain ⟨bb, bl, bc, bm, qb1, qb2, qb3⟩ := encP_ex b
 obtain ⟨cb, cl, ead⟩ := encW_ex (a.den : Int)
 obtain ⟨db, dl, ebd⟩ := encW_ex (b.den : Int)
 obtain ⟨C, hC⟩ : ∃ C, C = cmpF (nF a) (nF b) := ⟨_, rfl⟩
 have hC2 : C = cmpJ (a.p * (b.den : Int)) (b.p * (a.den : Int)) := hC
 rw [← hC, qa3, qb3]
 rw [qa3, ead] at dA
 rw [qb3, ebd] at dB
 refine acalls_go nnΓ Tryz.func26 rfl ?_
 ((conv=>whnf);repeat(refine Xg ?_;conv=>whnf))
 repeat ((first | refine setK_iff.2 ?_ | refine ⟨rfl, ?_⟩); ((conv=>whnf);repeat(refine Xg ?_;conv=>whnf)))
 refine dA.go ?_ (.cons (agP _ _ _ _) .nil) (agW _ _)
 ((conv=>whnf);repeat(refine Xg ?_;conv=>whnf))
 repeat ((first | refine setK_iff.2 ?_ | refine ⟨rfl, ?_⟩); ((conv=>whnf);repeat(refine Xg ?_;conv=>whnf)))
 refine dB.go ?_ (.cons (agP _ _ _ _) .nil) (agW _ _)
 ((conv=>whnf);repeat(refine Xg ?_;conv=>whnf))
 repeat ((first | refine setK_iff.2 ?_ | refine ⟨rfl, ?_⟩); ((conv=>whnf);repeat(refine Xg ?_;conv=>whnf)))
 refine ALoop.at nnΓ (fun x : (Int × Int) × (Int × Int) × Int => 0 < x.1.2 ∧ 0 < x.2.1.2 ∧ (dg 4294967296 x.1.1.natAbs).length ≤ 512 ∧ (dg 4294967296 x.1.2.natAbs).length ≤ 512 ∧ (dg 4294967296 x.2.1.1.natAbs).length ≤ 512 ∧ (dg 4294967296 x.2.1.2.natAbs).length ≤ 512 ∧ (x.2.2 = 1 ∨ x.2.2 = -1) ∧ C = x.2.2 * cmpJ (x.1.1 * x.2.1.2) (x.2.1.1 * x.1.2))
  (fun x => ⟨[(5, .ptr 0 0 0), (6, .ptr 1 0 0), (7, .ptr 2 0 0), (8, .ptr 3 0 0), (9, .int .i64 x.2.2)], [(0, .row 37 2 [encW x.1.1]), (1, .row 37 2 [encW x.1.2]), (2, .row 37 2 [encW x.2.1.1]), (3, .row 37 2 [encW x.2.1.2])], 4, 68⟩)
  (fun x => x.1.2.natAbs) ((a.p, (a.den : Int)), (b.p, (b.den : Int)), 1) [(10, 0), (11, 1), (12, 2), (13, 3)] ⟨by simp only; omega, by simp only; omega, la1, by simp only; rw [Int.natAbs_natCast]; exact la2, lb1, by simp only; rw [Int.natAbs_natCast]; exact lb2, .inl rfl, by simp only; omega⟩
  (conv_mk _ rfl ⟨⟨10, _, rfl, rfl, .eq (.cons (encW_nn _) .nil) (by simp only; rw [qa1])⟩, ⟨11, _, rfl, rfl, .eq (.cons (encW_nn _) .nil) (by simp only; rw [ead])⟩, ⟨12, _, rfl, rfl, .eq (.cons (encW_nn _) .nil) (by simp only; rw [qb1])⟩, ⟨13, _, rfl, rfl, .eq (.cons (encW_nn _) .nil) (by simp only; rw [ebd])⟩, trivial⟩
   ⟨⟨_, rfl, .ptr 10 0 0 0 rfl⟩, ⟨_, rfl, .ptr 11 1 0 0 rfl⟩, ⟨_, rfl, .ptr 12 2 0 0 rfl⟩, ⟨_, rfl, .ptr 13 3 0 0 rfl⟩, ⟨_, rfl, .same _ nn⟩, trivial⟩) ?_
 clear hC hC2 dA dB ead ebd qa1 qa2 qa3 qb1 qb2 qb3 la1 la2 lb1 lb2 ha hb ha0 hb0
 rintro ⟨⟨p, q⟩, ⟨r, s⟩, sg⟩ ⟨h1, h2, h3, h4, h5, h6, h7, h8⟩
 simp only at h1 h2 h3 h4 h5 h6 h7 h8 ⊢
 have d1 := wDiv p q (by omega) (by omega) (by omega)
 have d2 := wDiv r s (by omega) (by omega) (by omega)
 have x0 := Int.emod_nonneg p (show q ≠ 0 by omega)
 have y0 := Int.emod_nonneg r (show s ≠ 0 by omega)
 have x1 := Int.emod_lt_of_pos p h1
 have y1 := Int.emod_lt_of_pos r h2
 have lx := dg_len_mono hW (emod_abs p q h1)
 have ly := dg_len_mono hW (emod_abs r s h2)
 have lwh : (dg 4294967296 (p / q).natAbs).length ≤ 512 := Nat.le_trans (dg_len_mono hW (Int.natAbs_ediv_le_natAbs _ _)) h3
 have lot : (dg 4294967296 (r / s).natAbs).length ≤ 512 := Nat.le_trans (dg_len_mono hW (Int.natAbs_ediv_le_natAbs _ _)) h5
 have hcw := wCompare (p / q) (r / s) (by omega) (by omega)
 have sx := wSign (p % q) (by omega)
 have sy := wSign (r % s) (by omega)
 have k1 : p / q ≠ r / s → cmpJ (p * s) (r * q) = cmpJ (p / q) (r / s) := cmp_whole h1 h2
 have k2 : p / q = r / s → cmpJ (p * s) (r * q) = cmpJ (p % q * s) (r % s * q) := cmp_rest
 have k3 : p % q = 0 ∨ r % s = 0 → cmpJ (p % q * s) (r % s * q) = cmpJ (p % q) 0 - cmpJ (r % s) 0 := cmp_zero h1 h2 x0 y0
 have k4 : cmpJ (p % q * s) (r % s * q) = - cmpJ (q * (r % s)) (s * (p % q)) := cmp_turn
 have kc : cmpJ (p / q) (r / s) = 0 ↔ p / q = r / s := cmpJ_eq
 have kx : cmpJ (p % q) 0 = 0 ↔ p % q = 0 := cmpJ_eq
 have ky : cmpJ (r % s) 0 = 0 ↔ r % s = 0 := cmpJ_eq
 have rc := cmpJ_r (p / q) (r / s)
 have rx := cmpJ_r (p % q) 0
 have ry := cmpJ_r (r % s) 0
 obtain ⟨bp, lp, ep⟩ := encW_ex p
 obtain ⟨bq, lq, eq⟩ := encW_ex q
 obtain ⟨br, lr, er⟩ := encW_ex r
 obtain ⟨bs, ls, es⟩ := encW_ex s
 obtain ⟨b1, l1, e1⟩ := encW_ex (p / q)
 obtain ⟨b2, l2, e2⟩ := encW_ex (p % q)
 obtain ⟨b3, l3, e3⟩ := encW_ex (r / s)
 obtain ⟨b4, l4, e4⟩ := encW_ex (r % s)
 rw [ep, eq, e1, e2] at d1
 rw [er, es, e3, e4] at d2
 rw [e1, e3] at hcw
 rw [e2] at sx
 rw [e4] at sy
 rw [ep, eq, er, es]
 generalize p / q = wh at *
 generalize r / s = ot at *
 generalize cmpJ wh ot = cc at *
 generalize hcx : cmpJ (p % q) 0 = cx at *
 generalize hcy : cmpJ (r % s) 0 = cy at *
 ((conv=>whnf);repeat(refine Xg ?_;conv=>whnf))
 repeat ((first | refine setK_iff.2 ?_ | refine ⟨rfl, ?_⟩); ((conv=>whnf);repeat(refine Xg ?_;conv=>whnf)))
 refine d1.go ?_ (.cons (agW _ _) (.cons (agW _ _) .nil)) (.tup' (.cons (agW _ _) (.cons (agW _ _) (.cons nn .nil))))
 ((conv=>whnf);repeat(refine Xg ?_;conv=>whnf))
 repeat ((first | refine setK_iff.2 ?_ | refine ⟨rfl, ?_⟩); ((conv=>whnf);repeat(refine Xg ?_;conv=>whnf)))
 refine d2.go ?_ (.cons (agW _ _) (.cons (agW _ _) .nil)) (.tup' (.cons (agW _ _) (.cons (agW _ _) (.cons nn .nil))))
 ((conv=>whnf);repeat(refine Xg ?_;conv=>whnf))
 repeat ((first | refine setK_iff.2 ?_ | refine ⟨rfl, ?_⟩); ((conv=>whnf);repeat(refine Xg ?_;conv=>whnf)))
 refine hcw.go ?_ (.cons (agW _ _) (.cons (agW _ _) .nil)) nn
 ((conv=>whnf);repeat(refine Xg ?_;conv=>whnf))
 refine bcs_mk (fun hc => ?_) (fun hc => ?_)
 ·have hc : cc ≠ 0 := by simpa using hc
  have hCv : C = sg * cc := by rw [h8, k1 (fun e => hc (kc.2 e))]
  have hw : IntKind.i64.wrap (sg * cc) = C := by rw [hCv]; rcases h7 with e | e <;> rcases rc with f | f | f <;> rw [e, f] <;> decide
  ((conv=>whnf);repeat(refine Xg ?_;conv=>whnf))
  rw [hw]
  exact fin_pure nn ⟨rfl, rfl, rfl⟩
 ·have hc : cc = 0 := by simpa using hc
  have k2 := k2 (kc.1 hc)
  have hz : ∀ z : Int, (z == 0) = decide (z = 0) := fun z => by
   by_cases h : z = 0
   ·rw [h]; rfl
   ·rw [decide_eq_false h]; exact beq_eq_false_iff_ne.2 h
  have fin : p % q = 0 ∨ r % s = 0 → IntKind.i64.wrap (sg * IntKind.i64.wrap (cx - cy)) = C := fun h => by
   rw [h8, k2, k3 h]
   rcases h7 with e | e <;> rcases rx with f | f | f <;> rcases ry with g | g | g <;> rw [e, f, g] <;> decide
  by_cases hx : p % q = 0
  ·have fin := fin (.inl hx)
   have bx : (cx == 0) = true := by rw [kx.2 hx]; rfl
   ((conv=>whnf);repeat(refine Xg ?_;conv=>whnf))
   repeat ((first | refine setK_iff.2 ?_ | refine ⟨rfl, ?_⟩); ((conv=>whnf);repeat(refine Xg ?_;conv=>whnf)))
   refine sx.go ?_ (.cons (agW _ _) .nil) nn
   ((conv=>whnf);repeat(refine Xg ?_;conv=>whnf))
   rw [bx]
   ((conv=>whnf);repeat(refine Xg ?_;conv=>whnf))
   repeat ((first | refine setK_iff.2 ?_ | refine ⟨rfl, ?_⟩); ((conv=>whnf);repeat(refine Xg ?_;conv=>whnf)))
   refine sx.go ?_ (.cons (agW _ _) .nil) nn
   ((conv=>whnf);repeat(refine Xg ?_;conv=>whnf))
   repeat ((first | refine setK_iff.2 ?_ | refine ⟨rfl, ?_⟩); ((conv=>whnf);repeat(refine Xg ?_;conv=>whnf)))
   refine sy.go ?_ (.cons (agW _ _) .nil) nn
   ((conv=>whnf);repeat(refine Xg ?_;conv=>whnf))
   repeat ((first | refine setK_iff.2 ?_ | refine ⟨rfl, ?_⟩); ((conv=>whnf);repeat(refine Xg ?_;conv=>whnf)))
   rw [fin]
   exact fin_pure nn ⟨rfl, rfl, rfl⟩
  ·have bx : (cx == 0) = false := beq_eq_false_iff_ne.2 (fun h => hx (kx.1 h))
   by_cases hy : r % s = 0
   ·have fin := fin (.inr hy)
    have by' : (cy == 0) = true := by rw [ky.2 hy]; rfl
    ((conv=>whnf);repeat(refine Xg ?_;conv=>whnf))
    repeat ((first | refine setK_iff.2 ?_ | refine ⟨rfl, ?_⟩); ((conv=>whnf);repeat(refine Xg ?_;conv=>whnf)))
    refine sx.go ?_ (.cons (agW _ _) .nil) nn
    ((conv=>whnf);repeat(refine Xg ?_;conv=>whnf))
    rw [bx]
    ((conv=>whnf);repeat(refine Xg ?_;conv=>whnf))
    repeat ((first | refine setK_iff.2 ?_ | refine ⟨rfl, ?_⟩); ((conv=>whnf);repeat(refine Xg ?_;conv=>whnf)))
    refine sy.go ?_ (.cons (agW _ _) .nil) nn
    ((conv=>whnf);repeat(refine Xg ?_;conv=>whnf))
    rw [by']
    ((conv=>whnf);repeat(refine Xg ?_;conv=>whnf))
    repeat ((first | refine setK_iff.2 ?_ | refine ⟨rfl, ?_⟩); ((conv=>whnf);repeat(refine Xg ?_;conv=>whnf)))
    refine sx.go ?_ (.cons (agW _ _) .nil) nn
    ((conv=>whnf);repeat(refine Xg ?_;conv=>whnf))
    repeat ((first | refine setK_iff.2 ?_ | refine ⟨rfl, ?_⟩); ((conv=>whnf);repeat(refine Xg ?_;conv=>whnf)))
    refine sy.go ?_ (.cons (agW _ _) .nil) nn
    ((conv=>whnf);repeat(refine Xg ?_;conv=>whnf))
    repeat ((first | refine setK_iff.2 ?_ | refine ⟨rfl, ?_⟩); ((conv=>whnf);repeat(refine Xg ?_;conv=>whnf)))
    rw [fin]
    exact fin_pure nn ⟨rfl, rfl, rfl⟩
   ·have by' : (cy == 0) = false := beq_eq_false_iff_ne.2 (fun h => hy (ky.1 h))
    have hws : IntKind.i64.wrap (0 - sg) = -sg := by rcases h7 with e | e <;> rw [e] <;> decide
    ((conv=>whnf);repeat(refine Xg ?_;conv=>whnf))
    repeat ((first | refine setK_iff.2 ?_ | refine ⟨rfl, ?_⟩); ((conv=>whnf);repeat(refine Xg ?_;conv=>whnf)))
    refine sx.go ?_ (.cons (agW _ _) .nil) nn
    ((conv=>whnf);repeat(refine Xg ?_;conv=>whnf))
    rw [bx]
    ((conv=>whnf);repeat(refine Xg ?_;conv=>whnf))
    repeat ((first | refine setK_iff.2 ?_ | refine ⟨rfl, ?_⟩); ((conv=>whnf);repeat(refine Xg ?_;conv=>whnf)))
    refine sy.go ?_ (.cons (agW _ _) .nil) nn
    ((conv=>whnf);repeat(refine Xg ?_;conv=>whnf))
    rw [by']
    ((conv=>whnf);repeat(refine Xg ?_;conv=>whnf))
    repeat ((first | refine setK_iff.2 ?_ | refine ⟨rfl, ?_⟩); ((conv=>whnf);repeat(refine Xg ?_;conv=>whnf)))
    exact .mk ((q, p % q), (s, r % s), -sg) [(0, 0), (1, 1), (2, 2), (3, 3)] ⟨by simp only; omega, by simp only; omega, h4, by simp only; omega, h6, by simp only; omega, by simp only; omega, by
      simp only
      rw [h8, k2, k4, Int.mul_neg, Int.neg_mul]⟩
     (conv_mk _ rfl ⟨⟨0, _, rfl, rfl, .eq (.cons (encW_nn _) .nil) (by simp only; rw [eq])⟩, ⟨1, _, rfl, rfl, .eq (.cons (encW_nn _) .nil) (by simp only; rw [e2])⟩, ⟨2, _, rfl, rfl, .eq (.cons (encW_nn _) .nil) (by simp only; rw [es])⟩, ⟨3, _, rfl, rfl, .eq (.cons (encW_nn _) .nil) (by simp only; rw [e4])⟩, trivial⟩
      ⟨⟨_, rfl, .ptr 0 0 0 0 rfl⟩, ⟨_, rfl, .ptr 1 1 0 0 rfl⟩, ⟨_, rfl, .ptr 2 2 0 0 rfl⟩, ⟨_, rfl, .ptr 3 3 0 0 rfl⟩, ⟨_, rfl, .int hws⟩, trivial⟩) (by simp only; omega)
set_option maxHeartbeats 16000000
set_option linter.unusedSimpArgs false
structure FC (a : Fr) : Prop where
 can : Go.Ax.Can a
 num : fits a.p = true
 den : fits (a.q : Int) = true
theorem nF_can {a : Fr} (h : Go.Ax.Can a) : nF a = a := by
 unfold nF Fr.den
 rw [if_neg (by have := h.pos; omega)]
theorem FC.fp {a : Fr} (h : FC a) : FP a := ⟨h.num, by unfold Fr.den; rw [if_neg (by have := h.can.pos; omega)]; exact h.den⟩
theorem FC.lf {a : Fr} (h : FC a) : LF 200000 a := by
 have h1 : nW a.p.natAbs ≤ 512 := fits_nW h.num
 have h2 : nW (a.q : Int).natAbs ≤ 512 := fits_nW h.den
 rw [Int.natAbs_natCast] at h2
 have h3 := dgl_ten a.p.natAbs
 have h4 := dgl_ten a.q
 exact ⟨by omega, by omega⟩
theorem mul_fc {a b : Fr} (ha : FC a) (hb : FC b) (h : (mulF a b).2 = 0) : FC (mulF a b).1 := by
 have hc : Go.Ax.Can (mkF (a.p * b.p) ((a.q : Int) * (b.q : Int))) := mkF_can (Int.mul_ne_zero (by have := ha.can.pos; omega) (by have := hb.can.pos; omega))
 unfold mulF rngF at h ⊢
 split at h
 ·rename_i hf
  rw [if_pos hf]
  exact ⟨hc, hf.1, hf.2⟩
 ·simp at h
theorem pMulC (a b : Fr) (ha : FC a) (hb : FC b) : PureC Tryz.prog [] 32 [encP a, encP b] (.tup [encP (outF (mulF a b)), .int .i64 (mulF a b).2]) := by
 have h := pMul a b ha.fp hb.fp (by rw [nF_can ha.can]; exact ha.can) (by rw [nF_can hb.can]; exact hb.can)
 rw [nF_can ha.can, nF_can hb.can] at h
 exact h
theorem fMulC (a b : Fr) (ha : FC a) (hb : FC b) : PureC Tryz.prog [] 33 [encF a, encF b] (.tup [encF (mulF a b).1, .int .i64 (mulF a b).2]) := fMul a b ha.lf hb.lf ha.can.pos hb.can.pos
theorem pCmpC (a b : Fr) (ha : FC a) (hb : FC b) : PureC Tryz.prog [] 26 [encP a, encP b] (.int .i64 (cmpF a b)) := by
 have h := pCompare a b ha.fp hb.fp
 rw [nF_can ha.can, nF_can hb.can] at h
 exact h
theorem fCmpC (a b : Fr) (ha : FC a) (hb : FC b) : PureC Tryz.prog [] 34 [encF a, encF b] (.int .i64 (cmpF a b)) := fCompare a b ha.lf hb.lf
structure TF (t : Tst) : Prop where
 hit : FC t.hit
 miss : FC t.miss
 upper : FC t.upper
 lower : FC t.lower
 ratio : FC t.ratio
 runs : t.runs ≤ 1099511627776
 hits : t.hits ≤ 1099511627776
set_option maxHeartbeats 16000000
set_option linter.unusedSimpArgs false
def encTP (t : Tst) : AV := .agg ([.bool (decide (t.hit.p < 0)), .il 1 (encU (dg 4294967296 t.hit.p.natAbs)), .bool (decide ((t.hit.q : Int) < 0)), .il 1 (encU (dg 4294967296 (t.hit.q : Int).natAbs))] ++ (encP t.miss).cells ++ (encP t.upper).cells ++ (encP t.lower).cells ++ (encP t.ratio).cells ++ [.int .i64 t.verdict, .int .i64 t.runs, .int .i64 t.hits])
theorem encTP_mk {t : Tst} {hb hc mb mc ub uc lb lc rb rc : Bool} {hl hm ml mm ul um ll lm rl rm : List Nat} (h1 : encP t.hit = .agg [.bool hb, .il 1 (encU hl), .bool hc, .il 1 (encU hm)]) (h2 : encP t.miss = .agg [.bool mb, .il 1 (encU ml), .bool mc, .il 1 (encU mm)]) (h3 : encP t.upper = .agg [.bool ub, .il 1 (encU ul), .bool uc, .il 1 (encU um)]) (h4 : encP t.lower = .agg [.bool lb, .il 1 (encU ll), .bool lc, .il 1 (encU lm)]) (h5 : encP t.ratio = .agg [.bool rb, .il 1 (encU rl), .bool rc, .il 1 (encU rm)]) :
  encTP t = .agg [.bool hb, .il 1 (encU hl), .bool hc, .il 1 (encU hm), .bool mb, .il 1 (encU ml), .bool mc, .il 1 (encU mm), .bool ub, .il 1 (encU ul), .bool uc, .il 1 (encU um), .bool lb, .il 1 (encU ll), .bool lc, .il 1 (encU lm), .bool rb, .il 1 (encU rl), .bool rc, .il 1 (encU rm), .int .i64 t.verdict, .int .i64 t.runs, .int .i64 t.hits] := by
 have e : encTP t = .agg ((encP t.hit).cells ++ (encP t.miss).cells ++ (encP t.upper).cells ++ (encP t.lower).cells ++ (encP t.ratio).cells ++ [.int .i64 t.verdict, .int .i64 t.runs, .int .i64 t.hits]) := rfl
 rw [e, h1, h2, h3, h4, h5]
 rfl
theorem agPT (hb hc mb mc ub uc lb lc rb rc : Bool) (hl hm ml mm ul um ll lm rl rm : List Nat) (v n k : Int) : NNs [.agg [.bool hb, .il 1 (encU hl), .bool hc, .il 1 (encU hm), .bool mb, .il 1 (encU ml), .bool mc, .il 1 (encU mm), .bool ub, .il 1 (encU ul), .bool uc, .il 1 (encU um), .bool lb, .il 1 (encU ll), .bool lc, .il 1 (encU lm), .bool rb, .il 1 (encU rl), .bool rc, .il 1 (encU rm), .int .i64 v, .int .i64 n, .int .i64 k]] :=
 .cons (.agg' (.cons (tB _) (.cons (tU _) (.cons (tB _) (.cons (tU _) (.cons (tB _) (.cons (tU _) (.cons (tB _) (.cons (tU _) (.cons (tB _) (.cons (tU _) (.cons (tB _) (.cons (tU _) (.cons (tB _) (.cons (tU _) (.cons (tB _) (.cons (tU _) (.cons (tB _) (.cons (tU _) (.cons (tB _) (.cons (tU _) (.cons nn (.cons nn (.cons nn .nil)))))))))))))))))))))))) .nil
theorem pFeed (t : Tst) (hit : Bool) (ht : TF t) : ACalls Tryz.prog [] 11 [.ptr 0 0 0, .bool hit] [(0, .row 75 23 [encTP t])] 1 fun r m n =>
  r = .tup [.int .i64 (feedT t hit).2.1, .int .i64 (feedT t hit).2.2] ∧ m = [(0, .row 75 23 [encTP (feedT t hit).1])] ∧ n = 1 := by
 have w1 : IntKind.i64.wrap ((t.runs : Int) + 1) = ((t.runs + 1 : Nat) : Int) := by have := ht.runs; rw [wrap64 ⟨by omega, by omega⟩]; omega
 have w2 : IntKind.i64.wrap ((t.hits : Int) + 1) = ((t.hits + 1 : Nat) : Int) := by have := ht.hits; rw [wrap64 ⟨by omega, by omega⟩]; omega
 obtain ⟨hb, hl, hc, hm, -, -, q1⟩ := encP_ex t.hit
 obtain ⟨mb, ml, mc, mm, -, -, q2⟩ := encP_ex t.miss
 obtain ⟨ub, ul, uc, um, -, -, q3⟩ := encP_ex t.upper
 obtain ⟨lb, ll, lc, lm, -, -, q4⟩ := encP_ex t.lower
 obtain ⟨rb, rl, rc, rm, -, -, q5⟩ := encP_ex t.ratio
 have qT := encTP_mk q1 q2 q3 q4 q5
 by_cases hv : t.verdict = 0
 rotate_left
 ·rw [feed_done hv]
  simp only
  rw [qT]
  have hz : ((t.verdict : Int) != 0) = true := by rw [bne_iff_ne]; omega
  refine acalls_go nnΓ Tryz.func11 rfl ?_
  ((conv=>whnf);repeat(refine Xg ?_;conv=>whnf))
  repeat ((first | refine setK_iff.2 ?_ | refine ⟨rfl, ?_⟩); ((conv=>whnf);repeat(refine Xg ?_;conv=>whnf)))
  rw [hz]
  ((conv=>whnf);repeat(refine Xg ?_;conv=>whnf))
  repeat ((first | refine setK_iff.2 ?_ | refine ⟨rfl, ?_⟩); ((conv=>whnf);repeat(refine Xg ?_;conv=>whnf)))
  exact fin_mk (r' := .tup [.int .i64 t.verdict, .int .i64 25]) (m' := [(0, .row 75 23 [.agg [.bool hb, .il 1 (encU hl), .bool hc, .il 1 (encU hm), .bool mb, .il 1 (encU ml), .bool mc, .il 1 (encU mm), .bool ub, .il 1 (encU ul), .bool uc, .il 1 (encU um), .bool lb, .il 1 (encU ll), .bool lc, .il 1 (encU lm), .bool rb, .il 1 (encU rl), .bool rc, .il 1 (encU rm), .int .i64 t.verdict, .int .i64 t.runs, .int .i64 t.hits]])]) (n' := 1) [(0, 0)] rfl ⟨⟨0, _, rfl, rfl, .same (agPT _ _ _ _ _ _ _ _ _ _ _ _ _ _ _ _ _ _ _ _ _ _ _)⟩, trivial⟩ (.same _ (.tup' (.cons nn (.cons nn .nil)))) ⟨rfl, rfl, rfl⟩
 ·rw [qT, hv]
  cases hit with
  | true =>
   have hM := pMulC t.ratio t.hit ht.ratio ht.hit
   have hF0 : feedT t true = if (mulF t.ratio t.hit).2 ≠ 0 then (t, (0 : Int), (mulF t.ratio t.hit).2) else ((⟨t.hit, t.miss, t.upper, t.lower, (mulF t.ratio t.hit).1, verF t.upper t.lower (mulF t.ratio t.hit).1, t.runs + 1, t.hits + 1⟩ : Tst), ((verF t.upper t.lower (mulF t.ratio t.hit).1 : Nat) : Int), 0) := by
    unfold feedT; rw [if_neg (by rw [hv]; simp)]; rfl
   have hRF : (mulF t.ratio t.hit).2 = 0 → FC (mulF t.ratio t.hit).1 := mul_fc ht.ratio ht.hit
   generalize mulF t.ratio t.hit = mv at *
   obtain ⟨R, e⟩ := mv
   simp only at hM hF0 hRF
   by_cases he : e = 0
   ·have hF : feedT t true = (⟨t.hit, t.miss, t.upper, t.lower, R, verF t.upper t.lower R, t.runs + 1, t.hits + 1⟩, ((verF t.upper t.lower R : Nat) : Int), 0) := by rw [hF0, if_neg (by rw [he]; simp)]
    have hRF := hRF he
    have c1 := pCmpC R t.upper hRF ht.upper
    have c2 := pCmpC R t.lower hRF ht.lower
    have hver : verF t.upper t.lower R = if 0 ≤ cmpF R t.upper then 1 else if cmpF R t.lower ≤ 0 then 2 else 0 := rfl
    rw [show outF (R, e) = R by unfold outF; rw [if_pos he]] at hM
    obtain ⟨wb, wl, wc, wm, -, -, qR⟩ := encP_ex R
    rw [q5, q1, qR, he] at hM
    rw [qR, q3] at c1
    rw [qR, q4] at c2
    clear hF0 ht
    generalize cmpF R t.upper = k1 at *
    generalize cmpF R t.lower = k2 at *
    refine acalls_go nnΓ Tryz.func11 rfl ?_
    ((conv=>whnf);repeat(refine Xg ?_;conv=>whnf))
    repeat ((first | refine setK_iff.2 ?_ | refine ⟨rfl, ?_⟩); ((conv=>whnf);repeat(refine Xg ?_;conv=>whnf)))
    refine hM.go ?_ (.cons (agP _ _ _ _) (.cons (agP _ _ _ _) .nil)) (.tup' (.cons (agP _ _ _ _) (.cons nn .nil)))
    ((conv=>whnf);repeat(refine Xg ?_;conv=>whnf))
    repeat ((first | refine setK_iff.2 ?_ | refine ⟨rfl, ?_⟩); ((conv=>whnf);repeat(refine Xg ?_;conv=>whnf)))
    refine c1.go ?_ (.cons (agP _ _ _ _) (.cons (agP _ _ _ _) .nil)) nn
    ((conv=>whnf);repeat(refine Xg ?_;conv=>whnf))
    repeat ((first | refine setK_iff.2 ?_ | refine ⟨rfl, ?_⟩); ((conv=>whnf);repeat(refine Xg ?_;conv=>whnf)))
    refine bcs_mk (fun h => ?_) (fun h => ?_)
    ·have h := of_decide_eq_true h
     have hV : verF t.upper t.lower R = 1 := by rw [hver, if_pos (by omega)]
     ((conv=>whnf);repeat(refine Xg ?_;conv=>whnf))
     repeat ((first | refine setK_iff.2 ?_ | refine ⟨rfl, ?_⟩); ((conv=>whnf);repeat(refine Xg ?_;conv=>whnf)))
     exact fin_mk (r' := .tup [.int .i64 1, .int .i64 0]) (m' := [(0, .row 75 23 [.agg [.bool hb, .il 1 (encU hl), .bool hc, .il 1 (encU hm), .bool mb, .il 1 (encU ml), .bool mc, .il 1 (encU mm), .bool ub, .il 1 (encU ul), .bool uc, .il 1 (encU um), .bool lb, .il 1 (encU ll), .bool lc, .il 1 (encU lm), .bool wb, .il 1 (encU wl), .bool wc, .il 1 (encU wm), .int .i64 1, .int .i64 ((t.runs + 1 : Nat) : Int), .int .i64 ((t.hits + 1 : Nat) : Int)]])]) (n' := 1) [(0, 0)] rfl ⟨⟨0, _, rfl, rfl, .cons (.agg (.cons (.same _ (tB _)) (.cons (.same _ (tU _)) (.cons (.same _ (tB _)) (.cons (.same _ (tU _)) (.cons (.same _ (tB _)) (.cons (.same _ (tU _)) (.cons (.same _ (tB _)) (.cons (.same _ (tU _)) (.cons (.same _ (tB _)) (.cons (.same _ (tU _)) (.cons (.same _ (tB _)) (.cons (.same _ (tU _)) (.cons (.same _ (tB _)) (.cons (.same _ (tU _)) (.cons (.same _ (tB _)) (.cons (.same _ (tU _)) (.cons (.same _ (tB _)) (.cons (.same _ (tU _)) (.cons (.same _ (tB _)) (.cons (.same _ (tU _)) (.cons (.same _ nn) (.cons (.int w1) (.cons (.int w2) (.nil))))))))))))))))))))))))) .nil⟩, trivial⟩ (.same _ (.tup' (.cons nn (.cons nn .nil)))) ⟨by rw [hF, hV]; rfl, by rw [hF, hV]; simp only; rw [encTP_mk (t := ⟨t.hit, t.miss, t.upper, t.lower, R, _, t.runs + 1, t.hits + 1⟩) q1 q2 q3 q4 qR]; rfl, rfl⟩
    ·have h := of_decide_eq_false h
     ((conv=>whnf);repeat(refine Xg ?_;conv=>whnf))
     repeat ((first | refine setK_iff.2 ?_ | refine ⟨rfl, ?_⟩); ((conv=>whnf);repeat(refine Xg ?_;conv=>whnf)))
     refine c2.go ?_ (.cons (agP _ _ _ _) (.cons (agP _ _ _ _) .nil)) nn
     ((conv=>whnf);repeat(refine Xg ?_;conv=>whnf))
     repeat ((first | refine setK_iff.2 ?_ | refine ⟨rfl, ?_⟩); ((conv=>whnf);repeat(refine Xg ?_;conv=>whnf)))
     refine bcs_mk (fun h2 => ?_) (fun h2 => ?_)
     ·have h2 := of_decide_eq_true h2
      have hV : verF t.upper t.lower R = 2 := by rw [hver, if_neg (by omega), if_pos (by omega)]
      ((conv=>whnf);repeat(refine Xg ?_;conv=>whnf))
      repeat ((first | refine setK_iff.2 ?_ | refine ⟨rfl, ?_⟩); ((conv=>whnf);repeat(refine Xg ?_;conv=>whnf)))
      exact fin_mk (r' := .tup [.int .i64 2, .int .i64 0]) (m' := [(0, .row 75 23 [.agg [.bool hb, .il 1 (encU hl), .bool hc, .il 1 (encU hm), .bool mb, .il 1 (encU ml), .bool mc, .il 1 (encU mm), .bool ub, .il 1 (encU ul), .bool uc, .il 1 (encU um), .bool lb, .il 1 (encU ll), .bool lc, .il 1 (encU lm), .bool wb, .il 1 (encU wl), .bool wc, .il 1 (encU wm), .int .i64 2, .int .i64 ((t.runs + 1 : Nat) : Int), .int .i64 ((t.hits + 1 : Nat) : Int)]])]) (n' := 1) [(0, 0)] rfl ⟨⟨0, _, rfl, rfl, .cons (.agg (.cons (.same _ (tB _)) (.cons (.same _ (tU _)) (.cons (.same _ (tB _)) (.cons (.same _ (tU _)) (.cons (.same _ (tB _)) (.cons (.same _ (tU _)) (.cons (.same _ (tB _)) (.cons (.same _ (tU _)) (.cons (.same _ (tB _)) (.cons (.same _ (tU _)) (.cons (.same _ (tB _)) (.cons (.same _ (tU _)) (.cons (.same _ (tB _)) (.cons (.same _ (tU _)) (.cons (.same _ (tB _)) (.cons (.same _ (tU _)) (.cons (.same _ (tB _)) (.cons (.same _ (tU _)) (.cons (.same _ (tB _)) (.cons (.same _ (tU _)) (.cons (.same _ nn) (.cons (.int w1) (.cons (.int w2) (.nil))))))))))))))))))))))))) .nil⟩, trivial⟩ (.same _ (.tup' (.cons nn (.cons nn .nil)))) ⟨by rw [hF, hV]; rfl, by rw [hF, hV]; simp only; rw [encTP_mk (t := ⟨t.hit, t.miss, t.upper, t.lower, R, _, t.runs + 1, t.hits + 1⟩) q1 q2 q3 q4 qR]; rfl, rfl⟩
     ·have h2 := of_decide_eq_false h2
      have hV : verF t.upper t.lower R = 0 := by rw [hver, if_neg (by omega), if_neg (by omega)]
      ((conv=>whnf);repeat(refine Xg ?_;conv=>whnf))
      repeat ((first | refine setK_iff.2 ?_ | refine ⟨rfl, ?_⟩); ((conv=>whnf);repeat(refine Xg ?_;conv=>whnf)))
      exact fin_mk (r' := .tup [.int .i64 0, .int .i64 0]) (m' := [(0, .row 75 23 [.agg [.bool hb, .il 1 (encU hl), .bool hc, .il 1 (encU hm), .bool mb, .il 1 (encU ml), .bool mc, .il 1 (encU mm), .bool ub, .il 1 (encU ul), .bool uc, .il 1 (encU um), .bool lb, .il 1 (encU ll), .bool lc, .il 1 (encU lm), .bool wb, .il 1 (encU wl), .bool wc, .il 1 (encU wm), .int .i64 0, .int .i64 ((t.runs + 1 : Nat) : Int), .int .i64 ((t.hits + 1 : Nat) : Int)]])]) (n' := 1) [(0, 0)] rfl ⟨⟨0, _, rfl, rfl, .cons (.agg (.cons (.same _ (tB _)) (.cons (.same _ (tU _)) (.cons (.same _ (tB _)) (.cons (.same _ (tU _)) (.cons (.same _ (tB _)) (.cons (.same _ (tU _)) (.cons (.same _ (tB _)) (.cons (.same _ (tU _)) (.cons (.same _ (tB _)) (.cons (.same _ (tU _)) (.cons (.same _ (tB _)) (.cons (.same _ (tU _)) (.cons (.same _ (tB _)) (.cons (.same _ (tU _)) (.cons (.same _ (tB _)) (.cons (.same _ (tU _)) (.cons (.same _ (tB _)) (.cons (.same _ (tU _)) (.cons (.same _ (tB _)) (.cons (.same _ (tU _)) (.cons (.same _ nn) (.cons (.int w1) (.cons (.int w2) (.nil))))))))))))))))))))))))) .nil⟩, trivial⟩ (.same _ (.tup' (.cons nn (.cons nn .nil)))) ⟨by rw [hF, hV]; rfl, by rw [hF, hV]; simp only; rw [encTP_mk (t := ⟨t.hit, t.miss, t.upper, t.lower, R, _, t.runs + 1, t.hits + 1⟩) q1 q2 q3 q4 qR]; rfl, rfl⟩
   ·have hF : feedT t true = (t, 0, e) := by rw [hF0, if_pos he]
    have hne : (e != 0) = true := bne_iff_ne.2 he
    obtain ⟨wb, wl, wc, wm, -, -, qR⟩ := encP_ex (outF (R, e))
    rw [q5, q1, qR] at hM
    rw [hF]
    simp only
    rw [qT, hv]
    refine acalls_go nnΓ Tryz.func11 rfl ?_
    ((conv=>whnf);repeat(refine Xg ?_;conv=>whnf))
    repeat ((first | refine setK_iff.2 ?_ | refine ⟨rfl, ?_⟩); ((conv=>whnf);repeat(refine Xg ?_;conv=>whnf)))
    refine hM.go ?_ (.cons (agP _ _ _ _) (.cons (agP _ _ _ _) .nil)) (.tup' (.cons (agP _ _ _ _) (.cons nn .nil)))
    ((conv=>whnf);repeat(refine Xg ?_;conv=>whnf))
    repeat ((first | refine setK_iff.2 ?_ | refine ⟨rfl, ?_⟩); ((conv=>whnf);repeat(refine Xg ?_;conv=>whnf)))
    rw [hne]
    ((conv=>whnf);repeat(refine Xg ?_;conv=>whnf))
    repeat ((first | refine setK_iff.2 ?_ | refine ⟨rfl, ?_⟩); ((conv=>whnf);repeat(refine Xg ?_;conv=>whnf)))
    exact fin_mk (r' := .tup [.int .i64 0, .int .i64 e]) (m' := [(0, .row 75 23 [.agg [.bool hb, .il 1 (encU hl), .bool hc, .il 1 (encU hm), .bool mb, .il 1 (encU ml), .bool mc, .il 1 (encU mm), .bool ub, .il 1 (encU ul), .bool uc, .il 1 (encU um), .bool lb, .il 1 (encU ll), .bool lc, .il 1 (encU lm), .bool rb, .il 1 (encU rl), .bool rc, .il 1 (encU rm), .int .i64 ((0 : Nat) : Int), .int .i64 t.runs, .int .i64 t.hits]])]) (n' := 1) [(0, 0)] rfl ⟨⟨0, _, rfl, rfl, .same (agPT _ _ _ _ _ _ _ _ _ _ _ _ _ _ _ _ _ _ _ _ _ _ _)⟩, trivial⟩ (.same _ (.tup' (.cons nn (.cons nn .nil)))) ⟨rfl, rfl, rfl⟩
  | false =>
   have hM := pMulC t.ratio t.miss ht.ratio ht.miss
   have hF0 : feedT t false = if (mulF t.ratio t.miss).2 ≠ 0 then (t, (0 : Int), (mulF t.ratio t.miss).2) else ((⟨t.hit, t.miss, t.upper, t.lower, (mulF t.ratio t.miss).1, verF t.upper t.lower (mulF t.ratio t.miss).1, t.runs + 1, t.hits⟩ : Tst), ((verF t.upper t.lower (mulF t.ratio t.miss).1 : Nat) : Int), 0) := by
    unfold feedT; rw [if_neg (by rw [hv]; simp)]; rfl
   have hRF : (mulF t.ratio t.miss).2 = 0 → FC (mulF t.ratio t.miss).1 := mul_fc ht.ratio ht.miss
   generalize mulF t.ratio t.miss = mv at *
   obtain ⟨R, e⟩ := mv
   simp only at hM hF0 hRF
   by_cases he : e = 0
   ·have hF : feedT t false = (⟨t.hit, t.miss, t.upper, t.lower, R, verF t.upper t.lower R, t.runs + 1, t.hits⟩, ((verF t.upper t.lower R : Nat) : Int), 0) := by rw [hF0, if_neg (by rw [he]; simp)]
    have hRF := hRF he
    have c1 := pCmpC R t.upper hRF ht.upper
    have c2 := pCmpC R t.lower hRF ht.lower
    have hver : verF t.upper t.lower R = if 0 ≤ cmpF R t.upper then 1 else if cmpF R t.lower ≤ 0 then 2 else 0 := rfl
    rw [show outF (R, e) = R by unfold outF; rw [if_pos he]] at hM
    obtain ⟨wb, wl, wc, wm, -, -, qR⟩ := encP_ex R
    rw [q5, q2, qR, he] at hM
    rw [qR, q3] at c1
    rw [qR, q4] at c2
    clear hF0 ht
    generalize cmpF R t.upper = k1 at *
    generalize cmpF R t.lower = k2 at *
    refine acalls_go nnΓ Tryz.func11 rfl ?_
    ((conv=>whnf);repeat(refine Xg ?_;conv=>whnf))
    repeat ((first | refine setK_iff.2 ?_ | refine ⟨rfl, ?_⟩); ((conv=>whnf);repeat(refine Xg ?_;conv=>whnf)))
    refine hM.go ?_ (.cons (agP _ _ _ _) (.cons (agP _ _ _ _) .nil)) (.tup' (.cons (agP _ _ _ _) (.cons nn .nil)))
    ((conv=>whnf);repeat(refine Xg ?_;conv=>whnf))
    repeat ((first | refine setK_iff.2 ?_ | refine ⟨rfl, ?_⟩); ((conv=>whnf);repeat(refine Xg ?_;conv=>whnf)))
    refine c1.go ?_ (.cons (agP _ _ _ _) (.cons (agP _ _ _ _) .nil)) nn
    ((conv=>whnf);repeat(refine Xg ?_;conv=>whnf))
    repeat ((first | refine setK_iff.2 ?_ | refine ⟨rfl, ?_⟩); ((conv=>whnf);repeat(refine Xg ?_;conv=>whnf)))
    refine bcs_mk (fun h => ?_) (fun h => ?_)
    ·have h := of_decide_eq_true h
     have hV : verF t.upper t.lower R = 1 := by rw [hver, if_pos (by omega)]
     ((conv=>whnf);repeat(refine Xg ?_;conv=>whnf))
     repeat ((first | refine setK_iff.2 ?_ | refine ⟨rfl, ?_⟩); ((conv=>whnf);repeat(refine Xg ?_;conv=>whnf)))
     exact fin_mk (r' := .tup [.int .i64 1, .int .i64 0]) (m' := [(0, .row 75 23 [.agg [.bool hb, .il 1 (encU hl), .bool hc, .il 1 (encU hm), .bool mb, .il 1 (encU ml), .bool mc, .il 1 (encU mm), .bool ub, .il 1 (encU ul), .bool uc, .il 1 (encU um), .bool lb, .il 1 (encU ll), .bool lc, .il 1 (encU lm), .bool wb, .il 1 (encU wl), .bool wc, .il 1 (encU wm), .int .i64 1, .int .i64 ((t.runs + 1 : Nat) : Int), .int .i64 t.hits]])]) (n' := 1) [(0, 0)] rfl ⟨⟨0, _, rfl, rfl, .cons (.agg (.cons (.same _ (tB _)) (.cons (.same _ (tU _)) (.cons (.same _ (tB _)) (.cons (.same _ (tU _)) (.cons (.same _ (tB _)) (.cons (.same _ (tU _)) (.cons (.same _ (tB _)) (.cons (.same _ (tU _)) (.cons (.same _ (tB _)) (.cons (.same _ (tU _)) (.cons (.same _ (tB _)) (.cons (.same _ (tU _)) (.cons (.same _ (tB _)) (.cons (.same _ (tU _)) (.cons (.same _ (tB _)) (.cons (.same _ (tU _)) (.cons (.same _ (tB _)) (.cons (.same _ (tU _)) (.cons (.same _ (tB _)) (.cons (.same _ (tU _)) (.cons (.same _ nn) (.cons (.int w1) (.cons (.same _ nn) (.nil))))))))))))))))))))))))) .nil⟩, trivial⟩ (.same _ (.tup' (.cons nn (.cons nn .nil)))) ⟨by rw [hF, hV]; rfl, by rw [hF, hV]; simp only; rw [encTP_mk (t := ⟨t.hit, t.miss, t.upper, t.lower, R, _, t.runs + 1, t.hits⟩) q1 q2 q3 q4 qR]; rfl, rfl⟩
    ·have h := of_decide_eq_false h
     ((conv=>whnf);repeat(refine Xg ?_;conv=>whnf))
     repeat ((first | refine setK_iff.2 ?_ | refine ⟨rfl, ?_⟩); ((conv=>whnf);repeat(refine Xg ?_;conv=>whnf)))
     refine c2.go ?_ (.cons (agP _ _ _ _) (.cons (agP _ _ _ _) .nil)) nn
     ((conv=>whnf);repeat(refine Xg ?_;conv=>whnf))
     repeat ((first | refine setK_iff.2 ?_ | refine ⟨rfl, ?_⟩); ((conv=>whnf);repeat(refine Xg ?_;conv=>whnf)))
     refine bcs_mk (fun h2 => ?_) (fun h2 => ?_)
     ·have h2 := of_decide_eq_true h2
      have hV : verF t.upper t.lower R = 2 := by rw [hver, if_neg (by omega), if_pos (by omega)]
      ((conv=>whnf);repeat(refine Xg ?_;conv=>whnf))
      repeat ((first | refine setK_iff.2 ?_ | refine ⟨rfl, ?_⟩); ((conv=>whnf);repeat(refine Xg ?_;conv=>whnf)))
      exact fin_mk (r' := .tup [.int .i64 2, .int .i64 0]) (m' := [(0, .row 75 23 [.agg [.bool hb, .il 1 (encU hl), .bool hc, .il 1 (encU hm), .bool mb, .il 1 (encU ml), .bool mc, .il 1 (encU mm), .bool ub, .il 1 (encU ul), .bool uc, .il 1 (encU um), .bool lb, .il 1 (encU ll), .bool lc, .il 1 (encU lm), .bool wb, .il 1 (encU wl), .bool wc, .il 1 (encU wm), .int .i64 2, .int .i64 ((t.runs + 1 : Nat) : Int), .int .i64 t.hits]])]) (n' := 1) [(0, 0)] rfl ⟨⟨0, _, rfl, rfl, .cons (.agg (.cons (.same _ (tB _)) (.cons (.same _ (tU _)) (.cons (.same _ (tB _)) (.cons (.same _ (tU _)) (.cons (.same _ (tB _)) (.cons (.same _ (tU _)) (.cons (.same _ (tB _)) (.cons (.same _ (tU _)) (.cons (.same _ (tB _)) (.cons (.same _ (tU _)) (.cons (.same _ (tB _)) (.cons (.same _ (tU _)) (.cons (.same _ (tB _)) (.cons (.same _ (tU _)) (.cons (.same _ (tB _)) (.cons (.same _ (tU _)) (.cons (.same _ (tB _)) (.cons (.same _ (tU _)) (.cons (.same _ (tB _)) (.cons (.same _ (tU _)) (.cons (.same _ nn) (.cons (.int w1) (.cons (.same _ nn) (.nil))))))))))))))))))))))))) .nil⟩, trivial⟩ (.same _ (.tup' (.cons nn (.cons nn .nil)))) ⟨by rw [hF, hV]; rfl, by rw [hF, hV]; simp only; rw [encTP_mk (t := ⟨t.hit, t.miss, t.upper, t.lower, R, _, t.runs + 1, t.hits⟩) q1 q2 q3 q4 qR]; rfl, rfl⟩
     ·have h2 := of_decide_eq_false h2
      have hV : verF t.upper t.lower R = 0 := by rw [hver, if_neg (by omega), if_neg (by omega)]
      ((conv=>whnf);repeat(refine Xg ?_;conv=>whnf))
      repeat ((first | refine setK_iff.2 ?_ | refine ⟨rfl, ?_⟩); ((conv=>whnf);repeat(refine Xg ?_;conv=>whnf)))
      exact fin_mk (r' := .tup [.int .i64 0, .int .i64 0]) (m' := [(0, .row 75 23 [.agg [.bool hb, .il 1 (encU hl), .bool hc, .il 1 (encU hm), .bool mb, .il 1 (encU ml), .bool mc, .il 1 (encU mm), .bool ub, .il 1 (encU ul), .bool uc, .il 1 (encU um), .bool lb, .il 1 (encU ll), .bool lc, .il 1 (encU lm), .bool wb, .il 1 (encU wl), .bool wc, .il 1 (encU wm), .int .i64 0, .int .i64 ((t.runs + 1 : Nat) : Int), .int .i64 t.hits]])]) (n' := 1) [(0, 0)] rfl ⟨⟨0, _, rfl, rfl, .cons (.agg (.cons (.same _ (tB _)) (.cons (.same _ (tU _)) (.cons (.same _ (tB _)) (.cons (.same _ (tU _)) (.cons (.same _ (tB _)) (.cons (.same _ (tU _)) (.cons (.same _ (tB _)) (.cons (.same _ (tU _)) (.cons (.same _ (tB _)) (.cons (.same _ (tU _)) (.cons (.same _ (tB _)) (.cons (.same _ (tU _)) (.cons (.same _ (tB _)) (.cons (.same _ (tU _)) (.cons (.same _ (tB _)) (.cons (.same _ (tU _)) (.cons (.same _ (tB _)) (.cons (.same _ (tU _)) (.cons (.same _ (tB _)) (.cons (.same _ (tU _)) (.cons (.same _ nn) (.cons (.int w1) (.cons (.same _ nn) (.nil))))))))))))))))))))))))) .nil⟩, trivial⟩ (.same _ (.tup' (.cons nn (.cons nn .nil)))) ⟨by rw [hF, hV]; rfl, by rw [hF, hV]; simp only; rw [encTP_mk (t := ⟨t.hit, t.miss, t.upper, t.lower, R, _, t.runs + 1, t.hits⟩) q1 q2 q3 q4 qR]; rfl, rfl⟩
   ·have hF : feedT t false = (t, 0, e) := by rw [hF0, if_pos he]
    have hne : (e != 0) = true := bne_iff_ne.2 he
    obtain ⟨wb, wl, wc, wm, -, -, qR⟩ := encP_ex (outF (R, e))
    rw [q5, q2, qR] at hM
    rw [hF]
    simp only
    rw [qT, hv]
    refine acalls_go nnΓ Tryz.func11 rfl ?_
    ((conv=>whnf);repeat(refine Xg ?_;conv=>whnf))
    repeat ((first | refine setK_iff.2 ?_ | refine ⟨rfl, ?_⟩); ((conv=>whnf);repeat(refine Xg ?_;conv=>whnf)))
    refine hM.go ?_ (.cons (agP _ _ _ _) (.cons (agP _ _ _ _) .nil)) (.tup' (.cons (agP _ _ _ _) (.cons nn .nil)))
    ((conv=>whnf);repeat(refine Xg ?_;conv=>whnf))
    repeat ((first | refine setK_iff.2 ?_ | refine ⟨rfl, ?_⟩); ((conv=>whnf);repeat(refine Xg ?_;conv=>whnf)))
    rw [hne]
    ((conv=>whnf);repeat(refine Xg ?_;conv=>whnf))
    repeat ((first | refine setK_iff.2 ?_ | refine ⟨rfl, ?_⟩); ((conv=>whnf);repeat(refine Xg ?_;conv=>whnf)))
    exact fin_mk (r' := .tup [.int .i64 0, .int .i64 e]) (m' := [(0, .row 75 23 [.agg [.bool hb, .il 1 (encU hl), .bool hc, .il 1 (encU hm), .bool mb, .il 1 (encU ml), .bool mc, .il 1 (encU mm), .bool ub, .il 1 (encU ul), .bool uc, .il 1 (encU um), .bool lb, .il 1 (encU ll), .bool lc, .il 1 (encU lm), .bool rb, .il 1 (encU rl), .bool rc, .il 1 (encU rm), .int .i64 ((0 : Nat) : Int), .int .i64 t.runs, .int .i64 t.hits]])]) (n' := 1) [(0, 0)] rfl ⟨⟨0, _, rfl, rfl, .same (agPT _ _ _ _ _ _ _ _ _ _ _ _ _ _ _ _ _ _ _ _ _ _ _)⟩, trivial⟩ (.same _ (.tup' (.cons nn (.cons nn .nil)))) ⟨rfl, rfl, rfl⟩
end Go.Proofs.YtbannipihdlofaaGreatDoor
namespace Go.Ax
open Go
theorem add_all {n m : Nat} {a b : Fr} (ha : Sz n a) (hb : Sz m b) (h : n + m + 1 < 16384) : ∃ s, addF a b = (s, 0) ∧ Sz (n + m + 1) s ∧ Can s ∧ valF s = valF a + valF b := by
 obtain ⟨q1, q2⟩ := addF_sz ha hb h
 have q3 := valF_sum ha.pos hb.pos
 refine ⟨_, q1, q2, mkF_can ?_, q3⟩
 have hg : 0 < Nat.gcd a.q b.q := Nat.gcd_pos_of_pos_left _ ha.pos
 have s3 : 0 < a.q / Nat.gcd a.q b.q := Nat.div_pos (Nat.gcd_le_left _ ha.pos) hg
 exact Int.mul_ne_zero (by omega) (by have := hb.pos; omega)
theorem sub_all {n m : Nat} {a b : Fr} (ha : Sz n a) (hb : Sz m b) (h : n + m + 1 < 16384) : ∃ s, subF a b = (s, 0) ∧ Sz (n + m + 1) s ∧ Can s ∧ valF s = valF a - valF b := by
 obtain ⟨s, h1, h2, h3, h4⟩ := add_all ha (negF_sz hb) h
 exact ⟨s, h1, h2, h3, by rw [h4, valF_negF]; grind⟩
theorem div_all {n m : Nat} {a b : Fr} (ha : Sz n a) (hb : Sz m b) (hz : valF b ≠ 0) (h : n + m < 16384) : ∃ s, divF a b = (s, 0) ∧ Sz (n + m) s ∧ Can s ∧ valF s * valF b = valF a := by
 have hp : b.p ≠ 0 := fun e => hz (by unfold valF; rw [e]; simp [Rat.div_def])
 obtain ⟨q1, q2⟩ := divF_sz ha hb hp h
 obtain ⟨-, -, q3⟩ := div_val ha hb hz h
 rw [q1] at q3
 exact ⟨_, q1, q2, mkF_can (Int.mul_ne_zero (by have := ha.pos; omega) hp), q3⟩
theorem mul_all {n m : Nat} {a b : Fr} (ha : Sz n a) (hb : Sz m b) (h : n + m < 16384) : ∃ s, mulF a b = (s, 0) ∧ Sz (n + m) s ∧ Can s ∧ valF s = valF a * valF b := by
 obtain ⟨q1, q2⟩ := mulF_sz ha hb h
 exact ⟨_, q1, q2, mkF_can (Int.mul_ne_zero (by have := ha.pos; omega) (by have := hb.pos; omega)), valF_mul ha.pos hb.pos⟩
def badN (claim low alpha beta : Fr) : Prop := sgnF low ≤ 0 ∨ 0 ≤ cmpF low claim ∨ 0 < cmpF claim oneF ∨ sgnF alpha ≤ 0 ∨ sgnF beta ≤ 0
theorem new_bad {claim low alpha beta : Fr} (h : badN claim low alpha beta) : newT claim low alpha beta = (none, 1) := by unfold badN at h; unfold newT; rw [if_pos h]
structure NewIs (n : Nat) (claim low alpha beta A B C D U L H M : Fr) : Prop where
 a : subF oneF beta = (A, 0)
 b : subF oneF alpha = (B, 0)
 c : subF oneF claim = (C, 0)
 d : subF oneF low = (D, 0)
 u : divF A alpha = (U, 0)
 l : divF beta B = (L, 0)
 h : divF claim low = (H, 0)
 m : divF C D = (M, 0)
 ca : Can A ∧ Can B ∧ Can C ∧ Can D ∧ Can U ∧ Can L ∧ Can H ∧ Can M
 sz : Sz (4 * n + 4) A ∧ Sz (4 * n + 4) B ∧ Sz (4 * n + 4) C ∧ Sz (4 * n + 4) D ∧ Sz (4 * n + 4) U ∧ Sz (4 * n + 4) L ∧ Sz (4 * n + 4) H ∧ Sz (4 * n + 4) M
 is : newT claim low alpha beta = (some ⟨H, M, U, L, oneF, 0, 0, 0⟩, 0)
theorem new_good {n : Nat} {claim low alpha beta : Fr} (hn : n ≤ 2000) (h1 : Sz n claim) (h2 : Sz n low) (h3 : Sz n alpha) (h4 : Sz n beta) (hb : ¬ badN claim low alpha beta) :
  ∃ S, addF alpha beta = (S, 0) ∧ Can S ∧ Sz (4 * n + 4) S ∧ (0 ≤ cmpF S oneF → newT claim low alpha beta = (none, 1)) ∧ (¬ 0 ≤ cmpF S oneF → ∃ A B C D U L H M, NewIs n claim low alpha beta A B C D U L H M) := by
 obtain ⟨S, s1, s2, s3, s4⟩ := add_all h3 h4 (by omega)
 unfold badN at hb
 have hb0 := hb
 simp only [not_or] at hb
 obtain ⟨a1, a2, a3, a4, a5⟩ := hb
 refine ⟨S, s1, s3, s2.mono (by omega), fun h => ?_, fun h => ?_⟩
 ·unfold newT
  rw [if_neg hb0, s1, if_neg (by simp), if_pos h]
 ·have v1 : 0 < valF low := (valF_pos h2.pos).2 (by unfold sgnF cmpJ at a1; split at a1 <;> (try split at a1) <;> omega)
  have v2 : valF low < valF claim := (cmpF_lt h2.pos h1.pos).1 (by omega)
  have v3 : valF claim ≤ 1 := by
   have := cmpF_gt h1.pos oneF_sz.pos
   rw [valF_one] at this
   have h5 := fun x => a3 (this.2 x)
   grind
  have v4 : 0 < valF alpha := (valF_pos h3.pos).2 (by unfold sgnF cmpJ at a4; split at a4 <;> (try split at a4) <;> omega)
  have v5 : 0 < valF beta := (valF_pos h4.pos).2 (by unfold sgnF cmpJ at a5; split at a5 <;> (try split at a5) <;> omega)
  have v6 : valF alpha + valF beta < 1 := by
   have := (cmpF_lt s2.pos oneF_sz.pos).1 (by omega)
   rw [valF_one, s4] at this
   exact this
  obtain ⟨A, b1, b2, b3, b4⟩ := sub_all oneF_sz h4 (by omega)
  obtain ⟨B, d1, d2, d3, d4⟩ := sub_all oneF_sz h3 (by omega)
  obtain ⟨C, f1, f2, f3, f4⟩ := sub_all oneF_sz h1 (by omega)
  obtain ⟨D, g1, g2, g3, g4⟩ := sub_all oneF_sz h2 (by omega)
  rw [valF_one] at b4 d4 f4 g4
  obtain ⟨U, u1, u2, u3, -⟩ := div_all b2 h3 (by grind) (by omega)
  obtain ⟨L, l1, l2, l3, -⟩ := div_all h4 d2 (by grind) (by omega)
  obtain ⟨H, i1, i2, i3, -⟩ := div_all h1 h2 (by grind) (by omega)
  obtain ⟨M, m1, m2, m3, -⟩ := div_all f2 g2 (by grind) (by omega)
  refine ⟨A, B, C, D, U, L, H, M, b1, d1, f1, g1, u1, l1, i1, m1, ⟨b3, d3, f3, g3, u3, l3, i3, m3⟩, ⟨b2.mono (by omega), d2.mono (by omega), f2.mono (by omega), g2.mono (by omega), u2.mono (by omega), l2.mono (by omega), i2.mono (by omega), m2.mono (by omega)⟩, ?_⟩
  unfold newT
  rw [if_neg hb0, s1, if_neg (by simp), if_neg h, b1, d1, f1, g1]
  simp only
  rw [u1, l1, i1, m1]
  simp
end Go.Ax
