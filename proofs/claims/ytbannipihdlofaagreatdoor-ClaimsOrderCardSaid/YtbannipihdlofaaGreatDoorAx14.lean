/- A part of the proof. -/
import Derived.Test.YtbannipihdlofaaGreatDoorAx13
import Derived.Test.YtbannipihdlofaaGreatDoorProg
import Derived.KernelRfl
set_option linter.unusedVariables false
namespace Go.Proofs.YtbannipihdlofaaGreatDoor
open Go Go.Ax Go.Proofs
set_option maxRecDepth 100000
set_option maxHeartbeats 16000000
set_option linter.unusedSimpArgs false
theorem sz_fc {n : Nat} {a : Fr} (h : Sz n a) (hn : n < 16384) (hc : Go.Ax.Can a) : FC a := ⟨hc, fits_le h.num hn, fits_le (by rw [Int.natAbs_natCast]; exact h.den) hn⟩
theorem oneF_fc : FC oneF := sz_fc oneF_sz (by decide) oneF_can
theorem pOne : PureC Tryz.prog [] 46 [] (encP oneF) := by
 have h := pOf 1 1 ⟨by omega, by omega⟩ ⟨by omega, by omega⟩ (by decide)
 rw [show mkF 1 1 = oneF from rfl] at h
 obtain ⟨ab, al, ac, am, -, -, q⟩ := encP_ex oneF
 rw [q] at h ⊢
 refine acalls_go nnΓ Tryz.func46 rfl ?_
 ((conv=>whnf);repeat(refine Xg ?_;conv=>whnf))
 repeat ((first | refine setK_iff.2 ?_ | refine ⟨rfl, ?_⟩); ((conv=>whnf);repeat(refine Xg ?_;conv=>whnf)))
 refine h.go ?_ (.cons nn (.cons nn .nil)) (.tup' (.cons (agP _ _ _ _) (.cons nn .nil)))
 ((conv=>whnf);repeat(refine Xg ?_;conv=>whnf))
 repeat ((first | refine setK_iff.2 ?_ | refine ⟨rfl, ?_⟩); ((conv=>whnf);repeat(refine Xg ?_;conv=>whnf)))
 exact fin_pure (agP _ _ _ _) ⟨rfl, rfl, rfl⟩
theorem pRest (a s : Fr) (ha : FC a) (hs : subF oneF a = (s, 0)) : PureC Tryz.prog [] 48 [encP a] (.tup [encP s, .int .i64 0]) := by
 have h1 := pOne
 have h2 := pSub oneF a oneF_fc.fp ha.fp
 rw [nF_can oneF_can, nF_can ha.can, hs] at h2
 have h2 : PureC Tryz.prog [] 24 [encP oneF, encP a] (.tup [encP s, .int .i64 0]) := h2
 obtain ⟨ob, ol, oc, om, -, -, q1⟩ := encP_ex oneF
 obtain ⟨ab, al, ac, am, -, -, q2⟩ := encP_ex a
 obtain ⟨sb, sl, sc, sm, -, -, q3⟩ := encP_ex s
 rw [q1] at h1
 rw [q1, q2, q3] at h2
 rw [q2, q3]
 refine acalls_go nnΓ Tryz.func48 rfl ?_
 ((conv=>whnf);repeat(refine Xg ?_;conv=>whnf))
 repeat ((first | refine setK_iff.2 ?_ | refine ⟨rfl, ?_⟩); ((conv=>whnf);repeat(refine Xg ?_;conv=>whnf)))
 refine h1.go ?_ .nil (agP _ _ _ _)
 ((conv=>whnf);repeat(refine Xg ?_;conv=>whnf))
 repeat ((first | refine setK_iff.2 ?_ | refine ⟨rfl, ?_⟩); ((conv=>whnf);repeat(refine Xg ?_;conv=>whnf)))
 refine h2.go ?_ (.cons (agP _ _ _ _) (.cons (agP _ _ _ _) .nil)) (.tup' (.cons (agP _ _ _ _) (.cons nn .nil)))
 ((conv=>whnf);repeat(refine Xg ?_;conv=>whnf))
 repeat ((first | refine setK_iff.2 ?_ | refine ⟨rfl, ?_⟩); ((conv=>whnf);repeat(refine Xg ?_;conv=>whnf)))
 exact fin_pure (.tup' (.cons (agP _ _ _ _) (.cons nn .nil))) ⟨rfl, rfl, rfl⟩
theorem pAddC (a b s : Fr) (ha : FC a) (hb : FC b) (hs : addF a b = (s, 0)) : PureC Tryz.prog [] 47 [encP a, encP b] (.tup [encP s, .int .i64 0]) := by
 have h := pAdd a b ha.fp hb.fp
 rw [nF_can ha.can, nF_can hb.can, hs] at h
 exact h
theorem pDivC (a b s : Fr) (ha : FC a) (hb : FC b) (hs : divF a b = (s, 0)) : PureC Tryz.prog [] 25 [encP a, encP b] (.tup [encP s, .int .i64 0]) := by
 have h := pDiv a b ha.fp hb.fp (by rw [nF_can ha.can]; exact ha.can) (by rw [nF_can hb.can]; exact hb.can)
 rw [nF_can ha.can, nF_can hb.can, hs] at h
 exact h
theorem pSignC (a : Fr) (ha : FC a) : PureC Tryz.prog [] 30 [encP a] (.int .i64 (sgnF a)) := pSign a (by have := ha.fp.ln; omega)
theorem fAddC (a b s : Fr) (ha : FC a) (hb : FC b) (hs : addF a b = (s, 0)) : PureC Tryz.prog [] 52 [encF a, encF b] (.tup [encF s, .int .i64 0]) := by
 have h := fAdd a b ha.lf hb.lf ha.can.pos hb.can.pos
 rw [hs] at h
 exact h
theorem fSubC (a b s : Fr) (ha : FC a) (hb : FC b) (hs : subF a b = (s, 0)) : PureC Tryz.prog [] 53 [encF a, encF b] (.tup [encF s, .int .i64 0]) := by
 have h := fSub a b ha.lf hb.lf ha.can.pos hb.can.pos
 rw [hs] at h
 exact h
theorem fDivC (a b s : Fr) (ha : FC a) (hb : FC b) (hs : divF a b = (s, 0)) : PureC Tryz.prog [] 54 [encF a, encF b] (.tup [encF s, .int .i64 0]) := by
 have h := fDiv a b ha.lf hb.lf ha.can.pos hb.can.pos
 rw [hs] at h
 exact h
theorem fOne : PureC Tryz.prog [] 45 [.int .i64 1] (encF oneF) := fOf 1 ⟨by omega, by omega⟩
def newQ (tt : TypeId) (enc : Tst → AV) (o : Option Tst × Int) (r : AV) (m : Mem) (n : Nat) : Prop :=
 match o.1 with
 | none => r = .tup [.nptr, .int .i64 o.2] ∧ m = [] ∧ n = 0
 | some T => r = .tup [.ptr 0 0 0, .int .i64 o.2] ∧ m = [(0, .row tt 23 [enc T])] ∧ n = 1
set_option maxHeartbeats 16000000
set_option linter.unusedSimpArgs false
theorem pNew {n : Nat} (hn : n ≤ 2000) (claim low alpha beta : Fr) (h1 : Sz n claim) (h2 : Sz n low) (h3 : Sz n alpha) (h4 : Sz n beta) (c1 : Go.Ax.Can claim) (c2 : Go.Ax.Can low) (c3 : Go.Ax.Can alpha) (c4 : Go.Ax.Can beta) :
  ACalls Tryz.prog [] 20 [encP claim, encP low, encP alpha, encP beta] [] 0 (newQ 75 encTP (newT claim low alpha beta)) := by
 have k1 := sz_fc h1 (by omega) c1
 have k2 := sz_fc h2 (by omega) c2
 have k3 := sz_fc h3 (by omega) c3
 have k4 := sz_fc h4 (by omega) c4
 have sL := pSignC low k2
 have cLC := pCmpC low claim k2 k1
 have cCO := pCmpC claim oneF k1 oneF_fc
 have sA := pSignC alpha k3
 have sB := pSignC beta k4
 have o1 := pOne
 have hbd : badN claim low alpha beta ↔ (sgnF low ≤ 0 ∨ 0 ≤ cmpF low claim ∨ 0 < cmpF claim oneF ∨ sgnF alpha ≤ 0 ∨ sgnF beta ≤ 0) := Iff.rfl
 have hNone := fun h => new_bad (claim := claim) (low := low) (alpha := alpha) (beta := beta) h
 have hGood := fun h => new_good hn h1 h2 h3 h4 h
 obtain ⟨cb, cl, cc, cm, -, -, qc⟩ := encP_ex claim
 obtain ⟨lb, ll, lc, lm, -, -, ql⟩ := encP_ex low
 obtain ⟨ab, al, ac, am, -, -, qa⟩ := encP_ex alpha
 obtain ⟨bb, bl, bc, bm, -, -, qb⟩ := encP_ex beta
 obtain ⟨ob, ol, oc, om, -, -, qo⟩ := encP_ex oneF
 rw [ql] at sL
 rw [ql, qc] at cLC
 rw [qc, qo] at cCO
 rw [qa] at sA
 rw [qb] at sB
 rw [qo] at o1
 rw [qc, ql, qa, qb]
 generalize sgnF low = sl at *
 generalize cmpF low claim = klc at *
 generalize cmpF claim oneF = kco at *
 generalize sgnF alpha = sa at *
 generalize sgnF beta = sb at *
 refine acalls_go nnΓ Tryz.func20 rfl ?_
 ((conv=>whnf);repeat(refine Xg ?_;conv=>whnf))
 repeat ((first | refine setK_iff.2 ?_ | refine ⟨rfl, ?_⟩); ((conv=>whnf);repeat(refine Xg ?_;conv=>whnf)))
 refine sL.go ?_ (.cons (agP _ _ _ _) .nil) nn
 ((conv=>whnf);repeat(refine Xg ?_;conv=>whnf))
 repeat ((first | refine setK_iff.2 ?_ | refine ⟨rfl, ?_⟩); ((conv=>whnf);repeat(refine Xg ?_;conv=>whnf)))
 cases hd1 : decide (sl ≤ 0) with
 | true =>
  rw [hNone (hbd.2 (.inl (of_decide_eq_true hd1)))]
  ((conv=>whnf);repeat(refine Xg ?_;conv=>whnf))
  repeat ((first | refine setK_iff.2 ?_ | refine ⟨rfl, ?_⟩); ((conv=>whnf);repeat(refine Xg ?_;conv=>whnf)))
  exact fin_pure (.tup' (.cons .nptr (.cons nn .nil))) ⟨rfl, rfl, rfl⟩
 | false =>
  ((conv=>whnf);repeat(refine Xg ?_;conv=>whnf))
  repeat ((first | refine setK_iff.2 ?_ | refine ⟨rfl, ?_⟩); ((conv=>whnf);repeat(refine Xg ?_;conv=>whnf)))
  refine cLC.go ?_ (.cons (agP _ _ _ _) (.cons (agP _ _ _ _) .nil)) nn
  ((conv=>whnf);repeat(refine Xg ?_;conv=>whnf))
  repeat ((first | refine setK_iff.2 ?_ | refine ⟨rfl, ?_⟩); ((conv=>whnf);repeat(refine Xg ?_;conv=>whnf)))
  cases hd2 : decide (klc ≥ 0) with
  | true =>
   rw [hNone (hbd.2 (.inr (.inl (of_decide_eq_true hd2))))]
   ((conv=>whnf);repeat(refine Xg ?_;conv=>whnf))
   repeat ((first | refine setK_iff.2 ?_ | refine ⟨rfl, ?_⟩); ((conv=>whnf);repeat(refine Xg ?_;conv=>whnf)))
   exact fin_pure (.tup' (.cons .nptr (.cons nn .nil))) ⟨rfl, rfl, rfl⟩
  | false =>
   ((conv=>whnf);repeat(refine Xg ?_;conv=>whnf))
   repeat ((first | refine setK_iff.2 ?_ | refine ⟨rfl, ?_⟩); ((conv=>whnf);repeat(refine Xg ?_;conv=>whnf)))
   refine o1.go ?_ .nil (agP _ _ _ _)
   ((conv=>whnf);repeat(refine Xg ?_;conv=>whnf))
   repeat ((first | refine setK_iff.2 ?_ | refine ⟨rfl, ?_⟩); ((conv=>whnf);repeat(refine Xg ?_;conv=>whnf)))
   refine cCO.go ?_ (.cons (agP _ _ _ _) (.cons (agP _ _ _ _) .nil)) nn
   ((conv=>whnf);repeat(refine Xg ?_;conv=>whnf))
   repeat ((first | refine setK_iff.2 ?_ | refine ⟨rfl, ?_⟩); ((conv=>whnf);repeat(refine Xg ?_;conv=>whnf)))
   cases hd3 : decide (kco > 0) with
   | true =>
    rw [hNone (hbd.2 (.inr (.inr (.inl (of_decide_eq_true hd3)))))]
    ((conv=>whnf);repeat(refine Xg ?_;conv=>whnf))
    repeat ((first | refine setK_iff.2 ?_ | refine ⟨rfl, ?_⟩); ((conv=>whnf);repeat(refine Xg ?_;conv=>whnf)))
    exact fin_pure (.tup' (.cons .nptr (.cons nn .nil))) ⟨rfl, rfl, rfl⟩
   | false =>
    ((conv=>whnf);repeat(refine Xg ?_;conv=>whnf))
    repeat ((first | refine setK_iff.2 ?_ | refine ⟨rfl, ?_⟩); ((conv=>whnf);repeat(refine Xg ?_;conv=>whnf)))
    refine sA.go ?_ (.cons (agP _ _ _ _) .nil) nn
    ((conv=>whnf);repeat(refine Xg ?_;conv=>whnf))
    repeat ((first | refine setK_iff.2 ?_ | refine ⟨rfl, ?_⟩); ((conv=>whnf);repeat(refine Xg ?_;conv=>whnf)))
    cases hd4 : decide (sa ≤ 0) with
    | true =>
     rw [hNone (hbd.2 (.inr (.inr (.inr (.inl (of_decide_eq_true hd4))))))]
     ((conv=>whnf);repeat(refine Xg ?_;conv=>whnf))
     repeat ((first | refine setK_iff.2 ?_ | refine ⟨rfl, ?_⟩); ((conv=>whnf);repeat(refine Xg ?_;conv=>whnf)))
     exact fin_pure (.tup' (.cons .nptr (.cons nn .nil))) ⟨rfl, rfl, rfl⟩
    | false =>
     ((conv=>whnf);repeat(refine Xg ?_;conv=>whnf))
     repeat ((first | refine setK_iff.2 ?_ | refine ⟨rfl, ?_⟩); ((conv=>whnf);repeat(refine Xg ?_;conv=>whnf)))
     refine sB.go ?_ (.cons (agP _ _ _ _) .nil) nn
     ((conv=>whnf);repeat(refine Xg ?_;conv=>whnf))
     repeat ((first | refine setK_iff.2 ?_ | refine ⟨rfl, ?_⟩); ((conv=>whnf);repeat(refine Xg ?_;conv=>whnf)))
     cases hd5 : decide (sb ≤ 0) with
     | true =>
      rw [hNone (hbd.2 (.inr (.inr (.inr (.inr (of_decide_eq_true hd5))))))]
      ((conv=>whnf);repeat(refine Xg ?_;conv=>whnf))
      repeat ((first | refine setK_iff.2 ?_ | refine ⟨rfl, ?_⟩); ((conv=>whnf);repeat(refine Xg ?_;conv=>whnf)))
      exact fin_pure (.tup' (.cons .nptr (.cons nn .nil))) ⟨rfl, rfl, rfl⟩
     | false =>
      ((conv=>whnf);repeat(refine Xg ?_;conv=>whnf))
      repeat ((first | refine setK_iff.2 ?_ | refine ⟨rfl, ?_⟩); ((conv=>whnf);repeat(refine Xg ?_;conv=>whnf)))
      have hbad : ¬ badN claim low alpha beta := fun h => by
       have g1 := of_decide_eq_false hd1
       have g2 := of_decide_eq_false hd2
       have g3 := of_decide_eq_false hd3
       have g4 := of_decide_eq_false hd4
       have g5 := of_decide_eq_false hd5
       rcases hbd.1 h with h | h | h | h | h <;> omega
      obtain ⟨S, s1, s2, s3, s4, s5⟩ := hGood hbad
      have kS := sz_fc s3 (by omega) s2
      have aS := pAddC alpha beta S k3 k4 s1
      have cS := pCmpC S oneF kS oneF_fc
      obtain ⟨Sb, Sl, Sc, Sm, -, -, qS⟩ := encP_ex S
      rw [qa, qb, qS] at aS
      rw [qS, qo] at cS
      generalize cmpF S oneF = kso at *
      refine aS.go ?_ (.cons (agP _ _ _ _) (.cons (agP _ _ _ _) .nil)) (.tup' (.cons (agP _ _ _ _) (.cons nn .nil)))
      ((conv=>whnf);repeat(refine Xg ?_;conv=>whnf))
      repeat ((first | refine setK_iff.2 ?_ | refine ⟨rfl, ?_⟩); ((conv=>whnf);repeat(refine Xg ?_;conv=>whnf)))
      refine o1.go ?_ .nil (agP _ _ _ _)
      ((conv=>whnf);repeat(refine Xg ?_;conv=>whnf))
      repeat ((first | refine setK_iff.2 ?_ | refine ⟨rfl, ?_⟩); ((conv=>whnf);repeat(refine Xg ?_;conv=>whnf)))
      refine cS.go ?_ (.cons (agP _ _ _ _) (.cons (agP _ _ _ _) .nil)) nn
      ((conv=>whnf);repeat(refine Xg ?_;conv=>whnf))
      repeat ((first | refine setK_iff.2 ?_ | refine ⟨rfl, ?_⟩); ((conv=>whnf);repeat(refine Xg ?_;conv=>whnf)))
      cases hd6 : decide (kso ≥ 0) with
      | true =>
       rw [s4 (of_decide_eq_true hd6)]
       ((conv=>whnf);repeat(refine Xg ?_;conv=>whnf))
       repeat ((first | refine setK_iff.2 ?_ | refine ⟨rfl, ?_⟩); ((conv=>whnf);repeat(refine Xg ?_;conv=>whnf)))
       exact fin_pure (.tup' (.cons .nptr (.cons nn .nil))) ⟨rfl, rfl, rfl⟩
      | false =>
       obtain ⟨A, B, C, D, U, V, H, M, ⟨eA, eB, eC, eD, eU, eV, eH, eM, ⟨cA, cB, cC, cD, cU, cV, cH, cM⟩, ⟨zA, zB, zC, zD, zU, zV, zH, zM⟩, his⟩⟩ := s5 (of_decide_eq_false hd6)
       rw [his]
       have fA := sz_fc zA (by omega) cA
       have fB := sz_fc zB (by omega) cB
       have fC := sz_fc zC (by omega) cC
       have fD := sz_fc zD (by omega) cD
       have fU := sz_fc zU (by omega) cU
       have fV := sz_fc zV (by omega) cV
       have fH := sz_fc zH (by omega) cH
       have fM := sz_fc zM (by omega) cM
       have rA := pRest beta A k4 eA
       have rB := pRest alpha B k3 eB
       have rC := pRest claim C k1 eC
       have rD := pRest low D k2 eD
       have dU := pDivC A alpha U fA k3 eU
       have dV := pDivC beta B V k4 fB eV
       have dH := pDivC claim low H k1 k2 eH
       have dM := pDivC C D M fC fD eM
       obtain ⟨bA, lA, cA', mA, -, -, qA⟩ := encP_ex A
       obtain ⟨bB, lB, cB', mB, -, -, qB⟩ := encP_ex B
       obtain ⟨bC, lC, cC', mC, -, -, qC⟩ := encP_ex C
       obtain ⟨bD, lD, cD', mD, -, -, qD⟩ := encP_ex D
       obtain ⟨bU, lU, cU', mU, -, -, qU⟩ := encP_ex U
       obtain ⟨bV, lV, cV', mV, -, -, qV⟩ := encP_ex V
       obtain ⟨bH, lH, cH', mH, -, -, qH⟩ := encP_ex H
       obtain ⟨bM, lM, cM', mM, -, -, qM⟩ := encP_ex M
       have qT := encTP_mk (t := ⟨H, M, U, V, oneF, 0, 0, 0⟩) qH qM qU qV qo
       rw [qb, qA] at rA
       rw [qa, qB] at rB
       rw [qc, qC] at rC
       rw [ql, qD] at rD
       rw [qA, qa, qU] at dU
       rw [qb, qB, qV] at dV
       rw [qc, ql, qH] at dH
       rw [qC, qD, qM] at dM
       have hQ : ∀ r m n, (r = AV.tup [.ptr 0 0 0, .int .i64 0] ∧ m = [(0, AB.row 75 23 [encTP ⟨H, M, U, V, oneF, 0, 0, 0⟩])] ∧ n = 1) → newQ 75 encTP (some ⟨H, M, U, V, oneF, 0, 0, 0⟩, 0) r m n := fun _ _ _ h => h
       rw [qT] at hQ
       clear his
       ((conv=>whnf);repeat(refine Xg ?_;conv=>whnf))
       repeat ((first | refine setK_iff.2 ?_ | refine ⟨rfl, ?_⟩); ((conv=>whnf);repeat(refine Xg ?_;conv=>whnf)))
       refine o1.go ?_ .nil (agP _ _ _ _)
       ((conv=>whnf);repeat(refine Xg ?_;conv=>whnf))
       repeat ((first | refine setK_iff.2 ?_ | refine ⟨rfl, ?_⟩); ((conv=>whnf);repeat(refine Xg ?_;conv=>whnf)))
       refine rA.go ?_ (.cons (agP _ _ _ _) .nil) (.tup' (.cons (agP _ _ _ _) (.cons nn .nil)))
       ((conv=>whnf);repeat(refine Xg ?_;conv=>whnf))
       repeat ((first | refine setK_iff.2 ?_ | refine ⟨rfl, ?_⟩); ((conv=>whnf);repeat(refine Xg ?_;conv=>whnf)))
       refine rB.go ?_ (.cons (agP _ _ _ _) .nil) (.tup' (.cons (agP _ _ _ _) (.cons nn .nil)))
       ((conv=>whnf);repeat(refine Xg ?_;conv=>whnf))
       repeat ((first | refine setK_iff.2 ?_ | refine ⟨rfl, ?_⟩); ((conv=>whnf);repeat(refine Xg ?_;conv=>whnf)))
       refine rC.go ?_ (.cons (agP _ _ _ _) .nil) (.tup' (.cons (agP _ _ _ _) (.cons nn .nil)))
       ((conv=>whnf);repeat(refine Xg ?_;conv=>whnf))
       repeat ((first | refine setK_iff.2 ?_ | refine ⟨rfl, ?_⟩); ((conv=>whnf);repeat(refine Xg ?_;conv=>whnf)))
       refine rD.go ?_ (.cons (agP _ _ _ _) .nil) (.tup' (.cons (agP _ _ _ _) (.cons nn .nil)))
       ((conv=>whnf);repeat(refine Xg ?_;conv=>whnf))
       repeat ((first | refine setK_iff.2 ?_ | refine ⟨rfl, ?_⟩); ((conv=>whnf);repeat(refine Xg ?_;conv=>whnf)))
       refine dU.go ?_ (.cons (agP _ _ _ _) (.cons (agP _ _ _ _) .nil)) (.tup' (.cons (agP _ _ _ _) (.cons nn .nil)))
       ((conv=>whnf);repeat(refine Xg ?_;conv=>whnf))
       repeat ((first | refine setK_iff.2 ?_ | refine ⟨rfl, ?_⟩); ((conv=>whnf);repeat(refine Xg ?_;conv=>whnf)))
       refine dV.go ?_ (.cons (agP _ _ _ _) (.cons (agP _ _ _ _) .nil)) (.tup' (.cons (agP _ _ _ _) (.cons nn .nil)))
       ((conv=>whnf);repeat(refine Xg ?_;conv=>whnf))
       repeat ((first | refine setK_iff.2 ?_ | refine ⟨rfl, ?_⟩); ((conv=>whnf);repeat(refine Xg ?_;conv=>whnf)))
       refine dH.go ?_ (.cons (agP _ _ _ _) (.cons (agP _ _ _ _) .nil)) (.tup' (.cons (agP _ _ _ _) (.cons nn .nil)))
       ((conv=>whnf);repeat(refine Xg ?_;conv=>whnf))
       repeat ((first | refine setK_iff.2 ?_ | refine ⟨rfl, ?_⟩); ((conv=>whnf);repeat(refine Xg ?_;conv=>whnf)))
       refine dM.go ?_ (.cons (agP _ _ _ _) (.cons (agP _ _ _ _) .nil)) (.tup' (.cons (agP _ _ _ _) (.cons nn .nil)))
       ((conv=>whnf);repeat(refine Xg ?_;conv=>whnf))
       repeat ((first | refine setK_iff.2 ?_ | refine ⟨rfl, ?_⟩); ((conv=>whnf);repeat(refine Xg ?_;conv=>whnf)))
       refine ALoop.at nnΓ (fun i : Nat => i ≤ 8)
        (fun i => ⟨[(12, .ptr 0 0 0), (13, .ptr 1 0 0), (124, .int .i64 i)], [(0, .row 75 23 [.agg [.bool bH, .il 1 (encU lH), .bool cH', .il 1 (encU mH), .bool bM, .il 1 (encU lM), .bool cM', .il 1 (encU mM), .bool bU, .il 1 (encU lU), .bool cU', .il 1 (encU mU), .bool bV, .il 1 (encU lV), .bool cV', .il 1 (encU mV), .bool ob, .il 1 (encU ol), .bool oc, .il 1 (encU om), .int .i64 0, .int .i64 0, .int .i64 0]]), (1, .row 89 1 [.int .i64 0, .int .i64 0, .int .i64 0, .int .i64 0, .int .i64 0, .int .i64 0, .int .i64 0, .int .i64 0])], 2, 133⟩)
        (fun i => 8 - i) 0 [(34, 0), (35, 1)] (by omega)
        (conv_mk _ rfl ⟨⟨34, _, rfl, rfl, .same (agPT _ _ _ _ _ _ _ _ _ _ _ _ _ _ _ _ _ _ _ _ _ _ _)⟩, ⟨35, _, rfl, rfl, .same (.cons nn (.cons nn (.cons nn (.cons nn (.cons nn (.cons nn (.cons nn (.cons nn (.nil)))))))))⟩, trivial⟩ ⟨⟨_, rfl, .ptr 34 0 0 0 rfl⟩, ⟨_, rfl, .ptr 35 1 0 0 rfl⟩, ⟨_, rfl, .same _ nn⟩, trivial⟩) ?_
       intro i hi
       rcases (show i = 0 ∨ i = 1 ∨ i = 2 ∨ i = 3 ∨ i = 4 ∨ i = 5 ∨ i = 6 ∨ i = 7 ∨ i = 8 by omega) with rfl | rfl | rfl | rfl | rfl | rfl | rfl | rfl | rfl
       rotate_right
       ·((conv=>whnf);repeat(refine Xg ?_;conv=>whnf))
        repeat ((first | refine setK_iff.2 ?_ | refine ⟨rfl, ?_⟩); ((conv=>whnf);repeat(refine Xg ?_;conv=>whnf)))
        exact fin_mk (r' := .tup [.ptr 0 0 0, .int .i64 0]) (m' := [(0, .row 75 23 [.agg [.bool bH, .il 1 (encU lH), .bool cH', .il 1 (encU mH), .bool bM, .il 1 (encU lM), .bool cM', .il 1 (encU mM), .bool bU, .il 1 (encU lU), .bool cU', .il 1 (encU mU), .bool bV, .il 1 (encU lV), .bool cV', .il 1 (encU mV), .bool ob, .il 1 (encU ol), .bool oc, .il 1 (encU om), .int .i64 0, .int .i64 0, .int .i64 0]])]) (n' := 1) [(0, 0)] rfl ⟨⟨0, _, rfl, rfl, .same (agPT _ _ _ _ _ _ _ _ _ _ _ _ _ _ _ _ _ _ _ _ _ _ _)⟩, trivial⟩ (.tup' (.cons (.ptr 0 0 0 0 rfl) (.cons (.same _ nn) .nil))) (hQ _ _ _ ⟨rfl, rfl, rfl⟩)
       all_goals ((conv=>whnf);repeat(refine Xg ?_;conv=>whnf))
       all_goals repeat ((first | refine setK_iff.2 ?_ | refine ⟨rfl, ?_⟩); ((conv=>whnf);repeat(refine Xg ?_;conv=>whnf)))
       ·exact .mk 1 [(0, 0), (1, 1)] (by omega) (conv_mk _ rfl ⟨⟨0, _, rfl, rfl, .same (agPT _ _ _ _ _ _ _ _ _ _ _ _ _ _ _ _ _ _ _ _ _ _ _)⟩, ⟨1, _, rfl, rfl, .same (.cons nn (.cons nn (.cons nn (.cons nn (.cons nn (.cons nn (.cons nn (.cons nn (.nil)))))))))⟩, trivial⟩ ⟨⟨_, rfl, .ptr 0 0 0 0 rfl⟩, ⟨_, rfl, .ptr 1 1 0 0 rfl⟩, ⟨_, rfl, .int (by decide)⟩, trivial⟩) (by omega)
       ·exact .mk 2 [(0, 0), (1, 1)] (by omega) (conv_mk _ rfl ⟨⟨0, _, rfl, rfl, .same (agPT _ _ _ _ _ _ _ _ _ _ _ _ _ _ _ _ _ _ _ _ _ _ _)⟩, ⟨1, _, rfl, rfl, .same (.cons nn (.cons nn (.cons nn (.cons nn (.cons nn (.cons nn (.cons nn (.cons nn (.nil)))))))))⟩, trivial⟩ ⟨⟨_, rfl, .ptr 0 0 0 0 rfl⟩, ⟨_, rfl, .ptr 1 1 0 0 rfl⟩, ⟨_, rfl, .int (by decide)⟩, trivial⟩) (by omega)
       ·exact .mk 3 [(0, 0), (1, 1)] (by omega) (conv_mk _ rfl ⟨⟨0, _, rfl, rfl, .same (agPT _ _ _ _ _ _ _ _ _ _ _ _ _ _ _ _ _ _ _ _ _ _ _)⟩, ⟨1, _, rfl, rfl, .same (.cons nn (.cons nn (.cons nn (.cons nn (.cons nn (.cons nn (.cons nn (.cons nn (.nil)))))))))⟩, trivial⟩ ⟨⟨_, rfl, .ptr 0 0 0 0 rfl⟩, ⟨_, rfl, .ptr 1 1 0 0 rfl⟩, ⟨_, rfl, .int (by decide)⟩, trivial⟩) (by omega)
       ·exact .mk 4 [(0, 0), (1, 1)] (by omega) (conv_mk _ rfl ⟨⟨0, _, rfl, rfl, .same (agPT _ _ _ _ _ _ _ _ _ _ _ _ _ _ _ _ _ _ _ _ _ _ _)⟩, ⟨1, _, rfl, rfl, .same (.cons nn (.cons nn (.cons nn (.cons nn (.cons nn (.cons nn (.cons nn (.cons nn (.nil)))))))))⟩, trivial⟩ ⟨⟨_, rfl, .ptr 0 0 0 0 rfl⟩, ⟨_, rfl, .ptr 1 1 0 0 rfl⟩, ⟨_, rfl, .int (by decide)⟩, trivial⟩) (by omega)
       ·exact .mk 5 [(0, 0), (1, 1)] (by omega) (conv_mk _ rfl ⟨⟨0, _, rfl, rfl, .same (agPT _ _ _ _ _ _ _ _ _ _ _ _ _ _ _ _ _ _ _ _ _ _ _)⟩, ⟨1, _, rfl, rfl, .same (.cons nn (.cons nn (.cons nn (.cons nn (.cons nn (.cons nn (.cons nn (.cons nn (.nil)))))))))⟩, trivial⟩ ⟨⟨_, rfl, .ptr 0 0 0 0 rfl⟩, ⟨_, rfl, .ptr 1 1 0 0 rfl⟩, ⟨_, rfl, .int (by decide)⟩, trivial⟩) (by omega)
       ·exact .mk 6 [(0, 0), (1, 1)] (by omega) (conv_mk _ rfl ⟨⟨0, _, rfl, rfl, .same (agPT _ _ _ _ _ _ _ _ _ _ _ _ _ _ _ _ _ _ _ _ _ _ _)⟩, ⟨1, _, rfl, rfl, .same (.cons nn (.cons nn (.cons nn (.cons nn (.cons nn (.cons nn (.cons nn (.cons nn (.nil)))))))))⟩, trivial⟩ ⟨⟨_, rfl, .ptr 0 0 0 0 rfl⟩, ⟨_, rfl, .ptr 1 1 0 0 rfl⟩, ⟨_, rfl, .int (by decide)⟩, trivial⟩) (by omega)
       ·exact .mk 7 [(0, 0), (1, 1)] (by omega) (conv_mk _ rfl ⟨⟨0, _, rfl, rfl, .same (agPT _ _ _ _ _ _ _ _ _ _ _ _ _ _ _ _ _ _ _ _ _ _ _)⟩, ⟨1, _, rfl, rfl, .same (.cons nn (.cons nn (.cons nn (.cons nn (.cons nn (.cons nn (.cons nn (.cons nn (.nil)))))))))⟩, trivial⟩ ⟨⟨_, rfl, .ptr 0 0 0 0 rfl⟩, ⟨_, rfl, .ptr 1 1 0 0 rfl⟩, ⟨_, rfl, .int (by decide)⟩, trivial⟩) (by omega)
       ·exact .mk 8 [(0, 0), (1, 1)] (by omega) (conv_mk _ rfl ⟨⟨0, _, rfl, rfl, .same (agPT _ _ _ _ _ _ _ _ _ _ _ _ _ _ _ _ _ _ _ _ _ _ _)⟩, ⟨1, _, rfl, rfl, .same (.cons nn (.cons nn (.cons nn (.cons nn (.cons nn (.cons nn (.cons nn (.cons nn (.nil)))))))))⟩, trivial⟩ ⟨⟨_, rfl, .ptr 0 0 0 0 rfl⟩, ⟨_, rfl, .ptr 1 1 0 0 rfl⟩, ⟨_, rfl, .int (by decide)⟩, trivial⟩) (by omega)
set_option maxHeartbeats 16000000
set_option linter.unusedSimpArgs false
abbrev tB0 (t : Tst) : AB := .row 75 23 [encTP t]
theorem encTP_ex (t : Tst) : ∃ (hb hc mb mc ub uc lb lc rb rc : Bool) (hl hm ml mm ul um ll lm rl rm : List Nat), encP t.ratio = .agg [.bool rb, .il 1 (encU rl), .bool rc, .il 1 (encU rm)] ∧ encTP t = .agg [.bool hb, .il 1 (encU hl), .bool hc, .il 1 (encU hm), .bool mb, .il 1 (encU ml), .bool mc, .il 1 (encU mm), .bool ub, .il 1 (encU ul), .bool uc, .il 1 (encU um), .bool lb, .il 1 (encU ll), .bool lc, .il 1 (encU lm), .bool rb, .il 1 (encU rl), .bool rc, .il 1 (encU rm), .int .i64 t.verdict, .int .i64 t.runs, .int .i64 t.hits] := by
 obtain ⟨hb, hl, hc, hm, -, -, q1⟩ := encP_ex t.hit
 obtain ⟨mb, ml, mc, mm, -, -, q2⟩ := encP_ex t.miss
 obtain ⟨ub, ul, uc, um, -, -, q3⟩ := encP_ex t.upper
 obtain ⟨lb, ll, lc, lm, -, -, q4⟩ := encP_ex t.lower
 obtain ⟨rb, rl, rc, rm, -, -, q5⟩ := encP_ex t.ratio
 exact ⟨hb, hc, mb, mc, ub, uc, lb, lc, rb, rc, hl, hm, ml, mm, ul, um, ll, lm, rl, rm, q5, encTP_mk q1 q2 q3 q4 q5⟩
theorem encTP_nn (t : Tst) : NNs [encTP t] := by
 obtain ⟨hb, hc, mb, mc, ub, uc, lb, lc, rb, rc, hl, hm, ml, mm, ul, um, ll, lm, rl, rm, -, q⟩ := encTP_ex t
 rw [q]
 exact agPT _ _ _ _ _ _ _ _ _ _ _ _ _ _ _ _ _ _ _ _ _ _ _
theorem pRatio (t : Tst) : ACalls Tryz.prog [] 14 [.ptr 0 0 0] [(0, tB0 t)] 1 fun r m n => r = encP t.ratio ∧ m = [(0, tB0 t)] ∧ n = 1 := by
 obtain ⟨hb, hc, mb, mc, ub, uc, lb, lc, rb, rc, hl, hm, ml, mm, ul, um, ll, lm, rl, rm, q5, q⟩ := encTP_ex t
 unfold tB0
 rw [q5, q]
 refine acalls_go nnΓ Tryz.func14 rfl ?_
 ((conv=>whnf);repeat(refine Xg ?_;conv=>whnf))
 repeat ((first | refine setK_iff.2 ?_ | refine ⟨rfl, ?_⟩); ((conv=>whnf);repeat(refine Xg ?_;conv=>whnf)))
 exact fin_mk (r' := .agg [.bool rb, .il 1 (encU rl), .bool rc, .il 1 (encU rm)]) (m' := [(0, .row 75 23 [.agg [.bool hb, .il 1 (encU hl), .bool hc, .il 1 (encU hm), .bool mb, .il 1 (encU ml), .bool mc, .il 1 (encU mm), .bool ub, .il 1 (encU ul), .bool uc, .il 1 (encU um), .bool lb, .il 1 (encU ll), .bool lc, .il 1 (encU lm), .bool rb, .il 1 (encU rl), .bool rc, .il 1 (encU rm), .int .i64 t.verdict, .int .i64 t.runs, .int .i64 t.hits]])]) (n' := 1) [(0, 0)] rfl ⟨⟨0, _, rfl, rfl, .same (agPT _ _ _ _ _ _ _ _ _ _ _ _ _ _ _ _ _ _ _ _ _ _ _)⟩, trivial⟩ (.same _ (agP _ _ _ _)) ⟨rfl, rfl, rfl⟩
theorem pVerdict (t : Tst) : ACalls Tryz.prog [] 15 [.ptr 0 0 0] [(0, tB0 t)] 1 fun r m n => r = .int .i64 t.verdict ∧ m = [(0, tB0 t)] ∧ n = 1 := by
 obtain ⟨hb, hc, mb, mc, ub, uc, lb, lc, rb, rc, hl, hm, ml, mm, ul, um, ll, lm, rl, rm, q5, q⟩ := encTP_ex t
 unfold tB0
 rw [q]
 refine acalls_go nnΓ Tryz.func15 rfl ?_
 ((conv=>whnf);repeat(refine Xg ?_;conv=>whnf))
 repeat ((first | refine setK_iff.2 ?_ | refine ⟨rfl, ?_⟩); ((conv=>whnf);repeat(refine Xg ?_;conv=>whnf)))
 exact fin_mk (r' := .int .i64 t.verdict) (m' := [(0, .row 75 23 [.agg [.bool hb, .il 1 (encU hl), .bool hc, .il 1 (encU hm), .bool mb, .il 1 (encU ml), .bool mc, .il 1 (encU mm), .bool ub, .il 1 (encU ul), .bool uc, .il 1 (encU um), .bool lb, .il 1 (encU ll), .bool lc, .il 1 (encU lm), .bool rb, .il 1 (encU rl), .bool rc, .il 1 (encU rm), .int .i64 t.verdict, .int .i64 t.runs, .int .i64 t.hits]])]) (n' := 1) [(0, 0)] rfl ⟨⟨0, _, rfl, rfl, .same (agPT _ _ _ _ _ _ _ _ _ _ _ _ _ _ _ _ _ _ _ _ _ _ _)⟩, trivial⟩ (.same _ nn) ⟨rfl, rfl, rfl⟩
theorem pRuns (t : Tst) : ACalls Tryz.prog [] 13 [.ptr 0 0 0] [(0, tB0 t)] 1 fun r m n => r = .tup [.int .i64 t.runs, .int .i64 t.hits] ∧ m = [(0, tB0 t)] ∧ n = 1 := by
 obtain ⟨hb, hc, mb, mc, ub, uc, lb, lc, rb, rc, hl, hm, ml, mm, ul, um, ll, lm, rl, rm, q5, q⟩ := encTP_ex t
 unfold tB0
 rw [q]
 refine acalls_go nnΓ Tryz.func13 rfl ?_
 ((conv=>whnf);repeat(refine Xg ?_;conv=>whnf))
 repeat ((first | refine setK_iff.2 ?_ | refine ⟨rfl, ?_⟩); ((conv=>whnf);repeat(refine Xg ?_;conv=>whnf)))
 exact fin_mk (r' := .tup [.int .i64 t.runs, .int .i64 t.hits]) (m' := [(0, .row 75 23 [.agg [.bool hb, .il 1 (encU hl), .bool hc, .il 1 (encU hm), .bool mb, .il 1 (encU ml), .bool mc, .il 1 (encU mm), .bool ub, .il 1 (encU ul), .bool uc, .il 1 (encU um), .bool lb, .il 1 (encU ll), .bool lc, .il 1 (encU lm), .bool rb, .il 1 (encU rl), .bool rc, .il 1 (encU rm), .int .i64 t.verdict, .int .i64 t.runs, .int .i64 t.hits]])]) (n' := 1) [(0, 0)] rfl ⟨⟨0, _, rfl, rfl, .same (agPT _ _ _ _ _ _ _ _ _ _ _ _ _ _ _ _ _ _ _ _ _ _ _)⟩, trivial⟩ (.same _ (.tup' (.cons nn (.cons nn .nil)))) ⟨rfl, rfl, rfl⟩
theorem pCopy (t : Tst) : ACalls Tryz.prog [] 28 [.ptr 0 0 0] [(0, tB0 t)] 1 fun r m n => r = .ptr 1 0 0 ∧ m = [(0, tB0 t), (1, tB0 t)] ∧ n = 2 := by
 obtain ⟨hb, hc, mb, mc, ub, uc, lb, lc, rb, rc, hl, hm, ml, mm, ul, um, ll, lm, rl, rm, q5, q⟩ := encTP_ex t
 unfold tB0
 rw [q]
 refine acalls_go nnΓ Tryz.func28 rfl ?_
 ((conv=>whnf);repeat(refine Xg ?_;conv=>whnf))
 repeat ((first | refine setK_iff.2 ?_ | refine ⟨rfl, ?_⟩); ((conv=>whnf);repeat(refine Xg ?_;conv=>whnf)))
 exact fin_mk (r' := .ptr 1 0 0) (m' := [(0, .row 75 23 [.agg [.bool hb, .il 1 (encU hl), .bool hc, .il 1 (encU hm), .bool mb, .il 1 (encU ml), .bool mc, .il 1 (encU mm), .bool ub, .il 1 (encU ul), .bool uc, .il 1 (encU um), .bool lb, .il 1 (encU ll), .bool lc, .il 1 (encU lm), .bool rb, .il 1 (encU rl), .bool rc, .il 1 (encU rm), .int .i64 t.verdict, .int .i64 t.runs, .int .i64 t.hits]]), (1, .row 75 23 [.agg [.bool hb, .il 1 (encU hl), .bool hc, .il 1 (encU hm), .bool mb, .il 1 (encU ml), .bool mc, .il 1 (encU mm), .bool ub, .il 1 (encU ul), .bool uc, .il 1 (encU um), .bool lb, .il 1 (encU ll), .bool lc, .il 1 (encU lm), .bool rb, .il 1 (encU rl), .bool rc, .il 1 (encU rm), .int .i64 t.verdict, .int .i64 t.runs, .int .i64 t.hits]])]) (n' := 2) [(0, 0), (1, 1)] rfl ⟨⟨0, _, rfl, rfl, .same (agPT _ _ _ _ _ _ _ _ _ _ _ _ _ _ _ _ _ _ _ _ _ _ _)⟩, ⟨1, _, rfl, rfl, .same (agPT _ _ _ _ _ _ _ _ _ _ _ _ _ _ _ _ _ _ _ _ _ _ _)⟩, trivial⟩ (.ptr 1 1 0 0 rfl) ⟨rfl, rfl, rfl⟩
theorem ACalls.useP {P : Program} {Γ : List (Nat × AV)} {F : FuncId} {args : List AV} {mem : Mem} {nx : Nat} {t : TypeId} {sz : Nat} {ys : List AV} {r0 r1 : AV} {K : AV → Mem → Nat → Prop} (hΓ : ∀ p ∈ Γ, NN p.2)
  (h : ACalls P Γ F args [] 0 fun r m n => r = r0 ∧ m = [(0, .row t sz ys)] ∧ n = 1) (ha : NNs args) (hn : NNs ys) (hr : Cv [(0, .row t sz ys)] [(0, nx)] r0 r1) (hk : K r1 ((nx, .row t sz ys) :: mem) (nx + 1)) : ACalls P Γ F args mem nx K := by
 refine ⟨fun X D ρ w vs hD hm hv => ?_⟩
 refine (ACalls.use (K := K) (nx := nx) hΓ h [] (m1 := []) (rest := mem) ⟨(fun p hp => by cases hp), fun p hp => hp, fun p hp => .inr hp, (fun p hp => by cases hp), by simp⟩ hm.nod (cvl_same ha) (fun p hp => by cases hp) (by simp) (fun i j k h => by simp [lk] at h) (fun id i h => by simp [lk] at h) ?_).run X D ρ w vs hD hm hv
 rintro r m n ⟨rfl, rfl, rfl⟩ _
 refine ⟨[(0, nx)], r1, [(nx, .row t sz ys)], nx + 1, Nat.le_succ _, hr, fun p hp => ?_, by simp, inj_of (by rfl), fun i id hl => ?_, fun p hp q hq => ?_, hk⟩
 ·simp at hp
  subst hp
  exact .inl ⟨0, t, sz, ys, ys, rfl, by simp [lk], by simp [lk], .same hn⟩
 ·have := lk_mem hl
  simp at this
  obtain ⟨rfl, rfl⟩ := this
  exact .inr ⟨Nat.zero_le _, Nat.le_refl _, Nat.lt_succ_self _⟩
 ·simp at hp
  subst hp
  have := hD _ (hm.low q hq)
  simp only
  omega
set_option maxHeartbeats 16000000
set_option linter.unusedSimpArgs false
def encTF (t : Tst) : AV := .agg ([.bool (decide (t.hit.p < 0)), .il 1 (encD (dg 10000 t.hit.p.natAbs)), .bool (decide ((t.hit.q : Int) < 0)), .il 1 (encD (dg 10000 (t.hit.q : Int).natAbs))] ++ (encF t.miss).cells ++ (encF t.upper).cells ++ (encF t.lower).cells ++ (encF t.ratio).cells ++ [.int .i64 t.verdict, .int .i64 t.runs, .int .i64 t.hits])
theorem encTF_mk {t : Tst} {hb hc mb mc ub uc lb lc rb rc : Bool} {hl hm ml mm ul um ll lm rl rm : List Nat} (h1 : encF t.hit = .agg [.bool hb, .il 1 (encD hl), .bool hc, .il 1 (encD hm)]) (h2 : encF t.miss = .agg [.bool mb, .il 1 (encD ml), .bool mc, .il 1 (encD mm)]) (h3 : encF t.upper = .agg [.bool ub, .il 1 (encD ul), .bool uc, .il 1 (encD um)]) (h4 : encF t.lower = .agg [.bool lb, .il 1 (encD ll), .bool lc, .il 1 (encD lm)]) (h5 : encF t.ratio = .agg [.bool rb, .il 1 (encD rl), .bool rc, .il 1 (encD rm)]) :
  encTF t = .agg [.bool hb, .il 1 (encD hl), .bool hc, .il 1 (encD hm), .bool mb, .il 1 (encD ml), .bool mc, .il 1 (encD mm), .bool ub, .il 1 (encD ul), .bool uc, .il 1 (encD um), .bool lb, .il 1 (encD ll), .bool lc, .il 1 (encD lm), .bool rb, .il 1 (encD rl), .bool rc, .il 1 (encD rm), .int .i64 t.verdict, .int .i64 t.runs, .int .i64 t.hits] := by
 have e : encTF t = .agg ((encF t.hit).cells ++ (encF t.miss).cells ++ (encF t.upper).cells ++ (encF t.lower).cells ++ (encF t.ratio).cells ++ [.int .i64 t.verdict, .int .i64 t.runs, .int .i64 t.hits]) := rfl
 rw [e, h1, h2, h3, h4, h5]
 rfl
theorem agFT (hb hc mb mc ub uc lb lc rb rc : Bool) (hl hm ml mm ul um ll lm rl rm : List Nat) (v n k : Int) : NNs [.agg [.bool hb, .il 1 (encD hl), .bool hc, .il 1 (encD hm), .bool mb, .il 1 (encD ml), .bool mc, .il 1 (encD mm), .bool ub, .il 1 (encD ul), .bool uc, .il 1 (encD um), .bool lb, .il 1 (encD ll), .bool lc, .il 1 (encD lm), .bool rb, .il 1 (encD rl), .bool rc, .il 1 (encD rm), .int .i64 v, .int .i64 n, .int .i64 k]] :=
 .cons (.agg' (.cons (tBo _) (.cons (tD _) (.cons (tBo _) (.cons (tD _) (.cons (tBo _) (.cons (tD _) (.cons (tBo _) (.cons (tD _) (.cons (tBo _) (.cons (tD _) (.cons (tBo _) (.cons (tD _) (.cons (tBo _) (.cons (tD _) (.cons (tBo _) (.cons (tD _) (.cons (tBo _) (.cons (tD _) (.cons (tBo _) (.cons (tD _) (.cons nn (.cons nn (.cons nn .nil)))))))))))))))))))))))) .nil
theorem fFeed (t : Tst) (hit : Bool) (ht : TF t) : ACalls Tryz.prog [] 12 [.ptr 0 0 0, .bool hit] [(0, .row 47 23 [encTF t])] 1 fun r m n =>
  r = .tup [.int .i64 (feedT t hit).2.1, .int .i64 (feedT t hit).2.2] ∧ m = [(0, .row 47 23 [encTF (feedT t hit).1])] ∧ n = 1 := by
 have w1 : IntKind.i64.wrap ((t.runs : Int) + 1) = ((t.runs + 1 : Nat) : Int) := by have := ht.runs; rw [wrap64 ⟨by omega, by omega⟩]; omega
 have w2 : IntKind.i64.wrap ((t.hits : Int) + 1) = ((t.hits + 1 : Nat) : Int) := by have := ht.hits; rw [wrap64 ⟨by omega, by omega⟩]; omega
 obtain ⟨hb, hl, hc, hm, -, -, q1⟩ := encF_ex t.hit
 obtain ⟨mb, ml, mc, mm, -, -, q2⟩ := encF_ex t.miss
 obtain ⟨ub, ul, uc, um, -, -, q3⟩ := encF_ex t.upper
 obtain ⟨lb, ll, lc, lm, -, -, q4⟩ := encF_ex t.lower
 obtain ⟨rb, rl, rc, rm, -, -, q5⟩ := encF_ex t.ratio
 have qT := encTF_mk q1 q2 q3 q4 q5
 by_cases hv : t.verdict = 0
 rotate_left
 ·rw [feed_done hv]
  simp only
  rw [qT]
  have hz : ((t.verdict : Int) != 0) = true := by rw [bne_iff_ne]; omega
  refine acalls_go nnΓ Tryz.func12 rfl ?_
  ((conv=>whnf);repeat(refine Xg ?_;conv=>whnf))
  repeat ((first | refine setK_iff.2 ?_ | refine ⟨rfl, ?_⟩); ((conv=>whnf);repeat(refine Xg ?_;conv=>whnf)))
  rw [hz]
  ((conv=>whnf);repeat(refine Xg ?_;conv=>whnf))
  repeat ((first | refine setK_iff.2 ?_ | refine ⟨rfl, ?_⟩); ((conv=>whnf);repeat(refine Xg ?_;conv=>whnf)))
  exact fin_mk (r' := .tup [.int .i64 t.verdict, .int .i64 25]) (m' := [(0, .row 47 23 [.agg [.bool hb, .il 1 (encD hl), .bool hc, .il 1 (encD hm), .bool mb, .il 1 (encD ml), .bool mc, .il 1 (encD mm), .bool ub, .il 1 (encD ul), .bool uc, .il 1 (encD um), .bool lb, .il 1 (encD ll), .bool lc, .il 1 (encD lm), .bool rb, .il 1 (encD rl), .bool rc, .il 1 (encD rm), .int .i64 t.verdict, .int .i64 t.runs, .int .i64 t.hits]])]) (n' := 1) [(0, 0)] rfl ⟨⟨0, _, rfl, rfl, .same (agFT _ _ _ _ _ _ _ _ _ _ _ _ _ _ _ _ _ _ _ _ _ _ _)⟩, trivial⟩ (.same _ (.tup' (.cons nn (.cons nn .nil)))) ⟨rfl, rfl, rfl⟩
 ·rw [qT, hv]
  cases hit with
  | true =>
   have hM := fMulC t.ratio t.hit ht.ratio ht.hit
   have hF0 : feedT t true = if (mulF t.ratio t.hit).2 ≠ 0 then (t, (0 : Int), (mulF t.ratio t.hit).2) else ((⟨t.hit, t.miss, t.upper, t.lower, (mulF t.ratio t.hit).1, verF t.upper t.lower (mulF t.ratio t.hit).1, t.runs + 1, t.hits + 1⟩ : Tst), ((verF t.upper t.lower (mulF t.ratio t.hit).1 : Nat) : Int), 0) := by
    unfold feedT; rw [if_neg (by rw [hv]; simp)]; rfl
   have hRF : (mulF t.ratio t.hit).2 = 0 → FC (mulF t.ratio t.hit).1 := mul_fc ht.ratio ht.hit
   generalize mulF t.ratio t.hit = mv at *
   obtain ⟨R, e⟩ := mv
   simp only at hM hF0 hRF
   by_cases he : e = 0
   ·have hF : feedT t true = (⟨t.hit, t.miss, t.upper, t.lower, R, verF t.upper t.lower R, t.runs + 1, t.hits + 1⟩, ((verF t.upper t.lower R : Nat) : Int), 0) := by rw [hF0, if_neg (by rw [he]; simp)]
    have hRF := hRF he
    have c1 := fCmpC R t.upper hRF ht.upper
    have c2 := fCmpC R t.lower hRF ht.lower
    have hver : verF t.upper t.lower R = if 0 ≤ cmpF R t.upper then 1 else if cmpF R t.lower ≤ 0 then 2 else 0 := rfl
    skip
    obtain ⟨wb, wl, wc, wm, -, -, qR⟩ := encF_ex R
    rw [q5, q1, qR, he] at hM
    rw [qR, q3] at c1
    rw [qR, q4] at c2
    clear hF0 ht
    generalize cmpF R t.upper = k1 at *
    generalize cmpF R t.lower = k2 at *
    refine acalls_go nnΓ Tryz.func12 rfl ?_
    ((conv=>whnf);repeat(refine Xg ?_;conv=>whnf))
    repeat ((first | refine setK_iff.2 ?_ | refine ⟨rfl, ?_⟩); ((conv=>whnf);repeat(refine Xg ?_;conv=>whnf)))
    refine hM.go ?_ (.cons (agF _ _ _ _) (.cons (agF _ _ _ _) .nil)) (.tup' (.cons (agF _ _ _ _) (.cons nn .nil)))
    ((conv=>whnf);repeat(refine Xg ?_;conv=>whnf))
    repeat ((first | refine setK_iff.2 ?_ | refine ⟨rfl, ?_⟩); ((conv=>whnf);repeat(refine Xg ?_;conv=>whnf)))
    refine c1.go ?_ (.cons (agF _ _ _ _) (.cons (agF _ _ _ _) .nil)) nn
    ((conv=>whnf);repeat(refine Xg ?_;conv=>whnf))
    repeat ((first | refine setK_iff.2 ?_ | refine ⟨rfl, ?_⟩); ((conv=>whnf);repeat(refine Xg ?_;conv=>whnf)))
    refine bcs_mk (fun h => ?_) (fun h => ?_)
    ·have h := of_decide_eq_true h
     have hV : verF t.upper t.lower R = 1 := by rw [hver, if_pos (by omega)]
     ((conv=>whnf);repeat(refine Xg ?_;conv=>whnf))
     repeat ((first | refine setK_iff.2 ?_ | refine ⟨rfl, ?_⟩); ((conv=>whnf);repeat(refine Xg ?_;conv=>whnf)))
     exact fin_mk (r' := .tup [.int .i64 1, .int .i64 0]) (m' := [(0, .row 47 23 [.agg [.bool hb, .il 1 (encD hl), .bool hc, .il 1 (encD hm), .bool mb, .il 1 (encD ml), .bool mc, .il 1 (encD mm), .bool ub, .il 1 (encD ul), .bool uc, .il 1 (encD um), .bool lb, .il 1 (encD ll), .bool lc, .il 1 (encD lm), .bool wb, .il 1 (encD wl), .bool wc, .il 1 (encD wm), .int .i64 1, .int .i64 ((t.runs + 1 : Nat) : Int), .int .i64 ((t.hits + 1 : Nat) : Int)]])]) (n' := 1) [(0, 0)] rfl ⟨⟨0, _, rfl, rfl, .cons (.agg (.cons (.same _ (tBo _)) (.cons (.same _ (tD _)) (.cons (.same _ (tBo _)) (.cons (.same _ (tD _)) (.cons (.same _ (tBo _)) (.cons (.same _ (tD _)) (.cons (.same _ (tBo _)) (.cons (.same _ (tD _)) (.cons (.same _ (tBo _)) (.cons (.same _ (tD _)) (.cons (.same _ (tBo _)) (.cons (.same _ (tD _)) (.cons (.same _ (tBo _)) (.cons (.same _ (tD _)) (.cons (.same _ (tBo _)) (.cons (.same _ (tD _)) (.cons (.same _ (tBo _)) (.cons (.same _ (tD _)) (.cons (.same _ (tBo _)) (.cons (.same _ (tD _)) (.cons (.same _ nn) (.cons (.int w1) (.cons (.int w2) (.nil))))))))))))))))))))))))) .nil⟩, trivial⟩ (.same _ (.tup' (.cons nn (.cons nn .nil)))) ⟨by rw [hF, hV]; rfl, by rw [hF, hV]; simp only; rw [encTF_mk (t := ⟨t.hit, t.miss, t.upper, t.lower, R, _, t.runs + 1, t.hits + 1⟩) q1 q2 q3 q4 qR]; rfl, rfl⟩
    ·have h := of_decide_eq_false h
     ((conv=>whnf);repeat(refine Xg ?_;conv=>whnf))
     repeat ((first | refine setK_iff.2 ?_ | refine ⟨rfl, ?_⟩); ((conv=>whnf);repeat(refine Xg ?_;conv=>whnf)))
     refine c2.go ?_ (.cons (agF _ _ _ _) (.cons (agF _ _ _ _) .nil)) nn
     ((conv=>whnf);repeat(refine Xg ?_;conv=>whnf))
     repeat ((first | refine setK_iff.2 ?_ | refine ⟨rfl, ?_⟩); ((conv=>whnf);repeat(refine Xg ?_;conv=>whnf)))
     refine bcs_mk (fun h2 => ?_) (fun h2 => ?_)
     ·have h2 := of_decide_eq_true h2
      have hV : verF t.upper t.lower R = 2 := by rw [hver, if_neg (by omega), if_pos (by omega)]
      ((conv=>whnf);repeat(refine Xg ?_;conv=>whnf))
      repeat ((first | refine setK_iff.2 ?_ | refine ⟨rfl, ?_⟩); ((conv=>whnf);repeat(refine Xg ?_;conv=>whnf)))
      exact fin_mk (r' := .tup [.int .i64 2, .int .i64 0]) (m' := [(0, .row 47 23 [.agg [.bool hb, .il 1 (encD hl), .bool hc, .il 1 (encD hm), .bool mb, .il 1 (encD ml), .bool mc, .il 1 (encD mm), .bool ub, .il 1 (encD ul), .bool uc, .il 1 (encD um), .bool lb, .il 1 (encD ll), .bool lc, .il 1 (encD lm), .bool wb, .il 1 (encD wl), .bool wc, .il 1 (encD wm), .int .i64 2, .int .i64 ((t.runs + 1 : Nat) : Int), .int .i64 ((t.hits + 1 : Nat) : Int)]])]) (n' := 1) [(0, 0)] rfl ⟨⟨0, _, rfl, rfl, .cons (.agg (.cons (.same _ (tBo _)) (.cons (.same _ (tD _)) (.cons (.same _ (tBo _)) (.cons (.same _ (tD _)) (.cons (.same _ (tBo _)) (.cons (.same _ (tD _)) (.cons (.same _ (tBo _)) (.cons (.same _ (tD _)) (.cons (.same _ (tBo _)) (.cons (.same _ (tD _)) (.cons (.same _ (tBo _)) (.cons (.same _ (tD _)) (.cons (.same _ (tBo _)) (.cons (.same _ (tD _)) (.cons (.same _ (tBo _)) (.cons (.same _ (tD _)) (.cons (.same _ (tBo _)) (.cons (.same _ (tD _)) (.cons (.same _ (tBo _)) (.cons (.same _ (tD _)) (.cons (.same _ nn) (.cons (.int w1) (.cons (.int w2) (.nil))))))))))))))))))))))))) .nil⟩, trivial⟩ (.same _ (.tup' (.cons nn (.cons nn .nil)))) ⟨by rw [hF, hV]; rfl, by rw [hF, hV]; simp only; rw [encTF_mk (t := ⟨t.hit, t.miss, t.upper, t.lower, R, _, t.runs + 1, t.hits + 1⟩) q1 q2 q3 q4 qR]; rfl, rfl⟩
     ·have h2 := of_decide_eq_false h2
      have hV : verF t.upper t.lower R = 0 := by rw [hver, if_neg (by omega), if_neg (by omega)]
      ((conv=>whnf);repeat(refine Xg ?_;conv=>whnf))
      repeat ((first | refine setK_iff.2 ?_ | refine ⟨rfl, ?_⟩); ((conv=>whnf);repeat(refine Xg ?_;conv=>whnf)))
      exact fin_mk (r' := .tup [.int .i64 0, .int .i64 0]) (m' := [(0, .row 47 23 [.agg [.bool hb, .il 1 (encD hl), .bool hc, .il 1 (encD hm), .bool mb, .il 1 (encD ml), .bool mc, .il 1 (encD mm), .bool ub, .il 1 (encD ul), .bool uc, .il 1 (encD um), .bool lb, .il 1 (encD ll), .bool lc, .il 1 (encD lm), .bool wb, .il 1 (encD wl), .bool wc, .il 1 (encD wm), .int .i64 0, .int .i64 ((t.runs + 1 : Nat) : Int), .int .i64 ((t.hits + 1 : Nat) : Int)]])]) (n' := 1) [(0, 0)] rfl ⟨⟨0, _, rfl, rfl, .cons (.agg (.cons (.same _ (tBo _)) (.cons (.same _ (tD _)) (.cons (.same _ (tBo _)) (.cons (.same _ (tD _)) (.cons (.same _ (tBo _)) (.cons (.same _ (tD _)) (.cons (.same _ (tBo _)) (.cons (.same _ (tD _)) (.cons (.same _ (tBo _)) (.cons (.same _ (tD _)) (.cons (.same _ (tBo _)) (.cons (.same _ (tD _)) (.cons (.same _ (tBo _)) (.cons (.same _ (tD _)) (.cons (.same _ (tBo _)) (.cons (.same _ (tD _)) (.cons (.same _ (tBo _)) (.cons (.same _ (tD _)) (.cons (.same _ (tBo _)) (.cons (.same _ (tD _)) (.cons (.same _ nn) (.cons (.int w1) (.cons (.int w2) (.nil))))))))))))))))))))))))) .nil⟩, trivial⟩ (.same _ (.tup' (.cons nn (.cons nn .nil)))) ⟨by rw [hF, hV]; rfl, by rw [hF, hV]; simp only; rw [encTF_mk (t := ⟨t.hit, t.miss, t.upper, t.lower, R, _, t.runs + 1, t.hits + 1⟩) q1 q2 q3 q4 qR]; rfl, rfl⟩
   ·have hF : feedT t true = (t, 0, e) := by rw [hF0, if_pos he]
    have hne : (e != 0) = true := bne_iff_ne.2 he
    obtain ⟨wb, wl, wc, wm, -, -, qR⟩ := encF_ex R
    rw [q5, q1, qR] at hM
    rw [hF]
    simp only
    rw [qT, hv]
    refine acalls_go nnΓ Tryz.func12 rfl ?_
    ((conv=>whnf);repeat(refine Xg ?_;conv=>whnf))
    repeat ((first | refine setK_iff.2 ?_ | refine ⟨rfl, ?_⟩); ((conv=>whnf);repeat(refine Xg ?_;conv=>whnf)))
    refine hM.go ?_ (.cons (agF _ _ _ _) (.cons (agF _ _ _ _) .nil)) (.tup' (.cons (agF _ _ _ _) (.cons nn .nil)))
    ((conv=>whnf);repeat(refine Xg ?_;conv=>whnf))
    repeat ((first | refine setK_iff.2 ?_ | refine ⟨rfl, ?_⟩); ((conv=>whnf);repeat(refine Xg ?_;conv=>whnf)))
    rw [hne]
    ((conv=>whnf);repeat(refine Xg ?_;conv=>whnf))
    repeat ((first | refine setK_iff.2 ?_ | refine ⟨rfl, ?_⟩); ((conv=>whnf);repeat(refine Xg ?_;conv=>whnf)))
    exact fin_mk (r' := .tup [.int .i64 0, .int .i64 e]) (m' := [(0, .row 47 23 [.agg [.bool hb, .il 1 (encD hl), .bool hc, .il 1 (encD hm), .bool mb, .il 1 (encD ml), .bool mc, .il 1 (encD mm), .bool ub, .il 1 (encD ul), .bool uc, .il 1 (encD um), .bool lb, .il 1 (encD ll), .bool lc, .il 1 (encD lm), .bool rb, .il 1 (encD rl), .bool rc, .il 1 (encD rm), .int .i64 ((0 : Nat) : Int), .int .i64 t.runs, .int .i64 t.hits]])]) (n' := 1) [(0, 0)] rfl ⟨⟨0, _, rfl, rfl, .same (agFT _ _ _ _ _ _ _ _ _ _ _ _ _ _ _ _ _ _ _ _ _ _ _)⟩, trivial⟩ (.same _ (.tup' (.cons nn (.cons nn .nil)))) ⟨rfl, rfl, rfl⟩
  | false =>
   have hM := fMulC t.ratio t.miss ht.ratio ht.miss
   have hF0 : feedT t false = if (mulF t.ratio t.miss).2 ≠ 0 then (t, (0 : Int), (mulF t.ratio t.miss).2) else ((⟨t.hit, t.miss, t.upper, t.lower, (mulF t.ratio t.miss).1, verF t.upper t.lower (mulF t.ratio t.miss).1, t.runs + 1, t.hits⟩ : Tst), ((verF t.upper t.lower (mulF t.ratio t.miss).1 : Nat) : Int), 0) := by
    unfold feedT; rw [if_neg (by rw [hv]; simp)]; rfl
   have hRF : (mulF t.ratio t.miss).2 = 0 → FC (mulF t.ratio t.miss).1 := mul_fc ht.ratio ht.miss
   generalize mulF t.ratio t.miss = mv at *
   obtain ⟨R, e⟩ := mv
   simp only at hM hF0 hRF
   by_cases he : e = 0
   ·have hF : feedT t false = (⟨t.hit, t.miss, t.upper, t.lower, R, verF t.upper t.lower R, t.runs + 1, t.hits⟩, ((verF t.upper t.lower R : Nat) : Int), 0) := by rw [hF0, if_neg (by rw [he]; simp)]
    have hRF := hRF he
    have c1 := fCmpC R t.upper hRF ht.upper
    have c2 := fCmpC R t.lower hRF ht.lower
    have hver : verF t.upper t.lower R = if 0 ≤ cmpF R t.upper then 1 else if cmpF R t.lower ≤ 0 then 2 else 0 := rfl
    skip
    obtain ⟨wb, wl, wc, wm, -, -, qR⟩ := encF_ex R
    rw [q5, q2, qR, he] at hM
    rw [qR, q3] at c1
    rw [qR, q4] at c2
    clear hF0 ht
    generalize cmpF R t.upper = k1 at *
    generalize cmpF R t.lower = k2 at *
    refine acalls_go nnΓ Tryz.func12 rfl ?_
    ((conv=>whnf);repeat(refine Xg ?_;conv=>whnf))
    repeat ((first | refine setK_iff.2 ?_ | refine ⟨rfl, ?_⟩); ((conv=>whnf);repeat(refine Xg ?_;conv=>whnf)))
    refine hM.go ?_ (.cons (agF _ _ _ _) (.cons (agF _ _ _ _) .nil)) (.tup' (.cons (agF _ _ _ _) (.cons nn .nil)))
    ((conv=>whnf);repeat(refine Xg ?_;conv=>whnf))
    repeat ((first | refine setK_iff.2 ?_ | refine ⟨rfl, ?_⟩); ((conv=>whnf);repeat(refine Xg ?_;conv=>whnf)))
    refine c1.go ?_ (.cons (agF _ _ _ _) (.cons (agF _ _ _ _) .nil)) nn
    ((conv=>whnf);repeat(refine Xg ?_;conv=>whnf))
    repeat ((first | refine setK_iff.2 ?_ | refine ⟨rfl, ?_⟩); ((conv=>whnf);repeat(refine Xg ?_;conv=>whnf)))
    refine bcs_mk (fun h => ?_) (fun h => ?_)
    ·have h := of_decide_eq_true h
     have hV : verF t.upper t.lower R = 1 := by rw [hver, if_pos (by omega)]
     ((conv=>whnf);repeat(refine Xg ?_;conv=>whnf))
     repeat ((first | refine setK_iff.2 ?_ | refine ⟨rfl, ?_⟩); ((conv=>whnf);repeat(refine Xg ?_;conv=>whnf)))
     exact fin_mk (r' := .tup [.int .i64 1, .int .i64 0]) (m' := [(0, .row 47 23 [.agg [.bool hb, .il 1 (encD hl), .bool hc, .il 1 (encD hm), .bool mb, .il 1 (encD ml), .bool mc, .il 1 (encD mm), .bool ub, .il 1 (encD ul), .bool uc, .il 1 (encD um), .bool lb, .il 1 (encD ll), .bool lc, .il 1 (encD lm), .bool wb, .il 1 (encD wl), .bool wc, .il 1 (encD wm), .int .i64 1, .int .i64 ((t.runs + 1 : Nat) : Int), .int .i64 t.hits]])]) (n' := 1) [(0, 0)] rfl ⟨⟨0, _, rfl, rfl, .cons (.agg (.cons (.same _ (tBo _)) (.cons (.same _ (tD _)) (.cons (.same _ (tBo _)) (.cons (.same _ (tD _)) (.cons (.same _ (tBo _)) (.cons (.same _ (tD _)) (.cons (.same _ (tBo _)) (.cons (.same _ (tD _)) (.cons (.same _ (tBo _)) (.cons (.same _ (tD _)) (.cons (.same _ (tBo _)) (.cons (.same _ (tD _)) (.cons (.same _ (tBo _)) (.cons (.same _ (tD _)) (.cons (.same _ (tBo _)) (.cons (.same _ (tD _)) (.cons (.same _ (tBo _)) (.cons (.same _ (tD _)) (.cons (.same _ (tBo _)) (.cons (.same _ (tD _)) (.cons (.same _ nn) (.cons (.int w1) (.cons (.same _ nn) (.nil))))))))))))))))))))))))) .nil⟩, trivial⟩ (.same _ (.tup' (.cons nn (.cons nn .nil)))) ⟨by rw [hF, hV]; rfl, by rw [hF, hV]; simp only; rw [encTF_mk (t := ⟨t.hit, t.miss, t.upper, t.lower, R, _, t.runs + 1, t.hits⟩) q1 q2 q3 q4 qR]; rfl, rfl⟩
    ·have h := of_decide_eq_false h
     ((conv=>whnf);repeat(refine Xg ?_;conv=>whnf))
     repeat ((first | refine setK_iff.2 ?_ | refine ⟨rfl, ?_⟩); ((conv=>whnf);repeat(refine Xg ?_;conv=>whnf)))
     refine c2.go ?_ (.cons (agF _ _ _ _) (.cons (agF _ _ _ _) .nil)) nn
     ((conv=>whnf);repeat(refine Xg ?_;conv=>whnf))
     repeat ((first | refine setK_iff.2 ?_ | refine ⟨rfl, ?_⟩); ((conv=>whnf);repeat(refine Xg ?_;conv=>whnf)))
     refine bcs_mk (fun h2 => ?_) (fun h2 => ?_)
     ·have h2 := of_decide_eq_true h2
      have hV : verF t.upper t.lower R = 2 := by rw [hver, if_neg (by omega), if_pos (by omega)]
      ((conv=>whnf);repeat(refine Xg ?_;conv=>whnf))
      repeat ((first | refine setK_iff.2 ?_ | refine ⟨rfl, ?_⟩); ((conv=>whnf);repeat(refine Xg ?_;conv=>whnf)))
      exact fin_mk (r' := .tup [.int .i64 2, .int .i64 0]) (m' := [(0, .row 47 23 [.agg [.bool hb, .il 1 (encD hl), .bool hc, .il 1 (encD hm), .bool mb, .il 1 (encD ml), .bool mc, .il 1 (encD mm), .bool ub, .il 1 (encD ul), .bool uc, .il 1 (encD um), .bool lb, .il 1 (encD ll), .bool lc, .il 1 (encD lm), .bool wb, .il 1 (encD wl), .bool wc, .il 1 (encD wm), .int .i64 2, .int .i64 ((t.runs + 1 : Nat) : Int), .int .i64 t.hits]])]) (n' := 1) [(0, 0)] rfl ⟨⟨0, _, rfl, rfl, .cons (.agg (.cons (.same _ (tBo _)) (.cons (.same _ (tD _)) (.cons (.same _ (tBo _)) (.cons (.same _ (tD _)) (.cons (.same _ (tBo _)) (.cons (.same _ (tD _)) (.cons (.same _ (tBo _)) (.cons (.same _ (tD _)) (.cons (.same _ (tBo _)) (.cons (.same _ (tD _)) (.cons (.same _ (tBo _)) (.cons (.same _ (tD _)) (.cons (.same _ (tBo _)) (.cons (.same _ (tD _)) (.cons (.same _ (tBo _)) (.cons (.same _ (tD _)) (.cons (.same _ (tBo _)) (.cons (.same _ (tD _)) (.cons (.same _ (tBo _)) (.cons (.same _ (tD _)) (.cons (.same _ nn) (.cons (.int w1) (.cons (.same _ nn) (.nil))))))))))))))))))))))))) .nil⟩, trivial⟩ (.same _ (.tup' (.cons nn (.cons nn .nil)))) ⟨by rw [hF, hV]; rfl, by rw [hF, hV]; simp only; rw [encTF_mk (t := ⟨t.hit, t.miss, t.upper, t.lower, R, _, t.runs + 1, t.hits⟩) q1 q2 q3 q4 qR]; rfl, rfl⟩
     ·have h2 := of_decide_eq_false h2
      have hV : verF t.upper t.lower R = 0 := by rw [hver, if_neg (by omega), if_neg (by omega)]
      ((conv=>whnf);repeat(refine Xg ?_;conv=>whnf))
      repeat ((first | refine setK_iff.2 ?_ | refine ⟨rfl, ?_⟩); ((conv=>whnf);repeat(refine Xg ?_;conv=>whnf)))
      exact fin_mk (r' := .tup [.int .i64 0, .int .i64 0]) (m' := [(0, .row 47 23 [.agg [.bool hb, .il 1 (encD hl), .bool hc, .il 1 (encD hm), .bool mb, .il 1 (encD ml), .bool mc, .il 1 (encD mm), .bool ub, .il 1 (encD ul), .bool uc, .il 1 (encD um), .bool lb, .il 1 (encD ll), .bool lc, .il 1 (encD lm), .bool wb, .il 1 (encD wl), .bool wc, .il 1 (encD wm), .int .i64 0, .int .i64 ((t.runs + 1 : Nat) : Int), .int .i64 t.hits]])]) (n' := 1) [(0, 0)] rfl ⟨⟨0, _, rfl, rfl, .cons (.agg (.cons (.same _ (tBo _)) (.cons (.same _ (tD _)) (.cons (.same _ (tBo _)) (.cons (.same _ (tD _)) (.cons (.same _ (tBo _)) (.cons (.same _ (tD _)) (.cons (.same _ (tBo _)) (.cons (.same _ (tD _)) (.cons (.same _ (tBo _)) (.cons (.same _ (tD _)) (.cons (.same _ (tBo _)) (.cons (.same _ (tD _)) (.cons (.same _ (tBo _)) (.cons (.same _ (tD _)) (.cons (.same _ (tBo _)) (.cons (.same _ (tD _)) (.cons (.same _ (tBo _)) (.cons (.same _ (tD _)) (.cons (.same _ (tBo _)) (.cons (.same _ (tD _)) (.cons (.same _ nn) (.cons (.int w1) (.cons (.same _ nn) (.nil))))))))))))))))))))))))) .nil⟩, trivial⟩ (.same _ (.tup' (.cons nn (.cons nn .nil)))) ⟨by rw [hF, hV]; rfl, by rw [hF, hV]; simp only; rw [encTF_mk (t := ⟨t.hit, t.miss, t.upper, t.lower, R, _, t.runs + 1, t.hits⟩) q1 q2 q3 q4 qR]; rfl, rfl⟩
   ·have hF : feedT t false = (t, 0, e) := by rw [hF0, if_pos he]
    have hne : (e != 0) = true := bne_iff_ne.2 he
    obtain ⟨wb, wl, wc, wm, -, -, qR⟩ := encF_ex R
    rw [q5, q2, qR] at hM
    rw [hF]
    simp only
    rw [qT, hv]
    refine acalls_go nnΓ Tryz.func12 rfl ?_
    ((conv=>whnf);repeat(refine Xg ?_;conv=>whnf))
    repeat ((first | refine setK_iff.2 ?_ | refine ⟨rfl, ?_⟩); ((conv=>whnf);repeat(refine Xg ?_;conv=>whnf)))
    refine hM.go ?_ (.cons (agF _ _ _ _) (.cons (agF _ _ _ _) .nil)) (.tup' (.cons (agF _ _ _ _) (.cons nn .nil)))
    ((conv=>whnf);repeat(refine Xg ?_;conv=>whnf))
    repeat ((first | refine setK_iff.2 ?_ | refine ⟨rfl, ?_⟩); ((conv=>whnf);repeat(refine Xg ?_;conv=>whnf)))
    rw [hne]
    ((conv=>whnf);repeat(refine Xg ?_;conv=>whnf))
    repeat ((first | refine setK_iff.2 ?_ | refine ⟨rfl, ?_⟩); ((conv=>whnf);repeat(refine Xg ?_;conv=>whnf)))
    exact fin_mk (r' := .tup [.int .i64 0, .int .i64 e]) (m' := [(0, .row 47 23 [.agg [.bool hb, .il 1 (encD hl), .bool hc, .il 1 (encD hm), .bool mb, .il 1 (encD ml), .bool mc, .il 1 (encD mm), .bool ub, .il 1 (encD ul), .bool uc, .il 1 (encD um), .bool lb, .il 1 (encD ll), .bool lc, .il 1 (encD lm), .bool rb, .il 1 (encD rl), .bool rc, .il 1 (encD rm), .int .i64 ((0 : Nat) : Int), .int .i64 t.runs, .int .i64 t.hits]])]) (n' := 1) [(0, 0)] rfl ⟨⟨0, _, rfl, rfl, .same (agFT _ _ _ _ _ _ _ _ _ _ _ _ _ _ _ _ _ _ _ _ _ _ _)⟩, trivial⟩ (.same _ (.tup' (.cons nn (.cons nn .nil)))) ⟨rfl, rfl, rfl⟩
set_option maxHeartbeats 16000000
set_option linter.unusedSimpArgs false
theorem fNew {n : Nat} (hn : n ≤ 2000) (claim low alpha beta : Fr) (h1 : Sz n claim) (h2 : Sz n low) (h3 : Sz n alpha) (h4 : Sz n beta) (c1 : Go.Ax.Can claim) (c2 : Go.Ax.Can low) (c3 : Go.Ax.Can alpha) (c4 : Go.Ax.Can beta) :
  ACalls Tryz.prog [] 22 [encF claim, encF low, encF alpha, encF beta] [] 0 (newQ 47 encTF (newT claim low alpha beta)) := by
 have k1 := sz_fc h1 (by omega) c1
 have k2 := sz_fc h2 (by omega) c2
 have k3 := sz_fc h3 (by omega) c3
 have k4 := sz_fc h4 (by omega) c4
 have sL := fSign low
 have cLC := fCmpC low claim k2 k1
 have cCO := fCmpC claim oneF k1 oneF_fc
 have sA := fSign alpha
 have sB := fSign beta
 have o1 := fOne
 have hbd : badN claim low alpha beta ↔ (sgnF low ≤ 0 ∨ 0 ≤ cmpF low claim ∨ 0 < cmpF claim oneF ∨ sgnF alpha ≤ 0 ∨ sgnF beta ≤ 0) := Iff.rfl
 have hNone := fun h => new_bad (claim := claim) (low := low) (alpha := alpha) (beta := beta) h
 have hGood := fun h => new_good hn h1 h2 h3 h4 h
 obtain ⟨cb, cl, cc, cm, -, -, qc⟩ := encF_ex claim
 obtain ⟨lb, ll, lc, lm, -, -, ql⟩ := encF_ex low
 obtain ⟨ab, al, ac, am, -, -, qa⟩ := encF_ex alpha
 obtain ⟨bb, bl, bc, bm, -, -, qb⟩ := encF_ex beta
 obtain ⟨ob, ol, oc, om, -, -, qo⟩ := encF_ex oneF
 rw [ql] at sL
 rw [ql, qc] at cLC
 rw [qc, qo] at cCO
 rw [qa] at sA
 rw [qb] at sB
 rw [qo] at o1
 rw [qc, ql, qa, qb]
 generalize sgnF low = sl at *
 generalize cmpF low claim = klc at *
 generalize cmpF claim oneF = kco at *
 generalize sgnF alpha = sa at *
 generalize sgnF beta = sb at *
 refine acalls_go nnΓ Tryz.func22 rfl ?_
 ((conv=>whnf);repeat(refine Xg ?_;conv=>whnf))
 repeat ((first | refine setK_iff.2 ?_ | refine ⟨rfl, ?_⟩); ((conv=>whnf);repeat(refine Xg ?_;conv=>whnf)))
 refine o1.go ?_ (.cons nn .nil) (agF _ _ _ _)
 ((conv=>whnf);repeat(refine Xg ?_;conv=>whnf))
 repeat ((first | refine setK_iff.2 ?_ | refine ⟨rfl, ?_⟩); ((conv=>whnf);repeat(refine Xg ?_;conv=>whnf)))
 refine sL.go ?_ (.cons (agF _ _ _ _) .nil) nn
 ((conv=>whnf);repeat(refine Xg ?_;conv=>whnf))
 repeat ((first | refine setK_iff.2 ?_ | refine ⟨rfl, ?_⟩); ((conv=>whnf);repeat(refine Xg ?_;conv=>whnf)))
 cases hd1 : decide (sl ≤ 0) with
 | true =>
  rw [hNone (hbd.2 (.inl (of_decide_eq_true hd1)))]
  ((conv=>whnf);repeat(refine Xg ?_;conv=>whnf))
  repeat ((first | refine setK_iff.2 ?_ | refine ⟨rfl, ?_⟩); ((conv=>whnf);repeat(refine Xg ?_;conv=>whnf)))
  exact fin_pure (.tup' (.cons .nptr (.cons nn .nil))) ⟨rfl, rfl, rfl⟩
 | false =>
  ((conv=>whnf);repeat(refine Xg ?_;conv=>whnf))
  repeat ((first | refine setK_iff.2 ?_ | refine ⟨rfl, ?_⟩); ((conv=>whnf);repeat(refine Xg ?_;conv=>whnf)))
  refine cLC.go ?_ (.cons (agF _ _ _ _) (.cons (agF _ _ _ _) .nil)) nn
  ((conv=>whnf);repeat(refine Xg ?_;conv=>whnf))
  repeat ((first | refine setK_iff.2 ?_ | refine ⟨rfl, ?_⟩); ((conv=>whnf);repeat(refine Xg ?_;conv=>whnf)))
  cases hd2 : decide (klc ≥ 0) with
  | true =>
   rw [hNone (hbd.2 (.inr (.inl (of_decide_eq_true hd2))))]
   ((conv=>whnf);repeat(refine Xg ?_;conv=>whnf))
   repeat ((first | refine setK_iff.2 ?_ | refine ⟨rfl, ?_⟩); ((conv=>whnf);repeat(refine Xg ?_;conv=>whnf)))
   exact fin_pure (.tup' (.cons .nptr (.cons nn .nil))) ⟨rfl, rfl, rfl⟩
  | false =>
   ((conv=>whnf);repeat(refine Xg ?_;conv=>whnf))
   repeat ((first | refine setK_iff.2 ?_ | refine ⟨rfl, ?_⟩); ((conv=>whnf);repeat(refine Xg ?_;conv=>whnf)))
   refine cCO.go ?_ (.cons (agF _ _ _ _) (.cons (agF _ _ _ _) .nil)) nn
   ((conv=>whnf);repeat(refine Xg ?_;conv=>whnf))
   repeat ((first | refine setK_iff.2 ?_ | refine ⟨rfl, ?_⟩); ((conv=>whnf);repeat(refine Xg ?_;conv=>whnf)))
   cases hd3 : decide (kco > 0) with
   | true =>
    rw [hNone (hbd.2 (.inr (.inr (.inl (of_decide_eq_true hd3)))))]
    ((conv=>whnf);repeat(refine Xg ?_;conv=>whnf))
    repeat ((first | refine setK_iff.2 ?_ | refine ⟨rfl, ?_⟩); ((conv=>whnf);repeat(refine Xg ?_;conv=>whnf)))
    exact fin_pure (.tup' (.cons .nptr (.cons nn .nil))) ⟨rfl, rfl, rfl⟩
   | false =>
    ((conv=>whnf);repeat(refine Xg ?_;conv=>whnf))
    repeat ((first | refine setK_iff.2 ?_ | refine ⟨rfl, ?_⟩); ((conv=>whnf);repeat(refine Xg ?_;conv=>whnf)))
    refine sA.go ?_ (.cons (agF _ _ _ _) .nil) nn
    ((conv=>whnf);repeat(refine Xg ?_;conv=>whnf))
    repeat ((first | refine setK_iff.2 ?_ | refine ⟨rfl, ?_⟩); ((conv=>whnf);repeat(refine Xg ?_;conv=>whnf)))
    cases hd4 : decide (sa ≤ 0) with
    | true =>
     rw [hNone (hbd.2 (.inr (.inr (.inr (.inl (of_decide_eq_true hd4))))))]
     ((conv=>whnf);repeat(refine Xg ?_;conv=>whnf))
     repeat ((first | refine setK_iff.2 ?_ | refine ⟨rfl, ?_⟩); ((conv=>whnf);repeat(refine Xg ?_;conv=>whnf)))
     exact fin_pure (.tup' (.cons .nptr (.cons nn .nil))) ⟨rfl, rfl, rfl⟩
    | false =>
     ((conv=>whnf);repeat(refine Xg ?_;conv=>whnf))
     repeat ((first | refine setK_iff.2 ?_ | refine ⟨rfl, ?_⟩); ((conv=>whnf);repeat(refine Xg ?_;conv=>whnf)))
     refine sB.go ?_ (.cons (agF _ _ _ _) .nil) nn
     ((conv=>whnf);repeat(refine Xg ?_;conv=>whnf))
     repeat ((first | refine setK_iff.2 ?_ | refine ⟨rfl, ?_⟩); ((conv=>whnf);repeat(refine Xg ?_;conv=>whnf)))
     cases hd5 : decide (sb ≤ 0) with
     | true =>
      rw [hNone (hbd.2 (.inr (.inr (.inr (.inr (of_decide_eq_true hd5))))))]
      ((conv=>whnf);repeat(refine Xg ?_;conv=>whnf))
      repeat ((first | refine setK_iff.2 ?_ | refine ⟨rfl, ?_⟩); ((conv=>whnf);repeat(refine Xg ?_;conv=>whnf)))
      exact fin_pure (.tup' (.cons .nptr (.cons nn .nil))) ⟨rfl, rfl, rfl⟩
     | false =>
      ((conv=>whnf);repeat(refine Xg ?_;conv=>whnf))
      repeat ((first | refine setK_iff.2 ?_ | refine ⟨rfl, ?_⟩); ((conv=>whnf);repeat(refine Xg ?_;conv=>whnf)))
      have hbad : ¬ badN claim low alpha beta := fun h => by
       have g1 := of_decide_eq_false hd1
       have g2 := of_decide_eq_false hd2
       have g3 := of_decide_eq_false hd3
       have g4 := of_decide_eq_false hd4
       have g5 := of_decide_eq_false hd5
       rcases hbd.1 h with h | h | h | h | h <;> omega
      obtain ⟨S, s1, s2, s3, s4, s5⟩ := hGood hbad
      have kS := sz_fc s3 (by omega) s2
      have aS := fAddC alpha beta S k3 k4 s1
      have cS := fCmpC S oneF kS oneF_fc
      obtain ⟨Sb, Sl, Sc, Sm, -, -, qS⟩ := encF_ex S
      rw [qa, qb, qS] at aS
      rw [qS, qo] at cS
      generalize cmpF S oneF = kso at *
      refine aS.go ?_ (.cons (agF _ _ _ _) (.cons (agF _ _ _ _) .nil)) (.tup' (.cons (agF _ _ _ _) (.cons nn .nil)))
      ((conv=>whnf);repeat(refine Xg ?_;conv=>whnf))
      repeat ((first | refine setK_iff.2 ?_ | refine ⟨rfl, ?_⟩); ((conv=>whnf);repeat(refine Xg ?_;conv=>whnf)))
      refine cS.go ?_ (.cons (agF _ _ _ _) (.cons (agF _ _ _ _) .nil)) nn
      ((conv=>whnf);repeat(refine Xg ?_;conv=>whnf))
      repeat ((first | refine setK_iff.2 ?_ | refine ⟨rfl, ?_⟩); ((conv=>whnf);repeat(refine Xg ?_;conv=>whnf)))
      cases hd6 : decide (kso ≥ 0) with
      | true =>
       rw [s4 (of_decide_eq_true hd6)]
       ((conv=>whnf);repeat(refine Xg ?_;conv=>whnf))
       repeat ((first | refine setK_iff.2 ?_ | refine ⟨rfl, ?_⟩); ((conv=>whnf);repeat(refine Xg ?_;conv=>whnf)))
       exact fin_pure (.tup' (.cons .nptr (.cons nn .nil))) ⟨rfl, rfl, rfl⟩
      | false =>
       obtain ⟨A, B, C, D, U, V, H, M, ⟨eA, eB, eC, eD, eU, eV, eH, eM, ⟨cA, cB, cC, cD, cU, cV, cH, cM⟩, ⟨zA, zB, zC, zD, zU, zV, zH, zM⟩, his⟩⟩ := s5 (of_decide_eq_false hd6)
       rw [his]
       have fA := sz_fc zA (by omega) cA
       have fB := sz_fc zB (by omega) cB
       have fC := sz_fc zC (by omega) cC
       have fD := sz_fc zD (by omega) cD
       have fU := sz_fc zU (by omega) cU
       have fV := sz_fc zV (by omega) cV
       have fH := sz_fc zH (by omega) cH
       have fM := sz_fc zM (by omega) cM
       have rA := fSubC oneF beta A oneF_fc k4 eA
       have rB := fSubC oneF alpha B oneF_fc k3 eB
       have rC := fSubC oneF claim C oneF_fc k1 eC
       have rD := fSubC oneF low D oneF_fc k2 eD
       have dU := fDivC A alpha U fA k3 eU
       have dV := fDivC beta B V k4 fB eV
       have dH := fDivC claim low H k1 k2 eH
       have dM := fDivC C D M fC fD eM
       obtain ⟨bA, lA, cA', mA, -, -, qA⟩ := encF_ex A
       obtain ⟨bB, lB, cB', mB, -, -, qB⟩ := encF_ex B
       obtain ⟨bC, lC, cC', mC, -, -, qC⟩ := encF_ex C
       obtain ⟨bD, lD, cD', mD, -, -, qD⟩ := encF_ex D
       obtain ⟨bU, lU, cU', mU, -, -, qU⟩ := encF_ex U
       obtain ⟨bV, lV, cV', mV, -, -, qV⟩ := encF_ex V
       obtain ⟨bH, lH, cH', mH, -, -, qH⟩ := encF_ex H
       obtain ⟨bM, lM, cM', mM, -, -, qM⟩ := encF_ex M
       have qT := encTF_mk (t := ⟨H, M, U, V, oneF, 0, 0, 0⟩) qH qM qU qV qo
       rw [qo, qb, qA] at rA
       rw [qo, qa, qB] at rB
       rw [qo, qc, qC] at rC
       rw [qo, ql, qD] at rD
       rw [qA, qa, qU] at dU
       rw [qb, qB, qV] at dV
       rw [qc, ql, qH] at dH
       rw [qC, qD, qM] at dM
       have hQ : ∀ r m n, (r = AV.tup [.ptr 0 0 0, .int .i64 0] ∧ m = [(0, AB.row 47 23 [encTF ⟨H, M, U, V, oneF, 0, 0, 0⟩])] ∧ n = 1) → newQ 47 encTF (some ⟨H, M, U, V, oneF, 0, 0, 0⟩, 0) r m n := fun _ _ _ h => h
       rw [qT] at hQ
       clear his
       ((conv=>whnf);repeat(refine Xg ?_;conv=>whnf))
       repeat ((first | refine setK_iff.2 ?_ | refine ⟨rfl, ?_⟩); ((conv=>whnf);repeat(refine Xg ?_;conv=>whnf)))
       refine rA.go ?_ (.cons (agF _ _ _ _) (.cons (agF _ _ _ _) .nil)) (.tup' (.cons (agF _ _ _ _) (.cons nn .nil)))
       ((conv=>whnf);repeat(refine Xg ?_;conv=>whnf))
       repeat ((first | refine setK_iff.2 ?_ | refine ⟨rfl, ?_⟩); ((conv=>whnf);repeat(refine Xg ?_;conv=>whnf)))
       refine rB.go ?_ (.cons (agF _ _ _ _) (.cons (agF _ _ _ _) .nil)) (.tup' (.cons (agF _ _ _ _) (.cons nn .nil)))
       ((conv=>whnf);repeat(refine Xg ?_;conv=>whnf))
       repeat ((first | refine setK_iff.2 ?_ | refine ⟨rfl, ?_⟩); ((conv=>whnf);repeat(refine Xg ?_;conv=>whnf)))
       refine rC.go ?_ (.cons (agF _ _ _ _) (.cons (agF _ _ _ _) .nil)) (.tup' (.cons (agF _ _ _ _) (.cons nn .nil)))
       ((conv=>whnf);repeat(refine Xg ?_;conv=>whnf))
       repeat ((first | refine setK_iff.2 ?_ | refine ⟨rfl, ?_⟩); ((conv=>whnf);repeat(refine Xg ?_;conv=>whnf)))
       refine rD.go ?_ (.cons (agF _ _ _ _) (.cons (agF _ _ _ _) .nil)) (.tup' (.cons (agF _ _ _ _) (.cons nn .nil)))
       ((conv=>whnf);repeat(refine Xg ?_;conv=>whnf))
       repeat ((first | refine setK_iff.2 ?_ | refine ⟨rfl, ?_⟩); ((conv=>whnf);repeat(refine Xg ?_;conv=>whnf)))
       refine dU.go ?_ (.cons (agF _ _ _ _) (.cons (agF _ _ _ _) .nil)) (.tup' (.cons (agF _ _ _ _) (.cons nn .nil)))
       ((conv=>whnf);repeat(refine Xg ?_;conv=>whnf))
       repeat ((first | refine setK_iff.2 ?_ | refine ⟨rfl, ?_⟩); ((conv=>whnf);repeat(refine Xg ?_;conv=>whnf)))
       refine dV.go ?_ (.cons (agF _ _ _ _) (.cons (agF _ _ _ _) .nil)) (.tup' (.cons (agF _ _ _ _) (.cons nn .nil)))
       ((conv=>whnf);repeat(refine Xg ?_;conv=>whnf))
       repeat ((first | refine setK_iff.2 ?_ | refine ⟨rfl, ?_⟩); ((conv=>whnf);repeat(refine Xg ?_;conv=>whnf)))
       refine dH.go ?_ (.cons (agF _ _ _ _) (.cons (agF _ _ _ _) .nil)) (.tup' (.cons (agF _ _ _ _) (.cons nn .nil)))
       ((conv=>whnf);repeat(refine Xg ?_;conv=>whnf))
       repeat ((first | refine setK_iff.2 ?_ | refine ⟨rfl, ?_⟩); ((conv=>whnf);repeat(refine Xg ?_;conv=>whnf)))
       refine dM.go ?_ (.cons (agF _ _ _ _) (.cons (agF _ _ _ _) .nil)) (.tup' (.cons (agF _ _ _ _) (.cons nn .nil)))
       ((conv=>whnf);repeat(refine Xg ?_;conv=>whnf))
       repeat ((first | refine setK_iff.2 ?_ | refine ⟨rfl, ?_⟩); ((conv=>whnf);repeat(refine Xg ?_;conv=>whnf)))
       exact fin_mk (r' := .tup [.ptr 0 0 0, .int .i64 0]) (m' := [(0, .row 47 23 [.agg [.bool bH, .il 1 (encD lH), .bool cH', .il 1 (encD mH), .bool bM, .il 1 (encD lM), .bool cM', .il 1 (encD mM), .bool bU, .il 1 (encD lU), .bool cU', .il 1 (encD mU), .bool bV, .il 1 (encD lV), .bool cV', .il 1 (encD mV), .bool ob, .il 1 (encD ol), .bool oc, .il 1 (encD om), .int .i64 0, .int .i64 0, .int .i64 0]])]) (n' := 1) [(6, 0)] rfl ⟨⟨6, _, rfl, rfl, .same (agFT _ _ _ _ _ _ _ _ _ _ _ _ _ _ _ _ _ _ _ _ _ _ _)⟩, trivial⟩ (.tup' (.cons (.ptr 6 0 0 0 rfl) (.cons (.same _ nn) .nil))) (hQ _ _ _ ⟨rfl, rfl, rfl⟩)
def gB (l : List Int) (at_ : Nat) : AB := .row 69 2 [.agg [.il 1 (encI l), .int .i64 at_]]
theorem gNN (l : List Int) (i : Nat) : NNs [.agg [.il 1 (encI l), .int .i64 i]] := .cons (.agg' (.cons (.il' (encI_nn l)) (.cons (.int _ _) .nil))) .nil
set_option maxHeartbeats 16000000
set_option linter.unusedSimpArgs false
theorem fNum0 (b : Int) (hb : -60 < b ∧ b < 60) : PureC Tryz.prog [] 40 [.int .i64 0, .int .i64 b] (encR b) := by
 have h := rOf b ⟨by omega, by omega⟩
 have hm : b.tmod 60 = b := by
  rcases Int.lt_or_le b 0 with h | h
  ·obtain ⟨n, rfl⟩ : ∃ n : Nat, b = -(n : Int) := ⟨b.natAbs, by omega⟩
   rw [Int.neg_tmod, show ((n : Int)).tmod 60 = ((n % 60 : Nat) : Int) from tmod_nat n 60, Nat.mod_eq_of_lt (by omega)]
  ·obtain ⟨n, rfl⟩ : ∃ n : Nat, b = (n : Int) := ⟨b.natAbs, by omega⟩
   rw [show ((n : Int)).tmod 60 = ((n % 60 : Nat) : Int) from tmod_nat n 60, Nat.mod_eq_of_lt (by omega)]
 obtain ⟨bb, bl, qb⟩ := encR_ex b
 rw [qb] at h ⊢
 refine acalls_go nnΓ Tryz.func40 rfl ?_
 ((conv=>whnf);repeat(refine Xg ?_;conv=>whnf))
 rw [hm]
 repeat ((first | refine setK_iff.2 ?_ | refine ⟨rfl, ?_⟩); ((conv=>whnf);repeat(refine Xg ?_;conv=>whnf)))
 refine h.go ?_ (.cons nn .nil) (agR _ _)
 ((conv=>whnf);repeat(refine Xg ?_;conv=>whnf))
 repeat ((first | refine setK_iff.2 ?_ | refine ⟨rfl, ?_⟩); ((conv=>whnf);repeat(refine Xg ?_;conv=>whnf)))
 exact fin_pure (agR _ _) ⟨rfl, rfl, rfl⟩
theorem dg60 {b : Int} (hb : -60 < b ∧ b < 60) : (dg 10000 b.natAbs).length ≤ 1 := dgl_small hT (by omega)
theorem fSmall (p q : Int) (hp : -60 < p ∧ p < 60) (hq : 0 < q ∧ q < 60) : PureC Tryz.prog [] 44 [.int .i64 p, .int .i64 q] (encF (mkF p q)) := by
 have h1 := fNum0 p hp
 have h2 := fNum0 q ⟨by omega, hq.2⟩
 have h3 := fMake p q (by omega) (by have := dg60 hp; omega) (by have := dg60 (b := q) ⟨by omega, hq.2⟩; omega)
 obtain ⟨pb, pl, qp⟩ := encR_ex p
 obtain ⟨qb, ql, qq⟩ := encR_ex q
 obtain ⟨ab, al, ac, am, -, -, qa⟩ := encF_ex (mkF p q)
 rw [qp] at h1
 rw [qq] at h2
 rw [qp, qq, qa] at h3
 rw [qa]
 refine acalls_go nnΓ Tryz.func44 rfl ?_
 ((conv=>whnf);repeat(refine Xg ?_;conv=>whnf))
 repeat ((first | refine setK_iff.2 ?_ | refine ⟨rfl, ?_⟩); ((conv=>whnf);repeat(refine Xg ?_;conv=>whnf)))
 refine h1.go ?_ (.cons nn (.cons nn .nil)) (agR _ _)
 ((conv=>whnf);repeat(refine Xg ?_;conv=>whnf))
 repeat ((first | refine setK_iff.2 ?_ | refine ⟨rfl, ?_⟩); ((conv=>whnf);repeat(refine Xg ?_;conv=>whnf)))
 refine h2.go ?_ (.cons nn (.cons nn .nil)) (agR _ _)
 ((conv=>whnf);repeat(refine Xg ?_;conv=>whnf))
 repeat ((first | refine setK_iff.2 ?_ | refine ⟨rfl, ?_⟩); ((conv=>whnf);repeat(refine Xg ?_;conv=>whnf)))
 refine h3.go ?_ (.cons (agR _ _) (.cons (agR _ _) .nil)) (.tup' (.cons (agF _ _ _ _) (.cons nn .nil)))
 ((conv=>whnf);repeat(refine Xg ?_;conv=>whnf))
 repeat ((first | refine setK_iff.2 ?_ | refine ⟨rfl, ?_⟩); ((conv=>whnf);repeat(refine Xg ?_;conv=>whnf)))
 exact fin_pure (agF _ _ _ _) ⟨rfl, rfl, rfl⟩
structure Sm (a : Fr) : Prop where
 sz : Sz 5 a
 can : Go.Ax.Can a
theorem sm_mk {p q : Int} (hp : p.natAbs ≤ 32) (hq : 0 < q ∧ q ≤ 32) : Sm (mkF p q) := by
 have h : q.natAbs ≤ 32 := by omega
 exact ⟨mkF_sz (by omega) (by simpa using hp) (by simpa using h), mkF_can (by omega)⟩
theorem sm_of (n : Int) (hn : n.natAbs ≤ 32) : Sm ⟨n, 1⟩ := ⟨⟨by simpa using hn, by simp, by simp only; decide⟩, ⟨by simp, by simp [Nat.Coprime]⟩⟩
def nextI (l : List Int) (i : Nat) (most : Int) : Int := if l.length ≤ i ∨ most < 2 then 0 else if (l.getD i 0).tmod most < 0 then (l.getD i 0).tmod most + most else (l.getD i 0).tmod most
theorem nextI_bound (l : List Int) (i : Nat) {most : Int} (h : 1 ≤ most) : 0 ≤ nextI l i most ∧ nextI l i most < most := by
 unfold nextI
 split
 ·omega
 ·rename_i hn
  have h1 := Int.lt_tmod_of_pos (l.getD i 0) (show 0 < most by omega)
  have h2 := Int.tmod_lt_of_pos (l.getD i 0) (show 0 < most by omega)
  split <;> omega
theorem gNextV (l : List Int) (i : Nat) (most : Int) (hi : i ≤ 4611686018427387904) (hm : most ≤ 4611686018427387904) :
  ACalls Tryz.prog [] 29 [.ptr 0 0 0, .int .i64 most] [(0, gB l i)] 1 fun r m n => r = .int .i64 (nextI l i most) ∧ m = [(0, gB l (i + 1))] := by
 refine acalls_go nnΓ Tryz.func29 rfl ?_
 have hw : IntKind.i64.wrap ((i : Int) + 1) = ((i + 1 : Nat) : Int) := wrap64 ⟨by omega, by omega⟩
 have fin : ∀ (k : Int) (n : Nat), k = nextI l i most → Fini 1 (fun r m _ => r = .int .i64 (nextI l i most) ∧ m = [(0, gB l (i + 1))]) (.int .i64 k) [(0, .row 69 2 [.agg [.il 1 (encI l), .int .i64 (IntKind.i64.wrap ((i : Int) + 1))]])] n := by
  intro k n h1
  refine fin_mk (n' := 1) (m' := [(0, gB l (i + 1))]) [(0, 0)] rfl ⟨⟨0, _, rfl, rfl, .eq (gNN l (i + 1)) (by rw [hw])⟩, trivial⟩ (.same _ (.int _ _)) ⟨by rw [h1], rfl⟩
 by_cases hlt : l.length ≤ i
 ·have d1 : decide ((i : Int) ≥ ((encI l).length : Int)) = true := by rw [encI_length]; exact decide_eq_true (by omega)
  ((conv=>whnf);repeat(refine Xg ?_;conv=>whnf))
  rw [d1]
  ((conv=>whnf);repeat(refine Xg ?_;conv=>whnf))
  repeat ((first | refine setK_iff.2 ?_ | refine ⟨rfl, ?_⟩); ((conv=>whnf);repeat(refine Xg ?_;conv=>whnf)))
  exact fin 0 _ (by unfold nextI; rw [if_pos (.inl hlt)])
 ·have d1 : decide ((i : Int) ≥ ((encI l).length : Int)) = false := by rw [encI_length]; exact decide_eq_false (by omega)
  ((conv=>whnf);repeat(refine Xg ?_;conv=>whnf))
  rw [d1]
  ((conv=>whnf);repeat(refine Xg ?_;conv=>whnf))
  repeat ((first | refine setK_iff.2 ?_ | refine ⟨rfl, ?_⟩); ((conv=>whnf);repeat(refine Xg ?_;conv=>whnf)))
  by_cases h2 : most < 2
  ·rw [decide_eq_true h2]
   ((conv=>whnf);repeat(refine Xg ?_;conv=>whnf))
   repeat ((first | refine setK_iff.2 ?_ | refine ⟨rfl, ?_⟩); ((conv=>whnf);repeat(refine Xg ?_;conv=>whnf)))
   exact fin 0 _ (by unfold nextI; rw [if_pos (.inr h2)])
  ·rw [decide_eq_false h2]
   have hg : (encI l)[((i : Nat) : Int).toNat]? = some (.int .i64 (l.getD i 0)) := by rw [Int.toNat_natCast, encI_get, List.getD_eq_getElem?_getD, List.getElem?_eq_getElem (by omega)]; rfl
   have hN : nextI l i most = if (l.getD i 0).tmod most < 0 then (l.getD i 0).tmod most + most else (l.getD i 0).tmod most := by unfold nextI; rw [if_neg (by omega)]
   have hr1 := Int.lt_tmod_of_pos (l.getD i 0) (show 0 < most by omega)
   have hr2 := Int.tmod_lt_of_pos (l.getD i 0) (show 0 < most by omega)
   have z : (!decide (most = 0)) = true := by rw [decide_eq_false (by omega)]; rfl
   generalize l.getD i 0 = x at *
   ((conv=>whnf);repeat(refine Xg ?_;conv=>whnf))
   repeat ((first | refine opt_mk hg ?_ | rw [z] | refine setK_iff.2 ?_ | refine ⟨rfl, ?_⟩); ((conv=>whnf);repeat(refine Xg ?_;conv=>whnf)))
   refine bcs_mk (fun h3 => ?_) (fun h3 => ?_)
   ·have h3 : x.tmod most < 0 := by simpa using h3
    have hw2 : IntKind.i64.wrap (x.tmod most + most) = x.tmod most + most := wrap64 ⟨by omega, by omega⟩
    ((conv=>whnf);repeat(refine Xg ?_;conv=>whnf))
    rw [hw2]
    exact fin _ _ (by rw [hN, if_pos h3])
   ·have h3 : ¬ x.tmod most < 0 := by simpa using h3
    ((conv=>whnf);repeat(refine Xg ?_;conv=>whnf))
    exact fin _ _ (by rw [hN, if_neg h3])
theorem gNextAtV (g : Nat) {l : List Int} {i : Nat} (most : Int) (hi : i ≤ 4611686018427387904) (hm : most ≤ 4611686018427387904) (hp : 1 ≤ most) {mem : Mem} {nx : Nat} {K : AV → Mem → Nat → Prop} (hg : lk mem g = some (gB l i))
  (hk : ∀ k : Int, k = nextI l i most → 0 ≤ k → k < most → dropK g mem fun rest => K (.int .i64 k) ((g, gB l (i + 1)) :: rest) nx) : ACalls Tryz.prog [] 29 [.ptr g 0 0, .int .i64 most] mem nx K := by
 refine ACalls.use1 nnΓ (gNextV l i most hi hm) g hg (gNN l i) (.cons (.ptr g 0 0 0 (by simp [lk])) (.cons (.same _ (.int _ _)) .nil)) ?_
 rintro r m n ⟨rfl, rfl⟩
 have hb := nextI_bound l i hp
 exact ⟨_, rfl, .int _ _, gNN l (i + 1), hk _ rfl hb.1 hb.2⟩
def baseN (l : List Int) : Fr × Fr × Fr × Fr :=
 (mkF (1 + nextI l 1 (2 + nextI l 0 7)) (2 + nextI l 0 7), mkF (nextI l 2 ((1 + nextI l 1 (2 + nextI l 0 7)) * 3)) ((2 + nextI l 0 7) * 3), mkF (1 + nextI l 3 3) (4 + nextI l 4 12), mkF (1 + nextI l 5 3) (4 + nextI l 6 12))
def putF (x : Fr × Fr × Fr × Fr) (i : Int) (b : Fr) : Fr × Fr × Fr × Fr := if i = 0 then (b, x.2) else if i = 1 then (x.1, b, x.2.2) else if i = 2 then (x.1, x.2.1, b, x.2.2.2) else (x.1, x.2.1, x.2.2.1, b)
def pickB (i : Int) : Fr := if i = 0 then ⟨0, 1⟩ else if i = 1 then ⟨1, 1⟩ else if i = 2 then mkF (-1) 3 else mkF 3 2
def numsT (l : List Int) : Fr × Fr × Fr × Fr := if nextI l 7 9 = 5 then putF (baseN l) (nextI l 8 4) (pickB (nextI l 9 4)) else baseN l
structure SmN (x : Fr × Fr × Fr × Fr) : Prop where
 a : Sm x.1
 b : Sm x.2.1
 c : Sm x.2.2.1
 d : Sm x.2.2.2
def encNum (x : Fr × Fr × Fr × Fr) : AV := .il 4 [encF x.1, encF x.2.1, encF x.2.2.1, encF x.2.2.2]
theorem baseN_sm (l : List Int) : SmN (baseN l) := by
 have b0 := nextI_bound l 0 (show (1 : Int) ≤ 7 by omega)
 have b1 := nextI_bound l 1 (show (1 : Int) ≤ 2 + nextI l 0 7 by omega)
 have b2 := nextI_bound l 2 (show (1 : Int) ≤ (1 + nextI l 1 (2 + nextI l 0 7)) * 3 by omega)
 have b3 := nextI_bound l 3 (show (1 : Int) ≤ 3 by omega)
 have b4 := nextI_bound l 4 (show (1 : Int) ≤ 12 by omega)
 have b5 := nextI_bound l 5 (show (1 : Int) ≤ 3 by omega)
 have b6 := nextI_bound l 6 (show (1 : Int) ≤ 12 by omega)
 exact ⟨sm_mk (by omega) (by omega), sm_mk (by omega) (by omega), sm_mk (by omega) (by omega), sm_mk (by omega) (by omega)⟩
theorem pickB_sm (i : Int) : Sm (pickB i) := by
 unfold pickB
 split
 ·exact sm_of 0 (by decide)
 split
 ·exact sm_of 1 (by decide)
 split
 ·exact sm_mk (by decide) (by decide)
 ·exact sm_mk (by decide) (by decide)
theorem numsT_sm (l : List Int) : SmN (numsT l) := by
 have h := baseN_sm l
 have hp := pickB_sm (nextI l 9 4)
 unfold numsT
 split
 ·unfold putF
  split
  ·exact ⟨hp, h.b, h.c, h.d⟩
  split
  ·exact ⟨h.a, hp, h.c, h.d⟩
  split
  ·exact ⟨h.a, h.b, hp, h.d⟩
  ·exact ⟨h.a, h.b, h.c, hp⟩
 ·exact h
theorem fNumbers (l : List Int) : SmN (numsT l) ∧ PureC Tryz.prog [] 19 [.il 1 (encI l)] (encNum (numsT l)) := by
 suffices hS : SmN (numsT l) ∧ (SmN (numsT l) → PureC Tryz.prog [] 19 [.il 1 (encI l)] (encNum (numsT l))) from ⟨hS.1, hS.2 hS.1⟩
 refine ⟨numsT_sm l, fun _ => ?_⟩
 refine acalls_go nnΓ Tryz.func19 rfl ?_
 ((conv=>whnf);repeat(refine Xg ?_;conv=>whnf))
 repeat ((first | refine setK_iff.2 ?_ | refine ⟨rfl, ?_⟩); ((conv=>whnf);repeat(refine Xg ?_;conv=>whnf)))
 refine gNextAtV 0 (i := 0) (7) (by omega) (by omega) (by omega) rfl fun k0 ek0 k0a k0b => ?_
 ((conv=>whnf);repeat(refine Xg ?_;conv=>whnf))
 have w0 : IntKind.i64.wrap (2 + k0) = 2 + k0 := wrap64 ⟨by omega, by omega⟩
 rw [w0]
 refine gNextAtV 0 (i := 1) (2 + k0) (by omega) (by omega) (by omega) rfl fun k1 ek1 k1a k1b => ?_
 ((conv=>whnf);repeat(refine Xg ?_;conv=>whnf))
 have w1 : IntKind.i64.wrap (1 + k1) = 1 + k1 := wrap64 ⟨by omega, by omega⟩
 rw [w1]
 refine (fSmall (1 + k1) (2 + k0) (by omega) (by omega)).go ?_ (.cons nn (.cons nn .nil)) (encF_nn _)
 ((conv=>whnf);repeat(refine Xg ?_;conv=>whnf))
 have w2 : IntKind.i64.wrap ((1 + k1) * 3) = (1 + k1) * 3 := wrap64 ⟨by omega, by omega⟩
 rw [w2]
 refine gNextAtV 0 (i := 2) ((1 + k1) * 3) (by omega) (by omega) (by omega) rfl fun k2 ek2 k2a k2b => ?_
 ((conv=>whnf);repeat(refine Xg ?_;conv=>whnf))
 have w3 : IntKind.i64.wrap ((2 + k0) * 3) = (2 + k0) * 3 := wrap64 ⟨by omega, by omega⟩
 rw [w3]
 refine (fSmall k2 ((2 + k0) * 3) (by omega) (by omega)).go ?_ (.cons nn (.cons nn .nil)) (encF_nn _)
 ((conv=>whnf);repeat(refine Xg ?_;conv=>whnf))
 refine gNextAtV 0 (i := 3) (3) (by omega) (by omega) (by omega) rfl fun k3 ek3 k3a k3b => ?_
 ((conv=>whnf);repeat(refine Xg ?_;conv=>whnf))
 have w4 : IntKind.i64.wrap (1 + k3) = 1 + k3 := wrap64 ⟨by omega, by omega⟩
 rw [w4]
 refine gNextAtV 0 (i := 4) (12) (by omega) (by omega) (by omega) rfl fun k4 ek4 k4a k4b => ?_
 ((conv=>whnf);repeat(refine Xg ?_;conv=>whnf))
 have w5 : IntKind.i64.wrap (4 + k4) = 4 + k4 := wrap64 ⟨by omega, by omega⟩
 rw [w5]
 refine (fSmall (1 + k3) (4 + k4) (by omega) (by omega)).go ?_ (.cons nn (.cons nn .nil)) (encF_nn _)
 ((conv=>whnf);repeat(refine Xg ?_;conv=>whnf))
 refine gNextAtV 0 (i := 5) (3) (by omega) (by omega) (by omega) rfl fun k5 ek5 k5a k5b => ?_
 ((conv=>whnf);repeat(refine Xg ?_;conv=>whnf))
 have w6 : IntKind.i64.wrap (1 + k5) = 1 + k5 := wrap64 ⟨by omega, by omega⟩
 rw [w6]
 refine gNextAtV 0 (i := 6) (12) (by omega) (by omega) (by omega) rfl fun k6 ek6 k6a k6b => ?_
 ((conv=>whnf);repeat(refine Xg ?_;conv=>whnf))
 have w7 : IntKind.i64.wrap (4 + k6) = 4 + k6 := wrap64 ⟨by omega, by omega⟩
 rw [w7]
 refine (fSmall (1 + k5) (4 + k6) (by omega) (by omega)).go ?_ (.cons nn (.cons nn .nil)) (encF_nn _)
 ((conv=>whnf);repeat(refine Xg ?_;conv=>whnf))
 have hbase : baseN l = (mkF (1 + k1) (2 + k0), mkF k2 ((2 + k0) * 3), mkF (1 + k3) (4 + k4), mkF (1 + k5) (4 + k6)) := by
  unfold baseN; rw [← ek0, ← ek1, ← ek2, ← ek3, ← ek4, ← ek5, ← ek6]
 clear ek0 ek1 ek2 ek3 ek4 ek5 ek6
 generalize mkF (1 + k1) (2 + k0) = A0 at *
 generalize mkF k2 ((2 + k0) * 3) = A1 at *
 generalize mkF (1 + k3) (4 + k4) = A2 at *
 generalize mkF (1 + k5) (4 + k6) = A3 at *
 refine gNextAtV 0 (i := 7) (9) (by omega) (by omega) (by omega) rfl fun k7 ek7 k7a k7b => ?_
 ((conv=>whnf);repeat(refine Xg ?_;conv=>whnf))
 have hnum : ∀ x : Fr × Fr × Fr × Fr, numsT l = x → encNum (numsT l) = encNum x := fun x h => by rw [h]
 have hdz : (k7 == 5) = decide (k7 = 5) := by
  by_cases h : k7 = 5
  ·rw [h]; rfl
  ·rw [decide_eq_false h]; exact beq_eq_false_iff_ne.2 h
 rw [hdz]
 refine bcs_mk (fun h' => ?_) (fun h' => ?_)
 ·((conv=>whnf);repeat(refine Xg ?_;conv=>whnf))
  refine gNextAtV 0 (i := 8) (4) (by omega) (by omega) (by omega) rfl fun kA ekA kAa kAb => ?_
  ((conv=>whnf);repeat(refine Xg ?_;conv=>whnf))
  refine (fOf 0 ⟨by omega, by omega⟩).go ?_ (.cons nn .nil) (encF_nn _)
  ((conv=>whnf);repeat(refine Xg ?_;conv=>whnf))
  refine (fOf 1 ⟨by omega, by omega⟩).go ?_ (.cons nn .nil) (encF_nn _)
  ((conv=>whnf);repeat(refine Xg ?_;conv=>whnf))
  refine (fSmall (-1) 3 (by omega) (by omega)).go ?_ (.cons nn (.cons nn .nil)) (encF_nn _)
  ((conv=>whnf);repeat(refine Xg ?_;conv=>whnf))
  refine (fSmall 3 2 (by omega) (by omega)).go ?_ (.cons nn (.cons nn .nil)) (encF_nn _)
  ((conv=>whnf);repeat(refine Xg ?_;conv=>whnf))
  have p0 : pickB 0 = ⟨0, 1⟩ := rfl
  have p1 : pickB 1 = ⟨1, 1⟩ := rfl
  have p2 : pickB 2 = mkF (-1) 3 := rfl
  have p3 : pickB 3 = mkF 3 2 := rfl
  generalize (⟨0, 1⟩ : Fr) = B0 at *
  generalize (⟨1, 1⟩ : Fr) = B1 at *
  generalize mkF (-1) 3 = B2 at *
  generalize mkF 3 2 = B3 at *
  refine gNextAtV 0 (i := 9) (4) (by omega) (by omega) (by omega) rfl fun kB ekB kBa kBb => ?_
  ((conv=>whnf);repeat(refine Xg ?_;conv=>whnf))
  rcases (show kA = 0 ∨ kA = 1 ∨ kA = 2 ∨ kA = 3 by omega) with rfl | rfl | rfl | rfl <;> rcases (show kB = 0 ∨ kB = 1 ∨ kB = 2 ∨ kB = 3 by omega) with rfl | rfl | rfl | rfl
  all_goals ((conv=>whnf);repeat(refine Xg ?_;conv=>whnf))
  all_goals repeat ((first | refine setK_iff.2 ?_ | refine ⟨rfl, ?_⟩); ((conv=>whnf);repeat(refine Xg ?_;conv=>whnf)))
  ·exact fin_mk (r' := .il 4 [encF B0, encF A1, encF A2, encF A3]) (m' := []) (n' := 0) [] rfl trivial (.fz' (id := 1) (off := 0) (len := 4) (ys := [encF B0, encF A1, encF A2, encF A3]) rfl rfl (Nat.le_refl 4) rfl (.cons (encF_nn _) (.cons (encF_nn _) (.cons (encF_nn _) (.cons (encF_nn _) .nil))))) ⟨by rw [hnum (B0, A1, A2, A3) (by unfold numsT; rw [if_pos (by rw [← ek7]; exact of_decide_eq_true h'), hbase, ← ekA, ← ekB, p0]; rfl)]; rfl, rfl, rfl⟩
  ·exact fin_mk (r' := .il 4 [encF B1, encF A1, encF A2, encF A3]) (m' := []) (n' := 0) [] rfl trivial (.fz' (id := 1) (off := 0) (len := 4) (ys := [encF B1, encF A1, encF A2, encF A3]) rfl rfl (Nat.le_refl 4) rfl (.cons (encF_nn _) (.cons (encF_nn _) (.cons (encF_nn _) (.cons (encF_nn _) .nil))))) ⟨by rw [hnum (B1, A1, A2, A3) (by unfold numsT; rw [if_pos (by rw [← ek7]; exact of_decide_eq_true h'), hbase, ← ekA, ← ekB, p1]; rfl)]; rfl, rfl, rfl⟩
  ·exact fin_mk (r' := .il 4 [encF B2, encF A1, encF A2, encF A3]) (m' := []) (n' := 0) [] rfl trivial (.fz' (id := 1) (off := 0) (len := 4) (ys := [encF B2, encF A1, encF A2, encF A3]) rfl rfl (Nat.le_refl 4) rfl (.cons (encF_nn _) (.cons (encF_nn _) (.cons (encF_nn _) (.cons (encF_nn _) .nil))))) ⟨by rw [hnum (B2, A1, A2, A3) (by unfold numsT; rw [if_pos (by rw [← ek7]; exact of_decide_eq_true h'), hbase, ← ekA, ← ekB, p2]; rfl)]; rfl, rfl, rfl⟩
  ·exact fin_mk (r' := .il 4 [encF B3, encF A1, encF A2, encF A3]) (m' := []) (n' := 0) [] rfl trivial (.fz' (id := 1) (off := 0) (len := 4) (ys := [encF B3, encF A1, encF A2, encF A3]) rfl rfl (Nat.le_refl 4) rfl (.cons (encF_nn _) (.cons (encF_nn _) (.cons (encF_nn _) (.cons (encF_nn _) .nil))))) ⟨by rw [hnum (B3, A1, A2, A3) (by unfold numsT; rw [if_pos (by rw [← ek7]; exact of_decide_eq_true h'), hbase, ← ekA, ← ekB, p3]; rfl)]; rfl, rfl, rfl⟩
  ·exact fin_mk (r' := .il 4 [encF A0, encF B0, encF A2, encF A3]) (m' := []) (n' := 0) [] rfl trivial (.fz' (id := 1) (off := 0) (len := 4) (ys := [encF A0, encF B0, encF A2, encF A3]) rfl rfl (Nat.le_refl 4) rfl (.cons (encF_nn _) (.cons (encF_nn _) (.cons (encF_nn _) (.cons (encF_nn _) .nil))))) ⟨by rw [hnum (A0, B0, A2, A3) (by unfold numsT; rw [if_pos (by rw [← ek7]; exact of_decide_eq_true h'), hbase, ← ekA, ← ekB, p0]; rfl)]; rfl, rfl, rfl⟩
  ·exact fin_mk (r' := .il 4 [encF A0, encF B1, encF A2, encF A3]) (m' := []) (n' := 0) [] rfl trivial (.fz' (id := 1) (off := 0) (len := 4) (ys := [encF A0, encF B1, encF A2, encF A3]) rfl rfl (Nat.le_refl 4) rfl (.cons (encF_nn _) (.cons (encF_nn _) (.cons (encF_nn _) (.cons (encF_nn _) .nil))))) ⟨by rw [hnum (A0, B1, A2, A3) (by unfold numsT; rw [if_pos (by rw [← ek7]; exact of_decide_eq_true h'), hbase, ← ekA, ← ekB, p1]; rfl)]; rfl, rfl, rfl⟩
  ·exact fin_mk (r' := .il 4 [encF A0, encF B2, encF A2, encF A3]) (m' := []) (n' := 0) [] rfl trivial (.fz' (id := 1) (off := 0) (len := 4) (ys := [encF A0, encF B2, encF A2, encF A3]) rfl rfl (Nat.le_refl 4) rfl (.cons (encF_nn _) (.cons (encF_nn _) (.cons (encF_nn _) (.cons (encF_nn _) .nil))))) ⟨by rw [hnum (A0, B2, A2, A3) (by unfold numsT; rw [if_pos (by rw [← ek7]; exact of_decide_eq_true h'), hbase, ← ekA, ← ekB, p2]; rfl)]; rfl, rfl, rfl⟩
  ·exact fin_mk (r' := .il 4 [encF A0, encF B3, encF A2, encF A3]) (m' := []) (n' := 0) [] rfl trivial (.fz' (id := 1) (off := 0) (len := 4) (ys := [encF A0, encF B3, encF A2, encF A3]) rfl rfl (Nat.le_refl 4) rfl (.cons (encF_nn _) (.cons (encF_nn _) (.cons (encF_nn _) (.cons (encF_nn _) .nil))))) ⟨by rw [hnum (A0, B3, A2, A3) (by unfold numsT; rw [if_pos (by rw [← ek7]; exact of_decide_eq_true h'), hbase, ← ekA, ← ekB, p3]; rfl)]; rfl, rfl, rfl⟩
  ·exact fin_mk (r' := .il 4 [encF A0, encF A1, encF B0, encF A3]) (m' := []) (n' := 0) [] rfl trivial (.fz' (id := 1) (off := 0) (len := 4) (ys := [encF A0, encF A1, encF B0, encF A3]) rfl rfl (Nat.le_refl 4) rfl (.cons (encF_nn _) (.cons (encF_nn _) (.cons (encF_nn _) (.cons (encF_nn _) .nil))))) ⟨by rw [hnum (A0, A1, B0, A3) (by unfold numsT; rw [if_pos (by rw [← ek7]; exact of_decide_eq_true h'), hbase, ← ekA, ← ekB, p0]; rfl)]; rfl, rfl, rfl⟩
  ·exact fin_mk (r' := .il 4 [encF A0, encF A1, encF B1, encF A3]) (m' := []) (n' := 0) [] rfl trivial (.fz' (id := 1) (off := 0) (len := 4) (ys := [encF A0, encF A1, encF B1, encF A3]) rfl rfl (Nat.le_refl 4) rfl (.cons (encF_nn _) (.cons (encF_nn _) (.cons (encF_nn _) (.cons (encF_nn _) .nil))))) ⟨by rw [hnum (A0, A1, B1, A3) (by unfold numsT; rw [if_pos (by rw [← ek7]; exact of_decide_eq_true h'), hbase, ← ekA, ← ekB, p1]; rfl)]; rfl, rfl, rfl⟩
  ·exact fin_mk (r' := .il 4 [encF A0, encF A1, encF B2, encF A3]) (m' := []) (n' := 0) [] rfl trivial (.fz' (id := 1) (off := 0) (len := 4) (ys := [encF A0, encF A1, encF B2, encF A3]) rfl rfl (Nat.le_refl 4) rfl (.cons (encF_nn _) (.cons (encF_nn _) (.cons (encF_nn _) (.cons (encF_nn _) .nil))))) ⟨by rw [hnum (A0, A1, B2, A3) (by unfold numsT; rw [if_pos (by rw [← ek7]; exact of_decide_eq_true h'), hbase, ← ekA, ← ekB, p2]; rfl)]; rfl, rfl, rfl⟩
  ·exact fin_mk (r' := .il 4 [encF A0, encF A1, encF B3, encF A3]) (m' := []) (n' := 0) [] rfl trivial (.fz' (id := 1) (off := 0) (len := 4) (ys := [encF A0, encF A1, encF B3, encF A3]) rfl rfl (Nat.le_refl 4) rfl (.cons (encF_nn _) (.cons (encF_nn _) (.cons (encF_nn _) (.cons (encF_nn _) .nil))))) ⟨by rw [hnum (A0, A1, B3, A3) (by unfold numsT; rw [if_pos (by rw [← ek7]; exact of_decide_eq_true h'), hbase, ← ekA, ← ekB, p3]; rfl)]; rfl, rfl, rfl⟩
  ·exact fin_mk (r' := .il 4 [encF A0, encF A1, encF A2, encF B0]) (m' := []) (n' := 0) [] rfl trivial (.fz' (id := 1) (off := 0) (len := 4) (ys := [encF A0, encF A1, encF A2, encF B0]) rfl rfl (Nat.le_refl 4) rfl (.cons (encF_nn _) (.cons (encF_nn _) (.cons (encF_nn _) (.cons (encF_nn _) .nil))))) ⟨by rw [hnum (A0, A1, A2, B0) (by unfold numsT; rw [if_pos (by rw [← ek7]; exact of_decide_eq_true h'), hbase, ← ekA, ← ekB, p0]; rfl)]; rfl, rfl, rfl⟩
  ·exact fin_mk (r' := .il 4 [encF A0, encF A1, encF A2, encF B1]) (m' := []) (n' := 0) [] rfl trivial (.fz' (id := 1) (off := 0) (len := 4) (ys := [encF A0, encF A1, encF A2, encF B1]) rfl rfl (Nat.le_refl 4) rfl (.cons (encF_nn _) (.cons (encF_nn _) (.cons (encF_nn _) (.cons (encF_nn _) .nil))))) ⟨by rw [hnum (A0, A1, A2, B1) (by unfold numsT; rw [if_pos (by rw [← ek7]; exact of_decide_eq_true h'), hbase, ← ekA, ← ekB, p1]; rfl)]; rfl, rfl, rfl⟩
  ·exact fin_mk (r' := .il 4 [encF A0, encF A1, encF A2, encF B2]) (m' := []) (n' := 0) [] rfl trivial (.fz' (id := 1) (off := 0) (len := 4) (ys := [encF A0, encF A1, encF A2, encF B2]) rfl rfl (Nat.le_refl 4) rfl (.cons (encF_nn _) (.cons (encF_nn _) (.cons (encF_nn _) (.cons (encF_nn _) .nil))))) ⟨by rw [hnum (A0, A1, A2, B2) (by unfold numsT; rw [if_pos (by rw [← ek7]; exact of_decide_eq_true h'), hbase, ← ekA, ← ekB, p2]; rfl)]; rfl, rfl, rfl⟩
  ·exact fin_mk (r' := .il 4 [encF A0, encF A1, encF A2, encF B3]) (m' := []) (n' := 0) [] rfl trivial (.fz' (id := 1) (off := 0) (len := 4) (ys := [encF A0, encF A1, encF A2, encF B3]) rfl rfl (Nat.le_refl 4) rfl (.cons (encF_nn _) (.cons (encF_nn _) (.cons (encF_nn _) (.cons (encF_nn _) .nil))))) ⟨by rw [hnum (A0, A1, A2, B3) (by unfold numsT; rw [if_pos (by rw [← ek7]; exact of_decide_eq_true h'), hbase, ← ekA, ← ekB, p3]; rfl)]; rfl, rfl, rfl⟩
 ·((conv=>whnf);repeat(refine Xg ?_;conv=>whnf))
  exact fin_mk (r' := .il 4 [encF A0, encF A1, encF A2, encF A3]) (m' := []) (n' := 0) [] rfl trivial (.fz' (id := 1) (off := 0) (len := 4) (ys := [encF A0, encF A1, encF A2, encF A3]) rfl rfl (Nat.le_refl 4) rfl (.cons (encF_nn _) (.cons (encF_nn _) (.cons (encF_nn _) (.cons (encF_nn _) .nil))))) ⟨by rw [hnum (A0, A1, A2, A3) (by unfold numsT; rw [if_neg (by rw [← ek7]; exact of_decide_eq_false h'), hbase])]; rfl, rfl, rfl⟩
set_option maxHeartbeats 4000000
theorem take_rest (s : List UInt8) (n : Nat) : List.take (s.length - ((n : Int)).toNat) (List.drop ((n : Int)).toNat s) = List.drop n s := by
 rw [Int.toNat_natCast, List.take_of_length_le (by simp)]
theorem sl2_ok {l h n : Nat} (h1 : l ≤ h) (h2 : h ≤ n) : (Nat.ble l h && Nat.ble h n) = true := by rw [Nat.ble_eq_true_of_le h1, Nat.ble_eq_true_of_le h2]; rfl
theorem sHasPrefix (s q : List UInt8) (hq : q.length ≤ 1000) : PureC Tryz.prog [] 118 [.str s, .str q] (.bool (q.isPrefixOf s)) := by
 refine acalls_go nnΓ Tryz.func118 rfl ?_
 by_cases hl : q.length ≤ s.length
 ·have d1 : decide ((s.length : Int) ≥ q.length) = true := by simpa using hl
  ((conv=>whnf);repeat(refine Xg ?_;conv=>whnf))
  rw [d1]
  ((conv=>whnf);repeat(refine Xg ?_;conv=>whnf))
  refine grd_mk (sl2_ok (by (try simp) <;> omega) (by (try simp) <;> omega)) ?_
  ((conv=>whnf);repeat(refine Xg ?_;conv=>whnf))
  refine fin_pure nn ⟨?_, rfl, rfl⟩
  congr 1
  rw [Bool.eq_iff_iff]
  simp
  constructor
  ·intro h
   have h2 := List.take_append_drop q.length s
   rw [h] at h2
   exact ⟨s.drop q.length, h2⟩
  ·rintro ⟨t, rfl⟩
   simp
 ·have d1 : decide ((s.length : Int) ≥ q.length) = false := by simp; omega
  ((conv=>whnf);repeat(refine Xg ?_;conv=>whnf))
  rw [d1]
  ((conv=>whnf);repeat(refine Xg ?_;conv=>whnf))
  refine fin_pure nn ⟨?_, rfl, rfl⟩
  congr 1
  symm
  rw [Bool.eq_false_iff]
  intro h
  simp at h
  have := h.length_le
  omega
def cutR (q s : List UInt8) : List UInt8 := if q.isPrefixOf s then s.drop q.length else s
theorem sCutI (s q : List UInt8) (hq : q.length ≤ 1000) : PureC Tryz.prog [] 104 [.str s, .str q] (.tup [.str (cutR q s), .bool (q.isPrefixOf s)]) := by
 have h := sHasPrefix s q hq
 have hle : q.isPrefixOf s = true → q.length ≤ s.length := fun h => by simp at h; exact h.length_le
 unfold cutR
 generalize q.isPrefixOf s = b at h hle
 refine acalls_go nnΓ Tryz.func104 rfl ?_
 ((conv=>whnf);repeat(refine Xg ?_;conv=>whnf))
 refine h.go ?_
 cases b with
 | false =>
  ((conv=>whnf);repeat(refine Xg ?_;conv=>whnf))
  exact fin_pure nn ⟨rfl, rfl, rfl⟩
 | true =>
  have := hle rfl
  ((conv=>whnf);repeat(refine Xg ?_;conv=>whnf))
  refine grd_mk (sl2_ok (by (try simp) <;> omega) (by (try simp) <;> omega)) ?_
  ((conv=>whnf);repeat(refine Xg ?_;conv=>whnf))
  refine fin_pure nn ⟨?_, rfl, rfl⟩
  congr 3
  exact take_rest s q.length
theorem sCut (s q : List UInt8) (hq : q.length ≤ 1000) : PureC Tryz.prog [] 82 [.str s, .str q] (.tup [.str (cutR q s), .bool (q.isPrefixOf s)]) := by
 have h := sCutI s q hq
 generalize cutR q s = r at h
 generalize q.isPrefixOf s = b at h
 refine acalls_go nnΓ Tryz.func82 rfl ?_
 ((conv=>whnf);repeat(refine Xg ?_;conv=>whnf))
 refine h.go ?_
 ((conv=>whnf);repeat(refine Xg ?_;conv=>whnf))
 exact fin_pure nn ⟨rfl, rfl, rfl⟩
set_option maxHeartbeats 16000000
set_option linter.unusedSimpArgs false
theorem dec_head (n : Nat) : 0 < n → (Lib.decDigits n).head? ≠ some 48 := by
 induction n using Nat.strongRecOn with
 | ind n ih =>
  intro h
  by_cases h10 : n < 10
  ·rw [Lib.decDigits_one h10]
   simp only [List.head?_cons, ne_eq, Option.some.injEq]
   intro e
   have := congrArg UInt8.toNat e
   rw [digit_toNat _ h10] at this
   simp at this
   omega
  ·rw [decD_step (by omega)]
   have := ih (n / 10) (by omega) (by omega)
   cases hc : Lib.decDigits (n / 10) with
   | nil =>
    have := congrArg valT hc
    rw [valT_dec] at this
    simp [valT] at this
    omega
   | cons c r => rw [hc] at this; simpa using this
theorem dec_ne (n : Nat) : Lib.decDigits n ≠ [] := fun e => by
 by_cases h : n < 10
 ·rw [Lib.decDigits_one h] at e; cases e
 ·rw [decD_step (by omega)] at e; simp at e
theorem wDigits (n : Nat) (hl : (Lib.decDigits n).length ≤ 100000) : PureC Tryz.prog [] 83 [.str (Lib.decDigits n)] (.bool true) := by
 have hd := decD_dig n
 have hne := dec_ne n
 have hh := dec_head n
 have h0 : n = 0 → Lib.decDigits n = [48] := fun h => by rw [h, Lib.decDigits_one (by omega)]; rfl
 generalize Lib.decDigits n = l at *
 refine acalls_go nnΓ Tryz.func83 rfl ?_
 ((conv=>whnf);repeat(refine Xg ?_;conv=>whnf))
 refine ALoop.at nnΓ (fun i : Nat => i ≤ l.length) (fun i => ⟨[(0, .str l), (3, .int .i64 i)], [], 0, 31⟩) (fun i => l.length - i) 0 [] (by omega)
  (conv_pure ⟨⟨_, rfl, .same _ nn⟩, ⟨_, rfl, .same _ nn⟩, trivial⟩) ?_
 intro i hi
 ((conv=>whnf);repeat(refine Xg ?_;conv=>whnf))
 refine bcs_mk (fun hb => ?_) (fun hb => ?_)
 ·have hlt : i < l.length := by have := of_decide_eq_true hb; omega
  have hci := hd l[i] (List.getElem_mem _)
  have hget : l[((i : Nat) : Int).toNat]? = some l[i] := by rw [Int.toNat_natCast]; exact List.getElem?_eq_getElem hlt
  generalize l[i] = c at *
  have d1 : decide ((c.toNat : Int) < 48) = false := decide_eq_false (by omega)
  have d2 : decide ((c.toNat : Int) > 57) = false := decide_eq_false (by omega)
  ((conv=>whnf);repeat(refine Xg ?_;conv=>whnf))
  refine opt_mk hget ?_
  ((conv=>whnf);repeat(refine Xg ?_;conv=>whnf))
  rw [d1]
  ((conv=>whnf);repeat(refine Xg ?_;conv=>whnf))
  refine opt_mk hget ?_
  ((conv=>whnf);repeat(refine Xg ?_;conv=>whnf))
  rw [d2]
  ((conv=>whnf);repeat(refine Xg ?_;conv=>whnf))
  exact .mk (i + 1) [] (by omega) (conv_pure ⟨⟨_, rfl, .same _ nn⟩, ⟨_, rfl, .w64 (by omega) ⟨by omega, by omega⟩⟩, trivial⟩) (by omega)
 ·rcases Nat.eq_zero_or_pos n with h | h
  ·rw [h0 h]
   ((conv=>whnf);repeat(refine Xg ?_;conv=>whnf))
   exact fin_pure nn ⟨rfl, rfl, rfl⟩
  ·have hh := hh h
   cases l with
   | nil => exact absurd rfl hne
   | cons c r =>
    have hc48 : c ≠ 48 := by simpa using hh
    have d1 : ((c :: r) == [48]) = false := by
     rw [beq_eq_false_iff_ne]; intro e; exact hc48 (List.cons.inj e).1
    have d2 : ((c.toNat : Int) != 48) = true := by
     rw [bne_iff_ne]; intro e
     have e2 : c.toNat = 48 := by omega
     exact hc48 (UInt8.toNat_inj.1 (by rw [e2]; rfl))
    ((conv=>whnf);repeat(refine Xg ?_;conv=>whnf))
    rw [d1]
    ((conv=>whnf);repeat(refine Xg ?_;conv=>whnf))
    rw [d2]
    ((conv=>whnf);repeat(refine Xg ?_;conv=>whnf))
    exact fin_pure nn ⟨rfl, rfl, rfl⟩
set_option maxHeartbeats 16000000
set_option linter.unusedSimpArgs false
theorem decZ_eq (z : Int) : decZ z = if z < 0 then 45 :: Lib.decDigits z.natAbs else Lib.decDigits z.natAbs := by
 unfold decZ Lib.itoa
 split
 ·rfl
 ·rw [show z.toNat = z.natAbs by omega]
theorem cut_dec (z : Int) : PureC Tryz.prog [] 82 [.str (decZ z), .str [45]] (.tup [.str (Lib.decDigits z.natAbs), .bool (decide (z < 0))]) := by
 have h := sCut (decZ z) [45] (by decide)
 rw [decZ_eq] at h ⊢
 by_cases hn : z < 0
 ·rw [if_pos hn] at h ⊢
  have e1 : List.isPrefixOf [45] (45 :: Lib.decDigits z.natAbs) = true := by simp
  unfold cutR at h
  rw [e1, if_pos rfl] at h
  rw [decide_eq_true hn]
  exact h
 ·rw [if_neg hn] at h ⊢
  have hd := decD_dig z.natAbs
  have e1 : List.isPrefixOf [45] (Lib.decDigits z.natAbs) = false := by
   cases hc : Lib.decDigits z.natAbs with
   | nil => rfl
   | cons c r =>
    have := hd c (by rw [hc]; simp)
    have hne : c ≠ 45 := by intro e; rw [e, show (45 : UInt8).toNat = 45 from rfl] at this; omega
    simp [List.isPrefixOf]
    exact fun e => hne e.symm
  unfold cutR at h
  rw [e1, if_neg (by simp)] at h
  rw [decide_eq_false hn]
  exact h
theorem one9 : dg 4294967296 1000000000 = [1000000000] := by rw [dg_pos (by decide) (by decide)]; simp [dg_zero]
theorem wParse (z : Int) (hz : fits z = true) : PureC Tryz.prog gz 49 [.str (decZ z)] (.tup [encW z, .int .i64 0]) := by
 have hB : (2 : Nat) ≤ 4294967296 := by decide
 have hlen := decZ_len hz
 have hcut := cut_dec z
 have hDl : (Lib.decDigits z.natAbs).length ≤ 4934 := by
  rw [decZ_eq] at hlen
  split at hlen
  ·simp at hlen; omega
  ·exact hlen
 have hdig := wDigits z.natAbs (by omega)
 have hD := decD_dig z.natAbs
 have hv := valT_dec z.natAbs
 have hnW : (dg 4294967296 z.natAbs).length ≤ 512 := fits_nW hz
 have hrg := wRanged (decide (z < 0)) z.natAbs (by omega)
 rw [sg_of] at hrg
 unfold rngW at hrg
 rw [if_pos hz] at hrg
 have hen := encW_nn z
 have h48 : decide (z < 0) = true → (Lib.decDigits z.natAbs == [48]) = false := fun h => by
  have hn := of_decide_eq_true h
  rw [beq_eq_false_iff_ne]
  intro e
  rw [e] at hv
  have : valT [48] = 0 := by decide
  omega
 generalize decZ z = S at *
 generalize Lib.decDigits z.natAbs = D at *
 rw [encW_eq z] at hrg hen ⊢
 generalize decide (z < 0) = bz at *
 have hvl : ∀ i, i ≤ D.length → valT (D.take i) ≤ z.natAbs := fun i hi => by
  rw [← hv]
  conv => rhs; rw [← List.take_append_drop i D]
  rw [valT_app]
  have : 1 ≤ 10 ^ (D.drop i).length := Nat.pow_pos (by omega)
  have := Nat.le_mul_of_pos_right (valT (D.take i)) this
  omega
 have hnl : ∀ n, n ≤ z.natAbs → (dg 4294967296 n).length ≤ 512 := fun n h => Nat.le_trans (dg_len_mono hB h) hnW
 generalize z.natAbs = N at *
 refine acalls_go nngz Tryz.func49 rfl ?_
 have d1 : decide ((S.length : Int) > 5000) = false := decide_eq_false (by omega)
 ((conv=>whnf);repeat(refine Xg ?_;conv=>whnf))
 rw [d1]
 ((conv=>whnf);repeat(refine Xg ?_;conv=>whnf))
 refine hcut.goG ?_
 ((conv=>whnf);repeat(refine Xg ?_;conv=>whnf))
 refine hdig.goG ?_
 cases bz
 rotate_left
 ·have h48 := h48 rfl
  ((conv=>whnf);repeat(refine Xg ?_;conv=>whnf))
  rw [h48]
  ((conv=>whnf);repeat(refine Xg ?_;conv=>whnf))
  refine ALoop.at nngz (fun i : Nat => i ≤ D.length ∧ (i = 0 ∨ 9 ∣ (D.length - i)))
   (fun i => ⟨[(2, .ptr 0 0 0), (4, .str (D.drop i)), (5, .bool true), (6, .il 1 (encU (dg 4294967296 (valT (D.take i)))))], [(0, .row 37 2 [.agg [.bool false, .nsl]])], 1, 60⟩)
   (fun i => D.length - i) 0 [(0, 0)] ⟨by omega, .inl rfl⟩
   (conv_mk _ rfl ⟨⟨0, _, rfl, rfl, .same (.cons (.agg' (.cons (tB _) (.cons nn .nil))) .nil)⟩, trivial⟩ ⟨⟨_, rfl, .ptr 0 0 0 0 rfl⟩, ⟨_, rfl, .same _ nn⟩, ⟨_, rfl, .same _ (tB _)⟩, ⟨_, rfl, by rw [List.take_zero, show valT [] = 0 from rfl, dg_zero]; exact .nil 1⟩, trivial⟩) ?_
  rintro i ⟨i1, i2⟩
  ((conv=>whnf);repeat(refine Xg ?_;conv=>whnf))
  refine bcs_mk (fun hb => ?_) (fun hb => ?_)
  ·have hlt : i < D.length := by have := of_decide_eq_true hb; simp at this; omega
   obtain ⟨n, hn⟩ : ∃ n, n = (D.length - i - 1) % 9 + 1 := ⟨_, rfl⟩
   obtain ⟨c1, c2, c3, c4, c5⟩ := chunk_step hn hlt i2
   have hll : (D.drop i).length = D.length - i := List.length_drop
   have w1 : IntKind.i64.wrap (((D.length - i : Nat) : Int) - 1) = ((D.length - i - 1 : Nat) : Int) := by rw [wrap64 ⟨by omega, by omega⟩]; omega
   have w2 : (((D.length - i - 1 : Nat) : Int)).tmod 9 = (((D.length - i - 1) % 9 : Nat) : Int) := tmod_nat _ 9
   have w3 : IntKind.i64.wrap ((((D.length - i - 1) % 9 : Nat) : Int) + 1) = (n : Int) := by rw [wrap64 ⟨by omega, by omega⟩]; omega
   have hcl : ((D.drop i).take n).length = n := by rw [List.length_take, hll]; omega
   obtain ⟨a, e, -, -, hat, hok⟩ := sAtoi ((D.drop i).take n) (by rw [hcl]; omega)
   obtain ⟨rfl, rfl⟩ := hok _ (atoi_digits (allDig_sub hD i n) (by intro e; rw [e] at hcl; simp at hcl; omega) (by omega))
   have hvt : valT ((D.drop i).take n) < 1000000000 := by
    have := valT_lt (allDig_sub hD i n)
    rw [hcl] at this
    exact Nat.lt_of_lt_of_le this (Nat.pow_le_pow_right (show 0 < 10 by omega) c3)
   have hv1 := hvl (i + n) c1
   have hv0 := hvl i i1
   have hm := wMul (valT (D.take i)) 1000000000 (by have := hnl _ hv0; omega) (by rw [one9]; simp)
   rw [one9] at hm
   have hml := dgl_mul hB (valT (D.take i)) 1000000000
   rw [one9] at hml
   have hml0 := hnl _ hv0
   simp only [List.length_singleton] at hml
   have ha := wAddL (dg 4294967296 (valT (D.take i) * 1000000000)) [valT ((D.drop i).take n)] (dg_lt hB _) (by intro d hd; rw [List.mem_singleton.1 hd]; omega) (by omega) (by simp)
   rw [vl_dg hB, show vl 4294967296 [valT ((D.drop i).take n)] = valT ((D.drop i).take n) by simp [vl], ← c5] at ha
   have w4 : IntKind.u32.wrap ((valT ((D.drop i).take n) : Nat) : Int) = ((valT ((D.drop i).take n) : Nat) : Int) := w32s (by omega)
   have hdd : (D.drop i).drop n = D.drop (i + n) := by rw [List.drop_drop]
   have sl1 : List.take ((n : Int).toNat - 0) (List.drop 0 (D.drop i)) = (D.drop i).take n := by simp
   have sl2 : List.take (D.length - i - ((n : Nat) : Int).toNat) (List.drop ((n : Nat) : Int).toNat (D.drop i)) = D.drop (i + n) := by
    rw [Int.toNat_natCast, hdd, List.take_of_length_le (by rw [List.length_drop]; omega)]
   ((conv=>whnf);repeat(refine Xg ?_;conv=>whnf))
   rw [hll, w1, w2, w3]
   rw [decide_eq_true (show (0 : Int) ≤ (n : Int) by omega)]
   ((conv=>whnf);repeat(refine Xg ?_;conv=>whnf))
   refine grd_mk (b := (Nat.ble 0 ((n : Nat) : Int).toNat && Nat.ble ((n : Nat) : Int).toNat (D.length - i))) (by rw [Int.toNat_natCast, Nat.ble_eq_true_of_le (Nat.zero_le _), Nat.ble_eq_true_of_le (by omega)]; rfl) ?_
   ((conv=>whnf);repeat(refine Xg ?_;conv=>whnf))
   rw [sl1]
   refine PureC.use hat nngz (.cons nn .nil) (.tup' (.cons nn (.cons nn .nil))) ?_
   ((conv=>whnf);repeat(refine Xg ?_;conv=>whnf))
   rw [hll]
   refine grd_mk (b := (Nat.ble ((n : Nat) : Int).toNat (D.length - i) && Nat.ble (D.length - i) (D.length - i))) (by rw [Int.toNat_natCast, Nat.ble_eq_true_of_le (by omega), Nat.ble_eq_true_of_le (Nat.le_refl _)]; rfl) ?_
   ((conv=>whnf);repeat(refine Xg ?_;conv=>whnf))
   rw [sl2]
   refine ACalls.pre nngz [(0, 0)] (mem' := [(0, .row 37 2 [.agg [.bool false, .nsl]])]) rfl ⟨⟨0, _, rfl, rfl, .same (.cons (.agg' (.cons (tB _) (.cons nn .nil))) .nil)⟩, trivial⟩
    (.cons (.same _ (tU _)) (.cons (.fz' (id := 1) (off := 0) (len := 1) (ys := encU [1000000000]) rfl rfl (Nat.le_refl 1) rfl (encU_nn _)) .nil)) ?_
   refine hm.goG ?_ (.cons (tU _) (.cons (tU _) .nil)) (tU _)
   ((conv=>whnf);repeat(refine Xg ?_;conv=>whnf))
   rw [w4]
   refine ACalls.pre nngz [(0, 0)] (mem' := [(0, .row 37 2 [.agg [.bool false, .nsl]])]) rfl ⟨⟨0, _, rfl, rfl, .same (.cons (.agg' (.cons (tB _) (.cons nn .nil))) .nil)⟩, trivial⟩
    (.cons (.same _ (tU _)) (.cons (.fz' (id := 2) (off := 0) (len := 1) (ys := encU [valT ((D.drop i).take n)]) rfl rfl (Nat.le_refl 1) rfl (encU_nn _)) .nil)) ?_
   refine ha.goG ?_ (.cons (tU _) (.cons (tU _) .nil)) (tU _)
   ((conv=>whnf);repeat(refine Xg ?_;conv=>whnf))
   exact .mk (i + n) [(0, 0)] ⟨c1, .inr c4⟩
    (conv_mk _ rfl ⟨⟨0, _, rfl, rfl, .same (.cons (.agg' (.cons (tB _) (.cons nn .nil))) .nil)⟩, trivial⟩ ⟨⟨_, rfl, .ptr 0 0 0 0 rfl⟩, ⟨_, rfl, .same _ nn⟩, ⟨_, rfl, .same _ (tB _)⟩, ⟨_, rfl, .same _ (tU _)⟩, trivial⟩) (by omega)
  ·have hie : i = D.length := by have := of_decide_eq_false hb; simp at this; omega
   subst hie
   rw [List.take_length, hv]
   ((conv=>whnf);repeat(refine Xg ?_;conv=>whnf))
   refine hrg.goG ?_ (.cons (tB _) (.cons (tU _) .nil)) (.tup' (.cons hen (.cons nn .nil)))
   ((conv=>whnf);repeat(refine Xg ?_;conv=>whnf))
   repeat ((first | refine setK_iff.2 ?_ | refine ⟨rfl, ?_⟩); ((conv=>whnf);repeat(refine Xg ?_;conv=>whnf)))
   exact fin_pure (.tup' (.cons hen (.cons nn .nil))) ⟨rfl, rfl, rfl⟩
 ·((conv=>whnf);repeat(refine Xg ?_;conv=>whnf))
  refine ALoop.at nngz (fun i : Nat => i ≤ D.length ∧ (i = 0 ∨ 9 ∣ (D.length - i)))
   (fun i => ⟨[(2, .ptr 0 0 0), (4, .str (D.drop i)), (5, .bool false), (6, .il 1 (encU (dg 4294967296 (valT (D.take i)))))], [(0, .row 37 2 [.agg [.bool false, .nsl]])], 1, 60⟩)
   (fun i => D.length - i) 0 [(0, 0)] ⟨by omega, .inl rfl⟩
   (conv_mk _ rfl ⟨⟨0, _, rfl, rfl, .same (.cons (.agg' (.cons (tB _) (.cons nn .nil))) .nil)⟩, trivial⟩ ⟨⟨_, rfl, .ptr 0 0 0 0 rfl⟩, ⟨_, rfl, .same _ nn⟩, ⟨_, rfl, .same _ (tB _)⟩, ⟨_, rfl, by rw [List.take_zero, show valT [] = 0 from rfl, dg_zero]; exact .nil 1⟩, trivial⟩) ?_
  rintro i ⟨i1, i2⟩
  ((conv=>whnf);repeat(refine Xg ?_;conv=>whnf))
  refine bcs_mk (fun hb => ?_) (fun hb => ?_)
  ·have hlt : i < D.length := by have := of_decide_eq_true hb; simp at this; omega
   obtain ⟨n, hn⟩ : ∃ n, n = (D.length - i - 1) % 9 + 1 := ⟨_, rfl⟩
   obtain ⟨c1, c2, c3, c4, c5⟩ := chunk_step hn hlt i2
   have hll : (D.drop i).length = D.length - i := List.length_drop
   have w1 : IntKind.i64.wrap (((D.length - i : Nat) : Int) - 1) = ((D.length - i - 1 : Nat) : Int) := by rw [wrap64 ⟨by omega, by omega⟩]; omega
   have w2 : (((D.length - i - 1 : Nat) : Int)).tmod 9 = (((D.length - i - 1) % 9 : Nat) : Int) := tmod_nat _ 9
   have w3 : IntKind.i64.wrap ((((D.length - i - 1) % 9 : Nat) : Int) + 1) = (n : Int) := by rw [wrap64 ⟨by omega, by omega⟩]; omega
   have hcl : ((D.drop i).take n).length = n := by rw [List.length_take, hll]; omega
   obtain ⟨a, e, -, -, hat, hok⟩ := sAtoi ((D.drop i).take n) (by rw [hcl]; omega)
   obtain ⟨rfl, rfl⟩ := hok _ (atoi_digits (allDig_sub hD i n) (by intro e; rw [e] at hcl; simp at hcl; omega) (by omega))
   have hvt : valT ((D.drop i).take n) < 1000000000 := by
    have := valT_lt (allDig_sub hD i n)
    rw [hcl] at this
    exact Nat.lt_of_lt_of_le this (Nat.pow_le_pow_right (show 0 < 10 by omega) c3)
   have hv1 := hvl (i + n) c1
   have hv0 := hvl i i1
   have hm := wMul (valT (D.take i)) 1000000000 (by have := hnl _ hv0; omega) (by rw [one9]; simp)
   rw [one9] at hm
   have hml := dgl_mul hB (valT (D.take i)) 1000000000
   rw [one9] at hml
   have hml0 := hnl _ hv0
   simp only [List.length_singleton] at hml
   have ha := wAddL (dg 4294967296 (valT (D.take i) * 1000000000)) [valT ((D.drop i).take n)] (dg_lt hB _) (by intro d hd; rw [List.mem_singleton.1 hd]; omega) (by omega) (by simp)
   rw [vl_dg hB, show vl 4294967296 [valT ((D.drop i).take n)] = valT ((D.drop i).take n) by simp [vl], ← c5] at ha
   have w4 : IntKind.u32.wrap ((valT ((D.drop i).take n) : Nat) : Int) = ((valT ((D.drop i).take n) : Nat) : Int) := w32s (by omega)
   have hdd : (D.drop i).drop n = D.drop (i + n) := by rw [List.drop_drop]
   have sl1 : List.take ((n : Int).toNat - 0) (List.drop 0 (D.drop i)) = (D.drop i).take n := by simp
   have sl2 : List.take (D.length - i - ((n : Nat) : Int).toNat) (List.drop ((n : Nat) : Int).toNat (D.drop i)) = D.drop (i + n) := by
    rw [Int.toNat_natCast, hdd, List.take_of_length_le (by rw [List.length_drop]; omega)]
   ((conv=>whnf);repeat(refine Xg ?_;conv=>whnf))
   rw [hll, w1, w2, w3]
   rw [decide_eq_true (show (0 : Int) ≤ (n : Int) by omega)]
   ((conv=>whnf);repeat(refine Xg ?_;conv=>whnf))
   refine grd_mk (b := (Nat.ble 0 ((n : Nat) : Int).toNat && Nat.ble ((n : Nat) : Int).toNat (D.length - i))) (by rw [Int.toNat_natCast, Nat.ble_eq_true_of_le (Nat.zero_le _), Nat.ble_eq_true_of_le (by omega)]; rfl) ?_
   ((conv=>whnf);repeat(refine Xg ?_;conv=>whnf))
   rw [sl1]
   refine PureC.use hat nngz (.cons nn .nil) (.tup' (.cons nn (.cons nn .nil))) ?_
   ((conv=>whnf);repeat(refine Xg ?_;conv=>whnf))
   rw [hll]
   refine grd_mk (b := (Nat.ble ((n : Nat) : Int).toNat (D.length - i) && Nat.ble (D.length - i) (D.length - i))) (by rw [Int.toNat_natCast, Nat.ble_eq_true_of_le (by omega), Nat.ble_eq_true_of_le (Nat.le_refl _)]; rfl) ?_
   ((conv=>whnf);repeat(refine Xg ?_;conv=>whnf))
   rw [sl2]
   refine ACalls.pre nngz [(0, 0)] (mem' := [(0, .row 37 2 [.agg [.bool false, .nsl]])]) rfl ⟨⟨0, _, rfl, rfl, .same (.cons (.agg' (.cons (tB _) (.cons nn .nil))) .nil)⟩, trivial⟩
    (.cons (.same _ (tU _)) (.cons (.fz' (id := 1) (off := 0) (len := 1) (ys := encU [1000000000]) rfl rfl (Nat.le_refl 1) rfl (encU_nn _)) .nil)) ?_
   refine hm.goG ?_ (.cons (tU _) (.cons (tU _) .nil)) (tU _)
   ((conv=>whnf);repeat(refine Xg ?_;conv=>whnf))
   rw [w4]
   refine ACalls.pre nngz [(0, 0)] (mem' := [(0, .row 37 2 [.agg [.bool false, .nsl]])]) rfl ⟨⟨0, _, rfl, rfl, .same (.cons (.agg' (.cons (tB _) (.cons nn .nil))) .nil)⟩, trivial⟩
    (.cons (.same _ (tU _)) (.cons (.fz' (id := 2) (off := 0) (len := 1) (ys := encU [valT ((D.drop i).take n)]) rfl rfl (Nat.le_refl 1) rfl (encU_nn _)) .nil)) ?_
   refine ha.goG ?_ (.cons (tU _) (.cons (tU _) .nil)) (tU _)
   ((conv=>whnf);repeat(refine Xg ?_;conv=>whnf))
   exact .mk (i + n) [(0, 0)] ⟨c1, .inr c4⟩
    (conv_mk _ rfl ⟨⟨0, _, rfl, rfl, .same (.cons (.agg' (.cons (tB _) (.cons nn .nil))) .nil)⟩, trivial⟩ ⟨⟨_, rfl, .ptr 0 0 0 0 rfl⟩, ⟨_, rfl, .same _ nn⟩, ⟨_, rfl, .same _ (tB _)⟩, ⟨_, rfl, .same _ (tU _)⟩, trivial⟩) (by omega)
  ·have hie : i = D.length := by have := of_decide_eq_false hb; simp at this; omega
   subst hie
   rw [List.take_length, hv]
   ((conv=>whnf);repeat(refine Xg ?_;conv=>whnf))
   refine hrg.goG ?_ (.cons (tB _) (.cons (tU _) .nil)) (.tup' (.cons hen (.cons nn .nil)))
   ((conv=>whnf);repeat(refine Xg ?_;conv=>whnf))
   repeat ((first | refine setK_iff.2 ?_ | refine ⟨rfl, ?_⟩); ((conv=>whnf);repeat(refine Xg ?_;conv=>whnf)))
   exact fin_pure (.tup' (.cons hen (.cons nn .nil))) ⟨rfl, rfl, rfl⟩
set_option maxHeartbeats 16000000
set_option linter.unusedSimpArgs false
theorem lOf (a : Fr) (ha : FC a) : PureC Tryz.prog gz 21 [encF a] (encP a) := by
 have hp := ha.lf.num
 have hq := ha.lf.den'
 have t1 := rText a.p (by omega)
 have t2 := rText (a.q : Int) (by omega)
 have p1 := wParse a.p ha.num
 have p2 := wParse (a.q : Int) ha.den
 have m := pMake a.p (a.q : Int) (by have := ha.can.pos; omega) (by have := ha.fp.ln; omega) (by have := ha.fp.lq; rw [Int.natAbs_natCast]; omega)
 rw [mkF_self ha.can] at m
 obtain ⟨fb, fl, fc, fm, f1, f2, f3⟩ := encF_ex a
 obtain ⟨pb, pl, pc, pm, g1, g2, g3⟩ := encP_ex a
 rw [f1] at t1
 rw [f2] at t2
 rw [g1] at p1
 rw [g2] at p2
 rw [g1, g2, g3] at m
 rw [f3, g3]
 generalize decZ a.p = s1 at *
 generalize decZ (a.q : Int) = s2 at *
 refine acalls_go nngz Tryz.func21 rfl ?_
 ((conv=>whnf);repeat(refine Xg ?_;conv=>whnf))
 repeat ((first | refine setK_iff.2 ?_ | refine ⟨rfl, ?_⟩); ((conv=>whnf);repeat(refine Xg ?_;conv=>whnf)))
 refine t1.goG ?_ (.cons (agR _ _) .nil) nn
 ((conv=>whnf);repeat(refine Xg ?_;conv=>whnf))
 refine PureC.use p1 nngz (.cons nn .nil) (.tup' (.cons (agW _ _) (.cons nn .nil))) ?_
 ((conv=>whnf);repeat(refine Xg ?_;conv=>whnf))
 repeat ((first | refine setK_iff.2 ?_ | refine ⟨rfl, ?_⟩); ((conv=>whnf);repeat(refine Xg ?_;conv=>whnf)))
 refine t2.goG ?_ (.cons (agR _ _) .nil) nn
 ((conv=>whnf);repeat(refine Xg ?_;conv=>whnf))
 refine PureC.use p2 nngz (.cons nn .nil) (.tup' (.cons (agW _ _) (.cons nn .nil))) ?_
 ((conv=>whnf);repeat(refine Xg ?_;conv=>whnf))
 repeat ((first | refine setK_iff.2 ?_ | refine ⟨rfl, ?_⟩); ((conv=>whnf);repeat(refine Xg ?_;conv=>whnf)))
 refine m.goG ?_ (.cons (agW _ _) (.cons (agW _ _) .nil)) (.tup' (.cons (agP _ _ _ _) (.cons nn .nil)))
 ((conv=>whnf);repeat(refine Xg ?_;conv=>whnf))
 repeat ((first | refine setK_iff.2 ?_ | refine ⟨rfl, ?_⟩); ((conv=>whnf);repeat(refine Xg ?_;conv=>whnf)))
 exact fin_pure (agP _ _ _ _) ⟨rfl, rfl, rfl⟩
theorem lPortion (p q : Int) (hp : i64 p) (hq : i64 q) (h0 : q ≠ 0) : PureC Tryz.prog [] 23 [.int .i64 p, .int .i64 q] (encP (mkF p q)) := by
 have h := pOf p q hp hq h0
 obtain ⟨pb, pl, pc, pm, -, -, g3⟩ := encP_ex (mkF p q)
 rw [g3] at h ⊢
 refine acalls_go nnΓ Tryz.func23 rfl ?_
 ((conv=>whnf);repeat(refine Xg ?_;conv=>whnf))
 repeat ((first | refine setK_iff.2 ?_ | refine ⟨rfl, ?_⟩); ((conv=>whnf);repeat(refine Xg ?_;conv=>whnf)))
 refine h.go ?_ (.cons nn (.cons nn .nil)) (.tup' (.cons (agP _ _ _ _) (.cons nn .nil)))
 ((conv=>whnf);repeat(refine Xg ?_;conv=>whnf))
 repeat ((first | refine setK_iff.2 ?_ | refine ⟨rfl, ?_⟩); ((conv=>whnf);repeat(refine Xg ?_;conv=>whnf)))
 exact fin_pure (agP _ _ _ _) ⟨rfl, rfl, rfl⟩
theorem new_two {n : Nat} {claim low alpha beta : Fr} (hn : n ≤ 2000) (h1 : Sz n claim) (h2 : Sz n low) (h3 : Sz n alpha) (h4 : Sz n beta) : newT claim low alpha beta = (none, 1) ∨ ∃ T, newT claim low alpha beta = (some T, 0) ∧ TF T := by
 by_cases hb : badN claim low alpha beta
 ·exact .inl (new_bad hb)
 ·obtain ⟨S, -, -, -, s4, s5⟩ := new_good hn h1 h2 h3 h4 hb
  by_cases h : 0 ≤ cmpF S oneF
  ·exact .inl (s4 h)
  ·obtain ⟨A, B, C, D, U, V, H, M, hN⟩ := s5 h
   obtain ⟨cA, cB, cC, cD, cU, cV, cH, cM⟩ := hN.ca
   obtain ⟨zA, zB, zC, zD, zU, zV, zH, zM⟩ := hN.sz
   exact .inr ⟨_, hN.is, ⟨sz_fc zH (by omega) cH, sz_fc zM (by omega) cM, sz_fc zU (by omega) cU, sz_fc zV (by omega) cV, oneF_fc, by simp, by simp⟩⟩
theorem Sm.fc {a : Fr} (h : Sm a) : FC a := sz_fc h.sz (by decide) h.can
abbrev rB0 (t : Tst) : AB := .row 47 23 [encTF t]
theorem encTF_nn (t : Tst) : NNs [encTF t] := by
 obtain ⟨hb, hl, hc, hm, -, -, q1⟩ := encF_ex t.hit
 obtain ⟨mb, ml, mc, mm, -, -, q2⟩ := encF_ex t.miss
 obtain ⟨ub, ul, uc, um, -, -, q3⟩ := encF_ex t.upper
 obtain ⟨lb, ll, lc, lm, -, -, q4⟩ := encF_ex t.lower
 obtain ⟨rb, rl, rc, rm, -, -, q5⟩ := encF_ex t.ratio
 rw [encTF_mk q1 q2 q3 q4 q5]
 exact agFT _ _ _ _ _ _ _ _ _ _ _ _ _ _ _ _ _ _ _ _ _ _ _
def newL (l : List Int) : Option Tst × Int := newT (numsT l).1 (numsT l).2.1 (numsT l).2.2.1 (numsT l).2.2.2
def bothQ (l : List Int) (r : AV) (m : Mem) (n : Nat) : Prop := (newL l = (none, 1) ∧ r = .tup [.nptr, .nptr, .bool true] ∧ m = [] ∧ n = 0) ∨
 ∃ T, newL l = (some T, 0) ∧ TF T ∧ r = .tup [.ptr 0 0 0, .ptr 1 0 0, .bool true] ∧ m = [(0, tB0 T), (1, rB0 T)] ∧ n = 2
theorem lBoth (l : List Int) : ACalls Tryz.prog gz 8 [.il 1 (encI l)] [] 0 (bothQ l) := by
 obtain ⟨⟨ha, hb, hc, hd⟩, hN⟩ := fNumbers l
 have hQ : ∀ r m n, ((newL l = (none, 1) ∧ r = .tup [.nptr, .nptr, .bool true] ∧ m = [] ∧ n = 0) ∨ ∃ T, newL l = (some T, 0) ∧ TF T ∧ r = .tup [.ptr 0 0 0, .ptr 1 0 0, .bool true] ∧ m = [(0, tB0 T), (1, rB0 T)] ∧ n = 2) → bothQ l r m n := fun r m n h => h
 have hnl : newL l = newT (numsT l).1 (numsT l).2.1 (numsT l).2.2.1 (numsT l).2.2.2 := rfl
 rw [hnl] at hQ
 clear hnl
 unfold encNum at hN
 generalize (numsT l).1 = a at *
 generalize (numsT l).2.1 = b at *
 generalize (numsT l).2.2.1 = c at *
 generalize (numsT l).2.2.2 = d at *
 have oa := lOf a ha.fc
 have ob := lOf b hb.fc
 have oc := lOf c hc.fc
 have od := lOf d hd.fc
 have hnP := pNew (n := 5) (by decide) a b c d ha.sz hb.sz hc.sz hd.sz ha.can hb.can hc.can hd.can
 have hnF := fNew (n := 5) (by decide) a b c d ha.sz hb.sz hc.sz hd.sz ha.can hb.can hc.can hd.can
 have h2 := new_two (n := 5) (by decide) ha.sz hb.sz hc.sz hd.sz
 obtain ⟨ab, al, ac, am, -, -, qa⟩ := encF_ex a
 obtain ⟨bb, bl, bc, bm, -, -, qb⟩ := encF_ex b
 obtain ⟨cb, cl, cc, cm, -, -, qc⟩ := encF_ex c
 obtain ⟨db, dl, dc, dm, -, -, qd⟩ := encF_ex d
 obtain ⟨eb, el, ec, em, -, -, pa⟩ := encP_ex a
 obtain ⟨fb, fl, fc, fm, -, -, pb⟩ := encP_ex b
 obtain ⟨gb, gl, gc, gm, -, -, pc⟩ := encP_ex c
 obtain ⟨hb', hl', hc', hm', -, -, pd⟩ := encP_ex d
 rw [qa, pa] at oa
 rw [qb, pb] at ob
 rw [qc, pc] at oc
 rw [qd, pd] at od
 rw [pa, pb, pc, pd] at hnP
 rw [qa, qb, qc, qd] at hnF
 rw [qa, qb, qc, qd] at hN
 refine acalls_go nngz Tryz.func8 rfl ?_
 ((conv=>whnf);repeat(refine Xg ?_;conv=>whnf))
 refine hN.goG ?_ (.cons (.il' (encI_nn l)) .nil) (.il' (.cons (agF _ _ _ _) (.cons (agF _ _ _ _) (.cons (agF _ _ _ _) (.cons (agF _ _ _ _) .nil)))))
 ((conv=>whnf);repeat(refine Xg ?_;conv=>whnf))
 repeat ((first | refine setK_iff.2 ?_ | refine ⟨rfl, ?_⟩); ((conv=>whnf);repeat(refine Xg ?_;conv=>whnf)))
 refine PureC.use oa nngz (.cons (agF _ _ _ _) .nil) (agP _ _ _ _) ?_
 ((conv=>whnf);repeat(refine Xg ?_;conv=>whnf))
 repeat ((first | refine setK_iff.2 ?_ | refine ⟨rfl, ?_⟩); ((conv=>whnf);repeat(refine Xg ?_;conv=>whnf)))
 refine PureC.use ob nngz (.cons (agF _ _ _ _) .nil) (agP _ _ _ _) ?_
 ((conv=>whnf);repeat(refine Xg ?_;conv=>whnf))
 repeat ((first | refine setK_iff.2 ?_ | refine ⟨rfl, ?_⟩); ((conv=>whnf);repeat(refine Xg ?_;conv=>whnf)))
 refine PureC.use oc nngz (.cons (agF _ _ _ _) .nil) (agP _ _ _ _) ?_
 ((conv=>whnf);repeat(refine Xg ?_;conv=>whnf))
 repeat ((first | refine setK_iff.2 ?_ | refine ⟨rfl, ?_⟩); ((conv=>whnf);repeat(refine Xg ?_;conv=>whnf)))
 refine PureC.use od nngz (.cons (agF _ _ _ _) .nil) (agP _ _ _ _) ?_
 ((conv=>whnf);repeat(refine Xg ?_;conv=>whnf))
 repeat ((first | refine setK_iff.2 ?_ | refine ⟨rfl, ?_⟩); ((conv=>whnf);repeat(refine Xg ?_;conv=>whnf)))
 rcases h2 with hnone | ⟨T, hT, hTF⟩
 ·rw [hnone] at hnP hnF
  have eP : PureC Tryz.prog [] 20 [.agg [.bool eb, .il 1 (encU el), .bool ec, .il 1 (encU em)], .agg [.bool fb, .il 1 (encU fl), .bool fc, .il 1 (encU fm)], .agg [.bool gb, .il 1 (encU gl), .bool gc, .il 1 (encU gm)], .agg [.bool hb', .il 1 (encU hl'), .bool hc', .il 1 (encU hm')]] (.tup [.nptr, .int .i64 1]) := hnP
  have eF : PureC Tryz.prog [] 22 [.agg [.bool ab, .il 1 (encD al), .bool ac, .il 1 (encD am)], .agg [.bool bb, .il 1 (encD bl), .bool bc, .il 1 (encD bm)], .agg [.bool cb, .il 1 (encD cl), .bool cc, .il 1 (encD cm)], .agg [.bool db, .il 1 (encD dl), .bool dc, .il 1 (encD dm)]] (.tup [.nptr, .int .i64 1]) := hnF
  refine eP.goG ?_ (.cons (agP _ _ _ _) (.cons (agP _ _ _ _) (.cons (agP _ _ _ _) (.cons (agP _ _ _ _) .nil)))) nn
  ((conv=>whnf);repeat(refine Xg ?_;conv=>whnf))
  repeat ((first | refine setK_iff.2 ?_ | refine ⟨rfl, ?_⟩); ((conv=>whnf);repeat(refine Xg ?_;conv=>whnf)))
  refine eF.goG ?_ (.cons (agF _ _ _ _) (.cons (agF _ _ _ _) (.cons (agF _ _ _ _) (.cons (agF _ _ _ _) .nil)))) nn
  ((conv=>whnf);repeat(refine Xg ?_;conv=>whnf))
  repeat ((first | refine setK_iff.2 ?_ | refine ⟨rfl, ?_⟩); ((conv=>whnf);repeat(refine Xg ?_;conv=>whnf)))
  exact fin_pure (.tup' (.cons .nptr (.cons .nptr (.cons (tBo _) .nil)))) (hQ _ _ _ (.inl ⟨hnone, rfl, rfl, rfl⟩))
 ·rw [hT] at hnP hnF
  have eP : ACalls Tryz.prog gz 20 [.agg [.bool eb, .il 1 (encU el), .bool ec, .il 1 (encU em)], .agg [.bool fb, .il 1 (encU fl), .bool fc, .il 1 (encU fm)], .agg [.bool gb, .il 1 (encU gl), .bool gc, .il 1 (encU gm)], .agg [.bool hb', .il 1 (encU hl'), .bool hc', .il 1 (encU hm')]] [] 0 (fun r m n => r = .tup [.ptr 0 0 0, .int .i64 0] ∧ m = [(0, tB0 T)] ∧ n = 1) := ACalls.glob hnP
  have eF : ACalls Tryz.prog gz 22 [.agg [.bool ab, .il 1 (encD al), .bool ac, .il 1 (encD am)], .agg [.bool bb, .il 1 (encD bl), .bool bc, .il 1 (encD bm)], .agg [.bool cb, .il 1 (encD cl), .bool cc, .il 1 (encD cm)], .agg [.bool db, .il 1 (encD dl), .bool dc, .il 1 (encD dm)]] [] 0 (fun r m n => r = .tup [.ptr 0 0 0, .int .i64 0] ∧ m = [(0, rB0 T)] ∧ n = 1) := ACalls.glob hnF
  refine ACalls.useP (r1 := .tup [.ptr 22 0 0, .int .i64 0]) nngz eP (.cons (agP _ _ _ _) (.cons (agP _ _ _ _) (.cons (agP _ _ _ _) (.cons (agP _ _ _ _) .nil)))) (encTP_nn T) (.tup' (.cons (.ptr 0 22 0 0 rfl) (.cons (.same _ nn) .nil))) ?_
  ((conv=>whnf);repeat(refine Xg ?_;conv=>whnf))
  repeat ((first | refine setK_iff.2 ?_ | refine ⟨rfl, ?_⟩); ((conv=>whnf);repeat(refine Xg ?_;conv=>whnf)))
  refine ACalls.useP (r1 := .tup [.ptr 41 0 0, .int .i64 0]) nngz eF (.cons (agF _ _ _ _) (.cons (agF _ _ _ _) (.cons (agF _ _ _ _) (.cons (agF _ _ _ _) .nil)))) (encTF_nn T) (.tup' (.cons (.ptr 0 41 0 0 rfl) (.cons (.same _ nn) .nil))) ?_
  ((conv=>whnf);repeat(refine Xg ?_;conv=>whnf))
  repeat ((first | refine setK_iff.2 ?_ | refine ⟨rfl, ?_⟩); ((conv=>whnf);repeat(refine Xg ?_;conv=>whnf)))
  exact fin_mk (r' := .tup [.ptr 0 0 0, .ptr 1 0 0, .bool true]) (m' := [(0, tB0 T), (1, rB0 T)]) (n' := 2) [(22, 0), (41, 1)] rfl ⟨⟨22, _, rfl, rfl, .same (encTP_nn T)⟩, ⟨41, _, rfl, rfl, .same (encTF_nn T)⟩, trivial⟩ (.tup' (.cons (.ptr 22 0 0 0 rfl) (.cons (.ptr 41 1 0 0 rfl) (.cons (.same _ (tBo _)) .nil)))) (hQ _ _ _ (.inr ⟨T, hT, hTF, rfl, rfl, rfl⟩))
set_option maxHeartbeats 4000000
def adr : Bool → AV
 | true => .ptr 0 0 0
 | false => .nptr
abbrev bC (a : AV) (id n : Nat) : AB := .row 121 2 [.agg [a, .sl id 0 n]]
abbrev bM (a : Bool) (s : List UInt8) : Mem := [(0, bC (adr a) 1 s.length), (1, .row 5 1 (encB s))]
def bN (s : List UInt8) (m : Mem) (n : Nat) : Prop := m = [(0, bC (.ptr 0 0 0) 2 s.length), (2, .row 5 1 (encB s))] ∧ n = 3
theorem bC_cv {mem : Mem} {σ : List (Nat × Nat)} {a : Bool} {i j n : Nat} (h0 : lk σ 0 = some 0) (h1 : lk σ i = some j) : CvR mem σ [.agg [adr a, .sl i 0 n]] [.agg [adr a, .sl j 0 n]] :=
 .cons (.agg (.cons (by cases a; exact .same _ nn; exact .ptr 0 0 0 0 h0) (.cons (.sl i j 0 n h1) .nil))) .nil
theorem bCheck (a : Bool) (s : List UInt8) : ACalls Tryz.prog [] 99 [.ptr 0 0 0] (bM a s) 2 fun r m n => r = .tup [] ∧ m = bM true s ∧ n = 2 := by
 refine acalls_go nnΓ Tryz.func99 rfl ?_
 cases a with
 | false =>
  ((conv=>whnf);repeat(refine Xg ?_;conv=>whnf))
  exact fin_mk (r' := .tup []) (m' := bM true s) (n' := 2) [(0, 0), (1, 1)] rfl ⟨⟨0, _, rfl, rfl, bC_cv (a := true) rfl rfl⟩, ⟨1, _, rfl, rfl, .same (encB_nn _)⟩, trivial⟩ (.same _ nn) ⟨rfl, rfl, rfl⟩
 | true =>
  ((conv=>whnf);repeat(refine Xg ?_;conv=>whnf))
  exact fin_mk (r' := .tup []) (m' := bM true s) (n' := 2) [(0, 0), (1, 1)] rfl ⟨⟨0, _, rfl, rfl, bC_cv (a := true) rfl rfl⟩, ⟨1, _, rfl, rfl, .same (encB_nn _)⟩, trivial⟩ (.same _ nn) ⟨rfl, rfl, rfl⟩
theorem bString (a : Bool) (s w : List UInt8) (hs : s.length + w.length ≤ 100000000) : ACalls Tryz.prog [] 73 [.ptr 0 0 0, .str w] (bM a s) 2 fun r m n => r = .tup [.int .i64 w.length, .nif] ∧ bN (s ++ w) m n := by
 refine acalls_go nnΓ Tryz.func73 rfl ?_
 ((conv=>whnf);repeat(refine Xg ?_;conv=>whnf))
 refine ACalls.useI nnΓ [0, 1] (bCheck a s) rfl (.cons (.ptr 0 0 0 0 rfl) .nil) ⟨⟨0, _, rfl, rfl, bC_cv rfl rfl⟩, ⟨1, _, rfl, rfl, .same (encB_nn _)⟩, trivial⟩ rfl ?_
 rintro r m n ⟨rfl, rfl, rfl⟩
 refine ⟨nn, ⟨⟨0, _, rfl, rfl, bC_cv (a := true) rfl rfl⟩, ⟨1, _, rfl, rfl, .same (encB_nn _)⟩, trivial⟩, rfl, ?_⟩
 ((conv=>whnf);repeat(refine Xg ?_;conv=>whnf))
 have e : List.map (fun b : UInt8 => AV.int IntKind.u8 (b.toNat : Int)) w = encB w := rfl
 rw [e]
 refine grd_mk (app_ok rfl rfl (encB_length _).symm (by rw [encB_length]; omega)) ?_
 ((conv=>whnf);repeat(refine Xg ?_;conv=>whnf))
 exact fin_mk (r' := .tup [.int .i64 w.length, .nif]) (m' := [(0, bC (.ptr 0 0 0) 2 (s ++ w).length), (2, .row 5 1 (encB (s ++ w)))]) (n' := 3) [(0, 0), (2, 2)] rfl
  ⟨⟨0, _, rfl, rfl, .cons (.agg (.cons (.ptr 0 0 0 0 rfl) (.cons (.slE rfl (by rw [encB_length, List.length_append])) .nil))) .nil⟩, ⟨2, _, rfl, rfl, .eq (encB_nn _) (encB_append _ _).symm⟩, trivial⟩ (.same _ nn) ⟨rfl, rfl, rfl⟩
theorem bByte (a : Bool) (s : List UInt8) (c : UInt8) (hs : s.length ≤ 100000000) : ACalls Tryz.prog [] 72 [.ptr 0 0 0, .int .u8 c.toNat] (bM a s) 2 fun r m n => r = .nif ∧ bN (s ++ [c]) m n := by
 refine acalls_go nnΓ Tryz.func72 rfl ?_
 ((conv=>whnf);repeat(refine Xg ?_;conv=>whnf))
 refine ACalls.useI nnΓ [0, 1] (bCheck a s) rfl (.cons (.ptr 0 0 0 0 rfl) .nil) ⟨⟨0, _, rfl, rfl, bC_cv rfl rfl⟩, ⟨1, _, rfl, rfl, .same (encB_nn _)⟩, trivial⟩ rfl ?_
 rintro r m n ⟨rfl, rfl, rfl⟩
 refine ⟨nn, ⟨⟨0, _, rfl, rfl, bC_cv (a := true) rfl rfl⟩, ⟨1, _, rfl, rfl, .same (encB_nn _)⟩, trivial⟩, rfl, ?_⟩
 ((conv=>whnf);repeat(refine Xg ?_;conv=>whnf))
 refine grd_mk (app_ok rfl rfl (encB_length _).symm (by simp; omega)) ?_
 ((conv=>whnf);repeat(refine Xg ?_;conv=>whnf))
 exact fin_mk (r' := .nif) (m' := [(0, bC (.ptr 0 0 0) 2 (s ++ [c]).length), (2, .row 5 1 (encB (s ++ [c])))]) (n' := 3) [(0, 0), (3, 2)] rfl
  ⟨⟨0, _, rfl, rfl, .cons (.agg (.cons (.ptr 0 0 0 0 rfl) (.cons (.slE rfl (by simp)) .nil))) .nil⟩, ⟨3, _, rfl, rfl, .eq (encB_nn _) (by rw [encB_append]; rfl)⟩, trivial⟩ (.same _ nn) ⟨rfl, rfl, rfl⟩
theorem uStr (a : AB) (c : UInt8) (w : List UInt8) (hl : w.length ≤ 9000000000000) : aUString Tryz.prog [(0, a), (1, .row 5 1 (encB (c :: w)))] 148 (.ptr 1 0 0) (.int .i64 (((c :: w).length : Nat) : Int)) = some (.str (c :: w), [(0, a)]) := by
 have e1 : (((c :: w).length : Nat) : Int) = Int.ofNat (w.length + 1) := rfl
 have hb : bytesIn (List.take (w.length + 1) (encB (c :: w))) = some (c :: w) := by rw [encB_take, bytesIn_encB, List.take_of_length_le (by simp)]
 have hce : Tryz.prog.cellsOf 5 = 1 := by kernel_rfl
 have hbl : Nat.ble (w.length + 1) 9223372036854775807 = true := Nat.ble_eq_true_of_le (by omega)
 have hq : Nat.beq (c :: w).length (w.length + 1) = true := by simp
 rw [e1]
 simp only [aUString, lk, Tryz.underlying148, hce, hbl, hb, hq, drop]
 rfl
theorem bText (s : List UInt8) (hs : s ≠ []) (hl : s.length ≤ 1000000000) : ACalls Tryz.prog [] 74 [.ptr 0 0 0] (bM true s) 2 fun r m n => r = .str s ∧ m = [] ∧ n = 2 := by
 refine acalls_go nnΓ Tryz.func74 rfl ?_
 obtain ⟨c, w, rfl⟩ : ∃ c w, s = c :: w := by
  cases s with
  | nil => exact absurd rfl hs
  | cons c w => exact ⟨c, w, rfl⟩
 ((conv=>whnf);repeat(refine Xg ?_;conv=>whnf))
 repeat (refine ⟨rfl, ?_⟩; ((conv=>whnf);repeat(refine Xg ?_;conv=>whnf)))
 rw [uStr _ c w (by simp at hl; omega)]
 ((conv=>whnf);repeat(refine Xg ?_;conv=>whnf))
 exact fin_mk (r' := .str (c :: w)) (m' := []) (n' := 2) [] rfl trivial (.same _ nn) ⟨rfl, rfl, rfl⟩
set_option maxHeartbeats 16000000
set_option linter.unusedSimpArgs false
def saysS (s : List UInt8) (r : AV) : Prop := match r with
 | .str t => (match t == s with | true => True | false => False)
 | _ => False
theorem saysS_eq {s : List UInt8} {r : AV} (h : saysS s r) : r = .str s := by
 unfold saysS at h
 split at h
 ·split at h
  ·rename_i e; rw [eq_of_beq e]
  ·exact h.elim
 ·exact h.elim
theorem rep0 : ((fdeep Tryz.prog [] 20).call 71 [.str [48], .int .i64 0] [] 0 fun r _ _ => saysS (List.replicate 0 48) r) = True := by kernel_rfl
theorem rep1 : ((fdeep Tryz.prog [] 20).call 71 [.str [48], .int .i64 1] [] 0 fun r _ _ => saysS (List.replicate 1 48) r) = True := by kernel_rfl
theorem rep2 : ((fdeep Tryz.prog [] 20).call 71 [.str [48], .int .i64 2] [] 0 fun r _ _ => saysS (List.replicate 2 48) r) = True := by kernel_rfl
theorem rep3 : ((fdeep Tryz.prog [] 20).call 71 [.str [48], .int .i64 3] [] 0 fun r _ _ => saysS (List.replicate 3 48) r) = True := by kernel_rfl
theorem rep4 : ((fdeep Tryz.prog [] 20).call 71 [.str [48], .int .i64 4] [] 0 fun r _ _ => saysS (List.replicate 4 48) r) = True := by kernel_rfl
theorem rep5 : ((fdeep Tryz.prog [] 20).call 71 [.str [48], .int .i64 5] [] 0 fun r _ _ => saysS (List.replicate 5 48) r) = True := by kernel_rfl
theorem rep6 : ((fdeep Tryz.prog [] 20).call 71 [.str [48], .int .i64 6] [] 0 fun r _ _ => saysS (List.replicate 6 48) r) = True := by kernel_rfl
theorem rep7 : ((fdeep Tryz.prog [] 20).call 71 [.str [48], .int .i64 7] [] 0 fun r _ _ => saysS (List.replicate 7 48) r) = True := by kernel_rfl
theorem rep8 : ((fdeep Tryz.prog [] 20).call 71 [.str [48], .int .i64 8] [] 0 fun r _ _ => saysS (List.replicate 8 48) r) = True := by kernel_rfl
theorem rep_of {k : Int} {s : List UInt8} (h : (fdeep Tryz.prog [] 20).call 71 [.str [48], .int .i64 k] [] 0 fun r _ _ => saysS s r) : PureC Tryz.prog [] 71 [.str [48], .int .i64 k] (.str s) :=
 ACalls.call0 nnΓ (acalls_closed 20 h) (.cons nn (.cons nn .nil)) fun r m n hr => ⟨.str s, by rw [saysS_eq hr]; exact .same _ nn, rfl, rfl, rfl⟩
theorem sRepeat (k : Nat) (hk : k ≤ 8) : PureC Tryz.prog [] 71 [.str [48], .int .i64 k] (.str (List.replicate k 48)) := by
 rcases (show k = 0 ∨ k = 1 ∨ k = 2 ∨ k = 3 ∨ k = 4 ∨ k = 5 ∨ k = 6 ∨ k = 7 ∨ k = 8 by omega) with rfl | rfl | rfl | rfl | rfl | rfl | rfl | rfl | rfl
 ·exact rep_of (k := 0) (s := List.replicate 0 48) (by rw [rep0]; trivial)
 ·exact rep_of (k := 1) (s := List.replicate 1 48) (by rw [rep1]; trivial)
 ·exact rep_of (k := 2) (s := List.replicate 2 48) (by rw [rep2]; trivial)
 ·exact rep_of (k := 3) (s := List.replicate 3 48) (by rw [rep3]; trivial)
 ·exact rep_of (k := 4) (s := List.replicate 4 48) (by rw [rep4]; trivial)
 ·exact rep_of (k := 5) (s := List.replicate 5 48) (by rw [rep5]; trivial)
 ·exact rep_of (k := 6) (s := List.replicate 6 48) (by rw [rep6]; trivial)
 ·exact rep_of (k := 7) (s := List.replicate 7 48) (by rw [rep7]; trivial)
 ·exact rep_of (k := 8) (s := List.replicate 8 48) (by rw [rep8]; trivial)
theorem dec_itoa (n : Nat) : Lib.itoa (n : Int) = Lib.decDigits n := Lib.itoa_nonneg n
theorem encS_snoc (l : List (List UInt8)) (x : List UInt8) : encS (l ++ [x]) = encS l ++ [.str x] := by simp [encS]
theorem flat_step {P : List (List UInt8)} {i : Nat} {x : List UInt8} (h : P[i]? = some x) : (P.drop i).reverse.flatten = (P.drop (i + 1)).reverse.flatten ++ x := by
 obtain ⟨h1, h2⟩ := List.getElem?_eq_some_iff.1 h
 rw [List.drop_eq_getElem_cons h1, h2, List.reverse_cons, List.flatten_append]
 simp
theorem flat_len : ∀ {P : List (List UInt8)}, (∀ t ∈ P, t.length ≤ 9) → P.reverse.flatten.length ≤ 9 * P.length
 | [], _ => by simp
 | a :: r, h => by
  have h1 := flat_len (P := r) fun t ht => h t (by simp [ht])
  have h2 := h a (by simp)
  rw [List.reverse_cons, List.flatten_append, List.length_append, List.length_cons]
  simp at h1 ⊢
  omega
def adr1 : Bool → AV
 | true => .ptr 1 0 0
 | false => .nptr
theorem bB_cv {mem : Mem} {σ : List (Nat × Nat)} {a : Bool} {n : Nat} (h0 : lk σ 1 = some 0) (h1 : lk σ 2 = some 1) : CvR mem σ [.agg [adr1 a, .sl 2 0 n]] [.agg [adr a, .sl 1 0 n]] :=
 .cons (.agg (.cons (by cases a; exact .same _ nn; exact .ptr 1 0 0 0 h0) (.cons (.sl 2 1 0 n h1) .nil))) .nil
theorem wString (z : Int) (hz : (dg 4294967296 z.natAbs).length ≤ 100000) : PureC Tryz.prog gz 38 [encW z] (.str (decZ z)) := by
 have hB : (2 : Nat) ≤ 4294967296 := by decide
 have hdz := decZ_eq z
 have hbz : (if z < 0 then 45 :: Lib.decDigits z.natAbs else Lib.decDigits z.natAbs) = (if decide (z < 0) = true then 45 :: Lib.decDigits z.natAbs else Lib.decDigits z.natAbs) := by simp
 rw [hbz] at hdz
 rw [hdz, encW_eq z]
 have hz0 : z = 0 ∨ 0 < z.natAbs := by omega
 have hpt := fun h : 0 < z.natAbs => partsS_text (z.natAbs + 1) z.natAbs (Nat.lt_succ_self _) h
 have hpl := partsS_len (z.natAbs + 1) z.natAbs (Nat.lt_succ_self _)
 have hpc := partsS_count (z.natAbs + 1) z.natAbs (2 * (dg 4294967296 z.natAbs).length) (Nat.lt_succ_self _) (by
  have h1 := dg_lt_pow (n := z.natAbs) hB
  refine Nat.lt_of_lt_of_le h1 ?_
  rw [Nat.pow_mul]
  exact Nat.pow_le_pow_left (by decide) _)
 have hbf : z = 0 → decide (z < 0) = false := fun h => by rw [h]; rfl
 generalize hbz' : decide (z < 0) = bz at *
 generalize hN : z.natAbs = N at *
 have hlz := dg_len_zero (B := 4294967296) (n := N) hB
 refine acalls_go nngz Tryz.func38 rfl ?_
 by_cases h0 : N = 0
 ·have hb := hbf (by omega)
  rw [hb, h0, dg_zero]
  ((conv=>whnf);repeat(refine Xg ?_;conv=>whnf))
  repeat ((first | refine setK_iff.2 ?_ | refine ⟨rfl, ?_⟩); ((conv=>whnf);repeat(refine Xg ?_;conv=>whnf)))
  exact fin_pure nn ⟨by rw [if_neg (by simp), Lib.decDigits_one (by omega)]; rfl, rfl, rfl⟩
 ·have hN0 : 0 < N := by omega
  have hpt := hpt hN0
  have hla0 : 0 < (dg 4294967296 N).length := (decide_eq_decide.1 hlz).2 hN0
  have e1 : (((dg 4294967296 N).length : Int) == 0) = false := by simp; intro h; rw [h] at hla0; simp at hla0
  ((conv=>whnf);repeat(refine Xg ?_;conv=>whnf))
  rw [encU_length, e1]
  ((conv=>whnf);repeat(refine Xg ?_;conv=>whnf))
  rw [encU_length]
  refine grd_mk (mk_ok rfl rfl rfl (by omega) rfl) ?_
  ((conv=>whnf);repeat(refine Xg ?_;conv=>whnf))
  refine grd_mk (cp_ok rfl rfl (by rw [encU_length, Int.toNat_natCast]; omega) (by rw [List.length_replicate]; omega)) ?_
  ((conv=>whnf);repeat(refine Xg ?_;conv=>whnf))
  refine ALoop.ph 9 1 ?_
  refine ALoop.at nngz (fun p : Nat × List (List UInt8) => p.1 ≤ N ∧ p.2 ++ partsS p.1 = partsS N)
   (fun p => ⟨[(1, .ptr 0 0 0), (3, .il 1 (encU (dg 4294967296 p.1))), (4, .sl 1 0 p.2.length)], [(0, .row 37 2 [.agg [.bool bz, .il 1 (encU (dg 4294967296 N))]]), (1, .row 9 1 (encS p.2))], 2, 63⟩)
   (fun p => p.1) (N, []) [(0, 0), (2, 1)] ⟨Nat.le_refl _, rfl⟩
   (conv_mk _ rfl ⟨⟨0, _, rfl, rfl, .same (.cons (agW _ _) .nil)⟩, ⟨2, _, rfl, rfl, .nil⟩, trivial⟩
    ⟨⟨_, rfl, .ptr 0 0 0 0 rfl⟩, ⟨_, rfl, .fz' (id := 1) (off := 0) (ys := encU (dg 4294967296 N)) rfl rfl (by simp [encU_length]) (by
     rw [List.drop_zero, List.take_of_length_le (by simp [encU_length])]; simp [encU_length]) (encU_nn _)⟩, ⟨_, rfl, .nslk 2 1 _ rfl rfl⟩, trivial⟩) ?_
  rintro ⟨n, P⟩ ⟨h1, h2⟩
  simp only at h1 h2 ⊢
  have hPl : P.length ≤ 2 * (dg 4294967296 N).length := by
   have := congrArg List.length h2
   rw [List.length_append] at this
   omega
  have hdl := dg_len_mono hB h1
  have hln := dg_len_zero (B := 4294967296) (n := n) hB
  have hlz : decide (((encU (dg 4294967296 n)).length : Int) > 0) = decide (0 < n) := by rw [encU_length, ← hln, decide_eq_decide]; omega
  by_cases hn : 0 < n
  ·have hdw := wDivWord n 1000000000 (by omega) (by decide) (by decide)
   have htr := wTrim (pre0 (dg 4294967296 (n / 1000000000)) (dg 4294967296 n).length) (by rw [pre0_length (dgl_div hB _ _)]; omega)
   rw [trimZ_pre0] at htr
   have hmd : n % 1000000000 < 1000000000 := Nat.mod_lt _ (by decide)
   have hit := sItoa ((n % 1000000000 : Nat) : Int) ⟨by omega, by omega⟩
   rw [dec_itoa] at hit
   have hdl9 := decD_len 9 (n % 1000000000) (by omega) (by decide)
   have hdp : 0 < (Lib.decDigits (n % 1000000000)).length := by
    rcases Nat.eq_zero_or_pos (Lib.decDigits (n % 1000000000)).length with h | h
    ·exact absurd (List.eq_nil_of_length_eq_zero h) (dec_ne _)
    ·exact h
   have hpad := padD_eq 9 (n % 1000000000) (by omega) (by decide)
   have hps := partsS_pos hn
   have hq := dg_len_zero (B := 4294967296) (n := n / 1000000000) hB
   have hlq : decide (((encU (dg 4294967296 (n / 1000000000))).length : Int) > 0) = decide (0 < n / 1000000000) := by rw [encU_length, ← hq, decide_eq_decide]; omega
   have hw : IntKind.i64.wrap ((n % 1000000000 : Nat) : Int) = ((n % 1000000000 : Nat) : Int) := wrap64 ⟨by omega, by omega⟩
   generalize pre0 (dg 4294967296 (n / 1000000000)) (dg 4294967296 n).length = pq at *
   ((conv=>whnf);repeat(refine Xg ?_;conv=>whnf))
   rw [hlz, decide_eq_true hn]
   ((conv=>whnf);repeat(refine Xg ?_;conv=>whnf))
   refine hdw.goG ?_ (.cons (tU _) (.cons nn .nil)) (.tup' (.cons (tU _) (.cons nn .nil)))
   ((conv=>whnf);repeat(refine Xg ?_;conv=>whnf))
   refine htr.goG ?_ (.cons (tU _) .nil) (tU _)
   ((conv=>whnf);repeat(refine Xg ?_;conv=>whnf))
   rw [hw]
   refine PureC.use hit nngz (.cons nn .nil) nn ?_
   ((conv=>whnf);repeat(refine Xg ?_;conv=>whnf))
   rw [hlq]
   by_cases hq0 : 0 < n / 1000000000
   ·rw [decide_eq_true hq0]
    rw [if_neg (by omega)] at hps
    have hrep := sRepeat (9 - (Lib.decDigits (n % 1000000000)).length) (by omega)
    have hw9 : IntKind.i64.wrap (9 - ((Lib.decDigits (n % 1000000000)).length : Int)) = ((9 - (Lib.decDigits (n % 1000000000)).length : Nat) : Int) := by rw [wrap64 ⟨by omega, by omega⟩]; omega
    ((conv=>whnf);repeat(refine Xg ?_;conv=>whnf))
    rw [hw9]
    refine hrep.goG ?_ (.cons nn (.cons nn .nil)) nn
    ((conv=>whnf);repeat(refine Xg ?_;conv=>whnf))
    generalize Lib.decDigits (n % 1000000000) = tx at *
    refine grd_mk (Nat.ble_eq_true_of_le (by simp; omega)) ?_
    ((conv=>whnf);repeat(refine Xg ?_;conv=>whnf))
    refine grd_mk (app_ok rfl rfl (by rw [encS_length]) (by simp; omega)) ?_
    ((conv=>whnf);repeat(refine Xg ?_;conv=>whnf))
    exact .mk (n / 1000000000, P ++ [padD 9 (n % 1000000000)]) [(0, 0), (3, 1)] ⟨by simp only; omega, by simp only; rw [← h2, hps]; simp⟩
     (conv_mk _ rfl ⟨⟨0, _, rfl, rfl, .same (.cons (agW _ _) .nil)⟩, ⟨3, _, rfl, rfl, .eq (encS_nn _) (by rw [encS_snoc, hpad]; rfl)⟩, trivial⟩
      ⟨⟨_, rfl, .ptr 0 0 0 0 rfl⟩, ⟨_, rfl, .same _ (tU _)⟩, ⟨_, rfl, .slE rfl (by simp [encS_length])⟩, trivial⟩) (by simp only; omega)
   ·rw [decide_eq_false hq0]
    rw [if_pos (by omega)] at hps
    have hnm : n % 1000000000 = n := by omega
    rw [hnm]
    rw [hnm] at hdl9
    generalize Lib.decDigits n = tx at *
    ((conv=>whnf);repeat(refine Xg ?_;conv=>whnf))
    refine grd_mk (app_ok rfl rfl (by rw [encS_length]) (by simp; omega)) ?_
    ((conv=>whnf);repeat(refine Xg ?_;conv=>whnf))
    exact .mk (n / 1000000000, P ++ [tx]) [(0, 0), (3, 1)] ⟨by simp only; omega, by simp only; rw [← h2, hps]; simp⟩
     (conv_mk _ rfl ⟨⟨0, _, rfl, rfl, .same (.cons (agW _ _) .nil)⟩, ⟨3, _, rfl, rfl, .eq (encS_nn _) (by rw [encS_snoc]; rfl)⟩, trivial⟩
      ⟨⟨_, rfl, .ptr 0 0 0 0 rfl⟩, ⟨_, rfl, .same _ (tU _)⟩, ⟨_, rfl, .slE rfl (by simp [encS_length])⟩, trivial⟩) (by simp only; omega)
  ·have hn0 : n = 0 := by omega
   subst hn0
   rw [partsS_zero, List.append_nil] at h2
   subst h2
   have hd0' : decide (0 < 0) = false := rfl
   cases bz with
   | false =>
    ((conv=>whnf);repeat(refine Xg ?_;conv=>whnf))
    rw [hlz, decide_eq_false hn]
    ((conv=>whnf);repeat(refine Xg ?_;conv=>whnf))
    refine ALoop.ph 5 1 ?_
    refine ALoop.at nngz (fun p : Nat × Bool => p.1 ≤ (partsS N).length ∧ (p.2 = true ∨ (p.1 = (partsS N).length ∧ True)))
     (fun p => ⟨[(4, .sl 0 0 (partsS N).length), (7, .ptr 1 0 0), (8, .int .i64 ((p.1 : Int) - 1))], [(0, .row 9 1 (encS (partsS N))), (1, .row 121 2 [.agg [adr1 p.2, .sl 2 0 ([] ++ ((partsS N).drop p.1).reverse.flatten).length]]), (2, .row 5 1 (encB ([] ++ ((partsS N).drop p.1).reverse.flatten)))], 3, 63⟩)
     (fun p => p.1) ((partsS N).length, false) [(1, 0), (2, 1), (3, 2)] ⟨Nat.le_refl _, .inr ⟨rfl, trivial⟩⟩
     (conv_mk _ rfl ⟨⟨1, _, rfl, rfl, .same (encS_nn _)⟩, ⟨2, _, rfl, rfl, by rw [List.drop_length]; exact .cons (.agg (.cons (.same _ nn) (.cons (.nslk 3 2 _ rfl rfl) .nil))) .nil⟩, ⟨3, _, rfl, rfl, by rw [List.drop_length]; exact CvR.nil⟩, trivial⟩
      ⟨⟨_, rfl, .slE rfl rfl⟩, ⟨_, rfl, .ptr 2 1 0 0 rfl⟩, ⟨_, rfl, .w64 (by simp only) ⟨by simp only; omega, by simp only; omega⟩⟩, trivial⟩) ?_
    rintro ⟨k, a⟩ ⟨k1, k2⟩
    simp only at k1 k2 ⊢
    have hfl := flat_len (P := (partsS N).drop k) fun t ht => hpl t (List.mem_of_mem_drop ht)
    rw [List.length_drop] at hfl
    ((conv=>whnf);repeat(refine Xg ?_;conv=>whnf))
    refine bcs_mk (fun hb => ?_) (fun hb => ?_)
    ·have hk0 : 0 < k := by simp at hb; omega
     obtain ⟨i, rfl⟩ : ∃ i, k = i + 1 := ⟨k - 1, by omega⟩
     rw [show (((i + 1 : Nat) : Int) - 1) = (i : Int) by omega]
     obtain ⟨x, hx⟩ : ∃ x, (partsS N)[i]? = some x := ⟨_, List.getElem?_eq_getElem (by omega)⟩
     have hx9 := hpl x (List.mem_of_getElem? hx)
     have gx : (encS (partsS N))[0 + ((i : Nat) : Int).toNat]? = some (.str x) := by rw [Nat.zero_add, Int.toNat_natCast, encS_get, hx]; rfl
     have hfs := flat_step hx
     have bi := blt_i (i := i) (n := (partsS N).length) (by omega)
     have hws := fun s (h : s.length ≤ 10000000) => bString a s x (by omega)
     have hws := hws ([] ++ ((partsS N).drop (i + 1)).reverse.flatten) (by rw [List.length_append]; simp only [List.length_nil, List.length_cons]; omega)
     rw [List.append_assoc, ← hfs] at hws
     ((conv=>whnf);repeat(refine Xg ?_;conv=>whnf))
     repeat ((first | refine grd_mk bi ?_ | refine opt_mk gx ?_ | refine setK_iff.2 ?_ | refine ⟨rfl, ?_⟩); ((conv=>whnf);repeat(refine Xg ?_;conv=>whnf)))
     refine ACalls.useN nngz [(1, 0), (2, 1)] hws.glob rfl (.cons (.ptr 1 0 0 0 rfl) (.same (.cons nn .nil))) ⟨⟨1, _, rfl, rfl, bB_cv rfl rfl⟩, ⟨2, _, rfl, rfl, .same (encB_nn _)⟩, trivial⟩ rfl ?_
     rintro r m n ⟨rfl, rfl, rfl⟩
     refine ⟨[(0, 1), (2, 3)], _, [(1, .row 121 2 [.agg [.ptr 1 0 0, .sl 3 0 ([] ++ ((partsS N).drop i).reverse.flatten).length]]), (3, .row 5 1 (encB ([] ++ ((partsS N).drop i).reverse.flatten)))], 4, .same _ (.tup' (.cons nn (.cons nn .nil))), ⟨⟨0, _, rfl, rfl, .cons (.agg (.cons (.ptr 0 1 0 0 rfl) (.cons (.sl 2 3 0 _ rfl) .nil))) .nil⟩, ⟨2, _, rfl, rfl, .same (encB_nn _)⟩, trivial⟩, rfl, ?_⟩
     ((conv=>whnf);repeat(refine Xg ?_;conv=>whnf))
     exact .mk (i, true) [(0, 0), (1, 1), (3, 2)] ⟨by simp only; omega, .inl rfl⟩
      (conv_mk _ rfl ⟨⟨0, _, rfl, rfl, .same (encS_nn _)⟩, ⟨1, _, rfl, rfl, .cons (.agg (.cons (.ptr 1 1 0 0 rfl) (.cons (.sl 3 2 0 _ rfl) .nil))) .nil⟩, ⟨3, _, rfl, rfl, .same (encB_nn _)⟩, trivial⟩
       ⟨⟨_, rfl, .slE rfl rfl⟩, ⟨_, rfl, .ptr 1 1 0 0 rfl⟩, ⟨_, rfl, .w64 rfl ⟨by simp only; omega, by simp only; omega⟩⟩, trivial⟩) (by simp only; omega)
    ·have hk0 : k = 0 := by simp at hb; omega
     subst hk0
     have hPpos : 0 < (partsS N).length := by rw [partsS_pos hN0]; simp
     have ha : a = true := by rcases k2 with h | ⟨h, -⟩; exact h; omega
     subst ha
     have hd0 : [] ++ ((partsS N).drop 0).reverse.flatten = [] ++ Lib.decDigits N := by rw [List.drop_zero, hpt]
     have hbt := bText ([] ++ Lib.decDigits N) (by simp [dec_ne]) (by rw [← hd0, List.length_append]; simp only [List.length_nil, List.length_cons]; omega)
     rw [hd0]
     ((conv=>whnf);repeat(refine Xg ?_;conv=>whnf))
     refine ACalls.useN nngz [(1, 0), (2, 1)] hbt.glob rfl (.cons (.ptr 1 0 0 0 rfl) .nil) ⟨⟨1, _, rfl, rfl, bB_cv (a := true) rfl rfl⟩, ⟨2, _, rfl, rfl, .same (encB_nn _)⟩, trivial⟩ rfl ?_
     rintro r m n ⟨rfl, rfl, rfl⟩
     refine ⟨[], _, [], 3, .same _ nn, trivial, rfl, ?_⟩
     ((conv=>whnf);repeat(refine Xg ?_;conv=>whnf))
     exact fin_pure nn ⟨rfl, rfl, rfl⟩
   | true =>
    have hwb := bByte false [] 45 (by simp)
    ((conv=>whnf);repeat(refine Xg ?_;conv=>whnf))
    rw [hlz, decide_eq_false hn]
    ((conv=>whnf);repeat(refine Xg ?_;conv=>whnf))
    refine ACalls.ph 5 1 ?_
    refine ACalls.useN nngz [(2, 0), (3, 1)] hwb.glob rfl (.cons (.ptr 2 0 0 0 rfl) (.same (.cons nn .nil))) ⟨⟨2, _, rfl, rfl, .cons (.agg (.cons (.same _ nn) (.cons (.nslk 3 1 _ rfl rfl) .nil))) .nil⟩, ⟨3, _, rfl, rfl, .nil⟩, trivial⟩ rfl ?_
    rintro r m n ⟨rfl, rfl, rfl⟩
    refine ⟨[(0, 2), (2, 4)], _, [(2, .row 121 2 [.agg [.ptr 2 0 0, .sl 4 0 1]]), (4, .row 5 1 (encB [45]))], 5, .same _ nn, ⟨⟨0, _, rfl, rfl, .cons (.agg (.cons (.ptr 0 2 0 0 rfl) (.cons (.sl 2 4 0 _ rfl) .nil))) .nil⟩, ⟨2, _, rfl, rfl, .same (encB_nn _)⟩, trivial⟩, rfl, ?_⟩
    ((conv=>whnf);repeat(refine Xg ?_;conv=>whnf))
    refine ALoop.at nngz (fun p : Nat × Bool => p.1 ≤ (partsS N).length ∧ (p.2 = true ∨ (p.1 = (partsS N).length ∧ False)))
     (fun p => ⟨[(4, .sl 0 0 (partsS N).length), (7, .ptr 1 0 0), (8, .int .i64 ((p.1 : Int) - 1))], [(0, .row 9 1 (encS (partsS N))), (1, .row 121 2 [.agg [adr1 p.2, .sl 2 0 ([45] ++ ((partsS N).drop p.1).reverse.flatten).length]]), (2, .row 5 1 (encB ([45] ++ ((partsS N).drop p.1).reverse.flatten)))], 3, 63⟩)
     (fun p => p.1) ((partsS N).length, true) [(1, 0), (2, 1), (4, 2)] ⟨Nat.le_refl _, .inl rfl⟩
     (conv_mk _ rfl ⟨⟨1, _, rfl, rfl, .same (encS_nn _)⟩, ⟨2, _, rfl, rfl, by rw [List.drop_length]; exact .cons (.agg (.cons (.ptr 2 1 0 0 rfl) (.cons (.slE rfl (by simp)) .nil))) .nil⟩, ⟨4, _, rfl, rfl, by rw [List.drop_length]; exact .same (encB_nn _)⟩, trivial⟩
      ⟨⟨_, rfl, .slE rfl rfl⟩, ⟨_, rfl, .ptr 2 1 0 0 rfl⟩, ⟨_, rfl, .w64 (by simp only) ⟨by simp only; omega, by simp only; omega⟩⟩, trivial⟩) ?_
    rintro ⟨k, a⟩ ⟨k1, k2⟩
    simp only at k1 k2 ⊢
    have hfl := flat_len (P := (partsS N).drop k) fun t ht => hpl t (List.mem_of_mem_drop ht)
    rw [List.length_drop] at hfl
    ((conv=>whnf);repeat(refine Xg ?_;conv=>whnf))
    refine bcs_mk (fun hb => ?_) (fun hb => ?_)
    ·have hk0 : 0 < k := by simp at hb; omega
     obtain ⟨i, rfl⟩ : ∃ i, k = i + 1 := ⟨k - 1, by omega⟩
     rw [show (((i + 1 : Nat) : Int) - 1) = (i : Int) by omega]
     obtain ⟨x, hx⟩ : ∃ x, (partsS N)[i]? = some x := ⟨_, List.getElem?_eq_getElem (by omega)⟩
     have hx9 := hpl x (List.mem_of_getElem? hx)
     have gx : (encS (partsS N))[0 + ((i : Nat) : Int).toNat]? = some (.str x) := by rw [Nat.zero_add, Int.toNat_natCast, encS_get, hx]; rfl
     have hfs := flat_step hx
     have bi := blt_i (i := i) (n := (partsS N).length) (by omega)
     have hws := fun s (h : s.length ≤ 10000000) => bString a s x (by omega)
     have hws := hws ([45] ++ ((partsS N).drop (i + 1)).reverse.flatten) (by rw [List.length_append]; simp only [List.length_nil, List.length_cons]; omega)
     rw [List.append_assoc, ← hfs] at hws
     ((conv=>whnf);repeat(refine Xg ?_;conv=>whnf))
     repeat ((first | refine grd_mk bi ?_ | refine opt_mk gx ?_ | refine setK_iff.2 ?_ | refine ⟨rfl, ?_⟩); ((conv=>whnf);repeat(refine Xg ?_;conv=>whnf)))
     refine ACalls.useN nngz [(1, 0), (2, 1)] hws.glob rfl (.cons (.ptr 1 0 0 0 rfl) (.same (.cons nn .nil))) ⟨⟨1, _, rfl, rfl, bB_cv rfl rfl⟩, ⟨2, _, rfl, rfl, .same (encB_nn _)⟩, trivial⟩ rfl ?_
     rintro r m n ⟨rfl, rfl, rfl⟩
     refine ⟨[(0, 1), (2, 3)], _, [(1, .row 121 2 [.agg [.ptr 1 0 0, .sl 3 0 ([45] ++ ((partsS N).drop i).reverse.flatten).length]]), (3, .row 5 1 (encB ([45] ++ ((partsS N).drop i).reverse.flatten)))], 4, .same _ (.tup' (.cons nn (.cons nn .nil))), ⟨⟨0, _, rfl, rfl, .cons (.agg (.cons (.ptr 0 1 0 0 rfl) (.cons (.sl 2 3 0 _ rfl) .nil))) .nil⟩, ⟨2, _, rfl, rfl, .same (encB_nn _)⟩, trivial⟩, rfl, ?_⟩
     ((conv=>whnf);repeat(refine Xg ?_;conv=>whnf))
     exact .mk (i, true) [(0, 0), (1, 1), (3, 2)] ⟨by simp only; omega, .inl rfl⟩
      (conv_mk _ rfl ⟨⟨0, _, rfl, rfl, .same (encS_nn _)⟩, ⟨1, _, rfl, rfl, .cons (.agg (.cons (.ptr 1 1 0 0 rfl) (.cons (.sl 3 2 0 _ rfl) .nil))) .nil⟩, ⟨3, _, rfl, rfl, .same (encB_nn _)⟩, trivial⟩
       ⟨⟨_, rfl, .slE rfl rfl⟩, ⟨_, rfl, .ptr 1 1 0 0 rfl⟩, ⟨_, rfl, .w64 rfl ⟨by simp only; omega, by simp only; omega⟩⟩, trivial⟩) (by simp only; omega)
    ·have hk0 : k = 0 := by simp at hb; omega
     subst hk0
     have hPpos : 0 < (partsS N).length := by rw [partsS_pos hN0]; simp
     have ha : a = true := by rcases k2 with h | ⟨h, -⟩; exact h; omega
     subst ha
     have hd0 : [45] ++ ((partsS N).drop 0).reverse.flatten = [45] ++ Lib.decDigits N := by rw [List.drop_zero, hpt]
     have hbt := bText ([45] ++ Lib.decDigits N) (by simp [dec_ne]) (by rw [← hd0, List.length_append]; simp only [List.length_nil, List.length_cons]; omega)
     rw [hd0]
     ((conv=>whnf);repeat(refine Xg ?_;conv=>whnf))
     refine ACalls.useN nngz [(1, 0), (2, 1)] hbt.glob rfl (.cons (.ptr 1 0 0 0 rfl) .nil) ⟨⟨1, _, rfl, rfl, bB_cv (a := true) rfl rfl⟩, ⟨2, _, rfl, rfl, .same (encB_nn _)⟩, trivial⟩ rfl ?_
     rintro r m n ⟨rfl, rfl, rfl⟩
     refine ⟨[], _, [], 3, .same _ nn, trivial, rfl, ?_⟩
     ((conv=>whnf);repeat(refine Xg ?_;conv=>whnf))
     exact fin_pure nn ⟨rfl, rfl, rfl⟩
set_option maxHeartbeats 16000000
set_option linter.unusedSimpArgs false
def txtF (a : Fr) : List UInt8 := if a.q = 1 then decZ a.p else decZ a.p ++ [47] ++ decZ (a.q : Int)
theorem decZ_len' {z : Int} (h : fits z = true) : (decZ z).length ≤ 5000 := by have := decZ_len h; omega
theorem pString (a : Fr) (ha : FC a) : PureC Tryz.prog gz 16 [encP a] (.str (txtF a)) := by
 have hd := pDen a (by have := ha.fp.lq; omega)
 have hden : a.den = a.q := den_of_pos ha.can.pos
 rw [hden] at hd
 have h1 := wFrom ((1 : Nat) : Int) ⟨by omega, by omega⟩
 have hc := wCompare (a.q : Int) ((1 : Nat) : Int) (by have := ha.fp.lq; rw [Int.natAbs_natCast]; omega) (by have : (dg 4294967296 1).length ≤ 1 := dgl_small hW (by decide); rw [Int.natAbs_natCast]; omega)
 have s1 := wString a.p (by have := ha.fp.ln; omega)
 have s2 := wString (a.q : Int) (by have := ha.fp.lq; rw [Int.natAbs_natCast]; omega)
 have lp := decZ_len' ha.num
 have lq := decZ_len' ha.den
 have hz : (cmpJ (a.q : Int) ((1 : Nat) : Int) == 0) = decide (a.q = 1) := by
  by_cases h : a.q = 1
  ·rw [h]; rfl
  ·rw [decide_eq_false h, beq_eq_false_iff_ne]; exact cmpJ_ne (by omega)
 obtain ⟨pb, pl, pc, pm, g1, g2, g3⟩ := encP_ex a
 obtain ⟨ob, ol, o1⟩ := encW_ex ((1 : Nat) : Int)
 rw [g3, g2] at hd
 rw [o1] at h1
 rw [g2, o1] at hc
 rw [g1] at s1
 rw [g2] at s2
 unfold txtF
 rw [g3]
 generalize decZ a.p = t1 at *
 generalize decZ (a.q : Int) = t2 at *
 generalize cmpJ (a.q : Int) ((1 : Nat) : Int) = cj at *
 refine acalls_go nngz Tryz.func16 rfl ?_
 ((conv=>whnf);repeat(refine Xg ?_;conv=>whnf))
 repeat ((first | refine setK_iff.2 ?_ | refine ⟨rfl, ?_⟩); ((conv=>whnf);repeat(refine Xg ?_;conv=>whnf)))
 refine hd.goG ?_ (.cons (agP _ _ _ _) .nil) (agW _ _)
 ((conv=>whnf);repeat(refine Xg ?_;conv=>whnf))
 refine h1.goG ?_ (.cons nn .nil) (agW _ _)
 ((conv=>whnf);repeat(refine Xg ?_;conv=>whnf))
 refine hc.goG ?_ (.cons (agW _ _) (.cons (agW _ _) .nil)) nn
 ((conv=>whnf);repeat(refine Xg ?_;conv=>whnf))
 rw [hz]
 by_cases h : a.q = 1
 ·rw [decide_eq_true h, if_pos h]
  ((conv=>whnf);repeat(refine Xg ?_;conv=>whnf))
  repeat ((first | refine setK_iff.2 ?_ | refine ⟨rfl, ?_⟩); ((conv=>whnf);repeat(refine Xg ?_;conv=>whnf)))
  refine PureC.use s1 nngz (.cons (agW _ _) .nil) nn ?_
  ((conv=>whnf);repeat(refine Xg ?_;conv=>whnf))
  exact fin_pure nn ⟨rfl, rfl, rfl⟩
 ·rw [decide_eq_false h, if_neg h]
  ((conv=>whnf);repeat(refine Xg ?_;conv=>whnf))
  repeat ((first | refine setK_iff.2 ?_ | refine ⟨rfl, ?_⟩); ((conv=>whnf);repeat(refine Xg ?_;conv=>whnf)))
  refine PureC.use s1 nngz (.cons (agW _ _) .nil) nn ?_
  ((conv=>whnf);repeat(refine Xg ?_;conv=>whnf))
  repeat (first | (refine grd_mk (Nat.ble_eq_true_of_le (by (try simp) <;> omega)) ?_; ((conv=>whnf);repeat(refine Xg ?_;conv=>whnf))) | (refine setK_iff.2 ?_; ((conv=>whnf);repeat(refine Xg ?_;conv=>whnf))) | (refine ⟨rfl, ?_⟩; ((conv=>whnf);repeat(refine Xg ?_;conv=>whnf))))
  refine PureC.use s2 nngz (.cons (agW _ _) .nil) nn ?_
  ((conv=>whnf);repeat(refine Xg ?_;conv=>whnf))
  repeat (first | (refine grd_mk (Nat.ble_eq_true_of_le (by (try simp) <;> omega)) ?_; ((conv=>whnf);repeat(refine Xg ?_;conv=>whnf))) | (refine setK_iff.2 ?_; ((conv=>whnf);repeat(refine Xg ?_;conv=>whnf))) | (refine ⟨rfl, ?_⟩; ((conv=>whnf);repeat(refine Xg ?_;conv=>whnf))))
  exact fin_pure nn ⟨rfl, rfl, rfl⟩
theorem dec_one (n : Nat) : (decZ (n : Int) == [49]) = decide (n = 1) := by
 by_cases h : n = 1
 ·rw [h, decide_eq_true rfl, decZ_nat, Lib.decDigits_one (by omega)]; rfl
 ·rw [decide_eq_false h, beq_eq_false_iff_ne]
  intro e
  have := congrArg valT e
  rw [decZ_nat, valT_dec] at this
  exact h this
theorem fText (a : Fr) (ha : FC a) : PureC Tryz.prog [] 17 [encF a] (.str (txtF a)) := by
 have s1 := rText a.p (by have := ha.lf.num; omega)
 have s2 := rText (a.q : Int) (by have := ha.lf.den'; omega)
 have lp := decZ_len' ha.num
 have lq := decZ_len' ha.den
 have hz := dec_one a.q
 obtain ⟨pb, pl, pc, pm, g1, g2, g3⟩ := encF_ex a
 rw [g1] at s1
 rw [g2] at s2
 unfold txtF
 rw [g3]
 generalize decZ a.p = t1 at *
 generalize decZ (a.q : Int) = t2 at *
 refine acalls_go nnΓ Tryz.func17 rfl ?_
 ((conv=>whnf);repeat(refine Xg ?_;conv=>whnf))
 repeat ((first | refine setK_iff.2 ?_ | refine ⟨rfl, ?_⟩); ((conv=>whnf);repeat(refine Xg ?_;conv=>whnf)))
 refine s2.go ?_ (.cons (agR _ _) .nil) nn
 ((conv=>whnf);repeat(refine Xg ?_;conv=>whnf))
 rw [hz]
 by_cases h : a.q = 1
 ·rw [decide_eq_true h, if_pos h]
  ((conv=>whnf);repeat(refine Xg ?_;conv=>whnf))
  repeat ((first | refine setK_iff.2 ?_ | refine ⟨rfl, ?_⟩); ((conv=>whnf);repeat(refine Xg ?_;conv=>whnf)))
  refine s1.go ?_ (.cons (agR _ _) .nil) nn
  ((conv=>whnf);repeat(refine Xg ?_;conv=>whnf))
  exact fin_pure nn ⟨rfl, rfl, rfl⟩
 ·rw [decide_eq_false h, if_neg h]
  ((conv=>whnf);repeat(refine Xg ?_;conv=>whnf))
  repeat ((first | refine setK_iff.2 ?_ | refine ⟨rfl, ?_⟩); ((conv=>whnf);repeat(refine Xg ?_;conv=>whnf)))
  refine s1.go ?_ (.cons (agR _ _) .nil) nn
  ((conv=>whnf);repeat(refine Xg ?_;conv=>whnf))
  repeat (first | (refine grd_mk (Nat.ble_eq_true_of_le (by (try simp) <;> omega)) ?_; ((conv=>whnf);repeat(refine Xg ?_;conv=>whnf))) | (refine setK_iff.2 ?_; ((conv=>whnf);repeat(refine Xg ?_;conv=>whnf))) | (refine ⟨rfl, ?_⟩; ((conv=>whnf);repeat(refine Xg ?_;conv=>whnf))))
  exact fin_pure nn ⟨rfl, rfl, rfl⟩
set_option maxHeartbeats 16000000
set_option linter.unusedSimpArgs false
structure TK (k : Nat) (t : Tst) : Prop where
 tf : TF t
 runs : t.runs ≤ k
 hits : t.hits ≤ k
theorem feed_k {k : Nat} {t : Tst} (h : TK k t) (hk : k < 1099511627776) (b : Bool) : TK (k + 1) (feedT t b).1 := by
 have hb : FC (if b then t.hit else t.miss) := by cases b; exact h.tf.miss; exact h.tf.hit
 have h1 := h.runs
 have h2 := h.hits
 unfold feedT
 by_cases hv : t.verdict ≠ 0
 ·rw [if_pos hv]
  exact ⟨h.tf, by simp only; omega, by simp only; omega⟩
 ·rw [if_neg hv]
  by_cases he : (mulF t.ratio (if b then t.hit else t.miss)).2 ≠ 0
  ·rw [if_pos he]
   exact ⟨h.tf, by simp only; omega, by simp only; omega⟩
  ·rw [if_neg he]
   have hm := mul_fc h.tf.ratio hb (by omega)
   generalize mulF t.ratio (if b then t.hit else t.miss) = mv at hm ⊢
   refine ⟨⟨h.tf.hit, h.tf.miss, h.tf.upper, h.tf.lower, hm, by simp only; omega, by simp only; split <;> omega⟩, by simp only; omega, by simp only; split <;> omega⟩
def T0 : Tst := ⟨⟨2, 1⟩, ⟨2, 3⟩, ⟨9, 1⟩, ⟨1, 9⟩, ⟨1, 1⟩, 0, 0, 0⟩
def itT (b : Bool) : Nat → Tst × Int × Int
 | 0 => (T0, 0, 0)
 | i + 1 => feedT (itT b i).1 b
theorem t0_new : newT (mkF 1 2) (mkF 1 4) (mkF 1 10) (mkF 1 10) = (some T0, 0) := by kernel_rfl
theorem t0_hold : itT true 4 = (⟨⟨2, 1⟩, ⟨2, 3⟩, ⟨9, 1⟩, ⟨1, 9⟩, ⟨16, 1⟩, 1, 4, 4⟩, 1, 0) := by kernel_rfl
theorem t0_fail : itT false 6 = (⟨⟨2, 1⟩, ⟨2, 3⟩, ⟨9, 1⟩, ⟨1, 9⟩, ⟨64, 729⟩, 2, 6, 0⟩, 2, 0) := by kernel_rfl
theorem d16 : decZ 16 = [49, 54] := by rw [show (16 : Int) = ((16 : Nat) : Int) from rfl, decZ_nat, decD_step (by omega), Lib.decDigits_one (by omega)]; rfl
theorem d64 : decZ 64 = [54, 52] := by rw [show (64 : Int) = ((64 : Nat) : Int) from rfl, decZ_nat, decD_step (by omega), Lib.decDigits_one (by omega)]; rfl
theorem d729 : decZ ((729 : Nat) : Int) = [55, 50, 57] := by rw [decZ_nat, decD_step (by omega), decD_step (by omega), Lib.decDigits_one (by omega)]; rfl
theorem sm14 : Sm (mkF 1 2) ∧ Sm (mkF 1 4) ∧ Sm (mkF 1 10) := ⟨sm_mk (by decide) (by decide), sm_mk (by decide) (by decide), sm_mk (by decide) (by decide)⟩
theorem t0_tf : TF T0 := by
 rcases new_two (n := 5) (by decide) sm14.1.sz sm14.2.1.sz sm14.2.2.sz sm14.2.2.sz with h | ⟨T, h, hT⟩
 ·rw [t0_new] at h; cases h
 ·rw [t0_new] at h
  have := (Prod.mk.inj h).1
  cases this
  exact hT
theorem it_k (b : Bool) : ∀ i, i ≤ 100 → TK i (itT b i).1
 | 0, _ => ⟨t0_tf, by simp [itT, T0], by simp [itT, T0]⟩
 | i + 1, h => feed_k (it_k b i (by omega)) (by omega) b
theorem lives25 : PureC Tryz.prog gz 9 [] (.bool true) := by
 have p1 := lPortion 1 10 ⟨by omega, by omega⟩ ⟨by omega, by omega⟩ (by omega)
 have p2 := lPortion 1 2 ⟨by omega, by omega⟩ ⟨by omega, by omega⟩ (by omega)
 have p4 := lPortion 1 4 ⟨by omega, by omega⟩ ⟨by omega, by omega⟩ (by omega)
 have hP : ACalls Tryz.prog [] 20 [encP (mkF 1 2), encP (mkF 1 4), encP (mkF 1 10), encP (mkF 1 10)] [] 0 (newQ 75 encTP (newT (mkF 1 2) (mkF 1 4) (mkF 1 10) (mkF 1 10))) := pNew (n := 5) (by decide) _ _ _ _ sm14.1.sz sm14.2.1.sz sm14.2.2.sz sm14.2.2.sz sm14.1.can sm14.2.1.can sm14.2.2.can sm14.2.2.can
 rw [t0_new] at hP
 obtain ⟨ab, al, ac, am, -, -, qa⟩ := encP_ex (mkF 1 10)
 obtain ⟨bb, bl, bc, bm, -, -, qb⟩ := encP_ex (mkF 1 2)
 obtain ⟨cb, cl, cc, cm, -, -, qc⟩ := encP_ex (mkF 1 4)
 rw [qa, qb, qc] at hP
 rw [qa] at p1
 rw [qb] at p2
 rw [qc] at p4
 have eP : ACalls Tryz.prog gz 20 [.agg [.bool bb, .il 1 (encU bl), .bool bc, .il 1 (encU bm)], .agg [.bool cb, .il 1 (encU cl), .bool cc, .il 1 (encU cm)], .agg [.bool ab, .il 1 (encU al), .bool ac, .il 1 (encU am)], .agg [.bool ab, .il 1 (encU al), .bool ac, .il 1 (encU am)]] [] 0 (fun r m n => r = .tup [.ptr 0 0 0, .int .i64 0] ∧ m = [(0, tB0 T0)] ∧ n = 1) := ACalls.glob hP
 refine acalls_go nngz Tryz.func9 rfl ?_
 ((conv=>whnf);repeat(refine Xg ?_;conv=>whnf))
 refine p1.goG ?_ (.cons nn (.cons nn .nil)) (agP _ _ _ _)
 ((conv=>whnf);repeat(refine Xg ?_;conv=>whnf))
 repeat ((first | refine setK_iff.2 ?_ | refine ⟨rfl, ?_⟩); ((conv=>whnf);repeat(refine Xg ?_;conv=>whnf)))
 refine p2.goG ?_ (.cons nn (.cons nn .nil)) (agP _ _ _ _)
 ((conv=>whnf);repeat(refine Xg ?_;conv=>whnf))
 repeat ((first | refine setK_iff.2 ?_ | refine ⟨rfl, ?_⟩); ((conv=>whnf);repeat(refine Xg ?_;conv=>whnf)))
 refine p4.goG ?_ (.cons nn (.cons nn .nil)) (agP _ _ _ _)
 ((conv=>whnf);repeat(refine Xg ?_;conv=>whnf))
 repeat ((first | refine setK_iff.2 ?_ | refine ⟨rfl, ?_⟩); ((conv=>whnf);repeat(refine Xg ?_;conv=>whnf)))
 refine ACalls.useP (r1 := .tup [.ptr 11 0 0, .int .i64 0]) nngz eP (.cons (agP _ _ _ _) (.cons (agP _ _ _ _) (.cons (agP _ _ _ _) (.cons (agP _ _ _ _) .nil)))) (encTP_nn T0) (.tup' (.cons (.ptr 0 11 0 0 rfl) (.cons (.same _ nn) .nil))) ?_
 ((conv=>whnf);repeat(refine Xg ?_;conv=>whnf))
 repeat ((first | refine setK_iff.2 ?_ | refine ⟨rfl, ?_⟩); ((conv=>whnf);repeat(refine Xg ?_;conv=>whnf)))
 refine ACalls.useN nngz [(11, 0)] (pCopy T0).glob rfl (.cons (.ptr 11 0 0 0 rfl) .nil) ⟨⟨11, _, rfl, rfl, .same (encTP_nn T0)⟩, trivial⟩ rfl ?_
 rintro r m n ⟨rfl, rfl, rfl⟩
 refine ⟨[(0, 11), (1, 12)], .ptr 12 0 0, [(11, tB0 T0), (12, tB0 T0)], 13, .ptr 1 12 0 0 rfl, ⟨⟨0, _, rfl, rfl, .same (encTP_nn T0)⟩, ⟨1, _, rfl, rfl, .same (encTP_nn T0)⟩, trivial⟩, rfl, ?_⟩
 ((conv=>whnf);repeat(refine Xg ?_;conv=>whnf))
 refine ALoop.at nngz (fun i : Nat => i ≤ 4)
  (fun i => ⟨[(2, .ptr 0 0 0), (3, .int .i64 (itT true i).2.2), (4, .ptr 1 0 0), (5, .int .i64 (itT true i).2.1), (6, .int .i64 i)], [(0, tB0 (itT true i).1), (1, tB0 T0)], 2, 103⟩)
  (fun i => 4 - i) 0 [(11, 0), (12, 1)] (by omega)
  (conv_mk _ rfl ⟨⟨11, _, rfl, rfl, .same (encTP_nn T0)⟩, ⟨12, _, rfl, rfl, .same (encTP_nn T0)⟩, trivial⟩ ⟨⟨_, rfl, .ptr 11 0 0 0 rfl⟩, ⟨_, rfl, .same _ nn⟩, ⟨_, rfl, .ptr 12 1 0 0 rfl⟩, ⟨_, rfl, .same _ nn⟩, ⟨_, rfl, .same _ nn⟩, trivial⟩) ?_
 intro i hi
 by_cases hlt : i < 4
 ·have hk := it_k true i (by omega)
  have hst : itT true (i + 1) = feedT (itT true i).1 true := rfl
  have hf := pFeed (itT true i).1 true hk.tf
  have hd : decide ((i : Int) < 4) = true := decide_eq_true (by omega)
  rw [← hst] at hf
  generalize hS : itT true i = S at *
  generalize hS2 : itT true (i + 1) = S2 at *
  ((conv=>whnf);repeat(refine Xg ?_;conv=>whnf))
  rw [hd]
  ((conv=>whnf);repeat(refine Xg ?_;conv=>whnf))
  refine ACalls.useN nngz [(0, 0)] hf.glob rfl (.cons (.ptr 0 0 0 0 rfl) (.same (.cons (tB _) .nil))) ⟨⟨0, _, rfl, rfl, .same (encTP_nn _)⟩, trivial⟩ rfl ?_
  rintro r m n ⟨rfl, rfl, rfl⟩
  refine ⟨[(0, 0)], _, [(0, tB0 S2.1)], 2, .same _ (.tup' (.cons nn (.cons nn .nil))), ⟨⟨0, _, rfl, rfl, .same (encTP_nn _)⟩, trivial⟩, rfl, ?_⟩
  ((conv=>whnf);repeat(refine Xg ?_;conv=>whnf))
  repeat ((first | refine setK_iff.2 ?_ | refine ⟨rfl, ?_⟩); ((conv=>whnf);repeat(refine Xg ?_;conv=>whnf)))
  exact .mk (i + 1) [(0, 0), (1, 1)] (by omega)
   (conv_mk _ rfl ⟨⟨0, _, rfl, rfl, .eq (encTP_nn _) (by rw [hS2])⟩, ⟨1, _, rfl, rfl, .same (encTP_nn T0)⟩, trivial⟩ ⟨⟨_, rfl, .ptr 0 0 0 0 rfl⟩, ⟨_, rfl, .int (by rw [hS2])⟩, ⟨_, rfl, .ptr 1 1 0 0 rfl⟩, ⟨_, rfl, .int (by rw [hS2])⟩, ⟨_, rfl, .w64 (by omega) ⟨by omega, by omega⟩⟩, trivial⟩) (by omega)
 ·have hi4 : i = 4 := by omega
  subst hi4
  rw [t0_hold]
  simp only
  generalize hT4 : (⟨⟨2, 1⟩, ⟨2, 3⟩, ⟨9, 1⟩, ⟨1, 9⟩, ⟨16, 1⟩, 1, 4, 4⟩ : Tst) = T4
  have hr1 := pRatio T4
  have hn1 := pRuns T4
  have er : T4.ratio = ⟨16, 1⟩ := by rw [← hT4]
  have en : T4.runs = 4 ∧ T4.hits = 4 := by rw [← hT4]; exact ⟨rfl, rfl⟩
  have x1 := pString ⟨16, 1⟩ ⟨⟨by decide, by decide⟩, fits_le (n := 5) (by decide) (by decide), fits_le (n := 5) (by decide) (by decide)⟩
  have y1 : txtF ⟨16, 1⟩ = [49, 54] := by unfold txtF; rw [if_pos rfl, d16]
  rw [y1] at x1
  rw [er] at hr1
  rw [en.1, en.2] at hn1
  obtain ⟨rb, rl, rc, rm, -, -, qr⟩ := encP_ex ⟨16, 1⟩
  rw [qr] at hr1 x1
  ((conv=>whnf);repeat(refine Xg ?_;conv=>whnf))
  refine ACalls.useR nngz [(0, 0)] hr1.glob rfl (.cons (.ptr 0 0 0 0 rfl) .nil) ⟨⟨0, _, rfl, rfl, .same (encTP_nn _)⟩, trivial⟩ rfl ?_
  rintro r m n ⟨rfl, rfl, rfl⟩
  refine ⟨[(0, tB0 T4)], agP _ _ _ _, ⟨⟨0, _, rfl, rfl, .same (encTP_nn _)⟩, trivial⟩, rfl, ?_⟩
  ((conv=>whnf);repeat(refine Xg ?_;conv=>whnf))
  repeat ((first | refine setK_iff.2 ?_ | refine ⟨rfl, ?_⟩); ((conv=>whnf);repeat(refine Xg ?_;conv=>whnf)))
  refine ACalls.useR nngz [(0, 0)] hn1.glob rfl (.cons (.ptr 0 0 0 0 rfl) .nil) ⟨⟨0, _, rfl, rfl, .same (encTP_nn _)⟩, trivial⟩ rfl ?_
  rintro r m n ⟨rfl, rfl, rfl⟩
  refine ⟨[(0, tB0 T4)], .tup' (.cons nn (.cons nn .nil)), ⟨⟨0, _, rfl, rfl, .same (encTP_nn _)⟩, trivial⟩, rfl, ?_⟩
  ((conv=>whnf);repeat(refine Xg ?_;conv=>whnf))
  repeat ((first | refine setK_iff.2 ?_ | refine ⟨rfl, ?_⟩); ((conv=>whnf);repeat(refine Xg ?_;conv=>whnf)))
  refine ALoop.at nngz (fun i : Nat => i ≤ 6)
   (fun i => ⟨[(3, .int .i64 0), (4, .ptr 1 0 0), (5, .int .i64 1), (7, .ptr 2 0 0), (8, .int .i64 4), (9, .int .i64 4), (10, .int .i64 (itT false i).2.1), (11, .int .i64 i)], [(1, tB0 (itT false i).1), (2, .row 39 4 [.agg [.bool rb, .il 1 (encU rl), .bool rc, .il 1 (encU rm)]])], 3, 103⟩)
   (fun i => 6 - i) 0 [(1, 1), (2, 2)] (by omega)
   (conv_mk _ rfl ⟨⟨1, _, rfl, rfl, .same (encTP_nn T0)⟩, ⟨2, _, rfl, rfl, .same (.cons (agP _ _ _ _) .nil)⟩, trivial⟩ ⟨⟨_, rfl, .same _ nn⟩, ⟨_, rfl, .ptr 1 1 0 0 rfl⟩, ⟨_, rfl, .same _ nn⟩, ⟨_, rfl, .ptr 2 2 0 0 rfl⟩, ⟨_, rfl, .same _ nn⟩, ⟨_, rfl, .same _ nn⟩, ⟨_, rfl, .same _ nn⟩, ⟨_, rfl, .same _ nn⟩, trivial⟩) ?_
  clear hi hlt
  intro i hi
  by_cases hlt : i < 6
  ·have hk := it_k false i (by omega)
   have hst : itT false (i + 1) = feedT (itT false i).1 false := rfl
   have hf := pFeed (itT false i).1 false hk.tf
   have hd : decide ((i : Int) < 6) = true := decide_eq_true (by omega)
   rw [← hst] at hf
   generalize hS : itT false i = S at *
   generalize hS2 : itT false (i + 1) = S2 at *
   ((conv=>whnf);repeat(refine Xg ?_;conv=>whnf))
   rw [hd]
   ((conv=>whnf);repeat(refine Xg ?_;conv=>whnf))
   refine ACalls.useR nngz [(1, 0)] hf.glob rfl (.cons (.ptr 1 0 0 0 rfl) (.same (.cons (tB _) .nil))) ⟨⟨1, _, rfl, rfl, .same (encTP_nn _)⟩, trivial⟩ rfl ?_
   rintro r m n ⟨rfl, rfl, rfl⟩
   refine ⟨[(1, tB0 S2.1)], .tup' (.cons nn (.cons nn .nil)), ⟨⟨0, _, rfl, rfl, .same (encTP_nn _)⟩, trivial⟩, rfl, ?_⟩
   ((conv=>whnf);repeat(refine Xg ?_;conv=>whnf))
   repeat ((first | refine setK_iff.2 ?_ | refine ⟨rfl, ?_⟩); ((conv=>whnf);repeat(refine Xg ?_;conv=>whnf)))
   exact .mk (i + 1) [(1, 1), (2, 2)] (by omega)
    (conv_mk _ rfl ⟨⟨1, _, rfl, rfl, .eq (encTP_nn _) (by rw [hS2])⟩, ⟨2, _, rfl, rfl, .same (.cons (agP _ _ _ _) .nil)⟩, trivial⟩ ⟨⟨_, rfl, .same _ nn⟩, ⟨_, rfl, .ptr 1 1 0 0 rfl⟩, ⟨_, rfl, .same _ nn⟩, ⟨_, rfl, .ptr 2 2 0 0 rfl⟩, ⟨_, rfl, .same _ nn⟩, ⟨_, rfl, .same _ nn⟩, ⟨_, rfl, .int (by rw [hS2])⟩, ⟨_, rfl, .w64 (by omega) ⟨by omega, by omega⟩⟩, trivial⟩) (by omega)
  ·have hi6 : i = 6 := by omega
   subst hi6
   have h6 := it_k false 6 (by omega)
   rw [t0_fail] at h6 ⊢
   simp only at h6 ⊢
   generalize hT6 : (⟨⟨2, 1⟩, ⟨2, 3⟩, ⟨9, 1⟩, ⟨1, 9⟩, ⟨64, 729⟩, 2, 6, 0⟩ : Tst) = T6 at *
   have hr2 := pRatio T6
   have hv2 := pVerdict T6
   have hf2 := pFeed T6 true h6.tf
   have er2 : T6.ratio = ⟨64, 729⟩ := by rw [← hT6]
   have ev2 : T6.verdict = 2 := by rw [← hT6]
   rw [feed_done (by rw [ev2]; simp)] at hf2
   simp only at hf2
   rw [ev2] at hf2 hv2
   have x2 := pString ⟨64, 729⟩ ⟨⟨by decide, by decide⟩, fits_le (n := 10) (by decide) (by decide), fits_le (n := 10) (by decide) (by decide)⟩
   have y2 : txtF ⟨64, 729⟩ = [54, 52, 47, 55, 50, 57] := by unfold txtF; rw [if_neg (by decide), d64, d729]; rfl
   rw [y2] at x2
   rw [er2] at hr2
   obtain ⟨sb, sl, sc, sm, -, -, qs⟩ := encP_ex ⟨64, 729⟩
   rw [qs] at hr2 x2
   ((conv=>whnf);repeat(refine Xg ?_;conv=>whnf))
   refine ACalls.useR nngz [(1, 0)] hr2.glob rfl (.cons (.ptr 1 0 0 0 rfl) .nil) ⟨⟨1, _, rfl, rfl, .same (encTP_nn _)⟩, trivial⟩ rfl ?_
   rintro r m n ⟨rfl, rfl, rfl⟩
   refine ⟨[(1, tB0 T6)], agP _ _ _ _, ⟨⟨0, _, rfl, rfl, .same (encTP_nn _)⟩, trivial⟩, rfl, ?_⟩
   ((conv=>whnf);repeat(refine Xg ?_;conv=>whnf))
   repeat ((first | refine setK_iff.2 ?_ | refine ⟨rfl, ?_⟩); ((conv=>whnf);repeat(refine Xg ?_;conv=>whnf)))
   refine ACalls.useR nngz [(1, 0)] hf2.glob rfl (.cons (.ptr 1 0 0 0 rfl) (.same (.cons (tB _) .nil))) ⟨⟨1, _, rfl, rfl, .same (encTP_nn _)⟩, trivial⟩ rfl ?_
   rintro r m n ⟨rfl, rfl, rfl⟩
   refine ⟨[(1, tB0 T6)], .tup' (.cons nn (.cons nn .nil)), ⟨⟨0, _, rfl, rfl, .same (encTP_nn _)⟩, trivial⟩, rfl, ?_⟩
   ((conv=>whnf);repeat(refine Xg ?_;conv=>whnf))
   repeat ((first | refine setK_iff.2 ?_ | refine ⟨rfl, ?_⟩); ((conv=>whnf);repeat(refine Xg ?_;conv=>whnf)))
   refine PureC.use x1 nngz (.cons (agP _ _ _ _) .nil) nn ?_
   ((conv=>whnf);repeat(refine Xg ?_;conv=>whnf))
   repeat ((first | refine setK_iff.2 ?_ | refine ⟨rfl, ?_⟩); ((conv=>whnf);repeat(refine Xg ?_;conv=>whnf)))
   refine PureC.use x2 nngz (.cons (agP _ _ _ _) .nil) nn ?_
   ((conv=>whnf);repeat(refine Xg ?_;conv=>whnf))
   repeat ((first | refine setK_iff.2 ?_ | refine ⟨rfl, ?_⟩); ((conv=>whnf);repeat(refine Xg ?_;conv=>whnf)))
   refine ACalls.useR nngz [(1, 0)] hv2.glob rfl (.cons (.ptr 1 0 0 0 rfl) .nil) ⟨⟨1, _, rfl, rfl, .same (encTP_nn _)⟩, trivial⟩ rfl ?_
   rintro r m n ⟨rfl, rfl, rfl⟩
   refine ⟨[(1, tB0 T6)], nn, ⟨⟨0, _, rfl, rfl, .same (encTP_nn _)⟩, trivial⟩, rfl, ?_⟩
   ((conv=>whnf);repeat(refine Xg ?_;conv=>whnf))
   repeat ((first | refine setK_iff.2 ?_ | refine ⟨rfl, ?_⟩); ((conv=>whnf);repeat(refine Xg ?_;conv=>whnf)))
   exact fin_pure (tB _) ⟨rfl, rfl, rfl⟩
set_option maxHeartbeats 16000000
set_option linter.unusedSimpArgs false
theorem ch_can {v : Nat} {p : Fr} (hp : Sz 10 p) : ∀ (m n : Nat) (t : Tst), TstIn n t → n + 12 * m < 16384 → cS m < 16384 → Go.Ax.Can (chF v p m t)
 | 0, n, t, h, h1, h2 => by
  unfold chF
  split
  ·exact oneF_can
  split
  ·exact zF_can
  ·exact zF_can
 | m + 1, n, t, h, h1, h2 => by
  unfold chF
  split
  ·exact oneF_can
  split
  ·exact zF_can
  ·have hc : cS (m + 1) = 22 + 2 * cS m := rfl
   have z1 := (ch_val (v := v) hp m (n + 12) _ (feed_in h (by omega) true) (by omega) (by omega)).1
   have z2 := (ch_val (v := v) hp m (n + 12) _ (feed_in h (by omega) false) (by omega) (by omega)).1
   obtain ⟨q, e0, e1, e2, -⟩ := sub_all oneF_sz hp (by omega)
   obtain ⟨x, f0, f1, f2, -⟩ := mul_all hp z1 (by omega)
   obtain ⟨y, g0, g1, g2, -⟩ := mul_all e1 z2 (by omega)
   obtain ⟨s, k0, k1, k2, -⟩ := add_all f1 g1 (by omega)
   show Go.Ax.Can (addF (mulF p (chF v p m (feedT t true).1)).1 (mulF (subF oneF p).1 (chF v p m (feedT t false).1)).1).1
   rw [e0, f0]
   simp only
   rw [g0]
   simp only
   rw [k0]
   exact k2
def chO (v : Nat) (p : Fr) (m : Nat) (t : Tst) : Fr := if t.verdict = v then oneF else if t.verdict ≠ 0 ∨ m = 0 then nilF else chF v p m t
theorem chO_nF {v : Nat} {p : Fr} (hp : Sz 10 p) (m n : Nat) (t : Tst) (h : TstIn n t) (h1 : n + 12 * m < 16384) (h2 : cS m < 16384) : nF (chO v p m t) = chF v p m t := by
 have hc := ch_can (v := v) hp m n t h h1 h2
 have hz : nF nilF = zF := rfl
 unfold chO
 split
 ·rename_i e
  have : chF v p m t = oneF := by unfold chF; rw [if_pos e]
  rw [this, nF_can oneF_can]
 split
 ·rename_i e e2
  rw [hz]
  cases m with
  | zero =>
   unfold chF
   rw [if_neg e]
   split <;> rfl
  | succ m =>
   unfold chF
   rw [if_neg e, if_pos (by omega)]
 ·exact nF_can hc
theorem chO_fp {v : Nat} {p : Fr} (hp : Sz 10 p) (m n : Nat) (t : Tst) (h : TstIn n t) (h1 : n + 12 * m < 16384) (h2 : cS m < 16384) : FP (chO v p m t) ∧ Go.Ax.Can (nF (chO v p m t)) := by
 have e := chO_nF (v := v) hp m n t h h1 h2
 have hc := ch_can (v := v) hp m n t h h1 h2
 have hs := (ch_val (v := v) hp m n t h h1 h2).1
 have hf := sz_fc hs h2 hc
 refine ⟨⟨?_, ?_⟩, by rw [e]; exact hc⟩
 ·have : (chO v p m t).p = (chF v p m t).p := by rw [← e]; rfl
  rw [this]; exact hf.num
 ·have : (chO v p m t).den = (chF v p m t).q := by rw [← e]; rfl
  rw [this]; exact hf.den
theorem lChance (v : Nat) (hv : v = 1 ∨ v = 2) (p : Fr) (hp : Sz 10 p) (cp : Go.Ax.Can p) : ∀ (m n k : Nat) (t : Tst), TstIn n t → TK k t → k + m < 1000000 → n + 12 * m < 16384 → cS m < 16384 →
  ACalls Tryz.prog [] 27 [.ptr 0 0 0, .int .i64 v, encP p, .int .i64 m] [(0, tB0 t)] 1 fun r m' n' => r = encP (chO v p m t) ∧ m' = [(0, tB0 t)] ∧ n' = 1 := by
 intro m
 induction m with
 | zero =>
  intro n k t hi hk h0 h1 h2
  have hvd := pVerdict t
  have h1p := lPortion 1 1 ⟨by omega, by omega⟩ ⟨by omega, by omega⟩ (by omega)
  rw [show mkF 1 1 = oneF from rfl] at h1p
  obtain ⟨pb, pl, pc, pm, -, -, qp⟩ := encP_ex p
  obtain ⟨ob, ol, oc, om, -, -, qo⟩ := encP_ex oneF
  rw [qo] at h1p
  rw [qp]
  refine acalls_go nnΓ Tryz.func27 rfl ?_
  by_cases e : t.verdict = v
  ·have hb : ((t.verdict : Int) == (v : Int)) = true := by rw [e]; exact beq_self_eq_true _
   have hres : chO v p (0) t = oneF := by unfold chO; rw [if_pos e]
   rw [hres, qo]
   ((conv=>whnf);repeat(refine Xg ?_;conv=>whnf))
   refine ACalls.useR nnΓ [(0, 0)] hvd rfl (.cons (.ptr 0 0 0 0 rfl) .nil) ⟨⟨0, _, rfl, rfl, .same (encTP_nn _)⟩, trivial⟩ rfl ?_
   rintro r m n ⟨rfl, rfl, rfl⟩
   refine ⟨[(0, tB0 t)], nn, ⟨⟨0, _, rfl, rfl, .same (encTP_nn _)⟩, trivial⟩, rfl, ?_⟩
   ((conv=>whnf);repeat(refine Xg ?_;conv=>whnf))
   repeat ((first | refine setK_iff.2 ?_ | refine ⟨rfl, ?_⟩); ((conv=>whnf);repeat(refine Xg ?_;conv=>whnf)))
   rw [hb]
   ((conv=>whnf);repeat(refine Xg ?_;conv=>whnf))
   refine h1p.go ?_ (.cons nn (.cons nn .nil)) (agP _ _ _ _)
   ((conv=>whnf);repeat(refine Xg ?_;conv=>whnf))
   repeat ((first | refine setK_iff.2 ?_ | refine ⟨rfl, ?_⟩); ((conv=>whnf);repeat(refine Xg ?_;conv=>whnf)))
   exact fin_mk (r' := .agg [.bool ob, .il 1 (encU ol), .bool oc, .il 1 (encU om)]) (m' := [(0, tB0 t)]) (n' := 1) [(0, 0)] rfl ⟨⟨0, _, rfl, rfl, .same (encTP_nn _)⟩, trivial⟩ (.same _ (agP _ _ _ _)) ⟨rfl, rfl, rfl⟩
  ·have hb : ((t.verdict : Int) == (v : Int)) = false := by rw [beq_eq_false_iff_ne]; omega
   by_cases e0 : t.verdict = 0
   rotate_left
   ·have hb2 : ((t.verdict : Int) != 0) = true := by rw [bne_iff_ne]; omega
    have hres : chO v p (0) t = nilF := by unfold chO; rw [if_neg e, if_pos (.inl e0)]
    rw [hres, encP_nil]
    ((conv=>whnf);repeat(refine Xg ?_;conv=>whnf))
    refine ACalls.useR nnΓ [(0, 0)] hvd rfl (.cons (.ptr 0 0 0 0 rfl) .nil) ⟨⟨0, _, rfl, rfl, .same (encTP_nn _)⟩, trivial⟩ rfl ?_
    rintro r m n ⟨rfl, rfl, rfl⟩
    refine ⟨[(0, tB0 t)], nn, ⟨⟨0, _, rfl, rfl, .same (encTP_nn _)⟩, trivial⟩, rfl, ?_⟩
    ((conv=>whnf);repeat(refine Xg ?_;conv=>whnf))
    repeat ((first | refine setK_iff.2 ?_ | refine ⟨rfl, ?_⟩); ((conv=>whnf);repeat(refine Xg ?_;conv=>whnf)))
    rw [hb]
    ((conv=>whnf);repeat(refine Xg ?_;conv=>whnf))
    refine ACalls.useR nnΓ [(0, 0)] hvd rfl (.cons (.ptr 0 0 0 0 rfl) .nil) ⟨⟨0, _, rfl, rfl, .same (encTP_nn _)⟩, trivial⟩ rfl ?_
    rintro r m n ⟨rfl, rfl, rfl⟩
    refine ⟨[(0, tB0 t)], nn, ⟨⟨0, _, rfl, rfl, .same (encTP_nn _)⟩, trivial⟩, rfl, ?_⟩
    ((conv=>whnf);repeat(refine Xg ?_;conv=>whnf))
    repeat ((first | refine setK_iff.2 ?_ | refine ⟨rfl, ?_⟩); ((conv=>whnf);repeat(refine Xg ?_;conv=>whnf)))
    rw [hb2]
    ((conv=>whnf);repeat(refine Xg ?_;conv=>whnf))
    repeat ((first | refine setK_iff.2 ?_ | refine ⟨rfl, ?_⟩); ((conv=>whnf);repeat(refine Xg ?_;conv=>whnf)))
    exact fin_mk (r' := .agg [.bool false, .il 1 [], .bool false, .il 1 []]) (m' := [(0, tB0 t)]) (n' := 1) [(0, 0)] rfl ⟨⟨0, _, rfl, rfl, .same (encTP_nn _)⟩, trivial⟩ cvNil ⟨rfl, rfl, rfl⟩
   ·have hb2 : ((t.verdict : Int) != 0) = false := by rw [e0]; rfl
    have hres : chO v p 0 t = nilF := by unfold chO; rw [if_neg e, if_pos (.inr rfl)]
    rw [hres, encP_nil]
    ((conv=>whnf);repeat(refine Xg ?_;conv=>whnf))
    refine ACalls.useR nnΓ [(0, 0)] hvd rfl (.cons (.ptr 0 0 0 0 rfl) .nil) ⟨⟨0, _, rfl, rfl, .same (encTP_nn _)⟩, trivial⟩ rfl ?_
    rintro r m n ⟨rfl, rfl, rfl⟩
    refine ⟨[(0, tB0 t)], nn, ⟨⟨0, _, rfl, rfl, .same (encTP_nn _)⟩, trivial⟩, rfl, ?_⟩
    ((conv=>whnf);repeat(refine Xg ?_;conv=>whnf))
    repeat ((first | refine setK_iff.2 ?_ | refine ⟨rfl, ?_⟩); ((conv=>whnf);repeat(refine Xg ?_;conv=>whnf)))
    rw [hb]
    ((conv=>whnf);repeat(refine Xg ?_;conv=>whnf))
    refine ACalls.useR nnΓ [(0, 0)] hvd rfl (.cons (.ptr 0 0 0 0 rfl) .nil) ⟨⟨0, _, rfl, rfl, .same (encTP_nn _)⟩, trivial⟩ rfl ?_
    rintro r m n ⟨rfl, rfl, rfl⟩
    refine ⟨[(0, tB0 t)], nn, ⟨⟨0, _, rfl, rfl, .same (encTP_nn _)⟩, trivial⟩, rfl, ?_⟩
    ((conv=>whnf);repeat(refine Xg ?_;conv=>whnf))
    repeat ((first | refine setK_iff.2 ?_ | refine ⟨rfl, ?_⟩); ((conv=>whnf);repeat(refine Xg ?_;conv=>whnf)))
    rw [hb2]
    ((conv=>whnf);repeat(refine Xg ?_;conv=>whnf))
    repeat ((first | refine setK_iff.2 ?_ | refine ⟨rfl, ?_⟩); ((conv=>whnf);repeat(refine Xg ?_;conv=>whnf)))
    exact fin_mk (r' := .agg [.bool false, .il 1 [], .bool false, .il 1 []]) (m' := [(0, tB0 t)]) (n' := 1) [(0, 0)] rfl ⟨⟨0, _, rfl, rfl, .same (encTP_nn _)⟩, trivial⟩ cvNil ⟨rfl, rfl, rfl⟩
 | succ m ih =>
  intro n k t hi hk h0 h1 h2
  have hvd := pVerdict t
  have h1p := lPortion 1 1 ⟨by omega, by omega⟩ ⟨by omega, by omega⟩ (by omega)
  rw [show mkF 1 1 = oneF from rfl] at h1p
  obtain ⟨pb, pl, pc, pm, -, -, qp⟩ := encP_ex p
  obtain ⟨ob, ol, oc, om, -, -, qo⟩ := encP_ex oneF
  rw [qo] at h1p
  rw [qp]
  refine acalls_go nnΓ Tryz.func27 rfl ?_
  by_cases e : t.verdict = v
  ·have hb : ((t.verdict : Int) == (v : Int)) = true := by rw [e]; exact beq_self_eq_true _
   have hres : chO v p (m + 1) t = oneF := by unfold chO; rw [if_pos e]
   rw [hres, qo]
   ((conv=>whnf);repeat(refine Xg ?_;conv=>whnf))
   refine ACalls.useR nnΓ [(0, 0)] hvd rfl (.cons (.ptr 0 0 0 0 rfl) .nil) ⟨⟨0, _, rfl, rfl, .same (encTP_nn _)⟩, trivial⟩ rfl ?_
   rintro r m n ⟨rfl, rfl, rfl⟩
   refine ⟨[(0, tB0 t)], nn, ⟨⟨0, _, rfl, rfl, .same (encTP_nn _)⟩, trivial⟩, rfl, ?_⟩
   ((conv=>whnf);repeat(refine Xg ?_;conv=>whnf))
   repeat ((first | refine setK_iff.2 ?_ | refine ⟨rfl, ?_⟩); ((conv=>whnf);repeat(refine Xg ?_;conv=>whnf)))
   rw [hb]
   ((conv=>whnf);repeat(refine Xg ?_;conv=>whnf))
   refine h1p.go ?_ (.cons nn (.cons nn .nil)) (agP _ _ _ _)
   ((conv=>whnf);repeat(refine Xg ?_;conv=>whnf))
   repeat ((first | refine setK_iff.2 ?_ | refine ⟨rfl, ?_⟩); ((conv=>whnf);repeat(refine Xg ?_;conv=>whnf)))
   exact fin_mk (r' := .agg [.bool ob, .il 1 (encU ol), .bool oc, .il 1 (encU om)]) (m' := [(0, tB0 t)]) (n' := 1) [(0, 0)] rfl ⟨⟨0, _, rfl, rfl, .same (encTP_nn _)⟩, trivial⟩ (.same _ (agP _ _ _ _)) ⟨rfl, rfl, rfl⟩
  ·have hb : ((t.verdict : Int) == (v : Int)) = false := by rw [beq_eq_false_iff_ne]; omega
   by_cases e0 : t.verdict = 0
   rotate_left
   ·have hb2 : ((t.verdict : Int) != 0) = true := by rw [bne_iff_ne]; omega
    have hres : chO v p (m + 1) t = nilF := by unfold chO; rw [if_neg e, if_pos (.inl e0)]
    rw [hres, encP_nil]
    ((conv=>whnf);repeat(refine Xg ?_;conv=>whnf))
    refine ACalls.useR nnΓ [(0, 0)] hvd rfl (.cons (.ptr 0 0 0 0 rfl) .nil) ⟨⟨0, _, rfl, rfl, .same (encTP_nn _)⟩, trivial⟩ rfl ?_
    rintro r m n ⟨rfl, rfl, rfl⟩
    refine ⟨[(0, tB0 t)], nn, ⟨⟨0, _, rfl, rfl, .same (encTP_nn _)⟩, trivial⟩, rfl, ?_⟩
    ((conv=>whnf);repeat(refine Xg ?_;conv=>whnf))
    repeat ((first | refine setK_iff.2 ?_ | refine ⟨rfl, ?_⟩); ((conv=>whnf);repeat(refine Xg ?_;conv=>whnf)))
    rw [hb]
    ((conv=>whnf);repeat(refine Xg ?_;conv=>whnf))
    refine ACalls.useR nnΓ [(0, 0)] hvd rfl (.cons (.ptr 0 0 0 0 rfl) .nil) ⟨⟨0, _, rfl, rfl, .same (encTP_nn _)⟩, trivial⟩ rfl ?_
    rintro r m n ⟨rfl, rfl, rfl⟩
    refine ⟨[(0, tB0 t)], nn, ⟨⟨0, _, rfl, rfl, .same (encTP_nn _)⟩, trivial⟩, rfl, ?_⟩
    ((conv=>whnf);repeat(refine Xg ?_;conv=>whnf))
    repeat ((first | refine setK_iff.2 ?_ | refine ⟨rfl, ?_⟩); ((conv=>whnf);repeat(refine Xg ?_;conv=>whnf)))
    rw [hb2]
    ((conv=>whnf);repeat(refine Xg ?_;conv=>whnf))
    repeat ((first | refine setK_iff.2 ?_ | refine ⟨rfl, ?_⟩); ((conv=>whnf);repeat(refine Xg ?_;conv=>whnf)))
    exact fin_mk (r' := .agg [.bool false, .il 1 [], .bool false, .il 1 []]) (m' := [(0, tB0 t)]) (n' := 1) [(0, 0)] rfl ⟨⟨0, _, rfl, rfl, .same (encTP_nn _)⟩, trivial⟩ cvNil ⟨rfl, rfl, rfl⟩
   ·have hb2 : ((t.verdict : Int) != 0) = false := by rw [e0]; rfl
    have hres : chO v p (m + 1) t = chF v p (m + 1) t := by unfold chO; rw [if_neg e, if_neg (by omega)]
    have hcS : cS (m + 1) = 22 + 2 * cS m := rfl
    have ka := feed_k hk (by omega) true
    have kb := feed_k hk (by omega) false
    have ia := feed_in hi (by omega) true
    have ib := feed_in hi (by omega) false
    have ca := ih (n + 12) (k + 1) (feedT t true).1 ia ka (by omega) (by omega) (by omega)
    have cb := ih (n + 12) (k + 1) (feedT t false).1 ib kb (by omega) (by omega) (by omega)
    have fa := pFeed t true hk.tf
    have fb := pFeed t false hk.tf
    have na := chO_nF (v := v) hp m (n + 12) _ ia (by omega) (by omega)
    have nb := chO_nF (v := v) hp m (n + 12) _ ib (by omega) (by omega)
    have pa := chO_fp (v := v) hp m (n + 12) _ ia (by omega) (by omega)
    have pb' := chO_fp (v := v) hp m (n + 12) _ ib (by omega) (by omega)
    have za := (ch_val (v := v) hp m (n + 12) _ ia (by omega) (by omega)).1
    have zb := (ch_val (v := v) hp m (n + 12) _ ib (by omega) (by omega)).1
    have pfc := sz_fc hp (by decide) cp
    obtain ⟨q, s0, s1, s2, -⟩ := sub_all oneF_sz hp (by omega)
    obtain ⟨x, x0, x1, x2, -⟩ := mul_all hp za (by omega)
    obtain ⟨y, y0, y1, y2, -⟩ := mul_all s1 zb (by omega)
    obtain ⟨z, z0, z1, z2, -⟩ := add_all x1 y1 (by omega)
    have hsu : PureC Tryz.prog [] 24 [encP oneF, encP p] (.tup [encP q, .int .i64 0]) := by
     have h := pSub oneF p oneF_fc.fp pfc.fp
     rw [nF_can oneF_can, nF_can cp, s0] at h
     exact h
    have hma : PureC Tryz.prog [] 32 [encP p, encP (chO v p m (feedT t true).1)] (.tup [encP x, .int .i64 0]) := by
     have h := pMul p (chO v p m (feedT t true).1) pfc.fp pa.1 (by rw [nF_can cp]; exact cp) pa.2
     rw [nF_can cp, na, x0] at h
     exact h
    have hmb : PureC Tryz.prog [] 32 [encP q, encP (chO v p m (feedT t false).1)] (.tup [encP y, .int .i64 0]) := by
     have h := pMul q (chO v p m (feedT t false).1) (sz_fc s1 (by omega) s2).fp pb'.1 (by rw [nF_can s2]; exact s2) pb'.2
     rw [nF_can s2, nb, y0] at h
     exact h
    have had := pAddC x y z (sz_fc x1 (by omega) x2) (sz_fc y1 (by omega) y2) z0
    have hch : chF v p (m + 1) t = z := by
     conv => lhs; unfold chF
     rw [if_neg e, if_neg (by omega)]
     show (addF (mulF p (chF v p m (feedT t true).1)).1 (mulF (subF oneF p).1 (chF v p m (feedT t false).1)).1).1 = z
     rw [s0, x0]
     simp only
     rw [y0]
     simp only
     rw [z0]
    rw [hres, hch]
    have hw : IntKind.i64.wrap (((m + 1 : Nat) : Int) - 1) = (m : Int) := by rw [wrap64 ⟨by omega, by omega⟩]; omega
    have hm0 : (((m + 1 : Nat) : Int) == 0) = false := by rw [beq_eq_false_iff_ne]; omega
    clear ih na nb pa pb' za zb s1 x0 x1 x2 y0 y1 y2 z0 z1 z2 hres hch hcS
    generalize chO v p m (feedT t true).1 = CA at *
    generalize chO v p m (feedT t false).1 = CB at *
    obtain ⟨qb, ql, qc, qm, -, -, qq⟩ := encP_ex q
    obtain ⟨xb, xl, xc, xm, -, -, qx⟩ := encP_ex x
    obtain ⟨yb, yl, yc, ym, -, -, qy⟩ := encP_ex y
    obtain ⟨zb, zl, zc, zm, -, -, qz⟩ := encP_ex z
    obtain ⟨ab, al, ac, am, -, -, qa⟩ := encP_ex CA
    obtain ⟨bb, bl, bc, bm, -, -, qb'⟩ := encP_ex CB
    rw [qo, qp, qq] at hsu
    rw [qp, qa, qx] at hma
    rw [qq, qb', qy] at hmb
    rw [qx, qy, qz] at had
    rw [qp, qa] at ca
    rw [qp, qb'] at cb
    rw [qz]
    generalize (feedT t true).1 = TA at *
    generalize (feedT t false).1 = TB at *
    ((conv=>whnf);repeat(refine Xg ?_;conv=>whnf))
    refine ACalls.useR nnΓ [(0, 0)] hvd rfl (.cons (.ptr 0 0 0 0 rfl) .nil) ⟨⟨0, _, rfl, rfl, .same (encTP_nn _)⟩, trivial⟩ rfl ?_
    rintro r m n ⟨rfl, rfl, rfl⟩
    refine ⟨[(0, tB0 t)], nn, ⟨⟨0, _, rfl, rfl, .same (encTP_nn _)⟩, trivial⟩, rfl, ?_⟩
    ((conv=>whnf);repeat(refine Xg ?_;conv=>whnf))
    repeat ((first | refine setK_iff.2 ?_ | refine ⟨rfl, ?_⟩); ((conv=>whnf);repeat(refine Xg ?_;conv=>whnf)))
    rw [hb]
    ((conv=>whnf);repeat(refine Xg ?_;conv=>whnf))
    refine ACalls.useR nnΓ [(0, 0)] hvd rfl (.cons (.ptr 0 0 0 0 rfl) .nil) ⟨⟨0, _, rfl, rfl, .same (encTP_nn _)⟩, trivial⟩ rfl ?_
    rintro r m n ⟨rfl, rfl, rfl⟩
    refine ⟨[(0, tB0 t)], nn, ⟨⟨0, _, rfl, rfl, .same (encTP_nn _)⟩, trivial⟩, rfl, ?_⟩
    ((conv=>whnf);repeat(refine Xg ?_;conv=>whnf))
    repeat ((first | refine setK_iff.2 ?_ | refine ⟨rfl, ?_⟩); ((conv=>whnf);repeat(refine Xg ?_;conv=>whnf)))
    rw [hb2]
    ((conv=>whnf);repeat(refine Xg ?_;conv=>whnf))
    rw [hm0]
    ((conv=>whnf);repeat(refine Xg ?_;conv=>whnf))
    repeat ((first | refine setK_iff.2 ?_ | refine ⟨rfl, ?_⟩); ((conv=>whnf);repeat(refine Xg ?_;conv=>whnf)))
    refine ACalls.useN nnΓ [(0, 0)] (pCopy t) rfl (.cons (.ptr 0 0 0 0 rfl) .nil) ⟨⟨0, _, rfl, rfl, .same (encTP_nn t)⟩, trivial⟩ rfl ?_
    rintro r m' n' ⟨rfl, rfl, rfl⟩
    refine ⟨[(0, 0), (1, 3)], .ptr 3 0 0, [(0, tB0 t), (3, tB0 t)], 4, .ptr 1 3 0 0 rfl, ⟨⟨0, _, rfl, rfl, .same (encTP_nn t)⟩, ⟨1, _, rfl, rfl, .same (encTP_nn t)⟩, trivial⟩, rfl, ?_⟩
    ((conv=>whnf);repeat(refine Xg ?_;conv=>whnf))
    refine ACalls.useN nnΓ [(0, 0)] (pCopy t) rfl (.cons (.ptr 0 0 0 0 rfl) .nil) ⟨⟨0, _, rfl, rfl, .same (encTP_nn t)⟩, trivial⟩ rfl ?_
    rintro r m' n' ⟨rfl, rfl, rfl⟩
    refine ⟨[(0, 0), (1, 4)], .ptr 4 0 0, [(0, tB0 t), (4, tB0 t)], 5, .ptr 1 4 0 0 rfl, ⟨⟨0, _, rfl, rfl, .same (encTP_nn t)⟩, ⟨1, _, rfl, rfl, .same (encTP_nn t)⟩, trivial⟩, rfl, ?_⟩
    ((conv=>whnf);repeat(refine Xg ?_;conv=>whnf))
    refine ACalls.useR nnΓ [(3, 0)] fa rfl (.cons (.ptr 3 0 0 0 rfl) (.same (.cons (tB _) .nil))) ⟨⟨3, _, rfl, rfl, .same (encTP_nn _)⟩, trivial⟩ rfl ?_
    rintro r m n ⟨rfl, rfl, rfl⟩
    refine ⟨[(3, tB0 TA)], .tup' (.cons nn (.cons nn .nil)), ⟨⟨0, _, rfl, rfl, .same (encTP_nn _)⟩, trivial⟩, rfl, ?_⟩
    ((conv=>whnf);repeat(refine Xg ?_;conv=>whnf))
    repeat ((first | refine setK_iff.2 ?_ | refine ⟨rfl, ?_⟩); ((conv=>whnf);repeat(refine Xg ?_;conv=>whnf)))
    refine ACalls.useR nnΓ [(4, 0)] fb rfl (.cons (.ptr 4 0 0 0 rfl) (.same (.cons (tB _) .nil))) ⟨⟨4, _, rfl, rfl, .same (encTP_nn _)⟩, trivial⟩ rfl ?_
    rintro r m n ⟨rfl, rfl, rfl⟩
    refine ⟨[(4, tB0 TB)], .tup' (.cons nn (.cons nn .nil)), ⟨⟨0, _, rfl, rfl, .same (encTP_nn _)⟩, trivial⟩, rfl, ?_⟩
    ((conv=>whnf);repeat(refine Xg ?_;conv=>whnf))
    repeat ((first | refine setK_iff.2 ?_ | refine ⟨rfl, ?_⟩); ((conv=>whnf);repeat(refine Xg ?_;conv=>whnf)))
    refine h1p.go ?_ (.cons nn (.cons nn .nil)) (agP _ _ _ _)
    ((conv=>whnf);repeat(refine Xg ?_;conv=>whnf))
    repeat ((first | refine setK_iff.2 ?_ | refine ⟨rfl, ?_⟩); ((conv=>whnf);repeat(refine Xg ?_;conv=>whnf)))
    refine hsu.go ?_ (.cons (agP _ _ _ _) (.cons (agP _ _ _ _) .nil)) (.tup' (.cons (agP _ _ _ _) (.cons nn .nil)))
    ((conv=>whnf);repeat(refine Xg ?_;conv=>whnf))
    repeat ((first | refine setK_iff.2 ?_ | refine ⟨rfl, ?_⟩); ((conv=>whnf);repeat(refine Xg ?_;conv=>whnf)))
    rw [hw]
    refine ACalls.useR nnΓ [(3, 0)] ca rfl (.cons (.ptr 3 0 0 0 rfl) (.same (.cons nn (.cons (agP _ _ _ _) (.cons nn .nil))))) ⟨⟨3, _, rfl, rfl, .same (encTP_nn _)⟩, trivial⟩ rfl ?_
    rintro r m n ⟨rfl, rfl, rfl⟩
    refine ⟨[(3, tB0 TA)], agP _ _ _ _, ⟨⟨0, _, rfl, rfl, .same (encTP_nn _)⟩, trivial⟩, rfl, ?_⟩
    ((conv=>whnf);repeat(refine Xg ?_;conv=>whnf))
    repeat ((first | refine setK_iff.2 ?_ | refine ⟨rfl, ?_⟩); ((conv=>whnf);repeat(refine Xg ?_;conv=>whnf)))
    refine hma.go ?_ (.cons (agP _ _ _ _) (.cons (agP _ _ _ _) .nil)) (.tup' (.cons (agP _ _ _ _) (.cons nn .nil)))
    ((conv=>whnf);repeat(refine Xg ?_;conv=>whnf))
    repeat ((first | refine setK_iff.2 ?_ | refine ⟨rfl, ?_⟩); ((conv=>whnf);repeat(refine Xg ?_;conv=>whnf)))
    rw [hw]
    refine ACalls.useR nnΓ [(4, 0)] cb rfl (.cons (.ptr 4 0 0 0 rfl) (.same (.cons nn (.cons (agP _ _ _ _) (.cons nn .nil))))) ⟨⟨4, _, rfl, rfl, .same (encTP_nn _)⟩, trivial⟩ rfl ?_
    rintro r m n ⟨rfl, rfl, rfl⟩
    refine ⟨[(4, tB0 TB)], agP _ _ _ _, ⟨⟨0, _, rfl, rfl, .same (encTP_nn _)⟩, trivial⟩, rfl, ?_⟩
    ((conv=>whnf);repeat(refine Xg ?_;conv=>whnf))
    repeat ((first | refine setK_iff.2 ?_ | refine ⟨rfl, ?_⟩); ((conv=>whnf);repeat(refine Xg ?_;conv=>whnf)))
    refine hmb.go ?_ (.cons (agP _ _ _ _) (.cons (agP _ _ _ _) .nil)) (.tup' (.cons (agP _ _ _ _) (.cons nn .nil)))
    ((conv=>whnf);repeat(refine Xg ?_;conv=>whnf))
    repeat ((first | refine setK_iff.2 ?_ | refine ⟨rfl, ?_⟩); ((conv=>whnf);repeat(refine Xg ?_;conv=>whnf)))
    refine had.go ?_ (.cons (agP _ _ _ _) (.cons (agP _ _ _ _) .nil)) (.tup' (.cons (agP _ _ _ _) (.cons nn .nil)))
    ((conv=>whnf);repeat(refine Xg ?_;conv=>whnf))
    repeat ((first | refine setK_iff.2 ?_ | refine ⟨rfl, ?_⟩); ((conv=>whnf);repeat(refine Xg ?_;conv=>whnf)))
    exact fin_mk (r' := .agg [.bool zb, .il 1 (encU zl), .bool zc, .il 1 (encU zm)]) (m' := [(0, tB0 t)]) (n' := 1) [(0, 0)] rfl ⟨⟨0, _, rfl, rfl, .same (encTP_nn _)⟩, trivial⟩ (.same _ (agP _ _ _ _)) ⟨rfl, rfl, rfl⟩
end Go.Proofs.YtbannipihdlofaaGreatDoor
namespace Go.Ax
open Go
structure ErrIs (claim low alpha beta : Fr) (T : Tst) (A B X Y : Fr) : Prop where
 a : subF oneF beta = (A, 0)
 b : subF oneF alpha = (B, 0)
 x : divF alpha A = (X, 0)
 y : divF beta B = (Y, 0)
 ca : Can A ∧ Can B ∧ Can X ∧ Can Y
 sz : Sz 30 A ∧ Sz 30 B ∧ Sz 30 X ∧ Sz 30 Y
 t : TstIn 0 T
 h1 : cmpF (chF 1 low 7 T) X ≤ 0
 h2 : cmpF (chF 2 claim 7 T) Y ≤ 0
theorem le_of_mul {c x k : Rat} (hk : 0 < k) (h : c * k ≤ x * k) : c ≤ x := by
 rcases (show c ≤ x ∨ x < c by grind) with e | e
 ·exact e
 ·have := Rat.mul_lt_mul_of_pos_right e hk
  grind
theorem errors_ok {claim low alpha beta : Fr} (h1 : Sz 5 claim) (h2 : Sz 5 low) (h3 : Sz 5 alpha) (h4 : Sz 5 beta) {T : Tst} {e : Int} (h : newT claim low alpha beta = (some T, e)) : ∃ A B X Y, ErrIs claim low alpha beta T A B X Y := by
 have hT := new_ok h1 h2 h3 h4 h
 obtain ⟨f1, f2, f3⟩ := tst_factors hT
 have ha := hT.alp
 have hb := hT.bet
 have hs := hT.sum
 have hl := hT.low0
 have hlc := hT.lowc
 have hc1 := hT.clm
 obtain ⟨A, a1, a2, a3, a4⟩ := sub_all oneF_sz h4 (by omega)
 obtain ⟨B, b1, b2, b3, b4⟩ := sub_all oneF_sz h3 (by omega)
 rw [valF_one] at a4 b4
 obtain ⟨X, x1, x2, x3, x4⟩ := div_all h3 a2 (by grind) (by omega)
 obtain ⟨Y, y1, y2, y3, y4⟩ := div_all h4 b2 (by grind) (by omega)
 have hc7 : cS 7 < 16384 := by decide
 obtain ⟨s1, c1⟩ := ch_val (v := 1) (h2.mono (show 5 ≤ 10 by omega)) 7 0 T hT.sz (by omega) hc7
 obtain ⟨s2, c2⟩ := ch_val (v := 2) (h1.mono (show 5 ≤ 10 by omega)) 7 0 T hT.sz (by omega) hc7
 rw [hT.ver, hT.rat, valF_one] at c1 c2
 have hup : 0 < valF T.upper := by
  rcases (show 0 < valF T.upper ∨ valF T.upper ≤ 0 by grind) with q | q
  ·exact q
  ·have := Rat.mul_le_mul_of_nonneg_right q (show 0 ≤ valF alpha by grind)
   have := hT.up
   grind
 have hlo : 0 < valF T.lower := by
  rcases (show 0 < valF T.lower ∨ valF T.lower ≤ 0 by grind) with q | q
  ·exact q
  ·have := Rat.mul_le_mul_of_nonneg_right q (show 0 ≤ 1 - valF alpha by grind)
   have := hT.lo
   grind
 have p1 := ch_holds (up := valF T.upper) (lo := valF T.lower) hT.hit hT.miss hl (by grind) (by grind) f2 7 0 1 (by grind) (by simp)
 have p2 := ch_fails (up := valF T.upper) (lo := valF T.lower) hT.hit hT.miss hl (by grind) (by grind) f2 hlo 7 0 1 (by grind) (by simp)
 rw [← c1] at p1
 rw [← c2] at p2
 have q1 : valF (chF 1 low 7 T) ≤ valF X := by
  refine le_of_mul (k := valF A) (by grind) ?_
  have := Rat.mul_le_mul_of_nonneg_right p1 (show 0 ≤ valF alpha by grind)
  have hu := hT.up
  have e : valF (chF 1 low 7 T) * valF T.upper * valF alpha = valF (chF 1 low 7 T) * (valF T.upper * valF alpha) := by grind
  rw [e, hu] at this
  rw [x4, a4]
  grind
 have q2 : valF (chF 2 claim 7 T) ≤ valF Y := by
  refine le_of_mul (k := valF B) (by grind) ?_
  have := Rat.mul_le_mul_of_nonneg_right (show valF (chF 2 claim 7 T) ≤ valF T.lower by grind) (show 0 ≤ 1 - valF alpha by grind)
  have hu := hT.lo
  rw [hu] at this
  rw [y4, b4]
  exact this
 refine ⟨A, B, X, Y, a1, b1, x1, y1, ⟨a3, b3, x3, y3⟩, ⟨a2.mono (by omega), b2.mono (by omega), x2.mono (by omega), y2.mono (by omega)⟩, hT.sz, ?_, ?_⟩
 ·have := cmpF_gt (a := chF 1 low 7 T) (b := X) s1.pos x2.pos
  rcases Int.lt_or_le 0 (cmpF (chF 1 low 7 T) X) with g | g
  ·have := this.1 g; grind
  ·exact g
 ·have := cmpF_gt (a := chF 2 claim 7 T) (b := Y) s2.pos y2.pos
  rcases Int.lt_or_le 0 (cmpF (chF 2 claim 7 T) Y) with g | g
  ·have := this.1 g; grind
  ·exact g
theorem cmpF_self {a : Fr} (h : 0 < a.q) : cmpF a a = 0 := by
 have h1 := cmpF_lt h h
 have h2 := cmpF_gt h h
 rcases Int.lt_trichotomy (cmpF a a) 0 with e | e | e
 ·have := h1.1 e; grind
 ·exact e
 ·have := h2.1 e; grind
theorem feed_err {n : Nat} {t : Tst} (h : TstIn n t) (hn : n + 12 < 16384) (b : Bool) : ((feedT t b).2.2 == 0) = (t.verdict == 0) := by
 by_cases hv : t.verdict = 0
 ·obtain ⟨-, -, -, -, -, -, -, e, -⟩ := feed_open h hn hv b
  rw [e, hv]; rfl
 ·rw [feed_done hv, show (t.verdict == 0) = false from beq_eq_false_iff_ne.2 hv]; rfl
theorem grow_up {n : Nat} {t : Tst} (h : TstIn n t) (hn : n + 12 < 16384) (hv : t.verdict = 0) (hr : 0 < valF t.ratio) (h1 : 1 < valF t.hit) : 0 < cmpF (feedT t true).1.ratio t.ratio := by
 obtain ⟨a, e, -⟩ := feed_open h hn hv true
 rw [cmpF_gt a.ratio.pos h.ratio.pos, e]
 have := Rat.mul_lt_mul_of_pos_right h1 hr
 simp only [if_true]
 grind
theorem grow_down {n : Nat} {t : Tst} (h : TstIn n t) (hn : n + 12 < 16384) (hv : t.verdict = 0) (hr : 0 < valF t.ratio) (h1 : valF t.miss < 1) : cmpF (feedT t false).1.ratio t.ratio < 0 := by
 obtain ⟨a, e, -⟩ := feed_open h hn hv false
 rw [cmpF_lt a.ratio.pos h.ratio.pos, e]
 have := Rat.mul_lt_mul_of_pos_right h1 hr
 simp only [Bool.false_eq_true, if_false]
 grind
structure GrowIn (n : Nat) (t c : Tst) : Prop where
 ti : TstIn n t
 ci : TstIn n c
 same : SameT t c
 beh : Behind t c
 live : t.verdict = 0 → 0 < valF t.ratio
 hit : 1 < valF t.hit
 miss0 : 0 ≤ valF t.miss
 miss1 : valF t.miss < 1
 low : 0 < valF t.lower
theorem GrowIn.feed {n : Nat} {t c : Tst} (h : GrowIn n t c) (hn : n + 12 < 16384) {a b : Bool} (hab : a = true → b = true) : GrowIn (n + 12) (feedT t a).1 (feedT c b).1 := by
 obtain ⟨f1, f2, f3, f4⟩ := feed_same (t := t) a
 have hlive : (feedT t a).1.verdict = 0 → 0 < valF (feedT t a).1.ratio := by
  intro hv
  by_cases h0 : t.verdict = 0
  ·obtain ⟨-, -, e, -⟩ := feed_open h.ti hn h0 a
   rw [e] at hv
   unfold verQ at hv
   have hl := h.low
   split at hv
   ·cases hv
   split at hv
   ·cases hv
   ·grind
  ·rw [feed_done h0] at hv
   exact absurd hv h0
 refine ⟨feed_in h.ti hn a, feed_in h.ci hn b, h.same.feed a b, behind_feed h.ti h.ci hn h.same h.miss0 (by have := h.hit; have := h.miss1; grind) hab h.beh, hlive, ?_, ?_, ?_, ?_⟩
 ·rw [f1]; exact h.hit
 ·rw [f2]; exact h.miss0
 ·rw [f2]; exact h.miss1
 ·rw [f4]; exact h.low
theorem grow_start {claim low alpha beta : Fr} (h1 : Sz 5 claim) (h2 : Sz 5 low) (h3 : Sz 5 alpha) (h4 : Sz 5 beta) {T : Tst} {e : Int} (h : newT claim low alpha beta = (some T, e)) : GrowIn 0 T T := by
 have hT := new_ok h1 h2 h3 h4 h
 obtain ⟨f1, f2, f3⟩ := tst_factors hT
 have ha := hT.alp
 have hb := hT.bet
 have hs := hT.sum
 have hlo : 0 < valF T.lower := by
  rcases (show 0 < valF T.lower ∨ valF T.lower ≤ 0 by grind) with q | q
  ·exact q
  ·have := Rat.mul_le_mul_of_nonneg_right q (show 0 ≤ 1 - valF alpha by grind)
   have := hT.lo
   grind
 have hr : valF T.ratio = 1 := by rw [hT.rat, valF_one]
 exact ⟨hT.sz, hT.sz, ⟨rfl, rfl, rfl, rfl⟩, .inl ⟨hT.ver, hT.ver, by rw [hr]; grind, by grind⟩, fun _ => by rw [hr]; grind, f1, f2, f3, hlo⟩
structure PowIn (n : Nat) (h m : Fr) (t : Tst) : Prop where
 ti : TstIn (12 * n) t
 hit : t.hit = h
 miss : t.miss = m
 le : t.hits ≤ t.runs
 runs : t.runs ≤ n
 can : Can t.ratio
 val : valF t.ratio = valF h ^ t.hits * valF m ^ (t.runs - t.hits)
theorem PowIn.feed {n : Nat} {h m : Fr} {t : Tst} (p : PowIn n h m t) (hn : n ≤ 100) (hv : t.verdict = 0) (b : Bool) : PowIn (n + 1) h m (feedT t b).1 := by
 obtain ⟨e1, e2, -, e3, e4, -, -, -, -, e5, e6, e7⟩ := feed_open p.ti (by omega) hv b
 have hl := p.le
 have hr := p.runs
 have hz := p.ti.ratio.pos
 refine ⟨by rw [Nat.mul_add]; exact e1, by rw [e3]; exact p.hit, by rw [e4]; exact p.miss, ?_, by omega, ?_, ?_⟩
 ·rw [e6, e7]; split <;> omega
 ·rw [e5]
  refine mkF_can (Int.mul_ne_zero (by omega) ?_)
  have h1 := p.ti.hit.pos
  have h2 := p.ti.miss.pos
  split <;> omega
 ·rw [e2, p.val, e6, e7, p.hit, p.miss]
  cases b with
  | true =>
   simp only [if_true]
   rw [show t.runs + 1 - (t.hits + 1) = t.runs - t.hits by omega, Rat.pow_succ]
   grind
  | false =>
   simp only [Bool.false_eq_true, if_false]
   rw [show t.runs + 1 - t.hits = t.runs - t.hits + 1 by omega, Rat.pow_succ]
   grind
theorem PowIn.eq {n : Nat} {h m : Fr} {t : Tst} (p : PowIn n h m t) (hn : n ≤ 100) : mulF (powF h t.hits) (powF m (t.runs - t.hits)) = (t.ratio, 0) := by
 have z1 : Sz 12 h := by rw [← p.hit]; exact p.ti.hit
 have z2 : Sz 12 m := by rw [← p.miss]; exact p.ti.miss
 have hl := p.le
 have hr := p.runs
 obtain ⟨s, s1, -, s3, s4⟩ := mul_all (powF_sz z1 t.hits) (powF_sz z2 (t.runs - t.hits)) (by omega)
 rw [s1, can_ext s3 p.can]
 rw [s4, valF_pow z1.pos, valF_pow z2.pos, p.val]
theorem pow_start {claim low alpha beta : Fr} (h1 : Sz 5 claim) (h2 : Sz 5 low) (h3 : Sz 5 alpha) (h4 : Sz 5 beta) {T : Tst} {e : Int} (h : newT claim low alpha beta = (some T, e)) (r0 : T.runs = 0) (t0 : T.hits = 0) : PowIn 0 T.hit T.miss T := by
 have hT := new_ok h1 h2 h3 h4 h
 refine ⟨hT.sz, rfl, rfl, by omega, by omega, by rw [hT.rat]; exact ⟨by decide, by decide⟩, ?_⟩
 rw [hT.rat, valF_one, r0, t0]
 simp only [Nat.sub_self, Rat.pow_zero]
 grind
end Go.Ax
