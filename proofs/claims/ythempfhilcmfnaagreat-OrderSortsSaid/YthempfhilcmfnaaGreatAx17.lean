/- For every input (of three slices of ints), refuterlaw21.OrderSorts returns true, and its arguments read behind the call as they read before (the statement OrderSortsSaid, the full form). Conditions: none; no bound on sizes. -/
import Derived.Test.YthempfhilcmfnaaGreatAx16
import Derived.Test.YthempfhilcmfnaaGreatProg
import Derived.KernelRfl
import Derived.Test.YthempfhilcmfnaaGreatRows
import Derived.Test.YthempfhilcmfnaaGreatChecked
import Derived.Lib.LaidIn
set_option linter.unusedVariables false
namespace Go.Proofs.YthempfhilcmfnaaGreat
open Go Go.Ax Go.Proofs
set_option maxRecDepth 1000000
set_option maxRecDepth 1000000
def ix (n : Int) : AV := .int .i64 n
def exN (kind hi : Int) (ws ks : AV) : AV := .agg [ix kind, .str [], ix 0, ix hi, ws, .nsl, .nsl, ks, ix 0, ix 0, .str [], .nsl]
def exV : AV := .agg [.il 12 [exN 1 9 .nsl .nsl, exN 3 0 .nsl .nsl, exN 3 0 .nsl (.il 1 [ix 0]), exN 3 0 .nsl (.il 1 [ix 0, ix 0]), exN 3 0 .nsl (.il 1 [ix 0, ix 0, ix 0]), exN 2 0 (.il 1 [ix 1, ix 1, ix 1, ix 1]) (.il 1 [ix 1, ix 2, ix 3, ix 4])]]
def exP : List AV := [ix 2, ix 4, ix 4]
theorem exTree : ACalls Tryz.prog [] 28 [] [] 0 fun r m k => r = exV ∧ m = [] ∧ k = 0 := closedF nnΓ [] 80 rfl (by kernel_rfl)
def p21 (l : List (List Int)) : AV := .tup [.il 1 (l.map fun p => .il 1 (p.map ix)), ix 0]
def exM : Mem := [(0, .row 3 1 exP)]
set_option maxRecDepth 1000000
theorem exDeletes : ACalls Tryz.prog [] 27 [exV, .sl 0 0 3] exM 1 fun r m k => r = p21 [[1, 4], [2, 4, 0]] ∧ m = exM ∧ k = 1 := closedF nnΓ [105] 80 rfl (by kernel_rfl)
set_option maxRecDepth 1000000
theorem exLowers : ACalls Tryz.prog [] 29 [exV, .sl 0 0 3] exM 1 fun r m k => r = p21 [[0], [1, 4], [2, 0, 4], [2, 2, 4], [2, 3, 4], [2, 4, 0], [2, 4, 2], [2, 4, 3]] ∧ m = exM ∧ k = 1 := closedF nnΓ [105] 80 rfl (by kernel_rfl)
set_option maxRecDepth 1000000
theorem exSwaps : ACalls Tryz.prog [] 30 [exV, .sl 0 0 3] exM 1 fun r m k => r = p21 [] ∧ m = exM ∧ k = 1 := closedF nnΓ [105] 80 rfl (by kernel_rfl)
set_option maxRecDepth 1000000
theorem exShares : ACalls Tryz.prog [] 31 [exV, .sl 0 0 3] exM 1 fun r m k => r = p21 [[2, 2, 4], [2, 4, 2]] ∧ m = exM ∧ k = 1 := closedF nnΓ [105] 80 rfl (by kernel_rfl)
set_option maxRecDepth 100000
set_option maxHeartbeats 16000000
set_option linter.unusedSimpArgs false
theorem p21_eq (l : List (List Int)) : p21 l = .tup [.il 1 (encPs l), .int .i64 0] := rfl
theorem lives21 : PureC Tryz.prog [] 16 [] (.bool true) := by
 have h1 := exTree
 have h2 := exDeletes
 have h3 := exLowers
 have h4 := exSwaps
 have h5 := exShares
 rw [p21_eq] at h2 h3 h4 h5
 have s2 := rSameP [[1, 4], [2, 4, 0]] (by simp) (by simp [shortP])
 have s3 := rSameP [[0], [1, 4], [2, 0, 4], [2, 2, 4], [2, 3, 4], [2, 4, 0], [2, 4, 2], [2, 4, 3]] (by simp) (by simp [shortP])
 have s5 := rSameP [[2, 2, 4], [2, 4, 2]] (by simp) (by simp [shortP])
 have nx : NN exV := (frz_sound (m := []) (σ := []) 30 exV exV rfl).nn
 refine acalls_go nnΓ Tryz.func16 rfl ?_
 ((conv=>whnf);repeat(refine Xg ?_;conv=>whnf))
 refine ACalls.goG0 h1 ?_
 rintro r m n ⟨rfl, rfl, rfl⟩
 refine ⟨_, .same _ nx, ?_⟩
 ((conv=>whnf);repeat(refine Xg ?_;conv=>whnf))
 refine ACalls.exact h2 ?_
 ((conv=>whnf);repeat(refine Xg ?_;conv=>whnf))
 refine ACalls.goG0 h1 ?_
 rintro r m n ⟨rfl, rfl, rfl⟩
 refine ⟨_, .same _ nx, ?_⟩
 ((conv=>whnf);repeat(refine Xg ?_;conv=>whnf))
 refine ACalls.exact h3 ?_
 ((conv=>whnf);repeat(refine Xg ?_;conv=>whnf))
 refine ACalls.goG0 h1 ?_
 rintro r m n ⟨rfl, rfl, rfl⟩
 refine ⟨_, .same _ nx, ?_⟩
 ((conv=>whnf);repeat(refine Xg ?_;conv=>whnf))
 refine ACalls.exact h4 ?_
 ((conv=>whnf);repeat(refine Xg ?_;conv=>whnf))
 refine ACalls.goG0 h1 ?_
 rintro r m n ⟨rfl, rfl, rfl⟩
 refine ⟨_, .same _ nx, ?_⟩
 ((conv=>whnf);repeat(refine Xg ?_;conv=>whnf))
 refine ACalls.exact h5 ?_
 ((conv=>whnf);repeat(refine Xg ?_;conv=>whnf))
 refine s2.lend nnΓ (cvl_frz 30 rfl) (.bool true) ?_
 ((conv=>whnf);repeat(refine Xg ?_;conv=>whnf))
 refine s3.lend nnΓ (cvl_frz 30 rfl) (.bool true) ?_
 ((conv=>whnf);repeat(refine Xg ?_;conv=>whnf))
 refine s5.lend nnΓ (cvl_frz 30 rfl) (.bool true) ?_
 ((conv=>whnf);repeat(refine Xg ?_;conv=>whnf))
 exact fin_pure nn ⟨rfl, rfl, rfl⟩
set_option maxRecDepth 100000
set_option maxHeartbeats 16000000
set_option linter.unusedSimpArgs false
theorem encI_drop21 (l : List Int) (k : Nat) : Go.Ax.encI (l.drop k) = (Go.Ax.encI l).drop k := by simp [Go.Ax.encI, List.map_drop]
theorem lawOSortsW (l a b : List Int) (hl : ∀ x ∈ l, i64 x) (_ : ∀ x ∈ a, i64 x) (_ : ∀ x ∈ b, i64 x) (sl : l.length ≤ 17592186043904) (sa : a.length ≤ 17592186043904) (sb : b.length ≤ 17592186043904) : PureC Tryz.prog [] 3 [.il 1 (Go.Ax.encI l), .il 1 (Go.Ax.encI a), .il 1 (Go.Ax.encI b)] (.bool true) := by
 have nl : NN (.il 1 (Go.Ax.encI l)) := .il' (encI_nn l)
 have na : NN (.il 1 (Go.Ax.encI a)) := .il' (encI_nn a)
 have nb : NN (.il 1 (Go.Ax.encI b)) := .il' (encI_nn b)
 have ll := encI_length l
 refine acalls_go nnΓ Tryz.func3 rfl ?_
 ((conv=>whnf);repeat(refine Xg ?_;conv=>whnf))
 refine ALoop.ph 22 1 ?_
 refine ALoop.at nnΓ (fun x : List (List Int) => x.length ≤ 6 ∧ shortP x)
  (fun x => ⟨[(0, .il 1 (Go.Ax.encI l)), (1, .il 1 (Go.Ax.encI a)), (2, .il 1 (Go.Ax.encI b)), (7, .sl 0 0 x.length), (8, .int .i64 x.length)], [(0, .row 22 1 (encPs x))], 1, 83⟩)
  (fun x => 6 - x.length) [] [(0, 0)] ⟨by simp, by simp [shortP]⟩
  (conv_mk _ rfl ⟨⟨0, _, rfl, rfl, .nil⟩, trivial⟩ ⟨⟨_, rfl, .same _ nl⟩, ⟨_, rfl, .same _ na⟩, ⟨_, rfl, .same _ nb⟩, ⟨_, rfl, .nslk 0 0 _ rfl rfl⟩, ⟨_, rfl, .same _ nn⟩, trivial⟩) ?_
 rintro x ⟨x1, x2⟩
 have d1 : decide ((x.length : Int) < 6) = decide (x.length < 6) := decide_eq_decide.2 (by omega)
 have lx := encPs_length x
 by_cases hx : x.length < 6
 ·have hw : IntKind.i64.wrap (2 * (x.length : Int)) = ((2 * x.length : Nat) : Int) := by rw [wrap64 ⟨by omega, by omega⟩]; omega
  have hp := rPick l x.length 4 hl (by omega)
  obtain ⟨p0, p1⟩ := pickI_bound (l := l) (i := x.length) (most := 4) (by omega)
  generalize pickI l x.length 4 = c at *
  ((conv=>whnf);repeat(refine Xg ?_;conv=>whnf))
  rw [d1, decide_eq_true hx]
  ((conv=>whnf);repeat(refine Xg ?_;conv=>whnf))
  rw [show (Go.Ax.encI l).length = l.length from ll]
  obtain ⟨m, hm1, hm2⟩ : ∃ m : Nat, (if IntKind.i64.wrap (2 * (x.length : Int)) < (l.length : Int) then IntKind.i64.wrap (2 * (x.length : Int)) else (l.length : Int)) = (m : Int) ∧ m ≤ l.length := by
   rw [hw]
   split
   ·exact ⟨2 * x.length, rfl, by omega⟩
   ·exact ⟨l.length, rfl, Nat.le_refl _⟩
  rw [hm1, decide_eq_true (show (0 : Int) ≤ (m : Int) by omega)]
  ((conv=>whnf);repeat(refine Xg ?_;conv=>whnf))
  refine grd_mk (sl_ok (by simp; omega) (Nat.le_refl _) (Nat.le_refl _)) ?_
  ((conv=>whnf);repeat(refine Xg ?_;conv=>whnf))
  have hd : List.take (l.length - (m : Int).toNat) (List.drop (m : Int).toNat (Go.Ax.encI l)) = Go.Ax.encI (l.drop m) := by
   rw [encI_drop21, Int.toNat_natCast, List.take_of_length_le (by simp [encI_length])]
  rw [hd]
  have nd : NN (.il 1 (Go.Ax.encI (l.drop m))) := .il' (encI_nn _)
  repeat ((first | refine setK_iff.2 ?_ | refine ⟨rfl, ?_⟩); ((conv=>whnf);repeat(refine Xg ?_;conv=>whnf)))
  refine hp.go ?_ (.cons nl (.cons nn (.cons nn .nil))) nn
  ((conv=>whnf);repeat(refine Xg ?_;conv=>whnf))
  have hsl : (Nat.ble (m : Int).toNat (Go.Ax.encI l).length && (Nat.ble (Go.Ax.encI l).length (Go.Ax.encI l).length && Nat.ble (Go.Ax.encI l).length (Go.Ax.encI l).length)) = true := sl_ok (by simp [ll]; omega) (Nat.le_refl _) (Nat.le_refl _)
  rw [show l.length = (Go.Ax.encI l).length from ll.symm] at hd
  repeat ((first | refine grd_mk hsl ?_ | refine ⟨congrArg (AV.il 1) hd, ?_⟩ | refine setK_iff.2 ?_ | refine ⟨rfl, ?_⟩); ((conv=>whnf);repeat(refine Xg ?_;conv=>whnf)))
  obtain ⟨c, rfl⟩ := Int.eq_ofNat_of_zero_le p0
  refine ACalls.goG0 (rRaw (l.drop m) c (fun y hy => hl y (List.mem_of_mem_drop hy)) (by omega)) ?_
  rintro r m' n ⟨xs, xl, xi, rfl, rfl, rfl⟩
  have nxs : NN (.il 1 (Go.Ax.encI xs)) := .il' (encI_nn xs)
  refine ⟨_, .same _ nxs, ?_⟩
  ((conv=>whnf);repeat(refine Xg ?_;conv=>whnf))
  repeat ((first | refine setK_iff.2 ?_ | refine ⟨rfl, ?_⟩); ((conv=>whnf);repeat(refine Xg ?_;conv=>whnf)))
  refine grd_mk (app_ok rfl rfl (by rw [lx]) (by simp; omega)) ?_
  ((conv=>whnf);repeat(refine Xg ?_;conv=>whnf))
  exact .mk (x ++ [xs]) [(16, 0)] ⟨by simp; omega, fun y hy => by
    rcases List.mem_append.1 hy with hy | hy
    ·exact x2 y hy
    ·simp at hy; rw [hy, xl]; omega⟩
   (conv_mk _ rfl ⟨⟨16, _, rfl, rfl, .eq (encPs_nn _) (by simp [encPs])⟩, trivial⟩ ⟨⟨_, rfl, .same _ nl⟩, ⟨_, rfl, .same _ na⟩, ⟨_, rfl, .same _ nb⟩, ⟨_, rfl, .slE rfl (by simp)⟩, ⟨_, rfl, .w64 (by simp) ⟨by simp; omega, by simp; omega⟩⟩, trivial⟩) (by simp; omega)
 ·obtain ⟨M, hM⟩ : ∃ M, M = x ++ [a, b, a] := ⟨_, rfl⟩
  have hMe : encPs M = encPs x ++ List.take 3 (List.drop 0 [.il 1 (Go.Ax.encI a), .il 1 (Go.Ax.encI b), .il 1 (Go.Ax.encI a)]) := by rw [hM]; simp [encPs]
  have hMl : M.length ≤ 9 := by rw [hM]; simp; omega
  have hMs : shortP M := fun y hy => by
   rw [hM] at hy
   rcases List.mem_append.1 hy with hy | hy
   ·exact x2 y hy
   ·simp only [List.mem_cons, List.not_mem_nil, or_false] at hy
    rcases hy with rfl | rfl | rfl
    ·exact sa
    ·exact sb
    ·exact sa
  have nM : NN (.il 1 (encPs M)) := .il' (encPs_nn M)
  have lM := encPs_length M
  ((conv=>whnf);repeat(refine Xg ?_;conv=>whnf))
  rw [d1, decide_eq_false hx]
  ((conv=>whnf);repeat(refine Xg ?_;conv=>whnf))
  refine grd_mk (app_ok rfl rfl (by rw [lx]) (by simp; omega)) ?_
  ((conv=>whnf);repeat(refine Xg ?_;conv=>whnf))
  have hlen : x.length + (List.take 3 (List.drop 0 [AV.il 1 (Go.Ax.encI a), AV.il 1 (Go.Ax.encI b), AV.il 1 (Go.Ax.encI a)])).length = M.length := by rw [hM]; simp
  have htk : List.take M.length (List.drop 0 (encPs M)) = encPs M := by rw [List.drop_zero, List.take_of_length_le (by omega)]
  rw [← hMe, hlen, htk]
  refine grd_mk (by rw [lM, Nat.zero_add, Nat.ble_eq_true_of_le (Nat.le_refl _)]; rfl) ?_
  ((conv=>whnf);repeat(refine Xg ?_;conv=>whnf))
  refine grd_mk (app_ok rfl rfl rfl (by omega)) ?_
  ((conv=>whnf);repeat(refine Xg ?_;conv=>whnf))
  refine ALoop.at nnΓ (fun i : Nat => i ≤ M.length)
   (fun i => ⟨[(7, .il 1 (encPs M)), (9, .il 1 (encPs M)), (10, .int .i64 i)], [], 0, 83⟩) (fun i => M.length - i) 0 [] (by omega)
   (conv_pure ⟨⟨_, rfl, fz_row (id := 2) rfl lM.symm rfl (encPs_nn M)⟩, ⟨_, rfl, fz_row (id := 4) rfl (by simp) (by simp) (encPs_nn M)⟩, ⟨_, rfl, .same _ nn⟩, trivial⟩) ?_
  intro i hi
  have di : decide ((i : Int) < ((encPs M).length : Int)) = decide (i < M.length) := by rw [lM]; exact decide_eq_decide.2 (by omega)
  by_cases hit : i < M.length
  ·obtain ⟨p, pm, pg, pe⟩ := encPs_at hit
   ((conv=>whnf);repeat(refine Xg ?_;conv=>whnf))
   rw [di, decide_eq_true hit]
   ((conv=>whnf);repeat(refine Xg ?_;conv=>whnf))
   refine ALoop.at nnΓ (fun k : Nat => k ≤ M.length)
    (fun k => ⟨[(7, .il 1 (encPs M)), (9, .il 1 (encPs M)), (10, .int .i64 i), (11, .int .i64 k)], [], 0, 83⟩) (fun k => M.length - k) 0 [] (by omega)
    (conv_pure ⟨⟨_, rfl, .same _ nM⟩, ⟨_, rfl, .same _ nM⟩, ⟨_, rfl, .same _ nn⟩, ⟨_, rfl, .same _ nn⟩, trivial⟩) ?_
   intro k hk
   have dk : decide ((k : Int) < ((encPs M).length : Int)) = decide (k < M.length) := by rw [lM]; exact decide_eq_decide.2 (by omega)
   by_cases hkt : k < M.length
   ·obtain ⟨q, qm, qg, qe⟩ := encPs_at hkt
    have np : NN (.il 1 (Go.Ax.encI p)) := .il' (encI_nn p)
    have nq : NN (.il 1 (Go.Ax.encI q)) := .il' (encI_nn q)
    have h1 := oCmp p q (by have := hMs p pm; omega)
    have h2 := rCmp p q (by have := hMs p pm; omega)
    generalize cmpP p q = c at *
    ((conv=>whnf);repeat(refine Xg ?_;conv=>whnf))
    rw [dk, decide_eq_true hkt]
    ((conv=>whnf);repeat(refine Xg ?_;conv=>whnf))
    repeat ((first | refine opt_mk pe ?_ | refine opt_mk qe ?_ | refine setK_iff.2 ?_ | refine ⟨rfl, ?_⟩); ((conv=>whnf);repeat(refine Xg ?_;conv=>whnf)))
    refine h1.go ?_ (.cons np (.cons nq .nil)) nn
    ((conv=>whnf);repeat(refine Xg ?_;conv=>whnf))
    repeat ((first | refine opt_mk pe ?_ | refine opt_mk qe ?_ | refine setK_iff.2 ?_ | refine ⟨rfl, ?_⟩); ((conv=>whnf);repeat(refine Xg ?_;conv=>whnf)))
    refine h2.go ?_ (.cons np (.cons nq .nil)) nn
    ((conv=>whnf);repeat(refine Xg ?_;conv=>whnf))
    repeat ((first | refine opt_mk pe ?_ | refine opt_mk qe ?_ | refine setK_iff.2 ?_ | refine ⟨rfl, ?_⟩); ((conv=>whnf);repeat(refine Xg ?_;conv=>whnf)))
    rw [bne_self_eq_false]
    ((conv=>whnf);repeat(refine Xg ?_;conv=>whnf))
    exact .mk (k + 1) [] (by omega) (conv_pure ⟨⟨_, rfl, .same _ nM⟩, ⟨_, rfl, .same _ nM⟩, ⟨_, rfl, .same _ nn⟩, ⟨_, rfl, .w64 (by omega) ⟨by omega, by omega⟩⟩, trivial⟩) (by omega)
   ·((conv=>whnf);repeat(refine Xg ?_;conv=>whnf))
    rw [dk, decide_eq_false hkt]
    ((conv=>whnf);repeat(refine Xg ?_;conv=>whnf))
    exact .mk (i + 1) [] (by omega) (conv_pure ⟨⟨_, rfl, .same _ nM⟩, ⟨_, rfl, .same _ nM⟩, ⟨_, rfl, .w64 (by omega) ⟨by omega, by omega⟩⟩, trivial⟩) (by omega)
  ·have h1 := oSort M (by omega) hMs
   have h2 := rSort M (by omega) hMs
   have h3 := rSameP M (by omega) hMs
   have hS : (sortP M).length ≤ 9 := Nat.le_trans (sortP_length M) hMl
   have hSs : shortP (sortP M) := fun y hy => hMs y (sortP_mem hy)
   have h4 := rSameP (sortP M) (by omega) hSs
   have nS : NN (.il 1 (encPs (sortP M))) := .il' (encPs_nn _)
   generalize sortP M = S at *
   ((conv=>whnf);repeat(refine Xg ?_;conv=>whnf))
   rw [di, decide_eq_false hit]
   ((conv=>whnf);repeat(refine Xg ?_;conv=>whnf))
   refine h1.go ?_ (.cons nM .nil) nS
   ((conv=>whnf);repeat(refine Xg ?_;conv=>whnf))
   refine h2.go ?_ (.cons nM .nil) nS
   ((conv=>whnf);repeat(refine Xg ?_;conv=>whnf))
   refine h4.go ?_ (.cons nS (.cons nS .nil)) nn
   ((conv=>whnf);repeat(refine Xg ?_;conv=>whnf))
   refine h3.go ?_ (.cons nM (.cons nM .nil)) nn
   ((conv=>whnf);repeat(refine Xg ?_;conv=>whnf))
   refine lives21.go ?_ .nil nn
   ((conv=>whnf);repeat(refine Xg ?_;conv=>whnf))
   exact fin_pure nn ⟨rfl, rfl, rfl⟩
end Go.Proofs.YthempfhilcmfnaaGreat
namespace Go.Proofs.YthempfhilcmfnaaGreat.OrderSorts
open Go.ChangeShapes Go.WideShapes Go.ChangeAt Go.RowKit Go.Lib Go.Ax
theorem own : ownKnob Tryz.prog.godebug = none := by kernel_rfl
theorem laidOut : laidOutB Tryz.prog = true := by kernel_rfl
theorem cells3 : Tryz.prog.cellsOf 3 = 1 := by kernel_rfl
theorem bytes3 : Tryz.prog.bytesOf 3 = 8 := by kernel_rfl
set_option maxRecDepth 100000 in
theorem contract (H : Type) (enc : TypeId × Value → H) (W : World) (base : Nat) (args : Array Value) (ds gs : List (DataW H)) (before : List MemPlace)
  (hval : ∀ (j : Nat) t v, Tryz.f3.params[j]? = some t → args[j]? = some v → Value.okWide Tryz.prog W .any base t v)
  (hW : DataW.Whole enc Tryz.prog Tryz.f3.params.toList Rows.orderSortsSpec.vars false W args.toList ds gs before) (hL : laidMetH Tryz.prog Rows.orderSortsRow.laid W) (vt : List TypeId) (hsz : (DataW.weightsEach Tryz.prog (Tryz.f3.params.toList ++ vt) (ds ++ gs)).all (· ≤ reachBytes) = true) :
  Calls Tryz.prog 3 args W fun e W' => ∃ v, e = .returned v ∧ Rows.orderSortsSpec.post enc Tryz.prog Tryz.f3 false true false false W args v W' := by
 have hW' := hW
 obtain ⟨p, q, hA0, hV, rfl, hfz, hnd⟩ := hW
 have hA : DataW.TrodAll enc Tryz.prog W 0 (fun _ => true) true Tryz.f3.params.toList args.toList ds p := hA0
 rw [Tryz.params3] at hA hval
 rw [Tryz.params3] at hsz
 obtain ⟨v0, vs0, d0, ds0, p0, q0, hargs, rfl, rfl, h0, r0⟩ := trodAll_cons hA
 obtain ⟨v1, vs1, d1, ds1, p1, q1, rfl, rfl, rfl, h1, r1⟩ := trodAll_cons r0
 obtain ⟨v2, vs2, d2, ds2, p2, q2, rfl, rfl, rfl, h2, r2⟩ := trodAll_cons r1
 obtain ⟨rfl, rfl, rfl⟩ := trodAll_nil r2
 obtain rfl : args = #[v0, v1, v2] := by cases args; simp_all
 obtain ⟨rfl, rfl⟩ := trodVars_none hV
 have hw0 : (d0.weights Tryz.prog 22).all (· ≤ reachBytes) = true := weights_head (hsz)
 have hw1 : (d1.weights Tryz.prog 22).all (· ≤ reachBytes) = true := weights_head (weights_tail (hsz))
 have hw2 : (d2.weights Tryz.prog 22).all (· ≤ reachBytes) = true := weights_head (weights_tail (weights_tail (hsz)))
 have h0k := h0
 obtain ⟨x0, b0, e0, s0⟩ := vr_ints_sz Tryz.underlying22 Tryz.underlying3 cells3 bytes3 (hval 0 22 v0 rfl rfl) h0 hw0
 have h1k := h1
 obtain ⟨x1, b1, e1, s1⟩ := vr_ints_sz Tryz.underlying22 Tryz.underlying3 cells3 bytes3 (hval 1 22 v1 rfl rfl) h1 hw1
 have h2k := h2
 obtain ⟨x2, b2, e2, s2⟩ := vr_ints_sz Tryz.underlying22 Tryz.underlying3 cells3 bytes3 (hval 2 22 v2 rfl rfl) h2 hw2
 clear hA0
 refine ((lawOSortsW x0 x1 x2 b0 b1 b2 s0 s1 s2).calls W [v0, v1, v2] (.cons e0 (.cons e1 (.cons e2 .nil)))).mono ?_
 rintro e W' ⟨rfl, hk⟩
 refine ⟨_, rfl, _, _, _, [], p0 ++ (p1 ++ (p2 ++ [])), [], hW', ?_, ?_, ?_, hk.frame _, fun h => by cases h⟩
 ·exact trodAll_cons_mk (shut_bool Tryz.underlying4 _) trodAll_mk0
 ·exact trodAll_cons_mk (Kept.trod laidOut (by kernel_rfl) (of_decide_eq_true (by kernel_rfl)) h0k hk) (trodAll_cons_mk (Kept.trod laidOut (by kernel_rfl) (of_decide_eq_true (by kernel_rfl)) h1k hk) (trodAll_cons_mk (Kept.trod laidOut (by kernel_rfl) (of_decide_eq_true (by kernel_rfl)) h2k hk) trodAll_mk0))
 ·rfl
noncomputable def laidWorld (os : Os) : World := World.holding Tryz.prog os ⟨#[], #[], []⟩
theorem laid_met (os : Os) (args : Array Value) : laidMet Tryz.prog Rows.orderSortsRow.laid ((laidWorld os).forCall (fun _ _ => 0) ⟨#[], args, []⟩).memory :=
 (LaidIn.of_run (l := Rows.orderSortsRow.laid) [] 8 (by kernel_rfl) (by kernel_rfl) (by kernel_rfl) (by kernel_rfl)).met
noncomputable abbrev wargs : Array Value := #[.slice none 0 0, .slice none 0 0, .slice none 0 0]
theorem reads (os : Os) {H : Type} (enc : TypeId × Value → H) : ∃ places, DataW.whole enc Tryz.prog ((laidWorld os).forCall (fun _ _ => 0) ⟨#[], wargs, []⟩).memory Tryz.f3.params.toList Rows.orderSortsSpec.vars false wargs.toList 8 = some ([.nil, .nil, .nil], [], places) :=
 ⟨[], by kernel_rfl⟩
set_option maxRecDepth 100000 in
theorem lifted (os : Os) (started : os.Started) (H : Type) (enc : TypeId × Value → H) (F : Stop.Interp) :
  ReturnsInHanded {} Tryz.checked os 3 .any ((OpenSpec.ofChange Rows.orderSortsSpec).preRow enc Tryz.prog Tryz.f3 Rows.orderSortsRow.domain false Rows.orderSortsRow.laid) (((OpenSpec.ofChange Rows.orderSortsSpec).at F).post enc Tryz.prog Tryz.f3 false true false false) := by
 obtain ⟨places, hx⟩ := reads os enc
 refine returnsInHanded_of_row (C := Tryz.checked) (s := OpenSpec.ofChange Rows.orderSortsSpec) own started (by kernel_rfl) Tryz.func3
  (witness_row_atRef (enc := enc) (C := Tryz.checked) false (laidWorld os) wargs rfl (by kernel_rfl) (by kernel_rfl) (by kernel_rfl)
   (OpenSpec.preRow_of_cond 8 hx (by kernel_rfl) (fun k hk => by cases hk) (by kernel_rfl) (laid_met os _))) ?_
 intro W base args ds gs before hval hW _ _ hsz hL _ _
 exact contract H enc W base args ds gs before hval hW hL _ hsz
theorem said : Rows.OrderSortsSaid :=
 OpenClaim.holds_of_cond 3 Tryz.f3 rfl rfl rfl rfl rfl rfl rfl ⟨rfl, rfl, rfl, rfl, rfl⟩ rfl rfl rfl rfl rfl (by kernel_rfl) Tryz.func3 (by kernel_rfl)
  (of_decide_eq_true (by kernel_rfl)) (by unfold Func.isWrapper; first | (rw [if_pos (by decide +kernel)]; kernel_rfl) | (rw [if_neg (by decide +kernel)]; exact ⟨rfl, rfl⟩))
  (fun os started H enc _ F => by rw [OpenClaim.pre_eq_preRow]; exact lifted os started H enc F)
end Go.Proofs.YthempfhilcmfnaaGreat.OrderSorts
