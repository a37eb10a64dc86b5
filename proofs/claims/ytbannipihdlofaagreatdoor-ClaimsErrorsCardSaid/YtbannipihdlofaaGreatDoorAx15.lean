/- For every input (of a slice of ints), refuterlaw25.ClaimsErrors returns true, and its arguments read behind the call as they read before (the card ClaimsErrorsCardSaid, the full form). Conditions: the package-level variables that the row lists hold, when the call begins, what the program's text lays (the card ties them to it); no bound on sizes. -/
import Derived.Test.YtbannipihdlofaaGreatDoorAx14
import Derived.Test.YtbannipihdlofaaGreatDoorCards
import Derived.Test.YtbannipihdlofaaGreatDoorTie
import Derived.Lib.LaidIn
set_option linter.unusedVariables false
namespace Go.Proofs.YtbannipihdlofaaGreatDoor
open Go Go.Ax Go.Proofs
set_option maxRecDepth 100000
set_option maxHeartbeats 16000000
set_option linter.unusedSimpArgs false
def bitB (x : Int) : Bool := x.tmod 2 == 0
def bitsL (l : List Int) (k : Nat) : List Bool := (l.take k).map bitB
def encBo (l : List Bool) : List AV := l.map AV.bool
theorem encBo_nn (l : List Bool) : NNs (encBo l) := by
 induction l with
 | nil => exact .nil
 | cons a l ih => exact .cons (tBo a) ih
theorem encBo_length (l : List Bool) : (encBo l).length = l.length := by simp [encBo]
theorem bitsL_length (l : List Int) (k : Nat) : (bitsL l k).length = min k l.length := by simp [bitsL]
theorem bitsL_succ {l : List Int} {i : Nat} (h : i < l.length) : encBo (bitsL l (i + 1)) = encBo (bitsL l i) ++ [.bool (bitB (l.getD i 0))] := by
 unfold bitsL encBo
 rw [List.take_succ_eq_append_getElem h, List.map_append, List.map_append, List.getD_eq_getElem?_getD, List.getElem?_eq_getElem h]
 rfl
theorem encBo_get {l : List Bool} {i : Nat} (h : i < l.length) : (encBo l)[((i : Nat) : Int).toNat]? = some (.bool (l.getD i false)) := by
 rw [Int.toNat_natCast]
 unfold encBo
 rw [List.getElem?_map, List.getElem?_eq_getElem h]
 simp [List.getD_eq_getElem?_getD, List.getElem?_eq_getElem h]
theorem lBits (l : List Int) (k : Nat) (hk : k ≤ 1000) : PureC Tryz.prog [] 10 [.il 1 (encI l), .int .i64 k] (.il 1 (encBo (bitsL l k))) := by
 refine acalls_go nnΓ Tryz.func10 rfl ?_
 ((conv=>whnf);repeat(refine Xg ?_;conv=>whnf))
 refine ALoop.ph 4 1 ?_
 refine ALoop.at nnΓ (fun i : Nat => i ≤ l.length ∧ i ≤ k)
  (fun i => ⟨[(0, .il 1 (encI l)), (1, .int .i64 k), (5, .sl 0 0 i), (6, .int .i64 i)], [(0, .row 4 1 (encBo (bitsL l i)))], 1, 28⟩)
  (fun i => l.length - i) 0 [(0, 0)] ⟨by omega, by omega⟩
  (conv_mk _ rfl ⟨⟨0, _, rfl, rfl, .nil⟩, trivial⟩ ⟨⟨_, rfl, .same _ (.il' (encI_nn l))⟩, ⟨_, rfl, .same _ nn⟩, ⟨_, rfl, .nslk 0 0 _ rfl rfl⟩, ⟨_, rfl, .same _ nn⟩, trivial⟩) ?_
 rintro i ⟨h1, h2⟩
 have hlen : (encBo (bitsL l i)).length = i := by rw [encBo_length, bitsL_length]; omega
 have hd1 : decide ((i : Int) < ((encI l).length : Int)) = decide (i < l.length) := by rw [encI_length]; exact decide_eq_decide.2 (by omega)
 have hd2 : decide ((i : Int) < (k : Int)) = decide (i < k) := decide_eq_decide.2 (by omega)
 by_cases hb : i < l.length ∧ i < k
 ·have hg : (encI l)[((i : Nat) : Int).toNat]? = some (.int .i64 (l.getD i 0)) := by rw [Int.toNat_natCast, encI_get, List.getD_eq_getElem?_getD, List.getElem?_eq_getElem (by omega)]; rfl
  have hs := bitsL_succ hb.1
  have hbb : (l.getD i 0).tmod 2 == 0 ↔ bitB (l.getD i 0) = true := Iff.rfl
  have hbe : ((l.getD i 0).tmod 2 == 0) = bitB (l.getD i 0) := rfl
  generalize l.getD i 0 = x at *
  ((conv=>whnf);repeat(refine Xg ?_;conv=>whnf))
  rw [hd1, decide_eq_true hb.1]
  ((conv=>whnf);repeat(refine Xg ?_;conv=>whnf))
  rw [hd2, decide_eq_true hb.2]
  ((conv=>whnf);repeat(refine Xg ?_;conv=>whnf))
  refine opt_mk hg ?_
  ((conv=>whnf);repeat(refine Xg ?_;conv=>whnf))
  rw [hbe]
  refine grd_mk (app_ok rfl rfl hlen.symm (by simp; omega)) ?_
  ((conv=>whnf);repeat(refine Xg ?_;conv=>whnf))
  exact .mk (i + 1) [(2, 0)] ⟨hb.1, hb.2⟩
   (conv_mk _ rfl ⟨⟨2, _, rfl, rfl, .eq (encBo_nn _) hs.symm⟩, trivial⟩ ⟨⟨_, rfl, .same _ (.il' (encI_nn l))⟩, ⟨_, rfl, .same _ nn⟩, ⟨_, rfl, .slE rfl (by simp [hlen])⟩, ⟨_, rfl, .w64 (by omega) ⟨by omega, by omega⟩⟩, trivial⟩) (by omega)
 ·have he : bitsL l i = bitsL l k := by
   unfold bitsL
   rcases (show i = k ∨ i = l.length by omega) with e | e
   ·rw [e]
   ·rw [e, List.take_length, List.take_of_length_le (by omega)]
  rcases (show ¬ i < l.length ∨ (i < l.length ∧ ¬ i < k) by omega) with h | ⟨h, h'⟩
  ·((conv=>whnf);repeat(refine Xg ?_;conv=>whnf))
   rw [hd1, decide_eq_false h]
   ((conv=>whnf);repeat(refine Xg ?_;conv=>whnf))
   exact fin_cv (r' := .il 1 (encBo (bitsL l k))) (.fz' (id := 0) (off := 0) (len := i) (ys := encBo (bitsL l k)) rfl rfl (by rw [hlen]; omega) (by rw [← he, List.drop_zero, List.take_of_length_le (by omega)]) (encBo_nn _)) ⟨rfl, rfl, rfl⟩
  ·((conv=>whnf);repeat(refine Xg ?_;conv=>whnf))
   rw [hd1, decide_eq_true h]
   ((conv=>whnf);repeat(refine Xg ?_;conv=>whnf))
   rw [hd2, decide_eq_false h']
   ((conv=>whnf);repeat(refine Xg ?_;conv=>whnf))
   exact fin_cv (r' := .il 1 (encBo (bitsL l k))) (.fz' (id := 0) (off := 0) (len := i) (ys := encBo (bitsL l k)) rfl rfl (by rw [hlen]; omega) (by rw [← he, List.drop_zero, List.take_of_length_le (by omega)]) (encBo_nn _)) ⟨rfl, rfl, rfl⟩
set_option maxHeartbeats 16000000
set_option linter.unusedSimpArgs false
def runT (T : Tst) (b : List Bool) : Nat → Tst
 | 0 => T
 | i + 1 => (feedT (runT T b i) (b.getD i false)).1
theorem new_zero {claim low alpha beta : Fr} {T : Tst} {e : Int} (h : newT claim low alpha beta = (some T, e)) : T.runs = 0 ∧ T.hits = 0 ∧ T.verdict = 0 ∧ T.ratio = oneF := by
 unfold newT at h
 split at h
 ·cases h
 split at h
 ·cases h
 split at h
 ·cases h
 simp only at h
 split at h
 ·cases h
 ·cases h; exact ⟨rfl, rfl, rfl, rfl⟩
theorem tk_zero {claim low alpha beta : Fr} {T : Tst} {e : Int} (h : newT claim low alpha beta = (some T, e)) (hT : TF T) : TK 0 T := by
 obtain ⟨a, b, -⟩ := new_zero h
 exact ⟨hT, by omega, by omega⟩
theorem run_k {T : Tst} (b : List Bool) (h : TK 0 T) : ∀ i, i ≤ 1000 → TK i (runT T b i)
 | 0, _ => h
 | i + 1, hi => feed_k (run_k b h i (by omega)) (by omega) _
theorem feed_says (t : Tst) (b : Bool) : (feedT t b).2.1 = ((feedT t b).1.verdict : Int) := by
 unfold feedT
 generalize mulF t.ratio (if b then t.hit else t.miss) = r
 split
 ·rfl
 ·rename_i h
  split
  ·show (0 : Int) = t.verdict
   omega
  ·rfl
theorem encTF_ex (t : Tst) : ∃ (hb hc mb mc ub uc lb lc rb rc : Bool) (hl hm ml mm ul um ll lm rl rm : List Nat), encF t.hit = .agg [.bool hb, .il 1 (encD hl), .bool hc, .il 1 (encD hm)] ∧ encF t.miss = .agg [.bool mb, .il 1 (encD ml), .bool mc, .il 1 (encD mm)] ∧ encF t.ratio = .agg [.bool rb, .il 1 (encD rl), .bool rc, .il 1 (encD rm)] ∧ encTF t = .agg [.bool hb, .il 1 (encD hl), .bool hc, .il 1 (encD hm), .bool mb, .il 1 (encD ml), .bool mc, .il 1 (encD mm), .bool ub, .il 1 (encD ul), .bool uc, .il 1 (encD um), .bool lb, .il 1 (encD ll), .bool lc, .il 1 (encD lm), .bool rb, .il 1 (encD rl), .bool rc, .il 1 (encD rm), .int .i64 t.verdict, .int .i64 t.runs, .int .i64 t.hits] := by
 obtain ⟨hb, hl, hc, hm, -, -, q1⟩ := encF_ex t.hit
 obtain ⟨mb, ml, mc, mm, -, -, q2⟩ := encF_ex t.miss
 obtain ⟨ub, ul, uc, um, -, -, q3⟩ := encF_ex t.upper
 obtain ⟨lb, ll, lc, lm, -, -, q4⟩ := encF_ex t.lower
 obtain ⟨rb, rl, rc, rm, -, -, q5⟩ := encF_ex t.ratio
 exact ⟨hb, hc, mb, mc, ub, uc, lb, lc, rb, rc, hl, hm, ml, mm, ul, um, ll, lm, rl, rm, q1, q2, q5, encTF_mk q1 q2 q3 q4 q5⟩
theorem lawFeedsW (l m : List Int) (_ : ∀ x ∈ l, i64 x) (_ : ∀ x ∈ m, i64 x) : PureC Tryz.prog gz 3 [.il 1 (encI l), .il 1 (encI m)] (.bool true) := by
 have hbits : PureC Tryz.prog [] 10 [.il 1 (encI m), .int .i64 30] (.il 1 (encBo (bitsL m 30))) := lBits m 30 (by omega)
 have hbl : (bitsL m 30).length ≤ 30 := by rw [bitsL_length]; omega
 generalize bitsL m 30 = b at *
 refine acalls_go nngz Tryz.func3 rfl ?_
 ((conv=>whnf);repeat(refine Xg ?_;conv=>whnf))
 refine ACalls.useN nngz [] (lBoth l) rfl (.cons (.same _ (.il' (encI_nn l))) .nil) trivial rfl ?_
 rintro r m' n' hQ
 rcases hQ with ⟨hN, rfl, rfl, rfl⟩ | ⟨T, hT, hTF, rfl, rfl, rfl⟩
 ·refine ⟨[], .tup [.nptr, .nptr, .bool true], [], 0, .same _ (.tup' (.cons .nptr (.cons .nptr (.cons (tBo _) .nil)))), trivial, rfl, ?_⟩
  ((conv=>whnf);repeat(refine Xg ?_;conv=>whnf))
  repeat ((first | refine setK_iff.2 ?_ | refine ⟨rfl, ?_⟩); ((conv=>whnf);repeat(refine Xg ?_;conv=>whnf)))
  refine PureC.use lives25 nngz .nil (tBo _) ?_
  ((conv=>whnf);repeat(refine Xg ?_;conv=>whnf))
  exact fin_pure (tBo _) ⟨rfl, rfl, rfl⟩
 ·refine ⟨[(0, 0), (1, 1)], .tup [.ptr 0 0 0, .ptr 1 0 0, .bool true], [(0, tB0 T), (1, rB0 T)], 2, .tup' (.cons (.ptr 0 0 0 0 rfl) (.cons (.ptr 1 1 0 0 rfl) (.cons (.same _ (tBo _)) .nil))), ⟨⟨0, _, rfl, rfl, .same (encTP_nn T)⟩, ⟨1, _, rfl, rfl, .same (encTF_nn T)⟩, trivial⟩, rfl, ?_⟩
  ((conv=>whnf);repeat(refine Xg ?_;conv=>whnf))
  repeat ((first | refine setK_iff.2 ?_ | refine ⟨rfl, ?_⟩); ((conv=>whnf);repeat(refine Xg ?_;conv=>whnf)))
  refine hbits.goG ?_ (.cons (.il' (encI_nn m)) (.cons nn .nil)) (.il' (encBo_nn _))
  ((conv=>whnf);repeat(refine Xg ?_;conv=>whnf))
  have h0 := tk_zero (show newT _ _ _ _ = (some T, 0) from hT) hTF
  refine ALoop.at nngz (fun i : Nat => i ≤ b.length)
   (fun i => ⟨[(5, .ptr 0 0 0), (6, .ptr 1 0 0), (8, .il 1 (encBo b)), (9, .int .i64 i)], [(0, tB0 (runT T b i)), (1, rB0 (runT T b i))], 2, 102⟩)
   (fun i => b.length - i) 0 [(0, 0), (1, 1)] (by omega)
   (conv_mk _ rfl ⟨⟨0, _, rfl, rfl, .same (encTP_nn T)⟩, ⟨1, _, rfl, rfl, .same (encTF_nn T)⟩, trivial⟩ ⟨⟨_, rfl, .ptr 0 0 0 0 rfl⟩, ⟨_, rfl, .ptr 1 1 0 0 rfl⟩, ⟨_, rfl, .same _ (.il' (encBo_nn b))⟩, ⟨_, rfl, .same _ nn⟩, trivial⟩) ?_
  intro i hi
  have hd : decide ((i : Int) < ((encBo b).length : Int)) = decide (i < b.length) := by rw [encBo_length]; exact decide_eq_decide.2 (by omega)
  by_cases hlt : i < b.length
  ·have hk := run_k b h0 i (by omega)
   have hk2 := run_k b h0 (i + 1) (by omega)
   have hg := encBo_get hlt
   have hst : runT T b (i + 1) = (feedT (runT T b i) (b.getD i false)).1 := rfl
   have hsay := feed_says (runT T b i) (b.getD i false)
   have hfp := pFeed (runT T b i) (b.getD i false) hk.tf
   have hff := fFeed (runT T b i) (b.getD i false) hk.tf
   generalize hS : runT T b i = S at *
   generalize hS2 : runT T b (i + 1) = S2 at *
   generalize b.getD i false = x at *
   rw [← hst] at hfp hff hsay
   rw [hsay] at hfp hff
   generalize (feedT S x).2.2 = e at *
   have hr := pRatio S2
   have hn := pRuns S2
   have hv := pVerdict S2
   have hs := pString S2.ratio hk2.tf.ratio
   have ht := fText S2.ratio hk2.tf.ratio
   obtain ⟨pb, pl, pc, pm, -, -, qp⟩ := encP_ex S2.ratio
   obtain ⟨hb, hc, mb, mc, ub, uc, lb, lc, rb, rc, hl, hm, ml, mm, ul, um, ll, lm, rl, rm, -, -, q5, qT⟩ := encTF_ex S2
   rw [qp] at hr hs
   rw [q5] at ht
   rw [qT] at hff
   generalize txtF S2.ratio = tx at *
   ((conv=>whnf);repeat(refine Xg ?_;conv=>whnf))
   rw [hd, decide_eq_true hlt]
   ((conv=>whnf);repeat(refine Xg ?_;conv=>whnf))
   refine opt_mk hg ?_
   ((conv=>whnf);repeat(refine Xg ?_;conv=>whnf))
   refine ACalls.useR nngz [(0, 0)] hfp.glob rfl (.cons (.ptr 0 0 0 0 rfl) (.same (.cons (tB _) .nil))) ⟨⟨0, _, rfl, rfl, .same (encTP_nn _)⟩, trivial⟩ rfl ?_
   rintro r m n ⟨rfl, rfl, rfl⟩
   refine ⟨[(0, tB0 S2)], .tup' (.cons nn (.cons nn .nil)), ⟨⟨0, _, rfl, rfl, .same (encTP_nn _)⟩, trivial⟩, rfl, ?_⟩
   ((conv=>whnf);repeat(refine Xg ?_;conv=>whnf))
   repeat ((first | refine setK_iff.2 ?_ | refine ⟨rfl, ?_⟩); ((conv=>whnf);repeat(refine Xg ?_;conv=>whnf)))
   refine opt_mk hg ?_
   ((conv=>whnf);repeat(refine Xg ?_;conv=>whnf))
   repeat ((first | refine setK_iff.2 ?_ | refine ⟨rfl, ?_⟩); ((conv=>whnf);repeat(refine Xg ?_;conv=>whnf)))
   refine ACalls.useR nngz [(1, 0)] hff.glob rfl (.cons (.ptr 1 0 0 0 rfl) (.same (.cons (tB _) .nil))) ⟨⟨1, _, rfl, rfl, .same (encTF_nn _)⟩, trivial⟩ rfl ?_
   rintro r m n ⟨rfl, rfl, rfl⟩
   refine ⟨[(1, .row 47 23 [.agg [.bool hb, .il 1 (encD hl), .bool hc, .il 1 (encD hm), .bool mb, .il 1 (encD ml), .bool mc, .il 1 (encD mm), .bool ub, .il 1 (encD ul), .bool uc, .il 1 (encD um), .bool lb, .il 1 (encD ll), .bool lc, .il 1 (encD lm), .bool rb, .il 1 (encD rl), .bool rc, .il 1 (encD rm), .int .i64 S2.verdict, .int .i64 S2.runs, .int .i64 S2.hits]])], .tup' (.cons nn (.cons nn .nil)), ⟨⟨0, _, rfl, rfl, .same (agFT _ _ _ _ _ _ _ _ _ _ _ _ _ _ _ _ _ _ _ _ _ _ _)⟩, trivial⟩, rfl, ?_⟩
   ((conv=>whnf);repeat(refine Xg ?_;conv=>whnf))
   repeat ((first | refine setK_iff.2 ?_ | refine ⟨rfl, ?_⟩); ((conv=>whnf);repeat(refine Xg ?_;conv=>whnf)))
   refine ACalls.useR nngz [(0, 0)] hn.glob rfl (.cons (.ptr 0 0 0 0 rfl) .nil) ⟨⟨0, _, rfl, rfl, .same (encTP_nn _)⟩, trivial⟩ rfl ?_
   rintro r m n ⟨rfl, rfl, rfl⟩
   refine ⟨[(0, tB0 S2)], .tup' (.cons nn (.cons nn .nil)), ⟨⟨0, _, rfl, rfl, .same (encTP_nn _)⟩, trivial⟩, rfl, ?_⟩
   ((conv=>whnf);repeat(refine Xg ?_;conv=>whnf))
   repeat ((first | refine setK_iff.2 ?_ | refine ⟨rfl, ?_⟩); ((conv=>whnf);repeat(refine Xg ?_;conv=>whnf)))
   refine ACalls.useR nngz [(0, 0)] hr.glob rfl (.cons (.ptr 0 0 0 0 rfl) .nil) ⟨⟨0, _, rfl, rfl, .same (encTP_nn _)⟩, trivial⟩ rfl ?_
   rintro r m n ⟨rfl, rfl, rfl⟩
   refine ⟨[(0, tB0 S2)], agP _ _ _ _, ⟨⟨0, _, rfl, rfl, .same (encTP_nn _)⟩, trivial⟩, rfl, ?_⟩
   ((conv=>whnf);repeat(refine Xg ?_;conv=>whnf))
   repeat ((first | refine setK_iff.2 ?_ | refine ⟨rfl, ?_⟩); ((conv=>whnf);repeat(refine Xg ?_;conv=>whnf)))
   have ne0 : ∀ z : Int, (z != z) = false := fun z => bne_self_eq_false z
   have nes : (!(tx == tx)) = false := by rw [beq_self_eq_true]; rfl
   rw [ne0]
   ((conv=>whnf);repeat(refine Xg ?_;conv=>whnf))
   repeat ((first | refine setK_iff.2 ?_ | refine ⟨rfl, ?_⟩); ((conv=>whnf);repeat(refine Xg ?_;conv=>whnf)))
   rw [ne0]
   ((conv=>whnf);repeat(refine Xg ?_;conv=>whnf))
   repeat ((first | refine setK_iff.2 ?_ | refine ⟨rfl, ?_⟩); ((conv=>whnf);repeat(refine Xg ?_;conv=>whnf)))
   refine ACalls.useR nngz [(0, 0)] hv.glob rfl (.cons (.ptr 0 0 0 0 rfl) .nil) ⟨⟨0, _, rfl, rfl, .same (encTP_nn _)⟩, trivial⟩ rfl ?_
   rintro r m n ⟨rfl, rfl, rfl⟩
   refine ⟨[(0, tB0 S2)], nn, ⟨⟨0, _, rfl, rfl, .same (encTP_nn _)⟩, trivial⟩, rfl, ?_⟩
   ((conv=>whnf);repeat(refine Xg ?_;conv=>whnf))
   repeat ((first | refine setK_iff.2 ?_ | refine ⟨rfl, ?_⟩); ((conv=>whnf);repeat(refine Xg ?_;conv=>whnf)))
   rw [ne0]
   ((conv=>whnf);repeat(refine Xg ?_;conv=>whnf))
   repeat ((first | refine setK_iff.2 ?_ | refine ⟨rfl, ?_⟩); ((conv=>whnf);repeat(refine Xg ?_;conv=>whnf)))
   rw [ne0]
   ((conv=>whnf);repeat(refine Xg ?_;conv=>whnf))
   repeat ((first | refine setK_iff.2 ?_ | refine ⟨rfl, ?_⟩); ((conv=>whnf);repeat(refine Xg ?_;conv=>whnf)))
   rw [ne0]
   ((conv=>whnf);repeat(refine Xg ?_;conv=>whnf))
   repeat ((first | refine setK_iff.2 ?_ | refine ⟨rfl, ?_⟩); ((conv=>whnf);repeat(refine Xg ?_;conv=>whnf)))
   refine PureC.use hs nngz (.cons (agP _ _ _ _) .nil) nn ?_
   ((conv=>whnf);repeat(refine Xg ?_;conv=>whnf))
   repeat ((first | refine setK_iff.2 ?_ | refine ⟨rfl, ?_⟩); ((conv=>whnf);repeat(refine Xg ?_;conv=>whnf)))
   refine ht.goG ?_ (.cons (agF _ _ _ _) .nil) nn
   ((conv=>whnf);repeat(refine Xg ?_;conv=>whnf))
   repeat ((first | refine setK_iff.2 ?_ | refine ⟨rfl, ?_⟩); ((conv=>whnf);repeat(refine Xg ?_;conv=>whnf)))
   rw [nes]
   ((conv=>whnf);repeat(refine Xg ?_;conv=>whnf))
   repeat ((first | refine setK_iff.2 ?_ | refine ⟨rfl, ?_⟩); ((conv=>whnf);repeat(refine Xg ?_;conv=>whnf)))
   exact .mk (i + 1) [(0, 0), (1, 1)] (by omega)
    (conv_mk _ rfl ⟨⟨0, _, rfl, rfl, .eq (encTP_nn _) (by rw [hS2])⟩, ⟨1, _, rfl, rfl, .eq (encTF_nn _) (by rw [hS2, qT])⟩, trivial⟩ ⟨⟨_, rfl, .ptr 0 0 0 0 rfl⟩, ⟨_, rfl, .ptr 1 1 0 0 rfl⟩, ⟨_, rfl, .same _ (.il' (encBo_nn b))⟩, ⟨_, rfl, .w64 (by omega) ⟨by omega, by omega⟩⟩, trivial⟩) (by omega)
  ·generalize runT T b i = S at *
   ((conv=>whnf);repeat(refine Xg ?_;conv=>whnf))
   rw [hd, decide_eq_false hlt]
   ((conv=>whnf);repeat(refine Xg ?_;conv=>whnf))
   repeat ((first | refine setK_iff.2 ?_ | refine ⟨rfl, ?_⟩); ((conv=>whnf);repeat(refine Xg ?_;conv=>whnf)))
   refine PureC.use lives25 nngz .nil (tBo _) ?_
   ((conv=>whnf);repeat(refine Xg ?_;conv=>whnf))
   exact fin_pure (tBo _) ⟨rfl, rfl, rfl⟩
set_option maxHeartbeats 16000000
set_option linter.unusedSimpArgs false
theorem lawErrorsW (l : List Int) (_ : ∀ x ∈ l, i64 x) : PureC Tryz.prog gz 5 [.il 1 (encI l)] (.bool true) := by
 obtain ⟨⟨ha, hb, hc, hd⟩, hN⟩ := fNumbers l
 have hB := lBoth l
 have hQ0 : ∀ r m n, bothQ l r m n → (newT (numsT l).1 (numsT l).2.1 (numsT l).2.2.1 (numsT l).2.2.2 = (none, 1) ∧ r = .tup [.nptr, .nptr, .bool true] ∧ m = [] ∧ n = 0) ∨ ∃ T, newT (numsT l).1 (numsT l).2.1 (numsT l).2.2.1 (numsT l).2.2.2 = (some T, 0) ∧ TF T ∧ r = .tup [.ptr 0 0 0, .ptr 1 0 0, .bool true] ∧ m = [(0, tB0 T), (1, rB0 T)] ∧ n = 2 := fun _ _ _ h => h
 generalize hBQ : bothQ l = BQ at *
 clear hBQ
 unfold encNum at hN
 generalize (numsT l).1 = a at *
 generalize (numsT l).2.1 = b at *
 generalize (numsT l).2.2.1 = c at *
 generalize (numsT l).2.2.2 = d at *
 have oa := lOf a ha.fc
 have ob := lOf b hb.fc
 have oc := lOf c hc.fc
 have od := lOf d hd.fc
 have o1 : PureC Tryz.prog [] 23 [.int .i64 1, .int .i64 1] (encP oneF) := lPortion 1 1 ⟨by omega, by omega⟩ ⟨by omega, by omega⟩ (by omega)
 obtain ⟨ab, al, ac, am, -, -, qa⟩ := encF_ex a
 obtain ⟨bb, bl, bc, bm, -, -, qb⟩ := encF_ex b
 obtain ⟨cb, cl, cc, cm, -, -, qc⟩ := encF_ex c
 obtain ⟨db, dl, dc, dm, -, -, qd⟩ := encF_ex d
 rw [qa, qb, qc, qd] at hN
 refine acalls_go nngz Tryz.func5 rfl ?_
 ((conv=>whnf);repeat(refine Xg ?_;conv=>whnf))
 refine hN.goG ?_ (.cons (.il' (encI_nn l)) .nil) (.il' (.cons (agF _ _ _ _) (.cons (agF _ _ _ _) (.cons (agF _ _ _ _) (.cons (agF _ _ _ _) .nil)))))
 ((conv=>whnf);repeat(refine Xg ?_;conv=>whnf))
 repeat ((first | refine setK_iff.2 ?_ | refine ⟨rfl, ?_⟩); ((conv=>whnf);repeat(refine Xg ?_;conv=>whnf)))
 refine ACalls.useN nngz [] hB rfl (.cons (.same _ (.il' (encI_nn l))) .nil) trivial rfl ?_
 rintro r m' n' hQ
 rcases hQ0 _ _ _ hQ with ⟨hN0, rfl, rfl, rfl⟩ | ⟨T, hT, hTF, rfl, rfl, rfl⟩
 ·refine ⟨[], .tup [.nptr, .nptr, .bool true], [], 0, .same _ (.tup' (.cons .nptr (.cons .nptr (.cons (tBo _) .nil)))), trivial, rfl, ?_⟩
  ((conv=>whnf);repeat(refine Xg ?_;conv=>whnf))
  repeat ((first | refine setK_iff.2 ?_ | refine ⟨rfl, ?_⟩); ((conv=>whnf);repeat(refine Xg ?_;conv=>whnf)))
  refine PureC.use lives25 nngz .nil (tBo _) ?_
  ((conv=>whnf);repeat(refine Xg ?_;conv=>whnf))
  exact fin_pure (tBo _) ⟨rfl, rfl, rfl⟩
 ·refine ⟨[(0, 0), (1, 1)], .tup [.ptr 0 0 0, .ptr 1 0 0, .bool true], [(0, tB0 T), (1, rB0 T)], 2, .tup' (.cons (.ptr 0 0 0 0 rfl) (.cons (.ptr 1 1 0 0 rfl) (.cons (.same _ (tBo _)) .nil))), ⟨⟨0, _, rfl, rfl, .same (encTP_nn T)⟩, ⟨1, _, rfl, rfl, .same (encTF_nn T)⟩, trivial⟩, rfl, ?_⟩
  obtain ⟨A, B, X, Y, hE⟩ := errors_ok ha.sz hb.sz hc.sz hd.sz hT
  have kt := tk_zero hT hTF
  have hb10 := hb.sz.mono (show 5 ≤ 10 by omega)
  have ha10 := ha.sz.mono (show 5 ≤ 10 by omega)
  have ch1 := lChance 1 (.inl rfl) b hb10 hb.can 7 0 0 T hE.t kt (by omega) (by omega) (by decide)
  have ch2 := lChance 2 (.inr rfl) a ha10 ha.can 7 0 0 T hE.t kt (by omega) (by omega) (by decide)
  have en1 := chO_nF (v := 1) hb10 7 0 T hE.t (by omega) (by decide)
  have en2 := chO_nF (v := 2) ha10 7 0 T hE.t (by omega) (by decide)
  have ef1 := chO_fp (v := 1) hb10 7 0 T hE.t (by omega) (by decide)
  have ef2 := chO_fp (v := 2) ha10 7 0 T hE.t (by omega) (by decide)
  have e1 := hE.h1
  have e2 := hE.h2
  rw [← en1] at e1
  rw [← en2] at e2
  generalize chO 1 b 7 T = C1 at *
  generalize chO 2 a 7 T = C2 at *
  obtain ⟨cA, cB, cX, cY⟩ := hE.ca
  obtain ⟨zA, zB, zX, zY⟩ := hE.sz
  have fA := sz_fc zA (by decide) cA
  have fB := sz_fc zB (by decide) cB
  have fX := sz_fc zX (by decide) cX
  have fY := sz_fc zY (by decide) cY
  have sa : PureC Tryz.prog [] 24 [encP oneF, encP d] (.tup [encP A, .int .i64 0]) := by
   have h := pSub oneF d oneF_fc.fp hd.fc.fp
   rw [nF_can oneF_can, nF_can hd.can, hE.a] at h
   exact h
  have sb : PureC Tryz.prog [] 24 [encP oneF, encP c] (.tup [encP B, .int .i64 0]) := by
   have h := pSub oneF c oneF_fc.fp hc.fc.fp
   rw [nF_can oneF_can, nF_can hc.can, hE.b] at h
   exact h
  have dx := pDivC c A X hc.fc fA hE.x
  have dy := pDivC d B Y hd.fc fB hE.y
  have k1 := pCompare C1 X ef1.1 fX.fp
  have k2 := pCompare C2 Y ef2.1 fY.fp
  rw [nF_can fX.can] at k1
  rw [nF_can fY.can] at k2
  generalize cmpF (nF C1) X = x1 at *
  generalize cmpF (nF C2) Y = x2 at *
  obtain ⟨pb, pl, pc, pm, -, -, q1⟩ := encP_ex a
  obtain ⟨rb, rl, rc, rm, -, -, q2⟩ := encP_ex b
  obtain ⟨sb', sl, sc, sm, -, -, q3⟩ := encP_ex c
  obtain ⟨tb, tl, tc, tm, -, -, q4⟩ := encP_ex d
  obtain ⟨ub, ul, uc, um, -, -, q5⟩ := encP_ex oneF
  obtain ⟨Ab, Al, Ac, Am, -, -, q6⟩ := encP_ex A
  obtain ⟨Bb, Bl, Bc, Bm, -, -, q7⟩ := encP_ex B
  obtain ⟨Xb, Xl, Xc, Xm, -, -, q8⟩ := encP_ex X
  obtain ⟨Yb, Yl, Yc, Ym, -, -, q9⟩ := encP_ex Y
  obtain ⟨Cb, Cl, Cc, Cm, -, -, q10⟩ := encP_ex C1
  obtain ⟨Db, Dl, Dc, Dm, -, -, q11⟩ := encP_ex C2
  rw [qa, q1] at oa
  rw [qb, q2] at ob
  rw [qc, q3] at oc
  rw [qd, q4] at od
  rw [q5] at o1
  rw [q5, q4, q6] at sa
  rw [q5, q3, q7] at sb
  rw [q3, q6, q8] at dx
  rw [q4, q7, q9] at dy
  rw [q10, q8] at k1
  rw [q11, q9] at k2
  rw [q2, q10] at ch1
  rw [q1, q11] at ch2
  clear hE
  ((conv=>whnf);repeat(refine Xg ?_;conv=>whnf))
  repeat ((first | refine setK_iff.2 ?_ | refine ⟨rfl, ?_⟩); ((conv=>whnf);repeat(refine Xg ?_;conv=>whnf)))
  refine o1.goG ?_ (.cons nn (.cons nn .nil)) (agP _ _ _ _)
  ((conv=>whnf);repeat(refine Xg ?_;conv=>whnf))
  repeat ((first | refine setK_iff.2 ?_ | refine ⟨rfl, ?_⟩); ((conv=>whnf);repeat(refine Xg ?_;conv=>whnf)))
  refine PureC.use od nngz (.cons (agF _ _ _ _) .nil) (agP _ _ _ _) ?_
  ((conv=>whnf);repeat(refine Xg ?_;conv=>whnf))
  repeat ((first | refine setK_iff.2 ?_ | refine ⟨rfl, ?_⟩); ((conv=>whnf);repeat(refine Xg ?_;conv=>whnf)))
  refine sa.goG ?_ (.cons (agP _ _ _ _) (.cons (agP _ _ _ _) .nil)) (.tup' (.cons (agP _ _ _ _) (.cons nn .nil)))
  ((conv=>whnf);repeat(refine Xg ?_;conv=>whnf))
  repeat ((first | refine setK_iff.2 ?_ | refine ⟨rfl, ?_⟩); ((conv=>whnf);repeat(refine Xg ?_;conv=>whnf)))
  refine PureC.use oc nngz (.cons (agF _ _ _ _) .nil) (agP _ _ _ _) ?_
  ((conv=>whnf);repeat(refine Xg ?_;conv=>whnf))
  repeat ((first | refine setK_iff.2 ?_ | refine ⟨rfl, ?_⟩); ((conv=>whnf);repeat(refine Xg ?_;conv=>whnf)))
  refine sb.goG ?_ (.cons (agP _ _ _ _) (.cons (agP _ _ _ _) .nil)) (.tup' (.cons (agP _ _ _ _) (.cons nn .nil)))
  ((conv=>whnf);repeat(refine Xg ?_;conv=>whnf))
  repeat ((first | refine setK_iff.2 ?_ | refine ⟨rfl, ?_⟩); ((conv=>whnf);repeat(refine Xg ?_;conv=>whnf)))
  refine PureC.use oc nngz (.cons (agF _ _ _ _) .nil) (agP _ _ _ _) ?_
  ((conv=>whnf);repeat(refine Xg ?_;conv=>whnf))
  repeat ((first | refine setK_iff.2 ?_ | refine ⟨rfl, ?_⟩); ((conv=>whnf);repeat(refine Xg ?_;conv=>whnf)))
  refine dx.goG ?_ (.cons (agP _ _ _ _) (.cons (agP _ _ _ _) .nil)) (.tup' (.cons (agP _ _ _ _) (.cons nn .nil)))
  ((conv=>whnf);repeat(refine Xg ?_;conv=>whnf))
  repeat ((first | refine setK_iff.2 ?_ | refine ⟨rfl, ?_⟩); ((conv=>whnf);repeat(refine Xg ?_;conv=>whnf)))
  refine PureC.use od nngz (.cons (agF _ _ _ _) .nil) (agP _ _ _ _) ?_
  ((conv=>whnf);repeat(refine Xg ?_;conv=>whnf))
  repeat ((first | refine setK_iff.2 ?_ | refine ⟨rfl, ?_⟩); ((conv=>whnf);repeat(refine Xg ?_;conv=>whnf)))
  refine dy.goG ?_ (.cons (agP _ _ _ _) (.cons (agP _ _ _ _) .nil)) (.tup' (.cons (agP _ _ _ _) (.cons nn .nil)))
  ((conv=>whnf);repeat(refine Xg ?_;conv=>whnf))
  repeat ((first | refine setK_iff.2 ?_ | refine ⟨rfl, ?_⟩); ((conv=>whnf);repeat(refine Xg ?_;conv=>whnf)))
  refine PureC.use ob nngz (.cons (agF _ _ _ _) .nil) (agP _ _ _ _) ?_
  ((conv=>whnf);repeat(refine Xg ?_;conv=>whnf))
  repeat ((first | refine setK_iff.2 ?_ | refine ⟨rfl, ?_⟩); ((conv=>whnf);repeat(refine Xg ?_;conv=>whnf)))
  refine ACalls.useR nngz [(0, 0)] ch1.glob rfl (.cons (.ptr 0 0 0 0 rfl) (.same (.cons nn (.cons (agP _ _ _ _) (.cons nn .nil))))) ⟨⟨0, _, rfl, rfl, .same (encTP_nn _)⟩, trivial⟩ rfl ?_
  rintro r m n ⟨rfl, rfl, rfl⟩
  refine ⟨[(0, tB0 T)], agP _ _ _ _, ⟨⟨0, _, rfl, rfl, .same (encTP_nn _)⟩, trivial⟩, rfl, ?_⟩
  ((conv=>whnf);repeat(refine Xg ?_;conv=>whnf))
  repeat ((first | refine setK_iff.2 ?_ | refine ⟨rfl, ?_⟩); ((conv=>whnf);repeat(refine Xg ?_;conv=>whnf)))
  refine k1.goG ?_ (.cons (agP _ _ _ _) (.cons (agP _ _ _ _) .nil)) nn
  ((conv=>whnf);repeat(refine Xg ?_;conv=>whnf))
  repeat ((first | refine setK_iff.2 ?_ | refine ⟨rfl, ?_⟩); ((conv=>whnf);repeat(refine Xg ?_;conv=>whnf)))
  rw [decide_eq_true e1]
  ((conv=>whnf);repeat(refine Xg ?_;conv=>whnf))
  repeat ((first | refine setK_iff.2 ?_ | refine ⟨rfl, ?_⟩); ((conv=>whnf);repeat(refine Xg ?_;conv=>whnf)))
  refine PureC.use oa nngz (.cons (agF _ _ _ _) .nil) (agP _ _ _ _) ?_
  ((conv=>whnf);repeat(refine Xg ?_;conv=>whnf))
  repeat ((first | refine setK_iff.2 ?_ | refine ⟨rfl, ?_⟩); ((conv=>whnf);repeat(refine Xg ?_;conv=>whnf)))
  refine ACalls.useR nngz [(0, 0)] ch2.glob rfl (.cons (.ptr 0 0 0 0 rfl) (.same (.cons nn (.cons (agP _ _ _ _) (.cons nn .nil))))) ⟨⟨0, _, rfl, rfl, .same (encTP_nn _)⟩, trivial⟩ rfl ?_
  rintro r m n ⟨rfl, rfl, rfl⟩
  refine ⟨[(0, tB0 T)], agP _ _ _ _, ⟨⟨0, _, rfl, rfl, .same (encTP_nn _)⟩, trivial⟩, rfl, ?_⟩
  ((conv=>whnf);repeat(refine Xg ?_;conv=>whnf))
  repeat ((first | refine setK_iff.2 ?_ | refine ⟨rfl, ?_⟩); ((conv=>whnf);repeat(refine Xg ?_;conv=>whnf)))
  refine k2.goG ?_ (.cons (agP _ _ _ _) (.cons (agP _ _ _ _) .nil)) nn
  ((conv=>whnf);repeat(refine Xg ?_;conv=>whnf))
  repeat ((first | refine setK_iff.2 ?_ | refine ⟨rfl, ?_⟩); ((conv=>whnf);repeat(refine Xg ?_;conv=>whnf)))
  rw [decide_eq_true e2]
  ((conv=>whnf);repeat(refine Xg ?_;conv=>whnf))
  repeat ((first | refine setK_iff.2 ?_ | refine ⟨rfl, ?_⟩); ((conv=>whnf);repeat(refine Xg ?_;conv=>whnf)))
  refine PureC.use lives25 nngz .nil (tBo _) ?_
  ((conv=>whnf);repeat(refine Xg ?_;conv=>whnf))
  repeat ((first | refine setK_iff.2 ?_ | refine ⟨rfl, ?_⟩); ((conv=>whnf);repeat(refine Xg ?_;conv=>whnf)))
  exact fin_pure (tBo _) ⟨rfl, rfl, rfl⟩
end Go.Proofs.YtbannipihdlofaaGreatDoor
namespace Go.Proofs.YtbannipihdlofaaGreatDoor.ClaimsErrors
open Go.ChangeShapes Go.WideShapes Go.ChangeAt Go.RowKit Go.Lib Go.Ax
theorem own : ownKnob Tryz.prog.godebug = none := by kernel_rfl
theorem laidOut : laidOutB Tryz.prog = true := by kernel_rfl
theorem cells3 : Tryz.prog.cellsOf 3 = 1 := by kernel_rfl
theorem gName : Tryz.prog.globalNamed "strconv.ErrSyntax" = some 0 := by kernel_rfl
theorem gNameR : Tryz.prog.globalNamed "strconv.ErrRange" = some 1 := by kernel_rfl
theorem gNameP : Tryz.prog.globalNamed "internal/strconv.uint64pow10" = some 2 := by kernel_rfl
theorem gType : (Tryz.prog.globals[0]?).map (·.type) = some 123 := by kernel_rfl
theorem gTypeR : (Tryz.prog.globals[1]?).map (·.type) = some 123 := by kernel_rfl
theorem gTypeP : (Tryz.prog.globals[2]?).map (·.type) = some 187 := by kernel_rfl
theorem star : "*" ++ "errors.errorString" = "*errors.errorString" := by decide
theorem named (u : TypeId) (h : Tryz.prog.typeName? 3 u = some "*errors.errorString") : u = 192 :=
 typeName_ptr_named (nm := "errors.errorString") (by rw [star]; kernel_rfl) (by kernel_rfl) (by decide) u (by rw [star]; exact h)
theorem cellsE : Tryz.prog.cellsOf 194 = 1 := by kernel_rfl
theorem cellsS : Tryz.prog.cellsOf 9 = 1 := by kernel_rfl
theorem cellsU : Tryz.prog.cellsOf 108 = 1 := by kernel_rfl
theorem cellsP : Tryz.prog.cellsOf 187 = 20 := by kernel_rfl
def pows : List Int := [1, 10, 100, 1000, 10000, 100000, 1000000, 10000000, 100000000, 1000000000, 10000000000, 100000000000, 1000000000000, 10000000000000, 100000000000000, 1000000000000000, 10000000000000000, 100000000000000000, 1000000000000000000, 10000000000000000000]
theorem vars {W : World} (h : laidMetH Tryz.prog Rows.claimsErrorsRow.laid W) : ∀ p ∈ gz, VR (fun _ => ⟨0, 0, 0⟩) (fun _ => False) (OX (fun _ => False) (fun _ => ⟨0, 0, 0⟩) []) W (.ip p.2) (.pointer (some ⟨p.1, 0, none⟩)) := by
 have h : laidMet Tryz.prog Rows.claimsErrorsRow.laid W := h
 have h4 := h.tail.tail.tail.tail
 obtain ⟨a, s, hv, hc, hs, hz⟩ := laid_sentinel (tp := 192) (te := 194) (ts := 9) h4 gName gType Tryz.underlying123 named Tryz.underlying192 Tryz.underlying194 rfl rfl Tryz.underlying9 cellsE cellsS
 have hsp := laid_spot h4 gName hv Tryz.underlying192
 have h3 := h.tail.tail.tail
 obtain ⟨a', s', hv', hc', hs', hz'⟩ := laid_sentinel (tp := 192) (te := 194) (ts := 9) h3 gNameR gTypeR Tryz.underlying123 named Tryz.underlying192 Tryz.underlying194 rfl rfl Tryz.underlying9 cellsE cellsS
 have hsp' := laid_spot h3 gNameR hv' Tryz.underlying192
 have h2 := h.tail.tail
 have htab := tabIs_of_head (k := .u64) (zs := pows) gNameP gTypeP Tryz.underlying187 Tryz.underlying108 cellsU cellsP h2
 intro p hp
 simp only [gz, List.mem_cons, List.not_mem_nil, or_false] at hp
 rcases hp with rfl | rfl | rfl
 ·exact vr_iface_var gName hv hsp
 ·exact vr_iface_var gNameR hv' hsp'
 ·exact vr_tab_var gNameP htab
set_option maxRecDepth 100000 in
theorem contract (H : Type) (enc : TypeId × Value → H) (W : World) (base : Nat) (args : Array Value) (ds gs : List (DataW H)) (before : List MemPlace)
  (hval : ∀ (j : Nat) t v, Tryz.f5.params[j]? = some t → args[j]? = some v → Value.okWide Tryz.prog W .any base t v)
  (hW : DataW.Whole enc Tryz.prog Tryz.f5.params.toList Rows.claimsErrorsSpec.vars false W args.toList ds gs before) (hL : laidMetH Tryz.prog Rows.claimsErrorsRow.laid W) :
  Calls Tryz.prog 5 args W fun e W' => ∃ v, e = .returned v ∧ Rows.claimsErrorsSpec.post enc Tryz.prog Tryz.f5 false true false false W args v W' := by
 have hW' := hW
 obtain ⟨p, q, hA0, hV, rfl, hfz, hnd⟩ := hW
 have hA : DataW.TrodAll enc Tryz.prog W 0 (fun _ => true) true Tryz.f5.params.toList args.toList ds p := hA0
 rw [Tryz.params5] at hA hval
 obtain ⟨v0, vs0, d0, ds0, p0, q0, hargs, rfl, rfl, h0, r0⟩ := trodAll_cons hA
 obtain ⟨rfl, rfl, rfl⟩ := trodAll_nil r0
 obtain rfl : args = #[v0] := by cases args; simp_all
 obtain ⟨rfl, rfl⟩ := trodVars_none hV
 have h0k := h0
 obtain ⟨x0, b0, e0⟩ := vr_ints_of Tryz.underlying22 Tryz.underlying3 cells3 (hval 0 22 v0 rfl rfl) h0
 clear hA0
 refine ((lawErrorsW x0 b0).callsG W [v0] (vars hL) (.cons e0 .nil)).mono ?_
 rintro e W' ⟨rfl, hk⟩
 refine ⟨_, rfl, _, _, _, [], p0 ++ [], [], hW', ?_, ?_, ?_, hk.frame _, fun h => by cases h⟩
 ·exact trodAll_cons_mk (shut_bool Tryz.underlying4 _) trodAll_mk0
 ·exact trodAll_cons_mk (Kept.trod laidOut (by kernel_rfl) (of_decide_eq_true (by kernel_rfl)) h0k hk) trodAll_mk0
 ·rfl
noncomputable def laidWorld (os : Os) : World :=
 let N := (World.settled Tryz.prog os).heap.size
 let w0 := World.holding Tryz.prog os ⟨#[
  .cells #[.string ⟨#[105, 110, 118, 97, 108, 105, 100, 32, 115, 121, 110, 116, 97, 120]⟩] 194,
  .cells #[.string ⟨#[118, 97, 108, 117, 101, 32, 111, 117, 116, 32, 111, 102, 32, 114, 97, 110, 103, 101]⟩] 194], #[], []⟩
 let put (h : Array Obj) (g : Nat) (cs : Array Value) : Array Obj := h.modify g fun
  | .cells _ t frozen => .cells cs t frozen
  | o => o
 let nums (d : DataW Unit) : Array Value := match d with
  | .agg ds => (ds.map fun
   | .lit (.int k n) => Value.int k n
   | _ => .bool false).toArray
  | _ => #[]
 let h0 := put (put w0.heap 0 #[.iface 192 (.pointer (some ⟨N, 0, none⟩))]) 1 #[.iface 192 (.pointer (some ⟨N + 1, 0, none⟩))]
 let h1 := put h0 2 (nums Rows.laid_internal_strconv_uint64pow10)
 let h2 := put h1 4 (nums Rows.laid_math_bits_deBruijn32tab)
 let h3 := put h2 5 (nums Rows.laid_math_bits_deBruijn64tab)
 { w0 with heap := h3 }
noncomputable abbrev N0 : Nat := (World.settled Tryz.prog default).heap.size
theorem laid_met (os : Os) (args : Array Value) : laidMet Tryz.prog Rows.claimsErrorsRow.laid ((laidWorld os).forCall (fun _ _ => 0) ⟨#[], args, []⟩).memory :=
 (LaidIn.of_run (l := Rows.claimsErrorsRow.laid) [0, 1, 2, 4, 5, N0, N0 + 1] 8 (by kernel_rfl) (by kernel_rfl) (by kernel_rfl) (by kernel_rfl)).met
noncomputable abbrev wargs : Array Value := #[.slice none 0 0]
theorem reads (os : Os) {H : Type} (enc : TypeId × Value → H) : ∃ places, DataW.whole enc Tryz.prog ((laidWorld os).forCall (fun _ _ => 0) ⟨#[], wargs, []⟩).memory Tryz.f5.params.toList Rows.claimsErrorsSpec.vars false wargs.toList 8 = some ([.nil], [], places) :=
 ⟨[], by kernel_rfl⟩
set_option maxRecDepth 100000 in
theorem lifted (os : Os) (started : os.Started) (H : Type) (enc : TypeId × Value → H) (F : Stop.Interp) :
  ReturnsInHanded {} Tryz.checked os 5 .any ((OpenSpec.ofChange Rows.claimsErrorsSpec).preRow enc Tryz.prog Tryz.f5 Rows.claimsErrorsRow.domain false Rows.claimsErrorsRow.laid) (((OpenSpec.ofChange Rows.claimsErrorsSpec).at F).post enc Tryz.prog Tryz.f5 false true false false) := by
 obtain ⟨places, hx⟩ := reads os enc
 refine returnsInHanded_of_row (C := Tryz.checked) (s := OpenSpec.ofChange Rows.claimsErrorsSpec) own started (by kernel_rfl) Tryz.func5
  (witness_row_atRef (enc := enc) (C := Tryz.checked) false (laidWorld os) wargs rfl (by kernel_rfl) (by kernel_rfl) (by kernel_rfl)
   (OpenSpec.preRow_of_cond 8 hx (by kernel_rfl) (fun k hk => by cases hk) (by kernel_rfl) (laid_met os _))) ?_
 intro W base args ds gs before hval hW _ _ _ hL _ _
 exact contract H enc W base args ds gs before hval hW hL
theorem said : Rows.ClaimsErrorsSaid :=
 OpenClaim.holds_of_cond 5 Tryz.f5 rfl rfl rfl rfl rfl rfl rfl ⟨rfl, rfl, rfl, rfl, rfl⟩ rfl rfl rfl rfl rfl (by kernel_rfl) Tryz.func5 (by kernel_rfl)
  (of_decide_eq_true (by kernel_rfl)) (by unfold Func.isWrapper; first | (rw [if_pos (by decide +kernel)]; kernel_rfl) | (rw [if_neg (by decide +kernel)]; exact ⟨rfl, rfl⟩))
  (fun os started H enc _ F => by rw [OpenClaim.pre_eq_preRow]; exact lifted os started H enc F)
theorem plain (f : FuncId) (fn : Func) (hf : Tryz.pinned.checked.prog.funcNamed "refuter/refuterlaw25.ClaimsErrors" = some f) (hfn : Tryz.pinned.checked.prog.funcs[f]? = some fn) :
  true = Tryz.pinned.checked.prog.looks [] ∧ ∀ (j : Nat) t, fn.params[j]? = some t → Tryz.pinned.checked.prog.wantsStandIn t = false := by
 obtain rfl : f = 5 := Option.some.inj ((show Tryz.prog.funcNamed "refuter/refuterlaw25.ClaimsErrors" = some 5 by kernel_rfl).symm.trans hf) |>.symm
 obtain rfl : fn = Tryz.f5 := (Option.some.inj (Tryz.func5.symm.trans hfn)).symm
 refine ⟨by kernel_rfl, fun j t ht => ?_⟩
 rw [Tryz.params5] at ht
 have hTI : Tryz.prog.wantsStandIn 22 = false := by kernel_rfl
 have hm := Array.mem_of_getElem? ht
 simp at hm
 repeat' (first | (rw [(hm : t = 22)]; exact hTI) | rcases hm with hm | hm)
theorem card : Rows.ClaimsErrorsCardSaid :=
 Claim7.holds_tied_plain_at .later [] _ _ _ _ said (fun _ h => by cases h) (by kernel_rfl) (fun _ h => by cases h) claimsErrors_row_tie rfl ⟨rfl, rfl⟩ (by kernel_rfl) rfl plain (by kernel_rfl)
end Go.Proofs.YtbannipihdlofaaGreatDoor.ClaimsErrors
