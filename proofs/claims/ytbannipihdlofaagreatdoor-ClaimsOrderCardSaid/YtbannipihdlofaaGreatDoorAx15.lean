/- For every input (of two slices of ints), refuterlaw25.ClaimsOrder returns true, and its arguments read behind the call as they read before (the card ClaimsOrderCardSaid, the full form). Conditions: the package-level variables that the row lists hold, when the call begins, what the program's text lays (the card ties them to it); no bound on sizes. -/
import Derived.Test.YtbannipihdlofaaGreatDoorAx14
import Derived.Test.YtbannipihdlofaaGreatDoorCards
import Derived.Test.YtbannipihdlofaaGreatDoorTie
import Derived.Lib.LaidIn
set_option linter.unusedVariables false
namespace Go.Proofs.YtbannipihdlofaaGreatDoor
open Go Go.Ax Go.Proofs
set_option maxRecDepth 100000
set_option maxHeartbeats 16000000
set_option linter.unusedSimpArgs false
def bitB (x : Int) : Bool := x.tmod 2 == 0
def bitsL (l : List Int) (k : Nat) : List Bool := (l.take k).map bitB
def encBo (l : List Bool) : List AV := l.map AV.bool
theorem encBo_nn (l : List Bool) : NNs (encBo l) := by
 induction l with
 | nil => exact .nil
 | cons a l ih => exact .cons (tBo a) ih
theorem encBo_length (l : List Bool) : (encBo l).length = l.length := by simp [encBo]
theorem bitsL_length (l : List Int) (k : Nat) : (bitsL l k).length = min k l.length := by simp [bitsL]
theorem bitsL_succ {l : List Int} {i : Nat} (h : i < l.length) : encBo (bitsL l (i + 1)) = encBo (bitsL l i) ++ [.bool (bitB (l.getD i 0))] := by
 unfold bitsL encBo
 rw [List.take_succ_eq_append_getElem h, List.map_append, List.map_append, List.getD_eq_getElem?_getD, List.getElem?_eq_getElem h]
 rfl
theorem encBo_get {l : List Bool} {i : Nat} (h : i < l.length) : (encBo l)[((i : Nat) : Int).toNat]? = some (.bool (l.getD i false)) := by
 rw [Int.toNat_natCast]
 unfold encBo
 rw [List.getElem?_map, List.getElem?_eq_getElem h]
 simp [List.getD_eq_getElem?_getD, List.getElem?_eq_getElem h]
theorem lBits (l : List Int) (k : Nat) (hk : k ≤ 1000) : PureC Tryz.prog [] 10 [.il 1 (encI l), .int .i64 k] (.il 1 (encBo (bitsL l k))) := by
 refine acalls_go nnΓ Tryz.func10 rfl ?_
 ((conv=>whnf);repeat(refine Xg ?_;conv=>whnf))
 refine ALoop.ph 4 1 ?_
 refine ALoop.at nnΓ (fun i : Nat => i ≤ l.length ∧ i ≤ k)
  (fun i => ⟨[(0, .il 1 (encI l)), (1, .int .i64 k), (5, .sl 0 0 i), (6, .int .i64 i)], [(0, .row 4 1 (encBo (bitsL l i)))], 1, 28⟩)
  (fun i => l.length - i) 0 [(0, 0)] ⟨by omega, by omega⟩
  (conv_mk _ rfl ⟨⟨0, _, rfl, rfl, .nil⟩, trivial⟩ ⟨⟨_, rfl, .same _ (.il' (encI_nn l))⟩, ⟨_, rfl, .same _ nn⟩, ⟨_, rfl, .nslk 0 0 _ rfl rfl⟩, ⟨_, rfl, .same _ nn⟩, trivial⟩) ?_
 rintro i ⟨h1, h2⟩
 have hlen : (encBo (bitsL l i)).length = i := by rw [encBo_length, bitsL_length]; omega
 have hd1 : decide ((i : Int) < ((encI l).length : Int)) = decide (i < l.length) := by rw [encI_length]; exact decide_eq_decide.2 (by omega)
 have hd2 : decide ((i : Int) < (k : Int)) = decide (i < k) := decide_eq_decide.2 (by omega)
 by_cases hb : i < l.length ∧ i < k
 ·have hg : (encI l)[((i : Nat) : Int).toNat]? = some (.int .i64 (l.getD i 0)) := by rw [Int.toNat_natCast, encI_get, List.getD_eq_getElem?_getD, List.getElem?_eq_getElem (by omega)]; rfl
  have hs := bitsL_succ hb.1
  have hbb : (l.getD i 0).tmod 2 == 0 ↔ bitB (l.getD i 0) = true := Iff.rfl
  have hbe : ((l.getD i 0).tmod 2 == 0) = bitB (l.getD i 0) := rfl
  generalize l.getD i 0 = x at *
  ((conv=>whnf);repeat(refine Xg ?_;conv=>whnf))
  rw [hd1, decide_eq_true hb.1]
  ((conv=>whnf);repeat(refine Xg ?_;conv=>whnf))
  rw [hd2, decide_eq_true hb.2]
  ((conv=>whnf);repeat(refine Xg ?_;conv=>whnf))
  refine opt_mk hg ?_
  ((conv=>whnf);repeat(refine Xg ?_;conv=>whnf))
  rw [hbe]
  refine grd_mk (app_ok rfl rfl hlen.symm (by simp; omega)) ?_
  ((conv=>whnf);repeat(refine Xg ?_;conv=>whnf))
  exact .mk (i + 1) [(2, 0)] ⟨hb.1, hb.2⟩
   (conv_mk _ rfl ⟨⟨2, _, rfl, rfl, .eq (encBo_nn _) hs.symm⟩, trivial⟩ ⟨⟨_, rfl, .same _ (.il' (encI_nn l))⟩, ⟨_, rfl, .same _ nn⟩, ⟨_, rfl, .slE rfl (by simp [hlen])⟩, ⟨_, rfl, .w64 (by omega) ⟨by omega, by omega⟩⟩, trivial⟩) (by omega)
 ·have he : bitsL l i = bitsL l k := by
   unfold bitsL
   rcases (show i = k ∨ i = l.length by omega) with e | e
   ·rw [e]
   ·rw [e, List.take_length, List.take_of_length_le (by omega)]
  rcases (show ¬ i < l.length ∨ (i < l.length ∧ ¬ i < k) by omega) with h | ⟨h, h'⟩
  ·((conv=>whnf);repeat(refine Xg ?_;conv=>whnf))
   rw [hd1, decide_eq_false h]
   ((conv=>whnf);repeat(refine Xg ?_;conv=>whnf))
   exact fin_cv (r' := .il 1 (encBo (bitsL l k))) (.fz' (id := 0) (off := 0) (len := i) (ys := encBo (bitsL l k)) rfl rfl (by rw [hlen]; omega) (by rw [← he, List.drop_zero, List.take_of_length_le (by omega)]) (encBo_nn _)) ⟨rfl, rfl, rfl⟩
  ·((conv=>whnf);repeat(refine Xg ?_;conv=>whnf))
   rw [hd1, decide_eq_true h]
   ((conv=>whnf);repeat(refine Xg ?_;conv=>whnf))
   rw [hd2, decide_eq_false h']
   ((conv=>whnf);repeat(refine Xg ?_;conv=>whnf))
   exact fin_cv (r' := .il 1 (encBo (bitsL l k))) (.fz' (id := 0) (off := 0) (len := i) (ys := encBo (bitsL l k)) rfl rfl (by rw [hlen]; omega) (by rw [← he, List.drop_zero, List.take_of_length_le (by omega)]) (encBo_nn _)) ⟨rfl, rfl, rfl⟩
set_option maxHeartbeats 16000000
set_option linter.unusedSimpArgs false
def runT (T : Tst) (b : List Bool) : Nat → Tst
 | 0 => T
 | i + 1 => (feedT (runT T b i) (b.getD i false)).1
theorem new_zero {claim low alpha beta : Fr} {T : Tst} {e : Int} (h : newT claim low alpha beta = (some T, e)) : T.runs = 0 ∧ T.hits = 0 ∧ T.verdict = 0 ∧ T.ratio = oneF := by
 unfold newT at h
 split at h
 ·cases h
 split at h
 ·cases h
 split at h
 ·cases h
 simp only at h
 split at h
 ·cases h
 ·cases h; exact ⟨rfl, rfl, rfl, rfl⟩
theorem tk_zero {claim low alpha beta : Fr} {T : Tst} {e : Int} (h : newT claim low alpha beta = (some T, e)) (hT : TF T) : TK 0 T := by
 obtain ⟨a, b, -⟩ := new_zero h
 exact ⟨hT, by omega, by omega⟩
theorem run_k {T : Tst} (b : List Bool) (h : TK 0 T) : ∀ i, i ≤ 1000 → TK i (runT T b i)
 | 0, _ => h
 | i + 1, hi => feed_k (run_k b h i (by omega)) (by omega) _
theorem feed_says (t : Tst) (b : Bool) : (feedT t b).2.1 = ((feedT t b).1.verdict : Int) := by
 unfold feedT
 generalize mulF t.ratio (if b then t.hit else t.miss) = r
 split
 ·rfl
 ·rename_i h
  split
  ·show (0 : Int) = t.verdict
   omega
  ·rfl
theorem encTF_ex (t : Tst) : ∃ (hb hc mb mc ub uc lb lc rb rc : Bool) (hl hm ml mm ul um ll lm rl rm : List Nat), encF t.hit = .agg [.bool hb, .il 1 (encD hl), .bool hc, .il 1 (encD hm)] ∧ encF t.miss = .agg [.bool mb, .il 1 (encD ml), .bool mc, .il 1 (encD mm)] ∧ encF t.ratio = .agg [.bool rb, .il 1 (encD rl), .bool rc, .il 1 (encD rm)] ∧ encTF t = .agg [.bool hb, .il 1 (encD hl), .bool hc, .il 1 (encD hm), .bool mb, .il 1 (encD ml), .bool mc, .il 1 (encD mm), .bool ub, .il 1 (encD ul), .bool uc, .il 1 (encD um), .bool lb, .il 1 (encD ll), .bool lc, .il 1 (encD lm), .bool rb, .il 1 (encD rl), .bool rc, .il 1 (encD rm), .int .i64 t.verdict, .int .i64 t.runs, .int .i64 t.hits] := by
 obtain ⟨hb, hl, hc, hm, -, -, q1⟩ := encF_ex t.hit
 obtain ⟨mb, ml, mc, mm, -, -, q2⟩ := encF_ex t.miss
 obtain ⟨ub, ul, uc, um, -, -, q3⟩ := encF_ex t.upper
 obtain ⟨lb, ll, lc, lm, -, -, q4⟩ := encF_ex t.lower
 obtain ⟨rb, rl, rc, rm, -, -, q5⟩ := encF_ex t.ratio
 exact ⟨hb, hc, mb, mc, ub, uc, lb, lc, rb, rc, hl, hm, ml, mm, ul, um, ll, lm, rl, rm, q1, q2, q5, encTF_mk q1 q2 q3 q4 q5⟩
theorem lawFeedsW (l m : List Int) (_ : ∀ x ∈ l, i64 x) (_ : ∀ x ∈ m, i64 x) : PureC Tryz.prog gz 3 [.il 1 (encI l), .il 1 (encI m)] (.bool true) := by
 have hbits : PureC Tryz.prog [] 10 [.il 1 (encI m), .int .i64 30] (.il 1 (encBo (bitsL m 30))) := lBits m 30 (by omega)
 have hbl : (bitsL m 30).length ≤ 30 := by rw [bitsL_length]; omega
 generalize bitsL m 30 = b at *
 refine acalls_go nngz Tryz.func3 rfl ?_
 ((conv=>whnf);repeat(refine Xg ?_;conv=>whnf))
 refine ACalls.useN nngz [] (lBoth l) rfl (.cons (.same _ (.il' (encI_nn l))) .nil) trivial rfl ?_
 rintro r m' n' hQ
 rcases hQ with ⟨hN, rfl, rfl, rfl⟩ | ⟨T, hT, hTF, rfl, rfl, rfl⟩
 ·refine ⟨[], .tup [.nptr, .nptr, .bool true], [], 0, .same _ (.tup' (.cons .nptr (.cons .nptr (.cons (tBo _) .nil)))), trivial, rfl, ?_⟩
  ((conv=>whnf);repeat(refine Xg ?_;conv=>whnf))
  repeat ((first | refine setK_iff.2 ?_ | refine ⟨rfl, ?_⟩); ((conv=>whnf);repeat(refine Xg ?_;conv=>whnf)))
  refine PureC.use lives25 nngz .nil (tBo _) ?_
  ((conv=>whnf);repeat(refine Xg ?_;conv=>whnf))
  exact fin_pure (tBo _) ⟨rfl, rfl, rfl⟩
 ·refine ⟨[(0, 0), (1, 1)], .tup [.ptr 0 0 0, .ptr 1 0 0, .bool true], [(0, tB0 T), (1, rB0 T)], 2, .tup' (.cons (.ptr 0 0 0 0 rfl) (.cons (.ptr 1 1 0 0 rfl) (.cons (.same _ (tBo _)) .nil))), ⟨⟨0, _, rfl, rfl, .same (encTP_nn T)⟩, ⟨1, _, rfl, rfl, .same (encTF_nn T)⟩, trivial⟩, rfl, ?_⟩
  ((conv=>whnf);repeat(refine Xg ?_;conv=>whnf))
  repeat ((first | refine setK_iff.2 ?_ | refine ⟨rfl, ?_⟩); ((conv=>whnf);repeat(refine Xg ?_;conv=>whnf)))
  refine hbits.goG ?_ (.cons (.il' (encI_nn m)) (.cons nn .nil)) (.il' (encBo_nn _))
  ((conv=>whnf);repeat(refine Xg ?_;conv=>whnf))
  have h0 := tk_zero (show newT _ _ _ _ = (some T, 0) from hT) hTF
  refine ALoop.at nngz (fun i : Nat => i ≤ b.length)
   (fun i => ⟨[(5, .ptr 0 0 0), (6, .ptr 1 0 0), (8, .il 1 (encBo b)), (9, .int .i64 i)], [(0, tB0 (runT T b i)), (1, rB0 (runT T b i))], 2, 102⟩)
   (fun i => b.length - i) 0 [(0, 0), (1, 1)] (by omega)
   (conv_mk _ rfl ⟨⟨0, _, rfl, rfl, .same (encTP_nn T)⟩, ⟨1, _, rfl, rfl, .same (encTF_nn T)⟩, trivial⟩ ⟨⟨_, rfl, .ptr 0 0 0 0 rfl⟩, ⟨_, rfl, .ptr 1 1 0 0 rfl⟩, ⟨_, rfl, .same _ (.il' (encBo_nn b))⟩, ⟨_, rfl, .same _ nn⟩, trivial⟩) ?_
  intro i hi
  have hd : decide ((i : Int) < ((encBo b).length : Int)) = decide (i < b.length) := by rw [encBo_length]; exact decide_eq_decide.2 (by omega)
  by_cases hlt : i < b.length
  ·have hk := run_k b h0 i (by omega)
   have hk2 := run_k b h0 (i + 1) (by omega)
   have hg := encBo_get hlt
   have hst : runT T b (i + 1) = (feedT (runT T b i) (b.getD i false)).1 := rfl
   have hsay := feed_says (runT T b i) (b.getD i false)
   have hfp := pFeed (runT T b i) (b.getD i false) hk.tf
   have hff := fFeed (runT T b i) (b.getD i false) hk.tf
   generalize hS : runT T b i = S at *
   generalize hS2 : runT T b (i + 1) = S2 at *
   generalize b.getD i false = x at *
   rw [← hst] at hfp hff hsay
   rw [hsay] at hfp hff
   generalize (feedT S x).2.2 = e at *
   have hr := pRatio S2
   have hn := pRuns S2
   have hv := pVerdict S2
   have hs := pString S2.ratio hk2.tf.ratio
   have ht := fText S2.ratio hk2.tf.ratio
   obtain ⟨pb, pl, pc, pm, -, -, qp⟩ := encP_ex S2.ratio
   obtain ⟨hb, hc, mb, mc, ub, uc, lb, lc, rb, rc, hl, hm, ml, mm, ul, um, ll, lm, rl, rm, -, -, q5, qT⟩ := encTF_ex S2
   rw [qp] at hr hs
   rw [q5] at ht
   rw [qT] at hff
   generalize txtF S2.ratio = tx at *
   ((conv=>whnf);repeat(refine Xg ?_;conv=>whnf))
   rw [hd, decide_eq_true hlt]
   ((conv=>whnf);repeat(refine Xg ?_;conv=>whnf))
   refine opt_mk hg ?_
   ((conv=>whnf);repeat(refine Xg ?_;conv=>whnf))
   refine ACalls.useR nngz [(0, 0)] hfp.glob rfl (.cons (.ptr 0 0 0 0 rfl) (.same (.cons (tB _) .nil))) ⟨⟨0, _, rfl, rfl, .same (encTP_nn _)⟩, trivial⟩ rfl ?_
   rintro r m n ⟨rfl, rfl, rfl⟩
   refine ⟨[(0, tB0 S2)], .tup' (.cons nn (.cons nn .nil)), ⟨⟨0, _, rfl, rfl, .same (encTP_nn _)⟩, trivial⟩, rfl, ?_⟩
   ((conv=>whnf);repeat(refine Xg ?_;conv=>whnf))
   repeat ((first | refine setK_iff.2 ?_ | refine ⟨rfl, ?_⟩); ((conv=>whnf);repeat(refine Xg ?_;conv=>whnf)))
   refine opt_mk hg ?_
   ((conv=>whnf);repeat(refine Xg ?_;conv=>whnf))
   repeat ((first | refine setK_iff.2 ?_ | refine ⟨rfl, ?_⟩); ((conv=>whnf);repeat(refine Xg ?_;conv=>whnf)))
   refine ACalls.useR nngz [(1, 0)] hff.glob rfl (.cons (.ptr 1 0 0 0 rfl) (.same (.cons (tB _) .nil))) ⟨⟨1, _, rfl, rfl, .same (encTF_nn _)⟩, trivial⟩ rfl ?_
   rintro r m n ⟨rfl, rfl, rfl⟩
   refine ⟨[(1, .row 47 23 [.agg [.bool hb, .il 1 (encD hl), .bool hc, .il 1 (encD hm), .bool mb, .il 1 (encD ml), .bool mc, .il 1 (encD mm), .bool ub, .il 1 (encD ul), .bool uc, .il 1 (encD um), .bool lb, .il 1 (encD ll), .bool lc, .il 1 (encD lm), .bool rb, .il 1 (encD rl), .bool rc, .il 1 (encD rm), .int .i64 S2.verdict, .int .i64 S2.runs, .int .i64 S2.hits]])], .tup' (.cons nn (.cons nn .nil)), ⟨⟨0, _, rfl, rfl, .same (agFT _ _ _ _ _ _ _ _ _ _ _ _ _ _ _ _ _ _ _ _ _ _ _)⟩, trivial⟩, rfl, ?_⟩
   ((conv=>whnf);repeat(refine Xg ?_;conv=>whnf))
   repeat ((first | refine setK_iff.2 ?_ | refine ⟨rfl, ?_⟩); ((conv=>whnf);repeat(refine Xg ?_;conv=>whnf)))
   refine ACalls.useR nngz [(0, 0)] hn.glob rfl (.cons (.ptr 0 0 0 0 rfl) .nil) ⟨⟨0, _, rfl, rfl, .same (encTP_nn _)⟩, trivial⟩ rfl ?_
   rintro r m n ⟨rfl, rfl, rfl⟩
   refine ⟨[(0, tB0 S2)], .tup' (.cons nn (.cons nn .nil)), ⟨⟨0, _, rfl, rfl, .same (encTP_nn _)⟩, trivial⟩, rfl, ?_⟩
   ((conv=>whnf);repeat(refine Xg ?_;conv=>whnf))
   repeat ((first | refine setK_iff.2 ?_ | refine ⟨rfl, ?_⟩); ((conv=>whnf);repeat(refine Xg ?_;conv=>whnf)))
   refine ACalls.useR nngz [(0, 0)] hr.glob rfl (.cons (.ptr 0 0 0 0 rfl) .nil) ⟨⟨0, _, rfl, rfl, .same (encTP_nn _)⟩, trivial⟩ rfl ?_
   rintro r m n ⟨rfl, rfl, rfl⟩
   refine ⟨[(0, tB0 S2)], agP _ _ _ _, ⟨⟨0, _, rfl, rfl, .same (encTP_nn _)⟩, trivial⟩, rfl, ?_⟩
   ((conv=>whnf);repeat(refine Xg ?_;conv=>whnf))
   repeat ((first | refine setK_iff.2 ?_ | refine ⟨rfl, ?_⟩); ((conv=>whnf);repeat(refine Xg ?_;conv=>whnf)))
   have ne0 : ∀ z : Int, (z != z) = false := fun z => bne_self_eq_false z
   have nes : (!(tx == tx)) = false := by rw [beq_self_eq_true]; rfl
   rw [ne0]
   ((conv=>whnf);repeat(refine Xg ?_;conv=>whnf))
   repeat ((first | refine setK_iff.2 ?_ | refine ⟨rfl, ?_⟩); ((conv=>whnf);repeat(refine Xg ?_;conv=>whnf)))
   rw [ne0]
   ((conv=>whnf);repeat(refine Xg ?_;conv=>whnf))
   repeat ((first | refine setK_iff.2 ?_ | refine ⟨rfl, ?_⟩); ((conv=>whnf);repeat(refine Xg ?_;conv=>whnf)))
   refine ACalls.useR nngz [(0, 0)] hv.glob rfl (.cons (.ptr 0 0 0 0 rfl) .nil) ⟨⟨0, _, rfl, rfl, .same (encTP_nn _)⟩, trivial⟩ rfl ?_
   rintro r m n ⟨rfl, rfl, rfl⟩
   refine ⟨[(0, tB0 S2)], nn, ⟨⟨0, _, rfl, rfl, .same (encTP_nn _)⟩, trivial⟩, rfl, ?_⟩
   ((conv=>whnf);repeat(refine Xg ?_;conv=>whnf))
   repeat ((first | refine setK_iff.2 ?_ | refine ⟨rfl, ?_⟩); ((conv=>whnf);repeat(refine Xg ?_;conv=>whnf)))
   rw [ne0]
   ((conv=>whnf);repeat(refine Xg ?_;conv=>whnf))
   repeat ((first | refine setK_iff.2 ?_ | refine ⟨rfl, ?_⟩); ((conv=>whnf);repeat(refine Xg ?_;conv=>whnf)))
   rw [ne0]
   ((conv=>whnf);repeat(refine Xg ?_;conv=>whnf))
   repeat ((first | refine setK_iff.2 ?_ | refine ⟨rfl, ?_⟩); ((conv=>whnf);repeat(refine Xg ?_;conv=>whnf)))
   rw [ne0]
   ((conv=>whnf);repeat(refine Xg ?_;conv=>whnf))
   repeat ((first | refine setK_iff.2 ?_ | refine ⟨rfl, ?_⟩); ((conv=>whnf);repeat(refine Xg ?_;conv=>whnf)))
   refine PureC.use hs nngz (.cons (agP _ _ _ _) .nil) nn ?_
   ((conv=>whnf);repeat(refine Xg ?_;conv=>whnf))
   repeat ((first | refine setK_iff.2 ?_ | refine ⟨rfl, ?_⟩); ((conv=>whnf);repeat(refine Xg ?_;conv=>whnf)))
   refine ht.goG ?_ (.cons (agF _ _ _ _) .nil) nn
   ((conv=>whnf);repeat(refine Xg ?_;conv=>whnf))
   repeat ((first | refine setK_iff.2 ?_ | refine ⟨rfl, ?_⟩); ((conv=>whnf);repeat(refine Xg ?_;conv=>whnf)))
   rw [nes]
   ((conv=>whnf);repeat(refine Xg ?_;conv=>whnf))
   repeat ((first | refine setK_iff.2 ?_ | refine ⟨rfl, ?_⟩); ((conv=>whnf);repeat(refine Xg ?_;conv=>whnf)))
   exact .mk (i + 1) [(0, 0), (1, 1)] (by omega)
    (conv_mk _ rfl ⟨⟨0, _, rfl, rfl, .eq (encTP_nn _) (by rw [hS2])⟩, ⟨1, _, rfl, rfl, .eq (encTF_nn _) (by rw [hS2, qT])⟩, trivial⟩ ⟨⟨_, rfl, .ptr 0 0 0 0 rfl⟩, ⟨_, rfl, .ptr 1 1 0 0 rfl⟩, ⟨_, rfl, .same _ (.il' (encBo_nn b))⟩, ⟨_, rfl, .w64 (by omega) ⟨by omega, by omega⟩⟩, trivial⟩) (by omega)
  ·generalize runT T b i = S at *
   ((conv=>whnf);repeat(refine Xg ?_;conv=>whnf))
   rw [hd, decide_eq_false hlt]
   ((conv=>whnf);repeat(refine Xg ?_;conv=>whnf))
   repeat ((first | refine setK_iff.2 ?_ | refine ⟨rfl, ?_⟩); ((conv=>whnf);repeat(refine Xg ?_;conv=>whnf)))
   refine PureC.use lives25 nngz .nil (tBo _) ?_
   ((conv=>whnf);repeat(refine Xg ?_;conv=>whnf))
   exact fin_pure (tBo _) ⟨rfl, rfl, rfl⟩
set_option maxHeartbeats 16000000
set_option linter.unusedSimpArgs false
def cutN (a : Fr) (n : Nat) : Nat := if (-1 ≤ a.p ∧ a.p ≤ 1 ∧ a.q = 1) ∧ 2 < n then 2 - n % 2 else n
theorem sq_pow {x : Int} (h : x * x * x = x) (hx : True) : ∀ n, 0 < n → x ^ n = if n % 2 = 1 then x else x * x := by
 intro n hn
 induction n with
 | zero => omega
 | succ n ih =>
  rcases Nat.eq_zero_or_pos n with e | e
  ·subst e; rw [if_pos rfl, Int.pow_succ, Int.pow_zero, Int.one_mul]
  ·rw [Int.pow_succ, ih e]
   by_cases h2 : n % 2 = 1
   ·rw [if_pos h2, if_neg (by omega)]
   ·rw [if_neg h2, if_pos (by omega), h]
theorem cutN_pow (a : Fr) (n : Nat) : powF a (cutN a n) = powF a n := by
 unfold cutN
 split
 ·rename_i h
  obtain ⟨⟨h1, h2, h3⟩, h4⟩ := h
  have hx : a.p * a.p * a.p = a.p := by
   rcases (show a.p = -1 ∨ a.p = 0 ∨ a.p = 1 by omega) with e | e | e <;> rw [e] <;> rfl
  unfold powF
  rw [h3, Nat.one_pow, Nat.one_pow, sq_pow hx trivial n (by omega), sq_pow hx trivial (2 - n % 2) (by omega)]
  by_cases h5 : n % 2 = 1
  ·rw [if_pos h5, if_pos (by omega)]
  ·rw [if_neg h5, if_neg (by omega)]
 ·rfl
theorem cutN_le (a : Fr) (n : Nat) : cutN a n ≤ n := by unfold cutN; split <;> omega
theorem pPow (a : Fr) (hc : Go.Ax.Can a) (hz : Sz 12 a) (n : Nat) (hn : n ≤ 100) : PureC Tryz.prog [] 31 [encP a, .int .i64 n] (.tup [encP (powF a n), .int .i64 0]) := by
 have hfc := sz_fc hz (by decide) hc
 have h1 := wSmall a.p (by have := hfc.fp.ln; omega)
 have hp := hz.num
 have hq := hz.den
 rw [show smallW a.p = .tup [.int .i64 a.p, .bool true] by unfold smallW; rw [if_pos (by omega)]] at h1
 have hden : a.den = a.q := den_of_pos hc.pos
 have h2 := pDen a (by have := hfc.fp.lq; omega)
 rw [hden] at h2
 have h3 : PureC Tryz.prog [] 37 [.int .i64 1] (encW ((1 : Nat) : Int)) := wFrom ((1 : Nat) : Int) ⟨by omega, by omega⟩
 have h4 := wCompare (a.q : Int) ((1 : Nat) : Int) (by have := hfc.fp.lq; rw [Int.natAbs_natCast]; omega) (by have : (dg 4294967296 1).length ≤ 1 := dgl_small hW (by decide); rw [Int.natAbs_natCast]; omega)
 have hcj : (cmpJ (a.q : Int) ((1 : Nat) : Int) == 0) = decide (a.q = 1) := by
  by_cases h : a.q = 1
  ·rw [h]; rfl
  ·rw [decide_eq_false h, beq_eq_false_iff_ne]; exact cmpJ_ne (by omega)
 have hcut := cutN_pow a n
 have hcl := cutN_le a n
 have hcd : cutN a n = if (-1 ≤ a.p ∧ a.p ≤ 1 ∧ a.q = 1) ∧ 2 < n then 2 - n % 2 else n := rfl
 rw [← hcut]
 generalize hN : cutN a n = N at *
 have hstep : ∀ i, i < N → PureC Tryz.prog [] 60 [.il 2 [encW (a.p ^ i), encW a.p]] (.tup [encW (a.p ^ (i + 1)), .int .i64 0]) ∧ PureC Tryz.prog [] 60 [.il 2 [encW ((a.q ^ i : Nat) : Int), encW (a.q : Int)]] (.tup [encW ((a.q ^ (i + 1) : Nat) : Int), .int .i64 0]) := fun i hi => by
  have z1 := powF_sz hz i
  have z2 := powF_sz hz (i + 1)
  have f1 := sz_fc z1 (by omega) (powF_can hc i)
  have f2 := sz_fc z2 (by omega) (powF_can hc (i + 1))
  have m1 := pProduct (a.p ^ i) a.p f1.num (by have := hfc.fp.ln; omega)
  have m2 := pProduct ((a.q ^ i : Nat) : Int) (a.q : Int) f1.den (by have := hfc.fp.lq; rw [Int.natAbs_natCast]; omega)
  rw [← Int.pow_succ] at m1
  rw [← Int.natCast_mul, ← Nat.pow_succ] at m2
  refine ⟨?_, ?_⟩
  ·have e : rngW (a.p ^ (i + 1)) = .tup [encW (a.p ^ (i + 1)), .int .i64 0] := by unfold rngW; exact if_pos f2.num
   rw [← e]; exact m1
  ·have e : rngW ((a.q ^ (i + 1) : Nat) : Int) = .tup [encW ((a.q ^ (i + 1) : Nat) : Int), .int .i64 0] := by unfold rngW; exact if_pos f2.den
   rw [← e]; exact m2
 obtain ⟨pb, pl, pc, pm, g1, g2, g3⟩ := encP_ex a
 obtain ⟨ob, ol, o1⟩ := encW_ex ((1 : Nat) : Int)
 have hge : (decide (a.p ≥ -1)) = decide (-1 ≤ a.p) := rfl
 have hw2 : IntKind.i64.wrap ((n : Int).tmod 2) = ((n % 2 : Nat) : Int) := by rw [show ((n : Int)).tmod 2 = ((n % 2 : Nat) : Int) from tmod_nat n 2, wrap64 ⟨by omega, by omega⟩]
 rw [g1] at h1
 rw [g3, g2] at h2
 rw [o1] at h3
 rw [g2, o1] at h4
 rw [g1, g2] at hstep
 rw [g3]
 generalize cmpJ (a.q : Int) ((1 : Nat) : Int) = cj at *
 refine acalls_go nnΓ Tryz.func31 rfl ?_
 ((conv=>whnf);repeat(refine Xg ?_;conv=>whnf))
 refine h1.go ?_ (.cons (agW _ _) .nil) (.tup' (.cons nn (.cons nn .nil)))
 ((conv=>whnf);repeat(refine Xg ?_;conv=>whnf))
 repeat ((first | refine setK_iff.2 ?_ | refine ⟨rfl, ?_⟩); ((conv=>whnf);repeat(refine Xg ?_;conv=>whnf)))
 have dge : ∀ x, decide (a.p ≥ -1) = x → decide (-1 ≤ a.p) = x := fun _ h => h
 have d16 : decide ((n : Int) > 16384) = false := decide_eq_false (by omega)
 by_cases c1 : -1 ≤ a.p
 rotate_left
 ·rw [show decide (a.p ≥ -1) = false from decide_eq_false c1]
  have hNn : N = n := by rw [hcd, if_neg (by omega)]
  subst hNn
  ((conv=>whnf);repeat(refine Xg ?_;conv=>whnf))
  repeat ((first | refine setK_iff.2 ?_ | refine ⟨rfl, ?_⟩); ((conv=>whnf);repeat(refine Xg ?_;conv=>whnf)))
  rw [d16]
  ((conv=>whnf);repeat(refine Xg ?_;conv=>whnf))
  repeat ((first | refine setK_iff.2 ?_ | refine ⟨rfl, ?_⟩); ((conv=>whnf);repeat(refine Xg ?_;conv=>whnf)))
  refine h3.go ?_ (.cons nn .nil) (agW _ _)
  ((conv=>whnf);repeat(refine Xg ?_;conv=>whnf))
  repeat ((first | refine setK_iff.2 ?_ | refine ⟨rfl, ?_⟩); ((conv=>whnf);repeat(refine Xg ?_;conv=>whnf)))
  refine h3.go ?_ (.cons nn .nil) (agW _ _)
  ((conv=>whnf);repeat(refine Xg ?_;conv=>whnf))
  repeat ((first | refine setK_iff.2 ?_ | refine ⟨rfl, ?_⟩); ((conv=>whnf);repeat(refine Xg ?_;conv=>whnf)))
  have hzero : encW ((a.p ^ 0 : Int)) = .agg [.bool ob, .il 1 (encU ol)] := by rw [Int.pow_zero]; exact o1
  have hzero2 : encW ((a.q ^ 0 : Nat) : Int) = .agg [.bool ob, .il 1 (encU ol)] := by rw [Nat.pow_zero]; exact o1
  refine ALoop.at nnΓ (fun i : Nat => i ≤ N)
   (fun i => ⟨[(2, .ptr 0 0 0), (4, .ptr 1 0 0), (8, .ptr 2 0 0), (9, .ptr 3 0 0), (46, .int .i64 N), (47, .int .i64 i)], [(0, .row 39 4 [.agg [.bool pb, .il 1 (encU pl), .bool pc, .il 1 (encU pm)]]), (1, .row 39 4 [.agg [.bool false, .nsl, .bool false, .nsl]]), (2, .row 37 2 [encW (a.p ^ i)]), (3, .row 37 2 [encW ((a.q ^ i : Nat) : Int)])], 4, 77⟩)
   (fun i => N - i) 0 [(0, 0), (1, 1), (2, 2), (3, 3)] (Nat.zero_le _)
   (conv_mk _ rfl ⟨⟨0, _, rfl, rfl, .same (.cons (agP _ _ _ _) .nil)⟩, ⟨1, _, rfl, rfl, .same nF0⟩, ⟨2, _, rfl, rfl, .eq (.cons (encW_nn _) .nil) (by rw [hzero])⟩, ⟨3, _, rfl, rfl, .eq (.cons (encW_nn _) .nil) (by rw [hzero2])⟩, trivial⟩ ⟨⟨_, rfl, .ptr 0 0 0 0 rfl⟩, ⟨_, rfl, .ptr 1 1 0 0 rfl⟩, ⟨_, rfl, .ptr 2 2 0 0 rfl⟩, ⟨_, rfl, .ptr 3 3 0 0 rfl⟩, ⟨_, rfl, .same _ nn⟩, ⟨_, rfl, .same _ nn⟩, trivial⟩) ?_
  intro i hi
  have hdl : decide ((i : Int) < (N : Int)) = decide (i < N) := decide_eq_decide.2 (by omega)
  by_cases hlt : i < N
  ·obtain ⟨s1, s2⟩ := hstep i hlt
   obtain ⟨ub, ul, q1⟩ := encW_ex (a.p ^ i)
   obtain ⟨vb, vl_, q2⟩ := encW_ex ((a.q ^ i : Nat) : Int)
   obtain ⟨xb, xl, q3⟩ := encW_ex (a.p ^ (i + 1))
   obtain ⟨yb, yl, q4⟩ := encW_ex ((a.q ^ (i + 1) : Nat) : Int)
   rw [q1, q3] at s1
   rw [q2, q4] at s2
   rw [q1, q2]
   ((conv=>whnf);repeat(refine Xg ?_;conv=>whnf))
   rw [hdl, decide_eq_true hlt]
   ((conv=>whnf);repeat(refine Xg ?_;conv=>whnf))
   repeat ((first | refine setK_iff.2 ?_ | refine ⟨rfl, ?_⟩); ((conv=>whnf);repeat(refine Xg ?_;conv=>whnf)))
   refine ACalls.pre nnΓ [(0, 0), (1, 1), (2, 2), (3, 3)] (mem' := [(0, .row 39 4 [.agg [.bool pb, .il 1 (encU pl), .bool pc, .il 1 (encU pm)]]), (1, .row 39 4 [.agg [.bool false, .nsl, .bool false, .nsl]]), (2, .row 37 2 [.agg [.bool ub, .il 1 (encU ul)]]), (3, .row 37 2 [.agg [.bool vb, .il 1 (encU vl_)]])]) rfl ⟨⟨0, _, rfl, rfl, .same (.cons (agP _ _ _ _) .nil)⟩, ⟨1, _, rfl, rfl, .same nF0⟩, ⟨2, _, rfl, rfl, .same (.cons (agW _ _) .nil)⟩, ⟨3, _, rfl, rfl, .same (.cons (agW _ _) .nil)⟩, trivial⟩
    (.cons (.fz' (id := 4) (off := 0) (len := 2) (xs := [.agg [.bool ub, .il 1 (encU ul)], .agg [.bool pb, .il 1 (encU pl)]]) (ys := [.agg [.bool ub, .il 1 (encU ul)], .agg [.bool pb, .il 1 (encU pl)]]) rfl rfl (Nat.le_refl 2) rfl (.cons (agW _ _) (.cons (agW _ _) .nil))) .nil) ?_
   refine s1.go ?_ (.cons (.il' (.cons (agW _ _) (.cons (agW _ _) .nil))) .nil) (.tup' (.cons (agW _ _) (.cons nn .nil)))
   ((conv=>whnf);repeat(refine Xg ?_;conv=>whnf))
   repeat ((first | refine setK_iff.2 ?_ | refine ⟨rfl, ?_⟩); ((conv=>whnf);repeat(refine Xg ?_;conv=>whnf)))
   refine h2.go ?_ (.cons (agP _ _ _ _) .nil) (agW _ _)
   ((conv=>whnf);repeat(refine Xg ?_;conv=>whnf))
   repeat ((first | refine setK_iff.2 ?_ | refine ⟨rfl, ?_⟩); ((conv=>whnf);repeat(refine Xg ?_;conv=>whnf)))
   refine ACalls.pre nnΓ [(0, 0), (1, 1), (2, 2), (3, 3)] (mem' := [(0, .row 39 4 [.agg [.bool pb, .il 1 (encU pl), .bool pc, .il 1 (encU pm)]]), (1, .row 39 4 [.agg [.bool false, .nsl, .bool false, .nsl]]), (2, .row 37 2 [.agg [.bool xb, .il 1 (encU xl)]]), (3, .row 37 2 [.agg [.bool vb, .il 1 (encU vl_)]])]) rfl ⟨⟨0, _, rfl, rfl, .same (.cons (agP _ _ _ _) .nil)⟩, ⟨1, _, rfl, rfl, .same nF0⟩, ⟨2, _, rfl, rfl, .same (.cons (agW _ _) .nil)⟩, ⟨3, _, rfl, rfl, .same (.cons (agW _ _) .nil)⟩, trivial⟩
    (.cons (.fz' (id := 8) (off := 0) (len := 2) (xs := [.agg [.bool vb, .il 1 (encU vl_)], .agg [.bool pc, .il 1 (encU pm)]]) (ys := [.agg [.bool vb, .il 1 (encU vl_)], .agg [.bool pc, .il 1 (encU pm)]]) rfl rfl (Nat.le_refl 2) rfl (.cons (agW _ _) (.cons (agW _ _) .nil))) .nil) ?_
   refine s2.go ?_ (.cons (.il' (.cons (agW _ _) (.cons (agW _ _) .nil))) .nil) (.tup' (.cons (agW _ _) (.cons nn .nil)))
   ((conv=>whnf);repeat(refine Xg ?_;conv=>whnf))
   repeat ((first | refine setK_iff.2 ?_ | refine ⟨rfl, ?_⟩); ((conv=>whnf);repeat(refine Xg ?_;conv=>whnf)))
   exact .mk (i + 1) [(0, 0), (1, 1), (2, 2), (3, 3)] (by omega)
    (conv_mk _ rfl ⟨⟨0, _, rfl, rfl, .same (.cons (agP _ _ _ _) .nil)⟩, ⟨1, _, rfl, rfl, .same nF0⟩, ⟨2, _, rfl, rfl, .eq (.cons (encW_nn _) .nil) (by rw [q3])⟩, ⟨3, _, rfl, rfl, .eq (.cons (encW_nn _) .nil) (by rw [q4])⟩, trivial⟩ ⟨⟨_, rfl, .ptr 0 0 0 0 rfl⟩, ⟨_, rfl, .ptr 1 1 0 0 rfl⟩, ⟨_, rfl, .ptr 2 2 0 0 rfl⟩, ⟨_, rfl, .ptr 3 3 0 0 rfl⟩, ⟨_, rfl, .same _ nn⟩, ⟨_, rfl, .w64 (by omega) ⟨by omega, by omega⟩⟩, trivial⟩) (by omega)
  ·have hiN : i = N := by omega
   subst hiN
   obtain ⟨ub, ul, q1⟩ := encW_ex (a.p ^ i)
   obtain ⟨vb, vl_, q2⟩ := encW_ex ((a.q ^ i : Nat) : Int)
   have hq := encP_mk (a := powF a i) q1 q2
   rw [q1, q2, hq]
   ((conv=>whnf);repeat(refine Xg ?_;conv=>whnf))
   rw [hdl, decide_eq_false hlt]
   ((conv=>whnf);repeat(refine Xg ?_;conv=>whnf))
   repeat ((first | refine setK_iff.2 ?_ | refine ⟨rfl, ?_⟩); ((conv=>whnf);repeat(refine Xg ?_;conv=>whnf)))
   exact fin_pure (.tup' (.cons (agP _ _ _ _) (.cons nn .nil))) ⟨rfl, rfl, rfl⟩
 ·rw [show decide (a.p ≥ -1) = true from decide_eq_true c1]
  ((conv=>whnf);repeat(refine Xg ?_;conv=>whnf))
  repeat ((first | refine setK_iff.2 ?_ | refine ⟨rfl, ?_⟩); ((conv=>whnf);repeat(refine Xg ?_;conv=>whnf)))
  by_cases c2 : a.p ≤ 1
  rotate_left
  ·rw [decide_eq_false c2]
   have hNn : N = n := by rw [hcd, if_neg (by omega)]
   subst hNn
   ((conv=>whnf);repeat(refine Xg ?_;conv=>whnf))
   repeat ((first | refine setK_iff.2 ?_ | refine ⟨rfl, ?_⟩); ((conv=>whnf);repeat(refine Xg ?_;conv=>whnf)))
   rw [d16]
   ((conv=>whnf);repeat(refine Xg ?_;conv=>whnf))
   repeat ((first | refine setK_iff.2 ?_ | refine ⟨rfl, ?_⟩); ((conv=>whnf);repeat(refine Xg ?_;conv=>whnf)))
   refine h3.go ?_ (.cons nn .nil) (agW _ _)
   ((conv=>whnf);repeat(refine Xg ?_;conv=>whnf))
   repeat ((first | refine setK_iff.2 ?_ | refine ⟨rfl, ?_⟩); ((conv=>whnf);repeat(refine Xg ?_;conv=>whnf)))
   refine h3.go ?_ (.cons nn .nil) (agW _ _)
   ((conv=>whnf);repeat(refine Xg ?_;conv=>whnf))
   repeat ((first | refine setK_iff.2 ?_ | refine ⟨rfl, ?_⟩); ((conv=>whnf);repeat(refine Xg ?_;conv=>whnf)))
   have hzero : encW ((a.p ^ 0 : Int)) = .agg [.bool ob, .il 1 (encU ol)] := by rw [Int.pow_zero]; exact o1
   have hzero2 : encW ((a.q ^ 0 : Nat) : Int) = .agg [.bool ob, .il 1 (encU ol)] := by rw [Nat.pow_zero]; exact o1
   refine ALoop.at nnΓ (fun i : Nat => i ≤ N)
    (fun i => ⟨[(2, .ptr 0 0 0), (4, .ptr 1 0 0), (8, .ptr 2 0 0), (9, .ptr 3 0 0), (46, .int .i64 N), (47, .int .i64 i)], [(0, .row 39 4 [.agg [.bool pb, .il 1 (encU pl), .bool pc, .il 1 (encU pm)]]), (1, .row 39 4 [.agg [.bool false, .nsl, .bool false, .nsl]]), (2, .row 37 2 [encW (a.p ^ i)]), (3, .row 37 2 [encW ((a.q ^ i : Nat) : Int)])], 4, 77⟩)
    (fun i => N - i) 0 [(0, 0), (1, 1), (2, 2), (3, 3)] (Nat.zero_le _)
    (conv_mk _ rfl ⟨⟨0, _, rfl, rfl, .same (.cons (agP _ _ _ _) .nil)⟩, ⟨1, _, rfl, rfl, .same nF0⟩, ⟨2, _, rfl, rfl, .eq (.cons (encW_nn _) .nil) (by rw [hzero])⟩, ⟨3, _, rfl, rfl, .eq (.cons (encW_nn _) .nil) (by rw [hzero2])⟩, trivial⟩ ⟨⟨_, rfl, .ptr 0 0 0 0 rfl⟩, ⟨_, rfl, .ptr 1 1 0 0 rfl⟩, ⟨_, rfl, .ptr 2 2 0 0 rfl⟩, ⟨_, rfl, .ptr 3 3 0 0 rfl⟩, ⟨_, rfl, .same _ nn⟩, ⟨_, rfl, .same _ nn⟩, trivial⟩) ?_
   intro i hi
   have hdl : decide ((i : Int) < (N : Int)) = decide (i < N) := decide_eq_decide.2 (by omega)
   by_cases hlt : i < N
   ·obtain ⟨s1, s2⟩ := hstep i hlt
    obtain ⟨ub, ul, q1⟩ := encW_ex (a.p ^ i)
    obtain ⟨vb, vl_, q2⟩ := encW_ex ((a.q ^ i : Nat) : Int)
    obtain ⟨xb, xl, q3⟩ := encW_ex (a.p ^ (i + 1))
    obtain ⟨yb, yl, q4⟩ := encW_ex ((a.q ^ (i + 1) : Nat) : Int)
    rw [q1, q3] at s1
    rw [q2, q4] at s2
    rw [q1, q2]
    ((conv=>whnf);repeat(refine Xg ?_;conv=>whnf))
    rw [hdl, decide_eq_true hlt]
    ((conv=>whnf);repeat(refine Xg ?_;conv=>whnf))
    repeat ((first | refine setK_iff.2 ?_ | refine ⟨rfl, ?_⟩); ((conv=>whnf);repeat(refine Xg ?_;conv=>whnf)))
    refine ACalls.pre nnΓ [(0, 0), (1, 1), (2, 2), (3, 3)] (mem' := [(0, .row 39 4 [.agg [.bool pb, .il 1 (encU pl), .bool pc, .il 1 (encU pm)]]), (1, .row 39 4 [.agg [.bool false, .nsl, .bool false, .nsl]]), (2, .row 37 2 [.agg [.bool ub, .il 1 (encU ul)]]), (3, .row 37 2 [.agg [.bool vb, .il 1 (encU vl_)]])]) rfl ⟨⟨0, _, rfl, rfl, .same (.cons (agP _ _ _ _) .nil)⟩, ⟨1, _, rfl, rfl, .same nF0⟩, ⟨2, _, rfl, rfl, .same (.cons (agW _ _) .nil)⟩, ⟨3, _, rfl, rfl, .same (.cons (agW _ _) .nil)⟩, trivial⟩
     (.cons (.fz' (id := 4) (off := 0) (len := 2) (xs := [.agg [.bool ub, .il 1 (encU ul)], .agg [.bool pb, .il 1 (encU pl)]]) (ys := [.agg [.bool ub, .il 1 (encU ul)], .agg [.bool pb, .il 1 (encU pl)]]) rfl rfl (Nat.le_refl 2) rfl (.cons (agW _ _) (.cons (agW _ _) .nil))) .nil) ?_
    refine s1.go ?_ (.cons (.il' (.cons (agW _ _) (.cons (agW _ _) .nil))) .nil) (.tup' (.cons (agW _ _) (.cons nn .nil)))
    ((conv=>whnf);repeat(refine Xg ?_;conv=>whnf))
    repeat ((first | refine setK_iff.2 ?_ | refine ⟨rfl, ?_⟩); ((conv=>whnf);repeat(refine Xg ?_;conv=>whnf)))
    refine h2.go ?_ (.cons (agP _ _ _ _) .nil) (agW _ _)
    ((conv=>whnf);repeat(refine Xg ?_;conv=>whnf))
    repeat ((first | refine setK_iff.2 ?_ | refine ⟨rfl, ?_⟩); ((conv=>whnf);repeat(refine Xg ?_;conv=>whnf)))
    refine ACalls.pre nnΓ [(0, 0), (1, 1), (2, 2), (3, 3)] (mem' := [(0, .row 39 4 [.agg [.bool pb, .il 1 (encU pl), .bool pc, .il 1 (encU pm)]]), (1, .row 39 4 [.agg [.bool false, .nsl, .bool false, .nsl]]), (2, .row 37 2 [.agg [.bool xb, .il 1 (encU xl)]]), (3, .row 37 2 [.agg [.bool vb, .il 1 (encU vl_)]])]) rfl ⟨⟨0, _, rfl, rfl, .same (.cons (agP _ _ _ _) .nil)⟩, ⟨1, _, rfl, rfl, .same nF0⟩, ⟨2, _, rfl, rfl, .same (.cons (agW _ _) .nil)⟩, ⟨3, _, rfl, rfl, .same (.cons (agW _ _) .nil)⟩, trivial⟩
     (.cons (.fz' (id := 8) (off := 0) (len := 2) (xs := [.agg [.bool vb, .il 1 (encU vl_)], .agg [.bool pc, .il 1 (encU pm)]]) (ys := [.agg [.bool vb, .il 1 (encU vl_)], .agg [.bool pc, .il 1 (encU pm)]]) rfl rfl (Nat.le_refl 2) rfl (.cons (agW _ _) (.cons (agW _ _) .nil))) .nil) ?_
    refine s2.go ?_ (.cons (.il' (.cons (agW _ _) (.cons (agW _ _) .nil))) .nil) (.tup' (.cons (agW _ _) (.cons nn .nil)))
    ((conv=>whnf);repeat(refine Xg ?_;conv=>whnf))
    repeat ((first | refine setK_iff.2 ?_ | refine ⟨rfl, ?_⟩); ((conv=>whnf);repeat(refine Xg ?_;conv=>whnf)))
    exact .mk (i + 1) [(0, 0), (1, 1), (2, 2), (3, 3)] (by omega)
     (conv_mk _ rfl ⟨⟨0, _, rfl, rfl, .same (.cons (agP _ _ _ _) .nil)⟩, ⟨1, _, rfl, rfl, .same nF0⟩, ⟨2, _, rfl, rfl, .eq (.cons (encW_nn _) .nil) (by rw [q3])⟩, ⟨3, _, rfl, rfl, .eq (.cons (encW_nn _) .nil) (by rw [q4])⟩, trivial⟩ ⟨⟨_, rfl, .ptr 0 0 0 0 rfl⟩, ⟨_, rfl, .ptr 1 1 0 0 rfl⟩, ⟨_, rfl, .ptr 2 2 0 0 rfl⟩, ⟨_, rfl, .ptr 3 3 0 0 rfl⟩, ⟨_, rfl, .same _ nn⟩, ⟨_, rfl, .w64 (by omega) ⟨by omega, by omega⟩⟩, trivial⟩) (by omega)
   ·have hiN : i = N := by omega
    subst hiN
    obtain ⟨ub, ul, q1⟩ := encW_ex (a.p ^ i)
    obtain ⟨vb, vl_, q2⟩ := encW_ex ((a.q ^ i : Nat) : Int)
    have hq := encP_mk (a := powF a i) q1 q2
    rw [q1, q2, hq]
    ((conv=>whnf);repeat(refine Xg ?_;conv=>whnf))
    rw [hdl, decide_eq_false hlt]
    ((conv=>whnf);repeat(refine Xg ?_;conv=>whnf))
    repeat ((first | refine setK_iff.2 ?_ | refine ⟨rfl, ?_⟩); ((conv=>whnf);repeat(refine Xg ?_;conv=>whnf)))
    exact fin_pure (.tup' (.cons (agP _ _ _ _) (.cons nn .nil))) ⟨rfl, rfl, rfl⟩
  ·rw [decide_eq_true c2]
   ((conv=>whnf);repeat(refine Xg ?_;conv=>whnf))
   repeat ((first | refine setK_iff.2 ?_ | refine ⟨rfl, ?_⟩); ((conv=>whnf);repeat(refine Xg ?_;conv=>whnf)))
   refine h2.go ?_ (.cons (agP _ _ _ _) .nil) (agW _ _)
   ((conv=>whnf);repeat(refine Xg ?_;conv=>whnf))
   repeat ((first | refine setK_iff.2 ?_ | refine ⟨rfl, ?_⟩); ((conv=>whnf);repeat(refine Xg ?_;conv=>whnf)))
   refine h3.go ?_ (.cons nn .nil) (agW _ _)
   ((conv=>whnf);repeat(refine Xg ?_;conv=>whnf))
   repeat ((first | refine setK_iff.2 ?_ | refine ⟨rfl, ?_⟩); ((conv=>whnf);repeat(refine Xg ?_;conv=>whnf)))
   refine h4.go ?_ (.cons (agW _ _) (.cons (agW _ _) .nil)) nn
   ((conv=>whnf);repeat(refine Xg ?_;conv=>whnf))
   repeat ((first | refine setK_iff.2 ?_ | refine ⟨rfl, ?_⟩); ((conv=>whnf);repeat(refine Xg ?_;conv=>whnf)))
   rw [hcj]
   by_cases c3 : a.q = 1
   rotate_left
   ·rw [decide_eq_false c3]
    have hNn : N = n := by rw [hcd, if_neg (by omega)]
    subst hNn
    ((conv=>whnf);repeat(refine Xg ?_;conv=>whnf))
    repeat ((first | refine setK_iff.2 ?_ | refine ⟨rfl, ?_⟩); ((conv=>whnf);repeat(refine Xg ?_;conv=>whnf)))
    rw [d16]
    ((conv=>whnf);repeat(refine Xg ?_;conv=>whnf))
    repeat ((first | refine setK_iff.2 ?_ | refine ⟨rfl, ?_⟩); ((conv=>whnf);repeat(refine Xg ?_;conv=>whnf)))
    refine h3.go ?_ (.cons nn .nil) (agW _ _)
    ((conv=>whnf);repeat(refine Xg ?_;conv=>whnf))
    repeat ((first | refine setK_iff.2 ?_ | refine ⟨rfl, ?_⟩); ((conv=>whnf);repeat(refine Xg ?_;conv=>whnf)))
    refine h3.go ?_ (.cons nn .nil) (agW _ _)
    ((conv=>whnf);repeat(refine Xg ?_;conv=>whnf))
    repeat ((first | refine setK_iff.2 ?_ | refine ⟨rfl, ?_⟩); ((conv=>whnf);repeat(refine Xg ?_;conv=>whnf)))
    have hzero : encW ((a.p ^ 0 : Int)) = .agg [.bool ob, .il 1 (encU ol)] := by rw [Int.pow_zero]; exact o1
    have hzero2 : encW ((a.q ^ 0 : Nat) : Int) = .agg [.bool ob, .il 1 (encU ol)] := by rw [Nat.pow_zero]; exact o1
    refine ALoop.at nnΓ (fun i : Nat => i ≤ N)
     (fun i => ⟨[(2, .ptr 0 0 0), (4, .ptr 1 0 0), (8, .ptr 2 0 0), (9, .ptr 3 0 0), (46, .int .i64 N), (47, .int .i64 i)], [(0, .row 39 4 [.agg [.bool pb, .il 1 (encU pl), .bool pc, .il 1 (encU pm)]]), (1, .row 39 4 [.agg [.bool false, .nsl, .bool false, .nsl]]), (2, .row 37 2 [encW (a.p ^ i)]), (3, .row 37 2 [encW ((a.q ^ i : Nat) : Int)])], 4, 77⟩)
     (fun i => N - i) 0 [(0, 0), (1, 1), (2, 2), (3, 3)] (Nat.zero_le _)
     (conv_mk _ rfl ⟨⟨0, _, rfl, rfl, .same (.cons (agP _ _ _ _) .nil)⟩, ⟨1, _, rfl, rfl, .same nF0⟩, ⟨2, _, rfl, rfl, .eq (.cons (encW_nn _) .nil) (by rw [hzero])⟩, ⟨3, _, rfl, rfl, .eq (.cons (encW_nn _) .nil) (by rw [hzero2])⟩, trivial⟩ ⟨⟨_, rfl, .ptr 0 0 0 0 rfl⟩, ⟨_, rfl, .ptr 1 1 0 0 rfl⟩, ⟨_, rfl, .ptr 2 2 0 0 rfl⟩, ⟨_, rfl, .ptr 3 3 0 0 rfl⟩, ⟨_, rfl, .same _ nn⟩, ⟨_, rfl, .same _ nn⟩, trivial⟩) ?_
    intro i hi
    have hdl : decide ((i : Int) < (N : Int)) = decide (i < N) := decide_eq_decide.2 (by omega)
    by_cases hlt : i < N
    ·obtain ⟨s1, s2⟩ := hstep i hlt
     obtain ⟨ub, ul, q1⟩ := encW_ex (a.p ^ i)
     obtain ⟨vb, vl_, q2⟩ := encW_ex ((a.q ^ i : Nat) : Int)
     obtain ⟨xb, xl, q3⟩ := encW_ex (a.p ^ (i + 1))
     obtain ⟨yb, yl, q4⟩ := encW_ex ((a.q ^ (i + 1) : Nat) : Int)
     rw [q1, q3] at s1
     rw [q2, q4] at s2
     rw [q1, q2]
     ((conv=>whnf);repeat(refine Xg ?_;conv=>whnf))
     rw [hdl, decide_eq_true hlt]
     ((conv=>whnf);repeat(refine Xg ?_;conv=>whnf))
     repeat ((first | refine setK_iff.2 ?_ | refine ⟨rfl, ?_⟩); ((conv=>whnf);repeat(refine Xg ?_;conv=>whnf)))
     refine ACalls.pre nnΓ [(0, 0), (1, 1), (2, 2), (3, 3)] (mem' := [(0, .row 39 4 [.agg [.bool pb, .il 1 (encU pl), .bool pc, .il 1 (encU pm)]]), (1, .row 39 4 [.agg [.bool false, .nsl, .bool false, .nsl]]), (2, .row 37 2 [.agg [.bool ub, .il 1 (encU ul)]]), (3, .row 37 2 [.agg [.bool vb, .il 1 (encU vl_)]])]) rfl ⟨⟨0, _, rfl, rfl, .same (.cons (agP _ _ _ _) .nil)⟩, ⟨1, _, rfl, rfl, .same nF0⟩, ⟨2, _, rfl, rfl, .same (.cons (agW _ _) .nil)⟩, ⟨3, _, rfl, rfl, .same (.cons (agW _ _) .nil)⟩, trivial⟩
      (.cons (.fz' (id := 4) (off := 0) (len := 2) (xs := [.agg [.bool ub, .il 1 (encU ul)], .agg [.bool pb, .il 1 (encU pl)]]) (ys := [.agg [.bool ub, .il 1 (encU ul)], .agg [.bool pb, .il 1 (encU pl)]]) rfl rfl (Nat.le_refl 2) rfl (.cons (agW _ _) (.cons (agW _ _) .nil))) .nil) ?_
     refine s1.go ?_ (.cons (.il' (.cons (agW _ _) (.cons (agW _ _) .nil))) .nil) (.tup' (.cons (agW _ _) (.cons nn .nil)))
     ((conv=>whnf);repeat(refine Xg ?_;conv=>whnf))
     repeat ((first | refine setK_iff.2 ?_ | refine ⟨rfl, ?_⟩); ((conv=>whnf);repeat(refine Xg ?_;conv=>whnf)))
     refine h2.go ?_ (.cons (agP _ _ _ _) .nil) (agW _ _)
     ((conv=>whnf);repeat(refine Xg ?_;conv=>whnf))
     repeat ((first | refine setK_iff.2 ?_ | refine ⟨rfl, ?_⟩); ((conv=>whnf);repeat(refine Xg ?_;conv=>whnf)))
     refine ACalls.pre nnΓ [(0, 0), (1, 1), (2, 2), (3, 3)] (mem' := [(0, .row 39 4 [.agg [.bool pb, .il 1 (encU pl), .bool pc, .il 1 (encU pm)]]), (1, .row 39 4 [.agg [.bool false, .nsl, .bool false, .nsl]]), (2, .row 37 2 [.agg [.bool xb, .il 1 (encU xl)]]), (3, .row 37 2 [.agg [.bool vb, .il 1 (encU vl_)]])]) rfl ⟨⟨0, _, rfl, rfl, .same (.cons (agP _ _ _ _) .nil)⟩, ⟨1, _, rfl, rfl, .same nF0⟩, ⟨2, _, rfl, rfl, .same (.cons (agW _ _) .nil)⟩, ⟨3, _, rfl, rfl, .same (.cons (agW _ _) .nil)⟩, trivial⟩
      (.cons (.fz' (id := 8) (off := 0) (len := 2) (xs := [.agg [.bool vb, .il 1 (encU vl_)], .agg [.bool pc, .il 1 (encU pm)]]) (ys := [.agg [.bool vb, .il 1 (encU vl_)], .agg [.bool pc, .il 1 (encU pm)]]) rfl rfl (Nat.le_refl 2) rfl (.cons (agW _ _) (.cons (agW _ _) .nil))) .nil) ?_
     refine s2.go ?_ (.cons (.il' (.cons (agW _ _) (.cons (agW _ _) .nil))) .nil) (.tup' (.cons (agW _ _) (.cons nn .nil)))
     ((conv=>whnf);repeat(refine Xg ?_;conv=>whnf))
     repeat ((first | refine setK_iff.2 ?_ | refine ⟨rfl, ?_⟩); ((conv=>whnf);repeat(refine Xg ?_;conv=>whnf)))
     exact .mk (i + 1) [(0, 0), (1, 1), (2, 2), (3, 3)] (by omega)
      (conv_mk _ rfl ⟨⟨0, _, rfl, rfl, .same (.cons (agP _ _ _ _) .nil)⟩, ⟨1, _, rfl, rfl, .same nF0⟩, ⟨2, _, rfl, rfl, .eq (.cons (encW_nn _) .nil) (by rw [q3])⟩, ⟨3, _, rfl, rfl, .eq (.cons (encW_nn _) .nil) (by rw [q4])⟩, trivial⟩ ⟨⟨_, rfl, .ptr 0 0 0 0 rfl⟩, ⟨_, rfl, .ptr 1 1 0 0 rfl⟩, ⟨_, rfl, .ptr 2 2 0 0 rfl⟩, ⟨_, rfl, .ptr 3 3 0 0 rfl⟩, ⟨_, rfl, .same _ nn⟩, ⟨_, rfl, .w64 (by omega) ⟨by omega, by omega⟩⟩, trivial⟩) (by omega)
    ·have hiN : i = N := by omega
     subst hiN
     obtain ⟨ub, ul, q1⟩ := encW_ex (a.p ^ i)
     obtain ⟨vb, vl_, q2⟩ := encW_ex ((a.q ^ i : Nat) : Int)
     have hq := encP_mk (a := powF a i) q1 q2
     rw [q1, q2, hq]
     ((conv=>whnf);repeat(refine Xg ?_;conv=>whnf))
     rw [hdl, decide_eq_false hlt]
     ((conv=>whnf);repeat(refine Xg ?_;conv=>whnf))
     repeat ((first | refine setK_iff.2 ?_ | refine ⟨rfl, ?_⟩); ((conv=>whnf);repeat(refine Xg ?_;conv=>whnf)))
     exact fin_pure (.tup' (.cons (agP _ _ _ _) (.cons nn .nil))) ⟨rfl, rfl, rfl⟩
   ·rw [decide_eq_true c3]
    ((conv=>whnf);repeat(refine Xg ?_;conv=>whnf))
    repeat ((first | refine setK_iff.2 ?_ | refine ⟨rfl, ?_⟩); ((conv=>whnf);repeat(refine Xg ?_;conv=>whnf)))
    have h2n : decide ((n : Int) > 2) = decide (2 < n) := decide_eq_decide.2 (by omega)
    rw [h2n]
    by_cases c4 : 2 < n
    rotate_left
    ·rw [decide_eq_false c4]
     have hNn : N = n := by rw [hcd, if_neg (by omega)]
     subst hNn
     ((conv=>whnf);repeat(refine Xg ?_;conv=>whnf))
     repeat ((first | refine setK_iff.2 ?_ | refine ⟨rfl, ?_⟩); ((conv=>whnf);repeat(refine Xg ?_;conv=>whnf)))
     rw [d16]
     ((conv=>whnf);repeat(refine Xg ?_;conv=>whnf))
     repeat ((first | refine setK_iff.2 ?_ | refine ⟨rfl, ?_⟩); ((conv=>whnf);repeat(refine Xg ?_;conv=>whnf)))
     refine h3.go ?_ (.cons nn .nil) (agW _ _)
     ((conv=>whnf);repeat(refine Xg ?_;conv=>whnf))
     repeat ((first | refine setK_iff.2 ?_ | refine ⟨rfl, ?_⟩); ((conv=>whnf);repeat(refine Xg ?_;conv=>whnf)))
     refine h3.go ?_ (.cons nn .nil) (agW _ _)
     ((conv=>whnf);repeat(refine Xg ?_;conv=>whnf))
     repeat ((first | refine setK_iff.2 ?_ | refine ⟨rfl, ?_⟩); ((conv=>whnf);repeat(refine Xg ?_;conv=>whnf)))
     have hzero : encW ((a.p ^ 0 : Int)) = .agg [.bool ob, .il 1 (encU ol)] := by rw [Int.pow_zero]; exact o1
     have hzero2 : encW ((a.q ^ 0 : Nat) : Int) = .agg [.bool ob, .il 1 (encU ol)] := by rw [Nat.pow_zero]; exact o1
     refine ALoop.at nnΓ (fun i : Nat => i ≤ N)
      (fun i => ⟨[(2, .ptr 0 0 0), (4, .ptr 1 0 0), (8, .ptr 2 0 0), (9, .ptr 3 0 0), (46, .int .i64 N), (47, .int .i64 i)], [(0, .row 39 4 [.agg [.bool pb, .il 1 (encU pl), .bool pc, .il 1 (encU pm)]]), (1, .row 39 4 [.agg [.bool false, .nsl, .bool false, .nsl]]), (2, .row 37 2 [encW (a.p ^ i)]), (3, .row 37 2 [encW ((a.q ^ i : Nat) : Int)])], 4, 77⟩)
      (fun i => N - i) 0 [(0, 0), (1, 1), (2, 2), (3, 3)] (Nat.zero_le _)
      (conv_mk _ rfl ⟨⟨0, _, rfl, rfl, .same (.cons (agP _ _ _ _) .nil)⟩, ⟨1, _, rfl, rfl, .same nF0⟩, ⟨2, _, rfl, rfl, .eq (.cons (encW_nn _) .nil) (by rw [hzero])⟩, ⟨3, _, rfl, rfl, .eq (.cons (encW_nn _) .nil) (by rw [hzero2])⟩, trivial⟩ ⟨⟨_, rfl, .ptr 0 0 0 0 rfl⟩, ⟨_, rfl, .ptr 1 1 0 0 rfl⟩, ⟨_, rfl, .ptr 2 2 0 0 rfl⟩, ⟨_, rfl, .ptr 3 3 0 0 rfl⟩, ⟨_, rfl, .same _ nn⟩, ⟨_, rfl, .same _ nn⟩, trivial⟩) ?_
     intro i hi
     have hdl : decide ((i : Int) < (N : Int)) = decide (i < N) := decide_eq_decide.2 (by omega)
     by_cases hlt : i < N
     ·obtain ⟨s1, s2⟩ := hstep i hlt
      obtain ⟨ub, ul, q1⟩ := encW_ex (a.p ^ i)
      obtain ⟨vb, vl_, q2⟩ := encW_ex ((a.q ^ i : Nat) : Int)
      obtain ⟨xb, xl, q3⟩ := encW_ex (a.p ^ (i + 1))
      obtain ⟨yb, yl, q4⟩ := encW_ex ((a.q ^ (i + 1) : Nat) : Int)
      rw [q1, q3] at s1
      rw [q2, q4] at s2
      rw [q1, q2]
      ((conv=>whnf);repeat(refine Xg ?_;conv=>whnf))
      rw [hdl, decide_eq_true hlt]
      ((conv=>whnf);repeat(refine Xg ?_;conv=>whnf))
      repeat ((first | refine setK_iff.2 ?_ | refine ⟨rfl, ?_⟩); ((conv=>whnf);repeat(refine Xg ?_;conv=>whnf)))
      refine ACalls.pre nnΓ [(0, 0), (1, 1), (2, 2), (3, 3)] (mem' := [(0, .row 39 4 [.agg [.bool pb, .il 1 (encU pl), .bool pc, .il 1 (encU pm)]]), (1, .row 39 4 [.agg [.bool false, .nsl, .bool false, .nsl]]), (2, .row 37 2 [.agg [.bool ub, .il 1 (encU ul)]]), (3, .row 37 2 [.agg [.bool vb, .il 1 (encU vl_)]])]) rfl ⟨⟨0, _, rfl, rfl, .same (.cons (agP _ _ _ _) .nil)⟩, ⟨1, _, rfl, rfl, .same nF0⟩, ⟨2, _, rfl, rfl, .same (.cons (agW _ _) .nil)⟩, ⟨3, _, rfl, rfl, .same (.cons (agW _ _) .nil)⟩, trivial⟩
       (.cons (.fz' (id := 4) (off := 0) (len := 2) (xs := [.agg [.bool ub, .il 1 (encU ul)], .agg [.bool pb, .il 1 (encU pl)]]) (ys := [.agg [.bool ub, .il 1 (encU ul)], .agg [.bool pb, .il 1 (encU pl)]]) rfl rfl (Nat.le_refl 2) rfl (.cons (agW _ _) (.cons (agW _ _) .nil))) .nil) ?_
      refine s1.go ?_ (.cons (.il' (.cons (agW _ _) (.cons (agW _ _) .nil))) .nil) (.tup' (.cons (agW _ _) (.cons nn .nil)))
      ((conv=>whnf);repeat(refine Xg ?_;conv=>whnf))
      repeat ((first | refine setK_iff.2 ?_ | refine ⟨rfl, ?_⟩); ((conv=>whnf);repeat(refine Xg ?_;conv=>whnf)))
      refine h2.go ?_ (.cons (agP _ _ _ _) .nil) (agW _ _)
      ((conv=>whnf);repeat(refine Xg ?_;conv=>whnf))
      repeat ((first | refine setK_iff.2 ?_ | refine ⟨rfl, ?_⟩); ((conv=>whnf);repeat(refine Xg ?_;conv=>whnf)))
      refine ACalls.pre nnΓ [(0, 0), (1, 1), (2, 2), (3, 3)] (mem' := [(0, .row 39 4 [.agg [.bool pb, .il 1 (encU pl), .bool pc, .il 1 (encU pm)]]), (1, .row 39 4 [.agg [.bool false, .nsl, .bool false, .nsl]]), (2, .row 37 2 [.agg [.bool xb, .il 1 (encU xl)]]), (3, .row 37 2 [.agg [.bool vb, .il 1 (encU vl_)]])]) rfl ⟨⟨0, _, rfl, rfl, .same (.cons (agP _ _ _ _) .nil)⟩, ⟨1, _, rfl, rfl, .same nF0⟩, ⟨2, _, rfl, rfl, .same (.cons (agW _ _) .nil)⟩, ⟨3, _, rfl, rfl, .same (.cons (agW _ _) .nil)⟩, trivial⟩
       (.cons (.fz' (id := 8) (off := 0) (len := 2) (xs := [.agg [.bool vb, .il 1 (encU vl_)], .agg [.bool pc, .il 1 (encU pm)]]) (ys := [.agg [.bool vb, .il 1 (encU vl_)], .agg [.bool pc, .il 1 (encU pm)]]) rfl rfl (Nat.le_refl 2) rfl (.cons (agW _ _) (.cons (agW _ _) .nil))) .nil) ?_
      refine s2.go ?_ (.cons (.il' (.cons (agW _ _) (.cons (agW _ _) .nil))) .nil) (.tup' (.cons (agW _ _) (.cons nn .nil)))
      ((conv=>whnf);repeat(refine Xg ?_;conv=>whnf))
      repeat ((first | refine setK_iff.2 ?_ | refine ⟨rfl, ?_⟩); ((conv=>whnf);repeat(refine Xg ?_;conv=>whnf)))
      exact .mk (i + 1) [(0, 0), (1, 1), (2, 2), (3, 3)] (by omega)
       (conv_mk _ rfl ⟨⟨0, _, rfl, rfl, .same (.cons (agP _ _ _ _) .nil)⟩, ⟨1, _, rfl, rfl, .same nF0⟩, ⟨2, _, rfl, rfl, .eq (.cons (encW_nn _) .nil) (by rw [q3])⟩, ⟨3, _, rfl, rfl, .eq (.cons (encW_nn _) .nil) (by rw [q4])⟩, trivial⟩ ⟨⟨_, rfl, .ptr 0 0 0 0 rfl⟩, ⟨_, rfl, .ptr 1 1 0 0 rfl⟩, ⟨_, rfl, .ptr 2 2 0 0 rfl⟩, ⟨_, rfl, .ptr 3 3 0 0 rfl⟩, ⟨_, rfl, .same _ nn⟩, ⟨_, rfl, .w64 (by omega) ⟨by omega, by omega⟩⟩, trivial⟩) (by omega)
     ·have hiN : i = N := by omega
      subst hiN
      obtain ⟨ub, ul, q1⟩ := encW_ex (a.p ^ i)
      obtain ⟨vb, vl_, q2⟩ := encW_ex ((a.q ^ i : Nat) : Int)
      have hq := encP_mk (a := powF a i) q1 q2
      rw [q1, q2, hq]
      ((conv=>whnf);repeat(refine Xg ?_;conv=>whnf))
      rw [hdl, decide_eq_false hlt]
      ((conv=>whnf);repeat(refine Xg ?_;conv=>whnf))
      repeat ((first | refine setK_iff.2 ?_ | refine ⟨rfl, ?_⟩); ((conv=>whnf);repeat(refine Xg ?_;conv=>whnf)))
      exact fin_pure (.tup' (.cons (agP _ _ _ _) (.cons nn .nil))) ⟨rfl, rfl, rfl⟩
    ·rw [decide_eq_true c4]
     have hNn : N = 2 - n % 2 := by rw [hcd, if_pos (by omega)]
     ((conv=>whnf);repeat(refine Xg ?_;conv=>whnf))
     repeat ((first | refine setK_iff.2 ?_ | refine ⟨rfl, ?_⟩); ((conv=>whnf);repeat(refine Xg ?_;conv=>whnf)))
     have eN : IntKind.i64.wrap (2 - (n : Int).tmod 2) = (N : Int) := by rw [show (n : Int).tmod 2 = ((n % 2 : Nat) : Int) from tmod_nat n 2, wrap64 ⟨by omega, by omega⟩]; omega
     have d16N : decide ((N : Int) > 16384) = false := decide_eq_false (by omega)
     rw [eN]
     rw [d16N]
     ((conv=>whnf);repeat(refine Xg ?_;conv=>whnf))
     repeat ((first | refine setK_iff.2 ?_ | refine ⟨rfl, ?_⟩); ((conv=>whnf);repeat(refine Xg ?_;conv=>whnf)))
     refine h3.go ?_ (.cons nn .nil) (agW _ _)
     ((conv=>whnf);repeat(refine Xg ?_;conv=>whnf))
     repeat ((first | refine setK_iff.2 ?_ | refine ⟨rfl, ?_⟩); ((conv=>whnf);repeat(refine Xg ?_;conv=>whnf)))
     refine h3.go ?_ (.cons nn .nil) (agW _ _)
     ((conv=>whnf);repeat(refine Xg ?_;conv=>whnf))
     repeat ((first | refine setK_iff.2 ?_ | refine ⟨rfl, ?_⟩); ((conv=>whnf);repeat(refine Xg ?_;conv=>whnf)))
     have hzero : encW ((a.p ^ 0 : Int)) = .agg [.bool ob, .il 1 (encU ol)] := by rw [Int.pow_zero]; exact o1
     have hzero2 : encW ((a.q ^ 0 : Nat) : Int) = .agg [.bool ob, .il 1 (encU ol)] := by rw [Nat.pow_zero]; exact o1
     refine ALoop.at nnΓ (fun i : Nat => i ≤ N)
      (fun i => ⟨[(2, .ptr 0 0 0), (4, .ptr 1 0 0), (8, .ptr 2 0 0), (9, .ptr 3 0 0), (46, .int .i64 N), (47, .int .i64 i)], [(0, .row 39 4 [.agg [.bool pb, .il 1 (encU pl), .bool pc, .il 1 (encU pm)]]), (1, .row 39 4 [.agg [.bool false, .nsl, .bool false, .nsl]]), (2, .row 37 2 [encW (a.p ^ i)]), (3, .row 37 2 [encW ((a.q ^ i : Nat) : Int)])], 4, 77⟩)
      (fun i => N - i) 0 [(0, 0), (1, 1), (2, 2), (3, 3)] (Nat.zero_le _)
      (conv_mk _ rfl ⟨⟨0, _, rfl, rfl, .same (.cons (agP _ _ _ _) .nil)⟩, ⟨1, _, rfl, rfl, .same nF0⟩, ⟨2, _, rfl, rfl, .eq (.cons (encW_nn _) .nil) (by rw [hzero])⟩, ⟨3, _, rfl, rfl, .eq (.cons (encW_nn _) .nil) (by rw [hzero2])⟩, trivial⟩ ⟨⟨_, rfl, .ptr 0 0 0 0 rfl⟩, ⟨_, rfl, .ptr 1 1 0 0 rfl⟩, ⟨_, rfl, .ptr 2 2 0 0 rfl⟩, ⟨_, rfl, .ptr 3 3 0 0 rfl⟩, ⟨_, rfl, .same _ nn⟩, ⟨_, rfl, .same _ nn⟩, trivial⟩) ?_
     intro i hi
     have hdl : decide ((i : Int) < (N : Int)) = decide (i < N) := decide_eq_decide.2 (by omega)
     by_cases hlt : i < N
     ·obtain ⟨s1, s2⟩ := hstep i hlt
      obtain ⟨ub, ul, q1⟩ := encW_ex (a.p ^ i)
      obtain ⟨vb, vl_, q2⟩ := encW_ex ((a.q ^ i : Nat) : Int)
      obtain ⟨xb, xl, q3⟩ := encW_ex (a.p ^ (i + 1))
      obtain ⟨yb, yl, q4⟩ := encW_ex ((a.q ^ (i + 1) : Nat) : Int)
      rw [q1, q3] at s1
      rw [q2, q4] at s2
      rw [q1, q2]
      ((conv=>whnf);repeat(refine Xg ?_;conv=>whnf))
      rw [hdl, decide_eq_true hlt]
      ((conv=>whnf);repeat(refine Xg ?_;conv=>whnf))
      repeat ((first | refine setK_iff.2 ?_ | refine ⟨rfl, ?_⟩); ((conv=>whnf);repeat(refine Xg ?_;conv=>whnf)))
      refine ACalls.pre nnΓ [(0, 0), (1, 1), (2, 2), (3, 3)] (mem' := [(0, .row 39 4 [.agg [.bool pb, .il 1 (encU pl), .bool pc, .il 1 (encU pm)]]), (1, .row 39 4 [.agg [.bool false, .nsl, .bool false, .nsl]]), (2, .row 37 2 [.agg [.bool ub, .il 1 (encU ul)]]), (3, .row 37 2 [.agg [.bool vb, .il 1 (encU vl_)]])]) rfl ⟨⟨0, _, rfl, rfl, .same (.cons (agP _ _ _ _) .nil)⟩, ⟨1, _, rfl, rfl, .same nF0⟩, ⟨2, _, rfl, rfl, .same (.cons (agW _ _) .nil)⟩, ⟨3, _, rfl, rfl, .same (.cons (agW _ _) .nil)⟩, trivial⟩
       (.cons (.fz' (id := 4) (off := 0) (len := 2) (xs := [.agg [.bool ub, .il 1 (encU ul)], .agg [.bool pb, .il 1 (encU pl)]]) (ys := [.agg [.bool ub, .il 1 (encU ul)], .agg [.bool pb, .il 1 (encU pl)]]) rfl rfl (Nat.le_refl 2) rfl (.cons (agW _ _) (.cons (agW _ _) .nil))) .nil) ?_
      refine s1.go ?_ (.cons (.il' (.cons (agW _ _) (.cons (agW _ _) .nil))) .nil) (.tup' (.cons (agW _ _) (.cons nn .nil)))
      ((conv=>whnf);repeat(refine Xg ?_;conv=>whnf))
      repeat ((first | refine setK_iff.2 ?_ | refine ⟨rfl, ?_⟩); ((conv=>whnf);repeat(refine Xg ?_;conv=>whnf)))
      refine h2.go ?_ (.cons (agP _ _ _ _) .nil) (agW _ _)
      ((conv=>whnf);repeat(refine Xg ?_;conv=>whnf))
      repeat ((first | refine setK_iff.2 ?_ | refine ⟨rfl, ?_⟩); ((conv=>whnf);repeat(refine Xg ?_;conv=>whnf)))
      refine ACalls.pre nnΓ [(0, 0), (1, 1), (2, 2), (3, 3)] (mem' := [(0, .row 39 4 [.agg [.bool pb, .il 1 (encU pl), .bool pc, .il 1 (encU pm)]]), (1, .row 39 4 [.agg [.bool false, .nsl, .bool false, .nsl]]), (2, .row 37 2 [.agg [.bool xb, .il 1 (encU xl)]]), (3, .row 37 2 [.agg [.bool vb, .il 1 (encU vl_)]])]) rfl ⟨⟨0, _, rfl, rfl, .same (.cons (agP _ _ _ _) .nil)⟩, ⟨1, _, rfl, rfl, .same nF0⟩, ⟨2, _, rfl, rfl, .same (.cons (agW _ _) .nil)⟩, ⟨3, _, rfl, rfl, .same (.cons (agW _ _) .nil)⟩, trivial⟩
       (.cons (.fz' (id := 8) (off := 0) (len := 2) (xs := [.agg [.bool vb, .il 1 (encU vl_)], .agg [.bool pc, .il 1 (encU pm)]]) (ys := [.agg [.bool vb, .il 1 (encU vl_)], .agg [.bool pc, .il 1 (encU pm)]]) rfl rfl (Nat.le_refl 2) rfl (.cons (agW _ _) (.cons (agW _ _) .nil))) .nil) ?_
      refine s2.go ?_ (.cons (.il' (.cons (agW _ _) (.cons (agW _ _) .nil))) .nil) (.tup' (.cons (agW _ _) (.cons nn .nil)))
      ((conv=>whnf);repeat(refine Xg ?_;conv=>whnf))
      repeat ((first | refine setK_iff.2 ?_ | refine ⟨rfl, ?_⟩); ((conv=>whnf);repeat(refine Xg ?_;conv=>whnf)))
      exact .mk (i + 1) [(0, 0), (1, 1), (2, 2), (3, 3)] (by omega)
       (conv_mk _ rfl ⟨⟨0, _, rfl, rfl, .same (.cons (agP _ _ _ _) .nil)⟩, ⟨1, _, rfl, rfl, .same nF0⟩, ⟨2, _, rfl, rfl, .eq (.cons (encW_nn _) .nil) (by rw [q3])⟩, ⟨3, _, rfl, rfl, .eq (.cons (encW_nn _) .nil) (by rw [q4])⟩, trivial⟩ ⟨⟨_, rfl, .ptr 0 0 0 0 rfl⟩, ⟨_, rfl, .ptr 1 1 0 0 rfl⟩, ⟨_, rfl, .ptr 2 2 0 0 rfl⟩, ⟨_, rfl, .ptr 3 3 0 0 rfl⟩, ⟨_, rfl, .same _ nn⟩, ⟨_, rfl, .w64 (by omega) ⟨by omega, by omega⟩⟩, trivial⟩) (by omega)
     ·have hiN : i = N := by omega
      subst hiN
      obtain ⟨ub, ul, q1⟩ := encW_ex (a.p ^ i)
      obtain ⟨vb, vl_, q2⟩ := encW_ex ((a.q ^ i : Nat) : Int)
      have hq := encP_mk (a := powF a i) q1 q2
      rw [q1, q2, hq]
      ((conv=>whnf);repeat(refine Xg ?_;conv=>whnf))
      rw [hdl, decide_eq_false hlt]
      ((conv=>whnf);repeat(refine Xg ?_;conv=>whnf))
      repeat ((first | refine setK_iff.2 ?_ | refine ⟨rfl, ?_⟩); ((conv=>whnf);repeat(refine Xg ?_;conv=>whnf)))
      exact fin_pure (.tup' (.cons (agP _ _ _ _) (.cons nn .nil))) ⟨rfl, rfl, rfl⟩
set_option maxHeartbeats 16000000
set_option linter.unusedSimpArgs false
theorem lawOrderCW (l m : List Int) (_ : ∀ x ∈ l, i64 x) (_ : ∀ x ∈ m, i64 x) : PureC Tryz.prog gz 7 [.il 1 (encI l), .il 1 (encI m)] (.bool true) := by
 have hbits : PureC Tryz.prog [] 10 [.il 1 (encI m), .int .i64 20] (.il 1 (encBo (bitsL m 20))) := lBits m 20 (by omega)
 have hbl : (bitsL m 20).length ≤ 20 := by rw [bitsL_length]; omega
 generalize bitsL m 20 = b at *
 refine acalls_go nngz Tryz.func7 rfl ?_
 ((conv=>whnf);repeat(refine Xg ?_;conv=>whnf))
 refine ACalls.useN nngz [] (lBoth l) rfl (.cons (.same _ (.il' (encI_nn l))) .nil) trivial rfl ?_
 rintro r m' n' hQ
 rcases hQ with ⟨hN, rfl, rfl, rfl⟩ | ⟨T, hT, hTF, rfl, rfl, rfl⟩
 ·refine ⟨[], .tup [.nptr, .nptr, .bool true], [], 0, .same _ (.tup' (.cons .nptr (.cons .nptr (.cons (tBo _) .nil)))), trivial, rfl, ?_⟩
  ((conv=>whnf);repeat(refine Xg ?_;conv=>whnf))
  repeat ((first | refine setK_iff.2 ?_ | refine ⟨rfl, ?_⟩); ((conv=>whnf);repeat(refine Xg ?_;conv=>whnf)))
  refine PureC.use lives25 nngz .nil (tBo _) ?_
  ((conv=>whnf);repeat(refine Xg ?_;conv=>whnf))
  exact fin_pure (tBo _) ⟨rfl, rfl, rfl⟩
 ·have hT' : newT (numsT l).1 (numsT l).2.1 (numsT l).2.2.1 (numsT l).2.2.2 = (some T, 0) := hT
  obtain ⟨⟨ha, hb, hc, hd⟩, -⟩ := fNumbers l
  obtain ⟨z1, z2, -⟩ := new_zero hT'
  have p0 := pow_start ha.sz hb.sz hc.sz hd.sz hT' z1 z2
  have h0 := tk_zero hT' hTF
  clear ha hb hc hd hT' hT
  have hith := p0.ti.hit
  have misz := p0.ti.miss
  have oh := lOf T.hit hTF.hit
  have om := lOf T.miss hTF.miss
  obtain ⟨hb, hc, mb, mc, ub, uc, lb, lc, rb, rc, hl, hm, ml, mm, ul, um, ll, lm, rl, rm, qh, qm, -, qT⟩ := encTF_ex T
  obtain ⟨eb, el, ec, em, -, -, qhp⟩ := encP_ex T.hit
  obtain ⟨fb, fl, fc, fm, -, -, qmp⟩ := encP_ex T.miss
  rw [qh, qhp] at oh
  rw [qm, qmp] at om
  refine ⟨[(0, 0), (1, 1)], .tup [.ptr 0 0 0, .ptr 1 0 0, .bool true], [(0, tB0 T), (1, rB0 T)], 2, .tup' (.cons (.ptr 0 0 0 0 rfl) (.cons (.ptr 1 1 0 0 rfl) (.cons (.same _ (tBo _)) .nil))), ⟨⟨0, _, rfl, rfl, .same (encTP_nn T)⟩, ⟨1, _, rfl, rfl, .same (encTF_nn T)⟩, trivial⟩, rfl, ?_⟩
  ((conv=>whnf);repeat(refine Xg ?_;conv=>whnf))
  repeat ((first | refine setK_iff.2 ?_ | refine ⟨rfl, ?_⟩); ((conv=>whnf);repeat(refine Xg ?_;conv=>whnf)))
  refine hbits.goG ?_ (.cons (.il' (encI_nn m)) (.cons nn .nil)) (.il' (encBo_nn _))
  ((conv=>whnf);repeat(refine Xg ?_;conv=>whnf))
  repeat ((first | refine setK_iff.2 ?_ | refine ⟨rfl, ?_⟩); ((conv=>whnf);repeat(refine Xg ?_;conv=>whnf)))
  refine ALoop.at nngz (fun i : Nat => i ≤ b.length ∧ PowIn i T.hit T.miss (runT T b i))
   (fun i => ⟨[(5, .ptr 0 0 0), (6, .ptr 1 0 0), (8, .il 1 (encBo b)), (9, .int .i64 i)], [(0, tB0 (runT T b i)), (1, .row 47 23 [.agg [.bool hb, .il 1 (encD hl), .bool hc, .il 1 (encD hm), .bool mb, .il 1 (encD ml), .bool mc, .il 1 (encD mm), .bool ub, .il 1 (encD ul), .bool uc, .il 1 (encD um), .bool lb, .il 1 (encD ll), .bool lc, .il 1 (encD lm), .bool rb, .il 1 (encD rl), .bool rc, .il 1 (encD rm), .int .i64 T.verdict, .int .i64 T.runs, .int .i64 T.hits]])], 2, 141⟩)
   (fun i => b.length - i) 0 [(0, 0), (1, 1)] ⟨by omega, p0⟩
   (conv_mk _ rfl ⟨⟨0, _, rfl, rfl, .same (encTP_nn T)⟩, ⟨1, _, rfl, rfl, .eq (agFT _ _ _ _ _ _ _ _ _ _ _ _ _ _ _ _ _ _ _ _ _ _ _) (by rw [qT])⟩, trivial⟩ ⟨⟨_, rfl, .ptr 0 0 0 0 rfl⟩, ⟨_, rfl, .ptr 1 1 0 0 rfl⟩, ⟨_, rfl, .same _ (.il' (encBo_nn b))⟩, ⟨_, rfl, .same _ nn⟩, trivial⟩) ?_
  intro i hi
  have hd : decide ((i : Int) < ((encBo b).length : Int)) = decide (i < b.length) := by rw [encBo_length]; exact decide_eq_decide.2 (by omega)
  by_cases hlt : i < b.length
  ·obtain ⟨hi1, pw⟩ := hi
   have hk := run_k b h0 i (by omega)
   have hk2 := run_k b h0 (i + 1) (by omega)
   have hg := encBo_get hlt
   have hst : runT T b (i + 1) = (feedT (runT T b i) (b.getD i false)).1 := rfl
   have pw2 := fun e => pw.feed (by omega) e (b.getD i false)
   rw [← hst] at pw2
   have hfp := pFeed (runT T b i) (b.getD i false) hk.tf
   generalize hS : runT T b i = S at *
   generalize hS2 : runT T b (i + 1) = S2 at *
   generalize b.getD i false = x at *
   rw [← hst] at hfp
   generalize (feedT S x).2.1 = V at *
   generalize (feedT S x).2.2 = E at *
   have hv := pVerdict S
   have hr := pRatio S
   have hcp := pCopy S
   have hs := pString S.ratio hk.tf.ratio
   have hv2 := pVerdict S2
   have hr2 := pRatio S2
   have hn2 := pRuns S2
   have hs2 := pString S2.ratio hk2.tf.ratio
   obtain ⟨pb, pl, pc, pm, -, -, q1⟩ := encP_ex S.ratio
   obtain ⟨sb, sl, sc, sm, -, -, q2⟩ := encP_ex S2.ratio
   rw [q1] at hr hs
   rw [q2] at hr2 hs2
   generalize txtF S.ratio = tx at *
   generalize txtF S2.ratio = tx2 at *
   have nes : (!(tx == tx)) = false := by rw [beq_self_eq_true]; rfl
   have nes2 : (!(tx2 == tx2)) = false := by rw [beq_self_eq_true]; rfl
   ((conv=>whnf);repeat(refine Xg ?_;conv=>whnf))
   rw [hd, decide_eq_true hlt]
   ((conv=>whnf);repeat(refine Xg ?_;conv=>whnf))
   repeat ((first | refine opt_mk hg ?_ | refine setK_iff.2 ?_ | refine ⟨rfl, ?_⟩); ((conv=>whnf);repeat(refine Xg ?_;conv=>whnf)))
   refine ACalls.useR nngz [(0, 0)] hv.glob rfl (.cons (.ptr 0 0 0 0 rfl) .nil) ⟨⟨0, _, rfl, rfl, .same (encTP_nn _)⟩, trivial⟩ rfl ?_
   rintro r m n ⟨rfl, rfl, rfl⟩
   refine ⟨[(0, tB0 S)], nn, ⟨⟨0, _, rfl, rfl, .same (encTP_nn _)⟩, trivial⟩, rfl, ?_⟩
   ((conv=>whnf);repeat(refine Xg ?_;conv=>whnf))
   repeat ((first | refine setK_iff.2 ?_ | refine ⟨rfl, ?_⟩); ((conv=>whnf);repeat(refine Xg ?_;conv=>whnf)))
   by_cases hv0 : S.verdict = 0
   rotate_left
   ·rw [show ((S.verdict : Int) == 0) = false by rw [beq_eq_false_iff_ne]; omega]
    ((conv=>whnf);repeat(refine Xg ?_;conv=>whnf))
    repeat ((first | refine opt_mk hg ?_ | refine setK_iff.2 ?_ | refine ⟨rfl, ?_⟩); ((conv=>whnf);repeat(refine Xg ?_;conv=>whnf)))
    refine PureC.use lives25 nngz .nil (tBo _) ?_
    ((conv=>whnf);repeat(refine Xg ?_;conv=>whnf))
    exact fin_pure (tBo _) ⟨rfl, rfl, rfl⟩
   ·have pw2 := pw2 hv0
    have le2 := pw2.le
    have ru2 := pw2.runs
    have hx := pPow T.hit hTF.hit.can hith S2.hits (by omega)
    have hy := pPow T.miss hTF.miss.can misz (S2.runs - S2.hits) (by omega)
    have cx := sz_fc (powF_sz hith S2.hits) (by omega) (powF_can hTF.hit.can _)
    have cy := sz_fc (powF_sz misz (S2.runs - S2.hits)) (by omega) (powF_can hTF.miss.can _)
    have hz := pMulC _ _ cx cy
    rw [pw2.eq (by omega), show outF (S2.ratio, 0) = S2.ratio from if_pos rfl] at hz
    have hz : PureC Tryz.prog [] 32 [encP (powF T.hit S2.hits), encP (powF T.miss (S2.runs - S2.hits))] (.tup [encP S2.ratio, .int .i64 0]) := hz
    have hw : IntKind.i64.wrap ((S2.runs : Int) - S2.hits) = ((S2.runs - S2.hits : Nat) : Int) := by rw [wrap64 ⟨by omega, by omega⟩]; omega
    obtain ⟨xb, xl, xc, xm, -, -, q3⟩ := encP_ex (powF T.hit S2.hits)
    obtain ⟨yb, yl, yc, ym, -, -, q4⟩ := encP_ex (powF T.miss (S2.runs - S2.hits))
    rw [qhp, q3] at hx
    rw [qmp, q4] at hy
    rw [q3, q4, q2] at hz
    clear cx cy
    rw [show ((S.verdict : Int) == 0) = true by rw [hv0]; rfl]
    ((conv=>whnf);repeat(refine Xg ?_;conv=>whnf))
    repeat ((first | refine opt_mk hg ?_ | refine setK_iff.2 ?_ | refine ⟨rfl, ?_⟩); ((conv=>whnf);repeat(refine Xg ?_;conv=>whnf)))
    refine ACalls.useN nngz [(0, 0)] hcp.glob rfl (.cons (.ptr 0 0 0 0 rfl) .nil) ⟨⟨0, _, rfl, rfl, .same (encTP_nn S)⟩, trivial⟩ rfl ?_
    rintro r m' n' ⟨rfl, rfl, rfl⟩
    refine ⟨[(0, 0), (1, 2)], .ptr 2 0 0, [(0, tB0 S), (2, tB0 S)], 3, .ptr 1 2 0 0 rfl, ⟨⟨0, _, rfl, rfl, .same (encTP_nn S)⟩, ⟨1, _, rfl, rfl, .same (encTP_nn S)⟩, trivial⟩, rfl, ?_⟩
    ((conv=>whnf);repeat(refine Xg ?_;conv=>whnf))
    repeat ((first | refine opt_mk hg ?_ | refine setK_iff.2 ?_ | refine ⟨rfl, ?_⟩); ((conv=>whnf);repeat(refine Xg ?_;conv=>whnf)))
    refine ACalls.useR nngz [(0, 0)] hr.glob rfl (.cons (.ptr 0 0 0 0 rfl) .nil) ⟨⟨0, _, rfl, rfl, .same (encTP_nn _)⟩, trivial⟩ rfl ?_
    rintro r m n ⟨rfl, rfl, rfl⟩
    refine ⟨[(0, tB0 S)], agP _ _ _ _, ⟨⟨0, _, rfl, rfl, .same (encTP_nn _)⟩, trivial⟩, rfl, ?_⟩
    ((conv=>whnf);repeat(refine Xg ?_;conv=>whnf))
    repeat ((first | refine opt_mk hg ?_ | refine setK_iff.2 ?_ | refine ⟨rfl, ?_⟩); ((conv=>whnf);repeat(refine Xg ?_;conv=>whnf)))
    refine ACalls.useR nngz [(0, 0)] hfp.glob rfl (.cons (.ptr 0 0 0 0 rfl) (.same (.cons (tB _) .nil))) ⟨⟨0, _, rfl, rfl, .same (encTP_nn _)⟩, trivial⟩ rfl ?_
    rintro r m n ⟨rfl, rfl, rfl⟩
    refine ⟨[(0, tB0 S2)], .tup' (.cons nn (.cons nn .nil)), ⟨⟨0, _, rfl, rfl, .same (encTP_nn _)⟩, trivial⟩, rfl, ?_⟩
    ((conv=>whnf);repeat(refine Xg ?_;conv=>whnf))
    repeat ((first | refine opt_mk hg ?_ | refine setK_iff.2 ?_ | refine ⟨rfl, ?_⟩); ((conv=>whnf);repeat(refine Xg ?_;conv=>whnf)))
    refine ACalls.useR nngz [(2, 0)] hr.glob rfl (.cons (.ptr 2 0 0 0 rfl) .nil) ⟨⟨2, _, rfl, rfl, .same (encTP_nn _)⟩, trivial⟩ rfl ?_
    rintro r m n ⟨rfl, rfl, rfl⟩
    refine ⟨[(2, tB0 S)], agP _ _ _ _, ⟨⟨0, _, rfl, rfl, .same (encTP_nn _)⟩, trivial⟩, rfl, ?_⟩
    ((conv=>whnf);repeat(refine Xg ?_;conv=>whnf))
    repeat ((first | refine opt_mk hg ?_ | refine setK_iff.2 ?_ | refine ⟨rfl, ?_⟩); ((conv=>whnf);repeat(refine Xg ?_;conv=>whnf)))
    refine PureC.use hs nngz (.cons (agP _ _ _ _) .nil) nn ?_
    ((conv=>whnf);repeat(refine Xg ?_;conv=>whnf))
    repeat ((first | refine opt_mk hg ?_ | refine setK_iff.2 ?_ | refine ⟨rfl, ?_⟩); ((conv=>whnf);repeat(refine Xg ?_;conv=>whnf)))
    refine PureC.use hs nngz (.cons (agP _ _ _ _) .nil) nn ?_
    ((conv=>whnf);repeat(refine Xg ?_;conv=>whnf))
    repeat ((first | refine opt_mk hg ?_ | refine setK_iff.2 ?_ | refine ⟨rfl, ?_⟩); ((conv=>whnf);repeat(refine Xg ?_;conv=>whnf)))
    rw [nes]
    ((conv=>whnf);repeat(refine Xg ?_;conv=>whnf))
    repeat ((first | refine opt_mk hg ?_ | refine setK_iff.2 ?_ | refine ⟨rfl, ?_⟩); ((conv=>whnf);repeat(refine Xg ?_;conv=>whnf)))
    refine ACalls.useR nngz [(2, 0)] hfp.glob rfl (.cons (.ptr 2 0 0 0 rfl) (.same (.cons (tB _) .nil))) ⟨⟨2, _, rfl, rfl, .same (encTP_nn _)⟩, trivial⟩ rfl ?_
    rintro r m n ⟨rfl, rfl, rfl⟩
    refine ⟨[(2, tB0 S2)], .tup' (.cons nn (.cons nn .nil)), ⟨⟨0, _, rfl, rfl, .same (encTP_nn _)⟩, trivial⟩, rfl, ?_⟩
    ((conv=>whnf);repeat(refine Xg ?_;conv=>whnf))
    repeat ((first | refine opt_mk hg ?_ | refine setK_iff.2 ?_ | refine ⟨rfl, ?_⟩); ((conv=>whnf);repeat(refine Xg ?_;conv=>whnf)))
    refine ACalls.useR nngz [(0, 0)] hn2.glob rfl (.cons (.ptr 0 0 0 0 rfl) .nil) ⟨⟨0, _, rfl, rfl, .same (encTP_nn _)⟩, trivial⟩ rfl ?_
    rintro r m n ⟨rfl, rfl, rfl⟩
    refine ⟨[(0, tB0 S2)], .tup' (.cons nn (.cons nn .nil)), ⟨⟨0, _, rfl, rfl, .same (encTP_nn _)⟩, trivial⟩, rfl, ?_⟩
    ((conv=>whnf);repeat(refine Xg ?_;conv=>whnf))
    repeat ((first | refine opt_mk hg ?_ | refine setK_iff.2 ?_ | refine ⟨rfl, ?_⟩); ((conv=>whnf);repeat(refine Xg ?_;conv=>whnf)))
    refine PureC.use oh nngz (.cons (agF _ _ _ _) .nil) (agP _ _ _ _) ?_
    ((conv=>whnf);repeat(refine Xg ?_;conv=>whnf))
    repeat ((first | refine opt_mk hg ?_ | refine setK_iff.2 ?_ | refine ⟨rfl, ?_⟩); ((conv=>whnf);repeat(refine Xg ?_;conv=>whnf)))
    refine hx.goG ?_ (.cons (agP _ _ _ _) (.cons nn .nil)) (.tup' (.cons (agP _ _ _ _) (.cons nn .nil)))
    ((conv=>whnf);repeat(refine Xg ?_;conv=>whnf))
    repeat ((first | refine opt_mk hg ?_ | refine setK_iff.2 ?_ | refine ⟨rfl, ?_⟩); ((conv=>whnf);repeat(refine Xg ?_;conv=>whnf)))
    refine PureC.use om nngz (.cons (agF _ _ _ _) .nil) (agP _ _ _ _) ?_
    ((conv=>whnf);repeat(refine Xg ?_;conv=>whnf))
    repeat ((first | refine opt_mk hg ?_ | refine setK_iff.2 ?_ | refine ⟨rfl, ?_⟩); ((conv=>whnf);repeat(refine Xg ?_;conv=>whnf)))
    rw [hw]
    refine hy.goG ?_ (.cons (agP _ _ _ _) (.cons nn .nil)) (.tup' (.cons (agP _ _ _ _) (.cons nn .nil)))
    ((conv=>whnf);repeat(refine Xg ?_;conv=>whnf))
    repeat ((first | refine opt_mk hg ?_ | refine setK_iff.2 ?_ | refine ⟨rfl, ?_⟩); ((conv=>whnf);repeat(refine Xg ?_;conv=>whnf)))
    refine hz.goG ?_ (.cons (agP _ _ _ _) (.cons (agP _ _ _ _) .nil)) (.tup' (.cons (agP _ _ _ _) (.cons nn .nil)))
    ((conv=>whnf);repeat(refine Xg ?_;conv=>whnf))
    repeat ((first | refine opt_mk hg ?_ | refine setK_iff.2 ?_ | refine ⟨rfl, ?_⟩); ((conv=>whnf);repeat(refine Xg ?_;conv=>whnf)))
    refine ACalls.useR nngz [(0, 0)] hr2.glob rfl (.cons (.ptr 0 0 0 0 rfl) .nil) ⟨⟨0, _, rfl, rfl, .same (encTP_nn _)⟩, trivial⟩ rfl ?_
    rintro r m n ⟨rfl, rfl, rfl⟩
    refine ⟨[(0, tB0 S2)], agP _ _ _ _, ⟨⟨0, _, rfl, rfl, .same (encTP_nn _)⟩, trivial⟩, rfl, ?_⟩
    ((conv=>whnf);repeat(refine Xg ?_;conv=>whnf))
    repeat ((first | refine opt_mk hg ?_ | refine setK_iff.2 ?_ | refine ⟨rfl, ?_⟩); ((conv=>whnf);repeat(refine Xg ?_;conv=>whnf)))
    refine ACalls.useR nngz [(2, 0)] hr2.glob rfl (.cons (.ptr 2 0 0 0 rfl) .nil) ⟨⟨2, _, rfl, rfl, .same (encTP_nn _)⟩, trivial⟩ rfl ?_
    rintro r m n ⟨rfl, rfl, rfl⟩
    refine ⟨[(2, tB0 S2)], agP _ _ _ _, ⟨⟨0, _, rfl, rfl, .same (encTP_nn _)⟩, trivial⟩, rfl, ?_⟩
    ((conv=>whnf);repeat(refine Xg ?_;conv=>whnf))
    repeat ((first | refine opt_mk hg ?_ | refine setK_iff.2 ?_ | refine ⟨rfl, ?_⟩); ((conv=>whnf);repeat(refine Xg ?_;conv=>whnf)))
    refine PureC.use hs2 nngz (.cons (agP _ _ _ _) .nil) nn ?_
    ((conv=>whnf);repeat(refine Xg ?_;conv=>whnf))
    repeat ((first | refine opt_mk hg ?_ | refine setK_iff.2 ?_ | refine ⟨rfl, ?_⟩); ((conv=>whnf);repeat(refine Xg ?_;conv=>whnf)))
    refine PureC.use hs2 nngz (.cons (agP _ _ _ _) .nil) nn ?_
    ((conv=>whnf);repeat(refine Xg ?_;conv=>whnf))
    repeat ((first | refine opt_mk hg ?_ | refine setK_iff.2 ?_ | refine ⟨rfl, ?_⟩); ((conv=>whnf);repeat(refine Xg ?_;conv=>whnf)))
    rw [nes2]
    ((conv=>whnf);repeat(refine Xg ?_;conv=>whnf))
    repeat ((first | refine opt_mk hg ?_ | refine setK_iff.2 ?_ | refine ⟨rfl, ?_⟩); ((conv=>whnf);repeat(refine Xg ?_;conv=>whnf)))
    refine PureC.use hs2 nngz (.cons (agP _ _ _ _) .nil) nn ?_
    ((conv=>whnf);repeat(refine Xg ?_;conv=>whnf))
    repeat ((first | refine opt_mk hg ?_ | refine setK_iff.2 ?_ | refine ⟨rfl, ?_⟩); ((conv=>whnf);repeat(refine Xg ?_;conv=>whnf)))
    refine PureC.use hs2 nngz (.cons (agP _ _ _ _) .nil) nn ?_
    ((conv=>whnf);repeat(refine Xg ?_;conv=>whnf))
    repeat ((first | refine opt_mk hg ?_ | refine setK_iff.2 ?_ | refine ⟨rfl, ?_⟩); ((conv=>whnf);repeat(refine Xg ?_;conv=>whnf)))
    rw [nes2]
    ((conv=>whnf);repeat(refine Xg ?_;conv=>whnf))
    repeat ((first | refine opt_mk hg ?_ | refine setK_iff.2 ?_ | refine ⟨rfl, ?_⟩); ((conv=>whnf);repeat(refine Xg ?_;conv=>whnf)))
    refine ACalls.useR nngz [(2, 0)] hv2.glob rfl (.cons (.ptr 2 0 0 0 rfl) .nil) ⟨⟨2, _, rfl, rfl, .same (encTP_nn _)⟩, trivial⟩ rfl ?_
    rintro r m n ⟨rfl, rfl, rfl⟩
    refine ⟨[(2, tB0 S2)], nn, ⟨⟨0, _, rfl, rfl, .same (encTP_nn _)⟩, trivial⟩, rfl, ?_⟩
    ((conv=>whnf);repeat(refine Xg ?_;conv=>whnf))
    repeat ((first | refine opt_mk hg ?_ | refine setK_iff.2 ?_ | refine ⟨rfl, ?_⟩); ((conv=>whnf);repeat(refine Xg ?_;conv=>whnf)))
    refine ACalls.useR nngz [(0, 0)] hv2.glob rfl (.cons (.ptr 0 0 0 0 rfl) .nil) ⟨⟨0, _, rfl, rfl, .same (encTP_nn _)⟩, trivial⟩ rfl ?_
    rintro r m n ⟨rfl, rfl, rfl⟩
    refine ⟨[(0, tB0 S2)], nn, ⟨⟨0, _, rfl, rfl, .same (encTP_nn _)⟩, trivial⟩, rfl, ?_⟩
    ((conv=>whnf);repeat(refine Xg ?_;conv=>whnf))
    repeat ((first | refine opt_mk hg ?_ | refine setK_iff.2 ?_ | refine ⟨rfl, ?_⟩); ((conv=>whnf);repeat(refine Xg ?_;conv=>whnf)))
    rw [bne_self_eq_false]
    ((conv=>whnf);repeat(refine Xg ?_;conv=>whnf))
    repeat ((first | refine opt_mk hg ?_ | refine setK_iff.2 ?_ | refine ⟨rfl, ?_⟩); ((conv=>whnf);repeat(refine Xg ?_;conv=>whnf)))
    exact .mk (i + 1) [(0, 0), (1, 1)] ⟨by omega, by rw [hS2]; exact pw2⟩
     (conv_mk _ rfl ⟨⟨0, _, rfl, rfl, .eq (encTP_nn _) (by rw [hS2])⟩, ⟨1, _, rfl, rfl, .same (agFT _ _ _ _ _ _ _ _ _ _ _ _ _ _ _ _ _ _ _ _ _ _ _)⟩, trivial⟩ ⟨⟨_, rfl, .ptr 0 0 0 0 rfl⟩, ⟨_, rfl, .ptr 1 1 0 0 rfl⟩, ⟨_, rfl, .same _ (.il' (encBo_nn b))⟩, ⟨_, rfl, .w64 (by omega) ⟨by omega, by omega⟩⟩, trivial⟩) (by omega)
  ·generalize runT T b i = S at *
   ((conv=>whnf);repeat(refine Xg ?_;conv=>whnf))
   rw [hd, decide_eq_false hlt]
   ((conv=>whnf);repeat(refine Xg ?_;conv=>whnf))
   repeat ((first | refine setK_iff.2 ?_ | refine ⟨rfl, ?_⟩); ((conv=>whnf);repeat(refine Xg ?_;conv=>whnf)))
   refine PureC.use lives25 nngz .nil (tBo _) ?_
   ((conv=>whnf);repeat(refine Xg ?_;conv=>whnf))
   exact fin_pure (tBo _) ⟨rfl, rfl, rfl⟩
end Go.Proofs.YtbannipihdlofaaGreatDoor
namespace Go.Proofs.YtbannipihdlofaaGreatDoor.ClaimsOrder
open Go.ChangeShapes Go.WideShapes Go.ChangeAt Go.RowKit Go.Lib Go.Ax
theorem own : ownKnob Tryz.prog.godebug = none := by kernel_rfl
theorem laidOut : laidOutB Tryz.prog = true := by kernel_rfl
theorem cells3 : Tryz.prog.cellsOf 3 = 1 := by kernel_rfl
theorem gName : Tryz.prog.globalNamed "strconv.ErrSyntax" = some 0 := by kernel_rfl
theorem gNameR : Tryz.prog.globalNamed "strconv.ErrRange" = some 1 := by kernel_rfl
theorem gNameP : Tryz.prog.globalNamed "internal/strconv.uint64pow10" = some 2 := by kernel_rfl
theorem gType : (Tryz.prog.globals[0]?).map (·.type) = some 123 := by kernel_rfl
theorem gTypeR : (Tryz.prog.globals[1]?).map (·.type) = some 123 := by kernel_rfl
theorem gTypeP : (Tryz.prog.globals[2]?).map (·.type) = some 187 := by kernel_rfl
theorem star : "*" ++ "errors.errorString" = "*errors.errorString" := by decide
theorem named (u : TypeId) (h : Tryz.prog.typeName? 3 u = some "*errors.errorString") : u = 192 :=
 typeName_ptr_named (nm := "errors.errorString") (by rw [star]; kernel_rfl) (by kernel_rfl) (by decide) u (by rw [star]; exact h)
theorem cellsE : Tryz.prog.cellsOf 194 = 1 := by kernel_rfl
theorem cellsS : Tryz.prog.cellsOf 9 = 1 := by kernel_rfl
theorem cellsU : Tryz.prog.cellsOf 108 = 1 := by kernel_rfl
theorem cellsP : Tryz.prog.cellsOf 187 = 20 := by kernel_rfl
def pows : List Int := [1, 10, 100, 1000, 10000, 100000, 1000000, 10000000, 100000000, 1000000000, 10000000000, 100000000000, 1000000000000, 10000000000000, 100000000000000, 1000000000000000, 10000000000000000, 100000000000000000, 1000000000000000000, 10000000000000000000]
theorem vars {W : World} (h : laidMetH Tryz.prog Rows.claimsOrderRow.laid W) : ∀ p ∈ gz, VR (fun _ => ⟨0, 0, 0⟩) (fun _ => False) (OX (fun _ => False) (fun _ => ⟨0, 0, 0⟩) []) W (.ip p.2) (.pointer (some ⟨p.1, 0, none⟩)) := by
 have h : laidMet Tryz.prog Rows.claimsOrderRow.laid W := h
 have h4 := h.tail.tail.tail.tail
 obtain ⟨a, s, hv, hc, hs, hz⟩ := laid_sentinel (tp := 192) (te := 194) (ts := 9) h4 gName gType Tryz.underlying123 named Tryz.underlying192 Tryz.underlying194 rfl rfl Tryz.underlying9 cellsE cellsS
 have hsp := laid_spot h4 gName hv Tryz.underlying192
 have h3 := h.tail.tail.tail
 obtain ⟨a', s', hv', hc', hs', hz'⟩ := laid_sentinel (tp := 192) (te := 194) (ts := 9) h3 gNameR gTypeR Tryz.underlying123 named Tryz.underlying192 Tryz.underlying194 rfl rfl Tryz.underlying9 cellsE cellsS
 have hsp' := laid_spot h3 gNameR hv' Tryz.underlying192
 have h2 := h.tail.tail
 have htab := tabIs_of_head (k := .u64) (zs := pows) gNameP gTypeP Tryz.underlying187 Tryz.underlying108 cellsU cellsP h2
 intro p hp
 simp only [gz, List.mem_cons, List.not_mem_nil, or_false] at hp
 rcases hp with rfl | rfl | rfl
 ·exact vr_iface_var gName hv hsp
 ·exact vr_iface_var gNameR hv' hsp'
 ·exact vr_tab_var gNameP htab
set_option maxRecDepth 100000 in
theorem contract (H : Type) (enc : TypeId × Value → H) (W : World) (base : Nat) (args : Array Value) (ds gs : List (DataW H)) (before : List MemPlace)
  (hval : ∀ (j : Nat) t v, Tryz.f7.params[j]? = some t → args[j]? = some v → Value.okWide Tryz.prog W .any base t v)
  (hW : DataW.Whole enc Tryz.prog Tryz.f7.params.toList Rows.claimsOrderSpec.vars false W args.toList ds gs before) (hL : laidMetH Tryz.prog Rows.claimsOrderRow.laid W) :
  Calls Tryz.prog 7 args W fun e W' => ∃ v, e = .returned v ∧ Rows.claimsOrderSpec.post enc Tryz.prog Tryz.f7 false true false false W args v W' := by
 have hW' := hW
 obtain ⟨p, q, hA0, hV, rfl, hfz, hnd⟩ := hW
 have hA : DataW.TrodAll enc Tryz.prog W 0 (fun _ => true) true Tryz.f7.params.toList args.toList ds p := hA0
 rw [Tryz.params7] at hA hval
 obtain ⟨v0, vs0, d0, ds0, p0, q0, hargs, rfl, rfl, h0, r0⟩ := trodAll_cons hA
 obtain ⟨v1, vs1, d1, ds1, p1, q1, rfl, rfl, rfl, h1, r1⟩ := trodAll_cons r0
 obtain ⟨rfl, rfl, rfl⟩ := trodAll_nil r1
 obtain rfl : args = #[v0, v1] := by cases args; simp_all
 obtain ⟨rfl, rfl⟩ := trodVars_none hV
 have h0k := h0
 obtain ⟨x0, b0, e0⟩ := vr_ints_of Tryz.underlying22 Tryz.underlying3 cells3 (hval 0 22 v0 rfl rfl) h0
 have h1k := h1
 obtain ⟨x1, b1, e1⟩ := vr_ints_of Tryz.underlying22 Tryz.underlying3 cells3 (hval 1 22 v1 rfl rfl) h1
 clear hA0
 refine ((lawOrderCW x0 x1 b0 b1).callsG W [v0, v1] (vars hL) (.cons e0 (.cons e1 .nil))).mono ?_
 rintro e W' ⟨rfl, hk⟩
 refine ⟨_, rfl, _, _, _, [], p0 ++ (p1 ++ []), [], hW', ?_, ?_, ?_, hk.frame _, fun h => by cases h⟩
 ·exact trodAll_cons_mk (shut_bool Tryz.underlying4 _) trodAll_mk0
 ·exact trodAll_cons_mk (Kept.trod laidOut (by kernel_rfl) (of_decide_eq_true (by kernel_rfl)) h0k hk) (trodAll_cons_mk (Kept.trod laidOut (by kernel_rfl) (of_decide_eq_true (by kernel_rfl)) h1k hk) trodAll_mk0)
 ·rfl
noncomputable def laidWorld (os : Os) : World :=
 let N := (World.settled Tryz.prog os).heap.size
 let w0 := World.holding Tryz.prog os ⟨#[
  .cells #[.string ⟨#[105, 110, 118, 97, 108, 105, 100, 32, 115, 121, 110, 116, 97, 120]⟩] 194,
  .cells #[.string ⟨#[118, 97, 108, 117, 101, 32, 111, 117, 116, 32, 111, 102, 32, 114, 97, 110, 103, 101]⟩] 194], #[], []⟩
 let put (h : Array Obj) (g : Nat) (cs : Array Value) : Array Obj := h.modify g fun
  | .cells _ t frozen => .cells cs t frozen
  | o => o
 let nums (d : DataW Unit) : Array Value := match d with
  | .agg ds => (ds.map fun
   | .lit (.int k n) => Value.int k n
   | _ => .bool false).toArray
  | _ => #[]
 let h0 := put (put w0.heap 0 #[.iface 192 (.pointer (some ⟨N, 0, none⟩))]) 1 #[.iface 192 (.pointer (some ⟨N + 1, 0, none⟩))]
 let h1 := put h0 2 (nums Rows.laid_internal_strconv_uint64pow10)
 let h2 := put h1 4 (nums Rows.laid_math_bits_deBruijn32tab)
 let h3 := put h2 5 (nums Rows.laid_math_bits_deBruijn64tab)
 { w0 with heap := h3 }
noncomputable abbrev N0 : Nat := (World.settled Tryz.prog default).heap.size
theorem laid_met (os : Os) (args : Array Value) : laidMet Tryz.prog Rows.claimsOrderRow.laid ((laidWorld os).forCall (fun _ _ => 0) ⟨#[], args, []⟩).memory :=
 (LaidIn.of_run (l := Rows.claimsOrderRow.laid) [0, 1, 2, 4, 5, N0, N0 + 1] 8 (by kernel_rfl) (by kernel_rfl) (by kernel_rfl) (by kernel_rfl)).met
noncomputable abbrev wargs : Array Value := #[.slice none 0 0, .slice none 0 0]
theorem reads (os : Os) {H : Type} (enc : TypeId × Value → H) : ∃ places, DataW.whole enc Tryz.prog ((laidWorld os).forCall (fun _ _ => 0) ⟨#[], wargs, []⟩).memory Tryz.f7.params.toList Rows.claimsOrderSpec.vars false wargs.toList 8 = some ([.nil, .nil], [], places) :=
 ⟨[], by kernel_rfl⟩
set_option maxRecDepth 100000 in
theorem lifted (os : Os) (started : os.Started) (H : Type) (enc : TypeId × Value → H) (F : Stop.Interp) :
  ReturnsInHanded {} Tryz.checked os 7 .any ((OpenSpec.ofChange Rows.claimsOrderSpec).preRow enc Tryz.prog Tryz.f7 Rows.claimsOrderRow.domain false Rows.claimsOrderRow.laid) (((OpenSpec.ofChange Rows.claimsOrderSpec).at F).post enc Tryz.prog Tryz.f7 false true false false) := by
 obtain ⟨places, hx⟩ := reads os enc
 refine returnsInHanded_of_row (C := Tryz.checked) (s := OpenSpec.ofChange Rows.claimsOrderSpec) own started (by kernel_rfl) Tryz.func7
  (witness_row_atRef (enc := enc) (C := Tryz.checked) false (laidWorld os) wargs rfl (by kernel_rfl) (by kernel_rfl) (by kernel_rfl)
   (OpenSpec.preRow_of_cond 8 hx (by kernel_rfl) (fun k hk => by cases hk) (by kernel_rfl) (laid_met os _))) ?_
 intro W base args ds gs before hval hW _ _ _ hL _ _
 exact contract H enc W base args ds gs before hval hW hL
theorem said : Rows.ClaimsOrderSaid :=
 OpenClaim.holds_of_cond 7 Tryz.f7 rfl rfl rfl rfl rfl rfl rfl ⟨rfl, rfl, rfl, rfl, rfl⟩ rfl rfl rfl rfl rfl (by kernel_rfl) Tryz.func7 (by kernel_rfl)
  (of_decide_eq_true (by kernel_rfl)) (by unfold Func.isWrapper; first | (rw [if_pos (by decide +kernel)]; kernel_rfl) | (rw [if_neg (by decide +kernel)]; exact ⟨rfl, rfl⟩))
  (fun os started H enc _ F => by rw [OpenClaim.pre_eq_preRow]; exact lifted os started H enc F)
theorem plain (f : FuncId) (fn : Func) (hf : Tryz.pinned.checked.prog.funcNamed "refuter/refuterlaw25.ClaimsOrder" = some f) (hfn : Tryz.pinned.checked.prog.funcs[f]? = some fn) :
  true = Tryz.pinned.checked.prog.looks [] ∧ ∀ (j : Nat) t, fn.params[j]? = some t → Tryz.pinned.checked.prog.wantsStandIn t = false := by
 obtain rfl : f = 7 := Option.some.inj ((show Tryz.prog.funcNamed "refuter/refuterlaw25.ClaimsOrder" = some 7 by kernel_rfl).symm.trans hf) |>.symm
 obtain rfl : fn = Tryz.f7 := (Option.some.inj (Tryz.func7.symm.trans hfn)).symm
 refine ⟨by kernel_rfl, fun j t ht => ?_⟩
 rw [Tryz.params7] at ht
 have hTI : Tryz.prog.wantsStandIn 22 = false := by kernel_rfl
 have hm := Array.mem_of_getElem? ht
 simp at hm
 repeat' (first | (rw [(hm : t = 22)]; exact hTI) | rcases hm with hm | hm)
theorem card : Rows.ClaimsOrderCardSaid :=
 Claim7.holds_tied_plain_at .later [] _ _ _ _ said (fun _ h => by cases h) (by kernel_rfl) (fun _ h => by cases h) claimsOrder_row_tie rfl ⟨rfl, rfl⟩ (by kernel_rfl) rfl plain (by kernel_rfl)
end Go.Proofs.YtbannipihdlofaaGreatDoor.ClaimsOrder
