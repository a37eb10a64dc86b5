/- For every input (of two slices of ints and an int), refuterlaw25.ClaimsGrows returns true, and its arguments read behind the call as they read before (the card ClaimsGrowsCardSaid, the full form). Conditions: the package-level variables that the row lists hold, when the call begins, what the program's text lays (the card ties them to it); no bound on sizes. -/
import Derived.Test.YtbannipihdlofaaGreatDoorAx14
import Derived.Test.YtbannipihdlofaaGreatDoorCards
import Derived.Test.YtbannipihdlofaaGreatDoorTie
import Derived.Lib.LaidIn
set_option linter.unusedVariables false
namespace Go.Proofs.YtbannipihdlofaaGreatDoor
open Go Go.Ax Go.Proofs
set_option maxRecDepth 100000
set_option maxHeartbeats 16000000
set_option linter.unusedSimpArgs false
def bitB (x : Int) : Bool := x.tmod 2 == 0
def bitsL (l : List Int) (k : Nat) : List Bool := (l.take k).map bitB
def encBo (l : List Bool) : List AV := l.map AV.bool
theorem encBo_nn (l : List Bool) : NNs (encBo l) := by
 induction l with
 | nil => exact .nil
 | cons a l ih => exact .cons (tBo a) ih
theorem encBo_length (l : List Bool) : (encBo l).length = l.length := by simp [encBo]
theorem bitsL_length (l : List Int) (k : Nat) : (bitsL l k).length = min k l.length := by simp [bitsL]
theorem bitsL_succ {l : List Int} {i : Nat} (h : i < l.length) : encBo (bitsL l (i + 1)) = encBo (bitsL l i) ++ [.bool (bitB (l.getD i 0))] := by
 unfold bitsL encBo
 rw [List.take_succ_eq_append_getElem h, List.map_append, List.map_append, List.getD_eq_getElem?_getD, List.getElem?_eq_getElem h]
 rfl
theorem encBo_get {l : List Bool} {i : Nat} (h : i < l.length) : (encBo l)[((i : Nat) : Int).toNat]? = some (.bool (l.getD i false)) := by
 rw [Int.toNat_natCast]
 unfold encBo
 rw [List.getElem?_map, List.getElem?_eq_getElem h]
 simp [List.getD_eq_getElem?_getD, List.getElem?_eq_getElem h]
theorem lBits (l : List Int) (k : Nat) (hk : k ≤ 1000) : PureC Tryz.prog [] 10 [.il 1 (encI l), .int .i64 k] (.il 1 (encBo (bitsL l k))) := by
 refine acalls_go nnΓ Tryz.func10 rfl ?_
 ((conv=>whnf);repeat(refine Xg ?_;conv=>whnf))
 refine ALoop.ph 4 1 ?_
 refine ALoop.at nnΓ (fun i : Nat => i ≤ l.length ∧ i ≤ k)
  (fun i => ⟨[(0, .il 1 (encI l)), (1, .int .i64 k), (5, .sl 0 0 i), (6, .int .i64 i)], [(0, .row 4 1 (encBo (bitsL l i)))], 1, 28⟩)
  (fun i => l.length - i) 0 [(0, 0)] ⟨by omega, by omega⟩
  (conv_mk _ rfl ⟨⟨0, _, rfl, rfl, .nil⟩, trivial⟩ ⟨⟨_, rfl, .same _ (.il' (encI_nn l))⟩, ⟨_, rfl, .same _ nn⟩, ⟨_, rfl, .nslk 0 0 _ rfl rfl⟩, ⟨_, rfl, .same _ nn⟩, trivial⟩) ?_
 rintro i ⟨h1, h2⟩
 have hlen : (encBo (bitsL l i)).length = i := by rw [encBo_length, bitsL_length]; omega
 have hd1 : decide ((i : Int) < ((encI l).length : Int)) = decide (i < l.length) := by rw [encI_length]; exact decide_eq_decide.2 (by omega)
 have hd2 : decide ((i : Int) < (k : Int)) = decide (i < k) := decide_eq_decide.2 (by omega)
 by_cases hb : i < l.length ∧ i < k
 ·have hg : (encI l)[((i : Nat) : Int).toNat]? = some (.int .i64 (l.getD i 0)) := by rw [Int.toNat_natCast, encI_get, List.getD_eq_getElem?_getD, List.getElem?_eq_getElem (by omega)]; rfl
  have hs := bitsL_succ hb.1
  have hbb : (l.getD i 0).tmod 2 == 0 ↔ bitB (l.getD i 0) = true := Iff.rfl
  have hbe : ((l.getD i 0).tmod 2 == 0) = bitB (l.getD i 0) := rfl
  generalize l.getD i 0 = x at *
  ((conv=>whnf);repeat(refine Xg ?_;conv=>whnf))
  rw [hd1, decide_eq_true hb.1]
  ((conv=>whnf);repeat(refine Xg ?_;conv=>whnf))
  rw [hd2, decide_eq_true hb.2]
  ((conv=>whnf);repeat(refine Xg ?_;conv=>whnf))
  refine opt_mk hg ?_
  ((conv=>whnf);repeat(refine Xg ?_;conv=>whnf))
  rw [hbe]
  refine grd_mk (app_ok rfl rfl hlen.symm (by simp; omega)) ?_
  ((conv=>whnf);repeat(refine Xg ?_;conv=>whnf))
  exact .mk (i + 1) [(2, 0)] ⟨hb.1, hb.2⟩
   (conv_mk _ rfl ⟨⟨2, _, rfl, rfl, .eq (encBo_nn _) hs.symm⟩, trivial⟩ ⟨⟨_, rfl, .same _ (.il' (encI_nn l))⟩, ⟨_, rfl, .same _ nn⟩, ⟨_, rfl, .slE rfl (by simp [hlen])⟩, ⟨_, rfl, .w64 (by omega) ⟨by omega, by omega⟩⟩, trivial⟩) (by omega)
 ·have he : bitsL l i = bitsL l k := by
   unfold bitsL
   rcases (show i = k ∨ i = l.length by omega) with e | e
   ·rw [e]
   ·rw [e, List.take_length, List.take_of_length_le (by omega)]
  rcases (show ¬ i < l.length ∨ (i < l.length ∧ ¬ i < k) by omega) with h | ⟨h, h'⟩
  ·((conv=>whnf);repeat(refine Xg ?_;conv=>whnf))
   rw [hd1, decide_eq_false h]
   ((conv=>whnf);repeat(refine Xg ?_;conv=>whnf))
   exact fin_cv (r' := .il 1 (encBo (bitsL l k))) (.fz' (id := 0) (off := 0) (len := i) (ys := encBo (bitsL l k)) rfl rfl (by rw [hlen]; omega) (by rw [← he, List.drop_zero, List.take_of_length_le (by omega)]) (encBo_nn _)) ⟨rfl, rfl, rfl⟩
  ·((conv=>whnf);repeat(refine Xg ?_;conv=>whnf))
   rw [hd1, decide_eq_true h]
   ((conv=>whnf);repeat(refine Xg ?_;conv=>whnf))
   rw [hd2, decide_eq_false h']
   ((conv=>whnf);repeat(refine Xg ?_;conv=>whnf))
   exact fin_cv (r' := .il 1 (encBo (bitsL l k))) (.fz' (id := 0) (off := 0) (len := i) (ys := encBo (bitsL l k)) rfl rfl (by rw [hlen]; omega) (by rw [← he, List.drop_zero, List.take_of_length_le (by omega)]) (encBo_nn _)) ⟨rfl, rfl, rfl⟩
set_option maxHeartbeats 16000000
set_option linter.unusedSimpArgs false
def runT (T : Tst) (b : List Bool) : Nat → Tst
 | 0 => T
 | i + 1 => (feedT (runT T b i) (b.getD i false)).1
theorem new_zero {claim low alpha beta : Fr} {T : Tst} {e : Int} (h : newT claim low alpha beta = (some T, e)) : T.runs = 0 ∧ T.hits = 0 ∧ T.verdict = 0 ∧ T.ratio = oneF := by
 unfold newT at h
 split at h
 ·cases h
 split at h
 ·cases h
 split at h
 ·cases h
 simp only at h
 split at h
 ·cases h
 ·cases h; exact ⟨rfl, rfl, rfl, rfl⟩
theorem tk_zero {claim low alpha beta : Fr} {T : Tst} {e : Int} (h : newT claim low alpha beta = (some T, e)) (hT : TF T) : TK 0 T := by
 obtain ⟨a, b, -⟩ := new_zero h
 exact ⟨hT, by omega, by omega⟩
theorem run_k {T : Tst} (b : List Bool) (h : TK 0 T) : ∀ i, i ≤ 1000 → TK i (runT T b i)
 | 0, _ => h
 | i + 1, hi => feed_k (run_k b h i (by omega)) (by omega) _
theorem feed_says (t : Tst) (b : Bool) : (feedT t b).2.1 = ((feedT t b).1.verdict : Int) := by
 unfold feedT
 generalize mulF t.ratio (if b then t.hit else t.miss) = r
 split
 ·rfl
 ·rename_i h
  split
  ·show (0 : Int) = t.verdict
   omega
  ·rfl
theorem encTF_ex (t : Tst) : ∃ (hb hc mb mc ub uc lb lc rb rc : Bool) (hl hm ml mm ul um ll lm rl rm : List Nat), encF t.hit = .agg [.bool hb, .il 1 (encD hl), .bool hc, .il 1 (encD hm)] ∧ encF t.miss = .agg [.bool mb, .il 1 (encD ml), .bool mc, .il 1 (encD mm)] ∧ encF t.ratio = .agg [.bool rb, .il 1 (encD rl), .bool rc, .il 1 (encD rm)] ∧ encTF t = .agg [.bool hb, .il 1 (encD hl), .bool hc, .il 1 (encD hm), .bool mb, .il 1 (encD ml), .bool mc, .il 1 (encD mm), .bool ub, .il 1 (encD ul), .bool uc, .il 1 (encD um), .bool lb, .il 1 (encD ll), .bool lc, .il 1 (encD lm), .bool rb, .il 1 (encD rl), .bool rc, .il 1 (encD rm), .int .i64 t.verdict, .int .i64 t.runs, .int .i64 t.hits] := by
 obtain ⟨hb, hl, hc, hm, -, -, q1⟩ := encF_ex t.hit
 obtain ⟨mb, ml, mc, mm, -, -, q2⟩ := encF_ex t.miss
 obtain ⟨ub, ul, uc, um, -, -, q3⟩ := encF_ex t.upper
 obtain ⟨lb, ll, lc, lm, -, -, q4⟩ := encF_ex t.lower
 obtain ⟨rb, rl, rc, rm, -, -, q5⟩ := encF_ex t.ratio
 exact ⟨hb, hc, mb, mc, ub, uc, lb, lc, rb, rc, hl, hm, ml, mm, ul, um, ll, lm, rl, rm, q1, q2, q5, encTF_mk q1 q2 q3 q4 q5⟩
theorem lawFeedsW (l m : List Int) (_ : ∀ x ∈ l, i64 x) (_ : ∀ x ∈ m, i64 x) : PureC Tryz.prog gz 3 [.il 1 (encI l), .il 1 (encI m)] (.bool true) := by
 have hbits : PureC Tryz.prog [] 10 [.il 1 (encI m), .int .i64 30] (.il 1 (encBo (bitsL m 30))) := lBits m 30 (by omega)
 have hbl : (bitsL m 30).length ≤ 30 := by rw [bitsL_length]; omega
 generalize bitsL m 30 = b at *
 refine acalls_go nngz Tryz.func3 rfl ?_
 ((conv=>whnf);repeat(refine Xg ?_;conv=>whnf))
 refine ACalls.useN nngz [] (lBoth l) rfl (.cons (.same _ (.il' (encI_nn l))) .nil) trivial rfl ?_
 rintro r m' n' hQ
 rcases hQ with ⟨hN, rfl, rfl, rfl⟩ | ⟨T, hT, hTF, rfl, rfl, rfl⟩
 ·refine ⟨[], .tup [.nptr, .nptr, .bool true], [], 0, .same _ (.tup' (.cons .nptr (.cons .nptr (.cons (tBo _) .nil)))), trivial, rfl, ?_⟩
  ((conv=>whnf);repeat(refine Xg ?_;conv=>whnf))
  repeat ((first | refine setK_iff.2 ?_ | refine ⟨rfl, ?_⟩); ((conv=>whnf);repeat(refine Xg ?_;conv=>whnf)))
  refine PureC.use lives25 nngz .nil (tBo _) ?_
  ((conv=>whnf);repeat(refine Xg ?_;conv=>whnf))
  exact fin_pure (tBo _) ⟨rfl, rfl, rfl⟩
 ·refine ⟨[(0, 0), (1, 1)], .tup [.ptr 0 0 0, .ptr 1 0 0, .bool true], [(0, tB0 T), (1, rB0 T)], 2, .tup' (.cons (.ptr 0 0 0 0 rfl) (.cons (.ptr 1 1 0 0 rfl) (.cons (.same _ (tBo _)) .nil))), ⟨⟨0, _, rfl, rfl, .same (encTP_nn T)⟩, ⟨1, _, rfl, rfl, .same (encTF_nn T)⟩, trivial⟩, rfl, ?_⟩
  ((conv=>whnf);repeat(refine Xg ?_;conv=>whnf))
  repeat ((first | refine setK_iff.2 ?_ | refine ⟨rfl, ?_⟩); ((conv=>whnf);repeat(refine Xg ?_;conv=>whnf)))
  refine hbits.goG ?_ (.cons (.il' (encI_nn m)) (.cons nn .nil)) (.il' (encBo_nn _))
  ((conv=>whnf);repeat(refine Xg ?_;conv=>whnf))
  have h0 := tk_zero (show newT _ _ _ _ = (some T, 0) from hT) hTF
  refine ALoop.at nngz (fun i : Nat => i ≤ b.length)
   (fun i => ⟨[(5, .ptr 0 0 0), (6, .ptr 1 0 0), (8, .il 1 (encBo b)), (9, .int .i64 i)], [(0, tB0 (runT T b i)), (1, rB0 (runT T b i))], 2, 102⟩)
   (fun i => b.length - i) 0 [(0, 0), (1, 1)] (by omega)
   (conv_mk _ rfl ⟨⟨0, _, rfl, rfl, .same (encTP_nn T)⟩, ⟨1, _, rfl, rfl, .same (encTF_nn T)⟩, trivial⟩ ⟨⟨_, rfl, .ptr 0 0 0 0 rfl⟩, ⟨_, rfl, .ptr 1 1 0 0 rfl⟩, ⟨_, rfl, .same _ (.il' (encBo_nn b))⟩, ⟨_, rfl, .same _ nn⟩, trivial⟩) ?_
  intro i hi
  have hd : decide ((i : Int) < ((encBo b).length : Int)) = decide (i < b.length) := by rw [encBo_length]; exact decide_eq_decide.2 (by omega)
  by_cases hlt : i < b.length
  ·have hk := run_k b h0 i (by omega)
   have hk2 := run_k b h0 (i + 1) (by omega)
   have hg := encBo_get hlt
   have hst : runT T b (i + 1) = (feedT (runT T b i) (b.getD i false)).1 := rfl
   have hsay := feed_says (runT T b i) (b.getD i false)
   have hfp := pFeed (runT T b i) (b.getD i false) hk.tf
   have hff := fFeed (runT T b i) (b.getD i false) hk.tf
   generalize hS : runT T b i = S at *
   generalize hS2 : runT T b (i + 1) = S2 at *
   generalize b.getD i false = x at *
   rw [← hst] at hfp hff hsay
   rw [hsay] at hfp hff
   generalize (feedT S x).2.2 = e at *
   have hr := pRatio S2
   have hn := pRuns S2
   have hv := pVerdict S2
   have hs := pString S2.ratio hk2.tf.ratio
   have ht := fText S2.ratio hk2.tf.ratio
   obtain ⟨pb, pl, pc, pm, -, -, qp⟩ := encP_ex S2.ratio
   obtain ⟨hb, hc, mb, mc, ub, uc, lb, lc, rb, rc, hl, hm, ml, mm, ul, um, ll, lm, rl, rm, -, -, q5, qT⟩ := encTF_ex S2
   rw [qp] at hr hs
   rw [q5] at ht
   rw [qT] at hff
   generalize txtF S2.ratio = tx at *
   ((conv=>whnf);repeat(refine Xg ?_;conv=>whnf))
   rw [hd, decide_eq_true hlt]
   ((conv=>whnf);repeat(refine Xg ?_;conv=>whnf))
   refine opt_mk hg ?_
   ((conv=>whnf);repeat(refine Xg ?_;conv=>whnf))
   refine ACalls.useR nngz [(0, 0)] hfp.glob rfl (.cons (.ptr 0 0 0 0 rfl) (.same (.cons (tB _) .nil))) ⟨⟨0, _, rfl, rfl, .same (encTP_nn _)⟩, trivial⟩ rfl ?_
   rintro r m n ⟨rfl, rfl, rfl⟩
   refine ⟨[(0, tB0 S2)], .tup' (.cons nn (.cons nn .nil)), ⟨⟨0, _, rfl, rfl, .same (encTP_nn _)⟩, trivial⟩, rfl, ?_⟩
   ((conv=>whnf);repeat(refine Xg ?_;conv=>whnf))
   repeat ((first | refine setK_iff.2 ?_ | refine ⟨rfl, ?_⟩); ((conv=>whnf);repeat(refine Xg ?_;conv=>whnf)))
   refine opt_mk hg ?_
   ((conv=>whnf);repeat(refine Xg ?_;conv=>whnf))
   repeat ((first | refine setK_iff.2 ?_ | refine ⟨rfl, ?_⟩); ((conv=>whnf);repeat(refine Xg ?_;conv=>whnf)))
   refine ACalls.useR nngz [(1, 0)] hff.glob rfl (.cons (.ptr 1 0 0 0 rfl) (.same (.cons (tB _) .nil))) ⟨⟨1, _, rfl, rfl, .same (encTF_nn _)⟩, trivial⟩ rfl ?_
   rintro r m n ⟨rfl, rfl, rfl⟩
   refine ⟨[(1, .row 47 23 [.agg [.bool hb, .il 1 (encD hl), .bool hc, .il 1 (encD hm), .bool mb, .il 1 (encD ml), .bool mc, .il 1 (encD mm), .bool ub, .il 1 (encD ul), .bool uc, .il 1 (encD um), .bool lb, .il 1 (encD ll), .bool lc, .il 1 (encD lm), .bool rb, .il 1 (encD rl), .bool rc, .il 1 (encD rm), .int .i64 S2.verdict, .int .i64 S2.runs, .int .i64 S2.hits]])], .tup' (.cons nn (.cons nn .nil)), ⟨⟨0, _, rfl, rfl, .same (agFT _ _ _ _ _ _ _ _ _ _ _ _ _ _ _ _ _ _ _ _ _ _ _)⟩, trivial⟩, rfl, ?_⟩
   ((conv=>whnf);repeat(refine Xg ?_;conv=>whnf))
   repeat ((first | refine setK_iff.2 ?_ | refine ⟨rfl, ?_⟩); ((conv=>whnf);repeat(refine Xg ?_;conv=>whnf)))
   refine ACalls.useR nngz [(0, 0)] hn.glob rfl (.cons (.ptr 0 0 0 0 rfl) .nil) ⟨⟨0, _, rfl, rfl, .same (encTP_nn _)⟩, trivial⟩ rfl ?_
   rintro r m n ⟨rfl, rfl, rfl⟩
   refine ⟨[(0, tB0 S2)], .tup' (.cons nn (.cons nn .nil)), ⟨⟨0, _, rfl, rfl, .same (encTP_nn _)⟩, trivial⟩, rfl, ?_⟩
   ((conv=>whnf);repeat(refine Xg ?_;conv=>whnf))
   repeat ((first | refine setK_iff.2 ?_ | refine ⟨rfl, ?_⟩); ((conv=>whnf);repeat(refine Xg ?_;conv=>whnf)))
   refine ACalls.useR nngz [(0, 0)] hr.glob rfl (.cons (.ptr 0 0 0 0 rfl) .nil) ⟨⟨0, _, rfl, rfl, .same (encTP_nn _)⟩, trivial⟩ rfl ?_
   rintro r m n ⟨rfl, rfl, rfl⟩
   refine ⟨[(0, tB0 S2)], agP _ _ _ _, ⟨⟨0, _, rfl, rfl, .same (encTP_nn _)⟩, trivial⟩, rfl, ?_⟩
   ((conv=>whnf);repeat(refine Xg ?_;conv=>whnf))
   repeat ((first | refine setK_iff.2 ?_ | refine ⟨rfl, ?_⟩); ((conv=>whnf);repeat(refine Xg ?_;conv=>whnf)))
   have ne0 : ∀ z : Int, (z != z) = false := fun z => bne_self_eq_false z
   have nes : (!(tx == tx)) = false := by rw [beq_self_eq_true]; rfl
   rw [ne0]
   ((conv=>whnf);repeat(refine Xg ?_;conv=>whnf))
   repeat ((first | refine setK_iff.2 ?_ | refine ⟨rfl, ?_⟩); ((conv=>whnf);repeat(refine Xg ?_;conv=>whnf)))
   rw [ne0]
   ((conv=>whnf);repeat(refine Xg ?_;conv=>whnf))
   repeat ((first | refine setK_iff.2 ?_ | refine ⟨rfl, ?_⟩); ((conv=>whnf);repeat(refine Xg ?_;conv=>whnf)))
   refine ACalls.useR nngz [(0, 0)] hv.glob rfl (.cons (.ptr 0 0 0 0 rfl) .nil) ⟨⟨0, _, rfl, rfl, .same (encTP_nn _)⟩, trivial⟩ rfl ?_
   rintro r m n ⟨rfl, rfl, rfl⟩
   refine ⟨[(0, tB0 S2)], nn, ⟨⟨0, _, rfl, rfl, .same (encTP_nn _)⟩, trivial⟩, rfl, ?_⟩
   ((conv=>whnf);repeat(refine Xg ?_;conv=>whnf))
   repeat ((first | refine setK_iff.2 ?_ | refine ⟨rfl, ?_⟩); ((conv=>whnf);repeat(refine Xg ?_;conv=>whnf)))
   rw [ne0]
   ((conv=>whnf);repeat(refine Xg ?_;conv=>whnf))
   repeat ((first | refine setK_iff.2 ?_ | refine ⟨rfl, ?_⟩); ((conv=>whnf);repeat(refine Xg ?_;conv=>whnf)))
   rw [ne0]
   ((conv=>whnf);repeat(refine Xg ?_;conv=>whnf))
   repeat ((first | refine setK_iff.2 ?_ | refine ⟨rfl, ?_⟩); ((conv=>whnf);repeat(refine Xg ?_;conv=>whnf)))
   rw [ne0]
   ((conv=>whnf);repeat(refine Xg ?_;conv=>whnf))
   repeat ((first | refine setK_iff.2 ?_ | refine ⟨rfl, ?_⟩); ((conv=>whnf);repeat(refine Xg ?_;conv=>whnf)))
   refine PureC.use hs nngz (.cons (agP _ _ _ _) .nil) nn ?_
   ((conv=>whnf);repeat(refine Xg ?_;conv=>whnf))
   repeat ((first | refine setK_iff.2 ?_ | refine ⟨rfl, ?_⟩); ((conv=>whnf);repeat(refine Xg ?_;conv=>whnf)))
   refine ht.goG ?_ (.cons (agF _ _ _ _) .nil) nn
   ((conv=>whnf);repeat(refine Xg ?_;conv=>whnf))
   repeat ((first | refine setK_iff.2 ?_ | refine ⟨rfl, ?_⟩); ((conv=>whnf);repeat(refine Xg ?_;conv=>whnf)))
   rw [nes]
   ((conv=>whnf);repeat(refine Xg ?_;conv=>whnf))
   repeat ((first | refine setK_iff.2 ?_ | refine ⟨rfl, ?_⟩); ((conv=>whnf);repeat(refine Xg ?_;conv=>whnf)))
   exact .mk (i + 1) [(0, 0), (1, 1)] (by omega)
    (conv_mk _ rfl ⟨⟨0, _, rfl, rfl, .eq (encTP_nn _) (by rw [hS2])⟩, ⟨1, _, rfl, rfl, .eq (encTF_nn _) (by rw [hS2, qT])⟩, trivial⟩ ⟨⟨_, rfl, .ptr 0 0 0 0 rfl⟩, ⟨_, rfl, .ptr 1 1 0 0 rfl⟩, ⟨_, rfl, .same _ (.il' (encBo_nn b))⟩, ⟨_, rfl, .w64 (by omega) ⟨by omega, by omega⟩⟩, trivial⟩) (by omega)
  ·generalize runT T b i = S at *
   ((conv=>whnf);repeat(refine Xg ?_;conv=>whnf))
   rw [hd, decide_eq_false hlt]
   ((conv=>whnf);repeat(refine Xg ?_;conv=>whnf))
   repeat ((first | refine setK_iff.2 ?_ | refine ⟨rfl, ?_⟩); ((conv=>whnf);repeat(refine Xg ?_;conv=>whnf)))
   refine PureC.use lives25 nngz .nil (tBo _) ?_
   ((conv=>whnf);repeat(refine Xg ?_;conv=>whnf))
   exact fin_pure (tBo _) ⟨rfl, rfl, rfl⟩
set_option maxHeartbeats 16000000
set_option linter.unusedSimpArgs false
def twoT (T : Tst) (b : List Bool) (k : Int) : Nat → Tst × Tst
 | 0 => (T, T)
 | i + 1 => ((feedT (twoT T b k i).1 (b.getD i false)).1, (feedT (twoT T b k i).2 (b.getD i false || ((i : Int) == k))).1)
theorem two_in {T : Tst} (b : List Bool) (k : Int) (h : TK 0 T) (g : GrowIn 0 T T) : ∀ i, i ≤ 100 → TK i (twoT T b k i).1 ∧ TK i (twoT T b k i).2 ∧ GrowIn (12 * i) (twoT T b k i).1 (twoT T b k i).2
 | 0, _ => ⟨h, h, g⟩
 | i + 1, hi => by
  obtain ⟨a, c, d⟩ := two_in b k h g i (by omega)
  refine ⟨feed_k a (by omega) _, feed_k c (by omega) _, ?_⟩
  rw [Nat.mul_add]
  exact d.feed (by omega) (fun e => by rw [e]; rfl)
theorem lawGrowsW (l m : List Int) (at_ : Int) (_ : ∀ x ∈ l, i64 x) (_ : ∀ x ∈ m, i64 x) (hat : i64 at_) : PureC Tryz.prog gz 6 [.il 1 (encI l), .il 1 (encI m), .int .i64 at_] (.bool true) := by
 have hbits : PureC Tryz.prog [] 10 [.il 1 (encI m), .int .i64 20] (.il 1 (encBo (bitsL m 20))) := lBits m 20 (by omega)
 have hbl : (bitsL m 20).length ≤ 20 := by rw [bitsL_length]; omega
 generalize bitsL m 20 = b at *
 refine acalls_go nngz Tryz.func6 rfl ?_
 ((conv=>whnf);repeat(refine Xg ?_;conv=>whnf))
 refine ACalls.useN nngz [] (lBoth l) rfl (.cons (.same _ (.il' (encI_nn l))) .nil) trivial rfl ?_
 rintro r m' n' hQ
 rcases hQ with ⟨hN, rfl, rfl, rfl⟩ | ⟨T, hT, hTF, rfl, rfl, rfl⟩
 ·refine ⟨[], .tup [.nptr, .nptr, .bool true], [], 0, .same _ (.tup' (.cons .nptr (.cons .nptr (.cons (tBo _) .nil)))), trivial, rfl, ?_⟩
  ((conv=>whnf);repeat(refine Xg ?_;conv=>whnf))
  repeat ((first | refine setK_iff.2 ?_ | refine ⟨rfl, ?_⟩); ((conv=>whnf);repeat(refine Xg ?_;conv=>whnf)))
  refine PureC.use lives25 nngz .nil (tBo _) ?_
  ((conv=>whnf);repeat(refine Xg ?_;conv=>whnf))
  exact fin_pure (tBo _) ⟨rfl, rfl, rfl⟩
 ·have hT' : newT (numsT l).1 (numsT l).2.1 (numsT l).2.2.1 (numsT l).2.2.2 = (some T, 0) := hT
  obtain ⟨⟨ha, hb, hc, hd⟩, -⟩ := fNumbers l
  have g0 := grow_start ha.sz hb.sz hc.sz hd.sz hT'
  have h0 := tk_zero hT' hTF
  clear ha hb hc hd hT' hT
  refine ⟨[(0, 0), (1, 1)], .tup [.ptr 0 0 0, .ptr 1 0 0, .bool true], [(0, tB0 T), (1, rB0 T)], 2, .tup' (.cons (.ptr 0 0 0 0 rfl) (.cons (.ptr 1 1 0 0 rfl) (.cons (.same _ (tBo _)) .nil))), ⟨⟨0, _, rfl, rfl, .same (encTP_nn T)⟩, ⟨1, _, rfl, rfl, .same (encTF_nn T)⟩, trivial⟩, rfl, ?_⟩
  ((conv=>whnf);repeat(refine Xg ?_;conv=>whnf))
  repeat ((first | refine setK_iff.2 ?_ | refine ⟨rfl, ?_⟩); ((conv=>whnf);repeat(refine Xg ?_;conv=>whnf)))
  refine ACalls.useN nngz [(0, 0)] (pCopy T).glob rfl (.cons (.ptr 0 0 0 0 rfl) .nil) ⟨⟨0, _, rfl, rfl, .same (encTP_nn T)⟩, trivial⟩ rfl ?_
  rintro r m' n' ⟨rfl, rfl, rfl⟩
  refine ⟨[(0, 0), (1, 2)], .ptr 2 0 0, [(0, tB0 T), (2, tB0 T)], 3, .ptr 1 2 0 0 rfl, ⟨⟨0, _, rfl, rfl, .same (encTP_nn T)⟩, ⟨1, _, rfl, rfl, .same (encTP_nn T)⟩, trivial⟩, rfl, ?_⟩
  ((conv=>whnf);repeat(refine Xg ?_;conv=>whnf))
  repeat ((first | refine setK_iff.2 ?_ | refine ⟨rfl, ?_⟩); ((conv=>whnf);repeat(refine Xg ?_;conv=>whnf)))
  refine hbits.goG ?_ (.cons (.il' (encI_nn m)) (.cons nn .nil)) (.il' (encBo_nn _))
  ((conv=>whnf);repeat(refine Xg ?_;conv=>whnf))
  repeat ((first | refine setK_iff.2 ?_ | refine ⟨rfl, ?_⟩); ((conv=>whnf);repeat(refine Xg ?_;conv=>whnf)))
  have ne0 : ∀ z : Int, (z != z) = false := fun z => bne_self_eq_false z
  have neb : ∀ z : Bool, (!(z == z)) = false := fun z => by cases z <;> rfl
  have hd0 : decide (((encBo b).length : Int) > 0) = decide (0 < b.length) := by rw [encBo_length]; exact decide_eq_decide.2 (by omega)
  rw [hd0]
  by_cases hbz : 0 < b.length
  rotate_left
  ·rw [decide_eq_false hbz]
   ((conv=>whnf);repeat(refine Xg ?_;conv=>whnf))
   repeat ((first | refine setK_iff.2 ?_ | refine ⟨rfl, ?_⟩); ((conv=>whnf);repeat(refine Xg ?_;conv=>whnf)))
   refine ALoop.at nngz (fun i : Nat => i ≤ b.length)
    (fun i => ⟨[(7, .ptr 0 0 0), (10, .ptr 1 0 0), (11, .il 1 (encBo b)), (12, .int .i64 (-1)), (13, .int .i64 i)], [(0, tB0 (twoT T b (-1) i).1), (1, tB0 (twoT T b (-1) i).2)], 2, 141⟩)
    (fun i => b.length - i) 0 [(0, 0), (2, 1)] (by omega)
    (conv_mk _ rfl ⟨⟨0, _, rfl, rfl, .same (encTP_nn T)⟩, ⟨2, _, rfl, rfl, .same (encTP_nn T)⟩, trivial⟩ ⟨⟨_, rfl, .ptr 0 0 0 0 rfl⟩, ⟨_, rfl, .ptr 2 1 0 0 rfl⟩, ⟨_, rfl, .same _ (.il' (encBo_nn b))⟩, ⟨_, rfl, .same _ nn⟩, ⟨_, rfl, .same _ nn⟩, trivial⟩) ?_
   intro i hi
   have hd : decide ((i : Int) < ((encBo b).length : Int)) = decide (i < b.length) := by rw [encBo_length]; exact decide_eq_decide.2 (by omega)
   by_cases hlt : i < b.length
   ·obtain ⟨kt, kc, gr⟩ := two_in b (-1) h0 g0 i (by omega)
    obtain ⟨kt2, kc2, gr2⟩ := two_in b (-1) h0 g0 (i + 1) (by omega)
    have hg := encBo_get hlt
    have hst : (twoT T b (-1) (i + 1)).1 = (feedT (twoT T b (-1) i).1 (b.getD i false)).1 := rfl
    have hsc : (twoT T b (-1) (i + 1)).2 = (feedT (twoT T b (-1) i).2 (b.getD i false || ((i : Int) == (-1)))).1 := rfl
    generalize hkk : ((i : Int) == (-1)) = y at *
    generalize hS2 : (twoT T b (-1) (i + 1)).1 = S2 at *
    generalize hC2 : (twoT T b (-1) (i + 1)).2 = C2 at *
    generalize hS : (twoT T b (-1) i).1 = S at *
    generalize hC : (twoT T b (-1) i).2 = C at *
    generalize b.getD i false = x at *
    have herr := feed_err gr.ti (by omega) x
    have hup := fun e => grow_up gr.ti (by omega) e (gr.live e) gr.hit
    have hdn := fun e => grow_down gr.ti (by omega) e (gr.live e) gr.miss1
    have hdo := fun e : S.verdict ≠ 0 => feed_done e x
    have hbv := behind_verdicts gr2.beh
    have hfp := pFeed S x kt.tf
    have hfc := pFeed C (x || y) kc.tf
    rw [← hst] at hfp
    rw [← hsc] at hfc
    have hr0 := pRatio S
    have hr1 := pRatio S2
    have hcm := pCmpC S2.ratio S.ratio kt2.tf.ratio kt.tf.ratio
    have hsg := pSignC S.ratio kt.tf.ratio
    have hv0 := pVerdict S
    have hv1 := pVerdict S2
    have hv2 := pVerdict C2
    have hcase : (((S2.verdict : Int) == 1) = true ∧ (((C2.verdict : Int) != 1) = false ∧ ((C2.verdict : Int) == 2) = false)) ∨ (((S2.verdict : Int) == 1) = false ∧ ((C2.verdict : Int) == 2) = true ∧ ((S2.verdict : Int) != 2) = false) ∨ (((S2.verdict : Int) == 1) = false ∧ ((C2.verdict : Int) == 2) = false) := by
     obtain ⟨b1, b2⟩ := hbv
     by_cases e1 : S2.verdict = 1
     ·left; rw [e1, b1 e1]; exact ⟨rfl, rfl, rfl⟩
     ·right
      have f1 : ((S2.verdict : Int) == 1) = false := by rw [beq_eq_false_iff_ne]; omega
      by_cases e2 : C2.verdict = 2
      ·left; refine ⟨f1, ?_, ?_⟩
       ·rw [e2]; rfl
       ·rw [b2 e2]; rfl
      ·right; exact ⟨f1, by rw [beq_eq_false_iff_ne]; omega⟩
    have hop : ((S.verdict : Int) == 0) = (S.verdict == 0) := by
     by_cases e : S.verdict = 0
     ·rw [e]; rfl
     ·rw [beq_eq_false_iff_ne.2 e, beq_eq_false_iff_ne]; omega
    have hsgn : (S.verdict = 0 ∧ x = true ∧ 0 < cmpF S2.ratio S.ratio) ∨ (S.verdict = 0 ∧ x = false ∧ cmpF S2.ratio S.ratio < 0) ∨ (S.verdict ≠ 0 ∧ cmpF S2.ratio S.ratio = 0) := by
     by_cases e : S.verdict = 0
     ·cases hx : x with
      | true => left; refine ⟨e, rfl, ?_⟩; rw [hst, hx]; exact hup e
      | false => right; left; refine ⟨e, rfl, ?_⟩; rw [hst, hx]; exact hdn e
     ·right; right; refine ⟨e, ?_⟩; rw [hst, hdo e]; exact cmpF_self gr.ti.ratio.pos
    generalize (feedT S x).2.1 = V at *
    generalize (feedT S x).2.2 = E at *
    generalize (feedT C (x || y)).2.1 = V' at *
    generalize (feedT C (x || y)).2.2 = E' at *
    obtain ⟨pb, pl, pc, pm, -, -, q1⟩ := encP_ex S.ratio
    obtain ⟨rb, rl, rc, rm, -, -, q2⟩ := encP_ex S2.ratio
    rw [q1] at hr0 hsg
    rw [q2] at hr1
    rw [q1, q2] at hcm
    generalize cmpF S2.ratio S.ratio = sg at *
    generalize sgnF S.ratio = sn at *
    clear hst hsc hup hdn hdo hbv gr gr2
    ((conv=>whnf);repeat(refine Xg ?_;conv=>whnf))
    rw [hd, decide_eq_true hlt]
    ((conv=>whnf);repeat(refine Xg ?_;conv=>whnf))
    repeat ((first | refine setK_iff.2 ?_ | refine ⟨rfl, ?_⟩); ((conv=>whnf);repeat(refine Xg ?_;conv=>whnf)))
    refine ACalls.useR nngz [(0, 0)] hr0.glob rfl (.cons (.ptr 0 0 0 0 rfl) .nil) ⟨⟨0, _, rfl, rfl, .same (encTP_nn _)⟩, trivial⟩ rfl ?_
    rintro r m n ⟨rfl, rfl, rfl⟩
    refine ⟨[(0, tB0 S)], agP _ _ _ _, ⟨⟨0, _, rfl, rfl, .same (encTP_nn _)⟩, trivial⟩, rfl, ?_⟩
    ((conv=>whnf);repeat(refine Xg ?_;conv=>whnf))
    repeat ((first | refine setK_iff.2 ?_ | refine ⟨rfl, ?_⟩); ((conv=>whnf);repeat(refine Xg ?_;conv=>whnf)))
    refine ACalls.useR nngz [(0, 0)] hv0.glob rfl (.cons (.ptr 0 0 0 0 rfl) .nil) ⟨⟨0, _, rfl, rfl, .same (encTP_nn _)⟩, trivial⟩ rfl ?_
    rintro r m n ⟨rfl, rfl, rfl⟩
    refine ⟨[(0, tB0 S)], nn, ⟨⟨0, _, rfl, rfl, .same (encTP_nn _)⟩, trivial⟩, rfl, ?_⟩
    ((conv=>whnf);repeat(refine Xg ?_;conv=>whnf))
    repeat ((first | refine setK_iff.2 ?_ | refine ⟨rfl, ?_⟩); ((conv=>whnf);repeat(refine Xg ?_;conv=>whnf)))
    rw [hop]
    refine opt_mk hg ?_
    ((conv=>whnf);repeat(refine Xg ?_;conv=>whnf))
    repeat ((first | refine setK_iff.2 ?_ | refine ⟨rfl, ?_⟩); ((conv=>whnf);repeat(refine Xg ?_;conv=>whnf)))
    refine ACalls.useR nngz [(0, 0)] hfp.glob rfl (.cons (.ptr 0 0 0 0 rfl) (.same (.cons (tB _) .nil))) ⟨⟨0, _, rfl, rfl, .same (encTP_nn _)⟩, trivial⟩ rfl ?_
    rintro r m n ⟨rfl, rfl, rfl⟩
    refine ⟨[(0, tB0 S2)], .tup' (.cons nn (.cons nn .nil)), ⟨⟨0, _, rfl, rfl, .same (encTP_nn _)⟩, trivial⟩, rfl, ?_⟩
    ((conv=>whnf);repeat(refine Xg ?_;conv=>whnf))
    repeat ((first | refine setK_iff.2 ?_ | refine ⟨rfl, ?_⟩); ((conv=>whnf);repeat(refine Xg ?_;conv=>whnf)))
    rw [herr, neb]
    ((conv=>whnf);repeat(refine Xg ?_;conv=>whnf))
    repeat ((first | refine setK_iff.2 ?_ | refine ⟨rfl, ?_⟩); ((conv=>whnf);repeat(refine Xg ?_;conv=>whnf)))
    refine ACalls.useR nngz [(0, 0)] hr1.glob rfl (.cons (.ptr 0 0 0 0 rfl) .nil) ⟨⟨0, _, rfl, rfl, .same (encTP_nn _)⟩, trivial⟩ rfl ?_
    rintro r m n ⟨rfl, rfl, rfl⟩
    refine ⟨[(0, tB0 S2)], agP _ _ _ _, ⟨⟨0, _, rfl, rfl, .same (encTP_nn _)⟩, trivial⟩, rfl, ?_⟩
    ((conv=>whnf);repeat(refine Xg ?_;conv=>whnf))
    repeat ((first | refine setK_iff.2 ?_ | refine ⟨rfl, ?_⟩); ((conv=>whnf);repeat(refine Xg ?_;conv=>whnf)))
    refine hcm.goG ?_ (.cons (agP _ _ _ _) (.cons (agP _ _ _ _) .nil)) nn
    ((conv=>whnf);repeat(refine Xg ?_;conv=>whnf))
    repeat ((first | refine setK_iff.2 ?_ | refine ⟨rfl, ?_⟩); ((conv=>whnf);repeat(refine Xg ?_;conv=>whnf)))
    rcases hsgn with ⟨o1, rfl, o3⟩ | ⟨o1, rfl, o3⟩ | ⟨o1, o3⟩
    ·rw [show (S.verdict == 0) = true by rw [o1]; rfl]
     ((conv=>whnf);repeat(refine Xg ?_;conv=>whnf))
     repeat ((first | refine opt_mk hg ?_ | refine setK_iff.2 ?_ | refine ⟨rfl, ?_⟩); ((conv=>whnf);repeat(refine Xg ?_;conv=>whnf)))
     rw [decide_eq_false (show ¬ sg ≤ 0 by omega)]
     ((conv=>whnf);repeat(refine Xg ?_;conv=>whnf))
     repeat ((first | refine opt_mk hg ?_ | refine setK_iff.2 ?_ | refine ⟨rfl, ?_⟩); ((conv=>whnf);repeat(refine Xg ?_;conv=>whnf)))
     refine ACalls.useR nngz [(1, 0)] hfc.glob rfl (.cons (.ptr 1 0 0 0 rfl) (.same (.cons (tB _) .nil))) ⟨⟨1, _, rfl, rfl, .same (encTP_nn _)⟩, trivial⟩ rfl ?_
     rintro r m n ⟨rfl, rfl, rfl⟩
     refine ⟨[(1, tB0 C2)], .tup' (.cons nn (.cons nn .nil)), ⟨⟨0, _, rfl, rfl, .same (encTP_nn _)⟩, trivial⟩, rfl, ?_⟩
     ((conv=>whnf);repeat(refine Xg ?_;conv=>whnf))
     repeat ((first | refine setK_iff.2 ?_ | refine ⟨rfl, ?_⟩); ((conv=>whnf);repeat(refine Xg ?_;conv=>whnf)))
     refine ACalls.useR nngz [(0, 0)] hv1.glob rfl (.cons (.ptr 0 0 0 0 rfl) .nil) ⟨⟨0, _, rfl, rfl, .same (encTP_nn _)⟩, trivial⟩ rfl ?_
     rintro r m n ⟨rfl, rfl, rfl⟩
     refine ⟨[(0, tB0 S2)], nn, ⟨⟨0, _, rfl, rfl, .same (encTP_nn _)⟩, trivial⟩, rfl, ?_⟩
     ((conv=>whnf);repeat(refine Xg ?_;conv=>whnf))
     repeat ((first | refine setK_iff.2 ?_ | refine ⟨rfl, ?_⟩); ((conv=>whnf);repeat(refine Xg ?_;conv=>whnf)))
     rcases hcase with ⟨z1, z2⟩ | ⟨z1, z2, z3⟩ | ⟨z1, z2⟩
     ·have z3_ : ((C2.verdict : Int) == 2) = false := z2.2
      have z2 := z2.1
      rw [z1]
      ((conv=>whnf);repeat(refine Xg ?_;conv=>whnf))
      repeat ((first | refine setK_iff.2 ?_ | refine ⟨rfl, ?_⟩); ((conv=>whnf);repeat(refine Xg ?_;conv=>whnf)))
      refine ACalls.useR nngz [(1, 0)] hv2.glob rfl (.cons (.ptr 1 0 0 0 rfl) .nil) ⟨⟨1, _, rfl, rfl, .same (encTP_nn _)⟩, trivial⟩ rfl ?_
      rintro r m n ⟨rfl, rfl, rfl⟩
      refine ⟨[(1, tB0 C2)], nn, ⟨⟨0, _, rfl, rfl, .same (encTP_nn _)⟩, trivial⟩, rfl, ?_⟩
      ((conv=>whnf);repeat(refine Xg ?_;conv=>whnf))
      repeat ((first | refine setK_iff.2 ?_ | refine ⟨rfl, ?_⟩); ((conv=>whnf);repeat(refine Xg ?_;conv=>whnf)))
      rw [z2]
      ((conv=>whnf);repeat(refine Xg ?_;conv=>whnf))
      repeat ((first | refine setK_iff.2 ?_ | refine ⟨rfl, ?_⟩); ((conv=>whnf);repeat(refine Xg ?_;conv=>whnf)))
      refine ACalls.useR nngz [(1, 0)] hv2.glob rfl (.cons (.ptr 1 0 0 0 rfl) .nil) ⟨⟨1, _, rfl, rfl, .same (encTP_nn _)⟩, trivial⟩ rfl ?_
      rintro r m n ⟨rfl, rfl, rfl⟩
      refine ⟨[(1, tB0 C2)], nn, ⟨⟨0, _, rfl, rfl, .same (encTP_nn _)⟩, trivial⟩, rfl, ?_⟩
      ((conv=>whnf);repeat(refine Xg ?_;conv=>whnf))
      repeat ((first | refine setK_iff.2 ?_ | refine ⟨rfl, ?_⟩); ((conv=>whnf);repeat(refine Xg ?_;conv=>whnf)))
      rw [z3_]
      ((conv=>whnf);repeat(refine Xg ?_;conv=>whnf))
      repeat ((first | refine setK_iff.2 ?_ | refine ⟨rfl, ?_⟩); ((conv=>whnf);repeat(refine Xg ?_;conv=>whnf)))
      exact .mk (i + 1) [(0, 0), (1, 1)] (by omega)
       (conv_mk _ rfl ⟨⟨0, _, rfl, rfl, .eq (encTP_nn _) (by rw [hS2])⟩, ⟨1, _, rfl, rfl, .eq (encTP_nn _) (by rw [hC2])⟩, trivial⟩ ⟨⟨_, rfl, .ptr 0 0 0 0 rfl⟩, ⟨_, rfl, .ptr 1 1 0 0 rfl⟩, ⟨_, rfl, .same _ (.il' (encBo_nn b))⟩, ⟨_, rfl, .same _ nn⟩, ⟨_, rfl, .w64 (by omega) ⟨by omega, by omega⟩⟩, trivial⟩) (by omega)
     ·rw [z1]
      ((conv=>whnf);repeat(refine Xg ?_;conv=>whnf))
      repeat ((first | refine setK_iff.2 ?_ | refine ⟨rfl, ?_⟩); ((conv=>whnf);repeat(refine Xg ?_;conv=>whnf)))
      refine ACalls.useR nngz [(1, 0)] hv2.glob rfl (.cons (.ptr 1 0 0 0 rfl) .nil) ⟨⟨1, _, rfl, rfl, .same (encTP_nn _)⟩, trivial⟩ rfl ?_
      rintro r m n ⟨rfl, rfl, rfl⟩
      refine ⟨[(1, tB0 C2)], nn, ⟨⟨0, _, rfl, rfl, .same (encTP_nn _)⟩, trivial⟩, rfl, ?_⟩
      ((conv=>whnf);repeat(refine Xg ?_;conv=>whnf))
      repeat ((first | refine setK_iff.2 ?_ | refine ⟨rfl, ?_⟩); ((conv=>whnf);repeat(refine Xg ?_;conv=>whnf)))
      rw [z2]
      ((conv=>whnf);repeat(refine Xg ?_;conv=>whnf))
      repeat ((first | refine setK_iff.2 ?_ | refine ⟨rfl, ?_⟩); ((conv=>whnf);repeat(refine Xg ?_;conv=>whnf)))
      refine ACalls.useR nngz [(0, 0)] hv1.glob rfl (.cons (.ptr 0 0 0 0 rfl) .nil) ⟨⟨0, _, rfl, rfl, .same (encTP_nn _)⟩, trivial⟩ rfl ?_
      rintro r m n ⟨rfl, rfl, rfl⟩
      refine ⟨[(0, tB0 S2)], nn, ⟨⟨0, _, rfl, rfl, .same (encTP_nn _)⟩, trivial⟩, rfl, ?_⟩
      ((conv=>whnf);repeat(refine Xg ?_;conv=>whnf))
      repeat ((first | refine setK_iff.2 ?_ | refine ⟨rfl, ?_⟩); ((conv=>whnf);repeat(refine Xg ?_;conv=>whnf)))
      rw [z3]
      ((conv=>whnf);repeat(refine Xg ?_;conv=>whnf))
      repeat ((first | refine setK_iff.2 ?_ | refine ⟨rfl, ?_⟩); ((conv=>whnf);repeat(refine Xg ?_;conv=>whnf)))
      exact .mk (i + 1) [(0, 0), (1, 1)] (by omega)
       (conv_mk _ rfl ⟨⟨0, _, rfl, rfl, .eq (encTP_nn _) (by rw [hS2])⟩, ⟨1, _, rfl, rfl, .eq (encTP_nn _) (by rw [hC2])⟩, trivial⟩ ⟨⟨_, rfl, .ptr 0 0 0 0 rfl⟩, ⟨_, rfl, .ptr 1 1 0 0 rfl⟩, ⟨_, rfl, .same _ (.il' (encBo_nn b))⟩, ⟨_, rfl, .same _ nn⟩, ⟨_, rfl, .w64 (by omega) ⟨by omega, by omega⟩⟩, trivial⟩) (by omega)
     ·rw [z1]
      ((conv=>whnf);repeat(refine Xg ?_;conv=>whnf))
      repeat ((first | refine setK_iff.2 ?_ | refine ⟨rfl, ?_⟩); ((conv=>whnf);repeat(refine Xg ?_;conv=>whnf)))
      refine ACalls.useR nngz [(1, 0)] hv2.glob rfl (.cons (.ptr 1 0 0 0 rfl) .nil) ⟨⟨1, _, rfl, rfl, .same (encTP_nn _)⟩, trivial⟩ rfl ?_
      rintro r m n ⟨rfl, rfl, rfl⟩
      refine ⟨[(1, tB0 C2)], nn, ⟨⟨0, _, rfl, rfl, .same (encTP_nn _)⟩, trivial⟩, rfl, ?_⟩
      ((conv=>whnf);repeat(refine Xg ?_;conv=>whnf))
      repeat ((first | refine setK_iff.2 ?_ | refine ⟨rfl, ?_⟩); ((conv=>whnf);repeat(refine Xg ?_;conv=>whnf)))
      rw [z2]
      ((conv=>whnf);repeat(refine Xg ?_;conv=>whnf))
      repeat ((first | refine setK_iff.2 ?_ | refine ⟨rfl, ?_⟩); ((conv=>whnf);repeat(refine Xg ?_;conv=>whnf)))
      exact .mk (i + 1) [(0, 0), (1, 1)] (by omega)
       (conv_mk _ rfl ⟨⟨0, _, rfl, rfl, .eq (encTP_nn _) (by rw [hS2])⟩, ⟨1, _, rfl, rfl, .eq (encTP_nn _) (by rw [hC2])⟩, trivial⟩ ⟨⟨_, rfl, .ptr 0 0 0 0 rfl⟩, ⟨_, rfl, .ptr 1 1 0 0 rfl⟩, ⟨_, rfl, .same _ (.il' (encBo_nn b))⟩, ⟨_, rfl, .same _ nn⟩, ⟨_, rfl, .w64 (by omega) ⟨by omega, by omega⟩⟩, trivial⟩) (by omega)
    ·rw [show (S.verdict == 0) = true by rw [o1]; rfl]
     ((conv=>whnf);repeat(refine Xg ?_;conv=>whnf))
     repeat ((first | refine opt_mk hg ?_ | refine setK_iff.2 ?_ | refine ⟨rfl, ?_⟩); ((conv=>whnf);repeat(refine Xg ?_;conv=>whnf)))
     rw [decide_eq_false (show ¬ sg ≥ 0 by omega)]
     ((conv=>whnf);repeat(refine Xg ?_;conv=>whnf))
     repeat ((first | refine opt_mk hg ?_ | refine setK_iff.2 ?_ | refine ⟨rfl, ?_⟩); ((conv=>whnf);repeat(refine Xg ?_;conv=>whnf)))
     rw [hkk]
     refine ACalls.useR nngz [(1, 0)] hfc.glob rfl (.cons (.ptr 1 0 0 0 rfl) (.same (.cons (tB _) .nil))) ⟨⟨1, _, rfl, rfl, .same (encTP_nn _)⟩, trivial⟩ rfl ?_
     rintro r m n ⟨rfl, rfl, rfl⟩
     refine ⟨[(1, tB0 C2)], .tup' (.cons nn (.cons nn .nil)), ⟨⟨0, _, rfl, rfl, .same (encTP_nn _)⟩, trivial⟩, rfl, ?_⟩
     ((conv=>whnf);repeat(refine Xg ?_;conv=>whnf))
     repeat ((first | refine setK_iff.2 ?_ | refine ⟨rfl, ?_⟩); ((conv=>whnf);repeat(refine Xg ?_;conv=>whnf)))
     refine ACalls.useR nngz [(0, 0)] hv1.glob rfl (.cons (.ptr 0 0 0 0 rfl) .nil) ⟨⟨0, _, rfl, rfl, .same (encTP_nn _)⟩, trivial⟩ rfl ?_
     rintro r m n ⟨rfl, rfl, rfl⟩
     refine ⟨[(0, tB0 S2)], nn, ⟨⟨0, _, rfl, rfl, .same (encTP_nn _)⟩, trivial⟩, rfl, ?_⟩
     ((conv=>whnf);repeat(refine Xg ?_;conv=>whnf))
     repeat ((first | refine setK_iff.2 ?_ | refine ⟨rfl, ?_⟩); ((conv=>whnf);repeat(refine Xg ?_;conv=>whnf)))
     rcases hcase with ⟨z1, z2⟩ | ⟨z1, z2, z3⟩ | ⟨z1, z2⟩
     ·have z3_ : ((C2.verdict : Int) == 2) = false := z2.2
      have z2 := z2.1
      rw [z1]
      ((conv=>whnf);repeat(refine Xg ?_;conv=>whnf))
      repeat ((first | refine setK_iff.2 ?_ | refine ⟨rfl, ?_⟩); ((conv=>whnf);repeat(refine Xg ?_;conv=>whnf)))
      refine ACalls.useR nngz [(1, 0)] hv2.glob rfl (.cons (.ptr 1 0 0 0 rfl) .nil) ⟨⟨1, _, rfl, rfl, .same (encTP_nn _)⟩, trivial⟩ rfl ?_
      rintro r m n ⟨rfl, rfl, rfl⟩
      refine ⟨[(1, tB0 C2)], nn, ⟨⟨0, _, rfl, rfl, .same (encTP_nn _)⟩, trivial⟩, rfl, ?_⟩
      ((conv=>whnf);repeat(refine Xg ?_;conv=>whnf))
      repeat ((first | refine setK_iff.2 ?_ | refine ⟨rfl, ?_⟩); ((conv=>whnf);repeat(refine Xg ?_;conv=>whnf)))
      rw [z2]
      ((conv=>whnf);repeat(refine Xg ?_;conv=>whnf))
      repeat ((first | refine setK_iff.2 ?_ | refine ⟨rfl, ?_⟩); ((conv=>whnf);repeat(refine Xg ?_;conv=>whnf)))
      refine ACalls.useR nngz [(1, 0)] hv2.glob rfl (.cons (.ptr 1 0 0 0 rfl) .nil) ⟨⟨1, _, rfl, rfl, .same (encTP_nn _)⟩, trivial⟩ rfl ?_
      rintro r m n ⟨rfl, rfl, rfl⟩
      refine ⟨[(1, tB0 C2)], nn, ⟨⟨0, _, rfl, rfl, .same (encTP_nn _)⟩, trivial⟩, rfl, ?_⟩
      ((conv=>whnf);repeat(refine Xg ?_;conv=>whnf))
      repeat ((first | refine setK_iff.2 ?_ | refine ⟨rfl, ?_⟩); ((conv=>whnf);repeat(refine Xg ?_;conv=>whnf)))
      rw [z3_]
      ((conv=>whnf);repeat(refine Xg ?_;conv=>whnf))
      repeat ((first | refine setK_iff.2 ?_ | refine ⟨rfl, ?_⟩); ((conv=>whnf);repeat(refine Xg ?_;conv=>whnf)))
      exact .mk (i + 1) [(0, 0), (1, 1)] (by omega)
       (conv_mk _ rfl ⟨⟨0, _, rfl, rfl, .eq (encTP_nn _) (by rw [hS2])⟩, ⟨1, _, rfl, rfl, .eq (encTP_nn _) (by rw [hC2])⟩, trivial⟩ ⟨⟨_, rfl, .ptr 0 0 0 0 rfl⟩, ⟨_, rfl, .ptr 1 1 0 0 rfl⟩, ⟨_, rfl, .same _ (.il' (encBo_nn b))⟩, ⟨_, rfl, .same _ nn⟩, ⟨_, rfl, .w64 (by omega) ⟨by omega, by omega⟩⟩, trivial⟩) (by omega)
     ·rw [z1]
      ((conv=>whnf);repeat(refine Xg ?_;conv=>whnf))
      repeat ((first | refine setK_iff.2 ?_ | refine ⟨rfl, ?_⟩); ((conv=>whnf);repeat(refine Xg ?_;conv=>whnf)))
      refine ACalls.useR nngz [(1, 0)] hv2.glob rfl (.cons (.ptr 1 0 0 0 rfl) .nil) ⟨⟨1, _, rfl, rfl, .same (encTP_nn _)⟩, trivial⟩ rfl ?_
      rintro r m n ⟨rfl, rfl, rfl⟩
      refine ⟨[(1, tB0 C2)], nn, ⟨⟨0, _, rfl, rfl, .same (encTP_nn _)⟩, trivial⟩, rfl, ?_⟩
      ((conv=>whnf);repeat(refine Xg ?_;conv=>whnf))
      repeat ((first | refine setK_iff.2 ?_ | refine ⟨rfl, ?_⟩); ((conv=>whnf);repeat(refine Xg ?_;conv=>whnf)))
      rw [z2]
      ((conv=>whnf);repeat(refine Xg ?_;conv=>whnf))
      repeat ((first | refine setK_iff.2 ?_ | refine ⟨rfl, ?_⟩); ((conv=>whnf);repeat(refine Xg ?_;conv=>whnf)))
      refine ACalls.useR nngz [(0, 0)] hv1.glob rfl (.cons (.ptr 0 0 0 0 rfl) .nil) ⟨⟨0, _, rfl, rfl, .same (encTP_nn _)⟩, trivial⟩ rfl ?_
      rintro r m n ⟨rfl, rfl, rfl⟩
      refine ⟨[(0, tB0 S2)], nn, ⟨⟨0, _, rfl, rfl, .same (encTP_nn _)⟩, trivial⟩, rfl, ?_⟩
      ((conv=>whnf);repeat(refine Xg ?_;conv=>whnf))
      repeat ((first | refine setK_iff.2 ?_ | refine ⟨rfl, ?_⟩); ((conv=>whnf);repeat(refine Xg ?_;conv=>whnf)))
      rw [z3]
      ((conv=>whnf);repeat(refine Xg ?_;conv=>whnf))
      repeat ((first | refine setK_iff.2 ?_ | refine ⟨rfl, ?_⟩); ((conv=>whnf);repeat(refine Xg ?_;conv=>whnf)))
      exact .mk (i + 1) [(0, 0), (1, 1)] (by omega)
       (conv_mk _ rfl ⟨⟨0, _, rfl, rfl, .eq (encTP_nn _) (by rw [hS2])⟩, ⟨1, _, rfl, rfl, .eq (encTP_nn _) (by rw [hC2])⟩, trivial⟩ ⟨⟨_, rfl, .ptr 0 0 0 0 rfl⟩, ⟨_, rfl, .ptr 1 1 0 0 rfl⟩, ⟨_, rfl, .same _ (.il' (encBo_nn b))⟩, ⟨_, rfl, .same _ nn⟩, ⟨_, rfl, .w64 (by omega) ⟨by omega, by omega⟩⟩, trivial⟩) (by omega)
     ·rw [z1]
      ((conv=>whnf);repeat(refine Xg ?_;conv=>whnf))
      repeat ((first | refine setK_iff.2 ?_ | refine ⟨rfl, ?_⟩); ((conv=>whnf);repeat(refine Xg ?_;conv=>whnf)))
      refine ACalls.useR nngz [(1, 0)] hv2.glob rfl (.cons (.ptr 1 0 0 0 rfl) .nil) ⟨⟨1, _, rfl, rfl, .same (encTP_nn _)⟩, trivial⟩ rfl ?_
      rintro r m n ⟨rfl, rfl, rfl⟩
      refine ⟨[(1, tB0 C2)], nn, ⟨⟨0, _, rfl, rfl, .same (encTP_nn _)⟩, trivial⟩, rfl, ?_⟩
      ((conv=>whnf);repeat(refine Xg ?_;conv=>whnf))
      repeat ((first | refine setK_iff.2 ?_ | refine ⟨rfl, ?_⟩); ((conv=>whnf);repeat(refine Xg ?_;conv=>whnf)))
      rw [z2]
      ((conv=>whnf);repeat(refine Xg ?_;conv=>whnf))
      repeat ((first | refine setK_iff.2 ?_ | refine ⟨rfl, ?_⟩); ((conv=>whnf);repeat(refine Xg ?_;conv=>whnf)))
      exact .mk (i + 1) [(0, 0), (1, 1)] (by omega)
       (conv_mk _ rfl ⟨⟨0, _, rfl, rfl, .eq (encTP_nn _) (by rw [hS2])⟩, ⟨1, _, rfl, rfl, .eq (encTP_nn _) (by rw [hC2])⟩, trivial⟩ ⟨⟨_, rfl, .ptr 0 0 0 0 rfl⟩, ⟨_, rfl, .ptr 1 1 0 0 rfl⟩, ⟨_, rfl, .same _ (.il' (encBo_nn b))⟩, ⟨_, rfl, .same _ nn⟩, ⟨_, rfl, .w64 (by omega) ⟨by omega, by omega⟩⟩, trivial⟩) (by omega)
    ·rw [show (S.verdict == 0) = false from beq_eq_false_iff_ne.2 o1]
     ((conv=>whnf);repeat(refine Xg ?_;conv=>whnf))
     repeat ((first | refine opt_mk hg ?_ | refine setK_iff.2 ?_ | refine ⟨rfl, ?_⟩); ((conv=>whnf);repeat(refine Xg ?_;conv=>whnf)))
     rw [show (sg != 0) = false by rw [o3]; rfl]
     ((conv=>whnf);repeat(refine Xg ?_;conv=>whnf))
     repeat ((first | refine opt_mk hg ?_ | refine setK_iff.2 ?_ | refine ⟨rfl, ?_⟩); ((conv=>whnf);repeat(refine Xg ?_;conv=>whnf)))
     cases x with
     | true =>
      ((conv=>whnf);repeat(refine Xg ?_;conv=>whnf))
      repeat ((first | refine opt_mk hg ?_ | refine setK_iff.2 ?_ | refine ⟨rfl, ?_⟩); ((conv=>whnf);repeat(refine Xg ?_;conv=>whnf)))
      refine ACalls.useR nngz [(1, 0)] hfc.glob rfl (.cons (.ptr 1 0 0 0 rfl) (.same (.cons (tB _) .nil))) ⟨⟨1, _, rfl, rfl, .same (encTP_nn _)⟩, trivial⟩ rfl ?_
      rintro r m n ⟨rfl, rfl, rfl⟩
      refine ⟨[(1, tB0 C2)], .tup' (.cons nn (.cons nn .nil)), ⟨⟨0, _, rfl, rfl, .same (encTP_nn _)⟩, trivial⟩, rfl, ?_⟩
      ((conv=>whnf);repeat(refine Xg ?_;conv=>whnf))
      repeat ((first | refine setK_iff.2 ?_ | refine ⟨rfl, ?_⟩); ((conv=>whnf);repeat(refine Xg ?_;conv=>whnf)))
      refine ACalls.useR nngz [(0, 0)] hv1.glob rfl (.cons (.ptr 0 0 0 0 rfl) .nil) ⟨⟨0, _, rfl, rfl, .same (encTP_nn _)⟩, trivial⟩ rfl ?_
      rintro r m n ⟨rfl, rfl, rfl⟩
      refine ⟨[(0, tB0 S2)], nn, ⟨⟨0, _, rfl, rfl, .same (encTP_nn _)⟩, trivial⟩, rfl, ?_⟩
      ((conv=>whnf);repeat(refine Xg ?_;conv=>whnf))
      repeat ((first | refine setK_iff.2 ?_ | refine ⟨rfl, ?_⟩); ((conv=>whnf);repeat(refine Xg ?_;conv=>whnf)))
      rcases hcase with ⟨z1, z2⟩ | ⟨z1, z2, z3⟩ | ⟨z1, z2⟩
      ·have z3_ : ((C2.verdict : Int) == 2) = false := z2.2
       have z2 := z2.1
       rw [z1]
       ((conv=>whnf);repeat(refine Xg ?_;conv=>whnf))
       repeat ((first | refine setK_iff.2 ?_ | refine ⟨rfl, ?_⟩); ((conv=>whnf);repeat(refine Xg ?_;conv=>whnf)))
       refine ACalls.useR nngz [(1, 0)] hv2.glob rfl (.cons (.ptr 1 0 0 0 rfl) .nil) ⟨⟨1, _, rfl, rfl, .same (encTP_nn _)⟩, trivial⟩ rfl ?_
       rintro r m n ⟨rfl, rfl, rfl⟩
       refine ⟨[(1, tB0 C2)], nn, ⟨⟨0, _, rfl, rfl, .same (encTP_nn _)⟩, trivial⟩, rfl, ?_⟩
       ((conv=>whnf);repeat(refine Xg ?_;conv=>whnf))
       repeat ((first | refine setK_iff.2 ?_ | refine ⟨rfl, ?_⟩); ((conv=>whnf);repeat(refine Xg ?_;conv=>whnf)))
       rw [z2]
       ((conv=>whnf);repeat(refine Xg ?_;conv=>whnf))
       repeat ((first | refine setK_iff.2 ?_ | refine ⟨rfl, ?_⟩); ((conv=>whnf);repeat(refine Xg ?_;conv=>whnf)))
       refine ACalls.useR nngz [(1, 0)] hv2.glob rfl (.cons (.ptr 1 0 0 0 rfl) .nil) ⟨⟨1, _, rfl, rfl, .same (encTP_nn _)⟩, trivial⟩ rfl ?_
       rintro r m n ⟨rfl, rfl, rfl⟩
       refine ⟨[(1, tB0 C2)], nn, ⟨⟨0, _, rfl, rfl, .same (encTP_nn _)⟩, trivial⟩, rfl, ?_⟩
       ((conv=>whnf);repeat(refine Xg ?_;conv=>whnf))
       repeat ((first | refine setK_iff.2 ?_ | refine ⟨rfl, ?_⟩); ((conv=>whnf);repeat(refine Xg ?_;conv=>whnf)))
       rw [z3_]
       ((conv=>whnf);repeat(refine Xg ?_;conv=>whnf))
       repeat ((first | refine setK_iff.2 ?_ | refine ⟨rfl, ?_⟩); ((conv=>whnf);repeat(refine Xg ?_;conv=>whnf)))
       exact .mk (i + 1) [(0, 0), (1, 1)] (by omega)
        (conv_mk _ rfl ⟨⟨0, _, rfl, rfl, .eq (encTP_nn _) (by rw [hS2])⟩, ⟨1, _, rfl, rfl, .eq (encTP_nn _) (by rw [hC2])⟩, trivial⟩ ⟨⟨_, rfl, .ptr 0 0 0 0 rfl⟩, ⟨_, rfl, .ptr 1 1 0 0 rfl⟩, ⟨_, rfl, .same _ (.il' (encBo_nn b))⟩, ⟨_, rfl, .same _ nn⟩, ⟨_, rfl, .w64 (by omega) ⟨by omega, by omega⟩⟩, trivial⟩) (by omega)
      ·rw [z1]
       ((conv=>whnf);repeat(refine Xg ?_;conv=>whnf))
       repeat ((first | refine setK_iff.2 ?_ | refine ⟨rfl, ?_⟩); ((conv=>whnf);repeat(refine Xg ?_;conv=>whnf)))
       refine ACalls.useR nngz [(1, 0)] hv2.glob rfl (.cons (.ptr 1 0 0 0 rfl) .nil) ⟨⟨1, _, rfl, rfl, .same (encTP_nn _)⟩, trivial⟩ rfl ?_
       rintro r m n ⟨rfl, rfl, rfl⟩
       refine ⟨[(1, tB0 C2)], nn, ⟨⟨0, _, rfl, rfl, .same (encTP_nn _)⟩, trivial⟩, rfl, ?_⟩
       ((conv=>whnf);repeat(refine Xg ?_;conv=>whnf))
       repeat ((first | refine setK_iff.2 ?_ | refine ⟨rfl, ?_⟩); ((conv=>whnf);repeat(refine Xg ?_;conv=>whnf)))
       rw [z2]
       ((conv=>whnf);repeat(refine Xg ?_;conv=>whnf))
       repeat ((first | refine setK_iff.2 ?_ | refine ⟨rfl, ?_⟩); ((conv=>whnf);repeat(refine Xg ?_;conv=>whnf)))
       refine ACalls.useR nngz [(0, 0)] hv1.glob rfl (.cons (.ptr 0 0 0 0 rfl) .nil) ⟨⟨0, _, rfl, rfl, .same (encTP_nn _)⟩, trivial⟩ rfl ?_
       rintro r m n ⟨rfl, rfl, rfl⟩
       refine ⟨[(0, tB0 S2)], nn, ⟨⟨0, _, rfl, rfl, .same (encTP_nn _)⟩, trivial⟩, rfl, ?_⟩
       ((conv=>whnf);repeat(refine Xg ?_;conv=>whnf))
       repeat ((first | refine setK_iff.2 ?_ | refine ⟨rfl, ?_⟩); ((conv=>whnf);repeat(refine Xg ?_;conv=>whnf)))
       rw [z3]
       ((conv=>whnf);repeat(refine Xg ?_;conv=>whnf))
       repeat ((first | refine setK_iff.2 ?_ | refine ⟨rfl, ?_⟩); ((conv=>whnf);repeat(refine Xg ?_;conv=>whnf)))
       exact .mk (i + 1) [(0, 0), (1, 1)] (by omega)
        (conv_mk _ rfl ⟨⟨0, _, rfl, rfl, .eq (encTP_nn _) (by rw [hS2])⟩, ⟨1, _, rfl, rfl, .eq (encTP_nn _) (by rw [hC2])⟩, trivial⟩ ⟨⟨_, rfl, .ptr 0 0 0 0 rfl⟩, ⟨_, rfl, .ptr 1 1 0 0 rfl⟩, ⟨_, rfl, .same _ (.il' (encBo_nn b))⟩, ⟨_, rfl, .same _ nn⟩, ⟨_, rfl, .w64 (by omega) ⟨by omega, by omega⟩⟩, trivial⟩) (by omega)
      ·rw [z1]
       ((conv=>whnf);repeat(refine Xg ?_;conv=>whnf))
       repeat ((first | refine setK_iff.2 ?_ | refine ⟨rfl, ?_⟩); ((conv=>whnf);repeat(refine Xg ?_;conv=>whnf)))
       refine ACalls.useR nngz [(1, 0)] hv2.glob rfl (.cons (.ptr 1 0 0 0 rfl) .nil) ⟨⟨1, _, rfl, rfl, .same (encTP_nn _)⟩, trivial⟩ rfl ?_
       rintro r m n ⟨rfl, rfl, rfl⟩
       refine ⟨[(1, tB0 C2)], nn, ⟨⟨0, _, rfl, rfl, .same (encTP_nn _)⟩, trivial⟩, rfl, ?_⟩
       ((conv=>whnf);repeat(refine Xg ?_;conv=>whnf))
       repeat ((first | refine setK_iff.2 ?_ | refine ⟨rfl, ?_⟩); ((conv=>whnf);repeat(refine Xg ?_;conv=>whnf)))
       rw [z2]
       ((conv=>whnf);repeat(refine Xg ?_;conv=>whnf))
       repeat ((first | refine setK_iff.2 ?_ | refine ⟨rfl, ?_⟩); ((conv=>whnf);repeat(refine Xg ?_;conv=>whnf)))
       exact .mk (i + 1) [(0, 0), (1, 1)] (by omega)
        (conv_mk _ rfl ⟨⟨0, _, rfl, rfl, .eq (encTP_nn _) (by rw [hS2])⟩, ⟨1, _, rfl, rfl, .eq (encTP_nn _) (by rw [hC2])⟩, trivial⟩ ⟨⟨_, rfl, .ptr 0 0 0 0 rfl⟩, ⟨_, rfl, .ptr 1 1 0 0 rfl⟩, ⟨_, rfl, .same _ (.il' (encBo_nn b))⟩, ⟨_, rfl, .same _ nn⟩, ⟨_, rfl, .w64 (by omega) ⟨by omega, by omega⟩⟩, trivial⟩) (by omega)
     | false =>
      ((conv=>whnf);repeat(refine Xg ?_;conv=>whnf))
      repeat ((first | refine opt_mk hg ?_ | refine setK_iff.2 ?_ | refine ⟨rfl, ?_⟩); ((conv=>whnf);repeat(refine Xg ?_;conv=>whnf)))
      rw [hkk]
      refine ACalls.useR nngz [(1, 0)] hfc.glob rfl (.cons (.ptr 1 0 0 0 rfl) (.same (.cons (tB _) .nil))) ⟨⟨1, _, rfl, rfl, .same (encTP_nn _)⟩, trivial⟩ rfl ?_
      rintro r m n ⟨rfl, rfl, rfl⟩
      refine ⟨[(1, tB0 C2)], .tup' (.cons nn (.cons nn .nil)), ⟨⟨0, _, rfl, rfl, .same (encTP_nn _)⟩, trivial⟩, rfl, ?_⟩
      ((conv=>whnf);repeat(refine Xg ?_;conv=>whnf))
      repeat ((first | refine setK_iff.2 ?_ | refine ⟨rfl, ?_⟩); ((conv=>whnf);repeat(refine Xg ?_;conv=>whnf)))
      refine ACalls.useR nngz [(0, 0)] hv1.glob rfl (.cons (.ptr 0 0 0 0 rfl) .nil) ⟨⟨0, _, rfl, rfl, .same (encTP_nn _)⟩, trivial⟩ rfl ?_
      rintro r m n ⟨rfl, rfl, rfl⟩
      refine ⟨[(0, tB0 S2)], nn, ⟨⟨0, _, rfl, rfl, .same (encTP_nn _)⟩, trivial⟩, rfl, ?_⟩
      ((conv=>whnf);repeat(refine Xg ?_;conv=>whnf))
      repeat ((first | refine setK_iff.2 ?_ | refine ⟨rfl, ?_⟩); ((conv=>whnf);repeat(refine Xg ?_;conv=>whnf)))
      rcases hcase with ⟨z1, z2⟩ | ⟨z1, z2, z3⟩ | ⟨z1, z2⟩
      ·have z3_ : ((C2.verdict : Int) == 2) = false := z2.2
       have z2 := z2.1
       rw [z1]
       ((conv=>whnf);repeat(refine Xg ?_;conv=>whnf))
       repeat ((first | refine setK_iff.2 ?_ | refine ⟨rfl, ?_⟩); ((conv=>whnf);repeat(refine Xg ?_;conv=>whnf)))
       refine ACalls.useR nngz [(1, 0)] hv2.glob rfl (.cons (.ptr 1 0 0 0 rfl) .nil) ⟨⟨1, _, rfl, rfl, .same (encTP_nn _)⟩, trivial⟩ rfl ?_
       rintro r m n ⟨rfl, rfl, rfl⟩
       refine ⟨[(1, tB0 C2)], nn, ⟨⟨0, _, rfl, rfl, .same (encTP_nn _)⟩, trivial⟩, rfl, ?_⟩
       ((conv=>whnf);repeat(refine Xg ?_;conv=>whnf))
       repeat ((first | refine setK_iff.2 ?_ | refine ⟨rfl, ?_⟩); ((conv=>whnf);repeat(refine Xg ?_;conv=>whnf)))
       rw [z2]
       ((conv=>whnf);repeat(refine Xg ?_;conv=>whnf))
       repeat ((first | refine setK_iff.2 ?_ | refine ⟨rfl, ?_⟩); ((conv=>whnf);repeat(refine Xg ?_;conv=>whnf)))
       refine ACalls.useR nngz [(1, 0)] hv2.glob rfl (.cons (.ptr 1 0 0 0 rfl) .nil) ⟨⟨1, _, rfl, rfl, .same (encTP_nn _)⟩, trivial⟩ rfl ?_
       rintro r m n ⟨rfl, rfl, rfl⟩
       refine ⟨[(1, tB0 C2)], nn, ⟨⟨0, _, rfl, rfl, .same (encTP_nn _)⟩, trivial⟩, rfl, ?_⟩
       ((conv=>whnf);repeat(refine Xg ?_;conv=>whnf))
       repeat ((first | refine setK_iff.2 ?_ | refine ⟨rfl, ?_⟩); ((conv=>whnf);repeat(refine Xg ?_;conv=>whnf)))
       rw [z3_]
       ((conv=>whnf);repeat(refine Xg ?_;conv=>whnf))
       repeat ((first | refine setK_iff.2 ?_ | refine ⟨rfl, ?_⟩); ((conv=>whnf);repeat(refine Xg ?_;conv=>whnf)))
       exact .mk (i + 1) [(0, 0), (1, 1)] (by omega)
        (conv_mk _ rfl ⟨⟨0, _, rfl, rfl, .eq (encTP_nn _) (by rw [hS2])⟩, ⟨1, _, rfl, rfl, .eq (encTP_nn _) (by rw [hC2])⟩, trivial⟩ ⟨⟨_, rfl, .ptr 0 0 0 0 rfl⟩, ⟨_, rfl, .ptr 1 1 0 0 rfl⟩, ⟨_, rfl, .same _ (.il' (encBo_nn b))⟩, ⟨_, rfl, .same _ nn⟩, ⟨_, rfl, .w64 (by omega) ⟨by omega, by omega⟩⟩, trivial⟩) (by omega)
      ·rw [z1]
       ((conv=>whnf);repeat(refine Xg ?_;conv=>whnf))
       repeat ((first | refine setK_iff.2 ?_ | refine ⟨rfl, ?_⟩); ((conv=>whnf);repeat(refine Xg ?_;conv=>whnf)))
       refine ACalls.useR nngz [(1, 0)] hv2.glob rfl (.cons (.ptr 1 0 0 0 rfl) .nil) ⟨⟨1, _, rfl, rfl, .same (encTP_nn _)⟩, trivial⟩ rfl ?_
       rintro r m n ⟨rfl, rfl, rfl⟩
       refine ⟨[(1, tB0 C2)], nn, ⟨⟨0, _, rfl, rfl, .same (encTP_nn _)⟩, trivial⟩, rfl, ?_⟩
       ((conv=>whnf);repeat(refine Xg ?_;conv=>whnf))
       repeat ((first | refine setK_iff.2 ?_ | refine ⟨rfl, ?_⟩); ((conv=>whnf);repeat(refine Xg ?_;conv=>whnf)))
       rw [z2]
       ((conv=>whnf);repeat(refine Xg ?_;conv=>whnf))
       repeat ((first | refine setK_iff.2 ?_ | refine ⟨rfl, ?_⟩); ((conv=>whnf);repeat(refine Xg ?_;conv=>whnf)))
       refine ACalls.useR nngz [(0, 0)] hv1.glob rfl (.cons (.ptr 0 0 0 0 rfl) .nil) ⟨⟨0, _, rfl, rfl, .same (encTP_nn _)⟩, trivial⟩ rfl ?_
       rintro r m n ⟨rfl, rfl, rfl⟩
       refine ⟨[(0, tB0 S2)], nn, ⟨⟨0, _, rfl, rfl, .same (encTP_nn _)⟩, trivial⟩, rfl, ?_⟩
       ((conv=>whnf);repeat(refine Xg ?_;conv=>whnf))
       repeat ((first | refine setK_iff.2 ?_ | refine ⟨rfl, ?_⟩); ((conv=>whnf);repeat(refine Xg ?_;conv=>whnf)))
       rw [z3]
       ((conv=>whnf);repeat(refine Xg ?_;conv=>whnf))
       repeat ((first | refine setK_iff.2 ?_ | refine ⟨rfl, ?_⟩); ((conv=>whnf);repeat(refine Xg ?_;conv=>whnf)))
       exact .mk (i + 1) [(0, 0), (1, 1)] (by omega)
        (conv_mk _ rfl ⟨⟨0, _, rfl, rfl, .eq (encTP_nn _) (by rw [hS2])⟩, ⟨1, _, rfl, rfl, .eq (encTP_nn _) (by rw [hC2])⟩, trivial⟩ ⟨⟨_, rfl, .ptr 0 0 0 0 rfl⟩, ⟨_, rfl, .ptr 1 1 0 0 rfl⟩, ⟨_, rfl, .same _ (.il' (encBo_nn b))⟩, ⟨_, rfl, .same _ nn⟩, ⟨_, rfl, .w64 (by omega) ⟨by omega, by omega⟩⟩, trivial⟩) (by omega)
      ·rw [z1]
       ((conv=>whnf);repeat(refine Xg ?_;conv=>whnf))
       repeat ((first | refine setK_iff.2 ?_ | refine ⟨rfl, ?_⟩); ((conv=>whnf);repeat(refine Xg ?_;conv=>whnf)))
       refine ACalls.useR nngz [(1, 0)] hv2.glob rfl (.cons (.ptr 1 0 0 0 rfl) .nil) ⟨⟨1, _, rfl, rfl, .same (encTP_nn _)⟩, trivial⟩ rfl ?_
       rintro r m n ⟨rfl, rfl, rfl⟩
       refine ⟨[(1, tB0 C2)], nn, ⟨⟨0, _, rfl, rfl, .same (encTP_nn _)⟩, trivial⟩, rfl, ?_⟩
       ((conv=>whnf);repeat(refine Xg ?_;conv=>whnf))
       repeat ((first | refine setK_iff.2 ?_ | refine ⟨rfl, ?_⟩); ((conv=>whnf);repeat(refine Xg ?_;conv=>whnf)))
       rw [z2]
       ((conv=>whnf);repeat(refine Xg ?_;conv=>whnf))
       repeat ((first | refine setK_iff.2 ?_ | refine ⟨rfl, ?_⟩); ((conv=>whnf);repeat(refine Xg ?_;conv=>whnf)))
       exact .mk (i + 1) [(0, 0), (1, 1)] (by omega)
        (conv_mk _ rfl ⟨⟨0, _, rfl, rfl, .eq (encTP_nn _) (by rw [hS2])⟩, ⟨1, _, rfl, rfl, .eq (encTP_nn _) (by rw [hC2])⟩, trivial⟩ ⟨⟨_, rfl, .ptr 0 0 0 0 rfl⟩, ⟨_, rfl, .ptr 1 1 0 0 rfl⟩, ⟨_, rfl, .same _ (.il' (encBo_nn b))⟩, ⟨_, rfl, .same _ nn⟩, ⟨_, rfl, .w64 (by omega) ⟨by omega, by omega⟩⟩, trivial⟩) (by omega)
   ·generalize (twoT T b _ i).1 = S at *
    generalize (twoT T b _ i).2 = C at *
    ((conv=>whnf);repeat(refine Xg ?_;conv=>whnf))
    rw [hd, decide_eq_false hlt]
    ((conv=>whnf);repeat(refine Xg ?_;conv=>whnf))
    repeat ((first | refine setK_iff.2 ?_ | refine ⟨rfl, ?_⟩); ((conv=>whnf);repeat(refine Xg ?_;conv=>whnf)))
    refine PureC.use lives25 nngz .nil (tBo _) ?_
    ((conv=>whnf);repeat(refine Xg ?_;conv=>whnf))
    exact fin_pure (tBo _) ⟨rfl, rfl, rfl⟩
  ·rw [decide_eq_true hbz]
   ((conv=>whnf);repeat(refine Xg ?_;conv=>whnf))
   repeat ((first | refine setK_iff.2 ?_ | refine ⟨rfl, ?_⟩); ((conv=>whnf);repeat(refine Xg ?_;conv=>whnf)))
   have hbi : 1 ≤ ((encBo b).length : Int) := by rw [encBo_length]; omega
   have hbj : ((encBo b).length : Int) ≤ 20 := by rw [encBo_length]; omega
   refine ACalls.pre nngz [(0, 0), (2, 2), (4, 4)] (mem' := [(0, tB0 T), (2, tB0 T), (4, gB [at_] 0)]) rfl
    ⟨⟨0, _, rfl, rfl, .same (encTP_nn T)⟩, ⟨2, _, rfl, rfl, .same (encTP_nn T)⟩, ⟨4, _, rfl, rfl, .cons (.agg (.cons (.fz' (id := 3) (off := 0) (len := 1) (xs := encI [at_]) (ys := encI [at_]) rfl rfl (Nat.le_refl 1) rfl (encI_nn _)) (.cons (.same _ nn) .nil))) .nil⟩, trivial⟩
    (.cons (.ptr 4 4 0 0 rfl) (.cons (.same _ nn) .nil)) ?_
   refine ACalls.useR nngz [(4, 0)] (gNextV [at_] 0 ((encBo b).length : Int) (by omega) (by omega)).glob rfl (.cons (.ptr 4 0 0 0 rfl) (.cons (.same _ nn) .nil)) ⟨⟨4, _, rfl, rfl, .same (gNN _ _)⟩, trivial⟩ rfl ?_
   rintro r m n ⟨rfl, rfl⟩
   refine ⟨[(4, gB [at_] 1)], nn, ⟨⟨0, _, rfl, rfl, .same (gNN _ _)⟩, trivial⟩, rfl, ?_⟩
   generalize nextI [at_] 0 ((encBo b).length : Int) = k at *
   ((conv=>whnf);repeat(refine Xg ?_;conv=>whnf))
   repeat ((first | refine setK_iff.2 ?_ | refine ⟨rfl, ?_⟩); ((conv=>whnf);repeat(refine Xg ?_;conv=>whnf)))
   refine ALoop.at nngz (fun i : Nat => i ≤ b.length)
    (fun i => ⟨[(7, .ptr 0 0 0), (10, .ptr 1 0 0), (11, .il 1 (encBo b)), (12, .int .i64 k), (13, .int .i64 i)], [(0, tB0 (twoT T b k i).1), (1, tB0 (twoT T b k i).2)], 2, 141⟩)
    (fun i => b.length - i) 0 [(0, 0), (2, 1)] (by omega)
    (conv_mk _ rfl ⟨⟨0, _, rfl, rfl, .same (encTP_nn T)⟩, ⟨2, _, rfl, rfl, .same (encTP_nn T)⟩, trivial⟩ ⟨⟨_, rfl, .ptr 0 0 0 0 rfl⟩, ⟨_, rfl, .ptr 2 1 0 0 rfl⟩, ⟨_, rfl, .same _ (.il' (encBo_nn b))⟩, ⟨_, rfl, .same _ nn⟩, ⟨_, rfl, .same _ nn⟩, trivial⟩) ?_
   intro i hi
   have hd : decide ((i : Int) < ((encBo b).length : Int)) = decide (i < b.length) := by rw [encBo_length]; exact decide_eq_decide.2 (by omega)
   by_cases hlt : i < b.length
   ·obtain ⟨kt, kc, gr⟩ := two_in b k h0 g0 i (by omega)
    obtain ⟨kt2, kc2, gr2⟩ := two_in b k h0 g0 (i + 1) (by omega)
    have hg := encBo_get hlt
    have hst : (twoT T b k (i + 1)).1 = (feedT (twoT T b k i).1 (b.getD i false)).1 := rfl
    have hsc : (twoT T b k (i + 1)).2 = (feedT (twoT T b k i).2 (b.getD i false || ((i : Int) == k))).1 := rfl
    generalize hkk : ((i : Int) == k) = y at *
    generalize hS2 : (twoT T b k (i + 1)).1 = S2 at *
    generalize hC2 : (twoT T b k (i + 1)).2 = C2 at *
    generalize hS : (twoT T b k i).1 = S at *
    generalize hC : (twoT T b k i).2 = C at *
    generalize b.getD i false = x at *
    have herr := feed_err gr.ti (by omega) x
    have hup := fun e => grow_up gr.ti (by omega) e (gr.live e) gr.hit
    have hdn := fun e => grow_down gr.ti (by omega) e (gr.live e) gr.miss1
    have hdo := fun e : S.verdict ≠ 0 => feed_done e x
    have hbv := behind_verdicts gr2.beh
    have hfp := pFeed S x kt.tf
    have hfc := pFeed C (x || y) kc.tf
    rw [← hst] at hfp
    rw [← hsc] at hfc
    have hr0 := pRatio S
    have hr1 := pRatio S2
    have hcm := pCmpC S2.ratio S.ratio kt2.tf.ratio kt.tf.ratio
    have hsg := pSignC S.ratio kt.tf.ratio
    have hv0 := pVerdict S
    have hv1 := pVerdict S2
    have hv2 := pVerdict C2
    have hcase : (((S2.verdict : Int) == 1) = true ∧ (((C2.verdict : Int) != 1) = false ∧ ((C2.verdict : Int) == 2) = false)) ∨ (((S2.verdict : Int) == 1) = false ∧ ((C2.verdict : Int) == 2) = true ∧ ((S2.verdict : Int) != 2) = false) ∨ (((S2.verdict : Int) == 1) = false ∧ ((C2.verdict : Int) == 2) = false) := by
     obtain ⟨b1, b2⟩ := hbv
     by_cases e1 : S2.verdict = 1
     ·left; rw [e1, b1 e1]; exact ⟨rfl, rfl, rfl⟩
     ·right
      have f1 : ((S2.verdict : Int) == 1) = false := by rw [beq_eq_false_iff_ne]; omega
      by_cases e2 : C2.verdict = 2
      ·left; refine ⟨f1, ?_, ?_⟩
       ·rw [e2]; rfl
       ·rw [b2 e2]; rfl
      ·right; exact ⟨f1, by rw [beq_eq_false_iff_ne]; omega⟩
    have hop : ((S.verdict : Int) == 0) = (S.verdict == 0) := by
     by_cases e : S.verdict = 0
     ·rw [e]; rfl
     ·rw [beq_eq_false_iff_ne.2 e, beq_eq_false_iff_ne]; omega
    have hsgn : (S.verdict = 0 ∧ x = true ∧ 0 < cmpF S2.ratio S.ratio) ∨ (S.verdict = 0 ∧ x = false ∧ cmpF S2.ratio S.ratio < 0) ∨ (S.verdict ≠ 0 ∧ cmpF S2.ratio S.ratio = 0) := by
     by_cases e : S.verdict = 0
     ·cases hx : x with
      | true => left; refine ⟨e, rfl, ?_⟩; rw [hst, hx]; exact hup e
      | false => right; left; refine ⟨e, rfl, ?_⟩; rw [hst, hx]; exact hdn e
     ·right; right; refine ⟨e, ?_⟩; rw [hst, hdo e]; exact cmpF_self gr.ti.ratio.pos
    generalize (feedT S x).2.1 = V at *
    generalize (feedT S x).2.2 = E at *
    generalize (feedT C (x || y)).2.1 = V' at *
    generalize (feedT C (x || y)).2.2 = E' at *
    obtain ⟨pb, pl, pc, pm, -, -, q1⟩ := encP_ex S.ratio
    obtain ⟨rb, rl, rc, rm, -, -, q2⟩ := encP_ex S2.ratio
    rw [q1] at hr0 hsg
    rw [q2] at hr1
    rw [q1, q2] at hcm
    generalize cmpF S2.ratio S.ratio = sg at *
    generalize sgnF S.ratio = sn at *
    clear hst hsc hup hdn hdo hbv gr gr2
    ((conv=>whnf);repeat(refine Xg ?_;conv=>whnf))
    rw [hd, decide_eq_true hlt]
    ((conv=>whnf);repeat(refine Xg ?_;conv=>whnf))
    repeat ((first | refine setK_iff.2 ?_ | refine ⟨rfl, ?_⟩); ((conv=>whnf);repeat(refine Xg ?_;conv=>whnf)))
    refine ACalls.useR nngz [(0, 0)] hr0.glob rfl (.cons (.ptr 0 0 0 0 rfl) .nil) ⟨⟨0, _, rfl, rfl, .same (encTP_nn _)⟩, trivial⟩ rfl ?_
    rintro r m n ⟨rfl, rfl, rfl⟩
    refine ⟨[(0, tB0 S)], agP _ _ _ _, ⟨⟨0, _, rfl, rfl, .same (encTP_nn _)⟩, trivial⟩, rfl, ?_⟩
    ((conv=>whnf);repeat(refine Xg ?_;conv=>whnf))
    repeat ((first | refine setK_iff.2 ?_ | refine ⟨rfl, ?_⟩); ((conv=>whnf);repeat(refine Xg ?_;conv=>whnf)))
    refine ACalls.useR nngz [(0, 0)] hv0.glob rfl (.cons (.ptr 0 0 0 0 rfl) .nil) ⟨⟨0, _, rfl, rfl, .same (encTP_nn _)⟩, trivial⟩ rfl ?_
    rintro r m n ⟨rfl, rfl, rfl⟩
    refine ⟨[(0, tB0 S)], nn, ⟨⟨0, _, rfl, rfl, .same (encTP_nn _)⟩, trivial⟩, rfl, ?_⟩
    ((conv=>whnf);repeat(refine Xg ?_;conv=>whnf))
    repeat ((first | refine setK_iff.2 ?_ | refine ⟨rfl, ?_⟩); ((conv=>whnf);repeat(refine Xg ?_;conv=>whnf)))
    rw [hop]
    refine opt_mk hg ?_
    ((conv=>whnf);repeat(refine Xg ?_;conv=>whnf))
    repeat ((first | refine setK_iff.2 ?_ | refine ⟨rfl, ?_⟩); ((conv=>whnf);repeat(refine Xg ?_;conv=>whnf)))
    refine ACalls.useR nngz [(0, 0)] hfp.glob rfl (.cons (.ptr 0 0 0 0 rfl) (.same (.cons (tB _) .nil))) ⟨⟨0, _, rfl, rfl, .same (encTP_nn _)⟩, trivial⟩ rfl ?_
    rintro r m n ⟨rfl, rfl, rfl⟩
    refine ⟨[(0, tB0 S2)], .tup' (.cons nn (.cons nn .nil)), ⟨⟨0, _, rfl, rfl, .same (encTP_nn _)⟩, trivial⟩, rfl, ?_⟩
    ((conv=>whnf);repeat(refine Xg ?_;conv=>whnf))
    repeat ((first | refine setK_iff.2 ?_ | refine ⟨rfl, ?_⟩); ((conv=>whnf);repeat(refine Xg ?_;conv=>whnf)))
    rw [herr, neb]
    ((conv=>whnf);repeat(refine Xg ?_;conv=>whnf))
    repeat ((first | refine setK_iff.2 ?_ | refine ⟨rfl, ?_⟩); ((conv=>whnf);repeat(refine Xg ?_;conv=>whnf)))
    refine ACalls.useR nngz [(0, 0)] hr1.glob rfl (.cons (.ptr 0 0 0 0 rfl) .nil) ⟨⟨0, _, rfl, rfl, .same (encTP_nn _)⟩, trivial⟩ rfl ?_
    rintro r m n ⟨rfl, rfl, rfl⟩
    refine ⟨[(0, tB0 S2)], agP _ _ _ _, ⟨⟨0, _, rfl, rfl, .same (encTP_nn _)⟩, trivial⟩, rfl, ?_⟩
    ((conv=>whnf);repeat(refine Xg ?_;conv=>whnf))
    repeat ((first | refine setK_iff.2 ?_ | refine ⟨rfl, ?_⟩); ((conv=>whnf);repeat(refine Xg ?_;conv=>whnf)))
    refine hcm.goG ?_ (.cons (agP _ _ _ _) (.cons (agP _ _ _ _) .nil)) nn
    ((conv=>whnf);repeat(refine Xg ?_;conv=>whnf))
    repeat ((first | refine setK_iff.2 ?_ | refine ⟨rfl, ?_⟩); ((conv=>whnf);repeat(refine Xg ?_;conv=>whnf)))
    rcases hsgn with ⟨o1, rfl, o3⟩ | ⟨o1, rfl, o3⟩ | ⟨o1, o3⟩
    ·rw [show (S.verdict == 0) = true by rw [o1]; rfl]
     ((conv=>whnf);repeat(refine Xg ?_;conv=>whnf))
     repeat ((first | refine opt_mk hg ?_ | refine setK_iff.2 ?_ | refine ⟨rfl, ?_⟩); ((conv=>whnf);repeat(refine Xg ?_;conv=>whnf)))
     rw [decide_eq_false (show ¬ sg ≤ 0 by omega)]
     ((conv=>whnf);repeat(refine Xg ?_;conv=>whnf))
     repeat ((first | refine opt_mk hg ?_ | refine setK_iff.2 ?_ | refine ⟨rfl, ?_⟩); ((conv=>whnf);repeat(refine Xg ?_;conv=>whnf)))
     refine ACalls.useR nngz [(1, 0)] hfc.glob rfl (.cons (.ptr 1 0 0 0 rfl) (.same (.cons (tB _) .nil))) ⟨⟨1, _, rfl, rfl, .same (encTP_nn _)⟩, trivial⟩ rfl ?_
     rintro r m n ⟨rfl, rfl, rfl⟩
     refine ⟨[(1, tB0 C2)], .tup' (.cons nn (.cons nn .nil)), ⟨⟨0, _, rfl, rfl, .same (encTP_nn _)⟩, trivial⟩, rfl, ?_⟩
     ((conv=>whnf);repeat(refine Xg ?_;conv=>whnf))
     repeat ((first | refine setK_iff.2 ?_ | refine ⟨rfl, ?_⟩); ((conv=>whnf);repeat(refine Xg ?_;conv=>whnf)))
     refine ACalls.useR nngz [(0, 0)] hv1.glob rfl (.cons (.ptr 0 0 0 0 rfl) .nil) ⟨⟨0, _, rfl, rfl, .same (encTP_nn _)⟩, trivial⟩ rfl ?_
     rintro r m n ⟨rfl, rfl, rfl⟩
     refine ⟨[(0, tB0 S2)], nn, ⟨⟨0, _, rfl, rfl, .same (encTP_nn _)⟩, trivial⟩, rfl, ?_⟩
     ((conv=>whnf);repeat(refine Xg ?_;conv=>whnf))
     repeat ((first | refine setK_iff.2 ?_ | refine ⟨rfl, ?_⟩); ((conv=>whnf);repeat(refine Xg ?_;conv=>whnf)))
     rcases hcase with ⟨z1, z2⟩ | ⟨z1, z2, z3⟩ | ⟨z1, z2⟩
     ·have z3_ : ((C2.verdict : Int) == 2) = false := z2.2
      have z2 := z2.1
      rw [z1]
      ((conv=>whnf);repeat(refine Xg ?_;conv=>whnf))
      repeat ((first | refine setK_iff.2 ?_ | refine ⟨rfl, ?_⟩); ((conv=>whnf);repeat(refine Xg ?_;conv=>whnf)))
      refine ACalls.useR nngz [(1, 0)] hv2.glob rfl (.cons (.ptr 1 0 0 0 rfl) .nil) ⟨⟨1, _, rfl, rfl, .same (encTP_nn _)⟩, trivial⟩ rfl ?_
      rintro r m n ⟨rfl, rfl, rfl⟩
      refine ⟨[(1, tB0 C2)], nn, ⟨⟨0, _, rfl, rfl, .same (encTP_nn _)⟩, trivial⟩, rfl, ?_⟩
      ((conv=>whnf);repeat(refine Xg ?_;conv=>whnf))
      repeat ((first | refine setK_iff.2 ?_ | refine ⟨rfl, ?_⟩); ((conv=>whnf);repeat(refine Xg ?_;conv=>whnf)))
      rw [z2]
      ((conv=>whnf);repeat(refine Xg ?_;conv=>whnf))
      repeat ((first | refine setK_iff.2 ?_ | refine ⟨rfl, ?_⟩); ((conv=>whnf);repeat(refine Xg ?_;conv=>whnf)))
      refine ACalls.useR nngz [(1, 0)] hv2.glob rfl (.cons (.ptr 1 0 0 0 rfl) .nil) ⟨⟨1, _, rfl, rfl, .same (encTP_nn _)⟩, trivial⟩ rfl ?_
      rintro r m n ⟨rfl, rfl, rfl⟩
      refine ⟨[(1, tB0 C2)], nn, ⟨⟨0, _, rfl, rfl, .same (encTP_nn _)⟩, trivial⟩, rfl, ?_⟩
      ((conv=>whnf);repeat(refine Xg ?_;conv=>whnf))
      repeat ((first | refine setK_iff.2 ?_ | refine ⟨rfl, ?_⟩); ((conv=>whnf);repeat(refine Xg ?_;conv=>whnf)))
      rw [z3_]
      ((conv=>whnf);repeat(refine Xg ?_;conv=>whnf))
      repeat ((first | refine setK_iff.2 ?_ | refine ⟨rfl, ?_⟩); ((conv=>whnf);repeat(refine Xg ?_;conv=>whnf)))
      exact .mk (i + 1) [(0, 0), (1, 1)] (by omega)
       (conv_mk _ rfl ⟨⟨0, _, rfl, rfl, .eq (encTP_nn _) (by rw [hS2])⟩, ⟨1, _, rfl, rfl, .eq (encTP_nn _) (by rw [hC2])⟩, trivial⟩ ⟨⟨_, rfl, .ptr 0 0 0 0 rfl⟩, ⟨_, rfl, .ptr 1 1 0 0 rfl⟩, ⟨_, rfl, .same _ (.il' (encBo_nn b))⟩, ⟨_, rfl, .same _ nn⟩, ⟨_, rfl, .w64 (by omega) ⟨by omega, by omega⟩⟩, trivial⟩) (by omega)
     ·rw [z1]
      ((conv=>whnf);repeat(refine Xg ?_;conv=>whnf))
      repeat ((first | refine setK_iff.2 ?_ | refine ⟨rfl, ?_⟩); ((conv=>whnf);repeat(refine Xg ?_;conv=>whnf)))
      refine ACalls.useR nngz [(1, 0)] hv2.glob rfl (.cons (.ptr 1 0 0 0 rfl) .nil) ⟨⟨1, _, rfl, rfl, .same (encTP_nn _)⟩, trivial⟩ rfl ?_
      rintro r m n ⟨rfl, rfl, rfl⟩
      refine ⟨[(1, tB0 C2)], nn, ⟨⟨0, _, rfl, rfl, .same (encTP_nn _)⟩, trivial⟩, rfl, ?_⟩
      ((conv=>whnf);repeat(refine Xg ?_;conv=>whnf))
      repeat ((first | refine setK_iff.2 ?_ | refine ⟨rfl, ?_⟩); ((conv=>whnf);repeat(refine Xg ?_;conv=>whnf)))
      rw [z2]
      ((conv=>whnf);repeat(refine Xg ?_;conv=>whnf))
      repeat ((first | refine setK_iff.2 ?_ | refine ⟨rfl, ?_⟩); ((conv=>whnf);repeat(refine Xg ?_;conv=>whnf)))
      refine ACalls.useR nngz [(0, 0)] hv1.glob rfl (.cons (.ptr 0 0 0 0 rfl) .nil) ⟨⟨0, _, rfl, rfl, .same (encTP_nn _)⟩, trivial⟩ rfl ?_
      rintro r m n ⟨rfl, rfl, rfl⟩
      refine ⟨[(0, tB0 S2)], nn, ⟨⟨0, _, rfl, rfl, .same (encTP_nn _)⟩, trivial⟩, rfl, ?_⟩
      ((conv=>whnf);repeat(refine Xg ?_;conv=>whnf))
      repeat ((first | refine setK_iff.2 ?_ | refine ⟨rfl, ?_⟩); ((conv=>whnf);repeat(refine Xg ?_;conv=>whnf)))
      rw [z3]
      ((conv=>whnf);repeat(refine Xg ?_;conv=>whnf))
      repeat ((first | refine setK_iff.2 ?_ | refine ⟨rfl, ?_⟩); ((conv=>whnf);repeat(refine Xg ?_;conv=>whnf)))
      exact .mk (i + 1) [(0, 0), (1, 1)] (by omega)
       (conv_mk _ rfl ⟨⟨0, _, rfl, rfl, .eq (encTP_nn _) (by rw [hS2])⟩, ⟨1, _, rfl, rfl, .eq (encTP_nn _) (by rw [hC2])⟩, trivial⟩ ⟨⟨_, rfl, .ptr 0 0 0 0 rfl⟩, ⟨_, rfl, .ptr 1 1 0 0 rfl⟩, ⟨_, rfl, .same _ (.il' (encBo_nn b))⟩, ⟨_, rfl, .same _ nn⟩, ⟨_, rfl, .w64 (by omega) ⟨by omega, by omega⟩⟩, trivial⟩) (by omega)
     ·rw [z1]
      ((conv=>whnf);repeat(refine Xg ?_;conv=>whnf))
      repeat ((first | refine setK_iff.2 ?_ | refine ⟨rfl, ?_⟩); ((conv=>whnf);repeat(refine Xg ?_;conv=>whnf)))
      refine ACalls.useR nngz [(1, 0)] hv2.glob rfl (.cons (.ptr 1 0 0 0 rfl) .nil) ⟨⟨1, _, rfl, rfl, .same (encTP_nn _)⟩, trivial⟩ rfl ?_
      rintro r m n ⟨rfl, rfl, rfl⟩
      refine ⟨[(1, tB0 C2)], nn, ⟨⟨0, _, rfl, rfl, .same (encTP_nn _)⟩, trivial⟩, rfl, ?_⟩
      ((conv=>whnf);repeat(refine Xg ?_;conv=>whnf))
      repeat ((first | refine setK_iff.2 ?_ | refine ⟨rfl, ?_⟩); ((conv=>whnf);repeat(refine Xg ?_;conv=>whnf)))
      rw [z2]
      ((conv=>whnf);repeat(refine Xg ?_;conv=>whnf))
      repeat ((first | refine setK_iff.2 ?_ | refine ⟨rfl, ?_⟩); ((conv=>whnf);repeat(refine Xg ?_;conv=>whnf)))
      exact .mk (i + 1) [(0, 0), (1, 1)] (by omega)
       (conv_mk _ rfl ⟨⟨0, _, rfl, rfl, .eq (encTP_nn _) (by rw [hS2])⟩, ⟨1, _, rfl, rfl, .eq (encTP_nn _) (by rw [hC2])⟩, trivial⟩ ⟨⟨_, rfl, .ptr 0 0 0 0 rfl⟩, ⟨_, rfl, .ptr 1 1 0 0 rfl⟩, ⟨_, rfl, .same _ (.il' (encBo_nn b))⟩, ⟨_, rfl, .same _ nn⟩, ⟨_, rfl, .w64 (by omega) ⟨by omega, by omega⟩⟩, trivial⟩) (by omega)
    ·rw [show (S.verdict == 0) = true by rw [o1]; rfl]
     ((conv=>whnf);repeat(refine Xg ?_;conv=>whnf))
     repeat ((first | refine opt_mk hg ?_ | refine setK_iff.2 ?_ | refine ⟨rfl, ?_⟩); ((conv=>whnf);repeat(refine Xg ?_;conv=>whnf)))
     rw [decide_eq_false (show ¬ sg ≥ 0 by omega)]
     ((conv=>whnf);repeat(refine Xg ?_;conv=>whnf))
     repeat ((first | refine opt_mk hg ?_ | refine setK_iff.2 ?_ | refine ⟨rfl, ?_⟩); ((conv=>whnf);repeat(refine Xg ?_;conv=>whnf)))
     rw [hkk]
     refine ACalls.useR nngz [(1, 0)] hfc.glob rfl (.cons (.ptr 1 0 0 0 rfl) (.same (.cons (tB _) .nil))) ⟨⟨1, _, rfl, rfl, .same (encTP_nn _)⟩, trivial⟩ rfl ?_
     rintro r m n ⟨rfl, rfl, rfl⟩
     refine ⟨[(1, tB0 C2)], .tup' (.cons nn (.cons nn .nil)), ⟨⟨0, _, rfl, rfl, .same (encTP_nn _)⟩, trivial⟩, rfl, ?_⟩
     ((conv=>whnf);repeat(refine Xg ?_;conv=>whnf))
     repeat ((first | refine setK_iff.2 ?_ | refine ⟨rfl, ?_⟩); ((conv=>whnf);repeat(refine Xg ?_;conv=>whnf)))
     refine ACalls.useR nngz [(0, 0)] hv1.glob rfl (.cons (.ptr 0 0 0 0 rfl) .nil) ⟨⟨0, _, rfl, rfl, .same (encTP_nn _)⟩, trivial⟩ rfl ?_
     rintro r m n ⟨rfl, rfl, rfl⟩
     refine ⟨[(0, tB0 S2)], nn, ⟨⟨0, _, rfl, rfl, .same (encTP_nn _)⟩, trivial⟩, rfl, ?_⟩
     ((conv=>whnf);repeat(refine Xg ?_;conv=>whnf))
     repeat ((first | refine setK_iff.2 ?_ | refine ⟨rfl, ?_⟩); ((conv=>whnf);repeat(refine Xg ?_;conv=>whnf)))
     rcases hcase with ⟨z1, z2⟩ | ⟨z1, z2, z3⟩ | ⟨z1, z2⟩
     ·have z3_ : ((C2.verdict : Int) == 2) = false := z2.2
      have z2 := z2.1
      rw [z1]
      ((conv=>whnf);repeat(refine Xg ?_;conv=>whnf))
      repeat ((first | refine setK_iff.2 ?_ | refine ⟨rfl, ?_⟩); ((conv=>whnf);repeat(refine Xg ?_;conv=>whnf)))
      refine ACalls.useR nngz [(1, 0)] hv2.glob rfl (.cons (.ptr 1 0 0 0 rfl) .nil) ⟨⟨1, _, rfl, rfl, .same (encTP_nn _)⟩, trivial⟩ rfl ?_
      rintro r m n ⟨rfl, rfl, rfl⟩
      refine ⟨[(1, tB0 C2)], nn, ⟨⟨0, _, rfl, rfl, .same (encTP_nn _)⟩, trivial⟩, rfl, ?_⟩
      ((conv=>whnf);repeat(refine Xg ?_;conv=>whnf))
      repeat ((first | refine setK_iff.2 ?_ | refine ⟨rfl, ?_⟩); ((conv=>whnf);repeat(refine Xg ?_;conv=>whnf)))
      rw [z2]
      ((conv=>whnf);repeat(refine Xg ?_;conv=>whnf))
      repeat ((first | refine setK_iff.2 ?_ | refine ⟨rfl, ?_⟩); ((conv=>whnf);repeat(refine Xg ?_;conv=>whnf)))
      refine ACalls.useR nngz [(1, 0)] hv2.glob rfl (.cons (.ptr 1 0 0 0 rfl) .nil) ⟨⟨1, _, rfl, rfl, .same (encTP_nn _)⟩, trivial⟩ rfl ?_
      rintro r m n ⟨rfl, rfl, rfl⟩
      refine ⟨[(1, tB0 C2)], nn, ⟨⟨0, _, rfl, rfl, .same (encTP_nn _)⟩, trivial⟩, rfl, ?_⟩
      ((conv=>whnf);repeat(refine Xg ?_;conv=>whnf))
      repeat ((first | refine setK_iff.2 ?_ | refine ⟨rfl, ?_⟩); ((conv=>whnf);repeat(refine Xg ?_;conv=>whnf)))
      rw [z3_]
      ((conv=>whnf);repeat(refine Xg ?_;conv=>whnf))
      repeat ((first | refine setK_iff.2 ?_ | refine ⟨rfl, ?_⟩); ((conv=>whnf);repeat(refine Xg ?_;conv=>whnf)))
      exact .mk (i + 1) [(0, 0), (1, 1)] (by omega)
       (conv_mk _ rfl ⟨⟨0, _, rfl, rfl, .eq (encTP_nn _) (by rw [hS2])⟩, ⟨1, _, rfl, rfl, .eq (encTP_nn _) (by rw [hC2])⟩, trivial⟩ ⟨⟨_, rfl, .ptr 0 0 0 0 rfl⟩, ⟨_, rfl, .ptr 1 1 0 0 rfl⟩, ⟨_, rfl, .same _ (.il' (encBo_nn b))⟩, ⟨_, rfl, .same _ nn⟩, ⟨_, rfl, .w64 (by omega) ⟨by omega, by omega⟩⟩, trivial⟩) (by omega)
     ·rw [z1]
      ((conv=>whnf);repeat(refine Xg ?_;conv=>whnf))
      repeat ((first | refine setK_iff.2 ?_ | refine ⟨rfl, ?_⟩); ((conv=>whnf);repeat(refine Xg ?_;conv=>whnf)))
      refine ACalls.useR nngz [(1, 0)] hv2.glob rfl (.cons (.ptr 1 0 0 0 rfl) .nil) ⟨⟨1, _, rfl, rfl, .same (encTP_nn _)⟩, trivial⟩ rfl ?_
      rintro r m n ⟨rfl, rfl, rfl⟩
      refine ⟨[(1, tB0 C2)], nn, ⟨⟨0, _, rfl, rfl, .same (encTP_nn _)⟩, trivial⟩, rfl, ?_⟩
      ((conv=>whnf);repeat(refine Xg ?_;conv=>whnf))
      repeat ((first | refine setK_iff.2 ?_ | refine ⟨rfl, ?_⟩); ((conv=>whnf);repeat(refine Xg ?_;conv=>whnf)))
      rw [z2]
      ((conv=>whnf);repeat(refine Xg ?_;conv=>whnf))
      repeat ((first | refine setK_iff.2 ?_ | refine ⟨rfl, ?_⟩); ((conv=>whnf);repeat(refine Xg ?_;conv=>whnf)))
      refine ACalls.useR nngz [(0, 0)] hv1.glob rfl (.cons (.ptr 0 0 0 0 rfl) .nil) ⟨⟨0, _, rfl, rfl, .same (encTP_nn _)⟩, trivial⟩ rfl ?_
      rintro r m n ⟨rfl, rfl, rfl⟩
      refine ⟨[(0, tB0 S2)], nn, ⟨⟨0, _, rfl, rfl, .same (encTP_nn _)⟩, trivial⟩, rfl, ?_⟩
      ((conv=>whnf);repeat(refine Xg ?_;conv=>whnf))
      repeat ((first | refine setK_iff.2 ?_ | refine ⟨rfl, ?_⟩); ((conv=>whnf);repeat(refine Xg ?_;conv=>whnf)))
      rw [z3]
      ((conv=>whnf);repeat(refine Xg ?_;conv=>whnf))
      repeat ((first | refine setK_iff.2 ?_ | refine ⟨rfl, ?_⟩); ((conv=>whnf);repeat(refine Xg ?_;conv=>whnf)))
      exact .mk (i + 1) [(0, 0), (1, 1)] (by omega)
       (conv_mk _ rfl ⟨⟨0, _, rfl, rfl, .eq (encTP_nn _) (by rw [hS2])⟩, ⟨1, _, rfl, rfl, .eq (encTP_nn _) (by rw [hC2])⟩, trivial⟩ ⟨⟨_, rfl, .ptr 0 0 0 0 rfl⟩, ⟨_, rfl, .ptr 1 1 0 0 rfl⟩, ⟨_, rfl, .same _ (.il' (encBo_nn b))⟩, ⟨_, rfl, .same _ nn⟩, ⟨_, rfl, .w64 (by omega) ⟨by omega, by omega⟩⟩, trivial⟩) (by omega)
     ·rw [z1]
      ((conv=>whnf);repeat(refine Xg ?_;conv=>whnf))
      repeat ((first | refine setK_iff.2 ?_ | refine ⟨rfl, ?_⟩); ((conv=>whnf);repeat(refine Xg ?_;conv=>whnf)))
      refine ACalls.useR nngz [(1, 0)] hv2.glob rfl (.cons (.ptr 1 0 0 0 rfl) .nil) ⟨⟨1, _, rfl, rfl, .same (encTP_nn _)⟩, trivial⟩ rfl ?_
      rintro r m n ⟨rfl, rfl, rfl⟩
      refine ⟨[(1, tB0 C2)], nn, ⟨⟨0, _, rfl, rfl, .same (encTP_nn _)⟩, trivial⟩, rfl, ?_⟩
      ((conv=>whnf);repeat(refine Xg ?_;conv=>whnf))
      repeat ((first | refine setK_iff.2 ?_ | refine ⟨rfl, ?_⟩); ((conv=>whnf);repeat(refine Xg ?_;conv=>whnf)))
      rw [z2]
      ((conv=>whnf);repeat(refine Xg ?_;conv=>whnf))
      repeat ((first | refine setK_iff.2 ?_ | refine ⟨rfl, ?_⟩); ((conv=>whnf);repeat(refine Xg ?_;conv=>whnf)))
      exact .mk (i + 1) [(0, 0), (1, 1)] (by omega)
       (conv_mk _ rfl ⟨⟨0, _, rfl, rfl, .eq (encTP_nn _) (by rw [hS2])⟩, ⟨1, _, rfl, rfl, .eq (encTP_nn _) (by rw [hC2])⟩, trivial⟩ ⟨⟨_, rfl, .ptr 0 0 0 0 rfl⟩, ⟨_, rfl, .ptr 1 1 0 0 rfl⟩, ⟨_, rfl, .same _ (.il' (encBo_nn b))⟩, ⟨_, rfl, .same _ nn⟩, ⟨_, rfl, .w64 (by omega) ⟨by omega, by omega⟩⟩, trivial⟩) (by omega)
    ·rw [show (S.verdict == 0) = false from beq_eq_false_iff_ne.2 o1]
     ((conv=>whnf);repeat(refine Xg ?_;conv=>whnf))
     repeat ((first | refine opt_mk hg ?_ | refine setK_iff.2 ?_ | refine ⟨rfl, ?_⟩); ((conv=>whnf);repeat(refine Xg ?_;conv=>whnf)))
     rw [show (sg != 0) = false by rw [o3]; rfl]
     ((conv=>whnf);repeat(refine Xg ?_;conv=>whnf))
     repeat ((first | refine opt_mk hg ?_ | refine setK_iff.2 ?_ | refine ⟨rfl, ?_⟩); ((conv=>whnf);repeat(refine Xg ?_;conv=>whnf)))
     cases x with
     | true =>
      ((conv=>whnf);repeat(refine Xg ?_;conv=>whnf))
      repeat ((first | refine opt_mk hg ?_ | refine setK_iff.2 ?_ | refine ⟨rfl, ?_⟩); ((conv=>whnf);repeat(refine Xg ?_;conv=>whnf)))
      refine ACalls.useR nngz [(1, 0)] hfc.glob rfl (.cons (.ptr 1 0 0 0 rfl) (.same (.cons (tB _) .nil))) ⟨⟨1, _, rfl, rfl, .same (encTP_nn _)⟩, trivial⟩ rfl ?_
      rintro r m n ⟨rfl, rfl, rfl⟩
      refine ⟨[(1, tB0 C2)], .tup' (.cons nn (.cons nn .nil)), ⟨⟨0, _, rfl, rfl, .same (encTP_nn _)⟩, trivial⟩, rfl, ?_⟩
      ((conv=>whnf);repeat(refine Xg ?_;conv=>whnf))
      repeat ((first | refine setK_iff.2 ?_ | refine ⟨rfl, ?_⟩); ((conv=>whnf);repeat(refine Xg ?_;conv=>whnf)))
      refine ACalls.useR nngz [(0, 0)] hv1.glob rfl (.cons (.ptr 0 0 0 0 rfl) .nil) ⟨⟨0, _, rfl, rfl, .same (encTP_nn _)⟩, trivial⟩ rfl ?_
      rintro r m n ⟨rfl, rfl, rfl⟩
      refine ⟨[(0, tB0 S2)], nn, ⟨⟨0, _, rfl, rfl, .same (encTP_nn _)⟩, trivial⟩, rfl, ?_⟩
      ((conv=>whnf);repeat(refine Xg ?_;conv=>whnf))
      repeat ((first | refine setK_iff.2 ?_ | refine ⟨rfl, ?_⟩); ((conv=>whnf);repeat(refine Xg ?_;conv=>whnf)))
      rcases hcase with ⟨z1, z2⟩ | ⟨z1, z2, z3⟩ | ⟨z1, z2⟩
      ·have z3_ : ((C2.verdict : Int) == 2) = false := z2.2
       have z2 := z2.1
       rw [z1]
       ((conv=>whnf);repeat(refine Xg ?_;conv=>whnf))
       repeat ((first | refine setK_iff.2 ?_ | refine ⟨rfl, ?_⟩); ((conv=>whnf);repeat(refine Xg ?_;conv=>whnf)))
       refine ACalls.useR nngz [(1, 0)] hv2.glob rfl (.cons (.ptr 1 0 0 0 rfl) .nil) ⟨⟨1, _, rfl, rfl, .same (encTP_nn _)⟩, trivial⟩ rfl ?_
       rintro r m n ⟨rfl, rfl, rfl⟩
       refine ⟨[(1, tB0 C2)], nn, ⟨⟨0, _, rfl, rfl, .same (encTP_nn _)⟩, trivial⟩, rfl, ?_⟩
       ((conv=>whnf);repeat(refine Xg ?_;conv=>whnf))
       repeat ((first | refine setK_iff.2 ?_ | refine ⟨rfl, ?_⟩); ((conv=>whnf);repeat(refine Xg ?_;conv=>whnf)))
       rw [z2]
       ((conv=>whnf);repeat(refine Xg ?_;conv=>whnf))
       repeat ((first | refine setK_iff.2 ?_ | refine ⟨rfl, ?_⟩); ((conv=>whnf);repeat(refine Xg ?_;conv=>whnf)))
       refine ACalls.useR nngz [(1, 0)] hv2.glob rfl (.cons (.ptr 1 0 0 0 rfl) .nil) ⟨⟨1, _, rfl, rfl, .same (encTP_nn _)⟩, trivial⟩ rfl ?_
       rintro r m n ⟨rfl, rfl, rfl⟩
       refine ⟨[(1, tB0 C2)], nn, ⟨⟨0, _, rfl, rfl, .same (encTP_nn _)⟩, trivial⟩, rfl, ?_⟩
       ((conv=>whnf);repeat(refine Xg ?_;conv=>whnf))
       repeat ((first | refine setK_iff.2 ?_ | refine ⟨rfl, ?_⟩); ((conv=>whnf);repeat(refine Xg ?_;conv=>whnf)))
       rw [z3_]
       ((conv=>whnf);repeat(refine Xg ?_;conv=>whnf))
       repeat ((first | refine setK_iff.2 ?_ | refine ⟨rfl, ?_⟩); ((conv=>whnf);repeat(refine Xg ?_;conv=>whnf)))
       exact .mk (i + 1) [(0, 0), (1, 1)] (by omega)
        (conv_mk _ rfl ⟨⟨0, _, rfl, rfl, .eq (encTP_nn _) (by rw [hS2])⟩, ⟨1, _, rfl, rfl, .eq (encTP_nn _) (by rw [hC2])⟩, trivial⟩ ⟨⟨_, rfl, .ptr 0 0 0 0 rfl⟩, ⟨_, rfl, .ptr 1 1 0 0 rfl⟩, ⟨_, rfl, .same _ (.il' (encBo_nn b))⟩, ⟨_, rfl, .same _ nn⟩, ⟨_, rfl, .w64 (by omega) ⟨by omega, by omega⟩⟩, trivial⟩) (by omega)
      ·rw [z1]
       ((conv=>whnf);repeat(refine Xg ?_;conv=>whnf))
       repeat ((first | refine setK_iff.2 ?_ | refine ⟨rfl, ?_⟩); ((conv=>whnf);repeat(refine Xg ?_;conv=>whnf)))
       refine ACalls.useR nngz [(1, 0)] hv2.glob rfl (.cons (.ptr 1 0 0 0 rfl) .nil) ⟨⟨1, _, rfl, rfl, .same (encTP_nn _)⟩, trivial⟩ rfl ?_
       rintro r m n ⟨rfl, rfl, rfl⟩
       refine ⟨[(1, tB0 C2)], nn, ⟨⟨0, _, rfl, rfl, .same (encTP_nn _)⟩, trivial⟩, rfl, ?_⟩
       ((conv=>whnf);repeat(refine Xg ?_;conv=>whnf))
       repeat ((first | refine setK_iff.2 ?_ | refine ⟨rfl, ?_⟩); ((conv=>whnf);repeat(refine Xg ?_;conv=>whnf)))
       rw [z2]
       ((conv=>whnf);repeat(refine Xg ?_;conv=>whnf))
       repeat ((first | refine setK_iff.2 ?_ | refine ⟨rfl, ?_⟩); ((conv=>whnf);repeat(refine Xg ?_;conv=>whnf)))
       refine ACalls.useR nngz [(0, 0)] hv1.glob rfl (.cons (.ptr 0 0 0 0 rfl) .nil) ⟨⟨0, _, rfl, rfl, .same (encTP_nn _)⟩, trivial⟩ rfl ?_
       rintro r m n ⟨rfl, rfl, rfl⟩
       refine ⟨[(0, tB0 S2)], nn, ⟨⟨0, _, rfl, rfl, .same (encTP_nn _)⟩, trivial⟩, rfl, ?_⟩
       ((conv=>whnf);repeat(refine Xg ?_;conv=>whnf))
       repeat ((first | refine setK_iff.2 ?_ | refine ⟨rfl, ?_⟩); ((conv=>whnf);repeat(refine Xg ?_;conv=>whnf)))
       rw [z3]
       ((conv=>whnf);repeat(refine Xg ?_;conv=>whnf))
       repeat ((first | refine setK_iff.2 ?_ | refine ⟨rfl, ?_⟩); ((conv=>whnf);repeat(refine Xg ?_;conv=>whnf)))
       exact .mk (i + 1) [(0, 0), (1, 1)] (by omega)
        (conv_mk _ rfl ⟨⟨0, _, rfl, rfl, .eq (encTP_nn _) (by rw [hS2])⟩, ⟨1, _, rfl, rfl, .eq (encTP_nn _) (by rw [hC2])⟩, trivial⟩ ⟨⟨_, rfl, .ptr 0 0 0 0 rfl⟩, ⟨_, rfl, .ptr 1 1 0 0 rfl⟩, ⟨_, rfl, .same _ (.il' (encBo_nn b))⟩, ⟨_, rfl, .same _ nn⟩, ⟨_, rfl, .w64 (by omega) ⟨by omega, by omega⟩⟩, trivial⟩) (by omega)
      ·rw [z1]
       ((conv=>whnf);repeat(refine Xg ?_;conv=>whnf))
       repeat ((first | refine setK_iff.2 ?_ | refine ⟨rfl, ?_⟩); ((conv=>whnf);repeat(refine Xg ?_;conv=>whnf)))
       refine ACalls.useR nngz [(1, 0)] hv2.glob rfl (.cons (.ptr 1 0 0 0 rfl) .nil) ⟨⟨1, _, rfl, rfl, .same (encTP_nn _)⟩, trivial⟩ rfl ?_
       rintro r m n ⟨rfl, rfl, rfl⟩
       refine ⟨[(1, tB0 C2)], nn, ⟨⟨0, _, rfl, rfl, .same (encTP_nn _)⟩, trivial⟩, rfl, ?_⟩
       ((conv=>whnf);repeat(refine Xg ?_;conv=>whnf))
       repeat ((first | refine setK_iff.2 ?_ | refine ⟨rfl, ?_⟩); ((conv=>whnf);repeat(refine Xg ?_;conv=>whnf)))
       rw [z2]
       ((conv=>whnf);repeat(refine Xg ?_;conv=>whnf))
       repeat ((first | refine setK_iff.2 ?_ | refine ⟨rfl, ?_⟩); ((conv=>whnf);repeat(refine Xg ?_;conv=>whnf)))
       exact .mk (i + 1) [(0, 0), (1, 1)] (by omega)
        (conv_mk _ rfl ⟨⟨0, _, rfl, rfl, .eq (encTP_nn _) (by rw [hS2])⟩, ⟨1, _, rfl, rfl, .eq (encTP_nn _) (by rw [hC2])⟩, trivial⟩ ⟨⟨_, rfl, .ptr 0 0 0 0 rfl⟩, ⟨_, rfl, .ptr 1 1 0 0 rfl⟩, ⟨_, rfl, .same _ (.il' (encBo_nn b))⟩, ⟨_, rfl, .same _ nn⟩, ⟨_, rfl, .w64 (by omega) ⟨by omega, by omega⟩⟩, trivial⟩) (by omega)
     | false =>
      ((conv=>whnf);repeat(refine Xg ?_;conv=>whnf))
      repeat ((first | refine opt_mk hg ?_ | refine setK_iff.2 ?_ | refine ⟨rfl, ?_⟩); ((conv=>whnf);repeat(refine Xg ?_;conv=>whnf)))
      rw [hkk]
      refine ACalls.useR nngz [(1, 0)] hfc.glob rfl (.cons (.ptr 1 0 0 0 rfl) (.same (.cons (tB _) .nil))) ⟨⟨1, _, rfl, rfl, .same (encTP_nn _)⟩, trivial⟩ rfl ?_
      rintro r m n ⟨rfl, rfl, rfl⟩
      refine ⟨[(1, tB0 C2)], .tup' (.cons nn (.cons nn .nil)), ⟨⟨0, _, rfl, rfl, .same (encTP_nn _)⟩, trivial⟩, rfl, ?_⟩
      ((conv=>whnf);repeat(refine Xg ?_;conv=>whnf))
      repeat ((first | refine setK_iff.2 ?_ | refine ⟨rfl, ?_⟩); ((conv=>whnf);repeat(refine Xg ?_;conv=>whnf)))
      refine ACalls.useR nngz [(0, 0)] hv1.glob rfl (.cons (.ptr 0 0 0 0 rfl) .nil) ⟨⟨0, _, rfl, rfl, .same (encTP_nn _)⟩, trivial⟩ rfl ?_
      rintro r m n ⟨rfl, rfl, rfl⟩
      refine ⟨[(0, tB0 S2)], nn, ⟨⟨0, _, rfl, rfl, .same (encTP_nn _)⟩, trivial⟩, rfl, ?_⟩
      ((conv=>whnf);repeat(refine Xg ?_;conv=>whnf))
      repeat ((first | refine setK_iff.2 ?_ | refine ⟨rfl, ?_⟩); ((conv=>whnf);repeat(refine Xg ?_;conv=>whnf)))
      rcases hcase with ⟨z1, z2⟩ | ⟨z1, z2, z3⟩ | ⟨z1, z2⟩
      ·have z3_ : ((C2.verdict : Int) == 2) = false := z2.2
       have z2 := z2.1
       rw [z1]
       ((conv=>whnf);repeat(refine Xg ?_;conv=>whnf))
       repeat ((first | refine setK_iff.2 ?_ | refine ⟨rfl, ?_⟩); ((conv=>whnf);repeat(refine Xg ?_;conv=>whnf)))
       refine ACalls.useR nngz [(1, 0)] hv2.glob rfl (.cons (.ptr 1 0 0 0 rfl) .nil) ⟨⟨1, _, rfl, rfl, .same (encTP_nn _)⟩, trivial⟩ rfl ?_
       rintro r m n ⟨rfl, rfl, rfl⟩
       refine ⟨[(1, tB0 C2)], nn, ⟨⟨0, _, rfl, rfl, .same (encTP_nn _)⟩, trivial⟩, rfl, ?_⟩
       ((conv=>whnf);repeat(refine Xg ?_;conv=>whnf))
       repeat ((first | refine setK_iff.2 ?_ | refine ⟨rfl, ?_⟩); ((conv=>whnf);repeat(refine Xg ?_;conv=>whnf)))
       rw [z2]
       ((conv=>whnf);repeat(refine Xg ?_;conv=>whnf))
       repeat ((first | refine setK_iff.2 ?_ | refine ⟨rfl, ?_⟩); ((conv=>whnf);repeat(refine Xg ?_;conv=>whnf)))
       refine ACalls.useR nngz [(1, 0)] hv2.glob rfl (.cons (.ptr 1 0 0 0 rfl) .nil) ⟨⟨1, _, rfl, rfl, .same (encTP_nn _)⟩, trivial⟩ rfl ?_
       rintro r m n ⟨rfl, rfl, rfl⟩
       refine ⟨[(1, tB0 C2)], nn, ⟨⟨0, _, rfl, rfl, .same (encTP_nn _)⟩, trivial⟩, rfl, ?_⟩
       ((conv=>whnf);repeat(refine Xg ?_;conv=>whnf))
       repeat ((first | refine setK_iff.2 ?_ | refine ⟨rfl, ?_⟩); ((conv=>whnf);repeat(refine Xg ?_;conv=>whnf)))
       rw [z3_]
       ((conv=>whnf);repeat(refine Xg ?_;conv=>whnf))
       repeat ((first | refine setK_iff.2 ?_ | refine ⟨rfl, ?_⟩); ((conv=>whnf);repeat(refine Xg ?_;conv=>whnf)))
       exact .mk (i + 1) [(0, 0), (1, 1)] (by omega)
        (conv_mk _ rfl ⟨⟨0, _, rfl, rfl, .eq (encTP_nn _) (by rw [hS2])⟩, ⟨1, _, rfl, rfl, .eq (encTP_nn _) (by rw [hC2])⟩, trivial⟩ ⟨⟨_, rfl, .ptr 0 0 0 0 rfl⟩, ⟨_, rfl, .ptr 1 1 0 0 rfl⟩, ⟨_, rfl, .same _ (.il' (encBo_nn b))⟩, ⟨_, rfl, .same _ nn⟩, ⟨_, rfl, .w64 (by omega) ⟨by omega, by omega⟩⟩, trivial⟩) (by omega)
      ·rw [z1]
       ((conv=>whnf);repeat(refine Xg ?_;conv=>whnf))
       repeat ((first | refine setK_iff.2 ?_ | refine ⟨rfl, ?_⟩); ((conv=>whnf);repeat(refine Xg ?_;conv=>whnf)))
       refine ACalls.useR nngz [(1, 0)] hv2.glob rfl (.cons (.ptr 1 0 0 0 rfl) .nil) ⟨⟨1, _, rfl, rfl, .same (encTP_nn _)⟩, trivial⟩ rfl ?_
       rintro r m n ⟨rfl, rfl, rfl⟩
       refine ⟨[(1, tB0 C2)], nn, ⟨⟨0, _, rfl, rfl, .same (encTP_nn _)⟩, trivial⟩, rfl, ?_⟩
       ((conv=>whnf);repeat(refine Xg ?_;conv=>whnf))
       repeat ((first | refine setK_iff.2 ?_ | refine ⟨rfl, ?_⟩); ((conv=>whnf);repeat(refine Xg ?_;conv=>whnf)))
       rw [z2]
       ((conv=>whnf);repeat(refine Xg ?_;conv=>whnf))
       repeat ((first | refine setK_iff.2 ?_ | refine ⟨rfl, ?_⟩); ((conv=>whnf);repeat(refine Xg ?_;conv=>whnf)))
       refine ACalls.useR nngz [(0, 0)] hv1.glob rfl (.cons (.ptr 0 0 0 0 rfl) .nil) ⟨⟨0, _, rfl, rfl, .same (encTP_nn _)⟩, trivial⟩ rfl ?_
       rintro r m n ⟨rfl, rfl, rfl⟩
       refine ⟨[(0, tB0 S2)], nn, ⟨⟨0, _, rfl, rfl, .same (encTP_nn _)⟩, trivial⟩, rfl, ?_⟩
       ((conv=>whnf);repeat(refine Xg ?_;conv=>whnf))
       repeat ((first | refine setK_iff.2 ?_ | refine ⟨rfl, ?_⟩); ((conv=>whnf);repeat(refine Xg ?_;conv=>whnf)))
       rw [z3]
       ((conv=>whnf);repeat(refine Xg ?_;conv=>whnf))
       repeat ((first | refine setK_iff.2 ?_ | refine ⟨rfl, ?_⟩); ((conv=>whnf);repeat(refine Xg ?_;conv=>whnf)))
       exact .mk (i + 1) [(0, 0), (1, 1)] (by omega)
        (conv_mk _ rfl ⟨⟨0, _, rfl, rfl, .eq (encTP_nn _) (by rw [hS2])⟩, ⟨1, _, rfl, rfl, .eq (encTP_nn _) (by rw [hC2])⟩, trivial⟩ ⟨⟨_, rfl, .ptr 0 0 0 0 rfl⟩, ⟨_, rfl, .ptr 1 1 0 0 rfl⟩, ⟨_, rfl, .same _ (.il' (encBo_nn b))⟩, ⟨_, rfl, .same _ nn⟩, ⟨_, rfl, .w64 (by omega) ⟨by omega, by omega⟩⟩, trivial⟩) (by omega)
      ·rw [z1]
       ((conv=>whnf);repeat(refine Xg ?_;conv=>whnf))
       repeat ((first | refine setK_iff.2 ?_ | refine ⟨rfl, ?_⟩); ((conv=>whnf);repeat(refine Xg ?_;conv=>whnf)))
       refine ACalls.useR nngz [(1, 0)] hv2.glob rfl (.cons (.ptr 1 0 0 0 rfl) .nil) ⟨⟨1, _, rfl, rfl, .same (encTP_nn _)⟩, trivial⟩ rfl ?_
       rintro r m n ⟨rfl, rfl, rfl⟩
       refine ⟨[(1, tB0 C2)], nn, ⟨⟨0, _, rfl, rfl, .same (encTP_nn _)⟩, trivial⟩, rfl, ?_⟩
       ((conv=>whnf);repeat(refine Xg ?_;conv=>whnf))
       repeat ((first | refine setK_iff.2 ?_ | refine ⟨rfl, ?_⟩); ((conv=>whnf);repeat(refine Xg ?_;conv=>whnf)))
       rw [z2]
       ((conv=>whnf);repeat(refine Xg ?_;conv=>whnf))
       repeat ((first | refine setK_iff.2 ?_ | refine ⟨rfl, ?_⟩); ((conv=>whnf);repeat(refine Xg ?_;conv=>whnf)))
       exact .mk (i + 1) [(0, 0), (1, 1)] (by omega)
        (conv_mk _ rfl ⟨⟨0, _, rfl, rfl, .eq (encTP_nn _) (by rw [hS2])⟩, ⟨1, _, rfl, rfl, .eq (encTP_nn _) (by rw [hC2])⟩, trivial⟩ ⟨⟨_, rfl, .ptr 0 0 0 0 rfl⟩, ⟨_, rfl, .ptr 1 1 0 0 rfl⟩, ⟨_, rfl, .same _ (.il' (encBo_nn b))⟩, ⟨_, rfl, .same _ nn⟩, ⟨_, rfl, .w64 (by omega) ⟨by omega, by omega⟩⟩, trivial⟩) (by omega)
   ·generalize (twoT T b _ i).1 = S at *
    generalize (twoT T b _ i).2 = C at *
    ((conv=>whnf);repeat(refine Xg ?_;conv=>whnf))
    rw [hd, decide_eq_false hlt]
    ((conv=>whnf);repeat(refine Xg ?_;conv=>whnf))
    repeat ((first | refine setK_iff.2 ?_ | refine ⟨rfl, ?_⟩); ((conv=>whnf);repeat(refine Xg ?_;conv=>whnf)))
    refine PureC.use lives25 nngz .nil (tBo _) ?_
    ((conv=>whnf);repeat(refine Xg ?_;conv=>whnf))
    exact fin_pure (tBo _) ⟨rfl, rfl, rfl⟩
end Go.Proofs.YtbannipihdlofaaGreatDoor
namespace Go.Proofs.YtbannipihdlofaaGreatDoor.ClaimsGrows
open Go.ChangeShapes Go.WideShapes Go.ChangeAt Go.RowKit Go.Lib Go.Ax
theorem own : ownKnob Tryz.prog.godebug = none := by kernel_rfl
theorem laidOut : laidOutB Tryz.prog = true := by kernel_rfl
theorem cells3 : Tryz.prog.cellsOf 3 = 1 := by kernel_rfl
theorem gName : Tryz.prog.globalNamed "strconv.ErrSyntax" = some 0 := by kernel_rfl
theorem gNameR : Tryz.prog.globalNamed "strconv.ErrRange" = some 1 := by kernel_rfl
theorem gNameP : Tryz.prog.globalNamed "internal/strconv.uint64pow10" = some 2 := by kernel_rfl
theorem gType : (Tryz.prog.globals[0]?).map (·.type) = some 123 := by kernel_rfl
theorem gTypeR : (Tryz.prog.globals[1]?).map (·.type) = some 123 := by kernel_rfl
theorem gTypeP : (Tryz.prog.globals[2]?).map (·.type) = some 187 := by kernel_rfl
theorem star : "*" ++ "errors.errorString" = "*errors.errorString" := by decide
theorem named (u : TypeId) (h : Tryz.prog.typeName? 3 u = some "*errors.errorString") : u = 192 :=
 typeName_ptr_named (nm := "errors.errorString") (by rw [star]; kernel_rfl) (by kernel_rfl) (by decide) u (by rw [star]; exact h)
theorem cellsE : Tryz.prog.cellsOf 194 = 1 := by kernel_rfl
theorem cellsS : Tryz.prog.cellsOf 9 = 1 := by kernel_rfl
theorem cellsU : Tryz.prog.cellsOf 108 = 1 := by kernel_rfl
theorem cellsP : Tryz.prog.cellsOf 187 = 20 := by kernel_rfl
def pows : List Int := [1, 10, 100, 1000, 10000, 100000, 1000000, 10000000, 100000000, 1000000000, 10000000000, 100000000000, 1000000000000, 10000000000000, 100000000000000, 1000000000000000, 10000000000000000, 100000000000000000, 1000000000000000000, 10000000000000000000]
theorem vars {W : World} (h : laidMetH Tryz.prog Rows.claimsGrowsRow.laid W) : ∀ p ∈ gz, VR (fun _ => ⟨0, 0, 0⟩) (fun _ => False) (OX (fun _ => False) (fun _ => ⟨0, 0, 0⟩) []) W (.ip p.2) (.pointer (some ⟨p.1, 0, none⟩)) := by
 have h : laidMet Tryz.prog Rows.claimsGrowsRow.laid W := h
 have h4 := h.tail.tail.tail.tail
 obtain ⟨a, s, hv, hc, hs, hz⟩ := laid_sentinel (tp := 192) (te := 194) (ts := 9) h4 gName gType Tryz.underlying123 named Tryz.underlying192 Tryz.underlying194 rfl rfl Tryz.underlying9 cellsE cellsS
 have hsp := laid_spot h4 gName hv Tryz.underlying192
 have h3 := h.tail.tail.tail
 obtain ⟨a', s', hv', hc', hs', hz'⟩ := laid_sentinel (tp := 192) (te := 194) (ts := 9) h3 gNameR gTypeR Tryz.underlying123 named Tryz.underlying192 Tryz.underlying194 rfl rfl Tryz.underlying9 cellsE cellsS
 have hsp' := laid_spot h3 gNameR hv' Tryz.underlying192
 have h2 := h.tail.tail
 have htab := tabIs_of_head (k := .u64) (zs := pows) gNameP gTypeP Tryz.underlying187 Tryz.underlying108 cellsU cellsP h2
 intro p hp
 simp only [gz, List.mem_cons, List.not_mem_nil, or_false] at hp
 rcases hp with rfl | rfl | rfl
 ·exact vr_iface_var gName hv hsp
 ·exact vr_iface_var gNameR hv' hsp'
 ·exact vr_tab_var gNameP htab
set_option maxRecDepth 100000 in
theorem contract (H : Type) (enc : TypeId × Value → H) (W : World) (base : Nat) (args : Array Value) (ds gs : List (DataW H)) (before : List MemPlace)
  (hval : ∀ (j : Nat) t v, Tryz.f6.params[j]? = some t → args[j]? = some v → Value.okWide Tryz.prog W .any base t v)
  (hW : DataW.Whole enc Tryz.prog Tryz.f6.params.toList Rows.claimsGrowsSpec.vars false W args.toList ds gs before) (hL : laidMetH Tryz.prog Rows.claimsGrowsRow.laid W) :
  Calls Tryz.prog 6 args W fun e W' => ∃ v, e = .returned v ∧ Rows.claimsGrowsSpec.post enc Tryz.prog Tryz.f6 false true false false W args v W' := by
 have hW' := hW
 obtain ⟨p, q, hA0, hV, rfl, hfz, hnd⟩ := hW
 have hA : DataW.TrodAll enc Tryz.prog W 0 (fun _ => true) true Tryz.f6.params.toList args.toList ds p := hA0
 rw [Tryz.params6] at hA hval
 obtain ⟨v0, vs0, d0, ds0, p0, q0, hargs, rfl, rfl, h0, r0⟩ := trodAll_cons hA
 obtain ⟨v1, vs1, d1, ds1, p1, q1, rfl, rfl, rfl, h1, r1⟩ := trodAll_cons r0
 obtain ⟨v2, vs2, d2, ds2, p2, q2, rfl, rfl, rfl, h2, r2⟩ := trodAll_cons r1
 obtain ⟨rfl, rfl, rfl⟩ := trodAll_nil r2
 obtain rfl : args = #[v0, v1, v2] := by cases args; simp_all
 obtain ⟨rfl, rfl⟩ := trodVars_none hV
 have h0k := h0
 obtain ⟨x0, b0, e0⟩ := vr_ints_of Tryz.underlying22 Tryz.underlying3 cells3 (hval 0 22 v0 rfl rfl) h0
 have h1k := h1
 obtain ⟨x1, b1, e1⟩ := vr_ints_of Tryz.underlying22 Tryz.underlying3 cells3 (hval 1 22 v1 rfl rfl) h1
 have h2k := h2
 obtain ⟨x2, rfl, rfl, rfl, hwf2⟩ := open_int Tryz.underlying3 (hval 2 3 v2 rfl rfl) h2
 have b2 : i64 x2 := by
  have e1 : IntKind.i64.min = -9223372036854775808 := rfl
  have e2 : IntKind.i64.max = 9223372036854775807 := rfl
  simp [Lit.wf, e1, e2] at hwf2
  unfold i64
  omega
 clear hA0
 refine ((lawGrowsW x0 x1 x2 b0 b1 b2).callsG W [v0, v1, .int .i64 x2] (vars hL) (.cons e0 (.cons e1 (.cons (.int _ _) .nil)))).mono ?_
 rintro e W' ⟨rfl, hk⟩
 refine ⟨_, rfl, _, _, _, [], p0 ++ (p1 ++ ([] ++ [])), [], hW', ?_, ?_, ?_, hk.frame _, fun h => by cases h⟩
 ·exact trodAll_cons_mk (shut_bool Tryz.underlying4 _) trodAll_mk0
 ·exact trodAll_cons_mk (Kept.trod laidOut (by kernel_rfl) (of_decide_eq_true (by kernel_rfl)) h0k hk) (trodAll_cons_mk (Kept.trod laidOut (by kernel_rfl) (of_decide_eq_true (by kernel_rfl)) h1k hk) (trodAll_cons_mk (Kept.trod laidOut (by kernel_rfl) (of_decide_eq_true (by kernel_rfl)) h2k hk) trodAll_mk0))
 ·rfl
noncomputable def laidWorld (os : Os) : World :=
 let N := (World.settled Tryz.prog os).heap.size
 let w0 := World.holding Tryz.prog os ⟨#[
  .cells #[.string ⟨#[105, 110, 118, 97, 108, 105, 100, 32, 115, 121, 110, 116, 97, 120]⟩] 194,
  .cells #[.string ⟨#[118, 97, 108, 117, 101, 32, 111, 117, 116, 32, 111, 102, 32, 114, 97, 110, 103, 101]⟩] 194], #[], []⟩
 let put (h : Array Obj) (g : Nat) (cs : Array Value) : Array Obj := h.modify g fun
  | .cells _ t frozen => .cells cs t frozen
  | o => o
 let nums (d : DataW Unit) : Array Value := match d with
  | .agg ds => (ds.map fun
   | .lit (.int k n) => Value.int k n
   | _ => .bool false).toArray
  | _ => #[]
 let h0 := put (put w0.heap 0 #[.iface 192 (.pointer (some ⟨N, 0, none⟩))]) 1 #[.iface 192 (.pointer (some ⟨N + 1, 0, none⟩))]
 let h1 := put h0 2 (nums Rows.laid_internal_strconv_uint64pow10)
 let h2 := put h1 4 (nums Rows.laid_math_bits_deBruijn32tab)
 let h3 := put h2 5 (nums Rows.laid_math_bits_deBruijn64tab)
 { w0 with heap := h3 }
noncomputable abbrev N0 : Nat := (World.settled Tryz.prog default).heap.size
theorem laid_met (os : Os) (args : Array Value) : laidMet Tryz.prog Rows.claimsGrowsRow.laid ((laidWorld os).forCall (fun _ _ => 0) ⟨#[], args, []⟩).memory :=
 (LaidIn.of_run (l := Rows.claimsGrowsRow.laid) [0, 1, 2, 4, 5, N0, N0 + 1] 8 (by kernel_rfl) (by kernel_rfl) (by kernel_rfl) (by kernel_rfl)).met
noncomputable abbrev wargs : Array Value := #[.slice none 0 0, .slice none 0 0, .int .i64 0]
theorem reads (os : Os) {H : Type} (enc : TypeId × Value → H) : ∃ places, DataW.whole enc Tryz.prog ((laidWorld os).forCall (fun _ _ => 0) ⟨#[], wargs, []⟩).memory Tryz.f6.params.toList Rows.claimsGrowsSpec.vars false wargs.toList 8 = some ([.nil, .nil, .lit (.int .i64 0)], [], places) :=
 ⟨[], by kernel_rfl⟩
set_option maxRecDepth 100000 in
theorem lifted (os : Os) (started : os.Started) (H : Type) (enc : TypeId × Value → H) (F : Stop.Interp) :
  ReturnsInHanded {} Tryz.checked os 6 .any ((OpenSpec.ofChange Rows.claimsGrowsSpec).preRow enc Tryz.prog Tryz.f6 Rows.claimsGrowsRow.domain false Rows.claimsGrowsRow.laid) (((OpenSpec.ofChange Rows.claimsGrowsSpec).at F).post enc Tryz.prog Tryz.f6 false true false false) := by
 obtain ⟨places, hx⟩ := reads os enc
 refine returnsInHanded_of_row (C := Tryz.checked) (s := OpenSpec.ofChange Rows.claimsGrowsSpec) own started (by kernel_rfl) Tryz.func6
  (witness_row_atRef (enc := enc) (C := Tryz.checked) false (laidWorld os) wargs rfl (by kernel_rfl) (by kernel_rfl) (by kernel_rfl)
   (OpenSpec.preRow_of_cond 8 hx (by kernel_rfl) (fun k hk => by cases hk) (by kernel_rfl) (laid_met os _))) ?_
 intro W base args ds gs before hval hW _ _ _ hL _ _
 exact contract H enc W base args ds gs before hval hW hL
theorem said : Rows.ClaimsGrowsSaid :=
 OpenClaim.holds_of_cond 6 Tryz.f6 rfl rfl rfl rfl rfl rfl rfl ⟨rfl, rfl, rfl, rfl, rfl⟩ rfl rfl rfl rfl rfl (by kernel_rfl) Tryz.func6 (by kernel_rfl)
  (of_decide_eq_true (by kernel_rfl)) (by unfold Func.isWrapper; first | (rw [if_pos (by decide +kernel)]; kernel_rfl) | (rw [if_neg (by decide +kernel)]; exact ⟨rfl, rfl⟩))
  (fun os started H enc _ F => by rw [OpenClaim.pre_eq_preRow]; exact lifted os started H enc F)
theorem plain (f : FuncId) (fn : Func) (hf : Tryz.pinned.checked.prog.funcNamed "refuter/refuterlaw25.ClaimsGrows" = some f) (hfn : Tryz.pinned.checked.prog.funcs[f]? = some fn) :
  true = Tryz.pinned.checked.prog.looks [] ∧ ∀ (j : Nat) t, fn.params[j]? = some t → Tryz.pinned.checked.prog.wantsStandIn t = false := by
 obtain rfl : f = 6 := Option.some.inj ((show Tryz.prog.funcNamed "refuter/refuterlaw25.ClaimsGrows" = some 6 by kernel_rfl).symm.trans hf) |>.symm
 obtain rfl : fn = Tryz.f6 := (Option.some.inj (Tryz.func6.symm.trans hfn)).symm
 refine ⟨by kernel_rfl, fun j t ht => ?_⟩
 rw [Tryz.params6] at ht
 have hTI : Tryz.prog.wantsStandIn 22 = false := by kernel_rfl
 have hTi : Tryz.prog.wantsStandIn 3 = false := by kernel_rfl
 have hm := Array.mem_of_getElem? ht
 simp at hm
 repeat' (first | (rw [(hm : t = 22)]; exact hTI) | (rw [(hm : t = 3)]; exact hTi) | rcases hm with hm | hm)
theorem card : Rows.ClaimsGrowsCardSaid :=
 Claim7.holds_tied_plain_at .later [] _ _ _ _ said (fun _ h => by cases h) (by kernel_rfl) (fun _ h => by cases h) claimsGrows_row_tie rfl ⟨rfl, rfl⟩ (by kernel_rfl) rfl plain (by kernel_rfl)
end Go.Proofs.YtbannipihdlofaaGreatDoor.ClaimsGrows
