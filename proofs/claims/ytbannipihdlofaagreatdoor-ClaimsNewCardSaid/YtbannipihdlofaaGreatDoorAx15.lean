/- A part of the proof. -/
import Derived.Test.YtbannipihdlofaaGreatDoorAx14
set_option linter.unusedVariables false
namespace Go.Proofs.YtbannipihdlofaaGreatDoor
open Go Go.Ax Go.Proofs
set_option maxRecDepth 100000
set_option maxHeartbeats 16000000
set_option linter.unusedSimpArgs false
def bitB (x : Int) : Bool := x.tmod 2 == 0
def bitsL (l : List Int) (k : Nat) : List Bool := (l.take k).map bitB
def encBo (l : List Bool) : List AV := l.map AV.bool
theorem encBo_nn (l : List Bool) : NNs (encBo l) := by
 induction l with
 | nil => exact .nil
 | cons a l ih => exact .cons (tBo a) ih
theorem encBo_length (l : List Bool) : (encBo l).length = l.length := by simp [encBo]
theorem bitsL_length (l : List Int) (k : Nat) : (bitsL l k).length = min k l.length := by simp [bitsL]
theorem bitsL_succ {l : List Int} {i : Nat} (h : i < l.length) : encBo (bitsL l (i + 1)) = encBo (bitsL l i) ++ [.bool (bitB (l.getD i 0))] := by
 unfold bitsL encBo
 rw [List.take_succ_eq_append_getElem h, List.map_append, List.map_append, List.getD_eq_getElem?_getD, List.getElem?_eq_getElem h]
 rfl
theorem encBo_get {l : List Bool} {i : Nat} (h : i < l.length) : (encBo l)[((i : Nat) : Int).toNat]? = some (.bool (l.getD i false)) := by
 rw [Int.toNat_natCast]
 unfold encBo
 rw [List.getElem?_map, List.getElem?_eq_getElem h]
 simp [List.getD_eq_getElem?_getD, List.getElem?_eq_getElem h]
theorem lBits (l : List Int) (k : Nat) (hk : k ≤ 1000) : PureC Tryz.prog [] 10 [.il 1 (encI l), .int .i64 k] (.il 1 (encBo (bitsL l k))) := by
 refine acalls_go nnΓ Tryz.func10 rfl ?_
 ((conv=>whnf);repeat(refine Xg ?_;conv=>whnf))
 refine ALoop.ph 4 1 ?_
 refine ALoop.at nnΓ (fun i : Nat => i ≤ l.length ∧ i ≤ k)
  (fun i => ⟨[(0, .il 1 (encI l)), (1, .int .i64 k), (5, .sl 0 0 i), (6, .int .i64 i)], [(0, .row 4 1 (encBo (bitsL l i)))], 1, 28⟩)
  (fun i => l.length - i) 0 [(0, 0)] ⟨by omega, by omega⟩
  (conv_mk _ rfl ⟨⟨0, _, rfl, rfl, .nil⟩, trivial⟩ ⟨⟨_, rfl, .same _ (.il' (encI_nn l))⟩, ⟨_, rfl, .same _ nn⟩, ⟨_, rfl, .nslk 0 0 _ rfl rfl⟩, ⟨_, rfl, .same _ nn⟩, trivial⟩) ?_
 rintro i ⟨h1, h2⟩
 have hlen : (encBo (bitsL l i)).length = i := by rw [encBo_length, bitsL_length]; omega
 have hd1 : decide ((i : Int) < ((encI l).length : Int)) = decide (i < l.length) := by rw [encI_length]; exact decide_eq_decide.2 (by omega)
 have hd2 : decide ((i : Int) < (k : Int)) = decide (i < k) := decide_eq_decide.2 (by omega)
 by_cases hb : i < l.length ∧ i < k
 ·have hg : (encI l)[((i : Nat) : Int).toNat]? = some (.int .i64 (l.getD i 0)) := by rw [Int.toNat_natCast, encI_get, List.getD_eq_getElem?_getD, List.getElem?_eq_getElem (by omega)]; rfl
  have hs := bitsL_succ hb.1
  have hbb : (l.getD i 0).tmod 2 == 0 ↔ bitB (l.getD i 0) = true := Iff.rfl
  have hbe : ((l.getD i 0).tmod 2 == 0) = bitB (l.getD i 0) := rfl
  generalize l.getD i 0 = x at *
  ((conv=>whnf);repeat(refine Xg ?_;conv=>whnf))
  rw [hd1, decide_eq_true hb.1]
  ((conv=>whnf);repeat(refine Xg ?_;conv=>whnf))
  rw [hd2, decide_eq_true hb.2]
  ((conv=>whnf);repeat(refine Xg ?_;conv=>whnf))
  refine opt_mk hg ?_
  ((conv=>whnf);repeat(refine Xg ?_;conv=>whnf))
  rw [hbe]
  refine grd_mk (app_ok rfl rfl hlen.symm (by simp; omega)) ?_
  ((conv=>whnf);repeat(refine Xg ?_;conv=>whnf))
  exact .mk (i + 1) [(2, 0)] ⟨hb.1, hb.2⟩
   (conv_mk _ rfl ⟨⟨2, _, rfl, rfl, .eq (encBo_nn _) hs.symm⟩, trivial⟩ ⟨⟨_, rfl, .same _ (.il' (encI_nn l))⟩, ⟨_, rfl, .same _ nn⟩, ⟨_, rfl, .slE rfl (by simp [hlen])⟩, ⟨_, rfl, .w64 (by omega) ⟨by omega, by omega⟩⟩, trivial⟩) (by omega)
 ·have he : bitsL l i = bitsL l k := by
   unfold bitsL
   rcases (show i = k ∨ i = l.length by omega) with e | e
   ·rw [e]
   ·rw [e, List.take_length, List.take_of_length_le (by omega)]
  rcases (show ¬ i < l.length ∨ (i < l.length ∧ ¬ i < k) by omega) with h | ⟨h, h'⟩
  ·((conv=>whnf);repeat(refine Xg ?_;conv=>whnf))
   rw [hd1, decide_eq_false h]
   ((conv=>whnf);repeat(refine Xg ?_;conv=>whnf))
   exact fin_cv (r' := .il 1 (encBo (bitsL l k))) (.fz' (id := 0) (off := 0) (len := i) (ys := encBo (bitsL l k)) rfl rfl (by rw [hlen]; omega) (by rw [← he, List.drop_zero, List.take_of_length_le (by omega)]) (encBo_nn _)) ⟨rfl, rfl, rfl⟩
  ·((conv=>whnf);repeat(refine Xg ?_;conv=>whnf))
   rw [hd1, decide_eq_true h]
   ((conv=>whnf);repeat(refine Xg ?_;conv=>whnf))
   rw [hd2, decide_eq_false h']
   ((conv=>whnf);repeat(refine Xg ?_;conv=>whnf))
   exact fin_cv (r' := .il 1 (encBo (bitsL l k))) (.fz' (id := 0) (off := 0) (len := i) (ys := encBo (bitsL l k)) rfl rfl (by rw [hlen]; omega) (by rw [← he, List.drop_zero, List.take_of_length_le (by omega)]) (encBo_nn _)) ⟨rfl, rfl, rfl⟩
set_option maxHeartbeats 16000000
set_option linter.unusedSimpArgs false
def runT (T : Tst) (b : List Bool) : Nat → Tst
 | 0 => T
 | i + 1 => (feedT (runT T b i) (b.getD i false)).1
theorem new_zero {claim low alpha beta : Fr} {T : Tst} {e : Int} (h : newT claim low alpha beta = (some T, e)) : T.runs = 0 ∧ T.hits = 0 ∧ T.verdict = 0 ∧ T.ratio = oneF := by
 unfold newT at h
 split at h
 ·cases h
 split at h
 ·cases h
 split at h
 ·cases h
 simp only at h
 split at h
 ·cases h
 ·cases h; exact ⟨rfl, rfl, rfl, rfl⟩
theorem tk_zero {claim low alpha beta : Fr} {T : Tst} {e : Int} (h : newT claim low alpha beta = (some T, e)) (hT : TF T) : TK 0 T := by
 obtain ⟨a, b, -⟩ := new_zero h
 exact ⟨hT, by omega, by omega⟩
theorem run_k {T : Tst} (b : List Bool) (h : TK 0 T) : ∀ i, i ≤ 1000 → TK i (runT T b i)
 | 0, _ => h
 | i + 1, hi => feed_k (run_k b h i (by omega)) (by omega) _
theorem feed_says (t : Tst) (b : Bool) : (feedT t b).2.1 = ((feedT t b).1.verdict : Int) := by
 unfold feedT
 generalize mulF t.ratio (if b then t.hit else t.miss) = r
 split
 ·rfl
 ·rename_i h
  split
  ·show (0 : Int) = t.verdict
   omega
  ·rfl
theorem encTF_ex (t : Tst) : ∃ (hb hc mb mc ub uc lb lc rb rc : Bool) (hl hm ml mm ul um ll lm rl rm : List Nat), encF t.hit = .agg [.bool hb, .il 1 (encD hl), .bool hc, .il 1 (encD hm)] ∧ encF t.miss = .agg [.bool mb, .il 1 (encD ml), .bool mc, .il 1 (encD mm)] ∧ encF t.ratio = .agg [.bool rb, .il 1 (encD rl), .bool rc, .il 1 (encD rm)] ∧ encTF t = .agg [.bool hb, .il 1 (encD hl), .bool hc, .il 1 (encD hm), .bool mb, .il 1 (encD ml), .bool mc, .il 1 (encD mm), .bool ub, .il 1 (encD ul), .bool uc, .il 1 (encD um), .bool lb, .il 1 (encD ll), .bool lc, .il 1 (encD lm), .bool rb, .il 1 (encD rl), .bool rc, .il 1 (encD rm), .int .i64 t.verdict, .int .i64 t.runs, .int .i64 t.hits] := by
 obtain ⟨hb, hl, hc, hm, -, -, q1⟩ := encF_ex t.hit
 obtain ⟨mb, ml, mc, mm, -, -, q2⟩ := encF_ex t.miss
 obtain ⟨ub, ul, uc, um, -, -, q3⟩ := encF_ex t.upper
 obtain ⟨lb, ll, lc, lm, -, -, q4⟩ := encF_ex t.lower
 obtain ⟨rb, rl, rc, rm, -, -, q5⟩ := encF_ex t.ratio
 exact ⟨hb, hc, mb, mc, ub, uc, lb, lc, rb, rc, hl, hm, ml, mm, ul, um, ll, lm, rl, rm, q1, q2, q5, encTF_mk q1 q2 q3 q4 q5⟩
theorem lawFeedsW (l m : List Int) (_ : ∀ x ∈ l, i64 x) (_ : ∀ x ∈ m, i64 x) : PureC Tryz.prog gz 3 [.il 1 (encI l), .il 1 (encI m)] (.bool true) := by
 have hbits : PureC Tryz.prog [] 10 [.il 1 (encI m), .int .i64 30] (.il 1 (encBo (bitsL m 30))) := lBits m 30 (by omega)
 have hbl : (bitsL m 30).length ≤ 30 := by rw [bitsL_length]; omega
 generalize bitsL m 30 = b at *
 refine acalls_go nngz Tryz.func3 rfl ?_
 ((conv=>whnf);repeat(refine Xg ?_;conv=>whnf))
 refine ACalls.useN nngz [] (lBoth l) rfl (.cons (.same _ (.il' (encI_nn l))) .nil) trivial rfl ?_
 rintro r m' n' hQ
 rcases hQ with ⟨hN, rfl, rfl, rfl⟩ | ⟨T, hT, hTF, rfl, rfl, rfl⟩
 ·refine ⟨[], .tup [.nptr, .nptr, .bool true], [], 0, .same _ (.tup' (.cons .nptr (.cons .nptr (.cons (tBo _) .nil)))), trivial, rfl, ?_⟩
  ((conv=>whnf);repeat(refine Xg ?_;conv=>whnf))
  repeat ((first | refine setK_iff.2 ?_ | refine ⟨rfl, ?_⟩); ((conv=>whnf);repeat(refine Xg ?_;conv=>whnf)))
  refine PureC.use lives25 nngz .nil (tBo _) ?_
  ((conv=>whnf);repeat(refine Xg ?_;conv=>whnf))
  exact fin_pure (tBo _) ⟨rfl, rfl, rfl⟩
 ·refine ⟨[(0, 0), (1, 1)], .tup [.ptr 0 0 0, .ptr 1 0 0, .bool true], [(0, tB0 T), (1, rB0 T)], 2, .tup' (.cons (.ptr 0 0 0 0 rfl) (.cons (.ptr 1 1 0 0 rfl) (.cons (.same _ (tBo _)) .nil))), ⟨⟨0, _, rfl, rfl, .same (encTP_nn T)⟩, ⟨1, _, rfl, rfl, .same (encTF_nn T)⟩, trivial⟩, rfl, ?_⟩
  ((conv=>whnf);repeat(refine Xg ?_;conv=>whnf))
  repeat ((first | refine setK_iff.2 ?_ | refine ⟨rfl, ?_⟩); ((conv=>whnf);repeat(refine Xg ?_;conv=>whnf)))
  refine hbits.goG ?_ (.cons (.il' (encI_nn m)) (.cons nn .nil)) (.il' (encBo_nn _))
  ((conv=>whnf);repeat(refine Xg ?_;conv=>whnf))
  have h0 := tk_zero (show newT _ _ _ _ = (some T, 0) from hT) hTF
  refine ALoop.at nngz (fun i : Nat => i ≤ b.length)
   (fun i => ⟨[(5, .ptr 0 0 0), (6, .ptr 1 0 0), (8, .il 1 (encBo b)), (9, .int .i64 i)], [(0, tB0 (runT T b i)), (1, rB0 (runT T b i))], 2, 102⟩)
   (fun i => b.length - i) 0 [(0, 0), (1, 1)] (by omega)
   (conv_mk _ rfl ⟨⟨0, _, rfl, rfl, .same (encTP_nn T)⟩, ⟨1, _, rfl, rfl, .same (encTF_nn T)⟩, trivial⟩ ⟨⟨_, rfl, .ptr 0 0 0 0 rfl⟩, ⟨_, rfl, .ptr 1 1 0 0 rfl⟩, ⟨_, rfl, .same _ (.il' (encBo_nn b))⟩, ⟨_, rfl, .same _ nn⟩, trivial⟩) ?_
  intro i hi
  have hd : decide ((i : Int) < ((encBo b).length : Int)) = decide (i < b.length) := by rw [encBo_length]; exact decide_eq_decide.2 (by omega)
  by_cases hlt : i < b.length
  ·have hk := run_k b h0 i (by omega)
   have hk2 := run_k b h0 (i + 1) (by omega)
   have hg := encBo_get hlt
   have hst : runT T b (i + 1) = (feedT (runT T b i) (b.getD i false)).1 := rfl
   have hsay := feed_says (runT T b i) (b.getD i false)
   have hfp := pFeed (runT T b i) (b.getD i false) hk.tf
   have hff := fFeed (runT T b i) (b.getD i false) hk.tf
   generalize hS : runT T b i = S at *
   generalize hS2 : runT T b (i + 1) = S2 at *
   generalize b.getD i false = x at *
   rw [← hst] at hfp hff hsay
   rw [hsay] at hfp hff
   generalize (feedT S x).2.2 = e at *
   have hr := pRatio S2
   have hn := pRuns S2
   have hv := pVerdict S2
   have hs := pString S2.ratio hk2.tf.ratio
   have ht := fText S2.ratio hk2.tf.ratio
   obtain ⟨pb, pl, pc, pm, -, -, qp⟩ := encP_ex S2.ratio
   obtain ⟨hb, hc, mb, mc, ub, uc, lb, lc, rb, rc, hl, hm, ml, mm, ul, um, ll, lm, rl, rm, -, -, q5, qT⟩ := encTF_ex S2
   rw [qp] at hr hs
   rw [q5] at ht
   rw [qT] at hff
   generalize txtF S2.ratio = tx at *
   ((conv=>whnf);repeat(refine Xg ?_;conv=>whnf))
   rw [hd, decide_eq_true hlt]
   ((conv=>whnf);repeat(refine Xg ?_;conv=>whnf))
   refine opt_mk hg ?_
   ((conv=>whnf);repeat(refine Xg ?_;conv=>whnf))
   refine ACalls.useR nngz [(0, 0)] hfp.glob rfl (.cons (.ptr 0 0 0 0 rfl) (.same (.cons (tB _) .nil))) ⟨⟨0, _, rfl, rfl, .same (encTP_nn _)⟩, trivial⟩ rfl ?_
   rintro r m n ⟨rfl, rfl, rfl⟩
   refine ⟨[(0, tB0 S2)], .tup' (.cons nn (.cons nn .nil)), ⟨⟨0, _, rfl, rfl, .same (encTP_nn _)⟩, trivial⟩, rfl, ?_⟩
   ((conv=>whnf);repeat(refine Xg ?_;conv=>whnf))
   repeat ((first | refine setK_iff.2 ?_ | refine ⟨rfl, ?_⟩); ((conv=>whnf);repeat(refine Xg ?_;conv=>whnf)))
   refine opt_mk hg ?_
   ((conv=>whnf);repeat(refine Xg ?_;conv=>whnf))
   repeat ((first | refine setK_iff.2 ?_ | refine ⟨rfl, ?_⟩); ((conv=>whnf);repeat(refine Xg ?_;conv=>whnf)))
   refine ACalls.useR nngz [(1, 0)] hff.glob rfl (.cons (.ptr 1 0 0 0 rfl) (.same (.cons (tB _) .nil))) ⟨⟨1, _, rfl, rfl, .same (encTF_nn _)⟩, trivial⟩ rfl ?_
   rintro r m n ⟨rfl, rfl, rfl⟩
   refine ⟨[(1, .row 47 23 [.agg [.bool hb, .il 1 (encD hl), .bool hc, .il 1 (encD hm), .bool mb, .il 1 (encD ml), .bool mc, .il 1 (encD mm), .bool ub, .il 1 (encD ul), .bool uc, .il 1 (encD um), .bool lb, .il 1 (encD ll), .bool lc, .il 1 (encD lm), .bool rb, .il 1 (encD rl), .bool rc, .il 1 (encD rm), .int .i64 S2.verdict, .int .i64 S2.runs, .int .i64 S2.hits]])], .tup' (.cons nn (.cons nn .nil)), ⟨⟨0, _, rfl, rfl, .same (agFT _ _ _ _ _ _ _ _ _ _ _ _ _ _ _ _ _ _ _ _ _ _ _)⟩, trivial⟩, rfl, ?_⟩
   ((conv=>whnf);repeat(refine Xg ?_;conv=>whnf))
   repeat ((first | refine setK_iff.2 ?_ | refine ⟨rfl, ?_⟩); ((conv=>whnf);repeat(refine Xg ?_;conv=>whnf)))
   refine ACalls.useR nngz [(0, 0)] hn.glob rfl (.cons (.ptr 0 0 0 0 rfl) .nil) ⟨⟨0, _, rfl, rfl, .same (encTP_nn _)⟩, trivial⟩ rfl ?_
   rintro r m n ⟨rfl, rfl, rfl⟩
   refine ⟨[(0, tB0 S2)], .tup' (.cons nn (.cons nn .nil)), ⟨⟨0, _, rfl, rfl, .same (encTP_nn _)⟩, trivial⟩, rfl, ?_⟩
   ((conv=>whnf);repeat(refine Xg ?_;conv=>whnf))
   repeat ((first | refine setK_iff.2 ?_ | refine ⟨rfl, ?_⟩); ((conv=>whnf);repeat(refine Xg ?_;conv=>whnf)))
   refine ACalls.useR nngz [(0, 0)] hr.glob rfl (.cons (.ptr 0 0 0 0 rfl) .nil) ⟨⟨0, _, rfl, rfl, .same (encTP_nn _)⟩, trivial⟩ rfl ?_
   rintro r m n ⟨rfl, rfl, rfl⟩
   refine ⟨[(0, tB0 S2)], agP _ _ _ _, ⟨⟨0, _, rfl, rfl, .same (encTP_nn _)⟩, trivial⟩, rfl, ?_⟩
   ((conv=>whnf);repeat(refine Xg ?_;conv=>whnf))
   repeat ((first | refine setK_iff.2 ?_ | refine ⟨rfl, ?_⟩); ((conv=>whnf);repeat(refine Xg ?_;conv=>whnf)))
   have ne0 : ∀ z : Int, (z != z) = false := fun z => bne_self_eq_false z
   have nes : (!(tx == tx)) = false := by rw [beq_self_eq_true]; rfl
   rw [ne0]
   ((conv=>whnf);repeat(refine Xg ?_;conv=>whnf))
   repeat ((first | refine setK_iff.2 ?_ | refine ⟨rfl, ?_⟩); ((conv=>whnf);repeat(refine Xg ?_;conv=>whnf)))
   rw [ne0]
   ((conv=>whnf);repeat(refine Xg ?_;conv=>whnf))
   repeat ((first | refine setK_iff.2 ?_ | refine ⟨rfl, ?_⟩); ((conv=>whnf);repeat(refine Xg ?_;conv=>whnf)))
   refine ACalls.useR nngz [(0, 0)] hv.glob rfl (.cons (.ptr 0 0 0 0 rfl) .nil) ⟨⟨0, _, rfl, rfl, .same (encTP_nn _)⟩, trivial⟩ rfl ?_
   rintro r m n ⟨rfl, rfl, rfl⟩
   refine ⟨[(0, tB0 S2)], nn, ⟨⟨0, _, rfl, rfl, .same (encTP_nn _)⟩, trivial⟩, rfl, ?_⟩
   ((conv=>whnf);repeat(refine Xg ?_;conv=>whnf))
   repeat ((first | refine setK_iff.2 ?_ | refine ⟨rfl, ?_⟩); ((conv=>whnf);repeat(refine Xg ?_;conv=>whnf)))
   rw [ne0]
   ((conv=>whnf);repeat(refine Xg ?_;conv=>whnf))
   repeat ((first | refine setK_iff.2 ?_ | refine ⟨rfl, ?_⟩); ((conv=>whnf);repeat(refine Xg ?_;conv=>whnf)))
   rw [ne0]
   ((conv=>whnf);repeat(refine Xg ?_;conv=>whnf))
   repeat ((first | refine setK_iff.2 ?_ | refine ⟨rfl, ?_⟩); ((conv=>whnf);repeat(refine Xg ?_;conv=>whnf)))
   rw [ne0]
   ((conv=>whnf);repeat(refine Xg ?_;conv=>whnf))
   repeat ((first | refine setK_iff.2 ?_ | refine ⟨rfl, ?_⟩); ((conv=>whnf);repeat(refine Xg ?_;conv=>whnf)))
   refine PureC.use hs nngz (.cons (agP _ _ _ _) .nil) nn ?_
   ((conv=>whnf);repeat(refine Xg ?_;conv=>whnf))
   repeat ((first | refine setK_iff.2 ?_ | refine ⟨rfl, ?_⟩); ((conv=>whnf);repeat(refine Xg ?_;conv=>whnf)))
   refine ht.goG ?_ (.cons (agF _ _ _ _) .nil) nn
   ((conv=>whnf);repeat(refine Xg ?_;conv=>whnf))
   repeat ((first | refine setK_iff.2 ?_ | refine ⟨rfl, ?_⟩); ((conv=>whnf);repeat(refine Xg ?_;conv=>whnf)))
   rw [nes]
   ((conv=>whnf);repeat(refine Xg ?_;conv=>whnf))
   repeat ((first | refine setK_iff.2 ?_ | refine ⟨rfl, ?_⟩); ((conv=>whnf);repeat(refine Xg ?_;conv=>whnf)))
   exact .mk (i + 1) [(0, 0), (1, 1)] (by omega)
    (conv_mk _ rfl ⟨⟨0, _, rfl, rfl, .eq (encTP_nn _) (by rw [hS2])⟩, ⟨1, _, rfl, rfl, .eq (encTF_nn _) (by rw [hS2, qT])⟩, trivial⟩ ⟨⟨_, rfl, .ptr 0 0 0 0 rfl⟩, ⟨_, rfl, .ptr 1 1 0 0 rfl⟩, ⟨_, rfl, .same _ (.il' (encBo_nn b))⟩, ⟨_, rfl, .w64 (by omega) ⟨by omega, by omega⟩⟩, trivial⟩) (by omega)
  ·generalize runT T b i = S at *
   ((conv=>whnf);repeat(refine Xg ?_;conv=>whnf))
   rw [hd, decide_eq_false hlt]
   ((conv=>whnf);repeat(refine Xg ?_;conv=>whnf))
   repeat ((first | refine setK_iff.2 ?_ | refine ⟨rfl, ?_⟩); ((conv=>whnf);repeat(refine Xg ?_;conv=>whnf)))
   refine PureC.use lives25 nngz .nil (tBo _) ?_
   ((conv=>whnf);repeat(refine Xg ?_;conv=>whnf))
   exact fin_pure (tBo _) ⟨rfl, rfl, rfl⟩
end Go.Proofs.YtbannipihdlofaaGreatDoor
namespace Go.Ax
open Go
def numK (a : Int) : Int := if a.tmod 7 < 0 then a.tmod 7 + 7 else a.tmod 7
def numM (a b : Int) : Int := if numK a < 4 then b.tmod 60 else if numK a < 6 then b else (b + 3) * 1000000007 ^ ((a.tdiv 7).tmod 40).toNat
def pickAt (l : List Int) (i : Nat) : Int := l.getD i 0
def oneM (q : Int) : Int := if q = 0 then 1 else q
theorem oneM_ne (q : Int) : oneM q ≠ 0 := by unfold oneM; split <;> omega
def fracM (l : List Int) (i : Nat) : Fr := mkF (numM (pickAt l i) (pickAt l (i + 1))) (oneM (numM (pickAt l (i + 2)) (pickAt l (i + 3))))
theorem pow_bound (z : Int) (hz : z.natAbs ≤ 2 ^ 64) : ∀ n : Nat, (z * 1000000007 ^ n).natAbs ≤ 2 ^ (64 + 30 * n)
 | 0 => by simpa using hz
 | n + 1 => by
  have ih := pow_bound z hz n
  rw [Int.pow_succ, ← Int.mul_assoc, Int.natAbs_mul, Nat.mul_add, ← Nat.add_assoc, Nat.pow_add]
  exact Nat.mul_le_mul ih (by decide)
theorem reps_bound (a : Int) : ((a.tdiv 7).tmod 40).toNat ≤ 39 := by
 have := Int.tmod_lt_of_pos (a.tdiv 7) (show (0 : Int) < 40 by omega)
 omega
theorem numM_bound {a b : Int} {n : Nat} (hn : 1234 ≤ n) (hb : b.natAbs ≤ 2 ^ 63) : (numM a b).natAbs ≤ 2 ^ n := by
 unfold numM
 have h0 : (2 : Nat) ^ 63 ≤ 2 ^ n := Nat.pow_le_pow_right (by omega) (by omega)
 split
 ·refine Nat.le_trans ?_ h0
  have h1 := Int.lt_tmod_of_pos b (show (0 : Int) < 60 by omega)
  have h2 := Int.tmod_lt_of_pos b (show (0 : Int) < 60 by omega)
  omega
 split
 ·exact Nat.le_trans hb h0
 ·have h1 : (b + 3).natAbs ≤ 2 ^ 64 := by omega
  have h2 := reps_bound a
  exact Nat.le_trans (pow_bound _ h1 _) (Nat.pow_le_pow_right (by omega) (by omega))
theorem oneM_bound {q : Int} {n : Nat} (h : q.natAbs ≤ 2 ^ n) : (oneM q).natAbs ≤ 2 ^ n := by
 unfold oneM
 split
 ·exact Nat.pow_pos (by omega)
 ·exact h
theorem fracM_sz {l : List Int} {n : Nat} (hn : 1234 ≤ n) (hl : ∀ x ∈ l, x.natAbs ≤ 2 ^ 63) (i : Nat) : Sz n (fracM l i) ∧ Can (fracM l i) := by
 have hp : ∀ j, (pickAt l j).natAbs ≤ 2 ^ 63 := fun j => by
  unfold pickAt
  rw [List.getD_eq_getElem?_getD]
  cases h : l[j]? with
  | none => simp
  | some x => exact hl x (List.mem_of_getElem? h)
 exact ⟨mkF_sz (oneM_ne _) (numM_bound hn (hp _)) (oneM_bound (numM_bound hn (hp _))), mkF_can (oneM_ne _)⟩
end Go.Ax
