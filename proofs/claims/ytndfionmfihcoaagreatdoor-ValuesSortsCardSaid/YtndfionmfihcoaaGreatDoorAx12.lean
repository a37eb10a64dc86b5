/- For every input (of two slices of ints), refuterlaw10.ValuesSorts returns true, and its arguments read behind the call as they read before (the card ValuesSortsCardSaid, the full form). Conditions: the package-level variables that the row lists hold, when the call begins, what the program's text lays (the card ties them to it); no bound on sizes. -/
import Derived.Test.YtndfionmfihcoaaGreatDoorAx11
import Derived.Test.YtndfionmfihcoaaGreatDoorProg
import Derived.KernelRfl
import Derived.Test.YtndfionmfihcoaaGreatDoorCards
import Derived.Test.YtndfionmfihcoaaGreatDoorTie
import Derived.Lib.LaidIn
set_option linter.unusedVariables false
namespace Go.Proofs.YtndfionmfihcoaaGreatDoor
open Go Go.Ax Go.Proofs
set_option maxRecDepth 100000
set_option maxHeartbeats 16000000
set_option linter.unusedSimpArgs false
instance : Inhabited Val := ⟨.mk 0 0 [] []⟩
theorem egCmp : ∀ args w, (callFunc 19 args).run Tryz.prog w = .ok (.enter 19 args) w := enters_of Tryz.func19 (by kernel_rfl) rfl
theorem clr_ok {a b c : Bool} {n m k : Nat} (ha : a = true) (hb : b = true) (hc : c = true) (h1 : 0 < n) (h2 : m ≤ k) : (a && (b && (c && (Nat.blt 0 n && Nat.ble m k)))) = true := by
 rw [ha, hb, hc, Nat.ble_eq_true_of_le h2, show Nat.blt 0 n = true from Nat.ble_eq_true_of_le h1]; rfl
theorem vSortFunc (l : List Val) (h0 : 0 < l.length) (hl : l.length ≤ 4294967296) (hok : ∀ v ∈ l, okV v) :
  ACalls Tryz.prog [] 23 [.sl 0 0 l.length, .fn (.func 19) [] []] [(0, .row 28 4 (encVs l))] 1 fun r m n => r = .tup [] ∧ n = 1 ∧ ∃ z, z.Perm l ∧ Asc z ∧ m = [(0, .row 28 4 (encVs z))] := by
 have ho := ord_vals l
 have h := sort_bridge (P := Tryz.prog) (F := 23) (t := 28) (k := 4)
  (fun enc hk h1 cf hO g cb blk off cap d w eg hcmp hH hblk hsz => Tryz.slices_SortFunc 4 Tryz.isAgg28 Tryz.sizeOf28 enc hk h1 cf hO g cb blk off cap d w eg hcmp hH hblk hsz) egCmp encV l h0 (by omega) (by omega) (fun v _ => by cases v; exact ⟨_, rfl⟩) (fun v _ => encV_nn v) cmpV ⟨ho.1, ho.2.1, ho.2.2⟩ (fun x hx y _ => vCompare x y (hok x hx))
 rw [← encVs_map] at h
 refine h.mono ?_
 rintro r m n ⟨h1, h2, z, ⟨h3, h4⟩, h5⟩
 exact ⟨h1, h2, z, h3, h4, by rw [h5, encVs_map]⟩
theorem vSame (a b : Val) (ha : okV a) : PureC Tryz.prog [] 25 [encV a, encV b] (.bool (cmpV a b == 0)) := by
 have h := vCompare a b ha
 obtain ⟨a1, a2, a3, a4⟩ := a
 obtain ⟨b1, b2, b3, b4⟩ := b
 generalize cmpV (.mk a1 a2 a3 a4) (.mk b1 b2 b3 b4) = c at *
 refine acalls_go nnΓ Tryz.func25 rfl ?_
 ((conv=>whnf);repeat(refine Xg ?_;conv=>whnf))
 refine h.go ?_
 ((conv=>whnf);repeat(refine Xg ?_;conv=>whnf))
 repeat ((first | refine setK_iff.2 ?_ | refine ⟨rfl, ?_⟩); ((conv=>whnf);repeat(refine Xg ?_;conv=>whnf)))
 exact fin_pure nn ⟨rfl, rfl, rfl⟩
theorem vCompact (l : List Val) (h0 : 0 < l.length) (hl : l.length ≤ 4294967296) (hok : ∀ v ∈ l, okV v) :
    ACalls Tryz.prog [] 24 [.sl 0 0 l.length, .fn (.func 25) [] []] [(0, .row 28 4 (encVs l))] 1 fun r m n =>
      n = 1 ∧ ∃ ys, r = .sl 0 0 (dedN l l.length).length ∧ m = [(0, .row 28 4 ys)] ∧ NNs ys ∧ ys.take (dedN l l.length).length = encVs (dedN l l.length) ∧ (dedN l l.length).length ≤ ys.length := by
  have nf : NN (.fn (.func 25) [] []) := .fn _ _ _ (by simp) (by simp)
  have hlen := encVs_length l
  have hd1 : decide (((l.length : Nat) : Int) < 2) = decide (l.length < 2) := decide_eq_decide.2 (by omega)
  refine acalls_go nnΓ Tryz.func24 rfl ?_
  have hl1 : l = [] ∨ l.length = 1 ∨ 2 ≤ l.length := by
    rcases Nat.lt_or_ge l.length 2 with h | h
    · rcases Nat.lt_or_ge l.length 1 with h' | h'
      · left; exact List.eq_nil_of_length_eq_zero (by omega)
      · right; left; omega
    · exact .inr (.inr h)
  have hall : (∀ j, j < l.length → keepAt l j = true) → dedN l l.length = l := fun h => by rw [dedN_all _ (Nat.le_refl _) h, List.take_length]
  ((conv=>whnf);repeat(refine Xg ?_;conv=>whnf))
  rw [hd1]
  by_cases h2 : l.length < 2
  · rw [decide_eq_true h2]
    have he := hall fun j hj => by
      have : j = 0 := by omega
      subst this; rfl
    rw [he]
    ((conv=>whnf);repeat(refine Xg ?_;conv=>whnf))
    exact fin_mk (r' := .sl 0 0 l.length) (m' := [(0, .row 28 4 (encVs l))]) (n' := 1) [(0, 0)] rfl ⟨⟨0, _, rfl, rfl, .same (encVs_nn _)⟩, trivial⟩ (.sl 0 0 0 _ rfl) ⟨rfl, encVs l, rfl, rfl, encVs_nn l, by rw [List.take_of_length_le (by omega)], by omega⟩
  · rw [decide_eq_false h2]
    ((conv=>whnf);repeat(refine Xg ?_;conv=>whnf))
    refine ALoop.at nnΓ (fun p : Nat => p + 1 ≤ l.length ∧ ∀ j, j < p + 1 → keepAt l j = true)
      (fun p => ⟨[(0, .sl 0 0 l.length), (1, .fn (.func 25) [] []), (5, .int .i64 ((p + 1 : Nat) : Int))], [(0, .row 28 4 (encVs l))], 1, 66⟩)
      (fun p => l.length - p) 0 [(0, 0)] ⟨by omega, fun j hj => by have : j = 0 := by omega
                                                                   subst this; rfl⟩
      (conv_mk _ rfl ⟨⟨0, _, rfl, rfl, .same (encVs_nn _)⟩, trivial⟩ ⟨⟨_, rfl, .slE rfl rfl⟩, ⟨_, rfl, .same _ nf⟩, ⟨_, rfl, .same _ nn⟩, trivial⟩) ?_
    rintro p ⟨p1, p2⟩
    have hdp : decide (((p + 1 : Nat) : Int) < (l.length : Int)) = decide (p + 1 < l.length) := decide_eq_decide.2 (by omega)
    by_cases hp : p + 1 < l.length
    · have hw : IntKind.i64.wrap (((p + 1 : Nat) : Int) - 1) = (p : Int) := by rw [wrap64 ⟨by omega, by omega⟩]; omega
      obtain ⟨a1, a2, a3, a4, am, ag, -, ea, ba⟩ := enc_own (l := l) (k := p) (n := l.length) (by omega) rfl
      obtain ⟨b1, b2, b3, b4, bm, bg, -, eb, bb⟩ := enc_own (l := l) (k := p + 1) (n := l.length) (by omega) rfl
      have hc := vSame (.mk b1 b2 b3 b4) (.mk a1 a2 a3 a4) (hok _ bm)
      have hkeep : keepAt l (p + 1) = !(cmpV (.mk b1 b2 b3 b4) (.mk a1 a2 a3 a4) == 0) := by simp only [keepAt]; rw [bg, ag]
      generalize (cmpV (.mk b1 b2 b3 b4) (.mk a1 a2 a3 a4) == 0) = c at *
      ((conv=>whnf);repeat(refine Xg ?_;conv=>whnf))
      rw [hdp, decide_eq_true hp]
      ((conv=>whnf);repeat(refine Xg ?_;conv=>whnf))
      repeat ((first | refine grd_mk bb ?_ | refine opt_mk eb ?_); ((conv=>whnf);repeat(refine Xg ?_;conv=>whnf)))
      have hz0 : decide (0 ≤ (p : Int)) = true := decide_eq_true (by omega)
      rw [hw, hz0]
      ((conv=>whnf);repeat(refine Xg ?_;conv=>whnf))
      repeat ((first | refine grd_mk ba ?_ | refine opt_mk ea ?_ | refine setK_iff.2 ?_ | refine ⟨rfl, ?_⟩); ((conv=>whnf);repeat(refine Xg ?_;conv=>whnf)))
      refine hc.go ?_
      ((conv=>whnf);repeat(refine Xg ?_;conv=>whnf))
      repeat ((first | refine setK_iff.2 ?_ | refine ⟨rfl, ?_⟩); ((conv=>whnf);repeat(refine Xg ?_;conv=>whnf)))
      cases c with
      | false =>
        ((conv=>whnf);repeat(refine Xg ?_;conv=>whnf))
        exact .mk (p + 1) [(0, 0)] ⟨by omega, fun j hj => by
            rcases Nat.lt_or_ge j (p + 1) with h | h
            · exact p2 j h
            · have : j = p + 1 := by omega
              rw [this, hkeep]; rfl⟩
          (conv_mk _ rfl ⟨⟨0, _, rfl, rfl, .same (encVs_nn _)⟩, trivial⟩ ⟨⟨_, rfl, .slE rfl rfl⟩, ⟨_, rfl, .same _ nf⟩, ⟨_, rfl, .w64 (by omega) ⟨by omega, by omega⟩⟩, trivial⟩) (by omega)
      | true =>
        ((conv=>whnf);repeat(refine Xg ?_;conv=>whnf))
        refine grd_mk (sl_ok (by simp; omega) (by omega) (by omega)) ?_
        ((conv=>whnf);repeat(refine Xg ?_;conv=>whnf))
        have ho : 0 + ((p + 1 : Nat) : Int).toNat = p + 1 := by omega
        have hn : l.length - ((p + 1 : Nat) : Int).toNat = l.length - (p + 1) := by omega
        rw [ho, hn]
        have hfst : dedN l (p + 1) = l.take (p + 1) := dedN_all _ (by omega) p2
        have hded : dedN l (p + 1 + 1) = l.take (p + 1) := by
          rw [dedN, bg]; simp only; rw [if_neg (by rw [hkeep]; simp), hfst]
        refine ALoop.at nnΓ (fun x : Nat × List Val × Nat => x.1 + 1 ≤ l.length - (p + 1) ∧ x.2.1.length = l.length ∧ x.2.1.take x.2.2 = dedN l (p + 1 + (x.1 + 1)) ∧ x.2.1.drop (p + 1 + x.1) = l.drop (p + 1 + x.1) ∧ x.2.2 ≤ p + 1 + x.1)
          (fun x => ⟨[(0, .sl 0 0 l.length), (1, .fn (.func 25) [] []), (5, .int .i64 x.2.2), (6, .sl 0 (p + 1) (l.length - (p + 1))), (7, .int .i64 ((x.1 + 1 : Nat) : Int))], [(0, .row 28 4 (encVs x.2.1))], 1, 66⟩)
          (fun x => l.length - x.1) (0, l, p + 1) [(0, 0)] ⟨by simp only; omega, rfl, by simp only; exact hded.symm, rfl, by simp only; omega⟩
          (conv_mk _ rfl ⟨⟨0, _, rfl, rfl, .same (encVs_nn _)⟩, trivial⟩ ⟨⟨_, rfl, .slE rfl rfl⟩, ⟨_, rfl, .same _ nf⟩, ⟨_, rfl, .same _ nn⟩, ⟨_, rfl, .slE rfl rfl⟩, ⟨_, rfl, .same _ nn⟩, trivial⟩) ?_
        clear ea ba eb bb hc hkeep ag bg am bm
        rintro ⟨q, z, c⟩ ⟨q1, q2, q3, q4, q5⟩
        simp only at q1 q2 q3 q4 q5 ⊢
        have hzl := encVs_length z
        have hdq : decide (((q + 1 : Nat) : Int) < ((l.length - (p + 1) : Nat) : Int)) = decide (q + 1 < l.length - (p + 1)) := decide_eq_decide.2 (by omega)
        by_cases hq : q + 1 < l.length - (p + 1)
        · have hw1 : IntKind.i64.wrap (((q + 1 : Nat) : Int) - 1) = (q : Int) := by rw [wrap64 ⟨by omega, by omega⟩]; omega
          have hw2 : IntKind.i64.wrap ((c : Int) + 1) = ((c + 1 : Nat) : Int) := by rw [wrap64 ⟨by omega, by omega⟩]; omega
          have zq : decide (0 ≤ (q : Int)) = true := decide_eq_true (by omega)
          have zq1 : decide (0 ≤ ((q + 1 : Nat) : Int)) = true := decide_eq_true (by omega)
          have hat : ∀ k, p + 1 + q ≤ k → z[k]? = l[k]? := fun k hk => by
            have := congrArg (fun y => y[k - (p + 1 + q)]?) q4
            simp only [List.getElem?_drop] at this
            rwa [show p + 1 + q + (k - (p + 1 + q)) = k by omega] at this
          obtain ⟨⟨a1, a2, a3, a4⟩, hae⟩ : ∃ a, a = l[p + 1 + q] := ⟨_, rfl⟩
          obtain ⟨⟨b1, b2, b3, b4⟩, hbe⟩ : ∃ b, b = l[p + 1 + (q + 1)] := ⟨_, rfl⟩
          have ag : l[p + 1 + q]? = some (.mk a1 a2 a3 a4) := by rw [hae]; exact List.getElem?_eq_getElem (by omega)
          have bg : l[p + 1 + (q + 1)]? = some (.mk b1 b2 b3 b4) := by rw [hbe]; exact List.getElem?_eq_getElem (by omega)
          have bm : Val.mk b1 b2 b3 b4 ∈ l := List.mem_of_getElem? bg
          have ea : (encVs z)[p + 1 + (q : Int).toNat]? = some (encV (.mk a1 a2 a3 a4)) := by rw [Int.toNat_natCast, encVs_get, hat _ (by omega), ag]; rfl
          have eb : (encVs z)[p + 1 + ((q + 1 : Nat) : Int).toNat]? = some (encV (.mk b1 b2 b3 b4)) := by rw [Int.toNat_natCast, encVs_get, hat _ (by omega), bg]; rfl
          have ba : Nat.blt (q : Int).toNat (l.length - (p + 1)) = true := Nat.ble_eq_true_of_le (by simp; omega)
          have bb : Nat.blt ((q + 1 : Nat) : Int).toNat (l.length - (p + 1)) = true := Nat.ble_eq_true_of_le (by simp; omega)
          have hc := vSame (.mk b1 b2 b3 b4) (.mk a1 a2 a3 a4) (hok _ bm)
          have hkeep : keepAt l (p + 1 + (q + 1)) = !(cmpV (.mk b1 b2 b3 b4) (.mk a1 a2 a3 a4) == 0) := by
            rw [show p + 1 + (q + 1) = (p + 1 + q) + 1 by omega] at bg ⊢
            simp only [keepAt]; rw [bg, ag]
          have hnext : dedN l (p + 1 + (q + 1 + 1)) = if keepAt l (p + 1 + (q + 1)) = true then dedN l (p + 1 + (q + 1)) ++ [.mk b1 b2 b3 b4] else dedN l (p + 1 + (q + 1)) := by
            rw [show p + 1 + (q + 1 + 1) = (p + 1 + (q + 1)) + 1 by omega, dedN, bg]
          generalize (cmpV (.mk b1 b2 b3 b4) (.mk a1 a2 a3 a4) == 0) = e at *
          ((conv=>whnf);repeat(refine Xg ?_;conv=>whnf))
          rw [hdq, decide_eq_true hq]
          ((conv=>whnf);repeat(refine Xg ?_;conv=>whnf))
          repeat ((first | refine grd_mk bb ?_ | refine opt_mk eb ?_); ((conv=>whnf);repeat(refine Xg ?_;conv=>whnf)))
          rw [hw1, zq]
          ((conv=>whnf);repeat(refine Xg ?_;conv=>whnf))
          repeat ((first | refine grd_mk ba ?_ | refine opt_mk ea ?_ | refine setK_iff.2 ?_ | refine ⟨rfl, ?_⟩); ((conv=>whnf);repeat(refine Xg ?_;conv=>whnf)))
          refine hc.go ?_
          ((conv=>whnf);repeat(refine Xg ?_;conv=>whnf))
          repeat ((first | refine setK_iff.2 ?_ | refine ⟨rfl, ?_⟩); ((conv=>whnf);repeat(refine Xg ?_;conv=>whnf)))
          cases e with
          | true =>
            rw [hkeep, if_neg (by simp)] at hnext
            ((conv=>whnf);repeat(refine Xg ?_;conv=>whnf))
            exact .mk (q + 1, z, c) [(0, 0)] ⟨by simp only; omega, q2, by simp only; rw [q3, hnext], by
                simp only
                have := congrArg (List.drop 1) q4
                rw [List.drop_drop, List.drop_drop] at this
                exact this, by simp only; omega⟩
              (conv_mk _ rfl ⟨⟨0, _, rfl, rfl, .same (encVs_nn _)⟩, trivial⟩ ⟨⟨_, rfl, .slE rfl rfl⟩, ⟨_, rfl, .same _ nf⟩, ⟨_, rfl, .same _ nn⟩, ⟨_, rfl, .slE rfl rfl⟩, ⟨_, rfl, .w64 (by simp only; omega) ⟨by omega, by omega⟩⟩, trivial⟩) (by simp only; omega)
          | false =>
            rw [hkeep, if_pos (by simp)] at hnext
            have zc : decide (0 ≤ (c : Int)) = true := decide_eq_true (by omega)
            ((conv=>whnf);repeat(refine Xg ?_;conv=>whnf))
            repeat ((first | refine grd_mk bb ?_ | refine opt_mk eb ?_); ((conv=>whnf);repeat(refine Xg ?_;conv=>whnf)))
            have hcl : c < z.length := by omega
            obtain ⟨⟨d1, d2, d3, d4⟩, hde⟩ : ∃ d, d = z[c] := ⟨_, rfl⟩
            have dg : z[c]? = some (.mk d1 d2 d3 d4) := by rw [hde]; exact List.getElem?_eq_getElem hcl
            have ed : (encVs z)[0 + (c : Int).toNat]? = some (encV (.mk d1 d2 d3 d4)) := by rw [Int.toNat_natCast, Nat.zero_add, encVs_get, dg]; rfl
            have bc : Nat.blt (c : Int).toNat l.length = true := Nat.ble_eq_true_of_le (by simp; omega)
            repeat ((first | refine grd_mk bc ?_ | refine opt_mk ed ?_ | refine setK_iff.2 ?_ | refine ⟨rfl, ?_⟩); ((conv=>whnf);repeat(refine Xg ?_;conv=>whnf)))
            have hset : encVs (z.set c (.mk b1 b2 b3 b4)) = (encVs z).set (0 + (c : Int).toNat) (encV (.mk b1 b2 b3 b4)) := by rw [encVs_set, Int.toNat_natCast, Nat.zero_add]
            exact .mk (q + 1, z.set c (.mk b1 b2 b3 b4), c + 1) [(0, 0)] ⟨by simp only; omega, by simp only; rw [List.length_set]; exact q2, by
                simp only
                rw [List.take_succ_eq_append_getElem (by rw [List.length_set]; exact hcl), List.getElem_set_self, List.take_set_of_le (Nat.le_refl c), q3, hnext], by
                simp only
                have := congrArg (List.drop 1) q4
                rw [List.drop_drop, List.drop_drop] at this
                rw [List.drop_set_of_lt (by omega)]
                exact this, by simp only; omega⟩
              (conv_mk _ rfl ⟨⟨0, _, rfl, rfl, .eq (encVs_nn _) hset.symm⟩, trivial⟩ ⟨⟨_, rfl, .slE rfl rfl⟩, ⟨_, rfl, .same _ nf⟩, ⟨_, rfl, .int hw2⟩, ⟨_, rfl, .slE rfl rfl⟩, ⟨_, rfl, .w64 (by simp only; omega) ⟨by omega, by omega⟩⟩, trivial⟩) (by simp only; omega)
        · have hqe : p + 1 + (q + 1) = l.length := by omega
          rw [hqe] at q3
          have hcz : c ≤ z.length := by omega
          have hcd : (dedN l l.length).length = c := by rw [← q3, List.length_take]; omega
          rw [hcd]
          ((conv=>whnf);repeat(refine Xg ?_;conv=>whnf))
          rw [hdq, decide_eq_false hq]
          ((conv=>whnf);repeat(refine Xg ?_;conv=>whnf))
          refine grd_mk (sl_ok (by simp; omega) (by omega) (by omega)) ?_
          ((conv=>whnf);repeat(refine Xg ?_;conv=>whnf))
          refine grd_mk (clr_ok rfl rfl rfl (by omega) (by omega)) ?_
          ((conv=>whnf);repeat(refine Xg ?_;conv=>whnf))
          refine grd_mk (sl_ok (by omega) (by simp; omega) (by omega)) ?_
          ((conv=>whnf);repeat(refine Xg ?_;conv=>whnf))
          obtain ⟨ys, hye⟩ : ∃ ys, ys = List.take (0 + (c : Int).toNat) (encVs z) ++ (List.replicate (l.length - (c : Int).toNat) (AV.agg [.int .i64 0, .int .i64 0, .str (ByteArray.mk #[]).data.toList, .nsl]) ++ List.drop (0 + (c : Int).toNat + (l.length - (c : Int).toNat)) (encVs z)) := ⟨_, rfl⟩
          rw [← hye]
          have hzn := encVs_nn z
          have htl : (List.take (0 + (c : Int).toNat) (encVs z)).length = c := by rw [List.length_take]; omega
          have hys : NNs ys := fun x hx => by
            rw [hye] at hx
            rcases List.mem_append.1 hx with hx | hx
            · exact hzn x (List.mem_of_mem_take hx)
            · rcases List.mem_append.1 hx with hx | hx
              · rw [List.eq_of_mem_replicate hx]; exact .agg' (.cons nn (.cons nn (.cons nn (.cons .nsl .nil))))
              · exact hzn x (List.mem_of_mem_drop hx)
          have hyt : ys.take c = encVs (dedN l l.length) := by
            rw [hye, List.take_append_of_le_length (by omega), List.take_take, ← q3, encVs_map, encVs_map, List.map_take]
            congr 1
            omega
          have hyl : c ≤ ys.length := by rw [hye, List.length_append, htl]; omega
          exact fin_mk (r' := .sl 0 0 c) (m' := [(0, .row 28 4 ys)]) (n' := 1) [(0, 0)] rfl ⟨⟨0, _, rfl, rfl, .same hys⟩, trivial⟩ (.slE rfl (by omega)) ⟨rfl, ys, rfl, rfl, hys, hyt, hyl⟩
    · have hpe : p + 1 = l.length := by omega
      have he := hall fun j hj => p2 j (by omega)
      rw [he]
      ((conv=>whnf);repeat(refine Xg ?_;conv=>whnf))
      rw [hdp, decide_eq_false hp]
      ((conv=>whnf);repeat(refine Xg ?_;conv=>whnf))
      exact fin_mk (r' := .sl 0 0 l.length) (m' := [(0, .row 28 4 (encVs l))]) (n' := 1) [(0, 0)] rfl ⟨⟨0, _, rfl, rfl, .same (encVs_nn _)⟩, trivial⟩ (.sl 0 0 0 _ rfl) ⟨rfl, encVs l, rfl, rfl, encVs_nn l, by rw [List.take_of_length_le (by omega)], by omega⟩
theorem vSortNone : PureC Tryz.prog [] 23 [.nsl, .fn (.func 19) [] []] (.tup []) := by
 refine pureC_of (vs := [.slice none 0 0, .func (.func 19) #[] #[]]) (fun ρ D O w xs h => ?_) (fun w _ => (Tryz.slices_SortFunc_none (α := Nat) none 0 _ w).mono ?_)
 ·obtain ⟨hl, hv⟩ := h
  match xs, hl with
  | [x, y], _ =>
   have v0 := hv 0 _ x rfl rfl
   have v1 := hv 1 _ y rfl rfl
   cases v0
   cases v1 with
   | fn f a b a1 a2 l1 l2 _ _ =>
    have e1 : a1 = #[] := Array.eq_empty_of_size_eq_zero l1.symm
    have e2 : a2 = #[] := Array.eq_empty_of_size_eq_zero l2.symm
    rw [e1, e2]
 ·rintro e w' ⟨rfl, rfl⟩
  exact ⟨.tuple #[], rfl, fun ρ D O w => .tup [] #[] rfl (by simp), Grown.refl _⟩
theorem vSort (l : List Val) (hl : l.length ≤ 4294967296) (hok : ∀ v ∈ l, okV v) : PureC Tryz.prog [] 6 [.il 4 (encVs l)] (.il 4 (encVs (sortV l))) := by
 have nf : NN (.fn (.func 25) [] []) := .fn _ _ _ (by simp) (by simp)
 have nc : NN (.fn (.func 19) [] []) := .fn _ _ _ (by simp) (by simp)
 rcases Nat.eq_zero_or_pos l.length with h0 | h0
 ·obtain rfl : l = [] := List.eq_nil_of_length_eq_zero h0
  have hcl : PureC Tryz.prog [] 44 [.il 4 [], .fn (.func 45) [] []] .nsl := by
   refine acalls_go nnΓ Tryz.func44 rfl ?_
   ((conv=>whnf);repeat(refine Xg ?_;conv=>whnf))
   exact fin_pure .nsl ⟨rfl, rfl, rfl⟩
  have hcv : PureC Tryz.prog [] 22 [.il 4 []] .nsl := by
   refine acalls_go nnΓ Tryz.func22 rfl ?_
   ((conv=>whnf);repeat(refine Xg ?_;conv=>whnf))
   refine hcl.go ?_ (.cons (.il' .nil) (.cons nn .nil)) .nsl
   ((conv=>whnf);repeat(refine Xg ?_;conv=>whnf))
   exact fin_pure .nsl ⟨rfl, rfl, rfl⟩
  have hco : PureC Tryz.prog [] 24 [.nsl, .fn (.func 25) [] []] .nsl := by
   refine acalls_go nnΓ Tryz.func24 rfl ?_
   ((conv=>whnf);repeat(refine Xg ?_;conv=>whnf))
   exact fin_pure .nsl ⟨rfl, rfl, rfl⟩
  refine acalls_go nnΓ Tryz.func6 rfl ?_
  ((conv=>whnf);repeat(refine Xg ?_;conv=>whnf))
  refine hcv.go ?_ (.cons (.il' .nil) .nil) .nsl
  ((conv=>whnf);repeat(refine Xg ?_;conv=>whnf))
  refine vSortNone.go ?_ (.cons .nsl (.cons nc .nil)) (.tup' .nil)
  ((conv=>whnf);repeat(refine Xg ?_;conv=>whnf))
  refine hco.go ?_ (.cons .nsl (.cons nf .nil)) .nsl
  ((conv=>whnf);repeat(refine Xg ?_;conv=>whnf))
  exact fin_cv (r' := .il 4 (encVs (sortV []))) (.nil 4) ⟨rfl, rfl, rfl⟩
 ·have hcl := cValuesO l hl h0 hok
  have hso := vSortFunc l h0 hl hok
  refine acalls_go nnΓ Tryz.func6 rfl ?_
  ((conv=>whnf);repeat(refine Xg ?_;conv=>whnf))
  refine ACalls.useN nnΓ [] hcl rfl (.same (.cons (.il' (encVs_nn _)) .nil)) trivial rfl ?_
  rintro r m n ⟨rfl, rfl, rfl⟩
  refine ⟨[(0, 0)], .sl 0 0 l.length, [(0, .row 28 4 (encVs l))], 1, .sl 0 0 0 _ rfl, ⟨⟨0, _, rfl, rfl, .same (encVs_nn _)⟩, trivial⟩, rfl, ?_⟩
  ((conv=>whnf);repeat(refine Xg ?_;conv=>whnf))
  refine ACalls.useR nnΓ [(0, 0)] hso rfl (.cons (.slE rfl rfl) (.cons (.same _ nc) .nil)) ⟨⟨0, _, rfl, rfl, .same (encVs_nn _)⟩, trivial⟩ rfl ?_
  rintro r m n ⟨rfl, rfl, z, z1, z2, rfl⟩
  have hzl : l.length = z.length := z1.length_eq.symm
  have hzok : ∀ v ∈ z, okV v := fun v hv => hok v (z1.mem_iff.1 hv)
  have hco := vCompact z (by omega) (by omega) hzok
  rw [ded_sort z1 z2] at hco
  refine ⟨[(0, .row 28 4 (encVs z))], .tup' .nil, ⟨⟨0, _, rfl, rfl, .same (encVs_nn _)⟩, trivial⟩, rfl, ?_⟩
  ((conv=>whnf);repeat(refine Xg ?_;conv=>whnf))
  refine ACalls.useN nnΓ [(0, 0)] hco rfl (.cons (.slE rfl hzl) (.cons (.same _ nf) .nil)) ⟨⟨0, _, rfl, rfl, .same (encVs_nn _)⟩, trivial⟩ rfl ?_
  rintro r m n ⟨rfl, ys, rfl, rfl, y1, y2, y3⟩
  refine ⟨[(0, 0)], .sl 0 0 (sortV l).length, [(0, .row 28 4 ys)], 1, .sl 0 0 0 _ rfl, ⟨⟨0, _, rfl, rfl, .same y1⟩, trivial⟩, rfl, ?_⟩
  ((conv=>whnf);repeat(refine Xg ?_;conv=>whnf))
  exact fin_cv (r' := .il 4 (encVs (sortV l))) (.fz' (id := 0) (off := 0) (len := (sortV l).length) (ys := encVs (sortV l)) rfl rfl (by omega) (by rw [List.drop_zero, y2]) (encVs_nn _)) ⟨rfl, rfl, rfl⟩
set_option maxHeartbeats 4000000
theorem sc2' (k : Int) (b : Bool) : Sc (.tup [.int .i64 k, .bool b]) := .tup _ fun j c h => by
 rcases j with _ | _ | j <;> simp at h <;> subst h
 ·exact .int _ _
 ·exact .bool _
theorem rSortO (l : List Val) (hl : l.length ≤ 4294967296) (hok : ∀ a ∈ l, okV a) :
  ACalls Tryz.prog [] 8 [.il 4 (encVs l)] [] 0 fun r m n => r = .sl 0 0 (sortV l).length ∧ m = [(0, .row 28 4 (encVs (sortV l)))] ∧ n = 1 := by
 have nl : NN (.il 4 (encVs l)) := nn
 refine acalls_go nnΓ Tryz.func8 rfl ?_
 ((conv=>whnf);repeat(refine Xg ?_;conv=>whnf))
 refine ALoop.ph 28 4 ?_
 refine ALoop.at nnΓ (fun x : Nat × List Val => x.1 ≤ l.length ∧ x.2 = sortV (l.take x.1))
  (fun x => ⟨[(0, .il 4 (encVs l)), (3, .sl 0 0 x.2.length), (4, .int .i64 x.1)], [(0, .row 28 4 (encVs x.2))], 1, 41⟩)
  (fun x => l.length - x.1) (0, []) [(0, 0)] ⟨by simp, by simp [sortV]⟩
  (conv_mk _ rfl ⟨⟨0, _, rfl, rfl, .nil⟩, trivial⟩ ⟨⟨_, rfl, .same _ nl⟩, ⟨_, rfl, .nslk 0 0 _ rfl rfl⟩, ⟨_, rfl, .same _ nn⟩, trivial⟩) ?_
 rintro ⟨k, out⟩ ⟨h1, h2⟩
 dsimp only at h1 h2 ⊢
 have hout : out.length ≤ k := by rw [h2]; have := sortV_length (l.take k); simp at this; omega
 have el := encVs_length out
 have hoko : ∀ a ∈ out, okV a := fun a ha => by rw [h2] at ha; exact hok a (List.mem_of_mem_take (sortV_mem ha))
 ((conv=>whnf);repeat(refine Xg ?_;conv=>whnf))
 refine bcs_mk (fun h => ?_) (fun h => ?_)
 ·have hk : k < l.length := klt h
  obtain ⟨ak, an, az, aks, hmem, hg, hv, e⟩ := enc_cases (l := l) (k := k) hk
  have hnext : sortV (l.take (k + 1)) = insV out (.mk ak an az aks) := by
   rw [List.take_succ_eq_append_getElem hk, sortV_snoc, ← h2, hv]
  have hf := rFind out (.mk ak an az aks) (by omega) hoko
  have hle := findV_le out (.mk ak an az aks)
  have hins : insV out (.mk ak an az aks) = if (findV out (.mk ak an az aks)).2 then out else out.take (findV out (.mk ak an az aks)).1 ++ .mk ak an az aks :: out.drop (findV out (.mk ak an az aks)).1 := rfl
  generalize findV out (.mk ak an az aks) = f at hf hle hins
  generalize insV out (.mk ak an az aks) = nw at hnext hins
  obtain ⟨p, b⟩ := f
  dsimp only at hle hins hf
  ((conv=>whnf);repeat(refine Xg ?_;conv=>whnf))
  refine opt_mk e ?_
  ((conv=>whnf);repeat(refine Xg ?_;conv=>whnf))
  refine hf.lend nnΓ (.cons (.fz' rfl rfl (by rw [encVs_length]; omega) (by rw [← encVs_length]; simp) (encVs_nn out)) (.cons (.same _ (encV_nn (.mk ak an az aks))) .nil)) (sc2' _ _) ?_
  cases b with
  | true =>
   ((conv=>whnf);repeat(refine Xg ?_;conv=>whnf))
   rw [if_pos rfl] at hins
   exact .mk (k + 1, out) [(0, 0)] ⟨by simp only; omega, by rw [← hins]; exact hnext.symm⟩ (conv_mk _ rfl ⟨⟨0, _, rfl, rfl, .same nns⟩, trivial⟩ ⟨⟨_, rfl, .same _ nl⟩, ⟨_, rfl, .sl 0 0 0 _ rfl⟩, ⟨_, rfl, .w64 (by simp) ⟨by omega, by omega⟩⟩, trivial⟩) (by simp only; omega)
  | false =>
   rw [if_neg (by simp)] at hins
   ((conv=>whnf);repeat(refine Xg ?_;conv=>whnf))
   repeat (first
    | (refine ⟨rfl, ?_⟩; ((conv=>whnf);repeat(refine Xg ?_;conv=>whnf)))
    | (refine opt_mk e ?_; ((conv=>whnf);repeat(refine Xg ?_;conv=>whnf)))
    | (refine grd_mk (sl_ok (by simp; try omega) (by simp; try omega) (by simp; try omega)) ?_; ((conv=>whnf);repeat(refine Xg ?_;conv=>whnf)))
    | (refine grd_mk (src_ok (by simp; try omega)) ?_; ((conv=>whnf);repeat(refine Xg ?_;conv=>whnf)))
    | (refine grd_mk (app_nil rfl (by simp; try omega)) ?_; ((conv=>whnf);repeat(refine Xg ?_;conv=>whnf)))
    | (refine grd_mk (app_ok rfl rfl (by simp; try omega) (by simp; try omega)) ?_; ((conv=>whnf);repeat(refine Xg ?_;conv=>whnf))))
   have hrow : List.take ((p : Int).toNat - 0) (List.drop (0 + 0) (encVs out)) ++ List.take 1 (List.drop 0 [AV.agg [.int .i64 ak, .int .i64 an, .str az, .il 4 (encVs aks)]]) ++ List.take (out.length - (p : Int).toNat) (List.drop (0 + (p : Int).toNat) (encVs out)) = encVs nw := by
    rw [hins]
    simp [encVs_map, encV, List.map_take, List.map_drop]
    exact List.take_of_length_le (by simp)
   exact .mk (k + 1, nw) [(19, 0)] ⟨by simp only; omega, hnext.symm⟩ (conv_mk _ rfl ⟨⟨19, _, rfl, rfl, .eq nns hrow⟩, trivial⟩ ⟨⟨_, rfl, .same _ nl⟩, ⟨_, rfl, .slE rfl (by have := congrArg List.length hrow; rw [List.length_append, List.length_append, encVs_length] at this; exact this)⟩, ⟨_, rfl, .w64 (by simp) ⟨by omega, by omega⟩⟩, trivial⟩) (by simp only; omega)
 ·have hk : k = l.length := by have := kge h; omega
  ((conv=>whnf);repeat(refine Xg ?_;conv=>whnf))
  rw [hk, List.take_length] at h2
  subst h2
  exact fin_mk (n' := 1) (m' := [(0, .row 28 4 (encVs (sortV l)))]) [(0, 0)] rfl ⟨⟨0, _, rfl, rfl, .same nns⟩, trivial⟩ (.sl 0 0 0 _ rfl) ⟨rfl, rfl, rfl⟩
theorem rSortP (l : List Val) (hl : l.length ≤ 4294967296) (hok : ∀ a ∈ l, okV a) : PureC Tryz.prog [] 8 [.il 4 (encVs l)] (.il 4 (encVs (sortV l))) := by
 refine ACalls.turn nnΓ ((rSortO l hl hok).mono ?_)
 rintro r m n ⟨rfl, rfl, rfl⟩
 exact fin_cv (.fz' rfl rfl (by rw [encVs_length]; omega) (by rw [← encVs_length]; simp) nns) ⟨rfl, rfl, rfl⟩
set_option maxRecDepth 1000000
def saysTrue (r : AV) : Prop := match r with | .bool b => (match b with | true => True | false => False) | _ => False
theorem saysTrue_eq {r : AV} (h : saysTrue r) : r = .bool true := by
 unfold saysTrue at h
 split at h
 ·split at h
  ·rfl
  ·exact h.elim
 ·exact h.elim
def gz : List (Nat × AV) := [(0, .ifc 168 (.ip (.agg []))), (1, .ifc 168 (.ip (.agg []))), (2, .agg ([.int .u64 1, .int .u64 10, .int .u64 100, .int .u64 1000, .int .u64 10000, .int .u64 100000, .int .u64 1000000, .int .u64 10000000, .int .u64 100000000, .int .u64 1000000000, .int .u64 10000000000, .int .u64 100000000000, .int .u64 1000000000000, .int .u64 10000000000000, .int .u64 100000000000000, .int .u64 1000000000000000, .int .u64 10000000000000000, .int .u64 100000000000000000, .int .u64 1000000000000000000, .int .u64 10000000000000000000]))]
set_option maxHeartbeats 4000000
def eqV (a b : Val) : Bool := cmpV a b == 0
theorem rEqual (a b : Val) (ho : okV a) : PureC Tryz.prog [] 10 [encV a, encV b] (.bool (eqV a b)) := by
 have hC := rCompare a b ho
 unfold eqV
 obtain ⟨c, hc⟩ : ∃ c, c = cmpV a b := ⟨_, rfl⟩
 rw [← hc] at hC ⊢
 clear hc
 refine acalls_go nnΓ Tryz.func10 rfl ?_
 obtain ⟨a1, a2, a3, a4⟩ := a
 obtain ⟨b1, b2, b3, b4⟩ := b
 ((conv=>whnf);repeat(refine Xg ?_;conv=>whnf))
 refine hC.go ?_
 ((conv=>whnf);repeat(refine Xg ?_;conv=>whnf))
 exact fin_pure (.bool _) ⟨rfl, rfl, rfl⟩
theorem eqV_self (a : Val) : eqV a a = true := by
 unfold eqV
 have := (cmpV_good a).anti a
 simp
 omega
def gPost (l : List Int) (d i : Nat) : AV → Mem → Nat → Prop := fun r m _ => ∃ (v : Val) (j : Nat), r = encV v ∧ genV d v ∧ i ≤ j ∧ j ≤ i + genCost d ∧ m = [(0, gB l j)]
theorem gFin {l : List Int} {d i j : Nat} {kd n : Int} {s : List UInt8} {kv : AV} {kids : List Val} {mem : Mem} {nx : Nat} (h0 : lk mem 0 = some (gB l j)) (hkv : Cv mem [(0, 0)] kv (.il 4 (encVs kids))) (hg : genV d (.mk kd n s kids)) (h1 : i ≤ j) (h2 : j ≤ i + genCost d) :
  Fini 1 (gPost l d i) (.agg [.int .i64 kd, .int .i64 n, .str s, kv]) mem nx :=
 fin_mk (n' := 1) (m' := [(0, gB l j)]) [(0, 0)] rfl ⟨⟨0, _, rfl, h0, .same (gNN l j)⟩, trivial⟩ (.agg' (.cons (.same _ (.int _ _)) (.cons (.same _ (.int _ _)) (.cons (.same _ (.str _)) (.cons hkv .nil))))) ⟨_, j, rfl, hg, h1, h2, rfl⟩
theorem genV_leaf {d : Nat} {k n : Int} {s : List UInt8} (h : genBase k n s []) : genV d (.mk k n s []) := by
 cases d with
 | zero => exact ⟨h, rfl⟩
 | succ d => exact ⟨h, by simp, by simp⟩
def gSt (l : List Int) (d : Nat) (kd : Int) (s : List UInt8) (n : Int) (x : List Val × Nat) : St :=
 ⟨[(0, .ptr 0 0 0), (1, .int .i64 (d + 1 : Nat)), (4, .ptr 1 0 0), (6, .ptr 2 0 0), (7, .int .i64 n), (8, .int .i64 x.1.length)],
  [(0, gB l x.2), (1, .row 28 4 [.agg [.int .i64 0, .int .i64 0, .str [], .nsl]]), (2, .row 28 4 [.agg [.int .i64 kd, .int .i64 0, .str s, .sl 3 0 x.1.length]]), (3, .row 28 4 (encVs x.1))], 4, 72⟩
theorem gLoop (l : List Int) (d j0 : Nat) (hd : d < 10) (hj0 : j0 + 3 * genCost d ≤ 4611686018427387904)
  (ih : ∀ i, i + genCost d ≤ 4611686018427387904 → ACalls Tryz.prog [] 21 [.ptr 0 0 0, .int .i64 d] [(0, gB l i)] 1 (gPost l d i))
  (kd : Int) (s : List UInt8) (n : Int) (hn0 : 0 ≤ n) (hn : n < 4) (Q : Exit → St → Prop) (st : St) (σ : List (Nat × Nat)) (h0 : Conv 1 σ ⟨st.sl, (st.nx, .row 28 4 []) :: st.mem, st.nx + 1, st.nt⟩ (gSt l d kd s n ([], j0)))
  (hQ : ∀ (ks : List Val) (j : Nat), ks.length ≤ 3 → (∀ v ∈ ks, genV d v) → j0 ≤ j → j ≤ j0 + 3 * genCost d →
   Q (.exit 1) ⟨[(0, .ptr 0 0 0), (1, .int .i64 (d + 1 : Nat)), (4, .ptr 1 0 0), (6, .ptr 2 0 0), (7, .int .i64 n), (8, .int .i64 ks.length), (57, .int .i64 ks.length), (58, .int .i64 n), (59, .bool (decide ((ks.length : Int) < n)))], (gSt l d kd s n (ks, j)).mem, 4, 72⟩) :
  AWp Tryz.prog [] 1 (.loop (nthLoop Tryz.f21 0)) st Q := by
 refine AWp.ph 28 4 ?_
 refine AWp.loopAt nnΓ (fun x : List Val × Nat => (x.1.length : Int) ≤ n ∧ (∀ v ∈ x.1, genV d v) ∧ j0 ≤ x.2 ∧ x.2 ≤ j0 + x.1.length * genCost d) (gSt l d kd s n) (fun x => 4 - x.1.length) ([], j0) σ ⟨by simpa using hn0, by simp, Nat.le_refl _, by simp⟩ h0 ?_
 rintro ⟨ks, j⟩ ⟨h1, h2, h3, h4⟩
 have hc := genCost_pos d
 simp only at h1 h2 h3 h4
 have hmul : ks.length * genCost d ≤ 3 * genCost d := Nat.mul_le_mul_right _ (by omega)
 conv => whnf
 refine bcs_mk (fun h => ?_) (fun h => ?_)
 ·have hlt : (ks.length : Int) < n := by simpa using h
  have hmul2 : ks.length * genCost d ≤ 2 * genCost d := Nat.mul_le_mul_right _ (by omega)
  conv => whnf
  refine ACalls.use1 nnΓ (ih j (by omega)) 0 rfl (gNN l j) (.cons (.ptr 0 0 0 0 rfl) (.cons (.eq (.int _ _) (by rw [wrap64 ⟨by omega, by omega⟩]; congr 1; omega)) .nil)) ?_
  rintro r m n' ⟨⟨vk, vn, vs, vks⟩, j', rfl, hv, g1, g2, rfl⟩
  refine ⟨_, rfl, encV_nn _, gNN l j', ?_⟩
  conv => whnf
  refine ⟨rfl, ?_⟩
  conv => whnf
  refine grd_mk (app_ok rfl rfl (by rw [encVs_length]) (by simp; omega)) ?_
  conv => whnf
  have hlen : ks.length + (List.take 1 (List.drop 0 [encV (Val.mk vk vn vs vks)])).length = (ks ++ [Val.mk vk vn vs vks]).length := by simp
  have hrow : encVs ks ++ List.take 1 (List.drop 0 [encV (Val.mk vk vn vs vks)]) = encVs (ks ++ [Val.mk vk vn vs vks]) := by simp [encVs_map]
  refine .mk (ks ++ [Val.mk vk vn vs vks], j') [(0, 0), (1, 1), (2, 2), (14, 3)] ⟨by simp; omega, fun v hm => ?_, by simp only; omega, ?_⟩
   (conv_mk _ rfl ⟨⟨0, _, rfl, rfl, .same (gNN l j')⟩, ⟨1, _, rfl, rfl, .same (.cons (.agg' (.cons (.int _ _) (.cons (.int _ _) (.cons (.str _) (.cons .nsl .nil))))) .nil)⟩,
    ⟨2, _, rfl, rfl, .cons (.agg (.cons (.same _ (.int _ _)) (.cons (.same _ (.int _ _)) (.cons (.same _ (.str _)) (.cons (.slE rfl hlen) .nil))))) .nil⟩,
    ⟨14, _, rfl, rfl, .eq (encVs_nn _) hrow⟩, trivial⟩
    ⟨⟨_, rfl, .ptr 0 0 0 0 rfl⟩, ⟨_, rfl, .same _ (.int _ _)⟩, ⟨_, rfl, .ptr 1 1 0 0 rfl⟩, ⟨_, rfl, .ptr 2 2 0 0 rfl⟩, ⟨_, rfl, .same _ (.int _ _)⟩, ⟨_, rfl, .eq (.int _ _) ?_⟩, trivial⟩) (by simp; omega)
  ·rcases List.mem_append.1 hm with hm | hm
   ·exact h2 v hm
   ·simp at hm; rw [hm]; exact hv
  ·simp only [List.length_append, List.length_singleton, Nat.add_mul]; omega
  ·rw [wrap64 ⟨by simp only; omega, by simp only; omega⟩]; simp
 ·conv => whnf
  exact hQ ks j (by omega) h2 h3 (by omega)
theorem gValue (l : List Int) : ∀ (d i : Nat), d ≤ 10 → i + genCost d ≤ 4611686018427387904 →
  ACalls Tryz.prog [] 21 [.ptr 0 0 0, .int .i64 d] [(0, gB l i)] 1 (gPost l d i) := by
 intro d
 induction d with
 | zero =>
  intro i _ hi
  simp only [genCost] at hi
  have hcd : genCost 0 = 6 := rfl
  refine acalls_run nnΓ Tryz.func21 rfl ?_
  conv => whnf
  refine gNextUse 7 (by omega) (by omega) (by omega) rfl fun k h1 h2 => ?_
  rcases (show (k = 0 ∨ k = 1 ∨ k = 4 ∨ k = 5) ∨ (k = 2 ∨ k = 6) ∨ k = 3 by omega) with hk | hk | rfl
  ·rcases hk with rfl | rfl | rfl | rfl
   all_goals
    conv => whnf
    refine gNextUse 5 (by omega) (by omega) (by omega) rfl fun a a1 a2 => ?_
    conv => whnf
    refine gNextUse 100 (by omega) (by omega) (by omega) rfl fun b b1 b2 => ?_
    conv => whnf
    refine gNextUse 7 (by omega) (by omega) (by omega) rfl fun c c1 c2 => ?_
    rcases (show c = 0 ∨ c = 1 ∨ c = 2 ∨ c = 3 ∨ c = 4 ∨ c = 5 ∨ c = 6 by omega) with rfl | rfl | rfl | rfl | rfl | rfl | rfl
    all_goals
     conv => whnf
     refine gFin (kids := []) rfl (.nil 4) (genV_leaf (.inl ⟨rfl, ?_, rfl, rfl⟩)) (by omega) (by omega)
     first | exact ⟨by omega, by omega⟩ | exact i64_wrap _
  ·rcases hk with rfl | rfl
   all_goals
    conv => whnf
    refine gNextUse 2 (by omega) (by omega) (by omega) rfl fun a a1 a2 => ?_
    conv => whnf
    exact gFin (kids := []) rfl (.nil 4) (genV_leaf (.inr (.inl ⟨rfl, by omega, rfl, rfl⟩))) (by omega) (by omega)
  ·conv => whnf
   refine gNextUse 4 (by omega) (by omega) (by omega) rfl fun c c1 c2 => ?_
   rcases (show c = 0 ∨ c = 1 ∨ c = 2 ∨ c = 3 by omega) with rfl | rfl | rfl | rfl
   all_goals
    conv => whnf
    exact gFin (kids := []) rfl (.nil 4) (genV_leaf (.inr (.inr (.inr ⟨rfl, rfl, by simp [genNames]⟩)))) (by omega) (by omega)
 | succ d ih =>
  intro i hd hi
  have hc := genCost_pos d
  have hcd : genCost (d + 1) = 4 * genCost d := rfl
  refine acalls_run nnΓ Tryz.func21 rfl ?_
  conv => whnf
  refine gNextUse 7 (by omega) (by omega) (by omega) rfl fun k h1 h2 => ?_
  rcases (show (k = 0 ∨ k = 1) ∨ k = 2 ∨ k = 3 ∨ (k = 4 ∨ k = 5) ∨ k = 6 by omega) with hk | rfl | rfl | hk | rfl
  ·rcases hk with rfl | rfl
   all_goals
    conv => whnf
    refine gNextUse 5 (by omega) (by omega) (by omega) rfl fun a a1 a2 => ?_
    conv => whnf
    refine gNextUse 100 (by omega) (by omega) (by omega) rfl fun b b1 b2 => ?_
    conv => whnf
    refine gNextUse 7 (by omega) (by omega) (by omega) rfl fun c c1 c2 => ?_
    rcases (show c = 0 ∨ c = 1 ∨ c = 2 ∨ c = 3 ∨ c = 4 ∨ c = 5 ∨ c = 6 by omega) with rfl | rfl | rfl | rfl | rfl | rfl | rfl
    all_goals
     conv => whnf
     refine gFin (kids := []) rfl (.nil 4) (genV_leaf (.inl ⟨rfl, ?_, rfl, rfl⟩)) (by omega) (by omega)
     first | exact ⟨by omega, by omega⟩ | exact i64_wrap _
  ·conv => whnf
   refine gNextUse 2 (by omega) (by omega) (by omega) rfl fun a a1 a2 => ?_
   conv => whnf
   exact gFin (kids := []) rfl (.nil 4) (genV_leaf (.inr (.inl ⟨rfl, by omega, rfl, rfl⟩))) (by omega) (by omega)
  ·conv => whnf
   refine gNextUse 4 (by omega) (by omega) (by omega) rfl fun c c1 c2 => ?_
   rcases (show c = 0 ∨ c = 1 ∨ c = 2 ∨ c = 3 by omega) with rfl | rfl | rfl | rfl
   all_goals
    conv => whnf
    exact gFin (kids := []) rfl (.nil 4) (genV_leaf (.inr (.inr (.inr ⟨rfl, rfl, by simp [genNames]⟩)))) (by omega) (by omega)
  ·rcases hk with rfl | rfl
   all_goals
    conv => whnf
    refine gNextUse 4 (by omega) (by omega) (by omega) rfl fun c c1 c2 => ?_
    conv => whnf
    refine gLoop l d (i + 1 + 1) (by omega) (by omega) (fun i' h => ih i' (by omega) h) 2 [] c c1 c2 _ _ [(0, 0), (1, 1), (2, 2), (3, 3)]
     (conv_mk _ rfl ⟨⟨0, _, rfl, rfl, .same (gNN l _)⟩, ⟨1, _, rfl, rfl, .same (.cons (.agg' (.cons (.int _ _) (.cons (.int _ _) (.cons (.str _) (.cons .nsl .nil))))) .nil)⟩,
      ⟨2, _, rfl, rfl, .cons (.agg (.cons (.same _ (.int _ _)) (.cons (.same _ (.int _ _)) (.cons (.same _ (.str _)) (.cons (.nslk 3 3 _ rfl rfl) .nil))))) .nil⟩,
      ⟨3, _, rfl, rfl, .nil⟩, trivial⟩
      ⟨⟨_, rfl, .ptr 0 0 0 0 rfl⟩, ⟨_, rfl, .same _ (.int _ _)⟩, ⟨_, rfl, .ptr 1 1 0 0 rfl⟩, ⟨_, rfl, .ptr 2 2 0 0 rfl⟩, ⟨_, rfl, .same _ (.int _ _)⟩, ⟨_, rfl, .same _ (.int _ _)⟩, trivial⟩) ?_
    intro ks j g1 g2 g3 g4
    conv => whnf
    exact gFin rfl (.fz' (by rfl) rfl (by simp [encVs_length]) (by simp [← encVs_length]) (encVs_nn ks)) ⟨.inr (.inr (.inl ⟨rfl, rfl, rfl⟩)), g1, g2⟩ (by omega) (by omega)
  ·conv => whnf
   refine gNextUse 3 (by omega) (by omega) (by omega) rfl fun e e1 e2 => ?_
   rcases (show e = 0 ∨ e = 1 ∨ e = 2 by omega) with rfl | rfl | rfl
   all_goals
    conv => whnf
    refine gNextUse 4 (by omega) (by omega) (by omega) rfl fun c c1 c2 => ?_
    conv => whnf
    refine gLoop l d (i + 1 + 1 + 1) (by omega) (by omega) (fun i' h => ih i' (by omega) h) 3 _ c c1 c2 _ _ [(0, 0), (1, 1), (2, 2), (4, 3)]
     (conv_mk _ rfl ⟨⟨0, _, rfl, rfl, .same (gNN l _)⟩, ⟨1, _, rfl, rfl, .same (.cons (.agg' (.cons (.int _ _) (.cons (.int _ _) (.cons (.str _) (.cons .nsl .nil))))) .nil)⟩,
      ⟨2, _, rfl, rfl, .cons (.agg (.cons (.same _ (.int _ _)) (.cons (.same _ (.int _ _)) (.cons (.same _ (.str _)) (.cons (.nslk 4 3 _ rfl rfl) .nil))))) .nil⟩,
      ⟨4, _, rfl, rfl, .nil⟩, trivial⟩
      ⟨⟨_, rfl, .ptr 0 0 0 0 rfl⟩, ⟨_, rfl, .same _ (.int _ _)⟩, ⟨_, rfl, .ptr 1 1 0 0 rfl⟩, ⟨_, rfl, .ptr 2 2 0 0 rfl⟩, ⟨_, rfl, .same _ (.int _ _)⟩, ⟨_, rfl, .same _ (.int _ _)⟩, trivial⟩) ?_
    intro ks j g1 g2 g3 g4
    conv => whnf
    exact gFin rfl (.fz' (by rfl) rfl (by simp [encVs_length]) (by simp [← encVs_length]) (encVs_nn ks)) ⟨.inr (.inr (.inr ⟨rfl, rfl, by simp [genNames]⟩)), g1, g2⟩ (by omega) (by omega)
set_option maxHeartbeats 4000000
theorem rMany (n : Nat) (hn : n ≤ 1000) : PureC Tryz.prog [] 49 [.int .i64 n] (.il 4 (encVs (manyV n))) := by
 refine acalls_run nnΓ Tryz.func49 rfl ?_
 conv => whnf
 refine AWp.ph 28 4 ?_
 refine AWp.loopAt nnΓ (fun k : Nat => k ≤ n)
  (fun k => ⟨[(0, .int .i64 n), (3, .sl 0 0 (manyV k).length), (4, .int .i64 k)], [(0, .row 28 4 (encVs (manyV k)))], 1, 17⟩)
  (fun k => n - k) 0 [(0, 0)] (by simp)
  (conv_mk _ rfl ⟨⟨0, _, rfl, rfl, .nil⟩, trivial⟩ ⟨⟨_, rfl, .same _ nn⟩, ⟨_, rfl, .nslk 0 0 _ rfl rfl⟩, ⟨_, rfl, .same _ nn⟩, trivial⟩) ?_
 intro k hk
 have hlen := manyV_length k
 conv => whnf
 refine bcs_mk (fun h => ?_) (fun h => ?_)
 ·have hlt : k < n := by simpa using h
  conv => whnf
  refine grd_mk (app_ok rfl rfl (by rw [encVs_length]) (by simp; omega)) ?_
  conv => whnf
  exact .mk (k + 1) [(2, 0)] (by omega) (conv_mk _ rfl ⟨⟨2, _, rfl, rfl, by rw [manyV_succ, encVs_snoc]; exact .snoc rfl (.same nns) (cvVal _ _ _)⟩, trivial⟩ ⟨⟨_, rfl, .same _ nn⟩, ⟨_, rfl, .slE rfl (by rw [manyV_succ]; simp)⟩, ⟨_, rfl, .w64 (by omega) ⟨by omega, by omega⟩⟩, trivial⟩) (by omega)
 ·have hk' : k = n := by simp at h; omega
  subst hk'
  conv => whnf
  exact fin_cv (.fz' rfl rfl (by rw [encVs_length]; omega) (by rw [← encVs_length]; simp) nns) ⟨rfl, rfl, rfl⟩
def bentQ (v : Val) : AV → Mem → Nat → Prop := fun r m n => ∃ v', r = encV v' ∧ okV v' ∧ sizeV v' ≤ sizeV v + 2000 ∧ m = [] ∧ n = 0
theorem bentF {v : Val} {r : AV} {m : Mem} {n : Nat} (v' : Val) (h : Cv m [] r (encV v')) (h1 : okV v') (h2 : sizeV v' ≤ sizeV v + 2000) : Fini 0 (bentQ v) r m n :=
 fin_cv h ⟨v', rfl, h1, h2, rfl, rfl⟩
theorem rBent : ∀ (v : Val) (which by_ : Int), okV v → sizeV v ≤ 1000000 → i64 by_ → ACalls Tryz.prog [] 28 [encV v, .int .i64 which, .int .i64 by_] [] 0 (bentQ v)
 | .mk vk vn vs ks, which, by_, hv, hsz, hb => by
  have hv0 := hv
  simp only [okV] at hv
  obtain ⟨hv1, hv2, hv3, hv4, hv5⟩ := hv
  have hl := sizeL_len ks
  have hsz' : sizeL ks + 1 ≤ 1000000 := by simp only [sizeV] at hsz; omega
  have ih : ∀ a ∈ ks, ∀ which, ACalls Tryz.prog [] 28 [encV a, .int .i64 which, .int .i64 by_] [] 0 (bentQ a) := fun a hm which => rBent a which by_ (okVs_mem hv5 a hm) (by have := sizeV_mem hm; omega) hb
  refine acalls_run nnΓ Tryz.func28 rfl ?_
  conv => whnf
  refine bcs_mk (fun h => ?_) (fun h => ?_)
  case' refine_1 =>
   have hpos : 0 < ks.length := by rw [encVs_length] at h; simpa using h
   rw [h]
   conv => whnf
   refine ACalls.pre nnΓ [(3, 3), (1, 1), (0, 0)] (mem' := [(3, gB [which, IntKind.i64.wrap (which.tdiv 7), IntKind.i64.wrap (which.tdiv 49)] 0), (1, .row 28 4 [.agg [.int .i64 0, .int .i64 0, .str [], .nsl]]), (0, .row 28 4 [encV (.mk vk vn vs ks)])]) rfl
    ⟨⟨3, _, rfl, rfl, .cons (.agg (.cons (.fz' rfl rfl (by simp) rfl nns) (.cons (.int rfl) .nil))) .nil⟩, ⟨1, _, rfl, rfl, .same nns⟩, ⟨0, _, rfl, rfl, .same nns⟩, trivial⟩ (.cons (.ptr 3 3 0 0 rfl) (.cons (.same _ nn) .nil)) ?_
   refine gNextAt 3 2 (by omega) (by omega) (by omega) rfl fun k h1 h2 => ?_
   conv => whnf
   refine bcs_mk (fun hk => ?_) (fun hk => ?_)
   ·conv => whnf
    refine gNextAt 3 _ (by omega) (by rw [encVs_length]; omega) (by rw [encVs_length]; omega) rfl fun j j1 j2 => ?_
    obtain ⟨q, rfl⟩ := Int.eq_ofNat_of_zero_le j1
    have hq : q < ks.length := by rw [encVs_length] at j2; omega
    obtain ⟨a, b, c, d, hm, hg, he, e1⟩ := enc_cases hq
    have hb1 : Nat.blt (q : Int).toNat (encVs ks).length = true := Nat.ble_eq_true_of_le (by rw [encVs_length]; simp; omega)
    have e2 : (encVs ks)[0 + (q : Int).toNat]? = some (encV (.mk a b c d)) := by rw [Nat.zero_add]; exact e1
    conv => whnf
    refine grd_mk (app_nil rfl (by rw [encVs_length]; omega)) ?_
    conv => whnf
    refine grd_mk hb1 ?_
    conv => whnf
    refine opt_mk e2 ?_
    conv => whnf
    refine opt_mk e2 ?_
    conv => whnf
    refine ACalls.go0 (ih _ hm _) ?_
    rintro r m n ⟨⟨a', b', c', d'⟩, rfl, o1, o2, rfl, rfl⟩
    refine ⟨_, .same _ nn, ?_⟩
    conv => whnf
    refine grd_mk hb1 ?_
    conv => whnf
    refine opt_mk e2 ?_
    conv => whnf
    refine opt_mk e2 ?_
    conv => whnf
    refine setK_iff.2 ?_
    conv => whnf
    have hset := sizeL_set (.mk a' b' c' d') hq
    rw [he] at hset
    refine bentF (.mk vk vn vs (ks.set q (.mk a' b' c' d'))) (.agg' (.cons (.same _ nn) (.cons (.same _ nn) (.cons (.same _ nn) (.cons (.fzR rfl rfl (.eq nns ?_) ?_) .nil)))))
     (okV_list hv1 hv2 hv3 (by simpa using hv4) (okVs_set hv5 o1)) (by simp only [sizeV] at hset o2 ⊢; omega)
    ·rw [encVs_set, Nat.zero_add, Int.toNat_natCast]; rfl
    ·simp [encVs_length]
   conv => whnf
   refine gNextAt 3 7 (by omega) (by omega) (by omega) rfl fun k7 h3 h4 => ?_
  case' refine_2 =>
   rw [h]
   conv => whnf
   refine ACalls.pre nnΓ [(3, 3), (1, 1), (0, 0)] (mem' := [(3, gB [which, IntKind.i64.wrap (which.tdiv 7), IntKind.i64.wrap (which.tdiv 49)] 0), (1, .row 28 4 [.agg [.int .i64 0, .int .i64 0, .str [], .nsl]]), (0, .row 28 4 [encV (.mk vk vn vs ks)])]) rfl
    ⟨⟨3, _, rfl, rfl, .cons (.agg (.cons (.fz' rfl rfl (by simp) rfl nns) (.cons (.int rfl) .nil))) .nil⟩, ⟨1, _, rfl, rfl, .same nns⟩, ⟨0, _, rfl, rfl, .same nns⟩, trivial⟩ (.cons (.ptr 3 3 0 0 rfl) (.cons (.same _ nn) .nil)) ?_
   refine gNextAt 3 7 (by omega) (by omega) (by omega) rfl fun k7 h3 h4 => ?_
  all_goals
   rcases (show k7 = 0 ∨ k7 = 1 ∨ k7 = 2 ∨ k7 = 3 ∨ k7 = 4 ∨ k7 = 5 ∨ k7 = 6 by omega) with rfl | rfl | rfl | rfl | rfl | rfl | rfl
   ·conv => whnf
    exact bentF (.mk by_ vn vs ks) (.same _ nn) (okV_list hb hv2 hv3 hv4 hv5) (by simp only [sizeV]; omega)
   ·conv => whnf
    exact bentF (.mk vk by_ vs ks) (.same _ nn) (okV_list hv1 hb hv3 hv4 hv5) (by simp only [sizeV]; omega)
   ·conv => whnf
    refine ACalls.pre nnΓ [(6, 6), (4, 4), (1, 1), (0, 0)] (mem' := [(6, gB [by_] 0), (4, .row 9 1 [.str [], .str [97], .str [90], .str [65, 66, 67, 68, 69, 70, 71, 72, 73, 74, 75, 76, 77, 78, 79, 80], .str [65, 66, 67, 68, 69, 70, 71, 72, 73, 74, 75, 76, 77, 78, 79, 80, 81], .str [65, 45], .str [65, 98, 57, 95]]), (1, .row 28 4 [.agg [.int .i64 0, .int .i64 0, .str [], .nsl]]), (0, .row 28 4 [encV (.mk vk vn vs ks)])]) rfl
     ⟨⟨6, _, rfl, rfl, .cons (.agg (.cons (.fz' rfl rfl (by simp) rfl nns) (.cons (.int rfl) .nil))) .nil⟩, ⟨4, _, rfl, rfl, .same nns⟩, ⟨1, _, rfl, rfl, .same nns⟩, ⟨0, _, rfl, rfl, .same nns⟩, trivial⟩ (.cons (.ptr 6 6 0 0 rfl) (.cons (.same _ nn) .nil)) ?_
    refine gNextAt 6 7 (by omega) (by omega) (by omega) rfl fun s s1 s2 => ?_
    rcases (show s = 0 ∨ s = 1 ∨ s = 2 ∨ s = 3 ∨ s = 4 ∨ s = 5 ∨ s = 6 by omega) with rfl | rfl | rfl | rfl | rfl | rfl | rfl
    all_goals
     conv => whnf
     exact bentF (.mk vk vn _ ks) (.same _ nn) (okV_list hv1 hv2 (by simp) hv4 hv5) (by simp only [sizeV]; omega)
   ·conv => whnf
    refine grd_mk (app_ok rfl rfl (by simp) (by rw [encVs_length]; omega)) ?_
    conv => whnf
    refine bentF (.mk vk vn vs (.mk 0 by_ [] [] :: ks)) (.agg' (.cons (.same _ nn) (.cons (.same _ nn) (.cons (.same _ nn) (.cons (.fzR rfl rfl (.cons (cvVal _ _ _) (.same nns)) ?_) .nil))))) (okV_list hv1 hv2 hv3 (by simp; omega) ⟨okV_leaf ⟨by omega, by omega⟩ hb, hv5⟩) (by simp only [sizeV, sizeL]; omega)
    simp [encVs_length]; omega
   ·conv => whnf
    refine ACalls.pre nnΓ [(5, 5), (1, 1), (0, 0)] (mem' := [(5, gB [by_] 0), (1, .row 28 4 [.agg [.int .i64 0, .int .i64 0, .str [], .nsl]]), (0, .row 28 4 [encV (.mk vk vn vs ks)])]) rfl
     ⟨⟨5, _, rfl, rfl, .cons (.agg (.cons (.fz' rfl rfl (by simp) rfl nns) (.cons (.int rfl) .nil))) .nil⟩, ⟨1, _, rfl, rfl, .same nns⟩, ⟨0, _, rfl, rfl, .same nns⟩, trivial⟩ (.cons (.ptr 5 5 0 0 rfl) (.cons (.same _ nn) .nil)) ?_
    refine gNextAt 5 6 (by omega) (by omega) (by omega) rfl fun s s1 s2 => ?_
    conv => whnf
    have hw : IntKind.i64.wrap (253 + s) = ((253 + s.toNat : Nat) : Int) := w64 (by omega) ⟨by omega, by omega⟩
    rw [hw]
    refine (rMany (253 + s.toNat) (by omega)).go ?_
    conv => whnf
    exact bentF (.mk 2 0 [] (manyV (253 + s.toNat))) (.same _ nn) (okV_list ⟨by omega, by omega⟩ ⟨by omega, by omega⟩ (by simp) (by rw [manyV_length]; omega) (manyV_ok _)) (by simp only [sizeV, manyV_size]; omega)
   ·conv => whnf
    refine ACalls.pre nnΓ [(5, 5), (1, 1), (0, 0)] (mem' := [(5, gB [by_] 0), (1, .row 28 4 [.agg [.int .i64 0, .int .i64 0, .str [], .nsl]]), (0, .row 28 4 [encV (.mk vk vn vs ks)])]) rfl
     ⟨⟨5, _, rfl, rfl, .cons (.agg (.cons (.fz' rfl rfl (by simp) rfl nns) (.cons (.int rfl) .nil))) .nil⟩, ⟨1, _, rfl, rfl, .same nns⟩, ⟨0, _, rfl, rfl, .same nns⟩, trivial⟩ (.cons (.ptr 5 5 0 0 rfl) (.cons (.same _ nn) .nil)) ?_
    refine gNextAt 5 5 (by omega) (by omega) (by omega) rfl fun s s1 s2 => ?_
    conv => whnf
    have hw : IntKind.i64.wrap (14 + s) = ((14 + s.toNat : Nat) : Int) := w64 (by omega) ⟨by omega, by omega⟩
    rw [hw]
    refine (rMany (14 + s.toNat) (by omega)).go ?_
    conv => whnf
    exact bentF (.mk 3 0 [77] (manyV (14 + s.toNat))) (.same _ nn) (okV_list ⟨by omega, by omega⟩ ⟨by omega, by omega⟩ (by simp) (by rw [manyV_length]; omega) (manyV_ok _)) (by simp only [sizeV, manyV_size]; omega)
   ·conv => whnf
    refine (rMany 250 (by omega)).go ?_
    conv => whnf
    refine (rMany 255 (by omega)).go ?_
    conv => whnf
    refine (rMany 256 (by omega)).go ?_
    conv => whnf
    refine ACalls.pre nnΓ [(5, 5), (1, 1), (0, 0)] (mem' := [(5, gB [by_] 0), (1, .row 28 4 [.agg [.int .i64 0, .int .i64 0, .str [], .nsl]]), (0, .row 28 4 [encV (.mk vk vn vs ks)])]) rfl
     ⟨⟨5, _, rfl, rfl, .cons (.agg (.cons (.fz' rfl rfl (by simp) rfl nns) (.cons (.int rfl) .nil))) .nil⟩, ⟨1, _, rfl, rfl, .same nns⟩, ⟨0, _, rfl, rfl, .same nns⟩, trivial⟩ (.cons (.ptr 5 5 0 0 rfl) (.cons (.same _ nn) .nil)) ?_
    refine gNextAt 5 5 (by omega) (by omega) (by omega) rfl fun s s1 s2 => ?_
    conv => whnf
    have hw : IntKind.i64.wrap (252 + s) = ((252 + s.toNat : Nat) : Int) := w64 (by omega) ⟨by omega, by omega⟩
    rw [hw]
    refine (rMany (252 + s.toNat) (by omega)).go ?_
    conv => whnf
    refine bentF (.mk 2 0 [] [.mk 2 0 [] (manyV 250), .mk 2 0 [] (manyV 255), .mk 2 0 [] (manyV 256), .mk 2 0 [] (manyV (252 + s.toNat)), .mk 0 by_ [] [], .mk 0 1 [] []])
     (.agg' (.cons (.same _ nn) (.cons (.same _ nn) (.cons (.same _ nn) (.cons (.fzR rfl rfl (.cons (CvE.same (x := encV (.mk 2 0 [] (manyV 250))) nn) (.cons (CvE.same (x := encV (.mk 2 0 [] (manyV 255))) nn) (.cons (CvE.same (x := encV (.mk 2 0 [] (manyV 256))) nn) (.cons (CvE.same (x := encV (.mk 2 0 [] (manyV (252 + s.toNat)))) nn) (.cons (cvVal _ _ _) (.cons (cvVal _ _ _) .nil)))))) rfl) .nil)))))
     ?_ (by simp only [sizeV, sizeL, manyV_size]; omega)
    have hz : i64 0 := ⟨by omega, by omega⟩
    have h2 : i64 2 := ⟨by omega, by omega⟩
    have hmany : ∀ n : Nat, n ≤ 4294967296 → okV (.mk 2 0 [] (manyV n)) := fun n hn => okV_list h2 hz (by simp) (by rw [manyV_length]; omega) (manyV_ok _)
    exact okV_list h2 hz (by simp) (by simp) ⟨hmany _ (by omega), hmany _ (by omega), hmany _ (by omega), hmany _ (by omega), okV_leaf hz hb, okV_leaf hz ⟨by omega, by omega⟩, trivial⟩
 termination_by v => SizeOf.sizeOf v
 decreasing_by simp; have := List.sizeOf_lt_of_mem hm; omega
theorem rSome (l : List Int) (bent by_ : Int) (hb : i64 by_) : ACalls Tryz.prog [] 11 [.il 1 (Go.Ax.encI l), .int .i64 bent, .int .i64 by_] [] 0 fun r m n => ∃ v', r = encV v' ∧ okV v' ∧ sizeV v' ≤ 10000 ∧ (bent ≤ 0 → genV 3 v') ∧ m = [] ∧ n = 0 := by
 refine acalls_run nnΓ Tryz.func11 rfl ?_
 conv => whnf
 refine ACalls.use1 nnΓ (gValue l 3 0 (by omega) (by decide)) 1 rfl (gNN l 0) (.cons (.ptr 1 0 0 0 rfl) (.cons (.same _ nn) .nil)) ?_
 rintro r m n ⟨⟨a, b, c, d⟩, j, rfl, hv, g1, g2, rfl⟩
 have hok := genV_ok hv
 have hsz := genV_size hv
 refine ⟨_, rfl, nn, gNN l j, ?_⟩
 conv => whnf
 refine bcs_mk (fun h => ?_) (fun h => ?_)
 ·have h : 0 < bent := by simpa using h
  conv => whnf
  refine ACalls.go0 (rBent (.mk a b c d) bent by_ hok (by omega) hb) ?_
  rintro r m n ⟨⟨a', b', c', d'⟩, rfl, o1, o2, rfl, rfl⟩
  refine ⟨_, .same _ nn, ?_⟩
  conv => whnf
  exact fin_pure nn ⟨_, rfl, o1, by omega, fun h' => by omega, rfl, rfl⟩
 ·conv => whnf
  exact fin_pure nn ⟨_, rfl, hok, by omega, fun _ => hv, rfl, rfl⟩
set_option maxRecDepth 1000000
theorem lives10 : ((fdeep Tryz.prog gz 60).call 13 [] [] 0 fun r _ _ => saysTrue r) = True := by kernel_rfl
set_option maxHeartbeats 16000000
set_option linter.unusedSimpArgs false
theorem rValues (l : List Int) (most : Nat) (hm : most ≤ 1000) :
  ACalls Tryz.prog [] 5 [.il 1 (Go.Ax.encI l), .int .i64 most] [] 0 fun r m n => ∃ vs, r = .il 4 (encVs vs) ∧ vs.length ≤ most ∧ (∀ v ∈ vs, genV 2 v) ∧ m = [] ∧ n = 0 := by
 have hc2 : genCost 2 = 96 := rfl
 refine acalls_run nnΓ Tryz.func5 rfl ?_
 conv => whnf
 rw [wrap64 (n := (most : Int) + 1) ⟨by omega, by omega⟩]
 refine gNextUse (i := 0) (l := l) ((most : Int) + 1) (by omega) (by omega) (by omega) rfl fun n h1 h2 => ?_
 conv => whnf
 refine AWp.ph 28 4 ?_
 refine AWp.loopAt nnΓ (fun x : List Val × Nat => (x.1.length : Int) ≤ n ∧ (∀ v ∈ x.1, genV 2 v) ∧ x.2 ≤ 1 + x.1.length * genCost 2)
  (fun x => ⟨[(5, .ptr 0 0 0), (6, .sl 1 0 x.1.length), (7, .int .i64 n), (8, .int .i64 x.1.length)], [(0, gB l x.2), (1, .row 28 4 (encVs x.1))], 2, 27⟩)
  (fun x => n.toNat - x.1.length) ([], 1) [(0, 0), (1, 1)] ⟨by simpa using h1, by simp, by simp⟩
  (conv_mk _ rfl ⟨⟨0, _, rfl, rfl, .same (gNN l _)⟩, ⟨1, _, rfl, rfl, .nil⟩, trivial⟩ ⟨⟨_, rfl, .ptr 0 0 0 0 rfl⟩, ⟨_, rfl, .nslk 1 1 _ rfl rfl⟩, ⟨_, rfl, .same _ (.int _ _)⟩, ⟨_, rfl, .same _ (.int _ _)⟩, trivial⟩) ?_
 rintro ⟨ks, j⟩ ⟨k1, k2, k3⟩
 dsimp only at k1 k2 k3 ⊢
 rw [hc2] at k3
 conv => whnf
 refine bcs_mk (fun h => ?_) (fun h => ?_)
 ·have hlt : (ks.length : Int) < n := by simpa using h
  conv => whnf
  refine ACalls.use1 nnΓ (gValue l 2 j (by omega) (by omega)) 0 rfl (gNN l j) (.cons (.ptr 0 0 0 0 rfl) (.cons (.same _ (.int _ _)) .nil)) ?_
  rintro r m n' ⟨⟨vk, vn, vs, vks⟩, j', rfl, hv, g1, g2, rfl⟩
  refine ⟨_, rfl, encV_nn _, gNN l j', ?_⟩
  conv => whnf
  refine grd_mk (app_ok rfl rfl (by rw [encVs_length]) (by simp; omega)) ?_
  conv => whnf
  have hlen : ks.length + (List.take 1 (List.drop 0 [encV (Val.mk vk vn vs vks)])).length = (ks ++ [Val.mk vk vn vs vks]).length := by simp
  have hrow : encVs ks ++ List.take 1 (List.drop 0 [encV (Val.mk vk vn vs vks)]) = encVs (ks ++ [Val.mk vk vn vs vks]) := by simp [encVs_map]
  refine .mk (ks ++ [Val.mk vk vn vs vks], j') [(0, 0), (3, 1)] ⟨by simp; omega, fun v hm => ?_, ?_⟩
   (conv_mk _ rfl ⟨⟨0, _, rfl, rfl, .same (gNN l j')⟩, ⟨3, _, rfl, rfl, .eq (encVs_nn _) hrow⟩, trivial⟩
    ⟨⟨_, rfl, .ptr 0 0 0 0 rfl⟩, ⟨_, rfl, .slE rfl hlen⟩, ⟨_, rfl, .same _ (.int _ _)⟩, ⟨_, rfl, .eq (.int _ _) ?_⟩, trivial⟩) (by simp; omega)
  ·rcases List.mem_append.1 hm with hm | hm
   ·exact k2 v hm
   ·simp at hm; rw [hm]; exact hv
  ·simp only [List.length_append, List.length_singleton, hc2]; omega
  ·rw [wrap64 ⟨by omega, by omega⟩]; simp
 ·conv => whnf
  exact fin_cv (.fz' rfl rfl (by rw [encVs_length]; omega) (by rw [← encVs_length]; simp) (encVs_nn ks)) ⟨ks, rfl, by omega, k2, rfl, rfl⟩
theorem rSameT (l : List Val) (hl : l.length ≤ 4294967296) (hok : ∀ v ∈ l, okV v) : PureC Tryz.prog [] 7 [.il 4 (encVs l), .il 4 (encVs l)] (.bool true) := by
 have hlen := encVs_length l
 refine acalls_go nnΓ Tryz.func7 rfl ?_
 ((conv=>whnf);repeat(refine Xg ?_;conv=>whnf))
 rw [bne_self_eq_false]
 ((conv=>whnf);repeat(refine Xg ?_;conv=>whnf))
 refine ALoop.at nnΓ (fun k : Nat => k ≤ l.length) (fun k => ⟨[(0, .il 4 (encVs l)), (1, .il 4 (encVs l)), (5, .int .i64 k)], [], 0, 29⟩) (fun k => l.length - k) 0 [] (by omega)
  (conv_pure ⟨⟨_, rfl, .same _ (.il' (encVs_nn _))⟩, ⟨_, rfl, .same _ (.il' (encVs_nn _))⟩, ⟨_, rfl, .same _ nn⟩, trivial⟩) ?_
 intro k hk
 ((conv=>whnf);repeat(refine Xg ?_;conv=>whnf))
 refine bcs_mk (fun hb => ?_) (fun hb => ?_)
 ·have hlt : k < l.length := by rw [hlen] at hb; simp at hb; omega
  obtain ⟨v1, v2, v3, v4, vm, vg, -, ev⟩ := enc_cases (l := l) (k := k) hlt
  have hc := rCompare (.mk v1 v2 v3 v4) (.mk v1 v2 v3 v4) (hok _ vm)
  rw [cmpV_self] at hc
  ((conv=>whnf);repeat(refine Xg ?_;conv=>whnf))
  repeat ((first | refine opt_mk ev ?_ | refine setK_iff.2 ?_ | refine ⟨rfl, ?_⟩); ((conv=>whnf);repeat(refine Xg ?_;conv=>whnf)))
  refine hc.go ?_
  ((conv=>whnf);repeat(refine Xg ?_;conv=>whnf))
  repeat ((first | refine setK_iff.2 ?_ | refine ⟨rfl, ?_⟩); ((conv=>whnf);repeat(refine Xg ?_;conv=>whnf)))
  exact .mk (k + 1) [] (by omega) (conv_pure ⟨⟨_, rfl, .same _ (.il' (encVs_nn _))⟩, ⟨_, rfl, .same _ (.il' (encVs_nn _))⟩, ⟨_, rfl, .w64 (by omega) ⟨by omega, by omega⟩⟩, trivial⟩) (by omega)
 ·((conv=>whnf);repeat(refine Xg ?_;conv=>whnf))
  exact fin_pure (.bool _) ⟨rfl, rfl, rfl⟩
set_option maxHeartbeats 16000000
set_option linter.unusedSimpArgs false
theorem nngz : ∀ p ∈ gz, NN p.2 := fun p hp => by
 simp only [gz, List.mem_cons, List.not_mem_nil, or_false] at hp
 rcases hp with rfl | rfl | rfl
 ·exact nn
 ·exact nn
 ·exact nn
theorem lawSortsW (l m : List Int) (_ : ∀ x ∈ l, i64 x) (_ : ∀ x ∈ m, i64 x) : PureC Tryz.prog gz 3 [.il 1 (Go.Ax.encI l), .il 1 (Go.Ax.encI m)] (.bool true) := by
 have hV : ACalls Tryz.prog [] 5 [.il 1 (Go.Ax.encI l), .int .i64 12] [] 0 fun r m n => ∃ vs, r = .il 4 (encVs vs) ∧ vs.length ≤ 12 ∧ (∀ v ∈ vs, genV 2 v) ∧ m = [] ∧ n = 0 := rValues l 12 (by omega)
 refine acalls_go nngz Tryz.func3 rfl ?_
 ((conv=>whnf);repeat(refine Xg ?_;conv=>whnf))
 refine ACalls.goG0 hV ?_
 rintro r m' n' ⟨vs, rfl, hvl, hvg, rfl, rfl⟩
 refine ⟨_, .same _ (.il' (encVs_nn vs)), ?_⟩
 have hok : ∀ v ∈ vs, okV v := fun v h => genV_ok (hvg v h)
 have hS := vSort vs (by omega) hok
 have hR := rSortP vs (by omega) hok
 have hsl : (sortV vs).length ≤ 12 := Nat.le_trans (sortV_length vs) hvl
 have hsrt := sortV_srt vs
 have hmem := sortV_iff vs
 have heq := fun (bk : List Val) (h : ∀ x, x ∈ bk ↔ x ∈ vs) => sortV_eq h
 generalize sortV vs = S at *
 have hsok : ∀ v ∈ S, okV v := fun v h => hok v ((hmem v).1 h)
 have hSame := rSameT S (by omega) hsok
 have hS2 := vSort S (by omega) hsok
 rw [sortV_of_srt hsrt] at hS2
 have nS : NN (.il 4 (encVs S)) := .il' (encVs_nn S)
 have nv : NN (.il 4 (encVs vs)) := .il' (encVs_nn vs)
 have nm : NN (.il 1 (Go.Ax.encI m)) := .il' (encI_nn m)
 have hlen := encVs_length vs
 have hlenS := encVs_length S
 ((conv=>whnf);repeat(refine Xg ?_;conv=>whnf))
 refine hS.goG ?_ (.cons nv .nil) nS
 ((conv=>whnf);repeat(refine Xg ?_;conv=>whnf))
 repeat ((first | refine setK_iff.2 ?_ | refine ⟨rfl, ?_⟩); ((conv=>whnf);repeat(refine Xg ?_;conv=>whnf)))
 refine hR.goG ?_ (.cons nv .nil) nS
 ((conv=>whnf);repeat(refine Xg ?_;conv=>whnf))
 repeat ((first | refine setK_iff.2 ?_ | refine ⟨rfl, ?_⟩); ((conv=>whnf);repeat(refine Xg ?_;conv=>whnf)))
 refine hSame.goG ?_ (.cons nS (.cons nS .nil)) (.bool _)
 ((conv=>whnf);repeat(refine Xg ?_;conv=>whnf))
 repeat ((first | refine setK_iff.2 ?_ | refine ⟨rfl, ?_⟩); ((conv=>whnf);repeat(refine Xg ?_;conv=>whnf)))
 refine hS2.goG ?_ (.cons nS .nil) nS
 ((conv=>whnf);repeat(refine Xg ?_;conv=>whnf))
 repeat ((first | refine setK_iff.2 ?_ | refine ⟨rfl, ?_⟩); ((conv=>whnf);repeat(refine Xg ?_;conv=>whnf)))
 refine hSame.goG ?_ (.cons nS (.cons nS .nil)) (.bool _)
 ((conv=>whnf);repeat(refine Xg ?_;conv=>whnf))
 repeat ((first | refine setK_iff.2 ?_ | refine ⟨rfl, ?_⟩); ((conv=>whnf);repeat(refine Xg ?_;conv=>whnf)))
 refine ALoop.ph 28 4 ?_
 refine ALoop.at nngz (fun p : Nat × List Val => p.1 ≤ vs.length ∧ p.2.length = 2 * (vs.length - p.1) ∧ ∀ x, x ∈ p.2 ↔ x ∈ vs.drop p.1)
  (fun p => ⟨[(1, .il 1 (Go.Ax.encI m)), (5, .il 4 (encVs vs)), (6, .il 4 (encVs S)), (7, .sl 0 0 p.2.length), (8, .int .i64 ((p.1 : Int) - 1))], [(0, .row 28 4 (encVs p.2))], 1, 120⟩)
  (fun p => p.1) (vs.length, []) [(0, 0)] ⟨Nat.le_refl _, by simp, by simp⟩
  (conv_mk _ rfl ⟨⟨0, _, rfl, rfl, .nil⟩, trivial⟩ ⟨⟨_, rfl, .same _ nm⟩, ⟨_, rfl, .same _ nv⟩, ⟨_, rfl, .same _ nS⟩, ⟨_, rfl, .nslk 0 0 _ rfl rfl⟩, ⟨_, rfl, .int (by rw [hlen, wrap64 ⟨by omega, by omega⟩])⟩, trivial⟩) ?_
 rintro ⟨p, bk⟩ ⟨p1, p2, p3⟩
 simp only at p1 p2 p3 ⊢
 have hdp : decide ((p : Int) - 1 ≥ 0) = decide (0 < p) := decide_eq_decide.2 (by omega)
 by_cases hp : 0 < p
 ·obtain ⟨y, rfl⟩ : ∃ y, p = y + 1 := ⟨p - 1, by omega⟩
  have hy : (((y + 1 : Nat) : Int) - 1) = (y : Int) := by omega
  obtain ⟨v1, v2, v3, v4, vm, vg, -, ev⟩ := enc_cases (l := vs) (k := y) (by omega)
  have hbl := encVs_length bk
  have hw : IntKind.i64.wrap ((y : Int) - 1) = (y : Int) - 1 := wrap64 ⟨by omega, by omega⟩
  have hrow : encVs bk ++ List.take 2 (List.drop 0 [encV (.mk v1 v2 v3 v4), encV (.mk v1 v2 v3 v4)]) = encVs (bk ++ [.mk v1 v2 v3 v4, .mk v1 v2 v3 v4]) := by simp [encVs_map]
  have hdrop : vs.drop y = .mk v1 v2 v3 v4 :: vs.drop (y + 1) := by
   rw [List.drop_eq_getElem_cons (by omega)]
   rw [List.getElem?_eq_getElem (by omega)] at vg
   rw [Option.some.inj vg]
  ((conv=>whnf);repeat(refine Xg ?_;conv=>whnf))
  rw [hdp, decide_eq_true hp, hy]
  ((conv=>whnf);repeat(refine Xg ?_;conv=>whnf))
  repeat ((first | refine opt_mk ev ?_ | refine setK_iff.2 ?_ | refine ⟨rfl, ?_⟩); ((conv=>whnf);repeat(refine Xg ?_;conv=>whnf)))
  refine grd_mk (app_ok rfl rfl (by rw [hbl]) (by simp; omega)) ?_
  ((conv=>whnf);repeat(refine Xg ?_;conv=>whnf))
  exact .mk (y, bk ++ [Val.mk v1 v2 v3 v4, Val.mk v1 v2 v3 v4]) [(13, 0)] ⟨by simp only; omega, by simp only [List.length_append]; simp; omega, fun x => by
    simp only
    rw [hdrop, List.mem_append, p3]
    simp only [List.mem_cons, List.not_mem_nil, or_false]
    constructor
    ·rintro (h | h | h)
     ·exact .inr h
     ·exact .inl h
     ·exact .inl h
    ·rintro (h | h)
     ·exact .inr (.inl h)
     ·exact .inl h⟩
   (conv_mk _ rfl ⟨⟨13, _, rfl, rfl, .eq (encVs_nn _) hrow⟩, trivial⟩ ⟨⟨_, rfl, .same _ nm⟩, ⟨_, rfl, .same _ nv⟩, ⟨_, rfl, .same _ nS⟩, ⟨_, rfl, .slE rfl (by simp)⟩, ⟨_, rfl, .int hw⟩, trivial⟩) (by simp only; omega)
 ·have hp0 : p = 0 := by omega
  subst hp0
  rw [List.drop_zero] at p3
  have hbok : ∀ v ∈ bk, okV v := fun v h => hok v ((p3 v).1 h)
  have hB := vSort bk (by omega) hbok
  rw [heq bk p3] at hB
  have hbl := encVs_length bk
  have nb : NN (.il 4 (encVs bk)) := .il' (encVs_nn bk)
  ((conv=>whnf);repeat(refine Xg ?_;conv=>whnf))
  rw [hdp, decide_eq_false hp]
  ((conv=>whnf);repeat(refine Xg ?_;conv=>whnf))
  refine ACalls.pre nngz [] (mem' := []) rfl trivial (.cons (.fz' (id := 0) (off := 0) (len := bk.length) (ys := encVs bk) rfl rfl (by omega) (by rw [List.drop_zero, List.take_of_length_le (by omega)]) (encVs_nn bk)) .nil) ?_
  refine hB.goG ?_ (.cons nb .nil) nS
  ((conv=>whnf);repeat(refine Xg ?_;conv=>whnf))
  repeat ((first | refine setK_iff.2 ?_ | refine ⟨rfl, ?_⟩); ((conv=>whnf);repeat(refine Xg ?_;conv=>whnf)))
  refine hSame.goG ?_ (.cons nS (.cons nS .nil)) (.bool _)
  ((conv=>whnf);repeat(refine Xg ?_;conv=>whnf))
  repeat ((first | refine setK_iff.2 ?_ | refine ⟨rfl, ?_⟩); ((conv=>whnf);repeat(refine Xg ?_;conv=>whnf)))
  refine ALoop.at nngz (fun i : Nat => i ≤ vs.length)
   (fun i => ⟨[(1, .il 1 (Go.Ax.encI m)), (5, .il 4 (encVs vs)), (6, .il 4 (encVs S)), (9, .int .i64 i)], [], 0, 120⟩) (fun i => vs.length - i) 0 [] (by omega)
   (conv_pure ⟨⟨_, rfl, .same _ nm⟩, ⟨_, rfl, .same _ nv⟩, ⟨_, rfl, .same _ nS⟩, ⟨_, rfl, .same _ nn⟩, trivial⟩) ?_
  intro i hi
  have hdi : decide ((i : Int) < ((encVs vs).length : Int)) = decide (i < vs.length) := by rw [hlen]; exact decide_eq_decide.2 (by omega)
  by_cases hlt : i < vs.length
  ·obtain ⟨v1, v2, v3, v4, vm, vg, -, ev⟩ := enc_cases (l := vs) (k := i) hlt
   have hf := vFind S (.mk v1 v2 v3 v4) (by omega) hsok hsrt
   obtain ⟨k, fk, hk, hg⟩ := findV_mem hsrt ((hmem _).2 vm)
   rw [fk] at hf
   have hf : PureC Tryz.prog [] 9 [.il 4 (encVs S), encV (.mk v1 v2 v3 v4)] (.tup [.int .i64 k, .bool true]) := hf
   have hq := rEqual (.mk v1 v2 v3 v4) (.mk v1 v2 v3 v4) (hok _ vm)
   rw [eqV_self] at hq
   have es : (encVs S)[((k : Nat) : Int).toNat]? = some (encV (.mk v1 v2 v3 v4)) := by rw [Int.toNat_natCast, encVs_get, hg]; rfl
   have z1 : decide ((k : Int) < 0) = false := decide_eq_false (by omega)
   have z2 : decide ((k : Int) ≥ ((encVs S).length : Int)) = false := by rw [hlenS]; exact decide_eq_false (by omega)
   ((conv=>whnf);repeat(refine Xg ?_;conv=>whnf))
   rw [hdi, decide_eq_true hlt]
   ((conv=>whnf);repeat(refine Xg ?_;conv=>whnf))
   repeat ((first | refine opt_mk ev ?_ | refine setK_iff.2 ?_ | refine ⟨rfl, ?_⟩); ((conv=>whnf);repeat(refine Xg ?_;conv=>whnf)))
   refine hf.goG ?_ (.cons nS (.cons (encV_nn _) .nil)) (.tup' (.cons nn (.cons (.bool _) .nil)))
   ((conv=>whnf);repeat(refine Xg ?_;conv=>whnf))
   repeat ((first | refine setK_iff.2 ?_ | refine ⟨rfl, ?_⟩); ((conv=>whnf);repeat(refine Xg ?_;conv=>whnf)))
   rw [z1]
   ((conv=>whnf);repeat(refine Xg ?_;conv=>whnf))
   repeat ((first | refine setK_iff.2 ?_ | refine ⟨rfl, ?_⟩); ((conv=>whnf);repeat(refine Xg ?_;conv=>whnf)))
   rw [z2]
   ((conv=>whnf);repeat(refine Xg ?_;conv=>whnf))
   repeat ((first | refine opt_mk es ?_ | refine opt_mk ev ?_ | refine setK_iff.2 ?_ | refine ⟨rfl, ?_⟩); ((conv=>whnf);repeat(refine Xg ?_;conv=>whnf)))
   refine hq.goG ?_ (.cons (encV_nn _) (.cons (encV_nn _) .nil)) (.bool _)
   ((conv=>whnf);repeat(refine Xg ?_;conv=>whnf))
   repeat ((first | refine setK_iff.2 ?_ | refine ⟨rfl, ?_⟩); ((conv=>whnf);repeat(refine Xg ?_;conv=>whnf)))
   exact .mk (i + 1) [] (by omega) (conv_pure ⟨⟨_, rfl, .same _ nm⟩, ⟨_, rfl, .same _ nv⟩, ⟨_, rfl, .same _ nS⟩, ⟨_, rfl, .w64 (by omega) ⟨by omega, by omega⟩⟩, trivial⟩) (by omega)
  ·((conv=>whnf);repeat(refine Xg ?_;conv=>whnf))
   rw [hdi, decide_eq_false hlt]
   ((conv=>whnf);repeat(refine Xg ?_;conv=>whnf))
   have hsm : ACalls Tryz.prog [] 11 [.il 1 (Go.Ax.encI m), .int .i64 0, .int .i64 0] [] 0 _ := rSome m 0 0 ⟨by omega, by omega⟩
   refine ACalls.goG0 hsm ?_
   rintro r m' n' ⟨⟨a1, a2, a3, a4⟩, rfl, oa, sa, -, rfl, rfl⟩
   refine ⟨_, .same _ (encV_nn _), ?_⟩
   have hf := vFind S (.mk a1 a2 a3 a4) (by omega) hsok hsrt
   have hr := rFind S (.mk a1 a2 a3 a4) (by omega) hsok
   generalize findV S (.mk a1 a2 a3 a4) = fr at *
   obtain ⟨k, b⟩ := fr
   simp only at hf hr
   ((conv=>whnf);repeat(refine Xg ?_;conv=>whnf))
   repeat ((first | refine setK_iff.2 ?_ | refine ⟨rfl, ?_⟩); ((conv=>whnf);repeat(refine Xg ?_;conv=>whnf)))
   refine hf.goG ?_ (.cons nS (.cons (encV_nn (.mk a1 a2 a3 a4)) .nil)) (.tup' (.cons nn (.cons (.bool _) .nil)))
   ((conv=>whnf);repeat(refine Xg ?_;conv=>whnf))
   repeat ((first | refine setK_iff.2 ?_ | refine ⟨rfl, ?_⟩); ((conv=>whnf);repeat(refine Xg ?_;conv=>whnf)))
   refine hr.goG ?_ (.cons nS (.cons (encV_nn (.mk a1 a2 a3 a4)) .nil)) (.tup' (.cons nn (.cons (.bool _) .nil)))
   ((conv=>whnf);repeat(refine Xg ?_;conv=>whnf))
   repeat ((first | refine setK_iff.2 ?_ | refine ⟨rfl, ?_⟩); ((conv=>whnf);repeat(refine Xg ?_;conv=>whnf)))
   rw [beq_self_eq_true]
   ((conv=>whnf);repeat(refine Xg ?_;conv=>whnf))
   rw [show (b == b) = true by cases b <;> rfl]
   ((conv=>whnf);repeat(refine Xg ?_;conv=>whnf))
   repeat ((first | refine setK_iff.2 ?_ | refine ⟨rfl, ?_⟩); ((conv=>whnf);repeat(refine Xg ?_;conv=>whnf)))
   refine ACalls.call0 nngz (acalls_closed 60 (by rw [lives10]; trivial)) .nil ?_
   intro r m' n' hr
   rw [saysTrue_eq hr]
   refine ⟨_, .same _ (.bool true), ?_⟩
   ((conv=>whnf);repeat(refine Xg ?_;conv=>whnf))
   repeat ((first | refine setK_iff.2 ?_ | refine ⟨rfl, ?_⟩); ((conv=>whnf);repeat(refine Xg ?_;conv=>whnf)))
   exact fin_pure (.bool _) ⟨rfl, rfl, rfl⟩
end Go.Proofs.YtndfionmfihcoaaGreatDoor
namespace Go.Proofs.YtndfionmfihcoaaGreatDoor.ValuesSorts
open Go.ChangeShapes Go.WideShapes Go.ChangeAt Go.RowKit Go.Lib Go.Ax
theorem own : ownKnob Tryz.prog.godebug = none := by kernel_rfl
theorem laidOut : laidOutB Tryz.prog = true := by kernel_rfl
theorem cells3 : Tryz.prog.cellsOf 3 = 1 := by kernel_rfl
theorem gName : Tryz.prog.globalNamed "strconv.ErrSyntax" = some 0 := by kernel_rfl
theorem gNameR : Tryz.prog.globalNamed "strconv.ErrRange" = some 1 := by kernel_rfl
theorem gNameP : Tryz.prog.globalNamed "internal/strconv.uint64pow10" = some 2 := by kernel_rfl
theorem gType : (Tryz.prog.globals[0]?).map (·.type) = some 123 := by kernel_rfl
theorem gTypeR : (Tryz.prog.globals[1]?).map (·.type) = some 123 := by kernel_rfl
theorem gTypeP : (Tryz.prog.globals[2]?).map (·.type) = some 171 := by kernel_rfl
theorem star : "*" ++ "errors.errorString" = "*errors.errorString" := by decide
theorem named (u : TypeId) (h : Tryz.prog.typeName? 3 u = some "*errors.errorString") : u = 168 :=
 typeName_ptr_named (nm := "errors.errorString") (by rw [star]; kernel_rfl) (by kernel_rfl) (by decide) u (by rw [star]; exact h)
theorem cellsE : Tryz.prog.cellsOf 170 = 1 := by kernel_rfl
theorem cellsS : Tryz.prog.cellsOf 9 = 1 := by kernel_rfl
theorem cellsU : Tryz.prog.cellsOf 39 = 1 := by kernel_rfl
theorem cellsP : Tryz.prog.cellsOf 171 = 20 := by kernel_rfl
def pows : List Int := [1, 10, 100, 1000, 10000, 100000, 1000000, 10000000, 100000000, 1000000000, 10000000000, 100000000000, 1000000000000, 10000000000000, 100000000000000, 1000000000000000, 10000000000000000, 100000000000000000, 1000000000000000000, 10000000000000000000]
theorem vars {W : World} (h : laidMetH Tryz.prog Rows.valuesSortsRow.laid W) : ∀ p ∈ gz, VR (fun _ => ⟨0, 0, 0⟩) (fun _ => False) (OX (fun _ => False) (fun _ => ⟨0, 0, 0⟩) []) W (.ip p.2) (.pointer (some ⟨p.1, 0, none⟩)) := by
 have h : laidMet Tryz.prog Rows.valuesSortsRow.laid W := h
 have h4 := h.tail.tail.tail.tail
 obtain ⟨a, s, hv, hc, hs, hz⟩ := laid_sentinel (tp := 168) (te := 170) (ts := 9) h4 gName gType Tryz.underlying123 named Tryz.underlying168 Tryz.underlying170 rfl rfl Tryz.underlying9 cellsE cellsS
 have hsp := laid_spot h4 gName hv Tryz.underlying168
 have h3 := h.tail.tail.tail
 obtain ⟨a', s', hv', hc', hs', hz'⟩ := laid_sentinel (tp := 168) (te := 170) (ts := 9) h3 gNameR gTypeR Tryz.underlying123 named Tryz.underlying168 Tryz.underlying170 rfl rfl Tryz.underlying9 cellsE cellsS
 have hsp' := laid_spot h3 gNameR hv' Tryz.underlying168
 have h2 := h.tail.tail
 have htab := tabIs_of_head (k := .u64) (zs := pows) gNameP gTypeP Tryz.underlying171 Tryz.underlying39 cellsU cellsP h2
 intro p hp
 simp only [gz, List.mem_cons, List.not_mem_nil, or_false] at hp
 rcases hp with rfl | rfl | rfl
 ·exact vr_iface_var gName hv hsp
 ·exact vr_iface_var gNameR hv' hsp'
 ·exact vr_tab_var gNameP htab
set_option maxRecDepth 100000 in
theorem contract (H : Type) (enc : TypeId × Value → H) (W : World) (base : Nat) (args : Array Value) (ds gs : List (DataW H)) (before : List MemPlace)
  (hval : ∀ (j : Nat) t v, Tryz.f3.params[j]? = some t → args[j]? = some v → Value.okWide Tryz.prog W .any base t v)
  (hW : DataW.Whole enc Tryz.prog Tryz.f3.params.toList Rows.valuesSortsSpec.vars false W args.toList ds gs before) (hL : laidMetH Tryz.prog Rows.valuesSortsRow.laid W) :
  Calls Tryz.prog 3 args W fun e W' => ∃ v, e = .returned v ∧ Rows.valuesSortsSpec.post enc Tryz.prog Tryz.f3 false true false false W args v W' := by
 have hW' := hW
 obtain ⟨p, q, hA0, hV, rfl, hfz, hnd⟩ := hW
 have hA : DataW.TrodAll enc Tryz.prog W 0 (fun _ => true) true Tryz.f3.params.toList args.toList ds p := hA0
 rw [Tryz.params3] at hA hval
 obtain ⟨v0, vs0, d0, ds0, p0, q0, hargs, rfl, rfl, h0, r0⟩ := trodAll_cons hA
 obtain ⟨v1, vs1, d1, ds1, p1, q1, rfl, rfl, rfl, h1, r1⟩ := trodAll_cons r0
 obtain ⟨rfl, rfl, rfl⟩ := trodAll_nil r1
 obtain rfl : args = #[v0, v1] := by cases args; simp_all
 obtain ⟨rfl, rfl⟩ := trodVars_none hV
 have h0k := h0
 obtain ⟨x0, b0, e0⟩ := vr_ints_of Tryz.underlying22 Tryz.underlying3 cells3 (hval 0 22 v0 rfl rfl) h0
 have h1k := h1
 obtain ⟨x1, b1, e1⟩ := vr_ints_of Tryz.underlying22 Tryz.underlying3 cells3 (hval 1 22 v1 rfl rfl) h1
 clear hA0
 refine ((lawSortsW x0 x1 b0 b1).callsG W [v0, v1] (vars hL) (.cons e0 (.cons e1 .nil))).mono ?_
 rintro e W' ⟨rfl, hk⟩
 refine ⟨_, rfl, _, _, _, [], p0 ++ (p1 ++ []), [], hW', ?_, ?_, ?_, hk.frame _, fun h => by cases h⟩
 ·exact trodAll_cons_mk (shut_bool Tryz.underlying4 _) trodAll_mk0
 ·exact trodAll_cons_mk (Kept.trod laidOut (by kernel_rfl) (of_decide_eq_true (by kernel_rfl)) h0k hk) (trodAll_cons_mk (Kept.trod laidOut (by kernel_rfl) (of_decide_eq_true (by kernel_rfl)) h1k hk) trodAll_mk0)
 ·rfl
noncomputable def laidWorld (os : Os) : World :=
 let N := (World.settled Tryz.prog os).heap.size
 let w0 := World.holding Tryz.prog os ⟨#[
  .cells #[.string ⟨#[105, 110, 118, 97, 108, 105, 100, 32, 115, 121, 110, 116, 97, 120]⟩] 170,
  .cells #[.string ⟨#[118, 97, 108, 117, 101, 32, 111, 117, 116, 32, 111, 102, 32, 114, 97, 110, 103, 101]⟩] 170], #[], []⟩
 let put (h : Array Obj) (g : Nat) (cs : Array Value) : Array Obj := h.modify g fun
  | .cells _ t frozen => .cells cs t frozen
  | o => o
 let nums (d : DataW Unit) : Array Value := match d with
  | .agg ds => (ds.map fun
   | .lit (.int k n) => Value.int k n
   | _ => .bool false).toArray
  | _ => #[]
 let h0 := put (put w0.heap 0 #[.iface 168 (.pointer (some ⟨N, 0, none⟩))]) 1 #[.iface 168 (.pointer (some ⟨N + 1, 0, none⟩))]
 let h1 := put h0 2 (nums Rows.laid_internal_strconv_uint64pow10)
 let h2 := put h1 3 (nums Rows.laid_math_bits_deBruijn32tab)
 let h3 := put h2 4 (nums Rows.laid_math_bits_deBruijn64tab)
 { w0 with heap := h3 }
noncomputable abbrev N0 : Nat := (World.settled Tryz.prog default).heap.size
theorem laid_met (os : Os) (args : Array Value) : laidMet Tryz.prog Rows.valuesSortsRow.laid ((laidWorld os).forCall (fun _ _ => 0) ⟨#[], args, []⟩).memory :=
 (LaidIn.of_run (l := Rows.valuesSortsRow.laid) [0, 1, 2, 3, 4, N0, N0 + 1] 8 (by kernel_rfl) (by kernel_rfl) (by kernel_rfl) (by kernel_rfl)).met
noncomputable abbrev wargs : Array Value := #[.slice none 0 0, .slice none 0 0]
theorem reads (os : Os) {H : Type} (enc : TypeId × Value → H) : ∃ places, DataW.whole enc Tryz.prog ((laidWorld os).forCall (fun _ _ => 0) ⟨#[], wargs, []⟩).memory Tryz.f3.params.toList Rows.valuesSortsSpec.vars false wargs.toList 8 = some ([.nil, .nil], [], places) :=
 ⟨[], by kernel_rfl⟩
set_option maxRecDepth 100000 in
theorem lifted (os : Os) (started : os.Started) (H : Type) (enc : TypeId × Value → H) (F : Stop.Interp) :
  ReturnsInHanded {} Tryz.checked os 3 .any ((OpenSpec.ofChange Rows.valuesSortsSpec).preRow enc Tryz.prog Tryz.f3 Rows.valuesSortsRow.domain false Rows.valuesSortsRow.laid) (((OpenSpec.ofChange Rows.valuesSortsSpec).at F).post enc Tryz.prog Tryz.f3 false true false false) := by
 obtain ⟨places, hx⟩ := reads os enc
 refine returnsInHanded_of_row (C := Tryz.checked) (s := OpenSpec.ofChange Rows.valuesSortsSpec) own started (by kernel_rfl) Tryz.func3
  (witness_row_atRef (enc := enc) (C := Tryz.checked) false (laidWorld os) wargs rfl (by kernel_rfl) (by kernel_rfl) (by kernel_rfl)
   (OpenSpec.preRow_of_cond 8 hx (by kernel_rfl) (fun k hk => by cases hk) (by kernel_rfl) (laid_met os _))) ?_
 intro W base args ds gs before hval hW _ _ _ hL _ _
 exact contract H enc W base args ds gs before hval hW hL
theorem said : Rows.ValuesSortsSaid :=
 OpenClaim.holds_of_cond 3 Tryz.f3 rfl rfl rfl rfl rfl rfl rfl ⟨rfl, rfl, rfl, rfl, rfl⟩ rfl rfl rfl rfl rfl (by kernel_rfl) Tryz.func3 (by kernel_rfl)
  (of_decide_eq_true (by kernel_rfl)) (by unfold Func.isWrapper; first | (rw [if_pos (by decide +kernel)]; kernel_rfl) | (rw [if_neg (by decide +kernel)]; exact ⟨rfl, rfl⟩))
  (fun os started H enc _ F => by rw [OpenClaim.pre_eq_preRow]; exact lifted os started H enc F)
theorem plain (f : FuncId) (fn : Func) (hf : Tryz.pinned.checked.prog.funcNamed "refuter/refuterlaw10.ValuesSorts" = some f) (hfn : Tryz.pinned.checked.prog.funcs[f]? = some fn) :
  true = Tryz.pinned.checked.prog.looks [] ∧ ∀ (j : Nat) t, fn.params[j]? = some t → Tryz.pinned.checked.prog.wantsStandIn t = false := by
 obtain rfl : f = 3 := Option.some.inj ((show Tryz.prog.funcNamed "refuter/refuterlaw10.ValuesSorts" = some 3 by kernel_rfl).symm.trans hf) |>.symm
 obtain rfl : fn = Tryz.f3 := (Option.some.inj (Tryz.func3.symm.trans hfn)).symm
 refine ⟨by kernel_rfl, fun j t ht => ?_⟩
 rw [Tryz.params3] at ht
 have hTI : Tryz.prog.wantsStandIn 22 = false := by kernel_rfl
 have hm := Array.mem_of_getElem? ht
 simp at hm
 repeat' (first | (rw [(hm : t = 22)]; exact hTI) | rcases hm with hm | hm)
theorem card : Rows.ValuesSortsCardSaid :=
 Claim7.holds_tied_plain_at .later [] _ _ _ _ said (fun _ h => by cases h) (by kernel_rfl) (fun _ h => by cases h) valuesSorts_row_tie rfl ⟨rfl, rfl⟩ (by kernel_rfl) rfl plain (by kernel_rfl)
end Go.Proofs.YtndfionmfihcoaaGreatDoor.ValuesSorts
