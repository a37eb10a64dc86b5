/- A part of the proof: DMain. -/
import Derived.Test.YtoanjpeoclkjgaaDoorAxDSort
namespace Go.Proofs.YtoanjpeoclkjgaaDoor
open Go Go.Ax Go.Proofs
set_option maxRecDepth 100000

def saysTrue (r : AV) : Prop := match r with | .bool b => (match b with | true => True | false => False) | _ => False
theorem saysTrue_eq {r : AV} (h : saysTrue r) : r = .bool true := by
  unfold saysTrue at h
  split at h
  · split at h
    · rfl
    · exact h.elim
  · exact h.elim

theorem encVs_snoc (l : List Val) (v : Val) : encVs (l ++ [v]) = encVs l ++ [encV v] := by simp [encVs_map]
theorem nearV_nil (v : Val) : nearV [] v = (0, false) := rfl
theorem ne_self (p : Nat) : ((p : Int) != (p : Int)) = false := by simp

/-- An int as a value. -/
def vInt (n : Int) : Val := .mk 0 n [] []

theorem vInt_ok {n : Int} (h : i64 n) : okV (vInt n) := by
  simp only [vInt, okV, okVs]
  exact ⟨⟨by omega, by omega⟩, h, by simp, by simp, trivial⟩

theorem cvInt {mem : Mem} {σ : List (Nat × Nat)} (k n : Int) (s : List UInt8) : CvE mem σ (.agg [.int .i64 k, .int .i64 n, .str s, .nsl]) (encV (.mk k n s [])) :=
  .agg (.cons (.same _ (.int _ _)) (.cons (.same _ (.int _ _)) (.cons (.same _ (.str _)) (.cons (.nil 4) .nil))))

theorem lawWalk (l m : List Int) (n : Int) (hmi : ∀ x ∈ m, i64 x) (hn : i64 n) (hlives : ACalls Tryd.prog [] 9 [] [] 0 fun r _ _ => saysTrue r) :
    PureC Tryd.prog [] 3 [.il 1 (encI l), .il 1 (encI m), .int .i64 n] (.bool true) := by
  have nm : NN (.il 1 (encI m)) := .il' (encI_nn m)
  refine acalls_run nnΓ Tryd.func3 rfl ?_
  conv => whnf
  refine ACalls.call0 nnΓ (rValues l 10 (by omega)) (.cons (.il' (encI_nn l)) (.cons (.int _ _) .nil)) ?_
  rintro r m' n' ⟨vs, rfl, hv1, hv2, rfl, rfl⟩
  refine ⟨_, .same _ (.il' (encVs_nn vs)), ?_⟩
  conv => whnf
  refine (rSort vs (by omega) (fun a ha => genV_ok (hv2 a ha))).use nnΓ (.cons (.il' (encVs_nn vs)) .nil) (.il' (encVs_nn _)) ?_
  have ha1 := sortV_srt vs
  have ha2 : (sortV vs).length ≤ 10 := Nat.le_trans (sortV_length vs) hv1
  have ha3 : ∀ a ∈ sortV vs, okV a := fun a ha => genV_ok (hv2 a (sortV_mem ha))
  generalize sortV vs = as1 at *
  have na : NN (.il 4 (encVs as1)) := .il' (encVs_nn _)
  conv => whnf
  refine AWp.ph 27 4 ?_
  refine AWp.loopAt nnΓ (fun k : Nat => k ≤ m.length ∧ k ≤ 10)
    (fun k => ⟨[(1, .il 1 (encI m)), (2, .int .i64 n), (7, .il 4 (encVs as1)), (8, .sl 0 0 ((m.take k).map vInt).length), (9, .int .i64 k)], [(0, .row 27 4 (encVs ((m.take k).map vInt)))], 1, 128⟩)
    (fun k => m.length - k) 0 [(0, 0)] ⟨by simp, by simp⟩
    (conv_mk _ rfl ⟨⟨0, _, rfl, rfl, .nil⟩, trivial⟩ ⟨⟨_, rfl, .same _ nm⟩, ⟨_, rfl, .same _ (.int _ _)⟩, ⟨_, rfl, .same _ na⟩, ⟨_, rfl, .nslk 0 0 _ rfl rfl⟩, ⟨_, rfl, .same _ (.int _ _)⟩, trivial⟩) ?_
  rintro k ⟨hk, hk10⟩
  have hlen : ((m.take k).map vInt).length = k := by simp; omega
  by_cases hx : k < m.length ∧ k < 10
  · obtain ⟨hlt, h10⟩ := hx
    have b1 : decide ((k : Int) < (encI m).length) = true := by rw [encI_length]; simpa using hlt
    have b2 : decide ((k : Int) < 10) = true := by simp; omega
    conv => whnf
    rw [b1]
    conv => whnf
    rw [b2]
    conv => whnf
    refine opt_mk (a := .int .i64 m[k]) (by rw [Int.toNat_natCast, encI_get, List.getElem?_eq_getElem hlt]; rfl) ?_
    conv => whnf
    refine grd_mk (app_ok rfl rfl (by rw [encVs_length]) (by simp; omega)) ?_
    conv => whnf
    have ht : (m.take (k + 1)).map vInt = (m.take k).map vInt ++ [vInt m[k]] := by rw [List.take_succ_eq_append_getElem hlt, List.map_append]; rfl
    exact .mk (k + 1) [(2, 0)] ⟨by omega, by omega⟩ (conv_mk _ rfl ⟨⟨2, _, rfl, rfl, by rw [ht, encVs_snoc]; exact .snoc rfl (.same (encVs_nn _)) (cvInt 0 m[k] [])⟩, trivial⟩
      ⟨⟨_, rfl, .same _ nm⟩, ⟨_, rfl, .same _ (.int _ _)⟩, ⟨_, rfl, .same _ na⟩, ⟨_, rfl, .slE rfl (by rw [ht]; simp)⟩, ⟨_, rfl, .eq (.int _ _) (by rw [wrap64 ⟨by omega, by omega⟩]; rfl)⟩, trivial⟩) (by omega)
  · have hi1 : ∀ a ∈ (m.take k).map vInt, okV a := fun a ha => by
      obtain ⟨x, hx, rfl⟩ := List.mem_map.1 ha
      exact vInt_ok (hmi x (List.mem_of_mem_take hx))
    generalize (m.take k).map vInt = is at *
    have hcase : decide ((k : Int) < (encI m).length) = false ∨ (decide ((k : Int) < (encI m).length) = true ∧ decide ((k : Int) < 10) = false) := by
      rw [encI_length]
      by_cases h : k < m.length
      · exact .inr ⟨by simpa using h, by simp; omega⟩
      · exact .inl (by simp; omega)
    rcases hcase with b1 | ⟨b1, b2⟩
    case' inl =>
      conv => whnf
      rw [b1]
      conv => whnf
    case' inr =>
      conv => whnf
      rw [b1]
      conv => whnf
      rw [b2]
      conv => whnf
    all_goals
      refine (rSort is (by omega) hi1).drop nnΓ (.cons (.fz' rfl rfl (by rw [encVs_length]; omega) (by rw [← encVs_length]; simp) (encVs_nn is)) .nil) (.il' (encVs_nn _)) ?_
      have hs1 := sortV_srt is
      have hs2 : (sortV is).length ≤ 4294967296 := Nat.le_trans (sortV_length is) (by omega)
      have hs3 : ∀ a ∈ sortV is, okV a := fun a ha => hi1 a (sortV_mem ha)
      generalize sortV is = is1 at *
      have ni : NN (.il 4 (encVs is1)) := .il' (encVs_nn _)
      conv => whnf
      refine ACalls.call0 nnΓ (rValue m 0) (.cons nm (.cons (.int _ _) .nil)) ?_
      rintro r m' n' ⟨⟨vk, vn, vs, vks⟩, rfl, hv, rfl, rfl⟩
      refine ⟨_, .same _ (encV_nn _), ?_⟩
      conv => whnf
      refine AWp.loopAt nnΓ (fun k : Nat => k ≤ 4)
        (fun k => ⟨[(7, .il 4 (encVs as1)), (8, .il 4 (encVs is1)), (10, .sl 0 0 4), (11, .int .i64 k)], [(0, .row 27 4 (encVs [.mk vk vn vs vks, .mk 0 n [] [], .mk 0 (n.tmod 10) [] [], .mk 1 0 [] []]))], 1, 128⟩)
        (fun k => 4 - k) 0 [(1, 0)] (by simp)
        (conv_mk _ rfl ⟨⟨1, _, rfl, rfl, .cons (.same (encV_nn _)) (.cons (cvInt _ _ _) (.cons (cvInt _ _ _) (.cons (cvInt _ _ _) .nil)))⟩, trivial⟩ ⟨⟨_, rfl, .same _ na⟩, ⟨_, rfl, .same _ ni⟩, ⟨_, rfl, .sl 1 0 0 4 rfl⟩, ⟨_, rfl, .same _ (.int _ _)⟩, trivial⟩) ?_
      intro i hi
      generalize hvs4 : [Val.mk vk vn vs vks, Val.mk 0 n [] [], Val.mk 0 (n.tmod 10) [] [], Val.mk 1 0 [] []] = vs4
      have hl4 : vs4.length = 4 := by rw [← hvs4]; rfl
      conv => whnf
      refine bcs_mk (fun h => ?_) (fun h => ?_)
      · have hlt : i < 4 := by simp at h; omega
        have e0 : (encVs vs4)[0 + (i : Int).toNat]? = some (encV vs4[i]) := by rw [Nat.zero_add]; exact enc_at (by omega)
        obtain ⟨⟨uk, un, us, uks⟩, hu⟩ : ∃ u, u = vs4[i] := ⟨_, rfl⟩
        rw [← hu] at e0
        have hb : Nat.blt (i : Int).toNat 4 = true := Nat.ble_eq_true_of_le (by simp; omega)
        have hd1 := dNearest as1 (.mk uk un us uks) (by omega) ha3 ha1
        have hd2 := rNearest as1 (.mk uk un us uks) (by omega) ha3
        have hd3 := dNearest is1 (.mk uk un us uks) hs2 hs3 hs1
        have hd4 := rNearest is1 (.mk uk un us uks) hs2 hs3
        have hd5 := dNearest [] (.mk uk un us uks) (by simp) (by simp) (by simp [Srt])
        rw [nearV_nil] at hd5
        generalize nearV as1 (.mk uk un us uks) = f1 at *
        generalize nearV is1 (.mk uk un us uks) = f2 at *
        obtain ⟨p1, c1⟩ := f1
        obtain ⟨p2, c2⟩ := f2
        dsimp only at hd1 hd2 hd3 hd4 hd5
        conv => whnf
        repeat (first | (refine grd_mk hb ?_; conv => whnf) | (refine opt_mk e0 ?_; conv => whnf))
        refine hd1.use nnΓ (.cons na (.cons (encV_nn (.mk uk un us uks)) .nil)) (ntup _ _) ?_
        conv => whnf
        repeat (first | (refine grd_mk hb ?_; conv => whnf) | (refine opt_mk e0 ?_; conv => whnf))
        refine hd2.use nnΓ (.cons na (.cons (encV_nn (.mk uk un us uks)) .nil)) (ntup _ _) ?_
        conv => whnf
        repeat (first | (refine grd_mk hb ?_; conv => whnf) | (refine opt_mk e0 ?_; conv => whnf))
        refine hd3.use nnΓ (.cons ni (.cons (encV_nn (.mk uk un us uks)) .nil)) (ntup _ _) ?_
        conv => whnf
        repeat (first | (refine grd_mk hb ?_; conv => whnf) | (refine opt_mk e0 ?_; conv => whnf))
        refine hd4.use nnΓ (.cons ni (.cons (encV_nn (.mk uk un us uks)) .nil)) (ntup _ _) ?_
        conv => whnf
        repeat (first | (refine grd_mk hb ?_; conv => whnf) | (refine opt_mk e0 ?_; conv => whnf))
        refine hd5.useC nnΓ (.cons (.nil 4) (.cons (.same _ (encV_nn (.mk uk un us uks))) .nil)) (ntup _ _) ?_
        conv => whnf
        rw [ne_self p1]
        cases c1 <;> cases c2
        all_goals
          conv => whnf
          rw [ne_self p2]
          conv => whnf
          exact .mk (i + 1) [(0, 0)] (by omega) (conv_mk _ rfl ⟨⟨0, _, rfl, rfl, .same (encVs_nn _)⟩, trivial⟩ ⟨⟨_, rfl, .same _ na⟩, ⟨_, rfl, .same _ ni⟩, ⟨_, rfl, .sl 0 0 0 4 rfl⟩, ⟨_, rfl, .eq (.int _ _) (by rw [wrap64 ⟨by omega, by omega⟩]; rfl)⟩, trivial⟩) (by omega)
      · conv => whnf
        refine ACalls.call0 nnΓ hlives .nil ?_
        intro r m' n' hr
        rw [saysTrue_eq hr]
        refine ⟨_, .same _ (.bool true), ?_⟩
        conv => whnf
        exact fin_pure (.bool _) ⟨rfl, rfl, rfl⟩
end Go.Proofs.YtoanjpeoclkjgaaDoor
