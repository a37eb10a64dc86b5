/- A part of the proof. -/
import Derived.Test.YtfnhkfdjhmgjbaaGreatDoorAx13
import Derived.Shelf.Strconv.Atoi
import Derived.Shelf.Strconv.Itoa0
import Derived.Shelf.Strconv.Itoa1
import Derived.Shelf.LaysM
import Derived.Shelf.Strconv.Itoa2
import Derived.Shelf.Strconv.Itoa3
import Derived.Shelf.Strconv.AtoiErrFast
import Derived.Shelf.Strconv.ParseIntEmpty
import Derived.Shelf.Strconv.AtoiFail
import Derived.Shelf.Strconv.Clone
import Derived.Shelf.Strconv.SyntaxError
import Derived.Shelf.LaysC
import Derived.Shelf.Strconv.ToError
import Derived.Shelf.Strconv.Lower
import Derived.Shelf.Strconv.ParseUint10
import Derived.Shelf.Strconv.ParseUint10Empty
import Derived.Shelf.Strconv.ParseUint10Any
import Derived.Shelf.Strconv.ParseInt10
import Derived.Shelf.Strconv.AtoiLong
import Derived.Shelf.Strconv.AtoiInnerAll
import Derived.Shelf.Strconv.RangeError
import Derived.Shelf.Strconv.ToErrorRange
import Derived.Shelf.Strconv.AtoiAll
import Derived.Test.YtfnhkfdjhmgjbaaGreatDoorProg
import Derived.KernelRfl

namespace Go.Proofs.YtfnhkfdjhmgjbaaGreatDoor
open Go Go.Ax Go.Proofs
set_option linter.unusedVariables false
set_option maxRecDepth 100000
set_option maxHeartbeats 8000000

theorem mem_snoc {α : Type} {p : α → Prop} {l : List α} {y : α} (h : ∀ x ∈ l, p x) (hy : p y) : ∀ x ∈ l ++ [y], p x := fun x hx => by
  rcases List.mem_append.1 hx with hx | hx
  · exact h x hx
  · simp at hx; rw [hx]; exact hy
theorem bindN_gen {ns : List Nd} (hT : TreeOK ns) (h1 : 1 ≤ ns.length) (h2 : ns.length ≤ 1000) {l : List Int} {k : Int} (hk : 0 ≤ k) : GenN (bindN ns l ns.length k) := by
  have z0 : i64 0 := ⟨by omega, by omega⟩
  unfold bindN
  simp only
  split
  · have := leafV_ok k hk
    exact genN_mk z0 (by simp) z0 z0 (by simp) (by simp) (by simp) (by simp) (by simp) (by simp) (by simp) (by simp) this.1 (by omega)
  · rename_i hc
    rw [not_or] at hc
    have hb := fun j => kidI_bound (l := l) (i := (ns.length : Int)) (j := j) (by omega)
    obtain ⟨q0, q1⟩ := hb 0
    have hv : validF [] (ns.take ((kidI l ns.length 0).toNat + 1)) = 0 := validF_pre (r := ns.drop ((kidI l ns.length 0).toNat + 1)) (by rw [List.take_append_drop]; exact hT.valid)
    have ho : ∀ x ∈ ns.take ((kidI l ns.length 0).toNat + 1), okN x := fun x hx => hT.ok x (List.mem_of_mem_take hx)
    have hs := lists_small _ ho hv (kidI l ns.length 0) q0 (by simp; omega)
    have hg := atL_good (listsT_good _ (valid_good _ ho hv)) (kidI l ns.length 0)
    refine genN_mk ⟨by omega, by omega⟩ (by simp) z0 z0 (by simp) (by simp) (by simp) (by simp) (by omega) (fun v hv => ⟨hg.2 v hv, by have := hs v hv; omega⟩) (by simp; omega) (fun w hw => ?_) (okV_leaf z0 z0) (by simp [zV, sizeV, sizeL])
    rcases List.mem_cons.1 hw with rfl | hw
    · exact ⟨by omega, by omega⟩
    · obtain ⟨j, _, rfl⟩ := List.mem_map.1 hw
      have := hb ((j : Int) + 1)
      exact ⟨by omega, by omega⟩

/-- 'refuterref14.Tree': a valid tree of at most fourteen nodes. -/
theorem oTree (l : List Int) (hl : ∀ x ∈ l, i64 x) :
    ACalls Tryz.prog [] 10 [.il 1 (encI l)] [] 0 fun r m n => ∃ ns : List Nd, TreeOK ns ∧ ns.length ≤ 14 ∧ r = .agg [.sl 0 0 ns.length] ∧ m = tM ns ∧ n = 1 := by
  have z0 : i64 0 := ⟨by omega, by omega⟩
  have hP0 := rPick l 0 15 hl (by omega)
  obtain ⟨n0, n1⟩ := pickI_bound (l := l) (i := 0) (most := 15) (by omega)
  generalize pickI l 0 15 = nn0 at hP0 n0 n1
  obtain ⟨n, rfl⟩ := Int.eq_ofNat_of_zero_le n0
  refine acalls_go nnΓ Tryz.func10 rfl ?_
  ((conv => whnf); repeat ((first | refine AWp.many ?_ | refine AOps.many ?_ | refine ADr.go ?_); conv => whnf))
  refine hP0.go ?_
  ((conv => whnf); repeat ((first | refine AWp.many ?_ | refine AOps.many ?_ | refine ADr.go ?_); conv => whnf))
  refine ALoop.ph 35 12 ?_
  refine ALoop.at nnΓ (fun ns : List Nd => TreeOK ns ∧ ns.length ≤ n) (fun ns => ⟨[(0, .il 1 (encI l)), (2, .ptr 0 0 0), (3, .ptr 1 0 0), (4, .int .i64 n), (5, .int .i64 ns.length)], [(0, .row 25 1 [.agg [.nsl]]), (1, .row 25 1 [.agg [.sl 2 0 ns.length]]), (2, .row 35 12 (encNs ns))], 3, 181⟩) (fun ns => n - ns.length) [] [(0, 0), (1, 1), (2, 2)] ⟨⟨by simp [validF], by simp⟩, by simp⟩
    (conv_mk _ rfl ⟨⟨0, _, rfl, rfl, .same nns⟩, ⟨1, _, rfl, rfl, .cons (.agg (.cons (.nslk 2 2 _ rfl rfl) .nil)) .nil⟩, ⟨2, _, rfl, rfl, .same .nil⟩, trivial⟩ ⟨⟨_, rfl, .same _ nn⟩, ⟨_, rfl, .ptr 0 0 0 0 rfl⟩, ⟨_, rfl, .ptr 1 1 0 0 rfl⟩, ⟨_, rfl, .same _ nn⟩, ⟨_, rfl, .same _ nn⟩, trivial⟩) ?_
  rintro ns ⟨hT, hns⟩
  ((conv => whnf); repeat ((first | refine AWp.many ?_ | refine AOps.many ?_ | refine ADr.go ?_); conv => whnf))
  refine bcs_mk (fun h => ?_) (fun h => ?_)
  · have hlt : ns.length < n := by simpa using h
    have hw1 : IntKind.i64.wrap (1 + (ns.length : Int)) = 1 + (ns.length : Int) := wrap64 ⟨by omega, by omega⟩
    have hPk := rPick l (1 + (ns.length : Int)) 1000000 hl (by omega)
    obtain ⟨kk0, kk1⟩ := pickI_bound (l := l) (i := 1 + (ns.length : Int)) (most := 1000000) (by omega)
    generalize pickI l (1 + (ns.length : Int)) 1000000 = kk at hPk kk0 kk1
    have m8 := tmod_lt kk0 (show (0 : Int) < 8 by omega)
    have q8 := tdiv_le kk0 (show (0 : Int) < 8 by omega)
    have q80 : 0 ≤ kk.tdiv 8 := Int.tdiv_nonneg kk0 (by omega)
    have hw8 : IntKind.i64.wrap (kk.tdiv 8) = kk.tdiv 8 := wrap64 ⟨by omega, by omega⟩
    have m82 := tmod_lt q80 (show (0 : Int) < 2 by omega)
    ((conv => whnf); repeat ((first | refine AWp.many ?_ | refine AOps.many ?_ | refine ADr.go ?_); conv => whnf))
    rw [hw1]
    refine hPk.go ?_
    by_cases hi2 : ns.length < 2
    · have d2 : decide ((ns.length : Int) < 2) = true := by simp; omega
      ((conv => whnf); repeat ((first | refine AWp.many ?_ | refine AOps.many ?_ | refine ADr.go ?_); conv => whnf))
      rw [d2]
      ((conv => whnf); repeat ((first | refine AWp.many ?_ | refine AOps.many ?_ | refine ADr.go ?_); conv => whnf))
      rw [hw8]
      obtain ⟨kd, hkd⟩ : ∃ kd, kd = (kk.tdiv 8).tmod 2 := ⟨_, rfl⟩
      rw [← hkd] at m82 ⊢
      have d5 : decide (kd > 5) = false := by simp; omega
      ((conv => whnf); repeat ((first | refine AWp.many ?_ | refine AOps.many ?_ | refine ADr.go ?_); conv => whnf))
      rw [d5]
      ((conv => whnf); repeat ((first | refine AWp.many ?_ | refine AOps.many ?_ | refine ADr.go ?_); conv => whnf))
      refine bcs_join nnΓ (fun x : Nd => GenN x) (fun x => ⟨[(0, .il 1 (encI l)), (2, .ptr 0 0 0), (3, .ptr 1 0 0), (4, .int .i64 n), (5, .int .i64 ns.length), (6, .int .i64 kk), (7, .ptr 3 0 0)], [(0, .row 25 1 [.agg [.nsl]]), (1, .row 25 1 [.agg [.sl 2 0 ns.length]]), (2, .row 35 12 (encNs ns)), (3, .row 35 12 [encN x])], 4, 181⟩) (fun Qr hQ => ?_) (fun x hx => ?_)
      · rcases (show kd = 0 ∨ kd = 1 by omega) with rfl | rfl
        · have hLf := rLeaf (kk.tdiv 8) (Int.tdiv_nonneg kk0 (by omega)) (by have := tdiv_le kk0 (show (0 : Int) < 8 by omega); omega)
          have hlo := leafV_ok (kk.tdiv 8) (Int.tdiv_nonneg kk0 (by omega))
          generalize leafV (kk.tdiv 8) = f at hLf hlo
          obtain ⟨f1, f2, f3, f4⟩ := f
          ((conv => whnf); repeat ((first | refine AWp.many ?_ | refine AOps.many ?_ | refine ADr.go ?_); conv => whnf))
          rw [hw8]
          refine hLf.go ?_
          ((conv => whnf); repeat ((first | refine AWp.many ?_ | refine AOps.many ?_ | refine ADr.go ?_); conv => whnf))
          exact hQ (leafN (.mk f1 f2 f3 f4)) _ [(0, 0), (1, 1), (2, 2), (3, 3)] (genN_mk z0 (by simp) z0 z0 (by simp) (by simp) (by simp) (by simp) (by simp) (by simp) (by simp) (by simp) hlo.1 (by omega)) (conv_mk _ rfl ⟨⟨0, _, rfl, rfl, .same nns⟩, ⟨1, _, rfl, rfl, .cons (.agg (.cons (.sl 2 2 0 _ rfl) .nil)) .nil⟩, ⟨2, _, rfl, rfl, .same (encNs_nn _)⟩, ⟨3, _, rfl, rfl, .cons (.agg (.cons (.same _ nn) (.cons (.same _ nn) (.cons (.same _ nn) (.cons (.same _ nn) (.cons (.nil 1) (.cons (.nil 1) (.cons (.nil 4) (.cons (.nil 1) (.cons (.same _ nn) (.cons (.same _ nn) (.cons (.same _ nn) (.cons (.same _ nn) .nil))))))))))))) .nil⟩, trivial⟩ ⟨⟨_, rfl, .same _ nn⟩, ⟨_, rfl, .ptr 0 0 0 0 rfl⟩, ⟨_, rfl, .ptr 1 1 0 0 rfl⟩, ⟨_, rfl, .same _ nn⟩, ⟨_, rfl, .same _ nn⟩, ⟨_, rfl, .same _ nn⟩, ⟨_, rfl, .ptr 3 3 0 0 rfl⟩, trivial⟩)
        · ((conv => whnf); repeat ((first | refine AWp.many ?_ | refine AOps.many ?_ | refine ADr.go ?_); conv => whnf))
          refine bcs_mk (fun h => ?_) (fun h => ?_)
          · ((conv => whnf); repeat ((first | refine AWp.many ?_ | refine AOps.many ?_ | refine ADr.go ?_); conv => whnf))
            exact hQ ⟨1, [], _, _, [], [], [], [], zV⟩ _ [(0, 0), (1, 1), (2, 2), (3, 3)] (genN_mk ⟨by omega, by omega⟩ (by simp) (i64w _) (i64w _) (by simp) (by simp) (by simp) (by simp) (by simp) (by simp) (by simp) (by simp) (okV_leaf z0 z0) (by simp [zV, sizeV, sizeL])) (conv_mk _ rfl ⟨⟨0, _, rfl, rfl, .same nns⟩, ⟨1, _, rfl, rfl, .cons (.agg (.cons (.sl 2 2 0 _ rfl) .nil)) .nil⟩, ⟨2, _, rfl, rfl, .same (encNs_nn _)⟩, ⟨3, _, rfl, rfl, .cons (.agg (.cons (.same _ nn) (.cons (.same _ nn) (.cons (.same _ nn) (.cons (.same _ nn) (.cons (.nil 1) (.cons (.nil 1) (.cons (.nil 4) (.cons (.nil 1) (.cons (.same _ nn) (.cons (.same _ nn) (.cons (.same _ nn) (.cons (.nil 4) .nil))))))))))))) .nil⟩, trivial⟩ ⟨⟨_, rfl, .same _ nn⟩, ⟨_, rfl, .ptr 0 0 0 0 rfl⟩, ⟨_, rfl, .ptr 1 1 0 0 rfl⟩, ⟨_, rfl, .same _ nn⟩, ⟨_, rfl, .same _ nn⟩, ⟨_, rfl, .same _ nn⟩, ⟨_, rfl, .ptr 3 3 0 0 rfl⟩, trivial⟩)
          · ((conv => whnf); repeat ((first | refine AWp.many ?_ | refine AOps.many ?_ | refine ADr.go ?_); conv => whnf))
            exact hQ ⟨1, [], _, _, [], [], [], [], zV⟩ _ [(0, 0), (1, 1), (2, 2), (3, 3)] (genN_mk ⟨by omega, by omega⟩ (by simp) (i64w _) (i64w _) (by simp) (by simp) (by simp) (by simp) (by simp) (by simp) (by simp) (by simp) (okV_leaf z0 z0) (by simp [zV, sizeV, sizeL])) (conv_mk _ rfl ⟨⟨0, _, rfl, rfl, .same nns⟩, ⟨1, _, rfl, rfl, .cons (.agg (.cons (.sl 2 2 0 _ rfl) .nil)) .nil⟩, ⟨2, _, rfl, rfl, .same (encNs_nn _)⟩, ⟨3, _, rfl, rfl, .cons (.agg (.cons (.same _ nn) (.cons (.same _ nn) (.cons (.same _ nn) (.cons (.same _ nn) (.cons (.nil 1) (.cons (.nil 1) (.cons (.nil 4) (.cons (.nil 1) (.cons (.same _ nn) (.cons (.same _ nn) (.cons (.same _ nn) (.cons (.nil 4) .nil))))))))))))) .nil⟩, trivial⟩ ⟨⟨_, rfl, .same _ nn⟩, ⟨_, rfl, .ptr 0 0 0 0 rfl⟩, ⟨_, rfl, .ptr 1 1 0 0 rfl⟩, ⟨_, rfl, .same _ nn⟩, ⟨_, rfl, .same _ nn⟩, ⟨_, rfl, .same _ nn⟩, ⟨_, rfl, .ptr 3 3 0 0 rfl⟩, trivial⟩)
      · have hxn := encN_nn x
        have hV := oValid (ns ++ [x]) (by simp; omega) (fun y hy => by
          rcases List.mem_append.1 hy with hy | hy
          · have := hT.gen y hy; exact ⟨this.ok, by have := this.vals; omega⟩
          · simp at hy; rw [hy]; exact ⟨hx.ok, by have := hx.vals; omega⟩)
        have hnn2 := encNs_nn (ns ++ [x])
        have eTk : List.take ns.length (List.drop 0 (encNs ns)) = encNs ns := by rw [List.drop_zero]; exact List.take_of_length_le (by rw [encNs_length]; omega)
        have hxs : encNs (ns ++ [x]) = encNs ns ++ [encN x] := by simp [encNs]
        have hsn := fun h => hT.snoc (x := x) (by omega) hx h
        have hw5 := tmod_lt kk0 (show (0 : Int) < 5 by omega)
        have hlf := hT.leaf (m := kk.tmod 5) ⟨by omega, by omega⟩
        obtain ⟨e, he⟩ : ∃ e, e = validT (ns ++ [x]) := ⟨_, rfl⟩
        rw [← he] at hV hsn
        obtain ⟨kind, name, lo, hi, ws, ls, vals, kids, ⟨vk, vn, vs, vks⟩⟩ := x
        ((conv => whnf); repeat ((first | refine AWp.many ?_ | refine AOps.many ?_ | refine ADr.go ?_); conv => whnf))
        refine grd_mk (src_ok (by rw [encNs_length]; omega)) ?_
        rw [eTk]
        ((conv => whnf); repeat ((first | refine AWp.many ?_ | refine AOps.many ?_ | refine ADr.go ?_); conv => whnf))
        refine grd_mk (app_nil rfl (by rw [encNs_length]; omega)) ?_
        ((conv => whnf); repeat ((first | refine AWp.many ?_ | refine AOps.many ?_ | refine ADr.go ?_); conv => whnf))
        refine grd_mk (app_ok rfl rfl rfl (by rw [encNs_length]; simp; omega)) ?_
        ((conv => whnf); repeat ((first | refine AWp.many ?_ | refine AOps.many ?_ | refine ADr.go ?_); conv => whnf))
        refine ACalls.useN nnΓ [(7, 0)] hV rfl (.cons (.agg' (.cons (.slE rfl (by rw [encNs_length]; simp)) .nil)) .nil) ⟨⟨7, _, rfl, rfl, .eq hnn2 (by rw [hxs]; rfl)⟩, trivial⟩ rfl ?_
        rintro r m k' ⟨rfl, rfl⟩
        refine ⟨[(0, 7)], _, [(7, .row 35 12 (encNs (ns ++ [⟨kind, name, lo, hi, ws, ls, vals, kids, .mk vk vn vs vks⟩])))], 8, .same _ nn, ⟨⟨0, _, rfl, rfl, .same hnn2⟩, trivial⟩, rfl, ?_⟩
        by_cases e0 : e = 0
        · subst e0
          ((conv => whnf); repeat ((first | refine AWp.many ?_ | refine AOps.many ?_ | refine ADr.go ?_); conv => whnf))
          exact .mk (ns ++ [⟨kind, name, lo, hi, ws, ls, vals, kids, .mk vk vn vs vks⟩]) [(0, 0), (1, 1), (7, 2)] ⟨hsn rfl, by simp; omega⟩
            (conv_mk _ rfl ⟨⟨0, _, rfl, rfl, .same nns⟩, ⟨1, _, rfl, rfl, .cons (.agg (.cons (.slE rfl (by rw [encNs_length]; simp)) .nil)) .nil⟩, ⟨7, _, rfl, rfl, .same hnn2⟩, trivial⟩ ⟨⟨_, rfl, .same _ nn⟩, ⟨_, rfl, .ptr 0 0 0 0 rfl⟩, ⟨_, rfl, .ptr 1 1 0 0 rfl⟩, ⟨_, rfl, .same _ nn⟩, ⟨_, rfl, .w64 (by simp) ⟨by simp; omega, by simp; omega⟩⟩, trivial⟩) (by simp; omega)
        · have de : (e == 0) = false := by simpa using e0
          ((conv => whnf); repeat ((first | refine AWp.many ?_ | refine AOps.many ?_ | refine ADr.go ?_); conv => whnf))
          rw [de]
          ((conv => whnf); repeat ((first | refine AWp.many ?_ | refine AOps.many ?_ | refine ADr.go ?_); conv => whnf))
          refine grd_mk (app_ok rfl rfl (by rw [encNs_length]) (by simp; omega)) ?_
          ((conv => whnf); repeat ((first | refine AWp.many ?_ | refine AOps.many ?_ | refine ADr.go ?_); conv => whnf))
          have hlx : encNs (ns ++ [⟨0, [], 0, 0, [], [], [], [], .mk 0 (kk.tmod 5) [] []⟩]) = encNs ns ++ [encN ⟨0, [], 0, 0, [], [], [], [], .mk 0 (kk.tmod 5) [] []⟩] := by simp [encNs]
          exact .mk (ns ++ [⟨0, [], 0, 0, [], [], [], [], .mk 0 (kk.tmod 5) [] []⟩]) [(0, 0), (1, 1), (9, 2)] ⟨hlf, by simp; omega⟩
            (conv_mk _ rfl ⟨⟨0, _, rfl, rfl, .same nns⟩, ⟨1, _, rfl, rfl, .cons (.agg (.cons (.slE rfl (by simp)) .nil)) .nil⟩, ⟨9, _, rfl, rfl, by rw [hlx]; exact .snoc rfl (.same (encNs_nn _)) (.agg (.cons (.same _ nn) (.cons (.same _ nn) (.cons (.same _ nn) (.cons (.same _ nn) (.cons (.nil 1) (.cons (.nil 1) (.cons (.nil 4) (.cons (.nil 1) (.cons (.same _ nn) (.cons (.same _ nn) (.cons (.same _ nn) (.cons (.nil 4) .nil)))))))))))))⟩, trivial⟩ ⟨⟨_, rfl, .same _ nn⟩, ⟨_, rfl, .ptr 0 0 0 0 rfl⟩, ⟨_, rfl, .ptr 1 1 0 0 rfl⟩, ⟨_, rfl, .same _ nn⟩, ⟨_, rfl, .w64 (by simp) ⟨by simp; omega, by simp; omega⟩⟩, trivial⟩) (by simp; omega)
    · have d2 : decide ((ns.length : Int) < 2) = false := by simp; omega
      ((conv => whnf); repeat ((first | refine AWp.many ?_ | refine AOps.many ?_ | refine ADr.go ?_); conv => whnf))
      rw [d2]
      ((conv => whnf); repeat ((first | refine AWp.many ?_ | refine AOps.many ?_ | refine ADr.go ?_); conv => whnf))
      have hkd5 : (kk.tmod 8 == 5) = false ∨ (kk.tmod 8 == 5) = true := by cases (kk.tmod 8 == 5) <;> simp
      rcases hkd5 with e5 | e5
      · have n5 : kk.tmod 8 ≠ 5 := by simpa using e5
        obtain ⟨k8, hk8⟩ : ∃ k8, k8 = kk.tmod 8 := ⟨_, rfl⟩
        rw [← hk8] at e5 n5 m8 ⊢
        rcases (show k8 < 5 ∨ 5 < k8 by omega) with k5 | k5
        · have d5 : decide (k8 > 5) = false := by simp; omega
          rw [e5]
          ((conv => whnf); repeat ((first | refine AWp.many ?_ | refine AOps.many ?_ | refine ADr.go ?_); conv => whnf))
          rw [d5]
          ((conv => whnf); repeat ((first | refine AWp.many ?_ | refine AOps.many ?_ | refine ADr.go ?_); conv => whnf))
          obtain ⟨kd, hkd⟩ : ∃ kd, kd = k8 := ⟨_, rfl⟩
          rw [← hkd] at k5 m8 ⊢
          refine bcs_join nnΓ (fun x : Nd => GenN x) (fun x => ⟨[(0, .il 1 (encI l)), (2, .ptr 0 0 0), (3, .ptr 1 0 0), (4, .int .i64 n), (5, .int .i64 ns.length), (6, .int .i64 kk), (7, .ptr 3 0 0)], [(0, .row 25 1 [.agg [.nsl]]), (1, .row 25 1 [.agg [.sl 2 0 ns.length]]), (2, .row 35 12 (encNs ns)), (3, .row 35 12 [encN x])], 4, 181⟩) (fun Qr hQ => ?_) (fun x hx => ?_)
          · rcases (show kd = 0 ∨ kd = 1 ∨ kd = 2 ∨ kd = 3 ∨ kd = 4 by omega) with rfl | rfl | rfl | rfl | rfl
            · have hLf := rLeaf (kk.tdiv 8) (Int.tdiv_nonneg kk0 (by omega)) (by have := tdiv_le kk0 (show (0 : Int) < 8 by omega); omega)
              have hlo := leafV_ok (kk.tdiv 8) (Int.tdiv_nonneg kk0 (by omega))
              generalize leafV (kk.tdiv 8) = f at hLf hlo
              obtain ⟨f1, f2, f3, f4⟩ := f
              ((conv => whnf); repeat ((first | refine AWp.many ?_ | refine AOps.many ?_ | refine ADr.go ?_); conv => whnf))
              rw [hw8]
              refine hLf.go ?_
              ((conv => whnf); repeat ((first | refine AWp.many ?_ | refine AOps.many ?_ | refine ADr.go ?_); conv => whnf))
              exact hQ (leafN (.mk f1 f2 f3 f4)) _ [(0, 0), (1, 1), (2, 2), (3, 3)] (genN_mk z0 (by simp) z0 z0 (by simp) (by simp) (by simp) (by simp) (by simp) (by simp) (by simp) (by simp) hlo.1 (by omega)) (conv_mk _ rfl ⟨⟨0, _, rfl, rfl, .same nns⟩, ⟨1, _, rfl, rfl, .cons (.agg (.cons (.sl 2 2 0 _ rfl) .nil)) .nil⟩, ⟨2, _, rfl, rfl, .same (encNs_nn _)⟩, ⟨3, _, rfl, rfl, .cons (.agg (.cons (.same _ nn) (.cons (.same _ nn) (.cons (.same _ nn) (.cons (.same _ nn) (.cons (.nil 1) (.cons (.nil 1) (.cons (.nil 4) (.cons (.nil 1) (.cons (.same _ nn) (.cons (.same _ nn) (.cons (.same _ nn) (.cons (.same _ nn) .nil))))))))))))) .nil⟩, trivial⟩ ⟨⟨_, rfl, .same _ nn⟩, ⟨_, rfl, .ptr 0 0 0 0 rfl⟩, ⟨_, rfl, .ptr 1 1 0 0 rfl⟩, ⟨_, rfl, .same _ nn⟩, ⟨_, rfl, .same _ nn⟩, ⟨_, rfl, .same _ nn⟩, ⟨_, rfl, .ptr 3 3 0 0 rfl⟩, trivial⟩)
            · ((conv => whnf); repeat ((first | refine AWp.many ?_ | refine AOps.many ?_ | refine ADr.go ?_); conv => whnf))
              refine bcs_mk (fun h => ?_) (fun h => ?_)
              · ((conv => whnf); repeat ((first | refine AWp.many ?_ | refine AOps.many ?_ | refine ADr.go ?_); conv => whnf))
                exact hQ ⟨1, [], _, _, [], [], [], [], zV⟩ _ [(0, 0), (1, 1), (2, 2), (3, 3)] (genN_mk ⟨by omega, by omega⟩ (by simp) (i64w _) (i64w _) (by simp) (by simp) (by simp) (by simp) (by simp) (by simp) (by simp) (by simp) (okV_leaf z0 z0) (by simp [zV, sizeV, sizeL])) (conv_mk _ rfl ⟨⟨0, _, rfl, rfl, .same nns⟩, ⟨1, _, rfl, rfl, .cons (.agg (.cons (.sl 2 2 0 _ rfl) .nil)) .nil⟩, ⟨2, _, rfl, rfl, .same (encNs_nn _)⟩, ⟨3, _, rfl, rfl, .cons (.agg (.cons (.same _ nn) (.cons (.same _ nn) (.cons (.same _ nn) (.cons (.same _ nn) (.cons (.nil 1) (.cons (.nil 1) (.cons (.nil 4) (.cons (.nil 1) (.cons (.same _ nn) (.cons (.same _ nn) (.cons (.same _ nn) (.cons (.nil 4) .nil))))))))))))) .nil⟩, trivial⟩ ⟨⟨_, rfl, .same _ nn⟩, ⟨_, rfl, .ptr 0 0 0 0 rfl⟩, ⟨_, rfl, .ptr 1 1 0 0 rfl⟩, ⟨_, rfl, .same _ nn⟩, ⟨_, rfl, .same _ nn⟩, ⟨_, rfl, .same _ nn⟩, ⟨_, rfl, .ptr 3 3 0 0 rfl⟩, trivial⟩)
              · ((conv => whnf); repeat ((first | refine AWp.many ?_ | refine AOps.many ?_ | refine ADr.go ?_); conv => whnf))
                exact hQ ⟨1, [], _, _, [], [], [], [], zV⟩ _ [(0, 0), (1, 1), (2, 2), (3, 3)] (genN_mk ⟨by omega, by omega⟩ (by simp) (i64w _) (i64w _) (by simp) (by simp) (by simp) (by simp) (by simp) (by simp) (by simp) (by simp) (okV_leaf z0 z0) (by simp [zV, sizeV, sizeL])) (conv_mk _ rfl ⟨⟨0, _, rfl, rfl, .same nns⟩, ⟨1, _, rfl, rfl, .cons (.agg (.cons (.sl 2 2 0 _ rfl) .nil)) .nil⟩, ⟨2, _, rfl, rfl, .same (encNs_nn _)⟩, ⟨3, _, rfl, rfl, .cons (.agg (.cons (.same _ nn) (.cons (.same _ nn) (.cons (.same _ nn) (.cons (.same _ nn) (.cons (.nil 1) (.cons (.nil 1) (.cons (.nil 4) (.cons (.nil 1) (.cons (.same _ nn) (.cons (.same _ nn) (.cons (.same _ nn) (.cons (.nil 4) .nil))))))))))))) .nil⟩, trivial⟩ ⟨⟨_, rfl, .same _ nn⟩, ⟨_, rfl, .ptr 0 0 0 0 rfl⟩, ⟨_, rfl, .ptr 1 1 0 0 rfl⟩, ⟨_, rfl, .same _ nn⟩, ⟨_, rfl, .same _ nn⟩, ⟨_, rfl, .same _ nn⟩, ⟨_, rfl, .ptr 3 3 0 0 rfl⟩, trivial⟩)
            · ((conv => whnf); repeat ((first | refine AWp.many ?_ | refine AOps.many ?_ | refine ADr.go ?_); conv => whnf))
              rcases (show decide ((IntKind.i64.wrap (kk.tdiv 32)).tmod 3 > 0) = true ∨ decide ((IntKind.i64.wrap (kk.tdiv 32)).tmod 3 > 0) = false by cases decide ((IntKind.i64.wrap (kk.tdiv 32)).tmod 3 > 0) <;> simp) with hB | hB
              · have hB : decide ((IntKind.i64.wrap (kk.tdiv 32)).tmod 3 > 0) = true := hB
                refine ALoop.ph 3 1 ?_
                refine ALoop.ph 3 1 ?_
                refine ALoop.ph 9 1 ?_
                refine ALoop.at nnΓ (fun a : List Int × List (List UInt8) × List Int => a.1.length ≤ 4 ∧ a.2.2.length = a.1.length ∧ (∀ w ∈ a.1, i64 w) ∧ (∀ w ∈ a.2.2, i64 w) ∧ (∀ s ∈ a.2.1, s ∈ abcd) ∧ a.2.1.length = a.1.length)
                  (fun a => ⟨[(0, .il 1 (encI l)), (2, .ptr 0 0 0), (3, .ptr 1 0 0), (4, .int .i64 n), (5, .int .i64 ns.length), (6, .int .i64 kk), (7, .ptr 3 0 0), (8, .int .i64 a.1.length)], [(0, .row 25 1 [.agg [.nsl]]), (1, .row 25 1 [.agg [.sl 2 0 ns.length]]), (2, .row 35 12 (encNs ns)), (3, .row 35 12 [.agg [.int .i64 2, .str [], .int .i64 0, .int .i64 0, .sl 4 0 a.1.length, .sl 6 0 a.1.length, .nsl, .sl 5 0 a.1.length, .int .i64 0, .int .i64 0, .str [], .nsl]]), (4, .row 3 1 (encI a.1)), (5, .row 3 1 (encI a.2.2)), (6, .row 9 1 (encS a.2.1))], 7, 181⟩)
                  (fun a => 4 - a.1.length) ([], [], []) [(0, 0), (1, 1), (2, 2), (3, 3), (4, 4), (5, 5), (6, 6)] (by simp)
                  (conv_mk _ rfl ⟨⟨0, _, rfl, rfl, .same nns⟩, ⟨1, _, rfl, rfl, .cons (.agg (.cons (.sl 2 2 0 _ rfl) .nil)) .nil⟩, ⟨2, _, rfl, rfl, .same (encNs_nn _)⟩, ⟨3, _, rfl, rfl, .cons (.agg (.cons (.same _ nn) (.cons (.same _ nn) (.cons (.same _ nn) (.cons (.same _ nn) (.cons (.nslk 4 4 _ rfl rfl) (.cons (.nslk 6 6 _ rfl rfl) (.cons (.same _ nn) (.cons (.nslk 5 5 _ rfl rfl) (.cons (.same _ nn) (.cons (.same _ nn) (.cons (.same _ nn) (.cons (.same _ nn) .nil))))))))))))) .nil⟩, ⟨4, _, rfl, rfl, .same .nil⟩, ⟨5, _, rfl, rfl, .same .nil⟩, ⟨6, _, rfl, rfl, .same .nil⟩, trivial⟩ ⟨⟨_, rfl, .same _ nn⟩, ⟨_, rfl, .ptr 0 0 0 0 rfl⟩, ⟨_, rfl, .ptr 1 1 0 0 rfl⟩, ⟨_, rfl, .same _ nn⟩, ⟨_, rfl, .same _ nn⟩, ⟨_, rfl, .same _ nn⟩, ⟨_, rfl, .ptr 3 3 0 0 rfl⟩, ⟨_, rfl, .same _ nn⟩, trivial⟩) ?_
                rintro ⟨wl, ll, kl⟩ ⟨j1, j2, j3, j4, j5, j6⟩
                simp only at j1 j2 j3 j4 j5 j6
                ((conv => whnf); repeat ((first | refine AWp.many ?_ | refine AOps.many ?_ | refine ADr.go ?_); conv => whnf))
                refine bcs_mk (fun h => ?_) (fun h => ?_)
                · have hjc : wl.length < 4 := by rw [hw8] at h; have := tmod_lt q80 (show (0 : Int) < 4 by omega); simp at h; omega
                  have hwj : IntKind.i64.wrap ((ns.length : Int) + (wl.length : Int)) = (ns.length : Int) + wl.length := wrap64 ⟨by omega, by omega⟩
                  have hPj := rPick l ((ns.length : Int) + wl.length) 5 hl (by omega)
                  have hPb := pickI_bound (l := l) (i := (ns.length : Int) + wl.length) (most := 5) (by omega)
                  generalize pickI l ((ns.length : Int) + wl.length) 5 = pw at hPj hPb
                  have hKj := rKid l ns.length wl.length hl (by omega) (by omega) (by omega) (by omega)
                  have hKb := kidI_bound (l := l) (i := (ns.length : Int)) (j := (wl.length : Int)) (by omega)
                  generalize kidI l ns.length wl.length = kw at hKj hKb
                  ((conv => whnf); repeat ((first | refine AWp.many ?_ | refine AOps.many ?_ | refine ADr.go ?_); conv => whnf))
                  rw [hwj]
                  refine hPj.go ?_
                  ((conv => whnf); repeat ((first | refine AWp.many ?_ | refine AOps.many ?_ | refine ADr.go ?_); conv => whnf))
                  repeat (refine ⟨rfl, ?_⟩; ((conv => whnf); repeat ((first | refine AWp.many ?_ | refine AOps.many ?_ | refine ADr.go ?_); conv => whnf)))
                  refine grd_mk (app_ok rfl rfl (by rw [encI_length]) (by simp; omega)) ?_
                  ((conv => whnf); repeat ((first | refine AWp.many ?_ | refine AOps.many ?_ | refine ADr.go ?_); conv => whnf))
                  repeat (refine ⟨rfl, ?_⟩; ((conv => whnf); repeat ((first | refine AWp.many ?_ | refine AOps.many ?_ | refine ADr.go ?_); conv => whnf)))
                  refine hKj.go ?_
                  ((conv => whnf); repeat ((first | refine AWp.many ?_ | refine AOps.many ?_ | refine ADr.go ?_); conv => whnf))
                  repeat (refine ⟨rfl, ?_⟩; ((conv => whnf); repeat ((first | refine AWp.many ?_ | refine AOps.many ?_ | refine ADr.go ?_); conv => whnf)))
                  refine grd_mk (app_ok rfl rfl (by rw [encI_length, j2]) (by simp; omega)) ?_
                  ((conv => whnf); repeat ((first | refine AWp.many ?_ | refine AOps.many ?_ | refine ADr.go ?_); conv => whnf))
                  repeat (refine ⟨rfl, ?_⟩; ((conv => whnf); repeat ((first | refine AWp.many ?_ | refine AOps.many ?_ | refine ADr.go ?_); conv => whnf)))
                  rw [hB]
                  ((conv => whnf); repeat ((first | refine AWp.many ?_ | refine AOps.many ?_ | refine ADr.go ?_); conv => whnf))
                  obtain ⟨qn, hqn, hqe⟩ : ∃ qn : Nat, qn < 4 ∧ (IntKind.i64.wrap ((wl.length : Int) + IntKind.i64.wrap (kk.tdiv 96))).tmod 4 = (qn : Int) := by
                    have a0 := tdiv_le kk0 (show (0 : Int) < 96 by omega)
                    have a1 : 0 ≤ kk.tdiv 96 := Int.tdiv_nonneg kk0 (by omega)
                    have e1 : IntKind.i64.wrap (kk.tdiv 96) = kk.tdiv 96 := wrap64 ⟨by omega, by omega⟩
                    have e2 : IntKind.i64.wrap ((wl.length : Int) + kk.tdiv 96) = (wl.length : Int) + kk.tdiv 96 := wrap64 ⟨by omega, by omega⟩
                    rw [e1, e2]
                    have := tmod_lt (show 0 ≤ (wl.length : Int) + kk.tdiv 96 by omega) (show (0 : Int) < 4 by omega)
                    exact ⟨(((wl.length : Int) + kk.tdiv 96).tmod 4).toNat, by omega, by omega⟩
                  obtain ⟨sa, hsa, hsm⟩ : ∃ sa, ([AV.str [97], AV.str [98], AV.str [99], AV.str [100]])[0 + ((qn : Nat) : Int).toNat]? = some (.str sa) ∧ sa ∈ abcd := by
                    rcases (show qn = 0 ∨ qn = 1 ∨ qn = 2 ∨ qn = 3 by omega) with rfl | rfl | rfl | rfl
                    · exact ⟨[97], rfl, by simp [abcd]⟩
                    · exact ⟨[98], rfl, by simp [abcd]⟩
                    · exact ⟨[99], rfl, by simp [abcd]⟩
                    · exact ⟨[100], rfl, by simp [abcd]⟩
                  have bsa : Nat.blt ((qn : Nat) : Int).toNat 4 = true := Nat.ble_eq_true_of_le (by simp; omega)
                  rw [hqe]
                  ((conv => whnf); repeat ((first | refine AWp.many ?_ | refine AOps.many ?_ | refine ADr.go ?_); conv => whnf))
                  repeat (first | (refine ⟨rfl, ?_⟩; ((conv => whnf); repeat ((first | refine AWp.many ?_ | refine AOps.many ?_ | refine ADr.go ?_); conv => whnf))) | (refine grd_mk bsa ?_; ((conv => whnf); repeat ((first | refine AWp.many ?_ | refine AOps.many ?_ | refine ADr.go ?_); conv => whnf))) | (refine opt_mk hsa ?_; ((conv => whnf); repeat ((first | refine AWp.many ?_ | refine AOps.many ?_ | refine ADr.go ?_); conv => whnf))))
                  refine grd_mk (app_ok rfl rfl (by rw [encS_length, j6]) (by simp; omega)) ?_
                  ((conv => whnf); repeat ((first | refine AWp.many ?_ | refine AOps.many ?_ | refine ADr.go ?_); conv => whnf))
                  repeat (first | (refine ⟨rfl, ?_⟩; ((conv => whnf); repeat ((first | refine AWp.many ?_ | refine AOps.many ?_ | refine ADr.go ?_); conv => whnf))) | (refine grd_mk bsa ?_; ((conv => whnf); repeat ((first | refine AWp.many ?_ | refine AOps.many ?_ | refine ADr.go ?_); conv => whnf))) | (refine opt_mk hsa ?_; ((conv => whnf); repeat ((first | refine AWp.many ?_ | refine AOps.many ?_ | refine ADr.go ?_); conv => whnf))))
                  exact .mk (wl ++ [IntKind.i64.wrap (1 + pw)], ll ++ [sa], kl ++ [kw]) [(0, 0), (1, 1), (2, 2), (3, 3), (19, 4), (30, 5), (45, 6)] ⟨by simp; omega, by simp; omega, mem_snoc j3 (i64w _), mem_snoc j4 ⟨by omega, by omega⟩, mem_snoc j5 hsm, by simp; omega⟩
                    (conv_mk _ rfl ⟨⟨0, _, rfl, rfl, .same nns⟩, ⟨1, _, rfl, rfl, .cons (.agg (.cons (.sl 2 2 0 _ rfl) .nil)) .nil⟩, ⟨2, _, rfl, rfl, .same (encNs_nn _)⟩, ⟨3, _, rfl, rfl, .cons (.agg (.cons (.same _ nn) (.cons (.same _ nn) (.cons (.same _ nn) (.cons (.same _ nn) (.cons (.slE rfl (by simp)) (.cons (.slE rfl (by simp)) (.cons (.same _ nn) (.cons (.slE rfl (by simp)) (.cons (.same _ nn) (.cons (.same _ nn) (.cons (.same _ nn) (.cons (.same _ nn) .nil))))))))))))) .nil⟩, ⟨19, _, rfl, rfl, .eq (encI_nn _) (by simp [encI])⟩, ⟨30, _, rfl, rfl, .eq (encI_nn _) (by simp [encI])⟩, ⟨45, _, rfl, rfl, .eq (encS_nn _) (by simp [encS])⟩, trivial⟩ ⟨⟨_, rfl, .same _ nn⟩, ⟨_, rfl, .ptr 0 0 0 0 rfl⟩, ⟨_, rfl, .ptr 1 1 0 0 rfl⟩, ⟨_, rfl, .same _ nn⟩, ⟨_, rfl, .same _ nn⟩, ⟨_, rfl, .same _ nn⟩, ⟨_, rfl, .ptr 3 3 0 0 rfl⟩, ⟨_, rfl, .w64 (by simp) ⟨by simp; omega, by simp; omega⟩⟩, trivial⟩) (by simp; omega)
                · ((conv => whnf); repeat ((first | refine AWp.many ?_ | refine AOps.many ?_ | refine ADr.go ?_); conv => whnf))
                  exact hQ ⟨2, [], 0, 0, wl, ll, [], kl, zV⟩ _ [(0, 0), (1, 1), (2, 2), (3, 3)] (genN_mk ⟨by omega, by omega⟩ (by simp) z0 z0 (by omega) j3 (by omega) j5 (by simp) (by simp) (by omega) j4 (okV_leaf z0 z0) (by simp [zV, sizeV, sizeL])) (conv_mk _ rfl ⟨⟨0, _, rfl, rfl, .same nns⟩, ⟨1, _, rfl, rfl, .cons (.agg (.cons (.sl 2 2 0 _ rfl) .nil)) .nil⟩, ⟨2, _, rfl, rfl, .same (encNs_nn _)⟩, ⟨3, _, rfl, rfl, .cons (.agg (.cons (.same _ nn) (.cons (.same _ nn) (.cons (.same _ nn) (.cons (.same _ nn) (.cons (.fz' (id := 4) rfl rfl (by rw [encI_length]; first | omega | (simp only; omega)) (by rw [List.drop_zero]; exact List.take_of_length_le (by rw [encI_length]; first | omega | (simp only; omega))) (encI_nn _)) (.cons (.fz' (id := 6) rfl rfl (by rw [encS_length]; first | omega | (simp only; omega)) (by rw [List.drop_zero]; exact List.take_of_length_le (by rw [encS_length]; first | omega | (simp only; omega))) (encS_nn _)) (.cons (.nil 4) (.cons (.fz' (id := 5) rfl rfl (by rw [encI_length]; first | omega | (simp only; omega)) (by rw [List.drop_zero]; exact List.take_of_length_le (by rw [encI_length]; first | omega | (simp only; omega))) (encI_nn _)) (.cons (.same _ nn) (.cons (.same _ nn) (.cons (.same _ nn) (.cons (.nil 4) .nil))))))))))))) .nil⟩, trivial⟩ ⟨⟨_, rfl, .same _ nn⟩, ⟨_, rfl, .ptr 0 0 0 0 rfl⟩, ⟨_, rfl, .ptr 1 1 0 0 rfl⟩, ⟨_, rfl, .same _ nn⟩, ⟨_, rfl, .same _ nn⟩, ⟨_, rfl, .same _ nn⟩, ⟨_, rfl, .ptr 3 3 0 0 rfl⟩, trivial⟩)
              · have hB : decide ((IntKind.i64.wrap (kk.tdiv 32)).tmod 3 > 0) = false := hB
                refine ALoop.ph 3 1 ?_
                refine ALoop.ph 3 1 ?_
                refine ALoop.at nnΓ (fun a : List Int × List (List UInt8) × List Int => a.1.length ≤ 4 ∧ a.2.2.length = a.1.length ∧ (∀ w ∈ a.1, i64 w) ∧ (∀ w ∈ a.2.2, i64 w) ∧ (∀ s ∈ a.2.1, s ∈ abcd) ∧ a.2.1.length = 0)
                  (fun a => ⟨[(0, .il 1 (encI l)), (2, .ptr 0 0 0), (3, .ptr 1 0 0), (4, .int .i64 n), (5, .int .i64 ns.length), (6, .int .i64 kk), (7, .ptr 3 0 0), (8, .int .i64 a.1.length)], [(0, .row 25 1 [.agg [.nsl]]), (1, .row 25 1 [.agg [.sl 2 0 ns.length]]), (2, .row 35 12 (encNs ns)), (3, .row 35 12 [.agg [.int .i64 2, .str [], .int .i64 0, .int .i64 0, .sl 4 0 a.1.length, .nsl, .nsl, .sl 5 0 a.1.length, .int .i64 0, .int .i64 0, .str [], .nsl]]), (4, .row 3 1 (encI a.1)), (5, .row 3 1 (encI a.2.2))], 6, 181⟩)
                  (fun a => 4 - a.1.length) ([], [], []) [(0, 0), (1, 1), (2, 2), (3, 3), (4, 4), (5, 5)] (by simp)
                  (conv_mk _ rfl ⟨⟨0, _, rfl, rfl, .same nns⟩, ⟨1, _, rfl, rfl, .cons (.agg (.cons (.sl 2 2 0 _ rfl) .nil)) .nil⟩, ⟨2, _, rfl, rfl, .same (encNs_nn _)⟩, ⟨3, _, rfl, rfl, .cons (.agg (.cons (.same _ nn) (.cons (.same _ nn) (.cons (.same _ nn) (.cons (.same _ nn) (.cons (.nslk 4 4 _ rfl rfl) (.cons (.same _ nn) (.cons (.same _ nn) (.cons (.nslk 5 5 _ rfl rfl) (.cons (.same _ nn) (.cons (.same _ nn) (.cons (.same _ nn) (.cons (.same _ nn) .nil))))))))))))) .nil⟩, ⟨4, _, rfl, rfl, .same .nil⟩, ⟨5, _, rfl, rfl, .same .nil⟩, trivial⟩ ⟨⟨_, rfl, .same _ nn⟩, ⟨_, rfl, .ptr 0 0 0 0 rfl⟩, ⟨_, rfl, .ptr 1 1 0 0 rfl⟩, ⟨_, rfl, .same _ nn⟩, ⟨_, rfl, .same _ nn⟩, ⟨_, rfl, .same _ nn⟩, ⟨_, rfl, .ptr 3 3 0 0 rfl⟩, ⟨_, rfl, .same _ nn⟩, trivial⟩) ?_
                rintro ⟨wl, ll, kl⟩ ⟨j1, j2, j3, j4, j5, j6⟩
                simp only at j1 j2 j3 j4 j5 j6
                ((conv => whnf); repeat ((first | refine AWp.many ?_ | refine AOps.many ?_ | refine ADr.go ?_); conv => whnf))
                refine bcs_mk (fun h => ?_) (fun h => ?_)
                · have hjc : wl.length < 4 := by rw [hw8] at h; have := tmod_lt q80 (show (0 : Int) < 4 by omega); simp at h; omega
                  have hwj : IntKind.i64.wrap ((ns.length : Int) + (wl.length : Int)) = (ns.length : Int) + wl.length := wrap64 ⟨by omega, by omega⟩
                  have hPj := rPick l ((ns.length : Int) + wl.length) 5 hl (by omega)
                  have hPb := pickI_bound (l := l) (i := (ns.length : Int) + wl.length) (most := 5) (by omega)
                  generalize pickI l ((ns.length : Int) + wl.length) 5 = pw at hPj hPb
                  have hKj := rKid l ns.length wl.length hl (by omega) (by omega) (by omega) (by omega)
                  have hKb := kidI_bound (l := l) (i := (ns.length : Int)) (j := (wl.length : Int)) (by omega)
                  generalize kidI l ns.length wl.length = kw at hKj hKb
                  ((conv => whnf); repeat ((first | refine AWp.many ?_ | refine AOps.many ?_ | refine ADr.go ?_); conv => whnf))
                  rw [hwj]
                  refine hPj.go ?_
                  ((conv => whnf); repeat ((first | refine AWp.many ?_ | refine AOps.many ?_ | refine ADr.go ?_); conv => whnf))
                  repeat (refine ⟨rfl, ?_⟩; ((conv => whnf); repeat ((first | refine AWp.many ?_ | refine AOps.many ?_ | refine ADr.go ?_); conv => whnf)))
                  refine grd_mk (app_ok rfl rfl (by rw [encI_length]) (by simp; omega)) ?_
                  ((conv => whnf); repeat ((first | refine AWp.many ?_ | refine AOps.many ?_ | refine ADr.go ?_); conv => whnf))
                  repeat (refine ⟨rfl, ?_⟩; ((conv => whnf); repeat ((first | refine AWp.many ?_ | refine AOps.many ?_ | refine ADr.go ?_); conv => whnf)))
                  refine hKj.go ?_
                  ((conv => whnf); repeat ((first | refine AWp.many ?_ | refine AOps.many ?_ | refine ADr.go ?_); conv => whnf))
                  repeat (refine ⟨rfl, ?_⟩; ((conv => whnf); repeat ((first | refine AWp.many ?_ | refine AOps.many ?_ | refine ADr.go ?_); conv => whnf)))
                  refine grd_mk (app_ok rfl rfl (by rw [encI_length, j2]) (by simp; omega)) ?_
                  ((conv => whnf); repeat ((first | refine AWp.many ?_ | refine AOps.many ?_ | refine ADr.go ?_); conv => whnf))
                  repeat (refine ⟨rfl, ?_⟩; ((conv => whnf); repeat ((first | refine AWp.many ?_ | refine AOps.many ?_ | refine ADr.go ?_); conv => whnf)))
                  rw [hB]
                  ((conv => whnf); repeat ((first | refine AWp.many ?_ | refine AOps.many ?_ | refine ADr.go ?_); conv => whnf))
                  exact .mk (wl ++ [IntKind.i64.wrap (1 + pw)], ll, kl ++ [kw]) [(0, 0), (1, 1), (2, 2), (3, 3), (18, 4), (29, 5)] ⟨by simp; omega, by simp; omega, mem_snoc j3 (i64w _), mem_snoc j4 ⟨by omega, by omega⟩, j5, j6⟩
                    (conv_mk _ rfl ⟨⟨0, _, rfl, rfl, .same nns⟩, ⟨1, _, rfl, rfl, .cons (.agg (.cons (.sl 2 2 0 _ rfl) .nil)) .nil⟩, ⟨2, _, rfl, rfl, .same (encNs_nn _)⟩, ⟨3, _, rfl, rfl, .cons (.agg (.cons (.same _ nn) (.cons (.same _ nn) (.cons (.same _ nn) (.cons (.same _ nn) (.cons (.slE rfl (by simp)) (.cons (.same _ nn) (.cons (.same _ nn) (.cons (.slE rfl (by simp)) (.cons (.same _ nn) (.cons (.same _ nn) (.cons (.same _ nn) (.cons (.same _ nn) .nil))))))))))))) .nil⟩, ⟨18, _, rfl, rfl, .eq (encI_nn _) (by simp [encI])⟩, ⟨29, _, rfl, rfl, .eq (encI_nn _) (by simp [encI])⟩, trivial⟩ ⟨⟨_, rfl, .same _ nn⟩, ⟨_, rfl, .ptr 0 0 0 0 rfl⟩, ⟨_, rfl, .ptr 1 1 0 0 rfl⟩, ⟨_, rfl, .same _ nn⟩, ⟨_, rfl, .same _ nn⟩, ⟨_, rfl, .same _ nn⟩, ⟨_, rfl, .ptr 3 3 0 0 rfl⟩, ⟨_, rfl, .w64 (by simp) ⟨by simp; omega, by simp; omega⟩⟩, trivial⟩) (by simp; omega)
                · ((conv => whnf); repeat ((first | refine AWp.many ?_ | refine AOps.many ?_ | refine ADr.go ?_); conv => whnf))
                  obtain rfl : ll = [] := List.length_eq_zero_iff.1 j6
                  exact hQ ⟨2, [], 0, 0, wl, [], [], kl, zV⟩ _ [(0, 0), (1, 1), (2, 2), (3, 3)] (genN_mk ⟨by omega, by omega⟩ (by simp) z0 z0 (by omega) j3 (by simp) (by simp) (by simp) (by simp) (by omega) j4 (okV_leaf z0 z0) (by simp [zV, sizeV, sizeL])) (conv_mk _ rfl ⟨⟨0, _, rfl, rfl, .same nns⟩, ⟨1, _, rfl, rfl, .cons (.agg (.cons (.sl 2 2 0 _ rfl) .nil)) .nil⟩, ⟨2, _, rfl, rfl, .same (encNs_nn _)⟩, ⟨3, _, rfl, rfl, .cons (.agg (.cons (.same _ nn) (.cons (.same _ nn) (.cons (.same _ nn) (.cons (.same _ nn) (.cons (.fz' (id := 4) rfl rfl (by rw [encI_length]; first | omega | (simp only; omega)) (by rw [List.drop_zero]; exact List.take_of_length_le (by rw [encI_length]; first | omega | (simp only; omega))) (encI_nn _)) (.cons (.nil 1) (.cons (.nil 4) (.cons (.fz' (id := 5) rfl rfl (by rw [encI_length]; first | omega | (simp only; omega)) (by rw [List.drop_zero]; exact List.take_of_length_le (by rw [encI_length]; first | omega | (simp only; omega))) (encI_nn _)) (.cons (.same _ nn) (.cons (.same _ nn) (.cons (.same _ nn) (.cons (.nil 4) .nil))))))))))))) .nil⟩, trivial⟩ ⟨⟨_, rfl, .same _ nn⟩, ⟨_, rfl, .ptr 0 0 0 0 rfl⟩, ⟨_, rfl, .ptr 1 1 0 0 rfl⟩, ⟨_, rfl, .same _ nn⟩, ⟨_, rfl, .same _ nn⟩, ⟨_, rfl, .same _ nn⟩, ⟨_, rfl, .ptr 3 3 0 0 rfl⟩, trivial⟩)
            · obtain ⟨qn, hqn, hqe⟩ : ∃ qn : Nat, qn < 3 ∧ (IntKind.i64.wrap (kk.tdiv 8)).tmod 3 = (qn : Int) := by
                rw [hw8]
                have := tmod_lt q80 (show (0 : Int) < 3 by omega)
                exact ⟨((kk.tdiv 8).tmod 3).toNat, by omega, by omega⟩
              obtain ⟨nm, hnm, hnl⟩ : ∃ nm, ([AV.str [], AV.str [80, 97, 105, 114], AV.str []])[0 + ((qn : Nat) : Int).toNat]? = some (.str nm) ∧ nm.length ≤ 4 := by
                rcases (show qn = 0 ∨ qn = 1 ∨ qn = 2 by omega) with rfl | rfl | rfl
                · exact ⟨[], rfl, by simp⟩
                · exact ⟨[80, 97, 105, 114], rfl, by simp⟩
                · exact ⟨[], rfl, by simp⟩
              have bnm : Nat.blt ((qn : Nat) : Int).toNat 3 = true := Nat.ble_eq_true_of_le (by simp; omega)
              ((conv => whnf); repeat ((first | refine AWp.many ?_ | refine AOps.many ?_ | refine ADr.go ?_); conv => whnf))
              rw [hqe]
              ((conv => whnf); repeat ((first | refine AWp.many ?_ | refine AOps.many ?_ | refine ADr.go ?_); conv => whnf))
              repeat (first | (refine ⟨rfl, ?_⟩; ((conv => whnf); repeat ((first | refine AWp.many ?_ | refine AOps.many ?_ | refine ADr.go ?_); conv => whnf))) | (refine grd_mk bnm ?_; ((conv => whnf); repeat ((first | refine AWp.many ?_ | refine AOps.many ?_ | refine ADr.go ?_); conv => whnf))) | (refine opt_mk hnm ?_; ((conv => whnf); repeat ((first | refine AWp.many ?_ | refine AOps.many ?_ | refine ADr.go ?_); conv => whnf))))
              refine ALoop.ph 3 1 ?_
              refine ALoop.at nnΓ (fun a : List Int => a.length ≤ 4 ∧ ∀ w ∈ a, i64 w)
                (fun a => ⟨[(0, .il 1 (encI l)), (2, .ptr 0 0 0), (3, .ptr 1 0 0), (4, .int .i64 n), (5, .int .i64 ns.length), (6, .int .i64 kk), (7, .ptr 3 0 0), (9, .int .i64 a.length)], [(0, .row 25 1 [.agg [.nsl]]), (1, .row 25 1 [.agg [.sl 2 0 ns.length]]), (2, .row 35 12 (encNs ns)), (3, .row 35 12 [.agg [.int .i64 3, .str nm, .int .i64 0, .int .i64 0, .nsl, .nsl, .nsl, .sl 4 0 a.length, .int .i64 0, .int .i64 0, .str [], .nsl]]), (4, .row 3 1 (encI a))], 5, 181⟩)
                (fun a => 4 - a.length) [] [(0, 0), (1, 1), (2, 2), (3, 3), (5, 4)] (by simp)
                (conv_mk _ rfl ⟨⟨0, _, rfl, rfl, .same nns⟩, ⟨1, _, rfl, rfl, .cons (.agg (.cons (.sl 2 2 0 _ rfl) .nil)) .nil⟩, ⟨2, _, rfl, rfl, .same (encNs_nn _)⟩, ⟨3, _, rfl, rfl, .cons (.agg (.cons (.same _ nn) (.cons (.same _ nn) (.cons (.same _ nn) (.cons (.same _ nn) (.cons (.same _ nn) (.cons (.same _ nn) (.cons (.same _ nn) (.cons (.nslk 5 4 _ rfl rfl) (.cons (.same _ nn) (.cons (.same _ nn) (.cons (.same _ nn) (.cons (.same _ nn) .nil))))))))))))) .nil⟩, ⟨5, _, rfl, rfl, .same .nil⟩, trivial⟩ ⟨⟨_, rfl, .same _ nn⟩, ⟨_, rfl, .ptr 0 0 0 0 rfl⟩, ⟨_, rfl, .ptr 1 1 0 0 rfl⟩, ⟨_, rfl, .same _ nn⟩, ⟨_, rfl, .same _ nn⟩, ⟨_, rfl, .same _ nn⟩, ⟨_, rfl, .ptr 3 3 0 0 rfl⟩, ⟨_, rfl, .same _ nn⟩, trivial⟩) ?_
              rintro kl ⟨j1, j4⟩
              ((conv => whnf); repeat ((first | refine AWp.many ?_ | refine AOps.many ?_ | refine ADr.go ?_); conv => whnf))
              refine bcs_mk (fun h => ?_) (fun h => ?_)
              · have hjc : kl.length < 4 := by
                  have a0 := tdiv_le kk0 (show (0 : Int) < 24 by omega)
                  have a1 : 0 ≤ kk.tdiv 24 := Int.tdiv_nonneg kk0 (by omega)
                  have e1 : IntKind.i64.wrap (kk.tdiv 24) = kk.tdiv 24 := wrap64 ⟨by omega, by omega⟩
                  rw [e1] at h
                  have := tmod_lt a1 (show (0 : Int) < 4 by omega)
                  simp at h
                  omega
                have hKj := rKid l ns.length kl.length hl (by omega) (by omega) (by omega) (by omega)
                have hKb := kidI_bound (l := l) (i := (ns.length : Int)) (j := (kl.length : Int)) (by omega)
                generalize kidI l ns.length kl.length = kw at hKj hKb
                ((conv => whnf); repeat ((first | refine AWp.many ?_ | refine AOps.many ?_ | refine ADr.go ?_); conv => whnf))
                refine hKj.go ?_
                ((conv => whnf); repeat ((first | refine AWp.many ?_ | refine AOps.many ?_ | refine ADr.go ?_); conv => whnf))
                repeat (refine ⟨rfl, ?_⟩; ((conv => whnf); repeat ((first | refine AWp.many ?_ | refine AOps.many ?_ | refine ADr.go ?_); conv => whnf)))
                refine grd_mk (app_ok rfl rfl (by rw [encI_length]) (by simp; omega)) ?_
                ((conv => whnf); repeat ((first | refine AWp.many ?_ | refine AOps.many ?_ | refine ADr.go ?_); conv => whnf))
                repeat (refine ⟨rfl, ?_⟩; ((conv => whnf); repeat ((first | refine AWp.many ?_ | refine AOps.many ?_ | refine ADr.go ?_); conv => whnf)))
                exact .mk (kl ++ [kw]) [(0, 0), (1, 1), (2, 2), (3, 3), (15, 4)] ⟨by simp; omega, mem_snoc j4 ⟨by omega, by omega⟩⟩
                  (conv_mk _ rfl ⟨⟨0, _, rfl, rfl, .same nns⟩, ⟨1, _, rfl, rfl, .cons (.agg (.cons (.sl 2 2 0 _ rfl) .nil)) .nil⟩, ⟨2, _, rfl, rfl, .same (encNs_nn _)⟩, ⟨3, _, rfl, rfl, .cons (.agg (.cons (.same _ nn) (.cons (.same _ nn) (.cons (.same _ nn) (.cons (.same _ nn) (.cons (.same _ nn) (.cons (.same _ nn) (.cons (.same _ nn) (.cons (.slE rfl (by simp)) (.cons (.same _ nn) (.cons (.same _ nn) (.cons (.same _ nn) (.cons (.same _ nn) .nil))))))))))))) .nil⟩, ⟨15, _, rfl, rfl, .eq (encI_nn _) (by simp [encI])⟩, trivial⟩ ⟨⟨_, rfl, .same _ nn⟩, ⟨_, rfl, .ptr 0 0 0 0 rfl⟩, ⟨_, rfl, .ptr 1 1 0 0 rfl⟩, ⟨_, rfl, .same _ nn⟩, ⟨_, rfl, .same _ nn⟩, ⟨_, rfl, .same _ nn⟩, ⟨_, rfl, .ptr 3 3 0 0 rfl⟩, ⟨_, rfl, .w64 (by simp) ⟨by simp; omega, by simp; omega⟩⟩, trivial⟩) (by simp; omega)
              · ((conv => whnf); repeat ((first | refine AWp.many ?_ | refine AOps.many ?_ | refine ADr.go ?_); conv => whnf))
                exact hQ ⟨3, nm, 0, 0, [], [], [], kl, zV⟩ _ [(0, 0), (1, 1), (2, 2), (3, 3)] (genN_mk ⟨by omega, by omega⟩ (by omega) z0 z0 (by simp) (by simp) (by simp) (by simp) (by simp) (by simp) (by omega) j4 (okV_leaf z0 z0) (by simp [zV, sizeV, sizeL])) (conv_mk _ rfl ⟨⟨0, _, rfl, rfl, .same nns⟩, ⟨1, _, rfl, rfl, .cons (.agg (.cons (.sl 2 2 0 _ rfl) .nil)) .nil⟩, ⟨2, _, rfl, rfl, .same (encNs_nn _)⟩, ⟨3, _, rfl, rfl, .cons (.agg (.cons (.same _ nn) (.cons (.same _ nn) (.cons (.same _ nn) (.cons (.same _ nn) (.cons (.nil 1) (.cons (.nil 1) (.cons (.nil 4) (.cons (.fz' (id := 4) rfl rfl (by rw [encI_length]; first | omega | (simp only; omega)) (by rw [List.drop_zero]; exact List.take_of_length_le (by rw [encI_length]; first | omega | (simp only; omega))) (encI_nn _)) (.cons (.same _ nn) (.cons (.same _ nn) (.cons (.same _ nn) (.cons (.nil 4) .nil))))))))))))) .nil⟩, trivial⟩ ⟨⟨_, rfl, .same _ nn⟩, ⟨_, rfl, .ptr 0 0 0 0 rfl⟩, ⟨_, rfl, .ptr 1 1 0 0 rfl⟩, ⟨_, rfl, .same _ nn⟩, ⟨_, rfl, .same _ nn⟩, ⟨_, rfl, .same _ nn⟩, ⟨_, rfl, .ptr 3 3 0 0 rfl⟩, trivial⟩)
            · have hBd := oBind ns l kk hl (by omega) (by omega) kk0 (by omega) hT.good
              have hBg := bindN_gen hT (by omega) (by omega) (l := l) (k := kk) kk0
              have hns : ns.length ≤ 14 := by omega
              generalize bindN ns l ns.length kk = bx at hBd hBg
              have hbn := encN_nn bx
              ((conv => whnf); repeat ((first | refine AWp.many ?_ | refine AOps.many ?_ | refine ADr.go ?_); conv => whnf))
              refine ACalls.use1 nnΓ hBd 2 rfl (encNs_nn _) (.cons (.agg' (.cons (.sl 2 0 0 _ rfl) .nil)) (.cons (.same _ nn) (.cons (.same _ nn) (.cons (.same _ nn) .nil)))) ?_
              rintro r m k' ⟨rfl, rfl⟩
              refine ⟨_, rfl, hbn, encNs_nn _, ?_⟩
              obtain ⟨kind, name, lo, hi, ws, ls, vals, kids, ⟨vk, vn, vs, vks⟩⟩ := bx
              ((conv => whnf); repeat ((first | refine AWp.many ?_ | refine AOps.many ?_ | refine ADr.go ?_); conv => whnf))
              exact hQ ⟨kind, name, lo, hi, ws, ls, vals, kids, .mk vk vn vs vks⟩ _ [(0, 0), (1, 1), (2, 2), (3, 3)] hBg (conv_mk _ rfl ⟨⟨0, _, rfl, rfl, .same nns⟩, ⟨1, _, rfl, rfl, .cons (.agg (.cons (.sl 2 2 0 _ rfl) .nil)) .nil⟩, ⟨2, _, rfl, rfl, .same (encNs_nn _)⟩, ⟨3, _, rfl, rfl, .same (.cons (encN_nn ⟨kind, name, lo, hi, ws, ls, vals, kids, .mk vk vn vs vks⟩) .nil)⟩, trivial⟩ ⟨⟨_, rfl, .same _ nn⟩, ⟨_, rfl, .ptr 0 0 0 0 rfl⟩, ⟨_, rfl, .ptr 1 1 0 0 rfl⟩, ⟨_, rfl, .same _ nn⟩, ⟨_, rfl, .same _ nn⟩, ⟨_, rfl, .same _ nn⟩, ⟨_, rfl, .ptr 3 3 0 0 rfl⟩, trivial⟩)
          · have hxn := encN_nn x
            have hV := oValid (ns ++ [x]) (by simp; omega) (fun y hy => by
              rcases List.mem_append.1 hy with hy | hy
              · have := hT.gen y hy; exact ⟨this.ok, by have := this.vals; omega⟩
              · simp at hy; rw [hy]; exact ⟨hx.ok, by have := hx.vals; omega⟩)
            have hnn2 := encNs_nn (ns ++ [x])
            have eTk : List.take ns.length (List.drop 0 (encNs ns)) = encNs ns := by rw [List.drop_zero]; exact List.take_of_length_le (by rw [encNs_length]; omega)
            have hxs : encNs (ns ++ [x]) = encNs ns ++ [encN x] := by simp [encNs]
            have hsn := fun h => hT.snoc (x := x) (by omega) hx h
            have hw5 := tmod_lt kk0 (show (0 : Int) < 5 by omega)
            have hlf := hT.leaf (m := kk.tmod 5) ⟨by omega, by omega⟩
            obtain ⟨e, he⟩ : ∃ e, e = validT (ns ++ [x]) := ⟨_, rfl⟩
            rw [← he] at hV hsn
            obtain ⟨kind, name, lo, hi, ws, ls, vals, kids, ⟨vk, vn, vs, vks⟩⟩ := x
            ((conv => whnf); repeat ((first | refine AWp.many ?_ | refine AOps.many ?_ | refine ADr.go ?_); conv => whnf))
            refine grd_mk (src_ok (by rw [encNs_length]; omega)) ?_
            rw [eTk]
            ((conv => whnf); repeat ((first | refine AWp.many ?_ | refine AOps.many ?_ | refine ADr.go ?_); conv => whnf))
            refine grd_mk (app_nil rfl (by rw [encNs_length]; omega)) ?_
            ((conv => whnf); repeat ((first | refine AWp.many ?_ | refine AOps.many ?_ | refine ADr.go ?_); conv => whnf))
            refine grd_mk (app_ok rfl rfl rfl (by rw [encNs_length]; simp; omega)) ?_
            ((conv => whnf); repeat ((first | refine AWp.many ?_ | refine AOps.many ?_ | refine ADr.go ?_); conv => whnf))
            refine ACalls.useN nnΓ [(7, 0)] hV rfl (.cons (.agg' (.cons (.slE rfl (by rw [encNs_length]; simp)) .nil)) .nil) ⟨⟨7, _, rfl, rfl, .eq hnn2 (by rw [hxs]; rfl)⟩, trivial⟩ rfl ?_
            rintro r m k' ⟨rfl, rfl⟩
            refine ⟨[(0, 7)], _, [(7, .row 35 12 (encNs (ns ++ [⟨kind, name, lo, hi, ws, ls, vals, kids, .mk vk vn vs vks⟩])))], 8, .same _ nn, ⟨⟨0, _, rfl, rfl, .same hnn2⟩, trivial⟩, rfl, ?_⟩
            by_cases e0 : e = 0
            · subst e0
              ((conv => whnf); repeat ((first | refine AWp.many ?_ | refine AOps.many ?_ | refine ADr.go ?_); conv => whnf))
              exact .mk (ns ++ [⟨kind, name, lo, hi, ws, ls, vals, kids, .mk vk vn vs vks⟩]) [(0, 0), (1, 1), (7, 2)] ⟨hsn rfl, by simp; omega⟩
                (conv_mk _ rfl ⟨⟨0, _, rfl, rfl, .same nns⟩, ⟨1, _, rfl, rfl, .cons (.agg (.cons (.slE rfl (by rw [encNs_length]; simp)) .nil)) .nil⟩, ⟨7, _, rfl, rfl, .same hnn2⟩, trivial⟩ ⟨⟨_, rfl, .same _ nn⟩, ⟨_, rfl, .ptr 0 0 0 0 rfl⟩, ⟨_, rfl, .ptr 1 1 0 0 rfl⟩, ⟨_, rfl, .same _ nn⟩, ⟨_, rfl, .w64 (by simp) ⟨by simp; omega, by simp; omega⟩⟩, trivial⟩) (by simp; omega)
            · have de : (e == 0) = false := by simpa using e0
              ((conv => whnf); repeat ((first | refine AWp.many ?_ | refine AOps.many ?_ | refine ADr.go ?_); conv => whnf))
              rw [de]
              ((conv => whnf); repeat ((first | refine AWp.many ?_ | refine AOps.many ?_ | refine ADr.go ?_); conv => whnf))
              refine grd_mk (app_ok rfl rfl (by rw [encNs_length]) (by simp; omega)) ?_
              ((conv => whnf); repeat ((first | refine AWp.many ?_ | refine AOps.many ?_ | refine ADr.go ?_); conv => whnf))
              have hlx : encNs (ns ++ [⟨0, [], 0, 0, [], [], [], [], .mk 0 (kk.tmod 5) [] []⟩]) = encNs ns ++ [encN ⟨0, [], 0, 0, [], [], [], [], .mk 0 (kk.tmod 5) [] []⟩] := by simp [encNs]
              exact .mk (ns ++ [⟨0, [], 0, 0, [], [], [], [], .mk 0 (kk.tmod 5) [] []⟩]) [(0, 0), (1, 1), (9, 2)] ⟨hlf, by simp; omega⟩
                (conv_mk _ rfl ⟨⟨0, _, rfl, rfl, .same nns⟩, ⟨1, _, rfl, rfl, .cons (.agg (.cons (.slE rfl (by simp)) .nil)) .nil⟩, ⟨9, _, rfl, rfl, by rw [hlx]; exact .snoc rfl (.same (encNs_nn _)) (.agg (.cons (.same _ nn) (.cons (.same _ nn) (.cons (.same _ nn) (.cons (.same _ nn) (.cons (.nil 1) (.cons (.nil 1) (.cons (.nil 4) (.cons (.nil 1) (.cons (.same _ nn) (.cons (.same _ nn) (.cons (.same _ nn) (.cons (.nil 4) .nil)))))))))))))⟩, trivial⟩ ⟨⟨_, rfl, .same _ nn⟩, ⟨_, rfl, .ptr 0 0 0 0 rfl⟩, ⟨_, rfl, .ptr 1 1 0 0 rfl⟩, ⟨_, rfl, .same _ nn⟩, ⟨_, rfl, .w64 (by simp) ⟨by simp; omega, by simp; omega⟩⟩, trivial⟩) (by simp; omega)
        · have d5 : decide (k8 > 5) = true := by simp; omega
          have hw4 : IntKind.i64.wrap (k8 - 4) = k8 - 4 := wrap64 ⟨by omega, by omega⟩
          rw [e5]
          ((conv => whnf); repeat ((first | refine AWp.many ?_ | refine AOps.many ?_ | refine ADr.go ?_); conv => whnf))
          rw [d5]
          ((conv => whnf); repeat ((first | refine AWp.many ?_ | refine AOps.many ?_ | refine ADr.go ?_); conv => whnf))
          rw [hw4]
          obtain ⟨kd, hkd⟩ : ∃ kd, kd = k8 - 4 := ⟨_, rfl⟩
          rw [← hkd]
          refine bcs_join nnΓ (fun x : Nd => GenN x) (fun x => ⟨[(0, .il 1 (encI l)), (2, .ptr 0 0 0), (3, .ptr 1 0 0), (4, .int .i64 n), (5, .int .i64 ns.length), (6, .int .i64 kk), (7, .ptr 3 0 0)], [(0, .row 25 1 [.agg [.nsl]]), (1, .row 25 1 [.agg [.sl 2 0 ns.length]]), (2, .row 35 12 (encNs ns)), (3, .row 35 12 [encN x])], 4, 181⟩) (fun Qr hQ => ?_) (fun x hx => ?_)
          · rcases (show kd = 2 ∨ kd = 3 by omega) with rfl | rfl
            · ((conv => whnf); repeat ((first | refine AWp.many ?_ | refine AOps.many ?_ | refine ADr.go ?_); conv => whnf))
              rcases (show decide ((IntKind.i64.wrap (kk.tdiv 32)).tmod 3 > 0) = true ∨ decide ((IntKind.i64.wrap (kk.tdiv 32)).tmod 3 > 0) = false by cases decide ((IntKind.i64.wrap (kk.tdiv 32)).tmod 3 > 0) <;> simp) with hB | hB
              · have hB : decide ((IntKind.i64.wrap (kk.tdiv 32)).tmod 3 > 0) = true := hB
                refine ALoop.ph 3 1 ?_
                refine ALoop.ph 3 1 ?_
                refine ALoop.ph 9 1 ?_
                refine ALoop.at nnΓ (fun a : List Int × List (List UInt8) × List Int => a.1.length ≤ 4 ∧ a.2.2.length = a.1.length ∧ (∀ w ∈ a.1, i64 w) ∧ (∀ w ∈ a.2.2, i64 w) ∧ (∀ s ∈ a.2.1, s ∈ abcd) ∧ a.2.1.length = a.1.length)
                  (fun a => ⟨[(0, .il 1 (encI l)), (2, .ptr 0 0 0), (3, .ptr 1 0 0), (4, .int .i64 n), (5, .int .i64 ns.length), (6, .int .i64 kk), (7, .ptr 3 0 0), (8, .int .i64 a.1.length)], [(0, .row 25 1 [.agg [.nsl]]), (1, .row 25 1 [.agg [.sl 2 0 ns.length]]), (2, .row 35 12 (encNs ns)), (3, .row 35 12 [.agg [.int .i64 2, .str [], .int .i64 0, .int .i64 0, .sl 4 0 a.1.length, .sl 6 0 a.1.length, .nsl, .sl 5 0 a.1.length, .int .i64 0, .int .i64 0, .str [], .nsl]]), (4, .row 3 1 (encI a.1)), (5, .row 3 1 (encI a.2.2)), (6, .row 9 1 (encS a.2.1))], 7, 181⟩)
                  (fun a => 4 - a.1.length) ([], [], []) [(0, 0), (1, 1), (2, 2), (3, 3), (4, 4), (5, 5), (6, 6)] (by simp)
                  (conv_mk _ rfl ⟨⟨0, _, rfl, rfl, .same nns⟩, ⟨1, _, rfl, rfl, .cons (.agg (.cons (.sl 2 2 0 _ rfl) .nil)) .nil⟩, ⟨2, _, rfl, rfl, .same (encNs_nn _)⟩, ⟨3, _, rfl, rfl, .cons (.agg (.cons (.same _ nn) (.cons (.same _ nn) (.cons (.same _ nn) (.cons (.same _ nn) (.cons (.nslk 4 4 _ rfl rfl) (.cons (.nslk 6 6 _ rfl rfl) (.cons (.same _ nn) (.cons (.nslk 5 5 _ rfl rfl) (.cons (.same _ nn) (.cons (.same _ nn) (.cons (.same _ nn) (.cons (.same _ nn) .nil))))))))))))) .nil⟩, ⟨4, _, rfl, rfl, .same .nil⟩, ⟨5, _, rfl, rfl, .same .nil⟩, ⟨6, _, rfl, rfl, .same .nil⟩, trivial⟩ ⟨⟨_, rfl, .same _ nn⟩, ⟨_, rfl, .ptr 0 0 0 0 rfl⟩, ⟨_, rfl, .ptr 1 1 0 0 rfl⟩, ⟨_, rfl, .same _ nn⟩, ⟨_, rfl, .same _ nn⟩, ⟨_, rfl, .same _ nn⟩, ⟨_, rfl, .ptr 3 3 0 0 rfl⟩, ⟨_, rfl, .same _ nn⟩, trivial⟩) ?_
                rintro ⟨wl, ll, kl⟩ ⟨j1, j2, j3, j4, j5, j6⟩
                simp only at j1 j2 j3 j4 j5 j6
                ((conv => whnf); repeat ((first | refine AWp.many ?_ | refine AOps.many ?_ | refine ADr.go ?_); conv => whnf))
                refine bcs_mk (fun h => ?_) (fun h => ?_)
                · have hjc : wl.length < 4 := by rw [hw8] at h; have := tmod_lt q80 (show (0 : Int) < 4 by omega); simp at h; omega
                  have hwj : IntKind.i64.wrap ((ns.length : Int) + (wl.length : Int)) = (ns.length : Int) + wl.length := wrap64 ⟨by omega, by omega⟩
                  have hPj := rPick l ((ns.length : Int) + wl.length) 5 hl (by omega)
                  have hPb := pickI_bound (l := l) (i := (ns.length : Int) + wl.length) (most := 5) (by omega)
                  generalize pickI l ((ns.length : Int) + wl.length) 5 = pw at hPj hPb
                  have hKj := rKid l ns.length wl.length hl (by omega) (by omega) (by omega) (by omega)
                  have hKb := kidI_bound (l := l) (i := (ns.length : Int)) (j := (wl.length : Int)) (by omega)
                  generalize kidI l ns.length wl.length = kw at hKj hKb
                  ((conv => whnf); repeat ((first | refine AWp.many ?_ | refine AOps.many ?_ | refine ADr.go ?_); conv => whnf))
                  rw [hwj]
                  refine hPj.go ?_
                  ((conv => whnf); repeat ((first | refine AWp.many ?_ | refine AOps.many ?_ | refine ADr.go ?_); conv => whnf))
                  repeat (refine ⟨rfl, ?_⟩; ((conv => whnf); repeat ((first | refine AWp.many ?_ | refine AOps.many ?_ | refine ADr.go ?_); conv => whnf)))
                  refine grd_mk (app_ok rfl rfl (by rw [encI_length]) (by simp; omega)) ?_
                  ((conv => whnf); repeat ((first | refine AWp.many ?_ | refine AOps.many ?_ | refine ADr.go ?_); conv => whnf))
                  repeat (refine ⟨rfl, ?_⟩; ((conv => whnf); repeat ((first | refine AWp.many ?_ | refine AOps.many ?_ | refine ADr.go ?_); conv => whnf)))
                  refine hKj.go ?_
                  ((conv => whnf); repeat ((first | refine AWp.many ?_ | refine AOps.many ?_ | refine ADr.go ?_); conv => whnf))
                  repeat (refine ⟨rfl, ?_⟩; ((conv => whnf); repeat ((first | refine AWp.many ?_ | refine AOps.many ?_ | refine ADr.go ?_); conv => whnf)))
                  refine grd_mk (app_ok rfl rfl (by rw [encI_length, j2]) (by simp; omega)) ?_
                  ((conv => whnf); repeat ((first | refine AWp.many ?_ | refine AOps.many ?_ | refine ADr.go ?_); conv => whnf))
                  repeat (refine ⟨rfl, ?_⟩; ((conv => whnf); repeat ((first | refine AWp.many ?_ | refine AOps.many ?_ | refine ADr.go ?_); conv => whnf)))
                  rw [hB]
                  ((conv => whnf); repeat ((first | refine AWp.many ?_ | refine AOps.many ?_ | refine ADr.go ?_); conv => whnf))
                  obtain ⟨qn, hqn, hqe⟩ : ∃ qn : Nat, qn < 4 ∧ (IntKind.i64.wrap ((wl.length : Int) + IntKind.i64.wrap (kk.tdiv 96))).tmod 4 = (qn : Int) := by
                    have a0 := tdiv_le kk0 (show (0 : Int) < 96 by omega)
                    have a1 : 0 ≤ kk.tdiv 96 := Int.tdiv_nonneg kk0 (by omega)
                    have e1 : IntKind.i64.wrap (kk.tdiv 96) = kk.tdiv 96 := wrap64 ⟨by omega, by omega⟩
                    have e2 : IntKind.i64.wrap ((wl.length : Int) + kk.tdiv 96) = (wl.length : Int) + kk.tdiv 96 := wrap64 ⟨by omega, by omega⟩
                    rw [e1, e2]
                    have := tmod_lt (show 0 ≤ (wl.length : Int) + kk.tdiv 96 by omega) (show (0 : Int) < 4 by omega)
                    exact ⟨(((wl.length : Int) + kk.tdiv 96).tmod 4).toNat, by omega, by omega⟩
                  obtain ⟨sa, hsa, hsm⟩ : ∃ sa, ([AV.str [97], AV.str [98], AV.str [99], AV.str [100]])[0 + ((qn : Nat) : Int).toNat]? = some (.str sa) ∧ sa ∈ abcd := by
                    rcases (show qn = 0 ∨ qn = 1 ∨ qn = 2 ∨ qn = 3 by omega) with rfl | rfl | rfl | rfl
                    · exact ⟨[97], rfl, by simp [abcd]⟩
                    · exact ⟨[98], rfl, by simp [abcd]⟩
                    · exact ⟨[99], rfl, by simp [abcd]⟩
                    · exact ⟨[100], rfl, by simp [abcd]⟩
                  have bsa : Nat.blt ((qn : Nat) : Int).toNat 4 = true := Nat.ble_eq_true_of_le (by simp; omega)
                  rw [hqe]
                  ((conv => whnf); repeat ((first | refine AWp.many ?_ | refine AOps.many ?_ | refine ADr.go ?_); conv => whnf))
                  repeat (first | (refine ⟨rfl, ?_⟩; ((conv => whnf); repeat ((first | refine AWp.many ?_ | refine AOps.many ?_ | refine ADr.go ?_); conv => whnf))) | (refine grd_mk bsa ?_; ((conv => whnf); repeat ((first | refine AWp.many ?_ | refine AOps.many ?_ | refine ADr.go ?_); conv => whnf))) | (refine opt_mk hsa ?_; ((conv => whnf); repeat ((first | refine AWp.many ?_ | refine AOps.many ?_ | refine ADr.go ?_); conv => whnf))))
                  refine grd_mk (app_ok rfl rfl (by rw [encS_length, j6]) (by simp; omega)) ?_
                  ((conv => whnf); repeat ((first | refine AWp.many ?_ | refine AOps.many ?_ | refine ADr.go ?_); conv => whnf))
                  repeat (first | (refine ⟨rfl, ?_⟩; ((conv => whnf); repeat ((first | refine AWp.many ?_ | refine AOps.many ?_ | refine ADr.go ?_); conv => whnf))) | (refine grd_mk bsa ?_; ((conv => whnf); repeat ((first | refine AWp.many ?_ | refine AOps.many ?_ | refine ADr.go ?_); conv => whnf))) | (refine opt_mk hsa ?_; ((conv => whnf); repeat ((first | refine AWp.many ?_ | refine AOps.many ?_ | refine ADr.go ?_); conv => whnf))))
                  exact .mk (wl ++ [IntKind.i64.wrap (1 + pw)], ll ++ [sa], kl ++ [kw]) [(0, 0), (1, 1), (2, 2), (3, 3), (19, 4), (30, 5), (45, 6)] ⟨by simp; omega, by simp; omega, mem_snoc j3 (i64w _), mem_snoc j4 ⟨by omega, by omega⟩, mem_snoc j5 hsm, by simp; omega⟩
                    (conv_mk _ rfl ⟨⟨0, _, rfl, rfl, .same nns⟩, ⟨1, _, rfl, rfl, .cons (.agg (.cons (.sl 2 2 0 _ rfl) .nil)) .nil⟩, ⟨2, _, rfl, rfl, .same (encNs_nn _)⟩, ⟨3, _, rfl, rfl, .cons (.agg (.cons (.same _ nn) (.cons (.same _ nn) (.cons (.same _ nn) (.cons (.same _ nn) (.cons (.slE rfl (by simp)) (.cons (.slE rfl (by simp)) (.cons (.same _ nn) (.cons (.slE rfl (by simp)) (.cons (.same _ nn) (.cons (.same _ nn) (.cons (.same _ nn) (.cons (.same _ nn) .nil))))))))))))) .nil⟩, ⟨19, _, rfl, rfl, .eq (encI_nn _) (by simp [encI])⟩, ⟨30, _, rfl, rfl, .eq (encI_nn _) (by simp [encI])⟩, ⟨45, _, rfl, rfl, .eq (encS_nn _) (by simp [encS])⟩, trivial⟩ ⟨⟨_, rfl, .same _ nn⟩, ⟨_, rfl, .ptr 0 0 0 0 rfl⟩, ⟨_, rfl, .ptr 1 1 0 0 rfl⟩, ⟨_, rfl, .same _ nn⟩, ⟨_, rfl, .same _ nn⟩, ⟨_, rfl, .same _ nn⟩, ⟨_, rfl, .ptr 3 3 0 0 rfl⟩, ⟨_, rfl, .w64 (by simp) ⟨by simp; omega, by simp; omega⟩⟩, trivial⟩) (by simp; omega)
                · ((conv => whnf); repeat ((first | refine AWp.many ?_ | refine AOps.many ?_ | refine ADr.go ?_); conv => whnf))
                  exact hQ ⟨2, [], 0, 0, wl, ll, [], kl, zV⟩ _ [(0, 0), (1, 1), (2, 2), (3, 3)] (genN_mk ⟨by omega, by omega⟩ (by simp) z0 z0 (by omega) j3 (by omega) j5 (by simp) (by simp) (by omega) j4 (okV_leaf z0 z0) (by simp [zV, sizeV, sizeL])) (conv_mk _ rfl ⟨⟨0, _, rfl, rfl, .same nns⟩, ⟨1, _, rfl, rfl, .cons (.agg (.cons (.sl 2 2 0 _ rfl) .nil)) .nil⟩, ⟨2, _, rfl, rfl, .same (encNs_nn _)⟩, ⟨3, _, rfl, rfl, .cons (.agg (.cons (.same _ nn) (.cons (.same _ nn) (.cons (.same _ nn) (.cons (.same _ nn) (.cons (.fz' (id := 4) rfl rfl (by rw [encI_length]; first | omega | (simp only; omega)) (by rw [List.drop_zero]; exact List.take_of_length_le (by rw [encI_length]; first | omega | (simp only; omega))) (encI_nn _)) (.cons (.fz' (id := 6) rfl rfl (by rw [encS_length]; first | omega | (simp only; omega)) (by rw [List.drop_zero]; exact List.take_of_length_le (by rw [encS_length]; first | omega | (simp only; omega))) (encS_nn _)) (.cons (.nil 4) (.cons (.fz' (id := 5) rfl rfl (by rw [encI_length]; first | omega | (simp only; omega)) (by rw [List.drop_zero]; exact List.take_of_length_le (by rw [encI_length]; first | omega | (simp only; omega))) (encI_nn _)) (.cons (.same _ nn) (.cons (.same _ nn) (.cons (.same _ nn) (.cons (.nil 4) .nil))))))))))))) .nil⟩, trivial⟩ ⟨⟨_, rfl, .same _ nn⟩, ⟨_, rfl, .ptr 0 0 0 0 rfl⟩, ⟨_, rfl, .ptr 1 1 0 0 rfl⟩, ⟨_, rfl, .same _ nn⟩, ⟨_, rfl, .same _ nn⟩, ⟨_, rfl, .same _ nn⟩, ⟨_, rfl, .ptr 3 3 0 0 rfl⟩, trivial⟩)
              · have hB : decide ((IntKind.i64.wrap (kk.tdiv 32)).tmod 3 > 0) = false := hB
                refine ALoop.ph 3 1 ?_
                refine ALoop.ph 3 1 ?_
                refine ALoop.at nnΓ (fun a : List Int × List (List UInt8) × List Int => a.1.length ≤ 4 ∧ a.2.2.length = a.1.length ∧ (∀ w ∈ a.1, i64 w) ∧ (∀ w ∈ a.2.2, i64 w) ∧ (∀ s ∈ a.2.1, s ∈ abcd) ∧ a.2.1.length = 0)
                  (fun a => ⟨[(0, .il 1 (encI l)), (2, .ptr 0 0 0), (3, .ptr 1 0 0), (4, .int .i64 n), (5, .int .i64 ns.length), (6, .int .i64 kk), (7, .ptr 3 0 0), (8, .int .i64 a.1.length)], [(0, .row 25 1 [.agg [.nsl]]), (1, .row 25 1 [.agg [.sl 2 0 ns.length]]), (2, .row 35 12 (encNs ns)), (3, .row 35 12 [.agg [.int .i64 2, .str [], .int .i64 0, .int .i64 0, .sl 4 0 a.1.length, .nsl, .nsl, .sl 5 0 a.1.length, .int .i64 0, .int .i64 0, .str [], .nsl]]), (4, .row 3 1 (encI a.1)), (5, .row 3 1 (encI a.2.2))], 6, 181⟩)
                  (fun a => 4 - a.1.length) ([], [], []) [(0, 0), (1, 1), (2, 2), (3, 3), (4, 4), (5, 5)] (by simp)
                  (conv_mk _ rfl ⟨⟨0, _, rfl, rfl, .same nns⟩, ⟨1, _, rfl, rfl, .cons (.agg (.cons (.sl 2 2 0 _ rfl) .nil)) .nil⟩, ⟨2, _, rfl, rfl, .same (encNs_nn _)⟩, ⟨3, _, rfl, rfl, .cons (.agg (.cons (.same _ nn) (.cons (.same _ nn) (.cons (.same _ nn) (.cons (.same _ nn) (.cons (.nslk 4 4 _ rfl rfl) (.cons (.same _ nn) (.cons (.same _ nn) (.cons (.nslk 5 5 _ rfl rfl) (.cons (.same _ nn) (.cons (.same _ nn) (.cons (.same _ nn) (.cons (.same _ nn) .nil))))))))))))) .nil⟩, ⟨4, _, rfl, rfl, .same .nil⟩, ⟨5, _, rfl, rfl, .same .nil⟩, trivial⟩ ⟨⟨_, rfl, .same _ nn⟩, ⟨_, rfl, .ptr 0 0 0 0 rfl⟩, ⟨_, rfl, .ptr 1 1 0 0 rfl⟩, ⟨_, rfl, .same _ nn⟩, ⟨_, rfl, .same _ nn⟩, ⟨_, rfl, .same _ nn⟩, ⟨_, rfl, .ptr 3 3 0 0 rfl⟩, ⟨_, rfl, .same _ nn⟩, trivial⟩) ?_
                rintro ⟨wl, ll, kl⟩ ⟨j1, j2, j3, j4, j5, j6⟩
                simp only at j1 j2 j3 j4 j5 j6
                ((conv => whnf); repeat ((first | refine AWp.many ?_ | refine AOps.many ?_ | refine ADr.go ?_); conv => whnf))
                refine bcs_mk (fun h => ?_) (fun h => ?_)
                · have hjc : wl.length < 4 := by rw [hw8] at h; have := tmod_lt q80 (show (0 : Int) < 4 by omega); simp at h; omega
                  have hwj : IntKind.i64.wrap ((ns.length : Int) + (wl.length : Int)) = (ns.length : Int) + wl.length := wrap64 ⟨by omega, by omega⟩
                  have hPj := rPick l ((ns.length : Int) + wl.length) 5 hl (by omega)
                  have hPb := pickI_bound (l := l) (i := (ns.length : Int) + wl.length) (most := 5) (by omega)
                  generalize pickI l ((ns.length : Int) + wl.length) 5 = pw at hPj hPb
                  have hKj := rKid l ns.length wl.length hl (by omega) (by omega) (by omega) (by omega)
                  have hKb := kidI_bound (l := l) (i := (ns.length : Int)) (j := (wl.length : Int)) (by omega)
                  generalize kidI l ns.length wl.length = kw at hKj hKb
                  ((conv => whnf); repeat ((first | refine AWp.many ?_ | refine AOps.many ?_ | refine ADr.go ?_); conv => whnf))
                  rw [hwj]
                  refine hPj.go ?_
                  ((conv => whnf); repeat ((first | refine AWp.many ?_ | refine AOps.many ?_ | refine ADr.go ?_); conv => whnf))
                  repeat (refine ⟨rfl, ?_⟩; ((conv => whnf); repeat ((first | refine AWp.many ?_ | refine AOps.many ?_ | refine ADr.go ?_); conv => whnf)))
                  refine grd_mk (app_ok rfl rfl (by rw [encI_length]) (by simp; omega)) ?_
                  ((conv => whnf); repeat ((first | refine AWp.many ?_ | refine AOps.many ?_ | refine ADr.go ?_); conv => whnf))
                  repeat (refine ⟨rfl, ?_⟩; ((conv => whnf); repeat ((first | refine AWp.many ?_ | refine AOps.many ?_ | refine ADr.go ?_); conv => whnf)))
                  refine hKj.go ?_
                  ((conv => whnf); repeat ((first | refine AWp.many ?_ | refine AOps.many ?_ | refine ADr.go ?_); conv => whnf))
                  repeat (refine ⟨rfl, ?_⟩; ((conv => whnf); repeat ((first | refine AWp.many ?_ | refine AOps.many ?_ | refine ADr.go ?_); conv => whnf)))
                  refine grd_mk (app_ok rfl rfl (by rw [encI_length, j2]) (by simp; omega)) ?_
                  ((conv => whnf); repeat ((first | refine AWp.many ?_ | refine AOps.many ?_ | refine ADr.go ?_); conv => whnf))
                  repeat (refine ⟨rfl, ?_⟩; ((conv => whnf); repeat ((first | refine AWp.many ?_ | refine AOps.many ?_ | refine ADr.go ?_); conv => whnf)))
                  rw [hB]
                  ((conv => whnf); repeat ((first | refine AWp.many ?_ | refine AOps.many ?_ | refine ADr.go ?_); conv => whnf))
                  exact .mk (wl ++ [IntKind.i64.wrap (1 + pw)], ll, kl ++ [kw]) [(0, 0), (1, 1), (2, 2), (3, 3), (18, 4), (29, 5)] ⟨by simp; omega, by simp; omega, mem_snoc j3 (i64w _), mem_snoc j4 ⟨by omega, by omega⟩, j5, j6⟩
                    (conv_mk _ rfl ⟨⟨0, _, rfl, rfl, .same nns⟩, ⟨1, _, rfl, rfl, .cons (.agg (.cons (.sl 2 2 0 _ rfl) .nil)) .nil⟩, ⟨2, _, rfl, rfl, .same (encNs_nn _)⟩, ⟨3, _, rfl, rfl, .cons (.agg (.cons (.same _ nn) (.cons (.same _ nn) (.cons (.same _ nn) (.cons (.same _ nn) (.cons (.slE rfl (by simp)) (.cons (.same _ nn) (.cons (.same _ nn) (.cons (.slE rfl (by simp)) (.cons (.same _ nn) (.cons (.same _ nn) (.cons (.same _ nn) (.cons (.same _ nn) .nil))))))))))))) .nil⟩, ⟨18, _, rfl, rfl, .eq (encI_nn _) (by simp [encI])⟩, ⟨29, _, rfl, rfl, .eq (encI_nn _) (by simp [encI])⟩, trivial⟩ ⟨⟨_, rfl, .same _ nn⟩, ⟨_, rfl, .ptr 0 0 0 0 rfl⟩, ⟨_, rfl, .ptr 1 1 0 0 rfl⟩, ⟨_, rfl, .same _ nn⟩, ⟨_, rfl, .same _ nn⟩, ⟨_, rfl, .same _ nn⟩, ⟨_, rfl, .ptr 3 3 0 0 rfl⟩, ⟨_, rfl, .w64 (by simp) ⟨by simp; omega, by simp; omega⟩⟩, trivial⟩) (by simp; omega)
                · ((conv => whnf); repeat ((first | refine AWp.many ?_ | refine AOps.many ?_ | refine ADr.go ?_); conv => whnf))
                  obtain rfl : ll = [] := List.length_eq_zero_iff.1 j6
                  exact hQ ⟨2, [], 0, 0, wl, [], [], kl, zV⟩ _ [(0, 0), (1, 1), (2, 2), (3, 3)] (genN_mk ⟨by omega, by omega⟩ (by simp) z0 z0 (by omega) j3 (by simp) (by simp) (by simp) (by simp) (by omega) j4 (okV_leaf z0 z0) (by simp [zV, sizeV, sizeL])) (conv_mk _ rfl ⟨⟨0, _, rfl, rfl, .same nns⟩, ⟨1, _, rfl, rfl, .cons (.agg (.cons (.sl 2 2 0 _ rfl) .nil)) .nil⟩, ⟨2, _, rfl, rfl, .same (encNs_nn _)⟩, ⟨3, _, rfl, rfl, .cons (.agg (.cons (.same _ nn) (.cons (.same _ nn) (.cons (.same _ nn) (.cons (.same _ nn) (.cons (.fz' (id := 4) rfl rfl (by rw [encI_length]; first | omega | (simp only; omega)) (by rw [List.drop_zero]; exact List.take_of_length_le (by rw [encI_length]; first | omega | (simp only; omega))) (encI_nn _)) (.cons (.nil 1) (.cons (.nil 4) (.cons (.fz' (id := 5) rfl rfl (by rw [encI_length]; first | omega | (simp only; omega)) (by rw [List.drop_zero]; exact List.take_of_length_le (by rw [encI_length]; first | omega | (simp only; omega))) (encI_nn _)) (.cons (.same _ nn) (.cons (.same _ nn) (.cons (.same _ nn) (.cons (.nil 4) .nil))))))))))))) .nil⟩, trivial⟩ ⟨⟨_, rfl, .same _ nn⟩, ⟨_, rfl, .ptr 0 0 0 0 rfl⟩, ⟨_, rfl, .ptr 1 1 0 0 rfl⟩, ⟨_, rfl, .same _ nn⟩, ⟨_, rfl, .same _ nn⟩, ⟨_, rfl, .same _ nn⟩, ⟨_, rfl, .ptr 3 3 0 0 rfl⟩, trivial⟩)
            · obtain ⟨qn, hqn, hqe⟩ : ∃ qn : Nat, qn < 3 ∧ (IntKind.i64.wrap (kk.tdiv 8)).tmod 3 = (qn : Int) := by
                rw [hw8]
                have := tmod_lt q80 (show (0 : Int) < 3 by omega)
                exact ⟨((kk.tdiv 8).tmod 3).toNat, by omega, by omega⟩
              obtain ⟨nm, hnm, hnl⟩ : ∃ nm, ([AV.str [], AV.str [80, 97, 105, 114], AV.str []])[0 + ((qn : Nat) : Int).toNat]? = some (.str nm) ∧ nm.length ≤ 4 := by
                rcases (show qn = 0 ∨ qn = 1 ∨ qn = 2 by omega) with rfl | rfl | rfl
                · exact ⟨[], rfl, by simp⟩
                · exact ⟨[80, 97, 105, 114], rfl, by simp⟩
                · exact ⟨[], rfl, by simp⟩
              have bnm : Nat.blt ((qn : Nat) : Int).toNat 3 = true := Nat.ble_eq_true_of_le (by simp; omega)
              ((conv => whnf); repeat ((first | refine AWp.many ?_ | refine AOps.many ?_ | refine ADr.go ?_); conv => whnf))
              rw [hqe]
              ((conv => whnf); repeat ((first | refine AWp.many ?_ | refine AOps.many ?_ | refine ADr.go ?_); conv => whnf))
              repeat (first | (refine ⟨rfl, ?_⟩; ((conv => whnf); repeat ((first | refine AWp.many ?_ | refine AOps.many ?_ | refine ADr.go ?_); conv => whnf))) | (refine grd_mk bnm ?_; ((conv => whnf); repeat ((first | refine AWp.many ?_ | refine AOps.many ?_ | refine ADr.go ?_); conv => whnf))) | (refine opt_mk hnm ?_; ((conv => whnf); repeat ((first | refine AWp.many ?_ | refine AOps.many ?_ | refine ADr.go ?_); conv => whnf))))
              refine ALoop.ph 3 1 ?_
              refine ALoop.at nnΓ (fun a : List Int => a.length ≤ 4 ∧ ∀ w ∈ a, i64 w)
                (fun a => ⟨[(0, .il 1 (encI l)), (2, .ptr 0 0 0), (3, .ptr 1 0 0), (4, .int .i64 n), (5, .int .i64 ns.length), (6, .int .i64 kk), (7, .ptr 3 0 0), (9, .int .i64 a.length)], [(0, .row 25 1 [.agg [.nsl]]), (1, .row 25 1 [.agg [.sl 2 0 ns.length]]), (2, .row 35 12 (encNs ns)), (3, .row 35 12 [.agg [.int .i64 3, .str nm, .int .i64 0, .int .i64 0, .nsl, .nsl, .nsl, .sl 4 0 a.length, .int .i64 0, .int .i64 0, .str [], .nsl]]), (4, .row 3 1 (encI a))], 5, 181⟩)
                (fun a => 4 - a.length) [] [(0, 0), (1, 1), (2, 2), (3, 3), (5, 4)] (by simp)
                (conv_mk _ rfl ⟨⟨0, _, rfl, rfl, .same nns⟩, ⟨1, _, rfl, rfl, .cons (.agg (.cons (.sl 2 2 0 _ rfl) .nil)) .nil⟩, ⟨2, _, rfl, rfl, .same (encNs_nn _)⟩, ⟨3, _, rfl, rfl, .cons (.agg (.cons (.same _ nn) (.cons (.same _ nn) (.cons (.same _ nn) (.cons (.same _ nn) (.cons (.same _ nn) (.cons (.same _ nn) (.cons (.same _ nn) (.cons (.nslk 5 4 _ rfl rfl) (.cons (.same _ nn) (.cons (.same _ nn) (.cons (.same _ nn) (.cons (.same _ nn) .nil))))))))))))) .nil⟩, ⟨5, _, rfl, rfl, .same .nil⟩, trivial⟩ ⟨⟨_, rfl, .same _ nn⟩, ⟨_, rfl, .ptr 0 0 0 0 rfl⟩, ⟨_, rfl, .ptr 1 1 0 0 rfl⟩, ⟨_, rfl, .same _ nn⟩, ⟨_, rfl, .same _ nn⟩, ⟨_, rfl, .same _ nn⟩, ⟨_, rfl, .ptr 3 3 0 0 rfl⟩, ⟨_, rfl, .same _ nn⟩, trivial⟩) ?_
              rintro kl ⟨j1, j4⟩
              ((conv => whnf); repeat ((first | refine AWp.many ?_ | refine AOps.many ?_ | refine ADr.go ?_); conv => whnf))
              refine bcs_mk (fun h => ?_) (fun h => ?_)
              · have hjc : kl.length < 4 := by
                  have a0 := tdiv_le kk0 (show (0 : Int) < 24 by omega)
                  have a1 : 0 ≤ kk.tdiv 24 := Int.tdiv_nonneg kk0 (by omega)
                  have e1 : IntKind.i64.wrap (kk.tdiv 24) = kk.tdiv 24 := wrap64 ⟨by omega, by omega⟩
                  rw [e1] at h
                  have := tmod_lt a1 (show (0 : Int) < 4 by omega)
                  simp at h
                  omega
                have hKj := rKid l ns.length kl.length hl (by omega) (by omega) (by omega) (by omega)
                have hKb := kidI_bound (l := l) (i := (ns.length : Int)) (j := (kl.length : Int)) (by omega)
                generalize kidI l ns.length kl.length = kw at hKj hKb
                ((conv => whnf); repeat ((first | refine AWp.many ?_ | refine AOps.many ?_ | refine ADr.go ?_); conv => whnf))
                refine hKj.go ?_
                ((conv => whnf); repeat ((first | refine AWp.many ?_ | refine AOps.many ?_ | refine ADr.go ?_); conv => whnf))
                repeat (refine ⟨rfl, ?_⟩; ((conv => whnf); repeat ((first | refine AWp.many ?_ | refine AOps.many ?_ | refine ADr.go ?_); conv => whnf)))
                refine grd_mk (app_ok rfl rfl (by rw [encI_length]) (by simp; omega)) ?_
                ((conv => whnf); repeat ((first | refine AWp.many ?_ | refine AOps.many ?_ | refine ADr.go ?_); conv => whnf))
                repeat (refine ⟨rfl, ?_⟩; ((conv => whnf); repeat ((first | refine AWp.many ?_ | refine AOps.many ?_ | refine ADr.go ?_); conv => whnf)))
                exact .mk (kl ++ [kw]) [(0, 0), (1, 1), (2, 2), (3, 3), (15, 4)] ⟨by simp; omega, mem_snoc j4 ⟨by omega, by omega⟩⟩
                  (conv_mk _ rfl ⟨⟨0, _, rfl, rfl, .same nns⟩, ⟨1, _, rfl, rfl, .cons (.agg (.cons (.sl 2 2 0 _ rfl) .nil)) .nil⟩, ⟨2, _, rfl, rfl, .same (encNs_nn _)⟩, ⟨3, _, rfl, rfl, .cons (.agg (.cons (.same _ nn) (.cons (.same _ nn) (.cons (.same _ nn) (.cons (.same _ nn) (.cons (.same _ nn) (.cons (.same _ nn) (.cons (.same _ nn) (.cons (.slE rfl (by simp)) (.cons (.same _ nn) (.cons (.same _ nn) (.cons (.same _ nn) (.cons (.same _ nn) .nil))))))))))))) .nil⟩, ⟨15, _, rfl, rfl, .eq (encI_nn _) (by simp [encI])⟩, trivial⟩ ⟨⟨_, rfl, .same _ nn⟩, ⟨_, rfl, .ptr 0 0 0 0 rfl⟩, ⟨_, rfl, .ptr 1 1 0 0 rfl⟩, ⟨_, rfl, .same _ nn⟩, ⟨_, rfl, .same _ nn⟩, ⟨_, rfl, .same _ nn⟩, ⟨_, rfl, .ptr 3 3 0 0 rfl⟩, ⟨_, rfl, .w64 (by simp) ⟨by simp; omega, by simp; omega⟩⟩, trivial⟩) (by simp; omega)
              · ((conv => whnf); repeat ((first | refine AWp.many ?_ | refine AOps.many ?_ | refine ADr.go ?_); conv => whnf))
                exact hQ ⟨3, nm, 0, 0, [], [], [], kl, zV⟩ _ [(0, 0), (1, 1), (2, 2), (3, 3)] (genN_mk ⟨by omega, by omega⟩ (by omega) z0 z0 (by simp) (by simp) (by simp) (by simp) (by simp) (by simp) (by omega) j4 (okV_leaf z0 z0) (by simp [zV, sizeV, sizeL])) (conv_mk _ rfl ⟨⟨0, _, rfl, rfl, .same nns⟩, ⟨1, _, rfl, rfl, .cons (.agg (.cons (.sl 2 2 0 _ rfl) .nil)) .nil⟩, ⟨2, _, rfl, rfl, .same (encNs_nn _)⟩, ⟨3, _, rfl, rfl, .cons (.agg (.cons (.same _ nn) (.cons (.same _ nn) (.cons (.same _ nn) (.cons (.same _ nn) (.cons (.nil 1) (.cons (.nil 1) (.cons (.nil 4) (.cons (.fz' (id := 4) rfl rfl (by rw [encI_length]; first | omega | (simp only; omega)) (by rw [List.drop_zero]; exact List.take_of_length_le (by rw [encI_length]; first | omega | (simp only; omega))) (encI_nn _)) (.cons (.same _ nn) (.cons (.same _ nn) (.cons (.same _ nn) (.cons (.nil 4) .nil))))))))))))) .nil⟩, trivial⟩ ⟨⟨_, rfl, .same _ nn⟩, ⟨_, rfl, .ptr 0 0 0 0 rfl⟩, ⟨_, rfl, .ptr 1 1 0 0 rfl⟩, ⟨_, rfl, .same _ nn⟩, ⟨_, rfl, .same _ nn⟩, ⟨_, rfl, .same _ nn⟩, ⟨_, rfl, .ptr 3 3 0 0 rfl⟩, trivial⟩)
          · have hxn := encN_nn x
            have hV := oValid (ns ++ [x]) (by simp; omega) (fun y hy => by
              rcases List.mem_append.1 hy with hy | hy
              · have := hT.gen y hy; exact ⟨this.ok, by have := this.vals; omega⟩
              · simp at hy; rw [hy]; exact ⟨hx.ok, by have := hx.vals; omega⟩)
            have hnn2 := encNs_nn (ns ++ [x])
            have eTk : List.take ns.length (List.drop 0 (encNs ns)) = encNs ns := by rw [List.drop_zero]; exact List.take_of_length_le (by rw [encNs_length]; omega)
            have hxs : encNs (ns ++ [x]) = encNs ns ++ [encN x] := by simp [encNs]
            have hsn := fun h => hT.snoc (x := x) (by omega) hx h
            have hw5 := tmod_lt kk0 (show (0 : Int) < 5 by omega)
            have hlf := hT.leaf (m := kk.tmod 5) ⟨by omega, by omega⟩
            obtain ⟨e, he⟩ : ∃ e, e = validT (ns ++ [x]) := ⟨_, rfl⟩
            rw [← he] at hV hsn
            obtain ⟨kind, name, lo, hi, ws, ls, vals, kids, ⟨vk, vn, vs, vks⟩⟩ := x
            ((conv => whnf); repeat ((first | refine AWp.many ?_ | refine AOps.many ?_ | refine ADr.go ?_); conv => whnf))
            refine grd_mk (src_ok (by rw [encNs_length]; omega)) ?_
            rw [eTk]
            ((conv => whnf); repeat ((first | refine AWp.many ?_ | refine AOps.many ?_ | refine ADr.go ?_); conv => whnf))
            refine grd_mk (app_nil rfl (by rw [encNs_length]; omega)) ?_
            ((conv => whnf); repeat ((first | refine AWp.many ?_ | refine AOps.many ?_ | refine ADr.go ?_); conv => whnf))
            refine grd_mk (app_ok rfl rfl rfl (by rw [encNs_length]; simp; omega)) ?_
            ((conv => whnf); repeat ((first | refine AWp.many ?_ | refine AOps.many ?_ | refine ADr.go ?_); conv => whnf))
            refine ACalls.useN nnΓ [(7, 0)] hV rfl (.cons (.agg' (.cons (.slE rfl (by rw [encNs_length]; simp)) .nil)) .nil) ⟨⟨7, _, rfl, rfl, .eq hnn2 (by rw [hxs]; rfl)⟩, trivial⟩ rfl ?_
            rintro r m k' ⟨rfl, rfl⟩
            refine ⟨[(0, 7)], _, [(7, .row 35 12 (encNs (ns ++ [⟨kind, name, lo, hi, ws, ls, vals, kids, .mk vk vn vs vks⟩])))], 8, .same _ nn, ⟨⟨0, _, rfl, rfl, .same hnn2⟩, trivial⟩, rfl, ?_⟩
            by_cases e0 : e = 0
            · subst e0
              ((conv => whnf); repeat ((first | refine AWp.many ?_ | refine AOps.many ?_ | refine ADr.go ?_); conv => whnf))
              exact .mk (ns ++ [⟨kind, name, lo, hi, ws, ls, vals, kids, .mk vk vn vs vks⟩]) [(0, 0), (1, 1), (7, 2)] ⟨hsn rfl, by simp; omega⟩
                (conv_mk _ rfl ⟨⟨0, _, rfl, rfl, .same nns⟩, ⟨1, _, rfl, rfl, .cons (.agg (.cons (.slE rfl (by rw [encNs_length]; simp)) .nil)) .nil⟩, ⟨7, _, rfl, rfl, .same hnn2⟩, trivial⟩ ⟨⟨_, rfl, .same _ nn⟩, ⟨_, rfl, .ptr 0 0 0 0 rfl⟩, ⟨_, rfl, .ptr 1 1 0 0 rfl⟩, ⟨_, rfl, .same _ nn⟩, ⟨_, rfl, .w64 (by simp) ⟨by simp; omega, by simp; omega⟩⟩, trivial⟩) (by simp; omega)
            · have de : (e == 0) = false := by simpa using e0
              ((conv => whnf); repeat ((first | refine AWp.many ?_ | refine AOps.many ?_ | refine ADr.go ?_); conv => whnf))
              rw [de]
              ((conv => whnf); repeat ((first | refine AWp.many ?_ | refine AOps.many ?_ | refine ADr.go ?_); conv => whnf))
              refine grd_mk (app_ok rfl rfl (by rw [encNs_length]) (by simp; omega)) ?_
              ((conv => whnf); repeat ((first | refine AWp.many ?_ | refine AOps.many ?_ | refine ADr.go ?_); conv => whnf))
              have hlx : encNs (ns ++ [⟨0, [], 0, 0, [], [], [], [], .mk 0 (kk.tmod 5) [] []⟩]) = encNs ns ++ [encN ⟨0, [], 0, 0, [], [], [], [], .mk 0 (kk.tmod 5) [] []⟩] := by simp [encNs]
              exact .mk (ns ++ [⟨0, [], 0, 0, [], [], [], [], .mk 0 (kk.tmod 5) [] []⟩]) [(0, 0), (1, 1), (9, 2)] ⟨hlf, by simp; omega⟩
                (conv_mk _ rfl ⟨⟨0, _, rfl, rfl, .same nns⟩, ⟨1, _, rfl, rfl, .cons (.agg (.cons (.slE rfl (by simp)) .nil)) .nil⟩, ⟨9, _, rfl, rfl, by rw [hlx]; exact .snoc rfl (.same (encNs_nn _)) (.agg (.cons (.same _ nn) (.cons (.same _ nn) (.cons (.same _ nn) (.cons (.same _ nn) (.cons (.nil 1) (.cons (.nil 1) (.cons (.nil 4) (.cons (.nil 1) (.cons (.same _ nn) (.cons (.same _ nn) (.cons (.same _ nn) (.cons (.nil 4) .nil)))))))))))))⟩, trivial⟩ ⟨⟨_, rfl, .same _ nn⟩, ⟨_, rfl, .ptr 0 0 0 0 rfl⟩, ⟨_, rfl, .ptr 1 1 0 0 rfl⟩, ⟨_, rfl, .same _ nn⟩, ⟨_, rfl, .w64 (by simp) ⟨by simp; omega, by simp; omega⟩⟩, trivial⟩) (by simp; omega)
      · rw [e5]
        ((conv => whnf); repeat ((first | refine AWp.many ?_ | refine AOps.many ?_ | refine ADr.go ?_); conv => whnf))
        rw [hw8]
        obtain ⟨kd, hkd⟩ : ∃ kd, kd = (kk.tdiv 8).tmod 2 := ⟨_, rfl⟩
        rw [← hkd] at m82 ⊢
        have d5 : decide (kd > 5) = false := by simp; omega
        ((conv => whnf); repeat ((first | refine AWp.many ?_ | refine AOps.many ?_ | refine ADr.go ?_); conv => whnf))
        rw [d5]
        ((conv => whnf); repeat ((first | refine AWp.many ?_ | refine AOps.many ?_ | refine ADr.go ?_); conv => whnf))
        refine bcs_join nnΓ (fun x : Nd => GenN x) (fun x => ⟨[(0, .il 1 (encI l)), (2, .ptr 0 0 0), (3, .ptr 1 0 0), (4, .int .i64 n), (5, .int .i64 ns.length), (6, .int .i64 kk), (7, .ptr 3 0 0)], [(0, .row 25 1 [.agg [.nsl]]), (1, .row 25 1 [.agg [.sl 2 0 ns.length]]), (2, .row 35 12 (encNs ns)), (3, .row 35 12 [encN x])], 4, 181⟩) (fun Qr hQ => ?_) (fun x hx => ?_)
        · rcases (show kd = 0 ∨ kd = 1 by omega) with rfl | rfl
          · have hLf := rLeaf (kk.tdiv 8) (Int.tdiv_nonneg kk0 (by omega)) (by have := tdiv_le kk0 (show (0 : Int) < 8 by omega); omega)
            have hlo := leafV_ok (kk.tdiv 8) (Int.tdiv_nonneg kk0 (by omega))
            generalize leafV (kk.tdiv 8) = f at hLf hlo
            obtain ⟨f1, f2, f3, f4⟩ := f
            ((conv => whnf); repeat ((first | refine AWp.many ?_ | refine AOps.many ?_ | refine ADr.go ?_); conv => whnf))
            rw [hw8]
            refine hLf.go ?_
            ((conv => whnf); repeat ((first | refine AWp.many ?_ | refine AOps.many ?_ | refine ADr.go ?_); conv => whnf))
            exact hQ (leafN (.mk f1 f2 f3 f4)) _ [(0, 0), (1, 1), (2, 2), (3, 3)] (genN_mk z0 (by simp) z0 z0 (by simp) (by simp) (by simp) (by simp) (by simp) (by simp) (by simp) (by simp) hlo.1 (by omega)) (conv_mk _ rfl ⟨⟨0, _, rfl, rfl, .same nns⟩, ⟨1, _, rfl, rfl, .cons (.agg (.cons (.sl 2 2 0 _ rfl) .nil)) .nil⟩, ⟨2, _, rfl, rfl, .same (encNs_nn _)⟩, ⟨3, _, rfl, rfl, .cons (.agg (.cons (.same _ nn) (.cons (.same _ nn) (.cons (.same _ nn) (.cons (.same _ nn) (.cons (.nil 1) (.cons (.nil 1) (.cons (.nil 4) (.cons (.nil 1) (.cons (.same _ nn) (.cons (.same _ nn) (.cons (.same _ nn) (.cons (.same _ nn) .nil))))))))))))) .nil⟩, trivial⟩ ⟨⟨_, rfl, .same _ nn⟩, ⟨_, rfl, .ptr 0 0 0 0 rfl⟩, ⟨_, rfl, .ptr 1 1 0 0 rfl⟩, ⟨_, rfl, .same _ nn⟩, ⟨_, rfl, .same _ nn⟩, ⟨_, rfl, .same _ nn⟩, ⟨_, rfl, .ptr 3 3 0 0 rfl⟩, trivial⟩)
          · ((conv => whnf); repeat ((first | refine AWp.many ?_ | refine AOps.many ?_ | refine ADr.go ?_); conv => whnf))
            refine bcs_mk (fun h => ?_) (fun h => ?_)
            · ((conv => whnf); repeat ((first | refine AWp.many ?_ | refine AOps.many ?_ | refine ADr.go ?_); conv => whnf))
              exact hQ ⟨1, [], _, _, [], [], [], [], zV⟩ _ [(0, 0), (1, 1), (2, 2), (3, 3)] (genN_mk ⟨by omega, by omega⟩ (by simp) (i64w _) (i64w _) (by simp) (by simp) (by simp) (by simp) (by simp) (by simp) (by simp) (by simp) (okV_leaf z0 z0) (by simp [zV, sizeV, sizeL])) (conv_mk _ rfl ⟨⟨0, _, rfl, rfl, .same nns⟩, ⟨1, _, rfl, rfl, .cons (.agg (.cons (.sl 2 2 0 _ rfl) .nil)) .nil⟩, ⟨2, _, rfl, rfl, .same (encNs_nn _)⟩, ⟨3, _, rfl, rfl, .cons (.agg (.cons (.same _ nn) (.cons (.same _ nn) (.cons (.same _ nn) (.cons (.same _ nn) (.cons (.nil 1) (.cons (.nil 1) (.cons (.nil 4) (.cons (.nil 1) (.cons (.same _ nn) (.cons (.same _ nn) (.cons (.same _ nn) (.cons (.nil 4) .nil))))))))))))) .nil⟩, trivial⟩ ⟨⟨_, rfl, .same _ nn⟩, ⟨_, rfl, .ptr 0 0 0 0 rfl⟩, ⟨_, rfl, .ptr 1 1 0 0 rfl⟩, ⟨_, rfl, .same _ nn⟩, ⟨_, rfl, .same _ nn⟩, ⟨_, rfl, .same _ nn⟩, ⟨_, rfl, .ptr 3 3 0 0 rfl⟩, trivial⟩)
            · ((conv => whnf); repeat ((first | refine AWp.many ?_ | refine AOps.many ?_ | refine ADr.go ?_); conv => whnf))
              exact hQ ⟨1, [], _, _, [], [], [], [], zV⟩ _ [(0, 0), (1, 1), (2, 2), (3, 3)] (genN_mk ⟨by omega, by omega⟩ (by simp) (i64w _) (i64w _) (by simp) (by simp) (by simp) (by simp) (by simp) (by simp) (by simp) (by simp) (okV_leaf z0 z0) (by simp [zV, sizeV, sizeL])) (conv_mk _ rfl ⟨⟨0, _, rfl, rfl, .same nns⟩, ⟨1, _, rfl, rfl, .cons (.agg (.cons (.sl 2 2 0 _ rfl) .nil)) .nil⟩, ⟨2, _, rfl, rfl, .same (encNs_nn _)⟩, ⟨3, _, rfl, rfl, .cons (.agg (.cons (.same _ nn) (.cons (.same _ nn) (.cons (.same _ nn) (.cons (.same _ nn) (.cons (.nil 1) (.cons (.nil 1) (.cons (.nil 4) (.cons (.nil 1) (.cons (.same _ nn) (.cons (.same _ nn) (.cons (.same _ nn) (.cons (.nil 4) .nil))))))))))))) .nil⟩, trivial⟩ ⟨⟨_, rfl, .same _ nn⟩, ⟨_, rfl, .ptr 0 0 0 0 rfl⟩, ⟨_, rfl, .ptr 1 1 0 0 rfl⟩, ⟨_, rfl, .same _ nn⟩, ⟨_, rfl, .same _ nn⟩, ⟨_, rfl, .same _ nn⟩, ⟨_, rfl, .ptr 3 3 0 0 rfl⟩, trivial⟩)
        · have hxn := encN_nn x
          have hV := oValid (ns ++ [x]) (by simp; omega) (fun y hy => by
            rcases List.mem_append.1 hy with hy | hy
            · have := hT.gen y hy; exact ⟨this.ok, by have := this.vals; omega⟩
            · simp at hy; rw [hy]; exact ⟨hx.ok, by have := hx.vals; omega⟩)
          have hnn2 := encNs_nn (ns ++ [x])
          have eTk : List.take ns.length (List.drop 0 (encNs ns)) = encNs ns := by rw [List.drop_zero]; exact List.take_of_length_le (by rw [encNs_length]; omega)
          have hxs : encNs (ns ++ [x]) = encNs ns ++ [encN x] := by simp [encNs]
          have hsn := fun h => hT.snoc (x := x) (by omega) hx h
          have hw5 := tmod_lt kk0 (show (0 : Int) < 5 by omega)
          have hlf := hT.leaf (m := kk.tmod 5) ⟨by omega, by omega⟩
          obtain ⟨e, he⟩ : ∃ e, e = validT (ns ++ [x]) := ⟨_, rfl⟩
          rw [← he] at hV hsn
          obtain ⟨kind, name, lo, hi, ws, ls, vals, kids, ⟨vk, vn, vs, vks⟩⟩ := x
          ((conv => whnf); repeat ((first | refine AWp.many ?_ | refine AOps.many ?_ | refine ADr.go ?_); conv => whnf))
          refine grd_mk (src_ok (by rw [encNs_length]; omega)) ?_
          rw [eTk]
          ((conv => whnf); repeat ((first | refine AWp.many ?_ | refine AOps.many ?_ | refine ADr.go ?_); conv => whnf))
          refine grd_mk (app_nil rfl (by rw [encNs_length]; omega)) ?_
          ((conv => whnf); repeat ((first | refine AWp.many ?_ | refine AOps.many ?_ | refine ADr.go ?_); conv => whnf))
          refine grd_mk (app_ok rfl rfl rfl (by rw [encNs_length]; simp; omega)) ?_
          ((conv => whnf); repeat ((first | refine AWp.many ?_ | refine AOps.many ?_ | refine ADr.go ?_); conv => whnf))
          refine ACalls.useN nnΓ [(7, 0)] hV rfl (.cons (.agg' (.cons (.slE rfl (by rw [encNs_length]; simp)) .nil)) .nil) ⟨⟨7, _, rfl, rfl, .eq hnn2 (by rw [hxs]; rfl)⟩, trivial⟩ rfl ?_
          rintro r m k' ⟨rfl, rfl⟩
          refine ⟨[(0, 7)], _, [(7, .row 35 12 (encNs (ns ++ [⟨kind, name, lo, hi, ws, ls, vals, kids, .mk vk vn vs vks⟩])))], 8, .same _ nn, ⟨⟨0, _, rfl, rfl, .same hnn2⟩, trivial⟩, rfl, ?_⟩
          by_cases e0 : e = 0
          · subst e0
            ((conv => whnf); repeat ((first | refine AWp.many ?_ | refine AOps.many ?_ | refine ADr.go ?_); conv => whnf))
            exact .mk (ns ++ [⟨kind, name, lo, hi, ws, ls, vals, kids, .mk vk vn vs vks⟩]) [(0, 0), (1, 1), (7, 2)] ⟨hsn rfl, by simp; omega⟩
              (conv_mk _ rfl ⟨⟨0, _, rfl, rfl, .same nns⟩, ⟨1, _, rfl, rfl, .cons (.agg (.cons (.slE rfl (by rw [encNs_length]; simp)) .nil)) .nil⟩, ⟨7, _, rfl, rfl, .same hnn2⟩, trivial⟩ ⟨⟨_, rfl, .same _ nn⟩, ⟨_, rfl, .ptr 0 0 0 0 rfl⟩, ⟨_, rfl, .ptr 1 1 0 0 rfl⟩, ⟨_, rfl, .same _ nn⟩, ⟨_, rfl, .w64 (by simp) ⟨by simp; omega, by simp; omega⟩⟩, trivial⟩) (by simp; omega)
          · have de : (e == 0) = false := by simpa using e0
            ((conv => whnf); repeat ((first | refine AWp.many ?_ | refine AOps.many ?_ | refine ADr.go ?_); conv => whnf))
            rw [de]
            ((conv => whnf); repeat ((first | refine AWp.many ?_ | refine AOps.many ?_ | refine ADr.go ?_); conv => whnf))
            refine grd_mk (app_ok rfl rfl (by rw [encNs_length]) (by simp; omega)) ?_
            ((conv => whnf); repeat ((first | refine AWp.many ?_ | refine AOps.many ?_ | refine ADr.go ?_); conv => whnf))
            have hlx : encNs (ns ++ [⟨0, [], 0, 0, [], [], [], [], .mk 0 (kk.tmod 5) [] []⟩]) = encNs ns ++ [encN ⟨0, [], 0, 0, [], [], [], [], .mk 0 (kk.tmod 5) [] []⟩] := by simp [encNs]
            exact .mk (ns ++ [⟨0, [], 0, 0, [], [], [], [], .mk 0 (kk.tmod 5) [] []⟩]) [(0, 0), (1, 1), (9, 2)] ⟨hlf, by simp; omega⟩
              (conv_mk _ rfl ⟨⟨0, _, rfl, rfl, .same nns⟩, ⟨1, _, rfl, rfl, .cons (.agg (.cons (.slE rfl (by simp)) .nil)) .nil⟩, ⟨9, _, rfl, rfl, by rw [hlx]; exact .snoc rfl (.same (encNs_nn _)) (.agg (.cons (.same _ nn) (.cons (.same _ nn) (.cons (.same _ nn) (.cons (.same _ nn) (.cons (.nil 1) (.cons (.nil 1) (.cons (.nil 4) (.cons (.nil 1) (.cons (.same _ nn) (.cons (.same _ nn) (.cons (.same _ nn) (.cons (.nil 4) .nil)))))))))))))⟩, trivial⟩ ⟨⟨_, rfl, .same _ nn⟩, ⟨_, rfl, .ptr 0 0 0 0 rfl⟩, ⟨_, rfl, .ptr 1 1 0 0 rfl⟩, ⟨_, rfl, .same _ nn⟩, ⟨_, rfl, .w64 (by simp) ⟨by simp; omega, by simp; omega⟩⟩, trivial⟩) (by simp; omega)
  · have hlt : ns.length = n := by simp at h; omega
    ((conv => whnf); repeat ((first | refine AWp.many ?_ | refine AOps.many ?_ | refine ADr.go ?_); conv => whnf))
    exact fin_mk (r' := .agg [.sl 0 0 ns.length]) (m' := tM ns) (n' := 1) [(2, 0)] rfl ⟨⟨2, _, rfl, rfl, .same (encNs_nn _)⟩, trivial⟩ (.agg' (.cons (.sl 2 0 0 _ rfl) .nil)) ⟨ns, hT, by omega, rfl, rfl, rfl⟩
end Go.Proofs.YtfnhkfdjhmgjbaaGreatDoor

/-
  DERIVED: THE SHELF's CONTRACTS AT THIS DUMP, IN PLAIN WORDS (tools/lay-plain.mjs out of 'TryzShelf.lean', which tools/lay-shelf.mjs wrote): THE SAME DECLARATIONS UNDER THE SAME NAMES: 'import', 'namespace', 'open', 'def', 'theorem' AND NOTHING ELSE: no command of the shelf's: FOR A HAND-IN. Each laying: the table of numbers ('.._ren') and one theorem, a field a fact of the dump's own or the kernel's comparison; each contract: ONE APPLICATION.
-/
namespace Go.Proofs
open Go.Shelf
set_option linter.unusedVariables false
def Tryz.lays129_ren : Go.Shelf.Ren := ⟨fun | 129 => 163 | n => n, fun | 53 => 60 | 3 => 3 | 4 => 4 | 46 => 114 | 5 => 5 | 9 => 9 | n => n, fun | n => n⟩
theorem Tryz.lays129 : Go.Proofs.Lays.n129 Tryz.prog Tryz.lays129_ren := {
  mixed := by kernel_rfl
  f129 := Tryz.func163.trans (congrArg some (by kernel_rfl))
  t3 := Tryz.underlying3
  a3 := Tryz.isAgg3
  z3 := Tryz.sizeOf3
  v3 := Tryz.zeroValue3
  t4 := Tryz.underlying4
  a4 := Tryz.isAgg4
  z4 := Tryz.sizeOf4
  v4 := Tryz.zeroValue4
  t5 := Tryz.underlying5
  a5 := Tryz.isAgg5
  z5 := Tryz.sizeOf5
  v5 := Tryz.zeroValue5
  t9 := Tryz.underlying9
  a9 := Tryz.isAgg9
  z9 := Tryz.sizeOf9
  v9 := Tryz.zeroValue9
  t46 := Tryz.underlying114
  a46 := Tryz.isAgg114
  z46 := Tryz.sizeOf114
  v46 := Tryz.zeroValue114
  t53 := Tryz.underlying60
  a53 := Tryz.isAgg60
  z53 := Tryz.sizeOf60
  v53 := Tryz.zeroValue60 }
/-- bits.Len64: "Len64 returns the minimum number of bits required to represent x; the result is 0 for x == 0.": IT RETURNS 'Lib.bitLen x'; the world is as it was. ('h0', 'h1': x is a uint64.) (LAID: no walk: one application.) -/
theorem Tryz.bits_Len64 (x : Int) (w : World) (h0 : 0 ≤ x) (h1 : x ≤ 18446744073709551615) :
    Calls Tryz.prog 163 #[.int .u64 x] w fun e w' => e = .returned (.int .i64 (Lib.bitLen x.toNat)) ∧ w' = w := Any.bits_Len64 Tryz.lays129 x w h0 h1
def Tryz.lays317_ren : Go.Shelf.Ren := ⟨fun | 317 => 208 | n => n, fun | 3 => 3 | 46 => 114 | n => n, fun | n => n⟩
theorem Tryz.lays317 : Go.Proofs.Lays.n317 Tryz.prog Tryz.lays317_ren := {
  mixed := by kernel_rfl
  f317 := Tryz.func208.trans (congrArg some (by kernel_rfl))
  t3 := Tryz.underlying3
  a3 := Tryz.isAgg3
  z3 := Tryz.sizeOf3
  v3 := Tryz.zeroValue3
  t46 := Tryz.underlying114
  a46 := Tryz.isAgg114
  z46 := Tryz.sizeOf114
  v46 := Tryz.zeroValue114 }
open Go.Lib in
/-- internal/strconv.log10Pow2: "log10Pow2(x) returns ⌊log₁₀ 2**x⌋ = ⌊x * log₁₀ 2⌋.": '(x * 78913) >> 18', at an x up to 64 (a length in bits). The world is as it was. (LAID: no walk: one application.) -/
theorem Tryz.internal_strconv_log10Pow2 (x : Nat) (h : x ≤ 64) (w : World) :
    Calls Tryz.prog 208 #[.int .i64 x] w fun e w' => e = .returned (.int .i64 (Lib.l10 x)) ∧ w' = w := Any.internal_strconv_log10Pow2 Tryz.lays317 x h w
def Tryz.lays318_ren : Go.Shelf.Ren := ⟨fun | 318 => 209 | n => n, fun | 3 => 3 | 4 => 4 | n => n, fun | n => n⟩
theorem Tryz.lays318 : Go.Proofs.Lays.n318 Tryz.prog Tryz.lays318_ren := {
  mixed := by kernel_rfl
  f318 := Tryz.func209.trans (congrArg some (by kernel_rfl))
  t3 := Tryz.underlying3
  a3 := Tryz.isAgg3
  z3 := Tryz.sizeOf3
  v3 := Tryz.zeroValue3
  t4 := Tryz.underlying4
  a4 := Tryz.isAgg4
  z4 := Tryz.sizeOf4
  v4 := Tryz.zeroValue4 }
open Go.Lib in
/-- internal/strconv.bool2: "bool2 converts b to an integer: 1 for true, 0 for false." The world is as it was. (LAID: no walk: one application.) -/
theorem Tryz.internal_strconv_bool2_int (b : Bool) (w : World) :
    Calls Tryz.prog 209 #[.bool b] w fun e w' => e = .returned (.int .i64 (if b then 1 else 0)) ∧ w' = w := Any.internal_strconv_bool2_int Tryz.lays318 b w
def Tryz.lays283_ren : Go.Shelf.Ren := ⟨fun | 283 => 193 | n => n, fun | 3 => 3 | 9 => 9 | 4 => 4 | n => n, fun | n => n⟩
theorem Tryz.lays283 : Go.Proofs.Lays.n283 Tryz.prog Tryz.lays283_ren := {
  mixed := by kernel_rfl
  f283 := Tryz.func193.trans (congrArg some (by kernel_rfl))
  t3 := Tryz.underlying3
  a3 := Tryz.isAgg3
  z3 := Tryz.sizeOf3
  v3 := Tryz.zeroValue3
  t4 := Tryz.underlying4
  a4 := Tryz.isAgg4
  z4 := Tryz.sizeOf4
  v4 := Tryz.zeroValue4
  t9 := Tryz.underlying9
  a9 := Tryz.isAgg9
  z9 := Tryz.sizeOf9
  v9 := Tryz.zeroValue9 }
open Go.Lib in
/-- internal/strconv.small: "small returns the string for an i with 0 <= i < nSmalls.": i's decimal numeral. The world is as it was. (LAID: no walk: one application.) -/
theorem Tryz.internal_strconv_small (i : Nat) (h : i < 100) (w : World) :
    Calls Tryz.prog 193 #[.int .i64 i] w fun e w' => e = .returned (.string ⟨(Lib.decDigits i).toArray⟩) ∧ w' = w := Any.internal_strconv_small Tryz.lays283 i h w
def Tryz.lays285_ren : Go.Shelf.Ren := ⟨fun | 285 => 195 | n => n, fun | 37 => 49 | 53 => 60 | 3 => 3 | 4 => 4 | 51 => 194 | 9 => 9 | 5 => 5 | 0 => 0 | n => n, fun | n => n⟩
theorem Tryz.lays285 : Go.Proofs.Lays.n285 Tryz.prog Tryz.lays285_ren := {
  mixed := by kernel_rfl
  f285 := Tryz.func195.trans (congrArg some (by kernel_rfl))
  t0 := Tryz.underlying0
  a0 := Tryz.isAgg0
  z0 := Tryz.sizeOf0
  v0 := Tryz.zeroValue0
  t3 := Tryz.underlying3
  a3 := Tryz.isAgg3
  z3 := Tryz.sizeOf3
  v3 := Tryz.zeroValue3
  t4 := Tryz.underlying4
  a4 := Tryz.isAgg4
  z4 := Tryz.sizeOf4
  v4 := Tryz.zeroValue4
  t5 := Tryz.underlying5
  a5 := Tryz.isAgg5
  z5 := Tryz.sizeOf5
  v5 := Tryz.zeroValue5
  t9 := Tryz.underlying9
  a9 := Tryz.isAgg9
  z9 := Tryz.sizeOf9
  v9 := Tryz.zeroValue9
  t37 := Tryz.underlying49
  a37 := Tryz.isAgg49
  z37 := Tryz.sizeOf49
  v37 := Tryz.zeroValue49
  t51 := Tryz.underlying194
  a51 := Tryz.isAgg194
  z51 := Tryz.sizeOf194
  v51 := Tryz.zeroValue194
  t53 := Tryz.underlying60
  a53 := Tryz.isAgg60
  z53 := Tryz.sizeOf60
  v53 := Tryz.zeroValue60 }
open Go.RowKit Go.Sort Go.Lib in
/-- internal/strconv.formatBase10: "formatBase10 formats the decimal representation of u into a. The caller is responsible for ensuring that a is big enough to hold u. If a is too big, leading zeros will be filled in as needed.": THE ROW HOLDS u's DIGITS ('FmtInv .. 0 ..': every place t holds 'dg u (len - 1 - t)'); all else is as it was but for the count of draws. (LAID: no walk: one application.) -/
theorem Tryz.internal_strconv_formatBase10 (blk off cap : Nat) (u : Nat) (d : Array UInt8) (w : World) (hH : Holds (fun (b : UInt8) => Value.int .u8 (b.toNat : Int)) w blk off d) (hu : u < 10 ^ d.size) (hu64 : u < 18446744073709551616) (hsz : d.size < 4611686018427387904) :
    Calls Tryz.prog 195 #[.slice (some ⟨blk, off, none⟩) d.size cap, .int .u64 u] w fun e w' =>
      e = .returned (.tuple #[]) ∧ ∃ (n v' : Nat) (dk : Array UInt8), w' = (putRow (fun (b : UInt8) => Value.int .u8 (b.toNat : Int)) w blk off dk).drewN n ∧ FmtInv d.size u 0 v' dk := Any.internal_strconv_formatBase10 Tryz.lays285 blk off cap u d w hH hu hu64 hsz
def Tryz.laysC172_ren : Go.Shelf.Ren := ⟨fun | 172 => 89 | 244 => 131 | 245 => 132 | 247 => 168 | 279 => 169 | 280 => 170 | 281 => 171 | 282 => 172 | 287 => 197 | 316 => 198 | 171 => 88 | 205 => 199 | 321 => 212 | 322 => 213 | 243 => 130 | 246 => 167 | 283 => 193 | 284 => 194 | 285 => 195 | 286 => 196 | 129 => 163 | 317 => 208 | 318 => 209 | 319 => 210 | 320 => 211 | 337 => 216 | 338 => 217 | n => n, fun | 9 => 9 | 3 => 3 | 75 => 131 | 76 => 132 | 4 => 4 | 5 => 5 | 167 => 198 | 37 => 49 | 0 => 0 | 85 => 199 | 2 => 2 | 168 => 201 | 53 => 60 | 175 => 224 | 46 => 114 | 210 => 228 | 127 => 151 | 145 => 245 | 143 => 243 | 21 => 21 | 171 => 220 | 173 => 222 | 212 => 240 | 51 => 194 | 20 => 20 | 213 => 241 | 232 => 250 | 233 => 251 | 80 => 92 | n => n, fun | 15 => 0 | 16 => 1 | 17 => 2 | 18 => 3 | 19 => 4 | n => n⟩
theorem Tryz.laysC172 : Go.Proofs.LaysC.n172 Tryz.prog Tryz.laysC172_ren := {
  mixed := by kernel_rfl
  f129 := Tryz.func163.trans (congrArg some (by kernel_rfl))
  f171 := Tryz.func88.trans (congrArg some (by kernel_rfl))
  f172 := Tryz.func89.trans (congrArg some (by kernel_rfl))
  f205 := Tryz.func199.trans (congrArg some (by kernel_rfl))
  f243 := Tryz.func130.trans (congrArg some (by kernel_rfl))
  f244 := Tryz.func131.trans (congrArg some (by kernel_rfl))
  f245 := Tryz.func132.trans (congrArg some (by kernel_rfl))
  f246 := Tryz.func167.trans (congrArg some (by kernel_rfl))
  f247 := Tryz.func168.trans (congrArg some (by kernel_rfl))
  f279 := Tryz.func169.trans (congrArg some (by kernel_rfl))
  f280 := Tryz.func170.trans (congrArg some (by kernel_rfl))
  f281 := Tryz.func171.trans (congrArg some (by kernel_rfl))
  f282 := Tryz.func172.trans (congrArg some (by kernel_rfl))
  f283 := Tryz.func193.trans (congrArg some (by kernel_rfl))
  f284 := Tryz.func194.trans (congrArg some (by kernel_rfl))
  f285 := Tryz.func195.trans (congrArg some (by kernel_rfl))
  f286 := Tryz.func196.trans (congrArg some (by kernel_rfl))
  f287 := Tryz.func197.trans (congrArg some (by kernel_rfl))
  f316 := Tryz.func198.trans (congrArg some (by kernel_rfl))
  f317 := Tryz.func208.trans (congrArg some (by kernel_rfl))
  f318 := Tryz.func209.trans (congrArg some (by kernel_rfl))
  f319 := Tryz.func210.trans (congrArg some (by kernel_rfl))
  f320 := Tryz.func211.trans (congrArg some (by kernel_rfl))
  f321 := Tryz.func212.trans (congrArg some (by kernel_rfl))
  f322 := Tryz.func213.trans (congrArg some (by kernel_rfl))
  f337 := Tryz.func216.trans (congrArg some (by kernel_rfl))
  f338 := Tryz.func217.trans (congrArg some (by kernel_rfl))
  t0 := Tryz.underlying0
  a0 := Tryz.isAgg0
  z0 := Tryz.sizeOf0
  v0 := Tryz.zeroValue0
  t2 := Tryz.underlying2
  a2 := Tryz.isAgg2
  z2 := Tryz.sizeOf2
  v2 := Tryz.zeroValue2
  t3 := Tryz.underlying3
  a3 := Tryz.isAgg3
  z3 := Tryz.sizeOf3
  v3 := Tryz.zeroValue3
  t4 := Tryz.underlying4
  a4 := Tryz.isAgg4
  z4 := Tryz.sizeOf4
  v4 := Tryz.zeroValue4
  t5 := Tryz.underlying5
  a5 := Tryz.isAgg5
  z5 := Tryz.sizeOf5
  v5 := Tryz.zeroValue5
  t9 := Tryz.underlying9
  a9 := Tryz.isAgg9
  z9 := Tryz.sizeOf9
  v9 := Tryz.zeroValue9
  t20 := Tryz.underlying20
  a20 := Tryz.isAgg20
  z20 := Tryz.sizeOf20
  v20 := Tryz.zeroValue20
  t21 := Tryz.underlying21
  a21 := Tryz.isAgg21
  z21 := Tryz.sizeOf21
  v21 := Tryz.zeroValue21
  t37 := Tryz.underlying49
  a37 := Tryz.isAgg49
  z37 := Tryz.sizeOf49
  v37 := Tryz.zeroValue49
  t46 := Tryz.underlying114
  a46 := Tryz.isAgg114
  z46 := Tryz.sizeOf114
  v46 := Tryz.zeroValue114
  t51 := Tryz.underlying194
  a51 := Tryz.isAgg194
  z51 := Tryz.sizeOf194
  v51 := Tryz.zeroValue194
  t53 := Tryz.underlying60
  a53 := Tryz.isAgg60
  z53 := Tryz.sizeOf60
  v53 := Tryz.zeroValue60
  t75 := Tryz.underlying131
  a75 := Tryz.isAgg131
  z75 := Tryz.sizeOf131
  v75 := Tryz.zeroValue131
  t76 := Tryz.underlying132
  a76 := Tryz.isAgg132
  z76 := Tryz.sizeOf132
  v76 := Tryz.zeroValue132
  t85 := Tryz.underlying199
  a85 := Tryz.isAgg199
  z85 := Tryz.sizeOf199
  v85 := Tryz.zeroValue199
  t127 := Tryz.underlying151
  a127 := Tryz.isAgg151
  z127 := Tryz.sizeOf151
  v127 := Tryz.zeroValue151
  t143 := Tryz.underlying243
  a143 := Tryz.isAgg243
  z143 := Tryz.sizeOf243
  v143 := Tryz.zeroValue243
  t145 := Tryz.underlying245
  a145 := Tryz.isAgg245
  z145 := Tryz.sizeOf245
  v145 := Tryz.zeroValue245
  t167 := Tryz.underlying198
  a167 := Tryz.isAgg198
  z167 := Tryz.sizeOf198
  v167 := Tryz.zeroValue198
  t168 := Tryz.underlying201
  a168 := Tryz.isAgg201
  z168 := Tryz.sizeOf201
  v168 := Tryz.zeroValue201
  t171 := Tryz.underlying220
  a171 := Tryz.isAgg220
  z171 := Tryz.sizeOf220
  v171 := Tryz.zeroValue220
  t173 := Tryz.underlying222
  a173 := Tryz.isAgg222
  z173 := Tryz.sizeOf222
  v173 := Tryz.zeroValue222
  t175 := Tryz.underlying224
  a175 := Tryz.isAgg224
  z175 := Tryz.sizeOf224
  v175 := Tryz.zeroValue224
  t210 := Tryz.underlying228
  a210 := Tryz.isAgg228
  z210 := Tryz.sizeOf228
  v210 := Tryz.zeroValue228
  t212 := Tryz.underlying240
  a212 := Tryz.isAgg240
  z212 := Tryz.sizeOf240
  v212 := Tryz.zeroValue240
  t213 := Tryz.underlying241
  a213 := Tryz.isAgg241
  z213 := Tryz.sizeOf241
  t232 := Tryz.underlying250
  a232 := Tryz.isAgg250
  z232 := Tryz.sizeOf250
  v232 := Tryz.zeroValue250
  t233 := Tryz.underlying251
  a233 := Tryz.isAgg251
  z233 := Tryz.sizeOf251
  v233 := Tryz.zeroValue251
  g15 := by kernel_rfl
  g16 := by kernel_rfl
  g17 := by kernel_rfl
  g18 := by kernel_rfl
  g19 := by kernel_rfl
  t80 := Tryz.underlying92
  a80 := Tryz.isAgg92
  z80 := Tryz.sizeOf92
  v80 := Tryz.zeroValue92
  i0 := by kernel_rfl
  i2 := by kernel_rfl
  i3 := by kernel_rfl
  i4 := by kernel_rfl
  i5 := by kernel_rfl
  i9 := by kernel_rfl
  i20 := by kernel_rfl
  i21 := by kernel_rfl
  i37 := by kernel_rfl
  i46 := by kernel_rfl
  i51 := by kernel_rfl
  i53 := by kernel_rfl
  i75 := by kernel_rfl
  i76 := by kernel_rfl
  i80 := by kernel_rfl
  i85 := by kernel_rfl
  i127 := by kernel_rfl
  i143 := by kernel_rfl
  i145 := by kernel_rfl
  i167 := by kernel_rfl
  i168 := by kernel_rfl
  i171 := by kernel_rfl
  i173 := by kernel_rfl
  i175 := by kernel_rfl
  i210 := by kernel_rfl
  i212 := by kernel_rfl
  i232 := by kernel_rfl
  i233 := by kernel_rfl
  m15 := by kernel_rfl
  m16 := by kernel_rfl
  m17 := by kernel_rfl
  m18 := by kernel_rfl
  m19 := by kernel_rfl
  c0 := by kernel_rfl
  c2 := by kernel_rfl
  c3 := by kernel_rfl
  c4 := by kernel_rfl
  c5 := by kernel_rfl
  c9 := by kernel_rfl
  c20 := by kernel_rfl
  c21 := by kernel_rfl
  c37 := by kernel_rfl
  c46 := by kernel_rfl
  c51 := by kernel_rfl
  c53 := by kernel_rfl
  c75 := by kernel_rfl
  c76 := by kernel_rfl
  c80 := by kernel_rfl
  c85 := by kernel_rfl
  c127 := by kernel_rfl
  c143 := by kernel_rfl
  c145 := by kernel_rfl
  c167 := by kernel_rfl
  c168 := by kernel_rfl
  c171 := by kernel_rfl
  c173 := by kernel_rfl
  c175 := by kernel_rfl
  c210 := by kernel_rfl
  c212 := by kernel_rfl
  c213 := by kernel_rfl
  c232 := by kernel_rfl
  c233 := by kernel_rfl }
open Go.RowKit in
/-- strconv.Atoi, AT EVERY STRING THAT SPELLS AN int ('Lib.atoiAll .. = .ok v'; of whatever length: leading zeros count): v, AND NO ERROR. The world: as it was, or with the one new row that '[]byte(..)' lays. (LAID: no walk: one application.) -/
theorem Tryz.strconv_Atoi_ok (s : ByteArray) (hmax : s.size ≤ 9223372036854775806) (v : Int) (h : Lib.atoiAll s.data.toList = .ok v) (w : World) :
    Calls Tryz.prog 89 #[.string s] w fun e w' => e = .returned (.tuple #[.int .i64 v, .nilIface]) ∧ (w' = w ∨ ∃ t, w' = Lib.bytesWorld w 5 t) := Any.strconv_Atoi_ok Tryz.laysC172 s hmax v h w
open Go.RowKit in
/-- strconv.Atoi, AT EVERY STRING THAT IS NO DECIMAL NUMERAL ('.syntax'): 0, AND AN ERROR THAT IS NOT nil: a *NumError in a new block N: {Func: "Atoi", Num: s's bytes, Err: what the variable ErrSyntax holds}. Of what was there nothing has turned. (LAID: no walk: one application.) -/
theorem Tryz.strconv_Atoi_syntax (s : ByteArray) (hlim : s.size ≤ 281474976710656) (h : Lib.atoiAll s.data.toList = (Lib.atoiAll [])) (ev : Value) (w : World) (hv : w.cell? ⟨0, 0, none⟩ = some ev) (hev : ev = .nilIface ∨ ∃ te pe, ev = .iface te pe) :
    Calls Tryz.prog 89 #[.string s] w fun e w' => ∃ N, e = .returned (.tuple #[.int .i64 (0), .iface 201 (.pointer (some ⟨N, 0, none⟩))]) ∧ w.heap.size ≤ N ∧ w'.heap[N]? = some (.cells #[.string ⟨#[65, 116, 111, 105]⟩, .string s, ev] 228 (0, 0)) ∧ Below w.heap.size w w' := Any.strconv_Atoi_syntax Tryz.laysC172 s hlim h ev w hv hev
open Go.RowKit in
/-- strconv.Atoi, AT EVERY NUMERAL THAT NO int HOLDS ('.range'): THE GREATEST OR THE LEAST int, BY THE SIGN ('Lib.atoiSat'), AND AN ERROR THAT IS NOT nil: a *NumError in a new block N: {Func: "Atoi", Num: s's bytes, Err: what the variable ErrRange holds}. Of what was there nothing has turned. (LAID: no walk: one application.) -/
theorem Tryz.strconv_Atoi_range (s : ByteArray) (hlim : s.size ≤ 281474976710656) (h : Lib.atoiAll s.data.toList = .range) (ev : Value) (w : World) (hv : w.cell? ⟨1, 0, none⟩ = some ev) (hev : ev = .nilIface ∨ ∃ te pe, ev = .iface te pe) :
    Calls Tryz.prog 89 #[.string s] w fun e w' => ∃ N, e = .returned (.tuple #[.int .i64 (Lib.atoiSat s.data.toList), .iface 201 (.pointer (some ⟨N, 0, none⟩))]) ∧ w.heap.size ≤ N ∧ w'.heap[N]? = some (.cells #[.string ⟨#[65, 116, 111, 105]⟩, .string s, ev] 228 (0, 0)) ∧ Below w.heap.size w w' := Any.strconv_Atoi_range Tryz.laysC172 s hlim h ev w hv hev
end Go.Proofs

namespace Go.Proofs.YtfnhkfdjhmgjbaaGreatDoor
open Go Go.Ax Go.Proofs
set_option linter.unusedVariables false
set_option maxRecDepth 1000000
def saysTrue (r : AV) : Prop := match r with | .bool b => (match b with | true => True | false => False) | _ => False
theorem saysTrue_eq {r : AV} (h : saysTrue r) : r = .bool true := by
  unfold saysTrue at h
  split at h
  · split at h
    · rfl
    · exact h.elim
  · exact h.elim
/-- The variables that are read: 'strconv.ErrSyntax', 'strconv.ErrRange' and the table of powers of ten. -/
def gz : List (Nat × AV) := [(0, .ifc 243 (.ip (.agg []))), (1, .ifc 243 (.ip (.agg []))), (2, .agg ([.int .u64 1, .int .u64 10, .int .u64 100, .int .u64 1000, .int .u64 10000, .int .u64 100000, .int .u64 1000000, .int .u64 10000000, .int .u64 100000000, .int .u64 1000000000, .int .u64 10000000000, .int .u64 100000000000, .int .u64 1000000000000, .int .u64 10000000000000, .int .u64 100000000000000, .int .u64 1000000000000000, .int .u64 10000000000000000, .int .u64 100000000000000000, .int .u64 1000000000000000000, .int .u64 10000000000000000000]))]
theorem lives10 : ((fdeep Tryz.prog gz 60).call 21 [] [] 0 fun r _ _ => saysTrue r) = True := by kernel_rfl
end Go.Proofs.YtfnhkfdjhmgjbaaGreatDoor

namespace Go.Proofs.YtfnhkfdjhmgjbaaGreatDoor
open Go Go.Ax Go.Proofs
set_option linter.unusedVariables false
set_option maxRecDepth 100000
set_option maxHeartbeats 4000000

theorem nngz : ∀ p ∈ gz, NN p.2 := fun p hp => by
  simp only [gz, List.mem_cons, List.not_mem_nil, or_false] at hp
  rcases hp with rfl | rfl | rfl
  · exact nn
  · exact nn
  · exact nn

theorem sLen64 (u : Nat) (h : u < 18446744073709551616) : PureC Tryz.prog [] 163 [.int .u64 u] (.int .i64 (Lib.bitLen u)) :=
  pureC_of (fun _ _ _ _ _ h => vrl_int h) fun w _ => (Tryz.bits_Len64 u w (by omega) (by omega)).mono fun e w' ⟨h1, h2⟩ => ⟨_, h1, fun _ _ _ _ => .int _ _, by rw [h2]; exact .refl w⟩
theorem sLog10 (x : Nat) (h : x ≤ 64) : PureC Tryz.prog [] 208 [.int .i64 x] (.int .i64 (Lib.l10 x)) :=
  pureC_of (fun _ _ _ _ _ h => vrl_int h) fun w _ => (Tryz.internal_strconv_log10Pow2 x h w).mono fun e w' ⟨h1, h2⟩ => ⟨_, h1, fun _ _ _ _ => .int _ _, by rw [h2]; exact .refl w⟩
theorem sSmall (i : Nat) (h : i < 100) : PureC Tryz.prog [] 193 [.int .i64 i] (.str (Lib.decDigits i)) :=
  pureC_of (fun _ _ _ _ _ h => vrl_int h) fun w _ => (Tryz.internal_strconv_small i h w).mono fun e w' ⟨h1, h2⟩ => ⟨_, h1, fun _ _ _ _ => .str _, by rw [h2]; exact .refl w⟩
theorem sBool2 (b : Bool) : PureC Tryz.prog [] 209 [.bool b] (.int .i64 (if b then 1 else 0)) := by
  cases b
  all_goals
    refine acalls_go nnΓ Tryz.func209 rfl ?_
    ((conv => whnf); repeat ((first | refine AWp.many ?_ | refine AOps.many ?_ | refine ADr.go ?_); conv => whnf))
    exact fin_pure nn ⟨rfl, rfl, rfl⟩
theorem sFmt10 (t : TypeId) (xs : List UInt8) (u : Nat) (hu64 : u < 18446744073709551616) (hlen : 1 + Lib.nDigits u ≤ xs.length) (hxl : xs.length ≤ 1000) :
    ACalls Tryz.prog [] 195 [.sl 0 1 (Lib.nDigits u), .int .u64 u] [(0, .row t 1 (encB xs))] 1 fun r m n => r = .tup [] ∧ m = [(0, .row t 1 (encB (xs.take 1 ++ Lib.decDigits u ++ xs.drop (1 + Lib.nDigits u))))] :=
  fmt10 Tryz.internal_strconv_formatBase10 xs u hu64 hlen hxl

def tabP : List AV := [.int .u64 1, .int .u64 10, .int .u64 100, .int .u64 1000, .int .u64 10000, .int .u64 100000, .int .u64 1000000, .int .u64 10000000, .int .u64 100000000, .int .u64 1000000000, .int .u64 10000000000, .int .u64 100000000000, .int .u64 1000000000000, .int .u64 10000000000000, .int .u64 100000000000000, .int .u64 1000000000000000, .int .u64 10000000000000000, .int .u64 100000000000000000, .int .u64 1000000000000000000, .int .u64 10000000000000000000]
theorem tab_at (q : Nat) (h : q ≤ 19) : tabP[q]? = some (.int .u64 ((10 ^ q : Nat) : Int)) := by
  rcases (show q = 0 ∨ q = 1 ∨ q = 2 ∨ q = 3 ∨ q = 4 ∨ q = 5 ∨ q = 6 ∨ q = 7 ∨ q = 8 ∨ q = 9 ∨ q = 10 ∨ q = 11 ∨ q = 12 ∨ q = 13 ∨ q = 14 ∨ q = 15 ∨ q = 16 ∨ q = 17 ∨ q = 18 ∨ q = 19 by omega) with rfl | rfl | rfl | rfl | rfl | rfl | rfl | rfl | rfl | rfl | rfl | rfl | rfl | rfl | rfl | rfl | rfl | rfl | rfl | rfl <;> rfl

/-- 'numDigits'. -/
theorem sNumDigits (u : Nat) (h1 : 1 ≤ u) (h2 : u < 18446744073709551616) : PureC Tryz.prog gz 194 [.int .u64 u] (.int .i64 (Lib.nDigits u)) := by
  obtain ⟨e1, e2⟩ := Lib.numDigits_eq u h1 h2
  have hL := sLen64 u h2
  have hb : Lib.bitLen u ≤ 64 := Lib.bitLen_le u 64 (Nat.le_refl _) h2
  generalize Lib.bitLen u = L at *
  have hq := sLog10 L hb
  generalize Lib.l10 L = q at *
  generalize Lib.nDigits u = nd at *
  have htab := tab_at q e2
  refine acalls_go nngz Tryz.func194 rfl ?_
  ((conv => whnf); repeat ((first | refine AWp.many ?_ | refine AOps.many ?_ | refine ADr.go ?_); conv => whnf))
  refine hL.goG ?_
  ((conv => whnf); repeat ((first | refine AWp.many ?_ | refine AOps.many ?_ | refine ADr.go ?_); conv => whnf))
  refine hq.goG ?_
  ((conv => whnf); repeat ((first | refine AWp.many ?_ | refine AOps.many ?_ | refine ADr.go ?_); conv => whnf))
  refine grd_mk (b := Nat.blt q 20) (Nat.ble_eq_true_of_le (by omega)) ?_
  ((conv => whnf); repeat ((first | refine AWp.many ?_ | refine AOps.many ?_ | refine ADr.go ?_); conv => whnf))
  have htab' : tabP[((q : Int)).toNat * 1]? = some (.int .u64 ((10 ^ q : Nat) : Int)) := by simpa using htab
  clear htab
  have hpq : ∃ pq : Int, pq = ((10 ^ q : Nat) : Int) := ⟨_, rfl⟩
  obtain ⟨pq, hpq⟩ := hpq
  rw [← hpq] at htab'
  refine opt_mk htab' ?_
  ((conv => whnf); repeat ((first | refine AWp.many ?_ | refine AOps.many ?_ | refine ADr.go ?_); conv => whnf))
  refine (sBool2 _).goG ?_
  ((conv => whnf); repeat ((first | refine AWp.many ?_ | refine AOps.many ?_ | refine ADr.go ?_); conv => whnf))
  refine fin_pure nn ⟨?_, rfl, rfl⟩
  congr 1
  have hle : decide ((u : Int) ≥ pq) = decide (10 ^ q ≤ u) := by rw [hpq]; simp only [ge_iff_le, Int.ofNat_le]
  have hnd : nd ≤ 20 := by rw [← e1]; split <;> omega
  rw [hle, w64 (y := (nd : Int)) _ ⟨by omega, by omega⟩]
  rw [← e1]
  by_cases hc : 10 ^ q ≤ u <;> simp [hc]

theorem nDigits_le (u : Nat) (h2 : u < 18446744073709551616) : Lib.nDigits u ≤ 20 := by
  by_cases h1 : 1 ≤ u
  · obtain ⟨e1, e2⟩ := Lib.numDigits_eq u h1 h2
    rw [← e1]
    split <;> omega
  · rw [Lib.nDigits_small (by omega)]; omega
theorem u64_wrap (n : Int) : IntKind.u64.wrap n = n % 18446744073709551616 := by
  simp [IntKind.wrap, IntKind.bits, IntKind.signed]

/-- 'FormatInt(i, 10)'. -/
theorem sFormatInt (n : Int) (hn : i64 n) : PureC Tryz.prog gz 167 [.int .i64 n, .int .i64 10] (.str (Lib.itoa n)) := by
  rcases (show (0 ≤ n ∧ n < 100) ∨ 100 ≤ n ∨ n < 0 by omega) with ⟨h0, h1⟩ | h1 | h1
  · obtain ⟨i, rfl⟩ : ∃ i : Nat, n = i := ⟨n.toNat, by omega⟩
    have d2 : decide ((i : Int) < 100) = true := by simpa using h1
    refine acalls_go nngz Tryz.func167 rfl ?_
    ((conv => whnf); repeat ((first | refine AWp.many ?_ | refine AOps.many ?_ | refine ADr.go ?_); conv => whnf))
    rw [d2]
    ((conv => whnf); repeat ((first | refine AWp.many ?_ | refine AOps.many ?_ | refine ADr.go ?_); conv => whnf))
    refine (sSmall i (by omega)).goG ?_
    ((conv => whnf); repeat ((first | refine AWp.many ?_ | refine AOps.many ?_ | refine ADr.go ?_); conv => whnf))
    refine fin_pure nn ⟨?_, rfl, rfl⟩
    rw [Lib.itoa_nonneg]
  · obtain ⟨u, rfl⟩ : ∃ i : Nat, n = i := ⟨n.toNat, by omega⟩
    have d2 : decide ((u : Int) < 100) = false := by simp; omega
    have d3 : decide ((u : Int) < 0) = false := by simp
    unfold i64 at hn
    have hw : IntKind.u64.wrap (u : Int) = (u : Int) := by rw [u64_wrap]; omega
    have hu64 : u < 18446744073709551616 := by omega
    have hnd := nDigits_le u hu64
    have hF := (sFmt10 220 (List.replicate 24 0) u hu64 (by simp; omega) (by simp)).glob (Γ := gz)
    have hdl := Lib.decDigits_length u
    have hN := sNumDigits u (by omega) hu64
    have hdd : (Lib.decDigits u ++ List.drop (1 + Lib.nDigits u) (List.replicate 24 0)).length = 23 := by simp [hdl]; omega
    have hit := Lib.itoa_nonneg u
    generalize Lib.nDigits u = nd at hN hF hnd hdl hdd
    generalize Lib.decDigits u = ds at hF hdl hit hdd
    refine acalls_go nngz Tryz.func167 rfl ?_
    ((conv => whnf); repeat ((first | refine AWp.many ?_ | refine AOps.many ?_ | refine ADr.go ?_); conv => whnf))
    rw [d2]
    ((conv => whnf); repeat ((first | refine AWp.many ?_ | refine AOps.many ?_ | refine ADr.go ?_); conv => whnf))
    rw [hw]
    refine hN.use nngz nns nn ?_
    ((conv => whnf); repeat ((first | refine AWp.many ?_ | refine AOps.many ?_ | refine ADr.go ?_); conv => whnf))
    rw [w64 (x := 1 + (nd : Int)) (y := ((1 + nd : Nat) : Int)) (by omega) ⟨by omega, by omega⟩]
    ((conv => whnf); repeat ((first | refine AWp.many ?_ | refine AOps.many ?_ | refine ADr.go ?_); conv => whnf))
    refine grd_mk (sl_ok (by simp; omega) (by simp; omega) (by simp)) ?_
    ((conv => whnf); repeat ((first | refine AWp.many ?_ | refine AOps.many ?_ | refine ADr.go ?_); conv => whnf))
    refine ACalls.useI nngz [0] hF (by rfl) (.cons (.slE rfl (by simp; omega)) (.cons (.same _ nn) .nil)) ⟨⟨0, _, rfl, rfl, .same (encB_nn _)⟩, trivial⟩ rfl ?_
    rintro r m n' ⟨rfl, rfl⟩
    refine ⟨nn, ⟨⟨0, _, rfl, rfl, .same (encB_nn _)⟩, trivial⟩, rfl, ?_⟩
    have hlist : List.take 1 (List.replicate 24 (0 : UInt8)) ++ ds ++ List.drop (1 + nd) (List.replicate 24 0) = 0 :: (ds ++ List.drop (1 + nd) (List.replicate 24 0)) := rfl
    rw [hlist]
    have htk : List.take nd (ds ++ List.drop (1 + nd) (List.replicate 24 0)) = ds := by rw [List.take_append_of_le_length (by omega), List.take_of_length_le (by omega)]
    generalize ds ++ List.drop (1 + nd) (List.replicate 24 0) = rest at hdd htk
    have hrl : (encB (0 :: rest)).length = 24 := by rw [encB_length]; simp [hdd]
    ((conv => whnf); repeat ((first | refine AWp.many ?_ | refine AOps.many ?_ | refine ADr.go ?_); conv => whnf))
    refine grd_mk (by rw [Bool.and_eq_true]; exact ⟨rfl, Nat.ble_eq_true_of_le (by rw [hrl]; omega)⟩) ?_
    ((conv => whnf); repeat ((first | refine AWp.many ?_ | refine AOps.many ?_ | refine ADr.go ?_); conv => whnf))
    rw [w64 (x := 1 + (nd : Int)) (y := ((1 + nd : Nat) : Int)) (by omega) ⟨by omega, by omega⟩]
    ((conv => whnf); repeat ((first | refine AWp.many ?_ | refine AOps.many ?_ | refine ADr.go ?_); conv => whnf))
    refine grd_mk (sl_ok (by simp; omega) (by simp; omega) (by simp)) ?_
    ((conv => whnf); repeat ((first | refine AWp.many ?_ | refine AOps.many ?_ | refine ADr.go ?_); conv => whnf))
    refine grd_mk (Nat.ble_eq_true_of_le (by rw [hrl]; simp; omega)) ?_
    refine opt_mk (a := ds) ?_ ?_
    · rw [encB_drop, encB_take, toBytes_encB]
      show some (List.take ((((1 + nd : Nat) : Int)).toNat - 1) rest) = some ds
      rw [← htk]
      congr 2
      simp
      omega
    ((conv => whnf); repeat ((first | refine AWp.many ?_ | refine AOps.many ?_ | refine ADr.go ?_); conv => whnf))
    refine fin_pure nn ⟨?_, rfl, rfl⟩
    rw [hit]
  · obtain ⟨u, rfl⟩ : ∃ i : Nat, n = -(i : Int) := ⟨(-n).toNat, by omega⟩
    have d1 : decide (0 ≤ -(u : Int)) = false := by simp; omega
    have d3 : decide (-(u : Int) < 0) = true := by simp; omega
    unfold i64 at hn
    have hw : IntKind.u64.wrap (0 - IntKind.u64.wrap (-(u : Int))) = (u : Int) := by rw [u64_wrap, u64_wrap]; omega
    have hu64 : u < 18446744073709551616 := by omega
    have hnd := nDigits_le u hu64
    have hF := (sFmt10 220 (List.replicate 24 0) u hu64 (by simp; omega) (by simp)).glob (Γ := gz)
    have hdl := Lib.decDigits_length u
    have hN := sNumDigits u (by omega) hu64
    have hdd : (Lib.decDigits u ++ List.drop (1 + Lib.nDigits u) (List.replicate 24 0)).length = 23 := by simp [hdl]; omega
    have hit := Lib.itoa_neg u (by omega)
    generalize Lib.nDigits u = nd at hN hF hnd hdl hdd
    generalize Lib.decDigits u = ds at hF hdl hit hdd
    refine acalls_go nngz Tryz.func167 rfl ?_
    ((conv => whnf); repeat ((first | refine AWp.many ?_ | refine AOps.many ?_ | refine ADr.go ?_); conv => whnf))
    rw [d1]
    ((conv => whnf); repeat ((first | refine AWp.many ?_ | refine AOps.many ?_ | refine ADr.go ?_); conv => whnf))
    rw [d3]
    ((conv => whnf); repeat ((first | refine AWp.many ?_ | refine AOps.many ?_ | refine ADr.go ?_); conv => whnf))
    rw [hw]
    refine hN.use nngz nns nn ?_
    ((conv => whnf); repeat ((first | refine AWp.many ?_ | refine AOps.many ?_ | refine ADr.go ?_); conv => whnf))
    rw [w64 (x := 1 + (nd : Int)) (y := ((1 + nd : Nat) : Int)) (by omega) ⟨by omega, by omega⟩]
    ((conv => whnf); repeat ((first | refine AWp.many ?_ | refine AOps.many ?_ | refine ADr.go ?_); conv => whnf))
    refine grd_mk (sl_ok (by simp; omega) (by simp; omega) (by simp)) ?_
    ((conv => whnf); repeat ((first | refine AWp.many ?_ | refine AOps.many ?_ | refine ADr.go ?_); conv => whnf))
    refine ACalls.useI nngz [0] hF (by rfl) (.cons (.slE rfl (by simp; omega)) (.cons (.same _ nn) .nil)) ⟨⟨0, _, rfl, rfl, .same (encB_nn _)⟩, trivial⟩ rfl ?_
    rintro r m n' ⟨rfl, rfl⟩
    refine ⟨nn, ⟨⟨0, _, rfl, rfl, .same (encB_nn _)⟩, trivial⟩, rfl, ?_⟩
    have hlist : List.take 1 (List.replicate 24 (0 : UInt8)) ++ ds ++ List.drop (1 + nd) (List.replicate 24 0) = 0 :: (ds ++ List.drop (1 + nd) (List.replicate 24 0)) := rfl
    rw [hlist]
    have htk : List.take nd (ds ++ List.drop (1 + nd) (List.replicate 24 0)) = ds := by rw [List.take_append_of_le_length (by omega), List.take_of_length_le (by omega)]
    generalize ds ++ List.drop (1 + nd) (List.replicate 24 0) = rest at hdd htk
    have hrl : ∀ b, (encB (b :: rest)).length = 24 := fun b => by rw [encB_length]; simp [hdd]
    ((conv => whnf); repeat ((first | refine AWp.many ?_ | refine AOps.many ?_ | refine ADr.go ?_); conv => whnf))
    rw [d3]
    ((conv => whnf); repeat ((first | refine AWp.many ?_ | refine AOps.many ?_ | refine ADr.go ?_); conv => whnf))
    refine grd_mk (by rw [Bool.and_eq_true]; exact ⟨rfl, Nat.ble_eq_true_of_le (Nat.le_of_eq (hrl 45).symm)⟩) ?_
    ((conv => whnf); repeat ((first | refine AWp.many ?_ | refine AOps.many ?_ | refine ADr.go ?_); conv => whnf))
    rw [w64 (x := 1 + (nd : Int)) (y := ((1 + nd : Nat) : Int)) (by omega) ⟨by omega, by omega⟩]
    ((conv => whnf); repeat ((first | refine AWp.many ?_ | refine AOps.many ?_ | refine ADr.go ?_); conv => whnf))
    refine grd_mk (sl_ok (by simp) (by simp; omega) (by simp)) ?_
    ((conv => whnf); repeat ((first | refine AWp.many ?_ | refine AOps.many ?_ | refine ADr.go ?_); conv => whnf))
    refine grd_mk (Nat.ble_eq_true_of_le (show _ ≤ (encB (45 :: rest)).length by rw [hrl]; simp; omega)) ?_
    refine opt_mk (a := 45 :: ds) (show toBytes (List.take ((((1 + nd : Nat) : Int)).toNat - 0) (List.drop (0 + 0) (encB (45 :: rest)))) = _ from ?_) ?_
    · rw [encB_drop, encB_take, toBytes_encB]
      have e : (((1 + nd : Nat) : Int)).toNat - 0 = nd + 1 := by simp; omega
      rw [e]
      show some (45 :: List.take nd rest) = _
      rw [htk]
    ((conv => whnf); repeat ((first | refine AWp.many ?_ | refine AOps.many ?_ | refine ADr.go ?_); conv => whnf))
    refine fin_pure nn ⟨?_, rfl, rfl⟩
    rw [hit]

theorem sItoaI (n : Int) (hn : i64 n) : PureC Tryz.prog gz 130 [.int .i64 n] (.str (Lib.itoa n)) := by
  have h := sFormatInt n hn
  generalize Lib.itoa n = r at h
  refine acalls_go nngz Tryz.func130 rfl ?_
  ((conv => whnf); repeat ((first | refine AWp.many ?_ | refine AOps.many ?_ | refine ADr.go ?_); conv => whnf))
  refine h.use nngz nns nn ?_
  ((conv => whnf); repeat ((first | refine AWp.many ?_ | refine AOps.many ?_ | refine ADr.go ?_); conv => whnf))
  exact fin_pure nn ⟨rfl, rfl, rfl⟩
/-- 'strconv.Itoa'. -/
theorem sItoa (n : Int) (hn : i64 n) : PureC Tryz.prog gz 88 [.int .i64 n] (.str (Lib.itoa n)) := by
  have h := sItoaI n hn
  generalize Lib.itoa n = r at h
  refine acalls_go nngz Tryz.func88 rfl ?_
  ((conv => whnf); repeat ((first | refine AWp.many ?_ | refine AOps.many ?_ | refine ADr.go ?_); conv => whnf))
  refine h.use nngz nns nn ?_
  ((conv => whnf); repeat ((first | refine AWp.many ?_ | refine AOps.many ?_ | refine ADr.go ?_); conv => whnf))
  exact fin_pure nn ⟨rfl, rfl, rfl⟩

/-- 'strconv.Atoi'. -/
theorem knows_err {g : Nat} {t : TypeId} {v : AV} {w : World} (h : Knows gz w) (hg : (g, AV.ifc t v) ∈ gz) : ∃ ev, w.cell? ⟨g, 0, none⟩ = some ev ∧ (ev = .nilIface ∨ ∃ te pe, ev = .iface te pe) := by
  obtain ⟨x, ρ, D, O, h1, h2⟩ := h _ hg 0 (.ifc t v) rfl
  cases h2 with
  | ifc _ _ y hy => exact ⟨_, h1, .inr ⟨_, _, rfl⟩⟩
theorem sAtoi (s : List UInt8) (hs : s.length ≤ 4294967296) :
    ∃ (n : Int) (e : AV), i64 n ∧ (e = .nif ∨ e = .ifc 201 .junk) ∧ PureC Tryz.prog gz 89 [.str s] (.tup [.int .i64 n, e]) ∧ (∀ m, Lib.atoiAll s = .ok m → n = m ∧ e = .nif) := by
  have hsz : (⟨s.toArray⟩ : ByteArray).size = s.length := by simp [ByteArray.size]
  have hd : (⟨s.toArray⟩ : ByteArray).data.toList = s := by simp
  cases h : Lib.atoiAll s with
  | ok v =>
    refine ⟨v, .nif, Lib.atoiAll_bounds h, .inl rfl, pureC_of (fun _ _ _ _ _ h => vrl_str h) fun w _ => ?_, fun m hm => ⟨by injection hm, rfl⟩⟩
    refine (Tryz.strconv_Atoi_ok ⟨s.toArray⟩ (by rw [hsz]; omega) v (by rw [hd]; exact h) w).mono ?_
    rintro e w' ⟨rfl, hw⟩
    refine ⟨_, rfl, fun _ _ _ _ => .tup _ _ rfl fun j c x h1 h2 => ?_, ?_⟩
    · match j, h1, h2 with
      | 0, h1, h2 => simp at h1 h2; subst h1 h2; exact .int _ _
      | 1, h1, h2 => simp at h1 h2; subst h1 h2; exact .nif
      | j + 2, h1, h2 => simp at h1
    · rcases hw with rfl | ⟨t, rfl⟩
      · exact .refl _
      · exact grown_bytes _ _ _
  | range =>
    refine ⟨Lib.atoiSat s, .ifc 201 .junk, Lib.atoiSat_bounds s, .inr rfl, pureC_of (fun _ _ _ _ _ h => vrl_str h) fun w hk => ?_, fun m hm => by cases hm⟩
    obtain ⟨ev, h1, h2⟩ := knows_err (g := 1) hk (.tail _ (.head _))
    have hc := Tryz.strconv_Atoi_range ⟨s.toArray⟩ (by rw [hsz]; omega) (by rw [hd]; exact h) ev w h1 h2
    rw [hd] at hc
    refine hc.mono ?_
    rintro e w' ⟨N, rfl, -, -, hb⟩
    refine ⟨_, rfl, fun _ _ _ _ => .tup _ _ rfl fun j c x h1 h2 => ?_, grown_below hb⟩
    match j, h1, h2 with
    | 0, h1, h2 => simp at h1 h2; subst h1 h2; exact .int _ _
    | 1, h1, h2 => simp at h1 h2; subst h1 h2; exact .ifc _ _ _ (.junk _)
    | j + 2, h1, h2 => simp at h1
  | _ =>
    refine ⟨0, .ifc 201 .junk, ⟨by omega, by omega⟩, .inr rfl, pureC_of (fun _ _ _ _ _ h => vrl_str h) fun w hk => ?_, fun m hm => by cases hm⟩
    obtain ⟨ev, h1, h2⟩ := knows_err (g := 0) hk (.head _)
    refine (Tryz.strconv_Atoi_syntax ⟨s.toArray⟩ (by rw [hsz]; omega) (by rw [hd]; exact h) ev w h1 h2).mono ?_
    rintro e w' ⟨N, rfl, -, -, hb⟩
    refine ⟨_, rfl, fun _ _ _ _ => .tup _ _ rfl fun j c x h1 h2 => ?_, grown_below hb⟩
    match j, h1, h2 with
    | 0, h1, h2 => simp at h1 h2; subst h1 h2; exact .int _ _
    | 1, h1, h2 => simp at h1 h2; subst h1 h2; exact .ifc _ _ _ (.junk _)
    | j + 2, h1, h2 => simp at h1
end Go.Proofs.YtfnhkfdjhmgjbaaGreatDoor

namespace Go.Proofs.YtfnhkfdjhmgjbaaGreatDoor
open Go Go.Ax Go.Proofs
set_option linter.unusedVariables false
set_option maxRecDepth 100000
set_option maxHeartbeats 4000000

/-! ### 'values.visit' -/
def cI (n : Nat) : AB := .row 3 1 [.int .i64 n]
def cB (b : Bool) : AB := .row 4 1 [.bool b]
def cF (f : AV) : AB := .row 147 1 [f]

section
variable {mem : Mem} {σ : List (Nat × Nat)}
theorem cvFn1 {F : FuncId} {i : Nat} (h : lk σ i = some i) : CvR mem σ [.fn (.func F) [] [.ptr i 0 0]] [.fn (.func F) [] [.ptr i 0 0]] :=
  .cons (.one rfl rfl (.fn _ _ _ _ _ rfl rfl (by simp) (CvL.cons (.ptr i i 0 0 h) .nil).2)) .nil
theorem cvFn2 {F : FuncId} {i j : Nat} (h : lk σ i = some i) (h' : lk σ j = some j) : CvR mem σ [.fn (.func F) [] [.ptr i 0 0, .ptr j 0 0]] [.fn (.func F) [] [.ptr i 0 0, .ptr j 0 0]] :=
  .cons (.one rfl rfl (.fn _ _ _ _ _ rfl rfl (by simp) (CvL.cons (.ptr i i 0 0 h) (.cons (.ptr j j 0 0 h') .nil)).2)) .nil
theorem cvFn3 {F : FuncId} {i j k : Nat} (h : lk σ i = some i) (h' : lk σ j = some j) (h'' : lk σ k = some k) : CvR mem σ [.fn (.func F) [] [.ptr i 0 0, .ptr j 0 0, .ptr k 0 0]] [.fn (.func F) [] [.ptr i 0 0, .ptr j 0 0, .ptr k 0 0]] :=
  .cons (.one rfl rfl (.fn _ _ _ _ _ rfl rfl (by simp) (CvL.cons (.ptr i i 0 0 h) (.cons (.ptr j j 0 0 h') (.cons (.ptr k k 0 0 h'') .nil))).2)) .nil
end

/-- The memory of the walk over one number. -/
def wMS (n : Nat) : Mem := [(0, cI n), (1, cF (.fn (.func 107) [] [.ptr 0 0 0])), (2, cF (.fn (.func 139) [] [.ptr 1 0 0, .ptr 2 0 0]))]

theorem visit1S (g : Nat → Nat → Nat) (hg : ∀ n d, g n d ≤ max (n + 1) d)
    (hsee : ∀ (v : Val) (d n : Nat), d ≤ 1099511627776 → n ≤ 4398046511104 → ACalls Tryz.prog [] 107 [encV v, .int .i64 d, .ptr 0 0 0] [(0, cI n)] 1 fun r m _ => r = .bool true ∧ m = [(0, cI (g n d))]) :
    ∀ (v : Val) (d n : Nat), d + depthV v ≤ 1099511627776 → max n (d + depthV v) + sizeV v ≤ 4398046511104 →
      ACalls Tryz.prog [] 139 [encV v, .int .i64 d, .ptr 1 0 0, .ptr 2 0 0] (wMS n) 3 fun r m _ => r = .bool true ∧ m = wMS (resV g v d n)
  | .mk vk vn vs ks, d, n, hd, hb => by
    have ih : ∀ a ∈ ks, ∀ (d n : Nat), d + depthV a ≤ 1099511627776 → max n (d + depthV a) + sizeV a ≤ 4398046511104 → ACalls Tryz.prog [] 139 [encV a, .int .i64 d, .ptr 1 0 0, .ptr 2 0 0] (wMS n) 3 fun r m _ => r = .bool true ∧ m = wMS (resV g a d n) :=
      fun a hm d n h1 h2 => visit1S g hg hsee a d n h1 h2
    simp only [depthV, sizeV] at hd hb
    have hlen := sizeL_len ks
    have hgn := hg n d
    refine acalls_go nnΓ Tryz.func139 rfl ?_
    ((conv => whnf); repeat ((first | refine AWp.many ?_ | refine AOps.many ?_ | refine ADr.go ?_); conv => whnf))
    refine ACalls.useI nnΓ [0] (hsee (.mk vk vn vs ks) d n (by omega) (by omega)) (by rfl) (.cons (.same _ nn) (.cons (.same _ nn) (.cons (.ptr 0 0 0 0 rfl) .nil))) ⟨⟨0, _, rfl, rfl, .same nns⟩, trivial⟩ rfl ?_
    rintro r m n' ⟨rfl, rfl⟩
    refine ⟨nn, ⟨⟨0, _, rfl, rfl, .same nns⟩, trivial⟩, rfl, ?_⟩
    ((conv => whnf); repeat ((first | refine AWp.many ?_ | refine AOps.many ?_ | refine ADr.go ?_); conv => whnf))
    refine ALoop.at nnΓ (fun k : Nat => k ≤ ks.length)
      (fun k => ⟨[(1, .int .i64 d), (3, .ptr 2 0 0), (15, .il 4 (encVs ks)), (16, .int .i64 (encVs ks).length), (17, .int .i64 k)], wMS (resL g (ks.take k) (d + 1) (g n d)), 3, 28⟩)
      (fun k => ks.length - k) 0 [(0, 0), (1, 1), (2, 2)] (by simp)
      (conv_mk _ rfl ⟨⟨0, _, rfl, rfl, .same nns⟩, ⟨1, _, rfl, rfl, cvFn1 rfl⟩, ⟨2, _, rfl, rfl, cvFn2 rfl rfl⟩, trivial⟩ ⟨⟨_, rfl, .same _ nn⟩, ⟨_, rfl, .ptr 2 2 0 0 rfl⟩, ⟨_, rfl, .same _ nn⟩, ⟨_, rfl, .same _ nn⟩, ⟨_, rfl, .same _ nn⟩, trivial⟩) ?_
    intro k hk
    have hrl := resL_le hg (ks.take k) (d + 1) (g n d)
    ((conv => whnf); repeat ((first | refine AWp.many ?_ | refine AOps.many ?_ | refine ADr.go ?_); conv => whnf))
    refine bcs_mk (fun h => ?_) (fun h => ?_)
    · have hlt := klt h
      obtain ⟨a, b, c, e, hm, hg', he, e1⟩ := enc_cases hlt
      have hst := sizeL_take hlt
      have hdt := depthL_take hlt
      rw [he] at hst hdt
      have hst' := sizeL_take_le ks (k + 1)
      have hdm := depthL_mem hm
      have hdk : depthL (ks.take k) ≤ depthL ks := depthL_take_le ks k
      have hrt := resL_take g hlt (d + 1) (g n d)
      rw [he] at hrt
      ((conv => whnf); repeat ((first | refine AWp.many ?_ | refine AOps.many ?_ | refine ADr.go ?_); conv => whnf))
      refine opt_mk e1 ?_
      ((conv => whnf); repeat ((first | refine AWp.many ?_ | refine AOps.many ?_ | refine ADr.go ?_); conv => whnf))
      rw [w64 (x := (d : Int) + 1) (y := ((d + 1 : Nat) : Int)) (by omega) ⟨by omega, by omega⟩]
      refine ACalls.useI nnΓ [0, 1, 2] (ih _ hm (d + 1) (resL g (ks.take k) (d + 1) (g n d)) (by omega) (by omega)) (by rfl) (.cons (.same _ nn) (.cons (.same _ nn) (.cons (.ptr 1 1 0 0 rfl) (.cons (.ptr 2 2 0 0 rfl) .nil))))
        ⟨⟨0, _, rfl, rfl, .same nns⟩, ⟨1, _, rfl, rfl, cvFn1 rfl⟩, ⟨2, _, rfl, rfl, cvFn2 rfl rfl⟩, trivial⟩ rfl ?_
      rintro r m n' ⟨rfl, rfl⟩
      refine ⟨nn, ⟨⟨0, _, rfl, rfl, .same nns⟩, ⟨1, _, rfl, rfl, cvFn1 rfl⟩, ⟨2, _, rfl, rfl, cvFn2 rfl rfl⟩, trivial⟩, rfl, ?_⟩
      rw [← hrt]
      ((conv => whnf); repeat ((first | refine AWp.many ?_ | refine AOps.many ?_ | refine ADr.go ?_); conv => whnf))
      exact .mk (k + 1) [(0, 0), (1, 1), (2, 2)] (by omega)
        (conv_mk _ rfl ⟨⟨0, _, rfl, rfl, .same nns⟩, ⟨1, _, rfl, rfl, cvFn1 rfl⟩, ⟨2, _, rfl, rfl, cvFn2 rfl rfl⟩, trivial⟩ ⟨⟨_, rfl, .same _ nn⟩, ⟨_, rfl, .ptr 2 2 0 0 rfl⟩, ⟨_, rfl, .same _ nn⟩, ⟨_, rfl, .same _ nn⟩, ⟨_, rfl, .w64 (by omega) ⟨by omega, by omega⟩⟩, trivial⟩) (by omega)
    · have hk' : k = ks.length := by have := kge h; omega
      ((conv => whnf); repeat ((first | refine AWp.many ?_ | refine AOps.many ?_ | refine ADr.go ?_); conv => whnf))
      refine fin_mk (n' := 3) (m' := wMS (resL g (ks.take k) (d + 1) (g n d))) [(0, 0), (1, 1), (2, 2)] rfl ⟨⟨0, _, rfl, rfl, .same nns⟩, ⟨1, _, rfl, rfl, cvFn1 rfl⟩, ⟨2, _, rfl, rfl, cvFn2 rfl rfl⟩, trivial⟩ (.same _ nn) ⟨rfl, ?_⟩
      rw [hk', List.take_length, resV]
  termination_by v => SizeOf.sizeOf v
  decreasing_by simp; have := List.sizeOf_lt_of_mem hm; omega
/-- The memory of the walk over one number. -/
def wMD (n : Nat) : Mem := [(0, cI n), (1, cF (.fn (.func 108) [] [.ptr 0 0 0])), (2, cF (.fn (.func 139) [] [.ptr 1 0 0, .ptr 2 0 0]))]

theorem visit1D (g : Nat → Nat → Nat) (hg : ∀ n d, g n d ≤ max (n + 1) d)
    (hsee : ∀ (v : Val) (d n : Nat), d ≤ 1099511627776 → n ≤ 4398046511104 → ACalls Tryz.prog [] 108 [encV v, .int .i64 d, .ptr 0 0 0] [(0, cI n)] 1 fun r m _ => r = .bool true ∧ m = [(0, cI (g n d))]) :
    ∀ (v : Val) (d n : Nat), d + depthV v ≤ 1099511627776 → max n (d + depthV v) + sizeV v ≤ 4398046511104 →
      ACalls Tryz.prog [] 139 [encV v, .int .i64 d, .ptr 1 0 0, .ptr 2 0 0] (wMD n) 3 fun r m _ => r = .bool true ∧ m = wMD (resV g v d n)
  | .mk vk vn vs ks, d, n, hd, hb => by
    have ih : ∀ a ∈ ks, ∀ (d n : Nat), d + depthV a ≤ 1099511627776 → max n (d + depthV a) + sizeV a ≤ 4398046511104 → ACalls Tryz.prog [] 139 [encV a, .int .i64 d, .ptr 1 0 0, .ptr 2 0 0] (wMD n) 3 fun r m _ => r = .bool true ∧ m = wMD (resV g a d n) :=
      fun a hm d n h1 h2 => visit1D g hg hsee a d n h1 h2
    simp only [depthV, sizeV] at hd hb
    have hlen := sizeL_len ks
    have hgn := hg n d
    refine acalls_go nnΓ Tryz.func139 rfl ?_
    ((conv => whnf); repeat ((first | refine AWp.many ?_ | refine AOps.many ?_ | refine ADr.go ?_); conv => whnf))
    refine ACalls.useI nnΓ [0] (hsee (.mk vk vn vs ks) d n (by omega) (by omega)) (by rfl) (.cons (.same _ nn) (.cons (.same _ nn) (.cons (.ptr 0 0 0 0 rfl) .nil))) ⟨⟨0, _, rfl, rfl, .same nns⟩, trivial⟩ rfl ?_
    rintro r m n' ⟨rfl, rfl⟩
    refine ⟨nn, ⟨⟨0, _, rfl, rfl, .same nns⟩, trivial⟩, rfl, ?_⟩
    ((conv => whnf); repeat ((first | refine AWp.many ?_ | refine AOps.many ?_ | refine ADr.go ?_); conv => whnf))
    refine ALoop.at nnΓ (fun k : Nat => k ≤ ks.length)
      (fun k => ⟨[(1, .int .i64 d), (3, .ptr 2 0 0), (15, .il 4 (encVs ks)), (16, .int .i64 (encVs ks).length), (17, .int .i64 k)], wMD (resL g (ks.take k) (d + 1) (g n d)), 3, 28⟩)
      (fun k => ks.length - k) 0 [(0, 0), (1, 1), (2, 2)] (by simp)
      (conv_mk _ rfl ⟨⟨0, _, rfl, rfl, .same nns⟩, ⟨1, _, rfl, rfl, cvFn1 rfl⟩, ⟨2, _, rfl, rfl, cvFn2 rfl rfl⟩, trivial⟩ ⟨⟨_, rfl, .same _ nn⟩, ⟨_, rfl, .ptr 2 2 0 0 rfl⟩, ⟨_, rfl, .same _ nn⟩, ⟨_, rfl, .same _ nn⟩, ⟨_, rfl, .same _ nn⟩, trivial⟩) ?_
    intro k hk
    have hrl := resL_le hg (ks.take k) (d + 1) (g n d)
    ((conv => whnf); repeat ((first | refine AWp.many ?_ | refine AOps.many ?_ | refine ADr.go ?_); conv => whnf))
    refine bcs_mk (fun h => ?_) (fun h => ?_)
    · have hlt := klt h
      obtain ⟨a, b, c, e, hm, hg', he, e1⟩ := enc_cases hlt
      have hst := sizeL_take hlt
      have hdt := depthL_take hlt
      rw [he] at hst hdt
      have hst' := sizeL_take_le ks (k + 1)
      have hdm := depthL_mem hm
      have hdk : depthL (ks.take k) ≤ depthL ks := depthL_take_le ks k
      have hrt := resL_take g hlt (d + 1) (g n d)
      rw [he] at hrt
      ((conv => whnf); repeat ((first | refine AWp.many ?_ | refine AOps.many ?_ | refine ADr.go ?_); conv => whnf))
      refine opt_mk e1 ?_
      ((conv => whnf); repeat ((first | refine AWp.many ?_ | refine AOps.many ?_ | refine ADr.go ?_); conv => whnf))
      rw [w64 (x := (d : Int) + 1) (y := ((d + 1 : Nat) : Int)) (by omega) ⟨by omega, by omega⟩]
      refine ACalls.useI nnΓ [0, 1, 2] (ih _ hm (d + 1) (resL g (ks.take k) (d + 1) (g n d)) (by omega) (by omega)) (by rfl) (.cons (.same _ nn) (.cons (.same _ nn) (.cons (.ptr 1 1 0 0 rfl) (.cons (.ptr 2 2 0 0 rfl) .nil))))
        ⟨⟨0, _, rfl, rfl, .same nns⟩, ⟨1, _, rfl, rfl, cvFn1 rfl⟩, ⟨2, _, rfl, rfl, cvFn2 rfl rfl⟩, trivial⟩ rfl ?_
      rintro r m n' ⟨rfl, rfl⟩
      refine ⟨nn, ⟨⟨0, _, rfl, rfl, .same nns⟩, ⟨1, _, rfl, rfl, cvFn1 rfl⟩, ⟨2, _, rfl, rfl, cvFn2 rfl rfl⟩, trivial⟩, rfl, ?_⟩
      rw [← hrt]
      ((conv => whnf); repeat ((first | refine AWp.many ?_ | refine AOps.many ?_ | refine ADr.go ?_); conv => whnf))
      exact .mk (k + 1) [(0, 0), (1, 1), (2, 2)] (by omega)
        (conv_mk _ rfl ⟨⟨0, _, rfl, rfl, .same nns⟩, ⟨1, _, rfl, rfl, cvFn1 rfl⟩, ⟨2, _, rfl, rfl, cvFn2 rfl rfl⟩, trivial⟩ ⟨⟨_, rfl, .same _ nn⟩, ⟨_, rfl, .ptr 2 2 0 0 rfl⟩, ⟨_, rfl, .same _ nn⟩, ⟨_, rfl, .same _ nn⟩, ⟨_, rfl, .w64 (by omega) ⟨by omega, by omega⟩⟩, trivial⟩) (by omega)
    · have hk' : k = ks.length := by have := kge h; omega
      ((conv => whnf); repeat ((first | refine AWp.many ?_ | refine AOps.many ?_ | refine ADr.go ?_); conv => whnf))
      refine fin_mk (n' := 3) (m' := wMD (resL g (ks.take k) (d + 1) (g n d))) [(0, 0), (1, 1), (2, 2)] rfl ⟨⟨0, _, rfl, rfl, .same nns⟩, ⟨1, _, rfl, rfl, cvFn1 rfl⟩, ⟨2, _, rfl, rfl, cvFn2 rfl rfl⟩, trivial⟩ (.same _ nn) ⟨rfl, ?_⟩
      rw [hk', List.take_length, resV]
  termination_by v => SizeOf.sizeOf v
  decreasing_by simp; have := List.sizeOf_lt_of_mem hm; omega
end Go.Proofs.YtfnhkfdjhmgjbaaGreatDoor

namespace Go.Proofs.YtfnhkfdjhmgjbaaGreatDoor
open Go Go.Ax Go.Proofs
set_option linter.unusedVariables false
set_option maxRecDepth 100000
set_option maxHeartbeats 4000000

section
variable {mem : Mem} {σ : List (Nat × Nat)}
theorem cvFn1R {F : FuncId} {i i' : Nat} (h : lk σ i = some i') : CvR mem σ [.fn (.func F) [] [.ptr i 0 0]] [.fn (.func F) [] [.ptr i' 0 0]] :=
  .cons (.one rfl rfl (.fn _ _ _ _ _ rfl rfl (by simp) (CvL.cons (.ptr i i' 0 0 h) .nil).2)) .nil
theorem cvFn2R {F : FuncId} {i j i' j' : Nat} (h : lk σ i = some i') (h' : lk σ j = some j') : CvR mem σ [.fn (.func F) [] [.ptr i 0 0, .ptr j 0 0]] [.fn (.func F) [] [.ptr i' 0 0, .ptr j' 0 0]] :=
  .cons (.one rfl rfl (.fn _ _ _ _ _ rfl rfl (by simp) (CvL.cons (.ptr i i' 0 0 h) (.cons (.ptr j j' 0 0 h') .nil)).2)) .nil
theorem cvFn3R {F : FuncId} {i j k i' j' k' : Nat} (h : lk σ i = some i') (h' : lk σ j = some j') (h'' : lk σ k = some k') : CvR mem σ [.fn (.func F) [] [.ptr i 0 0, .ptr j 0 0, .ptr k 0 0]] [.fn (.func F) [] [.ptr i' 0 0, .ptr j' 0 0, .ptr k' 0 0]] :=
  .cons (.one rfl rfl (.fn _ _ _ _ _ rfl rfl (by simp) (CvL.cons (.ptr i i' 0 0 h) (.cons (.ptr j j' 0 0 h') (.cons (.ptr k k' 0 0 h'') .nil))).2)) .nil
theorem cvF1 {F : FuncId} {i i' : Nat} (h : lk σ i = some i') : Cv mem σ (.fn (.func F) [] [.ptr i 0 0]) (.fn (.func F) [] [.ptr i' 0 0]) :=
  .fn _ _ _ _ _ rfl rfl (by simp) (CvL.cons (.ptr i i' 0 0 h) .nil).2
theorem cvF3 {F : FuncId} {i j k i' j' k' : Nat} (h : lk σ i = some i') (h' : lk σ j = some j') (h'' : lk σ k = some k') : Cv mem σ (.fn (.func F) [] [.ptr i 0 0, .ptr j 0 0, .ptr k 0 0]) (.fn (.func F) [] [.ptr i' 0 0, .ptr j' 0 0, .ptr k' 0 0]) :=
  .fn _ _ _ _ _ rfl rfl (by simp) (CvL.cons (.ptr i i' 0 0 h) (.cons (.ptr j j' 0 0 h') (.cons (.ptr k k' 0 0 h'') .nil))).2
end

theorem seeS : ∀ (v : Val) (d n : Nat), d ≤ 1099511627776 → n ≤ 4398046511104 → ACalls Tryz.prog [] 107 [encV v, .int .i64 d, .ptr 0 0 0] [(0, cI n)] 1 fun r m _ => r = .bool true ∧ m = [(0, cI (n + 1))]
  | .mk vk vn vs ks, d, n, hd, hn => by
    refine acalls_go nnΓ Tryz.func107 rfl ?_
    ((conv => whnf); repeat ((first | refine AWp.many ?_ | refine AOps.many ?_ | refine ADr.go ?_); conv => whnf))
    exact fin_mk (n' := 1) (m' := [(0, cI (n + 1))]) [(0, 0)] rfl ⟨⟨0, _, rfl, rfl, .cons (.one rfl rfl (.w64 (by omega) ⟨by omega, by omega⟩)) .nil⟩, trivial⟩ (.same _ nn) ⟨rfl, rfl⟩

theorem seeD : ∀ (v : Val) (d n : Nat), d ≤ 1099511627776 → n ≤ 4398046511104 → ACalls Tryz.prog [] 108 [encV v, .int .i64 d, .ptr 0 0 0] [(0, cI n)] 1 fun r m _ => r = .bool true ∧ m = [(0, cI (max n d))]
  | .mk vk vn vs ks, d, n, hd, hn => by
    refine acalls_go nnΓ Tryz.func108 rfl ?_
    ((conv => whnf); repeat ((first | refine AWp.many ?_ | refine AOps.many ?_ | refine ADr.go ?_); conv => whnf))
    exact fin_mk (n' := 1) (m' := [(0, cI (max n d))]) [(0, 0)] rfl ⟨⟨0, _, rfl, rfl, .cons (.one rfl rfl (.int (by simp; omega))) .nil⟩, trivial⟩ (.same _ nn) ⟨rfl, rfl⟩

theorem vVisitS : ∀ (v : Val) (n : Nat), 1 + depthV v ≤ 1099511627776 → max n (1 + depthV v) + sizeV v ≤ 4398046511104 →
      ACalls Tryz.prog [] 96 [encV v, .fn (.func 107) [] [.ptr 0 0 0]] [(0, cI n)] 1 fun r m _ => r = .tup [] ∧ m = [(0, cI (resV (fun n _ => n + 1) v 1 n))]
  | .mk vk vn vs ks, n, hd, hb => by
    have hw := visit1S (fun n _ => n + 1) (fun n d => by omega) seeS (.mk vk vn vs ks) 1 n hd hb
    generalize resV (fun n _ => n + 1) (.mk vk vn vs ks) 1 n = res at hw
    refine acalls_go nnΓ Tryz.func96 rfl ?_
    ((conv => whnf); repeat ((first | refine AWp.many ?_ | refine AOps.many ?_ | refine ADr.go ?_); conv => whnf))
    refine ACalls.useR nnΓ [(0, 0), (2, 1), (3, 2)] hw (by rfl) (.cons (.same _ nn) (.cons (.int rfl) (.cons (.ptr 2 1 0 0 rfl) (.cons (.ptr 3 2 0 0 rfl) .nil))))
      ⟨⟨0, _, rfl, rfl, .same nns⟩, ⟨2, _, rfl, rfl, cvFn1R rfl⟩, ⟨3, _, rfl, rfl, cvFn2R rfl rfl⟩, trivial⟩ rfl ?_
    rintro r m n' ⟨rfl, rfl⟩
    refine ⟨[(0, cI res)], nn, ⟨⟨0, _, rfl, rfl, .same nns⟩, trivial⟩, rfl, ?_⟩
    ((conv => whnf); repeat ((first | refine AWp.many ?_ | refine AOps.many ?_ | refine ADr.go ?_); conv => whnf))
    exact fin_mk (n' := 1) (m' := [(0, cI res)]) [(0, 0)] rfl ⟨⟨0, _, rfl, rfl, .same nns⟩, trivial⟩ (.same _ nn) ⟨rfl, rfl⟩

theorem vSize : ∀ v : Val, sizeV v ≤ 1048576 → PureC Tryz.prog [] 61 [encV v] (.int .i64 (sizeV v))
  | .mk vk vn vs ks, hs => by
    have hd := depth_le_size (.mk vk vn vs ks)
    have hw := vVisitS (.mk vk vn vs ks) 0 (by omega) (by omega)
    rw [show resV (fun n _ => n + 1) (.mk vk vn vs ks) 1 0 = sizeV (.mk vk vn vs ks) by rw [res_size]; omega] at hw
    generalize sizeV (.mk vk vn vs ks) = res at hw
    refine acalls_go nnΓ Tryz.func61 rfl ?_
    ((conv => whnf); repeat ((first | refine AWp.many ?_ | refine AOps.many ?_ | refine ADr.go ?_); conv => whnf))
    refine ACalls.useR nnΓ [(1, 0)] hw (by rfl) (.cons (.same _ nn) (.cons (cvF1 rfl) .nil)) ⟨⟨1, _, rfl, rfl, .same nns⟩, trivial⟩ rfl ?_
    rintro r m n' ⟨rfl, rfl⟩
    refine ⟨[(1, cI res)], nn, ⟨⟨0, _, rfl, rfl, .same nns⟩, trivial⟩, rfl, ?_⟩
    ((conv => whnf); repeat ((first | refine AWp.many ?_ | refine AOps.many ?_ | refine ADr.go ?_); conv => whnf))
    exact fin_pure nn ⟨rfl, rfl, rfl⟩

theorem vVisitD : ∀ (v : Val) (n : Nat), 1 + depthV v ≤ 1099511627776 → max n (1 + depthV v) + sizeV v ≤ 4398046511104 →
      ACalls Tryz.prog [] 96 [encV v, .fn (.func 108) [] [.ptr 0 0 0]] [(0, cI n)] 1 fun r m _ => r = .tup [] ∧ m = [(0, cI (resV (fun n d => max n d) v 1 n))]
  | .mk vk vn vs ks, n, hd, hb => by
    have hw := visit1D (fun n d => max n d) (fun n d => by omega) seeD (.mk vk vn vs ks) 1 n hd hb
    generalize resV (fun n d => max n d) (.mk vk vn vs ks) 1 n = res at hw
    refine acalls_go nnΓ Tryz.func96 rfl ?_
    ((conv => whnf); repeat ((first | refine AWp.many ?_ | refine AOps.many ?_ | refine ADr.go ?_); conv => whnf))
    refine ACalls.useR nnΓ [(0, 0), (2, 1), (3, 2)] hw (by rfl) (.cons (.same _ nn) (.cons (.int rfl) (.cons (.ptr 2 1 0 0 rfl) (.cons (.ptr 3 2 0 0 rfl) .nil))))
      ⟨⟨0, _, rfl, rfl, .same nns⟩, ⟨2, _, rfl, rfl, cvFn1R rfl⟩, ⟨3, _, rfl, rfl, cvFn2R rfl rfl⟩, trivial⟩ rfl ?_
    rintro r m n' ⟨rfl, rfl⟩
    refine ⟨[(0, cI res)], nn, ⟨⟨0, _, rfl, rfl, .same nns⟩, trivial⟩, rfl, ?_⟩
    ((conv => whnf); repeat ((first | refine AWp.many ?_ | refine AOps.many ?_ | refine ADr.go ?_); conv => whnf))
    exact fin_mk (n' := 1) (m' := [(0, cI res)]) [(0, 0)] rfl ⟨⟨0, _, rfl, rfl, .same nns⟩, trivial⟩ (.same _ nn) ⟨rfl, rfl⟩

theorem vDepth : ∀ v : Val, sizeV v ≤ 1048576 → PureC Tryz.prog [] 62 [encV v] (.int .i64 (depthV v))
  | .mk vk vn vs ks, hs => by
    have hd := depth_le_size (.mk vk vn vs ks)
    have hw := vVisitD (.mk vk vn vs ks) 0 (by omega) (by omega)
    rw [show resV (fun n d => max n d) (.mk vk vn vs ks) 1 0 = depthV (.mk vk vn vs ks) by rw [res_depth]; omega] at hw
    generalize depthV (.mk vk vn vs ks) = res at hw
    refine acalls_go nnΓ Tryz.func62 rfl ?_
    ((conv => whnf); repeat ((first | refine AWp.many ?_ | refine AOps.many ?_ | refine ADr.go ?_); conv => whnf))
    refine ACalls.useR nnΓ [(1, 0)] hw (by rfl) (.cons (.same _ nn) (.cons (cvF1 rfl) .nil)) ⟨⟨1, _, rfl, rfl, .same nns⟩, trivial⟩ rfl ?_
    rintro r m n' ⟨rfl, rfl⟩
    refine ⟨[(1, cI res)], nn, ⟨⟨0, _, rfl, rfl, .same nns⟩, trivial⟩, rfl, ?_⟩
    ((conv => whnf); repeat ((first | refine AWp.many ?_ | refine AOps.many ?_ | refine ADr.go ?_); conv => whnf))
    exact fin_pure nn ⟨rfl, rfl, rfl⟩


/-! ### 'Valid' -/
abbrev VS := Nat × Bool × Bool
def vC (x : VS) : Mem := [(0, cI x.1), (1, cB x.2.1), (2, cB x.2.2)]
def wV (x : VS) : Mem := [(0, cI x.1), (1, cB x.2.1), (2, cB x.2.2), (3, cF (.fn (.func 97) [] [.ptr 0 0 0, .ptr 1 0 0, .ptr 2 0 0])), (4, cF (.fn (.func 139) [] [.ptr 3 0 0, .ptr 4 0 0]))]

theorem seeV (vk vn : Int) (vs : List UInt8) (ks : List Val) (hs : vs.length ≤ 4294967296) (d : Nat) (x : VS) (hx : x.1 ≤ 4398046511104) :
    ACalls Tryz.prog [] 97 [encV (.mk vk vn vs ks), .int .i64 d, .ptr 0 0 0, .ptr 1 0 0, .ptr 2 0 0] (vC x) 3 fun r m _ => r = .bool (stValid x (.mk vk vn vs ks) d).1 ∧ m = vC (stValid x (.mk vk vn vs ks) d).2 := by
  obtain ⟨n, g, s⟩ := x
  have h1 := vFormed vk vn vs ks hs
  have h2 := vFits vk vn vs ks
  have hst : stValid (n, g, s) (.mk vk vn vs ks) d = (g && formed1 vk vn vs ks.length, (n + 1, g && formed1 vk vn vs ks.length, s && fits1 vk ks.length)) := rfl
  generalize formed1 vk vn vs ks.length = fb at h1 hst
  generalize fits1 vk ks.length = tb at h2 hst
  rw [hst]
  simp only at hx
  refine acalls_go nnΓ Tryz.func97 rfl ?_
  cases g <;> cases s
  all_goals
    ((conv => whnf); repeat ((first | refine AWp.many ?_ | refine AOps.many ?_ | refine ADr.go ?_); conv => whnf))
    try (refine h1.go ?_; ((conv => whnf); repeat ((first | refine AWp.many ?_ | refine AOps.many ?_ | refine ADr.go ?_); conv => whnf)))
    try (refine h2.go ?_; ((conv => whnf); repeat ((first | refine AWp.many ?_ | refine AOps.many ?_ | refine ADr.go ?_); conv => whnf)))
    exact fin_mk (n' := 3) (m' := vC (n + 1, _, _)) [(0, 0), (1, 1), (2, 2)] rfl ⟨⟨0, _, rfl, rfl, .cons (.one rfl rfl (.w64 (by omega) ⟨by omega, by omega⟩)) .nil⟩, ⟨1, _, rfl, rfl, .same nns⟩, ⟨2, _, rfl, rfl, .same nns⟩, trivial⟩ (.same _ nn) ⟨rfl, rfl⟩

theorem visitV : ∀ (v : Val) (d : Nat) (x : VS), okV v → d + depthV v ≤ 1099511627776 → x.1 + sizeV v ≤ 4398046511104 →
      ACalls Tryz.prog [] 139 [encV v, .int .i64 d, .ptr 3 0 0, .ptr 4 0 0] (wV x) 5 fun r m _ => r = .bool (visS stValid v d x).1 ∧ m = wV (visS stValid v d x).2
  | .mk vk vn vs ks, d, x, hok, hd, hb => by
    simp only [okV] at hok
    obtain ⟨hv1, hv2, hv3, hv4, hv5⟩ := hok
    have ih : ∀ a ∈ ks, ∀ (d : Nat) (x : VS), d + depthV a ≤ 1099511627776 → x.1 + sizeV a ≤ 4398046511104 → ACalls Tryz.prog [] 139 [encV a, .int .i64 d, .ptr 3 0 0, .ptr 4 0 0] (wV x) 5 fun r m _ => r = .bool (visS stValid a d x).1 ∧ m = wV (visS stValid a d x).2 :=
      fun a hm d x h1 h2 => visitV a d x (okVs_mem hv5 a hm) h1 h2
    simp only [depthV, sizeV] at hd hb
    have hlen := sizeL_len ks
    have hsee := seeV vk vn vs ks hv3 d x (by omega)
    have hy1 : (stValid x (.mk vk vn vs ks) d).2.1 = x.1 + 1 := rfl
    generalize hst0 : stValid x (.mk vk vn vs ks) d = st at hsee hy1
    obtain ⟨b, y⟩ := st
    simp only at hy1
    refine acalls_go nnΓ Tryz.func139 rfl ?_
    ((conv => whnf); repeat ((first | refine AWp.many ?_ | refine AOps.many ?_ | refine ADr.go ?_); conv => whnf))
    refine ACalls.useI nnΓ [0, 1, 2] hsee (by rfl) (.cons (.same _ nn) (.cons (.same _ nn) (.cons (.ptr 0 0 0 0 rfl) (.cons (.ptr 1 1 0 0 rfl) (.cons (.ptr 2 2 0 0 rfl) .nil))))) ⟨⟨0, _, rfl, rfl, .same nns⟩, ⟨1, _, rfl, rfl, .same nns⟩, ⟨2, _, rfl, rfl, .same nns⟩, trivial⟩ rfl ?_
    rintro r m n' ⟨rfl, rfl⟩
    refine ⟨nn, ⟨⟨0, _, rfl, rfl, .same nns⟩, ⟨1, _, rfl, rfl, .same nns⟩, ⟨2, _, rfl, rfl, .same nns⟩, trivial⟩, rfl, ?_⟩
    cases b with
    | false =>
      ((conv => whnf); repeat ((first | refine AWp.many ?_ | refine AOps.many ?_ | refine ADr.go ?_); conv => whnf))
      refine fin_mk (n' := 5) (m' := wV y) [(0, 0), (1, 1), (2, 2), (3, 3), (4, 4)] rfl ⟨⟨0, _, rfl, rfl, .same nns⟩, ⟨1, _, rfl, rfl, .same nns⟩, ⟨2, _, rfl, rfl, .same nns⟩, ⟨3, _, rfl, rfl, cvFn3 rfl rfl rfl⟩, ⟨4, _, rfl, rfl, cvFn2 rfl rfl⟩, trivial⟩ (.same _ nn) ?_
      have hvis : visS stValid (.mk vk vn vs ks) d x = (false, y) := by rw [visS, hst0]
      rw [hvis]
      exact ⟨rfl, rfl⟩
    | true =>
      have hvis : visS stValid (.mk vk vn vs ks) d x = visL stValid ks (d + 1) y := by rw [visS, hst0]
      ((conv => whnf); repeat ((first | refine AWp.many ?_ | refine AOps.many ?_ | refine ADr.go ?_); conv => whnf))
      refine ALoop.at nnΓ (fun a : Nat × VS => a.1 ≤ ks.length ∧ visL stValid (ks.take a.1) (d + 1) y = (true, a.2))
        (fun a => ⟨[(1, .int .i64 d), (3, .ptr 4 0 0), (15, .il 4 (encVs ks)), (16, .int .i64 (encVs ks).length), (17, .int .i64 a.1)], wV a.2, 5, 28⟩)
        (fun a => ks.length - a.1) (0, y) [(0, 0), (1, 1), (2, 2), (3, 3), (4, 4)] ⟨by simp, rfl⟩
        (conv_mk _ rfl ⟨⟨0, _, rfl, rfl, .same nns⟩, ⟨1, _, rfl, rfl, .same nns⟩, ⟨2, _, rfl, rfl, .same nns⟩, ⟨3, _, rfl, rfl, cvFn3 rfl rfl rfl⟩, ⟨4, _, rfl, rfl, cvFn2 rfl rfl⟩, trivial⟩ ⟨⟨_, rfl, .same _ nn⟩, ⟨_, rfl, .ptr 4 4 0 0 rfl⟩, ⟨_, rfl, .same _ nn⟩, ⟨_, rfl, .same _ nn⟩, ⟨_, rfl, .same _ nn⟩, trivial⟩) ?_
      rintro ⟨k, z⟩ ⟨hk, hz⟩
      simp only at hk hz
      have hcnt := visL_cnt (ks.take k) (d + 1) y
      rw [hz] at hcnt
      simp only at hcnt
      ((conv => whnf); repeat ((first | refine AWp.many ?_ | refine AOps.many ?_ | refine ADr.go ?_); conv => whnf))
      refine bcs_mk (fun h => ?_) (fun h => ?_)
      · have hlt : k < ks.length := klt h
        obtain ⟨a, b, c, e, hm, hg', he, e1⟩ := enc_cases hlt
        have hst := sizeL_take hlt
        rw [he] at hst
        have hst' := sizeL_take_le ks (k + 1)
        have hdm := depthL_mem hm
        have hnext := visL_take stValid hlt (d + 1) y z hz
        rw [he] at hnext
        have hb2 : z.1 + sizeV (.mk a b c e) ≤ 4398046511104 := by omega
        have hih := ih _ hm (d + 1) z (by omega) hb2
        generalize visS stValid (.mk a b c e) (d + 1) z = st2 at hih hnext
        obtain ⟨b2, z2⟩ := st2
        ((conv => whnf); repeat ((first | refine AWp.many ?_ | refine AOps.many ?_ | refine ADr.go ?_); conv => whnf))
        refine opt_mk e1 ?_
        ((conv => whnf); repeat ((first | refine AWp.many ?_ | refine AOps.many ?_ | refine ADr.go ?_); conv => whnf))
        rw [w64 (x := (d : Int) + 1) (y := ((d + 1 : Nat) : Int)) (by omega) ⟨by omega, by omega⟩]
        refine ACalls.useI nnΓ [0, 1, 2, 3, 4] hih (by rfl) (.cons (.same _ nn) (.cons (.same _ nn) (.cons (.ptr 3 3 0 0 rfl) (.cons (.ptr 4 4 0 0 rfl) .nil))))
          ⟨⟨0, _, rfl, rfl, .same nns⟩, ⟨1, _, rfl, rfl, .same nns⟩, ⟨2, _, rfl, rfl, .same nns⟩, ⟨3, _, rfl, rfl, cvFn3 rfl rfl rfl⟩, ⟨4, _, rfl, rfl, cvFn2 rfl rfl⟩, trivial⟩ rfl ?_
        rintro r m n' ⟨rfl, rfl⟩
        refine ⟨nn, ⟨⟨0, _, rfl, rfl, .same nns⟩, ⟨1, _, rfl, rfl, .same nns⟩, ⟨2, _, rfl, rfl, .same nns⟩, ⟨3, _, rfl, rfl, cvFn3 rfl rfl rfl⟩, ⟨4, _, rfl, rfl, cvFn2 rfl rfl⟩, trivial⟩, rfl, ?_⟩
        cases b2 with
        | false =>
          ((conv => whnf); repeat ((first | refine AWp.many ?_ | refine AOps.many ?_ | refine ADr.go ?_); conv => whnf))
          refine fin_mk (n' := 5) (m' := wV z2) [(0, 0), (1, 1), (2, 2), (3, 3), (4, 4)] rfl ⟨⟨0, _, rfl, rfl, .same nns⟩, ⟨1, _, rfl, rfl, .same nns⟩, ⟨2, _, rfl, rfl, .same nns⟩, ⟨3, _, rfl, rfl, cvFn3 rfl rfl rfl⟩, ⟨4, _, rfl, rfl, cvFn2 rfl rfl⟩, trivial⟩ (.same _ nn) ?_
          have := visL_stop stValid (m := ks.drop (k + 1)) hnext
          rw [List.take_append_drop] at this
          rw [hvis, this]
          exact ⟨rfl, rfl⟩
        | true =>
          ((conv => whnf); repeat ((first | refine AWp.many ?_ | refine AOps.many ?_ | refine ADr.go ?_); conv => whnf))
          exact .mk (k + 1, z2) [(0, 0), (1, 1), (2, 2), (3, 3), (4, 4)] ⟨by simp only; omega, hnext⟩
            (conv_mk _ rfl ⟨⟨0, _, rfl, rfl, .same nns⟩, ⟨1, _, rfl, rfl, .same nns⟩, ⟨2, _, rfl, rfl, .same nns⟩, ⟨3, _, rfl, rfl, cvFn3 rfl rfl rfl⟩, ⟨4, _, rfl, rfl, cvFn2 rfl rfl⟩, trivial⟩ ⟨⟨_, rfl, .same _ nn⟩, ⟨_, rfl, .ptr 4 4 0 0 rfl⟩, ⟨_, rfl, .same _ nn⟩, ⟨_, rfl, .same _ nn⟩, ⟨_, rfl, .w64 (by omega) ⟨by omega, by omega⟩⟩, trivial⟩) (by simp only; omega)
      · have hk' : k = ks.length := by have := kge h; omega
        ((conv => whnf); repeat ((first | refine AWp.many ?_ | refine AOps.many ?_ | refine ADr.go ?_); conv => whnf))
        refine fin_mk (n' := 5) (m' := wV z) [(0, 0), (1, 1), (2, 2), (3, 3), (4, 4)] rfl ⟨⟨0, _, rfl, rfl, .same nns⟩, ⟨1, _, rfl, rfl, .same nns⟩, ⟨2, _, rfl, rfl, .same nns⟩, ⟨3, _, rfl, rfl, cvFn3 rfl rfl rfl⟩, ⟨4, _, rfl, rfl, cvFn2 rfl rfl⟩, trivial⟩ (.same _ nn) ?_
        rw [hk', List.take_length] at hz
        rw [hvis, hz]
        exact ⟨rfl, rfl⟩
  termination_by v => SizeOf.sizeOf v
  decreasing_by simp; have := List.sizeOf_lt_of_mem hm; omega

theorem vVisitV : ∀ (v : Val) (x : VS), okV v → 1 + depthV v ≤ 1099511627776 → x.1 + sizeV v ≤ 4398046511104 →
      ACalls Tryz.prog [] 96 [encV v, .fn (.func 97) [] [.ptr 0 0 0, .ptr 1 0 0, .ptr 2 0 0]] (vC x) 3 fun r m _ => r = .tup [] ∧ m = vC (visS stValid v 1 x).2
  | .mk vk vn vs ks, x, hok, hd, hb => by
    have hw := visitV (.mk vk vn vs ks) 1 x hok hd hb
    generalize visS stValid (.mk vk vn vs ks) 1 x = st at hw
    obtain ⟨b, y⟩ := st
    refine acalls_go nnΓ Tryz.func96 rfl ?_
    ((conv => whnf); repeat ((first | refine AWp.many ?_ | refine AOps.many ?_ | refine ADr.go ?_); conv => whnf))
    refine ACalls.useR nnΓ [(0, 0), (1, 1), (2, 2), (4, 3), (5, 4)] hw (by rfl) (.cons (.same _ nn) (.cons (.int rfl) (.cons (.ptr 4 3 0 0 rfl) (.cons (.ptr 5 4 0 0 rfl) .nil))))
      ⟨⟨0, _, rfl, rfl, .same nns⟩, ⟨1, _, rfl, rfl, .same nns⟩, ⟨2, _, rfl, rfl, .same nns⟩, ⟨4, _, rfl, rfl, cvFn3R rfl rfl rfl⟩, ⟨5, _, rfl, rfl, cvFn2R rfl rfl⟩, trivial⟩ rfl ?_
    rintro r m n' ⟨rfl, rfl⟩
    refine ⟨[(0, cI y.1), (1, cB y.2.1), (2, cB y.2.2)], nn, ⟨⟨0, _, rfl, rfl, .same nns⟩, ⟨1, _, rfl, rfl, .same nns⟩, ⟨2, _, rfl, rfl, .same nns⟩, trivial⟩, rfl, ?_⟩
    ((conv => whnf); repeat ((first | refine AWp.many ?_ | refine AOps.many ?_ | refine ADr.go ?_); conv => whnf))
    exact fin_mk (n' := 3) (m' := vC y) [(0, 0), (1, 1), (2, 2)] rfl ⟨⟨0, _, rfl, rfl, .same nns⟩, ⟨1, _, rfl, rfl, .same nns⟩, ⟨2, _, rfl, rfl, .same nns⟩, trivial⟩ (.same _ nn) ⟨rfl, rfl⟩

/-- 'values.Valid'. -/
theorem vValid : ∀ v : Val, okV v → sizeV v ≤ 1048576 → PureC Tryz.prog [] 53 [encV v] (.int .i64 (validV v))
  | .mk vk vn vs ks, hok, hs => by
    have hd := depth_le_size (.mk vk vn vs ks)
    have hw := vVisitV (.mk vk vn vs ks) (0, true, true) hok (by omega) (by simp only; omega)
    have hval := valid_vis (.mk vk vn vs ks)
    generalize validV (.mk vk vn vs ks) = res at hval
    generalize (visS stValid (.mk vk vn vs ks) 1 (0, true, true)).2 = y at hw hval
    obtain ⟨n, g, s⟩ := y
    simp only at hval
    refine acalls_go nnΓ Tryz.func53 rfl ?_
    ((conv => whnf); repeat ((first | refine AWp.many ?_ | refine AOps.many ?_ | refine ADr.go ?_); conv => whnf))
    refine ACalls.useR nnΓ [(1, 0), (2, 1), (3, 2)] hw (by rfl) (.cons (.same _ nn) (.cons (cvF3 rfl rfl rfl) .nil)) ⟨⟨1, _, rfl, rfl, .same nns⟩, ⟨2, _, rfl, rfl, .same nns⟩, ⟨3, _, rfl, rfl, .same nns⟩, trivial⟩ rfl ?_
    rintro r m n' ⟨rfl, rfl⟩
    refine ⟨[(1, cI n), (2, cB g), (3, cB s)], nn, ⟨⟨0, _, rfl, rfl, .same nns⟩, ⟨1, _, rfl, rfl, .same nns⟩, ⟨2, _, rfl, rfl, .same nns⟩, trivial⟩, rfl, ?_⟩
    cases g with
    | false =>
      ((conv => whnf); repeat ((first | refine AWp.many ?_ | refine AOps.many ?_ | refine ADr.go ?_); conv => whnf))
      refine fin_pure nn ⟨?_, rfl, rfl⟩
      rw [← hval]; rfl
    | true =>
      cases s with
      | false =>
        ((conv => whnf); repeat ((first | refine AWp.many ?_ | refine AOps.many ?_ | refine ADr.go ?_); conv => whnf))
        refine fin_pure nn ⟨?_, rfl, rfl⟩
        rw [← hval]; simp
      | true =>
        ((conv => whnf); repeat ((first | refine AWp.many ?_ | refine AOps.many ?_ | refine ADr.go ?_); conv => whnf))
        refine bcs_mk (fun h => ?_) (fun h => ?_)
        · ((conv => whnf); repeat ((first | refine AWp.many ?_ | refine AOps.many ?_ | refine ADr.go ?_); conv => whnf))
          refine fin_pure nn ⟨?_, rfl, rfl⟩
          rw [← hval, if_neg (by simp), if_pos (by simp at h; omega)]
        · ((conv => whnf); repeat ((first | refine AWp.many ?_ | refine AOps.many ?_ | refine ADr.go ?_); conv => whnf))
          refine fin_pure nn ⟨?_, rfl, rfl⟩
          rw [← hval, if_neg (by simp), if_neg (by simp at h; simp; omega)]
end Go.Proofs.YtfnhkfdjhmgjbaaGreatDoor

namespace Go.Proofs.YtfnhkfdjhmgjbaaGreatDoor
open Go Go.Ax Go.Proofs
set_option linter.unusedVariables false
set_option maxRecDepth 100000
set_option maxHeartbeats 4000000

/-- 'refuterref10.Decimal'. -/
theorem rDecimal (n : Int) (hn : i64 n) : PureC Tryz.prog [] 46 [.int .i64 n] (.str (Lib.itoa n)) := by
  unfold i64 at hn
  refine acalls_go nnΓ Tryz.func46 rfl ?_
  by_cases h0 : n = 0
  · subst h0
    rw [itoa_zero]
    ((conv => whnf); repeat ((first | refine AWp.many ?_ | refine AOps.many ?_ | refine ADr.go ?_); conv => whnf))
    exact fin_pure nn ⟨rfl, rfl, rfl⟩
  have e0 : (n == 0) = false := by simpa using h0
  ((conv => whnf); repeat ((first | refine AWp.many ?_ | refine AOps.many ?_ | refine ADr.go ?_); conv => whnf))
  rw [e0]
  ((conv => whnf); repeat ((first | refine AWp.many ?_ | refine AOps.many ?_ | refine ADr.go ?_); conv => whnf))
  refine ALoop.at nnΓ (fun a : Int × List UInt8 => a.1.natAbs ≤ n.natAbs ∧ (a.1 = 0 ∨ (a.1 < 0 ↔ n < 0)) ∧ Lib.decDigits n.natAbs = decRest a.1.natAbs ++ a.2)
    (fun a => ⟨[(0, .int .i64 n), (3, .str a.2), (4, .int .i64 a.1)], [], 0, 31⟩) (fun a => a.1.natAbs) (n, []) [] ⟨Nat.le_refl _, .inr Iff.rfl, by simp [decRest, h0]⟩
    (conv_pure ⟨⟨_, rfl, .same _ nn⟩, ⟨_, rfl, .same _ nn⟩, ⟨_, rfl, .same _ nn⟩, trivial⟩) ?_
  rintro ⟨k, s⟩ ⟨hk1, hk2, hk3⟩
  simp only at hk1 hk2 hk3
  have hsl : s.length ≤ 20 := by
    have h1 := nDigits_le n.natAbs (by omega)
    rw [← Lib.decDigits_length, hk3, List.length_append] at h1
    omega
  by_cases hk0 : k = 0
  · subst hk0
    rw [show decRest (Int.natAbs 0) = [] from rfl, List.nil_append] at hk3
    ((conv => whnf); repeat ((first | refine AWp.many ?_ | refine AOps.many ?_ | refine ADr.go ?_); conv => whnf))
    refine bcs_mk (fun h => ?_) (fun h => ?_)
    · ((conv => whnf); repeat ((first | refine AWp.many ?_ | refine AOps.many ?_ | refine ADr.go ?_); conv => whnf))
      refine grd_mk (Nat.ble_eq_true_of_le (by simp; omega)) ?_
      ((conv => whnf); repeat ((first | refine AWp.many ?_ | refine AOps.many ?_ | refine ADr.go ?_); conv => whnf))
      refine fin_pure nn ⟨?_, rfl, rfl⟩
      rw [Lib.itoa, if_pos (by simpa using h), hk3]
      rfl
    · ((conv => whnf); repeat ((first | refine AWp.many ?_ | refine AOps.many ?_ | refine ADr.go ?_); conv => whnf))
      refine fin_pure nn ⟨?_, rfl, rfl⟩
      have h' : ¬ n < 0 := by simpa using h
      have e : n.toNat = n.natAbs := by omega
      rw [Lib.itoa, if_neg h', e, hk3]
  · have e1 : (k == 0) = false := by simpa using hk0
    ((conv => whnf); repeat ((first | refine AWp.many ?_ | refine AOps.many ?_ | refine ADr.go ?_); conv => whnf))
    rw [show ((k, s).fst != 0) = true by simpa using hk0]
    have hq := Int.mul_tdiv_add_tmod k 10
    have hkq : k.tdiv 10 = if 0 ≤ k then ((k.natAbs / 10 : Nat) : Int) else -((k.natAbs / 10 : Nat) : Int) := by
      split
      · rw [Int.tdiv_eq_ediv_of_nonneg (by assumption)]; omega
      · obtain ⟨q, rfl⟩ : ∃ q : Nat, k = -(q : Int) := ⟨k.natAbs, by omega⟩
        rw [Int.neg_tdiv, Int.tdiv_eq_ediv_of_nonneg (by omega)]; simp
    have hkm : (k.tmod 10).natAbs = k.natAbs % 10 := by split at hkq <;> omega
    have hkb : (k.tdiv 10).natAbs = k.natAbs / 10 := by split at hkq <;> omega
    have hstep := decRest_step (k := k.natAbs) (by omega)
    have hfin : ∀ d : Int, d = ((k.natAbs % 10 : Nat) : Int) → UInt8.ofNat (IntKind.u8.wrap (IntKind.i64.wrap (48 + d))).toNat = UInt8.ofNat (48 + k.natAbs % 10) := by
      intro d hd
      have e1 : IntKind.i64.wrap (48 + d) = 48 + d := wrap64 ⟨by omega, by omega⟩
      have e2 : IntKind.u8.wrap (48 + d) = 48 + d := IntWalk.u8_in _ ⟨by omega, by omega⟩
      rw [e1, e2, hd]
      congr 1
    have hnext : ∀ b : UInt8, b = UInt8.ofNat (48 + k.natAbs % 10) → (fun a : Int × List UInt8 => a.1.natAbs ≤ n.natAbs ∧ (a.1 = 0 ∨ (a.1 < 0 ↔ n < 0)) ∧ Lib.decDigits n.natAbs = decRest a.1.natAbs ++ a.2) (k.tdiv 10, b :: s) := by
      intro b hb
      refine ⟨by simp only; omega, ?_, ?_⟩
      · simp only
        split at hkq <;> omega
      · simp only
        rw [hk3, hstep, hkb, hb]
        simp
    have hb : i64 (k.tdiv 10) := by
      unfold i64
      split at hkq <;> omega
    ((conv => whnf); repeat ((first | refine AWp.many ?_ | refine AOps.many ?_ | refine ADr.go ?_); conv => whnf))
    refine bcs_mk (fun h => ?_) (fun h => ?_)
    · have h' : k.tmod 10 < 0 := by simpa using h
      have e1 : IntKind.i64.wrap (0 - k.tmod 10) = ((k.natAbs % 10 : Nat) : Int) := by rw [wrap64 ⟨by omega, by omega⟩]; omega
      ((conv => whnf); repeat ((first | refine AWp.many ?_ | refine AOps.many ?_ | refine ADr.go ?_); conv => whnf))
      refine grd_mk (Nat.ble_eq_true_of_le (by simp; omega)) ?_
      ((conv => whnf); repeat ((first | refine AWp.many ?_ | refine AOps.many ?_ | refine ADr.go ?_); conv => whnf))
      exact .mk (k.tdiv 10, _ :: s) [] (hnext _ (hfin _ e1)) (conv_pure ⟨⟨_, rfl, .same _ nn⟩, ⟨_, rfl, .same _ nn⟩, ⟨_, rfl, .int (wrap64 hb)⟩, trivial⟩) (by simp only; omega)
    · have h' : ¬ k.tmod 10 < 0 := by simpa using h
      have e1 : k.tmod 10 = ((k.natAbs % 10 : Nat) : Int) := by omega
      ((conv => whnf); repeat ((first | refine AWp.many ?_ | refine AOps.many ?_ | refine ADr.go ?_); conv => whnf))
      refine grd_mk (Nat.ble_eq_true_of_le (by simp; omega)) ?_
      ((conv => whnf); repeat ((first | refine AWp.many ?_ | refine AOps.many ?_ | refine ADr.go ?_); conv => whnf))
      exact .mk (k.tdiv 10, _ :: s) [] (hnext _ (hfin _ e1)) (conv_pure ⟨⟨_, rfl, .same _ nn⟩, ⟨_, rfl, .same _ nn⟩, ⟨_, rfl, .int (wrap64 hb)⟩, trivial⟩) (by simp only; omega)
end Go.Proofs.YtfnhkfdjhmgjbaaGreatDoor

namespace Go.Proofs.YtfnhkfdjhmgjbaaGreatDoor
open Go Go.Ax Go.Proofs
set_option linter.unusedVariables false
set_option maxRecDepth 100000
set_option maxHeartbeats 8000000

theorem dOptions (x : Nd) (hx : OptN x) : PureC Tryz.prog [] 42 [.ip (encN x)] (.int .i64 (optsN x)) := by
  have hr := hx.rng
  unfold optsN
  obtain ⟨kind, name, lo, hi, ws, ls, vals, kids, ⟨vk, vn, vs, vks⟩⟩ := x
  simp only at hr ⊢
  have e1 : IntKind.i64.wrap (hi - lo) = hi - lo := wrap64 ⟨by omega, by omega⟩
  have e2 : IntKind.i64.wrap (hi - lo + 1) = hi - lo + 1 := wrap64 ⟨by omega, by omega⟩
  refine acalls_go nnΓ Tryz.func42 rfl ?_
  ((conv => whnf); repeat ((first | refine AWp.many ?_ | refine AOps.many ?_ | refine ADr.go ?_); conv => whnf))
  refine bcs_mk (fun h => ?_) (fun h => ?_)
  · have h1 : kind = 1 := by simpa using h
    rw [if_pos h1]
    ((conv => whnf); repeat ((first | refine AWp.many ?_ | refine AOps.many ?_ | refine ADr.go ?_); conv => whnf))
    repeat (refine ⟨rfl, ?_⟩; ((conv => whnf); repeat ((first | refine AWp.many ?_ | refine AOps.many ?_ | refine ADr.go ?_); conv => whnf)))
    rw [e1, e2]
    exact fin_pure nn ⟨rfl, rfl, rfl⟩
  · have h1 : ¬ kind = 1 := by simpa using h
    rw [if_neg h1]
    ((conv => whnf); repeat ((first | refine AWp.many ?_ | refine AOps.many ?_ | refine ADr.go ?_); conv => whnf))
    refine bcs_mk (fun h => ?_) (fun h => ?_)
    · have h2 : kind = 2 := by simpa using h
      rw [if_pos h2]
      ((conv => whnf); repeat ((first | refine AWp.many ?_ | refine AOps.many ?_ | refine ADr.go ?_); conv => whnf))
      rw [encI_length]
      exact fin_pure nn ⟨rfl, rfl, rfl⟩
    · have h2 : ¬ kind = 2 := by simpa using h
      rw [if_neg h2]
      ((conv => whnf); repeat ((first | refine AWp.many ?_ | refine AOps.many ?_ | refine ADr.go ?_); conv => whnf))
      exact fin_pure nn ⟨rfl, rfl, rfl⟩

theorem rOptions14 (x : Nd) (hx : OptN x) (hk : x.kind = 1 ∨ x.kind = 2) : PureC Tryz.prog [] 90 [encN x] (.int .i64 (optsN x)) := by
  have hr := hx.rng
  unfold optsN
  obtain ⟨kind, name, lo, hi, ws, ls, vals, kids, ⟨vk, vn, vs, vks⟩⟩ := x
  simp only at hr hk ⊢
  have e1 : IntKind.i64.wrap (hi - lo) = hi - lo := wrap64 ⟨by omega, by omega⟩
  have e2 : IntKind.i64.wrap (hi - lo + 1) = hi - lo + 1 := wrap64 ⟨by omega, by omega⟩
  refine acalls_go nnΓ Tryz.func90 rfl ?_
  rcases hk with rfl | rfl
  · ((conv => whnf); repeat ((first | refine AWp.many ?_ | refine AOps.many ?_ | refine ADr.go ?_); conv => whnf))
    rw [e1, e2]
    exact fin_pure nn ⟨rfl, rfl, rfl⟩
  · ((conv => whnf); repeat ((first | refine AWp.many ?_ | refine AOps.many ?_ | refine ADr.go ?_); conv => whnf))
    rw [encI_length]
    exact fin_pure nn ⟨rfl, rfl, rfl⟩

theorem rOptions31 (x : Nd) (hx : OptN x) : PureC Tryz.prog [] 44 [encN x] (.int .i64 (optsN x)) := by
  have hO := rOptions14 x hx
  have hxn := encN_nn x
  have h0 : ¬ (x.kind = 1 ∨ x.kind = 2) → optsN x = 0 := fun h => by unfold optsN; rw [if_neg (by omega), if_neg (by omega)]
  generalize optsN x = o at hO h0 ⊢
  obtain ⟨kind, name, lo, hi, ws, ls, vals, kids, ⟨vk, vn, vs, vks⟩⟩ := x
  simp only at hO h0
  refine acalls_go nnΓ Tryz.func44 rfl ?_
  ((conv => whnf); repeat ((first | refine AWp.many ?_ | refine AOps.many ?_ | refine ADr.go ?_); conv => whnf))
  by_cases k1 : kind = 1
  · have hO := hO (.inl k1)
    subst k1
    ((conv => whnf); repeat ((first | refine AWp.many ?_ | refine AOps.many ?_ | refine ADr.go ?_); conv => whnf))
    refine hO.go ?_ (.cons hxn .nil)
    ((conv => whnf); repeat ((first | refine AWp.many ?_ | refine AOps.many ?_ | refine ADr.go ?_); conv => whnf))
    exact fin_pure nn ⟨rfl, rfl, rfl⟩
  · have d1 : (kind == 1) = false := by simpa using k1
    rw [d1]
    ((conv => whnf); repeat ((first | refine AWp.many ?_ | refine AOps.many ?_ | refine ADr.go ?_); conv => whnf))
    by_cases k2 : kind = 2
    · have hO := hO (.inr k2)
      subst k2
      ((conv => whnf); repeat ((first | refine AWp.many ?_ | refine AOps.many ?_ | refine ADr.go ?_); conv => whnf))
      refine hO.go ?_ (.cons hxn .nil)
      ((conv => whnf); repeat ((first | refine AWp.many ?_ | refine AOps.many ?_ | refine ADr.go ?_); conv => whnf))
      exact fin_pure nn ⟨rfl, rfl, rfl⟩
    · have d2 : (kind == 2) = false := by simpa using k2
      rw [d2]
      ((conv => whnf); repeat ((first | refine AWp.many ?_ | refine AOps.many ?_ | refine ADr.go ?_); conv => whnf))
      rw [h0 (by omega)]
      exact fin_pure nn ⟨rfl, rfl, rfl⟩

theorem encS_cases {l : List (List UInt8)} {k : Nat} (h : k < l.length) : (encS l)[((k : Nat) : Int).toNat]? = some (.str l[k]) := by simp [encS_get, List.getElem?_eq_getElem h]

theorem sIndex (l : List (List UInt8)) (s : List UInt8) (hl : l.length ≤ 4294967296) : PureC Tryz.prog [] 87 [.il 1 (encS l), .str s] (.int .i64 (idxS l s)) := by
  refine acalls_go nnΓ Tryz.func87 rfl ?_
  ((conv => whnf); repeat ((first | refine AWp.many ?_ | refine AOps.many ?_ | refine ADr.go ?_); conv => whnf))
  refine ALoop.at nnΓ (fun i : Nat => i ≤ l.length ∧ idxS l s = idxFrom s (l.drop i) i) (fun i => ⟨[(0, .il 1 (encS l)), (1, .str s), (7, .int .i64 l.length), (8, .int .i64 i)], [], 0, 19⟩) (fun i => l.length - i) 0 [] ⟨by simp, by simp [idxS]⟩
    (conv_pure ⟨⟨_, rfl, .same _ (.il' (encS_nn _))⟩, ⟨_, rfl, .same _ nn⟩, ⟨_, rfl, .int (by rw [encS_length])⟩, ⟨_, rfl, .same _ nn⟩, trivial⟩) ?_
  rintro i ⟨hi, hx⟩
  ((conv => whnf); repeat ((first | refine AWp.many ?_ | refine AOps.many ?_ | refine ADr.go ?_); conv => whnf))
  refine bcs_mk (fun h => ?_) (fun h => ?_)
  · have hil : i < l.length := by simpa using h
    have ei := encS_cases hil
    rw [List.drop_eq_getElem_cons hil, idxFrom] at hx
    generalize l[i] = t at ei hx
    ((conv => whnf); repeat ((first | refine AWp.many ?_ | refine AOps.many ?_ | refine ADr.go ?_); conv => whnf))
    refine opt_mk ei ?_
    ((conv => whnf); repeat ((first | refine AWp.many ?_ | refine AOps.many ?_ | refine ADr.go ?_); conv => whnf))
    refine bcs_mk (fun h2 => ?_) (fun h2 => ?_)
    · have e : s = t := by simpa using h2
      rw [if_pos e.symm] at hx
      rw [hx]
      ((conv => whnf); repeat ((first | refine AWp.many ?_ | refine AOps.many ?_ | refine ADr.go ?_); conv => whnf))
      exact fin_pure nn ⟨rfl, rfl, rfl⟩
    · have e : ¬ s = t := by simpa using h2
      rw [if_neg fun h => e h.symm] at hx
      ((conv => whnf); repeat ((first | refine AWp.many ?_ | refine AOps.many ?_ | refine ADr.go ?_); conv => whnf))
      exact .mk (i + 1) [] ⟨by omega, hx⟩ (conv_pure ⟨⟨_, rfl, .same _ (.il' (encS_nn _))⟩, ⟨_, rfl, .same _ nn⟩, ⟨_, rfl, .same _ nn⟩, ⟨_, rfl, .w64 (by omega) ⟨by omega, by omega⟩⟩, trivial⟩) (by omega)
  · have hil : i = l.length := by simp at h; omega
    rw [hil, List.drop_length, idxFrom] at hx
    rw [hx]
    ((conv => whnf); repeat ((first | refine AWp.many ?_ | refine AOps.many ?_ | refine ADr.go ?_); conv => whnf))
    exact fin_pure nn ⟨rfl, rfl, rfl⟩

theorem rFirst (l : List (List UInt8)) (s : List UInt8) (hl : l.length ≤ 4294967296) : PureC Tryz.prog [] 45 [.il 1 (encS l), .str s] (.int .i64 (idxS l s)) := by
  refine acalls_go nnΓ Tryz.func45 rfl ?_
  ((conv => whnf); repeat ((first | refine AWp.many ?_ | refine AOps.many ?_ | refine ADr.go ?_); conv => whnf))
  refine ALoop.at nnΓ (fun i : Nat => i ≤ l.length ∧ idxS l s = idxFrom s (l.drop i) i) (fun i => ⟨[(0, .il 1 (encS l)), (1, .str s), (5, .int .i64 i)], [], 0, 19⟩) (fun i => l.length - i) 0 [] ⟨by simp, by simp [idxS]⟩
    (conv_pure ⟨⟨_, rfl, .same _ (.il' (encS_nn _))⟩, ⟨_, rfl, .same _ nn⟩, ⟨_, rfl, .same _ nn⟩, trivial⟩) ?_
  rintro i ⟨hi, hx⟩
  ((conv => whnf); repeat ((first | refine AWp.many ?_ | refine AOps.many ?_ | refine ADr.go ?_); conv => whnf))
  refine bcs_mk (fun h => ?_) (fun h => ?_)
  · have hil : i < l.length := by rw [encS_length] at h; simpa using h
    have ei := encS_cases hil
    rw [List.drop_eq_getElem_cons hil, idxFrom] at hx
    generalize l[i] = t at ei hx
    ((conv => whnf); repeat ((first | refine AWp.many ?_ | refine AOps.many ?_ | refine ADr.go ?_); conv => whnf))
    refine opt_mk ei ?_
    ((conv => whnf); repeat ((first | refine AWp.many ?_ | refine AOps.many ?_ | refine ADr.go ?_); conv => whnf))
    refine bcs_mk (fun h2 => ?_) (fun h2 => ?_)
    · have e : t = s := by simpa using h2
      rw [if_pos e] at hx
      rw [hx]
      ((conv => whnf); repeat ((first | refine AWp.many ?_ | refine AOps.many ?_ | refine ADr.go ?_); conv => whnf))
      exact fin_pure nn ⟨rfl, rfl, rfl⟩
    · have e : ¬ t = s := by simpa using h2
      rw [if_neg e] at hx
      ((conv => whnf); repeat ((first | refine AWp.many ?_ | refine AOps.many ?_ | refine ADr.go ?_); conv => whnf))
      exact .mk (i + 1) [] ⟨by omega, hx⟩ (conv_pure ⟨⟨_, rfl, .same _ (.il' (encS_nn _))⟩, ⟨_, rfl, .same _ nn⟩, ⟨_, rfl, .w64 (by omega) ⟨by omega, by omega⟩⟩, trivial⟩) (by omega)
  · have hil : i = l.length := by rw [encS_length] at h; simp at h; omega
    rw [hil, List.drop_length, idxFrom] at hx
    rw [hx]
    ((conv => whnf); repeat ((first | refine AWp.many ?_ | refine AOps.many ?_ | refine ADr.go ?_); conv => whnf))
    exact fin_pure nn ⟨rfl, rfl, rfl⟩
end Go.Proofs.YtfnhkfdjhmgjbaaGreatDoor

namespace Go.Proofs.YtfnhkfdjhmgjbaaGreatDoor
open Go Go.Ax Go.Proofs
set_option linter.unusedVariables false
set_option maxRecDepth 100000
set_option maxHeartbeats 8000000

theorem intL_of {s : List UInt8} {n : Int} (hn : i64 n) : Lib.itoa n = s → intL s = some n := fun h => by
  unfold intL
  rw [← h, atoi_itoa hn]
  simp

/-- 'diff.counterpart'. -/
theorem dCount (a b : Nd) (k : Nat) (ha : OptN a) (hb : OptN b) (hk : (k : Int) < optsN a) (hab : a.kind = 1 ∧ b.kind = 2 ∨ a.kind = 2 ∧ b.kind = 1 ∨ a.kind = 2 ∧ b.kind = 2) (hll : ∀ s ∈ a.labels, s.length ≤ 4294967296) (hbl : b.labels.length ≤ 1000) :
    PureC Tryz.prog gz 43 [.ip (encN a), .ip (encN b), .int .i64 k] (.tup [.int .i64 (cntR a b k).1, .bool (cntR a b k).2]) := by
  have har := ha.rng
  have hbr := hb.rng
  have hao := optsN_bound ha
  have hach := ha.ch
  have hakl := ha.klen
  have hko : a.kind = 2 → k < a.kids.length := fun h => by unfold optsN at hk; rw [if_neg (by omega), if_pos h] at hk; omega
  have hI := sIndex b.labels
  unfold cntR
  obtain ⟨kind, name, lo, hi, ws, ls, vals, kids, ⟨vk, vn, vs, vks⟩⟩ := a
  obtain ⟨kind', name', lo', hi', ws', ls', vals', kids', ⟨vk', vn', vs', vks'⟩⟩ := b
  simp only at har hbr hach hakl hko hI hll hbl hab ⊢
  refine acalls_go nngz Tryz.func43 rfl ?_
  rcases hab with ⟨rfl, rfl⟩ | ⟨rfl, rfl⟩ | ⟨rfl, rfl⟩
  · have hw : IntKind.i64.wrap (lo + (k : Int)) = lo + k := wrap64 ⟨by omega, by omega⟩
    have hIt := sItoa (lo + k) ⟨by omega, by omega⟩
    have hX := hI (Lib.itoa (lo + k)) (by omega)
    simp only [if_true]
    generalize Lib.itoa (lo + k) = z at hIt hX ⊢
    generalize idxS ls' z = q at hX ⊢
    ((conv => whnf); repeat ((first | refine AWp.many ?_ | refine AOps.many ?_ | refine ADr.go ?_); conv => whnf))
    rw [hw]
    refine hIt.use nngz nns nn ?_
    ((conv => whnf); repeat ((first | refine AWp.many ?_ | refine AOps.many ?_ | refine ADr.go ?_); conv => whnf))
    repeat (refine ⟨rfl, ?_⟩; ((conv => whnf); repeat ((first | refine AWp.many ?_ | refine AOps.many ?_ | refine ADr.go ?_); conv => whnf)))
    refine hX.goG ?_ (.cons (.il' (encS_nn _)) nns)
    ((conv => whnf); repeat ((first | refine AWp.many ?_ | refine AOps.many ?_ | refine ADr.go ?_); conv => whnf))
    repeat (refine ⟨rfl, ?_⟩; ((conv => whnf); repeat ((first | refine AWp.many ?_ | refine AOps.many ?_ | refine ADr.go ?_); conv => whnf)))
    exact fin_pure nn ⟨rfl, rfl, rfl⟩
  · rw [if_neg (by omega), if_pos rfl]
    by_cases l0 : ls.length = 0
    · rw [if_pos l0]
      obtain rfl : ls = [] := List.length_eq_zero_iff.1 l0
      ((conv => whnf); repeat ((first | refine AWp.many ?_ | refine AOps.many ?_ | refine ADr.go ?_); conv => whnf))
      exact fin_pure nn ⟨rfl, rfl, rfl⟩
    · rw [if_neg l0]
      have hll2 : ls.length = kids.length := by rcases (hach rfl).2 with h | h; exact absurd h l0; exact h
      have hkl : k < ls.length := by have := hko rfl; omega
      have ek := encS_cases hkl
      have d0 : (((encS ls).length : Int) == 0) = false := by rw [encS_length, beq_eq_false_iff_ne]; omega
      have hgd : ls.getD k [] = ls[k] := by rw [List.getD_eq_getElem?_getD, List.getElem?_eq_getElem hkl]; rfl
      have hsl := hll _ (List.getElem_mem hkl)
      rw [hgd]
      generalize ls[k] = s at ek hsl ⊢
      obtain ⟨n, e, hn, he, hA, hok⟩ := sAtoi s hsl
      have hIt := sItoa n hn
      ((conv => whnf); repeat ((first | refine AWp.many ?_ | refine AOps.many ?_ | refine ADr.go ?_); conv => whnf))
      rw [d0]
      ((conv => whnf); repeat ((first | refine AWp.many ?_ | refine AOps.many ?_ | refine ADr.go ?_); conv => whnf))
      refine opt_mk ek ?_
      ((conv => whnf); repeat ((first | refine AWp.many ?_ | refine AOps.many ?_ | refine ADr.go ?_); conv => whnf))
      refine hA.use nngz nns (by rcases he with rfl | rfl <;> exact nn) ?_
      have hnone : (∀ m, Lib.atoiAll s = .ok m → Lib.itoa m ≠ s) → intL s = none := by
        intro h
        unfold intL
        split
        · rename_i m hm; rw [if_neg (h m hm)]
        · rfl
      rcases he with rfl | rfl
      · by_cases hq : Lib.itoa n = s
        · rw [intL_of hn hq]
          simp only
          have hne : (s == s) = true := by simp
          rw [hq] at hIt
          ((conv => whnf); repeat ((first | refine AWp.many ?_ | refine AOps.many ?_ | refine ADr.go ?_); conv => whnf))
          repeat (first | (refine ⟨rfl, ?_⟩; ((conv => whnf); repeat ((first | refine AWp.many ?_ | refine AOps.many ?_ | refine ADr.go ?_); conv => whnf))) | (refine opt_mk ek ?_; ((conv => whnf); repeat ((first | refine AWp.many ?_ | refine AOps.many ?_ | refine ADr.go ?_); conv => whnf))))
          refine hIt.use nngz nns nn ?_
          ((conv => whnf); repeat ((first | refine AWp.many ?_ | refine AOps.many ?_ | refine ADr.go ?_); conv => whnf))
          repeat (first | (refine ⟨rfl, ?_⟩; ((conv => whnf); repeat ((first | refine AWp.many ?_ | refine AOps.many ?_ | refine ADr.go ?_); conv => whnf))) | (refine opt_mk ek ?_; ((conv => whnf); repeat ((first | refine AWp.many ?_ | refine AOps.many ?_ | refine ADr.go ?_); conv => whnf))))
          rw [hne]
          ((conv => whnf); repeat ((first | refine AWp.many ?_ | refine AOps.many ?_ | refine ADr.go ?_); conv => whnf))
          repeat (first | (refine ⟨rfl, ?_⟩; ((conv => whnf); repeat ((first | refine AWp.many ?_ | refine AOps.many ?_ | refine ADr.go ?_); conv => whnf))) | (refine opt_mk ek ?_; ((conv => whnf); repeat ((first | refine AWp.many ?_ | refine AOps.many ?_ | refine ADr.go ?_); conv => whnf))))
          refine bcs_mk (fun h1 => ?_) (fun h1 => ?_)
          · have h2 : n < lo' := by simpa using h1
            rw [if_pos (.inl h2)]
            rw [h1]
            ((conv => whnf); repeat ((first | refine AWp.many ?_ | refine AOps.many ?_ | refine ADr.go ?_); conv => whnf))
            repeat (first | (refine ⟨rfl, ?_⟩; ((conv => whnf); repeat ((first | refine AWp.many ?_ | refine AOps.many ?_ | refine ADr.go ?_); conv => whnf))) | (refine opt_mk ek ?_; ((conv => whnf); repeat ((first | refine AWp.many ?_ | refine AOps.many ?_ | refine ADr.go ?_); conv => whnf))))
            exact fin_pure nn ⟨rfl, rfl, rfl⟩
          · have h2 : ¬ n < lo' := by simpa using h1
            rw [h1]
            ((conv => whnf); repeat ((first | refine AWp.many ?_ | refine AOps.many ?_ | refine ADr.go ?_); conv => whnf))
            repeat (first | (refine ⟨rfl, ?_⟩; ((conv => whnf); repeat ((first | refine AWp.many ?_ | refine AOps.many ?_ | refine ADr.go ?_); conv => whnf))) | (refine opt_mk ek ?_; ((conv => whnf); repeat ((first | refine AWp.many ?_ | refine AOps.many ?_ | refine ADr.go ?_); conv => whnf))))
            refine bcs_mk (fun h3 => ?_) (fun h3 => ?_)
            · have h4 : hi' < n := by simpa using h3
              rw [if_pos (.inr h4)]
              ((conv => whnf); repeat ((first | refine AWp.many ?_ | refine AOps.many ?_ | refine ADr.go ?_); conv => whnf))
              exact fin_pure nn ⟨rfl, rfl, rfl⟩
            · have h4 : ¬ hi' < n := by simpa using h3
              rw [if_neg (by omega)]
              ((conv => whnf); repeat ((first | refine AWp.many ?_ | refine AOps.many ?_ | refine ADr.go ?_); conv => whnf))
              rw [wrap64 (n := n - lo') ⟨by omega, by omega⟩]
              exact fin_pure nn ⟨rfl, rfl, rfl⟩
        · rw [hnone fun m hm => by obtain ⟨rfl, _⟩ := hok m hm; exact hq]
          simp only
          have hne : (Lib.itoa n == s) = false := by simpa using hq
          generalize Lib.itoa n = z at hIt hne
          ((conv => whnf); repeat ((first | refine AWp.many ?_ | refine AOps.many ?_ | refine ADr.go ?_); conv => whnf))
          repeat (first | (refine ⟨rfl, ?_⟩; ((conv => whnf); repeat ((first | refine AWp.many ?_ | refine AOps.many ?_ | refine ADr.go ?_); conv => whnf))) | (refine opt_mk ek ?_; ((conv => whnf); repeat ((first | refine AWp.many ?_ | refine AOps.many ?_ | refine ADr.go ?_); conv => whnf))))
          refine hIt.use nngz nns nn ?_
          ((conv => whnf); repeat ((first | refine AWp.many ?_ | refine AOps.many ?_ | refine ADr.go ?_); conv => whnf))
          repeat (first | (refine ⟨rfl, ?_⟩; ((conv => whnf); repeat ((first | refine AWp.many ?_ | refine AOps.many ?_ | refine ADr.go ?_); conv => whnf))) | (refine opt_mk ek ?_; ((conv => whnf); repeat ((first | refine AWp.many ?_ | refine AOps.many ?_ | refine ADr.go ?_); conv => whnf))))
          rw [hne]
          ((conv => whnf); repeat ((first | refine AWp.many ?_ | refine AOps.many ?_ | refine ADr.go ?_); conv => whnf))
          repeat (first | (refine ⟨rfl, ?_⟩; ((conv => whnf); repeat ((first | refine AWp.many ?_ | refine AOps.many ?_ | refine ADr.go ?_); conv => whnf))) | (refine opt_mk ek ?_; ((conv => whnf); repeat ((first | refine AWp.many ?_ | refine AOps.many ?_ | refine ADr.go ?_); conv => whnf))))
          exact fin_pure nn ⟨rfl, rfl, rfl⟩
      · rw [hnone fun m hm => by have := (hok m hm).2; simp at this]
        simp only
        ((conv => whnf); repeat ((first | refine AWp.many ?_ | refine AOps.many ?_ | refine ADr.go ?_); conv => whnf))
        repeat (first | (refine ⟨rfl, ?_⟩; ((conv => whnf); repeat ((first | refine AWp.many ?_ | refine AOps.many ?_ | refine ADr.go ?_); conv => whnf))) | (refine opt_mk ek ?_; ((conv => whnf); repeat ((first | refine AWp.many ?_ | refine AOps.many ?_ | refine ADr.go ?_); conv => whnf))))
        exact fin_pure nn ⟨rfl, rfl, rfl⟩
  · rw [if_neg (by omega), if_neg (by omega)]
    have eb0 : ∀ l : List (List UInt8), l.length ≠ 0 → (((encS l).length : Int) == 0) = false := fun l h => by rw [encS_length, beq_eq_false_iff_ne]; omega
    have hkid : (decide ((k : Int) < ((encI kids').length : Nat))) = decide (k < kids'.length) := by rw [encI_length, Bool.eq_iff_iff]; simp
    by_cases l0 : ls.length = 0
    · rw [if_pos (.inl l0)]
      obtain rfl : ls = [] := List.length_eq_zero_iff.1 l0
      ((conv => whnf); repeat ((first | refine AWp.many ?_ | refine AOps.many ?_ | refine ADr.go ?_); conv => whnf))
      rw [hkid]
      exact fin_pure nn ⟨rfl, rfl, rfl⟩
    · have d0 := eb0 ls l0
      have hll2 : ls.length = kids.length := by rcases (hach rfl).2 with h | h; exact absurd h l0; exact h
      have hkl : k < ls.length := by have := hko rfl; omega
      have ek := encS_cases hkl
      have hgd : ls.getD k [] = ls[k] := by rw [List.getD_eq_getElem?_getD, List.getElem?_eq_getElem hkl]; rfl
      rw [hgd]
      generalize ls[k] = s at ek ⊢
      by_cases l1 : ls'.length = 0
      · rw [if_pos (.inr l1)]
        obtain rfl : ls' = [] := List.length_eq_zero_iff.1 l1
        ((conv => whnf); repeat ((first | refine AWp.many ?_ | refine AOps.many ?_ | refine ADr.go ?_); conv => whnf))
        rw [d0]
        ((conv => whnf); repeat ((first | refine AWp.many ?_ | refine AOps.many ?_ | refine ADr.go ?_); conv => whnf))
        rw [hkid]
        exact fin_pure nn ⟨rfl, rfl, rfl⟩
      · rw [if_neg (by omega)]
        have d1 := eb0 ls' l1
        have hX := hI s (by omega)
        generalize idxS ls' s = q at hX ⊢
        ((conv => whnf); repeat ((first | refine AWp.many ?_ | refine AOps.many ?_ | refine ADr.go ?_); conv => whnf))
        rw [d0]
        ((conv => whnf); repeat ((first | refine AWp.many ?_ | refine AOps.many ?_ | refine ADr.go ?_); conv => whnf))
        rw [d1]
        ((conv => whnf); repeat ((first | refine AWp.many ?_ | refine AOps.many ?_ | refine ADr.go ?_); conv => whnf))
        by_cases k1 : k < ls'.length
        · have ek' := encS_cases k1
          have hgd' : ls'.getD k [] = ls'[k] := by rw [List.getD_eq_getElem?_getD, List.getElem?_eq_getElem k1]; rfl
          rw [hgd']
          generalize ls'[k] = s' at ek' ⊢
          have dk : decide ((k : Int) < ((encS ls').length : Nat)) = true := by rw [encS_length]; simp; omega
          rw [dk]
          ((conv => whnf); repeat ((first | refine AWp.many ?_ | refine AOps.many ?_ | refine ADr.go ?_); conv => whnf))
          repeat (first | (refine ⟨rfl, ?_⟩; ((conv => whnf); repeat ((first | refine AWp.many ?_ | refine AOps.many ?_ | refine ADr.go ?_); conv => whnf))) | (refine opt_mk ek ?_; ((conv => whnf); repeat ((first | refine AWp.many ?_ | refine AOps.many ?_ | refine ADr.go ?_); conv => whnf))) | (refine opt_mk ek' ?_; ((conv => whnf); repeat ((first | refine AWp.many ?_ | refine AOps.many ?_ | refine ADr.go ?_); conv => whnf))))
          refine bcs_mk (fun h1 => ?_) (fun h1 => ?_)
          · have h2 : s' = s := by simpa using h1
            rw [if_pos ⟨k1, h2⟩]
            ((conv => whnf); repeat ((first | refine AWp.many ?_ | refine AOps.many ?_ | refine ADr.go ?_); conv => whnf))
            exact fin_pure nn ⟨rfl, rfl, rfl⟩
          · have h2 : ¬ s' = s := by simpa using h1
            rw [if_neg fun h => h2 h.2]
            ((conv => whnf); repeat ((first | refine AWp.many ?_ | refine AOps.many ?_ | refine ADr.go ?_); conv => whnf))
            repeat (first | (refine ⟨rfl, ?_⟩; ((conv => whnf); repeat ((first | refine AWp.many ?_ | refine AOps.many ?_ | refine ADr.go ?_); conv => whnf))) | (refine opt_mk ek ?_; ((conv => whnf); repeat ((first | refine AWp.many ?_ | refine AOps.many ?_ | refine ADr.go ?_); conv => whnf))) | (refine opt_mk ek' ?_; ((conv => whnf); repeat ((first | refine AWp.many ?_ | refine AOps.many ?_ | refine ADr.go ?_); conv => whnf))))
            refine hX.goG ?_ (.cons (.il' (encS_nn _)) nns)
            ((conv => whnf); repeat ((first | refine AWp.many ?_ | refine AOps.many ?_ | refine ADr.go ?_); conv => whnf))
            repeat (first | (refine ⟨rfl, ?_⟩; ((conv => whnf); repeat ((first | refine AWp.many ?_ | refine AOps.many ?_ | refine ADr.go ?_); conv => whnf))) | (refine opt_mk ek ?_; ((conv => whnf); repeat ((first | refine AWp.many ?_ | refine AOps.many ?_ | refine ADr.go ?_); conv => whnf))) | (refine opt_mk ek' ?_; ((conv => whnf); repeat ((first | refine AWp.many ?_ | refine AOps.many ?_ | refine ADr.go ?_); conv => whnf))))
            exact fin_pure nn ⟨rfl, rfl, rfl⟩
        · have dk : decide ((k : Int) < ((encS ls').length : Nat)) = false := by rw [encS_length]; simp; omega
          rw [dk, if_neg fun h => k1 h.1]
          ((conv => whnf); repeat ((first | refine AWp.many ?_ | refine AOps.many ?_ | refine ADr.go ?_); conv => whnf))
          repeat (first | (refine ⟨rfl, ?_⟩; ((conv => whnf); repeat ((first | refine AWp.many ?_ | refine AOps.many ?_ | refine ADr.go ?_); conv => whnf))) | (refine opt_mk ek ?_; ((conv => whnf); repeat ((first | refine AWp.many ?_ | refine AOps.many ?_ | refine ADr.go ?_); conv => whnf))))
          refine hX.goG ?_ (.cons (.il' (encS_nn _)) nns)
          ((conv => whnf); repeat ((first | refine AWp.many ?_ | refine AOps.many ?_ | refine ADr.go ?_); conv => whnf))
          repeat (first | (refine ⟨rfl, ?_⟩; ((conv => whnf); repeat ((first | refine AWp.many ?_ | refine AOps.many ?_ | refine ADr.go ?_); conv => whnf))) | (refine opt_mk ek ?_; ((conv => whnf); repeat ((first | refine AWp.many ?_ | refine AOps.many ?_ | refine ADr.go ?_); conv => whnf))))
          exact fin_pure nn ⟨rfl, rfl, rfl⟩
end Go.Proofs.YtfnhkfdjhmgjbaaGreatDoor

namespace Go.Proofs.YtfnhkfdjhmgjbaaGreatDoor
open Go Go.Ax Go.Proofs
set_option linter.unusedVariables false
set_option maxRecDepth 100000
set_option maxHeartbeats 8000000

theorem cvIp {mem : Mem} {id : Nat} {x : Nd} (h : lk mem id = some (.row 35 12 [encN x])) : Cv mem [] (.ptr id 0 0) (.ip (encN x)) := by
  refine .fzp id 0 0 _ _ _ (encN x) _ h rfl rfl (by omega) (fun k c c' h1 h2 => ?_)
  rw [Nat.zero_add] at h1
  rw [h1] at h2
  cases h2
  exact .same _ ((encN_nn x).cells.get k c h1)

theorem scTup2 {n : Int} {b : Bool} : Sc (.tup [.int .i64 n, .bool b]) := .tup _ fun j c h => by
  match j, h with
  | 0, h => simp at h; subst h; exact .int _ _
  | 1, h => simp at h; subst h; exact .bool _
  | j + 2, h => simp at h

/-- 'diff.Option'. -/
theorem dOption (a b : Nd) (k : Int) (hk : i64 k) (ha : OptN a) (hb : OptN b) (hll : ∀ s ∈ a.labels, s.length ≤ 4294967296) (hbl : b.labels.length ≤ 1000) :
    PureC Tryz.prog gz 12 [encN a, encN b, .int .i64 k] (.tup [.int .i64 (optR a b k).1, .bool (optR a b k).2]) := by
  have har := ha.rng
  have hbr := hb.rng
  have hOa := dOptions a ha
  have hOb := dOptions b hb
  have hob := optsN_bound hb
  have hoa := optsN_bound ha
  have hC := fun hk2 hab => dCount a b k.toNat ha hb hk2 hab hll hbl
  have hna := encN_nn a
  have hnb := encN_nn b
  have eo : (optR a b k) = if k < 0 ∨ optsN a ≤ k ∨ optsN b = 0 then (0, false)
    else if a.kind = 1 ∧ b.kind = 1 then (min (max (a.lo + k) b.lo) b.hi - b.lo, decide (min (max (a.lo + k) b.lo) b.hi = a.lo + k))
    else if (cntR a b k.toNat).2 = true then ((cntR a b k.toNat).1, true) else (min k (optsN b - 1), false) := rfl
  have hka : optsN a ≠ 0 → a.kind = 1 ∨ a.kind = 2 := fun h => by
    unfold optsN at h
    split at h
    · omega
    · split at h
      · omega
      · exact absurd rfl h
  have hkb : optsN b ≠ 0 → b.kind = 1 ∨ b.kind = 2 := fun h => by
    unfold optsN at h
    split at h
    · omega
    · split at h
      · omega
      · exact absurd rfl h
  have hxa : a.kind = 1 → optsN a = a.hi - a.lo + 1 := fun h => by unfold optsN; rw [if_pos h]
  rw [eo]
  generalize cntR a b k.toNat = cr at hC ⊢
  generalize optsN a = oa at hOa hoa hC hka hxa ⊢
  generalize optsN b = ob at hOb hob hkb ⊢
  obtain ⟨ca, cb⟩ := cr
  have hfin : ∀ (r1 : Int) (r2 : Bool) (x : Int × Bool) (mem : Mem) (n : Nat), r1 = x.1 → r2 = x.2 → Fini 0 (fun r' m n => r' = AV.tup [.int .i64 x.1, .bool x.2] ∧ m = [] ∧ n = 0) (.tup [.int .i64 r1, .bool r2]) mem n := by
    rintro r1 r2 x mem n rfl rfl
    exact fin_pure nn ⟨rfl, rfl, rfl⟩
  refine acalls_go nngz Tryz.func12 rfl ?_
  obtain ⟨kind, name, lo, hi, ws, ls, vals, kids, ⟨vk, vn, vs, vks⟩⟩ := a
  obtain ⟨kind', name', lo', hi', ws', ls', vals', kids', ⟨vk', vn', vs', vks'⟩⟩ := b
  simp only at har hbr hka hkb hC hxa ⊢
  by_cases h0 : k < 0
  · rw [if_pos (.inl h0)]
    have d0 : decide (k < 0) = true := by simpa using h0
    ((conv => whnf); repeat ((first | refine AWp.many ?_ | refine AOps.many ?_ | refine ADr.go ?_); conv => whnf))
    rw [d0]
    ((conv => whnf); repeat ((first | refine AWp.many ?_ | refine AOps.many ?_ | refine ADr.go ?_); conv => whnf))
    exact fin_pure nn ⟨rfl, rfl, rfl⟩
  · have d0 : decide (k < 0) = false := by simpa using h0
    ((conv => whnf); repeat ((first | refine AWp.many ?_ | refine AOps.many ?_ | refine ADr.go ?_); conv => whnf))
    rw [d0]
    ((conv => whnf); repeat ((first | refine AWp.many ?_ | refine AOps.many ?_ | refine ADr.go ?_); conv => whnf))
    refine ACalls.lend nngz hOa.glob (.cons (cvIp rfl) .nil) ?_
    rintro r m n ⟨rfl, rfl, rfl⟩
    refine ⟨.int _ _, ?_⟩
    by_cases h1 : oa ≤ k
    · rw [if_pos (.inr (.inl h1))]
      have d1 : decide (k ≥ oa) = true := by simpa using h1
      ((conv => whnf); repeat ((first | refine AWp.many ?_ | refine AOps.many ?_ | refine ADr.go ?_); conv => whnf))
      rw [d1]
      ((conv => whnf); repeat ((first | refine AWp.many ?_ | refine AOps.many ?_ | refine ADr.go ?_); conv => whnf))
      exact fin_pure nn ⟨rfl, rfl, rfl⟩
    · have d1 : decide (k ≥ oa) = false := by simp; omega
      ((conv => whnf); repeat ((first | refine AWp.many ?_ | refine AOps.many ?_ | refine ADr.go ?_); conv => whnf))
      rw [d1]
      ((conv => whnf); repeat ((first | refine AWp.many ?_ | refine AOps.many ?_ | refine ADr.go ?_); conv => whnf))
      refine ACalls.lend nngz hOb.glob (.cons (cvIp rfl) .nil) ?_
      rintro r m n ⟨rfl, rfl, rfl⟩
      refine ⟨.int _ _, ?_⟩
      by_cases h2 : ob = 0
      · rw [if_pos (.inr (.inr h2))]
        subst h2
        ((conv => whnf); repeat ((first | refine AWp.many ?_ | refine AOps.many ?_ | refine ADr.go ?_); conv => whnf))
        exact fin_pure nn ⟨rfl, rfl, rfl⟩
      · have d2 : (ob == 0) = false := by simpa using h2
        rw [if_neg (by omega)]
        ((conv => whnf); repeat ((first | refine AWp.many ?_ | refine AOps.many ?_ | refine ADr.go ?_); conv => whnf))
        rw [d2]
        have hka := hka (by omega)
        have hkb := hkb h2
        by_cases hrr : kind = 1 ∧ kind' = 1
        · rw [if_pos hrr]
          obtain ⟨rfl, rfl⟩ := hrr
          have hxa := hxa rfl
          have hw : IntKind.i64.wrap (lo + k) = lo + k := wrap64 ⟨by omega, by omega⟩
          have en : (if hi' < (if lo' > lo + k then lo' else lo + k) then hi' else if lo' > lo + k then lo' else lo + k) = min (max (lo + k) lo') hi' := by split <;> split <;> omega
          ((conv => whnf); repeat ((first | refine AWp.many ?_ | refine AOps.many ?_ | refine ADr.go ?_); conv => whnf))
          rw [hw]
          refine hfin _ _ _ _ _ ?_ ?_
          · simp only
            rw [en]
            exact wrap64 ⟨by omega, by omega⟩
          · simp only
            rw [en, Bool.eq_iff_iff]
            simp
        · rw [if_neg hrr]
          have hC := hC (by omega) (by omega)
          have hkk : ((k.toNat : Nat) : Int) = k := by omega
          rw [hkk] at hC
          rcases (show kind = 2 ∨ (kind = 1 ∧ kind' = 2) by omega) with rfl | ⟨rfl, rfl⟩
          · ((conv => whnf); repeat ((first | refine AWp.many ?_ | refine AOps.many ?_ | refine ADr.go ?_); conv => whnf))
            refine ACalls.lend nngz hC (.cons (cvIp rfl) (.cons (cvIp rfl) (.cons (.same _ nn) .nil))) ?_
            rintro r m n ⟨rfl, rfl, rfl⟩
            refine ⟨scTup2, ?_⟩
            cases cb with
            | true =>
              rw [if_pos rfl]
              ((conv => whnf); repeat ((first | refine AWp.many ?_ | refine AOps.many ?_ | refine ADr.go ?_); conv => whnf))
              exact fin_pure nn ⟨rfl, rfl, rfl⟩
            | false =>
              rw [if_neg (by simp)]
              ((conv => whnf); repeat ((first | refine AWp.many ?_ | refine AOps.many ?_ | refine ADr.go ?_); conv => whnf))
              refine ACalls.lend nngz hOb.glob (.cons (cvIp rfl) .nil) ?_
              rintro r m n ⟨rfl, rfl, rfl⟩
              refine ⟨.int _ _, ?_⟩
              have hwb : IntKind.i64.wrap (ob - 1) = ob - 1 := wrap64 ⟨by omega, by omega⟩
              ((conv => whnf); repeat ((first | refine AWp.many ?_ | refine AOps.many ?_ | refine ADr.go ?_); conv => whnf))
              rw [hwb]
              refine hfin _ _ _ _ _ ?_ rfl
              simp only
              split <;> omega
          · ((conv => whnf); repeat ((first | refine AWp.many ?_ | refine AOps.many ?_ | refine ADr.go ?_); conv => whnf))
            refine ACalls.lend nngz hC (.cons (cvIp rfl) (.cons (cvIp rfl) (.cons (.same _ nn) .nil))) ?_
            rintro r m n ⟨rfl, rfl, rfl⟩
            refine ⟨scTup2, ?_⟩
            cases cb with
            | true =>
              rw [if_pos rfl]
              ((conv => whnf); repeat ((first | refine AWp.many ?_ | refine AOps.many ?_ | refine ADr.go ?_); conv => whnf))
              exact fin_pure nn ⟨rfl, rfl, rfl⟩
            | false =>
              rw [if_neg (by simp)]
              ((conv => whnf); repeat ((first | refine AWp.many ?_ | refine AOps.many ?_ | refine ADr.go ?_); conv => whnf))
              refine ACalls.lend nngz hOb.glob (.cons (cvIp rfl) .nil) ?_
              rintro r m n ⟨rfl, rfl, rfl⟩
              refine ⟨.int _ _, ?_⟩
              have hwb : IntKind.i64.wrap (ob - 1) = ob - 1 := wrap64 ⟨by omega, by omega⟩
              ((conv => whnf); repeat ((first | refine AWp.many ?_ | refine AOps.many ?_ | refine ADr.go ?_); conv => whnf))
              rw [hwb]
              refine hfin _ _ _ _ _ ?_ rfl
              simp only
              split <;> omega
end Go.Proofs.YtfnhkfdjhmgjbaaGreatDoor
