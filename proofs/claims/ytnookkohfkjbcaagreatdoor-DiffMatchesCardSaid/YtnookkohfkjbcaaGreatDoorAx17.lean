/- For every input (two slices of integers and three integers), refuterlaw31.DiffMatches returns true, and its arguments read behind the call as they read before (the card DiffMatchesCardSaid, the full form). Conditions: the package-level variables that the row lists hold, when the call begins, what the program's text lays (the card ties them to it); no bound on sizes. -/
import Derived.Test.YtnookkohfkjbcaaGreatDoorAx16
import Derived.Test.YtnookkohfkjbcaaGreatDoorCards
import Derived.Test.YtnookkohfkjbcaaGreatDoorTie
import Derived.Lib.LaidIn
set_option linter.unusedVariables false
namespace Go.Proofs.YtnookkohfkjbcaaGreatDoor
open Go Go.Ax Go.Proofs
set_option maxRecDepth 100000 set_option linter.unusedSimpArgs false
set_option maxHeartbeats 16000000
theorem abcd_LB : ∀ s ∈ abcd, s ∈ LB := fun s hs => by unfold LB; exact List.mem_cons_of_mem _ (List.mem_append_right _ hs)
theorem fTree (l : List Int) (hl : ∀ x ∈ l, i64 x) {Γ : List (Nat × AV)} {mem : Mem} {nx : Nat} {K : AV → Mem → Nat → Prop} (hk : ∀ ns : List Nd, TreeOK ns → ns.length ≤ 14 → K (.agg [.il 12 (encNs ns)]) mem nx) : ACalls Tryz.prog Γ 6 [.il 1 (encI l)] mem nx K := by
 refine ACalls.goG0 (oTree l hl) ?_
 rintro r m n ⟨ns, hT, hlen, rfl, rfl, rfl⟩
 exact ⟨.agg [.il 12 (encNs ns)], .agg' (.cons (.fz' (id := 0) rfl rfl (by rw [encNs_length]; omega) (by rw [List.drop_zero]; exact List.take_of_length_le (by rw [encNs_length]; omega)) (encNs_nn _)) .nil), hk ns hT hlen⟩
theorem app_nil_i {n m : Nat} (h : m = n) (hl : n ≤ 17592186043904) : (Nat.ble (m * 8) 140737488355328 && Nat.ble m 9223372036854775807) = true := by
 subst h
 rw [Nat.ble_eq_true_of_le (by omega), Nat.ble_eq_true_of_le (by omega)]
 rfl
theorem rEdited (l : List Int) (at_ n : Int) (hl : ∀ x ∈ l, i64 x) (hlen : l.length ≤ 17592186043904) (hn : i64 n) : ACalls Tryz.prog [] 11 [.il 1 (encI l), .int .i64 at_, .int .i64 n] [] 0 fun r m k => ∃ ns : List Nd, TreeOK ns ∧ ns.length ≤ 14 ∧ r = .agg [.il 12 (encNs ns)] ∧ m = [] ∧ k = 0 := by
 refine acalls_go nnΓ Tryz.func11 rfl ?_
 have fin : ∀ (ns : List Nd), TreeOK ns → ns.length ≤ 14 → ∀ (mem : Mem) (nx : Nat), Fini 0 (fun r m k => ∃ ns : List Nd, TreeOK ns ∧ ns.length ≤ 14 ∧ r = .agg [.il 12 (encNs ns)] ∧ m = [] ∧ k = 0) (.agg [.il 12 (encNs ns)]) mem nx := fun ns h1 h2 mem nx =>
  fin_pure (.agg' (.cons (.il' (encNs_nn _)) .nil)) ⟨ns, h1, h2, rfl, rfl, rfl⟩
 ((conv=>whnf);repeat(refine Xg ?_;conv=>whnf))
 refine grd_mk (app_nil_i (encI_length l) hlen) ?_
 ((conv=>whnf);repeat(refine Xg ?_;conv=>whnf))
 by_cases h0 : l.length = 0
 ·rw [show decide (((encI l).length : Int) > 0) = false by rw [encI_length, decide_eq_false_iff_not]; omega]
  ((conv=>whnf);repeat(refine Xg ?_;conv=>whnf))
  refine ACalls.pre nnΓ (mem' := [(0, .row 25 1 [.agg [.nsl]])]) [(0, 0)] (by rfl) ⟨⟨0, _, rfl, rfl, .same (.cons nn .nil)⟩, trivial⟩ (.cons (.fz' (id := 1) (t := 3) (xs := encI l) rfl rfl (by simp) (by simp) (encI_nn l)) .nil) ?_
  refine fTree l hl fun ns hT hns => ?_
  ((conv=>whnf);repeat(refine Xg ?_;conv=>whnf))
  exact fin ns hT hns _ _
 ·rw [show decide (((encI l).length : Int) > 0) = true by rw [encI_length]; simp; omega]
  ((conv=>whnf);repeat(refine Xg ?_;conv=>whnf))
  refine ACalls.pre nnΓ (mem' := [(3, gB [at_] 0), (1, .row 3 1 (encI l)), (0, .row 25 1 [.agg [.nsl]])]) [(3, 3), (1, 1), (0, 0)] (by rfl)
   ⟨⟨3, _, rfl, rfl, .cons (.agg (.cons (.fz' (id := 2) (t := 3) (xs := encI [at_]) rfl rfl (by simp [encI]) (by simp [encI]) (encI_nn _)) (.cons (.same _ nn) .nil))) .nil⟩, ⟨1, _, rfl, rfl, .same (encI_nn _)⟩, ⟨0, _, rfl, rfl, .same (.cons nn .nil)⟩, trivial⟩ (.cons (.ptr 3 3 0 0 rfl) (.cons (.same _ nn) .nil)) ?_
  refine gNextAt 3 (l := [at_]) (i := 0) ((encI l).length : Nat) (by omega) (by rw [encI_length]; omega) (by rw [encI_length]; omega) rfl ?_
  intro k k0 k1
  rw [encI_length] at k1
  obtain ⟨k, rfl⟩ := Int.eq_ofNat_of_zero_le k0
  have e1 : (encI l)[0 + ((k : Nat) : Int).toNat]? = some (.int .i64 l[k]) := by simp [encI_get, List.getElem?_eq_getElem (show k < l.length by omega)]
  have g1 : Nat.blt ((k : Nat) : Int).toNat (encI l).length = true := Nat.ble_eq_true_of_le (by rw [encI_length]; simp; omega)
  have hset : (encI l).set (0 + ((k : Nat) : Int).toNat) (.int .i64 n) = encI (l.set k n) := by simp [encI, List.map_set]
  have hl' : ∀ x ∈ l.set k n, i64 x := fun x hx => by
   rcases List.mem_or_eq_of_mem_set hx with hx | rfl
   ·exact hl x hx
   ·exact hn
  generalize l[k] = o at e1
  ((conv=>whnf);repeat(refine Xg ?_;conv=>whnf))
  repeat ((first | refine grd_mk g1 ?_ | refine opt_mk e1 ?_ | refine setK_iff.2 ?_); ((conv=>whnf);repeat(refine Xg ?_;conv=>whnf)))
  rw [hset]
  refine ACalls.pre nnΓ (mem' := [(0, .row 25 1 [.agg [.nsl]])]) [(0, 0)] (by rfl) ⟨⟨0, _, rfl, rfl, .same (.cons nn .nil)⟩, trivial⟩ (.cons (.fz' (id := 1) (t := 3) (xs := encI (l.set k n)) rfl rfl (by simp [encI]) (by rw [List.drop_zero]; exact List.take_of_length_le (by simp [encI])) (encI_nn _)) .nil) ?_
  refine fTree (l.set k n) hl' fun ns hT hns => ?_
  ((conv=>whnf);repeat(refine Xg ?_;conv=>whnf))
  exact fin ns hT hns _ _
theorem cvr_set {mem : Mem} {σ : List (Nat × Nat)} {xs ys : List AV} {i : Nat} {x y : AV} (hs : CvR mem σ xs ys) (h : CvE mem σ x y) : CvR mem σ (xs.set i x) (ys.set i y) := by
 refine ⟨by simp; exact hs.1, fun j a b ha hb => ?_⟩
 rw [List.getElem?_set] at ha hb
 split at ha
 ·rename_i e
  rw [if_pos e] at hb
  split at ha
  ·split at hb
   ·cases ha; cases hb; exact h
   ·cases hb
  ·cases ha
 ·rename_i e
  rw [if_neg e] at hb
  exact hs.2 j a b ha hb
theorem cvn_set {mem : Mem} {X : Nd} {a b : AV} (j : Nat) (h : Cv mem [] a b) : CvE mem [] (.agg ((encN X).cells.set j a)) (.agg ((encN X).cells.set j b)) := by
 refine CvE.agg ⟨by simp, fun i c c' h1 h2 => ?_⟩
 rw [List.getElem?_set] at h1 h2
 split at h1
 ·rename_i e
  rw [if_pos e] at h2
  split at h1
  ·rename_i e2
   rw [if_pos e2] at h2
   cases h1; cases h2; exact h
  ·cases h1
 ·rename_i e
  rw [if_neg e] at h2
  rw [h1] at h2; cases h2
  exact (CvL.same (encN_nn X).cells).2 i c c h1 h1
theorem fz_all {mem : Mem} {id len : Nat} {t : TypeId} {sz : Nat} {xs ys : List AV} (h1 : lk mem id = some (.row t sz xs)) (e : len = xs.length) (h : xs = ys) (h5 : NNs ys) : Cv mem [] (.sl id 0 len) (.il sz ys) := by
 subst h e
 exact .fz' (id := id) h1 rfl (by omega) (by rw [List.drop_zero]; exact List.take_of_length_le (by omega)) h5
theorem i64_set0 {l : List Int} {n : Int} (h : ∀ w ∈ l, i64 w) (hn : i64 n) : ∀ w ∈ l.set 0 n, i64 w := fun w hw => by
 rcases List.mem_or_eq_of_mem_set hw with hw | rfl
 ·exact h w hw
 ·exact hn
theorem val_snoc {vs : List Val} {v : Val} (h : (∀ v ∈ vs, okV v ∧ sizeV v ≤ 4294967296) ∧ ∀ v ∈ vs, sizeV v ≤ 1048576) (hv : okV v ∧ sizeV v ≤ 1048576) : ∀ w ∈ vs ++ [v], okV w ∧ sizeV w ≤ 1048576 := fun w hw => by
 rcases List.mem_append.1 hw with hw | hw
 ·exact ⟨(h.1 w hw).1, h.2 w hw⟩
 ·simp at hw; rw [hw]; exact hv
theorem g0 (l : List Int) (h : ¬ l.length = 0) : ([] ++ encI l)[0 + Int.toNat 0]? = some (.int .i64 (l[0]'(by omega))) := by
 rw [List.nil_append, encI_get]
 show (l[0]?).map _ = _
 rw [List.getElem?_eq_getElem (by omega)]; rfl
theorem lab_snoc {ls : List (List UInt8)} (h : ∀ s ∈ ls, s ∈ LB) : ∀ s ∈ ls ++ [[120]], s ∈ LB := fun s hs => by
 rcases List.mem_append.1 hs with hs | hs
 ·exact h s hs
 ·simp at hs; rw [hs]; unfold LB; simp
theorem sp_leaf (k n : Int) (hk : i64 k) (hn : i64 n) : okV (.mk k n [] []) ∧ sizeV (.mk k n [] []) ≤ 1048576 := ⟨okV_list hk hn (by simp) (by simp) (by simp [okVs]), by simp [sizeV, sizeL]⟩
theorem rSpoilt (A : List Nd) (at_ how n : Int) (hA : ∀ x ∈ A, GenB x) (hl : A.length ≤ 14) (ha : i64 at_) (hh : i64 how) (hn : i64 n) : ACalls Tryz.prog [] 12 [.agg [.il 12 (encNs A)], .int .i64 at_, .int .i64 how, .int .i64 n] [] 0 fun r m k => ∃ ns : List Nd, (∀ x ∈ ns, SpN LB x) ∧ ns.length ≤ 14 ∧ r = .agg [.il 12 (encNs ns)] ∧ m = [] ∧ k = 0 := by
 have hS : ∀ x ∈ A, SpN LB x := fun x hx => spN_gen abcd_LB (hA x hx)
 have hlb : ∀ s ∈ LB, s.length ≤ 19 := fun s hs => LB_len hs
 refine acalls_go nnΓ Tryz.func12 rfl ?_
 ((conv=>whnf);repeat(refine Xg ?_;conv=>whnf))
 rw [encNs_length]
 refine grd_mk (app_nil rfl (by omega)) ?_
 ((conv=>whnf);repeat(refine Xg ?_;conv=>whnf))
 by_cases h0 : A.length = 0
 ·rw [show ((A.length : Int) == 0) = true by rw [h0]; rfl]
  ((conv=>whnf);repeat(refine Xg ?_;conv=>whnf))
  exact fin_cv (r' := .agg [.il 12 (encNs [])]) (.agg' (.cons (.fz' (id := 3) (t := 35) (xs := encNs A) rfl rfl (by rw [encNs_length]; omega) (by rw [h0]; rfl) .nil) .nil)) ⟨[], by simp, by simp, rfl, rfl, rfl⟩
 ·rw [show ((A.length : Int) == 0) = false by simp; intro h; exact h0 (by rw [h]; rfl)]
  have hAr := rAround at_ A.length ha (by omega)
  obtain ⟨b0, b1⟩ := aroundI_bound (n := at_) (most := (A.length : Int)) (by omega)
  have hHo := rAround how 10 hh (by omega)
  obtain ⟨c0, c1⟩ := aroundI_bound (n := how) (most := 10) (by omega)
  generalize aroundI at_ A.length = i at hAr b0 b1
  generalize aroundI how 10 = c at hHo c0 c1
  obtain ⟨i, rfl⟩ := Int.eq_ofNat_of_zero_le b0
  have hil : i < A.length := by omega
  obtain ⟨x, hx1, hx2, ex, bx⟩ := encN_own (l := A) (k := i) (n := A.length) hil rfl
  have hX := hS x (List.mem_of_getElem? hx1)
  have hG := hA x (List.mem_of_getElem? hx1)
  have hset : ∀ y : Nd, encNs (A.set i y) = (encNs A).set i (encN y) := fun y => by unfold encNs; rw [List.map_set]
  have hfin : ∀ y : Nd, SpN LB y → ∀ (mem : Mem) (nx : Nat) (e : AV), lk mem 3 = some (.row 35 12 ((encNs A).set (0 + ((i : Nat) : Int).toNat) e)) → CvE mem [] e (encN y) →
    Fini 0 (fun r m k => ∃ ns : List Nd, (∀ x ∈ ns, SpN LB x) ∧ ns.length ≤ 14 ∧ r = .agg [.il 12 (encNs ns)] ∧ m = [] ∧ k = 0) (.agg [.sl 3 0 A.length]) mem nx := fun y hy mem nx e h3 he => by
   refine fin_cv (r' := .agg [.il 12 (encNs (A.set i y))]) (.agg' (.cons (.fzR (id := 3) h3 rfl ?_ (by rw [encNs_length]; simp)) .nil)) ⟨A.set i y, sp_set hS hy, by simpa using hl, rfl, rfl, rfl⟩
   rw [hset, show 0 + ((i : Nat) : Int).toNat = i by simp]
   exact cvr_set (.same (encNs_nn _)) he
  obtain ⟨kind, name, lo, hi', ws, lbs, vals, kids, ⟨vk, vn, vs, vks⟩⟩ := x
  clear hA hS ha hh
  ((conv=>whnf);repeat(refine Xg ?_;conv=>whnf))
  refine hAr.go ?_
  ((conv=>whnf);repeat(refine Xg ?_;conv=>whnf))
  repeat ((first | refine grd_mk bx ?_ | refine opt_mk ex ?_); ((conv=>whnf);repeat(refine Xg ?_;conv=>whnf)))
  refine hHo.go ?_
  have hw0 := hG.wlen
  obtain ⟨hw1, hw2⟩ := And.intro hG.vlen hG.klen
  have hw3 := hG.llen
  simp only at hw0 hw1 hw2 hw3
  rcases (show c = 0 ∨ c = 1 ∨ c = 2 ∨ c = 3 ∨ c = 4 ∨ c = 5 ∨ c = 6 ∨ c = 7 ∨ c = 8 ∨ c = 9 by omega) with rfl | rfl | rfl | rfl | rfl | rfl | rfl | rfl | rfl | rfl
  ·((conv=>whnf);repeat(refine Xg ?_;conv=>whnf))
   repeat ((first | refine grd_mk bx ?_ | refine opt_mk ex ?_ | refine setK_iff.2 ?_); ((conv=>whnf);repeat(refine Xg ?_;conv=>whnf)))
   exact hfin ⟨n, name, lo, hi', ws, lbs, vals, kids, ⟨vk, vn, vs, vks⟩⟩ (sp_kind hX hn) _ _ (encN ⟨n, name, lo, hi', ws, lbs, vals, kids, ⟨vk, vn, vs, vks⟩⟩) rfl (.same (encN_nn _))
  ·((conv=>whnf);repeat(refine Xg ?_;conv=>whnf))
   repeat ((first | refine grd_mk bx ?_ | refine opt_mk ex ?_ | refine setK_iff.2 ?_); ((conv=>whnf);repeat(refine Xg ?_;conv=>whnf)))
   exact hfin ⟨kind, name, n, hi', ws, lbs, vals, kids, ⟨vk, vn, vs, vks⟩⟩ (sp_lo hX hn) _ _ (encN ⟨kind, name, n, hi', ws, lbs, vals, kids, ⟨vk, vn, vs, vks⟩⟩) rfl (.same (encN_nn _))
  ·((conv=>whnf);repeat(refine Xg ?_;conv=>whnf))
   repeat ((first | refine grd_mk bx ?_ | refine opt_mk ex ?_ | refine setK_iff.2 ?_); ((conv=>whnf);repeat(refine Xg ?_;conv=>whnf)))
   exact hfin ⟨kind, name, lo, n, ws, lbs, vals, kids, ⟨vk, vn, vs, vks⟩⟩ (sp_hi hX hn) _ _ (encN ⟨kind, name, lo, n, ws, lbs, vals, kids, ⟨vk, vn, vs, vks⟩⟩) rfl (.same (encN_nn _))
  ·((conv=>whnf);repeat(refine Xg ?_;conv=>whnf))
   repeat ((first | refine grd_mk bx ?_ | refine opt_mk ex ?_ | refine setK_iff.2 ?_); ((conv=>whnf);repeat(refine Xg ?_;conv=>whnf)))
   refine grd_mk (app_ok rfl rfl rfl (by simp only [encI_length, List.length_append, List.length_nil]; omega)) ?_
   ((conv=>whnf);repeat(refine Xg ?_;conv=>whnf))
   refine grd_mk (app_ok rfl rfl (by simp) (by simp [encI_length]; omega)) ?_
   ((conv=>whnf);repeat(refine Xg ?_;conv=>whnf))
   repeat ((first | refine grd_mk bx ?_ | refine opt_mk ex ?_ | refine setK_iff.2 ?_); ((conv=>whnf);repeat(refine Xg ?_;conv=>whnf)))
   refine hfin ⟨kind, name, lo, hi', ws ++ [n], lbs, vals, kids, ⟨vk, vn, vs, vks⟩⟩ (sp_weights hX (by simp; omega) (i64_mem hX.ok.weightsI hn)) _ _ (.agg ((encN ⟨kind, name, lo, hi', ws, lbs, vals, kids, ⟨vk, vn, vs, vks⟩⟩).cells.set 4 (.sl 8 0 _))) rfl (cvn_set 4 (fz_all (id := 8) (t := 3) (xs := [] ++ encI ws ++ [.int .i64 n]) rfl (by simp) (by simp [encI]) (encI_nn _)))
  ·((conv=>whnf);repeat(refine Xg ?_;conv=>whnf))
   repeat ((first | refine grd_mk bx ?_ | refine opt_mk ex ?_ | refine setK_iff.2 ?_); ((conv=>whnf);repeat(refine Xg ?_;conv=>whnf)))
   refine grd_mk (app_ok rfl rfl rfl (by simp only [encI_length, List.length_append, List.length_nil]; omega)) ?_
   ((conv=>whnf);repeat(refine Xg ?_;conv=>whnf))
   refine grd_mk (app_ok rfl rfl (by simp) (by simp [encI_length]; omega)) ?_
   ((conv=>whnf);repeat(refine Xg ?_;conv=>whnf))
   repeat ((first | refine grd_mk bx ?_ | refine opt_mk ex ?_ | refine setK_iff.2 ?_); ((conv=>whnf);repeat(refine Xg ?_;conv=>whnf)))
   refine hfin ⟨kind, name, lo, hi', ws, lbs, vals, kids ++ [n], ⟨vk, vn, vs, vks⟩⟩ (sp_kids hX (by simp; omega) (i64_mem hX.ok.kidsI hn)) _ _ (.agg ((encN ⟨kind, name, lo, hi', ws, lbs, vals, kids, ⟨vk, vn, vs, vks⟩⟩).cells.set 7 (.sl 8 0 _))) rfl (cvn_set 7 (fz_all (id := 8) (t := 3) (xs := [] ++ encI kids ++ [.int .i64 n]) rfl (by simp) (by simp [encI]) (encI_nn _)))
  ·((conv=>whnf);repeat(refine Xg ?_;conv=>whnf))
   obtain ⟨d0, d1⟩ := aroundI_bound (n := n) (most := 6) (by omega)
   have hNa := rAround n 6 hn (by omega)
   generalize aroundI n 6 = k at hNa d0 d1
   refine hNa.go ?_
   rcases (show k = 0 ∨ k = 1 ∨ k = 2 ∨ k = 3 ∨ k = 4 ∨ k = 5 by omega) with rfl | rfl | rfl | rfl | rfl | rfl
   ·((conv=>whnf);repeat(refine Xg ?_;conv=>whnf))
    repeat ((first | refine grd_mk bx ?_ | refine opt_mk ex ?_ | refine setK_iff.2 ?_); ((conv=>whnf);repeat(refine Xg ?_;conv=>whnf)))
    exact hfin ⟨kind, [], lo, hi', ws, lbs, vals, kids, ⟨vk, vn, vs, vks⟩⟩ (sp_name hX (by simp)) _ _ (encN ⟨kind, [], lo, hi', ws, lbs, vals, kids, ⟨vk, vn, vs, vks⟩⟩) rfl (.same (encN_nn _))
   ·((conv=>whnf);repeat(refine Xg ?_;conv=>whnf))
    repeat ((first | refine grd_mk bx ?_ | refine opt_mk ex ?_ | refine setK_iff.2 ?_); ((conv=>whnf);repeat(refine Xg ?_;conv=>whnf)))
    exact hfin ⟨kind, [80, 97, 105, 114], lo, hi', ws, lbs, vals, kids, ⟨vk, vn, vs, vks⟩⟩ (sp_name hX (by simp)) _ _ (encN ⟨kind, [80, 97, 105, 114], lo, hi', ws, lbs, vals, kids, ⟨vk, vn, vs, vks⟩⟩) rfl (.same (encN_nn _))
   ·((conv=>whnf);repeat(refine Xg ?_;conv=>whnf))
    repeat ((first | refine grd_mk bx ?_ | refine opt_mk ex ?_ | refine setK_iff.2 ?_); ((conv=>whnf);repeat(refine Xg ?_;conv=>whnf)))
    exact hfin ⟨kind, [112, 97, 105, 114], lo, hi', ws, lbs, vals, kids, ⟨vk, vn, vs, vks⟩⟩ (sp_name hX (by simp)) _ _ (encN ⟨kind, [112, 97, 105, 114], lo, hi', ws, lbs, vals, kids, ⟨vk, vn, vs, vks⟩⟩) rfl (.same (encN_nn _))
   ·((conv=>whnf);repeat(refine Xg ?_;conv=>whnf))
    repeat ((first | refine grd_mk bx ?_ | refine opt_mk ex ?_ | refine setK_iff.2 ?_); ((conv=>whnf);repeat(refine Xg ?_;conv=>whnf)))
    exact hfin ⟨kind, [65, 98, 95, 49], lo, hi', ws, lbs, vals, kids, ⟨vk, vn, vs, vks⟩⟩ (sp_name hX (by simp)) _ _ (encN ⟨kind, [65, 98, 95, 49], lo, hi', ws, lbs, vals, kids, ⟨vk, vn, vs, vks⟩⟩) rfl (.same (encN_nn _))
   ·((conv=>whnf);repeat(refine Xg ?_;conv=>whnf))
    repeat ((first | refine grd_mk bx ?_ | refine opt_mk ex ?_ | refine setK_iff.2 ?_); ((conv=>whnf);repeat(refine Xg ?_;conv=>whnf)))
    exact hfin ⟨kind, [76, 111, 110, 103, 76, 111, 110, 103, 76, 111, 110, 103, 76, 111, 110, 103, 76], lo, hi', ws, lbs, vals, kids, ⟨vk, vn, vs, vks⟩⟩ (sp_name hX (by simp)) _ _ (encN ⟨kind, [76, 111, 110, 103, 76, 111, 110, 103, 76, 111, 110, 103, 76, 111, 110, 103, 76], lo, hi', ws, lbs, vals, kids, ⟨vk, vn, vs, vks⟩⟩) rfl (.same (encN_nn _))
   ·((conv=>whnf);repeat(refine Xg ?_;conv=>whnf))
    repeat ((first | refine grd_mk bx ?_ | refine opt_mk ex ?_ | refine setK_iff.2 ?_); ((conv=>whnf);repeat(refine Xg ?_;conv=>whnf)))
    exact hfin ⟨kind, [65, 45, 98], lo, hi', ws, lbs, vals, kids, ⟨vk, vn, vs, vks⟩⟩ (sp_name hX (by simp)) _ _ (encN ⟨kind, [65, 45, 98], lo, hi', ws, lbs, vals, kids, ⟨vk, vn, vs, vks⟩⟩) rfl (.same (encN_nn _))
  ·((conv=>whnf);repeat(refine Xg ?_;conv=>whnf))
   repeat ((first | refine grd_mk bx ?_ | refine opt_mk ex ?_ | refine setK_iff.2 ?_); ((conv=>whnf);repeat(refine Xg ?_;conv=>whnf)))
   refine grd_mk (app_ok rfl rfl rfl (by simp only [encS_length, List.length_append, List.length_nil]; omega)) ?_
   ((conv=>whnf);repeat(refine Xg ?_;conv=>whnf))
   refine grd_mk (app_ok rfl rfl (by simp) (by simp [encS_length]; omega)) ?_
   ((conv=>whnf);repeat(refine Xg ?_;conv=>whnf))
   repeat ((first | refine grd_mk bx ?_ | refine opt_mk ex ?_ | refine setK_iff.2 ?_); ((conv=>whnf);repeat(refine Xg ?_;conv=>whnf)))
   refine hfin ⟨kind, name, lo, hi', ws, lbs ++ [[120]], vals, kids, ⟨vk, vn, vs, vks⟩⟩ (sp_labels hX (by simp; omega) (lab_snoc hX.lab) hlb) _ _ (.agg ((encN ⟨kind, name, lo, hi', ws, lbs, vals, kids, ⟨vk, vn, vs, vks⟩⟩).cells.set 5 (.sl 8 0 _))) rfl (cvn_set 5 (fz_all (id := 8) (t := 9) (xs := [] ++ encS lbs ++ [.str [120]]) rfl (by simp) (by simp [encS]) (encS_nn _)))
  ·((conv=>whnf);repeat(refine Xg ?_;conv=>whnf))
   repeat ((first | refine grd_mk bx ?_ | refine opt_mk ex ?_ | refine setK_iff.2 ?_); ((conv=>whnf);repeat(refine Xg ?_;conv=>whnf)))
   refine grd_mk (app_ok rfl rfl rfl (by simp only [encVs_length, List.length_append, List.length_nil]; omega)) ?_
   ((conv=>whnf);repeat(refine Xg ?_;conv=>whnf))
   refine grd_mk (app_ok rfl rfl (by simp) (by simp [encVs_length]; omega)) ?_
   ((conv=>whnf);repeat(refine Xg ?_;conv=>whnf))
   repeat ((first | refine grd_mk bx ?_ | refine opt_mk ex ?_ | refine setK_iff.2 ?_); ((conv=>whnf);repeat(refine Xg ?_;conv=>whnf)))
   refine hfin ⟨kind, name, lo, hi', ws, lbs, vals ++ [.mk 0 n [] []], kids, ⟨vk, vn, vs, vks⟩⟩ (sp_values hX (by simp; omega) (val_snoc ⟨hX.ok.valuesI, hX.vals⟩ (sp_leaf 0 n ⟨by decide, by decide⟩ hn))) _ _ (.agg ((encN ⟨kind, name, lo, hi', ws, lbs, vals, kids, ⟨vk, vn, vs, vks⟩⟩).cells.set 6 (.sl 8 0 _))) rfl (cvn_set 6 (.fzR (id := 8) (t := 33) (xs := [] ++ encVs vals ++ [.agg [.int .i64 0, .int .i64 n, .str [], .nsl]]) rfl rfl ?_ (by simp [encVs_length])))
   show CvR _ _ _ (encVs (vals ++ [.mk 0 n [] []]))
   rw [encVs_snoc]
   exact .snoc (by simp) (.same (encVs_nn _)) (cvVal _ _ _)
  ·((conv=>whnf);repeat(refine Xg ?_;conv=>whnf))
   obtain ⟨d0, d1⟩ := aroundI_bound (n := n) (most := 5) (by omega)
   have hNa := rAround n 5 hn (by omega)
   generalize aroundI n 5 = k at hNa d0 d1
   refine hNa.go ?_
   ((conv=>whnf);repeat(refine Xg ?_;conv=>whnf))
   repeat ((first | refine grd_mk bx ?_ | refine opt_mk ex ?_ | refine setK_iff.2 ?_); ((conv=>whnf);repeat(refine Xg ?_;conv=>whnf)))
   obtain ⟨q1, q2⟩ := sp_leaf k n (by constructor <;> omega) hn
   exact hfin ⟨kind, name, lo, hi', ws, lbs, vals, kids, ⟨k, n, [], []⟩⟩ (sp_value hX q1 q2) _ _ (.agg ((encN ⟨kind, name, lo, hi', ws, lbs, vals, kids, ⟨k, n, [], []⟩⟩).cells.set 11 .nsl)) rfl (cvn_set 11 (.nil 4))
  ·((conv=>whnf);repeat(refine Xg ?_;conv=>whnf))
   by_cases hw : ws.length = 0
   ·rw [show decide (((encI ws).length : Int) > 0) = false by rw [encI_length, decide_eq_false_iff_not]; omega]
    ((conv=>whnf);repeat(refine Xg ?_;conv=>whnf))
    by_cases hk : kids.length = 0
    ·rw [show decide (((encI kids).length : Int) > 0) = false by rw [encI_length, decide_eq_false_iff_not]; omega]
     ((conv=>whnf);repeat(refine Xg ?_;conv=>whnf))
     repeat ((first | refine grd_mk bx ?_ | refine opt_mk ex ?_ | refine setK_iff.2 ?_); ((conv=>whnf);repeat(refine Xg ?_;conv=>whnf)))
     exact hfin ⟨kind, name, lo, hi', ws, lbs, vals, kids, ⟨vk, vn, vs, vks⟩⟩ hX _ _ (encN ⟨kind, name, lo, hi', ws, lbs, vals, kids, ⟨vk, vn, vs, vks⟩⟩) rfl (.same (encN_nn _))
    ·rw [show decide (((encI kids).length : Int) > 0) = true by rw [encI_length]; simp; omega]
     ((conv=>whnf);repeat(refine Xg ?_;conv=>whnf))
     refine grd_mk (app_ok rfl rfl rfl (by simp only [encI_length, List.length_append, List.length_nil]; omega)) ?_
     ((conv=>whnf);repeat(refine Xg ?_;conv=>whnf))
     refine grd_mk (Nat.ble_eq_true_of_le (by simp [encI_length]; omega)) ?_
     ((conv=>whnf);repeat(refine Xg ?_;conv=>whnf))
     have hg := g0 kids hk
     generalize kids[0]'_ = o at hg
     refine opt_mk hg ?_
     ((conv=>whnf);repeat(refine Xg ?_;conv=>whnf))
     repeat ((first | refine grd_mk bx ?_ | refine opt_mk ex ?_ | refine opt_mk hg ?_ | refine setK_iff.2 ?_); ((conv=>whnf);repeat(refine Xg ?_;conv=>whnf)))
     refine hfin ⟨kind, name, lo, hi', ws, lbs, vals, kids.set 0 n, ⟨vk, vn, vs, vks⟩⟩ (sp_kids hX (by simp; omega) (i64_set0 hX.ok.kidsI hn)) _ _ (.agg ((encN ⟨kind, name, lo, hi', ws, lbs, vals, kids, ⟨vk, vn, vs, vks⟩⟩).cells.set 7 (.sl 6 0 _))) rfl (cvn_set 7 (fz_all (id := 6) (t := 3) (xs := ([] ++ encI kids).set (0 + (0 : Int).toNat) (.int .i64 n)) rfl (by simp) (by simp [encI]) (encI_nn _)))
   ·rw [show decide (((encI ws).length : Int) > 0) = true by rw [encI_length]; simp; omega]
    ((conv=>whnf);repeat(refine Xg ?_;conv=>whnf))
    refine grd_mk (app_ok rfl rfl rfl (by simp only [encI_length, List.length_append, List.length_nil]; omega)) ?_
    ((conv=>whnf);repeat(refine Xg ?_;conv=>whnf))
    refine grd_mk (Nat.ble_eq_true_of_le (by simp [encI_length]; omega)) ?_
    ((conv=>whnf);repeat(refine Xg ?_;conv=>whnf))
    have hg := g0 ws hw
    generalize ws[0]'_ = o at hg
    refine opt_mk hg ?_
    ((conv=>whnf);repeat(refine Xg ?_;conv=>whnf))
    repeat ((first | refine grd_mk bx ?_ | refine opt_mk ex ?_ | refine opt_mk hg ?_ | refine setK_iff.2 ?_); ((conv=>whnf);repeat(refine Xg ?_;conv=>whnf)))
    refine hfin ⟨kind, name, lo, hi', ws.set 0 n, lbs, vals, kids, ⟨vk, vn, vs, vks⟩⟩ (sp_weights hX (by simp; omega) (i64_set0 hX.ok.weightsI hn)) _ _ (.agg ((encN ⟨kind, name, lo, hi', ws, lbs, vals, kids, ⟨vk, vn, vs, vks⟩⟩).cells.set 4 (.sl 6 0 _))) rfl (cvn_set 4 (fz_all (id := 6) (t := 3) (xs := ([] ++ encI ws).set (0 + (0 : Int).toNat) (.int .i64 n)) rfl (by simp) (by simp [encI]) (encI_nn _)))
set_option maxRecDepth 100000
set_option maxHeartbeats 16000000
theorem foldl_mem {f : List Mt → Nat × Nat → List Mt} {P : Mt → Prop} (hf : ∀ L p, ∀ m ∈ f L p, m ∈ L ∨ P m) : ∀ (ps : List (Nat × Nat)) (L : List Mt), ∀ m ∈ ps.foldl f L, m ∈ L ∨ P m
 | [], L, m, h => .inl h
 | p :: ps, L, m, h => by
  rcases foldl_mem hf ps (f L p) m h with h | h
  ·exact hf L p m h
  ·exact .inr h
theorem vis_mem {A B : List Nd} : ∀ (f o n : Nat) (L : List Mt), ∀ m ∈ visF A B f o n L, m ∈ L ∨ ∃ o' n', m = mtN (nodeAt A o') (nodeAt B n') o' n'
 | 0, o, n, L, m, h => .inl h
 | f + 1, o, n, L, m, h => by
  unfold visF at h
  split at h
  ·exact .inl h
  ·rcases foldl_mem (P := fun m => ∃ o' n', m = mtN (nodeAt A o') (nodeAt B n') o' n') (fun L p m hm => vis_mem f p.1 p.2 L m hm) _ _ m h with h | h
   ·rcases List.mem_append.1 h with h | h
    ·exact .inl h
    ·simp at h; exact .inr ⟨o, n, h⟩
   ·exact .inr h
theorem nodeAt_cases (A : List Nd) (i : Nat) : nodeAt A i ∈ A ∨ nodeAt A i = ⟨0, [], 0, 0, [], [], [], [], .mk 0 0 [] []⟩ := by
 unfold nodeAt
 rw [List.getD_eq_getElem?_getD]
 cases h : A[i]? with
 | none => exact .inr rfl
 | some x => exact .inl (List.mem_of_getElem? h)
theorem chN_le {A : List Nd} (hA : TreeIn A) (i : Nat) (y : Nd) : (chN (nodeAt A i) y).length ≤ 2000 := by
 have h : (nodeAt A i).kids.length ≤ 2000 ∧ (nodeAt A i).values.length ≤ 2000 := by
  rcases nodeAt_cases A i with h | h
  ·exact ⟨hA.klen _ h, hA.vlen _ h⟩
  ·rw [h]; exact ⟨by simp, by simp⟩
 unfold chN
 split
 ·simp; exact h.1
 ·split
  ·simp; exact h.2
  ·simp
theorem diff_small {A B : List Nd} (hA : TreeIn A) : ∀ m ∈ diffM A B, m.opts.length ≤ 1000000 ∧ m.same.length ≤ 1000000 := by
 intro m h
 unfold diffM at h
 split at h
 ·rcases vis_mem _ _ _ _ m h with h | ⟨o, n, rfl⟩
  ·simp at h
  ·have := chN_le hA o (nodeAt B n)
   unfold mtN
   simp only [List.length_map]
   omega
 ·simp at h
theorem encMs_take (l : List Mt) {k : Nat} {m : Mt} (h : l[k]? = some m) : encMs (l.take k) ++ [encM m] = encMs (l.take (k + 1)) := by
 rw [List.take_add_one, h]; simp [encMs]
theorem plain (l : List Mt) (hl : l.length ≤ 1000000) : PureC Tryz.prog [] 16 [.il 4 (encMs l)] (.il 4 (encMs l)) := by
 refine acalls_go nnΓ Tryz.func16 rfl ?_
 ((conv=>whnf);repeat(refine Xg ?_;conv=>whnf))
 refine ALoop.ph 78 4 ?_
 refine ALoop.at nnΓ (fun k : Nat => k ≤ l.length) (fun k => ⟨[(0, .il 4 (encMs l)), (3, .sl 0 0 k), (4, .int .i64 k)], [(0, .row 78 4 (encMs (l.take k)))], 1, 36⟩) (fun k => l.length - k) 0 [(0, 0)] (by simp)
  (conv_mk _ rfl ⟨⟨0, _, rfl, rfl, .same .nil⟩, trivial⟩ ⟨⟨_, rfl, .same _ (.il' (encMs_nn _))⟩, ⟨_, rfl, .nslk 0 0 _ rfl rfl⟩, ⟨_, rfl, .same _ nn⟩, trivial⟩) ?_
 intro k hk
 ((conv=>whnf);repeat(refine Xg ?_;conv=>whnf))
 refine bcs_mk (fun hb => ?_) (fun hb => ?_)
 ·have hlt : k < l.length := by rw [encMs_length] at hb; simpa using hb
  have hg : l[k]? = some l[k] := List.getElem?_eq_getElem hlt
  have em : (encMs l)[((k : Nat) : Int).toNat]? = some (encM l[k]) := by simp [encMs_get, hg]
  have et := encMs_take l hg
  generalize l[k] = m at em hg et
  obtain ⟨mo, mn, mp, ms⟩ := m
  ((conv=>whnf);repeat(refine Xg ?_;conv=>whnf))
  repeat ((first | refine opt_mk em ?_ | refine ⟨rfl, ?_⟩); ((conv=>whnf);repeat(refine Xg ?_;conv=>whnf)))
  refine grd_mk (app_ok rfl rfl (by rw [encMs_length, List.length_take]; omega) (by simp; omega)) ?_
  ((conv=>whnf);repeat(refine Xg ?_;conv=>whnf))
  exact .mk (k + 1) [(26, 0)] (by omega) (conv_mk _ rfl ⟨⟨26, _, rfl, rfl, .eq (encMs_nn _) et⟩, trivial⟩ ⟨⟨_, rfl, .same _ (.il' (encMs_nn _))⟩, ⟨_, rfl, .slE rfl (by simp)⟩, ⟨_, rfl, .w64 (by omega) ⟨by omega, by omega⟩⟩, trivial⟩) (by omega)
 ·have hlt : k = l.length := by rw [encMs_length] at hb; simp at hb; omega
  subst hlt
  ((conv=>whnf);repeat(refine Xg ?_;conv=>whnf))
  exact fin_cv (r' := .il 4 (encMs l)) (.fz' (id := 0) rfl rfl (by rw [List.take_length, encMs_length]; omega) (by rw [List.take_length, List.drop_zero]; exact List.take_of_length_le (by rw [encMs_length]; omega)) (encMs_nn _)) ⟨rfl, rfl, rfl⟩
set_option maxRecDepth 1000000
theorem lives31 : ((fdeep Tryz.prog gz 60).call 10 [] [] 0 fun r _ _ => saysTrue r) = True := by kernel_rfl
set_option maxRecDepth 100000
set_option maxHeartbeats 16000000
structure LawT (A : List Nd) : Prop where
 sp : ∀ x ∈ A, SpN LB x
 len : A.length ≤ 14
theorem LawT.tin {A : List Nd} (h : LawT A) : TreeIn A := treeIn_of (fun s hs => LB_len hs) h.sp (by have := h.len; omega)
theorem LawT.lab {A : List Nd} (h : LawT A) : ∀ x ∈ A, ∀ s ∈ x.labels, s ∈ LB := fun x hx => (h.sp x hx).lab
def encTs (L : List (List Nd)) : List AV := L.map fun t => .agg [.il 12 (encNs t)]
theorem encTs_nn (L : List (List Nd)) : NNs (encTs L) := fun a ha => by
 obtain ⟨n, _, rfl⟩ := List.mem_map.1 ha
 exact tree_nn n
theorem encTs_get {L : List (List Nd)} {i : Nat} (h : i < L.length) : (encTs L)[((i : Nat) : Int).toNat]? = some (.agg [.il 12 (encNs L[i])]) := by
 simp [encTs, List.getElem?_eq_getElem h]
theorem lawT_nil : LawT [] := ⟨by simp, by simp⟩
theorem lawMatchesW (l m : List Int) (at_ n how : Int) (hl : ∀ x ∈ l, i64 x) (hm : ∀ x ∈ m, i64 x) (ha : i64 at_) (hn : i64 n) (hh : i64 how) (hlen : l.length ≤ 17592186043904) : PureC Tryz.prog gz 4 [.il 1 (encI l), .il 1 (encI m), .int .i64 at_, .int .i64 n, .int .i64 how] (.bool true) := by
 refine acalls_go nngz Tryz.func4 rfl ?_
 ((conv=>whnf);repeat(refine Xg ?_;conv=>whnf))
 refine fTree l hl fun A hTA hAl => ?_
 have hGA := genB_tree hTA
 have hA : LawT A := ⟨fun x hx => spN_gen abcd_LB (hGA x hx), hAl⟩
 ((conv=>whnf);repeat(refine Xg ?_;conv=>whnf))
 refine ACalls.goG0 (rEdited l at_ n hl hlen hn) ?_
 rintro r m' n' ⟨E, hTE, hEl, rfl, rfl, rfl⟩
 have hGE := genB_tree hTE
 have hE : LawT E := ⟨fun x hx => spN_gen abcd_LB (hGE x hx), hEl⟩
 refine ⟨.agg [.il 12 (encNs E)], .same _ (tree_nn E), ?_⟩
 ((conv=>whnf);repeat(refine Xg ?_;conv=>whnf))
 repeat (refine ⟨rfl, ?_⟩; ((conv=>whnf);repeat(refine Xg ?_;conv=>whnf)))
 refine fTree m hm fun M hTM hMl => ?_
 have hGM := genB_tree hTM
 have hM : LawT M := ⟨fun x hx => spN_gen abcd_LB (hGM x hx), hMl⟩
 ((conv=>whnf);repeat(refine Xg ?_;conv=>whnf))
 repeat (refine ⟨rfl, ?_⟩; ((conv=>whnf);repeat(refine Xg ?_;conv=>whnf)))
 refine ACalls.goG0 (rSpoilt A at_ how n hGA hAl ha hh hn) ?_ (.cons (tree_nn A) nns)
 rintro r m' n' ⟨S, hSs, hSl, rfl, rfl, rfl⟩
 have hS : LawT S := ⟨hSs, hSl⟩
 refine ⟨.agg [.il 12 (encNs S)], .same _ (tree_nn S), ?_⟩
 clear hTA hTE hTM hGA hGE hGM hSs hAl hEl hMl hSl
 ((conv=>whnf);repeat(refine Xg ?_;conv=>whnf))
 repeat (refine ⟨rfl, ?_⟩; ((conv=>whnf);repeat(refine Xg ?_;conv=>whnf)))
 obtain ⟨L, hLd, hL5, hL⟩ : ∃ L, L = [A, E, M, S, []] ∧ L.length = 5 ∧ ∀ t ∈ L, LawT t := ⟨_, rfl, rfl, by
  intro t ht
  simp only [List.mem_cons, List.not_mem_nil, or_false] at ht
  rcases ht with rfl | rfl | rfl | rfl | rfl
  ·exact hA
  ·exact hE
  ·exact hM
  ·exact hS
  ·exact lawT_nil⟩
 refine ALoop.at nngz (fun i : Nat => i ≤ 5) (fun i => ⟨[(12, .il 1 (encTs L)), (13, .int .i64 i)], [], 0, 104⟩) (fun i => 5 - i) 0 [] (by simp)
  (conv_pure ⟨⟨_, rfl, .fzR (id := 14) rfl rfl (by
    rw [hLd]
    exact .cons (.same (tree_nn A)) (.cons (.same (tree_nn E)) (.cons (.same (tree_nn M)) (.cons (.same (tree_nn S)) (.cons (.agg (.cons (.nil 12) .nil)) (.same .nil)))))) (by simp [encTs, hL5])⟩, ⟨_, rfl, .same _ nn⟩, trivial⟩) ?_
 have e5 : (encTs L).length = 5 := by simp [encTs, hL5]
 clear hLd hA hE hM hS A E M S hl hm ha hn hh hlen l m at_ n how
 intro i hi
 ((conv=>whnf);repeat(refine Xg ?_;conv=>whnf))
 rw [e5]
 refine bcs_mk (fun hb => ?_) (fun hb => ?_)
 ·have hi5 : i < 5 := by simp at hb; omega
  have hGi := hL _ (List.getElem_mem (show i < L.length by omega))
  have ei := encTs_get (show i < L.length by omega)
  generalize L[i]'_ = a at hGi ei
  ((conv=>whnf);repeat(refine Xg ?_;conv=>whnf))
  refine ALoop.at nngz (fun k : Nat => k ≤ 5) (fun k => ⟨[(12, .il 1 (encTs L)), (13, .int .i64 i), (14, .int .i64 k)], [], 0, 104⟩) (fun k => 5 - k) 0 [] (by simp)
   (conv_pure ⟨⟨_, rfl, .same _ (.il' (encTs_nn _))⟩, ⟨_, rfl, .same _ nn⟩, ⟨_, rfl, .same _ nn⟩, trivial⟩) ?_
  intro k hk
  ((conv=>whnf);repeat(refine Xg ?_;conv=>whnf))
  rw [e5]
  refine bcs_mk (fun hb => ?_) (fun hb => ?_)
  ·have hk5 : k < 5 := by simp at hb; omega
   have hGk := hL _ (List.getElem_mem (show k < L.length by omega))
   have ek := encTs_get (show k < L.length by omega)
   generalize L[k]'_ = b at hGk ek
   have h1 := dDiff hGi.tin hGk.tin
   have h2 := rChanged hGi.tin hGk.tin hGi.lab
   have h3 := rDiff hGi.tin hGk.tin hGi.lab
   have h4 := dChanged hGi.tin hGk.tin
   have h5 := dSame hGi.tin hGk.tin
   have h6 := plain (diffM a b) (diff_len hGi.tin hGk.tin)
   have h7 := rSame (diffM a b) (diff_len hGi.tin hGk.tin) (diff_small hGi.tin)
   generalize diffM a b = d at h1 h3 h6 h7
   generalize changedM a b = c at h2 h4 h5
   have ta := tree_nn a
   have tb := tree_nn b
   have td : NN (.il 4 (encMs d)) := .il' (encMs_nn _)
   ((conv=>whnf);repeat(refine Xg ?_;conv=>whnf))
   repeat ((first | refine opt_mk ei ?_ | refine opt_mk ek ?_ | refine ⟨rfl, ?_⟩); ((conv=>whnf);repeat(refine Xg ?_;conv=>whnf)))
   refine h1.use nngz (.cons ta (.cons tb .nil)) td ?_
   ((conv=>whnf);repeat(refine Xg ?_;conv=>whnf))
   repeat ((first | refine opt_mk ei ?_ | refine opt_mk ek ?_ | refine ⟨rfl, ?_⟩); ((conv=>whnf);repeat(refine Xg ?_;conv=>whnf)))
   refine h2.goG ?_ (.cons ta (.cons tb .nil))
   ((conv=>whnf);repeat(refine Xg ?_;conv=>whnf))
   repeat ((first | refine opt_mk ei ?_ | refine opt_mk ek ?_ | refine ⟨rfl, ?_⟩); ((conv=>whnf);repeat(refine Xg ?_;conv=>whnf)))
   refine h6.goG ?_ (.cons td .nil) td
   ((conv=>whnf);repeat(refine Xg ?_;conv=>whnf))
   repeat ((first | refine opt_mk ei ?_ | refine opt_mk ek ?_ | refine ⟨rfl, ?_⟩); ((conv=>whnf);repeat(refine Xg ?_;conv=>whnf)))
   refine h3.goG ?_ (.cons ta (.cons tb .nil)) td
   ((conv=>whnf);repeat(refine Xg ?_;conv=>whnf))
   repeat ((first | refine opt_mk ei ?_ | refine opt_mk ek ?_ | refine ⟨rfl, ?_⟩); ((conv=>whnf);repeat(refine Xg ?_;conv=>whnf)))
   refine h7.goG ?_ (.cons td (.cons td .nil))
   ((conv=>whnf);repeat(refine Xg ?_;conv=>whnf))
   repeat ((first | refine opt_mk ei ?_ | refine opt_mk ek ?_ | refine ⟨rfl, ?_⟩); ((conv=>whnf);repeat(refine Xg ?_;conv=>whnf)))
   refine h4.use nngz (.cons ta (.cons tb .nil)) nn ?_
   ((conv=>whnf);repeat(refine Xg ?_;conv=>whnf))
   repeat ((first | refine opt_mk ei ?_ | refine opt_mk ek ?_ | refine ⟨rfl, ?_⟩); ((conv=>whnf);repeat(refine Xg ?_;conv=>whnf)))
   rw [ne_self']
   ((conv=>whnf);repeat(refine Xg ?_;conv=>whnf))
   repeat ((first | refine opt_mk ei ?_ | refine opt_mk ek ?_ | refine ⟨rfl, ?_⟩); ((conv=>whnf);repeat(refine Xg ?_;conv=>whnf)))
   refine h5.use nngz (.cons ta (.cons tb .nil)) nn ?_
   ((conv=>whnf);repeat(refine Xg ?_;conv=>whnf))
   repeat ((first | refine opt_mk ei ?_ | refine opt_mk ek ?_ | refine ⟨rfl, ?_⟩); ((conv=>whnf);repeat(refine Xg ?_;conv=>whnf)))
   rw [show (!decide (c = 0) == ((c : Int) == 0)) = false by rw [show (((c : Nat) : Int) == 0) = decide (c = 0) by rw [Bool.eq_iff_iff]; simp]; simp]
   ((conv=>whnf);repeat(refine Xg ?_;conv=>whnf))
   exact .mk (k + 1) [] (by omega) (conv_pure ⟨⟨_, rfl, .same _ (.il' (encTs_nn _))⟩, ⟨_, rfl, .same _ nn⟩, ⟨_, rfl, .w64 (by omega) ⟨by omega, by omega⟩⟩, trivial⟩) (by omega)
  ·have hk5 : k = 5 := by simp at hb; omega
   ((conv=>whnf);repeat(refine Xg ?_;conv=>whnf))
   exact .mk (i + 1) [] (by omega) (conv_pure ⟨⟨_, rfl, .same _ (.il' (encTs_nn _))⟩, ⟨_, rfl, .w64 (by omega) ⟨by omega, by omega⟩⟩, trivial⟩) (by omega)
 ·((conv=>whnf);repeat(refine Xg ?_;conv=>whnf))
  refine ACalls.call0 nngz (acalls_closed 60 (by rw [lives31]; trivial)) .nil ?_
  intro r m' n' hr
  rw [saysTrue_eq hr]
  refine ⟨_, .same _ (.bool true), ?_⟩
  ((conv=>whnf);repeat(refine Xg ?_;conv=>whnf))
  exact fin_pure (.bool _) ⟨rfl, rfl, rfl⟩
end Go.Proofs.YtnookkohfkjbcaaGreatDoor
namespace Go.Proofs.YtnookkohfkjbcaaGreatDoor.DiffMatches
open Go.ChangeShapes Go.WideShapes Go.ChangeAt Go.RowKit Go.Lib Go.Ax
theorem own : ownKnob Tryz.prog.godebug = none := by kernel_rfl
theorem laidOut : laidOutB Tryz.prog = true := by kernel_rfl
theorem cells3 : Tryz.prog.cellsOf 3 = 1 := by kernel_rfl
theorem bytes3 : Tryz.prog.bytesOf 3 = 8 := by kernel_rfl
theorem gName : Tryz.prog.globalNamed "strconv.ErrSyntax" = some 0 := by kernel_rfl
theorem gNameR : Tryz.prog.globalNamed "strconv.ErrRange" = some 1 := by kernel_rfl
theorem gNameP : Tryz.prog.globalNamed "internal/strconv.uint64pow10" = some 2 := by kernel_rfl
theorem gType : (Tryz.prog.globals[0]?).map (·.type) = some 96 := by kernel_rfl
theorem gTypeR : (Tryz.prog.globals[1]?).map (·.type) = some 96 := by kernel_rfl
theorem gTypeP : (Tryz.prog.globals[2]?).map (·.type) = some 176 := by kernel_rfl
theorem star : "*" ++ "errors.errorString" = "*errors.errorString" := by decide
theorem named (u : TypeId) (h : Tryz.prog.typeName? 3 u = some "*errors.errorString") : u = 182 :=
 typeName_ptr_named (nm := "errors.errorString") (by rw [star]; kernel_rfl) (by kernel_rfl) (by decide) u (by rw [star]; exact h)
theorem cellsE : Tryz.prog.cellsOf 184 = 1 := by kernel_rfl
theorem cellsS : Tryz.prog.cellsOf 9 = 1 := by kernel_rfl
theorem cellsU : Tryz.prog.cellsOf 134 = 1 := by kernel_rfl
theorem cellsP : Tryz.prog.cellsOf 176 = 20 := by kernel_rfl
def pows : List Int := [1, 10, 100, 1000, 10000, 100000, 1000000, 10000000, 100000000, 1000000000, 10000000000, 100000000000, 1000000000000, 10000000000000, 100000000000000, 1000000000000000, 10000000000000000, 100000000000000000, 1000000000000000000, 10000000000000000000]
theorem vars {W : World} (h : laidMetH Tryz.prog Rows.diffMatchesRow.laid W) : ∀ p ∈ gz, VR (fun _ => ⟨0, 0, 0⟩) (fun _ => False) (OX (fun _ => False) (fun _ => ⟨0, 0, 0⟩) []) W (.ip p.2) (.pointer (some ⟨p.1, 0, none⟩)) := by
 have h : laidMet Tryz.prog Rows.diffMatchesRow.laid W := h
 have h4 := h.tail.tail.tail.tail
 obtain ⟨a, s, hv, hc, hs, hz⟩ := laid_sentinel (tp := 182) (te := 184) (ts := 9) h4 gName gType Tryz.underlying96 named Tryz.underlying182 Tryz.underlying184 rfl rfl Tryz.underlying9 cellsE cellsS
 have hsp := laid_spot h4 gName hv Tryz.underlying182
 have h3 := h.tail.tail.tail
 obtain ⟨a', s', hv', hc', hs', hz'⟩ := laid_sentinel (tp := 182) (te := 184) (ts := 9) h3 gNameR gTypeR Tryz.underlying96 named Tryz.underlying182 Tryz.underlying184 rfl rfl Tryz.underlying9 cellsE cellsS
 have hsp' := laid_spot h3 gNameR hv' Tryz.underlying182
 have h2 := h.tail.tail
 have htab := tabIs_of_head (k := .u64) (zs := pows) gNameP gTypeP Tryz.underlying176 Tryz.underlying134 cellsU cellsP h2
 intro p hp
 simp only [gz, List.mem_cons, List.not_mem_nil, or_false] at hp
 rcases hp with rfl | rfl | rfl
 ·exact vr_iface_var gName hv hsp
 ·exact vr_iface_var gNameR hv' hsp'
 ·exact vr_tab_var gNameP htab
set_option maxRecDepth 100000 in
theorem contract (H : Type) (enc : TypeId × Value → H) (W : World) (base : Nat) (args : Array Value) (ds gs : List (DataW H)) (before : List MemPlace)
  (hval : ∀ (j : Nat) t v, Tryz.f4.params[j]? = some t → args[j]? = some v → Value.okWide Tryz.prog W .any base t v)
  (hW : DataW.Whole enc Tryz.prog Tryz.f4.params.toList Rows.diffMatchesSpec.vars false W args.toList ds gs before) (hL : laidMetH Tryz.prog Rows.diffMatchesRow.laid W) (vt : List TypeId) (hsz : (DataW.weightsEach Tryz.prog (Tryz.f4.params.toList ++ vt) (ds ++ gs)).all (· ≤ reachBytes) = true) :
  Calls Tryz.prog 4 args W fun e W' => ∃ v, e = .returned v ∧ Rows.diffMatchesSpec.post enc Tryz.prog Tryz.f4 false true false false W args v W' := by
 have hW' := hW
 obtain ⟨p, q, hA0, hV, rfl, hfz, hnd⟩ := hW
 have hA : DataW.TrodAll enc Tryz.prog W 0 (fun _ => true) true Tryz.f4.params.toList args.toList ds p := hA0
 rw [Tryz.params4] at hA hval
 rw [Tryz.params4] at hsz
 obtain ⟨v0, vs0, d0, ds0, p0, q0, hargs, rfl, rfl, h0, r0⟩ := trodAll_cons hA
 obtain ⟨v1, vs1, d1, ds1, p1, q1, rfl, rfl, rfl, h1, r1⟩ := trodAll_cons r0
 obtain ⟨v2, vs2, d2, ds2, p2, q2, rfl, rfl, rfl, h2, r2⟩ := trodAll_cons r1
 obtain ⟨v3, vs3, d3, ds3, p3, q3, rfl, rfl, rfl, h3, r3⟩ := trodAll_cons r2
 obtain ⟨v4, vs4, d4, ds4, p4, q4, rfl, rfl, rfl, h4, r4⟩ := trodAll_cons r3
 obtain ⟨rfl, rfl, rfl⟩ := trodAll_nil r4
 obtain rfl : args = #[v0, v1, v2, v3, v4] := by cases args; simp_all
 obtain ⟨rfl, rfl⟩ := trodVars_none hV
 have hw0 : (d0.weights Tryz.prog 22).all (· ≤ reachBytes) = true := weights_head hsz
 have h0k := h0
 obtain ⟨x0, b0, e0, s0⟩ := vr_ints_sz Tryz.underlying22 Tryz.underlying3 cells3 bytes3 (hval 0 22 v0 rfl rfl) h0 hw0
 have h1k := h1
 obtain ⟨x1, b1, e1⟩ := vr_ints_of Tryz.underlying22 Tryz.underlying3 cells3 (hval 1 22 v1 rfl rfl) h1
 have h2k := h2
 obtain ⟨x2, rfl, rfl, rfl, hwf2⟩ := open_int Tryz.underlying3 (hval 2 3 v2 rfl rfl) h2
 have b2 : i64 x2 := by
  have e1 : IntKind.i64.min = -9223372036854775808 := rfl
  have e2 : IntKind.i64.max = 9223372036854775807 := rfl
  simp [Lit.wf, e1, e2] at hwf2
  unfold i64
  omega
 have h3k := h3
 obtain ⟨x3, rfl, rfl, rfl, hwf3⟩ := open_int Tryz.underlying3 (hval 3 3 v3 rfl rfl) h3
 have b3 : i64 x3 := by
  have e1 : IntKind.i64.min = -9223372036854775808 := rfl
  have e2 : IntKind.i64.max = 9223372036854775807 := rfl
  simp [Lit.wf, e1, e2] at hwf3
  unfold i64
  omega
 have h4k := h4
 obtain ⟨x4, rfl, rfl, rfl, hwf4⟩ := open_int Tryz.underlying3 (hval 4 3 v4 rfl rfl) h4
 have b4 : i64 x4 := by
  have e1 : IntKind.i64.min = -9223372036854775808 := rfl
  have e2 : IntKind.i64.max = 9223372036854775807 := rfl
  simp [Lit.wf, e1, e2] at hwf4
  unfold i64
  omega
 clear hA0
 refine ((lawMatchesW x0 x1 x2 x3 x4 b0 b1 b2 b3 b4 s0).callsG W [v0, v1, .int .i64 x2, .int .i64 x3, .int .i64 x4] (vars hL) (.cons e0 (.cons e1 (.cons (.int _ _) (.cons (.int _ _) (.cons (.int _ _) .nil)))))).mono ?_
 rintro e W' ⟨rfl, hk⟩
 refine ⟨_, rfl, _, _, _, [], p0 ++ (p1 ++ ([] ++ ([] ++ ([] ++ [])))), [], hW', ?_, ?_, ?_, hk.frame _, fun h => by cases h⟩
 ·exact trodAll_cons_mk (shut_bool Tryz.underlying4 _) trodAll_mk0
 ·exact trodAll_cons_mk (Kept.trod laidOut (by kernel_rfl) (of_decide_eq_true (by kernel_rfl)) h0k hk) (trodAll_cons_mk (Kept.trod laidOut (by kernel_rfl) (of_decide_eq_true (by kernel_rfl)) h1k hk) (trodAll_cons_mk (Kept.trod laidOut (by kernel_rfl) (of_decide_eq_true (by kernel_rfl)) h2k hk) (trodAll_cons_mk (Kept.trod laidOut (by kernel_rfl) (of_decide_eq_true (by kernel_rfl)) h3k hk) (trodAll_cons_mk (Kept.trod laidOut (by kernel_rfl) (of_decide_eq_true (by kernel_rfl)) h4k hk) trodAll_mk0))))
 ·rfl
noncomputable def laidWorld (os : Os) : World :=
 let N := (World.settled Tryz.prog os).heap.size
 let w0 := World.holding Tryz.prog os ⟨#[
  .cells #[.string ⟨#[105, 110, 118, 97, 108, 105, 100, 32, 115, 121, 110, 116, 97, 120]⟩] 184,
  .cells #[.string ⟨#[118, 97, 108, 117, 101, 32, 111, 117, 116, 32, 111, 102, 32, 114, 97, 110, 103, 101]⟩] 184], #[], []⟩
 let put (h : Array Obj) (g : Nat) (cs : Array Value) : Array Obj := h.modify g fun
  | .cells _ t frozen => .cells cs t frozen
  | o => o
 let nums (d : DataW Unit) : Array Value := match d with
  | .agg ds => (ds.map fun
   | .lit (.int k n) => Value.int k n
   | _ => .bool false).toArray
  | _ => #[]
 let h0 := put (put w0.heap 0 #[.iface 182 (.pointer (some ⟨N, 0, none⟩))]) 1 #[.iface 182 (.pointer (some ⟨N + 1, 0, none⟩))]
 let h1 := put h0 2 (nums Rows.laid_internal_strconv_uint64pow10)
 let h2 := put h1 3 (nums Rows.laid_math_bits_deBruijn32tab)
 let h3 := put h2 4 (nums Rows.laid_math_bits_deBruijn64tab)
 { w0 with heap := h3 }
noncomputable abbrev N0 : Nat := (World.settled Tryz.prog default).heap.size
theorem laid_met (os : Os) (args : Array Value) : laidMet Tryz.prog Rows.diffMatchesRow.laid ((laidWorld os).forCall (fun _ _ => 0) ⟨#[], args, []⟩).memory :=
 (LaidIn.of_run (l := Rows.diffMatchesRow.laid) [0, 1, 2, 3, 4, N0, N0 + 1] 8 (by kernel_rfl) (by kernel_rfl) (by kernel_rfl) (by kernel_rfl)).met
noncomputable abbrev wargs : Array Value := #[.slice none 0 0, .slice none 0 0, .int .i64 0, .int .i64 0, .int .i64 0]
theorem reads (os : Os) {H : Type} (enc : TypeId × Value → H) : ∃ places, DataW.whole enc Tryz.prog ((laidWorld os).forCall (fun _ _ => 0) ⟨#[], wargs, []⟩).memory Tryz.f4.params.toList Rows.diffMatchesSpec.vars false wargs.toList 8 = some ([.nil, .nil, .lit (.int .i64 0), .lit (.int .i64 0), .lit (.int .i64 0)], [], places) :=
 ⟨[], by kernel_rfl⟩
set_option maxRecDepth 100000 in
theorem lifted (os : Os) (started : os.Started) (H : Type) (enc : TypeId × Value → H) (F : Stop.Interp) :
  ReturnsInHanded {} Tryz.checked os 4 .any ((OpenSpec.ofChange Rows.diffMatchesSpec).preRow enc Tryz.prog Tryz.f4 Rows.diffMatchesRow.domain false Rows.diffMatchesRow.laid) (((OpenSpec.ofChange Rows.diffMatchesSpec).at F).post enc Tryz.prog Tryz.f4 false true false false) := by
 obtain ⟨places, hx⟩ := reads os enc
 refine returnsInHanded_of_row (C := Tryz.checked) (s := OpenSpec.ofChange Rows.diffMatchesSpec) own started (by kernel_rfl) Tryz.func4
  (witness_row_atRef (enc := enc) (C := Tryz.checked) false (laidWorld os) wargs rfl (by kernel_rfl) (by kernel_rfl) (by kernel_rfl)
   (OpenSpec.preRow_of_cond 8 hx (by kernel_rfl) (fun k hk => by cases hk) (by kernel_rfl) (laid_met os _))) ?_
 intro W base args ds gs before hval hW _ _ hsz hL _ _
 exact contract H enc W base args ds gs before hval hW hL _ hsz
theorem said : Rows.DiffMatchesSaid :=
 OpenClaim.holds_of_cond 4 Tryz.f4 rfl rfl rfl rfl rfl rfl rfl ⟨rfl, rfl, rfl, rfl, rfl⟩ rfl rfl rfl rfl rfl (by kernel_rfl) Tryz.func4 (by kernel_rfl)
  (of_decide_eq_true (by kernel_rfl)) (by unfold Func.isWrapper; first | (rw [if_pos (by decide +kernel)]; kernel_rfl) | (rw [if_neg (by decide +kernel)]; exact ⟨rfl, rfl⟩))
  (fun os started H enc _ F => by rw [OpenClaim.pre_eq_preRow]; exact lifted os started H enc F)
theorem plain (f : FuncId) (fn : Func) (hf : Tryz.pinned.checked.prog.funcNamed "refuter/refuterlaw31.DiffMatches" = some f) (hfn : Tryz.pinned.checked.prog.funcs[f]? = some fn) :
  true = Tryz.pinned.checked.prog.looks [] ∧ ∀ (j : Nat) t, fn.params[j]? = some t → Tryz.pinned.checked.prog.wantsStandIn t = false := by
 obtain rfl : f = 4 := Option.some.inj ((show Tryz.prog.funcNamed "refuter/refuterlaw31.DiffMatches" = some 4 by kernel_rfl).symm.trans hf) |>.symm
 obtain rfl : fn = Tryz.f4 := (Option.some.inj (Tryz.func4.symm.trans hfn)).symm
 refine ⟨by kernel_rfl, fun j t ht => ?_⟩
 rw [Tryz.params4] at ht
 have hTI : Tryz.prog.wantsStandIn 22 = false := by kernel_rfl
 have hTi : Tryz.prog.wantsStandIn 3 = false := by kernel_rfl
 have hm := Array.mem_of_getElem? ht
 simp at hm
 repeat' (first | (rw [(hm : t = 22)]; exact hTI) | (rw [(hm : t = 3)]; exact hTi) | rcases hm with hm | hm)
theorem card : Rows.DiffMatchesCardSaid :=
 Claim7.holds_tied_plain_at .later [] _ _ _ _ said (fun _ h => by cases h) (by kernel_rfl) (fun _ h => by cases h) diffMatches_row_tie rfl ⟨rfl, rfl⟩ (by kernel_rfl) rfl plain (by kernel_rfl)
end Go.Proofs.YtnookkohfkjbcaaGreatDoor.DiffMatches
