/- A part of the proof. -/
import Derived.Test.YtnookkohfkjbcaaGreatDoorAx15
set_option linter.unusedVariables false
namespace Go.Proofs.YtnookkohfkjbcaaGreatDoor
open Go Go.Ax Go.Proofs
set_option maxRecDepth 100000
set_option maxHeartbeats 8000000
theorem sEqI (l m : List Int) (hl : l.length ≤ 4294967296) : PureC Tryz.prog [] 60 [.il 1 (encI l), .il 1 (encI m)] (.bool (decide (l = m))) := by
 refine acalls_go nnΓ Tryz.func60 rfl ?_
 ((conv=>whnf);repeat(refine Xg ?_;conv=>whnf))
 refine bcs_mk (fun h => ?_) (fun h => ?_)
 ·have h1 : l.length ≠ m.length := by rw [encI_length, encI_length] at h; simp at h; omega
  rw [decide_eq_false (fun e => h1 (by rw [e]))]
  ((conv=>whnf);repeat(refine Xg ?_;conv=>whnf))
  exact fin_pure nn ⟨rfl, rfl, rfl⟩
 ·have h1 : l.length = m.length := by rw [encI_length, encI_length] at h; simp at h; omega
  ((conv=>whnf);repeat(refine Xg ?_;conv=>whnf))
  refine ALoop.at nnΓ (fun i : Nat => i ≤ l.length ∧ decide (l = m) = decide (l.drop i = m.drop i)) (fun i => ⟨[(0, .il 1 (encI l)), (1, .il 1 (encI m)), (12, .int .i64 l.length), (13, .int .i64 i)], [], 0, 26⟩) (fun i => l.length - i) 0 [] ⟨by simp, by simp⟩
   (conv_pure ⟨⟨_, rfl, .same _ (.il' (encI_nn _))⟩, ⟨_, rfl, .same _ (.il' (encI_nn _))⟩, ⟨_, rfl, .int (by rw [encI_length])⟩, ⟨_, rfl, .same _ nn⟩, trivial⟩) ?_
  rintro i ⟨hi, hs⟩
  ((conv=>whnf);repeat(refine Xg ?_;conv=>whnf))
  refine bcs_mk (fun hb => ?_) (fun hb => ?_)
  ·have hil : i < l.length := by simpa using hb
   have ep : (encI l)[((i : Nat) : Int).toNat]? = some (.int .i64 l[i]) := by simp [encI_get, List.getElem?_eq_getElem hil]
   have eq : (encI m)[((i : Nat) : Int).toNat]? = some (.int .i64 (m[i])) := by simp [encI_get, List.getElem?_eq_getElem (show i < m.length by omega)]
   rw [List.drop_eq_getElem_cons hil, List.drop_eq_getElem_cons (show i < m.length by omega)] at hs
   generalize l[i] = p at ep hs
   generalize m[i] = q at eq hs
   ((conv=>whnf);repeat(refine Xg ?_;conv=>whnf))
   repeat ((first | refine opt_mk ep ?_ | refine opt_mk eq ?_ | refine ⟨rfl, ?_⟩); ((conv=>whnf);repeat(refine Xg ?_;conv=>whnf)))
   refine bcs_mk (fun h => ?_) (fun h => ?_)
   ·have hne : p ≠ q := by simpa using h
    rw [hs, decide_eq_false (fun e => hne (List.cons.inj e).1)]
    ((conv=>whnf);repeat(refine Xg ?_;conv=>whnf))
    exact fin_pure nn ⟨rfl, rfl, rfl⟩
   ·have hne : p = q := by simpa using h
    subst hne
    ((conv=>whnf);repeat(refine Xg ?_;conv=>whnf))
    exact .mk (i + 1) [] ⟨by omega, by rw [hs]; simp⟩ (conv_pure ⟨⟨_, rfl, .same _ (.il' (encI_nn _))⟩, ⟨_, rfl, .same _ (.il' (encI_nn _))⟩, ⟨_, rfl, .same _ nn⟩, ⟨_, rfl, .w64 (by omega) ⟨by omega, by omega⟩⟩, trivial⟩) (by omega)
  ·have hil : i = l.length := by simp at hb; omega
   rw [hil, List.drop_length, h1, List.drop_length] at hs
   rw [hs]
   ((conv=>whnf);repeat(refine Xg ?_;conv=>whnf))
   exact fin_pure nn ⟨rfl, rfl, rfl⟩
theorem sEqS (l m : List (List UInt8)) (hl : l.length ≤ 4294967296) : PureC Tryz.prog [] 61 [.il 1 (encS l), .il 1 (encS m)] (.bool (decide (l = m))) := by
 refine acalls_go nnΓ Tryz.func61 rfl ?_
 ((conv=>whnf);repeat(refine Xg ?_;conv=>whnf))
 refine bcs_mk (fun h => ?_) (fun h => ?_)
 ·have h1 : l.length ≠ m.length := by rw [encS_length, encS_length] at h; simp at h; omega
  rw [decide_eq_false (fun e => h1 (by rw [e]))]
  ((conv=>whnf);repeat(refine Xg ?_;conv=>whnf))
  exact fin_pure nn ⟨rfl, rfl, rfl⟩
 ·have h1 : l.length = m.length := by rw [encS_length, encS_length] at h; simp at h; omega
  ((conv=>whnf);repeat(refine Xg ?_;conv=>whnf))
  refine ALoop.at nnΓ (fun i : Nat => i ≤ l.length ∧ decide (l = m) = decide (l.drop i = m.drop i)) (fun i => ⟨[(0, .il 1 (encS l)), (1, .il 1 (encS m)), (12, .int .i64 l.length), (13, .int .i64 i)], [], 0, 26⟩) (fun i => l.length - i) 0 [] ⟨by simp, by simp⟩
   (conv_pure ⟨⟨_, rfl, .same _ (.il' (encS_nn _))⟩, ⟨_, rfl, .same _ (.il' (encS_nn _))⟩, ⟨_, rfl, .int (by rw [encS_length])⟩, ⟨_, rfl, .same _ nn⟩, trivial⟩) ?_
  rintro i ⟨hi, hs⟩
  ((conv=>whnf);repeat(refine Xg ?_;conv=>whnf))
  refine bcs_mk (fun hb => ?_) (fun hb => ?_)
  ·have hil : i < l.length := by simpa using hb
   have ep : (encS l)[((i : Nat) : Int).toNat]? = some (.str l[i]) := by simp [encS_get, List.getElem?_eq_getElem hil]
   have eq : (encS m)[((i : Nat) : Int).toNat]? = some (.str (m[i])) := by simp [encS_get, List.getElem?_eq_getElem (show i < m.length by omega)]
   rw [List.drop_eq_getElem_cons hil, List.drop_eq_getElem_cons (show i < m.length by omega)] at hs
   generalize l[i] = p at ep hs
   generalize m[i] = q at eq hs
   ((conv=>whnf);repeat(refine Xg ?_;conv=>whnf))
   repeat ((first | refine opt_mk ep ?_ | refine opt_mk eq ?_ | refine ⟨rfl, ?_⟩); ((conv=>whnf);repeat(refine Xg ?_;conv=>whnf)))
   refine bcs_mk (fun h => ?_) (fun h => ?_)
   ·have hne : p ≠ q := by simpa using h
    rw [hs, decide_eq_false (fun e => hne (List.cons.inj e).1)]
    ((conv=>whnf);repeat(refine Xg ?_;conv=>whnf))
    exact fin_pure nn ⟨rfl, rfl, rfl⟩
   ·have hne : p = q := by simpa using h
    subst hne
    ((conv=>whnf);repeat(refine Xg ?_;conv=>whnf))
    exact .mk (i + 1) [] ⟨by omega, by rw [hs]; simp⟩ (conv_pure ⟨⟨_, rfl, .same _ (.il' (encS_nn _))⟩, ⟨_, rfl, .same _ (.il' (encS_nn _))⟩, ⟨_, rfl, .same _ nn⟩, ⟨_, rfl, .w64 (by omega) ⟨by omega, by omega⟩⟩, trivial⟩) (by omega)
  ·have hil : i = l.length := by simp at hb; omega
   rw [hil, List.drop_length, h1, List.drop_length] at hs
   rw [hs]
   ((conv=>whnf);repeat(refine Xg ?_;conv=>whnf))
   exact fin_pure nn ⟨rfl, rfl, rfl⟩
theorem rEqI (l m : List Int) (hl : l.length ≤ 4294967296) : PureC Tryz.prog [] 37 [.il 1 (encI l), .il 1 (encI m)] (.bool (decide (l = m))) := by
 refine acalls_go nnΓ Tryz.func37 rfl ?_
 ((conv=>whnf);repeat(refine Xg ?_;conv=>whnf))
 refine bcs_mk (fun h => ?_) (fun h => ?_)
 ·have h1 : l.length ≠ m.length := by rw [encI_length, encI_length] at h; simp at h; omega
  rw [decide_eq_false (fun e => h1 (by rw [e]))]
  ((conv=>whnf);repeat(refine Xg ?_;conv=>whnf))
  exact fin_pure nn ⟨rfl, rfl, rfl⟩
 ·have h1 : l.length = m.length := by rw [encI_length, encI_length] at h; simp at h; omega
  ((conv=>whnf);repeat(refine Xg ?_;conv=>whnf))
  refine ALoop.at nnΓ (fun i : Nat => i ≤ l.length ∧ decide (l = m) = decide (l.drop i = m.drop i)) (fun i => ⟨[(0, .il 1 (encI l)), (1, .il 1 (encI m)), (5, .int .i64 i)], [], 0, 26⟩) (fun i => l.length - i) 0 [] ⟨by simp, by simp⟩
   (conv_pure ⟨⟨_, rfl, .same _ (.il' (encI_nn _))⟩, ⟨_, rfl, .same _ (.il' (encI_nn _))⟩, ⟨_, rfl, .same _ nn⟩, trivial⟩) ?_
  rintro i ⟨hi, hs⟩
  ((conv=>whnf);repeat(refine Xg ?_;conv=>whnf))
  refine bcs_mk (fun hb => ?_) (fun hb => ?_)
  ·have hil : i < l.length := by rw [encI_length] at hb; simpa using hb
   have ep : (encI l)[((i : Nat) : Int).toNat]? = some (.int .i64 l[i]) := by simp [encI_get, List.getElem?_eq_getElem hil]
   have eq : (encI m)[((i : Nat) : Int).toNat]? = some (.int .i64 (m[i])) := by simp [encI_get, List.getElem?_eq_getElem (show i < m.length by omega)]
   rw [List.drop_eq_getElem_cons hil, List.drop_eq_getElem_cons (show i < m.length by omega)] at hs
   generalize l[i] = p at ep hs
   generalize m[i] = q at eq hs
   ((conv=>whnf);repeat(refine Xg ?_;conv=>whnf))
   repeat ((first | refine opt_mk ep ?_ | refine opt_mk eq ?_ | refine ⟨rfl, ?_⟩); ((conv=>whnf);repeat(refine Xg ?_;conv=>whnf)))
   refine bcs_mk (fun h => ?_) (fun h => ?_)
   ·have hne : p ≠ q := by simpa using h
    rw [hs, decide_eq_false (fun e => hne (List.cons.inj e).1)]
    ((conv=>whnf);repeat(refine Xg ?_;conv=>whnf))
    exact fin_pure nn ⟨rfl, rfl, rfl⟩
   ·have hne : p = q := by simpa using h
    subst hne
    ((conv=>whnf);repeat(refine Xg ?_;conv=>whnf))
    exact .mk (i + 1) [] ⟨by omega, by rw [hs]; simp⟩ (conv_pure ⟨⟨_, rfl, .same _ (.il' (encI_nn _))⟩, ⟨_, rfl, .same _ (.il' (encI_nn _))⟩, ⟨_, rfl, .w64 (by omega) ⟨by omega, by omega⟩⟩, trivial⟩) (by omega)
  ·have hil : i = l.length := by rw [encI_length] at hb; simp at hb; omega
   rw [hil, List.drop_length, h1, List.drop_length] at hs
   rw [hs]
   ((conv=>whnf);repeat(refine Xg ?_;conv=>whnf))
   exact fin_pure nn ⟨rfl, rfl, rfl⟩
theorem rEqS (l m : List (List UInt8)) (hl : l.length ≤ 4294967296) : PureC Tryz.prog [] 54 [.il 1 (encS l), .il 1 (encS m)] (.bool (decide (l = m))) := by
 refine acalls_go nnΓ Tryz.func54 rfl ?_
 ((conv=>whnf);repeat(refine Xg ?_;conv=>whnf))
 refine bcs_mk (fun h => ?_) (fun h => ?_)
 ·have h1 : l.length ≠ m.length := by rw [encS_length, encS_length] at h; simp at h; omega
  rw [decide_eq_false (fun e => h1 (by rw [e]))]
  ((conv=>whnf);repeat(refine Xg ?_;conv=>whnf))
  exact fin_pure nn ⟨rfl, rfl, rfl⟩
 ·have h1 : l.length = m.length := by rw [encS_length, encS_length] at h; simp at h; omega
  ((conv=>whnf);repeat(refine Xg ?_;conv=>whnf))
  refine ALoop.at nnΓ (fun i : Nat => i ≤ l.length ∧ decide (l = m) = decide (l.drop i = m.drop i)) (fun i => ⟨[(0, .il 1 (encS l)), (1, .il 1 (encS m)), (5, .int .i64 i)], [], 0, 26⟩) (fun i => l.length - i) 0 [] ⟨by simp, by simp⟩
   (conv_pure ⟨⟨_, rfl, .same _ (.il' (encS_nn _))⟩, ⟨_, rfl, .same _ (.il' (encS_nn _))⟩, ⟨_, rfl, .same _ nn⟩, trivial⟩) ?_
  rintro i ⟨hi, hs⟩
  ((conv=>whnf);repeat(refine Xg ?_;conv=>whnf))
  refine bcs_mk (fun hb => ?_) (fun hb => ?_)
  ·have hil : i < l.length := by rw [encS_length] at hb; simpa using hb
   have ep : (encS l)[((i : Nat) : Int).toNat]? = some (.str l[i]) := by simp [encS_get, List.getElem?_eq_getElem hil]
   have eq : (encS m)[((i : Nat) : Int).toNat]? = some (.str (m[i])) := by simp [encS_get, List.getElem?_eq_getElem (show i < m.length by omega)]
   rw [List.drop_eq_getElem_cons hil, List.drop_eq_getElem_cons (show i < m.length by omega)] at hs
   generalize l[i] = p at ep hs
   generalize m[i] = q at eq hs
   ((conv=>whnf);repeat(refine Xg ?_;conv=>whnf))
   repeat ((first | refine opt_mk ep ?_ | refine opt_mk eq ?_ | refine ⟨rfl, ?_⟩); ((conv=>whnf);repeat(refine Xg ?_;conv=>whnf)))
   refine bcs_mk (fun h => ?_) (fun h => ?_)
   ·have hne : p ≠ q := by simpa using h
    rw [hs, decide_eq_false (fun e => hne (List.cons.inj e).1)]
    ((conv=>whnf);repeat(refine Xg ?_;conv=>whnf))
    exact fin_pure nn ⟨rfl, rfl, rfl⟩
   ·have hne : p = q := by simpa using h
    subst hne
    ((conv=>whnf);repeat(refine Xg ?_;conv=>whnf))
    exact .mk (i + 1) [] ⟨by omega, by rw [hs]; simp⟩ (conv_pure ⟨⟨_, rfl, .same _ (.il' (encS_nn _))⟩, ⟨_, rfl, .same _ (.il' (encS_nn _))⟩, ⟨_, rfl, .w64 (by omega) ⟨by omega, by omega⟩⟩, trivial⟩) (by omega)
  ·have hil : i = l.length := by rw [encS_length] at hb; simp at hb; omega
   rw [hil, List.drop_length, h1, List.drop_length] at hs
   rw [hs]
   ((conv=>whnf);repeat(refine Xg ?_;conv=>whnf))
   exact fin_pure nn ⟨rfl, rfl, rfl⟩
set_option maxHeartbeats 8000000
theorem eqg105 : Tryz.prog.eqGuardType Tryz.prog.depth 105 = false := by kernel_rfl
theorem dExact (x y : Nd) (hx : okN x) (hy : okN y) : PureC Tryz.prog [] 39 [.ip (encN x), .ip (encN y)] (.bool (exactN x y)) := by
 have h1 := sEqI x.weights y.weights hx.weights
 have h2 := sEqS x.labels y.labels hx.labels
 have h3 := dEqualFunc x.values y.values hx.values hy.values (fun a ha => (hx.valuesI a ha).1)
 have h4 := dEq0 x.value y.value hx.value
 have hres : exactN x y = ((decide (x.kind = y.kind) && (decide (x.lo = y.lo) && (decide (x.hi = y.hi) && (decide (x.kids.length = y.kids.length) && decide (x.name = y.name))))) && decide (x.weights = y.weights) && decide (x.labels = y.labels) && sameVs x.values y.values && (cmpV x.value y.value == 0)) := rfl
 generalize exactN x y = res at hres ⊢
 generalize decide (x.weights = y.weights) = b1 at h1 hres
 generalize decide (x.labels = y.labels) = b2 at h2 hres
 generalize sameVs x.values y.values = b3 at h3 hres
 generalize (cmpV x.value y.value == 0) = b4 at h4 hres
 have hxn := encN_nn x
 have hyn := encN_nn y
 clear hx hy
 obtain ⟨kind, name, lo, hi', ws, lbs, vals, kids, ⟨vk, vn, vs, vks⟩⟩ := x
 obtain ⟨kind2, name2, lo2, hi2, ws2, lbs2, vals2, kids2, ⟨vk2, vn2, vs2, vks2⟩⟩ := y
 simp only at h1 h2 h3 h4 hres
 refine acalls_go nnΓ Tryz.func39 rfl ?_
 ((conv=>whnf);repeat(refine Xg ?_;conv=>whnf))
 rw [eqg105]
 ((conv=>whnf);repeat(refine Xg ?_;conv=>whnf))
 have hc : (kind == kind2 && (lo == lo2 && (hi' == hi2 && (((encI kids).length : Int) == ((encI kids2).length : Int) && (name == name2 && true))))) = (decide (kind = kind2) && (decide (lo = lo2) && (decide (hi' = hi2) && (decide (kids.length = kids2.length) && decide (name = name2))))) := by
  rw [encI_length, encI_length, Bool.eq_iff_iff]
  simp
  omega
 rw [hc]
 generalize (decide (kind = kind2) && (decide (lo = lo2) && (decide (hi' = hi2) && (decide (kids.length = kids2.length) && decide (name = name2))))) = b0 at hres ⊢
 clear hc
 cases b0 with
 | false =>
  ((conv=>whnf);repeat(refine Xg ?_;conv=>whnf))
  exact fin_pure nn ⟨by rw [hres]; simp, rfl, rfl⟩
 | true =>
 ((conv=>whnf);repeat(refine Xg ?_;conv=>whnf))
 refine h1.go ?_
 cases b1 with
 | false =>
  ((conv=>whnf);repeat(refine Xg ?_;conv=>whnf))
  exact fin_pure nn ⟨by rw [hres]; simp, rfl, rfl⟩
 | true =>
 ((conv=>whnf);repeat(refine Xg ?_;conv=>whnf))
 refine h2.go ?_ (.cons (.il' (encS_nn _)) (.cons (.il' (encS_nn _)) .nil))
 cases b2 with
 | false =>
  ((conv=>whnf);repeat(refine Xg ?_;conv=>whnf))
  exact fin_pure nn ⟨by rw [hres]; simp, rfl, rfl⟩
 | true =>
 ((conv=>whnf);repeat(refine Xg ?_;conv=>whnf))
 refine h3.go ?_
 cases b3 with
 | false =>
  ((conv=>whnf);repeat(refine Xg ?_;conv=>whnf))
  exact fin_pure nn ⟨by rw [hres]; simp, rfl, rfl⟩
 | true =>
 ((conv=>whnf);repeat(refine Xg ?_;conv=>whnf))
 refine h4.go ?_
 ((conv=>whnf);repeat(refine Xg ?_;conv=>whnf))
 exact fin_pure nn ⟨by rw [hres]; simp, rfl, rfl⟩
set_option maxHeartbeats 8000000
theorem rSameNode (x y : Nd) (hx : okN x) (hy : okN y) (hxk : x.kids = []) (hyk : y.kids = []) : PureC Tryz.prog [] 36 [encN x, encN y] (.bool (exactN x y)) := by
 have h1 := rEqI x.weights y.weights hx.weights
 have h2 := rEqS x.labels y.labels hx.labels
 have h3 := rSameVs x.values y.values hx.values (fun a ha => (hx.valuesI a ha).1)
 have h4 := rCompare x.value y.value hx.value
 have h5 := rEqI x.kids y.kids hx.kids
 rw [hxk, hyk] at h5
 have hres : exactN x y = ((decide (x.kind = y.kind) && (decide (x.lo = y.lo) && (decide (x.hi = y.hi) && (decide (x.kids.length = y.kids.length) && decide (x.name = y.name))))) && decide (x.weights = y.weights) && decide (x.labels = y.labels) && sameVs x.values y.values && (cmpV x.value y.value == 0)) := rfl
 rw [hxk, hyk] at hres
 generalize exactN x y = res at hres ⊢
 generalize decide (x.weights = y.weights) = b1 at h1 hres
 generalize decide (x.labels = y.labels) = b2 at h2 hres
 generalize sameVs x.values y.values = b3 at h3 hres
 generalize cmpV x.value y.value = c4 at h4 hres
 have hxn := encN_nn x
 have hyn := encN_nn y
 clear hx hy
 obtain ⟨kind, name, lo, hi', ws, lbs, vals, kids, ⟨vk, vn, vs, vks⟩⟩ := x
 obtain ⟨kind2, name2, lo2, hi2, ws2, lbs2, vals2, kids2, ⟨vk2, vn2, vs2, vks2⟩⟩ := y
 simp only at h1 h2 h3 h4 hres hxk hyk
 subst hxk hyk
 refine acalls_go nnΓ Tryz.func36 rfl ?_
 ((conv=>whnf);repeat(refine Xg ?_;conv=>whnf))
 refine h1.go ?_
 ((conv=>whnf);repeat(refine Xg ?_;conv=>whnf))
 refine h2.go ?_ (.cons (.il' (encS_nn _)) (.cons (.il' (encS_nn _)) .nil))
 ((conv=>whnf);repeat(refine Xg ?_;conv=>whnf))
 refine h3.go ?_
 ((conv=>whnf);repeat(refine Xg ?_;conv=>whnf))
 refine h5.go ?_
 ((conv=>whnf);repeat(refine Xg ?_;conv=>whnf))
 cases b1 with
 | false =>
  ((conv=>whnf);repeat(refine Xg ?_;conv=>whnf))
  exact fin_pure nn ⟨by rw [hres]; simp, rfl, rfl⟩
 | true =>
 cases b2 with
 | false =>
  ((conv=>whnf);repeat(refine Xg ?_;conv=>whnf))
  exact fin_pure nn ⟨by rw [hres]; simp, rfl, rfl⟩
 | true =>
 cases b3 with
 | false =>
  ((conv=>whnf);repeat(refine Xg ?_;conv=>whnf))
  exact fin_pure nn ⟨by rw [hres]; simp, rfl, rfl⟩
 | true =>
 ((conv=>whnf);repeat(refine Xg ?_;conv=>whnf))
 by_cases e1 : kind = kind2
 ·rw [show (kind == kind2) = true by simpa using e1]
  rw [decide_eq_true e1] at hres
  ((conv=>whnf);repeat(refine Xg ?_;conv=>whnf))
  by_cases e2 : name = name2
  ·rw [show (name == name2) = true by simpa using e2]
   rw [decide_eq_true e2] at hres
   ((conv=>whnf);repeat(refine Xg ?_;conv=>whnf))
   by_cases e3 : lo = lo2
   ·rw [show (lo == lo2) = true by simpa using e3]
    rw [decide_eq_true e3] at hres
    ((conv=>whnf);repeat(refine Xg ?_;conv=>whnf))
    by_cases e4 : hi' = hi2
    ·rw [show (hi' == hi2) = true by simpa using e4]
     rw [decide_eq_true e4] at hres
     ((conv=>whnf);repeat(refine Xg ?_;conv=>whnf))
     refine h4.go ?_
     ((conv=>whnf);repeat(refine Xg ?_;conv=>whnf))
     exact fin_pure nn ⟨by rw [hres]; simp, rfl, rfl⟩
    ·rw [show (hi' == hi2) = false by simpa using e4]
     rw [decide_eq_false e4] at hres
     ((conv=>whnf);repeat(refine Xg ?_;conv=>whnf))
     exact fin_pure nn ⟨by rw [hres]; simp, rfl, rfl⟩
   ·rw [show (lo == lo2) = false by simpa using e3]
    rw [decide_eq_false e3] at hres
    ((conv=>whnf);repeat(refine Xg ?_;conv=>whnf))
    exact fin_pure nn ⟨by rw [hres]; simp, rfl, rfl⟩
  ·rw [show (name == name2) = false by simpa using e2]
   rw [decide_eq_false e2] at hres
   ((conv=>whnf);repeat(refine Xg ?_;conv=>whnf))
   exact fin_pure nn ⟨by rw [hres]; simp, rfl, rfl⟩
 ·rw [show (kind == kind2) = false by simpa using e1]
  rw [decide_eq_false e1] at hres
  ((conv=>whnf);repeat(refine Xg ?_;conv=>whnf))
  exact fin_pure nn ⟨by rw [hres]; simp, rfl, rfl⟩
set_option maxHeartbeats 8000000
theorem treeIn_val {A : List Nd} (h : TreeIn A) : ValIn A := ⟨h.ok, h.val, h.vals, fun x hx => by have := h.vlen x hx; omega, fun x hx => by have := h.klen x hx; omega⟩
theorem dUsable (A : List Nd) (h : TreeIn A) : PureC Tryz.prog [] 33 [.agg [.il 12 (encNs A)]] (.bool (usableT A)) := by
 have hV := tValid A (treeIn_val h)
 have hu : usableT A = (decide (0 < A.length) && decide (validT A = 0)) := rfl
 generalize usableT A = u at hu ⊢
 generalize validT A = vt at hV hu
 refine acalls_go nnΓ Tryz.func33 rfl ?_
 ((conv=>whnf);repeat(refine Xg ?_;conv=>whnf))
 rw [encNs_length]
 by_cases h0 : 0 < A.length
 ·rw [decide_eq_true h0] at hu
  rw [show decide ((A.length : Int) > 0) = true by simp; omega]
  ((conv=>whnf);repeat(refine Xg ?_;conv=>whnf))
  refine hV.go ?_ (.cons (.agg' (.cons (.il' (encNs_nn _)) .nil)) .nil)
  ((conv=>whnf);repeat(refine Xg ?_;conv=>whnf))
  exact fin_pure nn ⟨by rw [hu, Bool.true_and, show (vt == 0) = decide (vt = 0) by rw [Bool.eq_iff_iff]; simp], rfl, rfl⟩
 ·rw [decide_eq_false h0] at hu
  rw [show decide ((A.length : Int) > 0) = false by rw [decide_eq_false_iff_not]; omega]
  ((conv=>whnf);repeat(refine Xg ?_;conv=>whnf))
  exact fin_pure nn ⟨by rw [hu]; simp, rfl, rfl⟩
theorem map_take_snoc {α β : Type} (f : α → β) {l : List α} {k : Nat} {a : α} (h : l[k]? = some a) : (l.take (k + 1)).map f = (l.take k).map f ++ [f a] := by
 obtain ⟨h1, h2⟩ := List.getElem?_eq_some_iff.1 h
 rw [List.take_succ_eq_append_getElem h1, List.map_append, h2]; rfl
theorem encBs_snoc (l : List Bool) (b : Bool) : encBs (l ++ [b]) = encBs l ++ [.bool b] := by simp [encBs]
theorem encI_snoc (l : List Int) (b : Int) : encI (l ++ [b]) = encI l ++ [.int .i64 b] := by simp [encI]
theorem dChoices (x y : Nd) (hx : OptN x) (hy : OptN y) (hll : ∀ s ∈ x.labels, s.length ≤ 4294967296) (hbl : y.labels.length ≤ 1000) (hxv : x.values.length ≤ 1000000) (hsy : Srt y.values) (hyv : ∀ v ∈ y.values, okV v) (hyl : y.values.length ≤ 1000000) :
  PureC Tryz.prog gz 35 [.ip (encN x), .ip (encN y)] (.tup [.il 1 (encI ((chN x y).map (·.1))), .il 1 (encBs ((chN x y).map (·.2)))]) := by
 have hO := fun (k : Nat) (h : k ≤ 2000) => dOption x y k ⟨by omega, by omega⟩ hx hy hll hbl
 have hN := fun v => dNearest y.values v (by omega) hyv hsy
 have hch : chN x y = if x.kind = 2 ∧ y.kind = 2 then (List.range x.kids.length).map (fun k : Nat => optR x y k) else if x.kind = 4 ∧ y.kind = 4 then x.values.map (nearI y.values) else [] := rfl
 have hkl := hx.klen
 have hxn := encN_nn x
 have hyn := encN_nn y
 have fin : ∀ (ch : List (Int × Bool)) (mem : Mem) (nx : Nat) (id1 id2 n : Nat), chN x y = ch → ch.length = n → lk mem id1 = some (.row 3 1 (encI (ch.map (·.1)))) → lk mem id2 = some (.row 4 1 (encBs (ch.map (·.2)))) →
   Fini 0 (fun r m n => r = .tup [.il 1 (encI ((chN x y).map (·.1))), .il 1 (encBs ((chN x y).map (·.2)))] ∧ m = [] ∧ n = 0) (.tup [.sl id1 0 n, .sl id2 0 n]) mem nx := by
  rintro ch mem nx id1 id2 n rfl rfl h1 h2
  exact fin_cv (.tup' (.cons (.fz' h1 rfl (by rw [encI_length]; simp) (by rw [List.drop_zero]; exact List.take_of_length_le (by rw [encI_length]; simp)) (encI_nn _)) (.cons (.fz' h2 rfl (by rw [encBs_length]; simp) (by rw [List.drop_zero]; exact List.take_of_length_le (by rw [encBs_length]; simp)) (encBs_nn _)) .nil))) ⟨rfl, rfl, rfl⟩
 have finN : ∀ (mem : Mem) (nx : Nat), chN x y = [] → Fini 0 (fun r m n => r = .tup [.il 1 (encI ((chN x y).map (·.1))), .il 1 (encBs ((chN x y).map (·.2)))] ∧ m = [] ∧ n = 0) (.tup [.nsl, .nsl]) mem nx := by
  intro mem nx h
  rw [h]
  exact fin_cv (.tup' (.cons (.nil 1) (.cons (.nil 1) .nil))) ⟨rfl, rfl, rfl⟩
 generalize hchv : chN x y = ch at hch fin finN ⊢
 clear hchv
 generalize optR x y = opf at hO hch
 clear hx hy hll hsy hyv
 obtain ⟨kind, name, lo, hi', ws, lbs, vals, kids, ⟨vk, vn, vs, vks⟩⟩ := x
 obtain ⟨kind2, name2, lo2, hi2, ws2, lbs2, vals2, kids2, ⟨vk2, vn2, vs2, vks2⟩⟩ := y
 simp only at hO hN hch hkl hxv hyl
 refine acalls_go nngz Tryz.func35 rfl ?_
 ((conv=>whnf);repeat(refine Xg ?_;conv=>whnf))
 by_cases k2 : kind = 2
 ·subst k2
  ((conv=>whnf);repeat(refine Xg ?_;conv=>whnf))
  by_cases k2' : kind2 = 2
  ·subst k2'
   rw [if_pos ⟨rfl, rfl⟩] at hch
   ((conv=>whnf);repeat(refine Xg ?_;conv=>whnf))
   refine ALoop.ph 3 1 ?_
   refine ALoop.ph 4 1 ?_
   refine ALoop.at nngz (fun k : Nat => k ≤ kids.length)
    (fun k => ⟨[(0, .ip (encN ⟨2, name, lo, hi', ws, lbs, vals, kids, .mk vk vn vs vks⟩)), (1, .ip (encN ⟨2, name2, lo2, hi2, ws2, lbs2, vals2, kids2, .mk vk2 vn2 vs2 vks2⟩)), (6, .sl 0 0 k), (7, .sl 1 0 k), (32, .int .i64 kids.length), (33, .int .i64 k)],
     [(0, .row 3 1 (encI ((ch.take k).map (·.1)))), (1, .row 4 1 (encBs ((ch.take k).map (·.2))))], 2, 98⟩) (fun k => kids.length - k) 0 [(0, 0), (1, 1)] (by simp)
    (conv_mk _ rfl ⟨⟨0, _, rfl, rfl, .same .nil⟩, ⟨1, _, rfl, rfl, .same .nil⟩, trivial⟩ ⟨⟨_, rfl, .same _ (.ip' hxn)⟩, ⟨_, rfl, .same _ (.ip' hyn)⟩, ⟨_, rfl, .nslk 0 0 _ rfl rfl⟩, ⟨_, rfl, .nslk 1 1 _ rfl rfl⟩, ⟨_, rfl, .int (by rw [encI_length])⟩, ⟨_, rfl, .same _ nn⟩, trivial⟩) ?_
   intro k hk
   ((conv=>whnf);repeat(refine Xg ?_;conv=>whnf))
   refine bcs_mk (fun hb => ?_) (fun hb => ?_)
   ·have hlt : k < kids.length := by simpa using hb
    have hO := hO k (by omega)
    have hck : ch[k]? = some (opf k) := by rw [hch, List.getElem?_map, List.getElem?_range hlt]; rfl
    have hcl : ch.length = kids.length := by rw [hch]; simp
    have e1 := map_take_snoc (·.1) hck
    have e2 := map_take_snoc (·.2) hck
    have hl1 : ((ch.take k).map (·.1)).length = k := by simp; omega
    have hl2 : ((ch.take k).map (·.2)).length = k := by simp; omega
    generalize opf k = c at hO hck e1 e2
    obtain ⟨cn, cb⟩ := c
    ((conv=>whnf);repeat(refine Xg ?_;conv=>whnf))
    refine hO.use nngz (.cons hxn (.cons hyn (.cons nn .nil))) nn ?_
    ((conv=>whnf);repeat(refine Xg ?_;conv=>whnf))
    repeat (refine ⟨rfl, ?_⟩; ((conv=>whnf);repeat(refine Xg ?_;conv=>whnf)))
    refine grd_mk (app_ok rfl rfl (by rw [encI_length, hl1]) (by simp; omega)) ?_
    ((conv=>whnf);repeat(refine Xg ?_;conv=>whnf))
    refine grd_mk (app_ok rfl rfl (by rw [encBs_length, hl2]) (by simp; omega)) ?_
    ((conv=>whnf);repeat(refine Xg ?_;conv=>whnf))
    exact .mk (k + 1) [(16, 0), (18, 1)] (by omega)
     (conv_mk _ rfl ⟨⟨16, _, rfl, rfl, .eq (encI_nn _) (by rw [e1, encI_snoc]; rfl)⟩, ⟨18, _, rfl, rfl, .eq (encBs_nn _) (by rw [e2, encBs_snoc]; rfl)⟩, trivial⟩ ⟨⟨_, rfl, .same _ (.ip' hxn)⟩, ⟨_, rfl, .same _ (.ip' hyn)⟩, ⟨_, rfl, .slE rfl (by simp)⟩, ⟨_, rfl, .slE rfl (by simp)⟩, ⟨_, rfl, .same _ nn⟩, ⟨_, rfl, .w64 (by omega) ⟨by omega, by omega⟩⟩, trivial⟩) (by omega)
   ·have hlt : k = kids.length := by simp at hb; omega
    have hcl : ch.length = kids.length := by rw [hch]; simp
    rw [hlt, List.take_of_length_le (by omega)]
    ((conv=>whnf);repeat(refine Xg ?_;conv=>whnf))
    exact fin ch _ _ 0 1 _ rfl hcl rfl rfl
  ·rw [if_neg (fun h => k2' h.2), if_neg (fun h => absurd h.1 (by decide))] at hch
   rw [show (kind2 == 2) = false by simpa using k2']
   ((conv=>whnf);repeat(refine Xg ?_;conv=>whnf))
   exact finN _ _ hch
 ·rw [if_neg (fun h => k2 h.1)] at hch
  rw [show (kind == 2) = false by simpa using k2]
  ((conv=>whnf);repeat(refine Xg ?_;conv=>whnf))
  by_cases k4 : kind = 4
  ·subst k4
   ((conv=>whnf);repeat(refine Xg ?_;conv=>whnf))
   by_cases k4' : kind2 = 4
   ·subst k4'
    rw [if_pos ⟨rfl, rfl⟩] at hch
    ((conv=>whnf);repeat(refine Xg ?_;conv=>whnf))
    refine ALoop.ph 3 1 ?_
    refine ALoop.ph 4 1 ?_
    refine ALoop.at nngz (fun k : Nat => k ≤ vals.length)
     (fun k => ⟨[(1, .ip (encN ⟨4, name2, lo2, hi2, ws2, lbs2, vals2, kids2, .mk vk2 vn2 vs2 vks2⟩)), (6, .sl 0 0 k), (7, .sl 1 0 k), (72, .il 4 (encVs vals)), (73, .int .i64 vals.length), (74, .int .i64 k)],
      [(0, .row 3 1 (encI ((ch.take k).map (·.1)))), (1, .row 4 1 (encBs ((ch.take k).map (·.2))))], 2, 98⟩) (fun k => vals.length - k) 0 [(0, 0), (1, 1)] (by simp)
     (conv_mk _ rfl ⟨⟨0, _, rfl, rfl, .same .nil⟩, ⟨1, _, rfl, rfl, .same .nil⟩, trivial⟩ ⟨⟨_, rfl, .same _ (.ip' hyn)⟩, ⟨_, rfl, .nslk 0 0 _ rfl rfl⟩, ⟨_, rfl, .nslk 1 1 _ rfl rfl⟩, ⟨_, rfl, .same _ (.il' (encVs_nn _))⟩, ⟨_, rfl, .int (by rw [encVs_length])⟩, ⟨_, rfl, .same _ nn⟩, trivial⟩) ?_
    intro k hk
    ((conv=>whnf);repeat(refine Xg ?_;conv=>whnf))
    refine bcs_mk (fun hb => ?_) (fun hb => ?_)
    ·have hlt : k < vals.length := by simpa using hb
     obtain ⟨v1, v2, v3, v4, vm, vg, -, ev⟩ := enc_cases (l := vals) (k := k) hlt
     have hN := hN (.mk v1 v2 v3 v4)
     have hck : ch[k]? = some (nearI vals2 (.mk v1 v2 v3 v4)) := by rw [hch, List.getElem?_map, vg]; rfl
     have hcl : ch.length = vals.length := by rw [hch]; simp
     have e1 := map_take_snoc (·.1) hck
     have e2 := map_take_snoc (·.2) hck
     have hl1 : ((ch.take k).map (·.1)).length = k := by simp; omega
     have hl2 : ((ch.take k).map (·.2)).length = k := by simp; omega
     unfold nearI at e1 e2
     generalize nearV vals2 (.mk v1 v2 v3 v4) = c at hN e1 e2
     obtain ⟨cn, cb⟩ := c
     simp only at e1 e2 hN
     ((conv=>whnf);repeat(refine Xg ?_;conv=>whnf))
     refine opt_mk ev ?_
     ((conv=>whnf);repeat(refine Xg ?_;conv=>whnf))
     repeat (refine ⟨rfl, ?_⟩; ((conv=>whnf);repeat(refine Xg ?_;conv=>whnf)))
     refine hN.goG ?_
     ((conv=>whnf);repeat(refine Xg ?_;conv=>whnf))
     repeat (refine ⟨rfl, ?_⟩; ((conv=>whnf);repeat(refine Xg ?_;conv=>whnf)))
     refine grd_mk (app_ok rfl rfl (by rw [encI_length, hl1]) (by simp; omega)) ?_
     ((conv=>whnf);repeat(refine Xg ?_;conv=>whnf))
     refine grd_mk (app_ok rfl rfl (by rw [encBs_length, hl2]) (by simp; omega)) ?_
     ((conv=>whnf);repeat(refine Xg ?_;conv=>whnf))
     exact .mk (k + 1) [(15, 0), (17, 1)] (by omega)
      (conv_mk _ rfl ⟨⟨15, _, rfl, rfl, .eq (encI_nn _) (by rw [e1, encI_snoc]; rfl)⟩, ⟨17, _, rfl, rfl, .eq (encBs_nn _) (by rw [e2, encBs_snoc]; rfl)⟩, trivial⟩ ⟨⟨_, rfl, .same _ (.ip' hyn)⟩, ⟨_, rfl, .slE rfl (by simp)⟩, ⟨_, rfl, .slE rfl (by simp)⟩, ⟨_, rfl, .same _ (.il' (encVs_nn _))⟩, ⟨_, rfl, .same _ nn⟩, ⟨_, rfl, .w64 (by omega) ⟨by omega, by omega⟩⟩, trivial⟩) (by omega)
    ·have hlt : k = vals.length := by simp at hb; omega
     have hcl : ch.length = vals.length := by rw [hch]; simp
     rw [hlt, List.take_of_length_le (by omega)]
     ((conv=>whnf);repeat(refine Xg ?_;conv=>whnf))
     exact fin ch _ _ 0 1 _ rfl hcl rfl rfl
   ·rw [if_neg (fun h => k4' h.2)] at hch
    rw [show (kind2 == 4) = false by simpa using k4']
    ((conv=>whnf);repeat(refine Xg ?_;conv=>whnf))
    exact finN _ _ hch
  ·rw [if_neg (fun h => k4 h.1)] at hch
   rw [show (kind == 4) = false by simpa using k4]
   ((conv=>whnf);repeat(refine Xg ?_;conv=>whnf))
   exact finN _ _ hch
set_option maxHeartbeats 16000000
def seenE (L : List Mt) : List (AV × AV) := L.map fun m => (.agg [.int .i64 m.old, .int .i64 m.now], .bool true)
theorem seenE_snoc (L : List Mt) (m : Mt) : seenE (L ++ [m]) = seenE L ++ [(.agg [.int .i64 m.old, .int .i64 m.now], .bool true)] := by simp [seenE]
theorem eqh75 : Tryz.prog.stoodInHeld 75 = false := by kernel_rfl
theorem key75 (a b c d : Nat) : aKeyEq Tryz.prog 75 (.agg [.int .i64 a, .int .i64 b]) (.agg [.int .i64 c, .int .i64 d]) = some (decide (c = a) && decide (d = b)) := by
 have e : aEqS Tryz.prog 75 [.int .i64 a, .int .i64 b] [.int .i64 c, .int .i64 d] = some (decide (c = a) && decide (d = b)) := by
  unfold aEqS
  rw [eqh75]
  conv => lhs; whnf
  rw [Option.some.injEq, Bool.eq_iff_iff]
  simp
  omega
 exact e
theorem find_no {o n : Nat} : ∀ (L : List Mt) (i : Nat), isIn L o n = false → aFindM Tryz.prog 75 (.agg [.int .i64 o, .int .i64 n]) (seenE L) i = some none
 | [], i, _ => rfl
 | m :: r, i, h => by
  simp only [isIn, List.any_cons, Bool.or_eq_false_iff] at h
  simp only [seenE, List.map_cons, aFindM, key75, h.1]
  exact find_no r (i + 1) h.2
theorem find_yes {o n : Nat} : ∀ (L : List Mt) (i : Nat), isIn L o n = true → ∃ j, aFindM Tryz.prog 75 (.agg [.int .i64 o, .int .i64 n]) (seenE L) i = some (some (j, .bool true))
 | [], i, h => by simp [isIn] at h
 | m :: r, i, h => by
  simp only [isIn, List.any_cons] at h
  simp only [seenE, List.map_cons, aFindM, key75]
  cases hd : (decide (m.old = o) && decide (m.now = n)) with
  | true => exact ⟨i, rfl⟩
  | false =>
   rw [hd, Bool.false_or] at h
   exact find_yes r (i + 1) h
theorem look75 {mem : Mem} {id o n : Nat} {L : List Mt} (hm : lk mem id = some (.mapb (seenE L))) : aLookup Tryz.prog mem 72 (.mp id) (.agg [.int .i64 o, .int .i64 n]) false = some (.bool (isIn L o n)) := by
 have key : (match aFindM Tryz.prog 75 (.agg [.int .i64 o, .int .i64 n]) (seenE L) 0 with
     | some (some (_, v)) => some v
     | some none => some (AV.bool false)
     | none => none) = some (.bool (isIn L o n)) := by
  cases h : isIn L o n with
  | false => rw [find_no L 0 h]
  | true => obtain ⟨j, hj⟩ := find_yes L 0 h; rw [hj]
 have u : Tryz.prog.underlying 72 = some (.map 75 4) := rfl
 have ak : aKey Tryz.prog 75 (.agg [.int .i64 o, .int .i64 n]) = true := rfl
 have z : zeroAV Tryz.prog 4 = some (.bool false) := rfl
 unfold aLookup
 simp only [u, ak, hm, z]
 exact key
def dM (A B : List Nd) (L : List Mt) (rid : Nat) (rest : Mem) : Mem :=
 (0, .row 72 1 [.mp 5]) :: (1, .row 25 1 [.agg [.il 12 (encNs A)]]) :: (2, .row 25 1 [.agg [.il 12 (encNs B)]]) :: (3, .row 44 1 [.sl rid 0 L.length]) ::
 (4, .row 73 1 [.fn (.func 34) [] [.ptr 0 0 0, .ptr 1 0 0, .ptr 2 0 0, .ptr 3 0 0, .ptr 4 0 0]]) :: (5, .mapb (seenE L)) :: (rid, .row 56 4 (encMs L)) :: rest
theorem seen_cv {mem : Mem} {σ : List (Nat × Nat)} (L : List Mt) : CvP mem σ (seenE L) (seenE L) := ⟨rfl, fun i e e' h1 h2 => by
 rw [h1] at h2
 cases h2
 unfold seenE at h1
 rw [List.getElem?_map] at h1
 cases hm : L[i]? with
 | none => rw [hm] at h1; cases h1
 | some m =>
  rw [hm] at h1
  cases h1
  exact ⟨.same _ nn, .same _ nn⟩⟩
theorem tree_cv {mem : Mem} {σ : List (Nat × Nat)} (A : List Nd) : CvR mem σ [.agg [.il 12 (encNs A)]] [.agg [.il 12 (encNs A)]] := .same (.cons (.agg' (.cons (.il' (encNs_nn _)) .nil)) .nil)
theorem dM_conv {mem : Mem} {σ : List (Nat × Nat)} {A B : List Nd} {L : List Mt} {len rid rid' : Nat} {xs : List AV} {es : List (AV × AV)} {rest : Mem} (hl : len = L.length) (s0 : lk σ 0 = some 0) (s1 : lk σ 1 = some 1) (s2 : lk σ 2 = some 2) (s3 : lk σ 3 = some 3) (s4 : lk σ 4 = some 4) (s5 : lk σ 5 = some 5) (sr : lk σ rid = some rid')
  (m0 : lk mem 0 = some (.row 72 1 [.mp 5])) (m1 : lk mem 1 = some (.row 25 1 [.agg [.il 12 (encNs A)]])) (m2 : lk mem 2 = some (.row 25 1 [.agg [.il 12 (encNs B)]])) (m3 : lk mem 3 = some (.row 44 1 [.sl rid 0 len]))
  (m4 : lk mem 4 = some (.row 73 1 [.fn (.func 34) [] [.ptr 0 0 0, .ptr 1 0 0, .ptr 2 0 0, .ptr 3 0 0, .ptr 4 0 0]])) (m5 : lk mem 5 = some (.mapb es)) (he : es = seenE L) (mr : lk mem rid = some (.row 56 4 xs)) (hx : CvR mem σ xs (encMs L))
  (hr : MemConv mem σ rest) : MemConv mem σ (dM A B L rid' rest) :=
 ⟨⟨0, _, s0, m0, .cons (.one rfl rfl (.mp 5 5 s5)) .nil⟩, ⟨1, _, s1, m1, tree_cv A⟩, ⟨2, _, s2, m2, tree_cv B⟩, ⟨3, _, s3, m3, .cons (.one rfl rfl (.slE sr hl)) .nil⟩,
  ⟨4, _, s4, m4, .cons (.one rfl rfl (.fn _ _ _ _ _ rfl rfl (by simp) (CvL.cons (.ptr 0 0 0 0 s0) (.cons (.ptr 1 1 0 0 s1) (.cons (.ptr 2 2 0 0 s2) (.cons (.ptr 3 3 0 0 s3) (.cons (.ptr 4 4 0 0 s4) .nil))))).2)) .nil⟩,
  ⟨5, _, s5, m5, by rw [he]; exact seen_cv L⟩, ⟨rid, _, sr, mr, hx⟩, hr⟩
def vQ (A B : List Nd) (L : List Mt) : AV → Mem → Nat → Prop := fun r m k => r = .tup [] ∧ m = dM A B L 7 [] ∧ k = 8
def VisOK (A B : List Nd) (f : Nat) : Prop := ∀ (o n : Nat) (L : List Mt), o < f → o < A.length → n < B.length → InvM A.length B.length L →
 ACalls Tryz.prog gz 34 [.agg [.int .i64 o, .int .i64 n], .ptr 0 0 0, .ptr 1 0 0, .ptr 2 0 0, .ptr 3 0 0, .ptr 4 0 0] (dM A B L 6 []) 7 (vQ A B (visF A B f o n L))
theorem zip_get {α β : Type} {l : List α} {m : List β} {k : Nat} {a : α} {b : β} (h1 : l[k]? = some a) (h2 : m[k]? = some b) : (l.zip m)[k]? = some (a, b) := by
 rw [List.getElem?_zip_eq_some]
 exact ⟨h1, h2⟩
theorem fold_next {A B : List Nd} {f : Nat} {ps : List (Nat × Nat)} {k q w : Nat} {L1 Lk : List Mt} (hpk : ps[k]? = some (q, w)) (hLk : Lk = (ps.take k).foldl (fun L p => visF A B f p.1 p.2 L) L1) : visF A B f q w Lk = (ps.take (k + 1)).foldl (fun L p => visF A B f p.1 p.2 L) L1 := by
 obtain ⟨h1, h2⟩ := List.getElem?_eq_some_iff.1 hpk
 rw [List.take_succ_eq_append_getElem h1, List.foldl_append, ← hLk, h2]; rfl
theorem vUse {A B : List Nd} {f : Nat} (ih : VisOK A B f) {o n : Nat} {L : List Mt} (h1 : o < f) (h2 : o < A.length) (h3 : n < B.length) (h4 : InvM A.length B.length L) {mem : Mem} {nx : Nat} {K : AV → Mem → Nat → Prop}
  (hp : pickM [0, 1, 2, 3, 4, 5, 7] mem = dM A B L 7 []) (hc : ∀ L' : List Mt, (nodM (dM A B L' nx []) && (nod2 [(0, 0), (1, 1), (2, 2), (3, 3), (4, 4), (5, 5), (7, nx)] && (Nat.ble nx (nx + 1) && (keysOr [0, 1, 2, 3, 4, 5, 7] nx (dM A B L' nx []) && tauOK [(0, 0), (1, 1), (2, 2), (3, 3), (4, 4), (5, 5), (7, 6)] 7 nx (nx + 1) [(0, 0), (1, 1), (2, 2), (3, 3), (4, 4), (5, 5), (7, nx)])))) = true)
  (hk : K (.tup []) (dM A B (visF A B f o n L) nx [] ++ dropM [0, 1, 2, 3, 4, 5, 7] mem) (nx + 1)) :
  ACalls Tryz.prog gz 34 [.agg [.int .i64 o, .int .i64 n], .ptr 0 0 0, .ptr 1 0 0, .ptr 2 0 0, .ptr 3 0 0, .ptr 4 0 0] mem nx K := by
 refine ACalls.useN nngz [(0, 0), (1, 1), (2, 2), (3, 3), (4, 4), (5, 5), (7, 6)] (ih o n L h1 h2 h3 h4) hp (.cons (.same _ nn) (.cons (.ptr 0 0 0 0 rfl) (.cons (.ptr 1 1 0 0 rfl) (.cons (.ptr 2 2 0 0 rfl) (.cons (.ptr 3 3 0 0 rfl) (.cons (.ptr 4 4 0 0 rfl) .nil))))))
  (dM_conv (rid := 7) rfl rfl rfl rfl rfl rfl rfl rfl rfl rfl rfl rfl rfl rfl rfl rfl (.same (encMs_nn _)) trivial) (by rfl) ?_
 rintro r m k ⟨rfl, rfl, rfl⟩
 exact ⟨[(0, 0), (1, 1), (2, 2), (3, 3), (4, 4), (5, 5), (7, nx)], .tup [], dM A B (visF A B f o n L) nx [], nx + 1, .same _ nn, dM_conv (rid := 7) rfl rfl rfl rfl rfl rfl rfl rfl rfl rfl rfl rfl rfl rfl rfl rfl (.same (encMs_nn _)) trivial, hc _, hk⟩
theorem vUseG {A B : List Nd} {f : Nat} (ih : VisOK A B f) {o n : Nat} {L : List Mt} (h1 : o < f) (h2 : o < A.length) (h3 : n < B.length) (h4 : InvM A.length B.length L) {mem m1 : Mem} {nx : Nat} (rid : Nat) {K : AV → Mem → Nat → Prop}
  (hp : pickM [0, 1, 2, 3, 4, 5, rid] mem = m1) (hM : MemConv m1 [(0, 0), (1, 1), (2, 2), (3, 3), (4, 4), (5, 5), (rid, 6)] (dM A B L 6 [])) (hs : lk [(0, 0), (1, 1), (2, 2), (3, 3), (4, 4), (5, 5), (rid, 6)] 4 = some 4)
  (hc0 : (nodM (dM A B L 6 []) && (nod2 [(0, 0), (1, 1), (2, 2), (3, 3), (4, 4), (5, 5), (rid, 6)] && valsLt 7 [(0, 0), (1, 1), (2, 2), (3, 3), (4, 4), (5, 5), (rid, 6)])) = true)
  (hc : ∀ L' : List Mt, (nodM (dM A B L' nx []) && (nod2 [(0, 0), (1, 1), (2, 2), (3, 3), (4, 4), (5, 5), (7, nx)] && (Nat.ble nx (nx + 1) && (keysOr [0, 1, 2, 3, 4, 5, rid] nx (dM A B L' nx []) && tauOK [(0, 0), (1, 1), (2, 2), (3, 3), (4, 4), (5, 5), (rid, 6)] 7 nx (nx + 1) [(0, 0), (1, 1), (2, 2), (3, 3), (4, 4), (5, 5), (7, nx)])))) = true)
  (hk : K (.tup []) (dM A B (visF A B f o n L) nx [] ++ dropM [0, 1, 2, 3, 4, 5, rid] mem) (nx + 1)) :
  ACalls Tryz.prog gz 34 [.agg [.int .i64 o, .int .i64 n], .ptr 0 0 0, .ptr 1 0 0, .ptr 2 0 0, .ptr 3 0 0, .ptr 4 0 0] mem nx K := by
 refine ACalls.useN nngz [(0, 0), (1, 1), (2, 2), (3, 3), (4, 4), (5, 5), (rid, 6)] (ih o n L h1 h2 h3 h4) hp (.cons (.same _ nn) (.cons (.ptr 0 0 0 0 rfl) (.cons (.ptr 1 1 0 0 rfl) (.cons (.ptr 2 2 0 0 rfl) (.cons (.ptr 3 3 0 0 rfl) (.cons (.ptr 4 4 0 0 rfl) .nil))))))
  hM hc0 ?_
 rintro r m k ⟨rfl, rfl, rfl⟩
 exact ⟨[(0, 0), (1, 1), (2, 2), (3, 3), (4, 4), (5, 5), (7, nx)], .tup [], dM A B (visF A B f o n L) nx [], nx + 1, .same _ nn, dM_conv (rid := 7) rfl rfl rfl rfl rfl rfl rfl rfl rfl rfl rfl rfl rfl rfl rfl rfl (.same (encMs_nn _)) trivial, hc _, hk⟩
theorem dVisit {A B : List Nd} (hA : TreeIn A) (hB : TreeIn B) (vA : validT A = 0) (vB : validT B = 0) (f : Nat) (ih : VisOK A B f) : VisOK A B (f + 1) := by
 intro o n L hof ho hn hI
 have hx := List.getElem?_eq_getElem ho
 have hy := List.getElem?_eq_getElem hn
 have hp := prs_in hA hB vA vB hx hy
 have gx := goodT hA vA hx
 have gy := goodT hB vB hy
 have hxm := List.mem_of_getElem? hx
 have hym := List.mem_of_getElem? hy
 have ex : (encNs A)[((o : Nat) : Int).toNat]? = some (encN A[o]) := by simp [encNs_get, hx]
 have ey : (encNs B)[((n : Nat) : Int).toNat]? = some (encN B[n]) := by simp [encNs_get, hy]
 have hCh := dChoices A[o] B[n] gx.opt gy.opt (fun s hs => by have := hA.lab _ hxm s hs; omega) (hB.llen _ hym) (by have := hA.vlen _ hxm; omega) gy.srt gy.val (by have := hB.vlen _ hym; omega)
 have hlk := fun (mem : Mem) (id : Nat) (hm : lk mem id = some (.mapb (seenE L))) => look75 (o := o) (n := n) hm
 have hLl := inv_len hA hB hI
 have hvis : visF A B (f + 1) o n L = if isIn L o n = true then L else (prsN A[o] B[n]).foldl (fun L p => visF A B f p.1 p.2 L) (L ++ [mtN A[o] B[n] o n]) := by
  conv => lhs; unfold visF
  rw [nodeAt_eq hx, nodeAt_eq hy]
 generalize visF A B (f + 1) o n L = res at hvis ⊢
 obtain ⟨x, hxe⟩ : ∃ x, x = A[o] := ⟨_, rfl⟩
 obtain ⟨y, hye⟩ : ∃ y, y = B[n] := ⟨_, rfl⟩
 rw [← hxe] at ex hp gx hCh hvis hx
 rw [← hye] at ey hp gy hCh hvis hy
 have hxn := encN_nn x
 have hyn := encN_nn y
 have hln := @chN_len x y
 have hmt : mtN x y o n = ⟨o, n, (chN x y).map (·.1), (chN x y).map (·.2)⟩ := rfl
 have hpr : prsN x y = if x.kind ≠ y.kind then [] else if x.kind = 2 then (x.kids.zip (chN x y)).map (fun p => (p.1.toNat, kidAt y p.2.1)) else if x.kind = 3 then (x.kids.zip y.kids).map (fun p => (p.1.toNat, p.2.toNat))
  else if x.kind = 4 then (kidAt x 0, kidAt y 0) :: ((x.kids.drop 1).zip (chN x y)).map (fun p => (p.1.toNat, kidAt y (p.2.1 + 1))) else [] := rfl
 have h2r := fun (a : x.kind = 2 ∧ y.kind = 2) (k : Nat) (hk : k < x.kids.length) => chN_get2 a hk
 have h2in := fun (a : x.kind = 2) (b : y.kind = 2) (k : Nat) (hk : k < x.kids.length) => opt_range (k := k) gx.opt gy.opt a b hk
 have h4r := fun (a : x.kind = 4 ∧ y.kind = 4) (k : Nat) (v : Val) (hv : x.values[k]? = some v) => chN_get4 a hv
 have hvy := fun (e : y.kind = 4) => bind_vals hB.ok vB hy e
 generalize chN x y = ch at h4r hCh hln hmt hpr h2r
 generalize prsN x y = ps at hp hvis hpr
 clear hx hy hxm hym hxe hye
 refine acalls_go nngz Tryz.func34 rfl ?_
 ((conv=>whnf);repeat(refine Xg ?_;conv=>whnf))
 refine opt_mk (hlk _ _ rfl) ?_
 cases hin : isIn L o n with
 | true =>
  rw [if_pos hin] at hvis
  rw [hvis]
  ((conv=>whnf);repeat(refine Xg ?_;conv=>whnf))
  exact fin_mk (n' := 8) (m' := dM A B L 7 []) [(0, 0), (1, 1), (2, 2), (3, 3), (4, 4), (5, 5), (6, 7)] rfl (dM_conv (rid := 6) rfl rfl rfl rfl rfl rfl rfl rfl rfl rfl rfl rfl rfl rfl rfl rfl (.same (encMs_nn _)) trivial) (.same _ nn) ⟨rfl, rfl, rfl⟩
 | false =>
  rw [if_neg (by rw [hin]; simp)] at hvis
  ((conv=>whnf);repeat(refine Xg ?_;conv=>whnf))
  refine opt_mk (find_no L 0 hin) ?_
  ((conv=>whnf);repeat(refine Xg ?_;conv=>whnf))
  refine appK_iff.2 ?_
  ((conv=>whnf);repeat(refine Xg ?_;conv=>whnf))
  repeat ((first | refine opt_mk ex ?_ | refine opt_mk ey ?_ | refine ⟨rfl, ?_⟩); ((conv=>whnf);repeat(refine Xg ?_;conv=>whnf)))
  refine hCh.use nngz (.cons (.ip' hxn) (.cons (.ip' hyn) .nil)) (.tup' (.cons (.il' (encI_nn _)) (.cons (.il' (encBs_nn _)) .nil))) ?_
  ((conv=>whnf);repeat(refine Xg ?_;conv=>whnf))
  refine grd_mk (app_ok rfl rfl (by rw [encMs_length]) (by simp; omega)) ?_
  ((conv=>whnf);repeat(refine Xg ?_;conv=>whnf))
  repeat (refine ⟨rfl, ?_⟩; ((conv=>whnf);repeat(refine Xg ?_;conv=>whnf)))
  rw [hmt] at hvis
  have hL1 : InvM A.length B.length (L ++ [⟨o, n, ch.map (·.1), ch.map (·.2)⟩]) := inv_snoc hI ho hn hin
  obtain ⟨L1, hL1e⟩ : ∃ L1, L1 = L ++ [(⟨o, n, ch.map (·.1), ch.map (·.2)⟩ : Mt)] := ⟨_, rfl⟩
  have hrow := encMs_snoc L ⟨o, n, ch.map (·.1), ch.map (·.2)⟩
  have hsee := seenE_snoc L ⟨o, n, ch.map (·.1), ch.map (·.2)⟩
  have hlen1 : L.length + 1 = L1.length := by rw [hL1e]; simp
  rw [← hL1e] at hvis hL1 hrow hsee
  have hk12 := gx.node.kind
  have hkx := gx.node.kids
  have hky := gy.node.kids
  have hbx := gx.node.bind
  have hby := gy.node.bind
  have hklx := gx.opt.klen
  have hkly := gy.opt.klen
  clear hCh hlk gx gy ex ey
  obtain ⟨kind, name, lo, hi', ws, lbs, vals, kids, ⟨vk, vn, vs, vks⟩⟩ := x
  obtain ⟨kind2, name2, lo2, hi2, ws2, lbs2, vals2, kids2, ⟨vk2, vn2, vs2, vks2⟩⟩ := y
  simp only at hln hpr h2r h2in h4r hvy hk12 hkx hky hbx hby hklx hkly
  ((conv=>whnf);repeat(refine Xg ?_;conv=>whnf))
  repeat (refine ⟨rfl, ?_⟩; ((conv=>whnf);repeat(refine Xg ?_;conv=>whnf)))
  by_cases hk : kind = kind2
  ·subst hk
   rw [if_neg (by simp)] at hpr
   rw [show (kind != kind) = false by simp]
   ((conv=>whnf);repeat(refine Xg ?_;conv=>whnf))
   by_cases k2 : kind = 2
   ·subst k2
    rw [if_pos rfl] at hpr
    ((conv=>whnf);repeat(refine Xg ?_;conv=>whnf))
    have hlc := hln.1 ⟨rfl, rfl⟩
    refine ALoop.at nngz (fun p : Nat × List Mt => p.1 ≤ kids.length ∧ p.2 = (ps.take p.1).foldl (fun L p => visF A B f p.1 p.2 L) L1 ∧ InvM A.length B.length p.2)
     (fun p => ⟨[(5, .ptr 4 0 0), (7, .ptr 8 0 0), (9, .ip (encN ⟨2, name2, lo2, hi2, ws2, lbs2, vals2, kids2, .mk vk2 vn2 vs2 vks2⟩)), (65, .il 1 (encI kids)), (66, .int .i64 kids.length), (67, .int .i64 p.1)],
      dM A B p.2 7 [(8, .row 56 4 [.agg [.int .i64 o, .int .i64 n, .il 1 (encI (ch.map (·.1))), .il 1 (encBs (ch.map (·.2)))]])], 9, 167⟩) (fun p => kids.length - p.1) (0, L1) [(0, 0), (1, 1), (2, 2), (3, 3), (4, 4), (5, 5), (22, 7), (8, 8)] ⟨by simp, by simp, hL1⟩
     (conv_mk _ rfl (dM_conv (rid := 22) (by simp; omega) rfl rfl rfl rfl rfl rfl rfl rfl rfl rfl rfl rfl rfl hsee.symm rfl (.eq (encMs_nn _) hrow.symm) ⟨⟨8, _, rfl, rfl, .same (.cons (.agg' (.cons nn (.cons nn (.cons (.il' (encI_nn _)) (.cons (.il' (encBs_nn _)) .nil))))) .nil)⟩, trivial⟩) ⟨⟨_, rfl, .ptr 4 4 0 0 rfl⟩, ⟨_, rfl, .ptr 8 8 0 0 rfl⟩, ⟨_, rfl, .same _ (.ip' hyn)⟩, ⟨_, rfl, .same _ (.il' (encI_nn _))⟩, ⟨_, rfl, .int (by rw [encI_length])⟩, ⟨_, rfl, .same _ nn⟩, trivial⟩) ?_
    rintro ⟨k, Lk⟩ ⟨hk, hLk, hIk⟩
    simp only at hk hLk hIk ⊢
    ((conv=>whnf);repeat(refine Xg ?_;conv=>whnf))
    refine bcs_mk (fun hb => ?_) (fun hb => ?_)
    ·have hlt : k < kids.length := by simpa using hb
     have e1 : (encI kids)[((k : Nat) : Int).toNat]? = some (.int .i64 kids[k]) := by simp [encI_get, List.getElem?_eq_getElem hlt]
     obtain ⟨q0, q1⟩ := hkx k _ (List.getElem?_eq_getElem hlt)
     have hc := h2r ⟨rfl, rfl⟩ k hlt
     obtain ⟨c0, c1⟩ := h2in rfl rfl k hlt
     have hpk : ps[k]? = some (kids[k].toNat, kidAt ⟨2, name2, lo2, hi2, ws2, lbs2, vals2, kids2, .mk vk2 vn2 vs2 vks2⟩ (optR ⟨2, name, lo, hi', ws, lbs, vals, kids, .mk vk vn vs vks⟩ ⟨2, name2, lo2, hi2, ws2, lbs2, vals2, kids2, .mk vk2 vn2 vs2 vks2⟩ k).1) := by
      rw [hpr, List.getElem?_map, zip_get (List.getElem?_eq_getElem hlt) hc]; rfl
     generalize optR ⟨2, name, lo, hi', ws, lbs, vals, kids, .mk vk vn vs vks⟩ ⟨2, name2, lo2, hi2, ws2, lbs2, vals2, kids2, .mk vk2 vn2 vs2 vks2⟩ k = c at hc c0 c1 hpk
     generalize kids[k] = q at e1 q0 q1 hpk
     obtain ⟨q, rfl⟩ := Int.eq_ofNat_of_zero_le q0
     obtain ⟨c1', c2⟩ := c
     simp only at c0 c1 hpk
     obtain ⟨cn, rfl⟩ := Int.eq_ofNat_of_zero_le c0
     have e2 : (encI (ch.map (·.1)))[((k : Nat) : Int).toNat]? = some (.int .i64 (cn : Int)) := by simp [encI_get, List.getElem?_map, hc]
     have hcl : cn < kids2.length := by omega
     have e3 : (encI kids2)[((cn : Nat) : Int).toNat]? = some (.int .i64 kids2[cn]) := by simp [encI_get, List.getElem?_eq_getElem hcl]
     obtain ⟨w0, w1⟩ := hky cn _ (List.getElem?_eq_getElem hcl)
     have hka : kidAt ⟨2, name2, lo2, hi2, ws2, lbs2, vals2, kids2, .mk vk2 vn2 vs2 vks2⟩ cn = kids2[cn].toNat := by unfold kidAt; rw [List.getD_eq_getElem?_getD, Int.toNat_natCast, List.getElem?_eq_getElem hcl]; rfl
     rw [hka] at hpk
     generalize kids2[cn] = w at e3 w0 w1 hpk
     obtain ⟨w, rfl⟩ := Int.eq_ofNat_of_zero_le w0
     simp only [Int.toNat_natCast] at hpk
     have hpb := hp _ (List.mem_of_getElem? hpk)
     simp only at hpb
     have hnx := fold_next hpk hLk
     ((conv=>whnf);repeat(refine Xg ?_;conv=>whnf))
     refine opt_mk e1 ?_
     ((conv=>whnf);repeat(refine Xg ?_;conv=>whnf))
     repeat ((first | refine opt_mk e2 ?_ | refine opt_mk e3 ?_ | refine ⟨rfl, ?_⟩); ((conv=>whnf);repeat(refine Xg ?_;conv=>whnf)))
     refine vUse ih (by omega) (by omega) (by omega) hIk (by rfl) (fun _ => by rfl) ?_
     ((conv=>whnf);repeat(refine Xg ?_;conv=>whnf))
     repeat (refine ⟨rfl, ?_⟩; ((conv=>whnf);repeat(refine Xg ?_;conv=>whnf)))
     exact .mk (k + 1, visF A B f q w Lk) [(0, 0), (1, 1), (2, 2), (3, 3), (4, 4), (5, 5), (24, 7), (8, 8)] ⟨by simp only; omega, hnx, vis_inv hA hB vA vB f q w Lk (by omega) (by omega) hIk⟩
      (conv_mk _ rfl (dM_conv (rid := 24) rfl rfl rfl rfl rfl rfl rfl rfl rfl rfl rfl rfl rfl rfl rfl rfl (.same (encMs_nn _)) ⟨⟨8, _, rfl, rfl, .same (.cons (.agg' (.cons nn (.cons nn (.cons (.il' (encI_nn _)) (.cons (.il' (encBs_nn _)) .nil))))) .nil)⟩, trivial⟩) ⟨⟨_, rfl, .ptr 4 4 0 0 rfl⟩, ⟨_, rfl, .ptr 8 8 0 0 rfl⟩, ⟨_, rfl, .same _ (.ip' hyn)⟩, ⟨_, rfl, .same _ (.il' (encI_nn _))⟩, ⟨_, rfl, .same _ nn⟩, ⟨_, rfl, .w64 (by simp only; omega) ⟨by simp only; omega, by simp only; omega⟩⟩, trivial⟩) (by simp only; omega)
    ·have hlt : k = kids.length := by simp at hb; omega
     have hpl : ps.length ≤ k := by rw [hpr]; simp; omega
     rw [List.take_of_length_le hpl, ← hvis] at hLk
     subst hLk
     ((conv=>whnf);repeat(refine Xg ?_;conv=>whnf))
     exact fin_mk (n' := 8) (m' := dM A B Lk 7 []) [(0, 0), (1, 1), (2, 2), (3, 3), (4, 4), (5, 5), (7, 7)] rfl (dM_conv (rid := 7) rfl rfl rfl rfl rfl rfl rfl rfl rfl rfl rfl rfl rfl rfl rfl rfl (.same (encMs_nn _)) trivial) (.same _ nn) ⟨rfl, rfl, rfl⟩
   ·rw [if_neg k2] at hpr
    rw [show (kind == 2) = false by simpa using k2]
    ((conv=>whnf);repeat(refine Xg ?_;conv=>whnf))
    by_cases k3 : kind = 3
    ·subst k3
     rw [if_pos rfl] at hpr
     ((conv=>whnf);repeat(refine Xg ?_;conv=>whnf))
     repeat (refine ⟨rfl, ?_⟩; ((conv=>whnf);repeat(refine Xg ?_;conv=>whnf)))
     refine ALoop.at nngz (fun p : Nat × List Mt => p.1 ≤ min kids.length kids2.length ∧ p.2 = (ps.take p.1).foldl (fun L p => visF A B f p.1 p.2 L) L1 ∧ InvM A.length B.length p.2)
      (fun p => ⟨[(5, .ptr 4 0 0), (8, .ip (encN ⟨3, name, lo, hi', ws, lbs, vals, kids, .mk vk vn vs vks⟩)), (9, .ip (encN ⟨3, name2, lo2, hi2, ws2, lbs2, vals2, kids2, .mk vk2 vn2 vs2 vks2⟩)), (100, .int .i64 (min kids.length kids2.length : Nat)), (101, .int .i64 p.1)],
       dM A B p.2 7 [], 8, 167⟩) (fun p => min kids.length kids2.length - p.1) (0, L1) [(0, 0), (1, 1), (2, 2), (3, 3), (4, 4), (5, 5), (22, 7)] ⟨by simp, by simp, hL1⟩
      (conv_mk _ rfl (dM_conv (rid := 22) (by simp; omega) rfl rfl rfl rfl rfl rfl rfl rfl rfl rfl rfl rfl rfl hsee.symm rfl (.eq (encMs_nn _) hrow.symm) trivial) ⟨⟨_, rfl, .ptr 4 4 0 0 rfl⟩, ⟨_, rfl, .same _ (.ip' hxn)⟩, ⟨_, rfl, .same _ (.ip' hyn)⟩, ⟨_, rfl, .int (by simp only [encI_length]; split <;> omega)⟩, ⟨_, rfl, .same _ nn⟩, trivial⟩) ?_
     rintro ⟨k, Lk⟩ ⟨hk, hLk, hIk⟩
     simp only at hk hLk hIk ⊢
     ((conv=>whnf);repeat(refine Xg ?_;conv=>whnf))
     refine bcs_mk (fun hb => ?_) (fun hb => ?_)
     ·have hlt : k < min kids.length kids2.length := by simp at hb; omega
      have hl1 : k < kids.length := by omega
      have hl2 : k < kids2.length := by omega
      have e1 : (encI kids)[((k : Nat) : Int).toNat]? = some (.int .i64 kids[k]) := by simp [encI_get, List.getElem?_eq_getElem hl1]
      have e3 : (encI kids2)[((k : Nat) : Int).toNat]? = some (.int .i64 kids2[k]) := by simp [encI_get, List.getElem?_eq_getElem hl2]
      obtain ⟨q0, q1⟩ := hkx k _ (List.getElem?_eq_getElem hl1)
      obtain ⟨w0, w1⟩ := hky k _ (List.getElem?_eq_getElem hl2)
      have hpk : ps[k]? = some (kids[k].toNat, kids2[k].toNat) := by
       rw [hpr, List.getElem?_map, zip_get (List.getElem?_eq_getElem hl1) (List.getElem?_eq_getElem hl2)]; rfl
      generalize kids[k] = q at e1 q0 q1 hpk
      generalize kids2[k] = w at e3 w0 w1 hpk
      obtain ⟨q, rfl⟩ := Int.eq_ofNat_of_zero_le q0
      obtain ⟨w, rfl⟩ := Int.eq_ofNat_of_zero_le w0
      simp only [Int.toNat_natCast] at hpk
      have hnx := fold_next hpk hLk
      ((conv=>whnf);repeat(refine Xg ?_;conv=>whnf))
      repeat ((first | refine opt_mk e1 ?_ | refine opt_mk e3 ?_ | refine ⟨rfl, ?_⟩); ((conv=>whnf);repeat(refine Xg ?_;conv=>whnf)))
      refine vUse ih (by omega) (by omega) (by omega) hIk (by rfl) (fun _ => by rfl) ?_
      ((conv=>whnf);repeat(refine Xg ?_;conv=>whnf))
      repeat (refine ⟨rfl, ?_⟩; ((conv=>whnf);repeat(refine Xg ?_;conv=>whnf)))
      exact .mk (k + 1, visF A B f q w Lk) [(0, 0), (1, 1), (2, 2), (3, 3), (4, 4), (5, 5), (25, 7)] ⟨by simp only; omega, hnx, vis_inv hA hB vA vB f q w Lk (by omega) (by omega) hIk⟩
       (conv_mk _ rfl (dM_conv (rid := 25) rfl rfl rfl rfl rfl rfl rfl rfl rfl rfl rfl rfl rfl rfl rfl rfl (.same (encMs_nn _)) trivial) ⟨⟨_, rfl, .ptr 4 4 0 0 rfl⟩, ⟨_, rfl, .same _ (.ip' hxn)⟩, ⟨_, rfl, .same _ (.ip' hyn)⟩, ⟨_, rfl, .same _ nn⟩, ⟨_, rfl, .w64 (by simp only; omega) ⟨by simp only; omega, by simp only; omega⟩⟩, trivial⟩) (by simp only; omega)
     ·have hlt : k = min kids.length kids2.length := by simp at hb; omega
      have hpl : ps.length ≤ k := by rw [hpr]; simp; omega
      rw [List.take_of_length_le hpl, ← hvis] at hLk
      subst hLk
      ((conv=>whnf);repeat(refine Xg ?_;conv=>whnf))
      exact fin_mk (n' := 8) (m' := dM A B Lk 7 []) [(0, 0), (1, 1), (2, 2), (3, 3), (4, 4), (5, 5), (7, 7)] rfl (dM_conv (rid := 7) rfl rfl rfl rfl rfl rfl rfl rfl rfl rfl rfl rfl rfl rfl rfl rfl (.same (encMs_nn _)) trivial) (.same _ nn) ⟨rfl, rfl, rfl⟩
    ·rw [if_neg k3] at hpr
     rw [show (kind == 3) = false by simpa using k3]
     ((conv=>whnf);repeat(refine Xg ?_;conv=>whnf))
     by_cases k4 : kind = 4
     ·subst k4
      rw [if_pos rfl] at hpr
      have hlx : 0 < kids.length := by have := hbx rfl; omega
      have hly : 0 < kids2.length := by have := hby rfl; omega
      have e1 : (encI kids)[(0 : Int).toNat]? = some (.int .i64 kids[0]) := by rw [show (0 : Int).toNat = 0 from rfl, encI_get, List.getElem?_eq_getElem hlx]; rfl
      have e3 : (encI kids2)[(0 : Int).toNat]? = some (.int .i64 kids2[0]) := by rw [show (0 : Int).toNat = 0 from rfl, encI_get, List.getElem?_eq_getElem hly]; rfl
      obtain ⟨q0, q1⟩ := hkx 0 _ (List.getElem?_eq_getElem hlx)
      obtain ⟨w0, w1⟩ := hky 0 _ (List.getElem?_eq_getElem hly)
      have hka1 : kidAt ⟨4, name, lo, hi', ws, lbs, vals, kids, .mk vk vn vs vks⟩ 0 = kids[0].toNat := by unfold kidAt; rw [List.getD_eq_getElem?_getD, show (0 : Int).toNat = 0 from rfl, List.getElem?_eq_getElem hlx]; rfl
      have hka2 : kidAt ⟨4, name2, lo2, hi2, ws2, lbs2, vals2, kids2, .mk vk2 vn2 vs2 vks2⟩ 0 = kids2[0].toNat := by unfold kidAt; rw [List.getD_eq_getElem?_getD, show (0 : Int).toNat = 0 from rfl, List.getElem?_eq_getElem hly]; rfl
      rw [hka1, hka2] at hpr
      generalize kids[0] = q at e1 q0 q1 hpr
      generalize kids2[0] = w at e3 w0 w1 hpr
      obtain ⟨q, rfl⟩ := Int.eq_ofNat_of_zero_le q0
      obtain ⟨w, rfl⟩ := Int.eq_ofNat_of_zero_le w0
      simp only [Int.toNat_natCast] at hpr
      have hI2 := vis_inv hA hB vA vB f q w L1 (by omega) (by omega) hL1
      rw [hpr, List.foldl_cons] at hvis
      ((conv=>whnf);repeat(refine Xg ?_;conv=>whnf))
      repeat ((first | refine opt_mk e1 ?_ | refine opt_mk e3 ?_ | refine ⟨rfl, ?_⟩); ((conv=>whnf);repeat(refine Xg ?_;conv=>whnf)))
      refine vUseG ih (L := L1) (by omega) (by omega) (by omega) hL1 22 (by rfl) (dM_conv (rid := 22) hlen1 rfl rfl rfl rfl rfl rfl rfl rfl rfl rfl rfl rfl rfl hsee.symm rfl (.eq (encMs_nn _) hrow.symm) trivial) (by rfl) (by rfl) (fun _ => by rfl) ?_
      ((conv=>whnf);repeat(refine Xg ?_;conv=>whnf))
      repeat (refine ⟨rfl, ?_⟩; ((conv=>whnf);repeat(refine Xg ?_;conv=>whnf)))
      refine grd_mk (and_ok (Nat.ble_eq_true_of_le (by rw [encI_length]; simp; omega)) (and_ok (Nat.ble_eq_true_of_le (Nat.le_refl _)) (Nat.ble_eq_true_of_le (Nat.le_refl _)))) ?_
      have ed : List.take ((encI kids).length - Int.toNat 1) (List.drop (Int.toNat 1) (encI kids)) = encI (kids.drop 1) := by
       rw [List.take_of_length_le (by simp)]
       simp [encI]
      rw [ed]
      obtain ⟨kr, hkr⟩ : ∃ kr, kr = kids.drop 1 := ⟨_, rfl⟩
      rw [← hkr] at hvis hpr ⊢
      have hkrl : kr.length = vals.length := by rw [hkr, List.length_drop]; have := hbx rfl; omega
      have hkrx : ∀ (j : Nat) (k : Int), kr[j]? = some k → 0 ≤ k ∧ k < o := fun j k hj => by
       rw [hkr, List.getElem?_drop] at hj
       exact hkx _ k hj
      have h4r := h4r ⟨rfl, rfl⟩
      have hvy := hvy rfl
      have hby := hby rfl
      have hlc := hln.2 ⟨rfl, rfl⟩
      have hpq := fun p (h : p ∈ (kr.zip ch).map (fun p => (p.1.toNat, kidAt ⟨4, name2, lo2, hi2, ws2, lbs2, vals2, kids2, .mk vk2 vn2 vs2 vks2⟩ (p.2.1 + 1)))) => hp p (by rw [hpr]; exact List.mem_cons_of_mem _ h)
      clear hp hpr
      generalize hps : (kr.zip ch).map (fun p => (p.1.toNat, kidAt ⟨4, name2, lo2, hi2, ws2, lbs2, vals2, kids2, .mk vk2 vn2 vs2 vks2⟩ (p.2.1 + 1))) = ps2 at hvis hpq
      ((conv=>whnf);repeat(refine Xg ?_;conv=>whnf))
      generalize visF A B f q w L1 = L2 at hI2 hvis ⊢
      refine ALoop.at nngz (fun p : Nat × List Mt => p.1 ≤ kr.length ∧ p.2 = (ps2.take p.1).foldl (fun L p => visF A B f p.1 p.2 L) L2 ∧ InvM A.length B.length p.2)
       (fun p => ⟨[(5, .ptr 4 0 0), (7, .ptr 8 0 0), (9, .ip (encN ⟨4, name2, lo2, hi2, ws2, lbs2, vals2, kids2, .mk vk2 vn2 vs2 vks2⟩)), (143, .il 1 (encI kr)), (144, .int .i64 kr.length), (145, .int .i64 p.1)],
        dM A B p.2 7 [(8, .row 56 4 [.agg [.int .i64 o, .int .i64 n, .il 1 (encI (ch.map (·.1))), .il 1 (encBs (ch.map (·.2)))]])], 9, 167⟩) (fun p => kr.length - p.1) (0, L2) [(0, 0), (1, 1), (2, 2), (3, 3), (4, 4), (5, 5), (47, 7), (8, 8)] ⟨by simp, by simp, hI2⟩
       (conv_mk _ rfl (dM_conv (rid := 47) rfl rfl rfl rfl rfl rfl rfl rfl rfl rfl rfl rfl rfl rfl rfl rfl (.same (encMs_nn _)) ⟨⟨8, _, rfl, rfl, .same (.cons (.agg' (.cons nn (.cons nn (.cons (.il' (encI_nn _)) (.cons (.il' (encBs_nn _)) .nil))))) .nil)⟩, trivial⟩) ⟨⟨_, rfl, .ptr 4 4 0 0 rfl⟩, ⟨_, rfl, .ptr 8 8 0 0 rfl⟩, ⟨_, rfl, .same _ (.ip' hyn)⟩, ⟨_, rfl, .same _ (.il' (encI_nn _))⟩, ⟨_, rfl, .int (by rw [encI_length])⟩, ⟨_, rfl, .same _ nn⟩, trivial⟩) ?_
      rintro ⟨k, Lk⟩ ⟨hk, hLk, hIk⟩
      simp only at hk hLk hIk ⊢
      ((conv=>whnf);repeat(refine Xg ?_;conv=>whnf))
      refine bcs_mk (fun hb => ?_) (fun hb => ?_)
      ·have hlt : k < kr.length := by simpa using hb
       have e1 : (encI kr)[((k : Nat) : Int).toNat]? = some (.int .i64 kr[k]) := by simp [encI_get, List.getElem?_eq_getElem hlt]
       obtain ⟨q0, q1⟩ := hkrx k _ (List.getElem?_eq_getElem hlt)
       have hc := h4r k _ (List.getElem?_eq_getElem (show k < vals.length by omega))
       have hnr := near_range (l := vals2) vals[k] (by omega)
       unfold nearI at hc
       have hpk : ps2[k]? = some (kr[k].toNat, kidAt ⟨4, name2, lo2, hi2, ws2, lbs2, vals2, kids2, .mk vk2 vn2 vs2 vks2⟩ (((nearV vals2 vals[k]).1 : Int) + 1)) := by
        rw [← hps, List.getElem?_map, zip_get (List.getElem?_eq_getElem hlt) hc]; rfl
       generalize nearV vals2 vals[k] = c at hc hnr hpk
       generalize kr[k] = q at e1 q0 q1 hpk
       obtain ⟨q, rfl⟩ := Int.eq_ofNat_of_zero_le q0
       obtain ⟨cn, c2⟩ := c
       simp only at hnr hpk
       have e2 : (encI (ch.map (·.1)))[((k : Nat) : Int).toNat]? = some (.int .i64 (cn : Int)) := by simp [encI_get, List.getElem?_map, hc]
       have hcl : cn + 1 < kids2.length := by omega
       have hw : IntKind.i64.wrap ((cn : Int) + 1) = ((cn + 1 : Nat) : Int) := w64 (by omega) ⟨by omega, by omega⟩
       have e3 : (encI kids2)[((cn + 1 : Nat) : Int).toNat]? = some (.int .i64 kids2[cn + 1]) := by rw [Int.toNat_natCast, encI_get, List.getElem?_eq_getElem hcl]; rfl
       obtain ⟨w0, w1⟩ := hky (cn + 1) _ (List.getElem?_eq_getElem hcl)
       have hka : kidAt ⟨4, name2, lo2, hi2, ws2, lbs2, vals2, kids2, .mk vk2 vn2 vs2 vks2⟩ ((cn : Int) + 1) = kids2[cn + 1].toNat := by
        unfold kidAt
        rw [List.getD_eq_getElem?_getD, show ((cn : Int) + 1).toNat = cn + 1 by omega, List.getElem?_eq_getElem hcl]; rfl
       rw [hka] at hpk
       generalize kids2[cn + 1] = w at e3 w0 w1 hpk
       obtain ⟨w, rfl⟩ := Int.eq_ofNat_of_zero_le w0
       simp only [Int.toNat_natCast] at hpk
       have hnx := fold_next hpk hLk
       ((conv=>whnf);repeat(refine Xg ?_;conv=>whnf))
       refine opt_mk e1 ?_
       ((conv=>whnf);repeat(refine Xg ?_;conv=>whnf))
       repeat ((first | refine opt_mk e2 ?_ | refine opt_mk e3 ?_ | refine ⟨rfl, ?_⟩); ((conv=>whnf);repeat(refine Xg ?_;conv=>whnf)))
       rw [hw]
       ((conv=>whnf);repeat(refine Xg ?_;conv=>whnf))
       repeat ((first | refine opt_mk e2 ?_ | refine opt_mk e3 ?_ | refine ⟨rfl, ?_⟩); ((conv=>whnf);repeat(refine Xg ?_;conv=>whnf)))
       refine vUse ih (by omega) (by omega) (by omega) hIk (by rfl) (fun _ => by rfl) ?_
       ((conv=>whnf);repeat(refine Xg ?_;conv=>whnf))
       repeat (refine ⟨rfl, ?_⟩; ((conv=>whnf);repeat(refine Xg ?_;conv=>whnf)))
       exact .mk (k + 1, visF A B f q w Lk) [(0, 0), (1, 1), (2, 2), (3, 3), (4, 4), (5, 5), (25, 7), (8, 8)] ⟨by simp only; omega, hnx, vis_inv hA hB vA vB f q w Lk (by omega) (by omega) hIk⟩
        (conv_mk _ rfl (dM_conv (rid := 25) rfl rfl rfl rfl rfl rfl rfl rfl rfl rfl rfl rfl rfl rfl rfl rfl (.same (encMs_nn _)) ⟨⟨8, _, rfl, rfl, .same (.cons (.agg' (.cons nn (.cons nn (.cons (.il' (encI_nn _)) (.cons (.il' (encBs_nn _)) .nil))))) .nil)⟩, trivial⟩) ⟨⟨_, rfl, .ptr 4 4 0 0 rfl⟩, ⟨_, rfl, .ptr 8 8 0 0 rfl⟩, ⟨_, rfl, .same _ (.ip' hyn)⟩, ⟨_, rfl, .same _ (.il' (encI_nn _))⟩, ⟨_, rfl, .same _ nn⟩, ⟨_, rfl, .w64 (by simp only; omega) ⟨by simp only; omega, by simp only; omega⟩⟩, trivial⟩) (by simp only; omega)
      ·have hlt : k = kr.length := by simp at hb; omega
       have hpl : ps2.length ≤ k := by rw [← hps]; simp; omega
       rw [List.take_of_length_le hpl, ← hvis] at hLk
       subst hLk
       ((conv=>whnf);repeat(refine Xg ?_;conv=>whnf))
       exact fin_mk (n' := 8) (m' := dM A B Lk 7 []) [(0, 0), (1, 1), (2, 2), (3, 3), (4, 4), (5, 5), (7, 7)] rfl (dM_conv (rid := 7) rfl rfl rfl rfl rfl rfl rfl rfl rfl rfl rfl rfl rfl rfl rfl rfl (.same (encMs_nn _)) trivial) (.same _ nn) ⟨rfl, rfl, rfl⟩
     ·rw [if_neg k4] at hpr
      rw [show (kind == 4) = false by simpa using k4]
      ((conv=>whnf);repeat(refine Xg ?_;conv=>whnf))
      rw [hpr, List.foldl_nil] at hvis
      rw [hvis]
      exact fin_mk (n' := 8) (m' := dM A B L1 7 []) [(0, 0), (1, 1), (2, 2), (3, 3), (4, 4), (5, 5), (22, 7)] rfl (dM_conv (rid := 22) (by simp; omega) rfl rfl rfl rfl rfl rfl rfl rfl rfl rfl rfl rfl rfl hsee.symm rfl (.eq (encMs_nn _) hrow.symm) trivial) (.same _ nn) ⟨rfl, rfl, rfl⟩
  ·rw [if_pos hk] at hpr
   rw [show (kind != kind2) = true by simpa using hk]
   ((conv=>whnf);repeat(refine Xg ?_;conv=>whnf))
   rw [hpr, List.foldl_nil] at hvis
   rw [hvis]
   exact fin_mk (n' := 8) (m' := dM A B L1 7 []) [(0, 0), (1, 1), (2, 2), (3, 3), (4, 4), (5, 5), (22, 7)] rfl (dM_conv (rid := 22) (by simp; omega) rfl rfl rfl rfl rfl rfl rfl rfl rfl rfl rfl rfl rfl hsee.symm rfl (.eq (encMs_nn _) hrow.symm) trivial) (.same _ nn) ⟨rfl, rfl, rfl⟩
set_option maxHeartbeats 16000000
theorem dVisAll {A B : List Nd} (hA : TreeIn A) (hB : TreeIn B) (vA : validT A = 0) (vB : validT B = 0) : ∀ f, VisOK A B f
 | 0 => fun o n L h => absurd h (by omega)
 | f + 1 => dVisit hA hB vA vB f (dVisAll hA hB vA vB f)
theorem tree_nn (A : List Nd) : NN (.agg [.il 12 (encNs A)]) := .agg' (.cons (.il' (encNs_nn _)) .nil)
theorem dDiff {A B : List Nd} (hA : TreeIn A) (hB : TreeIn B) : PureC Tryz.prog gz 13 [.agg [.il 12 (encNs A)], .agg [.il 12 (encNs B)]] (.il 4 (encMs (diffM A B))) := by
 have hUA := dUsable A hA
 have hUB := dUsable B hB
 have hpa := @usable_parts A
 have hpb := @usable_parts B
 have hd : diffM A B = if usableT A = true ∧ usableT B = true then visF A B A.length (A.length - 1) (B.length - 1) [] else [] := rfl
 have hVis := fun (vA : validT A = 0) (vB : validT B = 0) => dVisAll hA hB vA vB A.length
 generalize diffM A B = res at hd ⊢
 generalize usableT A = ua at hUA hpa hd
 generalize usableT B = ub at hUB hpb hd
 refine acalls_go nngz Tryz.func13 rfl ?_
 ((conv=>whnf);repeat(refine Xg ?_;conv=>whnf))
 refine hUA.goG ?_ (.cons (tree_nn A) .nil)
 cases ua with
 | false =>
  ((conv=>whnf);repeat(refine Xg ?_;conv=>whnf))
  rw [hd]
  exact fin_cv (r' := .il 4 (encMs [])) (.nil 4) ⟨by simp, rfl, rfl⟩
 | true =>
  ((conv=>whnf);repeat(refine Xg ?_;conv=>whnf))
  refine hUB.goG ?_ (.cons (tree_nn B) .nil)
  cases ub with
  | false =>
   ((conv=>whnf);repeat(refine Xg ?_;conv=>whnf))
   rw [hd]
   exact fin_cv (r' := .il 4 (encMs [])) (.nil 4) ⟨by simp, rfl, rfl⟩
  | true =>
   rw [if_pos ⟨rfl, rfl⟩] at hd
   obtain ⟨a1, a2⟩ := hpa rfl
   obtain ⟨b1, b2⟩ := hpb rfl
   have hV := hVis a2 b2 (A.length - 1) (B.length - 1) [] (by omega) (by omega) (by omega) (inv_nil _ _)
   rw [← hd] at hV
   have w1 : IntKind.i64.wrap (((encNs A).length : Int) - 1) = ((A.length - 1 : Nat) : Int) := w64 (by rw [encNs_length]; omega) ⟨by have := hA.len; omega, by have := hA.len; omega⟩
   have w2 : IntKind.i64.wrap (((encNs B).length : Int) - 1) = ((B.length - 1 : Nat) : Int) := w64 (by rw [encNs_length]; omega) ⟨by have := hB.len; omega, by have := hB.len; omega⟩
   ((conv=>whnf);repeat(refine Xg ?_;conv=>whnf))
   rw [w1, w2]
   refine ACalls.ph 56 4 ?_
   unfold vQ at hV
   refine ACalls.useN nngz [(4, 0), (0, 1), (1, 2), (2, 3), (5, 4), (3, 5), (6, 6)] hV (by rfl) (.cons (.same _ nn) (.cons (.ptr 4 0 0 0 rfl) (.cons (.ptr 0 1 0 0 rfl) (.cons (.ptr 1 2 0 0 rfl) (.cons (.ptr 2 3 0 0 rfl) (.cons (.ptr 5 4 0 0 rfl) .nil))))))
    ⟨⟨4, _, rfl, rfl, .cons (.one rfl rfl (.mp 3 5 rfl)) .nil⟩, ⟨0, _, rfl, rfl, tree_cv A⟩, ⟨1, _, rfl, rfl, tree_cv B⟩, ⟨2, _, rfl, rfl, .cons (.one rfl rfl (.nslk 6 6 _ rfl rfl)) .nil⟩,
     ⟨5, _, rfl, rfl, .cons (.one rfl rfl (.fn _ [] [] [.ptr 4 0 0, .ptr 0 0 0, .ptr 1 0 0, .ptr 2 0 0, .ptr 5 0 0] [.ptr 0 0 0, .ptr 1 0 0, .ptr 2 0 0, .ptr 3 0 0, .ptr 4 0 0] rfl rfl (by simp) (CvL.cons (.ptr 4 0 0 0 rfl) (.cons (.ptr 0 1 0 0 rfl) (.cons (.ptr 1 2 0 0 rfl) (.cons (.ptr 2 3 0 0 rfl) (.cons (.ptr 5 4 0 0 rfl) .nil))))).2)) .nil⟩,
     ⟨3, _, rfl, rfl, seen_cv []⟩, ⟨6, _, rfl, rfl, .same .nil⟩, trivial⟩ (by rfl) ?_
   rintro r m k ⟨rfl, rfl, rfl⟩
   refine ⟨[(3, 2), (7, 7)], .tup [], [(2, .row 44 1 [.sl 7 0 res.length]), (7, .row 56 4 (encMs res))], 8, .same _ nn, ⟨⟨3, _, rfl, rfl, .cons (.one rfl rfl (.sl 7 7 0 _ rfl)) .nil⟩, ⟨7, _, rfl, rfl, .same (encMs_nn _)⟩, trivial⟩, by rfl, ?_⟩
   ((conv=>whnf);repeat(refine Xg ?_;conv=>whnf))
   exact fin_cv (r' := .il 4 (encMs res)) (.fz' (id := 7) rfl rfl (by rw [encMs_length]; omega) (by rw [List.drop_zero]; exact List.take_of_length_le (by rw [encMs_length]; omega)) (encMs_nn _)) ⟨rfl, rfl, rfl⟩
theorem nodeAt_get {A : List Nd} {i : Nat} (h : i < A.length) : A[i]? = some (nodeAt A i) := by
 have := List.getElem?_eq_getElem h
 rw [nodeAt_eq this]; exact this
theorem dChanged {A B : List Nd} (hA : TreeIn A) (hB : TreeIn B) : PureC Tryz.prog gz 18 [.agg [.il 12 (encNs A)], .agg [.il 12 (encNs B)]] (.int .i64 (changedM A B)) := by
 have hUA := dUsable A hA
 have hUB := dUsable B hB
 have hD := dDiff hA hB
 have hr := diff_rng hA hB
 have hl := diff_len hA hB
 have hd : changedM A B = if usableT A = true ∧ usableT B = true then badM A B (diffM A B) else if A.length = 0 ∧ B.length = 0 then 0 else 1 := rfl
 generalize changedM A B = res at hd ⊢
 generalize diffM A B = L at hD hr hl hd
 generalize usableT A = ua at hUA hd
 generalize usableT B = ub at hUB hd
 have z1 : (((encNs A).length : Int) == 0) = decide (A.length = 0) := by rw [encNs_length, Bool.eq_iff_iff]; simp
 have z2 : (((encNs B).length : Int) == 0) = decide (B.length = 0) := by rw [encNs_length, Bool.eq_iff_iff]; simp
 refine acalls_go nngz Tryz.func18 rfl ?_
 ((conv=>whnf);repeat(refine Xg ?_;conv=>whnf))
 refine hUA.goG ?_ (.cons (tree_nn A) .nil)
 cases ua with
 | false =>
  rw [if_neg (by simp)] at hd
  ((conv=>whnf);repeat(refine Xg ?_;conv=>whnf))
  rw [z1]
  by_cases e1 : A.length = 0
  ·rw [decide_eq_true e1]
   ((conv=>whnf);repeat(refine Xg ?_;conv=>whnf))
   rw [z2]
   by_cases e2 : B.length = 0
   ·rw [if_pos ⟨e1, e2⟩] at hd
    rw [decide_eq_true e2, hd]
    ((conv=>whnf);repeat(refine Xg ?_;conv=>whnf))
    exact fin_pure nn ⟨rfl, rfl, rfl⟩
   ·rw [if_neg (fun h => e2 h.2)] at hd
    rw [decide_eq_false e2, hd]
    ((conv=>whnf);repeat(refine Xg ?_;conv=>whnf))
    exact fin_pure nn ⟨rfl, rfl, rfl⟩
  ·rw [if_neg (fun h => e1 h.1)] at hd
   rw [decide_eq_false e1, hd]
   ((conv=>whnf);repeat(refine Xg ?_;conv=>whnf))
   exact fin_pure nn ⟨rfl, rfl, rfl⟩
 | true =>
  ((conv=>whnf);repeat(refine Xg ?_;conv=>whnf))
  refine hUB.goG ?_ (.cons (tree_nn B) .nil)
  cases ub with
  | false =>
   rw [if_neg (by simp)] at hd
   ((conv=>whnf);repeat(refine Xg ?_;conv=>whnf))
   rw [z1]
   by_cases e1 : A.length = 0
   ·rw [decide_eq_true e1]
    ((conv=>whnf);repeat(refine Xg ?_;conv=>whnf))
    rw [z2]
    by_cases e2 : B.length = 0
    ·rw [if_pos ⟨e1, e2⟩] at hd
     rw [decide_eq_true e2, hd]
     ((conv=>whnf);repeat(refine Xg ?_;conv=>whnf))
     exact fin_pure nn ⟨rfl, rfl, rfl⟩
    ·rw [if_neg (fun h => e2 h.2)] at hd
     rw [decide_eq_false e2, hd]
     ((conv=>whnf);repeat(refine Xg ?_;conv=>whnf))
     exact fin_pure nn ⟨rfl, rfl, rfl⟩
   ·rw [if_neg (fun h => e1 h.1)] at hd
    rw [decide_eq_false e1, hd]
    ((conv=>whnf);repeat(refine Xg ?_;conv=>whnf))
    exact fin_pure nn ⟨rfl, rfl, rfl⟩
  | true =>
   rw [if_pos ⟨rfl, rfl⟩] at hd
   ((conv=>whnf);repeat(refine Xg ?_;conv=>whnf))
   refine hD.use nngz (.cons (tree_nn A) (.cons (tree_nn B) .nil)) (.il' (encMs_nn _)) ?_
   ((conv=>whnf);repeat(refine Xg ?_;conv=>whnf))
   refine ALoop.at nngz (fun k : Nat => k ≤ L.length)
    (fun k => ⟨[(2, .ptr 0 0 0), (3, .ptr 1 0 0), (5, .int .i64 (badM A B (L.take k) : Nat)), (28, .il 4 (encMs L)), (29, .int .i64 L.length), (30, .int .i64 k)],
     [(0, .row 25 1 [.agg [.il 12 (encNs A)]]), (1, .row 25 1 [.agg [.il 12 (encNs B)]])], 2, 50⟩) (fun k => L.length - k) 0 [(0, 0), (1, 1)] (by simp)
    (conv_mk _ rfl ⟨⟨0, _, rfl, rfl, tree_cv A⟩, ⟨1, _, rfl, rfl, tree_cv B⟩, trivial⟩ ⟨⟨_, rfl, .ptr 0 0 0 0 rfl⟩, ⟨_, rfl, .ptr 1 1 0 0 rfl⟩, ⟨_, rfl, .int (by simp [badM])⟩, ⟨_, rfl, .same _ (.il' (encMs_nn _))⟩, ⟨_, rfl, .int (by rw [encMs_length])⟩, ⟨_, rfl, .same _ nn⟩, trivial⟩) ?_
   intro k hk
   ((conv=>whnf);repeat(refine Xg ?_;conv=>whnf))
   refine bcs_mk (fun hb => ?_) (fun hb => ?_)
   ·have hlt : k < L.length := by simpa using hb
    have hg : L[k]? = some L[k] := List.getElem?_eq_getElem hlt
    have em : (encMs L)[((k : Nat) : Int).toNat]? = some (encM L[k]) := by simp [encMs_get, hg]
    have hm := hr _ (List.getElem_mem hlt)
    have hbs := badM_snoc A B (L.take k) L[k]
    rw [← List.take_succ_eq_append_getElem hlt] at hbs
    have hble := badM_le A B (L.take k)
    have htl : (L.take k).length ≤ 1000000 := by simp; omega
    generalize L[k] = m at em hm hbs
    obtain ⟨mo, mn, mp, ms⟩ := m
    simp only at hm hbs
    have hx := nodeAt_get hm.1
    have hy := nodeAt_get hm.2
    have ex : (encNs A)[((mo : Nat) : Int).toNat]? = some (encN (nodeAt A mo)) := by simp [encNs_get, hx]
    have ey : (encNs B)[((mn : Nat) : Int).toNat]? = some (encN (nodeAt B mn)) := by simp [encNs_get, hy]
    have hE := dExact (nodeAt A mo) (nodeAt B mn) (hA.ok _ (List.mem_of_getElem? hx)) (hB.ok _ (List.mem_of_getElem? hy))
    generalize badM A B (L.take k) = b0 at hbs hble ⊢
    generalize nodeAt A mo = x at ex hE hbs
    generalize nodeAt B mn = y at ey hE hbs
    have hxn := encN_nn x
    have hyn := encN_nn y
    ((conv=>whnf);repeat(refine Xg ?_;conv=>whnf))
    refine opt_mk em ?_
    ((conv=>whnf);repeat(refine Xg ?_;conv=>whnf))
    repeat ((first | refine opt_mk ex ?_ | refine opt_mk ey ?_ | refine ⟨rfl, ?_⟩); ((conv=>whnf);repeat(refine Xg ?_;conv=>whnf)))
    refine hE.goG ?_ (.cons (.ip' hxn) (.cons (.ip' hyn) .nil))
    cases he : exactN x y with
    | true =>
     rw [if_pos he] at hbs
     ((conv=>whnf);repeat(refine Xg ?_;conv=>whnf))
     repeat (refine ⟨rfl, ?_⟩; ((conv=>whnf);repeat(refine Xg ?_;conv=>whnf)))
     exact .mk (k + 1) [(0, 0), (1, 1)] (by omega)
      (conv_mk _ rfl ⟨⟨0, _, rfl, rfl, tree_cv A⟩, ⟨1, _, rfl, rfl, tree_cv B⟩, trivial⟩ ⟨⟨_, rfl, .ptr 0 0 0 0 rfl⟩, ⟨_, rfl, .ptr 1 1 0 0 rfl⟩, ⟨_, rfl, .int (by omega)⟩, ⟨_, rfl, .same _ (.il' (encMs_nn _))⟩, ⟨_, rfl, .same _ nn⟩, ⟨_, rfl, .w64 (by omega) ⟨by omega, by omega⟩⟩, trivial⟩) (by omega)
    | false =>
     rw [if_neg (by rw [he]; simp)] at hbs
     ((conv=>whnf);repeat(refine Xg ?_;conv=>whnf))
     repeat (refine ⟨rfl, ?_⟩; ((conv=>whnf);repeat(refine Xg ?_;conv=>whnf)))
     exact .mk (k + 1) [(0, 0), (1, 1)] (by omega)
      (conv_mk _ rfl ⟨⟨0, _, rfl, rfl, tree_cv A⟩, ⟨1, _, rfl, rfl, tree_cv B⟩, trivial⟩ ⟨⟨_, rfl, .ptr 0 0 0 0 rfl⟩, ⟨_, rfl, .ptr 1 1 0 0 rfl⟩, ⟨_, rfl, .w64 (by omega) ⟨by omega, by omega⟩⟩, ⟨_, rfl, .same _ (.il' (encMs_nn _))⟩, ⟨_, rfl, .same _ nn⟩, ⟨_, rfl, .w64 (by omega) ⟨by omega, by omega⟩⟩, trivial⟩) (by omega)
   ·have hlt : k = L.length := by simp at hb; omega
    rw [hlt, List.take_length, ← hd]
    ((conv=>whnf);repeat(refine Xg ?_;conv=>whnf))
    exact fin_pure nn ⟨rfl, rfl, rfl⟩
theorem dSame {A B : List Nd} (hA : TreeIn A) (hB : TreeIn B) : PureC Tryz.prog gz 19 [.agg [.il 12 (encNs A)], .agg [.il 12 (encNs B)]] (.bool (decide (changedM A B = 0))) := by
 have hC := dChanged hA hB
 generalize changedM A B = c at hC ⊢
 refine acalls_go nngz Tryz.func19 rfl ?_
 ((conv=>whnf);repeat(refine Xg ?_;conv=>whnf))
 refine hC.use nngz (.cons (tree_nn A) (.cons (tree_nn B) .nil)) nn ?_
 ((conv=>whnf);repeat(refine Xg ?_;conv=>whnf))
 exact fin_pure nn ⟨by congr 1; rw [Bool.eq_iff_iff]; simp, rfl, rfl⟩
set_option maxHeartbeats 16000000
def wM (A B : List Nd) (L : List Mt) (rid : Nat) (rest : Mem) : Mem := (0, .row 83 3 [.agg [.il 12 (encNs A), .il 12 (encNs B), .sl rid 0 L.length]]) :: (rid, .row 78 4 (encMs L)) :: rest
theorem wM_conv {mem : Mem} {σ : List (Nat × Nat)} {A B : List Nd} {L : List Mt} {len rid rid' : Nat} {xs : List AV} {rest : Mem} (hl : len = L.length) (s0 : lk σ 0 = some 0) (sr : lk σ rid = some rid')
  (m0 : lk mem 0 = some (.row 83 3 [.agg [.il 12 (encNs A), .il 12 (encNs B), .sl rid 0 len]])) (mr : lk mem rid = some (.row 78 4 xs)) (hx : CvR mem σ xs (encMs L)) (hr : MemConv mem σ rest) : MemConv mem σ (wM A B L rid' rest) :=
 ⟨⟨0, _, s0, m0, .cons (.agg (.cons (.same _ (.il' (encNs_nn _))) (.cons (.same _ (.il' (encNs_nn _))) (.cons (.slE sr hl) .nil)))) .nil⟩, ⟨rid, _, sr, mr, hx⟩, hr⟩
def wQ (A B : List Nd) (L : List Mt) : AV → Mem → Nat → Prop := fun r m k => r = .tup [] ∧ m = wM A B L 2 [] ∧ k = 3
def WisOK (A B : List Nd) (f : Nat) : Prop := ∀ (o n : Nat) (L : List Mt), o < f → o < A.length → n < B.length → InvM A.length B.length L →
 ACalls Tryz.prog [] 38 [.ptr 0 0 0, .int .i64 o, .int .i64 n] (wM A B L 1 []) 2 (wQ A B (visF A B f o n L))
def opK (kind : Int) (ch : List (Int × Bool)) (k : Nat) : List (Int × Bool) := if kind = 2 then ch.take k else if kind = 4 then ch.take (k - 1) else []
def toK (ps : List (Nat × Nat)) (k : Nat) : List Int := (ps.take k).map fun p => (p.2 : Int)
theorem leaf_kids {A : List Nd} (hv : validT A = 0) {i : Nat} {x : Nd} (hx : A[i]? = some x) (h : x.kind = 0 ∨ x.kind = 1) : x.kids.length = 0 := by
 have hv0 : validF [] A = 0 := by
  unfold validT at hv
  split at hv
  ·omega
  ·exact hv
 have hf := nodeE_formed (valid_node A hv0 i x hx)
 unfold formedN unusedN at hf
 simp only [Bool.and_eq_true, Bool.or_eq_true, decide_eq_true_eq] at hf
 have := hf.1.1.1.1.1.1.2
 omega
theorem rVisit {A B : List Nd} (hA : TreeIn A) (hB : TreeIn B) (vA : validT A = 0) (vB : validT B = 0) (hlab : ∀ x ∈ A, ∀ s ∈ x.labels, s ∈ LB) (f : Nat) (ih : WisOK A B f) : WisOK A B (f + 1) := by
 intro o n L hof ho hn hI
 have hx := List.getElem?_eq_getElem ho
 have hy := List.getElem?_eq_getElem hn
 have hp := prs_in hA hB vA vB hx hy
 have gx := goodT hA vA hx
 have gy := goodT hB vB hy
 have hxm := List.mem_of_getElem? hx
 have hym := List.mem_of_getElem? hy
 have ex : (encNs A)[((o : Nat) : Int).toNat]? = some (encN A[o]) := by simp [encNs_get, hx]
 have ey : (encNs B)[((n : Nat) : Int).toNat]? = some (encN B[n]) := by simp [encNs_get, hy]
 have hO := fun (k : Nat) (hk : k ≤ 2000) => rOption31 A[o] B[n] k ⟨by omega, by omega⟩ gx.opt gy.opt (hlab _ hxm)
 have hN := fun v => rNearest B[n].values v (by have := hB.vlen _ hym; omega) gy.val
 have hLl := inv_len hA hB hI
 have hk01 := fun h => leaf_kids vA hx h
 have hvis : visF A B (f + 1) o n L = if isIn L o n = true then L else (prsN A[o] B[n]).foldl (fun L p => visF A B f p.1 p.2 L) (L ++ [mtN A[o] B[n] o n]) := by
  conv => lhs; unfold visF
  rw [nodeAt_eq hx, nodeAt_eq hy]
 generalize visF A B (f + 1) o n L = res at hvis ⊢
 refine acalls_go nnΓ Tryz.func38 rfl ?_
 ((conv=>whnf);repeat(refine Xg ?_;conv=>whnf))
 refine ALoop.at nnΓ (fun i : Nat => i ≤ L.length ∧ isIn (L.take i) o n = false) (fun i => ⟨[(0, .ptr 0 0 0), (1, .int .i64 o), (2, .int .i64 n), (6, .int .i64 i)], wM A B L 1 [], 2, 182⟩) (fun i => L.length - i) 0 [(0, 0), (1, 1)] ⟨by simp, by simp [isIn]⟩
  (conv_mk _ rfl (wM_conv (rid := 1) rfl rfl rfl rfl rfl (.same (encMs_nn _)) trivial) ⟨⟨_, rfl, .ptr 0 0 0 0 rfl⟩, ⟨_, rfl, .same _ nn⟩, ⟨_, rfl, .same _ nn⟩, ⟨_, rfl, .same _ nn⟩, trivial⟩) ?_
 rintro i ⟨hi, hin⟩
 ((conv=>whnf);repeat(refine Xg ?_;conv=>whnf))
 refine bcs_mk (fun hb => ?_) (fun hb => ?_)
 ·have hlt : i < L.length := by simpa using hb
  have em : (encMs L)[0 + ((i : Nat) : Int).toNat]? = some (encM L[i]) := by simp [encMs_get, List.getElem?_eq_getElem hlt]
  have gm : Nat.blt ((i : Nat) : Int).toNat L.length = true := Nat.ble_eq_true_of_le (by simp; omega)
  have hsn : isIn (L.take (i + 1)) o n = (decide (L[i].old = o) && decide (L[i].now = n)) := by rw [List.take_succ_eq_append_getElem hlt, isIn_snoc, hin, Bool.false_or]
  have hwh : isIn (L.take (i + 1)) o n = true → isIn L o n = true := fun h => by
   unfold isIn at h ⊢
   obtain ⟨m, hm, h⟩ := List.any_eq_true.1 h
   exact List.any_eq_true.2 ⟨m, List.mem_of_mem_take hm, h⟩
  generalize L[i] = m at em hsn
  obtain ⟨mo, mn, mp, ms⟩ := m
  simp only at hsn
  ((conv=>whnf);repeat(refine Xg ?_;conv=>whnf))
  repeat ((first | refine grd_mk gm ?_ | refine opt_mk em ?_); ((conv=>whnf);repeat(refine Xg ?_;conv=>whnf)))
  by_cases e1 : mo = o
  ·rw [show ((mo : Int) == (o : Int)) = true by rw [e1]; simp]
   ((conv=>whnf);repeat(refine Xg ?_;conv=>whnf))
   repeat ((first | refine grd_mk gm ?_ | refine opt_mk em ?_); ((conv=>whnf);repeat(refine Xg ?_;conv=>whnf)))
   by_cases e2 : mn = n
   ·rw [show ((mn : Int) == (n : Int)) = true by rw [e2]; simp]
    rw [if_pos (hwh (by rw [hsn, e1, e2]; simp))] at hvis
    rw [hvis]
    ((conv=>whnf);repeat(refine Xg ?_;conv=>whnf))
    exact fin_mk (n' := 3) (m' := wM A B L 2 []) [(0, 0), (1, 2)] rfl (wM_conv (rid := 1) rfl rfl rfl rfl rfl (.same (encMs_nn _)) trivial) (.same _ nn) ⟨rfl, rfl, rfl⟩
   ·rw [show ((mn : Int) == (n : Int)) = false by simp; omega]
    rw [decide_eq_false e2, Bool.and_false] at hsn
    ((conv=>whnf);repeat(refine Xg ?_;conv=>whnf))
    exact .mk (i + 1) [(0, 0), (1, 1)] ⟨by omega, hsn⟩
     (conv_mk _ rfl (wM_conv (rid := 1) rfl rfl rfl rfl rfl (.same (encMs_nn _)) trivial) ⟨⟨_, rfl, .ptr 0 0 0 0 rfl⟩, ⟨_, rfl, .same _ nn⟩, ⟨_, rfl, .same _ nn⟩, ⟨_, rfl, .w64 (by omega) ⟨by omega, by omega⟩⟩, trivial⟩) (by omega)
  ·rw [show ((mo : Int) == (o : Int)) = false by simp; omega]
   rw [decide_eq_false e1, Bool.false_and] at hsn
   ((conv=>whnf);repeat(refine Xg ?_;conv=>whnf))
   exact .mk (i + 1) [(0, 0), (1, 1)] ⟨by omega, hsn⟩
    (conv_mk _ rfl (wM_conv (rid := 1) rfl rfl rfl rfl rfl (.same (encMs_nn _)) trivial) ⟨⟨_, rfl, .ptr 0 0 0 0 rfl⟩, ⟨_, rfl, .same _ nn⟩, ⟨_, rfl, .same _ nn⟩, ⟨_, rfl, .w64 (by omega) ⟨by omega, by omega⟩⟩, trivial⟩) (by omega)
 ·have hie : i = L.length := by simp at hb; omega
  rw [hie, List.take_length] at hin
  rw [if_neg (by rw [hin]; simp)] at hvis
  clear hb hi hie
  obtain ⟨x, hxe⟩ : ∃ x, x = A[o] := ⟨_, rfl⟩
  obtain ⟨y, hye⟩ : ∃ y, y = B[n] := ⟨_, rfl⟩
  rw [← hxe] at ex hp gx hO hvis hx hk01
  rw [← hye] at ey hp gy hO hN hvis hy
  have hxn := encN_nn x
  have hyn := encN_nn y
  have hln := @chN_len x y
  have hmt : mtN x y o n = ⟨o, n, (chN x y).map (·.1), (chN x y).map (·.2)⟩ := rfl
  have hch0 : x.kind ≠ 2 ∧ x.kind ≠ 4 ∨ x.kind ≠ y.kind → chN x y = [] := fun h => by unfold chN; rw [if_neg (by omega), if_neg (by omega)]
  have hpr : prsN x y = if x.kind ≠ y.kind then [] else if x.kind = 2 then (x.kids.zip (chN x y)).map (fun p => (p.1.toNat, kidAt y p.2.1)) else if x.kind = 3 then (x.kids.zip y.kids).map (fun p => (p.1.toNat, p.2.toNat))
   else if x.kind = 4 then (kidAt x 0, kidAt y 0) :: ((x.kids.drop 1).zip (chN x y)).map (fun p => (p.1.toNat, kidAt y (p.2.1 + 1))) else [] := rfl
  have h2r := fun (a : x.kind = 2 ∧ y.kind = 2) (k : Nat) (hk : k < x.kids.length) => chN_get2 a hk
  have h2in := fun (a : x.kind = 2) (b : y.kind = 2) (k : Nat) (hk : k < x.kids.length) => opt_range (k := k) gx.opt gy.opt a b hk
  have h4r := fun (a : x.kind = 4 ∧ y.kind = 4) (k : Nat) (v : Val) (hv : x.values[k]? = some v) => chN_get4 a hv
  have hvy := fun (e : y.kind = 4) => bind_vals hB.ok vB hy e
  have hpf := fun (j : Nat) (p : Nat × Nat) (h : (prsN x y)[j]? = some p) => prs_fst gx.node h
  have hpl0 := @prs_len x y
  generalize chN x y = ch at h4r hln hmt hpr h2r hch0
  generalize prsN x y = ps at hp hvis hpr hpf hpl0
  clear hx hy hxm hym hxe hye
  rw [hmt] at hvis
  have hL1 : InvM A.length B.length (L ++ [⟨o, n, ch.map (·.1), ch.map (·.2)⟩]) := inv_snoc hI ho hn hin
  obtain ⟨L1, hL1e⟩ : ∃ L1, L1 = L ++ [(⟨o, n, ch.map (·.1), ch.map (·.2)⟩ : Mt)] := ⟨_, rfl⟩
  have hrow := encMs_snoc L ⟨o, n, ch.map (·.1), ch.map (·.2)⟩
  have hlen1 : L.length + 1 = L1.length := by rw [hL1e]; simp
  rw [← hL1e] at hvis hL1 hrow
  have hk12 := gx.node.kind
  have hkx := gx.node.kids
  have hky := gy.node.kids
  have hbx := gx.node.bind
  have hby := gy.node.bind
  have hklx := gx.opt.klen
  have hkly := gy.opt.klen
  clear gx gy
  obtain ⟨kind, name, lo, hi', ws, lbs, vals, kids, ⟨vk, vn, vs, vks⟩⟩ := x
  obtain ⟨kind2, name2, lo2, hi2, ws2, lbs2, vals2, kids2, ⟨vk2, vn2, vs2, vks2⟩⟩ := y
  simp only at hln hpr h2r h2in h4r hvy hk12 hkx hky hbx hby hklx hkly hk01 hch0 hN hpf hpl0
  ((conv=>whnf);repeat(refine Xg ?_;conv=>whnf))
  repeat ((first | refine opt_mk ex ?_ | refine opt_mk ey ?_ | refine ⟨rfl, ?_⟩); ((conv=>whnf);repeat(refine Xg ?_;conv=>whnf)))
  clear ex ey
  refine ALoop.ph 3 1 ?_
  refine ALoop.ph 4 1 ?_
  refine ALoop.ph 3 1 ?_
  by_cases hkk : kind = kind2
  ·subst hkk
   rw [if_neg (by simp)] at hpr
   refine ALoop.at nnΓ (fun p : Nat × List (Int × Bool) × List Int => p.1 ≤ kids.length ∧ p.2.1 = opK kind ch p.1 ∧ p.2.2 = toK ps p.1 ∧ p.1 ≤ 2000)
    (fun p => ⟨[(0, .ptr 0 0 0), (7, .ptr 2 0 0), (8, .ptr 3 0 0), (9, .ptr 4 0 0), (10, .sl 7 0 p.2.2.length), (11, .int .i64 p.1)],
     wM A B L 1 [(2, .row 35 12 [encN ⟨kind, name, lo, hi', ws, lbs, vals, kids, .mk vk vn vs vks⟩]), (3, .row 35 12 [encN ⟨kind, name2, lo2, hi2, ws2, lbs2, vals2, kids2, .mk vk2 vn2 vs2 vks2⟩]),
      (4, .row 78 4 [.agg [.int .i64 o, .int .i64 n, .sl 5 0 p.2.1.length, .sl 6 0 p.2.1.length]]), (5, .row 3 1 (encI (p.2.1.map (·.1)))), (6, .row 4 1 (encBs (p.2.1.map (·.2)))), (7, .row 3 1 (encI p.2.2))], 8, 182⟩)
    (fun p => kids.length - p.1) (0, [], []) (idS [0, 1, 2, 3, 4, 5, 6, 7]) ⟨by simp, by unfold opK; split <;> simp, by simp [toK], by simp⟩
    (conv_mk _ rfl (wM_conv (rid := 1) rfl rfl rfl rfl rfl (.same (encMs_nn _)) ⟨⟨2, _, rfl, rfl, .same (.cons hxn .nil)⟩, ⟨3, _, rfl, rfl, .same (.cons hyn .nil)⟩, ⟨4, _, rfl, rfl, .cons (.agg (.cons (.same _ nn) (.cons (.same _ nn) (.cons (.nslk 5 5 _ rfl rfl) (.cons (.nslk 6 6 _ rfl rfl) .nil))))) .nil⟩, ⟨5, _, rfl, rfl, .same .nil⟩, ⟨6, _, rfl, rfl, .same .nil⟩, ⟨7, _, rfl, rfl, .same .nil⟩, trivial⟩)
     ⟨⟨_, rfl, .ptr 0 0 0 0 rfl⟩, ⟨_, rfl, .ptr 2 2 0 0 rfl⟩, ⟨_, rfl, .ptr 3 3 0 0 rfl⟩, ⟨_, rfl, .ptr 4 4 0 0 rfl⟩, ⟨_, rfl, .nslk 7 7 _ rfl rfl⟩, ⟨_, rfl, .same _ nn⟩, trivial⟩) ?_
   rintro ⟨k, op, to⟩ ⟨hk, hop, hto, hkd⟩
   simp only at hk hop hto hkd ⊢
   have hlto : to.length ≤ k := by rw [hto]; simp [toK]; omega
   ((conv=>whnf);repeat(refine Xg ?_;conv=>whnf))
   refine bcs_mk (fun hb => ?_) (fun hb => ?_)
   ·rw [hb]
    have hlt : k < kids.length := by rw [encI_length] at hb; simpa using hb
    have hkx0 := hkx k _ (List.getElem?_eq_getElem hlt)
    rcases (show kind = 2 ∨ kind = 3 ∨ kind = 4 by have := hk01; omega) with rfl | rfl | rfl
    ·rw [if_pos rfl] at hpr
     have hlc := hln.1 ⟨rfl, rfl⟩
     have hc := h2r ⟨rfl, rfl⟩ k hlt
     obtain ⟨c0, c1⟩ := h2in rfl rfl k hlt
     have hO := hO k (by omega)
     have hpk : ps[k]? = some (kids[k].toNat, kidAt ⟨2, name2, lo2, hi2, ws2, lbs2, vals2, kids2, .mk vk2 vn2 vs2 vks2⟩ (optR ⟨2, name, lo, hi', ws, lbs, vals, kids, .mk vk vn vs vks⟩ ⟨2, name2, lo2, hi2, ws2, lbs2, vals2, kids2, .mk vk2 vn2 vs2 vks2⟩ k).1) := by
      rw [hpr, List.getElem?_map, zip_get (List.getElem?_eq_getElem hlt) hc]; rfl
     generalize optR ⟨2, name, lo, hi', ws, lbs, vals, kids, .mk vk vn vs vks⟩ ⟨2, name2, lo2, hi2, ws2, lbs2, vals2, kids2, .mk vk2 vn2 vs2 vks2⟩ k = c at hc c0 c1 hpk hO
     obtain ⟨c1', c2⟩ := c
     simp only at c0 c1 hpk hO
     obtain ⟨cn, rfl⟩ := Int.eq_ofNat_of_zero_le c0
     have hcl : cn < kids2.length := by omega
     have e3 : (encI kids2)[((cn : Nat) : Int).toNat]? = some (.int .i64 kids2[cn]) := by simp [encI_get, List.getElem?_eq_getElem hcl]
     obtain ⟨w0, w1⟩ := hky cn _ (List.getElem?_eq_getElem hcl)
     have hka : kidAt ⟨2, name2, lo2, hi2, ws2, lbs2, vals2, kids2, .mk vk2 vn2 vs2 vks2⟩ cn = kids2[cn].toNat := by unfold kidAt; rw [List.getD_eq_getElem?_getD, Int.toNat_natCast, List.getElem?_eq_getElem hcl]; rfl
     rw [hka] at hpk
     generalize kids2[cn] = w at e3 w0 w1 hpk
     obtain ⟨w, rfl⟩ := Int.eq_ofNat_of_zero_le w0
     simp only [Int.toNat_natCast] at hpk
     have hop2 : opK 2 ch (k + 1) = op ++ [((cn : Int), c2)] := by
      rw [hop]; unfold opK; rw [if_pos rfl, if_pos rfl, List.take_add_one, hc]; rfl
     have hto2 : toK ps (k + 1) = to ++ [(w : Int)] := by rw [hto]; unfold toK; rw [map_take_snoc _ hpk]
     have hopl : op.length = k := by rw [hop]; unfold opK; rw [if_pos rfl]; simp; omega
     ((conv=>whnf);repeat(refine Xg ?_;conv=>whnf))
     refine hO.go ?_ (.cons hxn (.cons hyn (.cons nn .nil)))
     ((conv=>whnf);repeat(refine Xg ?_;conv=>whnf))
     repeat (refine ⟨rfl, ?_⟩; ((conv=>whnf);repeat(refine Xg ?_;conv=>whnf)))
     refine grd_mk (app_ok rfl rfl (by rw [encI_length]; simp) (by simp; omega)) ?_
     ((conv=>whnf);repeat(refine Xg ?_;conv=>whnf))
     refine grd_mk (app_ok rfl rfl (by rw [encBs_length]; simp) (by simp; omega)) ?_
     ((conv=>whnf);repeat(refine Xg ?_;conv=>whnf))
     rw [show decide ((cn : Int) < ((encI kids2).length : Int)) = true by rw [encI_length]; simp; omega]
     ((conv=>whnf);repeat(refine Xg ?_;conv=>whnf))
     repeat (refine opt_mk e3 ?_; ((conv=>whnf);repeat(refine Xg ?_;conv=>whnf)))
     refine grd_mk (app_ok rfl rfl (by rw [encI_length]) (by simp; omega)) ?_
     ((conv=>whnf);repeat(refine Xg ?_;conv=>whnf))
     exact .mk (k + 1, op ++ [((cn : Int), c2)], to ++ [(w : Int)]) [(0, 0), (1, 1), (2, 2), (3, 3), (4, 4), (9, 5), (11, 6), (13, 7)] ⟨by simp only; omega, hop2.symm, hto2.symm, by simp only; omega⟩
      (conv_mk _ rfl (wM_conv (rid := 1) rfl rfl rfl rfl rfl (.same (encMs_nn _)) ⟨⟨2, _, rfl, rfl, .same (.cons hxn .nil)⟩, ⟨3, _, rfl, rfl, .same (.cons hyn .nil)⟩, ⟨4, _, rfl, rfl, .cons (.agg (.cons (.same _ nn) (.cons (.same _ nn) (.cons (.slE rfl (by simp)) (.cons (.slE rfl (by simp)) .nil))))) .nil⟩, ⟨9, _, rfl, rfl, .eq (encI_nn _) (by simp only [List.map_append, List.map_cons, List.map_nil]; rw [encI_snoc]; rfl)⟩, ⟨11, _, rfl, rfl, .eq (encBs_nn _) (by simp only [List.map_append, List.map_cons, List.map_nil]; rw [encBs_snoc]; rfl)⟩, ⟨13, _, rfl, rfl, .eq (encI_nn _) (by simp only; rw [encI_snoc]; rfl)⟩, trivial⟩)
       ⟨⟨_, rfl, .ptr 0 0 0 0 rfl⟩, ⟨_, rfl, .ptr 2 2 0 0 rfl⟩, ⟨_, rfl, .ptr 3 3 0 0 rfl⟩, ⟨_, rfl, .ptr 4 4 0 0 rfl⟩, ⟨_, rfl, .slE rfl (by simp)⟩, ⟨_, rfl, .w64 (by simp only; omega) ⟨by simp only; omega, by simp only; omega⟩⟩, trivial⟩) (by simp only; omega)
    ·rw [if_neg (by decide), if_pos rfl] at hpr
     have hops : ∀ k, opK 3 ch k = [] := fun k => by unfold opK; rw [if_neg (by decide), if_neg (by decide)]
     rw [hops] at hop
     subst hop
     ((conv=>whnf);repeat(refine Xg ?_;conv=>whnf))
     by_cases hl2 : k < kids2.length
     ·have e3 : (encI kids2)[((k : Nat) : Int).toNat]? = some (.int .i64 kids2[k]) := by simp [encI_get, List.getElem?_eq_getElem hl2]
      obtain ⟨w0, w1⟩ := hky k _ (List.getElem?_eq_getElem hl2)
      have hpk : ps[k]? = some (kids[k].toNat, kids2[k].toNat) := by
       rw [hpr, List.getElem?_map, zip_get (List.getElem?_eq_getElem hlt) (List.getElem?_eq_getElem hl2)]; rfl
      generalize kids2[k] = w at e3 w0 w1 hpk
      obtain ⟨w, rfl⟩ := Int.eq_ofNat_of_zero_le w0
      simp only [Int.toNat_natCast] at hpk
      have hto2 : toK ps (k + 1) = to ++ [(w : Int)] := by rw [hto]; unfold toK; rw [map_take_snoc _ hpk]
      rw [show decide ((k : Int) < ((encI kids2).length : Int)) = true by rw [encI_length]; simp; omega]
      ((conv=>whnf);repeat(refine Xg ?_;conv=>whnf))
      repeat (refine opt_mk e3 ?_; ((conv=>whnf);repeat(refine Xg ?_;conv=>whnf)))
      refine grd_mk (app_ok rfl rfl (by rw [encI_length]) (by simp; omega)) ?_
      ((conv=>whnf);repeat(refine Xg ?_;conv=>whnf))
      exact .mk (k + 1, [], to ++ [(w : Int)]) [(0, 0), (1, 1), (2, 2), (3, 3), (4, 4), (5, 5), (6, 6), (9, 7)] ⟨by simp only; omega, (hops _).symm, hto2.symm, by simp only; omega⟩
       (conv_mk _ rfl (wM_conv (rid := 1) rfl rfl rfl rfl rfl (.same (encMs_nn _)) ⟨⟨2, _, rfl, rfl, .same (.cons hxn .nil)⟩, ⟨3, _, rfl, rfl, .same (.cons hyn .nil)⟩, ⟨4, _, rfl, rfl, .cons (.agg (.cons (.same _ nn) (.cons (.same _ nn) (.cons (.slE rfl rfl) (.cons (.slE rfl rfl) .nil))))) .nil⟩, ⟨5, _, rfl, rfl, .same .nil⟩, ⟨6, _, rfl, rfl, .same .nil⟩, ⟨9, _, rfl, rfl, .eq (encI_nn _) (by simp only; rw [encI_snoc]; rfl)⟩, trivial⟩)
        ⟨⟨_, rfl, .ptr 0 0 0 0 rfl⟩, ⟨_, rfl, .ptr 2 2 0 0 rfl⟩, ⟨_, rfl, .ptr 3 3 0 0 rfl⟩, ⟨_, rfl, .ptr 4 4 0 0 rfl⟩, ⟨_, rfl, .slE rfl (by simp)⟩, ⟨_, rfl, .w64 (by simp only; omega) ⟨by simp only; omega, by simp only; omega⟩⟩, trivial⟩) (by simp only; omega)
     ·have hto2 : toK ps (k + 1) = to := by
       rw [hto]; unfold toK
       have : ps.length ≤ k := by rw [hpr]; simp; omega
       rw [List.take_of_length_le this, List.take_of_length_le (by omega)]
      rw [show decide ((k : Int) < ((encI kids2).length : Int)) = false by rw [encI_length]; simp; omega]
      ((conv=>whnf);repeat(refine Xg ?_;conv=>whnf))
      exact .mk (k + 1, [], to) [(0, 0), (1, 1), (2, 2), (3, 3), (4, 4), (5, 5), (6, 6), (7, 7)] ⟨by simp only; omega, (hops _).symm, hto2.symm, by simp only; omega⟩
       (conv_mk _ rfl (wM_conv (rid := 1) rfl rfl rfl rfl rfl (.same (encMs_nn _)) ⟨⟨2, _, rfl, rfl, .same (.cons hxn .nil)⟩, ⟨3, _, rfl, rfl, .same (.cons hyn .nil)⟩, ⟨4, _, rfl, rfl, .cons (.agg (.cons (.same _ nn) (.cons (.same _ nn) (.cons (.slE rfl rfl) (.cons (.slE rfl rfl) .nil))))) .nil⟩, ⟨5, _, rfl, rfl, .same .nil⟩, ⟨6, _, rfl, rfl, .same .nil⟩, ⟨7, _, rfl, rfl, .same (encI_nn _)⟩, trivial⟩)
        ⟨⟨_, rfl, .ptr 0 0 0 0 rfl⟩, ⟨_, rfl, .ptr 2 2 0 0 rfl⟩, ⟨_, rfl, .ptr 3 3 0 0 rfl⟩, ⟨_, rfl, .ptr 4 4 0 0 rfl⟩, ⟨_, rfl, .slE rfl rfl⟩, ⟨_, rfl, .w64 (by simp only; omega) ⟨by simp only; omega, by simp only; omega⟩⟩, trivial⟩) (by simp only; omega)
    ·rw [if_neg (by decide), if_neg (by decide), if_pos rfl] at hpr
     have hlc := hln.2 ⟨rfl, rfl⟩
     have hvy := hvy rfl
     have hby := hby rfl
     have hbx := hbx rfl
     have hops : ∀ k, opK 4 ch k = ch.take (k - 1) := fun k => by unfold opK; rw [if_neg (by decide), if_pos rfl]
     rw [hops] at hop
     by_cases hk0 : k = 0
     ·subst hk0
      simp at hop
      subst hop
      have hto0 : to = [] := by rw [hto]; simp [toK]
      subst hto0
      have hl2 : 0 < kids2.length := by omega
      have e3 : (encI kids2)[((0 : Nat) : Int).toNat]? = some (.int .i64 kids2[0]) := by simp [encI_get, List.getElem?_eq_getElem hl2]
      obtain ⟨w0, w1⟩ := hky 0 _ (List.getElem?_eq_getElem hl2)
      have hpk : ps[0]? = some (kidAt ⟨4, name, lo, hi', ws, lbs, vals, kids, .mk vk vn vs vks⟩ 0, kids2[0].toNat) := by
       rw [hpr]
       simp only [List.getElem?_cons_zero]
       congr 2
       unfold kidAt; rw [List.getD_eq_getElem?_getD, show (0 : Int).toNat = 0 from rfl, List.getElem?_eq_getElem hl2]; rfl
      generalize kids2[0] = w at e3 w0 w1 hpk
      obtain ⟨w, rfl⟩ := Int.eq_ofNat_of_zero_le w0
      simp only [Int.toNat_natCast] at hpk
      have hto2 : toK ps 1 = [(w : Int)] := by unfold toK; rw [map_take_snoc _ hpk]; rfl
      ((conv=>whnf);repeat(refine Xg ?_;conv=>whnf))
      rw [show decide (((0 : Nat) : Int) < ((encI kids2).length : Int)) = true by rw [encI_length]; simp; omega]
      ((conv=>whnf);repeat(refine Xg ?_;conv=>whnf))
      repeat (refine opt_mk e3 ?_; ((conv=>whnf);repeat(refine Xg ?_;conv=>whnf)))
      refine grd_mk rfl ?_
      ((conv=>whnf);repeat(refine Xg ?_;conv=>whnf))
      exact .mk (1, [], [(w : Int)]) [(0, 0), (1, 1), (2, 2), (3, 3), (4, 4), (5, 5), (6, 6), (9, 7)] ⟨by simp only; omega, by rw [hops]; rfl, hto2.symm, by simp only; omega⟩
       (conv_mk _ rfl (wM_conv (rid := 1) rfl rfl rfl rfl rfl (.same (encMs_nn _)) ⟨⟨2, _, rfl, rfl, .same (.cons hxn .nil)⟩, ⟨3, _, rfl, rfl, .same (.cons hyn .nil)⟩, ⟨4, _, rfl, rfl, .cons (.agg (.cons (.same _ nn) (.cons (.same _ nn) (.cons (.slE rfl rfl) (.cons (.slE rfl rfl) .nil))))) .nil⟩, ⟨5, _, rfl, rfl, .same .nil⟩, ⟨6, _, rfl, rfl, .same .nil⟩, ⟨9, _, rfl, rfl, .same (encI_nn [(w : Int)])⟩, trivial⟩)
        ⟨⟨_, rfl, .ptr 0 0 0 0 rfl⟩, ⟨_, rfl, .ptr 2 2 0 0 rfl⟩, ⟨_, rfl, .ptr 3 3 0 0 rfl⟩, ⟨_, rfl, .ptr 4 4 0 0 rfl⟩, ⟨_, rfl, .slE rfl rfl⟩, ⟨_, rfl, .w64 (by simp only; omega) ⟨by simp only; omega, by simp only; omega⟩⟩, trivial⟩) (by simp only; omega)
     ·have hc := h4r ⟨rfl, rfl⟩ (k - 1) _ (List.getElem?_eq_getElem (show k - 1 < vals.length by omega))
      obtain ⟨v1, v2, v3, v4, vm, vg, ve, ev⟩ := enc_cases (l := vals) (k := k - 1) (by omega)
      rw [ve] at hc
      have hnr := near_range (l := vals2) (.mk v1 v2 v3 v4) (by omega)
      have hN := hN (.mk v1 v2 v3 v4)
      unfold nearI at hc
      have hkr : (kids.drop 1)[k - 1]? = some kids[k] := by rw [List.getElem?_drop, show 1 + (k - 1) = k by omega, List.getElem?_eq_getElem hlt]
      have hpk : ps[k]? = some (kids[k].toNat, kidAt ⟨4, name2, lo2, hi2, ws2, lbs2, vals2, kids2, .mk vk2 vn2 vs2 vks2⟩ (((nearV vals2 (.mk v1 v2 v3 v4)).1 : Int) + 1)) := by
       obtain ⟨k', rfl⟩ : ∃ k', k = k' + 1 := ⟨k - 1, by omega⟩
       rw [hpr, List.getElem?_cons_succ, List.getElem?_map, zip_get (a := kids[k' + 1]) (by rw [List.getElem?_drop, Nat.add_comm 1 k']; exact List.getElem?_eq_getElem hlt) (by simpa using hc)]; rfl
      generalize nearV vals2 (.mk v1 v2 v3 v4) = c at hc hnr hpk hN
      obtain ⟨cn, c2⟩ := c
      simp only at hnr hpk hN
      have hcl : cn + 1 < kids2.length := by omega
      have hw : IntKind.i64.wrap ((cn : Int) + 1) = ((cn + 1 : Nat) : Int) := w64 (by omega) ⟨by omega, by omega⟩
      have hw1 : IntKind.i64.wrap ((k : Int) - 1) = ((k - 1 : Nat) : Int) := w64 (by omega) ⟨by omega, by omega⟩
      have e3 : (encI kids2)[((cn + 1 : Nat) : Int).toNat]? = some (.int .i64 kids2[cn + 1]) := by rw [Int.toNat_natCast, encI_get, List.getElem?_eq_getElem hcl]; rfl
      obtain ⟨w0, w1⟩ := hky (cn + 1) _ (List.getElem?_eq_getElem hcl)
      have hka : kidAt ⟨4, name2, lo2, hi2, ws2, lbs2, vals2, kids2, .mk vk2 vn2 vs2 vks2⟩ ((cn : Int) + 1) = kids2[cn + 1].toNat := by
       unfold kidAt
       rw [List.getD_eq_getElem?_getD, show ((cn : Int) + 1).toNat = cn + 1 by omega, List.getElem?_eq_getElem hcl]; rfl
      rw [hka] at hpk
      generalize kids2[cn + 1] = w at e3 w0 w1 hpk
      obtain ⟨w, rfl⟩ := Int.eq_ofNat_of_zero_le w0
      simp only [Int.toNat_natCast] at hpk
      have hto2 : toK ps (k + 1) = to ++ [(w : Int)] := by rw [hto]; unfold toK; rw [map_take_snoc _ hpk]
      have hop2 : opK 4 ch (k + 1) = op ++ [((cn : Int), c2)] := by
       rw [hop, hops, show k + 1 - 1 = k - 1 + 1 by omega, List.take_add_one, hc]; rfl
      have hopl : op.length = k - 1 := by rw [hop]; simp; omega
      ((conv=>whnf);repeat(refine Xg ?_;conv=>whnf))
      have hkd : decide ((k : Int) > 0) = true := by simp; omega
      rw [hkd]
      ((conv=>whnf);repeat(refine Xg ?_;conv=>whnf))
      repeat (refine ⟨rfl, ?_⟩; ((conv=>whnf);repeat(refine Xg ?_;conv=>whnf)))
      rw [hw1]
      ((conv=>whnf);repeat(refine Xg ?_;conv=>whnf))
      repeat ((first | refine opt_mk ev ?_ | refine ⟨rfl, ?_⟩); ((conv=>whnf);repeat(refine Xg ?_;conv=>whnf)))
      refine hN.go ?_
      ((conv=>whnf);repeat(refine Xg ?_;conv=>whnf))
      repeat (refine ⟨rfl, ?_⟩; ((conv=>whnf);repeat(refine Xg ?_;conv=>whnf)))
      rw [hkd]
      ((conv=>whnf);repeat(refine Xg ?_;conv=>whnf))
      refine grd_mk (app_ok rfl rfl (by rw [encI_length]; simp) (by simp; omega)) ?_
      ((conv=>whnf);repeat(refine Xg ?_;conv=>whnf))
      refine grd_mk (app_ok rfl rfl (by rw [encBs_length]; simp) (by simp; omega)) ?_
      ((conv=>whnf);repeat(refine Xg ?_;conv=>whnf))
      rw [hkd]
      ((conv=>whnf);repeat(refine Xg ?_;conv=>whnf))
      rw [hw]
      ((conv=>whnf);repeat(refine Xg ?_;conv=>whnf))
      rw [show decide (((cn + 1 : Nat) : Int) < ((encI kids2).length : Int)) = true by rw [encI_length]; simp; omega]
      ((conv=>whnf);repeat(refine Xg ?_;conv=>whnf))
      repeat (refine opt_mk e3 ?_; ((conv=>whnf);repeat(refine Xg ?_;conv=>whnf)))
      refine grd_mk (app_ok rfl rfl (by rw [encI_length]) (by simp; omega)) ?_
      ((conv=>whnf);repeat(refine Xg ?_;conv=>whnf))
      exact .mk (k + 1, op ++ [((cn : Int), c2)], to ++ [(w : Int)]) [(0, 0), (1, 1), (2, 2), (3, 3), (4, 4), (23, 5), (25, 6), (27, 7)] ⟨by simp only; omega, hop2.symm, hto2.symm, by simp only; omega⟩
       (conv_mk _ rfl (wM_conv (rid := 1) rfl rfl rfl rfl rfl (.same (encMs_nn _)) ⟨⟨2, _, rfl, rfl, .same (.cons hxn .nil)⟩, ⟨3, _, rfl, rfl, .same (.cons hyn .nil)⟩, ⟨4, _, rfl, rfl, .cons (.agg (.cons (.same _ nn) (.cons (.same _ nn) (.cons (.slE rfl (by simp)) (.cons (.slE rfl (by simp)) .nil))))) .nil⟩, ⟨23, _, rfl, rfl, .eq (encI_nn _) (by simp only [List.map_append, List.map_cons, List.map_nil]; rw [encI_snoc]; rfl)⟩, ⟨25, _, rfl, rfl, .eq (encBs_nn _) (by simp only [List.map_append, List.map_cons, List.map_nil]; rw [encBs_snoc]; rfl)⟩, ⟨27, _, rfl, rfl, .eq (encI_nn _) (by simp only; rw [encI_snoc]; rfl)⟩, trivial⟩)
        ⟨⟨_, rfl, .ptr 0 0 0 0 rfl⟩, ⟨_, rfl, .ptr 2 2 0 0 rfl⟩, ⟨_, rfl, .ptr 3 3 0 0 rfl⟩, ⟨_, rfl, .ptr 4 4 0 0 rfl⟩, ⟨_, rfl, .slE rfl (by simp)⟩, ⟨_, rfl, .w64 (by simp only; omega) ⟨by simp only; omega, by simp only; omega⟩⟩, trivial⟩) (by simp only; omega)
   ·rw [hb]
    have hlt : k = kids.length := by rw [encI_length] at hb; simp at hb; omega
    have hopc : op = ch := by
     rw [hop]
     unfold opK
     split
     ·rename_i h; exact List.take_of_length_le (by rw [hln.1 ⟨h, h⟩]; omega)
     ·split
      ·rename_i h; exact List.take_of_length_le (by rw [hln.2 ⟨h, h⟩]; have := hbx h; omega)
      ·rename_i h1 h2; exact (hch0 (.inl ⟨h1, h2⟩)).symm
    have hto : to = ps.map (fun p => (p.2 : Int)) := by
     rw [hto]
     unfold toK
     rw [List.take_of_length_le]
     rcases (show kind = 2 ∨ kind = 3 ∨ kind = 4 ∨ (kind ≠ 2 ∧ kind ≠ 3 ∧ kind ≠ 4) by omega) with e | e | e | e
     ·rw [if_pos e] at hpr; rw [hpr]; simp; omega
     ·rw [if_neg (by omega), if_pos e] at hpr; rw [hpr]; simp; omega
     ·rw [if_neg (by omega), if_neg (by omega), if_pos e] at hpr; rw [hpr]; simp; have := hbx e; omega
     ·rw [if_neg (by omega), if_neg (by omega), if_neg (by omega)] at hpr; rw [hpr]; simp
    rw [hopc]
    clear hop hopc hlto
    ((conv=>whnf);repeat(refine Xg ?_;conv=>whnf))
    refine grd_mk (app_ok rfl rfl (by rw [encMs_length]) (by simp; omega)) ?_
    ((conv=>whnf);repeat(refine Xg ?_;conv=>whnf))
    repeat (refine ⟨rfl, ?_⟩; ((conv=>whnf);repeat(refine Xg ?_;conv=>whnf)))
    refine ALoop.at nnΓ (fun p : Nat × List Mt => p.1 ≤ to.length ∧ p.2 = (ps.take p.1).foldl (fun L p => visF A B f p.1 p.2 L) L1 ∧ InvM A.length B.length p.2)
     (fun p => ⟨[(0, .ptr 0 0 0), (7, .ptr 3 0 0), (10, .sl 4 0 to.length), (14, .int .i64 p.1)], wM A B p.2 2 [(3, .row 35 12 [encN ⟨kind, name, lo, hi', ws, lbs, vals, kids, .mk vk vn vs vks⟩]), (4, .row 3 1 (encI to))], 5, 182⟩)
     (fun p => to.length - p.1) (0, L1) [(0, 0), (19, 2), (2, 3), (7, 4)] ⟨by simp, by simp, hL1⟩
     (conv_mk _ rfl (wM_conv (rid := 19) hlen1 rfl rfl rfl rfl (by rw [hrow]; exact .snoc rfl (.same (encMs_nn _)) (.agg (.cons (.same _ nn) (.cons (.same _ nn) (.cons (.fz' (id := 5) rfl rfl (by rw [encI_length]; simp) (by rw [List.drop_zero]; exact List.take_of_length_le (by rw [encI_length]; simp)) (encI_nn _)) (.cons (.fz' (id := 6) rfl rfl (by rw [encBs_length]; simp) (by rw [List.drop_zero]; exact List.take_of_length_le (by rw [encBs_length]; simp)) (encBs_nn _)) .nil)))))) ⟨⟨2, _, rfl, rfl, .same (.cons hxn .nil)⟩, ⟨7, _, rfl, rfl, .same (encI_nn _)⟩, trivial⟩)
      ⟨⟨_, rfl, .ptr 0 0 0 0 rfl⟩, ⟨_, rfl, .ptr 2 3 0 0 rfl⟩, ⟨_, rfl, .slE rfl rfl⟩, ⟨_, rfl, .same _ nn⟩, trivial⟩) ?_
    clear hN hO
    have htl : to.length ≤ 2001 := by rw [hto]; simp; omega
    rintro ⟨j, Lj⟩ ⟨hj, hLj, hIj⟩
    simp only at hj hLj hIj ⊢
    ((conv=>whnf);repeat(refine Xg ?_;conv=>whnf))
    refine bcs_mk (fun hb => ?_) (fun hb => ?_)
    ·have hlj : j < to.length := by simpa using hb
     have hjp : j < ps.length := by rw [hto] at hlj; simp at hlj; omega
     have hpk : ps[j]? = some (ps[j].1, ps[j].2) := List.getElem?_eq_getElem hjp
     have hkj := hpf j _ hpk
     have htj : to[j]? = some (ps[j].2 : Int) := by rw [hto, List.getElem?_map, hpk]; rfl
     have hpb := hp _ (List.mem_of_getElem? hpk)
     simp only at hpb hkj
     generalize ps[j].1 = q at hpk hkj hpb
     generalize ps[j].2 = w at hpk htj hpb
     have hnx := fold_next hpk hLj
     have e1 : (encI kids)[((j : Nat) : Int).toNat]? = some (.int .i64 (q : Int)) := by rw [Int.toNat_natCast, encI_get, hkj]; rfl
     have e2 : (encI to)[0 + ((j : Nat) : Int).toNat]? = some (.int .i64 (w : Int)) := by rw [Nat.zero_add, Int.toNat_natCast, encI_get, htj]; rfl
     have g2 : Nat.blt ((j : Nat) : Int).toNat to.length = true := Nat.ble_eq_true_of_le (by simp; omega)
     ((conv=>whnf);repeat(refine Xg ?_;conv=>whnf))
     repeat ((first | refine grd_mk g2 ?_ | refine opt_mk e1 ?_ | refine opt_mk e2 ?_ | refine ⟨rfl, ?_⟩); ((conv=>whnf);repeat(refine Xg ?_;conv=>whnf)))
     have hIH := ih q w Lj (by omega) (by omega) (by omega) hIj
     have hinv := vis_inv hA hB vA vB f q w Lj (by omega) (by omega) hIj
     generalize visF A B f q w Lj = L2 at hIH hnx hinv
     unfold wQ at hIH
     refine ACalls.useN nnΓ [(0, 0), (2, 1)] hIH (by rfl) (.cons (.ptr 0 0 0 0 rfl) (.cons (.same _ nn) (.cons (.same _ nn) .nil))) (wM_conv (rid := 2) rfl rfl rfl rfl rfl (.same (encMs_nn _)) trivial) (by rfl) ?_
     rintro r m k' ⟨rfl, rfl, rfl⟩
     refine ⟨[(0, 0), (2, 16)], .tup [], wM A B L2 16 [], 17, .same _ nn, wM_conv (rid := 2) rfl rfl rfl rfl rfl (.same (encMs_nn _)) trivial, by rfl, ?_⟩
     ((conv=>whnf);repeat(refine Xg ?_;conv=>whnf))
     repeat (refine ⟨rfl, ?_⟩; ((conv=>whnf);repeat(refine Xg ?_;conv=>whnf)))
     exact .mk (j + 1, L2) [(0, 0), (16, 2), (3, 3), (4, 4)] ⟨by simp only; omega, hnx, hinv⟩
      (conv_mk _ rfl (wM_conv (rid := 16) rfl rfl rfl rfl rfl (.same (encMs_nn _)) ⟨⟨3, _, rfl, rfl, .same (.cons hxn .nil)⟩, ⟨4, _, rfl, rfl, .same (encI_nn _)⟩, trivial⟩) ⟨⟨_, rfl, .ptr 0 0 0 0 rfl⟩, ⟨_, rfl, .ptr 3 3 0 0 rfl⟩, ⟨_, rfl, .slE rfl rfl⟩, ⟨_, rfl, .w64 (by simp only; omega) ⟨by simp only; omega, by simp only; omega⟩⟩, trivial⟩) (by simp only; omega)
    ·have hlj : j = to.length := by simp at hb; omega
     have hpl : ps.length ≤ j := by rw [hlj, hto]; simp
     rw [List.take_of_length_le hpl, ← hvis] at hLj
     rw [← hLj]
     ((conv=>whnf);repeat(refine Xg ?_;conv=>whnf))
     exact fin_mk (n' := 3) (m' := wM A B Lj 2 []) [(0, 0), (2, 2)] rfl (wM_conv (rid := 2) rfl rfl rfl rfl rfl (.same (encMs_nn _)) trivial) (.same _ nn) ⟨rfl, rfl, rfl⟩
  ·rw [if_pos hkk] at hpr
   rw [hpr, List.foldl_nil] at hvis
   rw [hvis]
   have hce := hch0 (.inr hkk)
   subst hce
   refine ALoop.at nnΓ (fun _ : Unit => True)
    (fun _ => ⟨[(0, .ptr 0 0 0), (7, .ptr 2 0 0), (8, .ptr 3 0 0), (9, .ptr 4 0 0), (10, .nsl), (11, .int .i64 0)],
     wM A B L 1 [(2, .row 35 12 [encN ⟨kind, name, lo, hi', ws, lbs, vals, kids, .mk vk vn vs vks⟩]), (3, .row 35 12 [encN ⟨kind2, name2, lo2, hi2, ws2, lbs2, vals2, kids2, .mk vk2 vn2 vs2 vks2⟩]),
      (4, .row 78 4 [.agg [.int .i64 o, .int .i64 n, .nsl, .nsl]])], 5, 182⟩)
    (fun _ => 0) () [(0, 0), (1, 1), (2, 2), (3, 3), (4, 4)] trivial
    (conv_mk _ rfl (wM_conv (rid := 1) rfl rfl rfl rfl rfl (.same (encMs_nn _)) ⟨⟨2, _, rfl, rfl, .same (.cons hxn .nil)⟩, ⟨3, _, rfl, rfl, .same (.cons hyn .nil)⟩, ⟨4, _, rfl, rfl, .same (.cons nn .nil)⟩, trivial⟩)
     ⟨⟨_, rfl, .ptr 0 0 0 0 rfl⟩, ⟨_, rfl, .ptr 2 2 0 0 rfl⟩, ⟨_, rfl, .ptr 3 3 0 0 rfl⟩, ⟨_, rfl, .ptr 4 4 0 0 rfl⟩, ⟨_, rfl, .same _ nn⟩, ⟨_, rfl, .same _ nn⟩, trivial⟩) ?_
   intro _ _
   have hkf : (kind == kind2) = false := by simpa using hkk
   ((conv=>whnf);repeat(refine Xg ?_;conv=>whnf))
   refine bcs_mk (fun hb => ?_) (fun hb => ?_)
   ·rw [hb]
    ((conv=>whnf);repeat(refine Xg ?_;conv=>whnf))
    rw [hkf]
    ((conv=>whnf);repeat(refine Xg ?_;conv=>whnf))
    refine grd_mk (app_ok rfl rfl (by rw [encMs_length]) (by simp; omega)) ?_
    ((conv=>whnf);repeat(refine Xg ?_;conv=>whnf))
    repeat (refine ⟨rfl, ?_⟩; ((conv=>whnf);repeat(refine Xg ?_;conv=>whnf)))
    refine ALoop.at nnΓ (fun _ : Unit => True) (fun _ => ⟨[(10, .nsl), (14, .int .i64 0)], wM A B L1 2 [], 3, 182⟩) (fun _ => 0) () [(0, 0), (16, 2)] trivial
     (conv_mk _ rfl (wM_conv (rid := 16) hlen1 rfl rfl rfl rfl (by rw [hrow]; exact .snoc rfl (.same (encMs_nn _)) (.agg (.cons (.same _ nn) (.cons (.same _ nn) (.cons (.nil 1) (.cons (.nil 1) .nil)))))) trivial) ⟨⟨_, rfl, .same _ nn⟩, ⟨_, rfl, .same _ nn⟩, trivial⟩) ?_
    intro _ _
    ((conv=>whnf);repeat(refine Xg ?_;conv=>whnf))
    exact fin_mk (n' := 3) (m' := wM A B L1 2 []) [(0, 0), (2, 2)] rfl (wM_conv (rid := 2) rfl rfl rfl rfl rfl (.same (encMs_nn _)) trivial) (.same _ nn) ⟨rfl, rfl, rfl⟩
   ·rw [hb]
    ((conv=>whnf);repeat(refine Xg ?_;conv=>whnf))
    refine grd_mk (app_ok rfl rfl (by rw [encMs_length]) (by simp; omega)) ?_
    ((conv=>whnf);repeat(refine Xg ?_;conv=>whnf))
    repeat (refine ⟨rfl, ?_⟩; ((conv=>whnf);repeat(refine Xg ?_;conv=>whnf)))
    refine ALoop.at nnΓ (fun _ : Unit => True) (fun _ => ⟨[(10, .nsl), (14, .int .i64 0)], wM A B L1 2 [], 3, 182⟩) (fun _ => 0) () [(0, 0), (16, 2)] trivial
     (conv_mk _ rfl (wM_conv (rid := 16) hlen1 rfl rfl rfl rfl (by rw [hrow]; exact .snoc rfl (.same (encMs_nn _)) (.agg (.cons (.same _ nn) (.cons (.same _ nn) (.cons (.nil 1) (.cons (.nil 1) .nil)))))) trivial) ⟨⟨_, rfl, .same _ nn⟩, ⟨_, rfl, .same _ nn⟩, trivial⟩) ?_
    intro _ _
    ((conv=>whnf);repeat(refine Xg ?_;conv=>whnf))
    exact fin_mk (n' := 3) (m' := wM A B L1 2 []) [(0, 0), (2, 2)] rfl (wM_conv (rid := 2) rfl rfl rfl rfl rfl (.same (encMs_nn _)) trivial) (.same _ nn) ⟨rfl, rfl, rfl⟩
set_option maxHeartbeats 8000000
theorem fLists (ns : List Nd) (n : Nat) (hn : n ≤ ns.length) (hl : ns.length ≤ 100000) (hg : ∀ (i : Nat) (x : Nd), i < n → ns[i]? = some x → GoodN i x) :
  ACalls Tryz.prog [] 77 [.agg [.il 12 (encNs ns)], .int .i64 n] [] 0 fun r m k => r = .sl 0 0 n ∧ m = [(0, .row 128 2 (Go.Ax.encLs (listsT (ns.take n))))] ∧ k = 1 := by
 refine acalls_go nnΓ Tryz.func77 rfl ?_
 ((conv=>whnf);repeat(refine Xg ?_;conv=>whnf))
 refine ALoop.ph 128 2 ?_
 refine ALoop.at nnΓ (fun i : Nat => i ≤ n)
  (fun i => ⟨[(1, .int .i64 n), (2, .ptr 1 0 0), (5, .sl 2 0 i), (6, .int .i64 i)], [(1, .row 25 1 [.agg [.il 12 (encNs ns)]]), (2, .row 128 2 (Go.Ax.encLs (listsT (ns.take i))))], 3, 23⟩)
  (fun i => n - i) 0 [(0, 1), (1, 2)] (by simp)
  (conv_mk _ rfl ⟨⟨0, _, rfl, rfl, .same (.cons (.agg' (.cons (.il' (encNs_nn _)) .nil)) .nil)⟩, ⟨1, _, rfl, rfl, .same .nil⟩, trivial⟩ ⟨⟨_, rfl, .same _ nn⟩, ⟨_, rfl, .ptr 0 1 0 0 rfl⟩, ⟨_, rfl, .nslk 1 2 _ rfl rfl⟩, ⟨_, rfl, .same _ nn⟩, trivial⟩) ?_
 intro i hi
 ((conv=>whnf);repeat(refine Xg ?_;conv=>whnf))
 refine bcs_mk (fun h => ?_) (fun h => ?_)
 ·have hin : i < n := by simp at h; omega
  obtain ⟨x, hx1, hx2, ex, bx⟩ := encN_own (l := ns) (k := i) (n := ns.length) (by omega) rfl
  have ex : (encNs ns)[((i : Nat) : Int).toNat]? = some (encN x) := by rw [Nat.zero_add] at ex; exact ex
  have hgx := hg i x hin hx1
  have htl : (listsT (ns.take i)).length = i := by rw [listsT_length]; simp; omega
  have hL := oList i x (listsT (ns.take i)) hgx htl.symm (listsT_good _ fun j y hy => by
   have hj := (List.getElem?_eq_some_iff.1 hy).1
   rw [List.getElem?_take, if_pos (by simp at hj; omega)] at hy
   exact hg j y (by simp at hj; omega) hy)
  have hnx : listsT (ns.take (i + 1)) = listsT (ns.take i) ++ [listN x (listsT (ns.take i))] := by rw [List.take_succ_eq_append_getElem (by omega), hx2, listsT_snoc]
  have hxn := encN_nn x
  have hxc : (encN x).cells.length = 12 := by obtain ⟨kind, name, lo, hi, ws, ls, vals, kids, ⟨vk, vn, vs, vks⟩⟩ := x; rfl
  generalize listN x (listsT (ns.take i)) = nl at hL hnx
  obtain ⟨bs, hbs⟩ : ∃ bs, bs = listsT (ns.take i) := ⟨_, rfl⟩
  rw [← hbs] at hL hnx htl ⊢
  obtain ⟨kind, name, lo, hi, ws, ls, vals, kids, ⟨vk, vn, vs, vks⟩⟩ := x
  ((conv=>whnf);repeat(refine Xg ?_;conv=>whnf))
  repeat ((first | refine grd_mk bx ?_ | refine opt_mk ex ?_); ((conv=>whnf);repeat(refine Xg ?_;conv=>whnf)))
  refine ACalls.use1 nnΓ hL 2 rfl (Go.Ax.encLs_nn bs) (.cons (.same _ hxn) (.cons (.slE rfl htl.symm) .nil)) ?_
  rintro r m k ⟨rfl, rfl⟩
  refine ⟨_, rfl, encL_nn _, Go.Ax.encLs_nn bs, ?_⟩
  ((conv=>whnf);repeat(refine Xg ?_;conv=>whnf))
  refine grd_mk (app_ok rfl rfl (by rw [Go.Ax.encLs_length, htl]) (by simp; omega)) ?_
  ((conv=>whnf);repeat(refine Xg ?_;conv=>whnf))
  exact .mk (i + 1) [(1, 1), (4, 2)] (by omega)
   (conv_mk _ rfl ⟨⟨1, _, rfl, rfl, .same (.cons (.agg' (.cons (.il' (encNs_nn _)) .nil)) .nil)⟩, ⟨4, _, rfl, rfl, .eq (Go.Ax.encLs_nn _) (by rw [hnx]; simp [Go.Ax.encLs])⟩, trivial⟩ ⟨⟨_, rfl, .same _ nn⟩, ⟨_, rfl, .ptr 1 1 0 0 rfl⟩, ⟨_, rfl, .slE rfl (by simp)⟩, ⟨_, rfl, .w64 (by omega) ⟨by omega, by omega⟩⟩, trivial⟩) (by omega)
 ·have hin : i = n := by simp at h; omega
  subst hin
  ((conv=>whnf);repeat(refine Xg ?_;conv=>whnf))
  exact fin_mk (r' := .sl 0 0 i) (n' := 1) (m' := [(0, .row 128 2 (Go.Ax.encLs (listsT (ns.take i))))]) [(2, 0)] rfl ⟨⟨2, _, rfl, rfl, .same (Go.Ax.encLs_nn _)⟩, trivial⟩ (.sl 2 0 0 _ rfl) ⟨rfl, rfl, rfl⟩
theorem fValues (ns : List Nd) (i : Nat) (hi : i < ns.length) (hl : ns.length ≤ 100000) (hg : ∀ (j : Nat) (x : Nd), j < i + 1 → ns[j]? = some x → GoodN j x) :
  ACalls Tryz.prog [] 44 [.agg [.il 12 (encNs ns)], .int .i64 i] [] 0 fun r m k => r = .tup [.il 4 (encVs (atL (listsT (ns.take (i + 1))) i).vals), .bool (!(atL (listsT (ns.take (i + 1))) i).many)] ∧ m = [] ∧ k = 0 := by
 have hL := fLists ns (i + 1) (by omega) hl hg
 have hw : IntKind.i64.wrap ((i : Int) + 1) = ((i + 1 : Nat) : Int) := w64 (by omega) ⟨by omega, by omega⟩
 have hat := listsT_at hi
 have hlen : (listsT (ns.take (i + 1))).length = i + 1 := by rw [listsT_length]; simp; omega
 generalize atL (listsT (ns.take (i + 1))) i = b at hat ⊢
 generalize listsT (ns.take (i + 1)) = bs at hL hat hlen
 obtain ⟨bv, bm⟩ := b
 have e2 : (Go.Ax.encLs bs)[0 + ((i : Nat) : Int).toNat]? = some (encL ⟨bv, bm⟩) := by rw [Nat.zero_add, Int.toNat_natCast, Go.Ax.encLs_get, hat]; rfl
 have b2 : Nat.blt ((i : Nat) : Int).toNat (i + 1) = true := Nat.ble_eq_true_of_le (by simp)
 refine acalls_go nnΓ Tryz.func44 rfl ?_
 ((conv=>whnf);repeat(refine Xg ?_;conv=>whnf))
 rw [hw]
 refine ACalls.useN nnΓ [] hL rfl (.cons (.same _ (.agg' (.cons (.il' (encNs_nn _)) .nil))) (.cons (.same _ nn) .nil)) trivial rfl ?_
 rintro r m k ⟨rfl, rfl, rfl⟩
 refine ⟨[(0, 2)], .sl 2 0 (i + 1), [(2, .row 128 2 (Go.Ax.encLs bs))], 3, .sl 0 2 0 _ rfl, ⟨⟨0, _, rfl, rfl, .same (Go.Ax.encLs_nn _)⟩, trivial⟩, rfl, ?_⟩
 ((conv=>whnf);repeat(refine Xg ?_;conv=>whnf))
 repeat ((first | refine ⟨rfl, ?_⟩ | refine grd_mk b2 ?_ | refine opt_mk e2 ?_); ((conv=>whnf);repeat(refine Xg ?_;conv=>whnf)))
 exact fin_pure nn ⟨rfl, rfl, rfl⟩
theorem fBound (ns : List Nd) (x : Nd) (i : Nat) (hi : i ≤ ns.length) (hl : ns.length ≤ 100000) (hg : ∀ (j : Nat) (x : Nd), j < i → ns[j]? = some x → GoodN j x) (hx : okN x) (hk0 : 0 < x.kids.length) (hk : ∀ (j : Nat) (k : Int), x.kids[j]? = some k → 0 ≤ k ∧ k < i) :
  PureC Tryz.prog [] 48 [.agg [.il 12 (encNs ns)], encN x] (.int .i64 (boundE ns x)) := by
 obtain ⟨q, hq⟩ : ∃ q, x.kids[0]? = some q := ⟨x.kids[0], List.getElem?_eq_getElem hk0⟩
 obtain ⟨q1, q2⟩ := hk 0 q hq
 obtain ⟨qn, rfl⟩ := Int.eq_ofNat_of_zero_le q1
 have hgd : x.kids.getD 0 0 = qn := by rw [List.getD_eq_getElem?_getD, hq]; rfl
 have hV := fValues ns qn (by omega) hl fun j y hj hy => hg j y (by omega) hy
 have hbl := atL_good (listsT_good (ns.take (qn + 1)) fun j y hy => hg j y (by have := (getElem_take_some hy).2; omega) (getElem_take_some hy).1) qn
 have hbe : boundE ns x = if (atL (listsT (ns.take (qn + 1))) qn).many = true then 4 else if sameVs (atL (listsT (ns.take (qn + 1))) qn).vals x.values = true then 0 else 1 := by
  unfold boundE
  simp only [hgd, Int.toNat_natCast]
 rw [hbe]
 generalize atL (listsT (ns.take (qn + 1))) qn = b at hV hbl ⊢
 obtain ⟨bv, bm⟩ := b
 simp only at hV hbl ⊢
 have hS := rSameVs bv x.values (by omega) hbl.2
 generalize sameVs bv x.values = sm at hS ⊢
 have ek : (encI x.kids)[(0 : Int).toNat]? = some (.int .i64 (qn : Int)) := by rw [encI_get]; simp [hq]
 obtain ⟨kind, name, lo, hi', ws, ls, vals, kids, ⟨vk, vn, vs, vks⟩⟩ := x
 simp only at hS ek
 refine acalls_go nnΓ Tryz.func48 rfl ?_
 ((conv=>whnf);repeat(refine Xg ?_;conv=>whnf))
 repeat ((first | refine ⟨rfl, ?_⟩ | refine opt_mk ek ?_); ((conv=>whnf);repeat(refine Xg ?_;conv=>whnf)))
 refine PureC.go hV ?_ (.cons (.agg' (.cons (.il' (encNs_nn _)) .nil)) (.cons nn .nil))
 cases bm with
 | true =>
  ((conv=>whnf);repeat(refine Xg ?_;conv=>whnf))
  repeat ((first | refine ⟨rfl, ?_⟩ | refine opt_mk ek ?_); ((conv=>whnf);repeat(refine Xg ?_;conv=>whnf)))
  exact fin_pure nn ⟨rfl, rfl, rfl⟩
 | false =>
  ((conv=>whnf);repeat(refine Xg ?_;conv=>whnf))
  repeat ((first | refine ⟨rfl, ?_⟩ | refine opt_mk ek ?_); ((conv=>whnf);repeat(refine Xg ?_;conv=>whnf)))
  refine hS.go ?_
  cases sm with
  | true =>
   ((conv=>whnf);repeat(refine Xg ?_;conv=>whnf))
   exact fin_pure nn ⟨rfl, rfl, rfl⟩
  | false =>
   ((conv=>whnf);repeat(refine Xg ?_;conv=>whnf))
   exact fin_pure nn ⟨rfl, rfl, rfl⟩
theorem fValid (ns : List Nd) (hl : ns.length ≤ 100000) (ho : ∀ x ∈ ns, okN x ∧ x.values.length ≤ 4294967290) :
  PureC Tryz.prog [] 25 [.agg [.il 12 (encNs ns)]] (.int .i64 (validT ns)) := by
 have hfin : ∀ (e : Int) (mem : Mem) (nx : Nat), e = validT ns → Fini 0 (fun r m n => r = .int .i64 (validT ns) ∧ m = [] ∧ n = 0) (.int .i64 e) mem nx := by
  intro e mem nx he
  exact fin_pure nn ⟨by rw [he], rfl, rfl⟩
 refine acalls_go nnΓ Tryz.func25 rfl ?_
 ((conv=>whnf);repeat(refine Xg ?_;conv=>whnf))
 refine bcs_mk (fun h => ?_) (fun h => ?_)
 ·have h1 : 4096 < ns.length := by rw [encNs_length] at h; simp at h; omega
  ((conv=>whnf);repeat(refine Xg ?_;conv=>whnf))
  exact hfin _ _ _ (by unfold validT; rw [if_pos h1])
 ·have h1 : ¬ 4096 < ns.length := by rw [encNs_length] at h; simp at h; omega
  have hvt : validT ns = validF [] ns := by unfold validT; rw [if_neg h1]
  ((conv=>whnf);repeat(refine Xg ?_;conv=>whnf))
  refine ALoop.ph 3 1 ?_
  refine ALoop.ph 3 1 ?_
  refine ALoop.at nnΓ (fun i : Nat => i ≤ ns.length ∧ validF [] (ns.take i) = 0)
   (fun i => ⟨[(1, .ptr 1 0 0), (3, .sl 2 0 i), (4, .sl 3 0 i), (5, .int .i64 i)], [(1, .row 25 1 [.agg [.il 12 (encNs ns)]]), (2, .row 3 1 (encI (lensT (ns.take i)))), (3, .row 3 1 (encI (sizsT (ns.take i))))], 4, 57⟩)
   (fun i => ns.length - i) 0 [(0, 1), (1, 2), (2, 3)] ⟨by simp, by simp [validF]⟩
   (conv_mk _ rfl ⟨⟨0, _, rfl, rfl, .same (.cons (.agg' (.cons (.il' (encNs_nn _)) .nil)) .nil)⟩, ⟨1, _, rfl, rfl, .same .nil⟩, ⟨2, _, rfl, rfl, .same .nil⟩, trivial⟩ ⟨⟨_, rfl, .ptr 0 1 0 0 rfl⟩, ⟨_, rfl, .nslk 1 2 _ rfl rfl⟩, ⟨_, rfl, .nslk 2 3 _ rfl rfl⟩, ⟨_, rfl, .same _ nn⟩, trivial⟩) ?_
  rintro i ⟨hi, hv0⟩
  ((conv=>whnf);repeat(refine Xg ?_;conv=>whnf))
  refine bcs_mk (fun h => ?_) (fun h => ?_)
  ·have hin : i < ns.length := by rw [encNs_length] at h; simp at h; omega
   obtain ⟨x, hx1, hx2, ex, bx⟩ := encN_own (l := ns) (k := i) (n := ns.length) hin rfl
   have hxm := List.mem_of_getElem? hx1
   have ex : (encNs ns)[((i : Nat) : Int).toNat]? = some (encN x) := by rw [Nat.zero_add] at ex; exact ex
   obtain ⟨hxo, hxv⟩ := ho x hxm
   have hsplit : ns = ns.take i ++ x :: ns.drop (i + 1) := by rw [← hx2, ← List.drop_eq_getElem_cons hin, List.take_append_drop]
   have hti : (ns.take i).length = i := by simp; omega
   have htn : ns.take (i + 1) = ns.take i ++ [x] := by rw [List.take_succ_eq_append_getElem hin, hx2]
   have hgood := valid_good (ns.take i) (fun y hy => (ho y (List.mem_of_mem_take hy)).1) hv0
   obtain ⟨hls, hss⟩ := valid_lens (ns.take i) hv0
   have hll : (lensT (ns.take i)).length = i := by rw [lensT_length, hti]
   have hsl : (sizsT (ns.take i)).length = i := by rw [sizsT_length, hti]
   have hstop := fun hs => validF_stop (l := ns.take i) (r := ns.drop (i + 1)) (x := x) hv0 hs
   rw [← hsplit] at hstop
   have hgo := validF_snoc [] (ns.take i) x hv0
   rw [List.nil_append, ← htn] at hgo
   have hN := rNode i x (by omega) hxo hxv
   have hlt := lensT_snoc (ns.take i) x
   have hst := sizsT_snoc (ns.take i) x
   rw [← htn] at hlt hst
   have hse : stepE (ns.take i) (lensT (ns.take i)) (sizsT (ns.take i)) x = if nodeE i x ≠ 0 then nodeE i x else if 256 < lenN (lensT (ns.take i)) x ∨ 1024 < sizN (sizsT (ns.take i)) x then 4 else if x.kind = 4 then boundE (ns.take i) x else 0 := by
    unfold stepE; rw [hti]
   have hbnd : (0 < x.kids.length ∧ ∀ (j : Nat) (k : Int), x.kids[j]? = some k → 0 ≤ k ∧ k < i) → boundE (ns.take i) x = boundE ns x := by
    rintro ⟨h0, hk⟩
    obtain ⟨q, hq⟩ : ∃ q, x.kids[0]? = some q := ⟨x.kids[0], List.getElem?_eq_getElem h0⟩
    obtain ⟨q1, q2⟩ := hk 0 q hq
    have hgd : x.kids.getD 0 0 = q := by rw [List.getD_eq_getElem?_getD, hq]; rfl
    unfold boundE
    simp only [hgd]
    rw [List.take_take, Nat.min_eq_left (by omega)]
   have hxn := encN_nn x
   obtain ⟨ne, hne⟩ : ∃ ne, ne = nodeE i x := ⟨_, rfl⟩
   rw [← hne] at hN hse
   by_cases n0 : ne = 0
   ·subst n0
    have hok := node_ok hne.symm
    have h4 : 4 ≤ x.kind → 0 < x.kids.length := fun h => by have := hok.bind (by have := hok.kind; omega); omega
    have hL := rLengths (lensT (ns.take i)) x hxo (by omega) hls (by rw [hll]; exact hok.kids) h4 hok.kind
    have hS := rSizes (sizsT (ns.take i)) x hxo (by omega) hss (by rw [hsl]; exact hok.kids) h4 hok.kind
    have hB := fBound ns x i (by omega) hl (fun j y hj hy => hgood j y (by rw [List.getElem?_take, if_pos hj]; exact hy)) hxo
    rw [if_neg (by simp)] at hse
    generalize lensT (ns.take i) = lsI at hL hll hlt hse hstop hgo hls ⊢
    generalize sizsT (ns.take i) = ssI at hS hsl hst hse hstop hgo hss ⊢
    generalize lenN lsI x = ln at hL hlt hse
    generalize sizN ssI x = sn at hS hst hse
    obtain ⟨kind, name, lo, hi', ws, ls, vals, kids, ⟨vk, vn, vs, vks⟩⟩ := x
    simp only at hse h4 hB hbnd hok
    ((conv=>whnf);repeat(refine Xg ?_;conv=>whnf))
    repeat ((first | refine grd_mk bx ?_ | refine opt_mk ex ?_); ((conv=>whnf);repeat(refine Xg ?_;conv=>whnf)))
    refine hN.go ?_ (.cons (.int _ _) (.cons hxn .nil))
    ((conv=>whnf);repeat(refine Xg ?_;conv=>whnf))
    refine ACalls.useApp nnΓ hL 2 rfl (encI_nn _) (.cons (.slE rfl hll.symm) (.cons (.same _ hxn) .nil)) ?_
    rintro len ys ⟨rfl, rfl⟩
    ((conv=>whnf);repeat(refine Xg ?_;conv=>whnf))
    refine ACalls.useApp nnΓ hS 3 rfl (encI_nn _) (.cons (.slE rfl hsl.symm) (.cons (.same _ hxn) .nil)) ?_
    rintro len ys ⟨rfl, rfl⟩
    have el : (encI (lsI ++ [ln]))[0 + ((i : Nat) : Int).toNat]? = some (.int .i64 ln) := by simp [encI, hll]
    have bl : Nat.blt ((i : Nat) : Int).toNat (lsI.length + 1) = true := Nat.ble_eq_true_of_le (by simp; omega)
    have es : (encI (ssI ++ [sn]))[0 + ((i : Nat) : Int).toNat]? = some (.int .i64 sn) := by simp [encI, hsl]
    have bs' : Nat.blt ((i : Nat) : Int).toNat (ssI.length + 1) = true := Nat.ble_eq_true_of_le (by simp; omega)
    ((conv=>whnf);repeat(refine Xg ?_;conv=>whnf))
    repeat ((first | refine grd_mk bl ?_ | refine opt_mk el ?_); ((conv=>whnf);repeat(refine Xg ?_;conv=>whnf)))
    refine bcs_mk (fun h2 => ?_) (fun h2 => ?_)
    ·have h3 : 256 < ln := by simpa using h2
     rw [h2]
     rw [if_pos (.inl h3)] at hse
     have hres := hstop (by rw [hse]; omega)
     ((conv=>whnf);repeat(refine Xg ?_;conv=>whnf))
     exact hfin _ _ _ (by rw [hvt, hres, hse])
    ·have h3 : ¬ 256 < ln := by simpa using h2
     rw [h2]
     ((conv=>whnf);repeat(refine Xg ?_;conv=>whnf))
     repeat ((first | refine grd_mk bs' ?_ | refine opt_mk es ?_); ((conv=>whnf);repeat(refine Xg ?_;conv=>whnf)))
     refine bcs_mk (fun h4' => ?_) (fun h4' => ?_)
     ·have h5 : 1024 < sn := by simpa using h4'
      rw [h4']
      rw [if_pos (.inr h5)] at hse
      have hres := hstop (by rw [hse]; omega)
      ((conv=>whnf);repeat(refine Xg ?_;conv=>whnf))
      exact hfin _ _ _ (by rw [hvt, hres, hse])
     ·have h5 : ¬ 1024 < sn := by simpa using h4'
      rw [h4']
      rw [if_neg (by omega)] at hse
      by_cases k4 : kind = 4
      ·rw [if_pos k4] at hse
       have h40 := h4 (by omega)
       have hB := hB h40 hok.kids
       rw [hbnd ⟨h40, hok.kids⟩] at hse
       generalize boundE ns ⟨kind, name, lo, hi', ws, ls, vals, kids, .mk vk vn vs vks⟩ = be at hB hse
       subst k4
       ((conv=>whnf);repeat(refine Xg ?_;conv=>whnf))
       refine hB.go ?_ (.cons (.agg' (.cons (.il' (encNs_nn _)) .nil)) (.cons hxn .nil))
       by_cases be0 : be = 0
       ·subst be0
        rw [hse] at hgo
        ((conv=>whnf);repeat(refine Xg ?_;conv=>whnf))
        exact .mk (i + 1) [(1, 1), (5, 2), (6, 3)] ⟨by omega, hgo⟩
         (conv_mk _ rfl ⟨⟨1, _, rfl, rfl, .same (.cons (.agg' (.cons (.il' (encNs_nn _)) .nil)) .nil)⟩, ⟨5, _, rfl, rfl, .eq (encI_nn _) (by rw [hlt])⟩, ⟨6, _, rfl, rfl, .eq (encI_nn _) (by rw [hst])⟩, trivial⟩ ⟨⟨_, rfl, .ptr 1 1 0 0 rfl⟩, ⟨_, rfl, .slE rfl (by rw [hll])⟩, ⟨_, rfl, .slE rfl (by rw [hsl])⟩, ⟨_, rfl, .w64 (by omega) ⟨by omega, by omega⟩⟩, trivial⟩) (by omega)
       ·have d5 : (be != 0) = true := by simpa using be0
        have hres := hstop (by rw [hse]; exact be0)
        ((conv=>whnf);repeat(refine Xg ?_;conv=>whnf))
        rw [d5]
        ((conv=>whnf);repeat(refine Xg ?_;conv=>whnf))
        exact hfin _ _ _ (by rw [hvt, hres, hse])
      ·rw [if_neg k4] at hse
       have d4 : (kind == 4) = false := by simpa using k4
       rw [hse] at hgo
       ((conv=>whnf);repeat(refine Xg ?_;conv=>whnf))
       rw [d4]
       ((conv=>whnf);repeat(refine Xg ?_;conv=>whnf))
       exact .mk (i + 1) [(1, 1), (5, 2), (6, 3)] ⟨by omega, hgo⟩
        (conv_mk _ rfl ⟨⟨1, _, rfl, rfl, .same (.cons (.agg' (.cons (.il' (encNs_nn _)) .nil)) .nil)⟩, ⟨5, _, rfl, rfl, .eq (encI_nn _) (by rw [hlt])⟩, ⟨6, _, rfl, rfl, .eq (encI_nn _) (by rw [hst])⟩, trivial⟩ ⟨⟨_, rfl, .ptr 1 1 0 0 rfl⟩, ⟨_, rfl, .slE rfl (by rw [hll])⟩, ⟨_, rfl, .slE rfl (by rw [hsl])⟩, ⟨_, rfl, .w64 (by omega) ⟨by omega, by omega⟩⟩, trivial⟩) (by omega)
   ·have d1 : (ne != 0) = true := by simpa using n0
    have hse' := hse
    rw [if_pos n0] at hse'
    have hres := hstop (by rw [hse']; exact n0)
    rw [hse'] at hres
    obtain ⟨kind, name, lo, hi', ws, ls, vals, kids, ⟨vk, vn, vs, vks⟩⟩ := x
    ((conv=>whnf);repeat(refine Xg ?_;conv=>whnf))
    repeat ((first | refine grd_mk bx ?_ | refine opt_mk ex ?_); ((conv=>whnf);repeat(refine Xg ?_;conv=>whnf)))
    refine hN.go ?_ (.cons (.int _ _) (.cons hxn .nil))
    ((conv=>whnf);repeat(refine Xg ?_;conv=>whnf))
    rw [d1]
    ((conv=>whnf);repeat(refine Xg ?_;conv=>whnf))
    exact hfin _ _ _ (by rw [hvt, hres])
  ·have hin : i = ns.length := by rw [encNs_length] at h; simp at h; omega
   subst hin
   rw [List.take_length] at hv0
   ((conv=>whnf);repeat(refine Xg ?_;conv=>whnf))
   exact hfin _ _ _ (by rw [hvt, hv0])
set_option maxHeartbeats 16000000
theorem rVisAll {A B : List Nd} (hA : TreeIn A) (hB : TreeIn B) (vA : validT A = 0) (vB : validT B = 0) (hlab : ∀ x ∈ A, ∀ s ∈ x.labels, s ∈ LB) : ∀ f, WisOK A B f
 | 0 => fun o n L h => absurd h (by omega)
 | f + 1 => rVisit hA hB vA vB hlab f (rVisAll hA hB vA vB hlab f)
theorem rDiff {A B : List Nd} (hA : TreeIn A) (hB : TreeIn B) (hlab : ∀ x ∈ A, ∀ s ∈ x.labels, s ∈ LB) : PureC Tryz.prog [] 17 [.agg [.il 12 (encNs A)], .agg [.il 12 (encNs B)]] (.il 4 (encMs (diffM A B))) := by
 have hUA := fValid A (by have := hA.len; omega) (fun x hx => ⟨hA.ok x hx, by have := hA.vlen x hx; omega⟩)
 have hUB := fValid B (by have := hB.len; omega) (fun x hx => ⟨hB.ok x hx, by have := hB.vlen x hx; omega⟩)
 have hd : diffM A B = if usableT A = true ∧ usableT B = true then visF A B A.length (A.length - 1) (B.length - 1) [] else [] := rfl
 have hua : usableT A = (decide (0 < A.length) && decide (validT A = 0)) := rfl
 have hub : usableT B = (decide (0 < B.length) && decide (validT B = 0)) := rfl
 have hVis := fun (vA : validT A = 0) (vB : validT B = 0) => rVisAll hA hB vA vB hlab A.length
 generalize diffM A B = res at hd ⊢
 generalize usableT A = ua at hua hd
 generalize usableT B = ub at hub hd
 generalize validT A = va at hUA hua hVis
 generalize validT B = vb at hUB hub hVis
 have z1 : (((encNs A).length : Int) == 0) = decide (A.length = 0) := by rw [encNs_length, Bool.eq_iff_iff]; simp
 have z2 : (((encNs B).length : Int) == 0) = decide (B.length = 0) := by rw [encNs_length, Bool.eq_iff_iff]; simp
 have no : ∀ (mem : Mem) (nx : Nat), ¬ (ua = true ∧ ub = true) → Fini 0 (fun r m n => r = .il 4 (encMs res) ∧ m = [] ∧ n = 0) .nsl mem nx := fun mem nx h => by
  rw [hd, if_neg h]
  exact fin_cv (r' := .il 4 (encMs [])) (.nil 4) ⟨rfl, rfl, rfl⟩
 refine acalls_go nnΓ Tryz.func17 rfl ?_
 ((conv=>whnf);repeat(refine Xg ?_;conv=>whnf))
 refine hUA.go ?_ (.cons (tree_nn A) .nil)
 ((conv=>whnf);repeat(refine Xg ?_;conv=>whnf))
 by_cases e1 : va = 0
 ·rw [show (va != 0) = false by simpa using e1]
  ((conv=>whnf);repeat(refine Xg ?_;conv=>whnf))
  refine hUB.go ?_ (.cons (tree_nn B) .nil)
  ((conv=>whnf);repeat(refine Xg ?_;conv=>whnf))
  by_cases e2 : vb = 0
  ·rw [show (vb != 0) = false by simpa using e2]
   ((conv=>whnf);repeat(refine Xg ?_;conv=>whnf))
   rw [z1]
   by_cases e3 : A.length = 0
   ·rw [decide_eq_true e3]
    ((conv=>whnf);repeat(refine Xg ?_;conv=>whnf))
    exact no _ _ (fun h => by rw [hua, e3] at h; simp at h)
   ·rw [decide_eq_false e3]
    ((conv=>whnf);repeat(refine Xg ?_;conv=>whnf))
    rw [z2]
    by_cases e4 : B.length = 0
    ·rw [decide_eq_true e4]
     ((conv=>whnf);repeat(refine Xg ?_;conv=>whnf))
     exact no _ _ (fun h => by rw [hub, e4] at h; simp at h)
    ·rw [decide_eq_false e4]
     have hu1 : ua = true := by rw [hua, decide_eq_true (show 0 < A.length by omega), decide_eq_true e1]; rfl
     have hu2 : ub = true := by rw [hub, decide_eq_true (show 0 < B.length by omega), decide_eq_true e2]; rfl
     rw [if_pos ⟨hu1, hu2⟩] at hd
     have hV := hVis e1 e2 (A.length - 1) (B.length - 1) [] (by omega) (by omega) (by omega) (inv_nil _ _)
     rw [← hd] at hV
     have w1 : IntKind.i64.wrap (((encNs A).length : Int) - 1) = ((A.length - 1 : Nat) : Int) := w64 (by rw [encNs_length]; omega) ⟨by have := hA.len; omega, by have := hA.len; omega⟩
     have w2 : IntKind.i64.wrap (((encNs B).length : Int) - 1) = ((B.length - 1 : Nat) : Int) := w64 (by rw [encNs_length]; omega) ⟨by have := hB.len; omega, by have := hB.len; omega⟩
     ((conv=>whnf);repeat(refine Xg ?_;conv=>whnf))
     rw [w1, w2]
     refine ACalls.ph 78 4 ?_
     unfold wQ at hV
     refine ACalls.useN nnΓ [(2, 0), (3, 1)] hV (by rfl) (.cons (.ptr 2 0 0 0 rfl) (.cons (.same _ nn) (.cons (.same _ nn) .nil)))
      ⟨⟨2, _, rfl, rfl, .cons (.agg (.cons (.same _ (.il' (encNs_nn _))) (.cons (.same _ (.il' (encNs_nn _))) (.cons (.nslk 3 1 _ rfl rfl) .nil)))) .nil⟩, ⟨3, _, rfl, rfl, .same .nil⟩, trivial⟩ (by rfl) ?_
     rintro r m k ⟨rfl, rfl, rfl⟩
     refine ⟨[(0, 2), (2, 4)], .tup [], [(2, .row 83 3 [.agg [.il 12 (encNs A), .il 12 (encNs B), .sl 4 0 res.length]]), (4, .row 78 4 (encMs res))], 5, .same _ nn,
      ⟨⟨0, _, rfl, rfl, .cons (.agg (.cons (.same _ (.il' (encNs_nn _))) (.cons (.same _ (.il' (encNs_nn _))) (.cons (.sl 2 4 0 _ rfl) .nil)))) .nil⟩, ⟨2, _, rfl, rfl, .same (encMs_nn _)⟩, trivial⟩, by rfl, ?_⟩
     ((conv=>whnf);repeat(refine Xg ?_;conv=>whnf))
     exact fin_cv (r' := .il 4 (encMs res)) (.fz' (id := 4) rfl rfl (by rw [encMs_length]; omega) (by rw [List.drop_zero]; exact List.take_of_length_le (by rw [encMs_length]; omega)) (encMs_nn _)) ⟨rfl, rfl, rfl⟩
  ·rw [show (vb != 0) = true by simpa using e2]
   ((conv=>whnf);repeat(refine Xg ?_;conv=>whnf))
   exact no _ _ (fun h => by rw [hub, decide_eq_false e2] at h; simp at h)
 ·rw [show (va != 0) = true by simpa using e1]
  ((conv=>whnf);repeat(refine Xg ?_;conv=>whnf))
  exact no _ _ (fun h => by rw [hua, decide_eq_false e1] at h; simp at h)
theorem exact_kids (x y : Nd) : exactN x y = (decide (x.kids.length = y.kids.length) && exactN { x with kids := [] } { y with kids := [] }) := by
 unfold exactN
 rw [Bool.eq_iff_iff]
 simp only [Bool.and_eq_true, decide_eq_true_eq, beq_iff_eq]
 constructor
 ·rintro ⟨⟨⟨⟨⟨a, b, c, d, e⟩, f⟩, g⟩, h⟩, i⟩
  exact ⟨d, ⟨⟨⟨⟨a, b, c, trivial, e⟩, f⟩, g⟩, h⟩, i⟩
 ·rintro ⟨d, ⟨⟨⟨⟨a, b, c, -, e⟩, f⟩, g⟩, h⟩, i⟩
  exact ⟨⟨⟨⟨⟨a, b, c, d, e⟩, f⟩, g⟩, h⟩, i⟩
theorem okN_nokids {x : Nd} (h : okN x) : okN { x with kids := [] } := ⟨h.kind, h.name, h.lo, h.hi, h.weights, h.weightsI, h.labels, h.labelsI, h.values, h.valuesI, by simp, by simp, h.value, h.valueS⟩
theorem cvNoKids (kind lo hi vk vn : Int) (name vs : List UInt8) (ws : List Int) (lbs : List (List UInt8)) (vals vks : List Val) :
  Cv [] [] (.agg [.int .i64 kind, .str name, .int .i64 lo, .int .i64 hi, .il 1 (encI ws), .il 1 (encS lbs), .il 4 (encVs vals), .nsl, .int .i64 vk, .int .i64 vn, .str vs, .il 4 (encVs vks)]) (encN ⟨kind, name, lo, hi, ws, lbs, vals, [], .mk vk vn vs vks⟩) :=
 .agg' (.cons (.same _ nn) (.cons (.same _ nn) (.cons (.same _ nn) (.cons (.same _ nn) (.cons (.same _ (.il' (encI_nn _))) (.cons (.same _ (.il' (encS_nn _))) (.cons (.same _ (.il' (encVs_nn _))) (.cons (.nil 1) (.cons (.same _ nn) (.cons (.same _ nn) (.cons (.same _ nn) (.cons (.same _ (.il' (encVs_nn _))) .nil))))))))))))
theorem rChanged {A B : List Nd} (hA : TreeIn A) (hB : TreeIn B) (hlab : ∀ x ∈ A, ∀ s ∈ x.labels, s ∈ LB) : PureC Tryz.prog [] 14 [.agg [.il 12 (encNs A)], .agg [.il 12 (encNs B)]] (.int .i64 (changedM A B)) := by
 have hD := rDiff hA hB hlab
 have hr := diff_rng hA hB
 have hl := diff_len hA hB
 have hd : changedM A B = if usableT A = true ∧ usableT B = true then badM A B (diffM A B) else if A.length = 0 ∧ B.length = 0 then 0 else 1 := rfl
 have hu0 : A.length = 0 ∧ B.length = 0 → ¬ (usableT A = true ∧ usableT B = true) := fun h h2 => by have := (usable_parts h2.1).1; omega
 have hdn : ¬ (usableT A = true ∧ usableT B = true) → diffM A B = [] := fun h => by unfold diffM; rw [if_neg h]
 have hdp := @diff_pos A B
 generalize changedM A B = res at hd ⊢
 generalize diffM A B = L at hD hr hl hd hdn hdp
 generalize usableT A = ua at hd hu0 hdn hdp
 generalize usableT B = ub at hd hu0 hdn hdp
 have z1 : (((encNs A).length : Int) == 0) = decide (A.length = 0) := by rw [encNs_length, Bool.eq_iff_iff]; simp
 have z2 : (((encNs B).length : Int) == 0) = decide (B.length = 0) := by rw [encNs_length, Bool.eq_iff_iff]; simp
 have rest : ¬ (A.length = 0 ∧ B.length = 0) → (L.length = 0 → res = 1) ∧ (0 < L.length → res = badM A B L) := fun h => by
  refine ⟨fun h0 => ?_, fun h0 => ?_⟩
  ·have : ¬ (ua = true ∧ ub = true) := fun e => by have := hdp e.1 e.2; omega
   rw [hd, if_neg this, if_neg h]
  ·have : ua = true ∧ ub = true := Decidable.byContradiction fun e => by have := hdn e; rw [this] at h0; simp at h0
   rw [hd, if_pos this]
 refine acalls_go nnΓ Tryz.func14 rfl ?_
 ((conv=>whnf);repeat(refine Xg ?_;conv=>whnf))
 rw [z1]
 have hboth : A.length = 0 ∧ B.length = 0 ∨ ¬ (A.length = 0 ∧ B.length = 0) := Decidable.em _
 rcases hboth with hb0 | hb0
 ·rw [decide_eq_true hb0.1]
  ((conv=>whnf);repeat(refine Xg ?_;conv=>whnf))
  rw [z2, decide_eq_true hb0.2]
  rw [if_neg (hu0 hb0), if_pos hb0] at hd
  rw [hd]
  ((conv=>whnf);repeat(refine Xg ?_;conv=>whnf))
  exact fin_pure nn ⟨rfl, rfl, rfl⟩
 ·obtain ⟨r1, r2⟩ := rest hb0
  clear hd hu0 hdn hdp rest
  have zb : (decide (A.length = 0) = true ∧ decide (B.length = 0) = false) ∨ decide (A.length = 0) = false := by
   simp only [decide_eq_true_eq, decide_eq_false_iff_not]
   omega
  rcases zb with ⟨q1, q2⟩ | q1
  ·rw [q1]
   ((conv=>whnf);repeat(refine Xg ?_;conv=>whnf))
   rw [z2, q2]
   ((conv=>whnf);repeat(refine Xg ?_;conv=>whnf))
   refine hD.go ?_ (.cons (tree_nn A) (.cons (tree_nn B) .nil)) (.il' (encMs_nn _))
   ((conv=>whnf);repeat(refine Xg ?_;conv=>whnf))
   by_cases l0 : L.length = 0
   ·rw [show (((encMs L).length : Int) == 0) = true by rw [encMs_length]; simp; exact List.length_eq_zero_iff.1 l0, r1 l0]
    ((conv=>whnf);repeat(refine Xg ?_;conv=>whnf))
    exact fin_pure nn ⟨rfl, rfl, rfl⟩
   ·rw [show (((encMs L).length : Int) == 0) = false by rw [encMs_length]; simp; intro h; exact l0 (by rw [h]; rfl)]
    have hrb := r2 (by omega)
    ((conv=>whnf);repeat(refine Xg ?_;conv=>whnf))
    refine ALoop.at nnΓ (fun k : Nat => k ≤ L.length)
     (fun k => ⟨[(2, .ptr 0 0 0), (3, .ptr 1 0 0), (5, .il 4 (encMs L)), (6, .int .i64 (badM A B (L.take k) : Nat)), (7, .int .i64 k)],
      [(0, .row 25 1 [.agg [.il 12 (encNs A)]]), (1, .row 25 1 [.agg [.il 12 (encNs B)]])], 2, 73⟩) (fun k => L.length - k) 0 [(0, 0), (1, 1)] (by simp)
     (conv_mk _ rfl ⟨⟨0, _, rfl, rfl, tree_cv A⟩, ⟨1, _, rfl, rfl, tree_cv B⟩, trivial⟩ ⟨⟨_, rfl, .ptr 0 0 0 0 rfl⟩, ⟨_, rfl, .ptr 1 1 0 0 rfl⟩, ⟨_, rfl, .same _ (.il' (encMs_nn _))⟩, ⟨_, rfl, .int (by simp [badM])⟩, ⟨_, rfl, .same _ nn⟩, trivial⟩) ?_
    intro k hk
    ((conv=>whnf);repeat(refine Xg ?_;conv=>whnf))
    refine bcs_mk (fun hb => ?_) (fun hb => ?_)
    ·have hlt : k < L.length := by rw [encMs_length] at hb; simpa using hb
     have hg : L[k]? = some L[k] := List.getElem?_eq_getElem hlt
     have em : (encMs L)[((k : Nat) : Int).toNat]? = some (encM L[k]) := by simp [encMs_get, hg]
     have hm := hr _ (List.getElem_mem hlt)
     have hbs := badM_snoc A B (L.take k) L[k]
     rw [← List.take_succ_eq_append_getElem hlt] at hbs
     have hble := badM_le A B (L.take k)
     have htl : (L.take k).length ≤ 1000000 := by simp; omega
     generalize L[k] = m at em hm hbs
     obtain ⟨mo, mn, mp, ms⟩ := m
     simp only at hm hbs
     have hx := nodeAt_get hm.1
     have hy := nodeAt_get hm.2
     have ex : (encNs A)[((mo : Nat) : Int).toNat]? = some (encN (nodeAt A mo)) := by simp [encNs_get, hx]
     have ey : (encNs B)[((mn : Nat) : Int).toNat]? = some (encN (nodeAt B mn)) := by simp [encNs_get, hy]
     have hE := rSameNode { nodeAt A mo with kids := [] } { nodeAt B mn with kids := [] } (okN_nokids (hA.ok _ (List.mem_of_getElem? hx))) (okN_nokids (hB.ok _ (List.mem_of_getElem? hy))) rfl rfl
     generalize badM A B (L.take k) = b0 at hbs hble ⊢
     rw [exact_kids] at hbs
     generalize nodeAt A mo = x at ex hE hbs
     generalize nodeAt B mn = y at ey hE hbs
     obtain ⟨kind, name, lo, hi', ws, lbs, vals, kids, ⟨vk, vn, vs, vks⟩⟩ := x
     obtain ⟨kind2, name2, lo2, hi2, ws2, lbs2, vals2, kids2, ⟨vk2, vn2, vs2, vks2⟩⟩ := y
     simp only at hE hbs
     generalize exactN ⟨kind, name, lo, hi', ws, lbs, vals, [], .mk vk vn vs vks⟩ ⟨kind2, name2, lo2, hi2, ws2, lbs2, vals2, [], .mk vk2 vn2 vs2 vks2⟩ = ee at hE hbs
     have zk : (((encI kids).length : Int) == ((encI kids2).length : Int)) = decide (kids.length = kids2.length) := by rw [encI_length, encI_length, Bool.eq_iff_iff]; simp; omega
     ((conv=>whnf);repeat(refine Xg ?_;conv=>whnf))
     repeat ((first | refine opt_mk em ?_ | refine opt_mk ex ?_ | refine opt_mk ey ?_ | refine ⟨rfl, ?_⟩); ((conv=>whnf);repeat(refine Xg ?_;conv=>whnf)))
     rw [zk]
     refine hE.useC nnΓ (.cons (cvNoKids _ _ _ _ _ _ _ _ _ _ _) (.cons (cvNoKids _ _ _ _ _ _ _ _ _ _ _) .nil)) nn ?_
     generalize decide (kids.length = kids2.length) = kk at hbs ⊢
     cases kk with
     | false =>
      rw [if_neg (by simp)] at hbs
      ((conv=>whnf);repeat(refine Xg ?_;conv=>whnf))
      exact .mk (k + 1) [(0, 0), (1, 1)] (by omega)
       (conv_mk _ rfl ⟨⟨0, _, rfl, rfl, tree_cv A⟩, ⟨1, _, rfl, rfl, tree_cv B⟩, trivial⟩ ⟨⟨_, rfl, .ptr 0 0 0 0 rfl⟩, ⟨_, rfl, .ptr 1 1 0 0 rfl⟩, ⟨_, rfl, .same _ (.il' (encMs_nn _))⟩, ⟨_, rfl, .w64 (by omega) ⟨by omega, by omega⟩⟩, ⟨_, rfl, .w64 (by omega) ⟨by omega, by omega⟩⟩, trivial⟩) (by omega)
     | true =>
     cases ee with
     | false =>
      rw [if_neg (by simp)] at hbs
      ((conv=>whnf);repeat(refine Xg ?_;conv=>whnf))
      exact .mk (k + 1) [(0, 0), (1, 1)] (by omega)
       (conv_mk _ rfl ⟨⟨0, _, rfl, rfl, tree_cv A⟩, ⟨1, _, rfl, rfl, tree_cv B⟩, trivial⟩ ⟨⟨_, rfl, .ptr 0 0 0 0 rfl⟩, ⟨_, rfl, .ptr 1 1 0 0 rfl⟩, ⟨_, rfl, .same _ (.il' (encMs_nn _))⟩, ⟨_, rfl, .w64 (by omega) ⟨by omega, by omega⟩⟩, ⟨_, rfl, .w64 (by omega) ⟨by omega, by omega⟩⟩, trivial⟩) (by omega)
     | true =>
      rw [if_pos (by simp)] at hbs
      ((conv=>whnf);repeat(refine Xg ?_;conv=>whnf))
      exact .mk (k + 1) [(0, 0), (1, 1)] (by omega)
       (conv_mk _ rfl ⟨⟨0, _, rfl, rfl, tree_cv A⟩, ⟨1, _, rfl, rfl, tree_cv B⟩, trivial⟩ ⟨⟨_, rfl, .ptr 0 0 0 0 rfl⟩, ⟨_, rfl, .ptr 1 1 0 0 rfl⟩, ⟨_, rfl, .same _ (.il' (encMs_nn _))⟩, ⟨_, rfl, .int (by omega)⟩, ⟨_, rfl, .w64 (by omega) ⟨by omega, by omega⟩⟩, trivial⟩) (by omega)
    ·have hlt : k = L.length := by rw [encMs_length] at hb; simp at hb; omega
     rw [hlt, List.take_length, ← hrb]
     ((conv=>whnf);repeat(refine Xg ?_;conv=>whnf))
     exact fin_pure nn ⟨rfl, rfl, rfl⟩
  ·rw [q1]
   ((conv=>whnf);repeat(refine Xg ?_;conv=>whnf))
   refine hD.go ?_ (.cons (tree_nn A) (.cons (tree_nn B) .nil)) (.il' (encMs_nn _))
   ((conv=>whnf);repeat(refine Xg ?_;conv=>whnf))
   by_cases l0 : L.length = 0
   ·rw [show (((encMs L).length : Int) == 0) = true by rw [encMs_length]; simp; exact List.length_eq_zero_iff.1 l0, r1 l0]
    ((conv=>whnf);repeat(refine Xg ?_;conv=>whnf))
    exact fin_pure nn ⟨rfl, rfl, rfl⟩
   ·rw [show (((encMs L).length : Int) == 0) = false by rw [encMs_length]; simp; intro h; exact l0 (by rw [h]; rfl)]
    have hrb := r2 (by omega)
    ((conv=>whnf);repeat(refine Xg ?_;conv=>whnf))
    refine ALoop.at nnΓ (fun k : Nat => k ≤ L.length)
     (fun k => ⟨[(2, .ptr 0 0 0), (3, .ptr 1 0 0), (5, .il 4 (encMs L)), (6, .int .i64 (badM A B (L.take k) : Nat)), (7, .int .i64 k)],
      [(0, .row 25 1 [.agg [.il 12 (encNs A)]]), (1, .row 25 1 [.agg [.il 12 (encNs B)]])], 2, 73⟩) (fun k => L.length - k) 0 [(0, 0), (1, 1)] (by simp)
     (conv_mk _ rfl ⟨⟨0, _, rfl, rfl, tree_cv A⟩, ⟨1, _, rfl, rfl, tree_cv B⟩, trivial⟩ ⟨⟨_, rfl, .ptr 0 0 0 0 rfl⟩, ⟨_, rfl, .ptr 1 1 0 0 rfl⟩, ⟨_, rfl, .same _ (.il' (encMs_nn _))⟩, ⟨_, rfl, .int (by simp [badM])⟩, ⟨_, rfl, .same _ nn⟩, trivial⟩) ?_
    intro k hk
    ((conv=>whnf);repeat(refine Xg ?_;conv=>whnf))
    refine bcs_mk (fun hb => ?_) (fun hb => ?_)
    ·have hlt : k < L.length := by rw [encMs_length] at hb; simpa using hb
     have hg : L[k]? = some L[k] := List.getElem?_eq_getElem hlt
     have em : (encMs L)[((k : Nat) : Int).toNat]? = some (encM L[k]) := by simp [encMs_get, hg]
     have hm := hr _ (List.getElem_mem hlt)
     have hbs := badM_snoc A B (L.take k) L[k]
     rw [← List.take_succ_eq_append_getElem hlt] at hbs
     have hble := badM_le A B (L.take k)
     have htl : (L.take k).length ≤ 1000000 := by simp; omega
     generalize L[k] = m at em hm hbs
     obtain ⟨mo, mn, mp, ms⟩ := m
     simp only at hm hbs
     have hx := nodeAt_get hm.1
     have hy := nodeAt_get hm.2
     have ex : (encNs A)[((mo : Nat) : Int).toNat]? = some (encN (nodeAt A mo)) := by simp [encNs_get, hx]
     have ey : (encNs B)[((mn : Nat) : Int).toNat]? = some (encN (nodeAt B mn)) := by simp [encNs_get, hy]
     have hE := rSameNode { nodeAt A mo with kids := [] } { nodeAt B mn with kids := [] } (okN_nokids (hA.ok _ (List.mem_of_getElem? hx))) (okN_nokids (hB.ok _ (List.mem_of_getElem? hy))) rfl rfl
     generalize badM A B (L.take k) = b0 at hbs hble ⊢
     rw [exact_kids] at hbs
     generalize nodeAt A mo = x at ex hE hbs
     generalize nodeAt B mn = y at ey hE hbs
     obtain ⟨kind, name, lo, hi', ws, lbs, vals, kids, ⟨vk, vn, vs, vks⟩⟩ := x
     obtain ⟨kind2, name2, lo2, hi2, ws2, lbs2, vals2, kids2, ⟨vk2, vn2, vs2, vks2⟩⟩ := y
     simp only at hE hbs
     generalize exactN ⟨kind, name, lo, hi', ws, lbs, vals, [], .mk vk vn vs vks⟩ ⟨kind2, name2, lo2, hi2, ws2, lbs2, vals2, [], .mk vk2 vn2 vs2 vks2⟩ = ee at hE hbs
     have zk : (((encI kids).length : Int) == ((encI kids2).length : Int)) = decide (kids.length = kids2.length) := by rw [encI_length, encI_length, Bool.eq_iff_iff]; simp; omega
     ((conv=>whnf);repeat(refine Xg ?_;conv=>whnf))
     repeat ((first | refine opt_mk em ?_ | refine opt_mk ex ?_ | refine opt_mk ey ?_ | refine ⟨rfl, ?_⟩); ((conv=>whnf);repeat(refine Xg ?_;conv=>whnf)))
     rw [zk]
     refine hE.useC nnΓ (.cons (cvNoKids _ _ _ _ _ _ _ _ _ _ _) (.cons (cvNoKids _ _ _ _ _ _ _ _ _ _ _) .nil)) nn ?_
     generalize decide (kids.length = kids2.length) = kk at hbs ⊢
     cases kk with
     | false =>
      rw [if_neg (by simp)] at hbs
      ((conv=>whnf);repeat(refine Xg ?_;conv=>whnf))
      exact .mk (k + 1) [(0, 0), (1, 1)] (by omega)
       (conv_mk _ rfl ⟨⟨0, _, rfl, rfl, tree_cv A⟩, ⟨1, _, rfl, rfl, tree_cv B⟩, trivial⟩ ⟨⟨_, rfl, .ptr 0 0 0 0 rfl⟩, ⟨_, rfl, .ptr 1 1 0 0 rfl⟩, ⟨_, rfl, .same _ (.il' (encMs_nn _))⟩, ⟨_, rfl, .w64 (by omega) ⟨by omega, by omega⟩⟩, ⟨_, rfl, .w64 (by omega) ⟨by omega, by omega⟩⟩, trivial⟩) (by omega)
     | true =>
     cases ee with
     | false =>
      rw [if_neg (by simp)] at hbs
      ((conv=>whnf);repeat(refine Xg ?_;conv=>whnf))
      exact .mk (k + 1) [(0, 0), (1, 1)] (by omega)
       (conv_mk _ rfl ⟨⟨0, _, rfl, rfl, tree_cv A⟩, ⟨1, _, rfl, rfl, tree_cv B⟩, trivial⟩ ⟨⟨_, rfl, .ptr 0 0 0 0 rfl⟩, ⟨_, rfl, .ptr 1 1 0 0 rfl⟩, ⟨_, rfl, .same _ (.il' (encMs_nn _))⟩, ⟨_, rfl, .w64 (by omega) ⟨by omega, by omega⟩⟩, ⟨_, rfl, .w64 (by omega) ⟨by omega, by omega⟩⟩, trivial⟩) (by omega)
     | true =>
      rw [if_pos (by simp)] at hbs
      ((conv=>whnf);repeat(refine Xg ?_;conv=>whnf))
      exact .mk (k + 1) [(0, 0), (1, 1)] (by omega)
       (conv_mk _ rfl ⟨⟨0, _, rfl, rfl, tree_cv A⟩, ⟨1, _, rfl, rfl, tree_cv B⟩, trivial⟩ ⟨⟨_, rfl, .ptr 0 0 0 0 rfl⟩, ⟨_, rfl, .ptr 1 1 0 0 rfl⟩, ⟨_, rfl, .same _ (.il' (encMs_nn _))⟩, ⟨_, rfl, .int (by omega)⟩, ⟨_, rfl, .w64 (by omega) ⟨by omega, by omega⟩⟩, trivial⟩) (by omega)
    ·have hlt : k = L.length := by rw [encMs_length] at hb; simp at hb; omega
     rw [hlt, List.take_length, ← hrb]
     ((conv=>whnf);repeat(refine Xg ?_;conv=>whnf))
     exact fin_pure nn ⟨rfl, rfl, rfl⟩
theorem rSame (l : List Mt) (hl : l.length ≤ 1000000) (ho : ∀ m ∈ l, m.opts.length ≤ 1000000 ∧ m.same.length ≤ 1000000) : PureC Tryz.prog [] 15 [.il 4 (encMs l), .il 4 (encMs l)] (.bool true) := by
 have hE := fun (m : Mt) (hm : m ∈ l) => rEqI m.opts m.opts (by have := ho m hm; omega)
 refine acalls_go nnΓ Tryz.func15 rfl ?_
 ((conv=>whnf);repeat(refine Xg ?_;conv=>whnf))
 rw [show (((encMs l).length : Int) != ((encMs l).length : Int)) = false by simp]
 ((conv=>whnf);repeat(refine Xg ?_;conv=>whnf))
 refine ALoop.at nnΓ (fun i : Nat => i ≤ l.length) (fun i => ⟨[(0, .il 4 (encMs l)), (1, .il 4 (encMs l)), (5, .int .i64 i)], [], 0, 100⟩) (fun i => l.length - i) 0 [] (by simp)
  (conv_pure ⟨⟨_, rfl, .same _ (.il' (encMs_nn _))⟩, ⟨_, rfl, .same _ (.il' (encMs_nn _))⟩, ⟨_, rfl, .same _ nn⟩, trivial⟩) ?_
 intro i hi
 ((conv=>whnf);repeat(refine Xg ?_;conv=>whnf))
 refine bcs_mk (fun hb => ?_) (fun hb => ?_)
 ·have hlt : i < l.length := by rw [encMs_length] at hb; simpa using hb
  have em : (encMs l)[((i : Nat) : Int).toNat]? = some (encM l[i]) := by simp [encMs_get, List.getElem?_eq_getElem hlt]
  have hE := hE _ (List.getElem_mem hlt)
  have ho := ho _ (List.getElem_mem hlt)
  generalize l[i] = m at em hE ho
  obtain ⟨mo, mn, mp, ms⟩ := m
  simp only [decide_true] at hE ho
  ((conv=>whnf);repeat(refine Xg ?_;conv=>whnf))
  repeat ((first | refine opt_mk em ?_ | refine ⟨rfl, ?_⟩); ((conv=>whnf);repeat(refine Xg ?_;conv=>whnf)))
  refine hE.go ?_
  ((conv=>whnf);repeat(refine Xg ?_;conv=>whnf))
  repeat ((first | refine opt_mk em ?_ | refine ⟨rfl, ?_⟩); ((conv=>whnf);repeat(refine Xg ?_;conv=>whnf)))
  rw [show ((mo : Int) != (mo : Int)) = false by simp]
  ((conv=>whnf);repeat(refine Xg ?_;conv=>whnf))
  repeat ((first | refine opt_mk em ?_ | refine ⟨rfl, ?_⟩); ((conv=>whnf);repeat(refine Xg ?_;conv=>whnf)))
  rw [show ((mn : Int) != (mn : Int)) = false by simp]
  ((conv=>whnf);repeat(refine Xg ?_;conv=>whnf))
  repeat ((first | refine opt_mk em ?_ | refine ⟨rfl, ?_⟩); ((conv=>whnf);repeat(refine Xg ?_;conv=>whnf)))
  rw [show (((encBs ms).length : Int) != ((encBs ms).length : Int)) = false by simp]
  ((conv=>whnf);repeat(refine Xg ?_;conv=>whnf))
  refine ALoop.at nnΓ (fun k : Nat => k ≤ ms.length) (fun k => ⟨[(0, .il 4 (encMs l)), (1, .il 4 (encMs l)), (5, .int .i64 i), (7, .int .i64 k)], [], 0, 100⟩) (fun k => ms.length - k) 0 [] (by simp)
   (conv_pure ⟨⟨_, rfl, .same _ (.il' (encMs_nn _))⟩, ⟨_, rfl, .same _ (.il' (encMs_nn _))⟩, ⟨_, rfl, .same _ nn⟩, ⟨_, rfl, .same _ nn⟩, trivial⟩) ?_
  intro k hk
  ((conv=>whnf);repeat(refine Xg ?_;conv=>whnf))
  repeat ((first | refine opt_mk em ?_ | refine ⟨rfl, ?_⟩); ((conv=>whnf);repeat(refine Xg ?_;conv=>whnf)))
  refine bcs_mk (fun hb => ?_) (fun hb => ?_)
  ·have hlk : k < ms.length := by rw [encBs_length] at hb; simpa using hb
   have eb : (encBs ms)[((k : Nat) : Int).toNat]? = some (.bool ms[k]) := by simp [encBs_get, List.getElem?_eq_getElem hlk]
   generalize ms[k] = b at eb
   ((conv=>whnf);repeat(refine Xg ?_;conv=>whnf))
   repeat ((first | refine opt_mk em ?_ | refine opt_mk eb ?_ | refine ⟨rfl, ?_⟩); ((conv=>whnf);repeat(refine Xg ?_;conv=>whnf)))
   rw [show (!(b == b)) = false by simp]
   ((conv=>whnf);repeat(refine Xg ?_;conv=>whnf))
   exact .mk (k + 1) [] (by omega) (conv_pure ⟨⟨_, rfl, .same _ (.il' (encMs_nn _))⟩, ⟨_, rfl, .same _ (.il' (encMs_nn _))⟩, ⟨_, rfl, .same _ nn⟩, ⟨_, rfl, .w64 (by omega) ⟨by omega, by omega⟩⟩, trivial⟩) (by omega)
  ·((conv=>whnf);repeat(refine Xg ?_;conv=>whnf))
   exact .mk (i + 1) [] (by omega) (conv_pure ⟨⟨_, rfl, .same _ (.il' (encMs_nn _))⟩, ⟨_, rfl, .same _ (.il' (encMs_nn _))⟩, ⟨_, rfl, .w64 (by omega) ⟨by omega, by omega⟩⟩, trivial⟩) (by omega)
 ·((conv=>whnf);repeat(refine Xg ?_;conv=>whnf))
  exact fin_pure nn ⟨rfl, rfl, rfl⟩
end Go.Proofs.YtnookkohfkjbcaaGreatDoor
namespace Go.Ax
open Go
structure GenB (x : Nd) : Prop where
 ok : okN x
 val : sizeV x.value ≤ 1024
 vals : ∀ v ∈ x.values, sizeV v ≤ 1024
 vlen : x.values.length ≤ 1024
 klen : x.kids.length ≤ 1025
 llen : x.labels.length ≤ 256
 wlen : x.weights.length ≤ 256
 lab : ∀ s ∈ x.labels, s ∈ abcd
theorem firstE_zero : ∀ {l : List Val}, firstE l = 0 → ∀ v ∈ l, validV v = 0
 | [], _, v, hv => by simp at hv
 | a :: r, h, v, hv => by
  simp only [firstE] at h
  split at h
  ·rename_i h1; exact absurd h h1
  ·rename_i h1
   rcases List.mem_cons.1 hv with rfl | hv
   ·exact Decidable.not_not.1 h1
   ·exact firstE_zero h v hv
theorem validV_size {v : Val} (h : validV v = 0) : sizeV v ≤ 1024 := by
 unfold validV at h
 split at h
 ·omega
 ·split at h
  ·omega
  ·rename_i h1; rw [not_or] at h1; omega
theorem zeroV_size {v : Val} (h : zeroV v = true) : sizeV v ≤ 1024 := by
 obtain ⟨k, n, s, ks⟩ := v
 simp only [zeroV, Bool.and_eq_true, decide_eq_true_eq] at h
 have : ks = [] := List.length_eq_zero_iff.1 h.2
 subst this
 simp [sizeV, sizeL]
theorem genB_tree {ns : List Nd} (h : TreeOK ns) : ∀ x ∈ ns, GenB x := by
 intro x hx
 obtain ⟨j, hj⟩ := List.getElem?_of_mem hx
 have hn := valid_node ns h.valid j x hj
 have hN := node_ok hn
 have hg := h.gen x hx
 have hf := nodeE_formed hn
 have hfe : firstE (ownN x) = 0 := by
  unfold nodeE at hn
  rw [if_neg (by rw [hf]; simp)] at hn
  split at hn
  ·rename_i h1; exact absurd hn h1
  ·rename_i h1; exact Decidable.not_not.1 h1
 have hv := firstE_zero hfe
 unfold formedN at hf
 simp only [Bool.and_eq_true] at hf
 obtain ⟨⟨⟨⟨⟨⟨hu, hkd⟩, hki⟩, h2⟩, h3⟩, h4⟩, h5⟩ := hf
 unfold unusedN at hu
 simp only [Bool.and_eq_true, Bool.or_eq_true, decide_eq_true_eq] at hu h2 h4
 have hul := hu.1.1.2
 have hz := hu.1.1.1.1.1
 have hvl := hg.vals
 refine ⟨hg.ok, ?_, fun v hm => validV_size (hv v (by unfold ownN; exact List.mem_append_right _ hm)), hvl, ?_, ?_, ?_, hg.labels⟩
 ·rcases hz with e | e
  ·exact validV_size (hv x.value (by unfold ownN; rw [if_pos e]; simp))
  ·exact zeroV_size e
 ·by_cases e : x.kind = 4
  ·have := hN.bind e; omega
  ·have := hN.klen e; omega
 ·rcases hul with e | e
  ·rcases h2 with h2 | h2
   ·exact absurd e h2
   ·omega
  ·omega
 ·rcases hul with e | e
  ·rcases h2 with h2 | h2
   ·exact absurd e h2
   ·omega
  ·omega
structure SpN (LB : List (List UInt8)) (x : Nd) : Prop where
 ok : okN x
 val : sizeV x.value ≤ 1048576
 vals : ∀ v ∈ x.values, sizeV v ≤ 1048576
 vlen : x.values.length ≤ 2000
 klen : x.kids.length ≤ 2000
 llen : x.labels.length ≤ 1000
 lab : ∀ s ∈ x.labels, s ∈ LB
variable {LB : List (List UInt8)}
theorem spN_gen (hLB : ∀ s ∈ abcd, s ∈ LB) {x : Nd} (h : GenB x) : SpN LB x :=
 ⟨h.ok, by have := h.val; omega, fun v hv => by have := h.vals v hv; omega, by have := h.vlen; omega, by have := h.klen; omega, by have := h.llen; omega, fun s hs => hLB s (h.lab s hs)⟩
theorem treeIn_of {ns : List Nd} (hLB : ∀ s ∈ LB, s.length ≤ 19) (h : ∀ x ∈ ns, SpN LB x) (hl : ns.length ≤ 1000) : TreeIn ns :=
 ⟨fun x hx => (h x hx).ok, fun x hx => (h x hx).val, fun x hx => (h x hx).vals, fun x hx => (h x hx).vlen, fun x hx => (h x hx).klen, fun x hx => (h x hx).llen, fun x hx s hs => by have := hLB s ((h x hx).lab s hs); omega, hl⟩
theorem i64_mem {l : List Int} {n : Int} (h : ∀ w ∈ l, i64 w) (hn : i64 n) : ∀ w ∈ l ++ [n], i64 w := fun w hw => by
 rcases List.mem_append.1 hw with hw | hw
 ·exact h w hw
 ·simp at hw; rw [hw]; exact hn
theorem sp_kind {x : Nd} {n : Int} (h : SpN LB x) (hn : i64 n) : SpN LB { x with kind := n } := ⟨⟨hn, h.ok.name, h.ok.lo, h.ok.hi, h.ok.weights, h.ok.weightsI, h.ok.labels, h.ok.labelsI, h.ok.values, h.ok.valuesI, h.ok.kids, h.ok.kidsI, h.ok.value, h.ok.valueS⟩, h.val, h.vals, h.vlen, h.klen, h.llen, h.lab⟩
theorem sp_lo {x : Nd} {n : Int} (h : SpN LB x) (hn : i64 n) : SpN LB { x with lo := n } := ⟨⟨h.ok.kind, h.ok.name, hn, h.ok.hi, h.ok.weights, h.ok.weightsI, h.ok.labels, h.ok.labelsI, h.ok.values, h.ok.valuesI, h.ok.kids, h.ok.kidsI, h.ok.value, h.ok.valueS⟩, h.val, h.vals, h.vlen, h.klen, h.llen, h.lab⟩
theorem sp_hi {x : Nd} {n : Int} (h : SpN LB x) (hn : i64 n) : SpN LB { x with hi := n } := ⟨⟨h.ok.kind, h.ok.name, h.ok.lo, hn, h.ok.weights, h.ok.weightsI, h.ok.labels, h.ok.labelsI, h.ok.values, h.ok.valuesI, h.ok.kids, h.ok.kidsI, h.ok.value, h.ok.valueS⟩, h.val, h.vals, h.vlen, h.klen, h.llen, h.lab⟩
theorem sp_weights {x : Nd} {ws : List Int} (h : SpN LB x) (hl : ws.length ≤ 100000) (hi : ∀ w ∈ ws, i64 w) : SpN LB { x with weights := ws } := ⟨⟨h.ok.kind, h.ok.name, h.ok.lo, h.ok.hi, by simp only; omega, hi, h.ok.labels, h.ok.labelsI, h.ok.values, h.ok.valuesI, h.ok.kids, h.ok.kidsI, h.ok.value, h.ok.valueS⟩, h.val, h.vals, h.vlen, h.klen, h.llen, h.lab⟩
theorem sp_kids {x : Nd} {ks : List Int} (h : SpN LB x) (hl : ks.length ≤ 2000) (hi : ∀ w ∈ ks, i64 w) : SpN LB { x with kids := ks } := ⟨⟨h.ok.kind, h.ok.name, h.ok.lo, h.ok.hi, h.ok.weights, h.ok.weightsI, h.ok.labels, h.ok.labelsI, h.ok.values, h.ok.valuesI, by simp only; omega, hi, h.ok.value, h.ok.valueS⟩, h.val, h.vals, h.vlen, hl, h.llen, h.lab⟩
theorem sp_name {x : Nd} {s : List UInt8} (h : SpN LB x) (hs : s.length ≤ 1000) : SpN LB { x with name := s } := ⟨⟨h.ok.kind, by simp only; omega, h.ok.lo, h.ok.hi, h.ok.weights, h.ok.weightsI, h.ok.labels, h.ok.labelsI, h.ok.values, h.ok.valuesI, h.ok.kids, h.ok.kidsI, h.ok.value, h.ok.valueS⟩, h.val, h.vals, h.vlen, h.klen, h.llen, h.lab⟩
theorem sp_labels {x : Nd} {ls : List (List UInt8)} (h : SpN LB x) (hl : ls.length ≤ 1000) (hs : ∀ s ∈ ls, s ∈ LB) (hLB : ∀ s ∈ LB, s.length ≤ 19) : SpN LB { x with labels := ls } := ⟨⟨h.ok.kind, h.ok.name, h.ok.lo, h.ok.hi, h.ok.weights, h.ok.weightsI, by simp only; omega, fun s hm => by have := hLB s (hs s hm); omega, h.ok.values, h.ok.valuesI, h.ok.kids, h.ok.kidsI, h.ok.value, h.ok.valueS⟩, h.val, h.vals, h.vlen, h.klen, hl, hs⟩
theorem sp_values {x : Nd} {vs : List Val} (h : SpN LB x) (hl : vs.length ≤ 2000) (hv : ∀ v ∈ vs, okV v ∧ sizeV v ≤ 1048576) : SpN LB { x with values := vs } := ⟨⟨h.ok.kind, h.ok.name, h.ok.lo, h.ok.hi, h.ok.weights, h.ok.weightsI, h.ok.labels, h.ok.labelsI, by simp only; omega, fun v hm => ⟨(hv v hm).1, by have := (hv v hm).2; omega⟩, h.ok.kids, h.ok.kidsI, h.ok.value, h.ok.valueS⟩, h.val, fun v hm => (hv v hm).2, hl, h.klen, h.llen, h.lab⟩
theorem sp_value {x : Nd} {v : Val} (h : SpN LB x) (hv : okV v) (hs : sizeV v ≤ 1048576) : SpN LB { x with value := v } := ⟨⟨h.ok.kind, h.ok.name, h.ok.lo, h.ok.hi, h.ok.weights, h.ok.weightsI, h.ok.labels, h.ok.labelsI, h.ok.values, h.ok.valuesI, h.ok.kids, h.ok.kidsI, hv, by simp only; omega⟩, hs, h.vals, h.vlen, h.klen, h.llen, h.lab⟩
theorem sp_set {ns : List Nd} {i : Nat} {x : Nd} (h : ∀ y ∈ ns, SpN LB y) (hx : SpN LB x) : ∀ y ∈ ns.set i x, SpN LB y := fun y hy => by
 rcases List.mem_or_eq_of_mem_set hy with hy | rfl
 ·exact h y hy
 ·exact hx
end Go.Ax
