/- A part of the proof. -/
import Derived.Test.YthempfhilcmfnaaGreatAx9
import Derived.Test.YthempfhilcmfnaaGreatProg
import Derived.KernelRfl
import Derived.Shelf.SlGeneric
import Derived.Shelf.SlSortCmp.Whole1
import Derived.Shelf.SlSortCmp.NoneTotal
import Derived.Ground.SlsfProg
import Derived.Shelf.SlSortCmp.InsertionK
import Derived.Shelf.SlSortCmp.Kit1
set_option linter.unusedVariables false
namespace Go.Proofs.YthempfhilcmfnaaGreat
open Go Go.Ax Go.Proofs
set_option maxRecDepth 100000
theorem isNaNI (x : Int) : PureC Tryz.prog [] 36 [.int .i64 x] (.bool false) := by
 refine acalls_run nnΓ Tryz.func36 rfl ?_
 conv => whnf
 refine fin_pure (.bool _) ⟨?_, rfl, rfl⟩
 simp
theorem cmpInt (x y : Int) : PureC Tryz.prog [] 20 [.int .i64 x, .int .i64 y] (.int .i64 (cmpI x y)) := by
 refine acalls_run nnΓ Tryz.func20 rfl ?_
 conv => whnf
 refine (isNaNI x).use nnΓ (.cons (.int _ _) .nil) (.bool _) ?_
 conv => whnf
 refine (isNaNI y).use nnΓ (.cons (.int _ _) .nil) (.bool _) ?_
 conv => whnf
 refine bcs_mk (fun h => ?_) (fun h => ?_)
 ·conv => whnf
  refine fin_pure (.int _ _) ⟨?_, rfl, rfl⟩
  simp at h
  simp [cmpI, h]
 conv => whnf
 refine bcs_mk (fun h' => ?_) (fun h' => ?_)
 ·conv => whnf
  refine fin_pure (.int _ _) ⟨?_, rfl, rfl⟩
  simp at h h'
  simp only [cmpI]
  rw [if_neg (by omega), if_pos (by omega)]
 ·conv => whnf
  refine fin_pure (.int _ _) ⟨?_, rfl, rfl⟩
  simp at h h'
  simp only [cmpI]
  rw [if_neg (by omega), if_neg (by omega)]
set_option maxHeartbeats 16000000
set_option linter.unusedSimpArgs false
def encPs (l : List (List Int)) : List AV := l.map fun p => .il 1 (Go.Ax.encI p)
theorem encPs_length (l : List (List Int)) : (encPs l).length = l.length := by simp [encPs]
theorem encPs_nn (l : List (List Int)) : NNs (encPs l) := fun a h => by
 simp only [encPs, List.mem_map] at h
 obtain ⟨p, _, rfl⟩ := h
 exact .il' (encI_nn p)
theorem encPs_get (l : List (List Int)) (k : Nat) : (encPs l)[k]? = (l[k]?).map fun p => AV.il 1 (Go.Ax.encI p) := by simp [encPs]
theorem encPs_at {l : List (List Int)} {k : Nat} (h : k < l.length) : ∃ p, p ∈ l ∧ l[k]? = some p ∧ (encPs l)[(k : Int).toNat]? = some (.il 1 (Go.Ax.encI p)) :=
 ⟨l[k], List.getElem_mem h, List.getElem?_eq_getElem h, by rw [Int.toNat_natCast, encPs_get, List.getElem?_eq_getElem h]; rfl⟩
theorem encI_at {l : List Int} {k : Nat} (h : k < l.length) : (Go.Ax.encI l)[(k : Int).toNat]? = some (.int .i64 l[k]) := by
 rw [Int.toNat_natCast, encI_get, List.getElem?_eq_getElem h]; rfl
theorem lexP_step {a b : List Int} {k : Nat} (h1 : k < a.length) (h2 : k < b.length) : lexP (a.drop k) (b.drop k) = andThen (cmpI a[k] b[k]) (lexP (a.drop (k + 1)) (b.drop (k + 1))) := by
 rw [List.drop_eq_getElem_cons h1, List.drop_eq_getElem_cons h2, lexP]
theorem sCmp (a b : List Int) (ha : a.length ≤ 4611686018427387904) : PureC Tryz.prog [] 21 [.il 1 (Go.Ax.encI a), .il 1 (Go.Ax.encI b)] (.int .i64 (lexP a b)) := by
 have na : NN (.il 1 (Go.Ax.encI a)) := .il' (encI_nn a)
 have nb : NN (.il 1 (Go.Ax.encI b)) := .il' (encI_nn b)
 have la := encI_length a
 have lb := encI_length b
 refine acalls_go nnΓ Tryz.func21 rfl ?_
 ((conv=>whnf);repeat(refine Xg ?_;conv=>whnf))
 refine ALoop.at nnΓ (fun k : Nat => k ≤ a.length ∧ k ≤ b.length ∧ lexP a b = lexP (a.drop k) (b.drop k))
  (fun k => ⟨[(0, .il 1 (Go.Ax.encI a)), (1, .il 1 (Go.Ax.encI b)), (9, .il 1 (Go.Ax.encI a)), (10, .int .i64 (Go.Ax.encI a).length), (11, .int .i64 k)], [], 0, 36⟩)
  (fun k => a.length - k) 0 [] ⟨by simp, by simp, by simp⟩
  (conv_pure ⟨⟨_, rfl, .same _ na⟩, ⟨_, rfl, .same _ nb⟩, ⟨_, rfl, .same _ na⟩, ⟨_, rfl, .same _ nn⟩, ⟨_, rfl, .same _ nn⟩, trivial⟩) ?_
 rintro k ⟨h1, h2, h3⟩
 have d1 : decide ((k : Int) < ((Go.Ax.encI a).length : Int)) = decide (k < a.length) := by rw [la]; exact decide_eq_decide.2 (by omega)
 have d2 : decide ((k : Int) ≥ ((Go.Ax.encI b).length : Int)) = decide (k ≥ b.length) := by rw [lb]; exact decide_eq_decide.2 (by omega)
 by_cases hk : k < a.length
 ·by_cases hb : k ≥ b.length
  ·((conv=>whnf);repeat(refine Xg ?_;conv=>whnf))
   rw [d1, decide_eq_true hk]
   ((conv=>whnf);repeat(refine Xg ?_;conv=>whnf))
   repeat ((first | refine opt_mk (encI_at hk) ?_ | refine setK_iff.2 ?_ | refine ⟨rfl, ?_⟩); ((conv=>whnf);repeat(refine Xg ?_;conv=>whnf)))
   rw [d2, decide_eq_true hb]
   ((conv=>whnf);repeat(refine Xg ?_;conv=>whnf))
   refine fin_pure nn ⟨?_, rfl, rfl⟩
   rw [h3, List.drop_of_length_le (l := b) (by omega), List.drop_eq_getElem_cons hk, lexP]
  ·have hb : k < b.length := by omega
   have hc := cmpInt a[k] b[k]
   have hs := lexP_step hk hb
   generalize hce : cmpI a[k] b[k] = c at *
   ((conv=>whnf);repeat(refine Xg ?_;conv=>whnf))
   rw [d1, decide_eq_true hk]
   ((conv=>whnf);repeat(refine Xg ?_;conv=>whnf))
   repeat ((first | refine opt_mk (encI_at hk) ?_ | refine setK_iff.2 ?_ | refine ⟨rfl, ?_⟩); ((conv=>whnf);repeat(refine Xg ?_;conv=>whnf)))
   rw [d2, decide_eq_false (by omega)]
   ((conv=>whnf);repeat(refine Xg ?_;conv=>whnf))
   repeat ((first | refine opt_mk (encI_at hb) ?_ | refine setK_iff.2 ?_ | refine ⟨rfl, ?_⟩); ((conv=>whnf);repeat(refine Xg ?_;conv=>whnf)))
   refine hc.go ?_
   ((conv=>whnf);repeat(refine Xg ?_;conv=>whnf))
   refine bcs_mk (fun h => ?_) (fun h => ?_)
   ·have h : c ≠ 0 := by simpa using h
    ((conv=>whnf);repeat(refine Xg ?_;conv=>whnf))
    refine fin_pure nn ⟨?_, rfl, rfl⟩
    rw [h3, hs, andThen, if_neg h]
   ·have h : c = 0 := by simpa using h
    ((conv=>whnf);repeat(refine Xg ?_;conv=>whnf))
    exact .mk (k + 1) [] ⟨by omega, by omega, by rw [h3, hs, andThen, if_pos h]⟩ (conv_pure ⟨⟨_, rfl, .same _ na⟩, ⟨_, rfl, .same _ nb⟩, ⟨_, rfl, .same _ na⟩, ⟨_, rfl, .same _ nn⟩, ⟨_, rfl, .w64 (by omega) ⟨by omega, by omega⟩⟩, trivial⟩) (by omega)
 ·have hd : a.drop k = [] := List.drop_of_length_le (by omega)
  ((conv=>whnf);repeat(refine Xg ?_;conv=>whnf))
  rw [d1, decide_eq_false hk]
  ((conv=>whnf);repeat(refine Xg ?_;conv=>whnf))
  refine bcs_mk (fun h => ?_) (fun h => ?_)
  ·have h : a.length < b.length := by rw [la, lb] at h; simpa using h
   ((conv=>whnf);repeat(refine Xg ?_;conv=>whnf))
   refine fin_pure nn ⟨?_, rfl, rfl⟩
   rw [h3, hd, List.drop_eq_getElem_cons (show k < b.length by omega), lexP]
  ·have h : ¬ a.length < b.length := by rw [la, lb] at h; simpa using h
   ((conv=>whnf);repeat(refine Xg ?_;conv=>whnf))
   refine fin_pure nn ⟨?_, rfl, rfl⟩
   rw [h3, hd, List.drop_of_length_le (by omega), lexP]
theorem cOr (x y : Int) : PureC Tryz.prog [] 19 [.il 1 [.int .i64 x, .int .i64 y]] (.int .i64 (andThen x y)) := by
 have nl : NN (.il 1 [.int .i64 x, .int .i64 y]) := .il' (.cons nn (.cons nn .nil))
 refine acalls_go nnΓ Tryz.func19 rfl ?_
 ((conv=>whnf);repeat(refine Xg ?_;conv=>whnf))
 refine ALoop.at nnΓ (fun k : Nat => k ≤ 2 ∧ (0 < k → x = 0) ∧ (1 < k → y = 0))
  (fun k => ⟨[(3, .int .i64 0), (6, .il 1 [.int .i64 x, .int .i64 y]), (7, .int .i64 2), (8, .int .i64 k)], [], 0, 18⟩)
  (fun k => 2 - k) 0 [] ⟨by omega, by omega, by omega⟩
  (conv_pure ⟨⟨_, rfl, .same _ nn⟩, ⟨_, rfl, .same _ nl⟩, ⟨_, rfl, .same _ nn⟩, ⟨_, rfl, .same _ nn⟩, trivial⟩) ?_
 rintro k ⟨h1, h2, h3⟩
 match k, h1, h2, h3 with
 | 0, h1, h2, h3 =>
  ((conv=>whnf);repeat(refine Xg ?_;conv=>whnf))
  refine bcs_mk (fun h => ?_) (fun h => ?_)
  ·have h : x ≠ 0 := by simpa using h
   ((conv=>whnf);repeat(refine Xg ?_;conv=>whnf))
   refine fin_pure nn ⟨?_, rfl, rfl⟩
   rw [andThen, if_neg h]
  ·have h : x = 0 := by simpa using h
   ((conv=>whnf);repeat(refine Xg ?_;conv=>whnf))
   exact .mk 1 [] ⟨by omega, fun _ => h, by omega⟩ (conv_pure ⟨⟨_, rfl, .same _ nn⟩, ⟨_, rfl, .same _ nl⟩, ⟨_, rfl, .same _ nn⟩, ⟨_, rfl, .w64 rfl ⟨by omega, by omega⟩⟩, trivial⟩) (by omega)
 | 1, h1, h2, h3 =>
  ((conv=>whnf);repeat(refine Xg ?_;conv=>whnf))
  refine bcs_mk (fun h => ?_) (fun h => ?_)
  ·have h : y ≠ 0 := by simpa using h
   ((conv=>whnf);repeat(refine Xg ?_;conv=>whnf))
   refine fin_pure nn ⟨?_, rfl, rfl⟩
   rw [andThen, if_pos (h2 (by omega))]
  ·have h : y = 0 := by simpa using h
   ((conv=>whnf);repeat(refine Xg ?_;conv=>whnf))
   exact .mk 2 [] ⟨by omega, fun _ => h2 (by omega), fun _ => h⟩ (conv_pure ⟨⟨_, rfl, .same _ nn⟩, ⟨_, rfl, .same _ nl⟩, ⟨_, rfl, .same _ nn⟩, ⟨_, rfl, .w64 rfl ⟨by omega, by omega⟩⟩, trivial⟩) (by omega)
 | 2, h1, h2, h3 =>
  ((conv=>whnf);repeat(refine Xg ?_;conv=>whnf))
  refine fin_pure nn ⟨?_, rfl, rfl⟩
  rw [andThen, if_pos (h2 (by omega)), h3 (by omega)]
theorem oCmp (a b : List Int) (ha : a.length ≤ 4611686018427387904) : PureC Tryz.prog [] 11 [.il 1 (Go.Ax.encI a), .il 1 (Go.Ax.encI b)] (.int .i64 (cmpP a b)) := by
 have na : NN (.il 1 (Go.Ax.encI a)) := .il' (encI_nn a)
 have nb : NN (.il 1 (Go.Ax.encI b)) := .il' (encI_nn b)
 have hc := cmpInt ((Go.Ax.encI a).length : Int) ((Go.Ax.encI b).length : Int)
 have hs := sCmp a b ha
 have ho := cOr (cmpI ((Go.Ax.encI a).length : Int) ((Go.Ax.encI b).length : Int)) (lexP a b)
 have he : cmpP a b = andThen (cmpI ((Go.Ax.encI a).length : Int) ((Go.Ax.encI b).length : Int)) (lexP a b) := by rw [encI_length, encI_length]; rfl
 rw [he]
 generalize cmpI ((Go.Ax.encI a).length : Int) ((Go.Ax.encI b).length : Int) = x at *
 generalize lexP a b = y at *
 generalize andThen x y = z at *
 refine acalls_go nnΓ Tryz.func11 rfl ?_
 ((conv=>whnf);repeat(refine Xg ?_;conv=>whnf))
 refine hc.go ?_
 ((conv=>whnf);repeat(refine Xg ?_;conv=>whnf))
 refine hs.go ?_ (.cons na (.cons nb .nil)) nn
 ((conv=>whnf);repeat(refine Xg ?_;conv=>whnf))
 refine ACalls.pre nnΓ [] (mem' := []) rfl trivial (.cons (.fz' (id := 0) (off := 0) (len := 2) (ys := [.int .i64 x, .int .i64 y]) rfl rfl (by simp) rfl (.cons nn (.cons nn .nil))) .nil) ?_
 refine ho.go ?_ (.cons (.il' (.cons nn (.cons nn .nil))) .nil) nn
 ((conv=>whnf);repeat(refine Xg ?_;conv=>whnf))
 exact fin_pure nn ⟨rfl, rfl, rfl⟩
theorem rCmp (a b : List Int) (ha : a.length ≤ 4611686018427387904) : PureC Tryz.prog [] 12 [.il 1 (Go.Ax.encI a), .il 1 (Go.Ax.encI b)] (.int .i64 (cmpP a b)) := by
 have na : NN (.il 1 (Go.Ax.encI a)) := .il' (encI_nn a)
 have nb : NN (.il 1 (Go.Ax.encI b)) := .il' (encI_nn b)
 have la := encI_length a
 have lb := encI_length b
 refine acalls_go nnΓ Tryz.func12 rfl ?_
 ((conv=>whnf);repeat(refine Xg ?_;conv=>whnf))
 refine bcs_mk (fun h => ?_) (fun h => ?_)
 ·have h : a.length < b.length := by rw [la, lb] at h; simpa using h
  ((conv=>whnf);repeat(refine Xg ?_;conv=>whnf))
  refine fin_pure nn ⟨?_, rfl, rfl⟩
  rw [cmpP, cmpI, if_pos (by omega)]; rfl
 have h1 : ¬ a.length < b.length := by rw [la, lb] at h; simpa using h
 ((conv=>whnf);repeat(refine Xg ?_;conv=>whnf))
 refine bcs_mk (fun h => ?_) (fun h => ?_)
 ·have h : b.length < a.length := by rw [la, lb] at h; simpa using h
  ((conv=>whnf);repeat(refine Xg ?_;conv=>whnf))
  refine fin_pure nn ⟨?_, rfl, rfl⟩
  rw [cmpP, cmpI, if_neg (by omega), if_pos (by omega)]; rfl
 have h2 : ¬ b.length < a.length := by rw [la, lb] at h; simpa using h
 have hab : a.length = b.length := by omega
 have he : cmpP a b = lexP a b := by rw [cmpP, cmpI, if_neg (by omega), if_neg (by omega), andThen, if_pos rfl]
 rw [he]
 ((conv=>whnf);repeat(refine Xg ?_;conv=>whnf))
 refine ALoop.at nnΓ (fun k : Nat => k ≤ a.length ∧ lexP a b = lexP (a.drop k) (b.drop k))
  (fun k => ⟨[(0, .il 1 (Go.Ax.encI a)), (1, .il 1 (Go.Ax.encI b)), (5, .int .i64 k)], [], 0, 40⟩)
  (fun k => a.length - k) 0 [] ⟨by simp, by simp⟩
  (conv_pure ⟨⟨_, rfl, .same _ na⟩, ⟨_, rfl, .same _ nb⟩, ⟨_, rfl, .same _ nn⟩, trivial⟩) ?_
 rintro k ⟨k1, k3⟩
 have d1 : decide ((k : Int) < ((Go.Ax.encI a).length : Int)) = decide (k < a.length) := by rw [la]; exact decide_eq_decide.2 (by omega)
 by_cases hk : k < a.length
 ·have hb : k < b.length := by omega
  have hs := lexP_step hk hb
  have ea := encI_at hk
  have eb := encI_at hb
  generalize a[k] = x at *
  generalize b[k] = y at *
  ((conv=>whnf);repeat(refine Xg ?_;conv=>whnf))
  rw [d1, decide_eq_true hk]
  ((conv=>whnf);repeat(refine Xg ?_;conv=>whnf))
  repeat ((first | refine opt_mk ea ?_ | refine opt_mk eb ?_ | refine setK_iff.2 ?_ | refine ⟨rfl, ?_⟩); ((conv=>whnf);repeat(refine Xg ?_;conv=>whnf)))
  refine bcs_mk (fun h => ?_) (fun h => ?_)
  ·have h : x < y := by simpa using h
   ((conv=>whnf);repeat(refine Xg ?_;conv=>whnf))
   refine fin_pure nn ⟨?_, rfl, rfl⟩
   rw [k3, hs, cmpI, if_pos h]; rfl
  have g1 : ¬ x < y := by simpa using h
  ((conv=>whnf);repeat(refine Xg ?_;conv=>whnf))
  repeat ((first | refine opt_mk ea ?_ | refine opt_mk eb ?_ | refine setK_iff.2 ?_ | refine ⟨rfl, ?_⟩); ((conv=>whnf);repeat(refine Xg ?_;conv=>whnf)))
  refine bcs_mk (fun h => ?_) (fun h => ?_)
  ·have h : y < x := by simpa using h
   ((conv=>whnf);repeat(refine Xg ?_;conv=>whnf))
   refine fin_pure nn ⟨?_, rfl, rfl⟩
   rw [k3, hs, cmpI, if_neg g1, if_pos h]; rfl
  have g2 : ¬ y < x := by simpa using h
  ((conv=>whnf);repeat(refine Xg ?_;conv=>whnf))
  exact .mk (k + 1) [] ⟨by omega, by rw [k3, hs, cmpI, if_neg g1, if_neg g2]; rfl⟩ (conv_pure ⟨⟨_, rfl, .same _ na⟩, ⟨_, rfl, .same _ nb⟩, ⟨_, rfl, .w64 (by omega) ⟨by omega, by omega⟩⟩, trivial⟩) (by omega)
 ·((conv=>whnf);repeat(refine Xg ?_;conv=>whnf))
  rw [d1, decide_eq_false hk]
  ((conv=>whnf);repeat(refine Xg ?_;conv=>whnf))
  refine fin_pure nn ⟨?_, rfl, rfl⟩
  rw [k3, List.drop_of_length_le (l := a) (by omega), List.drop_of_length_le (l := b) (by omega), lexP]
set_option maxHeartbeats 16000000
set_option linter.unusedSimpArgs false
theorem fz_row {mem : Mem} {id len : Nat} {t : TypeId} {sz : Nat} {xs ys : List AV} (h1 : lk mem id = some (.row t sz xs)) (e : len = xs.length) (h : xs = ys) (h5 : NNs ys) : Cv mem [] (.sl id 0 len) (.il sz ys) := by
 subst h e
 exact .fz' (id := id) h1 rfl (by omega) (by rw [List.drop_zero]; exact List.take_of_length_le (by omega)) h5
def shortP (l : List (List Int)) : Prop := ∀ p ∈ l, p.length ≤ 17592186043904
theorem rPut (l : List (List Int)) (x : List Int) (hl : l.length ≤ 4294967296) (hs : shortP l) : PureC Tryz.prog [] 26 [.il 1 (encPs l), .il 1 (Go.Ax.encI x)] (.il 1 (encPs (putP l x))) := by
 have nl : NN (.il 1 (encPs l)) := .il' (encPs_nn l)
 have nx : NN (.il 1 (Go.Ax.encI x)) := .il' (encI_nn x)
 have ll := encPs_length l
 refine acalls_go nnΓ Tryz.func26 rfl ?_
 ((conv=>whnf);repeat(refine Xg ?_;conv=>whnf))
 refine ALoop.at nnΓ (fun k : Nat => k ≤ l.length ∧ ∀ p a, p < k → l[p]? = some a → cmpP a x < 0)
  (fun k => ⟨[(0, .il 1 (encPs l)), (1, .il 1 (Go.Ax.encI x)), (5, .int .i64 k)], [], 0, 50⟩)
  (fun k => l.length - k) 0 [] ⟨by omega, by omega⟩
  (conv_pure ⟨⟨_, rfl, .same _ nl⟩, ⟨_, rfl, .same _ nx⟩, ⟨_, rfl, .same _ nn⟩, trivial⟩) ?_
 rintro k ⟨k1, k2⟩
 have d1 : decide ((k : Int) < ((encPs l).length : Int)) = decide (k < l.length) := by rw [ll]; exact decide_eq_decide.2 (by omega)
 by_cases hk : k < l.length
 ·obtain ⟨p, pm, pg, pe⟩ := encPs_at hk
  have hc := rCmp p x (by have := hs p pm; omega)
  have hf0 : ∀ (h : 0 ≤ cmpP p x), findP l x = (k, isAtP l k x) := fun h => findP_at (by omega) k2 (fun a ha => by rw [pg] at ha; cases ha; exact h)
  have hat : isAtP l k x = (cmpP p x == 0) := by unfold isAtP; rw [pg]
  have hk2 : cmpP p x < 0 → ∀ q a, q < k + 1 → l[q]? = some a → cmpP a x < 0 := fun h q a hq ha => by
   rcases Nat.lt_or_ge q k with e | e
   ·exact k2 q a e ha
   ·have : q = k := by omega
    subst this; rw [pg] at ha; cases ha; exact h
  rw [hat] at hf0
  clear hat
  generalize cmpP p x = c at *
  ((conv=>whnf);repeat(refine Xg ?_;conv=>whnf))
  rw [d1, decide_eq_true hk]
  ((conv=>whnf);repeat(refine Xg ?_;conv=>whnf))
  repeat ((first | refine opt_mk pe ?_ | refine setK_iff.2 ?_ | refine ⟨rfl, ?_⟩); ((conv=>whnf);repeat(refine Xg ?_;conv=>whnf)))
  refine hc.go ?_ (.cons (.il' (encI_nn p)) (.cons nx .nil)) nn
  ((conv=>whnf);repeat(refine Xg ?_;conv=>whnf))
  refine bcs_mk (fun h => ?_) (fun h => ?_)
  ·have h : c < 0 := by simpa using h
   ((conv=>whnf);repeat(refine Xg ?_;conv=>whnf))
   exact .mk (k + 1) [] ⟨by omega, hk2 h⟩ (conv_pure ⟨⟨_, rfl, .same _ nl⟩, ⟨_, rfl, .same _ nx⟩, ⟨_, rfl, .w64 (by omega) ⟨by omega, by omega⟩⟩, trivial⟩) (by omega)
  have h : 0 ≤ c := by simpa using h
  have hf := hf0 h
  ((conv=>whnf);repeat(refine Xg ?_;conv=>whnf))
  rw [d1, decide_eq_true hk]
  ((conv=>whnf);repeat(refine Xg ?_;conv=>whnf))
  repeat ((first | refine opt_mk pe ?_ | refine setK_iff.2 ?_ | refine ⟨rfl, ?_⟩); ((conv=>whnf);repeat(refine Xg ?_;conv=>whnf)))
  refine hc.go ?_ (.cons (.il' (encI_nn p)) (.cons nx .nil)) nn
  ((conv=>whnf);repeat(refine Xg ?_;conv=>whnf))
  refine bcs_mk (fun h' => ?_) (fun h' => ?_)
  ·have h' : c = 0 := by simpa using h'
   have he : putP l x = l := by unfold putP; rw [hf, h']; rfl
   rw [he]
   ((conv=>whnf);repeat(refine Xg ?_;conv=>whnf))
   exact fin_pure nl ⟨rfl, rfl, rfl⟩
  have h' : c ≠ 0 := by simpa using h'
  have hb : (c == 0) = false := by simpa using h'
  have he : putP l x = l.take k ++ x :: l.drop k := by unfold putP; rw [hf, hb]; rfl
  rw [he]
  ((conv=>whnf);repeat(refine Xg ?_;conv=>whnf))
  repeat (first
   | (refine ⟨rfl, ?_⟩; ((conv=>whnf);repeat(refine Xg ?_;conv=>whnf)))
   | (refine grd_mk (sl_ok (by simp; try omega) (by simp; try omega) (by simp; try omega)) ?_; ((conv=>whnf);repeat(refine Xg ?_;conv=>whnf)))
   | (refine grd_mk (src_ok (by simp; try omega)) ?_; ((conv=>whnf);repeat(refine Xg ?_;conv=>whnf)))
   | (refine grd_mk (app_nil rfl (by simp; try omega)) ?_; ((conv=>whnf);repeat(refine Xg ?_;conv=>whnf)))
   | (refine grd_mk (app_ok rfl rfl (by simp; try omega) (by simp; try omega)) ?_; ((conv=>whnf);repeat(refine Xg ?_;conv=>whnf))))
  have hrow : List.take ((k : Int).toNat - 0) (List.drop 0 (encPs l)) ++ List.take 1 (List.drop 0 [AV.il 1 (Go.Ax.encI x)]) ++ List.take ((encPs l).length - (k : Int).toNat) (List.drop (k : Int).toNat (encPs l)) = encPs (l.take k ++ x :: l.drop k) := by
   simp only [Int.toNat_natCast, List.drop_zero, Nat.sub_zero, encPs, List.map_append, List.map_cons, List.map_take, List.map_drop]
   rw [List.take_of_length_le (i := (List.map (fun p => AV.il 1 (Go.Ax.encI p)) l).length - k) (by simp)]
   simp
  exact fin_cv (fz_row (id := 3) rfl (by simp only [List.length_append]) hrow (encPs_nn _)) ⟨rfl, rfl, rfl⟩
 ·((conv=>whnf);repeat(refine Xg ?_;conv=>whnf))
  rw [d1, decide_eq_false hk]
  ((conv=>whnf);repeat(refine Xg ?_;conv=>whnf))
  rw [d1, decide_eq_false hk]
  have hk0 : k = l.length := by omega
  have hf : findP l x = (k, isAtP l k x) := findP_at (by omega) k2 (fun a ha => by rw [List.getElem?_eq_none (by omega)] at ha; cases ha)
  have hat : isAtP l k x = false := by unfold isAtP; rw [List.getElem?_eq_none (by omega)]
  have he : putP l x = l.take k ++ x :: l.drop k := by unfold putP; rw [hf, hat]; rfl
  rw [he]
  ((conv=>whnf);repeat(refine Xg ?_;conv=>whnf))
  repeat (first
   | (refine ⟨rfl, ?_⟩; ((conv=>whnf);repeat(refine Xg ?_;conv=>whnf)))
   | (refine grd_mk (sl_ok (by simp; try omega) (by simp; try omega) (by simp; try omega)) ?_; ((conv=>whnf);repeat(refine Xg ?_;conv=>whnf)))
   | (refine grd_mk (src_ok (by simp; try omega)) ?_; ((conv=>whnf);repeat(refine Xg ?_;conv=>whnf)))
   | (refine grd_mk (app_nil rfl (by simp; try omega)) ?_; ((conv=>whnf);repeat(refine Xg ?_;conv=>whnf)))
   | (refine grd_mk (app_ok rfl rfl (by simp; try omega) (by simp; try omega)) ?_; ((conv=>whnf);repeat(refine Xg ?_;conv=>whnf))))
  have hrow : List.take ((k : Int).toNat - 0) (List.drop 0 (encPs l)) ++ List.take 1 (List.drop 0 [AV.il 1 (Go.Ax.encI x)]) ++ List.take ((encPs l).length - (k : Int).toNat) (List.drop (k : Int).toNat (encPs l)) = encPs (l.take k ++ x :: l.drop k) := by
   simp only [Int.toNat_natCast, List.drop_zero, Nat.sub_zero, encPs, List.map_append, List.map_cons, List.map_take, List.map_drop]
   rw [List.take_of_length_le (i := (List.map (fun p => AV.il 1 (Go.Ax.encI p)) l).length - k) (by simp)]
   simp
  exact fin_cv (fz_row (id := 3) rfl (by simp only [List.length_append]) hrow (encPs_nn _)) ⟨rfl, rfl, rfl⟩
theorem rSort (l : List (List Int)) (hl : l.length ≤ 4294967296) (hs : shortP l) : PureC Tryz.prog [] 15 [.il 1 (encPs l)] (.il 1 (encPs (sortP l))) := by
 have nl : NN (.il 1 (encPs l)) := .il' (encPs_nn l)
 have ll := encPs_length l
 refine acalls_go nnΓ Tryz.func15 rfl ?_
 ((conv=>whnf);repeat(refine Xg ?_;conv=>whnf))
 refine ALoop.at nnΓ (fun k : Nat => k ≤ l.length)
  (fun k => ⟨[(0, .il 1 (encPs l)), (3, .il 1 (encPs (sortP (l.take k)))), (4, .int .i64 k)], [], 0, 18⟩)
  (fun k => l.length - k) 0 [] (by omega)
  (conv_pure ⟨⟨_, rfl, .same _ nl⟩, ⟨_, rfl, .nil 1⟩, ⟨_, rfl, .same _ nn⟩, trivial⟩) ?_
 intro k k1
 have d1 : decide ((k : Int) < ((encPs l).length : Int)) = decide (k < l.length) := by rw [ll]; exact decide_eq_decide.2 (by omega)
 have no : NN (.il 1 (encPs (sortP (l.take k)))) := .il' (encPs_nn _)
 by_cases hk : k < l.length
 ·obtain ⟨p, pm, pg, pe⟩ := encPs_at hk
  have hp := rPut (sortP (l.take k)) p (by have := sortP_length (l.take k); simp only [List.length_take] at this; omega) (fun q hq => hs q (List.mem_of_mem_take (sortP_mem hq)))
  have he : putP (sortP (l.take k)) p = sortP (l.take (k + 1)) := by
   rw [List.take_succ_eq_append_getElem hk, sortP_snoc]
   rw [List.getElem?_eq_getElem hk] at pg
   rw [Option.some.inj pg]
  rw [he] at hp
  ((conv=>whnf);repeat(refine Xg ?_;conv=>whnf))
  rw [d1, decide_eq_true hk]
  ((conv=>whnf);repeat(refine Xg ?_;conv=>whnf))
  repeat ((first | refine opt_mk pe ?_ | refine setK_iff.2 ?_ | refine ⟨rfl, ?_⟩); ((conv=>whnf);repeat(refine Xg ?_;conv=>whnf)))
  refine hp.go ?_ (.cons no (.cons (.il' (encI_nn p)) .nil)) (.il' (encPs_nn _))
  ((conv=>whnf);repeat(refine Xg ?_;conv=>whnf))
  exact .mk (k + 1) [] (by omega) (conv_pure ⟨⟨_, rfl, .same _ nl⟩, ⟨_, rfl, .same _ (.il' (encPs_nn _))⟩, ⟨_, rfl, .w64 (by omega) ⟨by omega, by omega⟩⟩, trivial⟩) (by omega)
 ·((conv=>whnf);repeat(refine Xg ?_;conv=>whnf))
  rw [d1, decide_eq_false hk]
  ((conv=>whnf);repeat(refine Xg ?_;conv=>whnf))
  refine fin_pure no ⟨?_, rfl, rfl⟩
  rw [List.take_of_length_le (by omega)]
theorem rSameI (l : List Int) (hl : l.length ≤ 4611686018427387904) : PureC Tryz.prog [] 22 [.il 1 (Go.Ax.encI l), .il 1 (Go.Ax.encI l)] (.bool true) := by
 have nl : NN (.il 1 (Go.Ax.encI l)) := .il' (encI_nn l)
 have ll := encI_length l
 refine acalls_go nnΓ Tryz.func22 rfl ?_
 ((conv=>whnf);repeat(refine Xg ?_;conv=>whnf))
 rw [bne_self_eq_false]
 ((conv=>whnf);repeat(refine Xg ?_;conv=>whnf))
 refine ALoop.at nnΓ (fun k : Nat => k ≤ l.length) (fun k => ⟨[(0, .il 1 (Go.Ax.encI l)), (1, .il 1 (Go.Ax.encI l)), (5, .int .i64 k)], [], 0, 26⟩) (fun k => l.length - k) 0 [] (by omega)
  (conv_pure ⟨⟨_, rfl, .same _ nl⟩, ⟨_, rfl, .same _ nl⟩, ⟨_, rfl, .same _ nn⟩, trivial⟩) ?_
 intro k hk
 have d1 : decide ((k : Int) < ((Go.Ax.encI l).length : Int)) = decide (k < l.length) := by rw [ll]; exact decide_eq_decide.2 (by omega)
 by_cases hlt : k < l.length
 ·have ev := encI_at hlt
  generalize l[k] = x at *
  ((conv=>whnf);repeat(refine Xg ?_;conv=>whnf))
  rw [d1, decide_eq_true hlt]
  ((conv=>whnf);repeat(refine Xg ?_;conv=>whnf))
  repeat ((first | refine opt_mk ev ?_ | refine setK_iff.2 ?_ | refine ⟨rfl, ?_⟩); ((conv=>whnf);repeat(refine Xg ?_;conv=>whnf)))
  rw [bne_self_eq_false]
  ((conv=>whnf);repeat(refine Xg ?_;conv=>whnf))
  exact .mk (k + 1) [] (by omega) (conv_pure ⟨⟨_, rfl, .same _ nl⟩, ⟨_, rfl, .same _ nl⟩, ⟨_, rfl, .w64 (by omega) ⟨by omega, by omega⟩⟩, trivial⟩) (by omega)
 ·((conv=>whnf);repeat(refine Xg ?_;conv=>whnf))
  rw [d1, decide_eq_false hlt]
  ((conv=>whnf);repeat(refine Xg ?_;conv=>whnf))
  exact fin_pure nn ⟨rfl, rfl, rfl⟩
theorem rSameP (l : List (List Int)) (hl : l.length ≤ 4294967296) (hs : shortP l) : PureC Tryz.prog [] 13 [.il 1 (encPs l), .il 1 (encPs l)] (.bool true) := by
 have nl : NN (.il 1 (encPs l)) := .il' (encPs_nn l)
 have ll := encPs_length l
 refine acalls_go nnΓ Tryz.func13 rfl ?_
 ((conv=>whnf);repeat(refine Xg ?_;conv=>whnf))
 rw [bne_self_eq_false]
 ((conv=>whnf);repeat(refine Xg ?_;conv=>whnf))
 refine ALoop.at nnΓ (fun k : Nat => k ≤ l.length) (fun k => ⟨[(0, .il 1 (encPs l)), (1, .il 1 (encPs l)), (5, .int .i64 k)], [], 0, 29⟩) (fun k => l.length - k) 0 [] (by omega)
  (conv_pure ⟨⟨_, rfl, .same _ nl⟩, ⟨_, rfl, .same _ nl⟩, ⟨_, rfl, .same _ nn⟩, trivial⟩) ?_
 intro k hk
 have d1 : decide ((k : Int) < ((encPs l).length : Int)) = decide (k < l.length) := by rw [ll]; exact decide_eq_decide.2 (by omega)
 by_cases hlt : k < l.length
 ·obtain ⟨p, pm, pg, pe⟩ := encPs_at hlt
  have hc := rSameI p (by have := hs p pm; omega)
  ((conv=>whnf);repeat(refine Xg ?_;conv=>whnf))
  rw [d1, decide_eq_true hlt]
  ((conv=>whnf);repeat(refine Xg ?_;conv=>whnf))
  repeat ((first | refine opt_mk pe ?_ | refine setK_iff.2 ?_ | refine ⟨rfl, ?_⟩); ((conv=>whnf);repeat(refine Xg ?_;conv=>whnf)))
  refine hc.go ?_ (.cons (.il' (encI_nn p)) (.cons (.il' (encI_nn p)) .nil)) nn
  ((conv=>whnf);repeat(refine Xg ?_;conv=>whnf))
  exact .mk (k + 1) [] (by omega) (conv_pure ⟨⟨_, rfl, .same _ nl⟩, ⟨_, rfl, .same _ nl⟩, ⟨_, rfl, .w64 (by omega) ⟨by omega, by omega⟩⟩, trivial⟩) (by omega)
 ·((conv=>whnf);repeat(refine Xg ?_;conv=>whnf))
  rw [d1, decide_eq_false hlt]
  ((conv=>whnf);repeat(refine Xg ?_;conv=>whnf))
  exact fin_pure nn ⟨rfl, rfl, rfl⟩
set_option maxHeartbeats 16000000
set_option linter.unusedSimpArgs false
theorem eq_cmpP (a b : List Int) : decide (a = b) = (cmpP a b == 0) := by
 by_cases h : a = b
 ·subst h; simp [cmpP_self]
 ·rw [decide_eq_false h]
  have : cmpP a b ≠ 0 := fun e => h (pathEq _ _ e)
  simpa using this
theorem sEqI (l m : List Int) (hl : l.length ≤ 4611686018427387904) : PureC Tryz.prog [] 25 [.il 1 (Go.Ax.encI l), .il 1 (Go.Ax.encI m)] (.bool (cmpP l m == 0)) := by
 rw [← eq_cmpP]
 refine acalls_go nnΓ Tryz.func25 rfl ?_
 ((conv=>whnf);repeat(refine Xg ?_;conv=>whnf))
 refine bcs_mk (fun h => ?_) (fun h => ?_)
 ·have h1 : l.length ≠ m.length := by rw [encI_length, encI_length] at h; simp at h; omega
  rw [decide_eq_false (fun e => h1 (by rw [e]))]
  ((conv=>whnf);repeat(refine Xg ?_;conv=>whnf))
  exact fin_pure nn ⟨rfl, rfl, rfl⟩
 ·have h1 : l.length = m.length := by rw [encI_length, encI_length] at h; simp at h; omega
  ((conv=>whnf);repeat(refine Xg ?_;conv=>whnf))
  refine ALoop.at nnΓ (fun i : Nat => i ≤ l.length ∧ decide (l = m) = decide (l.drop i = m.drop i)) (fun i => ⟨[(0, .il 1 (Go.Ax.encI l)), (1, .il 1 (Go.Ax.encI m)), (12, .int .i64 l.length), (13, .int .i64 i)], [], 0, 26⟩) (fun i => l.length - i) 0 [] ⟨by simp, by simp⟩
   (conv_pure ⟨⟨_, rfl, .same _ (.il' (encI_nn _))⟩, ⟨_, rfl, .same _ (.il' (encI_nn _))⟩, ⟨_, rfl, .int (by rw [encI_length])⟩, ⟨_, rfl, .same _ nn⟩, trivial⟩) ?_
  rintro i ⟨hi, hs⟩
  ((conv=>whnf);repeat(refine Xg ?_;conv=>whnf))
  refine bcs_mk (fun hb => ?_) (fun hb => ?_)
  ·have hil : i < l.length := by simpa using hb
   have ep : (Go.Ax.encI l)[((i : Nat) : Int).toNat]? = some (.int .i64 l[i]) := by simp [encI_get, List.getElem?_eq_getElem hil]
   have eq : (Go.Ax.encI m)[((i : Nat) : Int).toNat]? = some (.int .i64 (m[i])) := by simp [encI_get, List.getElem?_eq_getElem (show i < m.length by omega)]
   rw [List.drop_eq_getElem_cons hil, List.drop_eq_getElem_cons (show i < m.length by omega)] at hs
   generalize l[i] = p at ep hs
   generalize m[i] = q at eq hs
   ((conv=>whnf);repeat(refine Xg ?_;conv=>whnf))
   repeat ((first | refine opt_mk ep ?_ | refine opt_mk eq ?_ | refine ⟨rfl, ?_⟩); ((conv=>whnf);repeat(refine Xg ?_;conv=>whnf)))
   refine bcs_mk (fun h => ?_) (fun h => ?_)
   ·have hne : p ≠ q := by simpa using h
    rw [hs, decide_eq_false (fun e => hne (List.cons.inj e).1)]
    ((conv=>whnf);repeat(refine Xg ?_;conv=>whnf))
    exact fin_pure nn ⟨rfl, rfl, rfl⟩
   ·have hne : p = q := by simpa using h
    subst hne
    ((conv=>whnf);repeat(refine Xg ?_;conv=>whnf))
    exact .mk (i + 1) [] ⟨by omega, by rw [hs]; simp⟩ (conv_pure ⟨⟨_, rfl, .same _ (.il' (encI_nn _))⟩, ⟨_, rfl, .same _ (.il' (encI_nn _))⟩, ⟨_, rfl, .same _ nn⟩, ⟨_, rfl, .w64 (by omega) ⟨by omega, by omega⟩⟩, trivial⟩) (by omega)
  ·have hil : i = l.length := by simp at hb; omega
   rw [hil, List.drop_length, h1, List.drop_length] at hs
   rw [hs]
   ((conv=>whnf);repeat(refine Xg ?_;conv=>whnf))
   exact fin_pure nn ⟨rfl, rfl, rfl⟩
theorem clr_ok {a b c : Bool} {n m k : Nat} (ha : a = true) (hb : b = true) (hc : c = true) (h1 : 0 < n) (h2 : m ≤ k) : (a && (b && (c && (Nat.blt 0 n && Nat.ble m k)))) = true := by
 rw [ha, hb, hc, Nat.ble_eq_true_of_le h2, show Nat.blt 0 n = true from Nat.ble_eq_true_of_le h1]; rfl
theorem encPs_own {l : List (List Int)} {k n : Nat} (h : k < l.length) (hn : n = l.length) : ∃ p, p ∈ l ∧ l[k]? = some p ∧ (encPs l)[0 + (k : Int).toNat]? = some (.il 1 (Go.Ax.encI p)) ∧ Nat.blt (k : Int).toNat n = true :=
 ⟨l[k], List.getElem_mem h, List.getElem?_eq_getElem h, by rw [Nat.zero_add, Int.toNat_natCast, encPs_get, List.getElem?_eq_getElem h]; rfl, Nat.ble_eq_true_of_le (by simp; omega)⟩
theorem encPs_set (l : List (List Int)) (k : Nat) (p : List Int) : encPs (l.set k p) = (encPs l).set k (.il 1 (Go.Ax.encI p)) := by simp [encPs, List.map_set]
theorem sCompact (l : List (List Int)) (h0 : 0 < l.length) (hl : l.length ≤ 4294967296) (hok : shortP l) :
    ACalls Tryz.prog [] 24 [.sl 0 0 l.length, .fn (.func 25) [] []] [(0, .row 22 1 (encPs l))] 1 fun r m n =>
      n = 1 ∧ ∃ ys, r = .sl 0 0 (dedP l l.length).length ∧ m = [(0, .row 22 1 ys)] ∧ NNs ys ∧ ys.take (dedP l l.length).length = encPs (dedP l l.length) ∧ (dedP l l.length).length ≤ ys.length := by
  have nf : NN (.fn (.func 25) [] []) := .fn _ _ _ (by simp) (by simp)
  have hlen := encPs_length l
  have hd1 : decide (((l.length : Nat) : Int) < 2) = decide (l.length < 2) := decide_eq_decide.2 (by omega)
  refine acalls_go nnΓ Tryz.func24 rfl ?_
  have hall : (∀ j, j < l.length → keepP l j = true) → dedP l l.length = l := fun h => by rw [dedP_all _ (Nat.le_refl _) h, List.take_length]
  ((conv=>whnf);repeat(refine Xg ?_;conv=>whnf))
  rw [hd1]
  by_cases h2 : l.length < 2
  · rw [decide_eq_true h2]
    have he := hall fun j hj => by
      have : j = 0 := by omega
      subst this; rfl
    rw [he]
    ((conv=>whnf);repeat(refine Xg ?_;conv=>whnf))
    exact fin_mk (r' := .sl 0 0 l.length) (m' := [(0, .row 22 1 (encPs l))]) (n' := 1) [(0, 0)] rfl ⟨⟨0, _, rfl, rfl, .same (encPs_nn _)⟩, trivial⟩ (.sl 0 0 0 _ rfl) ⟨rfl, encPs l, rfl, rfl, encPs_nn l, by rw [List.take_of_length_le (by omega)], by omega⟩
  · rw [decide_eq_false h2]
    ((conv=>whnf);repeat(refine Xg ?_;conv=>whnf))
    refine ALoop.at nnΓ (fun p : Nat => p + 1 ≤ l.length ∧ ∀ j, j < p + 1 → keepP l j = true)
      (fun p => ⟨[(0, .sl 0 0 l.length), (1, .fn (.func 25) [] []), (5, .int .i64 ((p + 1 : Nat) : Int))], [(0, .row 22 1 (encPs l))], 1, 66⟩)
      (fun p => l.length - p) 0 [(0, 0)] ⟨by omega, fun j hj => by have : j = 0 := by omega
                                                                   subst this; rfl⟩
      (conv_mk _ rfl ⟨⟨0, _, rfl, rfl, .same (encPs_nn _)⟩, trivial⟩ ⟨⟨_, rfl, .slE rfl rfl⟩, ⟨_, rfl, .same _ nf⟩, ⟨_, rfl, .same _ nn⟩, trivial⟩) ?_
    rintro p ⟨p1, p2⟩
    have hdp : decide (((p + 1 : Nat) : Int) < (l.length : Int)) = decide (p + 1 < l.length) := decide_eq_decide.2 (by omega)
    by_cases hp : p + 1 < l.length
    · have hw : IntKind.i64.wrap (((p + 1 : Nat) : Int) - 1) = (p : Int) := by rw [wrap64 ⟨by omega, by omega⟩]; omega
      obtain ⟨a, am, ag, ea, ba⟩ := encPs_own (l := l) (k := p) (n := l.length) (by omega) rfl
      obtain ⟨b, bm, bg, eb, bb⟩ := encPs_own (l := l) (k := p + 1) (n := l.length) (by omega) rfl
      have hc := sEqI b a (by have := hok _ bm; omega)
      have hkeep : keepP l (p + 1) = !(cmpP b a == 0) := by simp only [keepP]; rw [bg, ag]
      generalize (cmpP b a == 0) = c at *
      ((conv=>whnf);repeat(refine Xg ?_;conv=>whnf))
      rw [hdp, decide_eq_true hp]
      ((conv=>whnf);repeat(refine Xg ?_;conv=>whnf))
      repeat ((first | refine grd_mk bb ?_ | refine opt_mk eb ?_); ((conv=>whnf);repeat(refine Xg ?_;conv=>whnf)))
      have hz0 : decide (0 ≤ (p : Int)) = true := decide_eq_true (by omega)
      rw [hw, hz0]
      ((conv=>whnf);repeat(refine Xg ?_;conv=>whnf))
      repeat ((first | refine grd_mk ba ?_ | refine opt_mk ea ?_ | refine setK_iff.2 ?_ | refine ⟨rfl, ?_⟩); ((conv=>whnf);repeat(refine Xg ?_;conv=>whnf)))
      refine hc.go ?_ (.cons (.il' (encI_nn b)) (.cons (.il' (encI_nn a)) .nil)) nn
      ((conv=>whnf);repeat(refine Xg ?_;conv=>whnf))
      repeat ((first | refine setK_iff.2 ?_ | refine ⟨rfl, ?_⟩); ((conv=>whnf);repeat(refine Xg ?_;conv=>whnf)))
      cases c with
      | false =>
        ((conv=>whnf);repeat(refine Xg ?_;conv=>whnf))
        exact .mk (p + 1) [(0, 0)] ⟨by omega, fun j hj => by
            rcases Nat.lt_or_ge j (p + 1) with h | h
            · exact p2 j h
            · have : j = p + 1 := by omega
              rw [this, hkeep]; rfl⟩
          (conv_mk _ rfl ⟨⟨0, _, rfl, rfl, .same (encPs_nn _)⟩, trivial⟩ ⟨⟨_, rfl, .slE rfl rfl⟩, ⟨_, rfl, .same _ nf⟩, ⟨_, rfl, .w64 (by omega) ⟨by omega, by omega⟩⟩, trivial⟩) (by omega)
      | true =>
        ((conv=>whnf);repeat(refine Xg ?_;conv=>whnf))
        refine grd_mk (sl_ok (by simp; omega) (by omega) (by omega)) ?_
        ((conv=>whnf);repeat(refine Xg ?_;conv=>whnf))
        have ho : 0 + ((p + 1 : Nat) : Int).toNat = p + 1 := by omega
        have hn : l.length - ((p + 1 : Nat) : Int).toNat = l.length - (p + 1) := by omega
        rw [ho, hn]
        have hfst : dedP l (p + 1) = l.take (p + 1) := dedP_all _ (by omega) p2
        have hded : dedP l (p + 1 + 1) = l.take (p + 1) := by
          rw [dedP, bg]; simp only; rw [if_neg (by rw [hkeep]; simp), hfst]
        refine ALoop.at nnΓ (fun x : Nat × List (List Int) × Nat => x.1 + 1 ≤ l.length - (p + 1) ∧ x.2.1.length = l.length ∧ x.2.1.take x.2.2 = dedP l (p + 1 + (x.1 + 1)) ∧ x.2.1.drop (p + 1 + x.1) = l.drop (p + 1 + x.1) ∧ x.2.2 ≤ p + 1 + x.1)
          (fun x => ⟨[(0, .sl 0 0 l.length), (1, .fn (.func 25) [] []), (5, .int .i64 x.2.2), (6, .sl 0 (p + 1) (l.length - (p + 1))), (7, .int .i64 ((x.1 + 1 : Nat) : Int))], [(0, .row 22 1 (encPs x.2.1))], 1, 66⟩)
          (fun x => l.length - x.1) (0, l, p + 1) [(0, 0)] ⟨by simp only; omega, rfl, by simp only; exact hded.symm, rfl, by simp only; omega⟩
          (conv_mk _ rfl ⟨⟨0, _, rfl, rfl, .same (encPs_nn _)⟩, trivial⟩ ⟨⟨_, rfl, .slE rfl rfl⟩, ⟨_, rfl, .same _ nf⟩, ⟨_, rfl, .same _ nn⟩, ⟨_, rfl, .slE rfl rfl⟩, ⟨_, rfl, .same _ nn⟩, trivial⟩) ?_
        clear ea ba eb bb hc hkeep ag bg am bm
        rintro ⟨q, z, c⟩ ⟨q1, q2, q3, q4, q5⟩
        simp only at q1 q2 q3 q4 q5 ⊢
        have hzl := encPs_length z
        have hdq : decide (((q + 1 : Nat) : Int) < ((l.length - (p + 1) : Nat) : Int)) = decide (q + 1 < l.length - (p + 1)) := decide_eq_decide.2 (by omega)
        by_cases hq : q + 1 < l.length - (p + 1)
        · have hw1 : IntKind.i64.wrap (((q + 1 : Nat) : Int) - 1) = (q : Int) := by rw [wrap64 ⟨by omega, by omega⟩]; omega
          have hw2 : IntKind.i64.wrap ((c : Int) + 1) = ((c + 1 : Nat) : Int) := by rw [wrap64 ⟨by omega, by omega⟩]; omega
          have zq : decide (0 ≤ (q : Int)) = true := decide_eq_true (by omega)
          have zq1 : decide (0 ≤ ((q + 1 : Nat) : Int)) = true := decide_eq_true (by omega)
          have hat : ∀ k, p + 1 + q ≤ k → z[k]? = l[k]? := fun k hk => by
            have := congrArg (fun y => y[k - (p + 1 + q)]?) q4
            simp only [List.getElem?_drop] at this
            rwa [show p + 1 + q + (k - (p + 1 + q)) = k by omega] at this
          obtain ⟨a, hae⟩ : ∃ a, a = l[p + 1 + q] := ⟨_, rfl⟩
          obtain ⟨b, hbe⟩ : ∃ b, b = l[p + 1 + (q + 1)] := ⟨_, rfl⟩
          have ag : l[p + 1 + q]? = some a := by rw [hae]; exact List.getElem?_eq_getElem (by omega)
          have bg : l[p + 1 + (q + 1)]? = some b := by rw [hbe]; exact List.getElem?_eq_getElem (by omega)
          have bm : b ∈ l := List.mem_of_getElem? bg
          have ea : (encPs z)[p + 1 + (q : Int).toNat]? = some (.il 1 (Go.Ax.encI a)) := by rw [Int.toNat_natCast, encPs_get, hat _ (by omega), ag]; rfl
          have eb : (encPs z)[p + 1 + ((q + 1 : Nat) : Int).toNat]? = some (.il 1 (Go.Ax.encI b)) := by rw [Int.toNat_natCast, encPs_get, hat _ (by omega), bg]; rfl
          have ba : Nat.blt (q : Int).toNat (l.length - (p + 1)) = true := Nat.ble_eq_true_of_le (by simp; omega)
          have bb : Nat.blt ((q + 1 : Nat) : Int).toNat (l.length - (p + 1)) = true := Nat.ble_eq_true_of_le (by simp; omega)
          have hc := sEqI b a (by have := hok _ bm; omega)
          have hkeep : keepP l (p + 1 + (q + 1)) = !(cmpP b a == 0) := by
            rw [show p + 1 + (q + 1) = (p + 1 + q) + 1 by omega] at bg ⊢
            simp only [keepP]; rw [bg, ag]
          have hnext : dedP l (p + 1 + (q + 1 + 1)) = if keepP l (p + 1 + (q + 1)) = true then dedP l (p + 1 + (q + 1)) ++ [b] else dedP l (p + 1 + (q + 1)) := by
            rw [show p + 1 + (q + 1 + 1) = (p + 1 + (q + 1)) + 1 by omega, dedP, bg]
          clear hae hbe
          generalize (cmpP b a == 0) = e at *
          ((conv=>whnf);repeat(refine Xg ?_;conv=>whnf))
          rw [hdq, decide_eq_true hq]
          ((conv=>whnf);repeat(refine Xg ?_;conv=>whnf))
          repeat ((first | refine grd_mk bb ?_ | refine opt_mk eb ?_); ((conv=>whnf);repeat(refine Xg ?_;conv=>whnf)))
          rw [hw1, zq]
          ((conv=>whnf);repeat(refine Xg ?_;conv=>whnf))
          repeat ((first | refine grd_mk ba ?_ | refine opt_mk ea ?_ | refine setK_iff.2 ?_ | refine ⟨rfl, ?_⟩); ((conv=>whnf);repeat(refine Xg ?_;conv=>whnf)))
          refine hc.go ?_ (.cons (.il' (encI_nn b)) (.cons (.il' (encI_nn a)) .nil)) nn
          ((conv=>whnf);repeat(refine Xg ?_;conv=>whnf))
          repeat ((first | refine setK_iff.2 ?_ | refine ⟨rfl, ?_⟩); ((conv=>whnf);repeat(refine Xg ?_;conv=>whnf)))
          cases e with
          | true =>
            rw [hkeep, if_neg (by simp)] at hnext
            ((conv=>whnf);repeat(refine Xg ?_;conv=>whnf))
            exact .mk (q + 1, z, c) [(0, 0)] ⟨by simp only; omega, q2, by simp only; rw [q3, hnext], by
                simp only
                have := congrArg (List.drop 1) q4
                rw [List.drop_drop, List.drop_drop] at this
                exact this, by simp only; omega⟩
              (conv_mk _ rfl ⟨⟨0, _, rfl, rfl, .same (encPs_nn _)⟩, trivial⟩ ⟨⟨_, rfl, .slE rfl rfl⟩, ⟨_, rfl, .same _ nf⟩, ⟨_, rfl, .same _ nn⟩, ⟨_, rfl, .slE rfl rfl⟩, ⟨_, rfl, .w64 (by simp only; omega) ⟨by omega, by omega⟩⟩, trivial⟩) (by simp only; omega)
          | false =>
            rw [hkeep, if_pos (by simp)] at hnext
            have zc : decide (0 ≤ (c : Int)) = true := decide_eq_true (by omega)
            ((conv=>whnf);repeat(refine Xg ?_;conv=>whnf))
            repeat ((first | refine grd_mk bb ?_ | refine opt_mk eb ?_); ((conv=>whnf);repeat(refine Xg ?_;conv=>whnf)))
            have hcl : c < z.length := by omega
            obtain ⟨d, hde⟩ : ∃ d, d = z[c] := ⟨_, rfl⟩
            have dg : z[c]? = some d := by rw [hde]; exact List.getElem?_eq_getElem hcl
            have ed : (encPs z)[0 + (c : Int).toNat]? = some (.il 1 (Go.Ax.encI d)) := by rw [Int.toNat_natCast, Nat.zero_add, encPs_get, dg]; rfl
            have bc : Nat.blt (c : Int).toNat l.length = true := Nat.ble_eq_true_of_le (by simp; omega)
            repeat ((first | refine grd_mk bc ?_ | refine opt_mk ed ?_ | refine setK_iff.2 ?_ | refine ⟨rfl, ?_⟩); ((conv=>whnf);repeat(refine Xg ?_;conv=>whnf)))
            have hset : encPs (z.set c b) = (encPs z).set (0 + (c : Int).toNat) (.il 1 (Go.Ax.encI b)) := by rw [encPs_set, Int.toNat_natCast, Nat.zero_add]
            exact .mk (q + 1, z.set c b, c + 1) [(0, 0)] ⟨by simp only; omega, by simp only; rw [List.length_set]; exact q2, by
                simp only
                rw [List.take_succ_eq_append_getElem (by rw [List.length_set]; exact hcl), List.getElem_set_self, List.take_set_of_le (Nat.le_refl c), q3, hnext], by
                simp only
                have := congrArg (List.drop 1) q4
                rw [List.drop_drop, List.drop_drop] at this
                rw [List.drop_set_of_lt (by omega)]
                exact this, by simp only; omega⟩
              (conv_mk _ rfl ⟨⟨0, _, rfl, rfl, .eq (encPs_nn _) hset.symm⟩, trivial⟩ ⟨⟨_, rfl, .slE rfl rfl⟩, ⟨_, rfl, .same _ nf⟩, ⟨_, rfl, .int hw2⟩, ⟨_, rfl, .slE rfl rfl⟩, ⟨_, rfl, .w64 (by simp only; omega) ⟨by omega, by omega⟩⟩, trivial⟩) (by simp only; omega)
        · have hqe : p + 1 + (q + 1) = l.length := by omega
          rw [hqe] at q3
          have hcz : c ≤ z.length := by omega
          have hcd : (dedP l l.length).length = c := by rw [← q3, List.length_take]; omega
          rw [hcd]
          ((conv=>whnf);repeat(refine Xg ?_;conv=>whnf))
          rw [hdq, decide_eq_false hq]
          ((conv=>whnf);repeat(refine Xg ?_;conv=>whnf))
          refine grd_mk (sl_ok (by simp; omega) (by omega) (by omega)) ?_
          ((conv=>whnf);repeat(refine Xg ?_;conv=>whnf))
          refine grd_mk (clr_ok rfl rfl rfl (by omega) (by omega)) ?_
          ((conv=>whnf);repeat(refine Xg ?_;conv=>whnf))
          refine grd_mk (sl_ok (by omega) (by simp; omega) (by omega)) ?_
          ((conv=>whnf);repeat(refine Xg ?_;conv=>whnf))
          obtain ⟨ys, hye⟩ : ∃ ys, ys = List.take (0 + (c : Int).toNat) (encPs z) ++ (List.replicate (l.length - (c : Int).toNat) AV.nsl ++ List.drop (0 + (c : Int).toNat + (l.length - (c : Int).toNat)) (encPs z)) := ⟨_, rfl⟩
          rw [← hye]
          have hzn := encPs_nn z
          have htl : (List.take (0 + (c : Int).toNat) (encPs z)).length = c := by rw [List.length_take]; omega
          have hys : NNs ys := fun x hx => by
            rw [hye] at hx
            rcases List.mem_append.1 hx with hx | hx
            · exact hzn x (List.mem_of_mem_take hx)
            · rcases List.mem_append.1 hx with hx | hx
              · rw [List.eq_of_mem_replicate hx]; exact .nsl
              · exact hzn x (List.mem_of_mem_drop hx)
          have hyt : ys.take c = encPs (dedP l l.length) := by
            rw [hye, List.take_append_of_le_length (by omega), List.take_take, ← q3]
            simp only [encPs, List.map_take]
            congr 1
            omega
          have hyl : c ≤ ys.length := by rw [hye, List.length_append, htl]; omega
          exact fin_mk (r' := .sl 0 0 c) (m' := [(0, .row 22 1 ys)]) (n' := 1) [(0, 0)] rfl ⟨⟨0, _, rfl, rfl, .same hys⟩, trivial⟩ (.slE rfl (by omega)) ⟨rfl, ys, rfl, rfl, hys, hyt, hyl⟩
    · have hpe : p + 1 = l.length := by omega
      have he := hall fun j hj => p2 j (by omega)
      rw [he]
      ((conv=>whnf);repeat(refine Xg ?_;conv=>whnf))
      rw [hdp, decide_eq_false hp]
      ((conv=>whnf);repeat(refine Xg ?_;conv=>whnf))
      exact fin_mk (r' := .sl 0 0 l.length) (m' := [(0, .row 22 1 (encPs l))]) (n' := 1) [(0, 0)] rfl ⟨⟨0, _, rfl, rfl, .same (encPs_nn _)⟩, trivial⟩ (.sl 0 0 0 _ rfl) ⟨rfl, encPs l, rfl, rfl, encPs_nn l, by rw [List.take_of_length_le (by omega)], by omega⟩
end Go.Proofs.YthempfhilcmfnaaGreat
namespace Go.Proofs
open Go.Shelf
def Tryz.laysSlsf6_f23_ren : Go.Shelf.Ren := ⟨fun | 6 => 23 | 15 => 38 | 14 => 37 | 28 => 55 | 29 => 56 | 20 => 47 | 21 => 48 | 22 => 49 | 23 => 50 | 24 => 51 | 25 => 52 | 26 => 53 | 27 => 54 | 46 => 76 | 47 => 77 | 48 => 78 | 49 => 79 | 50 => 80 | 57 => 103 | n => n, fun | 22 => 23 | 24 => 22 | 25 => 26 | 3 => 3 | 39 => 55 | 0 => 0 | 53 => 80 | 55 => 82 | 4 => 4 | 46 => 73 | 45 => 72 | 50 => 77 | 5 => 5 | 9 => 9 | 66 => 105 | 70 => 109 | 76 => 140 | 77 => 141 | n => n, fun | n => n⟩
theorem Tryz.laysSlsf6_f23 : Go.Proofs.SlLaysF.n6 Tryz.prog Tryz.laysSlsf6_f23_ren := {
 mixed := by kernel_rfl
 f6 := ⟨Tryz.f23.name, by decide, Tryz.func23.trans (congrArg some (by kernel_rfl))⟩
 f14 := ⟨Tryz.f37.name, by decide, Tryz.func37.trans (congrArg some (by kernel_rfl))⟩
 f15 := Tryz.func38.trans (congrArg some (by kernel_rfl))
 f20 := ⟨Tryz.f47.name, by decide, Tryz.func47.trans (congrArg some (by kernel_rfl))⟩
 f21 := ⟨Tryz.f48.name, by decide, Tryz.func48.trans (congrArg some (by kernel_rfl))⟩
 f22 := ⟨Tryz.f49.name, by decide, Tryz.func49.trans (congrArg some (by kernel_rfl))⟩
 f23 := ⟨Tryz.f50.name, by decide, Tryz.func50.trans (congrArg some (by kernel_rfl))⟩
 f24 := ⟨Tryz.f51.name, by decide, Tryz.func51.trans (congrArg some (by kernel_rfl))⟩
 f25 := ⟨Tryz.f52.name, by decide, Tryz.func52.trans (congrArg some (by kernel_rfl))⟩
 f26 := ⟨Tryz.f53.name, by decide, Tryz.func53.trans (congrArg some (by kernel_rfl))⟩
 f27 := ⟨Tryz.f54.name, by decide, Tryz.func54.trans (congrArg some (by kernel_rfl))⟩
 f28 := Tryz.func55.trans (congrArg some (by kernel_rfl))
 f29 := Tryz.func56.trans (congrArg some (by kernel_rfl))
 f46 := ⟨Tryz.f76.name, by decide, Tryz.func76.trans (congrArg some (by kernel_rfl))⟩
 f47 := Tryz.func77.trans (congrArg some (by kernel_rfl))
 f48 := Tryz.func78.trans (congrArg some (by kernel_rfl))
 f49 := ⟨Tryz.f79.name, by decide, Tryz.func79.trans (congrArg some (by kernel_rfl))⟩
 f50 := ⟨Tryz.f80.name, by decide, Tryz.func80.trans (congrArg some (by kernel_rfl))⟩
 f57 := ⟨Tryz.f103.name, by decide, Tryz.func103.trans (congrArg some (by kernel_rfl))⟩
 t0 := Tryz.underlying0
 a0 := Tryz.isAgg0
 z0 := Tryz.sizeOf0
 v0 := Tryz.zeroValue0
 t3 := Tryz.underlying3
 a3 := Tryz.isAgg3
 z3 := Tryz.sizeOf3
 v3 := Tryz.zeroValue3
 t4 := Tryz.underlying4
 a4 := Tryz.isAgg4
 z4 := Tryz.sizeOf4
 v4 := Tryz.zeroValue4
 t5 := Tryz.underlying5
 a5 := Tryz.isAgg5
 z5 := Tryz.sizeOf5
 v5 := Tryz.zeroValue5
 t9 := Tryz.underlying9
 a9 := Tryz.isAgg9
 z9 := Tryz.sizeOf9
 v9 := Tryz.zeroValue9
 t22 := Tryz.underlying23
 a22 := Tryz.isAgg23
 z22 := Tryz.sizeOf23
 v22 := Tryz.zeroValue23
 a24 := Tryz.isAgg22
 z24 := Tryz.sizeOf22
 t25 := Tryz.underlying26
 a25 := Tryz.isAgg26
 z25 := Tryz.sizeOf26
 v25 := Tryz.zeroValue26
 t39 := Tryz.underlying55
 a39 := Tryz.isAgg55
 z39 := Tryz.sizeOf55
 v39 := Tryz.zeroValue55
 t45 := Tryz.underlying72
 a45 := Tryz.isAgg72
 z45 := Tryz.sizeOf72
 v45 := Tryz.zeroValue72
 t46 := Tryz.underlying73
 a46 := Tryz.isAgg73
 z46 := Tryz.sizeOf73
 v46 := Tryz.zeroValue73
 t50 := Tryz.underlying77
 a50 := Tryz.isAgg77
 z50 := Tryz.sizeOf77
 v50 := Tryz.zeroValue77
 t53 := Tryz.underlying80
 a53 := Tryz.isAgg80
 z53 := Tryz.sizeOf80
 v53 := Tryz.zeroValue80
 t55 := Tryz.underlying82
 a55 := Tryz.isAgg82
 z55 := Tryz.sizeOf82
 v55 := Tryz.zeroValue82
 t66 := Tryz.underlying105
 a66 := Tryz.isAgg105
 z66 := Tryz.sizeOf105
 v66 := Tryz.zeroValue105
 t70 := Tryz.underlying109
 a70 := Tryz.isAgg109
 z70 := Tryz.sizeOf109
 v70 := Tryz.zeroValue109
 t76 := Tryz.underlying140
 a76 := Tryz.isAgg140
 z76 := Tryz.sizeOf140
 v76 := Tryz.zeroValue140
 t77 := Tryz.underlying141
 a77 := Tryz.isAgg141
 z77 := Tryz.sizeOf141
 v77 := Tryz.zeroValue141 }
open Go.RowKit Go.Lib Go.Sort in
theorem Tryz.slices_SortFunc {α : Type} [Inhabited α] (enc : α → Value) (h1 : OneCell enc) (cf : α → α → Int) (hO : SWO (ltOf cf)) (g : Nat) (cb : Array Value) (blk off cap : Nat) (d : Array α) (w : World) (eg : ∀ args w, (callFunc g args).run Tryz.prog w = .ok (.enter g args) w) (hcmp : CmpLays1 Tryz.prog g cb enc cf blk off d.size w) (hH : Holds enc w blk off d) (hblk : blk < w.heap.size) (hsz : d.size < 4611686018427387904) :
  Calls Tryz.prog 23 #[.slice (some ⟨blk, off, none⟩) d.size cap, .func (.func g) #[] cb] w fun e w' =>
   e = .returned (.tuple #[]) ∧ ∃ d' n os, PermIn 0 d.size d d' ∧ SortedIn (ltOf cf) 0 d.size d' ∧ w' = sortWorld enc w blk off n d' os := Any.slices_SortFunc Tryz.laysSlsf6_f23 enc h1 cf hO g cb blk off cap d w eg hcmp hH hblk hsz
def Tryz.laysSlsfz6_f23_ren : Go.Shelf.Ren := ⟨fun | 6 => 23 | 15 => 38 | 14 => 37 | 28 => 55 | 29 => 56 | 20 => 47 | 21 => 48 | 22 => 49 | 23 => 50 | 24 => 51 | 25 => 52 | 26 => 53 | 27 => 54 | 46 => 76 | 47 => 77 | 48 => 78 | 49 => 79 | 50 => 80 | 57 => 103 | n => n, fun | 22 => 23 | 24 => 22 | 25 => 26 | 3 => 3 | 39 => 55 | 0 => 0 | 53 => 80 | 55 => 82 | 4 => 4 | 46 => 73 | 45 => 72 | 50 => 77 | 5 => 5 | 9 => 9 | 66 => 105 | 70 => 109 | 76 => 140 | 77 => 141 | n => n, fun | n => n⟩
theorem Tryz.laysSlsfz6_f23 : Go.Proofs.SlLaysF0.n6 Tryz.prog Tryz.laysSlsfz6_f23_ren := {
 mixed := by kernel_rfl
 f6 := ⟨Tryz.f23.name, by decide, Tryz.func23.trans (congrArg some (by kernel_rfl))⟩
 f14 := ⟨Tryz.f37.name, by decide, Tryz.func37.trans (congrArg some (by kernel_rfl))⟩
 f15 := Tryz.func38.trans (congrArg some (by kernel_rfl))
 f20 := ⟨Tryz.f47.name, by decide, Tryz.func47.trans (congrArg some (by kernel_rfl))⟩
 f21 := ⟨Tryz.f48.name, by decide, Tryz.func48.trans (congrArg some (by kernel_rfl))⟩
 f22 := ⟨Tryz.f49.name, by decide, Tryz.func49.trans (congrArg some (by kernel_rfl))⟩
 f23 := ⟨Tryz.f50.name, by decide, Tryz.func50.trans (congrArg some (by kernel_rfl))⟩
 f24 := ⟨Tryz.f51.name, by decide, Tryz.func51.trans (congrArg some (by kernel_rfl))⟩
 f25 := ⟨Tryz.f52.name, by decide, Tryz.func52.trans (congrArg some (by kernel_rfl))⟩
 f26 := ⟨Tryz.f53.name, by decide, Tryz.func53.trans (congrArg some (by kernel_rfl))⟩
 f27 := ⟨Tryz.f54.name, by decide, Tryz.func54.trans (congrArg some (by kernel_rfl))⟩
 f28 := Tryz.func55.trans (congrArg some (by kernel_rfl))
 f29 := Tryz.func56.trans (congrArg some (by kernel_rfl))
 f46 := ⟨Tryz.f76.name, by decide, Tryz.func76.trans (congrArg some (by kernel_rfl))⟩
 f47 := Tryz.func77.trans (congrArg some (by kernel_rfl))
 f48 := Tryz.func78.trans (congrArg some (by kernel_rfl))
 f49 := ⟨Tryz.f79.name, by decide, Tryz.func79.trans (congrArg some (by kernel_rfl))⟩
 f50 := ⟨Tryz.f80.name, by decide, Tryz.func80.trans (congrArg some (by kernel_rfl))⟩
 f57 := ⟨Tryz.f103.name, by decide, Tryz.func103.trans (congrArg some (by kernel_rfl))⟩
 t0 := Tryz.underlying0
 a0 := Tryz.isAgg0
 z0 := Tryz.sizeOf0
 v0 := Tryz.zeroValue0
 t3 := Tryz.underlying3
 a3 := Tryz.isAgg3
 z3 := Tryz.sizeOf3
 v3 := Tryz.zeroValue3
 t4 := Tryz.underlying4
 a4 := Tryz.isAgg4
 z4 := Tryz.sizeOf4
 v4 := Tryz.zeroValue4
 t5 := Tryz.underlying5
 a5 := Tryz.isAgg5
 z5 := Tryz.sizeOf5
 v5 := Tryz.zeroValue5
 t9 := Tryz.underlying9
 a9 := Tryz.isAgg9
 z9 := Tryz.sizeOf9
 v9 := Tryz.zeroValue9
 t22 := Tryz.underlying23
 a22 := Tryz.isAgg23
 z22 := Tryz.sizeOf23
 v22 := Tryz.zeroValue23
 t25 := Tryz.underlying26
 a25 := Tryz.isAgg26
 z25 := Tryz.sizeOf26
 v25 := Tryz.zeroValue26
 t39 := Tryz.underlying55
 a39 := Tryz.isAgg55
 z39 := Tryz.sizeOf55
 v39 := Tryz.zeroValue55
 t45 := Tryz.underlying72
 a45 := Tryz.isAgg72
 z45 := Tryz.sizeOf72
 v45 := Tryz.zeroValue72
 t46 := Tryz.underlying73
 a46 := Tryz.isAgg73
 z46 := Tryz.sizeOf73
 v46 := Tryz.zeroValue73
 t50 := Tryz.underlying77
 a50 := Tryz.isAgg77
 z50 := Tryz.sizeOf77
 v50 := Tryz.zeroValue77
 t53 := Tryz.underlying80
 a53 := Tryz.isAgg80
 z53 := Tryz.sizeOf80
 v53 := Tryz.zeroValue80
 t55 := Tryz.underlying82
 a55 := Tryz.isAgg82
 z55 := Tryz.sizeOf82
 v55 := Tryz.zeroValue82
 t66 := Tryz.underlying105
 a66 := Tryz.isAgg105
 z66 := Tryz.sizeOf105
 v66 := Tryz.zeroValue105
 t70 := Tryz.underlying109
 a70 := Tryz.isAgg109
 z70 := Tryz.sizeOf109
 v70 := Tryz.zeroValue109
 t76 := Tryz.underlying140
 a76 := Tryz.isAgg140
 z76 := Tryz.sizeOf140
 v76 := Tryz.zeroValue140
 t77 := Tryz.underlying141
 a77 := Tryz.isAgg141
 z77 := Tryz.sizeOf141
 v77 := Tryz.zeroValue141 }
open Go.RowKit Go.Lib Go.Sort in
theorem Tryz.slices_SortFunc_none {α : Type} [Inhabited α] (p : Option Addr) (cap : Nat) (fv : Value) (w : World) :
  Calls Tryz.prog 23 #[.slice p 0 cap, fv] w fun e w' => e = .returned (.tuple #[]) ∧ w' = w := AnyF.slices_SortFunc_none Tryz.laysSlsfz6_f23 p cap fv w
end Go.Proofs
namespace Go.Ax
open Go
structure OrdOn {β : Type} (xs : List β) (c : β → β → Int) : Prop where
 irrefl : ∀ x ∈ xs, ¬ c x x < 0
 trans : ∀ x ∈ xs, ∀ y ∈ xs, ∀ z ∈ xs, c x y < 0 → c y z < 0 → c x z < 0
 ntrans : ∀ x ∈ xs, ∀ y ∈ xs, ∀ z ∈ xs, ¬ c x y < 0 → ¬ c y z < 0 → ¬ c x z < 0
def SortedOf {β : Type} (xs ys : List β) (c : β → β → Int) : Prop := ys.Perm xs ∧ ∀ (i j : Nat) (x y : β), i < j → ys[i]? = some x → ys[j]? = some y → ¬ c y x < 0
section
variable {P : Program} {F : FuncId} {t : TypeId} {k : Nat}
open Go.Shelf Go.RowKit Go.Lib Go.Sort Go.Proofs
end
end Go.Ax
namespace Go.Ax
open Go
section
variable {P : Program} {F : FuncId} {t : TypeId}
open Go.Shelf Go.RowKit Go.Lib Go.Sort Go.Proofs
theorem sort_bridge1
  (hF : ∀ (enc : Nat → Value) (_ : OneCell enc) (cf : Nat → Nat → Int) (_ : SWO (ltOf cf)) (g : Nat) (cb : Array Value) (blk off cap : Nat) (d : Array Nat) (w : World)
   (_ : ∀ args w, (callFunc g args).run P w = .ok (.enter g args) w) (_ : CmpLays1 P g cb enc cf blk off d.size w) (_ : Holds enc w blk off d) (_ : blk < w.heap.size) (_ : d.size < 4611686018427387904),
   Calls P F #[.slice (some ⟨blk, off, none⟩) d.size cap, .func (.func g) #[] cb] w fun e w' =>
    e = .returned (.tuple #[]) ∧ ∃ d' n os, PermIn 0 d.size d d' ∧ SortedIn (ltOf cf) 0 d.size d' ∧ w' = sortWorld enc w blk off n d' os)
  {g : FuncId} (eg : ∀ args w, (callFunc g args).run P w = .ok (.enter g args) w) {β : Type} [Inhabited β] (e : β → AV) (L : List β) (h0 : 0 < L.length) (hlen : L.length < 4611686018427387904) (hone : ∀ x ∈ L, (e x).cells = [e x]) (hnn : ∀ x ∈ L, NN (e x))
  (c : β → β → Int) (hO : OrdOn L c) (hc : ∀ x ∈ L, ∀ y ∈ L, PureC P [] g [e x, e y] (.int .i64 (c x y))) (hF0 : Nat.beq F YF = false := by rfl) (hg0 : Nat.beq g YF = false := by rfl) :
  ACalls P [] F [.sl 0 0 L.length, .fn (.func g) [] []] [(0, .row t 1 (L.map e))] 1 fun r m n => r = .tup [] ∧ n = 1 ∧ ∃ ys, SortedOf L ys c ∧ m = [(0, .row t 1 (ys.map e))] := by
 obtain ⟨xs, hxs⟩ : ∃ xs, xs = L.map e := ⟨_, rfl⟩
 have hxl : L.length = xs.length := by rw [hxs]; simp
 rw [← hxs, hxl]
 rw [hxl] at h0 hlen
 refine ⟨fun X D ρ w vs hD hm hv => ?_⟩
 obtain ⟨hl, hv⟩ := hv
 match vs, hl with
 | [s, fv], _ =>
  have v0 := hv 0 _ s rfl rfl
  have v1 := hv 1 _ fv rfl rfl
  have hid : lk [(0, AB.row t 1 xs)] 0 = some (.row t 1 xs) := rfl
  have hsz := row_sz hm hid
  have hn : 0 < (ρ 0).n := by
   rcases Nat.eq_zero_or_pos (ρ 0).n with h | h
   ·obtain ⟨t', sz', e1, _⟩ := hm.emp _ (lk_mem hid) h
    injection e1 with _ _ e2
    rw [e2] at h0
    simp at h0
   ·exact h
  obtain ⟨o, ho, hsz', arr, fr, rfl, hf, hs, hle, hrow⟩ := hm.blk _ (lk_mem hid) hn
  simp only at ho hsz' hs hle hrow
  rw [hsz] at hrow hle
  rw [Nat.mul_one] at hle
  have hlt := own_lt hm (.inr ⟨_, lk_mem hid, hn, rfl⟩)
  simp only at hlt
  obtain ⟨n, hne⟩ : ∃ n, n = xs.length := ⟨_, rfl⟩
  rw [← hne] at v0 h0 hlen hle
  have hso : ∃ cap, s = .slice (some ⟨(ρ 0).b, 0, none⟩) n cap := by
   cases v0 with
   | sl _ _ _ cap _ h1 h2 => exact ⟨cap, by rw [Nat.zero_mul]⟩
   | slz => omega
   | slzn => omega
  obtain ⟨cap, rfl⟩ := hso
  have hfv : fv = .func (.func g) #[] #[] := by
   cases v1 with
   | fn f a b a1 a2 l1 l2 _ _ =>
    have e1 : a1 = #[] := Array.eq_empty_of_size_eq_zero l1.symm
    have e2 : a2 = #[] := Array.eq_empty_of_size_eq_zero l2.symm
    rw [e1, e2]
  subst hfv
  obtain ⟨lv, hlv⟩ : ∃ lv : Nat → β, lv = fun i => L.getD (min i (n - 1)) default := ⟨_, rfl⟩
  have hmin : ∀ i, min i (n - 1) < n := fun i => by omega
  have hlm : ∀ i, lv i ∈ L := fun i => by
   have hi := hmin i
   rw [hlv]; simp only
   rw [List.getD_eq_getElem?_getD, List.getElem?_eq_getElem (by omega)]
   exact List.getElem_mem _
  obtain ⟨el, hel0⟩ : ∃ el : Nat → AV, el = fun i => e (lv i) := ⟨_, rfl⟩
  have hel : ∀ i, xs[min i (n - 1)]? = some (el i) := fun i => by
   have hi := hmin i
   rw [hel0, hlv, hxs]; simp only
   rw [List.getD_eq_getElem?_getD, List.getElem?_map, List.getElem?_eq_getElem (by omega)]; rfl
  have hcl : ∀ i, ∃ v, arr[min i (n - 1)]? = some v ∧ v.oneCell' = true ∧ VR ρ D (OX X ρ [(0, .row t 1 xs)]) w (el i) v := fun i => by
   obtain ⟨h4, h5⟩ := hrow _ _ (hel i)
   have h6 : (el i).cells[0]? = some (el i) := by rw [show (el i).cells = [el i] by rw [hel0]; exact hone _ (hlm i)]; rfl
   obtain ⟨v, hv1, hv2, hv3⟩ := h5 0 _ h6
   rw [Nat.mul_one, Nat.add_zero] at hv1
   exact ⟨v, hv1, hv2, hv3⟩
  obtain ⟨enc, henc⟩ : ∃ enc : Nat → Value, enc = fun i => arr.getD (min i (n - 1)) undef := ⟨_, rfl⟩
  have heg : ∀ x v, arr[min x (n - 1)]? = some v → enc x = v := fun x v h => by rw [henc]; simp only; rw [Array.getD_eq_getD_getElem?, h]; rfl
  have he1 : OneCell enc := fun x => by
   obtain ⟨v, a2, a3, a4⟩ := hcl x
   rw [heg x v a2]; exact a3
  obtain ⟨d, hd⟩ : ∃ d : Array Nat, d = Array.range n := ⟨_, rfl⟩
  have hdn : d.size = n := by rw [hd]; simp
  have hnk : n ≤ arr.size := by rw [hs]; exact hle
  have hH : Holds enc w (ρ 0).b 0 d := by
   intro j hj
   rw [hdn] at hj
   have hdj : d[j]! = j := by rw [hd, getElem!_pos _ _ (by simpa using hj)]; simp
   have hja : j < arr.size := by omega
   have e : enc j = arr[j] := by
    have : min j (n - 1) = j := by omega
    exact heg j _ (by rw [this]; exact Array.getElem?_eq_getElem hja)
   rw [hdj, e]
   constructor
   ·simp only [World.cell?, ho, Nat.zero_add]
    rw [if_neg (by simp), Array.getElem?_eq_getElem hja]
   ·simp only [World.frozen?, ho, Nat.zero_add]
    have := hf j hja
    obtain ⟨a, b⟩ := fr
    simp only at this ⊢
    rw [Bool.and_eq_false_iff]
    simp
    omega
  obtain ⟨cf, hcf⟩ : ∃ cf : Nat → Nat → Int, cf = fun x y => c (lv x) (lv y) := ⟨_, rfl⟩
  have hSW : SWO (ltOf cf) := by
   refine ⟨fun x => ?_, fun x y z h1 h2 => ?_, fun x y z h1 h2 => ?_⟩
   ·simp only [ltOf, hcf]; exact decide_eq_false (hO.irrefl _ (hlm x))
   ·simp only [ltOf, hcf] at h1 h2 ⊢
    exact decide_eq_true (hO.trans _ (hlm x) _ (hlm y) _ (hlm z) (of_decide_eq_true h1) (of_decide_eq_true h2))
   ·simp only [ltOf, hcf] at h1 h2 ⊢
    exact decide_eq_false (hO.ntrans _ (hlm x) _ (hlm y) _ (hlm z) (of_decide_eq_false h1) (of_decide_eq_false h2))
  obtain ⟨O, hOe⟩ : ∃ O, O = OX X ρ [(0, .row t 1 xs)] := ⟨_, rfl⟩
  rw [← hOe] at hcl
  have hOb : O (ρ 0).b := by rw [hOe]; exact .inr ⟨_, lk_mem hid, hn, rfl⟩
  have hev : ∀ x, VR ρ D O w (el x) (enc x) := fun x => by
   obtain ⟨v, a2, a3, a4⟩ := hcl x
   rw [heg x v a2]; exact a4
  have hcmp : CmpLays1 P g #[] enc cf (ρ 0).b 0 d.size w := by
   intro m os dk hdk x y
   have hWh : ∀ b, b < w.heap.size → b ≠ (ρ 0).b → (sortWorld enc w (ρ 0).b 0 m dk os).heap[b]? = w.heap[b]? := fun b hb hne => by
    show ((w.heap.modify (ρ 0).b _) ++ os)[b]? = _
    rw [Array.getElem?_append_left (by simpa using hb), Array.getElem?_modify, if_neg (Ne.symm hne)]
   have hWs : w.heap.size ≤ (sortWorld enc w (ρ 0).b 0 m dk os).heap.size := by
    show _ ≤ ((w.heap.modify (ρ 0).b _) ++ os).size
    simp
   generalize sortWorld enc w (ρ 0).b 0 m dk os = W at hWh hWs ⊢
   have hat : ∀ z, VR ρ (fun _ => False) (OX (fun _ => False) ρ []) W (el z) (enc z) := fun z => by
    have a1 : VR ρ D (fun b => b = (ρ 0).b) w (el z) (enc z) := NN.vr (hev z) (fun b _ hb e => hb (by rw [e]; exact hOb)) (by rw [hel0]; exact hnn _ (hlm z))
    have a2 := a1.mono (w' := W) (ρ' := ρ) (D' := D) (O' := fun b => b = (ρ 0).b) (fun _ _ => rfl) (fun _ h => h) (fun b hb hne => ⟨hne, hWh b hb hne⟩)
    exact NN.vr a2 (fun b _ _ h => by rcases h with h | ⟨p, hp, _⟩; exact h; cases hp) (by rw [hel0]; exact hnn _ (hlm z))
   have hcc := hc _ (hlm x) _ (hlm y)
   rw [show e (lv x) = el x by rw [hel0], show e (lv y) = el y by rw [hel0]] at hcc
   have hcall := hcc.run (fun _ => False) (fun _ => False) ρ W [enc x, enc y] (fun i h => h.elim)
    ⟨fun p hp => (by cases hp), fun p hp => (by cases hp), fun p hp => (by cases hp), fun p hp => (by cases hp), by simp, fun b h => h.elim, fun p hp => (by cases hp)⟩ (.cons (hat x) (.cons (hat y) .nil))
   rw [Array.append_empty]
   refine (hcall.calls hg0).mono ?_
   rintro e w' ⟨r, v, mem', nx', ρ', rfl, ⟨rfl, rfl, rfl⟩, _, _, hr, hext⟩
   cases hr
   refine ⟨by rw [hcf], w'.drawn - W.drawn, w'.heap.extract W.heap.size w'.heap.size, ?_⟩
   have h1 := hext.env
   have h2 : w'.heap = W.heap ++ w'.heap.extract W.heap.size w'.heap.size := by
    apply Array.ext_getElem?
    intro b
    rcases Nat.lt_or_ge b W.heap.size with hb | hb
    ·rw [Array.getElem?_append_left hb, hext.keep b hb (fun ⟨p, hp, _⟩ => by cases hp)]
    ·rw [Array.getElem?_append_right hb, Array.getElem?_extract]
     have := hext.size
     split
     ·congr 1; omega
     ·rw [Array.getElem?_eq_none (by omega)]
   have h3 : W.drawn + (w'.drawn - W.drawn) = w'.drawn := by have := h1.drawn; omega
   cases w'
   unfold grow World.drewN
   simp only at h1 h2 h3 ⊢
   rw [h3, ← h2, ← h1.os, ← h1.output, ← h1.tape]
  have hres := hF enc he1 cf hSW g #[] (ρ 0).b 0 cap d w eg hcmp hH hlt (by omega)
  rw [hdn] at hres
  refine .of hF0 (hres.mono ?_)
  rintro e w' ⟨rfl, d', q, os, ⟨p1, _, p3⟩, hsort, rfl⟩
  rw [hdn] at p1
  have hys : ∀ i, i < n → d'[i]? = some d'[i]! := fun i hi => by rw [getElem!_pos d' i (by omega), Array.getElem?_eq_getElem]
  have hW1 : (putRow enc (Sort.ahead w q) (ρ 0).b 0 d').heap = w.heap.setIfInBounds (ρ 0).b (.cells (putCells enc 0 d' arr) t fr) := by
   apply Array.ext_getElem?
   intro b
   show (w.heap.modify (ρ 0).b (Sort.onCells _))[b]? = _
   rw [Array.getElem?_modify, Array.getElem?_setIfInBounds]
   by_cases hk : (ρ 0).b = b
   ·subst hk
    rw [if_pos rfl, if_pos rfl, if_pos hlt, ho]
    rfl
   ·rw [if_neg hk, if_neg hk]
  obtain ⟨m1, mv, ext⟩ := hm.change (w' := putRow enc (Sort.ahead w q) (ρ 0).b 0 d') (xs' := d'.toList.map el) (arr := putCells enc 0 d' arr) (fr := fr) hid hn hW1 .go
   (fun j hj => hf j (by simpa [putCells] using hj)) (by rw [← hs]; simp [putCells])
   (by
    refine ⟨by simp [putCells, p1]; exact hnk, fun i x hi => ?_⟩
    rw [List.getElem?_map] at hi
    obtain ⟨q0, he, rfl⟩ := Option.map_eq_some_iff.1 hi
    have hin : i < n := by have := (List.getElem?_eq_some_iff.1 he).1; simpa [p1] using this
    have hde : d'[i]! = q0 := by
     have := hys i hin
     rw [← Array.getElem?_toList, he] at this
     exact (Option.some.inj this).symm
    have hce : (el q0).cells = [el q0] := by rw [hel0]; exact hone _ (hlm q0)
    refine ⟨by rw [hce]; rfl, fun j cv hj => ?_⟩
    rw [hce] at hj
    have hj0 : j = 0 := by
     cases j with
     | zero => rfl
     | succ j => simp at hj
    subst hj0
    cases hj
    obtain ⟨v, a2, a3, a4⟩ := hcl q0
    refine ⟨v, ?_, a3, hOe ▸ a4⟩
    have hv : enc q0 = v := heg q0 v a2
    unfold putCells
    rw [Nat.mul_one, Nat.add_zero, Array.getElem?_mapIdx, Array.getElem?_eq_getElem (show i < arr.size by omega), Option.map_some]
    rw [if_pos ⟨Nat.zero_le _, by rw [Nat.zero_add, p1]; exact hin⟩]
    simp only [Nat.sub_zero, hde, hv])
  obtain ⟨m2, ext2⟩ := m1.still (w' := sortWorld enc w (ρ 0).b 0 q d' os) (by unfold sortWorld; rw [size_grow]; omega) (fun b hb => by
   unfold sortWorld grow
   rw [Array.getElem?_append_left hb]) .go
  have hsub : ∀ i, D i → dn D 1 1 i := fun i hi => .inl hi
  refine ⟨.tup [], .tuple #[], _, 1, ρ, rfl, ⟨rfl, rfl, d'.toList.map lv, ⟨?_, fun i j x y hij hi hj => ?_⟩, by simp [up, hel0]⟩, Nat.le_refl _, (m2.widen hsub).1, .tup [] #[] rfl (by simp), ((ext D fun i hi => hi).trans (ext2 D fun i hi => hi)).wide hsub⟩
  ·have hp : d'.toList.Perm (List.range n) := by
    have e1 : (d'.extract 0 n) = d' := by rw [← p1]; simp
    have e2 : (d.extract 0 n) = d := by rw [← hdn]; simp
    rw [e1, e2] at p3
    rw [hd] at p3
    simpa using p3
   have h1 := hp.map lv
   have h2 : (List.range n).map lv = L := by
    apply List.ext_getElem?
    intro i
    rw [List.getElem?_map]
    rcases Nat.lt_or_ge i n with hi | hi
    ·rw [List.getElem?_range hi, Option.map_some, hlv]
     simp only
     rw [show min i (n - 1) = i by omega, List.getD_eq_getElem?_getD, List.getElem?_eq_getElem (by omega)]; rfl
    ·rw [List.getElem?_eq_none (by simpa using hi), List.getElem?_eq_none (by omega)]; rfl
   rw [h2] at h1
   exact h1
  ·rw [List.getElem?_map] at hi hj
   obtain ⟨a, ha, rfl⟩ := Option.map_eq_some_iff.1 hi
   obtain ⟨b, hb, rfl⟩ := Option.map_eq_some_iff.1 hj
   have hjn : j < n := by have := (List.getElem?_eq_some_iff.1 hb).1; simpa [p1] using this
   have hia : d'[i]! = a := by
    have := hys i (by omega)
    rw [← Array.getElem?_toList, ha] at this
    exact (Option.some.inj this).symm
   have hjb : d'[j]! = b := by
    have := hys j hjn
    rw [← Array.getElem?_toList, hb] at this
    exact (Option.some.inj this).symm
   have := hsort i j (Nat.zero_le _) hij hjn
   rw [hia, hjb] at this
   simp only [ltOf, hcf] at this
   exact of_decide_eq_false this
end
end Go.Ax
