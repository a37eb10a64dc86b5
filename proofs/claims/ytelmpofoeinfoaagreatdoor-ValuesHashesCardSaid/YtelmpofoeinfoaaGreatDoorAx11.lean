/- A part of the proof. -/
import Derived.Test.YtelmpofoeinfoaaGreatDoorAx10
import Derived.Test.YtelmpofoeinfoaaGreatDoorProg
import Derived.KernelRfl
import Derived.Shelf.Strings.Builder1
import Derived.Shelf.Small.Bits
import Derived.Shelf.Strconv.Atoi
import Derived.Shelf.Strconv.Itoa0
import Derived.Shelf.Strconv.Itoa1
import Derived.Shelf.LaysM
import Derived.Shelf.Strconv.Itoa2
import Derived.Shelf.Strconv.Itoa3
import Derived.Shelf.Strconv.AtoiErrFast
import Derived.Shelf.Strconv.ParseIntEmpty
import Derived.Shelf.Strconv.AtoiFail
import Derived.Shelf.Strconv.Clone
import Derived.Shelf.Strconv.SyntaxError
import Derived.Shelf.LaysC
import Derived.Shelf.Strconv.ToError
import Derived.Shelf.Strconv.Lower
import Derived.Shelf.Strconv.ParseUint10
import Derived.Shelf.Strconv.ParseUint10Empty
import Derived.Shelf.Strconv.ParseUint10Any
import Derived.Shelf.Strconv.ParseInt10
import Derived.Shelf.Strconv.AtoiLong
import Derived.Shelf.Strconv.AtoiInnerAll
import Derived.Shelf.Strconv.RangeError
import Derived.Shelf.Strconv.ToErrorRange
import Derived.Shelf.Strconv.AtoiAll
import Derived.Ground.Names2Prog
import Derived.Shelf.Slices.SearchI
set_option linter.unusedVariables false
namespace Go.Proofs.YtelmpofoeinfoaaGreatDoor
open Go Go.Ax Go.Proofs
set_option maxRecDepth 100000
def gB (l : List Int) (at_ : Nat) : AB := .row 74 2 [.agg [.il 1 (Go.Ax.encI l), .int .i64 at_]]
theorem gNN (l : List Int) (i : Nat) : NNs [.agg [.il 1 (Go.Ax.encI l), .int .i64 i]] := .cons (.agg' (.cons (.il' (encI_nn l)) (.cons (.int _ _) .nil))) .nil
theorem gNext (l : List Int) (i : Nat) (most : Int) (hi : i ≤ 4611686018427387904) (hm : most ≤ 4611686018427387904) :
  ACalls Tryz.prog [] 85 [.ptr 0 0 0, .int .i64 most] [(0, gB l i)] 1 fun r m n => ∃ k : Int, r = .int .i64 k ∧ 0 ≤ k ∧ (k = 0 ∨ k < most) ∧ m = [(0, gB l (i + 1))] := by
 refine acalls_run nnΓ Tryz.func85 rfl ?_
 have hw : IntKind.i64.wrap ((i : Int) + 1) = ((i + 1 : Nat) : Int) := wrap64 ⟨by omega, by omega⟩
 have fin : ∀ (k : Int) (n : Nat), 0 ≤ k → (k = 0 ∨ k < most) → Fini 1 (fun r m _ => ∃ k : Int, r = .int .i64 k ∧ 0 ≤ k ∧ (k = 0 ∨ k < most) ∧ m = [(0, gB l (i + 1))]) (.int .i64 k) [(0, .row 74 2 [.agg [.il 1 (Go.Ax.encI l), .int .i64 (IntKind.i64.wrap ((i : Int) + 1))]])] n := by
  intro k n h1 h2
  refine fin_mk (n' := 1) (m' := [(0, gB l (i + 1))]) [(0, 0)] rfl ⟨⟨0, _, rfl, rfl, .eq (gNN l (i + 1)) (by rw [hw])⟩, trivial⟩ (.same _ (.int _ _)) ⟨k, rfl, h1, h2, rfl⟩
 conv => whnf
 refine bcs_mk (fun h => ?_) (fun h => ?_)
 ·rw [h]
  conv => whnf
  exact fin 0 _ (by omega) (.inl rfl)
 ·have hlt : i < l.length := by rw [encI_length] at h; simp at h; omega
  rw [h]
  conv => whnf
  refine bcs_mk (fun h2 => ?_) (fun h2 => ?_)
  ·conv => whnf
   exact fin 0 _ (by omega) (.inl rfl)
  ·have h2 : 2 ≤ most := by simpa using h2
   conv => whnf
   refine opt_mk (a := .int .i64 l[i]) (by rw [Int.toNat_natCast, encI_get, List.getElem?_eq_getElem hlt]; rfl) ?_
   conv => whnf
   refine grd_mk (by rw [decide_eq_false (by omega)]; rfl) ?_
   conv => whnf
   have hr : -most < l[i].tmod most ∧ l[i].tmod most < most := by
    constructor
    ·have := Int.lt_tmod_of_pos l[i] (show 0 < most by omega); omega
    ·exact Int.tmod_lt_of_pos _ (by omega)
   refine bcs_mk (fun h3 => ?_) (fun h3 => ?_)
   ·have h3 : l[i].tmod most < 0 := by simpa using h3
    conv => whnf
    have hw2 : IntKind.i64.wrap (l[i].tmod most + most) = l[i].tmod most + most := wrap64 ⟨by omega, by omega⟩
    rw [hw2]
    exact fin _ _ (by omega) (.inr (by omega))
   ·have h3 : 0 ≤ l[i].tmod most := by simpa using h3
    conv => whnf
    exact fin _ _ h3 (.inr hr.2)
theorem gNextUse {l : List Int} {i : Nat} (most : Int) (hi : i ≤ 4611686018427387904) (hm : most ≤ 4611686018427387904) (hp : 1 ≤ most) {mem : Mem} {nx : Nat} {K : AV → Mem → Nat → Prop} (hg : lk mem 0 = some (gB l i))
  (hk : ∀ k : Int, 0 ≤ k → k < most → dropK 0 mem fun rest => K (.int .i64 k) ((0, gB l (i + 1)) :: rest) nx) : ACalls Tryz.prog [] 85 [.ptr 0 0 0, .int .i64 most] mem nx K := by
 refine ACalls.use1 nnΓ (gNext l i most hi hm) 0 hg (gNN l i) (.cons (.ptr 0 0 0 0 rfl) (.cons (.same _ (.int _ _)) .nil)) ?_
 rintro r m n ⟨k, rfl, h1, h2, rfl⟩
 exact ⟨_, rfl, .int _ _, gNN l (i + 1), hk k h1 (by omega)⟩
theorem i64_wrap (n : Int) : i64 (IntKind.i64.wrap n) := by
 rw [IntKind.wrap_i64]
 exact ⟨by omega, by omega⟩
theorem gNextAt (g : Nat) {l : List Int} {i : Nat} (most : Int) (hi : i ≤ 4611686018427387904) (hm : most ≤ 4611686018427387904) (hp : 1 ≤ most) {mem : Mem} {nx : Nat} {K : AV → Mem → Nat → Prop} (hg : lk mem g = some (gB l i))
  (hk : ∀ k : Int, 0 ≤ k → k < most → dropK g mem fun rest => K (.int .i64 k) ((g, gB l (i + 1)) :: rest) nx) : ACalls Tryz.prog [] 85 [.ptr g 0 0, .int .i64 most] mem nx K := by
 refine ACalls.use1 nnΓ (gNext l i most hi hm) g hg (gNN l i) (.cons (.ptr g 0 0 0 (by simp [lk])) (.cons (.same _ (.int _ _)) .nil)) ?_
 rintro r m n ⟨k, rfl, h1, h2, rfl⟩
 exact ⟨_, rfl, .int _ _, gNN l (i + 1), hk k h1 (by omega)⟩
set_option maxHeartbeats 16000000
set_option linter.unusedSimpArgs false
def enc64 (l : List Nat) : List AV := l.map fun n : Nat => AV.int .u64 (n : Int)
theorem enc64_nn (l : List Nat) : NNs (enc64 l) := fun a ha => by
 obtain ⟨n, _, rfl⟩ := List.mem_map.1 ha
 exact .int _ _
theorem enc64_length (l : List Nat) : (enc64 l).length = l.length := by simp [enc64]
theorem enc64_at {l : List Nat} {k : Nat} (h : k < l.length) : (enc64 l)[((k : Nat) : Int).toNat]? = some (.int .u64 (l[k] : Int)) := by simp [enc64, List.getElem?_eq_getElem h]
theorem encI_appH (l m : List Int) : Go.Ax.encI (l ++ m) = Go.Ax.encI l ++ Go.Ax.encI m := by simp [Go.Ax.encI]
theorem hMix (s w : Nat) (hs : s < 18446744073709551616) (hw : w < 18446744073709551616) : PureC Tryz.prog [] 94 [.int .u64 s, .int .u64 w] (.int .u64 (mixN s w)) := by
 have e := mix_go hs hw
 generalize mixN s w = r at e
 refine acalls_go nnΓ Tryz.func94 rfl ?_
 ((conv=>whnf);repeat(refine Xg ?_;conv=>whnf))
 exact fin_cv (r' := .int .u64 r) (.int e) ⟨rfl, rfl, rfl⟩
theorem rMix (s w : Nat) (hs : s < 18446744073709551616) (hw : w < 18446744073709551616) : PureC Tryz.prog [] 146 [.int .u64 s, .int .u64 w] (.int .u64 (mixN s w)) := by
 have e := mix_ref hs hw
 generalize mixN s w = r at e
 refine acalls_go nnΓ Tryz.func146 rfl ?_
 ((conv=>whnf);repeat(refine Xg ?_;conv=>whnf))
 exact fin_cv (r' := .int .u64 r) (.int e) ⟨rfl, rfl, rfl⟩
def hiN (b : List UInt8) (k : Nat) : Nat := min (8 * k + 8) b.length
theorem min_eq (b : List UInt8) (k : Nat) (hb : b.length ≤ 4294967296) (hk : 8 * k < b.length) :
  IntKind.i64.wrap ((if ((b.length : Nat) : Int) < IntKind.i64.wrap (((8 * k : Nat) : Int) + 8) then ((b.length : Nat) : Int) else IntKind.i64.wrap (((8 * k : Nat) : Int) + 8)) - 1) = ((hiN b k : Nat) : Int) - 1 := by
 have e : IntKind.i64.wrap (((8 * k : Nat) : Int) + 8) = ((8 * k + 8 : Nat) : Int) := w64 (by omega) ⟨by omega, by omega⟩
 rw [e]
 unfold hiN
 refine w64 ?_ ⟨by omega, by omega⟩
 split <;> omega
theorem rWords (b : List UInt8) (hb : b.length ≤ 4294967296) : PureC Tryz.prog [] 95 [.il 1 (encB b)] (.il 1 (enc64 (wordsOf b))) := by
 have nb : NN (.il 1 (encB b)) := .il' (encB_nn b)
 have lb := encB_length b
 have lw := wordsOf_length b
 refine acalls_go nnΓ Tryz.func95 rfl ?_
 ((conv=>whnf);repeat(refine Xg ?_;conv=>whnf))
 refine ALoop.ph 42 1 ?_
 refine ALoop.at nnΓ (fun k : Nat => k ≤ (wordsOf b).length)
  (fun k => ⟨[(0, .il 1 (encB b)), (3, .sl 0 0 k), (4, .int .i64 ((8 * k : Nat) : Int))], [(0, .row 42 1 (enc64 ((wordsOf b).take k)))], 1, 37⟩) (fun k => (wordsOf b).length - k) 0 [(0, 0)] (by omega)
  (conv_mk _ rfl ⟨⟨0, _, rfl, rfl, .eq (enc64_nn _) (by simp [enc64])⟩, trivial⟩ ⟨⟨_, rfl, .same _ nb⟩, ⟨_, rfl, .nslk 0 0 _ rfl rfl⟩, ⟨_, rfl, .same _ nn⟩, trivial⟩) ?_
 intro k hk
 have d1 : decide (((8 * k : Nat) : Int) < ((encB b).length : Nat)) = decide (8 * k < b.length) := by rw [lb]; exact decide_eq_decide.2 (by omega)
 by_cases hlt : 8 * k < b.length
 ·have hm := min_eq b k hb hlt
  have hh1 : 8 * k < hiN b k := by unfold hiN; omega
  have hh2 : hiN b k ≤ b.length := by unfold hiN; omega
  have hh3 : hiN b k ≤ 8 * k + 8 := by unfold hiN; omega
  have hwd : wordN ((b.drop (8 * k)).take 8) = wordN ((b.drop (8 * k)).take (hiN b k - 8 * k)) := by
   congr 1
   unfold hiN
   rw [List.take_eq_take_iff]
   simp
   omega
  have hnx := wordsOf_take hlt
  rw [hwd] at hnx
  have hkl : k < (wordsOf b).length := by omega
  generalize hiN b k = hi at *
  ((conv=>whnf);repeat(refine Xg ?_;conv=>whnf))
  rw [d1, decide_eq_true hlt]
  ((conv=>whnf);repeat(refine Xg ?_;conv=>whnf))
  rw [lb]
  ((conv=>whnf);repeat(refine Xg ?_;conv=>whnf))
  rw [hm]
  ((conv=>whnf);repeat(refine Xg ?_;conv=>whnf))
  refine ALoop.at nnΓ (fun j : Nat => 8 * k ≤ j ∧ j ≤ hi)
   (fun j => ⟨[(0, .il 1 (encB b)), (3, .sl 0 0 k), (4, .int .i64 ((8 * k : Nat) : Int)), (5, .int .u64 (wordN ((b.drop j).take (hi - j)) : Nat)), (6, .int .i64 ((j : Int) - 1))], [(0, .row 42 1 (enc64 ((wordsOf b).take k)))], 1, 37⟩) (fun j => j) hi [(0, 0)] (by omega)
   (conv_mk _ rfl ⟨⟨0, _, rfl, rfl, .same (enc64_nn _)⟩, trivial⟩ ⟨⟨_, rfl, .same _ nb⟩, ⟨_, rfl, .sl 0 0 0 _ rfl⟩, ⟨_, rfl, .same _ nn⟩, ⟨_, rfl, .int (by simp [wordN])⟩, ⟨_, rfl, .same _ nn⟩, trivial⟩) ?_
  rintro j ⟨j1, j2⟩
  have d2 : decide (((j : Int) - 1) ≥ ((8 * k : Nat) : Int)) = decide (8 * k < j) := decide_eq_decide.2 (by omega)
  by_cases hj : 8 * k < j
  ·obtain ⟨j, rfl⟩ : ∃ q, j = q + 1 := ⟨j - 1, by omega⟩
   obtain ⟨hjb, hst⟩ := wordN_step (b := b) (k := j) (hi := hi) (by omega) hh2
   have hw7 : wordN ((b.drop (j + 1)).take (hi - (j + 1))) < 72057594037927936 := wordN_lt7 (by simp; omega)
   have e1 : (((j + 1 : Nat) : Int) - 1) = ((j : Nat) : Int) := by omega
   have ej : (encB b)[((j : Nat) : Int).toNat]? = some (.int .u8 (b[j].toNat : Int)) := by simp [encB, List.getElem?_eq_getElem hjb]
   have hb8 := b[j].toNat_lt
   have hu : IntKind.u64.wrap ((b[j].toNat : Nat) : Int) = ((b[j].toNat : Nat) : Int) := wrap_u64 (by omega) (by omega)
   have hs := word_ref (x := b[j].toNat) (w := wordN ((b.drop (j + 1)).take (hi - (j + 1)))) (by omega) hw7
   rw [← hst] at hs
   generalize b[j] = bj at *
   generalize wordN ((b.drop (j + 1)).take (hi - (j + 1))) = w1 at *
   generalize hw0 : wordN ((b.drop j).take (hi - j)) = w0 at *
   ((conv=>whnf);repeat(refine Xg ?_;conv=>whnf))
   rw [d2, decide_eq_true hj]
   ((conv=>whnf);repeat(refine Xg ?_;conv=>whnf))
   rw [e1]
   ((conv=>whnf);repeat(refine Xg ?_;conv=>whnf))
   repeat ((first | refine opt_mk ej ?_ | refine setK_iff.2 ?_ | refine ⟨rfl, ?_⟩); ((conv=>whnf);repeat(refine Xg ?_;conv=>whnf)))
   exact .mk j [(0, 0)] (by omega) (conv_mk _ rfl ⟨⟨0, _, rfl, rfl, .same (enc64_nn _)⟩, trivial⟩ ⟨⟨_, rfl, .same _ nb⟩, ⟨_, rfl, .sl 0 0 0 _ rfl⟩, ⟨_, rfl, .same _ nn⟩, ⟨_, rfl, .int (by rw [hu, hs, hw0])⟩, ⟨_, rfl, .w64 (by omega) ⟨by omega, by omega⟩⟩, trivial⟩) (by omega)
  ·have hje : j = 8 * k := by omega
   subst hje
   generalize wordN ((b.drop (8 * k)).take (hi - 8 * k)) = w0 at *
   ((conv=>whnf);repeat(refine Xg ?_;conv=>whnf))
   rw [d2, decide_eq_false hj]
   ((conv=>whnf);repeat(refine Xg ?_;conv=>whnf))
   refine grd_mk (app_ok rfl rfl (by rw [enc64_length, List.length_take]; omega) (by simp; omega)) ?_
   ((conv=>whnf);repeat(refine Xg ?_;conv=>whnf))
   exact .mk (k + 1) [(2, 0)] (by omega) (conv_mk _ rfl ⟨⟨2, _, rfl, rfl, .eq (enc64_nn _) (by rw [hnx]; simp [enc64])⟩, trivial⟩ ⟨⟨_, rfl, .same _ nb⟩, ⟨_, rfl, .slE rfl (by simp)⟩, ⟨_, rfl, .w64 (by omega) ⟨by omega, by omega⟩⟩, trivial⟩) (by omega)
 ·have hke : k = (wordsOf b).length := by omega
  subst hke
  rw [List.take_length]
  ((conv=>whnf);repeat(refine Xg ?_;conv=>whnf))
  rw [d1, decide_eq_false hlt]
  ((conv=>whnf);repeat(refine Xg ?_;conv=>whnf))
  exact fin_cv (r' := .il 1 (enc64 (wordsOf b))) (fzRow (id := 0) rfl (by rw [enc64_length]) rfl (enc64_nn _)) ⟨rfl, rfl, rfl⟩
set_option maxHeartbeats 16000000
set_option linter.unusedSimpArgs false
theorem fold_take {l : List Nat} {k s : Nat} (h : k < l.length) : (l.take (k + 1)).foldl mixN s = mixN ((l.take k).foldl mixN s) l[k] := by
 rw [List.take_succ_eq_append_getElem h, foldl_snoc]
theorem foldI_take {l : List Int} {k s : Nat} (h : k < l.length) : (l.take (k + 1)).foldl (fun s w => mixN s (u64N w)) s = mixN ((l.take k).foldl (fun s w => mixN s (u64N w)) s) (u64N l[k]) := by
 rw [List.take_succ_eq_append_getElem h, foldl_snoc]
theorem lenW {n : Nat} (h : n ≤ 4294967296) : IntKind.u64.wrap ((n : Nat) : Int) = (n : Int) := wrap_u64 (by omega) (by omega)
theorem foldI_fn (mx : Nat → Nat → Nat) (l : List Int) (x : Nat) (hx : x < 18446744073709551616) (hm : ∀ s w, mx s w < 18446744073709551616) :
  ∃ G : Nat → Nat, G 0 = x ∧ G l.length = l.foldl (fun s w => mx s (u64N w)) x ∧ (∀ (k : Nat) (h : k < l.length), G (k + 1) = mx (G k) (u64N l[k])) ∧ ∀ k, G k < 18446744073709551616 := by
 refine ⟨fun k => (l.take k).foldl (fun s w => mx s (u64N w)) x, rfl, ?_, fun k h => ?_, fun k => ?_⟩
 ·simp only [List.take_length]
 ·simp only [List.take_succ_eq_append_getElem h, List.foldl_append, List.foldl_cons, List.foldl_nil]
 ·simp only
  generalize l.take k = m
  clear l
  induction m generalizing x with
  | nil => exact hx
  | cons a m ih => exact ih _ (hm _ _)
theorem rSumH (s : List UInt8) (l : List Int) (hs : s.length ≤ 4294967296) (hl : l.length ≤ 4294967296) : PureC Tryz.prog [] 96 [.str s, .il 1 (Go.Ax.encI l)] (.int .u64 (sumN s l)) := by
 have nl : NN (.il 1 (Go.Ax.encI l)) := .il' (encI_nn l)
 have ll := encI_length l
 have hW := rWords s hs
 have hwl := wordsOf_lt (b := s)
 have hwn := wordsOf_length s
 have nw : NN (.il 1 (enc64 (wordsOf s))) := .il' (enc64_nn _)
 have lw := enc64_length (wordsOf s)
 have hsum : sumN s l = mixN (l.foldl (fun s w => mixN s (u64N w)) (mixN (mixN ((wordsOf s).foldl mixN 0) s.length) l.length)) 0 := rfl
 rw [hsum]
 clear hsum
 have hR := rMix
 have hL := mixN_lt
 have hF := foldl_mix_lt
 have hFI := foldl_mixI_lt
 have f1 := @fold_take
 have f2 := @foldI_take
 generalize mixN = mx at *
 generalize wordsOf s = ws at *
 refine acalls_go nnΓ Tryz.func96 rfl ?_
 ((conv=>whnf);repeat(refine Xg ?_;conv=>whnf))
 refine hW.frz [0] nnΓ (.cons (fzRow (id := 0) rfl (encB_length _).symm rfl (encB_nn _)) .nil) nw ?_
 ((conv=>whnf);repeat(refine Xg ?_;conv=>whnf))
 refine ALoop.at nnΓ (fun k : Nat => k ≤ ws.length)
  (fun k => ⟨[(0, .str s), (1, .il 1 (Go.Ax.encI l)), (5, .int .u64 ((ws.take k).foldl mx 0 : Nat)), (6, .il 1 (enc64 ws)), (7, .int .i64 k)], [], 0, 49⟩) (fun k => ws.length - k) 0 [] (by omega)
  (conv_pure ⟨⟨_, rfl, .same _ nn⟩, ⟨_, rfl, .same _ nl⟩, ⟨_, rfl, .int (by simp)⟩, ⟨_, rfl, .same _ nw⟩, ⟨_, rfl, .same _ nn⟩, trivial⟩) ?_
 intro k hk
 have d1 : decide ((k : Int) < ((enc64 ws).length : Nat)) = decide (k < ws.length) := by rw [lw]; exact decide_eq_decide.2 (by omega)
 by_cases hlt : k < ws.length
 ·have ek := enc64_at hlt
  have hn := f1 (s := 0) hlt
  have hM := hR ((ws.take k).foldl mx 0) ws[k] (hF _ _ (by omega)) (hwl _ (List.getElem_mem hlt))
  rw [← hn] at hM
  generalize hy : (ws.take (k + 1)).foldl mx 0 = y at *
  generalize (ws.take k).foldl mx 0 = x at *
  generalize ws[k] = wk at *
  ((conv=>whnf);repeat(refine Xg ?_;conv=>whnf))
  rw [d1, decide_eq_true hlt]
  ((conv=>whnf);repeat(refine Xg ?_;conv=>whnf))
  repeat ((first | refine opt_mk ek ?_ | refine setK_iff.2 ?_ | refine ⟨rfl, ?_⟩); ((conv=>whnf);repeat(refine Xg ?_;conv=>whnf)))
  refine hM.go ?_ (.cons nn (.cons nn .nil)) nn
  ((conv=>whnf);repeat(refine Xg ?_;conv=>whnf))
  exact .mk (k + 1) [] (by omega) (conv_pure ⟨⟨_, rfl, .same _ nn⟩, ⟨_, rfl, .same _ nl⟩, ⟨_, rfl, .int (by rw [hy])⟩, ⟨_, rfl, .same _ nw⟩, ⟨_, rfl, .w64 (by omega) ⟨by omega, by omega⟩⟩, trivial⟩) (by omega)
 ·have hke : k = ws.length := by omega
  subst hke
  rw [List.take_length]
  have hx1 : ws.foldl mx 0 < 18446744073709551616 := hF _ _ (by omega)
  have hM1 := hR (ws.foldl mx 0) s.length hx1 (by omega)
  have hM2 := hR (mx (ws.foldl mx 0) s.length) l.length (hL _ _) (by omega)
  have hx3 := hL (mx (ws.foldl mx 0) s.length) l.length
  generalize mx (mx (ws.foldl mx 0) s.length) l.length = x3 at *
  generalize mx (ws.foldl mx 0) s.length = x2 at *
  generalize ws.foldl mx 0 = x1 at *
  ((conv=>whnf);repeat(refine Xg ?_;conv=>whnf))
  rw [d1, decide_eq_false hlt]
  ((conv=>whnf);repeat(refine Xg ?_;conv=>whnf))
  rw [lenW hs]
  refine hM1.go ?_ (.cons nn (.cons nn .nil)) nn
  ((conv=>whnf);repeat(refine Xg ?_;conv=>whnf))
  rw [ll, lenW hl]
  refine hM2.go ?_ (.cons nn (.cons nn .nil)) nn
  ((conv=>whnf);repeat(refine Xg ?_;conv=>whnf))
  obtain ⟨G, g0, g1, g2, g3⟩ := foldI_fn mx l x3 hx3 hL
  rw [← g1]
  refine ALoop.at nnΓ (fun k : Nat => k ≤ l.length)
   (fun k => ⟨[(1, .il 1 (Go.Ax.encI l)), (5, .int .u64 (G k : Nat)), (8, .int .i64 k)], [], 0, 49⟩) (fun k => l.length - k) 0 [] (by omega)
   (conv_pure ⟨⟨_, rfl, .same _ nl⟩, ⟨_, rfl, .int (by rw [g0])⟩, ⟨_, rfl, .same _ nn⟩, trivial⟩) ?_
  intro k hk
  have d2 : decide ((k : Int) < ((Go.Ax.encI l).length : Nat)) = decide (k < l.length) := by rw [ll]; exact decide_eq_decide.2 (by omega)
  by_cases hlt : k < l.length
  ·have ek := encI_gt hlt
   have hn := g2 k hlt
   have hM := hR (G k) (u64N l[k]) (g3 k) (u64N_lt _)
   rw [← hn, ← u64N_wrap] at hM
   generalize hy : G (k + 1) = y at *
   generalize G k = x at *
   generalize l[k] = lk at *
   ((conv=>whnf);repeat(refine Xg ?_;conv=>whnf))
   rw [d2, decide_eq_true hlt]
   ((conv=>whnf);repeat(refine Xg ?_;conv=>whnf))
   repeat ((first | refine opt_mk ek ?_ | refine setK_iff.2 ?_ | refine ⟨rfl, ?_⟩); ((conv=>whnf);repeat(refine Xg ?_;conv=>whnf)))
   refine hM.go ?_ (.cons nn (.cons nn .nil)) nn
   ((conv=>whnf);repeat(refine Xg ?_;conv=>whnf))
   exact .mk (k + 1) [] (by omega) (conv_pure ⟨⟨_, rfl, .same _ nl⟩, ⟨_, rfl, .int (by rw [hy])⟩, ⟨_, rfl, .w64 (by omega) ⟨by omega, by omega⟩⟩, trivial⟩) (by omega)
  ·have hke : k = l.length := by omega
   subst hke
   have hM := hR (G l.length) 0 (g3 _) (by omega)
   generalize mx (G l.length) 0 = y at *
   generalize G l.length = x at *
   ((conv=>whnf);repeat(refine Xg ?_;conv=>whnf))
   rw [d2, decide_eq_false hlt]
   ((conv=>whnf);repeat(refine Xg ?_;conv=>whnf))
   refine hM.go ?_ (.cons nn (.cons nn .nil)) nn
   ((conv=>whnf);repeat(refine Xg ?_;conv=>whnf))
   exact fin_pure nn ⟨rfl, rfl, rfl⟩
theorem rBytesH (s b : List UInt8) (hs : s.length ≤ 4294967296) (hb : b.length ≤ 4294967000) : PureC Tryz.prog [] 44 [.str s, .il 1 (encB b)] (.int .u64 (bytesN s b)) := by
 have nb : NN (.il 1 (encB b)) := .il' (encB_nn b)
 have lb := encB_length b
 have hW := rWords b (by omega)
 have hwn := wordsOf_length b
 have nw : NN (.il 1 (enc64 (wordsOf b))) := .il' (enc64_nn _)
 have lw := enc64_length (wordsOf b)
 have hS := rSumH s ((wordsOf b).map intW ++ [(b.length : Int)]) hs (by simp; omega)
 rw [show sumN s ((wordsOf b).map intW ++ [(b.length : Int)]) = bytesN s b from rfl] at hS
 generalize bytesN s b = y at *
 generalize wordsOf b = ws at *
 refine acalls_go nnΓ Tryz.func44 rfl ?_
 ((conv=>whnf);repeat(refine Xg ?_;conv=>whnf))
 refine hW.go ?_ (.cons nb .nil) nw
 ((conv=>whnf);repeat(refine Xg ?_;conv=>whnf))
 refine ALoop.ph 3 1 ?_
 refine ALoop.at nnΓ (fun k : Nat => k ≤ ws.length)
  (fun k => ⟨[(0, .str s), (1, .il 1 (encB b)), (5, .il 1 (enc64 ws)), (6, .sl 0 0 k), (7, .int .i64 k)], [(0, .row 3 1 (Go.Ax.encI ((ws.take k).map intW)))], 1, 31⟩) (fun k => ws.length - k) 0 [(0, 0)] (by omega)
  (conv_mk _ rfl ⟨⟨0, _, rfl, rfl, .nil⟩, trivial⟩ ⟨⟨_, rfl, .same _ nn⟩, ⟨_, rfl, .same _ nb⟩, ⟨_, rfl, .same _ nw⟩, ⟨_, rfl, .nslk 0 0 _ rfl rfl⟩, ⟨_, rfl, .same _ nn⟩, trivial⟩) ?_
 intro k hk
 have d1 : decide ((k : Int) < ((enc64 ws).length : Nat)) = decide (k < ws.length) := by rw [lw]; exact decide_eq_decide.2 (by omega)
 by_cases hlt : k < ws.length
 ·have ek := enc64_at hlt
  have hnx : (ws.take (k + 1)).map intW = (ws.take k).map intW ++ [intW ws[k]] := by rw [List.take_succ_eq_append_getElem hlt, List.map_append]; rfl
  have hlk : ((ws.take k).map intW).length = k := by simp; omega
  have hiw : IntKind.i64.wrap (ws[k] : Int) = intW ws[k] := rfl
  generalize intW ws[k] = iw at *
  generalize ws[k] = wk at *
  generalize (ws.take k).map intW = xs at *
  ((conv=>whnf);repeat(refine Xg ?_;conv=>whnf))
  rw [d1, decide_eq_true hlt]
  ((conv=>whnf);repeat(refine Xg ?_;conv=>whnf))
  repeat ((first | refine opt_mk ek ?_ | refine setK_iff.2 ?_ | refine ⟨rfl, ?_⟩); ((conv=>whnf);repeat(refine Xg ?_;conv=>whnf)))
  refine grd_mk (app_ok rfl rfl (by rw [encI_length, hlk]) (by simp; omega)) ?_
  ((conv=>whnf);repeat(refine Xg ?_;conv=>whnf))
  exact .mk (k + 1) [(2, 0)] (by omega) (conv_mk _ rfl ⟨⟨2, _, rfl, rfl, .eq (encI_nn _) (by rw [hnx, hiw, encI_appH]; rfl)⟩, trivial⟩ ⟨⟨_, rfl, .same _ nn⟩, ⟨_, rfl, .same _ nb⟩, ⟨_, rfl, .same _ nw⟩, ⟨_, rfl, .slE rfl (by simp)⟩, ⟨_, rfl, .w64 (by omega) ⟨by omega, by omega⟩⟩, trivial⟩) (by omega)
 ·have hke : k = ws.length := by omega
  subst hke
  rw [List.take_length]
  have hlk : (ws.map intW).length = ws.length := by simp
  generalize ws.map intW = xs at *
  have hls : (Go.Ax.encI (xs ++ [(b.length : Int)])).length = ws.length + 1 := by rw [encI_length, List.length_append, hlk]; rfl
  ((conv=>whnf);repeat(refine Xg ?_;conv=>whnf))
  rw [d1, decide_eq_false hlt]
  ((conv=>whnf);repeat(refine Xg ?_;conv=>whnf))
  rw [lb]
  refine grd_mk (app_ok rfl rfl (by rw [encI_length, hlk]) (by simp; omega)) ?_
  ((conv=>whnf);repeat(refine Xg ?_;conv=>whnf))
  refine hS.frz [2, 1] nnΓ (.cons (.same _ nn) (.cons (fzRow (id := 2) rfl (by rw [List.length_append, encI_length, hlk]) (by rw [encI_appH]; rfl) (encI_nn _)) .nil)) nn ?_
  ((conv=>whnf);repeat(refine Xg ?_;conv=>whnf))
  exact fin_pure nn ⟨rfl, rfl, rfl⟩
set_option maxHeartbeats 16000000
set_option linter.unusedSimpArgs false
def fnG (b : List UInt8) : AV := .fn (.func 93) [] [.ip (.il 1 (encB b))]
theorem fnG_nn (b : List UInt8) : NN (fnG b) := .fn _ _ _ (by simp) (NNs.get (.cons (.ip' (.il' (encB_nn b))) .nil))
theorem hGroups (b : List UInt8) : PureC Tryz.prog [] 42 [.il 1 (encB b)] (fnG b) := by
 refine acalls_go nnΓ Tryz.func42 rfl ?_
 ((conv=>whnf);repeat(refine Xg ?_;conv=>whnf))
 exact fin_cv (r' := fnG b) (.fn _ _ _ _ _ rfl rfl (by simp) (CvL.cons (fzP0 (id := 0) rfl rfl rfl rfl (.same _ (.il' (encB_nn b)))) .nil).2) ⟨rfl, rfl, rfl⟩
def rngsH : Code → List (Array Tmp × Code × Code)
 | .seq a b => rngsH a ++ rngsH b
 | .cond _ a b => rngsH a ++ rngsH b
 | .block _ a => rngsH a
 | .loop a => rngsH a
 | .scope a => rngsH a
 | .rangeFunc _ ps ca cb => [(ps, ca, cb)]
 | _ => []
def theRngH (f : Func) : Array Tmp × Code × Code :=
 match f.body with
 | some c => match rngsH c with
  | [] => (#[], .skip, .skip)
  | a :: _ => a
 | none => (#[], .skip, .skip)
noncomputable def hsR : Array Tmp × Code × Code := theRngH Tryz.f43
noncomputable def hbR : Array Tmp × Code × Code := theRngH Tryz.f14
noncomputable def sRM (x : Nat) (rest : Mem) : Mem := (0, .loop [(5, .ptr 1 0 0)] 39 hsR.1 hsR.2.1 hsR.2.2 .ready none) :: (1, .row 42 1 [.int .u64 x]) :: rest
theorem sRM_conv {mem : Mem} {σ : List (Nat × Nat)} {x : Nat} {i0 i1 : Nat} {sl : List (Nat × AV)} {y : Int} {rest : Mem} (s0 : lk σ i0 = some 0) (s1 : lk σ i1 = some 1)
  (m0 : lk mem i0 = some (.loop sl 39 hsR.1 hsR.2.1 hsR.2.2 .ready none)) (hs : SlConv mem σ sl [(5, .ptr 1 0 0)]) (m1 : lk mem i1 = some (.row 42 1 [.int .u64 y])) (hy : y = (x : Int)) (hr : MemConv mem σ rest) : MemConv mem σ (sRM x rest) :=
 ⟨⟨i0, sl, s0, m0, hs.get⟩, ⟨i1, _, s1, m1, .eq (.cons (.int _ _) .nil) (by rw [hy])⟩, hr⟩
theorem sRound (x w : Nat) (hx : x < 18446744073709551616) (hw : w < 18446744073709551616) :
  ACalls Tryz.prog [] YF [.yld 0, .int .u64 w] (sRM x []) 2 fun r m k => r = .bool true ∧ m = sRM (mixN x w) [] ∧ k = 2 := by
 have hM := hMix x w hx hw
 generalize mixN x w = y at *
 refine ACalls.turn nnΓ (ACallsP.toC (Qp := fun _ _ _ => False) (ACallsP.round (sl' := [(5, .ptr 1 0 0), (12, .int .u64 w)]) rfl rfl rfl rfl ?_) (fun _ _ _ h => h))
 ((conv=>whnf);repeat(refine Xg ?_;conv=>whnf))
 refine hM.go ?_ (.cons nn (.cons nn .nil)) nn
 ((conv=>whnf);repeat(refine Xg ?_;conv=>whnf))
 repeat ((first | refine setK_iff.2 ?_ | refine ⟨rfl, ?_⟩); ((conv=>whnf);repeat(refine Xg ?_;conv=>whnf)))
 exact fin_mk (n' := 2) (m' := sRM y []) [(0, 0), (1, 1)] rfl (sRM_conv (i0 := 0) (i1 := 1) rfl rfl rfl ⟨⟨_, rfl, .ptr 1 1 0 0 rfl⟩, trivial⟩ rfl rfl trivial) (.same _ nn) ⟨rfl, rfl, rfl⟩
theorem sIt (b : List UInt8) (x : Nat) (hb : b.length ≤ 4294967296) (hx : x < 18446744073709551616) :
  ACalls Tryz.prog [] 93 [.yld 0, .ip (.il 1 (encB b))] (sRM x []) 2 fun r m k => r = .tup [] ∧ m = sRM ((wordsOf b).foldl mixN x) [] ∧ k = 2 := by
 have nb : NN (.il 1 (encB b)) := .il' (encB_nn b)
 have nip : NN (.ip (.il 1 (encB b))) := .ip' nb
 have lb := encB_length b
 have lw := wordsOf_length b
 have hRd := sRound
 have hF := foldl_mix_lt
 generalize mixN = mx at *
 refine acalls_go nnΓ Tryz.func93 rfl ?_
 ((conv=>whnf);repeat(refine Xg ?_;conv=>whnf))
 refine ALoop.at nnΓ (fun k : Nat => k ≤ (wordsOf b).length)
  (fun k => ⟨[(0, .yld 0), (1, .ip (.il 1 (encB b))), (3, .int .i64 ((8 * k : Nat) : Int))], sRM (((wordsOf b).take k).foldl mx x) [], 2, 35⟩) (fun k => (wordsOf b).length - k) 0 [(0, 0), (1, 1)] (by omega)
  (conv_mk _ rfl (sRM_conv (i0 := 0) (i1 := 1) rfl rfl rfl ⟨⟨_, rfl, .ptr 1 1 0 0 rfl⟩, trivial⟩ rfl rfl trivial) ⟨⟨_, rfl, .yld 0 0 rfl⟩, ⟨_, rfl, .same _ nip⟩, ⟨_, rfl, .same _ nn⟩, trivial⟩) ?_
 intro k hk
 have d1 : decide (((8 * k : Nat) : Int) < ((encB b).length : Nat)) = decide (8 * k < b.length) := by rw [lb]; exact decide_eq_decide.2 (by omega)
 by_cases hlt : 8 * k < b.length
 ·have hm := min_eq b k hb hlt
  have hh1 : 8 * k < hiN b k := by unfold hiN; omega
  have hh2 : hiN b k ≤ b.length := by unfold hiN; omega
  have hh3 : hiN b k ≤ 8 * k + 8 := by unfold hiN; omega
  have hwd : wordN ((b.drop (8 * k)).take 8) = wordN ((b.drop (8 * k)).take (hiN b k - 8 * k)) := by
   congr 1
   unfold hiN
   rw [List.take_eq_take_iff]
   simp
   omega
  have hnx := wordsOf_take hlt
  rw [hwd] at hnx
  have hw64 : wordN ((b.drop (8 * k)).take (hiN b k - 8 * k)) < 18446744073709551616 := wordN_lt64 (by simp; omega)
  have hkl : k < (wordsOf b).length := by omega
  have hfn : ((wordsOf b).take (k + 1)).foldl mx x = mx (((wordsOf b).take k).foldl mx x) (wordN ((b.drop (8 * k)).take (hiN b k - 8 * k))) := by rw [hnx, foldl_snoc]
  have hxk : ((wordsOf b).take k).foldl mx x < 18446744073709551616 := hF _ _ hx
  generalize hy : ((wordsOf b).take (k + 1)).foldl mx x = y at *
  generalize ((wordsOf b).take k).foldl mx x = xk at *
  generalize hiN b k = hi at *
  ((conv=>whnf);repeat(refine Xg ?_;conv=>whnf))
  rw [d1, decide_eq_true hlt]
  ((conv=>whnf);repeat(refine Xg ?_;conv=>whnf))
  rw [lb]
  ((conv=>whnf);repeat(refine Xg ?_;conv=>whnf))
  rw [hm]
  ((conv=>whnf);repeat(refine Xg ?_;conv=>whnf))
  refine ALoop.at nnΓ (fun j : Nat => 8 * k ≤ j ∧ j ≤ hi)
   (fun j => ⟨[(0, .yld 0), (1, .ip (.il 1 (encB b))), (3, .int .i64 ((8 * k : Nat) : Int)), (4, .int .u64 (wordN ((b.drop j).take (hi - j)) : Nat)), (5, .int .i64 ((j : Int) - 1))], sRM xk [], 2, 35⟩) (fun j => j) hi [(0, 0), (1, 1)] (by omega)
   (conv_mk _ rfl (sRM_conv (i0 := 0) (i1 := 1) rfl rfl rfl ⟨⟨_, rfl, .ptr 1 1 0 0 rfl⟩, trivial⟩ rfl rfl trivial) ⟨⟨_, rfl, .yld 0 0 rfl⟩, ⟨_, rfl, .same _ nip⟩, ⟨_, rfl, .same _ nn⟩, ⟨_, rfl, .int (by simp [wordN])⟩, ⟨_, rfl, .same _ nn⟩, trivial⟩) ?_
  rintro j ⟨j1, j2⟩
  have d2 : decide (((j : Int) - 1) ≥ ((8 * k : Nat) : Int)) = decide (8 * k < j) := decide_eq_decide.2 (by omega)
  by_cases hj : 8 * k < j
  ·obtain ⟨j, rfl⟩ : ∃ q, j = q + 1 := ⟨j - 1, by omega⟩
   obtain ⟨hjb, hst⟩ := wordN_step (b := b) (k := j) (hi := hi) (by omega) hh2
   have hw7 : wordN ((b.drop (j + 1)).take (hi - (j + 1))) < 72057594037927936 := wordN_lt7 (by simp; omega)
   have e1 : (((j + 1 : Nat) : Int) - 1) = ((j : Nat) : Int) := by omega
   have ej : (encB b)[((j : Nat) : Int).toNat]? = some (.int .u8 (b[j].toNat : Int)) := by simp [encB, List.getElem?_eq_getElem hjb]
   have hb8 := b[j].toNat_lt
   have hu : IntKind.u64.wrap ((b[j].toNat : Nat) : Int) = ((b[j].toNat : Nat) : Int) := wrap_u64 (by omega) (by omega)
   have hs := word_go (x := b[j].toNat) (w := wordN ((b.drop (j + 1)).take (hi - (j + 1)))) (by omega) hw7
   rw [← hst] at hs
   generalize b[j] = bj at *
   generalize wordN ((b.drop (j + 1)).take (hi - (j + 1))) = w1 at *
   generalize hw0 : wordN ((b.drop j).take (hi - j)) = w0 at *
   ((conv=>whnf);repeat(refine Xg ?_;conv=>whnf))
   rw [d2, decide_eq_true hj]
   ((conv=>whnf);repeat(refine Xg ?_;conv=>whnf))
   rw [e1]
   ((conv=>whnf);repeat(refine Xg ?_;conv=>whnf))
   repeat ((first | refine opt_mk ej ?_ | refine setK_iff.2 ?_ | refine ⟨rfl, ?_⟩); ((conv=>whnf);repeat(refine Xg ?_;conv=>whnf)))
   exact .mk j [(0, 0), (1, 1)] (by omega) (conv_mk _ rfl (sRM_conv (i0 := 0) (i1 := 1) rfl rfl rfl ⟨⟨_, rfl, .ptr 1 1 0 0 rfl⟩, trivial⟩ rfl rfl trivial) ⟨⟨_, rfl, .yld 0 0 rfl⟩, ⟨_, rfl, .same _ nip⟩, ⟨_, rfl, .same _ nn⟩, ⟨_, rfl, .int (by rw [hu, hs, hw0])⟩, ⟨_, rfl, .w64 (by omega) ⟨by omega, by omega⟩⟩, trivial⟩) (by omega)
  ·have hje : j = 8 * k := by omega
   subst hje
   generalize wordN ((b.drop (8 * k)).take (hi - 8 * k)) = w0 at *
   have hR := hRd xk w0 hxk hw64
   rw [← hfn] at hR
   ((conv=>whnf);repeat(refine Xg ?_;conv=>whnf))
   rw [d2, decide_eq_false hj]
   ((conv=>whnf);repeat(refine Xg ?_;conv=>whnf))
   refine ACalls.useN nnΓ [(0, 0), (1, 1)] hR rfl (.cons (.yld 0 0 rfl) (.cons (.same _ nn) .nil)) (sRM_conv (i0 := 0) (i1 := 1) rfl rfl rfl ⟨⟨_, rfl, .ptr 1 1 0 0 rfl⟩, trivial⟩ rfl rfl trivial) rfl ?_
   rintro r m n ⟨rfl, rfl, rfl⟩
   refine ⟨[(0, 0), (1, 1)], _, sRM y [], 2, .same _ nn, sRM_conv (i0 := 0) (i1 := 1) rfl rfl rfl ⟨⟨_, rfl, .ptr 1 1 0 0 rfl⟩, trivial⟩ rfl rfl trivial, rfl, ?_⟩
   ((conv=>whnf);repeat(refine Xg ?_;conv=>whnf))
   exact .mk (k + 1) [(0, 0), (1, 1)] (by omega) (conv_mk _ rfl (sRM_conv (i0 := 0) (i1 := 1) rfl rfl rfl ⟨⟨_, rfl, .ptr 1 1 0 0 rfl⟩, trivial⟩ rfl (by rw [hy]) trivial) ⟨⟨_, rfl, .yld 0 0 rfl⟩, ⟨_, rfl, .same _ nip⟩, ⟨_, rfl, .w64 (by omega) ⟨by omega, by omega⟩⟩, trivial⟩) (by omega)
 ·have hke : k = (wordsOf b).length := by omega
  subst hke
  rw [List.take_length]
  generalize (wordsOf b).foldl mx x = y
  ((conv=>whnf);repeat(refine Xg ?_;conv=>whnf))
  rw [d1, decide_eq_false hlt]
  ((conv=>whnf);repeat(refine Xg ?_;conv=>whnf))
  exact fin_mk (n' := 2) (m' := sRM y []) [(0, 0), (1, 1)] rfl (sRM_conv (i0 := 0) (i1 := 1) rfl rfl rfl ⟨⟨_, rfl, .ptr 1 1 0 0 rfl⟩, trivial⟩ rfl rfl trivial) (.same _ (.tup' .nil)) ⟨rfl, rfl, rfl⟩
set_option maxHeartbeats 16000000
set_option linter.unusedSimpArgs false
theorem hSum (s : List UInt8) (l : List Int) (hs : s.length ≤ 4294967296) (hl : l.length ≤ 4294967296) : PureC Tryz.prog [] 43 [.str s, .il 1 (Go.Ax.encI l)] (.int .u64 (sumN s l)) := by
 have nl : NN (.il 1 (Go.Ax.encI l)) := .il' (encI_nn l)
 have ll := encI_length l
 have hG := hGroups s
 have nG := fnG_nn s
 have hI := sIt s 0 hs (by omega)
 have hx1 : (wordsOf s).foldl mixN 0 < 18446744073709551616 := foldl_mix_lt _ _ (by omega)
 have hsum : sumN s l = mixN (l.foldl (fun s w => mixN s (u64N w)) (mixN (mixN ((wordsOf s).foldl mixN 0) s.length) l.length)) 0 := rfl
 have hM1 := hMix ((wordsOf s).foldl mixN 0) s.length hx1 (by omega)
 have hM2 := hMix (mixN ((wordsOf s).foldl mixN 0) s.length) l.length (mixN_lt _ _) (by omega)
 have hx3 := mixN_lt (mixN ((wordsOf s).foldl mixN 0) s.length) l.length
 rw [hsum]
 clear hsum
 have hR := hMix
 have hL := mixN_lt
 generalize mixN = mx at *
 generalize mx (mx ((wordsOf s).foldl mx 0) s.length) l.length = x3 at *
 generalize mx ((wordsOf s).foldl mx 0) s.length = x2 at *
 generalize (wordsOf s).foldl mx 0 = x1 at *
 refine acalls_go nnΓ Tryz.func43 rfl ?_
 ((conv=>whnf);repeat(refine Xg ?_;conv=>whnf))
 refine hG.frz [1] nnΓ (.cons (fzRow (id := 1) rfl (encB_length _).symm rfl (encB_nn _)) .nil) nG ?_
 ((conv=>whnf);repeat(refine Xg ?_;conv=>whnf))
 refine ACalls.useN nnΓ [(2, 0), (0, 1)] hI rfl (.cons (.yld 2 0 rfl) (.cons (.same _ (.ip' (.il' (encB_nn s)))) .nil)) (sRM_conv (i0 := 2) (i1 := 0) rfl rfl rfl ⟨⟨_, rfl, .ptr 0 1 0 0 rfl⟩, trivial⟩ rfl rfl trivial) rfl ?_
 rintro r m n ⟨rfl, rfl, rfl⟩
 refine ⟨[(0, 2), (1, 0)], _, [(2, .loop [(5, .ptr 0 0 0)] 39 hsR.1 hsR.2.1 hsR.2.2 .ready none), (0, .row 42 1 [.int .u64 x1])], 3, .same _ (.tup' .nil), ⟨⟨0, _, rfl, rfl, SlConv.get ⟨⟨_, rfl, .ptr 1 0 0 0 rfl⟩, trivial⟩⟩, ⟨1, _, rfl, rfl, .same (.cons nn .nil)⟩, trivial⟩, rfl, ?_⟩
 ((conv=>whnf);repeat(refine Xg ?_;conv=>whnf))
 rw [lenW hs]
 refine hM1.go ?_ (.cons nn (.cons nn .nil)) nn
 ((conv=>whnf);repeat(refine Xg ?_;conv=>whnf))
 rw [ll, lenW hl]
 refine hM2.go ?_ (.cons nn (.cons nn .nil)) nn
 ((conv=>whnf);repeat(refine Xg ?_;conv=>whnf))
 obtain ⟨G, g0, g1, g2, g3⟩ := foldI_fn mx l x3 hx3 hL
 rw [← g1]
 refine ALoop.at nnΓ (fun k : Nat => k ≤ l.length)
  (fun k => ⟨[(5, .ptr 0 0 0), (26, .il 1 (Go.Ax.encI l)), (27, .int .i64 l.length), (28, .int .i64 k)], [(0, .row 42 1 [.int .u64 (G k : Nat)])], 1, 39⟩) (fun k => l.length - k) 0 [(0, 0)] (by omega)
  (conv_mk _ rfl ⟨⟨0, _, rfl, rfl, .eq (.cons nn .nil) (by rw [g0])⟩, trivial⟩ ⟨⟨_, rfl, .ptr 0 0 0 0 rfl⟩, ⟨_, rfl, .same _ nl⟩, ⟨_, rfl, .int (by rw [ll])⟩, ⟨_, rfl, .same _ nn⟩, trivial⟩) ?_
 intro k hk
 have d2 : decide ((k : Int) < (l.length : Int)) = decide (k < l.length) := decide_eq_decide.2 (by omega)
 by_cases hlt : k < l.length
 ·have ek := encI_gt hlt
  have hn := g2 k hlt
  have hM := hR (G k) (u64N l[k]) (g3 k) (u64N_lt _)
  rw [← hn, ← u64N_wrap] at hM
  generalize hy : G (k + 1) = y at *
  generalize G k = x at *
  generalize l[k] = lk at *
  ((conv=>whnf);repeat(refine Xg ?_;conv=>whnf))
  rw [d2, decide_eq_true hlt]
  ((conv=>whnf);repeat(refine Xg ?_;conv=>whnf))
  repeat ((first | refine opt_mk ek ?_ | refine setK_iff.2 ?_ | refine ⟨rfl, ?_⟩); ((conv=>whnf);repeat(refine Xg ?_;conv=>whnf)))
  refine hM.go ?_ (.cons nn (.cons nn .nil)) nn
  ((conv=>whnf);repeat(refine Xg ?_;conv=>whnf))
  exact .mk (k + 1) [(0, 0)] (by omega) (conv_mk _ rfl ⟨⟨0, _, rfl, rfl, .eq (.cons nn .nil) (by rw [hy])⟩, trivial⟩ ⟨⟨_, rfl, .ptr 0 0 0 0 rfl⟩, ⟨_, rfl, .same _ nl⟩, ⟨_, rfl, .same _ nn⟩, ⟨_, rfl, .w64 (by omega) ⟨by omega, by omega⟩⟩, trivial⟩) (by omega)
 ·have hke : k = l.length := by omega
  subst hke
  have hM := hR (G l.length) 0 (g3 _) (by omega)
  generalize mx (G l.length) 0 = y at *
  generalize G l.length = x at *
  ((conv=>whnf);repeat(refine Xg ?_;conv=>whnf))
  rw [d2, decide_eq_false hlt]
  ((conv=>whnf);repeat(refine Xg ?_;conv=>whnf))
  refine hM.go ?_ (.cons nn (.cons nn .nil)) nn
  ((conv=>whnf);repeat(refine Xg ?_;conv=>whnf))
  exact fin_pure nn ⟨rfl, rfl, rfl⟩
set_option maxHeartbeats 16000000
set_option linter.unusedSimpArgs false
noncomputable def bRM (xs : List Int) (rid : Nat) (rest : Mem) : Mem := (0, .loop [(5, .ptr 1 0 0)] 28 hbR.1 hbR.2.1 hbR.2.2 .ready none) :: (1, .row 22 1 [.sl rid 0 xs.length]) :: (rid, .row 3 1 (Go.Ax.encI xs)) :: rest
theorem bRM_conv {mem : Mem} {σ : List (Nat × Nat)} {xs : List Int} {i0 i1 len rid rid' : Nat} {sl : List (Nat × AV)} {ys : List AV} {rest : Mem} (s0 : lk σ i0 = some 0) (s1 : lk σ i1 = some 1) (sr : lk σ rid = some rid')
  (m0 : lk mem i0 = some (.loop sl 28 hbR.1 hbR.2.1 hbR.2.2 .ready none)) (hs : SlConv mem σ sl [(5, .ptr 1 0 0)]) (m1 : lk mem i1 = some (.row 22 1 [.sl rid 0 len])) (hl : len = xs.length) (mr : lk mem rid = some (.row 3 1 ys)) (hy : ys = Go.Ax.encI xs) (hr : MemConv mem σ rest) : MemConv mem σ (bRM xs rid' rest) :=
 ⟨⟨i0, sl, s0, m0, hs.get⟩, ⟨i1, _, s1, m1, .cons (.one rfl rfl (.slE sr hl)) .nil⟩, ⟨rid, _, sr, mr, .eq (encI_nn _) hy⟩, hr⟩
theorem bRound (xs : List Int) (w : Nat) (hx : xs.length ≤ 4294967296) :
  ACalls Tryz.prog [] YF [.yld 0, .int .u64 w] (bRM xs 2 []) 3 fun r m k => r = .bool true ∧ m = bRM (xs ++ [intW w]) 3 [] ∧ k = 4 := by
 have lx := encI_length xs
 have hi : IntKind.i64.wrap (w : Int) = intW w := rfl
 generalize intW w = iw at *
 refine ACalls.turn nnΓ (ACallsP.toC (Qp := fun _ _ _ => False) (ACallsP.round (sl' := [(5, .ptr 1 0 0), (14, .int .u64 w)]) rfl rfl rfl rfl ?_) (fun _ _ _ h => h))
 ((conv=>whnf);repeat(refine Xg ?_;conv=>whnf))
 refine grd_mk (app_ok rfl rfl (by rw [lx]) (by simp; omega)) ?_
 ((conv=>whnf);repeat(refine Xg ?_;conv=>whnf))
 exact fin_mk (n' := 4) (m' := bRM (xs ++ [iw]) 3 []) [(0, 0), (1, 1), (4, 3)] rfl (bRM_conv (i0 := 0) (i1 := 1) (rid := 4) rfl rfl rfl rfl ⟨⟨_, rfl, .ptr 1 1 0 0 rfl⟩, trivial⟩ rfl (by simp) rfl (by rw [hi, encI_appH]; rfl) trivial) (.same _ nn) ⟨rfl, rfl, rfl⟩
theorem b_use {xs : List Int} {w : Nat} (hx : xs.length ≤ 4294967296) {mem rest : Mem} {nx : Nat} {K : AV → Mem → Nat → Prop}
  (rid : Nat) (hpk : pickM [0, 1, rid] mem = bRM xs rid []) (hd : dropM [0, 1, rid] mem = rest)
  (hc0 : (nodM (bRM xs 2 []) && (nod2 [(0, 0), (1, 1), (rid, 2)] && valsLt 3 [(0, 0), (1, 1), (rid, 2)])) = true)
  (l0 : lk [(0, 0), (1, 1), (rid, 2)] rid = some 2) (hm : lk (bRM xs rid []) rid = some (.row 3 1 (Go.Ax.encI xs)))
  (hc : ∀ F' : List Int, (nodM (bRM F' nx []) && (nod2 [(0, 0), (1, 1), (3, nx)] && (Nat.ble nx (nx + 1) && (keysOr [0, 1, rid] nx (bRM F' nx []) && tauOK [(0, 0), (1, 1), (rid, 2)] 3 nx (nx + 1) [(0, 0), (1, 1), (3, nx)])))) = true)
  (hk : K (.bool true) (bRM (xs ++ [intW w]) nx [] ++ rest) (nx + 1)) :
  ACalls Tryz.prog [] YF [.yld 0, .int .u64 w] mem nx K := by
 refine ACalls.useN nnΓ [(0, 0), (1, 1), (rid, 2)] (bRound xs w hx) hpk (.cons (.yld 0 0 rfl) (.cons (.same _ nn) .nil))
  (bRM_conv (i0 := 0) (i1 := 1) (rid := rid) rfl rfl l0 rfl ⟨⟨_, rfl, .ptr 1 1 0 0 rfl⟩, trivial⟩ rfl rfl hm rfl trivial) hc0 ?_
 rintro r m k ⟨rfl, rfl, rfl⟩
 refine ⟨[(0, 0), (1, 1), (3, nx)], _, bRM (xs ++ [intW w]) nx [], nx + 1, .same _ nn, bRM_conv (i0 := 0) (i1 := 1) (rid := 3) rfl rfl rfl rfl ⟨⟨_, rfl, .ptr 1 1 0 0 rfl⟩, trivial⟩ rfl rfl rfl rfl trivial, hc _, ?_⟩
 rw [show keysS [(0, 0), (1, 1), (rid, 2)] = [0, 1, rid] from rfl, hd]
 exact hk
theorem bIt (b : List UInt8) (hb : b.length ≤ 4294967000) :
  ACalls Tryz.prog [] 93 [.yld 0, .ip (.il 1 (encB b))] (bRM [] 2 []) 3 fun r m k => r = .tup [] ∧ m = bRM ((wordsOf b).map intW) 3 [] ∧ k = 4 := by
 have nb : NN (.il 1 (encB b)) := .il' (encB_nn b)
 have nip : NN (.ip (.il 1 (encB b))) := .ip' nb
 have lb := encB_length b
 have lw := wordsOf_length b
 refine acalls_go nnΓ Tryz.func93 rfl ?_
 ((conv=>whnf);repeat(refine Xg ?_;conv=>whnf))
 refine ALoop.at nnΓ (fun k : Nat => k ≤ (wordsOf b).length)
  (fun k => ⟨[(0, .yld 0), (1, .ip (.il 1 (encB b))), (3, .int .i64 ((8 * k : Nat) : Int))], bRM (((wordsOf b).take k).map intW) 3 [], 4, 35⟩) (fun k => (wordsOf b).length - k) 0 [(0, 0), (1, 1), (2, 3)] (by omega)
  (conv_mk _ rfl (bRM_conv (i0 := 0) (i1 := 1) (rid := 2) rfl rfl rfl rfl ⟨⟨_, rfl, .ptr 1 1 0 0 rfl⟩, trivial⟩ rfl (by simp) rfl (by simp) trivial) ⟨⟨_, rfl, .yld 0 0 rfl⟩, ⟨_, rfl, .same _ nip⟩, ⟨_, rfl, .same _ nn⟩, trivial⟩) ?_
 intro k hk
 have d1 : decide (((8 * k : Nat) : Int) < ((encB b).length : Nat)) = decide (8 * k < b.length) := by rw [lb]; exact decide_eq_decide.2 (by omega)
 by_cases hlt : 8 * k < b.length
 ·have hm := min_eq b k (by omega) hlt
  have hh1 : 8 * k < hiN b k := by unfold hiN; omega
  have hh2 : hiN b k ≤ b.length := by unfold hiN; omega
  have hh3 : hiN b k ≤ 8 * k + 8 := by unfold hiN; omega
  have hwd : wordN ((b.drop (8 * k)).take 8) = wordN ((b.drop (8 * k)).take (hiN b k - 8 * k)) := by
   congr 1
   unfold hiN
   rw [List.take_eq_take_iff]
   simp
   omega
  have hnx := wordsOf_take hlt
  rw [hwd] at hnx
  have hkl : k < (wordsOf b).length := by omega
  have hfn : ((wordsOf b).take (k + 1)).map intW = ((wordsOf b).take k).map intW ++ [intW (wordN ((b.drop (8 * k)).take (hiN b k - 8 * k)))] := by rw [hnx, List.map_append]; rfl
  have hxl : (((wordsOf b).take k).map intW).length ≤ 4294967296 := by rw [List.length_map, List.length_take]; omega
  generalize hy : ((wordsOf b).take (k + 1)).map intW = y at *
  generalize ((wordsOf b).take k).map intW = xk at *
  generalize hiN b k = hi at *
  ((conv=>whnf);repeat(refine Xg ?_;conv=>whnf))
  rw [d1, decide_eq_true hlt]
  ((conv=>whnf);repeat(refine Xg ?_;conv=>whnf))
  rw [lb]
  ((conv=>whnf);repeat(refine Xg ?_;conv=>whnf))
  rw [hm]
  ((conv=>whnf);repeat(refine Xg ?_;conv=>whnf))
  refine ALoop.at nnΓ (fun j : Nat => 8 * k ≤ j ∧ j ≤ hi)
   (fun j => ⟨[(0, .yld 0), (1, .ip (.il 1 (encB b))), (3, .int .i64 ((8 * k : Nat) : Int)), (4, .int .u64 (wordN ((b.drop j).take (hi - j)) : Nat)), (5, .int .i64 ((j : Int) - 1))], bRM xk 3 [], 4, 35⟩) (fun j => j) hi [(0, 0), (1, 1), (3, 3)] (by omega)
   (conv_mk _ rfl (bRM_conv (i0 := 0) (i1 := 1) (rid := 3) rfl rfl rfl rfl ⟨⟨_, rfl, .ptr 1 1 0 0 rfl⟩, trivial⟩ rfl rfl rfl rfl trivial) ⟨⟨_, rfl, .yld 0 0 rfl⟩, ⟨_, rfl, .same _ nip⟩, ⟨_, rfl, .same _ nn⟩, ⟨_, rfl, .int (by simp [wordN])⟩, ⟨_, rfl, .same _ nn⟩, trivial⟩) ?_
  rintro j ⟨j1, j2⟩
  have d2 : decide (((j : Int) - 1) ≥ ((8 * k : Nat) : Int)) = decide (8 * k < j) := decide_eq_decide.2 (by omega)
  by_cases hj : 8 * k < j
  ·obtain ⟨j, rfl⟩ : ∃ q, j = q + 1 := ⟨j - 1, by omega⟩
   obtain ⟨hjb, hst⟩ := wordN_step (b := b) (k := j) (hi := hi) (by omega) hh2
   have hw7 : wordN ((b.drop (j + 1)).take (hi - (j + 1))) < 72057594037927936 := wordN_lt7 (by simp; omega)
   have e1 : (((j + 1 : Nat) : Int) - 1) = ((j : Nat) : Int) := by omega
   have ej : (encB b)[((j : Nat) : Int).toNat]? = some (.int .u8 (b[j].toNat : Int)) := by simp [encB, List.getElem?_eq_getElem hjb]
   have hb8 := b[j].toNat_lt
   have hu : IntKind.u64.wrap ((b[j].toNat : Nat) : Int) = ((b[j].toNat : Nat) : Int) := wrap_u64 (by omega) (by omega)
   have hs := word_go (x := b[j].toNat) (w := wordN ((b.drop (j + 1)).take (hi - (j + 1)))) (by omega) hw7
   rw [← hst] at hs
   generalize b[j] = bj at *
   generalize wordN ((b.drop (j + 1)).take (hi - (j + 1))) = w1 at *
   generalize hw0 : wordN ((b.drop j).take (hi - j)) = w0 at *
   ((conv=>whnf);repeat(refine Xg ?_;conv=>whnf))
   rw [d2, decide_eq_true hj]
   ((conv=>whnf);repeat(refine Xg ?_;conv=>whnf))
   rw [e1]
   ((conv=>whnf);repeat(refine Xg ?_;conv=>whnf))
   repeat ((first | refine opt_mk ej ?_ | refine setK_iff.2 ?_ | refine ⟨rfl, ?_⟩); ((conv=>whnf);repeat(refine Xg ?_;conv=>whnf)))
   exact .mk j [(0, 0), (1, 1), (3, 3)] (by omega) (conv_mk _ rfl (bRM_conv (i0 := 0) (i1 := 1) (rid := 3) rfl rfl rfl rfl ⟨⟨_, rfl, .ptr 1 1 0 0 rfl⟩, trivial⟩ rfl rfl rfl rfl trivial) ⟨⟨_, rfl, .yld 0 0 rfl⟩, ⟨_, rfl, .same _ nip⟩, ⟨_, rfl, .same _ nn⟩, ⟨_, rfl, .int (by rw [hu, hs, hw0])⟩, ⟨_, rfl, .w64 (by omega) ⟨by omega, by omega⟩⟩, trivial⟩) (by omega)
  ·have hje : j = 8 * k := by omega
   subst hje
   generalize wordN ((b.drop (8 * k)).take (hi - 8 * k)) = w0 at *
   have hyl : y.length = xk.length + 1 := by rw [hfn, List.length_append]; rfl
   ((conv=>whnf);repeat(refine Xg ?_;conv=>whnf))
   rw [d2, decide_eq_false hj]
   ((conv=>whnf);repeat(refine Xg ?_;conv=>whnf))
   refine b_use hxl 3 rfl rfl rfl rfl rfl (fun _ => rfl) ?_
   rw [← hfn]
   ((conv=>whnf);repeat(refine Xg ?_;conv=>whnf))
   exact .mk (k + 1) [(0, 0), (1, 1), (4, 3)] (by omega) (conv_mk _ rfl (bRM_conv (i0 := 0) (i1 := 1) (rid := 4) rfl rfl rfl rfl ⟨⟨_, rfl, .ptr 1 1 0 0 rfl⟩, trivial⟩ rfl (by rw [hy]) rfl (by rw [hy]) trivial) ⟨⟨_, rfl, .yld 0 0 rfl⟩, ⟨_, rfl, .same _ nip⟩, ⟨_, rfl, .w64 (by omega) ⟨by omega, by omega⟩⟩, trivial⟩) (by omega)
 ·have hke : k = (wordsOf b).length := by omega
  subst hke
  rw [List.take_length]
  generalize (wordsOf b).map intW = y
  ((conv=>whnf);repeat(refine Xg ?_;conv=>whnf))
  rw [d1, decide_eq_false hlt]
  ((conv=>whnf);repeat(refine Xg ?_;conv=>whnf))
  exact fin_mk (n' := 4) (m' := bRM y 3 []) [(0, 0), (1, 1), (3, 3)] rfl (bRM_conv (i0 := 0) (i1 := 1) (rid := 3) rfl rfl rfl rfl ⟨⟨_, rfl, .ptr 1 1 0 0 rfl⟩, trivial⟩ rfl rfl rfl rfl trivial) (.same _ (.tup' .nil)) ⟨rfl, rfl, rfl⟩
end Go.Proofs.YtelmpofoeinfoaaGreatDoor
namespace Go.Proofs
open Go.Shelf
def Tryz.lays129_ren : Go.Shelf.Ren := ⟨fun | 129 => 194 | n => n, fun | 53 => 42 | 3 => 3 | 4 => 4 | 46 => 153 | 5 => 5 | 9 => 9 | n => n, fun | n => n⟩
theorem Tryz.lays129 : Go.Proofs.Lays.n129 Tryz.prog Tryz.lays129_ren := {
 mixed := by kernel_rfl
 f129 := Tryz.func194.trans (congrArg some (by kernel_rfl))
 t3 := Tryz.underlying3
 a3 := Tryz.isAgg3
 z3 := Tryz.sizeOf3
 v3 := Tryz.zeroValue3
 t4 := Tryz.underlying4
 a4 := Tryz.isAgg4
 z4 := Tryz.sizeOf4
 v4 := Tryz.zeroValue4
 t5 := Tryz.underlying5
 a5 := Tryz.isAgg5
 z5 := Tryz.sizeOf5
 v5 := Tryz.zeroValue5
 t9 := Tryz.underlying9
 a9 := Tryz.isAgg9
 z9 := Tryz.sizeOf9
 v9 := Tryz.zeroValue9
 t46 := Tryz.underlying153
 a46 := Tryz.isAgg153
 z46 := Tryz.sizeOf153
 v46 := Tryz.zeroValue153
 t53 := Tryz.underlying42
 a53 := Tryz.isAgg42
 z53 := Tryz.sizeOf42
 v53 := Tryz.zeroValue42 }
theorem Tryz.bits_Len64 (x : Int) (w : World) (h0 : 0 ≤ x) (h1 : x ≤ 18446744073709551615) :
  Calls Tryz.prog 194 #[.int .u64 x] w fun e w' => e = .returned (.int .i64 (Lib.bitLen x.toNat)) ∧ w' = w := Any.bits_Len64 Tryz.lays129 x w h0 h1
def Tryz.lays317_ren : Go.Shelf.Ren := ⟨fun | 317 => 239 | n => n, fun | 3 => 3 | 46 => 153 | n => n, fun | n => n⟩
theorem Tryz.lays317 : Go.Proofs.Lays.n317 Tryz.prog Tryz.lays317_ren := {
 mixed := by kernel_rfl
 f317 := Tryz.func239.trans (congrArg some (by kernel_rfl))
 t3 := Tryz.underlying3
 a3 := Tryz.isAgg3
 z3 := Tryz.sizeOf3
 v3 := Tryz.zeroValue3
 t46 := Tryz.underlying153
 a46 := Tryz.isAgg153
 z46 := Tryz.sizeOf153
 v46 := Tryz.zeroValue153 }
open Go.Lib in
theorem Tryz.internal_strconv_log10Pow2 (x : Nat) (h : x ≤ 64) (w : World) :
  Calls Tryz.prog 239 #[.int .i64 x] w fun e w' => e = .returned (.int .i64 (Lib.l10 x)) ∧ w' = w := Any.internal_strconv_log10Pow2 Tryz.lays317 x h w
open Go.Lib in
def Tryz.lays283_ren : Go.Shelf.Ren := ⟨fun | 283 => 231 | n => n, fun | 3 => 3 | 9 => 9 | 4 => 4 | n => n, fun | n => n⟩
theorem Tryz.lays283 : Go.Proofs.Lays.n283 Tryz.prog Tryz.lays283_ren := {
 mixed := by kernel_rfl
 f283 := Tryz.func231.trans (congrArg some (by kernel_rfl))
 t3 := Tryz.underlying3
 a3 := Tryz.isAgg3
 z3 := Tryz.sizeOf3
 v3 := Tryz.zeroValue3
 t4 := Tryz.underlying4
 a4 := Tryz.isAgg4
 z4 := Tryz.sizeOf4
 v4 := Tryz.zeroValue4
 t9 := Tryz.underlying9
 a9 := Tryz.isAgg9
 z9 := Tryz.sizeOf9
 v9 := Tryz.zeroValue9 }
open Go.Lib in
theorem Tryz.internal_strconv_small (i : Nat) (h : i < 100) (w : World) :
  Calls Tryz.prog 231 #[.int .i64 i] w fun e w' => e = .returned (.string ⟨(Lib.decDigits i).toArray⟩) ∧ w' = w := Any.internal_strconv_small Tryz.lays283 i h w
def Tryz.lays285_ren : Go.Shelf.Ren := ⟨fun | 285 => 233 | n => n, fun | 37 => 39 | 53 => 42 | 3 => 3 | 4 => 4 | 51 => 238 | 9 => 9 | 5 => 5 | 0 => 0 | n => n, fun | n => n⟩
theorem Tryz.lays285 : Go.Proofs.Lays.n285 Tryz.prog Tryz.lays285_ren := {
 mixed := by kernel_rfl
 f285 := Tryz.func233.trans (congrArg some (by kernel_rfl))
 t0 := Tryz.underlying0
 a0 := Tryz.isAgg0
 z0 := Tryz.sizeOf0
 v0 := Tryz.zeroValue0
 t3 := Tryz.underlying3
 a3 := Tryz.isAgg3
 z3 := Tryz.sizeOf3
 v3 := Tryz.zeroValue3
 t4 := Tryz.underlying4
 a4 := Tryz.isAgg4
 z4 := Tryz.sizeOf4
 v4 := Tryz.zeroValue4
 t5 := Tryz.underlying5
 a5 := Tryz.isAgg5
 z5 := Tryz.sizeOf5
 v5 := Tryz.zeroValue5
 t9 := Tryz.underlying9
 a9 := Tryz.isAgg9
 z9 := Tryz.sizeOf9
 v9 := Tryz.zeroValue9
 t37 := Tryz.underlying39
 a37 := Tryz.isAgg39
 z37 := Tryz.sizeOf39
 v37 := Tryz.zeroValue39
 t51 := Tryz.underlying238
 a51 := Tryz.isAgg238
 z51 := Tryz.sizeOf238
 v51 := Tryz.zeroValue238
 t53 := Tryz.underlying42
 a53 := Tryz.isAgg42
 z53 := Tryz.sizeOf42
 v53 := Tryz.zeroValue42 }
open Go.RowKit Go.Sort Go.Lib in
theorem Tryz.internal_strconv_formatBase10 (blk off cap : Nat) (u : Nat) (d : Array UInt8) (w : World) (hH : Holds (fun (b : UInt8) => Value.int .u8 (b.toNat : Int)) w blk off d) (hu : u < 10 ^ d.size) (hu64 : u < 18446744073709551616) (hsz : d.size < 4611686018427387904) :
  Calls Tryz.prog 233 #[.slice (some ⟨blk, off, none⟩) d.size cap, .int .u64 u] w fun e w' =>
   e = .returned (.tuple #[]) ∧ ∃ (n v' : Nat) (dk : Array UInt8), w' = (putRow (fun (b : UInt8) => Value.int .u8 (b.toNat : Int)) w blk off dk).drewN n ∧ FmtInv d.size u 0 v' dk := Any.internal_strconv_formatBase10 Tryz.lays285 blk off cap u d w hH hu hu64 hsz
end Go.Proofs
namespace Go.Proofs.YtelmpofoeinfoaaGreatDoor
open Go Go.Ax Go.Proofs
set_option maxRecDepth 1000000
def saysTrue (r : AV) : Prop := match r with | .bool b => (match b with | true => True | false => False) | _ => False
theorem saysTrue_eq {r : AV} (h : saysTrue r) : r = .bool true := by
 unfold saysTrue at h
 split at h
 ·split at h
  ·rfl
  ·exact h.elim
 ·exact h.elim
set_option maxRecDepth 1000000
def gz : List (Nat × AV) := [(0, .ifc 282 (.ip (.agg []))), (1, .ifc 282 (.ip (.agg []))), (2, .agg ([.int .u64 1, .int .u64 10, .int .u64 100, .int .u64 1000, .int .u64 10000, .int .u64 100000, .int .u64 1000000, .int .u64 10000000, .int .u64 100000000, .int .u64 1000000000, .int .u64 10000000000, .int .u64 100000000000, .int .u64 1000000000000, .int .u64 10000000000000, .int .u64 100000000000000, .int .u64 1000000000000000, .int .u64 10000000000000000, .int .u64 100000000000000000, .int .u64 1000000000000000000, .int .u64 10000000000000000000]))]
set_option maxRecDepth 100000
set_option maxHeartbeats 4000000
theorem nngz : ∀ p ∈ gz, NN p.2 := fun p hp => by
 simp only [gz, List.mem_cons, List.not_mem_nil, or_false] at hp
 rcases hp with rfl | rfl | rfl
 ·exact nn
 ·exact nn
 ·exact nn
theorem sLen64 (u : Nat) (h : u < 18446744073709551616) : PureC Tryz.prog [] 194 [.int .u64 u] (.int .i64 (Lib.bitLen u)) :=
 pureC_of (fun _ _ _ _ _ h => vrl_int h) fun w _ => (Tryz.bits_Len64 u w (by omega) (by omega)).mono fun e w' ⟨h1, h2⟩ => ⟨_, h1, fun _ _ _ _ => .int _ _, by rw [h2]; exact .refl w⟩
theorem sLog10 (x : Nat) (h : x ≤ 64) : PureC Tryz.prog [] 239 [.int .i64 x] (.int .i64 (Lib.l10 x)) :=
 pureC_of (fun _ _ _ _ _ h => vrl_int h) fun w _ => (Tryz.internal_strconv_log10Pow2 x h w).mono fun e w' ⟨h1, h2⟩ => ⟨_, h1, fun _ _ _ _ => .int _ _, by rw [h2]; exact .refl w⟩
theorem sSmall (i : Nat) (h : i < 100) : PureC Tryz.prog [] 231 [.int .i64 i] (.str (Lib.decDigits i)) :=
 pureC_of (fun _ _ _ _ _ h => vrl_int h) fun w _ => (Tryz.internal_strconv_small i h w).mono fun e w' ⟨h1, h2⟩ => ⟨_, h1, fun _ _ _ _ => .str _, by rw [h2]; exact .refl w⟩
theorem sBool2 (b : Bool) : PureC Tryz.prog [] 240 [.bool b] (.int .i64 (if b then 1 else 0)) := by
 cases b
 all_goals
  refine acalls_go nnΓ Tryz.func240 rfl ?_
  ((conv=>whnf);repeat(refine Xg ?_;conv=>whnf))
  exact fin_pure nn ⟨rfl, rfl, rfl⟩
theorem sFmt10 (t : TypeId) (xs : List UInt8) (u : Nat) (hu64 : u < 18446744073709551616) (hlen : 1 + Lib.nDigits u ≤ xs.length) (hxl : xs.length ≤ 1000) :
  ACalls Tryz.prog [] 233 [.sl 0 1 (Lib.nDigits u), .int .u64 u] [(0, .row t 1 (encB xs))] 1 fun r m n => r = .tup [] ∧ m = [(0, .row t 1 (encB (xs.take 1 ++ Lib.decDigits u ++ xs.drop (1 + Lib.nDigits u))))] :=
 fmt10 Tryz.internal_strconv_formatBase10 xs u hu64 hlen hxl
def tabP : List AV := [.int .u64 1, .int .u64 10, .int .u64 100, .int .u64 1000, .int .u64 10000, .int .u64 100000, .int .u64 1000000, .int .u64 10000000, .int .u64 100000000, .int .u64 1000000000, .int .u64 10000000000, .int .u64 100000000000, .int .u64 1000000000000, .int .u64 10000000000000, .int .u64 100000000000000, .int .u64 1000000000000000, .int .u64 10000000000000000, .int .u64 100000000000000000, .int .u64 1000000000000000000, .int .u64 10000000000000000000]
theorem tab_at (q : Nat) (h : q ≤ 19) : tabP[q]? = some (.int .u64 ((10 ^ q : Nat) : Int)) := by
 rcases (show q = 0 ∨ q = 1 ∨ q = 2 ∨ q = 3 ∨ q = 4 ∨ q = 5 ∨ q = 6 ∨ q = 7 ∨ q = 8 ∨ q = 9 ∨ q = 10 ∨ q = 11 ∨ q = 12 ∨ q = 13 ∨ q = 14 ∨ q = 15 ∨ q = 16 ∨ q = 17 ∨ q = 18 ∨ q = 19 by omega) with rfl | rfl | rfl | rfl | rfl | rfl | rfl | rfl | rfl | rfl | rfl | rfl | rfl | rfl | rfl | rfl | rfl | rfl | rfl | rfl <;> rfl
theorem sNumDigits (u : Nat) (h1 : 1 ≤ u) (h2 : u < 18446744073709551616) : PureC Tryz.prog gz 232 [.int .u64 u] (.int .i64 (Lib.nDigits u)) := by
 obtain ⟨e1, e2⟩ := Lib.numDigits_eq u h1 h2
 have hL := sLen64 u h2
 have hb : Lib.bitLen u ≤ 64 := Lib.bitLen_le u 64 (Nat.le_refl _) h2
 generalize Lib.bitLen u = L at *
 have hq := sLog10 L hb
 generalize Lib.l10 L = q at *
 generalize Lib.nDigits u = nd at *
 have htab := tab_at q e2
 refine acalls_go nngz Tryz.func232 rfl ?_
 ((conv=>whnf);repeat(refine Xg ?_;conv=>whnf))
 refine hL.goG ?_
 ((conv=>whnf);repeat(refine Xg ?_;conv=>whnf))
 refine hq.goG ?_
 ((conv=>whnf);repeat(refine Xg ?_;conv=>whnf))
 refine grd_mk (b := Nat.blt q 20) (Nat.ble_eq_true_of_le (by omega)) ?_
 ((conv=>whnf);repeat(refine Xg ?_;conv=>whnf))
 have htab' : tabP[((q : Int)).toNat * 1]? = some (.int .u64 ((10 ^ q : Nat) : Int)) := by simpa using htab
 clear htab
 have hpq : ∃ pq : Int, pq = ((10 ^ q : Nat) : Int) := ⟨_, rfl⟩
 obtain ⟨pq, hpq⟩ := hpq
 rw [← hpq] at htab'
 refine opt_mk htab' ?_
 ((conv=>whnf);repeat(refine Xg ?_;conv=>whnf))
 refine (sBool2 _).goG ?_
 ((conv=>whnf);repeat(refine Xg ?_;conv=>whnf))
 refine fin_pure nn ⟨?_, rfl, rfl⟩
 congr 1
 have hle : decide ((u : Int) ≥ pq) = decide (10 ^ q ≤ u) := by rw [hpq]; simp only [ge_iff_le, Int.ofNat_le]
 have hnd : nd ≤ 20 := by rw [← e1]; split <;> omega
 rw [hle, w64 (y := (nd : Int)) _ ⟨by omega, by omega⟩]
 rw [← e1]
 by_cases hc : 10 ^ q ≤ u <;> simp [hc]
theorem nDigits_le (u : Nat) (h2 : u < 18446744073709551616) : Lib.nDigits u ≤ 20 := by
 by_cases h1 : 1 ≤ u
 ·obtain ⟨e1, e2⟩ := Lib.numDigits_eq u h1 h2
  rw [← e1]
  split <;> omega
 ·rw [Lib.nDigits_small (by omega)]; omega
theorem u64_wrap (n : Int) : IntKind.u64.wrap n = n % 18446744073709551616 := by
 simp [IntKind.wrap, IntKind.bits, IntKind.signed]
theorem sFormatInt (n : Int) (hn : i64 n) : PureC Tryz.prog gz 216 [.int .i64 n, .int .i64 10] (.str (Lib.itoa n)) := by
 rcases (show (0 ≤ n ∧ n < 100) ∨ 100 ≤ n ∨ n < 0 by omega) with ⟨h0, h1⟩ | h1 | h1
 ·obtain ⟨i, rfl⟩ : ∃ i : Nat, n = i := ⟨n.toNat, by omega⟩
  have d2 : decide ((i : Int) < 100) = true := by simpa using h1
  refine acalls_go nngz Tryz.func216 rfl ?_
  ((conv=>whnf);repeat(refine Xg ?_;conv=>whnf))
  rw [d2]
  ((conv=>whnf);repeat(refine Xg ?_;conv=>whnf))
  refine (sSmall i (by omega)).goG ?_
  ((conv=>whnf);repeat(refine Xg ?_;conv=>whnf))
  refine fin_pure nn ⟨?_, rfl, rfl⟩
  rw [Lib.itoa_nonneg]
 ·obtain ⟨u, rfl⟩ : ∃ i : Nat, n = i := ⟨n.toNat, by omega⟩
  have d2 : decide ((u : Int) < 100) = false := by simp; omega
  have d3 : decide ((u : Int) < 0) = false := by simp
  unfold i64 at hn
  have hw : IntKind.u64.wrap (u : Int) = (u : Int) := by rw [u64_wrap]; omega
  have hu64 : u < 18446744073709551616 := by omega
  have hnd := nDigits_le u hu64
  have hF := (sFmt10 272 (List.replicate 24 0) u hu64 (by simp; omega) (by simp)).glob (Γ := gz)
  have hdl := Lib.decDigits_length u
  have hN := sNumDigits u (by omega) hu64
  have hdd : (Lib.decDigits u ++ List.drop (1 + Lib.nDigits u) (List.replicate 24 0)).length = 23 := by simp [hdl]; omega
  have hit := Lib.itoa_nonneg u
  generalize Lib.nDigits u = nd at hN hF hnd hdl hdd
  generalize Lib.decDigits u = ds at hF hdl hit hdd
  refine acalls_go nngz Tryz.func216 rfl ?_
  ((conv=>whnf);repeat(refine Xg ?_;conv=>whnf))
  rw [d2]
  ((conv=>whnf);repeat(refine Xg ?_;conv=>whnf))
  rw [hw]
  refine hN.use nngz nns nn ?_
  ((conv=>whnf);repeat(refine Xg ?_;conv=>whnf))
  rw [w64 (x := 1 + (nd : Int)) (y := ((1 + nd : Nat) : Int)) (by omega) ⟨by omega, by omega⟩]
  ((conv=>whnf);repeat(refine Xg ?_;conv=>whnf))
  refine grd_mk (sl_ok (by simp; omega) (by simp; omega) (by simp)) ?_
  ((conv=>whnf);repeat(refine Xg ?_;conv=>whnf))
  refine ACalls.useI nngz [0] hF (by rfl) (.cons (.slE rfl (by simp; omega)) (.cons (.same _ nn) .nil)) ⟨⟨0, _, rfl, rfl, .same (encB_nn _)⟩, trivial⟩ rfl ?_
  rintro r m n' ⟨rfl, rfl⟩
  refine ⟨nn, ⟨⟨0, _, rfl, rfl, .same (encB_nn _)⟩, trivial⟩, rfl, ?_⟩
  have hlist : List.take 1 (List.replicate 24 (0 : UInt8)) ++ ds ++ List.drop (1 + nd) (List.replicate 24 0) = 0 :: (ds ++ List.drop (1 + nd) (List.replicate 24 0)) := rfl
  rw [hlist]
  have htk : List.take nd (ds ++ List.drop (1 + nd) (List.replicate 24 0)) = ds := by rw [List.take_append_of_le_length (by omega), List.take_of_length_le (by omega)]
  generalize ds ++ List.drop (1 + nd) (List.replicate 24 0) = rest at hdd htk
  have hrl : (encB (0 :: rest)).length = 24 := by rw [encB_length]; simp [hdd]
  ((conv=>whnf);repeat(refine Xg ?_;conv=>whnf))
  refine grd_mk (by rw [Bool.and_eq_true]; exact ⟨rfl, Nat.ble_eq_true_of_le (by rw [hrl]; omega)⟩) ?_
  ((conv=>whnf);repeat(refine Xg ?_;conv=>whnf))
  rw [w64 (x := 1 + (nd : Int)) (y := ((1 + nd : Nat) : Int)) (by omega) ⟨by omega, by omega⟩]
  ((conv=>whnf);repeat(refine Xg ?_;conv=>whnf))
  refine grd_mk (sl_ok (by simp; omega) (by simp; omega) (by simp)) ?_
  ((conv=>whnf);repeat(refine Xg ?_;conv=>whnf))
  refine grd_mk (Nat.ble_eq_true_of_le (by rw [hrl]; simp; omega)) ?_
  refine opt_mk (a := ds) ?_ ?_
  ·rw [encB_drop, encB_take, toBytes_encB]
   show some (List.take ((((1 + nd : Nat) : Int)).toNat - 1) rest) = some ds
   rw [← htk]
   congr 2
   simp
   omega
  ((conv=>whnf);repeat(refine Xg ?_;conv=>whnf))
  refine fin_pure nn ⟨?_, rfl, rfl⟩
  rw [hit]
 ·obtain ⟨u, rfl⟩ : ∃ i : Nat, n = -(i : Int) := ⟨(-n).toNat, by omega⟩
  have d1 : decide (0 ≤ -(u : Int)) = false := by simp; omega
  have d3 : decide (-(u : Int) < 0) = true := by simp; omega
  unfold i64 at hn
  have hw : IntKind.u64.wrap (0 - IntKind.u64.wrap (-(u : Int))) = (u : Int) := by rw [u64_wrap, u64_wrap]; omega
  have hu64 : u < 18446744073709551616 := by omega
  have hnd := nDigits_le u hu64
  have hF := (sFmt10 272 (List.replicate 24 0) u hu64 (by simp; omega) (by simp)).glob (Γ := gz)
  have hdl := Lib.decDigits_length u
  have hN := sNumDigits u (by omega) hu64
  have hdd : (Lib.decDigits u ++ List.drop (1 + Lib.nDigits u) (List.replicate 24 0)).length = 23 := by simp [hdl]; omega
  have hit := Lib.itoa_neg u (by omega)
  generalize Lib.nDigits u = nd at hN hF hnd hdl hdd
  generalize Lib.decDigits u = ds at hF hdl hit hdd
  refine acalls_go nngz Tryz.func216 rfl ?_
  ((conv=>whnf);repeat(refine Xg ?_;conv=>whnf))
  rw [d1]
  ((conv=>whnf);repeat(refine Xg ?_;conv=>whnf))
  rw [d3]
  ((conv=>whnf);repeat(refine Xg ?_;conv=>whnf))
  rw [hw]
  refine hN.use nngz nns nn ?_
  ((conv=>whnf);repeat(refine Xg ?_;conv=>whnf))
  rw [w64 (x := 1 + (nd : Int)) (y := ((1 + nd : Nat) : Int)) (by omega) ⟨by omega, by omega⟩]
  ((conv=>whnf);repeat(refine Xg ?_;conv=>whnf))
  refine grd_mk (sl_ok (by simp; omega) (by simp; omega) (by simp)) ?_
  ((conv=>whnf);repeat(refine Xg ?_;conv=>whnf))
  refine ACalls.useI nngz [0] hF (by rfl) (.cons (.slE rfl (by simp; omega)) (.cons (.same _ nn) .nil)) ⟨⟨0, _, rfl, rfl, .same (encB_nn _)⟩, trivial⟩ rfl ?_
  rintro r m n' ⟨rfl, rfl⟩
  refine ⟨nn, ⟨⟨0, _, rfl, rfl, .same (encB_nn _)⟩, trivial⟩, rfl, ?_⟩
  have hlist : List.take 1 (List.replicate 24 (0 : UInt8)) ++ ds ++ List.drop (1 + nd) (List.replicate 24 0) = 0 :: (ds ++ List.drop (1 + nd) (List.replicate 24 0)) := rfl
  rw [hlist]
  have htk : List.take nd (ds ++ List.drop (1 + nd) (List.replicate 24 0)) = ds := by rw [List.take_append_of_le_length (by omega), List.take_of_length_le (by omega)]
  generalize ds ++ List.drop (1 + nd) (List.replicate 24 0) = rest at hdd htk
  have hrl : ∀ b, (encB (b :: rest)).length = 24 := fun b => by rw [encB_length]; simp [hdd]
  ((conv=>whnf);repeat(refine Xg ?_;conv=>whnf))
  rw [d3]
  ((conv=>whnf);repeat(refine Xg ?_;conv=>whnf))
  refine grd_mk (by rw [Bool.and_eq_true]; exact ⟨rfl, Nat.ble_eq_true_of_le (Nat.le_of_eq (hrl 45).symm)⟩) ?_
  ((conv=>whnf);repeat(refine Xg ?_;conv=>whnf))
  rw [w64 (x := 1 + (nd : Int)) (y := ((1 + nd : Nat) : Int)) (by omega) ⟨by omega, by omega⟩]
  ((conv=>whnf);repeat(refine Xg ?_;conv=>whnf))
  refine grd_mk (sl_ok (by simp) (by simp; omega) (by simp)) ?_
  ((conv=>whnf);repeat(refine Xg ?_;conv=>whnf))
  refine grd_mk (Nat.ble_eq_true_of_le (show _ ≤ (encB (45 :: rest)).length by rw [hrl]; simp; omega)) ?_
  refine opt_mk (a := 45 :: ds) (show toBytes (List.take ((((1 + nd : Nat) : Int)).toNat - 0) (List.drop (0 + 0) (encB (45 :: rest)))) = _ from ?_) ?_
  ·rw [encB_drop, encB_take, toBytes_encB]
   have e : (((1 + nd : Nat) : Int)).toNat - 0 = nd + 1 := by simp; omega
   rw [e]
   show some (45 :: List.take nd rest) = _
   rw [htk]
  ((conv=>whnf);repeat(refine Xg ?_;conv=>whnf))
  refine fin_pure nn ⟨?_, rfl, rfl⟩
  rw [hit]
theorem sItoaI (n : Int) (hn : i64 n) : PureC Tryz.prog gz 184 [.int .i64 n] (.str (Lib.itoa n)) := by
 have h := sFormatInt n hn
 generalize Lib.itoa n = r at h
 refine acalls_go nngz Tryz.func184 rfl ?_
 ((conv=>whnf);repeat(refine Xg ?_;conv=>whnf))
 refine h.use nngz nns nn ?_
 ((conv=>whnf);repeat(refine Xg ?_;conv=>whnf))
 exact fin_pure nn ⟨rfl, rfl, rfl⟩
theorem sItoa (n : Int) (hn : i64 n) : PureC Tryz.prog gz 153 [.int .i64 n] (.str (Lib.itoa n)) := by
 have h := sItoaI n hn
 generalize Lib.itoa n = r at h
 refine acalls_go nngz Tryz.func153 rfl ?_
 ((conv=>whnf);repeat(refine Xg ?_;conv=>whnf))
 refine h.use nngz nns nn ?_
 ((conv=>whnf);repeat(refine Xg ?_;conv=>whnf))
 exact fin_pure nn ⟨rfl, rfl, rfl⟩
set_option maxRecDepth 100000
set_option maxHeartbeats 4000000
def adr : Bool → AV
 | true => .ptr 0 0 0
 | false => .nptr
abbrev bC (a : AV) (id n : Nat) : AB := .row 95 2 [.agg [a, .sl id 0 n]]
abbrev bM (a : Bool) (s : List UInt8) : Mem := [(0, bC (adr a) 1 s.length), (1, .row 5 1 (encB s))]
def bN (s : List UInt8) (m : Mem) (n : Nat) : Prop := m = [(0, bC (.ptr 0 0 0) 2 s.length), (2, .row 5 1 (encB s))] ∧ n = 3
theorem bC_cv {mem : Mem} {σ : List (Nat × Nat)} {a : Bool} {i j n : Nat} (h0 : lk σ 0 = some 0) (h1 : lk σ i = some j) : CvR mem σ [.agg [adr a, .sl i 0 n]] [.agg [adr a, .sl j 0 n]] :=
 .cons (.agg (.cons (by cases a; exact .same _ nn; exact .ptr 0 0 0 0 h0) (.cons (.sl i j 0 n h1) .nil))) .nil
theorem bFrom (s : List UInt8) : aFromU Tryz.prog (bM false s) .unsafePointer 93 (.ptr 0 0 0) = some (.ptr 0 0 0) := by kernel_rfl
theorem bCheck (a : Bool) (s : List UInt8) : ACalls Tryz.prog [] 222 [.ptr 0 0 0] (bM a s) 2 fun r m n => r = .tup [] ∧ m = bM true s ∧ n = 2 := by
 refine acalls_go nnΓ Tryz.func222 rfl ?_
 cases a with
 | false =>
  ((conv=>whnf);repeat(refine Xg ?_;conv=>whnf))
  rw [bFrom]
  ((conv=>whnf);repeat(refine Xg ?_;conv=>whnf))
  exact fin_mk (r' := .tup []) (m' := bM true s) (n' := 2) [(0, 0), (1, 1)] rfl ⟨⟨0, _, rfl, rfl, bC_cv (a := true) rfl rfl⟩, ⟨1, _, rfl, rfl, .same (encB_nn _)⟩, trivial⟩ (.same _ nn) ⟨rfl, rfl, rfl⟩
 | true =>
  ((conv=>whnf);repeat(refine Xg ?_;conv=>whnf))
  exact fin_mk (r' := .tup []) (m' := bM true s) (n' := 2) [(0, 0), (1, 1)] rfl ⟨⟨0, _, rfl, rfl, bC_cv (a := true) rfl rfl⟩, ⟨1, _, rfl, rfl, .same (encB_nn _)⟩, trivial⟩ (.same _ nn) ⟨rfl, rfl, rfl⟩
theorem bString (a : Bool) (s w : List UInt8) (hs : s.length + w.length ≤ 100000000) : ACalls Tryz.prog [] 195 [.ptr 0 0 0, .str w] (bM a s) 2 fun r m n => r = .tup [.int .i64 w.length, .nif] ∧ bN (s ++ w) m n := by
 refine acalls_go nnΓ Tryz.func195 rfl ?_
 ((conv=>whnf);repeat(refine Xg ?_;conv=>whnf))
 refine ACalls.useI nnΓ [0, 1] (bCheck a s) rfl (.cons (.ptr 0 0 0 0 rfl) .nil) ⟨⟨0, _, rfl, rfl, bC_cv rfl rfl⟩, ⟨1, _, rfl, rfl, .same (encB_nn _)⟩, trivial⟩ rfl ?_
 rintro r m n ⟨rfl, rfl, rfl⟩
 refine ⟨nn, ⟨⟨0, _, rfl, rfl, bC_cv (a := true) rfl rfl⟩, ⟨1, _, rfl, rfl, .same (encB_nn _)⟩, trivial⟩, rfl, ?_⟩
 ((conv=>whnf);repeat(refine Xg ?_;conv=>whnf))
 have e : List.map (fun b : UInt8 => AV.int IntKind.u8 (b.toNat : Int)) w = encB w := rfl
 rw [e]
 refine grd_mk (app_ok rfl rfl (encB_length _).symm (by rw [encB_length]; omega)) ?_
 ((conv=>whnf);repeat(refine Xg ?_;conv=>whnf))
 exact fin_mk (r' := .tup [.int .i64 w.length, .nif]) (m' := [(0, bC (.ptr 0 0 0) 2 (s ++ w).length), (2, .row 5 1 (encB (s ++ w)))]) (n' := 3) [(0, 0), (2, 2)] rfl
  ⟨⟨0, _, rfl, rfl, .cons (.agg (.cons (.ptr 0 0 0 0 rfl) (.cons (.slE rfl (by rw [encB_length, List.length_append])) .nil))) .nil⟩, ⟨2, _, rfl, rfl, .eq (encB_nn _) (encB_append _ _).symm⟩, trivial⟩ (.same _ nn) ⟨rfl, rfl, rfl⟩
theorem bByte (a : Bool) (s : List UInt8) (c : UInt8) (hs : s.length ≤ 100000000) : ACalls Tryz.prog [] 197 [.ptr 0 0 0, .int .u8 c.toNat] (bM a s) 2 fun r m n => r = .nif ∧ bN (s ++ [c]) m n := by
 refine acalls_go nnΓ Tryz.func197 rfl ?_
 ((conv=>whnf);repeat(refine Xg ?_;conv=>whnf))
 refine ACalls.useI nnΓ [0, 1] (bCheck a s) rfl (.cons (.ptr 0 0 0 0 rfl) .nil) ⟨⟨0, _, rfl, rfl, bC_cv rfl rfl⟩, ⟨1, _, rfl, rfl, .same (encB_nn _)⟩, trivial⟩ rfl ?_
 rintro r m n ⟨rfl, rfl, rfl⟩
 refine ⟨nn, ⟨⟨0, _, rfl, rfl, bC_cv (a := true) rfl rfl⟩, ⟨1, _, rfl, rfl, .same (encB_nn _)⟩, trivial⟩, rfl, ?_⟩
 ((conv=>whnf);repeat(refine Xg ?_;conv=>whnf))
 refine grd_mk (app_ok rfl rfl (encB_length _).symm (by simp; omega)) ?_
 ((conv=>whnf);repeat(refine Xg ?_;conv=>whnf))
 exact fin_mk (r' := .nif) (m' := [(0, bC (.ptr 0 0 0) 2 (s ++ [c]).length), (2, .row 5 1 (encB (s ++ [c])))]) (n' := 3) [(0, 0), (3, 2)] rfl
  ⟨⟨0, _, rfl, rfl, .cons (.agg (.cons (.ptr 0 0 0 0 rfl) (.cons (.slE rfl (by simp)) .nil))) .nil⟩, ⟨3, _, rfl, rfl, .eq (encB_nn _) (by rw [encB_append]; rfl)⟩, trivial⟩ (.same _ nn) ⟨rfl, rfl, rfl⟩
theorem lk_pickM {ids : List Nat} {k : Nat} (hk : inL k ids = true) : ∀ (m : Mem), lk (pickM ids m) k = lk m k
 | [] => rfl
 | (j, b) :: r => by
  simp only [pickM, lk]
  split
  ·simp only [lk, lk_pickM hk r]
  ·rename_i h
   rw [lk_pickM hk r]
   split
   ·rename_i e
    rw [Nat.eq_of_beq_eq_true e, hk] at h
    cases h
   ·rfl
theorem bUse {Γ : List (Nat × AV)} {F : FuncId} {aa : List AV} {a : Bool} {s s' : List UInt8} {rv : AV} {mem : Mem} {nx : Nat} {K : AV → Mem → Nat → Prop} (i : Nat) (hΓ : ∀ p ∈ Γ, NN p.2)
  (h : ACalls Tryz.prog Γ F (.ptr 0 0 0 :: aa) (bM a s) 2 fun r m n => r = rv ∧ bN s' m n) (h0 : lk mem 0 = some (bC (adr a) i s.length)) (h1 : lk mem i = some (.row 5 1 (encB s))) (hi : Nat.blt 0 i = true) (hin : Nat.blt i nx = true)
  (hk : K rv ((0, bC (.ptr 0 0 0) nx s'.length) :: (nx, .row 5 1 (encB s')) :: dropM [0, i] mem) (nx + 1)) (ha : NNs aa := by exact nns) (hr : NN rv := by exact nn) : ACalls Tryz.prog Γ F (.ptr 0 0 0 :: aa) mem nx K := by
 have hi := Nat.le_of_ble_eq_true hi
 have hin := Nat.le_of_ble_eq_true hin
 have e0 : Nat.beq 0 i = false := nbeq_ne (by omega)
 have k0 : inL 0 [0, i] = true := rfl
 have ki : inL i [0, i] = true := by simp [inL, e0]
 have s0 : lk [(0, 0), (i, 1)] 0 = some 0 := rfl
 have si : lk [(0, 0), (i, 1)] i = some 1 := by simp [lk, e0]
 refine ACalls.useN hΓ [(0, 0), (i, 1)] h rfl (.cons (.ptr 0 0 0 0 rfl) (.same ha)) ⟨⟨0, _, s0, by rw [← h0]; exact lk_pickM k0 mem, bC_cv s0 si⟩, ⟨i, _, si, by rw [← h1]; exact lk_pickM ki mem, .same (encB_nn _)⟩, trivial⟩ rfl ?_
 rintro r m n ⟨rfl, rfl, rfl⟩
 refine ⟨[(0, 0), (2, nx)], _, [(0, bC (.ptr 0 0 0) nx s'.length), (nx, .row 5 1 (encB s'))], nx + 1, .same _ hr, ⟨⟨0, _, rfl, rfl, bC_cv (a := true) rfl rfl⟩, ⟨2, _, rfl, rfl, .same (encB_nn _)⟩, trivial⟩, ?_, hk⟩
 have e1 : Nat.beq nx 0 = false := nbeq_ne (by omega)
 have e2 : Nat.ble nx 0 = false := by
  cases e : Nat.ble nx 0 with
  | false => rfl
  | true => have := Nat.le_of_ble_eq_true e; omega
 have e3 : Nat.ble nx nx = true := Nat.ble_eq_true_of_le (Nat.le_refl _)
 have e4 : Nat.ble nx (nx + 1) = true := Nat.ble_eq_true_of_le (by omega)
 have e5 : Nat.blt nx (nx + 1) = true := Nat.ble_eq_true_of_le (by omega)
 have e6 : Nat.blt 0 2 = true := rfl
 have e7 : Nat.blt 2 2 = false := rfl
 simp only [nodM, keyOut, nod2, notIn, keysOr, keysS, tauOK, e1, e2, e3, e4, e5, e6, e7, k0, s0]
 rfl
theorem sFormatBoolI (b : Bool) : PureC Tryz.prog [] 223 [.bool b] (.str (if b = true then tTrue else tFalse)) := by
 cases b
 all_goals
  refine acalls_go nnΓ Tryz.func223 rfl ?_
  ((conv=>whnf);repeat(refine Xg ?_;conv=>whnf))
  exact fin_pure nn ⟨rfl, rfl, rfl⟩
theorem sFormatBool (b : Bool) : PureC Tryz.prog [] 196 [.bool b] (.str (if b = true then tTrue else tFalse)) := by
 have h := sFormatBoolI b
 generalize (if b = true then tTrue else tFalse) = t at h ⊢
 refine acalls_go nnΓ Tryz.func196 rfl ?_
 ((conv=>whnf);repeat(refine Xg ?_;conv=>whnf))
 refine h.go ?_
 ((conv=>whnf);repeat(refine Xg ?_;conv=>whnf))
 exact fin_pure nn ⟨rfl, rfl, rfl⟩
set_option maxRecDepth 100000
set_option maxHeartbeats 4000000
abbrev wC (id n : Nat) : AB := .row 80 1 [.agg [.sl id 0 n]]
abbrev wM (s : List UInt8) : Mem := [(0, wC 1 s.length), (1, .row 5 1 (encB s))]
def wN (s : List UInt8) (m : Mem) (n : Nat) : Prop := m = [(0, wC 2 s.length), (2, .row 5 1 (encB s))] ∧ n = 3
def WxQ (s : List UInt8) (r : AV) (m : Mem) (n : Nat) : Prop := r = .tup [] ∧ wN s m n
theorem wC_cv {mem : Mem} {σ : List (Nat × Nat)} {i j n n' : Nat} (h1 : lk σ i = some j) (h : n = n') : CvR mem σ [.agg [.sl i 0 n]] [.agg [.sl j 0 n']] :=
 .cons (.agg (.cons (.slE h1 h) .nil)) .nil
theorem wUse {Γ : List (Nat × AV)} {F : FuncId} {aa : List AV} {s s' : List UInt8} {rv : AV} {mem : Mem} {nx : Nat} {K : AV → Mem → Nat → Prop} (i : Nat) (hΓ : ∀ p ∈ Γ, NN p.2)
  (h : ACalls Tryz.prog Γ F (.ptr 0 0 0 :: aa) (wM s) 2 fun r m n => r = rv ∧ wN s' m n) (h0 : lk mem 0 = some (wC i s.length)) (h1 : lk mem i = some (.row 5 1 (encB s))) (hi : Nat.blt 0 i = true) (hin : Nat.blt i nx = true)
  (hk : K rv ((0, wC nx s'.length) :: (nx, .row 5 1 (encB s')) :: dropM [0, i] mem) (nx + 1)) (ha : NNs aa := by exact nns) (hr : NN rv := by exact nn) : ACalls Tryz.prog Γ F (.ptr 0 0 0 :: aa) mem nx K := by
 have hi := Nat.le_of_ble_eq_true hi
 have hin := Nat.le_of_ble_eq_true hin
 have e0 : Nat.beq 0 i = false := nbeq_ne (by omega)
 have k0 : inL 0 [0, i] = true := rfl
 have ki : inL i [0, i] = true := by simp [inL, e0]
 have s0 : lk [(0, 0), (i, 1)] 0 = some 0 := rfl
 have si : lk [(0, 0), (i, 1)] i = some 1 := by simp [lk, e0]
 refine ACalls.useN hΓ [(0, 0), (i, 1)] h rfl (.cons (.ptr 0 0 0 0 rfl) (.same ha)) ⟨⟨0, _, s0, by rw [← h0]; exact lk_pickM k0 mem, wC_cv si rfl⟩, ⟨i, _, si, by rw [← h1]; exact lk_pickM ki mem, .same (encB_nn _)⟩, trivial⟩ rfl ?_
 rintro r m n ⟨rfl, rfl, rfl⟩
 refine ⟨[(0, 0), (2, nx)], _, [(0, wC nx s'.length), (nx, .row 5 1 (encB s'))], nx + 1, .same _ hr, ⟨⟨0, _, rfl, rfl, wC_cv rfl rfl⟩, ⟨2, _, rfl, rfl, .same (encB_nn _)⟩, trivial⟩, ?_, hk⟩
 have e1 : Nat.beq nx 0 = false := nbeq_ne (by omega)
 have e2 : Nat.ble nx 0 = false := by
  cases e : Nat.ble nx 0 with
  | false => rfl
  | true => have := Nat.le_of_ble_eq_true e; omega
 have e3 : Nat.ble nx nx = true := Nat.ble_eq_true_of_le (Nat.le_refl _)
 have e4 : Nat.ble nx (nx + 1) = true := Nat.ble_eq_true_of_le (by omega)
 have e5 : Nat.blt nx (nx + 1) = true := Nat.ble_eq_true_of_le (by omega)
 have e6 : Nat.blt 0 2 = true := rfl
 have e7 : Nat.blt 2 2 = false := rfl
 simp only [nodM, keyOut, nod2, notIn, keysOr, keysS, tauOK, e1, e2, e3, e4, e5, e6, e7, k0, s0]
 rfl
theorem wxFin {s : List UInt8} {xs : List AV} {mem : Mem} {nx i n : Nat} (h0 : lk mem 0 = some (wC i n)) (h1 : lk mem i = some (.row 5 1 xs)) (hi : 2 ≤ i) (hn : n = s.length) (hx : xs = encB s) : Fini 2 (WxQ s) (.tup []) mem nx := by
 have e0 : Nat.beq 0 i = false := nbeq_ne (by omega)
 have si : lk [(0, 0), (i, 2)] i = some 2 := by simp [lk, e0]
 exact fin_mk (r' := .tup []) (m' := [(0, wC 2 s.length), (2, .row 5 1 (encB s))]) (n' := 3) [(0, 0), (i, 2)] rfl
  ⟨⟨0, _, rfl, h0, wC_cv si hn⟩, ⟨i, _, si, h1, .eq (encB_nn _) hx⟩, trivial⟩ (.same _ nn) ⟨rfl, rfl, rfl⟩
theorem wUint (s : List UInt8) (u : Nat) (hu : u < 18446744073709551616) (hs : s.length ≤ 90000000) : ACalls Tryz.prog [] 141 [.ptr 0 0 0, .int .u64 u] (wM s) 2 (WxQ (s ++ uvar u)) := by
 have hul := uvar_len64 hu
 refine acalls_go nnΓ Tryz.func141 rfl ?_
 ((conv=>whnf);repeat(refine Xg ?_;conv=>whnf))
 refine ALoop.at nnΓ (fun x : Nat × List UInt8 => x.2 ++ uvar x.1 = s ++ uvar u)
  (fun x => ⟨[(0, .ptr 0 0 0), (1, .int .u64 x.1)], [(0, wC 2 x.2.length), (2, .row 5 1 (encB x.2))], 3, 31⟩) (fun x => x.1) (u, s) [(0, 0), (1, 2)] rfl
  (conv_mk _ rfl ⟨⟨0, _, rfl, rfl, wC_cv rfl rfl⟩, ⟨1, _, rfl, rfl, .same (encB_nn _)⟩, trivial⟩ ⟨⟨_, rfl, .ptr 0 0 0 0 rfl⟩, ⟨_, rfl, .same _ nn⟩, trivial⟩) ?_
 rintro ⟨n, acc⟩ hx
 simp only at hx
 have hal : acc.length ≤ s.length + 10 := by have := congrArg List.length hx; simp at this; omega
 ((conv=>whnf);repeat(refine Xg ?_;conv=>whnf))
 refine bcs_mk (fun h => ?_) (fun h => ?_)
 ·have hn : ¬ n < 128 := by simp at h; omega
  ((conv=>whnf);repeat(refine Xg ?_;conv=>whnf))
  refine grd_mk (app_ok rfl rfl (encB_length _).symm (by simp; omega)) ?_
  ((conv=>whnf);repeat(refine Xg ?_;conv=>whnf))
  rw [more_bits, shr7]
  refine .mk (n / 128, acc ++ [UInt8.ofNat (128 + n % 128)]) [(0, 0), (4, 2)] ?_ (conv_mk _ rfl ⟨⟨0, _, rfl, rfl, wC_cv rfl (by simp)⟩, ⟨4, _, rfl, rfl, .eq (encB_nn _) (by rw [encB_append]; rfl)⟩, trivial⟩ ⟨⟨_, rfl, .ptr 0 0 0 0 rfl⟩, ⟨_, rfl, .same _ nn⟩, trivial⟩) (by simp only; omega)
  rw [uvar_big hn] at hx
  simpa using hx
 ·have hn : n < 128 := by simp at h; omega
  ((conv=>whnf);repeat(refine Xg ?_;conv=>whnf))
  refine grd_mk (app_ok rfl rfl (encB_length _).symm (by simp; omega)) ?_
  ((conv=>whnf);repeat(refine Xg ?_;conv=>whnf))
  rw [last_bits hn]
  rw [uvar_small hn] at hx
  exact wxFin (i := 4) rfl rfl (by omega) (by rw [← hx]; simp) (by rw [← hx, encB_append]; rfl)
theorem wInt (s : List UInt8) (n : Int) (hn : i64 n) (hs : s.length ≤ 90000000) : ACalls Tryz.prog [] 91 [.ptr 0 0 0, .int .i64 n] (wM s) 2 (WxQ (s ++ encInt n)) := by
 have hU := wUint s (zig n) (zig_lt hn) hs
 refine acalls_go nnΓ Tryz.func91 rfl ?_
 have hz := zig_bits hn
 unfold encInt
 generalize zig n = z at hU hz ⊢
 ((conv=>whnf);repeat(refine Xg ?_;conv=>whnf))
 rw [hz]
 refine wUse 1 nnΓ hU rfl rfl rfl rfl ?_
 ((conv=>whnf);repeat(refine Xg ?_;conv=>whnf))
 exact wxFin (i := 2) rfl rfl (by omega) rfl rfl
theorem wBool (s : List UInt8) (b : Bool) (hs : s.length ≤ 90000000) : ACalls Tryz.prog [] 179 [.ptr 0 0 0, .bool b] (wM s) 2 (WxQ (s ++ [if b = true then 1 else 0])) := by
 refine acalls_go nnΓ Tryz.func179 rfl ?_
 cases b with
 | true =>
  ((conv=>whnf);repeat(refine Xg ?_;conv=>whnf))
  refine grd_mk (app_ok rfl rfl (encB_length _).symm (by simp; omega)) ?_
  ((conv=>whnf);repeat(refine Xg ?_;conv=>whnf))
  exact wxFin (i := 3) rfl rfl (by omega) (by simp) (by rw [encB_append]; rfl)
 | false =>
  ((conv=>whnf);repeat(refine Xg ?_;conv=>whnf))
  refine grd_mk (app_ok rfl rfl (encB_length _).symm (by simp; omega)) ?_
  ((conv=>whnf);repeat(refine Xg ?_;conv=>whnf))
  exact wxFin (i := 3) rfl rfl (by omega) (by simp) (by rw [encB_append]; rfl)
theorem wText (s w : List UInt8) (hs : s.length + w.length ≤ 90000000) : ACalls Tryz.prog [] 180 [.ptr 0 0 0, .str w] (wM s) 2 (WxQ (s ++ (uvar w.length ++ w))) := by
 have hU := wUint s w.length (by omega) (by omega)
 have hul := uvar_len64 (n := w.length) (by omega)
 have hw : IntKind.u64.wrap (w.length : Int) = (w.length : Int) := wrap_u64 (by omega) (by omega)
 generalize uvar w.length = x at hU hul ⊢
 refine acalls_go nnΓ Tryz.func180 rfl ?_
 ((conv=>whnf);repeat(refine Xg ?_;conv=>whnf))
 rw [hw]
 refine wUse 1 nnΓ hU rfl rfl rfl rfl ?_
 ((conv=>whnf);repeat(refine Xg ?_;conv=>whnf))
 have e : List.map (fun b : UInt8 => AV.int IntKind.u8 (b.toNat : Int)) w = encB w := rfl
 rw [e]
 refine grd_mk (app_ok rfl rfl (encB_length _).symm (by rw [encB_length]; simp; omega)) ?_
 ((conv=>whnf);repeat(refine Xg ?_;conv=>whnf))
 exact wxFin (i := 3) rfl rfl (by omega) (by rw [encB_length]; simp; omega) (by rw [← encB_append, List.append_assoc])
set_option maxRecDepth 100000
set_option maxHeartbeats 4000000
theorem vInName (c : Int) : PureC Tryz.prog [] 178 [.int .u8 c] (.bool (inNm c)) := by
 refine acalls_go nnΓ Tryz.func178 rfl ?_
 ((conv=>whnf);repeat(refine Xg ?_;conv=>whnf))
 repeat' (refine bcs_mk (fun h => ?_) (fun h => ?_) <;> ((try rw [h]); ((conv=>whnf);repeat(refine Xg ?_;conv=>whnf))))
 all_goals
  refine fin_pure nn ⟨?_, rfl, rfl⟩
  congr 1
  rw [Bool.eq_iff_iff]
  simp [inNm] at *
  try omega
theorem vCapital (s : List UInt8) (hs : s.length ≤ 4294967296) : PureC Tryz.prog [] 140 [.str s] (.bool (capital s)) := by
 refine acalls_go nnΓ Tryz.func140 rfl ?_
 ((conv=>whnf);repeat(refine Xg ?_;conv=>whnf))
 refine bcs_mk (fun h => ?_) (fun h => ?_)
 ·rw [h]
  ((conv=>whnf);repeat(refine Xg ?_;conv=>whnf))
  refine fin_pure nn ⟨?_, rfl, rfl⟩
  rw [capital_nil (by simp at h; rw [h]; simp)]
 have h1 : 1 ≤ s.length := by
  rcases Nat.eq_zero_or_pos s.length with h' | h'
  ·rw [List.eq_nil_of_length_eq_zero h'] at h; simp at h
  ·exact h'
 rw [h]
 ((conv=>whnf);repeat(refine Xg ?_;conv=>whnf))
 refine bcs_mk (fun h => ?_) (fun h => ?_)
 ·rw [h]
  ((conv=>whnf);repeat(refine Xg ?_;conv=>whnf))
  refine fin_pure nn ⟨?_, rfl, rfl⟩
  rw [capital_long (by simp at h; omega)]
 have h2 : s.length ≤ 16 := by simp at h; omega
 rw [h]
 obtain ⟨a, ha⟩ : ∃ a, s[0]? = some a := ⟨s[0], by simp⟩
 ((conv=>whnf);repeat(refine Xg ?_;conv=>whnf))
 refine opt_mk ha ?_
 ((conv=>whnf);repeat(refine Xg ?_;conv=>whnf))
 refine bcs_mk (fun h => ?_) (fun h => ?_)
 ·rw [h]
  ((conv=>whnf);repeat(refine Xg ?_;conv=>whnf))
  refine fin_pure nn ⟨?_, rfl, rfl⟩
  rw [capital_up ha (by simp [upper] at *; omega)]
 have h3 : 65 ≤ (a.toNat : Int) := by simpa using h
 rw [h]
 ((conv=>whnf);repeat(refine Xg ?_;conv=>whnf))
 refine opt_mk ha ?_
 ((conv=>whnf);repeat(refine Xg ?_;conv=>whnf))
 refine bcs_mk (fun h => ?_) (fun h => ?_)
 ·((conv=>whnf);repeat(refine Xg ?_;conv=>whnf))
  refine fin_pure nn ⟨?_, rfl, rfl⟩
  rw [capital_up ha (by simp [upper] at *; omega)]
 have h4 : (a.toNat : Int) ≤ 90 := by simpa using h
 have hua : upper a.toNat = true := by simp [upper]; omega
 ((conv=>whnf);repeat(refine Xg ?_;conv=>whnf))
 refine ALoop.at nnΓ (fun i : Nat => 1 ≤ i ∧ i ≤ s.length ∧ ∀ j c, j < i → s[j]? = some c → inNm c.toNat = true)
  (fun i => ⟨[(0, .str s), (3, .int .i64 i)], [], 0, 32⟩) (fun i => s.length - i) 1 [] ⟨by simp, h1, fun j c hj hc => by rw [show j = 0 by omega, ha] at hc; cases hc; exact upper_in hua⟩
  (conv_pure ⟨⟨_, rfl, .same _ nn⟩, ⟨_, rfl, .same _ nn⟩, trivial⟩) ?_
 rintro i ⟨h0, hi, hall⟩
 ((conv=>whnf);repeat(refine Xg ?_;conv=>whnf))
 refine bcs_mk (fun h => ?_) (fun h => ?_)
 ·have hlt : i < s.length := by simpa using h
  obtain ⟨c, hc⟩ : ∃ c, s[i]? = some c := ⟨s[i], by simp [hlt]⟩
  have hc' : s[(i : Int).toNat]? = some c := by rw [Int.toNat_natCast]; exact hc
  ((conv=>whnf);repeat(refine Xg ?_;conv=>whnf))
  refine opt_mk hc' ?_
  ((conv=>whnf);repeat(refine Xg ?_;conv=>whnf))
  refine (vInName c.toNat).go ?_
  ((conv=>whnf);repeat(refine Xg ?_;conv=>whnf))
  cases hb : inNm c.toNat with
  | false =>
   ((conv=>whnf);repeat(refine Xg ?_;conv=>whnf))
   refine fin_pure nn ⟨?_, rfl, rfl⟩
   rw [capital_in hc hb]
  | true =>
   ((conv=>whnf);repeat(refine Xg ?_;conv=>whnf))
   refine .mk (i + 1) [] ⟨by omega, by omega, fun j c2 hj hc2 => ?_⟩ (conv_pure ⟨⟨_, rfl, .same _ nn⟩, ⟨_, rfl, .w64 (by omega) ⟨by omega, by omega⟩⟩, trivial⟩) (by omega)
   rcases Nat.lt_or_ge j i with hj' | hj'
   ·exact hall j c2 hj' hc2
   ·have hji : j = i := by omega
    rw [hji, hc] at hc2
    cases hc2
    exact hb
 ·((conv=>whnf);repeat(refine Xg ?_;conv=>whnf))
  refine fin_pure nn ⟨?_, rfl, rfl⟩
  have hk : i = s.length := by simp at h; omega
  rw [capital_of ha h2 hua fun j c hc => hall j c (by rw [hk]; exact (List.getElem?_eq_some_iff.1 hc).1) hc]
set_option maxRecDepth 100000
set_option maxHeartbeats 4000000
theorem vFormed (vk vn : Int) (vs : List UInt8) (ks : List Val) (hs : vs.length ≤ 4294967296) : PureC Tryz.prog [] 89 [encV (.mk vk vn vs ks)] (.bool (formed1 vk vn vs ks.length)) := by
 refine acalls_go nnΓ Tryz.func89 rfl ?_
 ((conv=>whnf);repeat(refine Xg ?_;conv=>whnf))
 repeat' (first | (refine bcs_mk (fun h => ?_) (fun h => ?_) <;> ((try rw [h]); ((conv=>whnf);repeat(refine Xg ?_;conv=>whnf)))) | (refine (vCapital vs hs).go ?_; ((conv=>whnf);repeat(refine Xg ?_;conv=>whnf))))
 all_goals
  refine fin_pure nn ⟨?_, rfl, rfl⟩
  congr 1
  rw [Bool.eq_iff_iff]
  simp_all [formed1, encVs_length, List.length_eq_zero_iff, List.isEmpty_iff]
theorem vFits (vk vn : Int) (vs : List UInt8) (ks : List Val) : PureC Tryz.prog [] 90 [encV (.mk vk vn vs ks)] (.bool (fits1 vk ks.length)) := by
 refine acalls_go nnΓ Tryz.func90 rfl ?_
 ((conv=>whnf);repeat(refine Xg ?_;conv=>whnf))
 repeat' (refine bcs_mk (fun h => ?_) (fun h => ?_) <;> ((try rw [h]); ((conv=>whnf);repeat(refine Xg ?_;conv=>whnf))))
 all_goals
  refine fin_pure nn ⟨?_, rfl, rfl⟩
  congr 1
  rw [Bool.eq_iff_iff]
  simp [fits1, encVs_length] at *
  try omega
end Go.Proofs.YtelmpofoeinfoaaGreatDoor
namespace Go.Proofs.YtelmpofoeinfoaaGreatDoor
open Go Go.Ax Go.Proofs
set_option maxRecDepth 100000
set_option maxHeartbeats 4000000
def cI (n : Nat) : AB := .row 3 1 [.int .i64 n]
def cB (b : Bool) : AB := .row 4 1 [.bool b]
def cF (f : AV) : AB := .row 147 1 [f]
section
variable {mem : Mem} {σ : List (Nat × Nat)}
theorem cvFn2 {F : FuncId} {i j : Nat} (h : lk σ i = some i) (h' : lk σ j = some j) : CvR mem σ [.fn (.func F) [] [.ptr i 0 0, .ptr j 0 0]] [.fn (.func F) [] [.ptr i 0 0, .ptr j 0 0]] :=
 .cons (.one rfl rfl (.fn _ _ _ _ _ rfl rfl (by simp) (CvL.cons (.ptr i i 0 0 h) (.cons (.ptr j j 0 0 h') .nil)).2)) .nil
theorem cvFn3 {F : FuncId} {i j k : Nat} (h : lk σ i = some i) (h' : lk σ j = some j) (h'' : lk σ k = some k) : CvR mem σ [.fn (.func F) [] [.ptr i 0 0, .ptr j 0 0, .ptr k 0 0]] [.fn (.func F) [] [.ptr i 0 0, .ptr j 0 0, .ptr k 0 0]] :=
 .cons (.one rfl rfl (.fn _ _ _ _ _ rfl rfl (by simp) (CvL.cons (.ptr i i 0 0 h) (.cons (.ptr j j 0 0 h') (.cons (.ptr k k 0 0 h'') .nil))).2)) .nil
end
end Go.Proofs.YtelmpofoeinfoaaGreatDoor
namespace Go.Proofs.YtelmpofoeinfoaaGreatDoor
open Go Go.Ax Go.Proofs
set_option maxRecDepth 100000
set_option maxHeartbeats 4000000
section
variable {mem : Mem} {σ : List (Nat × Nat)}
theorem cvFn2R {F : FuncId} {i j i' j' : Nat} (h : lk σ i = some i') (h' : lk σ j = some j') : CvR mem σ [.fn (.func F) [] [.ptr i 0 0, .ptr j 0 0]] [.fn (.func F) [] [.ptr i' 0 0, .ptr j' 0 0]] :=
 .cons (.one rfl rfl (.fn _ _ _ _ _ rfl rfl (by simp) (CvL.cons (.ptr i i' 0 0 h) (.cons (.ptr j j' 0 0 h') .nil)).2)) .nil
theorem cvFn3R {F : FuncId} {i j k i' j' k' : Nat} (h : lk σ i = some i') (h' : lk σ j = some j') (h'' : lk σ k = some k') : CvR mem σ [.fn (.func F) [] [.ptr i 0 0, .ptr j 0 0, .ptr k 0 0]] [.fn (.func F) [] [.ptr i' 0 0, .ptr j' 0 0, .ptr k' 0 0]] :=
 .cons (.one rfl rfl (.fn _ _ _ _ _ rfl rfl (by simp) (CvL.cons (.ptr i i' 0 0 h) (.cons (.ptr j j' 0 0 h') (.cons (.ptr k k' 0 0 h'') .nil))).2)) .nil
theorem cvF3 {F : FuncId} {i j k i' j' k' : Nat} (h : lk σ i = some i') (h' : lk σ j = some j') (h'' : lk σ k = some k') : Cv mem σ (.fn (.func F) [] [.ptr i 0 0, .ptr j 0 0, .ptr k 0 0]) (.fn (.func F) [] [.ptr i' 0 0, .ptr j' 0 0, .ptr k' 0 0]) :=
 .fn _ _ _ _ _ rfl rfl (by simp) (CvL.cons (.ptr i i' 0 0 h) (.cons (.ptr j j' 0 0 h') (.cons (.ptr k k' 0 0 h'') .nil))).2
end
abbrev VS := Nat × Bool × Bool
def vC (x : VS) : Mem := [(0, cI x.1), (1, cB x.2.1), (2, cB x.2.2)]
def wV (x : VS) : Mem := [(0, cI x.1), (1, cB x.2.1), (2, cB x.2.2), (3, cF (.fn (.func 88) [] [.ptr 0 0 0, .ptr 1 0 0, .ptr 2 0 0])), (4, cF (.fn (.func 139) [] [.ptr 3 0 0, .ptr 4 0 0]))]
theorem seeV (vk vn : Int) (vs : List UInt8) (ks : List Val) (hs : vs.length ≤ 4294967296) (d : Nat) (x : VS) (hx : x.1 ≤ 4398046511104) :
  ACalls Tryz.prog [] 88 [encV (.mk vk vn vs ks), .int .i64 d, .ptr 0 0 0, .ptr 1 0 0, .ptr 2 0 0] (vC x) 3 fun r m _ => r = .bool (stValid x (.mk vk vn vs ks) d).1 ∧ m = vC (stValid x (.mk vk vn vs ks) d).2 := by
 obtain ⟨n, g, s⟩ := x
 have h1 := vFormed vk vn vs ks hs
 have h2 := vFits vk vn vs ks
 have hst : stValid (n, g, s) (.mk vk vn vs ks) d = (g && formed1 vk vn vs ks.length, (n + 1, g && formed1 vk vn vs ks.length, s && fits1 vk ks.length)) := rfl
 generalize formed1 vk vn vs ks.length = fb at h1 hst
 generalize fits1 vk ks.length = tb at h2 hst
 rw [hst]
 simp only at hx
 refine acalls_go nnΓ Tryz.func88 rfl ?_
 cases g <;> cases s
 all_goals
  ((conv=>whnf);repeat(refine Xg ?_;conv=>whnf))
  try (refine h1.go ?_; ((conv=>whnf);repeat(refine Xg ?_;conv=>whnf)))
  try (refine h2.go ?_; ((conv=>whnf);repeat(refine Xg ?_;conv=>whnf)))
  exact fin_mk (n' := 3) (m' := vC (n + 1, _, _)) [(0, 0), (1, 1), (2, 2)] rfl ⟨⟨0, _, rfl, rfl, .cons (.one rfl rfl (.w64 (by omega) ⟨by omega, by omega⟩)) .nil⟩, ⟨1, _, rfl, rfl, .same nns⟩, ⟨2, _, rfl, rfl, .same nns⟩, trivial⟩ (.same _ nn) ⟨rfl, rfl⟩
theorem visitV : ∀ (v : Val) (d : Nat) (x : VS), okV v → d + depthV v ≤ 1099511627776 → x.1 + sizeV v ≤ 4398046511104 →
   ACalls Tryz.prog [] 139 [encV v, .int .i64 d, .ptr 3 0 0, .ptr 4 0 0] (wV x) 5 fun r m _ => r = .bool (visS stValid v d x).1 ∧ m = wV (visS stValid v d x).2
 | .mk vk vn vs ks, d, x, hok, hd, hb => by
  simp only [okV] at hok
  obtain ⟨hv1, hv2, hv3, hv4, hv5⟩ := hok
  have ih : ∀ a ∈ ks, ∀ (d : Nat) (x : VS), d + depthV a ≤ 1099511627776 → x.1 + sizeV a ≤ 4398046511104 → ACalls Tryz.prog [] 139 [encV a, .int .i64 d, .ptr 3 0 0, .ptr 4 0 0] (wV x) 5 fun r m _ => r = .bool (visS stValid a d x).1 ∧ m = wV (visS stValid a d x).2 :=
   fun a hm d x h1 h2 => visitV a d x (okVs_mem hv5 a hm) h1 h2
  simp only [depthV, sizeV] at hd hb
  have hlen := sizeL_len ks
  have hsee := seeV vk vn vs ks hv3 d x (by omega)
  have hy1 : (stValid x (.mk vk vn vs ks) d).2.1 = x.1 + 1 := rfl
  generalize hst0 : stValid x (.mk vk vn vs ks) d = st at hsee hy1
  obtain ⟨b, y⟩ := st
  simp only at hy1
  refine acalls_go nnΓ Tryz.func139 rfl ?_
  ((conv=>whnf);repeat(refine Xg ?_;conv=>whnf))
  refine ACalls.useI nnΓ [0, 1, 2] hsee (by rfl) (.cons (.same _ nn) (.cons (.same _ nn) (.cons (.ptr 0 0 0 0 rfl) (.cons (.ptr 1 1 0 0 rfl) (.cons (.ptr 2 2 0 0 rfl) .nil))))) ⟨⟨0, _, rfl, rfl, .same nns⟩, ⟨1, _, rfl, rfl, .same nns⟩, ⟨2, _, rfl, rfl, .same nns⟩, trivial⟩ rfl ?_
  rintro r m n' ⟨rfl, rfl⟩
  refine ⟨nn, ⟨⟨0, _, rfl, rfl, .same nns⟩, ⟨1, _, rfl, rfl, .same nns⟩, ⟨2, _, rfl, rfl, .same nns⟩, trivial⟩, rfl, ?_⟩
  cases b with
  | false =>
   ((conv=>whnf);repeat(refine Xg ?_;conv=>whnf))
   refine fin_mk (n' := 5) (m' := wV y) [(0, 0), (1, 1), (2, 2), (3, 3), (4, 4)] rfl ⟨⟨0, _, rfl, rfl, .same nns⟩, ⟨1, _, rfl, rfl, .same nns⟩, ⟨2, _, rfl, rfl, .same nns⟩, ⟨3, _, rfl, rfl, cvFn3 rfl rfl rfl⟩, ⟨4, _, rfl, rfl, cvFn2 rfl rfl⟩, trivial⟩ (.same _ nn) ?_
   have hvis : visS stValid (.mk vk vn vs ks) d x = (false, y) := by rw [visS, hst0]
   rw [hvis]
   exact ⟨rfl, rfl⟩
  | true =>
   have hvis : visS stValid (.mk vk vn vs ks) d x = visL stValid ks (d + 1) y := by rw [visS, hst0]
   ((conv=>whnf);repeat(refine Xg ?_;conv=>whnf))
   refine ALoop.at nnΓ (fun a : Nat × VS => a.1 ≤ ks.length ∧ visL stValid (ks.take a.1) (d + 1) y = (true, a.2))
    (fun a => ⟨[(1, .int .i64 d), (3, .ptr 4 0 0), (15, .il 4 (encVs ks)), (16, .int .i64 (encVs ks).length), (17, .int .i64 a.1)], wV a.2, 5, 28⟩)
    (fun a => ks.length - a.1) (0, y) [(0, 0), (1, 1), (2, 2), (3, 3), (4, 4)] ⟨by simp, rfl⟩
    (conv_mk _ rfl ⟨⟨0, _, rfl, rfl, .same nns⟩, ⟨1, _, rfl, rfl, .same nns⟩, ⟨2, _, rfl, rfl, .same nns⟩, ⟨3, _, rfl, rfl, cvFn3 rfl rfl rfl⟩, ⟨4, _, rfl, rfl, cvFn2 rfl rfl⟩, trivial⟩ ⟨⟨_, rfl, .same _ nn⟩, ⟨_, rfl, .ptr 4 4 0 0 rfl⟩, ⟨_, rfl, .same _ nn⟩, ⟨_, rfl, .same _ nn⟩, ⟨_, rfl, .same _ nn⟩, trivial⟩) ?_
   rintro ⟨k, z⟩ ⟨hk, hz⟩
   simp only at hk hz
   have hcnt := visL_cnt (ks.take k) (d + 1) y
   rw [hz] at hcnt
   simp only at hcnt
   ((conv=>whnf);repeat(refine Xg ?_;conv=>whnf))
   refine bcs_mk (fun h => ?_) (fun h => ?_)
   ·have hlt : k < ks.length := klt h
    obtain ⟨a, b, c, e, hm, hg', he, e1⟩ := enc_cases hlt
    have hst := sizeL_take hlt
    rw [he] at hst
    have hst' := sizeL_take_le ks (k + 1)
    have hdm := depthL_mem hm
    have hnext := visL_take stValid hlt (d + 1) y z hz
    rw [he] at hnext
    have hb2 : z.1 + sizeV (.mk a b c e) ≤ 4398046511104 := by omega
    have hih := ih _ hm (d + 1) z (by omega) hb2
    generalize visS stValid (.mk a b c e) (d + 1) z = st2 at hih hnext
    obtain ⟨b2, z2⟩ := st2
    ((conv=>whnf);repeat(refine Xg ?_;conv=>whnf))
    refine opt_mk e1 ?_
    ((conv=>whnf);repeat(refine Xg ?_;conv=>whnf))
    rw [w64 (x := (d : Int) + 1) (y := ((d + 1 : Nat) : Int)) (by omega) ⟨by omega, by omega⟩]
    refine ACalls.useI nnΓ [0, 1, 2, 3, 4] hih (by rfl) (.cons (.same _ nn) (.cons (.same _ nn) (.cons (.ptr 3 3 0 0 rfl) (.cons (.ptr 4 4 0 0 rfl) .nil))))
     ⟨⟨0, _, rfl, rfl, .same nns⟩, ⟨1, _, rfl, rfl, .same nns⟩, ⟨2, _, rfl, rfl, .same nns⟩, ⟨3, _, rfl, rfl, cvFn3 rfl rfl rfl⟩, ⟨4, _, rfl, rfl, cvFn2 rfl rfl⟩, trivial⟩ rfl ?_
    rintro r m n' ⟨rfl, rfl⟩
    refine ⟨nn, ⟨⟨0, _, rfl, rfl, .same nns⟩, ⟨1, _, rfl, rfl, .same nns⟩, ⟨2, _, rfl, rfl, .same nns⟩, ⟨3, _, rfl, rfl, cvFn3 rfl rfl rfl⟩, ⟨4, _, rfl, rfl, cvFn2 rfl rfl⟩, trivial⟩, rfl, ?_⟩
    cases b2 with
    | false =>
     ((conv=>whnf);repeat(refine Xg ?_;conv=>whnf))
     refine fin_mk (n' := 5) (m' := wV z2) [(0, 0), (1, 1), (2, 2), (3, 3), (4, 4)] rfl ⟨⟨0, _, rfl, rfl, .same nns⟩, ⟨1, _, rfl, rfl, .same nns⟩, ⟨2, _, rfl, rfl, .same nns⟩, ⟨3, _, rfl, rfl, cvFn3 rfl rfl rfl⟩, ⟨4, _, rfl, rfl, cvFn2 rfl rfl⟩, trivial⟩ (.same _ nn) ?_
     have := visL_stop stValid (m := ks.drop (k + 1)) hnext
     rw [List.take_append_drop] at this
     rw [hvis, this]
     exact ⟨rfl, rfl⟩
    | true =>
     ((conv=>whnf);repeat(refine Xg ?_;conv=>whnf))
     exact .mk (k + 1, z2) [(0, 0), (1, 1), (2, 2), (3, 3), (4, 4)] ⟨by simp only; omega, hnext⟩
      (conv_mk _ rfl ⟨⟨0, _, rfl, rfl, .same nns⟩, ⟨1, _, rfl, rfl, .same nns⟩, ⟨2, _, rfl, rfl, .same nns⟩, ⟨3, _, rfl, rfl, cvFn3 rfl rfl rfl⟩, ⟨4, _, rfl, rfl, cvFn2 rfl rfl⟩, trivial⟩ ⟨⟨_, rfl, .same _ nn⟩, ⟨_, rfl, .ptr 4 4 0 0 rfl⟩, ⟨_, rfl, .same _ nn⟩, ⟨_, rfl, .same _ nn⟩, ⟨_, rfl, .w64 (by omega) ⟨by omega, by omega⟩⟩, trivial⟩) (by simp only; omega)
   ·have hk' : k = ks.length := by have := kge h; omega
    ((conv=>whnf);repeat(refine Xg ?_;conv=>whnf))
    refine fin_mk (n' := 5) (m' := wV z) [(0, 0), (1, 1), (2, 2), (3, 3), (4, 4)] rfl ⟨⟨0, _, rfl, rfl, .same nns⟩, ⟨1, _, rfl, rfl, .same nns⟩, ⟨2, _, rfl, rfl, .same nns⟩, ⟨3, _, rfl, rfl, cvFn3 rfl rfl rfl⟩, ⟨4, _, rfl, rfl, cvFn2 rfl rfl⟩, trivial⟩ (.same _ nn) ?_
    rw [hk', List.take_length] at hz
    rw [hvis, hz]
    exact ⟨rfl, rfl⟩
 termination_by v => SizeOf.sizeOf v
 decreasing_by simp; have := List.sizeOf_lt_of_mem hm; omega
theorem vVisitV : ∀ (v : Val) (x : VS), okV v → 1 + depthV v ≤ 1099511627776 → x.1 + sizeV v ≤ 4398046511104 →
   ACalls Tryz.prog [] 87 [encV v, .fn (.func 88) [] [.ptr 0 0 0, .ptr 1 0 0, .ptr 2 0 0]] (vC x) 3 fun r m _ => r = .tup [] ∧ m = vC (visS stValid v 1 x).2
 | .mk vk vn vs ks, x, hok, hd, hb => by
  have hw := visitV (.mk vk vn vs ks) 1 x hok hd hb
  generalize visS stValid (.mk vk vn vs ks) 1 x = st at hw
  obtain ⟨b, y⟩ := st
  refine acalls_go nnΓ Tryz.func87 rfl ?_
  ((conv=>whnf);repeat(refine Xg ?_;conv=>whnf))
  refine ACalls.useR nnΓ [(0, 0), (1, 1), (2, 2), (4, 3), (5, 4)] hw (by rfl) (.cons (.same _ nn) (.cons (.int rfl) (.cons (.ptr 4 3 0 0 rfl) (.cons (.ptr 5 4 0 0 rfl) .nil))))
   ⟨⟨0, _, rfl, rfl, .same nns⟩, ⟨1, _, rfl, rfl, .same nns⟩, ⟨2, _, rfl, rfl, .same nns⟩, ⟨4, _, rfl, rfl, cvFn3R rfl rfl rfl⟩, ⟨5, _, rfl, rfl, cvFn2R rfl rfl⟩, trivial⟩ rfl ?_
  rintro r m n' ⟨rfl, rfl⟩
  refine ⟨[(0, cI y.1), (1, cB y.2.1), (2, cB y.2.2)], nn, ⟨⟨0, _, rfl, rfl, .same nns⟩, ⟨1, _, rfl, rfl, .same nns⟩, ⟨2, _, rfl, rfl, .same nns⟩, trivial⟩, rfl, ?_⟩
  ((conv=>whnf);repeat(refine Xg ?_;conv=>whnf))
  exact fin_mk (n' := 3) (m' := vC y) [(0, 0), (1, 1), (2, 2)] rfl ⟨⟨0, _, rfl, rfl, .same nns⟩, ⟨1, _, rfl, rfl, .same nns⟩, ⟨2, _, rfl, rfl, .same nns⟩, trivial⟩ (.same _ nn) ⟨rfl, rfl⟩
theorem vValid : ∀ v : Val, okV v → sizeV v ≤ 1048576 → PureC Tryz.prog [] 39 [encV v] (.int .i64 (validV v))
 | .mk vk vn vs ks, hok, hs => by
  have hd := depth_le_size (.mk vk vn vs ks)
  have hw := vVisitV (.mk vk vn vs ks) (0, true, true) hok (by omega) (by simp only; omega)
  have hval := valid_vis (.mk vk vn vs ks)
  generalize validV (.mk vk vn vs ks) = res at hval
  generalize (visS stValid (.mk vk vn vs ks) 1 (0, true, true)).2 = y at hw hval
  obtain ⟨n, g, s⟩ := y
  simp only at hval
  refine acalls_go nnΓ Tryz.func39 rfl ?_
  ((conv=>whnf);repeat(refine Xg ?_;conv=>whnf))
  refine ACalls.useR nnΓ [(1, 0), (2, 1), (3, 2)] hw (by rfl) (.cons (.same _ nn) (.cons (cvF3 rfl rfl rfl) .nil)) ⟨⟨1, _, rfl, rfl, .same nns⟩, ⟨2, _, rfl, rfl, .same nns⟩, ⟨3, _, rfl, rfl, .same nns⟩, trivial⟩ rfl ?_
  rintro r m n' ⟨rfl, rfl⟩
  refine ⟨[(1, cI n), (2, cB g), (3, cB s)], nn, ⟨⟨0, _, rfl, rfl, .same nns⟩, ⟨1, _, rfl, rfl, .same nns⟩, ⟨2, _, rfl, rfl, .same nns⟩, trivial⟩, rfl, ?_⟩
  cases g with
  | false =>
   ((conv=>whnf);repeat(refine Xg ?_;conv=>whnf))
   refine fin_pure nn ⟨?_, rfl, rfl⟩
   rw [← hval]; rfl
  | true =>
   cases s with
   | false =>
    ((conv=>whnf);repeat(refine Xg ?_;conv=>whnf))
    refine fin_pure nn ⟨?_, rfl, rfl⟩
    rw [← hval]; simp
   | true =>
    ((conv=>whnf);repeat(refine Xg ?_;conv=>whnf))
    refine bcs_mk (fun h => ?_) (fun h => ?_)
    ·((conv=>whnf);repeat(refine Xg ?_;conv=>whnf))
     refine fin_pure nn ⟨?_, rfl, rfl⟩
     rw [← hval, if_neg (by simp), if_pos (by simp at h; omega)]
    ·((conv=>whnf);repeat(refine Xg ?_;conv=>whnf))
     refine fin_pure nn ⟨?_, rfl, rfl⟩
     rw [← hval, if_neg (by simp), if_neg (by simp at h; simp; omega)]
end Go.Proofs.YtelmpofoeinfoaaGreatDoor
namespace Go.Proofs.YtelmpofoeinfoaaGreatDoor
open Go Go.Ax Go.Proofs
set_option maxRecDepth 100000
set_option maxHeartbeats 4000000
theorem cNumber (s : List UInt8) (v1 v2 : Int) (v3 : List UInt8) (v4 : List Val) (hn : i64 v2) (hs : s.length ≤ 90000000) : ACalls Tryz.prog [] 142 [.ptr 0 0 0, encV (.mk v1 v2 v3 v4)] (wM s) 2 (WxQ (s ++ encInt v2)) := by
 have hI := wInt s v2 hn hs
 generalize encInt v2 = w at hI ⊢
 refine acalls_go nnΓ Tryz.func142 rfl ?_
 ((conv=>whnf);repeat(refine Xg ?_;conv=>whnf))
 refine wUse 1 nnΓ hI rfl rfl rfl rfl ?_
 ((conv=>whnf);repeat(refine Xg ?_;conv=>whnf))
 exact wxFin (i := 9) rfl rfl (by omega) rfl rfl
theorem cTruth (s : List UInt8) (v1 v2 : Int) (v3 : List UInt8) (v4 : List Val) (hs : s.length ≤ 90000000) : ACalls Tryz.prog [] 143 [.ptr 0 0 0, encV (.mk v1 v2 v3 v4)] (wM s) 2 (WxQ (s ++ [if v2 = 1 then 1 else 0])) := by
 have hB := wBool s (v2 == 1) hs
 have e : (if (v2 == 1) = true then (1 : UInt8) else 0) = if v2 = 1 then 1 else 0 := by simp
 rw [e] at hB
 generalize (if v2 = 1 then (1 : UInt8) else 0) = w at hB ⊢
 refine acalls_go nnΓ Tryz.func143 rfl ?_
 ((conv=>whnf);repeat(refine Xg ?_;conv=>whnf))
 refine wUse 1 nnΓ hB rfl rfl rfl rfl ?_
 ((conv=>whnf);repeat(refine Xg ?_;conv=>whnf))
 exact wxFin (i := 10) rfl rfl (by omega) rfl rfl
theorem cList (s : List UInt8) (v1 v2 : Int) (v3 : List UInt8) (ks : List Val) (hok : okVs ks) (hf : formedL ks = true) (hs : s.length + 60 * sizeL ks + 10 ≤ 80000000)
  (ih : ∀ v ∈ ks, ∀ s : List UInt8, s.length + 60 * sizeV v ≤ 80000000 → ACalls Tryz.prog [] 40 [.ptr 0 0 0, encV v] (wM s) 2 (WxQ (s ++ codeV v))) :
  ACalls Tryz.prog [] 144 [.ptr 0 0 0, encV (.mk v1 v2 v3 ks)] (wM s) 2 (WxQ (s ++ (encInt ks.length ++ codeL ks))) := by
 have hkl := sizeL_len ks
 have hI := wInt s ks.length (i64_nat (by omega)) (by omega)
 have hil := encInt_len (i64_nat (n := ks.length) (by omega))
 generalize encInt ks.length = w0 at hI hil ⊢
 have hlen : ((encVs ks).length : Int) = ks.length := by rw [encVs_length]
 refine acalls_go nnΓ Tryz.func144 rfl ?_
 ((conv=>whnf);repeat(refine Xg ?_;conv=>whnf))
 rw [hlen]
 refine wUse 1 nnΓ hI rfl rfl rfl rfl ?_
 ((conv=>whnf);repeat(refine Xg ?_;conv=>whnf))
 refine ALoop.at nnΓ (fun k : Nat => k ≤ ks.length)
  (fun k => ⟨[(0, .ptr 0 0 0), (14, .il 4 (encVs ks)), (15, .int .i64 ks.length), (16, .int .i64 k)], [(0, wC 2 (s ++ (w0 ++ codeL (ks.take k))).length), (2, .row 5 1 (encB (s ++ (w0 ++ codeL (ks.take k)))))], 3, 24⟩) (fun k => ks.length - k) 0 [(0, 0), (10, 2)] (by simp)
  (conv_mk _ rfl ⟨⟨0, _, rfl, rfl, wC_cv rfl (by simp [codeL])⟩, ⟨10, _, rfl, rfl, .eq (encB_nn _) (by simp [codeL])⟩, trivial⟩ ⟨⟨_, rfl, .ptr 0 0 0 0 rfl⟩, ⟨_, rfl, .same _ nn⟩, ⟨_, rfl, .int hlen⟩, ⟨_, rfl, .same _ nn⟩, trivial⟩) ?_
 intro k hk
 ((conv=>whnf);repeat(refine Xg ?_;conv=>whnf))
 refine bcs_mk (fun h => ?_) (fun h => ?_)
 ·have hlt : k < ks.length := by simpa using h
  obtain ⟨a, b, c, d, hm, hg, he, e1⟩ := enc_cases hlt
  have hih := ih _ hm
  have hpt := codeL_take hlt
  rw [he] at hpt
  have hbound := codeL_len (ks.take k) (okVs_take hok _) (formedL_takeT hf _)
  have hsz := sizeL_take_le ks (k + 1)
  rw [sizeL_take hlt, he] at hsz
  generalize codeV (.mk a b c d) = pv at hih hpt
  obtain ⟨pl, hpl⟩ : ∃ pl, pl = codeL (ks.take k) := ⟨_, rfl⟩
  rw [← hpl] at hpt hbound ⊢
  ((conv=>whnf);repeat(refine Xg ?_;conv=>whnf))
  refine opt_mk e1 ?_
  ((conv=>whnf);repeat(refine Xg ?_;conv=>whnf))
  refine wUse 2 nnΓ (hih (s ++ (w0 ++ pl)) (by simp; omega)) rfl rfl rfl rfl ?_
  ((conv=>whnf);repeat(refine Xg ?_;conv=>whnf))
  have hnx : s ++ (w0 ++ pl) ++ pv = s ++ (w0 ++ codeL (ks.take (k + 1))) := by rw [hpt]; simp
  exact .mk (k + 1) [(0, 0), (4, 2)] (by omega) (conv_mk _ rfl ⟨⟨0, _, rfl, rfl, wC_cv rfl (by rw [hnx])⟩, ⟨4, _, rfl, rfl, .eq (encB_nn _) (by rw [hnx])⟩, trivial⟩ ⟨⟨_, rfl, .ptr 0 0 0 0 rfl⟩, ⟨_, rfl, .same _ nn⟩, ⟨_, rfl, .same _ nn⟩, ⟨_, rfl, .w64 (by omega) ⟨by omega, by omega⟩⟩, trivial⟩) (by omega)
 ·have hke : k = ks.length := by simp at h; omega
  subst hke
  rw [List.take_length]
  ((conv=>whnf);repeat(refine Xg ?_;conv=>whnf))
  exact wxFin (i := 2) rfl rfl (by omega) rfl rfl
theorem cMade (s : List UInt8) (v1 v2 : Int) (v3 : List UInt8) (ks : List Val) (hok : okVs ks) (hf : formedL ks = true) (hv3 : v3.length ≤ 16) (hs : s.length + 60 * sizeL ks + 40 ≤ 80000000)
  (ih : ∀ v ∈ ks, ∀ s : List UInt8, s.length + 60 * sizeV v ≤ 80000000 → ACalls Tryz.prog [] 40 [.ptr 0 0 0, encV v] (wM s) 2 (WxQ (s ++ codeV v))) :
  ACalls Tryz.prog [] 145 [.ptr 0 0 0, encV (.mk v1 v2 v3 ks)] (wM s) 2 (WxQ (s ++ ((uvar v3.length ++ v3) ++ (encInt ks.length ++ codeL ks)))) := by
 have hT := wText s v3 (by omega)
 have hul := uvar_len64 (n := v3.length) (by omega)
 have hL := cList (s ++ (uvar v3.length ++ v3)) v1 v2 v3 ks hok hf (by simp; omega) ih
 generalize uvar v3.length ++ v3 = w at hT hL ⊢
 generalize encInt ks.length ++ codeL ks = w' at hL ⊢
 refine acalls_go nnΓ Tryz.func145 rfl ?_
 ((conv=>whnf);repeat(refine Xg ?_;conv=>whnf))
 refine wUse 1 nnΓ hT rfl rfl rfl rfl ?_
 ((conv=>whnf);repeat(refine Xg ?_;conv=>whnf))
 refine wUse 9 nnΓ hL rfl rfl rfl rfl ?_
 ((conv=>whnf);repeat(refine Xg ?_;conv=>whnf))
 rw [← List.append_assoc]
 exact wxFin (i := 10) rfl rfl (by omega) rfl rfl
def kindsC : AV := .agg [.fn (.func 142) [.ptr 0 0 0] [], .fn (.func 143) [.ptr 0 0 0] [], .fn (.func 144) [.ptr 0 0 0] [], .fn (.func 145) [.ptr 0 0 0] []]
theorem cvFnQ {mem : Mem} {σ : List (Nat × Nat)} {f : Fn} (h : lk σ 0 = some 0) : Cv mem σ (.fn f [.ptr 0 0 0] []) (.fn f [.ptr 0 0 0] []) :=
 .fn f _ _ _ _ rfl rfl (CvL.cons (.ptr 0 0 0 0 h) .nil).2 (CvL.nil).2
theorem cvKindsC {mem : Mem} {σ : List (Nat × Nat)} (h : lk σ 0 = some 0) : Cv mem σ kindsC kindsC := .agg' (.cons (cvFnQ h) (.cons (cvFnQ h) (.cons (cvFnQ h) (.cons (cvFnQ h) .nil))))
theorem cKinds (s : List UInt8) : ACalls Tryz.prog [] 92 [.ptr 0 0 0] (wM s) 2 fun r m n => r = kindsC ∧ m = wM s ∧ n = 2 := by
 refine acalls_go nnΓ Tryz.func92 rfl ?_
 ((conv=>whnf);repeat(refine Xg ?_;conv=>whnf))
 exact fin_mk (r' := kindsC) (m' := wM s) (n' := 2) [(0, 0), (1, 1)] rfl ⟨⟨0, _, rfl, rfl, wC_cv rfl rfl⟩, ⟨1, _, rfl, rfl, .same (encB_nn _)⟩, trivial⟩ (cvKindsC rfl) ⟨rfl, rfl, rfl⟩
theorem cValue : ∀ (v : Val) (s : List UInt8), okV v → formedV v = true → s.length + 60 * sizeV v ≤ 80000000 → ACalls Tryz.prog [] 40 [.ptr 0 0 0, encV v] (wM s) 2 (WxQ (s ++ codeV v))
 | .mk k n t ks, s, ho, hf, hs => by
  simp only [okV] at ho
  obtain ⟨hv1, hv2, hv3, hv4, hv5⟩ := ho
  simp only [formedV, Bool.and_eq_true] at hf
  obtain ⟨hf1, hf2⟩ := hf
  simp only [sizeV] at hs
  have ih : ∀ v ∈ ks, ∀ s : List UInt8, s.length + 60 * sizeV v ≤ 80000000 → ACalls Tryz.prog [] 40 [.ptr 0 0 0, encV v] (wM s) 2 (WxQ (s ++ codeV v)) := fun v hm s h =>
   cValue v s (okVs_mem hv5 v hm) (formedL_in hf2 hm) h
  have hI := wInt s k hv1 (by omega)
  have hil := encInt_len hv1
  rw [codeV]
  obtain ⟨w0, hw0⟩ : ∃ w0, w0 = encInt k := ⟨_, rfl⟩
  rw [← hw0] at hI hil ⊢
  unfold formed1 at hf1
  refine acalls_go nnΓ Tryz.func40 rfl ?_
  ((conv=>whnf);repeat(refine Xg ?_;conv=>whnf))
  refine wUse 1 nnΓ hI rfl rfl rfl rfl ?_
  ((conv=>whnf);repeat(refine Xg ?_;conv=>whnf))
  refine ACalls.useN nnΓ [(0, 0), (9, 1)] (cKinds (s ++ w0)) rfl (.cons (.ptr 0 0 0 0 rfl) .nil) ⟨⟨0, _, rfl, rfl, wC_cv rfl rfl⟩, ⟨9, _, rfl, rfl, .same (encB_nn _)⟩, trivial⟩ rfl ?_
  rintro r m n' ⟨rfl, rfl, rfl⟩
  refine ⟨[(0, 0), (1, 9)], _, [(0, wC 9 (s ++ w0).length), (9, .row 5 1 (encB (s ++ w0)))], 17, cvKindsC rfl, ⟨⟨0, _, rfl, rfl, wC_cv rfl rfl⟩, ⟨1, _, rfl, rfl, .same (encB_nn _)⟩, trivial⟩, rfl, ?_⟩
  by_cases k0 : k = 0
  ·subst k0
   have hC := cNumber (s ++ w0) 0 n t ks hv2 (by simp; omega)
   rw [if_pos rfl]
   generalize encInt n = w at hC ⊢
   ((conv=>whnf);repeat(refine Xg ?_;conv=>whnf))
   repeat (refine ⟨rfl, ?_⟩; ((conv=>whnf);repeat(refine Xg ?_;conv=>whnf)))
   refine wUse 9 nnΓ hC rfl rfl rfl rfl ?_
   ((conv=>whnf);repeat(refine Xg ?_;conv=>whnf))
   rw [← List.append_assoc]
   exact wxFin (i := 17) rfl rfl (by omega) rfl rfl
  ·rw [if_neg k0] at hf1 ⊢
   by_cases k1 : k = 1
   ·subst k1
    have hC := cTruth (s ++ w0) 1 n t ks (by simp; omega)
    rw [if_pos rfl]
    generalize [if n = 1 then (1 : UInt8) else 0] = w at hC ⊢
    ((conv=>whnf);repeat(refine Xg ?_;conv=>whnf))
    repeat (refine ⟨rfl, ?_⟩; ((conv=>whnf);repeat(refine Xg ?_;conv=>whnf)))
    refine wUse 9 nnΓ hC rfl rfl rfl rfl ?_
    ((conv=>whnf);repeat(refine Xg ?_;conv=>whnf))
    rw [← List.append_assoc]
    exact wxFin (i := 17) rfl rfl (by omega) rfl rfl
   ·rw [if_neg k1] at hf1 ⊢
    by_cases k2 : k = 2
    ·subst k2
     have hC := cList (s ++ w0) 2 n t ks hv5 hf2 (by simp; omega) ih
     rw [if_neg (by omega), List.nil_append]
     generalize encInt ks.length ++ codeL ks = w at hC ⊢
     ((conv=>whnf);repeat(refine Xg ?_;conv=>whnf))
     repeat (refine ⟨rfl, ?_⟩; ((conv=>whnf);repeat(refine Xg ?_;conv=>whnf)))
     refine wUse 9 nnΓ hC rfl rfl rfl rfl ?_
     ((conv=>whnf);repeat(refine Xg ?_;conv=>whnf))
     rw [← List.append_assoc]
     exact wxFin (i := 17) rfl rfl (by omega) rfl rfl
    ·rw [if_neg k2] at hf1
     by_cases k3 : k = 3
     ·subst k3
      rw [if_pos rfl] at hf1 ⊢
      have ht : t.length ≤ 16 := by
       rcases Nat.lt_or_ge 16 t.length with h | h
       ·rw [capital_long h] at hf1; simp at hf1
       ·exact h
      have hC := cMade (s ++ w0) 3 n t ks hv5 hf2 ht (by simp; omega) ih
      generalize uvar t.length ++ t ++ (encInt ks.length ++ codeL ks) = w at hC ⊢
      ((conv=>whnf);repeat(refine Xg ?_;conv=>whnf))
      repeat (refine ⟨rfl, ?_⟩; ((conv=>whnf);repeat(refine Xg ?_;conv=>whnf)))
      refine wUse 9 nnΓ hC rfl rfl rfl rfl ?_
      ((conv=>whnf);repeat(refine Xg ?_;conv=>whnf))
      rw [← List.append_assoc]
      exact wxFin (i := 17) rfl rfl (by omega) rfl rfl
     ·rw [if_neg k3] at hf1
      cases hf1
theorem wDone (s : List UInt8) (hs : s.length ≤ 90000000) : ACalls Tryz.prog [] 41 [.ptr 0 0 0] (wM s) 2 fun r m n => r = .il 1 (encB s) ∧ m = [] ∧ n = 2 := by
 refine acalls_go nnΓ Tryz.func41 rfl ?_
 ((conv=>whnf);repeat(refine Xg ?_;conv=>whnf))
 have lT := encB_length s
 have eT : List.take s.length (List.drop 0 (encB s)) = encB s := by rw [List.drop_zero, List.take_of_length_le (by rw [lT]; omega)]
 refine grd_mk (src_ok (by rw [lT]; omega)) ?_
 rw [eT]
 ((conv=>whnf);repeat(refine Xg ?_;conv=>whnf))
 refine grd_mk (app_ok rfl rfl rfl (by rw [lT]; simp; omega)) ?_
 ((conv=>whnf);repeat(refine Xg ?_;conv=>whnf))
 exact fin_mk (r' := .il 1 (encB s)) (m' := []) (n' := 2) [] rfl trivial (.fz' rfl rfl (by simp) (by simp) (encB_nn _)) ⟨rfl, rfl, rfl⟩
theorem vEncode : ∀ v : Val, okV v → sizeV v ≤ 1000000 → PureC Tryz.prog [] 12 [encV v] (.tup [if validV v = 0 then .il 1 (encB (codeV v)) else .nsl, .int .i64 (validV v)])
 | .mk v1 v2 v3 v4, ho, hs => by
  have hV := vValid (.mk v1 v2 v3 v4) ho (by omega)
  obtain ⟨e, he⟩ : ∃ e, e = validV (.mk v1 v2 v3 v4) := ⟨_, rfl⟩
  rw [← he] at hV ⊢
  refine acalls_go nnΓ Tryz.func12 rfl ?_
  ((conv=>whnf);repeat(refine Xg ?_;conv=>whnf))
  refine hV.go ?_
  by_cases h0 : e = 0
  ·subst h0
   rw [if_pos rfl]
   have hf := (valid_fits he.symm).1
   have hX := cValue (.mk v1 v2 v3 v4) [] ho hf (by simp; omega)
   have hpl := code_len _ ho hf
   generalize codeV (.mk v1 v2 v3 v4) = w at hX hpl ⊢
   have hwl : w.length ≤ 50000000 := by omega
   ((conv=>whnf);repeat(refine Xg ?_;conv=>whnf))
   refine ACalls.ph 5 1 ?_
   refine ACalls.useN nnΓ [(1, 0), (2, 1)] hX rfl (.cons (.ptr 1 0 0 0 rfl) (.same nns)) ⟨⟨1, _, rfl, rfl, .cons (.agg (.cons (.nslk 2 1 _ rfl rfl) .nil)) .nil⟩, ⟨2, _, rfl, rfl, .same .nil⟩, trivial⟩ rfl ?_
   rintro r m n ⟨rfl, rfl, rfl⟩
   rw [List.nil_append]
   refine ⟨[(0, 1), (2, 3)], _, [(1, wC 3 w.length), (3, .row 5 1 (encB w))], 4, .same _ nn, ⟨⟨0, _, rfl, rfl, wC_cv rfl rfl⟩, ⟨2, _, rfl, rfl, .same (encB_nn _)⟩, trivial⟩, rfl, ?_⟩
   ((conv=>whnf);repeat(refine Xg ?_;conv=>whnf))
   refine ACalls.useN nnΓ [(1, 0), (3, 1)] (wDone w (by omega)) rfl (.cons (.ptr 1 0 0 0 rfl) .nil) ⟨⟨1, _, rfl, rfl, wC_cv rfl rfl⟩, ⟨3, _, rfl, rfl, .same (encB_nn _)⟩, trivial⟩ rfl ?_
   rintro r m n ⟨rfl, rfl, rfl⟩
   refine ⟨[], _, [], 4, .same _ (.il' (encB_nn _)), trivial, rfl, ?_⟩
   ((conv=>whnf);repeat(refine Xg ?_;conv=>whnf))
   exact fin_pure (.tup' (.cons (.il' (encB_nn _)) (.cons (.int _ _) .nil))) ⟨rfl, rfl, rfl⟩
  ·have d1 : (e != 0) = true := by simpa using h0
   rw [if_neg h0]
   ((conv=>whnf);repeat(refine Xg ?_;conv=>whnf))
   rw [d1]
   ((conv=>whnf);repeat(refine Xg ?_;conv=>whnf))
   exact fin_pure nn ⟨rfl, rfl, rfl⟩
set_option maxHeartbeats 4000000
def NewB (s : List UInt8) (r : AV) (m : Mem) (n : Nat) : Prop := r = .sl 0 0 s.length ∧ m = [(0, .row 5 1 (encB s))] ∧ n = 1
theorem newFin {s : List UInt8} {xs : List AV} {mem : Mem} {nx i n : Nat} (h1 : lk mem i = some (.row 5 1 xs)) (hn : n = s.length) (hx : xs = encB s) : Fini 0 (NewB s) (.sl i 0 n) mem nx := by
 have si : lk [(i, 0)] i = some 0 := by simp [lk]
 exact fin_mk (r' := .sl 0 0 s.length) (m' := [(0, .row 5 1 (encB s))]) (n' := 1) [(i, 0)] rfl ⟨⟨i, _, si, h1, .eq (encB_nn _) hx⟩, trivial⟩ (.slE si hn) ⟨rfl, rfl, rfl⟩
theorem newUse {Γ : List (Nat × AV)} {F : FuncId} {args : List AV} {s : List UInt8} {mem : Mem} {nx : Nat} {K : AV → Mem → Nat → Prop} (hΓ : ∀ p ∈ Γ, NN p.2) (h : ACalls Tryz.prog Γ F args [] 0 (NewB s)) (hk : K (.sl nx 0 s.length) ((nx, .row 5 1 (encB s)) :: mem) (nx + 1)) (ha : NNs args := by exact nns) : ACalls Tryz.prog Γ F args mem nx K :=
 ACalls.useNw hΓ h ha (encB_nn _) hk
theorem rUint (u : Nat) (hu : u < 18446744073709551616) : ACalls Tryz.prog [] 147 [.int .u64 u] [] 0 (NewB (uvar u)) := by
 have hul := uvar_len64 hu
 refine acalls_go nnΓ Tryz.func147 rfl ?_
 ((conv=>whnf);repeat(refine Xg ?_;conv=>whnf))
 refine ALoop.ph 5 1 ?_
 refine ALoop.at nnΓ (fun x : Nat × List UInt8 => x.2 ++ uvar x.1 = uvar u ∧ x.1 < 18446744073709551616)
  (fun x => ⟨[(0, .int .u64 x.1), (3, .sl 0 0 x.2.length)], [(0, .row 5 1 (encB x.2))], 1, 20⟩) (fun x => x.1) (u, []) [(0, 0)] ⟨rfl, hu⟩
  (conv_mk _ rfl ⟨⟨0, _, rfl, rfl, .same .nil⟩, trivial⟩ ⟨⟨_, rfl, .same _ nn⟩, ⟨_, rfl, .nslk 0 0 _ rfl rfl⟩, trivial⟩) ?_
 rintro ⟨n, acc⟩ ⟨hx, hn64⟩
 simp only at hx hn64
 have hal : acc.length ≤ 10 := by have := congrArg List.length hx; simp at this; omega
 ((conv=>whnf);repeat(refine Xg ?_;conv=>whnf))
 refine bcs_mk (fun h => ?_) (fun h => ?_)
 ·have hn : ¬ n < 128 := by simp at h; omega
  ((conv=>whnf);repeat(refine Xg ?_;conv=>whnf))
  refine grd_mk (app_ok rfl rfl (encB_length _).symm (by simp; omega)) ?_
  ((conv=>whnf);repeat(refine Xg ?_;conv=>whnf))
  rw [more_ref hn64, quo_ref hn64]
  refine .mk (n / 128, acc ++ [UInt8.ofNat (128 + n % 128)]) [(2, 0)] ⟨?_, by simp only; omega⟩ (conv_mk _ rfl ⟨⟨2, _, rfl, rfl, .eq (encB_nn _) (by rw [encB_append]; rfl)⟩, trivial⟩ ⟨⟨_, rfl, .same _ nn⟩, ⟨_, rfl, .slE rfl (by simp)⟩, trivial⟩) (by simp only; omega)
  rw [uvar_big hn] at hx
  simpa using hx
 ·have hn : n < 128 := by simp at h; omega
  ((conv=>whnf);repeat(refine Xg ?_;conv=>whnf))
  refine grd_mk (app_ok rfl rfl (encB_length _).symm (by simp; omega)) ?_
  ((conv=>whnf);repeat(refine Xg ?_;conv=>whnf))
  rw [last_bits hn]
  rw [uvar_small hn] at hx
  exact newFin rfl (by rw [← hx]; simp) (by rw [← hx, encB_append]; rfl)
theorem rZig (n : Int) (hn : i64 n) : PureC Tryz.prog [] 148 [.int .i64 n] (.int .u64 (zig n)) := by
 have hz := zig_lt hn
 have hzd : (zig n : Int) = if n < 0 then -2 * n - 1 else 2 * n := by unfold zig; split <;> omega
 generalize zig n = z at hz hzd ⊢
 unfold i64 at hn
 refine acalls_go nnΓ Tryz.func148 rfl ?_
 ((conv=>whnf);repeat(refine Xg ?_;conv=>whnf))
 refine bcs_mk (fun h => ?_) (fun h => ?_)
 ·have h0 : n < 0 := by simpa using h
  rw [if_pos h0] at hzd
  ((conv=>whnf);repeat(refine Xg ?_;conv=>whnf))
  have e1 : IntKind.i64.wrap (n + 1) = n + 1 := wrap64 ⟨by omega, by omega⟩
  have e2 : IntKind.i64.wrap (0 - (n + 1)) = -(n + 1) := w64 (by omega) ⟨by omega, by omega⟩
  have e3 : IntKind.u64.wrap (-(n + 1)) = -(n + 1) := wrap_u64 (by omega) (by omega)
  have e4 : IntKind.u64.wrap (2 * -(n + 1)) = 2 * -(n + 1) := wrap_u64 (by omega) (by omega)
  have e5 : IntKind.u64.wrap (2 * -(n + 1) + 1) = z := by rw [wrap_u64 (by omega) (by omega)]; omega
  rw [e1, e2, e3, e4, e5]
  exact fin_pure nn ⟨rfl, rfl, rfl⟩
 ·have h0 : ¬ n < 0 := by simpa using h
  rw [if_neg h0] at hzd
  ((conv=>whnf);repeat(refine Xg ?_;conv=>whnf))
  have e3 : IntKind.u64.wrap n = n := wrap_u64 (by omega) (by omega)
  have e4 : IntKind.u64.wrap (2 * n) = z := by rw [wrap_u64 (by omega) (by omega)]; omega
  rw [e3, e4]
  exact fin_pure nn ⟨rfl, rfl, rfl⟩
theorem rInt (n : Int) (hn : i64 n) : ACalls Tryz.prog [] 97 [.int .i64 n] [] 0 (NewB (encInt n)) := by
 have hZ := rZig n hn
 have hU := rUint (zig n) (zig_lt hn)
 unfold encInt
 generalize zig n = z at hZ hU ⊢
 refine acalls_go nnΓ Tryz.func97 rfl ?_
 ((conv=>whnf);repeat(refine Xg ?_;conv=>whnf))
 refine hZ.go ?_
 ((conv=>whnf);repeat(refine Xg ?_;conv=>whnf))
 refine newUse nnΓ hU ?_
 ((conv=>whnf);repeat(refine Xg ?_;conv=>whnf))
 exact newFin rfl rfl rfl
theorem rRaw (w : List UInt8) (hw : w.length ≤ 1000000) : ACalls Tryz.prog [] 98 [.il 1 (encB w)] [] 0 (NewB (uvar w.length ++ w)) := by
 have hU := rUint w.length (by omega)
 have hul := uvar_len64 (n := w.length) (by omega)
 have lT := encB_length w
 have hwr : IntKind.u64.wrap ((encB w).length : Int) = (w.length : Int) := by rw [lT]; exact wrap_u64 (by omega) (by omega)
 generalize uvar w.length = x at hU hul ⊢
 refine acalls_go nnΓ Tryz.func98 rfl ?_
 ((conv=>whnf);repeat(refine Xg ?_;conv=>whnf))
 rw [hwr]
 refine newUse nnΓ hU ?_
 ((conv=>whnf);repeat(refine Xg ?_;conv=>whnf))
 refine grd_mk (app_ok rfl rfl (encB_length _).symm (by rw [lT]; omega)) ?_
 ((conv=>whnf);repeat(refine Xg ?_;conv=>whnf))
 exact newFin rfl (by rw [lT]; simp) (encB_append _ _).symm
theorem eTake (w : List UInt8) : List.take w.length (List.drop 0 (encB w)) = encB w := by rw [List.drop_zero, List.take_of_length_le (by rw [encB_length]; omega)]
theorem rEncode : ∀ v : Val, okV v → formedV v = true → sizeV v ≤ 1000000 → ACalls Tryz.prog [] 45 [encV v] [] 0 (NewB (codeV v))
 | .mk vk vn vs ks, ho, hf, hs => by
  have hlen := code_len _ ho hf
  simp only [okV] at ho
  obtain ⟨hv1, hv2, hv3, hv4, hv5⟩ := ho
  simp only [formedV, Bool.and_eq_true] at hf
  obtain ⟨hf1, hf2⟩ := hf
  simp only [sizeV] at hs hlen
  have hkl := sizeL_len ks
  have ih : ∀ a ∈ ks, ACalls Tryz.prog [] 45 [encV a] [] 0 (NewB (codeV a)) := fun a hm =>
   rEncode a (okVs_mem hv5 a hm) (formedL_in hf2 hm) (by have := sizeV_mem hm; omega)
  have hK := rInt vk hv1
  have hKl := encInt_len hv1
  rw [codeV] at hlen ⊢
  obtain ⟨w0, hw0⟩ : ∃ w0, w0 = encInt vk := ⟨_, rfl⟩
  rw [← hw0] at hK hKl hlen ⊢
  unfold formed1 at hf1
  refine acalls_go nnΓ Tryz.func45 rfl ?_
  ((conv=>whnf);repeat(refine Xg ?_;conv=>whnf))
  refine newUse nnΓ hK ?_
  by_cases k0 : vk = 0
  ·subst k0
   have hN := rInt vn hv2
   rw [if_pos rfl] at hlen ⊢
   generalize encInt vn = w at hN hlen ⊢
   ((conv=>whnf);repeat(refine Xg ?_;conv=>whnf))
   refine newUse nnΓ hN ?_
   ((conv=>whnf);repeat(refine Xg ?_;conv=>whnf))
   simp only [List.length_append] at hlen
   refine grd_mk (src_ok (by rw [encB_length]; omega)) ?_
   rw [eTake]
   ((conv=>whnf);repeat(refine Xg ?_;conv=>whnf))
   refine grd_mk (app_ok rfl rfl (encB_length _).symm (by rw [encB_length]; omega)) ?_
   ((conv=>whnf);repeat(refine Xg ?_;conv=>whnf))
   exact newFin rfl (by rw [encB_length]; simp) (encB_append _ _).symm
  ·rw [if_neg k0] at hf1 hlen ⊢
   by_cases k1 : vk = 1
   ·subst k1
    rw [if_pos rfl] at hlen hf1 ⊢
    simp only [Bool.and_eq_true, Bool.or_eq_true, decide_eq_true_eq] at hf1
    rcases hf1.1.1 with rfl | rfl
    ·((conv=>whnf);repeat(refine Xg ?_;conv=>whnf))
     refine grd_mk (app_ok rfl rfl (encB_length _).symm (by simp; omega)) ?_
     ((conv=>whnf);repeat(refine Xg ?_;conv=>whnf))
     exact newFin rfl (by simp) (by rw [encB_append]; rfl)
    ·((conv=>whnf);repeat(refine Xg ?_;conv=>whnf))
     refine grd_mk (app_ok rfl rfl (encB_length _).symm (by simp; omega)) ?_
     ((conv=>whnf);repeat(refine Xg ?_;conv=>whnf))
     exact newFin rfl (by simp) (by rw [encB_append]; rfl)
   ·rw [if_neg k1] at hf1 hlen ⊢
    have hL := rInt ks.length (i64_nat (by omega))
    have hLl := encInt_len (i64_nat (n := ks.length) (by omega))
    have hel : ((encVs ks).length : Int) = ks.length := by rw [encVs_length]
    generalize encInt ks.length = w1 at hL hLl hlen ⊢
    by_cases k3 : vk = 3
    ·subst k3
     rw [if_neg (by omega), if_pos rfl] at hf1
     rw [if_pos rfl] at hlen ⊢
     have ht : vs.length ≤ 16 := by
      rcases Nat.lt_or_ge 16 vs.length with h | h
      ·rw [capital_long h] at hf1; simp at hf1
      ·exact h
     have hR := rRaw vs (by omega)
     have hRl : (uvar vs.length ++ vs).length ≤ 26 := by have := uvar_len64 (n := vs.length) (by omega); simp; omega
     generalize uvar vs.length ++ vs = w2 at hR hRl hlen ⊢
     simp only [List.length_append] at hlen
     ((conv=>whnf);repeat(refine Xg ?_;conv=>whnf))
     refine ACalls.pre nnΓ [(1, 1), (0, 0)] (mem' := [(1, .row 5 1 (encB w0)), (0, .row 37 4 [encV (.mk 3 vn vs ks)])]) (args' := [.il 1 (encB vs)]) rfl
      ⟨⟨1, _, rfl, rfl, .same (encB_nn _)⟩, ⟨0, _, rfl, rfl, .same nns⟩, trivial⟩ (.cons (.fz' rfl rfl (by simp) (by rw [List.drop_zero]; exact List.take_of_length_le (by simp)) (encB_nn _)) .nil) ?_
     refine newUse nnΓ hR ?_ (.cons (.il' (encB_nn _)) .nil)
     ((conv=>whnf);repeat(refine Xg ?_;conv=>whnf))
     refine grd_mk (src_ok (by rw [encB_length]; omega)) ?_
     rw [eTake]
     ((conv=>whnf);repeat(refine Xg ?_;conv=>whnf))
     refine grd_mk (app_ok rfl rfl (encB_length _).symm (by rw [encB_length]; (try simp); omega)) ?_
     ((conv=>whnf);repeat(refine Xg ?_;conv=>whnf))
     rw [hel]
     refine newUse nnΓ hL ?_
     ((conv=>whnf);repeat(refine Xg ?_;conv=>whnf))
     refine grd_mk (src_ok (by rw [encB_length]; omega)) ?_
     rw [eTake]
     ((conv=>whnf);repeat(refine Xg ?_;conv=>whnf))
     refine grd_mk (app_ok rfl rfl (by simp [encB_length]) (by simp [encB_length]; omega)) ?_
     ((conv=>whnf);repeat(refine Xg ?_;conv=>whnf))
     obtain ⟨wa, hwa⟩ : ∃ wa, wa = w0 ++ w2 ++ w1 := ⟨_, rfl⟩
     have hal : wa.length ≤ 60 := by rw [hwa]; simp; omega
     have hfin : wa ++ codeL ks = w0 ++ (w2 ++ (w1 ++ codeL ks)) := by rw [hwa]; simp
     rw [← hfin]
     refine ALoop.at nnΓ (fun k : Nat => k ≤ ks.length)
      (fun k => ⟨[(1, .ptr 0 0 0), (3, .sl 1 0 (wa ++ codeL (ks.take k)).length), (4, .int .i64 k)], [(0, .row 37 4 [encV (.mk 3 vn vs ks)]), (1, .row 5 1 (encB (wa ++ codeL (ks.take k))))], 2, 56⟩) (fun k => ks.length - k) 0 [(0, 0), (6, 1)] (by simp)
      (conv_mk _ rfl ⟨⟨0, _, rfl, rfl, .same nns⟩, ⟨6, _, rfl, rfl, .eq (encB_nn _) (by rw [← encB_append, ← encB_append, hwa]; simp [codeL])⟩, trivial⟩ ⟨⟨_, rfl, .ptr 0 0 0 0 rfl⟩, ⟨_, rfl, .slE rfl (by simp [hwa, encB_length, codeL]; omega)⟩, ⟨_, rfl, .same _ nn⟩, trivial⟩) ?_
     intro k hk
     ((conv=>whnf);repeat(refine Xg ?_;conv=>whnf))
     refine bcs_mk (fun h => ?_) (fun h => ?_)
     ·have hlt := klt h
      obtain ⟨a, b, c, d, hm, hg, he, e1⟩ := enc_cases hlt
      have hih := ih _ hm
      have hpt := codeL_take hlt
      rw [he] at hpt
      have hbound := codeL_len (ks.take (k + 1)) (okVs_take hv5 _) (formedL_takeT hf2 _)
      have hsz := sizeL_take_le ks (k + 1)
      rw [hpt] at hbound
      simp only [List.length_append] at hbound
      generalize codeV (.mk a b c d) = pv at hih hpt hbound
      obtain ⟨pl, hpl⟩ : ∃ pl, pl = codeL (ks.take k) := ⟨_, rfl⟩
      rw [← hpl] at hpt hbound ⊢
      ((conv=>whnf);repeat(refine Xg ?_;conv=>whnf))
      refine opt_mk e1 ?_
      ((conv=>whnf);repeat(refine Xg ?_;conv=>whnf))
      refine newUse nnΓ hih ?_
      ((conv=>whnf);repeat(refine Xg ?_;conv=>whnf))
      refine grd_mk (src_ok (by rw [encB_length]; omega)) ?_
      rw [eTake]
      ((conv=>whnf);repeat(refine Xg ?_;conv=>whnf))
      refine grd_mk (app_ok rfl rfl (encB_length _).symm (by rw [encB_length]; simp; omega)) ?_
      ((conv=>whnf);repeat(refine Xg ?_;conv=>whnf))
      have hnx : wa ++ pl ++ pv = wa ++ codeL (ks.take (k + 1)) := by rw [hpt]; simp
      exact .mk (k + 1) [(0, 0), (3, 1)] (by omega) (conv_mk _ rfl ⟨⟨0, _, rfl, rfl, .same nns⟩, ⟨3, _, rfl, rfl, .eq (encB_nn _) (by rw [← hnx, encB_append (wa ++ pl) pv])⟩, trivial⟩ ⟨⟨_, rfl, .ptr 0 0 0 0 rfl⟩, ⟨_, rfl, .slE rfl (by rw [← hnx, encB_length]; simp; omega)⟩, ⟨_, rfl, .w64 (by omega) ⟨by omega, by omega⟩⟩, trivial⟩) (by omega)
     ·have hke := kge h
      have : k = ks.length := by omega
      subst this
      rw [List.take_length]
      ((conv=>whnf);repeat(refine Xg ?_;conv=>whnf))
      exact newFin rfl rfl rfl
    ·have k2 : vk = 2 := by
      rw [if_neg k3] at hf1
      by_cases k2 : vk = 2
      ·exact k2
      ·rw [if_neg k2] at hf1; cases hf1
     subst k2
     rw [if_neg (by omega), List.nil_append] at hlen ⊢
     simp only [List.length_append] at hlen
     ((conv=>whnf);repeat(refine Xg ?_;conv=>whnf))
     rw [hel]
     refine newUse nnΓ hL ?_
     ((conv=>whnf);repeat(refine Xg ?_;conv=>whnf))
     refine grd_mk (src_ok (by rw [encB_length]; omega)) ?_
     rw [eTake]
     ((conv=>whnf);repeat(refine Xg ?_;conv=>whnf))
     refine grd_mk (app_ok rfl rfl (encB_length _).symm (by rw [encB_length]; omega)) ?_
     ((conv=>whnf);repeat(refine Xg ?_;conv=>whnf))
     obtain ⟨wa, hwa⟩ : ∃ wa, wa = w0 ++ w1 := ⟨_, rfl⟩
     have hal : wa.length ≤ 20 := by rw [hwa]; simp; omega
     have hfin : wa ++ codeL ks = w0 ++ (w1 ++ codeL ks) := by rw [hwa]; simp
     rw [← hfin]
     refine ALoop.at nnΓ (fun k : Nat => k ≤ ks.length)
      (fun k => ⟨[(1, .ptr 0 0 0), (3, .sl 1 0 (wa ++ codeL (ks.take k)).length), (4, .int .i64 k)], [(0, .row 37 4 [encV (.mk 2 vn vs ks)]), (1, .row 5 1 (encB (wa ++ codeL (ks.take k))))], 2, 56⟩) (fun k => ks.length - k) 0 [(0, 0), (3, 1)] (by simp)
      (conv_mk _ rfl ⟨⟨0, _, rfl, rfl, .same nns⟩, ⟨3, _, rfl, rfl, .eq (encB_nn _) (by rw [← encB_append, hwa]; simp [codeL])⟩, trivial⟩ ⟨⟨_, rfl, .ptr 0 0 0 0 rfl⟩, ⟨_, rfl, .slE rfl (by rw [hwa, encB_length]; simp [codeL])⟩, ⟨_, rfl, .same _ nn⟩, trivial⟩) ?_
     intro k hk
     ((conv=>whnf);repeat(refine Xg ?_;conv=>whnf))
     refine bcs_mk (fun h => ?_) (fun h => ?_)
     ·have hlt := klt h
      obtain ⟨a, b, c, d, hm, hg, he, e1⟩ := enc_cases hlt
      have hih := ih _ hm
      have hpt := codeL_take hlt
      rw [he] at hpt
      have hbound := codeL_len (ks.take (k + 1)) (okVs_take hv5 _) (formedL_takeT hf2 _)
      have hsz := sizeL_take_le ks (k + 1)
      rw [hpt] at hbound
      simp only [List.length_append] at hbound
      generalize codeV (.mk a b c d) = pv at hih hpt hbound
      obtain ⟨pl, hpl⟩ : ∃ pl, pl = codeL (ks.take k) := ⟨_, rfl⟩
      rw [← hpl] at hpt hbound ⊢
      ((conv=>whnf);repeat(refine Xg ?_;conv=>whnf))
      refine opt_mk e1 ?_
      ((conv=>whnf);repeat(refine Xg ?_;conv=>whnf))
      refine newUse nnΓ hih ?_
      ((conv=>whnf);repeat(refine Xg ?_;conv=>whnf))
      refine grd_mk (src_ok (by rw [encB_length]; omega)) ?_
      rw [eTake]
      ((conv=>whnf);repeat(refine Xg ?_;conv=>whnf))
      refine grd_mk (app_ok rfl rfl (encB_length _).symm (by rw [encB_length]; simp; omega)) ?_
      ((conv=>whnf);repeat(refine Xg ?_;conv=>whnf))
      have hnx : wa ++ pl ++ pv = wa ++ codeL (ks.take (k + 1)) := by rw [hpt]; simp
      exact .mk (k + 1) [(0, 0), (3, 1)] (by omega) (conv_mk _ rfl ⟨⟨0, _, rfl, rfl, .same nns⟩, ⟨3, _, rfl, rfl, .eq (encB_nn _) (by rw [← hnx, encB_append (wa ++ pl) pv])⟩, trivial⟩ ⟨⟨_, rfl, .ptr 0 0 0 0 rfl⟩, ⟨_, rfl, .slE rfl (by rw [← hnx, encB_length]; simp; omega)⟩, ⟨_, rfl, .w64 (by omega) ⟨by omega, by omega⟩⟩, trivial⟩) (by omega)
     ·have hke := kge h
      have : k = ks.length := by omega
      subst this
      rw [List.take_length]
      ((conv=>whnf);repeat(refine Xg ?_;conv=>whnf))
      exact newFin rfl rfl rfl
set_option maxHeartbeats 16000000
set_option linter.unusedSimpArgs false
theorem and_okH {a b : Bool} (h1 : a = true) (h2 : b = true) : (a && b) = true := by rw [h1, h2]; rfl
theorem mul_okH {n : Nat} {s m : Int} (hn : Nat.ble n 100 = true) (hs : 0 ≤ s) (h : 100 * s ≤ m) : decide ((n : Int) * s ≤ m) = true := by
 have := Nat.le_of_ble_eq_true hn
 refine decide_eq_true (Int.le_trans (Int.mul_le_mul_of_nonneg_right (show (n : Int) ≤ 100 by omega) hs) h)
theorem hBytes (s b : List UInt8) (hs : s.length ≤ 4294967296) (hb : b.length ≤ 4294967000) : PureC Tryz.prog [] 14 [.str s, .il 1 (encB b)] (.int .u64 (bytesN s b)) := by
 have nb : NN (.il 1 (encB b)) := .il' (encB_nn b)
 have lb := encB_length b
 have hwn := wordsOf_length b
 have hG := hGroups b
 have nG := fnG_nn b
 have hI := bIt b hb
 have hS := hSum s ((wordsOf b).map intW ++ [(b.length : Int)]) hs (by simp; omega)
 rw [show sumN s ((wordsOf b).map intW ++ [(b.length : Int)]) = bytesN s b from rfl] at hS
 have hlk : ((wordsOf b).map intW).length = (wordsOf b).length := by simp
 obtain ⟨c, hc, hcl⟩ : ∃ c : Nat, IntKind.i64.wrap (IntKind.i64.wrap (((encB b).length : Int).tdiv 8) + 2) = (c : Int) ∧ c ≤ 4294967296 := by
  refine ⟨b.length / 8 + 2, ?_, by omega⟩
  rw [lb, show ((b.length : Int).tdiv 8) = ((b.length / 8 : Nat) : Int) by rw [show (8 : Int) = ((8 : Nat) : Int) by rfl, tdiv_nat], wrap64 (n := ((b.length / 8 : Nat) : Int)) ⟨by omega, by omega⟩]
  exact w64 (by omega) ⟨by omega, by omega⟩
 generalize bytesN s b = y at *
 generalize (wordsOf b).map intW = xs at *
 refine acalls_go nnΓ Tryz.func14 rfl ?_
 ((conv=>whnf);repeat(refine Xg ?_;conv=>whnf))
 rw [hc]
 refine grd_mk (and_okH rfl (and_okH rfl (and_okH rfl (and_okH rfl (and_okH (decide_eq_true (by omega)) (and_okH (mul_okH rfl (by omega) (by omega)) (decide_eq_true (by omega)))))))) ?_
 ((conv=>whnf);repeat(refine Xg ?_;conv=>whnf))
 refine hG.go ?_ (.cons nb .nil) nG
 ((conv=>whnf);repeat(refine Xg ?_;conv=>whnf))
 refine ACalls.useN nnΓ [(2, 0), (1, 1), (0, 2)] hI rfl (.cons (.yld 2 0 rfl) (.cons (.same _ (.ip' nb)) .nil)) (bRM_conv (i0 := 2) (i1 := 1) (rid := 0) rfl rfl rfl rfl ⟨⟨_, rfl, .ptr 1 1 0 0 rfl⟩, trivial⟩ rfl rfl rfl rfl trivial) rfl ?_
 rintro r m n ⟨rfl, rfl, rfl⟩
 refine ⟨[(0, 2), (1, 1), (3, 3)], _, [(2, .loop [(5, .ptr 1 0 0)] 28 hbR.1 hbR.2.1 hbR.2.2 .ready none), (1, .row 22 1 [.sl 3 0 xs.length]), (3, .row 3 1 (Go.Ax.encI xs))], 4, .same _ (.tup' .nil), ⟨⟨0, _, rfl, rfl, SlConv.get ⟨⟨_, rfl, .ptr 1 1 0 0 rfl⟩, trivial⟩⟩, ⟨1, _, rfl, rfl, .cons (.one rfl rfl (.slE rfl rfl)) .nil⟩, ⟨3, _, rfl, rfl, .same (encI_nn _)⟩, trivial⟩, rfl, ?_⟩
 ((conv=>whnf);repeat(refine Xg ?_;conv=>whnf))
 have lx := encI_length xs
 refine grd_mk (app_ok rfl rfl (by rw [lx]) (by simp; omega)) ?_
 ((conv=>whnf);repeat(refine Xg ?_;conv=>whnf))
 rw [lb]
 repeat ((first | refine setK_iff.2 ?_ | refine ⟨rfl, ?_⟩); ((conv=>whnf);repeat(refine Xg ?_;conv=>whnf)))
 refine hS.frz [5, 4, 1] nnΓ (.cons (.same _ nn) (.cons (fzRow (id := 5) rfl (by rw [List.length_append, lx]) (by rw [encI_appH]; rfl) (encI_nn _)) .nil)) nn ?_
 ((conv=>whnf);repeat(refine Xg ?_;conv=>whnf))
 exact fin_pure nn ⟨rfl, rfl, rfl⟩
theorem vHash (v : Val) (ho : okV v) (hz : sizeV v ≤ 1000000) (hc : validV v = 0 → (codeV v).length ≤ 4294967000) : PureC Tryz.prog [] 13 [encV v] (.int .u64 (if validV v = 0 then bytesN [118, 97, 108, 117, 101] (codeV v) else 0 : Nat)) := by
 have hE := vEncode v ho hz
 have nv := encV_nn v
 have hB := fun h => hBytes [118, 97, 108, 117, 101] (codeV v) (by decide) (hc h)
 clear hc
 have nc : NN (.il 1 (encB (codeV v))) := .il' (encB_nn _)
 generalize bytesN [118, 97, 108, 117, 101] (codeV v) = y at *
 generalize codeV v = w at *
 obtain ⟨k, n, s, ks⟩ := v
 refine acalls_go nnΓ Tryz.func13 rfl ?_
 by_cases h0 : validV (.mk k n s ks) = 0
 ·have hB := hB h0
  rw [h0] at hE ⊢
  rw [if_pos rfl] at hE ⊢
  ((conv=>whnf);repeat(refine Xg ?_;conv=>whnf))
  refine hE.go ?_ (.cons nv .nil) (.tup' (.cons nc (.cons nn .nil)))
  ((conv=>whnf);repeat(refine Xg ?_;conv=>whnf))
  repeat ((first | refine setK_iff.2 ?_ | refine ⟨rfl, ?_⟩); ((conv=>whnf);repeat(refine Xg ?_;conv=>whnf)))
  refine hB.go ?_ (.cons nn (.cons nc .nil)) nn
  ((conv=>whnf);repeat(refine Xg ?_;conv=>whnf))
  exact fin_pure nn ⟨rfl, rfl, rfl⟩
 ·rw [if_neg h0] at hE ⊢
  generalize validV (.mk k n s ks) = e at *
  ((conv=>whnf);repeat(refine Xg ?_;conv=>whnf))
  refine hE.go ?_ (.cons nv .nil) (.tup' (.cons nn (.cons nn .nil)))
  ((conv=>whnf);repeat(refine Xg ?_;conv=>whnf))
  repeat ((first | refine setK_iff.2 ?_ | refine ⟨rfl, ?_⟩); ((conv=>whnf);repeat(refine Xg ?_;conv=>whnf)))
  rw [show (e != 0) = true by simpa using h0]
  ((conv=>whnf);repeat(refine Xg ?_;conv=>whnf))
  exact fin_pure nn ⟨rfl, rfl, rfl⟩
def gPost (l : List Int) (d i : Nat) : AV → Mem → Nat → Prop := fun r m _ => ∃ (v : Val) (j : Nat), r = encV v ∧ genV d v ∧ i ≤ j ∧ j ≤ i + genCost d ∧ m = [(0, gB l j)]
theorem gFin {l : List Int} {d i j : Nat} {kd n : Int} {s : List UInt8} {kv : AV} {kids : List Val} {mem : Mem} {nx : Nat} (h0 : lk mem 0 = some (gB l j)) (hkv : Cv mem [(0, 0)] kv (.il 4 (encVs kids))) (hg : genV d (.mk kd n s kids)) (h1 : i ≤ j) (h2 : j ≤ i + genCost d) :
  Fini 1 (gPost l d i) (.agg [.int .i64 kd, .int .i64 n, .str s, kv]) mem nx :=
 fin_mk (n' := 1) (m' := [(0, gB l j)]) [(0, 0)] rfl ⟨⟨0, _, rfl, h0, .same (gNN l j)⟩, trivial⟩ (.agg' (.cons (.same _ (.int _ _)) (.cons (.same _ (.int _ _)) (.cons (.same _ (.str _)) (.cons hkv .nil))))) ⟨_, j, rfl, hg, h1, h2, rfl⟩
theorem genV_leaf {d : Nat} {k n : Int} {s : List UInt8} (h : genBase k n s []) : genV d (.mk k n s []) := by
 cases d with
 | zero => exact ⟨h, rfl⟩
 | succ d => exact ⟨h, by simp, by simp⟩
def gSt (l : List Int) (d : Nat) (kd : Int) (s : List UInt8) (n : Int) (x : List Val × Nat) : St :=
 ⟨[(0, .ptr 0 0 0), (1, .int .i64 (d + 1 : Nat)), (4, .ptr 1 0 0), (6, .ptr 2 0 0), (7, .int .i64 n), (8, .int .i64 x.1.length)],
  [(0, gB l x.2), (1, .row 37 4 [.agg [.int .i64 0, .int .i64 0, .str [], .nsl]]), (2, .row 37 4 [.agg [.int .i64 kd, .int .i64 0, .str s, .sl 3 0 x.1.length]]), (3, .row 37 4 (encVs x.1))], 4, 72⟩
theorem gLoop (l : List Int) (d j0 : Nat) (hd : d < 10) (hj0 : j0 + 3 * genCost d ≤ 4611686018427387904)
  (ih : ∀ i, i + genCost d ≤ 4611686018427387904 → ACalls Tryz.prog [] 37 [.ptr 0 0 0, .int .i64 d] [(0, gB l i)] 1 (gPost l d i))
  (kd : Int) (s : List UInt8) (n : Int) (hn0 : 0 ≤ n) (hn : n < 4) (Q : Exit → St → Prop) (st : St) (σ : List (Nat × Nat)) (h0 : Conv 1 σ ⟨st.sl, (st.nx, .row 37 4 []) :: st.mem, st.nx + 1, st.nt⟩ (gSt l d kd s n ([], j0)))
  (hQ : ∀ (ks : List Val) (j : Nat), ks.length ≤ 3 → (∀ v ∈ ks, genV d v) → j0 ≤ j → j ≤ j0 + 3 * genCost d →
   Q (.exit 1) ⟨[(0, .ptr 0 0 0), (1, .int .i64 (d + 1 : Nat)), (4, .ptr 1 0 0), (6, .ptr 2 0 0), (7, .int .i64 n), (8, .int .i64 ks.length), (57, .int .i64 ks.length), (58, .int .i64 n), (59, .bool (decide ((ks.length : Int) < n)))], (gSt l d kd s n (ks, j)).mem, 4, 72⟩) :
  AWp Tryz.prog [] 1 (.loop (nthLoop Tryz.f37 0)) st Q := by
 refine AWp.ph 37 4 ?_
 refine AWp.loopAt nnΓ (fun x : List Val × Nat => (x.1.length : Int) ≤ n ∧ (∀ v ∈ x.1, genV d v) ∧ j0 ≤ x.2 ∧ x.2 ≤ j0 + x.1.length * genCost d) (gSt l d kd s n) (fun x => 4 - x.1.length) ([], j0) σ ⟨by simpa using hn0, by simp, Nat.le_refl _, by simp⟩ h0 ?_
 rintro ⟨ks, j⟩ ⟨h1, h2, h3, h4⟩
 have hc := genCost_pos d
 simp only at h1 h2 h3 h4
 have hmul : ks.length * genCost d ≤ 3 * genCost d := Nat.mul_le_mul_right _ (by omega)
 conv => whnf
 refine bcs_mk (fun h => ?_) (fun h => ?_)
 ·have hlt : (ks.length : Int) < n := by simpa using h
  have hmul2 : ks.length * genCost d ≤ 2 * genCost d := Nat.mul_le_mul_right _ (by omega)
  conv => whnf
  refine ACalls.use1 nnΓ (ih j (by omega)) 0 rfl (gNN l j) (.cons (.ptr 0 0 0 0 rfl) (.cons (.eq (.int _ _) (by rw [wrap64 ⟨by omega, by omega⟩]; congr 1; omega)) .nil)) ?_
  rintro r m n' ⟨⟨vk, vn, vs, vks⟩, j', rfl, hv, g1, g2, rfl⟩
  refine ⟨_, rfl, encV_nn _, gNN l j', ?_⟩
  conv => whnf
  refine ⟨rfl, ?_⟩
  conv => whnf
  refine grd_mk (app_ok rfl rfl (by rw [encVs_length]) (by simp; omega)) ?_
  conv => whnf
  have hlen : ks.length + (List.take 1 (List.drop 0 [encV (Val.mk vk vn vs vks)])).length = (ks ++ [Val.mk vk vn vs vks]).length := by simp
  have hrow : encVs ks ++ List.take 1 (List.drop 0 [encV (Val.mk vk vn vs vks)]) = encVs (ks ++ [Val.mk vk vn vs vks]) := by simp [encVs_map]
  refine .mk (ks ++ [Val.mk vk vn vs vks], j') [(0, 0), (1, 1), (2, 2), (14, 3)] ⟨by simp; omega, fun v hm => ?_, by simp only; omega, ?_⟩
   (conv_mk _ rfl ⟨⟨0, _, rfl, rfl, .same (gNN l j')⟩, ⟨1, _, rfl, rfl, .same (.cons (.agg' (.cons (.int _ _) (.cons (.int _ _) (.cons (.str _) (.cons .nsl .nil))))) .nil)⟩,
    ⟨2, _, rfl, rfl, .cons (.agg (.cons (.same _ (.int _ _)) (.cons (.same _ (.int _ _)) (.cons (.same _ (.str _)) (.cons (.slE rfl hlen) .nil))))) .nil⟩,
    ⟨14, _, rfl, rfl, .eq (encVs_nn _) hrow⟩, trivial⟩
    ⟨⟨_, rfl, .ptr 0 0 0 0 rfl⟩, ⟨_, rfl, .same _ (.int _ _)⟩, ⟨_, rfl, .ptr 1 1 0 0 rfl⟩, ⟨_, rfl, .ptr 2 2 0 0 rfl⟩, ⟨_, rfl, .same _ (.int _ _)⟩, ⟨_, rfl, .eq (.int _ _) ?_⟩, trivial⟩) (by simp; omega)
  ·rcases List.mem_append.1 hm with hm | hm
   ·exact h2 v hm
   ·simp at hm; rw [hm]; exact hv
  ·simp only [List.length_append, List.length_singleton, Nat.add_mul]; omega
  ·rw [wrap64 ⟨by simp only; omega, by simp only; omega⟩]; simp
 ·conv => whnf
  exact hQ ks j (by omega) h2 h3 (by omega)
theorem gValue (l : List Int) : ∀ (d i : Nat), d ≤ 10 → i + genCost d ≤ 4611686018427387904 →
  ACalls Tryz.prog [] 37 [.ptr 0 0 0, .int .i64 d] [(0, gB l i)] 1 (gPost l d i) := by
 intro d
 induction d with
 | zero =>
  intro i _ hi
  simp only [genCost] at hi
  have hcd : genCost 0 = 6 := rfl
  refine acalls_run nnΓ Tryz.func37 rfl ?_
  conv => whnf
  refine gNextUse 7 (by omega) (by omega) (by omega) rfl fun k h1 h2 => ?_
  rcases (show (k = 0 ∨ k = 1 ∨ k = 4 ∨ k = 5) ∨ (k = 2 ∨ k = 6) ∨ k = 3 by omega) with hk | hk | rfl
  ·rcases hk with rfl | rfl | rfl | rfl
   all_goals
    conv => whnf
    refine gNextUse 5 (by omega) (by omega) (by omega) rfl fun a a1 a2 => ?_
    conv => whnf
    refine gNextUse 100 (by omega) (by omega) (by omega) rfl fun b b1 b2 => ?_
    conv => whnf
    refine gNextUse 7 (by omega) (by omega) (by omega) rfl fun c c1 c2 => ?_
    rcases (show c = 0 ∨ c = 1 ∨ c = 2 ∨ c = 3 ∨ c = 4 ∨ c = 5 ∨ c = 6 by omega) with rfl | rfl | rfl | rfl | rfl | rfl | rfl
    all_goals
     conv => whnf
     refine gFin (kids := []) rfl (.nil 4) (genV_leaf (.inl ⟨rfl, ?_, rfl, rfl⟩)) (by omega) (by omega)
     first | exact ⟨by omega, by omega⟩ | exact i64_wrap _
  ·rcases hk with rfl | rfl
   all_goals
    conv => whnf
    refine gNextUse 2 (by omega) (by omega) (by omega) rfl fun a a1 a2 => ?_
    conv => whnf
    exact gFin (kids := []) rfl (.nil 4) (genV_leaf (.inr (.inl ⟨rfl, by omega, rfl, rfl⟩))) (by omega) (by omega)
  ·conv => whnf
   refine gNextUse 4 (by omega) (by omega) (by omega) rfl fun c c1 c2 => ?_
   rcases (show c = 0 ∨ c = 1 ∨ c = 2 ∨ c = 3 by omega) with rfl | rfl | rfl | rfl
   all_goals
    conv => whnf
    exact gFin (kids := []) rfl (.nil 4) (genV_leaf (.inr (.inr (.inr ⟨rfl, rfl, by simp [genNames]⟩)))) (by omega) (by omega)
 | succ d ih =>
  intro i hd hi
  have hc := genCost_pos d
  have hcd : genCost (d + 1) = 4 * genCost d := rfl
  refine acalls_run nnΓ Tryz.func37 rfl ?_
  conv => whnf
  refine gNextUse 7 (by omega) (by omega) (by omega) rfl fun k h1 h2 => ?_
  rcases (show (k = 0 ∨ k = 1) ∨ k = 2 ∨ k = 3 ∨ (k = 4 ∨ k = 5) ∨ k = 6 by omega) with hk | rfl | rfl | hk | rfl
  ·rcases hk with rfl | rfl
   all_goals
    conv => whnf
    refine gNextUse 5 (by omega) (by omega) (by omega) rfl fun a a1 a2 => ?_
    conv => whnf
    refine gNextUse 100 (by omega) (by omega) (by omega) rfl fun b b1 b2 => ?_
    conv => whnf
    refine gNextUse 7 (by omega) (by omega) (by omega) rfl fun c c1 c2 => ?_
    rcases (show c = 0 ∨ c = 1 ∨ c = 2 ∨ c = 3 ∨ c = 4 ∨ c = 5 ∨ c = 6 by omega) with rfl | rfl | rfl | rfl | rfl | rfl | rfl
    all_goals
     conv => whnf
     refine gFin (kids := []) rfl (.nil 4) (genV_leaf (.inl ⟨rfl, ?_, rfl, rfl⟩)) (by omega) (by omega)
     first | exact ⟨by omega, by omega⟩ | exact i64_wrap _
  ·conv => whnf
   refine gNextUse 2 (by omega) (by omega) (by omega) rfl fun a a1 a2 => ?_
   conv => whnf
   exact gFin (kids := []) rfl (.nil 4) (genV_leaf (.inr (.inl ⟨rfl, by omega, rfl, rfl⟩))) (by omega) (by omega)
  ·conv => whnf
   refine gNextUse 4 (by omega) (by omega) (by omega) rfl fun c c1 c2 => ?_
   rcases (show c = 0 ∨ c = 1 ∨ c = 2 ∨ c = 3 by omega) with rfl | rfl | rfl | rfl
   all_goals
    conv => whnf
    exact gFin (kids := []) rfl (.nil 4) (genV_leaf (.inr (.inr (.inr ⟨rfl, rfl, by simp [genNames]⟩)))) (by omega) (by omega)
  ·rcases hk with rfl | rfl
   all_goals
    conv => whnf
    refine gNextUse 4 (by omega) (by omega) (by omega) rfl fun c c1 c2 => ?_
    conv => whnf
    refine gLoop l d (i + 1 + 1) (by omega) (by omega) (fun i' h => ih i' (by omega) h) 2 [] c c1 c2 _ _ [(0, 0), (1, 1), (2, 2), (3, 3)]
     (conv_mk _ rfl ⟨⟨0, _, rfl, rfl, .same (gNN l _)⟩, ⟨1, _, rfl, rfl, .same (.cons (.agg' (.cons (.int _ _) (.cons (.int _ _) (.cons (.str _) (.cons .nsl .nil))))) .nil)⟩,
      ⟨2, _, rfl, rfl, .cons (.agg (.cons (.same _ (.int _ _)) (.cons (.same _ (.int _ _)) (.cons (.same _ (.str _)) (.cons (.nslk 3 3 _ rfl rfl) .nil))))) .nil⟩,
      ⟨3, _, rfl, rfl, .nil⟩, trivial⟩
      ⟨⟨_, rfl, .ptr 0 0 0 0 rfl⟩, ⟨_, rfl, .same _ (.int _ _)⟩, ⟨_, rfl, .ptr 1 1 0 0 rfl⟩, ⟨_, rfl, .ptr 2 2 0 0 rfl⟩, ⟨_, rfl, .same _ (.int _ _)⟩, ⟨_, rfl, .same _ (.int _ _)⟩, trivial⟩) ?_
    intro ks j g1 g2 g3 g4
    conv => whnf
    exact gFin rfl (.fz' (by rfl) rfl (by simp [encVs_length]) (by simp [← encVs_length]) (encVs_nn ks)) ⟨.inr (.inr (.inl ⟨rfl, rfl, rfl⟩)), g1, g2⟩ (by omega) (by omega)
  ·conv => whnf
   refine gNextUse 3 (by omega) (by omega) (by omega) rfl fun e e1 e2 => ?_
   rcases (show e = 0 ∨ e = 1 ∨ e = 2 by omega) with rfl | rfl | rfl
   all_goals
    conv => whnf
    refine gNextUse 4 (by omega) (by omega) (by omega) rfl fun c c1 c2 => ?_
    conv => whnf
    refine gLoop l d (i + 1 + 1 + 1) (by omega) (by omega) (fun i' h => ih i' (by omega) h) 3 _ c c1 c2 _ _ [(0, 0), (1, 1), (2, 2), (4, 3)]
     (conv_mk _ rfl ⟨⟨0, _, rfl, rfl, .same (gNN l _)⟩, ⟨1, _, rfl, rfl, .same (.cons (.agg' (.cons (.int _ _) (.cons (.int _ _) (.cons (.str _) (.cons .nsl .nil))))) .nil)⟩,
      ⟨2, _, rfl, rfl, .cons (.agg (.cons (.same _ (.int _ _)) (.cons (.same _ (.int _ _)) (.cons (.same _ (.str _)) (.cons (.nslk 4 3 _ rfl rfl) .nil))))) .nil⟩,
      ⟨4, _, rfl, rfl, .nil⟩, trivial⟩
      ⟨⟨_, rfl, .ptr 0 0 0 0 rfl⟩, ⟨_, rfl, .same _ (.int _ _)⟩, ⟨_, rfl, .ptr 1 1 0 0 rfl⟩, ⟨_, rfl, .ptr 2 2 0 0 rfl⟩, ⟨_, rfl, .same _ (.int _ _)⟩, ⟨_, rfl, .same _ (.int _ _)⟩, trivial⟩) ?_
    intro ks j g1 g2 g3 g4
    conv => whnf
    exact gFin rfl (.fz' (by rfl) rfl (by simp [encVs_length]) (by simp [← encVs_length]) (encVs_nn ks)) ⟨.inr (.inr (.inr ⟨rfl, rfl, by simp [genNames]⟩)), g1, g2⟩ (by omega) (by omega)
set_option maxHeartbeats 4000000
theorem rMany (n : Nat) (hn : n ≤ 1000) : PureC Tryz.prog [] 86 [.int .i64 n] (.il 4 (encVs (manyV n))) := by
 refine acalls_run nnΓ Tryz.func86 rfl ?_
 conv => whnf
 refine AWp.ph 37 4 ?_
 refine AWp.loopAt nnΓ (fun k : Nat => k ≤ n)
  (fun k => ⟨[(0, .int .i64 n), (3, .sl 0 0 (manyV k).length), (4, .int .i64 k)], [(0, .row 37 4 (encVs (manyV k)))], 1, 17⟩)
  (fun k => n - k) 0 [(0, 0)] (by simp)
  (conv_mk _ rfl ⟨⟨0, _, rfl, rfl, .nil⟩, trivial⟩ ⟨⟨_, rfl, .same _ nn⟩, ⟨_, rfl, .nslk 0 0 _ rfl rfl⟩, ⟨_, rfl, .same _ nn⟩, trivial⟩) ?_
 intro k hk
 have hlen := manyV_length k
 conv => whnf
 refine bcs_mk (fun h => ?_) (fun h => ?_)
 ·have hlt : k < n := by simpa using h
  conv => whnf
  refine grd_mk (app_ok rfl rfl (by rw [encVs_length]) (by simp; omega)) ?_
  conv => whnf
  exact .mk (k + 1) [(2, 0)] (by omega) (conv_mk _ rfl ⟨⟨2, _, rfl, rfl, by rw [manyV_succ, encVs_snoc]; exact .snoc rfl (.same nns) (cvVal _ _ _)⟩, trivial⟩ ⟨⟨_, rfl, .same _ nn⟩, ⟨_, rfl, .slE rfl (by rw [manyV_succ]; simp)⟩, ⟨_, rfl, .w64 (by omega) ⟨by omega, by omega⟩⟩, trivial⟩) (by omega)
 ·have hk' : k = n := by simp at h; omega
  subst hk'
  conv => whnf
  exact fin_cv (.fz' rfl rfl (by rw [encVs_length]; omega) (by rw [← encVs_length]; simp) nns) ⟨rfl, rfl, rfl⟩
def bentQ (v : Val) : AV → Mem → Nat → Prop := fun r m n => ∃ v', r = encV v' ∧ okV v' ∧ sizeV v' ≤ sizeV v + 2000 ∧ m = [] ∧ n = 0
theorem bentF {v : Val} {r : AV} {m : Mem} {n : Nat} (v' : Val) (h : Cv m [] r (encV v')) (h1 : okV v') (h2 : sizeV v' ≤ sizeV v + 2000) : Fini 0 (bentQ v) r m n :=
 fin_cv h ⟨v', rfl, h1, h2, rfl, rfl⟩
theorem rBent : ∀ (v : Val) (which by_ : Int), okV v → sizeV v ≤ 1000000 → i64 by_ → ACalls Tryz.prog [] 38 [encV v, .int .i64 which, .int .i64 by_] [] 0 (bentQ v)
 | .mk vk vn vs ks, which, by_, hv, hsz, hb => by
  have hv0 := hv
  simp only [okV] at hv
  obtain ⟨hv1, hv2, hv3, hv4, hv5⟩ := hv
  have hl := sizeL_len ks
  have hsz' : sizeL ks + 1 ≤ 1000000 := by simp only [sizeV] at hsz; omega
  have ih : ∀ a ∈ ks, ∀ which, ACalls Tryz.prog [] 38 [encV a, .int .i64 which, .int .i64 by_] [] 0 (bentQ a) := fun a hm which => rBent a which by_ (okVs_mem hv5 a hm) (by have := sizeV_mem hm; omega) hb
  refine acalls_run nnΓ Tryz.func38 rfl ?_
  conv => whnf
  refine bcs_mk (fun h => ?_) (fun h => ?_)
  case' refine_1 =>
   have hpos : 0 < ks.length := by rw [encVs_length] at h; simpa using h
   rw [h]
   conv => whnf
   refine ACalls.pre nnΓ [(3, 3), (1, 1), (0, 0)] (mem' := [(3, gB [which, IntKind.i64.wrap (which.tdiv 7), IntKind.i64.wrap (which.tdiv 49)] 0), (1, .row 37 4 [.agg [.int .i64 0, .int .i64 0, .str [], .nsl]]), (0, .row 37 4 [encV (.mk vk vn vs ks)])]) rfl
    ⟨⟨3, _, rfl, rfl, .cons (.agg (.cons (.fz' rfl rfl (by simp) rfl nns) (.cons (.int rfl) .nil))) .nil⟩, ⟨1, _, rfl, rfl, .same nns⟩, ⟨0, _, rfl, rfl, .same nns⟩, trivial⟩ (.cons (.ptr 3 3 0 0 rfl) (.cons (.same _ nn) .nil)) ?_
   refine gNextAt 3 2 (by omega) (by omega) (by omega) rfl fun k h1 h2 => ?_
   conv => whnf
   refine bcs_mk (fun hk => ?_) (fun hk => ?_)
   ·conv => whnf
    refine gNextAt 3 _ (by omega) (by rw [encVs_length]; omega) (by rw [encVs_length]; omega) rfl fun j j1 j2 => ?_
    obtain ⟨q, rfl⟩ := Int.eq_ofNat_of_zero_le j1
    have hq : q < ks.length := by rw [encVs_length] at j2; omega
    obtain ⟨a, b, c, d, hm, hg, he, e1⟩ := enc_cases hq
    have hb1 : Nat.blt (q : Int).toNat (encVs ks).length = true := Nat.ble_eq_true_of_le (by rw [encVs_length]; simp; omega)
    have e2 : (encVs ks)[0 + (q : Int).toNat]? = some (encV (.mk a b c d)) := by rw [Nat.zero_add]; exact e1
    conv => whnf
    refine grd_mk (app_nil rfl (by rw [encVs_length]; omega)) ?_
    conv => whnf
    refine grd_mk hb1 ?_
    conv => whnf
    refine opt_mk e2 ?_
    conv => whnf
    refine opt_mk e2 ?_
    conv => whnf
    refine ACalls.go0 (ih _ hm _) ?_
    rintro r m n ⟨⟨a', b', c', d'⟩, rfl, o1, o2, rfl, rfl⟩
    refine ⟨_, .same _ nn, ?_⟩
    conv => whnf
    refine grd_mk hb1 ?_
    conv => whnf
    refine opt_mk e2 ?_
    conv => whnf
    refine opt_mk e2 ?_
    conv => whnf
    refine setK_iff.2 ?_
    conv => whnf
    have hset := sizeL_set (.mk a' b' c' d') hq
    rw [he] at hset
    refine bentF (.mk vk vn vs (ks.set q (.mk a' b' c' d'))) (.agg' (.cons (.same _ nn) (.cons (.same _ nn) (.cons (.same _ nn) (.cons (.fzR rfl rfl (.eq nns ?_) ?_) .nil)))))
     (okV_list hv1 hv2 hv3 (by simpa using hv4) (okVs_set hv5 o1)) (by simp only [sizeV] at hset o2 ⊢; omega)
    ·rw [encVs_set, Nat.zero_add, Int.toNat_natCast]; rfl
    ·simp [encVs_length]
   conv => whnf
   refine gNextAt 3 7 (by omega) (by omega) (by omega) rfl fun k7 h3 h4 => ?_
  case' refine_2 =>
   rw [h]
   conv => whnf
   refine ACalls.pre nnΓ [(3, 3), (1, 1), (0, 0)] (mem' := [(3, gB [which, IntKind.i64.wrap (which.tdiv 7), IntKind.i64.wrap (which.tdiv 49)] 0), (1, .row 37 4 [.agg [.int .i64 0, .int .i64 0, .str [], .nsl]]), (0, .row 37 4 [encV (.mk vk vn vs ks)])]) rfl
    ⟨⟨3, _, rfl, rfl, .cons (.agg (.cons (.fz' rfl rfl (by simp) rfl nns) (.cons (.int rfl) .nil))) .nil⟩, ⟨1, _, rfl, rfl, .same nns⟩, ⟨0, _, rfl, rfl, .same nns⟩, trivial⟩ (.cons (.ptr 3 3 0 0 rfl) (.cons (.same _ nn) .nil)) ?_
   refine gNextAt 3 7 (by omega) (by omega) (by omega) rfl fun k7 h3 h4 => ?_
  all_goals
   rcases (show k7 = 0 ∨ k7 = 1 ∨ k7 = 2 ∨ k7 = 3 ∨ k7 = 4 ∨ k7 = 5 ∨ k7 = 6 by omega) with rfl | rfl | rfl | rfl | rfl | rfl | rfl
   ·conv => whnf
    exact bentF (.mk by_ vn vs ks) (.same _ nn) (okV_list hb hv2 hv3 hv4 hv5) (by simp only [sizeV]; omega)
   ·conv => whnf
    exact bentF (.mk vk by_ vs ks) (.same _ nn) (okV_list hv1 hb hv3 hv4 hv5) (by simp only [sizeV]; omega)
   ·conv => whnf
    refine ACalls.pre nnΓ [(6, 6), (4, 4), (1, 1), (0, 0)] (mem' := [(6, gB [by_] 0), (4, .row 9 1 [.str [], .str [97], .str [90], .str [65, 66, 67, 68, 69, 70, 71, 72, 73, 74, 75, 76, 77, 78, 79, 80], .str [65, 66, 67, 68, 69, 70, 71, 72, 73, 74, 75, 76, 77, 78, 79, 80, 81], .str [65, 45], .str [65, 98, 57, 95]]), (1, .row 37 4 [.agg [.int .i64 0, .int .i64 0, .str [], .nsl]]), (0, .row 37 4 [encV (.mk vk vn vs ks)])]) rfl
     ⟨⟨6, _, rfl, rfl, .cons (.agg (.cons (.fz' rfl rfl (by simp) rfl nns) (.cons (.int rfl) .nil))) .nil⟩, ⟨4, _, rfl, rfl, .same nns⟩, ⟨1, _, rfl, rfl, .same nns⟩, ⟨0, _, rfl, rfl, .same nns⟩, trivial⟩ (.cons (.ptr 6 6 0 0 rfl) (.cons (.same _ nn) .nil)) ?_
    refine gNextAt 6 7 (by omega) (by omega) (by omega) rfl fun s s1 s2 => ?_
    rcases (show s = 0 ∨ s = 1 ∨ s = 2 ∨ s = 3 ∨ s = 4 ∨ s = 5 ∨ s = 6 by omega) with rfl | rfl | rfl | rfl | rfl | rfl | rfl
    all_goals
     conv => whnf
     exact bentF (.mk vk vn _ ks) (.same _ nn) (okV_list hv1 hv2 (by simp) hv4 hv5) (by simp only [sizeV]; omega)
   ·conv => whnf
    refine grd_mk (app_ok rfl rfl (by simp) (by rw [encVs_length]; omega)) ?_
    conv => whnf
    refine bentF (.mk vk vn vs (.mk 0 by_ [] [] :: ks)) (.agg' (.cons (.same _ nn) (.cons (.same _ nn) (.cons (.same _ nn) (.cons (.fzR rfl rfl (.cons (cvVal _ _ _) (.same nns)) ?_) .nil))))) (okV_list hv1 hv2 hv3 (by simp; omega) ⟨okV_leaf ⟨by omega, by omega⟩ hb, hv5⟩) (by simp only [sizeV, sizeL]; omega)
    simp [encVs_length]; omega
   ·conv => whnf
    refine ACalls.pre nnΓ [(5, 5), (1, 1), (0, 0)] (mem' := [(5, gB [by_] 0), (1, .row 37 4 [.agg [.int .i64 0, .int .i64 0, .str [], .nsl]]), (0, .row 37 4 [encV (.mk vk vn vs ks)])]) rfl
     ⟨⟨5, _, rfl, rfl, .cons (.agg (.cons (.fz' rfl rfl (by simp) rfl nns) (.cons (.int rfl) .nil))) .nil⟩, ⟨1, _, rfl, rfl, .same nns⟩, ⟨0, _, rfl, rfl, .same nns⟩, trivial⟩ (.cons (.ptr 5 5 0 0 rfl) (.cons (.same _ nn) .nil)) ?_
    refine gNextAt 5 6 (by omega) (by omega) (by omega) rfl fun s s1 s2 => ?_
    conv => whnf
    have hw : IntKind.i64.wrap (253 + s) = ((253 + s.toNat : Nat) : Int) := w64 (by omega) ⟨by omega, by omega⟩
    rw [hw]
    refine (rMany (253 + s.toNat) (by omega)).go ?_
    conv => whnf
    exact bentF (.mk 2 0 [] (manyV (253 + s.toNat))) (.same _ nn) (okV_list ⟨by omega, by omega⟩ ⟨by omega, by omega⟩ (by simp) (by rw [manyV_length]; omega) (manyV_ok _)) (by simp only [sizeV, manyV_size]; omega)
   ·conv => whnf
    refine ACalls.pre nnΓ [(5, 5), (1, 1), (0, 0)] (mem' := [(5, gB [by_] 0), (1, .row 37 4 [.agg [.int .i64 0, .int .i64 0, .str [], .nsl]]), (0, .row 37 4 [encV (.mk vk vn vs ks)])]) rfl
     ⟨⟨5, _, rfl, rfl, .cons (.agg (.cons (.fz' rfl rfl (by simp) rfl nns) (.cons (.int rfl) .nil))) .nil⟩, ⟨1, _, rfl, rfl, .same nns⟩, ⟨0, _, rfl, rfl, .same nns⟩, trivial⟩ (.cons (.ptr 5 5 0 0 rfl) (.cons (.same _ nn) .nil)) ?_
    refine gNextAt 5 5 (by omega) (by omega) (by omega) rfl fun s s1 s2 => ?_
    conv => whnf
    have hw : IntKind.i64.wrap (14 + s) = ((14 + s.toNat : Nat) : Int) := w64 (by omega) ⟨by omega, by omega⟩
    rw [hw]
    refine (rMany (14 + s.toNat) (by omega)).go ?_
    conv => whnf
    exact bentF (.mk 3 0 [77] (manyV (14 + s.toNat))) (.same _ nn) (okV_list ⟨by omega, by omega⟩ ⟨by omega, by omega⟩ (by simp) (by rw [manyV_length]; omega) (manyV_ok _)) (by simp only [sizeV, manyV_size]; omega)
   ·conv => whnf
    refine (rMany 250 (by omega)).go ?_
    conv => whnf
    refine (rMany 255 (by omega)).go ?_
    conv => whnf
    refine (rMany 256 (by omega)).go ?_
    conv => whnf
    refine ACalls.pre nnΓ [(5, 5), (1, 1), (0, 0)] (mem' := [(5, gB [by_] 0), (1, .row 37 4 [.agg [.int .i64 0, .int .i64 0, .str [], .nsl]]), (0, .row 37 4 [encV (.mk vk vn vs ks)])]) rfl
     ⟨⟨5, _, rfl, rfl, .cons (.agg (.cons (.fz' rfl rfl (by simp) rfl nns) (.cons (.int rfl) .nil))) .nil⟩, ⟨1, _, rfl, rfl, .same nns⟩, ⟨0, _, rfl, rfl, .same nns⟩, trivial⟩ (.cons (.ptr 5 5 0 0 rfl) (.cons (.same _ nn) .nil)) ?_
    refine gNextAt 5 5 (by omega) (by omega) (by omega) rfl fun s s1 s2 => ?_
    conv => whnf
    have hw : IntKind.i64.wrap (252 + s) = ((252 + s.toNat : Nat) : Int) := w64 (by omega) ⟨by omega, by omega⟩
    rw [hw]
    refine (rMany (252 + s.toNat) (by omega)).go ?_
    conv => whnf
    refine bentF (.mk 2 0 [] [.mk 2 0 [] (manyV 250), .mk 2 0 [] (manyV 255), .mk 2 0 [] (manyV 256), .mk 2 0 [] (manyV (252 + s.toNat)), .mk 0 by_ [] [], .mk 0 1 [] []])
     (.agg' (.cons (.same _ nn) (.cons (.same _ nn) (.cons (.same _ nn) (.cons (.fzR rfl rfl (.cons (CvE.same (x := encV (.mk 2 0 [] (manyV 250))) nn) (.cons (CvE.same (x := encV (.mk 2 0 [] (manyV 255))) nn) (.cons (CvE.same (x := encV (.mk 2 0 [] (manyV 256))) nn) (.cons (CvE.same (x := encV (.mk 2 0 [] (manyV (252 + s.toNat)))) nn) (.cons (cvVal _ _ _) (.cons (cvVal _ _ _) .nil)))))) rfl) .nil)))))
     ?_ (by simp only [sizeV, sizeL, manyV_size]; omega)
    have hz : i64 0 := ⟨by omega, by omega⟩
    have h2 : i64 2 := ⟨by omega, by omega⟩
    have hmany : ∀ n : Nat, n ≤ 4294967296 → okV (.mk 2 0 [] (manyV n)) := fun n hn => okV_list h2 hz (by simp) (by rw [manyV_length]; omega) (manyV_ok _)
    exact okV_list h2 hz (by simp) (by simp) ⟨hmany _ (by omega), hmany _ (by omega), hmany _ (by omega), hmany _ (by omega), okV_leaf hz hb, okV_leaf hz ⟨by omega, by omega⟩, trivial⟩
 termination_by v => SizeOf.sizeOf v
 decreasing_by simp; have := List.sizeOf_lt_of_mem hm; omega
theorem rSome (l : List Int) (bent by_ : Int) (hb : i64 by_) : ACalls Tryz.prog [] 11 [.il 1 (Go.Ax.encI l), .int .i64 bent, .int .i64 by_] [] 0 fun r m n => ∃ v', r = encV v' ∧ okV v' ∧ sizeV v' ≤ 10000 ∧ (bent ≤ 0 → genV 3 v') ∧ m = [] ∧ n = 0 := by
 refine acalls_run nnΓ Tryz.func11 rfl ?_
 conv => whnf
 refine ACalls.use1 nnΓ (gValue l 3 0 (by omega) (by decide)) 1 rfl (gNN l 0) (.cons (.ptr 1 0 0 0 rfl) (.cons (.same _ nn) .nil)) ?_
 rintro r m n ⟨⟨a, b, c, d⟩, j, rfl, hv, g1, g2, rfl⟩
 have hok := genV_ok hv
 have hsz := genV_size hv
 refine ⟨_, rfl, nn, gNN l j, ?_⟩
 conv => whnf
 refine bcs_mk (fun h => ?_) (fun h => ?_)
 ·have h : 0 < bent := by simpa using h
  conv => whnf
  refine ACalls.go0 (rBent (.mk a b c d) bent by_ hok (by omega) hb) ?_
  rintro r m n ⟨⟨a', b', c', d'⟩, rfl, o1, o2, rfl, rfl⟩
  refine ⟨_, .same _ nn, ?_⟩
  conv => whnf
  exact fin_pure nn ⟨_, rfl, o1, by omega, fun h' => by omega, rfl, rfl⟩
 ·conv => whnf
  exact fin_pure nn ⟨_, rfl, hok, by omega, fun _ => hv, rfl, rfl⟩
theorem isNaNI (x : Int) : PureC Tryz.prog [] 106 [.int .i64 x] (.bool false) := by
 refine acalls_run nnΓ Tryz.func106 rfl ?_
 conv => whnf
 refine fin_pure (.bool _) ⟨?_, rfl, rfl⟩
 simp
theorem isNaNS (x : List UInt8) : PureC Tryz.prog [] 107 [.str x] (.bool false) := by
 refine acalls_run nnΓ Tryz.func107 rfl ?_
 conv => whnf
 refine fin_pure (.bool _) ⟨?_, rfl, rfl⟩
 simp
theorem cmpInt (x y : Int) : PureC Tryz.prog [] 52 [.int .i64 x, .int .i64 y] (.int .i64 (cmpI x y)) := by
 refine acalls_run nnΓ Tryz.func52 rfl ?_
 conv => whnf
 refine (isNaNI x).use nnΓ (.cons (.int _ _) .nil) (.bool _) ?_
 conv => whnf
 refine (isNaNI y).use nnΓ (.cons (.int _ _) .nil) (.bool _) ?_
 conv => whnf
 refine bcs_mk (fun h => ?_) (fun h => ?_)
 ·conv => whnf
  refine fin_pure (.int _ _) ⟨?_, rfl, rfl⟩
  simp at h
  simp [cmpI, h]
 conv => whnf
 refine bcs_mk (fun h' => ?_) (fun h' => ?_)
 ·conv => whnf
  refine fin_pure (.int _ _) ⟨?_, rfl, rfl⟩
  simp at h h'
  simp only [cmpI]
  rw [if_neg (by omega), if_pos (by omega)]
 ·conv => whnf
  refine fin_pure (.int _ _) ⟨?_, rfl, rfl⟩
  simp at h h'
  simp only [cmpI]
  rw [if_neg (by omega), if_neg (by omega)]
theorem cmpStr (x y : List UInt8) : PureC Tryz.prog [] 53 [.str x, .str y] (.int .i64 (cmpS x y)) := by
 refine acalls_run nnΓ Tryz.func53 rfl ?_
 conv => whnf
 refine (isNaNS x).use nnΓ (.cons (.str _) .nil) (.bool _) ?_
 conv => whnf
 refine (isNaNS y).use nnΓ (.cons (.str _) .nil) (.bool _) ?_
 conv => whnf
 refine bcs_mk (fun h => ?_) (fun h => ?_)
 ·conv => whnf
  refine fin_pure (.int _ _) ⟨?_, rfl, rfl⟩
  rw [cmpS_less.1 h]
 conv => whnf
 refine bcs_mk (fun h' => ?_) (fun h' => ?_)
 ·conv => whnf
  refine fin_pure (.int _ _) ⟨?_, rfl, rfl⟩
  rw [cmpS_more h h']
 ·conv => whnf
  refine fin_pure (.int _ _) ⟨?_, rfl, rfl⟩
  rw [cmpS_same h h']
theorem cmpFunc (l1 l2 : List Val) (hb : l1.length ≤ 4294967296) (hc : ∀ a ∈ l1, ∀ b ∈ l2, PureC Tryz.prog [] 19 [encV a, encV b] (.int .i64 (cmpV a b))) :
  PureC Tryz.prog [] 54 [.il 4 (encVs l1), .il 4 (encVs l2), .fn (.func 19) [] []] (.int .i64 (cmpL l1 l2)) := by
 have n1 : NN (.il 4 (encVs l1)) := .il' (encVs_nn l1)
 have n2 : NN (.il 4 (encVs l2)) := .il' (encVs_nn l2)
 have n3 : NN (.fn (.func 19) [] []) := .fn _ _ _ (by simp) (by simp)
 refine acalls_run nnΓ Tryz.func54 rfl ?_
 conv => whnf
 refine AWp.loopAt nnΓ (fun k : Nat => k ≤ l1.length ∧ k ≤ l2.length ∧ cmpL l1 l2 = cmpL (l1.drop k) (l2.drop k))
  (fun k => ⟨[(0, .il 4 (encVs l1)), (1, .il 4 (encVs l2)), (2, .fn (.func 19) [] []), (11, .il 4 (encVs l1)), (12, .int .i64 (encVs l1).length), (13, .int .i64 k)], [], 0, 39⟩)
  (fun k => l1.length - k) 0 [] ⟨by simp, by simp, by simp⟩
  (conv_pure ⟨⟨_, rfl, .same _ n1⟩, ⟨_, rfl, .same _ n2⟩, ⟨_, rfl, .same _ n3⟩, ⟨_, rfl, .same _ n1⟩, ⟨_, rfl, .same _ (.int _ _)⟩, ⟨_, rfl, .same _ (.int _ _)⟩, trivial⟩) ?_
 rintro k ⟨h1, h2, h3⟩
 conv => whnf
 refine bcs_mk (fun h => ?_) (fun h => ?_)
 ·have hk : k < l1.length := by rw [encVs_length] at h; simpa using h
  obtain ⟨⟨ka, na, sa, ksa⟩, hv⟩ : ∃ v, v = l1[k] := ⟨_, rfl⟩
  have hm : Val.mk ka na sa ksa ∈ l1 := by rw [hv]; exact List.getElem_mem hk
  have e : (encVs l1)[(k : Int).toNat]? = some (encV (.mk ka na sa ksa)) := by rw [Int.toNat_natCast, encVs_get, List.getElem?_eq_getElem hk, hv]; rfl
  conv => whnf
  refine opt_mk e ?_
  conv => whnf
  refine bcs_mk (fun h' => ?_) (fun h' => ?_)
  ·have hk2 : k = l2.length := by rw [encVs_length] at h'; simp at h'; omega
   conv => whnf
   refine fin_pure (.int _ _) ⟨?_, rfl, rfl⟩
   rw [h3, List.drop_of_length_le (l := l2) (by omega), List.drop_eq_getElem_cons hk, cmpL]
  ·have hk2 : k < l2.length := by rw [encVs_length] at h'; simpa using h'
   obtain ⟨⟨kb, nb, sb, ksb⟩, hv2⟩ : ∃ v, v = l2[k] := ⟨_, rfl⟩
   have hm2 : Val.mk kb nb sb ksb ∈ l2 := by rw [hv2]; exact List.getElem_mem hk2
   have e2 : (encVs l2)[(k : Int).toNat]? = some (encV (.mk kb nb sb ksb)) := by rw [Int.toNat_natCast, encVs_get, List.getElem?_eq_getElem hk2, hv2]; rfl
   conv => whnf
   refine opt_mk e2 ?_
   conv => whnf
   refine (hc _ hm _ hm2).use nnΓ (.cons (encV_nn _) (.cons (encV_nn _) .nil)) (.int _ _) ?_
   conv => whnf
   have hs := cmpL_step hk hk2
   rw [← hv, ← hv2] at hs
   refine bcs_mk (fun h4 => ?_) (fun h4 => ?_)
   ·conv => whnf
    refine fin_pure (.int _ _) ⟨?_, rfl, rfl⟩
    have h4 : cmpV (.mk ka na sa ksa) (.mk kb nb sb ksb) ≠ 0 := by simpa using h4
    rw [h3, hs, andThen, if_neg h4]
   ·have h4 : cmpV (.mk ka na sa ksa) (.mk kb nb sb ksb) = 0 := by simpa using h4
    conv => whnf
    refine .mk (k + 1) [] ⟨by omega, by omega, ?_⟩ (conv_pure ⟨⟨_, rfl, .same _ n1⟩, ⟨_, rfl, .same _ n2⟩, ⟨_, rfl, .same _ n3⟩, ⟨_, rfl, .same _ n1⟩, ⟨_, rfl, .same _ (.int _ _)⟩, ⟨_, rfl, .eq (.int _ _) ?_⟩, trivial⟩) (by omega)
    ·rw [h3, hs, andThen, if_pos h4]
    ·rw [wrap64 ⟨by omega, by omega⟩]; rfl
 ·have hk : k = l1.length := by rw [encVs_length] at h; simp at h; omega
  have hd : l1.drop k = [] := List.drop_of_length_le (by omega)
  conv => whnf
  refine bcs_mk (fun h' => ?_) (fun h' => ?_)
  ·have hk2 : l1.length < l2.length := by rw [encVs_length, encVs_length] at h'; simpa using h'
   conv => whnf
   refine fin_pure (.int _ _) ⟨?_, rfl, rfl⟩
   rw [h3, hd, List.drop_eq_getElem_cons (show k < l2.length by omega), cmpL]
  ·have hk2 : l2.length ≤ l1.length := by rw [encVs_length, encVs_length] at h'; simpa using h'
   conv => whnf
   refine fin_pure (.int _ _) ⟨?_, rfl, rfl⟩
   rw [h3, hd, List.drop_of_length_le (by omega), cmpL]
theorem vCompare : ∀ (a b : Val), okV a → PureC Tryz.prog [] 19 [encV a, encV b] (.int .i64 (cmpV a b))
 | .mk ka na sa ksa, .mk kb nb sb ksb, ha => by
  simp only [okV] at ha
  have hkids : ∀ a ∈ ksa, ∀ b ∈ ksb, PureC Tryz.prog [] 19 [encV a, encV b] (.int .i64 (cmpV a b)) := fun a hm b _ => vCompare a b (okVs_mem ha.2.2.2.2 a hm)
  refine acalls_run nnΓ Tryz.func19 rfl ?_
  conv => whnf
  refine (cmpInt ka kb).use nnΓ (.cons (.int _ _) (.cons (.int _ _) .nil)) (.int _ _) ?_
  conv => whnf
  refine bcs_mk (fun h => ?_) (fun h => ?_)
  ·conv => whnf
   refine fin_pure (.int _ _) ⟨?_, rfl, rfl⟩
   have h : cmpI ka kb ≠ 0 := by simpa using h
   rw [cmpV, andThen, if_neg h]
  have h : cmpI ka kb = 0 := by simpa using h
  conv => whnf
  refine (cmpInt na nb).use nnΓ (.cons (.int _ _) (.cons (.int _ _) .nil)) (.int _ _) ?_
  conv => whnf
  refine bcs_mk (fun h2 => ?_) (fun h2 => ?_)
  ·conv => whnf
   refine fin_pure (.int _ _) ⟨?_, rfl, rfl⟩
   have h2 : cmpI na nb ≠ 0 := by simpa using h2
   rw [cmpV, andThen, if_pos h, andThen, if_neg h2]
  have h2 : cmpI na nb = 0 := by simpa using h2
  conv => whnf
  refine (cmpStr sa sb).use nnΓ (.cons (.str _) (.cons (.str _) .nil)) (.int _ _) ?_
  conv => whnf
  refine bcs_mk (fun h3 => ?_) (fun h3 => ?_)
  ·conv => whnf
   refine fin_pure (.int _ _) ⟨?_, rfl, rfl⟩
   have h3 : cmpS sa sb ≠ 0 := by simpa using h3
   rw [cmpV, andThen, if_pos h, andThen, if_pos h2, andThen, if_neg h3]
  have h3 : cmpS sa sb = 0 := by simpa using h3
  conv => whnf
  refine (cmpFunc ksa ksb ha.2.2.2.1 hkids).use nnΓ (.cons (.il' (encVs_nn _)) (.cons (.il' (encVs_nn _)) (.cons (.fn _ _ _ (by simp) (by simp)) .nil))) (.int _ _) ?_
  conv => whnf
  refine fin_pure (.int _ _) ⟨?_, rfl, rfl⟩
  rw [cmpV, andThen, if_pos h, andThen, if_pos h2, andThen, if_pos h3]
 termination_by a => SizeOf.sizeOf a
 decreasing_by simp; have := List.sizeOf_lt_of_mem hm; omega
theorem signC (b : Bool) : PureC Tryz.prog [] 69 [.bool b] (.int .i64 (if b then -1 else 1)) := by
 refine acalls_run nnΓ Tryz.func69 rfl ?_
 conv => whnf
 refine bcs_mk (fun h => ?_) (fun h => ?_)
 ·conv => whnf
  exact fin_pure (.int _ _) ⟨by rw [h]; rfl, rfl, rfl⟩
 ·conv => whnf
  exact fin_pure (.int _ _) ⟨by rw [h]; rfl, rfl, rfl⟩
theorem rCompare : ∀ (a b : Val), okV a → PureC Tryz.prog [] 31 [encV a, encV b] (.int .i64 (cmpV a b))
 | .mk ka na sa ksa, .mk kb nb sb ksb, ha => by
  simp only [okV] at ha
  have hb : ksa.length ≤ 4294967296 := ha.2.2.2.1
  have hkids : ∀ a ∈ ksa, ∀ b ∈ ksb, PureC Tryz.prog [] 31 [encV a, encV b] (.int .i64 (cmpV a b)) := fun a hm b _ => rCompare a b (okVs_mem ha.2.2.2.2 a hm)
  refine acalls_run nnΓ Tryz.func31 rfl ?_
  conv => whnf
  refine bcs_mk (fun h => ?_) (fun h => ?_)
  ·conv => whnf
   refine (signC _).use nnΓ (.cons (.bool _) .nil) (.int _ _) ?_
   conv => whnf
   refine fin_pure (.int _ _) ⟨?_, rfl, rfl⟩
   rw [cmpV_kind (by simpa using h)]
   simp
  have h : ka = kb := by simpa using h
  conv => whnf
  refine bcs_mk (fun h2 => ?_) (fun h2 => ?_)
  ·conv => whnf
   refine (signC _).use nnΓ (.cons (.bool _) .nil) (.int _ _) ?_
   conv => whnf
   refine fin_pure (.int _ _) ⟨?_, rfl, rfl⟩
   rw [cmpV_n h (by simpa using h2)]
   simp
  have h2 : na = nb := by simpa using h2
  conv => whnf
  refine bcs_mk (fun h3 => ?_) (fun h3 => ?_)
  ·conv => whnf
   refine (signC _).use nnΓ (.cons (.bool _) .nil) (.int _ _) ?_
   conv => whnf
   refine fin_pure (.int _ _) ⟨?_, rfl, rfl⟩
   rw [cmpV_s h h2 (by simpa using h3)]
  have h3 : sa = sb := by simpa using h3
  have hcmp : cmpV (.mk ka na sa ksa) (.mk kb nb sb ksb) = cmpL ksa ksb := cmpV_l h h2 h3
  conv => whnf
  refine AWp.loopAt nnΓ (fun k : Nat => k ≤ ksa.length ∧ k ≤ ksb.length ∧ cmpL ksa ksb = cmpL (ksa.drop k) (ksb.drop k))
   (fun k => ⟨[(2, .ptr 0 0 0), (3, .ptr 1 0 0), (5, .int .i64 k)], [(1, .row 37 4 [encV (.mk kb nb sb ksb)]), (0, .row 37 4 [encV (.mk ka na sa ksa)])], 2, 83⟩)
   (fun k => ksa.length - k) 0 [(0, 0), (1, 1)] ⟨by simp, by simp, by simp⟩
   (conv_mk _ rfl ⟨⟨1, _, rfl, rfl, .same (.cons (encV_nn _) .nil)⟩, ⟨0, _, rfl, rfl, .same (.cons (encV_nn _) .nil)⟩, trivial⟩ ⟨⟨_, rfl, .ptr 0 0 0 0 rfl⟩, ⟨_, rfl, .ptr 1 1 0 0 rfl⟩, ⟨_, rfl, .same _ (.int _ _)⟩, trivial⟩) ?_
  rintro k ⟨h4, h5, h6⟩
  conv => whnf
  refine bcs_mk (fun h7 => ?_) (fun h7 => ?_)
  ·have hk : k < ksa.length := by rw [encVs_length] at h7; simpa using h7
   rw [h7]
   conv => whnf
   refine bcs_mk (fun h8 => ?_) (fun h8 => ?_)
   ·have hk2 : k < ksb.length := by rw [encVs_length] at h8; simpa using h8
    conv => whnf
    have e1 := enc_at hk
    have e2 := enc_at hk2
    obtain ⟨⟨k1, n1, s1, ks1⟩, hv1⟩ : ∃ v, v = ksa[k] := ⟨_, rfl⟩
    obtain ⟨⟨k2, n2, s2, ks2⟩, hv2⟩ : ∃ v, v = ksb[k] := ⟨_, rfl⟩
    rw [← hv1] at e1
    rw [← hv2] at e2
    refine opt_mk e1 ?_
    conv => whnf
    refine opt_mk e2 ?_
    conv => whnf
    have hm1 : Val.mk k1 n1 s1 ks1 ∈ ksa := by rw [hv1]; exact List.getElem_mem hk
    have hm2 : Val.mk k2 n2 s2 ks2 ∈ ksb := by rw [hv2]; exact List.getElem_mem hk2
    have hs := cmpL_step hk hk2
    rw [← hv1, ← hv2] at hs
    refine (hkids _ hm1 _ hm2).use nnΓ (.cons (encV_nn _) (.cons (encV_nn _) .nil)) (.int _ _) ?_
    conv => whnf
    refine bcs_mk (fun h9 => ?_) (fun h9 => ?_)
    ·have h9 : cmpV (.mk k1 n1 s1 ks1) (.mk k2 n2 s2 ks2) ≠ 0 := by simpa using h9
     conv => whnf
     refine fin_pure (.int _ _) ⟨?_, rfl, rfl⟩
     rw [hcmp, h6, hs, andThen, if_neg h9]
    ·have h9 : cmpV (.mk k1 n1 s1 ks1) (.mk k2 n2 s2 ks2) = 0 := by simpa using h9
     conv => whnf
     refine .mk (k + 1) [(0, 0), (1, 1)] ⟨by omega, by omega, by rw [h6, hs, andThen, if_pos h9]⟩ (conv_mk _ rfl ⟨⟨1, _, rfl, rfl, .same (.cons (encV_nn _) .nil)⟩, ⟨0, _, rfl, rfl, .same (.cons (encV_nn _) .nil)⟩, trivial⟩ ⟨⟨_, rfl, .ptr 0 0 0 0 rfl⟩, ⟨_, rfl, .ptr 1 1 0 0 rfl⟩, ⟨_, rfl, .eq (.int _ _) ?_⟩, trivial⟩) (by omega)
     rw [wrap64 ⟨by omega, by omega⟩]; rfl
   ·have hk2 : k = ksb.length := by rw [encVs_length] at h8; simp at h8; omega
    conv => whnf
    refine bcs_mk (fun h9 => ?_) (fun h9 => ?_)
    ·exfalso
     rw [encVs_length, encVs_length] at h9
     simp at h9
     omega
    ·conv => whnf
     refine (signC _).use nnΓ (.cons (.bool _) .nil) (.int _ _) ?_
     conv => whnf
     refine fin_pure (.int _ _) ⟨?_, rfl, rfl⟩
     rw [hcmp, h6, List.drop_of_length_le (l := ksb) (by omega), List.drop_eq_getElem_cons hk, cmpL, encVs_length, encVs_length, if_neg (by simp; omega)]
  ·have hk : k = ksa.length := by rw [encVs_length] at h7; simp at h7; omega
   have hd : ksa.drop k = [] := List.drop_of_length_le (by omega)
   rw [h7]
   conv => whnf
   refine bcs_mk (fun h9 => ?_) (fun h9 => ?_)
   ·have h9 : ksa.length = ksb.length := by rw [encVs_length, encVs_length] at h9; simp at h9; omega
    conv => whnf
    refine fin_pure (.int _ _) ⟨?_, rfl, rfl⟩
    rw [hcmp, h6, hd, List.drop_of_length_le (by omega), cmpL]
   ·have h9 : ksa.length ≠ ksb.length := by rw [encVs_length, encVs_length] at h9; simp at h9; omega
    conv => whnf
    refine (signC _).use nnΓ (.cons (.bool _) .nil) (.int _ _) ?_
    conv => whnf
    refine fin_pure (.int _ _) ⟨?_, rfl, rfl⟩
    rw [hcmp, h6, hd, List.drop_eq_getElem_cons (show k < ksb.length by omega), cmpL, encVs_length, encVs_length, if_pos (by simp; omega)]
 termination_by a => SizeOf.sizeOf a
 decreasing_by simp; have := List.sizeOf_lt_of_mem hm; omega
set_option maxHeartbeats 4000000
def eqV (a b : Val) : Bool := cmpV a b == 0
theorem rEqual (a b : Val) (ho : okV a) : PureC Tryz.prog [] 17 [encV a, encV b] (.bool (eqV a b)) := by
 have hC := rCompare a b ho
 unfold eqV
 obtain ⟨c, hc⟩ : ∃ c, c = cmpV a b := ⟨_, rfl⟩
 rw [← hc] at hC ⊢
 clear hc
 refine acalls_go nnΓ Tryz.func17 rfl ?_
 obtain ⟨a1, a2, a3, a4⟩ := a
 obtain ⟨b1, b2, b3, b4⟩ := b
 ((conv=>whnf);repeat(refine Xg ?_;conv=>whnf))
 refine hC.go ?_
 ((conv=>whnf);repeat(refine Xg ?_;conv=>whnf))
 exact fin_pure (.bool _) ⟨rfl, rfl, rfl⟩
set_option maxHeartbeats 4000000
def TxQ (s : List UInt8) (r : AV) (m : Mem) (n : Nat) : Prop := r = .tup [] ∧ bN s m n
theorem txFin {s : List UInt8} {mem : Mem} {nx i : Nat} (h0 : lk mem 0 = some (bC (.ptr 0 0 0) i s.length)) (h1 : lk mem i = some (.row 5 1 (encB s))) (hi : 2 ≤ i) : Fini 2 (TxQ s) (.tup []) mem nx := by
 have e0 : Nat.beq 0 i = false := nbeq_ne (by omega)
 have si : lk [(0, 0), (i, 2)] i = some 2 := by simp [lk, e0]
 exact fin_mk (r' := .tup []) (m' := [(0, bC (.ptr 0 0 0) 2 s.length), (2, .row 5 1 (encB s))]) (n' := 3) [(0, 0), (i, 2)] rfl
  ⟨⟨0, _, rfl, h0, bC_cv (a := true) rfl si⟩, ⟨i, _, si, h1, .same (encB_nn _)⟩, trivial⟩ (.same _ nn) ⟨rfl, rfl, rfl⟩
theorem xNumber (a : Bool) (s : List UInt8) (v2 : Int) (v3 : List UInt8) (v4 : List Val) (hn : i64 v2) (hs : s.length ≤ 90000000) : ACalls Tryz.prog gz 156 [.ptr 0 0 0, encV (.mk 0 v2 v3 v4)] (bM a s) 2 (TxQ (s ++ Lib.itoa v2)) := by
 have hI := sItoa v2 hn
 have hl := itoa_len hn
 generalize Lib.itoa v2 = w at hI hl ⊢
 refine acalls_go nngz Tryz.func156 rfl ?_
 ((conv=>whnf);repeat(refine Xg ?_;conv=>whnf))
 refine hI.use nngz nns nn ?_
 ((conv=>whnf);repeat(refine Xg ?_;conv=>whnf))
 refine bUse 1 nngz (bString a s w (by omega)).glob rfl rfl rfl rfl ?_
 ((conv=>whnf);repeat(refine Xg ?_;conv=>whnf))
 exact txFin (i := 10) rfl rfl (by omega)
theorem xTruth (a : Bool) (s : List UInt8) (v2 : Int) (v3 : List UInt8) (v4 : List Val) (hs : s.length ≤ 90000000) : ACalls Tryz.prog gz 157 [.ptr 0 0 0, encV (.mk 1 v2 v3 v4)] (bM a s) 2 (TxQ (s ++ if v2 = 1 then tTrue else tFalse)) := by
 have hF := sFormatBool (v2 == 1)
 have e : (if (v2 == 1) = true then tTrue else tFalse) = if v2 = 1 then tTrue else tFalse := by simp
 rw [e] at hF
 have hl : (if v2 = 1 then tTrue else tFalse).length ≤ 5 := by split <;> simp [tTrue, tFalse]
 generalize (if v2 = 1 then tTrue else tFalse) = w at hF hl ⊢
 refine acalls_go nngz Tryz.func157 rfl ?_
 ((conv=>whnf);repeat(refine Xg ?_;conv=>whnf))
 refine hF.goG ?_
 ((conv=>whnf);repeat(refine Xg ?_;conv=>whnf))
 refine bUse 1 nngz (bString a s w (by omega)).glob rfl rfl rfl rfl ?_
 ((conv=>whnf);repeat(refine Xg ?_;conv=>whnf))
 exact txFin (i := 11) rfl rfl (by omega)
theorem xKids (s : List UInt8) (v1 v2 : Int) (v3 : List UInt8) (ks : List Val) (hok : okVs ks) (hf : formedL ks = true) (hs : s.length + 40 * sizeL ks ≤ 80000000)
  (ih : ∀ v ∈ ks, ∀ s : List UInt8, s.length + 40 * sizeV v ≤ 80000000 → ACalls Tryz.prog gz 50 [.ptr 0 0 0, encV v] (bM true s) 2 (TxQ (s ++ printV v))) :
  ACalls Tryz.prog gz 198 [.ptr 0 0 0, encV (.mk v1 v2 v3 ks)] (bM true s) 2 (TxQ (s ++ printL ks)) := by
 have hkl := sizeL_len ks
 refine acalls_go nngz Tryz.func198 rfl ?_
 ((conv=>whnf);repeat(refine Xg ?_;conv=>whnf))
 refine ALoop.at nngz (fun k : Nat => k ≤ ks.length)
  (fun k => ⟨[(0, .ptr 0 0 0), (7, .il 4 (encVs ks)), (8, .int .i64 ks.length), (9, .int .i64 k)], [(0, bC (.ptr 0 0 0) 2 (s ++ printL (ks.take k)).length), (2, .row 5 1 (encB (s ++ printL (ks.take k))))], 3, 24⟩) (fun k => ks.length - k) 0 [(0, 0), (1, 2)] (by simp)
  (conv_mk _ rfl ⟨⟨0, _, rfl, rfl, .cons (.agg (.cons (.ptr 0 0 0 0 rfl) (.cons (.slE rfl (by simp [printL])) .nil))) .nil⟩, ⟨1, _, rfl, rfl, .eq (encB_nn _) (by simp [printL])⟩, trivial⟩ ⟨⟨_, rfl, .ptr 0 0 0 0 rfl⟩, ⟨_, rfl, .same _ nn⟩, ⟨_, rfl, .int (by rw [encVs_length])⟩, ⟨_, rfl, .same _ nn⟩, trivial⟩) ?_
 intro k hk
 ((conv=>whnf);repeat(refine Xg ?_;conv=>whnf))
 refine bcs_mk (fun h => ?_) (fun h => ?_)
 ·have hlt : k < ks.length := by simpa using h
  obtain ⟨a, b, c, d, hm, hg, he, e1⟩ := enc_cases hlt
  have hih := ih _ hm
  have hpt := printL_take hlt
  rw [he] at hpt
  have hbound := printL_len (ks.take k) (okVs_take hok _) (formedL_takeT hf _)
  have hsz := sizeL_take_le ks (k + 1)
  rw [sizeL_take hlt, he] at hsz
  generalize printV (.mk a b c d) = pv at hih hpt
  obtain ⟨pl, hpl⟩ : ∃ pl, pl = printL (ks.take k) := ⟨_, rfl⟩
  rw [← hpl] at hpt hbound ⊢
  by_cases hk0 : k = 0
  ·subst hk0
   ((conv=>whnf);repeat(refine Xg ?_;conv=>whnf))
   refine opt_mk e1 ?_
   ((conv=>whnf);repeat(refine Xg ?_;conv=>whnf))
   refine bUse 2 nngz (hih (s ++ pl) (by simp; omega)) rfl rfl rfl rfl ?_
   ((conv=>whnf);repeat(refine Xg ?_;conv=>whnf))
   have hnx : s ++ pl ++ pv = s ++ printL (ks.take (0 + 1)) := by rw [hpt]; simp
   exact .mk (0 + 1) [(0, 0), (4, 2)] (by omega) (conv_mk _ rfl ⟨⟨0, _, rfl, rfl, .cons (.agg (.cons (.ptr 0 0 0 0 rfl) (.cons (.slE rfl (by rw [hnx])) .nil))) .nil⟩, ⟨4, _, rfl, rfl, .eq (encB_nn _) (by rw [hnx])⟩, trivial⟩ ⟨⟨_, rfl, .ptr 0 0 0 0 rfl⟩, ⟨_, rfl, .same _ nn⟩, ⟨_, rfl, .same _ nn⟩, ⟨_, rfl, .w64 (by omega) ⟨by omega, by omega⟩⟩, trivial⟩) (by omega)
  ·have d1 : decide ((k : Int) > 0) = true := by simp; omega
   ((conv=>whnf);repeat(refine Xg ?_;conv=>whnf))
   refine opt_mk e1 ?_
   ((conv=>whnf);repeat(refine Xg ?_;conv=>whnf))
   rw [d1]
   ((conv=>whnf);repeat(refine Xg ?_;conv=>whnf))
   have hpos := sizeL_len (ks.take k)
   rw [List.length_take] at hpos
   refine bUse 2 nngz (bString true (s ++ pl) [44, 32] (by simp; omega)).glob rfl rfl rfl rfl ?_
   ((conv=>whnf);repeat(refine Xg ?_;conv=>whnf))
   refine bUse 4 nngz (hih (s ++ pl ++ [44, 32]) (by simp; omega)) rfl rfl rfl rfl ?_
   ((conv=>whnf);repeat(refine Xg ?_;conv=>whnf))
   have hnx : s ++ pl ++ [44, 32] ++ pv = s ++ printL (ks.take (k + 1)) := by rw [hpt, if_pos (by omega)]; simp
   exact .mk (k + 1) [(0, 0), (5, 2)] (by omega) (conv_mk _ rfl ⟨⟨0, _, rfl, rfl, .cons (.agg (.cons (.ptr 0 0 0 0 rfl) (.cons (.slE rfl (by rw [hnx])) .nil))) .nil⟩, ⟨5, _, rfl, rfl, .eq (encB_nn _) (by rw [hnx])⟩, trivial⟩ ⟨⟨_, rfl, .ptr 0 0 0 0 rfl⟩, ⟨_, rfl, .same _ nn⟩, ⟨_, rfl, .same _ nn⟩, ⟨_, rfl, .w64 (by omega) ⟨by omega, by omega⟩⟩, trivial⟩) (by omega)
 ·have hke : k = ks.length := by simp at h; omega
  subst hke
  rw [List.take_length]
  ((conv=>whnf);repeat(refine Xg ?_;conv=>whnf))
  exact txFin (i := 2) rfl rfl (by omega)
theorem xList (a : Bool) (s : List UInt8) (v1 v2 : Int) (v3 : List UInt8) (ks : List Val) (hok : okVs ks) (hf : formedL ks = true) (hs : s.length + 40 * (1 + sizeL ks) ≤ 80000000)
  (ih : ∀ v ∈ ks, ∀ s : List UInt8, s.length + 40 * sizeV v ≤ 80000000 → ACalls Tryz.prog gz 50 [.ptr 0 0 0, encV v] (bM true s) 2 (TxQ (s ++ printV v))) :
  ACalls Tryz.prog gz 158 [.ptr 0 0 0, encV (.mk v1 v2 v3 ks)] (bM a s) 2 (TxQ (s ++ 91 :: (printL ks ++ [93]))) := by
 have hK := xKids (s ++ [91]) v1 v2 v3 ks hok hf (by simp; omega) ih
 have hbound := printL_len ks hok hf
 generalize printL ks = pl at hK hbound ⊢
 refine acalls_go nngz Tryz.func158 rfl ?_
 ((conv=>whnf);repeat(refine Xg ?_;conv=>whnf))
 refine bUse 1 nngz (bByte a s 91 (by omega)).glob rfl rfl rfl rfl ?_
 ((conv=>whnf);repeat(refine Xg ?_;conv=>whnf))
 refine bUse 3 nngz hK rfl rfl rfl rfl ?_
 ((conv=>whnf);repeat(refine Xg ?_;conv=>whnf))
 refine bUse 4 nngz (bByte true (s ++ [91] ++ pl) 93 (by simp; omega)).glob rfl rfl rfl rfl ?_
 ((conv=>whnf);repeat(refine Xg ?_;conv=>whnf))
 have e : s ++ 91 :: (pl ++ [93]) = s ++ [91] ++ pl ++ [93] := by simp
 rw [e]
 exact txFin (i := 5) rfl rfl (by omega)
theorem xMade (a : Bool) (s : List UInt8) (v1 v2 : Int) (v3 : List UInt8) (ks : List Val) (hok : okVs ks) (hf : formedL ks = true) (hv3 : v3.length ≤ 16) (hs : s.length + 40 * (1 + sizeL ks) ≤ 80000000)
  (ih : ∀ v ∈ ks, ∀ s : List UInt8, s.length + 40 * sizeV v ≤ 80000000 → ACalls Tryz.prog gz 50 [.ptr 0 0 0, encV v] (bM true s) 2 (TxQ (s ++ printV v))) :
  ACalls Tryz.prog gz 159 [.ptr 0 0 0, encV (.mk v1 v2 v3 ks)] (bM a s) 2 (TxQ (s ++ if ks = [] then v3 else v3 ++ 40 :: (printL ks ++ [41]))) := by
 have hK := xKids (s ++ v3 ++ [40]) v1 v2 v3 ks hok hf (by simp; omega) ih
 have hbound := printL_len ks hok hf
 generalize printL ks = pl at hK hbound ⊢
 refine acalls_go nngz Tryz.func159 rfl ?_
 ((conv=>whnf);repeat(refine Xg ?_;conv=>whnf))
 refine bUse 1 nngz (bString a s v3 (by omega)).glob rfl rfl rfl rfl ?_
 ((conv=>whnf);repeat(refine Xg ?_;conv=>whnf))
 refine bcs_mk (fun h => ?_) (fun h => ?_)
 ·have hne : ks ≠ [] := by rintro rfl; simp [encVs] at h
  rw [if_neg hne]
  ((conv=>whnf);repeat(refine Xg ?_;conv=>whnf))
  refine bUse 9 nngz (bByte true (s ++ v3) 40 (by simp; omega)).glob rfl rfl rfl rfl ?_
  ((conv=>whnf);repeat(refine Xg ?_;conv=>whnf))
  refine bUse 10 nngz hK rfl rfl rfl rfl ?_
  ((conv=>whnf);repeat(refine Xg ?_;conv=>whnf))
  refine bUse 11 nngz (bByte true (s ++ v3 ++ [40] ++ pl) 41 (by simp; omega)).glob rfl rfl rfl rfl ?_
  ((conv=>whnf);repeat(refine Xg ?_;conv=>whnf))
  have e : s ++ (v3 ++ 40 :: (pl ++ [41])) = s ++ v3 ++ [40] ++ pl ++ [41] := by simp
  rw [e]
  exact txFin (i := 12) rfl rfl (by omega)
 ·have hne : ks = [] := by
   cases ks with
   | nil => rfl
   | cons v r => simp [encVs] at h
  rw [if_pos hne]
  ((conv=>whnf);repeat(refine Xg ?_;conv=>whnf))
  exact txFin (i := 9) rfl rfl (by omega)
def kindsV : AV := .agg [.fn (.func 156) [.ptr 0 0 0] [], .fn (.func 157) [.ptr 0 0 0] [], .fn (.func 158) [.ptr 0 0 0] [], .fn (.func 159) [.ptr 0 0 0] []]
theorem cvFnP {mem : Mem} {σ : List (Nat × Nat)} {f : Fn} (h : lk σ 0 = some 0) : Cv mem σ (.fn f [.ptr 0 0 0] []) (.fn f [.ptr 0 0 0] []) :=
 .fn f _ _ _ _ rfl rfl (CvL.cons (.ptr 0 0 0 0 h) .nil).2 (CvL.nil).2
theorem cvKinds {mem : Mem} {σ : List (Nat × Nat)} (h : lk σ 0 = some 0) : Cv mem σ kindsV kindsV := .agg' (.cons (cvFnP h) (.cons (cvFnP h) (.cons (cvFnP h) (.cons (cvFnP h) .nil))))
theorem xKinds (a : Bool) (s : List UInt8) : ACalls Tryz.prog [] 105 [.ptr 0 0 0] (bM a s) 2 fun r m n => r = kindsV ∧ m = bM a s ∧ n = 2 := by
 refine acalls_go nnΓ Tryz.func105 rfl ?_
 ((conv=>whnf);repeat(refine Xg ?_;conv=>whnf))
 exact fin_mk (r' := kindsV) (m' := bM a s) (n' := 2) [(0, 0), (1, 1)] rfl ⟨⟨0, _, rfl, rfl, bC_cv rfl rfl⟩, ⟨1, _, rfl, rfl, .same (encB_nn _)⟩, trivial⟩ (cvKinds rfl) ⟨rfl, rfl, rfl⟩
theorem xValue : ∀ (v : Val) (a : Bool) (s : List UInt8), okV v → formedV v = true → s.length + 40 * sizeV v ≤ 80000000 → ACalls Tryz.prog gz 50 [.ptr 0 0 0, encV v] (bM a s) 2 (TxQ (s ++ printV v))
 | .mk k n t ks, a, s, ho, hf, hs => by
  simp only [okV] at ho
  obtain ⟨hv1, hv2, hv3, hv4, hv5⟩ := ho
  simp only [formedV, Bool.and_eq_true] at hf
  obtain ⟨hf1, hf2⟩ := hf
  simp only [sizeV] at hs
  have ih : ∀ v ∈ ks, ∀ s : List UInt8, s.length + 40 * sizeV v ≤ 80000000 → ACalls Tryz.prog gz 50 [.ptr 0 0 0, encV v] (bM true s) 2 (TxQ (s ++ printV v)) := fun v hm s h =>
   xValue v true s (okVs_mem hv5 v hm) (formedL_in hf2 hm) h
  rw [printV]
  unfold formed1 at hf1
  refine acalls_go nngz Tryz.func50 rfl ?_
  ((conv=>whnf);repeat(refine Xg ?_;conv=>whnf))
  refine ACalls.useN nngz [(0, 0), (1, 1)] (xKinds a s).glob rfl (.cons (.ptr 0 0 0 0 rfl) .nil) ⟨⟨0, _, rfl, rfl, bC_cv rfl rfl⟩, ⟨1, _, rfl, rfl, .same (encB_nn _)⟩, trivial⟩ rfl ?_
  rintro r m n' ⟨rfl, rfl, rfl⟩
  refine ⟨[(0, 0), (1, 1)], _, bM a s, 10, cvKinds rfl, ⟨⟨0, _, rfl, rfl, bC_cv rfl rfl⟩, ⟨1, _, rfl, rfl, .same (encB_nn _)⟩, trivial⟩, rfl, ?_⟩
  by_cases k0 : k = 0
  ·subst k0
   have hC := xNumber a s n t ks hv2 (by omega)
   rw [if_pos rfl]
   generalize Lib.itoa n = w at hC ⊢
   ((conv=>whnf);repeat(refine Xg ?_;conv=>whnf))
   repeat (refine ⟨rfl, ?_⟩; ((conv=>whnf);repeat(refine Xg ?_;conv=>whnf)))
   refine bUse 1 nngz hC rfl rfl rfl rfl ?_
   ((conv=>whnf);repeat(refine Xg ?_;conv=>whnf))
   exact txFin (i := 10) rfl rfl (by omega)
  ·rw [if_neg k0] at hf1 ⊢
   by_cases k1 : k = 1
   ·subst k1
    have hC := xTruth a s n t ks (by omega)
    rw [if_pos rfl]
    generalize (if n = 1 then tTrue else tFalse) = w at hC ⊢
    ((conv=>whnf);repeat(refine Xg ?_;conv=>whnf))
    repeat (refine ⟨rfl, ?_⟩; ((conv=>whnf);repeat(refine Xg ?_;conv=>whnf)))
    refine bUse 1 nngz hC rfl rfl rfl rfl ?_
    ((conv=>whnf);repeat(refine Xg ?_;conv=>whnf))
    exact txFin (i := 10) rfl rfl (by omega)
   ·rw [if_neg k1] at hf1 ⊢
    by_cases k2 : k = 2
    ·subst k2
     have hC := xList a s 2 n t ks hv5 hf2 (by omega) ih
     rw [if_pos rfl]
     generalize 91 :: (printL ks ++ [93]) = w at hC ⊢
     ((conv=>whnf);repeat(refine Xg ?_;conv=>whnf))
     repeat (refine ⟨rfl, ?_⟩; ((conv=>whnf);repeat(refine Xg ?_;conv=>whnf)))
     refine bUse 1 nngz hC rfl rfl rfl rfl ?_
     ((conv=>whnf);repeat(refine Xg ?_;conv=>whnf))
     exact txFin (i := 10) rfl rfl (by omega)
    ·rw [if_neg k2] at hf1 ⊢
     by_cases k3 : k = 3
     ·subst k3
      rw [if_pos rfl] at hf1
      have ht : t.length ≤ 16 := by
       rcases Nat.lt_or_ge 16 t.length with h | h
       ·rw [capital_long h] at hf1; simp at hf1
       ·exact h
      have hC := xMade a s 3 n t ks hv5 hf2 ht (by omega) ih
      generalize (if ks = [] then t else t ++ 40 :: (printL ks ++ [41])) = w at hC ⊢
      ((conv=>whnf);repeat(refine Xg ?_;conv=>whnf))
      repeat (refine ⟨rfl, ?_⟩; ((conv=>whnf);repeat(refine Xg ?_;conv=>whnf)))
      refine bUse 1 nngz hC rfl rfl rfl rfl ?_
      ((conv=>whnf);repeat(refine Xg ?_;conv=>whnf))
      exact txFin (i := 10) rfl rfl (by omega)
     ·rw [if_neg k3] at hf1
      cases hf1
set_option maxHeartbeats 4000000
theorem uStr (a : AB) (c : UInt8) (w : List UInt8) (hl : w.length ≤ 9000000000000) : aUString Tryz.prog [(0, a), (1, .row 5 1 (encB (c :: w)))] 167 (.ptr 1 0 0) (.int .i64 (((c :: w).length : Nat) : Int)) = some (.str (c :: w), [(0, a)]) := by
 have e1 : (((c :: w).length : Nat) : Int) = Int.ofNat (w.length + 1) := rfl
 have hb : bytesIn (List.take (w.length + 1) (encB (c :: w))) = some (c :: w) := by rw [encB_take, bytesIn_encB, List.take_of_length_le (by simp)]
 have hce : Tryz.prog.cellsOf 5 = 1 := by kernel_rfl
 have hbl : Nat.ble (w.length + 1) 9223372036854775807 = true := Nat.ble_eq_true_of_le (by omega)
 have hq : Nat.beq (c :: w).length (w.length + 1) = true := by simp
 rw [e1]
 simp only [aUString, lk, Tryz.underlying167, hce, hbl, hb, hq, drop]
 rfl
theorem bText (s : List UInt8) (hs : s ≠ []) (hl : s.length ≤ 1000000000) : ACalls Tryz.prog [] 51 [.ptr 0 0 0] (bM true s) 2 fun r m n => r = .str s ∧ m = [] ∧ n = 2 := by
 refine acalls_go nnΓ Tryz.func51 rfl ?_
 obtain ⟨c, w, rfl⟩ : ∃ c w, s = c :: w := by
  cases s with
  | nil => exact absurd rfl hs
  | cons c w => exact ⟨c, w, rfl⟩
 ((conv=>whnf);repeat(refine Xg ?_;conv=>whnf))
 repeat (refine ⟨rfl, ?_⟩; ((conv=>whnf);repeat(refine Xg ?_;conv=>whnf)))
 rw [uStr _ c w (by simp at hl; omega)]
 ((conv=>whnf);repeat(refine Xg ?_;conv=>whnf))
 exact fin_mk (r' := .str (c :: w)) (m' := []) (n' := 2) [] rfl trivial (.same _ nn) ⟨rfl, rfl, rfl⟩
theorem vPrint : ∀ v : Val, okV v → sizeV v ≤ 1000000 → PureC Tryz.prog gz 18 [encV v] (.str (if validV v = 0 then printV v else []))
 | .mk v1 v2 v3 v4, ho, hs => by
  have hV := vValid (.mk v1 v2 v3 v4) ho (by omega)
  obtain ⟨e, he⟩ : ∃ e, e = validV (.mk v1 v2 v3 v4) := ⟨_, rfl⟩
  rw [← he] at hV ⊢
  refine acalls_go nngz Tryz.func18 rfl ?_
  ((conv=>whnf);repeat(refine Xg ?_;conv=>whnf))
  refine hV.goG ?_
  by_cases h0 : e = 0
  ·subst h0
   rw [if_pos rfl]
   have hf := (valid_fits he.symm).1
   have hX := xValue (.mk v1 v2 v3 v4) false [] ho hf (by simp; omega)
   have hp := print_pos hf
   have hpl := print_len _ ho hf
   generalize printV (.mk v1 v2 v3 v4) = w at hX hp hpl ⊢
   have hwl : w.length ≤ 100000000 := by omega
   ((conv=>whnf);repeat(refine Xg ?_;conv=>whnf))
   refine ACalls.ph 5 1 ?_
   refine ACalls.useN nngz [(1, 0), (2, 1)] hX rfl (.cons (.ptr 1 0 0 0 rfl) (.same nns)) ⟨⟨1, _, rfl, rfl, .cons (.agg (.cons (.same _ nn) (.cons (.nslk 2 1 _ rfl rfl) .nil))) .nil⟩, ⟨2, _, rfl, rfl, .same .nil⟩, trivial⟩ rfl ?_
   rintro r m n ⟨rfl, rfl, rfl⟩
   rw [List.nil_append]
   refine ⟨[(0, 1), (2, 3)], _, [(1, .row 95 2 [.agg [.ptr 1 0 0, .sl 3 0 w.length]]), (3, .row 5 1 (encB w))], 4, .same _ nn, ⟨⟨0, _, rfl, rfl, .cons (.agg (.cons (.ptr 0 1 0 0 rfl) (.cons (.sl 2 3 0 _ rfl) .nil))) .nil⟩, ⟨2, _, rfl, rfl, .same (encB_nn _)⟩, trivial⟩, rfl, ?_⟩
   ((conv=>whnf);repeat(refine Xg ?_;conv=>whnf))
   refine ACalls.useN nngz [(1, 0), (3, 1)] (bText w (by rintro rfl; simp at hp) (by omega)).glob rfl (.cons (.ptr 1 0 0 0 rfl) .nil) ⟨⟨1, _, rfl, rfl, .cons (.agg (.cons (.ptr 1 0 0 0 rfl) (.cons (.sl 3 1 0 _ rfl) .nil))) .nil⟩, ⟨3, _, rfl, rfl, .same (encB_nn _)⟩, trivial⟩ rfl ?_
   rintro r m n ⟨rfl, rfl, rfl⟩
   refine ⟨[], _, [], 4, .same _ nn, trivial, rfl, ?_⟩
   ((conv=>whnf);repeat(refine Xg ?_;conv=>whnf))
   exact fin_pure nn ⟨rfl, rfl, rfl⟩
  ·have d1 : (e != 0) = true := by simpa using h0
   rw [if_neg h0]
   ((conv=>whnf);repeat(refine Xg ?_;conv=>whnf))
   rw [d1]
   ((conv=>whnf);repeat(refine Xg ?_;conv=>whnf))
   exact fin_pure nn ⟨rfl, rfl, rfl⟩
set_option maxRecDepth 1000000
theorem lives10 : ((fdeep Tryz.prog gz [] 60).call 16 [] [] 0 (fun r _ _ => saysTrue r) fun _ _ _ => False) = True := by kernel_rfl
end Go.Proofs.YtelmpofoeinfoaaGreatDoor
