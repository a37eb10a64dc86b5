/- A part of the proof: DVals. -/
import Derived.Test.YtoanjpeoclkjgaaDoorAxPSort
import Derived.Test.YtoanjpeoclkjgaaDoorAxPGen
import Derived.Test.YtoanjpeoclkjgaaDoorProg
import Derived.Test.YtoanjpeoclkjgaaDoorAxDCmp
import Derived.Test.YtoanjpeoclkjgaaDoorAxDGen
import Derived.KernelRfl
namespace Go.Proofs.YtoanjpeoclkjgaaDoor
open Go Go.Ax Go.Proofs
set_option maxRecDepth 100000

theorem isAt_some {l : List Val} {k : Nat} {v a : Val} (h : l[k]? = some a) : isAt l k v = (cmpV a v == 0) := by simp [isAt, h]
theorem isAt_none {l : List Val} {k : Nat} {v : Val} (h : l.length ≤ k) : isAt l k v = false := by simp [isAt, List.getElem?_eq_none h]

/-- 'refuterref10.Find'. -/
theorem rFind (l : List Val) (v : Val) (hl : l.length ≤ 4294967296) (hok : ∀ a ∈ l, okV a) :
    PureC Tryd.prog [] 10 [.il 4 (encVs l), encV v] (.tup [.int .i64 (findV l v).1, .bool (findV l v).2]) := by
  obtain ⟨vk, vn, vs, vks⟩ := v
  have nl : NN (.il 4 (encVs l)) := .il' (encVs_nn l)
  have nt : ∀ (k : Int) (b : Bool), NN (.tup [.int .i64 k, .bool b]) := fun k b => .tup' (.cons (.int _ _) (.cons (.bool _) .nil))
  refine acalls_run nnΓ Tryd.func10 rfl ?_
  conv => whnf
  refine AWp.loopAt nnΓ (fun k : Nat => k ≤ l.length ∧ ∀ p a, p < k → l[p]? = some a → cmpV a (.mk vk vn vs vks) < 0)
    (fun k => ⟨[(0, .il 4 (encVs l)), (3, .ptr 0 0 0), (6, .int .i64 k)], [(0, .row 27 4 [encV (.mk vk vn vs vks)])], 1, 27⟩)
    (fun k => l.length - k) 0 [(0, 0)] ⟨by simp, by simp⟩
    (conv_mk _ rfl ⟨⟨0, _, rfl, rfl, .same (.cons (encV_nn _) .nil)⟩, trivial⟩ ⟨⟨_, rfl, .same _ nl⟩, ⟨_, rfl, .ptr 0 0 0 0 rfl⟩, ⟨_, rfl, .same _ (.int _ _)⟩, trivial⟩) ?_
  rintro k ⟨h1, h2⟩
  conv => whnf
  refine bcs_mk (fun h => ?_) (fun h => ?_)
  · have hk : k < l.length := by rw [encVs_length] at h; simpa using h
    have e := enc_at hk
    obtain ⟨⟨ak, an, az, aks⟩, hv⟩ : ∃ a, a = l[k] := ⟨_, rfl⟩
    rw [← hv] at e
    have hm : Val.mk ak an az aks ∈ l := by rw [hv]; exact List.getElem_mem hk
    have hg : l[k]? = some (Val.mk ak an az aks) := by rw [hv]; exact List.getElem?_eq_getElem hk
    conv => whnf
    refine opt_mk e ?_
    conv => whnf
    refine (rCompare (.mk ak an az aks) (.mk vk vn vs vks) (hok _ hm)).use nnΓ (.cons (encV_nn _) (.cons (encV_nn _) .nil)) (.int _ _) ?_
    conv => whnf
    refine bcs_mk (fun h3 => ?_) (fun h3 => ?_)
    · have h3 : 0 ≤ cmpV (.mk ak an az aks) (.mk vk vn vs vks) := by simpa using h3
      conv => whnf
      refine fin_pure (nt _ _) ⟨?_, rfl, rfl⟩
      rw [findV_at h1 h2 (fun a ha => by rw [hg] at ha; cases ha; exact h3), isAt_some hg]
    · have h3 : cmpV (.mk ak an az aks) (.mk vk vn vs vks) < 0 := by simpa using h3
      conv => whnf
      refine .mk (k + 1) [(0, 0)] ⟨by omega, fun p a hp ha => ?_⟩ (conv_mk _ rfl ⟨⟨0, _, rfl, rfl, .same (.cons (encV_nn _) .nil)⟩, trivial⟩ ⟨⟨_, rfl, .same _ nl⟩, ⟨_, rfl, .ptr 0 0 0 0 rfl⟩, ⟨_, rfl, .eq (.int _ _) ?_⟩, trivial⟩) (by omega)
      · rcases Nat.lt_or_ge p k with hp' | hp'
        · exact h2 p a hp' ha
        · have : p = k := by omega
          subst this
          rw [hg] at ha
          cases ha
          exact h3
      · rw [wrap64 ⟨by omega, by omega⟩]; rfl
  · have hk : k = l.length := by rw [encVs_length] at h; simp at h; omega
    conv => whnf
    refine fin_pure (nt _ _) ⟨?_, rfl, rfl⟩
    rw [findV_at h1 h2 (fun a ha => by rw [List.getElem?_eq_none (by omega)] at ha; cases ha), isAt_none (by omega), encVs_length, hk]

/-- 'slices.BinarySearchFunc' over 'values.Compare'. -/
theorem vSearch (l : List Val) (v : Val) (hl : l.length ≤ 4294967296) (hok : ∀ a ∈ l, okV a) (hs : Srt l) :
    PureC Tryd.prog [] 19 [.il 4 (encVs l), encV v, .fn (.func 20) [] []] (.tup [.int .i64 (findV l v).1, .bool (findV l v).2]) := by
  obtain ⟨vk, vn, vs, vks⟩ := v
  have nl : NN (.il 4 (encVs l)) := .il' (encVs_nn l)
  have nf : NN (.fn (.func 20) [] []) := .fn _ _ _ (by simp) (by simp)
  have nt : ∀ (k : Int) (b : Bool), NN (.tup [.int .i64 k, .bool b]) := fun k b => .tup' (.cons (.int _ _) (.cons (.bool _) .nil))
  refine acalls_run nnΓ Tryd.func19 rfl ?_
  conv => whnf
  refine AWp.loopAt nnΓ (fun x : Nat × Nat => x.1 ≤ x.2 ∧ x.2 ≤ l.length ∧ (∀ p a, p < x.1 → l[p]? = some a → cmpV a (.mk vk vn vs vks) < 0) ∧ ∀ a, l[x.2]? = some a → 0 ≤ cmpV a (.mk vk vn vs vks))
    (fun x => ⟨[(0, .il 4 (encVs l)), (2, .fn (.func 20) [] []), (4, .ptr 0 0 0), (8, .int .i64 (encVs l).length), (9, .int .i64 x.1), (10, .int .i64 x.2)], [(0, .row 27 4 [encV (.mk vk vn vs vks)])], 1, 49⟩)
    (fun x => x.2 - x.1) (0, l.length) [(0, 0)] ⟨by simp, by simp, by simp, fun a ha => by simp at ha⟩
    (conv_mk _ rfl ⟨⟨0, _, rfl, rfl, .same (.cons (encV_nn _) .nil)⟩, trivial⟩ ⟨⟨_, rfl, .same _ nl⟩, ⟨_, rfl, .same _ nf⟩, ⟨_, rfl, .ptr 0 0 0 0 rfl⟩, ⟨_, rfl, .same _ (.int _ _)⟩, ⟨_, rfl, .same _ (.int _ _)⟩, ⟨_, rfl, .eq (.int _ _) (by rw [encVs_length])⟩, trivial⟩) ?_
  rintro ⟨i, j⟩ ⟨h1, h2, h3, h4⟩
  dsimp only at h1 h2 h3 h4 ⊢
  conv => whnf
  refine bcs_mk (fun h => ?_) (fun h => ?_)
  · have hij : i < j := by simpa using h
    have hw1 : IntKind.i64.wrap ((i : Int) + j) = ((i + j : Nat) : Int) := wrap64 ⟨by omega, by omega⟩
    have hw2 : IntKind.u64.wrap ((i + j : Nat) : Int) = ((i + j : Nat) : Int) := IntWalk.u64_in _ ⟨by omega, by omega⟩
    have hw3 : ((i + j : Nat) : Int).fdiv (2 ^ min (Int.toNat 1) IntKind.u64.bits) = (((i + j) / 2 : Nat) : Int) := by
      rw [show (2 : Int) ^ min (Int.toNat 1) IntKind.u64.bits = 2 from rfl, Int.fdiv_eq_ediv_of_nonneg _ (by omega)]
      omega
    have hw4 : IntKind.i64.wrap (((i + j) / 2 : Nat) : Int) = (((i + j) / 2 : Nat) : Int) := wrap64 ⟨by omega, by omega⟩
    generalize hm : (i + j) / 2 = m at *
    have hm1 : i ≤ m := by omega
    have hm2 : m < j := by omega
    have hk : m < l.length := by omega
    have e := enc_at hk
    obtain ⟨⟨ak, an, az, aks⟩, hv⟩ : ∃ a, a = l[m] := ⟨_, rfl⟩
    rw [← hv] at e
    have hmem : Val.mk ak an az aks ∈ l := by rw [hv]; exact List.getElem_mem hk
    have hg : l[m]? = some (Val.mk ak an az aks) := by rw [hv]; exact List.getElem?_eq_getElem hk
    conv => whnf
    rw [hw1, hw2, hw3, hw4]
    conv => whnf
    refine opt_mk e ?_
    conv => whnf
    refine (vCompare (.mk ak an az aks) (.mk vk vn vs vks) (hok _ hmem)).use nnΓ (.cons (encV_nn _) (.cons (encV_nn _) .nil)) (.int _ _) ?_
    conv => whnf
    refine bcs_mk (fun h5 => ?_) (fun h5 => ?_)
    · have h5 : cmpV (.mk ak an az aks) (.mk vk vn vs vks) < 0 := by simpa using h5
      conv => whnf
      refine .mk (m + 1, j) [(0, 0)] ⟨by simp only; omega, h2, fun p a hp ha => ?_, h4⟩ (conv_mk _ rfl ⟨⟨0, _, rfl, rfl, .same (.cons (encV_nn _) .nil)⟩, trivial⟩ ⟨⟨_, rfl, .same _ nl⟩, ⟨_, rfl, .same _ nf⟩, ⟨_, rfl, .ptr 0 0 0 0 rfl⟩, ⟨_, rfl, .same _ (.int _ _)⟩, ⟨_, rfl, .eq (.int _ _) ?_⟩, ⟨_, rfl, .same _ (.int _ _)⟩, trivial⟩) (by simp only; omega)
      · simp only at hp
        rcases Nat.lt_or_ge p m with hp' | hp'
        · exact le_lt (by have := hs.get hp' ha hg; omega) h5
        · have : p = m := by omega
          subst this
          rw [hg] at ha
          cases ha
          exact h5
      · rw [wrap64 ⟨by omega, by omega⟩]; rfl
    · have h5 : 0 ≤ cmpV (.mk ak an az aks) (.mk vk vn vs vks) := by simpa using h5
      conv => whnf
      exact .mk (i, m) [(0, 0)] ⟨hm1, by simp only; omega, h3, fun a ha => by rw [hg] at ha; cases ha; exact h5⟩ (conv_mk _ rfl ⟨⟨0, _, rfl, rfl, .same (.cons (encV_nn _) .nil)⟩, trivial⟩ ⟨⟨_, rfl, .same _ nl⟩, ⟨_, rfl, .same _ nf⟩, ⟨_, rfl, .ptr 0 0 0 0 rfl⟩, ⟨_, rfl, .same _ (.int _ _)⟩, ⟨_, rfl, .same _ (.int _ _)⟩, ⟨_, rfl, .same _ (.int _ _)⟩, trivial⟩) (by simp only; omega)
  · have hij : i = j := by simp at h; omega
    subst hij
    have hf := findV_at h2 h3 h4
    conv => whnf
    refine bcs_mk (fun h5 => ?_) (fun h5 => ?_)
    · have hk : i < l.length := by rw [encVs_length] at h5; simpa using h5
      have e := enc_at hk
      obtain ⟨⟨ak, an, az, aks⟩, hv⟩ : ∃ a, a = l[i] := ⟨_, rfl⟩
      rw [← hv] at e
      have hmem : Val.mk ak an az aks ∈ l := by rw [hv]; exact List.getElem_mem hk
      have hg : l[i]? = some (Val.mk ak an az aks) := by rw [hv]; exact List.getElem?_eq_getElem hk
      rw [h5]
      conv => whnf
      refine opt_mk e ?_
      conv => whnf
      refine (vCompare (.mk ak an az aks) (.mk vk vn vs vks) (hok _ hmem)).use nnΓ (.cons (encV_nn _) (.cons (encV_nn _) .nil)) (.int _ _) ?_
      conv => whnf
      refine fin_pure (nt _ _) ⟨?_, rfl, rfl⟩
      rw [hf, isAt_some hg]
    · have hk : l.length ≤ i := by rw [encVs_length] at h5; simpa using h5
      rw [h5]
      conv => whnf
      refine fin_pure (nt _ _) ⟨?_, rfl, rfl⟩
      rw [hf, isAt_none hk]

/-- 'values.Find'. -/
theorem vFind (l : List Val) (v : Val) (hl : l.length ≤ 4294967296) (hok : ∀ a ∈ l, okV a) (hs : Srt l) :
    PureC Tryd.prog [] 13 [.il 4 (encVs l), encV v] (.tup [.int .i64 (findV l v).1, .bool (findV l v).2]) := by
  obtain ⟨vk, vn, vs, vks⟩ := v
  have nl : NN (.il 4 (encVs l)) := .il' (encVs_nn l)
  have nf : NN (.fn (.func 20) [] []) := .fn _ _ _ (by simp) (by simp)
  have nt : ∀ (k : Int) (b : Bool), NN (.tup [.int .i64 k, .bool b]) := fun k b => .tup' (.cons (.int _ _) (.cons (.bool _) .nil))
  refine acalls_run nnΓ Tryd.func13 rfl ?_
  conv => whnf
  refine (vSearch l (.mk vk vn vs vks) hl hok hs).use nnΓ (.cons nl (.cons (encV_nn _) (.cons nf .nil))) (nt _ _) ?_
  conv => whnf
  exact fin_pure (nt _ _) ⟨rfl, rfl, rfl⟩
end Go.Proofs.YtoanjpeoclkjgaaDoor
