/- A part of the proof: DGen. -/
import Derived.Test.YtoanjpeoclkjgaaDoorAxStr
import Derived.Test.YtoanjpeoclkjgaaDoorAxPGen
import Derived.Test.YtoanjpeoclkjgaaDoorProg
import Derived.KernelRfl
namespace Go.Proofs.YtoanjpeoclkjgaaDoor
open Go Go.Ax Go.Proofs
set_option maxRecDepth 100000

/-- The block of a 'refuterref10.G'. -/
def gB (l : List Int) (at_ : Nat) : AB := .row 35 2 [.agg [.il 1 (encI l), .int .i64 at_]]

theorem gNN (l : List Int) (i : Nat) : NNs [.agg [.il 1 (encI l), .int .i64 i]] := .cons (.agg' (.cons (.il' (encI_nn l)) (.cons (.int _ _) .nil))) .nil

theorem gNext (l : List Int) (i : Nat) (most : Int) (hi : i ≤ 4611686018427387904) (hm : most ≤ 4611686018427387904) :
    ACalls Tryd.prog [] 11 [.ptr 0 0 0, .int .i64 most] [(0, gB l i)] 1 fun r m n => ∃ k : Int, r = .int .i64 k ∧ 0 ≤ k ∧ (k = 0 ∨ k < most) ∧ m = [(0, gB l (i + 1))] := by
  refine acalls_run nnΓ Tryd.func11 rfl ?_
  have hw : IntKind.i64.wrap ((i : Int) + 1) = ((i + 1 : Nat) : Int) := wrap64 ⟨by omega, by omega⟩
  have fin : ∀ (k : Int) (n : Nat), 0 ≤ k → (k = 0 ∨ k < most) → Fini 1 (fun r m _ => ∃ k : Int, r = .int .i64 k ∧ 0 ≤ k ∧ (k = 0 ∨ k < most) ∧ m = [(0, gB l (i + 1))]) (.int .i64 k) [(0, .row 35 2 [.agg [.il 1 (encI l), .int .i64 (IntKind.i64.wrap ((i : Int) + 1))]])] n := by
    intro k n h1 h2
    refine fin_mk (n' := 1) (m' := [(0, gB l (i + 1))]) [(0, 0)] rfl ⟨⟨0, _, rfl, rfl, .eq (gNN l (i + 1)) (by rw [hw])⟩, trivial⟩ (.same _ (.int _ _)) ⟨k, rfl, h1, h2, rfl⟩
  conv => whnf
  refine bcs_mk (fun h => ?_) (fun h => ?_)
  · rw [h]
    conv => whnf
    exact fin 0 _ (by omega) (.inl rfl)
  · have hlt : i < l.length := by rw [encI_length] at h; simp at h; omega
    rw [h]
    conv => whnf
    refine bcs_mk (fun h2 => ?_) (fun h2 => ?_)
    · conv => whnf
      exact fin 0 _ (by omega) (.inl rfl)
    · have h2 : 2 ≤ most := by simpa using h2
      conv => whnf
      refine opt_mk (a := .int .i64 l[i]) (by rw [Int.toNat_natCast, encI_get, List.getElem?_eq_getElem hlt]; rfl) ?_
      conv => whnf
      refine grd_mk (by rw [decide_eq_false (by omega)]; rfl) ?_
      conv => whnf
      have hr : -most < l[i].tmod most ∧ l[i].tmod most < most := by
        constructor
        · have := Int.lt_tmod_of_pos l[i] (show 0 < most by omega); omega
        · exact Int.tmod_lt_of_pos _ (by omega)
      refine bcs_mk (fun h3 => ?_) (fun h3 => ?_)
      · have h3 : l[i].tmod most < 0 := by simpa using h3
        conv => whnf
        have hw2 : IntKind.i64.wrap (l[i].tmod most + most) = l[i].tmod most + most := wrap64 ⟨by omega, by omega⟩
        rw [hw2]
        exact fin _ _ (by omega) (.inr (by omega))
      · have h3 : 0 ≤ l[i].tmod most := by simpa using h3
        conv => whnf
        exact fin _ _ h3 (.inr hr.2)

/-- 'Next', used where the generator lies in block 0. -/
theorem gNextUse {l : List Int} {i : Nat} (most : Int) (hi : i ≤ 4611686018427387904) (hm : most ≤ 4611686018427387904) (hp : 1 ≤ most) {mem : Mem} {nx : Nat} {K : AV → Mem → Nat → Prop} (hg : lk mem 0 = some (gB l i))
    (hk : ∀ k : Int, 0 ≤ k → k < most → dropK 0 mem fun rest => K (.int .i64 k) ((0, gB l (i + 1)) :: rest) nx) : ACalls Tryd.prog [] 11 [.ptr 0 0 0, .int .i64 most] mem nx K := by
  refine ACalls.use1 nnΓ (gNext l i most hi hm) 0 hg (gNN l i) (.cons (.ptr 0 0 0 0 rfl) (.cons (.same _ (.int _ _)) .nil)) ?_
  rintro r m n ⟨k, rfl, h1, h2, rfl⟩
  exact ⟨_, rfl, .int _ _, gNN l (i + 1), hk k h1 (by omega)⟩

theorem i64_wrap (n : Int) : i64 (IntKind.i64.wrap n) := by
  rw [IntKind.wrap_i64]
  exact ⟨by omega, by omega⟩

/-- What is said of 'Value'. -/
def gPost (l : List Int) (d i : Nat) : AV → Mem → Nat → Prop := fun r m _ => ∃ (v : Val) (j : Nat), r = encV v ∧ genV d v ∧ i ≤ j ∧ j ≤ i + genCost d ∧ m = [(0, gB l j)]

theorem gFin {l : List Int} {d i j : Nat} {kd n : Int} {s : List UInt8} {kv : AV} {kids : List Val} {mem : Mem} {nx : Nat} (h0 : lk mem 0 = some (gB l j)) (hkv : Cv mem [(0, 0)] kv (.il 4 (encVs kids))) (hg : genV d (.mk kd n s kids)) (h1 : i ≤ j) (h2 : j ≤ i + genCost d) :
    Fini 1 (gPost l d i) (.agg [.int .i64 kd, .int .i64 n, .str s, kv]) mem nx :=
  fin_mk (n' := 1) (m' := [(0, gB l j)]) [(0, 0)] rfl ⟨⟨0, _, rfl, h0, .same (gNN l j)⟩, trivial⟩ (.agg' (.cons (.same _ (.int _ _)) (.cons (.same _ (.int _ _)) (.cons (.same _ (.str _)) (.cons hkv .nil))))) ⟨_, j, rfl, hg, h1, h2, rfl⟩

theorem genV_leaf {d : Nat} {k n : Int} {s : List UInt8} (h : genBase k n s []) : genV d (.mk k n s []) := by
  cases d with
  | zero => exact ⟨h, rfl⟩
  | succ d => exact ⟨h, by simp, by simp⟩

/-- The state at the head of the loop over the kids. -/
def gSt (l : List Int) (d : Nat) (kd : Int) (s : List UInt8) (n : Int) (x : List Val × Nat) : St :=
  ⟨[(0, .ptr 0 0 0), (1, .int .i64 (d + 1 : Nat)), (4, .ptr 1 0 0), (6, .ptr 2 0 0), (7, .int .i64 n), (8, .int .i64 x.1.length)],
    [(0, gB l x.2), (1, .row 27 4 [.agg [.int .i64 0, .int .i64 0, .str [], .nsl]]), (2, .row 27 4 [.agg [.int .i64 kd, .int .i64 0, .str s, .sl 3 0 x.1.length]]), (3, .row 27 4 (encVs x.1))], 4, 72⟩

theorem gLoop (l : List Int) (d j0 : Nat) (hd : d < 10) (hj0 : j0 + 3 * genCost d ≤ 4611686018427387904)
    (ih : ∀ i, i + genCost d ≤ 4611686018427387904 → ACalls Tryd.prog [] 12 [.ptr 0 0 0, .int .i64 d] [(0, gB l i)] 1 (gPost l d i))
    (kd : Int) (s : List UInt8) (n : Int) (hn0 : 0 ≤ n) (hn : n < 4) (Q : Exit → St → Prop) (st : St) (σ : List (Nat × Nat)) (h0 : Conv 1 σ ⟨st.sl, (st.nx, .row 27 4 []) :: st.mem, st.nx + 1, st.nt⟩ (gSt l d kd s n ([], j0)))
    (hQ : ∀ (ks : List Val) (j : Nat), ks.length ≤ 3 → (∀ v ∈ ks, genV d v) → j0 ≤ j → j ≤ j0 + 3 * genCost d →
      Q (.exit 1) ⟨[(0, .ptr 0 0 0), (1, .int .i64 (d + 1 : Nat)), (4, .ptr 1 0 0), (6, .ptr 2 0 0), (7, .int .i64 n), (8, .int .i64 ks.length), (57, .int .i64 ks.length), (58, .int .i64 n), (59, .bool (decide ((ks.length : Int) < n)))], (gSt l d kd s n (ks, j)).mem, 4, 72⟩) :
    AWp Tryd.prog [] 1 (.loop (nthLoop Tryd.f12 0)) st Q := by
  refine AWp.ph 27 4 ?_
  refine AWp.loopAt nnΓ (fun x : List Val × Nat => (x.1.length : Int) ≤ n ∧ (∀ v ∈ x.1, genV d v) ∧ j0 ≤ x.2 ∧ x.2 ≤ j0 + x.1.length * genCost d) (gSt l d kd s n) (fun x => 4 - x.1.length) ([], j0) σ ⟨by simpa using hn0, by simp, Nat.le_refl _, by simp⟩ h0 ?_
  rintro ⟨ks, j⟩ ⟨h1, h2, h3, h4⟩
  have hc := genCost_pos d
  simp only at h1 h2 h3 h4
  have hmul : ks.length * genCost d ≤ 3 * genCost d := Nat.mul_le_mul_right _ (by omega)
  conv => whnf
  refine bcs_mk (fun h => ?_) (fun h => ?_)
  · have hlt : (ks.length : Int) < n := by simpa using h
    have hmul2 : ks.length * genCost d ≤ 2 * genCost d := Nat.mul_le_mul_right _ (by omega)
    conv => whnf
    refine ACalls.use1 nnΓ (ih j (by omega)) 0 rfl (gNN l j) (.cons (.ptr 0 0 0 0 rfl) (.cons (.eq (.int _ _) (by rw [wrap64 ⟨by omega, by omega⟩]; congr 1; omega)) .nil)) ?_
    rintro r m n' ⟨⟨vk, vn, vs, vks⟩, j', rfl, hv, g1, g2, rfl⟩
    refine ⟨_, rfl, encV_nn _, gNN l j', ?_⟩
    conv => whnf
    refine ⟨rfl, ?_⟩
    conv => whnf
    refine grd_mk (app_ok rfl rfl (by rw [encVs_length]) (by simp; omega)) ?_
    conv => whnf
    have hlen : ks.length + (List.take 1 (List.drop 0 [encV (Val.mk vk vn vs vks)])).length = (ks ++ [Val.mk vk vn vs vks]).length := by simp
    have hrow : encVs ks ++ List.take 1 (List.drop 0 [encV (Val.mk vk vn vs vks)]) = encVs (ks ++ [Val.mk vk vn vs vks]) := by simp [encVs_map]
    refine .mk (ks ++ [Val.mk vk vn vs vks], j') [(0, 0), (1, 1), (2, 2), (14, 3)] ⟨by simp; omega, fun v hm => ?_, by simp only; omega, ?_⟩
      (conv_mk _ rfl ⟨⟨0, _, rfl, rfl, .same (gNN l j')⟩, ⟨1, _, rfl, rfl, .same (.cons (.agg' (.cons (.int _ _) (.cons (.int _ _) (.cons (.str _) (.cons .nsl .nil))))) .nil)⟩,
        ⟨2, _, rfl, rfl, .cons (.agg (.cons (.same _ (.int _ _)) (.cons (.same _ (.int _ _)) (.cons (.same _ (.str _)) (.cons (.slE rfl hlen) .nil))))) .nil⟩,
        ⟨14, _, rfl, rfl, .eq (encVs_nn _) hrow⟩, trivial⟩
        ⟨⟨_, rfl, .ptr 0 0 0 0 rfl⟩, ⟨_, rfl, .same _ (.int _ _)⟩, ⟨_, rfl, .ptr 1 1 0 0 rfl⟩, ⟨_, rfl, .ptr 2 2 0 0 rfl⟩, ⟨_, rfl, .same _ (.int _ _)⟩, ⟨_, rfl, .eq (.int _ _) ?_⟩, trivial⟩) (by simp; omega)
    · rcases List.mem_append.1 hm with hm | hm
      · exact h2 v hm
      · simp at hm; rw [hm]; exact hv
    · simp only [List.length_append, List.length_singleton, Nat.add_mul]; omega
    · rw [wrap64 ⟨by simp only; omega, by simp only; omega⟩]; simp
  · conv => whnf
    exact hQ ks j (by omega) h2 h3 (by omega)

theorem gValue (l : List Int) : ∀ (d i : Nat), d ≤ 10 → i + genCost d ≤ 4611686018427387904 →
    ACalls Tryd.prog [] 12 [.ptr 0 0 0, .int .i64 d] [(0, gB l i)] 1 (gPost l d i) := by
  intro d
  induction d with
  | zero =>
    intro i _ hi
    simp only [genCost] at hi
    have hcd : genCost 0 = 6 := rfl
    refine acalls_run nnΓ Tryd.func12 rfl ?_
    conv => whnf
    refine gNextUse 7 (by omega) (by omega) (by omega) rfl fun k h1 h2 => ?_
    rcases (show (k = 0 ∨ k = 1 ∨ k = 4 ∨ k = 5) ∨ (k = 2 ∨ k = 6) ∨ k = 3 by omega) with hk | hk | rfl
    · rcases hk with rfl | rfl | rfl | rfl
      all_goals
        conv => whnf
        refine gNextUse 5 (by omega) (by omega) (by omega) rfl fun a a1 a2 => ?_
        conv => whnf
        refine gNextUse 100 (by omega) (by omega) (by omega) rfl fun b b1 b2 => ?_
        conv => whnf
        refine gNextUse 7 (by omega) (by omega) (by omega) rfl fun c c1 c2 => ?_
        rcases (show c = 0 ∨ c = 1 ∨ c = 2 ∨ c = 3 ∨ c = 4 ∨ c = 5 ∨ c = 6 by omega) with rfl | rfl | rfl | rfl | rfl | rfl | rfl
        all_goals
          conv => whnf
          refine gFin (kids := []) rfl (.nil 4) (genV_leaf (.inl ⟨rfl, ?_, rfl, rfl⟩)) (by omega) (by omega)
          first | exact ⟨by omega, by omega⟩ | exact i64_wrap _
    · rcases hk with rfl | rfl
      all_goals
        conv => whnf
        refine gNextUse 2 (by omega) (by omega) (by omega) rfl fun a a1 a2 => ?_
        conv => whnf
        exact gFin (kids := []) rfl (.nil 4) (genV_leaf (.inr (.inl ⟨rfl, by omega, rfl, rfl⟩))) (by omega) (by omega)
    · conv => whnf
      refine gNextUse 4 (by omega) (by omega) (by omega) rfl fun c c1 c2 => ?_
      rcases (show c = 0 ∨ c = 1 ∨ c = 2 ∨ c = 3 by omega) with rfl | rfl | rfl | rfl
      all_goals
        conv => whnf
        exact gFin (kids := []) rfl (.nil 4) (genV_leaf (.inr (.inr (.inr ⟨rfl, rfl, by simp [genNames]⟩)))) (by omega) (by omega)
  | succ d ih =>
    intro i hd hi
    have hc := genCost_pos d
    have hcd : genCost (d + 1) = 4 * genCost d := rfl
    refine acalls_run nnΓ Tryd.func12 rfl ?_
    conv => whnf
    refine gNextUse 7 (by omega) (by omega) (by omega) rfl fun k h1 h2 => ?_
    rcases (show (k = 0 ∨ k = 1) ∨ k = 2 ∨ k = 3 ∨ (k = 4 ∨ k = 5) ∨ k = 6 by omega) with hk | rfl | rfl | hk | rfl
    · rcases hk with rfl | rfl
      all_goals
        conv => whnf
        refine gNextUse 5 (by omega) (by omega) (by omega) rfl fun a a1 a2 => ?_
        conv => whnf
        refine gNextUse 100 (by omega) (by omega) (by omega) rfl fun b b1 b2 => ?_
        conv => whnf
        refine gNextUse 7 (by omega) (by omega) (by omega) rfl fun c c1 c2 => ?_
        rcases (show c = 0 ∨ c = 1 ∨ c = 2 ∨ c = 3 ∨ c = 4 ∨ c = 5 ∨ c = 6 by omega) with rfl | rfl | rfl | rfl | rfl | rfl | rfl
        all_goals
          conv => whnf
          refine gFin (kids := []) rfl (.nil 4) (genV_leaf (.inl ⟨rfl, ?_, rfl, rfl⟩)) (by omega) (by omega)
          first | exact ⟨by omega, by omega⟩ | exact i64_wrap _
    · conv => whnf
      refine gNextUse 2 (by omega) (by omega) (by omega) rfl fun a a1 a2 => ?_
      conv => whnf
      exact gFin (kids := []) rfl (.nil 4) (genV_leaf (.inr (.inl ⟨rfl, by omega, rfl, rfl⟩))) (by omega) (by omega)
    · conv => whnf
      refine gNextUse 4 (by omega) (by omega) (by omega) rfl fun c c1 c2 => ?_
      rcases (show c = 0 ∨ c = 1 ∨ c = 2 ∨ c = 3 by omega) with rfl | rfl | rfl | rfl
      all_goals
        conv => whnf
        exact gFin (kids := []) rfl (.nil 4) (genV_leaf (.inr (.inr (.inr ⟨rfl, rfl, by simp [genNames]⟩)))) (by omega) (by omega)
    · rcases hk with rfl | rfl
      all_goals
        conv => whnf
        refine gNextUse 4 (by omega) (by omega) (by omega) rfl fun c c1 c2 => ?_
        conv => whnf
        refine gLoop l d (i + 1 + 1) (by omega) (by omega) (fun i' h => ih i' (by omega) h) 2 [] c c1 c2 _ _ [(0, 0), (1, 1), (2, 2), (3, 3)]
          (conv_mk _ rfl ⟨⟨0, _, rfl, rfl, .same (gNN l _)⟩, ⟨1, _, rfl, rfl, .same (.cons (.agg' (.cons (.int _ _) (.cons (.int _ _) (.cons (.str _) (.cons .nsl .nil))))) .nil)⟩,
            ⟨2, _, rfl, rfl, .cons (.agg (.cons (.same _ (.int _ _)) (.cons (.same _ (.int _ _)) (.cons (.same _ (.str _)) (.cons (.nslk 3 3 _ rfl rfl) .nil))))) .nil⟩,
            ⟨3, _, rfl, rfl, .nil⟩, trivial⟩
            ⟨⟨_, rfl, .ptr 0 0 0 0 rfl⟩, ⟨_, rfl, .same _ (.int _ _)⟩, ⟨_, rfl, .ptr 1 1 0 0 rfl⟩, ⟨_, rfl, .ptr 2 2 0 0 rfl⟩, ⟨_, rfl, .same _ (.int _ _)⟩, ⟨_, rfl, .same _ (.int _ _)⟩, trivial⟩) ?_
        intro ks j g1 g2 g3 g4
        conv => whnf
        exact gFin rfl (.fz' (by rfl) rfl (by simp [encVs_length]) (by simp [← encVs_length]) (encVs_nn ks)) ⟨.inr (.inr (.inl ⟨rfl, rfl, rfl⟩)), g1, g2⟩ (by omega) (by omega)
    · conv => whnf
      refine gNextUse 3 (by omega) (by omega) (by omega) rfl fun e e1 e2 => ?_
      rcases (show e = 0 ∨ e = 1 ∨ e = 2 by omega) with rfl | rfl | rfl
      all_goals
        conv => whnf
        refine gNextUse 4 (by omega) (by omega) (by omega) rfl fun c c1 c2 => ?_
        conv => whnf
        refine gLoop l d (i + 1 + 1 + 1) (by omega) (by omega) (fun i' h => ih i' (by omega) h) 3 _ c c1 c2 _ _ [(0, 0), (1, 1), (2, 2), (4, 3)]
          (conv_mk _ rfl ⟨⟨0, _, rfl, rfl, .same (gNN l _)⟩, ⟨1, _, rfl, rfl, .same (.cons (.agg' (.cons (.int _ _) (.cons (.int _ _) (.cons (.str _) (.cons .nsl .nil))))) .nil)⟩,
            ⟨2, _, rfl, rfl, .cons (.agg (.cons (.same _ (.int _ _)) (.cons (.same _ (.int _ _)) (.cons (.same _ (.str _)) (.cons (.nslk 4 3 _ rfl rfl) .nil))))) .nil⟩,
            ⟨4, _, rfl, rfl, .nil⟩, trivial⟩
            ⟨⟨_, rfl, .ptr 0 0 0 0 rfl⟩, ⟨_, rfl, .same _ (.int _ _)⟩, ⟨_, rfl, .ptr 1 1 0 0 rfl⟩, ⟨_, rfl, .ptr 2 2 0 0 rfl⟩, ⟨_, rfl, .same _ (.int _ _)⟩, ⟨_, rfl, .same _ (.int _ _)⟩, trivial⟩) ?_
        intro ks j g1 g2 g3 g4
        conv => whnf
        exact gFin rfl (.fz' (by rfl) rfl (by simp [encVs_length]) (by simp [← encVs_length]) (encVs_nn ks)) ⟨.inr (.inr (.inr ⟨rfl, rfl, by simp [genNames]⟩)), g1, g2⟩ (by omega) (by omega)
end Go.Proofs.YtoanjpeoclkjgaaDoor
