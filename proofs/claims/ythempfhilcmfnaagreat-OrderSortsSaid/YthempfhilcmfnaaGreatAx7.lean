/- A part of the proof. -/
import Derived.Test.YthempfhilcmfnaaGreatAx6
import Derived.IntWalk
set_option linter.unusedVariables false
namespace Go.Ax
open Go
def NNs (l : List AV) : Prop := ∀ a ∈ l, NN a
theorem NNs.get {l : List AV} (h : NNs l) (j : Nat) (c : AV) (hc : l[j]? = some c) : NN c := h c (List.mem_of_getElem? hc)
theorem NNs.nil : NNs [] := fun a h => by cases h
theorem NNs.cons {a : AV} {l : List AV} (h : NN a) (hl : NNs l) : NNs (a :: l) := fun b hb => by
 rcases List.mem_cons.1 hb with rfl | hb
 ·exact h
 ·exact hl b hb
theorem NN.agg' {cs : List AV} (h : NNs cs) : NN (.agg cs) := .agg cs h.get
theorem NN.tup' {cs : List AV} (h : NNs cs) : NN (.tup cs) := .tup cs h.get
theorem NN.cells {v : AV} (h : NN v) : NNs v.cells := by
 cases v with
 | agg cs => cases h with | agg _ hn => intro a ha; obtain ⟨j, hj⟩ := List.getElem?_of_mem ha; exact hn j a hj
 | _ => intro a ha; simp [AV.cells] at ha; subst ha; exact h
theorem NN.il' {sz : Nat} {xs : List AV} (h : NNs xs) : NN (.il sz xs) := .il sz xs fun i x j c hi hj => (h.get i x hi).cells.get j c hj
theorem NN.ip' {v : AV} (h : NN v) : NN (.ip v) := .ip v fun j c hj => h.cells.get j c hj
def PureC (P : Program) (Γ : List (Nat × AV)) (F : FuncId) (args : List AV) (r : AV) : Prop := ACalls P Γ F args [] 0 fun r' m n => r' = r ∧ m = [] ∧ n = 0
section
variable {P : Program} {Γ : List (Nat × AV)} {F : FuncId} {args : List AV} {r : AV} {mem : Mem} {nx : Nat} {K : AV → Mem → Nat → Prop}
theorem cvl_same {mem : Mem} {σ : List (Nat × Nat)} (ha : NNs args) : CvL mem σ args args :=
 ⟨rfl, fun j c c' h1 h2 => by rw [h1] at h2; cases h2; exact .same c (ha.get j c h1)⟩
theorem ACalls.call0 {Qs : AV → Mem → Nat → Prop} (hΓ : ∀ p ∈ Γ, NN p.2) (h : ACalls P Γ F args [] 0 Qs) (ha : NNs args)
  (hk : ∀ r m n, Qs r m n → ∃ r', Cv m [] r r' ∧ K r' mem nx) : ACalls P Γ F args mem nx K := by
 refine ⟨fun X D ρ w vs hD hm hv => ?_⟩
 refine (ACalls.use (K := K) (nx := nx) hΓ h [] (m1 := []) (rest := mem) ⟨(fun p hp => by cases hp), fun p hp => hp, fun p hp => .inr hp, (fun p hp => by cases hp), by simp⟩ hm.nod (cvl_same ha) (fun p hp => by cases hp) (by simp) (fun i j k h => by simp [lk] at h) (fun id i h => by simp [lk] at h) ?_).run X D ρ w vs hD hm hv
 intro r m n hq _
 obtain ⟨r', h1, h2⟩ := hk r m n hq
 exact ⟨[], r', [], nx, Nat.le_refl _, h1, (fun p hp => by cases hp), by simp, (fun i j k h => by simp [lk] at h), (fun i id h => by simp [lk] at h), (fun p hp => by cases hp), h2⟩
theorem PureC.use (h : PureC P Γ F args r) (hΓ : ∀ p ∈ Γ, NN p.2) (ha : NNs args) (hr : NN r) (hk : K r mem nx) : ACalls P Γ F args mem nx K :=
 ACalls.call0 hΓ h ha fun r' m n ⟨e1, e2, e3⟩ => ⟨r, by rw [e1]; exact .same r hr, hk⟩
theorem PureC.lend {as : List AV} (h : PureC P Γ F as r) (hΓ : ∀ p ∈ Γ, NN p.2) (ha : CvL mem [] args as) (hr : Sc r) (hk : K r mem nx) : ACalls P Γ F args mem nx K :=
 ACalls.lend hΓ h ha fun r' m n ⟨e1, e2, e3⟩ => ⟨by rw [e1]; exact hr, by rw [e1]; exact hk⟩
theorem PureC.drop {as : List AV} (h : PureC P Γ F as r) (hΓ : ∀ p ∈ Γ, NN p.2) (ha : CvL mem [] args as) (hr : NN r) (hk : K r [] nx) : ACalls P Γ F args mem nx K := by
 refine ⟨fun X D ρ w vs hD hm hv => ?_⟩
 refine (ACalls.use (K := K) (nx := nx) hΓ h [] (m1 := mem) (rest := []) ⟨fun p hp => hp, (fun p hp => by cases hp), fun p hp => .inl hp, (fun p _ q hq => by cases hq), hm.nod⟩ (by simp) ha (fun p hp => by cases hp) (by simp) (fun i j k h => by simp [lk] at h) (fun id i h => by simp [lk] at h) ?_).run X D ρ w vs hD hm hv
 rintro r' m n ⟨rfl, rfl, rfl⟩ _
 exact ⟨[], r', [], nx, Nat.le_refl _, .same r' hr, (fun p hp => by cases hp), by simp, (fun i j k h => by simp [lk] at h), (fun i id h => by simp [lk] at h), (fun p hp => by cases hp), hk⟩
theorem fin_pure {Q : AV → Mem → Nat → Prop} {m : Mem} {n : Nat} (hr : NN r) (hq : Q r [] 0) : Fini 0 Q r m n :=
 ⟨[], r, [], 0, ⟨.same r hr, (fun p hp => by cases hp), by simp, (fun i j k h => by simp [lk] at h), (fun id i h => by simp [lk] at h), Nat.le_refl _⟩, hq⟩
theorem fin_cv {Q : AV → Mem → Nat → Prop} {m : Mem} {n : Nat} {r' : AV} (hr : Cv m [] r r') (hq : Q r' [] 0) : Fini 0 Q r m n :=
 ⟨[], r', [], 0, ⟨hr, (fun p hp => by cases hp), by simp, (fun i j k h => by simp [lk] at h), (fun id i h => by simp [lk] at h), Nat.le_refl _⟩, hq⟩
theorem nnΓ : ∀ p ∈ ([] : List (Nat × AV)), NN p.2 := fun p hp => by cases hp
end
inductive Again {α : Type} (B : Nat) (R : α → Prop) (I : α → St) (μ : α → Nat) (x : α) (s : St) : Prop
 | mk (y : α) (σ : List (Nat × Nat)) : R y → Conv B σ s (I y) → μ y < μ x → Again B R I μ x s
theorem sl_ok {l h m n : Nat} (h1 : l ≤ h) (h2 : h ≤ m) (h3 : m ≤ n) : (Nat.ble l h && (Nat.ble h m && Nat.ble m n)) = true := by
 rw [Nat.ble_eq_true_of_le h1, Nat.ble_eq_true_of_le h2, Nat.ble_eq_true_of_le h3]; rfl
theorem src_ok {a n m : Nat} (h : n ≤ m) : (Nat.beq a a && Nat.ble n m) = true := by
 rw [Nat.ble_eq_true_of_le h]; simp
theorem app_ok {e sz size bytes len n k : Nat} (h1 : Nat.beq sz size = true) (hb : Nat.ble bytes 4096 = true) (h2 : len = n) (h3 : len + k ≤ 34359738368) :
  (Nat.beq e e && (Nat.beq sz size && (Nat.beq len n && (Nat.ble ((len + k) * bytes) 140737488355328 && Nat.ble (len + k) 9223372036854775807)))) = true := by
 have hb := Nat.le_of_ble_eq_true hb
 have hm : (len + k) * bytes ≤ 34359738368 * 4096 := Nat.mul_le_mul h3 hb
 rw [h1, h2, Nat.ble_eq_true_of_le (by rw [h2] at hm; omega), Nat.ble_eq_true_of_le (by omega)]
 simp
theorem app_nil {bytes k : Nat} (hb : Nat.ble bytes 4096 = true) (h3 : k ≤ 34359738368) : (Nat.ble (k * bytes) 140737488355328 && Nat.ble k 9223372036854775807) = true := by
 have hb := Nat.le_of_ble_eq_true hb
 have hm : k * bytes ≤ 34359738368 * 4096 := Nat.mul_le_mul h3 hb
 rw [Nat.ble_eq_true_of_le (by omega), Nat.ble_eq_true_of_le (by omega)]
 rfl
def SlConv (mem : Mem) (σ : List (Nat × Nat)) (sl : List (Nat × AV)) : List (Nat × AV) → Prop
 | [] => True
 | (i, v') :: r => (∃ v, lk sl i = some v ∧ Cv mem σ v v') ∧ SlConv mem σ sl r
theorem SlConv.get {mem : Mem} {σ : List (Nat × Nat)} {sl : List (Nat × AV)} : ∀ {sl' : List (Nat × AV)}, SlConv mem σ sl sl' → ∀ i v', lk sl' i = some v' → ∃ v, lk sl i = some v ∧ Cv mem σ v v'
 | [], h, i, v', hi => by simp [lk] at hi
 | (j, u) :: r, h, i, v', hi => by
  simp only [lk] at hi
  split at hi
  ·rename_i e
   cases hi
   rw [← Nat.eq_of_beq_eq_true e]
   exact h.1
  ·exact SlConv.get h.2 i v' hi
theorem conv_pure {B : Nat} {sl sl' : List (Nat × AV)} {mem : Mem} {nx nt : Nat} (h : SlConv mem [] sl sl') : Conv B [] ⟨sl, mem, nx, nt⟩ ⟨sl', [], B, nt⟩ :=
 ⟨rfl, fun i v' hi => h.get i v' hi, (fun p hp => by cases hp), by simp, (fun i j k h => by simp [lk] at h), (fun id i h => by simp [lk] at h), Nat.le_refl _⟩
theorem Cv.eq {mem : Mem} {σ : List (Nat × Nat)} {v v' : AV} (hn : NN v') (h : v = v') : Cv mem σ v v' := by rw [h]; exact .same v' hn
theorem Cv.slE {mem : Mem} {σ : List (Nat × Nat)} {id id' off len len' : Nat} (h : lk σ id = some id') (e : len = len') : Cv mem σ (.sl id off len) (.sl id' off len') := by rw [← e]; exact .sl id id' off len h
section
variable {mem : Mem} {σ : List (Nat × Nat)}
theorem CvL.nil : CvL mem σ [] [] := ⟨rfl, fun j c c' h => by simp at h⟩
theorem CvL.cons {a b : AV} {as bs : List AV} (h : Cv mem σ a b) (hs : CvL mem σ as bs) : CvL mem σ (a :: as) (b :: bs) := by
 refine ⟨by simp [hs.1], fun j c c' h1 h2 => ?_⟩
 cases j with
 | zero => simp at h1 h2; subst h1 h2; exact h
 | succ j => simp at h1 h2; exact hs.2 j c c' h1 h2
theorem CvL.same {l : List AV} (h : NNs l) : CvL mem σ l l := cvl_same h
theorem Cv.agg' {cs cs' : List AV} (h : CvL mem σ cs cs') : Cv mem σ (.agg cs) (.agg cs') := .agg cs cs' h.1 h.2
theorem Cv.tup' {cs cs' : List AV} (h : CvL mem σ cs cs') : Cv mem σ (.tup cs) (.tup cs') := .tup cs cs' h.1 h.2
theorem CvE.same {x : AV} (h : NN x) : CvE mem σ x x := ⟨rfl, (CvL.same h.cells).2⟩
theorem CvE.agg {cs cs' : List AV} (h : CvL mem σ cs cs') : CvE mem σ (.agg cs) (.agg cs') := h
theorem CvE.one {x y : AV} (hx : x.cells = [x]) (hy : y.cells = [y]) (h : Cv mem σ x y) : CvE mem σ x y := by
 unfold CvE
 rw [hx, hy]
 exact CvL.cons h .nil
theorem CvR.same {xs : List AV} (h : NNs xs) : CvR mem σ xs xs :=
 ⟨Nat.le_refl _, fun i x y h1 h2 => by rw [h1] at h2; cases h2; exact .same (h.get i x h1)⟩
theorem CvR.nil {xs : List AV} : CvR mem σ xs [] := ⟨by simp, fun i x y h1 h2 => by simp at h2⟩
theorem CvR.cons {x y : AV} {xs ys : List AV} (h : CvE mem σ x y) (hs : CvR mem σ xs ys) : CvR mem σ (x :: xs) (y :: ys) := by
 refine ⟨by simp [hs.1], fun i a b h1 h2 => ?_⟩
 cases i with
 | zero => simp at h1 h2; subst h1 h2; exact h
 | succ i => simp at h1 h2; exact hs.2 i a b h1 h2
theorem CvR.to {xs xs' ys : List AV} (h : CvR mem σ xs ys) (e : xs' = xs) : CvR mem σ xs' ys := by rw [e]; exact h
theorem CvR.eq {xs ys : List AV} (h : NNs ys) (e : xs = ys) : CvR mem σ xs ys := by rw [e]; exact .same h
theorem Cv.fz' {id off len : Nat} {t : TypeId} {sz : Nat} {xs ys : List AV} (h1 : lk mem id = some (.row t sz xs)) (h2 : lk σ id = none) (h3 : off + len ≤ xs.length) (h4 : (xs.drop off).take len = ys) (h5 : NNs ys) : Cv mem σ (.sl id off len) (.il sz ys) := by
 have hg : ∀ (i : Nat) (x y : AV), xs[off + i]? = some x → ys[i]? = some y → x = y := by
  intro i x y hx hy
  rw [← h4, List.getElem?_take] at hy
  split at hy
  ·rw [List.getElem?_drop, hx] at hy
   exact Option.some.inj hy
  ·cases hy
 refine .fz id off len t sz xs ys h1 h2 h3 (by rw [← h4]; simp; omega) (fun i x y hx hy => by rw [hg i x y hx hy]) (fun i x y j c c' hx hy hc hc' => ?_)
 rw [hg i x y hx hy] at hc
 rw [hc] at hc'
 cases hc'
 exact .same c ((h5.get i y hy).cells.get j c hc)
def MemConv (mem : Mem) (σ : List (Nat × Nat)) : Mem → Prop
 | [] => True
 | (id', b) :: r => (match b with
   | .row t sz ys => ∃ id xs, lk σ id = some id' ∧ lk mem id = some (.row t sz xs) ∧ CvR mem σ xs ys
   | .mapb es' => ∃ id es, lk σ id = some id' ∧ lk mem id = some (.mapb es) ∧ CvP mem σ es es'
   | .loop sl' nt ps ca cb st pd => ∃ id sl, lk σ id = some id' ∧ lk mem id = some (.loop sl nt ps ca cb st pd) ∧ CvS mem σ sl sl') ∧ MemConv mem σ r
theorem MemConv.cvm : ∀ {mem' : Mem}, MemConv mem σ mem' → CvM mem σ mem'
 | [], h => fun p hp => by cases hp
 | (id', b) :: r, h => fun p hp => by
  rcases List.mem_cons.1 hp with rfl | hp
  ·have h1 := h.1
   cases b with
   | row t sz ys =>
    obtain ⟨id, xs, e1, e2, e3⟩ := h1
    exact .inl ⟨id, t, sz, xs, ys, rfl, e1, e2, e3⟩
   | mapb es' =>
    obtain ⟨id, es, e1, e2, e3⟩ := h1
    exact .inr (.inl ⟨id, es, es', rfl, e1, e2, e3⟩)
   | loop sl' nt ps ca cb st pd =>
    obtain ⟨id, sl, e1, e2, e3⟩ := h1
    exact .inr (.inr ⟨id, sl, sl', nt, ps, ca, cb, st, pd, rfl, e1, e2, e3⟩)
  ·exact MemConv.cvm h.2 p hp
def notIn (n : Nat) : List (Nat × Nat) → Bool
 | [] => true
 | (_, m) :: r => !Nat.beq m n && notIn n r
def nod2 : List (Nat × Nat) → Bool
 | [] => true
 | (_, m) :: r => notIn m r && nod2 r
def keyOut (n : Nat) : Mem → Bool
 | [] => true
 | (m, _) :: r => !Nat.beq m n && keyOut n r
def nodM : Mem → Bool
 | [] => true
 | (m, _) :: r => keyOut m r && nodM r
def oldOK (B n : Nat) : List (Nat × Nat) → Bool
 | [] => true
 | (i, j) :: r => ((Nat.ble B j || Nat.beq i j) && Nat.blt j n) && oldOK B n r
theorem notIn_sound : ∀ {n : Nat} {σ : List (Nat × Nat)}, notIn n σ = true → ∀ p ∈ σ, p.2 ≠ n
 | n, [], h, p, hp => by cases hp
 | n, (i, m) :: r, h, p, hp => by
  simp only [notIn, Bool.and_eq_true] at h
  rcases List.mem_cons.1 hp with rfl | hp
  ·intro e
   simp only at e
   subst e
   simp at h
  ·exact notIn_sound h.2 p hp
theorem nod2_inj : ∀ {σ : List (Nat × Nat)}, nod2 σ = true → ∀ p ∈ σ, ∀ q ∈ σ, p.2 = q.2 → p = q
 | [], h, p, hp => by cases hp
 | (i, m) :: r, h, p, hp => by
  simp only [nod2, Bool.and_eq_true] at h
  intro q hq e
  rcases List.mem_cons.1 hp with rfl | hp <;> rcases List.mem_cons.1 hq with rfl | hq
  ·rfl
  ·exact absurd e.symm (notIn_sound h.1 q hq)
  ·exact absurd e (notIn_sound h.1 p hp)
  ·exact nod2_inj h.2 p hp q hq e
theorem inj_of {σ : List (Nat × Nat)} (h : nod2 σ = true) : Inj σ := fun i j k h1 h2 => by
 have := nod2_inj h _ (lk_mem h1) _ (lk_mem h2) rfl
 exact congrArg Prod.fst this
theorem keyOut_sound : ∀ {n : Nat} {m : Mem}, keyOut n m = true → n ∉ m.map (·.1)
 | n, [], h => by simp
 | n, (k, b) :: r, h => by
  simp only [keyOut, Bool.and_eq_true] at h
  simp only [List.map_cons, List.mem_cons, not_or]
  refine ⟨?_, keyOut_sound h.2⟩
  intro e
  subst e
  simp at h
theorem nodM_sound : ∀ {m : Mem}, nodM m = true → (m.map (·.1)).Nodup
 | [], h => by simp
 | (k, b) :: r, h => by
  simp only [nodM, Bool.and_eq_true] at h
  simp only [List.map_cons, List.nodup_cons]
  exact ⟨keyOut_sound h.1, nodM_sound h.2⟩
theorem oldOK_sound {B n : Nat} : ∀ {σ : List (Nat × Nat)}, oldOK B n σ = true → ∀ id id', lk σ id = some id' → (id' < B → id' = id) ∧ id' < n := by
 intro σ h id id' hl
 have hmem := lk_mem hl
 clear hl
 induction σ with
 | nil => cases hmem
 | cons p r ih =>
  obtain ⟨i, j⟩ := p
  simp only [oldOK, Bool.and_eq_true, Bool.or_eq_true] at h
  rcases List.mem_cons.1 hmem with e | hmem
  ·cases e
   refine ⟨fun hb => ?_, Nat.le_of_ble_eq_true h.1.2⟩
   rcases h.1.1 with h1 | h1
   ·have a2 := Nat.le_of_ble_eq_true h1
    omega
   ·exact (Nat.eq_of_beq_eq_true h1).symm
  ·exact ih h.2 hmem
theorem conv_mk {B : Nat} {sl sl' : List (Nat × AV)} {mem' : Mem} {nx nx' nt : Nat} (σ : List (Nat × Nat)) (hc : (nod2 σ && (nodM mem' && (oldOK B nx' σ && Nat.ble B nx'))) = true) (hm : MemConv mem σ mem') (h : SlConv mem σ sl sl') :
  Conv B σ ⟨sl, mem, nx, nt⟩ ⟨sl', mem', nx', nt⟩ := by
 simp only [Bool.and_eq_true] at hc
 exact ⟨rfl, fun i v' hi => h.get i v' hi, hm.cvm, nodM_sound hc.2.1, inj_of hc.1, oldOK_sound hc.2.2.1, Nat.le_of_ble_eq_true hc.2.2.2⟩
theorem fin_mk {B : Nat} {Q : AV → Mem → Nat → Prop} {r r' : AV} {m' : Mem} {n n' : Nat} (σ : List (Nat × Nat)) (hc : (nod2 σ && (nodM m' && (oldOK B n' σ && Nat.ble B n'))) = true) (hm : MemConv mem σ m') (hr : Cv mem σ r r') (hq : Q r' m' n') : Fini B Q r mem n := by
 simp only [Bool.and_eq_true] at hc
 exact .mk σ r' m' n' ⟨hr, hm.cvm, nodM_sound hc.2.1, inj_of hc.1, oldOK_sound hc.2.2.1, Nat.le_of_ble_eq_true hc.2.2.2⟩ hq
end
mutual
def encV : Val → AV
 | .mk k n s kids => .agg [.int .i64 k, .int .i64 n, .str s, .il 4 (encVs kids)]
def encVs : List Val → List AV
 | [] => []
 | v :: r => encV v :: encVs r
end
mutual
theorem encV_nn : ∀ v : Val, NN (encV v)
 | .mk k n s kids => by
  simp only [encV]
  exact .agg' (.cons (.int _ _) (.cons (.int _ _) (.cons (.str _) (.cons (.il' (encVs_nn kids)) .nil))))
theorem encVs_nn : ∀ l : List Val, NNs (encVs l)
 | [] => by simp only [encVs]; exact .nil
 | v :: r => by simp only [encVs]; exact .cons (encV_nn v) (encVs_nn r)
end
def i64 (n : Int) : Prop := -9223372036854775808 ≤ n ∧ n ≤ 9223372036854775807
mutual
def okV : Val → Prop
 | .mk k n s kids => i64 k ∧ i64 n ∧ s.length ≤ 4294967296 ∧ kids.length ≤ 4294967296 ∧ okVs kids
def okVs : List Val → Prop
 | [] => True
 | v :: r => okV v ∧ okVs r
end
theorem wrap64 {n : Int} (h : i64 n) : IntKind.i64.wrap n = n := IntWalk.i64_in n h
def encI (l : List Int) : List AV := l.map (AV.int .i64)
theorem encI_nn (l : List Int) : NNs (encI l) := fun a ha => by
 obtain ⟨n, _, rfl⟩ := List.mem_map.1 ha
 exact .int _ _
theorem encI_get (l : List Int) (i : Nat) : (encI l)[i]? = (l[i]?).map (AV.int .i64) := by rw [encI, List.getElem?_map]
theorem encI_length (l : List Int) : (encI l).length = l.length := by rw [encI, List.length_map]
end Go.Ax
namespace Go.Ax
open Go
section
variable {ka na : Int} {sa : List UInt8} {ksa : List Val} {kb nb : Int} {sb : List UInt8} {ksb : List Val}
theorem cmpI_ne {a b : Int} (h : a ≠ b) : cmpI a b = if a < b then -1 else 1 := by
 unfold cmpI
 split
 ·rfl
 ·rw [if_pos (by omega)]
theorem cmpI_nz {a b : Int} (h : a ≠ b) : cmpI a b ≠ 0 := by
 rw [cmpI_ne h]
 split <;> decide
end
end Go.Ax
namespace Go.Ax
open Go
def findV : List Val → Val → Nat × Bool
 | [], _ => (0, false)
 | a :: r, v => if 0 ≤ cmpV a v then (0, cmpV a v == 0) else ((findV r v).1 + 1, (findV r v).2)
def insV (out : List Val) (v : Val) : List Val := if (findV out v).2 then out else out.take (findV out v).1 ++ v :: out.drop (findV out v).1
def sortV (l : List Val) : List Val := l.foldl insV []
def Srt (l : List Val) : Prop := l.Pairwise fun a b => cmpV a b < 0
theorem Srt.get {l : List Val} (h : Srt l) {i j : Nat} {a b : Val} (hij : i < j) (ha : l[i]? = some a) (hb : l[j]? = some b) : cmpV a b < 0 := by
 obtain ⟨hi, rfl⟩ := List.getElem?_eq_some_iff.1 ha
 obtain ⟨hj, rfl⟩ := List.getElem?_eq_some_iff.1 hb
 exact List.pairwise_iff_getElem.1 h i j hi hj hij
end Go.Ax
