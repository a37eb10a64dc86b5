/- A part of the proof. -/
import Derived.Test.YtelmpofoeinfoaaGreatDoorAx6
import Derived.IntWalk
set_option linter.unusedVariables false
namespace Go.Ax
open Go
def NNs (l : List AV) : Prop := ∀ a ∈ l, NN a
theorem NNs.get {l : List AV} (h : NNs l) (j : Nat) (c : AV) (hc : l[j]? = some c) : NN c := h c (List.mem_of_getElem? hc)
theorem NNs.nil : NNs [] := fun a h => by cases h
theorem NNs.cons {a : AV} {l : List AV} (h : NN a) (hl : NNs l) : NNs (a :: l) := fun b hb => by
 rcases List.mem_cons.1 hb with rfl | hb
 ·exact h
 ·exact hl b hb
theorem NN.agg' {cs : List AV} (h : NNs cs) : NN (.agg cs) := .agg cs h.get
theorem NN.tup' {cs : List AV} (h : NNs cs) : NN (.tup cs) := .tup cs h.get
theorem NN.cells {v : AV} (h : NN v) : NNs v.cells := by
 cases v with
 | agg cs => cases h with | agg _ hn => intro a ha; obtain ⟨j, hj⟩ := List.getElem?_of_mem ha; exact hn j a hj
 | _ => intro a ha; simp [AV.cells] at ha; subst ha; exact h
theorem NN.il' {sz : Nat} {xs : List AV} (h : NNs xs) : NN (.il sz xs) := .il sz xs fun i x j c hi hj => (h.get i x hi).cells.get j c hj
theorem NN.ip' {v : AV} (h : NN v) : NN (.ip v) := .ip v fun j c hj => h.cells.get j c hj
def PureC (P : Program) (Γ : List (Nat × AV)) (F : FuncId) (args : List AV) (r : AV) : Prop := ACalls P Γ F args [] 0 fun r' m n => r' = r ∧ m = [] ∧ n = 0
section
variable {P : Program} {Γ : List (Nat × AV)} {F : FuncId} {args : List AV} {r : AV} {mem : Mem} {nx : Nat} {K : AV → Mem → Nat → Prop}
theorem cvl_same {mem : Mem} {σ : List (Nat × Nat)} (ha : NNs args) : CvL mem σ args args :=
 ⟨rfl, fun j c c' h1 h2 => by rw [h1] at h2; cases h2; exact .same c (ha.get j c h1)⟩
theorem ACalls.call0 {Qs : AV → Mem → Nat → Prop} (hΓ : ∀ p ∈ Γ, NN p.2) (h : ACalls P Γ F args [] 0 Qs) (ha : NNs args)
  (hk : ∀ r m n, Qs r m n → ∃ r', Cv m [] r r' ∧ K r' mem nx) : ACalls P Γ F args mem nx K := by
 refine ⟨fun X D ρ w vs hD hm hv => ?_⟩
 refine (ACalls.use (K := K) (nx := nx) hΓ h [] (m1 := []) (rest := mem) ⟨(fun p hp => by cases hp), fun p hp => hp, fun p hp => .inr hp, (fun p hp => by cases hp), by simp⟩ hm.nod (cvl_same ha) (fun p hp => by cases hp) (by simp) (fun i j k h => by simp [lk] at h) (fun id i h => by simp [lk] at h) ?_).run X D ρ w vs hD hm hv
 intro r m n hq _
 obtain ⟨r', h1, h2⟩ := hk r m n hq
 exact ⟨[], r', [], nx, Nat.le_refl _, h1, (fun p hp => by cases hp), by simp, (fun i j k h => by simp [lk] at h), (fun i id h => by simp [lk] at h), (fun p hp => by cases hp), h2⟩
theorem PureC.use (h : PureC P Γ F args r) (hΓ : ∀ p ∈ Γ, NN p.2) (ha : NNs args) (hr : NN r) (hk : K r mem nx) : ACalls P Γ F args mem nx K :=
 ACalls.call0 hΓ h ha fun r' m n ⟨e1, e2, e3⟩ => ⟨r, by rw [e1]; exact .same r hr, hk⟩
theorem PureC.drop {as : List AV} (h : PureC P Γ F as r) (hΓ : ∀ p ∈ Γ, NN p.2) (ha : CvL mem [] args as) (hr : NN r) (hk : K r [] nx) : ACalls P Γ F args mem nx K := by
 refine ⟨fun X D ρ w vs hD hm hv => ?_⟩
 refine (ACalls.use (K := K) (nx := nx) hΓ h [] (m1 := mem) (rest := []) ⟨fun p hp => hp, (fun p hp => by cases hp), fun p hp => .inl hp, (fun p _ q hq => by cases hq), hm.nod⟩ (by simp) ha (fun p hp => by cases hp) (by simp) (fun i j k h => by simp [lk] at h) (fun id i h => by simp [lk] at h) ?_).run X D ρ w vs hD hm hv
 rintro r' m n ⟨rfl, rfl, rfl⟩ _
 exact ⟨[], r', [], nx, Nat.le_refl _, .same r' hr, (fun p hp => by cases hp), by simp, (fun i j k h => by simp [lk] at h), (fun i id h => by simp [lk] at h), (fun p hp => by cases hp), hk⟩
theorem fin_pure {Q : AV → Mem → Nat → Prop} {m : Mem} {n : Nat} (hr : NN r) (hq : Q r [] 0) : Fini 0 Q r m n :=
 ⟨[], r, [], 0, ⟨.same r hr, (fun p hp => by cases hp), by simp, (fun i j k h => by simp [lk] at h), (fun id i h => by simp [lk] at h), Nat.le_refl _⟩, hq⟩
theorem fin_cv {Q : AV → Mem → Nat → Prop} {m : Mem} {n : Nat} {r' : AV} (hr : Cv m [] r r') (hq : Q r' [] 0) : Fini 0 Q r m n :=
 ⟨[], r', [], 0, ⟨hr, (fun p hp => by cases hp), by simp, (fun i j k h => by simp [lk] at h), (fun id i h => by simp [lk] at h), Nat.le_refl _⟩, hq⟩
theorem nnΓ : ∀ p ∈ ([] : List (Nat × AV)), NN p.2 := fun p hp => by cases hp
end
inductive Again {α : Type} (B : Nat) (R : α → Prop) (I : α → St) (μ : α → Nat) (x : α) (s : St) : Prop
 | mk (y : α) (σ : List (Nat × Nat)) : R y → Conv B σ s (I y) → μ y < μ x → Again B R I μ x s
theorem AWp.loopAt {P : Program} {Γ : List (Nat × AV)} {B : Nat} {c : Code} {s : St} {Q : Exit → St → Prop} {α : Type} (hΓ : ∀ p ∈ Γ, NN p.2) (R : α → Prop) (I : α → St) (μ : α → Nat) (x : α) (σ : List (Nat × Nat)) (hx : R x) (h0 : Conv B σ s (I x))
  (h : ∀ x, R x → fwp false P Γ (sem P Γ B) c (I x) fun e s => match e with
   | .normal => Again B R I μ x s
   | e => Q e s) : AWp P Γ B (.loop c) s Q := by
 refine AWp.conv hΓ h0 ?_
 refine AWp.loop (α := { x : α // R x }) hΓ (fun x => I x.1) (fun x => μ x.1) (fun x => ?_) ⟨x, hx⟩
 refine (fwp_sound sem_ok c _ _ (h x.1 x.2)).mono fun e s h => ?_
 cases e with
 | normal =>
  obtain ⟨y, σ, hy, hc, hlt⟩ := (show Again B R I μ x.1 s from h)
  exact ⟨⟨y, hy⟩, σ, hc, hlt⟩
 | exit i => exact h
 | goto l => exact h
 | ret => exact h
 | panic c => exact h
 | outgrown => exact h
def loopsOf : Code → List Code
 | .seq a b => loopsOf a ++ loopsOf b
 | .cond _ a b => loopsOf a ++ loopsOf b
 | .block _ a => loopsOf a
 | .loop a => a :: loopsOf a
 | _ => []
def nthLoop (f : Func) (n : Nat) : Code :=
 match f.body with
 | some c => match (loopsOf c)[n]? with
  | some l => l
  | none => .skip
 | none => .skip
theorem sl_ok {l h m n : Nat} (h1 : l ≤ h) (h2 : h ≤ m) (h3 : m ≤ n) : (Nat.ble l h && (Nat.ble h m && Nat.ble m n)) = true := by
 rw [Nat.ble_eq_true_of_le h1, Nat.ble_eq_true_of_le h2, Nat.ble_eq_true_of_le h3]; rfl
theorem src_ok {a n m : Nat} (h : n ≤ m) : (Nat.beq a a && Nat.ble n m) = true := by
 rw [Nat.ble_eq_true_of_le h]; simp
theorem app_ok {e sz size bytes len n k : Nat} (h1 : Nat.beq sz size = true) (hb : Nat.ble bytes 4096 = true) (h2 : len = n) (h3 : len + k ≤ 34359738368) :
  (Nat.beq e e && (Nat.beq sz size && (Nat.beq len n && (Nat.ble ((len + k) * bytes) 140737488355328 && Nat.ble (len + k) 9223372036854775807)))) = true := by
 have hb := Nat.le_of_ble_eq_true hb
 have hm : (len + k) * bytes ≤ 34359738368 * 4096 := Nat.mul_le_mul h3 hb
 rw [h1, h2, Nat.ble_eq_true_of_le (by rw [h2] at hm; omega), Nat.ble_eq_true_of_le (by omega)]
 simp
theorem app_nil {bytes k : Nat} (hb : Nat.ble bytes 4096 = true) (h3 : k ≤ 34359738368) : (Nat.ble (k * bytes) 140737488355328 && Nat.ble k 9223372036854775807) = true := by
 have hb := Nat.le_of_ble_eq_true hb
 have hm : k * bytes ≤ 34359738368 * 4096 := Nat.mul_le_mul h3 hb
 rw [Nat.ble_eq_true_of_le (by omega), Nat.ble_eq_true_of_le (by omega)]
 rfl
def SlConv (mem : Mem) (σ : List (Nat × Nat)) (sl : List (Nat × AV)) : List (Nat × AV) → Prop
 | [] => True
 | (i, v') :: r => (∃ v, lk sl i = some v ∧ Cv mem σ v v') ∧ SlConv mem σ sl r
theorem SlConv.get {mem : Mem} {σ : List (Nat × Nat)} {sl : List (Nat × AV)} : ∀ {sl' : List (Nat × AV)}, SlConv mem σ sl sl' → ∀ i v', lk sl' i = some v' → ∃ v, lk sl i = some v ∧ Cv mem σ v v'
 | [], h, i, v', hi => by simp [lk] at hi
 | (j, u) :: r, h, i, v', hi => by
  simp only [lk] at hi
  split at hi
  ·rename_i e
   cases hi
   rw [← Nat.eq_of_beq_eq_true e]
   exact h.1
  ·exact SlConv.get h.2 i v' hi
theorem conv_pure {B : Nat} {sl sl' : List (Nat × AV)} {mem : Mem} {nx nt : Nat} (h : SlConv mem [] sl sl') : Conv B [] ⟨sl, mem, nx, nt⟩ ⟨sl', [], B, nt⟩ :=
 ⟨rfl, fun i v' hi => h.get i v' hi, (fun p hp => by cases hp), by simp, (fun i j k h => by simp [lk] at h), (fun id i h => by simp [lk] at h), Nat.le_refl _⟩
theorem Cv.eq {mem : Mem} {σ : List (Nat × Nat)} {v v' : AV} (hn : NN v') (h : v = v') : Cv mem σ v v' := by rw [h]; exact .same v' hn
theorem Cv.slE {mem : Mem} {σ : List (Nat × Nat)} {id id' off len len' : Nat} (h : lk σ id = some id') (e : len = len') : Cv mem σ (.sl id off len) (.sl id' off len') := by rw [← e]; exact .sl id id' off len h
section
variable {mem : Mem} {σ : List (Nat × Nat)}
theorem CvL.nil : CvL mem σ [] [] := ⟨rfl, fun j c c' h => by simp at h⟩
theorem CvL.cons {a b : AV} {as bs : List AV} (h : Cv mem σ a b) (hs : CvL mem σ as bs) : CvL mem σ (a :: as) (b :: bs) := by
 refine ⟨by simp [hs.1], fun j c c' h1 h2 => ?_⟩
 cases j with
 | zero => simp at h1 h2; subst h1 h2; exact h
 | succ j => simp at h1 h2; exact hs.2 j c c' h1 h2
theorem CvL.same {l : List AV} (h : NNs l) : CvL mem σ l l := cvl_same h
theorem Cv.agg' {cs cs' : List AV} (h : CvL mem σ cs cs') : Cv mem σ (.agg cs) (.agg cs') := .agg cs cs' h.1 h.2
theorem Cv.tup' {cs cs' : List AV} (h : CvL mem σ cs cs') : Cv mem σ (.tup cs) (.tup cs') := .tup cs cs' h.1 h.2
theorem CvE.same {x : AV} (h : NN x) : CvE mem σ x x := ⟨rfl, (CvL.same h.cells).2⟩
theorem CvE.agg {cs cs' : List AV} (h : CvL mem σ cs cs') : CvE mem σ (.agg cs) (.agg cs') := h
theorem CvE.one {x y : AV} (hx : x.cells = [x]) (hy : y.cells = [y]) (h : Cv mem σ x y) : CvE mem σ x y := by
 unfold CvE
 rw [hx, hy]
 exact CvL.cons h .nil
theorem CvR.same {xs : List AV} (h : NNs xs) : CvR mem σ xs xs :=
 ⟨Nat.le_refl _, fun i x y h1 h2 => by rw [h1] at h2; cases h2; exact .same (h.get i x h1)⟩
theorem CvR.nil {xs : List AV} : CvR mem σ xs [] := ⟨by simp, fun i x y h1 h2 => by simp at h2⟩
theorem CvR.cons {x y : AV} {xs ys : List AV} (h : CvE mem σ x y) (hs : CvR mem σ xs ys) : CvR mem σ (x :: xs) (y :: ys) := by
 refine ⟨by simp [hs.1], fun i a b h1 h2 => ?_⟩
 cases i with
 | zero => simp at h1 h2; subst h1 h2; exact h
 | succ i => simp at h1 h2; exact hs.2 i a b h1 h2
theorem CvR.snoc {xs ys : List AV} {x y : AV} (hl : xs.length = ys.length) (hs : CvR mem σ xs ys) (h : CvE mem σ x y) : CvR mem σ (xs ++ [x]) (ys ++ [y]) := by
 refine ⟨by simp [hl], fun i a b h1 h2 => ?_⟩
 rcases Nat.lt_or_ge i xs.length with hi | hi
 ·rw [List.getElem?_append_left hi] at h1
  rw [List.getElem?_append_left (by omega)] at h2
  exact hs.2 i a b h1 h2
 ·rw [List.getElem?_append_right hi] at h1
  rw [List.getElem?_append_right (by omega), ← hl] at h2
  generalize i - xs.length = q at h1 h2
  cases q with
  | zero => simp at h1 h2; subst h1 h2; exact h
  | succ q => simp at h1
theorem CvR.to {xs xs' ys : List AV} (h : CvR mem σ xs ys) (e : xs' = xs) : CvR mem σ xs' ys := by rw [e]; exact h
theorem CvR.eq {xs ys : List AV} (h : NNs ys) (e : xs = ys) : CvR mem σ xs ys := by rw [e]; exact .same h
theorem Cv.fz' {id off len : Nat} {t : TypeId} {sz : Nat} {xs ys : List AV} (h1 : lk mem id = some (.row t sz xs)) (h2 : lk σ id = none) (h3 : off + len ≤ xs.length) (h4 : (xs.drop off).take len = ys) (h5 : NNs ys) : Cv mem σ (.sl id off len) (.il sz ys) := by
 have hg : ∀ (i : Nat) (x y : AV), xs[off + i]? = some x → ys[i]? = some y → x = y := by
  intro i x y hx hy
  rw [← h4, List.getElem?_take] at hy
  split at hy
  ·rw [List.getElem?_drop, hx] at hy
   exact Option.some.inj hy
  ·cases hy
 refine .fz id off len t sz xs ys h1 h2 h3 (by rw [← h4]; simp; omega) (fun i x y hx hy => by rw [hg i x y hx hy]) (fun i x y j c c' hx hy hc hc' => ?_)
 rw [hg i x y hx hy] at hc
 rw [hc] at hc'
 cases hc'
 exact .same c ((h5.get i y hy).cells.get j c hc)
def MemConv (mem : Mem) (σ : List (Nat × Nat)) : Mem → Prop
 | [] => True
 | (id', b) :: r => (match b with
   | .row t sz ys => ∃ id xs, lk σ id = some id' ∧ lk mem id = some (.row t sz xs) ∧ CvR mem σ xs ys
   | .mapb es' => ∃ id es, lk σ id = some id' ∧ lk mem id = some (.mapb es) ∧ CvP mem σ es es'
   | .loop sl' nt ps ca cb st pd => ∃ id sl, lk σ id = some id' ∧ lk mem id = some (.loop sl nt ps ca cb st pd) ∧ CvS mem σ sl sl') ∧ MemConv mem σ r
theorem MemConv.cvm : ∀ {mem' : Mem}, MemConv mem σ mem' → CvM mem σ mem'
 | [], h => fun p hp => by cases hp
 | (id', b) :: r, h => fun p hp => by
  rcases List.mem_cons.1 hp with rfl | hp
  ·have h1 := h.1
   cases b with
   | row t sz ys =>
    obtain ⟨id, xs, e1, e2, e3⟩ := h1
    exact .inl ⟨id, t, sz, xs, ys, rfl, e1, e2, e3⟩
   | mapb es' =>
    obtain ⟨id, es, e1, e2, e3⟩ := h1
    exact .inr (.inl ⟨id, es, es', rfl, e1, e2, e3⟩)
   | loop sl' nt ps ca cb st pd =>
    obtain ⟨id, sl, e1, e2, e3⟩ := h1
    exact .inr (.inr ⟨id, sl, sl', nt, ps, ca, cb, st, pd, rfl, e1, e2, e3⟩)
  ·exact MemConv.cvm h.2 p hp
def notIn (n : Nat) : List (Nat × Nat) → Bool
 | [] => true
 | (_, m) :: r => !Nat.beq m n && notIn n r
def nod2 : List (Nat × Nat) → Bool
 | [] => true
 | (_, m) :: r => notIn m r && nod2 r
def keyOut (n : Nat) : Mem → Bool
 | [] => true
 | (m, _) :: r => !Nat.beq m n && keyOut n r
def nodM : Mem → Bool
 | [] => true
 | (m, _) :: r => keyOut m r && nodM r
def oldOK (B n : Nat) : List (Nat × Nat) → Bool
 | [] => true
 | (i, j) :: r => ((Nat.ble B j || Nat.beq i j) && Nat.blt j n) && oldOK B n r
theorem notIn_sound : ∀ {n : Nat} {σ : List (Nat × Nat)}, notIn n σ = true → ∀ p ∈ σ, p.2 ≠ n
 | n, [], h, p, hp => by cases hp
 | n, (i, m) :: r, h, p, hp => by
  simp only [notIn, Bool.and_eq_true] at h
  rcases List.mem_cons.1 hp with rfl | hp
  ·intro e
   simp only at e
   subst e
   simp at h
  ·exact notIn_sound h.2 p hp
theorem nod2_inj : ∀ {σ : List (Nat × Nat)}, nod2 σ = true → ∀ p ∈ σ, ∀ q ∈ σ, p.2 = q.2 → p = q
 | [], h, p, hp => by cases hp
 | (i, m) :: r, h, p, hp => by
  simp only [nod2, Bool.and_eq_true] at h
  intro q hq e
  rcases List.mem_cons.1 hp with rfl | hp <;> rcases List.mem_cons.1 hq with rfl | hq
  ·rfl
  ·exact absurd e.symm (notIn_sound h.1 q hq)
  ·exact absurd e (notIn_sound h.1 p hp)
  ·exact nod2_inj h.2 p hp q hq e
theorem inj_of {σ : List (Nat × Nat)} (h : nod2 σ = true) : Inj σ := fun i j k h1 h2 => by
 have := nod2_inj h _ (lk_mem h1) _ (lk_mem h2) rfl
 exact congrArg Prod.fst this
theorem keyOut_sound : ∀ {n : Nat} {m : Mem}, keyOut n m = true → n ∉ m.map (·.1)
 | n, [], h => by simp
 | n, (k, b) :: r, h => by
  simp only [keyOut, Bool.and_eq_true] at h
  simp only [List.map_cons, List.mem_cons, not_or]
  refine ⟨?_, keyOut_sound h.2⟩
  intro e
  subst e
  simp at h
theorem nodM_sound : ∀ {m : Mem}, nodM m = true → (m.map (·.1)).Nodup
 | [], h => by simp
 | (k, b) :: r, h => by
  simp only [nodM, Bool.and_eq_true] at h
  simp only [List.map_cons, List.nodup_cons]
  exact ⟨keyOut_sound h.1, nodM_sound h.2⟩
theorem oldOK_sound {B n : Nat} : ∀ {σ : List (Nat × Nat)}, oldOK B n σ = true → ∀ id id', lk σ id = some id' → (id' < B → id' = id) ∧ id' < n := by
 intro σ h id id' hl
 have hmem := lk_mem hl
 clear hl
 induction σ with
 | nil => cases hmem
 | cons p r ih =>
  obtain ⟨i, j⟩ := p
  simp only [oldOK, Bool.and_eq_true, Bool.or_eq_true] at h
  rcases List.mem_cons.1 hmem with e | hmem
  ·cases e
   refine ⟨fun hb => ?_, Nat.le_of_ble_eq_true h.1.2⟩
   rcases h.1.1 with h1 | h1
   ·have a2 := Nat.le_of_ble_eq_true h1
    omega
   ·exact (Nat.eq_of_beq_eq_true h1).symm
  ·exact ih h.2 hmem
theorem conv_mk {B : Nat} {sl sl' : List (Nat × AV)} {mem' : Mem} {nx nx' nt : Nat} (σ : List (Nat × Nat)) (hc : (nod2 σ && (nodM mem' && (oldOK B nx' σ && Nat.ble B nx'))) = true) (hm : MemConv mem σ mem') (h : SlConv mem σ sl sl') :
  Conv B σ ⟨sl, mem, nx, nt⟩ ⟨sl', mem', nx', nt⟩ := by
 simp only [Bool.and_eq_true] at hc
 exact ⟨rfl, fun i v' hi => h.get i v' hi, hm.cvm, nodM_sound hc.2.1, inj_of hc.1, oldOK_sound hc.2.2.1, Nat.le_of_ble_eq_true hc.2.2.2⟩
theorem fin_mk {B : Nat} {Q : AV → Mem → Nat → Prop} {r r' : AV} {m' : Mem} {n n' : Nat} (σ : List (Nat × Nat)) (hc : (nod2 σ && (nodM m' && (oldOK B n' σ && Nat.ble B n'))) = true) (hm : MemConv mem σ m') (hr : Cv mem σ r r') (hq : Q r' m' n') : Fini B Q r mem n := by
 simp only [Bool.and_eq_true] at hc
 exact .mk σ r' m' n' ⟨hr, hm.cvm, nodM_sound hc.2.1, inj_of hc.1, oldOK_sound hc.2.2.1, Nat.le_of_ble_eq_true hc.2.2.2⟩ hq
end
theorem mem_drop_ne : ∀ {m : Mem} {id : Nat} {p : Nat × AB}, p ∈ m → p.1 ≠ id → p ∈ drop id m
 | (k, u) :: r, id, p, hp, hne => by
  simp only [drop]
  rcases List.mem_cons.1 hp with rfl | hp
  ·rw [nbeq_ne hne]; exact List.mem_cons_self ..
  ·split
   ·exact hp
   ·exact List.mem_cons_of_mem _ (mem_drop_ne hp hne)
theorem ACalls.use1 {P : Program} {Γ : List (Nat × AV)} {F : FuncId} {as args : List AV} {mem : Mem} {nx : Nat} {t : TypeId} {sz : Nat} {xs : List AV} {Qs K : AV → Mem → Nat → Prop} (hΓ : ∀ p ∈ Γ, NN p.2)
  (h : ACalls P Γ F as [(0, .row t sz xs)] 1 Qs) (g : Nat) (hg : lk mem g = some (.row t sz xs)) (hx : NNs xs) (hargs : CvL [(g, .row t sz xs)] [(g, 0)] args as)
  (hk : ∀ r m n, Qs r m n → ∃ xs', m = [(0, .row t sz xs')] ∧ NN r ∧ NNs xs' ∧ dropK g mem fun rest => K r ((g, .row t sz xs') :: rest) nx) : ACalls P Γ F args mem nx K := by
 refine ⟨fun X D ρ w vs hD hm hv => ?_⟩
 refine (ACalls.use (K := K) (nx := nx) hΓ h [(g, 0)] (m1 := [(g, .row t sz xs)]) (rest := drop g mem) ⟨fun p hp => ?_, fun p hp => mem_drop hp, fun p hp => ?_, fun p hp q hq => ?_, by simp⟩ (drop_nodup hm.nod) hargs (fun p hp => ?_) (by simp) (inj_of (by rfl)) (fun id i hl => ?_) ?_).run X D ρ w vs hD hm hv
 ·simp at hp; subst hp; exact lk_mem hg
 ·by_cases hpg : p.1 = g
  ·left
   have := key_unique hm.nod hp (lk_mem hg) hpg
   rw [this]; simp
  ·exact .inr (mem_drop_ne hp hpg)
 ·simp at hp
  subst hp
  exact Ne.symm (drop_ne hm.nod hq)
 ·simp at hp
  subst hp
  exact .inl ⟨g, t, sz, xs, xs, rfl, by simp [lk], by simp [lk], .same hx⟩
 ·have := lk_mem hl
  simp at this
  omega
 ·intro r m n hq hn
  obtain ⟨xs', rfl, h1, h2, h3⟩ := hk r m n hq
  refine ⟨[(0, g)], r, [(g, .row t sz xs')], nx, Nat.le_refl _, .same r h1, fun p hp => ?_, by simp, inj_of (by rfl), fun i id hl => ?_, fun p hp q hq => ?_, dropK_iff.1 h3⟩
  ·simp at hp
   subst hp
   exact .inl ⟨0, t, sz, xs', xs', rfl, by simp [lk], by simp [lk], .same h2⟩
  ·have := lk_mem hl
   simp at this
   obtain ⟨rfl, rfl⟩ := this
   exact .inl ⟨by omega, by simp [lk]⟩
  ·simp at hp
   subst hp
   exact Ne.symm (drop_ne hm.nod hq)
mutual
def encV : Val → AV
 | .mk k n s kids => .agg [.int .i64 k, .int .i64 n, .str s, .il 4 (encVs kids)]
def encVs : List Val → List AV
 | [] => []
 | v :: r => encV v :: encVs r
end
theorem encVs_map : ∀ l : List Val, encVs l = l.map encV
 | [] => by simp [encVs]
 | v :: r => by simp [encVs, encVs_map r]
mutual
theorem encV_nn : ∀ v : Val, NN (encV v)
 | .mk k n s kids => by
  simp only [encV]
  exact .agg' (.cons (.int _ _) (.cons (.int _ _) (.cons (.str _) (.cons (.il' (encVs_nn kids)) .nil))))
theorem encVs_nn : ∀ l : List Val, NNs (encVs l)
 | [] => by simp only [encVs]; exact .nil
 | v :: r => by simp only [encVs]; exact .cons (encV_nn v) (encVs_nn r)
end
def i64 (n : Int) : Prop := -9223372036854775808 ≤ n ∧ n ≤ 9223372036854775807
mutual
def okV : Val → Prop
 | .mk k n s kids => i64 k ∧ i64 n ∧ s.length ≤ 4294967296 ∧ kids.length ≤ 4294967296 ∧ okVs kids
def okVs : List Val → Prop
 | [] => True
 | v :: r => okV v ∧ okVs r
end
theorem okVs_mem : ∀ {l : List Val}, okVs l → ∀ v ∈ l, okV v
 | [], _, v, h => by cases h
 | a :: r, h, v, hv => by
  simp only [okVs] at h
  rcases List.mem_cons.1 hv with rfl | hv
  ·exact h.1
  ·exact okVs_mem h.2 v hv
theorem okVs_of : ∀ {l : List Val}, (∀ v ∈ l, okV v) → okVs l
 | [], _ => by simp [okVs]
 | a :: r, h => by simp only [okVs]; exact ⟨h a (List.mem_cons_self ..), okVs_of fun v hv => h v (List.mem_cons_of_mem _ hv)⟩
theorem wrap64 {n : Int} (h : i64 n) : IntKind.i64.wrap n = n := IntWalk.i64_in n h
def encI (l : List Int) : List AV := l.map (AV.int .i64)
theorem encI_nn (l : List Int) : NNs (encI l) := fun a ha => by
 obtain ⟨n, _, rfl⟩ := List.mem_map.1 ha
 exact .int _ _
theorem encI_get (l : List Int) (i : Nat) : (encI l)[i]? = (l[i]?).map (AV.int .i64) := by rw [encI, List.getElem?_map]
theorem encI_length (l : List Int) : (encI l).length = l.length := by rw [encI, List.length_map]
theorem encVs_get (l : List Val) (i : Nat) : (encVs l)[i]? = (l[i]?).map encV := by rw [encVs_map, List.getElem?_map]
theorem encVs_length (l : List Val) : (encVs l).length = l.length := by rw [encVs_map, List.length_map]
end Go.Ax
namespace Go.Ax
open Go
theorem less_cmp : ∀ (x y : List UInt8), Op.bytesLess x y = decide (cmpS x y < 0)
 | [], [] => rfl
 | [], _ :: _ => rfl
 | _ :: _, [] => rfl
 | a :: x, b :: y => by
  simp only [Op.bytesLess, cmpS, less_cmp x y]
  by_cases h : a < b
  ·simp [h]
  ·by_cases h' : b < a
   ·have hne : ¬ a = b := by rintro rfl; exact h h'
    simp [h, h', hne]
   ·have he : a = b := by
     rw [← UInt8.toNat_inj]
     simp only [UInt8.lt_iff_toNat_lt] at h h'
     omega
    subst he
    simp [h]
theorem cmpS_range : ∀ (x y : List UInt8), cmpS x y = -1 ∨ cmpS x y = 0 ∨ cmpS x y = 1
 | [], [] => by simp [cmpS]
 | [], _ :: _ => by simp [cmpS]
 | _ :: _, [] => by simp [cmpS]
 | a :: x, b :: y => by
  simp only [cmpS]
  split
  ·simp
  ·split
   ·simp
   ·exact cmpS_range x y
theorem cmpS_zero : ∀ {x y : List UInt8}, cmpS x y = 0 → x = y
 | [], [], _ => rfl
 | [], _ :: _, h => by simp [cmpS] at h
 | _ :: _, [], h => by simp [cmpS] at h
 | a :: x, b :: y, h => by
  simp only [cmpS] at h
  split at h
  ·cases h
  ·split at h
   ·cases h
   ·rename_i h1 h2
    have he : a = b := by
     rw [← UInt8.toNat_inj]
     simp only [UInt8.lt_iff_toNat_lt] at h1 h2
     omega
    rw [he, cmpS_zero h]
theorem cmpS_less {x y : List UInt8} : Op.bytesLess x y = true ↔ cmpS x y = -1 := by
 rw [less_cmp]
 have := cmpS_range x y
 simp
 omega
theorem cmpS_more {x y : List UInt8} (h : Op.bytesLess x y = false) (h' : (!(Op.bytesLess x y || x == y)) = true) : cmpS x y = 1 := by
 rw [h] at h'
 simp at h'
 rw [less_cmp] at h
 simp at h
 have := cmpS_range x y
 rcases this with e | e | e
 ·omega
 ·exact absurd (cmpS_zero e) h'
 ·exact e
theorem cmpS_same {x y : List UInt8} (h : Op.bytesLess x y = false) (h' : (!(Op.bytesLess x y || x == y)) = false) : cmpS x y = 0 := by
 rw [h] at h'
 simp at h'
 subst h'
 exact (cmpS_good x).refl
section
variable {ka na : Int} {sa : List UInt8} {ksa : List Val} {kb nb : Int} {sb : List UInt8} {ksb : List Val}
theorem cmpI_ne {a b : Int} (h : a ≠ b) : cmpI a b = if a < b then -1 else 1 := by
 unfold cmpI
 split
 ·rfl
 ·rw [if_pos (by omega)]
theorem cmpI_nz {a b : Int} (h : a ≠ b) : cmpI a b ≠ 0 := by
 rw [cmpI_ne h]
 split <;> decide
theorem cmpV_kind (h : ka ≠ kb) : cmpV (.mk ka na sa ksa) (.mk kb nb sb ksb) = if ka < kb then -1 else 1 := by
 rw [cmpV, andThen, if_neg (cmpI_nz h), cmpI_ne h]
theorem cmpV_n (h : ka = kb) (h2 : na ≠ nb) : cmpV (.mk ka na sa ksa) (.mk kb nb sb ksb) = if na < nb then -1 else 1 := by
 rw [cmpV, andThen, if_pos (by rw [h]; exact (cmpI_good kb).refl), andThen, if_neg (cmpI_nz h2), cmpI_ne h2]
theorem cmpV_s (h : ka = kb) (h2 : na = nb) (h3 : sa ≠ sb) : cmpV (.mk ka na sa ksa) (.mk kb nb sb ksb) = if Op.bytesLess sa sb = true then -1 else 1 := by
 rw [cmpV, andThen, if_pos (by rw [h]; exact (cmpI_good kb).refl), andThen, if_pos (by rw [h2]; exact (cmpI_good nb).refl), andThen, if_neg (fun e => h3 (cmpS_zero e))]
 rcases cmpS_range sa sb with e | e | e
 ·rw [if_pos (cmpS_less.2 e), e]
 ·exact absurd (cmpS_zero e) h3
 ·have : ¬ Op.bytesLess sa sb = true := by rw [less_cmp, e]; simp
  rw [if_neg this, e]
theorem cmpV_l (h : ka = kb) (h2 : na = nb) (h3 : sa = sb) : cmpV (.mk ka na sa ksa) (.mk kb nb sb ksb) = cmpL ksa ksb := by
 rw [cmpV, andThen, if_pos (by rw [h]; exact (cmpI_good kb).refl), andThen, if_pos (by rw [h2]; exact (cmpI_good nb).refl), andThen, if_pos (by rw [h3]; exact (cmpS_good sb).refl)]
end
theorem cmpL_step {l1 l2 : List Val} {k : Nat} (h1 : k < l1.length) (h2 : k < l2.length) : cmpL (l1.drop k) (l2.drop k) = andThen (cmpV l1[k] l2[k]) (cmpL (l1.drop (k + 1)) (l2.drop (k + 1))) := by
 rw [List.drop_eq_getElem_cons h1, List.drop_eq_getElem_cons h2, cmpL]
theorem enc_at {l : List Val} {k : Nat} (h : k < l.length) : (encVs l)[(k : Int).toNat]? = some (encV l[k]) := by
 rw [Int.toNat_natCast, encVs_get, List.getElem?_eq_getElem h]; rfl
end Go.Ax
namespace Go.Ax
open Go
def findV : List Val → Val → Nat × Bool
 | [], _ => (0, false)
 | a :: r, v => if 0 ≤ cmpV a v then (0, cmpV a v == 0) else ((findV r v).1 + 1, (findV r v).2)
theorem findV_le : ∀ (l : List Val) (v : Val), (findV l v).1 ≤ l.length
 | [], v => by simp [findV]
 | a :: r, v => by
  simp only [findV]
  split
  ·simp
  ·have := findV_le r v; simp; omega
def insV (out : List Val) (v : Val) : List Val := if (findV out v).2 then out else out.take (findV out v).1 ++ v :: out.drop (findV out v).1
def sortV (l : List Val) : List Val := l.foldl insV []
theorem sortV_snoc (l : List Val) (v : Val) : sortV (l ++ [v]) = insV (sortV l) v := by simp [sortV]
theorem insV_mem {out : List Val} {v x : Val} (h : x ∈ insV out v) : x = v ∨ x ∈ out := by
 unfold insV at h
 split at h
 ·exact .inr h
 ·rcases List.mem_append.1 h with h | h
  ·exact .inr (List.mem_of_mem_take h)
  ·rcases List.mem_cons.1 h with h | h
   ·exact .inl h
   ·exact .inr (List.mem_of_mem_drop h)
theorem insV_length (out : List Val) (v : Val) : (insV out v).length ≤ out.length + 1 := by
 unfold insV
 split
 ·omega
 ·simp only [List.length_append, List.length_cons, List.length_take, List.length_drop]
  have := findV_le out v
  omega
theorem sortV_length : ∀ l : List Val, (sortV l).length ≤ l.length := by
 intro l
 rw [← List.reverse_reverse l]
 generalize l.reverse = r
 induction r with
 | nil => simp [sortV]
 | cons a r ih =>
  rw [List.reverse_cons, sortV_snoc]
  have := insV_length (sortV r.reverse) a
  simp only [List.length_append, List.length_singleton]
  omega
theorem sortV_mem {l : List Val} {x : Val} : x ∈ sortV l → x ∈ l := by
 rw [← List.reverse_reverse l]
 generalize l.reverse = r
 induction r with
 | nil => simp [sortV]
 | cons a r ih =>
  rw [List.reverse_cons, sortV_snoc]
  intro h
  rcases insV_mem h with rfl | h
  ·simp
  ·exact List.mem_append_left _ (ih h)
def Srt (l : List Val) : Prop := l.Pairwise fun a b => cmpV a b < 0
theorem Srt.get {l : List Val} (h : Srt l) {i j : Nat} {a b : Val} (hij : i < j) (ha : l[i]? = some a) (hb : l[j]? = some b) : cmpV a b < 0 := by
 obtain ⟨hi, rfl⟩ := List.getElem?_eq_some_iff.1 ha
 obtain ⟨hj, rfl⟩ := List.getElem?_eq_some_iff.1 hb
 exact List.pairwise_iff_getElem.1 h i j hi hj hij
end Go.Ax
