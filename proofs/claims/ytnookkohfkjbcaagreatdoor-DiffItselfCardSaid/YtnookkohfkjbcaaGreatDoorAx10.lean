/- A part of the proof. -/
import Derived.Test.YtnookkohfkjbcaaGreatDoorAx9
set_option linter.unusedVariables false
namespace Go.Ax
open Go
def bAt (r : List Bool) (i : Nat) : Bool := r.getD i false
theorem bAt_set (r : List Bool) (i j : Nat) (b : Bool) (h : i < r.length) : bAt (r.set i b) j = if i = j then b else bAt r j := by
 unfold bAt
 rw [List.getD_eq_getElem?_getD, List.getD_eq_getElem?_getD, List.getElem?_set]
 split
 ·rfl
 ·rfl
def kidStep (i : Nat) (r : List Bool) (k : Int) : List Bool := r.set k.toNat (bAt r k.toNat || bAt r i)
theorem kidFold (i : Nat) : ∀ (ks : List Int) (r : List Bool), (∀ k ∈ ks, k.toNat < r.length ∧ k.toNat ≠ i) → (ks.foldl (kidStep i) r).length = r.length ∧ ∀ j, bAt (ks.foldl (kidStep i) r) j = (bAt r j || (ks.any (fun k => decide (k.toNat = j)) && bAt r i))
 | [], r, _ => ⟨rfl, fun j => by simp⟩
 | k :: ks, r, h => by
  obtain ⟨h1, h2⟩ := h k (by simp)
  have hl : (kidStep i r k).length = r.length := by simp [kidStep]
  obtain ⟨e1, e2⟩ := kidFold i ks (kidStep i r k) fun q hq => by rw [hl]; exact h q (by simp [hq])
  refine ⟨by rw [List.foldl_cons, e1, hl], fun j => ?_⟩
  rw [List.foldl_cons, e2]
  have hi : bAt (kidStep i r k) i = bAt r i := by unfold kidStep; rw [bAt_set _ _ _ _ h1, if_neg h2]
  rw [hi, List.any_cons]
  unfold kidStep
  rw [bAt_set _ _ _ _ h1]
  by_cases e : k.toNat = j
  ·rw [if_pos e, e, decide_eq_true rfl]
   cases bAt r j <;> cases bAt r i <;> simp
  ·rw [if_neg e, decide_eq_false e]
   simp
def reachStep (A : List Nd) (r : List Bool) (i : Nat) : List Bool := (nodeAt A i).kids.foldl (kidStep i) (r.set i (bAt r i || decide (i + 1 = A.length)))
def KidsIn (A : List Nd) : Prop := ∀ (i : Nat) (x : Nd), A[i]? = some x → ∀ k ∈ x.kids, 0 ≤ k ∧ k < i
structure ReachP (A : List Nd) (m : Nat) (r : List Bool) : Prop where
 len : r.length = A.length
 down : ∀ i, m ≤ i → i < A.length → bAt r i = true → ∀ k ∈ (nodeAt A i).kids, bAt r k.toNat = true
 up : ∀ i, i < A.length → bAt r i = true → i + 1 = A.length ∨ ∃ j, m ≤ j ∧ i < j ∧ j < A.length ∧ bAt r j = true ∧ (i : Int) ∈ (nodeAt A j).kids
 root : m < A.length → bAt r (A.length - 1) = true
theorem reach_step {A : List Nd} (hA : KidsIn A) {m : Nat} {r : List Bool} (hm : m < A.length) (h : ReachP A (m + 1) r) : ReachP A m (reachStep A r m) := by
 have hx : A[m]? = some A[m] := List.getElem?_eq_getElem hm
 have hn := nodeAt_eq hx
 have hk : ∀ k ∈ (nodeAt A m).kids, 0 ≤ k ∧ k < m := by rw [hn]; exact hA m _ hx
 have hlen := h.len
 obtain ⟨e1, e2⟩ := kidFold m (nodeAt A m).kids (r.set m (bAt r m || decide (m + 1 = A.length))) fun k hkm => by
  have := hk k hkm
  exact ⟨by rw [List.length_set]; omega, by omega⟩
 have e3 : ∀ j, bAt (reachStep A r m) j = ((if m = j then (bAt r m || decide (m + 1 = A.length)) else bAt r j) || ((nodeAt A m).kids.any (fun k => decide (k.toNat = j)) && (bAt r m || decide (m + 1 = A.length)))) := fun j => by
  unfold reachStep
  rw [e2, bAt_set _ _ _ _ (by omega), bAt_set _ _ _ _ (by omega), if_pos rfl]
 have notk : ∀ j, m ≤ j → (nodeAt A m).kids.any (fun k => decide (k.toNat = j)) = false := fun j hj => by
  rw [List.any_eq_false]
  intro k hkm
  have := hk k hkm
  simp; omega
 have keep : ∀ j, bAt r j = true → bAt (reachStep A r m) j = true := fun j hj => by
  rw [e3]
  split
  ·rename_i e; subst e; simp [hj]
  ·simp [hj]
 have high : ∀ j, m < j → bAt (reachStep A r m) j = bAt r j := fun j hj => by
  rw [e3, if_neg (by omega), notk j (by omega)]; simp
 have atm : bAt (reachStep A r m) m = (bAt r m || decide (m + 1 = A.length)) := by
  rw [e3, if_pos rfl, notk m (by omega)]; simp
 refine ⟨by unfold reachStep; rw [e1, List.length_set, hlen], fun i hi hil hb k hkm => ?_, fun i hil hb => ?_, fun _ => ?_⟩
 ·rcases Nat.lt_or_ge m i with h2 | h2
  ·rw [high i h2] at hb
   exact keep _ (h.down i (by omega) hil hb k hkm)
  ·obtain rfl : i = m := by omega
   rw [atm] at hb
   rw [e3, hb]
   have : (nodeAt A i).kids.any (fun q => decide (q.toNat = k.toNat)) = true := List.any_eq_true.2 ⟨k, hkm, by simp⟩
   rw [this]
   simp
 ·rw [e3] at hb
  by_cases hr : bAt r i = true
  ·rcases h.up i hil hr with h2 | ⟨j, j1, j2, j3, j4, j5⟩
   ·exact .inl h2
   ·exact .inr ⟨j, by omega, j2, j3, keep j j4, j5⟩
  ·by_cases e : m = i
   ·subst e
    rw [if_pos rfl, notk m (by omega)] at hb
    have hr : bAt r m = false := by simpa using hr
    rw [hr] at hb
    left; simpa using hb
   ·rw [if_neg e] at hb
    have hr : bAt r i = false := by simpa using hr
    rw [hr, Bool.false_or, Bool.and_eq_true] at hb
    obtain ⟨k, hkm, hki⟩ := List.any_eq_true.1 hb.1
    have hki : k.toNat = i := by simpa using hki
    have := hk k hkm
    refine .inr ⟨m, Nat.le_refl _, by omega, hm, by rw [atm]; exact hb.2, ?_⟩
    rw [← hki, Int.toNat_of_nonneg this.1]
    exact hkm
 ·rcases Nat.lt_or_ge (m + 1) A.length with h2 | h2
  ·exact keep _ (h.root h2)
  ·rw [show A.length - 1 = m by omega, atm, decide_eq_true (by omega)]; simp
def reachF (A : List Nd) : Nat → List Bool → List Bool
 | 0, r => r
 | m + 1, r => reachF A m (reachStep A r m)
theorem reachF_ok {A : List Nd} (hA : KidsIn A) : ∀ (m : Nat) (r : List Bool), m ≤ A.length → ReachP A m r → ReachP A 0 (reachF A m r)
 | 0, r, _, h => h
 | m + 1, r, hm, h => reachF_ok hA m _ (by omega) (reach_step hA (by omega) h)
theorem reach_init (A : List Nd) : ReachP A A.length (List.replicate A.length false) := by
 have : ∀ i, bAt (List.replicate A.length false) i = false := fun i => by
  unfold bAt
  rw [List.getD_eq_getElem?_getD, List.getElem?_replicate]
  split <;> rfl
 refine ⟨by simp, fun i h1 h2 => by omega, fun i hi hb => ?_, fun h => by omega⟩
 rw [this] at hb; cases hb
def placeAt (p : List Int) (k : Int) : Int := p.getD k.toNat 0
def withKids (x : Nd) (p : List Int) : Nd := { x with kids := x.kids.map (placeAt p) }
def idxN (T : List Nd) (x : Nd) : Option Nat := T.findIdx? fun y => decide (codN y = codN x)
def trimStep (A : List Nd) (r : List Bool) (s : List Nd × List Int) (i : Nat) : List Nd × List Int :=
 if bAt r i = false then s else
  match idxN s.1 (withKids (nodeAt A i) s.2) with
  | some q => (s.1, s.2.set i q)
  | none => (s.1 ++ [withKids (nodeAt A i) s.2], s.2.set i s.1.length)
theorem place_set {p : List Int} {i : Nat} {v k : Int} (h : k.toNat ≠ i) : placeAt (p.set i v) k = placeAt p k := by
 unfold placeAt
 rw [List.getD_eq_getElem?_getD, List.getD_eq_getElem?_getD, List.getElem?_set, if_neg (by omega)]
theorem withKids_set {x : Nd} {p : List Int} {i : Nat} {v : Int} (h : ∀ k ∈ x.kids, k.toNat ≠ i) : withKids x (p.set i v) = withKids x p := by
 unfold withKids
 congr 1
 exact List.map_congr_left fun k hk => place_set (h k hk)
structure TrimP (A : List Nd) (r : List Bool) (i : Nat) (s : List Nd × List Int) : Prop where
 plen : s.2.length = A.length
 tlen : s.1.length ≤ i
 img : ∀ j, j < i → j < A.length → bAt r j = true → ∃ q : Nat, s.2[j]? = some (q : Int) ∧ s.1[q]? = some (withKids (nodeAt A j) s.2)
 kids : KidsIn s.1
 src : ∀ q, q < s.1.length → ∃ j, j < i ∧ j < A.length ∧ bAt r j = true ∧ s.2[j]? = some (q : Int)
 ok : ∀ y ∈ s.1, okN y
theorem place_of {p : List Int} {k : Int} {j q : Nat} (h0 : k = j) (h : p[j]? = some (q : Int)) : placeAt p k = q := by
 unfold placeAt
 rw [h0, Int.toNat_natCast, List.getD_eq_getElem?_getD, h]; rfl
theorem trim_step {A : List Nd} (hA : KidsIn A) (hok : ∀ x ∈ A, okN x) (hlen : A.length ≤ 4096) {r : List Bool} (hr : ReachP A 0 r) {i : Nat} (hi : i < A.length) {s : List Nd × List Int} (h : TrimP A r i s) : TrimP A r (i + 1) (trimStep A r s i) := by
 obtain ⟨T, p⟩ := s
 have hx : A[i]? = some A[i] := List.getElem?_eq_getElem hi
 have hn := nodeAt_eq hx
 have hks : ∀ k ∈ (nodeAt A i).kids, 0 ≤ k ∧ k < i := by rw [hn]; exact hA i _ hx
 unfold trimStep
 simp only
 by_cases hb : bAt r i = false
 ·rw [if_pos hb]
  refine ⟨h.plen, by have := h.tlen; omega, fun j h1 h2 h3 => ?_, h.kids, fun q hq => ?_, h.ok⟩
  ·rcases Nat.lt_or_ge j i with e | e
   ·exact h.img j e h2 h3
   ·obtain rfl : j = i := by omega
    rw [hb] at h3; cases h3
  ·obtain ⟨j, j1, j2⟩ := h.src q hq
   exact ⟨j, by omega, j2⟩
 ·rw [if_neg hb]
  have hb : bAt r i = true := by simpa using hb
  have hkd := hr.down i (Nat.zero_le _) hi hb
  have hpk : ∀ k ∈ (nodeAt A i).kids, ∃ q : Nat, q < T.length ∧ placeAt p k = q := fun k hk => by
   have hk2 := hks k hk
   obtain ⟨q, q1, q2⟩ := h.img k.toNat (by omega) (by omega) (hkd k hk)
   exact ⟨q, (List.getElem?_eq_some_iff.1 q2).1, place_of (Int.toNat_of_nonneg hk2.1).symm q1⟩
  have hne : ∀ j, j < i + 1 → j < A.length → ∀ k ∈ (nodeAt A j).kids, k.toNat ≠ i := fun j h1 h2 k hk => by
   have e : A[j]? = some A[j] := List.getElem?_eq_getElem h2
   rw [nodeAt_eq e] at hk
   have := hA j _ e k hk
   omega
  have hT := h.tlen
  simp only at hT
  have hxo : okN (withKids (nodeAt A i) p) := by
   have ho := hok _ (List.mem_of_getElem? hx)
   rw [← hn] at ho
   refine ⟨ho.kind, ho.name, ho.lo, ho.hi, ho.weights, ho.weightsI, ho.labels, ho.labelsI, ho.values, ho.valuesI, by unfold withKids; rw [List.length_map]; exact ho.kids, fun k hk => ?_, ho.value, ho.valueS⟩
   obtain ⟨k0, hk0, rfl⟩ := List.mem_map.1 hk
   obtain ⟨q, q1, q2⟩ := hpk k0 hk0
   rw [q2]
   exact ⟨by omega, by omega⟩
  have hset : ∀ (v : Int) (j : Nat), j < i → (p.set i v)[j]? = p[j]? := fun v j hj => by rw [List.getElem?_set, if_neg (by omega)]
  have hset2 : ∀ v : Int, (p.set i v)[i]? = some v := fun v => by rw [List.getElem?_set, if_pos rfl, if_pos (by have := h.plen; simp only at this; omega)]
  cases hf : idxN T (withKids (nodeAt A i) p) with
  | some q =>
   unfold idxN at hf
   obtain ⟨hq, e1, -⟩ := List.findIdx?_eq_some_iff_getElem.1 hf
   have e1 : codN T[q] = codN (withKids (nodeAt A i) p) := by simpa using e1
   have e2 := codN_inj (h.ok _ (List.getElem_mem hq)) hxo e1
   refine ⟨by rw [List.length_set]; exact h.plen, by simp only; omega, fun j h1 h2 h3 => ?_, h.kids, fun q' hq' => ?_, h.ok⟩
   ·rcases Nat.lt_or_ge j i with e | e
    ·obtain ⟨q', q1, q2⟩ := h.img j e h2 h3
     refine ⟨q', by rw [← q1]; exact hset _ j e, ?_⟩
     simp only
     rw [withKids_set (hne j h1 h2)]
     exact q2
    ·obtain rfl : j = i := by omega
     refine ⟨q, hset2 _, ?_⟩
     simp only
     rw [withKids_set (hne j h1 h2), List.getElem?_eq_getElem hq, e2]
   ·obtain ⟨j, j1, j2, j3, j4⟩ := h.src q' hq'
    exact ⟨j, by omega, j2, j3, by rw [← j4]; exact hset _ j j1⟩
  | none =>
   refine ⟨by rw [List.length_set]; exact h.plen, by simp only [List.length_append, List.length_singleton]; omega, fun j h1 h2 h3 => ?_, ?_, fun q' hq' => ?_, fun y hy => ?_⟩
   ·rcases Nat.lt_or_ge j i with e | e
    ·obtain ⟨q', q1, q2⟩ := h.img j e h2 h3
     refine ⟨q', by rw [← q1]; exact hset _ j e, ?_⟩
     simp only at q2 ⊢
     rw [withKids_set (hne j h1 h2), List.getElem?_append_left (List.getElem?_eq_some_iff.1 q2).1]
     exact q2
    ·obtain rfl : j = i := by omega
     refine ⟨T.length, hset2 _, ?_⟩
     simp only
     rw [withKids_set (hne j h1 h2), List.getElem?_append_right (Nat.le_refl _)]
     simp
   ·intro q y hy k hk
    simp only at hy
    rcases Nat.lt_or_ge q T.length with e | e
    ·rw [List.getElem?_append_left e] at hy
     exact h.kids q y hy k hk
    ·rw [List.getElem?_append_right e] at hy
     have e0 : q - T.length = 0 := by
      have := (List.getElem?_eq_some_iff.1 hy).1
      simp at this; omega
     rw [e0] at hy
     simp only [List.getElem?_cons_zero, Option.some.injEq] at hy
     subst hy
     obtain ⟨k0, hk0, rfl⟩ := List.mem_map.1 hk
     obtain ⟨q', q1, q2⟩ := hpk k0 hk0
     rw [q2]
     omega
   ·simp only [List.length_append, List.length_singleton] at hq'
    rcases Nat.lt_or_ge q' T.length with e | e
    ·obtain ⟨j, j1, j2, j3, j4⟩ := h.src q' e
     exact ⟨j, by omega, j2, j3, by rw [← j4]; exact hset _ j j1⟩
    ·obtain rfl : q' = T.length := by omega
     exact ⟨i, by omega, hi, hb, hset2 _⟩
   ·rcases List.mem_append.1 hy with hy | hy
    ·exact h.ok y hy
    ·simp at hy; rw [hy]; exact hxo
end Go.Ax
namespace Go.Ax
open Go
def trimN (A : List Nd) (r : List Bool) : Nat → List Nd × List Int
 | 0 => ([], List.replicate A.length 0)
 | i + 1 => trimStep A r (trimN A r i) i
theorem trim_all {A : List Nd} (hA : KidsIn A) (hok : ∀ x ∈ A, okN x) (hlen : A.length ≤ 4096) {r : List Bool} (hr : ReachP A 0 r) : ∀ i, i ≤ A.length → TrimP A r i (trimN A r i)
 | 0, _ => ⟨by simp [trimN], by simp [trimN], fun j h => by omega, fun i x h => by simp [trimN] at h, fun q h => by simp [trimN] at h, by simp [trimN]⟩
 | i + 1, h => trim_step hA hok hlen hr (by omega) (trim_all hA hok hlen hr i (by omega))
section
variable {A : List Nd} (hA : KidsIn A) {r : List Bool} (hr : ReachP A 0 r) {T : List Nd} {p : List Int} (h : TrimP A r A.length (T, p))
include hA hr h
theorem trim_kid {j : Nat} (hj : j < A.length) (hb : bAt r j = true) {k : Int} (hk : k ∈ (nodeAt A j).kids) : 0 ≤ k ∧ k < j ∧ bAt r k.toNat = true ∧ ∃ q : Nat, p[k.toNat]? = some (q : Int) ∧ T[q]? = some (withKids (nodeAt A k.toNat) p) ∧ placeAt p k = q := by
 have e : A[j]? = some A[j] := List.getElem?_eq_getElem hj
 have hk2 : 0 ≤ k ∧ k < j := by rw [nodeAt_eq e] at hk; exact hA j _ e k hk
 have hb2 := hr.down j (Nat.zero_le _) hj hb k hk
 obtain ⟨q, q1, q2⟩ := h.img k.toNat (by omega) (by omega) hb2
 exact ⟨hk2.1, hk2.2, hb2, q, q1, q2, place_of (Int.toNat_of_nonneg hk2.1).symm q1⟩
theorem trim_sim : ∀ (f j q : Nat), j < f → j < A.length → bAt r j = true → p[j]? = some (q : Int) → Sim A T j q
 | 0, j, q, hf, _, _, _ => absurd hf (by omega)
 | f + 1, j, q, hf, hj, hb, hq => by
  have e : A[j]? = some A[j] := List.getElem?_eq_getElem hj
  have hn := nodeAt_eq e
  obtain ⟨q', q1, q2⟩ := h.img j hj hj hb
  have : q' = q := by
   simp only at q1
   rw [q1] at hq
   simp only [Option.some.injEq] at hq
   omega
  subst this
  rw [hn] at q2
  refine .mk j q' A[j] _ e q2 rfl (by unfold withKids; simp) (fun k a b ha hb2 => ?_) fun k a b ha hb2 => ?_
  all_goals
   have hm : a ∈ (nodeAt A j).kids := by rw [hn]; exact List.mem_of_getElem? ha
   obtain ⟨k1, k2, k3, q3, k4, k5, k6⟩ := trim_kid hA hr h hj hb hm
   simp only [withKids, List.getElem?_map, ha, Option.map_some, Option.some.injEq] at hb2
   rw [k6] at hb2
   subst hb2
  ·exact ⟨k1, by omega⟩
  ·rw [Int.toNat_natCast]
   exact trim_sim f a.toNat q3 (by omega) (by omega) k3 k4
theorem trim_less (hpos : 0 < A.length) {R : Nat} (hR : p[A.length - 1]? = some (R : Int)) : ∀ (d j q : Nat), A.length - j ≤ d → j < A.length → bAt r j = true → p[j]? = some (q : Int) → j + 1 = A.length ∨ q < R
 | 0, j, q, hd, hj, _, _ => by omega
 | d + 1, j, q, hd, hj, hb, hq => by
  rcases hr.up j hj hb with h1 | ⟨m, m1, m2, m3, m4, m5⟩
  ·exact .inl h1
  ·right
   obtain ⟨k1, k2, k3, q3, k4, k5, k6⟩ := trim_kid hA hr h m3 m4 m5
   rw [Int.toNat_natCast] at k4
   have e3 : q3 = q := by
    rw [k4] at hq
    simp only [Option.some.injEq] at hq
    omega
   obtain ⟨qm, a1, a2⟩ := h.img m m3 m3 m4
   have hlt : (q3 : Int) < qm := by
    refine (h.kids qm _ a2 (q3 : Int) ?_).2
    unfold withKids
    simp only
    exact List.mem_map.2 ⟨_, m5, k6⟩
   rcases trim_less hpos hR d m qm (by omega) m3 m4 a1 with h2 | h2
   ·have : A.length - 1 = m := by omega
    rw [this] at hR
    simp only at a1
    rw [a1] at hR
    simp only [Option.some.injEq] at hR
    omega
   ·omega
theorem trim_root (hpos : 0 < A.length) : Sim A T (A.length - 1) (T.length - 1) ∧ 0 < T.length := by
 have hb := hr.root hpos
 obtain ⟨R, r1, r2⟩ := h.img (A.length - 1) (by omega) (by omega) hb
 simp only at r1 r2
 have hRl := (List.getElem?_eq_some_iff.1 r2).1
 have hRT : R = T.length - 1 := by
  rcases Nat.lt_or_ge R (T.length - 1) with hlt | hge
  ·obtain ⟨j, j1, j2, j3, j4⟩ := h.src (T.length - 1) (by simp only; omega)
   rcases trim_less hA hr h hpos r1 _ j _ (Nat.le_refl _) j2 j3 j4 with e | e
   ·have : A.length - 1 = j := by omega
    rw [this] at r1
    simp only at j4
    rw [r1] at j4
    simp only [Option.some.injEq] at j4
    omega
   ·omega
  ·omega
 rw [← hRT]
 exact ⟨trim_sim hA hr h _ _ _ (Nat.lt_succ_self _) (by omega) hb r1, by omega⟩
end
end Go.Ax
namespace Go.Ax
open Go
def shiftN (x : Nd) : Nd := { x with kids := x.kids.map (· + 1) }
def moreT (n : Int) (A : List Nd) : List Nd := ⟨0, [], 0, 0, [], [], [], [], .mk 0 n [] []⟩ :: A.map shiftN
theorem moreT_get {n : Int} {A : List Nd} {j : Nat} {x : Nd} (h : A[j]? = some x) : (moreT n A)[j + 1]? = some (shiftN x) := by
 simp [moreT, h]
theorem moreT_len (n : Int) (A : List Nd) : (moreT n A).length = A.length + 1 := by simp [moreT]
theorem more_sim {A : List Nd} (hA : KidsIn A) (n : Int) : ∀ (f j : Nat), j < f → j < A.length → Sim A (moreT n A) j (j + 1)
 | 0, j, h, _ => absurd h (by omega)
 | f + 1, j, h, hj => by
  have e : A[j]? = some A[j] := List.getElem?_eq_getElem hj
  refine .mk j (j + 1) A[j] _ e (moreT_get e) rfl (by simp [shiftN]) (fun k a b ha hb => ?_) fun k a b ha hb => ?_
  all_goals
   have hk := hA j _ e a (List.mem_of_getElem? ha)
   simp only [shiftN, List.getElem?_map, ha, Option.map_some, Option.some.injEq] at hb
   subst hb
  ·exact ⟨hk.1, by omega⟩
  ·rw [show (a + 1).toNat = a.toNat + 1 by omega]
   exact more_sim hA n f a.toNat (by omega) (by omega)
theorem more_root {A : List Nd} (hA : KidsIn A) (n : Int) (hpos : 0 < A.length) : Sim A (moreT n A) (A.length - 1) ((moreT n A).length - 1) := by
 have := more_sim hA n _ (A.length - 1) (Nat.lt_succ_self _) (by omega)
 rw [moreT_len, show A.length + 1 - 1 = A.length - 1 + 1 by omega]
 exact this
theorem more_kids {A : List Nd} (hA : KidsIn A) (n : Int) : KidsIn (moreT n A) := by
 intro i x hx k hk
 cases i with
 | zero => simp [moreT] at hx; subst hx; simp at hk
 | succ i =>
  simp only [moreT, List.getElem?_cons_succ, List.getElem?_map] at hx
  cases e : A[i]? with
  | none => rw [e] at hx; cases hx
  | some y =>
   rw [e] at hx
   simp only [Option.map_some, Option.some.injEq] at hx
   subst hx
   obtain ⟨k0, hk0, rfl⟩ := List.mem_map.1 hk
   have := hA i y e k0 hk0
   omega
theorem more_src {A : List Nd} (hA : KidsIn A) (n : Int) : ∀ j, j < (moreT n A).length → j = 0 ∨ ∃ i, i < A.length ∧ Sim A (moreT n A) i j := by
 intro j hj
 rw [moreT_len] at hj
 cases j with
 | zero => exact .inl rfl
 | succ j => exact .inr ⟨j, by omega, more_sim hA n _ j (Nat.lt_succ_self _) (by omega)⟩
theorem sumK_cong2 {b b' : List Int} {ks ks' : List Int} (h : ks.map (atI b) = ks'.map (atI b')) : sumK b ks = sumK b' ks' := by
 have : ∀ (b ks : List Int) (s : Int), ks.foldl (fun s k => s + atI b k) s = (ks.map (atI b)).foldl (fun s k => s + k) s := fun b ks s => by rw [List.foldl_map]
 unfold sumK
 rw [this, this, h]
theorem mostK_cong2 {b b' : List Int} {ks ks' : List Int} (h : ks.map (atI b) = ks'.map (atI b')) : mostK b ks = mostK b' ks' := by
 have : ∀ (b ks : List Int) (s : Int), ks.foldl (fun s k => max s (atI b k)) s = (ks.map (atI b)).foldl (fun s k => max s k) s := fun b ks s => by rw [List.foldl_map]
 unfold mostK
 rw [this, this, h]
theorem uni_cong2 {b b' : List Lst} : ∀ {ks ks' : List Int} {x : List Val × Bool}, ks.map (atL b) = ks'.map (atL b') → ks.foldl (uniStep b) x = ks'.foldl (uniStep b') x
 | [], [], x, _ => rfl
 | [], k :: r, x, h => by simp at h
 | k :: r, [], x, h => by simp at h
 | k :: r, k' :: r', x, h => by
  simp only [List.map_cons, List.cons.injEq] at h
  have e : uniStep b x k = uniStep b' x k' := by unfold uniStep; rw [h.1]
  rw [List.foldl_cons, List.foldl_cons, e]
  exact uni_cong2 h.2
theorem uniL_cong2 {b b' : List Lst} {ks ks' : List Int} (h : ks.map (atL b) = ks'.map (atL b')) : uniL b ks = uniL b' ks' := by
 unfold uniL
 rw [uni_cong2 h]
theorem rowsL_cong2 {b b' : List Lst} : ∀ {ks ks' : List Int} {rows : List (List Val)}, ks.map (atL b) = ks'.map (atL b') → rowsL b ks rows = rowsL b' ks' rows
 | [], [], x, _ => rfl
 | [], k :: r, x, h => by simp at h
 | k :: r, [], x, h => by simp at h
 | k :: r, k' :: r', x, h => by
  simp only [List.map_cons, List.cons.injEq] at h
  unfold rowsL
  rw [h.1, rowsL_cong2 h.2]
theorem map_drop_eq {α : Type} {f g : Int → α} {ks ks' : List Int} (h : ks.map f = ks'.map g) (n : Nat) : (ks.drop n).map f = (ks'.drop n).map g := by
 rw [List.map_drop, List.map_drop, h]
theorem listN_cong2 {b b' : List Lst} {x y : Nd} (he : y = { x with kids := y.kids }) (h : x.kids.map (atL b) = y.kids.map (atL b')) : listN x b = listN y b' := by
 obtain ⟨k, nm, lo, hi, ws, ls, vs, ks, v⟩ := x
 obtain ⟨k2, nm2, lo2, hi2, ws2, ls2, vs2, ks2, v2⟩ := y
 cases he
 simp only at h
 unfold listN seqL
 simp only
 rw [rowsL_cong2 h]
 have h4 : uniL b (if k = 4 then ks.drop 1 else ks) = uniL b' (if k = 4 then ks2.drop 1 else ks2) := by
  split
  ·exact uniL_cong2 (map_drop_eq h 1)
  ·exact uniL_cong2 h
 rw [h4]
theorem arms_map {x y : Nd} (he : y = { x with kids := y.kids }) {α : Type} {f g : Int → α} (h : x.kids.map f = y.kids.map g) : (armsN x).map f = (armsN y).map g := by
 have ek : y.kind = x.kind := by rw [he]
 unfold armsN
 rw [ek]
 split
 ·exact h
 ·exact map_drop_eq h 1
theorem head_map {f g : Int → Int} {ks ks' : List Int} (h : ks.map f = ks'.map g) (h0 : 0 < ks.length) : f (ks.getD 0 0) = g (ks'.getD 0 0) := by
 cases ks with
 | nil => simp at h0
 | cons a r =>
  cases ks' with
  | nil => simp at h
  | cons b r' =>
   simp only [List.map_cons, List.cons.injEq] at h
   simpa using h.1
theorem lenN_cong2 {b b' : List Int} {x y : Nd} (he : y = { x with kids := y.kids }) (h4 : x.kind = 4 → 0 < x.kids.length) (hk : 0 ≤ x.kind ∧ x.kind ≤ 4) (h : x.kids.map (atI b) = y.kids.map (atI b')) : lenN b x = lenN b' y := by
 have ek : y.kind = x.kind := by rw [he]
 unfold lenN
 rw [ek, sumK_cong2 h, mostK_cong2 (arms_map he h)]
 by_cases k4 : x.kind = 4
 ·rw [head_map h (h4 k4)]
 ·by_cases k0 : x.kind = 0
  ·rw [if_pos k0, if_pos k0]
  ·by_cases k1 : x.kind = 1
   ·rw [if_neg k0, if_neg k0, if_pos k1, if_pos k1]
   ·by_cases k3 : x.kind = 3
    ·rw [if_neg k0, if_neg k0, if_neg k1, if_neg k1, if_pos k3, if_pos k3]
    ·rw [if_neg k0, if_neg k0, if_neg k1, if_neg k1, if_neg k3, if_neg k3, if_pos (by omega), if_pos (by omega)]
theorem sizN_cong2 {b b' : List Int} {x y : Nd} (he : y = { x with kids := y.kids }) (h : x.kids.map (atI b) = y.kids.map (atI b')) : sizN b x = sizN b' y := by
 have ek : y.kind = x.kind := by rw [he]
 have ev : y.value = x.value := by rw [he]
 unfold sizN
 rw [ek, ev, sumK_cong2 h, mostK_cong2 (arms_map he h)]
def accT {α : Type} (F : List α → Nd → α) (ns : List Nd) : List α := ns.foldl (fun o x => o ++ [F o x]) []
theorem accT_snoc {α : Type} (F : List α → Nd → α) (l : List Nd) (x : Nd) : accT F (l ++ [x]) = accT F l ++ [F (accT F l) x] := by simp [accT]
theorem accT_len {α : Type} (F : List α → Nd → α) (ns : List Nd) : (accT F ns).length = ns.length := by
 refine snoc_ind (P := fun ns => (accT F ns).length = ns.length) rfl (fun l x ih => ?_) ns
 rw [accT_snoc]; simp [ih]
theorem accT_app {α : Type} (F : List α → Nd → α) (l r : List Nd) : ∃ m, accT F (l ++ r) = accT F l ++ m := by
 refine snoc_ind (P := fun r => ∃ m, accT F (l ++ r) = accT F l ++ m) ⟨[], by simp⟩ (fun r x ih => ?_) r
 ·obtain ⟨m, hm⟩ := ih
  exact ⟨m ++ [F (accT F (l ++ r)) x], by rw [← List.append_assoc, accT_snoc, hm]; simp⟩
theorem accT_take {α : Type} (F : List α → Nd → α) {ns : List Nd} {n k : Nat} (h : k < n) (hn : n ≤ ns.length) : (accT F (ns.take n))[k]? = (accT F ns)[k]? := by
 obtain ⟨m, hm⟩ := accT_app F (ns.take n) (ns.drop n)
 rw [List.take_append_drop] at hm
 rw [hm, List.getElem?_append_left (by rw [accT_len, List.length_take]; omega)]
theorem accT_get {α : Type} (F : List α → Nd → α) {ns : List Nd} {j : Nat} {x : Nd} (hx : ns[j]? = some x) : (accT F ns)[j]? = some (F (accT F (ns.take j)) x) := by
 have hj := (List.getElem?_eq_some_iff.1 hx).1
 rw [← accT_take F (Nat.lt_succ_self j) hj, List.take_add_one, hx]
 show (accT F (ns.take j ++ [x]))[j]? = _
 rw [accT_snoc, List.getElem?_append_right (by rw [accT_len, List.length_take]; omega)]
 have : j - (accT F (ns.take j)).length = 0 := by rw [accT_len, List.length_take]; omega
 rw [this]; rfl
theorem accT_sim {α : Type} (F : List α → Nd → α) (d : α) {A B : List Nd} (hA : KidsIn A) (hB : KidsIn B)
  (hF : ∀ (b b' : List α) (i : Nat) (x y : Nd), A[i]? = some x → y = { x with kids := y.kids } → x.kids.map (fun k => b.getD k.toNat d) = y.kids.map (fun k => b'.getD k.toNat d) → F b x = F b' y)
  {i j : Nat} (h : Sim A B i j) : (accT F A)[i]? = (accT F B)[j]? := by
 induction h with
 | mk i j x y hx hy he hl hp _ ih =>
  rw [accT_get F hx, accT_get F hy]
  congr 1
  refine hF _ _ i x y hx he ?_
  have hi := (List.getElem?_eq_some_iff.1 hx).1
  have hj := (List.getElem?_eq_some_iff.1 hy).1
  refine List.ext_getElem? fun k => ?_
  rw [List.getElem?_map, List.getElem?_map]
  cases ha : x.kids[k]? with
  | none =>
   have : x.kids.length ≤ k := List.getElem?_eq_none_iff.1 ha
   rw [List.getElem?_eq_none (by omega)]
   rfl
  | some a =>
   have hk := (List.getElem?_eq_some_iff.1 ha).1
   have hb : y.kids[k]? = some y.kids[k] := List.getElem?_eq_getElem (by omega)
   rw [hb]
   have ha2 := hA i x hx a (List.mem_of_getElem? ha)
   have hb2 := hB j y hy _ (List.mem_of_getElem? hb)
   have e := ih k a _ ha hb
   simp only [Option.map_some, List.getD_eq_getElem?_getD]
   rw [accT_take F (by omega) (by omega), accT_take F (by omega) (by omega), e]
theorem lists_sim {A B : List Nd} (hA : KidsIn A) (hB : KidsIn B) {i j : Nat} (h : Sim A B i j) : (listsT A)[i]? = (listsT B)[j]? :=
 accT_sim (fun o x => listN x o) ⟨[], false⟩ hA hB (fun b b' i x y _ he h => listN_cong2 he h) h
theorem sizs_sim {A B : List Nd} (hA : KidsIn A) (hB : KidsIn B) {i j : Nat} (h : Sim A B i j) : (sizsT A)[i]? = (sizsT B)[j]? :=
 accT_sim sizN 0 hA hB (fun b b' i x y _ he h => sizN_cong2 he h) h
theorem lens_sim {A B : List Nd} (hA : KidsIn A) (hB : KidsIn B) (hk : ∀ (i : Nat) (x : Nd), A[i]? = some x → (x.kind = 4 → 0 < x.kids.length) ∧ 0 ≤ x.kind ∧ x.kind ≤ 4) {i j : Nat} (h : Sim A B i j) : (lensT A)[i]? = (lensT B)[j]? :=
 accT_sim lenN 0 hA hB (fun b b' i x y hx he h => lenN_cong2 he (hk i x hx).1 (hk i x hx).2 h) h
theorem valid_of_steps (ns : List Nd) : (∀ (j : Nat) (x : Nd), ns[j]? = some x → stepE (ns.take j) (lensT (ns.take j)) (sizsT (ns.take j)) x = 0) → validF [] ns = 0 := by
 refine snoc_ind (P := fun ns => (∀ (j : Nat) (x : Nd), ns[j]? = some x → stepE (ns.take j) (lensT (ns.take j)) (sizsT (ns.take j)) x = 0) → validF [] ns = 0) (fun _ => rfl) (fun l x ih h => ?_) ns
 have h0 : validF [] l = 0 := ih fun j y hy => by
  have hj := (List.getElem?_eq_some_iff.1 hy).1
  have := h j y (by rw [List.getElem?_append_left hj]; exact hy)
  rwa [List.take_append_of_le_length (by omega)] at this
 rw [validF_snoc [] l x h0, List.nil_append]
 have := h l.length x (by simp)
 rwa [List.take_left' rfl] at this
theorem formedN_sim {i j : Nat} {x y : Nd} (he : y = { x with kids := y.kids }) (hl : y.kids.length = x.kids.length) (hk : ∀ k ∈ y.kids, 0 ≤ k ∧ k < j) (h : formedN i x = true) : formedN j y = true := by
 obtain ⟨k, nm, lo, hi, ws, ls, vs, ks, v⟩ := x
 obtain ⟨k2, nm2, lo2, hi2, ws2, ls2, vs2, ks2, v2⟩ := y
 cases he
 simp only at hl hk
 have e : kidsIn j ks2 = true := by
  unfold kidsIn
  rw [List.all_eq_true]
  intro q hq
  have := hk q hq
  simp; omega
 unfold formedN unusedN at h ⊢
 simp only at h ⊢
 rw [e, hl]
 simp only [Bool.and_eq_true] at h ⊢
 obtain ⟨⟨⟨⟨⟨⟨a, b⟩, -⟩, c⟩, d⟩, f⟩, g⟩ := h
 exact ⟨⟨⟨⟨⟨⟨a, b⟩, trivial⟩, c⟩, d⟩, f⟩, g⟩
theorem nodeE_sim {i j : Nat} {x y : Nd} (he : y = { x with kids := y.kids }) (hl : y.kids.length = x.kids.length) (hk : ∀ k ∈ y.kids, 0 ≤ k ∧ k < j) (h : nodeE i x = 0) : nodeE j y = 0 := by
 have hf : formedN i x = true := by
  cases e : formedN i x with
  | true => rfl
  | false => unfold nodeE at h; rw [if_pos e] at h; cases h
 have hf2 := formedN_sim he hl hk hf
 unfold nodeE at h ⊢
 rw [if_neg (by rw [hf]; simp)] at h
 rw [if_neg (by rw [hf2]; simp)]
 have e1 : ownN y = ownN x := by rw [he]; rfl
 have e2 : numbersN y = numbersN x := by rw [he]; rfl
 rw [e1, e2]
 exact h
theorem atL_bound {ns : List Nd} {i : Nat} {k : Int} (h0 : 0 ≤ k) (hk : k < i) (hi : i ≤ ns.length) : atL (listsT ((ns.take i).take (k.toNat + 1))) k = ((listsT ns)[k.toNat]?).getD ⟨[], false⟩ := by
 rw [List.take_take, Nat.min_eq_left (by omega)]
 unfold atL
 rw [List.getD_eq_getElem?_getD]
 exact congrArg (fun o => Option.getD o ⟨[], false⟩) (accT_take (fun o x => listN x o) (ns := ns) (n := k.toNat + 1) (k := k.toNat) (by omega) (by omega))
theorem step_sim {A B : List Nd} (hA : KidsIn A) (hB : KidsIn B) (hK : ∀ (i : Nat) (x : Nd), A[i]? = some x → (x.kind = 4 → 0 < x.kids.length) ∧ 0 ≤ x.kind ∧ x.kind ≤ 4) {i j : Nat} (hs : Sim A B i j) {x y : Nd} (hx : A[i]? = some x) (hy : B[j]? = some y)
  (h : stepE (A.take i) (lensT (A.take i)) (sizsT (A.take i)) x = 0) : stepE (B.take j) (lensT (B.take j)) (sizsT (B.take j)) y = 0 := by
 have e1 := lens_sim hA hB hK hs
 have e2 := sizs_sim hA hB hs
 have a1 : (lensT A)[i]? = some (lenN (lensT (A.take i)) x) := accT_get lenN hx
 have a2 : (lensT B)[j]? = some (lenN (lensT (B.take j)) y) := accT_get lenN hy
 have b1 : (sizsT A)[i]? = some (sizN (sizsT (A.take i)) x) := accT_get sizN hx
 have b2 : (sizsT B)[j]? = some (sizN (sizsT (B.take j)) y) := accT_get sizN hy
 rw [a1, a2] at e1
 rw [b1, b2] at e2
 have e1 : lenN (lensT (A.take i)) x = lenN (lensT (B.take j)) y := Option.some.inj e1
 have e2 : sizN (sizsT (A.take i)) x = sizN (sizsT (B.take j)) y := Option.some.inj e2
 have hi := (List.getElem?_eq_some_iff.1 hx).1
 have hj := (List.getElem?_eq_some_iff.1 hy).1
 have li : (A.take i).length = i := by rw [List.length_take]; omega
 have lj : (B.take j).length = j := by rw [List.length_take]; omega
 cases hs with
 | mk _ _ x' y' hx' hy' he hl hp hs =>
  rw [hx] at hx'; cases hx'
  rw [hy] at hy'; cases hy'
  unfold stepE at h ⊢
  rw [li] at h
  rw [lj]
  have hn : nodeE i x = 0 := by
   rcases Decidable.em (nodeE i x = 0) with e | e
   ·exact e
   ·rw [if_pos e] at h; exact absurd h e
  rw [if_neg (by rw [hn]; simp)] at h
  rw [if_neg (by rw [nodeE_sim he hl (fun k hk => hB j y hy k hk) hn]; simp), ← e1, ← e2]
  split at h
  ·cases h
  ·rename_i hb
   rw [if_neg hb]
   have ek : y.kind = x.kind := by rw [he]
   have ev : y.values = x.values := by rw [he]
   rw [ek]
   split at h
   ·rename_i k4
    rw [if_pos k4]
    have h0 := (hK i x hx).1 k4
    have ga : x.kids[0]? = some (x.kids.getD 0 0) := by rw [List.getD_eq_getElem?_getD, List.getElem?_eq_getElem h0]; rfl
    have gb : y.kids[0]? = some (y.kids.getD 0 0) := by rw [List.getD_eq_getElem?_getD, List.getElem?_eq_getElem (show 0 < y.kids.length by omega)]; rfl
    have ka := hA i x hx _ (List.mem_of_getElem? ga)
    have kb := hB j y hy _ (List.mem_of_getElem? gb)
    have es := lists_sim hA hB (hs 0 _ _ ga gb)
    unfold boundE at h ⊢
    rw [atL_bound ka.1 ka.2 (by omega), es] at h
    rw [atL_bound kb.1 kb.2 (by omega), ev]
    exact h
   ·rename_i k4
    rw [if_neg k4]
theorem valid_sim {A B : List Nd} (hA : KidsIn A) (hB : KidsIn B) (hK : ∀ (i : Nat) (x : Nd), A[i]? = some x → (x.kind = 4 → 0 < x.kids.length) ∧ 0 ≤ x.kind ∧ x.kind ≤ 4) (hv : validF [] A = 0)
  (hs : ∀ (j : Nat) (y : Nd), B[j]? = some y → stepE (B.take j) (lensT (B.take j)) (sizsT (B.take j)) y = 0 ∨ ∃ i, i < A.length ∧ Sim A B i j) : validF [] B = 0 :=
 valid_of_steps B fun j y hy => by
  rcases hs j y hy with h | ⟨i, hi, h⟩
  ·exact h
  ·have hx : A[i]? = some A[i] := List.getElem?_eq_getElem hi
   exact step_sim hA hB hK h hx hy (valid_step A hv i _ hx)
end Go.Ax
namespace Go.Ax
open Go
structure GenB (x : Nd) : Prop where
 ok : okN x
 val : sizeV x.value ≤ 1024
 vals : ∀ v ∈ x.values, sizeV v ≤ 1024
 vlen : x.values.length ≤ 1024
 klen : x.kids.length ≤ 1025
 llen : x.labels.length ≤ 256
 wlen : x.weights.length ≤ 256
 lab : ∀ s ∈ x.labels, s ∈ abcd
theorem firstE_zero : ∀ {l : List Val}, firstE l = 0 → ∀ v ∈ l, validV v = 0
 | [], _, v, hv => by simp at hv
 | a :: r, h, v, hv => by
  simp only [firstE] at h
  split at h
  ·rename_i h1; exact absurd h h1
  ·rename_i h1
   rcases List.mem_cons.1 hv with rfl | hv
   ·exact Decidable.not_not.1 h1
   ·exact firstE_zero h v hv
theorem validV_size {v : Val} (h : validV v = 0) : sizeV v ≤ 1024 := by
 unfold validV at h
 split at h
 ·omega
 ·split at h
  ·omega
  ·rename_i h1; rw [not_or] at h1; omega
theorem zeroV_size {v : Val} (h : zeroV v = true) : sizeV v ≤ 1024 := by
 obtain ⟨k, n, s, ks⟩ := v
 simp only [zeroV, Bool.and_eq_true, decide_eq_true_eq] at h
 have : ks = [] := List.length_eq_zero_iff.1 h.2
 subst this
 simp [sizeV, sizeL]
theorem genB_tree {ns : List Nd} (h : TreeOK ns) : ∀ x ∈ ns, GenB x := by
 intro x hx
 obtain ⟨j, hj⟩ := List.getElem?_of_mem hx
 have hn := valid_node ns h.valid j x hj
 have hN := node_ok hn
 have hg := h.gen x hx
 have hf := nodeE_formed hn
 have hfe : firstE (ownN x) = 0 := by
  unfold nodeE at hn
  rw [if_neg (by rw [hf]; simp)] at hn
  split at hn
  ·rename_i h1; exact absurd hn h1
  ·rename_i h1; exact Decidable.not_not.1 h1
 have hv := firstE_zero hfe
 unfold formedN at hf
 simp only [Bool.and_eq_true] at hf
 obtain ⟨⟨⟨⟨⟨⟨hu, hkd⟩, hki⟩, h2⟩, h3⟩, h4⟩, h5⟩ := hf
 unfold unusedN at hu
 simp only [Bool.and_eq_true, Bool.or_eq_true, decide_eq_true_eq] at hu h2 h4
 have hul := hu.1.1.2
 have hz := hu.1.1.1.1.1
 have hvl := hg.vals
 refine ⟨hg.ok, ?_, fun v hm => validV_size (hv v (by unfold ownN; exact List.mem_append_right _ hm)), hvl, ?_, ?_, ?_, hg.labels⟩
 ·rcases hz with e | e
  ·exact validV_size (hv x.value (by unfold ownN; rw [if_pos e]; simp))
  ·exact zeroV_size e
 ·by_cases e : x.kind = 4
  ·have := hN.bind e; omega
  ·have := hN.klen e; omega
 ·rcases hul with e | e
  ·rcases h2 with h2 | h2
   ·exact absurd e h2
   ·omega
  ·omega
 ·rcases hul with e | e
  ·rcases h2 with h2 | h2
   ·exact absurd e h2
   ·omega
  ·omega
structure SpN (LB : List (List UInt8)) (x : Nd) : Prop where
 ok : okN x
 val : sizeV x.value ≤ 1048576
 vals : ∀ v ∈ x.values, sizeV v ≤ 1048576
 vlen : x.values.length ≤ 2000
 klen : x.kids.length ≤ 2000
 llen : x.labels.length ≤ 1000
 lab : ∀ s ∈ x.labels, s ∈ LB
variable {LB : List (List UInt8)}
theorem spN_gen (hLB : ∀ s ∈ abcd, s ∈ LB) {x : Nd} (h : GenB x) : SpN LB x :=
 ⟨h.ok, by have := h.val; omega, fun v hv => by have := h.vals v hv; omega, by have := h.vlen; omega, by have := h.klen; omega, by have := h.llen; omega, fun s hs => hLB s (h.lab s hs)⟩
theorem treeIn_of {ns : List Nd} (hLB : ∀ s ∈ LB, s.length ≤ 19) (h : ∀ x ∈ ns, SpN LB x) (hl : ns.length ≤ 1000) : TreeIn ns :=
 ⟨fun x hx => (h x hx).ok, fun x hx => (h x hx).val, fun x hx => (h x hx).vals, fun x hx => (h x hx).vlen, fun x hx => (h x hx).klen, fun x hx => (h x hx).llen, fun x hx s hs => by have := hLB s ((h x hx).lab s hs); omega, hl⟩
theorem sp_kids {x : Nd} {ks : List Int} (h : SpN LB x) (hl : ks.length ≤ 2000) (hi : ∀ w ∈ ks, i64 w) : SpN LB { x with kids := ks } := ⟨⟨h.ok.kind, h.ok.name, h.ok.lo, h.ok.hi, h.ok.weights, h.ok.weightsI, h.ok.labels, h.ok.labelsI, h.ok.values, h.ok.valuesI, by simp only; omega, hi, h.ok.value, h.ok.valueS⟩, h.val, h.vals, h.vlen, hl, h.llen, h.lab⟩
end Go.Ax
namespace Go.Ax
open Go
def reachT (A : List Nd) : List Bool := reachF A A.length (List.replicate A.length false)
def trimT (A : List Nd) : List Nd := (trimN A (reachT A) A.length).1
theorem kidsIn_of {A : List Nd} (hv : validF [] A = 0) : KidsIn A := fun i x hx k hk => by
 obtain ⟨j, hj⟩ := List.getElem?_of_mem hk
 exact (node_ok (valid_node A hv i x hx)).kids j k hj
theorem kinds_of {A : List Nd} (hv : validF [] A = 0) : ∀ (i : Nat) (x : Nd), A[i]? = some x → (x.kind = 4 → 0 < x.kids.length) ∧ 0 ≤ x.kind ∧ x.kind ≤ 4 := fun i x hx => by
 have h := node_ok (valid_node A hv i x hx)
 exact ⟨fun h4 => by rw [h.bind h4]; omega, h.kind.1, h.kind.2⟩
theorem nodesOK_of {A : List Nd} (hv : validF [] A = 0) : NodesOK A := fun i x hx => by
 have hn := valid_node A hv i x hx
 have h := node_ok hn
 have hf : formedN i x = true := by
  cases e : formedN i x with
  | true => rfl
  | false => unfold nodeE at hn; rw [if_pos e] at hn; cases hn
 unfold formedN at hf
 simp only [Bool.and_eq_true, Bool.or_eq_true, decide_eq_true_eq] at hf
 refine ⟨fun h2 => ?_, h.bind, srt_of_sortedA hf.2⟩
 rcases hf.1.1.1.2 with h3 | h3
 ·exact absurd h2 h3
 ·exact h3.2
section
variable {A : List Nd} (hv : validF [] A = 0) (hok : ∀ x ∈ A, okN x) (hlen : A.length ≤ 4096)
include hv hok hlen
theorem trimT_P : ReachP A 0 (reachT A) ∧ TrimP A (reachT A) A.length (trimN A (reachT A) A.length) :=
 have hr := reachF_ok (kidsIn_of hv) A.length _ (Nat.le_refl _) (reach_init A)
 ⟨hr, trim_all (kidsIn_of hv) hok hlen hr _ (Nat.le_refl _)⟩
theorem trimT_valid : validF [] (trimT A) = 0 := by
 obtain ⟨hr, hT⟩ := trimT_P hv hok hlen
 refine valid_sim (kidsIn_of hv) hT.kids (kinds_of hv) hv fun j y hy => .inr ?_
 obtain ⟨i, _, h2, h3, h4⟩ := hT.src j (List.getElem?_eq_some_iff.1 hy).1
 exact ⟨i, h2, trim_sim (kidsIn_of hv) hr (T := (trimN A (reachT A) A.length).1) (p := (trimN A (reachT A) A.length).2) hT _ i j (Nat.lt_succ_self _) h2 h3 h4⟩
theorem trimT_root (hpos : 0 < A.length) : Sim A (trimT A) (A.length - 1) ((trimT A).length - 1) ∧ 0 < (trimT A).length := by
 obtain ⟨hr, hT⟩ := trimT_P hv hok hlen
 exact trim_root (kidsIn_of hv) hr (p := (trimN A (reachT A) A.length).2) hT hpos
theorem trimT_sp {LB : List (List UInt8)} (hs : ∀ x ∈ A, SpN LB x) : (∀ x ∈ trimT A, SpN LB x) ∧ (trimT A).length ≤ A.length := by
 obtain ⟨hr, hT⟩ := trimT_P hv hok hlen
 refine ⟨fun y hy => ?_, hT.tlen⟩
 obtain ⟨q, hq⟩ := List.getElem?_of_mem hy
 obtain ⟨i, _, h2, h3, h4⟩ := hT.src q (List.getElem?_eq_some_iff.1 hq).1
 have h := trim_sim (kidsIn_of hv) hr (T := (trimN A (reachT A) A.length).1) (p := (trimN A (reachT A) A.length).2) hT _ i q (Nat.lt_succ_self _) h2 h3 h4
 cases h with
 | mk _ _ x y' hx hy' he hl hp _ =>
  have e : y = y' := by
   have h5 : (trimT A)[q]? = some y' := hy'
   rw [hq] at h5
   exact Option.some.inj h5
  subst e
  have hx2 := hs x (List.mem_of_getElem? hx)
  rw [he]
  exact sp_kids hx2 (by rw [hl]; exact hx2.klen) (hT.ok y hy).kidsI
end
theorem moreT_valid {A : List Nd} (hv : validF [] A = 0) (n : Int) : validF [] (moreT n A) = 0 := by
 refine valid_sim (kidsIn_of hv) (more_kids (kidsIn_of hv) n) (kinds_of hv) hv fun j y hy => ?_
 rcases more_src (kidsIn_of hv) n j (List.getElem?_eq_some_iff.1 hy).1 with rfl | h
 ·left
  simp only [moreT, List.getElem?_cons_zero, Option.some.injEq] at hy
  subst hy
  exact stepE_leaf _ _ _ _
 ·exact .inr h
theorem moreT_sp {A : List Nd} (hv : validF [] A = 0) (hlen : A.length ≤ 4096) {LB : List (List UInt8)} (hs : ∀ x ∈ A, SpN LB x) {n : Int} (hn : i64 n) : ∀ x ∈ moreT n A, SpN LB x := by
 intro y hy
 rcases List.mem_cons.1 hy with rfl | hy
 ·have z0 : i64 0 := ⟨by decide, by decide⟩
  exact ⟨⟨z0, by simp, z0, z0, by simp, by simp, by simp, by simp, by simp, by simp, by simp, by simp, okV_leaf z0 hn, by simp [sizeV, sizeL]⟩, by simp [sizeV, sizeL], by simp, by simp, by simp, by simp, by simp⟩
 ·obtain ⟨x, hx, rfl⟩ := List.mem_map.1 hy
  have h := hs x hx
  refine sp_kids (x := x) h (by rw [List.length_map]; exact h.klen) fun k hk => ?_
  obtain ⟨k0, hk0, rfl⟩ := List.mem_map.1 hk
  obtain ⟨i, hi⟩ := List.getElem?_of_mem hx
  have := kidsIn_of hv i x hi k0 hk0
  have hil := (List.getElem?_eq_some_iff.1 hi).1
  exact ⟨by omega, by omega⟩
theorem usable_of {B : List Nd} (hv : validF [] B = 0) (h0 : 0 < B.length) (hl : B.length ≤ 4096) : usableT B = true := by
 unfold usableT validT
 rw [if_neg (by omega), hv]
 simp [h0]
theorem pair_same {X Y : List Nd} (vX : validF [] X = 0) (vY : validF [] Y = 0) (x0 : 0 < X.length) (xl : X.length ≤ 4096) (y0 : 0 < Y.length) (yl : Y.length ≤ 4096) (h : Sim X Y (X.length - 1) (Y.length - 1)) :
  changedM X Y = 0 ∧ ∀ m ∈ diffM X Y, (∀ (o : Nat) (v : Int), m.opts[o]? = some v → v = o) ∧ ∀ (o : Nat) (b : Bool), m.same[o]? = some b → b = true :=
 ⟨changed_sim (nodesOK_of vX) h (usable_of vX x0 xl) (usable_of vY y0 yl), fun m hm => (diff_sim (nodesOK_of vX) h m hm).2⟩
theorem sim_pair {A X Y : List Nd} {a x y : Nat} (h1 : Sim A X a x) (h2 : Sim A Y a y) : Sim X Y x y := h1.symm.trans h2
end Go.Ax
namespace Go.Ax
open Go
def tauOK (σ : List (Nat × Nat)) (ns nx n' : Nat) : List (Nat × Nat) → Bool
 | [] => true
 | (i, id) :: r => (match Nat.blt i ns with
   | true => match lk σ id with
    | some j => Nat.beq j i
    | none => false
   | false => Nat.ble nx id && Nat.blt id n') && tauOK σ ns nx n' r
def keysOr (ids : List Nat) (nx : Nat) : Mem → Bool
 | [] => true
 | (k, _) :: r => (match Nat.ble nx k with
   | true => true
   | false => inL k ids) && keysOr ids nx r
theorem tauOK_sound {σ : List (Nat × Nat)} {ns nx n' : Nat} : ∀ {τ : List (Nat × Nat)}, tauOK σ ns nx n' τ = true → ∀ p ∈ τ, (p.1 < ns ∧ lk σ p.2 = some p.1) ∨ (ns ≤ p.1 ∧ nx ≤ p.2 ∧ p.2 < n')
 | [], _, p, hp => by cases hp
 | (i, id) :: r, h, p, hp => by
  simp only [tauOK, Bool.and_eq_true] at h
  rcases List.mem_cons.1 hp with rfl | hp
  ·have h1 := h.1
   split at h1
   ·rename_i hb
    split at h1
    ·rename_i j hj
     exact .inl ⟨Nat.le_of_ble_eq_true hb, by rw [hj, Nat.eq_of_beq_eq_true h1]⟩
    ·cases h1
   ·rename_i hb
    simp only [Bool.and_eq_true] at h1
    refine .inr ⟨?_, Nat.le_of_ble_eq_true h1.1, Nat.le_of_ble_eq_true h1.2⟩
    rcases Nat.lt_or_ge i ns with hl | hl
    ·have e : Nat.blt i ns = true := Nat.ble_eq_true_of_le hl
     rw [e] at hb; cases hb
    ·exact hl
  ·exact tauOK_sound h.2 p hp
theorem keysOr_sound : ∀ {m : Mem} {ids : List Nat} {nx : Nat}, keysOr ids nx m = true → ∀ p ∈ m, nx ≤ p.1 ∨ inL p.1 ids = true
 | [], ids, nx, _, p, hp => by cases hp
 | (k, b) :: r, ids, nx, h, p, hp => by
  simp only [keysOr, Bool.and_eq_true] at h
  rcases List.mem_cons.1 hp with rfl | hp
  ·have h1 := h.1
   split at h1
   ·rename_i hb; exact .inl (Nat.le_of_ble_eq_true hb)
   ·exact .inr h1
  ·exact keysOr_sound h.2 p hp
theorem ACalls.useN {P : Program} {Γ : List (Nat × AV)} {F : FuncId} {args args' : List AV} {ms mem m1 : Mem} {ns nx : Nat} {Qs K : AV → Mem → Nat → Prop} (hΓ : ∀ p ∈ Γ, NN p.2) (σ : List (Nat × Nat)) (h : ACalls P Γ F args' ms ns Qs)
  (hp : pickM (keysS σ) mem = m1) (hargs : CvL m1 σ args args') (hM : MemConv m1 σ ms) (hc : (nodM ms && (nod2 σ && valsLt ns σ)) = true)
  (hk : ∀ r m n, Qs r m n → ∃ τ r' m' n', Cv m τ r r' ∧ MemConv m τ m' ∧ (nodM m' && (nod2 τ && (Nat.ble nx n' && (keysOr (keysS σ) nx m' && tauOK σ ns nx n' τ)))) = true ∧ K r' (m' ++ dropM (keysS σ) mem) n') : ACalls P Γ F args mem nx K := by
 simp only [Bool.and_eq_true] at hc
 obtain ⟨hc1, hc2, hc4⟩ := hc
 refine ⟨fun X D ρ w vs hD hm hv => ?_⟩
 refine (ACalls.use (K := K) (nx := nx) hΓ h σ (m1 := m1) (rest := dropM (keysS σ) mem) ⟨fun p hp' => ?_, fun p hp' => (dropM_mem.1 hp').1, fun p hp' => ?_, fun p h1 q h2 => ?_, ?_⟩ ?_ hargs hM.cvm (nodM_sound hc1) (inj_of hc2) (fun id i hl => valsLt_sound hc4 _ (lk_mem hl)) ?_).run X D ρ w vs hD hm hv
 ·rw [← hp] at hp'; exact (pickM_mem.1 hp').1
 ·cases hi : inL p.1 (keysS σ) with
  | true => left; rw [← hp]; exact pickM_mem.2 ⟨hp', hi⟩
  | false => right; exact dropM_mem.2 ⟨hp', hi⟩
 ·rw [← hp] at h1
  have a := (pickM_mem.1 h1).2
  have b := (dropM_mem.1 h2).2
  intro e
  rw [e, b] at a
  cases a
 ·rw [← hp]; exact hm.nod.sublist ((pickM_sub mem).map _)
 ·exact hm.nod.sublist ((dropM_sub mem).map _)
 ·intro r m n hq hn
  obtain ⟨τ, r', m', n', h1, h2, h3, h4⟩ := hk r m n hq
  simp only [Bool.and_eq_true] at h3
  refine ⟨τ, r', m', n', Nat.le_of_ble_eq_true h3.2.2.1, h1, h2.cvm, nodM_sound h3.1, inj_of h3.2.1, fun i id hl => tauOK_sound h3.2.2.2.2 _ (lk_mem hl), fun p h5 q h6 => ?_, h4⟩
  have b := (dropM_mem.1 h6).2
  rcases keysOr_sound h3.2.2.2.1 p h5 with a | a
  ·have := hD _ (hm.low q (dropM_mem.1 h6).1)
   omega
  ·intro e
   rw [e, b] at a
   cases a
theorem ACalls.ph {P : Program} {Γ : List (Nat × AV)} {F : FuncId} {args : List AV} {mem : Mem} {nx : Nat} {K : AV → Mem → Nat → Prop} (t : TypeId) (sz : Nat) (h : ACalls P Γ F args ((nx, .row t sz []) :: mem) (nx + 1) K) : ACalls P Γ F args mem nx K := by
 refine ⟨fun X D ρ w vs hD hm hv => ?_⟩
 obtain ⟨m1, v1, e1⟩ := hm.phantom (n := nx) (D' := dn D nx (nx + 1)) (fun h' => Nat.lt_irrefl _ (hD _ h')) (fun i hi => .inl hi) (.inr ⟨Nat.le_refl _, Nat.lt_succ_self _⟩) t sz
 refine (h.run X _ _ w vs (fun i hi => ?_) m1 ⟨hv.1, fun j c x hc hx => v1 _ _ (hv.2 j c x hc hx)⟩).mono ?_
 ·rcases hi with hi | hi
  ·have := hD i hi; omega
  ·exact hi.2
 ·rintro e w' ⟨r, v, m, n, ρ', rfl, hk, hn, hm', hr, ext⟩
  have ed : dn (dn D nx (nx + 1)) (nx + 1) n = dn D nx n := by
   funext i
   apply propext
   constructor
   ·rintro ((hi | ⟨h1, h2⟩) | ⟨h1, h2⟩)
    ·exact .inl hi
    ·exact .inr ⟨h1, by omega⟩
    ·exact .inr ⟨by omega, h2⟩
   ·rintro (hi | ⟨h1, h2⟩)
    ·exact .inl (.inl hi)
    ·rcases Nat.lt_or_ge i (nx + 1) with h3 | h3
     ·exact .inl (.inr ⟨h1, h3⟩)
     ·exact .inr ⟨h3, h2⟩
  rw [ed] at hm' hr ext
  refine ⟨r, v, m, n, ρ', rfl, hk, by omega, hm', hr, ?_⟩
  have e2 := e1 D fun i hi => hi
  exact e2.trans ⟨fun i hi => ext.le i (.inl hi), fun i hi => ext.agree i (.inl hi), ext.size, ext.keep, ext.fresh, ext.env⟩
end Go.Ax
namespace Go.Ax
open Go
section
variable {P : Program} {Γ : List (Nat × AV)} {B : Nat}
theorem bcs_join {b : Bool} {c1 c2 : Code} {s1 s2 : St} {i : Nat} {y : Code} {Q : Exit → St → Prop} {α : Type} (hΓ : ∀ p ∈ Γ, NN p.2) (R : α → Prop) (J : α → St)
  (h1 : ∀ Qr : Exit → St → Prop, (∀ (a : α) (s : St) (σ : List (Nat × Nat)), R a → Conv B σ s (J a) → Qr .normal s) → bcs b (AWp P Γ B c1 s1 (blkQ i Qr)) (AWp P Γ B c2 s2 (blkQ i Qr)))
  (h2 : ∀ a, R a → AWp P Γ B y (J a) Q) : bcs b (AWp P Γ B c1 s1 (blkQ i (seqQ P Γ B y Q))) (AWp P Γ B c2 s2 (blkQ i (seqQ P Γ B y Q))) := by
 have h := h1 (fun e s => match e with
  | .normal => ∃ a σ, R a ∧ Conv B σ s (J a)
  | e => Q e s) (fun a s σ hr hc => ⟨a, σ, hr, hc⟩)
 have key : ∀ (e : Exit) (s : St), blkQ i (fun e s => match e with
  | .normal => ∃ a σ, R a ∧ Conv B σ s (J a)
  | e => Q e s) e s → blkQ i (seqQ P Γ B y Q) e s := by
  intro e s hq
  have norm : (∃ a σ, R a ∧ Conv B σ s (J a)) → AWp P Γ B y s Q := fun ⟨a, σ, hr, hc⟩ => AWp.conv hΓ hc (h2 a hr)
  cases e with
  | normal => exact norm hq
  | exit j =>
   simp only [blkQ] at hq ⊢
   split at hq
   ·exact norm hq
   ·exact hq
  | goto l => exact hq
  | ret => exact hq
  | panic c => exact hq
  | outgrown => exact hq
 cases b with
 | true => exact AWp.mono (show AWp P Γ B c1 s1 _ from h) key
 | false => exact AWp.mono (show AWp P Γ B c2 s2 _ from h) key
end
end Go.Ax
