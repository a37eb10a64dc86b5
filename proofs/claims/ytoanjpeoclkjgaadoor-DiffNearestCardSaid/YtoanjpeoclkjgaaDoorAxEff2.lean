/- New variables, literals, make, stores. -/
import Derived.Test.YtoanjpeoclkjgaaDoorAxEff
namespace Go.Ax
open Go
set_option linter.unusedVariables false

def chunk (sz : Nat) (sh : Option Nat) : Nat → List AV → Option (List AV)
  | 0, _ => some []
  | m + 1, cs => match sub sh cs 0 with
    | some x => match chunk sz sh m (cs.drop sz) with
      | some l => some (x :: l)
      | none => none
    | none => none

/-- The elements as which a value lies in a variable of its type. -/
def asRow (P : Program) (t : TypeId) (v : AV) : Option (Nat × List AV) :=
  match P.underlying t with
  | some (.array m e) => match v with
    | .agg cs => match tsize P e, shp P e with
      | some sz, some sh => match Nat.beq (sh.getD 1) sz && (Nat.blt 0 sz && Nat.beq cs.length (m * sz)) with
        | true => match chunk sz sh m cs with
          | some xs => some (sz, xs)
          | none => none
        | false => none
      | _, _ => none
    | _ => none
  | some _ => match okVal v with
    | true => match v.cells with
      | [] => none
      | _ :: _ => some (v.cells.length, [v])
    | false => none
  | none => none

section
variable {P : Program} {Γ : List (Nat × AV)} {X : Nat → Prop} {ρ : Nat → Loc} {D : Nat → Prop} {O : Nat → Prop} {mem : Mem} {w w' : World}

theorem chunk_sound {sz : Nat} {sh : Option Nat} (hsh : sh.getD 1 = sz) : ∀ {m : Nat} {cs : List AV} {xs : List AV}, chunk sz sh m cs = some xs →
    xs.length = m ∧ ∀ (i : Nat) (x : AV), xs[i]? = some x → x.cells.length = sz ∧ ∀ (j : Nat) (c : AV), x.cells[j]? = some c → cs[i * sz + j]? = some c
  | 0, cs, xs, h => by simp only [chunk] at h; cases h; simp
  | m + 1, cs, xs, h => by
    simp only [chunk] at h
    split at h
    · rename_i x hx
      split at h
      · rename_i l hl
        cases h
        obtain ⟨h1, h2⟩ := chunk_sound hsh hl
        refine ⟨by simp [h1], fun i y hi => ?_⟩
        cases i with
        | zero =>
          simp at hi
          subst hi
          refine ⟨by rw [sub_len hx]; exact hsh, fun j c hj => ?_⟩
          have := sub_cells hx j c hj
          simpa using this
        | succ i =>
          simp at hi
          obtain ⟨h3, h4⟩ := h2 i y hi
          refine ⟨h3, fun j c hj => ?_⟩
          have := h4 j c hj
          rw [List.getElem?_drop] at this
          rw [Nat.add_mul, Nat.one_mul]
          rw [← this]
          congr 1
          omega
      · cases h
    · cases h

theorem asRow_sound {t : TypeId} {v : AV} {x : Value} {sz : Nat} {xs : List AV} (h : asRow P t v = some (sz, xs)) (hx : VR ρ D O w v x) :
    RowR ρ D O w sz x.cells xs ∧ (x.cells.size = 0 → xs = []) := by
  unfold asRow at h
  split at h
  · rename_i m e hu
    split at h
    · rename_i cs
      split at h
      · rename_i sz' sh hsz hsh
        split at h
        · rename_i hb
          simp only [Bool.and_eq_true] at hb
          have b1 := Nat.eq_of_beq_eq_true hb.1
          have b2 := Nat.le_of_ble_eq_true hb.2.1
          have b3 := Nat.eq_of_beq_eq_true hb.2.2
          split at h
          · rename_i xs' hxs
            cases h
            obtain ⟨vs, rfl, hvs⟩ := hx.agg_inv
            obtain ⟨h1, h2⟩ := chunk_sound b1 hxs
            have hs : vs.length = m * sz := by rw [← hvs.1.1]; exact b3
            refine ⟨⟨by simp [Value.cells, h1, hs], fun i y hi => ⟨(h2 i y hi).1, fun j c hj => ?_⟩⟩, fun h0 => ?_⟩
            · obtain ⟨v, hv, ho, hr⟩ := hvs.get ((h2 i y hi).2 j c hj)
              exact ⟨v, by simpa [Value.cells] using hv, ho, hr⟩
            · simp [Value.cells] at h0
              subst h0
              simp at hs
              have : m = 0 := by
                rcases Nat.eq_zero_or_pos m with h' | h'
                · exact h'
                · have := Nat.mul_pos h' b2; omega
              subst this
              exact List.eq_nil_of_length_eq_zero h1
          · cases h
        · cases h
      · cases h
    · cases h
  · split at h
    · rename_i hj
      have hc := hx.cells_of hj
      split at h
      · cases h
      · rename_i c0 cr hcs
        cases h
        have hsz : x.cells.size = v.cells.length := by have := hc.1.1; simp at this; omega
        refine ⟨⟨by simp [hsz], fun i y hi => ?_⟩, fun h0 => ?_⟩
        · cases i with
          | zero =>
            simp at hi
            subst hi
            refine ⟨rfl, fun j c hjc => ?_⟩
            obtain ⟨u, hu, ho, hr⟩ := hc.get hjc
            exact ⟨u, by simpa using hu, ho, hr⟩
          | succ i => simp at hi
        · rw [hsz, hcs] at h0; simp at h0
    · cases h
  · cases h

/-- 'alloc': a new variable of a type's zero value. -/
def aAlloc (P : Program) (mem : Mem) (nx : Nat) (t : TypeId) : Option (AV × Mem × Nat) :=
  match P.info? t with
  | some i => match i.zero with
    | some z => match ofVal z with
      | some v => match asRow P t v with
        | some (sz, xs) => some (.ptr nx 0 0, (nx, .row t sz xs) :: mem, nx + 1)
        | none => none
      | none => none
    | none => none
  | none => none

def aBox (P : Program) (mem : Mem) (nx : Nat) (t : TypeId) (v : AV) : Option (AV × Mem × Nat) :=
  match asRow P t v with
  | some (sz, xs) => some (.ptr nx 0 0, (nx, .row t sz xs) :: mem, nx + 1)
  | none => none

/-- What an operation that may make or change memory comes to. -/
structure Done (P : Program) (Γ : List (Nat × AV)) (X : Nat → Prop) (ρ : Nat → Loc) (D : Nat → Prop) (mem : Mem) (w : World) (r : Result Value) (v : AV) (mem' : Mem) (D' : Nat → Prop) : Prop where
  ex : ∃ (x : Value) (w' : World) (ρ' : Nat → Loc), r = .ok x w' ∧ MR Γ X ρ' D' mem' w' ∧ VR ρ' D' (OX X ρ' mem') w' v x ∧
    (∀ u y, VR ρ D (OX X ρ mem) w u y → VR ρ' D' (OX X ρ' mem') w' u y) ∧ ∀ A : Nat → Prop, (∀ i, A i → D i) → Ext A ρ mem w ρ' D' mem' w'

theorem fr00 {n : Nat} : ∀ j, j < n → ¬ ((0, 0).1 ≤ j ∧ j < ((0, 0) : Nat × Nat).2) := fun j _ h => by simp at h

theorem Done.alloc {n : Nat} {D' : Nat → Prop} (hn0 : ¬ D n) (hD : ∀ i, D i → D' i) (hDn : D' n) (hm : MR Γ X ρ D mem w) {t : TypeId} {xs : List AV} {arr : Array Value} {sz : Nat} {r : Result Value} {v : AV} (f : Nat → Value)
    (hr : r = .ok (f w.heap.size) w') (hw : w'.heap = w.heap.push (.cells arr t (0, 0))) (hos : w'.os = w.os ∧ w'.output = w.output)
    (hrow : RowR ρ D (OX X ρ mem) w sz arr xs) (hsz : arr.size = 0 → xs = [])
    (hv : ∀ (ρ' : Nat → Loc) (O' : Nat → Prop), ρ' n = ⟨w.heap.size, arr.size, sz⟩ → VR ρ' D' O' w' v (f w.heap.size)) :
    Done P Γ X ρ D mem w r v ((n, .row t sz xs) :: mem) D' := by
  obtain ⟨h1, h2, h3⟩ := hm.alloc hn0 hD hDn hw hos fr00 hrow hsz
  exact ⟨_, w', _, hr, h1, hv _ _ (setL_same _ _ _), h2, h3⟩

theorem aBox_sound {n : Nat} {D' : Nat → Prop} (hn0 : ¬ D n) (hD : ∀ i, D i → D' i) (hDn : D' n) (hm : MR Γ X ρ D mem w) {t : TypeId} {a v : AV} {x : Value} {mem' : Mem} {N' : Nat} (h : aBox P mem n t a = some (v, mem', N')) (hx : VR ρ D (OX X ρ mem) w a x) :
    Done P Γ X ρ D mem w ((Instr.box t x).run P w) v mem' D' := by
  unfold aBox at h
  split at h
  · rename_i sz xs hrow
    cases h
    obtain ⟨h1, h2⟩ := asRow_sound hrow hx
    refine Done.alloc hn0 hD hDn hm (fun b => .pointer (some ⟨b, 0, none⟩)) (w' := w.alloc (.cells x.cells t)) (by simp [Instr.box, newVar, newRow]) rfl ⟨rfl, rfl⟩ h1 h2 (fun ρ' O' e => ?_)
    have := VR.ptr (ρ := ρ') (D := D') (O := O') (w := w.alloc (.cells x.cells t)) n 0 0 hDn
    rw [e] at this
    simpa using this
  · cases h

theorem aAlloc_sound {n : Nat} {D' : Nat → Prop} (hn0 : ¬ D n) (hD : ∀ i, D i → D' i) (hDn : D' n) (hm : MR Γ X ρ D mem w) {t : TypeId} {v : AV} {mem' : Mem} {N' : Nat} (h : aAlloc P mem n t = some (v, mem', N')) :
    Done P Γ X ρ D mem w ((Instr.alloc t true (.tuple #[])).run P w) v mem' D' := by
  unfold aAlloc at h
  split at h
  · rename_i i hi
    split at h
    · rename_i z hz
      split at h
      · rename_i zv hzv
        split at h
        · rename_i sz xs hrow
          cases h
          obtain ⟨h1, h2⟩ := asRow_sound hrow (ofVal_sound (ρ := ρ) (D := D) (O := OX X ρ mem) (w := w) hzv)
          refine Done.alloc hn0 hD hDn hm (fun b => .pointer (some ⟨b, 0, none⟩)) (w' := w.alloc (.cells z.cells t)) (by simp [Instr.alloc, zeroValue, typeInfo, hi, hz, newVar, newRow]) rfl ⟨rfl, rfl⟩ h1 h2 (fun ρ' O' e => ?_)
          have := VR.ptr (ρ := ρ') (D := D') (O := O') (w := w.alloc (.cells z.cells t)) n 0 0 hDn
          rw [e] at this
          simpa using this
        · cases h
      · cases h
    · cases h
  · cases h

/-! Literals of slices -/

def aElems (sz : Nat) : List AV → List (Nat × AV) → Option (List AV)
  | xs, [] => some xs
  | xs, (i, v) :: r => match okVal v && (Nat.beq v.cells.length sz && Nat.blt i xs.length) with
    | true => aElems sz (xs.set i v) r
    | false => none

def zeroAV (P : Program) (e : TypeId) : Option AV :=
  match P.info? e with
  | some i => match i.zero with
    | some z => ofVal z
    | none => none
  | none => none

def aBuildSlice (P : Program) (mem : Mem) (nx : Nat) (t : TypeId) (len : Nat) (parts : List (Nat × AV)) : Option (AV × Mem × Nat) :=
  match P.underlying t with
  | some (.slice e) => match tsize P e, zeroAV P e with
    | some sz, some z => match okVal z && (Nat.beq z.cells.length sz && (Nat.blt 0 sz && Nat.ble (len * sz) 16777216)) with
      | true => match aElems sz (List.replicate len z) parts with
        | some xs => some (.sl nx 0 len, (nx, .row e sz xs) :: mem, nx + 1)
        | none => none
      | false => none
    | _, _ => none
  | _ => none

theorem foldl_set_len (off : Nat) : ∀ (l : List (Value × Nat)) (L : List Value), (l.foldl (fun cs p => cs.set (off + p.2) p.1) L).length = L.length
  | [], L => rfl
  | p :: l, L => by simp only [List.foldl_cons]; rw [foldl_set_len off l]; simp

theorem foldl_set_get (off : Nat) : ∀ (vs : List Value) (k : Nat) (L : List Value) (p : Nat), off + k + vs.length ≤ L.length →
    ((vs.zipIdx k).foldl (fun cs q => cs.set (off + q.2) q.1) L)[p]? = if off + k ≤ p ∧ p < off + k + vs.length then vs[p - (off + k)]? else L[p]?
  | [], k, L, p, h => by
    have : ¬ (off + k ≤ p ∧ p < off + k + ([] : List Value).length) := by simp only [List.length_nil]; omega
    rw [if_neg this]
    simp
  | v :: vs, k, L, p, h => by
    simp only [List.length_cons] at h
    simp only [List.zipIdx_cons, List.foldl_cons]
    rw [foldl_set_get off vs (k + 1) (L.set (off + k) v) p (by simp; omega)]
    by_cases hp : p = off + k
    · subst hp
      rw [if_neg (by omega), if_pos (by simp)]
      rw [List.getElem?_set]
      rw [if_pos rfl, if_pos (by omega)]
      simp
    · by_cases h1 : off + (k + 1) ≤ p ∧ p < off + (k + 1) + vs.length
      · rw [if_pos h1, if_pos (by simp; omega)]
        have : p - (off + k) = (p - (off + (k + 1))) + 1 := by omega
        rw [this]
        simp
      · rw [if_neg h1, if_neg (by simp only [List.length_cons]; omega)]
        rw [List.getElem?_set]
        rw [if_neg (fun e => hp e.symm)]

theorem aElems_sound {sz : Nat} : ∀ {parts : List (Nat × AV)} {ps : List (Nat × Value)} {xs ys : List AV} {A : Array Value},
    aElems sz xs parts = some ys → parts.length = ps.length →
    (∀ (j : Nat) (p : Nat × AV) (q : Nat × Value), parts[j]? = some p → ps[j]? = some q → p.1 = q.1 ∧ VR ρ D O w p.2 q.2) →
    RowR ρ D O w sz A xs → A.size = xs.length * sz → ∃ B : Array Value, Instr.fill (fun i => some (i * sz, sz)) A ps = some B ∧ RowR ρ D O w sz B ys ∧ B.size = xs.length * sz ∧ ys.length = xs.length
  | [], ps, xs, ys, A, h, hl, hp, hA, hs => by
    have : ps = [] := by simp at hl; exact List.eq_nil_of_length_eq_zero hl.symm
    subst this
    simp only [aElems] at h
    cases h
    exact ⟨A, rfl, hA, hs, rfl⟩
  | (i, v) :: r, ps, xs, ys, A, h, hl, hp, hA, hs => by
    cases ps with
    | nil => simp at hl
    | cons q ps =>
      obtain ⟨i', x⟩ := q
      obtain ⟨e, hv⟩ := hp 0 _ _ rfl rfl
      simp only at e hv
      subst e
      simp only [aElems] at h
      split at h
      · rename_i hb
        simp only [Bool.and_eq_true] at hb
        have h1 := Nat.eq_of_beq_eq_true hb.2.1
        have h2 : i < xs.length := Nat.le_of_ble_eq_true hb.2.2
        have hc := hv.cells_of hb.1
        have e1 : x.cells.toList.length = sz := by rw [← hc.1.1]; exact h1
        have e1' : x.cells.size = sz := by simpa using e1
        have hle : (i + 1) * sz ≤ xs.length * sz := Nat.mul_le_mul_right _ h2
        rw [Nat.add_mul, Nat.one_mul] at hle
        have hget := fun p => foldl_set_get (i * sz) x.cells.toList 0 A.toList p (by simp [e1', hs]; omega)
        have hA' : RowR ρ D O w sz (Array.foldl (fun cs p => cs.setIfInBounds (i * sz + p.2) p.1) A x.cells.zipIdx) (xs.set i v) := by
          have hlen : (Array.foldl (fun cs p => cs.setIfInBounds (i * sz + p.2) p.1) A x.cells.zipIdx).toList = (x.cells.toList.zipIdx 0).foldl (fun cs q => cs.set (i * sz + q.2) q.1) A.toList := by
            rw [← Array.foldl_toList, foldl_set_toList, Array.toList_zipIdx]
          have hsz' : (Array.foldl (fun cs p => cs.setIfInBounds (i * sz + p.2) p.1) A x.cells.zipIdx).size = A.size := by
            rw [← Array.length_toList, hlen, foldl_set_len]; simp
          refine ⟨by rw [hsz', List.length_set]; exact hA.1, fun k y hk => ?_⟩
          have hg : ∀ p, (Array.foldl (fun cs p => cs.setIfInBounds (i * sz + p.2) p.1) A x.cells.zipIdx)[p]? = if i * sz + 0 ≤ p ∧ p < i * sz + 0 + x.cells.toList.length then x.cells.toList[p - (i * sz + 0)]? else A.toList[p]? := by
            intro p
            rw [← hget p, ← hlen]
            simp
          rw [List.getElem?_set] at hk
          by_cases hik : i = k
          · subst hik
            rw [if_pos rfl, if_pos h2] at hk
            cases hk
            refine ⟨h1, fun j c hj => ?_⟩
            have hjl : j < sz := by
              rw [← h1]
              rcases Nat.lt_or_ge j v.cells.length with h' | h'
              · exact h'
              · rw [List.getElem?_eq_none h'] at hj; cases hj
            obtain ⟨u, hu, ho, hr⟩ := hc.get hj
            refine ⟨u, ?_, ho, hr⟩
            rw [hg, if_pos (by omega)]
            rw [show i * sz + j - (i * sz + 0) = j by omega]
            exact hu
          · rw [if_neg hik] at hk
            obtain ⟨h3, h4⟩ := hA.2 k y hk
            refine ⟨h3, fun j c hj => ?_⟩
            obtain ⟨u, hu, ho, hr⟩ := h4 j c hj
            have hjl : j < sz := by
              rw [← h3]
              rcases Nat.lt_or_ge j y.cells.length with h' | h'
              · exact h'
              · rw [List.getElem?_eq_none h'] at hj; cases hj
            refine ⟨u, ?_, ho, hr⟩
            rw [hg, if_neg, Array.getElem?_toList]
            · exact hu
            · rintro ⟨h5, h6⟩
              rcases Nat.lt_or_gt_of_ne hik with h7 | h7
              · have : (i + 1) * sz ≤ k * sz := Nat.mul_le_mul_right _ h7
                rw [Nat.add_mul, Nat.one_mul] at this
                omega
              · have : (k + 1) * sz ≤ i * sz := Nat.mul_le_mul_right _ h7
                rw [Nat.add_mul, Nat.one_mul] at this
                omega
        have hsz2 : (Array.foldl (fun cs p => cs.setIfInBounds (i * sz + p.2) p.1) A x.cells.zipIdx).size = (xs.set i v).length * sz := by
          rw [List.length_set, ← hs, ← Array.length_toList, ← Array.foldl_toList, foldl_set_toList, foldl_set_len]; simp
        obtain ⟨B, hB, hr, hBs, hys⟩ := aElems_sound (A := Array.foldl (fun cs p => cs.setIfInBounds (i * sz + p.2) p.1) A x.cells.zipIdx) h (by simpa using hl)
          (fun j p q h1 h2 => hp (j + 1) p q (by simpa using h1) (by simpa using h2)) hA' hsz2
        refine ⟨B, ?_, hr, by simpa using hBs, by simpa using hys⟩
        rw [Instr.fill]
        simp only []
        rw [if_neg (by simp [e1', hs]; omega)]
        exact hB
      · cases h

theorem getElem!_lt {z : Array Value} {i : Nat} (h : i < z.size) : z[i]! = z[i] := by simp [h]

theorem made_row {sz : Nat} {z : AV} {zx : Value} (hz : VR ρ D O w z zx) (hj : okVal z = true) (hl : z.cells.length = sz) (hp : 0 < sz) (len n : Nat) (hn : len * sz ≤ n) :
    RowR ρ D O w sz ((Array.range n).map fun k => zx.cells[k % zx.cells.size]!) (List.replicate len z) := by
  have hc := hz.cells_of hj
  have hs : zx.cells.size = sz := by have := hc.1.1; simp at this; omega
  refine ⟨by simp; exact hn, fun i x hi => ?_⟩
  rw [List.getElem?_replicate] at hi
  split at hi
  · rename_i hlt
    cases hi
    refine ⟨hl, fun j c hjc => ?_⟩
    have hjl : j < sz := by
      rw [← hl]
      rcases Nat.lt_or_ge j z.cells.length with h' | h'
      · exact h'
      · rw [List.getElem?_eq_none h'] at hjc; cases hjc
    obtain ⟨u, hu, ho, hr⟩ := hc.get hjc
    refine ⟨u, ?_, ho, hr⟩
    have hlt2 : i * sz + j < n := by
      have : (i + 1) * sz ≤ len * sz := Nat.mul_le_mul_right _ hlt
      rw [Nat.add_mul, Nat.one_mul] at this
      omega
    have hmod : (i * sz + j) % sz = j := by rw [Nat.mul_comm, Nat.mul_add_mod]; exact Nat.mod_eq_of_lt hjl
    have hu' : zx.cells[j]? = some u := by simpa using hu
    rw [Array.getElem?_map]
    simp only [Array.getElem?_range, hlt2, if_true, Option.map_some, hs, hmod]
    rw [getElem!_lt (by omega)]
    rw [Array.getElem?_eq_getElem (by omega)] at hu'
    exact hu'
  · cases hi

theorem aBuildSlice_sound {n : Nat} {D' : Nat → Prop} (hn0 : ¬ D n) (hD : ∀ i, D i → D' i) (hDn : D' n) (hm : MR Γ X ρ D mem w) {t : TypeId} {len : Nat} {parts : List (Nat × AV)} {ps : List (Nat × Value)} {v : AV} {mem' : Mem} {N' : Nat}
    (h : aBuildSlice P mem n t len parts = some (v, mem', N')) (hl : parts.length = ps.length)
    (hp : ∀ (j : Nat) (p : Nat × AV) (q : Nat × Value), parts[j]? = some p → ps[j]? = some q → p.1 = q.1 ∧ VR ρ D (OX X ρ mem) w p.2 q.2) :
    Done P Γ X ρ D mem w ((Instr.buildSlice t len ps.toArray).run P w) v mem' D' := by
  unfold aBuildSlice at h
  split at h
  · rename_i e hu
    split at h
    · rename_i sz z hsz hz
      split at h
      · rename_i hb
        simp only [Bool.and_eq_true] at hb
        have b1 := Nat.eq_of_beq_eq_true hb.2.1
        have b2 : 0 < sz := Nat.le_of_ble_eq_true hb.2.2.1
        have b3 := Nat.le_of_ble_eq_true hb.2.2.2
        split at h
        · rename_i xs hxs
          cases h
          unfold zeroAV at hz
          split at hz
          · rename_i i hi
            split at hz
            · rename_i zx hzx
              have hzr := ofVal_sound (ρ := ρ) (D := D) (O := OX X ρ mem) (w := w) hz
              have hmade := made_row hzr hb.1 b1 b2 len (len * sz) (Nat.le_refl _)
              obtain ⟨B, hB, hr, hBs, hys⟩ := aElems_sound hxs hl hp hmade (by simp)
              simp only [List.length_replicate] at hBs hys
              have hrun := run_tsize (w := w) hsz
              have hbig : ¬ (len * sz > 16777216) := by omega
              refine Done.alloc hn0 hD hDn hm (fun b => .slice (some ⟨b, 0, none⟩) len len) (w' := w.alloc (.cells B e)) ?_ rfl ⟨rfl, rfl⟩ hr (fun h0 => ?_) (fun ρ' O' eq => ?_)
              · by_cases h0 : len * sz = 0
                · have hB' : Instr.fill (fun i => some (i * sz, sz)) #[] ps = some B := by
                    rw [← hB]
                    congr 1
                    rw [h0]
                    simp [Array.range_zero']
                  simp only [Instr.buildSlice, Sem.run_bind, run_underlying hu, Result.andThen_ok, hrun]
                  simp [h0, Array.range_zero', hB', newRow]
                · simp only [Instr.buildSlice, Sem.run_bind, run_underlying hu, Result.andThen_ok, hrun]
                  simp [hbig, h0, zeroValue, typeInfo, hi, hzx, hB, newRow]
              · rw [hBs] at h0
                have : len = 0 := by
                  rcases Nat.eq_zero_or_pos len with h' | h'
                  · exact h'
                  · have := Nat.mul_pos h' b2; omega
                exact List.eq_nil_of_length_eq_zero (by omega)
              · have := VR.sl (ρ := ρ') (D := D') (O := O') (w := w.alloc (.cells B e)) n 0 len len hDn (Nat.le_refl _) (by rw [eq]; simp [hBs])
                rw [eq] at this
                simpa using this
            · cases hz
          · cases hz
        · cases h
      · cases h
    · cases h
  · cases h
end
end Go.Ax
