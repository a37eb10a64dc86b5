/- Stores, make, append, the bytes of a string. -/
import Derived.Test.YtoanjpeoclkjgaaDoorAxEff2
namespace Go.Ax
open Go
set_option linter.unusedVariables false

theorem setRow_heap' (w : World) (g : Nat) (cur arr : Array Value) (t : TypeId) (fr : Nat × Nat) (h : w.heap[g]? = some (.cells cur t fr)) :
    (w.setRow g arr).heap = w.heap.setIfInBounds g (.cells arr t fr) := by
  apply Array.ext_getElem?
  intro i
  simp only [World.setRow, Array.getElem?_modify, Array.getElem?_setIfInBounds]
  by_cases hi : g = i
  · subst hi
    have hlt : g < w.heap.size := by
      rcases Nat.lt_or_ge g w.heap.size with h' | h'
      · exact h'
      · rw [Array.getElem?_eq_none h'] at h; cases h
    rw [Array.getElem?_eq_getElem hlt] at h
    simp only [Option.some.injEq] at h
    simp [h, hlt]
  · simp [hi]

theorem run_storeCells_gen (P : Program) (g o : Nat) (t : TypeId) (fr : Nat × Nat) : ∀ (vs : List Value) (i : Nat) (cur : Array Value) (w : World), w.heap[g]? = some (.cells cur t fr) →
    (∀ j, j < cur.size → ¬ (fr.1 ≤ j ∧ j < fr.2)) → o + i + vs.length ≤ cur.size → (∀ v ∈ vs, v.oneCell' = true) →
    (storeCells ⟨g, o, none⟩ vs i).run P w = .ok () (w.setRow g (cur.toList.take (o + i) ++ vs ++ cur.toList.drop (o + i + vs.length)).toArray)
  | [], i, cur, w, hg, _, _, _ => by
    simp only [storeCells, List.append_nil, List.length_nil, Nat.add_zero, List.take_append_drop, Array.toArray_toList]
    rw [setRow_self w g cur t fr hg]
    rfl
  | v :: rest, i, cur, w, hg, hf, hl, h1 => by
    have hi : o + i < cur.size := by simp at hl; omega
    have hadd : (⟨g, o, none⟩ : Addr).add i = ⟨g, o + i, none⟩ := by unfold Addr.add; split <;> simp_all
    have hcell : w.cell? ⟨g, o + i, none⟩ = some cur[o + i] := by simp [World.cell?, hg, hi]
    have hfro : w.frozen? ⟨g, o + i, none⟩ = false := by
      have := hf _ hi
      simp only [World.frozen?, hg]
      rw [Bool.and_eq_false_iff]
      by_cases h : fr.1 ≤ o + i
      · right; simp; omega
      · left; simpa using h
    have hst : (store ((⟨g, o, none⟩ : Addr).add i) v).run P w = .ok () (w.setRow g (cur.setIfInBounds (o + i) v)) := by
      rw [hadd, run_store P w _ v _ (h1 v (by simp)), hcell]
      simp [hfro, setCell_eq_setRow w g (o + i) cur t fr v hg]
    have ih := run_storeCells_gen P g o t fr rest (i + 1) (cur.setIfInBounds (o + i) v) (w.setRow g (cur.setIfInBounds (o + i) v)) (setRow_heap w g cur _ t _ hg) (by simpa using hf) (by simp at hl ⊢; omega) (fun x hx => h1 x (by simp [hx]))
    simp only [storeCells, Sem.run_bind, hst, Result.andThen_ok, ih, setRow_setRow]
    congr 3
    have e := list_seg_step cur.toList (o + i) v rest (by simp at hl ⊢; omega)
    simpa [Array.toList_setIfInBounds, Nat.add_assoc] using e

def setCells (x : AV) (j : Nat) (cs : List AV) : Option AV :=
  match x with
  | .agg xs => some (.agg (xs.take j ++ cs ++ xs.drop (j + cs.length)))
  | _ => match cs with
    | [c] => one c
    | _ => none

def aStore (P : Program) (mem : Mem) (t : TypeId) (p v : AV) : Option Mem :=
  match p with
  | .ptr id i j => match lk mem id with
    | some (.row t' sz' xs) => match xs[i]? with
      | some x => match tsize P t with
        | some n => match okVal v && (Nat.beq v.cells.length n && Nat.ble (j + n) x.cells.length) with
          | true => match setCells x j v.cells with
            | some x' => some (up mem id (.row t' sz' (xs.set i x')))
            | none => none
          | false => none
        | none => none
      | none => none
    | _ => none
  | _ => none

section
variable {P : Program} {Γ : List (Nat × AV)} {X : Nat → Prop} {ρ : Nat → Loc} {D : Nat → Prop} {O : Nat → Prop} {mem : Mem} {w w' : World}

theorem setCells_sound {x x' : AV} {j : Nat} {cs : List AV} (h : setCells x j cs = some x') (hl : j + cs.length ≤ x.cells.length) :
    x'.cells.length = x.cells.length ∧ ∀ (k : Nat) (c : AV), x'.cells[k]? = some c → (j ≤ k ∧ k < j + cs.length ∧ cs[k - j]? = some c) ∨ (¬ (j ≤ k ∧ k < j + cs.length) ∧ x.cells[k]? = some c) := by
  unfold setCells at h
  split at h
  · rename_i xs
    cases h
    simp only [AV.cells] at hl ⊢
    refine ⟨by simp; omega, fun k c hk => ?_⟩
    rw [List.append_assoc, List.getElem?_append] at hk
    have e1 : (xs.take j).length = j := by simp; omega
    rw [e1] at hk
    by_cases h1 : k < j
    · rw [if_pos h1, List.getElem?_take, if_pos h1] at hk
      exact .inr ⟨by omega, hk⟩
    · rw [if_neg h1, List.getElem?_append] at hk
      by_cases h2 : k - j < cs.length
      · rw [if_pos h2] at hk
        exact .inl ⟨by omega, by omega, hk⟩
      · rw [if_neg h2, List.getElem?_drop] at hk
        refine .inr ⟨by omega, ?_⟩
        rw [← hk]
        congr 1
        omega
  · rename_i hagg
    split at h
    · rename_i c
      obtain ⟨rfl, hoc⟩ := one_eq h
      have hxc : x.cells = [x] := by
        cases x <;> first | rfl | exact (hagg _ rfl).elim
      rw [hxc] at hl ⊢
      simp at hl
      subst hl
      rw [hoc]
      refine ⟨rfl, fun k c hk => .inl ?_⟩
      cases k with
      | zero => simp at hk; subst hk; simp
      | succ k => simp at hk
    · cases h

theorem aStore_sound (hm : MR Γ X ρ D mem w) {t : TypeId} {p v : AV} {x y : Value} {mem' : Mem} (h : aStore P mem t p v = some mem')
    (hx : VR ρ D (OX X ρ mem) w p x) (hy : VR ρ D (OX X ρ mem) w v y) :
    ∃ w', (Instr.storeAt t x y).run P w = .ok () w' ∧ MR Γ X ρ D mem' w' ∧ (∀ u z, VR ρ D (OX X ρ mem) w u z → VR ρ D (OX X ρ mem') w' u z) ∧ ∀ A : Nat → Prop, (∀ i, A i → D i) → Ext A ρ mem w ρ D mem' w' := by
  unfold aStore at h
  split at h
  · rename_i id i j
    split at h
    · rename_i t' sz' xs hid
      split at h
      · rename_i e he
        split at h
        · rename_i n hn
          split at h
          · rename_i hb
            simp only [Bool.and_eq_true] at hb
            have b1 := Nat.eq_of_beq_eq_true hb.2.1
            have b3 := Nat.le_of_ble_eq_true hb.2.2
            split at h
            · rename_i e' he'
              cases h
              cases hx
              obtain ⟨s1, s2⟩ := setCells_sound he' (by omega)
              have hn0 : 0 < (ρ id).n := by
                rcases Nat.eq_zero_or_pos (ρ id).n with h' | h'
                · obtain ⟨t2, sz2, e2, _⟩ := hm.emp _ (lk_mem hid) h'
                  cases e2
                  simp at he
                · exact h'
              obtain ⟨o, ho, q0, arr, fr, rfl, hfr, q1, q2, q3⟩ := hm.blk _ (lk_mem hid) hn0
              have hc := hy.cells_of hb.1
              simp only at ho q0 q1 q2 q3
              have hsz : (ρ id).sz = e.cells.length := ((q3 i e he).1).symm
              have hlt : i < xs.length := by
                rcases Nat.lt_or_ge i xs.length with h' | h'
                · exact h'
                · rw [List.getElem?_eq_none h'] at he; cases he
              have hle : (i + 1) * (ρ id).sz ≤ xs.length * (ρ id).sz := Nat.mul_le_mul_right _ hlt
              rw [Nat.add_mul, Nat.one_mul] at hle
              have hyl : y.cells.toList.length = n := by rw [← hc.1.1]; exact b1
              have hys : y.cells.size = n := by simpa using hyl
              have hfit : i * (ρ id).sz + j + 0 + y.cells.toList.length ≤ arr.size := by omega
              have hrun := run_storeCells_gen P (ρ id).b (i * (ρ id).sz + j) t' fr y.cells.toList 0 arr w ho hfr hfit hc.2
              simp only [Nat.add_zero] at hrun hfit
              refine ⟨w.setRow (ρ id).b (List.take (i * (ρ id).sz + j) arr.toList ++ y.cells.toList ++ List.drop (i * (ρ id).sz + j + y.cells.toList.length) arr.toList).toArray, ?_,
                hm.change hid hn0 (xs' := xs.set i e') (setRow_heap' w _ arr _ t' fr ho) ⟨rfl, rfl⟩ ?_ ?_ ?_⟩
              · have hsz2 := run_tsize (w := w) hn
                simp [Instr.storeAt, Instr.sureAddr, storeVar, hsz2, hys, hrun]
              · intro k hk
                refine hfr k ?_
                simp at hk
                omega
              · simp; omega
              · rw [← q0]
                refine ⟨by simp; omega, fun k z hk => ?_⟩
                have harr : ∀ q, (List.take (i * (ρ id).sz + j) arr.toList ++ y.cells.toList ++ List.drop (i * (ρ id).sz + j + y.cells.toList.length) arr.toList).toArray[q]? =
                    if i * (ρ id).sz + j ≤ q ∧ q < i * (ρ id).sz + j + n then y.cells.toList[q - (i * (ρ id).sz + j)]? else arr[q]? := by
                  intro q
                  rw [List.getElem?_toArray, List.append_assoc, List.getElem?_append]
                  have e1 : (List.take (i * (ρ id).sz + j) arr.toList).length = i * (ρ id).sz + j := by simp; omega
                  rw [e1]
                  by_cases h1 : q < i * (ρ id).sz + j
                  · rw [if_pos h1, if_neg (by omega), List.getElem?_take, if_pos h1, Array.getElem?_toList]
                  · rw [if_neg h1, List.getElem?_append, hyl]
                    by_cases h2 : q - (i * (ρ id).sz + j) < n
                    · rw [if_pos h2, if_pos (by omega)]
                    · rw [if_neg h2, if_neg (by omega), List.getElem?_drop, Array.getElem?_toList]
                      congr 1
                      omega
                rw [List.getElem?_set] at hk
                by_cases hik : i = k
                · subst hik
                  rw [if_pos rfl, if_pos hlt] at hk
                  cases hk
                  refine ⟨by rw [s1, hsz], fun l c hl => ?_⟩
                  rcases s2 l c hl with ⟨g1, g2, g3⟩ | ⟨g1, g2⟩
                  · obtain ⟨u, hu, ho1, hr⟩ := hc.get g3
                    refine ⟨u, ?_, ho1, hr⟩
                    rw [harr, if_pos (by omega)]
                    rw [show i * (ρ id).sz + l - (i * (ρ id).sz + j) = l - j by omega]
                    exact hu
                  · obtain ⟨u, hu, ho1, hr⟩ := (q3 i e he).2 l c g2
                    refine ⟨u, ?_, ho1, hr⟩
                    rw [harr, if_neg (by omega)]
                    exact hu
                · rw [if_neg hik] at hk
                  refine ⟨(q3 k z hk).1, fun l c hl => ?_⟩
                  obtain ⟨u, hu, ho1, hr⟩ := (q3 k z hk).2 l c hl
                  refine ⟨u, ?_, ho1, hr⟩
                  have hll : l < (ρ id).sz := by
                    rw [← (q3 k z hk).1]
                    rcases Nat.lt_or_ge l z.cells.length with h' | h'
                    · exact h'
                    · rw [List.getElem?_eq_none h'] at hl; cases hl
                  rw [harr, if_neg]
                  · exact hu
                  · rintro ⟨h5, h6⟩
                    rcases Nat.lt_or_gt_of_ne hik with h7 | h7
                    · have : (i + 1) * (ρ id).sz ≤ k * (ρ id).sz := Nat.mul_le_mul_right _ h7
                      rw [Nat.add_mul, Nat.one_mul] at this
                      omega
                    · have : (k + 1) * (ρ id).sz ≤ i * (ρ id).sz := Nat.mul_le_mul_right _ h7
                      rw [Nat.add_mul, Nat.one_mul] at this
                      omega
            · cases h
          · cases h
        · cases h
      · cases h
    · cases h
  · cases h

/-- 'make([]T, l, c)'. -/
def aMake (P : Program) (mem : Mem) (nx : Nat) (t : TypeId) (l c : AV) : Option (AV × Mem × Nat) :=
  match l, c with
  | .int _ l, .int _ c => match P.underlying t with
    | some (.slice e) => match P.info? e with
      | some i => match zeroAV P e with
        | some z => match okVal z && (Nat.beq z.cells.length i.size && (Nat.blt 0 i.size && (decide (0 ≤ l) && (decide (l ≤ c) && (decide ((i.bytes : Int) * c ≤ 281474976710656) && decide (c ≤ 9223372036854775807)))))) with
          | true => some (.sl nx 0 l.toNat, (nx, .row e i.size (List.replicate l.toNat z)) :: mem, nx + 1)
          | false => none
        | none => none
      | none => none
    | _ => none
  | _, _ => none

theorem aMake_sound {n : Nat} {D' : Nat → Prop} (hn0 : ¬ D n) (hD : ∀ i, D i → D' i) (hDn : D' n) (hm : MR Γ X ρ D mem w) {t : TypeId} {a b v : AV} {x y : Value} {mem' : Mem} {N' : Nat} (h : aMake P mem n t a b = some (v, mem', N'))
    (hx : VR ρ D (OX X ρ mem) w a x) (hy : VR ρ D (OX X ρ mem) w b y) : Done P Γ X ρ D mem w ((Instr.makeSlice t x y).run P w) v mem' D' := by
  unfold aMake at h
  split at h
  · rename_i k1 l k2 c
    cases hx
    cases hy
    split at h
    · rename_i e hu
      split at h
      · rename_i i hi
        split at h
        · rename_i z hz
          split at h
          · rename_i hb
            simp only [Bool.and_eq_true] at hb
            obtain ⟨b0, b1, b2, b3, b4, b5, b6⟩ := hb
            have b1 := Nat.eq_of_beq_eq_true b1
            have b2 : 0 < i.size := Nat.le_of_ble_eq_true b2
            have b3 := of_decide_eq_true b3
            have b4 := of_decide_eq_true b4
            have b5 := of_decide_eq_true b5
            have b6 := of_decide_eq_true b6
            cases h
            unfold zeroAV at hz
            rw [hi] at hz
            simp only at hz
            split at hz
            · rename_i zx hzx
              have hrun := run_make (P := P) w t e i zx hu hi hzx k1 k2 l c b3 b4 b5 b6
              have hle : l.toNat * i.size ≤ c.toNat * i.size := Nat.mul_le_mul_right _ (by omega)
              have hrow := made_row (ofVal_sound (ρ := ρ) (D := D) (O := OX X ρ mem) (w := w) hz) b0 b1 b2 l.toNat (c.toNat * i.size) hle
              refine Done.alloc hn0 hD hDn hm (fun b => .slice (some ⟨b, 0, none⟩) l.toNat c.toNat) hrun rfl ⟨rfl, rfl⟩ (sz := i.size) hrow (fun h0 => ?_) (fun ρ' O' eq => ?_)
              · rw [size_madeCells] at h0
                have : l.toNat = 0 := by
                  rcases Nat.eq_zero_or_pos l.toNat with h' | h'
                  · exact h'
                  · have := Nat.mul_pos h' b2; omega
                rw [this]; rfl
              · have := VR.sl (ρ := ρ') (D := D') (O := O') (w := w.alloc (.cells (madeCells zx.cells (c.toNat * i.size)) e)) n 0 l.toNat c.toNat hDn (by omega) (by rw [eq]; simp [size_madeCells])
                rw [eq] at this
                simpa using this
            · cases hz
          · cases h
        · cases h
      · cases h
    · cases h
  · cases h
end
end Go.Ax
