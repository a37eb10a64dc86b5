/- More operations that leave the memory as it is. -/
import Derived.Test.YtoanjpeoclkjgaaDoorAxPure
namespace Go.Ax
open Go

/-- 'nilCheck'. -/
def aNil : AV → Option AV
  | .ptr id i j => some (.ptr id i j)
  | .ip v => some (.ip v)
  | .fn (.func f) a b => some (.fn (.func f) a b)
  | _ => none

/-- The address of a field. -/
def aFieldAddr (P : Program) (t : TypeId) (f : Nat) (p : AV) : Option AV :=
  match P.underlying t with
  | some (.struct fs) => match fs[f]? with
    | some fd => match tsize P fd.type with
      | some (_ + 1) => match p with
        | .ptr id i j => some (.ptr id i (j + fd.offset))
        | .ip u => match shp P fd.type with
          | some sh => match sub sh u.cells fd.offset with
            | some v => some (.ip v)
            | none => none
          | none => none
        | _ => none
      | _ => none
    | none => none
  | _ => none

/-- A field of a struct by value. -/
def aField (P : Program) (t : TypeId) (f : Nat) (v : AV) : Option AV :=
  match P.underlying t with
  | some (.struct fs) => match fs[f]? with
    | some fd => match v with
      | .agg cs => match shp P fd.type with
        | some sh => sub sh cs fd.offset
        | none => none
      | _ => none
    | none => none
  | _ => none

/-- Does the place begin an element of the block, and are its elements of this size? -/
def aElem (mem : Mem) (id i j sz : Nat) : Bool :=
  match j with
  | 0 => match lk mem id with
    | some (.row _ _ xs) => match xs[i]? with
      | some x => Nat.beq x.cells.length sz
      | none => false
    | _ => false
  | _ + 1 => false

/-- The address of an element. -/
def aIndexAddr (P : Program) (mem : Mem) (t : TypeId) (p ix : AV) : Option AV :=
  match ix with
  | .int _ n => match decide (0 ≤ n) with
    | true => match P.underlying t with
      | some (.slice e) => match tsize P e with
        | some sz => match p with
          | .sl id off len => match lk mem id with
            | some (.row _ _ xs) => match Nat.blt n.toNat len with
              | true => match xs[off + n.toNat]? with
                | some x => match Nat.beq x.cells.length sz with
                  | true => some (.ptr id (off + n.toNat) 0)
                  | false => none
                | none => none
              | false => none
            | _ => none
          | .il sz' xs => match xs[n.toNat]? with
            | some x => match Nat.beq sz sz' with
              | true => some (.ip x)
              | false => none
            | none => none
          | _ => none
        | none => none
      | some (.array m e) => match tsize P e, shp P e with
        | some sz, some sh => match Nat.blt n.toNat m with
          | true => match p with
            | .ptr id i j => match aElem mem id i j sz with
              | true => some (.ptr id (i + n.toNat) 0)
              | false => some (.ptr id i (j + n.toNat * sz))
            | .ip u => match sub sh u.cells (n.toNat * sz) with
              | some v => some (.ip v)
              | none => none
            | _ => none
          | false => none
        | _, _ => none
      | _ => none
    | false => none
  | _ => none

/-- An element of an array or a string by value. -/
def aIndex (P : Program) (t : TypeId) (v ix : AV) : Option AV :=
  match ix with
  | .int _ n => match decide (0 ≤ n) with
    | true => match P.underlying t with
      | some .string => match v with
        | .str s => match s[n.toNat]? with
          | some b => some (.int .u8 (b.toNat : Int))
          | none => none
        | _ => none
      | some (.array m e) => match v with
        | .agg cs => match Nat.blt n.toNat m with
          | true => match tsize P e, shp P e with
            | some sz, some sh => sub sh cs (n.toNat * sz)
            | _, _ => none
          | false => none
        | _ => none
      | _ => none
    | false => none
  | _ => none

section
variable {P : Program} {Γ : List (Nat × AV)} {X : Nat → Prop} {ρ : Nat → Loc} {D : Nat → Prop} {O : Nat → Prop} {mem : Mem} {w : World}

theorem sub_cells {sh : Option Nat} {cs : List AV} {j : Nat} {v : AV} (h : sub sh cs j = some v) (i : Nat) (c : AV) (hc : v.cells[i]? = some c) : cs[j + i]? = some c := by
  cases sh with
  | none =>
    simp only [sub] at h
    split at h
    · rename_i u hu
      obtain ⟨rfl, hf⟩ := one_eq h
      rw [hf] at hc
      cases i with
      | zero => simp at hc; subst hc; exact hu
      | succ i => simp at hc
    · cases h
  | some n =>
    simp only [sub] at h
    split at h
    · cases h
      simp only [AV.cells] at hc
      rw [List.getElem?_take] at hc
      split at hc
      · rw [List.getElem?_drop] at hc; exact hc
      · cases hc
    · cases h

theorem sub_len {sh : Option Nat} {cs : List AV} {j : Nat} {v : AV} (h : sub sh cs j = some v) : v.cells.length = sh.getD 1 := by
  cases sh with
  | none =>
    simp only [sub] at h
    split at h
    · obtain ⟨rfl, hf⟩ := one_eq h; rw [hf]; rfl
    · cases h
  | some n =>
    simp only [sub] at h
    split at h
    · rename_i hl; cases h; exact Nat.eq_of_beq_eq_true hl
    · cases h

theorem ip_sub {u v : AV} {x : Value} (h : VR ρ D O w (.ip u) x) {sh : Option Nat} {j : Nat} (hv : sub sh u.cells j = some v) :
    ∃ b off, x = .pointer (some ⟨b, off, none⟩) ∧ VR ρ D O w (.ip v) (.pointer (some ⟨b, off + j, none⟩)) := by
  cases h with
  | ip _ b off f h1 h2 =>
    refine ⟨b, off, rfl, .ip v b (off + j) (fun i => f (j + i)) (fun i c hc => ?_) (fun i c hc => ?_)⟩
    · have := h1 (j + i) c (sub_cells hv i c hc)
      exact ⟨this.1, by rw [Nat.add_assoc]; exact this.2.1, this.2.2⟩
    · exact h2 (j + i) c (sub_cells hv i c hc)

theorem aNil_sound {p v : AV} {x : Value} (h : aNil p = some v) (hx : VR ρ D O w p x) (o : Oper) (f : Operand → Value) (y : Operand) (ho : o.op = .nilCheck y) (hy : f y = x) :
    (execOp f o).run P w = .ok (.value x) w ∧ VR ρ D O w v x := by
  unfold aNil at h
  split at h <;> first | cases h | skip
  all_goals
    cases hx
    refine ⟨by simp [execOp, ho, hy], ?_⟩
  · exact .ptr _ _ _ (by assumption)
  · exact .ip _ _ _ _ (by assumption) (by assumption)
  · exact .fn _ _ _ _ _ (by assumption) (by assumption) (by assumption) (by assumption)

theorem aFieldAddr_sound {t : TypeId} {f : Nat} {p v : AV} {x : Value} (h : aFieldAddr P t f p = some v) (hx : VR ρ D O w p x) :
    ∃ y, (Instr.fieldAt t x f).run P w = .ok y w ∧ VR ρ D O w v y := by
  unfold aFieldAddr at h
  split at h
  · rename_i fs hu
    split at h
    · rename_i fd hfd
      split at h
      · rename_i n hn
        have hrun := run_tsize (w := w) hn
        split at h
        · rename_i id i j
          cases h
          cases hx
          refine ⟨.pointer (some ⟨(ρ id).b, i * (ρ id).sz + j + fd.offset, none⟩), ?_, ?_⟩
          · simp [Instr.fieldAt, run_underlying hu, hfd, Instr.sureAddr, fieldPlace, hrun, Addr.add_lit]
          · rw [Nat.add_assoc]; exact .ptr id i (j + fd.offset) (by assumption)
        · rename_i u
          split at h
          · rename_i sh hsh
            split at h
            · rename_i v' hv'
              cases h
              obtain ⟨b, off, rfl, hr⟩ := ip_sub hx hv'
              exact ⟨_, by simp [Instr.fieldAt, run_underlying hu, hfd, Instr.sureAddr, fieldPlace, hrun, Addr.add_lit], hr⟩
            · cases h
          · cases h
        · cases h
      · cases h
    · cases h
  · cases h

theorem run_part {t : TypeId} {sh : Option Nat} (hsh : shp P t = some sh) {cs : List AV} {j : Nat} {v : AV} (hv : sub sh cs j = some v) {vs : List Value} (hc : VRC ρ D O w cs vs) :
    ∃ x, (part t vs.toArray j).run P w = .ok x w ∧ VR ρ D O w v x := by
  obtain ⟨hag, hsz⟩ := run_isAgg (w := w) hsh
  cases sh with
  | none =>
    simp only [sub] at hv
    split at hv
    · rename_i c hcj
      obtain ⟨rfl, _⟩ := one_eq hv
      have hlt : j < vs.length := by
        rw [← hc.1.1]
        rcases Nat.lt_or_ge j cs.length with h | h
        · exact h
        · rw [List.getElem?_eq_none h] at hcj; cases hcj
      exact ⟨vs[j], by simp [part, hag, hlt], hc.1.2 j c _ hcj (by simp [hlt])⟩
    · cases hv
  | some n =>
    have hlen := sub_len hv
    simp only [sub] at hv
    split at hv
    · cases hv
      refine ⟨.agg (vs.toArray.extract j (j + n)), by simp [part, hag, hsz n rfl], ?_⟩
      have e : vs.toArray.extract j (j + n) = ((vs.drop j).take n).toArray := by
        simp [List.extract_toArray, List.extract_eq_take_drop]
      rw [e]
      refine VRC.agg ⟨⟨?_, fun i c x h1 h2 => ?_⟩, fun x hx => hc.2 x (List.mem_of_mem_drop (List.mem_of_mem_take hx))⟩
      · simp [hc.1.1]
      · rw [List.getElem?_take] at h1 h2
        split at h1
        · rename_i hi
          rw [if_pos hi] at h2
          rw [List.getElem?_drop] at h1 h2
          exact hc.1.2 _ c x h1 h2
        · cases h1
    · cases hv

theorem aField_sound {t : TypeId} {f : Nat} {p v : AV} {x : Value} (h : aField P t f p = some v) (hx : VR ρ D O w p x) :
    ∃ y, (Instr.field t x f).run P w = .ok y w ∧ VR ρ D O w v y := by
  unfold aField at h
  split at h
  · rename_i fs hu
    split at h
    · rename_i fd hfd
      split at h
      · rename_i cs
        split at h
        · rename_i sh hsh
          obtain ⟨vs, rfl, hvs⟩ := hx.agg_inv
          obtain ⟨y, hy, hr⟩ := run_part (w := w) hsh h hvs
          exact ⟨y, by simp [Instr.field, run_underlying hu, hfd, asAgg, hy], hr⟩
        · cases h
      · cases h
    · cases h
  · cases h
end
end Go.Ax
