/- The operations that leave the memory as it is: what they give on abstract values, and that the model gives the like. -/
import Derived.Test.YtoanjpeoclkjgaaDoorAxCore
namespace Go.Ax
open Go

def scalVal : Value → Option AV
  | .bool b => some (.bool b)
  | .int k n => some (.int k n)
  | .string s => some (.str s.data.toList)
  | .pointer none => some .nptr
  | .slice none 0 0 => some .nsl
  | .map none => some .nmap
  | .nilFunc => some .nfn
  | .nilIface => some .nif
  | _ => none

def scalVals : List Value → Option (List AV)
  | [] => some []
  | v :: r => match scalVal v with
    | some a => match scalVals r with
      | some l => some (a :: l)
      | none => none
    | none => none

def ofVal : Value → Option AV
  | .agg cs => match scalVals cs.toList with
    | some l => some (.agg l)
    | none => none
  | .tuple cs => match cs.toList with
    | [] => some (.tup [])
    | _ => none
  | v => scalVal v

section
variable {ρ : Nat → Loc} {D : Nat → Prop} {O : Nat → Prop} {w : World}

theorem scalVal_sound {v : Value} {a : AV} (h : scalVal v = some a) : VR ρ D O w a v := by
  unfold scalVal at h
  split at h <;> first | cases h | skip
  · exact .bool _
  · exact .int _ _
  · rename_i s; have := VR.str (ρ := ρ) (D := D) (O := O) (w := w) s.data.toList; simpa using this
  · exact .nptr
  · exact .nsl
  · exact .nmap
  · exact .nfn
  · exact .nif

theorem scalVal_one {v : Value} {a : AV} (h : scalVal v = some a) : v.oneCell' = true := by
  unfold scalVal at h
  split at h <;> first | (cases h; done) | rfl

theorem scalVals_one : ∀ {vs : List Value} {l : List AV}, scalVals vs = some l → ∀ x ∈ vs, x.oneCell' = true
  | [], l, h => by simp
  | v :: r, l, h => by
    simp only [scalVals] at h
    split at h
    · rename_i a ha
      split at h
      · rename_i l' hl
        intro x hx
        rcases List.mem_cons.1 hx with rfl | hx
        · exact scalVal_one ha
        · exact scalVals_one hl x hx
      · cases h
    · cases h

theorem scalVals_sound : ∀ {vs : List Value} {l : List AV}, scalVals vs = some l → VRL ρ D O w l vs
  | [], l, h => by simp [scalVals] at h; subst h; exact .nil
  | v :: r, l, h => by
    simp only [scalVals] at h
    split at h
    · rename_i a ha
      split at h
      · rename_i l' hl
        cases h
        exact .cons (scalVal_sound ha) (scalVals_sound hl)
      · cases h
    · cases h

theorem VRC.agg {cs : List AV} {vs : List Value} (h : VRC ρ D O w cs vs) : VR ρ D O w (.agg cs) (.agg vs.toArray) :=
  .agg cs vs.toArray (by simpa using h.1.1) (by simpa using h.2) (fun j c x h1 h2 => h.1.2 j c x h1 (by simpa using h2))

theorem VRL.tup {cs : List AV} {vs : List Value} (h : VRL ρ D O w cs vs) : VR ρ D O w (.tup cs) (.tuple vs.toArray) :=
  .tup cs vs.toArray (by simpa using h.1) (fun j c x h1 h2 => h.2 j c x h1 (by simpa using h2))

theorem VR.agg_inv {cs : List AV} {x : Value} (h : VR ρ D O w (.agg cs) x) : ∃ vs : List Value, x = .agg vs.toArray ∧ VRC ρ D O w cs vs := by
  cases h with
  | agg _ arr hl ho hr => exact ⟨arr.toList, by simp, ⟨by simpa using hl, fun j c x h1 h2 => hr j c x h1 (by simpa using h2)⟩, by simpa using ho⟩

theorem VR.tup_inv {cs : List AV} {x : Value} (h : VR ρ D O w (.tup cs) x) : ∃ vs : List Value, x = .tuple vs.toArray ∧ VRL ρ D O w cs vs := by
  cases h with
  | tup _ arr hl hr => exact ⟨arr.toList, by simp, by simpa using hl, fun j c x h1 h2 => hr j c x h1 (by simpa using h2)⟩

theorem ofVal_sound {v : Value} {a : AV} (h : ofVal v = some a) : VR ρ D O w a v := by
  unfold ofVal at h
  split at h
  · rename_i cs
    split at h
    · rename_i l hl; cases h
      have := VRC.agg ⟨scalVals_sound (ρ := ρ) (D := D) (O := O) (w := w) hl, scalVals_one hl⟩
      simpa using this
    · cases h
  · rename_i cs
    split at h
    · rename_i hc; cases h
      have : cs = #[] := by simpa using hc
      subst this
      exact .tup [] #[] rfl (by simp)
    · cases h
  · exact scalVal_sound h
end

theorem lk_mem {α : Type} : ∀ {l : List (Nat × α)} {i : Nat} {v : α}, lk l i = some v → (i, v) ∈ l
  | (k, u) :: r, i, v, h => by
    simp only [lk] at h
    split at h
    · rename_i hk; cases h; simp [Nat.eq_of_beq_eq_true hk]
    · exact List.mem_cons_of_mem _ (lk_mem h)

def ev (Γ : List (Nat × AV)) (s : St) : Operand → Option AV
  | .tmp t => lk s.sl t
  | .const v => ofVal v
  | .global g => match lk Γ g with
    | some v => some (.ip v)
    | none => none
  | .func f => some (.fn (.func f) [] [])

def evs (Γ : List (Nat × AV)) (s : St) : List Operand → Option (List AV)
  | [] => some []
  | x :: r => match ev Γ s x with
    | some a => match evs Γ s r with
      | some l => some (a :: l)
      | none => none
    | none => none

section
variable {Γ : List (Nat × AV)} {X : Nat → Prop} {ρ : Nat → Loc} {D : Nat → Prop} {s : St} {a : Act} {w : World}

theorem ev_sound (hs : SR Γ X ρ D s a w) {x : Operand} {v : AV} (h : ev Γ s x = some v) : VR ρ D (OX X ρ s.mem) w v (a.eval x) := by
  cases x with
  | tmp t => exact hs.slot t v h
  | const c => exact ofVal_sound h
  | global g =>
    simp only [ev] at h
    split at h
    · rename_i u hu; cases h; exact hs.mr.glo _ (lk_mem hu)
    · cases h
  | func f => simp only [ev] at h; cases h; exact .fn _ [] [] #[] #[] rfl rfl (by simp) (by simp)

theorem evs_sound (hs : SR Γ X ρ D s a w) : ∀ {xs : List Operand} {vs : List AV}, evs Γ s xs = some vs → VRL ρ D (OX X ρ s.mem) w vs (xs.map a.eval)
  | [], vs, h => by simp [evs] at h; subst h; exact .nil
  | x :: r, vs, h => by
    simp only [evs] at h
    split at h
    · rename_i v hv
      split at h
      · rename_i l hl
        cases h
        exact .cons (ev_sound hs hv) (evs_sound hs hl)
      · cases h
    · cases h
end

/-- The shape of a type: 'none' one cell, 'some n' n cells. -/
def shp (P : Program) (t : TypeId) : Option (Option Nat) :=
  match P.underlying t with
  | some (.struct _) => match P.info? t with
    | some i => some (some i.size)
    | none => none
  | some (.array _ _) => match P.info? t with
    | some i => some (some i.size)
    | none => none
  | some _ => some none
  | none => none

def tsize (P : Program) (t : TypeId) : Option Nat :=
  match P.info? t with
  | some i => some i.size
  | none => none

def one : AV → Option AV
  | .agg _ => none
  | v => some v

theorem one_eq {c v : AV} (h : one c = some v) : c = v ∧ v.cells = [v] := by
  unfold one at h
  split at h
  · cases h
  · cases h
    refine ⟨rfl, ?_⟩
    cases c <;> first | rfl | (rename_i h1; exact (h1 _ rfl).elim) | (rename_i h1 _; exact (h1 _ rfl).elim)

/-- A part of a row of cells. -/
def sub (sh : Option Nat) (cs : List AV) (j : Nat) : Option AV :=
  match sh with
  | none => match cs[j]? with
    | some c => one c
    | none => none
  | some n => match Nat.beq ((cs.drop j).take n).length n with
    | true => some (.agg ((cs.drop j).take n))
    | false => none

section
variable {P : Program} {w : World}

theorem run_isAgg {t : TypeId} {sh : Option Nat} (h : shp P t = some sh) : (isAgg t).run P w = .ok sh.isSome w ∧ ∀ n, sh = some n → (Go.sizeOf t).run P w = .ok n w := by
  unfold shp at h
  split at h
  · rename_i fs hu
    split at h
    · rename_i i hi; cases h
      refine ⟨by simp [isAgg, run_underlying hu], ?_⟩
      rintro n ⟨⟩
      simp [Go.sizeOf, typeInfo, hi]
    · cases h
  · rename_i hu
    split at h
    · rename_i i hi; cases h
      refine ⟨by simp [isAgg, run_underlying hu], ?_⟩
      rintro n ⟨⟩
      simp [Go.sizeOf, typeInfo, hi]
    · cases h
  · rename_i d h1 h2 hu
    cases h
    refine ⟨?_, by rintro n ⟨⟩⟩
    cases d <;> first | exact (h1 _ rfl).elim | exact (h2 _ _ rfl).elim | simp [isAgg, run_underlying hu]
  · cases h

theorem run_tsize {t : TypeId} {n : Nat} (h : tsize P t = some n) : (Go.sizeOf t).run P w = .ok n w := by
  unfold tsize at h
  split at h
  · rename_i i hi; cases h; simp [Go.sizeOf, typeInfo, hi]
  · cases h
end

section
variable {P : Program} {ρ : Nat → Loc} {D : Nat → Prop} {O : Nat → Prop} {w : World}

/-- Loading a part of cells that lie in memory. -/
theorem run_loadVar_sub {t : TypeId} {sh : Option Nat} (hsh : shp P t = some sh) {cs : List AV} {j : Nat} {v : AV} (hv : sub sh cs j = some v)
    {b off : Nat} (hc : ∀ (i : Nat) (c : AV), cs[i]? = some c → ∃ x, w.cell? ⟨b, off + i, none⟩ = some x ∧ x.oneCell' = true ∧ VR ρ D O w c x) :
    ∃ x, (loadVar t ⟨b, off + j, none⟩).run P w = .ok x w ∧ VR ρ D O w v x := by
  obtain ⟨hag, hsz⟩ := run_isAgg (w := w) hsh
  cases sh with
  | none =>
    simp only [sub] at hv
    split at hv
    · rename_i c hcj
      obtain ⟨rfl, _⟩ := one_eq hv
      obtain ⟨x, hx, _, hr⟩ := hc j c hcj
      exact ⟨x, by simp [loadVar, hag, hx], hr⟩
    · cases hv
  | some n =>
    simp only [sub] at hv
    split at hv
    · rename_i hl
      cases hv
      have hl := Nat.eq_of_beq_eq_true hl
      have key : ∀ i, i < n → ∃ x c, (List.take n (List.drop j cs))[i]? = some c ∧ w.cell? ⟨b, off + j + i, none⟩ = some x ∧ x.oneCell' = true ∧ VR ρ D O w c x := by
        intro i hi
        have h1 : (List.take n (List.drop j cs))[i]? = some ((List.take n (List.drop j cs))[i]'(by omega)) := List.getElem?_eq_getElem _
        have h2 : cs[j + i]? = some ((List.take n (List.drop j cs))[i]'(by omega)) := by
          rw [List.getElem?_take, if_pos hi, List.getElem?_drop] at h1; exact h1
        obtain ⟨x, hx, ho, hr⟩ := hc _ _ h2
        exact ⟨x, _, h1, by rw [Nat.add_assoc]; exact hx, ho, hr⟩
      have hget : ∀ i, i < n → w.cell? (Addr.add ⟨b, off + j, none⟩ i) = some ((w.cell? ⟨b, off + j + i, none⟩).getD undef) := by
        intro i hi
        obtain ⟨x, c, _, hx, _, _⟩ := key i hi
        simp [Addr.add_lit, hx]
      refine ⟨.agg ((List.range n).map fun i => (w.cell? ⟨b, off + j + i, none⟩).getD undef).toArray, ?_, ?_⟩
      · simp [loadVar, hag, hsz n rfl, run_loadCells w ⟨b, off + j, none⟩ n (fun i => (w.cell? ⟨b, off + j + i, none⟩).getD undef) hget]
      · refine VRC.agg ⟨⟨by simp [hl], fun i c x h1 h2 => ?_⟩, fun x hx => ?_⟩
        rotate_left
        · obtain ⟨i, hi, rfl⟩ := List.mem_map.1 hx
          obtain ⟨x', c', _, e2, ho, _⟩ := key i (List.mem_range.1 hi)
          simp [e2, ho]
        have hi : i < n := by
          rcases Nat.lt_or_ge i n with h | h
          · exact h
          · simp [h] at h2
        obtain ⟨x', c', e1, e2, _, hr⟩ := key i hi
        rw [h1] at e1; cases e1
        simp [hi, e2] at h2
        subst h2
        exact hr
    · cases hv
end

/-- Go's 'load'. -/
def aLoad (P : Program) (mem : Mem) (t : TypeId) (p : AV) : Option AV :=
  match p with
  | .ip u => match shp P t with
    | some sh => sub sh u.cells 0
    | none => none
  | .ptr id i j => match lk mem id with
    | some (.row _ _ xs) => match xs[i]? with
      | some x => match shp P t with
        | some sh => sub sh x.cells j
        | none => none
      | none => none
    | _ => none
  | _ => none

section
variable {P : Program} {Γ : List (Nat × AV)} {X : Nat → Prop} {ρ : Nat → Loc} {D : Nat → Prop} {mem : Mem} {w : World}

theorem ip_cells {u : AV} {x : Value} {O : Nat → Prop} (h : VR ρ D O w (.ip u) x) :
    ∃ b off, x = .pointer (some ⟨b, off, none⟩) ∧ ∀ (i : Nat) (c : AV), u.cells[i]? = some c → ¬ O b ∧ ∃ x, w.cell? ⟨b, off + i, none⟩ = some x ∧ x.oneCell' = true ∧ VR ρ D O w c x := by
  cases h with
  | ip _ b off f h1 h2 => exact ⟨b, off, rfl, fun i c hc => ⟨(h1 i c hc).1, f i, (h1 i c hc).2.1, (h1 i c hc).2.2, h2 i c hc⟩⟩

theorem own_cells (hm : MR Γ X ρ D mem w) {id : Nat} {t : TypeId} {sz : Nat} {xs : List AV} (hid : lk mem id = some (.row t sz xs)) {i : Nat} {x : AV} (hx : xs[i]? = some x) :
    x.cells.length = (ρ id).sz ∧ ∀ (j : Nat) (c : AV), x.cells[j]? = some c → ∃ v, w.cell? ⟨(ρ id).b, i * (ρ id).sz + j, none⟩ = some v ∧ v.oneCell' = true ∧ VR ρ D (OX X ρ mem) w c v := by
  have hn : 0 < (ρ id).n := by
    rcases Nat.eq_zero_or_pos (ρ id).n with h | h
    · obtain ⟨t', sz', e, _⟩ := hm.emp _ (lk_mem hid) h
      cases e
      simp at hx
    · exact h
  obtain ⟨o, ho, _, arr, fr, rfl, _, _, _, h4⟩ := hm.blk _ (lk_mem hid) hn
  refine ⟨(h4 i x hx).1, fun j c hc => ?_⟩
  obtain ⟨v, hv, h1, hr⟩ := (h4 i x hx).2 j c hc
  exact ⟨v, by simp [World.cell?, ho, hv], h1, hr⟩

theorem aLoad_sound (hm : MR Γ X ρ D mem w) {t : TypeId} {p v : AV} {x : Value} (h : aLoad P mem t p = some v) (hx : VR ρ D (OX X ρ mem) w p x) :
    ∃ y, (Instr.loadAt t x).run P w = .ok y w ∧ VR ρ D (OX X ρ mem) w v y := by
  unfold aLoad at h
  split at h
  · rename_i u
    split at h
    · rename_i sh hsh
      obtain ⟨b, off, rfl, hc⟩ := ip_cells hx
      obtain ⟨y, hy, hr⟩ := run_loadVar_sub hsh h (fun i c hi => (hc i c hi).2)
      exact ⟨y, by simpa [Instr.loadAt, Instr.sureAddr] using hy, hr⟩
    · cases h
  · rename_i id i j
    split at h
    · rename_i t' sz' xs hid
      split at h
      · rename_i e he
        split at h
        · rename_i sh hsh
          cases hx
          obtain ⟨y, hy, hr⟩ := run_loadVar_sub hsh h (own_cells hm hid he).2
          exact ⟨y, by simpa [Instr.loadAt, Instr.sureAddr] using hy, hr⟩
        · cases h
      · cases h
    · cases h
  · cases h
end

end Go.Ax
