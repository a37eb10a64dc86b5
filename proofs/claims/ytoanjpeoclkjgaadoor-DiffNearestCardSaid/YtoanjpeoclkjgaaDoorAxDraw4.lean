/- Regions that draw their order, fourth part: the virtual run stands for every order. -/
import Derived.Test.YtoanjpeoclkjgaaDoorAxDraw3
namespace Go.Ax
open Go
set_option linter.unusedVariables false

/-- The slots that are looked at. -/
def pickSl (sl : List (Nat × AV)) : List Nat → List (Nat × AV)
  | [] => []
  | t :: r => match lk sl t with
    | some v => (t, v) :: pickSl sl r
    | none => pickSl sl r

theorem lk_pick {sl : List (Nat × AV)} : ∀ {ts : List Nat} {t : Nat} {v : AV}, lk (pickSl sl ts) t = some v → t ∈ ts ∧ lk sl t = some v
  | [], t, v, h => by simp [pickSl, lk] at h
  | u :: r, t, v, h => by
    simp only [pickSl] at h
    split at h
    · rename_i x hx
      simp only [lk] at h
      split at h
      · rename_i hu
        have hu := Nat.eq_of_beq_eq_true hu
        subst hu
        cases h
        exact ⟨List.mem_cons_self .., hx⟩
      · obtain ⟨h1, h2⟩ := lk_pick h
        exact ⟨List.mem_cons_of_mem _ h1, h2⟩
    · obtain ⟨h1, h2⟩ := lk_pick h
      exact ⟨List.mem_cons_of_mem _ h1, h2⟩

theorem pick_lk {sl : List (Nat × AV)} : ∀ {ts : List Nat} {t : Nat}, t ∈ ts → lk (pickSl sl ts) t = lk sl t
  | u :: r, t, h => by
    simp only [pickSl]
    by_cases htu : t = u
    · subst htu
      split
      · rename_i x hx
        simp [lk, hx]
      · rename_i hx
        rw [hx]
        cases hl : lk (pickSl sl r) t with
        | none => rfl
        | some v => rw [(lk_pick hl).2] at hx; cases hx
    · have hr : t ∈ r := by
        rcases List.mem_cons.1 h with h | h
        · exact absurd h htu
        · exact h
      split
      · rename_i x hx
        simp only [lk, nbeq_ne (Ne.symm htu)]
        exact pick_lk hr
      · exact pick_lk hr

theorem looks_operand {ops : List Oper} {o : Oper} {t : Nat} (h : Operand.tmp t ∈ o.op.operands) : t ∈ looks ops o := by
  refine List.mem_append_left _ (List.mem_filterMap.2 ⟨.tmp t, by simpa using h, rfl⟩)

theorem looks_guard {ops : List Oper} {o og : Oper} {g : Nat} {b : Bool} {d : Nat} (h : o.guard = some (g, b)) (hg : ops[g]? = some og) (hd : og.dst = some d) : d ∈ looks ops o := by
  refine List.mem_append_right _ ?_
  simp [h, hg, hd]

theorem ev_pick {Γ : List (Nat × AV)} {ops : List Oper} {o : Oper} {s s' : St} (hs : s'.sl = pickSl s.sl (looks ops o)) : ∀ x ∈ o.op.operands, ev Γ s x = ev Γ s' x := by
  intro x hx
  cases x with
  | tmp t => simp only [ev, hs]; exact (pick_lk (looks_operand hx)).symm
  | const c => rfl
  | global g => rfl
  | func f => rfl

theorem aWant_pick {ops : List Oper} {o : Oper} {s s' : St} (hs : s'.sl = pickSl s.sl (looks ops o)) : aWant ops s o.guard = aWant ops s' o.guard := by
  unfold aWant
  cases hg : o.guard with
  | none => rfl
  | some p =>
    obtain ⟨j, b⟩ := p
    simp only
    cases hj : ops[j]? with
    | none => rfl
    | some oj =>
      simp only
      cases hd : oj.dst with
      | none => rfl
      | some d =>
        simp only [hs]
        rw [pick_lk (looks_guard hg hj hd)]

/-- The memory as it is, while some of the region's own blocks are not made yet. -/
def keepC (L : Nat → Bool) (base n id : Nat) : Bool := !(Nat.ble base id && Nat.blt id (base + n)) || L (id - base)

def memC (L : Nat → Bool) (base n : Nat) (m : Mem) : Mem := m.filter fun p => keepC L base n p.1

def DN (D0 : Nat → Prop) (B base n : Nat) (L : Nat → Bool) (cur : Nat) : Nat → Prop :=
  fun id => D0 id ∨ (B ≤ id ∧ id < base) ∨ (∃ i, id = base + i ∧ i < n ∧ L i = true) ∨ (base + n ≤ id ∧ id < cur)

theorem vis_iff {tr : List (List Nat)} {base n i id : Nat} : vis tr base n i id = true ↔ (base ≤ id ∧ id < base + n → id - base ∈ T tr i) := by
  unfold vis
  split
  · rename_i h
    rw [Bool.and_eq_true] at h
    have h1 := Nat.le_of_ble_eq_true h.1
    have h2 : id < base + n := Nat.le_of_ble_eq_true h.2
    rw [mem1_iff]
    exact ⟨fun h' _ => h', fun h' => h' ⟨h1, h2⟩⟩
  · rename_i h
    simp only [true_iff]
    rintro ⟨h1, h2⟩
    rw [Bool.and_eq_false_iff] at h
    exfalso
    rcases h with h | h
    · rw [Nat.ble_eq_true_of_le h1] at h; cases h
    · have : Nat.blt id (base + n) = true := Nat.ble_eq_true_of_le h2
      rw [this] at h; cases h

theorem keepC_iff {L : Nat → Bool} {base n id : Nat} : keepC L base n id = true ↔ (base ≤ id ∧ id < base + n → L (id - base) = true) := by
  unfold keepC
  rw [Bool.or_eq_true]
  constructor
  · rintro (h | h) ⟨h1, h2⟩
    · have a1 := Nat.ble_eq_true_of_le h1
      have a2 : Nat.blt id (base + n) = true := Nat.ble_eq_true_of_le h2
      rw [a1, a2] at h
      simp at h
    · exact h
  · intro h
    by_cases h1 : base ≤ id ∧ id < base + n
    · exact .inr (h h1)
    · left
      have : (Nat.ble base id && Nat.blt id (base + n)) = false := by
        rw [Bool.and_eq_false_iff]
        by_cases h2 : base ≤ id
        · right
          cases h3 : Nat.blt id (base + n) with
          | false => rfl
          | true => exact absurd ⟨h2, Nat.le_of_ble_eq_true h3⟩ h1
        · left
          cases h3 : Nat.ble base id with
          | false => rfl
          | true => exact absurd (Nat.le_of_ble_eq_true h3) h2
      rw [this]
      rfl

theorem filter_nodup {m : Mem} {f : Nat × AB → Bool} (h : (m.map (·.1)).Nodup) : ((m.filter f).map (·.1)).Nodup := by
  induction m with
  | nil => simp
  | cons p r ih =>
    simp only [List.map_cons, List.nodup_cons] at h
    rw [List.filter_cons]
    split
    · simp only [List.map_cons, List.nodup_cons]
      refine ⟨fun hm => h.1 ?_, ih h.2⟩
      obtain ⟨q, hq, e⟩ := List.mem_map.1 hm
      exact List.mem_map.2 ⟨q, (List.mem_filter.1 hq).1, e⟩
    · exact ih h.2

theorem key_unique {m : Mem} (h : (m.map (·.1)).Nodup) {p q : Nat × AB} (hp : p ∈ m) (hq : q ∈ m) (e : p.1 = q.1) : p = q := by
  induction m with
  | nil => cases hp
  | cons x r ih =>
    simp only [List.map_cons, List.nodup_cons] at h
    rcases List.mem_cons.1 hp with hp1 | hp1 <;> rcases List.mem_cons.1 hq with hq1 | hq1
    · rw [hp1, hq1]
    · exact absurd (show x.1 ∈ r.map (·.1) from List.mem_map.2 ⟨q, hq1, by rw [← e, hp1]⟩) h.1
    · exact absurd (show x.1 ∈ r.map (·.1) from List.mem_map.2 ⟨p, hp1, by rw [e, hq1]⟩) h.1
    · exact ih h.2 hp1 hq1

/-- Memory, parted at operation i, whose predecessors are all carried out. -/
theorem parts_at {L : Nat → Bool} {tr : List (List Nat)} {base n i : Nat} {m : Mem} (hn : (m.map (·.1)).Nodup) (hT : ∀ j ∈ T tr i, L j = true) :
    Parts (memC L base n m) (seen tr base n i m) (memC L base n (unseen tr base n i m)) := by
  refine ⟨fun p hp => ?_, fun p hp => ?_, fun p hp => ?_, fun p hp q hq e => ?_, filter_nodup hn⟩
  · obtain ⟨h1, h2⟩ := List.mem_filter.1 hp
    exact List.mem_filter.2 ⟨h1, keepC_iff.2 fun h => hT _ (vis_iff.1 h2 h)⟩
  · obtain ⟨h1, h2⟩ := List.mem_filter.1 hp
    exact List.mem_filter.2 ⟨(List.mem_filter.1 h1).1, h2⟩
  · obtain ⟨h1, h2⟩ := List.mem_filter.1 hp
    cases hv : vis tr base n i p.1 with
    | true => exact .inl (List.mem_filter.2 ⟨h1, hv⟩)
    | false => exact .inr (List.mem_filter.2 ⟨List.mem_filter.2 ⟨h1, by simp [hv]⟩, h2⟩)
  · obtain ⟨h1, h2⟩ := List.mem_filter.1 hp
    obtain ⟨h3, _⟩ := List.mem_filter.1 hq
    obtain ⟨h4, h5⟩ := List.mem_filter.1 h3
    have := key_unique hn h1 h4 e
    subst this
    rw [h2] at h5
    simp at h5

structure RecOK (P : Program) (Γ : List (Nat × AV)) (ops : List Oper) (tr : List (List Nat)) (base : Nat) (s0 s : St) (r : Rec) (o : Oper) : Prop where
  op : ops[r.i]? = some o
  want : ∀ s' : St, s'.sl = r.sl → aWant ops s' o.guard = some r.want
  dst : ∀ d, o.dst = some d → d < s0.nt ∧ lk s.sl d = some r.v
  lookT : ∀ t ∈ looks ops o, ∀ j ∈ T tr r.i, ∀ oj, ops[j]? = some oj → oj.dst = some t → lk r.sl t = lk s.sl t
  look0 : ∀ t ∈ looks ops o, (∀ j ∈ T tr r.i, ∀ oj, ops[j]? = some oj → oj.dst ≠ some t) → lk r.sl t = lk s0.sl t
  no : r.want = false → r.v = .tup []
  neff : r.want = true → kind P o.op ≠ .eff
  noal : (r.want = false ∨ kind P o.op ≠ .al) → ∀ p ∈ s.mem, p.1 ≠ base + r.i
  pur : r.want = true → kind P o.op = .pure → ∃ m k, aStep P Γ { sl := r.sl, mem := seen tr base ops.length r.i s.mem, nx := s.nx, nt := s.nt } o.op = some (r.v, m, k)
  alc : r.want = true → kind P o.op = .al → ∃ b k k', aStep P Γ { sl := r.sl, mem := [], nx := base + r.i, nt := s.nt } o.op = some (r.v, [(k, b)], k') ∧ (base + r.i, b) ∈ s.mem

structure Inv (P : Program) (Γ : List (Nat × AV)) (H : Hk) (ops : List Oper) (ord : List Nat) (tr : List (List Nat)) (base B : Nat) (D0 X : Nat → Prop) (K : St → Prop) (s0 : St) (ρ0 : Nat → Loc) (w0 : World)
    (L : Nat → Bool) (pre rest : List Nat) (recs : List Rec) (s : St) (ρ : Nat → Loc) (a : Act) (w : World) : Prop where
  eq : ord = pre ++ rest
  run : vrun P Γ H ops tr base K rest recs s
  Lpre : ∀ i, L i = true → i ∈ pre
  effL : ∀ i ∈ pre, isEffAt P ops i = true → L i = true
  clos : ∀ i o, L i = true → ops[i]? = some o → ∀ j ∈ preds o, L j = true
  nx : base + ops.length ≤ s.nx
  nt : s.nt = s0.nt
  mr : MR Γ X ρ (DN D0 B base ops.length L s.nx) (memC L base ops.length s.mem) w
  nod : (s.mem.map (·.1)).Nodup
  low : ∀ p ∈ s.mem, p.1 < s.nx
  def0 : a.defers = []
  size : a.tmps.size = s0.nt
  slotL : ∀ i o d v, L i = true → ops[i]? = some o → o.dst = some d → lk s.sl d = some v → VR ρ (DN D0 B base ops.length L s.nx) (OX X ρ (memC L base ops.length s.mem)) w v (a.tmps.getD d undef)
  slot0 : ∀ t v, (∀ i o, L i = true → ops[i]? = some o → o.dst ≠ some t) → lk s0.sl t = some v → VR ρ (DN D0 B base ops.length L s.nx) (OX X ρ (memC L base ops.length s.mem)) w v (a.tmps.getD t undef)
  virt0 : ∀ t, (∀ i ∈ pre, ∀ o, ops[i]? = some o → o.dst ≠ some t) → lk s.sl t = lk s0.sl t
  recs : ∀ i ∈ pre, L i = false → ∃ r ∈ recs, r.i = i ∧ ∃ o, RecOK P Γ ops tr base s0 s r o
  alid : ∀ p ∈ s.mem, base ≤ p.1 → p.1 < base + ops.length → p.1 - base ∈ pre
  ext : Ext D0 ρ0 s0.mem w0 ρ (DN D0 B base ops.length L s.nx) (memC L base ops.length s.mem) w
end Go.Ax
