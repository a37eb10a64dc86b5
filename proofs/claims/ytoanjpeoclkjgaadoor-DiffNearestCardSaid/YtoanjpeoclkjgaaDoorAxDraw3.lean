/- Regions that draw their order, third part: what the static conditions give; the virtual run. -/
import Derived.Test.YtoanjpeoclkjgaaDoorAxDraw2
namespace Go.Ax
open Go
set_option linter.unusedVariables false

def T (tr : List (List Nat)) (i : Nat) : List Nat := (tr[i]?).getD []

structure Stat (P : Program) (ops : List Oper) (ord : List Nat) (tr : List (List Nat)) : Prop where
  tok : TrOK ops tr
  lt : ∀ i ∈ ord, i < ops.length
  full : ∀ i, i < ops.length → i ∈ ord
  resp : ∀ pre i r, ord = pre ++ i :: r → ∀ o, ops[i]? = some o → ∀ j ∈ preds o, j ∈ pre
  eff : ∀ pre x r, ord = pre ++ x :: r → isEffAt P ops x = true → ∀ i ∈ r, x ∈ T tr i
  nod : ord.Nodup
  dst : ∀ (i j : Nat) (oi oj : Oper) (d : Nat), ops[i]? = some oi → ops[j]? = some oj → oi.dst = some d → oj.dst = some d → i = j
  look : ∀ (i j : Nat) (oi oj : Oper) (d : Nat), i ≠ j → ops[i]? = some oi → ops[j]? = some oj → oj.dst = some d → d ∈ looks ops oi → j ∈ T tr i ∨ i ∈ T tr j

theorem mem_upto : ∀ {n i : Nat}, i < n → i ∈ upto n
  | n + 1, i, h => by
    simp only [upto, List.mem_append, List.mem_singleton]
    rcases Nat.lt_or_ge i n with h' | h'
    · exact .inl (mem_upto h')
    · exact .inr (by omega)

theorem okSeq_sound {P : Program} {ops : List Oper} {tr : List (List Nat)} : ∀ {done ord : List Nat}, okSeq P ops tr done ord = true → done.Nodup →
    (∀ i ∈ ord, i < ops.length ∧ i ∉ done) ∧ ord.Nodup ∧ (∀ pre i r, ord = pre ++ i :: r → (∀ o, ops[i]? = some o → ∀ j ∈ preds o, j ∈ pre ∨ j ∈ done) ∧ (isEffAt P ops i = true → ∀ k ∈ r, i ∈ T tr k))
  | done, [], h, hn => ⟨by simp, List.nodup_nil, fun pre i r e => by simp at e⟩
  | done, i :: r, h, hn => by
    simp only [okSeq, Bool.and_eq_true] at h
    obtain ⟨h1, h2, h3, h4, h5⟩ := h
    have h1 : i ∉ done := fun hm => by rw [mem1_iff.2 hm] at h1; simp at h1
    have h2 : i < ops.length := Nat.le_of_ble_eq_true h2
    obtain ⟨k1, k2, k3⟩ := okSeq_sound h5 (List.nodup_cons.2 ⟨h1, hn⟩)
    refine ⟨fun k hk => ?_, List.nodup_cons.2 ⟨fun hm => (k1 i hm).2 (List.mem_cons_self ..), k2⟩, fun pre x t e => ?_⟩
    · rcases List.mem_cons.1 hk with rfl | hk
      · exact ⟨h2, h1⟩
      · exact ⟨(k1 k hk).1, fun hm => (k1 k hk).2 (List.mem_cons_of_mem _ hm)⟩
    · cases pre with
      | nil =>
        simp at e
        obtain ⟨rfl, rfl⟩ := e
        refine ⟨fun o ho j hj => ?_, fun he k hk => ?_⟩
        · unfold readyAt at h3
          rw [ho] at h3
          exact .inr (subset1_iff h3 j hj)
        · rw [he] at h4
          simp only [List.all_eq_true] at h4
          exact mem1_iff.1 (h4 k hk)
      | cons p pre =>
        simp at e
        obtain ⟨rfl, rfl⟩ := e
        obtain ⟨q1, q2⟩ := k3 pre x t rfl
        refine ⟨fun o ho j hj => ?_, q2⟩
        rcases q1 o ho j hj with h | h
        · exact .inl (List.mem_cons_of_mem _ h)
        · rcases List.mem_cons.1 h with rfl | h
          · exact .inl (List.mem_cons_self ..)
          · exact .inr h

theorem okDraw_sound {P : Program} {ops : List Oper} {ord : List Nat} (h : okDraw P ops ord = true) : Stat P ops ord (trs ops []) := by
  simp only [okDraw, Bool.and_eq_true] at h
  obtain ⟨h1, h2, h3⟩ := h
  obtain ⟨k1, k2, k3⟩ := okSeq_sound h2 List.nodup_nil
  have hsl : ∀ (i j : Nat) (oi oj : Oper) (d : Nat), i ≠ j → ops[i]? = some oi → ops[j]? = some oj → oj.dst = some d → (∀ d', oi.dst = some d' → d ≠ d') ∧ (d ∈ looks ops oi → j ∈ T (trs ops []) i ∨ i ∈ T (trs ops []) j) := by
    intro i j oi oj d hij hi hj hd
    have hil : i < ops.length := by
      rcases Nat.lt_or_ge i ops.length with h' | h'
      · exact h'
      · rw [List.getElem?_eq_none h'] at hi; cases hi
    have hjl : j < ops.length := by
      rcases Nat.lt_or_ge j ops.length with h' | h'
      · exact h'
      · rw [List.getElem?_eq_none h'] at hj; cases hj
    have a1 := List.all_eq_true.1 h3 j (mem_upto hjl)
    simp only [hj, hd] at a1
    have a2 := List.all_eq_true.1 a1 i (mem_upto hil)
    simp only [hi, Bool.or_eq_true, Bool.and_eq_true] at a2
    rcases a2 with a2 | ⟨a2, a3⟩
    · exact absurd (Nat.eq_of_beq_eq_true a2) hij
    · refine ⟨fun d' hd' e => ?_, fun hl => ?_⟩
      · rw [hd'] at a2
        subst e
        simp at a2
      · rcases a3 with a3 | a3 | a3
        · rw [mem1_iff.2 hl] at a3; simp at a3
        · exact .inl (mem1_iff.1 a3)
        · exact .inr (mem1_iff.1 a3)
  refine ⟨trs_ok' ops, fun i hi => (k1 i hi).1, fun i hi => subset1_iff h1 i (mem_upto hi), fun pre i r e o ho j hj => ?_, fun pre x r e he => (k3 pre x r e).2 he, k2, ?_, ?_⟩
  · rcases (k3 pre i r e).1 o ho j hj with h | h
    · exact h
    · simp at h
  · intro i j oi oj d hi hj hdi hdj
    refine Classical.byContradiction fun hij => ?_
    exact (hsl i j oi oj d hij hi hj hdj).1 d hdi rfl
  · intro i j oi oj d hij hi hj hd hl
    exact (hsl i j oi oj d hij hi hj hd).2 hl

/-- What the table names stands earlier in the order. -/
theorem Stat.tpre {P : Program} {ops : List Oper} {ord : List Nat} {tr : List (List Nat)} (h : Stat P ops ord tr) : ∀ pre i r, ord = pre ++ i :: r → ∀ x ∈ T tr i, x ∈ pre := by
  intro pre i r e x hx
  have hcl := h.tok.closed (L := fun k => k ∈ pre ++ [i]) (fun k o hk ho j hj => by
    rcases List.mem_append.1 hk with hk | hk
    · obtain ⟨p1, p2, rfl⟩ := List.append_of_mem hk
      have := h.resp p1 k (p2 ++ i :: r) (by rw [e]; simp) o ho j hj
      exact List.mem_append_left _ (List.mem_append_left _ this)
    · simp at hk
      subst hk
      exact List.mem_append_left _ (h.resp pre k r e o ho j hj)) i (by simp) x hx
  rcases List.mem_append.1 hcl with h1 | h1
  · exact h1
  · exfalso
    simp at h1
    subst h1
    -- an operation is not before itself: by the table's own order
    have key : ∀ k x', x' ∈ T tr k → ∀ p q, ord = p ++ k :: q → x' ∈ p := by
      intro k
      induction k using Nat.strongRecOn with
      | _ k ih =>
        intro x' hx' p q ep
        obtain ⟨o, ho, j, hj, h'⟩ := h.tok k x' hx'
        have hjp := h.resp p k q ep o ho j hj
        rcases h' with rfl | ⟨h1, h2⟩
        · exact hjp
        · obtain ⟨p1, p2, rfl⟩ := List.append_of_mem hjp
          have := ih j h1 x' h2 p1 (p2 ++ k :: q) (by rw [ep]; simp)
          exact List.mem_append_left _ this
    have := key x x hx pre r e
    have hnd := h.nod
    rw [e] at hnd
    rw [List.nodup_append] at hnd
    exact hnd.2.2 x this x (List.mem_cons_self ..) rfl

/-- What is kept of an operation that was run in advance. -/
structure Rec where
  i : Nat
  sl : List (Nat × AV)
  want : Bool
  v : AV

/-- Is a name to be seen by operation i? (A block that an operation of the region makes is seen by those behind it alone.) -/
def vis (tr : List (List Nat)) (base n i id : Nat) : Bool :=
  match Nat.ble base id && Nat.blt id (base + n) with
  | true => mem1 (id - base) (T tr i)
  | false => true

def seen (tr : List (List Nat)) (base n i : Nat) (m : Mem) : Mem := m.filter fun p => vis tr base n i p.1

def unseen (tr : List (List Nat)) (base n i : Nat) (m : Mem) : Mem := m.filter fun p => !vis tr base n i p.1

def hasKey (k : Nat) : Mem → Bool
  | [] => false
  | p :: r => match Nat.beq p.1 k with
    | true => true
    | false => hasKey k r

theorem hasKey_iff {k : Nat} : ∀ {m : Mem}, hasKey k m = true ↔ ∃ p ∈ m, p.1 = k
  | [] => by simp [hasKey]
  | p :: r => by
    simp only [hasKey]
    cases h : Nat.beq p.1 k with
    | true => simp [Nat.eq_of_beq_eq_true h]
    | false =>
      have := Nat.ne_of_beq_eq_false h
      simp [this, hasKey_iff]

/-- What was set aside, put back (but for a name that is in use by now). -/
def back (m l : Mem) : Mem := l.filter fun p => !hasKey p.1 m

def chk (P : Program) (Γ : List (Nat × AV)) (ops : List Oper) (tr : List (List Nat)) (base x : Nat) (s : St) : List Rec → Prop
  | [] => True
  | r :: rs => (mem1 r.i (T tr x) = false → r.want = true → ∀ o, ops[r.i]? = some o → kind P o.op = .pure → still o.op = false →
      ∃ m k, aStep P Γ { sl := r.sl, mem := seen tr base ops.length r.i s.mem, nx := s.nx, nt := s.nt } o.op = some (r.v, m, k)) ∧ chk P Γ ops tr base x s rs

def vrun (P : Program) (Γ : List (Nat × AV)) (H : Hk) (ops : List Oper) (tr : List (List Nat)) (base : Nat) (K : St → Prop) : List Nat → List Rec → St → Prop
  | [], recs, s => K s
  | i :: r, recs, s => match ops[i]? with
    | none => False
    | some o => match aWant ops s o.guard with
      | none => False
      | some false => match stepSt s o.dst (.tup []) s.mem s.nx with
        | some s' => vrun P Γ H ops tr base K r (⟨i, s.sl, false, .tup []⟩ :: recs) s'
        | none => False
      | some true => match kind P o.op with
        | .pure => match aStep P Γ { s with mem := seen tr base ops.length i s.mem } o.op with
          | some (v, _, _) => match stepSt s o.dst v s.mem s.nx with
            | some s' => vrun P Γ H ops tr base K r (⟨i, s.sl, true, v⟩ :: recs) s'
            | none => False
          | none => False
        | .al => match aStep P Γ { s with mem := [], nx := base + i } o.op with
          | some (v, [(_, b)], _) => match stepSt s o.dst v ((base + i, b) :: s.mem) s.nx with
            | some s' => vrun P Γ H ops tr base K r (⟨i, s.sl, true, v⟩ :: recs) s'
            | none => False
          | _ => False
        | .eff => match aStep P Γ { s with mem := seen tr base ops.length i s.mem } o.op with
          | some (v, m, nx) => match stepSt s o.dst v (m ++ back m (unseen tr base ops.length i s.mem)) nx with
            | some s' => chk P Γ ops tr base i s' recs ∧ vrun P Γ H ops tr base K r recs s'
            | none => False
          | none => match aCall P Γ s o.op with
            | some (F, args) => H.call F args (seen tr base ops.length i s.mem) s.nx fun v m nx => match stepSt s o.dst v (m ++ back m (unseen tr base ops.length i s.mem)) nx with
              | some s' => chk P Γ ops tr base i s' recs ∧ vrun P Γ H ops tr base K r recs s'
              | none => False
            | none => False

/-- A region that draws its order. -/
def aDraw (P : Program) (Γ : List (Nat × AV)) (H : Hk) (ops : List Oper) (s : St) (K : St → Prop) : Prop :=
  match okDraw P ops (eager P ops ops.length [] (upto ops.length)) with
  | true => vrun P Γ H ops (trs ops []) s.nx K (eager P ops ops.length [] (upto ops.length)) [] { s with nx := s.nx + ops.length }
  | false => False
end Go.Ax
