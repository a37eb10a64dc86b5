/- Regions that draw their order, sixth part: what the model does next. -/
import Derived.Test.YtoanjpeoclkjgaaDoorAxDraw5
namespace Go.Ax
open Go
set_option linter.unusedVariables false

/-- An operation that makes one block. -/
theorem aStep_al {P : Program} {Γ : List (Nat × AV)} {s : St} {op : Op} (hk : kind P op = .al) {v : AV} {m : Mem} {n : Nat} (h : aStep P Γ s op = some (v, m, n)) : n = s.nx + 1 ∧ ∃ b, m = (s.nx, b) :: s.mem := by
  cases op <;> simp only [kind] at hk <;> first | (cases hk; done) | skip
  case alloc t =>
    simp only [aStep] at h
    unfold aAlloc at h
    repeat (split at h <;> first | (cases h; done) | skip)
    cases h; exact ⟨rfl, _, rfl⟩
  case box t x =>
    simp only [aStep] at h
    split at h
    · unfold aBox at h
      repeat (split at h <;> first | (cases h; done) | skip)
      cases h; exact ⟨rfl, _, rfl⟩
    · cases h
  case buildSlice t l p =>
    simp only [aStep] at h
    split at h
    · unfold aBuildSlice at h
      repeat (split at h <;> first | (cases h; done) | skip)
      cases h; exact ⟨rfl, _, rfl⟩
    · cases h
  case makeSlice t x y =>
    simp only [aStep] at h
    split at h
    · split at h
      · unfold aMake at h
        repeat (split at h <;> first | (cases h; done) | skip)
        cases h; exact ⟨rfl, _, rfl⟩
      · cases h
    · cases h
  case convert src dst x =>
    exfalso
    split at hk <;> cases hk
  case call c =>
    exfalso
    split at hk <;> cases hk

def addL (L : Nat → Bool) (i : Nat) : Nat → Bool := fun k => Nat.beq k i || L k

theorem addL_self {L : Nat → Bool} {i : Nat} : addL L i i = true := by simp [addL]
theorem addL_old {L : Nat → Bool} {i k : Nat} (h : L k = true) : addL L i k = true := by simp [addL, h]
theorem addL_ne {L : Nat → Bool} {i k : Nat} (h : k ≠ i) : addL L i k = L k := by simp [addL, nbeq_ne h]
theorem addL_iff {L : Nat → Bool} {i k : Nat} : addL L i k = true ↔ k = i ∨ L k = true := by
  by_cases h : k = i
  · subst h; simp [addL]
  · simp [addL, nbeq_ne h, h]

theorem put_ne {a : Act} {d : Option Nat} {x : Value} {t : Nat} (h : d ≠ some t) : (a.put d x).tmps.getD t undef = a.tmps.getD t undef := by
  cases d with
  | none => rfl
  | some d =>
    have : d ≠ t := fun e => h (by rw [e])
    simp [Act.put, Array.getElem?_setIfInBounds_ne this]

theorem put_eq {a : Act} {d : Nat} {x : Value} (h : d < a.tmps.size) : (a.put (some d) x).tmps.getD d undef = x := by
  simp [Act.put, h]

section
variable {P : Program} {Γ : List (Nat × AV)} {H : Hk} {ops : List Oper} {ord : List Nat} {tr : List (List Nat)} {base B : Nat} {D0 X : Nat → Prop} {K : St → Prop} {s0 : St} {ρ0 : Nat → Loc} {w0 : World}
  {L : Nat → Bool} {pre rest : List Nat} {recs : List Rec} {s : St} {ρ ρ' : Nat → Loc} {a : Act} {w w' : World}

theorem DN_add {n cur cur' i : Nat} (hc : cur ≤ cur') : ∀ id, DN D0 B base n L cur id → DN D0 B base n (addL L i) cur' id := by
  rintro id (h | h | ⟨k, h1, h2, h3⟩ | ⟨h1, h2⟩)
  · exact .inl h
  · exact .inr (.inl h)
  · exact .inr (.inr (.inl ⟨k, h1, h2, addL_old h3⟩))
  · exact .inr (.inr (.inr ⟨h1, by omega⟩))

theorem memC_add {n i : Nat} {m : Mem} (h : ∀ p ∈ m, p.1 ≠ base + i) : memC (addL L i) base n m = memC L base n m := by
  unfold memC
  refine List.filter_congr fun p hp => ?_
  have hp := h p hp
  cases h1 : keepC L base n p.1 with
  | true => exact keepC_iff.2 fun h' => addL_old (keepC_iff.1 h1 h')
  | false =>
    cases h2 : keepC (addL L i) base n p.1 with
    | false => rfl
    | true =>
      have := keepC_iff.1 h2
      rw [← h1]
      refine (keepC_iff.2 fun h' => ?_).symm
      have h3 := this h'
      rwa [addL_ne (by omega)] at h3

/-- What is needed of an operation stands ready. -/
theorem ready_T (st : Stat P ops ord tr) (h : Inv P Γ H ops ord tr base B D0 X K s0 ρ0 w0 L pre rest recs s ρ a w) {i : Nat} {o : Oper} (ho : ops[i]? = some o) (hr : ∀ j ∈ preds o, L j = true) : (∀ j ∈ T tr i, L j = true) ∧ i ∉ T tr i := by
  have hio : i ∈ ord := st.full i (by
    rcases Nat.lt_or_ge i ops.length with h' | h'
    · exact h'
    · rw [List.getElem?_eq_none h'] at ho; cases ho)
  obtain ⟨p, q, e⟩ := List.append_of_mem hio
  have hself : i ∉ T tr i := fun h' => (not_pre st e).1 (st.tpre p i q e i h')
  refine ⟨fun j hj => ?_, hself⟩
  have := st.tok.closed (L := fun k => k = i ∨ L k = true) (fun k ok hk hok x hx => by
    rcases hk with rfl | hk
    · rw [ho] at hok; cases hok; exact .inr (hr x hx)
    · exact .inr (h.clos k ok hk hok x hx)) i (.inl rfl) j hj
  rcases this with rfl | h'
  · exact absurd hj hself
  · exact h'

theorem clos_T (st : Stat P ops ord tr) (h : Inv P Γ H ops ord tr base B D0 X K s0 ρ0 w0 L pre rest recs s ρ a w) {k : Nat} (hk : L k = true) : ∀ j ∈ T tr k, L j = true :=
  st.tok.closed (L := fun k => L k = true) (fun i o hi ho j hj => h.clos i o hi ho j hj) k hk

/-- The small state of an operation that was run ahead. -/
theorem Inv.small (st : Stat P ops ord tr) (h : Inv P Γ H ops ord tr base B D0 X K s0 ρ0 w0 L pre rest recs s ρ a w) {r : Rec} {o : Oper} (hr : RecOK P Γ ops tr base s0 s r o) (hL : L r.i = false) (hrd : ∀ j ∈ preds o, L j = true) :
    ∀ t v, lk (pickSl r.sl (looks ops o)) t = some v → VR ρ (DN D0 B base ops.length L s.nx) (OX X ρ (memC L base ops.length s.mem)) w v (a.tmps.getD t undef) := by
  intro t v hl
  obtain ⟨ht, hl⟩ := lk_pick hl
  obtain ⟨hT, _⟩ := ready_T st h hr.op hrd
  by_cases hj : ∃ j ∈ T tr r.i, ∃ oj, ops[j]? = some oj ∧ oj.dst = some t
  · obtain ⟨j, hj, oj, hoj, hd⟩ := hj
    rw [hr.lookT t ht j hj oj hoj hd] at hl
    exact h.slotL j oj t v (hT j hj) hoj hd hl
  · have hnj : ∀ j ∈ T tr r.i, ∀ oj, ops[j]? = some oj → oj.dst ≠ some t := fun j h1 oj h2 h3 => hj ⟨j, h1, oj, h2, h3⟩
    rw [hr.look0 t ht hnj] at hl
    refine h.slot0 t v (fun k ok hk hok hd => ?_) hl
    have hki : r.i ≠ k := fun e => by rw [← e, hL] at hk; cases hk
    rcases st.look r.i k o ok t hki hr.op hok hd ht with h1 | h1
    · exact hnj k h1 ok hok hd
    · have := clos_T st h hk r.i h1
      rw [hL] at this
      cases this

/-- An operation that was run ahead is carried out. -/
theorem Inv.list (st : Stat P ops ord tr) (h : Inv P Γ H ops ord tr base B D0 X K s0 ρ0 w0 L pre rest recs s ρ a w) {i : Nat} {o : Oper} (hi : i ∈ pre) (hL : L i = false) (ho : ops[i]? = some o) (hrd : ∀ j ∈ preds o, L j = true)
    (hm : MR Γ X ρ' (DN D0 B base ops.length (addL L i) s.nx) (memC (addL L i) base ops.length s.mem) w')
    (mono : ∀ v x, VR ρ (DN D0 B base ops.length L s.nx) (OX X ρ (memC L base ops.length s.mem)) w v x → VR ρ' (DN D0 B base ops.length (addL L i) s.nx) (OX X ρ' (memC (addL L i) base ops.length s.mem)) w' v x)
    (ext : Ext D0 ρ (memC L base ops.length s.mem) w ρ' (DN D0 B base ops.length (addL L i) s.nx) (memC (addL L i) base ops.length s.mem) w') {x : Value}
    (hd : ∀ d v, o.dst = some d → lk s.sl d = some v → d < s0.nt ∧ VR ρ' (DN D0 B base ops.length (addL L i) s.nx) (OX X ρ' (memC (addL L i) base ops.length s.mem)) w' v x) :
    Inv P Γ H ops ord tr base B D0 X K s0 ρ0 w0 (addL L i) pre rest recs s ρ' (a.put o.dst x) w' := by
  refine ⟨h.eq, h.run, fun k hk => ?_, fun k hk he => addL_old (h.effL k hk he), fun k ok hk hok j hj => ?_, h.nx, h.nt, hm, h.nod, h.low, ?_, ?_, ?_, ?_, h.virt0, fun k hk hk' => ?_, h.alid, h.ext.trans ext⟩
  · rcases addL_iff.1 hk with rfl | hk
    · exact hi
    · exact h.Lpre k hk
  · rcases addL_iff.1 hk with rfl | hk
    · rw [ho] at hok; cases hok; exact addL_old (hrd j hj)
    · exact addL_old (h.clos k ok hk hok j hj)
  · cases hdd : o.dst <;> simpa [Act.put] using h.def0
  · cases hdd : o.dst <;> simpa [Act.put] using h.size
  · intro k ok d v hk hok hdd hl
    rcases addL_iff.1 hk with rfl | hk'
    · rw [ho] at hok; cases hok
      obtain ⟨h1, h2⟩ := hd d v hdd hl
      rw [hdd, put_eq (by rw [h.size]; exact h1)]
      exact h2
    · have hne : o.dst ≠ some d := fun e => by
        have := st.dst k i ok o d hok ho hdd e
        rw [this, hL] at hk'
        cases hk'
      rw [put_ne hne]
      exact mono _ _ (h.slotL k ok d v hk' hok hdd hl)
  · intro t v ht hl
    rw [put_ne (ht i o addL_self ho)]
    exact mono _ _ (h.slot0 t v (fun k ok hk hok => ht k ok (addL_old hk) hok) hl)
  · have hki : k ≠ i := fun e => by rw [e, addL_self] at hk'; cases hk'
    rw [addL_ne hki] at hk'
    exact h.recs k hk hk'
end
end Go.Ax
