/- Regions that draw their order, fifth part: running ahead. -/
import Derived.Test.YtoanjpeoclkjgaaDoorAxDraw4
namespace Go.Ax
open Go
set_option linter.unusedVariables false

theorem aWant_sl {ops : List Oper} {s s' : St} (h : s'.sl = s.sl) (g : Option (Nat × Bool)) : aWant ops s' g = aWant ops s g := by
  unfold aWant
  rw [h]

theorem stepSt_parts {s s' : St} {d : Option Nat} {v : AV} {mem : Mem} {nx : Nat} (h : stepSt s d v mem nx = some s') :
    s'.mem = mem ∧ s'.nx = nx ∧ s'.nt = s.nt ∧ (∀ t, d ≠ some t → lk s'.sl t = lk s.sl t) ∧ ∀ t, d = some t → t < s.nt ∧ lk s'.sl t = some v := by
  unfold stepSt at h
  split at h
  · cases h; exact ⟨rfl, rfl, rfl, fun _ _ => rfl, fun t e => by cases e⟩
  · rename_i d'
    split at h
    · rename_i hlt
      have hlt : d' < s.nt := Nat.le_of_ble_eq_true hlt
      cases h
      refine ⟨rfl, rfl, rfl, fun t e => ?_, fun t e => ?_⟩
      · simp only [lk_up]
        rw [if_neg (fun e' => e (by rw [e']))]
      · cases e
        exact ⟨hlt, by simp only [lk_up, if_true]⟩
    · cases h

section
variable {P : Program} {Γ : List (Nat × AV)} {H : Hk} {ops : List Oper} {ord : List Nat} {tr : List (List Nat)} {base B : Nat} {D0 X : Nat → Prop} {K : St → Prop} {s0 : St} {ρ0 : Nat → Loc} {w0 : World}
  {L : Nat → Bool} {pre rest : List Nat} {recs : List Rec} {s : St} {ρ : Nat → Loc} {a : Act} {w : World}

theorem not_pre (st : Stat P ops ord tr) {i : Nat} {r : List Nat} (e : ord = pre ++ i :: r) : i ∉ pre ∧ i ∉ r ∧ ∀ k ∈ r, k ∉ pre := by
  have hn := st.nod
  rw [e, List.nodup_append] at hn
  obtain ⟨h1, h2, h3⟩ := hn
  exact ⟨fun h => h3 i h i (List.mem_cons_self ..) rfl, (List.nodup_cons.1 h2).1, fun k hk h => h3 k h k (List.mem_cons_of_mem _ hk) rfl⟩

theorem T_pre (st : Stat P ops ord tr) {i : Nat} {r : List Nat} (e : ord = pre ++ i :: r) {k : Nat} (hk : k ∈ pre) : ∀ x ∈ T tr k, x ∈ pre := by
  intro x hx
  obtain ⟨p1, p2, rfl⟩ := List.append_of_mem hk
  have := st.tpre p1 k (p2 ++ i :: r) (by rw [e]; simp) x hx
  exact List.mem_append_left _ this

/-- One operation ahead. -/
theorem Inv.ahead (st : Stat P ops ord tr) {i : Nat} {r : List Nat} (h : Inv P Γ H ops ord tr base B D0 X K s0 ρ0 w0 L pre (i :: r) recs s ρ a w) (hne : isEffAt P ops i = false) :
    ∃ recs' s', Inv P Γ H ops ord tr base B D0 X K s0 ρ0 w0 L (pre ++ [i]) r recs' s' ρ a w := by
  obtain ⟨hi1, hi2, hi3⟩ := not_pre st h.eq
  have hLi : L i = false := by
    cases hL : L i with
    | false => rfl
    | true => exact absurd (h.Lpre i hL) hi1
  have hilt : i < ops.length := st.lt i (by rw [h.eq]; simp)
  have hrun := h.run
  simp only [vrun] at hrun
  split at hrun
  · exact hrun.elim
  · rename_i o ho
    have hneff : kind P o.op ≠ .eff := by
      intro e
      simp [isEffAt, ho, e] at hne
    -- what is common to the three ways
    have main : ∀ (want : Bool) (v : AV) (m' : Mem) (s' : St), aWant ops s o.guard = some want → stepSt s o.dst v m' s.nx = some s' → (want = false → v = .tup []) →
        (m' = s.mem ∨ ∃ b, m' = (base + i, b) :: s.mem ∧ want = true ∧ kind P o.op = .al ∧ ∃ k k', aStep P Γ { s with mem := [], nx := base + i } o.op = some (v, [(k, b)], k')) →
        (want = true → kind P o.op = .al → m' ≠ s.mem) →
        (want = true → kind P o.op = .pure → m' = s.mem ∧ ∃ m k, aStep P Γ { s with mem := seen tr base ops.length i s.mem } o.op = some (v, m, k)) →
        vrun P Γ H ops tr base K r (⟨i, s.sl, want, v⟩ :: recs) s' →
        Inv P Γ H ops ord tr base B D0 X K s0 ρ0 w0 L (pre ++ [i]) r (⟨i, s.sl, want, v⟩ :: recs) s' ρ a w := by
      intro want v m' s' hw hst hno hm hal hpur hr
      obtain ⟨e1, e2, e3, e4, e5⟩ := stepSt_parts hst
      have hnokey : ∀ p ∈ s.mem, p.1 ≠ base + i := by
        intro p hp e
        have := h.alid p hp (by omega) (by omega)
        rw [e] at this
        simp at this
        exact hi1 this
      have hmem : memC L base ops.length s'.mem = memC L base ops.length s.mem := by
        rw [e1]
        rcases hm with rfl | ⟨b, rfl, _⟩
        · rfl
        · unfold memC
          rw [List.filter_cons, if_neg]
          simp only [keepC]
          have a1 : Nat.ble base (base + i) = true := Nat.ble_eq_true_of_le (by omega)
          have a2 : Nat.blt (base + i) (base + ops.length) = true := Nat.ble_eq_true_of_le (by omega)
          rw [a1, a2]
          simp [hLi]
      have hseen : ∀ k ∈ pre, seen tr base ops.length k s'.mem = seen tr base ops.length k s.mem := by
        intro k hk
        rw [e1]
        rcases hm with rfl | ⟨b, rfl, _⟩
        · rfl
        · unfold seen
          rw [List.filter_cons, if_neg]
          simp only
          rw [Bool.not_eq_true]
          cases hv : vis tr base ops.length k (base + i) with
          | false => rfl
          | true =>
            have := vis_iff.1 hv ⟨by omega, by omega⟩
            simp at this
            exact absurd (T_pre st h.eq hk i this) hi1
      have hsub : ∀ p ∈ s.mem, p ∈ s'.mem := by
        intro p hp
        rw [e1]
        rcases hm with rfl | ⟨b, rfl, _⟩
        · exact hp
        · exact List.mem_cons_of_mem _ hp
      have hback : ∀ p ∈ s'.mem, p ∈ s.mem ∨ p.1 = base + i := by
        intro p hp
        rw [e1] at hp
        rcases hm with rfl | ⟨b, rfl, _⟩
        · exact .inl hp
        · rcases List.mem_cons.1 hp with rfl | hp
          · exact .inr rfl
          · exact .inl hp
      have hdk : ∀ k ok d, k ≠ i → ops[k]? = some ok → ok.dst = some d → o.dst ≠ some d := fun k ok d hki hok hd e => hki (st.dst k i ok o d hok ho hd e)
      refine ⟨by rw [h.eq]; simp, hr, fun k hk => List.mem_append_left _ (h.Lpre k hk), ?_, h.clos, by rw [e2]; exact h.nx, by rw [e3]; exact h.nt, ?_, ?_, ?_, h.def0, h.size, ?_, ?_, ?_, ?_, ?_, ?_⟩
      · intro k hk he
        rcases List.mem_append.1 hk with hk | hk
        · exact h.effL k hk he
        · simp at hk; subst hk; rw [hne] at he; cases he
      · rw [e2, hmem]; exact h.mr
      · rw [e1]
        rcases hm with rfl | ⟨b, rfl, _⟩
        · exact h.nod
        · simp only [List.map_cons, List.nodup_cons]
          refine ⟨fun hm => ?_, h.nod⟩
          obtain ⟨p, hp, e⟩ := List.mem_map.1 hm
          exact hnokey p hp e
      · intro p hp
        rw [e2]
        rcases hback p hp with hp | e
        · exact h.low p hp
        · have := h.nx; omega
      · intro k ok d v' hk hok hd hl
        rw [e2, hmem]
        have hki : k ≠ i := fun e => by rw [e, hLi] at hk; cases hk
        rw [e4 d (hdk k ok d hki hok hd)] at hl
        exact h.slotL k ok d v' hk hok hd hl
      · intro t v' ht hl
        rw [e2, hmem]
        exact h.slot0 t v' ht hl
      · intro t ht
        rw [e4 t (ht i (by simp) o ho)]
        exact h.virt0 t fun k hk ok hok => ht k (List.mem_append_left _ hk) ok hok
      · intro k hk hLk
        rcases List.mem_append.1 hk with hk | hk
        · obtain ⟨rc, hrc, rfl, ok, hok⟩ := h.recs k hk hLk
          have hki : rc.i ≠ i := fun e => hi1 (e ▸ hk)
          refine ⟨rc, List.mem_cons_of_mem _ hrc, rfl, ok, hok.op, hok.want, fun d hd => ?_, fun t ht j hj oj hoj hdj => ?_, hok.look0, hok.no, hok.neff, fun hc p hp => ?_, fun hw' hk' => ?_, fun hw' hk' => ?_⟩
          · rw [e4 d (hdk _ ok d hki hok.op hd)]; exact hok.dst d hd
          · have hji : j ≠ i := fun e => hi1 (e ▸ T_pre st h.eq hk j hj)
            rw [e4 t (hdk j oj t hji hoj hdj)]
            exact hok.lookT t ht j hj oj hoj hdj
          · rcases hback p hp with hp | e
            · exact hok.noal hc p hp
            · intro e'; omega
          · rw [hseen _ hk, e2, e3]; exact hok.pur hw' hk'
          · obtain ⟨b, k1, k2, q1, q2⟩ := hok.alc hw' hk'
            exact ⟨b, k1, k2, by rw [e3]; exact q1, hsub _ q2⟩
        · simp at hk
          subst hk
          refine ⟨⟨k, s.sl, want, v⟩, List.mem_cons_self .., rfl, o, ho, fun s2 hs2 => ?_, fun d hd => ?_, fun t ht j hj oj hoj hdj => ?_, fun t ht hnj => ?_, hno, fun _ => hneff, fun hc p hp => ?_, fun hw' hk' => ?_, fun hw' hk' => ?_⟩
          · rw [aWant_sl hs2]; exact hw
          · obtain ⟨q1, q2⟩ := e5 d hd
            exact ⟨by rw [← h.nt]; exact q1, q2⟩
          · have hjk : j ≠ k := fun e => hi1 (e ▸ st.tpre pre k r h.eq j hj)
            exact (e4 t (hdk j oj t hjk hoj hdj)).symm
          · refine h.virt0 t fun j hj oj hoj hdj => ?_
            have hjk : j ≠ k := fun e => hi1 (e ▸ hj)
            rcases st.look k j o oj t (Ne.symm hjk) ho hoj hdj ht with h1 | h1
            · exact hnj j h1 oj hoj hdj
            · exact hi1 (T_pre st h.eq hj k h1)
          · rcases hback p hp with hp | e
            · exact hnokey p hp
            · exfalso
              rcases hm with rfl | ⟨b, _, h1, h2, _⟩
              · rw [e1] at hp; exact hnokey p hp e
              · rcases hc with hc | hc
                · simp only at hc; rw [h1] at hc; cases hc
                · exact hc h2
          · obtain ⟨q1, m, k', q2⟩ := hpur hw' hk'
            refine ⟨m, k', ?_⟩
            simp only
            rw [e1, q1, e2, e3]
            exact q2
          · rcases hm with rfl | ⟨b, rfl, h1, h2, k1, k2, q⟩
            · exact absurd rfl (hal hw' hk')
            · refine ⟨b, k1, k2, ?_, by rw [e1]; exact List.mem_cons_self ..⟩
              simp only
              rw [e3]
              exact q
      · intro p hp h1 h2
        rcases hback p hp with hp | e
        · exact List.mem_append_left _ (h.alid p hp h1 h2)
        · rw [e]; simp
      · rw [e2, hmem]; exact h.ext
    split at hrun
    · exact hrun.elim
    · rename_i hw
      split at hrun
      · rename_i s' hst
        exact ⟨_, s', main false _ s.mem s' hw hst (fun _ => rfl) (.inl rfl) (fun e => by cases e) (fun e => by cases e) hrun⟩
      · exact hrun.elim
    · rename_i hw
      split at hrun
      · rename_i hk
        split at hrun
        · rename_i v m k hstep
          split at hrun
          · rename_i s' hst
            exact ⟨_, s', main true v s.mem s' hw hst (fun e => by cases e) (.inl rfl) (fun _ e => by rw [hk] at e; cases e) (fun _ _ => ⟨rfl, m, k, hstep⟩) hrun⟩
          · exact hrun.elim
        · exact hrun.elim
      · rename_i hk
        split at hrun
        · rename_i v k b k' hstep
          split at hrun
          · rename_i s' hst
            exact ⟨_, s', main true v ((base + i, b) :: s.mem) s' hw hst (fun e => by cases e) (.inr ⟨b, rfl, rfl, hk, k, k', hstep⟩) (fun _ _ e => by simpa using congrArg List.length e) (fun _ e => by rw [hk] at e; cases e) hrun⟩
          · exact hrun.elim
        · exact hrun.elim
      · rename_i hk
        exact absurd hk hneff

/-- As far ahead as there is no effect. -/
theorem Inv.far (st : Stat P ops ord tr) : ∀ {rest pre : List Nat} {recs : List Rec} {s : St}, Inv P Γ H ops ord tr base B D0 X K s0 ρ0 w0 L pre rest recs s ρ a w →
    ∃ pre' rest' recs' s', Inv P Γ H ops ord tr base B D0 X K s0 ρ0 w0 L pre' rest' recs' s' ρ a w ∧ ∀ x r, rest' = x :: r → isEffAt P ops x = true
  | [], pre, recs, s, h => ⟨pre, [], recs, s, h, fun x r e => by cases e⟩
  | i :: r, pre, recs, s, h => by
    cases he : isEffAt P ops i with
    | true => exact ⟨pre, i :: r, recs, s, h, fun x r' e => by cases e; exact he⟩
    | false =>
      obtain ⟨recs', s', h'⟩ := h.ahead st he
      exact Inv.far st h'
end
end Go.Ax
