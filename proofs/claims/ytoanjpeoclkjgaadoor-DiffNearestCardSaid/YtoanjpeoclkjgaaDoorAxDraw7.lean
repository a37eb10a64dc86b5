/- Regions that draw their order, seventh part: an operation that was run ahead; the effect at the head. -/
import Derived.Test.YtoanjpeoclkjgaaDoorAxDraw6
namespace Go.Ax
open Go
set_option linter.unusedVariables false

section
variable {P : Program} {Γ : List (Nat × AV)} {H : Hk} {ops : List Oper} {ord : List Nat} {tr : List (List Nat)} {base B : Nat} {D0 X : Nat → Prop} {K : St → Prop} {s0 : St} {ρ0 : Nat → Loc} {w0 : World}
  {L : Nat → Bool} {pre rest : List Nat} {recs : List Rec} {s : St} {ρ ρ' : Nat → Loc} {a : Act} {w w' : World}

theorem DN_lt {n cur : Nat} (hD : ∀ i, D0 i → i < B) (hB : B ≤ base) (hc : base + n ≤ cur) : ∀ id, DN D0 B base n L cur id → id < cur := by
  rintro id (h | ⟨h1, h2⟩ | ⟨k, h1, h2, h3⟩ | ⟨h1, h2⟩)
  · have := hD id h; omega
  · omega
  · omega
  · exact h2

theorem DN_at {n cur k : Nat} (hD : ∀ i, D0 i → i < B) (hB : B ≤ base) (hk : k < n) (h : DN D0 B base n L cur (base + k)) : L k = true := by
  rcases h with h | ⟨h1, h2⟩ | ⟨j, h1, h2, h3⟩ | ⟨h1, h2⟩
  · have := hD _ h; omega
  · omega
  · rwa [show k = j by omega]
  · omega

theorem lt_of_get {i : Nat} {o : Oper} (ho : ops[i]? = some o) : i < ops.length := by
  rcases Nat.lt_or_ge i ops.length with h' | h'
  · exact h'
  · rw [List.getElem?_eq_none h'] at ho; cases ho

/-- The model carries out an operation that was run ahead. -/
theorem Inv.step (st : Stat P ops ord tr) (hD : ∀ i, D0 i → i < B) (hB : B ≤ base) (h : Inv P Γ H ops ord tr base B D0 X K s0 ρ0 w0 L pre rest recs s ρ a w) {i : Nat} {o : Oper} (hi : i ∈ pre) (hL : L i = false) (ho : ops[i]? = some o)
    (hrd : ∀ j ∈ preds o, L j = true) (Q : Exit → Act → World → Prop) (K' : Act → World → Prop)
    (hK' : ∀ ρ' a' w', Inv P Γ H ops ord tr base B D0 X K s0 ρ0 w0 (addL L i) pre rest recs s ρ' a' w' → K' a' w') :
    if Region.wanted o (yielded ops.toArray a.tmps) then o.wp P a w K' Q else K' (a.put o.dst undef) w := by
  obtain ⟨r, hrm, rfl, o', hr⟩ := h.recs i hi hL
  have e := hr.op
  rw [ho] at e
  cases e
  have hsm := h.small st hr hL hrd
  obtain ⟨hT, hself⟩ := ready_T st h ho hrd
  have hil := lt_of_get ho
  -- the state of the operation, with all memory set aside
  have hp0 : Parts (memC L base ops.length s.mem) [] (memC L base ops.length s.mem) :=
    ⟨fun p hp => by simp at hp, fun p hp => hp, fun p hp => .inr hp, fun p hp => by simp at hp, by simp⟩
  obtain ⟨m0, v0⟩ := h.mr.part hp0
  have hs0 : ∀ nx, SR Γ (XR X ρ (memC L base ops.length s.mem)) ρ (DN D0 B base ops.length L s.nx) { sl := pickSl r.sl (looks ops o), mem := [], nx := nx, nt := s.nt } a w :=
    fun nx => ⟨m0, h.def0, by rw [h.size, ← h.nt], fun t v hl => v0 _ _ (hsm t v hl)⟩
  have hw : aWant ops { sl := pickSl r.sl (looks ops o), mem := [], nx := 0, nt := s.nt } o.guard = some r.want := by
    rw [← aWant_pick (s := { sl := r.sl, mem := [], nx := 0, nt := s.nt }) (o := o) rfl]
    exact hr.want _ rfl
  rw [aWant_sound (hs0 0) hw]
  have hsame : (r.want = false ∨ kind P o.op ≠ .al) → ∀ x, (∀ d v, o.dst = some d → lk s.sl d = some v → d < s0.nt ∧ VR ρ (DN D0 B base ops.length L s.nx) (OX X ρ (memC L base ops.length s.mem)) w v x) → K' (a.put o.dst x) w := by
    intro hc x hd
    obtain ⟨w1, w2, w3⟩ := h.mr.widen (DN_add (cur := s.nx) (cur' := s.nx) (i := r.i) (Nat.le_refl _))
    have em : memC (addL L r.i) base ops.length s.mem = memC L base ops.length s.mem := memC_add (hr.noal hc)
    refine hK' ρ _ w (h.list st hi hL ho hrd (by rw [em]; exact w1) (by rw [em]; exact w2) (by rw [em]; exact w3 D0 fun i hi => .inl hi) fun d v hd1 hd2 => ?_)
    rw [em]
    obtain ⟨q1, q2⟩ := hd d v hd1 hd2
    exact ⟨q1, w2 _ _ q2⟩
  cases hwant : r.want with
  | false =>
    simp only [Bool.false_eq_true, if_false]
    refine hsame (.inl hwant) undef fun d v hd hl => ?_
    obtain ⟨q1, q2⟩ := hr.dst d hd
    rw [q2] at hl
    cases hl
    rw [hr.no hwant]
    exact ⟨q1, undef_VR⟩
  | true =>
    simp only [if_true]
    cases hk : kind P o.op with
    | eff => exact absurd hk (hr.neff hwant)
    | pure =>
      obtain ⟨m, k, hstep⟩ := hr.pur hwant hk
      have hp := parts_at (base := base) (n := ops.length) h.nod hT
      obtain ⟨m1, v1⟩ := h.mr.part hp
      have hs1 : SR Γ (XR X ρ (memC L base ops.length (unseen tr base ops.length r.i s.mem))) ρ (DN D0 B base ops.length L s.nx) { sl := pickSl r.sl (looks ops o), mem := seen tr base ops.length r.i s.mem, nx := s.nx, nt := s.nt } a w :=
        ⟨m1, h.def0, by rw [h.size, ← h.nt], fun t v hl => v1 _ _ (hsm t v hl)⟩
      rw [aStep_congr (s := { sl := r.sl, mem := seen tr base ops.length r.i s.mem, nx := s.nx, nt := s.nt }) (s' := { sl := pickSl r.sl (looks ops o), mem := seen tr base ops.length r.i s.mem, nx := s.nx, nt := s.nt }) (ev_pick (ops := ops) (o := o) rfl) rfl rfl] at hstep
      obtain ⟨_, _, x, e1, e2⟩ := aPure_sound hs1 o hk hstep
      unfold Oper.wp
      rw [e1]
      simp only [Oper.upon]
      refine hsame (.inr (by rw [hk]; intro e; cases e)) x fun d v hd hl => ?_
      obtain ⟨q1, q2⟩ := hr.dst d hd
      rw [q2] at hl
      cases hl
      exact ⟨q1, e2.mono (fun _ _ => rfl) (fun _ h => h) fun b _ hb => ⟨fun h' => hb ((hp.own b).2 h'), rfl⟩⟩
    | al =>
      obtain ⟨b, k, k', hstep, hbm⟩ := hr.alc hwant hk
      rw [aStep_congr (s := { sl := r.sl, mem := [], nx := base + r.i, nt := s.nt }) (s' := { sl := pickSl r.sl (looks ops o), mem := [], nx := base + r.i, nt := s.nt }) (ev_pick (ops := ops) (o := o) rfl) rfl rfl] at hstep
      obtain ⟨e1, b', e2⟩ := aStep_al hk hstep
      simp only at e1 e2
      simp at e2
      obtain ⟨⟨rfl, rfl⟩⟩ := e2
      obtain ⟨x, n, w', ρ', r1, r2, r3, r4, r5, r6⟩ := aStep_sound (P := P) (D' := DN D0 B base ops.length (addL L r.i) s.nx)
        (fun h' => by have := DN_at hD hB hil h'; rw [hL] at this; cases this) (DN_add (Nat.le_refl _)) (hs0 (base + r.i)) o (fun _ => .inr (.inr (.inl ⟨r.i, rfl, hil, addL_self⟩))) hstep
      have hnok : ∀ q ∈ memC L base ops.length s.mem, q.1 ≠ base + r.i := by
        intro q hq e
        have := keepC_iff.1 (List.mem_filter.1 hq).2 ⟨by omega, by omega⟩
        rw [show q.1 - base = r.i by omega, hL] at this
        cases this
      obtain ⟨j1, j2, j3, j4⟩ := h.mr.join hp0 r3 (r6 _ fun i hi => hi) (fun p hp => hp) (fun p hp q hq => by
        simp at hp
        subst hp
        exact Ne.symm (hnok q hq)) (filter_nodup h.nod)
      obtain ⟨l1, l2, l3⟩ := j1.less (mem' := memC (addL L r.i) base ops.length s.mem) (fun p hp => by
        obtain ⟨p1, p2⟩ := List.mem_filter.1 hp
        by_cases hpe : p.1 = base + r.i
        · have := key_unique h.nod p1 hbm hpe
          rw [this]
          simp
        · refine List.mem_append_right _ (List.mem_filter.2 ⟨p1, keepC_iff.2 fun h' => ?_⟩)
          have := keepC_iff.1 p2 h'
          rwa [addL_ne (by omega)] at this) (filter_nodup h.nod)
      have fin : K' (a.put o.dst x) w' := by
        refine hK' ρ' _ w' (h.list st hi hL ho hrd l1 (fun v y hv => l2 _ _ (j3 _ _ hv)) ((j4 D0 fun i hi => .inl hi).trans (l3 D0 fun i hi => .inl hi)) fun d v hd hl => ?_)
        obtain ⟨q1, q2⟩ := hr.dst d hd
        rw [q2] at hl
        cases hl
        exact ⟨q1, l2 _ _ (j2 _ _ r4)⟩
      unfold Oper.wp
      rw [r1]
      rcases r2 with rfl | ⟨rfl, rfl⟩
      · exact fin
      · exact fin

/-- The operation at the head of what is left. -/
theorem Inv.head (st : Stat P ops ord tr) {i : Nat} {r : List Nat} (h : Inv P Γ H ops ord tr base B D0 X K s0 ρ0 w0 L pre (i :: r) recs s ρ a w) {o : Oper} (ho : ops[i]? = some o) (hrd : ∀ j ∈ preds o, L j = true)
    (he : isEffAt P ops i = true) {recs' : List Rec} {s' : St} {v : AV} {x : Value} {m' : Mem} {nx' : Nat} (hsub : ∀ c ∈ recs, c ∈ recs') (hst : stepSt s o.dst v m' nx' = some s') (hrun : vrun P Γ H ops tr base K r recs' s') (hnx : s.nx ≤ nx')
    (c1 : (m'.map (·.1)).Nodup) (c2 : ∀ p ∈ m', p.1 < nx') (c3 : ∀ p ∈ m', base ≤ p.1 → p.1 < base + ops.length → addL L i (p.1 - base) = true ∨ p ∈ s.mem)
    (c4 : ∀ p ∈ s.mem, base ≤ p.1 → p.1 < base + ops.length → addL L i (p.1 - base) = false → p ∈ m')
    (hm : MR Γ X ρ' (DN D0 B base ops.length (addL L i) nx') (memC (addL L i) base ops.length m') w')
    (mono : ∀ v x, VR ρ (DN D0 B base ops.length L s.nx) (OX X ρ (memC L base ops.length s.mem)) w v x → VR ρ' (DN D0 B base ops.length (addL L i) nx') (OX X ρ' (memC (addL L i) base ops.length m')) w' v x)
    (ext : Ext D0 ρ (memC L base ops.length s.mem) w ρ' (DN D0 B base ops.length (addL L i) nx') (memC (addL L i) base ops.length m') w')
    (hv : VR ρ' (DN D0 B base ops.length (addL L i) nx') (OX X ρ' (memC (addL L i) base ops.length m')) w' v x)
    (c6 : ∀ c ∈ recs, c.i ∉ T tr i → ∀ oc, RecOK P Γ ops tr base s0 s c oc → c.want = true → kind P oc.op = .pure → ∃ m k, aStep P Γ { sl := c.sl, mem := seen tr base ops.length c.i s'.mem, nx := s'.nx, nt := s'.nt } oc.op = some (c.v, m, k)) :
    Inv P Γ H ops ord tr base B D0 X K s0 ρ0 w0 (addL L i) (pre ++ [i]) r recs' s' ρ' (a.put o.dst x) w' := by
  obtain ⟨hi1, hi2, hi3⟩ := not_pre st h.eq
  have hLi : L i = false := by
    cases hL : L i with
    | false => rfl
    | true => exact absurd (h.Lpre i hL) hi1
  obtain ⟨hT, hself⟩ := ready_T st h ho hrd
  obtain ⟨e1, e2, e3, e4, e5⟩ := stepSt_parts hst
  have hdk : ∀ k ok d, k ≠ i → ops[k]? = some ok → ok.dst = some d → o.dst ≠ some d := fun k ok d hki hok hd e => hki (st.dst k i ok o d hok ho hd e)
  have hne : ∀ k ∈ pre, k ≠ i := fun k hk e => hi1 (e ▸ hk)
  refine ⟨by rw [h.eq]; simp, hrun, fun k hk => ?_, fun k hk he' => ?_, fun k ok hk hok j hj => ?_, by rw [e2]; exact Nat.le_trans h.nx hnx, by rw [e3]; exact h.nt, by rw [e1, e2]; exact hm, by rw [e1]; exact c1, by rw [e1, e2]; exact c2, ?_, ?_, ?_, ?_, ?_, ?_, ?_, by rw [e1, e2]; exact h.ext.trans ext⟩
  · rcases addL_iff.1 hk with rfl | hk
    · simp
    · exact List.mem_append_left _ (h.Lpre k hk)
  · rcases List.mem_append.1 hk with hk | hk
    · exact addL_old (h.effL k hk he')
    · simp at hk; subst hk; exact addL_self
  · rcases addL_iff.1 hk with rfl | hk
    · rw [ho] at hok; cases hok; exact addL_old (hrd j hj)
    · exact addL_old (h.clos k ok hk hok j hj)
  · cases hdd : o.dst <;> simpa [Act.put] using h.def0
  · cases hdd : o.dst <;> simpa [Act.put] using h.size
  · intro k ok d u hk hok hdd hl
    rw [e1, e2]
    rcases addL_iff.1 hk with rfl | hk'
    · rw [ho] at hok; cases hok
      obtain ⟨q1, q2⟩ := e5 d hdd
      rw [q2] at hl
      cases hl
      rw [hdd, put_eq (by rw [h.size, ← h.nt]; exact q1)]
      exact hv
    · have hn := hdk k ok d (hne k (h.Lpre k hk')) hok hdd
      rw [put_ne hn]
      rw [e4 d hn] at hl
      exact mono _ _ (h.slotL k ok d u hk' hok hdd hl)
  · intro t u ht hl
    rw [e1, e2, put_ne (ht i o addL_self ho)]
    exact mono _ _ (h.slot0 t u (fun k ok hk hok => ht k ok (addL_old hk) hok) hl)
  · intro t ht
    rw [e4 t (ht i (by simp) o ho)]
    exact h.virt0 t fun k hk ok hok => ht k (List.mem_append_left _ hk) ok hok
  · intro k hk hLk
    have hki : k ≠ i := fun e => by rw [e, addL_self] at hLk; cases hLk
    have hLk' : L k = false := by rwa [addL_ne hki] at hLk
    have hkp : k ∈ pre := by
      rcases List.mem_append.1 hk with hk | hk
      · exact hk
      · simp at hk; exact absurd hk hki
    obtain ⟨rc, hrc, rfl, ok, hok⟩ := h.recs k hkp hLk'
    have hnT : rc.i ∉ T tr i := fun h' => by have := hT _ h'; rw [hLk'] at this; cases this
    have hrl := lt_of_get hok.op
    refine ⟨rc, hsub _ hrc, rfl, ok, hok.op, hok.want, fun d hd => ?_, fun t ht j hj oj hoj hdj => ?_, hok.look0, hok.no, hok.neff, fun hc p hp e => ?_, fun hw' hk' => ?_, fun hw' hk' => ?_⟩
    · rw [e4 d (hdk _ ok d hki hok.op hd)]; exact hok.dst d hd
    · rw [e4 t (hdk j oj t (hne j (T_pre st h.eq hkp j hj)) hoj hdj)]
      exact hok.lookT t ht j hj oj hoj hdj
    · rw [e1] at hp
      rcases c3 p hp (by omega) (by omega) with h1 | h1
      · rw [show p.1 - base = rc.i by omega, hLk] at h1; cases h1
      · exact hok.noal hc p h1 e
    · exact c6 rc hrc hnT ok hok hw' hk'
    · obtain ⟨b, k1, k2, q1, q2⟩ := hok.alc hw' hk'
      refine ⟨b, k1, k2, by rw [e3]; exact q1, ?_⟩
      rw [e1]
      refine c4 _ q2 (by simp) (by simp; exact hrl) ?_
      simpa using hLk
  · intro p hp h1 h2
    rw [e1] at hp
    rcases c3 p hp h1 h2 with h3 | h3
    · rcases addL_iff.1 h3 with h3 | h3
      · rw [h3]; simp
      · exact List.mem_append_left _ (h.Lpre _ h3)
    · exact List.mem_append_left _ (h.alid p h3 h1 h2)
end
end Go.Ax
