/- Regions that draw their order, eighth part: the whole. -/
import Derived.Test.YtoanjpeoclkjgaaDoorAxDraw7
namespace Go.Ax
open Go
set_option linter.unusedVariables false

theorem back_sub {m l : Mem} : ∀ p ∈ back m l, p ∈ l := fun p hp => (List.mem_filter.1 hp).1

theorem back_dis {m l : Mem} : ∀ p ∈ m, ∀ q ∈ back m l, p.1 ≠ q.1 := by
  intro p hp q hq e
  have := (List.mem_filter.1 hq).2
  rw [hasKey_iff.2 ⟨p, hp, e⟩] at this
  cases this

theorem chk_mem {P : Program} {Γ : List (Nat × AV)} {ops : List Oper} {tr : List (List Nat)} {base x : Nat} {s : St} : ∀ {recs : List Rec}, chk P Γ ops tr base x s recs → ∀ c ∈ recs, c.i ∉ T tr x → c.want = true →
    ∀ o, ops[c.i]? = some o → kind P o.op = .pure → still o.op = false → ∃ m k, aStep P Γ { sl := c.sl, mem := seen tr base ops.length c.i s.mem, nx := s.nx, nt := s.nt } o.op = some (c.v, m, k)
  | [], h, c, hc, _, _, _, _, _, _ => by simp at hc
  | r :: rs, h, c, hc, h1, h2, o, ho, hk, hs => by
    obtain ⟨h', h⟩ := h
    rcases List.mem_cons.1 hc with rfl | hc
    · refine h' ?_ h2 o ho hk hs
      cases hm : mem1 c.i (T tr x) with
      | false => rfl
      | true => exact absurd (mem1_iff.1 hm) h1
    · exact chk_mem h c hc h1 h2 o ho hk hs

section
variable {P : Program} {Γ : List (Nat × AV)} {H : Hk} {ops : List Oper} {ord : List Nat} {tr : List (List Nat)} {base B : Nat} {D0 X : Nat → Prop} {K : St → Prop} {s0 : St} {ρ0 : Nat → Loc} {w0 : World}
  {L : Nat → Bool} {pre rest : List Nat} {recs : List Rec} {s : St} {ρ ρ' : Nat → Loc} {a : Act} {w w' : World}

theorem Inv.now (st : Stat P ops ord tr) (hH : HkOK P Γ B H) (hD : ∀ i, D0 i → i < B) (hB : B ≤ base) {i : Nat} {r : List Nat} (h : Inv P Γ H ops ord tr base B D0 X K s0 ρ0 w0 L pre (i :: r) recs s ρ a w) {o : Oper} (ho : ops[i]? = some o) (hrd : ∀ j ∈ preds o, L j = true)
    (he : isEffAt P ops i = true) (Q : Exit → Act → World → Prop) (K' : Act → World → Prop)
    (hK' : ∀ pre' rest' recs' s' ρ' a' w', Inv P Γ H ops ord tr base B D0 X K s0 ρ0 w0 (addL L i) pre' rest' recs' s' ρ' a' w' → K' a' w') :
    if Region.wanted o (yielded ops.toArray a.tmps) then o.wp P a w K' Q else K' (a.put o.dst undef) w := by
  obtain ⟨hi1, hi2, hi3⟩ := not_pre st h.eq
  have hLi : L i = false := by
    cases hL : L i with
    | false => rfl
    | true => exact absurd (h.Lpre i hL) hi1
  obtain ⟨hT, hself⟩ := ready_T st h ho hrd
  have hil := lt_of_get ho
  have hkind : kind P o.op = .eff := by
    simp only [isEffAt, ho] at he
    split at he
    · assumption
    · cases he
  have hp := parts_at (base := base) (n := ops.length) h.nod hT
  obtain ⟨m1, v1⟩ := h.mr.part hp
  have hsm : ∀ t v, lk (pickSl s.sl (looks ops o)) t = some v → VR ρ (DN D0 B base ops.length L s.nx) (OX X ρ (memC L base ops.length s.mem)) w v (a.tmps.getD t undef) := by
    intro t v hl
    obtain ⟨ht, hl⟩ := lk_pick hl
    by_cases hj : ∃ j ∈ pre, ∃ oj, ops[j]? = some oj ∧ oj.dst = some t
    · obtain ⟨j, hj, oj, hoj, hd⟩ := hj
      rcases st.look i j o oj t (fun e => hi1 (e ▸ hj)) ho hoj hd ht with h1 | h1
      · exact h.slotL j oj t v (hT j h1) hoj hd hl
      · exact absurd (T_pre st h.eq hj i h1) hi1
    · have hnj : ∀ j ∈ pre, ∀ oj, ops[j]? = some oj → oj.dst ≠ some t := fun j h1 oj h2 h3 => hj ⟨j, h1, oj, h2, h3⟩
      rw [h.virt0 t hnj] at hl
      exact h.slot0 t v (fun k ok hk hok => hnj k (h.Lpre k hk) ok hok) hl
  have hs1 : SR Γ (XR X ρ (memC L base ops.length (unseen tr base ops.length i s.mem))) ρ (DN D0 B base ops.length L s.nx) { sl := pickSl s.sl (looks ops o), mem := seen tr base ops.length i s.mem, nx := s.nx, nt := s.nt } a w :=
    ⟨m1, h.def0, by rw [h.size, ← h.nt], fun t v hl => v1 _ _ (hsm t v hl)⟩
  have hnokey : ∀ p ∈ s.mem, p.1 ≠ base + i := by
    intro p hp' e
    have := h.alid p hp' (by omega) (by omega)
    rw [e] at this
    simp at this
    exact hi1 this
  -- behind the effect
  have behind : ∀ (v : AV) (x : Value) (m : Mem) (nx' : Nat) (s' : St) (ρ' : Nat → Loc) (w' : World), stepSt s o.dst v (m ++ back m (unseen tr base ops.length i s.mem)) nx' = some s' → chk P Γ ops tr base i s' recs →
      vrun P Γ H ops tr base K r recs s' → s.nx ≤ nx' → MR Γ (XR X ρ (memC L base ops.length (unseen tr base ops.length i s.mem))) ρ' (DN D0 B base ops.length (addL L i) nx') m w' →
      VR ρ' (DN D0 B base ops.length (addL L i) nx') (OX (XR X ρ (memC L base ops.length (unseen tr base ops.length i s.mem))) ρ' m) w' v x →
      Ext (DN D0 B base ops.length L s.nx) ρ (seen tr base ops.length i s.mem) w ρ' (DN D0 B base ops.length (addL L i) nx') m w' → K' (a.put o.dst x) w' := by
    intro v x m nx' s' ρ' w' hst hchk hrun hnx hm hv hext
    have eL : ∀ l : Mem, (∀ p ∈ l, p ∈ s.mem) → memC (addL L i) base ops.length l = memC L base ops.length l := fun l hl => memC_add fun p hp' => hnokey p (hl p hp')
    have hun : ∀ p ∈ back m (unseen tr base ops.length i s.mem), p ∈ s.mem := fun p hp' => (List.mem_filter.1 (back_sub p hp')).1
    obtain ⟨j1, j2, j3, j4⟩ := h.mr.join hp hm hext (rest' := memC (addL L i) base ops.length (back m (unseen tr base ops.length i s.mem)))
      (fun p hp' => by
        rw [eL _ hun] at hp'
        obtain ⟨q1, q2⟩ := List.mem_filter.1 hp'
        exact List.mem_filter.2 ⟨back_sub p q1, q2⟩)
      (fun p hp' q hq => back_dis p hp' q (List.mem_filter.1 hq).1) (filter_nodup (filter_nodup (filter_nodup h.nod)))
    have hnod : ((m ++ back m (unseen tr base ops.length i s.mem)).map (·.1)).Nodup := by
      rw [List.map_append, List.nodup_append]
      refine ⟨hm.nod, filter_nodup (filter_nodup h.nod), fun p hp' q hq => ?_⟩
      obtain ⟨p', hp1, rfl⟩ := List.mem_map.1 hp'
      obtain ⟨q', hq1, rfl⟩ := List.mem_map.1 hq
      exact back_dis p' hp1 q' hq1
    obtain ⟨l1, l2, l3⟩ := j1.less (mem' := memC (addL L i) base ops.length (m ++ back m (unseen tr base ops.length i s.mem))) (fun p hp' => by
      obtain ⟨q1, q2⟩ := List.mem_filter.1 hp'
      rcases List.mem_append.1 q1 with q1 | q1
      · exact List.mem_append_left _ q1
      · exact List.mem_append_right _ (List.mem_filter.2 ⟨q1, q2⟩)) (filter_nodup hnod)
    have hcur : base + ops.length ≤ nx' := Nat.le_trans h.nx hnx
    refine hK' _ _ _ _ ρ' _ w' (h.head st ho hrd he (fun c hc => hc) hst hrun hnx hnod ?_ ?_ ?_ l1 (fun u y hu => l2 _ _ (j3 _ _ hu)) ((j4 D0 fun i hi => .inl hi).trans (l3 D0 fun i hi => .inl hi)) (l2 _ _ (j2 _ _ hv)) ?_)
    · intro p hp'
      rcases List.mem_append.1 hp' with hp' | hp'
      · exact DN_lt hD hB hcur _ (hm.low p hp')
      · have := h.low p (hun p hp'); omega
    · intro p hp' h1 h2
      rcases List.mem_append.1 hp' with hp' | hp'
      · left
        have := hm.low p hp'
        rw [show p.1 = base + (p.1 - base) by omega] at this
        exact DN_at hD hB (by omega) this
      · exact .inr (hun p hp')
    · intro p hp' h1 h2 h3
      refine List.mem_append_right _ (List.mem_filter.2 ⟨List.mem_filter.2 ⟨hp', ?_⟩, ?_⟩)
      · cases hv : vis tr base ops.length i p.1 with
        | false => rfl
        | true =>
          have := hT _ (vis_iff.1 hv ⟨h1, h2⟩)
          rw [addL_old this] at h3
          cases h3
      · cases hh : hasKey p.1 m with
        | false => rfl
        | true =>
          obtain ⟨q, hq, e⟩ := hasKey_iff.1 hh
          have := hm.low q hq
          rw [e, show p.1 = base + (p.1 - base) by omega] at this
          have := DN_at hD hB (by omega) this
          rw [h3] at this
          cases this
    · intro c hc hcT oc hoc hw hk
      cases hst' : still oc.op with
      | false => exact chk_mem hchk c hc hcT hw oc hoc.op hk hst'
      | true =>
        obtain ⟨m, k, q⟩ := hoc.pur hw hk
        exact aStep_still (s := { sl := c.sl, mem := seen tr base ops.length c.i s.mem, nx := s.nx, nt := s.nt }) (s' := { sl := c.sl, mem := seen tr base ops.length c.i s'.mem, nx := s'.nx, nt := s'.nt }) hst' rfl q
  have hrun := h.run
  simp only [vrun, ho] at hrun
  split at hrun
  · exact hrun.elim
  · rename_i hw
    rw [aWant_pick (s' := { sl := pickSl s.sl (looks ops o), mem := seen tr base ops.length i s.mem, nx := s.nx, nt := s.nt }) (o := o) rfl] at hw
    rw [aWant_sound hs1 hw]
    simp only [Bool.false_eq_true, if_false]
    split at hrun
    · rename_i s' hst
      obtain ⟨w1, w2, w3⟩ := h.mr.widen (DN_add (cur := s.nx) (cur' := s.nx) (i := i) (Nat.le_refl _))
      have em : memC (addL L i) base ops.length s.mem = memC L base ops.length s.mem := memC_add hnokey
      obtain ⟨e1, e2, e3, e4, e5⟩ := stepSt_parts hst
      refine hK' _ _ _ _ ρ _ w (h.head st ho hrd he (fun c hc => List.mem_cons_of_mem _ hc) hst hrun (Nat.le_refl _) h.nod h.low (fun p hp' _ _ => .inr hp') (fun p hp' _ _ _ => hp') (by rw [em]; exact w1) (by rw [em]; exact w2) (by rw [em]; exact w3 D0 fun i hi => .inl hi) undef_VR ?_)
      intro c hc hcT oc hoc hw hk
      rw [e1, e2, e3]
      exact hoc.pur hw hk
    · exact hrun.elim
  · rename_i hw
    rw [aWant_pick (s' := { sl := pickSl s.sl (looks ops o), mem := seen tr base ops.length i s.mem, nx := s.nx, nt := s.nt }) (o := o) rfl] at hw
    rw [aWant_sound hs1 hw]
    simp only [if_true]
    simp only [hkind] at hrun
    split at hrun
    · rename_i v m nx' hstep
      split at hrun
      · rename_i s' hst
        obtain ⟨hchk, hrun⟩ := hrun
        · rw [aStep_congr (s := { s with mem := seen tr base ops.length i s.mem }) (s' := { sl := pickSl s.sl (looks ops o), mem := seen tr base ops.length i s.mem, nx := s.nx, nt := s.nt }) (ev_pick (ops := ops) (o := o) rfl) rfl rfl] at hstep
          have hnx : s.nx ≤ nx' := by have h' := aStep_nx hstep; dsimp only at h'; omega
          obtain ⟨x, n, w', ρ', r1, r2, r3, r4, r5, r6⟩ := aStep_sound (P := P) (s := { sl := pickSl s.sl (looks ops o), mem := seen tr base ops.length i s.mem, nx := s.nx, nt := s.nt }) (D' := DN D0 B base ops.length (addL L i) nx')
            (fun h' => Nat.lt_irrefl _ (DN_lt hD hB h.nx _ h')) (DN_add hnx) hs1 o (fun (e : nx' = s.nx + 1) => .inr (.inr (.inr ⟨h.nx, by rw [e]; exact Nat.lt_succ_self _⟩))) hstep
          have fin := behind v x m nx' s' ρ' w' hst hchk hrun hnx r3 r4 (r6 _ fun i hi => hi)
          unfold Oper.wp
          rw [r1]
          rcases r2 with rfl | ⟨rfl, rfl⟩
          · exact fin
          · exact fin
      · exact hrun.elim
    · split at hrun
      · rename_i F args hcall
        rw [aCall_congr (s := s) (s' := { sl := pickSl s.sl (looks ops o), mem := seen tr base ops.length i s.mem, nx := s.nx, nt := s.nt }) (ev_pick (ops := ops) (o := o) rfl)] at hcall
        obtain ⟨vs, r1, hvs⟩ := aCall_sound (P := P) hs1 o hcall
        unfold Oper.wp
        rw [r1]
        refine ((hH.call _ _ _ _ _ hrun).run _ _ ρ w vs (DN_lt hD hB h.nx) m1 hvs).mono ?_
        rintro e w' ⟨rv, v, mem', nx', ρ', rfl, hq, hnx, m2, v2, ext2⟩
        have hwd : ∀ id, dn (DN D0 B base ops.length L s.nx) s.nx nx' id → DN D0 B base ops.length (addL L i) nx' id := by
          rintro id (h1 | ⟨h1, h2⟩)
          · exact DN_add hnx id h1
          · exact .inr (.inr (.inr ⟨Nat.le_trans h.nx h1, h2⟩))
        obtain ⟨m3, mono3, _⟩ := m2.widen hwd
        split at hq
        · rename_i s' hst
          exact behind rv v mem' nx' s' ρ' w' hst hq.1 hq.2 hnx m3 (mono3 _ _ v2) (ext2.wide hwd)
        · exact hq.elim
      · exact hrun.elim
end

def unl (L : Nat → Bool) : Nat → Nat
  | 0 => 0
  | n + 1 => unl L n + (if L n then 0 else 1)

theorem unl_same {L : Nat → Bool} {i : Nat} : ∀ {n : Nat}, n ≤ i → unl (addL L i) n = unl L n
  | 0, _ => rfl
  | n + 1, h => by
    simp only [unl]
    rw [unl_same (by omega), addL_ne (by omega)]

theorem unl_add {L : Nat → Bool} {i : Nat} (hL : L i = false) : ∀ {n : Nat}, i < n → unl (addL L i) n + 1 = unl L n
  | n + 1, h => by
    simp only [unl]
    by_cases hi : i = n
    · subst hi
      rw [unl_same (Nat.le_refl _), addL_self, hL]
      simp
    · rw [addL_ne (Ne.symm hi), ← unl_add hL (n := n) (by omega)]
      omega

theorem unl_zero {L : Nat → Bool} : ∀ {n : Nat}, unl L n = 0 → ∀ i, i < n → L i = true
  | n + 1, h, i, hi => by
    simp only [unl] at h
    by_cases hn : i = n
    · subst hn
      cases hL : L i with
      | true => rfl
      | false => rw [hL] at h; simp at h
    · exact unl_zero (n := n) (by omega) i (by omega)

section
variable {P : Program} {Γ : List (Nat × AV)} {H : Hk} {ops : List Oper} {ord : List Nat} {tr : List (List Nat)} {base B : Nat} {D0 X : Nat → Prop} {K : St → Prop} {s0 : St} {ρ0 : Nat → Loc} {w0 : World}

theorem mem_ready {ops : List Oper} {listed : Array Bool} {L : Nat → Bool} (hsz : listed.size = ops.length) (hl : ∀ k, k < ops.length → listed[k]? = some (L k)) (hout : ∀ k, L k = true → k < ops.length) {i : Nat} (hi : i ∈ Region.ready .any ops.toArray listed) :
    ∃ o, ops[i]? = some o ∧ L i = false ∧ ∀ j ∈ preds o, L j = true := by
  simp only [Region.ready, List.mem_filter, List.mem_range, List.size_toArray, Bool.and_eq_true] at hi
  obtain ⟨h1, h2, h3⟩ := hi
  have ho : ops[i]? = some ops[i] := by simp [h1]
  refine ⟨ops[i], ho, ?_, fun j hj => ?_⟩
  · have := hl i h1
    simp only [Array.getD_eq_getD_getElem?, this, Option.getD_some] at h2
    simpa using h2
  · simp only [List.getElem?_toArray, ho, Option.map_some, Option.getD_some, Array.all_eq_true] at h3
    simp only [preds, List.mem_map, List.mem_filter, Array.mem_toList_iff] at hj
    obtain ⟨e, ⟨he1, he2⟩, rfl⟩ := hj
    obtain ⟨k, hk, rfl⟩ := Array.mem_iff_getElem.1 he1
    have := h3 k hk
    rw [he2] at this
    simp only [Bool.not_true, Bool.false_or] at this
    rcases Nat.lt_or_ge (ops[i].after[k].on) ops.length with hlt | hge
    · have h4 := hl _ hlt
      simp only [Array.getD_eq_getD_getElem?, h4, Option.getD_some] at this
      exact this
    · have hge' : listed.size ≤ ops[i].after[k].on := by omega
      simp [hge'] at this

theorem Inv.main (st : Stat P ops ord tr) (hH : HkOK P Γ B H) (hD : ∀ i, D0 i → i < B) (hB : B ≤ base) (Q : Exit → Act → World → Prop)
    (hQ : ∀ (s' : St) (ρ' : Nat → Loc) (a' : Act) (w' : World), K s' → B ≤ s'.nx → SR Γ X ρ' (dn D0 B s'.nx) s' a' w' → Ext D0 ρ0 s0.mem w0 ρ' (dn D0 B s'.nx) s'.mem w' → Q .normal a' w') :
    ∀ (fuel : Nat) (listed : Array Bool) (L : Nat → Bool) (pre rest : List Nat) (recs : List Rec) (s : St) (ρ : Nat → Loc) (a : Act) (w : World), unl L ops.length ≤ fuel → listed.size = ops.length → (∀ k, k < ops.length → listed[k]? = some (L k)) →
      Inv P Γ H ops ord tr base B D0 X K s0 ρ0 w0 L pre rest recs s ρ a w → wpAny P .any ops.toArray Q fuel listed a w := by
  have done : ∀ (L : Nat → Bool) (pre rest : List Nat) (recs : List Rec) (s : St) (ρ : Nat → Loc) (a : Act) (w : World), (∀ i, i < ops.length → L i = true) →
      Inv P Γ H ops ord tr base B D0 X K s0 ρ0 w0 L pre rest recs s ρ a w → Q .normal a w := by
    intro L pre rest recs s ρ a w hall h
    have hrest : rest = [] := by
      cases hr : rest with
      | nil => rfl
      | cons i r =>
        rw [hr] at h
        exact absurd (h.Lpre i (hall i (st.lt i (by rw [h.eq]; simp)))) (not_pre st h.eq).1
    subst hrest
    have hk := h.run
    simp only [vrun] at hk
    have hlt : ∀ i, L i = true → i < ops.length := fun i hi => st.lt i (by rw [h.eq]; simpa using h.Lpre i hi)
    have hdn : ∀ id, DN D0 B base ops.length L s.nx id → dn D0 B s.nx id := by
      rintro id (h1 | ⟨h1, h2⟩ | ⟨k, h1, h2, h3⟩ | ⟨h1, h2⟩)
      · exact .inl h1
      · exact .inr ⟨h1, by have := h.nx; omega⟩
      · exact .inr ⟨by omega, by have := h.nx; omega⟩
      · exact .inr ⟨by omega, h2⟩
    have hmem : memC L base ops.length s.mem = s.mem := by
      unfold memC
      refine List.filter_eq_self.2 fun p hp => keepC_iff.2 fun h' => hall _ (by omega)
    have hm := h.mr
    have hext := h.ext
    rw [hmem] at hm hext
    obtain ⟨w1, w2, w3⟩ := hm.widen hdn
    refine hQ s ρ a w hk (by have := h.nx; omega) ⟨w1, h.def0, by rw [h.size, ← h.nt], fun t v hl => ?_⟩ (hext.wide hdn)
    refine w2 _ _ ?_
    by_cases hj : ∃ j ∈ pre, ∃ oj, ops[j]? = some oj ∧ oj.dst = some t
    · obtain ⟨j, hj, oj, hoj, hd⟩ := hj
      have := h.slotL j oj t v (hall j (lt_of_get hoj)) hoj hd hl
      rwa [hmem] at this
    · have hnj : ∀ j ∈ pre, ∀ oj, ops[j]? = some oj → oj.dst ≠ some t := fun j h1 oj h2 h3 => hj ⟨j, h1, oj, h2, h3⟩
      rw [h.virt0 t hnj] at hl
      have := h.slot0 t v (fun k ok hk hok => hnj k (h.Lpre k hk) ok hok) hl
      rwa [hmem] at this
  have empty : ∀ (listed : Array Bool) (L : Nat → Bool), (∀ k, k < ops.length → listed[k]? = some (L k)) → (∀ i o, L i = true → ops[i]? = some o → ∀ j ∈ preds o, L j = true) → Region.ready .any ops.toArray listed = [] → ∀ i, i < ops.length → L i = true := by
    intro listed L hl hcl hr
    -- by the order: each one's predecessors stand earlier
    have key : ∀ (post pre : List Nat), ord = pre ++ post → (∀ i ∈ pre, L i = true) → ∀ i ∈ ord, L i = true := by
      intro post
      induction post with
      | nil => intro pre e ih i hi; rw [e] at hi; simp at hi; exact ih i hi
      | cons x post ihp =>
        intro pre e ih'
        refine ihp (pre ++ [x]) (by rw [e]; simp) fun i hi => ?_
        rcases List.mem_append.1 hi with hi | hi
        · exact ih' i hi
        · simp at hi
          subst hi
          cases hL : L i with
          | true => rfl
          | false =>
            exfalso
            have hlt : i < ops.length := st.lt i (by rw [e]; simp)
            have ho : ops[i]? = some ops[i] := by simp [hlt]
            have hrd := st.resp pre i post e _ ho
            have : i ∈ Region.ready .any ops.toArray listed := by
              simp only [Region.ready, List.mem_filter, List.mem_range, List.size_toArray, Bool.and_eq_true]
              refine ⟨hlt, ?_, ?_⟩
              · simp [Array.getD_eq_getD_getElem?, hl i hlt, hL]
              · simp only [List.getElem?_toArray, ho, Option.map_some, Option.getD_some, Array.all_eq_true]
                intro k hk
                cases hb : Region.binds .any ops[i].after[k] with
                | false => rfl
                | true =>
                  have hj : ops[i].after[k].on ∈ preds ops[i] := by
                    simp only [preds, List.mem_map, List.mem_filter, Array.mem_toList_iff]
                    exact ⟨_, ⟨Array.getElem_mem hk, hb⟩, rfl⟩
                  have h1 := ih' _ (hrd _ hj)
                  have h2 : ops[i].after[k].on < ops.length := st.lt _ (by rw [e]; exact List.mem_append_left _ (hrd _ hj))
                  simp [Array.getD_eq_getD_getElem?, hl _ h2, h1]
            rw [hr] at this
            cases this
    intro i hi
    exact key ord [] (by simp) (by simp) i (st.full i hi)
  intro fuel
  induction fuel with
  | zero =>
    intro listed L pre rest recs s ρ a w hu hsz hl h
    have hall := unl_zero (Nat.le_zero.1 hu)
    refine ⟨?_, done L pre rest recs s ρ a w hall h⟩
    rw [List.eq_nil_iff_forall_not_mem]
    intro i hi
    obtain ⟨o, ho, hL, _⟩ := mem_ready hsz hl (fun k hk => st.lt k (by rw [h.eq]; exact List.mem_append_left _ (h.Lpre k hk))) hi
    rw [hall i (lt_of_get ho)] at hL
    cases hL
  | succ fuel ih =>
    intro listed L pre rest recs s ρ a w hu hsz hl h
    have hout : ∀ k, L k = true → k < ops.length := fun k hk => st.lt k (by rw [h.eq]; exact List.mem_append_left _ (h.Lpre k hk))
    refine ⟨fun hr => done L pre rest recs s ρ a w (empty listed L hl h.clos hr) h, fun i hi => ?_⟩
    obtain ⟨o, ho, hLi, hrd⟩ := mem_ready hsz hl hout hi
    have hil := lt_of_get ho
    obtain ⟨pre', rest', recs', s', h', hfar⟩ := h.far st
    have next : ∀ pre2 rest2 recs2 s2 ρ2 a2 w2, Inv P Γ H ops ord tr base B D0 X K s0 ρ0 w0 (addL L i) pre2 rest2 recs2 s2 ρ2 a2 w2 → wpAny P .any ops.toArray Q fuel (listed.setIfInBounds i true) a2 w2 := by
      intro pre2 rest2 recs2 s2 ρ2 a2 w2 h2
      refine ih _ (addL L i) pre2 rest2 recs2 s2 ρ2 a2 w2 ?_ (by simpa using hsz) (fun k hk => ?_) h2
      · have := unl_add hLi hil; omega
      · by_cases hki : k = i
        · subst hki; rw [addL_self]; simp [hsz, hk]
        · rw [addL_ne hki, Array.getElem?_setIfInBounds_ne (Ne.symm hki)]; exact hl k hk
    have fin : if Region.wanted o (yielded ops.toArray a.tmps) then o.wp P a w (wpAny P .any ops.toArray Q fuel (listed.setIfInBounds i true)) Q else (wpAny P .any ops.toArray Q fuel (listed.setIfInBounds i true)) (a.put o.dst undef) w := by
      by_cases hip : i ∈ pre'
      · exact h'.step st hD hB hip hLi ho hrd Q _ fun ρ2 a2 w2 h2 => next _ _ _ _ ρ2 a2 w2 h2
      · have hio := st.full i hil
        rw [h'.eq] at hio
        cases hrs : rest' with
        | nil => rw [hrs] at hio; simp at hio; exact absurd hio hip
        | cons x r =>
          have he := hfar x r hrs
          rw [hrs] at h' hio
          have hix : i = x := by
            rcases List.mem_append.1 hio with h1 | h1
            · exact absurd h1 hip
            · rcases List.mem_cons.1 h1 with h1 | h1
              · exact h1
              · exfalso
                have h2 := st.eff pre' x r h'.eq he i h1
                have h3 := (ready_T st h' ho hrd).1 x h2
                exact (not_pre st h'.eq).1 (h'.Lpre x h3)
          subst hix
          exact h'.now st hH hD hB ho hrd he Q _ fun pre2 rest2 recs2 s2 ρ2 a2 w2 h2 => next pre2 rest2 recs2 s2 ρ2 a2 w2 h2
    simp only [wpOp, List.getElem?_toArray, ho]
    split
    · rename_i hw; rw [if_pos hw] at fin; exact .inl fin
    · rename_i hw; rw [if_neg hw] at fin; exact fin
end
end Go.Ax
