/- A part of the proof. -/
import Derived.Test.YtelmpofoeinfoaaGreatDoorAx3
import Derived.RangeFuncLeaves
import Derived.LoopNIn
import Derived.Scope
import Derived.Deep.LoopGhost
set_option linter.unusedVariables false
namespace Go.Ax
open Go
section
variable {P : Program} {Γ : List (Nat × AV)} {H : Hk} {ops : List Oper} {ord : List Nat} {tr : List (List Nat)} {base B : Nat} {D0 X : Nat → Prop} {ds : List Deferred × Nat} {K : St → Prop} {Kp : Value → Mem → Nat → Prop} {s0 : St} {ρ0 : Nat → Loc} {w0 : World}
 {L : Nat → Bool} {pre rest : List Nat} {recs : List Rec} {s : St} {ρ ρ' : Nat → Loc} {a : Act} {w w' : World}
theorem DN_lt {n cur : Nat} (hD : ∀ i, D0 i → i < B) (hB : B ≤ base) (hc : base + n ≤ cur) : ∀ id, DN D0 B base n L cur id → id < cur := by
 rintro id (h | ⟨h1, h2⟩ | ⟨k, h1, h2, h3⟩ | ⟨h1, h2⟩)
 ·have := hD id h; omega
 ·omega
 ·omega
 ·exact h2
theorem DN_at {n cur k : Nat} (hD : ∀ i, D0 i → i < B) (hB : B ≤ base) (hk : k < n) (h : DN D0 B base n L cur (base + k)) : L k = true := by
 rcases h with h | ⟨h1, h2⟩ | ⟨j, h1, h2, h3⟩ | ⟨h1, h2⟩
 ·have := hD _ h; omega
 ·omega
 ·rwa [show k = j by omega]
 ·omega
theorem lt_of_get {i : Nat} {o : Oper} (ho : ops[i]? = some o) : i < ops.length := by
 rcases Nat.lt_or_ge i ops.length with h' | h'
 ·exact h'
 ·rw [List.getElem?_eq_none h'] at ho; cases ho
theorem Inv.step (rd : Option Nat) (st : Stat P ops ord tr) (hD : ∀ i, D0 i → i < B) (hB : B ≤ base) (h : Inv P Γ H ops ord tr base B D0 X ds K Kp s0 ρ0 w0 L pre rest recs s ρ a w) {i : Nat} {o : Oper} (hi : i ∈ pre) (hL : L i = false) (ho : ops[i]? = some o)
  (hrd : ∀ j ∈ preds o, L j = true) (Q : Exit → Act → World → Prop) (K' : Act → World → Prop)
  (hK' : ∀ ρ' a' w', Inv P Γ H ops ord tr base B D0 X ds K Kp s0 ρ0 w0 (addL L i) pre rest recs s ρ' a' w' → K' a' w') :
  if Region.wanted o (yielded ops.toArray a.tmps) then o.wpIn (FW rd) 0 P a w K' Q else K' (a.put o.dst undef) w := by
 obtain ⟨r, hrm, rfl, o', hr⟩ := h.recs i hi hL
 have e := hr.op
 rw [ho] at e
 cases e
 have hsm := h.small st hr hL hrd
 obtain ⟨hT, hself⟩ := ready_T st h ho hrd
 have hil := lt_of_get ho
 have hp0 : Parts (memC L base ops.length s.mem) [] (memC L base ops.length s.mem) :=
  ⟨fun p hp => by simp at hp, fun p hp => hp, fun p hp => .inr hp, fun p hp => by simp at hp, by simp⟩
 obtain ⟨m0, v0⟩ := h.mr.part hp0
 have hs0 : ∀ nx, SR Γ (XR X ρ (memC L base ops.length s.mem)) ds ρ (DN D0 B base ops.length L s.nx) { sl := pickSl r.sl (looks ops o), mem := [], nx := nx, nt := s.nt } a w :=
  fun nx => ⟨m0, hp0.mks (h.ext.mks h.def0), by rw [h.size, ← h.nt], fun t v hl => v0 _ _ (hsm t v hl)⟩
 have hw : aWant ops { sl := pickSl r.sl (looks ops o), mem := [], nx := 0, nt := s.nt } o.guard = some r.want := by
  rw [← aWant_pick (s := { sl := r.sl, mem := [], nx := 0, nt := s.nt }) (o := o) rfl]
  exact hr.want _ rfl
 rw [aWant_sound (hs0 0) hw]
 have hsame : (r.want = false ∨ kind P o.op ≠ .al) → ∀ x, (∀ d v, o.dst = some d → lk s.sl d = some v → d < s0.nt ∧ VR ρ (DN D0 B base ops.length L s.nx) (OX X ρ (memC L base ops.length s.mem)) w v x) → K' (a.put o.dst x) w := by
  intro hc x hd
  obtain ⟨w1, w2, w3⟩ := h.mr.widen (DN_add (cur := s.nx) (cur' := s.nx) (i := r.i) (Nat.le_refl _))
  have em : memC (addL L r.i) base ops.length s.mem = memC L base ops.length s.mem := memC_add (hr.noal hc)
  refine hK' ρ _ w (h.list st hi hL ho hrd (by rw [em]; exact w1) (by rw [em]; exact w2) (by rw [em]; exact w3 D0 fun i hi => .inl hi) fun d v hd1 hd2 => ?_)
  rw [em]
  obtain ⟨q1, q2⟩ := hd d v hd1 hd2
  exact ⟨q1, w2 _ _ q2⟩
 cases hwant : r.want with
 | false =>
  simp only [Bool.false_eq_true, if_false]
  refine hsame (.inl hwant) undef fun d v hd hl => ?_
  obtain ⟨q1, q2⟩ := hr.dst d hd
  rw [q2] at hl
  cases hl
  rw [hr.no hwant]
  exact ⟨q1, undef_VR⟩
 | true =>
  simp only [if_true]
  cases hk : kind P o.op with
  | eff => exact absurd hk (hr.neff hwant)
  | pure =>
   obtain ⟨m, k, hstep⟩ := hr.pur hwant hk
   have hp := parts_at (base := base) (n := ops.length) h.nod hT
   obtain ⟨m1, v1⟩ := h.mr.part hp
   have hs1 : SR Γ (XR X ρ (memC L base ops.length (unseen tr base ops.length r.i s.mem))) ds ρ (DN D0 B base ops.length L s.nx) { sl := pickSl r.sl (looks ops o), mem := seen tr base ops.length r.i s.mem, nx := s.nx, nt := s.nt } a w :=
    ⟨m1, hp.mks (h.ext.mks h.def0), by rw [h.size, ← h.nt], fun t v hl => v1 _ _ (hsm t v hl)⟩
   rw [aStep_congr (s := { sl := r.sl, mem := seen tr base ops.length r.i s.mem, nx := s.nx, nt := s.nt }) (s' := { sl := pickSl r.sl (looks ops o), mem := seen tr base ops.length r.i s.mem, nx := s.nx, nt := s.nt }) (ev_pick (ops := ops) (o := o) rfl) rfl rfl] at hstep
   obtain ⟨_, _, x, e1, e2⟩ := aPure_sound hs1 o hk hstep
   refine oper_in (aStep_nd hstep) e1 ?_
   simp only [Oper.uponIn]
   refine hsame (.inr (by rw [hk]; intro e; cases e)) x fun d v hd hl => ?_
   obtain ⟨q1, q2⟩ := hr.dst d hd
   rw [q2] at hl
   cases hl
   exact ⟨q1, e2.mono (fun _ _ => rfl) (fun _ h => h) fun b _ hb => ⟨fun h' => hb ((hp.own b).2 h'), rfl⟩⟩
  | al =>
   obtain ⟨b, k, k', hstep, hbm⟩ := hr.alc hwant hk
   rw [aStep_congr (s := { sl := r.sl, mem := [], nx := base + r.i, nt := s.nt }) (s' := { sl := pickSl r.sl (looks ops o), mem := [], nx := base + r.i, nt := s.nt }) (ev_pick (ops := ops) (o := o) rfl) rfl rfl] at hstep
   obtain ⟨e1, b', e2⟩ := aStep_al hk hstep
   simp only at e1 e2
   simp at e2
   obtain ⟨⟨rfl, rfl⟩⟩ := e2
   obtain ⟨x, n, w', ρ', r1, r2, r3, r4, r5, r6⟩ := aStep_sound (P := P) (D' := DN D0 B base ops.length (addL L r.i) s.nx)
    (fun h' => by have := DN_at hD hB hil h'; rw [hL] at this; cases this) (DN_add (Nat.le_refl _)) (hs0 (base + r.i)) o (fun _ => .inr (.inr (.inl ⟨r.i, rfl, hil, addL_self⟩))) hstep
   have hnok : ∀ q ∈ memC L base ops.length s.mem, q.1 ≠ base + r.i := by
    intro q hq e
    have := keepC_iff.1 (List.mem_filter.1 hq).2 ⟨by omega, by omega⟩
    rw [show q.1 - base = r.i by omega, hL] at this
    cases this
   obtain ⟨j1, j2, j3, j4⟩ := h.mr.join hp0 r3 (r6 _ fun i hi => hi) (fun p hp => hp) (fun p hp q hq => by
    simp at hp
    subst hp
    exact Ne.symm (hnok q hq)) (filter_nodup h.nod)
   obtain ⟨l1, l2, l3⟩ := j1.less (mem' := memC (addL L r.i) base ops.length s.mem) (fun p hp => by
    obtain ⟨p1, p2⟩ := List.mem_filter.1 hp
    by_cases hpe : p.1 = base + r.i
    ·have := key_unique h.nod p1 hbm hpe
     rw [this]
     simp
    ·refine List.mem_append_right _ (List.mem_filter.2 ⟨p1, keepC_iff.2 fun h' => ?_⟩)
     have := keepC_iff.1 p2 h'
     rwa [addL_ne (by omega)] at this) (filter_nodup h.nod)
   have fin : K' (a.put o.dst x) w' := by
    refine hK' ρ' _ w' (h.list st hi hL ho hrd l1 (fun v y hv => l2 _ _ (j3 _ _ hv)) ((j4 D0 fun i hi => .inl hi).trans (l3 D0 fun i hi => .inl hi)) fun d v hd hl => ?_)
    obtain ⟨q1, q2⟩ := hr.dst d hd
    rw [q2] at hl
    cases hl
    exact ⟨q1, l2 _ _ (j2 _ _ r4)⟩
   refine oper_in (aStep_nd hstep) r1 ?_
   rcases r2 with rfl | ⟨rfl, rfl⟩
   ·exact fin
   ·exact fin
theorem Inv.head (st : Stat P ops ord tr) {i : Nat} {r : List Nat} (h : Inv P Γ H ops ord tr base B D0 X ds K Kp s0 ρ0 w0 L pre (i :: r) recs s ρ a w) {o : Oper} (ho : ops[i]? = some o) (hrd : ∀ j ∈ preds o, L j = true)
  (he : isEffAt P ops i = true) {recs' : List Rec} {s' : St} {v : AV} {x : Value} {m' : Mem} {nx' : Nat} (hsub : ∀ c ∈ recs, c ∈ recs') (hst : stepSt s o.dst v m' nx' = some s') (hrun : vrun P Γ H ops tr base K Kp r recs' s') (hnx : s.nx ≤ nx')
  (c1 : (m'.map (·.1)).Nodup) (c2 : ∀ p ∈ m', p.1 < nx') (c3 : ∀ p ∈ m', base ≤ p.1 → p.1 < base + ops.length → addL L i (p.1 - base) = true ∨ p ∈ s.mem)
  (c4 : ∀ p ∈ s.mem, base ≤ p.1 → p.1 < base + ops.length → addL L i (p.1 - base) = false → p ∈ m')
  (hm : MR Γ X ρ' (DN D0 B base ops.length (addL L i) nx') (memC (addL L i) base ops.length m') w')
  (mono : ∀ v x, VR ρ (DN D0 B base ops.length L s.nx) (OX X ρ (memC L base ops.length s.mem)) w v x → VR ρ' (DN D0 B base ops.length (addL L i) nx') (OX X ρ' (memC (addL L i) base ops.length m')) w' v x)
  (ext : Ext D0 ρ (memC L base ops.length s.mem) w ρ' (DN D0 B base ops.length (addL L i) nx') (memC (addL L i) base ops.length m') w')
  (hv : VR ρ' (DN D0 B base ops.length (addL L i) nx') (OX X ρ' (memC (addL L i) base ops.length m')) w' v x)
  (c6 : ∀ c ∈ recs, c.i ∉ T tr i → ∀ oc, RecOK P Γ ops tr base s0 s c oc → c.want = true → kind P oc.op = .pure → ∃ m k, aStep P Γ { sl := c.sl, mem := seen tr base ops.length c.i s'.mem, nx := s'.nx, nt := s'.nt } oc.op = some (c.v, m, k)) :
  Inv P Γ H ops ord tr base B D0 X ds K Kp s0 ρ0 w0 (addL L i) (pre ++ [i]) r recs' s' ρ' (a.put o.dst x) w' := by
 obtain ⟨hi1, hi2, hi3⟩ := not_pre st h.eq
 have hLi : L i = false := by
  cases hL : L i with
  | false => rfl
  | true => exact absurd (h.Lpre i hL) hi1
 obtain ⟨hT, hself⟩ := ready_T st h ho hrd
 obtain ⟨e1, e2, e3, e4, e5⟩ := stepSt_parts hst
 have hdk : ∀ k ok d, k ≠ i → ops[k]? = some ok → ok.dst = some d → o.dst ≠ some d := fun k ok d hki hok hd e => hki (st.dst k i ok o d hok ho hd e)
 have hne : ∀ k ∈ pre, k ≠ i := fun k hk e => hi1 (e ▸ hk)
 refine ⟨by rw [h.eq]; simp, hrun, fun k hk => ?_, fun k hk he' => ?_, fun k ok hk hok j hj => ?_, by rw [e2]; exact Nat.le_trans h.nx hnx, by rw [e3]; exact h.nt, by rw [e1, e2]; exact hm, by rw [e1]; exact c1, by rw [e1, e2]; exact c2, ?_, ?_, ?_, ?_, ?_, ?_, ?_, by rw [e1, e2]; exact h.ext.trans ext⟩
 ·rcases addL_iff.1 hk with rfl | hk
  ·simp
  ·exact List.mem_append_left _ (h.Lpre k hk)
 ·rcases List.mem_append.1 hk with hk | hk
  ·exact addL_old (h.effL k hk he')
  ·simp at hk; subst hk; exact addL_self
 ·rcases addL_iff.1 hk with rfl | hk
  ·rw [ho] at hok; cases hok; exact addL_old (hrd j hj)
  ·exact addL_old (h.clos k ok hk hok j hj)
 ·cases hdd : o.dst <;> simpa [Act.put] using h.def0
 ·cases hdd : o.dst <;> simpa [Act.put] using h.size
 ·intro k ok d u hk hok hdd hl
  rw [e1, e2]
  rcases addL_iff.1 hk with rfl | hk'
  ·rw [ho] at hok; cases hok
   obtain ⟨q1, q2⟩ := e5 d hdd
   rw [q2] at hl
   cases hl
   rw [hdd, put_eq (by rw [h.size, ← h.nt]; exact q1)]
   exact hv
  ·have hn := hdk k ok d (hne k (h.Lpre k hk')) hok hdd
   rw [put_ne hn]
   rw [e4 d hn] at hl
   exact mono _ _ (h.slotL k ok d u hk' hok hdd hl)
 ·intro t u ht hl
  rw [e1, e2, put_ne (ht i o addL_self ho)]
  exact mono _ _ (h.slot0 t u (fun k ok hk hok => ht k ok (addL_old hk) hok) hl)
 ·intro t ht
  rw [e4 t (ht i (by simp) o ho)]
  exact h.virt0 t fun k hk ok hok => ht k (List.mem_append_left _ hk) ok hok
 ·intro k hk hLk
  have hki : k ≠ i := fun e => by rw [e, addL_self] at hLk; cases hLk
  have hLk' : L k = false := by rwa [addL_ne hki] at hLk
  have hkp : k ∈ pre := by
   rcases List.mem_append.1 hk with hk | hk
   ·exact hk
   ·simp at hk; exact absurd hk hki
  obtain ⟨rc, hrc, rfl, ok, hok⟩ := h.recs k hkp hLk'
  have hnT : rc.i ∉ T tr i := fun h' => by have := hT _ h'; rw [hLk'] at this; cases this
  have hrl := lt_of_get hok.op
  refine ⟨rc, hsub _ hrc, rfl, ok, hok.op, hok.want, fun d hd => ?_, fun t ht j hj oj hoj hdj => ?_, hok.look0, hok.no, hok.neff, fun hc p hp e => ?_, fun hw' hk' => ?_, fun hw' hk' => ?_⟩
  ·rw [e4 d (hdk _ ok d hki hok.op hd)]; exact hok.dst d hd
  ·rw [e4 t (hdk j oj t (hne j (T_pre st h.eq hkp j hj)) hoj hdj)]
   exact hok.lookT t ht j hj oj hoj hdj
  ·rw [e1] at hp
   rcases c3 p hp (by omega) (by omega) with h1 | h1
   ·rw [show p.1 - base = rc.i by omega, hLk] at h1; cases h1
   ·exact hok.noal hc p h1 e
  ·exact c6 rc hrc hnT ok hok hw' hk'
  ·obtain ⟨b, k1, k2, q1, q2⟩ := hok.alc hw' hk'
   refine ⟨b, k1, k2, by rw [e3]; exact q1, ?_⟩
   rw [e1]
   refine c4 _ q2 (by simp) (by simp; exact hrl) ?_
   simpa using hLk
 ·intro p hp h1 h2
  rw [e1] at hp
  rcases c3 p hp h1 h2 with h3 | h3
  ·rcases addL_iff.1 h3 with h3 | h3
   ·rw [h3]; simp
   ·exact List.mem_append_left _ (h.Lpre _ h3)
  ·exact List.mem_append_left _ (h.alid p h3 h1 h2)
end
end Go.Ax
namespace Go.Ax
open Go
theorem back_sub {m l : Mem} : ∀ p ∈ back m l, p ∈ l := fun p hp => (List.mem_filter.1 hp).1
theorem back_dis {m l : Mem} : ∀ p ∈ m, ∀ q ∈ back m l, p.1 ≠ q.1 := by
 intro p hp q hq e
 have := (List.mem_filter.1 hq).2
 rw [hasKey_iff.2 ⟨p, hp, e⟩] at this
 cases this
theorem chk_mem {P : Program} {Γ : List (Nat × AV)} {ops : List Oper} {tr : List (List Nat)} {base x : Nat} {s : St} : ∀ {recs : List Rec}, chk P Γ ops tr base x s recs → ∀ c ∈ recs, c.i ∉ T tr x → c.want = true →
  ∀ o, ops[c.i]? = some o → kind P o.op = .pure → still o.op = false → ∃ m k, aStep P Γ { sl := c.sl, mem := seen tr base ops.length c.i s.mem, nx := s.nx, nt := s.nt } o.op = some (c.v, m, k)
 | [], h, c, hc, _, _, _, _, _, _ => by simp at hc
 | r :: rs, h, c, hc, h1, h2, o, ho, hk, hs => by
  obtain ⟨h', h⟩ := h
  rcases List.mem_cons.1 hc with rfl | hc
  ·refine h' ?_ h2 o ho hk hs
   cases hm : mem1 c.i (T tr x) with
   | false => rfl
   | true => exact absurd (mem1_iff.1 hm) h1
  ·exact chk_mem h c hc h1 h2 o ho hk hs
def isDst (t : Nat) : List Oper → Bool
 | [] => false
 | o :: r => match o.dst with
  | some d => match Nat.beq d t with
   | true => true
   | false => isDst t r
  | none => isDst t r
def noDst (ops : List Oper) : List (Nat × AV) → List (Nat × AV)
 | [] => []
 | (t, v) :: r => match isDst t ops with
  | true => noDst ops r
  | false => (t, v) :: noDst ops r
theorem isDst_sound {t : Nat} : ∀ {ops : List Oper}, isDst t ops = false → ∀ (i : Nat) (o : Oper), ops[i]? = some o → o.dst ≠ some t
 | [], _, i, o, h => by simp at h
 | p :: r, h, i, o, ho => by
  simp only [isDst] at h
  have key : isDst t r = false ∧ p.dst ≠ some t := by
   split at h
   ·rename_i d hd
    split at h
    ·cases h
    ·rename_i hb
     exact ⟨h, by rw [hd]; intro e; cases e; exact Nat.ne_of_beq_eq_false hb rfl⟩
   ·rename_i hd
    exact ⟨h, by rw [hd]; intro e; cases e⟩
  cases i with
  | zero => simp at ho; subst ho; exact key.2
  | succ i => exact isDst_sound key.1 i o (by simpa using ho)
theorem lk_noDst {ops : List Oper} : ∀ {sl : List (Nat × AV)} {t : Nat} {v : AV}, lk (noDst ops sl) t = some v → lk sl t = some v ∧ isDst t ops = false
 | [], t, v, h => by simp [noDst, lk] at h
 | (i, u) :: r, t, v, h => by
  simp only [noDst] at h
  split at h
  ·rename_i hd
   obtain ⟨h1, h2⟩ := lk_noDst h
   refine ⟨?_, h2⟩
   simp only [lk]
   split
   ·rename_i e
    rw [Nat.eq_of_beq_eq_true e] at hd
    rw [hd] at h2
    cases h2
   ·exact h1
  ·rename_i hd
   simp only [lk] at h ⊢
   split at h
   ·rename_i e
    rw [Nat.eq_of_beq_eq_true e] at hd
    exact ⟨h, hd⟩
   ·exact lk_noDst h
section
variable {P : Program} {Γ : List (Nat × AV)} {H : Hk} {ops : List Oper} {ord : List Nat} {tr : List (List Nat)} {base B : Nat} {D0 X : Nat → Prop} {ds : List Deferred × Nat} {K : St → Prop} {Kp : Value → Mem → Nat → Prop} {s0 : St} {ρ0 : Nat → Loc} {w0 : World}
 {L : Nat → Bool} {pre rest : List Nat} {recs : List Rec} {s : St} {ρ ρ' : Nat → Loc} {a : Act} {w w' : World}
theorem Inv.now (rd : Option Nat) (st : Stat P ops ord tr) (hH : HkOK P Γ B H) (hD : ∀ i, D0 i → i < B) (hB : B ≤ base) {i : Nat} {r : List Nat} (h : Inv P Γ H ops ord tr base B D0 X ds K Kp s0 ρ0 w0 L pre (i :: r) recs s ρ a w) {o : Oper} (ho : ops[i]? = some o) (hrd : ∀ j ∈ preds o, L j = true)
  (he : isEffAt P ops i = true) (Q : Exit → Act → World → Prop) (K' : Act → World → Prop)
  (hK' : ∀ pre' rest' recs' s' ρ' a' w', Inv P Γ H ops ord tr base B D0 X ds K Kp s0 ρ0 w0 (addL L i) pre' rest' recs' s' ρ' a' w' → K' a' w')
  (hP : ∀ (x : Value) (m' : Mem) (nx' : Nat) (ρ' : Nat → Loc) (w' : World), Kp x m' nx' → B ≤ nx' → SR Γ X ds ρ' (dn D0 B nx') ⟨noDst ops s0.sl, m', nx', s0.nt⟩ a w' → Ext D0 ρ0 s0.mem w0 ρ' (dn D0 B nx') m' w' → Q (.panic [pe x]) a w') :
  if Region.wanted o (yielded ops.toArray a.tmps) then o.wpIn (FW rd) 0 P a w K' Q else K' (a.put o.dst undef) w := by
 obtain ⟨hi1, hi2, hi3⟩ := not_pre st h.eq
 have hLi : L i = false := by
  cases hL : L i with
  | false => rfl
  | true => exact absurd (h.Lpre i hL) hi1
 obtain ⟨hT, hself⟩ := ready_T st h ho hrd
 have hil := lt_of_get ho
 have hkind : kind P o.op = .eff := by
  simp only [isEffAt, ho] at he
  split at he
  ·assumption
  ·cases he
 have hp := parts_at (base := base) (n := ops.length) h.nod hT
 obtain ⟨m1, v1⟩ := h.mr.part hp
 have hsm : ∀ t v, lk (pickSl s.sl (looks ops o)) t = some v → VR ρ (DN D0 B base ops.length L s.nx) (OX X ρ (memC L base ops.length s.mem)) w v (a.tmps.getD t undef) := by
  intro t v hl
  obtain ⟨ht, hl⟩ := lk_pick hl
  by_cases hj : ∃ j ∈ pre, ∃ oj, ops[j]? = some oj ∧ oj.dst = some t
  ·obtain ⟨j, hj, oj, hoj, hd⟩ := hj
   rcases st.look i j o oj t (fun e => hi1 (e ▸ hj)) ho hoj hd ht with h1 | h1
   ·exact h.slotL j oj t v (hT j h1) hoj hd hl
   ·exact absurd (T_pre st h.eq hj i h1) hi1
  ·have hnj : ∀ j ∈ pre, ∀ oj, ops[j]? = some oj → oj.dst ≠ some t := fun j h1 oj h2 h3 => hj ⟨j, h1, oj, h2, h3⟩
   rw [h.virt0 t hnj] at hl
   exact h.slot0 t v (fun k ok hk hok => hnj k (h.Lpre k hk) ok hok) hl
 have hs1 : SR Γ (XR X ρ (memC L base ops.length (unseen tr base ops.length i s.mem))) ds ρ (DN D0 B base ops.length L s.nx) { sl := pickSl s.sl (looks ops o), mem := seen tr base ops.length i s.mem, nx := s.nx, nt := s.nt } a w :=
  ⟨m1, hp.mks (h.ext.mks h.def0), by rw [h.size, ← h.nt], fun t v hl => v1 _ _ (hsm t v hl)⟩
 have hnokey : ∀ p ∈ s.mem, p.1 ≠ base + i := by
  intro p hp' e
  have := h.alid p hp' (by omega) (by omega)
  rw [e] at this
  simp at this
  exact hi1 this
 have behind : ∀ (v : AV) (x : Value) (m : Mem) (nx' : Nat) (s' : St) (ρ' : Nat → Loc) (w' : World), stepSt s o.dst v (m ++ back m (unseen tr base ops.length i s.mem)) nx' = some s' → chk P Γ ops tr base i s' recs →
   vrun P Γ H ops tr base K Kp r recs s' → s.nx ≤ nx' → MR Γ (XR X ρ (memC L base ops.length (unseen tr base ops.length i s.mem))) ρ' (DN D0 B base ops.length (addL L i) nx') m w' →
   VR ρ' (DN D0 B base ops.length (addL L i) nx') (OX (XR X ρ (memC L base ops.length (unseen tr base ops.length i s.mem))) ρ' m) w' v x →
   Ext (DN D0 B base ops.length L s.nx) ρ (seen tr base ops.length i s.mem) w ρ' (DN D0 B base ops.length (addL L i) nx') m w' → K' (a.put o.dst x) w' := by
  intro v x m nx' s' ρ' w' hst hchk hrun hnx hm hv hext
  have eL : ∀ l : Mem, (∀ p ∈ l, p ∈ s.mem) → memC (addL L i) base ops.length l = memC L base ops.length l := fun l hl => memC_add fun p hp' => hnokey p (hl p hp')
  have hun : ∀ p ∈ back m (unseen tr base ops.length i s.mem), p ∈ s.mem := fun p hp' => (List.mem_filter.1 (back_sub p hp')).1
  obtain ⟨j1, j2, j3, j4⟩ := h.mr.join hp hm hext (rest' := memC (addL L i) base ops.length (back m (unseen tr base ops.length i s.mem)))
   (fun p hp' => by
    rw [eL _ hun] at hp'
    obtain ⟨q1, q2⟩ := List.mem_filter.1 hp'
    exact List.mem_filter.2 ⟨back_sub p q1, q2⟩)
   (fun p hp' q hq => back_dis p hp' q (List.mem_filter.1 hq).1) (filter_nodup (filter_nodup (filter_nodup h.nod)))
  have hnod : ((m ++ back m (unseen tr base ops.length i s.mem)).map (·.1)).Nodup := by
   rw [List.map_append, List.nodup_append]
   refine ⟨hm.nod, filter_nodup (filter_nodup h.nod), fun p hp' q hq => ?_⟩
   obtain ⟨p', hp1, rfl⟩ := List.mem_map.1 hp'
   obtain ⟨q', hq1, rfl⟩ := List.mem_map.1 hq
   exact back_dis p' hp1 q' hq1
  obtain ⟨l1, l2, l3⟩ := j1.less (mem' := memC (addL L i) base ops.length (m ++ back m (unseen tr base ops.length i s.mem))) (fun p hp' => by
   obtain ⟨q1, q2⟩ := List.mem_filter.1 hp'
   rcases List.mem_append.1 q1 with q1 | q1
   ·exact List.mem_append_left _ q1
   ·exact List.mem_append_right _ (List.mem_filter.2 ⟨q1, q2⟩)) (filter_nodup hnod)
  have hcur : base + ops.length ≤ nx' := Nat.le_trans h.nx hnx
  refine hK' _ _ _ _ ρ' _ w' (h.head st ho hrd he (fun c hc => hc) hst hrun hnx hnod ?_ ?_ ?_ l1 (fun u y hu => l2 _ _ (j3 _ _ hu)) ((j4 D0 fun i hi => .inl hi).trans (l3 D0 fun i hi => .inl hi)) (l2 _ _ (j2 _ _ hv)) ?_)
  ·intro p hp'
   rcases List.mem_append.1 hp' with hp' | hp'
   ·exact DN_lt hD hB hcur _ (hm.low p hp')
   ·have := h.low p (hun p hp'); omega
  ·intro p hp' h1 h2
   rcases List.mem_append.1 hp' with hp' | hp'
   ·left
    have := hm.low p hp'
    rw [show p.1 = base + (p.1 - base) by omega] at this
    exact DN_at hD hB (by omega) this
   ·exact .inr (hun p hp')
  ·intro p hp' h1 h2 h3
   refine List.mem_append_right _ (List.mem_filter.2 ⟨List.mem_filter.2 ⟨hp', ?_⟩, ?_⟩)
   ·cases hv : vis tr base ops.length i p.1 with
    | false => rfl
    | true =>
     have := hT _ (vis_iff.1 hv ⟨h1, h2⟩)
     rw [addL_old this] at h3
     cases h3
   ·cases hh : hasKey p.1 m with
    | false => rfl
    | true =>
     obtain ⟨q, hq, e⟩ := hasKey_iff.1 hh
     have := hm.low q hq
     rw [e, show p.1 = base + (p.1 - base) by omega] at this
     have := DN_at hD hB (by omega) this
     rw [h3] at this
     cases this
  ·intro c hc hcT oc hoc hw hk
   cases hst' : still oc.op with
   | false => exact chk_mem hchk c hc hcT hw oc hoc.op hk hst'
   | true =>
    obtain ⟨m, k, q⟩ := hoc.pur hw hk
    exact aStep_still (s := { sl := c.sl, mem := seen tr base ops.length c.i s.mem, nx := s.nx, nt := s.nt }) (s' := { sl := c.sl, mem := seen tr base ops.length c.i s'.mem, nx := s'.nx, nt := s'.nt }) hst' rfl q
 have hrun := h.run
 simp only [vrun, ho] at hrun
 split at hrun
 ·exact hrun.elim
 ·rename_i hw
  rw [aWant_pick (s' := { sl := pickSl s.sl (looks ops o), mem := seen tr base ops.length i s.mem, nx := s.nx, nt := s.nt }) (o := o) rfl] at hw
  rw [aWant_sound hs1 hw]
  simp only [Bool.false_eq_true, if_false]
  split at hrun
  ·rename_i s' hst
   obtain ⟨w1, w2, w3⟩ := h.mr.widen (DN_add (cur := s.nx) (cur' := s.nx) (i := i) (Nat.le_refl _))
   have em : memC (addL L i) base ops.length s.mem = memC L base ops.length s.mem := memC_add hnokey
   obtain ⟨e1, e2, e3, e4, e5⟩ := stepSt_parts hst
   refine hK' _ _ _ _ ρ _ w (h.head st ho hrd he (fun c hc => List.mem_cons_of_mem _ hc) hst hrun (Nat.le_refl _) h.nod h.low (fun p hp' _ _ => .inr hp') (fun p hp' _ _ _ => hp') (by rw [em]; exact w1) (by rw [em]; exact w2) (by rw [em]; exact w3 D0 fun i hi => .inl hi) undef_VR ?_)
   intro c hc hcT oc hoc hw hk
   rw [e1, e2, e3]
   exact hoc.pur hw hk
  ·exact hrun.elim
 ·rename_i hw
  rw [aWant_pick (s' := { sl := pickSl s.sl (looks ops o), mem := seen tr base ops.length i s.mem, nx := s.nx, nt := s.nt }) (o := o) rfl] at hw
  rw [aWant_sound hs1 hw]
  simp only [if_true]
  simp only [hkind] at hrun
  split at hrun
  ·rename_i v m nx' hstep
   split at hrun
   ·rename_i s' hst
    obtain ⟨hchk, hrun⟩ := hrun
    ·rw [aStep_congr (s := { s with mem := seen tr base ops.length i s.mem }) (s' := { sl := pickSl s.sl (looks ops o), mem := seen tr base ops.length i s.mem, nx := s.nx, nt := s.nt }) (ev_pick (ops := ops) (o := o) rfl) rfl rfl] at hstep
     have hnx : s.nx ≤ nx' := by have h' := aStep_nx hstep; dsimp only at h'; omega
     obtain ⟨x, n, w', ρ', r1, r2, r3, r4, r5, r6⟩ := aStep_sound (P := P) (s := { sl := pickSl s.sl (looks ops o), mem := seen tr base ops.length i s.mem, nx := s.nx, nt := s.nt }) (D' := DN D0 B base ops.length (addL L i) nx')
      (fun h' => Nat.lt_irrefl _ (DN_lt hD hB h.nx _ h')) (DN_add hnx) hs1 o (fun (e : nx' = s.nx + 1) => .inr (.inr (.inr ⟨h.nx, by rw [e]; exact Nat.lt_succ_self _⟩))) hstep
     have fin := behind v x m nx' s' ρ' w' hst hchk hrun hnx r3 r4 (r6 _ fun i hi => hi)
     refine oper_in (aStep_nd hstep) r1 ?_
     rcases r2 with rfl | ⟨rfl, rfl⟩
     ·exact fin
     ·exact fin
   ·exact hrun.elim
  ·split at hrun
   ·rename_i F args hcall
    rw [aCall_congr (s := s) (s' := { sl := pickSl s.sl (looks ops o), mem := seen tr base ops.length i s.mem, nx := s.nx, nt := s.nt }) (ev_pick (ops := ops) (o := o) rfl)] at hcall
    obtain ⟨vs, r1, hvs⟩ := aCall_sound (P := P) hs1 o hcall
    refine oper_call (aCall_nd hcall) r1 ?_
    refine ((hH.call _ _ _ _ _ _ hrun).run _ _ ρ w vs (DN_lt hD hB h.nx) m1 hvs).mono ?_
    rintro e w' ⟨mem', nx', ρ', hnx, m2, ext2, hres⟩
    have hwd : ∀ id, dn (DN D0 B base ops.length L s.nx) s.nx nx' id → DN D0 B base ops.length (addL L i) nx' id := by
     rintro id (h1 | ⟨h1, h2⟩)
     ·exact DN_add hnx id h1
     ·exact .inr (.inr (.inr ⟨Nat.le_trans h.nx h1, h2⟩))
    rcases hres with ⟨rv, v, rfl, hq, v2⟩ | ⟨x, rfl, hq⟩
    ·obtain ⟨m3, mono3, _⟩ := m2.widen hwd
     split at hq
     ·rename_i s' hst
      exact behind rv v mem' nx' s' ρ' w' hst hq.1 hq.2 hnx m3 (mono3 _ _ v2) (ext2.wide hwd)
     ·exact hq.elim
    ·have hdn : ∀ id, dn (DN D0 B base ops.length L s.nx) s.nx nx' id → dn D0 B nx' id := by
      have := h.nx
      rintro id ((h1 | ⟨h1, h2⟩ | ⟨k, h1, h2, h3⟩ | ⟨h1, h2⟩) | ⟨h1, h2⟩)
      ·exact .inl h1
      ·exact .inr ⟨h1, by omega⟩
      ·exact .inr ⟨by omega, by omega⟩
      ·exact .inr ⟨by omega, by omega⟩
      ·exact .inr ⟨by omega, h2⟩
     obtain ⟨m3, mono3, _⟩ := m2.widen hdn
     obtain ⟨j1, j2, j3, j4⟩ := h.mr.join hp m3 (ext2.wide hdn) (rest' := []) (fun p hp' => by cases hp') (fun p hp' q hq' => by cases hq') (by simp)
     rw [List.append_nil] at j1 j2 j3 j4
     refine hP x mem' nx' ρ' w' hq (by have := h.nx; omega) ⟨j1, (h.ext.trans (j4 D0 fun i hi => .inl hi)).mks h.def0, h.size, fun t v hl => ?_⟩ (h.ext.trans (j4 D0 fun i hi => .inl hi))
     obtain ⟨hl1, hl2⟩ := lk_noDst hl
     exact j3 _ _ (h.slot0 t v (fun k ok hk hok => isDst_sound hl2 k ok hok) hl1)
   ·exact hrun.elim
end
def unl (L : Nat → Bool) : Nat → Nat
 | 0 => 0
 | n + 1 => unl L n + (if L n then 0 else 1)
theorem unl_same {L : Nat → Bool} {i : Nat} : ∀ {n : Nat}, n ≤ i → unl (addL L i) n = unl L n
 | 0, _ => rfl
 | n + 1, h => by
  simp only [unl]
  rw [unl_same (by omega), addL_ne (by omega)]
theorem unl_add {L : Nat → Bool} {i : Nat} (hL : L i = false) : ∀ {n : Nat}, i < n → unl (addL L i) n + 1 = unl L n
 | n + 1, h => by
  simp only [unl]
  by_cases hi : i = n
  ·subst hi
   rw [unl_same (Nat.le_refl _), addL_self, hL]
   simp
  ·rw [addL_ne (Ne.symm hi), ← unl_add hL (n := n) (by omega)]
   omega
theorem unl_zero {L : Nat → Bool} : ∀ {n : Nat}, unl L n = 0 → ∀ i, i < n → L i = true
 | n + 1, h, i, hi => by
  simp only [unl] at h
  by_cases hn : i = n
  ·subst hn
   cases hL : L i with
   | true => rfl
   | false => rw [hL] at h; simp at h
  ·exact unl_zero (n := n) (by omega) i (by omega)
section
variable {P : Program} {Γ : List (Nat × AV)} {H : Hk} {ops : List Oper} {ord : List Nat} {tr : List (List Nat)} {base B : Nat} {D0 X : Nat → Prop} {ds : List Deferred × Nat} {K : St → Prop} {Kp : Value → Mem → Nat → Prop} {s0 : St} {ρ0 : Nat → Loc} {w0 : World}
theorem mem_ready {ops : List Oper} {listed : Array Bool} {L : Nat → Bool} (hsz : listed.size = ops.length) (hl : ∀ k, k < ops.length → listed[k]? = some (L k)) (hout : ∀ k, L k = true → k < ops.length) {i : Nat} (hi : i ∈ Region.ready .any ops.toArray listed) :
  ∃ o, ops[i]? = some o ∧ L i = false ∧ ∀ j ∈ preds o, L j = true := by
 simp only [Region.ready, List.mem_filter, List.mem_range, List.size_toArray, Bool.and_eq_true] at hi
 obtain ⟨h1, h2, h3⟩ := hi
 have ho : ops[i]? = some ops[i] := by simp [h1]
 refine ⟨ops[i], ho, ?_, fun j hj => ?_⟩
 ·have := hl i h1
  simp only [Array.getD_eq_getD_getElem?, this, Option.getD_some] at h2
  simpa using h2
 ·simp only [List.getElem?_toArray, ho, Option.map_some, Option.getD_some, Array.all_eq_true] at h3
  simp only [preds, List.mem_map, List.mem_filter, Array.mem_toList_iff] at hj
  obtain ⟨e, ⟨he1, he2⟩, rfl⟩ := hj
  obtain ⟨k, hk, rfl⟩ := Array.mem_iff_getElem.1 he1
  have := h3 k hk
  rw [he2] at this
  simp only [Bool.not_true, Bool.false_or] at this
  rcases Nat.lt_or_ge (ops[i].after[k].on) ops.length with hlt | hge
  ·have h4 := hl _ hlt
   simp only [Array.getD_eq_getD_getElem?, h4, Option.getD_some] at this
   exact this
  ·have hge' : listed.size ≤ ops[i].after[k].on := by omega
   simp [hge'] at this
theorem Inv.main (rd : Option Nat) (st : Stat P ops ord tr) (hH : HkOK P Γ B H) (hD : ∀ i, D0 i → i < B) (hB : B ≤ base) (Q : Exit → Act → World → Prop)
  (hQ : ∀ (s' : St) (ρ' : Nat → Loc) (a' : Act) (w' : World), K s' → B ≤ s'.nx → SR Γ X ds ρ' (dn D0 B s'.nx) s' a' w' → Ext D0 ρ0 s0.mem w0 ρ' (dn D0 B s'.nx) s'.mem w' → Q .normal a' w')
  (hP : ∀ (x : Value) (m' : Mem) (nx' : Nat) (ρ' : Nat → Loc) (a' : Act) (w' : World), Kp x m' nx' → B ≤ nx' → SR Γ X ds ρ' (dn D0 B nx') ⟨noDst ops s0.sl, m', nx', s0.nt⟩ a' w' → Ext D0 ρ0 s0.mem w0 ρ' (dn D0 B nx') m' w' → Q (.panic [pe x]) a' w') :
  ∀ (fuel : Nat) (listed : Array Bool) (L : Nat → Bool) (pre rest : List Nat) (recs : List Rec) (s : St) (ρ : Nat → Loc) (a : Act) (w : World), unl L ops.length ≤ fuel → listed.size = ops.length → (∀ k, k < ops.length → listed[k]? = some (L k)) →
   Inv P Γ H ops ord tr base B D0 X ds K Kp s0 ρ0 w0 L pre rest recs s ρ a w → wpAnyIn (FW rd) 0 P .any ops.toArray Q fuel listed a w := by
 have done : ∀ (L : Nat → Bool) (pre rest : List Nat) (recs : List Rec) (s : St) (ρ : Nat → Loc) (a : Act) (w : World), (∀ i, i < ops.length → L i = true) →
   Inv P Γ H ops ord tr base B D0 X ds K Kp s0 ρ0 w0 L pre rest recs s ρ a w → Q .normal a w := by
  intro L pre rest recs s ρ a w hall h
  have hrest : rest = [] := by
   cases hr : rest with
   | nil => rfl
   | cons i r =>
    rw [hr] at h
    exact absurd (h.Lpre i (hall i (st.lt i (by rw [h.eq]; simp)))) (not_pre st h.eq).1
  subst hrest
  have hk := h.run
  simp only [vrun] at hk
  have hlt : ∀ i, L i = true → i < ops.length := fun i hi => st.lt i (by rw [h.eq]; simpa using h.Lpre i hi)
  have hdn : ∀ id, DN D0 B base ops.length L s.nx id → dn D0 B s.nx id := by
   rintro id (h1 | ⟨h1, h2⟩ | ⟨k, h1, h2, h3⟩ | ⟨h1, h2⟩)
   ·exact .inl h1
   ·exact .inr ⟨h1, by have := h.nx; omega⟩
   ·exact .inr ⟨by omega, by have := h.nx; omega⟩
   ·exact .inr ⟨by omega, h2⟩
  have hmem : memC L base ops.length s.mem = s.mem := by
   unfold memC
   refine List.filter_eq_self.2 fun p hp => keepC_iff.2 fun h' => hall _ (by omega)
  have hm := h.mr
  have hext := h.ext
  rw [hmem] at hm hext
  obtain ⟨w1, w2, w3⟩ := hm.widen hdn
  refine hQ s ρ a w hk (by have := h.nx; omega) ⟨w1, hext.mks h.def0, by rw [h.size, ← h.nt], fun t v hl => ?_⟩ (hext.wide hdn)
  refine w2 _ _ ?_
  by_cases hj : ∃ j ∈ pre, ∃ oj, ops[j]? = some oj ∧ oj.dst = some t
  ·obtain ⟨j, hj, oj, hoj, hd⟩ := hj
   have := h.slotL j oj t v (hall j (lt_of_get hoj)) hoj hd hl
   rwa [hmem] at this
  ·have hnj : ∀ j ∈ pre, ∀ oj, ops[j]? = some oj → oj.dst ≠ some t := fun j h1 oj h2 h3 => hj ⟨j, h1, oj, h2, h3⟩
   rw [h.virt0 t hnj] at hl
   have := h.slot0 t v (fun k ok hk hok => hnj k (h.Lpre k hk) ok hok) hl
   rwa [hmem] at this
 have empty : ∀ (listed : Array Bool) (L : Nat → Bool), (∀ k, k < ops.length → listed[k]? = some (L k)) → (∀ i o, L i = true → ops[i]? = some o → ∀ j ∈ preds o, L j = true) → Region.ready .any ops.toArray listed = [] → ∀ i, i < ops.length → L i = true := by
  intro listed L hl hcl hr
  have key : ∀ (post pre : List Nat), ord = pre ++ post → (∀ i ∈ pre, L i = true) → ∀ i ∈ ord, L i = true := by
   intro post
   induction post with
   | nil => intro pre e ih i hi; rw [e] at hi; simp at hi; exact ih i hi
   | cons x post ihp =>
    intro pre e ih'
    refine ihp (pre ++ [x]) (by rw [e]; simp) fun i hi => ?_
    rcases List.mem_append.1 hi with hi | hi
    ·exact ih' i hi
    ·simp at hi
     subst hi
     cases hL : L i with
     | true => rfl
     | false =>
      exfalso
      have hlt : i < ops.length := st.lt i (by rw [e]; simp)
      have ho : ops[i]? = some ops[i] := by simp [hlt]
      have hrd := st.resp pre i post e _ ho
      have : i ∈ Region.ready .any ops.toArray listed := by
       simp only [Region.ready, List.mem_filter, List.mem_range, List.size_toArray, Bool.and_eq_true]
       refine ⟨hlt, ?_, ?_⟩
       ·simp [Array.getD_eq_getD_getElem?, hl i hlt, hL]
       ·simp only [List.getElem?_toArray, ho, Option.map_some, Option.getD_some, Array.all_eq_true]
        intro k hk
        cases hb : Region.binds .any ops[i].after[k] with
        | false => rfl
        | true =>
         have hj : ops[i].after[k].on ∈ preds ops[i] := by
          simp only [preds, List.mem_map, List.mem_filter, Array.mem_toList_iff]
          exact ⟨_, ⟨Array.getElem_mem hk, hb⟩, rfl⟩
         have h1 := ih' _ (hrd _ hj)
         have h2 : ops[i].after[k].on < ops.length := st.lt _ (by rw [e]; exact List.mem_append_left _ (hrd _ hj))
         simp [Array.getD_eq_getD_getElem?, hl _ h2, h1]
      rw [hr] at this
      cases this
  intro i hi
  exact key ord [] (by simp) (by simp) i (st.full i hi)
 intro fuel
 induction fuel with
 | zero =>
  intro listed L pre rest recs s ρ a w hu hsz hl h
  have hall := unl_zero (Nat.le_zero.1 hu)
  refine ⟨?_, done L pre rest recs s ρ a w hall h⟩
  rw [List.eq_nil_iff_forall_not_mem]
  intro i hi
  obtain ⟨o, ho, hL, _⟩ := mem_ready hsz hl (fun k hk => st.lt k (by rw [h.eq]; exact List.mem_append_left _ (h.Lpre k hk))) hi
  rw [hall i (lt_of_get ho)] at hL
  cases hL
 | succ fuel ih =>
  intro listed L pre rest recs s ρ a w hu hsz hl h
  have hout : ∀ k, L k = true → k < ops.length := fun k hk => st.lt k (by rw [h.eq]; exact List.mem_append_left _ (h.Lpre k hk))
  refine ⟨fun hr => done L pre rest recs s ρ a w (empty listed L hl h.clos hr) h, fun i hi => ?_⟩
  obtain ⟨o, ho, hLi, hrd⟩ := mem_ready hsz hl hout hi
  have hil := lt_of_get ho
  obtain ⟨pre', rest', recs', s', h', hfar⟩ := h.far st
  have next : ∀ pre2 rest2 recs2 s2 ρ2 a2 w2, Inv P Γ H ops ord tr base B D0 X ds K Kp s0 ρ0 w0 (addL L i) pre2 rest2 recs2 s2 ρ2 a2 w2 → wpAnyIn (FW rd) 0 P .any ops.toArray Q fuel (listed.setIfInBounds i true) a2 w2 := by
   intro pre2 rest2 recs2 s2 ρ2 a2 w2 h2
   refine ih _ (addL L i) pre2 rest2 recs2 s2 ρ2 a2 w2 ?_ (by simpa using hsz) (fun k hk => ?_) h2
   ·have := unl_add hLi hil; omega
   ·by_cases hki : k = i
    ·subst hki; rw [addL_self]; simp [hsz, hk]
    ·rw [addL_ne hki, Array.getElem?_setIfInBounds_ne (Ne.symm hki)]; exact hl k hk
  have fin : if Region.wanted o (yielded ops.toArray a.tmps) then o.wpIn (FW rd) 0 P a w (wpAnyIn (FW rd) 0 P .any ops.toArray Q fuel (listed.setIfInBounds i true)) Q else (wpAnyIn (FW rd) 0 P .any ops.toArray Q fuel (listed.setIfInBounds i true)) (a.put o.dst undef) w := by
   by_cases hip : i ∈ pre'
   ·exact h'.step rd st hD hB hip hLi ho hrd Q _ fun ρ2 a2 w2 h2 => next _ _ _ _ ρ2 a2 w2 h2
   ·have hio := st.full i hil
    rw [h'.eq] at hio
    cases hrs : rest' with
    | nil => rw [hrs] at hio; simp at hio; exact absurd hio hip
    | cons x r =>
     have he := hfar x r hrs
     rw [hrs] at h' hio
     have hix : i = x := by
      rcases List.mem_append.1 hio with h1 | h1
      ·exact absurd h1 hip
      ·rcases List.mem_cons.1 h1 with h1 | h1
       ·exact h1
       ·exfalso
        have h2 := st.eff pre' x r h'.eq he i h1
        have h3 := (ready_T st h' ho hrd).1 x h2
        exact (not_pre st h'.eq).1 (h'.Lpre x h3)
     subst hix
     exact h'.now rd st hH hD hB ho hrd he Q _ (fun pre2 rest2 recs2 s2 ρ2 a2 w2 h2 => next pre2 rest2 recs2 s2 ρ2 a2 w2 h2) fun x m' nx' ρ' w' => hP x m' nx' ρ' a w'
  simp only [wpOpIn, List.getElem?_toArray, ho]
  split
  ·rename_i hw; rw [if_pos hw] at fin; exact fin
  ·rename_i hw; rw [if_neg hw] at fin; exact ⟨fun _ _ => trivial, fin⟩
end
end Go.Ax
namespace Go.Ax
open Go
theorem MR.same {Γ : List (Nat × AV)} {X : Nat → Prop} {ρ : Nat → Loc} {D : Nat → Prop} {mem : Mem} {w w' : World} (hm : MR Γ X ρ D mem w) (hh : w'.heap = w.heap) (hos : Env w w') :
  MR Γ X ρ D mem w' ∧ (∀ v x, VR ρ D (OX X ρ mem) w v x → VR ρ D (OX X ρ mem) w' v x) ∧ ∀ A : Nat → Prop, (∀ i, A i → D i) → Ext A ρ mem w ρ D mem w' := by
 have hk : ∀ b, b < w.heap.size → ¬ OX X ρ mem b → ¬ OX X ρ mem b ∧ w'.heap[b]? = w.heap[b]? := fun b _ ho => ⟨ho, by rw [hh]⟩
 have hmono : ∀ v x, VR ρ D (OX X ρ mem) w v x → VR ρ D (OX X ρ mem) w' v x := fun v x h => h.mono (fun _ _ => rfl) (fun _ h => h) hk
 refine ⟨⟨hm.low, fun p hp hn => ?_, hm.emp, hm.inj, hm.nod, fun b hb => ?_, fun p hp => hmono _ _ (hm.glo p hp)⟩, hmono, fun A hA => ⟨fun i hi => hA i hi, fun _ _ => rfl, by rw [hh]; exact Nat.le_refl _, fun b _ _ => by rw [hh], fun p hp hn => .inl ⟨p, hp, hn, rfl⟩, hos⟩⟩
 ·obtain ⟨o, ho, hb⟩ := hm.blk p hp hn
  exact ⟨o, by rw [hh]; exact ho, hb.mono (fun _ _ => rfl) (fun _ h => h) hk⟩
 ·rw [hh]; exact hm.bar b hb
theorem aDraw_sound {P : Program} {Γ : List (Nat × AV)} {H : Hk} {B : Nat} (hH : HkOK P Γ B H) {ops : List Oper} {s : St} {K : St → Prop} {Kp : Value → Mem → Nat → Prop} (h : aDraw P Γ H ops s K Kp) (hmix : P.follows .mixedOrders = true) (id : Nat)
  (rd : Option Nat) (X : Nat → Prop) (ds : List Deferred × Nat) (D : Nat → Prop) (ρ : Nat → Loc) (a : Act) (w : World) (hD : ∀ i, D i → i < B) (hs : SR Γ X ds ρ (dn D B s.nx) s a w) (hB : B ≤ s.nx) (Q : Exit → Act → World → Prop)
  (hQ : ∀ (s' : St) (ρ' : Nat → Loc) (a' : Act) (w' : World), K s' → B ≤ s'.nx → SR Γ X ds ρ' (dn D B s'.nx) s' a' w' → Ext D ρ s.mem w ρ' (dn D B s'.nx) s'.mem w' → Q .normal a' w')
  (hP : ∀ (x : Value) (m' : Mem) (nx' : Nat) (ρ' : Nat → Loc) (a' : Act) (w' : World), Kp x m' nx' → B ≤ nx' → SR Γ X ds ρ' (dn D B nx') ⟨noDst ops s.sl, m', nx', s.nt⟩ a' w' → Ext D ρ s.mem w ρ' (dn D B nx') m' w' → Q (.panic [pe x]) a' w') :
  (Code.region id ops.toArray true).wpIn (FW rd) 0 P Q a w := by
 unfold aDraw at h
 split at h
 ·rename_i hok
  have st := okDraw_sound hok
  refine wpIn_region_any hmix ?_
  obtain ⟨m1, mono1, ext1⟩ := hs.mr.same (w' := { w with drawn := w.drawn + 1 }) rfl .go
  have hdn : ∀ id, dn D B s.nx id ↔ DN D B s.nx ops.length (fun _ => false) (s.nx + ops.length) id := by
   intro id
   constructor
   ·rintro (h1 | h1)
    ·exact .inl h1
    ·exact .inr (.inl h1)
   ·rintro (h1 | h1 | ⟨k, _, _, h3⟩ | ⟨h1, h2⟩)
    ·exact .inl h1
    ·exact .inr h1
    ·cases h3
    ·omega
  have hlow : ∀ p ∈ s.mem, p.1 < s.nx := fun p hp => dn_lt hD hB _ (hs.mr.low p hp)
  have hmem : memC (fun _ => false) s.nx ops.length s.mem = s.mem := by
   unfold memC
   refine List.filter_eq_self.2 fun p hp => keepC_iff.2 fun h' => ?_
   have := hlow p hp
   omega
  obtain ⟨m2, mono2, ext2⟩ := m1.widen (fun id h => (hdn id).1 h)
  have hsize : ops.toArray.size = ops.length := by simp
  refine Inv.main rd st hH hD hB Q (ρ0 := ρ) (s0 := s) (w0 := w) hQ hP ops.toArray.size _ (fun _ => false) [] (eager P ops ops.length [] (upto ops.length)) [] { s with nx := s.nx + ops.length } ρ a _ ?_ (by simp) (fun k hk => by simp [hk]) ?_
  ·rw [hsize]
   have : ∀ n, unl (fun _ => false) n = n := by
    intro n
    induction n with
    | zero => rfl
    | succ n ih => simp [unl, ih]
   rw [this]
   exact Nat.le_refl _
  ·refine ⟨by simp, h, (fun i hi => by cases hi), (fun i hi => by simp at hi), (fun i o hi => by cases hi), Nat.le_refl _, rfl, ?_, hs.mr.nod, fun p hp => ?_, hs.def0, hs.size, (fun i o d v hi => by cases hi), fun t v _ hl => ?_, fun t _ => rfl, (fun i hi => by simp at hi), fun p hp h1 h2 => ?_, ?_⟩
   ·simp only; rw [hmem]; exact m2
   ·have := hlow p hp; simp only; omega
   ·simp only; rw [hmem]; exact mono2 _ _ (mono1 _ _ (hs.slot t v hl))
   ·have := hlow p hp; omega
   ·simp only; rw [hmem]; exact (ext1 D fun i hi => .inl hi).trans (ext2 D fun i hi => .inl hi)
 ·exact h.elim
theorem MR.still {Γ : List (Nat × AV)} {X : Nat → Prop} {ρ : Nat → Loc} {D : Nat → Prop} {mem : Mem} {w w' : World} (hm : MR Γ X ρ D mem w) (hsz : w.heap.size ≤ w'.heap.size) (hh : ∀ b, b < w.heap.size → w'.heap[b]? = w.heap[b]?) (hos : Env w w') :
  MR Γ X ρ D mem w' ∧ ∀ A : Nat → Prop, (∀ i, A i → D i) → Ext A ρ mem w ρ D mem w' := by
 have hk : ∀ b, b < w.heap.size → ¬ OX X ρ mem b → ¬ OX X ρ mem b ∧ w'.heap[b]? = w.heap[b]? := fun b hb ho => ⟨ho, hh b hb⟩
 have hmono : ∀ v x, VR ρ D (OX X ρ mem) w v x → VR ρ D (OX X ρ mem) w' v x := fun v x h => h.mono (fun _ _ => rfl) (fun _ h => h) hk
 refine ⟨⟨hm.low, fun p hp hn => ?_, hm.emp, hm.inj, hm.nod, fun b hb => ⟨Nat.lt_of_lt_of_le (hm.bar b hb).1 hsz, (hm.bar b hb).2⟩, fun p hp => hmono _ _ (hm.glo p hp)⟩, fun A hA => ⟨fun i hi => hA i hi, fun _ _ => rfl, hsz, fun b hb _ => hh b hb, fun p hp hn => .inl ⟨p, hp, hn, rfl⟩, hos⟩⟩
 obtain ⟨o, ho, hb⟩ := hm.blk p hp hn
 exact ⟨o, by rw [hh _ (own_lt hm (.inr ⟨p, hp, hn, rfl⟩))]; exact ho, hb.mono (fun _ _ => rfl) (fun _ h => h) hk⟩
theorem VR.swap {ρ : Nat → Loc} {D : Nat → Prop} {O O' : Nat → Prop} {w w' : World} (hk : ∀ b off v, w.cell? ⟨b, off, none⟩ = some v → ¬ O b → ¬ O' b ∧ w'.cell? ⟨b, off, none⟩ = some v) {v : AV} {x : Value} (h : VR ρ D O w v x) : VR ρ D O' w' v x := by
 induction h with
 | bool => exact .bool _
 | int => exact .int _ _
 | str => exact .str _
 | nptr => exact .nptr
 | nsl => exact .nsl
 | nmap => exact .nmap
 | nfn => exact .nfn
 | nif => exact .nif
 | ptr id i j hid => exact .ptr id i j hid
 | sl id off len cap hid h1 h2 => exact .sl id off len cap hid h1 h2
 | slz id off b o hid => exact .slz id off b o hid
 | slzn id off hid => exact .slzn id off hid
 | mp id hid => exact .mp id hid
 | ip v b off f h1 _ ih =>
  refine .ip v b off f (fun j c hj => ?_) ih
  obtain ⟨ho, hc, hone⟩ := h1 j c hj
  exact ⟨(hk _ _ _ hc ho).1, (hk _ _ _ hc ho).2, hone⟩
 | il sz xs b off cap f hl hs h1 _ ih =>
  refine .il sz xs b off cap f hl hs (fun i x j c hi hj => ?_) ih
  obtain ⟨ho, hc, hone⟩ := h1 i x j c hi hj
  exact ⟨(hk _ _ _ hc ho).1, (hk _ _ _ hc ho).2, hone⟩
 | iln => exact .iln _
 | fn f first cap a1 a2 l1 l2 _ _ ih1 ih2 => exact .fn f first cap a1 a2 l1 l2 ih1 ih2
 | ifc t v x _ ih => exact .ifc t v x ih
 | agg cs arr hl ho _ ih => exact .agg cs arr hl ho ih
 | tup cs arr hl _ ih => exact .tup cs arr hl ih
 | junk x => exact .junk x
 | yld id hid => exact .yld id hid
theorem BR.swap {ρ : Nat → Loc} {D : Nat → Prop} {O O' : Nat → Prop} {w w' : World} (hk : ∀ b off v, w.cell? ⟨b, off, none⟩ = some v → ¬ O b → ¬ O' b ∧ w'.cell? ⟨b, off, none⟩ = some v) {l : Loc} {o : Obj} {a : AB} (h : BR ρ D O w l o a) : BR ρ D O' w' l o a := by
 cases a with
 | row t sz xs =>
  obtain ⟨h0, arr, fr, h1, hf, h2, h3, h4⟩ := h
  refine ⟨h0, arr, fr, h1, hf, h2, h3, fun i x hi => ⟨(h4 i x hi).1, fun j c hj => ?_⟩⟩
  obtain ⟨v, hv, ho, hr⟩ := (h4 i x hi).2 j c hj
  exact ⟨v, hv, ho, hr.swap hk⟩
 | mapb es =>
  obtain ⟨arr, clk, h1, h2, h3⟩ := h
  refine ⟨arr, clk, h1, h2, fun i e he => ?_⟩
  obtain ⟨m, hm, hr1, hr2⟩ := h3 i e he
  exact ⟨m, hm, hr1.swap hk, hr2.swap hk⟩
 | loop sl nt ps ca cb st pd =>
  obtain ⟨arr, fn, df, h1, h2, h3⟩ := h
  exact ⟨arr, fn, df, h1, h2, fun i v hi => (h3 i v hi).swap hk⟩
theorem MR.shut {Γ : List (Nat × AV)} {X D : Nat → Prop} {ρ : Nat → Loc} {mem : Mem} {w : World} (hm : MR Γ X ρ D mem w) {b : Nat} {o o' : Obj} (ho : w.heap[b]? = some o) (hc : o.isCells = false) (hb : ¬ OX X ρ mem b) :
  MR Γ X ρ D mem (w.putObj b o') ∧ (∀ v x, VR ρ D (OX X ρ mem) w v x → VR ρ D (OX X ρ mem) (w.putObj b o') v x) := by
 have hk : ∀ c off v, w.cell? ⟨c, off, none⟩ = some v → ¬ OX X ρ mem c → ¬ OX X ρ mem c ∧ (w.putObj b o').cell? ⟨c, off, none⟩ = some v := by
  intro c off v hv hn
  refine ⟨hn, ?_⟩
  have hne : c ≠ b := by
   rintro rfl
   simp only [World.cell?, ho] at hv
   cases o <;> simp_all [Obj.isCells]
  rw [cell_heap (World.putObj_heap_other hne)]
  exact hv
 refine ⟨⟨hm.low, fun p hp hn => ?_, hm.emp, hm.inj, hm.nod, fun c hx => ⟨by simpa using (hm.bar c hx).1, (hm.bar c hx).2⟩, fun p hp => (hm.glo p hp).swap hk⟩, fun v x h => h.swap hk⟩
 obtain ⟨o1, h1, h2⟩ := hm.blk p hp hn
 have hne : (ρ p.1).b ≠ b := fun e => hb (.inr ⟨p, hp, hn, e⟩)
 exact ⟨o1, by rw [World.putObj_heap_other hne]; exact h1, h2.swap hk⟩
theorem alloc_old (w : World) (o : Obj) {b : Nat} (hb : b < w.heap.size) : (w.alloc o).heap[b]? = w.heap[b]? := by
 show (w.heap.push o)[b]? = _
 simp [Array.getElem?_push, Nat.ne_of_lt hb]
theorem Mks.push {Γ : List (Nat × AV)} {X D : Nat → Prop} {ρ : Nat → Loc} {mem : Mem} {w : World} {ds : List Deferred × Nat} {dd : List Deferred} (hm : MR Γ X ρ D mem w) (h : Mks (OX X ρ mem) w ds dd) (h0 : ds.2 ≠ 0) :
  Mks (OX X ρ mem) (w.alloc (.deferred (some []))) ds ({ target := .collected w.heap.size, args := #[] } :: dd) := by
 obtain ⟨h1, ms, h2, _, hn, h3⟩ := h
 refine ⟨by simp; omega, _ :: ms, by rw [h2]; rfl, fun e => absurd e h0, List.nodup_cons.2 ⟨fun hd => ?_, hn⟩, fun d hd => ?_⟩
 ·obtain ⟨b, e, _, _, hh⟩ := h3 _ hd
  have hlt : b < w.heap.size := (Array.getElem?_eq_some_iff.1 hh).1
  cases e
  omega
 ·rcases List.mem_cons.1 hd with rfl | hd
  ·exact ⟨_, rfl, h1, fun ho => Nat.lt_irrefl _ (own_lt hm ho), World.alloc_heap_new _ _⟩
  ·obtain ⟨b, e, hb, ho, hh⟩ := h3 d hd
   have hlt : b < w.heap.size := (Array.getElem?_eq_some_iff.1 hh).1
   exact ⟨b, e, hb, ho, (alloc_old _ _ hlt).trans hh⟩
def dropN (id : Nat) (m : Mem) : Mem := m.filter fun p => !Nat.beq p.1 id
def rngQ (s : St) (Q : Exit → St → Prop) (m : Mem) (n : Nat) : Prop :=
 match lk m s.nx with
 | some (.loop _ _ _ _ _ st pd) => match st with
  | .busy => False
  | _ => match pd with
   | none => Q .normal ⟨s.sl, dropN s.nx m, n, s.nt⟩
   | some .ret => Q .ret ⟨s.sl, dropN s.nx m, n, s.nt⟩
   | some (.exit i) => Q (.exit i) ⟨s.sl, dropN s.nx m, n, s.nt⟩
   | some _ => False
 | _ => False
theorem loop_at {Γ : List (Nat × AV)} {X D : Nat → Prop} {ρ : Nat → Loc} {mem : Mem} {w : World} (hm : MR Γ X ρ D mem w) {id nt : Nat} {sl : List (Nat × AV)} {ps : Array Tmp} {ca cb : Code} {st : LoopState} {pd : Option Code} (h : lk mem id = some (.loop sl nt ps ca cb st pd)) :
  0 < (ρ id).n ∧ ∃ (arr : Array Value) (fn : FuncId) (df : Nat), w.heap[(ρ id).b]? = some (.loop { state := st, pending := pd, fn := fn, tmps := arr, params := ps, assign := ca, body := cb, defers := df }) ∧ arr.size = nt ∧ ∀ (i : Nat) (v : AV), lk sl i = some v → VR ρ D (OX X ρ mem) w v (arr.getD i undef) := by
 have hp : 0 < (ρ id).n := by
  rcases Nat.eq_zero_or_pos (ρ id).n with h' | h'
  ·obtain ⟨t', sz', e, _⟩ := hm.emp _ (lk_mem h) h'
   cases e
  ·exact h'
 obtain ⟨o, ho, arr, fn, df, rfl, h1, h2⟩ := hm.blk _ (lk_mem h) hp
 exact ⟨hp, arr, fn, df, ho, h1, h2⟩
theorem AWp.range {P : Program} {Γ : List (Nat × AV)} {B : Nat} {g : Operand} {ps : Array Tmp} {ca cb : Code} {s : St} {Q : Exit → St → Prop} {G : FuncId} {first cap : List AV} {fn : Func} {c0 : Code}
  (hg : ev Γ s g = some (.fn (.func G) first cap)) (hf : P.funcs[G]? = some fn) (hb : fn.body = some c0) (hn : (fn.name == "runtime.NumGoroutine") = false) (hG : Nat.beq G YF = false)
  (h : ACallsP P Γ G (first ++ .yld s.nx :: cap) ((s.nx, .loop s.sl s.nt ps ca cb .ready none) :: s.mem) (s.nx + 1) (fun _ m n => rngQ s Q m n) fun x m n => Q (.panic [pe x]) ⟨s.sl, m, n, s.nt⟩) :
  AWp P Γ B (.rangeFunc g ps ca cb) s Q := by
 refine ⟨fun rd X ds D ρ a w hD hs hB hr => wpIn_rangeFunc fun fn0 _ => ?_⟩
 obtain ⟨rfl, hds⟩ := hr rfl
 have hgv := ev_sound hs hg
 generalize he : a.eval g = gv at hgv
 cases hgv with
 | fn _ _ _ a1 a2 l1 l2 r1 r2 =>
  obtain ⟨rec, hrec⟩ : ∃ rec : Loop, rec = { state := .ready, pending := none, fn := fn0, tmps := a.tmps, params := ps, assign := ca, body := cb, defers := w.heap.size } := ⟨_, rfl⟩
  obtain ⟨m0, e0⟩ := hs.mr.still (w' := w.alloc (.deferred (some []))) (by simp) (fun b hb => alloc_old _ _ hb) .go
  have e0' := e0 _ fun i hi => hi
  have hn0 : ¬ dn D B s.nx s.nx := fun h' => Nat.lt_irrefl _ (dn_lt hD hB _ h')
  obtain ⟨m1, v1, e1⟩ := m0.allocG (n := s.nx) (D' := dn D B (s.nx + 1)) hn0 (dn_grow (Nat.le_succ _)) (.inr ⟨hB, Nat.lt_succ_self _⟩) (l := ⟨(w.alloc (.deferred (some []))).heap.size, 1, 1⟩) (o := .loop rec)
   (a := .loop s.sl s.nt ps ca cb .ready none) (w' := (w.alloc (.deferred (some []))).alloc (.loop rec)) rfl Nat.one_pos rfl .go ⟨a.tmps, fn0, w.heap.size, by rw [hrec], hs.size, fun i v hi => e0'.vr (hs.slot i v hi)⟩
  have e1' := e1 _ fun i hi => hi
  have hid : setL ρ s.nx ⟨(w.alloc (.deferred (some []))).heap.size, 1, 1⟩ s.nx = ⟨w.heap.size + 1, 1, 1⟩ := by simp [setL]
  have hyv := VR.yld (ρ := setL ρ s.nx ⟨(w.alloc (.deferred (some []))).heap.size, 1, 1⟩) (D := dn D B (s.nx + 1)) (O := OX X (setL ρ s.nx ⟨(w.alloc (.deferred (some []))).heap.size, 1, 1⟩) ((s.nx, .loop s.sl s.nt ps ca cb .ready none) :: s.mem)) (w := (w.alloc (.deferred (some []))).alloc (.loop rec)) s.nx (.inr ⟨hB, Nat.lt_succ_self _⟩)
  rw [hid] at hyv
  have hvs := VRL.append (cs := first) (xs := a1.toList) ⟨by simpa using l1, fun j c x h1 h2 => v1 _ _ (e0'.vr (r1 j c x h1 (by simpa using h2)))⟩ (VRL.cons hyv (cs := cap) (xs := a2.toList) ⟨by simpa using l2, fun j c x h1 h2 => v1 _ _ (e0'.vr (r2 j c x h1 (by simpa using h2)))⟩)
  have hcall := (h.run X (dn D B (s.nx + 1)) _ _ _ (dn_lt hD (Nat.le_trans hB (Nat.le_succ _))) m1 hvs).calls hG
  have hname' : ¬ fn.name = "runtime.NumGoroutine" := by simpa using hn
  refine ⟨w.heap.size + 1, [{ target := .collected w.heap.size, args := #[] }], (w.alloc (.deferred (some []))).alloc (.loop rec), { target := .fn (.func G) a2, args := a1 ++ #[.func (.yield (w.heap.size + 1)) #[] #[]] }, (w.alloc (.deferred (some []))).alloc (.loop rec), G, _, (w.alloc (.deferred (some []))).alloc (.loop rec), ?_, ?_, fun _ _ => trivial, ?_, fun h => by simp [FW, Fence.wide] at h, callsIn_FW.2 (hcall.mono ?_)⟩
  ·rw [hrec]; exact run_enterLoop_outer _ _ _ _ _
  ·simp [resolve, he, Deferred.ofValue]
   rfl
  ·simp [invoke, callFunc, hf, hb, hname']
  ·rintro e w2 ⟨mem2, nx2, ρ2, hnx, m2, ext2, hres⟩
   have hnx' : s.nx + 1 ≤ nx2 := hnx
   obtain ⟨m2, mono2, _⟩ := m2.widen (dn_dn (Nat.le_trans hB (Nat.le_succ _)) hnx)
   have ext2' := ext2.wide (dn_dn (Nat.le_trans hB (Nat.le_succ _)) hnx)
   have hB2 : B ≤ nx2 := by omega
   have E2 : Ext D ρ s.mem w ρ2 (dn D B nx2) mem2 w2 := ((e0 D fun i hi => .inl hi).wide (dn_grow (Nat.le_refl _))).trans ((e1 D fun i hi => .inl hi).trans (ext2'.sub fun i hi => .inl hi))
   have hk2 : Mks (OX X ρ2 mem2) w2 ds ({ target := .collected w.heap.size, args := #[] } :: a.defers) := ext2'.mks (e1'.mks (hs.def0.push hs.mr hds))
   have hsl : ∀ i v, lk s.sl i = some v → VR ρ2 (dn D B nx2) (OX X ρ2 mem2) w2 v (a.tmps.getD i undef) := fun i v hi => ext2'.vr (v1 _ _ (e0'.vr (hs.slot i v hi)))
   rcases hres with ⟨r, v, rfl, hq, rv⟩ | ⟨x, rfl, hq⟩
   ·simp only [rngQ] at hq
    split at hq
    ·rename_i sl' nt' ps' ca' cb' st pd hl
     have hag : ρ2 s.nx = ⟨w.heap.size + 1, 1, 1⟩ := by rw [ext2.agree s.nx (.inr ⟨hB, Nat.lt_succ_self _⟩), hid]
     obtain ⟨hp, arr, fn', df, ho, h1, h2⟩ := loop_at m2 hl
     rw [hag] at ho
     have hnb : st ≠ .busy := by rintro rfl; exact hq
     have hend := run_endLoop (P := P) ho hnb
     have hsub : ∀ p ∈ dropN s.nx mem2, p ∈ mem2 := fun p hp => (List.mem_filter.1 hp).1
     obtain ⟨m3, v3, e3⟩ := m2.less hsub (filter_nodup m2.nod)
     have hno : ¬ OX X ρ2 (dropN s.nx mem2) (w.heap.size + 1) := by
      rintro (hx | ⟨p, hp', hpn, e⟩)
      ·exact (m2.bar _ hx).2 ⟨_, lk_mem hl, hp, by rw [hag]⟩
      ·have := m2.inj p (hsub p hp') _ (lk_mem hl) hpn hp (by rw [hag]; exact e)
       have h' := (List.mem_filter.1 hp').2
       simp only at this
       rw [this] at h'
       simp at h'
     obtain ⟨m4, v4⟩ := m3.shut (o' := .loop { state := .exhausted, pending := pd, fn := fn', tmps := arr, params := ps', assign := ca', body := cb', defers := df }) ho rfl hno
     have E3 := E2.trans (e3 D fun i hi => .inl hi)
     have E4 : Ext D ρ s.mem w ρ2 (dn D B nx2) (dropN s.nx mem2) (w2.putObj (w.heap.size + 1) (.loop { state := .exhausted, pending := pd, fn := fn', tmps := arr, params := ps', assign := ca', body := cb', defers := df })) :=
      ⟨E3.le, E3.agree, by simpa using E3.size, fun b hb hno => by rw [World.putObj_heap_other (by omega)]; exact E3.keep b hb hno, E3.fresh, ⟨E3.env.os, E3.env.output, E3.env.tape, E3.env.drawn⟩⟩
     have S4 : SR Γ X ds ρ2 (dn D B nx2) ⟨s.sl, dropN s.nx mem2, nx2, s.nt⟩ { a with defers := [{ target := .collected w.heap.size, args := #[] }] ++ a.defers } (w2.putObj (w.heap.size + 1) (.loop { state := .exhausted, pending := pd, fn := fn', tmps := arr, params := ps', assign := ca', body := cb', defers := df })) := by
      refine ⟨m4, hk2.at (by simp) fun b hb hno => ⟨fun h => hno (h.imp (fun h => h) fun ⟨p, h1, h2⟩ => ⟨p, hsub p h1, h2⟩), ?_⟩, hs.size, fun i v hi => v4 _ _ (v3 _ _ (hsl i v hi))⟩
      rw [World.putObj_heap_other]
      rintro rfl
      exact hno (.inr ⟨_, lk_mem hl, hp, by rw [hag]⟩)
     refine ⟨pd, _, hend, ?_⟩
     split at hq
     ·exact hq.elim
     ·split at hq
      ·exact ⟨_, ρ2, hq, hB2, S4, E4⟩
      ·exact wpIn_ret ⟨_, ρ2, hq, hB2, S4, E4⟩
      ·exact wpIn_exit ⟨_, ρ2, hq, hB2, S4, E4⟩
      ·exact hq.elim
    ·exact hq.elim
   ·exact ⟨_, ρ2, hq, hB2, ⟨m2, hk2, hs.size, hsl⟩, E2⟩
def putPs (nt : Nat) : List Tmp → List AV → List (Nat × AV) → Option (List (Nat × AV))
 | [], [], sl => some sl
 | t :: ts, v :: vs, sl => match Nat.blt t nt with
  | true => putPs nt ts vs (up sl t v)
  | false => none
 | _, _, _ => none
theorem putPs_sound {ρ : Nat → Loc} {D O : Nat → Prop} {w : World} {nt : Nat} : ∀ {ts : List Tmp} {vs : List AV} {sl sl' : List (Nat × AV)} {xs : List Value} {arr : Array Value}, putPs nt ts vs sl = some sl' → VRL ρ D O w vs xs → arr.size = nt →
  (∀ i v, lk sl i = some v → VR ρ D O w v (arr.getD i undef)) → ts.length = xs.length ∧ ((ts.zip xs).foldl (fun t (p, v) => t.setIfInBounds p v) arr).size = nt ∧ ∀ i v, lk sl' i = some v → VR ρ D O w v (((ts.zip xs).foldl (fun t (p, v) => t.setIfInBounds p v) arr).getD i undef)
 | [], [], sl, sl', xs, arr, h, hv, hs, hsl => by
  simp only [putPs] at h
  cases h
  have := hv.1
  simp at this
  rw [List.eq_nil_of_length_eq_zero this.symm]
  exact ⟨rfl, hs, hsl⟩
 | t :: ts, v :: vs, sl, sl', xs, arr, h, hv, hs, hsl => by
  simp only [putPs] at h
  split at h
  ·rename_i ht
   have ht : t < nt := Nat.le_of_ble_eq_true ht
   match xs, hv with
   | [], hv => have := hv.1; simp at this
   | x :: xs, hv =>
    have h0 := hv.2 0 _ _ rfl rfl
    have hr : VRL ρ D O w vs xs := ⟨by have := hv.1; simpa using this, fun j c x h1 h2 => hv.2 (j + 1) c x (by simpa using h1) (by simpa using h2)⟩
    obtain ⟨q1, q2, q3⟩ := putPs_sound (arr := arr.setIfInBounds t x) h hr (by simpa using hs) fun i u hi => by
     simp only [lk_up] at hi
     by_cases hid : i = t
     ·subst hid
      rw [if_pos rfl] at hi
      cases hi
      simpa [hs, ht] using h0
     ·rw [if_neg hid] at hi
      have := hsl i u hi
      simpa [Array.getElem?_setIfInBounds_ne (Ne.symm hid)] using this
    exact ⟨by simp [q1], by simpa using q2, by simpa using q3⟩
  ·cases h
 | [], _ :: _, _, _, _, _, h, _, _, _ => by simp [putPs] at h
 | _ :: _, [], _, _, _, _, h, _, _, _ => by simp [putPs] at h
def rndQ (id : Nat) (K : AV → Mem → Nat → Prop) (e : Exit) (s : St) : Prop :=
 match lk s.mem id with
 | some (.loop sl nt ps ca cb _ _) => match e with
  | .normal => K (.bool true) (up s.mem id (.loop sl nt ps ca cb .ready none)) s.nx
  | .ret => K (.bool false) (up s.mem id (.loop sl nt ps ca cb .done (some .ret))) s.nx
  | .exit i => K (.bool false) (up s.mem id (.loop sl nt ps ca cb .done (some (.exit i)))) s.nx
  | _ => False
 | _ => False
def asgQ (P : Program) (Γ : List (Nat × AV)) (B id : Nat) (cb : Code) (K : AV → Mem → Nat → Prop) (e : Exit) (s : St) : Prop :=
 match e with
 | .normal => match lk s.mem id with
  | some (.loop sl nt ps ca cb' .ready pd) => AWp P Γ B cb ⟨s.sl, up s.mem id (.loop sl nt ps ca cb' .busy pd), s.nx, s.nt⟩ (rndQ id K)
  | _ => False
 | _ => False
theorem ACallsP.round {P : Program} {Γ : List (Nat × AV)} {id : Nat} {args : List AV} {mem : Mem} {nx : Nat} {K : AV → Mem → Nat → Prop} {Kp : Value → Mem → Nat → Prop} {sl sl' : List (Nat × AV)} {nt : Nat} {ps : Array Tmp} {ca cb : Code} {st : LoopState} {pd : Option Code}
  (hl : lk mem id = some (.loop sl nt ps ca cb st pd)) (hp : putPs nt ps.toList args sl = some sl') (ha : hasRF ca = false) (hb : hasRF cb = false)
  (h : AWp P Γ nx ca ⟨sl', mem, nx, nt⟩ (asgQ P Γ nx id cb K)) : ACallsP P Γ YF (.yld id :: args) mem nx K Kp := by
 refine ⟨fun X D ρ w vs hD hm hv => ?_⟩
 obtain ⟨x, xs, rfl⟩ : ∃ x xs, vs = x :: xs := by
  match vs, hv with
  | [], hv => have := hv.1; simp at this
  | x :: xs, _ => exact ⟨x, xs, rfl⟩
 have h0 := hv.2 0 _ _ rfl rfl
 have hr : VRL ρ D (OX X ρ mem) w args xs := ⟨by have := hv.1; simpa using this, fun j c x h1 h2 => hv.2 (j + 1) c x (by simpa using h1) (by simpa using h2)⟩
 cases h0 with
 | yld _ hid =>
  obtain ⟨hpos, arr, fn, df, ho, hsz, hsl⟩ := loop_at hm hl
  obtain ⟨q1, q2, q3⟩ := putPs_sound hp hr hsz hsl
  have hy := run_yield (P := P) (args := xs.toArray) ho (by simpa using q1.symm)
  obtain ⟨m0, mono0, e0⟩ := hm.widen (D' := dn D nx nx) (fun i hi => .inl hi)
  have etm : (ps.zip xs.toArray).foldl (fun tmps (t, a) => tmps.setIfInBounds t a) arr = (ps.toList.zip xs).foldl (fun t (p, v) => t.setIfInBounds p v) arr := by
   rw [← Array.foldl_toList]
   simp
  have hs : SR Γ X ([], 0) ρ (dn D nx nx) ⟨sl', mem, nx, nt⟩ { tmps := (ps.zip xs.toArray).foldl (fun tmps (t, a) => tmps.setIfInBounds t a) arr, defers := [] } w :=
   ⟨m0, Mks.start (ds := ([], 0)) (Nat.zero_le _), by rw [etm]; exact q2, fun i v hi => by rw [etm]; exact mono0 _ _ (q3 i v hi)⟩
  refine ⟨(ρ id).b, xs.toArray, fn, _, ca, cb, by simp, hy, roundIn_of_wpIn trivial (wpIn_mono (h.run (some (ρ id).b) X ([], 0) D ρ _ w hD hs (Nat.le_refl _) (.no ha)) ?_)⟩
  rintro e a1 w1 ⟨s1, ρ1, hq, hB1, hs1, e1⟩
  cases e with
  | normal =>
   simp only [asgQ] at hq
   split at hq
   ·rename_i sl1 nt1 ps1 ca1 cb1 pd1 hl1
    obtain ⟨hpos1, arr1, fn1, df1, ho1, hsz1, hsl1⟩ := loop_at hs1.mr hl1
    rw [e1.agree id hid] at ho1
    refine ⟨_, run_beginRound ho1 rfl, ?_⟩
    obtain ⟨m2, v2, e2⟩ := hs1.mr.changeG (a' := .loop sl1 nt1 ps1 ca1 cb1 .busy pd1) (o := .loop { state := .busy, pending := pd1, fn := fn1, tmps := arr1, params := ps1, assign := ca1, body := cb1, defers := df1 })
     (w' := w1.putObj (ρ id).b (.loop { state := .busy, pending := pd1, fn := fn1, tmps := arr1, params := ps1, assign := ca1, body := cb1, defers := df1 })) hl1 hpos1 (by rw [e1.agree id hid]; rfl) .go ⟨arr1, fn1, df1, rfl, hsz1, hsl1⟩
    have e2' := e2 _ fun i hi => hi
    have hs2 : SR Γ X ([], 0) ρ1 (dn D nx s1.nx) ⟨s1.sl, up s1.mem id (.loop sl1 nt1 ps1 ca1 cb1 .busy pd1), s1.nx, s1.nt⟩ a1 (w1.putObj (ρ id).b (.loop { state := .busy, pending := pd1, fn := fn1, tmps := arr1, params := ps1, assign := ca1, body := cb1, defers := df1 })) :=
     ⟨m2, e2'.mks hs1.def0, hs1.size, fun i v hi => v2 _ _ (hs1.slot i v hi)⟩
    refine wpIn_mono (hq.run (some (ρ id).b) X ([], 0) D ρ1 a1 _ hD hs2 hB1 (.no hb)) ?_
    rintro e a3 w3 ⟨s3, ρ3, hq3, hB3, hs3, e3⟩
    have E3 : Ext D ρ mem w ρ3 (dn D nx s3.nx) s3.mem w3 := (e1.trans (e2 D fun i hi => .inl hi)).trans e3
    have hag : ρ3 id = ρ id := E3.agree id hid
    simp only [rndQ] at hq3
    split at hq3
    ·rename_i sl3 nt3 ps3 ca3 cb3 st3 pd3 hl3
     obtain ⟨hpos3, arr3, fn3, df3, ho3, hsz3, hsl3⟩ := loop_at hs3.mr hl3
     rw [hag] at ho3
     have fin : ∀ (jump : Option Code) (b : Bool) (st4 : LoopState), b = jump.isNone → st4 = (if jump.isNone then .ready else .done) → K (.bool b) (up s3.mem id (.loop sl3 nt3 ps3 ca3 cb3 st4 jump)) s3.nx →
       ∃ v w4, (Instr.endRound (ρ id).b jump).run P w3 = .ok v w4 ∧ ∃ (mem' : Mem) (nx' : Nat) (ρ' : Nat → Loc), nx ≤ nx' ∧ MR Γ X ρ' (dn D nx nx') mem' w4 ∧ Ext D ρ mem w ρ' (dn D nx nx') mem' w4 ∧
        ((∃ (r : AV) (v' : Value), Ending.returned v = .returned v' ∧ K r mem' nx' ∧ VR ρ' (dn D nx nx') (OX X ρ' mem') w4 r v') ∨ (∃ x : Value, Ending.returned v = .panicked [pe x] ∧ Kp x mem' nx')) := by
      rintro jump b st4 rfl rfl hK
      refine ⟨_, _, run_endRound jump ho3, ?_⟩
      obtain ⟨m4, v4, e4⟩ := hs3.mr.changeG (a' := .loop sl3 nt3 ps3 ca3 cb3 (if jump.isNone then .ready else .done) jump) (o := .loop { state := if jump.isNone then .ready else .done, pending := jump, fn := fn3, tmps := arr3, params := ps3, assign := ca3, body := cb3, defers := df3 })
       (w' := w3.putObj (ρ id).b (.loop { state := if jump.isNone then .ready else .done, pending := jump, fn := fn3, tmps := arr3, params := ps3, assign := ca3, body := cb3, defers := df3 })) hl3 hpos3 (by rw [hag]; rfl) .go ⟨arr3, fn3, df3, rfl, hsz3, hsl3⟩
      exact ⟨_, s3.nx, ρ3, hB3, m4, E3.trans (e4 D fun i hi => .inl hi), .inl ⟨_, _, rfl, hK, .bool _⟩⟩
     split at hq3
     ·exact fin none _ _ rfl rfl hq3
     ·exact fin (some .ret) _ _ rfl rfl hq3
     ·exact fin (some (.exit _)) _ _ rfl rfl hq3
     ·exact hq3.elim
    ·exact hq3.elim
   ·exact hq.elim
  | _ => exact (show False from hq).elim
def awp (P : Program) (Γ : List (Nat × AV)) (H : Hk) : Code → St → (Exit → St → Prop) → Prop
 | .skip, s, Q => Q .normal s
 | .seq x y, s, Q => awp P Γ H x s fun e s' => match e with
  | .normal => awp P Γ H y s' Q
  | e => Q e s'
 | .cond c x y, s, Q => match ev Γ s c with
  | some (.bool b) => match b with
   | true => awp P Γ H x s Q
   | false => awp P Γ H y s Q
  | _ => False
 | .block id c, s, Q => awp P Γ H c s fun e s' => match e with
  | .exit i => match Nat.beq i id with
   | true => Q .normal s'
   | false => Q (.exit i) s'
  | e => Q e s'
 | .label _, s, Q => Q .normal s
 | .scope c, s, Q => awp P Γ H c s fun e s' => match e with
  | .goto _ => False
  | e => Q e s'
 | .loop c, s, Q => H.loop c s Q
 | .exit i, s, Q => Q (.exit i) s
 | .ret, s, Q => Q .ret s
 | .region _ ops draw, s, Q => match draw with
  | false => aOps P Γ H ops.toList ops.toList s (fun s' => Q .normal s') fun x s' => Q (.panic [pe x]) s'
  | true => match P.follows .mixedOrders with
   | true => aDraw P Γ H ops.toList s (fun s' => Q .normal s') fun x m n => Q (.panic [pe x]) ⟨noDst ops.toList s.sl, m, n, s.nt⟩
   | false => False
 | .rangeFunc g ps ca cb, s, Q => match ev Γ s g with
  | some (.fn (.func G) first cap) => match P.funcs[G]? with
   | some fn => match fn.body with
    | some _ => match fn.name == "runtime.NumGoroutine" with
     | false => match Nat.beq G YF with
      | false => H.call G (first ++ .yld s.nx :: cap) ((s.nx, .loop s.sl s.nt ps ca cb .ready none) :: s.mem) (s.nx + 1) (fun _ m n => rngQ s Q m n) fun x m n => Q (.panic [pe x]) ⟨s.sl, m, n, s.nt⟩
      | true => False
     | true => False
    | none => False
   | none => False
  | _ => False
 | _, _, _ => False
theorem wpIn_scope {F : Fence} {n : Nat} {P : Program} {Q : Exit → Act → World → Prop} {a : Act} {w : World} {c : Code} (h : c.wpIn F n P (Exit.noGoto Q) a w) : (Code.scope c).wpIn F n P Q a w := by
 intro b k cs hro hb hr
 have s1 : step P (lone (b.atR a (.code (.scope c) :: k)) cs w) = .next (lone (b.atR a (.code c :: .inScope c :: k)) cs w) := step_lone_go (by simp [stepG, stepG.exec, Frame.atR])
 have s2 : ∀ (a : Act) (w : World), step P (lone (b.atR a (.inScope c :: k)) cs w) = .next (lone (b.atR a k) cs w) := fun a w => step_lone_go (by simp [stepG, stepG.exec, Frame.atR])
 obtain ⟨e, a₁, w₁, hq, harr⟩ := h b (.inScope c :: k) cs hro hb hr
 cases e with
 | normal => exact ⟨.normal, a₁, w₁, hq, .head (fenced_calm hb hr rfl) s1 (StepsIn.trans harr (.one (fenced_calm hb hr rfl) (s2 a₁ w₁)))⟩
 | goto l => exact hq.elim
 | exit id =>
  have ex : exitTo id (.inScope c :: k) = exitTo id k := by simp [exitTo]
  exact ⟨.exit id, a₁, w₁, hq, .of_steps (.one (fenced_calm hb hr rfl) s1) ⟨fun k' hk => harr.1 k' (by rw [ex]; exact hk), fun h1 hk => harr.2 h1 (by rw [ex]; exact hk)⟩⟩
 | ret => exact ⟨.ret, a₁, w₁, hq, .of_steps (.one (fenced_calm hb hr rfl) s1) harr⟩
 | panic ch => exact ⟨.panic ch, a₁, w₁, hq, .of_steps (.one (fenced_calm hb hr rfl) s1) harr⟩
 | outgrown => exact ⟨.outgrown, a₁, w₁, hq, .of_steps (.one (fenced_calm hb hr rfl) s1) harr⟩
theorem awp_sound {P : Program} {Γ : List (Nat × AV)} {H : Hk} {B : Nat} (hH : HkOK P Γ B H) : ∀ (c : Code) (s : St) (Q : Exit → St → Prop), awp P Γ H c s Q → AWp P Γ B c s Q := by
 intro c
 induction c with
 | skip => exact fun s Q h => ⟨fun rd X ds D ρ a w hD hs hB _ => wpIn_skip ⟨s, ρ, h, hB, hs, Ext.refl fun i hi => .inl hi⟩⟩
 | exit i => exact fun s Q h => ⟨fun rd X ds D ρ a w hD hs hB _ => wpIn_exit ⟨s, ρ, h, hB, hs, Ext.refl fun i hi => .inl hi⟩⟩
 | ret => exact fun s Q h => ⟨fun rd X ds D ρ a w hD hs hB _ => wpIn_ret ⟨s, ρ, h, hB, hs, Ext.refl fun i hi => .inl hi⟩⟩
 | loop c ih => exact fun s Q h => hH.loop c s Q h
 | label l => exact fun s Q h => ⟨fun rd X ds D ρ a w hD hs hB _ => wpIn_label ⟨s, ρ, h, hB, hs, Ext.refl fun i hi => .inl hi⟩⟩
 | scope c ih =>
  intro s Q h
  simp only [awp] at h
  refine ⟨fun rd X ds D ρ a w hD hs hB hr => wpIn_scope (wpIn_mono ((ih s _ h).run rd X ds D ρ a w hD hs hB hr.scope) ?_)⟩
  rintro e a' w' ⟨s', ρ', hq, hB', hs', hext⟩
  cases e with
  | goto l => exact hq.elim
  | normal => exact ⟨s', ρ', hq, hB', hs', hext⟩
  | exit i => exact ⟨s', ρ', hq, hB', hs', hext⟩
  | ret => exact ⟨s', ρ', hq, hB', hs', hext⟩
  | panic c => exact ⟨s', ρ', hq, hB', hs', hext⟩
  | outgrown => exact ⟨s', ρ', hq, hB', hs', hext⟩
 | seq x y ihx ihy =>
  intro s Q h
  refine ⟨fun rd X ds D ρ a w hD hs hB hr => wpIn_seq (wpIn_mono ((ihx s _ h).run rd X ds D ρ a w hD hs hB hr.seq1) ?_)⟩
  rintro e a' w' ⟨s', ρ', hq, hB', hs', hext⟩
  cases e with
  | normal =>
   refine wpIn_mono ((ihy s' Q hq).run rd X ds D ρ' a' w' hD hs' hB' hr.seq2) ?_
   rintro e a2 w2 ⟨s2, ρ2, h1, h2, h3, h4⟩
   exact ⟨s2, ρ2, h1, h2, h3, hext.trans h4⟩
  | exit i => exact ⟨s', ρ', hq, hB', hs', hext⟩
  | goto l => exact ⟨s', ρ', hq, hB', hs', hext⟩
  | ret => exact ⟨s', ρ', hq, hB', hs', hext⟩
  | panic c => exact ⟨s', ρ', hq, hB', hs', hext⟩
  | outgrown => exact ⟨s', ρ', hq, hB', hs', hext⟩
 | cond c x y ihx ihy =>
  intro s Q h
  simp only [awp] at h
  split at h
  ·rename_i b hc
   refine ⟨fun rd X ds D ρ a w hD hs hB hr => ?_⟩
   have hv := ev_sound hs hc
   generalize he : a.eval c = cv at hv
   cases hv
   cases b with
   | true => exact wpIn_cond_true he ((ihx s Q h).run rd X ds D ρ a w hD hs hB hr.cond1)
   | false => exact wpIn_cond_false he ((ihy s Q h).run rd X ds D ρ a w hD hs hB hr.cond2)
  ·exact h.elim
 | block id c ih =>
  intro s Q h
  refine ⟨fun rd X ds D ρ a w hD hs hB hr => wpIn_block (wpIn_mono ((ih s _ h).run rd X ds D ρ a w hD hs hB hr.block) ?_)⟩
  rintro e a' w' ⟨s', ρ', hq, hB', hs', hext⟩
  cases e with
  | exit i =>
   simp only [Exit.inBlock]
   simp only at hq
   split at hq
   ·rename_i hi; rw [if_pos (Nat.eq_of_beq_eq_true hi)]; exact ⟨s', ρ', hq, hB', hs', hext⟩
   ·rename_i hi; rw [if_neg (Nat.ne_of_beq_eq_false hi)]; exact ⟨s', ρ', hq, hB', hs', hext⟩
  | normal => exact ⟨s', ρ', hq, hB', hs', hext⟩
  | goto l => exact ⟨s', ρ', hq, hB', hs', hext⟩
  | ret => exact ⟨s', ρ', hq, hB', hs', hext⟩
  | panic c => exact ⟨s', ρ', hq, hB', hs', hext⟩
  | outgrown => exact ⟨s', ρ', hq, hB', hs', hext⟩
 | region id ops draw =>
  intro s Q h
  cases draw with
  | false =>
   simp only [awp] at h
   refine ⟨fun rd X ds D ρ a w hD hs hB _ => wpIn_region_list ?_⟩
   have := aOps_sound hH ops.toList ops.toList s _ _ h rd X ds D ρ a w (fun e a' w' => ∃ (s' : St) (ρ' : Nat → Loc), Q e s' ∧ B ≤ s'.nx ∧ SR Γ X ds ρ' (dn D B s'.nx) s' a' w' ∧ Ext D ρ s.mem w ρ' (dn D B s'.nx) s'.mem w') hD hs hB
    (fun s' ρ' a' w' h1 h2 h3 h4 => ⟨s', ρ', h1, h2, h3, h4⟩) (fun x s' ρ' a' w' h1 h2 h3 h4 => ⟨s', ρ', h1, h2, h3, h4⟩)
   simpa using this
  | true =>
   simp only [awp] at h
   split at h
   ·rename_i hmix
    refine ⟨fun rd X ds D ρ a w hD hs hB hr => ?_⟩
    have := aDraw_sound hH h hmix id rd X ds D ρ a w hD hs hB (fun e a' w' => ∃ (s' : St) (ρ' : Nat → Loc), Q e s' ∧ B ≤ s'.nx ∧ SR Γ X ds ρ' (dn D B s'.nx) s' a' w' ∧ Ext D ρ s.mem w ρ' (dn D B s'.nx) s'.mem w')
     (fun s' ρ' a' w' h1 h2 h3 h4 => ⟨s', ρ', h1, h2, h3, h4⟩) (fun x m' n' ρ' a' w' h1 h2 h3 h4 => ⟨_, ρ', h1, h2, h3, h4⟩)
    simpa using this
   ·exact h.elim
 | rangeFunc g ps ca cb =>
  intro s Q h
  simp only [awp] at h
  split at h <;> first | exact h.elim | skip
  rename_i hg
  split at h <;> first | exact h.elim | skip
  rename_i fn hf
  split at h <;> first | exact h.elim | skip
  rename_i c0 hb
  split at h <;> first | exact h.elim | skip
  rename_i hn
  split at h <;> first | exact h.elim | skip
  rename_i hG
  exact AWp.range hg hf hb hn hG (hH.call _ _ _ _ _ _ h)
 | _ => intro s Q h; simp only [awp] at h
def enum (k : Nat) : List AV → List (Nat × AV)
 | [] => []
 | a :: r => (k, a) :: enum (k + 1) r
theorem lk_enum : ∀ (l : List AV) (k i : Nat) (v : AV), lk (enum k l) i = some v → k ≤ i ∧ l[i - k]? = some v
 | [], k, i, v, h => by simp [enum, lk] at h
 | a :: r, k, i, v, h => by
  simp only [enum, lk] at h
  split at h
  ·rename_i hk
   have hk := Nat.eq_of_beq_eq_true hk
   subst hk
   cases h
   simp
  ·rename_i hk
   have hk := Nat.ne_of_beq_eq_false hk
   obtain ⟨h1, h2⟩ := lk_enum r (k + 1) i v h
   refine ⟨by omega, ?_⟩
   rw [show i - k = (i - (k + 1)) + 1 by omega]
   simpa using h2
def enter (ntmps : Nat) (args : List AV) (mem : Mem) (nx : Nat) : St := { sl := enum 0 args, mem := mem, nx := nx, nt := args.length + (ntmps - args.length) }
def aRess (P : Program) (s : St) : List ResultVar → Option (List AV)
 | [] => some []
 | .tmp t :: r => match lk s.sl t with
  | some v => match aRess P s r with
   | some l => some (v :: l)
   | none => none
  | none => none
 | .cell a t :: r => match lk s.sl a with
  | some p => match aLoad P s.mem t p with
   | some v => match aRess P s r with
    | some l => some (v :: l)
    | none => none
   | none => none
  | none => none
def aRes (P : Program) (rs : List ResultVar) (s : St) : Option AV :=
 match aRess P s rs with
 | some [v] => some v
 | some l => some (.tup l)
 | none => none
theorem aRess_sound {P : Program} {Γ : List (Nat × AV)} {X : Nat → Prop} {ds : List Deferred × Nat} {ρ : Nat → Loc} {D : Nat → Prop} {s : St} {a : Act} {w : World} (hs : SR Γ X ds ρ D s a w) : ∀ {rs : List ResultVar} {l : List AV}, aRess P s rs = some l →
  ∃ vs : List Value, (rs.mapM fun x => match x with
     | ResultVar.tmp t => (pure (a.tmps.getD t undef) : Sem Value)
     | ResultVar.cell x t => do
      let p ← asAddr (a.tmps.getD x undef)
      loadVar t p).run P w = .ok vs w ∧ VRL ρ D (OX X ρ s.mem) w l vs
 | [], l, h => by simp only [aRess] at h; cases h; exact ⟨[], by simp, .nil⟩
 | .tmp t :: r, l, h => by
  simp only [aRess] at h
  split at h
  ·rename_i v hv
   split at h
   ·rename_i l' hl
    cases h
    obtain ⟨vs, h1, h2⟩ := aRess_sound hs hl
    exact ⟨a.tmps.getD t undef :: vs, by rw [List.mapM_cons, Sem.run_bind, Sem.run_pure, Result.andThen_ok, Sem.run_bind, h1]; rfl, .cons (hs.slot t v hv) h2⟩
   ·cases h
  ·cases h
 | .cell x t :: r, l, h => by
  simp only [aRess] at h
  split at h
  ·rename_i p hp
   split at h
   ·rename_i v hv
    split at h
    ·rename_i l' hl
     cases h
     obtain ⟨vs, h1, h2⟩ := aRess_sound hs hl
     obtain ⟨y, hy, hr⟩ := aLoad_sound (P := P) hs.mr hv (hs.slot x p hp)
     refine ⟨y :: vs, ?_, .cons hr h2⟩
     have hy' : (do let p ← asAddr (a.tmps.getD x undef); loadVar t p : Sem Value).run P w = .ok y w := by
      rw [← hy]
      have hpv := hs.slot x p hp
      unfold aLoad at hv
      split at hv
      ·generalize a.tmps.getD x undef = q at hpv
       cases hpv
       simp [Instr.loadAt, Instr.sureAddr, asAddr]
      ·generalize a.tmps.getD x undef = q at hpv
       cases hpv
       simp [Instr.loadAt, Instr.sureAddr, asAddr]
      ·cases hv
     rw [List.mapM_cons, Sem.run_bind, hy', Result.andThen_ok, Sem.run_bind, h1]
     rfl
    ·cases h
   ·cases h
  ·cases h
theorem results_of {P : Program} {w : World} {fn : Func} {tmps : Array Value} {vs : List Value} (h : (fn.results.toList.mapM fun x => match x with
     | ResultVar.tmp t => (pure (tmps.getD t undef) : Sem Value)
     | ResultVar.cell x t => do
      let p ← asAddr (tmps.getD x undef)
      loadVar t p).run P w = .ok vs w) : (results fn tmps).run P w = .ok (match vs with | [x] => x | _ => .tuple vs.toArray) w := by
 unfold results
 rw [Sem.run_bind, Array.mapM_eq_mapM_toList]
 have h' : (List.toArray <$> (fn.results.toList.mapM fun x => match x with
     | ResultVar.tmp t => (pure (tmps.getD t undef) : Sem Value)
     | ResultVar.cell x t => do
      let p ← asAddr (tmps.getD x undef)
      loadVar t p)).run P w = .ok vs.toArray w := by
  rw [Sem.run_map, h]
  rfl
 refine (congrArg (fun r : Result (Array Value) => r.andThen fun vs w' => Sem.run P (pure (if h : vs.size = 1 then vs[0] else Value.tuple vs)) w') h').trans ?_
 match vs with
 | [] => rfl
 | [x] => rfl
 | x :: y :: r => simp
theorem aRes_sound {P : Program} {Γ : List (Nat × AV)} {X : Nat → Prop} {ds : List Deferred × Nat} {ρ : Nat → Loc} {D : Nat → Prop} {s : St} {a : Act} {w : World} (hs : SR Γ X ds ρ D s a w) {fn : Func} {v : AV} (h : aRes P fn.results.toList s = some v) :
  ∃ x, (results fn a.tmps).run P w = .ok x w ∧ VR ρ D (OX X ρ s.mem) w v x := by
 unfold aRes at h
 split at h
 ·rename_i u hu
  cases h
  obtain ⟨vs, h1, h2⟩ := aRess_sound hs hu
  obtain ⟨x, rfl⟩ : ∃ x, vs = [x] := by
   have := h2.1
   simp at this
   exact List.length_eq_one_iff.1 this.symm
  exact ⟨x, results_of h1, h2.2 0 v x rfl rfl⟩
 ·rename_i l hl hu
  cases h
  obtain ⟨vs, h1, h2⟩ := aRess_sound hs hu
  refine ⟨.tuple vs.toArray, ?_, h2.tup⟩
  rw [results_of h1]
  match vs, h2.1 with
  | [], _ => rfl
  | [x], e =>
   exfalso
   simp at e
   obtain ⟨y, rfl⟩ := List.length_eq_one_iff.1 e
   exact hl y rfl
  | x :: y :: r, _ => rfl
 ·cases h
def retQ (P : Program) (rs : List ResultVar) (Q : AV → Mem → Nat → Prop) : Exit → St → Prop := fun e s =>
 match e with
 | .normal => match aRes P rs s with
  | some r => Q r s.mem s.nx
  | none => False
 | .ret => match aRes P rs s with
  | some r => Q r s.mem s.nx
  | none => False
 | _ => False
theorem enter_sr {Γ : List (Nat × AV)} {X D : Nat → Prop} {ρ : Nat → Loc} {w : World} {n : Nat} {args : List AV} {vs : List Value} {mem : Mem} {nx : Nat} (hD : ∀ i, D i → i < nx) (hm : MR Γ X ρ D mem w) (hv : VRL ρ D (OX X ρ mem) w args vs) {k : Nat} (hk : k ≤ w.heap.size + 1) :
  SR Γ X ([], k) ρ (dn D nx nx) (enter n args mem nx) { tmps := vs.toArray ++ Array.replicate (n - vs.toArray.size) undef, defers := [] } w := by
 have hl := hv.1
 obtain ⟨m1, mono1, _⟩ := hm.widen (D' := dn D nx nx) (fun i hi => .inl hi)
 refine ⟨m1, Mks.start (ds := ([], k)) hk, by simp [enter, hl], fun i v hi => ?_⟩
 obtain ⟨_, h2⟩ := lk_enum args 0 i v hi
 simp only [Nat.sub_zero] at h2
 have hlt : i < vs.length := by
  rw [← hl]
  rcases Nat.lt_or_ge i args.length with h' | h'
  ·exact h'
  ·rw [List.getElem?_eq_none h'] at h2; cases h2
 have e : (vs.toArray ++ Array.replicate (n - vs.toArray.size) undef).getD i undef = vs[i] := by
  simp [Array.getElem?_append, hlt]
 rw [e]
 exact mono1 _ _ (hv.2 i v _ h2 (by simp [hlt]))
theorem leaves_marks {P : Program} {fn : Func} {tmps : Array Value} {R : Ending → World → Prop} {ds : List Deferred} {u : FrameMode} (hu : u ≠ .run) (k : Nat) (O : Nat → Prop) (J : World → Prop)
  (hJ : ∀ w b, J w → k ≤ b + 1 → ¬ O b → w.heap[b]? = some (.deferred (some [])) → J (w.putObj b (.deferred none))) (hend : ∀ w, J w → LeavesInM (FW none) 0 P fn tmps R ds u w) :
  ∀ (ms : List Deferred) (w : World), J w → ms.Nodup → (∀ d ∈ ms, ∃ b, d = { target := .collected b, args := #[] } ∧ k ≤ b + 1 ∧ ¬ O b ∧ w.heap[b]? = some (.deferred (some []))) → LeavesInM (FW none) 0 P fn tmps R (ms ++ ds) u w
 | [], w, h, _, _ => hend w h
 | d :: ms, w, h, hn, hd => by
  obtain ⟨b, rfl, hb, ho, hh⟩ := hd d (List.mem_cons_self ..)
  refine ⟨hu, .inl ⟨b, _, rfl, run_takeDeferred hh, leaves_marks hu k O J hJ hend ms _ (hJ w b h hb ho hh) (List.nodup_cons.1 hn).2 fun d' hd' => ?_⟩⟩
  obtain ⟨b', rfl, hb', ho', hh'⟩ := hd d' (List.mem_cons_of_mem _ hd')
  refine ⟨b', rfl, hb', ho', ?_⟩
  have hne : b' ≠ b := by
   rintro rfl
   exact (List.nodup_cons.1 hn).1 hd'
  rw [World.putObj_heap_other hne]
  exact hh'
theorem leave_ret {P : Program} {Γ : List (Nat × AV)} {X D : Nat → Prop} {ρ ρ' : Nat → Loc} {B : Nat} {mem : Mem} {w w' : World} {s' : St} {a' : Act} {fn : Func} {R : Ending → World → Prop} {r : AV} (hr : aRes P fn.results.toList s' = some r)
  (hs' : SR Γ X ([], w.heap.size + 1) ρ' (dn D B s'.nx) s' a' w') (hext : Ext D ρ mem w ρ' (dn D B s'.nx) s'.mem w')
  (hR : ∀ x w2, MR Γ X ρ' (dn D B s'.nx) s'.mem w2 → VR ρ' (dn D B s'.nx) (OX X ρ' s'.mem) w2 r x → Ext D ρ mem w ρ' (dn D B s'.nx) s'.mem w2 → R (.returned x) w2) :
  LeavesInM (FW none) 0 P fn a'.tmps R a'.defers .returning w' := by
 obtain ⟨_, ms, h2, _, hn, h3⟩ := hs'.def0
 rw [h2]
 refine leaves_marks (by simp) (w.heap.size + 1) (OX X ρ' s'.mem) (fun w2 => MR Γ X ρ' (dn D B s'.nx) s'.mem w2 ∧ (∀ i v, lk s'.sl i = some v → VR ρ' (dn D B s'.nx) (OX X ρ' s'.mem) w2 v (a'.tmps.getD i undef)) ∧ Ext D ρ mem w ρ' (dn D B s'.nx) s'.mem w2)
  ?_ ?_ ms w' ⟨hs'.mr, hs'.slot, hext⟩ hn h3
 ·rintro w2 b ⟨j1, j2, j3⟩ hb ho hh
  obtain ⟨k1, k2⟩ := j1.shut (o' := .deferred none) hh rfl ho
  refine ⟨k1, fun i v hi => k2 _ _ (j2 i v hi), j3.le, j3.agree, by simpa using j3.size, fun c hc hno => ?_, j3.fresh, ⟨j3.env.os, j3.env.output, j3.env.tape, j3.env.drawn⟩⟩
  rw [World.putObj_heap_other (by omega)]
  exact j3.keep c hc hno
 ·rintro w2 ⟨j1, j2, j3⟩
  obtain ⟨x, h1, h2⟩ := aRes_sound (ds := ([], 0)) (a := { a' with defers := [] }) ⟨j1, Mks.start (ds := ([], 0)) (Nat.zero_le _), hs'.size, j2⟩ hr
  exact ⟨x, h1, hR x w2 j1 h2 j3⟩
theorem leave_pan {P : Program} {Γ : List (Nat × AV)} {X D : Nat → Prop} {ρ ρ' : Nat → Loc} {B : Nat} {mem : Mem} {w w' : World} {s' : St} {a' : Act} {fn : Func} {R : Ending → World → Prop} {ch : List PanicEntry}
  (hs' : SR Γ X ([], w.heap.size + 1) ρ' (dn D B s'.nx) s' a' w') (hext : Ext D ρ mem w ρ' (dn D B s'.nx) s'.mem w')
  (hR : ∀ w2, MR Γ X ρ' (dn D B s'.nx) s'.mem w2 → Ext D ρ mem w ρ' (dn D B s'.nx) s'.mem w2 → R (.panicked ch) w2) :
  LeavesInM (FW none) 0 P fn a'.tmps R a'.defers (.panicking ch) w' := by
 obtain ⟨_, ms, h2, _, hn, h3⟩ := hs'.def0
 rw [h2]
 refine leaves_marks (by simp) (w.heap.size + 1) (OX X ρ' s'.mem) (fun w2 => MR Γ X ρ' (dn D B s'.nx) s'.mem w2 ∧ Ext D ρ mem w ρ' (dn D B s'.nx) s'.mem w2)
  ?_ ?_ ms w' ⟨hs'.mr, hext⟩ hn h3
 ·rintro w2 b ⟨j1, j3⟩ hb ho hh
  obtain ⟨k1, k2⟩ := j1.shut (o' := .deferred none) hh rfl ho
  refine ⟨k1, j3.le, j3.agree, by simpa using j3.size, fun c hc hno => ?_, j3.fresh, ⟨j3.env.os, j3.env.output, j3.env.tape, j3.env.drawn⟩⟩
  rw [World.putObj_heap_other (by omega)]
  exact j3.keep c hc hno
 ·rintro w2 ⟨j1, j3⟩
  exact hR w2 j1 j3
theorem acalls_of_awp {P : Program} {Γ : List (Nat × AV)} {F : FuncId} {fn : Func} {c : Code} {args : List AV} {mem : Mem} {nx : Nat} {Q : AV → Mem → Nat → Prop} (hf : P.funcs[F]? = some fn) (hb : fn.body = some c)
  (h : AWp P Γ nx c (enter fn.ntmps args mem nx) (retQ P fn.results.toList Q)) (hF : Nat.beq F YF = false := by rfl) : ACalls P Γ F args mem nx Q := by
 refine ⟨fun X D ρ w vs hD hm hv => .of hF (callsIn_wide (n := 0).1 (callsIn_of_wp_marks (F := FW none) hf hb trivial ?_))⟩
 refine wpIn_mono (h.run none X ([], w.heap.size + 1) D ρ _ w hD (enter_sr hD hm hv (Nat.le_refl _)) (Nat.le_refl _) (fun _ => ⟨rfl, Nat.succ_ne_zero _⟩)) ?_
 rintro e a' w' ⟨s', ρ', hq, hB', hs', hext⟩
 cases e with
 | normal =>
  simp only [retQ] at hq
  split at hq
  ·rename_i r hr
   exact leave_ret hr hs' hext fun x w2 j1 j2 j3 => ⟨r, x, s'.mem, s'.nx, ρ', rfl, hq, hB', j1, j2, j3⟩
  ·exact hq.elim
 | ret =>
  simp only [retQ] at hq
  split at hq
  ·rename_i r hr
   exact leave_ret hr hs' hext fun x w2 j1 j2 j3 => ⟨r, x, s'.mem, s'.nx, ρ', rfl, hq, hB', j1, j2, j3⟩
  ·exact hq.elim
 | _ => exact hq.elim
def retQP (P : Program) (rs : List ResultVar) (Q : AV → Mem → Nat → Prop) (Qp : Value → Mem → Nat → Prop) : Exit → St → Prop := fun e s =>
 match e with
 | .normal => match aRes P rs s with
  | some r => Q r s.mem s.nx
  | none => False
 | .ret => match aRes P rs s with
  | some r => Q r s.mem s.nx
  | none => False
 | .panic [⟨x, false, false⟩] => Qp x s.mem s.nx
 | _ => False
theorem acallsP_of_awp {P : Program} {Γ : List (Nat × AV)} {F : FuncId} {fn : Func} {c : Code} {args : List AV} {mem : Mem} {nx : Nat} {Q : AV → Mem → Nat → Prop} {Qp : Value → Mem → Nat → Prop} (hf : P.funcs[F]? = some fn) (hb : fn.body = some c)
  (h : AWp P Γ nx c (enter fn.ntmps args mem nx) (retQP P fn.results.toList Q Qp)) (hF : Nat.beq F YF = false := by rfl) : ACallsP P Γ F args mem nx Q Qp := by
 refine ⟨fun X D ρ w vs hD hm hv => .of hF (callsIn_wide (n := 0).1 (callsIn_of_wp_marks (F := FW none) hf hb trivial ?_))⟩
 refine wpIn_mono (h.run none X ([], w.heap.size + 1) D ρ _ w hD (enter_sr hD hm hv (Nat.le_refl _)) (Nat.le_refl _) (fun _ => ⟨rfl, Nat.succ_ne_zero _⟩)) ?_
 rintro e a' w' ⟨s', ρ', hq, hB', hs', hext⟩
 cases e with
 | normal =>
  simp only [retQP] at hq
  split at hq
  ·rename_i r hr
   exact leave_ret hr hs' hext fun x w2 j1 j2 j3 => ⟨s'.mem, s'.nx, ρ', hB', j1, j3, .inl ⟨r, x, rfl, hq, j2⟩⟩
  ·exact hq.elim
 | ret =>
  simp only [retQP] at hq
  split at hq
  ·rename_i r hr
   exact leave_ret hr hs' hext fun x w2 j1 j2 j3 => ⟨s'.mem, s'.nx, ρ', hB', j1, j3, .inl ⟨r, x, rfl, hq, j2⟩⟩
  ·exact hq.elim
 | panic ch =>
  simp only [retQP] at hq
  split at hq
  ·rename_i x he
   cases he
  ·rename_i x he
   cases he
  ·rename_i x he
   cases he
   exact leave_pan hs' hext fun w2 j1 j3 => ⟨s'.mem, s'.nx, ρ', hB', j1, j3, .inr ⟨x, rfl, hq⟩⟩
  ·exact hq.elim
 | _ => exact (show False from hq).elim
theorem rounds_mono {rd : Option Nat} {P : Program} {c : Code} : ∀ (m : Nat) (a : Act) (w : World) (Q1 Q2 : Exit → Act → World → Prop), (∀ e a w, Q1 e a w → Q2 e a w) → Code.roundsIn (FW rd) 0 P c Q1 m a w → Code.roundsIn (FW rd) 0 P c Q2 m a w
 | 0, _, _, _, _, _, h => h
 | m + 1, a, w, Q1, Q2, h12, h => by
  rw [roundsIn_succ] at h ⊢
  refine wpIn_mono h ?_
  intro e a w h
  cases e with
  | normal => exact rounds_mono m a w Q1 Q2 h12 h
  | exit id => exact h12 _ _ _ h
  | goto l => exact h12 _ _ _ h
  | ret => exact h12 _ _ _ h
  | panic ch => exact h12 _ _ _ h
  | outgrown => exact h12 _ _ _ h
theorem wpIn_loop_ghost {F : Fence} {n : Nat} {P : Program} {Q : Exit → Act → World → Prop} {a : Act} {w : World} {c : Code} (I : Nat → Act → World → Prop) (n₀ : Nat) (h₀ : I n₀ a w)
  (round : ∀ m a w, I m a w → c.wpIn F n P (Exit.then (fun a' w' => ∃ m', m' < m ∧ I m' a' w') Q) a w) : (Code.loop c).wpIn F n P Q a w := by
 have key : ∀ (k m : Nat) (a : Act) (w : World), m < k → I m a w → Code.roundsIn F n P c Q k a w := by
  intro k
  induction k with
  | zero => intro m a w h; omega
  | succ k ih =>
   intro m a w hm hI
   rw [roundsIn_succ]
   refine wpIn_mono (round m a w hI) ?_
   intro e a' w' hq
   cases e with
   | normal => obtain ⟨m', hlt, hI'⟩ := hq; exact ih m' a' w' (by omega) hI'
   | exit id => exact hq
   | goto l => exact hq
   | ret => exact hq
   | panic ch => exact hq
   | outgrown => exact hq
 exact wpIn_loop_rounds (n₀ + 1) (key _ n₀ a w (Nat.lt_succ_self _) h₀)
end Go.Ax
namespace Go.Ax
open Go
structure Conv (B : Nat) (σ : List (Nat × Nat)) (s s' : St) : Prop where
 nt : s'.nt = s.nt
 sl : ∀ i v', lk s'.sl i = some v' → ∃ v, lk s.sl i = some v ∧ Cv s.mem σ v v'
 mem : CvM s.mem σ s'.mem
 nod : (s'.mem.map (·.1)).Nodup
 inj : Inj σ
 old : ∀ id id', lk σ id = some id' → (id' < B → id' = id) ∧ id' < s'.nx
 nx : B ≤ s'.nx
open Classical in
noncomputable def turnL (σ : List (Nat × Nat)) (ρ ρ0 : Nat → Loc) (n : Nat) : Loc := if h : ∃ id, lk σ id = some n then ρ h.choose else ρ0 n
theorem turnL_at {σ : List (Nat × Nat)} (hi : Inj σ) {ρ ρ0 : Nat → Loc} {id n : Nat} (h : lk σ id = some n) : turnL σ ρ ρ0 n = ρ id := by
 have hex : ∃ id, lk σ id = some n := ⟨id, h⟩
 unfold turnL
 rw [dif_pos hex]
 exact congrArg ρ (hi _ _ n hex.choose_spec h)
theorem turnL_not {σ : List (Nat × Nat)} {ρ ρ0 : Nat → Loc} {n : Nat} (h : ¬ ∃ id, lk σ id = some n) : turnL σ ρ ρ0 n = ρ0 n := by
 unfold turnL
 rw [dif_neg h]
theorem turn_mem {Γ : List (Nat × AV)} {X : Nat → Prop} {ρ : Nat → Loc} {D : Nat → Prop} {B n n' : Nat} {σ : List (Nat × Nat)} {m m' : Mem} {w : World} (hΓ : ∀ p ∈ Γ, NN p.2) (hD : ∀ i, D i → i < B)
  (hm : MR Γ X ρ (dn D B n) m w) (hM : CvM m σ m') (hnod : (m'.map (·.1)).Nodup) (hinj : Inj σ) (hold : ∀ id id', lk σ id = some id' → (id' < B → id' = id) ∧ id' < n') :
  MR Γ X (turnL σ ρ ρ) (dn D B n') m' w ∧ (∀ v v', Cv m σ v v' → ∀ x, VR ρ (dn D B n) (OX X ρ m) w v x → VR (turnL σ ρ ρ) (dn D B n') (OX X (turnL σ ρ ρ) m') w v' x) ∧
   Ext D ρ m w (turnL σ ρ ρ) (dn D B n') m' w := by
 have hσ : ∀ id id', lk σ id = some id' → dn D B n id → dn D B n' id' ∧ turnL σ ρ ρ id' = ρ id := by
  intro id id' h hd
  refine ⟨?_, turnL_at hinj h⟩
  obtain ⟨h1, h2⟩ := hold id id' h
  rcases Nat.lt_or_ge id' B with h3 | h3
  ·have h4 := h1 h3
   rcases hd with hd | ⟨hd1, hd2⟩
   ·rw [h4]; exact .inl hd
   ·omega
  ·exact .inr ⟨h3, h2⟩
 obtain ⟨m1, v1, o1⟩ := hm.turn hΓ hσ hM hnod hinj
 refine ⟨m1, v1, fun i hi => .inl hi, fun i hi => ?_, Nat.le_refl _, fun _ _ _ => rfl, fun p hp hn => .inl (o1 p hp hn), .go⟩
 by_cases hex : ∃ id, lk σ id = some i
 ·obtain ⟨id, h⟩ := hex
  rw [turnL_at hinj h]
  rw [(hold id i h).1 (hD i hi)]
 ·exact turnL_not hex
section
variable {P : Program} {Γ : List (Nat × AV)} {B : Nat} {c : Code}
theorem SR.conv {X : Nat → Prop} {ds : List Deferred × Nat} {ρ : Nat → Loc} {D : Nat → Prop} {s s' : St} {a : Act} {w : World} {σ : List (Nat × Nat)} (hΓ : ∀ p ∈ Γ, NN p.2) (hD : ∀ i, D i → i < B) (hc : Conv B σ s s') (hs : SR Γ X ds ρ (dn D B s.nx) s a w) :
  SR Γ X ds (turnL σ ρ ρ) (dn D B s'.nx) s' a w ∧ Ext D ρ s.mem w (turnL σ ρ ρ) (dn D B s'.nx) s'.mem w := by
 obtain ⟨m1, v1, e1⟩ := turn_mem hΓ hD hs.mr hc.mem hc.nod hc.inj hc.old
 have e1' := e1
 refine ⟨⟨m1, e1'.mks hs.def0, by rw [hc.nt]; exact hs.size, fun i v' hi => ?_⟩, e1⟩
 obtain ⟨v, hv, hcv⟩ := hc.sl i v' hi
 exact v1 v v' hcv _ (hs.slot i v hv)
theorem AWp.conv {s s' : St} {Q : Exit → St → Prop} {σ : List (Nat × Nat)} (hΓ : ∀ p ∈ Γ, NN p.2) (hc : Conv B σ s s') (h : AWp P Γ B c s' Q) : AWp P Γ B c s Q := by
 refine ⟨fun rd X ds D ρ a w hD hs hB hr => ?_⟩
 obtain ⟨h1, h2⟩ := hs.conv hΓ hD hc
 refine wpIn_mono (h.run rd X ds D _ a w hD h1 hc.nx hr) ?_
 rintro e a' w' ⟨s2, ρ2, k1, k2, k3, k4⟩
 exact ⟨s2, ρ2, k1, k2, k3, h2.trans k4⟩
theorem AWp.ph {s : St} {Q : Exit → St → Prop} (t : TypeId) (sz : Nat) (h : AWp P Γ B c ⟨s.sl, (s.nx, .row t sz []) :: s.mem, s.nx + 1, s.nt⟩ Q) : AWp P Γ B c s Q := by
 refine ⟨fun rd X ds D ρ a w hD hs hB hr => ?_⟩
 obtain ⟨m1, v1, e1⟩ := hs.mr.phantom (n := s.nx) (D' := dn D B (s.nx + 1)) (fun h' => Nat.lt_irrefl _ (dn_lt hD hB _ h')) (dn_grow (Nat.le_succ _)) (.inr ⟨hB, Nat.lt_succ_self _⟩) t sz
 refine wpIn_mono (h.run rd X ds D _ a w hD ⟨m1, (e1 D fun i hi => .inl hi).mks hs.def0, hs.size, fun i v hi => v1 _ _ (hs.slot i v hi)⟩ (Nat.le_trans hB (Nat.le_succ _)) hr) ?_
 rintro e a' w' ⟨s2, ρ2, k1, k2, k3, k4⟩
 exact ⟨s2, ρ2, k1, k2, k3, (e1 D fun i hi => .inl hi).trans k4⟩
structure ConvV (B : Nat) (σ : List (Nat × Nat)) (r : AV) (m : Mem) (r' : AV) (m' : Mem) (n' : Nat) : Prop where
 res : Cv m σ r r'
 mem : CvM m σ m'
 nod : (m'.map (·.1)).Nodup
 inj : Inj σ
 old : ∀ id id', lk σ id = some id' → (id' < B → id' = id) ∧ id' < n'
 nx : B ≤ n'
inductive Fini (B : Nat) (Q : AV → Mem → Nat → Prop) (r : AV) (m : Mem) (n : Nat) : Prop
 | mk (σ : List (Nat × Nat)) (r' : AV) (m' : Mem) (n' : Nat) : ConvV B σ r m r' m' n' → Q r' m' n' → Fini B Q r m n
theorem ACalls.turn {F : FuncId} {args : List AV} {mem : Mem} {nx : Nat} {Q : AV → Mem → Nat → Prop} (hΓ : ∀ p ∈ Γ, NN p.2) (h : ACalls P Γ F args mem nx (Fini nx Q)) : ACalls P Γ F args mem nx Q := by
 refine ⟨fun X D ρ w vs hD hm hv => (h.run X D ρ w vs hD hm hv).mono ?_⟩
 rintro e w' ⟨r, v, m, n, ρ', h1, ⟨σ, r', m', n', hc, hq⟩, h3, h4, h5, h6⟩
 obtain ⟨m1, v1, e1⟩ := turn_mem hΓ hD h4 hc.mem hc.nod hc.inj hc.old
 exact ⟨r', v, m', n', _, h1, hq, hc.nx, m1, v1 r r' hc.res _ h5, h6.trans e1⟩
theorem AWp.loop {α : Type} (hΓ : ∀ p ∈ Γ, NN p.2) (I : α → St) (μ : α → Nat) {Q : Exit → St → Prop}
  (h : ∀ x, AWp P Γ B c (I x) fun e s => match e with
   | .normal => ∃ y σ, Conv B σ s (I y) ∧ μ y < μ x
   | e => Q e s) (x : α) : AWp P Γ B (.loop c) (I x) Q := by
 refine ⟨fun rd X ds D ρ a w hD hs hB hr => ?_⟩
 refine wpIn_loop_ghost (fun n a' w' => ∃ (y : α) (ρ' : Nat → Loc), n = μ y ∧ B ≤ (I y).nx ∧ SR Γ X ds ρ' (dn D B (I y).nx) (I y) a' w' ∧ Ext D ρ (I x).mem w ρ' (dn D B (I y).nx) (I y).mem w') (μ x) ⟨x, ρ, rfl, hB, hs, Ext.refl fun i hi => .inl hi⟩ ?_
 rintro n a1 w1 ⟨y, ρ1, rfl, hB1, hs1, e1⟩
 refine wpIn_mono ((h y).run rd X ds D ρ1 a1 w1 hD hs1 hB1 hr.loop) ?_
 rintro e a2 w2 ⟨s2, ρ2, hq, hB2, hs2, e2⟩
 cases e with
 | normal =>
  obtain ⟨z, σ, hc, hlt⟩ := hq
  obtain ⟨h1, h2⟩ := hs2.conv hΓ hD hc
  exact ⟨μ z, hlt, z, _, rfl, hc.nx, h1, (e1.trans e2).trans h2⟩
 | exit i => exact ⟨s2, ρ2, hq, hB2, hs2, e1.trans e2⟩
 | goto l => exact ⟨s2, ρ2, hq, hB2, hs2, e1.trans e2⟩
 | ret => exact ⟨s2, ρ2, hq, hB2, hs2, e1.trans e2⟩
 | panic c => exact ⟨s2, ρ2, hq, hB2, hs2, e1.trans e2⟩
 | outgrown => exact ⟨s2, ρ2, hq, hB2, hs2, e1.trans e2⟩
def sem (P : Program) (Γ : List (Nat × AV)) (B : Nat) : Hk := { call := fun F args mem nx K _ => ACalls P Γ F args mem nx K, loop := fun c s Q => AWp P Γ B (.loop c) s Q }
theorem sem_ok : HkOK P Γ B (sem P Γ B) := ⟨fun _ _ _ _ _ _ h => ACalls.toP h, fun _ _ _ h => h⟩
def semP (P : Program) (Γ : List (Nat × AV)) (B : Nat) : Hk := { call := ACallsP P Γ, loop := fun c s Q => AWp P Γ B (.loop c) s Q }
theorem semP_ok : HkOK P Γ B (semP P Γ B) := ⟨fun _ _ _ _ _ _ h => h, fun _ _ _ h => h⟩
def CvL (mem : Mem) (σ : List (Nat × Nat)) (as bs : List AV) : Prop := as.length = bs.length ∧ ∀ (j : Nat) (c c' : AV), as[j]? = some c → bs[j]? = some c' → Cv mem σ c c'
theorem ACalls.use {F : FuncId} {as args : List AV} {ms mem m1 rest : Mem} {ns nx : Nat} {Qs K : AV → Mem → Nat → Prop} (hΓ : ∀ p ∈ Γ, NN p.2) (h : ACalls P Γ F as ms ns Qs) (σ : List (Nat × Nat))
  (hp : Parts mem m1 rest) (hrest : (rest.map (·.1)).Nodup) (hargs : CvL m1 σ args as) (hM : CvM m1 σ ms) (hnod : (ms.map (·.1)).Nodup) (hinj : Inj σ) (hlt : ∀ id i, lk σ id = some i → i < ns)
  (hk : ∀ r m n, Qs r m n → ns ≤ n → ∃ τ r' m' n', nx ≤ n' ∧ Cv m τ r r' ∧ CvM m τ m' ∧ (m'.map (·.1)).Nodup ∧ Inj τ ∧ (∀ i id, lk τ i = some id → (i < ns ∧ lk σ id = some i) ∨ (ns ≤ i ∧ nx ≤ id ∧ id < n')) ∧
   (∀ p ∈ m', ∀ q ∈ rest, p.1 ≠ q.1) ∧ K r' (m' ++ rest) n') : ACalls P Γ F args mem nx K := by
 refine ⟨fun X D ρ w vs hD hm hv => ?_⟩
 obtain ⟨p1, pv⟩ := hm.part hp
 have hσ : ∀ id i, lk σ id = some i → D id → (∃ id, lk σ id = some i ∧ D id) ∧ turnL σ ρ ρ i = ρ id := fun id i h1 h2 => ⟨⟨id, h1, h2⟩, turnL_at hinj h1⟩
 obtain ⟨s1, sv, so⟩ := p1.turn (D' := fun i => ∃ id, lk σ id = some i ∧ D id) hΓ hσ hM hnod hinj
 have hvs : VRL (turnL σ ρ ρ) (fun i => ∃ id, lk σ id = some i ∧ D id) (OX (XR X ρ rest) (turnL σ ρ ρ) ms) w as vs :=
  ⟨by rw [← hargs.1]; exact hv.1, fun j c' x hc' hx => by
   obtain ⟨c, hc⟩ := get_of_len hargs.1 hc'
   exact sv c c' (hargs.2 j c c' hc hc') _ (pv _ _ (hv.2 j c x hc hx))⟩
 refine (h.run _ _ _ w vs (fun i ⟨id, h1, _⟩ => hlt id i h1) s1 hvs).mono ?_
 rintro e w' ⟨r, v, m, n, ρs, rfl, hq, hn, r1, rv, ext⟩
 obtain ⟨τ, r', m', n', hn', t1, t2, t3, t4, t5, t6, hK⟩ := hk r m n hq hn
 have hτ : ∀ i id, lk τ i = some id → dn (fun i => ∃ id, lk σ id = some i ∧ D id) ns n i → dn D nx n' id ∧ turnL τ ρs ρ id = ρs i := by
  intro i id h1 h2
  refine ⟨?_, turnL_at t4 h1⟩
  rcases t5 i id h1 with ⟨h3, h4⟩ | ⟨h3, h4, h5⟩
  ·rcases h2 with ⟨id0, h5, h6⟩ | ⟨h5, _⟩
   ·rw [hinj id id0 i h4 h5]; exact .inl h6
   ·omega
  ·exact .inr ⟨h4, h5⟩
 obtain ⟨u1, uv, uo⟩ := r1.turn hΓ hτ t2 t3 t4
 have hext : Ext D ρ m1 w (turnL τ ρs ρ) (dn D nx n') m' w' := by
  refine ⟨fun i hi => .inl hi, fun id hid => ?_, ext.size, fun b hb ho => ?_, fun p hp' hpn => ?_, ext.env⟩
  ·by_cases hex : ∃ i, lk τ i = some id
   ·obtain ⟨i, hi⟩ := hex
    rw [turnL_at t4 hi]
    rcases t5 i id hi with ⟨h3, h4⟩ | ⟨h3, h4, h5⟩
    ·rw [ext.agree i ⟨id, h4, hid⟩, turnL_at hinj h4]
    ·have := hD id hid; omega
   ·exact turnL_not hex
  ·refine ext.keep b hb fun ⟨p, hp', hpn, e⟩ => ho ?_
   rw [← e]
   exact so p hp' hpn
  ·obtain ⟨q, hq', hqn, e⟩ := uo p hp' hpn
   rw [← e]
   rcases ext.fresh q hq' hqn with ⟨q', hq1, hq2, e'⟩ | h1
   ·rw [← e']; exact .inl (so q' hq1 hq2)
   ·exact .inr h1
 obtain ⟨j1, j2, j3, j4⟩ := MR.join (D' := dn D nx n') hm hp u1 hext (fun p hp => hp) t6 hrest
 exact ⟨r', v, m' ++ rest, n', _, rfl, hK, hn', j1, j2 _ _ (uv r r' t1 _ rv), j4 D fun i hi => hi⟩
inductive Sc : AV → Prop
 | bool (b : Bool) : Sc (.bool b)
 | int (k : IntKind) (n : Int) : Sc (.int k n)
 | str (s : List UInt8) : Sc (.str s)
 | nptr : Sc .nptr
 | nsl : Sc .nsl
 | nmap : Sc .nmap
 | nfn : Sc .nfn
 | nif : Sc .nif
 | junk : Sc .junk
 | ifc (t : TypeId) (v : AV) : Sc v → Sc (.ifc t v)
 | agg (cs : List AV) : (∀ (j : Nat) (c : AV), cs[j]? = some c → Sc c) → Sc (.agg cs)
 | tup (cs : List AV) : (∀ (j : Nat) (c : AV), cs[j]? = some c → Sc c) → Sc (.tup cs)
theorem Sc.vr {ρ ρ' : Nat → Loc} {D D' O O' : Nat → Prop} {w w' : World} {v : AV} {x : Value} (h : VR ρ D O w v x) (hn : Sc v) : VR ρ' D' O' w' v x := by
 induction h with
 | bool => exact .bool _
 | int => exact .int _ _
 | str => exact .str _
 | nptr => exact .nptr
 | nsl => exact .nsl
 | nmap => exact .nmap
 | nfn => exact .nfn
 | nif => exact .nif
 | ifc t v x _ ih => cases hn with | ifc _ _ hn => exact .ifc t v x (ih hn)
 | agg cs arr hl ho _ ih => cases hn with | agg _ hn => exact .agg cs arr hl ho fun j c x h1 h2 => ih j c x h1 h2 (hn j c h1)
 | tup cs arr hl _ ih => cases hn with | tup _ hn => exact .tup cs arr hl fun j c x h1 h2 => ih j c x h1 h2 (hn j c h1)
 | junk x => exact .junk x
 | _ => cases hn
end
end Go.Ax
