/- A part of the proof. -/
import Derived.Test.YtelmpofoeinfoaaGreatDoorAx9
set_option linter.unusedVariables false
namespace Go.Ax
open Go
section
variable {P : Program} {Γ : List (Nat × AV)} {B : Nat}
theorem ACallsP.use {F : FuncId} {as args : List AV} {ms mem m1 rest : Mem} {ns nx : Nat} {Qs K : AV → Mem → Nat → Prop} {Qsp Kp : Value → Mem → Nat → Prop} (hΓ : ∀ p ∈ Γ, NN p.2) (h : ACallsP P Γ F as ms ns Qs Qsp) (σ : List (Nat × Nat))
  (hp : Parts mem m1 rest) (hrest : (rest.map (·.1)).Nodup) (hargs : CvL m1 σ args as) (hM : CvM m1 σ ms) (hnod : (ms.map (·.1)).Nodup) (hinj : Inj σ) (hlt : ∀ id i, lk σ id = some i → i < ns)
  (hk : ∀ r m n, Qs r m n → ns ≤ n → ∃ τ r' m' n', nx ≤ n' ∧ Cv m τ r r' ∧ CvM m τ m' ∧ (m'.map (·.1)).Nodup ∧ Inj τ ∧ (∀ i id, lk τ i = some id → (i < ns ∧ lk σ id = some i) ∨ (ns ≤ i ∧ nx ≤ id ∧ id < n')) ∧
   (∀ p ∈ m', ∀ q ∈ rest, p.1 ≠ q.1) ∧ K r' (m' ++ rest) n')
  (hkp : ∀ x m n, Qsp x m n → ns ≤ n → ∃ τ m' n', nx ≤ n' ∧ CvM m τ m' ∧ (m'.map (·.1)).Nodup ∧ Inj τ ∧ (∀ i id, lk τ i = some id → (i < ns ∧ lk σ id = some i) ∨ (ns ≤ i ∧ nx ≤ id ∧ id < n')) ∧
   (∀ p ∈ m', ∀ q ∈ rest, p.1 ≠ q.1) ∧ Kp x (m' ++ rest) n') : ACallsP P Γ F args mem nx K Kp := by
 refine ⟨fun X D ρ w vs hD hm hv => ?_⟩
 obtain ⟨p1, pv⟩ := hm.part hp
 have hσ : ∀ id i, lk σ id = some i → D id → (∃ id, lk σ id = some i ∧ D id) ∧ turnL σ ρ ρ i = ρ id := fun id i h1 h2 => ⟨⟨id, h1, h2⟩, turnL_at hinj h1⟩
 obtain ⟨s1, sv, so⟩ := p1.turn (D' := fun i => ∃ id, lk σ id = some i ∧ D id) hΓ hσ hM hnod hinj
 have hvs : VRL (turnL σ ρ ρ) (fun i => ∃ id, lk σ id = some i ∧ D id) (OX (XR X ρ rest) (turnL σ ρ ρ) ms) w as vs :=
  ⟨by rw [← hargs.1]; exact hv.1, fun j c' x hc' hx => by
   obtain ⟨c, hc⟩ := get_of_len hargs.1 hc'
   exact sv c c' (hargs.2 j c c' hc hc') _ (pv _ _ (hv.2 j c x hc hx))⟩
 refine (h.run _ _ _ w vs (fun i ⟨id, h1, _⟩ => hlt id i h1) s1 hvs).mono ?_
 rintro e w' ⟨m, n, ρs, hn, r1, ext, hres⟩
 have main : ∀ (τ : List (Nat × Nat)) (m' : Mem) (n' : Nat), nx ≤ n' → CvM m τ m' → (m'.map (·.1)).Nodup → Inj τ → (∀ i id, lk τ i = some id → (i < ns ∧ lk σ id = some i) ∨ (ns ≤ i ∧ nx ≤ id ∧ id < n')) → (∀ p ∈ m', ∀ q ∈ rest, p.1 ≠ q.1) →
   ∃ ρ', MR Γ X ρ' (dn D nx n') (m' ++ rest) w' ∧ Ext D ρ mem w ρ' (dn D nx n') (m' ++ rest) w' ∧ ∀ r r', Cv m τ r r' → ∀ x, VR ρs (dn (fun i => ∃ id, lk σ id = some i ∧ D id) ns n) (OX (XR X ρ rest) ρs m) w' r x → VR ρ' (dn D nx n') (OX X ρ' (m' ++ rest)) w' r' x := by
  intro τ m' n' hn' t2 t3 t4 t5 t6
  have hτ : ∀ i id, lk τ i = some id → dn (fun i => ∃ id, lk σ id = some i ∧ D id) ns n i → dn D nx n' id ∧ turnL τ ρs ρ id = ρs i := by
   intro i id h1 h2
   refine ⟨?_, turnL_at t4 h1⟩
   rcases t5 i id h1 with ⟨h3, h4⟩ | ⟨h3, h4, h5⟩
   ·rcases h2 with ⟨id0, h5, h6⟩ | ⟨h5, _⟩
    ·rw [hinj id id0 i h4 h5]; exact .inl h6
    ·omega
   ·exact .inr ⟨h4, h5⟩
  obtain ⟨u1, uv, uo⟩ := r1.turn hΓ hτ t2 t3 t4
  have hext : Ext D ρ m1 w (turnL τ ρs ρ) (dn D nx n') m' w' := by
   refine ⟨fun i hi => .inl hi, fun id hid => ?_, ext.size, fun b hb ho => ?_, fun p hp' hpn => ?_, ext.env⟩
   ·by_cases hex : ∃ i, lk τ i = some id
    ·obtain ⟨i, hi⟩ := hex
     rw [turnL_at t4 hi]
     rcases t5 i id hi with ⟨h3, h4⟩ | ⟨h3, h4, h5⟩
     ·rw [ext.agree i ⟨id, h4, hid⟩, turnL_at hinj h4]
     ·have := hD id hid; omega
    ·exact turnL_not hex
   ·refine ext.keep b hb fun ⟨p, hp', hpn, e⟩ => ho ?_
    rw [← e]
    exact so p hp' hpn
   ·obtain ⟨q, hq', hqn, e⟩ := uo p hp' hpn
    rw [← e]
    rcases ext.fresh q hq' hqn with ⟨q', hq1, hq2, e'⟩ | h1
    ·rw [← e']; exact .inl (so q' hq1 hq2)
    ·exact .inr h1
  obtain ⟨j1, j2, j3, j4⟩ := MR.join (D' := dn D nx n') hm hp u1 hext (fun p hp => hp) t6 hrest
  exact ⟨_, j1, j4 D fun i hi => hi, fun r r' hc x hx => j2 _ _ (uv r r' hc _ hx)⟩
 rcases hres with ⟨r, v, rfl, hq, rv⟩ | ⟨x, rfl, hq⟩
 ·obtain ⟨τ, r', m', n', hn', t1, t2, t3, t4, t5, t6, hK⟩ := hk r m n hq hn
  obtain ⟨ρ', k1, k2, k3⟩ := main τ m' n' hn' t2 t3 t4 t5 t6
  exact ⟨_, n', ρ', hn', k1, k2, .inl ⟨r', v, rfl, hK, k3 r r' t1 _ rv⟩⟩
 ·obtain ⟨τ, m', n', hn', t2, t3, t4, t5, t6, hK⟩ := hkp x m n hq hn
  obtain ⟨ρ', k1, k2, k3⟩ := main τ m' n' hn' t2 t3 t4 t5 t6
  exact ⟨_, n', ρ', hn', k1, k2, .inr ⟨x, rfl, hK⟩⟩
theorem ACallsP.useI {P : Program} {Γ : List (Nat × AV)} {F : FuncId} {args args' : List AV} {ms mem : Mem} {ns nx : Nat} {Qs K : AV → Mem → Nat → Prop} {Qsp Kp : Value → Mem → Nat → Prop} (hΓ : ∀ p ∈ Γ, NN p.2) (ids : List Nat) (h : ACallsP P Γ F args' ms ns Qs Qsp)
  (hp : pickM ids mem = ms) (hargs : CvL ms (idS ids) args args') (hM : MemConv ms (idS ids) ms) (hc : (nodM ms && allLt ns ids) = true)
  (hk : ∀ r m n, Qs r m n → NN r ∧ MemConv m (idS ids) m ∧ (nodM m && keysIn ids m) = true ∧ K r (m ++ dropM ids mem) nx)
  (hkp : ∀ x m n, Qsp x m n → MemConv m (idS ids) m ∧ (nodM m && keysIn ids m) = true ∧ Kp x (m ++ dropM ids mem) nx) : ACallsP P Γ F args mem nx K Kp := by
 simp only [Bool.and_eq_true] at hc
 refine ⟨fun X D ρ w vs hD hm hv => ?_⟩
 have hinj : Inj (idS ids) := fun i j k h1 h2 => by
  have a := (idS_lk h1).1
  have b := (idS_lk h2).1
  omega
 refine (ACallsP.use (K := K) (Kp := Kp) (nx := nx) hΓ h (idS ids) (m1 := ms) (rest := dropM ids mem) ⟨fun p hp' => ?_, fun p hp' => (dropM_mem.1 hp').1, fun p hp' => ?_, fun p h1 q h2 => ?_, ?_⟩ ?_ hargs hM.cvm (nodM_sound hc.1) hinj (fun id i hl => ?_) ?_ ?_).run X D ρ w vs hD hm hv
 ·rw [← hp] at hp'; exact (pickM_mem.1 hp').1
 ·cases hi : inL p.1 ids with
  | true => left; rw [← hp]; exact pickM_mem.2 ⟨hp', hi⟩
  | false => right; exact dropM_mem.2 ⟨hp', hi⟩
 ·rw [← hp] at h1
  have a := (pickM_mem.1 h1).2
  have b := (dropM_mem.1 h2).2
  intro e
  rw [e, b] at a
  cases a
 ·rw [← hp]; exact hm.nod.sublist ((pickM_sub mem).map _)
 ·exact hm.nod.sublist ((dropM_sub mem).map _)
 ·obtain ⟨h1, h2⟩ := idS_lk hl
  rw [← h1]; exact allLt_sound hc.2 h2
 ·intro r m n hq hn
  obtain ⟨h1, h2, h3, h4⟩ := hk r m n hq
  simp only [Bool.and_eq_true] at h3
  refine ⟨idS ids, r, m, nx, Nat.le_refl _, .same r h1, h2.cvm, nodM_sound h3.1, hinj, fun i id hl => ?_, fun p h5 q h6 => ?_, h4⟩
  ·obtain ⟨e1, e2⟩ := idS_lk hl
   subst e1
   exact .inl ⟨allLt_sound hc.2 e2, lk_idS e2⟩
  ·have a := keysIn_sound h3.2 p h5
   have b := (dropM_mem.1 h6).2
   intro e
   rw [e, b] at a
   cases a
 ·intro x m n hq hn
  obtain ⟨h2, h3, h4⟩ := hkp x m n hq
  simp only [Bool.and_eq_true] at h3
  refine ⟨idS ids, m, nx, Nat.le_refl _, h2.cvm, nodM_sound h3.1, hinj, fun i id hl => ?_, fun p h5 q h6 => ?_, h4⟩
  ·obtain ⟨e1, e2⟩ := idS_lk hl
   subst e1
   exact .inl ⟨allLt_sound hc.2 e2, lk_idS e2⟩
  ·have a := keysIn_sound h3.2 p h5
   have b := (dropM_mem.1 h6).2
   intro e
   rw [e, b] at a
   cases a
def FiniP (B : Nat) (Qp : Value → Mem → Nat → Prop) (x : Value) (m : Mem) (n : Nat) : Prop := Fini B (fun _ m n => Qp x m n) .junk m n
theorem ACallsP.turn {F : FuncId} {args : List AV} {mem : Mem} {nx : Nat} {Q : AV → Mem → Nat → Prop} {Qp : Value → Mem → Nat → Prop} (hΓ : ∀ p ∈ Γ, NN p.2) (h : ACallsP P Γ F args mem nx (Fini nx Q) (FiniP nx Qp)) : ACallsP P Γ F args mem nx Q Qp := by
 refine ⟨fun X D ρ w vs hD hm hv => (h.run X D ρ w vs hD hm hv).mono ?_⟩
 rintro e w' ⟨m, n, ρ', h3, h4, h6, (⟨r, v, h1, ⟨σ, r', m', n', hc, hq⟩, h5⟩ | ⟨x, h1, ⟨σ, r', m', n', hc, hq⟩⟩)⟩
 ·obtain ⟨m1, v1, e1⟩ := turn_mem hΓ hD h4 hc.mem hc.nod hc.inj hc.old
  exact ⟨m', n', _, hc.nx, m1, h6.trans e1, .inl ⟨r', v, h1, hq, v1 r r' hc.res _ h5⟩⟩
 ·obtain ⟨m1, v1, e1⟩ := turn_mem hΓ hD h4 hc.mem hc.nod hc.inj hc.old
  exact ⟨m', n', _, hc.nx, m1, h6.trans e1, .inr ⟨x, h1, hq⟩⟩
structure AOpsP (P : Program) (Γ : List (Nat × AV)) (B : Nat) (ops l : List Oper) (s : St) (K : St → Prop) (Kp : Value → St → Prop) : Prop where
 run : aOps P Γ (semP P Γ B) ops l s K Kp
def foAP (P : Program) (Γ : List (Nat × AV)) (B : Nat) (ops : List Oper) (K : St → Prop) (Kp : Value → St → Prop) (next : List Oper → St → Prop) (l : List Oper) (s : St) : Prop :=
 match l with
 | [] => K s
 | o :: r => stK s fun sl mem nx nt => fWant ops sl o.guard
   (fEffP false P Γ (semP P Γ B) sl mem nx o.op (fun v mem nx => fPut s o.dst v mem nx fun s' => next r s') fun x mem nx => Kp x ⟨sl, mem, nx, nt⟩)
   (fPut s o.dst (.tup []) mem nx fun s' => next r s')
theorem foAP_ok {ops : List Oper} {K : St → Prop} {Kp : Value → St → Prop} {next : List Oper → St → Prop} (hn : ∀ r s, next r s → AOpsP P Γ B ops r s K Kp) {l : List Oper} {s : St} (h : foAP P Γ B ops K Kp next l s) : AOpsP P Γ B ops l s K Kp := by
 refine ⟨?_⟩
 cases l with
 | nil => exact h
 | cons o r =>
  have h : fWant ops s.sl o.guard (fEffP false P Γ (semP P Γ B) s.sl s.mem s.nx o.op (fun v mem nx => fPut s o.dst v mem nx fun s' => next r s') fun x mem nx => Kp x ⟨s.sl, mem, nx, s.nt⟩) (fPut s o.dst (.tup []) s.mem s.nx fun s' => next r s') := h
  simp only [aOps]
  rcases fWant_a h with ⟨h1, h⟩ | ⟨h1, h⟩
  ·simp only [h1]
   rcases fEffP_a h with ⟨v, m, n, h2, h⟩ | ⟨h2, F, l, h3, h⟩ | ⟨h2, h3, y, h4, h⟩
   ·obtain ⟨s', h4, h⟩ := fPut_a h
    simp only [h2, h4]
    exact (hn _ _ h).run
   ·simp only [h2, h3]
    refine (show ACallsP P Γ F l s.mem s.nx _ _ from h).mono (fun v m n h => ?_) fun x m n h => h
    obtain ⟨s', h4, h⟩ := fPut_a h
    simp only [h4]
    exact (hn _ _ h).run
   ·simp only [h2, h3, h4]
    exact h
  ·obtain ⟨s', h4, h⟩ := fPut_a h
   simp only [h1, h4]
   exact (hn _ _ h).run
def foQ0 (P : Program) (Γ : List (Nat × AV)) (B : Nat) (ops : List Oper) (K : St → Prop) (Kp : Value → St → Prop) (l : List Oper) (s : St) : Prop := AOpsP P Γ B ops l s K Kp
theorem foQ0_ok {ops : List Oper} {K : St → Prop} {Kp : Value → St → Prop} (l : List Oper) (s : St) (h : foQ0 P Γ B ops K Kp l s) : AOpsP P Γ B ops l s K Kp := h
def foQ1 (P : Program) (Γ : List (Nat × AV)) (B : Nat) (ops : List Oper) (K : St → Prop) (Kp : Value → St → Prop) (l : List Oper) (s : St) : Prop := foAP P Γ B ops K Kp (foQ0 P Γ B ops K Kp) l s
theorem foQ1_ok {ops : List Oper} {K : St → Prop} {Kp : Value → St → Prop} (l : List Oper) (s : St) (h : foQ1 P Γ B ops K Kp l s) : AOpsP P Γ B ops l s K Kp := foAP_ok foQ0_ok h
def foQ2 (P : Program) (Γ : List (Nat × AV)) (B : Nat) (ops : List Oper) (K : St → Prop) (Kp : Value → St → Prop) (l : List Oper) (s : St) : Prop := foAP P Γ B ops K Kp (foQ1 P Γ B ops K Kp) l s
theorem foQ2_ok {ops : List Oper} {K : St → Prop} {Kp : Value → St → Prop} (l : List Oper) (s : St) (h : foQ2 P Γ B ops K Kp l s) : AOpsP P Γ B ops l s K Kp := foAP_ok foQ1_ok h
def foQ3 (P : Program) (Γ : List (Nat × AV)) (B : Nat) (ops : List Oper) (K : St → Prop) (Kp : Value → St → Prop) (l : List Oper) (s : St) : Prop := foAP P Γ B ops K Kp (foQ2 P Γ B ops K Kp) l s
theorem foQ3_ok {ops : List Oper} {K : St → Prop} {Kp : Value → St → Prop} (l : List Oper) (s : St) (h : foQ3 P Γ B ops K Kp l s) : AOpsP P Γ B ops l s K Kp := foAP_ok foQ2_ok h
def foQ4 (P : Program) (Γ : List (Nat × AV)) (B : Nat) (ops : List Oper) (K : St → Prop) (Kp : Value → St → Prop) (l : List Oper) (s : St) : Prop := foAP P Γ B ops K Kp (foQ3 P Γ B ops K Kp) l s
theorem foQ4_ok {ops : List Oper} {K : St → Prop} {Kp : Value → St → Prop} (l : List Oper) (s : St) (h : foQ4 P Γ B ops K Kp l s) : AOpsP P Γ B ops l s K Kp := foAP_ok foQ3_ok h
def foQ5 (P : Program) (Γ : List (Nat × AV)) (B : Nat) (ops : List Oper) (K : St → Prop) (Kp : Value → St → Prop) (l : List Oper) (s : St) : Prop := foAP P Γ B ops K Kp (foQ4 P Γ B ops K Kp) l s
theorem foQ5_ok {ops : List Oper} {K : St → Prop} {Kp : Value → St → Prop} (l : List Oper) (s : St) (h : foQ5 P Γ B ops K Kp l s) : AOpsP P Γ B ops l s K Kp := foAP_ok foQ4_ok h
theorem AOpsP.many {ops l : List Oper} {s : St} {K : St → Prop} {Kp : Value → St → Prop} (h : foQ5 P Γ B ops K Kp l s) : AOpsP P Γ B ops l s K Kp := foQ5_ok l s h
structure ADrP (P : Program) (Γ : List (Nat × AV)) (B : Nat) (ops : List Oper) (tr : List (List Nat)) (base : Nat) (K : St → Prop) (Kp : Value → Mem → Nat → Prop) (l : List Nat) (recs : List Rec) (s : St) : Prop where
 run : vrun P Γ (semP P Γ B) ops tr base K Kp l recs s
def fd1P (P : Program) (Γ : List (Nat × AV)) (B : Nat) (ops : List Oper) (tr : List (List Nat)) (base : Nat) (K : St → Prop) (Kp : Value → Mem → Nat → Prop) (l : List Nat) (recs : List Rec) (s : St) : Prop :=
 match l with
 | [] => K s
 | i :: r => match ops[i]? with
  | none => False
  | some o => stK s fun sl mem nx nt => fWant ops sl o.guard
   (match kind P o.op with
    | .pure => match still o.op with
     | true => fStep false P Γ sl [] nx o.op fun v _ _ => fPut s o.dst v mem nx fun s' => ADrP P Γ B ops tr base K Kp r (⟨i, sl, true, v⟩ :: recs) s'
     | false => filterK (fun p => vis tr base ops.length i p.1) mem fun m => fStep false P Γ sl m nx o.op fun v _ _ => fPut s o.dst v mem nx fun s' => ADrP P Γ B ops tr base K Kp r (⟨i, sl, true, v⟩ :: recs) s'
    | .al => natK (base + i) fun id => fStep false P Γ sl [] id o.op fun v m _ => match m with
     | [(_, b)] => fPut s o.dst v ((id, b) :: mem) nx fun s' => ADrP P Γ B ops tr base K Kp r (⟨i, sl, true, v⟩ :: recs) s'
     | _ => False
    | .eff => filterK (fun p => vis tr base ops.length i p.1) mem fun m => fEff false P Γ (semP P Γ B) sl m nx o.op (fun v m nx' => filterK (fun p => !vis tr base ops.length i p.1) mem fun rest => filterK (fun p => !hasKey p.1 m) rest fun rest => appK m rest fun m =>
      fPut s o.dst v m nx' fun s' => fChk false P Γ ops tr base i m nx' recs (ADrP P Γ B ops tr base K Kp r recs s')) Kp)
   (fPut s o.dst (.tup []) mem nx fun s' => ADrP P Γ B ops tr base K Kp r (⟨i, sl, false, .tup []⟩ :: recs) s')
theorem ADrP.go {ops : List Oper} {tr : List (List Nat)} {base : Nat} {K : St → Prop} {Kp : Value → Mem → Nat → Prop} {l : List Nat} {recs : List Rec} {s : St} (h : fd1P P Γ B ops tr base K Kp l recs s) : ADrP P Γ B ops tr base K Kp l recs s := by
 refine ⟨?_⟩
 cases l with
 | nil => exact h
 | cons i r =>
  simp only [fd1P] at h
  simp only [vrun]
  split at h
  ·exact h.elim
  ·rename_i o ho
   simp only [ho]
   have h := stK_iff.1 h
   rcases fWant_a h with ⟨h1, h⟩ | ⟨h1, h⟩
   ·simp only [h1]
    split at h
    ·rename_i hkd
     simp only [hkd]
     split at h
     ·rename_i hst
      obtain ⟨v, m, n, h2, h⟩ := fStep_a (s := { sl := s.sl, mem := [], nx := s.nx, nt := s.nt }) h
      obtain ⟨m', n', h2'⟩ := aStep_still (s := { sl := s.sl, mem := [], nx := s.nx, nt := s.nt }) (s' := { s with mem := seen tr base ops.length i s.mem }) hst rfl h2
      obtain ⟨s', h3, h⟩ := fPut_a h
      simp only [h2', h3]
      exact h.run
     ·have h := filterK_iff.1 h
      obtain ⟨v, m, n, h2, h⟩ := fStep_a (s := { s with mem := seen tr base ops.length i s.mem }) h
      obtain ⟨s', h3, h⟩ := fPut_a h
      simp only [h2, h3]
      exact h.run
    ·rename_i hkd
     simp only [hkd]
     have h := natK_iff.1 h
     obtain ⟨v, m, n, h2, h⟩ := fStep_a (s := { s with mem := [], nx := base + i }) h
     simp only [h2]
     split at h
     ·obtain ⟨s', h3, h⟩ := fPut_a h
      simp only [h3]
      exact h.run
     ·exact h.elim
    ·rename_i hkd
     simp only [hkd]
     have h := filterK_iff.1 h
     rcases fEff_a (s := { s with mem := seen tr base ops.length i s.mem }) h with ⟨v, m, n, h2, h⟩ | ⟨h2, F, l, h3, h⟩
     ·simp only [h2]
      have h := appK_iff.1 (filterK_iff.1 (filterK_iff.1 h))
      obtain ⟨s', h3, h⟩ := fPut_a h
      have h3 : stepSt s o.dst v (m ++ back m (unseen tr base ops.length i s.mem)) n = some s' := h3
      simp only [h3]
      obtain ⟨e1, e2, _⟩ := stepSt_parts h3
      have h : fChk false P Γ ops tr base i (m ++ back m (unseen tr base ops.length i s.mem)) n recs (ADrP P Γ B ops tr base K Kp r recs s') := h
      rw [← e1, ← e2] at h
      obtain ⟨h4, h⟩ := fChk_a h
      exact ⟨h4, h.run⟩
     ·rw [aCall_congr (s' := s) (fun x _ => by cases x <;> rfl)] at h3
      simp only [h2, h3]
      refine (show ACallsP P Γ F l _ _ _ _ from h).mono (fun v m n h => ?_) fun x m n h => h
      have h := appK_iff.1 (filterK_iff.1 (filterK_iff.1 h))
      obtain ⟨s', h3, h⟩ := fPut_a h
      have h3 : stepSt s o.dst v (m ++ back m (unseen tr base ops.length i s.mem)) n = some s' := h3
      simp only [h3]
      obtain ⟨e1, e2, _⟩ := stepSt_parts h3
      have h : fChk false P Γ ops tr base i (m ++ back m (unseen tr base ops.length i s.mem)) n recs (ADrP P Γ B ops tr base K Kp r recs s') := h
      rw [← e1, ← e2] at h
      obtain ⟨h4, h⟩ := fChk_a h
      exact ⟨h4, h.run⟩
   ·obtain ⟨s', h3, h⟩ := fPut_a h
    simp only [h1, h3]
    exact h.run
end
end Go.Ax
namespace Go.Ax
open Go
theorem ACallsP.useN {P : Program} {Γ : List (Nat × AV)} {F : FuncId} {args args' : List AV} {ms mem m1 : Mem} {ns nx : Nat} {Qs K : AV → Mem → Nat → Prop} {Qsp Kp : Value → Mem → Nat → Prop} (hΓ : ∀ p ∈ Γ, NN p.2) (σ : List (Nat × Nat)) (h : ACallsP P Γ F args' ms ns Qs Qsp)
  (hp : pickM (keysS σ) mem = m1) (hargs : CvL m1 σ args args') (hM : MemConv m1 σ ms) (hc : (nodM ms && (nod2 σ && valsLt ns σ)) = true)
  (hk : ∀ r m n, Qs r m n → ∃ τ r' m' n', Cv m τ r r' ∧ MemConv m τ m' ∧ (nodM m' && (nod2 τ && (Nat.ble nx n' && (keysOr (keysS σ) nx m' && tauOK σ ns nx n' τ)))) = true ∧ K r' (m' ++ dropM (keysS σ) mem) n')
  (hkp : ∀ x m n, Qsp x m n → ∃ τ m' n', MemConv m τ m' ∧ (nodM m' && (nod2 τ && (Nat.ble nx n' && (keysOr (keysS σ) nx m' && tauOK σ ns nx n' τ)))) = true ∧ Kp x (m' ++ dropM (keysS σ) mem) n') : ACallsP P Γ F args mem nx K Kp := by
 simp only [Bool.and_eq_true] at hc
 obtain ⟨hc1, hc2, hc4⟩ := hc
 refine ⟨fun X D ρ w vs hD hm hv => ?_⟩
 have key : ∀ (m' : Mem) (n' : Nat), keysOr (keysS σ) nx m' = true → ∀ p ∈ m', ∀ q ∈ dropM (keysS σ) mem, p.1 ≠ q.1 := fun m' n' hko p h5 q h6 => by
  have b := (dropM_mem.1 h6).2
  rcases keysOr_sound hko p h5 with a | a
  ·have := hD _ (hm.low q (dropM_mem.1 h6).1)
   omega
  ·intro e
   rw [e, b] at a
   cases a
 refine (ACallsP.use (K := K) (Kp := Kp) (nx := nx) hΓ h σ (m1 := m1) (rest := dropM (keysS σ) mem) ⟨fun p hp' => ?_, fun p hp' => (dropM_mem.1 hp').1, fun p hp' => ?_, fun p h1 q h2 => ?_, ?_⟩ ?_ hargs hM.cvm (nodM_sound hc1) (inj_of hc2) (fun id i hl => valsLt_sound hc4 _ (lk_mem hl)) ?_ ?_).run X D ρ w vs hD hm hv
 ·rw [← hp] at hp'; exact (pickM_mem.1 hp').1
 ·cases hi : inL p.1 (keysS σ) with
  | true => left; rw [← hp]; exact pickM_mem.2 ⟨hp', hi⟩
  | false => right; exact dropM_mem.2 ⟨hp', hi⟩
 ·rw [← hp] at h1
  have a := (pickM_mem.1 h1).2
  have b := (dropM_mem.1 h2).2
  intro e
  rw [e, b] at a
  cases a
 ·rw [← hp]; exact hm.nod.sublist ((pickM_sub mem).map _)
 ·exact hm.nod.sublist ((dropM_sub mem).map _)
 ·intro r m n hq hn
  obtain ⟨τ, r', m', n', h1, h2, h3, h4⟩ := hk r m n hq
  simp only [Bool.and_eq_true] at h3
  exact ⟨τ, r', m', n', Nat.le_of_ble_eq_true h3.2.2.1, h1, h2.cvm, nodM_sound h3.1, inj_of h3.2.1, fun i id hl => tauOK_sound h3.2.2.2.2 _ (lk_mem hl), key m' n' h3.2.2.2.1, h4⟩
 ·intro x m n hq hn
  obtain ⟨τ, m', n', h2, h3, h4⟩ := hkp x m n hq
  simp only [Bool.and_eq_true] at h3
  exact ⟨τ, m', n', Nat.le_of_ble_eq_true h3.2.2.1, h2.cvm, nodM_sound h3.1, inj_of h3.2.1, fun i id hl => tauOK_sound h3.2.2.2.2 _ (lk_mem hl), key m' n' h3.2.2.2.1, h4⟩
theorem ACallsP.pre {P : Program} {Γ : List (Nat × AV)} {F : FuncId} {args args' : List AV} {mem mem' : Mem} {nx : Nat} {K : AV → Mem → Nat → Prop} {Kp : Value → Mem → Nat → Prop} (hΓ : ∀ p ∈ Γ, NN p.2) (σ : List (Nat × Nat)) (hid : (sameN σ && nodM mem') = true)
  (hM : MemConv mem σ mem') (hargs : CvL mem σ args args') (h : ACallsP P Γ F args' mem' nx K Kp) : ACallsP P Γ F args mem nx K Kp := by
 simp only [Bool.and_eq_true] at hid
 have hid1 := sameN_sound hid.1
 have hnod := nodM_sound hid.2
 refine ⟨fun X D ρ w vs hD hm hv => ?_⟩
 have hσ : ∀ id id', lk σ id = some id' → D id → D id' ∧ ρ id' = ρ id := by
  intro id id' h hd
  have := hid1 _ (lk_mem h)
  simp only at this
  subst this
  exact ⟨hd, rfl⟩
 have hinj : Inj σ := fun i j k h1 h2 => by
  have a := hid1 _ (lk_mem h1)
  have b := hid1 _ (lk_mem h2)
  simp only at a b
  omega
 obtain ⟨m1, v1, o1⟩ := hm.turn (D' := D) (ρ' := ρ) hΓ hσ hM.cvm hnod hinj
 have hvs : VRL ρ D (OX X ρ mem') w args' vs := ⟨by rw [← hargs.1]; exact hv.1, fun j c' x hc' hx => by
   obtain ⟨c, hc⟩ := get_of_len hargs.1 hc'
   exact v1 c c' (hargs.2 j c c' hc hc') _ (hv.2 j c x hc hx)⟩
 refine (h.run X D ρ w vs hD m1 hvs).mono ?_
 rintro e w' ⟨m, n, ρ', h3, h4, h6, hr⟩
 have e0 : Ext D ρ mem w ρ D mem' w := ⟨fun i hi => hi, fun _ _ => rfl, Nat.le_refl _, fun _ _ _ => rfl, fun p hp hn => .inl (o1 p hp hn), .refl _⟩
 exact ⟨m, n, ρ', h3, h4, e0.trans h6, hr⟩
theorem ACallsP.ph {P : Program} {Γ : List (Nat × AV)} {F : FuncId} {args : List AV} {mem : Mem} {nx : Nat} {K : AV → Mem → Nat → Prop} {Kp : Value → Mem → Nat → Prop} (t : TypeId) (sz : Nat) (h : ACallsP P Γ F args ((nx, .row t sz []) :: mem) (nx + 1) K Kp) : ACallsP P Γ F args mem nx K Kp := by
 refine ⟨fun X D ρ w vs hD hm hv => ?_⟩
 obtain ⟨m1, v1, e1⟩ := hm.phantom (n := nx) (D' := dn D nx (nx + 1)) (fun h' => Nat.lt_irrefl _ (hD _ h')) (fun i hi => .inl hi) (.inr ⟨Nat.le_refl _, Nat.lt_succ_self _⟩) t sz
 refine (h.run X _ _ w vs (fun i hi => ?_) m1 ⟨hv.1, fun j c x hc hx => v1 _ _ (hv.2 j c x hc hx)⟩).mono ?_
 ·rcases hi with hi | hi
  ·have := hD i hi; omega
  ·exact hi.2
 ·rintro e w' ⟨m, n, ρ', hn, hm', ext, hr⟩
  have ed : dn (dn D nx (nx + 1)) (nx + 1) n = dn D nx n := by
   funext i
   apply propext
   constructor
   ·rintro ((hi | ⟨h1, h2⟩) | ⟨h1, h2⟩)
    ·exact .inl hi
    ·exact .inr ⟨h1, by omega⟩
    ·exact .inr ⟨by omega, h2⟩
   ·rintro (hi | ⟨h1, h2⟩)
    ·exact .inl (.inl hi)
    ·rcases Nat.lt_or_ge i (nx + 1) with h3 | h3
     ·exact .inl (.inr ⟨h1, h3⟩)
     ·exact .inr ⟨h3, h2⟩
  rw [ed] at hm' ext
  have e2 := e1 D fun i hi => hi
  refine ⟨m, n, ρ', by omega, hm', e2.trans ⟨fun i hi => ext.le i (.inl hi), fun i hi => ext.agree i (.inl hi), ext.size, ext.keep, ext.fresh, ext.env⟩, ?_⟩
  rcases hr with ⟨r, v, h1, h2, h3⟩ | hr
  ·rw [ed] at h3
   exact .inl ⟨r, v, h1, h2, h3⟩
  ·exact .inr hr
theorem PureC.frz {P : Program} {Γ : List (Nat × AV)} {F : FuncId} {args as : List AV} {r : AV} {mem : Mem} {nx : Nat} {K : AV → Mem → Nat → Prop} (h : PureC P Γ F as r) (ids : List Nat) (hΓ : ∀ p ∈ Γ, NN p.2) (hargs : CvL (pickM ids mem) [] args as) (hr : NN r) (hk : K r (dropM ids mem) nx) :
  ACalls P Γ F args mem nx K := by
 refine ⟨fun X D ρ w vs hD hm hv => ?_⟩
 refine (ACalls.use (K := K) (nx := nx) hΓ h [] (m1 := pickM ids mem) (rest := dropM ids mem) ⟨fun p hp' => (pickM_mem.1 hp').1, fun p hp' => (dropM_mem.1 hp').1, fun p hp' => ?_, fun p h1 q h2 => ?_, ?_⟩ ?_ hargs (fun p hp => by cases hp) (by simp) (fun i j k h => by simp [lk] at h) (fun id i hl => by simp [lk] at hl) ?_).run X D ρ w vs hD hm hv
 ·cases hi : inL p.1 ids with
  | true => left; exact pickM_mem.2 ⟨hp', hi⟩
  | false => right; exact dropM_mem.2 ⟨hp', hi⟩
 ·have a := (pickM_mem.1 h1).2
  have b := (dropM_mem.1 h2).2
  intro e
  rw [e, b] at a
  cases a
 ·exact hm.nod.sublist ((pickM_sub mem).map _)
 ·exact hm.nod.sublist ((dropM_sub mem).map _)
 ·rintro r' m n ⟨rfl, rfl, rfl⟩ _
  exact ⟨[], r', [], nx, Nat.le_refl _, .same r' hr, (fun p hp => by cases hp), by simp, (fun i j k h => by simp [lk] at h), (fun i id hl => by simp [lk] at hl), (fun p hp => by cases hp), hk⟩
theorem fzRow {mem : Mem} {id len : Nat} {t : TypeId} {sz : Nat} {xs ys : List AV} (h1 : lk mem id = some (.row t sz xs)) (e : len = xs.length) (h : xs = ys) (h5 : NNs ys) : Cv mem [] (.sl id 0 len) (.il sz ys) := by
 subst e h
 exact Cv.fzR h1 rfl (.same h5) rfl
theorem encI_gt {l : List Int} {k : Nat} (h : k < l.length) : (encI l)[(k : Int).toNat]? = some (.int .i64 l[k]) := by simp [encI, List.getElem?_eq_getElem h]
theorem fzPt {mem : Mem} {σ : List (Nat × Nat)} {id i j : Nat} {t : TypeId} {sz : Nat} {xs : List AV} {x c c' v : AV} (h1 : lk mem id = some (.row t sz xs)) (h2 : lk σ id = none) (h3 : xs[i]? = some x) (h4 : x.cells[j]? = some c) (h5 : v.cells = [c']) (h6 : Cv mem σ c c') : Cv mem σ (.ptr id i j) (.ip v) := by
 refine .fzp id i j t sz xs x v h1 h2 h3 ?_ fun k a b ha hb => ?_
 ·have := (List.getElem?_eq_some_iff.1 h4).1
  rw [h5]
  simp only [List.length_singleton]
  omega
 ·rw [h5] at hb
  cases k with
  | zero =>
   rw [Nat.add_zero, h4] at ha
   cases ha
   cases hb
   exact h6
  | succ k => simp at hb
theorem fzP0 {mem : Mem} {σ : List (Nat × Nat)} {id : Nat} {t : TypeId} {sz : Nat} {c v : AV} (h1 : lk mem id = some (.row t sz [c])) (h2 : lk σ id = none) (hc : c.cells = [c]) (hv : v.cells = [v]) (h : Cv mem σ c v) : Cv mem σ (.ptr id 0 0) (.ip v) :=
 fzPt h1 h2 rfl (by rw [hc]; rfl) hv h
end Go.Ax
