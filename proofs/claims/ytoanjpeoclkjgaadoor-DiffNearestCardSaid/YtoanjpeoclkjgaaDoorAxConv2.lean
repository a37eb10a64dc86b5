/- Conversion of states, second part: code, calls, loops. -/
import Derived.Test.YtoanjpeoclkjgaaDoorAxConv
import Derived.Test.YtoanjpeoclkjgaaDoorAxRun
import Derived.Deep.LoopGhost
namespace Go.Ax
open Go
set_option linter.unusedVariables false

/-- A state as another. Names below 'B' keep their names. -/
structure Conv (B : Nat) (σ : List (Nat × Nat)) (s s' : St) : Prop where
  nt : s'.nt = s.nt
  sl : ∀ i v', lk s'.sl i = some v' → ∃ v, lk s.sl i = some v ∧ Cv s.mem σ v v'
  mem : CvM s.mem σ s'.mem
  nod : (s'.mem.map (·.1)).Nodup
  inj : Inj σ
  old : ∀ id id', lk σ id = some id' → (id < B ∨ id' < B → id' = id) ∧ id' < s'.nx
  nx : B ≤ s'.nx

open Classical in
/-- The places of the new names. -/
noncomputable def turnL (σ : List (Nat × Nat)) (ρ ρ0 : Nat → Loc) (n : Nat) : Loc := if h : ∃ id, lk σ id = some n then ρ h.choose else ρ0 n

theorem turnL_at {σ : List (Nat × Nat)} (hi : Inj σ) {ρ ρ0 : Nat → Loc} {id n : Nat} (h : lk σ id = some n) : turnL σ ρ ρ0 n = ρ id := by
  have hex : ∃ id, lk σ id = some n := ⟨id, h⟩
  unfold turnL
  rw [dif_pos hex]
  exact congrArg ρ (hi _ _ n hex.choose_spec h)

theorem turnL_not {σ : List (Nat × Nat)} {ρ ρ0 : Nat → Loc} {n : Nat} (h : ¬ ∃ id, lk σ id = some n) : turnL σ ρ ρ0 n = ρ0 n := by
  unfold turnL
  rw [dif_neg h]

/-- What is asked of a change of names at a memory with the names 'dn D B n'. -/
theorem turn_mem {Γ : List (Nat × AV)} {X : Nat → Prop} {ρ : Nat → Loc} {D : Nat → Prop} {B n n' : Nat} {σ : List (Nat × Nat)} {m m' : Mem} {w : World} (hΓ : ∀ p ∈ Γ, NN p.2) (hD : ∀ i, D i → i < B)
    (hm : MR Γ X ρ (dn D B n) m w) (hM : CvM m σ m') (hnod : (m'.map (·.1)).Nodup) (hinj : Inj σ) (hold : ∀ id id', lk σ id = some id' → (id < B ∨ id' < B → id' = id) ∧ id' < n') :
    MR Γ X (turnL σ ρ ρ) (dn D B n') m' w ∧ (∀ v v', Cv m σ v v' → ∀ x, VR ρ (dn D B n) (OX X ρ m) w v x → VR (turnL σ ρ ρ) (dn D B n') (OX X (turnL σ ρ ρ) m') w v' x) ∧
      Ext D ρ m w (turnL σ ρ ρ) (dn D B n') m' w := by
  have hσ : ∀ id id', lk σ id = some id' → dn D B n id → dn D B n' id' ∧ turnL σ ρ ρ id' = ρ id := by
    intro id id' h hd
    refine ⟨?_, turnL_at hinj h⟩
    obtain ⟨h1, h2⟩ := hold id id' h
    rcases hd with hd | ⟨hd1, hd2⟩
    · rw [h1 (.inl (hD _ hd))]; exact .inl hd
    · refine .inr ⟨?_, h2⟩
      rcases Nat.lt_or_ge id' B with h3 | h3
      · have := h1 (.inr h3); omega
      · exact h3
  obtain ⟨m1, v1, o1⟩ := hm.turn hΓ hσ hM hnod hinj
  refine ⟨m1, v1, fun i hi => .inl hi, fun i hi => ?_, Nat.le_refl _, fun _ _ _ => rfl, fun p hp hn => .inl (o1 p hp hn), rfl, rfl⟩
  by_cases hex : ∃ id, lk σ id = some i
  · obtain ⟨id, h⟩ := hex
    rw [turnL_at hinj h]
    rw [(hold id i h).1 (.inr (hD i hi))]
  · exact turnL_not hex

section
variable {P : Program} {Γ : List (Nat × AV)} {B : Nat} {c : Code}

theorem SR.conv {X : Nat → Prop} {ρ : Nat → Loc} {D : Nat → Prop} {s s' : St} {a : Act} {w : World} {σ : List (Nat × Nat)} (hΓ : ∀ p ∈ Γ, NN p.2) (hD : ∀ i, D i → i < B) (hc : Conv B σ s s') (hs : SR Γ X ρ (dn D B s.nx) s a w) :
    SR Γ X (turnL σ ρ ρ) (dn D B s'.nx) s' a w ∧ Ext D ρ s.mem w (turnL σ ρ ρ) (dn D B s'.nx) s'.mem w := by
  obtain ⟨m1, v1, e1⟩ := turn_mem hΓ hD hs.mr hc.mem hc.nod hc.inj hc.old
  refine ⟨⟨m1, hs.def0, by rw [hc.nt]; exact hs.size, fun i v' hi => ?_⟩, e1⟩
  obtain ⟨v, hv, hcv⟩ := hc.sl i v' hi
  exact v1 v v' hcv _ (hs.slot i v hv)

theorem AWp.conv {s s' : St} {Q : Exit → St → Prop} {σ : List (Nat × Nat)} (hΓ : ∀ p ∈ Γ, NN p.2) (hc : Conv B σ s s') (h : AWp P Γ B c s' Q) : AWp P Γ B c s Q := by
  refine ⟨fun X D ρ a w hD hs hB => ?_⟩
  obtain ⟨h1, h2⟩ := hs.conv hΓ hD hc
  refine Go.wp_mono (h.run X D _ a w hD h1 hc.nx) ?_
  rintro e a' w' ⟨s2, ρ2, k1, k2, k3, k4⟩
  exact ⟨s2, ρ2, k1, k2, k3, h2.trans k4⟩

/-- A name for an empty slice. -/
theorem AWp.ph {s : St} {Q : Exit → St → Prop} (t : TypeId) (sz : Nat) (h : AWp P Γ B c ⟨s.sl, (s.nx, .row t sz []) :: s.mem, s.nx + 1, s.nt⟩ Q) : AWp P Γ B c s Q := by
  refine ⟨fun X D ρ a w hD hs hB => ?_⟩
  obtain ⟨m1, v1, e1⟩ := hs.mr.phantom (n := s.nx) (D' := dn D B (s.nx + 1)) (fun h' => Nat.lt_irrefl _ (dn_lt hD hB _ h')) (dn_grow (Nat.le_succ _)) (.inr ⟨hB, Nat.lt_succ_self _⟩) t sz
  refine Go.wp_mono (h.run X D _ a w hD ⟨m1, hs.def0, hs.size, fun i v hi => v1 _ _ (hs.slot i v hi)⟩ (Nat.le_trans hB (Nat.le_succ _))) ?_
  rintro e a' w' ⟨s2, ρ2, k1, k2, k3, k4⟩
  exact ⟨s2, ρ2, k1, k2, k3, (e1 D fun i hi => .inl hi).trans k4⟩

/-- The result of a call as another. -/
structure ConvV (B : Nat) (σ : List (Nat × Nat)) (r : AV) (m : Mem) (r' : AV) (m' : Mem) (n' : Nat) : Prop where
  res : Cv m σ r r'
  mem : CvM m σ m'
  nod : (m'.map (·.1)).Nodup
  inj : Inj σ
  old : ∀ id id', lk σ id = some id' → (id < B ∨ id' < B → id' = id) ∧ id' < n'
  nx : B ≤ n'

/-- What is asked at the end of a function. -/
inductive Fini (B : Nat) (Q : AV → Mem → Nat → Prop) (r : AV) (m : Mem) (n : Nat) : Prop
  | mk (σ : List (Nat × Nat)) (r' : AV) (m' : Mem) (n' : Nat) : ConvV B σ r m r' m' n' → Q r' m' n' → Fini B Q r m n

theorem ACalls.turn {F : FuncId} {args : List AV} {mem : Mem} {nx : Nat} {Q : AV → Mem → Nat → Prop} (hΓ : ∀ p ∈ Γ, NN p.2) (h : ACalls P Γ F args mem nx (Fini nx Q)) : ACalls P Γ F args mem nx Q := by
  refine ⟨fun X D ρ w vs hD hm hv => (h.run X D ρ w vs hD hm hv).mono ?_⟩
  rintro e w' ⟨r, v, m, n, ρ', h1, ⟨σ, r', m', n', hc, hq⟩, h3, h4, h5, h6⟩
  obtain ⟨m1, v1, e1⟩ := turn_mem hΓ hD h4 hc.mem hc.nod hc.inj hc.old
  exact ⟨r', v, m', n', _, h1, hq, hc.nx, m1, v1 r r' hc.res _ h5, h6.trans e1⟩

/-- Loops. -/
theorem AWp.loop {α : Type} (hΓ : ∀ p ∈ Γ, NN p.2) (I : α → St) (μ : α → Nat) {Q : Exit → St → Prop}
    (h : ∀ x, AWp P Γ B c (I x) fun e s => match e with
      | .normal => ∃ y σ, Conv B σ s (I y) ∧ μ y < μ x
      | e => Q e s) (x : α) : AWp P Γ B (.loop c) (I x) Q := by
  refine ⟨fun X D ρ a w hD hs hB => ?_⟩
  refine wp_loop_ghost (fun n a' w' => ∃ (y : α) (ρ' : Nat → Loc), n = μ y ∧ B ≤ (I y).nx ∧ SR Γ X ρ' (dn D B (I y).nx) (I y) a' w' ∧ Ext D ρ (I x).mem w ρ' (dn D B (I y).nx) (I y).mem w') (μ x) ⟨x, ρ, rfl, hB, hs, Ext.refl fun i hi => .inl hi⟩ ?_
  rintro n a1 w1 ⟨y, ρ1, rfl, hB1, hs1, e1⟩
  refine Go.wp_mono ((h y).run X D ρ1 a1 w1 hD hs1 hB1) ?_
  rintro e a2 w2 ⟨s2, ρ2, hq, hB2, hs2, e2⟩
  cases e with
  | normal =>
    obtain ⟨z, σ, hc, hlt⟩ := hq
    obtain ⟨h1, h2⟩ := hs2.conv hΓ hD hc
    exact ⟨μ z, hlt, z, _, rfl, hc.nx, h1, (e1.trans e2).trans h2⟩
  | exit i => exact ⟨s2, ρ2, hq, hB2, hs2, e1.trans e2⟩
  | goto l => exact ⟨s2, ρ2, hq, hB2, hs2, e1.trans e2⟩
  | ret => exact ⟨s2, ρ2, hq, hB2, hs2, e1.trans e2⟩
  | panic c => exact ⟨s2, ρ2, hq, hB2, hs2, e1.trans e2⟩
  | outgrown => exact ⟨s2, ρ2, hq, hB2, hs2, e1.trans e2⟩

/-- Calls and loops, met by what is proved of them. -/
def sem (P : Program) (Γ : List (Nat × AV)) (B : Nat) : Hk := { call := ACalls P Γ, loop := fun c s Q => AWp P Γ B (.loop c) s Q }

theorem sem_ok : HkOK P Γ B (sem P Γ B) := ⟨fun _ _ _ _ _ h => h, fun _ _ _ h => h⟩

/-- A contract of a function. -/
theorem acalls_fn {F : FuncId} {fn : Func} {args : List AV} {mem : Mem} {nx : Nat} {Q : AV → Mem → Nat → Prop} (hΓ : ∀ p ∈ Γ, NN p.2) (hf : P.funcs[F]? = some fn) (hb : fn.body = some c)
    (h : awp P Γ (sem P Γ nx) c (enter fn.ntmps args mem nx) (retQ P fn.results.toList (Fini nx Q))) : ACalls P Γ F args mem nx Q :=
  (acalls_of_awp hf hb (awp_sound sem_ok _ _ _ h)).turn hΓ

/-- Lists of values. -/
def CvL (mem : Mem) (σ : List (Nat × Nat)) (as bs : List AV) : Prop := as.length = bs.length ∧ ∀ (j : Nat) (c c' : AV), as[j]? = some c → bs[j]? = some c' → Cv mem σ c c'

/-- A contract, used at a call: the memory of the call is a part of the memory, with names of its own. 'σ' leads to the names of the contract, 'τ' back. -/
theorem ACalls.use {F : FuncId} {as args : List AV} {ms mem m1 rest : Mem} {ns nx : Nat} {Qs K : AV → Mem → Nat → Prop} (hΓ : ∀ p ∈ Γ, NN p.2) (h : ACalls P Γ F as ms ns Qs) (σ : List (Nat × Nat))
    (hp : Parts mem m1 rest) (hrest : (rest.map (·.1)).Nodup) (hargs : CvL m1 σ args as) (hM : CvM m1 σ ms) (hnod : (ms.map (·.1)).Nodup) (hinj : Inj σ) (hlt : ∀ id i, lk σ id = some i → i < ns)
    (hk : ∀ r m n, Qs r m n → ns ≤ n → ∃ τ r' m' n', nx ≤ n' ∧ Cv m τ r r' ∧ CvM m τ m' ∧ (m'.map (·.1)).Nodup ∧ Inj τ ∧ (∀ i id, lk τ i = some id → (i < ns ∧ lk σ id = some i) ∨ (ns ≤ i ∧ nx ≤ id ∧ id < n')) ∧
      (∀ p ∈ m', ∀ q ∈ rest, p.1 ≠ q.1) ∧ K r' (m' ++ rest) n') : ACalls P Γ F args mem nx K := by
  refine ⟨fun X D ρ w vs hD hm hv => ?_⟩
  obtain ⟨p1, pv⟩ := hm.part hp
  -- down
  have hσ : ∀ id i, lk σ id = some i → D id → (∃ id, lk σ id = some i ∧ D id) ∧ turnL σ ρ ρ i = ρ id := fun id i h1 h2 => ⟨⟨id, h1, h2⟩, turnL_at hinj h1⟩
  obtain ⟨s1, sv, so⟩ := p1.turn (D' := fun i => ∃ id, lk σ id = some i ∧ D id) hΓ hσ hM hnod hinj
  have hvs : VRL (turnL σ ρ ρ) (fun i => ∃ id, lk σ id = some i ∧ D id) (OX (XR X ρ rest) (turnL σ ρ ρ) ms) w as vs :=
    ⟨by rw [← hargs.1]; exact hv.1, fun j c' x hc' hx => by
      obtain ⟨c, hc⟩ := get_of_len hargs.1 hc'
      exact sv c c' (hargs.2 j c c' hc hc') _ (pv _ _ (hv.2 j c x hc hx))⟩
  refine (h.run _ _ _ w vs (fun i ⟨id, h1, _⟩ => hlt id i h1) s1 hvs).mono ?_
  rintro e w' ⟨r, v, m, n, ρs, rfl, hq, hn, r1, rv, ext⟩
  obtain ⟨τ, r', m', n', hn', t1, t2, t3, t4, t5, t6, hK⟩ := hk r m n hq hn
  -- up
  have hτ : ∀ i id, lk τ i = some id → dn (fun i => ∃ id, lk σ id = some i ∧ D id) ns n i → dn D nx n' id ∧ turnL τ ρs ρ id = ρs i := by
    intro i id h1 h2
    refine ⟨?_, turnL_at t4 h1⟩
    rcases t5 i id h1 with ⟨h3, h4⟩ | ⟨h3, h4, h5⟩
    · rcases h2 with ⟨id0, h5, h6⟩ | ⟨h5, _⟩
      · rw [hinj id id0 i h4 h5]; exact .inl h6
      · omega
    · exact .inr ⟨h4, h5⟩
  obtain ⟨u1, uv, uo⟩ := r1.turn hΓ hτ t2 t3 t4
  have hext : Ext D ρ m1 w (turnL τ ρs ρ) (dn D nx n') m' w' := by
    refine ⟨fun i hi => .inl hi, fun id hid => ?_, ext.size, fun b hb ho => ?_, fun p hp' hpn => ?_, ext.env⟩
    · by_cases hex : ∃ i, lk τ i = some id
      · obtain ⟨i, hi⟩ := hex
        rw [turnL_at t4 hi]
        rcases t5 i id hi with ⟨h3, h4⟩ | ⟨h3, h4, h5⟩
        · rw [ext.agree i ⟨id, h4, hid⟩, turnL_at hinj h4]
        · have := hD id hid; omega
      · exact turnL_not hex
    · refine ext.keep b hb fun ⟨p, hp', hpn, e⟩ => ho ?_
      rw [← e]
      exact so p hp' hpn
    · obtain ⟨q, hq', hqn, e⟩ := uo p hp' hpn
      rw [← e]
      rcases ext.fresh q hq' hqn with ⟨q', hq1, hq2, e'⟩ | h1
      · rw [← e']; exact .inl (so q' hq1 hq2)
      · exact .inr h1
  -- the names of the whole
  obtain ⟨j1, j2, j3, j4⟩ := MR.join (D' := dn D nx n') hm hp u1 hext (fun p hp => hp) t6 hrest
  exact ⟨r', v, m' ++ rest, n', _, rfl, hK, hn', j1, j2 _ _ (uv r r' t1 _ rv), j4 D fun i hi => hi⟩

/-- No addresses within. -/
inductive Sc : AV → Prop
  | bool (b : Bool) : Sc (.bool b)
  | int (k : IntKind) (n : Int) : Sc (.int k n)
  | str (s : List UInt8) : Sc (.str s)
  | nptr : Sc .nptr
  | nsl : Sc .nsl
  | nmap : Sc .nmap
  | nfn : Sc .nfn
  | nif : Sc .nif
  | junk : Sc .junk
  | ifc (t : TypeId) (v : AV) : Sc v → Sc (.ifc t v)
  | agg (cs : List AV) : (∀ (j : Nat) (c : AV), cs[j]? = some c → Sc c) → Sc (.agg cs)
  | tup (cs : List AV) : (∀ (j : Nat) (c : AV), cs[j]? = some c → Sc c) → Sc (.tup cs)

theorem Sc.vr {ρ ρ' : Nat → Loc} {D D' O O' : Nat → Prop} {w w' : World} {v : AV} {x : Value} (h : VR ρ D O w v x) (hn : Sc v) : VR ρ' D' O' w' v x := by
  induction h with
  | bool => exact .bool _
  | int => exact .int _ _
  | str => exact .str _
  | nptr => exact .nptr
  | nsl => exact .nsl
  | nmap => exact .nmap
  | nfn => exact .nfn
  | nif => exact .nif
  | ifc t v x _ ih => cases hn with | ifc _ _ hn => exact .ifc t v x (ih hn)
  | agg cs arr hl ho _ ih => cases hn with | agg _ hn => exact .agg cs arr hl ho fun j c x h1 h2 => ih j c x h1 h2 (hn j c h1)
  | tup cs arr hl _ ih => cases hn with | tup _ hn => exact .tup cs arr hl fun j c x h1 h2 => ih j c x h1 h2 (hn j c h1)
  | junk x => exact .junk x
  | _ => cases hn

theorem MR.still {X : Nat → Prop} {ρ : Nat → Loc} {D : Nat → Prop} {mem : Mem} {w w' : World} (hm : MR Γ X ρ D mem w) (hsz : w.heap.size ≤ w'.heap.size) (hh : ∀ b, b < w.heap.size → w'.heap[b]? = w.heap[b]?) (hos : w'.os = w.os ∧ w'.output = w.output) :
    MR Γ X ρ D mem w' ∧ ∀ A : Nat → Prop, (∀ i, A i → D i) → Ext A ρ mem w ρ D mem w' := by
  have hk : ∀ b, b < w.heap.size → ¬ OX X ρ mem b → ¬ OX X ρ mem b ∧ w'.heap[b]? = w.heap[b]? := fun b hb ho => ⟨ho, hh b hb⟩
  have hmono : ∀ v x, VR ρ D (OX X ρ mem) w v x → VR ρ D (OX X ρ mem) w' v x := fun v x h => h.mono (fun _ _ => rfl) (fun _ h => h) hk
  refine ⟨⟨hm.low, fun p hp hn => ?_, hm.emp, hm.inj, hm.nod, fun b hb => ⟨Nat.lt_of_lt_of_le (hm.bar b hb).1 hsz, (hm.bar b hb).2⟩, fun p hp => hmono _ _ (hm.glo p hp)⟩, fun A hA => ⟨fun i hi => hA i hi, fun _ _ => rfl, hsz, fun b hb _ => hh b hb, fun p hp hn => .inl ⟨p, hp, hn, rfl⟩, hos⟩⟩
  obtain ⟨o, ho, hb⟩ := hm.blk p hp hn
  exact ⟨o, by rw [hh _ (own_lt hm (.inr ⟨p, hp, hn, rfl⟩))]; exact ho, hb.mono (fun _ _ => rfl) (fun _ h => h) hk⟩

/-- A call that only looks: the memory is lent. -/
theorem ACalls.lend {F : FuncId} {as args : List AV} {mem : Mem} {nx : Nat} {Qs K : AV → Mem → Nat → Prop} (hΓ : ∀ p ∈ Γ, NN p.2) (h : ACalls P Γ F as [] 0 Qs) (hargs : CvL mem [] args as)
    (hk : ∀ r m n, Qs r m n → Sc r ∧ K r mem nx) : ACalls P Γ F args mem nx K := by
  refine ⟨fun X D ρ w vs hD hm hv => ?_⟩
  obtain ⟨s1, sv, so⟩ := hm.turn (σ := []) (ρ' := ρ) (D' := fun _ => False) (mem' := []) hΓ (fun id id' h => by simp [lk] at h) (fun p hp => by simp at hp) (by simp) (fun i j k h => by simp [lk] at h)
  have hvs : VRL ρ (fun _ => False) (OX X ρ []) w as vs :=
    ⟨by rw [← hargs.1]; exact hv.1, fun j c' x hc' hx => by
      obtain ⟨c, hc⟩ := get_of_len hargs.1 hc'
      exact sv c c' (hargs.2 j c c' hc hc') _ (hv.2 j c x hc hx)⟩
  refine (h.run _ _ _ w vs (fun i h => h.elim) s1 hvs).mono ?_
  rintro e w' ⟨r, v, m, n, ρs, rfl, hq, hn, r1, rv, ext⟩
  obtain ⟨hsc, hK⟩ := hk r m n hq
  obtain ⟨m2, e2⟩ := hm.still ext.size (fun b hb => ext.keep b hb (fun ⟨p, hp, _⟩ => by simp at hp)) ext.env
  obtain ⟨m3, v3, e3⟩ := m2.widen (D' := dn D nx nx) (fun i hi => .inl hi)
  exact ⟨r, v, mem, nx, ρ, rfl, hK, Nat.le_refl _, m3, Sc.vr rv hsc, (e2 D fun i hi => hi).trans (e3 D fun i hi => hi)⟩
end
end Go.Ax
