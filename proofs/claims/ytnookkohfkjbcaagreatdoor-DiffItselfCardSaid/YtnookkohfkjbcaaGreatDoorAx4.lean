/- A part of the proof. -/
import Derived.Test.YtnookkohfkjbcaaGreatDoorAx3
import Derived.LoopN
import Derived.Deep.LoopGhost
set_option linter.unusedVariables false
namespace Go.Ax
open Go
theorem MR.same {Γ : List (Nat × AV)} {X : Nat → Prop} {ρ : Nat → Loc} {D : Nat → Prop} {mem : Mem} {w w' : World} (hm : MR Γ X ρ D mem w) (hh : w'.heap = w.heap) (hos : w'.os = w.os ∧ w'.output = w.output) :
  MR Γ X ρ D mem w' ∧ (∀ v x, VR ρ D (OX X ρ mem) w v x → VR ρ D (OX X ρ mem) w' v x) ∧ ∀ A : Nat → Prop, (∀ i, A i → D i) → Ext A ρ mem w ρ D mem w' := by
 have hk : ∀ b, b < w.heap.size → ¬ OX X ρ mem b → ¬ OX X ρ mem b ∧ w'.heap[b]? = w.heap[b]? := fun b _ ho => ⟨ho, by rw [hh]⟩
 have hmono : ∀ v x, VR ρ D (OX X ρ mem) w v x → VR ρ D (OX X ρ mem) w' v x := fun v x h => h.mono (fun _ _ => rfl) (fun _ h => h) hk
 refine ⟨⟨hm.low, fun p hp hn => ?_, hm.emp, hm.inj, hm.nod, fun b hb => ?_, fun p hp => hmono _ _ (hm.glo p hp)⟩, hmono, fun A hA => ⟨fun i hi => hA i hi, fun _ _ => rfl, by rw [hh]; exact Nat.le_refl _, fun b _ _ => by rw [hh], fun p hp hn => .inl ⟨p, hp, hn, rfl⟩, hos⟩⟩
 ·obtain ⟨o, ho, hb⟩ := hm.blk p hp hn
  exact ⟨o, by rw [hh]; exact ho, hb.mono (fun _ _ => rfl) (fun _ h => h) hk⟩
 ·rw [hh]; exact hm.bar b hb
theorem aDraw_sound {P : Program} {Γ : List (Nat × AV)} {H : Hk} {B : Nat} (hH : HkOK P Γ B H) {ops : List Oper} {s : St} {K : St → Prop} (h : aDraw P Γ H ops s K) (hmix : P.follows .mixedOrders = true) (id : Nat)
  (X : Nat → Prop) (D : Nat → Prop) (ρ : Nat → Loc) (a : Act) (w : World) (hD : ∀ i, D i → i < B) (hs : SR Γ X ρ (dn D B s.nx) s a w) (hB : B ≤ s.nx) (Q : Exit → Act → World → Prop)
  (hQ : ∀ (s' : St) (ρ' : Nat → Loc) (a' : Act) (w' : World), K s' → B ≤ s'.nx → SR Γ X ρ' (dn D B s'.nx) s' a' w' → Ext D ρ s.mem w ρ' (dn D B s'.nx) s'.mem w' → Q .normal a' w') :
  (Code.region id ops.toArray true).wp P Q a w := by
 unfold aDraw at h
 split at h
 ·rename_i hok
  have st := okDraw_sound hok
  refine wp_region_any hmix ?_
  obtain ⟨m1, mono1, ext1⟩ := hs.mr.same (w' := { w with drawn := w.drawn + 1 }) rfl ⟨rfl, rfl⟩
  have hdn : ∀ id, dn D B s.nx id ↔ DN D B s.nx ops.length (fun _ => false) (s.nx + ops.length) id := by
   intro id
   constructor
   ·rintro (h1 | h1)
    ·exact .inl h1
    ·exact .inr (.inl h1)
   ·rintro (h1 | h1 | ⟨k, _, _, h3⟩ | ⟨h1, h2⟩)
    ·exact .inl h1
    ·exact .inr h1
    ·cases h3
    ·omega
  have hlow : ∀ p ∈ s.mem, p.1 < s.nx := fun p hp => dn_lt hD hB _ (hs.mr.low p hp)
  have hmem : memC (fun _ => false) s.nx ops.length s.mem = s.mem := by
   unfold memC
   refine List.filter_eq_self.2 fun p hp => keepC_iff.2 fun h' => ?_
   have := hlow p hp
   omega
  obtain ⟨m2, mono2, ext2⟩ := m1.widen (fun id h => (hdn id).1 h)
  have hsize : ops.toArray.size = ops.length := by simp
  refine Inv.main st hH hD hB Q (ρ0 := ρ) (s0 := s) (w0 := w) hQ ops.toArray.size _ (fun _ => false) [] (eager P ops ops.length [] (upto ops.length)) [] { s with nx := s.nx + ops.length } ρ a _ ?_ (by simp) (fun k hk => by simp [hk]) ?_
  ·rw [hsize]
   have : ∀ n, unl (fun _ => false) n = n := by
    intro n
    induction n with
    | zero => rfl
    | succ n ih => simp [unl, ih]
   rw [this]
   exact Nat.le_refl _
  ·refine ⟨by simp, h, (fun i hi => by cases hi), (fun i hi => by simp at hi), (fun i o hi => by cases hi), Nat.le_refl _, rfl, ?_, hs.mr.nod, fun p hp => ?_, hs.def0, hs.size, (fun i o d v hi => by cases hi), fun t v _ hl => ?_, fun t _ => rfl, (fun i hi => by simp at hi), fun p hp h1 h2 => ?_, ?_⟩
   ·simp only; rw [hmem]; exact m2
   ·have := hlow p hp; simp only; omega
   ·simp only; rw [hmem]; exact mono2 _ _ (mono1 _ _ (hs.slot t v hl))
   ·have := hlow p hp; omega
   ·simp only; rw [hmem]; exact (ext1 D fun i hi => .inl hi).trans (ext2 D fun i hi => .inl hi)
 ·exact h.elim
def awp (P : Program) (Γ : List (Nat × AV)) (H : Hk) : Code → St → (Exit → St → Prop) → Prop
 | .skip, s, Q => Q .normal s
 | .seq x y, s, Q => awp P Γ H x s fun e s' => match e with
  | .normal => awp P Γ H y s' Q
  | e => Q e s'
 | .cond c x y, s, Q => match ev Γ s c with
  | some (.bool b) => match b with
   | true => awp P Γ H x s Q
   | false => awp P Γ H y s Q
  | _ => False
 | .block id c, s, Q => awp P Γ H c s fun e s' => match e with
  | .exit i => match Nat.beq i id with
   | true => Q .normal s'
   | false => Q (.exit i) s'
  | e => Q e s'
 | .loop c, s, Q => H.loop c s Q
 | .exit i, s, Q => Q (.exit i) s
 | .ret, s, Q => Q .ret s
 | .region _ ops draw, s, Q => match draw with
  | false => aOps P Γ H ops.toList ops.toList s fun s' => Q .normal s'
  | true => match P.follows .mixedOrders with
   | true => aDraw P Γ H ops.toList s fun s' => Q .normal s'
   | false => False
 | _, _, _ => False
theorem awp_sound {P : Program} {Γ : List (Nat × AV)} {H : Hk} {B : Nat} (hH : HkOK P Γ B H) : ∀ (c : Code) (s : St) (Q : Exit → St → Prop), awp P Γ H c s Q → AWp P Γ B c s Q := by
 intro c
 induction c with
 | skip => exact fun s Q h => ⟨fun X D ρ a w hD hs hB => wp_skip ⟨s, ρ, h, hB, hs, Ext.refl fun i hi => .inl hi⟩⟩
 | exit i => exact fun s Q h => ⟨fun X D ρ a w hD hs hB => wp_exit ⟨s, ρ, h, hB, hs, Ext.refl fun i hi => .inl hi⟩⟩
 | ret => exact fun s Q h => ⟨fun X D ρ a w hD hs hB => wp_ret ⟨s, ρ, h, hB, hs, Ext.refl fun i hi => .inl hi⟩⟩
 | loop c ih => exact fun s Q h => hH.loop c s Q h
 | seq x y ihx ihy =>
  intro s Q h
  refine ⟨fun X D ρ a w hD hs hB => wp_seq (Go.wp_mono ((ihx s _ h).run X D ρ a w hD hs hB) ?_)⟩
  rintro e a' w' ⟨s', ρ', hq, hB', hs', hext⟩
  cases e with
  | normal =>
   refine Go.wp_mono ((ihy s' Q hq).run X D ρ' a' w' hD hs' hB') ?_
   rintro e a2 w2 ⟨s2, ρ2, h1, h2, h3, h4⟩
   exact ⟨s2, ρ2, h1, h2, h3, hext.trans h4⟩
  | exit i => exact ⟨s', ρ', hq, hB', hs', hext⟩
  | goto l => exact ⟨s', ρ', hq, hB', hs', hext⟩
  | ret => exact ⟨s', ρ', hq, hB', hs', hext⟩
  | panic c => exact ⟨s', ρ', hq, hB', hs', hext⟩
  | outgrown => exact ⟨s', ρ', hq, hB', hs', hext⟩
 | cond c x y ihx ihy =>
  intro s Q h
  simp only [awp] at h
  split at h
  ·rename_i b hc
   refine ⟨fun X D ρ a w hD hs hB => ?_⟩
   have hv := ev_sound hs hc
   generalize he : a.eval c = cv at hv
   cases hv
   cases b with
   | true => exact wp_cond_true he ((ihx s Q h).run X D ρ a w hD hs hB)
   | false => exact wp_cond_false he ((ihy s Q h).run X D ρ a w hD hs hB)
  ·exact h.elim
 | block id c ih =>
  intro s Q h
  refine ⟨fun X D ρ a w hD hs hB => wp_block (Go.wp_mono ((ih s _ h).run X D ρ a w hD hs hB) ?_)⟩
  rintro e a' w' ⟨s', ρ', hq, hB', hs', hext⟩
  cases e with
  | exit i =>
   simp only [Exit.inBlock]
   simp only at hq
   split at hq
   ·rename_i hi; rw [if_pos (Nat.eq_of_beq_eq_true hi)]; exact ⟨s', ρ', hq, hB', hs', hext⟩
   ·rename_i hi; rw [if_neg (Nat.ne_of_beq_eq_false hi)]; exact ⟨s', ρ', hq, hB', hs', hext⟩
  | normal => exact ⟨s', ρ', hq, hB', hs', hext⟩
  | goto l => exact ⟨s', ρ', hq, hB', hs', hext⟩
  | ret => exact ⟨s', ρ', hq, hB', hs', hext⟩
  | panic c => exact ⟨s', ρ', hq, hB', hs', hext⟩
  | outgrown => exact ⟨s', ρ', hq, hB', hs', hext⟩
 | region id ops draw =>
  intro s Q h
  cases draw with
  | false =>
   simp only [awp] at h
   refine ⟨fun X D ρ a w hD hs hB => wp_region_list ?_⟩
   have := aOps_sound hH ops.toList ops.toList s _ h X D ρ a w (fun e a' w' => ∃ (s' : St) (ρ' : Nat → Loc), Q e s' ∧ B ≤ s'.nx ∧ SR Γ X ρ' (dn D B s'.nx) s' a' w' ∧ Ext D ρ s.mem w ρ' (dn D B s'.nx) s'.mem w') hD hs hB
    (fun s' ρ' a' w' h1 h2 h3 h4 => ⟨s', ρ', h1, h2, h3, h4⟩)
   simpa using this
  | true =>
   simp only [awp] at h
   split at h
   ·rename_i hmix
    refine ⟨fun X D ρ a w hD hs hB => ?_⟩
    have := aDraw_sound hH h hmix id X D ρ a w hD hs hB (fun e a' w' => ∃ (s' : St) (ρ' : Nat → Loc), Q e s' ∧ B ≤ s'.nx ∧ SR Γ X ρ' (dn D B s'.nx) s' a' w' ∧ Ext D ρ s.mem w ρ' (dn D B s'.nx) s'.mem w')
     (fun s' ρ' a' w' h1 h2 h3 h4 => ⟨s', ρ', h1, h2, h3, h4⟩)
    simpa using this
   ·exact h.elim
 | _ => intro s Q h; simp only [awp] at h
def enum (k : Nat) : List AV → List (Nat × AV)
 | [] => []
 | a :: r => (k, a) :: enum (k + 1) r
theorem lk_enum : ∀ (l : List AV) (k i : Nat) (v : AV), lk (enum k l) i = some v → k ≤ i ∧ l[i - k]? = some v
 | [], k, i, v, h => by simp [enum, lk] at h
 | a :: r, k, i, v, h => by
  simp only [enum, lk] at h
  split at h
  ·rename_i hk
   have hk := Nat.eq_of_beq_eq_true hk
   subst hk
   cases h
   simp
  ·rename_i hk
   have hk := Nat.ne_of_beq_eq_false hk
   obtain ⟨h1, h2⟩ := lk_enum r (k + 1) i v h
   refine ⟨by omega, ?_⟩
   rw [show i - k = (i - (k + 1)) + 1 by omega]
   simpa using h2
def enter (ntmps : Nat) (args : List AV) (mem : Mem) (nx : Nat) : St := { sl := enum 0 args, mem := mem, nx := nx, nt := args.length + (ntmps - args.length) }
def aRess (P : Program) (s : St) : List ResultVar → Option (List AV)
 | [] => some []
 | .tmp t :: r => match lk s.sl t with
  | some v => match aRess P s r with
   | some l => some (v :: l)
   | none => none
  | none => none
 | .cell a t :: r => match lk s.sl a with
  | some p => match aLoad P s.mem t p with
   | some v => match aRess P s r with
    | some l => some (v :: l)
    | none => none
   | none => none
  | none => none
def aRes (P : Program) (rs : List ResultVar) (s : St) : Option AV :=
 match aRess P s rs with
 | some [v] => some v
 | some l => some (.tup l)
 | none => none
theorem aRess_sound {P : Program} {Γ : List (Nat × AV)} {X : Nat → Prop} {ρ : Nat → Loc} {D : Nat → Prop} {s : St} {a : Act} {w : World} (hs : SR Γ X ρ D s a w) : ∀ {rs : List ResultVar} {l : List AV}, aRess P s rs = some l →
  ∃ vs : List Value, (rs.mapM fun x => match x with
     | ResultVar.tmp t => (pure (a.tmps.getD t undef) : Sem Value)
     | ResultVar.cell x t => do
      let p ← asAddr (a.tmps.getD x undef)
      loadVar t p).run P w = .ok vs w ∧ VRL ρ D (OX X ρ s.mem) w l vs
 | [], l, h => by simp only [aRess] at h; cases h; exact ⟨[], by simp, .nil⟩
 | .tmp t :: r, l, h => by
  simp only [aRess] at h
  split at h
  ·rename_i v hv
   split at h
   ·rename_i l' hl
    cases h
    obtain ⟨vs, h1, h2⟩ := aRess_sound hs hl
    exact ⟨a.tmps.getD t undef :: vs, by rw [List.mapM_cons, Sem.run_bind, Sem.run_pure, Result.andThen_ok, Sem.run_bind, h1]; rfl, .cons (hs.slot t v hv) h2⟩
   ·cases h
  ·cases h
 | .cell x t :: r, l, h => by
  simp only [aRess] at h
  split at h
  ·rename_i p hp
   split at h
   ·rename_i v hv
    split at h
    ·rename_i l' hl
     cases h
     obtain ⟨vs, h1, h2⟩ := aRess_sound hs hl
     obtain ⟨y, hy, hr⟩ := aLoad_sound (P := P) hs.mr hv (hs.slot x p hp)
     refine ⟨y :: vs, ?_, .cons hr h2⟩
     have hy' : (do let p ← asAddr (a.tmps.getD x undef); loadVar t p : Sem Value).run P w = .ok y w := by
      rw [← hy]
      have hpv := hs.slot x p hp
      unfold aLoad at hv
      split at hv
      ·generalize a.tmps.getD x undef = q at hpv
       cases hpv
       simp [Instr.loadAt, Instr.sureAddr, asAddr]
      ·generalize a.tmps.getD x undef = q at hpv
       cases hpv
       simp [Instr.loadAt, Instr.sureAddr, asAddr]
      ·cases hv
     rw [List.mapM_cons, Sem.run_bind, hy', Result.andThen_ok, Sem.run_bind, h1]
     rfl
    ·cases h
   ·cases h
  ·cases h
theorem results_of {P : Program} {w : World} {fn : Func} {tmps : Array Value} {vs : List Value} (h : (fn.results.toList.mapM fun x => match x with
     | ResultVar.tmp t => (pure (tmps.getD t undef) : Sem Value)
     | ResultVar.cell x t => do
      let p ← asAddr (tmps.getD x undef)
      loadVar t p).run P w = .ok vs w) : (results fn tmps).run P w = .ok (match vs with | [x] => x | _ => .tuple vs.toArray) w := by
 unfold results
 rw [Sem.run_bind, Array.mapM_eq_mapM_toList]
 have h' : (List.toArray <$> (fn.results.toList.mapM fun x => match x with
     | ResultVar.tmp t => (pure (tmps.getD t undef) : Sem Value)
     | ResultVar.cell x t => do
      let p ← asAddr (tmps.getD x undef)
      loadVar t p)).run P w = .ok vs.toArray w := by
  rw [Sem.run_map, h]
  rfl
 refine (congrArg (fun r : Result (Array Value) => r.andThen fun vs w' => Sem.run P (pure (if h : vs.size = 1 then vs[0] else Value.tuple vs)) w') h').trans ?_
 match vs with
 | [] => rfl
 | [x] => rfl
 | x :: y :: r => simp
theorem aRes_sound {P : Program} {Γ : List (Nat × AV)} {X : Nat → Prop} {ρ : Nat → Loc} {D : Nat → Prop} {s : St} {a : Act} {w : World} (hs : SR Γ X ρ D s a w) {fn : Func} {v : AV} (h : aRes P fn.results.toList s = some v) :
  ∃ x, (results fn a.tmps).run P w = .ok x w ∧ VR ρ D (OX X ρ s.mem) w v x := by
 unfold aRes at h
 split at h
 ·rename_i u hu
  cases h
  obtain ⟨vs, h1, h2⟩ := aRess_sound hs hu
  obtain ⟨x, rfl⟩ : ∃ x, vs = [x] := by
   have := h2.1
   simp at this
   exact List.length_eq_one_iff.1 this.symm
  exact ⟨x, results_of h1, h2.2 0 v x rfl rfl⟩
 ·rename_i l hl hu
  cases h
  obtain ⟨vs, h1, h2⟩ := aRess_sound hs hu
  refine ⟨.tuple vs.toArray, ?_, h2.tup⟩
  rw [results_of h1]
  match vs, h2.1 with
  | [], _ => rfl
  | [x], e =>
   exfalso
   simp at e
   obtain ⟨y, rfl⟩ := List.length_eq_one_iff.1 e
   exact hl y rfl
  | x :: y :: r, _ => rfl
 ·cases h
def retQ (P : Program) (rs : List ResultVar) (Q : AV → Mem → Nat → Prop) : Exit → St → Prop := fun e s =>
 match e with
 | .normal => match aRes P rs s with
  | some r => Q r s.mem s.nx
  | none => False
 | .ret => match aRes P rs s with
  | some r => Q r s.mem s.nx
  | none => False
 | _ => False
theorem acalls_of_awp {P : Program} {Γ : List (Nat × AV)} {F : FuncId} {fn : Func} {c : Code} {args : List AV} {mem : Mem} {nx : Nat} {Q : AV → Mem → Nat → Prop} (hf : P.funcs[F]? = some fn) (hb : fn.body = some c)
  (h : AWp P Γ nx c (enter fn.ntmps args mem nx) (retQ P fn.results.toList Q)) : ACalls P Γ F args mem nx Q := by
 refine ⟨fun X D ρ w vs hD hm hv => calls_of_wp hf hb ?_⟩
 have hl := hv.1
 obtain ⟨m1, mono1, _⟩ := hm.widen (D' := dn D nx nx) (fun i hi => .inl hi)
 have hs : SR Γ X ρ (dn D nx nx) (enter fn.ntmps args mem nx) { tmps := vs.toArray ++ Array.replicate (fn.ntmps - vs.toArray.size) undef, defers := [] } w := by
  refine ⟨m1, rfl, by simp [enter, hl], fun i v hi => ?_⟩
  obtain ⟨_, h2⟩ := lk_enum args 0 i v hi
  simp only [Nat.sub_zero] at h2
  have hlt : i < vs.length := by
   rw [← hl]
   rcases Nat.lt_or_ge i args.length with h' | h'
   ·exact h'
   ·rw [List.getElem?_eq_none h'] at h2; cases h2
  have e : (vs.toArray ++ Array.replicate (fn.ntmps - vs.toArray.size) undef).getD i undef = vs[i] := by
   simp [Array.getElem?_append, hlt]
  rw [e]
  exact mono1 _ _ (hv.2 i v _ h2 (by simp [hlt]))
 refine Go.wp_mono (h.run X D ρ _ w hD hs (Nat.le_refl _)) ?_
 rintro e a' w' ⟨s', ρ', hq, hB', hs', hext⟩
 cases e with
 | normal =>
  simp only [retQ] at hq
  split at hq
  ·rename_i r hr
   obtain ⟨x, h1, h2⟩ := aRes_sound hs' hr
   exact ⟨hs'.def0, x, h1, r, x, s'.mem, s'.nx, ρ', rfl, hq, hB', hs'.mr, h2, hext⟩
  ·exact hq.elim
 | ret =>
  simp only [retQ] at hq
  split at hq
  ·rename_i r hr
   obtain ⟨x, h1, h2⟩ := aRes_sound hs' hr
   exact ⟨hs'.def0, x, h1, r, x, s'.mem, s'.nx, ρ', rfl, hq, hB', hs'.mr, h2, hext⟩
  ·exact hq.elim
 | _ => exact hq.elim
theorem rounds_mono {P : Program} {c : Code} : ∀ (m : Nat) (a : Act) (w : World) (Q1 Q2 : Exit → Act → World → Prop), (∀ e a w, Q1 e a w → Q2 e a w) → Code.rounds P c Q1 m a w → Code.rounds P c Q2 m a w
 | 0, _, _, _, _, _, h => h
 | m + 1, a, w, Q1, Q2, h12, h => by
  rw [rounds_succ] at h ⊢
  refine Go.wp_mono h ?_
  intro e a w h
  cases e with
  | normal => exact rounds_mono m a w Q1 Q2 h12 h
  | exit id => exact h12 _ _ _ h
  | goto l => exact h12 _ _ _ h
  | ret => exact h12 _ _ _ h
  | panic ch => exact h12 _ _ _ h
  | outgrown => exact h12 _ _ _ h
end Go.Ax
namespace Go.Ax
open Go
structure Conv (B : Nat) (σ : List (Nat × Nat)) (s s' : St) : Prop where
 nt : s'.nt = s.nt
 sl : ∀ i v', lk s'.sl i = some v' → ∃ v, lk s.sl i = some v ∧ Cv s.mem σ v v'
 mem : CvM s.mem σ s'.mem
 nod : (s'.mem.map (·.1)).Nodup
 inj : Inj σ
 old : ∀ id id', lk σ id = some id' → (id' < B → id' = id) ∧ id' < s'.nx
 nx : B ≤ s'.nx
open Classical in
noncomputable def turnL (σ : List (Nat × Nat)) (ρ ρ0 : Nat → Loc) (n : Nat) : Loc := if h : ∃ id, lk σ id = some n then ρ h.choose else ρ0 n
theorem turnL_at {σ : List (Nat × Nat)} (hi : Inj σ) {ρ ρ0 : Nat → Loc} {id n : Nat} (h : lk σ id = some n) : turnL σ ρ ρ0 n = ρ id := by
 have hex : ∃ id, lk σ id = some n := ⟨id, h⟩
 unfold turnL
 rw [dif_pos hex]
 exact congrArg ρ (hi _ _ n hex.choose_spec h)
theorem turnL_not {σ : List (Nat × Nat)} {ρ ρ0 : Nat → Loc} {n : Nat} (h : ¬ ∃ id, lk σ id = some n) : turnL σ ρ ρ0 n = ρ0 n := by
 unfold turnL
 rw [dif_neg h]
theorem turn_mem {Γ : List (Nat × AV)} {X : Nat → Prop} {ρ : Nat → Loc} {D : Nat → Prop} {B n n' : Nat} {σ : List (Nat × Nat)} {m m' : Mem} {w : World} (hΓ : ∀ p ∈ Γ, NN p.2) (hD : ∀ i, D i → i < B)
  (hm : MR Γ X ρ (dn D B n) m w) (hM : CvM m σ m') (hnod : (m'.map (·.1)).Nodup) (hinj : Inj σ) (hold : ∀ id id', lk σ id = some id' → (id' < B → id' = id) ∧ id' < n') :
  MR Γ X (turnL σ ρ ρ) (dn D B n') m' w ∧ (∀ v v', Cv m σ v v' → ∀ x, VR ρ (dn D B n) (OX X ρ m) w v x → VR (turnL σ ρ ρ) (dn D B n') (OX X (turnL σ ρ ρ) m') w v' x) ∧
   Ext D ρ m w (turnL σ ρ ρ) (dn D B n') m' w := by
 have hσ : ∀ id id', lk σ id = some id' → dn D B n id → dn D B n' id' ∧ turnL σ ρ ρ id' = ρ id := by
  intro id id' h hd
  refine ⟨?_, turnL_at hinj h⟩
  obtain ⟨h1, h2⟩ := hold id id' h
  rcases Nat.lt_or_ge id' B with h3 | h3
  ·have h4 := h1 h3
   rcases hd with hd | ⟨hd1, hd2⟩
   ·rw [h4]; exact .inl hd
   ·omega
  ·exact .inr ⟨h3, h2⟩
 obtain ⟨m1, v1, o1⟩ := hm.turn hΓ hσ hM hnod hinj
 refine ⟨m1, v1, fun i hi => .inl hi, fun i hi => ?_, Nat.le_refl _, fun _ _ _ => rfl, fun p hp hn => .inl (o1 p hp hn), rfl, rfl⟩
 by_cases hex : ∃ id, lk σ id = some i
 ·obtain ⟨id, h⟩ := hex
  rw [turnL_at hinj h]
  rw [(hold id i h).1 (hD i hi)]
 ·exact turnL_not hex
section
variable {P : Program} {Γ : List (Nat × AV)} {B : Nat} {c : Code}
theorem SR.conv {X : Nat → Prop} {ρ : Nat → Loc} {D : Nat → Prop} {s s' : St} {a : Act} {w : World} {σ : List (Nat × Nat)} (hΓ : ∀ p ∈ Γ, NN p.2) (hD : ∀ i, D i → i < B) (hc : Conv B σ s s') (hs : SR Γ X ρ (dn D B s.nx) s a w) :
  SR Γ X (turnL σ ρ ρ) (dn D B s'.nx) s' a w ∧ Ext D ρ s.mem w (turnL σ ρ ρ) (dn D B s'.nx) s'.mem w := by
 obtain ⟨m1, v1, e1⟩ := turn_mem hΓ hD hs.mr hc.mem hc.nod hc.inj hc.old
 refine ⟨⟨m1, hs.def0, by rw [hc.nt]; exact hs.size, fun i v' hi => ?_⟩, e1⟩
 obtain ⟨v, hv, hcv⟩ := hc.sl i v' hi
 exact v1 v v' hcv _ (hs.slot i v hv)
theorem AWp.conv {s s' : St} {Q : Exit → St → Prop} {σ : List (Nat × Nat)} (hΓ : ∀ p ∈ Γ, NN p.2) (hc : Conv B σ s s') (h : AWp P Γ B c s' Q) : AWp P Γ B c s Q := by
 refine ⟨fun X D ρ a w hD hs hB => ?_⟩
 obtain ⟨h1, h2⟩ := hs.conv hΓ hD hc
 refine Go.wp_mono (h.run X D _ a w hD h1 hc.nx) ?_
 rintro e a' w' ⟨s2, ρ2, k1, k2, k3, k4⟩
 exact ⟨s2, ρ2, k1, k2, k3, h2.trans k4⟩
theorem AWp.ph {s : St} {Q : Exit → St → Prop} (t : TypeId) (sz : Nat) (h : AWp P Γ B c ⟨s.sl, (s.nx, .row t sz []) :: s.mem, s.nx + 1, s.nt⟩ Q) : AWp P Γ B c s Q := by
 refine ⟨fun X D ρ a w hD hs hB => ?_⟩
 obtain ⟨m1, v1, e1⟩ := hs.mr.phantom (n := s.nx) (D' := dn D B (s.nx + 1)) (fun h' => Nat.lt_irrefl _ (dn_lt hD hB _ h')) (dn_grow (Nat.le_succ _)) (.inr ⟨hB, Nat.lt_succ_self _⟩) t sz
 refine Go.wp_mono (h.run X D _ a w hD ⟨m1, hs.def0, hs.size, fun i v hi => v1 _ _ (hs.slot i v hi)⟩ (Nat.le_trans hB (Nat.le_succ _))) ?_
 rintro e a' w' ⟨s2, ρ2, k1, k2, k3, k4⟩
 exact ⟨s2, ρ2, k1, k2, k3, (e1 D fun i hi => .inl hi).trans k4⟩
structure ConvV (B : Nat) (σ : List (Nat × Nat)) (r : AV) (m : Mem) (r' : AV) (m' : Mem) (n' : Nat) : Prop where
 res : Cv m σ r r'
 mem : CvM m σ m'
 nod : (m'.map (·.1)).Nodup
 inj : Inj σ
 old : ∀ id id', lk σ id = some id' → (id' < B → id' = id) ∧ id' < n'
 nx : B ≤ n'
inductive Fini (B : Nat) (Q : AV → Mem → Nat → Prop) (r : AV) (m : Mem) (n : Nat) : Prop
 | mk (σ : List (Nat × Nat)) (r' : AV) (m' : Mem) (n' : Nat) : ConvV B σ r m r' m' n' → Q r' m' n' → Fini B Q r m n
theorem ACalls.turn {F : FuncId} {args : List AV} {mem : Mem} {nx : Nat} {Q : AV → Mem → Nat → Prop} (hΓ : ∀ p ∈ Γ, NN p.2) (h : ACalls P Γ F args mem nx (Fini nx Q)) : ACalls P Γ F args mem nx Q := by
 refine ⟨fun X D ρ w vs hD hm hv => (h.run X D ρ w vs hD hm hv).mono ?_⟩
 rintro e w' ⟨r, v, m, n, ρ', h1, ⟨σ, r', m', n', hc, hq⟩, h3, h4, h5, h6⟩
 obtain ⟨m1, v1, e1⟩ := turn_mem hΓ hD h4 hc.mem hc.nod hc.inj hc.old
 exact ⟨r', v, m', n', _, h1, hq, hc.nx, m1, v1 r r' hc.res _ h5, h6.trans e1⟩
theorem AWp.loop {α : Type} (hΓ : ∀ p ∈ Γ, NN p.2) (I : α → St) (μ : α → Nat) {Q : Exit → St → Prop}
  (h : ∀ x, AWp P Γ B c (I x) fun e s => match e with
   | .normal => ∃ y σ, Conv B σ s (I y) ∧ μ y < μ x
   | e => Q e s) (x : α) : AWp P Γ B (.loop c) (I x) Q := by
 refine ⟨fun X D ρ a w hD hs hB => ?_⟩
 refine wp_loop_ghost (fun n a' w' => ∃ (y : α) (ρ' : Nat → Loc), n = μ y ∧ B ≤ (I y).nx ∧ SR Γ X ρ' (dn D B (I y).nx) (I y) a' w' ∧ Ext D ρ (I x).mem w ρ' (dn D B (I y).nx) (I y).mem w') (μ x) ⟨x, ρ, rfl, hB, hs, Ext.refl fun i hi => .inl hi⟩ ?_
 rintro n a1 w1 ⟨y, ρ1, rfl, hB1, hs1, e1⟩
 refine Go.wp_mono ((h y).run X D ρ1 a1 w1 hD hs1 hB1) ?_
 rintro e a2 w2 ⟨s2, ρ2, hq, hB2, hs2, e2⟩
 cases e with
 | normal =>
  obtain ⟨z, σ, hc, hlt⟩ := hq
  obtain ⟨h1, h2⟩ := hs2.conv hΓ hD hc
  exact ⟨μ z, hlt, z, _, rfl, hc.nx, h1, (e1.trans e2).trans h2⟩
 | exit i => exact ⟨s2, ρ2, hq, hB2, hs2, e1.trans e2⟩
 | goto l => exact ⟨s2, ρ2, hq, hB2, hs2, e1.trans e2⟩
 | ret => exact ⟨s2, ρ2, hq, hB2, hs2, e1.trans e2⟩
 | panic c => exact ⟨s2, ρ2, hq, hB2, hs2, e1.trans e2⟩
 | outgrown => exact ⟨s2, ρ2, hq, hB2, hs2, e1.trans e2⟩
def sem (P : Program) (Γ : List (Nat × AV)) (B : Nat) : Hk := { call := ACalls P Γ, loop := fun c s Q => AWp P Γ B (.loop c) s Q }
theorem sem_ok : HkOK P Γ B (sem P Γ B) := ⟨fun _ _ _ _ _ h => h, fun _ _ _ h => h⟩
def CvL (mem : Mem) (σ : List (Nat × Nat)) (as bs : List AV) : Prop := as.length = bs.length ∧ ∀ (j : Nat) (c c' : AV), as[j]? = some c → bs[j]? = some c' → Cv mem σ c c'
theorem ACalls.use {F : FuncId} {as args : List AV} {ms mem m1 rest : Mem} {ns nx : Nat} {Qs K : AV → Mem → Nat → Prop} (hΓ : ∀ p ∈ Γ, NN p.2) (h : ACalls P Γ F as ms ns Qs) (σ : List (Nat × Nat))
  (hp : Parts mem m1 rest) (hrest : (rest.map (·.1)).Nodup) (hargs : CvL m1 σ args as) (hM : CvM m1 σ ms) (hnod : (ms.map (·.1)).Nodup) (hinj : Inj σ) (hlt : ∀ id i, lk σ id = some i → i < ns)
  (hk : ∀ r m n, Qs r m n → ns ≤ n → ∃ τ r' m' n', nx ≤ n' ∧ Cv m τ r r' ∧ CvM m τ m' ∧ (m'.map (·.1)).Nodup ∧ Inj τ ∧ (∀ i id, lk τ i = some id → (i < ns ∧ lk σ id = some i) ∨ (ns ≤ i ∧ nx ≤ id ∧ id < n')) ∧
   (∀ p ∈ m', ∀ q ∈ rest, p.1 ≠ q.1) ∧ K r' (m' ++ rest) n') : ACalls P Γ F args mem nx K := by
 refine ⟨fun X D ρ w vs hD hm hv => ?_⟩
 obtain ⟨p1, pv⟩ := hm.part hp
 have hσ : ∀ id i, lk σ id = some i → D id → (∃ id, lk σ id = some i ∧ D id) ∧ turnL σ ρ ρ i = ρ id := fun id i h1 h2 => ⟨⟨id, h1, h2⟩, turnL_at hinj h1⟩
 obtain ⟨s1, sv, so⟩ := p1.turn (D' := fun i => ∃ id, lk σ id = some i ∧ D id) hΓ hσ hM hnod hinj
 have hvs : VRL (turnL σ ρ ρ) (fun i => ∃ id, lk σ id = some i ∧ D id) (OX (XR X ρ rest) (turnL σ ρ ρ) ms) w as vs :=
  ⟨by rw [← hargs.1]; exact hv.1, fun j c' x hc' hx => by
   obtain ⟨c, hc⟩ := get_of_len hargs.1 hc'
   exact sv c c' (hargs.2 j c c' hc hc') _ (pv _ _ (hv.2 j c x hc hx))⟩
 refine (h.run _ _ _ w vs (fun i ⟨id, h1, _⟩ => hlt id i h1) s1 hvs).mono ?_
 rintro e w' ⟨r, v, m, n, ρs, rfl, hq, hn, r1, rv, ext⟩
 obtain ⟨τ, r', m', n', hn', t1, t2, t3, t4, t5, t6, hK⟩ := hk r m n hq hn
 have hτ : ∀ i id, lk τ i = some id → dn (fun i => ∃ id, lk σ id = some i ∧ D id) ns n i → dn D nx n' id ∧ turnL τ ρs ρ id = ρs i := by
  intro i id h1 h2
  refine ⟨?_, turnL_at t4 h1⟩
  rcases t5 i id h1 with ⟨h3, h4⟩ | ⟨h3, h4, h5⟩
  ·rcases h2 with ⟨id0, h5, h6⟩ | ⟨h5, _⟩
   ·rw [hinj id id0 i h4 h5]; exact .inl h6
   ·omega
  ·exact .inr ⟨h4, h5⟩
 obtain ⟨u1, uv, uo⟩ := r1.turn hΓ hτ t2 t3 t4
 have hext : Ext D ρ m1 w (turnL τ ρs ρ) (dn D nx n') m' w' := by
  refine ⟨fun i hi => .inl hi, fun id hid => ?_, ext.size, fun b hb ho => ?_, fun p hp' hpn => ?_, ext.env⟩
  ·by_cases hex : ∃ i, lk τ i = some id
   ·obtain ⟨i, hi⟩ := hex
    rw [turnL_at t4 hi]
    rcases t5 i id hi with ⟨h3, h4⟩ | ⟨h3, h4, h5⟩
    ·rw [ext.agree i ⟨id, h4, hid⟩, turnL_at hinj h4]
    ·have := hD id hid; omega
   ·exact turnL_not hex
  ·refine ext.keep b hb fun ⟨p, hp', hpn, e⟩ => ho ?_
   rw [← e]
   exact so p hp' hpn
  ·obtain ⟨q, hq', hqn, e⟩ := uo p hp' hpn
   rw [← e]
   rcases ext.fresh q hq' hqn with ⟨q', hq1, hq2, e'⟩ | h1
   ·rw [← e']; exact .inl (so q' hq1 hq2)
   ·exact .inr h1
 obtain ⟨j1, j2, j3, j4⟩ := MR.join (D' := dn D nx n') hm hp u1 hext (fun p hp => hp) t6 hrest
 exact ⟨r', v, m' ++ rest, n', _, rfl, hK, hn', j1, j2 _ _ (uv r r' t1 _ rv), j4 D fun i hi => hi⟩
inductive Sc : AV → Prop
 | bool (b : Bool) : Sc (.bool b)
 | int (k : IntKind) (n : Int) : Sc (.int k n)
 | str (s : List UInt8) : Sc (.str s)
 | nptr : Sc .nptr
 | nsl : Sc .nsl
 | nmap : Sc .nmap
 | nfn : Sc .nfn
 | nif : Sc .nif
 | junk : Sc .junk
 | ifc (t : TypeId) (v : AV) : Sc v → Sc (.ifc t v)
 | agg (cs : List AV) : (∀ (j : Nat) (c : AV), cs[j]? = some c → Sc c) → Sc (.agg cs)
 | tup (cs : List AV) : (∀ (j : Nat) (c : AV), cs[j]? = some c → Sc c) → Sc (.tup cs)
theorem Sc.vr {ρ ρ' : Nat → Loc} {D D' O O' : Nat → Prop} {w w' : World} {v : AV} {x : Value} (h : VR ρ D O w v x) (hn : Sc v) : VR ρ' D' O' w' v x := by
 induction h with
 | bool => exact .bool _
 | int => exact .int _ _
 | str => exact .str _
 | nptr => exact .nptr
 | nsl => exact .nsl
 | nmap => exact .nmap
 | nfn => exact .nfn
 | nif => exact .nif
 | ifc t v x _ ih => cases hn with | ifc _ _ hn => exact .ifc t v x (ih hn)
 | agg cs arr hl ho _ ih => cases hn with | agg _ hn => exact .agg cs arr hl ho fun j c x h1 h2 => ih j c x h1 h2 (hn j c h1)
 | tup cs arr hl _ ih => cases hn with | tup _ hn => exact .tup cs arr hl fun j c x h1 h2 => ih j c x h1 h2 (hn j c h1)
 | junk x => exact .junk x
 | _ => cases hn
theorem MR.still {X : Nat → Prop} {ρ : Nat → Loc} {D : Nat → Prop} {mem : Mem} {w w' : World} (hm : MR Γ X ρ D mem w) (hsz : w.heap.size ≤ w'.heap.size) (hh : ∀ b, b < w.heap.size → w'.heap[b]? = w.heap[b]?) (hos : w'.os = w.os ∧ w'.output = w.output) :
  MR Γ X ρ D mem w' ∧ ∀ A : Nat → Prop, (∀ i, A i → D i) → Ext A ρ mem w ρ D mem w' := by
 have hk : ∀ b, b < w.heap.size → ¬ OX X ρ mem b → ¬ OX X ρ mem b ∧ w'.heap[b]? = w.heap[b]? := fun b hb ho => ⟨ho, hh b hb⟩
 have hmono : ∀ v x, VR ρ D (OX X ρ mem) w v x → VR ρ D (OX X ρ mem) w' v x := fun v x h => h.mono (fun _ _ => rfl) (fun _ h => h) hk
 refine ⟨⟨hm.low, fun p hp hn => ?_, hm.emp, hm.inj, hm.nod, fun b hb => ⟨Nat.lt_of_lt_of_le (hm.bar b hb).1 hsz, (hm.bar b hb).2⟩, fun p hp => hmono _ _ (hm.glo p hp)⟩, fun A hA => ⟨fun i hi => hA i hi, fun _ _ => rfl, hsz, fun b hb _ => hh b hb, fun p hp hn => .inl ⟨p, hp, hn, rfl⟩, hos⟩⟩
 obtain ⟨o, ho, hb⟩ := hm.blk p hp hn
 exact ⟨o, by rw [hh _ (own_lt hm (.inr ⟨p, hp, hn, rfl⟩))]; exact ho, hb.mono (fun _ _ => rfl) (fun _ h => h) hk⟩
theorem ACalls.lend {F : FuncId} {as args : List AV} {mem : Mem} {nx : Nat} {Qs K : AV → Mem → Nat → Prop} (hΓ : ∀ p ∈ Γ, NN p.2) (h : ACalls P Γ F as [] 0 Qs) (hargs : CvL mem [] args as)
  (hk : ∀ r m n, Qs r m n → Sc r ∧ K r mem nx) : ACalls P Γ F args mem nx K := by
 refine ⟨fun X D ρ w vs hD hm hv => ?_⟩
 obtain ⟨s1, sv, so⟩ := hm.turn (σ := []) (ρ' := ρ) (D' := fun _ => False) (mem' := []) hΓ (fun id id' h => by simp [lk] at h) (fun p hp => by simp at hp) (by simp) (fun i j k h => by simp [lk] at h)
 have hvs : VRL ρ (fun _ => False) (OX X ρ []) w as vs :=
  ⟨by rw [← hargs.1]; exact hv.1, fun j c' x hc' hx => by
   obtain ⟨c, hc⟩ := get_of_len hargs.1 hc'
   exact sv c c' (hargs.2 j c c' hc hc') _ (hv.2 j c x hc hx)⟩
 refine (h.run _ _ _ w vs (fun i h => h.elim) s1 hvs).mono ?_
 rintro e w' ⟨r, v, m, n, ρs, rfl, hq, hn, r1, rv, ext⟩
 obtain ⟨hsc, hK⟩ := hk r m n hq
 obtain ⟨m2, e2⟩ := hm.still ext.size (fun b hb => ext.keep b hb (fun ⟨p, hp, _⟩ => by simp at hp)) ext.env
 obtain ⟨m3, v3, e3⟩ := m2.widen (D' := dn D nx nx) (fun i hi => .inl hi)
 exact ⟨r, v, mem, nx, ρ, rfl, hK, Nat.le_refl _, m3, Sc.vr rv hsc, (e2 D fun i hi => hi).trans (e3 D fun i hi => hi)⟩
end
end Go.Ax
