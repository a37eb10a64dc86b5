/- Code, functions, closed runs. -/
import Derived.Test.YtoanjpeoclkjgaaDoorAxDraw9
import Derived.LoopN
namespace Go.Ax
open Go
set_option linter.unusedVariables false

def awp (P : Program) (Γ : List (Nat × AV)) (H : Hk) : Code → St → (Exit → St → Prop) → Prop
  | .skip, s, Q => Q .normal s
  | .seq x y, s, Q => awp P Γ H x s fun e s' => match e with
    | .normal => awp P Γ H y s' Q
    | e => Q e s'
  | .cond c x y, s, Q => match ev Γ s c with
    | some (.bool b) => match b with
      | true => awp P Γ H x s Q
      | false => awp P Γ H y s Q
    | _ => False
  | .block id c, s, Q => awp P Γ H c s fun e s' => match e with
    | .exit i => match Nat.beq i id with
      | true => Q .normal s'
      | false => Q (.exit i) s'
    | e => Q e s'
  | .loop c, s, Q => H.loop c s Q
  | .exit i, s, Q => Q (.exit i) s
  | .ret, s, Q => Q .ret s
  | .region _ ops draw, s, Q => match draw with
    | false => aOps P Γ H ops.toList ops.toList s fun s' => Q .normal s'
    | true => match P.follows .mixedOrders with
      | true => aDraw P Γ H ops.toList s fun s' => Q .normal s'
      | false => False
  | _, _, _ => False

theorem awp_sound {P : Program} {Γ : List (Nat × AV)} {H : Hk} {B : Nat} (hH : HkOK P Γ B H) : ∀ (c : Code) (s : St) (Q : Exit → St → Prop), awp P Γ H c s Q → AWp P Γ B c s Q := by
  intro c
  induction c with
  | skip => exact fun s Q h => ⟨fun X D ρ a w hD hs hB => wp_skip ⟨s, ρ, h, hB, hs, Ext.refl fun i hi => .inl hi⟩⟩
  | exit i => exact fun s Q h => ⟨fun X D ρ a w hD hs hB => wp_exit ⟨s, ρ, h, hB, hs, Ext.refl fun i hi => .inl hi⟩⟩
  | ret => exact fun s Q h => ⟨fun X D ρ a w hD hs hB => wp_ret ⟨s, ρ, h, hB, hs, Ext.refl fun i hi => .inl hi⟩⟩
  | loop c ih => exact fun s Q h => hH.loop c s Q h
  | seq x y ihx ihy =>
    intro s Q h
    refine ⟨fun X D ρ a w hD hs hB => wp_seq (Go.wp_mono ((ihx s _ h).run X D ρ a w hD hs hB) ?_)⟩
    rintro e a' w' ⟨s', ρ', hq, hB', hs', hext⟩
    cases e with
    | normal =>
      refine Go.wp_mono ((ihy s' Q hq).run X D ρ' a' w' hD hs' hB') ?_
      rintro e a2 w2 ⟨s2, ρ2, h1, h2, h3, h4⟩
      exact ⟨s2, ρ2, h1, h2, h3, hext.trans h4⟩
    | exit i => exact ⟨s', ρ', hq, hB', hs', hext⟩
    | goto l => exact ⟨s', ρ', hq, hB', hs', hext⟩
    | ret => exact ⟨s', ρ', hq, hB', hs', hext⟩
    | panic c => exact ⟨s', ρ', hq, hB', hs', hext⟩
    | outgrown => exact ⟨s', ρ', hq, hB', hs', hext⟩
  | cond c x y ihx ihy =>
    intro s Q h
    simp only [awp] at h
    split at h
    · rename_i b hc
      refine ⟨fun X D ρ a w hD hs hB => ?_⟩
      have hv := ev_sound hs hc
      generalize he : a.eval c = cv at hv
      cases hv
      cases b with
      | true => exact wp_cond_true he ((ihx s Q h).run X D ρ a w hD hs hB)
      | false => exact wp_cond_false he ((ihy s Q h).run X D ρ a w hD hs hB)
    · exact h.elim
  | block id c ih =>
    intro s Q h
    refine ⟨fun X D ρ a w hD hs hB => wp_block (Go.wp_mono ((ih s _ h).run X D ρ a w hD hs hB) ?_)⟩
    rintro e a' w' ⟨s', ρ', hq, hB', hs', hext⟩
    cases e with
    | exit i =>
      simp only [Exit.inBlock]
      simp only at hq
      split at hq
      · rename_i hi; rw [if_pos (Nat.eq_of_beq_eq_true hi)]; exact ⟨s', ρ', hq, hB', hs', hext⟩
      · rename_i hi; rw [if_neg (Nat.ne_of_beq_eq_false hi)]; exact ⟨s', ρ', hq, hB', hs', hext⟩
    | normal => exact ⟨s', ρ', hq, hB', hs', hext⟩
    | goto l => exact ⟨s', ρ', hq, hB', hs', hext⟩
    | ret => exact ⟨s', ρ', hq, hB', hs', hext⟩
    | panic c => exact ⟨s', ρ', hq, hB', hs', hext⟩
    | outgrown => exact ⟨s', ρ', hq, hB', hs', hext⟩
  | region id ops draw =>
    intro s Q h
    cases draw with
    | false =>
      simp only [awp] at h
      refine ⟨fun X D ρ a w hD hs hB => wp_region_list ?_⟩
      have := aOps_sound hH ops.toList ops.toList s _ h X D ρ a w (fun e a' w' => ∃ (s' : St) (ρ' : Nat → Loc), Q e s' ∧ B ≤ s'.nx ∧ SR Γ X ρ' (dn D B s'.nx) s' a' w' ∧ Ext D ρ s.mem w ρ' (dn D B s'.nx) s'.mem w') hD hs hB
        (fun s' ρ' a' w' h1 h2 h3 h4 => ⟨s', ρ', h1, h2, h3, h4⟩)
      simpa using this
    | true =>
      simp only [awp] at h
      split at h
      · rename_i hmix
        refine ⟨fun X D ρ a w hD hs hB => ?_⟩
        have := aDraw_sound hH h hmix id X D ρ a w hD hs hB (fun e a' w' => ∃ (s' : St) (ρ' : Nat → Loc), Q e s' ∧ B ≤ s'.nx ∧ SR Γ X ρ' (dn D B s'.nx) s' a' w' ∧ Ext D ρ s.mem w ρ' (dn D B s'.nx) s'.mem w')
          (fun s' ρ' a' w' h1 h2 h3 h4 => ⟨s', ρ', h1, h2, h3, h4⟩)
        simpa using this
      · exact h.elim
  | _ => intro s Q h; simp only [awp] at h

/-! ### Functions -/

def enum (k : Nat) : List AV → List (Nat × AV)
  | [] => []
  | a :: r => (k, a) :: enum (k + 1) r

theorem lk_enum : ∀ (l : List AV) (k i : Nat) (v : AV), lk (enum k l) i = some v → k ≤ i ∧ l[i - k]? = some v
  | [], k, i, v, h => by simp [enum, lk] at h
  | a :: r, k, i, v, h => by
    simp only [enum, lk] at h
    split at h
    · rename_i hk
      have hk := Nat.eq_of_beq_eq_true hk
      subst hk
      cases h
      simp
    · rename_i hk
      have hk := Nat.ne_of_beq_eq_false hk
      obtain ⟨h1, h2⟩ := lk_enum r (k + 1) i v h
      refine ⟨by omega, ?_⟩
      rw [show i - k = (i - (k + 1)) + 1 by omega]
      simpa using h2

/-- The state in which a function begins. -/
def enter (ntmps : Nat) (args : List AV) (mem : Mem) (nx : Nat) : St := { sl := enum 0 args, mem := mem, nx := nx, nt := args.length + (ntmps - args.length) }

def aRess (P : Program) (s : St) : List ResultVar → Option (List AV)
  | [] => some []
  | .tmp t :: r => match lk s.sl t with
    | some v => match aRess P s r with
      | some l => some (v :: l)
      | none => none
    | none => none
  | .cell a t :: r => match lk s.sl a with
    | some p => match aLoad P s.mem t p with
      | some v => match aRess P s r with
        | some l => some (v :: l)
        | none => none
      | none => none
    | none => none

def aRes (P : Program) (rs : List ResultVar) (s : St) : Option AV :=
  match aRess P s rs with
  | some [v] => some v
  | some l => some (.tup l)
  | none => none

theorem aRess_sound {P : Program} {Γ : List (Nat × AV)} {X : Nat → Prop} {ρ : Nat → Loc} {D : Nat → Prop} {s : St} {a : Act} {w : World} (hs : SR Γ X ρ D s a w) : ∀ {rs : List ResultVar} {l : List AV}, aRess P s rs = some l →
    ∃ vs : List Value, (rs.mapM fun x => match x with
          | ResultVar.tmp t => (pure (a.tmps.getD t undef) : Sem Value)
          | ResultVar.cell x t => do
            let p ← asAddr (a.tmps.getD x undef)
            loadVar t p).run P w = .ok vs w ∧ VRL ρ D (OX X ρ s.mem) w l vs
  | [], l, h => by simp only [aRess] at h; cases h; exact ⟨[], by simp, .nil⟩
  | .tmp t :: r, l, h => by
    simp only [aRess] at h
    split at h
    · rename_i v hv
      split at h
      · rename_i l' hl
        cases h
        obtain ⟨vs, h1, h2⟩ := aRess_sound hs hl
        exact ⟨a.tmps.getD t undef :: vs, by rw [List.mapM_cons, Sem.run_bind, Sem.run_pure, Result.andThen_ok, Sem.run_bind, h1]; rfl, .cons (hs.slot t v hv) h2⟩
      · cases h
    · cases h
  | .cell x t :: r, l, h => by
    simp only [aRess] at h
    split at h
    · rename_i p hp
      split at h
      · rename_i v hv
        split at h
        · rename_i l' hl
          cases h
          obtain ⟨vs, h1, h2⟩ := aRess_sound hs hl
          obtain ⟨y, hy, hr⟩ := aLoad_sound (P := P) hs.mr hv (hs.slot x p hp)
          refine ⟨y :: vs, ?_, .cons hr h2⟩
          have hy' : (do let p ← asAddr (a.tmps.getD x undef); loadVar t p : Sem Value).run P w = .ok y w := by
            rw [← hy]
            have hpv := hs.slot x p hp
            unfold aLoad at hv
            split at hv
            · generalize a.tmps.getD x undef = q at hpv
              cases hpv
              simp [Instr.loadAt, Instr.sureAddr, asAddr]
            · generalize a.tmps.getD x undef = q at hpv
              cases hpv
              simp [Instr.loadAt, Instr.sureAddr, asAddr]
            · cases hv
          rw [List.mapM_cons, Sem.run_bind, hy', Result.andThen_ok, Sem.run_bind, h1]
          rfl
        · cases h
      · cases h
    · cases h

theorem results_of {P : Program} {w : World} {fn : Func} {tmps : Array Value} {vs : List Value} (h : (fn.results.toList.mapM fun x => match x with
          | ResultVar.tmp t => (pure (tmps.getD t undef) : Sem Value)
          | ResultVar.cell x t => do
            let p ← asAddr (tmps.getD x undef)
            loadVar t p).run P w = .ok vs w) : (results fn tmps).run P w = .ok (match vs with | [x] => x | _ => .tuple vs.toArray) w := by
  unfold results
  rw [Sem.run_bind, Array.mapM_eq_mapM_toList]
  have h' : (List.toArray <$> (fn.results.toList.mapM fun x => match x with
          | ResultVar.tmp t => (pure (tmps.getD t undef) : Sem Value)
          | ResultVar.cell x t => do
            let p ← asAddr (tmps.getD x undef)
            loadVar t p)).run P w = .ok vs.toArray w := by
    rw [Sem.run_map, h]
    rfl
  refine (congrArg (fun r : Result (Array Value) => r.andThen fun vs w' => Sem.run P (pure (if h : vs.size = 1 then vs[0] else Value.tuple vs)) w') h').trans ?_
  match vs with
  | [] => rfl
  | [x] => rfl
  | x :: y :: r => simp

theorem aRes_sound {P : Program} {Γ : List (Nat × AV)} {X : Nat → Prop} {ρ : Nat → Loc} {D : Nat → Prop} {s : St} {a : Act} {w : World} (hs : SR Γ X ρ D s a w) {fn : Func} {v : AV} (h : aRes P fn.results.toList s = some v) :
    ∃ x, (results fn a.tmps).run P w = .ok x w ∧ VR ρ D (OX X ρ s.mem) w v x := by
  unfold aRes at h
  split at h
  · rename_i u hu
    cases h
    obtain ⟨vs, h1, h2⟩ := aRess_sound hs hu
    obtain ⟨x, rfl⟩ : ∃ x, vs = [x] := by
      have := h2.1
      simp at this
      exact List.length_eq_one_iff.1 this.symm
    exact ⟨x, results_of h1, h2.2 0 v x rfl rfl⟩
  · rename_i l hl hu
    cases h
    obtain ⟨vs, h1, h2⟩ := aRess_sound hs hu
    refine ⟨.tuple vs.toArray, ?_, h2.tup⟩
    rw [results_of h1]
    match vs, h2.1 with
    | [], _ => rfl
    | [x], e =>
      exfalso
      simp at e
      obtain ⟨y, rfl⟩ := List.length_eq_one_iff.1 e
      exact hl y rfl
    | x :: y :: r, _ => rfl
  · cases h

/-- What is asked of the end of a function's body. -/
def retQ (P : Program) (rs : List ResultVar) (Q : AV → Mem → Nat → Prop) : Exit → St → Prop := fun e s =>
  match e with
  | .normal => match aRes P rs s with
    | some r => Q r s.mem s.nx
    | none => False
  | .ret => match aRes P rs s with
    | some r => Q r s.mem s.nx
    | none => False
  | _ => False

theorem acalls_of_awp {P : Program} {Γ : List (Nat × AV)} {F : FuncId} {fn : Func} {c : Code} {args : List AV} {mem : Mem} {nx : Nat} {Q : AV → Mem → Nat → Prop} (hf : P.funcs[F]? = some fn) (hb : fn.body = some c)
    (h : AWp P Γ nx c (enter fn.ntmps args mem nx) (retQ P fn.results.toList Q)) : ACalls P Γ F args mem nx Q := by
  refine ⟨fun X D ρ w vs hD hm hv => calls_of_wp hf hb ?_⟩
  have hl := hv.1
  obtain ⟨m1, mono1, _⟩ := hm.widen (D' := dn D nx nx) (fun i hi => .inl hi)
  have hs : SR Γ X ρ (dn D nx nx) (enter fn.ntmps args mem nx) { tmps := vs.toArray ++ Array.replicate (fn.ntmps - vs.toArray.size) undef, defers := [] } w := by
    refine ⟨m1, rfl, by simp [enter, hl], fun i v hi => ?_⟩
    obtain ⟨_, h2⟩ := lk_enum args 0 i v hi
    simp only [Nat.sub_zero] at h2
    have hlt : i < vs.length := by
      rw [← hl]
      rcases Nat.lt_or_ge i args.length with h' | h'
      · exact h'
      · rw [List.getElem?_eq_none h'] at h2; cases h2
    have e : (vs.toArray ++ Array.replicate (fn.ntmps - vs.toArray.size) undef).getD i undef = vs[i] := by
      simp [Array.getElem?_append, hlt]
    rw [e]
    exact mono1 _ _ (hv.2 i v _ h2 (by simp [hlt]))
  refine Go.wp_mono (h.run X D ρ _ w hD hs (Nat.le_refl _)) ?_
  rintro e a' w' ⟨s', ρ', hq, hB', hs', hext⟩
  cases e with
  | normal =>
    simp only [retQ] at hq
    split at hq
    · rename_i r hr
      obtain ⟨x, h1, h2⟩ := aRes_sound hs' hr
      exact ⟨hs'.def0, x, h1, r, x, s'.mem, s'.nx, ρ', rfl, hq, hB', hs'.mr, h2, hext⟩
    · exact hq.elim
  | ret =>
    simp only [retQ] at hq
    split at hq
    · rename_i r hr
      obtain ⟨x, h1, h2⟩ := aRes_sound hs' hr
      exact ⟨hs'.def0, x, h1, r, x, s'.mem, s'.nx, ρ', rfl, hq, hB', hs'.mr, h2, hext⟩
    · exact hq.elim
  | _ => exact hq.elim

/-! ### Closed runs: calls are entered, loops are unrolled -/

def deep (P : Program) (Γ : List (Nat × AV)) : Nat → Hk
  | 0 => { call := fun _ _ _ _ _ => False, loop := fun _ _ _ => False }
  | n + 1 => {
      call := fun F args mem nx K => match P.funcs[F]? with
        | some fn => match fn.body with
          | some c => awp P Γ (deep P Γ n) c (enter fn.ntmps args mem nx) (retQ P fn.results.toList K)
          | none => False
        | none => False
      loop := fun c s Q => awp P Γ (deep P Γ n) c s fun e s' => match e with
        | .normal => (deep P Γ n).loop c s' Q
        | e => Q e s' }

theorem rounds_mono {P : Program} {c : Code} : ∀ (m : Nat) (a : Act) (w : World) (Q1 Q2 : Exit → Act → World → Prop), (∀ e a w, Q1 e a w → Q2 e a w) → Code.rounds P c Q1 m a w → Code.rounds P c Q2 m a w
  | 0, _, _, _, _, _, h => h
  | m + 1, a, w, Q1, Q2, h12, h => by
    rw [rounds_succ] at h ⊢
    refine Go.wp_mono h ?_
    intro e a w h
    cases e with
    | normal => exact rounds_mono m a w Q1 Q2 h12 h
    | exit id => exact h12 _ _ _ h
    | goto l => exact h12 _ _ _ h
    | ret => exact h12 _ _ _ h
    | panic ch => exact h12 _ _ _ h
    | outgrown => exact h12 _ _ _ h

theorem deep_sound (P : Program) (Γ : List (Nat × AV)) : ∀ n B, HkOK P Γ B (deep P Γ n) ∧
    ∀ c s Q, (deep P Γ n).loop c s Q → ∀ X D ρ a w, (∀ i, D i → i < B) → SR Γ X ρ (dn D B s.nx) s a w → B ≤ s.nx →
      Code.rounds P c (fun e a' w' => ∃ (s' : St) (ρ' : Nat → Loc), Q e s' ∧ B ≤ s'.nx ∧ SR Γ X ρ' (dn D B s'.nx) s' a' w' ∧ Ext D ρ s.mem w ρ' (dn D B s'.nx) s'.mem w') n a w := by
  intro n
  induction n with
  | zero => exact fun B => ⟨⟨fun _ _ _ _ _ h => h.elim, fun _ _ _ h => h.elim⟩, fun _ _ _ h => h.elim⟩
  | succ n ih =>
    intro B
    have hr : ∀ c s Q, (deep P Γ (n + 1)).loop c s Q → ∀ X D ρ a w, (∀ i, D i → i < B) → SR Γ X ρ (dn D B s.nx) s a w → B ≤ s.nx →
        Code.rounds P c (fun e a' w' => ∃ (s' : St) (ρ' : Nat → Loc), Q e s' ∧ B ≤ s'.nx ∧ SR Γ X ρ' (dn D B s'.nx) s' a' w' ∧ Ext D ρ s.mem w ρ' (dn D B s'.nx) s'.mem w') (n + 1) a w := by
      intro c s Q h X D ρ a w hD hs hB
      have h' := (awp_sound (ih B).1 c s _ h).run X D ρ a w hD hs hB
      rw [rounds_succ]
      refine Go.wp_mono h' ?_
      rintro e a1 w1 ⟨s1, ρ1, hq, hB1, hs1, hext⟩
      cases e with
      | normal =>
        have key := (ih B).2 c s1 Q hq X D ρ1 a1 w1 hD hs1 hB1
        refine rounds_mono n a1 w1 _ _ ?_ key
        rintro e a2 w2 ⟨s2, ρ2, h1, h2, h3, h4⟩
        exact ⟨s2, ρ2, h1, h2, h3, hext.trans h4⟩
      | exit id => exact ⟨s1, ρ1, hq, hB1, hs1, hext⟩
      | goto l => exact ⟨s1, ρ1, hq, hB1, hs1, hext⟩
      | ret => exact ⟨s1, ρ1, hq, hB1, hs1, hext⟩
      | panic ch => exact ⟨s1, ρ1, hq, hB1, hs1, hext⟩
      | outgrown => exact ⟨s1, ρ1, hq, hB1, hs1, hext⟩
    refine ⟨⟨fun F args mem nx K h => ?_, fun c s Q h => ⟨fun X D ρ a w hD hs hB => wp_loop_rounds (n + 1) (hr c s Q h X D ρ a w hD hs hB)⟩⟩, hr⟩
    simp only [deep] at h
    split at h
    · rename_i fn hf
      split at h
      · rename_i c hc
        exact acalls_of_awp hf hc (awp_sound (ih nx).1 _ _ _ h)
      · exact h.elim
    · exact h.elim

/-- A closed call. -/
theorem acalls_deep {P : Program} {Γ : List (Nat × AV)} {F : FuncId} {args : List AV} {mem : Mem} {nx : Nat} {Q : AV → Mem → Nat → Prop} (n : Nat) (h : (deep P Γ n).call F args mem nx Q) : ACalls P Γ F args mem nx Q :=
  (deep_sound P Γ n nx).1.call F args mem nx Q h
end Go.Ax
