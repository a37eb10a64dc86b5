/- Regions that draw their order, first part: kinds of operations, congruence, the frame of the memory. -/
import Derived.Test.YtoanjpeoclkjgaaDoorAxExec
import Derived.Orders
namespace Go.Ax
open Go
set_option linter.unusedVariables false

inductive Kd where
  | pure | al | eff

def kind (P : Program) : Op → Kd
  | .move _ => .pure
  | .assign _ => .pure
  | .pick _ _ _ => .pure
  | .build _ _ => .pure
  | .load _ _ => .pure
  | .nilCheck _ => .pure
  | .binOp _ _ _ _ _ => .pure
  | .unOp _ _ _ => .pure
  | .makeInterface _ _ => .pure
  | .makeFunc _ _ _ => .pure
  | .slice _ _ _ _ _ => .pure
  | .fieldAddr _ _ _ => .pure
  | .field _ _ _ => .pure
  | .indexAddr _ _ _ => .pure
  | .index _ _ _ => .pure
  | .extract _ _ => .pure
  | .lookup _ _ _ _ => .pure
  | .convert _ dst _ => match P.underlying dst with
    | some (.slice _) => .eff
    | _ => .pure
  | .call c => match c.callee with
    | .builtin .len => .pure
    | .builtin .min => .pure
    | .builtin .max => .pure
    | _ => .eff
  | .alloc _ => .al
  | .box _ _ => .al
  | .buildSlice _ _ _ => .al
  | .makeSlice _ _ _ => .al
  | _ => .eff

/-- An operation that does not look at the memory. -/
def still : Op → Bool
  | .move _ => true
  | .assign _ => true
  | .pick _ _ _ => true
  | .build _ _ => true
  | .nilCheck _ => true
  | .binOp _ _ _ _ _ => true
  | .unOp _ _ _ => true
  | .makeInterface _ _ => true
  | .makeFunc _ _ _ => true
  | .fieldAddr _ _ _ => true
  | .field _ _ _ => true
  | .index _ _ _ => true
  | .extract _ _ => true
  | .call c => match c.callee with
    | .builtin .len => true
    | .builtin .min => true
    | .builtin .max => true
    | _ => false
  | _ => false

theorem still_pure {s : St} {o : Option AV} {v : AV} {m : Mem} {n : Nat} (h : pureRes s o = some (v, m, n)) (s' : St) : ∃ m' n', pureRes s' o = some (v, m', n') := by
  unfold pureRes at h
  split at h
  · cases h; exact ⟨_, _, rfl⟩
  · cases h

theorem aStep_still {P : Program} {Γ : List (Nat × AV)} {s s' : St} {op : Op} (hst : still op = true) (hsl : s'.sl = s.sl) {v : AV} {m : Mem} {n : Nat} (h : aStep P Γ s op = some (v, m, n)) : ∃ m' n', aStep P Γ s' op = some (v, m', n') := by
  have hev : ∀ x, ev Γ s' x = ev Γ s x := fun x => by cases x <;> simp [ev, hsl]
  have hevs : ∀ l, evs Γ s' l = evs Γ s l := fun l => by
    induction l with
    | nil => rfl
    | cons x r ih => simp only [evs, hev, ih]
  have hparts : ∀ l, evParts Γ s' l = evParts Γ s l := fun l => by
    induction l with
    | nil => rfl
    | cons x r ih => obtain ⟨i, x⟩ := x; simp only [evParts, hev, ih]
  cases op <;> simp only [still] at hst <;> first | (cases hst; done) | skip
  case move x => simp only [aStep, hev] at h ⊢; exact still_pure h s'
  case assign x => simp only [aStep, hev] at h ⊢; exact still_pure h s'
  case pick c x y =>
    simp only [aStep, hev] at h ⊢
    split at h
    · exact still_pure h s'
    · exact still_pure h s'
    · cases h
  case build t parts =>
    simp only [aStep, hparts] at h ⊢
    split at h
    · exact still_pure h s'
    · cases h
  case nilCheck x =>
    simp only [aStep, hev] at h ⊢
    split at h
    · exact still_pure h s'
    · cases h
  case binOp op t x y t' =>
    simp only [aStep, hev] at h ⊢
    split at h
    · split at h
      · exact still_pure h s'
      · cases h
    · cases h
  case unOp op t x =>
    simp only [aStep, hev] at h ⊢
    split at h
    · exact still_pure h s'
    · cases h
  case makeInterface t x =>
    simp only [aStep, hev] at h ⊢
    split at h
    · exact still_pure h s'
    · cases h
  case makeFunc fn first cap =>
    simp only [aStep, hevs] at h ⊢
    split at h
    · split at h
      · cases h; exact ⟨_, _, rfl⟩
      · cases h
    · cases h
  case fieldAddr t x f =>
    simp only [aStep, hev] at h ⊢
    split at h
    · exact still_pure h s'
    · cases h
  case field t x f =>
    simp only [aStep, hev] at h ⊢
    split at h
    · exact still_pure h s'
    · cases h
  case index t x ix =>
    simp only [aStep, hev] at h ⊢
    split at h
    · split at h
      · exact still_pure h s'
      · cases h
    · cases h
  case extract x i =>
    simp only [aStep, hev] at h ⊢
    split at h
    · exact still_pure h s'
    · cases h
  case call c =>
    cases hc : c.callee with
    | value f => rw [hc] at hst; simp at hst
    | invoke a b => rw [hc] at hst; simp at hst
    | builtin b =>
      rw [hc] at hst
      simp only [aStep, hc] at h ⊢
      unfold aBuiltin at h ⊢
      cases b <;> simp only at hst <;> first | (cases hst; done) | skip
      case len =>
        simp only [hev] at h ⊢
        split at h
        · split at h
          · exact still_pure h s'
          · cases h
        · cases h
      case min =>
        simp only [hevs] at h ⊢
        split at h
        · split at h
          · cases h; exact ⟨_, _, rfl⟩
          · cases h
        · cases h
      case max =>
        simp only [hevs] at h ⊢
        split at h
        · split at h
          · cases h; exact ⟨_, _, rfl⟩
          · cases h
        · cases h

section
variable {P : Program} {Γ : List (Nat × AV)} {s s' : St}

theorem evs_congr : ∀ {l : List Operand}, (∀ x ∈ l, ev Γ s x = ev Γ s' x) → evs Γ s l = evs Γ s' l
  | [], h => rfl
  | x :: r, h => by
    simp only [evs, h x (List.mem_cons_self ..), evs_congr fun y hy => h y (List.mem_cons_of_mem _ hy)]

theorem evParts_congr : ∀ {l : List (Nat × Operand)}, (∀ x ∈ l.map (·.2), ev Γ s x = ev Γ s' x) → evParts Γ s l = evParts Γ s' l
  | [], h => rfl
  | (i, x) :: r, h => by
    simp only [evParts, h x (by simp), evParts_congr fun y hy => h y (by simp only [List.map_cons]; exact List.mem_cons_of_mem _ hy)]

theorem evOpt_congr {o : Option Operand} (h : ∀ x ∈ o.toList, ev Γ s x = ev Γ s' x) : evOpt Γ s o = evOpt Γ s' o := by
  cases o with
  | none => rfl
  | some x => simp only [evOpt, h x (by simp)]

/-- An operation looks at nothing but its operands, the memory and the next name. -/
theorem aStep_congr {op : Op} (h : ∀ x ∈ op.operands, ev Γ s x = ev Γ s' x) (hm : s.mem = s'.mem) (hn : s.nx = s'.nx) : aStep P Γ s op = aStep P Γ s' op := by
  have hp : ∀ o : Option AV, pureRes s o = pureRes s' o := fun o => by cases o <;> simp [pureRes, hm, hn]
  cases op <;> simp only [Op.operands] at h <;> simp only [aStep]
  case move x => rw [h x (by simp), hp]
  case assign x => rw [h x (by simp), hp]
  case pick c x y => rw [h c (by simp), h x (by simp), h y (by simp), hp, hp]
  case alloc t => rw [hm, hn]
  case box t x => rw [h x (by simp), hm, hn]
  case build t parts => rw [evParts_congr (s := s) (s' := s') (fun x hx => h x (by simpa using hx))]; simp only [hp]
  case buildSlice t len parts => rw [evParts_congr (s := s) (s' := s') (fun x hx => h x (by simpa using hx)), hm, hn]
  case load t x => rw [h x (by simp), hm]; simp only [hp]
  case store t x y => rw [h x (by simp), h y (by simp), hm, hn]
  case nilCheck x => rw [h x (by simp)]; simp only [hp]
  case binOp op t x y t' => rw [h x (by simp), h y (by simp)]; simp only [hp]
  case unOp op t x => rw [h x (by simp)]; simp only [hp]
  case convert src dst x => rw [h x (by simp), hm, hn]
  case makeInterface t x => rw [h x (by simp)]; simp only [hp]
  case makeFunc fn first cap =>
    rw [evs_congr (s := s) (s' := s') (l := first.toList) (fun x hx => h x (by simp only [Array.mem_append]; exact .inl (by simpa using hx))), evs_congr (s := s) (s' := s') (l := cap.toList) (fun x hx => h x (by simp only [Array.mem_append]; exact .inr (by simpa using hx))), hm, hn]
  case makeSlice t l c => rw [h l (by simp), h c (by simp), hm, hn]
  case slice t x lo hi mx =>
    rw [h x (by simp), evOpt_congr (s := s) (s' := s') (o := lo) (fun y hy => h y (by cases lo <;> simp_all)), evOpt_congr (s := s) (s' := s') (o := hi) (fun y hy => h y (by cases hi <;> simp_all)),
      evOpt_congr (s := s) (s' := s') (o := mx) (fun y hy => h y (by cases mx <;> simp_all)), hm]
    simp only [hp]
  case fieldAddr t x f => rw [h x (by simp)]; simp only [hp]
  case field t x f => rw [h x (by simp)]; simp only [hp]
  case indexAddr t x ix => rw [h x (by simp), h ix (by simp), hm]; simp only [hp]
  case index t x ix => rw [h x (by simp), h ix (by simp)]; simp only [hp]
  case extract x i => rw [h x (by simp)]; simp only [hp]
  case makeMap t r => rw [hm, hn]
  case lookup t x ix ok => rw [h x (by simp), h ix (by simp), hm]; simp only [hp]
  case mapUpdate t x y z => rw [h x (by simp), h y (by simp), h z (by simp), hm, hn]
  case call c =>
    cases hc : c.callee with
    | builtin b =>
      simp only
      have ha : ∀ x ∈ c.args.toList, ev Γ s x = ev Γ s' x := fun x hx => h x (by simp only [Call.operands, Array.mem_append]; exact .inr (by simpa using hx))
      have hargs := evs_congr (Γ := Γ) (s := s) (s' := s') ha
      unfold aBuiltin
      cases b <;> simp only [hargs, hm, hn]
      case len =>
        split
        · rename_i x t e _; rw [ha x (by rw [e]; simp)]; simp only [hp]
        · rfl
      case append =>
        split
        · rename_i x y t u e _; rw [ha x (by rw [e]; simp), ha y (by rw [e]; simp)]
        · rfl
    | invoke r m => rfl
    | value f => rfl

theorem aCall_congr {op : Op} (h : ∀ x ∈ op.operands, ev Γ s x = ev Γ s' x) : aCall P Γ s op = aCall P Γ s' op := by
  cases op <;> simp only [aCall]
  rename_i c
  simp only [Op.operands] at h
  cases hc : c.callee with
  | builtin b => rfl
  | invoke r m => rfl
  | value f =>
    have hf : ev Γ s f = ev Γ s' f := h f (by simp [Call.operands, hc])
    have hargs : evs Γ s c.args.toList = evs Γ s' c.args.toList := evs_congr fun x hx => h x (by simp only [Call.operands, Array.mem_append]; exact .inr (by simpa using hx))
    simp only [hf, hargs]
end

section
variable {P : Program} {Γ : List (Nat × AV)} {X : Nat → Prop} {ρ ρ' : Nat → Loc} {D D' : Nat → Prop} {s : St} {a : Act} {w w' : World}

theorem pureRes_eq {o : Option AV} {v : AV} {m : Mem} {n : Nat} (h : pureRes s o = some (v, m, n)) : o = some v ∧ m = s.mem ∧ n = s.nx := by
  unfold pureRes at h
  split at h
  · cases h; exact ⟨rfl, rfl, rfl⟩
  · cases h

theorem aBuiltinPure (hs : SR Γ X ρ D s a w) {b : Builtin} (hb : b = .len ∨ b = .min ∨ b = .max) {args : List Operand} {ts : List TypeId} {v : AV} {m : Mem} {n : Nat} (h : aBuiltin P Γ s b args ts = some (v, m, n))
    (ty : TypeId) (cs : Array Bool) :
    m = s.mem ∧ n = s.nx ∧ ∃ x, (builtin b ts.toArray ty cs (args.map a.eval).toArray).run P w = .ok (.value x) w ∧ VR ρ D (OX X ρ s.mem) w v x := by
  rcases hb with rfl | rfl | rfl
  · simp only [aBuiltin] at h
    split at h
    · rename_i x t
      split at h
      · rename_i p hp
        obtain ⟨h1, rfl, rfl⟩ := pureRes_eq h
        obtain ⟨z, h2, h3⟩ := aLen_sound (P := P) h1 (ev_sound hs hp) ty
        exact ⟨rfl, rfl, z, by simp [builtin, h2], h3⟩
      · cases h
    · cases h
  all_goals
    simp only [aBuiltin] at h
    split at h
    · rename_i k x r hr
      split at h
      · rename_i mm hm
        cases h
        have hv := evs_sound hs hr
        obtain ⟨y, ys, e⟩ : ∃ y ys, args.map a.eval = y :: ys := by
          cases hl : args.map a.eval with
          | nil => have := hv.1; rw [hl] at this; simp at this
          | cons y ys => exact ⟨y, ys, rfl⟩
        rw [e] at hv ⊢
        have h0 := hv.2 0 _ y rfl rfl
        cases h0
        have hr' : VRL ρ D (OX X ρ s.mem) w r ys := ⟨by have := hv.1; simpa using this, fun j c x h1 h2 => hv.2 (j + 1) c x (by simpa using h1) (by simpa using h2)⟩
        first
          | (have := aMin_sound (P := P) k hm hr'
             exact ⟨rfl, rfl, .int k mm, by simp [builtin, Builtin.min_, this], .int _ _⟩)
          | (have := aMax_sound (P := P) k hm hr'
             exact ⟨rfl, rfl, .int k mm, by simp [builtin, Builtin.max_, this], .int _ _⟩)
      · cases h
    · cases h

/-- A pure operation leaves the world as it is. -/
theorem aPure_sound (hs : SR Γ X ρ D s a w) (o : Oper) (hk : kind P o.op = .pure) {v : AV} {m : Mem} {n : Nat} (h : aStep P Γ s o.op = some (v, m, n)) :
    m = s.mem ∧ n = s.nx ∧ ∃ x, (execOp a.eval o).run P w = .ok (.value x) w ∧ VR ρ D (OX X ρ s.mem) w v x := by
  have wrap : ∀ {mm : Sem Value} {oo : Option AV}, pureRes s oo = some (v, m, n) → (∀ v, oo = some v → ∃ x, mm.run P w = .ok x w ∧ VR ρ D (OX X ρ s.mem) w v x) →
      m = s.mem ∧ n = s.nx ∧ ∃ x, ((do let x ← mm; pure (Next.value x)).run P w) = .ok (.value x) w ∧ VR ρ D (OX X ρ s.mem) w v x := by
    intro mm oo h1 h2
    obtain ⟨rfl, rfl, rfl⟩ := pureRes_eq h1
    obtain ⟨x, h3, h4⟩ := h2 _ rfl
    exact ⟨rfl, rfl, x, by simp [h3], h4⟩
  have same : ∀ {x : Operand}, pureRes s (ev Γ s x) = some (v, m, n) → m = s.mem ∧ n = s.nx ∧ VR ρ D (OX X ρ s.mem) w v (a.eval x) := by
    intro x h1
    obtain ⟨h2, rfl, rfl⟩ := pureRes_eq h1
    exact ⟨rfl, rfl, ev_sound hs h2⟩
  cases hop : o.op <;> rw [hop] at h hk <;> simp only [kind] at hk <;> first | (cases hk; done) | skip
  all_goals simp only [aStep] at h
  case move x => obtain ⟨h1, h2, h3⟩ := same h; exact ⟨h1, h2, _, by simp [execOp, hop], h3⟩
  case assign x => obtain ⟨h1, h2, h3⟩ := same h; exact ⟨h1, h2, _, by simp [execOp, hop], h3⟩
  case pick c x y =>
    split at h
    · rename_i hc
      have hb := ev_sound hs hc
      generalize he : a.eval c = cv at hb
      cases hb
      obtain ⟨h1, h2, h3⟩ := same h; exact ⟨h1, h2, _, by simp [execOp, hop, asBool, he], h3⟩
    · rename_i hc
      have hb := ev_sound hs hc
      generalize he : a.eval c = cv at hb
      cases hb
      obtain ⟨h1, h2, h3⟩ := same h; exact ⟨h1, h2, _, by simp [execOp, hop, asBool, he], h3⟩
    · cases h
  case build t parts =>
    split at h
    · rename_i ps hps
      obtain ⟨h1, h2⟩ := evParts_sound hs hps
      have := wrap (mm := Instr.build t (parts.toList.map fun (i, x) => (i, a.eval x)).toArray) h (fun v' hv => aBuild_sound hv h1 h2)
      have e : (parts.map fun (i, x) => (i, a.eval x)) = (parts.toList.map fun (i, x) => (i, a.eval x)).toArray := by apply Array.ext'; simp
      simp only [execOp, hop]
      rw [e]
      exact this
    · cases h
  case lookup t x ix ok =>
    split at h
    · rename_i p hp
      split at h
      · rename_i i hi
        simpa [execOp, hop] using wrap (mm := Instr.lookup t (a.eval x) (a.eval ix) ok) h (fun v' hv => aLookup_sound hs.mr hv (ev_sound hs hp) (ev_sound hs hi))
      · cases h
    · cases h
  case load t x =>
    split at h
    · rename_i p hp
      simpa [execOp, hop] using wrap (mm := Instr.loadAt t (a.eval x)) h (fun v' hv => aLoad_sound hs.mr hv (ev_sound hs hp))
    · cases h
  case nilCheck x =>
    split at h
    · rename_i p hp
      obtain ⟨h2, rfl, rfl⟩ := pureRes_eq h
      obtain ⟨h3, h4⟩ := aNil_sound (P := P) h2 (ev_sound hs hp) o a.eval x hop rfl
      exact ⟨rfl, rfl, _, h3, h4⟩
    · cases h
  case binOp op t x y t' =>
    split at h
    · rename_i p hp
      split at h
      · rename_i q hq
        simpa [execOp, hop] using wrap (mm := do eqGuard op t x y (a.eval x) (a.eval y); binOp op t (a.eval x) (a.eval y)) h (fun v' hv => aBin_sound hv (ev_sound hs hp) (ev_sound hs hq))
      · cases h
    · cases h
  case unOp op t x =>
    split at h
    · rename_i p hp
      simpa [execOp, hop] using wrap (mm := Op.unary op (a.eval x)) h (fun v' hv => aUn_sound hv (ev_sound hs hp))
    · cases h
  case convert src dst x =>
    split at h
    · rename_i p hp
      split at h
      · rename_i v0 hv
        cases h
        obtain ⟨z, h1, h2⟩ := aConv_sound (P := P) hs.mr hv (ev_sound hs hp)
        exact ⟨rfl, rfl, z, by simp [execOp, hop, h1], h2⟩
      · exfalso
        unfold aStrBytes at h
        split at h
        · cases h
        · split at h
          · rename_i e hu
            rw [hu] at hk
            cases hk
          · cases h
    · cases h
  case makeInterface t x =>
    split at h
    · rename_i p hp
      simpa [execOp, hop] using wrap (mm := Instr.makeInterface t (a.eval x)) h (fun v' hv => aIface_sound hv (ev_sound hs hp))
    · cases h
  case makeFunc fn first cap =>
    split at h
    · rename_i l1 h1
      split at h
      · rename_i l2 h2
        cases h
        have e1 := evs_sound hs h1
        have e2 := evs_sound hs h2
        refine ⟨rfl, rfl, .func fn (first.map a.eval) (cap.map a.eval), by simp [execOp, hop, Instr.makeFunc], ?_⟩
        exact .fn fn l1 l2 _ _ (by have := e1.1; simpa using this) (by have := e2.1; simpa using this)
          (fun j c x g1 g2 => e1.2 j c x g1 (by simpa using g2)) (fun j c x g1 g2 => e2.2 j c x g1 (by simpa using g2))
      · cases h
    · cases h
  case slice t x lo hi mx =>
    split at h
    · rename_i p hp
      split at h
      · rename_i l hl
        split at h
        · rename_i hh hhi
          split at h
          · rename_i m' hm
            split at h
            · rename_i hmx
              have hmx' : m'.isSome = true → hh.isSome = true := by
                intro e
                rw [e] at hmx
                simpa using hmx
              simpa [execOp, hop] using wrap (mm := Instr.sliceAt t (a.eval x) (lo.map a.eval) (hi.map a.eval) (mx.map a.eval)) h
                (fun v' hv => aSlice_sound hs.mr hv (ev_sound hs hp) (evOpt_sound hs hl) (evOpt_sound hs hhi) (evOpt_sound hs hm) hmx')
            · cases h
          · cases h
        · cases h
      · cases h
    · cases h
  case fieldAddr t x f =>
    split at h
    · rename_i p hp
      simpa [execOp, hop] using wrap (mm := Instr.fieldAt t (a.eval x) f) h (fun v' hv => aFieldAddr_sound hv (ev_sound hs hp))
    · cases h
  case field t x f =>
    split at h
    · rename_i p hp
      simpa [execOp, hop] using wrap (mm := Instr.field t (a.eval x) f) h (fun v' hv => aField_sound hv (ev_sound hs hp))
    · cases h
  case indexAddr t x ix =>
    split at h
    · rename_i p hp
      split at h
      · rename_i q hq
        simpa [execOp, hop] using wrap (mm := Instr.indexAt t (a.eval x) (a.eval ix)) h (fun v' hv => aIndexAddr_sound hs.mr hv (ev_sound hs hp) (ev_sound hs hq))
      · cases h
    · cases h
  case index t x ix =>
    split at h
    · rename_i p hp
      split at h
      · rename_i q hq
        simpa [execOp, hop] using wrap (mm := Instr.index t (a.eval x) (a.eval ix)) h (fun v' hv => aIndex_sound hv (ev_sound hs hp) (ev_sound hs hq))
      · cases h
    · cases h
  case extract x i =>
    split at h
    · rename_i p hp
      simpa [execOp, hop] using wrap (mm := Instr.extract (a.eval x) i) h (fun v' hv => aExtract_sound hv (ev_sound hs hp))
    · cases h
  case call c =>
    cases hc : c.callee with
    | value f => rw [hc] at h; cases h
    | invoke r m => rw [hc] at h; cases h
    | builtin b =>
      rw [hc] at h hk
      simp only at h hk
      have e : (c.args.toList.map a.eval).toArray = c.args.map a.eval := by apply Array.ext'; simp
      have red : (execOp a.eval o).run P w = (builtin b c.argTypes o.type (c.args.map fun | .const _ => true | _ => false) (c.args.map a.eval)).run P w := by
        simp only [execOp, hop, resolve, hc, Sem.run_bind, Sem.run_pure, Result.andThen_ok, invoke]
        rfl
      rw [red]
      have hb := aBuiltinPure hs (by cases b <;> first | exact .inl rfl | exact .inr (.inl rfl) | exact .inr (.inr rfl) | (simp at hk)) h o.type (c.args.map fun | .const _ => true | _ => false)
      rw [e] at hb
      simpa using hb
end
end Go.Ax
