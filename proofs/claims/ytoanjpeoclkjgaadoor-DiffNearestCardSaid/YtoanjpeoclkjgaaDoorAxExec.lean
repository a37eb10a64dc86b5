/- Running code on abstract states. -/
import Derived.Test.YtoanjpeoclkjgaaDoorAxStep2
namespace Go.Ax
open Go
set_option linter.unusedVariables false

/-- What a call does, said on abstract values. -/
structure ACalls (P : Program) (Γ : List (Nat × AV)) (F : FuncId) (args : List AV) (mem : Mem) (nx : Nat) (Q : AV → Mem → Nat → Prop) : Prop where
  run : ∀ (X : Nat → Prop) (D : Nat → Prop) (ρ : Nat → Loc) (w : World) (vs : List Value), (∀ i, D i → i < nx) → MR Γ X ρ D mem w → VRL ρ D (OX X ρ mem) w args vs →
    Calls P F vs.toArray w fun e w' => ∃ (r : AV) (v : Value) (mem' : Mem) (nx' : Nat) (ρ' : Nat → Loc), e = .returned v ∧ Q r mem' nx' ∧ nx ≤ nx' ∧ MR Γ X ρ' (dn D nx nx') mem' w' ∧
      VR ρ' (dn D nx nx') (OX X ρ' mem') w' r v ∧ Ext D ρ mem w ρ' (dn D nx nx') mem' w'

/-- What a piece of code does, said on abstract states. -/
structure AWp (P : Program) (Γ : List (Nat × AV)) (B : Nat) (c : Code) (s : St) (Q : Exit → St → Prop) : Prop where
  run : ∀ (X : Nat → Prop) (D : Nat → Prop) (ρ : Nat → Loc) (a : Act) (w : World), (∀ i, D i → i < B) → SR Γ X ρ (dn D B s.nx) s a w → B ≤ s.nx →
    c.wp P (fun e a' w' => ∃ (s' : St) (ρ' : Nat → Loc), Q e s' ∧ B ≤ s'.nx ∧ SR Γ X ρ' (dn D B s'.nx) s' a' w' ∧ Ext D ρ s.mem w ρ' (dn D B s'.nx) s'.mem w') a w

theorem ACalls.mono {P : Program} {Γ : List (Nat × AV)} {F : FuncId} {args : List AV} {mem : Mem} {nx : Nat} {Q Q' : AV → Mem → Nat → Prop} (h : ACalls P Γ F args mem nx Q)
    (hq : ∀ r m n, Q r m n → Q' r m n) : ACalls P Γ F args mem nx Q' :=
  ⟨fun X D ρ w vs hD hm hv => (h.run X D ρ w vs hD hm hv).mono fun e w' ⟨r, v, m, n, ρ', h1, h2, h3⟩ => ⟨r, v, m, n, ρ', h1, hq _ _ _ h2, h3⟩⟩

theorem AWp.mono {P : Program} {Γ : List (Nat × AV)} {B : Nat} {c : Code} {s : St} {Q Q' : Exit → St → Prop} (h : AWp P Γ B c s Q) (hq : ∀ e s, Q e s → Q' e s) : AWp P Γ B c s Q' :=
  ⟨fun X D ρ a w hD hs hB => Go.wp_mono (h.run X D ρ a w hD hs hB) fun e a' w' ⟨s', ρ', h1, h2⟩ => ⟨s', ρ', hq _ _ h1, h2⟩⟩

theorem Ext.own {A : Nat → Prop} {D' : Nat → Prop} {ρ ρ' : Nat → Loc} {mem mem' : Mem} {w w' : World} {X : Nat → Prop} (h : Ext A ρ mem w ρ' D' mem' w') :
    ∀ b, b < w.heap.size → ¬ OX X ρ mem b → ¬ OX X ρ' mem' b ∧ w'.heap[b]? = w.heap[b]? := by
  intro b hb ho
  refine ⟨?_, h.keep b hb (fun h' => ho (.inr h'))⟩
  rintro (h' | ⟨p, hp, hn, rfl⟩)
  · exact ho (.inl h')
  · rcases h.fresh p hp hn with h1 | h1
    · exact ho (.inr h1)
    · omega

theorem Ext.vr {D D' : Nat → Prop} {ρ ρ' : Nat → Loc} {mem mem' : Mem} {w w' : World} {X : Nat → Prop} (h : Ext D ρ mem w ρ' D' mem' w') {v : AV} {x : Value} (hv : VR ρ D (OX X ρ mem) w v x) :
    VR ρ' D' (OX X ρ' mem') w' v x := hv.mono h.agree h.le h.own

theorem Ext.sub {A A' D' : Nat → Prop} {ρ ρ' : Nat → Loc} {mem mem' : Mem} {w w' : World} (h : Ext A ρ mem w ρ' D' mem' w') (hA : ∀ i, A' i → A i) : Ext A' ρ mem w ρ' D' mem' w' :=
  ⟨fun i hi => h.le i (hA i hi), fun i hi => h.agree i (hA i hi), h.size, h.keep, h.fresh, h.env⟩

theorem dn_grow {D : Nat → Prop} {B n n' : Nat} (h : n ≤ n') : ∀ i, dn D B n i → dn D B n' i := by
  rintro i (h1 | ⟨h1, h2⟩)
  · exact .inl h1
  · exact .inr ⟨h1, by omega⟩

theorem dn_lt {D : Nat → Prop} {B n : Nat} (hD : ∀ i, D i → i < B) (hB : B ≤ n) : ∀ i, dn D B n i → i < n := by
  rintro i (h1 | ⟨h1, h2⟩)
  · have := hD i h1; omega
  · exact h2

theorem dn_dn {D : Nat → Prop} {B n n' : Nat} (hB : B ≤ n) (hn : n ≤ n') : ∀ i, dn (dn D B n) n n' i → dn D B n' i := by
  rintro i ((h1 | ⟨h1, h2⟩) | ⟨h1, h2⟩)
  · exact .inl h1
  · exact .inr ⟨h1, by omega⟩
  · exact .inr ⟨by omega, h2⟩

theorem Ext.wide {A D D' : Nat → Prop} {ρ ρ' : Nat → Loc} {mem mem' : Mem} {w w' : World} (h : Ext A ρ mem w ρ' D mem' w') (hD : ∀ i, D i → D' i) : Ext A ρ mem w ρ' D' mem' w' :=
  ⟨fun i hi => hD i (h.le i hi), h.agree, h.size, h.keep, h.fresh, h.env⟩

/-- The state behind an operation. -/
def stepSt (s : St) (d : Option Nat) (v : AV) (mem : Mem) (nx : Nat) : Option St :=
  match d with
  | none => some { s with mem := mem, nx := nx }
  | some d => match Nat.blt d s.nt with
    | true => some { s with sl := up s.sl d v, mem := mem, nx := nx }
    | false => none

theorem stepSt_sound {Γ : List (Nat × AV)} {X : Nat → Prop} {ρ ρ' : Nat → Loc} {s s' : St} {a : Act} {w w' : World} {d : Option Nat} {v : AV} {x : Value} {mem : Mem} {nx : Nat}
    {D D' : Nat → Prop} (h : stepSt s d v mem nx = some s') (hs : SR Γ X ρ D s a w) (hm : MR Γ X ρ' D' mem w') (hv : VR ρ' D' (OX X ρ' mem) w' v x)
    (hmono : ∀ u y, VR ρ D (OX X ρ s.mem) w u y → VR ρ' D' (OX X ρ' mem) w' u y) : SR Γ X ρ' D' s' (a.put d x) w' ∧ s'.mem = mem ∧ s'.nx = nx := by
  unfold stepSt at h
  split at h
  · cases h
    exact ⟨⟨hm, hs.def0, hs.size, fun i u hi => hmono _ _ (hs.slot i u hi)⟩, rfl, rfl⟩
  · rename_i d'
    split at h
    · rename_i hlt
      have hlt : d' < s.nt := Nat.le_of_ble_eq_true hlt
      cases h
      refine ⟨⟨hm, by simpa [Act.put] using hs.def0, by simpa [Act.put] using hs.size, fun i u hi => ?_⟩, rfl, rfl⟩
      simp only [lk_up] at hi
      have hsz := hs.size
      by_cases hid : i = d'
      · subst hid
        rw [if_pos rfl] at hi
        cases hi
        have hlt' : i < a.tmps.size := by omega
        simpa [Act.put, hlt'] using hv
      · rw [if_neg hid] at hi
        have := hmono _ _ (hs.slot i u hi)
        have e : (a.put (some d') x).tmps.getD i undef = a.tmps.getD i undef := by
          simp [Act.put, Array.getElem?_setIfInBounds_ne (Ne.symm hid)]
        rw [e]
        exact this
    · cases h

/-- Is the operation carried out? -/
def aWant (ops : List Oper) (s : St) (g : Option (Nat × Bool)) : Option Bool :=
  match g with
  | none => some true
  | some (j, want) => match ops[j]? with
    | none => some false
    | some o => match o.dst with
      | none => some false
      | some d => match lk s.sl d with
        | some (.bool b) => match want with
          | true => some b
          | false => some (!b)
        | some (.tup []) => some false
        | _ => none

theorem aWant_sound {Γ : List (Nat × AV)} {X : Nat → Prop} {ρ : Nat → Loc} {s : St} {a : Act} {w : World} {D : Nat → Prop} {ops : List Oper} {o : Oper} {b : Bool} (hs : SR Γ X ρ D s a w) (h : aWant ops s o.guard = some b) :
    Region.wanted o (yielded ops.toArray a.tmps) = b := by
  unfold aWant at h
  split at h
  · rename_i hg; cases h; simp [Region.wanted, hg]
  · rename_i j want hg
    split at h
    · rename_i hj; cases h; simp [Region.wanted, hg, yielded, hj]
    · rename_i oj hj
      split at h
      · rename_i hd; cases h; simp [Region.wanted, hg, yielded, hj, hd]
      · rename_i d hd
        have key : ∀ v, lk s.sl d = some v → ∀ x, VR ρ D (OX X ρ s.mem) w v x → True := fun _ _ _ _ => trivial
        split at h
        · rename_i bb hl
          have hv := hs.slot d _ hl
          generalize hx : a.tmps.getD d undef = x at hv
          cases hv
          have hget : a.tmps[d]? = some (.bool bb) := by
            rcases Nat.lt_or_ge d a.tmps.size with hlt | hge
            · simpa [hlt] using hx
            · simp [Array.getD, Nat.not_lt.2 hge, undef] at hx
          split at h
          · cases h; simp [Region.wanted, hg, yielded, hj, hd, hget]
          · cases h; simp [Region.wanted, hg, yielded, hj, hd, hget]
        · rename_i hl
          cases h
          have hv := hs.slot d _ hl
          generalize hx : a.tmps.getD d undef = x at hv
          cases hv with
          | tup _ arr hsz _ =>
            have harr : arr = #[] := by simp at hsz; exact Array.eq_empty_of_size_eq_zero hsz.symm
            subst harr
            have hget : a.tmps[d]? = some (.tuple #[]) ∨ a.tmps[d]? = none := by
              rcases Nat.lt_or_ge d a.tmps.size with hlt | hge
              · left; simpa [hlt] using hx
              · right; simp [hge]
            rcases hget with hget | hget <;> simp [Region.wanted, hg, yielded, hj, hd, hget]
        · cases h

/-- A call of a function of the program. -/
def aCall (P : Program) (Γ : List (Nat × AV)) (s : St) (op : Op) : Option (FuncId × List AV) :=
  match op with
  | .call c => match c.callee with
    | .value f => match ev Γ s f with
      | some (.fn (.func F) first cap) => match evs Γ s c.args.toList with
        | some args => match P.funcs[F]? with
          | some fn => match fn.body with
            | some _ => match fn.name == "runtime.NumGoroutine" with
              | false => some (F, first ++ args ++ cap)
              | true => none
            | none => none
          | none => none
        | none => none
      | _ => none
    | _ => none
  | _ => none

theorem aCall_sound {P : Program} {Γ : List (Nat × AV)} {X : Nat → Prop} {ρ : Nat → Loc} {s : St} {a : Act} {w : World} {D : Nat → Prop} (hs : SR Γ X ρ D s a w) (o : Oper) {F : FuncId} {args : List AV}
    (h : aCall P Γ s o.op = some (F, args)) : ∃ vs : List Value, (execOp a.eval o).run P w = .ok (.enter F vs.toArray) w ∧ VRL ρ D (OX X ρ s.mem) w args vs := by
  unfold aCall at h
  split at h
  · rename_i c hop
    split at h
    · rename_i f hc
      split at h
      · rename_i F' first cap hf
        split at h
        · rename_i as has
          split at h
          · rename_i fn hfn
            split at h
            · rename_i body hbody
              split at h
              · rename_i hname
                cases h
                have hv := ev_sound hs hf
                generalize he : a.eval f = fv at hv
                cases hv with
                | fn _ _ _ a1 a2 l1 l2 r1 r2 =>
                  have hargs := evs_sound hs has
                  refine ⟨a1.toList ++ (c.args.toList.map a.eval) ++ a2.toList, ?_, ?_⟩
                  · have hname' : ¬ fn.name = "runtime.NumGoroutine" := by simpa using hname
                    simp [execOp, hop, resolve, hc, he, Deferred.ofValue, invoke, callFunc, hfn, hbody, hname']
                  · refine (VRL.append (VRL.append ⟨by simpa using l1, fun j c x h1 h2 => r1 j c x h1 (by simpa using h2)⟩ hargs) ⟨by simpa using l2, fun j c x h1 h2 => r2 j c x h1 (by simpa using h2)⟩)
              · cases h
            · cases h
          · cases h
        · cases h
      · cases h
    · cases h
  · cases h

/-- How calls and loops are met. -/
structure Hk where
  call : FuncId → List AV → Mem → Nat → (AV → Mem → Nat → Prop) → Prop
  loop : Code → St → (Exit → St → Prop) → Prop

def aOps (P : Program) (Γ : List (Nat × AV)) (H : Hk) (ops : List Oper) : List Oper → St → (St → Prop) → Prop
  | [], s, K => K s
  | o :: r, s, K => match aWant ops s o.guard with
    | none => False
    | some false => match stepSt s o.dst (.tup []) s.mem s.nx with
      | some s' => aOps P Γ H ops r s' K
      | none => False
    | some true => match aStep P Γ s o.op with
      | some (v, mem, nx) => match stepSt s o.dst v mem nx with
        | some s' => aOps P Γ H ops r s' K
        | none => False
      | none => match aCall P Γ s o.op with
        | some (F, args) => H.call F args s.mem s.nx fun v mem nx => match stepSt s o.dst v mem nx with
          | some s' => aOps P Γ H ops r s' K
          | none => False
        | none => False

structure HkOK (P : Program) (Γ : List (Nat × AV)) (B : Nat) (H : Hk) : Prop where
  call : ∀ F args mem nx K, H.call F args mem nx K → ACalls P Γ F args mem nx K
  loop : ∀ c s Q, H.loop c s Q → AWp P Γ B (.loop c) s Q

theorem undef_VR {ρ : Nat → Loc} {D : Nat → Prop} {O : Nat → Prop} {w : World} : VR ρ D O w (.tup []) undef := .tup [] #[] rfl (by simp)

theorem aOps_sound {P : Program} {Γ : List (Nat × AV)} {H : Hk} {B : Nat} (hH : HkOK P Γ B H) (ops : List Oper) : ∀ (l : List Oper) (s : St) (K : St → Prop), aOps P Γ H ops l s K →
    ∀ (X : Nat → Prop) (D : Nat → Prop) (ρ : Nat → Loc) (a : Act) (w : World) (Q : Exit → Act → World → Prop), (∀ i, D i → i < B) → SR Γ X ρ (dn D B s.nx) s a w → B ≤ s.nx →
      (∀ (s' : St) (ρ' : Nat → Loc) (a' : Act) (w' : World), K s' → B ≤ s'.nx → SR Γ X ρ' (dn D B s'.nx) s' a' w' → Ext D ρ s.mem w ρ' (dn D B s'.nx) s'.mem w' → Q .normal a' w') → wpList P ops.toArray Q l a w
  | [], s, K, h, X, D, ρ, a, w, Q, hD, hs, hB, hQ => wpList_nil (hQ s ρ a w h hB hs (Ext.refl fun i hi => .inl hi))
  | o :: r, s, K, h, X, D, ρ, a, w, Q, hD, hs, hB, hQ => by
    simp only [aOps] at h
    refine wpList_step fun K' hK' => ?_
    split at h
    · exact h.elim
    · rename_i hw
      rw [aWant_sound hs hw]
      simp only [Bool.false_eq_true, if_false]
      split at h
      · rename_i s' hst
        obtain ⟨h1, h2, h3⟩ := stepSt_sound hst hs hs.mr undef_VR (fun _ _ h => h)
        refine hK' _ _ (aOps_sound hH ops r s' K h X D ρ _ w Q hD (by rw [h3]; exact h1) (by omega) fun s2 ρ2 a2 w2 k1 k2 k3 k4 => hQ s2 ρ2 a2 w2 k1 k2 k3 ?_)
        rw [← h2]
        exact k4
      · exact h.elim
    · rename_i hw
      rw [aWant_sound hs hw]
      simp only [if_true]
      split at h
      · rename_i v mem nx hstep
        split at h
        · rename_i s' hst
          have hnx : s.nx ≤ nx := by rcases aStep_nx hstep with h' | h' <;> omega
          obtain ⟨x, n, w', ρ', e1, e2, m1, v1, mono1, ext1⟩ := aStep_sound (P := P) (D := dn D B s.nx) (D' := dn D B nx) (fun h' => Nat.lt_irrefl _ (dn_lt hD hB _ h')) (dn_grow hnx) hs o (fun e => .inr ⟨hB, by omega⟩) hstep
          obtain ⟨h1, h2, h3⟩ := stepSt_sound hst hs m1 v1 mono1
          have fin : K' (a.put o.dst x) w' := by
            refine hK' _ _ (aOps_sound hH ops r s' K h X D ρ' _ w' Q hD (by rw [h3]; exact h1) (by rw [h3]; exact Nat.le_trans hB hnx) fun s2 ρ2 a2 w2 k1 k2 k3 k4 => hQ s2 ρ2 a2 w2 k1 k2 k3 ((ext1 D fun i hi => .inl hi).trans ?_))
            rw [← h2]
            exact k4
          unfold Oper.wp
          rw [e1]
          rcases e2 with rfl | ⟨rfl, rfl⟩
          · exact fin
          · exact fin
        · exact h.elim
      · split at h
        · rename_i F args hcall
          obtain ⟨vs, e1, hvs⟩ := aCall_sound (P := P) hs o hcall
          unfold Oper.wp
          rw [e1]
          refine ((hH.call _ _ _ _ _ h).run X (dn D B s.nx) ρ w vs (dn_lt hD hB) hs.mr hvs).mono ?_
          rintro e w' ⟨rv, v, mem', nx', ρ', rfl, hq, hnx, m1, v1, ext1⟩
          split at hq
          · rename_i s' hst
            obtain ⟨m2, mono2, _⟩ := m1.widen (dn_dn hB hnx)
            obtain ⟨h1, h2, h3⟩ := stepSt_sound hst hs m2 (mono2 _ _ v1) (fun u y hu => mono2 _ _ (ext1.vr hu))
            have ext2 : Ext D ρ s.mem w ρ' (dn D B nx') mem' w' := (ext1.sub fun i hi => .inl hi).wide (dn_dn hB hnx)
            refine hK' _ _ (aOps_sound hH ops r s' K hq X D ρ' _ w' Q hD (by rw [h3]; exact h1) (by rw [h3]; exact Nat.le_trans hB hnx) fun s2 ρ2 a2 w2 k1 k2 k3 k4 => hQ s2 ρ2 a2 w2 k1 k2 k3 (ext2.trans ?_))
            rw [← h2]
            exact k4
          · exact hq.elim
        · exact h.elim
end Go.Ax
