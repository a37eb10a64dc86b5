/- One operation on an abstract state is what the model does. -/
import Derived.Test.YtoanjpeoclkjgaaDoorAxStep
namespace Go.Ax
open Go
set_option linter.unusedVariables false

theorem aAlloc_nx {P : Program} {mem : Mem} {nx : Nat} {t : TypeId} {v : AV} {m : Mem} {n : Nat} (h : aAlloc P mem nx t = some (v, m, n)) : n = nx + 1 := by
  unfold aAlloc at h
  repeat (split at h <;> first | (cases h; done) | skip)
  cases h; rfl
theorem aBox_nx {P : Program} {mem : Mem} {nx : Nat} {t : TypeId} {a v : AV} {m : Mem} {n : Nat} (h : aBox P mem nx t a = some (v, m, n)) : n = nx + 1 := by
  unfold aBox at h
  repeat (split at h <;> first | (cases h; done) | skip)
  cases h; rfl
theorem aBuildSlice_nx {P : Program} {mem : Mem} {nx : Nat} {t : TypeId} {l : Nat} {ps : List (Nat × AV)} {v : AV} {m : Mem} {n : Nat} (h : aBuildSlice P mem nx t l ps = some (v, m, n)) : n = nx + 1 := by
  unfold aBuildSlice at h
  repeat (split at h <;> first | (cases h; done) | skip)
  cases h; rfl
theorem aStrBytes_nx {P : Program} {mem : Mem} {nx : Nat} {t u : TypeId} {a v : AV} {m : Mem} {n : Nat} (h : aStrBytes P mem nx t u a = some (v, m, n)) : n = nx + 1 := by
  unfold aStrBytes at h
  repeat (split at h <;> first | (cases h; done) | skip)
  cases h; rfl
theorem aMake_nx {P : Program} {mem : Mem} {nx : Nat} {t : TypeId} {a b v : AV} {m : Mem} {n : Nat} (h : aMake P mem nx t a b = some (v, m, n)) : n = nx + 1 := by
  unfold aMake at h
  repeat (split at h <;> first | (cases h; done) | skip)
  cases h; rfl
theorem aAppend_nx {P : Program} {mem : Mem} {nx : Nat} {t u : TypeId} {a b v : AV} {m : Mem} {n : Nat} (h : aAppend P mem nx t u a b = some (v, m, n)) : n = nx ∨ n = nx + 1 := by
  unfold aAppend at h
  repeat' (first | (cases h; done) | split at h)
  all_goals first | (cases h; exact .inl rfl) | (cases h; exact .inr rfl)

section
variable {P : Program} {Γ : List (Nat × AV)} {X : Nat → Prop} {ρ : Nat → Loc} {D D' : Nat → Prop} {s : St} {a : Act} {w : World}

theorem aBuiltin_sound (hn0 : ¬ D s.nx) (hD : ∀ i, D i → D' i) (hs : SR Γ X ρ D s a w) {b : Builtin} {args : List Operand} {ts : List TypeId} {v : AV} {mem' : Mem} {N' : Nat} (hDn : N' = s.nx + 1 → D' s.nx) (h : aBuiltin P Γ s b args ts = some (v, mem', N'))
    (ty : TypeId) (cs : Array Bool) :
    DoneN P Γ X ρ D s.mem w ((builtin b ts.toArray ty cs (args.map a.eval).toArray).run P w) v mem' D' := by
  unfold aBuiltin at h
  split at h
  · split at h
    · rename_i x t
      split at h
      · rename_i p hp
        have := pure_next (P := P) hD (m := Builtin.len_ #[t] ty #[a.eval x]) (v := v) hs h (fun v' hv => aLen_sound hv (ev_sound hs hp) ty)
        simpa [builtin] using this
      · cases h
    · cases h
  · split at h
    · rename_i x y t u
      split at h
      · rename_i p hp
        split at h
        · rename_i q hq
          have := (aAppend_sound (P := P) (ty := ty) hn0 hD hs.mr hDn h (ev_sound hs hp) (ev_sound hs hq)).next
          simpa [builtin] using this
        · cases h
      · cases h
    · cases h
  · split at h
    · rename_i k x r hr
      split at h
      · rename_i m hm
        cases h
        have hv := evs_sound hs hr
        obtain ⟨y, ys, e⟩ : ∃ y ys, args.map a.eval = y :: ys := by
          cases hl : args.map a.eval with
          | nil => have := hv.1; rw [hl] at this; simp at this
          | cons y ys => exact ⟨y, ys, rfl⟩
        rw [e] at hv ⊢
        have h0 := hv.2 0 _ y rfl rfl
        cases h0
        have hr' : VRL ρ D (OX X ρ s.mem) w r ys := ⟨by have := hv.1; simpa using this, fun j c x h1 h2 => hv.2 (j + 1) c x (by simpa using h1) (by simpa using h2)⟩
        have := aMin_sound (P := P) k hm hr'
        obtain ⟨w1, w2, w3⟩ := hs.mr.widen hD
        exact ⟨.int k m, .value (.int k m), w, ρ, by simp [builtin, Builtin.min_, this], .inl rfl, w1, .int _ _, w2, w3⟩
      · cases h
    · cases h
  · split at h
    · rename_i k x r hr
      split at h
      · rename_i m hm
        cases h
        have hv := evs_sound hs hr
        obtain ⟨y, ys, e⟩ : ∃ y ys, args.map a.eval = y :: ys := by
          cases hl : args.map a.eval with
          | nil => have := hv.1; rw [hl] at this; simp at this
          | cons y ys => exact ⟨y, ys, rfl⟩
        rw [e] at hv ⊢
        have h0 := hv.2 0 _ y rfl rfl
        cases h0
        have hr' : VRL ρ D (OX X ρ s.mem) w r ys := ⟨by have := hv.1; simpa using this, fun j c x h1 h2 => hv.2 (j + 1) c x (by simpa using h1) (by simpa using h2)⟩
        have := aMax_sound (P := P) k hm hr'
        obtain ⟨w1, w2, w3⟩ := hs.mr.widen hD
        exact ⟨.int k m, .value (.int k m), w, ρ, by simp [builtin, Builtin.max_, this], .inl rfl, w1, .int _ _, w2, w3⟩
      · cases h
    · cases h
  · cases h

theorem pure_same (hD : ∀ i, D i → D' i) (hs : SR Γ X ρ D s a w) {x : Operand} {v : AV} {mem' : Mem} {N' : Nat} (h : pureRes s (ev Γ s x) = some (v, mem', N')) :
    DoneN P Γ X ρ D s.mem w (.ok (.value (a.eval x)) w) v mem' D' := by
  unfold pureRes at h
  split at h
  · rename_i v0 hv
    cases h
    obtain ⟨w1, w2, w3⟩ := hs.mr.widen hD
    exact ⟨_, _, w, ρ, rfl, .inl rfl, w1, w2 _ _ (ev_sound hs hv), w2, w3⟩
  · cases h

theorem aStep_sound (hn0 : ¬ D s.nx) (hD : ∀ i, D i → D' i) (hs : SR Γ X ρ D s a w) (o : Oper) {v : AV} {mem' : Mem} {N' : Nat} (hDn : N' = s.nx + 1 → D' s.nx) (h : aStep P Γ s o.op = some (v, mem', N')) :
    DoneN P Γ X ρ D s.mem w ((execOp a.eval o).run P w) v mem' D' := by
  cases hop : o.op <;> rw [hop] at h <;> simp only [aStep] at h <;> first | (cases h; done) | skip
  case move x => simpa [execOp, hop] using pure_same (P := P) hD hs h
  case assign x => simpa [execOp, hop] using pure_same (P := P) hD hs h
  case pick c x y =>
    split at h
    · rename_i hc
      have hb := ev_sound hs hc
      generalize he : a.eval c = cv at hb
      cases hb
      simpa [execOp, hop, asBool, he] using pure_same (P := P) hD hs h
    · rename_i hc
      have hb := ev_sound hs hc
      generalize he : a.eval c = cv at hb
      cases hb
      simpa [execOp, hop, asBool, he] using pure_same (P := P) hD hs h
    · cases h
  case alloc t => simpa [execOp, hop] using (aAlloc_sound (P := P) hn0 hD (hDn (aAlloc_nx h)) hs.mr h).next
  case box t x =>
    split at h
    · rename_i p hp
      simpa [execOp, hop] using (aBox_sound (P := P) hn0 hD (hDn (aBox_nx h)) hs.mr h (ev_sound hs hp)).next
    · cases h
  case build t parts =>
    split at h
    · rename_i ps hps
      obtain ⟨h1, h2⟩ := evParts_sound hs hps
      have := pure_next (P := P) hD (m := Instr.build t (parts.toList.map fun (i, x) => (i, a.eval x)).toArray) (v := v) hs h (fun v' hv => aBuild_sound hv h1 h2)
      have e : (parts.map fun (i, x) => (i, a.eval x)) = (parts.toList.map fun (i, x) => (i, a.eval x)).toArray := by apply Array.ext'; simp
      simp only [execOp, hop]
      rw [e]
      exact this
    · cases h
  case buildSlice t len parts =>
    split at h
    · rename_i ps hps
      obtain ⟨h1, h2⟩ := evParts_sound hs hps
      have := (aBuildSlice_sound (P := P) hn0 hD (hDn (aBuildSlice_nx h)) hs.mr h h1 h2).next
      have e : (parts.map fun (i, x) => (i, a.eval x)) = (parts.toList.map fun (i, x) => (i, a.eval x)).toArray := by apply Array.ext'; simp
      simp only [execOp, hop]
      rw [e]
      exact this
    · cases h
  case load t x =>
    split at h
    · rename_i p hp
      have := pure_next (P := P) hD (m := Instr.loadAt t (a.eval x)) (v := v) hs h (fun v' hv => aLoad_sound hs.mr hv (ev_sound hs hp))
      simpa [execOp, hop] using this
    · cases h
  case store t x y =>
    split at h
    · rename_i p hp
      split at h
      · rename_i q hq
        split at h
        · rename_i m hm
          cases h
          obtain ⟨w', h1, h2, h3, h4⟩ := aStore_sound (P := P) hs.mr hm (ev_sound hs hp) (ev_sound hs hq)
          obtain ⟨w1, w2, w3⟩ := h2.widen hD
          exact ⟨undef, .skip, w', ρ, by simp [execOp, hop, h1], .inr ⟨rfl, rfl⟩, w1, .tup [] #[] rfl (by simp), fun u y hu => w2 _ _ (h3 u y hu), fun B hB => (h4 B hB).trans (w3 B hB)⟩
        · cases h
      · cases h
    · cases h
  case makeMap t r =>
    split at h
    · have hnx : N' = s.nx + 1 := by cases h; rfl
      simpa [execOp, hop] using (aMakeMap_sound (P := P) (t := t) hn0 hD (hDn hnx) hs.mr h).next
    · cases h
  case lookup t x ix ok =>
    split at h
    · rename_i p hp
      split at h
      · rename_i i hi
        have := pure_next (P := P) hD (m := Instr.lookup t (a.eval x) (a.eval ix) ok) (v := v) hs h (fun v' hv => aLookup_sound hs.mr hv (ev_sound hs hp) (ev_sound hs hi))
        simpa [execOp, hop] using this
      · cases h
    · cases h
  case mapUpdate t x y z =>
    split at h
    · rename_i p hp
      split at h
      · rename_i k hk
        split at h
        · rename_i q hq
          split at h
          · rename_i m hm
            cases h
            obtain ⟨w', h1, h2, h3, h4⟩ := aMapUpdate_sound (P := P) hs.mr hm (ev_sound hs hp) (ev_sound hs hk) (ev_sound hs hq)
            obtain ⟨w1, w2, w3⟩ := h2.widen hD
            exact ⟨undef, .skip, w', ρ, by simp [execOp, hop, h1], .inr ⟨rfl, rfl⟩, w1, .tup [] #[] rfl (by simp), fun u y hu => w2 _ _ (h3 u y hu), fun B hB => (h4 B hB).trans (w3 B hB)⟩
          · cases h
        · cases h
      · cases h
    · cases h
  case nilCheck x =>
    split at h
    · rename_i p hp
      unfold pureRes at h
      split at h
      · rename_i v0 hv
        cases h
        obtain ⟨h1, h2⟩ := aNil_sound (P := P) hv (ev_sound hs hp) o a.eval x hop rfl
        obtain ⟨w1, w2, w3⟩ := hs.mr.widen hD
        exact ⟨_, _, w, ρ, h1, .inl rfl, w1, w2 _ _ h2, w2, w3⟩
      · cases h
    · cases h
  case binOp op t x y t' =>
    split at h
    · rename_i p hp
      split at h
      · rename_i q hq
        have := pure_next (P := P) hD (m := do eqGuard op t x y (a.eval x) (a.eval y); binOp op t (a.eval x) (a.eval y)) (v := v) hs h (fun v' hv => aBin_sound hv (ev_sound hs hp) (ev_sound hs hq))
        simpa [execOp, hop] using this
      · cases h
    · cases h
  case unOp op t x =>
    split at h
    · rename_i p hp
      have := pure_next (P := P) hD (m := Op.unary op (a.eval x)) (v := v) hs h (fun v' hv => aUn_sound hv (ev_sound hs hp))
      simpa [execOp, hop] using this
    · cases h
  case convert src dst x =>
    split at h
    · rename_i p hp
      split at h
      · rename_i v0 hv
        cases h
        obtain ⟨z, h1, h2⟩ := aConv_sound (P := P) hs.mr hv (ev_sound hs hp)
        obtain ⟨w1, w2, w3⟩ := hs.mr.widen hD
        exact ⟨z, .value z, w, ρ, by simp [execOp, hop, h1], .inl rfl, w1, w2 _ _ h2, w2, w3⟩
      · simpa [execOp, hop] using (aStrBytes_sound (P := P) hn0 hD (hDn (aStrBytes_nx h)) hs.mr h (ev_sound hs hp)).next
    · cases h
  case makeInterface t x =>
    split at h
    · rename_i p hp
      have := pure_next (P := P) hD (m := Instr.makeInterface t (a.eval x)) (v := v) hs h (fun v' hv => aIface_sound hv (ev_sound hs hp))
      simpa [execOp, hop] using this
    · cases h
  case makeFunc fn first cap =>
    split at h
    · rename_i l1 h1
      split at h
      · rename_i l2 h2
        cases h
        have e1 := evs_sound hs h1
        have e2 := evs_sound hs h2
        obtain ⟨w1, w2, w3⟩ := hs.mr.widen hD
        refine ⟨.func fn (first.map a.eval) (cap.map a.eval), .value (.func fn (first.map a.eval) (cap.map a.eval)), w, ρ, by simp [execOp, hop, Instr.makeFunc], .inl rfl, w1, w2 _ _ ?_, w2, w3⟩
        exact .fn fn l1 l2 _ _ (by have := e1.1; simpa using this) (by have := e2.1; simpa using this)
          (fun j c x g1 g2 => e1.2 j c x g1 (by simpa using g2)) (fun j c x g1 g2 => e2.2 j c x g1 (by simpa using g2))
      · cases h
    · cases h
  case makeSlice t l c =>
    split at h
    · rename_i p hp
      split at h
      · rename_i q hq
        simpa [execOp, hop] using (aMake_sound (P := P) hn0 hD (hDn (aMake_nx h)) hs.mr h (ev_sound hs hp) (ev_sound hs hq)).next
      · cases h
    · cases h
  case slice t x lo hi mx =>
    split at h
    · rename_i p hp
      split at h
      · rename_i l hl
        split at h
        · rename_i hh hhi
          split at h
          · rename_i m hm
            split at h
            · rename_i hmx
              have hmx' : m.isSome = true → hh.isSome = true := by
                intro e
                rw [e] at hmx
                simpa using hmx
              have := pure_next (P := P) hD (m := Instr.sliceAt t (a.eval x) (lo.map a.eval) (hi.map a.eval) (mx.map a.eval)) (v := v) hs h
                (fun v' hv => aSlice_sound hs.mr hv (ev_sound hs hp) (evOpt_sound hs hl) (evOpt_sound hs hhi) (evOpt_sound hs hm) hmx')
              simpa [execOp, hop] using this
            · cases h
          · cases h
        · cases h
      · cases h
    · cases h
  case fieldAddr t x f =>
    split at h
    · rename_i p hp
      have := pure_next (P := P) hD (m := Instr.fieldAt t (a.eval x) f) (v := v) hs h (fun v' hv => aFieldAddr_sound hv (ev_sound hs hp))
      simpa [execOp, hop] using this
    · cases h
  case field t x f =>
    split at h
    · rename_i p hp
      have := pure_next (P := P) hD (m := Instr.field t (a.eval x) f) (v := v) hs h (fun v' hv => aField_sound hv (ev_sound hs hp))
      simpa [execOp, hop] using this
    · cases h
  case indexAddr t x ix =>
    split at h
    · rename_i p hp
      split at h
      · rename_i q hq
        have := pure_next (P := P) hD (m := Instr.indexAt t (a.eval x) (a.eval ix)) (v := v) hs h (fun v' hv => aIndexAddr_sound hs.mr hv (ev_sound hs hp) (ev_sound hs hq))
        simpa [execOp, hop] using this
      · cases h
    · cases h
  case index t x ix =>
    split at h
    · rename_i p hp
      split at h
      · rename_i q hq
        have := pure_next (P := P) hD (m := Instr.index t (a.eval x) (a.eval ix)) (v := v) hs h (fun v' hv => aIndex_sound hv (ev_sound hs hp) (ev_sound hs hq))
        simpa [execOp, hop] using this
      · cases h
    · cases h
  case extract x i =>
    split at h
    · rename_i p hp
      have := pure_next (P := P) hD (m := Instr.extract (a.eval x) i) (v := v) hs h (fun v' hv => aExtract_sound hv (ev_sound hs hp))
      simpa [execOp, hop] using this
    · cases h
  case call c =>
    split at h
    · rename_i b hb
      have h1 := fun cs => aBuiltin_sound (P := P) hn0 hD hs hDn h o.type cs
      have e : (c.args.toList.map a.eval).toArray = c.args.map a.eval := by apply Array.ext'; simp
      simp only [e, Array.toArray_toList] at h1
      simp only [execOp, hop, resolve, hb, Sem.run_bind, Sem.run_pure, Result.andThen_ok, invoke]
      exact h1 _
    · cases h

theorem pureRes_nx {o : Option AV} {v : AV} {m : Mem} {n : Nat} (h : pureRes s o = some (v, m, n)) : n = s.nx := by
  unfold pureRes at h
  split at h
  · cases h; rfl
  · cases h

theorem aBuiltin_nx {b : Builtin} {args : List Operand} {ts : List TypeId} {v : AV} {m : Mem} {n : Nat} (h : aBuiltin P Γ s b args ts = some (v, m, n)) : n = s.nx ∨ n = s.nx + 1 := by
  unfold aBuiltin at h
  repeat' (first | (cases h; done) | split at h)
  all_goals first
    | exact .inl (pureRes_nx h)
    | exact aAppend_nx h
    | (cases h; exact .inl rfl)

theorem aStep_nx {op : Op} {v : AV} {m : Mem} {n : Nat} (h : aStep P Γ s op = some (v, m, n)) : n = s.nx ∨ n = s.nx + 1 := by
  unfold aStep at h
  repeat' (first | (cases h; done) | split at h)
  all_goals first
    | exact .inl (pureRes_nx h)
    | exact .inr (aAlloc_nx h)
    | exact .inr (aBox_nx h)
    | exact .inr (aBuildSlice_nx h)
    | exact .inr (aStrBytes_nx h)
    | exact .inr (aMake_nx h)
    | exact aBuiltin_nx h
    | (cases h; exact .inl rfl)
    | (cases h; exact .inr rfl)
    | (cases h; done)
end
end Go.Ax
