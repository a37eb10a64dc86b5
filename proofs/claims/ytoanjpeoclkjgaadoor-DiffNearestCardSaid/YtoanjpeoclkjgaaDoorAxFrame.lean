/- The frame: a part of the memory is set aside while something runs on the rest. -/
import Derived.Test.YtoanjpeoclkjgaaDoorAxExec
namespace Go.Ax
open Go
set_option linter.unusedVariables false

section
variable {Γ : List (Nat × AV)} {X : Nat → Prop} {ρ ρ' : Nat → Loc} {D D' : Nat → Prop} {mem m1 m1' rest rest' : Mem} {w w' : World}

/-- The barred blocks while 'rest' is set aside. -/
def XR (X : Nat → Prop) (ρ : Nat → Loc) (rest : Mem) : Nat → Prop := fun b => X b ∨ own ρ rest b

structure Parts (mem m1 rest : Mem) : Prop where
  sub1 : ∀ p ∈ m1, p ∈ mem
  subr : ∀ p ∈ rest, p ∈ mem
  all : ∀ p ∈ mem, p ∈ m1 ∨ p ∈ rest
  dis : ∀ p ∈ m1, ∀ q ∈ rest, p.1 ≠ q.1
  nod1 : (m1.map (·.1)).Nodup

theorem Parts.own (hp : Parts mem m1 rest) (b : Nat) : OX (XR X ρ rest) ρ m1 b ↔ OX X ρ mem b := by
  constructor
  · rintro ((h | ⟨p, hp', hn, e⟩) | ⟨p, hp', hn, e⟩)
    · exact .inl h
    · exact .inr ⟨p, hp.subr p hp', hn, e⟩
    · exact .inr ⟨p, hp.sub1 p hp', hn, e⟩
  · rintro (h | ⟨p, hp', hn, e⟩)
    · exact .inl (.inl h)
    · rcases hp.all p hp' with h | h
      · exact .inr ⟨p, h, hn, e⟩
      · exact .inl (.inr ⟨p, h, hn, e⟩)

theorem MR.part (hm : MR Γ X ρ D mem w) (hp : Parts mem m1 rest) :
    MR Γ (XR X ρ rest) ρ D m1 w ∧ (∀ v x, VR ρ D (OX X ρ mem) w v x → VR ρ D (OX (XR X ρ rest) ρ m1) w v x) := by
  have hk : ∀ b, b < w.heap.size → ¬ OX X ρ mem b → ¬ OX (XR X ρ rest) ρ m1 b ∧ w.heap[b]? = w.heap[b]? := fun b _ ho => ⟨fun h => ho ((hp.own b).1 h), rfl⟩
  have hmono : ∀ v x, VR ρ D (OX X ρ mem) w v x → VR ρ D (OX (XR X ρ rest) ρ m1) w v x := fun v x h => h.mono (fun _ _ => rfl) (fun _ h => h) hk
  refine ⟨⟨fun p h => hm.low p (hp.sub1 p h), fun p h hn => ?_, fun p h => hm.emp p (hp.sub1 p h), fun p h q h' => hm.inj p (hp.sub1 p h) q (hp.sub1 q h'), hp.nod1, ?_, fun p h => hmono _ _ (hm.glo p h)⟩, hmono⟩
  · obtain ⟨o, ho, hb⟩ := hm.blk p (hp.sub1 p h) hn
    exact ⟨o, ho, hb.mono (fun _ _ => rfl) (fun _ h => h) hk⟩
  · rintro b (h | ⟨q, hq, hn, e⟩)
    · exact ⟨(hm.bar b h).1, fun ⟨p, hp', hn, e⟩ => (hm.bar b h).2 ⟨p, hp.sub1 p hp', hn, e⟩⟩
    · refine ⟨own_lt hm (.inr ⟨q, hp.subr q hq, hn, e⟩), fun ⟨p, hp', hn', e'⟩ => hp.dis p hp' q hq ?_⟩
      exact hm.inj p (hp.sub1 p hp') q (hp.subr q hq) hn' hn (e'.trans e.symm)

theorem MR.join (hm : MR Γ X ρ D mem w) (hp : Parts mem m1 rest) (h' : MR Γ (XR X ρ rest) ρ' D' m1' w') (ext : Ext D ρ m1 w ρ' D' m1' w')
    (hsub : ∀ p ∈ rest', p ∈ rest) (hdis : ∀ p ∈ m1', ∀ q ∈ rest', p.1 ≠ q.1) (hnod : (rest'.map (·.1)).Nodup) :
    MR Γ X ρ' D' (m1' ++ rest') w' ∧ (∀ v x, VR ρ' D' (OX (XR X ρ rest) ρ' m1') w' v x → VR ρ' D' (OX X ρ' (m1' ++ rest')) w' v x) ∧
    (∀ v x, VR ρ D (OX X ρ mem) w v x → VR ρ' D' (OX X ρ' (m1' ++ rest')) w' v x) ∧ ∀ A : Nat → Prop, (∀ i, A i → D i) → Ext A ρ mem w ρ' D' (m1' ++ rest') w' := by
  have hρ : ∀ q ∈ rest, ρ' q.1 = ρ q.1 := fun q hq => ext.agree _ (hm.low q (hp.subr q hq))
  have hown' : ∀ b, OX X ρ' (m1' ++ rest') b → OX (XR X ρ rest) ρ' m1' b := by
    rintro b (h | ⟨p, hp', hn, e⟩)
    · exact .inl (.inl h)
    · rcases List.mem_append.1 hp' with h | h
      · exact .inr ⟨p, h, hn, e⟩
      · rw [hρ p (hsub p h)] at hn e
        exact .inl (.inr ⟨p, hsub p h, hn, e⟩)
  have hk' : ∀ b, b < w'.heap.size → ¬ OX (XR X ρ rest) ρ' m1' b → ¬ OX X ρ' (m1' ++ rest') b ∧ w'.heap[b]? = w'.heap[b]? := fun b _ ho => ⟨fun h => ho (hown' b h), rfl⟩
  have hmono' : ∀ v x, VR ρ' D' (OX (XR X ρ rest) ρ' m1') w' v x → VR ρ' D' (OX X ρ' (m1' ++ rest')) w' v x := fun v x h => h.mono (fun _ _ => rfl) (fun _ h => h) hk'
  have hk : ∀ b, b < w.heap.size → ¬ OX X ρ mem b → ¬ OX X ρ' (m1' ++ rest') b ∧ w'.heap[b]? = w.heap[b]? := by
    intro b hb ho
    have ho1 : ¬ OX (XR X ρ rest) ρ m1 b := fun h => ho ((hp.own b).1 h)
    obtain ⟨h1, h2⟩ := ext.own (X := XR X ρ rest) b hb ho1
    exact ⟨fun h => h1 (hown' b h), h2⟩
  have hmono : ∀ v x, VR ρ D (OX X ρ mem) w v x → VR ρ' D' (OX X ρ' (m1' ++ rest')) w' v x := fun v x h => h.mono ext.agree ext.le hk
  have hheap : ∀ q ∈ rest, 0 < (ρ q.1).n → w'.heap[(ρ q.1).b]? = w.heap[(ρ q.1).b]? := by
    intro q hq hn
    refine ext.keep _ (own_lt hm (.inr ⟨q, hp.subr q hq, hn, rfl⟩)) ?_
    rintro ⟨p, hp', hn', e⟩
    exact hp.dis p hp' q hq (hm.inj p (hp.sub1 p hp') q (hp.subr q hq) hn' hn e)
  refine ⟨⟨?_, ?_, ?_, ?_, ?_, ?_, fun p h => hmono' _ _ (h'.glo p h)⟩, hmono', hmono, fun A hA => ⟨fun i hi => ext.le i (hA i hi), fun i hi => ext.agree i (hA i hi), ext.size, fun b hb ho => ?_, ?_, ext.env⟩⟩
  · intro p h
    rcases List.mem_append.1 h with h | h
    · exact h'.low p h
    · exact ext.le _ (hm.low p (hp.subr p (hsub p h)))
  · intro p h hn
    rcases List.mem_append.1 h with h | h
    · obtain ⟨o, ho, hb⟩ := h'.blk p h hn
      exact ⟨o, ho, hb.mono (fun _ _ => rfl) (fun _ h => h) hk'⟩
    · rw [hρ p (hsub p h)] at hn ⊢
      obtain ⟨o, ho, hb⟩ := hm.blk p (hp.subr p (hsub p h)) hn
      exact ⟨o, by rw [hheap p (hsub p h) hn]; exact ho, hb.mono ext.agree ext.le hk⟩
  · intro p h hn
    rcases List.mem_append.1 h with h | h
    · exact h'.emp p h hn
    · rw [hρ p (hsub p h)] at hn ⊢
      exact hm.emp p (hp.subr p (hsub p h)) hn
  · intro p h q hq hpn hqn e
    rcases List.mem_append.1 h with h | h <;> rcases List.mem_append.1 hq with hq | hq
    · exact h'.inj p h q hq hpn hqn e
    · exfalso
      rw [hρ q (hsub q hq)] at hqn e
      exact (h'.bar _ (.inr ⟨q, hsub q hq, hqn, rfl⟩)).2 ⟨p, h, hpn, e⟩
    · exfalso
      rw [hρ p (hsub p h)] at hpn e
      exact (h'.bar _ (.inr ⟨p, hsub p h, hpn, rfl⟩)).2 ⟨q, hq, hqn, e.symm⟩
    · rw [hρ p (hsub p h)] at hpn e
      rw [hρ q (hsub q hq)] at hqn e
      exact hm.inj p (hp.subr p (hsub p h)) q (hp.subr q (hsub q hq)) hpn hqn e
  · rw [List.map_append, List.nodup_append]
    refine ⟨h'.nod, hnod, fun x hx y hy => ?_⟩
    obtain ⟨p, hp', rfl⟩ := List.mem_map.1 hx
    obtain ⟨q, hq, rfl⟩ := List.mem_map.1 hy
    exact hdis p hp' q hq
  · intro b hb
    obtain ⟨h1, h2⟩ := h'.bar b (.inl hb)
    refine ⟨h1, ?_⟩
    rintro ⟨p, h, hn, e⟩
    rcases List.mem_append.1 h with h | h
    · exact h2 ⟨p, h, hn, e⟩
    · rw [hρ p (hsub p h)] at hn e
      exact (hm.bar b hb).2 ⟨p, hp.subr p (hsub p h), hn, e⟩
  · refine ext.keep b hb (fun ⟨p, h, hn, e⟩ => ho ⟨p, hp.sub1 p h, hn, e⟩)
  · intro p h hn
    rcases List.mem_append.1 h with h | h
    · rcases ext.fresh p h hn with ⟨q, hq, hqn, e⟩ | h1
      · exact .inl ⟨q, hp.sub1 q hq, hqn, e⟩
      · exact .inr h1
    · rw [hρ p (hsub p h)] at hn ⊢
      exact .inl ⟨p, hp.subr p (hsub p h), hn, rfl⟩
end
end Go.Ax
