/- New blocks and changed blocks of any kind. -/
import Derived.Test.YtoanjpeoclkjgaaDoorAxEff2
import Derived.MapKept
namespace Go.Ax
open Go
set_option linter.unusedVariables false

section
variable {P : Program} {Γ : List (Nat × AV)} {X : Nat → Prop} {ρ : Nat → Loc} {D : Nat → Prop} {O : Nat → Prop} {mem : Mem} {w w' : World}

theorem MR.allocG {n : Nat} {D' : Nat → Prop} (hn0 : ¬ D n) (hD : ∀ i, D i → D' i) (hDn : D' n) (hm : MR Γ X ρ D mem w) {l : Loc} {o : Obj} {a : AB} (hl : l.b = w.heap.size) (hpos : 0 < l.n) (hw : w'.heap = w.heap.push o) (hos : w'.os = w.os ∧ w'.output = w.output)
    (hr : BR ρ D (OX X ρ mem) w l o a) :
    MR Γ X (setL ρ n l) D' ((n, a) :: mem) w' ∧
    (∀ v x, VR ρ D (OX X ρ mem) w v x → VR (setL ρ n l) D' (OX X (setL ρ n l) ((n, a) :: mem)) w' v x) ∧
    (∀ A : Nat → Prop, (∀ i, A i → D i) → Ext A ρ mem w (setL ρ n l) D' ((n, a) :: mem) w') := by
  have hne : ∀ p ∈ mem, p.1 ≠ n := fun p hp e => hn0 (e ▸ hm.low p hp)
  have hρ : ∀ id, D id → setL ρ n l id = ρ id := fun id h => setL_ne _ _ _ (fun e => hn0 (e ▸ h))
  have hρm : ∀ p ∈ mem, setL ρ n l p.1 = ρ p.1 := fun p hp => hρ _ (hm.low p hp)
  have hheap : ∀ b, b < w.heap.size → w'.heap[b]? = w.heap[b]? := fun b hb => by rw [hw, Array.getElem?_push]; simp [Nat.ne_of_lt hb]
  have hnew : w'.heap[w.heap.size]? = some o := by rw [hw]; simp
  have hsize : w'.heap.size = w.heap.size + 1 := by rw [hw]; simp
  have hk : ∀ b, b < w.heap.size → ¬ OX X ρ mem b → ¬ OX X (setL ρ n l) ((n, a) :: mem) b ∧ w'.heap[b]? = w.heap[b]? := by
    intro b hb ho
    refine ⟨?_, hheap b hb⟩
    rintro (h | ⟨p, hp, hn, e⟩)
    · exact ho (.inl h)
    · rcases List.mem_cons.1 hp with rfl | hp
      · rw [setL_same] at e; omega
      · rw [hρm p hp] at e hn; exact ho (.inr ⟨p, hp, hn, e⟩)
  have hmono : ∀ v x, VR ρ D (OX X ρ mem) w v x → VR (setL ρ n l) D' (OX X (setL ρ n l) ((n, a) :: mem)) w' v x :=
    fun v x h => h.mono hρ hD hk
  refine ⟨⟨?_, ?_, ?_, ?_, ?_, ?_, ?_⟩, hmono, fun B hB => ⟨fun i hi => hD i (hB i hi), fun id h => hρ id (hB id h), by omega, fun b hb _ => hheap b hb, ?_, hos⟩⟩
  · intro p hp
    rcases List.mem_cons.1 hp with rfl | hp
    · exact hDn
    · exact hD _ (hm.low p hp)
  · intro p hp hn
    rcases List.mem_cons.1 hp with rfl | hp
    · rw [setL_same, hl]
      exact ⟨o, hnew, hr.mono hρ hD hk⟩
    · rw [hρm p hp] at hn ⊢
      obtain ⟨o, ho, hb⟩ := hm.blk p hp hn
      have hlt := own_lt hm (.inr ⟨p, hp, hn, rfl⟩)
      exact ⟨o, by rw [hheap _ hlt]; exact ho, hb.mono hρ hD hk⟩
  · intro p hp hn
    rcases List.mem_cons.1 hp with rfl | hp
    · rw [setL_same] at hn; omega
    · rw [hρm p hp] at hn ⊢; exact hm.emp p hp hn
  · intro p hp q hq hpn hqn e
    rcases List.mem_cons.1 hp with rfl | hp <;> rcases List.mem_cons.1 hq with rfl | hq
    · rfl
    · rw [hρm q hq] at e hqn
      rw [setL_same] at e
      have := own_lt hm (.inr ⟨q, hq, hqn, rfl⟩)
      omega
    · rw [hρm p hp] at e hpn
      rw [setL_same] at e
      have := own_lt hm (.inr ⟨p, hp, hpn, rfl⟩)
      omega
    · rw [hρm p hp] at e hpn
      rw [hρm q hq] at e hqn
      exact hm.inj p hp q hq hpn hqn e
  · simp only [List.map_cons, List.nodup_cons]
    refine ⟨fun h => ?_, hm.nod⟩
    obtain ⟨p, hp, e⟩ := List.mem_map.1 h
    exact hne p hp e
  · intro b hb
    obtain ⟨h1, h2⟩ := hm.bar b hb
    refine ⟨by omega, ?_⟩
    rintro ⟨p, hp, hn, e⟩
    rcases List.mem_cons.1 hp with rfl | hp
    · rw [setL_same] at e; omega
    · rw [hρm p hp] at e hn; exact h2 ⟨p, hp, hn, e⟩
  · exact fun p hp => hmono _ _ (hm.glo p hp)
  · intro p hp hn
    rcases List.mem_cons.1 hp with rfl | hp
    · rw [setL_same, hl]; exact .inr (Nat.le_refl _)
    · rw [hρm p hp] at hn ⊢; exact .inl ⟨p, hp, hn, rfl⟩

theorem MR.changeG (hm : MR Γ X ρ D mem w) {id : Nat} {a a' : AB} (hid : lk mem id = some a) (hn : 0 < (ρ id).n) {o : Obj}
    (hw : w'.heap = w.heap.setIfInBounds (ρ id).b o) (hos : w'.os = w.os ∧ w'.output = w.output) (hr : BR ρ D (OX X ρ mem) w (ρ id) o a') :
    MR Γ X ρ D (up mem id a') w' ∧
    (∀ v x, VR ρ D (OX X ρ mem) w v x → VR ρ D (OX X ρ (up mem id a')) w' v x) ∧
    (∀ A : Nat → Prop, (∀ i, A i → D i) → Ext A ρ mem w ρ D (up mem id a') w') := by
  have hidm := lk_mem hid
  have hlt := own_lt hm (.inr ⟨_, hidm, hn, rfl⟩)
  have hheap : ∀ b, b ≠ (ρ id).b → w'.heap[b]? = w.heap[b]? := fun b hb => by rw [hw, Array.getElem?_setIfInBounds_ne (Ne.symm hb)]
  have hnew : w'.heap[(ρ id).b]? = some o := by rw [hw]; simp [hlt]
  have hsz : w'.heap.size = w.heap.size := by rw [hw]; simp
  have hown : ∀ b, own ρ (up mem id a') b → own ρ mem b := by
    rintro b ⟨p, hp, hpn, e⟩
    rcases mem_up hid hm.nod hp with rfl | ⟨h1, _⟩
    · exact ⟨_, hidm, hpn, e⟩
    · exact ⟨p, h1, hpn, e⟩
  have hOX : ∀ b, OX X ρ (up mem id a') b → OX X ρ mem b := fun b h => h.imp (fun x => x) (hown b)
  have hk : ∀ b, b < w.heap.size → ¬ OX X ρ mem b → ¬ OX X ρ (up mem id a') b ∧ w'.heap[b]? = w.heap[b]? := by
    intro b hb ho
    refine ⟨fun h => ho (hOX b h), hheap b ?_⟩
    rintro rfl
    exact ho (.inr ⟨_, hidm, hn, rfl⟩)
  have hmono : ∀ v x, VR ρ D (OX X ρ mem) w v x → VR ρ D (OX X ρ (up mem id a')) w' v x := fun v x h => h.mono (fun _ _ => rfl) (fun _ h => h) hk
  refine ⟨⟨?_, ?_, ?_, ?_, ?_, ?_, ?_⟩, hmono, fun B hB => ⟨hB, fun _ _ => rfl, by omega, fun b hb ho => hheap b ?_, ?_, hos⟩⟩
  · intro p hp
    rcases mem_up hid hm.nod hp with rfl | ⟨h1, _⟩
    · exact (hm.low _ hidm :)
    · exact hm.low p h1
  · intro p hp hpn
    rcases mem_up hid hm.nod hp with rfl | ⟨h1, hne⟩
    · exact ⟨_, hnew, hr.mono (fun _ _ => rfl) (fun _ h => h) hk⟩
    · obtain ⟨o, ho, hb⟩ := hm.blk p h1 hpn
      refine ⟨o, ?_, hb.mono (fun _ _ => rfl) (fun _ h => h) hk⟩
      rw [hheap _ (fun e => hne (hm.inj p h1 _ hidm hpn hn e))]
      exact ho
  · intro p hp hpn
    rcases mem_up hid hm.nod hp with rfl | ⟨h1, hne⟩
    · exact absurd hpn (Nat.ne_of_gt hn)
    · exact hm.emp p h1 hpn
  · intro p hp q hq hpn hqn e
    have a : ∀ p ∈ up mem id a', ∃ p' ∈ mem, p'.1 = p.1 := by
      intro p hp
      rcases mem_up hid hm.nod hp with rfl | ⟨h1, _⟩
      · exact ⟨_, hidm, rfl⟩
      · exact ⟨p, h1, rfl⟩
    obtain ⟨p', hp', e1⟩ := a p hp
    obtain ⟨q', hq', e2⟩ := a q hq
    rw [← e1, ← e2] at e ⊢
    rw [← e1] at hpn
    rw [← e2] at hqn
    exact hm.inj p' hp' q' hq' hpn hqn e
  · rw [up_keys hid]; exact hm.nod
  · intro b hb
    obtain ⟨h1, h2⟩ := hm.bar b hb
    exact ⟨by omega, fun h => h2 (hown b h)⟩
  · exact fun p hp => hmono _ _ (hm.glo p hp)
  · rintro rfl
    exact ho ⟨_, hidm, hn, rfl⟩
  · intro p hp hpn
    refine .inl ?_
    rcases mem_up hid hm.nod hp with rfl | ⟨h1, _⟩
    · exact ⟨_, hidm, hpn, rfl⟩
    · exact ⟨p, h1, hpn, rfl⟩

/-- A map's block has a place. -/
theorem mapb_pos (hm : MR Γ X ρ D mem w) {id : Nat} {es : List (AV × AV)} (hid : lk mem id = some (.mapb es)) : 0 < (ρ id).n := by
  rcases Nat.eq_zero_or_pos (ρ id).n with h | h
  · obtain ⟨t, sz, e, _⟩ := hm.emp _ (lk_mem hid) h
    cases e
  · exact h
end
end Go.Ax
