/- Regions that draw their order, ninth part: the region. -/
import Derived.Test.YtoanjpeoclkjgaaDoorAxDraw8
namespace Go.Ax
open Go
set_option linter.unusedVariables false

theorem MR.same {Γ : List (Nat × AV)} {X : Nat → Prop} {ρ : Nat → Loc} {D : Nat → Prop} {mem : Mem} {w w' : World} (hm : MR Γ X ρ D mem w) (hh : w'.heap = w.heap) (hos : w'.os = w.os ∧ w'.output = w.output) :
    MR Γ X ρ D mem w' ∧ (∀ v x, VR ρ D (OX X ρ mem) w v x → VR ρ D (OX X ρ mem) w' v x) ∧ ∀ A : Nat → Prop, (∀ i, A i → D i) → Ext A ρ mem w ρ D mem w' := by
  have hk : ∀ b, b < w.heap.size → ¬ OX X ρ mem b → ¬ OX X ρ mem b ∧ w'.heap[b]? = w.heap[b]? := fun b _ ho => ⟨ho, by rw [hh]⟩
  have hmono : ∀ v x, VR ρ D (OX X ρ mem) w v x → VR ρ D (OX X ρ mem) w' v x := fun v x h => h.mono (fun _ _ => rfl) (fun _ h => h) hk
  refine ⟨⟨hm.low, fun p hp hn => ?_, hm.emp, hm.inj, hm.nod, fun b hb => ?_, fun p hp => hmono _ _ (hm.glo p hp)⟩, hmono, fun A hA => ⟨fun i hi => hA i hi, fun _ _ => rfl, by rw [hh]; exact Nat.le_refl _, fun b _ _ => by rw [hh], fun p hp hn => .inl ⟨p, hp, hn, rfl⟩, hos⟩⟩
  · obtain ⟨o, ho, hb⟩ := hm.blk p hp hn
    exact ⟨o, by rw [hh]; exact ho, hb.mono (fun _ _ => rfl) (fun _ h => h) hk⟩
  · rw [hh]; exact hm.bar b hb

theorem aDraw_sound {P : Program} {Γ : List (Nat × AV)} {H : Hk} {B : Nat} (hH : HkOK P Γ B H) {ops : List Oper} {s : St} {K : St → Prop} (h : aDraw P Γ H ops s K) (hmix : P.follows .mixedOrders = true) (id : Nat)
    (X : Nat → Prop) (D : Nat → Prop) (ρ : Nat → Loc) (a : Act) (w : World) (hD : ∀ i, D i → i < B) (hs : SR Γ X ρ (dn D B s.nx) s a w) (hB : B ≤ s.nx) (Q : Exit → Act → World → Prop)
    (hQ : ∀ (s' : St) (ρ' : Nat → Loc) (a' : Act) (w' : World), K s' → B ≤ s'.nx → SR Γ X ρ' (dn D B s'.nx) s' a' w' → Ext D ρ s.mem w ρ' (dn D B s'.nx) s'.mem w' → Q .normal a' w') :
    (Code.region id ops.toArray true).wp P Q a w := by
  unfold aDraw at h
  split at h
  · rename_i hok
    have st := okDraw_sound hok
    refine wp_region_any hmix ?_
    obtain ⟨m1, mono1, ext1⟩ := hs.mr.same (w' := { w with drawn := w.drawn + 1 }) rfl ⟨rfl, rfl⟩
    have hdn : ∀ id, dn D B s.nx id ↔ DN D B s.nx ops.length (fun _ => false) (s.nx + ops.length) id := by
      intro id
      constructor
      · rintro (h1 | h1)
        · exact .inl h1
        · exact .inr (.inl h1)
      · rintro (h1 | h1 | ⟨k, _, _, h3⟩ | ⟨h1, h2⟩)
        · exact .inl h1
        · exact .inr h1
        · cases h3
        · omega
    have hlow : ∀ p ∈ s.mem, p.1 < s.nx := fun p hp => dn_lt hD hB _ (hs.mr.low p hp)
    have hmem : memC (fun _ => false) s.nx ops.length s.mem = s.mem := by
      unfold memC
      refine List.filter_eq_self.2 fun p hp => keepC_iff.2 fun h' => ?_
      have := hlow p hp
      omega
    obtain ⟨m2, mono2, ext2⟩ := m1.widen (fun id h => (hdn id).1 h)
    have hsize : ops.toArray.size = ops.length := by simp
    refine Inv.main st hH hD hB Q (ρ0 := ρ) (s0 := s) (w0 := w) hQ ops.toArray.size _ (fun _ => false) [] (eager P ops ops.length [] (upto ops.length)) [] { s with nx := s.nx + ops.length } ρ a _ ?_ (by simp) (fun k hk => by simp [hk]) ?_
    · rw [hsize]
      have : ∀ n, unl (fun _ => false) n = n := by
        intro n
        induction n with
        | zero => rfl
        | succ n ih => simp [unl, ih]
      rw [this]
      exact Nat.le_refl _
    · refine ⟨by simp, h, (fun i hi => by cases hi), (fun i hi => by simp at hi), (fun i o hi => by cases hi), Nat.le_refl _, rfl, ?_, hs.mr.nod, fun p hp => ?_, hs.def0, hs.size, (fun i o d v hi => by cases hi), fun t v _ hl => ?_, fun t _ => rfl, (fun i hi => by simp at hi), fun p hp h1 h2 => ?_, ?_⟩
      · simp only; rw [hmem]; exact m2
      · have := hlow p hp; simp only; omega
      · simp only; rw [hmem]; exact mono2 _ _ (mono1 _ _ (hs.slot t v hl))
      · have := hlow p hp; omega
      · simp only; rw [hmem]; exact (ext1 D fun i hi => .inl hi).trans (ext2 D fun i hi => .inl hi)
  · exact h.elim
end Go.Ax
