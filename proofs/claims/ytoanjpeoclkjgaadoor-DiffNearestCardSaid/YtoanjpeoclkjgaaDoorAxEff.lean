/- The operations that make or change memory of one's own. -/
import Derived.Test.YtoanjpeoclkjgaaDoorAxPure5
namespace Go.Ax
open Go
set_option linter.unusedVariables false

def setL (ρ : Nat → Loc) (n : Nat) (l : Loc) : Nat → Loc := fun i => if i = n then l else ρ i

theorem setL_same (ρ : Nat → Loc) (n : Nat) (l : Loc) : setL ρ n l n = l := by simp [setL]
theorem setL_ne (ρ : Nat → Loc) (n : Nat) (l : Loc) {i : Nat} (h : i ≠ n) : setL ρ n l i = ρ i := by simp [setL, h]

/-- A row of cells holds a list of elements. -/
def RowR (ρ : Nat → Loc) (D : Nat → Prop) (O : Nat → Prop) (w : World) (sz : Nat) (arr : Array Value) (xs : List AV) : Prop :=
  xs.length * sz ≤ arr.size ∧ ∀ (i : Nat) (x : AV), xs[i]? = some x → x.cells.length = sz ∧
    ∀ (j : Nat) (c : AV), x.cells[j]? = some c → ∃ v, arr[i * sz + j]? = some v ∧ v.oneCell' = true ∧ VR ρ D O w c v

section
variable {P : Program} {Γ : List (Nat × AV)} {X : Nat → Prop} {ρ : Nat → Loc} {D : Nat → Prop} {O : Nat → Prop} {mem : Mem} {w w' : World}

theorem own_lt (hm : MR Γ X ρ D mem w) {b : Nat} (h : OX X ρ mem b) : b < w.heap.size := by
  rcases h with h | ⟨p, hp, hn, rfl⟩
  · exact (hm.bar b h).1
  · obtain ⟨o, ho, _⟩ := hm.blk p hp hn
    rcases Nat.lt_or_ge (ρ p.1).b w.heap.size with h | h
    · exact h
    · rw [Array.getElem?_eq_none h] at ho; cases ho

/-- A new block. -/
theorem MR.alloc {n : Nat} {D' : Nat → Prop} (hn0 : ¬ D n) (hD : ∀ i, D i → D' i) (hDn : D' n) (hm : MR Γ X ρ D mem w) {t : TypeId} {xs : List AV} {arr : Array Value} {sz : Nat} {fr : Nat × Nat} (hw : w'.heap = w.heap.push (.cells arr t fr)) (hos : w'.os = w.os ∧ w'.output = w.output)
    (hfr : ∀ j, j < arr.size → ¬ (fr.1 ≤ j ∧ j < fr.2)) (hr : RowR ρ D (OX X ρ mem) w sz arr xs) (hsz : arr.size = 0 → xs = []) :
    MR Γ X (setL ρ n ⟨w.heap.size, arr.size, sz⟩) D' ((n, .row t sz xs) :: mem) w' ∧
    (∀ v x, VR ρ D (OX X ρ mem) w v x → VR (setL ρ n ⟨w.heap.size, arr.size, sz⟩) D' (OX X (setL ρ n ⟨w.heap.size, arr.size, sz⟩) ((n, .row t sz xs) :: mem)) w' v x) ∧
    (∀ A : Nat → Prop, (∀ i, A i → D i) → Ext A ρ mem w (setL ρ n ⟨w.heap.size, arr.size, sz⟩) D' ((n, .row t sz xs) :: mem) w') := by
  have hne : ∀ p ∈ mem, p.1 ≠ n := fun p hp e => hn0 (e ▸ hm.low p hp)
  have hρ : ∀ id, D id → setL ρ n ⟨w.heap.size, arr.size, sz⟩ id = ρ id := fun id h => setL_ne _ _ _ (fun e => hn0 (e ▸ h))
  have hρm : ∀ p ∈ mem, setL ρ n ⟨w.heap.size, arr.size, sz⟩ p.1 = ρ p.1 := fun p hp => hρ _ (hm.low p hp)
  have hheap : ∀ b, b < w.heap.size → w'.heap[b]? = w.heap[b]? := fun b hb => by rw [hw, Array.getElem?_push]; simp [Nat.ne_of_lt hb]
  have hnew : w'.heap[w.heap.size]? = some (.cells arr t fr) := by rw [hw]; simp
  have hsize : w'.heap.size = w.heap.size + 1 := by rw [hw]; simp
  have hk : ∀ b, b < w.heap.size → ¬ OX X ρ mem b → ¬ OX X (setL ρ n ⟨w.heap.size, arr.size, sz⟩) ((n, .row t sz xs) :: mem) b ∧ w'.heap[b]? = w.heap[b]? := by
    intro b hb ho
    refine ⟨?_, hheap b hb⟩
    rintro (h | ⟨p, hp, hn, e⟩)
    · exact ho (.inl h)
    · rcases List.mem_cons.1 hp with rfl | hp
      · rw [setL_same] at e; simp at e; omega
      · rw [hρm p hp] at e hn; exact ho (.inr ⟨p, hp, hn, e⟩)
  have hmono : ∀ v x, VR ρ D (OX X ρ mem) w v x → VR (setL ρ n ⟨w.heap.size, arr.size, sz⟩) D' (OX X (setL ρ n ⟨w.heap.size, arr.size, sz⟩) ((n, .row t sz xs) :: mem)) w' v x :=
    fun v x h => h.mono hρ hD hk
  refine ⟨⟨?_, ?_, ?_, ?_, ?_, ?_, ?_⟩, hmono, fun B hB => ⟨fun i hi => hD i (hB i hi), fun id h => hρ id (hB id h), by omega, fun b hb _ => hheap b hb, ?_, hos⟩⟩
  · intro p hp
    rcases List.mem_cons.1 hp with rfl | hp
    · exact hDn
    · exact hD _ (hm.low p hp)
  · intro p hp hn
    rcases List.mem_cons.1 hp with rfl | hp
    · rw [setL_same]
      exact ⟨_, hnew, rfl, arr, fr, rfl, hfr, rfl, hr.1, fun i x hi => ⟨(hr.2 i x hi).1, fun j c hj => by
        obtain ⟨v, hv, h1, h⟩ := (hr.2 i x hi).2 j c hj
        exact ⟨v, hv, h1, hmono _ _ h⟩⟩⟩
    · rw [hρm p hp] at hn ⊢
      obtain ⟨o, ho, hb⟩ := hm.blk p hp hn
      have hlt := own_lt hm (.inr ⟨p, hp, hn, rfl⟩)
      exact ⟨o, by rw [hheap _ hlt]; exact ho, hb.mono hρ hD hk⟩
  · intro p hp hn
    rcases List.mem_cons.1 hp with rfl | hp
    · rw [setL_same] at hn ⊢; exact ⟨t, sz, by rw [hsz hn], rfl⟩
    · rw [hρm p hp] at hn ⊢; exact hm.emp p hp hn
  · intro p hp q hq hpn hqn e
    rcases List.mem_cons.1 hp with rfl | hp <;> rcases List.mem_cons.1 hq with rfl | hq
    · rfl
    · rw [hρm q hq] at e hqn
      rw [setL_same] at e
      have := own_lt hm (.inr ⟨q, hq, hqn, rfl⟩)
      simp at e; omega
    · rw [hρm p hp] at e hpn
      rw [setL_same] at e
      have := own_lt hm (.inr ⟨p, hp, hpn, rfl⟩)
      simp at e; omega
    · rw [hρm p hp] at e hpn
      rw [hρm q hq] at e hqn
      exact hm.inj p hp q hq hpn hqn e
  · simp only [List.map_cons, List.nodup_cons]
    refine ⟨fun h => ?_, hm.nod⟩
    obtain ⟨p, hp, e⟩ := List.mem_map.1 h
    exact hne p hp e
  · intro b hb
    obtain ⟨h1, h2⟩ := hm.bar b hb
    refine ⟨by omega, ?_⟩
    rintro ⟨p, hp, hn, e⟩
    rcases List.mem_cons.1 hp with rfl | hp
    · rw [setL_same] at e; simp at e; omega
    · rw [hρm p hp] at e hn; exact h2 ⟨p, hp, hn, e⟩
  · exact fun p hp => hmono _ _ (hm.glo p hp)
  · intro p hp hn
    rcases List.mem_cons.1 hp with rfl | hp
    · rw [setL_same]; exact .inr (Nat.le_refl _)
    · rw [hρm p hp] at hn ⊢; exact .inl ⟨p, hp, hn, rfl⟩

theorem up_keys : ∀ {m : Mem} {id : Nat} {a b : AB}, lk m id = some a → (up m id b).map (·.1) = m.map (·.1)
  | (k, u) :: r, id, a, b, h => by
    simp only [lk] at h
    simp only [up]
    split at h
    · rfl
    · simp [up_keys h]

theorem mem_up : ∀ {m : Mem} {id : Nat} {a b : AB} (_ : lk m id = some a) (_ : (m.map (·.1)).Nodup) {p : Nat × AB}, p ∈ up m id b → p = (id, b) ∨ (p ∈ m ∧ p.1 ≠ id)
  | (k, u) :: r, id, a, b, h, hn, p, hp => by
    simp only [lk] at h
    simp only [up] at hp
    simp only [List.map_cons, List.nodup_cons] at hn
    cases hk : Nat.beq k id with
    | true =>
      rw [hk] at hp
      have hk := Nat.eq_of_beq_eq_true hk
      subst hk
      rcases List.mem_cons.1 hp with rfl | hp
      · exact .inl rfl
      · refine .inr ⟨List.mem_cons_of_mem _ hp, fun e => hn.1 (List.mem_map.2 ⟨p, hp, e⟩)⟩
    | false =>
      rw [hk] at hp h
      rcases List.mem_cons.1 hp with rfl | hp
      · exact .inr ⟨List.mem_cons_self .., Nat.ne_of_beq_eq_false hk⟩
      · rcases mem_up h hn.2 hp with h1 | ⟨h1, h2⟩
        · exact .inl h1
        · exact .inr ⟨List.mem_cons_of_mem _ h1, h2⟩

theorem up_mem {m : Mem} {id : Nat} {b : AB} {p : Nat × AB} (hp : p ∈ m) : ∃ q ∈ up m id b, q.1 = p.1 := by
  induction m with
  | nil => cases hp
  | cons x r ih =>
    obtain ⟨k, u⟩ := x
    simp only [up]
    cases hk : Nat.beq k id with
    | true =>
      rcases List.mem_cons.1 hp with rfl | hp
      · exact ⟨(k, b), List.mem_cons_self .., rfl⟩
      · exact ⟨p, List.mem_cons_of_mem _ hp, rfl⟩
    | false =>
      rcases List.mem_cons.1 hp with rfl | hp
      · exact ⟨(k, u), List.mem_cons_self .., rfl⟩
      · obtain ⟨q, hq, e⟩ := ih hp
        exact ⟨q, List.mem_cons_of_mem _ hq, e⟩

/-- A block of one's own gets other cells. -/
theorem MR.change (hm : MR Γ X ρ D mem w) {id : Nat} {t : TypeId} {sz : Nat} {xs xs' : List AV} (hid : lk mem id = some (.row t sz xs)) (hn : 0 < (ρ id).n) {arr : Array Value} {fr : Nat × Nat}
    (hw : w'.heap = w.heap.setIfInBounds (ρ id).b (.cells arr t fr)) (hos : w'.os = w.os ∧ w'.output = w.output) (hfr : ∀ j, j < arr.size → ¬ (fr.1 ≤ j ∧ j < fr.2)) (hsize : arr.size = (ρ id).n)
    (hr : RowR ρ D (OX X ρ mem) w sz arr xs') :
    MR Γ X ρ D (up mem id (.row t sz xs')) w' ∧
    (∀ v x, VR ρ D (OX X ρ mem) w v x → VR ρ D (OX X ρ (up mem id (.row t sz xs'))) w' v x) ∧
    (∀ A : Nat → Prop, (∀ i, A i → D i) → Ext A ρ mem w ρ D (up mem id (.row t sz xs')) w') := by
  have hidm := lk_mem hid
  have hszr : (ρ id).sz = sz := row_sz hm hid
  have hlt := own_lt hm (.inr ⟨_, hidm, hn, rfl⟩)
  have hheap : ∀ b, b ≠ (ρ id).b → w'.heap[b]? = w.heap[b]? := fun b hb => by rw [hw, Array.getElem?_setIfInBounds_ne (Ne.symm hb)]
  have hnew : w'.heap[(ρ id).b]? = some (.cells arr t fr) := by rw [hw]; simp [hlt]
  have hsz : w'.heap.size = w.heap.size := by rw [hw]; simp
  have hown : ∀ b, own ρ (up mem id (.row t sz xs')) b → own ρ mem b := by
    rintro b ⟨p, hp, hpn, e⟩
    rcases mem_up hid hm.nod hp with rfl | ⟨h1, _⟩
    · exact ⟨_, hidm, hpn, e⟩
    · exact ⟨p, h1, hpn, e⟩
  have hOX : ∀ b, OX X ρ (up mem id (.row t sz xs')) b → OX X ρ mem b := fun b h => h.imp (fun x => x) (hown b)
  have hk : ∀ b, b < w.heap.size → ¬ OX X ρ mem b → ¬ OX X ρ (up mem id (.row t sz xs')) b ∧ w'.heap[b]? = w.heap[b]? := by
    intro b hb ho
    refine ⟨fun h => ho (hOX b h), hheap b ?_⟩
    rintro rfl
    exact ho (.inr ⟨_, hidm, hn, rfl⟩)
  have hmono : ∀ v x, VR ρ D (OX X ρ mem) w v x → VR ρ D (OX X ρ (up mem id (.row t sz xs'))) w' v x := fun v x h => h.mono (fun _ _ => rfl) (fun _ h => h) hk
  refine ⟨⟨?_, ?_, ?_, ?_, ?_, ?_, ?_⟩, hmono, fun B hB => ⟨hB, fun _ _ => rfl, by omega, fun b hb ho => hheap b ?_, ?_, hos⟩⟩
  · intro p hp
    rcases mem_up hid hm.nod hp with rfl | ⟨h1, _⟩
    · exact (hm.low _ hidm :)
    · exact hm.low p h1
  · intro p hp hpn
    rcases mem_up hid hm.nod hp with rfl | ⟨h1, hne⟩
    · refine ⟨_, hnew, hszr, arr, fr, rfl, hfr, hsize, by rw [← hsize, hszr]; exact hr.1, fun i x hi => ⟨by rw [hszr]; exact (hr.2 i x hi).1, fun j c hj => by
        rw [hszr]
        obtain ⟨v, hv, h1, h⟩ := (hr.2 i x hi).2 j c hj
        exact ⟨v, hv, h1, hmono _ _ h⟩⟩⟩
    · obtain ⟨o, ho, hb⟩ := hm.blk p h1 hpn
      refine ⟨o, ?_, hb.mono (fun _ _ => rfl) (fun _ h => h) hk⟩
      rw [hheap _ (fun e => hne (hm.inj p h1 _ hidm hpn hn e))]
      exact ho
  · intro p hp hpn
    rcases mem_up hid hm.nod hp with rfl | ⟨h1, hne⟩
    · exact absurd hpn (Nat.ne_of_gt hn)
    · exact hm.emp p h1 hpn
  · intro p hp q hq hpn hqn e
    have a : ∀ p ∈ up mem id (.row t sz xs'), ∃ p' ∈ mem, p'.1 = p.1 := by
      intro p hp
      rcases mem_up hid hm.nod hp with rfl | ⟨h1, _⟩
      · exact ⟨_, hidm, rfl⟩
      · exact ⟨p, h1, rfl⟩
    obtain ⟨p', hp', e1⟩ := a p hp
    obtain ⟨q', hq', e2⟩ := a q hq
    rw [← e1, ← e2] at e ⊢
    rw [← e1] at hpn
    rw [← e2] at hqn
    exact hm.inj p' hp' q' hq' hpn hqn e
  · rw [up_keys hid]; exact hm.nod
  · intro b hb
    obtain ⟨h1, h2⟩ := hm.bar b hb
    exact ⟨by omega, fun h => h2 (hown b h)⟩
  · exact fun p hp => hmono _ _ (hm.glo p hp)
  · rintro rfl
    exact ho ⟨_, hidm, hn, rfl⟩
  · intro p hp hpn
    refine .inl ?_
    rcases mem_up hid hm.nod hp with rfl | ⟨h1, _⟩
    · exact ⟨_, hidm, hpn, rfl⟩
    · exact ⟨p, h1, hpn, rfl⟩

/-- Forgetting a block: it is nobody's own any more. -/
def drop (id : Nat) : Mem → Mem
  | [] => []
  | (k, u) :: r => match Nat.beq k id with
    | true => r
    | false => (k, u) :: drop id r

theorem mem_drop : ∀ {m : Mem} {id : Nat} {p : Nat × AB}, p ∈ drop id m → p ∈ m
  | (k, u) :: r, id, p, hp => by
    simp only [drop] at hp
    split at hp
    · exact List.mem_cons_of_mem _ hp
    · rcases List.mem_cons.1 hp with rfl | hp
      · exact List.mem_cons_self ..
      · exact List.mem_cons_of_mem _ (mem_drop hp)

theorem drop_ne : ∀ {m : Mem} {id : Nat} (_ : (m.map (·.1)).Nodup) {p : Nat × AB}, p ∈ drop id m → p.1 ≠ id
  | (k, u) :: r, id, hn, p, hp => by
    simp only [List.map_cons, List.nodup_cons] at hn
    simp only [drop] at hp
    split at hp
    · rename_i hk
      have hk := Nat.eq_of_beq_eq_true hk
      subst hk
      exact fun e => hn.1 (List.mem_map.2 ⟨p, hp, e⟩)
    · rename_i hk
      rcases List.mem_cons.1 hp with rfl | hp
      · exact Nat.ne_of_beq_eq_false hk
      · exact drop_ne hn.2 hp

theorem drop_nodup : ∀ {m : Mem} {id : Nat} (_ : (m.map (·.1)).Nodup), ((drop id m).map (·.1)).Nodup
  | [], id, hn => by simp [drop]
  | (k, u) :: r, id, hn => by
    simp only [List.map_cons, List.nodup_cons] at hn
    simp only [drop]
    split
    · exact hn.2
    · simp only [List.map_cons, List.nodup_cons]
      refine ⟨fun h => hn.1 ?_, drop_nodup hn.2⟩
      obtain ⟨p, hp, e⟩ := List.mem_map.1 h
      exact List.mem_map.2 ⟨p, mem_drop hp, e⟩

/-- More names. -/
theorem MR.widen {D' : Nat → Prop} (hm : MR Γ X ρ D mem w) (hD : ∀ i, D i → D' i) :
    MR Γ X ρ D' mem w ∧ (∀ v x, VR ρ D (OX X ρ mem) w v x → VR ρ D' (OX X ρ mem) w v x) ∧ (∀ A : Nat → Prop, (∀ i, A i → D i) → Ext A ρ mem w ρ D' mem w) := by
  have hk : ∀ b, b < w.heap.size → ¬ OX X ρ mem b → ¬ OX X ρ mem b ∧ w.heap[b]? = w.heap[b]? := fun b _ ho => ⟨ho, rfl⟩
  have hmono : ∀ v x, VR ρ D (OX X ρ mem) w v x → VR ρ D' (OX X ρ mem) w v x := fun v x h => h.mono (fun _ _ => rfl) hD hk
  refine ⟨⟨fun p hp => hD _ (hm.low p hp), fun p hp hn => ?_, hm.emp, hm.inj, hm.nod, hm.bar, fun p hp => hmono _ _ (hm.glo p hp)⟩, hmono, fun B hB => Ext.refl fun i hi => hD i (hB i hi)⟩
  obtain ⟨o, ho, hb⟩ := hm.blk p hp hn
  exact ⟨o, ho, hb.mono (fun _ _ => rfl) hD hk⟩

/-- A smaller memory. -/
theorem MR.less (hm : MR Γ X ρ D mem w) {mem' : Mem} (hsub : ∀ p ∈ mem', p ∈ mem) (hnod : (mem'.map (·.1)).Nodup) :
    MR Γ X ρ D mem' w ∧ (∀ v x, VR ρ D (OX X ρ mem) w v x → VR ρ D (OX X ρ mem') w v x) ∧ (∀ A : Nat → Prop, (∀ i, A i → D i) → Ext A ρ mem w ρ D mem' w) := by
  have hown : ∀ b, own ρ mem' b → own ρ mem b := fun b ⟨p, hp, hn, e⟩ => ⟨p, hsub p hp, hn, e⟩
  have hk : ∀ b, b < w.heap.size → ¬ OX X ρ mem b → ¬ OX X ρ mem' b ∧ w.heap[b]? = w.heap[b]? := fun b _ ho => ⟨fun h => ho (h.imp (fun x => x) (hown b)), rfl⟩
  have hmono : ∀ v x, VR ρ D (OX X ρ mem) w v x → VR ρ D (OX X ρ mem') w v x := fun v x h => h.mono (fun _ _ => rfl) (fun _ h => h) hk
  refine ⟨⟨fun p hp => hm.low p (hsub p hp), fun p hp hn => ?_, fun p hp hn => hm.emp p (hsub p hp) hn, fun p hp q hq => hm.inj p (hsub p hp) q (hsub q hq), hnod,
    fun b hb => ⟨(hm.bar b hb).1, fun h => (hm.bar b hb).2 (hown b h)⟩, fun p hp => hmono _ _ (hm.glo p hp)⟩, hmono,
    fun B hB => ⟨hB, fun _ _ => rfl, Nat.le_refl _, fun _ _ _ => rfl, fun p hp hn => .inl ⟨p, hsub p hp, hn, rfl⟩, rfl, rfl⟩⟩
  obtain ⟨o, ho, hb⟩ := hm.blk p (hsub p hp) hn
  exact ⟨o, ho, hb.mono (fun _ _ => rfl) (fun _ h => h) hk⟩
end
end Go.Ax
