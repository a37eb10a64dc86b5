/- Conversion of states: names turned, blocks forgotten, blocks made immutable. -/
import Derived.Test.YtoanjpeoclkjgaaDoorAxFrame
namespace Go.Ax
open Go
set_option linter.unusedVariables false

/-- No own names within. -/
inductive NN : AV → Prop
  | bool (b : Bool) : NN (.bool b)
  | int (k : IntKind) (n : Int) : NN (.int k n)
  | str (s : List UInt8) : NN (.str s)
  | nptr : NN .nptr
  | nsl : NN .nsl
  | nmap : NN .nmap
  | nfn : NN .nfn
  | nif : NN .nif
  | junk : NN .junk
  | ip (v : AV) : (∀ (j : Nat) (c : AV), v.cells[j]? = some c → NN c) → NN (.ip v)
  | il (sz : Nat) (xs : List AV) : (∀ (i : Nat) (x : AV) (j : Nat) (c : AV), xs[i]? = some x → x.cells[j]? = some c → NN c) → NN (.il sz xs)
  | fn (f : Fn) (a b : List AV) : (∀ (j : Nat) (c : AV), a[j]? = some c → NN c) → (∀ (j : Nat) (c : AV), b[j]? = some c → NN c) → NN (.fn f a b)
  | ifc (t : TypeId) (v : AV) : NN v → NN (.ifc t v)
  | agg (cs : List AV) : (∀ (j : Nat) (c : AV), cs[j]? = some c → NN c) → NN (.agg cs)
  | tup (cs : List AV) : (∀ (j : Nat) (c : AV), cs[j]? = some c → NN c) → NN (.tup cs)

theorem NN.vr {ρ ρ' : Nat → Loc} {D D' O O' : Nat → Prop} {w : World} {v : AV} {x : Value} (h : VR ρ D O w v x) (hO : ∀ b, b < w.heap.size → ¬ O b → ¬ O' b) (hn : NN v) : VR ρ' D' O' w v x := by
  induction h with
  | bool => exact .bool _
  | int => exact .int _ _
  | str => exact .str _
  | nptr => exact .nptr
  | nsl => exact .nsl
  | nmap => exact .nmap
  | nfn => exact .nfn
  | nif => exact .nif
  | ptr id i j hid => cases hn
  | sl id off len cap hid h1 h2 => cases hn
  | slz id off b o hid => cases hn
  | slzn id off hid => cases hn
  | mp id hid => cases hn
  | ip v b off f h1 _ ih =>
    cases hn with
    | ip _ hn =>
      refine .ip v b off f (fun j c hj => ?_) fun j c hj => ih j c hj (hn j c hj)
      obtain ⟨ho, hc, hone⟩ := h1 j c hj
      exact ⟨hO b (cell_lt hc) ho, hc, hone⟩
  | il sz xs b off cap f hl hs h1 _ ih =>
    cases hn with
    | il _ _ hn =>
      refine .il sz xs b off cap f hl hs (fun i x j c hi hj => ?_) fun i x j c hi hj => ih i x j c hi hj (hn i x j c hi hj)
      obtain ⟨ho, hc, hone⟩ := h1 i x j c hi hj
      exact ⟨hO b (cell_lt hc) ho, hc, hone⟩
  | iln => exact .iln _
  | fn f first cap a1 a2 l1 l2 _ _ ih1 ih2 =>
    cases hn with
    | fn _ _ _ n1 n2 => exact .fn f first cap a1 a2 l1 l2 (fun j c x h1 h2 => ih1 j c x h1 h2 (n1 j c h1)) (fun j c x h1 h2 => ih2 j c x h1 h2 (n2 j c h1))
  | ifc t v x _ ih => cases hn with | ifc _ _ hn => exact .ifc t v x (ih hn)
  | agg cs arr hl ho _ ih => cases hn with | agg _ hn => exact .agg cs arr hl ho fun j c x h1 h2 => ih j c x h1 h2 (hn j c h1)
  | tup cs arr hl _ ih => cases hn with | tup _ hn => exact .tup cs arr hl fun j c x h1 h2 => ih j c x h1 h2 (hn j c h1)
  | junk x => exact .junk x

/-- A value as seen after a change of names: 'σ' says which names are kept, and how they are called. -/
inductive Cv (mem : Mem) (σ : List (Nat × Nat)) : AV → AV → Prop
  | same (v : AV) : NN v → Cv mem σ v v
  | junk (v : AV) : Cv mem σ v .junk
  | nil (sz : Nat) : Cv mem σ .nsl (.il sz [])
  | nslk (id id' : Nat) (a : AB) : lk mem id = some a → lk σ id = some id' → Cv mem σ .nsl (.sl id' 0 0)
  | ptr (id id' i j : Nat) : lk σ id = some id' → Cv mem σ (.ptr id i j) (.ptr id' i j)
  | sl (id id' off len : Nat) : lk σ id = some id' → Cv mem σ (.sl id off len) (.sl id' off len)
  | fz (id off len : Nat) (t : TypeId) (sz : Nat) (xs ys : List AV) : lk mem id = some (.row t sz xs) → lk σ id = none → off + len ≤ xs.length → ys.length = len →
      (∀ (i : Nat) (x y : AV), xs[off + i]? = some x → ys[i]? = some y → x.cells.length = y.cells.length) →
      (∀ (i : Nat) (x y : AV) (j : Nat) (c c' : AV), xs[off + i]? = some x → ys[i]? = some y → x.cells[j]? = some c → y.cells[j]? = some c' → Cv mem σ c c') →
      Cv mem σ (.sl id off len) (.il sz ys)
  | fzp (id i j : Nat) (t : TypeId) (sz : Nat) (xs : List AV) (x v : AV) : lk mem id = some (.row t sz xs) → lk σ id = none → xs[i]? = some x → j + v.cells.length ≤ x.cells.length →
      (∀ (k : Nat) (c c' : AV), x.cells[j + k]? = some c → v.cells[k]? = some c' → Cv mem σ c c') → Cv mem σ (.ptr id i j) (.ip v)
  | ip (u v : AV) : v.cells.length ≤ u.cells.length → (∀ (j : Nat) (c c' : AV), u.cells[j]? = some c → v.cells[j]? = some c' → Cv mem σ c c') → Cv mem σ (.ip u) (.ip v)
  | il (sz : Nat) (xs ys : List AV) : xs.length = ys.length →
      (∀ (i : Nat) (x y : AV), xs[i]? = some x → ys[i]? = some y → x.cells.length = y.cells.length) →
      (∀ (i : Nat) (x y : AV) (j : Nat) (c c' : AV), xs[i]? = some x → ys[i]? = some y → x.cells[j]? = some c → y.cells[j]? = some c' → Cv mem σ c c') → Cv mem σ (.il sz xs) (.il sz ys)
  | fn (f : Fn) (a a' b b' : List AV) : a.length = a'.length → b.length = b'.length → (∀ (j : Nat) (c c' : AV), a[j]? = some c → a'[j]? = some c' → Cv mem σ c c') →
      (∀ (j : Nat) (c c' : AV), b[j]? = some c → b'[j]? = some c' → Cv mem σ c c') → Cv mem σ (.fn f a b) (.fn f a' b')
  | ifc (t : TypeId) (v v' : AV) : Cv mem σ v v' → Cv mem σ (.ifc t v) (.ifc t v')
  | agg (cs cs' : List AV) : cs.length = cs'.length → (∀ (j : Nat) (c c' : AV), cs[j]? = some c → cs'[j]? = some c' → Cv mem σ c c') → Cv mem σ (.agg cs) (.agg cs')
  | tup (cs cs' : List AV) : cs.length = cs'.length → (∀ (j : Nat) (c c' : AV), cs[j]? = some c → cs'[j]? = some c' → Cv mem σ c c') → Cv mem σ (.tup cs) (.tup cs')

theorem get_of_len {α β : Type} {xs : List α} {ys : List β} (h : xs.length = ys.length) {i : Nat} {y : β} (hy : ys[i]? = some y) : ∃ x, xs[i]? = some x := by
  have : i < ys.length := by
    rcases Nat.lt_or_ge i ys.length with h' | h'
    · exact h'
    · rw [List.getElem?_eq_none h'] at hy; cases hy
  exact ⟨xs[i], by simp [h, this]⟩

theorem get_of_le {α β : Type} {xs : List α} {ys : List β} (k : Nat) (h : k + ys.length ≤ xs.length) {i : Nat} {y : β} (hy : ys[i]? = some y) : ∃ x, xs[k + i]? = some x := by
  have : i < ys.length := by
    rcases Nat.lt_or_ge i ys.length with h' | h'
    · exact h'
    · rw [List.getElem?_eq_none h'] at hy; cases hy
  exact ⟨xs[k + i], by simp⟩

section
variable {Γ : List (Nat × AV)} {X : Nat → Prop} {ρ ρ' : Nat → Loc} {D D' : Nat → Prop} {mem mem' : Mem} {w w' : World} {σ : List (Nat × Nat)}

theorem Cv.vr {O' : Nat → Prop} (hm : MR Γ X ρ D mem w) (hσ : ∀ id id', lk σ id = some id' → D id → D' id' ∧ ρ' id' = ρ id) (hO : ∀ b, b < w.heap.size → ¬ OX X ρ mem b → ¬ O' b)
    (hfz : ∀ p ∈ mem, lk σ p.1 = none → 0 < (ρ p.1).n → ¬ O' (ρ p.1).b) {v v' : AV} (hc : Cv mem σ v v') : ∀ x, VR ρ D (OX X ρ mem) w v x → VR ρ' D' O' w v' x := by
  have hpos : ∀ {id : Nat} {t : TypeId} {sz : Nat} {xs : List AV} {i : Nat} {x : AV}, lk mem id = some (.row t sz xs) → xs[i]? = some x → 0 < (ρ id).n := by
    intro id t sz xs i x hid hx
    rcases Nat.eq_zero_or_pos (ρ id).n with h | h
    · obtain ⟨t', sz', e, _⟩ := hm.emp _ (lk_mem hid) h
      cases e
      simp at hx
    · exact h
  induction hc with
  | same v hn => exact fun x h => hn.vr h hO
  | junk v => exact fun x h => .junk x
  | nil sz => intro x h; cases h; exact .iln sz
  | nslk id id' a h1 h2 => intro x h; cases h; exact .slzn id' 0 (hσ id id' h2 (hm.low _ (lk_mem h1))).1
  | ptr id id' i j h =>
    intro x hx
    cases hx with
    | ptr _ _ _ hid =>
      obtain ⟨h1, h2⟩ := hσ id id' h hid
      rw [← h2]
      exact .ptr id' i j h1
  | sl id id' off len h =>
    intro x hx
    cases hx with
    | sl _ _ _ cap hid h3 h4 =>
      obtain ⟨h1, h2⟩ := hσ id id' h hid
      rw [← h2] at h4 ⊢
      exact .sl id' off len cap h1 h3 h4
    | slz _ _ b o hid => exact .slz id' off b o (hσ id id' h hid).1
    | slzn _ _ hid => exact .slzn id' off (hσ id id' h hid).1
  | fz id off len t sz xs ys hid hno hlen hys hcl hcs ih =>
    intro x hx
    have hsz : (ρ id).sz = sz := by
      rcases Nat.eq_zero_or_pos (ρ id).n with h | h
      · obtain ⟨t', sz', e, h'⟩ := hm.emp _ (lk_mem hid) h
        cases e
        exact h'
      · obtain ⟨o, ho, h', _⟩ := hm.blk _ (lk_mem hid) h
        exact h'
    cases hx with
    | sl _ _ _ cap hD h1 h2 =>
      subst hys
      rw [hsz] at h2 ⊢
      refine .il sz ys _ _ cap (fun i j => (w.cell? ⟨(ρ id).b, off * sz + (i * sz + j), none⟩).getD undef) h1 (fun i y hy => ?_) (fun i y j c' hy hc' => ?_) (fun i y j c' hy hc' => ?_)
      · obtain ⟨x, hx⟩ := get_of_le off hlen hy
        rw [← hcl i x y hx hy, (own_cells hm hid hx).1, hsz]
      · obtain ⟨x, hx⟩ := get_of_le off hlen hy
        obtain ⟨c, hc⟩ := get_of_len (hcl i x y hx hy) hc'
        obtain ⟨v, hv, hone, _⟩ := (own_cells hm hid hx).2 j c hc
        rw [hsz, Nat.add_mul, Nat.add_assoc] at hv
        exact ⟨hfz _ (lk_mem hid) hno (hpos hid hx), by rw [hv]; rfl, by rw [hv]; exact hone⟩
      · obtain ⟨x, hx⟩ := get_of_le off hlen hy
        obtain ⟨c, hc⟩ := get_of_len (hcl i x y hx hy) hc'
        obtain ⟨v, hv, hone, hr⟩ := (own_cells hm hid hx).2 j c hc
        rw [hsz, Nat.add_mul, Nat.add_assoc] at hv
        rw [hv]
        exact ih i x y j c c' hx hy hc hc' _ hr
    | slz _ _ b o hD =>
      have : ys = [] := List.eq_nil_of_length_eq_zero hys
      subst this
      exact .il sz [] b o 0 (fun _ _ => undef) (Nat.le_refl _) (by simp) (by simp) (by simp)
    | slzn _ _ hD =>
      have : ys = [] := List.eq_nil_of_length_eq_zero hys
      subst this
      exact .iln sz
  | fzp id i j t sz xs x v hid hno hx hlen hcs ih =>
    intro y hy
    cases hy with
    | ptr _ _ _ hD =>
      refine .ip v _ _ (fun k => (w.cell? ⟨(ρ id).b, i * (ρ id).sz + j + k, none⟩).getD undef) (fun k c' hc' => ?_) (fun k c' hc' => ?_)
      · obtain ⟨c, hc⟩ := get_of_le j hlen hc'
        obtain ⟨u, hu, hone, _⟩ := (own_cells hm hid hx).2 _ c hc
        rw [← Nat.add_assoc] at hu
        exact ⟨hfz _ (lk_mem hid) hno (hpos hid hx), by rw [hu]; rfl, by rw [hu]; exact hone⟩
      · obtain ⟨c, hc⟩ := get_of_le j hlen hc'
        obtain ⟨u, hu, hone, hr⟩ := (own_cells hm hid hx).2 _ c hc
        rw [← Nat.add_assoc] at hu
        rw [hu]
        exact ih k c c' hc hc' _ hr
  | ip u v hlen hcs ih =>
    intro x hx
    cases hx with
    | ip _ b off f h1 h2 =>
      refine .ip v b off f (fun j c' hc' => ?_) (fun j c' hc' => ?_)
      · obtain ⟨c, hc⟩ := get_of_le 0 (by simpa using hlen) hc'
        rw [Nat.zero_add] at hc
        obtain ⟨ho, hc1, hone⟩ := h1 j c hc
        exact ⟨hO b (cell_lt hc1) ho, hc1, hone⟩
      · obtain ⟨c, hc⟩ := get_of_le 0 (by simpa using hlen) hc'
        rw [Nat.zero_add] at hc
        exact ih j c c' hc hc' _ (h2 j c hc)
  | il sz xs ys hlen hcl hcs ih =>
    intro x hx
    cases hx with
    | il _ _ b off cap f hl hs h1 h2 =>
      rw [hlen] at hl ⊢
      refine .il sz ys b off cap f hl (fun i y hy => ?_) (fun i y j c' hy hc' => ?_) (fun i y j c' hy hc' => ?_)
      · obtain ⟨x, hx⟩ := get_of_len hlen hy
        rw [← hcl i x y hx hy]
        exact hs i x hx
      · obtain ⟨x, hx⟩ := get_of_len hlen hy
        obtain ⟨c, hc⟩ := get_of_len (hcl i x y hx hy) hc'
        obtain ⟨ho, hc1, hone⟩ := h1 i x j c hx hc
        exact ⟨hO b (cell_lt hc1) ho, hc1, hone⟩
      · obtain ⟨x, hx⟩ := get_of_len hlen hy
        obtain ⟨c, hc⟩ := get_of_len (hcl i x y hx hy) hc'
        exact ih i x y j c c' hx hy hc hc' _ (h2 i x j c hx hc)
    | iln =>
      have : ys = [] := List.eq_nil_of_length_eq_zero (by simpa using hlen.symm)
      subst this
      exact .iln sz
  | fn f a a' b b' la lb ha hb iha ihb =>
    intro x hx
    cases hx with
    | fn _ _ _ a1 a2 l1 l2 r1 r2 =>
      refine .fn f a' b' a1 a2 (by omega) (by omega) (fun j c' y hc' hy => ?_) (fun j c' y hc' hy => ?_)
      · obtain ⟨c, hc⟩ := get_of_len la hc'
        exact iha j c c' hc hc' _ (r1 j c y hc hy)
      · obtain ⟨c, hc⟩ := get_of_len lb hc'
        exact ihb j c c' hc hc' _ (r2 j c y hc hy)
  | ifc t v v' h ih =>
    intro x hx
    cases hx with
    | ifc _ _ y hy => exact .ifc t v' y (ih _ hy)
  | agg cs cs' hl hcs ih =>
    intro x hx
    cases hx with
    | agg _ arr h1 h2 h3 =>
      refine .agg cs' arr (by omega) h2 fun j c' y hc' hy => ?_
      obtain ⟨c, hc⟩ := get_of_len hl hc'
      exact ih j c c' hc hc' _ (h3 j c y hc hy)
  | tup cs cs' hl hcs ih =>
    intro x hx
    cases hx with
    | tup _ arr h1 h3 =>
      refine .tup cs' arr (by omega) fun j c' y hc' hy => ?_
      obtain ⟨c, hc⟩ := get_of_len hl hc'
      exact ih j c c' hc hc' _ (h3 j c y hc hy)

/-- An element of a row as another. -/
def CvE (mem : Mem) (σ : List (Nat × Nat)) (x y : AV) : Prop :=
  x.cells.length = y.cells.length ∧ ∀ (j : Nat) (c c' : AV), x.cells[j]? = some c → y.cells[j]? = some c' → Cv mem σ c c'

/-- A row as another (the first elements of it). -/
def CvR (mem : Mem) (σ : List (Nat × Nat)) (xs ys : List AV) : Prop :=
  ys.length ≤ xs.length ∧ ∀ (i : Nat) (x y : AV), xs[i]? = some x → ys[i]? = some y → CvE mem σ x y

/-- A memory as another: each block of the new one is one of the old one. -/
def CvM (mem : Mem) (σ : List (Nat × Nat)) (mem' : Mem) : Prop :=
  ∀ p ∈ mem', ∃ id t sz xs ys, p.2 = .row t sz ys ∧ lk σ id = some p.1 ∧ lk mem id = some (.row t sz xs) ∧ CvR mem σ xs ys

/-- Different names stay different. -/
def Inj (σ : List (Nat × Nat)) : Prop := ∀ i j k, lk σ i = some k → lk σ j = some k → i = j

theorem MR.turn (hΓ : ∀ p ∈ Γ, NN p.2) (hm : MR Γ X ρ D mem w) (hσ : ∀ id id', lk σ id = some id' → D id → D' id' ∧ ρ' id' = ρ id) (hM : CvM mem σ mem') (hnod : (mem'.map (·.1)).Nodup) (hinj : Inj σ) :
    MR Γ X ρ' D' mem' w ∧ (∀ v v', Cv mem σ v v' → ∀ x, VR ρ D (OX X ρ mem) w v x → VR ρ' D' (OX X ρ' mem') w v' x) ∧ ∀ p ∈ mem', 0 < (ρ' p.1).n → own ρ mem (ρ' p.1).b := by
  have hp : ∀ p ∈ mem', ∃ id t sz xs ys, p.2 = .row t sz ys ∧ lk σ id = some p.1 ∧ lk mem id = some (.row t sz xs) ∧ CvR mem σ xs ys ∧ D' p.1 ∧ ρ' p.1 = ρ id ∧ D id := by
    intro p h
    obtain ⟨id, t, sz, xs, ys, h1, h2, h3, h4⟩ := hM p h
    have hD := hm.low _ (lk_mem h3)
    obtain ⟨h5, h6⟩ := hσ id p.1 h2 hD
    exact ⟨id, t, sz, xs, ys, h1, h2, h3, h4, h5, h6, hD⟩
  have hown : ∀ b, own ρ' mem' b → own ρ mem b := by
    rintro b ⟨p, h, hn, e⟩
    obtain ⟨id, t, sz, xs, ys, h1, h2, h3, h4, h5, h6, h7⟩ := hp p h
    rw [h6] at hn e
    exact ⟨_, lk_mem h3, hn, e⟩
  have hO : ∀ b, b < w.heap.size → ¬ OX X ρ mem b → ¬ OX X ρ' mem' b := fun b _ ho h => ho (h.imp (fun x => x) (hown b))
  have hfz : ∀ p ∈ mem, lk σ p.1 = none → 0 < (ρ p.1).n → ¬ OX X ρ' mem' (ρ p.1).b := by
    rintro p h hno hn (hx | ⟨q, hq, hqn, e⟩)
    · exact (hm.bar _ hx).2 ⟨p, h, hn, rfl⟩
    · obtain ⟨id, t, sz, xs, ys, h1, h2, h3, h4, h5, h6, h7⟩ := hp q hq
      rw [h6] at hqn e
      have := hm.inj _ (lk_mem h3) p h hqn hn e
      simp only at this
      rw [← this, h2] at hno
      cases hno
  have hv : ∀ v v', Cv mem σ v v' → ∀ x, VR ρ D (OX X ρ mem) w v x → VR ρ' D' (OX X ρ' mem') w v' x := fun v v' hc => hc.vr hm hσ hO hfz
  refine ⟨⟨fun p h => ?_, fun p h hn => ?_, fun p h hn => ?_, fun p h q hq hpn hqn e => ?_, hnod, fun b hb => ⟨(hm.bar b hb).1, fun h => (hm.bar b hb).2 (hown b h)⟩, fun p h => ?_⟩, hv, fun p h hn => hown _ ⟨p, h, hn, rfl⟩⟩
  · obtain ⟨id, t, sz, xs, ys, h1, h2, h3, h4, h5, h6, h7⟩ := hp p h
    exact h5
  · obtain ⟨id, t, sz, xs, ys, h1, h2, h3, h4, h5, h6, h7⟩ := hp p h
    rw [h6] at hn ⊢
    obtain ⟨o, ho, k1, arr, fr, rfl, k2, k3, k4, k5⟩ := hm.blk _ (lk_mem h3) hn
    refine ⟨_, ho, ?_⟩
    rw [h1]
    refine ⟨k1, arr, fr, rfl, k2, k3, Nat.le_trans (Nat.mul_le_mul_right _ h4.1) k4, fun i y hy => ?_⟩
    obtain ⟨x, hx⟩ := get_of_le 0 (by simpa using h4.1) hy
    rw [Nat.zero_add] at hx
    obtain ⟨c1, c2⟩ := h4.2 i x y hx hy
    refine ⟨by rw [← c1]; exact (k5 i x hx).1, fun j c' hc' => ?_⟩
    obtain ⟨c, hc⟩ := get_of_len c1 hc'
    obtain ⟨u, hu, hone, hr⟩ := (k5 i x hx).2 j c hc
    exact ⟨u, hu, hone, hv _ _ (c2 j c c' hc hc') _ hr⟩
  · obtain ⟨id, t, sz, xs, ys, h1, h2, h3, h4, h5, h6, h7⟩ := hp p h
    rw [h6] at hn ⊢
    obtain ⟨t', sz', e1, e2⟩ := hm.emp _ (lk_mem h3) hn
    cases e1
    have : ys = [] := List.eq_nil_of_length_eq_zero (by have := h4.1; simpa using this)
    subst this
    exact ⟨t, sz, h1, e2⟩
  · obtain ⟨id, t, sz, xs, ys, h1, h2, h3, h4, h5, h6, h7⟩ := hp p h
    obtain ⟨id', t', sz', xs', ys', h1', h2', h3', h4', h5', h6', h7'⟩ := hp q hq
    rw [h6] at hpn e
    rw [h6'] at hqn e
    have := hm.inj _ (lk_mem h3) _ (lk_mem h3') hpn hqn e
    simp only at this
    subst this
    rw [h2] at h2'
    exact Option.some.inj h2'
  · have hg := hm.glo p h
    exact NN.vr hg hO (.ip _ fun j c hc => by
      have := hΓ p h
      revert hc
      cases hpv : p.2 with
      | agg cs => rw [hpv] at this; cases this with | agg _ hn => exact fun hc => hn j c hc
      | _ => intro hc; rw [hpv] at this; cases j with
        | zero => simp [AV.cells] at hc; rw [← hc]; exact this
        | succ j => simp [AV.cells] at hc)
end
end Go.Ax
