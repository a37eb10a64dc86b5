/- The abstract values, memory blocks and the relation to the model's values and worlds. -/
import Derived.WalkKit
namespace Go.Ax
open Go

inductive AV where
  | bool (b : Bool)
  | int (k : IntKind) (n : Int)
  | str (s : List UInt8)
  | nptr | nsl | nmap | nfn | nif
  | ptr (id i j : Nat)
  | sl (id off len : Nat)
  | mp (id : Nat)
  | ip (v : AV)
  | il (sz : Nat) (xs : List AV)
  | fn (f : Fn) (first cap : List AV)
  | ifc (t : TypeId) (v : AV)
  | agg (cs : List AV)
  | tup (vs : List AV)
  | junk

def AV.cells : AV → List AV
  | .agg cs => cs
  | v => [v]

/-- Where an own block lies: its number, how many cells it has, how many cells an element takes. -/
structure Loc where
  b : Nat
  n : Nat
  sz : Nat

inductive VR (ρ : Nat → Loc) (D : Nat → Prop) (O : Nat → Prop) (w : World) : AV → Value → Prop
  | bool (b : Bool) : VR ρ D O w (.bool b) (.bool b)
  | int (k : IntKind) (n : Int) : VR ρ D O w (.int k n) (.int k n)
  | str (s : List UInt8) : VR ρ D O w (.str s) (.string ⟨s.toArray⟩)
  | nptr : VR ρ D O w .nptr (.pointer none)
  | nsl : VR ρ D O w .nsl (.slice none 0 0)
  | nmap : VR ρ D O w .nmap (.map none)
  | nfn : VR ρ D O w .nfn .nilFunc
  | nif : VR ρ D O w .nif .nilIface
  | ptr (id i j : Nat) : D id → VR ρ D O w (.ptr id i j) (.pointer (some ⟨(ρ id).b, i * (ρ id).sz + j, none⟩))
  | sl (id off len cap : Nat) : D id → len ≤ cap → (off + cap) * (ρ id).sz ≤ (ρ id).n →
      VR ρ D O w (.sl id off len) (.slice (some ⟨(ρ id).b, off * (ρ id).sz, none⟩) len cap)
  | slz (id off b o : Nat) : D id → VR ρ D O w (.sl id off 0) (.slice (some ⟨b, o, none⟩) 0 0)
  | slzn (id off : Nat) : D id → VR ρ D O w (.sl id off 0) (.slice none 0 0)
  | mp (id : Nat) : D id → VR ρ D O w (.mp id) (.map (some (ρ id).b))
  | ip (v : AV) (b off : Nat) (f : Nat → Value) :
      (∀ (j : Nat) (c : AV), v.cells[j]? = some c → ¬ O b ∧ w.cell? ⟨b, off + j, none⟩ = some (f j) ∧ (f j).oneCell' = true) →
      (∀ (j : Nat) (c : AV), v.cells[j]? = some c → VR ρ D O w c (f j)) → VR ρ D O w (.ip v) (.pointer (some ⟨b, off, none⟩))
  | il (sz : Nat) (xs : List AV) (b off cap : Nat) (f : Nat → Nat → Value) : xs.length ≤ cap →
      (∀ (i : Nat) (x : AV), xs[i]? = some x → x.cells.length = sz) →
      (∀ (i : Nat) (x : AV) (j : Nat) (c : AV), xs[i]? = some x → x.cells[j]? = some c → ¬ O b ∧ w.cell? ⟨b, off + (i * sz + j), none⟩ = some (f i j) ∧ (f i j).oneCell' = true) →
      (∀ (i : Nat) (x : AV) (j : Nat) (c : AV), xs[i]? = some x → x.cells[j]? = some c → VR ρ D O w c (f i j)) →
      VR ρ D O w (.il sz xs) (.slice (some ⟨b, off, none⟩) xs.length cap)
  | iln (sz : Nat) : VR ρ D O w (.il sz []) (.slice none 0 0)
  | fn (f : Fn) (first cap : List AV) (a1 a2 : Array Value) : first.length = a1.size → cap.length = a2.size →
      (∀ (j : Nat) (c : AV) (x : Value), first[j]? = some c → a1[j]? = some x → VR ρ D O w c x) →
      (∀ (j : Nat) (c : AV) (x : Value), cap[j]? = some c → a2[j]? = some x → VR ρ D O w c x) → VR ρ D O w (.fn f first cap) (.func f a1 a2)
  | ifc (t : TypeId) (v : AV) (x : Value) : VR ρ D O w v x → VR ρ D O w (.ifc t v) (.iface t x)
  | agg (cs : List AV) (arr : Array Value) : cs.length = arr.size → (∀ x ∈ arr, x.oneCell' = true) →
      (∀ (j : Nat) (c : AV) (x : Value), cs[j]? = some c → arr[j]? = some x → VR ρ D O w c x) → VR ρ D O w (.agg cs) (.agg arr)
  | tup (cs : List AV) (arr : Array Value) : cs.length = arr.size →
      (∀ (j : Nat) (c : AV) (x : Value), cs[j]? = some c → arr[j]? = some x → VR ρ D O w c x) → VR ρ D O w (.tup cs) (.tuple arr)
  | junk (x : Value) : VR ρ D O w .junk x

theorem cell_lt {w : World} {b off : Nat} {v : Value} (h : w.cell? ⟨b, off, none⟩ = some v) : b < w.heap.size := by
  unfold World.cell? at h
  rcases Nat.lt_or_ge b w.heap.size with hb | hb
  · exact hb
  · simp [Array.getElem?_eq_none hb] at h

theorem cell_heap {w w' : World} {b off : Nat} (h : w'.heap[b]? = w.heap[b]?) : w'.cell? ⟨b, off, none⟩ = w.cell? ⟨b, off, none⟩ := by
  simp [World.cell?, h]

theorem VR.mono {ρ ρ' : Nat → Loc} {D D' : Nat → Prop} {O O' : Nat → Prop} {w w' : World} {v : AV} {x : Value} (h : VR ρ D O w v x)
    (hρ : ∀ id, D id → ρ' id = ρ id) (hN : ∀ id, D id → D' id)
    (hk : ∀ b, b < w.heap.size → ¬ O b → ¬ O' b ∧ w'.heap[b]? = w.heap[b]?) : VR ρ' D' O' w' v x := by
  induction h with
  | bool => exact .bool _
  | int => exact .int _ _
  | str => exact .str _
  | nptr => exact .nptr
  | nsl => exact .nsl
  | nmap => exact .nmap
  | nfn => exact .nfn
  | nif => exact .nif
  | ptr id i j hid => rw [← hρ id hid]; exact .ptr id i j (hN id hid)
  | sl id off len cap hid h1 h2 => rw [← hρ id hid] at h2 ⊢; exact .sl id off len cap (hN id hid) h1 h2
  | slz id off b o hid => exact .slz id off b o (hN id hid)
  | slzn id off hid => exact .slzn id off (hN id hid)
  | mp id hid => rw [← hρ id hid]; exact .mp id (hN id hid)
  | ip v b off f h1 _ ih =>
    refine .ip v b off f (fun j c hj => ?_) ih
    obtain ⟨ho, hc, hone⟩ := h1 j c hj
    obtain ⟨ho', hb⟩ := hk b (cell_lt hc) ho
    exact ⟨ho', by rw [cell_heap hb, hc], hone⟩
  | il sz xs b off cap f hl hs h1 _ ih =>
    refine .il sz xs b off cap f hl hs (fun i x j c hi hj => ?_) ih
    obtain ⟨ho, hc, hone⟩ := h1 i x j c hi hj
    obtain ⟨ho', hb⟩ := hk b (cell_lt hc) ho
    exact ⟨ho', by rw [cell_heap hb, hc], hone⟩
  | iln => exact .iln _
  | fn f first cap a1 a2 l1 l2 _ _ ih1 ih2 => exact .fn f first cap a1 a2 l1 l2 ih1 ih2
  | ifc t v x _ ih => exact .ifc t v x ih
  | agg cs arr hl ho _ ih => exact .agg cs arr hl ho ih
  | tup cs arr hl _ ih => exact .tup cs arr hl ih
  | junk x => exact .junk x

/-- A list of abstract values against a list of values. -/
def VRL (ρ : Nat → Loc) (D : Nat → Prop) (O : Nat → Prop) (w : World) (cs : List AV) (vs : List Value) : Prop :=
  cs.length = vs.length ∧ ∀ (j : Nat) (c : AV) (x : Value), cs[j]? = some c → vs[j]? = some x → VR ρ D O w c x

theorem VRL.nil {ρ : Nat → Loc} {D : Nat → Prop} {O : Nat → Prop} {w : World} : VRL ρ D O w [] [] := ⟨rfl, by simp⟩

theorem VRL.cons {ρ : Nat → Loc} {D : Nat → Prop} {O : Nat → Prop} {w : World} {c : AV} {cs : List AV} {x : Value} {xs : List Value}
    (h : VR ρ D O w c x) (hs : VRL ρ D O w cs xs) : VRL ρ D O w (c :: cs) (x :: xs) := by
  refine ⟨by simp [hs.1], fun j c' x' h1 h2 => ?_⟩
  cases j with
  | zero => simp at h1 h2; subst h1 h2; exact h
  | succ j => simp at h1 h2; exact hs.2 j c' x' h1 h2

theorem VRL.append {ρ : Nat → Loc} {D : Nat → Prop} {O : Nat → Prop} {w : World} {cs cs' : List AV} {xs xs' : List Value}
    (h : VRL ρ D O w cs xs) (h' : VRL ρ D O w cs' xs') : VRL ρ D O w (cs ++ cs') (xs ++ xs') := by
  refine ⟨by simp [h.1, h'.1], fun j c x h1 h2 => ?_⟩
  rw [List.getElem?_append] at h1 h2
  rw [← h.1] at h2
  by_cases hj : j < cs.length
  · rw [if_pos hj] at h1 h2; exact h.2 j c x h1 h2
  · rw [if_neg hj] at h1 h2; exact h'.2 _ c x h1 h2

theorem VRL.mono {ρ ρ' : Nat → Loc} {D D' : Nat → Prop} {O O' : Nat → Prop} {w w' : World} {cs : List AV} {xs : List Value} (h : VRL ρ D O w cs xs)
    (hρ : ∀ id, D id → ρ' id = ρ id) (hN : ∀ id, D id → D' id)
    (hk : ∀ b, b < w.heap.size → ¬ O b → ¬ O' b ∧ w'.heap[b]? = w.heap[b]?) : VRL ρ' D' O' w' cs xs :=
  ⟨h.1, fun j c x h1 h2 => (h.2 j c x h1 h2).mono hρ hN hk⟩

/-- .. all of one cell each. -/
def VRC (ρ : Nat → Loc) (D : Nat → Prop) (O : Nat → Prop) (w : World) (cs : List AV) (vs : List Value) : Prop :=
  VRL ρ D O w cs vs ∧ ∀ x ∈ vs, x.oneCell' = true

/-- A block of the abstract memory. -/
inductive AB where
  | row (t : TypeId) (sz : Nat) (xs : List AV)
  | mapb (es : List (AV × AV))

def BR (ρ : Nat → Loc) (D : Nat → Prop) (O : Nat → Prop) (w : World) (l : Loc) (o : Obj) : AB → Prop
  | .row t sz xs => l.sz = sz ∧ ∃ arr fr, o = .cells arr t fr ∧ (∀ j, j < arr.size → ¬ (fr.1 ≤ j ∧ j < fr.2)) ∧ arr.size = l.n ∧ xs.length * l.sz ≤ l.n ∧
      ∀ (i : Nat) (x : AV), xs[i]? = some x → x.cells.length = l.sz ∧
        ∀ (j : Nat) (c : AV), x.cells[j]? = some c → ∃ v, arr[i * l.sz + j]? = some v ∧ v.oneCell' = true ∧ VR ρ D O w c v
  | .mapb es => ∃ arr clk, o = .map arr clk ∧ arr.size = es.length ∧ ∀ (i : Nat) (e : AV × AV), es[i]? = some e → ∃ m, arr[i]? = some m ∧ VR ρ D O w e.1 m.key ∧ VR ρ D O w e.2 m.val

theorem BR.mono {ρ ρ' : Nat → Loc} {D D' : Nat → Prop} {O O' : Nat → Prop} {w w' : World} {l : Loc} {o : Obj} {a : AB} (h : BR ρ D O w l o a)
    (hρ : ∀ id, D id → ρ' id = ρ id) (hN : ∀ id, D id → D' id)
    (hk : ∀ b, b < w.heap.size → ¬ O b → ¬ O' b ∧ w'.heap[b]? = w.heap[b]?) : BR ρ' D' O' w' l o a := by
  cases a with
  | row t sz xs =>
    obtain ⟨h0, arr, fr, h1, hf, h2, h3, h4⟩ := h
    refine ⟨h0, arr, fr, h1, hf, h2, h3, fun i x hi => ⟨(h4 i x hi).1, fun j c hj => ?_⟩⟩
    obtain ⟨v, hv, ho, hr⟩ := (h4 i x hi).2 j c hj
    exact ⟨v, hv, ho, hr.mono hρ hN hk⟩
  | mapb es =>
    obtain ⟨arr, clk, h1, h2, h3⟩ := h
    refine ⟨arr, clk, h1, h2, fun i e he => ?_⟩
    obtain ⟨m, hm, hr1, hr2⟩ := h3 i e he
    exact ⟨m, hm, hr1.mono hρ hN hk, hr2.mono hρ hN hk⟩

abbrev Mem := List (Nat × AB)

/-- The blocks that are owned by the memory. (A place without cells has no block.) -/
def own (ρ : Nat → Loc) (mem : Mem) (b : Nat) : Prop := ∃ p ∈ mem, 0 < (ρ p.1).n ∧ (ρ p.1).b = b

/-- .. and those that are barred besides. -/
def OX (X : Nat → Prop) (ρ : Nat → Loc) (mem : Mem) (b : Nat) : Prop := X b ∨ own ρ mem b

structure MR (Γ : List (Nat × AV)) (X : Nat → Prop) (ρ : Nat → Loc) (D : Nat → Prop) (mem : Mem) (w : World) : Prop where
  low : ∀ p ∈ mem, D p.1
  blk : ∀ p ∈ mem, 0 < (ρ p.1).n → ∃ o, w.heap[(ρ p.1).b]? = some o ∧ BR ρ D (OX X ρ mem) w (ρ p.1) o p.2
  emp : ∀ p ∈ mem, (ρ p.1).n = 0 → ∃ t sz, p.2 = .row t sz [] ∧ (ρ p.1).sz = sz
  inj : ∀ p ∈ mem, ∀ q ∈ mem, 0 < (ρ p.1).n → 0 < (ρ q.1).n → (ρ p.1).b = (ρ q.1).b → p.1 = q.1
  nod : (mem.map (·.1)).Nodup
  bar : ∀ b, X b → b < w.heap.size ∧ ¬ own ρ mem b
  glo : ∀ p ∈ Γ, VR ρ D (OX X ρ mem) w (.ip p.2) (.pointer (some ⟨p.1, 0, none⟩))

structure Ext (A : Nat → Prop) (ρ : Nat → Loc) (mem : Mem) (w : World) (ρ' : Nat → Loc) (D' : Nat → Prop) (mem' : Mem) (w' : World) : Prop where
  le : ∀ id, A id → D' id
  agree : ∀ id, A id → ρ' id = ρ id
  size : w.heap.size ≤ w'.heap.size
  keep : ∀ b, b < w.heap.size → ¬ own ρ mem b → w'.heap[b]? = w.heap[b]?
  fresh : ∀ p ∈ mem', 0 < (ρ' p.1).n → own ρ mem (ρ' p.1).b ∨ w.heap.size ≤ (ρ' p.1).b
  env : w'.os = w.os ∧ w'.output = w.output

theorem Ext.refl {A : Nat → Prop} {D : Nat → Prop} {ρ : Nat → Loc} {mem : Mem} {w : World} (h : ∀ id, A id → D id) : Ext A ρ mem w ρ D mem w :=
  ⟨h, fun _ _ => rfl, Nat.le_refl _, fun _ _ _ => rfl, fun p hp hn => .inl ⟨p, hp, hn, rfl⟩, rfl, rfl⟩

theorem Ext.trans {A : Nat → Prop} {D₁ D₂ : Nat → Prop} {ρ ρ₁ ρ₂ : Nat → Loc} {mem mem₁ mem₂ : Mem} {w w₁ w₂ : World} (h : Ext A ρ mem w ρ₁ D₁ mem₁ w₁) (h' : Ext A ρ₁ mem₁ w₁ ρ₂ D₂ mem₂ w₂) :
    Ext A ρ mem w ρ₂ D₂ mem₂ w₂ := by
  refine ⟨h'.le, fun id hid => by rw [h'.agree id hid, h.agree id hid], Nat.le_trans h.size h'.size, fun b hb ho => ?_, fun p hp hn => ?_, h'.env.1.trans h.env.1, h'.env.2.trans h.env.2⟩
  · rw [h'.keep b (Nat.lt_of_lt_of_le hb h.size) ?_, h.keep b hb ho]
    rintro ⟨p, hp, hn, rfl⟩
    rcases h.fresh p hp hn with h1 | h1
    · exact ho h1
    · omega
  · rcases h'.fresh p hp hn with ⟨q, hq, hqn, e⟩ | h1
    · rw [← e]; exact h.fresh q hq hqn
    · exact .inr (Nat.le_trans h.size h1)

/-- The names that are in use: those that came in, and a stretch of new ones. -/
def dn (D0 : Nat → Prop) (B n : Nat) : Nat → Prop := fun i => D0 i ∨ (B ≤ i ∧ i < n)

/-- The state of the abstract run of one function. -/
structure St where
  sl : List (Nat × AV)
  mem : Mem
  nx : Nat
  nt : Nat

def lk {α : Type} : List (Nat × α) → Nat → Option α
  | [], _ => none
  | (i, v) :: r, j => match Nat.beq i j with
    | true => some v
    | false => lk r j

def up {α : Type} : List (Nat × α) → Nat → α → List (Nat × α)
  | [], j, v => [(j, v)]
  | (i, u) :: r, j, v => match Nat.beq i j with
    | true => (i, v) :: r
    | false => (i, u) :: up r j v

theorem nbeq_ne {a b : Nat} (h : a ≠ b) : Nat.beq a b = false := by
  cases h' : Nat.beq a b with
  | false => rfl
  | true => exact absurd (Nat.eq_of_beq_eq_true h') h

theorem lk_up {α : Type} (l : List (Nat × α)) (j : Nat) (v : α) (i : Nat) : lk (up l j v) i = if i = j then some v else lk l i := by
  induction l with
  | nil =>
    by_cases h : i = j
    · subst h; simp [up, lk]
    · have : Nat.beq j i = false := nbeq_ne fun e => h e.symm
      simp [up, lk, this, h]
  | cons p r ih =>
    obtain ⟨k, u⟩ := p
    simp only [up]
    cases hk : Nat.beq k j with
    | true =>
      have : k = j := Nat.eq_of_beq_eq_true hk
      subst this
      by_cases h : i = k
      · subst h; simp [lk]
      · have : Nat.beq k i = false := nbeq_ne fun e => h e.symm
        simp [lk, this, h]
    | false =>
      have hne : k ≠ j := Nat.ne_of_beq_eq_false hk
      simp only [lk]
      cases hki : Nat.beq k i with
      | true =>
        have : k = i := Nat.eq_of_beq_eq_true hki
        subst this
        simp [hne]
      | false => simpa using ih

def St.put (s : St) (d : Option Nat) (v : AV) : St :=
  match d with
  | some i => { s with sl := up s.sl i v }
  | none => s

structure SR (Γ : List (Nat × AV)) (X : Nat → Prop) (ρ : Nat → Loc) (D : Nat → Prop) (s : St) (a : Act) (w : World) : Prop where
  mr : MR Γ X ρ D s.mem w
  def0 : a.defers = []
  size : a.tmps.size = s.nt
  slot : ∀ i v, lk s.sl i = some v → VR ρ D (OX X ρ s.mem) w v (a.tmps.getD i undef)

end Go.Ax
