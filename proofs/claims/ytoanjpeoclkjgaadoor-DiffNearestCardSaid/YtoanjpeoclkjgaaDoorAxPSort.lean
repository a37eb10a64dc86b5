/- Sorted lists of values. Plain. -/
import Derived.Test.YtoanjpeoclkjgaaDoorAxStr
namespace Go.Ax
open Go

def findV : List Val → Val → Nat × Bool
  | [], _ => (0, false)
  | a :: r, v => if 0 ≤ cmpV a v then (0, cmpV a v == 0) else ((findV r v).1 + 1, (findV r v).2)

def isAt (l : List Val) (k : Nat) (v : Val) : Bool :=
  match l[k]? with
  | some a => cmpV a v == 0
  | none => false

theorem findV_at : ∀ {l : List Val} {v : Val} {k : Nat}, k ≤ l.length → (∀ p a, p < k → l[p]? = some a → cmpV a v < 0) → (∀ a, l[k]? = some a → 0 ≤ cmpV a v) → findV l v = (k, isAt l k v)
  | [], v, k, hk, h1, h2 => by
    have : k = 0 := by simpa using hk
    subst this
    simp [findV, isAt]
  | a :: r, v, 0, hk, h1, h2 => by
    have := h2 a (by simp)
    simp [findV, this, isAt]
  | a :: r, v, k + 1, hk, h1, h2 => by
    have h0 := h1 0 a (by omega) (by simp)
    have ih := findV_at (l := r) (v := v) (k := k) (by simpa using hk) (fun p b hp hb => h1 (p + 1) b (by omega) (by simpa using hb)) (fun b hb => h2 b (by simpa using hb))
    rw [findV, if_neg (by omega), ih]
    simp [isAt]

theorem findV_le : ∀ (l : List Val) (v : Val), (findV l v).1 ≤ l.length
  | [], v => by simp [findV]
  | a :: r, v => by
    simp only [findV]
    split
    · simp
    · have := findV_le r v; simp; omega

def insV (out : List Val) (v : Val) : List Val := if (findV out v).2 then out else out.take (findV out v).1 ++ v :: out.drop (findV out v).1

def sortV (l : List Val) : List Val := l.foldl insV []

theorem sortV_snoc (l : List Val) (v : Val) : sortV (l ++ [v]) = insV (sortV l) v := by simp [sortV]

theorem insV_mem {out : List Val} {v x : Val} (h : x ∈ insV out v) : x = v ∨ x ∈ out := by
  unfold insV at h
  split at h
  · exact .inr h
  · rcases List.mem_append.1 h with h | h
    · exact .inr (List.mem_of_mem_take h)
    · rcases List.mem_cons.1 h with h | h
      · exact .inl h
      · exact .inr (List.mem_of_mem_drop h)

theorem insV_length (out : List Val) (v : Val) : (insV out v).length ≤ out.length + 1 := by
  unfold insV
  split
  · omega
  · simp only [List.length_append, List.length_cons, List.length_take, List.length_drop]
    have := findV_le out v
    omega

theorem sortV_length : ∀ l : List Val, (sortV l).length ≤ l.length := by
  intro l
  rw [← List.reverse_reverse l]
  generalize l.reverse = r
  induction r with
  | nil => simp [sortV]
  | cons a r ih =>
    rw [List.reverse_cons, sortV_snoc]
    have := insV_length (sortV r.reverse) a
    simp only [List.length_append, List.length_singleton]
    omega

theorem sortV_mem {l : List Val} {x : Val} : x ∈ sortV l → x ∈ l := by
  rw [← List.reverse_reverse l]
  generalize l.reverse = r
  induction r with
  | nil => simp [sortV]
  | cons a r ih =>
    rw [List.reverse_cons, sortV_snoc]
    intro h
    rcases insV_mem h with rfl | h
    · simp
    · exact List.mem_append_left _ (ih h)

/-! the order -/
theorem lt_le {a b c : Val} (h1 : cmpV a b < 0) (h2 : cmpV b c ≤ 0) : cmpV a c < 0 := by
  have g := cmpV_good a
  have t := g.trans b c (by omega) h2
  rcases Int.lt_or_eq_of_le t with h | h
  · exact h
  · have := (g.strict b c (by omega) h2 h).1; omega
theorem le_lt {a b c : Val} (h1 : cmpV a b ≤ 0) (h2 : cmpV b c < 0) : cmpV a c < 0 := by
  have g := cmpV_good a
  have t := g.trans b c h1 (by omega)
  rcases Int.lt_or_eq_of_le t with h | h
  · exact h
  · have := (g.strict b c h1 (by omega) h).2; omega
theorem flip_gt {a b : Val} (h : 0 < cmpV a b) : cmpV b a < 0 := by rw [(cmpV_good a).anti b]; omega
theorem flip_ge {a b : Val} (h : 0 ≤ cmpV a b) : cmpV b a ≤ 0 := by rw [(cmpV_good a).anti b]; omega
theorem flip_lt {a b : Val} (h : cmpV a b < 0) : 0 < cmpV b a := by rw [(cmpV_good a).anti b]; omega

def Srt (l : List Val) : Prop := l.Pairwise fun a b => cmpV a b < 0

theorem insV_cons (a : Val) (r : List Val) (v : Val) : insV (a :: r) v = if 0 ≤ cmpV a v then (if cmpV a v == 0 then a :: r else v :: a :: r) else a :: insV r v := by
  unfold insV
  by_cases h : 0 ≤ cmpV a v
  · simp only [findV, if_pos h]
    rfl
  · simp only [findV, if_neg h]
    split <;> simp_all

theorem insV_srt : ∀ {l : List Val} {v : Val}, Srt l → Srt (insV l v)
  | [], v, _ => by simp [insV, findV, Srt]
  | a :: r, v, h => by
    unfold Srt at h ⊢
    rw [List.pairwise_cons] at h
    rw [insV_cons]
    split
    · rename_i h0
      split
      · exact List.pairwise_cons.2 h
      · rename_i h1
        have h1 : cmpV a v ≠ 0 := by simpa using h1
        have hva := flip_gt (show 0 < cmpV a v by omega)
        refine List.pairwise_cons.2 ⟨fun b hb => ?_, List.pairwise_cons.2 h⟩
        rcases List.mem_cons.1 hb with rfl | hb
        · exact hva
        · exact lt_le hva (by have := h.1 b hb; omega)
    · rename_i h0
      refine List.pairwise_cons.2 ⟨fun b hb => ?_, insV_srt (l := r) h.2⟩
      rcases insV_mem hb with rfl | hb
      · omega
      · exact h.1 b hb

theorem sortV_srt : ∀ l : List Val, Srt (sortV l) := by
  intro l
  rw [← List.reverse_reverse l]
  generalize l.reverse = r
  induction r with
  | nil => simp [sortV, Srt]
  | cons a r ih => rw [List.reverse_cons, sortV_snoc]; exact insV_srt ih

theorem Srt.get {l : List Val} (h : Srt l) {i j : Nat} {a b : Val} (hij : i < j) (ha : l[i]? = some a) (hb : l[j]? = some b) : cmpV a b < 0 := by
  obtain ⟨hi, rfl⟩ := List.getElem?_eq_some_iff.1 ha
  obtain ⟨hj, rfl⟩ := List.getElem?_eq_some_iff.1 hb
  exact List.pairwise_iff_getElem.1 h i j hi hj hij

/-! the nearest -/
def kindV : Val → Int
  | .mk k _ _ _ => k
def numV : Val → Int
  | .mk _ n _ _ => n

def nearC (ln vn hn : Int) : Bool := decide (IntKind.u64.wrap (IntKind.u64.wrap vn - IntKind.u64.wrap ln) ≤ IntKind.u64.wrap (IntKind.u64.wrap hn - IntKind.u64.wrap vn))

def nearV (l : List Val) (v : Val) : Nat × Bool :=
  if (findV l v).2 then ((findV l v).1, true)
  else if (findV l v).1 = 0 then (0, false)
  else match l[(findV l v).1 - 1]?, l[(findV l v).1]? with
    | some a, some b => if kindV a = 0 ∧ kindV v = 0 ∧ kindV b = 0 ∧ nearC (numV a) (numV v) (numV b) = true then ((findV l v).1 - 1, false) else ((findV l v).1, false)
    | _, _ => ((findV l v).1 - 1, false)
end Go.Ax
