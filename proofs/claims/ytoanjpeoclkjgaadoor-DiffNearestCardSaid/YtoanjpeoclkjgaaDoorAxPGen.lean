/- Values that a generator makes. Plain. -/
import Derived.Test.YtoanjpeoclkjgaaDoorAxUse
namespace Go.Ax
open Go

/-- The names that occur. -/
def genNames : List (List UInt8) := [[76, 101, 97, 102], [65], [69, 109, 112, 116, 121], [66, 95, 50], [70, 111, 114, 107], [90, 122]]

def genBase (k n : Int) (s : List UInt8) (kids : List Val) : Prop :=
  (k = 0 ∧ i64 n ∧ s = [] ∧ kids = []) ∨ (k = 1 ∧ (n = 0 ∨ n = 1) ∧ s = [] ∧ kids = []) ∨ (k = 2 ∧ n = 0 ∧ s = []) ∨ (k = 3 ∧ n = 0 ∧ s ∈ genNames)

/-- A value of a depth of at most one more. -/
def genV : Nat → Val → Prop
  | 0, .mk k n s kids => genBase k n s kids ∧ kids = []
  | d + 1, .mk k n s kids => genBase k n s kids ∧ kids.length ≤ 3 ∧ ∀ v ∈ kids, genV d v

theorem genNames_len {s : List UInt8} (h : s ∈ genNames) : s.length ≤ 4294967296 := by
  simp [genNames] at h
  rcases h with rfl | rfl | rfl | rfl | rfl | rfl <;> simp

theorem genBase_ok {k n : Int} {s : List UInt8} {kids : List Val} (h : genBase k n s kids) : i64 k ∧ i64 n ∧ s.length ≤ 4294967296 := by
  rcases h with ⟨rfl, h, rfl, _⟩ | ⟨rfl, h, rfl, _⟩ | ⟨rfl, rfl, rfl⟩ | ⟨rfl, rfl, h⟩
  · exact ⟨⟨by omega, by omega⟩, h, by simp⟩
  · exact ⟨⟨by omega, by omega⟩, ⟨by omega, by omega⟩, by simp⟩
  · exact ⟨⟨by omega, by omega⟩, ⟨by omega, by omega⟩, by simp⟩
  · exact ⟨⟨by omega, by omega⟩, ⟨by omega, by omega⟩, genNames_len h⟩

theorem genV_ok : ∀ {d : Nat} {v : Val}, genV d v → okV v
  | 0, .mk k n s kids, h => by
    simp only [genV] at h
    obtain ⟨h1, rfl⟩ := h
    obtain ⟨a, b, c⟩ := genBase_ok h1
    simp only [okV, okVs]
    exact ⟨a, b, c, by simp, trivial⟩
  | d + 1, .mk k n s kids, h => by
    simp only [genV] at h
    obtain ⟨h1, h2, h3⟩ := h
    obtain ⟨a, b, c⟩ := genBase_ok h1
    simp only [okV]
    exact ⟨a, b, c, by omega, okVs_of fun v hv => genV_ok (h3 v hv)⟩

/-- How many numbers it takes at the most. -/
def genCost : Nat → Nat
  | 0 => 6
  | d + 1 => 4 * genCost d

theorem genCost_pos : ∀ d, 6 ≤ genCost d
  | 0 => Nat.le_refl _
  | d + 1 => by have := genCost_pos d; simp only [genCost]; omega
end Go.Ax
