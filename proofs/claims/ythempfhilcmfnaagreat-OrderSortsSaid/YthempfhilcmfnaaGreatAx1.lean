/- A part of the proof. -/

set_option linter.unusedVariables false
namespace Go.Ax
inductive Val where
 | mk (kind n : Int) (s : List UInt8) (kids : List Val)
def cmpI (x y : Int) : Int := if x < y then -1 else if y < x then 1 else 0
def cmpS : List UInt8 → List UInt8 → Int
 | [], [] => 0
 | [], _ :: _ => -1
 | _ :: _, [] => 1
 | a :: as, b :: bs => if a < b then -1 else if b < a then 1 else cmpS as bs
def andThen (c d : Int) : Int := if c = 0 then d else c
mutual
def cmpV : Val → Val → Int
 | .mk k n s ks, .mk k' n' s' ks' => andThen (cmpI k k') (andThen (cmpI n n') (andThen (cmpS s s') (cmpL ks ks')))
def cmpL : List Val → List Val → Int
 | [], [] => 0
 | [], _ :: _ => -1
 | _ :: _, [] => 1
 | a :: as, b :: bs => andThen (cmpV a b) (cmpL as bs)
end
structure Good {α : Type} (f : α → α → Int) (a : α) : Prop where
 refl : f a a = 0
 anti : ∀ b, f b a = - f a b
 trans : ∀ b c, f a b ≤ 0 → f b c ≤ 0 → f a c ≤ 0
 strict : ∀ b c, f a b ≤ 0 → f b c ≤ 0 → f a c = 0 → f a b = 0 ∧ f b c = 0
theorem cmpI_good (a : Int) : Good cmpI a := by
 constructor
 ·simp [cmpI]
 ·intro b; unfold cmpI; split <;> split <;> first | rfl | omega | (split <;> first | rfl | omega)
 ·intro b c; unfold cmpI; repeat' split
  all_goals omega
 ·intro b c; unfold cmpI; repeat' split
  all_goals omega
theorem andThen_anti {c d c' d' : Int} (h : c' = - c) (h' : d' = - d) : andThen c' d' = - andThen c d := by
 unfold andThen; repeat' split
 all_goals omega
theorem lex_trans {x y z x' y' z' : Int} (h : x ≤ 0 → y ≤ 0 → z ≤ 0) (hs : x ≤ 0 → y ≤ 0 → z = 0 → x = 0 ∧ y = 0) (h' : x' ≤ 0 → y' ≤ 0 → z' ≤ 0) :
  andThen x x' ≤ 0 → andThen y y' ≤ 0 → andThen z z' ≤ 0 := by
 unfold andThen; intro h1 h2; repeat' split at h1
 all_goals repeat' split at h2
 all_goals repeat' split
 all_goals omega
theorem lex_strict {x y z x' y' z' : Int} (h : x ≤ 0 → y ≤ 0 → z ≤ 0) (hs : x ≤ 0 → y ≤ 0 → z = 0 → x = 0 ∧ y = 0) (h' : x' ≤ 0 → y' ≤ 0 → z' ≤ 0) (hs' : x' ≤ 0 → y' ≤ 0 → z' = 0 → x' = 0 ∧ y' = 0) :
  andThen x x' ≤ 0 → andThen y y' ≤ 0 → andThen z z' = 0 → andThen x x' = 0 ∧ andThen y y' = 0 := by
 unfold andThen; intro h1 h2 h3; repeat' split at h1
 all_goals repeat' split at h2
 all_goals repeat' split at h3
 all_goals simp_all
 all_goals omega
end Go.Ax
