/- A part of the proof. -/

set_option linter.unusedVariables false
namespace Go.Ax
inductive Val where
 | mk (kind n : Int) (s : List UInt8) (kids : List Val)
def cmpI (x y : Int) : Int := if x < y then -1 else if y < x then 1 else 0
def cmpS : List UInt8 → List UInt8 → Int
 | [], [] => 0
 | [], _ :: _ => -1
 | _ :: _, [] => 1
 | a :: as, b :: bs => if a < b then -1 else if b < a then 1 else cmpS as bs
def andThen (c d : Int) : Int := if c = 0 then d else c
mutual
def cmpV : Val → Val → Int
 | .mk k n s ks, .mk k' n' s' ks' => andThen (cmpI k k') (andThen (cmpI n n') (andThen (cmpS s s') (cmpL ks ks')))
def cmpL : List Val → List Val → Int
 | [], [] => 0
 | [], _ :: _ => -1
 | _ :: _, [] => 1
 | a :: as, b :: bs => andThen (cmpV a b) (cmpL as bs)
end
structure Good {α : Type} (f : α → α → Int) (a : α) : Prop where
 refl : f a a = 0
 anti : ∀ b, f b a = - f a b
 trans : ∀ b c, f a b ≤ 0 → f b c ≤ 0 → f a c ≤ 0
 strict : ∀ b c, f a b ≤ 0 → f b c ≤ 0 → f a c = 0 → f a b = 0 ∧ f b c = 0
theorem cmpI_good (a : Int) : Good cmpI a := by
 constructor
 ·simp [cmpI]
 ·intro b; unfold cmpI; split <;> split <;> first | rfl | omega | (split <;> first | rfl | omega)
 ·intro b c; unfold cmpI; repeat' split
  all_goals omega
 ·intro b c; unfold cmpI; repeat' split
  all_goals omega
theorem cmpS_good : ∀ a : List UInt8, Good cmpS a
 | [] => by
  constructor
  ·rfl
  ·intro b; cases b <;> rfl
  ·intro b c; cases b <;> cases c <;> simp [cmpS]
  ·intro b c; cases b <;> cases c <;> simp [cmpS]
 | a :: as => by
  have ih := cmpS_good as
  constructor
  ·simp [cmpS, UInt8.lt_irrefl, ih.refl]
  ·intro b
   cases b with
   | nil => rfl
   | cons b bs =>
    have := ih.anti bs
    simp only [cmpS]
    simp only [UInt8.lt_iff_toNat_lt] at *
    repeat' split
    all_goals omega
  ·intro b c
   cases b with
   | nil => cases c <;> simp [cmpS]
   | cons b bs =>
    cases c with
    | nil => simp [cmpS]
    | cons c cs =>
     have := ih.trans bs cs
     simp only [cmpS]
     simp only [UInt8.lt_iff_toNat_lt] at *
     repeat' split
     all_goals omega
  ·intro b c
   cases b with
   | nil => cases c <;> simp [cmpS]
   | cons b bs =>
    cases c with
    | nil => simp [cmpS]
    | cons c cs =>
     have := ih.strict bs cs
     simp only [cmpS]
     simp only [UInt8.lt_iff_toNat_lt] at *
     repeat' split
     all_goals omega
theorem andThen_anti {c d c' d' : Int} (h : c' = - c) (h' : d' = - d) : andThen c' d' = - andThen c d := by
 unfold andThen; repeat' split
 all_goals omega
theorem lex_trans {x y z x' y' z' : Int} (h : x ≤ 0 → y ≤ 0 → z ≤ 0) (hs : x ≤ 0 → y ≤ 0 → z = 0 → x = 0 ∧ y = 0) (h' : x' ≤ 0 → y' ≤ 0 → z' ≤ 0) :
  andThen x x' ≤ 0 → andThen y y' ≤ 0 → andThen z z' ≤ 0 := by
 unfold andThen; intro h1 h2; repeat' split at h1
 all_goals repeat' split at h2
 all_goals repeat' split
 all_goals omega
theorem lex_strict {x y z x' y' z' : Int} (h : x ≤ 0 → y ≤ 0 → z ≤ 0) (hs : x ≤ 0 → y ≤ 0 → z = 0 → x = 0 ∧ y = 0) (h' : x' ≤ 0 → y' ≤ 0 → z' ≤ 0) (hs' : x' ≤ 0 → y' ≤ 0 → z' = 0 → x' = 0 ∧ y' = 0) :
  andThen x x' ≤ 0 → andThen y y' ≤ 0 → andThen z z' = 0 → andThen x x' = 0 ∧ andThen y y' = 0 := by
 unfold andThen; intro h1 h2 h3; repeat' split at h1
 all_goals repeat' split at h2
 all_goals repeat' split at h3
 all_goals simp_all
 all_goals omega
mutual
theorem cmpV_good : ∀ a : Val, Good cmpV a
 | .mk k n s ks => by
  have i1 := cmpI_good k
  have i2 := cmpI_good n
  have i3 := cmpS_good s
  have i4 := cmpL_good ks
  constructor
  ·simp [cmpV, i1.refl, i2.refl, i3.refl, i4.refl, andThen]
  ·rintro ⟨k', n', s', ks'⟩
   simp only [cmpV]
   exact andThen_anti (i1.anti _) (andThen_anti (i2.anti _) (andThen_anti (i3.anti _) (i4.anti _)))
  ·rintro ⟨k1, n1, s1, ks1⟩ ⟨k2, n2, s2, ks2⟩
   simp only [cmpV]
   exact lex_trans (i1.trans _ _) (i1.strict _ _) (lex_trans (i2.trans _ _) (i2.strict _ _) (lex_trans (i3.trans _ _) (i3.strict _ _) (i4.trans _ _)))
  ·rintro ⟨k1, n1, s1, ks1⟩ ⟨k2, n2, s2, ks2⟩
   simp only [cmpV]
   have a3 := lex_trans (i3.trans s1 s2) (i3.strict s1 s2) (i4.trans ks1 ks2)
   have b3 := lex_strict (i3.trans s1 s2) (i3.strict s1 s2) (i4.trans ks1 ks2) (i4.strict ks1 ks2)
   have a2 := lex_trans (i2.trans n1 n2) (i2.strict n1 n2) a3
   have b2 := lex_strict (i2.trans n1 n2) (i2.strict n1 n2) a3 b3
   exact lex_strict (i1.trans k1 k2) (i1.strict k1 k2) a2 b2
theorem cmpL_good : ∀ a : List Val, Good cmpL a
 | [] => by
  constructor
  ·simp [cmpL]
  ·intro b; cases b <;> simp [cmpL]
  ·intro b c; cases b <;> cases c <;> simp [cmpL]
  ·intro b c; cases b <;> cases c <;> simp [cmpL]
 | a :: as => by
  have i1 := cmpV_good a
  have i2 := cmpL_good as
  constructor
  ·simp [cmpL, i1.refl, i2.refl, andThen]
  ·intro b
   cases b with
   | nil => simp [cmpL]
   | cons b bs => simp only [cmpL]; exact andThen_anti (i1.anti _) (i2.anti _)
  ·intro b c
   cases b with
   | nil => cases c <;> simp [cmpL]
   | cons b bs =>
    cases c with
    | nil => simp [cmpL]
    | cons c cs => simp only [cmpL]; exact lex_trans (i1.trans _ _) (i1.strict _ _) (i2.trans _ _)
  ·intro b c
   cases b with
   | nil => cases c <;> simp [cmpL]
   | cons b bs =>
    cases c with
    | nil => simp [cmpL]
    | cons c cs => simp only [cmpL]; exact lex_strict (i1.trans _ _) (i1.strict _ _) (i2.trans _ _) (i2.strict _ _)
end
end Go.Ax
