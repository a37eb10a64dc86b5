/- The order of texts. -/
import Derived.Test.YtoanjpeoclkjgaaDoorAxUse
namespace Go.Ax
open Go

theorem less_cmp : ∀ (x y : List UInt8), Op.bytesLess x y = decide (cmpS x y < 0)
  | [], [] => rfl
  | [], _ :: _ => rfl
  | _ :: _, [] => rfl
  | a :: x, b :: y => by
    simp only [Op.bytesLess, cmpS, less_cmp x y]
    by_cases h : a < b
    · simp [h]
    · by_cases h' : b < a
      · have hne : ¬ a = b := by rintro rfl; exact h h'
        simp [h, h', hne]
      · have he : a = b := by
          rw [← UInt8.toNat_inj]
          simp only [UInt8.lt_iff_toNat_lt] at h h'
          omega
        subst he
        simp [h]

theorem cmpS_range : ∀ (x y : List UInt8), cmpS x y = -1 ∨ cmpS x y = 0 ∨ cmpS x y = 1
  | [], [] => by simp [cmpS]
  | [], _ :: _ => by simp [cmpS]
  | _ :: _, [] => by simp [cmpS]
  | a :: x, b :: y => by
    simp only [cmpS]
    split
    · simp
    · split
      · simp
      · exact cmpS_range x y

theorem cmpS_zero : ∀ {x y : List UInt8}, cmpS x y = 0 → x = y
  | [], [], _ => rfl
  | [], _ :: _, h => by simp [cmpS] at h
  | _ :: _, [], h => by simp [cmpS] at h
  | a :: x, b :: y, h => by
    simp only [cmpS] at h
    split at h
    · cases h
    · split at h
      · cases h
      · rename_i h1 h2
        have he : a = b := by
          rw [← UInt8.toNat_inj]
          simp only [UInt8.lt_iff_toNat_lt] at h1 h2
          omega
        rw [he, cmpS_zero h]

theorem cmpS_less {x y : List UInt8} : Op.bytesLess x y = true ↔ cmpS x y = -1 := by
  rw [less_cmp]
  have := cmpS_range x y
  simp
  omega

theorem cmpS_more {x y : List UInt8} (h : Op.bytesLess x y = false) (h' : (!(Op.bytesLess x y || x == y)) = true) : cmpS x y = 1 := by
  rw [h] at h'
  simp at h'
  rw [less_cmp] at h
  simp at h
  have := cmpS_range x y
  rcases this with e | e | e
  · omega
  · exact absurd (cmpS_zero e) h'
  · exact e

theorem cmpS_same {x y : List UInt8} (h : Op.bytesLess x y = false) (h' : (!(Op.bytesLess x y || x == y)) = false) : cmpS x y = 0 := by
  rw [h] at h'
  simp at h'
  subst h'
  exact (cmpS_good x).refl

section
variable {ka na : Int} {sa : List UInt8} {ksa : List Val} {kb nb : Int} {sb : List UInt8} {ksb : List Val}
theorem cmpI_ne {a b : Int} (h : a ≠ b) : cmpI a b = if a < b then -1 else 1 := by
  unfold cmpI
  split
  · rfl
  · rw [if_pos (by omega)]
theorem cmpI_nz {a b : Int} (h : a ≠ b) : cmpI a b ≠ 0 := by
  rw [cmpI_ne h]
  split <;> decide
theorem cmpV_kind (h : ka ≠ kb) : cmpV (.mk ka na sa ksa) (.mk kb nb sb ksb) = if ka < kb then -1 else 1 := by
  rw [cmpV, andThen, if_neg (cmpI_nz h), cmpI_ne h]
theorem cmpV_n (h : ka = kb) (h2 : na ≠ nb) : cmpV (.mk ka na sa ksa) (.mk kb nb sb ksb) = if na < nb then -1 else 1 := by
  rw [cmpV, andThen, if_pos (by rw [h]; exact (cmpI_good kb).refl), andThen, if_neg (cmpI_nz h2), cmpI_ne h2]
theorem cmpV_s (h : ka = kb) (h2 : na = nb) (h3 : sa ≠ sb) : cmpV (.mk ka na sa ksa) (.mk kb nb sb ksb) = if Op.bytesLess sa sb = true then -1 else 1 := by
  rw [cmpV, andThen, if_pos (by rw [h]; exact (cmpI_good kb).refl), andThen, if_pos (by rw [h2]; exact (cmpI_good nb).refl), andThen, if_neg (fun e => h3 (cmpS_zero e))]
  rcases cmpS_range sa sb with e | e | e
  · rw [if_pos (cmpS_less.2 e), e]
  · exact absurd (cmpS_zero e) h3
  · have : ¬ Op.bytesLess sa sb = true := by rw [less_cmp, e]; simp
    rw [if_neg this, e]
theorem cmpV_l (h : ka = kb) (h2 : na = nb) (h3 : sa = sb) : cmpV (.mk ka na sa ksa) (.mk kb nb sb ksb) = cmpL ksa ksb := by
  rw [cmpV, andThen, if_pos (by rw [h]; exact (cmpI_good kb).refl), andThen, if_pos (by rw [h2]; exact (cmpI_good nb).refl), andThen, if_pos (by rw [h3]; exact (cmpS_good sb).refl)]
end

theorem cmpL_step {l1 l2 : List Val} {k : Nat} (h1 : k < l1.length) (h2 : k < l2.length) : cmpL (l1.drop k) (l2.drop k) = andThen (cmpV l1[k] l2[k]) (cmpL (l1.drop (k + 1)) (l2.drop (k + 1))) := by
  rw [List.drop_eq_getElem_cons h1, List.drop_eq_getElem_cons h2, cmpL]

/-- The element of a list of values. -/
theorem enc_at {l : List Val} {k : Nat} (h : k < l.length) : (encVs l)[(k : Int).toNat]? = some (encV l[k]) := by
  rw [Int.toNat_natCast, encVs_get, List.getElem?_eq_getElem h]; rfl
end Go.Ax
