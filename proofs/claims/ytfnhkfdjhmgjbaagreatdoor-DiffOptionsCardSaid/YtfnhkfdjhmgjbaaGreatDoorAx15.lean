/- For every input (two slices of ints, an int), refuterlaw31.DiffOptions returns true, and its arguments read behind the call as they read before (the card DiffOptionsCardSaid, the full form). Conditions: the package-level variables that the row lists hold, when the call begins, what the program's text lays (the card ties them to it); no bound on sizes. -/
import Derived.Test.YtfnhkfdjhmgjbaaGreatDoorAx14
import Derived.Test.YtfnhkfdjhmgjbaaGreatDoorCards
import Derived.Test.YtfnhkfdjhmgjbaaGreatDoorTie
import Derived.Lib.LaidIn

namespace Go.Proofs.YtfnhkfdjhmgjbaaGreatDoor
open Go Go.Ax Go.Proofs
set_option linter.unusedVariables false
set_option maxRecDepth 100000
set_option maxHeartbeats 8000000

def saysIB (n : Int) (b : Bool) (r : AV) : Prop := match r with
  | .tup [.int .i64 x, .bool y] => (match decide (x = n) with | true => (match b, y with | true, true => True | false, false => True | _, _ => False) | false => False)
  | _ => False
theorem saysIB_eq {n : Int} {b : Bool} {r : AV} (h : saysIB n b r) : r = .tup [.int .i64 n, .bool b] := by
  unfold saysIB at h
  split at h
  · rename_i x y
    by_cases e : x = n
    · subst e
      simp at h
      cases b <;> cases y <;> simp_all
    · simp [e] at h
  · exact h.elim

theorem int1 : ((fdeep Tryz.prog [] 20).call 47 [.str [45, 49]] [] 0 fun r _ _ => saysIB (-1) true r) = True := by kernel_rfl
theorem int2 : ((fdeep Tryz.prog [] 20).call 47 [.str [48]] [] 0 fun r _ _ => saysIB 0 true r) = True := by kernel_rfl
theorem int3 : ((fdeep Tryz.prog [] 20).call 47 [.str [50]] [] 0 fun r _ _ => saysIB 2 true r) = True := by kernel_rfl
theorem int4 : ((fdeep Tryz.prog [] 20).call 47 [.str [48, 50]] [] 0 fun r _ _ => saysIB 2 false r) = True := by kernel_rfl
theorem int5 : ((fdeep Tryz.prog [] 20).call 47 [.str [45, 48]] [] 0 fun r _ _ => saysIB 0 false r) = True := by kernel_rfl
theorem int6 : ((fdeep Tryz.prog [] 20).call 47 [.str [97]] [] 0 fun r _ _ => saysIB 0 false r) = True := by kernel_rfl
theorem int7 : ((fdeep Tryz.prog [] 20).call 47 [.str [57,50,50,51,51,55,50,48,51,54,56,53,52,55,55,53,56,48,56]] [] 0 fun r _ _ => saysIB 0 false r) = True := by kernel_rfl
theorem int8 : ((fdeep Tryz.prog [] 20).call 47 [.str []] [] 0 fun r _ _ => saysIB 0 false r) = True := by kernel_rfl
theorem int9 : ((fdeep Tryz.prog [] 20).call 47 [.str [98]] [] 0 fun r _ _ => saysIB 0 false r) = True := by kernel_rfl
theorem int10 : ((fdeep Tryz.prog [] 20).call 47 [.str [99]] [] 0 fun r _ _ => saysIB 0 false r) = True := by kernel_rfl
theorem int11 : ((fdeep Tryz.prog [] 20).call 47 [.str [100]] [] 0 fun r _ _ => saysIB 0 false r) = True := by kernel_rfl

theorem it2 : Lib.itoa 2 = [50] := by rw [Lib.itoa, if_neg (by omega), Lib.decDigits_one (by decide)]; rfl
theorem it1 : Lib.itoa (-1) = [45, 49] := by rw [Lib.itoa, if_pos (by omega), Lib.decDigits_one (by decide)]; rfl
theorem il1 : intL [45, 49] = some (-1) := intL_of ⟨by omega, by omega⟩ it1
theorem il2 : intL [48] = some 0 := intL_of ⟨by omega, by omega⟩ itoa_zero
theorem il3 : intL [50] = some 2 := intL_of ⟨by omega, by omega⟩ it2
theorem il4 : intL [48, 50] = none := by
  have h : Lib.atoiAll [48, 50] = .ok 2 := by decide
  unfold intL
  rw [h]
  simp only
  rw [it2, if_neg (by decide)]
theorem il5 : intL [45, 48] = none := by
  have h : Lib.atoiAll [45, 48] = .ok 0 := by decide
  unfold intL
  rw [h]
  simp only
  rw [itoa_zero, if_neg (by decide)]
theorem il6 : intL [97] = none := by decide
theorem il7 : intL [57,50,50,51,51,55,50,48,51,54,56,53,52,55,55,53,56,48,56] = none := by decide
theorem il8 : intL [] = none := by decide
theorem il9 : intL [98] = none := by decide
theorem il10 : intL [99] = none := by decide
theorem il11 : intL [100] = none := by decide

def l8 : List (List UInt8) := [[45, 49], [48], [50], [48, 50], [45, 48], [97], [57,50,50,51,51,55,50,48,51,54,56,53,52,55,55,53,56,48,56], []]
def LB : List (List UInt8) := l8 ++ abcd
theorem LB_len {s : List UInt8} (h : s ∈ LB) : s.length ≤ 19 := by
  simp only [LB, l8, abcd, List.cons_append, List.nil_append, List.mem_cons, List.not_mem_nil, or_false] at h
  rcases h with rfl | rfl | rfl | rfl | rfl | rfl | rfl | rfl | rfl | rfl | rfl | rfl <;> simp
theorem rInteger {s : List UInt8} (h : s ∈ LB) : ∃ (n : Int) (b : Bool), i64 n ∧ ACalls Tryz.prog [] 47 [.str s] [] 0 (fun r _ _ => saysIB n b r) ∧ (b = true → intL s = some n) ∧ (b = false → intL s = none) := by
  simp only [LB, l8, abcd, List.cons_append, List.nil_append, List.mem_cons, List.not_mem_nil, or_false] at h
  have e1 : ∀ {n : Int} {s : List UInt8}, intL s = some n → ((true = true → intL s = some n) ∧ (true = false → intL s = none)) := fun h => ⟨fun _ => h, fun h => by cases h⟩
  have e2 : ∀ {n : Int} {s : List UInt8}, intL s = none → ((false = true → intL s = some n) ∧ (false = false → intL s = none)) := fun h => ⟨fun h => by (cases h), fun _ => h⟩
  rcases h with rfl | rfl | rfl | rfl | rfl | rfl | rfl | rfl | rfl | rfl | rfl | rfl
  · exact ⟨-1, true, ⟨by omega, by omega⟩, acalls_closed 20 (by rw [int1]; trivial), e1 il1⟩
  · exact ⟨0, true, ⟨by omega, by omega⟩, acalls_closed 20 (by rw [int2]; trivial), e1 il2⟩
  · exact ⟨2, true, ⟨by omega, by omega⟩, acalls_closed 20 (by rw [int3]; trivial), e1 il3⟩
  · exact ⟨2, false, ⟨by omega, by omega⟩, acalls_closed 20 (by rw [int4]; trivial), e2 il4⟩
  · exact ⟨0, false, ⟨by omega, by omega⟩, acalls_closed 20 (by rw [int5]; trivial), e2 il5⟩
  · exact ⟨0, false, ⟨by omega, by omega⟩, acalls_closed 20 (by rw [int6]; trivial), e2 il6⟩
  · exact ⟨0, false, ⟨by omega, by omega⟩, acalls_closed 20 (by rw [int7]; trivial), e2 il7⟩
  · exact ⟨0, false, ⟨by omega, by omega⟩, acalls_closed 20 (by rw [int8]; trivial), e2 il8⟩
  · exact ⟨0, false, ⟨by omega, by omega⟩, acalls_closed 20 (by rw [int6]; trivial), e2 il6⟩
  · exact ⟨0, false, ⟨by omega, by omega⟩, acalls_closed 20 (by rw [int9]; trivial), e2 il9⟩
  · exact ⟨0, false, ⟨by omega, by omega⟩, acalls_closed 20 (by rw [int10]; trivial), e2 il10⟩
  · exact ⟨0, false, ⟨by omega, by omega⟩, acalls_closed 20 (by rw [int11]; trivial), e2 il11⟩

/-- The reference's 'Option'. -/
theorem rOption31 (a b : Nd) (k : Int) (hk : i64 k) (ha : OptN a) (hb : OptN b) (hlb : ∀ s ∈ a.labels, s ∈ LB) :
    PureC Tryz.prog [] 13 [encN a, encN b, .int .i64 k] (.tup [.int .i64 (optR a b k).1, .bool (optR a b k).2]) := by
  have har := ha.rng
  have hbr := hb.rng
  have hOa := rOptions31 a ha
  have hOb := rOptions31 b hb
  have hob := optsN_bound hb
  have hoa := optsN_bound ha
  have hach := ha.ch
  have hakl := ha.klen
  have hbch := hb.ch
  have hbkl := hb.klen
  have hna := encN_nn a
  have hnb := encN_nn b
  have hI := rFirst b.labels
  have hfin : ∀ (r1 : Int) (r2 : Bool) (x : Int × Bool) (mem : Mem) (n : Nat), r1 = x.1 → r2 = x.2 → Fini 0 (fun r' m n => r' = AV.tup [.int .i64 x.1, .bool x.2] ∧ m = [] ∧ n = 0) (.tup [.int .i64 r1, .bool r2]) mem n := by
    rintro r1 r2 x mem n rfl rfl
    exact fin_pure nn ⟨rfl, rfl, rfl⟩
  have hfin2 : ∀ (r1 : Int) (r2 : Bool) (x : Int × Bool) (mem : Mem) (n : Nat), (r1, r2) = x → Fini 0 (fun r' m n => r' = AV.tup [.int .i64 x.1, .bool x.2] ∧ m = [] ∧ n = 0) (.tup [.int .i64 r1, .bool r2]) mem n := by
    rintro r1 r2 x mem n rfl
    exact fin_pure nn ⟨rfl, rfl, rfl⟩
  have hka : optsN a ≠ 0 → (a.kind = 1 ∧ optsN a = a.hi - a.lo + 1) ∨ (a.kind = 2 ∧ optsN a = a.kids.length) := fun h => by
    unfold optsN at h ⊢
    split at h
    · left; rw [if_pos (by assumption)]; exact ⟨by assumption, rfl⟩
    · split at h
      · right; rw [if_neg (by assumption), if_pos (by assumption)]; exact ⟨by assumption, rfl⟩
      · exact absurd rfl h
  have hkb : optsN b ≠ 0 → (b.kind = 1 ∧ optsN b = b.hi - b.lo + 1) ∨ (b.kind = 2 ∧ optsN b = b.kids.length) := fun h => by
    unfold optsN at h ⊢
    split at h
    · left; rw [if_pos (by assumption)]; exact ⟨by assumption, rfl⟩
    · split at h
      · right; rw [if_neg (by assumption), if_pos (by assumption)]; exact ⟨by assumption, rfl⟩
      · exact absurd rfl h
  unfold optR
  generalize optsN a = oa at hOa hoa hka ⊢
  generalize optsN b = ob at hOb hob hkb ⊢
  have hwb : IntKind.i64.wrap (ob - 1) = ob - 1 := wrap64 ⟨by omega, by omega⟩
  have d8 : ∀ l : List (List UInt8), (((encS l).length : Int) == 0) = decide (l.length = 0) := fun l => by rw [encS_length, Bool.eq_iff_iff]; simp
  have d9 : ∀ l : List (List UInt8), decide (((encS l).length : Int) > 0) = decide (0 < l.length) := fun l => by rw [encS_length, Bool.eq_iff_iff]; simp
  rcases Int.lt_or_le k 0 with hk0 | hk0
  · rw [if_pos (.inl hk0)]
    have d0 : decide (k < 0) = true := by simpa using hk0
    refine acalls_go nnΓ Tryz.func13 rfl ?_
    obtain ⟨kind, name, lo, hi, ws, ls, vals, kids, ⟨vk, vn, vs, vks⟩⟩ := a
    obtain ⟨kind', name', lo', hi', ws', ls', vals', kids', ⟨vk', vn', vs', vks'⟩⟩ := b
    simp only at har hbr hka hkb hach hakl hbch hbkl hI hlb ⊢
    ((conv => whnf); repeat ((first | refine AWp.many ?_ | refine AOps.many ?_ | refine ADr.go ?_); conv => whnf))
    refine hOa.go ?_ (.cons hna .nil)
    ((conv => whnf); repeat ((first | refine AWp.many ?_ | refine AOps.many ?_ | refine ADr.go ?_); conv => whnf))
    refine hOb.go ?_ (.cons hnb .nil)
    ((conv => whnf); repeat ((first | refine AWp.many ?_ | refine AOps.many ?_ | refine ADr.go ?_); conv => whnf))
    rw [d0]
    ((conv => whnf); repeat ((first | refine AWp.many ?_ | refine AOps.many ?_ | refine ADr.go ?_); conv => whnf))
    exact fin_pure nn ⟨rfl, rfl, rfl⟩
  obtain ⟨k, rfl⟩ := Int.eq_ofNat_of_zero_le hk0
  simp only [Int.toNat_natCast]
  unfold cntR
  refine acalls_go nnΓ Tryz.func13 rfl ?_
  obtain ⟨kind, name, lo, hi, ws, ls, vals, kids, ⟨vk, vn, vs, vks⟩⟩ := a
  obtain ⟨kind', name', lo', hi', ws', ls', vals', kids', ⟨vk', vn', vs', vks'⟩⟩ := b
  simp only at har hbr hka hkb hach hakl hbch hbkl hI hlb ⊢
  ((conv => whnf); repeat ((first | refine AWp.many ?_ | refine AOps.many ?_ | refine ADr.go ?_); conv => whnf))
  refine hOa.go ?_ (.cons hna .nil)
  ((conv => whnf); repeat ((first | refine AWp.many ?_ | refine AOps.many ?_ | refine ADr.go ?_); conv => whnf))
  refine hOb.go ?_ (.cons hnb .nil)
  ((conv => whnf); repeat ((first | refine AWp.many ?_ | refine AOps.many ?_ | refine ADr.go ?_); conv => whnf))
  by_cases h0 : (k : Int) < 0 ∨ oa ≤ k ∨ ob = 0
  · rw [if_pos h0]
    by_cases h1 : (k : Int) < 0
    · omega
    · have d0 : decide ((k : Int) < 0) = false := by simp
      rw [d0]
      ((conv => whnf); repeat ((first | refine AWp.many ?_ | refine AOps.many ?_ | refine ADr.go ?_); conv => whnf))
      by_cases h2 : oa ≤ k
      · have d1 : decide ((k : Int) ≥ oa) = true := by simpa using h2
        rw [d1]
        ((conv => whnf); repeat ((first | refine AWp.many ?_ | refine AOps.many ?_ | refine ADr.go ?_); conv => whnf))
        exact hfin _ _ _ _ _ rfl rfl
      · have d1 : decide ((k : Int) ≥ oa) = false := by simp; omega
        rw [d1]
        ((conv => whnf); repeat ((first | refine AWp.many ?_ | refine AOps.many ?_ | refine ADr.go ?_); conv => whnf))
        have h3 : ob = 0 := by omega
        subst h3
        ((conv => whnf); repeat ((first | refine AWp.many ?_ | refine AOps.many ?_ | refine ADr.go ?_); conv => whnf))
        exact hfin _ _ _ _ _ rfl rfl
  · rw [if_neg h0]
    have e0 : decide ((k : Int) < 0) = false := by simp
    have e1 : decide ((k : Int) ≥ oa) = false := by simp; omega
    have e2 : (ob == 0) = false := by simp; omega
    rw [e0]
    ((conv => whnf); repeat ((first | refine AWp.many ?_ | refine AOps.many ?_ | refine ADr.go ?_); conv => whnf))
    rw [e1]
    ((conv => whnf); repeat ((first | refine AWp.many ?_ | refine AOps.many ?_ | refine ADr.go ?_); conv => whnf))
    rw [e2]
    ((conv => whnf); repeat ((first | refine AWp.many ?_ | refine AOps.many ?_ | refine ADr.go ?_); conv => whnf))
    rcases hka (by omega) with ⟨rfl, hxa⟩ | ⟨rfl, hxa⟩ <;> rcases hkb (by omega) with ⟨rfl, hxb⟩ | ⟨rfl, hxb⟩
    · rw [if_pos ⟨rfl, rfl⟩]
      have hw : IntKind.i64.wrap (lo + k) = lo + k := wrap64 ⟨by omega, by omega⟩
      ((conv => whnf); repeat ((first | refine AWp.many ?_ | refine AOps.many ?_ | refine ADr.go ?_); conv => whnf))
      rw [hw]
      refine bcs_mk (fun h1 => ?_) (fun h1 => ?_)
      · have h1 : lo + k < lo' := by simpa using h1
        ((conv => whnf); repeat ((first | refine AWp.many ?_ | refine AOps.many ?_ | refine ADr.go ?_); conv => whnf))
        exact hfin _ _ _ _ _ (by simp only; omega) (by simp only; symm; simp; omega)
      · have h1 : ¬ lo + k < lo' := by simpa using h1
        ((conv => whnf); repeat ((first | refine AWp.many ?_ | refine AOps.many ?_ | refine ADr.go ?_); conv => whnf))
        rw [hw]
        refine bcs_mk (fun h2 => ?_) (fun h2 => ?_)
        · have h2 : lo + k > hi' := by simpa using h2
          ((conv => whnf); repeat ((first | refine AWp.many ?_ | refine AOps.many ?_ | refine ADr.go ?_); conv => whnf))
          rw [hwb]
          exact hfin _ _ _ _ _ (by simp only; omega) (by simp only; symm; simp; omega)
        · have h2 : ¬ lo + k > hi' := by simpa using h2
          ((conv => whnf); repeat ((first | refine AWp.many ?_ | refine AOps.many ?_ | refine ADr.go ?_); conv => whnf))
          rw [hw]
          exact hfin _ _ _ _ _ (by simp only; rw [wrap64 ⟨by omega, by omega⟩]; omega) (by simp only; symm; simp; omega)
    · rw [if_neg (by simp), if_pos rfl]
      have hw : IntKind.i64.wrap (lo + k) = lo + k := wrap64 ⟨by omega, by omega⟩
      have hD := rDecimal (lo + k) ⟨by omega, by omega⟩
      have hX := hI (Lib.itoa (lo + k)) (by have := (hbch rfl).2; omega)
      generalize Lib.itoa (lo + k) = z at hD hX ⊢
      generalize idxS ls' z = q at hX ⊢
      ((conv => whnf); repeat ((first | refine AWp.many ?_ | refine AOps.many ?_ | refine ADr.go ?_); conv => whnf))
      rw [hw]
      refine hD.go ?_
      ((conv => whnf); repeat ((first | refine AWp.many ?_ | refine AOps.many ?_ | refine ADr.go ?_); conv => whnf))
      repeat (refine ⟨rfl, ?_⟩; ((conv => whnf); repeat ((first | refine AWp.many ?_ | refine AOps.many ?_ | refine ADr.go ?_); conv => whnf)))
      refine hX.go ?_ (.cons (.il' (encS_nn _)) nns)
      ((conv => whnf); repeat ((first | refine AWp.many ?_ | refine AOps.many ?_ | refine ADr.go ?_); conv => whnf))
      refine bcs_mk (fun h1 => ?_) (fun h1 => ?_)
      · have h1 : 0 ≤ q := by simpa using h1
        rw [if_pos (by simpa using h1)]
        ((conv => whnf); repeat ((first | refine AWp.many ?_ | refine AOps.many ?_ | refine ADr.go ?_); conv => whnf))
        exact hfin _ _ _ _ _ rfl rfl
      · have h1 : ¬ 0 ≤ q := by simpa using h1
        rw [if_neg (by simpa using h1)]
        ((conv => whnf); repeat ((first | refine AWp.many ?_ | refine AOps.many ?_ | refine ADr.go ?_); conv => whnf))
        rw [hwb]
        exact hfin _ _ _ _ _ (by simp only; split <;> omega) rfl
    · rw [if_neg (by simp), if_neg (show ¬ (2 : Int) = 1 by decide), if_pos rfl]
      by_cases l0 : ls.length = 0
      · rw [if_pos l0, if_neg (by simp)]
        obtain rfl : ls = [] := List.length_eq_zero_iff.1 l0
        ((conv => whnf); repeat ((first | refine AWp.many ?_ | refine AOps.many ?_ | refine ADr.go ?_); conv => whnf))
        rw [hwb]
        exact hfin _ _ _ _ _ (by simp only; split <;> omega) rfl
      · rw [if_neg l0]
        have hll2 : ls.length = kids.length := by rcases (hach rfl).2 with h | h; exact absurd h l0; exact h
        have hkl : k < ls.length := by omega
        have ek := encS_cases hkl
        have hgd : ls.getD k [] = ls[k] := by rw [List.getD_eq_getElem?_getD, List.getElem?_eq_getElem hkl]; rfl
        have hsl := hlb _ (List.getElem_mem hkl)
        have hd9 : decide (((encS ls).length : Int) > 0) = true := by rw [d9]; simp; omega
        rw [hgd]
        generalize ls[k] = s at ek hsl ⊢
        obtain ⟨n, b, hn, hc, hc1, hc2⟩ := rInteger hsl
        ((conv => whnf); repeat ((first | refine AWp.many ?_ | refine AOps.many ?_ | refine ADr.go ?_); conv => whnf))
        rw [hd9]
        ((conv => whnf); repeat ((first | refine AWp.many ?_ | refine AOps.many ?_ | refine ADr.go ?_); conv => whnf))
        refine opt_mk ek ?_
        ((conv => whnf); repeat ((first | refine AWp.many ?_ | refine AOps.many ?_ | refine ADr.go ?_); conv => whnf))
        refine ACalls.call0 nnΓ hc nns ?_
        intro r m' n' hr
        rw [saysIB_eq hr]
        refine ⟨_, .same _ nn, ?_⟩
        cases b with
        | false =>
          rw [hc2 rfl]
          simp only
          rw [if_neg (by simp)]
          ((conv => whnf); repeat ((first | refine AWp.many ?_ | refine AOps.many ?_ | refine ADr.go ?_); conv => whnf))
          rw [hwb]
          exact hfin _ _ _ _ _ (by simp only; split <;> omega) rfl
        | true =>
          rw [hc1 rfl]
          simp only
          ((conv => whnf); repeat ((first | refine AWp.many ?_ | refine AOps.many ?_ | refine ADr.go ?_); conv => whnf))
          by_cases h1 : n ≥ lo'
          · have dn : decide (n ≥ lo') = true := by simpa using h1
            rw [dn]
            ((conv => whnf); repeat ((first | refine AWp.many ?_ | refine AOps.many ?_ | refine ADr.go ?_); conv => whnf))
            refine bcs_mk (fun h2 => ?_) (fun h2 => ?_)
            · have h2 : n ≤ hi' := by simpa using h2
              have hw : IntKind.i64.wrap (n - lo') = n - lo' := wrap64 ⟨by omega, by omega⟩
              have hf : ¬ (n < lo' ∨ hi' < n) := by omega
              simp only [if_neg hf, if_true]
              ((conv => whnf); repeat ((first | refine AWp.many ?_ | refine AOps.many ?_ | refine ADr.go ?_); conv => whnf))
              rw [hw]
              exact fin_pure nn ⟨rfl, rfl, rfl⟩
            · have h2 : ¬ n ≤ hi' := by simpa using h2
              have hf : (n < lo' ∨ hi' < n) := by omega
              simp only [if_pos hf]
              rw [if_neg (by simp)]
              ((conv => whnf); repeat ((first | refine AWp.many ?_ | refine AOps.many ?_ | refine ADr.go ?_); conv => whnf))
              rw [hwb]
              exact hfin _ _ _ _ _ (by simp only; split <;> omega) rfl
          · have dn : decide (n ≥ lo') = false := by simpa using h1
            rw [dn]
            have hf : (n < lo' ∨ hi' < n) := by omega
            simp only [if_pos hf]
            rw [if_neg (by simp)]
            ((conv => whnf); repeat ((first | refine AWp.many ?_ | refine AOps.many ?_ | refine ADr.go ?_); conv => whnf))
            rw [hwb]
            exact hfin _ _ _ _ _ (by simp only; split <;> omega) rfl
    · rw [if_neg (by simp), if_neg (show ¬ (2 : Int) = 1 by decide), if_neg (show ¬ (2 : Int) = 1 by decide)]
      by_cases l0 : ls.length = 0 ∨ ls'.length = 0
      · rw [if_pos l0]
        have hf : (min (k : Int) (ob - 1), decide ((k : Int) < ob)) = (if (((k : Nat) : Int), decide (k < kids'.length)).2 = true then ((((k : Nat) : Int), decide (k < kids'.length)).1, true) else (min (k : Int) (ob - 1), false)) := by
          simp only [decide_eq_true_eq]
          split
          · refine Prod.ext ?_ ?_
            · simp only; omega
            · simp; omega
          · refine Prod.ext rfl ?_
            simp; omega
        rw [← hf]
        by_cases l1 : ls.length = 0
        · obtain rfl : ls = [] := List.length_eq_zero_iff.1 l1
          ((conv => whnf); repeat ((first | refine AWp.many ?_ | refine AOps.many ?_ | refine ADr.go ?_); conv => whnf))
          rw [hwb]
          exact hfin _ _ _ _ _ (by simp only; split <;> omega) rfl
        · obtain rfl : ls' = [] := List.length_eq_zero_iff.1 (by omega)
          have hd8 : (((encS ls).length : Int) == 0) = false := by rw [d8]; exact decide_eq_false l1
          ((conv => whnf); repeat ((first | refine AWp.many ?_ | refine AOps.many ?_ | refine ADr.go ?_); conv => whnf))
          rw [hd8]
          ((conv => whnf); repeat ((first | refine AWp.many ?_ | refine AOps.many ?_ | refine ADr.go ?_); conv => whnf))
          rw [hwb]
          exact hfin _ _ _ _ _ (by simp only; split <;> omega) rfl
      · rw [if_neg l0]
        have hll2 : ls.length = kids.length := by rcases (hach rfl).2 with h | h; exact absurd (.inl h) l0; exact h
        have hll3 : ls'.length = kids'.length := by rcases (hbch rfl).2 with h | h; exact absurd (.inr h) l0; exact h
        have hkl : k < ls.length := by omega
        have ek := encS_cases hkl
        have hgd : ls.getD k [] = ls[k] := by rw [List.getD_eq_getElem?_getD, List.getElem?_eq_getElem hkl]; rfl
        rw [hgd]
        generalize ls[k] = s at ek ⊢
        have hd8 : (((encS ls).length : Int) == 0) = false := by rw [d8]; exact decide_eq_false (by omega)
        have hd9 : (((encS ls').length : Int) == 0) = false := by rw [d8]; exact decide_eq_false (by omega)
        have hX := hI s (by omega)
        generalize idxS ls' s = q at hX ⊢
        ((conv => whnf); repeat ((first | refine AWp.many ?_ | refine AOps.many ?_ | refine ADr.go ?_); conv => whnf))
        rw [hd8]
        ((conv => whnf); repeat ((first | refine AWp.many ?_ | refine AOps.many ?_ | refine ADr.go ?_); conv => whnf))
        rw [hd9]
        ((conv => whnf); repeat ((first | refine AWp.many ?_ | refine AOps.many ?_ | refine ADr.go ?_); conv => whnf))
        by_cases h1 : k < ls'.length
        · have d1 : decide ((k : Int) < ob) = true := by simp; omega
          have ek2 := encS_cases h1
          have hgd2 : ls'.getD k [] = ls'[k] := by rw [List.getD_eq_getElem?_getD, List.getElem?_eq_getElem h1]; rfl
          rw [hgd2]
          generalize ls'[k] = s' at ek2 ⊢
          rw [d1]
          ((conv => whnf); repeat ((first | refine AWp.many ?_ | refine AOps.many ?_ | refine ADr.go ?_); conv => whnf))
          repeat (first | (refine ⟨rfl, ?_⟩; ((conv => whnf); repeat ((first | refine AWp.many ?_ | refine AOps.many ?_ | refine ADr.go ?_); conv => whnf))) | (refine opt_mk ek ?_; ((conv => whnf); repeat ((first | refine AWp.many ?_ | refine AOps.many ?_ | refine ADr.go ?_); conv => whnf))) | (refine opt_mk ek2 ?_; ((conv => whnf); repeat ((first | refine AWp.many ?_ | refine AOps.many ?_ | refine ADr.go ?_); conv => whnf))))
          by_cases h2 : s = s'
          · have d2 : (s == s') = true := by simpa using h2
            rw [d2]
            rw [if_pos (⟨h1, h2.symm⟩ : k < ls'.length ∧ s' = s)]
            ((conv => whnf); repeat ((first | refine AWp.many ?_ | refine AOps.many ?_ | refine ADr.go ?_); conv => whnf))
            simp only [if_true]
            exact fin_pure nn ⟨rfl, rfl, rfl⟩
          · have d2 : (s == s') = false := by simpa using h2
            rw [d2]
            rw [if_neg fun h : k < ls'.length ∧ s' = s => h2 h.2.symm]
            ((conv => whnf); repeat ((first | refine AWp.many ?_ | refine AOps.many ?_ | refine ADr.go ?_); conv => whnf))
            repeat (first | (refine ⟨rfl, ?_⟩; ((conv => whnf); repeat ((first | refine AWp.many ?_ | refine AOps.many ?_ | refine ADr.go ?_); conv => whnf))) | (refine opt_mk ek ?_; ((conv => whnf); repeat ((first | refine AWp.many ?_ | refine AOps.many ?_ | refine ADr.go ?_); conv => whnf))) | (refine opt_mk ek2 ?_; ((conv => whnf); repeat ((first | refine AWp.many ?_ | refine AOps.many ?_ | refine ADr.go ?_); conv => whnf))))
            refine hX.go ?_ (.cons (.il' (encS_nn _)) nns)
            ((conv => whnf); repeat ((first | refine AWp.many ?_ | refine AOps.many ?_ | refine ADr.go ?_); conv => whnf))
            refine bcs_mk (fun h1 => ?_) (fun h1 => ?_)
            · have h1 : 0 ≤ q := by simpa using h1
              rw [if_pos (by simpa using h1)]
              ((conv => whnf); repeat ((first | refine AWp.many ?_ | refine AOps.many ?_ | refine ADr.go ?_); conv => whnf))
              exact hfin _ _ _ _ _ rfl rfl
            · have h1 : ¬ 0 ≤ q := by simpa using h1
              rw [if_neg (by simpa using h1)]
              ((conv => whnf); repeat ((first | refine AWp.many ?_ | refine AOps.many ?_ | refine ADr.go ?_); conv => whnf))
              rw [hwb]
              exact hfin _ _ _ _ _ (by simp only; split <;> omega) rfl
        · have d1 : decide ((k : Int) < ob) = false := by simp; omega
          rw [if_neg fun h : k < ls'.length ∧ ls'.getD k [] = s => h1 h.1]
          rw [d1]
          ((conv => whnf); repeat ((first | refine AWp.many ?_ | refine AOps.many ?_ | refine ADr.go ?_); conv => whnf))
          repeat (first | (refine ⟨rfl, ?_⟩; ((conv => whnf); repeat ((first | refine AWp.many ?_ | refine AOps.many ?_ | refine ADr.go ?_); conv => whnf))) | (refine opt_mk ek ?_; ((conv => whnf); repeat ((first | refine AWp.many ?_ | refine AOps.many ?_ | refine ADr.go ?_); conv => whnf))))
          refine hX.go ?_ (.cons (.il' (encS_nn _)) nns)
          ((conv => whnf); repeat ((first | refine AWp.many ?_ | refine AOps.many ?_ | refine ADr.go ?_); conv => whnf))
          refine bcs_mk (fun h1 => ?_) (fun h1 => ?_)
          · have h1 : 0 ≤ q := by simpa using h1
            rw [if_pos (by simpa using h1)]
            ((conv => whnf); repeat ((first | refine AWp.many ?_ | refine AOps.many ?_ | refine ADr.go ?_); conv => whnf))
            exact hfin _ _ _ _ _ rfl rfl
          · have h1 : ¬ 0 ≤ q := by simpa using h1
            rw [if_neg (by simpa using h1)]
            ((conv => whnf); repeat ((first | refine AWp.many ?_ | refine AOps.many ?_ | refine ADr.go ?_); conv => whnf))
            rw [hwb]
            exact hfin _ _ _ _ _ (by simp only; split <;> omega) rfl
end Go.Proofs.YtfnhkfdjhmgjbaaGreatDoor

namespace Go.Proofs.YtfnhkfdjhmgjbaaGreatDoor
open Go Go.Ax Go.Proofs
set_option linter.unusedVariables false
set_option maxRecDepth 100000
set_option maxHeartbeats 4000000

/-- 'refuterref10.Many'. -/
theorem rMany (n : Nat) (hn : n ≤ 1000) : PureC Tryz.prog [] 95 [.int .i64 n] (.il 4 (encVs (manyV n))) := by
  refine acalls_run nnΓ Tryz.func95 rfl ?_
  conv => whnf
  refine AWp.ph 33 4 ?_
  refine AWp.loopAt nnΓ (fun k : Nat => k ≤ n)
    (fun k => ⟨[(0, .int .i64 n), (3, .sl 0 0 (manyV k).length), (4, .int .i64 k)], [(0, .row 33 4 (encVs (manyV k)))], 1, 17⟩)
    (fun k => n - k) 0 [(0, 0)] (by simp)
    (conv_mk _ rfl ⟨⟨0, _, rfl, rfl, .nil⟩, trivial⟩ ⟨⟨_, rfl, .same _ nn⟩, ⟨_, rfl, .nslk 0 0 _ rfl rfl⟩, ⟨_, rfl, .same _ nn⟩, trivial⟩) ?_
  intro k hk
  have hlen := manyV_length k
  conv => whnf
  refine bcs_mk (fun h => ?_) (fun h => ?_)
  · have hlt : k < n := by simpa using h
    conv => whnf
    refine grd_mk (app_ok rfl rfl (by rw [encVs_length]) (by simp; omega)) ?_
    conv => whnf
    exact .mk (k + 1) [(2, 0)] (by omega) (conv_mk _ rfl ⟨⟨2, _, rfl, rfl, by rw [manyV_succ, encVs_snoc]; exact .snoc rfl (.same nns) (cvVal _ _ _)⟩, trivial⟩ ⟨⟨_, rfl, .same _ nn⟩, ⟨_, rfl, .slE rfl (by rw [manyV_succ]; simp)⟩, ⟨_, rfl, .w64 (by omega) ⟨by omega, by omega⟩⟩, trivial⟩) (by omega)
  · have hk' : k = n := by simp at h; omega
    subst hk'
    conv => whnf
    exact fin_cv (.fz' rfl rfl (by rw [encVs_length]; omega) (by rw [← encVs_length]; simp) nns) ⟨rfl, rfl, rfl⟩

/-- 'Next', used where the generator lies in a block. -/
theorem gNextAt (g : Nat) {l : List Int} {i : Nat} (most : Int) (hi : i ≤ 4611686018427387904) (hm : most ≤ 4611686018427387904) (hp : 1 ≤ most) {mem : Mem} {nx : Nat} {K : AV → Mem → Nat → Prop} (hg : lk mem g = some (gB l i))
    (hk : ∀ k : Int, 0 ≤ k → k < most → dropK g mem fun rest => K (.int .i64 k) ((g, gB l (i + 1)) :: rest) nx) : ACalls Tryz.prog [] 11 [.ptr g 0 0, .int .i64 most] mem nx K := by
  refine ACalls.use1 nnΓ (gNext l i most hi hm) g hg (gNN l i) (.cons (.ptr g 0 0 0 (by simp [lk])) (.cons (.same _ (.int _ _)) .nil)) ?_
  rintro r m n ⟨k, rfl, h1, h2, rfl⟩
  exact ⟨_, rfl, .int _ _, gNN l (i + 1), hk k h1 (by omega)⟩

/-- What is said of 'Bent'. -/
def bentQ (v : Val) : AV → Mem → Nat → Prop := fun r m n => ∃ v', r = encV v' ∧ okV v' ∧ sizeV v' ≤ sizeV v + 2000 ∧ m = [] ∧ n = 0

theorem bentF {v : Val} {r : AV} {m : Mem} {n : Nat} (v' : Val) (h : Cv m [] r (encV v')) (h1 : okV v') (h2 : sizeV v' ≤ sizeV v + 2000) : Fini 0 (bentQ v) r m n :=
  fin_cv h ⟨v', rfl, h1, h2, rfl, rfl⟩

theorem rBent : ∀ (v : Val) (which by_ : Int), okV v → sizeV v ≤ 1000000 → i64 by_ → ACalls Tryz.prog [] 52 [encV v, .int .i64 which, .int .i64 by_] [] 0 (bentQ v)
  | .mk vk vn vs ks, which, by_, hv, hsz, hb => by
    have hv0 := hv
    simp only [okV] at hv
    obtain ⟨hv1, hv2, hv3, hv4, hv5⟩ := hv
    have hl := sizeL_len ks
    have hsz' : sizeL ks + 1 ≤ 1000000 := by simp only [sizeV] at hsz; omega
    have ih : ∀ a ∈ ks, ∀ which, ACalls Tryz.prog [] 52 [encV a, .int .i64 which, .int .i64 by_] [] 0 (bentQ a) := fun a hm which => rBent a which by_ (okVs_mem hv5 a hm) (by have := sizeV_mem hm; omega) hb
    refine acalls_run nnΓ Tryz.func52 rfl ?_
    conv => whnf
    refine bcs_mk (fun h => ?_) (fun h => ?_)
    case' refine_1 =>
      have hpos : 0 < ks.length := by rw [encVs_length] at h; simpa using h
      rw [h]
      conv => whnf
      refine ACalls.pre nnΓ [(3, 3), (1, 1), (0, 0)] (mem' := [(3, gB [which, IntKind.i64.wrap (which.tdiv 7), IntKind.i64.wrap (which.tdiv 49)] 0), (1, .row 33 4 [.agg [.int .i64 0, .int .i64 0, .str [], .nsl]]), (0, .row 33 4 [encV (.mk vk vn vs ks)])]) rfl
        ⟨⟨3, _, rfl, rfl, .cons (.agg (.cons (.fz' rfl rfl (by simp) rfl nns) (.cons (.int rfl) .nil))) .nil⟩, ⟨1, _, rfl, rfl, .same nns⟩, ⟨0, _, rfl, rfl, .same nns⟩, trivial⟩ (.cons (.ptr 3 3 0 0 rfl) (.cons (.same _ nn) .nil)) ?_
      refine gNextAt 3 2 (by omega) (by omega) (by omega) rfl fun k h1 h2 => ?_
      conv => whnf
      refine bcs_mk (fun hk => ?_) (fun hk => ?_)
      · conv => whnf
        refine gNextAt 3 _ (by omega) (by rw [encVs_length]; omega) (by rw [encVs_length]; omega) rfl fun j j1 j2 => ?_
        obtain ⟨q, rfl⟩ := Int.eq_ofNat_of_zero_le j1
        have hq : q < ks.length := by rw [encVs_length] at j2; omega
        obtain ⟨a, b, c, d, hm, hg, he, e1⟩ := enc_cases hq
        have hb1 : Nat.blt (q : Int).toNat (encVs ks).length = true := Nat.ble_eq_true_of_le (by rw [encVs_length]; simp; omega)
        have e2 : (encVs ks)[0 + (q : Int).toNat]? = some (encV (.mk a b c d)) := by rw [Nat.zero_add]; exact e1
        conv => whnf
        refine grd_mk (app_nil rfl (by rw [encVs_length]; omega)) ?_
        conv => whnf
        refine grd_mk hb1 ?_
        conv => whnf
        refine opt_mk e2 ?_
        conv => whnf
        refine opt_mk e2 ?_
        conv => whnf
        refine ACalls.go0 (ih _ hm _) ?_
        rintro r m n ⟨⟨a', b', c', d'⟩, rfl, o1, o2, rfl, rfl⟩
        refine ⟨_, .same _ nn, ?_⟩
        conv => whnf
        refine grd_mk hb1 ?_
        conv => whnf
        refine opt_mk e2 ?_
        conv => whnf
        refine opt_mk e2 ?_
        conv => whnf
        refine setK_iff.2 ?_
        conv => whnf
        have hset := sizeL_set (.mk a' b' c' d') hq
        rw [he] at hset
        refine bentF (.mk vk vn vs (ks.set q (.mk a' b' c' d'))) (.agg' (.cons (.same _ nn) (.cons (.same _ nn) (.cons (.same _ nn) (.cons (.fzR rfl rfl (.eq nns ?_) ?_) .nil)))))
          (okV_list hv1 hv2 hv3 (by simpa using hv4) (okVs_set hv5 o1)) (by simp only [sizeV] at hset o2 ⊢; omega)
        · rw [encVs_set, Nat.zero_add, Int.toNat_natCast]; rfl
        · simp [encVs_length]
      conv => whnf
      refine gNextAt 3 7 (by omega) (by omega) (by omega) rfl fun k7 h3 h4 => ?_
    case' refine_2 =>
      rw [h]
      conv => whnf
      refine ACalls.pre nnΓ [(3, 3), (1, 1), (0, 0)] (mem' := [(3, gB [which, IntKind.i64.wrap (which.tdiv 7), IntKind.i64.wrap (which.tdiv 49)] 0), (1, .row 33 4 [.agg [.int .i64 0, .int .i64 0, .str [], .nsl]]), (0, .row 33 4 [encV (.mk vk vn vs ks)])]) rfl
        ⟨⟨3, _, rfl, rfl, .cons (.agg (.cons (.fz' rfl rfl (by simp) rfl nns) (.cons (.int rfl) .nil))) .nil⟩, ⟨1, _, rfl, rfl, .same nns⟩, ⟨0, _, rfl, rfl, .same nns⟩, trivial⟩ (.cons (.ptr 3 3 0 0 rfl) (.cons (.same _ nn) .nil)) ?_
      refine gNextAt 3 7 (by omega) (by omega) (by omega) rfl fun k7 h3 h4 => ?_
    all_goals
      rcases (show k7 = 0 ∨ k7 = 1 ∨ k7 = 2 ∨ k7 = 3 ∨ k7 = 4 ∨ k7 = 5 ∨ k7 = 6 by omega) with rfl | rfl | rfl | rfl | rfl | rfl | rfl
      · conv => whnf
        exact bentF (.mk by_ vn vs ks) (.same _ nn) (okV_list hb hv2 hv3 hv4 hv5) (by simp only [sizeV]; omega)
      · conv => whnf
        exact bentF (.mk vk by_ vs ks) (.same _ nn) (okV_list hv1 hb hv3 hv4 hv5) (by simp only [sizeV]; omega)
      · conv => whnf
        refine ACalls.pre nnΓ [(6, 6), (4, 4), (1, 1), (0, 0)] (mem' := [(6, gB [by_] 0), (4, .row 9 1 [.str [], .str [97], .str [90], .str [65, 66, 67, 68, 69, 70, 71, 72, 73, 74, 75, 76, 77, 78, 79, 80], .str [65, 66, 67, 68, 69, 70, 71, 72, 73, 74, 75, 76, 77, 78, 79, 80, 81], .str [65, 45], .str [65, 98, 57, 95]]), (1, .row 33 4 [.agg [.int .i64 0, .int .i64 0, .str [], .nsl]]), (0, .row 33 4 [encV (.mk vk vn vs ks)])]) rfl
          ⟨⟨6, _, rfl, rfl, .cons (.agg (.cons (.fz' rfl rfl (by simp) rfl nns) (.cons (.int rfl) .nil))) .nil⟩, ⟨4, _, rfl, rfl, .same nns⟩, ⟨1, _, rfl, rfl, .same nns⟩, ⟨0, _, rfl, rfl, .same nns⟩, trivial⟩ (.cons (.ptr 6 6 0 0 rfl) (.cons (.same _ nn) .nil)) ?_
        refine gNextAt 6 7 (by omega) (by omega) (by omega) rfl fun s s1 s2 => ?_
        rcases (show s = 0 ∨ s = 1 ∨ s = 2 ∨ s = 3 ∨ s = 4 ∨ s = 5 ∨ s = 6 by omega) with rfl | rfl | rfl | rfl | rfl | rfl | rfl
        all_goals
          conv => whnf
          exact bentF (.mk vk vn _ ks) (.same _ nn) (okV_list hv1 hv2 (by simp) hv4 hv5) (by simp only [sizeV]; omega)
      · conv => whnf
        refine grd_mk (app_ok rfl rfl (by simp) (by rw [encVs_length]; omega)) ?_
        conv => whnf
        refine bentF (.mk vk vn vs (.mk 0 by_ [] [] :: ks)) (.agg' (.cons (.same _ nn) (.cons (.same _ nn) (.cons (.same _ nn) (.cons (.fzR rfl rfl (.cons (cvVal _ _ _) (.same nns)) ?_) .nil))))) (okV_list hv1 hv2 hv3 (by simp; omega) ⟨okV_leaf ⟨by omega, by omega⟩ hb, hv5⟩) (by simp only [sizeV, sizeL]; omega)
        simp [encVs_length]; omega
      · conv => whnf
        refine ACalls.pre nnΓ [(5, 5), (1, 1), (0, 0)] (mem' := [(5, gB [by_] 0), (1, .row 33 4 [.agg [.int .i64 0, .int .i64 0, .str [], .nsl]]), (0, .row 33 4 [encV (.mk vk vn vs ks)])]) rfl
          ⟨⟨5, _, rfl, rfl, .cons (.agg (.cons (.fz' rfl rfl (by simp) rfl nns) (.cons (.int rfl) .nil))) .nil⟩, ⟨1, _, rfl, rfl, .same nns⟩, ⟨0, _, rfl, rfl, .same nns⟩, trivial⟩ (.cons (.ptr 5 5 0 0 rfl) (.cons (.same _ nn) .nil)) ?_
        refine gNextAt 5 6 (by omega) (by omega) (by omega) rfl fun s s1 s2 => ?_
        conv => whnf
        have hw : IntKind.i64.wrap (253 + s) = ((253 + s.toNat : Nat) : Int) := w64 (by omega) ⟨by omega, by omega⟩
        rw [hw]
        refine (rMany (253 + s.toNat) (by omega)).go ?_
        conv => whnf
        exact bentF (.mk 2 0 [] (manyV (253 + s.toNat))) (.same _ nn) (okV_list ⟨by omega, by omega⟩ ⟨by omega, by omega⟩ (by simp) (by rw [manyV_length]; omega) (manyV_ok _)) (by simp only [sizeV, manyV_size]; omega)
      · conv => whnf
        refine ACalls.pre nnΓ [(5, 5), (1, 1), (0, 0)] (mem' := [(5, gB [by_] 0), (1, .row 33 4 [.agg [.int .i64 0, .int .i64 0, .str [], .nsl]]), (0, .row 33 4 [encV (.mk vk vn vs ks)])]) rfl
          ⟨⟨5, _, rfl, rfl, .cons (.agg (.cons (.fz' rfl rfl (by simp) rfl nns) (.cons (.int rfl) .nil))) .nil⟩, ⟨1, _, rfl, rfl, .same nns⟩, ⟨0, _, rfl, rfl, .same nns⟩, trivial⟩ (.cons (.ptr 5 5 0 0 rfl) (.cons (.same _ nn) .nil)) ?_
        refine gNextAt 5 5 (by omega) (by omega) (by omega) rfl fun s s1 s2 => ?_
        conv => whnf
        have hw : IntKind.i64.wrap (14 + s) = ((14 + s.toNat : Nat) : Int) := w64 (by omega) ⟨by omega, by omega⟩
        rw [hw]
        refine (rMany (14 + s.toNat) (by omega)).go ?_
        conv => whnf
        exact bentF (.mk 3 0 [77] (manyV (14 + s.toNat))) (.same _ nn) (okV_list ⟨by omega, by omega⟩ ⟨by omega, by omega⟩ (by simp) (by rw [manyV_length]; omega) (manyV_ok _)) (by simp only [sizeV, manyV_size]; omega)
      · conv => whnf
        refine (rMany 250 (by omega)).go ?_
        conv => whnf
        refine (rMany 255 (by omega)).go ?_
        conv => whnf
        refine (rMany 256 (by omega)).go ?_
        conv => whnf
        refine ACalls.pre nnΓ [(5, 5), (1, 1), (0, 0)] (mem' := [(5, gB [by_] 0), (1, .row 33 4 [.agg [.int .i64 0, .int .i64 0, .str [], .nsl]]), (0, .row 33 4 [encV (.mk vk vn vs ks)])]) rfl
          ⟨⟨5, _, rfl, rfl, .cons (.agg (.cons (.fz' rfl rfl (by simp) rfl nns) (.cons (.int rfl) .nil))) .nil⟩, ⟨1, _, rfl, rfl, .same nns⟩, ⟨0, _, rfl, rfl, .same nns⟩, trivial⟩ (.cons (.ptr 5 5 0 0 rfl) (.cons (.same _ nn) .nil)) ?_
        refine gNextAt 5 5 (by omega) (by omega) (by omega) rfl fun s s1 s2 => ?_
        conv => whnf
        have hw : IntKind.i64.wrap (252 + s) = ((252 + s.toNat : Nat) : Int) := w64 (by omega) ⟨by omega, by omega⟩
        rw [hw]
        refine (rMany (252 + s.toNat) (by omega)).go ?_
        conv => whnf
        refine bentF (.mk 2 0 [] [.mk 2 0 [] (manyV 250), .mk 2 0 [] (manyV 255), .mk 2 0 [] (manyV 256), .mk 2 0 [] (manyV (252 + s.toNat)), .mk 0 by_ [] [], .mk 0 1 [] []])
          (.agg' (.cons (.same _ nn) (.cons (.same _ nn) (.cons (.same _ nn) (.cons (.fzR rfl rfl (.cons (CvE.same (x := encV (.mk 2 0 [] (manyV 250))) nn) (.cons (CvE.same (x := encV (.mk 2 0 [] (manyV 255))) nn) (.cons (CvE.same (x := encV (.mk 2 0 [] (manyV 256))) nn) (.cons (CvE.same (x := encV (.mk 2 0 [] (manyV (252 + s.toNat)))) nn) (.cons (cvVal _ _ _) (.cons (cvVal _ _ _) .nil)))))) rfl) .nil)))))
          ?_ (by simp only [sizeV, sizeL, manyV_size]; omega)
        have hz : i64 0 := ⟨by omega, by omega⟩
        have h2 : i64 2 := ⟨by omega, by omega⟩
        have hmany : ∀ n : Nat, n ≤ 4294967296 → okV (.mk 2 0 [] (manyV n)) := fun n hn => okV_list h2 hz (by simp) (by rw [manyV_length]; omega) (manyV_ok _)
        exact okV_list h2 hz (by simp) (by simp) ⟨hmany _ (by omega), hmany _ (by omega), hmany _ (by omega), hmany _ (by omega), okV_leaf hz hb, okV_leaf hz ⟨by omega, by omega⟩, trivial⟩
  termination_by v => SizeOf.sizeOf v
  decreasing_by simp; have := List.sizeOf_lt_of_mem hm; omega

/-- 'refuterlaw10.some'. -/
theorem rSome (l : List Int) (bent by_ : Int) (hb : i64 by_) : ACalls Tryz.prog [] 15 [.il 1 (encI l), .int .i64 bent, .int .i64 by_] [] 0 fun r m n => ∃ v', r = encV v' ∧ okV v' ∧ sizeV v' ≤ 10000 ∧ (bent ≤ 0 → genV 3 v') ∧ m = [] ∧ n = 0 := by
  refine acalls_run nnΓ Tryz.func15 rfl ?_
  conv => whnf
  refine ACalls.use1 nnΓ (gValue l 3 0 (by omega) (by decide)) 1 rfl (gNN l 0) (.cons (.ptr 1 0 0 0 rfl) (.cons (.same _ nn) .nil)) ?_
  rintro r m n ⟨⟨a, b, c, d⟩, j, rfl, hv, g1, g2, rfl⟩
  have hok := genV_ok hv
  have hsz := genV_size hv
  refine ⟨_, rfl, nn, gNN l j, ?_⟩
  conv => whnf
  refine bcs_mk (fun h => ?_) (fun h => ?_)
  · have h : 0 < bent := by simpa using h
    conv => whnf
    refine ACalls.go0 (rBent (.mk a b c d) bent by_ hok (by omega) hb) ?_
    rintro r m n ⟨⟨a', b', c', d'⟩, rfl, o1, o2, rfl, rfl⟩
    refine ⟨_, .same _ nn, ?_⟩
    conv => whnf
    exact fin_pure nn ⟨_, rfl, o1, by omega, fun h' => by omega, rfl, rfl⟩
  · conv => whnf
    exact fin_pure nn ⟨_, rfl, hok, by omega, fun _ => hv, rfl, rfl⟩
end Go.Proofs.YtfnhkfdjhmgjbaaGreatDoor

namespace Go.Proofs.YtfnhkfdjhmgjbaaGreatDoor
open Go Go.Ax Go.Proofs
set_option linter.unusedVariables false
set_option maxRecDepth 1000000
theorem lives31 : ((fdeep Tryz.prog gz 60).call 14 [] [] 0 fun r _ _ => saysTrue r) = True := by kernel_rfl
end Go.Proofs.YtfnhkfdjhmgjbaaGreatDoor

namespace Go.Proofs.YtfnhkfdjhmgjbaaGreatDoor
open Go Go.Ax Go.Proofs
set_option linter.unusedVariables false
set_option maxRecDepth 100000
set_option maxHeartbeats 8000000

theorem neb_self (b : Bool) : (!(b == b)) = false := by simp
theorem cvr_set {mem : Mem} {σ : List (Nat × Nat)} {xs ys : List AV} {i : Nat} {x y : AV} (hs : CvR mem σ xs ys) (h : CvE mem σ x y) : CvR mem σ (xs.set i x) (ys.set i y) := by
  refine ⟨by simp; exact hs.1, fun j a b ha hb => ?_⟩
  rw [List.getElem?_set] at ha hb
  split at ha
  · rename_i e
    rw [if_pos e] at hb
    split at ha
    · split at hb
      · cases ha; cases hb; exact h
      · cases hb
    · cases ha
  · rename_i e
    rw [if_neg e] at hb
    exact hs.2 j a b ha hb

theorem gNextZ (g : Nat) {l : List Int} {i : Nat} (most : Int) (hi : i ≤ 4611686018427387904) (hm : most ≤ 4611686018427387904) (hp : 1 ≤ most) {mem : Mem} {nx : Nat} {K : AV → Mem → Nat → Prop} (hg : lk mem g = some (gB l i))
    (hk : ∀ k : Int, 0 ≤ k → k < most → dropK g mem fun rest => K (.int .i64 k) ((g, gB l (i + 1)) :: rest) nx) : ACalls Tryz.prog gz 11 [.ptr g 0 0, .int .i64 most] mem nx K := by
  refine ACalls.use1 nngz (gNext l i most hi hm).glob g hg (gNN l i) (.cons (.ptr g 0 0 0 (by simp [lk])) (.cons (.same _ (.int _ _)) .nil)) ?_
  rintro r m n ⟨k, rfl, h1, h2, rfl⟩
  exact ⟨_, rfl, .int _ _, gNN l (i + 1), hk k h1 (by omega)⟩

theorem lawOptionsW (l m : List Int) (k : Int) (hl : ∀ x ∈ l, i64 x) (hm : ∀ x ∈ m, i64 x) (hk : i64 k) : PureC Tryz.prog gz 3 [.il 1 (encI l), .il 1 (encI m), .int .i64 k] (.bool true) := by
  have hLB : ∀ s ∈ abcd, s ∈ LB := fun s hs => by unfold LB; exact List.mem_append_right _ hs
  refine acalls_go nngz Tryz.func3 rfl ?_
  ((conv => whnf); repeat ((first | refine AWp.many ?_ | refine AOps.many ?_ | refine ADr.go ?_); conv => whnf))
  refine ACalls.useN nngz [] (oTree l hl).glob rfl (.same (.cons (.il' (encI_nn _)) .nil)) trivial rfl ?_
  rintro r m' n' ⟨av, ha, hal, rfl, rfl, rfl⟩
  have hA := lawN_tree hLB ha
  clear ha
  refine ⟨[(0, 0)], .agg [.sl 0 0 av.length], [(0, .row 35 12 (encNs av))], 1, .agg' (.cons (.sl 0 0 0 _ rfl) .nil), ⟨⟨0, _, rfl, rfl, .same (encNs_nn _)⟩, trivial⟩, rfl, ?_⟩
  ((conv => whnf); repeat ((first | refine AWp.many ?_ | refine AOps.many ?_ | refine ADr.go ?_); conv => whnf))
  refine ACalls.useN nngz [] (oTree m hm).glob rfl (.same (.cons (.il' (encI_nn _)) .nil)) trivial rfl ?_
  rintro r m' n' ⟨bs, hb, hbl, rfl, rfl, rfl⟩
  have hB := lawN_tree hLB hb
  clear hb
  refine ⟨[(0, 1)], .agg [.sl 1 0 bs.length], [(1, .row 35 12 (encNs bs))], 2, .agg' (.cons (.sl 0 1 0 _ rfl) .nil), ⟨⟨0, _, rfl, rfl, .same (encNs_nn _)⟩, trivial⟩, rfl, ?_⟩
  ((conv => whnf); repeat ((first | refine AWp.many ?_ | refine AOps.many ?_ | refine ADr.go ?_); conv => whnf))
  obtain ⟨lb, hlb⟩ : ∃ lb, lb = bs.length := ⟨_, rfl⟩
  rw [← hlb] at hbl ⊢
  refine ALoop.at nngz (fun p : Nat × Nat × List Nd => p.1 ≤ lb ∧ p.2.1 ≤ 2000 * p.1 ∧ p.2.2.length = lb ∧ ∀ x ∈ p.2.2, LawN LB x)
    (fun p => ⟨[(2, .int .i64 k), (7, .sl 0 0 av.length), (8, .sl 1 0 lb), (9, .ptr 2 0 0), (10, .int .i64 p.1)], [(0, .row 35 12 (encNs av)), (1, .row 35 12 (encNs p.2.2)), (2, gB m p.2.1)], 3, 198⟩)
    (fun p => lb - p.1) (0, 0, bs) [(0, 0), (1, 1), (2, 2)] ⟨by simp, by simp, hlb.symm, hB⟩
    (conv_mk _ rfl ⟨⟨0, _, rfl, rfl, .same (encNs_nn _)⟩, ⟨1, _, rfl, rfl, .same (encNs_nn _)⟩, ⟨2, _, rfl, rfl, .same (gNN m 0)⟩, trivial⟩ ⟨⟨_, rfl, .same _ nn⟩, ⟨_, rfl, .sl 0 0 0 _ rfl⟩, ⟨_, rfl, .sl 1 1 0 _ rfl⟩, ⟨_, rfl, .ptr 2 2 0 0 rfl⟩, ⟨_, rfl, .same _ nn⟩, trivial⟩) ?_
  clear hB hlb bs
  rintro ⟨i, gi, bs⟩ ⟨hi, hgi, hlb, hB⟩
  simp only at hi hgi hlb hB ⊢
  ((conv => whnf); repeat ((first | refine AWp.many ?_ | refine AOps.many ?_ | refine ADr.go ?_); conv => whnf))
  refine bcs_mk (fun h => ?_) (fun h => ?_)
  · have hil : i < lb := by simpa using h
    obtain ⟨x, hx1, hx2, ex, bx⟩ := encN_own (l := bs) (k := i) (n := lb) (by omega) hlb
    have hX := hB x (List.mem_of_getElem? hx1)
    have hset : ∀ ls : List (List UInt8), encNs (bs.set i { x with labels := ls }) = (encNs bs).set i (encN { x with labels := ls }) := fun ls => by unfold encNs; rw [List.map_set]
    have hcv : ∀ ls : List (List UInt8), ls.length = x.kids.length → ls.length ≤ 1000 → (∀ s ∈ ls, s ∈ LB) → ∀ y ∈ bs.set i { x with labels := ls }, LawN LB y := fun ls h1 h2 h3 y hy => by
      rcases List.mem_or_eq_of_mem_set hy with hy | rfl
      · exact hB y hy
      · exact lawN_labels hX h1 h2 h3 fun s hs => LB_len hs
    have hch := hX.opt.ch
    obtain ⟨kind, name, lo, hi', ws, ls, vals, kids, ⟨vk, vn, vs, vks⟩⟩ := x
    simp only at hset hcv hch
    ((conv => whnf); repeat ((first | refine AWp.many ?_ | refine AOps.many ?_ | refine ADr.go ?_); conv => whnf))
    repeat (first | (refine grd_mk bx ?_; ((conv => whnf); repeat ((first | refine AWp.many ?_ | refine AOps.many ?_ | refine ADr.go ?_); conv => whnf))) | (refine opt_mk ex ?_; ((conv => whnf); repeat ((first | refine AWp.many ?_ | refine AOps.many ?_ | refine ADr.go ?_); conv => whnf))))
    by_cases k2 : kind = 2
    · subst k2
      ((conv => whnf); repeat ((first | refine AWp.many ?_ | refine AOps.many ?_ | refine ADr.go ?_); conv => whnf))
      refine gNextZ 2 3 (by omega) (by omega) (by omega) rfl ?_
      intro q q0 q1
      ((conv => whnf); repeat ((first | refine AWp.many ?_ | refine AOps.many ?_ | refine ADr.go ?_); conv => whnf))
      refine bcs_mk (fun h => ?_) (fun h => ?_)
      · ((conv => whnf); repeat ((first | refine AWp.many ?_ | refine AOps.many ?_ | refine ADr.go ?_); conv => whnf))
        have hkl : kids.length ≤ 1000 := by have := hX.opt.kl2 rfl; simp only at this; omega
        have hk1 := (hch rfl).1
        have hE : ∀ q : Int, 0 ≤ q → q < 8 → ∃ s, s ∈ LB ∧ (encS l8)[0 + q.toNat]? = some (.str s) := fun q h0 h1 => by
          have hq : q.toNat < l8.length := by simp [l8]; omega
          exact ⟨l8[q.toNat], by unfold LB; exact List.mem_append_left _ (List.getElem_mem hq), by simp [encS_get, List.getElem?_eq_getElem hq]⟩
        refine ALoop.ph 9 1 ?_
        refine ALoop.at nngz (fun p : Nat × Nat × List (List UInt8) => p.1 ≤ kids.length ∧ p.2.1 ≤ gi + 1 + p.1 ∧ p.2.2.length = p.1 ∧ ∀ s ∈ p.2.2, s ∈ LB)
          (fun p => ⟨[(2, .int .i64 k), (7, .sl 0 0 av.length), (8, .sl 1 0 lb), (9, .ptr 2 0 0), (10, .int .i64 i), (11, .sl 3 0 p.1), (12, .int .i64 p.1)], [(0, .row 35 12 (encNs av)), (1, .row 35 12 (encNs bs)), (2, gB m p.2.1), (3, .row 9 1 (encS p.2.2))], 4, 198⟩)
          (fun p => kids.length - p.1) (0, gi + 1, []) [(0, 0), (1, 1), (2, 2), (3, 3)] ⟨by simp, by simp, by simp, by simp⟩
          (conv_mk _ rfl ⟨⟨0, _, rfl, rfl, .same (encNs_nn _)⟩, ⟨1, _, rfl, rfl, .same (encNs_nn _)⟩, ⟨2, _, rfl, rfl, .same (gNN m _)⟩, ⟨3, _, rfl, rfl, .same .nil⟩, trivial⟩ ⟨⟨_, rfl, .same _ nn⟩, ⟨_, rfl, .sl 0 0 0 _ rfl⟩, ⟨_, rfl, .sl 1 1 0 _ rfl⟩, ⟨_, rfl, .ptr 2 2 0 0 rfl⟩, ⟨_, rfl, .same _ nn⟩, ⟨_, rfl, .nslk 3 3 _ rfl rfl⟩, ⟨_, rfl, .same _ nn⟩, trivial⟩) ?_
        rintro ⟨j, gj, ll⟩ ⟨hj, hgj, hll, hL⟩
        simp only at hj hgj hll hL ⊢
        ((conv => whnf); repeat ((first | refine AWp.many ?_ | refine AOps.many ?_ | refine ADr.go ?_); conv => whnf))
        repeat (first | (refine grd_mk bx ?_; ((conv => whnf); repeat ((first | refine AWp.many ?_ | refine AOps.many ?_ | refine ADr.go ?_); conv => whnf))) | (refine opt_mk ex ?_; ((conv => whnf); repeat ((first | refine AWp.many ?_ | refine AOps.many ?_ | refine ADr.go ?_); conv => whnf))))
        refine bcs_mk (fun h => ?_) (fun h => ?_)
        · have hjl : j < kids.length := by rw [encI_length] at h; simpa using h
          ((conv => whnf); repeat ((first | refine AWp.many ?_ | refine AOps.many ?_ | refine ADr.go ?_); conv => whnf))
          refine gNextZ 2 8 (by omega) (by omega) (by omega) rfl ?_
          intro q q0 q1
          obtain ⟨s, hs, es⟩ := hE q q0 q1
          obtain ⟨q, rfl⟩ := Int.eq_ofNat_of_zero_le q0
          have bq : Nat.blt (q : Int).toNat 8 = true := Nat.ble_eq_true_of_le (by simp; omega)
          ((conv => whnf); repeat ((first | refine AWp.many ?_ | refine AOps.many ?_ | refine ADr.go ?_); conv => whnf))
          repeat (first | (refine grd_mk bq ?_; ((conv => whnf); repeat ((first | refine AWp.many ?_ | refine AOps.many ?_ | refine ADr.go ?_); conv => whnf))) | (refine opt_mk es ?_; ((conv => whnf); repeat ((first | refine AWp.many ?_ | refine AOps.many ?_ | refine ADr.go ?_); conv => whnf))))
          refine grd_mk (app_ok rfl rfl (by rw [encS_length]; omega) (by simp; omega)) ?_
          ((conv => whnf); repeat ((first | refine AWp.many ?_ | refine AOps.many ?_ | refine ADr.go ?_); conv => whnf))
          exact .mk (j + 1, gj + 1, ll ++ [s]) [(0, 0), (1, 1), (2, 2), (6, 3)] ⟨by simp only; omega, by simp only; omega, by simp [hll], fun t ht => by
              rcases List.mem_append.1 ht with ht | ht
              · exact hL t ht
              · simp at ht; subst ht; exact hs⟩
            (conv_mk _ rfl ⟨⟨0, _, rfl, rfl, .same (encNs_nn _)⟩, ⟨1, _, rfl, rfl, .same (encNs_nn _)⟩, ⟨2, _, rfl, rfl, .same (gNN m _)⟩, ⟨6, _, rfl, rfl, .eq (encS_nn _) (by simp [encS])⟩, trivial⟩ ⟨⟨_, rfl, .same _ nn⟩, ⟨_, rfl, .sl 0 0 0 _ rfl⟩, ⟨_, rfl, .sl 1 1 0 _ rfl⟩, ⟨_, rfl, .ptr 2 2 0 0 rfl⟩, ⟨_, rfl, .same _ nn⟩, ⟨_, rfl, .slE rfl (by simp)⟩, ⟨_, rfl, .w64 (by simp only; omega) ⟨by simp only; omega, by simp only; omega⟩⟩, trivial⟩) (by simp only; omega)
        · have hjl : j = kids.length := by rw [encI_length] at h; simp at h; omega
          ((conv => whnf); repeat ((first | refine AWp.many ?_ | refine AOps.many ?_ | refine ADr.go ?_); conv => whnf))
          repeat (first | (refine grd_mk bx ?_; ((conv => whnf); repeat ((first | refine AWp.many ?_ | refine AOps.many ?_ | refine ADr.go ?_); conv => whnf))) | (refine opt_mk ex ?_; ((conv => whnf); repeat ((first | refine AWp.many ?_ | refine AOps.many ?_ | refine ADr.go ?_); conv => whnf))))
          refine setK_iff.2 ?_
          ((conv => whnf); repeat ((first | refine AWp.many ?_ | refine AOps.many ?_ | refine ADr.go ?_); conv => whnf))
          have ei : 0 + ((i : Nat) : Int).toNat = i := by simp
          rw [ei]
          have hset := hset ll
          have hcv := hcv ll (by omega) (by omega) hL
          exact .mk (i + 1, gj, bs.set i ⟨2, name, lo, hi', ws, ll, vals, kids, .mk vk vn vs vks⟩) [(0, 0), (1, 1), (2, 2)] ⟨by simp only; omega, by simp only; omega, by simp only [List.length_set]; exact hlb, hcv⟩
            (conv_mk _ rfl ⟨⟨0, _, rfl, rfl, .same (encNs_nn _)⟩, ⟨1, _, rfl, rfl, by simp only; rw [hset]; exact cvr_set (.same (encNs_nn _)) (.agg (.cons (.same _ nn) (.cons (.same _ nn) (.cons (.same _ nn) (.cons (.same _ nn) (.cons (.same _ (.il' (encI_nn _))) (.cons (.fz' (id := 3) rfl rfl (by rw [encS_length]; omega) (by rw [List.drop_zero]; exact List.take_of_length_le (by rw [encS_length]; omega)) (encS_nn _)) (.cons (.same _ (.il' (encVs_nn _))) (.cons (.same _ (.il' (encI_nn _))) (.cons (.same _ nn) (.cons (.same _ nn) (.cons (.same _ nn) (.cons (.same _ (.il' (encVs_nn _))) .nil)))))))))))))⟩, ⟨2, _, rfl, rfl, .same (gNN m _)⟩, trivial⟩ ⟨⟨_, rfl, .same _ nn⟩, ⟨_, rfl, .sl 0 0 0 _ rfl⟩, ⟨_, rfl, .sl 1 1 0 _ rfl⟩, ⟨_, rfl, .ptr 2 2 0 0 rfl⟩, ⟨_, rfl, .w64 (by simp only; omega) ⟨by simp only; omega, by simp only; omega⟩⟩, trivial⟩) (by simp only; omega)
      · ((conv => whnf); repeat ((first | refine AWp.many ?_ | refine AOps.many ?_ | refine ADr.go ?_); conv => whnf))
        exact .mk (i + 1, gi + 1, bs) [(0, 0), (1, 1), (2, 2)] ⟨by simp only; omega, by simp only; omega, hlb, hB⟩
          (conv_mk _ rfl ⟨⟨0, _, rfl, rfl, .same (encNs_nn _)⟩, ⟨1, _, rfl, rfl, .same (encNs_nn _)⟩, ⟨2, _, rfl, rfl, .same (gNN m _)⟩, trivial⟩ ⟨⟨_, rfl, .same _ nn⟩, ⟨_, rfl, .sl 0 0 0 _ rfl⟩, ⟨_, rfl, .sl 1 1 0 _ rfl⟩, ⟨_, rfl, .ptr 2 2 0 0 rfl⟩, ⟨_, rfl, .w64 (by simp only; omega) ⟨by simp only; omega, by simp only; omega⟩⟩, trivial⟩) (by simp only; omega)
    · have d2 : (kind == 2) = false := by simpa using k2
      rw [d2]
      ((conv => whnf); repeat ((first | refine AWp.many ?_ | refine AOps.many ?_ | refine ADr.go ?_); conv => whnf))
      exact .mk (i + 1, gi, bs) [(0, 0), (1, 1), (2, 2)] ⟨by simp only; omega, by simp only; omega, hlb, hB⟩
        (conv_mk _ rfl ⟨⟨0, _, rfl, rfl, .same (encNs_nn _)⟩, ⟨1, _, rfl, rfl, .same (encNs_nn _)⟩, ⟨2, _, rfl, rfl, .same (gNN m _)⟩, trivial⟩ ⟨⟨_, rfl, .same _ nn⟩, ⟨_, rfl, .sl 0 0 0 _ rfl⟩, ⟨_, rfl, .sl 1 1 0 _ rfl⟩, ⟨_, rfl, .ptr 2 2 0 0 rfl⟩, ⟨_, rfl, .w64 (by simp only; omega) ⟨by simp only; omega, by simp only; omega⟩⟩, trivial⟩) (by simp only; omega)
  · ((conv => whnf); repeat ((first | refine AWp.many ?_ | refine AOps.many ?_ | refine ADr.go ?_); conv => whnf))
    clear h hgi hi
    refine ALoop.at nngz (fun i : Nat => i ≤ av.length) (fun i => ⟨[(2, .int .i64 k), (7, .sl 0 0 av.length), (8, .sl 1 0 lb), (13, .int .i64 i)], [(0, .row 35 12 (encNs av)), (1, .row 35 12 (encNs bs))], 2, 198⟩)
      (fun i => av.length - i) 0 [(0, 0), (1, 1)] (by simp) (conv_mk _ rfl ⟨⟨0, _, rfl, rfl, .same (encNs_nn _)⟩, ⟨1, _, rfl, rfl, .same (encNs_nn _)⟩, trivial⟩ ⟨⟨_, rfl, .same _ nn⟩, ⟨_, rfl, .sl 0 0 0 _ rfl⟩, ⟨_, rfl, .sl 1 1 0 _ rfl⟩, ⟨_, rfl, .same _ nn⟩, trivial⟩) ?_
    intro i hi
    ((conv => whnf); repeat ((first | refine AWp.many ?_ | refine AOps.many ?_ | refine ADr.go ?_); conv => whnf))
    refine bcs_mk (fun h => ?_) (fun h => ?_)
    · have hil : i < av.length := by simpa using h
      obtain ⟨x, hx1, -, ex, bx⟩ := encN_own (l := av) (k := i) (n := av.length) (by omega) rfl
      have hX := hA x (List.mem_of_getElem? hx1)
      have hxn := encN_nn x
      have hxc : (encN x).cells.length = 12 := by obtain ⟨kind, name, lo, hi, ws, ls, vals, kids, ⟨vk, vn, vs, vks⟩⟩ := x; rfl
      ((conv => whnf); repeat ((first | refine AWp.many ?_ | refine AOps.many ?_ | refine ADr.go ?_); conv => whnf))
      refine ALoop.at nngz (fun j : Nat => j ≤ lb) (fun j => ⟨[(2, .int .i64 k), (7, .sl 0 0 av.length), (8, .sl 1 0 lb), (13, .int .i64 i), (14, .int .i64 j)], [(0, .row 35 12 (encNs av)), (1, .row 35 12 (encNs bs))], 2, 198⟩)
        (fun j => lb - j) 0 [(0, 0), (1, 1)] (by simp) (conv_mk _ rfl ⟨⟨0, _, rfl, rfl, .same (encNs_nn _)⟩, ⟨1, _, rfl, rfl, .same (encNs_nn _)⟩, trivial⟩ ⟨⟨_, rfl, .same _ nn⟩, ⟨_, rfl, .sl 0 0 0 _ rfl⟩, ⟨_, rfl, .sl 1 1 0 _ rfl⟩, ⟨_, rfl, .same _ nn⟩, ⟨_, rfl, .same _ nn⟩, trivial⟩) ?_
      intro j hj
      ((conv => whnf); repeat ((first | refine AWp.many ?_ | refine AOps.many ?_ | refine ADr.go ?_); conv => whnf))
      refine bcs_mk (fun h => ?_) (fun h => ?_)
      · have hjl : j < lb := by simpa using h
        obtain ⟨y, hy1, -, ey, by_⟩ := encN_own (l := bs) (k := j) (n := lb) (by omega) hlb
        have hY := hB y (List.mem_of_getElem? hy1)
        have hyn := encN_nn y
        have hD1 := fun n hn => dOption x y n hn hX.opt hY.opt (fun s hs => by have := LB_len (hX.lab s hs); omega) hY.ll
        have hR1 := fun n hn => rOption31 x y n hn hX.opt hY.opt hX.lab
        have hD2 := fun n hn => dOption y x n hn hY.opt hX.opt (fun s hs => by have := LB_len (hY.lab s hs); omega) hX.ll
        have hR2 := fun n hn => rOption31 y x n hn hY.opt hX.opt hY.lab
        obtain ⟨kind, name, lo, hi', ws, ls, vals, kids, ⟨vk, vn, vs, vks⟩⟩ := x
        obtain ⟨kind', name', lo', hi'', ws', ls', vals', kids', ⟨vk', vn', vs', vks'⟩⟩ := y
        ((conv => whnf); repeat ((first | refine AWp.many ?_ | refine AOps.many ?_ | refine ADr.go ?_); conv => whnf))
        refine ALoop.at nngz (fun n : Nat => n ≤ 7) (fun n => ⟨[(2, .int .i64 k), (7, .sl 0 0 av.length), (8, .sl 1 0 lb), (13, .int .i64 i), (14, .int .i64 j), (15, .int .i64 ((n : Int) - 1))], [(0, .row 35 12 (encNs av)), (1, .row 35 12 (encNs bs))], 2, 198⟩)
          (fun n => 7 - n) 0 [(0, 0), (1, 1)] (by simp) (conv_mk _ rfl ⟨⟨0, _, rfl, rfl, .same (encNs_nn _)⟩, ⟨1, _, rfl, rfl, .same (encNs_nn _)⟩, trivial⟩ ⟨⟨_, rfl, .same _ nn⟩, ⟨_, rfl, .sl 0 0 0 _ rfl⟩, ⟨_, rfl, .sl 1 1 0 _ rfl⟩, ⟨_, rfl, .same _ nn⟩, ⟨_, rfl, .same _ nn⟩, ⟨_, rfl, .same _ nn⟩, trivial⟩) ?_
        intro n hn
        have hni : i64 ((n : Int) - 1) := ⟨by omega, by omega⟩
        have hD1' := hD1 _ hni
        have hR1' := hR1 _ hni
        have hD2' := hD2 _ hni
        have hR2' := hR2 _ hni
        have hD3 := hD1 k hk
        have hR3 := hR1 k hk
        clear hD1 hR1 hD2 hR2
        generalize optR _ _ ((n : Int) - 1) = p at hD1' hR1'
        generalize optR _ _ ((n : Int) - 1) = p' at hD2' hR2'
        generalize optR _ _ k = p'' at hD3 hR3
        obtain ⟨p1, p2⟩ := p
        obtain ⟨q1, q2⟩ := p'
        obtain ⟨s1, s2⟩ := p''
        simp only at hD1' hR1' hD2' hR2' hD3 hR3
        ((conv => whnf); repeat ((first | refine AWp.many ?_ | refine AOps.many ?_ | refine ADr.go ?_); conv => whnf))
        refine bcs_mk (fun h => ?_) (fun h => ?_)
        · have hn6 : n < 7 := by simp at h; omega
          ((conv => whnf); repeat ((first | refine AWp.many ?_ | refine AOps.many ?_ | refine ADr.go ?_); conv => whnf))
          repeat (first | (refine grd_mk bx ?_; ((conv => whnf); repeat ((first | refine AWp.many ?_ | refine AOps.many ?_ | refine ADr.go ?_); conv => whnf))) | (refine opt_mk ex ?_; ((conv => whnf); repeat ((first | refine AWp.many ?_ | refine AOps.many ?_ | refine ADr.go ?_); conv => whnf))) | (refine grd_mk by_ ?_; ((conv => whnf); repeat ((first | refine AWp.many ?_ | refine AOps.many ?_ | refine ADr.go ?_); conv => whnf))) | (refine opt_mk ey ?_; ((conv => whnf); repeat ((first | refine AWp.many ?_ | refine AOps.many ?_ | refine ADr.go ?_); conv => whnf))))
          refine hD1'.use nngz (.cons hxn (.cons hyn nns)) nn ?_
          ((conv => whnf); repeat ((first | refine AWp.many ?_ | refine AOps.many ?_ | refine ADr.go ?_); conv => whnf))
          repeat (first | (refine grd_mk bx ?_; ((conv => whnf); repeat ((first | refine AWp.many ?_ | refine AOps.many ?_ | refine ADr.go ?_); conv => whnf))) | (refine opt_mk ex ?_; ((conv => whnf); repeat ((first | refine AWp.many ?_ | refine AOps.many ?_ | refine ADr.go ?_); conv => whnf))) | (refine grd_mk by_ ?_; ((conv => whnf); repeat ((first | refine AWp.many ?_ | refine AOps.many ?_ | refine ADr.go ?_); conv => whnf))) | (refine opt_mk ey ?_; ((conv => whnf); repeat ((first | refine AWp.many ?_ | refine AOps.many ?_ | refine ADr.go ?_); conv => whnf))))
          refine hR1'.goG ?_ (.cons hxn (.cons hyn nns)) nn
          ((conv => whnf); repeat ((first | refine AWp.many ?_ | refine AOps.many ?_ | refine ADr.go ?_); conv => whnf))
          repeat (first | (refine grd_mk bx ?_; ((conv => whnf); repeat ((first | refine AWp.many ?_ | refine AOps.many ?_ | refine ADr.go ?_); conv => whnf))) | (refine opt_mk ex ?_; ((conv => whnf); repeat ((first | refine AWp.many ?_ | refine AOps.many ?_ | refine ADr.go ?_); conv => whnf))) | (refine grd_mk by_ ?_; ((conv => whnf); repeat ((first | refine AWp.many ?_ | refine AOps.many ?_ | refine ADr.go ?_); conv => whnf))) | (refine opt_mk ey ?_; ((conv => whnf); repeat ((first | refine AWp.many ?_ | refine AOps.many ?_ | refine ADr.go ?_); conv => whnf))))
          refine hD2'.use nngz (.cons hyn (.cons hxn nns)) nn ?_
          ((conv => whnf); repeat ((first | refine AWp.many ?_ | refine AOps.many ?_ | refine ADr.go ?_); conv => whnf))
          repeat (first | (refine grd_mk bx ?_; ((conv => whnf); repeat ((first | refine AWp.many ?_ | refine AOps.many ?_ | refine ADr.go ?_); conv => whnf))) | (refine opt_mk ex ?_; ((conv => whnf); repeat ((first | refine AWp.many ?_ | refine AOps.many ?_ | refine ADr.go ?_); conv => whnf))) | (refine grd_mk by_ ?_; ((conv => whnf); repeat ((first | refine AWp.many ?_ | refine AOps.many ?_ | refine ADr.go ?_); conv => whnf))) | (refine opt_mk ey ?_; ((conv => whnf); repeat ((first | refine AWp.many ?_ | refine AOps.many ?_ | refine ADr.go ?_); conv => whnf))))
          refine hR2'.goG ?_ (.cons hyn (.cons hxn nns)) nn
          ((conv => whnf); repeat ((first | refine AWp.many ?_ | refine AOps.many ?_ | refine ADr.go ?_); conv => whnf))
          rw [ne_self']
          ((conv => whnf); repeat ((first | refine AWp.many ?_ | refine AOps.many ?_ | refine ADr.go ?_); conv => whnf))
          rw [neb_self]
          ((conv => whnf); repeat ((first | refine AWp.many ?_ | refine AOps.many ?_ | refine ADr.go ?_); conv => whnf))
          rw [ne_self']
          ((conv => whnf); repeat ((first | refine AWp.many ?_ | refine AOps.many ?_ | refine ADr.go ?_); conv => whnf))
          rw [neb_self]
          ((conv => whnf); repeat ((first | refine AWp.many ?_ | refine AOps.many ?_ | refine ADr.go ?_); conv => whnf))
          exact .mk (n + 1) [(0, 0), (1, 1)] (by omega) (conv_mk _ rfl ⟨⟨0, _, rfl, rfl, .same (encNs_nn _)⟩, ⟨1, _, rfl, rfl, .same (encNs_nn _)⟩, trivial⟩ ⟨⟨_, rfl, .same _ nn⟩, ⟨_, rfl, .sl 0 0 0 _ rfl⟩, ⟨_, rfl, .sl 1 1 0 _ rfl⟩, ⟨_, rfl, .same _ nn⟩, ⟨_, rfl, .same _ nn⟩, ⟨_, rfl, .w64 (by omega) ⟨by omega, by omega⟩⟩, trivial⟩) (by omega)
        · ((conv => whnf); repeat ((first | refine AWp.many ?_ | refine AOps.many ?_ | refine ADr.go ?_); conv => whnf))
          repeat (first | (refine grd_mk bx ?_; ((conv => whnf); repeat ((first | refine AWp.many ?_ | refine AOps.many ?_ | refine ADr.go ?_); conv => whnf))) | (refine opt_mk ex ?_; ((conv => whnf); repeat ((first | refine AWp.many ?_ | refine AOps.many ?_ | refine ADr.go ?_); conv => whnf))) | (refine grd_mk by_ ?_; ((conv => whnf); repeat ((first | refine AWp.many ?_ | refine AOps.many ?_ | refine ADr.go ?_); conv => whnf))) | (refine opt_mk ey ?_; ((conv => whnf); repeat ((first | refine AWp.many ?_ | refine AOps.many ?_ | refine ADr.go ?_); conv => whnf))))
          refine hD3.use nngz (.cons hxn (.cons hyn nns)) nn ?_
          ((conv => whnf); repeat ((first | refine AWp.many ?_ | refine AOps.many ?_ | refine ADr.go ?_); conv => whnf))
          repeat (first | (refine grd_mk bx ?_; ((conv => whnf); repeat ((first | refine AWp.many ?_ | refine AOps.many ?_ | refine ADr.go ?_); conv => whnf))) | (refine opt_mk ex ?_; ((conv => whnf); repeat ((first | refine AWp.many ?_ | refine AOps.many ?_ | refine ADr.go ?_); conv => whnf))) | (refine grd_mk by_ ?_; ((conv => whnf); repeat ((first | refine AWp.many ?_ | refine AOps.many ?_ | refine ADr.go ?_); conv => whnf))) | (refine opt_mk ey ?_; ((conv => whnf); repeat ((first | refine AWp.many ?_ | refine AOps.many ?_ | refine ADr.go ?_); conv => whnf))))
          refine hR3.goG ?_ (.cons hxn (.cons hyn nns)) nn
          ((conv => whnf); repeat ((first | refine AWp.many ?_ | refine AOps.many ?_ | refine ADr.go ?_); conv => whnf))
          rw [ne_self']
          ((conv => whnf); repeat ((first | refine AWp.many ?_ | refine AOps.many ?_ | refine ADr.go ?_); conv => whnf))
          rw [neb_self]
          ((conv => whnf); repeat ((first | refine AWp.many ?_ | refine AOps.many ?_ | refine ADr.go ?_); conv => whnf))
          exact .mk (j + 1) [(0, 0), (1, 1)] (by omega) (conv_mk _ rfl ⟨⟨0, _, rfl, rfl, .same (encNs_nn _)⟩, ⟨1, _, rfl, rfl, .same (encNs_nn _)⟩, trivial⟩ ⟨⟨_, rfl, .same _ nn⟩, ⟨_, rfl, .sl 0 0 0 _ rfl⟩, ⟨_, rfl, .sl 1 1 0 _ rfl⟩, ⟨_, rfl, .same _ nn⟩, ⟨_, rfl, .w64 (by omega) ⟨by omega, by omega⟩⟩, trivial⟩) (by omega)
      · ((conv => whnf); repeat ((first | refine AWp.many ?_ | refine AOps.many ?_ | refine ADr.go ?_); conv => whnf))
        exact .mk (i + 1) [(0, 0), (1, 1)] (by omega) (conv_mk _ rfl ⟨⟨0, _, rfl, rfl, .same (encNs_nn _)⟩, ⟨1, _, rfl, rfl, .same (encNs_nn _)⟩, trivial⟩ ⟨⟨_, rfl, .same _ nn⟩, ⟨_, rfl, .sl 0 0 0 _ rfl⟩, ⟨_, rfl, .sl 1 1 0 _ rfl⟩, ⟨_, rfl, .w64 (by omega) ⟨by omega, by omega⟩⟩, trivial⟩) (by omega)
    · ((conv => whnf); repeat ((first | refine AWp.many ?_ | refine AOps.many ?_ | refine ADr.go ?_); conv => whnf))
      refine ACalls.call0 nngz (acalls_closed 60 (by rw [lives31]; trivial)) .nil ?_
      intro r m' n' hr
      rw [saysTrue_eq hr]
      refine ⟨_, .same _ (.bool true), ?_⟩
      ((conv => whnf); repeat ((first | refine AWp.many ?_ | refine AOps.many ?_ | refine ADr.go ?_); conv => whnf))
      exact fin_pure (.bool _) ⟨rfl, rfl, rfl⟩
end Go.Proofs.YtfnhkfdjhmgjbaaGreatDoor

/- For every input (two slices of ints, an int), refuterlaw31.DiffOptions returns true, and its arguments read behind the call as they read before (the card DiffOptionsCardSaid, the full form). Conditions: the package-level variables that the row lists hold, when the call begins, what the program's text lays (the card ties them to it); no bound on sizes. -/
namespace Go.Proofs.YtfnhkfdjhmgjbaaGreatDoor.DiffOptions
open Go.ChangeShapes Go.WideShapes Go.ChangeAt Go.RowKit Go.Lib Go.Ax
set_option linter.unusedVariables false

theorem own : ownKnob Tryz.prog.godebug = none := by kernel_rfl
theorem laidOut : laidOutB Tryz.prog = true := by kernel_rfl
theorem cells3 : Tryz.prog.cellsOf 3 = 1 := by kernel_rfl
theorem cells8 : Tryz.prog.cellsOf 5 = 1 := by kernel_rfl
theorem gName : Tryz.prog.globalNamed "strconv.ErrSyntax" = some 0 := by kernel_rfl
theorem gNameR : Tryz.prog.globalNamed "strconv.ErrRange" = some 1 := by kernel_rfl
theorem gNameP : Tryz.prog.globalNamed "internal/strconv.uint64pow10" = some 2 := by kernel_rfl

theorem gType : (Tryz.prog.globals[0]?).map (·.type) = some 131 := by kernel_rfl
theorem gTypeR : (Tryz.prog.globals[1]?).map (·.type) = some 131 := by kernel_rfl
theorem gTypeP : (Tryz.prog.globals[2]?).map (·.type) = some 240 := by kernel_rfl
theorem star : "*" ++ "errors.errorString" = "*errors.errorString" := by decide
theorem named (u : TypeId) (h : Tryz.prog.typeName? 3 u = some "*errors.errorString") : u = 243 :=
  typeName_ptr_named (nm := "errors.errorString") (by rw [star]; kernel_rfl) (by kernel_rfl) (by decide) u (by rw [star]; exact h)
theorem cellsE : Tryz.prog.cellsOf 245 = 1 := by kernel_rfl
theorem cellsS : Tryz.prog.cellsOf 9 = 1 := by kernel_rfl
theorem cellsU : Tryz.prog.cellsOf 60 = 1 := by kernel_rfl
theorem cellsP : Tryz.prog.cellsOf 240 = 20 := by kernel_rfl
def pows : List Int := [1, 10, 100, 1000, 10000, 100000, 1000000, 10000000, 100000000, 1000000000, 10000000000, 100000000000, 1000000000000, 10000000000000, 100000000000000, 1000000000000000, 10000000000000000, 100000000000000000, 1000000000000000000, 10000000000000000000]

/-- What the row's list gives: the variables that are read. -/
theorem vars {W : World} (h : laidMetH Tryz.prog Rows.diffOptionsRow.laid W) : ∀ p ∈ gz, VR (fun _ => ⟨0, 0, 0⟩) (fun _ => False) (OX (fun _ => False) (fun _ => ⟨0, 0, 0⟩) []) W (.ip p.2) (.pointer (some ⟨p.1, 0, none⟩)) := by
  have h : laidMet Tryz.prog Rows.diffOptionsRow.laid W := h
  have h4 := h.tail.tail.tail.tail
  obtain ⟨a, s, hv, hc, hs, hz⟩ := laid_sentinel (tp := 243) (te := 245) (ts := 9) h4 gName gType Tryz.underlying131 named Tryz.underlying243 Tryz.underlying245 rfl rfl Tryz.underlying9 cellsE cellsS
  have hsp := laid_spot h4 gName hv Tryz.underlying243
  have h3 := h.tail.tail.tail
  obtain ⟨a', s', hv', hc', hs', hz'⟩ := laid_sentinel (tp := 243) (te := 245) (ts := 9) h3 gNameR gTypeR Tryz.underlying131 named Tryz.underlying243 Tryz.underlying245 rfl rfl Tryz.underlying9 cellsE cellsS
  have hsp' := laid_spot h3 gNameR hv' Tryz.underlying243
  have h2 := h.tail.tail
  have htab := tabIs_of_head (k := .u64) (zs := pows) gNameP gTypeP Tryz.underlying240 Tryz.underlying60 cellsU cellsP h2
  intro p hp
  simp only [gz, List.mem_cons, List.not_mem_nil, or_false] at hp
  rcases hp with rfl | rfl | rfl
  · exact vr_iface_var gName hv hsp
  · exact vr_iface_var gNameR hv' hsp'
  · exact vr_tab_var gNameP htab

set_option maxRecDepth 100000 in
/-- What the walk gives, for every argument. -/
theorem contract (H : Type) (enc : TypeId × Value → H) (W : World) (base : Nat) (args : Array Value) (ds gs : List (DataW H)) (before : List MemPlace)
    (hval : ∀ (j : Nat) t v, Tryz.f3.params[j]? = some t → args[j]? = some v → Value.okWide Tryz.prog W .any base t v)
    (hW : DataW.Whole enc Tryz.prog Tryz.f3.params.toList Rows.diffOptionsSpec.vars false W args.toList ds gs before) (hL : laidMetH Tryz.prog Rows.diffOptionsRow.laid W) :
    Calls Tryz.prog 3 args W fun e W' => ∃ v, e = .returned v ∧ Rows.diffOptionsSpec.post enc Tryz.prog Tryz.f3 false true false false W args v W' := by
  have hW' := hW
  obtain ⟨p, q, hA0, hV, rfl, hfz, hnd⟩ := hW
  have hA : DataW.TrodAll enc Tryz.prog W 0 (fun _ => true) true Tryz.f3.params.toList args.toList ds p := hA0
  rw [Tryz.params3] at hA hval
  obtain ⟨v0, vs0, d0, ds0, p0, q0, hargs, rfl, rfl, h0, r0⟩ := trodAll_cons hA
  obtain ⟨v1, vs1, d1, ds1, p1, q1, rfl, rfl, rfl, h1, r1⟩ := trodAll_cons r0
  obtain ⟨v2, vs2, d2, ds2, p2, q2, rfl, rfl, rfl, h2, r2⟩ := trodAll_cons r1
  obtain ⟨rfl, rfl, rfl⟩ := trodAll_nil r2
  obtain rfl : args = #[v0, v1, v2] := by cases args; simp_all
  obtain ⟨rfl, rfl⟩ := trodVars_none hV
  have h0k := h0
  obtain ⟨x0, b0, e0⟩ := vr_ints_of Tryz.underlying22 Tryz.underlying3 cells3 (hval 0 22 v0 rfl rfl) h0
  have h1k := h1
  obtain ⟨x1, b1, e1⟩ := vr_ints_of Tryz.underlying22 Tryz.underlying3 cells3 (hval 1 22 v1 rfl rfl) h1
  have h2k := h2
  obtain ⟨x2, rfl, rfl, rfl, hwf2⟩ := open_int Tryz.underlying3 (hval 2 3 v2 rfl rfl) h2
  have b2 : i64 x2 := by
    have e1 : IntKind.i64.min = -9223372036854775808 := rfl
    have e2 : IntKind.i64.max = 9223372036854775807 := rfl
    simp [Lit.wf, e1, e2] at hwf2
    unfold i64
    omega
  clear hA0
  refine ((lawOptionsW x0 x1 x2 b0 b1 b2).callsG W [v0, v1, .int .i64 x2] (vars hL) (.cons e0 (.cons e1 (.cons (.int _ _) .nil)))).mono ?_
  rintro e W' ⟨rfl, hk⟩
  refine ⟨_, rfl, _, _, _, [], p0 ++ (p1 ++ ([] ++ [])), [], hW', ?_, ?_, ?_, hk.frame _, fun h => by cases h⟩
  · exact trodAll_cons_mk (shut_bool Tryz.underlying4 _) trodAll_mk0
  · exact trodAll_cons_mk (Kept.trod laidOut (by kernel_rfl) (of_decide_eq_true (by kernel_rfl)) h0k hk) (trodAll_cons_mk (Kept.trod laidOut (by kernel_rfl) (of_decide_eq_true (by kernel_rfl)) h1k hk) (trodAll_cons_mk (Kept.trod laidOut (by kernel_rfl) (of_decide_eq_true (by kernel_rfl)) h2k hk) trodAll_mk0))
  · rfl

/-- A world for the witness: the settled one with two blocks more (the two errors' structs), the five variables holding what their initialisers lay. -/
noncomputable def laidWorld (os : Os) : World :=
  let N := (World.settled Tryz.prog os).heap.size
  let w0 := World.holding Tryz.prog os ⟨#[
    .cells #[.string ⟨#[105, 110, 118, 97, 108, 105, 100, 32, 115, 121, 110, 116, 97, 120]⟩] 245,
    .cells #[.string ⟨#[118, 97, 108, 117, 101, 32, 111, 117, 116, 32, 111, 102, 32, 114, 97, 110, 103, 101]⟩] 245], #[], []⟩
  let put (h : Array Obj) (g : Nat) (cs : Array Value) : Array Obj := h.modify g fun
    | .cells _ t frozen => .cells cs t frozen
    | o => o
  let nums (d : DataW Unit) : Array Value := match d with
    | .agg ds => (ds.map fun
      | .lit (.int k n) => Value.int k n
      | _ => .bool false).toArray
    | _ => #[]
  let h0 := put (put w0.heap 0 #[.iface 243 (.pointer (some ⟨N, 0, none⟩))]) 1 #[.iface 243 (.pointer (some ⟨N + 1, 0, none⟩))]
  let h1 := put h0 2 (nums Rows.laid_internal_strconv_uint64pow10)
  let h2 := put h1 3 (nums Rows.laid_math_bits_deBruijn32tab)
  let h3 := put h2 4 (nums Rows.laid_math_bits_deBruijn64tab)
  { w0 with heap := h3 }
noncomputable abbrev N0 : Nat := (World.settled Tryz.prog default).heap.size
theorem laid_met (os : Os) (args : Array Value) : laidMet Tryz.prog Rows.diffOptionsRow.laid ((laidWorld os).forCall (fun _ _ => 0) ⟨#[], args, []⟩).memory :=
  (LaidIn.of_run (l := Rows.diffOptionsRow.laid) [0, 1, 2, 3, 4, N0, N0 + 1] 8 (by kernel_rfl) (by kernel_rfl) (by kernel_rfl) (by kernel_rfl)).met

noncomputable abbrev wargs : Array Value := #[.slice none 0 0, .slice none 0 0, .int .i64 0]
theorem reads (os : Os) {H : Type} (enc : TypeId × Value → H) : ∃ places, DataW.whole enc Tryz.prog ((laidWorld os).forCall (fun _ _ => 0) ⟨#[], wargs, []⟩).memory Tryz.f3.params.toList Rows.diffOptionsSpec.vars false wargs.toList 8 = some ([.nil, .nil, .lit (.int .i64 0)], [], places) :=
  ⟨[], by kernel_rfl⟩

set_option maxRecDepth 100000 in
theorem lifted (os : Os) (started : os.Started) (H : Type) (enc : TypeId × Value → H) (F : Stop.Interp) :
    ReturnsInHanded {} Tryz.checked os 3 .any ((OpenSpec.ofChange Rows.diffOptionsSpec).preRow enc Tryz.prog Tryz.f3 Rows.diffOptionsRow.domain false Rows.diffOptionsRow.laid) (((OpenSpec.ofChange Rows.diffOptionsSpec).at F).post enc Tryz.prog Tryz.f3 false true false false) := by
  obtain ⟨places, hx⟩ := reads os enc
  refine returnsInHanded_of_row (C := Tryz.checked) (s := OpenSpec.ofChange Rows.diffOptionsSpec) own started (by kernel_rfl) Tryz.func3
    (witness_row_atRef (enc := enc) (C := Tryz.checked) false (laidWorld os) wargs rfl (by kernel_rfl) (by kernel_rfl) (by kernel_rfl)
      (OpenSpec.preRow_of_cond 8 hx (by kernel_rfl) (fun k hk => by cases hk) (by kernel_rfl) (laid_met os _))) ?_
  intro W base args ds gs before hval hW _ _ _ hL _ _
  exact contract H enc W base args ds gs before hval hW hL

theorem said : Rows.DiffOptionsSaid :=
  OpenClaim.holds_of_cond 3 Tryz.f3 rfl rfl rfl rfl rfl rfl rfl ⟨rfl, rfl, rfl, rfl, rfl⟩ rfl rfl rfl rfl rfl (by kernel_rfl) Tryz.func3 (by kernel_rfl)
    (of_decide_eq_true (by kernel_rfl)) (by unfold Func.isWrapper; first | (rw [if_pos (by decide +kernel)]; kernel_rfl) | (rw [if_neg (by decide +kernel)]; exact ⟨rfl, rfl⟩))
    (fun os started H enc _ F => by rw [OpenClaim.pre_eq_preRow]; exact lifted os started H enc F)

theorem plain (f : FuncId) (fn : Func) (hf : Tryz.pinned.checked.prog.funcNamed "refuter/refuterlaw31.DiffOptions" = some f) (hfn : Tryz.pinned.checked.prog.funcs[f]? = some fn) :
    true = Tryz.pinned.checked.prog.looks [] ∧ ∀ (j : Nat) t, fn.params[j]? = some t → Tryz.pinned.checked.prog.wantsStandIn t = false := by
  obtain rfl : f = 3 := Option.some.inj ((show Tryz.prog.funcNamed "refuter/refuterlaw31.DiffOptions" = some 3 by kernel_rfl).symm.trans hf) |>.symm
  obtain rfl : fn = Tryz.f3 := (Option.some.inj (Tryz.func3.symm.trans hfn)).symm
  refine ⟨by kernel_rfl, fun j t ht => ?_⟩
  rw [Tryz.params3] at ht
  have hTI : Tryz.prog.wantsStandIn 22 = false := by kernel_rfl
  have hTi : Tryz.prog.wantsStandIn 3 = false := by kernel_rfl
  have hm := Array.mem_of_getElem? ht
  simp at hm
  repeat' (first | (rw [(hm : t = 22)]; exact hTI) | (rw [(hm : t = 3)]; exact hTi) | rcases hm with hm | hm)

/-- The card. -/
theorem card : Rows.DiffOptionsCardSaid :=
  Claim7.holds_tied_plain_at .later [] _ _ _ _ said (fun _ h => by cases h) (by kernel_rfl) (fun _ h => by cases h) diffOptions_row_tie rfl ⟨rfl, rfl⟩ (by kernel_rfl) rfl plain (by kernel_rfl)
end Go.Proofs.YtfnhkfdjhmgjbaaGreatDoor.DiffOptions
