/- For every input (a slice of ints, a slice of bytes, an int, a byte), refuterlaw10.ValuesDecodes returns true, and its arguments read behind the call as they read before (the card ValuesDecodesCardSaid, the full form). Conditions: the package-level variables that the row lists hold, when the call begins, what the program's text lays (the card ties them to it); no bound on sizes. -/
import Derived.Test.YtfnhkfdjhmgjbaaGreatDoorAx10
import Derived.Test.YtfnhkfdjhmgjbaaGreatDoorProg
import Derived.KernelRfl
import Derived.Test.YtfnhkfdjhmgjbaaGreatDoorCards
import Derived.Test.YtfnhkfdjhmgjbaaGreatDoorTie
import Derived.Lib.LaidIn

namespace Go.Proofs.YtfnhkfdjhmgjbaaGreatDoor
open Go Go.Ax Go.Proofs
set_option linter.unusedVariables false
set_option maxRecDepth 100000
set_option maxHeartbeats 4000000

/-- A decoder: its reader (block 1), the parts. -/
abbrev dcC (p : Nat) : AB := .row 107 2 [.agg [.ptr 1 0 0, .int .i64 p]]
abbrev dcM (x : Rd) (p : Nat) : Mem := [(0, dcC p), (1, rdC x)]
theorem dcCv {mem : Mem} {σ : List (Nat × Nat)} {p : Nat} (h : lk σ 1 = some 1) : CvR mem σ [.agg [.ptr 1 0 0, .int .i64 p]] [.agg [.ptr 1 0 0, .int .i64 p]] := .cons (.agg (.cons (.ptr 1 1 0 0 h) (.cons (.same _ nn) .nil))) .nil
def DQ (d : DRes) (r : AV) (m : Mem) (n : Nat) : Prop := r = .tup [encV d.val, .bool d.ok] ∧ m = dcM d.rd d.parts ∧ n = 2
theorem dcFin {d : DRes} {r : AV} {ok : Bool} {ys : List AV} {e q : Int} {mem : Mem} {nx : Nat} (h0 : lk mem 0 = some (.row 107 2 [.agg [.ptr 1 0 0, .int .i64 q]])) (h1 : lk mem 1 = some (.row 110 2 [.agg [.il 1 ys, .int .i64 e]]))
    (hr : Cv mem [(0, 0), (1, 1)] r (encV d.val)) (hok : ok = d.ok) (hq : q = d.parts) (hy : ys = encB d.rd.1) (he : e = d.rd.2) : Fini 2 (DQ d) (.tup [r, .bool ok]) mem nx := by
  subst hq hy he hok
  exact fin_mk (r' := .tup [encV d.val, .bool d.ok]) (m' := dcM d.rd d.parts) (n' := 2) [(0, 0), (1, 1)] rfl ⟨⟨0, _, rfl, h0, dcCv rfl⟩, ⟨1, _, rfl, h1, .same (rdNN _)⟩, trivial⟩ (.tup' (.cons hr (.cons (.same _ nn) .nil))) ⟨rfl, rfl, rfl⟩

theorem cvLf {mem : Mem} {σ : List (Nat × Nat)} (k n : Int) (s : List UInt8) : Cv mem σ (.agg [.int .i64 k, .int .i64 n, .str s, .nsl]) (encV (.mk k n s [])) :=
  .agg' (.cons (.same _ nn) (.cons (.same _ nn) (.cons (.same _ nn) (.cons (.nil 4) .nil))))
theorem cvRow {mem : Mem} {σ : List (Nat × Nat)} {id len : Nat} {k n : Int} {s : List UInt8} {acc : List Val} (h1 : lk mem id = some (.row 33 4 (encVs acc))) (h2 : lk σ id = none) (h3 : len = acc.length) : Cv mem σ (.agg [.int .i64 k, .int .i64 n, .str s, .sl id 0 len]) (encV (.mk k n s acc)) :=
  .agg' (.cons (.same _ nn) (.cons (.same _ nn) (.cons (.same _ nn) (.cons (.fz' h1 h2 (by rw [encVs_length]; omega) (by rw [List.drop_zero]; exact List.take_of_length_le (by rw [encVs_length]; omega)) (encVs_nn _)) .nil))))
theorem dValue : ∀ (f : Nat) (x : Rd) (p : Nat), x.1.length ≤ 1000000000 → 1025 ≤ f + p → p ≤ 1024 → ACalls Tryz.prog [] 65 [.ptr 0 0 0] (dcM x p) 2 (DQ (dVal f x p))
  | 0, x, p, _, h1, h2 => by omega
  | f + 1, x, p, hl, hfp, hp => by
    have ih := dValue f
    show ACalls _ _ _ _ _ _ (DQ (dStep (dVal f) x p))
    have hK := dInt x hl
    have hkl := intR_le x
    have hw : IntKind.i64.wrap ((p : Int) + 1) = ((p + 1 : Nat) : Int) := w64 (by omega) ⟨by omega, by omega⟩
    have dg : decide (((p + 1 : Nat) : Int) > 1024) = decide (1024 < p + 1) := by rw [Bool.eq_iff_iff]; simp; omega
    unfold dStep
    refine acalls_go nnΓ Tryz.func65 rfl ?_
    ((conv => whnf); repeat ((first | refine AWp.many ?_ | refine AOps.many ?_ | refine ADr.go ?_); conv => whnf))
    rw [hw]
    ((conv => whnf); repeat ((first | refine AWp.many ?_ | refine AOps.many ?_ | refine ADr.go ?_); conv => whnf))
    rw [dg]
    refine bcs_mk (fun h => ?_) (fun h => ?_)
    · have h : 1024 < p + 1 := by simpa using h
      rw [if_pos h]
      ((conv => whnf); repeat ((first | refine AWp.many ?_ | refine AOps.many ?_ | refine ADr.go ?_); conv => whnf))
      exact dcFin rfl rfl (cvLf _ _ _) rfl rfl rfl rfl
    · have h : ¬ 1024 < p + 1 := by simpa using h
      rw [if_neg h]
      generalize intR x = y at hK hkl ⊢
      obtain ⟨k, x1⟩ := y
      simp only at hK hkl ⊢
      ((conv => whnf); repeat ((first | refine AWp.many ?_ | refine AOps.many ?_ | refine ADr.go ?_); conv => whnf))
      refine rdUse 1 nnΓ hK rfl ?_
      by_cases k0 : k = 0
      · subst k0
        rw [if_pos rfl]
        have hN := dInt x1 (by omega)
        generalize intR x1 = y at hN ⊢
        obtain ⟨n, x2⟩ := y
        simp only at hN ⊢
        ((conv => whnf); repeat ((first | refine AWp.many ?_ | refine AOps.many ?_ | refine ADr.go ?_); conv => whnf))
        refine rdUse 1 nnΓ hN rfl ?_
        ((conv => whnf); repeat ((first | refine AWp.many ?_ | refine AOps.many ?_ | refine ADr.go ?_); conv => whnf))
        exact dcFin rfl rfl (cvLf _ _ _) rfl rfl rfl rfl
      · rw [if_neg k0]
        by_cases k1 : k = 1
        · subst k1
          rw [if_pos rfl]
          have hN := dBool x1 (by omega)
          generalize boolR x1 = y at hN ⊢
          obtain ⟨b, x2⟩ := y
          simp only at hN ⊢
          ((conv => whnf); repeat ((first | refine AWp.many ?_ | refine AOps.many ?_ | refine ADr.go ?_); conv => whnf))
          refine rdUse 1 nnΓ hN rfl ?_
          cases b with
          | true =>
            ((conv => whnf); repeat ((first | refine AWp.many ?_ | refine AOps.many ?_ | refine ADr.go ?_); conv => whnf))
            exact dcFin rfl rfl (cvLf _ _ _) rfl rfl rfl rfl
          | false =>
            ((conv => whnf); repeat ((first | refine AWp.many ?_ | refine AOps.many ?_ | refine ADr.go ?_); conv => whnf))
            exact dcFin rfl rfl (cvLf _ _ _) rfl rfl rfl rfl
        · rw [if_neg k1]
          by_cases k2 : k = 2
          · subst k2
            rw [if_pos rfl]
            ((conv => whnf); repeat ((first | refine AWp.many ?_ | refine AOps.many ?_ | refine ADr.go ?_); conv => whnf))
            have hN := dInt x1 (by omega)
            have hnl := intR_le x1
            unfold dMore
            generalize intR x1 = y at hN hnl ⊢
            obtain ⟨n, x3⟩ := y
            simp only at hN hnl ⊢
            refine rdUse 1 nnΓ hN rfl ?_
            ((conv => whnf); repeat ((first | refine AWp.many ?_ | refine AOps.many ?_ | refine ADr.go ?_); conv => whnf))
            refine bcs_mk (fun hh => ?_) (fun hh => ?_)
            · have h0 : n < 0 := by simpa using hh
              rw [if_pos (.inl h0)]
              rw [hh]
              ((conv => whnf); repeat ((first | refine AWp.many ?_ | refine AOps.many ?_ | refine ADr.go ?_); conv => whnf))
              exact dcFin rfl rfl (cvLf _ _ _) rfl rfl rfl rfl
            · have h0 : ¬ n < 0 := by simpa using hh
              rw [hh]
              ((conv => whnf); repeat ((first | refine AWp.many ?_ | refine AOps.many ?_ | refine ADr.go ?_); conv => whnf))
              refine bcs_mk (fun hh => ?_) (fun hh => ?_)
              · have h1 : 256 < n := by simp at hh; omega
                rw [if_pos (.inr h1)]
                rw [hh]
                ((conv => whnf); repeat ((first | refine AWp.many ?_ | refine AOps.many ?_ | refine ADr.go ?_); conv => whnf))
                exact dcFin rfl rfl (cvLf _ _ _) rfl rfl rfl rfl
              · have h1 : ¬ 256 < n := by simp at hh; omega
                rw [if_neg (by omega)]
                rw [hh]
                ((conv => whnf); repeat ((first | refine AWp.many ?_ | refine AOps.many ?_ | refine ADr.go ?_); conv => whnf))
                obtain ⟨nt, rfl⟩ : ∃ nt : Nat, n = nt := ⟨n.toNat, by omega⟩
                rw [Int.toNat_natCast]
                clear hN hh
                refine ALoop.ph 33 4 ?_
                refine ALoop.at nnΓ (fun y : List Val × Nat × Rd × Nat => dKids (dVal f) nt [] x3 (p + 1) = dKids (dVal f) y.2.1 y.1 y.2.2.1 y.2.2.2 ∧ y.1.length + y.2.1 = nt ∧ y.2.2.1.1.length ≤ 1000000000 ∧ y.2.2.2 ≤ 1024 ∧ 1025 ≤ f + y.2.2.2)
                  (fun y => ⟨[(0, .ptr 0 0 0), (2, .ptr 2 0 0), (4, .ptr 3 0 0), (70, .int .i64 nt), (71, .int .i64 y.1.length)],
                    [(0, dcC y.2.2.2), (1, rdC y.2.2.1), (2, .row 33 4 [.agg [.int .i64 0, .int .i64 0, .str [], .nsl]]), (3, .row 33 4 [.agg [.int .i64 2, .int .i64 0, .str [], .sl 4 0 y.1.length]]), (4, .row 33 4 (encVs y.1))], 5, 89⟩)
                  (fun y => y.2.1) ([], nt, x3, p + 1) [(0, 0), (1, 1), (2, 2), (3, 3), (4, 4)] ⟨rfl, by simp, by simp only; omega, by simp only; omega, by simp only; omega⟩
                  (conv_mk _ rfl ⟨⟨0, _, rfl, rfl, dcCv rfl⟩, ⟨1, _, rfl, rfl, .same (rdNN _)⟩, ⟨2, _, rfl, rfl, .same nns⟩, ⟨3, _, rfl, rfl, .cons (.agg (.cons (.same _ nn) (.cons (.same _ nn) (.cons (.same _ nn) (.cons (.nslk 4 4 _ rfl rfl) .nil))))) .nil⟩, ⟨4, _, rfl, rfl, .same .nil⟩, trivial⟩
                    ⟨⟨_, rfl, .ptr 0 0 0 0 rfl⟩, ⟨_, rfl, .ptr 2 2 0 0 rfl⟩, ⟨_, rfl, .ptr 3 3 0 0 rfl⟩, ⟨_, rfl, .same _ nn⟩, ⟨_, rfl, .same _ nn⟩, trivial⟩) ?_
                rintro ⟨acc, m, x4, p4⟩ ⟨hd, hlen, hxl, hp4, hfp4⟩
                simp only at hd hlen hxl hp4 hfp4
                rw [hd]
                ((conv => whnf); repeat ((first | refine AWp.many ?_ | refine AOps.many ?_ | refine ADr.go ?_); conv => whnf))
                refine bcs_mk (fun hh => ?_) (fun hh => ?_)
                · have hlt : acc.length < nt := by simp at hh; omega
                  obtain ⟨m, rfl⟩ : ∃ k, m = k + 1 := ⟨m - 1, by omega⟩
                  have hC := ih x4 p4 hxl hfp4 hp4
                  have hgd := dVal_good f x4 p4
                  simp only [dKids] at hd ⊢
                  generalize dVal f x4 p4 = d at hC hgd hd ⊢
                  obtain ⟨⟨a1, a2, a3, a4⟩, ok, x5, p5⟩ := d
                  simp only at hC hd ⊢
                  have hgle := hgd.le
                  have hgg := hgd.good
                  have hgs := hgd.size
                  simp only at hgle hgg hgs
                  ((conv => whnf); repeat ((first | refine AWp.many ?_ | refine AOps.many ?_ | refine ADr.go ?_); conv => whnf))
                  refine ACalls.useI nnΓ [0, 1] hC rfl (.cons (.ptr 0 0 0 0 rfl) .nil) ⟨⟨0, _, rfl, rfl, dcCv rfl⟩, ⟨1, _, rfl, rfl, .same (rdNN _)⟩, trivial⟩ rfl ?_
                  rintro r m' n' ⟨rfl, rfl, rfl⟩
                  refine ⟨nn, ⟨⟨0, _, rfl, rfl, dcCv rfl⟩, ⟨1, _, rfl, rfl, .same (rdNN _)⟩, trivial⟩, rfl, ?_⟩
                  cases ok with
                  | false =>
                    ((conv => whnf); repeat ((first | refine AWp.many ?_ | refine AOps.many ?_ | refine ADr.go ?_); conv => whnf))
                    exact dcFin rfl rfl (cvRow rfl rfl rfl) rfl rfl rfl rfl
                  | true =>
                    ((conv => whnf); repeat ((first | refine AWp.many ?_ | refine AOps.many ?_ | refine ADr.go ?_); conv => whnf))
                    refine grd_mk (app_ok rfl rfl (encVs_length _).symm (by simp; omega)) ?_
                    ((conv => whnf); repeat ((first | refine AWp.many ?_ | refine AOps.many ?_ | refine ADr.go ?_); conv => whnf))
                    have hz := hgs rfl
                    refine .mk (acc ++ [.mk a1 a2 a3 a4], m, x5, p5) [(0, 0), (1, 1), (2, 2), (3, 3), (7, 4)] ⟨rfl, by simp; omega, by simp only; omega, hgg rfl hp4, by simp only; omega⟩
                      (conv_mk _ rfl ⟨⟨0, _, rfl, rfl, dcCv rfl⟩, ⟨1, _, rfl, rfl, .same (rdNN _)⟩, ⟨2, _, rfl, rfl, .same nns⟩, ⟨3, _, rfl, rfl, .cons (.agg (.cons (.same _ nn) (.cons (.same _ nn) (.cons (.same _ nn) (.cons (.slE rfl (by simp)) .nil))))) .nil⟩, ⟨7, _, rfl, rfl, .eq nns (by rw [encVs_snoc]; rfl)⟩, trivial⟩
                        ⟨⟨_, rfl, .ptr 0 0 0 0 rfl⟩, ⟨_, rfl, .ptr 2 2 0 0 rfl⟩, ⟨_, rfl, .ptr 3 3 0 0 rfl⟩, ⟨_, rfl, .same _ nn⟩, ⟨_, rfl, .w64 (by simp) ⟨by simp; omega, by simp; omega⟩⟩, trivial⟩) (by simp only; omega)
                · have hlt : acc.length = nt := by simp at hh; omega
                  obtain rfl : m = 0 := by omega
                  simp only [dKids]
                  ((conv => whnf); repeat ((first | refine AWp.many ?_ | refine AOps.many ?_ | refine ADr.go ?_); conv => whnf))
                  exact dcFin rfl rfl (cvRow rfl rfl rfl) rfl rfl rfl rfl
          · rw [if_neg k2]
            by_cases k3 : k = 3
            · subst k3
              rw [if_pos rfl]
              have hT := dText x1 (by omega)
              have htl := textR_le x1
              generalize textR x1 = y at hT htl ⊢
              obtain ⟨st, x2⟩ := y
              simp only at hT htl ⊢
              ((conv => whnf); repeat ((first | refine AWp.many ?_ | refine AOps.many ?_ | refine ADr.go ?_); conv => whnf))
              refine rdUse 1 nnΓ hT rfl ?_
              ((conv => whnf); repeat ((first | refine AWp.many ?_ | refine AOps.many ?_ | refine ADr.go ?_); conv => whnf))
              have hN := dInt x2 (by omega)
              have hnl := intR_le x2
              unfold dMore
              generalize intR x2 = y at hN hnl ⊢
              obtain ⟨n, x3⟩ := y
              simp only at hN hnl ⊢
              refine rdUse 1 nnΓ hN rfl ?_
              ((conv => whnf); repeat ((first | refine AWp.many ?_ | refine AOps.many ?_ | refine ADr.go ?_); conv => whnf))
              refine bcs_mk (fun hh => ?_) (fun hh => ?_)
              · have h0 : n < 0 := by simpa using hh
                rw [if_pos (.inl h0)]
                rw [hh]
                ((conv => whnf); repeat ((first | refine AWp.many ?_ | refine AOps.many ?_ | refine ADr.go ?_); conv => whnf))
                exact dcFin rfl rfl (cvLf _ _ _) rfl rfl rfl rfl
              · have h0 : ¬ n < 0 := by simpa using hh
                rw [hh]
                ((conv => whnf); repeat ((first | refine AWp.many ?_ | refine AOps.many ?_ | refine ADr.go ?_); conv => whnf))
                refine bcs_mk (fun hh => ?_) (fun hh => ?_)
                · have h1 : 256 < n := by simp at hh; omega
                  rw [if_pos (.inr h1)]
                  rw [hh]
                  ((conv => whnf); repeat ((first | refine AWp.many ?_ | refine AOps.many ?_ | refine ADr.go ?_); conv => whnf))
                  exact dcFin rfl rfl (cvLf _ _ _) rfl rfl rfl rfl
                · have h1 : ¬ 256 < n := by simp at hh; omega
                  rw [if_neg (by omega)]
                  rw [hh]
                  ((conv => whnf); repeat ((first | refine AWp.many ?_ | refine AOps.many ?_ | refine ADr.go ?_); conv => whnf))
                  obtain ⟨nt, rfl⟩ : ∃ nt : Nat, n = nt := ⟨n.toNat, by omega⟩
                  rw [Int.toNat_natCast]
                  clear hN hh
                  refine ALoop.ph 33 4 ?_
                  refine ALoop.at nnΓ (fun y : List Val × Nat × Rd × Nat => dKids (dVal f) nt [] x3 (p + 1) = dKids (dVal f) y.2.1 y.1 y.2.2.1 y.2.2.2 ∧ y.1.length + y.2.1 = nt ∧ y.2.2.1.1.length ≤ 1000000000 ∧ y.2.2.2 ≤ 1024 ∧ 1025 ≤ f + y.2.2.2)
                    (fun y => ⟨[(0, .ptr 0 0 0), (2, .ptr 2 0 0), (4, .ptr 3 0 0), (70, .int .i64 nt), (71, .int .i64 y.1.length)],
                      [(0, dcC y.2.2.2), (1, rdC y.2.2.1), (2, .row 33 4 [.agg [.int .i64 0, .int .i64 0, .str [], .nsl]]), (3, .row 33 4 [.agg [.int .i64 3, .int .i64 0, .str st, .sl 4 0 y.1.length]]), (4, .row 33 4 (encVs y.1))], 5, 89⟩)
                    (fun y => y.2.1) ([], nt, x3, p + 1) [(0, 0), (1, 1), (2, 2), (3, 3), (4, 4)] ⟨rfl, by simp, by simp only; omega, by simp only; omega, by simp only; omega⟩
                    (conv_mk _ rfl ⟨⟨0, _, rfl, rfl, dcCv rfl⟩, ⟨1, _, rfl, rfl, .same (rdNN _)⟩, ⟨2, _, rfl, rfl, .same nns⟩, ⟨3, _, rfl, rfl, .cons (.agg (.cons (.same _ nn) (.cons (.same _ nn) (.cons (.same _ nn) (.cons (.nslk 4 4 _ rfl rfl) .nil))))) .nil⟩, ⟨4, _, rfl, rfl, .same .nil⟩, trivial⟩
                      ⟨⟨_, rfl, .ptr 0 0 0 0 rfl⟩, ⟨_, rfl, .ptr 2 2 0 0 rfl⟩, ⟨_, rfl, .ptr 3 3 0 0 rfl⟩, ⟨_, rfl, .same _ nn⟩, ⟨_, rfl, .same _ nn⟩, trivial⟩) ?_
                  rintro ⟨acc, m, x4, p4⟩ ⟨hd, hlen, hxl, hp4, hfp4⟩
                  simp only at hd hlen hxl hp4 hfp4
                  rw [hd]
                  ((conv => whnf); repeat ((first | refine AWp.many ?_ | refine AOps.many ?_ | refine ADr.go ?_); conv => whnf))
                  refine bcs_mk (fun hh => ?_) (fun hh => ?_)
                  · have hlt : acc.length < nt := by simp at hh; omega
                    obtain ⟨m, rfl⟩ : ∃ k, m = k + 1 := ⟨m - 1, by omega⟩
                    have hC := ih x4 p4 hxl hfp4 hp4
                    have hgd := dVal_good f x4 p4
                    simp only [dKids] at hd ⊢
                    generalize dVal f x4 p4 = d at hC hgd hd ⊢
                    obtain ⟨⟨a1, a2, a3, a4⟩, ok, x5, p5⟩ := d
                    simp only at hC hd ⊢
                    have hgle := hgd.le
                    have hgg := hgd.good
                    have hgs := hgd.size
                    simp only at hgle hgg hgs
                    ((conv => whnf); repeat ((first | refine AWp.many ?_ | refine AOps.many ?_ | refine ADr.go ?_); conv => whnf))
                    refine ACalls.useI nnΓ [0, 1] hC rfl (.cons (.ptr 0 0 0 0 rfl) .nil) ⟨⟨0, _, rfl, rfl, dcCv rfl⟩, ⟨1, _, rfl, rfl, .same (rdNN _)⟩, trivial⟩ rfl ?_
                    rintro r m' n' ⟨rfl, rfl, rfl⟩
                    refine ⟨nn, ⟨⟨0, _, rfl, rfl, dcCv rfl⟩, ⟨1, _, rfl, rfl, .same (rdNN _)⟩, trivial⟩, rfl, ?_⟩
                    cases ok with
                    | false =>
                      ((conv => whnf); repeat ((first | refine AWp.many ?_ | refine AOps.many ?_ | refine ADr.go ?_); conv => whnf))
                      exact dcFin rfl rfl (cvRow rfl rfl rfl) rfl rfl rfl rfl
                    | true =>
                      ((conv => whnf); repeat ((first | refine AWp.many ?_ | refine AOps.many ?_ | refine ADr.go ?_); conv => whnf))
                      refine grd_mk (app_ok rfl rfl (encVs_length _).symm (by simp; omega)) ?_
                      ((conv => whnf); repeat ((first | refine AWp.many ?_ | refine AOps.many ?_ | refine ADr.go ?_); conv => whnf))
                      have hz := hgs rfl
                      refine .mk (acc ++ [.mk a1 a2 a3 a4], m, x5, p5) [(0, 0), (1, 1), (2, 2), (3, 3), (7, 4)] ⟨rfl, by simp; omega, by simp only; omega, hgg rfl hp4, by simp only; omega⟩
                        (conv_mk _ rfl ⟨⟨0, _, rfl, rfl, dcCv rfl⟩, ⟨1, _, rfl, rfl, .same (rdNN _)⟩, ⟨2, _, rfl, rfl, .same nns⟩, ⟨3, _, rfl, rfl, .cons (.agg (.cons (.same _ nn) (.cons (.same _ nn) (.cons (.same _ nn) (.cons (.slE rfl (by simp)) .nil))))) .nil⟩, ⟨7, _, rfl, rfl, .eq nns (by rw [encVs_snoc]; rfl)⟩, trivial⟩
                          ⟨⟨_, rfl, .ptr 0 0 0 0 rfl⟩, ⟨_, rfl, .ptr 2 2 0 0 rfl⟩, ⟨_, rfl, .ptr 3 3 0 0 rfl⟩, ⟨_, rfl, .same _ nn⟩, ⟨_, rfl, .w64 (by simp) ⟨by simp; omega, by simp; omega⟩⟩, trivial⟩) (by simp only; omega)
                  · have hlt : acc.length = nt := by simp at hh; omega
                    obtain rfl : m = 0 := by omega
                    simp only [dKids]
                    ((conv => whnf); repeat ((first | refine AWp.many ?_ | refine AOps.many ?_ | refine ADr.go ?_); conv => whnf))
                    exact dcFin rfl rfl (cvRow rfl rfl rfl) rfl rfl rfl rfl
            · rw [if_neg k3]
              have d0 : (k == 0) = false := by simpa using k0
              have d1 : (k == 1) = false := by simpa using k1
              have d2 : (k == 2) = false := by simpa using k2
              have d3 : (k == 3) = false := by simpa using k3
              ((conv => whnf); repeat ((first | refine AWp.many ?_ | refine AOps.many ?_ | refine ADr.go ?_); conv => whnf))
              rw [d0]
              ((conv => whnf); repeat ((first | refine AWp.many ?_ | refine AOps.many ?_ | refine ADr.go ?_); conv => whnf))
              rw [d1]
              ((conv => whnf); repeat ((first | refine AWp.many ?_ | refine AOps.many ?_ | refine ADr.go ?_); conv => whnf))
              rw [d2]
              ((conv => whnf); repeat ((first | refine AWp.many ?_ | refine AOps.many ?_ | refine ADr.go ?_); conv => whnf))
              rw [d3]
              ((conv => whnf); repeat ((first | refine AWp.many ?_ | refine AOps.many ?_ | refine ADr.go ?_); conv => whnf))
              exact dcFin rfl rfl (cvLf _ _ _) rfl rfl rfl rfl
end Go.Proofs.YtfnhkfdjhmgjbaaGreatDoor

namespace Go.Proofs.YtfnhkfdjhmgjbaaGreatDoor
open Go Go.Ax Go.Proofs
set_option linter.unusedVariables false
set_option maxRecDepth 100000

theorem isNaNI (x : Int) : PureC Tryz.prog [] 120 [.int .i64 x] (.bool false) := by
  refine acalls_run nnΓ Tryz.func120 rfl ?_
  conv => whnf
  refine fin_pure (.bool _) ⟨?_, rfl, rfl⟩
  simp

theorem isNaNS (x : List UInt8) : PureC Tryz.prog [] 121 [.str x] (.bool false) := by
  refine acalls_run nnΓ Tryz.func121 rfl ?_
  conv => whnf
  refine fin_pure (.bool _) ⟨?_, rfl, rfl⟩
  simp

theorem cmpInt (x y : Int) : PureC Tryz.prog [] 73 [.int .i64 x, .int .i64 y] (.int .i64 (cmpI x y)) := by
  refine acalls_run nnΓ Tryz.func73 rfl ?_
  conv => whnf
  refine (isNaNI x).use nnΓ (.cons (.int _ _) .nil) (.bool _) ?_
  conv => whnf
  refine (isNaNI y).use nnΓ (.cons (.int _ _) .nil) (.bool _) ?_
  conv => whnf
  refine bcs_mk (fun h => ?_) (fun h => ?_)
  · conv => whnf
    refine fin_pure (.int _ _) ⟨?_, rfl, rfl⟩
    simp at h
    simp [cmpI, h]
  conv => whnf
  refine bcs_mk (fun h' => ?_) (fun h' => ?_)
  · conv => whnf
    refine fin_pure (.int _ _) ⟨?_, rfl, rfl⟩
    simp at h h'
    simp only [cmpI]
    rw [if_neg (by omega), if_pos (by omega)]
  · conv => whnf
    refine fin_pure (.int _ _) ⟨?_, rfl, rfl⟩
    simp at h h'
    simp only [cmpI]
    rw [if_neg (by omega), if_neg (by omega)]

theorem cmpStr (x y : List UInt8) : PureC Tryz.prog [] 74 [.str x, .str y] (.int .i64 (cmpS x y)) := by
  refine acalls_run nnΓ Tryz.func74 rfl ?_
  conv => whnf
  refine (isNaNS x).use nnΓ (.cons (.str _) .nil) (.bool _) ?_
  conv => whnf
  refine (isNaNS y).use nnΓ (.cons (.str _) .nil) (.bool _) ?_
  conv => whnf
  refine bcs_mk (fun h => ?_) (fun h => ?_)
  · conv => whnf
    refine fin_pure (.int _ _) ⟨?_, rfl, rfl⟩
    rw [cmpS_less.1 h]
  conv => whnf
  refine bcs_mk (fun h' => ?_) (fun h' => ?_)
  · conv => whnf
    refine fin_pure (.int _ _) ⟨?_, rfl, rfl⟩
    rw [cmpS_more h h']
  · conv => whnf
    refine fin_pure (.int _ _) ⟨?_, rfl, rfl⟩
    rw [cmpS_same h h']

theorem cmpFunc (l1 l2 : List Val) (hb : l1.length ≤ 4294967296) (hc : ∀ a ∈ l1, ∀ b ∈ l2, PureC Tryz.prog [] 30 [encV a, encV b] (.int .i64 (cmpV a b))) :
    PureC Tryz.prog [] 75 [.il 4 (encVs l1), .il 4 (encVs l2), .fn (.func 30) [] []] (.int .i64 (cmpL l1 l2)) := by
  have n1 : NN (.il 4 (encVs l1)) := .il' (encVs_nn l1)
  have n2 : NN (.il 4 (encVs l2)) := .il' (encVs_nn l2)
  have n3 : NN (.fn (.func 30) [] []) := .fn _ _ _ (by simp) (by simp)
  refine acalls_run nnΓ Tryz.func75 rfl ?_
  conv => whnf
  refine AWp.loopAt nnΓ (fun k : Nat => k ≤ l1.length ∧ k ≤ l2.length ∧ cmpL l1 l2 = cmpL (l1.drop k) (l2.drop k))
    (fun k => ⟨[(0, .il 4 (encVs l1)), (1, .il 4 (encVs l2)), (2, .fn (.func 30) [] []), (11, .il 4 (encVs l1)), (12, .int .i64 (encVs l1).length), (13, .int .i64 k)], [], 0, 39⟩)
    (fun k => l1.length - k) 0 [] ⟨by simp, by simp, by simp⟩
    (conv_pure ⟨⟨_, rfl, .same _ n1⟩, ⟨_, rfl, .same _ n2⟩, ⟨_, rfl, .same _ n3⟩, ⟨_, rfl, .same _ n1⟩, ⟨_, rfl, .same _ (.int _ _)⟩, ⟨_, rfl, .same _ (.int _ _)⟩, trivial⟩) ?_
  rintro k ⟨h1, h2, h3⟩
  conv => whnf
  refine bcs_mk (fun h => ?_) (fun h => ?_)
  · have hk : k < l1.length := by rw [encVs_length] at h; simpa using h
    obtain ⟨⟨ka, na, sa, ksa⟩, hv⟩ : ∃ v, v = l1[k] := ⟨_, rfl⟩
    have hm : Val.mk ka na sa ksa ∈ l1 := by rw [hv]; exact List.getElem_mem hk
    have e : (encVs l1)[(k : Int).toNat]? = some (encV (.mk ka na sa ksa)) := by rw [Int.toNat_natCast, encVs_get, List.getElem?_eq_getElem hk, hv]; rfl
    conv => whnf
    refine opt_mk e ?_
    conv => whnf
    refine bcs_mk (fun h' => ?_) (fun h' => ?_)
    · have hk2 : k = l2.length := by rw [encVs_length] at h'; simp at h'; omega
      conv => whnf
      refine fin_pure (.int _ _) ⟨?_, rfl, rfl⟩
      rw [h3, List.drop_of_length_le (l := l2) (by omega), List.drop_eq_getElem_cons hk, cmpL]
    · have hk2 : k < l2.length := by rw [encVs_length] at h'; simpa using h'
      obtain ⟨⟨kb, nb, sb, ksb⟩, hv2⟩ : ∃ v, v = l2[k] := ⟨_, rfl⟩
      have hm2 : Val.mk kb nb sb ksb ∈ l2 := by rw [hv2]; exact List.getElem_mem hk2
      have e2 : (encVs l2)[(k : Int).toNat]? = some (encV (.mk kb nb sb ksb)) := by rw [Int.toNat_natCast, encVs_get, List.getElem?_eq_getElem hk2, hv2]; rfl
      conv => whnf
      refine opt_mk e2 ?_
      conv => whnf
      refine (hc _ hm _ hm2).use nnΓ (.cons (encV_nn _) (.cons (encV_nn _) .nil)) (.int _ _) ?_
      conv => whnf
      have hs := cmpL_step hk hk2
      rw [← hv, ← hv2] at hs
      refine bcs_mk (fun h4 => ?_) (fun h4 => ?_)
      · conv => whnf
        refine fin_pure (.int _ _) ⟨?_, rfl, rfl⟩
        have h4 : cmpV (.mk ka na sa ksa) (.mk kb nb sb ksb) ≠ 0 := by simpa using h4
        rw [h3, hs, andThen, if_neg h4]
      · have h4 : cmpV (.mk ka na sa ksa) (.mk kb nb sb ksb) = 0 := by simpa using h4
        conv => whnf
        refine .mk (k + 1) [] ⟨by omega, by omega, ?_⟩ (conv_pure ⟨⟨_, rfl, .same _ n1⟩, ⟨_, rfl, .same _ n2⟩, ⟨_, rfl, .same _ n3⟩, ⟨_, rfl, .same _ n1⟩, ⟨_, rfl, .same _ (.int _ _)⟩, ⟨_, rfl, .eq (.int _ _) ?_⟩, trivial⟩) (by omega)
        · rw [h3, hs, andThen, if_pos h4]
        · rw [wrap64 ⟨by omega, by omega⟩]; rfl
  · have hk : k = l1.length := by rw [encVs_length] at h; simp at h; omega
    have hd : l1.drop k = [] := List.drop_of_length_le (by omega)
    conv => whnf
    refine bcs_mk (fun h' => ?_) (fun h' => ?_)
    · have hk2 : l1.length < l2.length := by rw [encVs_length, encVs_length] at h'; simpa using h'
      conv => whnf
      refine fin_pure (.int _ _) ⟨?_, rfl, rfl⟩
      rw [h3, hd, List.drop_eq_getElem_cons (show k < l2.length by omega), cmpL]
    · have hk2 : l2.length ≤ l1.length := by rw [encVs_length, encVs_length] at h'; simpa using h'
      conv => whnf
      refine fin_pure (.int _ _) ⟨?_, rfl, rfl⟩
      rw [h3, hd, List.drop_of_length_le (by omega), cmpL]

/-- 'values.Compare'. -/
theorem vCompare : ∀ (a b : Val), okV a → PureC Tryz.prog [] 30 [encV a, encV b] (.int .i64 (cmpV a b))
  | .mk ka na sa ksa, .mk kb nb sb ksb, ha => by
    simp only [okV] at ha
    have hkids : ∀ a ∈ ksa, ∀ b ∈ ksb, PureC Tryz.prog [] 30 [encV a, encV b] (.int .i64 (cmpV a b)) := fun a hm b _ => vCompare a b (okVs_mem ha.2.2.2.2 a hm)
    refine acalls_run nnΓ Tryz.func30 rfl ?_
    conv => whnf
    refine (cmpInt ka kb).use nnΓ (.cons (.int _ _) (.cons (.int _ _) .nil)) (.int _ _) ?_
    conv => whnf
    refine bcs_mk (fun h => ?_) (fun h => ?_)
    · conv => whnf
      refine fin_pure (.int _ _) ⟨?_, rfl, rfl⟩
      have h : cmpI ka kb ≠ 0 := by simpa using h
      rw [cmpV, andThen, if_neg h]
    have h : cmpI ka kb = 0 := by simpa using h
    conv => whnf
    refine (cmpInt na nb).use nnΓ (.cons (.int _ _) (.cons (.int _ _) .nil)) (.int _ _) ?_
    conv => whnf
    refine bcs_mk (fun h2 => ?_) (fun h2 => ?_)
    · conv => whnf
      refine fin_pure (.int _ _) ⟨?_, rfl, rfl⟩
      have h2 : cmpI na nb ≠ 0 := by simpa using h2
      rw [cmpV, andThen, if_pos h, andThen, if_neg h2]
    have h2 : cmpI na nb = 0 := by simpa using h2
    conv => whnf
    refine (cmpStr sa sb).use nnΓ (.cons (.str _) (.cons (.str _) .nil)) (.int _ _) ?_
    conv => whnf
    refine bcs_mk (fun h3 => ?_) (fun h3 => ?_)
    · conv => whnf
      refine fin_pure (.int _ _) ⟨?_, rfl, rfl⟩
      have h3 : cmpS sa sb ≠ 0 := by simpa using h3
      rw [cmpV, andThen, if_pos h, andThen, if_pos h2, andThen, if_neg h3]
    have h3 : cmpS sa sb = 0 := by simpa using h3
    conv => whnf
    refine (cmpFunc ksa ksb ha.2.2.2.1 hkids).use nnΓ (.cons (.il' (encVs_nn _)) (.cons (.il' (encVs_nn _)) (.cons (.fn _ _ _ (by simp) (by simp)) .nil))) (.int _ _) ?_
    conv => whnf
    refine fin_pure (.int _ _) ⟨?_, rfl, rfl⟩
    rw [cmpV, andThen, if_pos h, andThen, if_pos h2, andThen, if_pos h3]
  termination_by a => SizeOf.sizeOf a
  decreasing_by simp; have := List.sizeOf_lt_of_mem hm; omega

theorem signC (b : Bool) : PureC Tryz.prog [] 106 [.bool b] (.int .i64 (if b then -1 else 1)) := by
  refine acalls_run nnΓ Tryz.func106 rfl ?_
  conv => whnf
  refine bcs_mk (fun h => ?_) (fun h => ?_)
  · conv => whnf
    exact fin_pure (.int _ _) ⟨by rw [h]; rfl, rfl, rfl⟩
  · conv => whnf
    exact fin_pure (.int _ _) ⟨by rw [h]; rfl, rfl, rfl⟩

/-- 'refuterref10.Compare'. -/
theorem rCompare : ∀ (a b : Val), okV a → PureC Tryz.prog [] 60 [encV a, encV b] (.int .i64 (cmpV a b))
  | .mk ka na sa ksa, .mk kb nb sb ksb, ha => by
    simp only [okV] at ha
    have hb : ksa.length ≤ 4294967296 := ha.2.2.2.1
    have hkids : ∀ a ∈ ksa, ∀ b ∈ ksb, PureC Tryz.prog [] 60 [encV a, encV b] (.int .i64 (cmpV a b)) := fun a hm b _ => rCompare a b (okVs_mem ha.2.2.2.2 a hm)
    refine acalls_run nnΓ Tryz.func60 rfl ?_
    conv => whnf
    refine bcs_mk (fun h => ?_) (fun h => ?_)
    · conv => whnf
      refine (signC _).use nnΓ (.cons (.bool _) .nil) (.int _ _) ?_
      conv => whnf
      refine fin_pure (.int _ _) ⟨?_, rfl, rfl⟩
      rw [cmpV_kind (by simpa using h)]
      simp
    have h : ka = kb := by simpa using h
    conv => whnf
    refine bcs_mk (fun h2 => ?_) (fun h2 => ?_)
    · conv => whnf
      refine (signC _).use nnΓ (.cons (.bool _) .nil) (.int _ _) ?_
      conv => whnf
      refine fin_pure (.int _ _) ⟨?_, rfl, rfl⟩
      rw [cmpV_n h (by simpa using h2)]
      simp
    have h2 : na = nb := by simpa using h2
    conv => whnf
    refine bcs_mk (fun h3 => ?_) (fun h3 => ?_)
    · conv => whnf
      refine (signC _).use nnΓ (.cons (.bool _) .nil) (.int _ _) ?_
      conv => whnf
      refine fin_pure (.int _ _) ⟨?_, rfl, rfl⟩
      rw [cmpV_s h h2 (by simpa using h3)]
    have h3 : sa = sb := by simpa using h3
    have hcmp : cmpV (.mk ka na sa ksa) (.mk kb nb sb ksb) = cmpL ksa ksb := cmpV_l h h2 h3
    conv => whnf
    refine AWp.loopAt nnΓ (fun k : Nat => k ≤ ksa.length ∧ k ≤ ksb.length ∧ cmpL ksa ksb = cmpL (ksa.drop k) (ksb.drop k))
      (fun k => ⟨[(2, .ptr 0 0 0), (3, .ptr 1 0 0), (5, .int .i64 k)], [(1, .row 33 4 [encV (.mk kb nb sb ksb)]), (0, .row 33 4 [encV (.mk ka na sa ksa)])], 2, 83⟩)
      (fun k => ksa.length - k) 0 [(0, 0), (1, 1)] ⟨by simp, by simp, by simp⟩
      (conv_mk _ rfl ⟨⟨1, _, rfl, rfl, .same (.cons (encV_nn _) .nil)⟩, ⟨0, _, rfl, rfl, .same (.cons (encV_nn _) .nil)⟩, trivial⟩ ⟨⟨_, rfl, .ptr 0 0 0 0 rfl⟩, ⟨_, rfl, .ptr 1 1 0 0 rfl⟩, ⟨_, rfl, .same _ (.int _ _)⟩, trivial⟩) ?_
    rintro k ⟨h4, h5, h6⟩
    conv => whnf
    refine bcs_mk (fun h7 => ?_) (fun h7 => ?_)
    · have hk : k < ksa.length := by rw [encVs_length] at h7; simpa using h7
      rw [h7]
      conv => whnf
      refine bcs_mk (fun h8 => ?_) (fun h8 => ?_)
      · have hk2 : k < ksb.length := by rw [encVs_length] at h8; simpa using h8
        conv => whnf
        have e1 := enc_at hk
        have e2 := enc_at hk2
        obtain ⟨⟨k1, n1, s1, ks1⟩, hv1⟩ : ∃ v, v = ksa[k] := ⟨_, rfl⟩
        obtain ⟨⟨k2, n2, s2, ks2⟩, hv2⟩ : ∃ v, v = ksb[k] := ⟨_, rfl⟩
        rw [← hv1] at e1
        rw [← hv2] at e2
        refine opt_mk e1 ?_
        conv => whnf
        refine opt_mk e2 ?_
        conv => whnf
        have hm1 : Val.mk k1 n1 s1 ks1 ∈ ksa := by rw [hv1]; exact List.getElem_mem hk
        have hm2 : Val.mk k2 n2 s2 ks2 ∈ ksb := by rw [hv2]; exact List.getElem_mem hk2
        have hs := cmpL_step hk hk2
        rw [← hv1, ← hv2] at hs
        refine (hkids _ hm1 _ hm2).use nnΓ (.cons (encV_nn _) (.cons (encV_nn _) .nil)) (.int _ _) ?_
        conv => whnf
        refine bcs_mk (fun h9 => ?_) (fun h9 => ?_)
        · have h9 : cmpV (.mk k1 n1 s1 ks1) (.mk k2 n2 s2 ks2) ≠ 0 := by simpa using h9
          conv => whnf
          refine fin_pure (.int _ _) ⟨?_, rfl, rfl⟩
          rw [hcmp, h6, hs, andThen, if_neg h9]
        · have h9 : cmpV (.mk k1 n1 s1 ks1) (.mk k2 n2 s2 ks2) = 0 := by simpa using h9
          conv => whnf
          refine .mk (k + 1) [(0, 0), (1, 1)] ⟨by omega, by omega, by rw [h6, hs, andThen, if_pos h9]⟩ (conv_mk _ rfl ⟨⟨1, _, rfl, rfl, .same (.cons (encV_nn _) .nil)⟩, ⟨0, _, rfl, rfl, .same (.cons (encV_nn _) .nil)⟩, trivial⟩ ⟨⟨_, rfl, .ptr 0 0 0 0 rfl⟩, ⟨_, rfl, .ptr 1 1 0 0 rfl⟩, ⟨_, rfl, .eq (.int _ _) ?_⟩, trivial⟩) (by omega)
          rw [wrap64 ⟨by omega, by omega⟩]; rfl
      · have hk2 : k = ksb.length := by rw [encVs_length] at h8; simp at h8; omega
        conv => whnf
        refine bcs_mk (fun h9 => ?_) (fun h9 => ?_)
        · exfalso
          rw [encVs_length, encVs_length] at h9
          simp at h9
          omega
        · conv => whnf
          refine (signC _).use nnΓ (.cons (.bool _) .nil) (.int _ _) ?_
          conv => whnf
          refine fin_pure (.int _ _) ⟨?_, rfl, rfl⟩
          rw [hcmp, h6, List.drop_of_length_le (l := ksb) (by omega), List.drop_eq_getElem_cons hk, cmpL, encVs_length, encVs_length, if_neg (by simp; omega)]
    · have hk : k = ksa.length := by rw [encVs_length] at h7; simp at h7; omega
      have hd : ksa.drop k = [] := List.drop_of_length_le (by omega)
      rw [h7]
      conv => whnf
      refine bcs_mk (fun h9 => ?_) (fun h9 => ?_)
      · have h9 : ksa.length = ksb.length := by rw [encVs_length, encVs_length] at h9; simp at h9; omega
        conv => whnf
        refine fin_pure (.int _ _) ⟨?_, rfl, rfl⟩
        rw [hcmp, h6, hd, List.drop_of_length_le (by omega), cmpL]
      · have h9 : ksa.length ≠ ksb.length := by rw [encVs_length, encVs_length] at h9; simp at h9; omega
        conv => whnf
        refine (signC _).use nnΓ (.cons (.bool _) .nil) (.int _ _) ?_
        conv => whnf
        refine fin_pure (.int _ _) ⟨?_, rfl, rfl⟩
        rw [hcmp, h6, hd, List.drop_eq_getElem_cons (show k < ksb.length by omega), cmpL, encVs_length, encVs_length, if_pos (by simp; omega)]
  termination_by a => SizeOf.sizeOf a
  decreasing_by simp; have := List.sizeOf_lt_of_mem hm; omega
end Go.Proofs.YtfnhkfdjhmgjbaaGreatDoor

namespace Go.Proofs.YtfnhkfdjhmgjbaaGreatDoor
open Go Go.Ax Go.Proofs
set_option linter.unusedVariables false
set_option maxRecDepth 100000
set_option maxHeartbeats 4000000

def eqV (a b : Val) : Bool := cmpV a b == 0
theorem rEqual (a b : Val) (ho : okV a) : PureC Tryz.prog [] 20 [encV a, encV b] (.bool (eqV a b)) := by
  have hC := rCompare a b ho
  unfold eqV
  obtain ⟨c, hc⟩ : ∃ c, c = cmpV a b := ⟨_, rfl⟩
  rw [← hc] at hC ⊢
  clear hc
  refine acalls_go nnΓ Tryz.func20 rfl ?_
  obtain ⟨a1, a2, a3, a4⟩ := a
  obtain ⟨b1, b2, b3, b4⟩ := b
  ((conv => whnf); repeat ((first | refine AWp.many ?_ | refine AOps.many ?_ | refine ADr.go ?_); conv => whnf))
  refine hC.go ?_
  ((conv => whnf); repeat ((first | refine AWp.many ?_ | refine AOps.many ?_ | refine ADr.go ?_); conv => whnf))
  exact fin_pure (.bool _) ⟨rfl, rfl, rfl⟩
theorem eqV_self (a : Val) : eqV a a = true := by
  unfold eqV
  have := (cmpV_good a).anti a
  simp
  omega
end Go.Proofs.YtfnhkfdjhmgjbaaGreatDoor

namespace Go.Proofs.YtfnhkfdjhmgjbaaGreatDoor
open Go Go.Ax Go.Proofs
set_option linter.unusedVariables false
set_option maxRecDepth 100000
set_option maxHeartbeats 4000000

/-- 'values.Decode'. -/
theorem vDecode (b : List UInt8) (hb : b.length ≤ 1000000000) : PureC Tryz.prog [] 23 [.il 1 (encB b)] (.tup [encV (decodeR b).1, .int .i64 (decodeR b).2]) := by
  have hV := dValue 1025 (b, 0) 0 hb (by omega) (by omega)
  have hg := dVal_good 1025 (b, 0) 0
  have hE := dEnd (dVal 1025 (b, 0) 0).rd
  unfold decodeR
  generalize dVal 1025 (b, 0) 0 = d at hV hg hE ⊢
  obtain ⟨⟨v1, v2, v3, v4⟩, ok, ⟨l, e⟩, p⟩ := d
  have hok := hg.ok hb
  have hsz := hg.size
  have hgd := hg.good
  simp only at hV hok hsz hgd hE ⊢
  refine acalls_go nnΓ Tryz.func23 rfl ?_
  ((conv => whnf); repeat ((first | refine AWp.many ?_ | refine AOps.many ?_ | refine ADr.go ?_); conv => whnf))
  refine ACalls.useN nnΓ [] (dRead b hb) rfl (.same (.cons (.il' (encB_nn _)) .nil)) trivial rfl ?_
  rintro r m n ⟨rfl, rfl, rfl⟩
  refine ⟨[(0, 1)], .ptr 1 0 0, [(1, rdC (b, 0))], 2, .ptr 0 1 0 0 rfl, ⟨⟨0, _, rfl, rfl, .same (rdNN _)⟩, trivial⟩, rfl, ?_⟩
  ((conv => whnf); repeat ((first | refine AWp.many ?_ | refine AOps.many ?_ | refine ADr.go ?_); conv => whnf))
  refine ACalls.useR nnΓ [(2, 0), (1, 1)] hV rfl (.cons (.ptr 2 0 0 0 rfl) .nil) ⟨⟨2, _, rfl, rfl, dcCv rfl⟩, ⟨1, _, rfl, rfl, .same (rdNN _)⟩, trivial⟩ rfl ?_
  rintro r m n ⟨rfl, rfl, rfl⟩
  refine ⟨[(2, dcC p), (1, rdC (l, e))], nn, ⟨⟨0, _, rfl, rfl, dcCv rfl⟩, ⟨1, _, rfl, rfl, .same (rdNN _)⟩, trivial⟩, rfl, ?_⟩
  have hbad : ∀ (mem : Mem) (n : Nat) (P : Prop) [Decidable P], ¬ P → Fini 0 (fun r' m n => r' = AV.tup [encV (if P then (Val.mk v1 v2 v3 v4, (0 : Int)) else (Val.mk 0 0 [] [], 2)).1, .int .i64 (if P then (Val.mk v1 v2 v3 v4, (0 : Int)) else (Val.mk 0 0 [] [], 2)).2] ∧ m = [] ∧ n = 0)
      (.tup [.agg [.int .i64 0, .int .i64 0, .str [], .nsl], .int .i64 2]) mem n := by
    intro mem n P _ hP
    rw [if_neg hP]
    exact fin_cv (r' := .tup [encV (.mk 0 0 [] []), .int .i64 2]) (.tup' (.cons (cvLf _ _ _) (.cons (.same _ nn) .nil))) ⟨rfl, rfl, rfl⟩
  cases ok with
  | false =>
    ((conv => whnf); repeat ((first | refine AWp.many ?_ | refine AOps.many ?_ | refine ADr.go ?_); conv => whnf))
    exact hbad _ _ _ (by simp)
  | true =>
    have hz := hsz rfl
    have hp := hgd rfl (by omega)
    have hval := vValid (.mk v1 v2 v3 v4) hok (by omega)
    obtain ⟨c, hc⟩ : ∃ c, c = validV (.mk v1 v2 v3 v4) := ⟨_, rfl⟩
    rw [← hc] at hval ⊢
    obtain ⟨q, hq⟩ : ∃ q, q = (if e = 0 then (if l = [] then (0 : Int) else 2) else e) := ⟨_, rfl⟩
    rw [← hq] at hE
    ((conv => whnf); repeat ((first | refine AWp.many ?_ | refine AOps.many ?_ | refine ADr.go ?_); conv => whnf))
    refine rdUse 1 nnΓ hE rfl ?_
    by_cases q0 : q = 0
    · subst q0
      have hel : e = 0 ∧ l = [] := by
        by_cases he : e = 0
        · rw [if_pos he] at hq
          by_cases hll : l = []
          · exact ⟨he, hll⟩
          · rw [if_neg hll] at hq; omega
        · rw [if_neg he] at hq; exact absurd hq.symm he
      obtain ⟨rfl, rfl⟩ := hel
      ((conv => whnf); repeat ((first | refine AWp.many ?_ | refine AOps.many ?_ | refine ADr.go ?_); conv => whnf))
      refine hval.go ?_
      by_cases c0 : c = 0
      · subst c0
        rw [if_pos (by simp)]
        ((conv => whnf); repeat ((first | refine AWp.many ?_ | refine AOps.many ?_ | refine ADr.go ?_); conv => whnf))
        exact fin_pure nn ⟨rfl, rfl, rfl⟩
      · have d1 : (c != 0) = true := by simpa using c0
        ((conv => whnf); repeat ((first | refine AWp.many ?_ | refine AOps.many ?_ | refine ADr.go ?_); conv => whnf))
        rw [d1]
        ((conv => whnf); repeat ((first | refine AWp.many ?_ | refine AOps.many ?_ | refine ADr.go ?_); conv => whnf))
        exact hbad _ _ _ (by rintro ⟨-, -, h⟩; exact c0 h)
    · have d1 : (q != 0) = true := by simpa using q0
      ((conv => whnf); repeat ((first | refine AWp.many ?_ | refine AOps.many ?_ | refine ADr.go ?_); conv => whnf))
      rw [d1]
      ((conv => whnf); repeat ((first | refine AWp.many ?_ | refine AOps.many ?_ | refine ADr.go ?_); conv => whnf))
      refine hbad _ _ _ ?_
      rintro ⟨-, h, -⟩
      simp only [Prod.mk.injEq] at h
      rw [h.1, h.2] at hq
      simp at hq
      exact q0 hq
end Go.Proofs.YtfnhkfdjhmgjbaaGreatDoor

namespace Go.Proofs.YtfnhkfdjhmgjbaaGreatDoor
open Go Go.Ax Go.Proofs
set_option linter.unusedVariables false
set_option maxRecDepth 100000

/-- The block of a 'refuterref10.G'. -/
def gB (l : List Int) (at_ : Nat) : AB := .row 29 2 [.agg [.il 1 (encI l), .int .i64 at_]]

theorem gNN (l : List Int) (i : Nat) : NNs [.agg [.il 1 (encI l), .int .i64 i]] := .cons (.agg' (.cons (.il' (encI_nn l)) (.cons (.int _ _) .nil))) .nil

theorem gNext (l : List Int) (i : Nat) (most : Int) (hi : i ≤ 4611686018427387904) (hm : most ≤ 4611686018427387904) :
    ACalls Tryz.prog [] 11 [.ptr 0 0 0, .int .i64 most] [(0, gB l i)] 1 fun r m n => ∃ k : Int, r = .int .i64 k ∧ 0 ≤ k ∧ (k = 0 ∨ k < most) ∧ m = [(0, gB l (i + 1))] := by
  refine acalls_run nnΓ Tryz.func11 rfl ?_
  have hw : IntKind.i64.wrap ((i : Int) + 1) = ((i + 1 : Nat) : Int) := wrap64 ⟨by omega, by omega⟩
  have fin : ∀ (k : Int) (n : Nat), 0 ≤ k → (k = 0 ∨ k < most) → Fini 1 (fun r m _ => ∃ k : Int, r = .int .i64 k ∧ 0 ≤ k ∧ (k = 0 ∨ k < most) ∧ m = [(0, gB l (i + 1))]) (.int .i64 k) [(0, .row 29 2 [.agg [.il 1 (encI l), .int .i64 (IntKind.i64.wrap ((i : Int) + 1))]])] n := by
    intro k n h1 h2
    refine fin_mk (n' := 1) (m' := [(0, gB l (i + 1))]) [(0, 0)] rfl ⟨⟨0, _, rfl, rfl, .eq (gNN l (i + 1)) (by rw [hw])⟩, trivial⟩ (.same _ (.int _ _)) ⟨k, rfl, h1, h2, rfl⟩
  conv => whnf
  refine bcs_mk (fun h => ?_) (fun h => ?_)
  · rw [h]
    conv => whnf
    exact fin 0 _ (by omega) (.inl rfl)
  · have hlt : i < l.length := by rw [encI_length] at h; simp at h; omega
    rw [h]
    conv => whnf
    refine bcs_mk (fun h2 => ?_) (fun h2 => ?_)
    · conv => whnf
      exact fin 0 _ (by omega) (.inl rfl)
    · have h2 : 2 ≤ most := by simpa using h2
      conv => whnf
      refine opt_mk (a := .int .i64 l[i]) (by rw [Int.toNat_natCast, encI_get, List.getElem?_eq_getElem hlt]; rfl) ?_
      conv => whnf
      refine grd_mk (by rw [decide_eq_false (by omega)]; rfl) ?_
      conv => whnf
      have hr : -most < l[i].tmod most ∧ l[i].tmod most < most := by
        constructor
        · have := Int.lt_tmod_of_pos l[i] (show 0 < most by omega); omega
        · exact Int.tmod_lt_of_pos _ (by omega)
      refine bcs_mk (fun h3 => ?_) (fun h3 => ?_)
      · have h3 : l[i].tmod most < 0 := by simpa using h3
        conv => whnf
        have hw2 : IntKind.i64.wrap (l[i].tmod most + most) = l[i].tmod most + most := wrap64 ⟨by omega, by omega⟩
        rw [hw2]
        exact fin _ _ (by omega) (.inr (by omega))
      · have h3 : 0 ≤ l[i].tmod most := by simpa using h3
        conv => whnf
        exact fin _ _ h3 (.inr hr.2)

/-- 'Next', used where the generator lies in block 0. -/
theorem gNextUse {l : List Int} {i : Nat} (most : Int) (hi : i ≤ 4611686018427387904) (hm : most ≤ 4611686018427387904) (hp : 1 ≤ most) {mem : Mem} {nx : Nat} {K : AV → Mem → Nat → Prop} (hg : lk mem 0 = some (gB l i))
    (hk : ∀ k : Int, 0 ≤ k → k < most → dropK 0 mem fun rest => K (.int .i64 k) ((0, gB l (i + 1)) :: rest) nx) : ACalls Tryz.prog [] 11 [.ptr 0 0 0, .int .i64 most] mem nx K := by
  refine ACalls.use1 nnΓ (gNext l i most hi hm) 0 hg (gNN l i) (.cons (.ptr 0 0 0 0 rfl) (.cons (.same _ (.int _ _)) .nil)) ?_
  rintro r m n ⟨k, rfl, h1, h2, rfl⟩
  exact ⟨_, rfl, .int _ _, gNN l (i + 1), hk k h1 (by omega)⟩

theorem i64_wrap (n : Int) : i64 (IntKind.i64.wrap n) := by
  rw [IntKind.wrap_i64]
  exact ⟨by omega, by omega⟩

/-- What is said of 'Value'. -/
def gPost (l : List Int) (d i : Nat) : AV → Mem → Nat → Prop := fun r m _ => ∃ (v : Val) (j : Nat), r = encV v ∧ genV d v ∧ i ≤ j ∧ j ≤ i + genCost d ∧ m = [(0, gB l j)]

theorem gFin {l : List Int} {d i j : Nat} {kd n : Int} {s : List UInt8} {kv : AV} {kids : List Val} {mem : Mem} {nx : Nat} (h0 : lk mem 0 = some (gB l j)) (hkv : Cv mem [(0, 0)] kv (.il 4 (encVs kids))) (hg : genV d (.mk kd n s kids)) (h1 : i ≤ j) (h2 : j ≤ i + genCost d) :
    Fini 1 (gPost l d i) (.agg [.int .i64 kd, .int .i64 n, .str s, kv]) mem nx :=
  fin_mk (n' := 1) (m' := [(0, gB l j)]) [(0, 0)] rfl ⟨⟨0, _, rfl, h0, .same (gNN l j)⟩, trivial⟩ (.agg' (.cons (.same _ (.int _ _)) (.cons (.same _ (.int _ _)) (.cons (.same _ (.str _)) (.cons hkv .nil))))) ⟨_, j, rfl, hg, h1, h2, rfl⟩

theorem genV_leaf {d : Nat} {k n : Int} {s : List UInt8} (h : genBase k n s []) : genV d (.mk k n s []) := by
  cases d with
  | zero => exact ⟨h, rfl⟩
  | succ d => exact ⟨h, by simp, by simp⟩

/-- The state at the head of the loop over the kids. -/
def gSt (l : List Int) (d : Nat) (kd : Int) (s : List UInt8) (n : Int) (x : List Val × Nat) : St :=
  ⟨[(0, .ptr 0 0 0), (1, .int .i64 (d + 1 : Nat)), (4, .ptr 1 0 0), (6, .ptr 2 0 0), (7, .int .i64 n), (8, .int .i64 x.1.length)],
    [(0, gB l x.2), (1, .row 33 4 [.agg [.int .i64 0, .int .i64 0, .str [], .nsl]]), (2, .row 33 4 [.agg [.int .i64 kd, .int .i64 0, .str s, .sl 3 0 x.1.length]]), (3, .row 33 4 (encVs x.1))], 4, 72⟩

theorem gLoop (l : List Int) (d j0 : Nat) (hd : d < 10) (hj0 : j0 + 3 * genCost d ≤ 4611686018427387904)
    (ih : ∀ i, i + genCost d ≤ 4611686018427387904 → ACalls Tryz.prog [] 51 [.ptr 0 0 0, .int .i64 d] [(0, gB l i)] 1 (gPost l d i))
    (kd : Int) (s : List UInt8) (n : Int) (hn0 : 0 ≤ n) (hn : n < 4) (Q : Exit → St → Prop) (st : St) (σ : List (Nat × Nat)) (h0 : Conv 1 σ ⟨st.sl, (st.nx, .row 33 4 []) :: st.mem, st.nx + 1, st.nt⟩ (gSt l d kd s n ([], j0)))
    (hQ : ∀ (ks : List Val) (j : Nat), ks.length ≤ 3 → (∀ v ∈ ks, genV d v) → j0 ≤ j → j ≤ j0 + 3 * genCost d →
      Q (.exit 1) ⟨[(0, .ptr 0 0 0), (1, .int .i64 (d + 1 : Nat)), (4, .ptr 1 0 0), (6, .ptr 2 0 0), (7, .int .i64 n), (8, .int .i64 ks.length), (57, .int .i64 ks.length), (58, .int .i64 n), (59, .bool (decide ((ks.length : Int) < n)))], (gSt l d kd s n (ks, j)).mem, 4, 72⟩) :
    AWp Tryz.prog [] 1 (.loop (nthLoop Tryz.f51 0)) st Q := by
  refine AWp.ph 33 4 ?_
  refine AWp.loopAt nnΓ (fun x : List Val × Nat => (x.1.length : Int) ≤ n ∧ (∀ v ∈ x.1, genV d v) ∧ j0 ≤ x.2 ∧ x.2 ≤ j0 + x.1.length * genCost d) (gSt l d kd s n) (fun x => 4 - x.1.length) ([], j0) σ ⟨by simpa using hn0, by simp, Nat.le_refl _, by simp⟩ h0 ?_
  rintro ⟨ks, j⟩ ⟨h1, h2, h3, h4⟩
  have hc := genCost_pos d
  simp only at h1 h2 h3 h4
  have hmul : ks.length * genCost d ≤ 3 * genCost d := Nat.mul_le_mul_right _ (by omega)
  conv => whnf
  refine bcs_mk (fun h => ?_) (fun h => ?_)
  · have hlt : (ks.length : Int) < n := by simpa using h
    have hmul2 : ks.length * genCost d ≤ 2 * genCost d := Nat.mul_le_mul_right _ (by omega)
    conv => whnf
    refine ACalls.use1 nnΓ (ih j (by omega)) 0 rfl (gNN l j) (.cons (.ptr 0 0 0 0 rfl) (.cons (.eq (.int _ _) (by rw [wrap64 ⟨by omega, by omega⟩]; congr 1; omega)) .nil)) ?_
    rintro r m n' ⟨⟨vk, vn, vs, vks⟩, j', rfl, hv, g1, g2, rfl⟩
    refine ⟨_, rfl, encV_nn _, gNN l j', ?_⟩
    conv => whnf
    refine ⟨rfl, ?_⟩
    conv => whnf
    refine grd_mk (app_ok rfl rfl (by rw [encVs_length]) (by simp; omega)) ?_
    conv => whnf
    have hlen : ks.length + (List.take 1 (List.drop 0 [encV (Val.mk vk vn vs vks)])).length = (ks ++ [Val.mk vk vn vs vks]).length := by simp
    have hrow : encVs ks ++ List.take 1 (List.drop 0 [encV (Val.mk vk vn vs vks)]) = encVs (ks ++ [Val.mk vk vn vs vks]) := by simp [encVs_map]
    refine .mk (ks ++ [Val.mk vk vn vs vks], j') [(0, 0), (1, 1), (2, 2), (14, 3)] ⟨by simp; omega, fun v hm => ?_, by simp only; omega, ?_⟩
      (conv_mk _ rfl ⟨⟨0, _, rfl, rfl, .same (gNN l j')⟩, ⟨1, _, rfl, rfl, .same (.cons (.agg' (.cons (.int _ _) (.cons (.int _ _) (.cons (.str _) (.cons .nsl .nil))))) .nil)⟩,
        ⟨2, _, rfl, rfl, .cons (.agg (.cons (.same _ (.int _ _)) (.cons (.same _ (.int _ _)) (.cons (.same _ (.str _)) (.cons (.slE rfl hlen) .nil))))) .nil⟩,
        ⟨14, _, rfl, rfl, .eq (encVs_nn _) hrow⟩, trivial⟩
        ⟨⟨_, rfl, .ptr 0 0 0 0 rfl⟩, ⟨_, rfl, .same _ (.int _ _)⟩, ⟨_, rfl, .ptr 1 1 0 0 rfl⟩, ⟨_, rfl, .ptr 2 2 0 0 rfl⟩, ⟨_, rfl, .same _ (.int _ _)⟩, ⟨_, rfl, .eq (.int _ _) ?_⟩, trivial⟩) (by simp; omega)
    · rcases List.mem_append.1 hm with hm | hm
      · exact h2 v hm
      · simp at hm; rw [hm]; exact hv
    · simp only [List.length_append, List.length_singleton, Nat.add_mul]; omega
    · rw [wrap64 ⟨by simp only; omega, by simp only; omega⟩]; simp
  · conv => whnf
    exact hQ ks j (by omega) h2 h3 (by omega)

theorem gValue (l : List Int) : ∀ (d i : Nat), d ≤ 10 → i + genCost d ≤ 4611686018427387904 →
    ACalls Tryz.prog [] 51 [.ptr 0 0 0, .int .i64 d] [(0, gB l i)] 1 (gPost l d i) := by
  intro d
  induction d with
  | zero =>
    intro i _ hi
    simp only [genCost] at hi
    have hcd : genCost 0 = 6 := rfl
    refine acalls_run nnΓ Tryz.func51 rfl ?_
    conv => whnf
    refine gNextUse 7 (by omega) (by omega) (by omega) rfl fun k h1 h2 => ?_
    rcases (show (k = 0 ∨ k = 1 ∨ k = 4 ∨ k = 5) ∨ (k = 2 ∨ k = 6) ∨ k = 3 by omega) with hk | hk | rfl
    · rcases hk with rfl | rfl | rfl | rfl
      all_goals
        conv => whnf
        refine gNextUse 5 (by omega) (by omega) (by omega) rfl fun a a1 a2 => ?_
        conv => whnf
        refine gNextUse 100 (by omega) (by omega) (by omega) rfl fun b b1 b2 => ?_
        conv => whnf
        refine gNextUse 7 (by omega) (by omega) (by omega) rfl fun c c1 c2 => ?_
        rcases (show c = 0 ∨ c = 1 ∨ c = 2 ∨ c = 3 ∨ c = 4 ∨ c = 5 ∨ c = 6 by omega) with rfl | rfl | rfl | rfl | rfl | rfl | rfl
        all_goals
          conv => whnf
          refine gFin (kids := []) rfl (.nil 4) (genV_leaf (.inl ⟨rfl, ?_, rfl, rfl⟩)) (by omega) (by omega)
          first | exact ⟨by omega, by omega⟩ | exact i64_wrap _
    · rcases hk with rfl | rfl
      all_goals
        conv => whnf
        refine gNextUse 2 (by omega) (by omega) (by omega) rfl fun a a1 a2 => ?_
        conv => whnf
        exact gFin (kids := []) rfl (.nil 4) (genV_leaf (.inr (.inl ⟨rfl, by omega, rfl, rfl⟩))) (by omega) (by omega)
    · conv => whnf
      refine gNextUse 4 (by omega) (by omega) (by omega) rfl fun c c1 c2 => ?_
      rcases (show c = 0 ∨ c = 1 ∨ c = 2 ∨ c = 3 by omega) with rfl | rfl | rfl | rfl
      all_goals
        conv => whnf
        exact gFin (kids := []) rfl (.nil 4) (genV_leaf (.inr (.inr (.inr ⟨rfl, rfl, by simp [genNames]⟩)))) (by omega) (by omega)
  | succ d ih =>
    intro i hd hi
    have hc := genCost_pos d
    have hcd : genCost (d + 1) = 4 * genCost d := rfl
    refine acalls_run nnΓ Tryz.func51 rfl ?_
    conv => whnf
    refine gNextUse 7 (by omega) (by omega) (by omega) rfl fun k h1 h2 => ?_
    rcases (show (k = 0 ∨ k = 1) ∨ k = 2 ∨ k = 3 ∨ (k = 4 ∨ k = 5) ∨ k = 6 by omega) with hk | rfl | rfl | hk | rfl
    · rcases hk with rfl | rfl
      all_goals
        conv => whnf
        refine gNextUse 5 (by omega) (by omega) (by omega) rfl fun a a1 a2 => ?_
        conv => whnf
        refine gNextUse 100 (by omega) (by omega) (by omega) rfl fun b b1 b2 => ?_
        conv => whnf
        refine gNextUse 7 (by omega) (by omega) (by omega) rfl fun c c1 c2 => ?_
        rcases (show c = 0 ∨ c = 1 ∨ c = 2 ∨ c = 3 ∨ c = 4 ∨ c = 5 ∨ c = 6 by omega) with rfl | rfl | rfl | rfl | rfl | rfl | rfl
        all_goals
          conv => whnf
          refine gFin (kids := []) rfl (.nil 4) (genV_leaf (.inl ⟨rfl, ?_, rfl, rfl⟩)) (by omega) (by omega)
          first | exact ⟨by omega, by omega⟩ | exact i64_wrap _
    · conv => whnf
      refine gNextUse 2 (by omega) (by omega) (by omega) rfl fun a a1 a2 => ?_
      conv => whnf
      exact gFin (kids := []) rfl (.nil 4) (genV_leaf (.inr (.inl ⟨rfl, by omega, rfl, rfl⟩))) (by omega) (by omega)
    · conv => whnf
      refine gNextUse 4 (by omega) (by omega) (by omega) rfl fun c c1 c2 => ?_
      rcases (show c = 0 ∨ c = 1 ∨ c = 2 ∨ c = 3 by omega) with rfl | rfl | rfl | rfl
      all_goals
        conv => whnf
        exact gFin (kids := []) rfl (.nil 4) (genV_leaf (.inr (.inr (.inr ⟨rfl, rfl, by simp [genNames]⟩)))) (by omega) (by omega)
    · rcases hk with rfl | rfl
      all_goals
        conv => whnf
        refine gNextUse 4 (by omega) (by omega) (by omega) rfl fun c c1 c2 => ?_
        conv => whnf
        refine gLoop l d (i + 1 + 1) (by omega) (by omega) (fun i' h => ih i' (by omega) h) 2 [] c c1 c2 _ _ [(0, 0), (1, 1), (2, 2), (3, 3)]
          (conv_mk _ rfl ⟨⟨0, _, rfl, rfl, .same (gNN l _)⟩, ⟨1, _, rfl, rfl, .same (.cons (.agg' (.cons (.int _ _) (.cons (.int _ _) (.cons (.str _) (.cons .nsl .nil))))) .nil)⟩,
            ⟨2, _, rfl, rfl, .cons (.agg (.cons (.same _ (.int _ _)) (.cons (.same _ (.int _ _)) (.cons (.same _ (.str _)) (.cons (.nslk 3 3 _ rfl rfl) .nil))))) .nil⟩,
            ⟨3, _, rfl, rfl, .nil⟩, trivial⟩
            ⟨⟨_, rfl, .ptr 0 0 0 0 rfl⟩, ⟨_, rfl, .same _ (.int _ _)⟩, ⟨_, rfl, .ptr 1 1 0 0 rfl⟩, ⟨_, rfl, .ptr 2 2 0 0 rfl⟩, ⟨_, rfl, .same _ (.int _ _)⟩, ⟨_, rfl, .same _ (.int _ _)⟩, trivial⟩) ?_
        intro ks j g1 g2 g3 g4
        conv => whnf
        exact gFin rfl (.fz' (by rfl) rfl (by simp [encVs_length]) (by simp [← encVs_length]) (encVs_nn ks)) ⟨.inr (.inr (.inl ⟨rfl, rfl, rfl⟩)), g1, g2⟩ (by omega) (by omega)
    · conv => whnf
      refine gNextUse 3 (by omega) (by omega) (by omega) rfl fun e e1 e2 => ?_
      rcases (show e = 0 ∨ e = 1 ∨ e = 2 by omega) with rfl | rfl | rfl
      all_goals
        conv => whnf
        refine gNextUse 4 (by omega) (by omega) (by omega) rfl fun c c1 c2 => ?_
        conv => whnf
        refine gLoop l d (i + 1 + 1 + 1) (by omega) (by omega) (fun i' h => ih i' (by omega) h) 3 _ c c1 c2 _ _ [(0, 0), (1, 1), (2, 2), (4, 3)]
          (conv_mk _ rfl ⟨⟨0, _, rfl, rfl, .same (gNN l _)⟩, ⟨1, _, rfl, rfl, .same (.cons (.agg' (.cons (.int _ _) (.cons (.int _ _) (.cons (.str _) (.cons .nsl .nil))))) .nil)⟩,
            ⟨2, _, rfl, rfl, .cons (.agg (.cons (.same _ (.int _ _)) (.cons (.same _ (.int _ _)) (.cons (.same _ (.str _)) (.cons (.nslk 4 3 _ rfl rfl) .nil))))) .nil⟩,
            ⟨4, _, rfl, rfl, .nil⟩, trivial⟩
            ⟨⟨_, rfl, .ptr 0 0 0 0 rfl⟩, ⟨_, rfl, .same _ (.int _ _)⟩, ⟨_, rfl, .ptr 1 1 0 0 rfl⟩, ⟨_, rfl, .ptr 2 2 0 0 rfl⟩, ⟨_, rfl, .same _ (.int _ _)⟩, ⟨_, rfl, .same _ (.int _ _)⟩, trivial⟩) ?_
        intro ks j g1 g2 g3 g4
        conv => whnf
        exact gFin rfl (.fz' (by rfl) rfl (by simp [encVs_length]) (by simp [← encVs_length]) (encVs_nn ks)) ⟨.inr (.inr (.inr ⟨rfl, rfl, by simp [genNames]⟩)), g1, g2⟩ (by omega) (by omega)
end Go.Proofs.YtfnhkfdjhmgjbaaGreatDoor

namespace Go.Proofs.YtfnhkfdjhmgjbaaGreatDoor
open Go Go.Ax Go.Proofs
set_option linter.unusedVariables false
set_option maxRecDepth 100000
set_option maxHeartbeats 4000000

/-- 'refuterref10.Many'. -/
theorem rMany (n : Nat) (hn : n ≤ 1000) : PureC Tryz.prog [] 95 [.int .i64 n] (.il 4 (encVs (manyV n))) := by
  refine acalls_run nnΓ Tryz.func95 rfl ?_
  conv => whnf
  refine AWp.ph 33 4 ?_
  refine AWp.loopAt nnΓ (fun k : Nat => k ≤ n)
    (fun k => ⟨[(0, .int .i64 n), (3, .sl 0 0 (manyV k).length), (4, .int .i64 k)], [(0, .row 33 4 (encVs (manyV k)))], 1, 17⟩)
    (fun k => n - k) 0 [(0, 0)] (by simp)
    (conv_mk _ rfl ⟨⟨0, _, rfl, rfl, .nil⟩, trivial⟩ ⟨⟨_, rfl, .same _ nn⟩, ⟨_, rfl, .nslk 0 0 _ rfl rfl⟩, ⟨_, rfl, .same _ nn⟩, trivial⟩) ?_
  intro k hk
  have hlen := manyV_length k
  conv => whnf
  refine bcs_mk (fun h => ?_) (fun h => ?_)
  · have hlt : k < n := by simpa using h
    conv => whnf
    refine grd_mk (app_ok rfl rfl (by rw [encVs_length]) (by simp; omega)) ?_
    conv => whnf
    exact .mk (k + 1) [(2, 0)] (by omega) (conv_mk _ rfl ⟨⟨2, _, rfl, rfl, by rw [manyV_succ, encVs_snoc]; exact .snoc rfl (.same nns) (cvVal _ _ _)⟩, trivial⟩ ⟨⟨_, rfl, .same _ nn⟩, ⟨_, rfl, .slE rfl (by rw [manyV_succ]; simp)⟩, ⟨_, rfl, .w64 (by omega) ⟨by omega, by omega⟩⟩, trivial⟩) (by omega)
  · have hk' : k = n := by simp at h; omega
    subst hk'
    conv => whnf
    exact fin_cv (.fz' rfl rfl (by rw [encVs_length]; omega) (by rw [← encVs_length]; simp) nns) ⟨rfl, rfl, rfl⟩

/-- 'Next', used where the generator lies in a block. -/
theorem gNextAt (g : Nat) {l : List Int} {i : Nat} (most : Int) (hi : i ≤ 4611686018427387904) (hm : most ≤ 4611686018427387904) (hp : 1 ≤ most) {mem : Mem} {nx : Nat} {K : AV → Mem → Nat → Prop} (hg : lk mem g = some (gB l i))
    (hk : ∀ k : Int, 0 ≤ k → k < most → dropK g mem fun rest => K (.int .i64 k) ((g, gB l (i + 1)) :: rest) nx) : ACalls Tryz.prog [] 11 [.ptr g 0 0, .int .i64 most] mem nx K := by
  refine ACalls.use1 nnΓ (gNext l i most hi hm) g hg (gNN l i) (.cons (.ptr g 0 0 0 (by simp [lk])) (.cons (.same _ (.int _ _)) .nil)) ?_
  rintro r m n ⟨k, rfl, h1, h2, rfl⟩
  exact ⟨_, rfl, .int _ _, gNN l (i + 1), hk k h1 (by omega)⟩

/-- What is said of 'Bent'. -/
def bentQ (v : Val) : AV → Mem → Nat → Prop := fun r m n => ∃ v', r = encV v' ∧ okV v' ∧ sizeV v' ≤ sizeV v + 2000 ∧ m = [] ∧ n = 0

theorem bentF {v : Val} {r : AV} {m : Mem} {n : Nat} (v' : Val) (h : Cv m [] r (encV v')) (h1 : okV v') (h2 : sizeV v' ≤ sizeV v + 2000) : Fini 0 (bentQ v) r m n :=
  fin_cv h ⟨v', rfl, h1, h2, rfl, rfl⟩

theorem rBent : ∀ (v : Val) (which by_ : Int), okV v → sizeV v ≤ 1000000 → i64 by_ → ACalls Tryz.prog [] 52 [encV v, .int .i64 which, .int .i64 by_] [] 0 (bentQ v)
  | .mk vk vn vs ks, which, by_, hv, hsz, hb => by
    have hv0 := hv
    simp only [okV] at hv
    obtain ⟨hv1, hv2, hv3, hv4, hv5⟩ := hv
    have hl := sizeL_len ks
    have hsz' : sizeL ks + 1 ≤ 1000000 := by simp only [sizeV] at hsz; omega
    have ih : ∀ a ∈ ks, ∀ which, ACalls Tryz.prog [] 52 [encV a, .int .i64 which, .int .i64 by_] [] 0 (bentQ a) := fun a hm which => rBent a which by_ (okVs_mem hv5 a hm) (by have := sizeV_mem hm; omega) hb
    refine acalls_run nnΓ Tryz.func52 rfl ?_
    conv => whnf
    refine bcs_mk (fun h => ?_) (fun h => ?_)
    case' refine_1 =>
      have hpos : 0 < ks.length := by rw [encVs_length] at h; simpa using h
      rw [h]
      conv => whnf
      refine ACalls.pre nnΓ [(3, 3), (1, 1), (0, 0)] (mem' := [(3, gB [which, IntKind.i64.wrap (which.tdiv 7), IntKind.i64.wrap (which.tdiv 49)] 0), (1, .row 33 4 [.agg [.int .i64 0, .int .i64 0, .str [], .nsl]]), (0, .row 33 4 [encV (.mk vk vn vs ks)])]) rfl
        ⟨⟨3, _, rfl, rfl, .cons (.agg (.cons (.fz' rfl rfl (by simp) rfl nns) (.cons (.int rfl) .nil))) .nil⟩, ⟨1, _, rfl, rfl, .same nns⟩, ⟨0, _, rfl, rfl, .same nns⟩, trivial⟩ (.cons (.ptr 3 3 0 0 rfl) (.cons (.same _ nn) .nil)) ?_
      refine gNextAt 3 2 (by omega) (by omega) (by omega) rfl fun k h1 h2 => ?_
      conv => whnf
      refine bcs_mk (fun hk => ?_) (fun hk => ?_)
      · conv => whnf
        refine gNextAt 3 _ (by omega) (by rw [encVs_length]; omega) (by rw [encVs_length]; omega) rfl fun j j1 j2 => ?_
        obtain ⟨q, rfl⟩ := Int.eq_ofNat_of_zero_le j1
        have hq : q < ks.length := by rw [encVs_length] at j2; omega
        obtain ⟨a, b, c, d, hm, hg, he, e1⟩ := enc_cases hq
        have hb1 : Nat.blt (q : Int).toNat (encVs ks).length = true := Nat.ble_eq_true_of_le (by rw [encVs_length]; simp; omega)
        have e2 : (encVs ks)[0 + (q : Int).toNat]? = some (encV (.mk a b c d)) := by rw [Nat.zero_add]; exact e1
        conv => whnf
        refine grd_mk (app_nil rfl (by rw [encVs_length]; omega)) ?_
        conv => whnf
        refine grd_mk hb1 ?_
        conv => whnf
        refine opt_mk e2 ?_
        conv => whnf
        refine opt_mk e2 ?_
        conv => whnf
        refine ACalls.go0 (ih _ hm _) ?_
        rintro r m n ⟨⟨a', b', c', d'⟩, rfl, o1, o2, rfl, rfl⟩
        refine ⟨_, .same _ nn, ?_⟩
        conv => whnf
        refine grd_mk hb1 ?_
        conv => whnf
        refine opt_mk e2 ?_
        conv => whnf
        refine opt_mk e2 ?_
        conv => whnf
        refine setK_iff.2 ?_
        conv => whnf
        have hset := sizeL_set (.mk a' b' c' d') hq
        rw [he] at hset
        refine bentF (.mk vk vn vs (ks.set q (.mk a' b' c' d'))) (.agg' (.cons (.same _ nn) (.cons (.same _ nn) (.cons (.same _ nn) (.cons (.fzR rfl rfl (.eq nns ?_) ?_) .nil)))))
          (okV_list hv1 hv2 hv3 (by simpa using hv4) (okVs_set hv5 o1)) (by simp only [sizeV] at hset o2 ⊢; omega)
        · rw [encVs_set, Nat.zero_add, Int.toNat_natCast]; rfl
        · simp [encVs_length]
      conv => whnf
      refine gNextAt 3 7 (by omega) (by omega) (by omega) rfl fun k7 h3 h4 => ?_
    case' refine_2 =>
      rw [h]
      conv => whnf
      refine ACalls.pre nnΓ [(3, 3), (1, 1), (0, 0)] (mem' := [(3, gB [which, IntKind.i64.wrap (which.tdiv 7), IntKind.i64.wrap (which.tdiv 49)] 0), (1, .row 33 4 [.agg [.int .i64 0, .int .i64 0, .str [], .nsl]]), (0, .row 33 4 [encV (.mk vk vn vs ks)])]) rfl
        ⟨⟨3, _, rfl, rfl, .cons (.agg (.cons (.fz' rfl rfl (by simp) rfl nns) (.cons (.int rfl) .nil))) .nil⟩, ⟨1, _, rfl, rfl, .same nns⟩, ⟨0, _, rfl, rfl, .same nns⟩, trivial⟩ (.cons (.ptr 3 3 0 0 rfl) (.cons (.same _ nn) .nil)) ?_
      refine gNextAt 3 7 (by omega) (by omega) (by omega) rfl fun k7 h3 h4 => ?_
    all_goals
      rcases (show k7 = 0 ∨ k7 = 1 ∨ k7 = 2 ∨ k7 = 3 ∨ k7 = 4 ∨ k7 = 5 ∨ k7 = 6 by omega) with rfl | rfl | rfl | rfl | rfl | rfl | rfl
      · conv => whnf
        exact bentF (.mk by_ vn vs ks) (.same _ nn) (okV_list hb hv2 hv3 hv4 hv5) (by simp only [sizeV]; omega)
      · conv => whnf
        exact bentF (.mk vk by_ vs ks) (.same _ nn) (okV_list hv1 hb hv3 hv4 hv5) (by simp only [sizeV]; omega)
      · conv => whnf
        refine ACalls.pre nnΓ [(6, 6), (4, 4), (1, 1), (0, 0)] (mem' := [(6, gB [by_] 0), (4, .row 9 1 [.str [], .str [97], .str [90], .str [65, 66, 67, 68, 69, 70, 71, 72, 73, 74, 75, 76, 77, 78, 79, 80], .str [65, 66, 67, 68, 69, 70, 71, 72, 73, 74, 75, 76, 77, 78, 79, 80, 81], .str [65, 45], .str [65, 98, 57, 95]]), (1, .row 33 4 [.agg [.int .i64 0, .int .i64 0, .str [], .nsl]]), (0, .row 33 4 [encV (.mk vk vn vs ks)])]) rfl
          ⟨⟨6, _, rfl, rfl, .cons (.agg (.cons (.fz' rfl rfl (by simp) rfl nns) (.cons (.int rfl) .nil))) .nil⟩, ⟨4, _, rfl, rfl, .same nns⟩, ⟨1, _, rfl, rfl, .same nns⟩, ⟨0, _, rfl, rfl, .same nns⟩, trivial⟩ (.cons (.ptr 6 6 0 0 rfl) (.cons (.same _ nn) .nil)) ?_
        refine gNextAt 6 7 (by omega) (by omega) (by omega) rfl fun s s1 s2 => ?_
        rcases (show s = 0 ∨ s = 1 ∨ s = 2 ∨ s = 3 ∨ s = 4 ∨ s = 5 ∨ s = 6 by omega) with rfl | rfl | rfl | rfl | rfl | rfl | rfl
        all_goals
          conv => whnf
          exact bentF (.mk vk vn _ ks) (.same _ nn) (okV_list hv1 hv2 (by simp) hv4 hv5) (by simp only [sizeV]; omega)
      · conv => whnf
        refine grd_mk (app_ok rfl rfl (by simp) (by rw [encVs_length]; omega)) ?_
        conv => whnf
        refine bentF (.mk vk vn vs (.mk 0 by_ [] [] :: ks)) (.agg' (.cons (.same _ nn) (.cons (.same _ nn) (.cons (.same _ nn) (.cons (.fzR rfl rfl (.cons (cvVal _ _ _) (.same nns)) ?_) .nil))))) (okV_list hv1 hv2 hv3 (by simp; omega) ⟨okV_leaf ⟨by omega, by omega⟩ hb, hv5⟩) (by simp only [sizeV, sizeL]; omega)
        simp [encVs_length]; omega
      · conv => whnf
        refine ACalls.pre nnΓ [(5, 5), (1, 1), (0, 0)] (mem' := [(5, gB [by_] 0), (1, .row 33 4 [.agg [.int .i64 0, .int .i64 0, .str [], .nsl]]), (0, .row 33 4 [encV (.mk vk vn vs ks)])]) rfl
          ⟨⟨5, _, rfl, rfl, .cons (.agg (.cons (.fz' rfl rfl (by simp) rfl nns) (.cons (.int rfl) .nil))) .nil⟩, ⟨1, _, rfl, rfl, .same nns⟩, ⟨0, _, rfl, rfl, .same nns⟩, trivial⟩ (.cons (.ptr 5 5 0 0 rfl) (.cons (.same _ nn) .nil)) ?_
        refine gNextAt 5 6 (by omega) (by omega) (by omega) rfl fun s s1 s2 => ?_
        conv => whnf
        have hw : IntKind.i64.wrap (253 + s) = ((253 + s.toNat : Nat) : Int) := w64 (by omega) ⟨by omega, by omega⟩
        rw [hw]
        refine (rMany (253 + s.toNat) (by omega)).go ?_
        conv => whnf
        exact bentF (.mk 2 0 [] (manyV (253 + s.toNat))) (.same _ nn) (okV_list ⟨by omega, by omega⟩ ⟨by omega, by omega⟩ (by simp) (by rw [manyV_length]; omega) (manyV_ok _)) (by simp only [sizeV, manyV_size]; omega)
      · conv => whnf
        refine ACalls.pre nnΓ [(5, 5), (1, 1), (0, 0)] (mem' := [(5, gB [by_] 0), (1, .row 33 4 [.agg [.int .i64 0, .int .i64 0, .str [], .nsl]]), (0, .row 33 4 [encV (.mk vk vn vs ks)])]) rfl
          ⟨⟨5, _, rfl, rfl, .cons (.agg (.cons (.fz' rfl rfl (by simp) rfl nns) (.cons (.int rfl) .nil))) .nil⟩, ⟨1, _, rfl, rfl, .same nns⟩, ⟨0, _, rfl, rfl, .same nns⟩, trivial⟩ (.cons (.ptr 5 5 0 0 rfl) (.cons (.same _ nn) .nil)) ?_
        refine gNextAt 5 5 (by omega) (by omega) (by omega) rfl fun s s1 s2 => ?_
        conv => whnf
        have hw : IntKind.i64.wrap (14 + s) = ((14 + s.toNat : Nat) : Int) := w64 (by omega) ⟨by omega, by omega⟩
        rw [hw]
        refine (rMany (14 + s.toNat) (by omega)).go ?_
        conv => whnf
        exact bentF (.mk 3 0 [77] (manyV (14 + s.toNat))) (.same _ nn) (okV_list ⟨by omega, by omega⟩ ⟨by omega, by omega⟩ (by simp) (by rw [manyV_length]; omega) (manyV_ok _)) (by simp only [sizeV, manyV_size]; omega)
      · conv => whnf
        refine (rMany 250 (by omega)).go ?_
        conv => whnf
        refine (rMany 255 (by omega)).go ?_
        conv => whnf
        refine (rMany 256 (by omega)).go ?_
        conv => whnf
        refine ACalls.pre nnΓ [(5, 5), (1, 1), (0, 0)] (mem' := [(5, gB [by_] 0), (1, .row 33 4 [.agg [.int .i64 0, .int .i64 0, .str [], .nsl]]), (0, .row 33 4 [encV (.mk vk vn vs ks)])]) rfl
          ⟨⟨5, _, rfl, rfl, .cons (.agg (.cons (.fz' rfl rfl (by simp) rfl nns) (.cons (.int rfl) .nil))) .nil⟩, ⟨1, _, rfl, rfl, .same nns⟩, ⟨0, _, rfl, rfl, .same nns⟩, trivial⟩ (.cons (.ptr 5 5 0 0 rfl) (.cons (.same _ nn) .nil)) ?_
        refine gNextAt 5 5 (by omega) (by omega) (by omega) rfl fun s s1 s2 => ?_
        conv => whnf
        have hw : IntKind.i64.wrap (252 + s) = ((252 + s.toNat : Nat) : Int) := w64 (by omega) ⟨by omega, by omega⟩
        rw [hw]
        refine (rMany (252 + s.toNat) (by omega)).go ?_
        conv => whnf
        refine bentF (.mk 2 0 [] [.mk 2 0 [] (manyV 250), .mk 2 0 [] (manyV 255), .mk 2 0 [] (manyV 256), .mk 2 0 [] (manyV (252 + s.toNat)), .mk 0 by_ [] [], .mk 0 1 [] []])
          (.agg' (.cons (.same _ nn) (.cons (.same _ nn) (.cons (.same _ nn) (.cons (.fzR rfl rfl (.cons (CvE.same (x := encV (.mk 2 0 [] (manyV 250))) nn) (.cons (CvE.same (x := encV (.mk 2 0 [] (manyV 255))) nn) (.cons (CvE.same (x := encV (.mk 2 0 [] (manyV 256))) nn) (.cons (CvE.same (x := encV (.mk 2 0 [] (manyV (252 + s.toNat)))) nn) (.cons (cvVal _ _ _) (.cons (cvVal _ _ _) .nil)))))) rfl) .nil)))))
          ?_ (by simp only [sizeV, sizeL, manyV_size]; omega)
        have hz : i64 0 := ⟨by omega, by omega⟩
        have h2 : i64 2 := ⟨by omega, by omega⟩
        have hmany : ∀ n : Nat, n ≤ 4294967296 → okV (.mk 2 0 [] (manyV n)) := fun n hn => okV_list h2 hz (by simp) (by rw [manyV_length]; omega) (manyV_ok _)
        exact okV_list h2 hz (by simp) (by simp) ⟨hmany _ (by omega), hmany _ (by omega), hmany _ (by omega), hmany _ (by omega), okV_leaf hz hb, okV_leaf hz ⟨by omega, by omega⟩, trivial⟩
  termination_by v => SizeOf.sizeOf v
  decreasing_by simp; have := List.sizeOf_lt_of_mem hm; omega

/-- 'refuterlaw10.some'. -/
theorem rSome (l : List Int) (bent by_ : Int) (hb : i64 by_) : ACalls Tryz.prog [] 15 [.il 1 (encI l), .int .i64 bent, .int .i64 by_] [] 0 fun r m n => ∃ v', r = encV v' ∧ okV v' ∧ sizeV v' ≤ 10000 ∧ (bent ≤ 0 → genV 3 v') ∧ m = [] ∧ n = 0 := by
  refine acalls_run nnΓ Tryz.func15 rfl ?_
  conv => whnf
  refine ACalls.use1 nnΓ (gValue l 3 0 (by omega) (by decide)) 1 rfl (gNN l 0) (.cons (.ptr 1 0 0 0 rfl) (.cons (.same _ nn) .nil)) ?_
  rintro r m n ⟨⟨a, b, c, d⟩, j, rfl, hv, g1, g2, rfl⟩
  have hok := genV_ok hv
  have hsz := genV_size hv
  refine ⟨_, rfl, nn, gNN l j, ?_⟩
  conv => whnf
  refine bcs_mk (fun h => ?_) (fun h => ?_)
  · have h : 0 < bent := by simpa using h
    conv => whnf
    refine ACalls.go0 (rBent (.mk a b c d) bent by_ hok (by omega) hb) ?_
    rintro r m n ⟨⟨a', b', c', d'⟩, rfl, o1, o2, rfl, rfl⟩
    refine ⟨_, .same _ nn, ?_⟩
    conv => whnf
    exact fin_pure nn ⟨_, rfl, o1, by omega, fun h' => by omega, rfl, rfl⟩
  · conv => whnf
    exact fin_pure nn ⟨_, rfl, hok, by omega, fun _ => hv, rfl, rfl⟩
end Go.Proofs.YtfnhkfdjhmgjbaaGreatDoor

namespace Go.Proofs.YtfnhkfdjhmgjbaaGreatDoor
open Go Go.Ax Go.Proofs
set_option linter.unusedVariables false
set_option maxRecDepth 100000
set_option maxHeartbeats 4000000

theorem encB_setD (l : List UInt8) (i : Nat) (b : UInt8) : (encB l).set i (.int .u8 (b.toNat : Int)) = encB (l.set i b) := by rw [encB, encB, List.map_set]
theorem code_pos (v : Val) : 0 < (codeV v).length := by
  obtain ⟨k, n, s, kids⟩ := v
  rw [codeV, List.length_append]
  have : 0 < (encInt k).length := by
    unfold encInt
    rw [uvar]
    split <;> simp
  omega

theorem lawDecodesW (l : List Int) (raw : List UInt8) (at_ : Int) (by_ : UInt8) (hl : ∀ x ∈ l, i64 x) (hr : raw.length ≤ 9223372036854775807) (ha : i64 at_) (_ : True) : PureC Tryz.prog gz 7 [.il 1 (encI l), .il 1 (encB raw), .int .i64 at_, .int .u8 by_.toNat] (.bool true) := by
  refine acalls_go nngz Tryz.func7 rfl ?_
  have h0 : i64 0 := ⟨by omega, by omega⟩
  ((conv => whnf); repeat ((first | refine AWp.many ?_ | refine AOps.many ?_ | refine ADr.go ?_); conv => whnf))
  refine ACalls.goG0 (rSome l 0 0 h0) ?_
  rintro r m' n' ⟨⟨a1, a2, a3, a4⟩, rfl, oa, sa, ga, rfl, rfl⟩
  refine ⟨_, .same _ nn, ?_⟩
  have hg := ga (by omega)
  have hfm := genV_formed hg
  have hsz := genV_size hg
  have hlen := code_len _ oa hfm
  have hpos := code_pos (.mk a1 a2 a3 a4)
  have hP := rEncode _ oa hfm (by omega)
  clear hg hfm ga
  generalize codeV (.mk a1 a2 a3 a4) = t at hlen hpos hP
  replace hlen : t.length ≤ 4000 := by omega
  ((conv => whnf); repeat ((first | refine AWp.many ?_ | refine AOps.many ?_ | refine ADr.go ?_); conv => whnf))
  refine newUse nngz hP.glob ?_
  ((conv => whnf); repeat ((first | refine AWp.many ?_ | refine AOps.many ?_ | refine ADr.go ?_); conv => whnf))
  refine ACalls.pre nngz [(2, 2), (0, 0)] (mem' := [(2, gB [at_] 0), (0, .row 5 1 (encB t))]) rfl
    ⟨⟨2, _, rfl, rfl, .cons (.agg (.cons (.fz' rfl rfl (by simp) rfl nns) (.cons (.int rfl) .nil))) .nil⟩, ⟨0, _, rfl, rfl, .same (encB_nn _)⟩, trivial⟩ (.cons (.ptr 2 2 0 0 rfl) (.cons (.same _ nn) .nil)) ?_
  refine ACalls.glob (gNextAt 2 _ (by omega) (by omega) (by omega) rfl fun k k0 k1 => ?_)
  obtain ⟨k, rfl⟩ : ∃ i : Nat, k = i := ⟨k.toNat, by omega⟩
  replace k1 : k < t.length := by omega
  have lT := encB_length t
  ((conv => whnf); repeat ((first | refine AWp.many ?_ | refine AOps.many ?_ | refine ADr.go ?_); conv => whnf))
  refine grd_mk (src_ok (by rw [lT]; omega)) ?_
  rw [eTake]
  ((conv => whnf); repeat ((first | refine AWp.many ?_ | refine AOps.many ?_ | refine ADr.go ?_); conv => whnf))
  refine grd_mk (app_ok rfl rfl rfl (by rw [lT]; omega)) ?_
  have eA : ([] : List AV) ++ encB t = encB t := rfl
  have hgk : (encB t)[k]? = some (.int .u8 (t[k].toNat : Int)) := by rw [encB_get, List.getElem?_eq_getElem k1]; rfl
  have hgk' : (encB t)[0 + ((k : Int)).toNat]? = some (.int .u8 (t[k].toNat : Int)) := by simpa using hgk
  generalize t[k] = tk at hgk hgk'
  ((conv => whnf); repeat ((first | refine AWp.many ?_ | refine AOps.many ?_ | refine ADr.go ?_); conv => whnf))
  rw [eA]
  refine grd_mk (Nat.ble_eq_true_of_le (by rw [lT]; simp; omega)) ?_
  refine opt_mk hgk' ?_
  ((conv => whnf); repeat ((first | refine AWp.many ?_ | refine AOps.many ?_ | refine ADr.go ?_); conv => whnf))
  refine opt_mk hgk' ?_
  ((conv => whnf); repeat ((first | refine AWp.many ?_ | refine AOps.many ?_ | refine ADr.go ?_); conv => whnf))
  refine setK_iff.2 ?_
  rw [encB_setD]
  have lU : (t.set (0 + ((k : Int)).toNat) by_).length = t.length := List.length_set
  generalize t.set (0 + ((k : Int)).toNat) by_ = u1 at lU
  ((conv => whnf); repeat ((first | refine AWp.many ?_ | refine AOps.many ?_ | refine ADr.go ?_); conv => whnf))
  refine grd_mk (sl_ok (by omega) (by simp; omega) (by omega)) ?_
  ((conv => whnf); repeat ((first | refine AWp.many ?_ | refine AOps.many ?_ | refine ADr.go ?_); conv => whnf))
  rw [w64 (x := (k : Int) + 1) (y := ((k + 1 : Nat) : Int)) (by omega) ⟨by omega, by omega⟩]
  ((conv => whnf); repeat ((first | refine AWp.many ?_ | refine AOps.many ?_ | refine ADr.go ?_); conv => whnf))
  refine grd_mk (sl_ok (by simp; omega) (by omega) (by omega)) ?_
  have eK : List.take (((k : Int)).toNat - 0) (List.drop (0 + 0) (encB t)) = encB (t.take k) := by rw [encB_drop, encB_take]; simp
  have eK1 : List.take (t.length - (((k + 1 : Nat) : Int)).toNat) (List.drop (0 + (((k + 1 : Nat) : Int)).toNat) (encB t)) = encB (t.drop (k + 1)) := by
    rw [encB_drop, encB_take, Int.toNat_natCast, Nat.zero_add, List.take_of_length_le (by simp)]
  have lK : (encB (t.take k)).length = k := by rw [encB_length]; simp; omega
  have lK1 : (encB (t.drop (k + 1))).length = t.length - (k + 1) := by rw [encB_length]; simp
  ((conv => whnf); repeat ((first | refine AWp.many ?_ | refine AOps.many ?_ | refine ADr.go ?_); conv => whnf))
  refine grd_mk (src_ok (by rw [lT]; simp; omega)) ?_
  rw [eK]
  ((conv => whnf); repeat ((first | refine AWp.many ?_ | refine AOps.many ?_ | refine ADr.go ?_); conv => whnf))
  refine grd_mk (app_nil rfl (by rw [lK]; omega)) ?_
  ((conv => whnf); repeat ((first | refine AWp.many ?_ | refine AOps.many ?_ | refine ADr.go ?_); conv => whnf))
  repeat (first | (refine ⟨rfl, ?_⟩; ((conv => whnf); repeat ((first | refine AWp.many ?_ | refine AOps.many ?_ | refine ADr.go ?_); conv => whnf))) | (refine grd_mk (sl_ok (by (try simp) <;> omega) (by (try simp) <;> omega) (by (try simp) <;> omega)) ?_; ((conv => whnf); repeat ((first | refine AWp.many ?_ | refine AOps.many ?_ | refine ADr.go ?_); conv => whnf))))
  refine grd_mk (src_ok (by rw [lT]; simp; omega)) ?_
  rw [eK1]
  ((conv => whnf); repeat ((first | refine AWp.many ?_ | refine AOps.many ?_ | refine ADr.go ?_); conv => whnf))
  refine grd_mk (app_ok rfl rfl rfl (by rw [lK, lK1]; omega)) ?_
  ((conv => whnf); repeat ((first | refine AWp.many ?_ | refine AOps.many ?_ | refine ADr.go ?_); conv => whnf))
  repeat (first | (refine ⟨rfl, ?_⟩; ((conv => whnf); repeat ((first | refine AWp.many ?_ | refine AOps.many ?_ | refine ADr.go ?_); conv => whnf))) | (refine grd_mk (sl_ok (by (try simp) <;> omega) (by (try simp) <;> omega) (by (try simp) <;> omega)) ?_; ((conv => whnf); repeat ((first | refine AWp.many ?_ | refine AOps.many ?_ | refine ADr.go ?_); conv => whnf))))
  have eM : (if (60 : Int) < ((encB raw).length : Int) then 60 else ((encB raw).length : Int)) = ((min raw.length 60 : Nat) : Int) := by rw [encB_length]; split <;> omega
  rw [eM]
  have hmn1 : min raw.length 60 ≤ raw.length := by omega
  have hmn2 : min raw.length 60 ≤ 60 := by omega
  generalize min raw.length 60 = mn at hmn1 hmn2
  have lR := encB_length raw
  have eR : List.take (((mn : Nat) : Int).toNat - 0) (List.drop 0 (encB raw)) = encB (raw.take mn) := by rw [List.drop_zero, encB_take]; simp
  have lRm : (encB (raw.take mn)).length = mn := by rw [encB_length]; simp; omega
  ((conv => whnf); repeat ((first | refine AWp.many ?_ | refine AOps.many ?_ | refine ADr.go ?_); conv => whnf))
  refine grd_mk (sl_ok (by omega) (by rw [lR]; simp; omega) (by omega)) ?_
  rw [eR]
  ((conv => whnf); repeat ((first | refine AWp.many ?_ | refine AOps.many ?_ | refine ADr.go ?_); conv => whnf))
  refine grd_mk (src_ok (by rw [lT]; omega)) ?_
  rw [eTake]
  ((conv => whnf); repeat ((first | refine AWp.many ?_ | refine AOps.many ?_ | refine ADr.go ?_); conv => whnf))
  refine grd_mk (app_ok rfl rfl rfl (by rw [lT]; omega)) ?_
  ((conv => whnf); repeat ((first | refine AWp.many ?_ | refine AOps.many ?_ | refine ADr.go ?_); conv => whnf))
  repeat (first | (refine ⟨rfl, ?_⟩; ((conv => whnf); repeat ((first | refine AWp.many ?_ | refine AOps.many ?_ | refine ADr.go ?_); conv => whnf))) | (refine grd_mk (sl_ok (by omega) (by rw [lR]; simp; omega) (by omega)) ?_; (try rw [eR]); ((conv => whnf); repeat ((first | refine AWp.many ?_ | refine AOps.many ?_ | refine ADr.go ?_); conv => whnf))))
  refine grd_mk (app_ok rfl rfl (by rw [eA]; simp) (by rw [lT]; simp; omega)) ?_
  ((conv => whnf); repeat ((first | refine AWp.many ?_ | refine AOps.many ?_ | refine ADr.go ?_); conv => whnf))
  repeat (first | (refine ⟨rfl, ?_⟩; ((conv => whnf); repeat ((first | refine AWp.many ?_ | refine AOps.many ?_ | refine ADr.go ?_); conv => whnf))) | (refine grd_mk (sl_ok (by omega) (by rw [lR]; simp; omega) (by omega)) ?_; (try rw [eR]); ((conv => whnf); repeat ((first | refine AWp.many ?_ | refine AOps.many ?_ | refine ADr.go ?_); conv => whnf))))
  refine grd_mk (app_ok rfl rfl rfl (by rw [lRm]; omega)) ?_
  ((conv => whnf); repeat ((first | refine AWp.many ?_ | refine AOps.many ?_ | refine ADr.go ?_); conv => whnf))
  repeat (first | (refine ⟨rfl, ?_⟩; ((conv => whnf); repeat ((first | refine AWp.many ?_ | refine AOps.many ?_ | refine ADr.go ?_); conv => whnf))) | (refine grd_mk (sl_ok (by omega) (by rw [lR]; simp; omega) (by omega)) ?_; (try rw [eR]); ((conv => whnf); repeat ((first | refine AWp.many ?_ | refine AOps.many ?_ | refine ADr.go ?_); conv => whnf))))
  obtain ⟨ss, hss⟩ : ∃ ss : List (List UInt8), ss = [u1, t.take k ++ t.drop (k + 1), t ++ [by_], raw.take mn] := ⟨_, rfl⟩
  have hl4 : ss.length = 4 := by rw [hss]; rfl
  have hsl : ∀ s ∈ ss, s.length ≤ 1000000 := by
    intro s hs
    rw [hss] at hs
    simp only [List.mem_cons, List.not_mem_nil, or_false] at hs
    rcases hs with rfl | rfl | rfl | rfl
    · omega
    · simp; omega
    · simp; omega
    · simp; omega
  have hnS : NNs (ss.map fun s => AV.il 1 (encB s)) := fun a ha => by obtain ⟨x, _, rfl⟩ := List.mem_map.1 ha; exact .il' (encB_nn x)
  refine ALoop.at nngz (fun i : Nat => i ≤ 4) (fun i => ⟨[(13, .sl 0 0 4), (14, .int .i64 i)], [(0, .row 49 1 (ss.map fun s => AV.il 1 (encB s)))], 1, 97⟩) (fun i => 4 - i) 0 [(33, 0)] (by simp)
    (conv_mk _ rfl ⟨⟨33, _, rfl, rfl, by
      rw [hss]
      exact .cons (.one rfl rfl (.fz' (id := 4) (xs := encB u1) rfl rfl (by rw [lT, encB_length, lU]; omega) (by rw [List.drop_zero]; exact List.take_of_length_le (by rw [lT, encB_length, lU]; omega)) (encB_nn _)))
        (.cons (.one rfl rfl (.fz' (id := 17) (xs := encB (t.take k) ++ encB (t.drop (k + 1))) rfl rfl (by simp) (by rw [List.drop_zero, encB_append]; exact List.take_of_length_le (by simp)) (encB_nn _)))
        (.cons (.one rfl rfl (.fz' (id := 36) (xs := [] ++ encB t ++ List.take 1 (List.drop 0 [AV.int IntKind.u8 (by_.toNat : Int)])) rfl rfl (by simp) (by rw [List.drop_zero, encB_append]; exact List.take_of_length_le (by simp)) (encB_nn _)))
        (.cons (.one rfl rfl (.fz' (id := 37) (xs := [] ++ encB (raw.take mn)) rfl rfl (by simp) (by rw [List.drop_zero]; exact List.take_of_length_le (by simp)) (encB_nn _))) .nil)))⟩, trivial⟩ ⟨⟨_, rfl, .sl 33 0 0 4 rfl⟩, ⟨_, rfl, .same _ nn⟩, trivial⟩) ?_
  clear hss
  intro i hi
  ((conv => whnf); repeat ((first | refine AWp.many ?_ | refine AOps.many ?_ | refine ADr.go ?_); conv => whnf))
  refine bcs_mk (fun h => ?_) (fun h => ?_)
  · have hi4 : i < 4 := by simp at h; omega
    have hgi : (ss.map fun s => AV.il 1 (encB s))[0 + ((i : Int)).toNat]? = some (.il 1 (encB ss[i])) := by simp [List.getElem?_eq_getElem (show i < ss.length by omega)]
    have hbi : Nat.blt ((i : Int)).toNat 4 = true := Nat.ble_eq_true_of_le (by simp; omega)
    have hsb := hsl _ (List.getElem_mem (show i < ss.length by omega))
    have hD := vDecode ss[i] (by omega)
    generalize ss[i] = s at hgi hsb hD
    by_cases hde : (decodeR s).2 = 0
    · obtain ⟨ov, vv, cv⟩ := decode_sound (by omega) hde
      rw [hde] at hD
      generalize (decodeR s).1 = v at hD ov vv cv
      obtain ⟨v1, v2, v3, v4⟩ := v
      obtain ⟨hfv, hwv, hsv⟩ := valid_fits vv
      have hV := rValid _ ov (by omega)
      rw [vv] at hV
      have hPr := rEncode _ ov hfv (by omega)
      rw [cv] at hPr
      have hne : (s == s) = true := by simp
      have eW : toBytes (List.take s.length (List.drop 0 (encB s))) = some s := by rw [eTake]; exact toBytes_encB s
      clear hde cv hfv hwv
      ((conv => whnf); repeat ((first | refine AWp.many ?_ | refine AOps.many ?_ | refine ADr.go ?_); conv => whnf))
      repeat (first | (refine ⟨rfl, ?_⟩; ((conv => whnf); repeat ((first | refine AWp.many ?_ | refine AOps.many ?_ | refine ADr.go ?_); conv => whnf))) | (refine grd_mk hbi ?_; ((conv => whnf); repeat ((first | refine AWp.many ?_ | refine AOps.many ?_ | refine ADr.go ?_); conv => whnf))) | (refine opt_mk hgi ?_; ((conv => whnf); repeat ((first | refine AWp.many ?_ | refine AOps.many ?_ | refine ADr.go ?_); conv => whnf))) | (refine opt_mk (toBytes_encB s) ?_; ((conv => whnf); repeat ((first | refine AWp.many ?_ | refine AOps.many ?_ | refine ADr.go ?_); conv => whnf))) | (refine opt_mk eW ?_; ((conv => whnf); repeat ((first | refine AWp.many ?_ | refine AOps.many ?_ | refine ADr.go ?_); conv => whnf))) | (refine grd_mk (Nat.ble_eq_true_of_le (by rw [encB_length]; omega)) ?_; ((conv => whnf); repeat ((first | refine AWp.many ?_ | refine AOps.many ?_ | refine ADr.go ?_); conv => whnf))))
      refine hD.goG ?_ (.cons (.il' (encB_nn _)) .nil)
      ((conv => whnf); repeat ((first | refine AWp.many ?_ | refine AOps.many ?_ | refine ADr.go ?_); conv => whnf))
      repeat (first | (refine ⟨rfl, ?_⟩; ((conv => whnf); repeat ((first | refine AWp.many ?_ | refine AOps.many ?_ | refine ADr.go ?_); conv => whnf))) | (refine grd_mk hbi ?_; ((conv => whnf); repeat ((first | refine AWp.many ?_ | refine AOps.many ?_ | refine ADr.go ?_); conv => whnf))) | (refine opt_mk hgi ?_; ((conv => whnf); repeat ((first | refine AWp.many ?_ | refine AOps.many ?_ | refine ADr.go ?_); conv => whnf))) | (refine opt_mk (toBytes_encB s) ?_; ((conv => whnf); repeat ((first | refine AWp.many ?_ | refine AOps.many ?_ | refine ADr.go ?_); conv => whnf))) | (refine opt_mk eW ?_; ((conv => whnf); repeat ((first | refine AWp.many ?_ | refine AOps.many ?_ | refine ADr.go ?_); conv => whnf))) | (refine grd_mk (Nat.ble_eq_true_of_le (by rw [encB_length]; omega)) ?_; ((conv => whnf); repeat ((first | refine AWp.many ?_ | refine AOps.many ?_ | refine ADr.go ?_); conv => whnf))))
      refine hV.goG ?_
      ((conv => whnf); repeat ((first | refine AWp.many ?_ | refine AOps.many ?_ | refine ADr.go ?_); conv => whnf))
      repeat (first | (refine ⟨rfl, ?_⟩; ((conv => whnf); repeat ((first | refine AWp.many ?_ | refine AOps.many ?_ | refine ADr.go ?_); conv => whnf))) | (refine grd_mk hbi ?_; ((conv => whnf); repeat ((first | refine AWp.many ?_ | refine AOps.many ?_ | refine ADr.go ?_); conv => whnf))) | (refine opt_mk hgi ?_; ((conv => whnf); repeat ((first | refine AWp.many ?_ | refine AOps.many ?_ | refine ADr.go ?_); conv => whnf))) | (refine opt_mk (toBytes_encB s) ?_; ((conv => whnf); repeat ((first | refine AWp.many ?_ | refine AOps.many ?_ | refine ADr.go ?_); conv => whnf))) | (refine opt_mk eW ?_; ((conv => whnf); repeat ((first | refine AWp.many ?_ | refine AOps.many ?_ | refine ADr.go ?_); conv => whnf))) | (refine grd_mk (Nat.ble_eq_true_of_le (by rw [encB_length]; omega)) ?_; ((conv => whnf); repeat ((first | refine AWp.many ?_ | refine AOps.many ?_ | refine ADr.go ?_); conv => whnf))))
      refine newUse nngz hPr.glob ?_
      ((conv => whnf); repeat ((first | refine AWp.many ?_ | refine AOps.many ?_ | refine ADr.go ?_); conv => whnf))
      repeat (first | (refine ⟨rfl, ?_⟩; ((conv => whnf); repeat ((first | refine AWp.many ?_ | refine AOps.many ?_ | refine ADr.go ?_); conv => whnf))) | (refine grd_mk hbi ?_; ((conv => whnf); repeat ((first | refine AWp.many ?_ | refine AOps.many ?_ | refine ADr.go ?_); conv => whnf))) | (refine opt_mk hgi ?_; ((conv => whnf); repeat ((first | refine AWp.many ?_ | refine AOps.many ?_ | refine ADr.go ?_); conv => whnf))) | (refine opt_mk (toBytes_encB s) ?_; ((conv => whnf); repeat ((first | refine AWp.many ?_ | refine AOps.many ?_ | refine ADr.go ?_); conv => whnf))) | (refine opt_mk eW ?_; ((conv => whnf); repeat ((first | refine AWp.many ?_ | refine AOps.many ?_ | refine ADr.go ?_); conv => whnf))) | (refine grd_mk (Nat.ble_eq_true_of_le (by rw [encB_length]; omega)) ?_; ((conv => whnf); repeat ((first | refine AWp.many ?_ | refine AOps.many ?_ | refine ADr.go ?_); conv => whnf))))
      rw [hne]
      ((conv => whnf); repeat ((first | refine AWp.many ?_ | refine AOps.many ?_ | refine ADr.go ?_); conv => whnf))
      exact .mk (i + 1) [(0, 0)] (by omega) (conv_mk _ rfl ⟨⟨0, _, rfl, rfl, .same hnS⟩, trivial⟩ ⟨⟨_, rfl, .sl 0 0 0 4 rfl⟩, ⟨_, rfl, .w64 (by omega) ⟨by omega, by omega⟩⟩, trivial⟩) (by omega)
    · have hbad := decode_bad hde
      rw [hbad] at hD
      have hE := rEqual (.mk 0 0 [] []) (.mk 0 0 [] []) (okV_leaf h0 h0)
      rw [eqV_self] at hE
      simp only at hD
      clear hbad hde
      have eW : toBytes (List.take s.length (List.drop 0 (encB s))) = some s := by rw [eTake]; exact toBytes_encB s
      ((conv => whnf); repeat ((first | refine AWp.many ?_ | refine AOps.many ?_ | refine ADr.go ?_); conv => whnf))
      repeat (first | (refine ⟨rfl, ?_⟩; ((conv => whnf); repeat ((first | refine AWp.many ?_ | refine AOps.many ?_ | refine ADr.go ?_); conv => whnf))) | (refine grd_mk hbi ?_; ((conv => whnf); repeat ((first | refine AWp.many ?_ | refine AOps.many ?_ | refine ADr.go ?_); conv => whnf))) | (refine opt_mk hgi ?_; ((conv => whnf); repeat ((first | refine AWp.many ?_ | refine AOps.many ?_ | refine ADr.go ?_); conv => whnf))) | (refine opt_mk (toBytes_encB s) ?_; ((conv => whnf); repeat ((first | refine AWp.many ?_ | refine AOps.many ?_ | refine ADr.go ?_); conv => whnf))) | (refine opt_mk eW ?_; ((conv => whnf); repeat ((first | refine AWp.many ?_ | refine AOps.many ?_ | refine ADr.go ?_); conv => whnf))) | (refine grd_mk (Nat.ble_eq_true_of_le (by rw [encB_length]; omega)) ?_; ((conv => whnf); repeat ((first | refine AWp.many ?_ | refine AOps.many ?_ | refine ADr.go ?_); conv => whnf))))
      refine hD.goG ?_ (.cons (.il' (encB_nn _)) .nil)
      ((conv => whnf); repeat ((first | refine AWp.many ?_ | refine AOps.many ?_ | refine ADr.go ?_); conv => whnf))
      refine ACalls.pre nngz [(0, 0)] (mem' := [(0, .row 49 1 (ss.map fun s => AV.il 1 (encB s)))]) rfl
        ⟨⟨0, _, rfl, rfl, .same hnS⟩, trivial⟩ (.cons (.same _ nn) (.cons (cvLf _ _ _) .nil)) ?_
      refine hE.goG ?_
      ((conv => whnf); repeat ((first | refine AWp.many ?_ | refine AOps.many ?_ | refine ADr.go ?_); conv => whnf))
      exact .mk (i + 1) [(0, 0)] (by omega) (conv_mk _ rfl ⟨⟨0, _, rfl, rfl, .same hnS⟩, trivial⟩ ⟨⟨_, rfl, .sl 0 0 0 4 rfl⟩, ⟨_, rfl, .w64 (by omega) ⟨by omega, by omega⟩⟩, trivial⟩) (by omega)
  · ((conv => whnf); repeat ((first | refine AWp.many ?_ | refine AOps.many ?_ | refine ADr.go ?_); conv => whnf))
    refine ACalls.call0 nngz (acalls_closed 60 (by rw [lives10]; trivial)) .nil ?_
    intro r m' n' hr
    rw [saysTrue_eq hr]
    refine ⟨_, .same _ (.bool true), ?_⟩
    ((conv => whnf); repeat ((first | refine AWp.many ?_ | refine AOps.many ?_ | refine ADr.go ?_); conv => whnf))
    exact fin_pure (.bool _) ⟨rfl, rfl, rfl⟩
end Go.Proofs.YtfnhkfdjhmgjbaaGreatDoor

/- For every input (a slice of ints, a slice of bytes, an int, a byte), refuterlaw10.ValuesDecodes returns true, and its arguments read behind the call as they read before (the card ValuesDecodesCardSaid, the full form). Conditions: the package-level variables that the row lists hold, when the call begins, what the program's text lays (the card ties them to it); no bound on sizes. -/
namespace Go.Proofs.YtfnhkfdjhmgjbaaGreatDoor.ValuesDecodes
open Go.ChangeShapes Go.WideShapes Go.ChangeAt Go.RowKit Go.Lib Go.Ax
set_option linter.unusedVariables false

theorem own : ownKnob Tryz.prog.godebug = none := by kernel_rfl
theorem laidOut : laidOutB Tryz.prog = true := by kernel_rfl
theorem cells3 : Tryz.prog.cellsOf 3 = 1 := by kernel_rfl
theorem cells8 : Tryz.prog.cellsOf 5 = 1 := by kernel_rfl
theorem gName : Tryz.prog.globalNamed "strconv.ErrSyntax" = some 0 := by kernel_rfl
theorem gNameR : Tryz.prog.globalNamed "strconv.ErrRange" = some 1 := by kernel_rfl
theorem gNameP : Tryz.prog.globalNamed "internal/strconv.uint64pow10" = some 2 := by kernel_rfl

theorem gType : (Tryz.prog.globals[0]?).map (·.type) = some 131 := by kernel_rfl
theorem gTypeR : (Tryz.prog.globals[1]?).map (·.type) = some 131 := by kernel_rfl
theorem gTypeP : (Tryz.prog.globals[2]?).map (·.type) = some 240 := by kernel_rfl
theorem star : "*" ++ "errors.errorString" = "*errors.errorString" := by decide
theorem named (u : TypeId) (h : Tryz.prog.typeName? 3 u = some "*errors.errorString") : u = 243 :=
  typeName_ptr_named (nm := "errors.errorString") (by rw [star]; kernel_rfl) (by kernel_rfl) (by decide) u (by rw [star]; exact h)
theorem cellsE : Tryz.prog.cellsOf 245 = 1 := by kernel_rfl
theorem cellsS : Tryz.prog.cellsOf 9 = 1 := by kernel_rfl
theorem cellsU : Tryz.prog.cellsOf 60 = 1 := by kernel_rfl
theorem cellsP : Tryz.prog.cellsOf 240 = 20 := by kernel_rfl
def pows : List Int := [1, 10, 100, 1000, 10000, 100000, 1000000, 10000000, 100000000, 1000000000, 10000000000, 100000000000, 1000000000000, 10000000000000, 100000000000000, 1000000000000000, 10000000000000000, 100000000000000000, 1000000000000000000, 10000000000000000000]

/-- What the row's list gives: the variables that are read. -/
theorem vars {W : World} (h : laidMetH Tryz.prog Rows.valuesDecodesRow.laid W) : ∀ p ∈ gz, VR (fun _ => ⟨0, 0, 0⟩) (fun _ => False) (OX (fun _ => False) (fun _ => ⟨0, 0, 0⟩) []) W (.ip p.2) (.pointer (some ⟨p.1, 0, none⟩)) := by
  have h : laidMet Tryz.prog Rows.valuesDecodesRow.laid W := h
  have h4 := h.tail.tail.tail.tail
  obtain ⟨a, s, hv, hc, hs, hz⟩ := laid_sentinel (tp := 243) (te := 245) (ts := 9) h4 gName gType Tryz.underlying131 named Tryz.underlying243 Tryz.underlying245 rfl rfl Tryz.underlying9 cellsE cellsS
  have hsp := laid_spot h4 gName hv Tryz.underlying243
  have h3 := h.tail.tail.tail
  obtain ⟨a', s', hv', hc', hs', hz'⟩ := laid_sentinel (tp := 243) (te := 245) (ts := 9) h3 gNameR gTypeR Tryz.underlying131 named Tryz.underlying243 Tryz.underlying245 rfl rfl Tryz.underlying9 cellsE cellsS
  have hsp' := laid_spot h3 gNameR hv' Tryz.underlying243
  have h2 := h.tail.tail
  have htab := tabIs_of_head (k := .u64) (zs := pows) gNameP gTypeP Tryz.underlying240 Tryz.underlying60 cellsU cellsP h2
  intro p hp
  simp only [gz, List.mem_cons, List.not_mem_nil, or_false] at hp
  rcases hp with rfl | rfl | rfl
  · exact vr_iface_var gName hv hsp
  · exact vr_iface_var gNameR hv' hsp'
  · exact vr_tab_var gNameP htab

set_option maxRecDepth 100000 in
/-- What the walk gives, for every argument. -/
theorem contract (H : Type) (enc : TypeId × Value → H) (W : World) (base : Nat) (args : Array Value) (ds gs : List (DataW H)) (before : List MemPlace)
    (hval : ∀ (j : Nat) t v, Tryz.f7.params[j]? = some t → args[j]? = some v → Value.okWide Tryz.prog W .any base t v)
    (hW : DataW.Whole enc Tryz.prog Tryz.f7.params.toList Rows.valuesDecodesSpec.vars false W args.toList ds gs before) (hL : laidMetH Tryz.prog Rows.valuesDecodesRow.laid W) :
    Calls Tryz.prog 7 args W fun e W' => ∃ v, e = .returned v ∧ Rows.valuesDecodesSpec.post enc Tryz.prog Tryz.f7 false true false false W args v W' := by
  have hW' := hW
  obtain ⟨p, q, hA0, hV, rfl, hfz, hnd⟩ := hW
  have hA : DataW.TrodAll enc Tryz.prog W 0 (fun _ => true) true Tryz.f7.params.toList args.toList ds p := hA0
  rw [Tryz.params7] at hA hval
  obtain ⟨v0, vs0, d0, ds0, p0, q0, hargs, rfl, rfl, h0, r0⟩ := trodAll_cons hA
  obtain ⟨v1, vs1, d1, ds1, p1, q1, rfl, rfl, rfl, h1, r1⟩ := trodAll_cons r0
  obtain ⟨v2, vs2, d2, ds2, p2, q2, rfl, rfl, rfl, h2, r2⟩ := trodAll_cons r1
  obtain ⟨v3, vs3, d3, ds3, p3, q3, rfl, rfl, rfl, h3, r3⟩ := trodAll_cons r2
  obtain ⟨rfl, rfl, rfl⟩ := trodAll_nil r3
  obtain rfl : args = #[v0, v1, v2, v3] := by cases args; simp_all
  obtain ⟨rfl, rfl⟩ := trodVars_none hV
  have h0k := h0
  obtain ⟨x0, b0, e0⟩ := vr_ints_of Tryz.underlying22 Tryz.underlying3 cells3 (hval 0 22 v0 rfl rfl) h0
  have h1k := h1
  obtain ⟨x1, b1, e1⟩ := vr_bytes_of Tryz.underlying49 Tryz.underlying5 cells8 (hval 1 49 v1 rfl rfl) h1
  have h2k := h2
  obtain ⟨x2, rfl, rfl, rfl, hwf2⟩ := open_int Tryz.underlying3 (hval 2 3 v2 rfl rfl) h2
  have b2 : i64 x2 := by
    have e1 : IntKind.i64.min = -9223372036854775808 := rfl
    have e2 : IntKind.i64.max = 9223372036854775807 := rfl
    simp [Lit.wf, e1, e2] at hwf2
    unfold i64
    omega
  have h3k := h3
  obtain ⟨x3, rfl, rfl⟩ := byte_of Tryz.underlying5 (hval 3 5 v3 rfl rfl) h3
  have b3 : True := trivial
  clear hA0
  refine ((lawDecodesW x0 x1 x2 x3 b0 b1 b2 b3).callsG W [v0, v1, .int .i64 x2, .int .u8 (x3.toNat : Int)] (vars hL) (.cons e0 (.cons e1 (.cons (.int _ _) (.cons (.int _ _) .nil))))).mono ?_
  rintro e W' ⟨rfl, hk⟩
  refine ⟨_, rfl, _, _, _, [], p0 ++ (p1 ++ ([] ++ ([] ++ []))), [], hW', ?_, ?_, ?_, hk.frame _, fun h => by cases h⟩
  · exact trodAll_cons_mk (shut_bool Tryz.underlying4 _) trodAll_mk0
  · exact trodAll_cons_mk (Kept.trod laidOut (by kernel_rfl) (of_decide_eq_true (by kernel_rfl)) h0k hk) (trodAll_cons_mk (Kept.trod laidOut (by kernel_rfl) (of_decide_eq_true (by kernel_rfl)) h1k hk) (trodAll_cons_mk (Kept.trod laidOut (by kernel_rfl) (of_decide_eq_true (by kernel_rfl)) h2k hk) (trodAll_cons_mk (Kept.trod laidOut (by kernel_rfl) (of_decide_eq_true (by kernel_rfl)) h3k hk) trodAll_mk0)))
  · rfl

/-- A world for the witness: the settled one with two blocks more (the two errors' structs), the five variables holding what their initialisers lay. -/
noncomputable def laidWorld (os : Os) : World :=
  let N := (World.settled Tryz.prog os).heap.size
  let w0 := World.holding Tryz.prog os ⟨#[
    .cells #[.string ⟨#[105, 110, 118, 97, 108, 105, 100, 32, 115, 121, 110, 116, 97, 120]⟩] 245,
    .cells #[.string ⟨#[118, 97, 108, 117, 101, 32, 111, 117, 116, 32, 111, 102, 32, 114, 97, 110, 103, 101]⟩] 245], #[], []⟩
  let put (h : Array Obj) (g : Nat) (cs : Array Value) : Array Obj := h.modify g fun
    | .cells _ t frozen => .cells cs t frozen
    | o => o
  let nums (d : DataW Unit) : Array Value := match d with
    | .agg ds => (ds.map fun
      | .lit (.int k n) => Value.int k n
      | _ => .bool false).toArray
    | _ => #[]
  let h0 := put (put w0.heap 0 #[.iface 243 (.pointer (some ⟨N, 0, none⟩))]) 1 #[.iface 243 (.pointer (some ⟨N + 1, 0, none⟩))]
  let h1 := put h0 2 (nums Rows.laid_internal_strconv_uint64pow10)
  let h2 := put h1 3 (nums Rows.laid_math_bits_deBruijn32tab)
  let h3 := put h2 4 (nums Rows.laid_math_bits_deBruijn64tab)
  { w0 with heap := h3 }
noncomputable abbrev N0 : Nat := (World.settled Tryz.prog default).heap.size
theorem laid_met (os : Os) (args : Array Value) : laidMet Tryz.prog Rows.valuesDecodesRow.laid ((laidWorld os).forCall (fun _ _ => 0) ⟨#[], args, []⟩).memory :=
  (LaidIn.of_run (l := Rows.valuesDecodesRow.laid) [0, 1, 2, 3, 4, N0, N0 + 1] 8 (by kernel_rfl) (by kernel_rfl) (by kernel_rfl) (by kernel_rfl)).met

noncomputable abbrev wargs : Array Value := #[.slice none 0 0, .slice none 0 0, .int .i64 0, .int .u8 0]
theorem reads (os : Os) {H : Type} (enc : TypeId × Value → H) : ∃ places, DataW.whole enc Tryz.prog ((laidWorld os).forCall (fun _ _ => 0) ⟨#[], wargs, []⟩).memory Tryz.f7.params.toList Rows.valuesDecodesSpec.vars false wargs.toList 8 = some ([.nil, .nil, .lit (.int .i64 0), .lit (.int .u8 0)], [], places) :=
  ⟨[], by kernel_rfl⟩

set_option maxRecDepth 100000 in
theorem lifted (os : Os) (started : os.Started) (H : Type) (enc : TypeId × Value → H) (F : Stop.Interp) :
    ReturnsInHanded {} Tryz.checked os 7 .any ((OpenSpec.ofChange Rows.valuesDecodesSpec).preRow enc Tryz.prog Tryz.f7 Rows.valuesDecodesRow.domain false Rows.valuesDecodesRow.laid) (((OpenSpec.ofChange Rows.valuesDecodesSpec).at F).post enc Tryz.prog Tryz.f7 false true false false) := by
  obtain ⟨places, hx⟩ := reads os enc
  refine returnsInHanded_of_row (C := Tryz.checked) (s := OpenSpec.ofChange Rows.valuesDecodesSpec) own started (by kernel_rfl) Tryz.func7
    (witness_row_atRef (enc := enc) (C := Tryz.checked) false (laidWorld os) wargs rfl (by kernel_rfl) (by kernel_rfl) (by kernel_rfl)
      (OpenSpec.preRow_of_cond 8 hx (by kernel_rfl) (fun k hk => by cases hk) (by kernel_rfl) (laid_met os _))) ?_
  intro W base args ds gs before hval hW _ _ _ hL _ _
  exact contract H enc W base args ds gs before hval hW hL

theorem said : Rows.ValuesDecodesSaid :=
  OpenClaim.holds_of_cond 7 Tryz.f7 rfl rfl rfl rfl rfl rfl rfl ⟨rfl, rfl, rfl, rfl, rfl⟩ rfl rfl rfl rfl rfl (by kernel_rfl) Tryz.func7 (by kernel_rfl)
    (of_decide_eq_true (by kernel_rfl)) (by unfold Func.isWrapper; first | (rw [if_pos (by decide +kernel)]; kernel_rfl) | (rw [if_neg (by decide +kernel)]; exact ⟨rfl, rfl⟩))
    (fun os started H enc _ F => by rw [OpenClaim.pre_eq_preRow]; exact lifted os started H enc F)

theorem plain (f : FuncId) (fn : Func) (hf : Tryz.pinned.checked.prog.funcNamed "refuter/refuterlaw10.ValuesDecodes" = some f) (hfn : Tryz.pinned.checked.prog.funcs[f]? = some fn) :
    true = Tryz.pinned.checked.prog.looks [] ∧ ∀ (j : Nat) t, fn.params[j]? = some t → Tryz.pinned.checked.prog.wantsStandIn t = false := by
  obtain rfl : f = 7 := Option.some.inj ((show Tryz.prog.funcNamed "refuter/refuterlaw10.ValuesDecodes" = some 7 by kernel_rfl).symm.trans hf) |>.symm
  obtain rfl : fn = Tryz.f7 := (Option.some.inj (Tryz.func7.symm.trans hfn)).symm
  refine ⟨by kernel_rfl, fun j t ht => ?_⟩
  rw [Tryz.params7] at ht
  have hTI : Tryz.prog.wantsStandIn 22 = false := by kernel_rfl
  have hTB : Tryz.prog.wantsStandIn 49 = false := by kernel_rfl
  have hTi : Tryz.prog.wantsStandIn 3 = false := by kernel_rfl
  have hTb : Tryz.prog.wantsStandIn 5 = false := by kernel_rfl
  have hm := Array.mem_of_getElem? ht
  simp at hm
  repeat' (first | (rw [(hm : t = 22)]; exact hTI) | (rw [(hm : t = 49)]; exact hTB) | (rw [(hm : t = 3)]; exact hTi) | (rw [(hm : t = 5)]; exact hTb) | rcases hm with hm | hm)

/-- The card. -/
theorem card : Rows.ValuesDecodesCardSaid :=
  Claim7.holds_tied_plain_at .later [] _ _ _ _ said (fun _ h => by cases h) (by kernel_rfl) (fun _ h => by cases h) valuesDecodes_row_tie rfl ⟨rfl, rfl⟩ (by kernel_rfl) rfl plain (by kernel_rfl)
end Go.Proofs.YtfnhkfdjhmgjbaaGreatDoor.ValuesDecodes
