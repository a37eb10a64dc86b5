/- For every input (a slice of ints, two ints), refuterlaw10.ValuesTexts returns true, and its arguments read behind the call as they read before (the card ValuesTextsCardSaid, the full form). Conditions: the package-level variables that the row lists hold, when the call begins, what the program's text lays (the card ties them to it); no bound on sizes. -/
import Derived.Test.YtfnhkfdjhmgjbaaGreatDoorAx10
import Derived.Test.YtfnhkfdjhmgjbaaGreatDoorProg
import Derived.KernelRfl
import Derived.Test.YtfnhkfdjhmgjbaaGreatDoorCards
import Derived.Test.YtfnhkfdjhmgjbaaGreatDoorTie
import Derived.Lib.LaidIn

namespace Go.Proofs.YtfnhkfdjhmgjbaaGreatDoor
open Go Go.Ax Go.Proofs
set_option linter.unusedVariables false
set_option maxRecDepth 100000
set_option maxHeartbeats 4000000

/-- The address that a builder keeps: nil before the first write. -/
def adr : Bool → AV
  | true => .ptr 0 0 0
  | false => .nptr
/-- A builder's two cells, in a texter. -/
abbrev bC (a : AV) (id n : Nat) : AB := .row 90 2 [.agg [a, .sl id 0 n]]
abbrev bM (a : Bool) (s : List UInt8) : Mem := [(0, bC (adr a) 1 s.length), (1, .row 5 1 (encB s))]
/-- What writing leaves behind. -/
def bN (s : List UInt8) (m : Mem) (n : Nat) : Prop := m = [(0, bC (.ptr 0 0 0) 2 s.length), (2, .row 5 1 (encB s))] ∧ n = 3
theorem bC_cv {mem : Mem} {σ : List (Nat × Nat)} {a : Bool} {i j n : Nat} (h0 : lk σ 0 = some 0) (h1 : lk σ i = some j) : CvR mem σ [.agg [adr a, .sl i 0 n]] [.agg [adr a, .sl j 0 n]] :=
  .cons (.agg (.cons (by cases a; exact .same _ nn; exact .ptr 0 0 0 0 h0) (.cons (.sl i j 0 n h1) .nil))) .nil

theorem bFrom (s : List UInt8) : aFromU Tryz.prog (bM false s) .unsafePointer 88 (.ptr 0 0 0) = some (.ptr 0 0 0) := by kernel_rfl

theorem bCheck (a : Bool) (s : List UInt8) : ACalls Tryz.prog [] 203 [.ptr 0 0 0] (bM a s) 2 fun r m n => r = .tup [] ∧ m = bM true s ∧ n = 2 := by
  refine acalls_go nnΓ Tryz.func203 rfl ?_
  cases a with
  | false =>
    ((conv => whnf); repeat ((first | refine AWp.many ?_ | refine AOps.many ?_ | refine ADr.go ?_); conv => whnf))
    rw [bFrom]
    ((conv => whnf); repeat ((first | refine AWp.many ?_ | refine AOps.many ?_ | refine ADr.go ?_); conv => whnf))
    exact fin_mk (r' := .tup []) (m' := bM true s) (n' := 2) [(0, 0), (1, 1)] rfl ⟨⟨0, _, rfl, rfl, bC_cv (a := true) rfl rfl⟩, ⟨1, _, rfl, rfl, .same (encB_nn _)⟩, trivial⟩ (.same _ nn) ⟨rfl, rfl, rfl⟩
  | true =>
    ((conv => whnf); repeat ((first | refine AWp.many ?_ | refine AOps.many ?_ | refine ADr.go ?_); conv => whnf))
    exact fin_mk (r' := .tup []) (m' := bM true s) (n' := 2) [(0, 0), (1, 1)] rfl ⟨⟨0, _, rfl, rfl, bC_cv (a := true) rfl rfl⟩, ⟨1, _, rfl, rfl, .same (encB_nn _)⟩, trivial⟩ (.same _ nn) ⟨rfl, rfl, rfl⟩

theorem bString (a : Bool) (s w : List UInt8) (hs : s.length + w.length ≤ 100000000) : ACalls Tryz.prog [] 180 [.ptr 0 0 0, .str w] (bM a s) 2 fun r m n => r = .tup [.int .i64 w.length, .nif] ∧ bN (s ++ w) m n := by
  refine acalls_go nnΓ Tryz.func180 rfl ?_
  ((conv => whnf); repeat ((first | refine AWp.many ?_ | refine AOps.many ?_ | refine ADr.go ?_); conv => whnf))
  refine ACalls.useI nnΓ [0, 1] (bCheck a s) rfl (.cons (.ptr 0 0 0 0 rfl) .nil) ⟨⟨0, _, rfl, rfl, bC_cv rfl rfl⟩, ⟨1, _, rfl, rfl, .same (encB_nn _)⟩, trivial⟩ rfl ?_
  rintro r m n ⟨rfl, rfl, rfl⟩
  refine ⟨nn, ⟨⟨0, _, rfl, rfl, bC_cv (a := true) rfl rfl⟩, ⟨1, _, rfl, rfl, .same (encB_nn _)⟩, trivial⟩, rfl, ?_⟩
  ((conv => whnf); repeat ((first | refine AWp.many ?_ | refine AOps.many ?_ | refine ADr.go ?_); conv => whnf))
  have e : List.map (fun b : UInt8 => AV.int IntKind.u8 (b.toNat : Int)) w = encB w := rfl
  rw [e]
  refine grd_mk (app_ok rfl rfl (encB_length _).symm (by rw [encB_length]; omega)) ?_
  ((conv => whnf); repeat ((first | refine AWp.many ?_ | refine AOps.many ?_ | refine ADr.go ?_); conv => whnf))
  exact fin_mk (r' := .tup [.int .i64 w.length, .nif]) (m' := [(0, bC (.ptr 0 0 0) 2 (s ++ w).length), (2, .row 5 1 (encB (s ++ w)))]) (n' := 3) [(0, 0), (2, 2)] rfl
    ⟨⟨0, _, rfl, rfl, .cons (.agg (.cons (.ptr 0 0 0 0 rfl) (.cons (.slE rfl (by rw [encB_length, List.length_append])) .nil))) .nil⟩, ⟨2, _, rfl, rfl, .eq (encB_nn _) (encB_append _ _).symm⟩, trivial⟩ (.same _ nn) ⟨rfl, rfl, rfl⟩

theorem bByte (a : Bool) (s : List UInt8) (c : UInt8) (hs : s.length ≤ 100000000) : ACalls Tryz.prog [] 182 [.ptr 0 0 0, .int .u8 c.toNat] (bM a s) 2 fun r m n => r = .nif ∧ bN (s ++ [c]) m n := by
  refine acalls_go nnΓ Tryz.func182 rfl ?_
  ((conv => whnf); repeat ((first | refine AWp.many ?_ | refine AOps.many ?_ | refine ADr.go ?_); conv => whnf))
  refine ACalls.useI nnΓ [0, 1] (bCheck a s) rfl (.cons (.ptr 0 0 0 0 rfl) .nil) ⟨⟨0, _, rfl, rfl, bC_cv rfl rfl⟩, ⟨1, _, rfl, rfl, .same (encB_nn _)⟩, trivial⟩ rfl ?_
  rintro r m n ⟨rfl, rfl, rfl⟩
  refine ⟨nn, ⟨⟨0, _, rfl, rfl, bC_cv (a := true) rfl rfl⟩, ⟨1, _, rfl, rfl, .same (encB_nn _)⟩, trivial⟩, rfl, ?_⟩
  ((conv => whnf); repeat ((first | refine AWp.many ?_ | refine AOps.many ?_ | refine ADr.go ?_); conv => whnf))
  refine grd_mk (app_ok rfl rfl (encB_length _).symm (by simp; omega)) ?_
  ((conv => whnf); repeat ((first | refine AWp.many ?_ | refine AOps.many ?_ | refine ADr.go ?_); conv => whnf))
  exact fin_mk (r' := .nif) (m' := [(0, bC (.ptr 0 0 0) 2 (s ++ [c]).length), (2, .row 5 1 (encB (s ++ [c])))]) (n' := 3) [(0, 0), (3, 2)] rfl
    ⟨⟨0, _, rfl, rfl, .cons (.agg (.cons (.ptr 0 0 0 0 rfl) (.cons (.slE rfl (by simp)) .nil))) .nil⟩, ⟨3, _, rfl, rfl, .eq (encB_nn _) (by rw [encB_append]; rfl)⟩, trivial⟩ (.same _ nn) ⟨rfl, rfl, rfl⟩

theorem lk_pickM {ids : List Nat} {k : Nat} (hk : inL k ids = true) : ∀ (m : Mem), lk (pickM ids m) k = lk m k
  | [] => rfl
  | (j, b) :: r => by
    simp only [pickM, lk]
    split
    · simp only [lk, lk_pickM hk r]
    · rename_i h
      rw [lk_pickM hk r]
      split
      · rename_i e
        rw [Nat.eq_of_beq_eq_true e, hk] at h
        cases h
      · rfl

/-- What writes, used: the buffer gets a new name. -/
theorem bUse {Γ : List (Nat × AV)} {F : FuncId} {aa : List AV} {a : Bool} {s s' : List UInt8} {rv : AV} {mem : Mem} {nx : Nat} {K : AV → Mem → Nat → Prop} (i : Nat) (hΓ : ∀ p ∈ Γ, NN p.2)
    (h : ACalls Tryz.prog Γ F (.ptr 0 0 0 :: aa) (bM a s) 2 fun r m n => r = rv ∧ bN s' m n) (h0 : lk mem 0 = some (bC (adr a) i s.length)) (h1 : lk mem i = some (.row 5 1 (encB s))) (hi : Nat.blt 0 i = true) (hin : Nat.blt i nx = true)
    (hk : K rv ((0, bC (.ptr 0 0 0) nx s'.length) :: (nx, .row 5 1 (encB s')) :: dropM [0, i] mem) (nx + 1)) (ha : NNs aa := by exact nns) (hr : NN rv := by exact nn) : ACalls Tryz.prog Γ F (.ptr 0 0 0 :: aa) mem nx K := by
  have hi := Nat.le_of_ble_eq_true hi
  have hin := Nat.le_of_ble_eq_true hin
  have e0 : Nat.beq 0 i = false := nbeq_ne (by omega)
  have k0 : inL 0 [0, i] = true := rfl
  have ki : inL i [0, i] = true := by simp [inL, e0]
  have s0 : lk [(0, 0), (i, 1)] 0 = some 0 := rfl
  have si : lk [(0, 0), (i, 1)] i = some 1 := by simp [lk, e0]
  refine ACalls.useN hΓ [(0, 0), (i, 1)] h rfl (.cons (.ptr 0 0 0 0 rfl) (.same ha)) ⟨⟨0, _, s0, by rw [← h0]; exact lk_pickM k0 mem, bC_cv s0 si⟩, ⟨i, _, si, by rw [← h1]; exact lk_pickM ki mem, .same (encB_nn _)⟩, trivial⟩ rfl ?_
  rintro r m n ⟨rfl, rfl, rfl⟩
  refine ⟨[(0, 0), (2, nx)], _, [(0, bC (.ptr 0 0 0) nx s'.length), (nx, .row 5 1 (encB s'))], nx + 1, .same _ hr, ⟨⟨0, _, rfl, rfl, bC_cv (a := true) rfl rfl⟩, ⟨2, _, rfl, rfl, .same (encB_nn _)⟩, trivial⟩, ?_, hk⟩
  have e1 : Nat.beq nx 0 = false := nbeq_ne (by omega)
  have e2 : Nat.ble nx 0 = false := by
    cases e : Nat.ble nx 0 with
    | false => rfl
    | true => have := Nat.le_of_ble_eq_true e; omega
  have e3 : Nat.ble nx nx = true := Nat.ble_eq_true_of_le (Nat.le_refl _)
  have e4 : Nat.ble nx (nx + 1) = true := Nat.ble_eq_true_of_le (by omega)
  have e5 : Nat.blt nx (nx + 1) = true := Nat.ble_eq_true_of_le (by omega)
  have e6 : Nat.blt 0 2 = true := rfl
  have e7 : Nat.blt 2 2 = false := rfl
  simp only [nodM, keyOut, nod2, notIn, keysOr, keysS, tauOK, e1, e2, e3, e4, e5, e6, e7, k0, s0]
  rfl

theorem sFormatBoolI (b : Bool) : PureC Tryz.prog [] 204 [.bool b] (.str (if b = true then tTrue else tFalse)) := by
  cases b
  all_goals
    refine acalls_go nnΓ Tryz.func204 rfl ?_
    ((conv => whnf); repeat ((first | refine AWp.many ?_ | refine AOps.many ?_ | refine ADr.go ?_); conv => whnf))
    exact fin_pure nn ⟨rfl, rfl, rfl⟩
theorem sFormatBool (b : Bool) : PureC Tryz.prog [] 181 [.bool b] (.str (if b = true then tTrue else tFalse)) := by
  have h := sFormatBoolI b
  generalize (if b = true then tTrue else tFalse) = t at h ⊢
  refine acalls_go nnΓ Tryz.func181 rfl ?_
  ((conv => whnf); repeat ((first | refine AWp.many ?_ | refine AOps.many ?_ | refine ADr.go ?_); conv => whnf))
  refine h.go ?_
  ((conv => whnf); repeat ((first | refine AWp.many ?_ | refine AOps.many ?_ | refine ADr.go ?_); conv => whnf))
  exact fin_pure nn ⟨rfl, rfl, rfl⟩
end Go.Proofs.YtfnhkfdjhmgjbaaGreatDoor

namespace Go.Proofs.YtfnhkfdjhmgjbaaGreatDoor
open Go Go.Ax Go.Proofs
set_option linter.unusedVariables false
set_option maxRecDepth 100000
set_option maxHeartbeats 4000000

def TxQ (s : List UInt8) (r : AV) (m : Mem) (n : Nat) : Prop := r = .tup [] ∧ bN s m n
/-- The end of what writes: the buffer has the name 'i'. -/
theorem txFin {s : List UInt8} {mem : Mem} {nx i : Nat} (h0 : lk mem 0 = some (bC (.ptr 0 0 0) i s.length)) (h1 : lk mem i = some (.row 5 1 (encB s))) (hi : 2 ≤ i) : Fini 2 (TxQ s) (.tup []) mem nx := by
  have e0 : Nat.beq 0 i = false := nbeq_ne (by omega)
  have si : lk [(0, 0), (i, 2)] i = some 2 := by simp [lk, e0]
  exact fin_mk (r' := .tup []) (m' := [(0, bC (.ptr 0 0 0) 2 s.length), (2, .row 5 1 (encB s))]) (n' := 3) [(0, 0), (i, 2)] rfl
    ⟨⟨0, _, rfl, h0, bC_cv (a := true) rfl si⟩, ⟨i, _, si, h1, .same (encB_nn _)⟩, trivial⟩ (.same _ nn) ⟨rfl, rfl, rfl⟩

theorem xNumber (a : Bool) (s : List UInt8) (v2 : Int) (v3 : List UInt8) (v4 : List Val) (hn : i64 v2) (hs : s.length ≤ 90000000) : ACalls Tryz.prog gz 140 [.ptr 0 0 0, encV (.mk 0 v2 v3 v4)] (bM a s) 2 (TxQ (s ++ Lib.itoa v2)) := by
  have hI := sItoa v2 hn
  have hl := itoa_len hn
  generalize Lib.itoa v2 = w at hI hl ⊢
  refine acalls_go nngz Tryz.func140 rfl ?_
  ((conv => whnf); repeat ((first | refine AWp.many ?_ | refine AOps.many ?_ | refine ADr.go ?_); conv => whnf))
  refine hI.use nngz nns nn ?_
  ((conv => whnf); repeat ((first | refine AWp.many ?_ | refine AOps.many ?_ | refine ADr.go ?_); conv => whnf))
  refine bUse 1 nngz (bString a s w (by omega)).glob rfl rfl rfl rfl ?_
  ((conv => whnf); repeat ((first | refine AWp.many ?_ | refine AOps.many ?_ | refine ADr.go ?_); conv => whnf))
  exact txFin (i := 10) rfl rfl (by omega)
theorem xTruth (a : Bool) (s : List UInt8) (v2 : Int) (v3 : List UInt8) (v4 : List Val) (hs : s.length ≤ 90000000) : ACalls Tryz.prog gz 141 [.ptr 0 0 0, encV (.mk 1 v2 v3 v4)] (bM a s) 2 (TxQ (s ++ if v2 = 1 then tTrue else tFalse)) := by
  have hF := sFormatBool (v2 == 1)
  have e : (if (v2 == 1) = true then tTrue else tFalse) = if v2 = 1 then tTrue else tFalse := by simp
  rw [e] at hF
  have hl : (if v2 = 1 then tTrue else tFalse).length ≤ 5 := by split <;> simp [tTrue, tFalse]
  generalize (if v2 = 1 then tTrue else tFalse) = w at hF hl ⊢
  refine acalls_go nngz Tryz.func141 rfl ?_
  ((conv => whnf); repeat ((first | refine AWp.many ?_ | refine AOps.many ?_ | refine ADr.go ?_); conv => whnf))
  refine hF.goG ?_
  ((conv => whnf); repeat ((first | refine AWp.many ?_ | refine AOps.many ?_ | refine ADr.go ?_); conv => whnf))
  refine bUse 1 nngz (bString a s w (by omega)).glob rfl rfl rfl rfl ?_
  ((conv => whnf); repeat ((first | refine AWp.many ?_ | refine AOps.many ?_ | refine ADr.go ?_); conv => whnf))
  exact txFin (i := 11) rfl rfl (by omega)

theorem xKids (s : List UInt8) (v1 v2 : Int) (v3 : List UInt8) (ks : List Val) (hok : okVs ks) (hf : formedL ks = true) (hs : s.length + 40 * sizeL ks ≤ 80000000)
    (ih : ∀ v ∈ ks, ∀ s : List UInt8, s.length + 40 * sizeV v ≤ 80000000 → ACalls Tryz.prog gz 54 [.ptr 0 0 0, encV v] (bM true s) 2 (TxQ (s ++ printV v))) :
    ACalls Tryz.prog gz 183 [.ptr 0 0 0, encV (.mk v1 v2 v3 ks)] (bM true s) 2 (TxQ (s ++ printL ks)) := by
  have hkl := sizeL_len ks
  refine acalls_go nngz Tryz.func183 rfl ?_
  ((conv => whnf); repeat ((first | refine AWp.many ?_ | refine AOps.many ?_ | refine ADr.go ?_); conv => whnf))
  refine ALoop.at nngz (fun k : Nat => k ≤ ks.length)
    (fun k => ⟨[(0, .ptr 0 0 0), (7, .il 4 (encVs ks)), (8, .int .i64 ks.length), (9, .int .i64 k)], [(0, bC (.ptr 0 0 0) 2 (s ++ printL (ks.take k)).length), (2, .row 5 1 (encB (s ++ printL (ks.take k))))], 3, 24⟩) (fun k => ks.length - k) 0 [(0, 0), (1, 2)] (by simp)
    (conv_mk _ rfl ⟨⟨0, _, rfl, rfl, .cons (.agg (.cons (.ptr 0 0 0 0 rfl) (.cons (.slE rfl (by simp [printL])) .nil))) .nil⟩, ⟨1, _, rfl, rfl, .eq (encB_nn _) (by simp [printL])⟩, trivial⟩ ⟨⟨_, rfl, .ptr 0 0 0 0 rfl⟩, ⟨_, rfl, .same _ nn⟩, ⟨_, rfl, .int (by rw [encVs_length])⟩, ⟨_, rfl, .same _ nn⟩, trivial⟩) ?_
  intro k hk
  ((conv => whnf); repeat ((first | refine AWp.many ?_ | refine AOps.many ?_ | refine ADr.go ?_); conv => whnf))
  refine bcs_mk (fun h => ?_) (fun h => ?_)
  · have hlt : k < ks.length := by simpa using h
    obtain ⟨a, b, c, d, hm, hg, he, e1⟩ := enc_cases hlt
    have hih := ih _ hm
    have hpt := printL_take hlt
    rw [he] at hpt
    have hbound := printL_len (ks.take k) (okVs_take hok _) (formedL_takeT hf _)
    have hsz := sizeL_take_le ks (k + 1)
    rw [sizeL_take hlt, he] at hsz
    generalize printV (.mk a b c d) = pv at hih hpt
    obtain ⟨pl, hpl⟩ : ∃ pl, pl = printL (ks.take k) := ⟨_, rfl⟩
    rw [← hpl] at hpt hbound ⊢
    by_cases hk0 : k = 0
    · subst hk0
      ((conv => whnf); repeat ((first | refine AWp.many ?_ | refine AOps.many ?_ | refine ADr.go ?_); conv => whnf))
      refine opt_mk e1 ?_
      ((conv => whnf); repeat ((first | refine AWp.many ?_ | refine AOps.many ?_ | refine ADr.go ?_); conv => whnf))
      refine bUse 2 nngz (hih (s ++ pl) (by simp; omega)) rfl rfl rfl rfl ?_
      ((conv => whnf); repeat ((first | refine AWp.many ?_ | refine AOps.many ?_ | refine ADr.go ?_); conv => whnf))
      have hnx : s ++ pl ++ pv = s ++ printL (ks.take (0 + 1)) := by rw [hpt]; simp
      exact .mk (0 + 1) [(0, 0), (4, 2)] (by omega) (conv_mk _ rfl ⟨⟨0, _, rfl, rfl, .cons (.agg (.cons (.ptr 0 0 0 0 rfl) (.cons (.slE rfl (by rw [hnx])) .nil))) .nil⟩, ⟨4, _, rfl, rfl, .eq (encB_nn _) (by rw [hnx])⟩, trivial⟩ ⟨⟨_, rfl, .ptr 0 0 0 0 rfl⟩, ⟨_, rfl, .same _ nn⟩, ⟨_, rfl, .same _ nn⟩, ⟨_, rfl, .w64 (by omega) ⟨by omega, by omega⟩⟩, trivial⟩) (by omega)
    · have d1 : decide ((k : Int) > 0) = true := by simp; omega
      ((conv => whnf); repeat ((first | refine AWp.many ?_ | refine AOps.many ?_ | refine ADr.go ?_); conv => whnf))
      refine opt_mk e1 ?_
      ((conv => whnf); repeat ((first | refine AWp.many ?_ | refine AOps.many ?_ | refine ADr.go ?_); conv => whnf))
      rw [d1]
      ((conv => whnf); repeat ((first | refine AWp.many ?_ | refine AOps.many ?_ | refine ADr.go ?_); conv => whnf))
      have hpos := sizeL_len (ks.take k)
      rw [List.length_take] at hpos
      refine bUse 2 nngz (bString true (s ++ pl) [44, 32] (by simp; omega)).glob rfl rfl rfl rfl ?_
      ((conv => whnf); repeat ((first | refine AWp.many ?_ | refine AOps.many ?_ | refine ADr.go ?_); conv => whnf))
      refine bUse 4 nngz (hih (s ++ pl ++ [44, 32]) (by simp; omega)) rfl rfl rfl rfl ?_
      ((conv => whnf); repeat ((first | refine AWp.many ?_ | refine AOps.many ?_ | refine ADr.go ?_); conv => whnf))
      have hnx : s ++ pl ++ [44, 32] ++ pv = s ++ printL (ks.take (k + 1)) := by rw [hpt, if_pos (by omega)]; simp
      exact .mk (k + 1) [(0, 0), (5, 2)] (by omega) (conv_mk _ rfl ⟨⟨0, _, rfl, rfl, .cons (.agg (.cons (.ptr 0 0 0 0 rfl) (.cons (.slE rfl (by rw [hnx])) .nil))) .nil⟩, ⟨5, _, rfl, rfl, .eq (encB_nn _) (by rw [hnx])⟩, trivial⟩ ⟨⟨_, rfl, .ptr 0 0 0 0 rfl⟩, ⟨_, rfl, .same _ nn⟩, ⟨_, rfl, .same _ nn⟩, ⟨_, rfl, .w64 (by omega) ⟨by omega, by omega⟩⟩, trivial⟩) (by omega)
  · have hke : k = ks.length := by simp at h; omega
    subst hke
    rw [List.take_length]
    ((conv => whnf); repeat ((first | refine AWp.many ?_ | refine AOps.many ?_ | refine ADr.go ?_); conv => whnf))
    exact txFin (i := 2) rfl rfl (by omega)

theorem xList (a : Bool) (s : List UInt8) (v1 v2 : Int) (v3 : List UInt8) (ks : List Val) (hok : okVs ks) (hf : formedL ks = true) (hs : s.length + 40 * (1 + sizeL ks) ≤ 80000000)
    (ih : ∀ v ∈ ks, ∀ s : List UInt8, s.length + 40 * sizeV v ≤ 80000000 → ACalls Tryz.prog gz 54 [.ptr 0 0 0, encV v] (bM true s) 2 (TxQ (s ++ printV v))) :
    ACalls Tryz.prog gz 142 [.ptr 0 0 0, encV (.mk v1 v2 v3 ks)] (bM a s) 2 (TxQ (s ++ 91 :: (printL ks ++ [93]))) := by
  have hK := xKids (s ++ [91]) v1 v2 v3 ks hok hf (by simp; omega) ih
  have hbound := printL_len ks hok hf
  generalize printL ks = pl at hK hbound ⊢
  refine acalls_go nngz Tryz.func142 rfl ?_
  ((conv => whnf); repeat ((first | refine AWp.many ?_ | refine AOps.many ?_ | refine ADr.go ?_); conv => whnf))
  refine bUse 1 nngz (bByte a s 91 (by omega)).glob rfl rfl rfl rfl ?_
  ((conv => whnf); repeat ((first | refine AWp.many ?_ | refine AOps.many ?_ | refine ADr.go ?_); conv => whnf))
  refine bUse 3 nngz hK rfl rfl rfl rfl ?_
  ((conv => whnf); repeat ((first | refine AWp.many ?_ | refine AOps.many ?_ | refine ADr.go ?_); conv => whnf))
  refine bUse 4 nngz (bByte true (s ++ [91] ++ pl) 93 (by simp; omega)).glob rfl rfl rfl rfl ?_
  ((conv => whnf); repeat ((first | refine AWp.many ?_ | refine AOps.many ?_ | refine ADr.go ?_); conv => whnf))
  have e : s ++ 91 :: (pl ++ [93]) = s ++ [91] ++ pl ++ [93] := by simp
  rw [e]
  exact txFin (i := 5) rfl rfl (by omega)

theorem xMade (a : Bool) (s : List UInt8) (v1 v2 : Int) (v3 : List UInt8) (ks : List Val) (hok : okVs ks) (hf : formedL ks = true) (hv3 : v3.length ≤ 16) (hs : s.length + 40 * (1 + sizeL ks) ≤ 80000000)
    (ih : ∀ v ∈ ks, ∀ s : List UInt8, s.length + 40 * sizeV v ≤ 80000000 → ACalls Tryz.prog gz 54 [.ptr 0 0 0, encV v] (bM true s) 2 (TxQ (s ++ printV v))) :
    ACalls Tryz.prog gz 143 [.ptr 0 0 0, encV (.mk v1 v2 v3 ks)] (bM a s) 2 (TxQ (s ++ if ks = [] then v3 else v3 ++ 40 :: (printL ks ++ [41]))) := by
  have hK := xKids (s ++ v3 ++ [40]) v1 v2 v3 ks hok hf (by simp; omega) ih
  have hbound := printL_len ks hok hf
  generalize printL ks = pl at hK hbound ⊢
  refine acalls_go nngz Tryz.func143 rfl ?_
  ((conv => whnf); repeat ((first | refine AWp.many ?_ | refine AOps.many ?_ | refine ADr.go ?_); conv => whnf))
  refine bUse 1 nngz (bString a s v3 (by omega)).glob rfl rfl rfl rfl ?_
  ((conv => whnf); repeat ((first | refine AWp.many ?_ | refine AOps.many ?_ | refine ADr.go ?_); conv => whnf))
  refine bcs_mk (fun h => ?_) (fun h => ?_)
  · have hne : ks ≠ [] := by rintro rfl; simp [encVs] at h
    rw [if_neg hne]
    ((conv => whnf); repeat ((first | refine AWp.many ?_ | refine AOps.many ?_ | refine ADr.go ?_); conv => whnf))
    refine bUse 9 nngz (bByte true (s ++ v3) 40 (by simp; omega)).glob rfl rfl rfl rfl ?_
    ((conv => whnf); repeat ((first | refine AWp.many ?_ | refine AOps.many ?_ | refine ADr.go ?_); conv => whnf))
    refine bUse 10 nngz hK rfl rfl rfl rfl ?_
    ((conv => whnf); repeat ((first | refine AWp.many ?_ | refine AOps.many ?_ | refine ADr.go ?_); conv => whnf))
    refine bUse 11 nngz (bByte true (s ++ v3 ++ [40] ++ pl) 41 (by simp; omega)).glob rfl rfl rfl rfl ?_
    ((conv => whnf); repeat ((first | refine AWp.many ?_ | refine AOps.many ?_ | refine ADr.go ?_); conv => whnf))
    have e : s ++ (v3 ++ 40 :: (pl ++ [41])) = s ++ v3 ++ [40] ++ pl ++ [41] := by simp
    rw [e]
    exact txFin (i := 12) rfl rfl (by omega)
  · have hne : ks = [] := by
      cases ks with
      | nil => rfl
      | cons v r => simp [encVs] at h
    rw [if_pos hne]
    ((conv => whnf); repeat ((first | refine AWp.many ?_ | refine AOps.many ?_ | refine ADr.go ?_); conv => whnf))
    exact txFin (i := 9) rfl rfl (by omega)

def kindsV : AV := .agg [.fn (.func 140) [.ptr 0 0 0] [], .fn (.func 141) [.ptr 0 0 0] [], .fn (.func 142) [.ptr 0 0 0] [], .fn (.func 143) [.ptr 0 0 0] []]
theorem cvFnP {mem : Mem} {σ : List (Nat × Nat)} {f : Fn} (h : lk σ 0 = some 0) : Cv mem σ (.fn f [.ptr 0 0 0] []) (.fn f [.ptr 0 0 0] []) :=
  .fn f _ _ _ _ rfl rfl (CvL.cons (.ptr 0 0 0 0 h) .nil).2 (CvL.nil).2
theorem cvKinds {mem : Mem} {σ : List (Nat × Nat)} (h : lk σ 0 = some 0) : Cv mem σ kindsV kindsV := .agg' (.cons (cvFnP h) (.cons (cvFnP h) (.cons (cvFnP h) (.cons (cvFnP h) .nil))))
theorem xKinds (a : Bool) (s : List UInt8) : ACalls Tryz.prog [] 100 [.ptr 0 0 0] (bM a s) 2 fun r m n => r = kindsV ∧ m = bM a s ∧ n = 2 := by
  refine acalls_go nnΓ Tryz.func100 rfl ?_
  ((conv => whnf); repeat ((first | refine AWp.many ?_ | refine AOps.many ?_ | refine ADr.go ?_); conv => whnf))
  exact fin_mk (r' := kindsV) (m' := bM a s) (n' := 2) [(0, 0), (1, 1)] rfl ⟨⟨0, _, rfl, rfl, bC_cv rfl rfl⟩, ⟨1, _, rfl, rfl, .same (encB_nn _)⟩, trivial⟩ (cvKinds rfl) ⟨rfl, rfl, rfl⟩

theorem xValue : ∀ (v : Val) (a : Bool) (s : List UInt8), okV v → formedV v = true → s.length + 40 * sizeV v ≤ 80000000 → ACalls Tryz.prog gz 54 [.ptr 0 0 0, encV v] (bM a s) 2 (TxQ (s ++ printV v))
  | .mk k n t ks, a, s, ho, hf, hs => by
    simp only [okV] at ho
    obtain ⟨hv1, hv2, hv3, hv4, hv5⟩ := ho
    simp only [formedV, Bool.and_eq_true] at hf
    obtain ⟨hf1, hf2⟩ := hf
    simp only [sizeV] at hs
    have ih : ∀ v ∈ ks, ∀ s : List UInt8, s.length + 40 * sizeV v ≤ 80000000 → ACalls Tryz.prog gz 54 [.ptr 0 0 0, encV v] (bM true s) 2 (TxQ (s ++ printV v)) := fun v hm s h =>
      xValue v true s (okVs_mem hv5 v hm) (formedL_in hf2 hm) h
    rw [printV]
    unfold formed1 at hf1
    refine acalls_go nngz Tryz.func54 rfl ?_
    ((conv => whnf); repeat ((first | refine AWp.many ?_ | refine AOps.many ?_ | refine ADr.go ?_); conv => whnf))
    refine ACalls.useN nngz [(0, 0), (1, 1)] (xKinds a s).glob rfl (.cons (.ptr 0 0 0 0 rfl) .nil) ⟨⟨0, _, rfl, rfl, bC_cv rfl rfl⟩, ⟨1, _, rfl, rfl, .same (encB_nn _)⟩, trivial⟩ rfl ?_
    rintro r m n' ⟨rfl, rfl, rfl⟩
    refine ⟨[(0, 0), (1, 1)], _, bM a s, 10, cvKinds rfl, ⟨⟨0, _, rfl, rfl, bC_cv rfl rfl⟩, ⟨1, _, rfl, rfl, .same (encB_nn _)⟩, trivial⟩, rfl, ?_⟩
    by_cases k0 : k = 0
    · subst k0
      have hC := xNumber a s n t ks hv2 (by omega)
      rw [if_pos rfl]
      generalize Lib.itoa n = w at hC ⊢
      ((conv => whnf); repeat ((first | refine AWp.many ?_ | refine AOps.many ?_ | refine ADr.go ?_); conv => whnf))
      repeat (refine ⟨rfl, ?_⟩; ((conv => whnf); repeat ((first | refine AWp.many ?_ | refine AOps.many ?_ | refine ADr.go ?_); conv => whnf)))
      refine bUse 1 nngz hC rfl rfl rfl rfl ?_
      ((conv => whnf); repeat ((first | refine AWp.many ?_ | refine AOps.many ?_ | refine ADr.go ?_); conv => whnf))
      exact txFin (i := 10) rfl rfl (by omega)
    · rw [if_neg k0] at hf1 ⊢
      by_cases k1 : k = 1
      · subst k1
        have hC := xTruth a s n t ks (by omega)
        rw [if_pos rfl]
        generalize (if n = 1 then tTrue else tFalse) = w at hC ⊢
        ((conv => whnf); repeat ((first | refine AWp.many ?_ | refine AOps.many ?_ | refine ADr.go ?_); conv => whnf))
        repeat (refine ⟨rfl, ?_⟩; ((conv => whnf); repeat ((first | refine AWp.many ?_ | refine AOps.many ?_ | refine ADr.go ?_); conv => whnf)))
        refine bUse 1 nngz hC rfl rfl rfl rfl ?_
        ((conv => whnf); repeat ((first | refine AWp.many ?_ | refine AOps.many ?_ | refine ADr.go ?_); conv => whnf))
        exact txFin (i := 10) rfl rfl (by omega)
      · rw [if_neg k1] at hf1 ⊢
        by_cases k2 : k = 2
        · subst k2
          have hC := xList a s 2 n t ks hv5 hf2 (by omega) ih
          rw [if_pos rfl]
          generalize 91 :: (printL ks ++ [93]) = w at hC ⊢
          ((conv => whnf); repeat ((first | refine AWp.many ?_ | refine AOps.many ?_ | refine ADr.go ?_); conv => whnf))
          repeat (refine ⟨rfl, ?_⟩; ((conv => whnf); repeat ((first | refine AWp.many ?_ | refine AOps.many ?_ | refine ADr.go ?_); conv => whnf)))
          refine bUse 1 nngz hC rfl rfl rfl rfl ?_
          ((conv => whnf); repeat ((first | refine AWp.many ?_ | refine AOps.many ?_ | refine ADr.go ?_); conv => whnf))
          exact txFin (i := 10) rfl rfl (by omega)
        · rw [if_neg k2] at hf1 ⊢
          by_cases k3 : k = 3
          · subst k3
            rw [if_pos rfl] at hf1
            have ht : t.length ≤ 16 := by
              rcases Nat.lt_or_ge 16 t.length with h | h
              · rw [capital_long h] at hf1; simp at hf1
              · exact h
            have hC := xMade a s 3 n t ks hv5 hf2 ht (by omega) ih
            generalize (if ks = [] then t else t ++ 40 :: (printL ks ++ [41])) = w at hC ⊢
            ((conv => whnf); repeat ((first | refine AWp.many ?_ | refine AOps.many ?_ | refine ADr.go ?_); conv => whnf))
            repeat (refine ⟨rfl, ?_⟩; ((conv => whnf); repeat ((first | refine AWp.many ?_ | refine AOps.many ?_ | refine ADr.go ?_); conv => whnf)))
            refine bUse 1 nngz hC rfl rfl rfl rfl ?_
            ((conv => whnf); repeat ((first | refine AWp.many ?_ | refine AOps.many ?_ | refine ADr.go ?_); conv => whnf))
            exact txFin (i := 10) rfl rfl (by omega)
          · rw [if_neg k3] at hf1
            cases hf1
end Go.Proofs.YtfnhkfdjhmgjbaaGreatDoor

namespace Go.Proofs.YtfnhkfdjhmgjbaaGreatDoor
open Go Go.Ax Go.Proofs
set_option linter.unusedVariables false
set_option maxRecDepth 100000

theorem isNaNI (x : Int) : PureC Tryz.prog [] 120 [.int .i64 x] (.bool false) := by
  refine acalls_run nnΓ Tryz.func120 rfl ?_
  conv => whnf
  refine fin_pure (.bool _) ⟨?_, rfl, rfl⟩
  simp

theorem isNaNS (x : List UInt8) : PureC Tryz.prog [] 121 [.str x] (.bool false) := by
  refine acalls_run nnΓ Tryz.func121 rfl ?_
  conv => whnf
  refine fin_pure (.bool _) ⟨?_, rfl, rfl⟩
  simp

theorem cmpInt (x y : Int) : PureC Tryz.prog [] 73 [.int .i64 x, .int .i64 y] (.int .i64 (cmpI x y)) := by
  refine acalls_run nnΓ Tryz.func73 rfl ?_
  conv => whnf
  refine (isNaNI x).use nnΓ (.cons (.int _ _) .nil) (.bool _) ?_
  conv => whnf
  refine (isNaNI y).use nnΓ (.cons (.int _ _) .nil) (.bool _) ?_
  conv => whnf
  refine bcs_mk (fun h => ?_) (fun h => ?_)
  · conv => whnf
    refine fin_pure (.int _ _) ⟨?_, rfl, rfl⟩
    simp at h
    simp [cmpI, h]
  conv => whnf
  refine bcs_mk (fun h' => ?_) (fun h' => ?_)
  · conv => whnf
    refine fin_pure (.int _ _) ⟨?_, rfl, rfl⟩
    simp at h h'
    simp only [cmpI]
    rw [if_neg (by omega), if_pos (by omega)]
  · conv => whnf
    refine fin_pure (.int _ _) ⟨?_, rfl, rfl⟩
    simp at h h'
    simp only [cmpI]
    rw [if_neg (by omega), if_neg (by omega)]

theorem cmpStr (x y : List UInt8) : PureC Tryz.prog [] 74 [.str x, .str y] (.int .i64 (cmpS x y)) := by
  refine acalls_run nnΓ Tryz.func74 rfl ?_
  conv => whnf
  refine (isNaNS x).use nnΓ (.cons (.str _) .nil) (.bool _) ?_
  conv => whnf
  refine (isNaNS y).use nnΓ (.cons (.str _) .nil) (.bool _) ?_
  conv => whnf
  refine bcs_mk (fun h => ?_) (fun h => ?_)
  · conv => whnf
    refine fin_pure (.int _ _) ⟨?_, rfl, rfl⟩
    rw [cmpS_less.1 h]
  conv => whnf
  refine bcs_mk (fun h' => ?_) (fun h' => ?_)
  · conv => whnf
    refine fin_pure (.int _ _) ⟨?_, rfl, rfl⟩
    rw [cmpS_more h h']
  · conv => whnf
    refine fin_pure (.int _ _) ⟨?_, rfl, rfl⟩
    rw [cmpS_same h h']

theorem cmpFunc (l1 l2 : List Val) (hb : l1.length ≤ 4294967296) (hc : ∀ a ∈ l1, ∀ b ∈ l2, PureC Tryz.prog [] 30 [encV a, encV b] (.int .i64 (cmpV a b))) :
    PureC Tryz.prog [] 75 [.il 4 (encVs l1), .il 4 (encVs l2), .fn (.func 30) [] []] (.int .i64 (cmpL l1 l2)) := by
  have n1 : NN (.il 4 (encVs l1)) := .il' (encVs_nn l1)
  have n2 : NN (.il 4 (encVs l2)) := .il' (encVs_nn l2)
  have n3 : NN (.fn (.func 30) [] []) := .fn _ _ _ (by simp) (by simp)
  refine acalls_run nnΓ Tryz.func75 rfl ?_
  conv => whnf
  refine AWp.loopAt nnΓ (fun k : Nat => k ≤ l1.length ∧ k ≤ l2.length ∧ cmpL l1 l2 = cmpL (l1.drop k) (l2.drop k))
    (fun k => ⟨[(0, .il 4 (encVs l1)), (1, .il 4 (encVs l2)), (2, .fn (.func 30) [] []), (11, .il 4 (encVs l1)), (12, .int .i64 (encVs l1).length), (13, .int .i64 k)], [], 0, 39⟩)
    (fun k => l1.length - k) 0 [] ⟨by simp, by simp, by simp⟩
    (conv_pure ⟨⟨_, rfl, .same _ n1⟩, ⟨_, rfl, .same _ n2⟩, ⟨_, rfl, .same _ n3⟩, ⟨_, rfl, .same _ n1⟩, ⟨_, rfl, .same _ (.int _ _)⟩, ⟨_, rfl, .same _ (.int _ _)⟩, trivial⟩) ?_
  rintro k ⟨h1, h2, h3⟩
  conv => whnf
  refine bcs_mk (fun h => ?_) (fun h => ?_)
  · have hk : k < l1.length := by rw [encVs_length] at h; simpa using h
    obtain ⟨⟨ka, na, sa, ksa⟩, hv⟩ : ∃ v, v = l1[k] := ⟨_, rfl⟩
    have hm : Val.mk ka na sa ksa ∈ l1 := by rw [hv]; exact List.getElem_mem hk
    have e : (encVs l1)[(k : Int).toNat]? = some (encV (.mk ka na sa ksa)) := by rw [Int.toNat_natCast, encVs_get, List.getElem?_eq_getElem hk, hv]; rfl
    conv => whnf
    refine opt_mk e ?_
    conv => whnf
    refine bcs_mk (fun h' => ?_) (fun h' => ?_)
    · have hk2 : k = l2.length := by rw [encVs_length] at h'; simp at h'; omega
      conv => whnf
      refine fin_pure (.int _ _) ⟨?_, rfl, rfl⟩
      rw [h3, List.drop_of_length_le (l := l2) (by omega), List.drop_eq_getElem_cons hk, cmpL]
    · have hk2 : k < l2.length := by rw [encVs_length] at h'; simpa using h'
      obtain ⟨⟨kb, nb, sb, ksb⟩, hv2⟩ : ∃ v, v = l2[k] := ⟨_, rfl⟩
      have hm2 : Val.mk kb nb sb ksb ∈ l2 := by rw [hv2]; exact List.getElem_mem hk2
      have e2 : (encVs l2)[(k : Int).toNat]? = some (encV (.mk kb nb sb ksb)) := by rw [Int.toNat_natCast, encVs_get, List.getElem?_eq_getElem hk2, hv2]; rfl
      conv => whnf
      refine opt_mk e2 ?_
      conv => whnf
      refine (hc _ hm _ hm2).use nnΓ (.cons (encV_nn _) (.cons (encV_nn _) .nil)) (.int _ _) ?_
      conv => whnf
      have hs := cmpL_step hk hk2
      rw [← hv, ← hv2] at hs
      refine bcs_mk (fun h4 => ?_) (fun h4 => ?_)
      · conv => whnf
        refine fin_pure (.int _ _) ⟨?_, rfl, rfl⟩
        have h4 : cmpV (.mk ka na sa ksa) (.mk kb nb sb ksb) ≠ 0 := by simpa using h4
        rw [h3, hs, andThen, if_neg h4]
      · have h4 : cmpV (.mk ka na sa ksa) (.mk kb nb sb ksb) = 0 := by simpa using h4
        conv => whnf
        refine .mk (k + 1) [] ⟨by omega, by omega, ?_⟩ (conv_pure ⟨⟨_, rfl, .same _ n1⟩, ⟨_, rfl, .same _ n2⟩, ⟨_, rfl, .same _ n3⟩, ⟨_, rfl, .same _ n1⟩, ⟨_, rfl, .same _ (.int _ _)⟩, ⟨_, rfl, .eq (.int _ _) ?_⟩, trivial⟩) (by omega)
        · rw [h3, hs, andThen, if_pos h4]
        · rw [wrap64 ⟨by omega, by omega⟩]; rfl
  · have hk : k = l1.length := by rw [encVs_length] at h; simp at h; omega
    have hd : l1.drop k = [] := List.drop_of_length_le (by omega)
    conv => whnf
    refine bcs_mk (fun h' => ?_) (fun h' => ?_)
    · have hk2 : l1.length < l2.length := by rw [encVs_length, encVs_length] at h'; simpa using h'
      conv => whnf
      refine fin_pure (.int _ _) ⟨?_, rfl, rfl⟩
      rw [h3, hd, List.drop_eq_getElem_cons (show k < l2.length by omega), cmpL]
    · have hk2 : l2.length ≤ l1.length := by rw [encVs_length, encVs_length] at h'; simpa using h'
      conv => whnf
      refine fin_pure (.int _ _) ⟨?_, rfl, rfl⟩
      rw [h3, hd, List.drop_of_length_le (by omega), cmpL]

/-- 'values.Compare'. -/
theorem vCompare : ∀ (a b : Val), okV a → PureC Tryz.prog [] 30 [encV a, encV b] (.int .i64 (cmpV a b))
  | .mk ka na sa ksa, .mk kb nb sb ksb, ha => by
    simp only [okV] at ha
    have hkids : ∀ a ∈ ksa, ∀ b ∈ ksb, PureC Tryz.prog [] 30 [encV a, encV b] (.int .i64 (cmpV a b)) := fun a hm b _ => vCompare a b (okVs_mem ha.2.2.2.2 a hm)
    refine acalls_run nnΓ Tryz.func30 rfl ?_
    conv => whnf
    refine (cmpInt ka kb).use nnΓ (.cons (.int _ _) (.cons (.int _ _) .nil)) (.int _ _) ?_
    conv => whnf
    refine bcs_mk (fun h => ?_) (fun h => ?_)
    · conv => whnf
      refine fin_pure (.int _ _) ⟨?_, rfl, rfl⟩
      have h : cmpI ka kb ≠ 0 := by simpa using h
      rw [cmpV, andThen, if_neg h]
    have h : cmpI ka kb = 0 := by simpa using h
    conv => whnf
    refine (cmpInt na nb).use nnΓ (.cons (.int _ _) (.cons (.int _ _) .nil)) (.int _ _) ?_
    conv => whnf
    refine bcs_mk (fun h2 => ?_) (fun h2 => ?_)
    · conv => whnf
      refine fin_pure (.int _ _) ⟨?_, rfl, rfl⟩
      have h2 : cmpI na nb ≠ 0 := by simpa using h2
      rw [cmpV, andThen, if_pos h, andThen, if_neg h2]
    have h2 : cmpI na nb = 0 := by simpa using h2
    conv => whnf
    refine (cmpStr sa sb).use nnΓ (.cons (.str _) (.cons (.str _) .nil)) (.int _ _) ?_
    conv => whnf
    refine bcs_mk (fun h3 => ?_) (fun h3 => ?_)
    · conv => whnf
      refine fin_pure (.int _ _) ⟨?_, rfl, rfl⟩
      have h3 : cmpS sa sb ≠ 0 := by simpa using h3
      rw [cmpV, andThen, if_pos h, andThen, if_pos h2, andThen, if_neg h3]
    have h3 : cmpS sa sb = 0 := by simpa using h3
    conv => whnf
    refine (cmpFunc ksa ksb ha.2.2.2.1 hkids).use nnΓ (.cons (.il' (encVs_nn _)) (.cons (.il' (encVs_nn _)) (.cons (.fn _ _ _ (by simp) (by simp)) .nil))) (.int _ _) ?_
    conv => whnf
    refine fin_pure (.int _ _) ⟨?_, rfl, rfl⟩
    rw [cmpV, andThen, if_pos h, andThen, if_pos h2, andThen, if_pos h3]
  termination_by a => SizeOf.sizeOf a
  decreasing_by simp; have := List.sizeOf_lt_of_mem hm; omega

theorem signC (b : Bool) : PureC Tryz.prog [] 106 [.bool b] (.int .i64 (if b then -1 else 1)) := by
  refine acalls_run nnΓ Tryz.func106 rfl ?_
  conv => whnf
  refine bcs_mk (fun h => ?_) (fun h => ?_)
  · conv => whnf
    exact fin_pure (.int _ _) ⟨by rw [h]; rfl, rfl, rfl⟩
  · conv => whnf
    exact fin_pure (.int _ _) ⟨by rw [h]; rfl, rfl, rfl⟩

/-- 'refuterref10.Compare'. -/
theorem rCompare : ∀ (a b : Val), okV a → PureC Tryz.prog [] 60 [encV a, encV b] (.int .i64 (cmpV a b))
  | .mk ka na sa ksa, .mk kb nb sb ksb, ha => by
    simp only [okV] at ha
    have hb : ksa.length ≤ 4294967296 := ha.2.2.2.1
    have hkids : ∀ a ∈ ksa, ∀ b ∈ ksb, PureC Tryz.prog [] 60 [encV a, encV b] (.int .i64 (cmpV a b)) := fun a hm b _ => rCompare a b (okVs_mem ha.2.2.2.2 a hm)
    refine acalls_run nnΓ Tryz.func60 rfl ?_
    conv => whnf
    refine bcs_mk (fun h => ?_) (fun h => ?_)
    · conv => whnf
      refine (signC _).use nnΓ (.cons (.bool _) .nil) (.int _ _) ?_
      conv => whnf
      refine fin_pure (.int _ _) ⟨?_, rfl, rfl⟩
      rw [cmpV_kind (by simpa using h)]
      simp
    have h : ka = kb := by simpa using h
    conv => whnf
    refine bcs_mk (fun h2 => ?_) (fun h2 => ?_)
    · conv => whnf
      refine (signC _).use nnΓ (.cons (.bool _) .nil) (.int _ _) ?_
      conv => whnf
      refine fin_pure (.int _ _) ⟨?_, rfl, rfl⟩
      rw [cmpV_n h (by simpa using h2)]
      simp
    have h2 : na = nb := by simpa using h2
    conv => whnf
    refine bcs_mk (fun h3 => ?_) (fun h3 => ?_)
    · conv => whnf
      refine (signC _).use nnΓ (.cons (.bool _) .nil) (.int _ _) ?_
      conv => whnf
      refine fin_pure (.int _ _) ⟨?_, rfl, rfl⟩
      rw [cmpV_s h h2 (by simpa using h3)]
    have h3 : sa = sb := by simpa using h3
    have hcmp : cmpV (.mk ka na sa ksa) (.mk kb nb sb ksb) = cmpL ksa ksb := cmpV_l h h2 h3
    conv => whnf
    refine AWp.loopAt nnΓ (fun k : Nat => k ≤ ksa.length ∧ k ≤ ksb.length ∧ cmpL ksa ksb = cmpL (ksa.drop k) (ksb.drop k))
      (fun k => ⟨[(2, .ptr 0 0 0), (3, .ptr 1 0 0), (5, .int .i64 k)], [(1, .row 33 4 [encV (.mk kb nb sb ksb)]), (0, .row 33 4 [encV (.mk ka na sa ksa)])], 2, 83⟩)
      (fun k => ksa.length - k) 0 [(0, 0), (1, 1)] ⟨by simp, by simp, by simp⟩
      (conv_mk _ rfl ⟨⟨1, _, rfl, rfl, .same (.cons (encV_nn _) .nil)⟩, ⟨0, _, rfl, rfl, .same (.cons (encV_nn _) .nil)⟩, trivial⟩ ⟨⟨_, rfl, .ptr 0 0 0 0 rfl⟩, ⟨_, rfl, .ptr 1 1 0 0 rfl⟩, ⟨_, rfl, .same _ (.int _ _)⟩, trivial⟩) ?_
    rintro k ⟨h4, h5, h6⟩
    conv => whnf
    refine bcs_mk (fun h7 => ?_) (fun h7 => ?_)
    · have hk : k < ksa.length := by rw [encVs_length] at h7; simpa using h7
      rw [h7]
      conv => whnf
      refine bcs_mk (fun h8 => ?_) (fun h8 => ?_)
      · have hk2 : k < ksb.length := by rw [encVs_length] at h8; simpa using h8
        conv => whnf
        have e1 := enc_at hk
        have e2 := enc_at hk2
        obtain ⟨⟨k1, n1, s1, ks1⟩, hv1⟩ : ∃ v, v = ksa[k] := ⟨_, rfl⟩
        obtain ⟨⟨k2, n2, s2, ks2⟩, hv2⟩ : ∃ v, v = ksb[k] := ⟨_, rfl⟩
        rw [← hv1] at e1
        rw [← hv2] at e2
        refine opt_mk e1 ?_
        conv => whnf
        refine opt_mk e2 ?_
        conv => whnf
        have hm1 : Val.mk k1 n1 s1 ks1 ∈ ksa := by rw [hv1]; exact List.getElem_mem hk
        have hm2 : Val.mk k2 n2 s2 ks2 ∈ ksb := by rw [hv2]; exact List.getElem_mem hk2
        have hs := cmpL_step hk hk2
        rw [← hv1, ← hv2] at hs
        refine (hkids _ hm1 _ hm2).use nnΓ (.cons (encV_nn _) (.cons (encV_nn _) .nil)) (.int _ _) ?_
        conv => whnf
        refine bcs_mk (fun h9 => ?_) (fun h9 => ?_)
        · have h9 : cmpV (.mk k1 n1 s1 ks1) (.mk k2 n2 s2 ks2) ≠ 0 := by simpa using h9
          conv => whnf
          refine fin_pure (.int _ _) ⟨?_, rfl, rfl⟩
          rw [hcmp, h6, hs, andThen, if_neg h9]
        · have h9 : cmpV (.mk k1 n1 s1 ks1) (.mk k2 n2 s2 ks2) = 0 := by simpa using h9
          conv => whnf
          refine .mk (k + 1) [(0, 0), (1, 1)] ⟨by omega, by omega, by rw [h6, hs, andThen, if_pos h9]⟩ (conv_mk _ rfl ⟨⟨1, _, rfl, rfl, .same (.cons (encV_nn _) .nil)⟩, ⟨0, _, rfl, rfl, .same (.cons (encV_nn _) .nil)⟩, trivial⟩ ⟨⟨_, rfl, .ptr 0 0 0 0 rfl⟩, ⟨_, rfl, .ptr 1 1 0 0 rfl⟩, ⟨_, rfl, .eq (.int _ _) ?_⟩, trivial⟩) (by omega)
          rw [wrap64 ⟨by omega, by omega⟩]; rfl
      · have hk2 : k = ksb.length := by rw [encVs_length] at h8; simp at h8; omega
        conv => whnf
        refine bcs_mk (fun h9 => ?_) (fun h9 => ?_)
        · exfalso
          rw [encVs_length, encVs_length] at h9
          simp at h9
          omega
        · conv => whnf
          refine (signC _).use nnΓ (.cons (.bool _) .nil) (.int _ _) ?_
          conv => whnf
          refine fin_pure (.int _ _) ⟨?_, rfl, rfl⟩
          rw [hcmp, h6, List.drop_of_length_le (l := ksb) (by omega), List.drop_eq_getElem_cons hk, cmpL, encVs_length, encVs_length, if_neg (by simp; omega)]
    · have hk : k = ksa.length := by rw [encVs_length] at h7; simp at h7; omega
      have hd : ksa.drop k = [] := List.drop_of_length_le (by omega)
      rw [h7]
      conv => whnf
      refine bcs_mk (fun h9 => ?_) (fun h9 => ?_)
      · have h9 : ksa.length = ksb.length := by rw [encVs_length, encVs_length] at h9; simp at h9; omega
        conv => whnf
        refine fin_pure (.int _ _) ⟨?_, rfl, rfl⟩
        rw [hcmp, h6, hd, List.drop_of_length_le (by omega), cmpL]
      · have h9 : ksa.length ≠ ksb.length := by rw [encVs_length, encVs_length] at h9; simp at h9; omega
        conv => whnf
        refine (signC _).use nnΓ (.cons (.bool _) .nil) (.int _ _) ?_
        conv => whnf
        refine fin_pure (.int _ _) ⟨?_, rfl, rfl⟩
        rw [hcmp, h6, hd, List.drop_eq_getElem_cons (show k < ksb.length by omega), cmpL, encVs_length, encVs_length, if_pos (by simp; omega)]
  termination_by a => SizeOf.sizeOf a
  decreasing_by simp; have := List.sizeOf_lt_of_mem hm; omega
end Go.Proofs.YtfnhkfdjhmgjbaaGreatDoor

namespace Go.Proofs.YtfnhkfdjhmgjbaaGreatDoor
open Go Go.Ax Go.Proofs
set_option linter.unusedVariables false
set_option maxRecDepth 100000
set_option maxHeartbeats 4000000

def eqV (a b : Val) : Bool := cmpV a b == 0
theorem rEqual (a b : Val) (ho : okV a) : PureC Tryz.prog [] 20 [encV a, encV b] (.bool (eqV a b)) := by
  have hC := rCompare a b ho
  unfold eqV
  obtain ⟨c, hc⟩ : ∃ c, c = cmpV a b := ⟨_, rfl⟩
  rw [← hc] at hC ⊢
  clear hc
  refine acalls_go nnΓ Tryz.func20 rfl ?_
  obtain ⟨a1, a2, a3, a4⟩ := a
  obtain ⟨b1, b2, b3, b4⟩ := b
  ((conv => whnf); repeat ((first | refine AWp.many ?_ | refine AOps.many ?_ | refine ADr.go ?_); conv => whnf))
  refine hC.go ?_
  ((conv => whnf); repeat ((first | refine AWp.many ?_ | refine AOps.many ?_ | refine ADr.go ?_); conv => whnf))
  exact fin_pure (.bool _) ⟨rfl, rfl, rfl⟩
theorem eqV_self (a : Val) : eqV a a = true := by
  unfold eqV
  have := (cmpV_good a).anti a
  simp
  omega
end Go.Proofs.YtfnhkfdjhmgjbaaGreatDoor

namespace Go.Proofs.YtfnhkfdjhmgjbaaGreatDoor
open Go Go.Ax Go.Proofs
set_option linter.unusedVariables false
set_option maxRecDepth 100000
set_option maxHeartbeats 4000000

theorem uStr (a : AB) (c : UInt8) (w : List UInt8) (hl : w.length ≤ 9000000000000) : aUString Tryz.prog [(0, a), (1, .row 5 1 (encB (c :: w)))] 151 (.ptr 1 0 0) (.int .i64 (((c :: w).length : Nat) : Int)) = some (.str (c :: w), [(0, a)]) := by
  have e1 : (((c :: w).length : Nat) : Int) = Int.ofNat (w.length + 1) := rfl
  have hb : bytesIn (List.take (w.length + 1) (encB (c :: w))) = some (c :: w) := by rw [encB_take, bytesIn_encB, List.take_of_length_le (by simp)]
  have hce : Tryz.prog.cellsOf 5 = 1 := by kernel_rfl
  have hbl : Nat.ble (w.length + 1) 9223372036854775807 = true := Nat.ble_eq_true_of_le (by omega)
  have hq : Nat.beq (c :: w).length (w.length + 1) = true := by simp
  rw [e1]
  simp only [aUString, lk, Tryz.underlying151, hce, hbl, hb, hq, drop]
  rfl
theorem bText (s : List UInt8) (hs : s ≠ []) (hl : s.length ≤ 1000000000) : ACalls Tryz.prog [] 55 [.ptr 0 0 0] (bM true s) 2 fun r m n => r = .str s ∧ m = [] ∧ n = 2 := by
  refine acalls_go nnΓ Tryz.func55 rfl ?_
  obtain ⟨c, w, rfl⟩ : ∃ c w, s = c :: w := by
    cases s with
    | nil => exact absurd rfl hs
    | cons c w => exact ⟨c, w, rfl⟩
  ((conv => whnf); repeat ((first | refine AWp.many ?_ | refine AOps.many ?_ | refine ADr.go ?_); conv => whnf))
  repeat (refine ⟨rfl, ?_⟩; ((conv => whnf); repeat ((first | refine AWp.many ?_ | refine AOps.many ?_ | refine ADr.go ?_); conv => whnf)))
  rw [uStr _ c w (by simp at hl; omega)]
  ((conv => whnf); repeat ((first | refine AWp.many ?_ | refine AOps.many ?_ | refine ADr.go ?_); conv => whnf))
  exact fin_mk (r' := .str (c :: w)) (m' := []) (n' := 2) [] rfl trivial (.same _ nn) ⟨rfl, rfl, rfl⟩

/-- 'values.Print'. -/
theorem vPrint : ∀ v : Val, okV v → sizeV v ≤ 1000000 → PureC Tryz.prog gz 16 [encV v] (.str (if validV v = 0 then printV v else []))
  | .mk v1 v2 v3 v4, ho, hs => by
    have hV := vValid (.mk v1 v2 v3 v4) ho (by omega)
    obtain ⟨e, he⟩ : ∃ e, e = validV (.mk v1 v2 v3 v4) := ⟨_, rfl⟩
    rw [← he] at hV ⊢
    refine acalls_go nngz Tryz.func16 rfl ?_
    ((conv => whnf); repeat ((first | refine AWp.many ?_ | refine AOps.many ?_ | refine ADr.go ?_); conv => whnf))
    refine hV.goG ?_
    by_cases h0 : e = 0
    · subst h0
      rw [if_pos rfl]
      have hf := (valid_fits he.symm).1
      have hX := xValue (.mk v1 v2 v3 v4) false [] ho hf (by simp; omega)
      have hp := print_pos hf
      have hpl := print_len _ ho hf
      generalize printV (.mk v1 v2 v3 v4) = w at hX hp hpl ⊢
      have hwl : w.length ≤ 100000000 := by omega
      ((conv => whnf); repeat ((first | refine AWp.many ?_ | refine AOps.many ?_ | refine ADr.go ?_); conv => whnf))
      refine ACalls.ph 5 1 ?_
      refine ACalls.useN nngz [(1, 0), (2, 1)] hX rfl (.cons (.ptr 1 0 0 0 rfl) (.same nns)) ⟨⟨1, _, rfl, rfl, .cons (.agg (.cons (.same _ nn) (.cons (.nslk 2 1 _ rfl rfl) .nil))) .nil⟩, ⟨2, _, rfl, rfl, .same .nil⟩, trivial⟩ rfl ?_
      rintro r m n ⟨rfl, rfl, rfl⟩
      rw [List.nil_append]
      refine ⟨[(0, 1), (2, 3)], _, [(1, .row 90 2 [.agg [.ptr 1 0 0, .sl 3 0 w.length]]), (3, .row 5 1 (encB w))], 4, .same _ nn, ⟨⟨0, _, rfl, rfl, .cons (.agg (.cons (.ptr 0 1 0 0 rfl) (.cons (.sl 2 3 0 _ rfl) .nil))) .nil⟩, ⟨2, _, rfl, rfl, .same (encB_nn _)⟩, trivial⟩, rfl, ?_⟩
      ((conv => whnf); repeat ((first | refine AWp.many ?_ | refine AOps.many ?_ | refine ADr.go ?_); conv => whnf))
      refine ACalls.useN nngz [(1, 0), (3, 1)] (bText w (by rintro rfl; simp at hp) (by omega)).glob rfl (.cons (.ptr 1 0 0 0 rfl) .nil) ⟨⟨1, _, rfl, rfl, .cons (.agg (.cons (.ptr 1 0 0 0 rfl) (.cons (.sl 3 1 0 _ rfl) .nil))) .nil⟩, ⟨3, _, rfl, rfl, .same (encB_nn _)⟩, trivial⟩ rfl ?_
      rintro r m n ⟨rfl, rfl, rfl⟩
      refine ⟨[], _, [], 4, .same _ nn, trivial, rfl, ?_⟩
      ((conv => whnf); repeat ((first | refine AWp.many ?_ | refine AOps.many ?_ | refine ADr.go ?_); conv => whnf))
      exact fin_pure nn ⟨rfl, rfl, rfl⟩
    · have d1 : (e != 0) = true := by simpa using h0
      rw [if_neg h0]
      ((conv => whnf); repeat ((first | refine AWp.many ?_ | refine AOps.many ?_ | refine ADr.go ?_); conv => whnf))
      rw [d1]
      ((conv => whnf); repeat ((first | refine AWp.many ?_ | refine AOps.many ?_ | refine ADr.go ?_); conv => whnf))
      exact fin_pure nn ⟨rfl, rfl, rfl⟩
end Go.Proofs.YtfnhkfdjhmgjbaaGreatDoor

namespace Go.Proofs.YtfnhkfdjhmgjbaaGreatDoor
open Go Go.Ax Go.Proofs
set_option linter.unusedVariables false
set_option maxRecDepth 100000

/-- The block of a 'refuterref10.G'. -/
def gB (l : List Int) (at_ : Nat) : AB := .row 29 2 [.agg [.il 1 (encI l), .int .i64 at_]]

theorem gNN (l : List Int) (i : Nat) : NNs [.agg [.il 1 (encI l), .int .i64 i]] := .cons (.agg' (.cons (.il' (encI_nn l)) (.cons (.int _ _) .nil))) .nil

theorem gNext (l : List Int) (i : Nat) (most : Int) (hi : i ≤ 4611686018427387904) (hm : most ≤ 4611686018427387904) :
    ACalls Tryz.prog [] 11 [.ptr 0 0 0, .int .i64 most] [(0, gB l i)] 1 fun r m n => ∃ k : Int, r = .int .i64 k ∧ 0 ≤ k ∧ (k = 0 ∨ k < most) ∧ m = [(0, gB l (i + 1))] := by
  refine acalls_run nnΓ Tryz.func11 rfl ?_
  have hw : IntKind.i64.wrap ((i : Int) + 1) = ((i + 1 : Nat) : Int) := wrap64 ⟨by omega, by omega⟩
  have fin : ∀ (k : Int) (n : Nat), 0 ≤ k → (k = 0 ∨ k < most) → Fini 1 (fun r m _ => ∃ k : Int, r = .int .i64 k ∧ 0 ≤ k ∧ (k = 0 ∨ k < most) ∧ m = [(0, gB l (i + 1))]) (.int .i64 k) [(0, .row 29 2 [.agg [.il 1 (encI l), .int .i64 (IntKind.i64.wrap ((i : Int) + 1))]])] n := by
    intro k n h1 h2
    refine fin_mk (n' := 1) (m' := [(0, gB l (i + 1))]) [(0, 0)] rfl ⟨⟨0, _, rfl, rfl, .eq (gNN l (i + 1)) (by rw [hw])⟩, trivial⟩ (.same _ (.int _ _)) ⟨k, rfl, h1, h2, rfl⟩
  conv => whnf
  refine bcs_mk (fun h => ?_) (fun h => ?_)
  · rw [h]
    conv => whnf
    exact fin 0 _ (by omega) (.inl rfl)
  · have hlt : i < l.length := by rw [encI_length] at h; simp at h; omega
    rw [h]
    conv => whnf
    refine bcs_mk (fun h2 => ?_) (fun h2 => ?_)
    · conv => whnf
      exact fin 0 _ (by omega) (.inl rfl)
    · have h2 : 2 ≤ most := by simpa using h2
      conv => whnf
      refine opt_mk (a := .int .i64 l[i]) (by rw [Int.toNat_natCast, encI_get, List.getElem?_eq_getElem hlt]; rfl) ?_
      conv => whnf
      refine grd_mk (by rw [decide_eq_false (by omega)]; rfl) ?_
      conv => whnf
      have hr : -most < l[i].tmod most ∧ l[i].tmod most < most := by
        constructor
        · have := Int.lt_tmod_of_pos l[i] (show 0 < most by omega); omega
        · exact Int.tmod_lt_of_pos _ (by omega)
      refine bcs_mk (fun h3 => ?_) (fun h3 => ?_)
      · have h3 : l[i].tmod most < 0 := by simpa using h3
        conv => whnf
        have hw2 : IntKind.i64.wrap (l[i].tmod most + most) = l[i].tmod most + most := wrap64 ⟨by omega, by omega⟩
        rw [hw2]
        exact fin _ _ (by omega) (.inr (by omega))
      · have h3 : 0 ≤ l[i].tmod most := by simpa using h3
        conv => whnf
        exact fin _ _ h3 (.inr hr.2)

/-- 'Next', used where the generator lies in block 0. -/
theorem gNextUse {l : List Int} {i : Nat} (most : Int) (hi : i ≤ 4611686018427387904) (hm : most ≤ 4611686018427387904) (hp : 1 ≤ most) {mem : Mem} {nx : Nat} {K : AV → Mem → Nat → Prop} (hg : lk mem 0 = some (gB l i))
    (hk : ∀ k : Int, 0 ≤ k → k < most → dropK 0 mem fun rest => K (.int .i64 k) ((0, gB l (i + 1)) :: rest) nx) : ACalls Tryz.prog [] 11 [.ptr 0 0 0, .int .i64 most] mem nx K := by
  refine ACalls.use1 nnΓ (gNext l i most hi hm) 0 hg (gNN l i) (.cons (.ptr 0 0 0 0 rfl) (.cons (.same _ (.int _ _)) .nil)) ?_
  rintro r m n ⟨k, rfl, h1, h2, rfl⟩
  exact ⟨_, rfl, .int _ _, gNN l (i + 1), hk k h1 (by omega)⟩

theorem i64_wrap (n : Int) : i64 (IntKind.i64.wrap n) := by
  rw [IntKind.wrap_i64]
  exact ⟨by omega, by omega⟩

/-- What is said of 'Value'. -/
def gPost (l : List Int) (d i : Nat) : AV → Mem → Nat → Prop := fun r m _ => ∃ (v : Val) (j : Nat), r = encV v ∧ genV d v ∧ i ≤ j ∧ j ≤ i + genCost d ∧ m = [(0, gB l j)]

theorem gFin {l : List Int} {d i j : Nat} {kd n : Int} {s : List UInt8} {kv : AV} {kids : List Val} {mem : Mem} {nx : Nat} (h0 : lk mem 0 = some (gB l j)) (hkv : Cv mem [(0, 0)] kv (.il 4 (encVs kids))) (hg : genV d (.mk kd n s kids)) (h1 : i ≤ j) (h2 : j ≤ i + genCost d) :
    Fini 1 (gPost l d i) (.agg [.int .i64 kd, .int .i64 n, .str s, kv]) mem nx :=
  fin_mk (n' := 1) (m' := [(0, gB l j)]) [(0, 0)] rfl ⟨⟨0, _, rfl, h0, .same (gNN l j)⟩, trivial⟩ (.agg' (.cons (.same _ (.int _ _)) (.cons (.same _ (.int _ _)) (.cons (.same _ (.str _)) (.cons hkv .nil))))) ⟨_, j, rfl, hg, h1, h2, rfl⟩

theorem genV_leaf {d : Nat} {k n : Int} {s : List UInt8} (h : genBase k n s []) : genV d (.mk k n s []) := by
  cases d with
  | zero => exact ⟨h, rfl⟩
  | succ d => exact ⟨h, by simp, by simp⟩

/-- The state at the head of the loop over the kids. -/
def gSt (l : List Int) (d : Nat) (kd : Int) (s : List UInt8) (n : Int) (x : List Val × Nat) : St :=
  ⟨[(0, .ptr 0 0 0), (1, .int .i64 (d + 1 : Nat)), (4, .ptr 1 0 0), (6, .ptr 2 0 0), (7, .int .i64 n), (8, .int .i64 x.1.length)],
    [(0, gB l x.2), (1, .row 33 4 [.agg [.int .i64 0, .int .i64 0, .str [], .nsl]]), (2, .row 33 4 [.agg [.int .i64 kd, .int .i64 0, .str s, .sl 3 0 x.1.length]]), (3, .row 33 4 (encVs x.1))], 4, 72⟩

theorem gLoop (l : List Int) (d j0 : Nat) (hd : d < 10) (hj0 : j0 + 3 * genCost d ≤ 4611686018427387904)
    (ih : ∀ i, i + genCost d ≤ 4611686018427387904 → ACalls Tryz.prog [] 51 [.ptr 0 0 0, .int .i64 d] [(0, gB l i)] 1 (gPost l d i))
    (kd : Int) (s : List UInt8) (n : Int) (hn0 : 0 ≤ n) (hn : n < 4) (Q : Exit → St → Prop) (st : St) (σ : List (Nat × Nat)) (h0 : Conv 1 σ ⟨st.sl, (st.nx, .row 33 4 []) :: st.mem, st.nx + 1, st.nt⟩ (gSt l d kd s n ([], j0)))
    (hQ : ∀ (ks : List Val) (j : Nat), ks.length ≤ 3 → (∀ v ∈ ks, genV d v) → j0 ≤ j → j ≤ j0 + 3 * genCost d →
      Q (.exit 1) ⟨[(0, .ptr 0 0 0), (1, .int .i64 (d + 1 : Nat)), (4, .ptr 1 0 0), (6, .ptr 2 0 0), (7, .int .i64 n), (8, .int .i64 ks.length), (57, .int .i64 ks.length), (58, .int .i64 n), (59, .bool (decide ((ks.length : Int) < n)))], (gSt l d kd s n (ks, j)).mem, 4, 72⟩) :
    AWp Tryz.prog [] 1 (.loop (nthLoop Tryz.f51 0)) st Q := by
  refine AWp.ph 33 4 ?_
  refine AWp.loopAt nnΓ (fun x : List Val × Nat => (x.1.length : Int) ≤ n ∧ (∀ v ∈ x.1, genV d v) ∧ j0 ≤ x.2 ∧ x.2 ≤ j0 + x.1.length * genCost d) (gSt l d kd s n) (fun x => 4 - x.1.length) ([], j0) σ ⟨by simpa using hn0, by simp, Nat.le_refl _, by simp⟩ h0 ?_
  rintro ⟨ks, j⟩ ⟨h1, h2, h3, h4⟩
  have hc := genCost_pos d
  simp only at h1 h2 h3 h4
  have hmul : ks.length * genCost d ≤ 3 * genCost d := Nat.mul_le_mul_right _ (by omega)
  conv => whnf
  refine bcs_mk (fun h => ?_) (fun h => ?_)
  · have hlt : (ks.length : Int) < n := by simpa using h
    have hmul2 : ks.length * genCost d ≤ 2 * genCost d := Nat.mul_le_mul_right _ (by omega)
    conv => whnf
    refine ACalls.use1 nnΓ (ih j (by omega)) 0 rfl (gNN l j) (.cons (.ptr 0 0 0 0 rfl) (.cons (.eq (.int _ _) (by rw [wrap64 ⟨by omega, by omega⟩]; congr 1; omega)) .nil)) ?_
    rintro r m n' ⟨⟨vk, vn, vs, vks⟩, j', rfl, hv, g1, g2, rfl⟩
    refine ⟨_, rfl, encV_nn _, gNN l j', ?_⟩
    conv => whnf
    refine ⟨rfl, ?_⟩
    conv => whnf
    refine grd_mk (app_ok rfl rfl (by rw [encVs_length]) (by simp; omega)) ?_
    conv => whnf
    have hlen : ks.length + (List.take 1 (List.drop 0 [encV (Val.mk vk vn vs vks)])).length = (ks ++ [Val.mk vk vn vs vks]).length := by simp
    have hrow : encVs ks ++ List.take 1 (List.drop 0 [encV (Val.mk vk vn vs vks)]) = encVs (ks ++ [Val.mk vk vn vs vks]) := by simp [encVs_map]
    refine .mk (ks ++ [Val.mk vk vn vs vks], j') [(0, 0), (1, 1), (2, 2), (14, 3)] ⟨by simp; omega, fun v hm => ?_, by simp only; omega, ?_⟩
      (conv_mk _ rfl ⟨⟨0, _, rfl, rfl, .same (gNN l j')⟩, ⟨1, _, rfl, rfl, .same (.cons (.agg' (.cons (.int _ _) (.cons (.int _ _) (.cons (.str _) (.cons .nsl .nil))))) .nil)⟩,
        ⟨2, _, rfl, rfl, .cons (.agg (.cons (.same _ (.int _ _)) (.cons (.same _ (.int _ _)) (.cons (.same _ (.str _)) (.cons (.slE rfl hlen) .nil))))) .nil⟩,
        ⟨14, _, rfl, rfl, .eq (encVs_nn _) hrow⟩, trivial⟩
        ⟨⟨_, rfl, .ptr 0 0 0 0 rfl⟩, ⟨_, rfl, .same _ (.int _ _)⟩, ⟨_, rfl, .ptr 1 1 0 0 rfl⟩, ⟨_, rfl, .ptr 2 2 0 0 rfl⟩, ⟨_, rfl, .same _ (.int _ _)⟩, ⟨_, rfl, .eq (.int _ _) ?_⟩, trivial⟩) (by simp; omega)
    · rcases List.mem_append.1 hm with hm | hm
      · exact h2 v hm
      · simp at hm; rw [hm]; exact hv
    · simp only [List.length_append, List.length_singleton, Nat.add_mul]; omega
    · rw [wrap64 ⟨by simp only; omega, by simp only; omega⟩]; simp
  · conv => whnf
    exact hQ ks j (by omega) h2 h3 (by omega)

theorem gValue (l : List Int) : ∀ (d i : Nat), d ≤ 10 → i + genCost d ≤ 4611686018427387904 →
    ACalls Tryz.prog [] 51 [.ptr 0 0 0, .int .i64 d] [(0, gB l i)] 1 (gPost l d i) := by
  intro d
  induction d with
  | zero =>
    intro i _ hi
    simp only [genCost] at hi
    have hcd : genCost 0 = 6 := rfl
    refine acalls_run nnΓ Tryz.func51 rfl ?_
    conv => whnf
    refine gNextUse 7 (by omega) (by omega) (by omega) rfl fun k h1 h2 => ?_
    rcases (show (k = 0 ∨ k = 1 ∨ k = 4 ∨ k = 5) ∨ (k = 2 ∨ k = 6) ∨ k = 3 by omega) with hk | hk | rfl
    · rcases hk with rfl | rfl | rfl | rfl
      all_goals
        conv => whnf
        refine gNextUse 5 (by omega) (by omega) (by omega) rfl fun a a1 a2 => ?_
        conv => whnf
        refine gNextUse 100 (by omega) (by omega) (by omega) rfl fun b b1 b2 => ?_
        conv => whnf
        refine gNextUse 7 (by omega) (by omega) (by omega) rfl fun c c1 c2 => ?_
        rcases (show c = 0 ∨ c = 1 ∨ c = 2 ∨ c = 3 ∨ c = 4 ∨ c = 5 ∨ c = 6 by omega) with rfl | rfl | rfl | rfl | rfl | rfl | rfl
        all_goals
          conv => whnf
          refine gFin (kids := []) rfl (.nil 4) (genV_leaf (.inl ⟨rfl, ?_, rfl, rfl⟩)) (by omega) (by omega)
          first | exact ⟨by omega, by omega⟩ | exact i64_wrap _
    · rcases hk with rfl | rfl
      all_goals
        conv => whnf
        refine gNextUse 2 (by omega) (by omega) (by omega) rfl fun a a1 a2 => ?_
        conv => whnf
        exact gFin (kids := []) rfl (.nil 4) (genV_leaf (.inr (.inl ⟨rfl, by omega, rfl, rfl⟩))) (by omega) (by omega)
    · conv => whnf
      refine gNextUse 4 (by omega) (by omega) (by omega) rfl fun c c1 c2 => ?_
      rcases (show c = 0 ∨ c = 1 ∨ c = 2 ∨ c = 3 by omega) with rfl | rfl | rfl | rfl
      all_goals
        conv => whnf
        exact gFin (kids := []) rfl (.nil 4) (genV_leaf (.inr (.inr (.inr ⟨rfl, rfl, by simp [genNames]⟩)))) (by omega) (by omega)
  | succ d ih =>
    intro i hd hi
    have hc := genCost_pos d
    have hcd : genCost (d + 1) = 4 * genCost d := rfl
    refine acalls_run nnΓ Tryz.func51 rfl ?_
    conv => whnf
    refine gNextUse 7 (by omega) (by omega) (by omega) rfl fun k h1 h2 => ?_
    rcases (show (k = 0 ∨ k = 1) ∨ k = 2 ∨ k = 3 ∨ (k = 4 ∨ k = 5) ∨ k = 6 by omega) with hk | rfl | rfl | hk | rfl
    · rcases hk with rfl | rfl
      all_goals
        conv => whnf
        refine gNextUse 5 (by omega) (by omega) (by omega) rfl fun a a1 a2 => ?_
        conv => whnf
        refine gNextUse 100 (by omega) (by omega) (by omega) rfl fun b b1 b2 => ?_
        conv => whnf
        refine gNextUse 7 (by omega) (by omega) (by omega) rfl fun c c1 c2 => ?_
        rcases (show c = 0 ∨ c = 1 ∨ c = 2 ∨ c = 3 ∨ c = 4 ∨ c = 5 ∨ c = 6 by omega) with rfl | rfl | rfl | rfl | rfl | rfl | rfl
        all_goals
          conv => whnf
          refine gFin (kids := []) rfl (.nil 4) (genV_leaf (.inl ⟨rfl, ?_, rfl, rfl⟩)) (by omega) (by omega)
          first | exact ⟨by omega, by omega⟩ | exact i64_wrap _
    · conv => whnf
      refine gNextUse 2 (by omega) (by omega) (by omega) rfl fun a a1 a2 => ?_
      conv => whnf
      exact gFin (kids := []) rfl (.nil 4) (genV_leaf (.inr (.inl ⟨rfl, by omega, rfl, rfl⟩))) (by omega) (by omega)
    · conv => whnf
      refine gNextUse 4 (by omega) (by omega) (by omega) rfl fun c c1 c2 => ?_
      rcases (show c = 0 ∨ c = 1 ∨ c = 2 ∨ c = 3 by omega) with rfl | rfl | rfl | rfl
      all_goals
        conv => whnf
        exact gFin (kids := []) rfl (.nil 4) (genV_leaf (.inr (.inr (.inr ⟨rfl, rfl, by simp [genNames]⟩)))) (by omega) (by omega)
    · rcases hk with rfl | rfl
      all_goals
        conv => whnf
        refine gNextUse 4 (by omega) (by omega) (by omega) rfl fun c c1 c2 => ?_
        conv => whnf
        refine gLoop l d (i + 1 + 1) (by omega) (by omega) (fun i' h => ih i' (by omega) h) 2 [] c c1 c2 _ _ [(0, 0), (1, 1), (2, 2), (3, 3)]
          (conv_mk _ rfl ⟨⟨0, _, rfl, rfl, .same (gNN l _)⟩, ⟨1, _, rfl, rfl, .same (.cons (.agg' (.cons (.int _ _) (.cons (.int _ _) (.cons (.str _) (.cons .nsl .nil))))) .nil)⟩,
            ⟨2, _, rfl, rfl, .cons (.agg (.cons (.same _ (.int _ _)) (.cons (.same _ (.int _ _)) (.cons (.same _ (.str _)) (.cons (.nslk 3 3 _ rfl rfl) .nil))))) .nil⟩,
            ⟨3, _, rfl, rfl, .nil⟩, trivial⟩
            ⟨⟨_, rfl, .ptr 0 0 0 0 rfl⟩, ⟨_, rfl, .same _ (.int _ _)⟩, ⟨_, rfl, .ptr 1 1 0 0 rfl⟩, ⟨_, rfl, .ptr 2 2 0 0 rfl⟩, ⟨_, rfl, .same _ (.int _ _)⟩, ⟨_, rfl, .same _ (.int _ _)⟩, trivial⟩) ?_
        intro ks j g1 g2 g3 g4
        conv => whnf
        exact gFin rfl (.fz' (by rfl) rfl (by simp [encVs_length]) (by simp [← encVs_length]) (encVs_nn ks)) ⟨.inr (.inr (.inl ⟨rfl, rfl, rfl⟩)), g1, g2⟩ (by omega) (by omega)
    · conv => whnf
      refine gNextUse 3 (by omega) (by omega) (by omega) rfl fun e e1 e2 => ?_
      rcases (show e = 0 ∨ e = 1 ∨ e = 2 by omega) with rfl | rfl | rfl
      all_goals
        conv => whnf
        refine gNextUse 4 (by omega) (by omega) (by omega) rfl fun c c1 c2 => ?_
        conv => whnf
        refine gLoop l d (i + 1 + 1 + 1) (by omega) (by omega) (fun i' h => ih i' (by omega) h) 3 _ c c1 c2 _ _ [(0, 0), (1, 1), (2, 2), (4, 3)]
          (conv_mk _ rfl ⟨⟨0, _, rfl, rfl, .same (gNN l _)⟩, ⟨1, _, rfl, rfl, .same (.cons (.agg' (.cons (.int _ _) (.cons (.int _ _) (.cons (.str _) (.cons .nsl .nil))))) .nil)⟩,
            ⟨2, _, rfl, rfl, .cons (.agg (.cons (.same _ (.int _ _)) (.cons (.same _ (.int _ _)) (.cons (.same _ (.str _)) (.cons (.nslk 4 3 _ rfl rfl) .nil))))) .nil⟩,
            ⟨4, _, rfl, rfl, .nil⟩, trivial⟩
            ⟨⟨_, rfl, .ptr 0 0 0 0 rfl⟩, ⟨_, rfl, .same _ (.int _ _)⟩, ⟨_, rfl, .ptr 1 1 0 0 rfl⟩, ⟨_, rfl, .ptr 2 2 0 0 rfl⟩, ⟨_, rfl, .same _ (.int _ _)⟩, ⟨_, rfl, .same _ (.int _ _)⟩, trivial⟩) ?_
        intro ks j g1 g2 g3 g4
        conv => whnf
        exact gFin rfl (.fz' (by rfl) rfl (by simp [encVs_length]) (by simp [← encVs_length]) (encVs_nn ks)) ⟨.inr (.inr (.inr ⟨rfl, rfl, by simp [genNames]⟩)), g1, g2⟩ (by omega) (by omega)
end Go.Proofs.YtfnhkfdjhmgjbaaGreatDoor

namespace Go.Proofs.YtfnhkfdjhmgjbaaGreatDoor
open Go Go.Ax Go.Proofs
set_option linter.unusedVariables false
set_option maxRecDepth 100000
set_option maxHeartbeats 4000000

/-- 'refuterref10.Many'. -/
theorem rMany (n : Nat) (hn : n ≤ 1000) : PureC Tryz.prog [] 95 [.int .i64 n] (.il 4 (encVs (manyV n))) := by
  refine acalls_run nnΓ Tryz.func95 rfl ?_
  conv => whnf
  refine AWp.ph 33 4 ?_
  refine AWp.loopAt nnΓ (fun k : Nat => k ≤ n)
    (fun k => ⟨[(0, .int .i64 n), (3, .sl 0 0 (manyV k).length), (4, .int .i64 k)], [(0, .row 33 4 (encVs (manyV k)))], 1, 17⟩)
    (fun k => n - k) 0 [(0, 0)] (by simp)
    (conv_mk _ rfl ⟨⟨0, _, rfl, rfl, .nil⟩, trivial⟩ ⟨⟨_, rfl, .same _ nn⟩, ⟨_, rfl, .nslk 0 0 _ rfl rfl⟩, ⟨_, rfl, .same _ nn⟩, trivial⟩) ?_
  intro k hk
  have hlen := manyV_length k
  conv => whnf
  refine bcs_mk (fun h => ?_) (fun h => ?_)
  · have hlt : k < n := by simpa using h
    conv => whnf
    refine grd_mk (app_ok rfl rfl (by rw [encVs_length]) (by simp; omega)) ?_
    conv => whnf
    exact .mk (k + 1) [(2, 0)] (by omega) (conv_mk _ rfl ⟨⟨2, _, rfl, rfl, by rw [manyV_succ, encVs_snoc]; exact .snoc rfl (.same nns) (cvVal _ _ _)⟩, trivial⟩ ⟨⟨_, rfl, .same _ nn⟩, ⟨_, rfl, .slE rfl (by rw [manyV_succ]; simp)⟩, ⟨_, rfl, .w64 (by omega) ⟨by omega, by omega⟩⟩, trivial⟩) (by omega)
  · have hk' : k = n := by simp at h; omega
    subst hk'
    conv => whnf
    exact fin_cv (.fz' rfl rfl (by rw [encVs_length]; omega) (by rw [← encVs_length]; simp) nns) ⟨rfl, rfl, rfl⟩

/-- 'Next', used where the generator lies in a block. -/
theorem gNextAt (g : Nat) {l : List Int} {i : Nat} (most : Int) (hi : i ≤ 4611686018427387904) (hm : most ≤ 4611686018427387904) (hp : 1 ≤ most) {mem : Mem} {nx : Nat} {K : AV → Mem → Nat → Prop} (hg : lk mem g = some (gB l i))
    (hk : ∀ k : Int, 0 ≤ k → k < most → dropK g mem fun rest => K (.int .i64 k) ((g, gB l (i + 1)) :: rest) nx) : ACalls Tryz.prog [] 11 [.ptr g 0 0, .int .i64 most] mem nx K := by
  refine ACalls.use1 nnΓ (gNext l i most hi hm) g hg (gNN l i) (.cons (.ptr g 0 0 0 (by simp [lk])) (.cons (.same _ (.int _ _)) .nil)) ?_
  rintro r m n ⟨k, rfl, h1, h2, rfl⟩
  exact ⟨_, rfl, .int _ _, gNN l (i + 1), hk k h1 (by omega)⟩

/-- What is said of 'Bent'. -/
def bentQ (v : Val) : AV → Mem → Nat → Prop := fun r m n => ∃ v', r = encV v' ∧ okV v' ∧ sizeV v' ≤ sizeV v + 2000 ∧ m = [] ∧ n = 0

theorem bentF {v : Val} {r : AV} {m : Mem} {n : Nat} (v' : Val) (h : Cv m [] r (encV v')) (h1 : okV v') (h2 : sizeV v' ≤ sizeV v + 2000) : Fini 0 (bentQ v) r m n :=
  fin_cv h ⟨v', rfl, h1, h2, rfl, rfl⟩

theorem rBent : ∀ (v : Val) (which by_ : Int), okV v → sizeV v ≤ 1000000 → i64 by_ → ACalls Tryz.prog [] 52 [encV v, .int .i64 which, .int .i64 by_] [] 0 (bentQ v)
  | .mk vk vn vs ks, which, by_, hv, hsz, hb => by
    have hv0 := hv
    simp only [okV] at hv
    obtain ⟨hv1, hv2, hv3, hv4, hv5⟩ := hv
    have hl := sizeL_len ks
    have hsz' : sizeL ks + 1 ≤ 1000000 := by simp only [sizeV] at hsz; omega
    have ih : ∀ a ∈ ks, ∀ which, ACalls Tryz.prog [] 52 [encV a, .int .i64 which, .int .i64 by_] [] 0 (bentQ a) := fun a hm which => rBent a which by_ (okVs_mem hv5 a hm) (by have := sizeV_mem hm; omega) hb
    refine acalls_run nnΓ Tryz.func52 rfl ?_
    conv => whnf
    refine bcs_mk (fun h => ?_) (fun h => ?_)
    case' refine_1 =>
      have hpos : 0 < ks.length := by rw [encVs_length] at h; simpa using h
      rw [h]
      conv => whnf
      refine ACalls.pre nnΓ [(3, 3), (1, 1), (0, 0)] (mem' := [(3, gB [which, IntKind.i64.wrap (which.tdiv 7), IntKind.i64.wrap (which.tdiv 49)] 0), (1, .row 33 4 [.agg [.int .i64 0, .int .i64 0, .str [], .nsl]]), (0, .row 33 4 [encV (.mk vk vn vs ks)])]) rfl
        ⟨⟨3, _, rfl, rfl, .cons (.agg (.cons (.fz' rfl rfl (by simp) rfl nns) (.cons (.int rfl) .nil))) .nil⟩, ⟨1, _, rfl, rfl, .same nns⟩, ⟨0, _, rfl, rfl, .same nns⟩, trivial⟩ (.cons (.ptr 3 3 0 0 rfl) (.cons (.same _ nn) .nil)) ?_
      refine gNextAt 3 2 (by omega) (by omega) (by omega) rfl fun k h1 h2 => ?_
      conv => whnf
      refine bcs_mk (fun hk => ?_) (fun hk => ?_)
      · conv => whnf
        refine gNextAt 3 _ (by omega) (by rw [encVs_length]; omega) (by rw [encVs_length]; omega) rfl fun j j1 j2 => ?_
        obtain ⟨q, rfl⟩ := Int.eq_ofNat_of_zero_le j1
        have hq : q < ks.length := by rw [encVs_length] at j2; omega
        obtain ⟨a, b, c, d, hm, hg, he, e1⟩ := enc_cases hq
        have hb1 : Nat.blt (q : Int).toNat (encVs ks).length = true := Nat.ble_eq_true_of_le (by rw [encVs_length]; simp; omega)
        have e2 : (encVs ks)[0 + (q : Int).toNat]? = some (encV (.mk a b c d)) := by rw [Nat.zero_add]; exact e1
        conv => whnf
        refine grd_mk (app_nil rfl (by rw [encVs_length]; omega)) ?_
        conv => whnf
        refine grd_mk hb1 ?_
        conv => whnf
        refine opt_mk e2 ?_
        conv => whnf
        refine opt_mk e2 ?_
        conv => whnf
        refine ACalls.go0 (ih _ hm _) ?_
        rintro r m n ⟨⟨a', b', c', d'⟩, rfl, o1, o2, rfl, rfl⟩
        refine ⟨_, .same _ nn, ?_⟩
        conv => whnf
        refine grd_mk hb1 ?_
        conv => whnf
        refine opt_mk e2 ?_
        conv => whnf
        refine opt_mk e2 ?_
        conv => whnf
        refine setK_iff.2 ?_
        conv => whnf
        have hset := sizeL_set (.mk a' b' c' d') hq
        rw [he] at hset
        refine bentF (.mk vk vn vs (ks.set q (.mk a' b' c' d'))) (.agg' (.cons (.same _ nn) (.cons (.same _ nn) (.cons (.same _ nn) (.cons (.fzR rfl rfl (.eq nns ?_) ?_) .nil)))))
          (okV_list hv1 hv2 hv3 (by simpa using hv4) (okVs_set hv5 o1)) (by simp only [sizeV] at hset o2 ⊢; omega)
        · rw [encVs_set, Nat.zero_add, Int.toNat_natCast]; rfl
        · simp [encVs_length]
      conv => whnf
      refine gNextAt 3 7 (by omega) (by omega) (by omega) rfl fun k7 h3 h4 => ?_
    case' refine_2 =>
      rw [h]
      conv => whnf
      refine ACalls.pre nnΓ [(3, 3), (1, 1), (0, 0)] (mem' := [(3, gB [which, IntKind.i64.wrap (which.tdiv 7), IntKind.i64.wrap (which.tdiv 49)] 0), (1, .row 33 4 [.agg [.int .i64 0, .int .i64 0, .str [], .nsl]]), (0, .row 33 4 [encV (.mk vk vn vs ks)])]) rfl
        ⟨⟨3, _, rfl, rfl, .cons (.agg (.cons (.fz' rfl rfl (by simp) rfl nns) (.cons (.int rfl) .nil))) .nil⟩, ⟨1, _, rfl, rfl, .same nns⟩, ⟨0, _, rfl, rfl, .same nns⟩, trivial⟩ (.cons (.ptr 3 3 0 0 rfl) (.cons (.same _ nn) .nil)) ?_
      refine gNextAt 3 7 (by omega) (by omega) (by omega) rfl fun k7 h3 h4 => ?_
    all_goals
      rcases (show k7 = 0 ∨ k7 = 1 ∨ k7 = 2 ∨ k7 = 3 ∨ k7 = 4 ∨ k7 = 5 ∨ k7 = 6 by omega) with rfl | rfl | rfl | rfl | rfl | rfl | rfl
      · conv => whnf
        exact bentF (.mk by_ vn vs ks) (.same _ nn) (okV_list hb hv2 hv3 hv4 hv5) (by simp only [sizeV]; omega)
      · conv => whnf
        exact bentF (.mk vk by_ vs ks) (.same _ nn) (okV_list hv1 hb hv3 hv4 hv5) (by simp only [sizeV]; omega)
      · conv => whnf
        refine ACalls.pre nnΓ [(6, 6), (4, 4), (1, 1), (0, 0)] (mem' := [(6, gB [by_] 0), (4, .row 9 1 [.str [], .str [97], .str [90], .str [65, 66, 67, 68, 69, 70, 71, 72, 73, 74, 75, 76, 77, 78, 79, 80], .str [65, 66, 67, 68, 69, 70, 71, 72, 73, 74, 75, 76, 77, 78, 79, 80, 81], .str [65, 45], .str [65, 98, 57, 95]]), (1, .row 33 4 [.agg [.int .i64 0, .int .i64 0, .str [], .nsl]]), (0, .row 33 4 [encV (.mk vk vn vs ks)])]) rfl
          ⟨⟨6, _, rfl, rfl, .cons (.agg (.cons (.fz' rfl rfl (by simp) rfl nns) (.cons (.int rfl) .nil))) .nil⟩, ⟨4, _, rfl, rfl, .same nns⟩, ⟨1, _, rfl, rfl, .same nns⟩, ⟨0, _, rfl, rfl, .same nns⟩, trivial⟩ (.cons (.ptr 6 6 0 0 rfl) (.cons (.same _ nn) .nil)) ?_
        refine gNextAt 6 7 (by omega) (by omega) (by omega) rfl fun s s1 s2 => ?_
        rcases (show s = 0 ∨ s = 1 ∨ s = 2 ∨ s = 3 ∨ s = 4 ∨ s = 5 ∨ s = 6 by omega) with rfl | rfl | rfl | rfl | rfl | rfl | rfl
        all_goals
          conv => whnf
          exact bentF (.mk vk vn _ ks) (.same _ nn) (okV_list hv1 hv2 (by simp) hv4 hv5) (by simp only [sizeV]; omega)
      · conv => whnf
        refine grd_mk (app_ok rfl rfl (by simp) (by rw [encVs_length]; omega)) ?_
        conv => whnf
        refine bentF (.mk vk vn vs (.mk 0 by_ [] [] :: ks)) (.agg' (.cons (.same _ nn) (.cons (.same _ nn) (.cons (.same _ nn) (.cons (.fzR rfl rfl (.cons (cvVal _ _ _) (.same nns)) ?_) .nil))))) (okV_list hv1 hv2 hv3 (by simp; omega) ⟨okV_leaf ⟨by omega, by omega⟩ hb, hv5⟩) (by simp only [sizeV, sizeL]; omega)
        simp [encVs_length]; omega
      · conv => whnf
        refine ACalls.pre nnΓ [(5, 5), (1, 1), (0, 0)] (mem' := [(5, gB [by_] 0), (1, .row 33 4 [.agg [.int .i64 0, .int .i64 0, .str [], .nsl]]), (0, .row 33 4 [encV (.mk vk vn vs ks)])]) rfl
          ⟨⟨5, _, rfl, rfl, .cons (.agg (.cons (.fz' rfl rfl (by simp) rfl nns) (.cons (.int rfl) .nil))) .nil⟩, ⟨1, _, rfl, rfl, .same nns⟩, ⟨0, _, rfl, rfl, .same nns⟩, trivial⟩ (.cons (.ptr 5 5 0 0 rfl) (.cons (.same _ nn) .nil)) ?_
        refine gNextAt 5 6 (by omega) (by omega) (by omega) rfl fun s s1 s2 => ?_
        conv => whnf
        have hw : IntKind.i64.wrap (253 + s) = ((253 + s.toNat : Nat) : Int) := w64 (by omega) ⟨by omega, by omega⟩
        rw [hw]
        refine (rMany (253 + s.toNat) (by omega)).go ?_
        conv => whnf
        exact bentF (.mk 2 0 [] (manyV (253 + s.toNat))) (.same _ nn) (okV_list ⟨by omega, by omega⟩ ⟨by omega, by omega⟩ (by simp) (by rw [manyV_length]; omega) (manyV_ok _)) (by simp only [sizeV, manyV_size]; omega)
      · conv => whnf
        refine ACalls.pre nnΓ [(5, 5), (1, 1), (0, 0)] (mem' := [(5, gB [by_] 0), (1, .row 33 4 [.agg [.int .i64 0, .int .i64 0, .str [], .nsl]]), (0, .row 33 4 [encV (.mk vk vn vs ks)])]) rfl
          ⟨⟨5, _, rfl, rfl, .cons (.agg (.cons (.fz' rfl rfl (by simp) rfl nns) (.cons (.int rfl) .nil))) .nil⟩, ⟨1, _, rfl, rfl, .same nns⟩, ⟨0, _, rfl, rfl, .same nns⟩, trivial⟩ (.cons (.ptr 5 5 0 0 rfl) (.cons (.same _ nn) .nil)) ?_
        refine gNextAt 5 5 (by omega) (by omega) (by omega) rfl fun s s1 s2 => ?_
        conv => whnf
        have hw : IntKind.i64.wrap (14 + s) = ((14 + s.toNat : Nat) : Int) := w64 (by omega) ⟨by omega, by omega⟩
        rw [hw]
        refine (rMany (14 + s.toNat) (by omega)).go ?_
        conv => whnf
        exact bentF (.mk 3 0 [77] (manyV (14 + s.toNat))) (.same _ nn) (okV_list ⟨by omega, by omega⟩ ⟨by omega, by omega⟩ (by simp) (by rw [manyV_length]; omega) (manyV_ok _)) (by simp only [sizeV, manyV_size]; omega)
      · conv => whnf
        refine (rMany 250 (by omega)).go ?_
        conv => whnf
        refine (rMany 255 (by omega)).go ?_
        conv => whnf
        refine (rMany 256 (by omega)).go ?_
        conv => whnf
        refine ACalls.pre nnΓ [(5, 5), (1, 1), (0, 0)] (mem' := [(5, gB [by_] 0), (1, .row 33 4 [.agg [.int .i64 0, .int .i64 0, .str [], .nsl]]), (0, .row 33 4 [encV (.mk vk vn vs ks)])]) rfl
          ⟨⟨5, _, rfl, rfl, .cons (.agg (.cons (.fz' rfl rfl (by simp) rfl nns) (.cons (.int rfl) .nil))) .nil⟩, ⟨1, _, rfl, rfl, .same nns⟩, ⟨0, _, rfl, rfl, .same nns⟩, trivial⟩ (.cons (.ptr 5 5 0 0 rfl) (.cons (.same _ nn) .nil)) ?_
        refine gNextAt 5 5 (by omega) (by omega) (by omega) rfl fun s s1 s2 => ?_
        conv => whnf
        have hw : IntKind.i64.wrap (252 + s) = ((252 + s.toNat : Nat) : Int) := w64 (by omega) ⟨by omega, by omega⟩
        rw [hw]
        refine (rMany (252 + s.toNat) (by omega)).go ?_
        conv => whnf
        refine bentF (.mk 2 0 [] [.mk 2 0 [] (manyV 250), .mk 2 0 [] (manyV 255), .mk 2 0 [] (manyV 256), .mk 2 0 [] (manyV (252 + s.toNat)), .mk 0 by_ [] [], .mk 0 1 [] []])
          (.agg' (.cons (.same _ nn) (.cons (.same _ nn) (.cons (.same _ nn) (.cons (.fzR rfl rfl (.cons (CvE.same (x := encV (.mk 2 0 [] (manyV 250))) nn) (.cons (CvE.same (x := encV (.mk 2 0 [] (manyV 255))) nn) (.cons (CvE.same (x := encV (.mk 2 0 [] (manyV 256))) nn) (.cons (CvE.same (x := encV (.mk 2 0 [] (manyV (252 + s.toNat)))) nn) (.cons (cvVal _ _ _) (.cons (cvVal _ _ _) .nil)))))) rfl) .nil)))))
          ?_ (by simp only [sizeV, sizeL, manyV_size]; omega)
        have hz : i64 0 := ⟨by omega, by omega⟩
        have h2 : i64 2 := ⟨by omega, by omega⟩
        have hmany : ∀ n : Nat, n ≤ 4294967296 → okV (.mk 2 0 [] (manyV n)) := fun n hn => okV_list h2 hz (by simp) (by rw [manyV_length]; omega) (manyV_ok _)
        exact okV_list h2 hz (by simp) (by simp) ⟨hmany _ (by omega), hmany _ (by omega), hmany _ (by omega), hmany _ (by omega), okV_leaf hz hb, okV_leaf hz ⟨by omega, by omega⟩, trivial⟩
  termination_by v => SizeOf.sizeOf v
  decreasing_by simp; have := List.sizeOf_lt_of_mem hm; omega

/-- 'refuterlaw10.some'. -/
theorem rSome (l : List Int) (bent by_ : Int) (hb : i64 by_) : ACalls Tryz.prog [] 15 [.il 1 (encI l), .int .i64 bent, .int .i64 by_] [] 0 fun r m n => ∃ v', r = encV v' ∧ okV v' ∧ sizeV v' ≤ 10000 ∧ (bent ≤ 0 → genV 3 v') ∧ m = [] ∧ n = 0 := by
  refine acalls_run nnΓ Tryz.func15 rfl ?_
  conv => whnf
  refine ACalls.use1 nnΓ (gValue l 3 0 (by omega) (by decide)) 1 rfl (gNN l 0) (.cons (.ptr 1 0 0 0 rfl) (.cons (.same _ nn) .nil)) ?_
  rintro r m n ⟨⟨a, b, c, d⟩, j, rfl, hv, g1, g2, rfl⟩
  have hok := genV_ok hv
  have hsz := genV_size hv
  refine ⟨_, rfl, nn, gNN l j, ?_⟩
  conv => whnf
  refine bcs_mk (fun h => ?_) (fun h => ?_)
  · have h : 0 < bent := by simpa using h
    conv => whnf
    refine ACalls.go0 (rBent (.mk a b c d) bent by_ hok (by omega) hb) ?_
    rintro r m n ⟨⟨a', b', c', d'⟩, rfl, o1, o2, rfl, rfl⟩
    refine ⟨_, .same _ nn, ?_⟩
    conv => whnf
    exact fin_pure nn ⟨_, rfl, o1, by omega, fun h' => by omega, rfl, rfl⟩
  · conv => whnf
    exact fin_pure nn ⟨_, rfl, hok, by omega, fun _ => hv, rfl, rfl⟩
end Go.Proofs.YtfnhkfdjhmgjbaaGreatDoor

namespace Go.Proofs.YtfnhkfdjhmgjbaaGreatDoor
open Go Go.Ax Go.Proofs
set_option linter.unusedVariables false
set_option maxRecDepth 100000
set_option maxHeartbeats 4000000

theorem lawTextsW (l : List Int) (bent by_ : Int) (_ : ∀ x ∈ l, i64 x) (_ : i64 bent) (hb : i64 by_) : PureC Tryz.prog gz 4 [.il 1 (encI l), .int .i64 bent, .int .i64 by_] (.bool true) := by
  refine acalls_go nngz Tryz.func4 rfl ?_
  have h0 : i64 0 := ⟨by omega, by omega⟩
  ((conv => whnf); repeat ((first | refine AWp.many ?_ | refine AOps.many ?_ | refine ADr.go ?_); conv => whnf))
  refine ACalls.goG0 (rSome l 0 0 h0) ?_
  rintro r m' n' ⟨⟨a1, a2, a3, a4⟩, rfl, oa, sa, -, rfl, rfl⟩
  refine ⟨_, .same _ nn, ?_⟩
  ((conv => whnf); repeat ((first | refine AWp.many ?_ | refine AOps.many ?_ | refine ADr.go ?_); conv => whnf))
  refine ACalls.goG0 (rSome l bent by_ hb) ?_
  rintro r m' n' ⟨⟨b1, b2, b3, b4⟩, rfl, ob, sb, -, rfl, rfl⟩
  refine ⟨_, .same _ nn, ?_⟩
  ((conv => whnf); repeat ((first | refine AWp.many ?_ | refine AOps.many ?_ | refine ADr.go ?_); conv => whnf))
  obtain ⟨vs, hvs⟩ : ∃ vs, vs = [Val.mk a1 a2 a3 a4, Val.mk b1 b2 b3 b4] := ⟨_, rfl⟩
  have hl2 : vs.length = 2 := by rw [hvs]; rfl
  have hok : ∀ v ∈ vs, okV v ∧ sizeV v ≤ 10000 := by
    intro v hv
    rw [hvs] at hv
    simp only [List.mem_cons, List.not_mem_nil, or_false] at hv
    rcases hv with rfl | rfl
    · exact ⟨oa, by omega⟩
    · exact ⟨ob, by omega⟩
  refine ALoop.at nngz (fun i : Nat => i ≤ 2) (fun i => ⟨[(7, .sl 0 0 2), (8, .int .i64 i)], [(0, .row 33 4 (encVs vs))], 1, 62⟩) (fun i => 2 - i) 0 [(0, 0)] (by simp)
    (conv_mk _ rfl ⟨⟨0, _, rfl, rfl, .eq nns (by rw [hvs]; rfl)⟩, trivial⟩ ⟨⟨_, rfl, .sl 0 0 0 2 rfl⟩, ⟨_, rfl, .same _ nn⟩, trivial⟩) ?_
  clear hvs oa ob
  intro i hi
  ((conv => whnf); repeat ((first | refine AWp.many ?_ | refine AOps.many ?_ | refine ADr.go ?_); conv => whnf))
  refine bcs_mk (fun h => ?_) (fun h => ?_)
  · have hi2 : i < 2 := by simp at h; omega
    obtain ⟨x1, x2, x3, x4, xm, xg, -, ex, bx⟩ := enc_own (l := vs) (k := i) (n := 2) (by omega) hl2
    obtain ⟨ox, sx⟩ := hok _ xm
    have hP := vPrint (.mk x1 x2 x3 x4) ox (by omega)
    have hV := rValid (.mk x1 x2 x3 x4) ox (by omega)
    obtain ⟨e, he⟩ : ∃ e, e = validV (.mk x1 x2 x3 x4) := ⟨_, rfl⟩
    rw [← he] at hP hV
    ((conv => whnf); repeat ((first | refine AWp.many ?_ | refine AOps.many ?_ | refine ADr.go ?_); conv => whnf))
    repeat (first | (refine grd_mk bx ?_; ((conv => whnf); repeat ((first | refine AWp.many ?_ | refine AOps.many ?_ | refine ADr.go ?_); conv => whnf))) | (refine opt_mk ex ?_; ((conv => whnf); repeat ((first | refine AWp.many ?_ | refine AOps.many ?_ | refine ADr.go ?_); conv => whnf))))
    by_cases e0 : e = 0
    · rw [e0] at hV
      rw [if_pos e0] at hP
      have hv0 : validV (.mk x1 x2 x3 x4) = 0 := by rw [← he, e0]
      have hf := (valid_fits hv0).1
      have hPr := rPrint _ ox hf (by omega)
      have hpl := print_len _ ox hf
      have hpp := parse_print ox hv0
      have hPa := vParse (printV (.mk x1 x2 x3 x4)) (by omega)
      have hE := rEqual (.mk x1 x2 x3 x4) (.mk x1 x2 x3 x4) ox
      rw [eqV_self] at hE
      generalize printV (.mk x1 x2 x3 x4) = w at hP hPr hpl hPa hpp
      refine hP.use nngz nns nn ?_
      ((conv => whnf); repeat ((first | refine AWp.many ?_ | refine AOps.many ?_ | refine ADr.go ?_); conv => whnf))
      repeat (first | (refine grd_mk bx ?_; ((conv => whnf); repeat ((first | refine AWp.many ?_ | refine AOps.many ?_ | refine ADr.go ?_); conv => whnf))) | (refine opt_mk ex ?_; ((conv => whnf); repeat ((first | refine AWp.many ?_ | refine AOps.many ?_ | refine ADr.go ?_); conv => whnf))))
      refine hV.goG ?_
      ((conv => whnf); repeat ((first | refine AWp.many ?_ | refine AOps.many ?_ | refine ADr.go ?_); conv => whnf))
      refine ACalls.call0 nngz hPa nns ?_
      rintro r m' n' ⟨⟨v1, v2, v3, v4⟩, f, rfl, rfl, rfl, hv⟩
      refine ⟨_, .same _ nn, ?_⟩
      rcases hv with ⟨rfl, ov, sv, vv, pv⟩ | ⟨rfl, hz, hno⟩
      · rw [hpp] at pv
        obtain ⟨rfl, rfl, rfl, rfl⟩ : x1 = v1 ∧ x2 = v2 ∧ x3 = v3 ∧ x4 = v4 := by simp at pv; exact ⟨pv.1.1, pv.1.2.1, pv.1.2.2.1, pv.1.2.2.2⟩
        have hne : (w == w) = true := by simp
        ((conv => whnf); repeat ((first | refine AWp.many ?_ | refine AOps.many ?_ | refine ADr.go ?_); conv => whnf))
        repeat (first | (refine ⟨rfl, ?_⟩; ((conv => whnf); repeat ((first | refine AWp.many ?_ | refine AOps.many ?_ | refine ADr.go ?_); conv => whnf))) | (refine grd_mk bx ?_; ((conv => whnf); repeat ((first | refine AWp.many ?_ | refine AOps.many ?_ | refine ADr.go ?_); conv => whnf))) | (refine opt_mk ex ?_; ((conv => whnf); repeat ((first | refine AWp.many ?_ | refine AOps.many ?_ | refine ADr.go ?_); conv => whnf))))
        refine hPr.goG ?_
        ((conv => whnf); repeat ((first | refine AWp.many ?_ | refine AOps.many ?_ | refine ADr.go ?_); conv => whnf))
        repeat (first | (refine ⟨rfl, ?_⟩; ((conv => whnf); repeat ((first | refine AWp.many ?_ | refine AOps.many ?_ | refine ADr.go ?_); conv => whnf))) | (refine grd_mk bx ?_; ((conv => whnf); repeat ((first | refine AWp.many ?_ | refine AOps.many ?_ | refine ADr.go ?_); conv => whnf))) | (refine opt_mk ex ?_; ((conv => whnf); repeat ((first | refine AWp.many ?_ | refine AOps.many ?_ | refine ADr.go ?_); conv => whnf))))
        rw [hne]
        ((conv => whnf); repeat ((first | refine AWp.many ?_ | refine AOps.many ?_ | refine ADr.go ?_); conv => whnf))
        repeat (first | (refine ⟨rfl, ?_⟩; ((conv => whnf); repeat ((first | refine AWp.many ?_ | refine AOps.many ?_ | refine ADr.go ?_); conv => whnf))) | (refine grd_mk bx ?_; ((conv => whnf); repeat ((first | refine AWp.many ?_ | refine AOps.many ?_ | refine ADr.go ?_); conv => whnf))) | (refine opt_mk ex ?_; ((conv => whnf); repeat ((first | refine AWp.many ?_ | refine AOps.many ?_ | refine ADr.go ?_); conv => whnf))))
        refine hE.goG ?_
        ((conv => whnf); repeat ((first | refine AWp.many ?_ | refine AOps.many ?_ | refine ADr.go ?_); conv => whnf))
        repeat (first | (refine ⟨rfl, ?_⟩; ((conv => whnf); repeat ((first | refine AWp.many ?_ | refine AOps.many ?_ | refine ADr.go ?_); conv => whnf))) | (refine grd_mk bx ?_; ((conv => whnf); repeat ((first | refine AWp.many ?_ | refine AOps.many ?_ | refine ADr.go ?_); conv => whnf))) | (refine opt_mk ex ?_; ((conv => whnf); repeat ((first | refine AWp.many ?_ | refine AOps.many ?_ | refine ADr.go ?_); conv => whnf))))
        exact .mk (i + 1) [(0, 0)] (by omega) (conv_mk _ rfl ⟨⟨0, _, rfl, rfl, .same nns⟩, trivial⟩ ⟨⟨_, rfl, .sl 0 0 0 2 rfl⟩, ⟨_, rfl, .w64 (by omega) ⟨by omega, by omega⟩⟩, trivial⟩) (by omega)
      · exact absurd hpp (hno _ hv0 _)
    · rw [if_neg e0] at hP
      have d1 : (e != 0) = true := by simpa using e0
      refine hP.use nngz nns nn ?_
      ((conv => whnf); repeat ((first | refine AWp.many ?_ | refine AOps.many ?_ | refine ADr.go ?_); conv => whnf))
      repeat (first | (refine grd_mk bx ?_; ((conv => whnf); repeat ((first | refine AWp.many ?_ | refine AOps.many ?_ | refine ADr.go ?_); conv => whnf))) | (refine opt_mk ex ?_; ((conv => whnf); repeat ((first | refine AWp.many ?_ | refine AOps.many ?_ | refine ADr.go ?_); conv => whnf))))
      refine hV.goG ?_
      ((conv => whnf); repeat ((first | refine AWp.many ?_ | refine AOps.many ?_ | refine ADr.go ?_); conv => whnf))
      rw [d1]
      ((conv => whnf); repeat ((first | refine AWp.many ?_ | refine AOps.many ?_ | refine ADr.go ?_); conv => whnf))
      exact .mk (i + 1) [(0, 0)] (by omega) (conv_mk _ rfl ⟨⟨0, _, rfl, rfl, .same nns⟩, trivial⟩ ⟨⟨_, rfl, .sl 0 0 0 2 rfl⟩, ⟨_, rfl, .w64 (by omega) ⟨by omega, by omega⟩⟩, trivial⟩) (by omega)
  · ((conv => whnf); repeat ((first | refine AWp.many ?_ | refine AOps.many ?_ | refine ADr.go ?_); conv => whnf))
    refine ACalls.call0 nngz (acalls_closed 60 (by rw [lives10]; trivial)) .nil ?_
    intro r m' n' hr
    rw [saysTrue_eq hr]
    refine ⟨_, .same _ (.bool true), ?_⟩
    ((conv => whnf); repeat ((first | refine AWp.many ?_ | refine AOps.many ?_ | refine ADr.go ?_); conv => whnf))
    exact fin_pure (.bool _) ⟨rfl, rfl, rfl⟩
end Go.Proofs.YtfnhkfdjhmgjbaaGreatDoor

/- For every input (a slice of ints, two ints), refuterlaw10.ValuesTexts returns true, and its arguments read behind the call as they read before (the card ValuesTextsCardSaid, the full form). Conditions: the package-level variables that the row lists hold, when the call begins, what the program's text lays (the card ties them to it); no bound on sizes. -/
namespace Go.Proofs.YtfnhkfdjhmgjbaaGreatDoor.ValuesTexts
open Go.ChangeShapes Go.WideShapes Go.ChangeAt Go.RowKit Go.Lib Go.Ax
set_option linter.unusedVariables false

theorem own : ownKnob Tryz.prog.godebug = none := by kernel_rfl
theorem laidOut : laidOutB Tryz.prog = true := by kernel_rfl
theorem cells3 : Tryz.prog.cellsOf 3 = 1 := by kernel_rfl
theorem cells8 : Tryz.prog.cellsOf 5 = 1 := by kernel_rfl
theorem gName : Tryz.prog.globalNamed "strconv.ErrSyntax" = some 0 := by kernel_rfl
theorem gNameR : Tryz.prog.globalNamed "strconv.ErrRange" = some 1 := by kernel_rfl
theorem gNameP : Tryz.prog.globalNamed "internal/strconv.uint64pow10" = some 2 := by kernel_rfl

theorem gType : (Tryz.prog.globals[0]?).map (·.type) = some 131 := by kernel_rfl
theorem gTypeR : (Tryz.prog.globals[1]?).map (·.type) = some 131 := by kernel_rfl
theorem gTypeP : (Tryz.prog.globals[2]?).map (·.type) = some 240 := by kernel_rfl
theorem star : "*" ++ "errors.errorString" = "*errors.errorString" := by decide
theorem named (u : TypeId) (h : Tryz.prog.typeName? 3 u = some "*errors.errorString") : u = 243 :=
  typeName_ptr_named (nm := "errors.errorString") (by rw [star]; kernel_rfl) (by kernel_rfl) (by decide) u (by rw [star]; exact h)
theorem cellsE : Tryz.prog.cellsOf 245 = 1 := by kernel_rfl
theorem cellsS : Tryz.prog.cellsOf 9 = 1 := by kernel_rfl
theorem cellsU : Tryz.prog.cellsOf 60 = 1 := by kernel_rfl
theorem cellsP : Tryz.prog.cellsOf 240 = 20 := by kernel_rfl
def pows : List Int := [1, 10, 100, 1000, 10000, 100000, 1000000, 10000000, 100000000, 1000000000, 10000000000, 100000000000, 1000000000000, 10000000000000, 100000000000000, 1000000000000000, 10000000000000000, 100000000000000000, 1000000000000000000, 10000000000000000000]

/-- What the row's list gives: the variables that are read. -/
theorem vars {W : World} (h : laidMetH Tryz.prog Rows.valuesTextsRow.laid W) : ∀ p ∈ gz, VR (fun _ => ⟨0, 0, 0⟩) (fun _ => False) (OX (fun _ => False) (fun _ => ⟨0, 0, 0⟩) []) W (.ip p.2) (.pointer (some ⟨p.1, 0, none⟩)) := by
  have h : laidMet Tryz.prog Rows.valuesTextsRow.laid W := h
  have h4 := h.tail.tail.tail.tail
  obtain ⟨a, s, hv, hc, hs, hz⟩ := laid_sentinel (tp := 243) (te := 245) (ts := 9) h4 gName gType Tryz.underlying131 named Tryz.underlying243 Tryz.underlying245 rfl rfl Tryz.underlying9 cellsE cellsS
  have hsp := laid_spot h4 gName hv Tryz.underlying243
  have h3 := h.tail.tail.tail
  obtain ⟨a', s', hv', hc', hs', hz'⟩ := laid_sentinel (tp := 243) (te := 245) (ts := 9) h3 gNameR gTypeR Tryz.underlying131 named Tryz.underlying243 Tryz.underlying245 rfl rfl Tryz.underlying9 cellsE cellsS
  have hsp' := laid_spot h3 gNameR hv' Tryz.underlying243
  have h2 := h.tail.tail
  have htab := tabIs_of_head (k := .u64) (zs := pows) gNameP gTypeP Tryz.underlying240 Tryz.underlying60 cellsU cellsP h2
  intro p hp
  simp only [gz, List.mem_cons, List.not_mem_nil, or_false] at hp
  rcases hp with rfl | rfl | rfl
  · exact vr_iface_var gName hv hsp
  · exact vr_iface_var gNameR hv' hsp'
  · exact vr_tab_var gNameP htab

set_option maxRecDepth 100000 in
/-- What the walk gives, for every argument. -/
theorem contract (H : Type) (enc : TypeId × Value → H) (W : World) (base : Nat) (args : Array Value) (ds gs : List (DataW H)) (before : List MemPlace)
    (hval : ∀ (j : Nat) t v, Tryz.f4.params[j]? = some t → args[j]? = some v → Value.okWide Tryz.prog W .any base t v)
    (hW : DataW.Whole enc Tryz.prog Tryz.f4.params.toList Rows.valuesTextsSpec.vars false W args.toList ds gs before) (hL : laidMetH Tryz.prog Rows.valuesTextsRow.laid W) :
    Calls Tryz.prog 4 args W fun e W' => ∃ v, e = .returned v ∧ Rows.valuesTextsSpec.post enc Tryz.prog Tryz.f4 false true false false W args v W' := by
  have hW' := hW
  obtain ⟨p, q, hA0, hV, rfl, hfz, hnd⟩ := hW
  have hA : DataW.TrodAll enc Tryz.prog W 0 (fun _ => true) true Tryz.f4.params.toList args.toList ds p := hA0
  rw [Tryz.params4] at hA hval
  obtain ⟨v0, vs0, d0, ds0, p0, q0, hargs, rfl, rfl, h0, r0⟩ := trodAll_cons hA
  obtain ⟨v1, vs1, d1, ds1, p1, q1, rfl, rfl, rfl, h1, r1⟩ := trodAll_cons r0
  obtain ⟨v2, vs2, d2, ds2, p2, q2, rfl, rfl, rfl, h2, r2⟩ := trodAll_cons r1
  obtain ⟨rfl, rfl, rfl⟩ := trodAll_nil r2
  obtain rfl : args = #[v0, v1, v2] := by cases args; simp_all
  obtain ⟨rfl, rfl⟩ := trodVars_none hV
  have h0k := h0
  obtain ⟨x0, b0, e0⟩ := vr_ints_of Tryz.underlying22 Tryz.underlying3 cells3 (hval 0 22 v0 rfl rfl) h0
  have h1k := h1
  obtain ⟨x1, rfl, rfl, rfl, hwf1⟩ := open_int Tryz.underlying3 (hval 1 3 v1 rfl rfl) h1
  have b1 : i64 x1 := by
    have e1 : IntKind.i64.min = -9223372036854775808 := rfl
    have e2 : IntKind.i64.max = 9223372036854775807 := rfl
    simp [Lit.wf, e1, e2] at hwf1
    unfold i64
    omega
  have h2k := h2
  obtain ⟨x2, rfl, rfl, rfl, hwf2⟩ := open_int Tryz.underlying3 (hval 2 3 v2 rfl rfl) h2
  have b2 : i64 x2 := by
    have e1 : IntKind.i64.min = -9223372036854775808 := rfl
    have e2 : IntKind.i64.max = 9223372036854775807 := rfl
    simp [Lit.wf, e1, e2] at hwf2
    unfold i64
    omega
  clear hA0
  refine ((lawTextsW x0 x1 x2 b0 b1 b2).callsG W [v0, .int .i64 x1, .int .i64 x2] (vars hL) (.cons e0 (.cons (.int _ _) (.cons (.int _ _) .nil)))).mono ?_
  rintro e W' ⟨rfl, hk⟩
  refine ⟨_, rfl, _, _, _, [], p0 ++ ([] ++ ([] ++ [])), [], hW', ?_, ?_, ?_, hk.frame _, fun h => by cases h⟩
  · exact trodAll_cons_mk (shut_bool Tryz.underlying4 _) trodAll_mk0
  · exact trodAll_cons_mk (Kept.trod laidOut (by kernel_rfl) (of_decide_eq_true (by kernel_rfl)) h0k hk) (trodAll_cons_mk (Kept.trod laidOut (by kernel_rfl) (of_decide_eq_true (by kernel_rfl)) h1k hk) (trodAll_cons_mk (Kept.trod laidOut (by kernel_rfl) (of_decide_eq_true (by kernel_rfl)) h2k hk) trodAll_mk0))
  · rfl

/-- A world for the witness: the settled one with two blocks more (the two errors' structs), the five variables holding what their initialisers lay. -/
noncomputable def laidWorld (os : Os) : World :=
  let N := (World.settled Tryz.prog os).heap.size
  let w0 := World.holding Tryz.prog os ⟨#[
    .cells #[.string ⟨#[105, 110, 118, 97, 108, 105, 100, 32, 115, 121, 110, 116, 97, 120]⟩] 245,
    .cells #[.string ⟨#[118, 97, 108, 117, 101, 32, 111, 117, 116, 32, 111, 102, 32, 114, 97, 110, 103, 101]⟩] 245], #[], []⟩
  let put (h : Array Obj) (g : Nat) (cs : Array Value) : Array Obj := h.modify g fun
    | .cells _ t frozen => .cells cs t frozen
    | o => o
  let nums (d : DataW Unit) : Array Value := match d with
    | .agg ds => (ds.map fun
      | .lit (.int k n) => Value.int k n
      | _ => .bool false).toArray
    | _ => #[]
  let h0 := put (put w0.heap 0 #[.iface 243 (.pointer (some ⟨N, 0, none⟩))]) 1 #[.iface 243 (.pointer (some ⟨N + 1, 0, none⟩))]
  let h1 := put h0 2 (nums Rows.laid_internal_strconv_uint64pow10)
  let h2 := put h1 3 (nums Rows.laid_math_bits_deBruijn32tab)
  let h3 := put h2 4 (nums Rows.laid_math_bits_deBruijn64tab)
  { w0 with heap := h3 }
noncomputable abbrev N0 : Nat := (World.settled Tryz.prog default).heap.size
theorem laid_met (os : Os) (args : Array Value) : laidMet Tryz.prog Rows.valuesTextsRow.laid ((laidWorld os).forCall (fun _ _ => 0) ⟨#[], args, []⟩).memory :=
  (LaidIn.of_run (l := Rows.valuesTextsRow.laid) [0, 1, 2, 3, 4, N0, N0 + 1] 8 (by kernel_rfl) (by kernel_rfl) (by kernel_rfl) (by kernel_rfl)).met

noncomputable abbrev wargs : Array Value := #[.slice none 0 0, .int .i64 0, .int .i64 0]
theorem reads (os : Os) {H : Type} (enc : TypeId × Value → H) : ∃ places, DataW.whole enc Tryz.prog ((laidWorld os).forCall (fun _ _ => 0) ⟨#[], wargs, []⟩).memory Tryz.f4.params.toList Rows.valuesTextsSpec.vars false wargs.toList 8 = some ([.nil, .lit (.int .i64 0), .lit (.int .i64 0)], [], places) :=
  ⟨[], by kernel_rfl⟩

set_option maxRecDepth 100000 in
theorem lifted (os : Os) (started : os.Started) (H : Type) (enc : TypeId × Value → H) (F : Stop.Interp) :
    ReturnsInHanded {} Tryz.checked os 4 .any ((OpenSpec.ofChange Rows.valuesTextsSpec).preRow enc Tryz.prog Tryz.f4 Rows.valuesTextsRow.domain false Rows.valuesTextsRow.laid) (((OpenSpec.ofChange Rows.valuesTextsSpec).at F).post enc Tryz.prog Tryz.f4 false true false false) := by
  obtain ⟨places, hx⟩ := reads os enc
  refine returnsInHanded_of_row (C := Tryz.checked) (s := OpenSpec.ofChange Rows.valuesTextsSpec) own started (by kernel_rfl) Tryz.func4
    (witness_row_atRef (enc := enc) (C := Tryz.checked) false (laidWorld os) wargs rfl (by kernel_rfl) (by kernel_rfl) (by kernel_rfl)
      (OpenSpec.preRow_of_cond 8 hx (by kernel_rfl) (fun k hk => by cases hk) (by kernel_rfl) (laid_met os _))) ?_
  intro W base args ds gs before hval hW _ _ _ hL _ _
  exact contract H enc W base args ds gs before hval hW hL

theorem said : Rows.ValuesTextsSaid :=
  OpenClaim.holds_of_cond 4 Tryz.f4 rfl rfl rfl rfl rfl rfl rfl ⟨rfl, rfl, rfl, rfl, rfl⟩ rfl rfl rfl rfl rfl (by kernel_rfl) Tryz.func4 (by kernel_rfl)
    (of_decide_eq_true (by kernel_rfl)) (by unfold Func.isWrapper; first | (rw [if_pos (by decide +kernel)]; kernel_rfl) | (rw [if_neg (by decide +kernel)]; exact ⟨rfl, rfl⟩))
    (fun os started H enc _ F => by rw [OpenClaim.pre_eq_preRow]; exact lifted os started H enc F)

theorem plain (f : FuncId) (fn : Func) (hf : Tryz.pinned.checked.prog.funcNamed "refuter/refuterlaw10.ValuesTexts" = some f) (hfn : Tryz.pinned.checked.prog.funcs[f]? = some fn) :
    true = Tryz.pinned.checked.prog.looks [] ∧ ∀ (j : Nat) t, fn.params[j]? = some t → Tryz.pinned.checked.prog.wantsStandIn t = false := by
  obtain rfl : f = 4 := Option.some.inj ((show Tryz.prog.funcNamed "refuter/refuterlaw10.ValuesTexts" = some 4 by kernel_rfl).symm.trans hf) |>.symm
  obtain rfl : fn = Tryz.f4 := (Option.some.inj (Tryz.func4.symm.trans hfn)).symm
  refine ⟨by kernel_rfl, fun j t ht => ?_⟩
  rw [Tryz.params4] at ht
  have hTI : Tryz.prog.wantsStandIn 22 = false := by kernel_rfl
  have hTi : Tryz.prog.wantsStandIn 3 = false := by kernel_rfl
  have hm := Array.mem_of_getElem? ht
  simp at hm
  repeat' (first | (rw [(hm : t = 22)]; exact hTI) | (rw [(hm : t = 3)]; exact hTi) | rcases hm with hm | hm)

/-- The card. -/
theorem card : Rows.ValuesTextsCardSaid :=
  Claim7.holds_tied_plain_at .later [] _ _ _ _ said (fun _ h => by cases h) (by kernel_rfl) (fun _ h => by cases h) valuesTexts_row_tie rfl ⟨rfl, rfl⟩ (by kernel_rfl) rfl plain (by kernel_rfl)
end Go.Proofs.YtfnhkfdjhmgjbaaGreatDoor.ValuesTexts
