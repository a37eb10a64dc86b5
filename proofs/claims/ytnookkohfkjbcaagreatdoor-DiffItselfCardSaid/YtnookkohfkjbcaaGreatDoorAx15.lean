/- A part of the proof. -/
import Derived.Test.YtnookkohfkjbcaaGreatDoorAx14
set_option linter.unusedVariables false
namespace Go.Proofs.YtnookkohfkjbcaaGreatDoor
open Go Go.Ax Go.Proofs
set_option maxRecDepth 100000
set_option maxHeartbeats 4000000
theorem nngz : ∀ p ∈ gz, NN p.2 := fun p hp => by
 simp only [gz, List.mem_cons, List.not_mem_nil, or_false] at hp
 rcases hp with rfl | rfl | rfl
 ·exact nn
 ·exact nn
 ·exact nn
theorem sLen64 (u : Nat) (h : u < 18446744073709551616) : PureC Tryz.prog [] 137 [.int .u64 u] (.int .i64 (Lib.bitLen u)) :=
 pureC_of (fun _ _ _ _ _ h => vrl_int h) fun w _ => (Tryz.bits_Len64 u w (by omega) (by omega)).mono fun e w' ⟨h1, h2⟩ => ⟨_, h1, fun _ _ _ _ => .int _ _, by rw [h2]; exact .refl w⟩
theorem sLog10 (x : Nat) (h : x ≤ 64) : PureC Tryz.prog [] 136 [.int .i64 x] (.int .i64 (Lib.l10 x)) :=
 pureC_of (fun _ _ _ _ _ h => vrl_int h) fun w _ => (Tryz.internal_strconv_log10Pow2 x h w).mono fun e w' ⟨h1, h2⟩ => ⟨_, h1, fun _ _ _ _ => .int _ _, by rw [h2]; exact .refl w⟩
theorem sSmall (i : Nat) (h : i < 100) : PureC Tryz.prog [] 124 [.int .i64 i] (.str (Lib.decDigits i)) :=
 pureC_of (fun _ _ _ _ _ h => vrl_int h) fun w _ => (Tryz.internal_strconv_small i h w).mono fun e w' ⟨h1, h2⟩ => ⟨_, h1, fun _ _ _ _ => .str _, by rw [h2]; exact .refl w⟩
theorem sBool2 (b : Bool) : PureC Tryz.prog [] 138 [.bool b] (.int .i64 (if b then 1 else 0)) := by
 cases b
 all_goals
  refine acalls_go nnΓ Tryz.func138 rfl ?_
  ((conv=>whnf);repeat(refine Xg ?_;conv=>whnf))
  exact fin_pure nn ⟨rfl, rfl, rfl⟩
theorem sFmt10 (t : TypeId) (xs : List UInt8) (u : Nat) (hu64 : u < 18446744073709551616) (hlen : 1 + Lib.nDigits u ≤ xs.length) (hxl : xs.length ≤ 1000) :
  ACalls Tryz.prog [] 126 [.sl 0 1 (Lib.nDigits u), .int .u64 u] [(0, .row t 1 (encB xs))] 1 fun r m n => r = .tup [] ∧ m = [(0, .row t 1 (encB (xs.take 1 ++ Lib.decDigits u ++ xs.drop (1 + Lib.nDigits u))))] :=
 fmt10 Tryz.internal_strconv_formatBase10 xs u hu64 hlen hxl
def tabP : List AV := [.int .u64 1, .int .u64 10, .int .u64 100, .int .u64 1000, .int .u64 10000, .int .u64 100000, .int .u64 1000000, .int .u64 10000000, .int .u64 100000000, .int .u64 1000000000, .int .u64 10000000000, .int .u64 100000000000, .int .u64 1000000000000, .int .u64 10000000000000, .int .u64 100000000000000, .int .u64 1000000000000000, .int .u64 10000000000000000, .int .u64 100000000000000000, .int .u64 1000000000000000000, .int .u64 10000000000000000000]
theorem tab_at (q : Nat) (h : q ≤ 19) : tabP[q]? = some (.int .u64 ((10 ^ q : Nat) : Int)) := by
 rcases (show q = 0 ∨ q = 1 ∨ q = 2 ∨ q = 3 ∨ q = 4 ∨ q = 5 ∨ q = 6 ∨ q = 7 ∨ q = 8 ∨ q = 9 ∨ q = 10 ∨ q = 11 ∨ q = 12 ∨ q = 13 ∨ q = 14 ∨ q = 15 ∨ q = 16 ∨ q = 17 ∨ q = 18 ∨ q = 19 by omega) with rfl | rfl | rfl | rfl | rfl | rfl | rfl | rfl | rfl | rfl | rfl | rfl | rfl | rfl | rfl | rfl | rfl | rfl | rfl | rfl <;> rfl
theorem sNumDigits (u : Nat) (h1 : 1 ≤ u) (h2 : u < 18446744073709551616) : PureC Tryz.prog gz 125 [.int .u64 u] (.int .i64 (Lib.nDigits u)) := by
 obtain ⟨e1, e2⟩ := Lib.numDigits_eq u h1 h2
 have hL := sLen64 u h2
 have hb : Lib.bitLen u ≤ 64 := Lib.bitLen_le u 64 (Nat.le_refl _) h2
 generalize Lib.bitLen u = L at *
 have hq := sLog10 L hb
 generalize Lib.l10 L = q at *
 generalize Lib.nDigits u = nd at *
 have htab := tab_at q e2
 refine acalls_go nngz Tryz.func125 rfl ?_
 ((conv=>whnf);repeat(refine Xg ?_;conv=>whnf))
 refine hL.goG ?_
 ((conv=>whnf);repeat(refine Xg ?_;conv=>whnf))
 refine hq.goG ?_
 ((conv=>whnf);repeat(refine Xg ?_;conv=>whnf))
 refine grd_mk (b := Nat.blt q 20) (Nat.ble_eq_true_of_le (by omega)) ?_
 ((conv=>whnf);repeat(refine Xg ?_;conv=>whnf))
 have htab' : tabP[((q : Int)).toNat * 1]? = some (.int .u64 ((10 ^ q : Nat) : Int)) := by simpa using htab
 clear htab
 have hpq : ∃ pq : Int, pq = ((10 ^ q : Nat) : Int) := ⟨_, rfl⟩
 obtain ⟨pq, hpq⟩ := hpq
 rw [← hpq] at htab'
 refine opt_mk htab' ?_
 ((conv=>whnf);repeat(refine Xg ?_;conv=>whnf))
 refine (sBool2 _).goG ?_
 ((conv=>whnf);repeat(refine Xg ?_;conv=>whnf))
 refine fin_pure nn ⟨?_, rfl, rfl⟩
 congr 1
 have hle : decide ((u : Int) ≥ pq) = decide (10 ^ q ≤ u) := by rw [hpq]; simp only [ge_iff_le, Int.ofNat_le]
 have hnd : nd ≤ 20 := by rw [← e1]; split <;> omega
 rw [hle, w64 (y := (nd : Int)) _ ⟨by omega, by omega⟩]
 rw [← e1]
 by_cases hc : 10 ^ q ≤ u <;> simp [hc]
theorem nDigits_le (u : Nat) (h2 : u < 18446744073709551616) : Lib.nDigits u ≤ 20 := by
 by_cases h1 : 1 ≤ u
 ·obtain ⟨e1, e2⟩ := Lib.numDigits_eq u h1 h2
  rw [← e1]
  split <;> omega
 ·rw [Lib.nDigits_small (by omega)]; omega
theorem u64_wrap (n : Int) : IntKind.u64.wrap n = n % 18446744073709551616 := by
 simp [IntKind.wrap, IntKind.bits, IntKind.signed]
theorem sFormatInt (n : Int) (hn : i64 n) : PureC Tryz.prog gz 105 [.int .i64 n, .int .i64 10] (.str (Lib.itoa n)) := by
 rcases (show (0 ≤ n ∧ n < 100) ∨ 100 ≤ n ∨ n < 0 by omega) with ⟨h0, h1⟩ | h1 | h1
 ·obtain ⟨i, rfl⟩ : ∃ i : Nat, n = i := ⟨n.toNat, by omega⟩
  have d2 : decide ((i : Int) < 100) = true := by simpa using h1
  refine acalls_go nngz Tryz.func105 rfl ?_
  ((conv=>whnf);repeat(refine Xg ?_;conv=>whnf))
  rw [d2]
  ((conv=>whnf);repeat(refine Xg ?_;conv=>whnf))
  refine (sSmall i (by omega)).goG ?_
  ((conv=>whnf);repeat(refine Xg ?_;conv=>whnf))
  refine fin_pure nn ⟨?_, rfl, rfl⟩
  rw [Lib.itoa_nonneg]
 ·obtain ⟨u, rfl⟩ : ∃ i : Nat, n = i := ⟨n.toNat, by omega⟩
  have d2 : decide ((u : Int) < 100) = false := by simp; omega
  have d3 : decide ((u : Int) < 0) = false := by simp
  unfold i64 at hn
  have hw : IntKind.u64.wrap (u : Int) = (u : Int) := by rw [u64_wrap]; omega
  have hu64 : u < 18446744073709551616 := by omega
  have hnd := nDigits_le u hu64
  have hF := (sFmt10 162 (List.replicate 24 0) u hu64 (by simp; omega) (by simp)).glob (Γ := gz)
  have hdl := Lib.decDigits_length u
  have hN := sNumDigits u (by omega) hu64
  have hdd : (Lib.decDigits u ++ List.drop (1 + Lib.nDigits u) (List.replicate 24 0)).length = 23 := by simp [hdl]; omega
  have hit := Lib.itoa_nonneg u
  generalize Lib.nDigits u = nd at hN hF hnd hdl hdd
  generalize Lib.decDigits u = ds at hF hdl hit hdd
  refine acalls_go nngz Tryz.func105 rfl ?_
  ((conv=>whnf);repeat(refine Xg ?_;conv=>whnf))
  rw [d2]
  ((conv=>whnf);repeat(refine Xg ?_;conv=>whnf))
  rw [hw]
  refine hN.use nngz nns nn ?_
  ((conv=>whnf);repeat(refine Xg ?_;conv=>whnf))
  rw [w64 (x := 1 + (nd : Int)) (y := ((1 + nd : Nat) : Int)) (by omega) ⟨by omega, by omega⟩]
  ((conv=>whnf);repeat(refine Xg ?_;conv=>whnf))
  refine grd_mk (sl_ok (by simp; omega) (by simp; omega) (by simp)) ?_
  ((conv=>whnf);repeat(refine Xg ?_;conv=>whnf))
  refine ACalls.useI nngz [0] hF (by rfl) (.cons (.slE rfl (by simp; omega)) (.cons (.same _ nn) .nil)) ⟨⟨0, _, rfl, rfl, .same (encB_nn _)⟩, trivial⟩ rfl ?_
  rintro r m n' ⟨rfl, rfl⟩
  refine ⟨nn, ⟨⟨0, _, rfl, rfl, .same (encB_nn _)⟩, trivial⟩, rfl, ?_⟩
  have hlist : List.take 1 (List.replicate 24 (0 : UInt8)) ++ ds ++ List.drop (1 + nd) (List.replicate 24 0) = 0 :: (ds ++ List.drop (1 + nd) (List.replicate 24 0)) := rfl
  rw [hlist]
  have htk : List.take nd (ds ++ List.drop (1 + nd) (List.replicate 24 0)) = ds := by rw [List.take_append_of_le_length (by omega), List.take_of_length_le (by omega)]
  generalize ds ++ List.drop (1 + nd) (List.replicate 24 0) = rest at hdd htk
  have hrl : (encB (0 :: rest)).length = 24 := by rw [encB_length]; simp [hdd]
  ((conv=>whnf);repeat(refine Xg ?_;conv=>whnf))
  refine grd_mk (by rw [Bool.and_eq_true]; exact ⟨rfl, Nat.ble_eq_true_of_le (by rw [hrl]; omega)⟩) ?_
  ((conv=>whnf);repeat(refine Xg ?_;conv=>whnf))
  rw [w64 (x := 1 + (nd : Int)) (y := ((1 + nd : Nat) : Int)) (by omega) ⟨by omega, by omega⟩]
  ((conv=>whnf);repeat(refine Xg ?_;conv=>whnf))
  refine grd_mk (sl_ok (by simp; omega) (by simp; omega) (by simp)) ?_
  ((conv=>whnf);repeat(refine Xg ?_;conv=>whnf))
  refine grd_mk (Nat.ble_eq_true_of_le (by rw [hrl]; simp; omega)) ?_
  refine opt_mk (a := ds) ?_ ?_
  ·rw [encB_drop, encB_take, toBytes_encB]
   show some (List.take ((((1 + nd : Nat) : Int)).toNat - 1) rest) = some ds
   rw [← htk]
   congr 2
   simp
   omega
  ((conv=>whnf);repeat(refine Xg ?_;conv=>whnf))
  refine fin_pure nn ⟨?_, rfl, rfl⟩
  rw [hit]
 ·obtain ⟨u, rfl⟩ : ∃ i : Nat, n = -(i : Int) := ⟨(-n).toNat, by omega⟩
  have d1 : decide (0 ≤ -(u : Int)) = false := by simp; omega
  have d3 : decide (-(u : Int) < 0) = true := by simp; omega
  unfold i64 at hn
  have hw : IntKind.u64.wrap (0 - IntKind.u64.wrap (-(u : Int))) = (u : Int) := by rw [u64_wrap, u64_wrap]; omega
  have hu64 : u < 18446744073709551616 := by omega
  have hnd := nDigits_le u hu64
  have hF := (sFmt10 162 (List.replicate 24 0) u hu64 (by simp; omega) (by simp)).glob (Γ := gz)
  have hdl := Lib.decDigits_length u
  have hN := sNumDigits u (by omega) hu64
  have hdd : (Lib.decDigits u ++ List.drop (1 + Lib.nDigits u) (List.replicate 24 0)).length = 23 := by simp [hdl]; omega
  have hit := Lib.itoa_neg u (by omega)
  generalize Lib.nDigits u = nd at hN hF hnd hdl hdd
  generalize Lib.decDigits u = ds at hF hdl hit hdd
  refine acalls_go nngz Tryz.func105 rfl ?_
  ((conv=>whnf);repeat(refine Xg ?_;conv=>whnf))
  rw [d1]
  ((conv=>whnf);repeat(refine Xg ?_;conv=>whnf))
  rw [d3]
  ((conv=>whnf);repeat(refine Xg ?_;conv=>whnf))
  rw [hw]
  refine hN.use nngz nns nn ?_
  ((conv=>whnf);repeat(refine Xg ?_;conv=>whnf))
  rw [w64 (x := 1 + (nd : Int)) (y := ((1 + nd : Nat) : Int)) (by omega) ⟨by omega, by omega⟩]
  ((conv=>whnf);repeat(refine Xg ?_;conv=>whnf))
  refine grd_mk (sl_ok (by simp; omega) (by simp; omega) (by simp)) ?_
  ((conv=>whnf);repeat(refine Xg ?_;conv=>whnf))
  refine ACalls.useI nngz [0] hF (by rfl) (.cons (.slE rfl (by simp; omega)) (.cons (.same _ nn) .nil)) ⟨⟨0, _, rfl, rfl, .same (encB_nn _)⟩, trivial⟩ rfl ?_
  rintro r m n' ⟨rfl, rfl⟩
  refine ⟨nn, ⟨⟨0, _, rfl, rfl, .same (encB_nn _)⟩, trivial⟩, rfl, ?_⟩
  have hlist : List.take 1 (List.replicate 24 (0 : UInt8)) ++ ds ++ List.drop (1 + nd) (List.replicate 24 0) = 0 :: (ds ++ List.drop (1 + nd) (List.replicate 24 0)) := rfl
  rw [hlist]
  have htk : List.take nd (ds ++ List.drop (1 + nd) (List.replicate 24 0)) = ds := by rw [List.take_append_of_le_length (by omega), List.take_of_length_le (by omega)]
  generalize ds ++ List.drop (1 + nd) (List.replicate 24 0) = rest at hdd htk
  have hrl : ∀ b, (encB (b :: rest)).length = 24 := fun b => by rw [encB_length]; simp [hdd]
  ((conv=>whnf);repeat(refine Xg ?_;conv=>whnf))
  rw [d3]
  ((conv=>whnf);repeat(refine Xg ?_;conv=>whnf))
  refine grd_mk (by rw [Bool.and_eq_true]; exact ⟨rfl, Nat.ble_eq_true_of_le (Nat.le_of_eq (hrl 45).symm)⟩) ?_
  ((conv=>whnf);repeat(refine Xg ?_;conv=>whnf))
  rw [w64 (x := 1 + (nd : Int)) (y := ((1 + nd : Nat) : Int)) (by omega) ⟨by omega, by omega⟩]
  ((conv=>whnf);repeat(refine Xg ?_;conv=>whnf))
  refine grd_mk (sl_ok (by simp) (by simp; omega) (by simp)) ?_
  ((conv=>whnf);repeat(refine Xg ?_;conv=>whnf))
  refine grd_mk (Nat.ble_eq_true_of_le (show _ ≤ (encB (45 :: rest)).length by rw [hrl]; simp; omega)) ?_
  refine opt_mk (a := 45 :: ds) (show toBytes (List.take ((((1 + nd : Nat) : Int)).toNat - 0) (List.drop (0 + 0) (encB (45 :: rest)))) = _ from ?_) ?_
  ·rw [encB_drop, encB_take, toBytes_encB]
   have e : (((1 + nd : Nat) : Int)).toNat - 0 = nd + 1 := by simp; omega
   rw [e]
   show some (45 :: List.take nd rest) = _
   rw [htk]
  ((conv=>whnf);repeat(refine Xg ?_;conv=>whnf))
  refine fin_pure nn ⟨?_, rfl, rfl⟩
  rw [hit]
theorem sItoaI (n : Int) (hn : i64 n) : PureC Tryz.prog gz 82 [.int .i64 n] (.str (Lib.itoa n)) := by
 have h := sFormatInt n hn
 generalize Lib.itoa n = r at h
 refine acalls_go nngz Tryz.func82 rfl ?_
 ((conv=>whnf);repeat(refine Xg ?_;conv=>whnf))
 refine h.use nngz nns nn ?_
 ((conv=>whnf);repeat(refine Xg ?_;conv=>whnf))
 exact fin_pure nn ⟨rfl, rfl, rfl⟩
theorem sItoa (n : Int) (hn : i64 n) : PureC Tryz.prog gz 50 [.int .i64 n] (.str (Lib.itoa n)) := by
 have h := sItoaI n hn
 generalize Lib.itoa n = r at h
 refine acalls_go nngz Tryz.func50 rfl ?_
 ((conv=>whnf);repeat(refine Xg ?_;conv=>whnf))
 refine h.use nngz nns nn ?_
 ((conv=>whnf);repeat(refine Xg ?_;conv=>whnf))
 exact fin_pure nn ⟨rfl, rfl, rfl⟩
theorem knows_err {g : Nat} {t : TypeId} {v : AV} {w : World} (h : Knows gz w) (hg : (g, AV.ifc t v) ∈ gz) : ∃ ev, w.cell? ⟨g, 0, none⟩ = some ev ∧ (ev = .nilIface ∨ ∃ te pe, ev = .iface te pe) := by
 obtain ⟨x, ρ, D, O, h1, h2⟩ := h _ hg 0 (.ifc t v) rfl
 cases h2 with
 | ifc _ _ y hy => exact ⟨_, h1, .inr ⟨_, _, rfl⟩⟩
theorem sAtoi (s : List UInt8) (hs : s.length ≤ 4294967296) :
  ∃ (n : Int) (e : AV), i64 n ∧ (e = .nif ∨ e = .ifc 154 .junk) ∧ PureC Tryz.prog gz 51 [.str s] (.tup [.int .i64 n, e]) ∧ (∀ m, Lib.atoiAll s = .ok m → n = m ∧ e = .nif) := by
 have hsz : (⟨s.toArray⟩ : ByteArray).size = s.length := by simp [ByteArray.size]
 have hd : (⟨s.toArray⟩ : ByteArray).data.toList = s := by simp
 cases h : Lib.atoiAll s with
 | ok v =>
  refine ⟨v, .nif, Lib.atoiAll_bounds h, .inl rfl, pureC_of (fun _ _ _ _ _ h => vrl_str h) fun w _ => ?_, fun m hm => ⟨by injection hm, rfl⟩⟩
  refine (Tryz.strconv_Atoi_ok ⟨s.toArray⟩ (by rw [hsz]; omega) v (by rw [hd]; exact h) w).mono ?_
  rintro e w' ⟨rfl, hw⟩
  refine ⟨_, rfl, fun _ _ _ _ => .tup _ _ rfl fun j c x h1 h2 => ?_, ?_⟩
  ·match j, h1, h2 with
   | 0, h1, h2 => simp at h1 h2; subst h1 h2; exact .int _ _
   | 1, h1, h2 => simp at h1 h2; subst h1 h2; exact .nif
   | j + 2, h1, h2 => simp at h1
  ·rcases hw with rfl | ⟨t, rfl⟩
   ·exact .refl _
   ·exact grown_bytes _ _ _
 | range =>
  refine ⟨Lib.atoiSat s, .ifc 154 .junk, Lib.atoiSat_bounds s, .inr rfl, pureC_of (fun _ _ _ _ _ h => vrl_str h) fun w hk => ?_, fun m hm => by cases hm⟩
  obtain ⟨ev, h1, h2⟩ := knows_err (g := 1) hk (.tail _ (.head _))
  have hc := Tryz.strconv_Atoi_range ⟨s.toArray⟩ (by rw [hsz]; omega) (by rw [hd]; exact h) ev w h1 h2
  rw [hd] at hc
  refine hc.mono ?_
  rintro e w' ⟨N, rfl, -, -, hb⟩
  refine ⟨_, rfl, fun _ _ _ _ => .tup _ _ rfl fun j c x h1 h2 => ?_, grown_below hb⟩
  match j, h1, h2 with
  | 0, h1, h2 => simp at h1 h2; subst h1 h2; exact .int _ _
  | 1, h1, h2 => simp at h1 h2; subst h1 h2; exact .ifc _ _ _ (.junk _)
  | j + 2, h1, h2 => simp at h1
 | _ =>
  refine ⟨0, .ifc 154 .junk, ⟨by omega, by omega⟩, .inr rfl, pureC_of (fun _ _ _ _ _ h => vrl_str h) fun w hk => ?_, fun m hm => by cases hm⟩
  obtain ⟨ev, h1, h2⟩ := knows_err (g := 0) hk (.head _)
  refine (Tryz.strconv_Atoi_syntax ⟨s.toArray⟩ (by rw [hsz]; omega) (by rw [hd]; exact h) ev w h1 h2).mono ?_
  rintro e w' ⟨N, rfl, -, -, hb⟩
  refine ⟨_, rfl, fun _ _ _ _ => .tup _ _ rfl fun j c x h1 h2 => ?_, grown_below hb⟩
  match j, h1, h2 with
  | 0, h1, h2 => simp at h1 h2; subst h1 h2; exact .int _ _
  | 1, h1, h2 => simp at h1 h2; subst h1 h2; exact .ifc _ _ _ (.junk _)
  | j + 2, h1, h2 => simp at h1
end Go.Proofs.YtnookkohfkjbcaaGreatDoor
namespace Go.Proofs.YtnookkohfkjbcaaGreatDoor
open Go Go.Ax Go.Proofs
set_option maxRecDepth 100000
set_option maxHeartbeats 4000000
def cI (n : Nat) : AB := .row 3 1 [.int .i64 n]
def cB (b : Bool) : AB := .row 4 1 [.bool b]
def cF (f : AV) : AB := .row 159 1 [f]
section
variable {mem : Mem} {σ : List (Nat × Nat)}
theorem cvFn1 {F : FuncId} {i : Nat} (h : lk σ i = some i) : CvR mem σ [.fn (.func F) [] [.ptr i 0 0]] [.fn (.func F) [] [.ptr i 0 0]] :=
 .cons (.one rfl rfl (.fn _ _ _ _ _ rfl rfl (by simp) (CvL.cons (.ptr i i 0 0 h) .nil).2)) .nil
theorem cvFn2 {F : FuncId} {i j : Nat} (h : lk σ i = some i) (h' : lk σ j = some j) : CvR mem σ [.fn (.func F) [] [.ptr i 0 0, .ptr j 0 0]] [.fn (.func F) [] [.ptr i 0 0, .ptr j 0 0]] :=
 .cons (.one rfl rfl (.fn _ _ _ _ _ rfl rfl (by simp) (CvL.cons (.ptr i i 0 0 h) (.cons (.ptr j j 0 0 h') .nil)).2)) .nil
theorem cvFn3 {F : FuncId} {i j k : Nat} (h : lk σ i = some i) (h' : lk σ j = some j) (h'' : lk σ k = some k) : CvR mem σ [.fn (.func F) [] [.ptr i 0 0, .ptr j 0 0, .ptr k 0 0]] [.fn (.func F) [] [.ptr i 0 0, .ptr j 0 0, .ptr k 0 0]] :=
 .cons (.one rfl rfl (.fn _ _ _ _ _ rfl rfl (by simp) (CvL.cons (.ptr i i 0 0 h) (.cons (.ptr j j 0 0 h') (.cons (.ptr k k 0 0 h'') .nil))).2)) .nil
end
def wMS (n : Nat) : Mem := [(0, cI n), (1, cF (.fn (.func 118) [] [.ptr 0 0 0])), (2, cF (.fn (.func 131) [] [.ptr 1 0 0, .ptr 2 0 0]))]
theorem visit1S (g : Nat → Nat → Nat) (hg : ∀ n d, g n d ≤ max (n + 1) d)
  (hsee : ∀ (v : Val) (d n : Nat), d ≤ 1099511627776 → n ≤ 4398046511104 → ACalls Tryz.prog [] 118 [encV v, .int .i64 d, .ptr 0 0 0] [(0, cI n)] 1 fun r m _ => r = .bool true ∧ m = [(0, cI (g n d))]) :
  ∀ (v : Val) (d n : Nat), d + depthV v ≤ 1099511627776 → max n (d + depthV v) + sizeV v ≤ 4398046511104 →
   ACalls Tryz.prog [] 131 [encV v, .int .i64 d, .ptr 1 0 0, .ptr 2 0 0] (wMS n) 3 fun r m _ => r = .bool true ∧ m = wMS (resV g v d n)
 | .mk vk vn vs ks, d, n, hd, hb => by
  have ih : ∀ a ∈ ks, ∀ (d n : Nat), d + depthV a ≤ 1099511627776 → max n (d + depthV a) + sizeV a ≤ 4398046511104 → ACalls Tryz.prog [] 131 [encV a, .int .i64 d, .ptr 1 0 0, .ptr 2 0 0] (wMS n) 3 fun r m _ => r = .bool true ∧ m = wMS (resV g a d n) :=
   fun a hm d n h1 h2 => visit1S g hg hsee a d n h1 h2
  simp only [depthV, sizeV] at hd hb
  have hlen := sizeL_len ks
  have hgn := hg n d
  refine acalls_go nnΓ Tryz.func131 rfl ?_
  ((conv=>whnf);repeat(refine Xg ?_;conv=>whnf))
  refine ACalls.useI nnΓ [0] (hsee (.mk vk vn vs ks) d n (by omega) (by omega)) (by rfl) (.cons (.same _ nn) (.cons (.same _ nn) (.cons (.ptr 0 0 0 0 rfl) .nil))) ⟨⟨0, _, rfl, rfl, .same nns⟩, trivial⟩ rfl ?_
  rintro r m n' ⟨rfl, rfl⟩
  refine ⟨nn, ⟨⟨0, _, rfl, rfl, .same nns⟩, trivial⟩, rfl, ?_⟩
  ((conv=>whnf);repeat(refine Xg ?_;conv=>whnf))
  refine ALoop.at nnΓ (fun k : Nat => k ≤ ks.length)
   (fun k => ⟨[(1, .int .i64 d), (3, .ptr 2 0 0), (15, .il 4 (encVs ks)), (16, .int .i64 (encVs ks).length), (17, .int .i64 k)], wMS (resL g (ks.take k) (d + 1) (g n d)), 3, 28⟩)
   (fun k => ks.length - k) 0 [(0, 0), (1, 1), (2, 2)] (by simp)
   (conv_mk _ rfl ⟨⟨0, _, rfl, rfl, .same nns⟩, ⟨1, _, rfl, rfl, cvFn1 rfl⟩, ⟨2, _, rfl, rfl, cvFn2 rfl rfl⟩, trivial⟩ ⟨⟨_, rfl, .same _ nn⟩, ⟨_, rfl, .ptr 2 2 0 0 rfl⟩, ⟨_, rfl, .same _ nn⟩, ⟨_, rfl, .same _ nn⟩, ⟨_, rfl, .same _ nn⟩, trivial⟩) ?_
  intro k hk
  have hrl := resL_le hg (ks.take k) (d + 1) (g n d)
  ((conv=>whnf);repeat(refine Xg ?_;conv=>whnf))
  refine bcs_mk (fun h => ?_) (fun h => ?_)
  ·have hlt := klt h
   obtain ⟨a, b, c, e, hm, hg', he, e1⟩ := enc_cases hlt
   have hst := sizeL_take hlt
   have hdt := depthL_take hlt
   rw [he] at hst hdt
   have hst' := sizeL_take_le ks (k + 1)
   have hdm := depthL_mem hm
   have hdk : depthL (ks.take k) ≤ depthL ks := depthL_take_le ks k
   have hrt := resL_take g hlt (d + 1) (g n d)
   rw [he] at hrt
   ((conv=>whnf);repeat(refine Xg ?_;conv=>whnf))
   refine opt_mk e1 ?_
   ((conv=>whnf);repeat(refine Xg ?_;conv=>whnf))
   rw [w64 (x := (d : Int) + 1) (y := ((d + 1 : Nat) : Int)) (by omega) ⟨by omega, by omega⟩]
   refine ACalls.useI nnΓ [0, 1, 2] (ih _ hm (d + 1) (resL g (ks.take k) (d + 1) (g n d)) (by omega) (by omega)) (by rfl) (.cons (.same _ nn) (.cons (.same _ nn) (.cons (.ptr 1 1 0 0 rfl) (.cons (.ptr 2 2 0 0 rfl) .nil))))
    ⟨⟨0, _, rfl, rfl, .same nns⟩, ⟨1, _, rfl, rfl, cvFn1 rfl⟩, ⟨2, _, rfl, rfl, cvFn2 rfl rfl⟩, trivial⟩ rfl ?_
   rintro r m n' ⟨rfl, rfl⟩
   refine ⟨nn, ⟨⟨0, _, rfl, rfl, .same nns⟩, ⟨1, _, rfl, rfl, cvFn1 rfl⟩, ⟨2, _, rfl, rfl, cvFn2 rfl rfl⟩, trivial⟩, rfl, ?_⟩
   rw [← hrt]
   ((conv=>whnf);repeat(refine Xg ?_;conv=>whnf))
   exact .mk (k + 1) [(0, 0), (1, 1), (2, 2)] (by omega)
    (conv_mk _ rfl ⟨⟨0, _, rfl, rfl, .same nns⟩, ⟨1, _, rfl, rfl, cvFn1 rfl⟩, ⟨2, _, rfl, rfl, cvFn2 rfl rfl⟩, trivial⟩ ⟨⟨_, rfl, .same _ nn⟩, ⟨_, rfl, .ptr 2 2 0 0 rfl⟩, ⟨_, rfl, .same _ nn⟩, ⟨_, rfl, .same _ nn⟩, ⟨_, rfl, .w64 (by omega) ⟨by omega, by omega⟩⟩, trivial⟩) (by omega)
  ·have hk' : k = ks.length := by have := kge h; omega
   ((conv=>whnf);repeat(refine Xg ?_;conv=>whnf))
   refine fin_mk (n' := 3) (m' := wMS (resL g (ks.take k) (d + 1) (g n d))) [(0, 0), (1, 1), (2, 2)] rfl ⟨⟨0, _, rfl, rfl, .same nns⟩, ⟨1, _, rfl, rfl, cvFn1 rfl⟩, ⟨2, _, rfl, rfl, cvFn2 rfl rfl⟩, trivial⟩ (.same _ nn) ⟨rfl, ?_⟩
   rw [hk', List.take_length, resV]
 termination_by v => SizeOf.sizeOf v
 decreasing_by simp; have := List.sizeOf_lt_of_mem hm; omega
end Go.Proofs.YtnookkohfkjbcaaGreatDoor
namespace Go.Proofs.YtnookkohfkjbcaaGreatDoor
open Go Go.Ax Go.Proofs
set_option maxRecDepth 100000
set_option maxHeartbeats 4000000
section
variable {mem : Mem} {σ : List (Nat × Nat)}
theorem cvFn1R {F : FuncId} {i i' : Nat} (h : lk σ i = some i') : CvR mem σ [.fn (.func F) [] [.ptr i 0 0]] [.fn (.func F) [] [.ptr i' 0 0]] :=
 .cons (.one rfl rfl (.fn _ _ _ _ _ rfl rfl (by simp) (CvL.cons (.ptr i i' 0 0 h) .nil).2)) .nil
theorem cvFn2R {F : FuncId} {i j i' j' : Nat} (h : lk σ i = some i') (h' : lk σ j = some j') : CvR mem σ [.fn (.func F) [] [.ptr i 0 0, .ptr j 0 0]] [.fn (.func F) [] [.ptr i' 0 0, .ptr j' 0 0]] :=
 .cons (.one rfl rfl (.fn _ _ _ _ _ rfl rfl (by simp) (CvL.cons (.ptr i i' 0 0 h) (.cons (.ptr j j' 0 0 h') .nil)).2)) .nil
theorem cvFn3R {F : FuncId} {i j k i' j' k' : Nat} (h : lk σ i = some i') (h' : lk σ j = some j') (h'' : lk σ k = some k') : CvR mem σ [.fn (.func F) [] [.ptr i 0 0, .ptr j 0 0, .ptr k 0 0]] [.fn (.func F) [] [.ptr i' 0 0, .ptr j' 0 0, .ptr k' 0 0]] :=
 .cons (.one rfl rfl (.fn _ _ _ _ _ rfl rfl (by simp) (CvL.cons (.ptr i i' 0 0 h) (.cons (.ptr j j' 0 0 h') (.cons (.ptr k k' 0 0 h'') .nil))).2)) .nil
theorem cvF1 {F : FuncId} {i i' : Nat} (h : lk σ i = some i') : Cv mem σ (.fn (.func F) [] [.ptr i 0 0]) (.fn (.func F) [] [.ptr i' 0 0]) :=
 .fn _ _ _ _ _ rfl rfl (by simp) (CvL.cons (.ptr i i' 0 0 h) .nil).2
theorem cvF3 {F : FuncId} {i j k i' j' k' : Nat} (h : lk σ i = some i') (h' : lk σ j = some j') (h'' : lk σ k = some k') : Cv mem σ (.fn (.func F) [] [.ptr i 0 0, .ptr j 0 0, .ptr k 0 0]) (.fn (.func F) [] [.ptr i' 0 0, .ptr j' 0 0, .ptr k' 0 0]) :=
 .fn _ _ _ _ _ rfl rfl (by simp) (CvL.cons (.ptr i i' 0 0 h) (.cons (.ptr j j' 0 0 h') (.cons (.ptr k k' 0 0 h'') .nil))).2
end
theorem seeS : ∀ (v : Val) (d n : Nat), d ≤ 1099511627776 → n ≤ 4398046511104 → ACalls Tryz.prog [] 118 [encV v, .int .i64 d, .ptr 0 0 0] [(0, cI n)] 1 fun r m _ => r = .bool true ∧ m = [(0, cI (n + 1))]
 | .mk vk vn vs ks, d, n, hd, hn => by
  refine acalls_go nnΓ Tryz.func118 rfl ?_
  ((conv=>whnf);repeat(refine Xg ?_;conv=>whnf))
  exact fin_mk (n' := 1) (m' := [(0, cI (n + 1))]) [(0, 0)] rfl ⟨⟨0, _, rfl, rfl, .cons (.one rfl rfl (.w64 (by omega) ⟨by omega, by omega⟩)) .nil⟩, trivial⟩ (.same _ nn) ⟨rfl, rfl⟩
theorem vVisitS : ∀ (v : Val) (n : Nat), 1 + depthV v ≤ 1099511627776 → max n (1 + depthV v) + sizeV v ≤ 4398046511104 →
   ACalls Tryz.prog [] 114 [encV v, .fn (.func 118) [] [.ptr 0 0 0]] [(0, cI n)] 1 fun r m _ => r = .tup [] ∧ m = [(0, cI (resV (fun n _ => n + 1) v 1 n))]
 | .mk vk vn vs ks, n, hd, hb => by
  have hw := visit1S (fun n _ => n + 1) (fun n d => by omega) seeS (.mk vk vn vs ks) 1 n hd hb
  generalize resV (fun n _ => n + 1) (.mk vk vn vs ks) 1 n = res at hw
  refine acalls_go nnΓ Tryz.func114 rfl ?_
  ((conv=>whnf);repeat(refine Xg ?_;conv=>whnf))
  refine ACalls.useR nnΓ [(0, 0), (2, 1), (3, 2)] hw (by rfl) (.cons (.same _ nn) (.cons (.int rfl) (.cons (.ptr 2 1 0 0 rfl) (.cons (.ptr 3 2 0 0 rfl) .nil))))
   ⟨⟨0, _, rfl, rfl, .same nns⟩, ⟨2, _, rfl, rfl, cvFn1R rfl⟩, ⟨3, _, rfl, rfl, cvFn2R rfl rfl⟩, trivial⟩ rfl ?_
  rintro r m n' ⟨rfl, rfl⟩
  refine ⟨[(0, cI res)], nn, ⟨⟨0, _, rfl, rfl, .same nns⟩, trivial⟩, rfl, ?_⟩
  ((conv=>whnf);repeat(refine Xg ?_;conv=>whnf))
  exact fin_mk (n' := 1) (m' := [(0, cI res)]) [(0, 0)] rfl ⟨⟨0, _, rfl, rfl, .same nns⟩, trivial⟩ (.same _ nn) ⟨rfl, rfl⟩
theorem vSize : ∀ v : Val, sizeV v ≤ 1048576 → PureC Tryz.prog [] 93 [encV v] (.int .i64 (sizeV v))
 | .mk vk vn vs ks, hs => by
  have hd := depth_le_size (.mk vk vn vs ks)
  have hw := vVisitS (.mk vk vn vs ks) 0 (by omega) (by omega)
  rw [show resV (fun n _ => n + 1) (.mk vk vn vs ks) 1 0 = sizeV (.mk vk vn vs ks) by rw [res_size]; omega] at hw
  generalize sizeV (.mk vk vn vs ks) = res at hw
  refine acalls_go nnΓ Tryz.func93 rfl ?_
  ((conv=>whnf);repeat(refine Xg ?_;conv=>whnf))
  refine ACalls.useR nnΓ [(1, 0)] hw (by rfl) (.cons (.same _ nn) (.cons (cvF1 rfl) .nil)) ⟨⟨1, _, rfl, rfl, .same nns⟩, trivial⟩ rfl ?_
  rintro r m n' ⟨rfl, rfl⟩
  refine ⟨[(1, cI res)], nn, ⟨⟨0, _, rfl, rfl, .same nns⟩, trivial⟩, rfl, ?_⟩
  ((conv=>whnf);repeat(refine Xg ?_;conv=>whnf))
  exact fin_pure nn ⟨rfl, rfl, rfl⟩
abbrev VS := Nat × Bool × Bool
def vC (x : VS) : Mem := [(0, cI x.1), (1, cB x.2.1), (2, cB x.2.2)]
def wV (x : VS) : Mem := [(0, cI x.1), (1, cB x.2.1), (2, cB x.2.2), (3, cF (.fn (.func 115) [] [.ptr 0 0 0, .ptr 1 0 0, .ptr 2 0 0])), (4, cF (.fn (.func 131) [] [.ptr 3 0 0, .ptr 4 0 0]))]
theorem seeV (vk vn : Int) (vs : List UInt8) (ks : List Val) (hs : vs.length ≤ 4294967296) (d : Nat) (x : VS) (hx : x.1 ≤ 4398046511104) :
  ACalls Tryz.prog [] 115 [encV (.mk vk vn vs ks), .int .i64 d, .ptr 0 0 0, .ptr 1 0 0, .ptr 2 0 0] (vC x) 3 fun r m _ => r = .bool (stValid x (.mk vk vn vs ks) d).1 ∧ m = vC (stValid x (.mk vk vn vs ks) d).2 := by
 obtain ⟨n, g, s⟩ := x
 have h1 := vFormed vk vn vs ks hs
 have h2 := vFits vk vn vs ks
 have hst : stValid (n, g, s) (.mk vk vn vs ks) d = (g && formed1 vk vn vs ks.length, (n + 1, g && formed1 vk vn vs ks.length, s && fits1 vk ks.length)) := rfl
 generalize formed1 vk vn vs ks.length = fb at h1 hst
 generalize fits1 vk ks.length = tb at h2 hst
 rw [hst]
 simp only at hx
 refine acalls_go nnΓ Tryz.func115 rfl ?_
 cases g <;> cases s
 all_goals
  ((conv=>whnf);repeat(refine Xg ?_;conv=>whnf))
  try (refine h1.go ?_; ((conv=>whnf);repeat(refine Xg ?_;conv=>whnf)))
  try (refine h2.go ?_; ((conv=>whnf);repeat(refine Xg ?_;conv=>whnf)))
  exact fin_mk (n' := 3) (m' := vC (n + 1, _, _)) [(0, 0), (1, 1), (2, 2)] rfl ⟨⟨0, _, rfl, rfl, .cons (.one rfl rfl (.w64 (by omega) ⟨by omega, by omega⟩)) .nil⟩, ⟨1, _, rfl, rfl, .same nns⟩, ⟨2, _, rfl, rfl, .same nns⟩, trivial⟩ (.same _ nn) ⟨rfl, rfl⟩
theorem visitV : ∀ (v : Val) (d : Nat) (x : VS), okV v → d + depthV v ≤ 1099511627776 → x.1 + sizeV v ≤ 4398046511104 →
   ACalls Tryz.prog [] 131 [encV v, .int .i64 d, .ptr 3 0 0, .ptr 4 0 0] (wV x) 5 fun r m _ => r = .bool (visS stValid v d x).1 ∧ m = wV (visS stValid v d x).2
 | .mk vk vn vs ks, d, x, hok, hd, hb => by
  simp only [okV] at hok
  obtain ⟨hv1, hv2, hv3, hv4, hv5⟩ := hok
  have ih : ∀ a ∈ ks, ∀ (d : Nat) (x : VS), d + depthV a ≤ 1099511627776 → x.1 + sizeV a ≤ 4398046511104 → ACalls Tryz.prog [] 131 [encV a, .int .i64 d, .ptr 3 0 0, .ptr 4 0 0] (wV x) 5 fun r m _ => r = .bool (visS stValid a d x).1 ∧ m = wV (visS stValid a d x).2 :=
   fun a hm d x h1 h2 => visitV a d x (okVs_mem hv5 a hm) h1 h2
  simp only [depthV, sizeV] at hd hb
  have hlen := sizeL_len ks
  have hsee := seeV vk vn vs ks hv3 d x (by omega)
  have hy1 : (stValid x (.mk vk vn vs ks) d).2.1 = x.1 + 1 := rfl
  generalize hst0 : stValid x (.mk vk vn vs ks) d = st at hsee hy1
  obtain ⟨b, y⟩ := st
  simp only at hy1
  refine acalls_go nnΓ Tryz.func131 rfl ?_
  ((conv=>whnf);repeat(refine Xg ?_;conv=>whnf))
  refine ACalls.useI nnΓ [0, 1, 2] hsee (by rfl) (.cons (.same _ nn) (.cons (.same _ nn) (.cons (.ptr 0 0 0 0 rfl) (.cons (.ptr 1 1 0 0 rfl) (.cons (.ptr 2 2 0 0 rfl) .nil))))) ⟨⟨0, _, rfl, rfl, .same nns⟩, ⟨1, _, rfl, rfl, .same nns⟩, ⟨2, _, rfl, rfl, .same nns⟩, trivial⟩ rfl ?_
  rintro r m n' ⟨rfl, rfl⟩
  refine ⟨nn, ⟨⟨0, _, rfl, rfl, .same nns⟩, ⟨1, _, rfl, rfl, .same nns⟩, ⟨2, _, rfl, rfl, .same nns⟩, trivial⟩, rfl, ?_⟩
  cases b with
  | false =>
   ((conv=>whnf);repeat(refine Xg ?_;conv=>whnf))
   refine fin_mk (n' := 5) (m' := wV y) [(0, 0), (1, 1), (2, 2), (3, 3), (4, 4)] rfl ⟨⟨0, _, rfl, rfl, .same nns⟩, ⟨1, _, rfl, rfl, .same nns⟩, ⟨2, _, rfl, rfl, .same nns⟩, ⟨3, _, rfl, rfl, cvFn3 rfl rfl rfl⟩, ⟨4, _, rfl, rfl, cvFn2 rfl rfl⟩, trivial⟩ (.same _ nn) ?_
   have hvis : visS stValid (.mk vk vn vs ks) d x = (false, y) := by rw [visS, hst0]
   rw [hvis]
   exact ⟨rfl, rfl⟩
  | true =>
   have hvis : visS stValid (.mk vk vn vs ks) d x = visL stValid ks (d + 1) y := by rw [visS, hst0]
   ((conv=>whnf);repeat(refine Xg ?_;conv=>whnf))
   refine ALoop.at nnΓ (fun a : Nat × VS => a.1 ≤ ks.length ∧ visL stValid (ks.take a.1) (d + 1) y = (true, a.2))
    (fun a => ⟨[(1, .int .i64 d), (3, .ptr 4 0 0), (15, .il 4 (encVs ks)), (16, .int .i64 (encVs ks).length), (17, .int .i64 a.1)], wV a.2, 5, 28⟩)
    (fun a => ks.length - a.1) (0, y) [(0, 0), (1, 1), (2, 2), (3, 3), (4, 4)] ⟨by simp, rfl⟩
    (conv_mk _ rfl ⟨⟨0, _, rfl, rfl, .same nns⟩, ⟨1, _, rfl, rfl, .same nns⟩, ⟨2, _, rfl, rfl, .same nns⟩, ⟨3, _, rfl, rfl, cvFn3 rfl rfl rfl⟩, ⟨4, _, rfl, rfl, cvFn2 rfl rfl⟩, trivial⟩ ⟨⟨_, rfl, .same _ nn⟩, ⟨_, rfl, .ptr 4 4 0 0 rfl⟩, ⟨_, rfl, .same _ nn⟩, ⟨_, rfl, .same _ nn⟩, ⟨_, rfl, .same _ nn⟩, trivial⟩) ?_
   rintro ⟨k, z⟩ ⟨hk, hz⟩
   simp only at hk hz
   have hcnt := visL_cnt (ks.take k) (d + 1) y
   rw [hz] at hcnt
   simp only at hcnt
   ((conv=>whnf);repeat(refine Xg ?_;conv=>whnf))
   refine bcs_mk (fun h => ?_) (fun h => ?_)
   ·have hlt : k < ks.length := klt h
    obtain ⟨a, b, c, e, hm, hg', he, e1⟩ := enc_cases hlt
    have hst := sizeL_take hlt
    rw [he] at hst
    have hst' := sizeL_take_le ks (k + 1)
    have hdm := depthL_mem hm
    have hnext := visL_take stValid hlt (d + 1) y z hz
    rw [he] at hnext
    have hb2 : z.1 + sizeV (.mk a b c e) ≤ 4398046511104 := by omega
    have hih := ih _ hm (d + 1) z (by omega) hb2
    generalize visS stValid (.mk a b c e) (d + 1) z = st2 at hih hnext
    obtain ⟨b2, z2⟩ := st2
    ((conv=>whnf);repeat(refine Xg ?_;conv=>whnf))
    refine opt_mk e1 ?_
    ((conv=>whnf);repeat(refine Xg ?_;conv=>whnf))
    rw [w64 (x := (d : Int) + 1) (y := ((d + 1 : Nat) : Int)) (by omega) ⟨by omega, by omega⟩]
    refine ACalls.useI nnΓ [0, 1, 2, 3, 4] hih (by rfl) (.cons (.same _ nn) (.cons (.same _ nn) (.cons (.ptr 3 3 0 0 rfl) (.cons (.ptr 4 4 0 0 rfl) .nil))))
     ⟨⟨0, _, rfl, rfl, .same nns⟩, ⟨1, _, rfl, rfl, .same nns⟩, ⟨2, _, rfl, rfl, .same nns⟩, ⟨3, _, rfl, rfl, cvFn3 rfl rfl rfl⟩, ⟨4, _, rfl, rfl, cvFn2 rfl rfl⟩, trivial⟩ rfl ?_
    rintro r m n' ⟨rfl, rfl⟩
    refine ⟨nn, ⟨⟨0, _, rfl, rfl, .same nns⟩, ⟨1, _, rfl, rfl, .same nns⟩, ⟨2, _, rfl, rfl, .same nns⟩, ⟨3, _, rfl, rfl, cvFn3 rfl rfl rfl⟩, ⟨4, _, rfl, rfl, cvFn2 rfl rfl⟩, trivial⟩, rfl, ?_⟩
    cases b2 with
    | false =>
     ((conv=>whnf);repeat(refine Xg ?_;conv=>whnf))
     refine fin_mk (n' := 5) (m' := wV z2) [(0, 0), (1, 1), (2, 2), (3, 3), (4, 4)] rfl ⟨⟨0, _, rfl, rfl, .same nns⟩, ⟨1, _, rfl, rfl, .same nns⟩, ⟨2, _, rfl, rfl, .same nns⟩, ⟨3, _, rfl, rfl, cvFn3 rfl rfl rfl⟩, ⟨4, _, rfl, rfl, cvFn2 rfl rfl⟩, trivial⟩ (.same _ nn) ?_
     have := visL_stop stValid (m := ks.drop (k + 1)) hnext
     rw [List.take_append_drop] at this
     rw [hvis, this]
     exact ⟨rfl, rfl⟩
    | true =>
     ((conv=>whnf);repeat(refine Xg ?_;conv=>whnf))
     exact .mk (k + 1, z2) [(0, 0), (1, 1), (2, 2), (3, 3), (4, 4)] ⟨by simp only; omega, hnext⟩
      (conv_mk _ rfl ⟨⟨0, _, rfl, rfl, .same nns⟩, ⟨1, _, rfl, rfl, .same nns⟩, ⟨2, _, rfl, rfl, .same nns⟩, ⟨3, _, rfl, rfl, cvFn3 rfl rfl rfl⟩, ⟨4, _, rfl, rfl, cvFn2 rfl rfl⟩, trivial⟩ ⟨⟨_, rfl, .same _ nn⟩, ⟨_, rfl, .ptr 4 4 0 0 rfl⟩, ⟨_, rfl, .same _ nn⟩, ⟨_, rfl, .same _ nn⟩, ⟨_, rfl, .w64 (by omega) ⟨by omega, by omega⟩⟩, trivial⟩) (by simp only; omega)
   ·have hk' : k = ks.length := by have := kge h; omega
    ((conv=>whnf);repeat(refine Xg ?_;conv=>whnf))
    refine fin_mk (n' := 5) (m' := wV z) [(0, 0), (1, 1), (2, 2), (3, 3), (4, 4)] rfl ⟨⟨0, _, rfl, rfl, .same nns⟩, ⟨1, _, rfl, rfl, .same nns⟩, ⟨2, _, rfl, rfl, .same nns⟩, ⟨3, _, rfl, rfl, cvFn3 rfl rfl rfl⟩, ⟨4, _, rfl, rfl, cvFn2 rfl rfl⟩, trivial⟩ (.same _ nn) ?_
    rw [hk', List.take_length] at hz
    rw [hvis, hz]
    exact ⟨rfl, rfl⟩
 termination_by v => SizeOf.sizeOf v
 decreasing_by simp; have := List.sizeOf_lt_of_mem hm; omega
theorem vVisitV : ∀ (v : Val) (x : VS), okV v → 1 + depthV v ≤ 1099511627776 → x.1 + sizeV v ≤ 4398046511104 →
   ACalls Tryz.prog [] 114 [encV v, .fn (.func 115) [] [.ptr 0 0 0, .ptr 1 0 0, .ptr 2 0 0]] (vC x) 3 fun r m _ => r = .tup [] ∧ m = vC (visS stValid v 1 x).2
 | .mk vk vn vs ks, x, hok, hd, hb => by
  have hw := visitV (.mk vk vn vs ks) 1 x hok hd hb
  generalize visS stValid (.mk vk vn vs ks) 1 x = st at hw
  obtain ⟨b, y⟩ := st
  refine acalls_go nnΓ Tryz.func114 rfl ?_
  ((conv=>whnf);repeat(refine Xg ?_;conv=>whnf))
  refine ACalls.useR nnΓ [(0, 0), (1, 1), (2, 2), (4, 3), (5, 4)] hw (by rfl) (.cons (.same _ nn) (.cons (.int rfl) (.cons (.ptr 4 3 0 0 rfl) (.cons (.ptr 5 4 0 0 rfl) .nil))))
   ⟨⟨0, _, rfl, rfl, .same nns⟩, ⟨1, _, rfl, rfl, .same nns⟩, ⟨2, _, rfl, rfl, .same nns⟩, ⟨4, _, rfl, rfl, cvFn3R rfl rfl rfl⟩, ⟨5, _, rfl, rfl, cvFn2R rfl rfl⟩, trivial⟩ rfl ?_
  rintro r m n' ⟨rfl, rfl⟩
  refine ⟨[(0, cI y.1), (1, cB y.2.1), (2, cB y.2.2)], nn, ⟨⟨0, _, rfl, rfl, .same nns⟩, ⟨1, _, rfl, rfl, .same nns⟩, ⟨2, _, rfl, rfl, .same nns⟩, trivial⟩, rfl, ?_⟩
  ((conv=>whnf);repeat(refine Xg ?_;conv=>whnf))
  exact fin_mk (n' := 3) (m' := vC y) [(0, 0), (1, 1), (2, 2)] rfl ⟨⟨0, _, rfl, rfl, .same nns⟩, ⟨1, _, rfl, rfl, .same nns⟩, ⟨2, _, rfl, rfl, .same nns⟩, trivial⟩ (.same _ nn) ⟨rfl, rfl⟩
theorem vValid : ∀ v : Val, okV v → sizeV v ≤ 1048576 → PureC Tryz.prog [] 91 [encV v] (.int .i64 (validV v))
 | .mk vk vn vs ks, hok, hs => by
  have hd := depth_le_size (.mk vk vn vs ks)
  have hw := vVisitV (.mk vk vn vs ks) (0, true, true) hok (by omega) (by simp only; omega)
  have hval := valid_vis (.mk vk vn vs ks)
  generalize validV (.mk vk vn vs ks) = res at hval
  generalize (visS stValid (.mk vk vn vs ks) 1 (0, true, true)).2 = y at hw hval
  obtain ⟨n, g, s⟩ := y
  simp only at hval
  refine acalls_go nnΓ Tryz.func91 rfl ?_
  ((conv=>whnf);repeat(refine Xg ?_;conv=>whnf))
  refine ACalls.useR nnΓ [(1, 0), (2, 1), (3, 2)] hw (by rfl) (.cons (.same _ nn) (.cons (cvF3 rfl rfl rfl) .nil)) ⟨⟨1, _, rfl, rfl, .same nns⟩, ⟨2, _, rfl, rfl, .same nns⟩, ⟨3, _, rfl, rfl, .same nns⟩, trivial⟩ rfl ?_
  rintro r m n' ⟨rfl, rfl⟩
  refine ⟨[(1, cI n), (2, cB g), (3, cB s)], nn, ⟨⟨0, _, rfl, rfl, .same nns⟩, ⟨1, _, rfl, rfl, .same nns⟩, ⟨2, _, rfl, rfl, .same nns⟩, trivial⟩, rfl, ?_⟩
  cases g with
  | false =>
   ((conv=>whnf);repeat(refine Xg ?_;conv=>whnf))
   refine fin_pure nn ⟨?_, rfl, rfl⟩
   rw [← hval]; rfl
  | true =>
   cases s with
   | false =>
    ((conv=>whnf);repeat(refine Xg ?_;conv=>whnf))
    refine fin_pure nn ⟨?_, rfl, rfl⟩
    rw [← hval]; simp
   | true =>
    ((conv=>whnf);repeat(refine Xg ?_;conv=>whnf))
    refine bcs_mk (fun h => ?_) (fun h => ?_)
    ·((conv=>whnf);repeat(refine Xg ?_;conv=>whnf))
     refine fin_pure nn ⟨?_, rfl, rfl⟩
     rw [← hval, if_neg (by simp), if_pos (by simp at h; omega)]
    ·((conv=>whnf);repeat(refine Xg ?_;conv=>whnf))
     refine fin_pure nn ⟨?_, rfl, rfl⟩
     rw [← hval, if_neg (by simp), if_neg (by simp at h; simp; omega)]
end Go.Proofs.YtnookkohfkjbcaaGreatDoor
namespace Go.Proofs.YtnookkohfkjbcaaGreatDoor
open Go Go.Ax Go.Proofs
set_option maxRecDepth 100000
set_option maxHeartbeats 4000000
set_option maxHeartbeats 8000000
theorem dOptions (x : Nd) (hx : OptN x) : PureC Tryz.prog [] 26 [.ip (encN x)] (.int .i64 (optsN x)) := by
 have hr := hx.rng
 unfold optsN
 obtain ⟨kind, name, lo, hi, ws, ls, vals, kids, ⟨vk, vn, vs, vks⟩⟩ := x
 simp only at hr ⊢
 have e1 : IntKind.i64.wrap (hi - lo) = hi - lo := wrap64 ⟨by omega, by omega⟩
 have e2 : IntKind.i64.wrap (hi - lo + 1) = hi - lo + 1 := wrap64 ⟨by omega, by omega⟩
 refine acalls_go nnΓ Tryz.func26 rfl ?_
 ((conv=>whnf);repeat(refine Xg ?_;conv=>whnf))
 refine bcs_mk (fun h => ?_) (fun h => ?_)
 ·have h1 : kind = 1 := by simpa using h
  rw [if_pos h1]
  ((conv=>whnf);repeat(refine Xg ?_;conv=>whnf))
  repeat (refine ⟨rfl, ?_⟩; ((conv=>whnf);repeat(refine Xg ?_;conv=>whnf)))
  rw [e1, e2]
  exact fin_pure nn ⟨rfl, rfl, rfl⟩
 ·have h1 : ¬ kind = 1 := by simpa using h
  rw [if_neg h1]
  ((conv=>whnf);repeat(refine Xg ?_;conv=>whnf))
  refine bcs_mk (fun h => ?_) (fun h => ?_)
  ·have h2 : kind = 2 := by simpa using h
   rw [if_pos h2]
   ((conv=>whnf);repeat(refine Xg ?_;conv=>whnf))
   rw [encI_length]
   exact fin_pure nn ⟨rfl, rfl, rfl⟩
  ·have h2 : ¬ kind = 2 := by simpa using h
   rw [if_neg h2]
   ((conv=>whnf);repeat(refine Xg ?_;conv=>whnf))
   exact fin_pure nn ⟨rfl, rfl, rfl⟩
theorem encS_cases {l : List (List UInt8)} {k : Nat} (h : k < l.length) : (encS l)[((k : Nat) : Int).toNat]? = some (.str l[k]) := by simp [encS_get, List.getElem?_eq_getElem h]
theorem sIndex (l : List (List UInt8)) (s : List UInt8) (hl : l.length ≤ 4294967296) : PureC Tryz.prog [] 49 [.il 1 (encS l), .str s] (.int .i64 (idxS l s)) := by
 refine acalls_go nnΓ Tryz.func49 rfl ?_
 ((conv=>whnf);repeat(refine Xg ?_;conv=>whnf))
 refine ALoop.at nnΓ (fun i : Nat => i ≤ l.length ∧ idxS l s = idxFrom s (l.drop i) i) (fun i => ⟨[(0, .il 1 (encS l)), (1, .str s), (7, .int .i64 l.length), (8, .int .i64 i)], [], 0, 19⟩) (fun i => l.length - i) 0 [] ⟨by simp, by simp [idxS]⟩
  (conv_pure ⟨⟨_, rfl, .same _ (.il' (encS_nn _))⟩, ⟨_, rfl, .same _ nn⟩, ⟨_, rfl, .int (by rw [encS_length])⟩, ⟨_, rfl, .same _ nn⟩, trivial⟩) ?_
 rintro i ⟨hi, hx⟩
 ((conv=>whnf);repeat(refine Xg ?_;conv=>whnf))
 refine bcs_mk (fun h => ?_) (fun h => ?_)
 ·have hil : i < l.length := by simpa using h
  have ei := encS_cases hil
  rw [List.drop_eq_getElem_cons hil, idxFrom] at hx
  generalize l[i] = t at ei hx
  ((conv=>whnf);repeat(refine Xg ?_;conv=>whnf))
  refine opt_mk ei ?_
  ((conv=>whnf);repeat(refine Xg ?_;conv=>whnf))
  refine bcs_mk (fun h2 => ?_) (fun h2 => ?_)
  ·have e : s = t := by simpa using h2
   rw [if_pos e.symm] at hx
   rw [hx]
   ((conv=>whnf);repeat(refine Xg ?_;conv=>whnf))
   exact fin_pure nn ⟨rfl, rfl, rfl⟩
  ·have e : ¬ s = t := by simpa using h2
   rw [if_neg fun h => e h.symm] at hx
   ((conv=>whnf);repeat(refine Xg ?_;conv=>whnf))
   exact .mk (i + 1) [] ⟨by omega, hx⟩ (conv_pure ⟨⟨_, rfl, .same _ (.il' (encS_nn _))⟩, ⟨_, rfl, .same _ nn⟩, ⟨_, rfl, .same _ nn⟩, ⟨_, rfl, .w64 (by omega) ⟨by omega, by omega⟩⟩, trivial⟩) (by omega)
 ·have hil : i = l.length := by simp at h; omega
  rw [hil, List.drop_length, idxFrom] at hx
  rw [hx]
  ((conv=>whnf);repeat(refine Xg ?_;conv=>whnf))
  exact fin_pure nn ⟨rfl, rfl, rfl⟩
set_option maxHeartbeats 8000000
theorem wMade (x : Nd) (ks : List Val) : PureC Tryz.prog [] 145 [.ip (encN x),.il 4 (encVs ks)] (encV (madeV x.name ks)) := by
 obtain ⟨kind,name,lo,hi,ws,ls,vals,kids,⟨vk,vn,vs,vks⟩⟩ := x
 refine acalls_go nnΓ Tryz.func145 rfl ?_
 unfold madeV
 ((conv=>whnf);repeat(refine Xg ?_;conv=>whnf))
 refine bcs_mk (fun h => ?_) (fun h => ?_)
 ·have h1 : name = [] := by simpa using h
  rw [if_pos h1]
  ((conv=>whnf);repeat(refine Xg ?_;conv=>whnf))
  exact fin_pure nn ⟨rfl,rfl,rfl⟩
 ·have h1 : ¬ name = [] := by simpa using h
  rw [if_neg h1]
  ((conv=>whnf);repeat(refine Xg ?_;conv=>whnf))
  repeat (refine ⟨rfl, ?_⟩; ((conv=>whnf);repeat(refine Xg ?_;conv=>whnf)))
  exact fin_pure nn ⟨rfl,rfl,rfl⟩
theorem tParts (x : Nd) (hx : okN x) (hs : sizeV x.value ≤ 1048576) (hv : ∀ v ∈ x.values,sizeV v ≤ 1048576) (h0 : x.kind = 0 → x.values = []) : PureC Tryz.prog [] 66 [.ip (encN x)] (.int .i64 (firstE (ownN x))) := by
 have hV := vValid x.value hx.value hs
 have hvv := hx.valuesI
 have hvl := hx.values
 obtain ⟨kind,name,lo,hi,ws,ls,vals,kids,⟨vk,vn,vs,vks⟩⟩ := x
 simp only at hV hv h0 hvv hvl
 refine acalls_go nnΓ Tryz.func66 rfl ?_
 ((conv=>whnf);repeat(refine Xg ?_;conv=>whnf))
 refine bcs_mk (fun h => ?_) (fun h => ?_)
 ·have h1 : kind = 0 := by simpa using h
  subst h1
  have e : firstE (ownN ⟨0,name,lo,hi,ws,ls,vals,kids,.mk vk vn vs vks⟩) = validV (.mk vk vn vs vks) := by
   rw [h0 rfl]
   simp only [ownN,if_true,List.append_nil,firstE]
   split
   ·rfl
   ·rename_i h; simpa using (Decidable.not_not.1 h).symm
  rw [e]
  generalize validV (.mk vk vn vs vks) = z at hV
  ((conv=>whnf);repeat(refine Xg ?_;conv=>whnf))
  refine hV.go ?_
  ((conv=>whnf);repeat(refine Xg ?_;conv=>whnf))
  exact fin_pure nn ⟨rfl,rfl,rfl⟩
 ·have h1 : ¬ kind = 0 := by simpa using h
  have e : ownN ⟨kind,name,lo,hi,ws,ls,vals,kids,.mk vk vn vs vks⟩ = vals := by simp [ownN,h1]
  rw [e]
  ((conv=>whnf);repeat(refine Xg ?_;conv=>whnf))
  refine ALoop.at nnΓ (fun i : Nat => i ≤ vals.length ∧ firstE vals = firstE (vals.drop i)) (fun i => ⟨[(19,.il 4 (encVs vals)),(20,.int .i64 vals.length),(21,.int .i64 i)],[],0,31⟩) (fun i => vals.length - i) 0 [] ⟨by simp,by simp⟩
   (conv_pure ⟨⟨_,rfl,.same _ (.il' (encVs_nn _))⟩,⟨_,rfl,.int (by rw [encVs_length])⟩,⟨_,rfl,.same _ nn⟩,trivial⟩) ?_
  rintro i ⟨hi,hf⟩
  ((conv=>whnf);repeat(refine Xg ?_;conv=>whnf))
  refine bcs_mk (fun h => ?_) (fun h => ?_)
  ·have hil : i < vals.length := by simpa using h
   have ei : (encVs vals)[((i : Nat) : Int).toNat]? = some (encV vals[i]) := by simp [encVs_get,List.getElem?_eq_getElem hil]
   have hm := List.getElem_mem hil
   have hV2 := vValid vals[i] (hvv _ hm).1 (hv _ hm)
   rw [List.drop_eq_getElem_cons hil,firstE] at hf
   generalize vals[i] = y at ei hV2 hf
   generalize validV y = z at hV2 hf
   obtain ⟨y1,y2,y3,y4⟩ := y
   ((conv=>whnf);repeat(refine Xg ?_;conv=>whnf))
   refine opt_mk ei ?_
   ((conv=>whnf);repeat(refine Xg ?_;conv=>whnf))
   refine hV2.go ?_
   ((conv=>whnf);repeat(refine Xg ?_;conv=>whnf))
   refine bcs_mk (fun h2 => ?_) (fun h2 => ?_)
   ·have e : z ≠ 0 := by simpa using h2
    rw [if_pos e] at hf
    rw [hf]
    ((conv=>whnf);repeat(refine Xg ?_;conv=>whnf))
    exact fin_pure nn ⟨rfl,rfl,rfl⟩
   ·have e : ¬ z ≠ 0 := by simpa using h2
    rw [if_neg e] at hf
    ((conv=>whnf);repeat(refine Xg ?_;conv=>whnf))
    exact .mk (i + 1) [] ⟨by omega,hf⟩ (conv_pure ⟨⟨_,rfl,.same _ (.il' (encVs_nn _))⟩,⟨_,rfl,.same _ nn⟩,⟨_,rfl,.w64 (by omega) ⟨by omega,by omega⟩⟩,trivial⟩) (by omega)
  ·have hil : i = vals.length := by simp at h; omega
   rw [hil,List.drop_length,firstE] at hf
   rw [hf]
   ((conv=>whnf);repeat(refine Xg ?_;conv=>whnf))
   exact fin_pure nn ⟨rfl,rfl,rfl⟩
theorem tRange (x : Nd) (hx : okN x) : PureC Tryz.prog [] 67 [.ip (encN x)] (.bool (numbersN x)) := by
 have b1 := hx.lo
 have b2 := hx.hi
 have b3 := hx.weights
 clear hx
 obtain ⟨kind,name,lo,hi,ws,ls,vals,kids,⟨vk,vn,vs,vks⟩⟩ := x
 simp only [i64] at b1 b2 b3
 have hnum : numbersN ⟨kind,name,lo,hi,ws,ls,vals,kids,.mk vk vn vs vks⟩ = (decide (lo ≤ hi) && decide (-4611686018427387904 ≤ lo) && decide (hi ≤ 4611686018427387904) && decide (hi < lo + 1099511627776) && ws.all fun w => decide (1 ≤ w) && decide (w ≤ 1000)) := rfl
 generalize numbersN ⟨kind,name,lo,hi,ws,ls,vals,kids,.mk vk vn vs vks⟩ = res at hnum
 have hF : ∀ P : Prop,(res = true → P) → (¬ P) → res = false := fun P h1 h2 => by
  cases hr : res with
  | false => rfl
  | true => exact absurd (h1 hr) h2
 refine acalls_go nnΓ Tryz.func67 rfl ?_
 ((conv=>whnf);repeat(refine Xg ?_;conv=>whnf))
 repeat (refine ⟨rfl, ?_⟩; ((conv=>whnf);repeat(refine Xg ?_;conv=>whnf)))
 by_cases h1 : lo ≤ hi
 ·have d1 : decide (lo > hi) = false := by simp; omega
  rw [d1]
  ((conv=>whnf);repeat(refine Xg ?_;conv=>whnf))
  repeat (refine ⟨rfl, ?_⟩; ((conv=>whnf);repeat(refine Xg ?_;conv=>whnf)))
  by_cases h2 : -4611686018427387904 ≤ lo
  ·have d2 : decide (lo < -4611686018427387904) = false := by simp; omega
   rw [d2]
   ((conv=>whnf);repeat(refine Xg ?_;conv=>whnf))
   repeat (refine ⟨rfl, ?_⟩; ((conv=>whnf);repeat(refine Xg ?_;conv=>whnf)))
   by_cases h3 : hi ≤ 4611686018427387904
   ·have d3 : decide (hi > 4611686018427387904) = false := by simp; omega
    rw [d3]
    ((conv=>whnf);repeat(refine Xg ?_;conv=>whnf))
    repeat (refine ⟨rfl, ?_⟩; ((conv=>whnf);repeat(refine Xg ?_;conv=>whnf)))
    have hw : IntKind.u64.wrap (IntKind.u64.wrap hi - IntKind.u64.wrap lo) = hi - lo := by rw [wrap_u64_mod,wrap_u64_mod,wrap_u64_mod]; omega
    simp only [hw]
    by_cases h4 : hi < lo + 1099511627776
    ·have d4 : decide (hi - lo ≥ 1099511627776) = false := by simp; omega
     rw [d4]
     ((conv=>whnf);repeat(refine Xg ?_;conv=>whnf))
     refine ALoop.at nnΓ (fun k : Nat => k ≤ ws.length ∧ ∀ j w,j < k → ws[j]? = some w → 1 ≤ w ∧ w ≤ 1000)
      (fun k => ⟨[(45,.il 1 (encI ws)),(46,.int .i64 ws.length),(47,.int .i64 k)],[],0,58⟩) (fun k => ws.length - k) 0 [] ⟨by simp,by simp⟩
      (conv_pure ⟨⟨_,rfl,.same _ (.il' (encI_nn _))⟩,⟨_,rfl,.int (by rw [encI_length])⟩,⟨_,rfl,.same _ nn⟩,trivial⟩) ?_
     rintro k ⟨hk,hall⟩
     ((conv=>whnf);repeat(refine Xg ?_;conv=>whnf))
     refine bcs_mk (fun h => ?_) (fun h => ?_)
     ·have hlt : k < ws.length := by simpa using h
      have e1 : (encI ws)[(k : Int).toNat]? = some (.int .i64 ws[k]) := by rw [Int.toNat_natCast,encI_get,List.getElem?_eq_getElem hlt]; rfl
      have hg : ws[k]? = some ws[k] := List.getElem?_eq_getElem hlt
      generalize ws[k] = w at e1 hg
      have hbad : (1 ≤ w ∧ w ≤ 1000 → False) → res = false := fun hb => hF (1 ≤ w ∧ w ≤ 1000) (by
       intro e
       rw [hnum] at e
       simp only [Bool.and_eq_true,List.all_eq_true,decide_eq_true_eq] at e
       exact e.2 w (List.mem_of_getElem? hg)) hb
      ((conv=>whnf);repeat(refine Xg ?_;conv=>whnf))
      refine opt_mk e1 ?_
      ((conv=>whnf);repeat(refine Xg ?_;conv=>whnf))
      by_cases g1 : 1 ≤ w
      ·have d1 : decide (w < 1) = false := by simp; omega
       rw [d1]
       ((conv=>whnf);repeat(refine Xg ?_;conv=>whnf))
       refine bcs_mk (fun h => ?_) (fun h => ?_)
       ·((conv=>whnf);repeat(refine Xg ?_;conv=>whnf))
        refine fin_pure nn ⟨?_,rfl,rfl⟩
        rw [hbad (by simp at h; omega)]
       ·have g2 : w ≤ 1000 := by simpa using h
        ((conv=>whnf);repeat(refine Xg ?_;conv=>whnf))
        refine .mk (k + 1) [] ⟨by omega,fun j w2 hj hw2 => ?_⟩ (conv_pure ⟨⟨_,rfl,.same _ (.il' (encI_nn _))⟩,⟨_,rfl,.same _ nn⟩,⟨_,rfl,.w64 (by omega) ⟨by omega,by omega⟩⟩,trivial⟩) (by omega)
        rcases Nat.lt_or_ge j k with hj' | hj'
        ·exact hall j w2 hj' hw2
        ·have hjk : j = k := by omega
         rw [hjk,hg] at hw2
         cases hw2
         exact ⟨g1,g2⟩
      ·have d1 : decide (w < 1) = true := by simp; omega
       rw [d1]
       ((conv=>whnf);repeat(refine Xg ?_;conv=>whnf))
       refine fin_pure nn ⟨?_,rfl,rfl⟩
       rw [hbad (by omega)]
     ·have hk' : k = ws.length := by simp at h; omega
      ((conv=>whnf);repeat(refine Xg ?_;conv=>whnf))
      refine fin_pure nn ⟨?_,rfl,rfl⟩
      rw [hnum]
      congr 1
      symm
      simp only [Bool.and_eq_true,List.all_eq_true,decide_eq_true_eq]
      refine ⟨⟨⟨⟨h1,h2⟩,h3⟩,h4⟩,fun w hw => ?_⟩
      obtain ⟨j,hj⟩ := List.getElem?_of_mem hw
      exact hall j w (by rw [hk']; exact (List.getElem?_eq_some_iff.1 hj).1) hj
    ·have d4 : decide (hi - lo ≥ 1099511627776) = true := by simp; omega
     rw [d4]
     ((conv=>whnf);repeat(refine Xg ?_;conv=>whnf))
     refine fin_pure nn ⟨?_,rfl,rfl⟩
     rw [hF (hi < lo + 1099511627776) (by intro e; rw [hnum] at e; simp at e; omega) h4]
   ·have d3 : decide (hi > 4611686018427387904) = true := by simp; omega
    rw [d3]
    ((conv=>whnf);repeat(refine Xg ?_;conv=>whnf))
    refine fin_pure nn ⟨?_,rfl,rfl⟩
    rw [hF (hi ≤ 4611686018427387904) (by intro e; rw [hnum] at e; simp at e; omega) h3]
  ·have d2 : decide (lo < -4611686018427387904) = true := by simp; omega
   rw [d2]
   ((conv=>whnf);repeat(refine Xg ?_;conv=>whnf))
   refine fin_pure nn ⟨?_,rfl,rfl⟩
   rw [hF (-4611686018427387904 ≤ lo) (by intro e; rw [hnum] at e; simp at e; omega) h2]
 ·have d1 : decide (lo > hi) = true := by simp; omega
  rw [d1]
  ((conv=>whnf);repeat(refine Xg ?_;conv=>whnf))
  refine fin_pure nn ⟨?_,rfl,rfl⟩
  rw [hF (lo ≤ hi) (by intro e; rw [hnum] at e; simp at e; omega) h1]
theorem wLength (bs : List Int) (x : Nd) (hx : okN x) (hkl : x.kids.length ≤ 65536) (hb : ∀ y ∈ bs,0 ≤ y ∧ y ≤ 1024) (hk : ∀ (j : Nat) (k : Int),x.kids[j]? = some k → 0 ≤ k ∧ k < bs.length) (h4 : 4 ≤ x.kind → 0 < x.kids.length) (hkind : 0 ≤ x.kind ∧ x.kind ≤ 4) :
  PureC Tryz.prog [] 92 [.ip (encN x),.il 1 (encI bs)] (.int .i64 (lenN bs x)) := by
 have hxn := encN_nn x
 have hat : ∀ k : Int,0 ≤ atI bs k ∧ atI bs k ≤ 1024 := fun k => by
  unfold atI
  rw [List.getD_eq_getElem?_getD]
  cases h : bs[k.toNat]? with
  | none => simp
  | some y => exact hb y (List.mem_of_getElem? h)
 have eat : ∀ k : Int,0 ≤ k → k < bs.length → (encI bs)[k.toNat]? = some (.int .i64 (atI bs k)) := fun k h0 h1 => by
  have : k.toNat < bs.length := by omega
  rw [encI_get,List.getElem?_eq_getElem this]
  unfold atI
  rw [List.getD_eq_getElem?_getD,List.getElem?_eq_getElem this]
  rfl
 have hs := fun l => sumK_bound (b := bs) (M := 1024) (by omega) hb l
 have hm := fun l => mostK_bound (b := bs) (M := 1024) (by omega) hb l
 have hlen : lenN bs x = if x.kind = 0 then 0 else if x.kind = 1 then 1 else if x.kind = 3 then sumK bs x.kids else if x.kind = 2 then 1 + mostK bs (armsN x) else atI bs (x.kids.getD 0 0) + mostK bs (armsN x) := rfl
 have hM : ∀ k : Nat,k < x.kids.length → (mostK bs (if x.kind = 2 then x.kids.take (k + 1) else (x.kids.take (k + 1)).drop 1)) = if 0 < k ∨ x.kind = 2 then max (mostK bs (if x.kind = 2 then x.kids.take k else (x.kids.take k).drop 1)) (atI bs (x.kids.getD k 0)) else mostK bs (if x.kind = 2 then x.kids.take k else (x.kids.take k).drop 1) := fun k hk => by
  have eg : x.kids.getD k 0 = x.kids[k] := by rw [List.getD_eq_getElem?_getD,List.getElem?_eq_getElem hk]; rfl
  rw [eg]
  by_cases e2 : x.kind = 2
  ·rw [if_pos e2,if_pos (.inr e2),if_pos e2,mostK_take hk]
  ·rw [if_neg e2,if_neg e2]
   by_cases e0 : 0 < k
   ·rw [if_pos (.inl e0),mostK_drop hk e0]
   ·rw [if_neg (by omega)]
    have : k = 0 := by omega
    subst this
    simp [mostK,List.drop_eq_nil_of_le]
 obtain ⟨kind,name,lo,hi,ws,ls,vals,kids,⟨vk,vn,vs,vks⟩⟩ := x
 simp only at hkl hk h4 hkind hlen hM
 generalize lenN bs ⟨kind,name,lo,hi,ws,ls,vals,kids,.mk vk vn vs vks⟩ = res at hlen
 refine acalls_go nnΓ Tryz.func92 rfl ?_
 ((conv=>whnf);repeat(refine Xg ?_;conv=>whnf))
 refine ALoop.at nnΓ (fun p : Nat × Int × Int => p.1 ≤ kids.length ∧ p.2.1 = sumK bs (kids.take p.1) ∧ p.2.2 = mostK bs (if kind = 2 then kids.take p.1 else (kids.take p.1).drop 1))
  (fun p => ⟨[(0,.ip (encN ⟨kind,name,lo,hi,ws,ls,vals,kids,.mk vk vn vs vks⟩)),(1,.il 1 (encI bs)),(5,.int .i64 p.2.1),(6,.int .i64 p.2.2),(12,.il 1 (encI kids)),(13,.int .i64 kids.length),(14,.int .i64 p.1)],[],0,67⟩)
  (fun p => kids.length - p.1) (0,0,0) [] ⟨by simp,by simp [sumK],by simp [mostK]⟩
  (conv_pure ⟨⟨_,rfl,.same _ (.ip _ (hxn.cells.get))⟩,⟨_,rfl,.same _ (.il' (encI_nn _))⟩,⟨_,rfl,.same _ nn⟩,⟨_,rfl,.same _ nn⟩,⟨_,rfl,.same _ (.il' (encI_nn _))⟩,⟨_,rfl,.int (by rw [encI_length])⟩,⟨_,rfl,.same _ nn⟩,trivial⟩) ?_
 rintro ⟨k,sum,most⟩ ⟨hkk,hsum,hmost⟩
 simp only at hkk hsum hmost ⊢
 have bsum := hs (kids.take k)
 rw [← hsum] at bsum
 have bm := hm (if kind = 2 then kids.take k else (kids.take k).drop 1)
 rw [← hmost] at bm
 have btk : (kids.take k).length ≤ 65536 := by simp; omega
 ((conv=>whnf);repeat(refine Xg ?_;conv=>whnf))
 refine bcs_mk (fun h => ?_) (fun h => ?_)
 ·have hlt : k < kids.length := by simpa using h
  have e1 : (encI kids)[(k : Int).toNat]? = some (.int .i64 kids[k]) := by rw [Int.toNat_natCast,encI_get,List.getElem?_eq_getElem hlt]; rfl
  obtain ⟨q0,q1⟩ := hk k _ (List.getElem?_eq_getElem hlt)
  have hst := sumK_take (b := bs) hlt
  have hM := hM k hlt
  have eg : kids.getD k 0 = kids[k] := by rw [List.getD_eq_getElem?_getD,List.getElem?_eq_getElem hlt]; rfl
  rw [← hsum] at hst
  rw [eg,← hmost] at hM
  generalize kids[k] = q at e1 q0 q1 hst hM
  obtain ⟨q,rfl⟩ := Int.eq_ofNat_of_zero_le q0
  have e2 := eat q q0 q1
  have hq := hat q
  generalize atI bs q = z at e2 hq hst hM
  have hw : IntKind.i64.wrap (sum + z) = sum + z := wrap64 ⟨by omega,by omega⟩
  ((conv=>whnf);repeat(refine Xg ?_;conv=>whnf))
  repeat ((first | refine opt_mk e1 ?_ | refine opt_mk e2 ?_); ((conv=>whnf);repeat(refine Xg ?_;conv=>whnf)))
  by_cases k0 : 0 < k
  ·have d0 : decide ((k : Int) > 0) = true := by simp; omega
   rw [d0]
   ((conv=>whnf);repeat(refine Xg ?_;conv=>whnf))
   repeat ((first | refine opt_mk e1 ?_ | refine opt_mk e2 ?_); ((conv=>whnf);repeat(refine Xg ?_;conv=>whnf)))
   exact .mk (k + 1,sum + z,max most z) [] ⟨by simp only; omega,by simp only; rw [hst],by simp only; rw [hM,if_pos (.inl k0)]⟩ (conv_pure ⟨⟨_,rfl,.same _ (.ip _ (hxn.cells.get))⟩,⟨_,rfl,.same _ (.il' (encI_nn _))⟩,⟨_,rfl,.int (by simp only; exact hw)⟩,⟨_,rfl,.int (by simp only; split <;> omega)⟩,⟨_,rfl,.same _ (.il' (encI_nn _))⟩,⟨_,rfl,.same _ nn⟩,⟨_,rfl,.w64 (by simp only; omega) ⟨by simp only; omega,by simp only; omega⟩⟩,trivial⟩) (by simp only; omega)
  ·have k0' : k = 0 := by omega
   have d0 : decide ((k : Int) > 0) = false := by simp; omega
   rw [d0]
   ((conv=>whnf);repeat(refine Xg ?_;conv=>whnf))
   by_cases k2 : kind = 2
   ·subst k2
    ((conv=>whnf);repeat(refine Xg ?_;conv=>whnf))
    repeat ((first | refine opt_mk e1 ?_ | refine opt_mk e2 ?_); ((conv=>whnf);repeat(refine Xg ?_;conv=>whnf)))
    exact .mk (k + 1,sum + z,max most z) [] ⟨by simp only; omega,by simp only; rw [hst],by show max most z = mostK bs (if (2 : Int) = 2 then kids.take (k + 1) else (kids.take (k + 1)).drop 1); rw [hM,if_pos (.inr rfl)]⟩ (conv_pure ⟨⟨_,rfl,.same _ (.ip _ (hxn.cells.get))⟩,⟨_,rfl,.same _ (.il' (encI_nn _))⟩,⟨_,rfl,.int (by simp only; exact hw)⟩,⟨_,rfl,.int (by simp only; split <;> omega)⟩,⟨_,rfl,.same _ (.il' (encI_nn _))⟩,⟨_,rfl,.same _ nn⟩,⟨_,rfl,.w64 (by simp only; omega) ⟨by simp only; omega,by simp only; omega⟩⟩,trivial⟩) (by simp only; omega)
   ·have d2 : (kind == 2) = false := by simpa using k2
    rw [d2]
    ((conv=>whnf);repeat(refine Xg ?_;conv=>whnf))
    exact .mk (k + 1,sum + z,most) [] ⟨by simp only; omega,by simp only; rw [hst],by simp only; rw [hM,if_neg (by omega)]⟩ (conv_pure ⟨⟨_,rfl,.same _ (.ip _ (hxn.cells.get))⟩,⟨_,rfl,.same _ (.il' (encI_nn _))⟩,⟨_,rfl,.int (by simp only; exact hw)⟩,⟨_,rfl,.same _ nn⟩,⟨_,rfl,.same _ (.il' (encI_nn _))⟩,⟨_,rfl,.same _ nn⟩,⟨_,rfl,.w64 (by simp only; omega) ⟨by simp only; omega,by simp only; omega⟩⟩,trivial⟩) (by simp only; omega)
 ·have hk' : k = kids.length := by simp at h; omega
  subst hk'
  rw [List.take_length] at hsum hmost
  have har : armsN ⟨kind,name,lo,hi,ws,ls,vals,kids,.mk vk vn vs vks⟩ = if kind = 2 then kids else kids.drop 1 := rfl
  rw [har,← hmost,← hsum] at hlen
  rcases (show kind = 0 ∨ kind = 1 ∨ kind = 2 ∨ kind = 3 ∨ kind = 4 by omega) with rfl | rfl | rfl | rfl | rfl
  ·rw [hlen,if_pos rfl]
   ((conv=>whnf);repeat(refine Xg ?_;conv=>whnf))
   exact fin_pure nn ⟨rfl,rfl,rfl⟩
  ·rw [hlen,if_neg (by decide),if_pos rfl]
   ((conv=>whnf);repeat(refine Xg ?_;conv=>whnf))
   exact fin_pure nn ⟨rfl,rfl,rfl⟩
  ·rw [hlen,if_neg (by decide),if_neg (by decide),if_neg (by decide),if_pos rfl]
   ((conv=>whnf);repeat(refine Xg ?_;conv=>whnf))
   rw [wrap64 (n := 1 + most) ⟨by omega,by omega⟩]
   exact fin_pure nn ⟨rfl,rfl,rfl⟩
  ·rw [hlen,if_neg (by decide),if_neg (by decide),if_pos rfl]
   ((conv=>whnf);repeat(refine Xg ?_;conv=>whnf))
   exact fin_pure nn ⟨rfl,rfl,rfl⟩
  ·rw [hlen,if_neg (by decide),if_neg (by decide),if_neg (by decide),if_neg (by decide)]
   have hlt : 0 < kids.length := h4 (by omega)
   have e1 : (encI kids)[(0 : Int).toNat]? = some (.int .i64 kids[0]) := by rw [show (0 : Int).toNat = 0 from rfl,encI_get,List.getElem?_eq_getElem hlt]; rfl
   obtain ⟨q0,q1⟩ := hk 0 _ (List.getElem?_eq_getElem hlt)
   have eg : kids.getD 0 0 = kids[0] := by rw [List.getD_eq_getElem?_getD,List.getElem?_eq_getElem hlt]; rfl
   rw [eg]
   generalize kids[0] = q at e1 q0 q1
   obtain ⟨q,rfl⟩ := Int.eq_ofNat_of_zero_le q0
   have e2 := eat q q0 q1
   have hq := hat q
   generalize atI bs q = z at e2 hq
   ((conv=>whnf);repeat(refine Xg ?_;conv=>whnf))
   repeat ((first | refine opt_mk e1 ?_ | refine opt_mk e2 ?_); ((conv=>whnf);repeat(refine Xg ?_;conv=>whnf)))
   rw [wrap64 (n := z + most) ⟨by omega,by omega⟩]
   exact fin_pure nn ⟨rfl,rfl,rfl⟩
set_option maxHeartbeats 8000000
mutual
theorem cmpV_eq : ∀ (a b : Val),cmpV a b = 0 → a = b
 | .mk k n s ks,.mk k' n' s' ks',h => by
  simp only [cmpV,andThen] at h
  split at h
  ·rename_i h1
   split at h
   ·rename_i h2
    split at h
    ·rename_i h3
     have e1 : k = k' := Decidable.byContradiction fun e => cmpI_nz e h1
     have e2 : n = n' := Decidable.byContradiction fun e => cmpI_nz e h2
     rw [e1,e2,cmpS_zero h3,cmpL_eq ks ks' h]
    ·rename_i h3; exact absurd h h3
   ·rename_i h2; exact absurd h h2
  ·rename_i h1; exact absurd h h1
theorem cmpL_eq : ∀ (l m : List Val),cmpL l m = 0 → l = m
 | [],[],_ => rfl
 | [],_ :: _,h => by simp [cmpL] at h
 | _ :: _,[],h => by simp [cmpL] at h
 | a :: l,b :: m,h => by
  simp only [cmpL,andThen] at h
  split at h
  ·rename_i h1; rw [cmpV_eq a b h1,cmpL_eq l m h]
  ·rename_i h1; exact absurd h h1
end
def cleanN (x : Nd) : Bool := decide (0 ≤ x.kind) && decide (x.kind ≤ 4) && unusedN x
theorem cvlZero {v : Val} : CvL [] [] [encV v,.agg [.int .i64 0,.int .i64 0,.str [],.nsl]] [encV v,encV (.mk 0 0 [] [])] :=
 .cons (.same _ (encV_nn v)) (.cons (.agg' (.cons (.same _ nn) (.cons (.same _ nn) (.cons (.same _ nn) (.cons (.nil 4) .nil))))) .nil)
theorem tClean (x : Nd) (hx : okN x) : PureC Tryz.prog [] 64 [.ip (encN x)] (.bool (cleanN x)) := by
 have hC := vCompare x.value (.mk 0 0 [] []) hx.value
 have hz : (cmpV x.value (.mk 0 0 [] []) == 0) = zeroV x.value := by
  obtain ⟨k,n,s,ks⟩ := x.value
  rw [Bool.eq_iff_iff]
  simp only [zeroV,Bool.and_eq_true,decide_eq_true_eq,beq_iff_eq]
  constructor
  ·intro h
   have := cmpV_eq _ _ h
   cases this
   simp
  ·rintro ⟨⟨⟨rfl,rfl⟩,rfl⟩,h⟩
   have : ks = [] := List.length_eq_zero_iff.1 h
   subst this
   exact (cmpV_good _).refl
 have hres : cleanN x = (decide (0 ≤ x.kind) && decide (x.kind ≤ 4) && ((decide (x.kind = 0) || zeroV x.value) && (decide (x.kind = 1) || (decide (x.lo = 0) && decide (x.hi = 0))) && (decide (x.kind = 3) || decide (x.name = [])) &&
  (decide (x.kind = 2) || (decide (x.weights.length = 0) && decide (x.labels.length = 0))) && (decide (x.kind = 4) || decide (x.values.length = 0)) && ((decide (x.kind ≠ 0) && decide (x.kind ≠ 1)) || decide (x.kids.length = 0)))) := rfl
 generalize cleanN x = res at hres
 rw [← hz] at hres
 obtain ⟨c,hc⟩ : ∃ c,c = cmpV x.value (.mk 0 0 [] []) := ⟨_,rfl⟩
 rw [← hc] at hC hres
 clear hz hc hx
 obtain ⟨kind,name,lo,hi,ws,ls,vals,kids,⟨vk,vn,vs,vks⟩⟩ := x
 simp only at hres hC
 have eW : (((encI ws).length : Int) == 0) = decide (ws.length = 0) := by rw [encI_length,Bool.eq_iff_iff]; simp
 have eL : (((encS ls).length : Int) == 0) = decide (ls.length = 0) := by rw [encS_length,Bool.eq_iff_iff]; simp
 have eV : (((encVs vals).length : Int) == 0) = decide (vals.length = 0) := by rw [encVs_length,Bool.eq_iff_iff]; simp
 have eK : (((encI kids).length : Int) == 0) = decide (kids.length = 0) := by rw [encI_length,Bool.eq_iff_iff]; simp
 have eN : (name == []) = decide (name = []) := by rw [Bool.eq_iff_iff]; simp
 have e1 : (lo == 0) = decide (lo = 0) := by rw [Bool.eq_iff_iff]; simp
 have e2 : (hi == 0) = decide (hi = 0) := by rw [Bool.eq_iff_iff]; simp
 refine acalls_go nnΓ Tryz.func64 rfl ?_
 rcases (show kind = 0 ∨ kind = 1 ∨ kind = 2 ∨ kind = 3 ∨ kind = 4 ∨ (kind < 0 ∨ 4 < kind) by omega) with rfl | rfl | rfl | rfl | rfl | hk
 ·((conv=>whnf);repeat(refine Xg ?_;conv=>whnf))
  rw [e1]
  generalize decide (lo = 0) = b1 at hres ⊢
  cases b1 with
  | false =>
   ((conv=>whnf);repeat(refine Xg ?_;conv=>whnf))
   exact fin_pure nn ⟨by rw [hres]; simp,rfl,rfl⟩
  | true =>
  ((conv=>whnf);repeat(refine Xg ?_;conv=>whnf))
  rw [e2]
  generalize decide (hi = 0) = b2 at hres ⊢
  cases b2 with
  | false =>
   ((conv=>whnf);repeat(refine Xg ?_;conv=>whnf))
   exact fin_pure nn ⟨by rw [hres]; simp,rfl,rfl⟩
  | true =>
  ((conv=>whnf);repeat(refine Xg ?_;conv=>whnf))
  rw [eW]
  generalize decide (ws.length = 0) = b3 at hres ⊢
  cases b3 with
  | false =>
   ((conv=>whnf);repeat(refine Xg ?_;conv=>whnf))
   exact fin_pure nn ⟨by rw [hres]; simp,rfl,rfl⟩
  | true =>
  ((conv=>whnf);repeat(refine Xg ?_;conv=>whnf))
  rw [eL]
  generalize decide (ls.length = 0) = b4 at hres ⊢
  cases b4 with
  | false =>
   ((conv=>whnf);repeat(refine Xg ?_;conv=>whnf))
   exact fin_pure nn ⟨by rw [hres]; simp,rfl,rfl⟩
  | true =>
  ((conv=>whnf);repeat(refine Xg ?_;conv=>whnf))
  rw [eN]
  generalize decide (name = []) = b5 at hres ⊢
  cases b5 with
  | false =>
   ((conv=>whnf);repeat(refine Xg ?_;conv=>whnf))
   exact fin_pure nn ⟨by rw [hres]; simp,rfl,rfl⟩
  | true =>
  ((conv=>whnf);repeat(refine Xg ?_;conv=>whnf))
  rw [eV]
  generalize decide (vals.length = 0) = b6 at hres ⊢
  cases b6 with
  | false =>
   ((conv=>whnf);repeat(refine Xg ?_;conv=>whnf))
   exact fin_pure nn ⟨by rw [hres]; simp,rfl,rfl⟩
  | true =>
  ((conv=>whnf);repeat(refine Xg ?_;conv=>whnf))
  rw [eK]
  generalize decide (kids.length = 0) = b7 at hres ⊢
  cases b7 with
  | false =>
   ((conv=>whnf);repeat(refine Xg ?_;conv=>whnf))
   exact fin_pure nn ⟨by rw [hres]; simp,rfl,rfl⟩
  | true =>
  ((conv=>whnf);repeat(refine Xg ?_;conv=>whnf))
  exact fin_pure nn ⟨by rw [hres]; simp,rfl,rfl⟩
 ·((conv=>whnf);repeat(refine Xg ?_;conv=>whnf))
  refine hC.useC nnΓ cvlZero nn ?_
  ((conv=>whnf);repeat(refine Xg ?_;conv=>whnf))
  generalize (c == 0) = b1 at hres ⊢
  cases b1 with
  | false =>
   ((conv=>whnf);repeat(refine Xg ?_;conv=>whnf))
   exact fin_pure nn ⟨by rw [hres]; simp,rfl,rfl⟩
  | true =>
  ((conv=>whnf);repeat(refine Xg ?_;conv=>whnf))
  rw [eW]
  generalize decide (ws.length = 0) = b2 at hres ⊢
  cases b2 with
  | false =>
   ((conv=>whnf);repeat(refine Xg ?_;conv=>whnf))
   exact fin_pure nn ⟨by rw [hres]; simp,rfl,rfl⟩
  | true =>
  ((conv=>whnf);repeat(refine Xg ?_;conv=>whnf))
  rw [eL]
  generalize decide (ls.length = 0) = b3 at hres ⊢
  cases b3 with
  | false =>
   ((conv=>whnf);repeat(refine Xg ?_;conv=>whnf))
   exact fin_pure nn ⟨by rw [hres]; simp,rfl,rfl⟩
  | true =>
  ((conv=>whnf);repeat(refine Xg ?_;conv=>whnf))
  rw [eN]
  generalize decide (name = []) = b4 at hres ⊢
  cases b4 with
  | false =>
   ((conv=>whnf);repeat(refine Xg ?_;conv=>whnf))
   exact fin_pure nn ⟨by rw [hres]; simp,rfl,rfl⟩
  | true =>
  ((conv=>whnf);repeat(refine Xg ?_;conv=>whnf))
  rw [eV]
  generalize decide (vals.length = 0) = b5 at hres ⊢
  cases b5 with
  | false =>
   ((conv=>whnf);repeat(refine Xg ?_;conv=>whnf))
   exact fin_pure nn ⟨by rw [hres]; simp,rfl,rfl⟩
  | true =>
  ((conv=>whnf);repeat(refine Xg ?_;conv=>whnf))
  rw [eK]
  generalize decide (kids.length = 0) = b6 at hres ⊢
  cases b6 with
  | false =>
   ((conv=>whnf);repeat(refine Xg ?_;conv=>whnf))
   exact fin_pure nn ⟨by rw [hres]; simp,rfl,rfl⟩
  | true =>
  ((conv=>whnf);repeat(refine Xg ?_;conv=>whnf))
  exact fin_pure nn ⟨by rw [hres]; simp,rfl,rfl⟩
 ·((conv=>whnf);repeat(refine Xg ?_;conv=>whnf))
  refine hC.useC nnΓ cvlZero nn ?_
  ((conv=>whnf);repeat(refine Xg ?_;conv=>whnf))
  generalize (c == 0) = b1 at hres ⊢
  cases b1 with
  | false =>
   ((conv=>whnf);repeat(refine Xg ?_;conv=>whnf))
   exact fin_pure nn ⟨by rw [hres]; simp,rfl,rfl⟩
  | true =>
  ((conv=>whnf);repeat(refine Xg ?_;conv=>whnf))
  rw [e1]
  generalize decide (lo = 0) = b2 at hres ⊢
  cases b2 with
  | false =>
   ((conv=>whnf);repeat(refine Xg ?_;conv=>whnf))
   exact fin_pure nn ⟨by rw [hres]; simp,rfl,rfl⟩
  | true =>
  ((conv=>whnf);repeat(refine Xg ?_;conv=>whnf))
  rw [e2]
  generalize decide (hi = 0) = b3 at hres ⊢
  cases b3 with
  | false =>
   ((conv=>whnf);repeat(refine Xg ?_;conv=>whnf))
   exact fin_pure nn ⟨by rw [hres]; simp,rfl,rfl⟩
  | true =>
  ((conv=>whnf);repeat(refine Xg ?_;conv=>whnf))
  rw [eN]
  generalize decide (name = []) = b4 at hres ⊢
  cases b4 with
  | false =>
   ((conv=>whnf);repeat(refine Xg ?_;conv=>whnf))
   exact fin_pure nn ⟨by rw [hres]; simp,rfl,rfl⟩
  | true =>
  ((conv=>whnf);repeat(refine Xg ?_;conv=>whnf))
  rw [eV]
  generalize decide (vals.length = 0) = b5 at hres ⊢
  cases b5 with
  | false =>
   ((conv=>whnf);repeat(refine Xg ?_;conv=>whnf))
   exact fin_pure nn ⟨by rw [hres]; simp,rfl,rfl⟩
  | true =>
  ((conv=>whnf);repeat(refine Xg ?_;conv=>whnf))
  exact fin_pure nn ⟨by rw [hres]; simp,rfl,rfl⟩
 ·((conv=>whnf);repeat(refine Xg ?_;conv=>whnf))
  refine hC.useC nnΓ cvlZero nn ?_
  ((conv=>whnf);repeat(refine Xg ?_;conv=>whnf))
  generalize (c == 0) = b1 at hres ⊢
  cases b1 with
  | false =>
   ((conv=>whnf);repeat(refine Xg ?_;conv=>whnf))
   exact fin_pure nn ⟨by rw [hres]; simp,rfl,rfl⟩
  | true =>
  ((conv=>whnf);repeat(refine Xg ?_;conv=>whnf))
  rw [e1]
  generalize decide (lo = 0) = b2 at hres ⊢
  cases b2 with
  | false =>
   ((conv=>whnf);repeat(refine Xg ?_;conv=>whnf))
   exact fin_pure nn ⟨by rw [hres]; simp,rfl,rfl⟩
  | true =>
  ((conv=>whnf);repeat(refine Xg ?_;conv=>whnf))
  rw [e2]
  generalize decide (hi = 0) = b3 at hres ⊢
  cases b3 with
  | false =>
   ((conv=>whnf);repeat(refine Xg ?_;conv=>whnf))
   exact fin_pure nn ⟨by rw [hres]; simp,rfl,rfl⟩
  | true =>
  ((conv=>whnf);repeat(refine Xg ?_;conv=>whnf))
  rw [eW]
  generalize decide (ws.length = 0) = b4 at hres ⊢
  cases b4 with
  | false =>
   ((conv=>whnf);repeat(refine Xg ?_;conv=>whnf))
   exact fin_pure nn ⟨by rw [hres]; simp,rfl,rfl⟩
  | true =>
  ((conv=>whnf);repeat(refine Xg ?_;conv=>whnf))
  rw [eL]
  generalize decide (ls.length = 0) = b5 at hres ⊢
  cases b5 with
  | false =>
   ((conv=>whnf);repeat(refine Xg ?_;conv=>whnf))
   exact fin_pure nn ⟨by rw [hres]; simp,rfl,rfl⟩
  | true =>
  ((conv=>whnf);repeat(refine Xg ?_;conv=>whnf))
  rw [eV]
  generalize decide (vals.length = 0) = b6 at hres ⊢
  cases b6 with
  | false =>
   ((conv=>whnf);repeat(refine Xg ?_;conv=>whnf))
   exact fin_pure nn ⟨by rw [hres]; simp,rfl,rfl⟩
  | true =>
  ((conv=>whnf);repeat(refine Xg ?_;conv=>whnf))
  exact fin_pure nn ⟨by rw [hres]; simp,rfl,rfl⟩
 ·((conv=>whnf);repeat(refine Xg ?_;conv=>whnf))
  refine hC.useC nnΓ cvlZero nn ?_
  ((conv=>whnf);repeat(refine Xg ?_;conv=>whnf))
  generalize (c == 0) = b1 at hres ⊢
  cases b1 with
  | false =>
   ((conv=>whnf);repeat(refine Xg ?_;conv=>whnf))
   exact fin_pure nn ⟨by rw [hres]; simp,rfl,rfl⟩
  | true =>
  ((conv=>whnf);repeat(refine Xg ?_;conv=>whnf))
  rw [e1]
  generalize decide (lo = 0) = b2 at hres ⊢
  cases b2 with
  | false =>
   ((conv=>whnf);repeat(refine Xg ?_;conv=>whnf))
   exact fin_pure nn ⟨by rw [hres]; simp,rfl,rfl⟩
  | true =>
  ((conv=>whnf);repeat(refine Xg ?_;conv=>whnf))
  rw [e2]
  generalize decide (hi = 0) = b3 at hres ⊢
  cases b3 with
  | false =>
   ((conv=>whnf);repeat(refine Xg ?_;conv=>whnf))
   exact fin_pure nn ⟨by rw [hres]; simp,rfl,rfl⟩
  | true =>
  ((conv=>whnf);repeat(refine Xg ?_;conv=>whnf))
  rw [eW]
  generalize decide (ws.length = 0) = b4 at hres ⊢
  cases b4 with
  | false =>
   ((conv=>whnf);repeat(refine Xg ?_;conv=>whnf))
   exact fin_pure nn ⟨by rw [hres]; simp,rfl,rfl⟩
  | true =>
  ((conv=>whnf);repeat(refine Xg ?_;conv=>whnf))
  rw [eL]
  generalize decide (ls.length = 0) = b5 at hres ⊢
  cases b5 with
  | false =>
   ((conv=>whnf);repeat(refine Xg ?_;conv=>whnf))
   exact fin_pure nn ⟨by rw [hres]; simp,rfl,rfl⟩
  | true =>
  ((conv=>whnf);repeat(refine Xg ?_;conv=>whnf))
  rw [eN]
  generalize decide (name = []) = b6 at hres ⊢
  cases b6 with
  | false =>
   ((conv=>whnf);repeat(refine Xg ?_;conv=>whnf))
   exact fin_pure nn ⟨by rw [hres]; simp,rfl,rfl⟩
  | true =>
  ((conv=>whnf);repeat(refine Xg ?_;conv=>whnf))
  exact fin_pure nn ⟨by rw [hres]; simp,rfl,rfl⟩
 ·rcases hk with hk | hk
  ·have d0 : decide (kind ≥ 0) = false := by simp; omega
   ((conv=>whnf);repeat(refine Xg ?_;conv=>whnf))
   rw [d0]
   ((conv=>whnf);repeat(refine Xg ?_;conv=>whnf))
   exact fin_pure nn ⟨by rw [hres,decide_eq_false (show ¬ 0 ≤ kind by omega)]; simp,rfl,rfl⟩
  ·have d0 : decide (kind ≥ 0) = true := by simp; omega
   have d1 : decide (kind ≤ 4) = false := by simp; omega
   ((conv=>whnf);repeat(refine Xg ?_;conv=>whnf))
   rw [d0]
   ((conv=>whnf);repeat(refine Xg ?_;conv=>whnf))
   rw [d1]
   ((conv=>whnf);repeat(refine Xg ?_;conv=>whnf))
   exact fin_pure nn ⟨by rw [hres,d1]; simp,rfl,rfl⟩
set_option maxHeartbeats 8000000
theorem tShaped (ns : List Nd) (i : Nat) (x : Nd) (hl : ns.length ≤ 4294967296) (hi : ns[i]? = some x) (hx : okN x) (hvl : x.values.length ≤ 1000000) (hc : cleanN x = true) :
  PureC Tryz.prog [] 65 [.ip (.agg [.il 12 (encNs ns),.junk,.junk,.junk]),.int .i64 i] (.bool (formedN i x)) := by
 have hil := (List.getElem?_eq_some_iff.1 hi).1
 have ex : (encNs ns)[(i : Int).toNat]? = some (encN x) := by simp [encNs_get,hi]
 have b1 := hx.kids
 have hxn := encN_nn x
 have hnn := encNs_nn ns
 have hcmp : ∀ a ∈ x.values,∀ b,PureC Tryz.prog [] 59 [encV a,encV b] (.int .i64 (cmpV a b)) := fun a ha b => vCompare a b (hx.valuesI a ha).1
 have hV := vValid (.mk 3 0 x.name []) (okV_list ⟨by omega,by omega⟩ ⟨by omega,by omega⟩ hx.name (by simp) (by simp [okVs])) (by simp [sizeV,sizeL])
 have hcap : (validV (.mk 3 0 x.name []) == 0) = capital x.name := by
  simp only [validV,formedV,formed1,formedL,wideV,wide1,wideL,sizeV,sizeL]
  cases capital x.name <;> simp
 have hres : formedN i x = (unusedN x && (decide (0 ≤ x.kind) && decide (x.kind ≤ 4)) && kidsIn i x.kids && (decide (x.kind ≠ 2) || (decide (1 ≤ x.kids.length) && decide (x.kids.length ≤ 256) && decide (x.weights.length = x.kids.length) && (decide (x.labels.length = 0) || decide (x.labels.length = x.kids.length)))) &&
  (decide (x.kind ≠ 3) || (decide (x.kids.length ≤ 256) && (decide (x.name = []) || (capital x.name && decide (x.kids.length ≤ 16))))) && (decide (x.kind ≠ 4) || decide (x.kids.length = x.values.length + 1)) && sortedA x.values) := rfl
 simp only [cleanN,Bool.and_eq_true,decide_eq_true_eq] at hc
 obtain ⟨⟨hk0,hk4⟩,hun⟩ := hc
 rw [hun,decide_eq_true hk0,decide_eq_true hk4] at hres
 have hvs : x.kind ≠ 4 → x.values = [] := fun h => by
  unfold unusedN at hun
  simp only [Bool.and_eq_true,Bool.or_eq_true,decide_eq_true_eq] at hun
  rcases hun.1.2 with h' | h'
  ·exact absurd h' h
  ·exact List.length_eq_zero_iff.1 h'
 generalize formedN i x = res at hres
 rw [← hcap] at hres
 generalize validV (.mk 3 0 x.name []) = cv at hV hres
 clear hx hcap hi hun
 obtain ⟨kind,name,lo,hi,ws,ls,vals,kids,⟨vk,vn,vs,vks⟩⟩ := x
 simp only at hres hV hcmp hvs hk0 hk4 b1 hvl
 have hF : (res = true → False) → AV.bool false = AV.bool res := fun h1 => by
  cases hr : res with
  | false => rfl
  | true => exact (h1 hr).elim
 refine acalls_go nnΓ Tryz.func65 rfl ?_
 ((conv=>whnf);repeat(refine Xg ?_;conv=>whnf))
 repeat (refine opt_mk ex ?_; ((conv=>whnf);repeat(refine Xg ?_;conv=>whnf)))
 refine ALoop.at nnΓ (fun k : Nat => k ≤ kids.length ∧ ∀ (j : Nat) (q : Int),j < k → kids[j]? = some q → 0 ≤ q ∧ q < i)
  (fun k => ⟨[(1,.int .i64 i),(5,.ip (encN ⟨kind,name,lo,hi,ws,ls,vals,kids,.mk vk vn vs vks⟩)),(6,.int .i64 kids.length),(24,.il 1 (encI kids)),(25,.int .i64 kids.length),(26,.int .i64 k)],[],0,132⟩) (fun k => kids.length - k) 0 [] ⟨by simp,by simp⟩
  (conv_pure ⟨⟨_,rfl,.same _ nn⟩,⟨_,rfl,.same _ (.ip _ (hxn.cells.get))⟩,⟨_,rfl,.int (by rw [encI_length])⟩,⟨_,rfl,.same _ (.il' (encI_nn _))⟩,⟨_,rfl,.int (by rw [encI_length])⟩,⟨_,rfl,.same _ nn⟩,trivial⟩) ?_
 rintro k ⟨hk,hall⟩
 ((conv=>whnf);repeat(refine Xg ?_;conv=>whnf))
 refine bcs_mk (fun h => ?_) (fun h => ?_)
 ·have hlt : k < kids.length := by simpa using h
  have e1 : (encI kids)[(k : Int).toNat]? = some (.int .i64 kids[k]) := by rw [Int.toNat_natCast,encI_get,List.getElem?_eq_getElem hlt]; rfl
  have hg : kids[k]? = some kids[k] := List.getElem?_eq_getElem hlt
  generalize kids[k] = q at e1 hg
  have hbad : (0 ≤ q ∧ q < i → False) → AV.bool false = AV.bool res := fun hb => hF (by
   intro e
   rw [hres] at e
   simp only [Bool.and_eq_true] at e
   exact hb (kidsIn_iff.1 e.1.1.1.1.2 k q hg))
  ((conv=>whnf);repeat(refine Xg ?_;conv=>whnf))
  refine opt_mk e1 ?_
  ((conv=>whnf);repeat(refine Xg ?_;conv=>whnf))
  by_cases g1 : 0 ≤ q
  ·have d1 : decide (q < 0) = false := by simp; omega
   rw [d1]
   ((conv=>whnf);repeat(refine Xg ?_;conv=>whnf))
   refine bcs_mk (fun h => ?_) (fun h => ?_)
   ·((conv=>whnf);repeat(refine Xg ?_;conv=>whnf))
    exact fin_pure nn ⟨hbad (by simp at h; omega),rfl,rfl⟩
   ·have g2 : q < i := by simpa using h
    ((conv=>whnf);repeat(refine Xg ?_;conv=>whnf))
    refine .mk (k + 1) [] ⟨by omega,fun j w2 hj hw2 => ?_⟩ (conv_pure ⟨⟨_,rfl,.same _ nn⟩,⟨_,rfl,.same _ (.ip _ (hxn.cells.get))⟩,⟨_,rfl,.same _ nn⟩,⟨_,rfl,.same _ (.il' (encI_nn _))⟩,⟨_,rfl,.same _ nn⟩,⟨_,rfl,.w64 (by omega) ⟨by omega,by omega⟩⟩,trivial⟩) (by omega)
    rcases Nat.lt_or_ge j k with hj' | hj'
    ·exact hall j w2 hj' hw2
    ·have hjk : j = k := by omega
     rw [hjk,hg] at hw2
     cases hw2
     exact ⟨g1,g2⟩
  ·have d1 : decide (q < 0) = true := by simp; omega
   rw [d1]
   ((conv=>whnf);repeat(refine Xg ?_;conv=>whnf))
   exact fin_pure nn ⟨hbad (by omega),rfl,rfl⟩
 ·have hk' : k = kids.length := by simp at h; omega
  have hkin : kidsIn i kids = true := kidsIn_iff.2 fun j q hj => hall j q (by rw [hk']; exact (List.getElem?_eq_some_iff.1 hj).1) hj
  rw [hkin] at hres
  clear hall hk hk' h hkin
  rcases (show kind = 0 ∨ kind = 1 ∨ kind = 2 ∨ kind = 3 ∨ kind = 4 by omega) with rfl | rfl | rfl | rfl | rfl
  ·obtain rfl := hvs (by decide)
   ((conv=>whnf);repeat(refine Xg ?_;conv=>whnf))
   exact fin_pure nn ⟨by rw [hres]; simp [sortedA],rfl,rfl⟩
  ·obtain rfl := hvs (by decide)
   ((conv=>whnf);repeat(refine Xg ?_;conv=>whnf))
   exact fin_pure nn ⟨by rw [hres]; simp [sortedA],rfl,rfl⟩
  ·obtain rfl := hvs (by decide)
   have f1 : decide ((kids.length : Int) ≥ 1) = decide (1 ≤ kids.length) := by rw [Bool.eq_iff_iff]; simp; omega
   have f2 : decide ((kids.length : Int) ≤ 256) = decide (kids.length ≤ 256) := by rw [Bool.eq_iff_iff]; simp; omega
   have f3 : (((encI ws).length : Int) == (kids.length : Int)) = decide (ws.length = kids.length) := by rw [encI_length,Bool.eq_iff_iff]; simp; omega
   have f4 : (((encS ls).length : Int) == 0) = decide (ls.length = 0) := by rw [encS_length,Bool.eq_iff_iff]; simp
   have f5 : (((encS ls).length : Int) == (kids.length : Int)) = decide (ls.length = kids.length) := by rw [encS_length,Bool.eq_iff_iff]; simp; omega
   ((conv=>whnf);repeat(refine Xg ?_;conv=>whnf))
   rw [f1]
   generalize decide (1 ≤ kids.length) = b1 at hres ⊢
   cases b1 with
   | false =>
    ((conv=>whnf);repeat(refine Xg ?_;conv=>whnf))
    exact fin_pure nn ⟨by rw [hres]; simp,rfl,rfl⟩
   | true =>
   ((conv=>whnf);repeat(refine Xg ?_;conv=>whnf))
   rw [f2]
   generalize decide (kids.length ≤ 256) = b2 at hres ⊢
   cases b2 with
   | false =>
    ((conv=>whnf);repeat(refine Xg ?_;conv=>whnf))
    exact fin_pure nn ⟨by rw [hres]; simp,rfl,rfl⟩
   | true =>
   ((conv=>whnf);repeat(refine Xg ?_;conv=>whnf))
   rw [f3]
   generalize decide (ws.length = kids.length) = b3 at hres ⊢
   cases b3 with
   | false =>
    ((conv=>whnf);repeat(refine Xg ?_;conv=>whnf))
    exact fin_pure nn ⟨by rw [hres]; simp,rfl,rfl⟩
   | true =>
   ((conv=>whnf);repeat(refine Xg ?_;conv=>whnf))
   rw [f4]
   generalize decide (ls.length = 0) = b4 at hres ⊢
   cases b4 with
   | true =>
    ((conv=>whnf);repeat(refine Xg ?_;conv=>whnf))
    exact fin_pure nn ⟨by rw [hres]; simp [sortedA],rfl,rfl⟩
   | false =>
    ((conv=>whnf);repeat(refine Xg ?_;conv=>whnf))
    rw [f5]
    exact fin_pure nn ⟨by rw [hres]; simp [sortedA],rfl,rfl⟩
  ·obtain rfl := hvs (by decide)
   have f1 : decide ((kids.length : Int) ≤ 16) = decide (kids.length ≤ 16) := by rw [Bool.eq_iff_iff]; simp; omega
   have f2 : decide ((kids.length : Int) ≤ 256) = decide (kids.length ≤ 256) := by rw [Bool.eq_iff_iff]; simp; omega
   ((conv=>whnf);repeat(refine Xg ?_;conv=>whnf))
   refine bcs_mk (fun h => ?_) (fun h => ?_)
   ·have hn : name = [] := by simpa using h
    rw [decide_eq_true hn] at hres
    ((conv=>whnf);repeat(refine Xg ?_;conv=>whnf))
    rw [f2]
    exact fin_pure nn ⟨by rw [hres]; simp [sortedA],rfl,rfl⟩
   ·have hn : ¬ name = [] := by simpa using h
    rw [decide_eq_false hn] at hres
    ((conv=>whnf);repeat(refine Xg ?_;conv=>whnf))
    rw [f1]
    by_cases g : kids.length ≤ 16
    ·rw [decide_eq_true g] at hres ⊢
     rw [decide_eq_true (show kids.length ≤ 256 by omega)] at hres
     ((conv=>whnf);repeat(refine Xg ?_;conv=>whnf))
     refine hV.useC nnΓ (.cons (.agg' (.cons (.same _ nn) (.cons (.same _ nn) (.cons (.same _ nn) (.cons (.nil 4) .nil))))) .nil) nn ?_
     ((conv=>whnf);repeat(refine Xg ?_;conv=>whnf))
     exact fin_pure nn ⟨by rw [hres]; simp [sortedA],rfl,rfl⟩
    ·rw [decide_eq_false g] at hres ⊢
     ((conv=>whnf);repeat(refine Xg ?_;conv=>whnf))
     exact fin_pure nn ⟨by rw [hres]; simp,rfl,rfl⟩
  ·have hw4 : IntKind.i64.wrap ((vals.length : Int) + 1) = (vals.length : Int) + 1 := w64 rfl ⟨by omega,by omega⟩
   ((conv=>whnf);repeat(refine Xg ?_;conv=>whnf))
   refine ALoop.at nnΓ (fun k : Nat => 1 ≤ k ∧ k ≤ max 1 vals.length ∧ ∀ (j : Nat) (a b : Val),j + 1 < k → vals[j]? = some a → vals[j + 1]? = some b → cmpV a b < 0)
    (fun k => ⟨[(5,.ip (encN ⟨4,name,lo,hi,ws,ls,vals,kids,.mk vk vn vs vks⟩)),(6,.int .i64 kids.length),(9,.int .i64 k)],[],0,132⟩) (fun k => vals.length - k) 1 [] ⟨by omega,by omega,fun j a b h => by omega⟩
    (conv_pure ⟨⟨_,rfl,.same _ (.ip _ (hxn.cells.get))⟩,⟨_,rfl,.same _ nn⟩,⟨_,rfl,.same _ nn⟩,trivial⟩) ?_
   rintro k ⟨hk1,hk2,hall⟩
   ((conv=>whnf);repeat(refine Xg ?_;conv=>whnf))
   refine bcs_mk (fun h => ?_) (fun h => ?_)
   ·have hlt : k < vals.length := by rw [encVs_length] at h; simpa using h
    obtain ⟨p1,p2,p3,p4,pm,pg,-,ep⟩ := enc_cases (l := vals) (k := k - 1) (by omega)
    obtain ⟨q1,q2,q3,q4,qm,qg,-,eq⟩ := enc_cases (l := vals) (k := k) hlt
    have hw1 : IntKind.i64.wrap ((k : Int) - 1) = ((k - 1 : Nat) : Int) := w64 (by omega) ⟨by omega,by omega⟩
    have hc := hcmp _ pm (.mk q1 q2 q3 q4)
    obtain ⟨c,hc0⟩ : ∃ c,c = cmpV (.mk p1 p2 p3 p4) (.mk q1 q2 q3 q4) := ⟨_,rfl⟩
    rw [← hc0] at hc
    ((conv=>whnf);repeat(refine Xg ?_;conv=>whnf))
    repeat (refine ⟨rfl, ?_⟩; ((conv=>whnf);repeat(refine Xg ?_;conv=>whnf)))
    rw [hw1]
    ((conv=>whnf);repeat(refine Xg ?_;conv=>whnf))
    repeat ((first | refine opt_mk ep ?_ | refine opt_mk eq ?_ | refine ⟨rfl, ?_⟩); ((conv=>whnf);repeat(refine Xg ?_;conv=>whnf)))
    refine hc.go ?_
    ((conv=>whnf);repeat(refine Xg ?_;conv=>whnf))
    repeat ((first | refine opt_mk ep ?_ | refine opt_mk eq ?_ | refine ⟨rfl, ?_⟩); ((conv=>whnf);repeat(refine Xg ?_;conv=>whnf)))
    refine bcs_mk (fun h => ?_) (fun h => ?_)
    ·((conv=>whnf);repeat(refine Xg ?_;conv=>whnf))
     refine fin_pure nn ⟨hF ?_,rfl,rfl⟩
     intro e
     rw [hres] at e
     simp only [Bool.and_eq_true] at e
     have := sortedA_at e.2 (k - 1) _ _ pg (by rw [show k - 1 + 1 = k by omega]; exact qg)
     rw [← hc0] at this
     simp at h
     omega
    ·((conv=>whnf);repeat(refine Xg ?_;conv=>whnf))
     refine .mk (k + 1) [] ⟨by omega,by omega,fun j a b hj ha hb => ?_⟩ (conv_pure ⟨⟨_,rfl,.same _ (.ip _ (hxn.cells.get))⟩,⟨_,rfl,.same _ nn⟩,⟨_,rfl,.w64 (by omega) ⟨by omega,by omega⟩⟩,trivial⟩) (by omega)
     rcases Nat.lt_or_ge (j + 1) k with hj' | hj'
     ·exact hall j a b hj' ha hb
     ·have hjk : j = k - 1 := by omega
      subst hjk
      rw [pg] at ha
      rw [show k - 1 + 1 = k by omega,qg] at hb
      cases ha
      cases hb
      rw [← hc0]
      simpa using h
   ·have hlt : vals.length ≤ k := by rw [encVs_length] at h; simpa using h
    have hso : sortedA vals = true := sortedA_of fun j a b ha hb => hall j a b (by have := (List.getElem?_eq_some_iff.1 hb).1; omega) ha hb
    rw [hso] at hres
    ((conv=>whnf);repeat(refine Xg ?_;conv=>whnf))
    rw [encVs_length,hw4]
    refine fin_pure nn ⟨?_,rfl,rfl⟩
    rw [hres]
    congr 1
    rw [Bool.eq_iff_iff]
    simp
    omega
set_option maxHeartbeats 8000000
theorem and_ok {a b : Bool} (h1 : a = true) (h2 : b = true) : (a && b) = true := by rw [h1,h2]; rfl
theorem mul_ok {n : Nat} {s m : Int} (hn : Nat.ble n 100 = true) (hs : 0 ≤ s) (h : 100 * s ≤ m) : decide ((n : Int) * s ≤ m) = true := by
 have hn := Nat.le_of_ble_eq_true hn
 have : (n : Int) * s ≤ 100 * s := Int.mul_le_mul_of_nonneg_right (by omega) hs
 simp; omega
theorem wMerged (a b : List Val) (ha : a.length ≤ 1000000) (hb : b.length ≤ 1000000) (hok : ∀ v ∈ a,okV v) :
  PureC Tryz.prog [] 144 [.il 4 (encVs a),.il 4 (encVs b)] (.il 4 (encVs (mergeV a b))) := by
 refine acalls_go nnΓ Tryz.func144 rfl ?_
 cases a with
 | nil =>
  rw [mergeV_nil]
  ((conv=>whnf);repeat(refine Xg ?_;conv=>whnf))
  exact fin_pure (.il' (encVs_nn _)) ⟨rfl,rfl,rfl⟩
 | cons x l =>
  have d0 : (((encVs (x :: l)).length : Int) == 0) = false := by rw [encVs_length,beq_eq_false_iff_ne]; simp; omega
  obtain ⟨a,hae⟩ : ∃ a,a = x :: l := ⟨_,rfl⟩
  rw [← hae] at d0 ha hok ⊢
  clear hae
  ((conv=>whnf);repeat(refine Xg ?_;conv=>whnf))
  rw [d0]
  have hw : IntKind.i64.wrap (((encVs a).length : Int) + ((encVs b).length : Int)) = ((encVs a).length : Int) + ((encVs b).length : Int) := wrap64 ⟨by omega,by rw [encVs_length,encVs_length]; omega⟩
  have hal : (encVs a).length ≤ 1000000 := by rw [encVs_length]; exact ha
  have hbl : (encVs b).length ≤ 1000000 := by rw [encVs_length]; exact hb
  ((conv=>whnf);repeat(refine Xg ?_;conv=>whnf))
  rw [hw]
  refine grd_mk (and_ok rfl (and_ok rfl (and_ok rfl (and_ok rfl (and_ok (decide_eq_true (by omega)) (and_ok (mul_ok rfl (by omega) (by omega)) (decide_eq_true (by omega)))))))) ?_
  ((conv=>whnf);repeat(refine Xg ?_;conv=>whnf))
  refine ALoop.at nnΓ (fun p : List Val × List Val × List Val => mergeV a b = p.1 ++ mergeV p.2.1 p.2.2 ∧ p.1.length ≤ 2000000 - p.2.1.length - p.2.2.length ∧ p.2.1.length + p.2.2.length ≤ 2000000 ∧ ∀ v ∈ p.2.1,okV v)
   (fun p => ⟨[(0,.il 4 (encVs p.2.1)),(1,.il 4 (encVs p.2.2)),(5,.sl 0 0 p.1.length)],[(0,.row 33 4 (encVs p.1))],1,57⟩) (fun p => p.2.1.length + p.2.2.length) ([],a,b) [(0,0)] ⟨by simp,by simp,by simp only; omega,hok⟩
   (conv_mk _ rfl ⟨⟨0,_,rfl,rfl,.same .nil⟩,trivial⟩ ⟨⟨_,rfl,.same _ (.il' (encVs_nn _))⟩,⟨_,rfl,.same _ (.il' (encVs_nn _))⟩,⟨_,rfl,.sl 0 0 0 _ rfl⟩,trivial⟩) ?_
  clear hok hw hal hbl d0 ha hb
  rintro ⟨out,a',b'⟩ ⟨hm,hlen,hle,hok⟩
  simp only at hm hlen hle hok ⊢
  have eg : ∀ (z : Val) (r : List Val),decide (((encVs (z :: r)).length : Int) > 0) = true := fun z r => by rw [encVs_length]; simp
  have cut : ∀ (z : Val) (r : List Val),((Int.toNat 1).ble (encVs (z :: r)).length && ((encVs (z :: r)).length.ble (encVs (z :: r)).length && (encVs (z :: r)).length.ble (encVs (z :: r)).length)) = true := fun z r => and_ok (Nat.ble_eq_true_of_le (by rw [encVs_length]; simp)) (and_ok (Nat.ble_eq_true_of_le (Nat.le_refl _)) (Nat.ble_eq_true_of_le (Nat.le_refl _)))
  have ec : ∀ (z : Val) (r : List Val),List.take ((encVs (z :: r)).length - Int.toNat 1) (List.drop (Int.toNat 1) (encVs (z :: r))) = encVs r := fun z r => by
   show List.take ((encVs (z :: r)).length - 1) (encVs r) = encVs r
   exact List.take_of_length_le (by rw [encVs_length,encVs_length]; simp)
  have fin : ∀ (o p q : List Val) (mem : Mem) (n : Nat) (id : Nat),mergeV a b = o ++ p ++ q → lk mem id = some (.row 33 4 (encVs o ++ encVs p ++ encVs q)) → Fini 0 (fun r m n => r = AV.il 4 (encVs (mergeV a b)) ∧ m = [] ∧ n = 0) (.sl id 0 (o.length + (encVs p).length + (encVs q).length)) mem n := by
   intro o p q mem n id h hl
   refine fin_cv (r' := .il 4 (encVs (mergeV a b))) (.fzR hl rfl (.eq (encVs_nn _) (by rw [h]; simp [encVs_map])) (by rw [h]; simp [encVs_length]; omega)) ⟨rfl,rfl,rfl⟩
  cases a' with
  | nil =>
   rw [mergeV_nil] at hm
   ((conv=>whnf);repeat(refine Xg ?_;conv=>whnf))
   refine grd_mk (app_ok rfl rfl (by simp [encVs_length]) (by simp [encVs_length] at *; omega)) ?_
   ((conv=>whnf);repeat(refine Xg ?_;conv=>whnf))
   refine grd_mk (app_ok rfl rfl (by simp [encVs_length]) (by simp [encVs_length] at *; omega)) ?_
   ((conv=>whnf);repeat(refine Xg ?_;conv=>whnf))
   exact fin out [] b' _ _ _ (by simpa using hm) rfl
  | cons x l =>
   cases b' with
   | nil =>
    rw [mergeV_nil'] at hm
    ((conv=>whnf);repeat(refine Xg ?_;conv=>whnf))
    rw [eg]
    ((conv=>whnf);repeat(refine Xg ?_;conv=>whnf))
    refine grd_mk (app_ok rfl rfl (by simp [encVs_length]) (by simp [encVs_length] at *; omega)) ?_
    ((conv=>whnf);repeat(refine Xg ?_;conv=>whnf))
    refine grd_mk (app_ok rfl rfl (by simp [encVs_length]) (by simp [encVs_length] at *; omega)) ?_
    ((conv=>whnf);repeat(refine Xg ?_;conv=>whnf))
    exact fin out (x :: l) [] _ _ _ (by simpa using hm) rfl
   | cons y m =>
    rw [mergeV_cons] at hm
    have hc := vCompare x y (hok x (by simp))
    have hok' : ∀ v ∈ l,okV v := fun v hv => hok v (by simp [hv])
    obtain ⟨c,hc0⟩ : ∃ c,c = cmpV x y := ⟨_,rfl⟩
    rw [← hc0] at hc hm
    clear hc0
    obtain ⟨x1,x2,x3,x4⟩ := x
    obtain ⟨y1,y2,y3,y4⟩ := y
    ((conv=>whnf);repeat(refine Xg ?_;conv=>whnf))
    rw [eg]
    ((conv=>whnf);repeat(refine Xg ?_;conv=>whnf))
    rw [eg]
    ((conv=>whnf);repeat(refine Xg ?_;conv=>whnf))
    repeat (refine ⟨rfl, ?_⟩; ((conv=>whnf);repeat(refine Xg ?_;conv=>whnf)))
    refine hc.go ?_
    ((conv=>whnf);repeat(refine Xg ?_;conv=>whnf))
    rcases (show c < 0 ∨ c = 0 ∨ 0 < c by omega) with hcc | hcc | hcc
    ·have d1 : decide (c ≤ 0) = true := by simp; omega
     have d2 : decide (c ≥ 0) = false := by simp; omega
     rw [if_pos hcc] at hm
     rw [d1]
     ((conv=>whnf);repeat(refine Xg ?_;conv=>whnf))
     repeat (refine ⟨rfl, ?_⟩; ((conv=>whnf);repeat(refine Xg ?_;conv=>whnf)))
     refine grd_mk (app_ok rfl rfl (by simp [encVs_length]) (by simp [encVs_length] at *; omega)) ?_
     ((conv=>whnf);repeat(refine Xg ?_;conv=>whnf))
     refine grd_mk (cut _ _) ?_
     rw [ec]
     ((conv=>whnf);repeat(refine Xg ?_;conv=>whnf))
     rw [d2]
     ((conv=>whnf);repeat(refine Xg ?_;conv=>whnf))
     exact .mk (out ++ [.mk x1 x2 x3 x4],l,(.mk y1 y2 y3 y4) :: m) [(10,0)] ⟨by simpa using hm,by simp at *; omega,by simp at *; omega,hok'⟩ (conv_mk _ rfl ⟨⟨10,_,rfl,rfl,.eq (encVs_nn _) (by rw [encVs_snoc]; rfl)⟩,trivial⟩ ⟨⟨_,rfl,.same _ (.il' (encVs_nn _))⟩,⟨_,rfl,.same _ (.il' (encVs_nn _))⟩,⟨_,rfl,.slE rfl (by simp)⟩,trivial⟩) (by first | (simp; done) | (simp; omega))
    ·have d1 : decide (c ≤ 0) = true := by simp; omega
     have d2 : decide (c ≥ 0) = true := by simp; omega
     rw [if_neg (by omega),if_pos hcc] at hm
     rw [d1]
     ((conv=>whnf);repeat(refine Xg ?_;conv=>whnf))
     repeat (refine ⟨rfl, ?_⟩; ((conv=>whnf);repeat(refine Xg ?_;conv=>whnf)))
     refine grd_mk (app_ok rfl rfl (by simp [encVs_length]) (by simp [encVs_length] at *; omega)) ?_
     ((conv=>whnf);repeat(refine Xg ?_;conv=>whnf))
     refine grd_mk (cut _ _) ?_
     rw [ec]
     ((conv=>whnf);repeat(refine Xg ?_;conv=>whnf))
     rw [d2]
     ((conv=>whnf);repeat(refine Xg ?_;conv=>whnf))
     refine grd_mk (cut _ _) ?_
     rw [ec]
     ((conv=>whnf);repeat(refine Xg ?_;conv=>whnf))
     exact .mk (out ++ [.mk x1 x2 x3 x4],l,m) [(10,0)] ⟨by simpa using hm,by simp at *; omega,by simp at *; omega,hok'⟩ (conv_mk _ rfl ⟨⟨10,_,rfl,rfl,.eq (encVs_nn _) (by rw [encVs_snoc]; rfl)⟩,trivial⟩ ⟨⟨_,rfl,.same _ (.il' (encVs_nn _))⟩,⟨_,rfl,.same _ (.il' (encVs_nn _))⟩,⟨_,rfl,.slE rfl (by simp)⟩,trivial⟩) (by first | (simp; done) | (simp; omega))
    ·have d1 : decide (c ≤ 0) = false := by simp; omega
     have d2 : decide (c ≥ 0) = true := by simp; omega
     rw [if_neg (by omega),if_neg (by omega)] at hm
     rw [d1]
     ((conv=>whnf);repeat(refine Xg ?_;conv=>whnf))
     repeat (refine ⟨rfl, ?_⟩; ((conv=>whnf);repeat(refine Xg ?_;conv=>whnf)))
     refine grd_mk (app_ok rfl rfl (by simp [encVs_length]) (by simp [encVs_length] at *; omega)) ?_
     ((conv=>whnf);repeat(refine Xg ?_;conv=>whnf))
     rw [d2]
     ((conv=>whnf);repeat(refine Xg ?_;conv=>whnf))
     refine grd_mk (cut _ _) ?_
     rw [ec]
     ((conv=>whnf);repeat(refine Xg ?_;conv=>whnf))
     exact .mk (out ++ [.mk y1 y2 y3 y4],(.mk x1 x2 x3 x4) :: l,m) [(10,0)] ⟨by simpa using hm,by simp at *; omega,by simp at *; omega,hok⟩ (conv_mk _ rfl ⟨⟨10,_,rfl,rfl,.eq (encVs_nn _) (by rw [encVs_snoc]; rfl)⟩,trivial⟩ ⟨⟨_,rfl,.same _ (.il' (encVs_nn _))⟩,⟨_,rfl,.same _ (.il' (encVs_nn _))⟩,⟨_,rfl,.slE rfl (by simp)⟩,trivial⟩) (by first | (simp; done) | (simp; omega))
set_option maxHeartbeats 8000000
theorem zipWith_set {α β γ : Type} (f : α → β → γ) : ∀ (a : List α) (b : List β) (i : Nat) (x : α) (y : β),b[i]? = some y → List.zipWith f (a.set i x) b = (List.zipWith f a b).set i (f x y)
 | [],b,i,x,y,_ => by simp
 | p :: a,[],i,x,y,hy => by simp at hy
 | p :: a,q :: b,0,x,y,hy => by simp at hy; subst hy; simp
 | p :: a,q :: b,i + 1,x,y,hy => by simp at hy; simp [zipWith_set f a b i x y hy]
def kB (kn : List Bool) : List AV := kn.map AV.bool
def lB (L : List Lst) (kn : List Bool) : List AV := List.zipWith (fun b (x : Lst) => AV.il 4 (encVs (if b = true then x.vals else []))) kn L
def mB (L : List Lst) (kn : List Bool) : List AV := List.zipWith (fun b (x : Lst) => AV.bool (b && x.many)) kn L
theorem kB_nn (kn : List Bool) : NNs (kB kn) := fun a ha => by
 obtain ⟨n,_,rfl⟩ := List.mem_map.1 ha
 exact .bool _
theorem zip_mem {α β γ : Type} {f : α → β → γ} {a : List α} {b : List β} {z : γ} (h : z ∈ List.zipWith f a b) : ∃ x y,z = f x y := by
 obtain ⟨i,hi⟩ := List.getElem?_of_mem h
 rw [List.getElem?_zipWith] at hi
 split at hi
 ·cases hi; exact ⟨_,_,rfl⟩
 ·cases hi
theorem lB_nn (L : List Lst) (kn : List Bool) : NNs (lB L kn) := fun a ha => by
 obtain ⟨x,y,rfl⟩ := zip_mem ha
 exact .il' (encVs_nn _)
theorem mB_nn (L : List Lst) (kn : List Bool) : NNs (mB L kn) := fun a ha => by
 obtain ⟨x,y,rfl⟩ := zip_mem ha
 exact .bool _
theorem atL_some {L : List Lst} {i : Nat} (h : i < L.length) : L[i]? = some (atL L i) := by
 unfold atL
 rw [List.getD_eq_getElem?_getD,Int.toNat_natCast,List.getElem?_eq_getElem h]; rfl
theorem kB_get {kn : List Bool} {i : Nat} {b : Bool} (h : kn[i]? = some b) : (kB kn)[i]? = some (.bool b) := by simp [kB,h]
theorem lB_get {L : List Lst} {kn : List Bool} {i : Nat} {b : Bool} (h : kn[i]? = some b) (hl : i < L.length) : (lB L kn)[i]? = some (.il 4 (encVs (if b = true then (atL L i).vals else []))) := by
 simp [lB,List.getElem?_zipWith,h,atL_some hl]
theorem mB_get {L : List Lst} {kn : List Bool} {i : Nat} {b : Bool} (h : kn[i]? = some b) (hl : i < L.length) : (mB L kn)[i]? = some (.bool (b && (atL L i).many)) := by
 simp [mB,List.getElem?_zipWith,h,atL_some hl]
theorem kB_set (kn : List Bool) (i : Nat) (b : Bool) : kB (kn.set i b) = (kB kn).set i (.bool b) := by simp [kB,List.map_set]
theorem lB_set {L : List Lst} (kn : List Bool) {i : Nat} (hl : i < L.length) : lB L (kn.set i true) = (lB L kn).set i (.il 4 (encVs (atL L i).vals)) := by
 unfold lB; rw [zipWith_set _ kn L i true _ (atL_some hl)]; simp
theorem mB_set {L : List Lst} (kn : List Bool) {i : Nat} (hl : i < L.length) : mB L (kn.set i true) = (mB L kn).set i (.bool (atL L i).many) := by
 unfold mB; rw [zipWith_set _ kn L i true _ (atL_some hl)]; simp
def sM (ns : List Nd) (kn : List Bool) : Mem := [(0,.row 140 4 [.agg [.il 12 (encNs ns),.sl 1 0 ns.length,.sl 2 0 ns.length,.sl 3 0 ns.length]]),(1,.row 4 1 (kB kn)),(2,.row 31 1 (lB (listsT ns) kn)),(3,.row 4 1 (mB (listsT ns) kn))]
def uQ (ns : List Nd) (l : Lst) : AV → Mem → Nat → Prop := fun r m k => ∃ kn,kn.length = ns.length ∧ r = .tup [.il 4 (encVs l.vals),.bool (!l.many)] ∧ m = sM ns kn ∧ k = 4
def sQ (ns : List Nd) (i : Nat) : AV → Mem → Nat → Prop := uQ ns (atL (listsT ns) i)
theorem sRow {mem : Mem} {σ : List (Nat × Nat)} {ns : List Nd} {N a b c a' b' c' : Nat} (h1 : lk σ a = some a') (h2 : lk σ b = some b') (h3 : lk σ c = some c') :
  CvR mem σ [.agg [.il 12 (encNs ns),.sl a 0 N,.sl b 0 N,.sl c 0 N]] [.agg [.il 12 (encNs ns),.sl a' 0 N,.sl b' 0 N,.sl c' 0 N]] :=
 .cons (.agg (.cons (.same _ (.il' (encNs_nn _))) (.cons (.sl a a' 0 N h1) (.cons (.sl b b' 0 N h2) (.cons (.sl c c' 0 N h3) .nil))))) .nil
theorem sM_conv (ns : List Nd) (kn : List Bool) : MemConv (sM ns kn) (idS [0,1,2,3]) (sM ns kn) :=
 ⟨⟨0,_,rfl,rfl,sRow rfl rfl rfl⟩,⟨1,_,rfl,rfl,.same (kB_nn _)⟩,⟨2,_,rfl,rfl,.same (lB_nn _ _)⟩,⟨3,_,rfl,rfl,.same (mB_nn _ _)⟩,trivial⟩
theorem sOfF {ns : List Nd} {n : Nat} (h : SetOK ns n) (i : Nat) (hi : i < n) (kn : List Bool) (hk : kn.length = ns.length)
  (hF : ACalls Tryz.prog [] 119 [.ptr 0 0 0,.int .i64 i] (sM ns kn) 4 (sQ ns i)) :
  ACalls Tryz.prog [] 94 [.ptr 0 0 0,.int .i64 i] (sM ns kn) 4 (sQ ns i) := by
 have hN := h.hn
 have hL : i < (listsT ns).length := by rw [listsT_length]; omega
 have h0 : 0 + ((i : Nat) : Int).toNat = i := by simp
 have hg : ∀ kn : List Bool,kn.length = ns.length → ∃ b,kn[i]? = some b := fun kn hk => ⟨kn[i],List.getElem?_eq_getElem (by omega)⟩
 obtain ⟨b,hb⟩ := hg kn hk
 have e1 : (kB kn)[0 + ((i : Nat) : Int).toNat]? = some (.bool b) := by rw [h0]; exact kB_get hb
 have g1 : Nat.blt ((i : Nat) : Int).toNat ns.length = true := Nat.ble_eq_true_of_le (by simp; omega)
 refine acalls_go nnΓ Tryz.func94 rfl ?_
 ((conv=>whnf);repeat(refine Xg ?_;conv=>whnf))
 repeat ((first | refine grd_mk g1 ?_ | refine opt_mk e1 ?_); ((conv=>whnf);repeat(refine Xg ?_;conv=>whnf)))
 have fin : ∀ (mem : Mem) (kn' : List Bool),kn'.length = ns.length → MemConv mem (idS [0,1,2,3]) (sM ns kn') → ∀ (r : AV) (nx : Nat),Cv mem (idS [0,1,2,3]) r (.tup [.il 4 (encVs (atL (listsT ns) i).vals),.bool (!(atL (listsT ns) i).many)]) → Fini 4 (sQ ns i) r mem nx :=
  fun mem kn' hk' hM r nx hr => fin_mk (n' := 4) (m' := sM ns kn') (idS [0,1,2,3]) rfl hM hr ⟨kn',hk',rfl,rfl,rfl⟩
 cases b with
 | true =>
  have e2 : (lB (listsT ns) kn)[0 + ((i : Nat) : Int).toNat]? = some (.il 4 (encVs (atL (listsT ns) i).vals)) := by rw [h0,lB_get hb hL]; rfl
  have e3 : (mB (listsT ns) kn)[0 + ((i : Nat) : Int).toNat]? = some (.bool (atL (listsT ns) i).many) := by rw [h0,mB_get hb hL]; rfl
  ((conv=>whnf);repeat(refine Xg ?_;conv=>whnf))
  repeat ((first | refine grd_mk g1 ?_ | refine opt_mk e1 ?_ | refine opt_mk e2 ?_ | refine opt_mk e3 ?_ | refine ⟨rfl, ?_⟩); ((conv=>whnf);repeat(refine Xg ?_;conv=>whnf)))
  exact fin _ kn hk (sM_conv ns kn) _ _ (.same _ nn)
 | false =>
  ((conv=>whnf);repeat(refine Xg ?_;conv=>whnf))
  refine ACalls.useI nnΓ [0,1,2,3] hF (by rfl) (.cons (.ptr 0 0 0 0 rfl) (.cons (.same _ nn) .nil)) (sM_conv ns kn) (by rfl) ?_
  rintro r m k ⟨kn',hk',rfl,rfl,rfl⟩
  refine ⟨nn,sM_conv ns kn',by rfl, ?_⟩
  obtain ⟨b',hb'⟩ := hg kn' hk'
  have e1 : (kB kn')[0 + ((i : Nat) : Int).toNat]? = some (.bool b') := by rw [h0]; exact kB_get hb'
  have e2 := lB_get hb' hL
  have e3 := mB_get hb' hL
  rw [← h0] at e2 e3
  have q1 : ((kB kn').set (0 + ((i : Nat) : Int).toNat) (.bool true))[0 + ((i : Nat) : Int).toNat]? = some (.bool true) := by rw [h0]; exact List.getElem?_set_self (by simp [kB]; omega)
  have q2 : ((lB (listsT ns) kn').set (0 + ((i : Nat) : Int).toNat) (.il 4 (encVs (atL (listsT ns) i).vals)))[0 + ((i : Nat) : Int).toNat]? = some (.il 4 (encVs (atL (listsT ns) i).vals)) := by rw [h0]; exact List.getElem?_set_self (by simp [lB,List.length_zipWith]; omega)
  have q3 : ((mB (listsT ns) kn').set (0 + ((i : Nat) : Int).toNat) (.bool (!(!(atL (listsT ns) i).many))))[0 + ((i : Nat) : Int).toNat]? = some (.bool (!(!(atL (listsT ns) i).many))) := by rw [h0]; exact List.getElem?_set_self (by simp [mB,List.length_zipWith]; omega)
  ((conv=>whnf);repeat(refine Xg ?_;conv=>whnf))
  repeat ((first | refine grd_mk g1 ?_ | refine opt_mk e1 ?_ | refine opt_mk e2 ?_ | refine opt_mk e3 ?_ | refine opt_mk q1 ?_ | refine opt_mk q2 ?_ | refine opt_mk q3 ?_ | refine ⟨rfl, ?_⟩ | refine setK_iff.2 ?_); ((conv=>whnf);repeat(refine Xg ?_;conv=>whnf)))
  rw [h0]
  refine fin _ (kn'.set i true) (by simp [hk']) ⟨⟨0,_,rfl,rfl,sRow rfl rfl rfl⟩,⟨1,_,rfl,rfl,.eq (kB_nn _) (kB_set _ _ _).symm⟩,⟨2,_,rfl,rfl,.eq (lB_nn _ _) (lB_set _ hL).symm⟩,⟨3,_,rfl,rfl,.eq (mB_nn _ _) (by rw [mB_set _ hL,Bool.not_not])⟩,trivial⟩ _ _ (.eq nn (by rw [Bool.not_not]))
set_option maxHeartbeats 8000000
def OfOK (ns : List Nd) (i : Nat) : Prop := ∀ kn : List Bool,kn.length = ns.length → ACalls Tryz.prog [] 94 [.ptr 0 0 0,.int .i64 i] (sM ns kn) 4 (sQ ns i)
theorem uFin {ns : List Nd} {l : Lst} (mem : Mem) (kn' : List Bool) (hk' : kn'.length = ns.length) (hM : MemConv mem (idS [0,1,2,3]) (sM ns kn')) (r : AV) (nx : Nat) (hr : Cv mem (idS [0,1,2,3]) r (.tup [.il 4 (encVs l.vals),.bool (!l.many)])) : Fini 4 (uQ ns l) r mem nx :=
 fin_mk (n' := 4) (m' := sM ns kn') (idS [0,1,2,3]) rfl hM hr ⟨kn',hk',rfl,rfl,rfl⟩
theorem sUnion {ns : List Nd} {n : Nat} (h : SetOK ns n) (i : Nat) (hi : i ≤ n) (kids : List Int) (hkl : kids.length ≤ 65536) (hkids : ∀ k ∈ kids,0 ≤ k ∧ k < i) (hOf : ∀ j < i,OfOK ns j) (kn : List Bool) (hk : kn.length = ns.length) :
  ACalls Tryz.prog [] 133 [.ptr 0 0 0,.il 1 (encI kids)] (sM ns kn) 4 (uQ ns (uniL (listsT ns) kids)) := by
 refine acalls_go nnΓ Tryz.func133 rfl ?_
 ((conv=>whnf);repeat(refine Xg ?_;conv=>whnf))
 refine ALoop.at nnΓ (fun p : Nat × List Bool × List Val => p.1 ≤ kids.length ∧ p.2.1.length = ns.length ∧ (kids.take p.1).foldl (uniStep (listsT ns)) ([],false) = (p.2.2,false) ∧ Srt p.2.2 ∧ p.2.2.length ≤ 1024 ∧ ∀ v ∈ p.2.2,okV v)
  (fun p => ⟨[(0,.ptr 0 0 0),(6,.il 4 (encVs p.2.2)),(11,.il 1 (encI kids)),(12,.int .i64 kids.length),(13,.int .i64 p.1)],sM ns p.2.1,4,33⟩) (fun p => kids.length - p.1) (0,kn,[]) (idS [0,1,2,3])
  ⟨by simp,hk,by simp,by simp [Srt],by simp,by simp⟩
  (conv_mk _ rfl (sM_conv ns kn) ⟨⟨_,rfl,.ptr 0 0 0 0 rfl⟩,⟨_,rfl,.nil 4⟩,⟨_,rfl,.same _ (.il' (encI_nn _))⟩,⟨_,rfl,.int (by rw [encI_length])⟩,⟨_,rfl,.same _ nn⟩,trivial⟩) ?_
 rintro ⟨j,kn,out⟩ ⟨hj,hk,hf,hso,hol,hok⟩
 simp only at hj hk hf hso hol hok ⊢
 ((conv=>whnf);repeat(refine Xg ?_;conv=>whnf))
 refine bcs_mk (fun hb => ?_) (fun hb => ?_)
 ·have hlt : j < kids.length := by simpa using hb
  have e1 : (encI kids)[(j : Int).toNat]? = some (.int .i64 kids[j]) := by rw [Int.toNat_natCast,encI_get,List.getElem?_eq_getElem hlt]; rfl
  have hg : kids[j]? = some kids[j] := List.getElem?_eq_getElem hlt
  generalize kids[j] = k at e1 hg
  obtain ⟨k0,k1⟩ := hkids k (List.mem_of_getElem? hg)
  obtain ⟨k,rfl⟩ := Int.eq_ofNat_of_zero_le k0
  have hO := hOf k (by omega) kn hk
  have hst := uni_at hg hf
  have hvals := h.vals (k := k) (by omega) (by omega)
  have hsr := srtT ns k
  simp only [uniStep,Bool.false_or] at hst
  unfold sQ at hO
  ((conv=>whnf);repeat(refine Xg ?_;conv=>whnf))
  refine opt_mk e1 ?_
  ((conv=>whnf);repeat(refine Xg ?_;conv=>whnf))
  refine ACalls.useI nnΓ [0,1,2,3] hO (by rfl) (.cons (.ptr 0 0 0 0 rfl) (.cons (.same _ nn) .nil)) (sM_conv ns kn) (by rfl) ?_
  rintro r m k' ⟨kn',hk',rfl,rfl,rfl⟩
  refine ⟨nn,sM_conv ns kn',by rfl, ?_⟩
  generalize atL (listsT ns) k = lk at hst hvals hsr
  obtain ⟨lv,lm⟩ := lk
  simp only at hst hvals hsr
  cases lm with
  | true =>
   have hbad := uni_bad (bs := listsT ns) (kids := kids) (j := j + 1) (by rw [hst]; rfl)
   rw [hbad]
   ((conv=>whnf);repeat(refine Xg ?_;conv=>whnf))
   exact uFin _ kn' hk' (sM_conv ns kn') _ _ (.tup' (.cons (.nil 4) (.cons (.same _ nn) .nil)))
  | false =>
   have hm := wMerged out lv (by omega) (by omega) hok
   have hms := mergeV_sort hso hsr
   rw [← hms] at hst
   have hmok : ∀ v ∈ mergeV out lv,okV v := fun v hv => by
    rcases (mergeV_has _ _ _).1 hv with hv | hv
    ·exact hok v hv
    ·exact hvals.2 v hv
   have hmsr := mergeV_srt out lv hso hsr
   generalize mergeV out lv = mg at *
   ((conv=>whnf);repeat(refine Xg ?_;conv=>whnf))
   refine hm.go ?_
   ((conv=>whnf);repeat(refine Xg ?_;conv=>whnf))
   refine bcs_mk (fun hb2 => ?_) (fun hb2 => ?_)
   ·have h1 : 1024 < mg.length := by rw [encVs_length] at hb2; simp at hb2; omega
    have hbad := uni_bad (bs := listsT ns) (kids := kids) (j := j + 1) (by rw [hst]; simpa using h1)
    rw [hbad]
    ((conv=>whnf);repeat(refine Xg ?_;conv=>whnf))
    exact uFin _ kn' hk' (sM_conv ns kn') _ _ (.tup' (.cons (.nil 4) (.cons (.same _ nn) .nil)))
   ·have h1 : mg.length ≤ 1024 := by rw [encVs_length] at hb2; simp at hb2; omega
    ((conv=>whnf);repeat(refine Xg ?_;conv=>whnf))
    exact .mk (j + 1,kn',mg) (idS [0,1,2,3]) ⟨by simp only; omega,hk',by simp only; rw [hst]; simp; omega,hmsr,h1,hmok⟩
     (conv_mk _ rfl (sM_conv ns kn') ⟨⟨_,rfl,.ptr 0 0 0 0 rfl⟩,⟨_,rfl,.same _ nn⟩,⟨_,rfl,.same _ (.il' (encI_nn _))⟩,⟨_,rfl,.same _ nn⟩,⟨_,rfl,.w64 (by simp only; omega) ⟨by simp only; omega,by simp only; omega⟩⟩,trivial⟩) (by simp only; omega)
 ·have hlt : j = kids.length := by simp at hb; omega
  rw [hlt,List.take_length] at hf
  rw [uni_good hf]
  ((conv=>whnf);repeat(refine Xg ?_;conv=>whnf))
  exact uFin _ kn hk (sM_conv ns kn) _ _ (.same _ nn)
def encLs (ls : List (List Val)) : List AV := ls.map fun l => .il 4 (encVs l)
theorem encLs_nn (ls : List (List Val)) : NNs (encLs ls) := fun a ha => by
 obtain ⟨l,_,rfl⟩ := List.mem_map.1 ha
 exact .il' (encVs_nn _)
theorem encLs_length (ls : List (List Val)) : (encLs ls).length = ls.length := by simp [encLs]
theorem encLs_get {ls : List (List Val)} {i : Nat} {l : List Val} (h : ls[i]? = some l) : (encLs ls)[i]? = some (.il 4 (encVs l)) := by simp [encLs,h]
def sMx (ns : List Nd) (kn : List Bool) (rest : Mem) : Mem := (0,.row 140 4 [.agg [.il 12 (encNs ns),.sl 1 0 ns.length,.sl 2 0 ns.length,.sl 3 0 ns.length]]) :: (1,.row 4 1 (kB kn)) :: (2,.row 31 1 (lB (listsT ns) kn)) :: (3,.row 4 1 (mB (listsT ns) kn)) :: rest
theorem sMx_conv {mem : Mem} {σ : List (Nat × Nat)} {ns : List Nd} {kn : List Bool} {rest : Mem} (h0 : lk σ 0 = some 0) (h1 : lk σ 1 = some 1) (h2 : lk σ 2 = some 2) (h3 : lk σ 3 = some 3)
  (m0 : lk mem 0 = some (.row 140 4 [.agg [.il 12 (encNs ns),.sl 1 0 ns.length,.sl 2 0 ns.length,.sl 3 0 ns.length]])) (m1 : lk mem 1 = some (.row 4 1 (kB kn))) (m2 : lk mem 2 = some (.row 31 1 (lB (listsT ns) kn))) (m3 : lk mem 3 = some (.row 4 1 (mB (listsT ns) kn)))
  (hr : MemConv mem σ rest) : MemConv mem σ (sMx ns kn rest) :=
 ⟨⟨0,_,h0,m0,sRow h1 h2 h3⟩,⟨1,_,h1,m1,.same (kB_nn _)⟩,⟨2,_,h2,m2,.same (lB_nn _ _)⟩,⟨3,_,h3,m3,.same (mB_nn _ _)⟩,hr⟩
theorem cvr_nils {mem : Mem} {σ : List (Nat × Nat)} : ∀ m : Nat,CvR mem σ (List.replicate m .nsl) (encLs (List.replicate m []))
 | 0 => .nil
 | m + 1 => by
  rw [List.replicate_succ,List.replicate_succ]
  exact .cons (.one rfl rfl (.nil 4)) (cvr_nils m)
theorem enc_set (ls : List (List Val)) (i : Nat) (l : List Val) : encLs (ls.set i l) = (encLs ls).set i (.il 4 (encVs l)) := by simp [encLs,List.map_set]
theorem cvr_zeros {mem : Mem} {σ : List (Nat × Nat)} : ∀ m : Nat,CvR mem σ (List.replicate m (.agg [.int .i64 0,.int .i64 0,.str [],.nsl])) (encVs (List.replicate m (.mk 0 0 [] [])))
 | 0 => .nil
 | m + 1 => by
  rw [List.replicate_succ,List.replicate_succ,encVs]
  exact .cons (cvVal 0 0 []) (cvr_zeros m)
theorem sProduct {ns : List Nd} {n : Nat} (h : SetOK ns n) (i : Nat) (hi : i ≤ n) (x : Nd) (hkl : x.kids.length ≤ 65536) (hkids : ∀ k ∈ x.kids,0 ≤ k ∧ k < i) (hOf : ∀ j < i,OfOK ns j) (kn : List Bool) (hk : kn.length = ns.length) :
  ACalls Tryz.prog [] 134 [.ptr 0 0 0,.ip (encN x)] (sM ns kn) 4 (uQ ns (seqL (listsT ns) x)) := by
 have hxn := encN_nn x
 have hpb := fun (j : Nat) (e : ((x.kids.take j).foldl (proStep (listsT ns)) (1,false)).2 = true) => pro_bad (bs := listsT ns) (x := x) (j := j) e
 have hpg := fun (t : Nat) (e : x.kids.foldl (proStep (listsT ns)) (1,false) = (t,false)) => pro_good (listsT_srt ns) (x := x) (t := t) e
 have hmade := fun ks => wMade x ks
 generalize seqL (listsT ns) x = res at hpb hpg ⊢
 obtain ⟨kind,name,lo,hi',ws,ls,vals,kids,⟨vk,vn,vs,vks⟩⟩ := x
 simp only at hkl hkids hpb hpg
 refine acalls_go nnΓ Tryz.func134 rfl ?_
 ((conv=>whnf);repeat(refine Xg ?_;conv=>whnf))
 refine grd_mk (and_ok rfl (and_ok rfl (and_ok rfl (and_ok (decide_eq_true (by omega)) (and_ok (decide_eq_true (by omega)) (and_ok (mul_ok rfl (by omega) (by simp only [encI_length]; omega)) (decide_eq_true (by simp only [encI_length]; omega)))))))) ?_
 ((conv=>whnf);repeat(refine Xg ?_;conv=>whnf))
 refine ALoop.at nnΓ (fun p : Nat × List Bool × Nat × List (List Val) => p.1 ≤ kids.length ∧ p.2.1.length = ns.length ∧ (kids.take p.1).foldl (proStep (listsT ns)) (1,false) = (p.2.2.1,false) ∧ p.2.2.1 ≤ 1024 ∧ p.2.2.2.length = kids.length ∧ (∀ (q : Nat) (k : Int),q < p.1 → kids[q]? = some k → p.2.2.2[q]? = some (atL (listsT ns) k).vals ∧ (atL (listsT ns) k).vals ≠ []))
  (fun p => ⟨[(0,.ptr 0 0 0),(1,.ip (encN ⟨kind,name,lo,hi',ws,ls,vals,kids,.mk vk vn vs vks⟩)),(6,.sl 4 0 kids.length),(7,.int .i64 p.2.2.1),(25,.il 1 (encI kids)),(26,.int .i64 kids.length),(27,.int .i64 p.1)],sMx ns p.2.1 [(4,.row 31 1 (encLs p.2.2.2))],5,98⟩)
  (fun p => kids.length - p.1) (0,kn,1,List.replicate kids.length []) (idS [0,1,2,3,4])
  ⟨by simp,hk,by simp,by simp,by simp,fun q k hq => by simp at hq⟩
  (conv_mk _ rfl (sMx_conv rfl rfl rfl rfl rfl rfl rfl rfl ⟨⟨4,_,rfl,rfl,.to (cvr_nils kids.length) (by rw [show (((encI kids).length : Nat) : Int).toNat = kids.length by rw [encI_length]; simp])⟩,trivial⟩) ⟨⟨_,rfl,.ptr 0 0 0 0 rfl⟩,⟨_,rfl,.same _ (.ip' hxn)⟩,⟨_,rfl,.slE rfl (by rw [encI_length]; simp)⟩,⟨_,rfl,.same _ nn⟩,⟨_,rfl,.same _ (.il' (encI_nn _))⟩,⟨_,rfl,.int (by rw [encI_length])⟩,⟨_,rfl,.same _ nn⟩,trivial⟩) ?_
 rintro ⟨j,kn,total,lists⟩ ⟨hj,hk,hf,hto,hll,hls⟩
 simp only at hj hk hf hto hll hls ⊢
 ((conv=>whnf);repeat(refine Xg ?_;conv=>whnf))
 refine bcs_mk (fun hb => ?_) (fun hb => ?_)
 ·have hlt : j < kids.length := by simpa using hb
  have e1 : (encI kids)[(j : Int).toNat]? = some (.int .i64 kids[j]) := by rw [Int.toNat_natCast,encI_get,List.getElem?_eq_getElem hlt]; rfl
  have hg : kids[j]? = some kids[j] := List.getElem?_eq_getElem hlt
  generalize kids[j] = k at e1 hg
  obtain ⟨k0,k1⟩ := hkids k (List.mem_of_getElem? hg)
  obtain ⟨k,rfl⟩ := Int.eq_ofNat_of_zero_le k0
  have hO := hOf k (by omega) kn hk
  have hst := pro_at hg hf
  have hvals := h.vals (k := k) (by omega) (by omega)
  have hne := h.ne (k := k) (by omega) (by omega)
  have hls' : ∀ (q : Nat) (k' : Int),q < j + 1 → kids[q]? = some k' → (q < j ∧ (lists[q]? = some (atL (listsT ns) k').vals ∧ (atL (listsT ns) k').vals ≠ [])) ∨ (q = j ∧ k' = k) := fun q k' hq hk' => by
   rcases Nat.lt_or_ge q j with hq' | hq'
   ·exact .inl ⟨hq',hls q k' hq' hk'⟩
   ·have : q = j := by omega
    subst this
    rw [hg] at hk'
    cases hk'
    exact .inr ⟨rfl,rfl⟩
  simp only [proStep,Bool.false_or] at hst
  unfold sQ at hO
  ((conv=>whnf);repeat(refine Xg ?_;conv=>whnf))
  refine opt_mk e1 ?_
  ((conv=>whnf);repeat(refine Xg ?_;conv=>whnf))
  refine ACalls.useI nnΓ [0,1,2,3] hO (by rfl) (.cons (.ptr 0 0 0 0 rfl) (.cons (.same _ nn) .nil)) (sM_conv ns kn) (by rfl) ?_
  rintro r m k' ⟨kn',hk',rfl,rfl,rfl⟩
  refine ⟨nn,sM_conv ns kn',by rfl, ?_⟩
  obtain ⟨lk,hlk⟩ : ∃ lk,lk = atL (listsT ns) k := ⟨_,rfl⟩
  rw [← hlk] at hst hvals hne ⊢
  obtain ⟨lv,lm⟩ := lk
  simp only at hst hvals hne
  cases lm with
  | true =>
   have hbad := hpb (j + 1) (by rw [hst]; rfl)
   rw [hbad]
   ((conv=>whnf);repeat(refine Xg ?_;conv=>whnf))
   exact uFin _ kn' hk' (sMx_conv rfl rfl rfl rfl rfl rfl rfl rfl trivial) _ _ (.tup' (.cons (.nil 4) (.cons (.same _ nn) .nil)))
  | false =>
   have hw : IntKind.i64.wrap ((total : Int) * ((encVs lv).length : Int)) = ((total * lv.length : Nat) : Int) := by
    have : total * lv.length ≤ 1024 * 1024 := Nat.mul_le_mul hto hvals.1
    exact w64 (by rw [encVs_length]; simp) ⟨by omega,by omega⟩
   ((conv=>whnf);repeat(refine Xg ?_;conv=>whnf))
   rw [hw]
   ((conv=>whnf);repeat(refine Xg ?_;conv=>whnf))
   refine bcs_mk (fun hb2 => ?_) (fun hb2 => ?_)
   ·have hbad := hpb (j + 1) (by rw [hst]; simp at hb2 ⊢; omega)
    rw [hbad]
    ((conv=>whnf);repeat(refine Xg ?_;conv=>whnf))
    exact uFin _ kn' hk' (sMx_conv rfl rfl rfl rfl rfl rfl rfl rfl trivial) _ _ (.tup' (.cons (.nil 4) (.cons (.same _ nn) .nil)))
   ·have hto' : total * lv.length ≤ 1024 := by simp at hb2; omega
    have h0 : 0 + ((j : Nat) : Int).toNat = j := by simp
    have g1 : Nat.blt ((j : Nat) : Int).toNat kids.length = true := Nat.ble_eq_true_of_le (by simp; omega)
    have e3 : (encLs lists)[0 + ((j : Nat) : Int).toNat]? = some (.il 4 (encVs lists[j])) := by rw [h0]; exact encLs_get (List.getElem?_eq_getElem (by omega))
    have e4 : ((encLs lists).set (0 + ((j : Nat) : Int).toNat) (.il 4 (encVs lv)))[0 + ((j : Nat) : Int).toNat]? = some (.il 4 (encVs lv)) := by rw [h0]; exact List.getElem?_set_self (by rw [encLs_length]; omega)
    ((conv=>whnf);repeat(refine Xg ?_;conv=>whnf))
    repeat ((first | refine grd_mk g1 ?_ | refine opt_mk e3 ?_ | refine opt_mk e4 ?_ | refine setK_iff.2 ?_ | refine ⟨rfl, ?_⟩); ((conv=>whnf);repeat(refine Xg ?_;conv=>whnf)))
    exact .mk (j + 1,kn',total * lv.length,lists.set j lv) (idS [0,1,2,3,4]) ⟨by simp only; omega,hk',by simp only; rw [hst]; simp; omega,hto',by simp only [List.length_set]; exact hll,fun q k' hq hkq => by
      simp only at hq ⊢
      rcases hls' q k' hq hkq with ⟨h1,h2,h3⟩ | ⟨rfl,rfl⟩
      ·rw [List.getElem?_set_ne (by omega)]; exact ⟨h2,h3⟩
      ·rw [List.getElem?_set_self (by omega),← hlk]; exact ⟨rfl,hne rfl⟩⟩
     (conv_mk _ rfl (sMx_conv rfl rfl rfl rfl rfl rfl rfl rfl ⟨⟨4,_,rfl,rfl,.eq (encLs_nn _) (by rw [h0]; exact (enc_set _ _ _).symm)⟩,trivial⟩) ⟨⟨_,rfl,.ptr 0 0 0 0 rfl⟩,⟨_,rfl,.same _ (.ip' hxn)⟩,⟨_,rfl,.slE rfl rfl⟩,⟨_,rfl,.same _ nn⟩,⟨_,rfl,.same _ (.il' (encI_nn _))⟩,⟨_,rfl,.same _ nn⟩,⟨_,rfl,.w64 (by simp only; omega) ⟨by simp only; omega,by simp only; omega⟩⟩,trivial⟩) (by simp only; omega)
 ·have hlt : j = kids.length := by simp at hb; omega
  rw [hlt,List.take_length] at hf
  obtain ⟨hres,hpr⟩ := hpg total hf
  rw [hres]
  have hlv : lists = kids.map fun k => (atL (listsT ns) k).vals := List.ext_getElem? fun q => by
   rw [List.getElem?_map]
   rcases Nat.lt_or_ge q kids.length with hq | hq
   ·rw [(hls q _ (by omega) (List.getElem?_eq_getElem hq)).1,List.getElem?_eq_getElem hq]; rfl
   ·rw [List.getElem?_eq_none (by omega),List.getElem?_eq_none hq]; rfl
  have hlne : ∀ l ∈ lists,l ≠ [] := fun l hl => by
   rw [hlv] at hl
   obtain ⟨k,hk,rfl⟩ := List.mem_map.1 hl
   obtain ⟨q,hq⟩ := List.getElem?_of_mem hk
   exact (hls q k (by rw [hlt]; exact (List.getElem?_eq_some_iff.1 hq).1) hq).2
  have hllen : ∀ l ∈ lists,l.length ≤ 1024 := fun l hl => by
   rw [hlv] at hl
   obtain ⟨k,hk,rfl⟩ := List.mem_map.1 hl
   obtain ⟨k0,k1⟩ := hkids k hk
   exact (h.vals k0 (by omega)).1
  rw [← hlv] at hpr ⊢
  clear hpb hpg hls hlv hres hf
  ((conv=>whnf);repeat(refine Xg ?_;conv=>whnf))
  refine grd_mk (and_ok rfl (and_ok rfl (and_ok rfl (and_ok rfl (and_ok (decide_eq_true (by omega)) (and_ok (mul_ok rfl (by omega) (by omega)) (decide_eq_true (by omega)))))))) ?_
  ((conv=>whnf);repeat(refine Xg ?_;conv=>whnf))
  refine ALoop.at nnΓ (fun p : Nat × List Val => p.1 ≤ total ∧ p.2 = ((rowsR lists.reverse).take p.1).map (madeV name) ∧ p.2.length = p.1)
   (fun p => ⟨[(1,.ip (encN ⟨kind,name,lo,hi',ws,ls,vals,kids,.mk vk vn vs vks⟩)),(6,.sl 4 0 kids.length),(12,.sl 5 0 p.1),(53,.int .i64 total),(54,.int .i64 p.1)],sMx ns kn [(4,.row 31 1 (encLs lists)),(5,.row 33 4 (encVs p.2))],6,98⟩)
   (fun p => total - p.1) (0,[]) (idS [0,1,2,3,4,5])
   ⟨by simp,by simp,by simp⟩
   (conv_mk _ rfl (sMx_conv rfl rfl rfl rfl rfl rfl rfl rfl ⟨⟨4,_,rfl,rfl,.same (encLs_nn _)⟩,⟨5,_,rfl,rfl,.nil⟩,trivial⟩) ⟨⟨_,rfl,.same _ (.ip' hxn)⟩,⟨_,rfl,.slE rfl rfl⟩,⟨_,rfl,.slE rfl rfl⟩,⟨_,rfl,.same _ nn⟩,⟨_,rfl,.same _ nn⟩,trivial⟩) ?_
  rintro ⟨k,all⟩ ⟨hkt,hall,hal⟩
  simp only at hkt hall hal ⊢
  ((conv=>whnf);repeat(refine Xg ?_;conv=>whnf))
  refine bcs_mk (fun hb => ?_) (fun hb => ?_)
  ·have hlt2 : k < total := by simpa using hb
   ((conv=>whnf);repeat(refine Xg ?_;conv=>whnf))
   refine grd_mk (and_ok rfl (and_ok rfl (and_ok rfl (and_ok (decide_eq_true (by omega)) (and_ok (decide_eq_true (by omega)) (and_ok (mul_ok rfl (by omega) (by omega)) (decide_eq_true (by omega)))))))) ?_
   ((conv=>whnf);repeat(refine Xg ?_;conv=>whnf))
   refine ALoop.at nnΓ (fun p : Nat × Nat × List Val => p.1 ≤ kids.length ∧ p.2.1 ≤ 1024 ∧ p.2.2.length = kids.length ∧ Go.Ax.rowAt (lists.take p.1).reverse p.2.1 ++ p.2.2.drop p.1 = Go.Ax.rowAt lists.reverse k)
    (fun p => ⟨[(1,.ip (encN ⟨kind,name,lo,hi',ws,ls,vals,kids,.mk vk vn vs vks⟩)),(6,.sl 4 0 kids.length),(12,.sl 5 0 k),(13,.int .i64 p.2.1),(14,.sl 6 0 kids.length),(15,.int .i64 ((p.1 : Int) - 1)),(53,.int .i64 total),(54,.int .i64 k)],sMx ns kn [(4,.row 31 1 (encLs lists)),(5,.row 33 4 (encVs all)),(6,.row 33 4 (encVs p.2.2))],7,98⟩)
    (fun p => p.1) (kids.length,k,List.replicate kids.length (.mk 0 0 [] [])) (idS [0,1,2,3,4,5,6])
    ⟨by simp,by simp only; omega,by simp,by simp only; rw [← hll,List.take_length,List.drop_of_length_le (by simp)]; simp⟩
    (conv_mk _ rfl (sMx_conv rfl rfl rfl rfl rfl rfl rfl rfl ⟨⟨4,_,rfl,rfl,.same (encLs_nn _)⟩,⟨5,_,rfl,rfl,.same (encVs_nn _)⟩,⟨6,_,rfl,rfl,cvr_zeros _⟩,trivial⟩) ⟨⟨_,rfl,.same _ (.ip' hxn)⟩,⟨_,rfl,.slE rfl rfl⟩,⟨_,rfl,.slE rfl rfl⟩,⟨_,rfl,.same _ nn⟩,⟨_,rfl,.slE rfl (by simp)⟩,⟨_,rfl,.w64 (by simp only) ⟨by simp only; omega,by simp only; omega⟩⟩,⟨_,rfl,.same _ nn⟩,⟨_,rfl,.same _ nn⟩,trivial⟩) ?_
   rintro ⟨q,kk,row⟩ ⟨hq,hkk,hrl,hrow⟩
   simp only at hq hkk hrl hrow ⊢
   ((conv=>whnf);repeat(refine Xg ?_;conv=>whnf))
   refine bcs_mk (fun hb => ?_) (fun hb => ?_)
   ·obtain ⟨q,rfl⟩ : ∃ q',q = q' + 1 := ⟨q - 1,by simp at hb; omega⟩
    obtain ⟨l,hl⟩ : ∃ l,lists[q]? = some l := ⟨lists[q],List.getElem?_eq_getElem (by omega)⟩
    have hlm := List.mem_of_getElem? hl
    have hl0 := List.length_pos_iff.2 (hlne l hlm)
    have hl1 := hllen l hlm
    have hmod := Nat.mod_lt kk hl0
    have hdiv := Nat.div_le_self kk l.length
    obtain ⟨v1,v2,v3,v4,vm,vg,-,ev⟩ := enc_cases (l := l) (k := kk % l.length) hmod
    have hrs := rowAt_step (kk := kk) hl vg
    have e0 : 0 + ((q : Nat) : Int).toNat = q := by simp
    have g1 : Nat.blt ((q : Nat) : Int).toNat kids.length = true := Nat.ble_eq_true_of_le (by simp; omega)
    have e3 : (encLs lists)[0 + ((q : Nat) : Int).toNat]? = some (.il 4 (encVs l)) := by rw [e0]; exact encLs_get hl
    have e15 : ((q + 1 : Nat) : Int) - 1 = (q : Int) := by omega
    rw [e15]
    ((conv=>whnf);repeat(refine Xg ?_;conv=>whnf))
    have d0 : (!decide (((encVs l).length : Int) = 0)) = true := by rw [encVs_length,Bool.not_eq_true',decide_eq_false_iff_not]; omega
    have em : (kk : Int).tmod ((encVs l).length : Int) = ((kk % l.length : Nat) : Int) := by rw [encVs_length]; exact (Int.ofNat_tmod kk l.length).symm
    have ed : (kk : Int).tdiv ((encVs l).length : Int) = ((kk / l.length : Nat) : Int) := by rw [encVs_length]; exact (Int.ofNat_tdiv kk l.length).symm
    have ex : (encVs row)[0 + ((q : Nat) : Int).toNat]? = some (encV row[q]) := by rw [e0,encVs_get,List.getElem?_eq_getElem (by omega)]; rfl
    have ey : ((encVs row).set (0 + ((q : Nat) : Int).toNat) (encV (.mk v1 v2 v3 v4)))[0 + ((q : Nat) : Int).toNat]? = some (encV (.mk v1 v2 v3 v4)) := by rw [e0]; exact List.getElem?_set_self (by rw [encVs_length]; omega)
    generalize row[q] = old at ex
    obtain ⟨o1,o2,o3,o4⟩ := old
    repeat ((first | refine grd_mk g1 ?_ | refine opt_mk e3 ?_ | refine opt_mk ev ?_ | refine opt_mk ex ?_ | refine opt_mk ey ?_ | refine setK_iff.2 ?_ | refine ⟨rfl, ?_⟩ | refine grd_mk d0 ?_; (first | rw [em] | rw [ed] | skip)); ((conv=>whnf);repeat(refine Xg ?_;conv=>whnf)))
    have hdr : (row.set q (.mk v1 v2 v3 v4)).drop q = .mk v1 v2 v3 v4 :: row.drop (q + 1) := by
     rw [List.drop_eq_getElem_cons (by simp; omega)]
     simp [List.drop_set]
    have hy : i64 ((kk / l.length : Nat) : Int) := by
     have := hdiv
     generalize kk / l.length = d at this ⊢
     clear ed
     exact ⟨by omega,by omega⟩
    have hset : encVs (row.set q (.mk v1 v2 v3 v4)) = (encVs row).set q (encV (.mk v1 v2 v3 v4)) := by rw [encVs_map,encVs_map,List.map_set]
    exact .mk (q,kk / l.length,row.set q (.mk v1 v2 v3 v4)) (idS [0,1,2,3,4,5,6]) ⟨by simp only; omega,by simp only; omega,by simp only [List.length_set]; exact hrl,by simp only; rw [hdr,← hrow,hrs,List.append_assoc]; rfl⟩
     (conv_mk _ rfl (sMx_conv rfl rfl rfl rfl rfl rfl rfl rfl ⟨⟨4,_,rfl,rfl,.same (encLs_nn _)⟩,⟨5,_,rfl,rfl,.same (encVs_nn _)⟩,⟨6,_,rfl,rfl,.eq (encVs_nn _) (by simp only; rw [e0,hset]; rfl)⟩,trivial⟩) ⟨⟨_,rfl,.same _ (.ip' hxn)⟩,⟨_,rfl,.slE rfl rfl⟩,⟨_,rfl,.slE rfl rfl⟩,⟨_,rfl,.w64 (y := ((kk / l.length : Nat) : Int)) (by first | exact ed | rfl) hy⟩,⟨_,rfl,.slE rfl rfl⟩,⟨_,rfl,.w64 rfl ⟨by simp only; omega,by simp only; omega⟩⟩,⟨_,rfl,.same _ nn⟩,⟨_,rfl,.same _ nn⟩,trivial⟩) (by simp only; omega)
   ·have hq0 : q = 0 := by simp at hb; omega
    subst hq0
    simp only [List.take_zero,List.reverse_nil,Go.Ax.rowAt,List.nil_append,List.drop_zero] at hrow
    have hmd := hmade row
    simp only at hmd
    ((conv=>whnf);repeat(refine Xg ?_;conv=>whnf))
    refine ACalls.pre nnΓ (mem' := sMx ns kn [(4,.row 31 1 (encLs lists)),(5,.row 33 4 (encVs all))]) (idS [0,1,2,3,4,5]) (by rfl)
     (sMx_conv rfl rfl rfl rfl rfl rfl rfl rfl ⟨⟨4,_,rfl,rfl,.same (encLs_nn _)⟩,⟨5,_,rfl,rfl,.same (encVs_nn _)⟩,trivial⟩)
     (.cons (.same _ (.ip' hxn)) (.cons (.fz' (id := 6) (t := 33) (xs := encVs row) rfl rfl (by rw [encVs_length]; omega) (by rw [List.drop_zero]; exact List.take_of_length_le (by rw [encVs_length]; omega)) (encVs_nn _)) .nil)) ?_
    refine hmd.go ?_
    have hr := rowsR_get lists.reverse k (by rw [← hpr]; exact hlt2)
    rw [← hrow] at hr
    obtain ⟨⟨m1,m2,m3,m4⟩,hmv⟩ : ∃ mv,mv = madeV name row := ⟨_,rfl⟩
    rw [← hmv]
    ((conv=>whnf);repeat(refine Xg ?_;conv=>whnf))
    refine grd_mk (app_ok rfl rfl (by simp [encVs_length]; omega) (by simp; omega)) ?_
    ((conv=>whnf);repeat(refine Xg ?_;conv=>whnf))
    exact .mk (k + 1,all ++ [.mk m1 m2 m3 m4]) [(0,0),(1,1),(2,2),(3,3),(4,4),(8,5)] ⟨by simp only; omega,by
      simp only
      rw [hall,List.take_add_one,hr,List.map_append,hmv]; rfl,by simp [hal]⟩
     (conv_mk _ rfl (sMx_conv rfl rfl rfl rfl rfl rfl rfl rfl ⟨⟨4,_,rfl,rfl,.same (encLs_nn _)⟩,⟨8,_,rfl,rfl,.eq (encVs_nn _) (by rw [encVs_snoc]; rfl)⟩,trivial⟩) ⟨⟨_,rfl,.same _ (.ip' hxn)⟩,⟨_,rfl,.slE rfl rfl⟩,⟨_,rfl,.slE rfl (by simp)⟩,⟨_,rfl,.same _ nn⟩,⟨_,rfl,.w64 (by simp only; omega) ⟨by simp only; omega,by simp only; omega⟩⟩,trivial⟩) (by simp only; omega)
  ·have hlt2 : k = total := by simp at hb; omega
   ((conv=>whnf);repeat(refine Xg ?_;conv=>whnf))
   refine uFin _ kn hk (sMx_conv rfl rfl rfl rfl rfl rfl rfl rfl trivial) _ _ (.tup' (.cons (.fz' (id := 5) (t := 33) (xs := encVs all) rfl rfl (by rw [encVs_length]; omega) ?_ (encVs_nn _)) (.cons (.same _ nn) .nil)))
   rw [List.drop_zero,List.take_of_length_le (by rw [encVs_length]; omega),hall,hlt2,hpr,← rowsR_len,List.take_length]
set_option maxHeartbeats 8000000
theorem sFind {ns : List Nd} {n : Nat} (h : SetOK ns n) (i : Nat) (hi : i < n) (hOf : ∀ j < i,OfOK ns j) (kn : List Bool) (hk : kn.length = ns.length) :
  ACalls Tryz.prog [] 119 [.ptr 0 0 0,.int .i64 i] (sM ns kn) 4 (sQ ns i) := by
 obtain ⟨x,hx⟩ : ∃ x,ns[i]? = some x := ⟨ns[i]'(by have := h.hn; omega),List.getElem?_eq_getElem _⟩
 have ex : (encNs ns)[((i : Nat) : Int).toNat]? = some (encN x) := by simp [encNs_get,hx]
 unfold sQ
 rw [h.at hi hx]
 have hG := h.node hi hx
 have hO := h.nodeOK hi hx
 have hxn := encN_nn x
 have hkm : ∀ k ∈ x.kids,0 ≤ k ∧ k < i := fun k hk => by
  obtain ⟨j,hj⟩ := List.getElem?_of_mem hk
  exact hG.kids j k hj
 have hU := fun (kids : List Int) (h1 : kids.length ≤ 65536) (h2 : ∀ k ∈ kids,0 ≤ k ∧ k < i) => sUnion h i (by omega) kids h1 h2 hOf kn hk
 have hP := sProduct h i (by omega) x hG.klen hkm hOf kn hk
 have hb := hO.bind
 have hkl := hG.klen
 have hkd := hG.kind
 have hnum := numbersN_range hG.num
 have e0 : x.kind = 0 → listN x (listsT ns) = ⟨[x.value],false⟩ := fun e => by unfold listN; rw [if_pos e]
 have e1 : x.kind = 1 → listN x (listsT ns) = if 1024 ≤ x.hi - x.lo then ⟨[],true⟩ else ⟨rangeV x.lo x.hi,false⟩ := fun e => by unfold listN; rw [if_neg (by omega),if_pos e]
 have e2 : x.kind = 2 → listN x (listsT ns) = uniL (listsT ns) x.kids := fun e => by unfold listN; rw [if_neg (by omega),if_neg (by omega),if_neg (by omega),if_neg (by omega)]
 have e3 : x.kind = 3 → listN x (listsT ns) = seqL (listsT ns) x := fun e => by unfold listN; rw [if_neg (by omega),if_neg (by omega),if_pos e]
 have e4 : x.kind = 4 → listN x (listsT ns) = uniL (listsT ns) (x.kids.drop 1) := fun e => by unfold listN; rw [if_neg (by omega),if_neg (by omega),if_neg (by omega),if_pos e]
 generalize listN x (listsT ns) = res at e0 e1 e2 e3 e4 ⊢
 clear hG hO hOf
 have hP : x.kind = 3 → ACalls Tryz.prog [] 134 [.ptr 0 0 0,.ip (encN x)] (sM ns kn) 4 (uQ ns res) := fun e => by rw [e3 e]; exact hP
 clear e3
 obtain ⟨kind,name,lo,hi',ws,ls,vals,kids,⟨vk,vn,vs,vks⟩⟩ := x
 simp only at hkm hb hkl hkd hnum e0 e1 e2 e4 hP
 refine acalls_go nnΓ Tryz.func119 rfl ?_
 ((conv=>whnf);repeat(refine Xg ?_;conv=>whnf))
 repeat (refine opt_mk ex ?_; ((conv=>whnf);repeat(refine Xg ?_;conv=>whnf)))
 have call : ∀ (F : FuncId) (a : List AV) (K : AV → Mem → Nat → Prop) (nx : Nat),NNs a → ACalls Tryz.prog [] F (.ptr 0 0 0 :: a) (sM ns kn) 4 (uQ ns res) → (∀ kn',kn'.length = ns.length → K (.tup [.il 4 (encVs res.vals),.bool (!res.many)]) (sM ns kn' ++ dropM [0,1,2,3] (sM ns kn)) nx) → ACalls Tryz.prog [] F (.ptr 0 0 0 :: a) (sM ns kn) nx K := fun F a K nx ha hc hK => by
  refine ACalls.useI nnΓ [0,1,2,3] hc (by rfl) (.cons (.ptr 0 0 0 0 rfl) (.same ha)) (sM_conv ns kn) (by rfl) ?_
  rintro r m k' ⟨kn',hk',rfl,rfl,rfl⟩
  exact ⟨nn,sM_conv ns kn',by rfl,hK kn' hk'⟩
 rcases (show kind = 0 ∨ kind = 1 ∨ kind = 2 ∨ kind = 3 ∨ kind = 4 by omega) with rfl | rfl | rfl | rfl | rfl
 ·rw [e0 rfl]
  ((conv=>whnf);repeat(refine Xg ?_;conv=>whnf))
  repeat (refine opt_mk ex ?_; ((conv=>whnf);repeat(refine Xg ?_;conv=>whnf)))
  exact uFin _ kn hk (sMx_conv rfl rfl rfl rfl rfl rfl rfl rfl trivial) _ _ (.tup' (.cons (.fz' (id := 4) (t := 33) (xs := encVs [.mk vk vn vs vks]) rfl rfl (by rw [encVs_length]; simp) rfl (encVs_nn _)) (.cons (.same _ nn) .nil)))
 ·rw [e1 rfl]
  have hw : IntKind.i64.wrap (hi' - lo) = hi' - lo := wrap64 ⟨by omega,by omega⟩
  ((conv=>whnf);repeat(refine Xg ?_;conv=>whnf))
  simp only [hw]
  refine bcs_mk (fun hb => ?_) (fun hb => ?_)
  ·have hb : 1024 ≤ hi' - lo := by simpa using hb
   rw [if_pos hb]
   ((conv=>whnf);repeat(refine Xg ?_;conv=>whnf))
   exact uFin _ kn hk (sM_conv ns kn) _ _ (.tup' (.cons (.nil 4) (.cons (.same _ nn) .nil)))
  ·have hb : ¬ 1024 ≤ hi' - lo := by simpa using hb
   rw [if_neg hb]
   ((conv=>whnf);repeat(refine Xg ?_;conv=>whnf))
   refine ALoop.ph 33 4 ?_
   refine ALoop.at nnΓ (fun c : Nat => c ≤ (hi' + 1 - lo).toNat)
    (fun c => ⟨[(6,.ip (encN ⟨1,name,lo,hi',ws,ls,vals,kids,.mk vk vn vs vks⟩)),(7,.sl 4 0 c),(8,.int .i64 (lo + c))],sMx ns kn [(4,.row 33 4 (encVs (rangeV lo (lo + c - 1))))],5,82⟩)
    (fun c => (hi' + 1 - lo).toNat - c) 0 [(0,0),(1,1),(2,2),(3,3),(14,4)] (by simp)
    (conv_mk _ rfl (sMx_conv rfl rfl rfl rfl rfl rfl rfl rfl ⟨⟨14,_,rfl,rfl,by rw [show rangeV lo (lo + ((0 : Nat) : Int) - 1) = [] by simp [rangeV]]; exact .nil⟩,trivial⟩) ⟨⟨_,rfl,.same _ (.ip' hxn)⟩,⟨_,rfl,.nslk 14 4 _ rfl rfl⟩,⟨_,rfl,.int (by simp)⟩,trivial⟩) ?_
   intro c hc
   have hrl : ∀ c : Nat,(rangeV lo (lo + c - 1)).length = c := fun c => by simp [rangeV]; omega
   ((conv=>whnf);repeat(refine Xg ?_;conv=>whnf))
   refine bcs_mk (fun hb2 => ?_) (fun hb2 => ?_)
   ·have hb2 : lo + c ≤ hi' := by simpa using hb2
    have hrs : rangeV lo (lo + ((c + 1 : Nat) : Int) - 1) = rangeV lo (lo + c - 1) ++ [.mk 0 (lo + c) [] []] := by
     unfold rangeV
     rw [show (lo + ((c + 1 : Nat) : Int) - 1 + 1 - lo).toNat = c + 1 by omega,show (lo + (c : Int) - 1 + 1 - lo).toNat = c by omega,List.range_succ,List.map_append]
     rfl
    ((conv=>whnf);repeat(refine Xg ?_;conv=>whnf))
    refine grd_mk (app_ok rfl rfl (by rw [encVs_length,hrl]) (by simp; omega)) ?_
    ((conv=>whnf);repeat(refine Xg ?_;conv=>whnf))
    exact .mk (c + 1) [(0,0),(1,1),(2,2),(3,3),(6,4)] (by omega)
     (conv_mk _ rfl (sMx_conv rfl rfl rfl rfl rfl rfl rfl rfl ⟨⟨6,_,rfl,rfl,by rw [hrs,encVs_snoc]; exact .snoc rfl (.same (encVs_nn _)) (cvVal 0 (lo + c) [])⟩,trivial⟩) ⟨⟨_,rfl,.same _ (.ip' hxn)⟩,⟨_,rfl,.slE rfl (by simp)⟩,⟨_,rfl,.w64 (by omega) ⟨by omega,by omega⟩⟩,trivial⟩) (by omega)
   ·have hb2 : ¬ lo + c ≤ hi' := by simpa using hb2
    have hcc : lo + c - 1 = hi' := by omega
    ((conv=>whnf);repeat(refine Xg ?_;conv=>whnf))
    rw [hcc]
    refine uFin _ kn hk (sMx_conv rfl rfl rfl rfl rfl rfl rfl rfl trivial) _ _ (.tup' (.cons (.fz' (id := 4) (t := 33) (xs := encVs (rangeV lo hi')) rfl rfl (by rw [encVs_length]; have := hrl c; rw [hcc] at this; omega) ?_ (encVs_nn _)) (.cons (.same _ nn) .nil)))
    rw [List.drop_zero]
    exact List.take_of_length_le (by rw [encVs_length]; have := hrl c; rw [hcc] at this; omega)
 ·rw [e2 rfl] at call ⊢
  ((conv=>whnf);repeat(refine Xg ?_;conv=>whnf))
  refine call _ _ _ _ (.cons (.il' (encI_nn _)) .nil) (hU kids hkl hkm) fun kn' hk' => ?_
  ((conv=>whnf);repeat(refine Xg ?_;conv=>whnf))
  exact uFin _ kn' hk' (sM_conv ns kn') _ _ (.same _ nn)
 ·((conv=>whnf);repeat(refine Xg ?_;conv=>whnf))
  refine call _ _ _ _ (.cons (.ip' hxn) .nil) (hP rfl) fun kn' hk' => ?_
  ((conv=>whnf);repeat(refine Xg ?_;conv=>whnf))
  exact uFin _ kn' hk' (sM_conv ns kn') _ _ (.same _ nn)
 ·rw [e4 rfl] at call ⊢
  have hb := hb rfl
  ((conv=>whnf);repeat(refine Xg ?_;conv=>whnf))
  refine grd_mk (and_ok (Nat.ble_eq_true_of_le (by rw [encI_length]; simp; omega)) (and_ok (Nat.ble_eq_true_of_le (Nat.le_refl _)) (Nat.ble_eq_true_of_le (Nat.le_refl _)))) ?_
  have ed : List.take ((encI kids).length - Int.toNat 1) (List.drop (Int.toNat 1) (encI kids)) = encI (kids.drop 1) := by
   rw [List.take_of_length_le (by simp)]
   simp [encI]
  rw [ed]
  ((conv=>whnf);repeat(refine Xg ?_;conv=>whnf))
  refine call _ _ _ _ (.cons (.il' (encI_nn _)) .nil) (hU (kids.drop 1) (by rw [List.length_drop]; omega) fun k hk => hkm k (List.mem_of_mem_drop hk)) fun kn' hk' => ?_
  ((conv=>whnf);repeat(refine Xg ?_;conv=>whnf))
  exact uFin _ kn' hk' (sM_conv ns kn') _ _ (.same _ nn)
theorem sOf {ns : List Nd} {n : Nat} (h : SetOK ns n) : ∀ i < n,OfOK ns i := by
 intro i
 induction i using Nat.strongRecOn with
 | ind i ih => exact fun hi kn hk => sOfF h i hi kn hk (sFind h i hi (fun j hj => ih j hj (by omega)) kn hk)
set_option maxHeartbeats 8000000
theorem tEq0 (a b : Val) (ha : okV a) : PureC Tryz.prog [] 95 [encV a,encV b] (.bool (cmpV a b == 0)) := by
 have hc := vCompare a b ha
 obtain ⟨a1,a2,a3,a4⟩ := a
 obtain ⟨b1,b2,b3,b4⟩ := b
 generalize cmpV (.mk a1 a2 a3 a4) (.mk b1 b2 b3 b4) = c at hc ⊢
 refine acalls_go nnΓ Tryz.func95 rfl ?_
 ((conv=>whnf);repeat(refine Xg ?_;conv=>whnf))
 refine hc.go ?_
 ((conv=>whnf);repeat(refine Xg ?_;conv=>whnf))
 exact fin_pure nn ⟨rfl,rfl,rfl⟩
theorem dEq0 (a b : Val) (ha : okV a) : PureC Tryz.prog [] 58 [encV a,encV b] (.bool (cmpV a b == 0)) := by
 have hc := vCompare a b ha
 obtain ⟨a1,a2,a3,a4⟩ := a
 obtain ⟨b1,b2,b3,b4⟩ := b
 generalize cmpV (.mk a1 a2 a3 a4) (.mk b1 b2 b3 b4) = c at hc ⊢
 refine acalls_go nnΓ Tryz.func58 rfl ?_
 ((conv=>whnf);repeat(refine Xg ?_;conv=>whnf))
 refine hc.go ?_
 ((conv=>whnf);repeat(refine Xg ?_;conv=>whnf))
 exact fin_pure nn ⟨rfl,rfl,rfl⟩
theorem tEqualFunc (l m : List Val) (hl : l.length ≤ 4294967296) (hm : m.length ≤ 4294967296) (hok : ∀ a ∈ l,okV a) :
  PureC Tryz.prog [] 62 [.il 4 (encVs l),.il 4 (encVs m),.fn (.func 95) [] []] (.bool (sameVs l m)) := by
 have hE := fun a ha b => tEq0 a b (hok a ha)
 refine acalls_go nnΓ Tryz.func62 rfl ?_
 ((conv=>whnf);repeat(refine Xg ?_;conv=>whnf))
 refine bcs_mk (fun h => ?_) (fun h => ?_)
 ·have h1 : l.length ≠ m.length := by rw [encVs_length,encVs_length] at h; simp at h; omega
  have : sameVs l m = false := by
   cases e : sameVs l m with
   | false => rfl
   | true => exact absurd (sameVs_lenE e) h1
  rw [this]
  ((conv=>whnf);repeat(refine Xg ?_;conv=>whnf))
  exact fin_pure nn ⟨rfl,rfl,rfl⟩
 ·have h1 : l.length = m.length := by rw [encVs_length,encVs_length] at h; simp at h; omega
  ((conv=>whnf);repeat(refine Xg ?_;conv=>whnf))
  refine ALoop.at nnΓ (fun i : Nat => i ≤ l.length ∧ sameVs l m = sameVs (l.drop i) (m.drop i)) (fun i => ⟨[(1,.il 4 (encVs m)),(2,.fn (.func 95) [] []),(15,.il 4 (encVs l)),(16,.int .i64 l.length),(17,.int .i64 i)],[],0,32⟩) (fun i => l.length - i) 0 [] ⟨by simp,by simp⟩
   (conv_pure ⟨⟨_,rfl,.same _ (.il' (encVs_nn _))⟩,⟨_,rfl,.same _ nn⟩,⟨_,rfl,.same _ (.il' (encVs_nn _))⟩,⟨_,rfl,.int (by rw [encVs_length])⟩,⟨_,rfl,.same _ nn⟩,trivial⟩) ?_
  rintro i ⟨hi,hs⟩
  ((conv=>whnf);repeat(refine Xg ?_;conv=>whnf))
  refine bcs_mk (fun hb => ?_) (fun hb => ?_)
  ·have hil : i < l.length := by simpa using hb
   obtain ⟨p1,p2,p3,p4,pm,pg,pe,ep⟩ := enc_cases (l := l) (k := i) hil
   obtain ⟨q1,q2,q3,q4,qm,qg,qe,eq⟩ := enc_cases (l := m) (k := i) (by omega)
   rw [List.drop_eq_getElem_cons hil,List.drop_eq_getElem_cons (show i < m.length by omega),sameVs,pe,qe] at hs
   have hc := hE _ pm (.mk q1 q2 q3 q4)
   obtain ⟨c,hc0⟩ : ∃ c,c = cmpV (.mk p1 p2 p3 p4) (.mk q1 q2 q3 q4) := ⟨_,rfl⟩
   rw [← hc0] at hc hs
   ((conv=>whnf);repeat(refine Xg ?_;conv=>whnf))
   repeat ((first | refine opt_mk ep ?_ | refine opt_mk eq ?_ | refine ⟨rfl, ?_⟩); ((conv=>whnf);repeat(refine Xg ?_;conv=>whnf)))
   refine hc.go ?_
   ((conv=>whnf);repeat(refine Xg ?_;conv=>whnf))
   refine bcs_mk (fun h => ?_) (fun h => ?_)
   ·have : decide (c = 0) = false := by simpa using h
    rw [hs,this]
    ((conv=>whnf);repeat(refine Xg ?_;conv=>whnf))
    exact fin_pure nn ⟨rfl,rfl,rfl⟩
   ·have : decide (c = 0) = true := by simpa using h
    rw [this] at hs
    ((conv=>whnf);repeat(refine Xg ?_;conv=>whnf))
    exact .mk (i + 1) [] ⟨by omega,hs⟩ (conv_pure ⟨⟨_,rfl,.same _ (.il' (encVs_nn _))⟩,⟨_,rfl,.same _ nn⟩,⟨_,rfl,.same _ (.il' (encVs_nn _))⟩,⟨_,rfl,.same _ nn⟩,⟨_,rfl,.w64 (by omega) ⟨by omega,by omega⟩⟩,trivial⟩) (by omega)
  ·have hil : i = l.length := by simp at hb; omega
   rw [hil,List.drop_length,h1,List.drop_length,sameVs] at hs
   rw [hs]
   ((conv=>whnf);repeat(refine Xg ?_;conv=>whnf))
   exact fin_pure nn ⟨rfl,rfl,rfl⟩
theorem dEqualFunc (l m : List Val) (hl : l.length ≤ 4294967296) (hm : m.length ≤ 4294967296) (hok : ∀ a ∈ l,okV a) :
  PureC Tryz.prog [] 62 [.il 4 (encVs l),.il 4 (encVs m),.fn (.func 58) [] []] (.bool (sameVs l m)) := by
 have hE := fun a ha b => dEq0 a b (hok a ha)
 refine acalls_go nnΓ Tryz.func62 rfl ?_
 ((conv=>whnf);repeat(refine Xg ?_;conv=>whnf))
 refine bcs_mk (fun h => ?_) (fun h => ?_)
 ·have h1 : l.length ≠ m.length := by rw [encVs_length,encVs_length] at h; simp at h; omega
  have : sameVs l m = false := by
   cases e : sameVs l m with
   | false => rfl
   | true => exact absurd (sameVs_lenE e) h1
  rw [this]
  ((conv=>whnf);repeat(refine Xg ?_;conv=>whnf))
  exact fin_pure nn ⟨rfl,rfl,rfl⟩
 ·have h1 : l.length = m.length := by rw [encVs_length,encVs_length] at h; simp at h; omega
  ((conv=>whnf);repeat(refine Xg ?_;conv=>whnf))
  refine ALoop.at nnΓ (fun i : Nat => i ≤ l.length ∧ sameVs l m = sameVs (l.drop i) (m.drop i)) (fun i => ⟨[(1,.il 4 (encVs m)),(2,.fn (.func 58) [] []),(15,.il 4 (encVs l)),(16,.int .i64 l.length),(17,.int .i64 i)],[],0,32⟩) (fun i => l.length - i) 0 [] ⟨by simp,by simp⟩
   (conv_pure ⟨⟨_,rfl,.same _ (.il' (encVs_nn _))⟩,⟨_,rfl,.same _ nn⟩,⟨_,rfl,.same _ (.il' (encVs_nn _))⟩,⟨_,rfl,.int (by rw [encVs_length])⟩,⟨_,rfl,.same _ nn⟩,trivial⟩) ?_
  rintro i ⟨hi,hs⟩
  ((conv=>whnf);repeat(refine Xg ?_;conv=>whnf))
  refine bcs_mk (fun hb => ?_) (fun hb => ?_)
  ·have hil : i < l.length := by simpa using hb
   obtain ⟨p1,p2,p3,p4,pm,pg,pe,ep⟩ := enc_cases (l := l) (k := i) hil
   obtain ⟨q1,q2,q3,q4,qm,qg,qe,eq⟩ := enc_cases (l := m) (k := i) (by omega)
   rw [List.drop_eq_getElem_cons hil,List.drop_eq_getElem_cons (show i < m.length by omega),sameVs,pe,qe] at hs
   have hc := hE _ pm (.mk q1 q2 q3 q4)
   obtain ⟨c,hc0⟩ : ∃ c,c = cmpV (.mk p1 p2 p3 p4) (.mk q1 q2 q3 q4) := ⟨_,rfl⟩
   rw [← hc0] at hc hs
   ((conv=>whnf);repeat(refine Xg ?_;conv=>whnf))
   repeat ((first | refine opt_mk ep ?_ | refine opt_mk eq ?_ | refine ⟨rfl, ?_⟩); ((conv=>whnf);repeat(refine Xg ?_;conv=>whnf)))
   refine hc.go ?_
   ((conv=>whnf);repeat(refine Xg ?_;conv=>whnf))
   refine bcs_mk (fun h => ?_) (fun h => ?_)
   ·have : decide (c = 0) = false := by simpa using h
    rw [hs,this]
    ((conv=>whnf);repeat(refine Xg ?_;conv=>whnf))
    exact fin_pure nn ⟨rfl,rfl,rfl⟩
   ·have : decide (c = 0) = true := by simpa using h
    rw [this] at hs
    ((conv=>whnf);repeat(refine Xg ?_;conv=>whnf))
    exact .mk (i + 1) [] ⟨by omega,hs⟩ (conv_pure ⟨⟨_,rfl,.same _ (.il' (encVs_nn _))⟩,⟨_,rfl,.same _ nn⟩,⟨_,rfl,.same _ (.il' (encVs_nn _))⟩,⟨_,rfl,.same _ nn⟩,⟨_,rfl,.w64 (by omega) ⟨by omega,by omega⟩⟩,trivial⟩) (by omega)
  ·have hil : i = l.length := by simp at hb; omega
   rw [hil,List.drop_length,h1,List.drop_length,sameVs] at hs
   rw [hs]
   ((conv=>whnf);repeat(refine Xg ?_;conv=>whnf))
   exact fin_pure nn ⟨rfl,rfl,rfl⟩
set_option maxHeartbeats 8000000
def vMx (ns : List Nd) (ls ss : List Int) (kn : List Bool) (rest : Mem) : Mem := (0,.row 111 4 [.agg [.il 12 (encNs ns),.sl 1 0 ns.length,.sl 2 0 ns.length,.ptr 3 0 0]]) :: (1,.row 3 1 (encI ls)) :: (2,.row 3 1 (encI ss)) ::
 (3,.row 140 4 [.agg [.il 12 (encNs ns),.sl 4 0 ns.length,.sl 5 0 ns.length,.sl 6 0 ns.length]]) :: (4,.row 4 1 (kB kn)) :: (5,.row 31 1 (lB (listsT ns) kn)) :: (6,.row 4 1 (mB (listsT ns) kn)) :: rest
def vMx0 (ns : List Nd) (l1 l2 : List AV) (kn : List Bool) : Mem := [(0,.row 111 4 [.agg [.il 12 (encNs ns),.sl 1 0 ns.length,.sl 2 0 ns.length,.ptr 3 0 0]]),(1,.row 3 1 l1),(2,.row 3 1 l2),
 (3,.row 140 4 [.agg [.il 12 (encNs ns),.sl 4 0 ns.length,.sl 5 0 ns.length,.sl 6 0 ns.length]]),(4,.row 4 1 (kB kn)),(5,.row 31 1 (lB (listsT ns) kn)),(6,.row 4 1 (mB (listsT ns) kn))]
theorem vRow {mem : Mem} {σ : List (Nat × Nat)} {ns : List Nd} {N a b c a' b' c' : Nat} (h1 : lk σ a = some a') (h2 : lk σ b = some b') (h3 : lk σ c = some c') :
  CvR mem σ [.agg [.il 12 (encNs ns),.sl a 0 N,.sl b 0 N,.ptr c 0 0]] [.agg [.il 12 (encNs ns),.sl a' 0 N,.sl b' 0 N,.ptr c' 0 0]] :=
 .cons (.agg (.cons (.same _ (.il' (encNs_nn _))) (.cons (.sl a a' 0 N h1) (.cons (.sl b b' 0 N h2) (.cons (.ptr c c' 0 0 h3) .nil))))) .nil
theorem vMx_conv {mem : Mem} {σ : List (Nat × Nat)} {ns : List Nd} {kn : List Bool} {ls ss : List Int} {l1 l2 : List AV} {rest : Mem} (h0 : lk σ 0 = some 0) (h1 : lk σ 1 = some 1) (h2 : lk σ 2 = some 2) (h3 : lk σ 3 = some 3) (h4 : lk σ 4 = some 4) (h5 : lk σ 5 = some 5) (h6 : lk σ 6 = some 6)
  (m0 : lk mem 0 = some (.row 111 4 [.agg [.il 12 (encNs ns),.sl 1 0 ns.length,.sl 2 0 ns.length,.ptr 3 0 0]])) (m1 : lk mem 1 = some (.row 3 1 l1)) (m2 : lk mem 2 = some (.row 3 1 l2)) (e1 : l1 = encI ls) (e2 : l2 = encI ss)
  (m3 : lk mem 3 = some (.row 140 4 [.agg [.il 12 (encNs ns),.sl 4 0 ns.length,.sl 5 0 ns.length,.sl 6 0 ns.length]])) (m4 : lk mem 4 = some (.row 4 1 (kB kn))) (m5 : lk mem 5 = some (.row 31 1 (lB (listsT ns) kn))) (m6 : lk mem 6 = some (.row 4 1 (mB (listsT ns) kn)))
  (hr : MemConv mem σ rest) : MemConv mem σ (vMx ns ls ss kn rest) :=
 ⟨⟨0,_,h0,m0,vRow h1 h2 h3⟩,⟨1,_,h1,m1,.eq (encI_nn _) e1⟩,⟨2,_,h2,m2,.eq (encI_nn _) e2⟩,⟨3,_,h3,m3,sRow h4 h5 h6⟩,⟨4,_,h4,m4,.same (kB_nn _)⟩,⟨5,_,h5,m5,.same (lB_nn _ _)⟩,⟨6,_,h6,m6,.same (mB_nn _ _)⟩,hr⟩
theorem vM_conv (ns : List Nd) (ls ss : List Int) (kn : List Bool) : MemConv (vMx ns ls ss kn []) (idS [0,1,2,3,4,5,6]) (vMx ns ls ss kn []) := vMx_conv rfl rfl rfl rfl rfl rfl rfl rfl rfl rfl rfl rfl rfl rfl rfl rfl trivial
theorem encI_set (l : List Int) (i : Nat) (y : Int) : encI (l.set i y) = (encI l).set i (.int .i64 y) := by simp [encI,List.map_set]
theorem tSmall {ns : List Nd} (i : Nat) (x : Nd) (hx : ns[i]? = some x) (hok : okN x) (hsz : sizeV x.value ≤ 1048576) (hkl : x.kids.length ≤ 65536) (hkids : ∀ (j : Nat) (k : Int),x.kids[j]? = some k → 0 ≤ k ∧ k < i) (hkd : 0 ≤ x.kind ∧ x.kind ≤ 4) (h4 : 4 ≤ x.kind → 0 < x.kids.length)
  (ls ss : List Int) (kn : List Bool) (hls : ls.length = ns.length) (hss : ss.length = ns.length) (bl : ∀ y ∈ ls,0 ≤ y ∧ y ≤ 1024) (bs : ∀ y ∈ ss,0 ≤ y ∧ y ≤ 1024) :
  ACalls Tryz.prog [] 68 [.ptr 0 0 0,.int .i64 i] (vMx ns ls ss kn []) 7 fun r m k => r = .bool (decide (lenN ls x ≤ 256) && decide (sizP ss x ≤ 1024)) ∧ m = vMx ns (ls.set i (lenN ls x)) (ss.set i (sizP ss x)) kn [] ∧ k = 7 := by
 have hil := (List.getElem?_eq_some_iff.1 hx).1
 have ex : (encNs ns)[((i : Nat) : Int).toNat]? = some (encN x) := by simp [encNs_get,hx]
 have hxn := encN_nn x
 have hL := wLength ls x hok hkl bl (fun j k hk => by have := hkids j k hk; omega) h4 hkd
 have hV := vSize x.value hsz
 have hP : sizP ss x = if x.kind = 0 then (sizeV x.value : Int) else if x.kind = 1 then 1 else if x.kind = 3 then 1 + sumK ss x.kids else max 1 (mostK ss (armsN x)) := rfl
 have hs := fun l => sumK_bound (b := ss) (M := 1024) (by omega) bs l
 have hm := fun l => mostK_bound (b := ss) (M := 1024) (by omega) bs l
 have har : armsN x = if x.kind = 2 then x.kids else x.kids.drop 1 := rfl
 have hat := fun q => atI_bound (b := ss) (M := 1024) (by omega) bs q
 have eat : ∀ k : Int,0 ≤ k → k < ss.length → (encI ss)[0 + k.toNat]? = some (.int .i64 (atI ss k)) := fun k h0 h1 => by
  have : k.toNat < ss.length := by omega
  rw [Nat.zero_add,encI_get,List.getElem?_eq_getElem this]
  unfold atI
  rw [List.getD_eq_getElem?_getD,List.getElem?_eq_getElem this]
  rfl
 have hM : ∀ k : Nat,k < x.kids.length → (mostK ss (if x.kind = 2 then x.kids.take (k + 1) else (x.kids.take (k + 1)).drop 1)) = if 0 < k ∨ x.kind = 2 then max (mostK ss (if x.kind = 2 then x.kids.take k else (x.kids.take k).drop 1)) (atI ss (x.kids.getD k 0)) else mostK ss (if x.kind = 2 then x.kids.take k else (x.kids.take k).drop 1) := fun k hk => by
  have eg : x.kids.getD k 0 = x.kids[k] := by rw [List.getD_eq_getElem?_getD,List.getElem?_eq_getElem hk]; rfl
  rw [eg]
  by_cases e2 : x.kind = 2
  ·rw [if_pos e2,if_pos (.inr e2),if_pos e2,mostK_take hk]
  ·rw [if_neg e2,if_neg e2]
   by_cases e0 : 0 < k
   ·rw [if_pos (.inl e0),mostK_drop hk e0]
   ·rw [if_neg (by omega)]
    have : k = 0 := by omega
    subst this
    simp [mostK,List.drop_eq_nil_of_le]
 have h0 : 0 + ((i : Nat) : Int).toNat = i := by simp
 have g1 : Nat.blt ((i : Nat) : Int).toNat ns.length = true := Nat.ble_eq_true_of_le (by simp; omega)
 generalize hlen : lenN ls x = len at *
 generalize hsiz : sizP ss x = siz at *
 clear hlen hsiz hok
 obtain ⟨kind,name,lo,hi',ws,lbs,vals,kids,⟨vk,vn,vs,vks⟩⟩ := x
 simp only at hsz hkl hkids hkd h4 hV hP hM
 obtain ⟨sv,hsv⟩ : ∃ sv,sv = sizeV (.mk vk vn vs vks) := ⟨_,rfl⟩
 rw [← hsv] at hV hP hsz
 have f1 : (encI ls)[0 + ((i : Nat) : Int).toNat]? = some (.int .i64 ls[i]) := by rw [h0,encI_get,List.getElem?_eq_getElem (by omega)]; rfl
 have f2 : ((encI ls).set (0 + ((i : Nat) : Int).toNat) (.int .i64 len))[0 + ((i : Nat) : Int).toNat]? = some (.int .i64 len) := by rw [h0]; exact List.getElem?_set_self (by rw [encI_length]; omega)
 have f3 : (encI ss)[0 + ((i : Nat) : Int).toNat]? = some (.int .i64 ss[i]) := by rw [h0,encI_get,List.getElem?_eq_getElem (by omega)]; rfl
 have f4 : ∀ siz : Int,((encI ss).set (0 + ((i : Nat) : Int).toNat) (.int .i64 siz))[0 + ((i : Nat) : Int).toNat]? = some (.int .i64 siz) := fun siz => by rw [h0]; exact List.getElem?_set_self (by rw [encI_length]; omega)
 generalize ls[i] = l0 at f1
 generalize ss[i] = s0 at f3
 refine acalls_go nnΓ Tryz.func68 rfl ?_
 ((conv=>whnf);repeat(refine Xg ?_;conv=>whnf))
 repeat ((first | refine grd_mk g1 ?_ | refine opt_mk ex ?_ | refine opt_mk f1 ?_ | refine opt_mk f2 ?_ | refine setK_iff.2 ?_ | refine ⟨rfl, ?_⟩); ((conv=>whnf);repeat(refine Xg ?_;conv=>whnf)))
 refine hL.lend nnΓ (.cons (.same _ (.ip' hxn)) (.cons (.fz' (id := 1) (t := 3) (xs := encI ls) rfl rfl (by rw [encI_length]; omega) (by rw [List.drop_zero]; exact List.take_of_length_le (by rw [encI_length]; omega)) (encI_nn _)) .nil)) (.int _ _) ?_
 ((conv=>whnf);repeat(refine Xg ?_;conv=>whnf))
 repeat ((first | refine grd_mk g1 ?_ | refine opt_mk ex ?_ | refine opt_mk f1 ?_ | refine opt_mk f2 ?_ | refine setK_iff.2 ?_ | refine ⟨rfl, ?_⟩); ((conv=>whnf);repeat(refine Xg ?_;conv=>whnf)))
 obtain ⟨d1,hd1⟩ : ∃ d1,d1 = decide (len ≤ 256) := ⟨_,rfl⟩
 rw [← hd1]
 have fin : ∀ (mem : Mem) (nx : Nat) {d : Bool},d = (d1 && decide (siz ≤ 1024)) → mem = vMx0 ns ((encI ls).set (0 + ((i : Nat) : Int).toNat) (.int .i64 len)) ((encI ss).set (0 + ((i : Nat) : Int).toNat) (.int .i64 siz)) kn →
   Fini 7 (fun r m k => r = .bool (d1 && decide (siz ≤ 1024)) ∧ m = vMx ns (ls.set i len) (ss.set i siz) kn [] ∧ k = 7) (.bool d) mem nx := by
  rintro mem nx d rfl rfl
  exact fin_mk (n' := 7) (m' := vMx ns (ls.set i len) (ss.set i siz) kn []) (idS [0,1,2,3,4,5,6]) rfl (vMx_conv rfl rfl rfl rfl rfl rfl rfl rfl rfl rfl (by rw [h0]; exact (encI_set _ _ _).symm) (by rw [h0]; exact (encI_set _ _ _).symm) rfl rfl rfl rfl trivial) (.same _ nn) ⟨rfl,rfl,rfl⟩
 have fin' : ∀ (mem : Mem) (nx : Nat) {d : Bool},d = (d1 && decide (siz ≤ 1024)) → mem = vMx0 ns (encI (ls.set i len)) ((encI ss).set (0 + ((i : Nat) : Int).toNat) (.int .i64 siz)) kn →
   Fini 7 (fun r m k => r = .bool (d1 && decide (siz ≤ 1024)) ∧ m = vMx ns (ls.set i len) (ss.set i siz) kn [] ∧ k = 7) (.bool d) mem nx := by
  rintro mem nx d rfl rfl
  exact fin_mk (n' := 7) (m' := vMx ns (ls.set i len) (ss.set i siz) kn []) (idS [0,1,2,3,4,5,6]) rfl (vMx_conv rfl rfl rfl rfl rfl rfl rfl rfl rfl rfl rfl (by rw [h0]; exact (encI_set _ _ _).symm) rfl rfl rfl rfl trivial) (.same _ nn) ⟨rfl,rfl,rfl⟩
 have f2' : (encI (ls.set i len))[0 + ((i : Nat) : Int).toNat]? = some (.int .i64 len) := by rw [h0,encI_set]; exact List.getElem?_set_self (by rw [encI_length]; omega)
 rcases (show kind = 0 ∨ kind = 1 ∨ kind = 2 ∨ kind = 3 ∨ kind = 4 by omega) with rfl | rfl | rfl | rfl | rfl
 ·rw [if_pos rfl] at hP
  subst hP
  ((conv=>whnf);repeat(refine Xg ?_;conv=>whnf))
  refine hV.go ?_
  ((conv=>whnf);repeat(refine Xg ?_;conv=>whnf))
  repeat ((first | refine grd_mk g1 ?_ | refine opt_mk f3 ?_ | refine opt_mk (f4 _) ?_ | refine opt_mk f2 ?_ | refine setK_iff.2 ?_ | refine ⟨rfl, ?_⟩); ((conv=>whnf);repeat(refine Xg ?_;conv=>whnf)))
  rw [← hd1]
  clear hd1
  cases d1 with
  | true =>
   ((conv=>whnf);repeat(refine Xg ?_;conv=>whnf))
   exact fin _ _ rfl rfl
  | false =>
   ((conv=>whnf);repeat(refine Xg ?_;conv=>whnf))
   exact fin _ _ rfl rfl
 ·rw [if_neg (by decide),if_pos rfl] at hP
  subst hP
  ((conv=>whnf);repeat(refine Xg ?_;conv=>whnf))
  repeat ((first | refine grd_mk g1 ?_ | refine opt_mk f3 ?_ | refine opt_mk (f4 _) ?_ | refine opt_mk f2 ?_ | refine setK_iff.2 ?_ | refine ⟨rfl, ?_⟩); ((conv=>whnf);repeat(refine Xg ?_;conv=>whnf)))
  rw [← hd1]
  clear hd1
  cases d1 with
  | true =>
   ((conv=>whnf);repeat(refine Xg ?_;conv=>whnf))
   exact fin _ _ rfl rfl
  | false =>
   ((conv=>whnf);repeat(refine Xg ?_;conv=>whnf))
   exact fin _ _ rfl rfl
 ·rw [if_neg (by decide),if_neg (by decide),if_neg (by decide)] at hP
  ((conv=>whnf);repeat(refine Xg ?_;conv=>whnf))
  refine ALoop.at nnΓ (fun p : Nat × Int => p.1 ≤ kids.length ∧ p.2 = max 1 (mostK ss (kids.take p.1)))
   (fun p => ⟨[(0,.ptr 0 0 0),(1,.int .i64 i),(5,.ip (encN ⟨2,name,lo,hi',ws,lbs,vals,kids,.mk vk vn vs vks⟩)),(6,.int .i64 p.2),(67,.il 1 (encI kids)),(68,.int .i64 kids.length),(69,.int .i64 p.1)],vMx ns (ls.set i len) ss kn [],7,112⟩) (fun p => kids.length - p.1) (0,1) (idS [0,1,2,3,4,5,6]) ⟨by simp,by simp [mostK]; omega⟩
   (conv_mk _ rfl (vMx_conv rfl rfl rfl rfl rfl rfl rfl rfl rfl rfl (by rw [h0]; exact (encI_set _ _ _).symm) rfl rfl rfl rfl rfl trivial) ⟨⟨_,rfl,.ptr 0 0 0 0 rfl⟩,⟨_,rfl,.same _ nn⟩,⟨_,rfl,.same _ (.ip' hxn)⟩,⟨_,rfl,.same _ nn⟩,⟨_,rfl,.same _ (.il' (encI_nn _))⟩,⟨_,rfl,.int (by rw [encI_length])⟩,⟨_,rfl,.same _ nn⟩,trivial⟩) ?_
  rintro ⟨j,size⟩ ⟨hj,hsize⟩
  simp only at hj hsize ⊢
  have bsz := hm (kids.take j)
  ((conv=>whnf);repeat(refine Xg ?_;conv=>whnf))
  refine bcs_mk (fun h => ?_) (fun h => ?_)
  ·have hlt : j < kids.length := by simpa using h
   have e1 : (encI kids)[(j : Int).toNat]? = some (.int .i64 kids[j]) := by rw [Int.toNat_natCast,encI_get,List.getElem?_eq_getElem hlt]; rfl
   obtain ⟨q0,q1⟩ := hkids j _ (List.getElem?_eq_getElem hlt)
   have hM := hM j hlt
   have eg : kids.getD j 0 = kids[j] := by rw [List.getD_eq_getElem?_getD,List.getElem?_eq_getElem hlt]; rfl
   rw [eg] at hM
   have hM : mostK ss (kids.take (j + 1)) = max (mostK ss (kids.take j)) (atI ss kids[j]) := by simpa using hM
   generalize kids[j] = q at e1 q0 q1 hM
   obtain ⟨q,rfl⟩ := Int.eq_ofNat_of_zero_le q0
   have e2 := eat q q0 (by omega)
   have hq := hat q
   have g2 : Nat.blt ((q : Nat) : Int).toNat ns.length = true := Nat.ble_eq_true_of_le (by simp; omega)
   generalize atI ss q = z at e2 hq hM
   ((conv=>whnf);repeat(refine Xg ?_;conv=>whnf))
   repeat ((first | refine grd_mk g2 ?_ | refine opt_mk e1 ?_ | refine opt_mk e2 ?_); ((conv=>whnf);repeat(refine Xg ?_;conv=>whnf)))
   by_cases k0 : 0 < j
   ·have d0 : decide ((j : Int) > 0) = true := by simp; omega
    rw [d0]
    ((conv=>whnf);repeat(refine Xg ?_;conv=>whnf))
    repeat ((first | refine grd_mk g2 ?_ | refine opt_mk e1 ?_ | refine opt_mk e2 ?_); ((conv=>whnf);repeat(refine Xg ?_;conv=>whnf)))
    exact .mk (j + 1,max size z) (idS [0,1,2,3,4,5,6]) ⟨by simp only; omega,by simp only; rw [hM,hsize]; omega⟩
     (conv_mk _ rfl (vM_conv _ _ _ _) ⟨⟨_,rfl,.ptr 0 0 0 0 rfl⟩,⟨_,rfl,.same _ nn⟩,⟨_,rfl,.same _ (.ip' hxn)⟩,⟨_,rfl,.int (by simp only; split <;> omega)⟩,⟨_,rfl,.same _ (.il' (encI_nn _))⟩,⟨_,rfl,.same _ nn⟩,⟨_,rfl,.w64 (by simp only; omega) ⟨by simp only; omega,by simp only; omega⟩⟩,trivial⟩) (by simp only; omega)
   ·have d0 : decide ((j : Int) > 0) = false := by simp; omega
    rw [d0]
    ((conv=>whnf);repeat(refine Xg ?_;conv=>whnf))
    repeat ((first | refine grd_mk g2 ?_ | refine opt_mk e1 ?_ | refine opt_mk e2 ?_); ((conv=>whnf);repeat(refine Xg ?_;conv=>whnf)))
    exact .mk (j + 1,max size z) (idS [0,1,2,3,4,5,6]) ⟨by simp only; omega,by simp only; rw [hM,hsize]; omega⟩
     (conv_mk _ rfl (vM_conv _ _ _ _) ⟨⟨_,rfl,.ptr 0 0 0 0 rfl⟩,⟨_,rfl,.same _ nn⟩,⟨_,rfl,.same _ (.ip' hxn)⟩,⟨_,rfl,.int (by simp only; split <;> omega)⟩,⟨_,rfl,.same _ (.il' (encI_nn _))⟩,⟨_,rfl,.same _ nn⟩,⟨_,rfl,.w64 (by simp only; omega) ⟨by simp only; omega,by simp only; omega⟩⟩,trivial⟩) (by simp only; omega)
  ·have hlt : j = kids.length := by simp at h; omega
   rw [hlt,List.take_length,show mostK ss kids = mostK ss (armsN ⟨2,name,lo,hi',ws,lbs,vals,kids,.mk vk vn vs vks⟩) from rfl,← hP] at hsize
   subst hsize
   ((conv=>whnf);repeat(refine Xg ?_;conv=>whnf))
   repeat ((first | refine grd_mk g1 ?_ | refine opt_mk f3 ?_ | refine opt_mk (f4 _) ?_ | refine opt_mk f2' ?_ | refine setK_iff.2 ?_ | refine ⟨rfl, ?_⟩); ((conv=>whnf);repeat(refine Xg ?_;conv=>whnf)))
   rw [← hd1]
   clear hd1
   cases d1 with
   | true =>
    ((conv=>whnf);repeat(refine Xg ?_;conv=>whnf))
    exact fin' _ _ rfl rfl
   | false =>
    ((conv=>whnf);repeat(refine Xg ?_;conv=>whnf))
    exact fin' _ _ rfl rfl
 ·rw [if_neg (by decide),if_neg (by decide),if_pos rfl] at hP
  ((conv=>whnf);repeat(refine Xg ?_;conv=>whnf))
  refine ALoop.at nnΓ (fun p : Nat × Int => p.1 ≤ kids.length ∧ p.2 = 1 + sumK ss (kids.take p.1))
   (fun p => ⟨[(0,.ptr 0 0 0),(1,.int .i64 i),(6,.int .i64 p.2),(45,.il 1 (encI kids)),(46,.int .i64 kids.length),(47,.int .i64 p.1)],vMx ns (ls.set i len) ss kn [],7,112⟩) (fun p => kids.length - p.1) (0,1) (idS [0,1,2,3,4,5,6]) ⟨by simp,by simp [sumK]⟩
   (conv_mk _ rfl (vMx_conv rfl rfl rfl rfl rfl rfl rfl rfl rfl rfl (by rw [h0]; exact (encI_set _ _ _).symm) rfl rfl rfl rfl rfl trivial) ⟨⟨_,rfl,.ptr 0 0 0 0 rfl⟩,⟨_,rfl,.same _ nn⟩,⟨_,rfl,.same _ nn⟩,⟨_,rfl,.same _ (.il' (encI_nn _))⟩,⟨_,rfl,.int (by rw [encI_length])⟩,⟨_,rfl,.same _ nn⟩,trivial⟩) ?_
  rintro ⟨j,size⟩ ⟨hj,hsize⟩
  simp only at hj hsize ⊢
  have bsz := hs (kids.take j)
  have btk : (kids.take j).length ≤ 65536 := by simp; omega
  ((conv=>whnf);repeat(refine Xg ?_;conv=>whnf))
  refine bcs_mk (fun h => ?_) (fun h => ?_)
  ·have hlt : j < kids.length := by simpa using h
   have e1 : (encI kids)[(j : Int).toNat]? = some (.int .i64 kids[j]) := by rw [Int.toNat_natCast,encI_get,List.getElem?_eq_getElem hlt]; rfl
   obtain ⟨q0,q1⟩ := hkids j _ (List.getElem?_eq_getElem hlt)
   have hst := sumK_take (b := ss) hlt
   generalize kids[j] = q at e1 q0 q1 hst
   obtain ⟨q,rfl⟩ := Int.eq_ofNat_of_zero_le q0
   have e2 := eat q q0 (by omega)
   have hq := hat q
   have g2 : Nat.blt ((q : Nat) : Int).toNat ns.length = true := Nat.ble_eq_true_of_le (by simp; omega)
   generalize atI ss q = z at e2 hq hst
   ((conv=>whnf);repeat(refine Xg ?_;conv=>whnf))
   repeat ((first | refine grd_mk g2 ?_ | refine opt_mk e1 ?_ | refine opt_mk e2 ?_); ((conv=>whnf);repeat(refine Xg ?_;conv=>whnf)))
   exact .mk (j + 1,size + z) (idS [0,1,2,3,4,5,6]) ⟨by simp only; omega,by simp only; rw [hst,hsize]; omega⟩
    (conv_mk _ rfl (vM_conv _ _ _ _) ⟨⟨_,rfl,.ptr 0 0 0 0 rfl⟩,⟨_,rfl,.same _ nn⟩,⟨_,rfl,.w64 rfl ⟨by simp only; omega,by simp only; omega⟩⟩,⟨_,rfl,.same _ (.il' (encI_nn _))⟩,⟨_,rfl,.same _ nn⟩,⟨_,rfl,.w64 (by simp only; omega) ⟨by simp only; omega,by simp only; omega⟩⟩,trivial⟩) (by simp only; omega)
  ·have hlt : j = kids.length := by simp at h; omega
   rw [hlt,List.take_length,← hP] at hsize
   subst hsize
   ((conv=>whnf);repeat(refine Xg ?_;conv=>whnf))
   repeat ((first | refine grd_mk g1 ?_ | refine opt_mk f3 ?_ | refine opt_mk (f4 _) ?_ | refine opt_mk f2' ?_ | refine setK_iff.2 ?_ | refine ⟨rfl, ?_⟩); ((conv=>whnf);repeat(refine Xg ?_;conv=>whnf)))
   rw [← hd1]
   clear hd1
   cases d1 with
   | true =>
    ((conv=>whnf);repeat(refine Xg ?_;conv=>whnf))
    exact fin' _ _ rfl rfl
   | false =>
    ((conv=>whnf);repeat(refine Xg ?_;conv=>whnf))
    exact fin' _ _ rfl rfl
 ·rw [if_neg (by decide),if_neg (by decide),if_neg (by decide)] at hP
  ((conv=>whnf);repeat(refine Xg ?_;conv=>whnf))
  refine ALoop.at nnΓ (fun p : Nat × Int => p.1 ≤ kids.length ∧ p.2 = max 1 (mostK ss ((kids.take p.1).drop 1)))
   (fun p => ⟨[(0,.ptr 0 0 0),(1,.int .i64 i),(5,.ip (encN ⟨4,name,lo,hi',ws,lbs,vals,kids,.mk vk vn vs vks⟩)),(6,.int .i64 p.2),(67,.il 1 (encI kids)),(68,.int .i64 kids.length),(69,.int .i64 p.1)],vMx ns (ls.set i len) ss kn [],7,112⟩) (fun p => kids.length - p.1) (0,1) (idS [0,1,2,3,4,5,6]) ⟨by simp,by simp [mostK]; omega⟩
   (conv_mk _ rfl (vMx_conv rfl rfl rfl rfl rfl rfl rfl rfl rfl rfl (by rw [h0]; exact (encI_set _ _ _).symm) rfl rfl rfl rfl rfl trivial) ⟨⟨_,rfl,.ptr 0 0 0 0 rfl⟩,⟨_,rfl,.same _ nn⟩,⟨_,rfl,.same _ (.ip' hxn)⟩,⟨_,rfl,.same _ nn⟩,⟨_,rfl,.same _ (.il' (encI_nn _))⟩,⟨_,rfl,.int (by rw [encI_length])⟩,⟨_,rfl,.same _ nn⟩,trivial⟩) ?_
  rintro ⟨j,size⟩ ⟨hj,hsize⟩
  simp only at hj hsize ⊢
  have bsz := hm ((kids.take j).drop 1)
  ((conv=>whnf);repeat(refine Xg ?_;conv=>whnf))
  refine bcs_mk (fun h => ?_) (fun h => ?_)
  ·have hlt : j < kids.length := by simpa using h
   have e1 : (encI kids)[(j : Int).toNat]? = some (.int .i64 kids[j]) := by rw [Int.toNat_natCast,encI_get,List.getElem?_eq_getElem hlt]; rfl
   obtain ⟨q0,q1⟩ := hkids j _ (List.getElem?_eq_getElem hlt)
   have hM := hM j hlt
   have eg : kids.getD j 0 = kids[j] := by rw [List.getD_eq_getElem?_getD,List.getElem?_eq_getElem hlt]; rfl
   rw [eg] at hM
   have hM : 0 < j → mostK ss ((kids.take (j + 1)).drop 1) = max (mostK ss ((kids.take j).drop 1)) (atI ss kids[j]) := fun hj => by rw [mostK_drop hlt hj]
   generalize kids[j] = q at e1 q0 q1 hM
   obtain ⟨q,rfl⟩ := Int.eq_ofNat_of_zero_le q0
   have e2 := eat q q0 (by omega)
   have hq := hat q
   have g2 : Nat.blt ((q : Nat) : Int).toNat ns.length = true := Nat.ble_eq_true_of_le (by simp; omega)
   generalize atI ss q = z at e2 hq hM
   ((conv=>whnf);repeat(refine Xg ?_;conv=>whnf))
   repeat ((first | refine grd_mk g2 ?_ | refine opt_mk e1 ?_ | refine opt_mk e2 ?_); ((conv=>whnf);repeat(refine Xg ?_;conv=>whnf)))
   by_cases k0 : 0 < j
   ·have d0 : decide ((j : Int) > 0) = true := by simp; omega
    rw [d0]
    ((conv=>whnf);repeat(refine Xg ?_;conv=>whnf))
    repeat ((first | refine grd_mk g2 ?_ | refine opt_mk e1 ?_ | refine opt_mk e2 ?_); ((conv=>whnf);repeat(refine Xg ?_;conv=>whnf)))
    exact .mk (j + 1,max size z) (idS [0,1,2,3,4,5,6]) ⟨by simp only; omega,by simp only; rw [hM k0,hsize]; omega⟩
     (conv_mk _ rfl (vM_conv _ _ _ _) ⟨⟨_,rfl,.ptr 0 0 0 0 rfl⟩,⟨_,rfl,.same _ nn⟩,⟨_,rfl,.same _ (.ip' hxn)⟩,⟨_,rfl,.int (by simp only; split <;> omega)⟩,⟨_,rfl,.same _ (.il' (encI_nn _))⟩,⟨_,rfl,.same _ nn⟩,⟨_,rfl,.w64 (by simp only; omega) ⟨by simp only; omega,by simp only; omega⟩⟩,trivial⟩) (by simp only; omega)
   ·have d0 : decide ((j : Int) > 0) = false := by simp; omega
    rw [d0]
    ((conv=>whnf);repeat(refine Xg ?_;conv=>whnf))
    repeat ((first | refine grd_mk g2 ?_ | refine opt_mk e1 ?_ | refine opt_mk e2 ?_); ((conv=>whnf);repeat(refine Xg ?_;conv=>whnf)))
    have j0 : j = 0 := by omega
    subst j0
    exact .mk (1,size) (idS [0,1,2,3,4,5,6]) ⟨by simp only; omega,by simp only; rw [hsize]; simp [List.drop_eq_nil_of_le]⟩
     (conv_mk _ rfl (vM_conv _ _ _ _) ⟨⟨_,rfl,.ptr 0 0 0 0 rfl⟩,⟨_,rfl,.same _ nn⟩,⟨_,rfl,.same _ (.ip' hxn)⟩,⟨_,rfl,.same _ nn⟩,⟨_,rfl,.same _ (.il' (encI_nn _))⟩,⟨_,rfl,.same _ nn⟩,⟨_,rfl,.w64 (by simp only; omega) ⟨by simp only; omega,by simp only; omega⟩⟩,trivial⟩) (by simp only; omega)
  ·have hlt : j = kids.length := by simp at h; omega
   rw [hlt,List.take_length,show mostK ss (kids.drop 1) = mostK ss (armsN ⟨4,name,lo,hi',ws,lbs,vals,kids,.mk vk vn vs vks⟩) from rfl,← hP] at hsize
   subst hsize
   ((conv=>whnf);repeat(refine Xg ?_;conv=>whnf))
   repeat ((first | refine grd_mk g1 ?_ | refine opt_mk f3 ?_ | refine opt_mk (f4 _) ?_ | refine opt_mk f2' ?_ | refine setK_iff.2 ?_ | refine ⟨rfl, ?_⟩); ((conv=>whnf);repeat(refine Xg ?_;conv=>whnf)))
   rw [← hd1]
   clear hd1
   cases d1 with
   | true =>
    ((conv=>whnf);repeat(refine Xg ?_;conv=>whnf))
    exact fin' _ _ rfl rfl
   | false =>
    ((conv=>whnf);repeat(refine Xg ?_;conv=>whnf))
    exact fin' _ _ rfl rfl
theorem tCases {ns : List Nd} {n : Nat} (h : SetOK ns n) (x : Nd) (hvl : x.values.length ≤ 1000000) (hk4 : x.kind = 4 → ∃ k : Nat,x.kids[0]? = some (k : Int) ∧ k < n) (ls ss : List Int) (kn : List Bool) (hk : kn.length = ns.length) :
  ACalls Tryz.prog [] 69 [.ptr 0 0 0,.ip (encN x)] (vMx ns ls ss kn []) 7 fun r m k => ∃ kn',kn'.length = ns.length ∧
   r = .int .i64 (if x.kind = 4 then (if (atL (listsT ns) (x.kids.getD 0 0)).many = true then 4 else if sameVs (atL (listsT ns) (x.kids.getD 0 0)).vals x.values = true then 0 else 1) else 0) ∧ m = vMx ns ls ss kn' [] ∧ k = 7 := by
 have hxn := encN_nn x
 generalize hres : (if x.kind = 4 then (if (atL (listsT ns) (x.kids.getD 0 0)).many = true then 4 else if sameVs (atL (listsT ns) (x.kids.getD 0 0)).vals x.values = true then 0 else 1) else (0 : Int)) = res
 have fin : ∀ (kn' : List Bool) (mem : Mem) (nx : Nat) (c : Int),kn'.length = ns.length → c = res → MemConv mem (idS [0,1,2,3,4,5,6]) (vMx ns ls ss kn' []) →
   Fini 7 (fun r m k => ∃ kn',kn'.length = ns.length ∧ r = .int .i64 res ∧ m = vMx ns ls ss kn' [] ∧ k = 7) (.int .i64 c) mem nx := by
  rintro kn' mem nx c hk' rfl hM
  exact fin_mk (n' := 7) (m' := vMx ns ls ss kn' []) (idS [0,1,2,3,4,5,6]) rfl hM (.same _ nn) ⟨kn',hk',rfl,rfl,rfl⟩
 by_cases e4 : x.kind = 4
 ·obtain ⟨k,hkg,hkn⟩ := hk4 e4
  have eg : x.kids.getD 0 0 = (k : Int) := by rw [List.getD_eq_getElem?_getD,hkg]; rfl
  rw [if_pos e4,eg] at hres
  have ek : (encI x.kids)[(0 : Int).toNat]? = some (.int .i64 k) := by rw [show (0 : Int).toNat = 0 from rfl,encI_get,hkg]; rfl
  have hO := sOf h k hkn kn hk
  have hv := h.vals (k := k) (by omega) (by omega)
  obtain ⟨lk,hlk⟩ : ∃ lk,lk = atL (listsT ns) k := ⟨_,rfl⟩
  unfold sQ at hO
  rw [← hlk] at hv hres
  simp only [← hlk] at hO
  obtain ⟨lv,lm⟩ := lk
  simp only at hv hres
  have hE := fun l (hl : l.length ≤ 1024) hok => tEqualFunc l x.values (by omega) (by omega) hok
  obtain ⟨kind,name,lo,hi',ws,lbs,vals,kids,⟨vk,vn,vs,vks⟩⟩ := x
  simp only at e4 ek hvl hE hres
  subst e4
  refine acalls_go nnΓ Tryz.func69 rfl ?_
  ((conv=>whnf);repeat(refine Xg ?_;conv=>whnf))
  repeat ((first | refine opt_mk ek ?_ | refine ⟨rfl, ?_⟩); ((conv=>whnf);repeat(refine Xg ?_;conv=>whnf)))
  refine ACalls.useR nnΓ [(3,0),(4,1),(5,2),(6,3)] hO (by rfl) (.cons (.ptr 3 0 0 0 rfl) (.cons (.same _ nn) .nil)) ⟨⟨3,_,rfl,rfl,sRow rfl rfl rfl⟩,⟨4,_,rfl,rfl,.same (kB_nn _)⟩,⟨5,_,rfl,rfl,.same (lB_nn _ _)⟩,⟨6,_,rfl,rfl,.same (mB_nn _ _)⟩,trivial⟩ (by rfl) ?_
  rintro r m nn' ⟨kn',hk',rfl,rfl,rfl⟩
  refine ⟨[(3,.row 140 4 [.agg [.il 12 (encNs ns),.sl 4 0 ns.length,.sl 5 0 ns.length,.sl 6 0 ns.length]]),(4,.row 4 1 (kB kn')),(5,.row 31 1 (lB (listsT ns) kn')),(6,.row 4 1 (mB (listsT ns) kn'))],nn,⟨⟨0,_,rfl,rfl,sRow rfl rfl rfl⟩,⟨1,_,rfl,rfl,.same (kB_nn _)⟩,⟨2,_,rfl,rfl,.same (lB_nn _ _)⟩,⟨3,_,rfl,rfl,.same (mB_nn _ _)⟩,trivial⟩,by rfl, ?_⟩
  cases lm with
  | true =>
   ((conv=>whnf);repeat(refine Xg ?_;conv=>whnf))
   refine fin kn' _ _ _ hk' (by rw [← hres]; simp) ?_
   exact vMx_conv rfl rfl rfl rfl rfl rfl rfl rfl rfl rfl rfl rfl rfl rfl rfl rfl trivial
  | false =>
   have hE := hE lv hv.1 hv.2
   obtain ⟨sv,hsv⟩ : ∃ sv,sv = sameVs lv vals := ⟨_,rfl⟩
   rw [← hsv] at hE hres
   ((conv=>whnf);repeat(refine Xg ?_;conv=>whnf))
   refine hE.go ?_
   cases sv with
   | true =>
    ((conv=>whnf);repeat(refine Xg ?_;conv=>whnf))
    refine fin kn' _ _ _ hk' (by rw [← hres]; simp) ?_
    exact vMx_conv rfl rfl rfl rfl rfl rfl rfl rfl rfl rfl rfl rfl rfl rfl rfl rfl trivial
   | false =>
    ((conv=>whnf);repeat(refine Xg ?_;conv=>whnf))
    refine fin kn' _ _ _ hk' (by rw [← hres]; simp) ?_
    exact vMx_conv rfl rfl rfl rfl rfl rfl rfl rfl rfl rfl rfl rfl rfl rfl rfl rfl trivial
 ·rw [if_neg e4] at hres
  obtain ⟨kind,name,lo,hi',ws,lbs,vals,kids,⟨vk,vn,vs,vks⟩⟩ := x
  simp only at e4
  refine acalls_go nnΓ Tryz.func69 rfl ?_
  ((conv=>whnf);repeat(refine Xg ?_;conv=>whnf))
  refine bcs_mk (fun _ => ?_) (fun h => absurd (by simpa using h) e4)
  ((conv=>whnf);repeat(refine Xg ?_;conv=>whnf))
  exact fin kn _ _ _ hk hres (vM_conv _ _ _ _)
set_option maxHeartbeats 8000000
theorem kB_rep (n : Nat) : kB (List.replicate n false) = List.replicate n (.bool false) := by simp [kB]
theorem lB_rep (L : List Lst) : lB L (List.replicate L.length false) = encLs (List.replicate L.length []) := by
 unfold lB encLs
 induction L with
 | nil => rfl
 | cons a L ih => simpa [List.replicate_succ] using ih
theorem mB_rep (L : List Lst) : mB L (List.replicate L.length false) = List.replicate L.length (.bool false) := by
 unfold mB
 induction L with
 | nil => rfl
 | cons a L ih => simpa [List.replicate_succ] using ih
theorem wNewSets (ns : List Nd) (hl : ns.length ≤ 4096) : ACalls Tryz.prog [] 63 [.agg [.il 12 (encNs ns)]] [] 0 fun r m k => r = .ptr 0 0 0 ∧ m = sM ns (List.replicate ns.length false) ∧ k = 4 := by
 have hlen : (encNs ns).length = ns.length := encNs_length ns
 refine acalls_go nnΓ Tryz.func63 rfl ?_
 ((conv=>whnf);repeat(refine Xg ?_;conv=>whnf))
 rw [hlen]
 ((conv=>whnf);repeat(refine Xg ?_;conv=>whnf))
 refine grd_mk (and_ok rfl (and_ok rfl (and_ok rfl (and_ok (decide_eq_true (by omega)) (and_ok (decide_eq_true (by omega)) (and_ok (mul_ok rfl (by omega) (by omega)) (decide_eq_true (by omega)))))))) ?_
 ((conv=>whnf);repeat(refine Xg ?_;conv=>whnf))
 repeat ((first | refine grd_mk (and_ok rfl (and_ok rfl (and_ok rfl (and_ok (decide_eq_true (by omega)) (and_ok (decide_eq_true (by omega)) (and_ok (mul_ok rfl (by omega) (by omega)) (decide_eq_true (by omega)))))))) ?_ | refine ⟨rfl, ?_⟩); ((conv=>whnf);repeat(refine Xg ?_;conv=>whnf)))
 have e : ((ns.length : Nat) : Int).toNat = ns.length := by simp
 rw [e]
 have hL : (listsT ns).length = ns.length := listsT_length ns
 have e2 := lB_rep (listsT ns)
 have e3 := mB_rep (listsT ns)
 rw [hL] at e2 e3
 refine fin_mk (n' := 4) (m' := sM ns (List.replicate ns.length false)) [(10,0),(4,1),(6,2),(8,3)] rfl ⟨⟨10,_,rfl,rfl,sRow rfl rfl rfl⟩,⟨4,_,rfl,rfl,.eq (kB_nn _) (kB_rep _).symm⟩,⟨6,_,rfl,rfl,by rw [e2]; exact cvr_nils _⟩,⟨8,_,rfl,rfl,.eq (mB_nn _ _) e3.symm⟩,trivial⟩ (.ptr 10 0 0 0 rfl) ⟨rfl,rfl,rfl⟩
structure ValIn (ns : List Nd) : Prop where
 ok : ∀ x ∈ ns,okN x
 val : ∀ x ∈ ns,sizeV x.value ≤ 1048576
 vals : ∀ x ∈ ns,∀ v ∈ x.values,sizeV v ≤ 1048576
 vlen : ∀ x ∈ ns,x.values.length ≤ 1000000
 klen : ∀ x ∈ ns,x.kids.length ≤ 65536
def pad (l : List Int) (n : Nat) : List Int := l ++ List.replicate (n - l.length) 0
theorem pad_length {l : List Int} {n : Nat} (h : l.length ≤ n) : (pad l n).length = n := by simp [pad]; omega
theorem pad_set {l : List Int} {n : Nat} (y : Int) (h : l.length < n) : (pad l n).set l.length y = pad (l ++ [y]) n := by
 unfold pad
 rw [List.set_append_right _ _ (Nat.le_refl _),Nat.sub_self]
 obtain ⟨m,hm⟩ : ∃ m,n - l.length = m + 1 := ⟨n - l.length - 1,by omega⟩
 rw [hm,List.replicate_succ,List.set_cons_zero,List.length_append,List.length_singleton,show n - (l.length + 1) = m by omega]
 simp
theorem pad_atI {l : List Int} {n : Nat} {k : Int} (h0 : 0 ≤ k) (h1 : k < l.length) : atI (pad l n) k = atI l k := atI_app h0 h1
theorem pad_mem {l : List Int} {n : Nat} (h : ∀ y ∈ l,0 ≤ y ∧ y ≤ 1024) : ∀ y ∈ pad l n,0 ≤ y ∧ y ≤ 1024 := by
 intro y hy
 rcases List.mem_append.1 hy with hy | hy
 ·exact h y hy
 ·have := List.eq_of_mem_replicate hy; omega
theorem clean_formed {i : Int} {x : Nd} (h : cleanN x = false) : formedN i x = false := by
 cases e : formedN i x with
 | false => rfl
 | true =>
  unfold formedN at e
  simp only [Bool.and_eq_true] at e
  have : cleanN x = true := by
   unfold cleanN
   rw [e.1.1.1.1.1.1]
   simpa using e.1.1.1.1.1.2
  rw [this] at h; cases h
theorem node_form {i : Int} {x : Nd} (h : formedN i x = false) : nodeE i x = 1 := by unfold nodeE; rw [if_pos h]
theorem node_own {i : Int} {x : Nd} (h : formedN i x = true) (h2 : firstE (ownN x) ≠ 0) : nodeE i x = firstE (ownN x) := by unfold nodeE; rw [if_neg (by rw [h]; simp),if_pos h2]
theorem node_num {i : Int} {x : Nd} (h : formedN i x = true) (h2 : firstE (ownN x) = 0) (h3 : numbersN x = false) : nodeE i x = 5 := by unfold nodeE; rw [if_neg (by rw [h]; simp),if_neg (by omega),if_pos h3]
theorem node_zero {i : Int} {x : Nd} (h : formedN i x = true) (h2 : firstE (ownN x) = 0) (h3 : numbersN x = true) : nodeE i x = 0 := by unfold nodeE; rw [if_neg (by rw [h]; simp),if_neg (by omega),if_neg (by rw [h3]; simp)]
theorem step_node {b : List Nd} {ls ss : List Int} {x : Nd} {e : Int} (h : nodeE b.length x = e) (he : e ≠ 0) : stepE b ls ss x = e := by unfold stepE; rw [if_pos (by rw [h]; exact he),h]
theorem step_big {b : List Nd} {ls ss : List Int} {x : Nd} (h : nodeE b.length x = 0) (h2 : 256 < lenN ls x ∨ 1024 < sizN ss x) : stepE b ls ss x = 4 := by unfold stepE; rw [if_neg (by omega),if_pos h2]
theorem step_fit {b : List Nd} {ls ss : List Int} {x : Nd} (h : nodeE b.length x = 0) (h2 : ¬ (256 < lenN ls x ∨ 1024 < sizN ss x)) : stepE b ls ss x = if x.kind = 4 then boundE b x else 0 := by unfold stepE; rw [if_neg (by omega),if_neg h2]
theorem tValid (ns : List Nd) (h : ValIn ns) : PureC Tryz.prog [] 40 [.agg [.il 12 (encNs ns)]] (.int .i64 (validT ns)) := by
 have hlen : (encNs ns).length = ns.length := encNs_length ns
 refine acalls_go nnΓ Tryz.func40 rfl ?_
 ((conv=>whnf);repeat(refine Xg ?_;conv=>whnf))
 rw [hlen]
 refine bcs_mk (fun hb => ?_) (fun hb => ?_)
 ·have h1 : 4096 < ns.length := by simp at hb; omega
  have : validT ns = 4 := by unfold validT; rw [if_pos h1]
  rw [this]
  ((conv=>whnf);repeat(refine Xg ?_;conv=>whnf))
  exact fin_pure nn ⟨rfl,rfl,rfl⟩
 ·have h1 : ns.length ≤ 4096 := by simp at hb; omega
  have : validT ns = validF [] ns := by unfold validT; rw [if_neg (by omega)]
  rw [this]
  generalize hres : validF [] ns = res
  have hN := wNewSets ns h1
  ((conv=>whnf);repeat(refine Xg ?_;conv=>whnf))
  rw [hlen]
  ((conv=>whnf);repeat(refine Xg ?_;conv=>whnf))
  repeat ((first | refine grd_mk (and_ok rfl (and_ok rfl (and_ok rfl (and_ok (decide_eq_true (by omega)) (and_ok (decide_eq_true (by omega)) (and_ok (mul_ok rfl (by omega) (by omega)) (decide_eq_true (by omega)))))))) ?_ | refine ⟨rfl, ?_⟩); ((conv=>whnf);repeat(refine Xg ?_;conv=>whnf)))
  refine ACalls.useN nnΓ [] hN rfl (.same (.cons (.agg' (.cons (.il' (encNs_nn _)) .nil)) .nil)) trivial rfl ?_
  rintro r m k ⟨rfl,rfl,rfl⟩
  refine ⟨[(0,16),(1,17),(2,18),(3,19)],.ptr 16 0 0,[(16,.row 140 4 [.agg [.il 12 (encNs ns),.sl 17 0 ns.length,.sl 18 0 ns.length,.sl 19 0 ns.length]]),(17,.row 4 1 (kB (List.replicate ns.length false))),(18,.row 31 1 (lB (listsT ns) (List.replicate ns.length false))),(19,.row 4 1 (mB (listsT ns) (List.replicate ns.length false)))],20,
   .ptr 0 16 0 0 rfl,⟨⟨0,_,rfl,rfl,sRow rfl rfl rfl⟩,⟨1,_,rfl,rfl,.same (kB_nn _)⟩,⟨2,_,rfl,rfl,.same (lB_nn _ _)⟩,⟨3,_,rfl,rfl,.same (mB_nn _ _)⟩,trivial⟩,rfl, ?_⟩
  ((conv=>whnf);repeat(refine Xg ?_;conv=>whnf))
  repeat (refine ⟨rfl, ?_⟩; ((conv=>whnf);repeat(refine Xg ?_;conv=>whnf)))
  have e : ((ns.length : Nat) : Int).toNat = ns.length := by simp
  rw [hlen,e]
  refine ALoop.at nnΓ (fun p : Nat × List Bool => p.1 ≤ ns.length ∧ p.2.length = ns.length ∧ validF [] (ns.take p.1) = 0)
   (fun p => ⟨[(1,.ptr 7 0 0),(3,.ptr 0 0 0),(28,.int .i64 ns.length),(29,.int .i64 p.1)],vMx ns (pad (lensT (ns.take p.1)) ns.length) (pad (sizsT (ns.take p.1)) ns.length) p.2 [(7,.row 25 1 [.agg [.il 12 (encNs ns)]])],8,64⟩)
   (fun p => ns.length - p.1) (0,List.replicate ns.length false) [(14,0),(6,1),(10,2),(16,3),(17,4),(18,5),(19,6),(0,7)] ⟨by simp,by simp,rfl⟩
   (conv_mk _ rfl ⟨⟨14,_,rfl,rfl,vRow rfl rfl rfl⟩,⟨6,_,rfl,rfl,.eq (encI_nn _) (by simp [pad,lensT,encI])⟩,⟨10,_,rfl,rfl,.eq (encI_nn _) (by simp [pad,sizsT,encI])⟩,⟨16,_,rfl,rfl,sRow rfl rfl rfl⟩,⟨17,_,rfl,rfl,.same (kB_nn _)⟩,⟨18,_,rfl,rfl,.same (lB_nn _ _)⟩,⟨19,_,rfl,rfl,.same (mB_nn _ _)⟩,⟨0,_,rfl,rfl,.same (.cons (.agg' (.cons (.il' (encNs_nn _)) .nil)) .nil)⟩,trivial⟩
    ⟨⟨_,rfl,.ptr 0 7 0 0 rfl⟩,⟨_,rfl,.ptr 14 0 0 0 rfl⟩,⟨_,rfl,.same _ nn⟩,⟨_,rfl,.same _ nn⟩,trivial⟩) ?_
  rintro ⟨i,kn⟩ ⟨hi,hk,hv⟩
  simp only at hi hk hv ⊢
  ((conv=>whnf);repeat(refine Xg ?_;conv=>whnf))
  refine bcs_mk (fun hb2 => ?_) (fun hb2 => ?_)
  ·have hil : i < ns.length := by simpa using hb2
   obtain ⟨x,hx⟩ : ∃ x,ns[i]? = some x := ⟨ns[i],List.getElem?_eq_getElem hil⟩
   have hxe := (List.getElem?_eq_some_iff.1 hx).2
   have hxm := List.mem_of_getElem? hx
   have ex : (encNs ns)[((i : Nat) : Int).toNat]? = some (encN x) := by simp [encNs_get,hx]
   have hxn := encN_nn x
   have hti : (ns.take i).length = i := by rw [List.length_take]; omega
   have hll : (lensT (ns.take i)).length = i := by rw [lensT_length,hti]
   have hsl : (sizsT (ns.take i)).length = i := by rw [sizsT_length,hti]
   have hsplit : ns = ns.take i ++ x :: ns.drop (i + 1) := by rw [← hxe]; simp
   have hstop : ∀ e : Int,stepE (ns.take i) (lensT (ns.take i)) (sizsT (ns.take i)) x = e → e ≠ 0 → e = res := fun e h1 h2 => by
    rw [← hres,hsplit,validF_stop hv (by rw [h1]; exact h2),h1]
   have hnext : ns.take (i + 1) = ns.take i ++ [x] := by rw [List.take_succ_eq_append_getElem hil,hxe]
   have hgo : stepE (ns.take i) (lensT (ns.take i)) (sizsT (ns.take i)) x = 0 → validF [] (ns.take (i + 1)) = 0 := fun h1 => by
    rw [hnext,validF_snoc [] _ _ hv]; exact h1
   have hC := tClean x (h.ok x hxm)
   have hSh := tShaped ns i x (by omega) hx (h.ok x hxm) (h.vlen x hxm)
   have hPa := tParts x (h.ok x hxm) (h.val x hxm) (h.vals x hxm)
   have hRa := tRange x (h.ok x hxm)
   ((conv=>whnf);repeat(refine Xg ?_;conv=>whnf))
   repeat (refine opt_mk ex ?_; ((conv=>whnf);repeat(refine Xg ?_;conv=>whnf)))
   refine hC.go ?_ (.cons (.ip' hxn) .nil)
   cases hc : cleanN x with
   | false =>
    ((conv=>whnf);repeat(refine Xg ?_;conv=>whnf))
    refine fin_pure nn ⟨?_,rfl,rfl⟩
    rw [hstop 1 (step_node (node_form (clean_formed hc)) (by omega)) (by omega)]
   | true =>
    have hSh := hSh hc
    have hcc : CvL [] [] [.il 12 (encNs ns),.sl 1 0 ns.length,.sl 2 0 ns.length,.ptr 3 0 0] [.il 12 (encNs ns),.junk,.junk,.junk] := .cons (.same _ (.il' (encNs_nn _))) (.cons (.junk _) (.cons (.junk _) (.cons (.junk _) .nil)))
    ((conv=>whnf);repeat(refine Xg ?_;conv=>whnf))
    refine hSh.lend nnΓ (.cons (.fzp 0 0 0 111 4 _ _ _ rfl rfl rfl (Nat.le_refl _) fun k c c' h1 h2 => by
     rw [Nat.zero_add] at h1
     exact (CvL.cons (.same _ (.il' (encNs_nn _))) (.cons (.junk _) (.cons (.junk _) (.cons (.junk _) .nil)))).2 k c c' h1 h2) (.cons (.same _ nn) .nil)) (.bool _) ?_
    clear hcc
    cases hf : formedN i x with
    | false =>
     ((conv=>whnf);repeat(refine Xg ?_;conv=>whnf))
     refine fin_pure nn ⟨?_,rfl,rfl⟩
     rw [hstop 1 (step_node (by rw [hti]; exact node_form hf) (by omega)) (by omega)]
    | true =>
     have hk0 : x.kind = 0 → x.values = [] := fun e0 => by
      unfold formedN unusedN at hf
      simp only [Bool.and_eq_true,Bool.or_eq_true,decide_eq_true_eq] at hf
      rcases hf.1.1.1.1.1.1.1.2 with h' | h'
      ·omega
      ·exact List.length_eq_zero_iff.1 h'
     have hPa := hPa hk0
     ((conv=>whnf);repeat(refine Xg ?_;conv=>whnf))
     refine hPa.go ?_ (.cons (.ip' hxn) .nil)
     generalize hfe : firstE (ownN x) = fe
     ((conv=>whnf);repeat(refine Xg ?_;conv=>whnf))
     refine bcs_mk (fun hb3 => ?_) (fun hb3 => ?_)
     ·have h0 : fe ≠ 0 := by simpa using hb3
      ((conv=>whnf);repeat(refine Xg ?_;conv=>whnf))
      refine fin_pure nn ⟨?_,rfl,rfl⟩
      rw [hstop fe (step_node (by rw [hti,node_own hf (by rw [hfe]; exact h0),hfe]) h0) h0]
     ·have h0 : fe = 0 := by simpa using hb3
      rw [h0] at hfe
      ((conv=>whnf);repeat(refine Xg ?_;conv=>whnf))
      refine hRa.go ?_ (.cons (.ip' hxn) .nil)
      cases hn : numbersN x with
      | false =>
       ((conv=>whnf);repeat(refine Xg ?_;conv=>whnf))
       refine fin_pure nn ⟨?_,rfl,rfl⟩
       rw [hstop 5 (step_node (by rw [hti]; exact node_num hf hfe hn) (by omega)) (by omega)]
      | true =>
       have hz : nodeE (ns.take i).length x = 0 := by rw [hti]; exact node_zero hf hfe hn
       have hnode := node_ok (i := i) (x := x) (by rw [← hti]; exact hz)
       have hlens := valid_lens _ hv
       have hS := tSmall i x hx (h.ok x hxm) (h.val x hxm) (h.klen x hxm) hnode.kids hnode.kind (fun e4 => by have := hnode.bind (by have := hnode.kind; omega); omega) (pad (lensT (ns.take i)) ns.length) (pad (sizsT (ns.take i)) ns.length) kn (pad_length (by omega)) (pad_length (by omega)) (pad_mem hlens.1) (pad_mem hlens.2)
       have hkm : ∀ k ∈ x.kids,0 ≤ k ∧ k < i := fun k hk => by
        obtain ⟨j,hj⟩ := List.getElem?_of_mem hk
        exact hnode.kids j k hj
       rw [lenN_congr (b := lensT (ns.take i)) (fun k hk => pad_atI (hkm k hk).1 (by rw [hll]; exact (hkm k hk).2)) (fun e4 => by have := hnode.bind e4; omega) hnode.kind,
        sizP_congr (b := sizsT (ns.take i)) (fun k hk => pad_atI (hkm k hk).1 (by rw [hsl]; exact (hkm k hk).2))] at hS
       ((conv=>whnf);repeat(refine Xg ?_;conv=>whnf))
       refine ACalls.useI nnΓ [0,1,2,3,4,5,6] hS (by rfl) (.cons (.ptr 0 0 0 0 rfl) (.cons (.same _ nn) .nil)) (vM_conv _ _ _ _) (by rfl) ?_
       rintro r m k' ⟨rfl,rfl,rfl⟩
       refine ⟨nn,vM_conv _ _ _ _,by rfl, ?_⟩
       cases hfit : (decide (lenN (lensT (ns.take i)) x ≤ 256) && decide (sizP (sizsT (ns.take i)) x ≤ 1024)) with
       | false =>
        have hbig : 256 < lenN (lensT (ns.take i)) x ∨ 1024 < sizN (sizsT (ns.take i)) x := by
         simp only [Bool.and_eq_false_iff,decide_eq_false_iff_not] at hfit
         rw [sizP_le] at hfit
         omega
        ((conv=>whnf);repeat(refine Xg ?_;conv=>whnf))
        refine fin_pure nn ⟨?_,rfl,rfl⟩
        rw [hstop 4 (step_big hz hbig) (by omega)]
       | true =>
        have hfit' : ¬ (256 < lenN (lensT (ns.take i)) x ∨ 1024 < sizN (sizsT (ns.take i)) x) := by
         simp only [Bool.and_eq_true,decide_eq_true_eq] at hfit
         rw [sizP_le] at hfit
         omega
        have hstep := step_fit hz hfit'
        have hso : SetOK ns i := ⟨hi,h1,h.ok,hv⟩
        have hkid : x.kind = 4 → ∃ k : Nat,x.kids[0]? = some (k : Int) ∧ k < i := fun e4 => by
         have hl := hnode.bind e4
         obtain ⟨k0,k1⟩ := hnode.kids 0 x.kids[0] (List.getElem?_eq_getElem (by omega))
         obtain ⟨k,hk⟩ := Int.eq_ofNat_of_zero_le k0
         exact ⟨k,by rw [List.getElem?_eq_getElem (by omega),hk],by omega⟩
        have hb : x.kind = 4 → boundE (ns.take i) x = (if (atL (listsT ns) (x.kids.getD 0 0)).many = true then 4 else if sameVs (atL (listsT ns) (x.kids.getD 0 0)).vals x.values = true then 0 else 1) := fun e4 => by
         obtain ⟨k,hk,hki⟩ := hkid e4
         have eg : x.kids.getD 0 0 = (k : Int) := by rw [List.getD_eq_getElem?_getD,hk]; rfl
         unfold boundE
         rw [eg,List.take_take,Nat.min_eq_left (by simp; omega),lists_take (by omega) (by simp; omega) (by simp; omega)]
        have hT := tCases hso x (h.vlen x hxm) hkid ((pad (lensT (ns.take i)) ns.length).set i (lenN (lensT (ns.take i)) x)) ((pad (sizsT (ns.take i)) ns.length).set i (sizP (sizsT (ns.take i)) x)) kn hk
        have hstep : stepE (ns.take i) (lensT (ns.take i)) (sizsT (ns.take i)) x = (if x.kind = 4 then (if (atL (listsT ns) (x.kids.getD 0 0)).many = true then 4 else if sameVs (atL (listsT ns) (x.kids.getD 0 0)).vals x.values = true then 0 else 1) else 0) := by
         rw [hstep]
         by_cases e4 : x.kind = 4
         ·rw [if_pos e4,if_pos e4,hb e4]
         ·rw [if_neg e4,if_neg e4]
        rw [← hstep] at hT
        ((conv=>whnf);repeat(refine Xg ?_;conv=>whnf))
        refine ACalls.useI nnΓ [0,1,2,3,4,5,6] hT (by rfl) (.cons (.ptr 0 0 0 0 rfl) (.cons (.same _ (.ip' hxn)) .nil)) (vM_conv _ _ _ _) (by rfl) ?_
        rintro r m k' ⟨kn',hk',rfl,rfl,rfl⟩
        refine ⟨nn,vM_conv _ _ _ _,by rfl, ?_⟩
        generalize hse : stepE (ns.take i) (lensT (ns.take i)) (sizsT (ns.take i)) x = se
        ((conv=>whnf);repeat(refine Xg ?_;conv=>whnf))
        refine bcs_mk (fun hb4 => ?_) (fun hb4 => ?_)
        ·have h0 : se ≠ 0 := by simpa using hb4
         ((conv=>whnf);repeat(refine Xg ?_;conv=>whnf))
         refine fin_pure nn ⟨?_,rfl,rfl⟩
         rw [hstop se hse h0]
        ·have h0 : se = 0 := by simpa using hb4
         rw [h0] at hse
         have hP := sizP_eq (fun y hy => h.ok y (List.mem_of_mem_take hy)) hv hse
         have e1 : (pad (lensT (ns.take i)) ns.length).set i (lenN (lensT (ns.take i)) x) = pad (lensT (ns.take (i + 1))) ns.length := by
          rw [hnext,lensT_snoc]
          conv => lhs; rw [← hll]
          rw [hll]
          have := pad_set (l := lensT (ns.take i)) (n := ns.length) (lenN (lensT (ns.take i)) x) (by omega)
          rw [hll] at this
          exact this
         have e2 : (pad (sizsT (ns.take i)) ns.length).set i (sizP (sizsT (ns.take i)) x) = pad (sizsT (ns.take (i + 1))) ns.length := by
          rw [hP,hnext,sizsT_snoc]
          have := pad_set (l := sizsT (ns.take i)) (n := ns.length) (sizN (sizsT (ns.take i)) x) (by omega)
          rw [hsl] at this
          exact this
         rw [e1,e2]
         ((conv=>whnf);repeat(refine Xg ?_;conv=>whnf))
         exact .mk (i + 1,kn') (idS [0,1,2,3,4,5,6,7]) ⟨by simp only; omega,hk',hgo hse⟩
          (conv_mk _ rfl (vMx_conv rfl rfl rfl rfl rfl rfl rfl rfl rfl rfl rfl rfl rfl rfl rfl rfl ⟨⟨7,_,rfl,rfl,.same (.cons (.agg' (.cons (.il' (encNs_nn _)) .nil)) .nil)⟩,trivial⟩) ⟨⟨_,rfl,.ptr 7 7 0 0 rfl⟩,⟨_,rfl,.ptr 0 0 0 0 rfl⟩,⟨_,rfl,.same _ nn⟩,⟨_,rfl,.w64 (by simp only; omega) ⟨by simp only; omega,by simp only; omega⟩⟩,trivial⟩) (by simp only; omega)
  ·have hil : i = ns.length := by simp at hb2; omega
   rw [hil,List.take_length,hres] at hv
   subst hv
   ((conv=>whnf);repeat(refine Xg ?_;conv=>whnf))
   exact fin_pure nn ⟨rfl,rfl,rfl⟩
set_option maxHeartbeats 4000000
theorem nearV_found {l : List Val} {v : Val} (h : (findV l v).2 = true) : nearV l v = ((findV l v).1, true) := by simp [nearV, h]
theorem nearV_first {l : List Val} {v : Val} (h : (findV l v).2 = false) (h0 : (findV l v).1 = 0) : nearV l v = (0, false) := by simp [nearV, h, h0]
theorem nearV_last {l : List Val} {v : Val} (h : (findV l v).2 = false) (h0 : (findV l v).1 ≠ 0) (h1 : (findV l v).1 = l.length) : nearV l v = ((findV l v).1 - 1, false) := by
 have : l[(findV l v).1]? = none := List.getElem?_eq_none (by omega)
 simp [nearV, h, h0, this]
theorem nearV_mid {l : List Val} {v a b : Val} (h : (findV l v).2 = false) (h0 : (findV l v).1 ≠ 0) (ha : l[(findV l v).1 - 1]? = some a) (hb : l[(findV l v).1]? = some b) :
  nearV l v = if kindV a = 0 ∧ kindV v = 0 ∧ kindV b = 0 ∧ nearC (numV a) (numV v) (numV b) = true then ((findV l v).1 - 1, false) else ((findV l v).1, false) := by
 simp [nearV, h, h0, ha, hb]
theorem ntup (k : Int) (b : Bool) : NN (.tup [.int .i64 k, .bool b]) := .tup' (.cons (.int _ _) (.cons (.bool _) .nil))
theorem dNearest (l : List Val) (v : Val) (hl : l.length ≤ 4294967296) (hok : ∀ a ∈ l, okV a) (hs : Srt l) :
  PureC Tryz.prog [] 53 [.il 4 (encVs l), encV v] (.tup [.int .i64 (nearV l v).1, .bool (nearV l v).2]) := by
 obtain ⟨vk, vn, vs, vks⟩ := v
 have nl : NN (.il 4 (encVs l)) := .il' (encVs_nn l)
 refine acalls_run nnΓ Tryz.func53 rfl ?_
 conv => whnf
 refine (vFind l (.mk vk vn vs vks) hl hok hs).use nnΓ (.cons nl (.cons (encV_nn (.mk vk vn vs vks)) .nil)) (ntup _ _) ?_
 have e1 := @nearV_found l (.mk vk vn vs vks)
 have e2 := @nearV_first l (.mk vk vn vs vks)
 have e3 := @nearV_last l (.mk vk vn vs vks)
 have e4 := @nearV_mid l (.mk vk vn vs vks)
 have hle := findV_le l (.mk vk vn vs vks)
 generalize findV l (.mk vk vn vs vks) = f at *
 obtain ⟨p, b⟩ := f
 dsimp only at e1 e2 e3 e4 hle ⊢
 cases b with
 | true =>
  conv => whnf
  exact fin_pure (ntup _ _) ⟨by rw [e1 rfl], rfl, rfl⟩
 | false =>
  conv => whnf
  refine bcs_mk (fun h => ?_) (fun h => ?_)
  ·have h : p = 0 := by simpa using h
   conv => whnf
   exact fin_pure (ntup _ _) ⟨by rw [e2 rfl h]; rfl, rfl, rfl⟩
  have h0 : p ≠ 0 := by simpa using h
  conv => whnf
  refine bcs_mk (fun h => ?_) (fun h => ?_)
  ·have h1 : p = l.length := by rw [encVs_length] at h; simp at h; omega
   conv => whnf
   exact fin_pure (ntup _ _) ⟨by rw [e3 rfl h0 h1, wrap64 ⟨by omega, by omega⟩]; congr 3; omega, rfl, rfl⟩
  have h1 : p < l.length := by rw [encVs_length] at h; simp at h; omega
  have hw : IntKind.i64.wrap ((p : Int) - 1) = ((p - 1 : Nat) : Int) := by rw [wrap64 ⟨by omega, by omega⟩]; omega
  have c1 := enc_at (show p - 1 < l.length by omega)
  have c2 := enc_at h1
  have g1 := List.getElem?_eq_getElem (show p - 1 < l.length by omega)
  have g2 := List.getElem?_eq_getElem h1
  generalize l[p - 1] = a at *
  generalize l[p] = b at *
  obtain ⟨ak, an, az, aks⟩ := a
  obtain ⟨bk, bn, bz, bks⟩ := b
  have hmid := e4 rfl h0 g1 g2
  conv => whnf
  rw [hw]
  conv => whnf
  refine opt_mk c1 ?_
  conv => whnf
  refine opt_mk c2 ?_
  conv => whnf
  repeat (first | (refine ⟨rfl, ?_⟩; conv => whnf) | (refine opt_mk c1 ?_; conv => whnf) | (refine opt_mk c2 ?_; conv => whnf))
  have fin1 : nearV l (.mk vk vn vs vks) = (p, false) → ∀ m n, Fini 0 (fun r' m n => r' = .tup [.int .i64 (nearV l (.mk vk vn vs vks)).1, .bool (nearV l (.mk vk vn vs vks)).2] ∧ m = [] ∧ n = 0) (.tup [.int .i64 p, .bool false]) m n :=
   fun h m n => fin_pure (ntup _ _) ⟨by rw [h], rfl, rfl⟩
  refine bcs_mk (fun q1 => ?_) (fun q1 => ?_)
  ·have q1' : ak = 0 := by simpa using q1
   rw [q1]
   conv => whnf
   refine bcs_mk (fun q2 => ?_) (fun q2 => ?_)
   ·have q2' : vk = 0 := by simpa using q2
    rw [q2]
    conv => whnf
    refine bcs_mk (fun q3 => ?_) (fun q3 => ?_)
    ·have q3' : bk = 0 := by simpa using q3
     rw [q3]
     conv => whnf
     refine bcs_mk (fun q4 => ?_) (fun q4 => ?_)
     ·conv => whnf
      refine fin_pure (ntup _ _) ⟨?_, rfl, rfl⟩
      rw [hmid, if_pos ⟨q1', q2', q3', q4⟩, hw]
     ·conv => whnf
      exact fin1 (by rw [hmid, if_neg (fun h => by rw [show nearC (numV (.mk ak an az aks)) (numV (.mk vk vn vs vks)) (numV (.mk bk bn bz bks)) = false from q4] at h; simp at h)]) _ _
    ·rw [q3]
     conv => whnf
     exact fin1 (by rw [hmid, if_neg (fun h => by rw [show kindV (.mk bk bn bz bks) = bk from rfl] at h; simp at q3; exact q3 h.2.2.1)]) _ _
   ·rw [q2]
    conv => whnf
    exact fin1 (by rw [hmid, if_neg (fun h => by rw [show kindV (.mk vk vn vs vks) = vk from rfl] at h; simp at q2; exact q2 h.2.1)]) _ _
  ·rw [q1]
   conv => whnf
   exact fin1 (by rw [hmid, if_neg (fun h => by rw [show kindV (.mk ak an az aks) = ak from rfl] at h; simp at q1; exact q1 h.1)]) _ _
set_option maxHeartbeats 8000000
theorem intL_of {s : List UInt8} {n : Int} (hn : i64 n) : Lib.itoa n = s → intL s = some n := fun h => by
 unfold intL
 rw [← h, atoi_itoa hn]
 simp
theorem dCount (a b : Nd) (k : Nat) (ha : OptN a) (hb : OptN b) (hk : (k : Int) < optsN a) (hab : a.kind = 1 ∧ b.kind = 2 ∨ a.kind = 2 ∧ b.kind = 1 ∨ a.kind = 2 ∧ b.kind = 2) (hll : ∀ s ∈ a.labels, s.length ≤ 4294967296) (hbl : b.labels.length ≤ 1000) :
  PureC Tryz.prog gz 27 [.ip (encN a), .ip (encN b), .int .i64 k] (.tup [.int .i64 (cntR a b k).1, .bool (cntR a b k).2]) := by
 have har := ha.rng
 have hbr := hb.rng
 have hao := optsN_bound ha
 have hach := ha.ch
 have hakl := ha.klen
 have hko : a.kind = 2 → k < a.kids.length := fun h => by unfold optsN at hk; rw [if_neg (by omega), if_pos h] at hk; omega
 have hI := sIndex b.labels
 unfold cntR
 obtain ⟨kind, name, lo, hi, ws, ls, vals, kids, ⟨vk, vn, vs, vks⟩⟩ := a
 obtain ⟨kind', name', lo', hi', ws', ls', vals', kids', ⟨vk', vn', vs', vks'⟩⟩ := b
 simp only at har hbr hach hakl hko hI hll hbl hab ⊢
 refine acalls_go nngz Tryz.func27 rfl ?_
 rcases hab with ⟨rfl, rfl⟩ | ⟨rfl, rfl⟩ | ⟨rfl, rfl⟩
 ·have hw : IntKind.i64.wrap (lo + (k : Int)) = lo + k := wrap64 ⟨by omega, by omega⟩
  have hIt := sItoa (lo + k) ⟨by omega, by omega⟩
  have hX := hI (Lib.itoa (lo + k)) (by omega)
  simp only [if_true]
  generalize Lib.itoa (lo + k) = z at hIt hX ⊢
  generalize idxS ls' z = q at hX ⊢
  ((conv=>whnf);repeat(refine Xg ?_;conv=>whnf))
  rw [hw]
  refine hIt.use nngz nns nn ?_
  ((conv=>whnf);repeat(refine Xg ?_;conv=>whnf))
  repeat (refine ⟨rfl, ?_⟩; ((conv=>whnf);repeat(refine Xg ?_;conv=>whnf)))
  refine hX.goG ?_ (.cons (.il' (encS_nn _)) nns)
  ((conv=>whnf);repeat(refine Xg ?_;conv=>whnf))
  repeat (refine ⟨rfl, ?_⟩; ((conv=>whnf);repeat(refine Xg ?_;conv=>whnf)))
  exact fin_pure nn ⟨rfl, rfl, rfl⟩
 ·rw [if_neg (by omega), if_pos rfl]
  by_cases l0 : ls.length = 0
  ·rw [if_pos l0]
   obtain rfl : ls = [] := List.length_eq_zero_iff.1 l0
   ((conv=>whnf);repeat(refine Xg ?_;conv=>whnf))
   exact fin_pure nn ⟨rfl, rfl, rfl⟩
  ·rw [if_neg l0]
   have hll2 : ls.length = kids.length := by rcases (hach rfl).2 with h | h; exact absurd h l0; exact h
   have hkl : k < ls.length := by have := hko rfl; omega
   have ek := encS_cases hkl
   have d0 : (((encS ls).length : Int) == 0) = false := by rw [encS_length, beq_eq_false_iff_ne]; omega
   have hgd : ls.getD k [] = ls[k] := by rw [List.getD_eq_getElem?_getD, List.getElem?_eq_getElem hkl]; rfl
   have hsl := hll _ (List.getElem_mem hkl)
   rw [hgd]
   generalize ls[k] = s at ek hsl ⊢
   obtain ⟨n, e, hn, he, hA, hok⟩ := sAtoi s hsl
   have hIt := sItoa n hn
   ((conv=>whnf);repeat(refine Xg ?_;conv=>whnf))
   rw [d0]
   ((conv=>whnf);repeat(refine Xg ?_;conv=>whnf))
   refine opt_mk ek ?_
   ((conv=>whnf);repeat(refine Xg ?_;conv=>whnf))
   refine hA.use nngz nns (by rcases he with rfl | rfl <;> exact nn) ?_
   have hnone : (∀ m, Lib.atoiAll s = .ok m → Lib.itoa m ≠ s) → intL s = none := by
    intro h
    unfold intL
    split
    ·rename_i m hm; rw [if_neg (h m hm)]
    ·rfl
   rcases he with rfl | rfl
   ·by_cases hq : Lib.itoa n = s
    ·rw [intL_of hn hq]
     simp only
     have hne : (s == s) = true := by simp
     rw [hq] at hIt
     ((conv=>whnf);repeat(refine Xg ?_;conv=>whnf))
     repeat ((first | refine ⟨rfl, ?_⟩ | refine opt_mk ek ?_); ((conv=>whnf);repeat(refine Xg ?_;conv=>whnf)))
     refine hIt.use nngz nns nn ?_
     ((conv=>whnf);repeat(refine Xg ?_;conv=>whnf))
     repeat ((first | refine ⟨rfl, ?_⟩ | refine opt_mk ek ?_); ((conv=>whnf);repeat(refine Xg ?_;conv=>whnf)))
     rw [hne]
     ((conv=>whnf);repeat(refine Xg ?_;conv=>whnf))
     repeat ((first | refine ⟨rfl, ?_⟩ | refine opt_mk ek ?_); ((conv=>whnf);repeat(refine Xg ?_;conv=>whnf)))
     refine bcs_mk (fun h1 => ?_) (fun h1 => ?_)
     ·have h2 : n < lo' := by simpa using h1
      rw [if_pos (.inl h2)]
      rw [h1]
      ((conv=>whnf);repeat(refine Xg ?_;conv=>whnf))
      repeat ((first | refine ⟨rfl, ?_⟩ | refine opt_mk ek ?_); ((conv=>whnf);repeat(refine Xg ?_;conv=>whnf)))
      exact fin_pure nn ⟨rfl, rfl, rfl⟩
     ·have h2 : ¬ n < lo' := by simpa using h1
      rw [h1]
      ((conv=>whnf);repeat(refine Xg ?_;conv=>whnf))
      repeat ((first | refine ⟨rfl, ?_⟩ | refine opt_mk ek ?_); ((conv=>whnf);repeat(refine Xg ?_;conv=>whnf)))
      refine bcs_mk (fun h3 => ?_) (fun h3 => ?_)
      ·have h4 : hi' < n := by simpa using h3
       rw [if_pos (.inr h4)]
       ((conv=>whnf);repeat(refine Xg ?_;conv=>whnf))
       exact fin_pure nn ⟨rfl, rfl, rfl⟩
      ·have h4 : ¬ hi' < n := by simpa using h3
       rw [if_neg (by omega)]
       ((conv=>whnf);repeat(refine Xg ?_;conv=>whnf))
       rw [wrap64 (n := n - lo') ⟨by omega, by omega⟩]
       exact fin_pure nn ⟨rfl, rfl, rfl⟩
    ·rw [hnone fun m hm => by obtain ⟨rfl, _⟩ := hok m hm; exact hq]
     simp only
     have hne : (Lib.itoa n == s) = false := by simpa using hq
     generalize Lib.itoa n = z at hIt hne
     ((conv=>whnf);repeat(refine Xg ?_;conv=>whnf))
     repeat ((first | refine ⟨rfl, ?_⟩ | refine opt_mk ek ?_); ((conv=>whnf);repeat(refine Xg ?_;conv=>whnf)))
     refine hIt.use nngz nns nn ?_
     ((conv=>whnf);repeat(refine Xg ?_;conv=>whnf))
     repeat ((first | refine ⟨rfl, ?_⟩ | refine opt_mk ek ?_); ((conv=>whnf);repeat(refine Xg ?_;conv=>whnf)))
     rw [hne]
     ((conv=>whnf);repeat(refine Xg ?_;conv=>whnf))
     repeat ((first | refine ⟨rfl, ?_⟩ | refine opt_mk ek ?_); ((conv=>whnf);repeat(refine Xg ?_;conv=>whnf)))
     exact fin_pure nn ⟨rfl, rfl, rfl⟩
   ·rw [hnone fun m hm => by have := (hok m hm).2; simp at this]
    simp only
    ((conv=>whnf);repeat(refine Xg ?_;conv=>whnf))
    repeat ((first | refine ⟨rfl, ?_⟩ | refine opt_mk ek ?_); ((conv=>whnf);repeat(refine Xg ?_;conv=>whnf)))
    exact fin_pure nn ⟨rfl, rfl, rfl⟩
 ·rw [if_neg (by omega), if_neg (by omega)]
  have eb0 : ∀ l : List (List UInt8), l.length ≠ 0 → (((encS l).length : Int) == 0) = false := fun l h => by rw [encS_length, beq_eq_false_iff_ne]; omega
  have hkid : (decide ((k : Int) < ((encI kids').length : Nat))) = decide (k < kids'.length) := by rw [encI_length, Bool.eq_iff_iff]; simp
  by_cases l0 : ls.length = 0
  ·rw [if_pos (.inl l0)]
   obtain rfl : ls = [] := List.length_eq_zero_iff.1 l0
   ((conv=>whnf);repeat(refine Xg ?_;conv=>whnf))
   rw [hkid]
   exact fin_pure nn ⟨rfl, rfl, rfl⟩
  ·have d0 := eb0 ls l0
   have hll2 : ls.length = kids.length := by rcases (hach rfl).2 with h | h; exact absurd h l0; exact h
   have hkl : k < ls.length := by have := hko rfl; omega
   have ek := encS_cases hkl
   have hgd : ls.getD k [] = ls[k] := by rw [List.getD_eq_getElem?_getD, List.getElem?_eq_getElem hkl]; rfl
   rw [hgd]
   generalize ls[k] = s at ek ⊢
   by_cases l1 : ls'.length = 0
   ·rw [if_pos (.inr l1)]
    obtain rfl : ls' = [] := List.length_eq_zero_iff.1 l1
    ((conv=>whnf);repeat(refine Xg ?_;conv=>whnf))
    rw [d0]
    ((conv=>whnf);repeat(refine Xg ?_;conv=>whnf))
    rw [hkid]
    exact fin_pure nn ⟨rfl, rfl, rfl⟩
   ·rw [if_neg (by omega)]
    have d1 := eb0 ls' l1
    have hX := hI s (by omega)
    generalize idxS ls' s = q at hX ⊢
    ((conv=>whnf);repeat(refine Xg ?_;conv=>whnf))
    rw [d0]
    ((conv=>whnf);repeat(refine Xg ?_;conv=>whnf))
    rw [d1]
    ((conv=>whnf);repeat(refine Xg ?_;conv=>whnf))
    by_cases k1 : k < ls'.length
    ·have ek' := encS_cases k1
     have hgd' : ls'.getD k [] = ls'[k] := by rw [List.getD_eq_getElem?_getD, List.getElem?_eq_getElem k1]; rfl
     rw [hgd']
     generalize ls'[k] = s' at ek' ⊢
     have dk : decide ((k : Int) < ((encS ls').length : Nat)) = true := by rw [encS_length]; simp; omega
     rw [dk]
     ((conv=>whnf);repeat(refine Xg ?_;conv=>whnf))
     repeat ((first | refine ⟨rfl, ?_⟩ | refine opt_mk ek ?_ | refine opt_mk ek' ?_); ((conv=>whnf);repeat(refine Xg ?_;conv=>whnf)))
     refine bcs_mk (fun h1 => ?_) (fun h1 => ?_)
     ·have h2 : s' = s := by simpa using h1
      rw [if_pos ⟨k1, h2⟩]
      ((conv=>whnf);repeat(refine Xg ?_;conv=>whnf))
      exact fin_pure nn ⟨rfl, rfl, rfl⟩
     ·have h2 : ¬ s' = s := by simpa using h1
      rw [if_neg fun h => h2 h.2]
      ((conv=>whnf);repeat(refine Xg ?_;conv=>whnf))
      repeat ((first | refine ⟨rfl, ?_⟩ | refine opt_mk ek ?_ | refine opt_mk ek' ?_); ((conv=>whnf);repeat(refine Xg ?_;conv=>whnf)))
      refine hX.goG ?_ (.cons (.il' (encS_nn _)) nns)
      ((conv=>whnf);repeat(refine Xg ?_;conv=>whnf))
      repeat ((first | refine ⟨rfl, ?_⟩ | refine opt_mk ek ?_ | refine opt_mk ek' ?_); ((conv=>whnf);repeat(refine Xg ?_;conv=>whnf)))
      exact fin_pure nn ⟨rfl, rfl, rfl⟩
    ·have dk : decide ((k : Int) < ((encS ls').length : Nat)) = false := by rw [encS_length]; simp; omega
     rw [dk, if_neg fun h => k1 h.1]
     ((conv=>whnf);repeat(refine Xg ?_;conv=>whnf))
     repeat ((first | refine ⟨rfl, ?_⟩ | refine opt_mk ek ?_); ((conv=>whnf);repeat(refine Xg ?_;conv=>whnf)))
     refine hX.goG ?_ (.cons (.il' (encS_nn _)) nns)
     ((conv=>whnf);repeat(refine Xg ?_;conv=>whnf))
     repeat ((first | refine ⟨rfl, ?_⟩ | refine opt_mk ek ?_); ((conv=>whnf);repeat(refine Xg ?_;conv=>whnf)))
     exact fin_pure nn ⟨rfl, rfl, rfl⟩
end Go.Proofs.YtnookkohfkjbcaaGreatDoor
