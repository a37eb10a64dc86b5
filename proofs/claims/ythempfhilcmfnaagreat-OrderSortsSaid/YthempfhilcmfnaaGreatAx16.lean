/- A part of the proof. -/
import Derived.Test.YthempfhilcmfnaaGreatAx15
set_option linter.unusedVariables false
namespace Go.Proofs.YthempfhilcmfnaaGreat
open Go Go.Ax Go.Proofs
set_option maxRecDepth 100000
set_option maxHeartbeats 8000000
set_option maxHeartbeats 8000000
set_option maxHeartbeats 8000000
set_option maxHeartbeats 8000000
theorem and_ok {a b : Bool} (h1 : a = true) (h2 : b = true) : (a && b) = true := by rw [h1,h2]; rfl
theorem mul_ok {n : Nat} {s m : Int} (hn : Nat.ble n 100 = true) (hs : 0 ≤ s) (h : 100 * s ≤ m) : decide ((n : Int) * s ≤ m) = true := by
 have hn := Nat.le_of_ble_eq_true hn
 have : (n : Int) * s ≤ 100 * s := Int.mul_le_mul_of_nonneg_right (by omega) hs
 simp; omega
set_option maxHeartbeats 16000000
set_option linter.unusedSimpArgs false
theorem app_ok8 {e sz size bytes len n k : Nat} (h1 : Nat.beq sz size = true) (hb : Nat.beq bytes 8 = true) (h2 : len = n) (h3 : len + k ≤ 17592186044416) :
  (Nat.beq e e && (Nat.beq sz size && (Nat.beq len n && (Nat.ble ((len + k) * bytes) 140737488355328 && Nat.ble (len + k) 9223372036854775807)))) = true := by
 have hb := Nat.eq_of_beq_eq_true hb
 subst hb
 rw [h1, h2, Nat.ble_eq_true_of_le (by omega), Nat.ble_eq_true_of_le (by omega)]
 simp
theorem cvr_set21 {mem : Mem} {σ : List (Nat × Nat)} {xs ys : List AV} {i : Nat} {x y : AV} (hs : CvR mem σ xs ys) (h : CvE mem σ x y) : CvR mem σ (xs.set i x) (ys.set i y) := by
 refine ⟨by simp; exact hs.1, fun j a b ha hb => ?_⟩
 rw [List.getElem?_set] at ha hb
 split at ha
 ·rename_i e
  rw [if_pos e] at hb
  split at ha
  ·split at hb
   ·cases ha; cases hb; exact h
   ·cases hb
  ·cases ha
 ·rename_i e
  rw [if_neg e] at hb
  exact hs.2 j a b ha hb
theorem fz_rowS {mem : Mem} {σ : List (Nat × Nat)} {id len : Nat} {t : TypeId} {sz : Nat} {xs ys : List AV} (h1 : lk mem id = some (.row t sz xs)) (h2 : lk σ id = none) (e : len = xs.length) (h : xs = ys) (h5 : NNs ys) : Cv mem σ (.sl id 0 len) (.il sz ys) := by
 subst h e
 exact .fz' (id := id) h1 h2 (by omega) (by rw [List.drop_zero]; exact List.take_of_length_le (by omega)) h5
theorem egCmp21 : ∀ args w, (callFunc 11 args).run Tryz.prog w = .ok (.enter 11 args) w := enters_of Tryz.func11 (by kernel_rfl) rfl
theorem sSortFunc (l : List (List Int)) (h0 : 0 < l.length) (hl : l.length ≤ 4294967296) (hok : shortP l) :
  ACalls Tryz.prog [] 23 [.sl 0 0 l.length, .fn (.func 11) [] []] [(0, .row 22 1 (encPs l))] 1 fun r m n => r = .tup [] ∧ n = 1 ∧ ∃ z, z.Perm l ∧ AscP z ∧ m = [(0, .row 22 1 (encPs z))] := by
 have ho := ord_paths l
 have h := sort_bridge1 (P := Tryz.prog) (F := 23) (t := 22)
  (fun enc h1 cf hO g cb blk off cap d w eg hcmp hH hblk hsz => Tryz.slices_SortFunc enc h1 cf hO g cb blk off cap d w eg hcmp hH hblk hsz) egCmp21 (fun p : List Int => AV.il 1 (Go.Ax.encI p)) l h0 (by omega) (fun p _ => rfl) (fun p _ => .il' (encI_nn p)) cmpP ⟨ho.1, ho.2.1, ho.2.2⟩ (fun x hx y _ => oCmp x y (by have := hok x hx; omega))
 refine h.mono ?_
 rintro r m n ⟨h1, h2, z, ⟨h3, h4⟩, h5⟩
 exact ⟨h1, h2, z, h3, h4, h5⟩
theorem sSortNone : PureC Tryz.prog [] 23 [.il 1 [], .fn (.func 11) [] []] (.tup []) := by
 refine ⟨fun X D ρ w xs hD hm hv => ?_⟩
 obtain ⟨hl, hv⟩ := hv
 match xs, hl with
 | [x, y], _ =>
  have v0 := hv 0 _ x rfl rfl
  obtain ⟨p, cap, rfl⟩ : ∃ p cap, x = .slice p 0 cap := by
   cases v0 with
   | il => exact ⟨_, _, rfl⟩
   | iln => exact ⟨_, _, rfl⟩
  refine .of rfl ((Tryz.slices_SortFunc_none (α := Nat) p cap y w).mono ?_)
  rintro e w' ⟨rfl, rfl⟩
  have hsub : ∀ i, D i → dn D 0 0 i := fun i hi => .inl hi
  exact ⟨.tup [], .tuple #[], [], 0, ρ, rfl, ⟨rfl, rfl, rfl⟩, Nat.le_refl _, (hm.widen hsub).1, .tup [] #[] rfl (by simp), Ext.refl hsub⟩
theorem sCompactNone : PureC Tryz.prog [] 24 [.il 1 [], .fn (.func 25) [] []] (.il 1 []) := by
 refine acalls_go nnΓ Tryz.func24 rfl ?_
 ((conv=>whnf);repeat(refine Xg ?_;conv=>whnf))
 exact fin_pure (.il' .nil) ⟨rfl, rfl, rfl⟩
theorem oSort (l : List (List Int)) (hl : l.length ≤ 4294967296) (hs : shortP l) : PureC Tryz.prog [] 14 [.il 1 (encPs l)] (.il 1 (encPs (sortP l))) := by
 have nl : NN (.il 1 (encPs l)) := .il' (encPs_nn l)
 have nf : NN (.fn (.func 25) [] []) := .fn _ _ _ (by simp) (by simp)
 have nc : NN (.fn (.func 11) [] []) := .fn _ _ _ (by simp) (by simp)
 have ll := encPs_length l
 refine acalls_go nnΓ Tryz.func14 rfl ?_
 ((conv=>whnf);repeat(refine Xg ?_;conv=>whnf))
 rw [ll]
 refine grd_mk (and_ok rfl (and_ok rfl (and_ok rfl (and_ok (decide_eq_true (by omega)) (and_ok (decide_eq_true (by omega)) (and_ok (mul_ok rfl (by omega) (by omega)) (decide_eq_true (by omega)))))))) ?_
 ((conv=>whnf);repeat(refine Xg ?_;conv=>whnf))
 have e : ((l.length : Nat) : Int).toNat = l.length := by simp
 rw [e]
 refine ALoop.at nnΓ (fun k : Nat => k ≤ l.length) (fun k => ⟨[(3, .sl 0 0 l.length), (9, .il 1 (encPs l)), (10, .int .i64 l.length), (11, .int .i64 k)], [(0, .row 22 1 (encPs (l.take k) ++ List.replicate (l.length - k) .nsl))], 1, 27⟩) (fun k => l.length - k) 0 [(0, 0)] (by omega)
  (conv_mk _ rfl ⟨⟨0, _, rfl, rfl, .same (fun a ha => by rw [List.eq_of_mem_replicate ha]; exact .nsl)⟩, trivial⟩ ⟨⟨_, rfl, .slE rfl rfl⟩, ⟨_, rfl, .same _ nl⟩, ⟨_, rfl, .int (by rw [ll])⟩, ⟨_, rfl, .same _ nn⟩, trivial⟩) ?_
 intro k hk
 have d1 : decide ((k : Int) < (l.length : Int)) = decide (k < l.length) := decide_eq_decide.2 (by omega)
 by_cases hlt : k < l.length
 ·obtain ⟨p, pm, pg, pe⟩ := encPs_at hlt
  have hp := hs p pm
  have lp := encI_length p
  ((conv=>whnf);repeat(refine Xg ?_;conv=>whnf))
  rw [d1, decide_eq_true hlt]
  ((conv=>whnf);repeat(refine Xg ?_;conv=>whnf))
  repeat ((first | refine opt_mk pe ?_ | refine setK_iff.2 ?_ | refine ⟨rfl, ?_⟩); ((conv=>whnf);repeat(refine Xg ?_;conv=>whnf)))
  refine grd_mk (app_ok8 rfl rfl rfl (by rw [lp]; omega)) ?_
  ((conv=>whnf);repeat(refine Xg ?_;conv=>whnf))
  have hrl : (encPs (l.take k) ++ List.replicate (l.length - k) AV.nsl).length = l.length := by simp [encPs_length]; omega
  have ee : (encPs (l.take k) ++ List.replicate (l.length - k) AV.nsl)[0 + (k : Int).toNat]? = some .nsl := by
   rw [Int.toNat_natCast, Nat.zero_add, List.getElem?_append_right (by simp [encPs_length]; omega), List.getElem?_replicate, if_pos (by simp [encPs_length]; omega)]
  repeat ((first | refine grd_mk (Nat.ble_eq_true_of_le (by simp; omega)) ?_ | refine opt_mk ee ?_ | refine setK_iff.2 ?_ | refine ⟨rfl, ?_⟩); ((conv=>whnf);repeat(refine Xg ?_;conv=>whnf)))
  have hrow : encPs (l.take (k + 1)) ++ List.replicate (l.length - (k + 1)) AV.nsl = (encPs (l.take k) ++ List.replicate (l.length - k) AV.nsl).set (0 + (k : Int).toNat) (.il 1 (Go.Ax.encI p)) := by
   rw [Int.toNat_natCast, Nat.zero_add, List.set_append_right _ _ (by simp [encPs_length]; omega), show k - (encPs (l.take k)).length = 0 by simp [encPs_length]; omega]
   rw [show l.length - k = (l.length - (k + 1)) + 1 by omega, List.replicate_succ, List.set_cons_zero, List.take_succ_eq_append_getElem hlt]
   rw [List.getElem?_eq_getElem hlt] at pg
   rw [Option.some.inj pg]
   simp [encPs]
  have hn : NNs (encPs (l.take k) ++ List.replicate (l.length - k) AV.nsl) := fun a ha => by
   rcases List.mem_append.1 ha with ha | ha
   ·exact encPs_nn _ a ha
   ·rw [List.eq_of_mem_replicate ha]; exact .nsl
  exact .mk (k + 1) [(0, 0)] (by omega) (conv_mk _ rfl ⟨⟨0, _, rfl, rfl, by rw [hrow]; exact cvr_set21 (.same hn) (CvE.one rfl rfl (fz_rowS (id := 2) rfl rfl (by simp) (by simp) (encI_nn p)))⟩, trivial⟩ ⟨⟨_, rfl, .slE rfl rfl⟩, ⟨_, rfl, .same _ nl⟩, ⟨_, rfl, .same _ nn⟩, ⟨_, rfl, .w64 (by omega) ⟨by omega, by omega⟩⟩, trivial⟩) (by omega)
 ·have hke : k = l.length := by omega
  subst hke
  rw [List.take_of_length_le (Nat.le_refl _), Nat.sub_self, List.replicate_zero, List.append_nil]
  ((conv=>whnf);repeat(refine Xg ?_;conv=>whnf))
  rw [d1, decide_eq_false hlt]
  ((conv=>whnf);repeat(refine Xg ?_;conv=>whnf))
  rcases Nat.eq_zero_or_pos l.length with h0 | h0
  ·obtain rfl : l = [] := List.eq_nil_of_length_eq_zero h0
   refine sSortNone.lend nnΓ (.cons (.fz' (id := 0) (off := 0) (len := 0) (ys := []) rfl rfl (by simp) rfl .nil) (.cons (.same _ nc) .nil)) (.tup [] (by simp)) ?_
   ((conv=>whnf);repeat(refine Xg ?_;conv=>whnf))
   refine sCompactNone.drop nnΓ (.cons (.fz' (id := 0) (off := 0) (len := 0) (ys := []) rfl rfl (by simp) rfl .nil) (.cons (.same _ nf) .nil)) (.il' .nil) ?_
   ((conv=>whnf);repeat(refine Xg ?_;conv=>whnf))
   exact fin_pure (.il' .nil) ⟨rfl, rfl, rfl⟩
  ·have hso := sSortFunc l h0 hl hs
   refine ACalls.useR nnΓ [(0, 0)] hso rfl (.cons (.slE rfl rfl) (.cons (.same _ nc) .nil)) ⟨⟨0, _, rfl, rfl, .same (encPs_nn _)⟩, trivial⟩ rfl ?_
   rintro r m n ⟨rfl, rfl, z, z1, z2, rfl⟩
   have hzl : l.length = z.length := z1.length_eq.symm
   have hzok : shortP z := fun v hv => hs v (z1.mem_iff.1 hv)
   have hco := sCompact z (by omega) (by omega) hzok
   rw [ded_sortP z1 z2] at hco
   refine ⟨[(0, .row 22 1 (encPs z))], .tup' .nil, ⟨⟨0, _, rfl, rfl, .same (encPs_nn _)⟩, trivial⟩, rfl, ?_⟩
   ((conv=>whnf);repeat(refine Xg ?_;conv=>whnf))
   refine ACalls.useN nnΓ [(0, 0)] hco rfl (.cons (.slE rfl hzl) (.cons (.same _ nf) .nil)) ⟨⟨0, _, rfl, rfl, .same (encPs_nn _)⟩, trivial⟩ rfl ?_
   rintro r m n ⟨rfl, ys, rfl, rfl, y1, y2, y3⟩
   refine ⟨[(0, 0)], .sl 0 0 (sortP l).length, [(0, .row 22 1 ys)], 1, .sl 0 0 0 _ rfl, ⟨⟨0, _, rfl, rfl, .same y1⟩, trivial⟩, rfl, ?_⟩
   ((conv=>whnf);repeat(refine Xg ?_;conv=>whnf))
   exact fin_cv (r' := .il 1 (encPs (sortP l))) (.fz' (id := 0) (off := 0) (len := (sortP l).length) (ys := encPs (sortP l)) rfl rfl (by omega) (by rw [List.drop_zero, y2]) (encPs_nn _)) ⟨rfl, rfl, rfl⟩
set_option maxHeartbeats 16000000
set_option linter.unusedSimpArgs false
theorem rRaw (l : List Int) (n : Nat) (hl : ∀ x ∈ l, i64 x) (hn : n ≤ 1000) : ACalls Tryz.prog [] 9 [.il 1 (Go.Ax.encI l), .int .i64 n] [] 0 fun r m k => ∃ xs : List Int, xs.length = n ∧ (∀ x ∈ xs, i64 x) ∧ r = .il 1 (Go.Ax.encI xs) ∧ m = [] ∧ k = 0 := by
 have nl : NN (.il 1 (Go.Ax.encI l)) := .il' (encI_nn l)
 refine acalls_go nnΓ Tryz.func9 rfl ?_
 ((conv=>whnf);repeat(refine Xg ?_;conv=>whnf))
 refine ALoop.ph 3 1 ?_
 refine ALoop.at nnΓ (fun x : List Int => x.length ≤ n ∧ ∀ y ∈ x, i64 y)
  (fun x => ⟨[(0, .il 1 (Go.Ax.encI l)), (1, .int .i64 n), (5, .sl 0 0 x.length), (6, .int .i64 x.length)], [(0, .row 3 1 (Go.Ax.encI x))], 1, 25⟩)
  (fun x => n - x.length) [] [(0, 0)] ⟨by simp, by simp⟩
  (conv_mk _ rfl ⟨⟨0, _, rfl, rfl, .nil⟩, trivial⟩ ⟨⟨_, rfl, .same _ nl⟩, ⟨_, rfl, .same _ nn⟩, ⟨_, rfl, .nslk 0 0 _ rfl rfl⟩, ⟨_, rfl, .same _ nn⟩, trivial⟩) ?_
 rintro x ⟨x1, x2⟩
 have d1 : decide ((x.length : Int) < (n : Int)) = decide (x.length < n) := decide_eq_decide.2 (by omega)
 have lx := encI_length x
 by_cases hx : x.length < n
 ·have h1 := rPick l x.length 9 hl (by omega)
  have h2 := rPick l (x.length + 1) 20 hl (by omega)
  have b1 : 0 ≤ pickI l x.length 9 ∧ pickI l x.length 9 < 9 := pickI_bound (by omega)
  have b2 : 0 ≤ pickI l (x.length + 1) 20 ∧ pickI l (x.length + 1) 20 < 20 := pickI_bound (by omega)
  have hw : IntKind.i64.wrap ((x.length : Int) + 1) = (x.length : Int) + 1 := wrap64 ⟨by omega, by omega⟩
  generalize pickI l x.length 9 = a at *
  generalize pickI l (x.length + 1) 20 = b at *
  ((conv=>whnf);repeat(refine Xg ?_;conv=>whnf))
  rw [d1, decide_eq_true hx]
  ((conv=>whnf);repeat(refine Xg ?_;conv=>whnf))
  refine h1.go ?_ (.cons nl (.cons nn (.cons nn .nil))) nn
  ((conv=>whnf);repeat(refine Xg ?_;conv=>whnf))
  rw [hw]
  refine h2.go ?_ (.cons nl (.cons nn (.cons nn .nil))) nn
  ((conv=>whnf);repeat(refine Xg ?_;conv=>whnf))
  have hv := i64w (a - IntKind.i64.wrap (b.tdiv 19))
  generalize IntKind.i64.wrap (a - IntKind.i64.wrap (b.tdiv 19)) = v at *
  refine grd_mk (app_ok rfl rfl (by rw [lx]) (by simp; omega)) ?_
  ((conv=>whnf);repeat(refine Xg ?_;conv=>whnf))
  exact .mk (x ++ [v]) [(2, 0)] ⟨by simp; omega, fun y hy => by
    rcases List.mem_append.1 hy with hy | hy
    ·exact x2 y hy
    ·simp at hy; rw [hy]; exact hv⟩
   (conv_mk _ rfl ⟨⟨2, _, rfl, rfl, .eq (encI_nn _) (by simp [Go.Ax.encI])⟩, trivial⟩ ⟨⟨_, rfl, .same _ nl⟩, ⟨_, rfl, .same _ nn⟩, ⟨_, rfl, .slE rfl (by simp)⟩, ⟨_, rfl, .int (by rw [hw]; simp)⟩, trivial⟩) (by simp; omega)
 ·((conv=>whnf);repeat(refine Xg ?_;conv=>whnf))
  rw [d1, decide_eq_false hx]
  ((conv=>whnf);repeat(refine Xg ?_;conv=>whnf))
  exact fin_cv (r' := .il 1 (Go.Ax.encI x)) (fz_row (id := 0) rfl lx.symm rfl (encI_nn x)) ⟨x, by omega, x2, rfl, rfl, rfl⟩
end Go.Proofs.YthempfhilcmfnaaGreat
namespace Go.Ax
open Go
def frzs (f : AV → Option AV) : List AV → Option (List AV)
 | [] => some []
 | a :: r => match f a with
  | none => none
  | some b => match frzs f r with
   | none => none
   | some t => some (b :: t)
def frz : Nat → List (Nat × Nat) → Mem → AV → Option AV
 | 0, _, _, _ => none
 | n + 1, σ, m, v => match v with
  | .bool b => some (.bool b)
  | .int k i => some (.int k i)
  | .str s => some (.str s)
  | .nptr => some .nptr
  | .nsl => some .nsl
  | .nmap => some .nmap
  | .nfn => some .nfn
  | .nif => some .nif
  | .sl id off len => match lk σ id with
   | none => match lk m id with
    | some (.row t sz xs) => match Nat.ble (off + len) xs.length with
     | true => match frzs (frz n σ m) ((xs.drop off).take len) with
      | some ys => some (.il sz ys)
      | none => none
     | false => none
    | _ => none
   | some _ => none
  | .il sz xs => match frzs (frz n σ m) xs with
   | some ys => some (.il sz ys)
   | none => none
  | .ifc t v => match frz n σ m v with
   | some v' => some (.ifc t v')
   | none => none
  | .agg cs => match frzs (frz n σ m) cs with
   | some ys => some (.agg ys)
   | none => none
  | .tup cs => match frzs (frz n σ m) cs with
   | some ys => some (.tup ys)
   | none => none
  | _ => none
structure FrzOK (m : Mem) (σ : List (Nat × Nat)) (v v' : AV) : Prop where
 cv : Cv m σ v v'
 nn : NN v'
 ce : CvL m σ v.cells v'.cells
theorem FrzOK.len {m : Mem} {σ : List (Nat × Nat)} {v v' : AV} (h : FrzOK m σ v v') : v.cells.length = v'.cells.length := h.ce.1
theorem frzs_sound {m : Mem} {σ : List (Nat × Nat)} {f : AV → Option AV} (hf : ∀ v v', f v = some v' → FrzOK m σ v v') : ∀ {l l' : List AV}, frzs f l = some l' → l.length = l'.length ∧ ∀ (j : Nat) (a b : AV), l[j]? = some a → l'[j]? = some b → FrzOK m σ a b
 | [], l', h => by simp only [frzs] at h; cases h; exact ⟨rfl, fun j a b h => by simp at h⟩
 | a :: r, l', h => by
  simp only [frzs] at h
  split at h
  ·cases h
  ·rename_i b hb
   split at h
   ·cases h
   ·rename_i t ht
    cases h
    obtain ⟨h1, h2⟩ := frzs_sound hf ht
    refine ⟨by simp [h1], fun j x y hx hy => ?_⟩
    cases j with
    | zero => simp at hx hy; subst hx hy; exact hf _ _ hb
    | succ j => simp at hx hy; exact h2 j x y hx hy
theorem frzs_nn {m : Mem} {σ : List (Nat × Nat)} {l l' : List AV} (h1 : l.length = l'.length) (h2 : ∀ (j : Nat) (a b : AV), l[j]? = some a → l'[j]? = some b → FrzOK m σ a b) : NNs l' := fun b hb => by
 obtain ⟨j, hj⟩ := List.getElem?_of_mem hb
 obtain ⟨a, ha⟩ := get_of_len h1 hj
 exact (h2 j a b ha hj).nn
theorem FrzOK.one {m : Mem} {σ : List (Nat × Nat)} {v v' : AV} (h1 : v.cells = [v]) (h2 : v'.cells = [v']) (hc : Cv m σ v v') (hn : NN v') : FrzOK m σ v v' :=
 ⟨hc, hn, by rw [h1, h2]; exact CvL.cons hc .nil⟩
theorem frz_sound {m : Mem} {σ : List (Nat × Nat)} : ∀ (n : Nat) (v v' : AV), frz n σ m v = some v' → FrzOK m σ v v'
 | 0, v, v', h => by simp [frz] at h
 | n + 1, v, v', h => by
  have ih := frz_sound (m := m) (σ := σ) n
  cases v with
  | bool b => simp only [frz] at h; cases h; exact .one rfl rfl (.same _ (.bool b)) (.bool b)
  | int k i => simp only [frz] at h; cases h; exact .one rfl rfl (.same _ (.int k i)) (.int k i)
  | str s => simp only [frz] at h; cases h; exact .one rfl rfl (.same _ (.str s)) (.str s)
  | nptr => simp only [frz] at h; cases h; exact .one rfl rfl (.same _ .nptr) .nptr
  | nsl => simp only [frz] at h; cases h; exact .one rfl rfl (.same _ .nsl) .nsl
  | nmap => simp only [frz] at h; cases h; exact .one rfl rfl (.same _ .nmap) .nmap
  | nfn => simp only [frz] at h; cases h; exact .one rfl rfl (.same _ .nfn) .nfn
  | nif => simp only [frz] at h; cases h; exact .one rfl rfl (.same _ .nif) .nif
  | ptr id i j => simp [frz] at h
  | mp id => simp [frz] at h
  | ip v => simp [frz] at h
  | fn f a b => simp [frz] at h
  | junk => simp [frz] at h
  | yld id => simp [frz] at h
  | sl id off len =>
   simp only [frz] at h
   split at h
   ·rename_i hs
    split at h
    ·rename_i t sz xs hx
     split at h
     ·rename_i hle
      split at h
      ·rename_i ys hy
       cases h
       have hle := Nat.le_of_ble_eq_true hle
       obtain ⟨h1, h2⟩ := frzs_sound ih hy
       have hget : ∀ (i : Nat) (x y : AV), xs[off + i]? = some x → ys[i]? = some y → FrzOK m σ x y := fun i x y hx hy => by
        refine h2 i x y ?_ hy
        have hlt : i < ys.length := (List.getElem?_eq_some_iff.1 hy).1
        rw [← h1] at hlt
        rw [List.getElem?_take, if_pos (by simp at hlt; omega), List.getElem?_drop]
        exact hx
       refine .one rfl rfl (.fz id off len t sz xs ys hx hs hle (by rw [← h1]; simp; omega) (fun i x y hx hy => (hget i x y hx hy).len) fun i x y j c c' hx hy hc hc' => (hget i x y hx hy).ce.2 j c c' hc hc') ?_
       exact NN.il' (frzs_nn h1 h2)
      ·cases h
     ·cases h
    ·cases h
   ·cases h
  | il sz xs =>
   simp only [frz] at h
   split at h
   ·rename_i ys hy
    cases h
    obtain ⟨h1, h2⟩ := frzs_sound ih hy
    refine .one rfl rfl (.il sz xs ys h1 (fun i x y hx hy => (h2 i x y hx hy).len) fun i x y j c c' hx hy hc hc' => (h2 i x y hx hy).ce.2 j c c' hc hc') ?_
    exact NN.il' (frzs_nn h1 h2)
   ·cases h
  | ifc t v =>
   simp only [frz] at h
   split at h
   ·rename_i v' hv
    cases h
    exact .one rfl rfl (.ifc t v v' (ih v v' hv).cv) (.ifc t v' (ih v v' hv).nn)
   ·cases h
  | agg cs =>
   simp only [frz] at h
   split at h
   ·rename_i ys hy
    cases h
    obtain ⟨h1, h2⟩ := frzs_sound ih hy
    have hl : CvL m σ cs ys := ⟨h1, fun j c c' hc hc' => (h2 j c c' hc hc').cv⟩
    exact ⟨.agg' hl, .agg' (frzs_nn h1 h2), hl⟩
   ·cases h
  | tup cs =>
   simp only [frz] at h
   split at h
   ·rename_i ys hy
    cases h
    obtain ⟨h1, h2⟩ := frzs_sound ih hy
    have hl : CvL m σ cs ys := ⟨h1, fun j c c' hc hc' => (h2 j c c' hc hc').cv⟩
    exact .one rfl rfl (.tup' hl) (.tup' (frzs_nn h1 h2))
   ·cases h
theorem cvl_frz {m : Mem} {args bs : List AV} (n : Nat) (h : frzs (frz n [] m) args = some bs) : CvL m [] args bs := by
 obtain ⟨h1, h2⟩ := frzs_sound (frz_sound n) h
 exact ⟨h1, fun j c c' hc hc' => (h2 j c c' hc hc').cv⟩
def idσ : Mem → List (Nat × Nat)
 | [] => []
 | (i, _) :: r => (i, i) :: idσ r
theorem idσ_lk {mem : Mem} : ∀ {i : Nat} {b : AB}, lk mem i = some b → lk (idσ mem) i = some i := by
 induction mem with
 | nil => intro i b h; simp [lk] at h
 | cons p r ih =>
  intro i b h
  obtain ⟨j, u⟩ := p
  simp only [lk] at h
  simp only [idσ, lk]
  split at h
  ·rename_i e; rw [Nat.eq_of_beq_eq_true e]
  ·exact ih h
def sameM (m : Mem) : Mem → Bool
 | [] => true
 | (i, b) :: r => (match b with
  | .row t sz xs => match lk m i with
   | some (.row t' sz' xs') => match frzs (frz 30 [] []) xs with
    | some ys => Nat.beq t t' && (Nat.beq sz sz' && (eqAVs xs' xs && eqAVs ys xs))
    | none => false
   | _ => false
  | _ => false) && sameM m r
theorem sameM_sound {m : Mem} (σ : List (Nat × Nat)) : ∀ {mem : Mem}, sameM m mem = true → (∀ p ∈ mem, lk σ p.1 = some p.1) → MemConv m σ mem
 | [], h, hs => trivial
 | (i, b) :: r, h, hs => by
  simp only [sameM, Bool.and_eq_true] at h
  refine ⟨?_, sameM_sound σ h.2 fun p hp => hs p (List.mem_cons_of_mem _ hp)⟩
  have h := h.1
  split at h
  ·rename_i t sz xs
   split at h
   ·rename_i t' sz' xs' hl
    split at h
    ·rename_i ys hy
     simp only [Bool.and_eq_true] at h
     obtain ⟨h1, h2, h3, h4⟩ := h
     have e1 := Nat.eq_of_beq_eq_true h1
     have e2 := Nat.eq_of_beq_eq_true h2
     have e3 := eqAVs_eq h3
     have e4 := eqAVs_eq h4
     subst e1 e2 e3 e4
     obtain ⟨g1, g2⟩ := frzs_sound (frz_sound 30) hy
     exact ⟨i, ys, hs _ (List.mem_cons_self ..), hl, .same (frzs_nn g1 g2)⟩
    ·cases h
   ·cases h
  ·cases h
def okB (mem : Mem) (want r : AV) (m : Mem) : Bool :=
 match frz 30 (idσ mem) m r with
 | some v => match eqAV v want with
  | true => sameM m mem
  | false => false
 | none => false
def okF (mem : Mem) (want r : AV) (m : Mem) : Prop :=
 match okB mem want r m with
 | true => True
 | false => False
theorem idσ_all : ∀ {mem : Mem}, (mem.map (·.1)).Nodup → ∀ p ∈ mem, lk (idσ mem) p.1 = some p.1 := by
 intro mem hn p hp
 have : ∃ b, lk mem p.1 = some b := by
  clear hn
  induction mem with
  | nil => cases hp
  | cons q r ih =>
   obtain ⟨j, u⟩ := q
   simp only [lk]
   split
   ·exact ⟨u, rfl⟩
   ·rename_i e
    rcases List.mem_cons.1 hp with rfl | hp
    ·simp at e
    ·exact ih hp
 obtain ⟨b, hb⟩ := this
 exact idσ_lk hb
theorem closedF {P : Program} {Γ : List (Nat × AV)} {F : FuncId} {args : List AV} {mem : Mem} {nx : Nat} {want : AV} (hΓ : ∀ p ∈ Γ, NN p.2) (dl : List Nat) (n : Nat)
  (hc : (nod2 (idσ mem) && (nodM mem && (oldOK nx nx (idσ mem) && Nat.ble nx nx))) = true)
  (h : ((fdeep P Γ dl n).call F args mem nx (fun r m _ => okF mem want r m) fun _ _ _ => False) = True) : ACalls P Γ F args mem nx fun r m k => r = want ∧ m = mem ∧ k = nx := by
 refine ACalls.turn hΓ ((acalls_closed dl n (by rw [h]; trivial)).mono fun r m k hk => ?_)
 unfold okF at hk
 split at hk
 ·rename_i hb
  unfold okB at hb
  split at hb
  ·rename_i v hv
   split at hb
   ·rename_i he
    have e := eqAV_eq he
    subst e
    have hn : (mem.map (·.1)).Nodup := by
     simp only [Bool.and_eq_true] at hc
     exact nodM_sound hc.2.1
    exact fin_mk (idσ mem) hc (sameM_sound _ hb (idσ_all hn)) (frz_sound 30 r v hv).cv ⟨rfl, rfl, rfl⟩
   ·cases hb
  ·cases hb
 ·exact hk.elim
theorem ACalls.exact {P : Program} {Γ : List (Nat × AV)} {F : FuncId} {args : List AV} {mem : Mem} {nx : Nat} {want : AV} {K : AV → Mem → Nat → Prop} (h : ACalls P Γ F args mem nx fun r m k => r = want ∧ m = mem ∧ k = nx) (hk : K want mem nx) : ACalls P Γ F args mem nx K :=
 h.mono fun r m k ⟨h1, h2, h3⟩ => by rw [h1, h2, h3]; exact hk
end Go.Ax
