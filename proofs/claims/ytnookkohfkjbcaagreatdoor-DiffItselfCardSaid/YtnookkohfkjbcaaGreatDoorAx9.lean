/- A part of the proof. -/
import Derived.Test.YtnookkohfkjbcaaGreatDoorAx8
import Derived.Below
import Derived.Lib.ConvBytes
import Derived.Lib.ItoaMem
import Derived.ChangeMaps5
import Derived.Lib.LaidTab
import Derived.Lib.ItoaNum
import Derived.Lib.AtoiAllCases
set_option linter.unusedVariables false
namespace Go.Ax
open Go
theorem nn {v : AV} (h : NN v := by
  repeat' first
   | assumption
   | exact NN.int _ _
   | exact NN.bool _
   | exact NN.str _
   | exact NN.nsl
   | exact NN.nptr
   | exact NN.nif
   | exact NN.nfn
   | exact NN.nmap
   | exact NN.junk
   | exact encV_nn _
   | exact encVs_nn _
   | exact encI_nn _
   | exact NNs.nil
   | refine NNs.cons ?_ ?_
   | refine NN.agg' ?_
   | refine NN.tup' ?_
   | refine NN.il' ?_
   | refine NN.ip' ?_
   | refine NN.ifc _ _ ?_
   | exact NN.fn _ _ _ (by simp) (by simp)) : NN v := h
theorem nns {l : List AV} (h : NNs l := by
  repeat' first
   | assumption
   | exact NN.int _ _
   | exact NN.bool _
   | exact NN.str _
   | exact NN.nsl
   | exact NN.nptr
   | exact NN.nif
   | exact NN.nfn
   | exact NN.nmap
   | exact NN.junk
   | exact encV_nn _
   | exact encVs_nn _
   | exact encI_nn _
   | exact NNs.nil
   | refine NNs.cons ?_ ?_
   | refine NN.agg' ?_
   | refine NN.tup' ?_
   | refine NN.il' ?_
   | refine NN.ip' ?_
   | refine NN.ifc _ _ ?_
   | exact NN.fn _ _ _ (by simp) (by simp)) : NNs l := h
section
variable {P : Program} {Γ : List (Nat × AV)} {F : FuncId} {args : List AV} {r : AV} {mem : Mem} {nx : Nat} {K : AV → Mem → Nat → Prop}
theorem PureC.go (h : PureC P [] F args r) (hk : K r mem nx) (ha : NNs args := by exact nns) (hr : NN r := by exact nn) : ACalls P [] F args mem nx K := h.use nnΓ ha hr hk
end
theorem ACalls.glob {P : Program} {Γ : List (Nat × AV)} {F : FuncId} {args : List AV} {mem : Mem} {nx : Nat} {Q : AV → Mem → Nat → Prop} (h : ACalls P [] F args mem nx Q) : ACalls P Γ F args mem nx Q := by
 refine ⟨fun X D ρ w vs hD hm hv => ?_⟩
 refine (h.run X D ρ w vs hD ⟨hm.low, hm.blk, hm.emp, hm.inj, hm.nod, hm.bar, (fun p hp => by cases hp)⟩ hv).mono ?_
 rintro e w' ⟨r, v, m, n, ρ', h1, h2, h3, h4, h5, h6⟩
 exact ⟨r, v, m, n, ρ', h1, h2, h3, ⟨h4.low, h4.blk, h4.emp, h4.inj, h4.nod, h4.bar, fun p hp => h6.vr (hm.glo p hp)⟩, h5, h6⟩
def sameN : List (Nat × Nat) → Bool
 | [] => true
 | (i, j) :: r => Nat.beq i j && sameN r
theorem sameN_sound : ∀ {σ : List (Nat × Nat)}, sameN σ = true → ∀ p ∈ σ, p.1 = p.2
 | [], h, p, hp => by cases hp
 | (i, j) :: r, h, p, hp => by
  simp only [sameN, Bool.and_eq_true] at h
  rcases List.mem_cons.1 hp with rfl | hp
  ·exact Nat.eq_of_beq_eq_true h.1
  ·exact sameN_sound h.2 p hp
theorem ACalls.pre {P : Program} {Γ : List (Nat × AV)} {F : FuncId} {args args' : List AV} {mem mem' : Mem} {nx : Nat} {K : AV → Mem → Nat → Prop} (hΓ : ∀ p ∈ Γ, NN p.2) (σ : List (Nat × Nat)) (hid : (sameN σ && nodM mem') = true)
  (hM : MemConv mem σ mem') (hargs : CvL mem σ args args') (h : ACalls P Γ F args' mem' nx K) : ACalls P Γ F args mem nx K := by
 simp only [Bool.and_eq_true] at hid
 have hid1 := sameN_sound hid.1
 have hnod := nodM_sound hid.2
 refine ⟨fun X D ρ w vs hD hm hv => ?_⟩
 have hσ : ∀ id id', lk σ id = some id' → D id → D id' ∧ ρ id' = ρ id := by
  intro id id' h hd
  have := hid1 _ (lk_mem h)
  simp only at this
  subst this
  exact ⟨hd, rfl⟩
 have hinj : Inj σ := fun i j k h1 h2 => by
  have a := hid1 _ (lk_mem h1)
  have b := hid1 _ (lk_mem h2)
  simp only at a b
  omega
 obtain ⟨m1, v1, o1⟩ := hm.turn (D' := D) (ρ' := ρ) hΓ hσ hM.cvm hnod hinj
 have hvs : VRL ρ D (OX X ρ mem') w args' vs := ⟨by rw [← hargs.1]; exact hv.1, fun j c' x hc' hx => by
   obtain ⟨c, hc⟩ := get_of_len hargs.1 hc'
   exact v1 c c' (hargs.2 j c c' hc hc') _ (hv.2 j c x hc hx)⟩
 refine (h.run X D ρ w vs hD m1 hvs).mono ?_
 rintro e w' ⟨r, v, m, n, ρ', h1, h2, h3, h4, h5, h6⟩
 refine ⟨r, v, m, n, ρ', h1, h2, h3, h4, h5, ?_⟩
 have e0 : Ext D ρ mem w ρ D mem' w := ⟨fun i hi => hi, fun _ _ => rfl, Nat.le_refl _, fun _ _ _ => rfl, fun p hp hn => .inl (o1 p hp hn), rfl, rfl⟩
 exact e0.trans h6
theorem enc_cases {l : List Val} {k : Nat} (h : k < l.length) : ∃ a b c d, Val.mk a b c d ∈ l ∧ l[k]? = some (Val.mk a b c d) ∧ l[k] = Val.mk a b c d ∧ (encVs l)[(k : Int).toNat]? = some (encV (Val.mk a b c d)) := by
 obtain ⟨⟨a, b, c, d⟩, hv⟩ : ∃ v, v = l[k] := ⟨_, rfl⟩
 have e := enc_at h
 rw [← hv] at e
 exact ⟨a, b, c, d, by rw [hv]; exact List.getElem_mem h, by rw [hv]; exact List.getElem?_eq_getElem h, hv.symm, e⟩
section
variable {mem : Mem} {σ : List (Nat × Nat)}
theorem Cv.int {k : IntKind} {a b : Int} (h : a = b) : Cv mem σ (.int k a) (.int k b) := by rw [h]; exact .same _ (.int _ _)
theorem Cv.w64 {x y : Int} (h : x = y) (hb : i64 y) : Cv mem σ (.int .i64 (IntKind.i64.wrap x)) (.int .i64 y) := by rw [h, wrap64 hb]; exact .same _ (.int _ _)
theorem Cv.bool {a b : Bool} (h : a = b) : Cv mem σ (.bool a) (.bool b) := by rw [h]; exact .same _ (.bool _)
theorem cvVal (k n : Int) (s : List UInt8) : CvE mem σ (.agg [.int .i64 k, .int .i64 n, .str s, .nsl]) (encV (.mk k n s [])) :=
 .agg (.cons (.same _ (.int _ _)) (.cons (.same _ (.int _ _)) (.cons (.same _ (.str _)) (.cons (.nil 4) .nil))))
end
theorem encVs_snoc (l : List Val) (v : Val) : encVs (l ++ [v]) = encVs l ++ [encV v] := by simp [encVs_map]
theorem w64 {x y : Int} (h : x = y) (hb : i64 y) : IntKind.i64.wrap x = y := by rw [h, wrap64 hb]
theorem klt {l : List Val} {k : Nat} (h : decide ((k : Int) < ((encVs l).length : Nat)) = true) : k < l.length := by rw [encVs_length] at h; simpa using h
theorem kge {l : List Val} {k : Nat} (h : decide ((k : Int) < ((encVs l).length : Nat)) = false) : l.length ≤ k := by rw [encVs_length] at h; simpa using h
theorem Cv.fzR {mem : Mem} {σ : List (Nat × Nat)} {id len : Nat} {t : TypeId} {sz : Nat} {xs ys : List AV} (h1 : lk mem id = some (.row t sz xs)) (h2 : lk σ id = none) (h3 : CvR mem σ xs ys) (h4 : ys.length = len) : Cv mem σ (.sl id 0 len) (.il sz ys) :=
 .fz id 0 len t sz xs ys h1 h2 (by have := h3.1; omega) h4 (fun i x y hx hy => (h3.2 i x y (by simpa using hx) hy).1) (fun i x y j c c' hx hy hc hc' => (h3.2 i x y (by simpa using hx) hy).2 j c c' hc hc')
section
variable {P : Program} {Γ : List (Nat × AV)} {F : FuncId} {args : List AV} {r : AV} {mem : Mem} {nx : Nat} {K : AV → Mem → Nat → Prop}
theorem PureC.goG (h : PureC P [] F args r) (hk : K r mem nx) (ha : NNs args := by exact nns) (hr : NN r := by exact nn) : ACalls P Γ F args mem nx K := (h.use nnΓ ha hr hk).glob
theorem ACalls.goG0 {Qs : AV → Mem → Nat → Prop} (h : ACalls P [] F args [] 0 Qs) (hk : ∀ r m n, Qs r m n → ∃ r', Cv m [] r r' ∧ K r' mem nx) (ha : NNs args := by exact nns) : ACalls P Γ F args mem nx K :=
 (ACalls.call0 nnΓ h ha hk).glob
end
theorem enc_own {l : List Val} {k n : Nat} (h : k < l.length) (hn : l.length = n) : ∃ a b c d, Val.mk a b c d ∈ l ∧ l[k]? = some (Val.mk a b c d) ∧ l[k] = Val.mk a b c d ∧ (encVs l)[0 + (k : Int).toNat]? = some (encV (Val.mk a b c d)) ∧ Nat.blt (k : Int).toNat n = true := by
 obtain ⟨a, b, c, d, h1, h2, h3, h4⟩ := enc_cases h
 exact ⟨a, b, c, d, h1, h2, h3, by rw [Nat.zero_add]; exact h4, Nat.ble_eq_true_of_le (by simp; omega)⟩
end Go.Ax
namespace Go.Ax
open Go
section
variable {P : Program} {Γ : List (Nat × AV)} {B : Nat}
structure ALoop (P : Program) (Γ : List (Nat × AV)) (B : Nat) (c : Code) (s : St) (Q : Exit → St → Prop) : Prop where
 run : AWp P Γ B (.loop c) s Q
def seqQ (P : Program) (Γ : List (Nat × AV)) (B : Nat) (y : Code) (Q : Exit → St → Prop) (e : Exit) (s : St) : Prop :=
 match e with
 | .normal => AWp P Γ B y s Q
 | e => Q e s
def blkQ (id : Nat) (Q : Exit → St → Prop) (e : Exit) (s : St) : Prop :=
 match e with
 | .exit i => match Nat.beq i id with
  | true => Q .normal s
  | false => Q (.exit i) s
 | e => Q e s
structure AOps (P : Program) (Γ : List (Nat × AV)) (B : Nat) (ops l : List Oper) (s : St) (K : St → Prop) : Prop where
 run : aOps P Γ (sem P Γ B) ops l s K
def fo1 (P : Program) (Γ : List (Nat × AV)) (B : Nat) (ops l : List Oper) (s : St) (K : St → Prop) : Prop :=
 match l with
 | [] => K s
 | o :: r => stK s fun sl mem nx nt => fWant ops sl o.guard
   (fEff false P Γ (sem P Γ B) sl mem nx o.op fun v mem nx => fPut s o.dst v mem nx fun s' => AOps P Γ B ops r s' K)
   (fPut s o.dst (.tup []) mem nx fun s' => AOps P Γ B ops r s' K)
theorem AOps.go {ops l : List Oper} {s : St} {K : St → Prop} (h : fo1 P Γ B ops l s K) : AOps P Γ B ops l s K := by
 refine ⟨?_⟩
 cases l with
 | nil => exact h
 | cons o r =>
  have h : fWant ops s.sl o.guard (fEff false P Γ (sem P Γ B) s.sl s.mem s.nx o.op fun v mem nx => fPut s o.dst v mem nx fun s' => AOps P Γ B ops r s' K) (fPut s o.dst (.tup []) s.mem s.nx fun s' => AOps P Γ B ops r s' K) := h
  simp only [aOps]
  rcases fWant_a h with ⟨h1, h⟩ | ⟨h1, h⟩
  ·simp only [h1]
   rcases fEff_a h with ⟨v, m, n, h2, h⟩ | ⟨h2, F, l, h3, h⟩
   ·obtain ⟨s', h4, h⟩ := fPut_a h
    simp only [h2, h4]
    exact h.run
   ·simp only [h2, h3]
    refine (show ACalls P Γ F l s.mem s.nx _ from h).mono fun v m n h => ?_
    obtain ⟨s', h4, h⟩ := fPut_a h
    simp only [h4]
    exact h.run
  ·obtain ⟨s', h4, h⟩ := fPut_a h
   simp only [h1, h4]
   exact h.run
structure ADr (P : Program) (Γ : List (Nat × AV)) (B : Nat) (ops : List Oper) (tr : List (List Nat)) (base : Nat) (K : St → Prop) (l : List Nat) (recs : List Rec) (s : St) : Prop where
 run : vrun P Γ (sem P Γ B) ops tr base K l recs s
def fd1 (P : Program) (Γ : List (Nat × AV)) (B : Nat) (ops : List Oper) (tr : List (List Nat)) (base : Nat) (K : St → Prop) (l : List Nat) (recs : List Rec) (s : St) : Prop :=
 match l with
 | [] => K s
 | i :: r => match ops[i]? with
  | none => False
  | some o => stK s fun sl mem nx nt => fWant ops sl o.guard
   (match kind P o.op with
    | .pure => match still o.op with
     | true => fStep false P Γ sl [] nx o.op fun v _ _ => fPut s o.dst v mem nx fun s' => ADr P Γ B ops tr base K r (⟨i, sl, true, v⟩ :: recs) s'
     | false => filterK (fun p => vis tr base ops.length i p.1) mem fun m => fStep false P Γ sl m nx o.op fun v _ _ => fPut s o.dst v mem nx fun s' => ADr P Γ B ops tr base K r (⟨i, sl, true, v⟩ :: recs) s'
    | .al => natK (base + i) fun id => fStep false P Γ sl [] id o.op fun v m _ => match m with
     | [(_, b)] => fPut s o.dst v ((id, b) :: mem) nx fun s' => ADr P Γ B ops tr base K r (⟨i, sl, true, v⟩ :: recs) s'
     | _ => False
    | .eff => filterK (fun p => vis tr base ops.length i p.1) mem fun m => fEff false P Γ (sem P Γ B) sl m nx o.op fun v m nx' => filterK (fun p => !vis tr base ops.length i p.1) mem fun rest => filterK (fun p => !hasKey p.1 m) rest fun rest => appK m rest fun m =>
      fPut s o.dst v m nx' fun s' => fChk false P Γ ops tr base i m nx' recs (ADr P Γ B ops tr base K r recs s'))
   (fPut s o.dst (.tup []) mem nx fun s' => ADr P Γ B ops tr base K r (⟨i, sl, false, .tup []⟩ :: recs) s')
theorem ADr.go {ops : List Oper} {tr : List (List Nat)} {base : Nat} {K : St → Prop} {l : List Nat} {recs : List Rec} {s : St} (h : fd1 P Γ B ops tr base K l recs s) : ADr P Γ B ops tr base K l recs s := by
 refine ⟨?_⟩
 cases l with
 | nil => exact h
 | cons i r =>
  simp only [fd1] at h
  simp only [vrun]
  split at h
  ·exact h.elim
  ·rename_i o ho
   simp only [ho]
   have h := stK_iff.1 h
   rcases fWant_a h with ⟨h1, h⟩ | ⟨h1, h⟩
   ·simp only [h1]
    split at h
    ·rename_i hkd
     simp only [hkd]
     split at h
     ·rename_i hst
      obtain ⟨v, m, n, h2, h⟩ := fStep_a (s := { sl := s.sl, mem := [], nx := s.nx, nt := s.nt }) h
      obtain ⟨m', n', h2'⟩ := aStep_still (s := { sl := s.sl, mem := [], nx := s.nx, nt := s.nt }) (s' := { s with mem := seen tr base ops.length i s.mem }) hst rfl h2
      obtain ⟨s', h3, h⟩ := fPut_a h
      simp only [h2', h3]
      exact h.run
     ·have h := filterK_iff.1 h
      obtain ⟨v, m, n, h2, h⟩ := fStep_a (s := { s with mem := seen tr base ops.length i s.mem }) h
      obtain ⟨s', h3, h⟩ := fPut_a h
      simp only [h2, h3]
      exact h.run
    ·rename_i hkd
     simp only [hkd]
     have h := natK_iff.1 h
     obtain ⟨v, m, n, h2, h⟩ := fStep_a (s := { s with mem := [], nx := base + i }) h
     simp only [h2]
     split at h
     ·obtain ⟨s', h3, h⟩ := fPut_a h
      simp only [h3]
      exact h.run
     ·exact h.elim
    ·rename_i hkd
     simp only [hkd]
     have h := filterK_iff.1 h
     rcases fEff_a (s := { s with mem := seen tr base ops.length i s.mem }) h with ⟨v, m, n, h2, h⟩ | ⟨h2, F, l, h3, h⟩
     ·simp only [h2]
      have h := appK_iff.1 (filterK_iff.1 (filterK_iff.1 h))
      obtain ⟨s', h3, h⟩ := fPut_a h
      have h3 : stepSt s o.dst v (m ++ back m (unseen tr base ops.length i s.mem)) n = some s' := h3
      simp only [h3]
      obtain ⟨e1, e2, _⟩ := stepSt_parts h3
      have h : fChk false P Γ ops tr base i (m ++ back m (unseen tr base ops.length i s.mem)) n recs (ADr P Γ B ops tr base K r recs s') := h
      rw [← e1, ← e2] at h
      obtain ⟨h4, h⟩ := fChk_a h
      exact ⟨h4, h.run⟩
     ·rw [aCall_congr (s' := s) (fun x _ => by cases x <;> rfl)] at h3
      simp only [h2, h3]
      refine (show ACalls P Γ F l _ _ _ from h).mono fun v m n h => ?_
      have h := appK_iff.1 (filterK_iff.1 (filterK_iff.1 h))
      obtain ⟨s', h3, h⟩ := fPut_a h
      have h3 : stepSt s o.dst v (m ++ back m (unseen tr base ops.length i s.mem)) n = some s' := h3
      simp only [h3]
      obtain ⟨e1, e2, _⟩ := stepSt_parts h3
      have h : fChk false P Γ ops tr base i (m ++ back m (unseen tr base ops.length i s.mem)) n recs (ADr P Γ B ops tr base K r recs s') := h
      rw [← e1, ← e2] at h
      obtain ⟨h4, h⟩ := fChk_a h
      exact ⟨h4, h.run⟩
   ·obtain ⟨s', h3, h⟩ := fPut_a h
    simp only [h1, h3]
    exact h.run
def fReg (P : Program) (Γ : List (Nat × AV)) (B : Nat) (ops : List Oper) (s : St) (Q : Exit → St → Prop) : Prop :=
 match P.follows .mixedOrders with
 | true => match okDraw P ops (eager P ops ops.length [] (upto ops.length)) with
  | true => stK s fun sl mem nx nt => natK (nx + ops.length) fun n => listK (eager P ops ops.length [] (upto ops.length)) fun ord => ADr P Γ B ops (trs ops []) nx (fun s' => Q .normal s') ord [] ⟨sl, mem, n, nt⟩
  | false => False
 | false => False
def fw1 (P : Program) (Γ : List (Nat × AV)) (B : Nat) (c : Code) (s : St) (Q : Exit → St → Prop) : Prop :=
 match c with
 | .skip => Q .normal s
 | .seq x y => AWp P Γ B x s (seqQ P Γ B y Q)
 | .cond c x y => stK s fun sl _ _ _ => fev Γ sl c fun v => match v with
  | .bool b => bcs b (AWp P Γ B x s Q) (AWp P Γ B y s Q)
  | _ => False
 | .block id c => AWp P Γ B c s (blkQ id Q)
 | .loop c => ALoop P Γ B c s Q
 | .exit i => Q (.exit i) s
 | .ret => Q .ret s
 | .region _ ops draw => match draw with
  | false => AOps P Γ B ops.toList ops.toList s fun s' => Q .normal s'
  | true => fReg P Γ B ops.toList s Q
 | _ => False
theorem AWp.go {c : Code} {s : St} {Q : Exit → St → Prop} (h : fw1 P Γ B c s Q) : AWp P Γ B c s Q := by
 cases c with
 | skip => exact fwp_sound (cl := false) sem_ok .skip s Q h
 | exit i => exact fwp_sound (cl := false) sem_ok (.exit i) s Q h
 | ret => exact fwp_sound (cl := false) sem_ok .ret s Q h
 | loop c => exact (show ALoop P Γ B c s Q from h).run
 | seq x y =>
  have h : AWp P Γ B x s (seqQ P Γ B y Q) := h
  refine ⟨fun X D ρ a w hD hs hB => wp_seq (Go.wp_mono (h.run X D ρ a w hD hs hB) ?_)⟩
  rintro e a' w' ⟨s', ρ', hq, hB', hs', hext⟩
  cases e with
  | normal =>
   refine Go.wp_mono ((show AWp P Γ B y s' Q from hq).run X D ρ' a' w' hD hs' hB') ?_
   rintro e a2 w2 ⟨s2, ρ2, h1, h2, h3, h4⟩
   exact ⟨s2, ρ2, h1, h2, h3, hext.trans h4⟩
  | exit i => exact ⟨s', ρ', hq, hB', hs', hext⟩
  | goto l => exact ⟨s', ρ', hq, hB', hs', hext⟩
  | ret => exact ⟨s', ρ', hq, hB', hs', hext⟩
  | panic c => exact ⟨s', ρ', hq, hB', hs', hext⟩
  | outgrown => exact ⟨s', ρ', hq, hB', hs', hext⟩
 | cond c x y =>
  have h : fev Γ s.sl c fun v => match v with
   | .bool b => bcs b (AWp P Γ B x s Q) (AWp P Γ B y s Q)
   | _ => False := h
  obtain ⟨v, h1, h⟩ := fev_ev h
  split at h
  ·rename_i b
   refine ⟨fun X D ρ a w hD hs hB => ?_⟩
   have hv := ev_sound hs h1
   generalize he : a.eval c = cv at hv
   cases hv
   cases b with
   | true => exact wp_cond_true he ((show AWp P Γ B x s Q from h).run X D ρ a w hD hs hB)
   | false => exact wp_cond_false he ((show AWp P Γ B y s Q from h).run X D ρ a w hD hs hB)
  ·exact h.elim
 | block id c =>
  have h : AWp P Γ B c s (blkQ id Q) := h
  refine ⟨fun X D ρ a w hD hs hB => wp_block (Go.wp_mono (h.run X D ρ a w hD hs hB) ?_)⟩
  rintro e a' w' ⟨s', ρ', hq, hB', hs', hext⟩
  cases e with
  | exit i =>
   simp only [Exit.inBlock]
   simp only [blkQ] at hq
   split at hq
   ·rename_i hi; rw [if_pos (Nat.eq_of_beq_eq_true hi)]; exact ⟨s', ρ', hq, hB', hs', hext⟩
   ·rename_i hi; rw [if_neg (Nat.ne_of_beq_eq_false hi)]; exact ⟨s', ρ', hq, hB', hs', hext⟩
  | normal => exact ⟨s', ρ', hq, hB', hs', hext⟩
  | goto l => exact ⟨s', ρ', hq, hB', hs', hext⟩
  | ret => exact ⟨s', ρ', hq, hB', hs', hext⟩
  | panic c => exact ⟨s', ρ', hq, hB', hs', hext⟩
  | outgrown => exact ⟨s', ρ', hq, hB', hs', hext⟩
 | region id ops draw =>
  cases draw with
  | false => exact awp_sound sem_ok (.region id ops false) s Q (show AOps P Γ B ops.toList ops.toList s _ from h).run
  | true =>
   refine awp_sound sem_ok (.region id ops true) s Q ?_
   have h : fReg P Γ B ops.toList s Q := h
   unfold fReg at h
   simp only [awp]
   split at h
   ·rename_i hmix
    simp only [hmix]
    split at h
    ·rename_i hok
     simp only [aDraw, hok]
     exact (listK_iff.1 (natK_iff.1 (stK_iff.1 h))).run
    ·exact h.elim
   ·exact h.elim
 | _ => exact (show False from h).elim
theorem acalls_go {F : FuncId} {fn : Func} {c : Code} {args : List AV} {mem : Mem} {nx : Nat} {Q : AV → Mem → Nat → Prop} (hΓ : ∀ p ∈ Γ, NN p.2) (hf : P.funcs[F]? = some fn) (hb : fn.body = some c)
  (h : fEnter fn.ntmps args mem nx fun s => AWp P Γ nx c s (fRet P fn.results.toList (Fini nx Q))) : ACalls P Γ F args mem nx Q :=
 (acalls_of_awp hf hb ((fEnter_iff h).mono fun _ _ h => fRet_a h)).turn hΓ
def loopQ {α : Type} (B : Nat) (R : α → Prop) (I : α → St) (μ : α → Nat) (x : α) (Q : Exit → St → Prop) (e : Exit) (s : St) : Prop :=
 match e with
 | .normal => Again B R I μ x s
 | e => Q e s
theorem ALoop.at {c : Code} {s : St} {Q : Exit → St → Prop} {α : Type} (hΓ : ∀ p ∈ Γ, NN p.2) (R : α → Prop) (I : α → St) (μ : α → Nat) (x : α) (σ : List (Nat × Nat)) (hx : R x) (h0 : Conv B σ s (I x))
  (h : ∀ x, R x → AWp P Γ B c (I x) (loopQ B R I μ x Q)) : ALoop P Γ B c s Q := by
 refine ⟨AWp.conv hΓ h0 ?_⟩
 refine AWp.loop (α := { x : α // R x }) hΓ (fun x => I x.1) (fun x => μ x.1) (fun x => ?_) ⟨x, hx⟩
 refine (h x.1 x.2).mono fun e s h => ?_
 cases e with
 | normal =>
  obtain ⟨y, σ, hy, hc, hlt⟩ := (show Again B R I μ x.1 s from h)
  exact ⟨⟨y, hy⟩, σ, hc, hlt⟩
 | exit i => exact h
 | goto l => exact h
 | ret => exact h
 | panic c => exact h
 | outgrown => exact h
theorem ALoop.ph {c : Code} {s : St} {Q : Exit → St → Prop} (t : TypeId) (sz : Nat) (h : ALoop P Γ B c ⟨s.sl, (s.nx, .row t sz []) :: s.mem, s.nx + 1, s.nt⟩ Q) : ALoop P Γ B c s Q := ⟨AWp.ph t sz h.run⟩
def foA (P : Program) (Γ : List (Nat × AV)) (B : Nat) (ops : List Oper) (K : St → Prop) (next : List Oper → St → Prop) (l : List Oper) (s : St) : Prop :=
 match l with
 | [] => K s
 | o :: r => stK s fun sl mem nx nt => fWant ops sl o.guard
   (fEff false P Γ (sem P Γ B) sl mem nx o.op fun v mem nx => fPut s o.dst v mem nx fun s' => next r s')
   (fPut s o.dst (.tup []) mem nx fun s' => next r s')
theorem foA_ok {ops : List Oper} {K : St → Prop} {next : List Oper → St → Prop} (hn : ∀ r s, next r s → AOps P Γ B ops r s K) {l : List Oper} {s : St} (h : foA P Γ B ops K next l s) : AOps P Γ B ops l s K := by
 refine ⟨?_⟩
 cases l with
 | nil => exact h
 | cons o r =>
  have h : fWant ops s.sl o.guard (fEff false P Γ (sem P Γ B) s.sl s.mem s.nx o.op fun v mem nx => fPut s o.dst v mem nx fun s' => next r s') (fPut s o.dst (.tup []) s.mem s.nx fun s' => next r s') := h
  simp only [aOps]
  rcases fWant_a h with ⟨h1, h⟩ | ⟨h1, h⟩
  ·simp only [h1]
   rcases fEff_a h with ⟨v, m, n, h2, h⟩ | ⟨h2, F, l, h3, h⟩
   ·obtain ⟨s', h4, h⟩ := fPut_a h
    simp only [h2, h4]
    exact (hn _ _ h).run
   ·simp only [h2, h3]
    refine (show ACalls P Γ F l s.mem s.nx _ from h).mono fun v m n h => ?_
    obtain ⟨s', h4, h⟩ := fPut_a h
    simp only [h4]
    exact (hn _ _ h).run
  ·obtain ⟨s', h4, h⟩ := fPut_a h
   simp only [h1, h4]
   exact (hn _ _ h).run
def fwA (P : Program) (Γ : List (Nat × AV)) (B : Nat) (next : Code → St → (Exit → St → Prop) → Prop) (c : Code) (s : St) (Q : Exit → St → Prop) : Prop :=
 match c with
 | .seq x y => next x s (seqQ P Γ B y Q)
 | .block id c => next c s (blkQ id Q)
 | c => fw1 P Γ B c s Q
theorem fwA_ok {next : Code → St → (Exit → St → Prop) → Prop} (hn : ∀ c s Q, next c s Q → AWp P Γ B c s Q) {c : Code} {s : St} {Q : Exit → St → Prop} (h : fwA P Γ B next c s Q) : AWp P Γ B c s Q := by
 cases c with
 | seq x y => exact AWp.go (show fw1 P Γ B (.seq x y) s Q from hn _ _ _ h)
 | block id c => exact AWp.go (show fw1 P Γ B (.block id c) s Q from hn _ _ _ h)
 | _ => exact AWp.go h
def foP0 (P : Program) (Γ : List (Nat × AV)) (B : Nat) (ops : List Oper) (K : St → Prop) (l : List Oper) (s : St) : Prop := AOps P Γ B ops l s K
theorem foP0_ok {ops : List Oper} {K : St → Prop} (l : List Oper) (s : St) (h : foP0 P Γ B ops K l s) : AOps P Γ B ops l s K := h
def foP1 (P : Program) (Γ : List (Nat × AV)) (B : Nat) (ops : List Oper) (K : St → Prop) (l : List Oper) (s : St) : Prop := foA P Γ B ops K (foP0 P Γ B ops K) l s
theorem foP1_ok {ops : List Oper} {K : St → Prop} (l : List Oper) (s : St) (h : foP1 P Γ B ops K l s) : AOps P Γ B ops l s K := foA_ok foP0_ok h
def foP2 (P : Program) (Γ : List (Nat × AV)) (B : Nat) (ops : List Oper) (K : St → Prop) (l : List Oper) (s : St) : Prop := foA P Γ B ops K (foP1 P Γ B ops K) l s
theorem foP2_ok {ops : List Oper} {K : St → Prop} (l : List Oper) (s : St) (h : foP2 P Γ B ops K l s) : AOps P Γ B ops l s K := foA_ok foP1_ok h
def foP3 (P : Program) (Γ : List (Nat × AV)) (B : Nat) (ops : List Oper) (K : St → Prop) (l : List Oper) (s : St) : Prop := foA P Γ B ops K (foP2 P Γ B ops K) l s
theorem foP3_ok {ops : List Oper} {K : St → Prop} (l : List Oper) (s : St) (h : foP3 P Γ B ops K l s) : AOps P Γ B ops l s K := foA_ok foP2_ok h
def foP4 (P : Program) (Γ : List (Nat × AV)) (B : Nat) (ops : List Oper) (K : St → Prop) (l : List Oper) (s : St) : Prop := foA P Γ B ops K (foP3 P Γ B ops K) l s
theorem foP4_ok {ops : List Oper} {K : St → Prop} (l : List Oper) (s : St) (h : foP4 P Γ B ops K l s) : AOps P Γ B ops l s K := foA_ok foP3_ok h
def foP5 (P : Program) (Γ : List (Nat × AV)) (B : Nat) (ops : List Oper) (K : St → Prop) (l : List Oper) (s : St) : Prop := foA P Γ B ops K (foP4 P Γ B ops K) l s
theorem foP5_ok {ops : List Oper} {K : St → Prop} (l : List Oper) (s : St) (h : foP5 P Γ B ops K l s) : AOps P Γ B ops l s K := foA_ok foP4_ok h
def foP6 (P : Program) (Γ : List (Nat × AV)) (B : Nat) (ops : List Oper) (K : St → Prop) (l : List Oper) (s : St) : Prop := foA P Γ B ops K (foP5 P Γ B ops K) l s
theorem foP6_ok {ops : List Oper} {K : St → Prop} (l : List Oper) (s : St) (h : foP6 P Γ B ops K l s) : AOps P Γ B ops l s K := foA_ok foP5_ok h
def foP7 (P : Program) (Γ : List (Nat × AV)) (B : Nat) (ops : List Oper) (K : St → Prop) (l : List Oper) (s : St) : Prop := foA P Γ B ops K (foP6 P Γ B ops K) l s
theorem foP7_ok {ops : List Oper} {K : St → Prop} (l : List Oper) (s : St) (h : foP7 P Γ B ops K l s) : AOps P Γ B ops l s K := foA_ok foP6_ok h
def foP8 (P : Program) (Γ : List (Nat × AV)) (B : Nat) (ops : List Oper) (K : St → Prop) (l : List Oper) (s : St) : Prop := foA P Γ B ops K (foP7 P Γ B ops K) l s
theorem foP8_ok {ops : List Oper} {K : St → Prop} (l : List Oper) (s : St) (h : foP8 P Γ B ops K l s) : AOps P Γ B ops l s K := foA_ok foP7_ok h
def foP9 (P : Program) (Γ : List (Nat × AV)) (B : Nat) (ops : List Oper) (K : St → Prop) (l : List Oper) (s : St) : Prop := foA P Γ B ops K (foP8 P Γ B ops K) l s
theorem foP9_ok {ops : List Oper} {K : St → Prop} (l : List Oper) (s : St) (h : foP9 P Γ B ops K l s) : AOps P Γ B ops l s K := foA_ok foP8_ok h
def foP10 (P : Program) (Γ : List (Nat × AV)) (B : Nat) (ops : List Oper) (K : St → Prop) (l : List Oper) (s : St) : Prop := foA P Γ B ops K (foP9 P Γ B ops K) l s
theorem foP10_ok {ops : List Oper} {K : St → Prop} (l : List Oper) (s : St) (h : foP10 P Γ B ops K l s) : AOps P Γ B ops l s K := foA_ok foP9_ok h
theorem AOps.many {ops l : List Oper} {s : St} {K : St → Prop} (h : foP10 P Γ B ops K l s) : AOps P Γ B ops l s K := foP10_ok l s h
def fwP0 (P : Program) (Γ : List (Nat × AV)) (B : Nat) (c : Code) (s : St) (Q : Exit → St → Prop) : Prop := AWp P Γ B c s Q
theorem fwP0_ok (c : Code) (s : St) (Q : Exit → St → Prop) (h : fwP0 P Γ B c s Q) : AWp P Γ B c s Q := h
def fwP1 (P : Program) (Γ : List (Nat × AV)) (B : Nat) (c : Code) (s : St) (Q : Exit → St → Prop) : Prop := fwA P Γ B (fwP0 P Γ B) c s Q
theorem fwP1_ok (c : Code) (s : St) (Q : Exit → St → Prop) (h : fwP1 P Γ B c s Q) : AWp P Γ B c s Q := fwA_ok fwP0_ok h
def fwP2 (P : Program) (Γ : List (Nat × AV)) (B : Nat) (c : Code) (s : St) (Q : Exit → St → Prop) : Prop := fwA P Γ B (fwP1 P Γ B) c s Q
theorem fwP2_ok (c : Code) (s : St) (Q : Exit → St → Prop) (h : fwP2 P Γ B c s Q) : AWp P Γ B c s Q := fwA_ok fwP1_ok h
def fwP3 (P : Program) (Γ : List (Nat × AV)) (B : Nat) (c : Code) (s : St) (Q : Exit → St → Prop) : Prop := fwA P Γ B (fwP2 P Γ B) c s Q
theorem fwP3_ok (c : Code) (s : St) (Q : Exit → St → Prop) (h : fwP3 P Γ B c s Q) : AWp P Γ B c s Q := fwA_ok fwP2_ok h
def fwP4 (P : Program) (Γ : List (Nat × AV)) (B : Nat) (c : Code) (s : St) (Q : Exit → St → Prop) : Prop := fwA P Γ B (fwP3 P Γ B) c s Q
theorem fwP4_ok (c : Code) (s : St) (Q : Exit → St → Prop) (h : fwP4 P Γ B c s Q) : AWp P Γ B c s Q := fwA_ok fwP3_ok h
def fwP5 (P : Program) (Γ : List (Nat × AV)) (B : Nat) (c : Code) (s : St) (Q : Exit → St → Prop) : Prop := fwA P Γ B (fwP4 P Γ B) c s Q
theorem fwP5_ok (c : Code) (s : St) (Q : Exit → St → Prop) (h : fwP5 P Γ B c s Q) : AWp P Γ B c s Q := fwA_ok fwP4_ok h
def fwP6 (P : Program) (Γ : List (Nat × AV)) (B : Nat) (c : Code) (s : St) (Q : Exit → St → Prop) : Prop := fwA P Γ B (fwP5 P Γ B) c s Q
theorem fwP6_ok (c : Code) (s : St) (Q : Exit → St → Prop) (h : fwP6 P Γ B c s Q) : AWp P Γ B c s Q := fwA_ok fwP5_ok h
def fwP7 (P : Program) (Γ : List (Nat × AV)) (B : Nat) (c : Code) (s : St) (Q : Exit → St → Prop) : Prop := fwA P Γ B (fwP6 P Γ B) c s Q
theorem fwP7_ok (c : Code) (s : St) (Q : Exit → St → Prop) (h : fwP7 P Γ B c s Q) : AWp P Γ B c s Q := fwA_ok fwP6_ok h
def fwP8 (P : Program) (Γ : List (Nat × AV)) (B : Nat) (c : Code) (s : St) (Q : Exit → St → Prop) : Prop := fwA P Γ B (fwP7 P Γ B) c s Q
theorem fwP8_ok (c : Code) (s : St) (Q : Exit → St → Prop) (h : fwP8 P Γ B c s Q) : AWp P Γ B c s Q := fwA_ok fwP7_ok h
theorem AWp.many {c : Code} {s : St} {Q : Exit → St → Prop} (h : fwP8 P Γ B c s Q) : AWp P Γ B c s Q := fwP8_ok c s Q h
class XG (p : Prop) (q : outParam Prop) : Prop where
 h : q → p
instance {c : Code} {s : St} {Q : Exit → St → Prop} : XG (AWp P Γ B c s Q) (fwP8 P Γ B c s Q) := ⟨AWp.many⟩
instance {ops l : List Oper} {s : St} {K : St → Prop} : XG (AOps P Γ B ops l s K) (foP10 P Γ B ops K l s) := ⟨AOps.many⟩
instance {ops : List Oper} {tr : List (List Nat)} {base : Nat} {K : St → Prop} {l : List Nat} {recs : List Rec} {s : St} : XG (ADr P Γ B ops tr base K l recs s) (fd1 P Γ B ops tr base K l recs s) := ⟨ADr.go⟩
theorem Xg {p q : Prop} [i : XG p q] (x : q) : p := i.h x
end
end Go.Ax
namespace Go.Ax
open Go
def inL (i : Nat) : List Nat → Bool
 | [] => false
 | j :: r => match Nat.beq j i with
  | true => true
  | false => inL i r
def pickM (ids : List Nat) : Mem → Mem
 | [] => []
 | (k, b) :: r => match inL k ids with
  | true => (k, b) :: pickM ids r
  | false => pickM ids r
def dropM (ids : List Nat) : Mem → Mem
 | [] => []
 | (k, b) :: r => match inL k ids with
  | true => dropM ids r
  | false => (k, b) :: dropM ids r
def idS : List Nat → List (Nat × Nat)
 | [] => []
 | i :: r => (i, i) :: idS r
def allLt (n : Nat) : List Nat → Bool
 | [] => true
 | i :: r => Nat.blt i n && allLt n r
def keysIn (ids : List Nat) : Mem → Bool
 | [] => true
 | (k, _) :: r => inL k ids && keysIn ids r
theorem pickM_mem {ids : List Nat} : ∀ {m : Mem} {p : Nat × AB}, p ∈ pickM ids m ↔ p ∈ m ∧ inL p.1 ids = true
 | [], p => by simp [pickM]
 | (k, b) :: r, p => by
  simp only [pickM]
  split
  ·rename_i h
   rw [List.mem_cons, pickM_mem (m := r), List.mem_cons]
   constructor
   ·rintro (rfl | ⟨h1, h2⟩)
    ·exact ⟨.inl rfl, h⟩
    ·exact ⟨.inr h1, h2⟩
   ·rintro ⟨rfl | h1, h2⟩
    ·exact .inl rfl
    ·exact .inr ⟨h1, h2⟩
  ·rename_i h
   rw [pickM_mem (m := r), List.mem_cons]
   constructor
   ·rintro ⟨h1, h2⟩; exact ⟨.inr h1, h2⟩
   ·rintro ⟨rfl | h1, h2⟩
    ·rw [h] at h2; cases h2
    ·exact ⟨h1, h2⟩
theorem dropM_mem {ids : List Nat} : ∀ {m : Mem} {p : Nat × AB}, p ∈ dropM ids m ↔ p ∈ m ∧ inL p.1 ids = false
 | [], p => by simp [dropM]
 | (k, b) :: r, p => by
  simp only [dropM]
  split
  ·rename_i h
   rw [dropM_mem (m := r), List.mem_cons]
   constructor
   ·rintro ⟨h1, h2⟩; exact ⟨.inr h1, h2⟩
   ·rintro ⟨rfl | h1, h2⟩
    ·rw [h] at h2; cases h2
    ·exact ⟨h1, h2⟩
  ·rename_i h
   rw [List.mem_cons, dropM_mem (m := r), List.mem_cons]
   constructor
   ·rintro (rfl | ⟨h1, h2⟩)
    ·exact ⟨.inl rfl, h⟩
    ·exact ⟨.inr h1, h2⟩
   ·rintro ⟨rfl | h1, h2⟩
    ·exact .inl rfl
    ·exact .inr ⟨h1, h2⟩
theorem pickM_sub {ids : List Nat} : ∀ (m : Mem), (pickM ids m).Sublist m
 | [] => by simp [pickM]
 | (k, b) :: r => by
  simp only [pickM]
  split
  ·exact (pickM_sub r).cons_cons _
  ·exact (pickM_sub r).cons _
theorem dropM_sub {ids : List Nat} : ∀ (m : Mem), (dropM ids m).Sublist m
 | [] => by simp [dropM]
 | (k, b) :: r => by
  simp only [dropM]
  split
  ·exact (dropM_sub r).cons _
  ·exact (dropM_sub r).cons_cons _
theorem idS_lk : ∀ {ids : List Nat} {i j : Nat}, lk (idS ids) i = some j → i = j ∧ inL i ids = true
 | [], i, j, h => by simp [idS, lk] at h
 | k :: r, i, j, h => by
  simp only [idS, lk] at h
  split at h
  ·rename_i e
   cases h
   exact ⟨(Nat.eq_of_beq_eq_true e).symm, by simp only [inL, e]⟩
  ·rename_i e
   obtain ⟨h1, h2⟩ := idS_lk h
   exact ⟨h1, by simp only [inL, e]; exact h2⟩
theorem lk_idS : ∀ {ids : List Nat} {i : Nat}, inL i ids = true → lk (idS ids) i = some i
 | [], i, h => by simp [inL] at h
 | k :: r, i, h => by
  simp only [inL] at h
  simp only [idS, lk]
  split at h
  ·rename_i e; rw [e, Nat.eq_of_beq_eq_true e]
  ·rename_i e; rw [e]; exact lk_idS h
theorem allLt_sound : ∀ {ids : List Nat} {n i : Nat}, allLt n ids = true → inL i ids = true → i < n
 | [], n, i, _, h => by simp [inL] at h
 | k :: r, n, i, h1, h => by
  simp only [allLt, Bool.and_eq_true] at h1
  simp only [inL] at h
  split at h
  ·rename_i e; rw [← Nat.eq_of_beq_eq_true e]; exact Nat.le_of_ble_eq_true h1.1
  ·exact allLt_sound h1.2 h
theorem keysIn_sound : ∀ {m : Mem} {ids : List Nat}, keysIn ids m = true → ∀ p ∈ m, inL p.1 ids = true
 | [], ids, _, p, hp => by cases hp
 | (k, b) :: r, ids, h, p, hp => by
  simp only [keysIn, Bool.and_eq_true] at h
  rcases List.mem_cons.1 hp with rfl | hp
  ·exact h.1
  ·exact keysIn_sound h.2 p hp
theorem ACalls.useI {P : Program} {Γ : List (Nat × AV)} {F : FuncId} {args args' : List AV} {ms mem : Mem} {ns nx : Nat} {Qs K : AV → Mem → Nat → Prop} (hΓ : ∀ p ∈ Γ, NN p.2) (ids : List Nat) (h : ACalls P Γ F args' ms ns Qs)
  (hp : pickM ids mem = ms) (hargs : CvL ms (idS ids) args args') (hM : MemConv ms (idS ids) ms) (hc : (nodM ms && allLt ns ids) = true)
  (hk : ∀ r m n, Qs r m n → NN r ∧ MemConv m (idS ids) m ∧ (nodM m && keysIn ids m) = true ∧ K r (m ++ dropM ids mem) nx) : ACalls P Γ F args mem nx K := by
 simp only [Bool.and_eq_true] at hc
 refine ⟨fun X D ρ w vs hD hm hv => ?_⟩
 have hinj : Inj (idS ids) := fun i j k h1 h2 => by
  have a := (idS_lk h1).1
  have b := (idS_lk h2).1
  omega
 refine (ACalls.use (K := K) (nx := nx) hΓ h (idS ids) (m1 := ms) (rest := dropM ids mem) ⟨fun p hp' => ?_, fun p hp' => (dropM_mem.1 hp').1, fun p hp' => ?_, fun p h1 q h2 => ?_, ?_⟩ ?_ hargs hM.cvm (nodM_sound hc.1) hinj (fun id i hl => ?_) ?_).run X D ρ w vs hD hm hv
 ·rw [← hp] at hp'; exact (pickM_mem.1 hp').1
 ·cases hi : inL p.1 ids with
  | true => left; rw [← hp]; exact pickM_mem.2 ⟨hp', hi⟩
  | false => right; exact dropM_mem.2 ⟨hp', hi⟩
 ·rw [← hp] at h1
  have a := (pickM_mem.1 h1).2
  have b := (dropM_mem.1 h2).2
  intro e
  rw [e, b] at a
  cases a
 ·rw [← hp]; exact hm.nod.sublist ((pickM_sub mem).map _)
 ·exact hm.nod.sublist ((dropM_sub mem).map _)
 ·obtain ⟨h1, h2⟩ := idS_lk hl
  rw [← h1]; exact allLt_sound hc.2 h2
 ·intro r m n hq hn
  obtain ⟨h1, h2, h3, h4⟩ := hk r m n hq
  simp only [Bool.and_eq_true] at h3
  refine ⟨idS ids, r, m, nx, Nat.le_refl _, .same r h1, h2.cvm, nodM_sound h3.1, hinj, fun i id hl => ?_, fun p h5 q h6 => ?_, h4⟩
  ·obtain ⟨e1, e2⟩ := idS_lk hl
   subst e1
   exact .inl ⟨allLt_sound hc.2 e2, lk_idS e2⟩
  ·have a := keysIn_sound h3.2 p h5
   have b := (dropM_mem.1 h6).2
   intro e
   rw [e, b] at a
   cases a
def keysS : List (Nat × Nat) → List Nat
 | [] => []
 | (i, _) :: r => i :: keysS r
def invS : List (Nat × Nat) → List (Nat × Nat)
 | [] => []
 | (i, j) :: r => (j, i) :: invS r
def valsLt (n : Nat) : List (Nat × Nat) → Bool
 | [] => true
 | (_, j) :: r => Nat.blt j n && valsLt n r
theorem invS_mem : ∀ {σ : List (Nat × Nat)} {i j : Nat}, (j, i) ∈ invS σ ↔ (i, j) ∈ σ
 | [], i, j => by simp [invS]
 | (a, b) :: r, i, j => by
  simp only [invS, List.mem_cons, invS_mem (σ := r), Prod.mk.injEq]
  constructor
  ·rintro (⟨rfl, rfl⟩ | h)
   ·exact .inl ⟨rfl, rfl⟩
   ·exact .inr h
  ·rintro (⟨rfl, rfl⟩ | h)
   ·exact .inl ⟨rfl, rfl⟩
   ·exact .inr h
theorem lk_of_mem {σ : List (Nat × Nat)} (h : nod2 (invS σ) = true) {i j : Nat} (hm : (i, j) ∈ σ) : lk σ i = some j := by
 induction σ with
 | nil => cases hm
 | cons p r ih =>
  obtain ⟨a, b⟩ := p
  simp only [invS, nod2, Bool.and_eq_true] at h
  simp only [lk]
  rcases List.mem_cons.1 hm with e | hm'
  ·cases e; simp
  ·have hne : a ≠ i := by
    intro e
    subst e
    exact notIn_sound h.1 _ (invS_mem.2 hm') rfl
   rw [nbeq_ne hne]
   exact ih h.2 hm'
theorem valsLt_sound : ∀ {σ : List (Nat × Nat)} {n : Nat}, valsLt n σ = true → ∀ p ∈ σ, p.2 < n
 | [], n, _, p, hp => by cases hp
 | (a, b) :: r, n, h, p, hp => by
  simp only [valsLt, Bool.and_eq_true] at h
  rcases List.mem_cons.1 hp with rfl | hp
  ·exact Nat.le_of_ble_eq_true h.1
  ·exact valsLt_sound h.2 p hp
theorem ACalls.useR {P : Program} {Γ : List (Nat × AV)} {F : FuncId} {args args' : List AV} {ms mem m1 : Mem} {ns nx : Nat} {Qs K : AV → Mem → Nat → Prop} (hΓ : ∀ p ∈ Γ, NN p.2) (σ : List (Nat × Nat)) (h : ACalls P Γ F args' ms ns Qs)
  (hp : pickM (keysS σ) mem = m1) (hargs : CvL m1 σ args args') (hM : MemConv m1 σ ms) (hc : (nodM ms && (nod2 σ && (nod2 (invS σ) && valsLt ns σ))) = true)
  (hk : ∀ r m n, Qs r m n → ∃ m', NN r ∧ MemConv m (invS σ) m' ∧ (nodM m' && keysIn (keysS σ) m') = true ∧ K r (m' ++ dropM (keysS σ) mem) nx) : ACalls P Γ F args mem nx K := by
 simp only [Bool.and_eq_true] at hc
 obtain ⟨hc1, hc2, hc3, hc4⟩ := hc
 refine ⟨fun X D ρ w vs hD hm hv => ?_⟩
 refine (ACalls.use (K := K) (nx := nx) hΓ h σ (m1 := m1) (rest := dropM (keysS σ) mem) ⟨fun p hp' => ?_, fun p hp' => (dropM_mem.1 hp').1, fun p hp' => ?_, fun p h1 q h2 => ?_, ?_⟩ ?_ hargs hM.cvm (nodM_sound hc1) (inj_of hc2) (fun id i hl => valsLt_sound hc4 _ (lk_mem hl)) ?_).run X D ρ w vs hD hm hv
 ·rw [← hp] at hp'; exact (pickM_mem.1 hp').1
 ·cases hi : inL p.1 (keysS σ) with
  | true => left; rw [← hp]; exact pickM_mem.2 ⟨hp', hi⟩
  | false => right; exact dropM_mem.2 ⟨hp', hi⟩
 ·rw [← hp] at h1
  have a := (pickM_mem.1 h1).2
  have b := (dropM_mem.1 h2).2
  intro e
  rw [e, b] at a
  cases a
 ·rw [← hp]; exact hm.nod.sublist ((pickM_sub mem).map _)
 ·exact hm.nod.sublist ((dropM_sub mem).map _)
 ·intro r m n hq hn
  obtain ⟨m', h1, h2, h3, h4⟩ := hk r m n hq
  simp only [Bool.and_eq_true] at h3
  refine ⟨invS σ, r, m', nx, Nat.le_refl _, .same r h1, h2.cvm, nodM_sound h3.1, inj_of hc3, fun i id hl => ?_, fun p h5 q h6 => ?_, h4⟩
  ·have hmem := invS_mem.1 (lk_mem hl)
   exact .inl ⟨valsLt_sound hc4 _ hmem, lk_of_mem hc3 hmem⟩
  ·have a := keysIn_sound h3.2 p h5
   have b := (dropM_mem.1 h6).2
   intro e
   rw [e, b] at a
   cases a
end Go.Ax
namespace Go.Ax
open Go
def Grown (w w' : World) : Prop := w.heap.size ≤ w'.heap.size ∧ (∀ b, b < w.heap.size → w'.heap[b]? = w.heap[b]?) ∧ w'.os = w.os ∧ w'.output = w.output
theorem Grown.refl (w : World) : Grown w w := ⟨Nat.le_refl _, fun _ _ => rfl, rfl, rfl⟩
theorem grown_below {w w' : World} (h : RowKit.Below w.heap.size w w') : Grown w w' := ⟨h.size, h.block, h.os, h.output⟩
theorem grown_bytes (w : World) (e : TypeId) (s : ByteArray) : Grown w (Lib.bytesWorld w e s) :=
 ⟨by rw [Lib.bytesWorld_size]; omega, fun b hb => Lib.bytesWorld_at_old w e s b hb, by
  unfold Lib.bytesWorld World.freeze
  split
  ·rfl
  ·rfl, by
  unfold Lib.bytesWorld World.freeze
  split
  ·rfl
  ·rfl⟩
section
variable {P : Program} {Γ : List (Nat × AV)} {F : FuncId} {args : List AV} {r : AV}
def Knows (Γ : List (Nat × AV)) (w : World) : Prop := ∀ p ∈ Γ, ∀ (j : Nat) (c : AV), p.2.cells[j]? = some c → ∃ x ρ D O, w.cell? ⟨p.1, j, none⟩ = some x ∧ VR ρ D O w c x
theorem MR.knows {X : Nat → Prop} {ρ : Nat → Loc} {D : Nat → Prop} {mem : Mem} {w : World} (hm : MR Γ X ρ D mem w) : Knows Γ w := by
 intro p hp j c hc
 have := hm.glo p hp
 cases this with
 | ip _ _ _ f h1 h2 => exact ⟨f j, ρ, D, _, by have := (h1 j c hc).2.1; rwa [Nat.zero_add] at this, h2 j c hc⟩
theorem pureC_of {vs : List Value} (hargs : ∀ (ρ : Nat → Loc) (D O : Nat → Prop) (w : World) (xs : List Value), VRL ρ D O w args xs → xs = vs)
  (h : ∀ w, Knows Γ w → Calls P F vs.toArray w fun e w' => ∃ x, e = .returned x ∧ (∀ (ρ : Nat → Loc) (D O : Nat → Prop) (w : World), VR ρ D O w r x) ∧ Grown w w') : PureC P Γ F args r := by
 refine ⟨fun X D ρ w xs hD hm hv => ?_⟩
 obtain rfl := hargs _ _ _ _ _ hv
 refine (h w hm.knows).mono ?_
 rintro e w' ⟨x, rfl, hx, g1, g2, g3, g4⟩
 obtain ⟨m1, ext⟩ := hm.still g1 g2 ⟨g3, g4⟩
 have hsub : ∀ i, D i → dn D 0 0 i := fun i hi => .inl hi
 exact ⟨r, x, [], 0, ρ, rfl, ⟨rfl, rfl, rfl⟩, Nat.le_refl _, (m1.widen hsub).1, hx _ _ _ _, (ext D fun i hi => hi).wide hsub⟩
theorem vrl_int {ρ : Nat → Loc} {D O : Nat → Prop} {w : World} {xs : List Value} {k : IntKind} {n : Int} (h : VRL ρ D O w [.int k n] xs) : xs = [.int k n] := by
 obtain ⟨hl, hv⟩ := h
 match xs, hl with
 | [x], _ =>
  have := hv 0 _ x rfl rfl
  cases this
  rfl
theorem vrl_str {ρ : Nat → Loc} {D O : Nat → Prop} {w : World} {xs : List Value} {s : List UInt8} (h : VRL ρ D O w [.str s] xs) : xs = [.string ⟨s.toArray⟩] := by
 obtain ⟨hl, hv⟩ := h
 match xs, hl with
 | [x], _ =>
  have := hv 0 _ x rfl rfl
  cases this
  rfl
end
def encB (l : List UInt8) : List AV := l.map fun b => .int .u8 (b.toNat : Int)
theorem encB_nn (l : List UInt8) : NNs (encB l) := fun a ha => by
 obtain ⟨n, _, rfl⟩ := List.mem_map.1 ha
 exact .int _ _
theorem encB_get (l : List UInt8) (i : Nat) : (encB l)[i]? = (l[i]?).map fun b => .int .u8 (b.toNat : Int) := by rw [encB, List.getElem?_map]
theorem encB_length (l : List UInt8) : (encB l).length = l.length := by rw [encB, List.length_map]
theorem encB_take (l : List UInt8) (k : Nat) : (encB l).take k = encB (l.take k) := by rw [encB, encB, List.map_take]
theorem encB_drop (l : List UInt8) (k : Nat) : (encB l).drop k = encB (l.drop k) := by rw [encB, encB, List.map_drop]
theorem encB_append (l m : List UInt8) : encB (l ++ m) = encB l ++ encB m := by rw [encB, encB, encB, List.map_append]
theorem toBytes_encB : ∀ l : List UInt8, toBytes (encB l) = some l
 | [] => rfl
 | b :: r => by
  show toBytes (AV.int .u8 (b.toNat : Int) :: encB r) = _
  simp only [toBytes, toBytes_encB r]
  simp
theorem fmt10 {P : Program} {F : FuncId} {t : TypeId}
  (hF : ∀ (blk off cap : Nat) (u : Nat) (d : Array UInt8) (w : World), Sort.Holds (fun (b : UInt8) => Value.int .u8 (b.toNat : Int)) w blk off d → u < 10 ^ d.size → u < 18446744073709551616 → d.size < 4611686018427387904 →
   Calls P F #[.slice (some ⟨blk, off, none⟩) d.size cap, .int .u64 u] w fun e w' =>
    e = .returned (.tuple #[]) ∧ ∃ (n v' : Nat) (dk : Array UInt8), w' = (Sort.putRow (fun (b : UInt8) => Value.int .u8 (b.toNat : Int)) w blk off dk).drewN n ∧ Lib.FmtInv d.size u 0 v' dk)
  (xs : List UInt8) (u : Nat) (hu64 : u < 18446744073709551616) (hlen : 1 + Lib.nDigits u ≤ xs.length) (hxl : xs.length ≤ 1000) :
  ACalls P [] F [.sl 0 1 (Lib.nDigits u), .int .u64 u] [(0, .row t 1 (encB xs))] 1 fun r m n => r = .tup [] ∧ m = [(0, .row t 1 (encB (xs.take 1 ++ Lib.decDigits u ++ xs.drop (1 + Lib.nDigits u))))] := by
 have hpos := Lib.nDigits_pos u
 refine ⟨fun X D ρ w vs hD hm hv => ?_⟩
 obtain ⟨hl, hv⟩ := hv
 match vs, hl with
 | [s, x], _ =>
  have v0 := hv 0 _ s rfl rfl
  have v1 := hv 1 _ x rfl rfl
  cases v1
  have hid : lk [(0, AB.row t 1 (encB xs))] 0 = some (.row t 1 (encB xs)) := rfl
  have hsz := row_sz hm hid
  have hn : 0 < (ρ 0).n := by
   rcases Nat.eq_zero_or_pos (ρ 0).n with h0 | h0
   ·obtain ⟨t', sz', e1, _⟩ := hm.emp _ (lk_mem hid) h0
    injection e1 with _ _ e2
    have : (encB xs).length = 0 := by rw [e2]; rfl
    rw [encB_length] at this
    omega
   ·exact h0
  obtain ⟨o, ho, hsz', arr, fr, rfl, hf, hs, hle, hrow⟩ := hm.blk _ (lk_mem hid) hn
  simp only at ho hsz' hs hle hrow
  rw [hsz] at hrow hle
  rw [encB_length, Nat.mul_one] at hle
  have hcell : ∀ (i : Nat) (b : UInt8), xs[i]? = some b → arr[i]? = some (Value.int .u8 (b.toNat : Int)) := by
   intro i b hb
   obtain ⟨v, hv, _, hr⟩ := (hrow i (.int .u8 (b.toNat : Int)) (by rw [encB_get, hb]; rfl)).2 0 _ rfl
   cases hr
   simpa using hv
  obtain ⟨nd, hnd⟩ : ∃ nd, nd = Lib.nDigits u := ⟨_, rfl⟩
  rw [← hnd] at hpos hlen v0 ⊢
  have hso : ∃ cap, s = .slice (some ⟨(ρ 0).b, 1, none⟩) nd cap := by
   cases v0 with
   | sl _ _ _ cap _ h1 h2 => exact ⟨cap, by rw [hsz]⟩
   | slz => omega
   | slzn => omega
  obtain ⟨cap, rfl⟩ := hso
  have hds : (((xs.drop 1).take nd).toArray).size = nd := by simp; omega
  have hH : Sort.Holds (fun (b : UInt8) => Value.int .u8 (b.toNat : Int)) w (ρ 0).b 1 ((xs.drop 1).take nd).toArray := by
   intro j hj
   rw [hds] at hj
   have hx : xs[1 + j]? = some xs[1 + j] := List.getElem?_eq_getElem (by omega)
   have hd : (((xs.drop 1).take nd).toArray)[j]! = xs[1 + j] := by
    rw [getElem!_pos _ j (by omega)]
    simp [Nat.add_comm]
   constructor
   ·simp only [World.cell?, ho, hd]
    exact hcell _ _ hx
   ·simp only [World.frozen?, ho]
    have := hf (1 + j) (by omega)
    obtain ⟨a, b⟩ := fr
    simp only at this ⊢
    rw [Bool.and_eq_false_iff]
    simp
    omega
  have hcall := hF (ρ 0).b 1 cap u _ w hH (by rw [hds, hnd]; exact Lib.lt_pow_nDigits u) hu64 (by rw [hds]; omega)
  rw [hds] at hcall
  refine hcall.mono ?_
  rintro e w' ⟨rfl, n, v', dk, rfl, hinv⟩
  have hdk : dk.size = nd := hinv.size
  have hdig : (Lib.decDigits u).length = nd := by rw [Lib.decDigits_length, hnd]
  rw [hnd] at hinv
  have hat := fun j hj => Lib.row_is_numeral hinv j hj
  obtain ⟨m1, mv, ext⟩ := hm.change (w' := (Sort.putRow (fun (b : UInt8) => Value.int .u8 (b.toNat : Int)) w (ρ 0).b 1 dk).drewN n) (xs' := encB (xs.take 1 ++ Lib.decDigits u ++ xs.drop (1 + nd))) (arr := Sort.putCells (fun (b : UInt8) => Value.int .u8 (b.toNat : Int)) 1 dk arr) (fr := fr) hid hn
   (by
    apply Array.ext_getElem?
    intro k
    show (w.heap.modify (ρ 0).b (Sort.onCells _))[k]? = _
    have hlt := own_lt hm (.inr ⟨_, lk_mem hid, hn, rfl⟩)
    simp only at hlt
    rw [Array.getElem?_modify, Array.getElem?_setIfInBounds]
    by_cases hk : (ρ 0).b = k
    ·subst hk
     rw [if_pos rfl, if_pos rfl, if_pos hlt, ho]
     rfl
    ·rw [if_neg hk, if_neg hk]) ⟨rfl, rfl⟩ (fun j hj => hf j (by simpa [Sort.putCells] using hj)) (by rw [← hs]; simp [Sort.putCells])
   (by
    refine ⟨?_, fun i x hi => ?_⟩
    ·rw [encB_length]
     simp [Sort.putCells, hdig]
     omega
    ·rw [encB_get] at hi
     obtain ⟨b, hb, rfl⟩ := Option.map_eq_some_iff.1 hi
     refine ⟨rfl, fun j c hj => ?_⟩
     cases j with
     | succ j => simp [AV.cells] at hj
     | zero =>
      simp [AV.cells] at hj
      subst hj
      refine ⟨.int .u8 (b.toNat : Int), ?_, rfl, .int _ _⟩
      simp only [Nat.mul_one, Nat.add_zero, Sort.putCells, Array.getElem?_mapIdx]
      have hil : i < xs.length := by
       have := (List.getElem?_eq_some_iff.1 hb).1
       simp [hdig] at this
       omega
      have hia : arr[i]? = some (.int .u8 (xs[i].toNat : Int)) := hcell i _ (List.getElem?_eq_getElem hil)
      rw [hia, Option.map_some]
      congr 1
      rw [List.append_assoc, List.getElem?_append] at hb
      have htl : (xs.take 1).length = 1 := by simp; omega
      rw [htl] at hb
      by_cases h1 : i < 1
      ·rw [if_pos h1, List.getElem?_take, if_pos h1, List.getElem?_eq_getElem hil] at hb
       rw [if_neg (by omega), Option.some.inj hb]
      ·rw [if_neg h1, List.getElem?_append, hdig] at hb
       by_cases h2 : i - 1 < nd
       ·rw [if_pos h2, List.getElem?_eq_getElem (by omega)] at hb
        rw [if_pos (by omega), ← hat (i - 1) (by omega), Option.some.inj hb]
       ·rw [if_neg h2, List.getElem?_drop] at hb
        have e : 1 + nd + (i - 1 - nd) = i := by omega
        rw [e, List.getElem?_eq_getElem hil] at hb
        rw [if_neg (by omega), Option.some.inj hb])
  have hsub : ∀ i, D i → dn D 1 1 i := fun i hi => .inl hi
  exact ⟨.tup [], .tuple #[], _, 1, ρ, rfl, ⟨rfl, by simp [up]⟩, Nat.le_refl _, (m1.widen hsub).1, .tup [] #[] rfl (by simp), (ext D fun i hi => hi).wide hsub⟩
end Go.Ax
namespace Go.Ax
open Go Go.RowKit
theorem vr_tab_var {P : Program} {w : World} {n : String} {g : Nat} {k : IntKind} {zs : List Int} (hg : P.globalNamed n = some g) (hv : Lib.TabIs P w n k zs) :
  VR (fun _ => ⟨0, 0, 0⟩) (fun _ => False) (OX (fun _ => False) (fun _ => ⟨0, 0, 0⟩) []) w (.ip (.agg (zs.map fun z => AV.int k z))) (.pointer (some ⟨g, 0, none⟩)) := by
 refine .ip _ g 0 (fun j => .int k (zs.getD j 0)) (fun j c hj => ?_) (fun j c hj => ?_)
 ·have hj0 : j < zs.length := by have := (List.getElem?_eq_some_iff.1 hj).1; simpa [AV.cells] using this
  exact ⟨not_ox _ _, by simpa using hv.cell hg j hj0, rfl⟩
 ·have hj0 : j < zs.length := by have := (List.getElem?_eq_some_iff.1 hj).1; simpa [AV.cells] using this
  simp [AV.cells, List.getElem?_map, List.getElem?_eq_getElem hj0] at hj
  subst hj
  simp [List.getD_eq_getElem?_getD, List.getElem?_eq_getElem hj0]
  exact .int _ _
end Go.Ax
namespace Go.Ax
open Go
mutual
def sizeV : Val → Nat
 | .mk _ _ _ kids => 1 + sizeL kids
def sizeL : List Val → Nat
 | [] => 0
 | v :: r => sizeV v + sizeL r
end
mutual
def depthV : Val → Nat
 | .mk _ _ _ kids => depthL kids + 1
def depthL : List Val → Nat
 | [] => 0
 | v :: r => max (depthV v) (depthL r)
end
theorem sizeL_snoc : ∀ (l : List Val) (v : Val), sizeL (l ++ [v]) = sizeL l + sizeV v
 | [], v => by simp [sizeL]
 | a :: r, v => by simp only [List.cons_append, sizeL, sizeL_snoc r v]; omega
theorem sizeL_append : ∀ (l m : List Val), sizeL (l ++ m) = sizeL l + sizeL m
 | [], v => by simp [sizeL]
 | a :: r, v => by simp only [List.cons_append, sizeL, sizeL_append r v]; omega
theorem depthL_snoc : ∀ (l : List Val) (v : Val), depthL (l ++ [v]) = max (depthL l) (depthV v)
 | [], v => by simp [depthL]
 | a :: r, v => by simp only [List.cons_append, depthL, depthL_snoc r v]; omega
theorem sizeV_pos : ∀ v : Val, 1 ≤ sizeV v
 | .mk _ _ _ kids => by simp only [sizeV]; omega
theorem sizeL_take {l : List Val} {k : Nat} (h : k < l.length) : sizeL (l.take (k + 1)) = sizeL (l.take k) + sizeV l[k] := by
 rw [List.take_succ_eq_append_getElem h, sizeL_snoc]
theorem depthL_take {l : List Val} {k : Nat} (h : k < l.length) : depthL (l.take (k + 1)) = max (depthL (l.take k)) (depthV l[k]) := by
 rw [List.take_succ_eq_append_getElem h, depthL_snoc]
theorem sizeL_take_le (l : List Val) (k : Nat) : sizeL (l.take k) ≤ sizeL l := by
 have := sizeL_append (l.take k) (l.drop k)
 rw [List.take_append_drop] at this
 omega
theorem sizeV_mem {l : List Val} {v : Val} (h : v ∈ l) : sizeV v ≤ sizeL l := by
 induction l with
 | nil => cases h
 | cons a r ih =>
  simp only [sizeL]
  rcases List.mem_cons.1 h with rfl | h
  ·omega
  ·have := ih h; omega
theorem sizeL_len (l : List Val) : l.length ≤ sizeL l := by
 induction l with
 | nil => simp
 | cons a r ih => simp only [sizeL, List.length_cons]; have := sizeV_pos a; omega
mutual
theorem depth_le_size : ∀ v : Val, depthV v ≤ sizeV v
 | .mk _ _ _ kids => by simp only [depthV, sizeV]; have := depthL_le_size kids; omega
theorem depthL_le_size : ∀ l : List Val, depthL l ≤ sizeL l
 | [] => by simp [depthL]
 | v :: r => by simp only [depthL, sizeL]; have := depth_le_size v; have := depthL_le_size r; omega
end
def inNm (c : Int) : Bool := (decide (97 ≤ c) && decide (c ≤ 122)) || (decide (65 ≤ c) && decide (c ≤ 90)) || (decide (48 ≤ c) && decide (c ≤ 57)) || decide (c = 95)
def upper (c : Int) : Bool := decide (65 ≤ c) && decide (c ≤ 90)
def capital : List UInt8 → Bool
 | [] => false
 | c :: r => decide (r.length < 16) && upper c.toNat && r.all fun c => inNm c.toNat
theorem upper_in {c : Int} (h : upper c = true) : inNm c = true := by
 simp [upper, inNm] at *
 omega
def formed1 (k n : Int) (s : List UInt8) (len : Nat) : Bool :=
 if k = 0 then decide (s = []) && decide (len = 0)
 else if k = 1 then (decide (n = 0) || decide (n = 1)) && decide (s = []) && decide (len = 0)
 else if k = 2 then decide (n = 0) && decide (s = [])
 else if k = 3 then decide (n = 0) && capital s
 else false
def fits1 (k : Int) (len : Nat) : Bool := decide (len ≤ 256) && (decide (k ≠ 3) || decide (len ≤ 16))
mutual
def formedV : Val → Bool
 | .mk k n s kids => formed1 k n s kids.length && formedL kids
def formedL : List Val → Bool
 | [] => true
 | v :: r => formedV v && formedL r
end
mutual
def fitsV : Val → Bool
 | .mk k _ _ kids => fits1 k kids.length && fitsL kids
def fitsL : List Val → Bool
 | [] => true
 | v :: r => fitsV v && fitsL r
end
def wide1 (k : Int) (len : Nat) : Bool := (decide (k = 2) && decide (256 < len)) || (decide (k = 3) && decide (16 < len))
mutual
def wideV : Val → Bool
 | .mk k _ _ kids => wide1 k kids.length || wideL kids
def wideL : List Val → Bool
 | [] => false
 | v :: r => wideV v || wideL r
end
theorem wide_fits1 {k n : Int} {s : List UInt8} {len : Nat} (h : formed1 k n s len = true) : wide1 k len = !fits1 k len := by
 rw [Bool.eq_iff_iff]
 unfold formed1 at h
 simp only [wide1, fits1, Bool.or_eq_true, Bool.and_eq_true, decide_eq_true_eq, Bool.not_eq_true', Bool.and_eq_false_iff, Bool.or_eq_false_iff, decide_eq_false_iff_not]
 repeat' split at h
 all_goals simp at h
 all_goals omega
mutual
theorem wide_fits : ∀ v : Val, formedV v = true → wideV v = !fitsV v
 | .mk k n s kids, h => by
  simp only [formedV, Bool.and_eq_true] at h
  rw [wideV, fitsV, wide_fits1 h.1, wideL_fits kids h.2, Bool.not_and]
theorem wideL_fits : ∀ l : List Val, formedL l = true → wideL l = !fitsL l
 | [], _ => rfl
 | v :: r, h => by
  simp only [formedL, Bool.and_eq_true] at h
  rw [wideL, fitsL, wide_fits v h.1, wideL_fits r h.2, Bool.not_and]
end
def validV (v : Val) : Int := if formedV v = false then 1 else if wideV v = true ∨ 1024 < sizeV v then 4 else 0
theorem formedL_take {l : List Val} {k : Nat} (h : k < l.length) : formedL (l.take (k + 1)) = (formedL (l.take k) && formedV l[k]) := by
 rw [List.take_succ_eq_append_getElem h]
 generalize l.take k = m
 induction m with
 | nil => simp [formedL]
 | cons a r ih => simp only [List.cons_append, formedL, ih, Bool.and_assoc]
theorem wideL_take {l : List Val} {k : Nat} (h : k < l.length) : wideL (l.take (k + 1)) = (wideL (l.take k) || wideV l[k]) := by
 rw [List.take_succ_eq_append_getElem h]
 generalize l.take k = m
 induction m with
 | nil => simp [wideL]
 | cons a r ih => simp only [List.cons_append, wideL, ih, Bool.or_assoc]
theorem formedL_mem : ∀ {l : List Val} {v : Val}, v ∈ l → formedV v = false → formedL l = false
 | a :: r, v, h, hf => by
  simp only [formedL]
  rcases List.mem_cons.1 h with rfl | h
  ·rw [hf]; rfl
  ·rw [formedL_mem h hf]; simp
theorem wideL_mem : ∀ {l : List Val} {v : Val}, v ∈ l → wideV v = true → wideL l = true
 | a :: r, v, h, hf => by
  simp only [wideL]
  rcases List.mem_cons.1 h with rfl | h
  ·rw [hf]; rfl
  ·rw [wideL_mem h hf]; simp
mutual
def visS {S : Type} (st : S → Val → Nat → Bool × S) : Val → Nat → S → Bool × S
 | .mk k n s kids, d, x => match st x (.mk k n s kids) d with
  | (false, y) => (false, y)
  | (true, y) => visL st kids (d + 1) y
def visL {S : Type} (st : S → Val → Nat → Bool × S) : List Val → Nat → S → Bool × S
 | [], _, x => (true, x)
 | v :: r, d, x => match visS st v d x with
  | (false, y) => (false, y)
  | (true, y) => visL st r d y
end
def stValid (x : Nat × Bool × Bool) (v : Val) (_ : Nat) : Bool × (Nat × Bool × Bool) :=
 match v with
 | .mk k n s kids => (x.2.1 && formed1 k n s kids.length, (x.1 + 1, x.2.1 && formed1 k n s kids.length, x.2.2 && fits1 k kids.length))
mutual
theorem vis_valid : ∀ (v : Val) (d n : Nat) (sm : Bool), ∃ n', visS stValid v d (n, true, sm) = (formedV v, (n', formedV v, if formedV v then sm && fitsV v else (visS stValid v d (n, true, sm)).2.2.2)) ∧ n' ≤ n + sizeV v ∧ (formedV v = true → n' = n + sizeV v)
 | .mk k m s kids, d, n, sm => by
  cases hf : formed1 k m s kids.length with
  | false =>
   refine ⟨n + 1, ?_, by simp only [sizeV]; omega, fun h => ?_⟩
   ·simp only [visS, stValid, hf, Bool.and_false, formedV, Bool.false_and, Bool.false_eq_true, if_false]
   ·simp [formedV, hf] at h
  | true =>
   obtain ⟨n', h1, h2, h3⟩ := visL_valid kids (d + 1) (n + 1) (sm && fits1 k kids.length)
   refine ⟨n', ?_, by simp only [sizeV]; omega, fun h => ?_⟩
   ·simp only [visS, stValid, hf, Bool.and_true, formedV, Bool.true_and]
    rw [h1]
    cases formedL kids with
    | true => simp [fitsV, Bool.and_assoc]
    | false => simp
   ·simp only [formedV, hf, Bool.true_and] at h
    rw [h3 h]; simp only [sizeV]; omega
theorem visL_valid : ∀ (l : List Val) (d n : Nat) (sm : Bool), ∃ n', visL stValid l d (n, true, sm) = (formedL l, (n', formedL l, if formedL l then sm && fitsL l else (visL stValid l d (n, true, sm)).2.2.2)) ∧ n' ≤ n + sizeL l ∧ (formedL l = true → n' = n + sizeL l)
 | [], d, n, sm => ⟨n, by simp [visL, formedL, fitsL], by simp, fun _ => by simp [sizeL]⟩
 | v :: r, d, n, sm => by
  obtain ⟨n1, h1, h2, h3⟩ := vis_valid v d n sm
  cases hf : formedV v with
  | false =>
   rw [hf] at h1
   refine ⟨n1, ?_, by simp only [sizeL]; omega, fun h => ?_⟩
   ·simp only [visL, formedL, hf, Bool.false_and, Bool.false_eq_true, if_false]
    rw [h1]
   ·simp [formedL, hf] at h
  | true =>
   rw [hf] at h1
   simp only [if_true] at h1
   obtain ⟨n2, g1, g2, g3⟩ := visL_valid r d n1 (sm && fitsV v)
   refine ⟨n2, ?_, by simp only [sizeL]; omega, fun h => ?_⟩
   ·simp only [visL, formedL, hf, Bool.true_and]
    rw [h1]
    simp only
    rw [g1]
    cases formedL r with
    | true => simp [fitsL, Bool.and_assoc]
    | false => simp
   ·simp only [formedL, hf, Bool.true_and] at h
    rw [g3 h, h3 hf]; simp only [sizeL]; omega
end
theorem valid_vis (v : Val) : (match (visS stValid v 1 (0, true, true)).2 with | (n, good, small) => if good = false then (1 : Int) else if small = false ∨ 1024 < n then 4 else 0) = validV v := by
 obtain ⟨n', h1, h2, h3⟩ := vis_valid v 1 0 true
 rw [h1]
 unfold validV
 cases hf : formedV v with
 | false => simp
 | true =>
  rw [wide_fits v hf, h3 hf]
  simp
theorem okV_leaf {k n : Int} (hk : i64 k) (hn : i64 n) : okV (.mk k n [] []) := by
 simp only [okV, okVs]; exact ⟨hk, hn, by simp, by simp, trivial⟩
theorem okV_list {n : Int} {l : List Val} {k : Int} {s : List UInt8} (hk : i64 k) (hn : i64 n) (hs : s.length ≤ 4294967296) (hl : l.length ≤ 4294967296) (h : okVs l) : okV (.mk k n s l) := by
 simp only [okV]; exact ⟨hk, hn, hs, hl, h⟩
theorem sizeL_le {l : List Val} {n : Nat} (h : ∀ v ∈ l, sizeV v ≤ n) : sizeL l ≤ l.length * n := by
 induction l with
 | nil => simp [sizeL]
 | cons a r ih =>
  simp only [sizeL, List.length_cons, Nat.add_mul, Nat.one_mul]
  have h1 := h a (List.mem_cons_self ..)
  have h2 := ih fun v hv => h v (List.mem_cons_of_mem _ hv)
  omega
theorem capital_of {s : List UInt8} {a : UInt8} (h0 : s[0]? = some a) (hl : s.length ≤ 16) (hu : upper a.toNat = true) (hall : ∀ (j : Nat) (c : UInt8), s[j]? = some c → inNm c.toNat = true) : capital s = true := by
 cases s with
 | nil => simp at h0
 | cons b r =>
  simp at h0
  subst h0
  simp only [capital, Bool.and_eq_true, decide_eq_true_eq, List.all_eq_true]
  refine ⟨⟨by simp at hl; omega, hu⟩, fun c hc => ?_⟩
  obtain ⟨j, hj⟩ := List.getElem?_of_mem hc
  exact hall (j + 1) c (by simpa using hj)
theorem capital_nil {s : List UInt8} (h : s.length < 1) : capital s = false := by
 cases s with
 | nil => rfl
 | cons b r => simp at h
theorem capital_long {s : List UInt8} (h : 16 < s.length) : capital s = false := by
 cases s with
 | nil => rfl
 | cons b r => simp only [capital]; simp at h; rw [decide_eq_false (by omega)]; rfl
theorem capital_up {s : List UInt8} {a : UInt8} (h0 : s[0]? = some a) (hu : upper a.toNat = false) : capital s = false := by
 cases s with
 | nil => rfl
 | cons b r => simp at h0; subst h0; simp only [capital]; rw [hu]; simp
theorem capital_in {s : List UInt8} {j : Nat} {c : UInt8} (h : s[j]? = some c) (hc : inNm c.toNat = false) : capital s = false := by
 cases s with
 | nil => rfl
 | cons b r =>
  cases j with
  | zero =>
   simp at h; subst h
   refine capital_up (a := b) rfl ?_
   cases hu : upper b.toNat with
   | false => rfl
   | true => rw [upper_in hu] at hc; cases hc
  | succ j =>
   simp only [capital]
   have : (r.all fun c => inNm c.toNat) = false := by
    rw [Bool.eq_false_iff]
    intro hall
    rw [List.all_eq_true] at hall
    have := hall c (List.mem_of_getElem? (by simpa using h))
    rw [hc] at this
    cases this
   rw [this]; simp
mutual
def resV (g : Nat → Nat → Nat) : Val → Nat → Nat → Nat
 | .mk _ _ _ kids, d, x => resL g kids (d + 1) (g x d)
def resL (g : Nat → Nat → Nat) : List Val → Nat → Nat → Nat
 | [], _, x => x
 | v :: r, d, x => resL g r d (resV g v d x)
end
theorem resL_snoc (g : Nat → Nat → Nat) : ∀ (l : List Val) (v : Val) (d x : Nat), resL g (l ++ [v]) d x = resV g v d (resL g l d x)
 | [], v, d, x => by simp [resL]
 | a :: r, v, d, x => by simp only [List.cons_append, resL]; exact resL_snoc g r v d _
theorem resL_take (g : Nat → Nat → Nat) {l : List Val} {k : Nat} (h : k < l.length) (d x : Nat) : resL g (l.take (k + 1)) d x = resV g l[k] d (resL g (l.take k) d x) := by
 rw [List.take_succ_eq_append_getElem h, resL_snoc]
mutual
theorem resV_le {g : Nat → Nat → Nat} (hg : ∀ n d, g n d ≤ max (n + 1) d) : ∀ (v : Val) (d n : Nat), resV g v d n ≤ max n (d + depthV v) + sizeV v
 | .mk k m s kids, d, n => by
  simp only [resV, depthV, sizeV]
  have h1 := hg n d
  have h2 := resL_le hg kids (d + 1) (g n d)
  omega
theorem resL_le {g : Nat → Nat → Nat} (hg : ∀ n d, g n d ≤ max (n + 1) d) : ∀ (l : List Val) (d n : Nat), resL g l d n ≤ max n (d + depthL l) + sizeL l
 | [], d, n => by simp only [resL]; omega
 | v :: r, d, n => by
  simp only [resL, depthL, sizeL]
  have h1 := resV_le hg v d n
  have h2 := resL_le hg r d (resV g v d n)
  omega
end
mutual
theorem res_size : ∀ (v : Val) (d n : Nat), resV (fun n _ => n + 1) v d n = n + sizeV v
 | .mk k m s kids, d, n => by simp only [resV, sizeV]; rw [resL_size]; omega
theorem resL_size : ∀ (l : List Val) (d n : Nat), resL (fun n _ => n + 1) l d n = n + sizeL l
 | [], d, n => by simp [resL, sizeL]
 | v :: r, d, n => by simp only [resL, sizeL]; rw [res_size, resL_size]; omega
end
theorem visL_snoc {S : Type} (st : S → Val → Nat → Bool × S) : ∀ (l : List Val) (v : Val) (d : Nat) (x : S), visL st (l ++ [v]) d x = match visL st l d x with | (false, y) => (false, y) | (true, y) => visS st v d y
 | [], v, d, x => by
  simp only [List.nil_append, visL]
  cases visS st v d x with | mk b y => cases b <;> rfl
 | a :: r, v, d, x => by
  simp only [List.cons_append, visL]
  cases visS st a d x with
  | mk b y => cases b with
   | false => rfl
   | true => exact visL_snoc st r v d y
theorem visL_take {S : Type} (st : S → Val → Nat → Bool × S) {l : List Val} {k : Nat} (h : k < l.length) (d : Nat) (x y : S) (hx : visL st (l.take k) d x = (true, y)) : visL st (l.take (k + 1)) d x = visS st l[k] d y := by
 rw [List.take_succ_eq_append_getElem h, visL_snoc, hx]
theorem visL_stop {S : Type} (st : S → Val → Nat → Bool × S) : ∀ {l m : List Val} {d : Nat} {x y : S}, visL st l d x = (false, y) → visL st (l ++ m) d x = (false, y)
 | [], m, d, x, y, h => by simp [visL] at h
 | a :: r, m, d, x, y, h => by
  simp only [visL] at h
  simp only [List.cons_append, visL]
  cases he : visS st a d x with
  | mk b z =>
   rw [he] at h
   cases b with
   | false => simpa using h
   | true => exact visL_stop st h
theorem depthL_mem : ∀ {l : List Val} {v : Val}, v ∈ l → depthV v ≤ depthL l
 | a :: r, v, h => by
  simp only [depthL]
  rcases List.mem_cons.1 h with rfl | h
  ·omega
  ·have := depthL_mem h; omega
theorem depthL_append : ∀ (l m : List Val), depthL (l ++ m) = max (depthL l) (depthL m)
 | [], m => by simp [depthL]
 | a :: r, m => by simp only [List.cons_append, depthL, depthL_append r m]; omega
theorem depthL_take_le (l : List Val) (k : Nat) : depthL (l.take k) ≤ depthL l := by
 have := depthL_append (l.take k) (l.drop k)
 rw [List.take_append_drop] at this
 omega
mutual
theorem vis_cnt : ∀ (v : Val) (d : Nat) (x : Nat × Bool × Bool), (visS stValid v d x).2.1 ≤ x.1 + sizeV v
 | .mk k n s kids, d, x => by
  simp only [visS, stValid, sizeV]
  split
  ·rename_i h; simp only [Prod.mk.injEq] at h; rw [← h.2]; simp only; omega
  ·rename_i h; simp only [Prod.mk.injEq] at h; rw [← h.2]
   have := visL_cnt kids (d + 1) (x.1 + 1, x.2.1 && formed1 k n s kids.length, x.2.2 && fits1 k kids.length)
   simp only at this
   omega
theorem visL_cnt : ∀ (l : List Val) (d : Nat) (x : Nat × Bool × Bool), (visL stValid l d x).2.1 ≤ x.1 + sizeL l
 | [], d, x => by simp [visL]
 | v :: r, d, x => by
  simp only [visL, sizeL]
  have h1 := vis_cnt v d x
  split
  ·rename_i y h; rw [h] at h1; simp only at h1 ⊢; omega
  ·rename_i y h; rw [h] at h1; have := visL_cnt r d y; simp only at h1; omega
end
structure Nd where
 kind : Int
 name : List UInt8
 lo : Int
 hi : Int
 weights : List Int
 labels : List (List UInt8)
 values : List Val
 kids : List Int
 value : Val
def encS (l : List (List UInt8)) : List AV := l.map AV.str
def encN (x : Nd) : AV :=
 match x.value with
 | .mk k n s ks => .agg [.int .i64 x.kind, .str x.name, .int .i64 x.lo, .int .i64 x.hi, .il 1 (encI x.weights), .il 1 (encS x.labels), .il 4 (encVs x.values), .il 1 (encI x.kids), .int .i64 k, .int .i64 n, .str s, .il 4 (encVs ks)]
def encNs (l : List Nd) : List AV := l.map encN
theorem encS_nn (l : List (List UInt8)) : NNs (encS l) := fun a ha => by
 obtain ⟨n, _, rfl⟩ := List.mem_map.1 ha
 exact .str _
theorem encS_length (l : List (List UInt8)) : (encS l).length = l.length := by rw [encS, List.length_map]
theorem encS_get (l : List (List UInt8)) (i : Nat) : (encS l)[i]? = (l[i]?).map AV.str := by rw [encS, List.getElem?_map]
theorem encN_nn (x : Nd) : NN (encN x) := by
 unfold encN
 split
 exact .agg' (.cons (.int _ _) (.cons (.str _) (.cons (.int _ _) (.cons (.int _ _) (.cons (.il' (encI_nn _)) (.cons (.il' (encS_nn _)) (.cons (.il' (encVs_nn _)) (.cons (.il' (encI_nn _)) (.cons (.int _ _) (.cons (.int _ _) (.cons (.str _) (.cons (.il' (encVs_nn _)) .nil))))))))))))
theorem encNs_nn (l : List Nd) : NNs (encNs l) := fun a ha => by
 obtain ⟨n, _, rfl⟩ := List.mem_map.1 ha
 exact encN_nn n
theorem encNs_length (l : List Nd) : (encNs l).length = l.length := by rw [encNs, List.length_map]
theorem encNs_get (l : List Nd) (i : Nat) : (encNs l)[i]? = (l[i]?).map encN := by rw [encNs, List.getElem?_map]
structure okN (x : Nd) : Prop where
 kind : i64 x.kind
 name : x.name.length ≤ 4294967296
 lo : i64 x.lo
 hi : i64 x.hi
 weights : x.weights.length ≤ 4294967296
 weightsI : ∀ w ∈ x.weights, i64 w
 labels : x.labels.length ≤ 4294967296
 labelsI : ∀ w ∈ x.labels, w.length ≤ 4294967296
 values : x.values.length ≤ 4294967296
 valuesI : ∀ v ∈ x.values, okV v ∧ sizeV v ≤ 4294967296
 kids : x.kids.length ≤ 4294967296
 kidsI : ∀ k ∈ x.kids, i64 k
 value : okV x.value
 valueS : sizeV x.value ≤ 4294967296
def zeroV : Val → Bool
 | .mk k n s ks => decide (k = 0) && decide (n = 0) && decide (s = []) && decide (ks.length = 0)
def unusedN (x : Nd) : Bool :=
 (decide (x.kind = 0) || zeroV x.value) && (decide (x.kind = 1) || (decide (x.lo = 0) && decide (x.hi = 0))) && (decide (x.kind = 3) || decide (x.name = [])) &&
 (decide (x.kind = 2) || (decide (x.weights.length = 0) && decide (x.labels.length = 0))) && (decide (x.kind = 4) || decide (x.values.length = 0)) && ((decide (x.kind ≠ 0) && decide (x.kind ≠ 1)) || decide (x.kids.length = 0))
def sortedA : List Val → Bool
 | a :: b :: r => decide (cmpV a b < 0) && sortedA (b :: r)
 | _ => true
def kidsIn (i : Int) (l : List Int) : Bool := l.all fun k => decide (0 ≤ k) && decide (k < i)
def formedN (i : Int) (x : Nd) : Bool :=
 unusedN x && (decide (0 ≤ x.kind) && decide (x.kind ≤ 4)) && kidsIn i x.kids &&
 (decide (x.kind ≠ 2) || (decide (1 ≤ x.kids.length) && decide (x.kids.length ≤ 256) && decide (x.weights.length = x.kids.length) && (decide (x.labels.length = 0) || decide (x.labels.length = x.kids.length)))) &&
 (decide (x.kind ≠ 3) || (decide (x.kids.length ≤ 256) && (decide (x.name = []) || (capital x.name && decide (x.kids.length ≤ 16))))) &&
 (decide (x.kind ≠ 4) || decide (x.kids.length = x.values.length + 1)) && sortedA x.values
def numbersN (x : Nd) : Bool :=
 decide (x.lo ≤ x.hi) && decide (-4611686018427387904 ≤ x.lo) && decide (x.hi ≤ 4611686018427387904) && decide (x.hi < x.lo + 1099511627776) && x.weights.all fun w => decide (1 ≤ w) && decide (w ≤ 1000)
def firstE : List Val → Int
 | [] => 0
 | v :: r => if validV v ≠ 0 then validV v else firstE r
def ownN (x : Nd) : List Val := (if x.kind = 0 then [x.value] else []) ++ x.values
def nodeE (i : Int) (x : Nd) : Int :=
 if formedN i x = false then 1 else if firstE (ownN x) ≠ 0 then firstE (ownN x) else if numbersN x = false then 5 else 0
def atI (l : List Int) (k : Int) : Int := l.getD k.toNat 0
def sumK (before kids : List Int) : Int := kids.foldl (fun s k => s + atI before k) 0
def mostK (before kids : List Int) : Int := kids.foldl (fun s k => max s (atI before k)) 0
def armsN (x : Nd) : List Int := if x.kind = 2 then x.kids else x.kids.drop 1
def lenN (before : List Int) (x : Nd) : Int :=
 if x.kind = 0 then 0 else if x.kind = 1 then 1 else if x.kind = 3 then sumK before x.kids else if x.kind = 2 then 1 + mostK before (armsN x) else atI before (x.kids.getD 0 0) + mostK before (armsN x)
def sizN (before : List Int) (x : Nd) : Int :=
 if x.kind = 0 then sizeV x.value else if x.kind = 1 then 1 else if x.kind = 3 then 1 + sumK before x.kids else mostK before (armsN x)
structure Lst where
 vals : List Val
 many : Bool
def madeV (name : List UInt8) (kids : List Val) : Val := if name = [] then .mk 2 0 [] kids else .mk 3 0 name kids
def atL (l : List Lst) (k : Int) : Lst := l.getD k.toNat ⟨[], false⟩
def rangeV (lo hi : Int) : List Val := (List.range (hi + 1 - lo).toNat).map fun i : Nat => .mk 0 (lo + (i : Int)) [] []
def uniStep (before : List Lst) (x : List Val × Bool) (k : Int) : List Val × Bool :=
 (sortV (x.1 ++ (atL before k).vals), x.2 || (atL before k).many || decide (1024 < (sortV (x.1 ++ (atL before k).vals)).length))
def uniL (before : List Lst) (kids : List Int) : Lst :=
 if (kids.foldl (uniStep before) ([], false)).2 then ⟨[], true⟩ else ⟨(kids.foldl (uniStep before) ([], false)).1, false⟩
def rowsX (rows : List (List Val)) (l : List Val) : List (List Val) := rows.flatMap fun r => l.map fun v => r ++ [v]
def rowsL (before : List Lst) : List Int → List (List Val) → Option (List (List Val))
 | [], rows => some rows
 | k :: r, rows => if (atL before k).many = true ∨ 1024 < rows.length * (atL before k).vals.length then none else rowsL before r (rowsX rows (atL before k).vals)
def seqL (before : List Lst) (x : Nd) : Lst :=
 match rowsL before x.kids [[]] with
 | none => ⟨[], true⟩
 | some rows => ⟨sortV (rows.map (madeV x.name)), false⟩
def listN (x : Nd) (before : List Lst) : Lst :=
 if x.kind = 0 then ⟨[x.value], false⟩
 else if x.kind = 1 then (if 1024 ≤ x.hi - x.lo then ⟨[], true⟩ else ⟨rangeV x.lo x.hi, false⟩)
 else if x.kind = 3 then seqL before x
 else uniL before (if x.kind = 4 then x.kids.drop 1 else x.kids)
def listsT (nodes : List Nd) : List Lst := nodes.foldl (fun out x => out ++ [listN x out]) []
def sameVs : List Val → List Val → Bool
 | [], [] => true
 | a :: l, b :: m => decide (cmpV a b = 0) && sameVs l m
 | _, _ => false
def boundE (nodes : List Nd) (x : Nd) : Int :=
 let l := atL (listsT (nodes.take ((x.kids.getD 0 0).toNat + 1))) (x.kids.getD 0 0)
 if l.many = true then 4 else if sameVs l.vals x.values = true then 0 else 1
def stepE (before : List Nd) (ls ss : List Int) (x : Nd) : Int :=
 if nodeE before.length x ≠ 0 then nodeE before.length x
 else if 256 < lenN ls x ∨ 1024 < sizN ss x then 4
 else if x.kind = 4 then boundE before x else 0
def lensT (nodes : List Nd) : List Int := nodes.foldl (fun ls x => ls ++ [lenN ls x]) []
def sizsT (nodes : List Nd) : List Int := nodes.foldl (fun ls x => ls ++ [sizN ls x]) []
def validF : List Nd → List Nd → Int
 | _, [] => 0
 | before, x :: r => if stepE before (lensT before) (sizsT before) x ≠ 0 then stepE before (lensT before) (sizsT before) x else validF (before ++ [x]) r
def validT (nodes : List Nd) : Int := if 4096 < nodes.length then 4 else validF [] nodes
theorem validF_snoc : ∀ (b l : List Nd) (x : Nd), validF b l = 0 → validF b (l ++ [x]) = stepE (b ++ l) (lensT (b ++ l)) (sizsT (b ++ l)) x
 | b, [], x, h => by
  simp only [List.nil_append, validF, List.append_nil]
  split
  ·rfl
  ·rename_i h1; simpa using (Eq.symm (Decidable.not_not.1 h1))
 | b, y :: r, x, h => by
  simp only [List.cons_append, validF] at h ⊢
  split at h
  ·rename_i h1; exact absurd h h1
  ·rename_i h1
   rw [if_neg h1, validF_snoc (b ++ [y]) r x h]
   simp
theorem lensT_snoc (l : List Nd) (x : Nd) : lensT (l ++ [x]) = lensT l ++ [lenN (lensT l) x] := by simp [lensT]
theorem sizsT_snoc (l : List Nd) (x : Nd) : sizsT (l ++ [x]) = sizsT l ++ [sizN (sizsT l) x] := by simp [sizsT]
theorem listsT_snoc (l : List Nd) (x : Nd) : listsT (l ++ [x]) = listsT l ++ [listN x (listsT l)] := by simp [listsT]
def aroundI (n most : Int) : Int := (if n < 0 then -(n + 1) else n).tmod most
def pickI (l : List Int) (i most : Int) : Int := if i < 0 ∨ (l.length : Int) ≤ i then 0 else aroundI (l.getD i.toNat 0) most
theorem aroundI_bound {n most : Int} (h : 1 ≤ most) : 0 ≤ aroundI n most ∧ aroundI n most < most := by
 unfold aroundI
 have h0 : 0 ≤ (if n < 0 then -(n + 1) else n) := by split <;> omega
 exact ⟨Int.tmod_nonneg _ h0, Int.tmod_lt_of_pos _ (by omega)⟩
theorem pickI_bound {l : List Int} {i most : Int} (h : 1 ≤ most) : 0 ≤ pickI l i most ∧ pickI l i most < most := by
 unfold pickI
 split
 ·omega
 ·exact aroundI_bound h
def leafV (k : Int) : Val :=
 if k.tmod 4 = 0 then .mk 0 ((k.tdiv 4).tmod 9 - 4) [] []
 else if k.tmod 4 = 1 then .mk 1 ((k.tdiv 4).tmod 2) [] []
 else if k.tmod 4 = 2 then .mk 3 0 (([[76, 101, 97, 102], [82, 101, 100], [88]] : List (List UInt8)).getD ((k.tdiv 4).tmod 3).toNat []) []
 else .mk 2 0 [] [.mk 0 ((k.tdiv 4).tmod 3) [] []]
def kidI (l : List Int) (i j : Int) : Int :=
 if (pickI l (3 * i + j + 2) 1000000).tmod 3 = 0 then ((pickI l (3 * i + j + 2) 1000000).tdiv 3).tmod i else max 0 (i - 1 - ((pickI l (3 * i + j + 2) 1000000).tdiv 3).tmod 3)
theorem sortedA_of : ∀ {l : List Val}, (∀ (j : Nat) (a b : Val), l[j]? = some a → l[j + 1]? = some b → cmpV a b < 0) → sortedA l = true
 | [], _ => rfl
 | [a], _ => rfl
 | a :: b :: r, h => by
  simp only [sortedA, Bool.and_eq_true, decide_eq_true_eq]
  exact ⟨h 0 a b rfl rfl, sortedA_of fun j x y hx hy => h (j + 1) x y (by simpa using hx) (by simpa using hy)⟩
theorem sortedA_at : ∀ {l : List Val}, sortedA l = true → ∀ (j : Nat) (a b : Val), l[j]? = some a → l[j + 1]? = some b → cmpV a b < 0
 | [], _, j, a, b, h1, h2 => by simp at h1
 | [x], _, j, a, b, h1, h2 => by simp at h2
 | x :: y :: r, h, j, a, b, h1, h2 => by
  simp only [sortedA, Bool.and_eq_true, decide_eq_true_eq] at h
  cases j with
  | zero => simp at h1 h2; subst h1 h2; exact h.1
  | succ j => exact sortedA_at h.2 j a b (by simpa using h1) (by simpa using h2)
theorem kidsIn_iff {i : Int} {l : List Int} : kidsIn i l = true ↔ ∀ (j : Nat) (k : Int), l[j]? = some k → 0 ≤ k ∧ k < i := by
 simp only [kidsIn, List.all_eq_true, Bool.and_eq_true, decide_eq_true_eq]
 constructor
 ·intro h j k hj; exact h k (List.mem_of_getElem? hj)
 ·intro h k hk
  obtain ⟨j, hj⟩ := List.getElem?_of_mem hk
  exact h j k hj
theorem sameVs_len : ∀ {l m : List Val}, l.length ≠ m.length → sameVs l m = false
 | [], [], h => absurd rfl h
 | [], _ :: _, _ => rfl
 | _ :: _, [], _ => rfl
 | a :: l, b :: m, h => by
  rw [sameVs, sameVs_len (l := l) (m := m) (by simpa using h), Bool.and_false]
theorem sumK_take {b l : List Int} {k : Nat} (h : k < l.length) : sumK b (l.take (k + 1)) = sumK b (l.take k) + atI b l[k] := by
 unfold sumK; rw [List.take_succ_eq_append_getElem h, List.foldl_append]; rfl
theorem mostK_take {b l : List Int} {k : Nat} (h : k < l.length) : mostK b (l.take (k + 1)) = max (mostK b (l.take k)) (atI b l[k]) := by
 unfold mostK; rw [List.take_succ_eq_append_getElem h, List.foldl_append]; rfl
theorem mostK_drop {b l : List Int} {k : Nat} (h : k < l.length) (hk : 0 < k) : mostK b ((l.take (k + 1)).drop 1) = max (mostK b ((l.take k).drop 1)) (atI b l[k]) := by
 rw [List.take_succ_eq_append_getElem h, List.drop_append_of_le_length (by simp; omega)]; simp [mostK]
theorem atI_bound {b : List Int} {M : Int} (hM : 0 ≤ M) (h : ∀ x ∈ b, 0 ≤ x ∧ x ≤ M) (q : Int) : 0 ≤ atI b q ∧ atI b q ≤ M := by
 unfold atI
 rw [List.getD_eq_getElem?_getD]
 cases hq : b[q.toNat]? with
 | none => simp; omega
 | some x => exact h x (List.mem_of_getElem? hq)
theorem foldl_sum (b : List Int) : ∀ (l : List Int) (s : Int), l.foldl (fun s k => s + atI b k) s = s + sumK b l
 | [], s => by simp [sumK]
 | a :: r, s => by
  simp only [List.foldl_cons, sumK]
  rw [foldl_sum b r, foldl_sum b r (0 + atI b a)]
  simp [sumK]; omega
theorem sumK_bound {b : List Int} {M : Int} (hM : 0 ≤ M) (h : ∀ x ∈ b, 0 ≤ x ∧ x ≤ M) : ∀ l : List Int, 0 ≤ sumK b l ∧ sumK b l ≤ l.length * M
 | [] => by simp [sumK]
 | a :: r => by
  have h1 := sumK_bound hM h r
  have h2 := atI_bound hM h a
  have e : sumK b (a :: r) = atI b a + sumK b r := by simp only [sumK, List.foldl_cons]; rw [foldl_sum b r]; simp [sumK]
  rw [e]
  simp only [List.length_cons]
  have : ((r.length + 1 : Nat) : Int) * M = r.length * M + M := by rw [Int.natCast_add, Int.add_mul]; simp
  omega
theorem foldl_max (b : List Int) {M : Int} (h : ∀ q, 0 ≤ atI b q ∧ atI b q ≤ M) : ∀ (l : List Int) (s : Int), 0 ≤ s → s ≤ M → 0 ≤ l.foldl (fun s k => max s (atI b k)) s ∧ l.foldl (fun s k => max s (atI b k)) s ≤ M
 | [], s, h1, h2 => ⟨h1, h2⟩
 | a :: r, s, h1, h2 => by
  have := h a
  simp only [List.foldl_cons]
  exact foldl_max b h r (max s (atI b a)) (by omega) (by omega)
theorem mostK_bound {b : List Int} {M : Int} (hM : 0 ≤ M) (h : ∀ x ∈ b, 0 ≤ x ∧ x ≤ M) (l : List Int) : 0 ≤ mostK b l ∧ mostK b l ≤ M :=
 foldl_max b (atI_bound hM h) l 0 (by omega) hM
theorem ACalls.useApp {P : Program} {Γ : List (Nat × AV)} {F : FuncId} {args args' : List AV} {mem : Mem} {nx : Nat} {t : TypeId} {sz : Nat} {xs : List AV} {R : Nat → List AV → Prop} {K : AV → Mem → Nat → Prop} (hΓ : ∀ p ∈ Γ, NN p.2)
  (h : ACalls P Γ F args' [(0, .row t sz xs)] 1 fun r m _ => ∃ (len : Nat) (ys : List AV), r = .sl 1 0 len ∧ m = [(1, .row t sz ys)] ∧ NNs ys ∧ R len ys) (g : Nat) (hg : lk mem g = some (.row t sz xs)) (hx : NNs xs) (hargs : CvL [(g, .row t sz xs)] [(g, 0)] args args')
  (hk : ∀ len ys, R len ys → dropK g mem fun rest => K (.sl nx 0 len) ((nx, .row t sz ys) :: rest) (nx + 1)) : ACalls P Γ F args mem nx K := by
 refine ⟨fun X D ρ w vs hD hm hv => ?_⟩
 refine (ACalls.use (K := K) (nx := nx) hΓ h [(g, 0)] (m1 := [(g, .row t sz xs)]) (rest := drop g mem) ⟨fun p hp => ?_, fun p hp => mem_drop hp, fun p hp => ?_, fun p hp q hq => ?_, by simp⟩ (drop_nodup hm.nod) hargs (fun p hp => ?_) (by simp) (inj_of (by rfl)) (fun id i hl => ?_) ?_).run X D ρ w vs hD hm hv
 ·simp at hp; subst hp; exact lk_mem hg
 ·by_cases hpg : p.1 = g
  ·left
   have := key_unique hm.nod hp (lk_mem hg) hpg
   rw [this]; simp
  ·exact .inr (mem_drop_ne hp hpg)
 ·simp at hp
  subst hp
  exact Ne.symm (drop_ne hm.nod hq)
 ·simp at hp
  subst hp
  exact .inl ⟨g, t, sz, xs, xs, rfl, by simp [lk], by simp [lk], .same hx⟩
 ·have := lk_mem hl
  simp at this
  omega
 ·rintro r m n ⟨len, ys, rfl, rfl, hn, hR⟩ _
  refine ⟨[(1, nx)], .sl nx 0 len, [(nx, .row t sz ys)], nx + 1, Nat.le_succ _, .sl 1 nx 0 len (by simp [lk]), fun p hp => ?_, by simp, inj_of (by rfl), fun i id hl => ?_, fun p hp q hq => ?_, dropK_iff.1 (hk len ys hR)⟩
  ·simp at hp
   subst hp
   exact .inl ⟨1, t, sz, ys, ys, rfl, by simp [lk], by simp [lk], .same hn⟩
  ·have := lk_mem hl
   simp at this
   obtain ⟨rfl, rfl⟩ := this
   exact .inr ⟨Nat.le_refl _, Nat.le_refl _, Nat.lt_succ_self _⟩
  ·simp at hp
   subst hp
   have := hD _ (hm.low q (mem_drop hq))
   simp only
   omega
def encL (x : Lst) : AV := .agg [.il 4 (encVs x.vals), .bool x.many]
def encLs (l : List Lst) : List AV := l.map encL
theorem encL_nn (x : Lst) : NN (encL x) := .agg' (.cons (.il' (encVs_nn _)) (.cons (.bool _) .nil))
theorem encLs_nn (l : List Lst) : NNs (encLs l) := fun a ha => by
 obtain ⟨n, _, rfl⟩ := List.mem_map.1 ha
 exact encL_nn n
theorem encLs_length (l : List Lst) : (encLs l).length = l.length := by rw [encLs, List.length_map]
theorem encLs_get (l : List Lst) (i : Nat) : (encLs l)[i]? = (l[i]?).map encL := by rw [encLs, List.getElem?_map]
def rangeK (lo : Int) (k : Nat) : List Val := (List.range k).map fun i : Nat => .mk 0 (lo + (i : Int)) [] []
theorem rangeK_succ (lo : Int) (k : Nat) : rangeK lo (k + 1) = rangeK lo k ++ [.mk 0 (lo + (k : Int)) [] []] := by simp [rangeK, List.range_succ]
theorem rangeK_length (lo : Int) (k : Nat) : (rangeK lo k).length = k := by simp [rangeK]
theorem ACalls.useNew {P : Program} {Γ : List (Nat × AV)} {F : FuncId} {args : List AV} {mem : Mem} {nx : Nat} {t : TypeId} {sz len : Nat} {ys : List AV} {K : AV → Mem → Nat → Prop} (hΓ : ∀ p ∈ Γ, NN p.2)
  (h : ACalls P Γ F args [] 0 fun r m n => r = .sl 0 0 len ∧ m = [(0, .row t sz ys)] ∧ n = 1) (ha : NNs args) (hn : NNs ys) (hk : K (.sl nx 0 len) ((nx, .row t sz ys) :: mem) (nx + 1)) : ACalls P Γ F args mem nx K := by
 refine ⟨fun X D ρ w vs hD hm hv => ?_⟩
 refine (ACalls.use (K := K) (nx := nx) hΓ h [] (m1 := []) (rest := mem) ⟨(fun p hp => by cases hp), fun p hp => hp, fun p hp => .inr hp, (fun p hp => by cases hp), by simp⟩ hm.nod (cvl_same ha) (fun p hp => by cases hp) (by simp) (fun i j k h => by simp [lk] at h) (fun id i h => by simp [lk] at h) ?_).run X D ρ w vs hD hm hv
 rintro r m n ⟨rfl, rfl, rfl⟩ _
 refine ⟨[(0, nx)], .sl nx 0 len, [(nx, .row t sz ys)], nx + 1, Nat.le_succ _, .sl 0 nx 0 len (by simp [lk]), fun p hp => ?_, by simp, inj_of (by rfl), fun i id hl => ?_, fun p hp q hq => ?_, hk⟩
 ·simp at hp
  subst hp
  exact .inl ⟨0, t, sz, ys, ys, rfl, by simp [lk], by simp [lk], .same hn⟩
 ·have := lk_mem hl
  simp at this
  obtain ⟨rfl, rfl⟩ := this
  exact .inr ⟨Nat.zero_le _, Nat.le_refl _, Nat.lt_succ_self _⟩
 ·simp at hp
  subst hp
  have := hD _ (hm.low q hq)
  simp only
  omega
theorem uni_bound {bs : List Lst} (hb : ∀ b ∈ bs, b.vals.length ≤ 1024 ∧ ∀ v ∈ b.vals, okV v) : ∀ (l : List Int) (a : List Val × Bool) (n : Nat), a.1.length ≤ n → (∀ v ∈ a.1, okV v) →
  (l.foldl (uniStep bs) a).1.length ≤ n + l.length * 1024 ∧ ∀ v ∈ (l.foldl (uniStep bs) a).1, okV v
 | [], a, n, h1, h2 => ⟨by simpa using h1, h2⟩
 | q :: r, a, n, h1, h2 => by
  have hq : (atL bs q).vals.length ≤ 1024 ∧ ∀ v ∈ (atL bs q).vals, okV v := by
   unfold atL
   rw [List.getD_eq_getElem?_getD]
   cases hc : bs[q.toNat]? with
   | none => simp
   | some b => exact hb b (List.mem_of_getElem? hc)
  have hs := sortV_length (a.1 ++ (atL bs q).vals)
  simp only [List.length_append] at hs
  have := uni_bound hb r (uniStep bs a q) (n + 1024) (by simp only [uniStep]; omega) (fun v hv => by
   have := sortV_mem hv
   rcases List.mem_append.1 this with h | h
   ·exact h2 v h
   ·exact hq.2 v h)
  simp only [List.foldl_cons, List.length_cons]
  refine ⟨by have := this.1; omega, this.2⟩
theorem foldl_take {α β : Type} (f : β → α → β) {l : List α} {k : Nat} (h : k < l.length) (a : β) : (l.take (k + 1)).foldl f a = f ((l.take k).foldl f a) l[k] := by
 rw [List.take_succ_eq_append_getElem h, List.foldl_append]; rfl
theorem foldl_drop {α β : Type} (f : β → α → β) {l : List α} {k : Nat} (h : k < l.length) (hk : 0 < k) (a : β) : ((l.take (k + 1)).drop 1).foldl f a = f (((l.take k).drop 1).foldl f a) l[k] := by
 rw [List.take_succ_eq_append_getElem h, List.drop_append_of_le_length (by simp; omega), List.foldl_append]; rfl
theorem snoc_ind {α : Type} {P : List α → Prop} (h0 : P []) (h1 : ∀ (l : List α) (x : α), P l → P (l ++ [x])) (l : List α) : P l := by
 rw [← List.reverse_reverse l]
 induction l.reverse with
 | nil => exact h0
 | cons a r ih => rw [List.reverse_cons]; exact h1 _ _ ih
structure GoodN (i : Nat) (x : Nd) : Prop where
 ok : okN x
 kind : 0 ≤ x.kind ∧ x.kind ≤ 4
 kids : ∀ (j : Nat) (k : Int), x.kids[j]? = some k → 0 ≤ k ∧ k < i
 klen : x.kids.length ≤ 65536
 num : numbersN x = true
def GoodL (bs : List Lst) : Prop := ∀ b ∈ bs, b.vals.length ≤ 1024 ∧ ∀ v ∈ b.vals, okV v
theorem numbersN_range {x : Nd} (h : numbersN x = true) : x.lo ≤ x.hi ∧ -4611686018427387904 ≤ x.lo ∧ x.hi ≤ 4611686018427387904 ∧ x.hi < x.lo + 1099511627776 := by
 unfold numbersN at h
 simp only [Bool.and_eq_true, decide_eq_true_eq] at h
 exact ⟨h.1.1.1.1, h.1.1.1.2, h.1.1.2, h.1.2⟩
theorem rowsX_mem {rows : List (List Val)} {l : List Val} {r : List Val} (h : r ∈ rowsX rows l) : ∃ r' ∈ rows, ∃ v ∈ l, r = r' ++ [v] := by
 simp only [rowsX, List.mem_flatMap, List.mem_map] at h
 obtain ⟨r', h1, v, h2, rfl⟩ := h
 exact ⟨r', h1, v, h2, rfl⟩
theorem rowsX_len (l : List Val) : ∀ rows : List (List Val), (rowsX rows l).length = rows.length * l.length
 | [] => by simp [rowsX]
 | r :: rs => by
  have := rowsX_len l rs
  simp only [rowsX, List.flatMap_cons, List.length_append, List.length_map, List.length_cons, Nat.add_mul, Nat.one_mul] at this ⊢
  omega
theorem atL_good {bs : List Lst} (hb : GoodL bs) (k : Int) : (atL bs k).vals.length ≤ 1024 ∧ ∀ v ∈ (atL bs k).vals, okV v := by
 unfold atL
 rw [List.getD_eq_getElem?_getD]
 cases h : bs[k.toNat]? with
 | none => simp
 | some b => exact hb b (List.mem_of_getElem? h)
theorem rowsL_good {bs : List Lst} (hb : GoodL bs) : ∀ (kids : List Int) (rows out : List (List Val)) (n : Nat), rows.length ≤ 1024 → (∀ r ∈ rows, r.length ≤ n ∧ ∀ v ∈ r, okV v) → rowsL bs kids rows = some out → out.length ≤ 1024 ∧ ∀ r ∈ out, r.length ≤ n + kids.length ∧ ∀ v ∈ r, okV v
 | [], rows, out, n, h1, h2, h => by
  simp only [rowsL] at h
  cases h
  exact ⟨h1, fun r hr => ⟨by simpa using (h2 r hr).1, (h2 r hr).2⟩⟩
 | k :: ks, rows, out, n, h1, h2, h => by
  simp only [rowsL] at h
  split at h
  ·cases h
  ·rename_i hc
   rw [not_or] at hc
   have hg := atL_good hb k
   obtain ⟨a, b⟩ := rowsL_good hb ks _ out (n + 1) (by rw [rowsX_len]; omega) (fun r hr => by
    obtain ⟨r', h3, v, h4, rfl⟩ := rowsX_mem hr
    refine ⟨by have := (h2 r' h3).1; simp; omega, fun u hu => ?_⟩
    rcases List.mem_append.1 hu with hu | hu
    ·exact (h2 r' h3).2 u hu
    ·simp at hu; rw [hu]; exact hg.2 v h4) h
   exact ⟨a, fun r hr => ⟨by have := (b r hr).1; simp; omega, (b r hr).2⟩⟩
theorem madeV_okV {name : List UInt8} (hn : name.length ≤ 4294967296) {r : List Val} (hr : r.length ≤ 4294967296) (ho : ∀ v ∈ r, okV v) : okV (madeV name r) := by
 unfold madeV
 split
 ·exact okV_list ⟨by omega, by omega⟩ ⟨by omega, by omega⟩ (by simp) hr (okVs_of ho)
 ·exact okV_list ⟨by omega, by omega⟩ ⟨by omega, by omega⟩ hn hr (okVs_of ho)
theorem uni_short {bs : List Lst} : ∀ (l : List Int) (a : List Val × Bool), (a.2 = false → a.1.length ≤ 1024) → (l.foldl (uniStep bs) a).2 = false → (l.foldl (uniStep bs) a).1.length ≤ 1024
 | [], a, h, h2 => h h2
 | k :: r, a, h, h2 => by
  refine uni_short r (uniStep bs a k) (fun h3 => ?_) h2
  simp only [uniStep, Bool.or_eq_false_iff, decide_eq_false_iff_not] at h3 ⊢
  omega
theorem listN_good {x : Nd} {i : Nat} {bs : List Lst} (hx : GoodN i x) (hb : GoodL bs) : (listN x bs).vals.length ≤ 1024 ∧ ∀ v ∈ (listN x bs).vals, okV v := by
 unfold listN
 have hnum := numbersN_range hx.num
 split
 ·exact ⟨by simp, fun v hv => by simp at hv; rw [hv]; exact hx.ok.value⟩
 ·split
  ·split
   ·simp
   ·refine ⟨by simp [rangeV]; omega, fun v hv => ?_⟩
    simp only [rangeV, List.mem_map, List.mem_range] at hv
    obtain ⟨j, hj, rfl⟩ := hv
    exact okV_leaf ⟨by omega, by omega⟩ ⟨by omega, by omega⟩
  ·split
   ·unfold seqL
    split
    ·simp
    ·rename_i rows hr
     obtain ⟨h1, h2⟩ := rowsL_good hb x.kids [[]] rows 0 (by simp) (by simp) hr
     refine ⟨by have := sortV_length (rows.map (madeV x.name)); simp at this ⊢; omega, fun v hv => ?_⟩
     have := sortV_mem hv
     obtain ⟨r, hr2, rfl⟩ := List.mem_map.1 this
     have h3 := h2 r hr2
     have := hx.klen
     exact madeV_okV hx.ok.name (by omega) h3.2
   ·generalize (if x.kind = 4 then x.kids.drop 1 else x.kids) = ks
    unfold uniL
    split
    ·simp
    ·rename_i hm
     have hm : (ks.foldl (uniStep bs) ([], false)).2 = false := by simpa using hm
     exact ⟨uni_short _ _ (by simp) hm, (uni_bound hb _ ([], false) 0 (by simp) (by simp)).2⟩
theorem listsT_length (l : List Nd) : (listsT l).length = l.length := by
 refine snoc_ind (P := fun l => (listsT l).length = l.length) rfl (fun l x ih => ?_) l
 rw [listsT_snoc]; simp [ih]
theorem listsT_good (l : List Nd) : (∀ (i : Nat) (x : Nd), l[i]? = some x → GoodN i x) → GoodL (listsT l) := by
 refine snoc_ind (P := fun l => (∀ (i : Nat) (x : Nd), l[i]? = some x → GoodN i x) → GoodL (listsT l)) (fun _ b hb => by simp [listsT] at hb) (fun l x ih h => ?_) l
 have h1 := ih fun i y hy => h i y (by
  have := (List.getElem?_eq_some_iff.1 hy).1
  rw [List.getElem?_append_left this]; exact hy)
 have h2 := h l.length x (by simp)
 rw [listsT_snoc]
 intro b hb
 rcases List.mem_append.1 hb with hb | hb
 ·exact h1 b hb
 ·simp at hb; rw [hb]; exact listN_good h2 h1
theorem validF_app : ∀ (b l r : List Nd), validF b l = 0 → validF b (l ++ r) = validF (b ++ l) r
 | b, [], r, _ => by simp
 | b, y :: l, r, h => by
  simp only [List.cons_append, validF] at h ⊢
  split at h
  ·rename_i h1; exact absurd h h1
  ·rename_i h1
   rw [if_neg h1, validF_app (b ++ [y]) l r h]
   simp
theorem validF_pre {l r : List Nd} (h : validF [] (l ++ r) = 0) : validF [] l = 0 := by
 have key : ∀ (l b : List Nd), validF b (l ++ r) = 0 → validF b l = 0 := by
  intro l
  induction l with
  | nil => intro b _; rfl
  | cons y l ih =>
   intro b h
   simp only [List.cons_append, validF] at h ⊢
   split at h
   ·rename_i h1; exact absurd h h1
   ·rename_i h1
    rw [if_neg h1]
    exact ih _ h
 exact key l [] h
theorem validF_stop {l r : List Nd} {x : Nd} (h : validF [] l = 0) (hs : stepE l (lensT l) (sizsT l) x ≠ 0) : validF [] (l ++ x :: r) = stepE l (lensT l) (sizsT l) x := by
 rw [validF_app _ _ _ h]
 simp only [List.nil_append, validF]
 rw [if_pos hs]
theorem sameVs_lenE : ∀ {l m : List Val}, sameVs l m = true → l.length = m.length
 | [], [], _ => rfl
 | a :: l, b :: m, h => by
  simp only [sameVs, Bool.and_eq_true] at h
  simp [sameVs_lenE h.2]
 | [], b :: m, h => by simp [sameVs] at h
 | a :: l, [], h => by simp [sameVs] at h
structure NodeOK (i : Nat) (x : Nd) : Prop where
 kind : 0 ≤ x.kind ∧ x.kind ≤ 4
 kids : ∀ (j : Nat) (k : Int), x.kids[j]? = some k → 0 ≤ k ∧ k < i
 num : numbersN x = true
 klen : x.kind ≠ 4 → x.kids.length ≤ 256
 bind : x.kind = 4 → x.kids.length = x.values.length + 1
theorem node_ok {i : Nat} {x : Nd} (h : nodeE i x = 0) : NodeOK i x := by
 unfold nodeE at h
 split at h
 ·omega
 ·rename_i hf
  split at h
  ·rename_i h1; exact absurd h h1
  ·split at h
   ·omega
   ·rename_i hn
    have hn : numbersN x = true := by simpa using hn
    have hf : formedN i x = true := by simpa using hf
    unfold formedN at hf
    simp only [Bool.and_eq_true, Bool.or_eq_true, decide_eq_true_eq] at hf
    obtain ⟨⟨⟨⟨⟨⟨hu, hk⟩, hki⟩, h2⟩, h3⟩, h4⟩, _⟩ := hf
    refine ⟨hk, kidsIn_iff.1 hki, hn, fun hne => ?_, fun he => by omega⟩
    unfold unusedN at hu
    simp only [Bool.and_eq_true, Bool.or_eq_true, decide_eq_true_eq] at hu
    rcases (show x.kind = 0 ∨ x.kind = 1 ∨ x.kind = 2 ∨ x.kind = 3 by omega) with e | e | e | e
    ·have := hu.2; omega
    ·have := hu.2; omega
    ·rcases h2 with h2 | h2
     ·omega
     ·exact h2.1.1.2
    ·rcases h3 with h3 | h3
     ·omega
     ·exact h3.1
theorem step_parts {before : List Nd} {ls ss : List Int} {x : Nd} (h : stepE before ls ss x = 0) : nodeE before.length x = 0 ∧ lenN ls x ≤ 256 ∧ sizN ss x ≤ 1024 ∧ (x.kind = 4 → boundE before x = 0) := by
 unfold stepE at h
 split at h
 ·rename_i h1; exact absurd h h1
 ·rename_i h1
  split at h
  ·omega
  ·rename_i h2
   rw [not_or] at h2
   refine ⟨by simpa using h1, by omega, by omega, fun e => ?_⟩
   rw [if_pos e] at h
   exact h
theorem getElem_take_some {α : Type} {l : List α} {n i : Nat} {x : α} (h : (l.take n)[i]? = some x) : l[i]? = some x ∧ i < n := by
 rw [List.getElem?_take] at h
 split at h
 ·rename_i hi; exact ⟨h, hi⟩
 ·cases h
theorem bound_len {before : List Nd} {x : Nd} (hg : ∀ (j : Nat) (y : Nd), before[j]? = some y → GoodN j y) (h : boundE before x = 0) : x.values.length ≤ 1024 := by
 unfold boundE at h
 simp only at h
 split at h
 ·omega
 ·split at h
  ·rename_i hs
   have := sameVs_lenE hs
   have hgl := listsT_good (before.take ((x.kids.getD 0 0).toNat + 1)) fun i y hy => hg i y (getElem_take_some hy).1
   have := (atL_good hgl (x.kids.getD 0 0)).1
   omega
  ·omega
theorem step_good {before : List Nd} {ls ss : List Int} {x : Nd} (hg : ∀ (j : Nat) (y : Nd), before[j]? = some y → GoodN j y) (ho : okN x) (h : stepE before ls ss x = 0) : GoodN before.length x := by
 obtain ⟨h1, h2, h3, h4⟩ := step_parts h
 have hn := node_ok h1
 refine ⟨ho, hn.kind, hn.kids, ?_, hn.num⟩
 by_cases e : x.kind = 4
 ·have := hn.bind e
  have := bound_len hg (h4 e)
  omega
 ·have := hn.klen e
  omega
theorem valid_good (ns : List Nd) (ho : ∀ x ∈ ns, okN x) (h : validF [] ns = 0) : ∀ (j : Nat) (x : Nd), ns[j]? = some x → GoodN j x := by
 refine snoc_ind (P := fun ns => (∀ x ∈ ns, okN x) → validF [] ns = 0 → ∀ (j : Nat) (x : Nd), ns[j]? = some x → GoodN j x) (fun _ _ j x hx => by simp at hx) (fun l x ih ho h => ?_) ns ho h
 have h1 := validF_pre h
 have ih := ih (fun y hy => ho y (List.mem_append_left _ hy)) h1
 have hs := validF_snoc [] l x h1
 rw [h] at hs
 simp only [List.nil_append] at hs
 have hg := step_good ih (ho x (by simp)) hs.symm
 intro j y hy
 rcases Nat.lt_or_ge j l.length with hj | hj
 ·rw [List.getElem?_append_left hj] at hy
  exact ih j y hy
 ·rw [List.getElem?_append_right hj] at hy
  have e : j - l.length = 0 := by
   have := (List.getElem?_eq_some_iff.1 hy).1
   simp at this
   omega
  rw [e] at hy
  simp at hy
  subst hy
  obtain rfl : j = l.length := by omega
  exact hg
theorem lenN_nonneg {ls : List Int} {x : Nd} (h : ∀ y ∈ ls, 0 ≤ y ∧ y ≤ 1024) : 0 ≤ lenN ls x := by
 have h1 := (sumK_bound (by omega) h x.kids).1
 have h2 := (mostK_bound (by omega) h (armsN x)).1
 have h3 := (atI_bound (by omega) h (x.kids.getD 0 0)).1
 unfold lenN
 split
 ·omega
 ·split
  ·omega
  ·split
   ·exact h1
   ·split
    ·omega
    ·omega
theorem sizN_nonneg {ls : List Int} {x : Nd} (h : ∀ y ∈ ls, 0 ≤ y ∧ y ≤ 1024) : 0 ≤ sizN ls x := by
 have h1 := (sumK_bound (by omega) h x.kids).1
 have h2 := (mostK_bound (by omega) h (armsN x)).1
 unfold sizN
 split
 ·omega
 ·split
  ·omega
  ·split
   ·omega
   ·exact h2
theorem valid_lens (ns : List Nd) (h : validF [] ns = 0) : (∀ y ∈ lensT ns, 0 ≤ y ∧ y ≤ 1024) ∧ (∀ y ∈ sizsT ns, 0 ≤ y ∧ y ≤ 1024) := by
 refine snoc_ind (P := fun ns => validF [] ns = 0 → (∀ y ∈ lensT ns, 0 ≤ y ∧ y ≤ 1024) ∧ (∀ y ∈ sizsT ns, 0 ≤ y ∧ y ≤ 1024)) (fun _ => by simp [lensT, sizsT]) (fun l x ih h => ?_) ns h
 have h1 := validF_pre h
 obtain ⟨i1, i2⟩ := ih h1
 have hs := validF_snoc [] l x h1
 rw [h] at hs
 simp only [List.nil_append] at hs
 obtain ⟨_, h2, h3, _⟩ := step_parts hs.symm
 rw [lensT_snoc, sizsT_snoc]
 have n1 := lenN_nonneg (x := x) i1
 have n2 := sizN_nonneg (x := x) i2
 constructor
 ·intro y hy
  rcases List.mem_append.1 hy with hy | hy
  ·exact i1 y hy
  ·simp at hy; subst hy; omega
 ·intro y hy
  rcases List.mem_append.1 hy with hy | hy
  ·exact i2 y hy
  ·simp at hy; subst hy; omega
theorem lensT_length (l : List Nd) : (lensT l).length = l.length := by
 refine snoc_ind (P := fun l => (lensT l).length = l.length) rfl (fun l x ih => ?_) l
 rw [lensT_snoc]; simp [ih]
theorem sizsT_length (l : List Nd) : (sizsT l).length = l.length := by
 refine snoc_ind (P := fun l => (sizsT l).length = l.length) rfl (fun l x ih => ?_) l
 rw [sizsT_snoc]; simp [ih]
theorem tdiv_le {a b : Int} (ha : 0 ≤ a) (hb : 0 < b) : a.tdiv b ≤ a := by
 rw [Int.tdiv_eq_ediv_of_nonneg ha]
 exact Int.ediv_le_self _ ha
theorem tmod_lt {a b : Int} (ha : 0 ≤ a) (hb : 0 < b) : 0 ≤ a.tmod b ∧ a.tmod b < b := ⟨Int.tmod_nonneg _ ha, Int.tmod_lt_of_pos _ hb⟩
theorem leafV_ok (k : Int) (hk : 0 ≤ k) : okV (leafV k) ∧ sizeV (leafV k) ≤ 2 := by
 have h4 := tmod_lt hk (show (0 : Int) < 4 by omega)
 have hd : 0 ≤ k.tdiv 4 := Int.tdiv_nonneg hk (by omega)
 have a := tmod_lt hd (show (0 : Int) < 9 by omega)
 have b := tmod_lt hd (show (0 : Int) < 2 by omega)
 have c := tmod_lt hd (show (0 : Int) < 3 by omega)
 unfold leafV
 split
 ·exact ⟨okV_leaf ⟨by omega, by omega⟩ ⟨by omega, by omega⟩, by simp [sizeV, sizeL]⟩
 ·split
  ·exact ⟨okV_leaf ⟨by omega, by omega⟩ ⟨by omega, by omega⟩, by simp [sizeV, sizeL]⟩
  ·split
   ·refine ⟨okV_list ⟨by omega, by omega⟩ ⟨by omega, by omega⟩ ?_ (by simp) (by simp [okVs]), by simp [sizeV, sizeL]⟩
    rcases (show ((k.tdiv 4).tmod 3).toNat = 0 ∨ ((k.tdiv 4).tmod 3).toNat = 1 ∨ ((k.tdiv 4).tmod 3).toNat = 2 by omega) with h | h | h <;> rw [h] <;> simp
   ·refine ⟨okV_list ⟨by omega, by omega⟩ ⟨by omega, by omega⟩ (by simp) (by simp) ?_, by simp [sizeV, sizeL]⟩
    simp only [okVs, and_true]
    exact okV_leaf ⟨by omega, by omega⟩ ⟨by omega, by omega⟩
def abcd : List (List UInt8) := [[97], [98], [99], [100]]
structure GenN (x : Nd) : Prop where
 ok : okN x
 vals : x.values.length ≤ 1024
 labels : ∀ s ∈ x.labels, s ∈ abcd
structure TreeOK (ns : List Nd) : Prop where
 valid : validF [] ns = 0
 gen : ∀ x ∈ ns, GenN x
theorem genN_mk {kind lo hi : Int} {name : List UInt8} {ws ks : List Int} {ls : List (List UInt8)} {vs : List Val} {v : Val} (h1 : i64 kind) (h2 : name.length ≤ 1000) (h3 : i64 lo) (h4 : i64 hi) (h5 : ws.length ≤ 1000) (h6 : ∀ w ∈ ws, i64 w) (h7 : ls.length ≤ 1000) (h8 : ∀ s ∈ ls, s ∈ abcd)
  (h9 : vs.length ≤ 1000) (h10 : ∀ v ∈ vs, okV v ∧ sizeV v ≤ 4294967296) (h11 : ks.length ≤ 1000) (h12 : ∀ k ∈ ks, i64 k) (h13 : okV v) (h14 : sizeV v ≤ 4294967296) : GenN ⟨kind, name, lo, hi, ws, ls, vs, ks, v⟩ :=
 ⟨⟨h1, by simp only; omega, h3, h4, by simp only; omega, h6, by simp only; omega, fun s hs => by
   have := h8 s hs
   simp [abcd] at this
   rcases this with rfl | rfl | rfl | rfl <;> simp, by simp only; omega, h10, by simp only; omega, h12, h13, h14⟩, by simp only; omega, h8⟩
theorem stepE_leaf (ns : List Nd) (ls ss : List Int) (m : Int) : stepE ns ls ss ⟨0, [], 0, 0, [], [], [], [], .mk 0 m [] []⟩ = 0 := by
 have hv : validV (.mk 0 m [] []) = 0 := by simp [validV, formedV, formedL, formed1, wideV, wideL, wide1, sizeV, sizeL]
 have hf : formedN (ns.length : Int) ⟨0, [], 0, 0, [], [], [], [], .mk 0 m [] []⟩ = true := by simp [formedN, unusedN, kidsIn, sortedA]
 have hn : nodeE (ns.length : Int) ⟨0, [], 0, 0, [], [], [], [], .mk 0 m [] []⟩ = 0 := by
  unfold nodeE
  rw [if_neg (by rw [hf]; simp)]
  simp [ownN, firstE, hv, numbersN]
 unfold stepE
 rw [if_neg (by rw [hn]; simp)]
 simp [lenN, sizN, sizeV, sizeL]
theorem rowsL_size {bs : List Lst} {ss : List Int} : ∀ (kids : List Int) (rows out : List (List Val)) (S : Int), (∀ r ∈ rows, (sizeL r : Int) ≤ S) → (∀ k ∈ kids, ∀ v ∈ (atL bs k).vals, (sizeV v : Int) ≤ atI ss k) → rowsL bs kids rows = some out → ∀ r ∈ out, (sizeL r : Int) ≤ S + sumK ss kids
 | [], rows, out, S, h1, _, h => by
  simp only [rowsL] at h
  cases h
  intro r hr
  simpa [sumK] using h1 r hr
 | k :: ks, rows, out, S, h1, h2, h => by
  simp only [rowsL] at h
  split at h
  ·cases h
  ·have e : sumK ss (k :: ks) = atI ss k + sumK ss ks := by simp only [sumK, List.foldl_cons]; rw [foldl_sum ss ks]; simp [sumK]
   have ih := rowsL_size ks _ out (S + atI ss k) (fun r hr => by
    obtain ⟨r', h3, v, h4, rfl⟩ := rowsX_mem hr
    have a := h1 r' h3
    have b := h2 k (by simp) v h4
    rw [sizeL_snoc]
    omega) (fun k' hk' => h2 k' (by simp [hk'])) h
   intro r hr
   have := ih r hr
   omega
theorem uni_mem {bs : List Lst} : ∀ (l : List Int) (a : List Val × Bool), ∀ v ∈ (l.foldl (uniStep bs) a).1, v ∈ a.1 ∨ ∃ k ∈ l, v ∈ (atL bs k).vals
 | [], a, v, hv => .inl hv
 | k :: r, a, v, hv => by
  rcases uni_mem r (uniStep bs a k) v hv with h | ⟨k', h1, h2⟩
  ·simp only [uniStep] at h
   rcases List.mem_append.1 (sortV_mem h) with h | h
   ·exact .inl h
   ·exact .inr ⟨k, by simp, h⟩
  ·exact .inr ⟨k', by simp [h1], h2⟩
theorem mostK_ge {ss : List Int} : ∀ (l : List Int) (s : Int) (k : Int), k ∈ l → atI ss k ≤ l.foldl (fun s k => max s (atI ss k)) s ∧ s ≤ l.foldl (fun s k => max s (atI ss k)) s
 | a :: r, s, k, h => by
  have mono : ∀ (l : List Int) (s : Int), s ≤ l.foldl (fun s k => max s (atI ss k)) s := by
   intro l
   induction l with
   | nil => intro s; simp
   | cons b l ih => intro s; have := ih (max s (atI ss b)); simp only [List.foldl_cons]; omega
  simp only [List.foldl_cons]
  rcases List.mem_cons.1 h with rfl | h
  ·have := mono r (max s (atI ss k)); omega
  ·have := mostK_ge (ss := ss) r (max s (atI ss a)) k h; omega
theorem listN_size {x : Nd} {bs : List Lst} {ss : List Int} (hkd : 0 ≤ x.kind ∧ x.kind ≤ 4) (hb : ∀ k ∈ x.kids, ∀ v ∈ (atL bs k).vals, (sizeV v : Int) ≤ atI ss k) : ∀ v ∈ (listN x bs).vals, (sizeV v : Int) ≤ sizN ss x := by
 intro v hv
 unfold listN at hv
 split at hv
 ·rename_i h0
  simp at hv
  subst hv
  unfold sizN
  rw [if_pos h0]
  omega
 ·rename_i h0
  split at hv
  ·rename_i h1
   split at hv
   ·simp at hv
   ·simp only [rangeV, List.mem_map] at hv
    obtain ⟨j, _, rfl⟩ := hv
    unfold sizN
    rw [if_neg h0, if_pos h1]
    simp [sizeV, sizeL]
  ·rename_i h1
   split at hv
   ·rename_i h3
    unfold seqL at hv
    split at hv
    ·simp at hv
    ·rename_i rows hr
     obtain ⟨r, hr2, rfl⟩ := List.mem_map.1 (sortV_mem hv)
     have := rowsL_size x.kids [[]] rows 0 (by simp [sizeL]) hb hr r hr2
     have e : sizeV (madeV x.name r) = 1 + sizeL r := by unfold madeV; split <;> simp [sizeV]
     unfold sizN
     rw [if_neg h0, if_neg h1, if_pos h3, e]
     omega
   ·rename_i h3
    have key : ∀ ks : List Int, (∀ k ∈ ks, k ∈ x.kids) → v ∈ (uniL bs ks).vals → (sizeV v : Int) ≤ mostK ss ks := by
     intro ks hks hv
     unfold uniL at hv
     split at hv
     ·simp at hv
     ·rcases uni_mem ks ([], false) v hv with h | ⟨k, h1, h2⟩
      ·simp at h
      ·have := hb k (hks k h1) v h2
       have := (mostK_ge (ss := ss) ks 0 k h1).1
       unfold mostK
       omega
    have : (sizeV v : Int) ≤ mostK ss (armsN x) := by
     unfold armsN
     by_cases h4 : x.kind = 4
     ·rw [if_pos h4] at hv
      rw [if_neg (by omega)]
      exact key _ (fun k hk => List.mem_of_mem_drop hk) hv
     ·rw [if_neg h4] at hv
      by_cases h2 : x.kind = 2
      ·rw [if_pos h2]
       exact key _ (fun k hk => hk) hv
      ·omega
    unfold sizN
    rw [if_neg h0, if_neg h1, if_neg h3]
    omega
theorem atL_snoc {bs : List Lst} {b : Lst} {k : Int} (hk : 0 ≤ k) : (k < bs.length → atL (bs ++ [b]) k = atL bs k) ∧ (k = bs.length → atL (bs ++ [b]) k = b) := by
 unfold atL
 constructor
 ·intro h
  rw [List.getD_eq_getElem?_getD, List.getD_eq_getElem?_getD, List.getElem?_append_left (by omega)]
 ·intro h
  rw [List.getD_eq_getElem?_getD, List.getElem?_append_right (by omega), show k.toNat - bs.length = 0 by omega]
  rfl
theorem atI_snoc {bs : List Int} {b : Int} {k : Int} (hk : 0 ≤ k) : (k < bs.length → atI (bs ++ [b]) k = atI bs k) ∧ (k = bs.length → atI (bs ++ [b]) k = b) := by
 unfold atI
 constructor
 ·intro h
  rw [List.getD_eq_getElem?_getD, List.getD_eq_getElem?_getD, List.getElem?_append_left (by omega)]
 ·intro h
  rw [List.getD_eq_getElem?_getD, List.getElem?_append_right (by omega), show k.toNat - bs.length = 0 by omega]
  rfl
theorem lists_size (ns : List Nd) (hg : ∀ (j : Nat) (x : Nd), ns[j]? = some x → GoodN j x) : ∀ (k : Int), 0 ≤ k → k < ns.length → ∀ v ∈ (atL (listsT ns) k).vals, (sizeV v : Int) ≤ atI (sizsT ns) k := by
 refine snoc_ind (P := fun ns => (∀ (j : Nat) (x : Nd), ns[j]? = some x → GoodN j x) → ∀ (k : Int), 0 ≤ k → k < ns.length → ∀ v ∈ (atL (listsT ns) k).vals, (sizeV v : Int) ≤ atI (sizsT ns) k) (fun _ k h1 h2 => by simp at h2; omega) (fun l x ih hg k hk0 hk v hv => ?_) ns hg
 have hgl : ∀ (j : Nat) (y : Nd), l[j]? = some y → GoodN j y := fun j y hy => hg j y (by
  have := (List.getElem?_eq_some_iff.1 hy).1
  rw [List.getElem?_append_left this]; exact hy)
 have ih := ih hgl
 have hx := hg l.length x (by simp)
 rw [listsT_snoc] at hv
 rw [sizsT_snoc]
 have e1 := atL_snoc (bs := listsT l) (b := listN x (listsT l)) hk0
 have e2 := atI_snoc (bs := sizsT l) (b := sizN (sizsT l) x) hk0
 rw [listsT_length] at e1
 rw [sizsT_length] at e2
 rcases (show k < l.length ∨ k = l.length by simp at hk; omega) with h | h
 ·rw [e1.1 h] at hv
  rw [e2.1 h]
  exact ih k hk0 h v hv
 ·rw [e1.2 h] at hv
  rw [e2.2 h]
  refine listN_size hx.kind (fun q hq u hu => ?_) v hv
  obtain ⟨j, hj⟩ := List.getElem?_of_mem hq
  obtain ⟨q0, q1⟩ := hx.kids j q hj
  exact ih q q0 q1 u hu
theorem lists_small (ns : List Nd) (ho : ∀ x ∈ ns, okN x) (h : validF [] ns = 0) (k : Int) (h0 : 0 ≤ k) (h1 : k < ns.length) : ∀ v ∈ (atL (listsT ns) k).vals, sizeV v ≤ 1024 := by
 intro v hv
 have a := lists_size ns (valid_good ns ho h) k h0 h1 v hv
 have b := (atI_bound (M := 1024) (by omega) (valid_lens ns h).2 k).2
 omega
theorem TreeOK.ok {ns : List Nd} (h : TreeOK ns) : ∀ x ∈ ns, okN x := fun x hx => (h.gen x hx).ok
theorem TreeOK.good {ns : List Nd} (h : TreeOK ns) : ∀ (j : Nat) (x : Nd), ns[j]? = some x → GoodN j x := valid_good ns h.ok h.valid
theorem TreeOK.snoc {ns : List Nd} {x : Nd} (h : TreeOK ns) (hl : ns.length ≤ 1000) (hx : GenN x) (hv : validT (ns ++ [x]) = 0) : TreeOK (ns ++ [x]) := by
 unfold validT at hv
 rw [if_neg (by simp; omega)] at hv
 refine ⟨hv, fun y hy => ?_⟩
 rcases List.mem_append.1 hy with hy | hy
 ·exact h.gen y hy
 ·simp at hy; rw [hy]; exact hx
theorem TreeOK.leaf {ns : List Nd} (h : TreeOK ns) {m : Int} (hm : i64 m) : TreeOK (ns ++ [⟨0, [], 0, 0, [], [], [], [], .mk 0 m [] []⟩]) := by
 refine ⟨?_, fun y hy => ?_⟩
 ·rw [validF_snoc [] ns _ h.valid]
  exact stepE_leaf _ _ _ _
 ·rcases List.mem_append.1 hy with hy | hy
  ·exact h.gen y hy
  ·simp at hy
   rw [hy]
   have h0 : i64 0 := ⟨by omega, by omega⟩
   exact genN_mk h0 (by simp) h0 h0 (by simp) (by simp) (by simp) (by simp) (by simp) (by simp) (by simp) (by simp) (okV_leaf h0 hm) (by simp [sizeV, sizeL])
def mergeV (a b : List Val) : List Val := match a, b with
 | [], b => b
 | a, [] => a
 | x :: l, y :: m => if cmpV x y < 0 then x :: mergeV l (y :: m) else if cmpV x y = 0 then x :: mergeV l m else y :: mergeV (x :: l) m
termination_by a.length + b.length
theorem mergeV_nil (b : List Val) : mergeV [] b = b := by rw [mergeV]
theorem mergeV_nil' (a : List Val) : mergeV a [] = a := by
 cases a with
 | nil => rw [mergeV]
 | cons x l => rw [mergeV]; simp
theorem mergeV_cons (x y : Val) (l m : List Val) : mergeV (x :: l) (y :: m) = if cmpV x y < 0 then x :: mergeV l (y :: m) else if cmpV x y = 0 then x :: mergeV l m else y :: mergeV (x :: l) m := by rw [mergeV]
mutual
theorem valEq : ∀ (a b : Val), cmpV a b = 0 → a = b
 | .mk k n s ks, .mk k' n' s' ks', h => by
  simp only [cmpV, andThen] at h
  split at h
  ·rename_i h1
   split at h
   ·rename_i h2
    split at h
    ·rename_i h3
     have e1 : k = k' := Decidable.byContradiction fun e => cmpI_nz e h1
     have e2 : n = n' := Decidable.byContradiction fun e => cmpI_nz e h2
     rw [e1, e2, cmpS_zero h3, valsEq ks ks' h]
    ·rename_i h3; exact absurd h h3
   ·rename_i h2; exact absurd h h2
  ·rename_i h1; exact absurd h h1
theorem valsEq : ∀ (l m : List Val), cmpL l m = 0 → l = m
 | [], [], _ => rfl
 | [], _ :: _, h => by simp [cmpL] at h
 | _ :: _, [], h => by simp [cmpL] at h
 | a :: l, b :: m, h => by
  simp only [cmpL, andThen] at h
  split at h
  ·rename_i h1; rw [valEq a b h1, valsEq l m h]
  ·rename_i h1; exact absurd h h1
end
theorem cmpV_irr (a : Val) : ¬ cmpV a a < 0 := by rw [(cmpV_good a).refl]; omega
theorem srt_ext : ∀ {a b : List Val}, Srt a → Srt b → (∀ x, x ∈ a ↔ x ∈ b) → a = b
 | [], [], _, _, _ => rfl
 | [], y :: m, _, _, h => by have := (h y).2 (by simp); simp at this
 | x :: l, [], _, _, h => by have := (h x).1 (by simp); simp at this
 | x :: l, y :: m, h1, h2, h => by
  unfold Srt at h1 h2
  rw [List.pairwise_cons] at h1 h2
  have e : x = y := by
   rcases List.mem_cons.1 ((h x).1 (by simp)) with e | e
   ·exact e
   ·rcases List.mem_cons.1 ((h y).2 (by simp)) with e' | e'
    ·exact e'.symm
    ·have a1 := h2.1 x e
     have a2 := h1.1 y e'
     have := lt_le a1 (by omega : cmpV x y ≤ 0)
     exact absurd this (cmpV_irr y)
  subst e
  congr 1
  refine srt_ext h1.2 h2.2 fun z => ?_
  constructor
  ·intro hz
   rcases List.mem_cons.1 ((h z).1 (by simp [hz])) with e | e
   ·subst e; exact absurd (h1.1 z hz) (cmpV_irr z)
   ·exact e
  ·intro hz
   rcases List.mem_cons.1 ((h z).2 (by simp [hz])) with e | e
   ·subst e; exact absurd (h2.1 z hz) (cmpV_irr z)
   ·exact e
theorem insV_has : ∀ (l : List Val) (v x : Val), x ∈ insV l v ↔ x = v ∨ x ∈ l
 | [], v, x => by simp [insV, findV]
 | a :: r, v, x => by
  rw [insV_cons]
  split
  ·split
   ·rename_i h
    have e := valEq a v (by simpa using h)
    subst e
    constructor
    ·intro h; exact .inr h
    ·rintro (rfl | h)
     ·simp
     ·exact h
   ·simp
  ·simp only [List.mem_cons, insV_has r v x]
   constructor
   ·rintro (h | h | h)
    ·exact .inr (.inl h)
    ·exact .inl h
    ·exact .inr (.inr h)
   ·rintro (h | h | h)
    ·exact .inr (.inl h)
    ·exact .inl h
    ·exact .inr (.inr h)
theorem sortV_has (l : List Val) (x : Val) : x ∈ sortV l ↔ x ∈ l := by
 refine snoc_ind (P := fun l => x ∈ sortV l ↔ x ∈ l) (by simp [sortV]) (fun l a ih => ?_) l
 rw [sortV_snoc, insV_has, ih]
 simp only [List.mem_append, List.mem_singleton]
 constructor
 ·rintro (h | h)
  ·exact .inr h
  ·exact .inl h
 ·rintro (h | h)
  ·exact .inr h
  ·exact .inl h
theorem sortV_of_srt {l : List Val} (h : Srt l) : sortV l = l := srt_ext (sortV_srt l) h (sortV_has l)
theorem mergeV_has (a b : List Val) (x : Val) : x ∈ mergeV a b ↔ x ∈ a ∨ x ∈ b := by
 fun_induction mergeV a b with
 | case1 b => simp
 | case2 a h => simp
 | case3 y l z m h ih => simp only [List.mem_cons, ih]; simp only [or_assoc]
 | case4 y l z m h1 h2 ih =>
  have := valEq y z h2
  subst this
  simp only [List.mem_cons, ih]
  constructor
  ·rintro (h | h | h)
   ·exact .inl (.inl h)
   ·exact .inl (.inr h)
   ·exact .inr (.inr h)
  ·rintro ((h | h) | (h | h))
   ·exact .inl h
   ·exact .inr (.inl h)
   ·exact .inl h
   ·exact .inr (.inr h)
 | case5 y l z m h1 h2 ih =>
  simp only [List.mem_cons, ih]
  constructor
  ·rintro (h | (h | h) | h)
   ·exact .inr (.inl h)
   ·exact .inl (.inl h)
   ·exact .inl (.inr h)
   ·exact .inr (.inr h)
  ·rintro ((h | h) | (h | h))
   ·exact .inr (.inl (.inl h))
   ·exact .inr (.inl (.inr h))
   ·exact .inl h
   ·exact .inr (.inr h)
theorem mergeV_srt (a b : List Val) : Srt a → Srt b → Srt (mergeV a b) := by
 fun_induction mergeV a b with
 | case1 b => intro _ h; exact h
 | case2 a h => intro h _; exact h
 | case3 y l z m h ih =>
  intro h1 h2
  unfold Srt at h1 h2 ⊢
  have h1' := List.pairwise_cons.1 h1
  have h2' := List.pairwise_cons.1 h2
  refine List.pairwise_cons.2 ⟨fun x hx => ?_, ih h1'.2 h2⟩
  rcases (mergeV_has _ _ _).1 hx with hx | hx
  ·exact h1'.1 x hx
  ·rcases List.mem_cons.1 hx with rfl | hx
   ·exact h
   ·have := h2'.1 x hx
    exact lt_le h (by omega)
 | case4 y l z m hn he ih =>
  intro h1 h2
  unfold Srt at h1 h2 ⊢
  have h1' := List.pairwise_cons.1 h1
  have h2' := List.pairwise_cons.1 h2
  have := valEq y z he
  subst this
  refine List.pairwise_cons.2 ⟨fun x hx => ?_, ih h1'.2 h2'.2⟩
  rcases (mergeV_has _ _ _).1 hx with hx | hx
  ·exact h1'.1 x hx
  ·exact h2'.1 x hx
 | case5 y l z m hn he ih =>
  intro h1 h2
  unfold Srt at h1 h2 ⊢
  have h1' := List.pairwise_cons.1 h1
  have h2' := List.pairwise_cons.1 h2
  have hzy := flip_gt (a := y) (b := z) (by omega)
  refine List.pairwise_cons.2 ⟨fun x hx => ?_, ih h1 h2'.2⟩
  rcases (mergeV_has _ _ _).1 hx with hx | hx
  ·rcases List.mem_cons.1 hx with rfl | hx
   ·exact hzy
   ·have := h1'.1 x hx
    exact lt_le hzy (by omega)
  ·exact h2'.1 x hx
theorem mergeV_sort {a b : List Val} (h1 : Srt a) (h2 : Srt b) : mergeV a b = sortV (a ++ b) :=
 srt_ext (mergeV_srt a b h1 h2) (sortV_srt _) fun x => by rw [mergeV_has, sortV_has, List.mem_append]
theorem listsT_app : ∀ (r l : List Nd), ∃ m, listsT (l ++ r) = listsT l ++ m
 | [], l => ⟨[], by simp⟩
 | x :: r, l => by
  obtain ⟨m, hm⟩ := listsT_app r (l ++ [x])
  refine ⟨listN x (listsT l) :: m, ?_⟩
  have e : l ++ x :: r = l ++ [x] ++ r := by simp
  rw [e, hm, listsT_snoc]
  simp
theorem atL_app {a b : List Lst} {k : Int} (h0 : 0 ≤ k) (h : k < a.length) : atL (a ++ b) k = atL a k := by
 unfold atL
 rw [List.getD_eq_getElem?_getD, List.getD_eq_getElem?_getD, List.getElem?_append_left (by omega)]
theorem lists_take {ns : List Nd} {n : Nat} {k : Int} (h0 : 0 ≤ k) (h : k < n) (hn : n ≤ ns.length) : atL (listsT (ns.take n)) k = atL (listsT ns) k := by
 obtain ⟨m, hm⟩ := listsT_app (ns.drop n) (ns.take n)
 rw [List.take_append_drop] at hm
 rw [hm, atL_app h0 (by rw [listsT_length, List.length_take]; omega)]
theorem uniL_congr {b1 b2 : List Lst} {l : List Int} (h : ∀ k ∈ l, atL b1 k = atL b2 k) : uniL b1 l = uniL b2 l := by
 have : ∀ (l : List Int) (a : List Val × Bool), (∀ k ∈ l, atL b1 k = atL b2 k) → l.foldl (uniStep b1) a = l.foldl (uniStep b2) a := by
  intro l
  induction l with
  | nil => intro a _; rfl
  | cons k r ih =>
   intro a h
   simp only [List.foldl_cons]
   have e : uniStep b1 a k = uniStep b2 a k := by unfold uniStep; rw [h k (by simp)]
   rw [e]
   exact ih _ fun q hq => h q (by simp [hq])
 unfold uniL
 rw [this l _ h]
theorem rowsL_congr {b1 b2 : List Lst} : ∀ (l : List Int) (rows : List (List Val)), (∀ k ∈ l, atL b1 k = atL b2 k) → rowsL b1 l rows = rowsL b2 l rows
 | [], rows, _ => rfl
 | k :: r, rows, h => by
  simp only [rowsL, h k (by simp)]
  split
  ·rfl
  ·exact rowsL_congr r _ fun q hq => h q (by simp [hq])
theorem listN_congr {b1 b2 : List Lst} {x : Nd} (h : ∀ k ∈ x.kids, atL b1 k = atL b2 k) : listN x b1 = listN x b2 := by
 unfold listN
 split
 ·rfl
 ·split
  ·rfl
  ·split
   ·unfold seqL; rw [rowsL_congr x.kids _ h]
   ·split
    ·exact uniL_congr fun k hk => h k (List.mem_of_mem_drop hk)
    ·exact uniL_congr h
theorem lists_at {ns : List Nd} (hg : ∀ (j : Nat) (x : Nd), ns[j]? = some x → GoodN j x) {i : Nat} {x : Nd} (hx : ns[i]? = some x) : atL (listsT ns) i = listN x (listsT ns) := by
 obtain ⟨hi, he⟩ := List.getElem?_eq_some_iff.1 hx
 have e1 : atL (listsT (ns.take (i + 1))) i = atL (listsT ns) i := lists_take (by omega) (by omega) (by omega)
 rw [← e1, List.take_succ_eq_append_getElem hi, listsT_snoc, he]
 rw [(atL_snoc (b := listN x (listsT (ns.take i))) (show (0 : Int) ≤ i by omega)).2 (by rw [listsT_length, List.length_take]; omega)]
 refine listN_congr fun k hk => ?_
 obtain ⟨j, hj⟩ := List.getElem?_of_mem hk
 obtain ⟨h0, h1⟩ := (hg i x hx).kids j k hj
 exact lists_take h0 h1 (by omega)
theorem cmpL_snoc : ∀ {a b : List Val} {x y : Val}, a.length = b.length → cmpL (a ++ [x]) (b ++ [y]) = andThen (cmpL a b) (cmpV x y)
 | [], [], x, y, _ => by
  simp only [List.nil_append, cmpL, andThen]
  split
  ·rename_i h; rw [h]; rfl
  ·rfl
 | [], _ :: _, _, _, h => by simp at h
 | _ :: _, [], _, _, h => by simp at h
 | a :: l, b :: m, x, y, h => by
  simp only [List.cons_append, cmpL]
  rw [cmpL_snoc (by simpa using h)]
  unfold andThen
  repeat' split
  all_goals first | rfl | omega
def SrtR (n : Nat) (rows : List (List Val)) : Prop := (∀ r ∈ rows, r.length = n) ∧ rows.Pairwise fun a b => cmpL a b < 0
theorem rowsX_srt {n : Nat} {rows : List (List Val)} {l : List Val} (h : SrtR n rows) (hl : Srt l) : SrtR (n + 1) (rowsX rows l) := by
 obtain ⟨h1, h2⟩ := h
 refine ⟨fun r hr => ?_, ?_⟩
 ·obtain ⟨r', h3, v, _, rfl⟩ := rowsX_mem hr
  simp [h1 r' h3]
 ·unfold rowsX
  induction rows with
  | nil => simp
  | cons a rs ih =>
   rw [List.pairwise_cons] at h2
   rw [List.flatMap_cons, List.pairwise_append]
   refine ⟨?_, ih (fun r hr => h1 r (by simp [hr])) h2.2, ?_⟩
   ·rw [List.pairwise_map]
    refine hl.imp fun {x y} hxy => ?_
    rw [cmpL_snoc rfl, (cmpL_good a).refl]
    simpa [andThen] using hxy
   ·intro p hp q hq
    obtain ⟨v, _, rfl⟩ := List.mem_map.1 hp
    obtain ⟨r', h3, u, _, rfl⟩ := rowsX_mem (rows := rs) (l := l) hq
    have := h2.1 r' h3
    rw [cmpL_snoc (by rw [h1 a (by simp), h1 r' (by simp [h3])])]
    unfold andThen
    split
    ·omega
    ·exact this
theorem rowsL_srt {bs : List Lst} (hb : ∀ b ∈ bs, Srt b.vals) : ∀ (kids : List Int) (n : Nat) (rows out : List (List Val)), SrtR n rows → rowsL bs kids rows = some out → SrtR (n + kids.length) out
 | [], n, rows, out, h, h2 => by
  simp only [rowsL] at h2
  cases h2
  exact h
 | k :: ks, n, rows, out, h, h2 => by
  simp only [rowsL] at h2
  split at h2
  ·cases h2
  ·have hs : Srt (atL bs k).vals := by
    unfold atL
    rw [List.getD_eq_getElem?_getD]
    cases e : bs[k.toNat]? with
    | none => simp [Srt]
    | some b => exact hb b (List.mem_of_getElem? e)
   have := rowsL_srt hb ks (n + 1) _ out (rowsX_srt h hs) h2
   simp only [List.length_cons]
   rw [show n + (ks.length + 1) = n + 1 + ks.length by omega]
   exact this
theorem made_cmp (name : List UInt8) (a b : List Val) : cmpV (madeV name a) (madeV name b) = cmpL a b := by
 unfold madeV
 split <;> simp [cmpV, (cmpI_good _).refl, (cmpS_good _).refl, andThen]
theorem made_srt {n : Nat} {rows : List (List Val)} (name : List UInt8) (h : SrtR n rows) : Srt (rows.map (madeV name)) := by
 unfold Srt
 rw [List.pairwise_map]
 exact h.2.imp fun {a b} h => by rw [made_cmp]; exact h
theorem range_srt (lo hi : Int) : Srt (rangeV lo hi) := by
 unfold Srt rangeV
 rw [List.pairwise_map]
 refine List.pairwise_lt_range.imp fun {i j} h => ?_
 rw [cmpV_n rfl (by omega)]
 rw [if_pos (by omega)]
 omega
theorem listN_srt {x : Nd} {bs : List Lst} : Srt (listN x bs).vals := by
 unfold listN
 split
 ·simp [Srt]
 ·split
  ·split
   ·simp [Srt]
   ·exact range_srt _ _
  ·split
   ·unfold seqL
    split
    ·simp [Srt]
    ·exact sortV_srt _
   ·generalize (if x.kind = 4 then x.kids.drop 1 else x.kids) = ks
    unfold uniL
    split
    ·simp [Srt]
    ·have : ∀ (l : List Int) (a : List Val × Bool), Srt a.1 → Srt (l.foldl (uniStep bs) a).1 := by
      intro l
      induction l with
      | nil => intro a h; exact h
      | cons k r ih => intro a _; exact ih _ (sortV_srt _)
     exact this _ _ (by simp [Srt])
theorem listsT_srt (ns : List Nd) : ∀ b ∈ listsT ns, Srt b.vals := by
 refine snoc_ind (P := fun ns => ∀ b ∈ listsT ns, Srt b.vals) (by simp [listsT]) (fun l x ih => ?_) ns
 rw [listsT_snoc]
 intro b hb
 rcases List.mem_append.1 hb with hb | hb
 ·exact ih b hb
 ·simp at hb; rw [hb]; exact listN_srt
theorem atL_srt {bs : List Lst} (hb : ∀ b ∈ bs, Srt b.vals) (k : Int) : Srt (atL bs k).vals := by
 unfold atL
 rw [List.getD_eq_getElem?_getD]
 cases h : bs[k.toNat]? with
 | none => simp [Srt]
 | some b => exact hb b (List.mem_of_getElem? h)
theorem seqL_rows {bs : List Lst} (hb : ∀ b ∈ bs, Srt b.vals) {x : Nd} {rows : List (List Val)} (h : rowsL bs x.kids [[]] = some rows) : seqL bs x = ⟨rows.map (madeV x.name), false⟩ := by
 unfold seqL
 rw [h]
 simp only
 rw [sortV_of_srt (made_srt _ (rowsL_srt hb x.kids 0 [[]] rows ⟨by simp, by simp⟩ h))]
def rowAt : List (List Val) → Nat → List Val
 | [], _ => []
 | l :: r, k => rowAt r (k / l.length) ++ (l[k % l.length]?).toList
def rowsR : List (List Val) → List (List Val)
 | [] => [[]]
 | l :: r => rowsX (rowsR r) l
def prodR : List (List Val) → Nat
 | [] => 1
 | l :: r => prodR r * l.length
theorem rowsR_len : ∀ ls : List (List Val), (rowsR ls).length = prodR ls
 | [] => rfl
 | l :: r => by rw [rowsR, rowsX_len, prodR, rowsR_len r]
theorem rowsX_get (l : List Val) : ∀ (rows : List (List Val)) (k : Nat) (a : List Val) (v : Val), rows[k / l.length]? = some a → l[k % l.length]? = some v → (rowsX rows l)[k]? = some (a ++ [v])
 | [], k, a, v, h, _ => by simp at h
 | r :: rs, k, a, v, h, hv => by
  have hpos : 0 < l.length := by
   rcases Nat.eq_zero_or_pos l.length with h0 | h0
   ·have : l = [] := List.length_eq_zero_iff.1 h0
    subst this
    simp at hv
   ·exact h0
  unfold rowsX
  rw [List.flatMap_cons]
  rcases Nat.lt_or_ge k l.length with hk | hk
  ·rw [List.getElem?_append_left (by simpa using hk)]
   rw [Nat.div_eq_of_lt hk] at h
   rw [Nat.mod_eq_of_lt hk] at hv
   simp at h
   subst h
   simp [hv]
  ·rw [List.getElem?_append_right (by simpa using hk), List.length_map]
   have e1 : k / l.length = (k - l.length) / l.length + 1 := by
    conv => lhs; rw [show k = (k - l.length) + l.length by omega]
    exact Nat.add_div_right _ hpos
   have e2 : k % l.length = (k - l.length) % l.length := (Nat.mod_eq_sub_mod hk)
   rw [e1] at h
   rw [e2] at hv
   exact rowsX_get l rs (k - l.length) a v (by simpa using h) hv
theorem rowsR_get : ∀ (ls : List (List Val)) (k : Nat), k < prodR ls → (rowsR ls)[k]? = some (rowAt ls k)
 | [], k, h => by
  simp [prodR] at h
  subst h
  rfl
 | l :: r, k, h => by
  simp only [prodR] at h
  have hpos : 0 < l.length := by
   rcases Nat.eq_zero_or_pos l.length with h0 | h0
   ·rw [h0] at h; simp at h
   ·exact h0
  have h1 : k / l.length < prodR r := Nat.div_lt_of_lt_mul (by rw [Nat.mul_comm]; exact h)
  have h2 := Nat.mod_lt k hpos
  have e := List.getElem?_eq_getElem h2
  rw [rowsR, rowAt, e]
  exact rowsX_get l _ k _ _ (rowsR_get r _ h1) e
theorem rowsL_rev {bs : List Lst} : ∀ (kids : List Int) (ls : List (List Val)), prodR ls ≤ 1024 →
  rowsL bs kids (rowsR ls) = if (kids.foldl (fun (a : Nat × Bool) k => (a.1 * (atL bs k).vals.length, a.2 || (atL bs k).many || decide (1024 < a.1 * (atL bs k).vals.length))) (prodR ls, false)).2 then none
   else some (rowsR (kids.reverse.map (fun k => (atL bs k).vals) ++ ls))
 | [], ls, h => by simp [rowsL]
 | k :: r, ls, h => by
  have stay : ∀ (l : List Int) (n : Nat), (l.foldl (fun (a : Nat × Bool) k => (a.1 * (atL bs k).vals.length, a.2 || (atL bs k).many || decide (1024 < a.1 * (atL bs k).vals.length))) (n, true)).2 = true := by
   intro l
   induction l with
   | nil => intro n; rfl
   | cons q l ih => intro n; simp only [List.foldl_cons, Bool.true_or]; exact ih _
  simp only [rowsL, List.foldl_cons, rowsR_len, Bool.false_or]
  by_cases hc : (atL bs k).many = true ∨ 1024 < prodR ls * (atL bs k).vals.length
  ·have e : ((atL bs k).many || decide (1024 < prodR ls * (atL bs k).vals.length)) = true := by simpa using hc
   rw [if_pos hc, e, if_pos (stay _ _)]
  ·have e : ((atL bs k).many || decide (1024 < prodR ls * (atL bs k).vals.length)) = false := by
    rw [not_or] at hc
    simp at hc ⊢
    exact hc
   rw [if_neg hc, e]
   rw [not_or] at hc
   have := rowsL_rev (bs := bs) r ((atL bs k).vals :: ls) (by simp only [prodR]; omega)
   simp only [rowsR, prodR] at this
   rw [this]
   simp [List.append_assoc]
theorem formedL_in : ∀ {l : List Val}, formedL l = true → ∀ {v : Val}, v ∈ l → formedV v = true
 | a :: r, h, v, hv => by
  simp only [formedL, Bool.and_eq_true] at h
  rcases List.mem_cons.1 hv with rfl | hv
  ·exact h.1
  ·exact formedL_in h.2 hv
theorem formedL_of : ∀ {l : List Val}, (∀ v ∈ l, formedV v = true) → formedL l = true
 | [], _ => rfl
 | a :: r, h => by simp only [formedL, Bool.and_eq_true]; exact ⟨h a (List.mem_cons_self ..), formedL_of fun v hv => h v (List.mem_cons_of_mem _ hv)⟩
theorem okVs_take {l : List Val} (h : okVs l) (k : Nat) : okVs (l.take k) := okVs_of fun v hv => okVs_mem h v (List.mem_of_mem_take hv)
theorem formedL_takeT {l : List Val} (h : formedL l = true) (k : Nat) : formedL (l.take k) = true := formedL_of fun v hv => formedL_in h (List.mem_of_mem_take hv)
def cut (p s : List UInt8) : Option (List UInt8) := if p.isPrefixOf s then some (s.drop p.length) else none
theorem parse_snoc : ∀ (l m : List UInt8) (acc a : Nat), Lib.parseUint10 acc l = .ok a → Lib.parseUint10 acc (l ++ m) = Lib.parseUint10 a m
 | [], m, acc, a, h => by
  simp only [Lib.parseUint10] at h
  injection h with h
  rw [h]; rfl
 | c :: r, m, acc, a, h => by
  simp only [Lib.parseUint10, List.cons_append] at h ⊢
  split at h
  ·rename_i h1
   rw [if_pos h1]
   split at h
   ·cases h
   ·rename_i h2
    rw [if_neg h2]
    split at h
    ·cases h
    ·rename_i h3
     rw [if_neg h3]
     exact parse_snoc r m _ a h
  ·cases h
theorem parse_dec : ∀ (u : Nat), u < 18446744073709551616 → Lib.parseUint10 0 (Lib.decDigits u) = .ok u := by
 intro u
 induction u using Nat.strongRecOn with
 | _ u ih =>
  intro hu
  by_cases h10 : u < 10
  ·rw [Lib.decDigits_one h10]
   have e : (UInt8.ofNat (48 + u)).toNat = 48 + u := by simp; omega
   simp only [Lib.parseUint10, e]
   rw [if_pos (by omega), if_neg (by omega), if_neg (by omega)]
   congr 1
   omega
  ·rw [Lib.decDigits, dif_neg h10, parse_snoc _ _ 0 (u / 10) (ih (u / 10) (by omega) (by omega))]
   have e : (UInt8.ofNat (48 + u % 10)).toNat = 48 + u % 10 := by simp; omega
   simp only [Lib.parseUint10, e]
   rw [if_pos (by omega), if_neg (by omega), if_neg (by omega)]
   congr 1
   omega
theorem dec_cons (u : Nat) : ∃ c r, Lib.decDigits u = c :: r ∧ 48 ≤ c.toNat ∧ c.toNat ≤ 57 := by
 induction u using Nat.strongRecOn with
 | _ u ih =>
  by_cases h10 : u < 10
  ·rw [Lib.decDigits_one h10]
   have e : (UInt8.ofNat (48 + u)).toNat = 48 + u := by simp; omega
   exact ⟨_, [], rfl, by omega, by omega⟩
  ·obtain ⟨c, r, h1, h2⟩ := ih (u / 10) (by omega)
   rw [Lib.decDigits, dif_neg h10, h1]
   exact ⟨c, _, rfl, h2⟩
theorem atoi_itoa {n : Int} (h : i64 n) : Lib.atoiAll (Lib.itoa n) = .ok n := by
 unfold i64 at h
 unfold Lib.itoa
 split
 ·have hp := parse_dec n.natAbs (by omega)
  obtain ⟨c, r, h1, _⟩ := dec_cons n.natAbs
  rw [Lib.atoiAll_minus, Lib.parseMag, if_neg (by rw [h1]; simp), hp, Lib.signed, if_neg (by omega)]
  congr 1
  omega
 ·have hp := parse_dec n.toNat (by omega)
  obtain ⟨c, r, h1, h2⟩ := dec_cons n.toNat
  rw [h1] at hp ⊢
  rw [Lib.atoiAll_plain c r (by omega) (by omega), Lib.parseMag, if_neg (by simp), hp, Lib.signless, if_neg (by omega)]
  congr 1
  omega
def idxFrom (s : List UInt8) : List (List UInt8) → Nat → Int
 | [], _ => -1
 | x :: r, i => if x = s then (i : Int) else idxFrom s r (i + 1)
def idxS (l : List (List UInt8)) (s : List UInt8) : Int := idxFrom s l 0
theorem idxFrom_lt {s : List UInt8} : ∀ (l : List (List UInt8)) (i : Nat), idxFrom s l i = -1 ∨ (i ≤ idxFrom s l i ∧ idxFrom s l i < i + l.length)
 | [], i => .inl rfl
 | x :: r, i => by
  simp only [idxFrom]
  split
  ·right; simp; omega
  ·rcases idxFrom_lt (s := s) r (i + 1) with h | h
   ·exact .inl h
   ·right; simp; omega
def optsN (x : Nd) : Int := if x.kind = 1 then x.hi - x.lo + 1 else if x.kind = 2 then x.kids.length else 0
structure OptN (x : Nd) : Prop where
 ok : okN x
 rng : x.lo ≤ x.hi ∧ -4611686018427387904 ≤ x.lo ∧ x.hi ≤ 4611686018427387904 ∧ x.hi < x.lo + 1099511627776
 klen : x.kids.length ≤ 2000
 kl2 : x.kind = 2 → x.kids.length ≤ 1000
 ch : x.kind = 2 → 1 ≤ x.kids.length ∧ (x.labels.length = 0 ∨ x.labels.length = x.kids.length)
theorem optsN_bound {x : Nd} (h : OptN x) : 0 ≤ optsN x ∧ optsN x ≤ 1099511627776 := by
 have := h.rng
 have := h.klen
 unfold optsN
 split
 ·omega
 ·split <;> omega
def intL (s : List UInt8) : Option Int := match Lib.atoiAll s with
 | .ok n => if Lib.itoa n = s then some n else none
 | _ => none
def cntR (a b : Nd) (k : Nat) : Int × Bool :=
 if a.kind = 1 then (idxS b.labels (Lib.itoa (a.lo + k)), decide (0 ≤ idxS b.labels (Lib.itoa (a.lo + k))))
 else if b.kind = 1 then (if a.labels.length = 0 then (0, false) else match intL (a.labels.getD k []) with
  | some x => if x < b.lo ∨ b.hi < x then (0, false) else (x - b.lo, true)
  | none => (0, false))
 else if a.labels.length = 0 ∨ b.labels.length = 0 then (k, decide (k < b.kids.length))
 else if k < b.labels.length ∧ b.labels.getD k [] = a.labels.getD k [] then (k, true)
 else (idxS b.labels (a.labels.getD k []), decide (0 ≤ idxS b.labels (a.labels.getD k [])))
def optR (a b : Nd) (k : Int) : Int × Bool :=
 if k < 0 ∨ optsN a ≤ k ∨ optsN b = 0 then (0, false)
 else if a.kind = 1 ∧ b.kind = 1 then (min (max (a.lo + k) b.lo) b.hi - b.lo, decide (min (max (a.lo + k) b.lo) b.hi = a.lo + k))
 else if (cntR a b k.toNat).2 = true then ((cntR a b k.toNat).1, true) else (min k (optsN b - 1), false)
theorem valid_node (ns : List Nd) (h : validF [] ns = 0) : ∀ (j : Nat) (x : Nd), ns[j]? = some x → nodeE j x = 0 := by
 refine snoc_ind (P := fun ns => validF [] ns = 0 → ∀ (j : Nat) (x : Nd), ns[j]? = some x → nodeE j x = 0) (fun _ j x hx => by simp at hx) (fun l x ih h => ?_) ns h
 have h1 := validF_pre h
 have ih := ih h1
 have hs := validF_snoc [] l x h1
 rw [h] at hs
 simp only [List.nil_append] at hs
 obtain ⟨hg, -, -, -⟩ := step_parts hs.symm
 intro j y hy
 rcases Nat.lt_or_ge j l.length with hj | hj
 ·rw [List.getElem?_append_left hj] at hy
  exact ih j y hy
 ·rw [List.getElem?_append_right hj] at hy
  have e : j - l.length = 0 := by
   have := (List.getElem?_eq_some_iff.1 hy).1
   simp at this
   omega
  rw [e] at hy
  simp at hy
  subst hy
  rw [show j = l.length by omega]
  exact hg
structure LawN (LB : List (List UInt8)) (x : Nd) : Prop where
 opt : OptN x
 lab : ∀ s ∈ x.labels, s ∈ LB
 ll : x.labels.length ≤ 1000
theorem uni_stay {bs : List Lst} : ∀ (l : List Int) (a : List Val × Bool), a.2 = true → (l.foldl (uniStep bs) a).2 = true
 | [], _, h => h
 | k :: r, a, h => uni_stay r _ (by simp [uniStep, h])
theorem sortV_ne {l : List Val} (h : l ≠ []) : sortV l ≠ [] := by
 cases l with
 | nil => exact absurd rfl h
 | cons a r => exact List.ne_nil_of_mem ((sortV_has (a :: r) a).2 (by simp))
theorem uni_keep {bs : List Lst} : ∀ (l : List Int) (a : List Val × Bool), a.1 ≠ [] → (l.foldl (uniStep bs) a).1 ≠ []
 | [], _, h => h
 | k :: r, a, h => uni_keep r _ (sortV_ne (by simp [h]))
theorem uni_ne {bs : List Lst} {l : List Int} (hl : l ≠ []) (h : ∀ k ∈ l, (atL bs k).many = false → (atL bs k).vals ≠ []) (hm : (uniL bs l).many = false) : (uniL bs l).vals ≠ [] := by
 unfold uniL at hm ⊢
 split at hm
 ·simp at hm
 ·rename_i hf
  rw [if_neg hf]
  simp only
  cases l with
  | nil => exact absurd rfl hl
  | cons k r =>
   simp only [List.foldl_cons] at hf ⊢
   have hk : (uniStep bs ([], false) k).2 = false := by
    cases e : (uniStep bs ([], false) k).2 with
    | false => rfl
    | true => exact absurd (uni_stay r _ e) hf
   refine uni_keep r _ (sortV_ne ?_)
   simp only [uniStep, Bool.false_or, Bool.or_eq_false_iff] at hk
   simp only [List.nil_append]
   exact h k (by simp) hk.1
theorem rows_ne {bs : List Lst} : ∀ (kids : List Int) (rows out : List (List Val)), rows ≠ [] → (∀ k ∈ kids, (atL bs k).many = false → (atL bs k).vals ≠ []) → rowsL bs kids rows = some out → out ≠ []
 | [], rows, out, h, _, h2 => by
  simp only [rowsL] at h2
  cases h2
  exact h
 | k :: ks, rows, out, h, hk, h2 => by
  simp only [rowsL] at h2
  split at h2
  ·cases h2
  ·rename_i hc
   rw [not_or] at hc
   refine rows_ne ks _ out ?_ (fun q hq => hk q (by simp [hq])) h2
   have hv := hk k (by simp) (by simpa using hc.1)
   have := rowsX_len (atL bs k).vals rows
   intro e
   rw [e] at this
   have a := List.length_pos_iff.2 h
   have b := List.length_pos_iff.2 hv
   have := Nat.mul_pos a b
   simp at *
   omega
theorem valid_step (ns : List Nd) (h : validF [] ns = 0) : ∀ (j : Nat) (x : Nd), ns[j]? = some x → stepE (ns.take j) (lensT (ns.take j)) (sizsT (ns.take j)) x = 0 := by
 intro j x hx
 obtain ⟨hj, he⟩ := List.getElem?_eq_some_iff.1 hx
 have e : ns = ns.take j ++ x :: ns.drop (j + 1) := by
  rw [← he]
  simp
 have h1 : validF [] (ns.take j) = 0 := by
  rw [e] at h
  exact validF_pre h
 have h2 : validF [] (ns.take j ++ [x]) = 0 := by
  have e2 : ns = (ns.take j ++ [x]) ++ ns.drop (j + 1) := by simpa using e
  rw [e2] at h
  exact validF_pre h
 rw [validF_snoc [] _ x h1] at h2
 simpa using h2
theorem formed_parts {i : Int} {x : Nd} (h : formedN i x = true) : (x.kind = 2 → 1 ≤ x.kids.length) ∧ (x.kind = 4 → x.kids.length = x.values.length + 1) := by
 unfold formedN at h
 simp only [Bool.and_eq_true, Bool.or_eq_true, decide_eq_true_eq] at h
 obtain ⟨⟨⟨⟨_, h2⟩, _⟩, h4⟩, _⟩ := h
 exact ⟨fun e => by rcases h2 with h2 | h2 <;> omega, fun e => by omega⟩
theorem nodeE_formed {i : Int} {x : Nd} (h : nodeE i x = 0) : formedN i x = true := by
 unfold nodeE at h
 split at h
 ·omega
 ·rename_i hf; simpa using hf
theorem lists_ne (ns : List Nd) (ho : ∀ x ∈ ns, okN x) (h : validF [] ns = 0) : ∀ (n : Nat) (k : Nat), k ≤ n → k < ns.length → (atL (listsT ns) k).many = false → (atL (listsT ns) k).vals ≠ [] := by
 have hg := valid_good ns ho h
 intro n
 induction n with
 | zero =>
  intro k hk hlt hm
  have hx := List.getElem?_eq_getElem hlt
  have hG := hg k _ hx
  have hst := valid_step ns h k _ hx
  obtain ⟨h1, _, _, h4⟩ := step_parts hst
  have hlen : (ns.take k).length = k := by simp; omega
  rw [hlen] at h1
  have hfp := formed_parts (nodeE_formed h1)
  have hk0 : (ns[k]).kids = [] := by
   cases e : (ns[k]).kids with
   | nil => rfl
   | cons q r => have := hG.kids 0 q (by rw [e]; rfl); omega
  rw [lists_at hg hx] at hm ⊢
  have hnum := numbersN_range hG.num
  rw [hk0] at hfp
  simp at hfp
  unfold listN at hm ⊢
  split
  ·simp
  ·split
   ·split
    ·rename_i e; rw [if_neg (by assumption), if_pos (by assumption), if_pos e] at hm; simp at hm
    ·simp only [rangeV]; intro e; have := congrArg List.length e; simp at this; omega
   ·split
    ·unfold seqL
     rw [hk0]
     simp [rowsL, sortV_ne]
    ·have := hG.kind
     omega
 | succ n ih =>
  intro k hk hlt hm
  have hx := List.getElem?_eq_getElem hlt
  have hG := hg k _ hx
  have hst := valid_step ns h k _ hx
  obtain ⟨h1, _, _, h4⟩ := step_parts hst
  have hlen : (ns.take k).length = k := by simp; omega
  rw [hlen] at h1
  have hfp := formed_parts (nodeE_formed h1)
  rw [lists_at hg hx] at hm ⊢
  have hnum := numbersN_range hG.num
  have hkid : ∀ q ∈ (ns[k]).kids, (atL (listsT ns) q).many = false → (atL (listsT ns) q).vals ≠ [] := fun q hq => by
   obtain ⟨j, hj⟩ := List.getElem?_of_mem hq
   obtain ⟨q0, q1⟩ := hG.kids j q hj
   obtain ⟨q, rfl⟩ := Int.eq_ofNat_of_zero_le q0
   exact ih q (by omega) (by omega)
  unfold listN at hm ⊢
  split
  ·simp
  ·split
   ·split
    ·rename_i e; rw [if_neg (by assumption), if_pos (by assumption), if_pos e] at hm; simp at hm
    ·simp only [rangeV]; intro e; have := congrArg List.length e; simp at this; omega
   ·split
    ·rename_i e0 e1 e3
     rw [if_neg e0, if_neg e1, if_pos e3] at hm
     unfold seqL at hm ⊢
     split
     ·rename_i e; rw [e] at hm; simp at hm
     ·rename_i rows e
      have := rows_ne _ _ _ (by simp) hkid e
      exact sortV_ne (by simpa using this)
    ·rename_i e0 e1 e3
     rw [if_neg e0, if_neg e1, if_neg e3] at hm
     refine uni_ne ?_ (fun q hq => hkid q ?_) hm
     ·split
      ·rename_i e4
       have hb := h4 e4
       have hkl := hfp.2 e4
       unfold boundE at hb
       simp only at hb
       split at hb
       ·omega
       ·rename_i hmany
        split at hb
        ·rename_i hs
         have hsl := sameVs_lenE hs
         have hq := hG.kids 0 ((ns[k]).kids.getD 0 0) (by
          rw [List.getD_eq_getElem?_getD]
          have : 0 < (ns[k]).kids.length := by omega
          rw [List.getElem?_eq_getElem this]; rfl)
         obtain ⟨q, hqe⟩ := Int.eq_ofNat_of_zero_le hq.1
         rw [hqe] at hsl hmany hq
         simp only [Int.toNat_natCast] at hsl hmany
         rw [List.take_take, show min (q + 1) k = q + 1 by omega, lists_take (by omega) (by omega) (by omega)] at hsl hmany
         have := ih q (by omega) (by omega) (by simpa using hmany)
         have := List.length_pos_iff.2 this
         intro e
         have := congrArg List.length e
         simp at this
         omega
        ·omega
      ·have := hG.kind
       have := hfp.1 (by omega)
       exact List.ne_nil_of_length_pos (by omega)
     ·split at hq
      ·exact List.mem_of_mem_drop hq
      ·exact hq
def sizP (ss : List Int) (x : Nd) : Int :=
 if x.kind = 0 then sizeV x.value else if x.kind = 1 then 1 else if x.kind = 3 then 1 + sumK ss x.kids else max 1 (mostK ss (armsN x))
theorem sizP_le {ss : List Int} {x : Nd} : sizP ss x ≤ 1024 ↔ sizN ss x ≤ 1024 := by
 unfold sizP sizN
 split
 ·rfl
 ·split
  ·rfl
  ·split
   ·rfl
   ·omega
theorem arms_ne {ns : List Nd} (ho : ∀ x ∈ ns, okN x) (h : validF [] ns = 0) {x : Nd} (hk : x.kind = 2 ∨ x.kind = 4) (hs : stepE ns (lensT ns) (sizsT ns) x = 0) : ∃ q ∈ armsN x, 0 ≤ q ∧ q < ns.length := by
 obtain ⟨h1, _, _, h4⟩ := step_parts hs
 have hfp := formed_parts (nodeE_formed h1)
 have hn := node_ok h1
 have mem : ∀ q ∈ x.kids, 0 ≤ q ∧ q < ns.length := fun q hq => by
  obtain ⟨j, hj⟩ := List.getElem?_of_mem hq
  exact hn.kids j q hj
 rcases hk with e | e
 ·unfold armsN
  rw [if_pos e]
  cases hc : x.kids with
  | nil => have := hfp.1 e; rw [hc] at this; simp at this
  | cons q r => exact ⟨q, by simp, mem q (by rw [hc]; simp)⟩
 ·unfold armsN
  rw [if_neg (by omega)]
  have hb := h4 e
  have hkl := hfp.2 e
  have : 1 ≤ x.values.length := by
   unfold boundE at hb
   simp only at hb
   split at hb
   ·omega
   ·rename_i hmany
    split at hb
    ·rename_i hs
     have hsl := sameVs_lenE hs
     have hlt : 0 < x.kids.length := by omega
     have hq := mem (x.kids.getD 0 0) (by rw [List.getD_eq_getElem?_getD, List.getElem?_eq_getElem hlt]; exact List.getElem_mem hlt)
     obtain ⟨q, hqe⟩ := Int.eq_ofNat_of_zero_le hq.1
     rw [hqe] at hsl hmany hq
     simp only [Int.toNat_natCast] at hsl hmany
     rw [lists_take (by omega) (by omega) (by omega)] at hsl hmany
     have := lists_ne ns ho h q q (by omega) (by omega) (by simpa using hmany)
     have := List.length_pos_iff.2 this
     omega
    ·omega
  have hlt : 1 < x.kids.length := by omega
  refine ⟨x.kids[1], ?_, mem _ (List.getElem_mem hlt)⟩
  refine List.mem_of_getElem? (i := 0) ?_
  rw [List.getElem?_drop]
  exact List.getElem?_eq_getElem hlt
theorem valid_sizes (ns : List Nd) (ho : ∀ x ∈ ns, okN x) (h : validF [] ns = 0) : ∀ y ∈ sizsT ns, 1 ≤ y := by
 refine snoc_ind (P := fun ns => (∀ x ∈ ns, okN x) → validF [] ns = 0 → ∀ y ∈ sizsT ns, 1 ≤ y) (fun _ _ => by simp [sizsT]) (fun l x ih ho h => ?_) ns ho h
 have h1 := validF_pre h
 have hol : ∀ y ∈ l, okN y := fun y hy => ho y (List.mem_append_left _ hy)
 have ih := ih hol h1
 have hs := validF_snoc [] l x h1
 rw [h] at hs
 simp only [List.nil_append] at hs
 rw [sizsT_snoc]
 intro y hy
 rcases List.mem_append.1 hy with hy | hy
 ·exact ih y hy
 ·simp at hy
  subst hy
  have hb := valid_lens l h1
  have hk := (node_ok (step_parts hs.symm).1).kind
  unfold sizN
  split
  ·have := sizeV_pos x.value; omega
  ·split
   ·omega
   ·split
    ·have := (sumK_bound (by omega) hb.2 x.kids).1; omega
    ·obtain ⟨q, hq, q0, q1⟩ := arms_ne hol h1 (by omega) hs.symm
     have := (mostK_ge (ss := sizsT l) (armsN x) 0 q hq).1
     have h2 : 1 ≤ atI (sizsT l) q := by
      unfold atI
      have hlt : q.toNat < (sizsT l).length := by rw [sizsT_length]; omega
      rw [List.getD_eq_getElem?_getD, List.getElem?_eq_getElem hlt]
      exact ih _ (List.getElem_mem hlt)
     unfold mostK
     omega
theorem sizP_eq {ns : List Nd} (ho : ∀ x ∈ ns, okN x) (h : validF [] ns = 0) {x : Nd} (hs : stepE ns (lensT ns) (sizsT ns) x = 0) : sizP (sizsT ns) x = sizN (sizsT ns) x := by
 have hk := (node_ok (step_parts hs).1).kind
 unfold sizP sizN
 split
 ·rfl
 ·split
  ·rfl
  ·split
   ·rfl
   ·obtain ⟨q, hq, q0, q1⟩ := arms_ne ho h (by omega) hs
    have := (mostK_ge (ss := sizsT ns) (armsN x) 0 q hq).1
    have h2 : 1 ≤ atI (sizsT ns) q := by
     unfold atI
     have hlt : q.toNat < (sizsT ns).length := by rw [sizsT_length]; omega
     rw [List.getD_eq_getElem?_getD, List.getElem?_eq_getElem hlt]
     exact valid_sizes ns ho h _ (List.getElem_mem hlt)
    unfold mostK at *
    omega
theorem atI_app {a b : List Int} {k : Int} (h0 : 0 ≤ k) (h : k < a.length) : atI (a ++ b) k = atI a k := by
 unfold atI
 rw [List.getD_eq_getElem?_getD, List.getD_eq_getElem?_getD, List.getElem?_append_left (by omega)]
theorem sumK_congr {a b : List Int} {l : List Int} (h : ∀ k ∈ l, atI a k = atI b k) : sumK a l = sumK b l := by
 unfold sumK
 have : ∀ (l : List Int) (s : Int), (∀ k ∈ l, atI a k = atI b k) → l.foldl (fun s k => s + atI a k) s = l.foldl (fun s k => s + atI b k) s := by
  intro l
  induction l with
  | nil => intro s _; rfl
  | cons k r ih => intro s h; simp only [List.foldl_cons]; rw [h k (by simp)]; exact ih _ fun q hq => h q (by simp [hq])
 exact this l 0 h
theorem mostK_congr {a b : List Int} {l : List Int} (h : ∀ k ∈ l, atI a k = atI b k) : mostK a l = mostK b l := by
 unfold mostK
 have : ∀ (l : List Int) (s : Int), (∀ k ∈ l, atI a k = atI b k) → l.foldl (fun s k => max s (atI a k)) s = l.foldl (fun s k => max s (atI b k)) s := by
  intro l
  induction l with
  | nil => intro s _; rfl
  | cons k r ih => intro s h; simp only [List.foldl_cons]; rw [h k (by simp)]; exact ih _ fun q hq => h q (by simp [hq])
 exact this l 0 h
theorem arms_sub {x : Nd} {q : Int} (h : q ∈ armsN x) : q ∈ x.kids := by
 unfold armsN at h
 split at h
 ·exact h
 ·exact List.mem_of_mem_drop h
theorem lenN_congr {a b : List Int} {x : Nd} (h : ∀ k ∈ x.kids, atI a k = atI b k) (h4 : x.kind = 4 → 0 < x.kids.length) (hk : 0 ≤ x.kind ∧ x.kind ≤ 4) : lenN a x = lenN b x := by
 unfold lenN
 split
 ·rfl
 ·split
  ·rfl
  ·split
   ·exact sumK_congr h
   ·split
    ·rw [mostK_congr fun q hq => h q (arms_sub hq)]
    ·have : 0 < x.kids.length := h4 (by omega)
     rw [mostK_congr fun q hq => h q (arms_sub hq), h (x.kids.getD 0 0) (by rw [List.getD_eq_getElem?_getD, List.getElem?_eq_getElem this]; exact List.getElem_mem this)]
theorem sizP_congr {a b : List Int} {x : Nd} (h : ∀ k ∈ x.kids, atI a k = atI b k) : sizP a x = sizP b x := by
 unfold sizP
 rw [sumK_congr h, mostK_congr fun q hq => h q (arms_sub hq)]
end Go.Ax
namespace Go.Ax
open Go
structure SetOK (ns : List Nd) (n : Nat) : Prop where
 hn : n ≤ ns.length
 len : ns.length ≤ 4096
 ok : ∀ x ∈ ns, okN x
 val : validF [] (ns.take n) = 0
variable {ns : List Nd} {n : Nat}
theorem SetOK.okT (h : SetOK ns n) : ∀ x ∈ ns.take n, okN x := fun x hx => h.ok x (List.mem_of_mem_take hx)
theorem SetOK.goodT (h : SetOK ns n) : ∀ (j : Nat) (x : Nd), (ns.take n)[j]? = some x → GoodN j x := valid_good _ h.okT h.val
theorem take_get {i : Nat} {x : Nd} (hi : i < n) (hx : ns[i]? = some x) : (ns.take n)[i]? = some x := by rw [List.getElem?_take, if_pos hi]; exact hx
theorem SetOK.node (h : SetOK ns n) {i : Nat} {x : Nd} (hi : i < n) (hx : ns[i]? = some x) : GoodN i x := h.goodT i x (take_get hi hx)
theorem SetOK.atE (h : SetOK ns n) {k : Int} (h0 : 0 ≤ k) (h1 : k < n) : atL (listsT (ns.take n)) k = atL (listsT ns) k := lists_take h0 h1 h.hn
theorem SetOK.vals (h : SetOK ns n) {k : Int} (h0 : 0 ≤ k) (h1 : k < n) : (atL (listsT ns) k).vals.length ≤ 1024 ∧ ∀ v ∈ (atL (listsT ns) k).vals, okV v := by
 rw [← h.atE h0 h1]; exact atL_good (listsT_good _ h.goodT) k
theorem SetOK.at (h : SetOK ns n) {i : Nat} {x : Nd} (hi : i < n) (hx : ns[i]? = some x) : atL (listsT ns) i = listN x (listsT ns) := by
 rw [← h.atE (by omega) (by omega), lists_at h.goodT (take_get hi hx)]
 refine listN_congr fun k hk => ?_
 obtain ⟨j, hj⟩ := List.getElem?_of_mem hk
 obtain ⟨h0, h1⟩ := (h.node hi hx).kids j k hj
 exact h.atE h0 (by omega)
theorem srtT (ns : List Nd) (k : Int) : Srt (atL (listsT ns) k).vals := atL_srt (listsT_srt ns) k
theorem SetOK.ne (h : SetOK ns n) {k : Int} (h0 : 0 ≤ k) (h1 : k < n) (hm : (atL (listsT ns) k).many = false) : (atL (listsT ns) k).vals ≠ [] := by
 rw [← h.atE h0 h1] at hm ⊢
 obtain ⟨k, rfl⟩ := Int.eq_ofNat_of_zero_le h0
 exact lists_ne _ h.okT h.val k k (Nat.le_refl _) (by rw [List.length_take]; have := h.hn; omega) hm
theorem SetOK.step (h : SetOK ns n) {i : Nat} {x : Nd} (hi : i < n) (hx : ns[i]? = some x) : stepE (ns.take i) (lensT (ns.take i)) (sizsT (ns.take i)) x = 0 := by
 have := valid_step _ h.val i x (take_get hi hx)
 rwa [List.take_take, Nat.min_eq_left (by omega)] at this
theorem SetOK.nodeOK (h : SetOK ns n) {i : Nat} {x : Nd} (hi : i < n) (hx : ns[i]? = some x) : NodeOK i x := by
 have := node_ok (step_parts (h.step hi hx)).1
 rwa [List.length_take, Nat.min_eq_left (by have := h.hn; omega)] at this
theorem uni_at {bs : List Lst} {kids : List Int} {j : Nat} {k : Int} {a : List Val × Bool} (hk : kids[j]? = some k) (h : (kids.take j).foldl (uniStep bs) ([], false) = a) :
  (kids.take (j + 1)).foldl (uniStep bs) ([], false) = uniStep bs a k := by
 obtain ⟨hj, he⟩ := List.getElem?_eq_some_iff.1 hk
 rw [List.take_succ_eq_append_getElem hj, List.foldl_append, h, he]; rfl
theorem uni_bad {bs : List Lst} {kids : List Int} {j : Nat} (h : ((kids.take j).foldl (uniStep bs) ([], false)).2 = true) : uniL bs kids = ⟨[], true⟩ := by
 have e : (kids.foldl (uniStep bs) ([], false)).2 = true := by
  conv => lhs; rw [← List.take_append_drop j kids, List.foldl_append]
  exact uni_stay _ _ h
 unfold uniL
 rw [if_pos e]
theorem uni_good {bs : List Lst} {kids : List Int} {out : List Val} (h : kids.foldl (uniStep bs) ([], false) = (out, false)) : uniL bs kids = ⟨out, false⟩ := by
 unfold uniL
 rw [h]
 rfl
def proStep (bs : List Lst) (a : Nat × Bool) (k : Int) : Nat × Bool := (a.1 * (atL bs k).vals.length, a.2 || (atL bs k).many || decide (1024 < a.1 * (atL bs k).vals.length))
theorem pro_stay {bs : List Lst} : ∀ (l : List Int) (a : Nat × Bool), a.2 = true → (l.foldl (proStep bs) a).2 = true
 | [], _, h => h
 | k :: r, a, h => pro_stay r _ (by simp [proStep, h])
theorem rows_rev {bs : List Lst} (kids : List Int) : rowsL bs kids [[]] = if (kids.foldl (proStep bs) (1, false)).2 = true then none else some (rowsR (kids.map fun k => (atL bs k).vals).reverse) := by
 have := rowsL_rev (bs := bs) kids [] (by simp [prodR])
 simp only [rowsR, prodR, List.append_nil] at this
 rw [this, List.map_reverse]
 rfl
theorem pro_at {bs : List Lst} {kids : List Int} {j : Nat} {k : Int} {a : Nat × Bool} (hk : kids[j]? = some k) (h : (kids.take j).foldl (proStep bs) (1, false) = a) :
  (kids.take (j + 1)).foldl (proStep bs) (1, false) = proStep bs a k := by
 obtain ⟨hj, he⟩ := List.getElem?_eq_some_iff.1 hk
 rw [List.take_succ_eq_append_getElem hj, List.foldl_append, h, he]; rfl
theorem pro_bad {bs : List Lst} {x : Nd} {j : Nat} (h : ((x.kids.take j).foldl (proStep bs) (1, false)).2 = true) : seqL bs x = ⟨[], true⟩ := by
 have e : (x.kids.foldl (proStep bs) (1, false)).2 = true := by
  conv => lhs; rw [← List.take_append_drop j x.kids, List.foldl_append]
  exact pro_stay _ _ h
 unfold seqL
 rw [rows_rev, if_pos e]
theorem pro_prod {bs : List Lst} : ∀ (kids : List Int) (a : Nat × Bool), (kids.foldl (proStep bs) a).1 = a.1 * prodR (kids.map fun k => (atL bs k).vals).reverse := by
 intro kids
 refine snoc_ind (P := fun kids => ∀ a : Nat × Bool, (kids.foldl (proStep bs) a).1 = a.1 * prodR (kids.map fun k => (atL bs k).vals).reverse) (fun a => by simp [prodR]) (fun l x ih a => ?_) kids
 rw [List.foldl_append, List.map_append, List.reverse_append]
 simp only [List.foldl_cons, List.foldl_nil, List.map_cons, List.map_nil, List.reverse_singleton, List.singleton_append, prodR]
 rw [proStep, ih a, Nat.mul_assoc]
theorem pro_good {bs : List Lst} (hb : ∀ b ∈ bs, Srt b.vals) {x : Nd} {t : Nat} (h : x.kids.foldl (proStep bs) (1, false) = (t, false)) :
  seqL bs x = ⟨(rowsR (x.kids.map fun k => (atL bs k).vals).reverse).map (madeV x.name), false⟩ ∧ t = prodR (x.kids.map fun k => (atL bs k).vals).reverse := by
 have hr : rowsL bs x.kids [[]] = some (rowsR (x.kids.map fun k => (atL bs k).vals).reverse) := by
  rw [rows_rev, h]; rfl
 refine ⟨seqL_rows hb hr, ?_⟩
 have := pro_prod (bs := bs) x.kids (1, false)
 rw [h] at this
 simpa using this
theorem rowAt_step {ls : List (List Val)} {q kk : Nat} {l : List Val} {v : Val} (hl : ls[q]? = some l) (hv : l[kk % l.length]? = some v) :
  rowAt (ls.take (q + 1)).reverse kk = rowAt (ls.take q).reverse (kk / l.length) ++ [v] := by
 obtain ⟨h1, h2⟩ := List.getElem?_eq_some_iff.1 hl
 rw [List.take_succ_eq_append_getElem h1, List.reverse_append, h2]
 simp only [List.reverse_singleton, List.singleton_append, rowAt, hv]
 rfl
end Go.Ax
namespace Go.Ax
open Go
structure Mt where
 old : Nat
 now : Nat
 opts : List Int
 same : List Bool
def encBs (l : List Bool) : List AV := l.map AV.bool
def encM (m : Mt) : AV := .agg [.int .i64 m.old, .int .i64 m.now, .il 1 (encI m.opts), .il 1 (encBs m.same)]
def encMs (l : List Mt) : List AV := l.map encM
theorem encBs_nn (l : List Bool) : NNs (encBs l) := fun a ha => by
 obtain ⟨n, _, rfl⟩ := List.mem_map.1 ha
 exact .bool _
theorem encBs_length (l : List Bool) : (encBs l).length = l.length := by simp [encBs]
theorem encBs_get (l : List Bool) (i : Nat) : (encBs l)[i]? = (l[i]?).map AV.bool := by rw [encBs, List.getElem?_map]
theorem encM_nn (m : Mt) : NN (encM m) := .agg' (.cons (.int _ _) (.cons (.int _ _) (.cons (.il' (encI_nn _)) (.cons (.il' (encBs_nn _)) .nil))))
theorem encMs_nn (l : List Mt) : NNs (encMs l) := fun a ha => by
 obtain ⟨n, _, rfl⟩ := List.mem_map.1 ha
 exact encM_nn _
theorem encMs_length (l : List Mt) : (encMs l).length = l.length := by simp [encMs]
theorem encMs_get (l : List Mt) (i : Nat) : (encMs l)[i]? = (l[i]?).map encM := by rw [encMs, List.getElem?_map]
theorem encMs_snoc (l : List Mt) (m : Mt) : encMs (l ++ [m]) = encMs l ++ [encM m] := by simp [encMs]
def nearI (l : List Val) (v : Val) : Int × Bool := ((nearV l v).1, (nearV l v).2)
def chN (x y : Nd) : List (Int × Bool) :=
 if x.kind = 2 ∧ y.kind = 2 then (List.range x.kids.length).map fun k : Nat => optR x y k
 else if x.kind = 4 ∧ y.kind = 4 then x.values.map (nearI y.values) else []
def nodeAt (l : List Nd) (i : Nat) : Nd := l.getD i ⟨0, [], 0, 0, [], [], [], [], .mk 0 0 [] []⟩
theorem nodeAt_eq {l : List Nd} {i : Nat} {x : Nd} (h : l[i]? = some x) : nodeAt l i = x := by unfold nodeAt; rw [List.getD_eq_getElem?_getD, h]; rfl
def kidAt (y : Nd) (k : Int) : Nat := (y.kids.getD k.toNat 0).toNat
def prsN (x y : Nd) : List (Nat × Nat) :=
 if x.kind ≠ y.kind then []
 else if x.kind = 2 then (x.kids.zip (chN x y)).map fun p => (p.1.toNat, kidAt y p.2.1)
 else if x.kind = 3 then (x.kids.zip y.kids).map fun p => (p.1.toNat, p.2.toNat)
 else if x.kind = 4 then (kidAt x 0, kidAt y 0) :: ((x.kids.drop 1).zip (chN x y)).map fun p => (p.1.toNat, kidAt y (p.2.1 + 1))
 else []
def isIn (L : List Mt) (o n : Nat) : Bool := L.any fun m => decide (m.old = o) && decide (m.now = n)
def mtN (x y : Nd) (o n : Nat) : Mt := ⟨o, n, (chN x y).map (·.1), (chN x y).map (·.2)⟩
def visF (A B : List Nd) : Nat → Nat → Nat → List Mt → List Mt
 | 0, _, _, L => L
 | f + 1, o, n, L => if isIn L o n = true then L else
   (prsN (nodeAt A o) (nodeAt B n)).foldl (fun L p => visF A B f p.1 p.2 L) (L ++ [mtN (nodeAt A o) (nodeAt B n) o n])
def usableT (A : List Nd) : Bool := decide (0 < A.length) && decide (validT A = 0)
def diffM (A B : List Nd) : List Mt := if usableT A = true ∧ usableT B = true then visF A B A.length (A.length - 1) (B.length - 1) [] else []
def exactN (x y : Nd) : Bool := (decide (x.kind = y.kind) && (decide (x.lo = y.lo) && (decide (x.hi = y.hi) && (decide (x.kids.length = y.kids.length) && decide (x.name = y.name))))) && decide (x.weights = y.weights) && decide (x.labels = y.labels) && sameVs x.values y.values && (cmpV x.value y.value == 0)
structure TreeIn (A : List Nd) : Prop where
 ok : ∀ x ∈ A, okN x
 val : ∀ x ∈ A, sizeV x.value ≤ 1048576
 vals : ∀ x ∈ A, ∀ v ∈ x.values, sizeV v ≤ 1048576
 vlen : ∀ x ∈ A, x.values.length ≤ 2000
 klen : ∀ x ∈ A, x.kids.length ≤ 2000
 llen : ∀ x ∈ A, x.labels.length ≤ 1000
 lab : ∀ x ∈ A, ∀ s ∈ x.labels, s.length ≤ 1000
 len : A.length ≤ 1000
structure GoodT (A : List Nd) (i : Nat) (x : Nd) : Prop where
 opt : OptN x
 node : NodeOK i x
 srt : Srt x.values
 val : ∀ v ∈ x.values, okV v
theorem srt_of_sortedA : ∀ {l : List Val}, sortedA l = true → Srt l
 | [], _ => by simp [Srt]
 | [a], _ => by simp [Srt]
 | a :: b :: r, h => by
  simp only [sortedA, Bool.and_eq_true, decide_eq_true_eq] at h
  have ih := srt_of_sortedA h.2
  unfold Srt at ih ⊢
  refine List.pairwise_cons.2 ⟨fun x hx => ?_, ih⟩
  rcases List.mem_cons.1 hx with rfl | hx
  ·exact h.1
  ·have := (List.pairwise_cons.1 ih).1 x hx
   exact lt_le h.1 (by omega)
theorem goodT {A : List Nd} (h : TreeIn A) (hv : validT A = 0) {i : Nat} {x : Nd} (hx : A[i]? = some x) : GoodT A i x := by
 have hxm := List.mem_of_getElem? hx
 have hv0 : validF [] A = 0 := by
  unfold validT at hv
  split at hv
  ·omega
  ·exact hv
 have hn := valid_node A hv0 i x hx
 have hN := node_ok hn
 have hf := nodeE_formed hn
 have hfp := formed_parts hf
 have hk := h.klen x hxm
 refine ⟨⟨h.ok x hxm, numbersN_range hN.num, by omega, fun e => by have := hN.klen (by omega); omega, fun e => ?_⟩, hN, ?_, fun v hv => ((h.ok x hxm).valuesI v hv).1⟩
 ·refine ⟨hfp.1 e, ?_⟩
  unfold formedN at hf
  simp only [Bool.and_eq_true, Bool.or_eq_true, decide_eq_true_eq] at hf
  rcases hf.1.1.1.2 with h2 | h2
  ·exact absurd e h2
  ·exact h2.2
 ·unfold formedN at hf
  simp only [Bool.and_eq_true] at hf
  exact srt_of_sortedA hf.2
theorem cnt_range {a b : Nd} {k : Nat} (ha : OptN a) (hb : OptN b) (h : (cntR a b k).2 = true) (ha2 : a.kind = 2) (hb2 : b.kind = 2) (hk : k < a.kids.length) : 0 ≤ (cntR a b k).1 ∧ (cntR a b k).1 < b.kids.length := by
 unfold cntR at h ⊢
 rw [if_neg (by omega), if_neg (by omega)] at h ⊢
 split at h
 ·rename_i h1
  rw [if_pos h1]
  simp at h ⊢
  omega
 ·rename_i h1
  rw [if_neg h1]
  rw [not_or] at h1
  have hbl : b.labels.length = b.kids.length := by have := (hb.ch hb2).2; omega
  split at h
  ·rename_i h2
   rw [if_pos h2]
   simp only
   omega
  ·rename_i h2
   rw [if_neg h2]
   simp only [decide_eq_true_eq] at h ⊢
   have := idxFrom_lt (s := a.labels.getD k []) b.labels 0
   unfold idxS at h ⊢
   omega
theorem opt_range {a b : Nd} {k : Nat} (ha : OptN a) (hb : OptN b) (ha2 : a.kind = 2) (hb2 : b.kind = 2) (hk : k < a.kids.length) : 0 ≤ (optR a b k).1 ∧ (optR a b k).1 < b.kids.length := by
 have h1 := (hb.ch hb2).1
 have ea : optsN a = a.kids.length := by unfold optsN; rw [if_neg (by omega), if_pos ha2]
 have eb : optsN b = b.kids.length := by unfold optsN; rw [if_neg (by omega), if_pos hb2]
 unfold optR
 rw [if_neg (by omega), if_neg (by omega), Int.toNat_natCast]
 split
 ·rename_i h; exact cnt_range ha hb h ha2 hb2 hk
 ·rw [eb]; simp only; omega
theorem findV_lt {v : Val} : ∀ {l : List Val}, (findV l v).2 = true → (findV l v).1 < l.length
 | [], h => by simp [findV] at h
 | a :: r, h => by
  simp only [findV] at h ⊢
  split at h
  ·rename_i h1
   rw [if_pos h1]
   simp
  ·rename_i h1
   have := findV_lt (l := r) h
   rw [if_neg h1]
   simp only [List.length_cons]
   omega
theorem near_range {l : List Val} (v : Val) (h : 0 < l.length) : (nearV l v).1 < l.length := by
 have hle := findV_le l v
 unfold nearV
 split
 ·rename_i hf
  have := findV_lt hf
  exact this
 ·split
  ·simpa using h
  ·split
   ·rename_i a b e1 e2
    have := (List.getElem?_eq_some_iff.1 e2).1
    split
    ·simp only; omega
    ·simp only; omega
   ·simp only; omega
theorem bind_vals {A : List Nd} (ho : ∀ x ∈ A, okN x) (hv : validT A = 0) {i : Nat} {x : Nd} (hx : A[i]? = some x) (h4 : x.kind = 4) : 1 ≤ x.values.length := by
 have hv0 : validF [] A = 0 := by
  unfold validT at hv
  split at hv
  ·omega
  ·exact hv
 have hi := (List.getElem?_eq_some_iff.1 hx).1
 have hpre : validF [] (A.take i) = 0 := by
  have := hv0
  rw [← List.take_append_drop i A] at this
  exact validF_pre this
 obtain ⟨q, hq, -⟩ := arms_ne (ns := A.take i) (fun y hy => ho y (List.mem_of_mem_take hy)) hpre (x := x) (.inr h4) (valid_step A hv0 i x hx)
 have hb := (node_ok (valid_node A hv0 i x hx)).bind h4
 unfold armsN at hq
 rw [if_neg (by omega)] at hq
 have := List.length_pos_of_mem hq
 simp at this
 omega
theorem kid_lt {A : List Nd} {n : Nat} {y : Nd} (hy : NodeOK n y) {k : Int} (h0 : 0 ≤ k) (h1 : k < y.kids.length) : kidAt y k < n ∧ ∃ q : Int, y.kids[k.toNat]? = some q ∧ q = kidAt y k := by
 have hk : k.toNat < y.kids.length := by omega
 obtain ⟨a, b⟩ := hy.kids k.toNat _ (List.getElem?_eq_getElem hk)
 unfold kidAt
 rw [List.getD_eq_getElem?_getD, List.getElem?_eq_getElem hk]
 simp only [Option.getD_some]
 exact ⟨by omega, _, rfl, by omega⟩
theorem chN_len {x y : Nd} : (x.kind = 2 ∧ y.kind = 2 → (chN x y).length = x.kids.length) ∧ (x.kind = 4 ∧ y.kind = 4 → (chN x y).length = x.values.length) := by
 refine ⟨fun h => ?_, fun h => ?_⟩
 ·unfold chN; rw [if_pos h]; simp
 ·unfold chN; rw [if_neg (by omega), if_pos h]; simp
theorem chN_get2 {x y : Nd} (h : x.kind = 2 ∧ y.kind = 2) {k : Nat} (hk : k < x.kids.length) : (chN x y)[k]? = some (optR x y k) := by
 unfold chN; rw [if_pos h, List.getElem?_map, List.getElem?_range hk]; rfl
theorem chN_get4 {x y : Nd} (h : x.kind = 4 ∧ y.kind = 4) {k : Nat} {v : Val} (hk : x.values[k]? = some v) : (chN x y)[k]? = some (nearI y.values v) := by
 unfold chN; rw [if_neg (by omega), if_pos h, List.getElem?_map, hk]; rfl
theorem prs_in {A B : List Nd} (hA : TreeIn A) (hB : TreeIn B) (vA : validT A = 0) (vB : validT B = 0) {o n : Nat} {x y : Nd} (hx : A[o]? = some x) (hy : B[n]? = some y) : ∀ p ∈ prsN x y, p.1 < o ∧ p.2 < n := by
 have gx := goodT hA vA hx
 have gy := goodT hB vB hy
 have kx : ∀ k ∈ x.kids, 0 ≤ k ∧ k < o := fun k hk => by
  obtain ⟨j, hj⟩ := List.getElem?_of_mem hk
  exact gx.node.kids j k hj
 have ky : ∀ k ∈ y.kids, 0 ≤ k ∧ k < n := fun k hk => by
  obtain ⟨j, hj⟩ := List.getElem?_of_mem hk
  exact gy.node.kids j k hj
 intro p hp
 unfold prsN at hp
 split at hp
 ·simp at hp
 ·rename_i hk
  have hk : x.kind = y.kind := Decidable.not_not.1 hk
  split at hp
  ·rename_i h2
   obtain ⟨⟨q, c⟩, hq, rfl⟩ := List.mem_map.1 hp
   have h1 := kx q (List.of_mem_zip hq).1
   have hc := (List.of_mem_zip hq).2
   unfold chN at hc
   rw [if_pos ⟨h2, by omega⟩] at hc
   obtain ⟨j, hj, rfl⟩ := List.mem_map.1 hc
   have hr := opt_range gx.opt gy.opt h2 (by omega) (List.mem_range.1 hj)
   exact ⟨by simp only; omega, (kid_lt (A := A) gy.node hr.1 hr.2).1⟩
  ·split at hp
   ·obtain ⟨⟨q, c⟩, hq, rfl⟩ := List.mem_map.1 hp
    have h1 := kx q (List.of_mem_zip hq).1
    have h2 := ky c (List.of_mem_zip hq).2
    exact ⟨by simp only; omega, by simp only; omega⟩
   ·split at hp
    ·rename_i h4
     have bx := gx.node.bind h4
     have by_ := gy.node.bind (by omega)
     have vy := bind_vals hB.ok vB hy (by omega)
     rcases List.mem_cons.1 hp with rfl | hp
     ·exact ⟨(kid_lt (A := A) gx.node (by omega) (by omega)).1, (kid_lt (A := A) gy.node (by omega) (by omega)).1⟩
     ·obtain ⟨⟨q, c⟩, hq, rfl⟩ := List.mem_map.1 hp
      have h1 := kx q (List.mem_of_mem_drop (List.of_mem_zip hq).1)
      have hc := (List.of_mem_zip hq).2
      unfold chN at hc
      rw [if_neg (by omega), if_pos ⟨h4, by omega⟩] at hc
      obtain ⟨v, hv, rfl⟩ := List.mem_map.1 hc
      have hr := near_range (l := y.values) v (by omega)
      unfold nearI
      exact ⟨by simp only; omega, (kid_lt (A := A) gy.node (by simp only; omega) (by simp only; omega)).1⟩
    ·simp at hp
def leftM (a b : Nat) (L : List Mt) : Nat := ((List.range (a * b)).filter fun c => !isIn L (c / b) (c % b)).length
def InvM (a b : Nat) (L : List Mt) : Prop := L.length + leftM a b L ≤ a * b
theorem isIn_snoc (L : List Mt) (m : Mt) (o n : Nat) : isIn (L ++ [m]) o n = (isIn L o n || (decide (m.old = o) && decide (m.now = n))) := by simp [isIn]
theorem inv_nil (a b : Nat) : InvM a b [] := by
 unfold InvM leftM
 have := List.length_filter_le (fun c => !isIn [] (c / b) (c % b)) (List.range (a * b))
 simp only [List.length_range, List.length_nil] at this ⊢
 omega
theorem inv_snoc {a b : Nat} {L : List Mt} {m : Mt} (h : InvM a b L) (ho : m.old < a) (hn : m.now < b) (hi : isIn L m.old m.now = false) : InvM a b (L ++ [m]) := by
 unfold InvM leftM at h ⊢
 have e : (List.range (a * b)).filter (fun c => !isIn (L ++ [m]) (c / b) (c % b)) = ((List.range (a * b)).filter fun c => !isIn L (c / b) (c % b)).filter (fun c => !(decide (m.old = c / b) && decide (m.now = c % b))) := by
  rw [List.filter_filter]
  congr 1
  funext c
  rw [isIn_snoc, Bool.not_or, Bool.and_comm]
 rw [e]
 have hlt : (((List.range (a * b)).filter fun c => !isIn L (c / b) (c % b)).filter (fun c => !(decide (m.old = c / b) && decide (m.now = c % b)))).length < ((List.range (a * b)).filter fun c => !isIn L (c / b) (c % b)).length := by
  rw [List.length_filter_lt_length_iff_exists]
  have h1 : (m.now + b * m.old) / b = m.old := by rw [Nat.add_mul_div_left _ _ (by omega), Nat.div_eq_of_lt hn]; omega
  have h2 : (m.now + b * m.old) % b = m.now := by rw [Nat.add_mul_mod_self_left, Nat.mod_eq_of_lt hn]
  refine ⟨m.now + b * m.old, List.mem_filter.2 ⟨List.mem_range.2 ?_, ?_⟩, ?_⟩
  ·have : b * (m.old + 1) ≤ b * a := Nat.mul_le_mul_left _ ho
   rw [Nat.mul_comm a b]
   rw [Nat.mul_add] at this
   omega
  ·rw [h1, h2, hi]; rfl
  ·rw [h1, h2]; simp
 simp only [List.length_append, List.length_singleton]
 omega
theorem vis_inv {A B : List Nd} (hA : TreeIn A) (hB : TreeIn B) (vA : validT A = 0) (vB : validT B = 0) : ∀ (f o n : Nat) (L : List Mt), o < A.length → n < B.length → InvM A.length B.length L → InvM A.length B.length (visF A B f o n L)
 | 0, _, _, _, _, _, h => h
 | f + 1, o, n, L, ho, hn, h => by
  unfold visF
  split
  ·exact h
  ·rename_i hi
   have hx := List.getElem?_eq_getElem ho
   have hy := List.getElem?_eq_getElem hn
   have hp := prs_in hA hB vA vB hx hy
   rw [nodeAt_eq hx, nodeAt_eq hy]
   have h1 : InvM A.length B.length (L ++ [mtN A[o] B[n] o n]) := inv_snoc h ho hn (by simpa [mtN] using hi)
   generalize L ++ [mtN A[o] B[n] o n] = L1 at h1
   generalize prsN A[o] B[n] = ps at hp
   induction ps generalizing L1 with
   | nil => exact h1
   | cons p r ih =>
    simp only [List.foldl_cons]
    have h2 := hp p (by simp)
    exact ih _ (vis_inv hA hB vA vB f p.1 p.2 L1 (by omega) (by omega) h1) (fun q hq => hp q (by simp [hq]))
theorem inv_len {A B : List Nd} (hA : TreeIn A) (hB : TreeIn B) {L : List Mt} (h : InvM A.length B.length L) : L.length ≤ 1000000 := by
 have : A.length * B.length ≤ 1000 * 1000 := Nat.mul_le_mul hA.len hB.len
 unfold InvM at h
 omega
theorem vis_rng {A B : List Nd} (hA : TreeIn A) (hB : TreeIn B) (vA : validT A = 0) (vB : validT B = 0) : ∀ (f o n : Nat) (L : List Mt), o < A.length → n < B.length → (∀ m ∈ L, m.old < A.length ∧ m.now < B.length) → ∀ m ∈ visF A B f o n L, m.old < A.length ∧ m.now < B.length
 | 0, _, _, _, _, _, h => h
 | f + 1, o, n, L, ho, hn, h => by
  unfold visF
  split
  ·exact h
  ·have hx := List.getElem?_eq_getElem ho
   have hy := List.getElem?_eq_getElem hn
   have hp := prs_in hA hB vA vB hx hy
   rw [nodeAt_eq hx, nodeAt_eq hy]
   have h1 : ∀ m ∈ L ++ [mtN A[o] B[n] o n], m.old < A.length ∧ m.now < B.length := fun m hm => by
    rcases List.mem_append.1 hm with hm | hm
    ·exact h m hm
    ·simp at hm; subst hm; exact ⟨ho, hn⟩
   generalize L ++ [mtN A[o] B[n] o n] = L1 at h1
   generalize prsN A[o] B[n] = ps at hp
   induction ps generalizing L1 with
   | nil => exact h1
   | cons p r ih =>
    simp only [List.foldl_cons]
    have h2 := hp p (by simp)
    exact ih _ (vis_rng hA hB vA vB f p.1 p.2 L1 (by omega) (by omega) h1) (fun q hq => hp q (by simp [hq]))
theorem usable_parts {A : List Nd} (h : usableT A = true) : 0 < A.length ∧ validT A = 0 := by
 unfold usableT at h
 simp only [Bool.and_eq_true, decide_eq_true_eq] at h
 exact h
theorem diff_rng {A B : List Nd} (hA : TreeIn A) (hB : TreeIn B) : ∀ m ∈ diffM A B, m.old < A.length ∧ m.now < B.length := by
 unfold diffM
 split
 ·rename_i h
  obtain ⟨a1, a2⟩ := usable_parts h.1
  obtain ⟨b1, b2⟩ := usable_parts h.2
  exact vis_rng hA hB a2 b2 _ _ _ _ (by omega) (by omega) (by simp)
 ·simp
theorem diff_len {A B : List Nd} (hA : TreeIn A) (hB : TreeIn B) : (diffM A B).length ≤ 1000000 := by
 unfold diffM
 split
 ·rename_i h
  obtain ⟨a1, a2⟩ := usable_parts h.1
  obtain ⟨b1, b2⟩ := usable_parts h.2
  exact inv_len hA hB (vis_inv hA hB a2 b2 _ _ _ _ (by omega) (by omega) (inv_nil _ _))
 ·simp
def badM (A B : List Nd) (L : List Mt) : Nat := (L.filter fun m => !exactN (nodeAt A m.old) (nodeAt B m.now)).length
def changedM (A B : List Nd) : Nat := if usableT A = true ∧ usableT B = true then badM A B (diffM A B) else if A.length = 0 ∧ B.length = 0 then 0 else 1
theorem badM_snoc (A B : List Nd) (L : List Mt) (m : Mt) : badM A B (L ++ [m]) = badM A B L + if exactN (nodeAt A m.old) (nodeAt B m.now) = true then 0 else 1 := by
 unfold badM
 rw [List.filter_append, List.length_append]
 cases h : exactN (nodeAt A m.old) (nodeAt B m.now) <;> simp [h]
theorem badM_le (A B : List Nd) (L : List Mt) : badM A B L ≤ L.length := List.length_filter_le _ _
inductive Sim (A B : List Nd) : Nat → Nat → Prop where
 | mk (i j : Nat) (x y : Nd) : A[i]? = some x → B[j]? = some y → y = { x with kids := y.kids } → y.kids.length = x.kids.length →
   (∀ (k : Nat) (a b : Int), x.kids[k]? = some a → y.kids[k]? = some b → 0 ≤ a ∧ 0 ≤ b) →
   (∀ (k : Nat) (a b : Int), x.kids[k]? = some a → y.kids[k]? = some b → Sim A B a.toNat b.toNat) → Sim A B i j
theorem Sim.symm {A B : List Nd} {i j : Nat} (h : Sim A B i j) : Sim B A j i := by
 induction h with
 | mk i j x y hx hy he hl hp _ ih =>
  refine .mk j i y x hy hx ?_ hl.symm (fun k a b ha hb => (hp k b a hb ha).symm) fun k a b ha hb => ih k b a hb ha
  rw [he]
theorem Sim.trans {A B C : List Nd} {i j k : Nat} (h : Sim A B i j) : Sim B C j k → Sim A C i k := by
 induction h generalizing k with
 | mk i j x y hx hy he hl hp _ ih =>
  intro h2
  cases h2 with
  | mk _ _ y' z hy' hz he2 hl2 hp2 ih2 =>
   rw [hy] at hy'
   cases hy'
   have mid : ∀ (q : Nat) (a : Int), x.kids[q]? = some a → ∃ b, y.kids[q]? = some b := fun q a ha => by
    have hq : q < y.kids.length := by
     have := (List.getElem?_eq_some_iff.1 ha).1
     omega
    exact ⟨_, List.getElem?_eq_getElem hq⟩
   refine .mk i k x z hx hz ?_ (by omega) (fun q a c ha hc => ?_) fun q a c ha hc => ?_
   ·rw [he2, he]
   ·obtain ⟨b, hb⟩ := mid q a ha
    exact ⟨(hp q a b ha hb).1, (hp2 q b c hb hc).2⟩
   ·obtain ⟨b, hb⟩ := mid q a ha
    exact ih q a b ha hb (ih2 q b c hb hc)
theorem Sim.refl {A : List Nd} (hA : ∀ (i : Nat) (x : Nd), A[i]? = some x → ∀ k ∈ x.kids, 0 ≤ k ∧ k < i) : ∀ (n i : Nat), i < n → i < A.length → Sim A A i i
 | 0, i, h, _ => absurd h (by omega)
 | n + 1, i, h, hi => by
  have hx : A[i]? = some A[i] := List.getElem?_eq_getElem hi
  refine .mk i i _ _ hx hx rfl rfl (fun k a b ha hb => ?_) fun k a b ha hb => ?_
  ·rw [ha] at hb
   cases hb
   have := hA i _ hx a (List.mem_of_getElem? ha)
   exact ⟨this.1, this.1⟩
  ·rw [ha] at hb
   cases hb
   have := hA i _ hx a (List.mem_of_getElem? ha)
   exact Sim.refl hA n a.toNat (by omega) (by omega)
theorem cmpV_refl (v : Val) : cmpV v v = 0 := (cmpV_good v).refl
theorem sameVs_refl : ∀ l : List Val, sameVs l l = true
 | [] => rfl
 | v :: r => by simp [sameVs, cmpV_refl, sameVs_refl r]
theorem optR_same {x y : Nd} (hk : x.kind = 2) (hy : y.kind = 2) (hl : y.labels = x.labels) (hlen : y.kids.length = x.kids.length) (hlab : x.labels.length = 0 ∨ x.labels.length = x.kids.length) {k : Nat} (h : k < x.kids.length) : optR x y k = ((k : Int), true) := by
 have o1 : optsN x = x.kids.length := by unfold optsN; rw [if_neg (by omega), if_pos hk]
 have o2 : optsN y = y.kids.length := by unfold optsN; rw [if_neg (by omega), if_pos hy]
 have hc : cntR x y k = ((k : Int), true) := by
  unfold cntR
  rw [if_neg (by omega), if_neg (by omega), hl]
  by_cases h0 : x.labels.length = 0
  ·rw [if_pos (.inl h0), decide_eq_true (by omega)]
  ·rw [if_neg (by simp [h0]), if_pos ⟨by omega, rfl⟩]
 unfold optR
 rw [o1, o2, if_neg (by omega), if_neg (by omega), Int.toNat_natCast, hc, if_pos rfl]
theorem findV_self : ∀ {l : List Val} (_ : Srt l) {k : Nat} {v : Val}, l[k]? = some v → findV l v = (k, true) := by
 intro l hs k v hk
 have hkl := (List.getElem?_eq_some_iff.1 hk).1
 rw [findV_at (k := k) (by omega) (fun p a hp ha => ?_) (fun a ha => ?_)]
 ·unfold isAt
  rw [hk]
  simp [cmpV_refl]
 ·have hpl := (List.getElem?_eq_some_iff.1 ha).1
  have e1 := (List.getElem?_eq_some_iff.1 ha).2
  have e2 := (List.getElem?_eq_some_iff.1 hk).2
  rw [← e1, ← e2]
  exact List.pairwise_iff_getElem.1 hs p k hpl hkl hp
 ·rw [hk] at ha
  cases ha
  rw [cmpV_refl]
  omega
theorem nearI_self {l : List Val} (hs : Srt l) {k : Nat} {v : Val} (h : l[k]? = some v) : nearI l v = ((k : Int), true) := by
 unfold nearI nearV
 rw [findV_self hs h]
 simp
theorem exact_same {x y : Nd} (he : y = { x with kids := y.kids }) (hl : y.kids.length = x.kids.length) : exactN x y = true := by
 obtain ⟨a, b, c, d, e, f, g, h, v⟩ := x
 obtain ⟨a2, b2, c2, d2, e2, f2, g2, h2, v2⟩ := y
 cases he
 unfold exactN
 simp only at hl
 simp [hl, sameVs_refl, cmpV_refl]
def NodesOK (A : List Nd) : Prop := ∀ (i : Nat) (x : Nd), A[i]? = some x → (x.kind = 2 → x.labels.length = 0 ∨ x.labels.length = x.kids.length) ∧ (x.kind = 4 → x.kids.length = x.values.length + 1) ∧ Srt x.values
theorem chN_same {x y : Nd} (he : y = { x with kids := y.kids }) (hl : y.kids.length = x.kids.length) (h2 : x.kind = 2 → x.labels.length = 0 ∨ x.labels.length = x.kids.length) (hs : Srt x.values) {k : Nat} {c : Int × Bool} (h : (chN x y)[k]? = some c) : c = ((k : Int), true) := by
 have ek : y.kind = x.kind := by rw [he]
 have el : y.labels = x.labels := by rw [he]
 have ev : y.values = x.values := by rw [he]
 unfold chN at h
 split at h
 ·rename_i hk
  rw [List.getElem?_map] at h
  cases hr : (List.range x.kids.length)[k]? with
  | none => rw [hr] at h; cases h
  | some q =>
   obtain ⟨h1, h3⟩ := List.getElem?_eq_some_iff.1 hr
   rw [List.getElem_range] at h3
   rw [hr] at h
   simp only [Option.map_some, Option.some.injEq] at h
   rw [← h, ← h3]
   exact optR_same hk.1 hk.2 el hl (h2 hk.1) (by simpa using h1)
 ·split at h
  ·rw [List.getElem?_map] at h
   cases hv : x.values[k]? with
   | none => rw [hv] at h; cases h
   | some v =>
    rw [hv] at h
    simp only [Option.map_some, Option.some.injEq] at h
    rw [← h]
    rw [ev]
    exact nearI_self hs hv
  ·simp at h
theorem kidAt_eq {y : Nd} {k : Nat} {b : Int} (h : y.kids[k]? = some b) : kidAt y (k : Int) = b.toNat := by
 unfold kidAt
 rw [Int.toNat_natCast, List.getD_eq_getElem?_getD, h]; rfl
theorem prs_sim {A B : List Nd} (hA : NodesOK A) {o n : Nat} (h : Sim A B o n) : ∀ p ∈ prsN (nodeAt A o) (nodeAt B n), Sim A B p.1 p.2 := by
 cases h with
 | mk _ _ x y hx hy he hl hp hs =>
  rw [nodeAt_eq hx, nodeAt_eq hy]
  obtain ⟨n2, n4, nS⟩ := hA o x hx
  have ek : y.kind = x.kind := by rw [he]
  have hc := fun (k : Nat) (c : Int × Bool) (h : (chN x y)[k]? = some c) => chN_same he hl n2 nS h
  have hk : ∀ (k : Nat) (a : Int), x.kids[k]? = some a → Sim A B a.toNat (kidAt y k) := fun k a ha => by
   have hlt : k < y.kids.length := by have := (List.getElem?_eq_some_iff.1 ha).1; omega
   have hb : y.kids[k]? = some y.kids[k] := List.getElem?_eq_getElem hlt
   rw [kidAt_eq hb]
   exact hs k a _ ha hb
  intro p hpm
  unfold prsN at hpm
  rw [if_neg (by simp [ek])] at hpm
  split at hpm
  ·obtain ⟨q, hq, rfl⟩ := List.mem_map.1 hpm
   obtain ⟨k, hk1⟩ := List.getElem?_of_mem hq
   rw [List.getElem?_zip_eq_some] at hk1
   have e := hc k _ hk1.2
   simp only [e]
   exact hk k _ hk1.1
  ·split at hpm
   ·obtain ⟨q, hq, rfl⟩ := List.mem_map.1 hpm
    obtain ⟨k, hk1⟩ := List.getElem?_of_mem hq
    rw [List.getElem?_zip_eq_some] at hk1
    exact hs k _ _ hk1.1 hk1.2
   ·split at hpm
    ·rename_i k4
     rcases List.mem_cons.1 hpm with rfl | hpm
     ·have h0 : 0 < x.kids.length := by rw [n4 k4]; omega
      have := hk 0 x.kids[0] (List.getElem?_eq_getElem h0)
      have e : kidAt x 0 = (x.kids[0]).toNat := kidAt_eq (k := 0) (List.getElem?_eq_getElem h0)
      simp only [e]
      exact this
     ·obtain ⟨q, hq, rfl⟩ := List.mem_map.1 hpm
      obtain ⟨k, hk1⟩ := List.getElem?_of_mem hq
      rw [List.getElem?_zip_eq_some] at hk1
      have e := hc k _ hk1.2
      simp only [e]
      have h2 := hk1.1
      rw [List.getElem?_drop] at h2
      have h3 := hk (1 + k) _ h2
      rw [show ((k : Int) + 1) = ((1 + k : Nat) : Int) by omega]
      exact h3
    ·cases hpm
def SimM (A B : List Nd) (m : Mt) : Prop := Sim A B m.old m.now ∧ (∀ (o : Nat) (v : Int), m.opts[o]? = some v → v = o) ∧ ∀ (o : Nat) (b : Bool), m.same[o]? = some b → b = true
theorem mtN_sim {A B : List Nd} (hA : NodesOK A) {o n : Nat} (h : Sim A B o n) : SimM A B (mtN (nodeAt A o) (nodeAt B n) o n) := by
 have key : ∀ (k : Nat) (c : Int × Bool), (chN (nodeAt A o) (nodeAt B n))[k]? = some c → c = ((k : Int), true) := by
  cases h with
  | mk _ _ x y hx hy he hl hp hs =>
   obtain ⟨n2, n4, nS⟩ := hA o x hx
   rw [nodeAt_eq hx, nodeAt_eq hy]
   exact fun k c hc => chN_same he hl n2 nS hc
 refine ⟨h, fun k v hv => ?_, fun k b hb => ?_⟩
 ·simp only [mtN, List.getElem?_map] at hv
  cases hc : (chN (nodeAt A o) (nodeAt B n))[k]? with
  | none => rw [hc] at hv; cases hv
  | some c =>
   rw [hc, key k c hc] at hv
   simpa using hv.symm
 ·simp only [mtN, List.getElem?_map] at hb
  cases hc : (chN (nodeAt A o) (nodeAt B n))[k]? with
  | none => rw [hc] at hb; cases hb
  | some c =>
   rw [hc, key k c hc] at hb
   simpa using hb.symm
theorem vis_sim {A B : List Nd} (hA : NodesOK A) : ∀ (f o n : Nat) (L : List Mt), Sim A B o n → (∀ m ∈ L, SimM A B m) → ∀ m ∈ visF A B f o n L, SimM A B m
 | 0, o, n, L, _, hL => hL
 | f + 1, o, n, L, h, hL => by
  unfold visF
  split
  ·exact hL
  ·have hps := prs_sim hA h
   have h0 : ∀ m ∈ L ++ [mtN (nodeAt A o) (nodeAt B n) o n], SimM A B m := fun m hm => by
    rcases List.mem_append.1 hm with hm | hm
    ·exact hL m hm
    ·simp at hm; rw [hm]; exact mtN_sim hA h
   generalize L ++ [mtN (nodeAt A o) (nodeAt B n) o n] = L0 at h0
   generalize prsN (nodeAt A o) (nodeAt B n) = ps at hps
   revert L0 h0 hps
   induction ps with
   | nil => exact fun L0 h0 _ => h0
   | cons p ps ih =>
    intro L0 h0 hps
    rw [List.foldl_cons]
    exact ih _ (vis_sim hA f p.1 p.2 L0 (hps p (by simp)) h0) fun q hq => hps q (by simp [hq])
theorem diff_sim {A B : List Nd} (hA : NodesOK A) (h : Sim A B (A.length - 1) (B.length - 1)) : ∀ m ∈ diffM A B, SimM A B m := by
 unfold diffM
 split
 ·exact vis_sim hA _ _ _ _ h (by simp)
 ·simp
theorem changed_sim {A B : List Nd} (hA : NodesOK A) (h : Sim A B (A.length - 1) (B.length - 1)) (uA : usableT A = true) (uB : usableT B = true) : changedM A B = 0 := by
 have hm := diff_sim hA h
 unfold changedM
 rw [if_pos ⟨uA, uB⟩]
 unfold badM
 rw [List.length_eq_zero_iff, List.filter_eq_nil_iff]
 intro m hmm
 cases (hm m hmm).1 with
 | mk _ _ x y hx hy he hl hp hs =>
  rw [nodeAt_eq hx, nodeAt_eq hy, exact_same he hl]
  simp
end Go.Ax
namespace Go.Ax
open Go
def uvar (n : Nat) : List UInt8 := if _h : n < 128 then [UInt8.ofNat n] else UInt8.ofNat (128 + n % 128) :: uvar (n / 128)
termination_by n
def zig (n : Int) : Nat := if n < 0 then 2 * (-(n + 1)).toNat + 1 else 2 * n.toNat
def zag (u : Nat) : Int := if u % 2 = 1 then -((u / 2 : Nat) : Int) - 1 else ((u / 2 : Nat) : Int)
theorem uvar_small {n : Nat} (h : n < 128) : uvar n = [UInt8.ofNat n] := by rw [uvar, dif_pos h]
theorem uvar_big {n : Nat} (h : ¬ n < 128) : uvar n = UInt8.ofNat (128 + n % 128) :: uvar (n / 128) := by rw [uvar, dif_neg h]
theorem zig_lt {n : Int} (h : i64 n) : zig n < 18446744073709551616 := by
 unfold zig; unfold i64 at h
 split <;> omega
theorem zag_zig (n : Int) : zag (zig n) = n := by
 unfold zag zig
 split <;> split <;> omega
theorem uvar_len : ∀ (k n : Nat), n < 128 ^ (k + 1) → (uvar n).length ≤ k + 1
 | 0, n, h => by rw [uvar_small (by simpa using h)]; simp
 | k + 1, n, h => by
  by_cases hn : n < 128
  ·rw [uvar_small hn]; simp
  ·rw [uvar_big hn]
   have := uvar_len k (n / 128) (by rw [Nat.div_lt_iff_lt_mul (by omega)]; rw [Nat.pow_succ] at h; exact h)
   simp; omega
theorem uvar_len64 {n : Nat} (h : n < 18446744073709551616) : (uvar n).length ≤ 10 := by
 refine uvar_len 9 n ?_
 have : (128 : Nat) ^ (9 + 1) = 1180591620717411303424 := by decide
 omega
def uGo : List UInt8 → Nat → Nat → Sum Int (Nat × List UInt8)
 | [], _, _ => .inl 3
 | b :: r, i, n => if (i = 9 ∧ 1 < b.toNat) ∨ (0 < i ∧ b.toNat = 0) then .inl 2 else if b.toNat < 128 then .inr (n + b.toNat * 2 ^ (7 * i), r) else uGo r (i + 1) (n + (b.toNat - 128) * 2 ^ (7 * i))
theorem uGo_uvar : ∀ (u i n : Nat) (t : List UInt8), i ≤ 9 → u * 2 ^ (7 * i) < 18446744073709551616 → (i = 0 ∨ 0 < u) → uGo (uvar u ++ t) i n = .inr (n + u * 2 ^ (7 * i), t) := by
 intro u
 induction u using Nat.strongRecOn with
 | _ u ih =>
  intro i n t hi hu h0
  have h9 : i = 9 → u ≤ 1 := by
   intro e
   subst e
   have : (2 : Nat) ^ (7 * 9) = 9223372036854775808 := by decide
   rw [this] at hu
   omega
  by_cases hs : u < 128
  ·rw [uvar_small hs]
   have e : (UInt8.ofNat u).toNat = u := by simp; omega
   show uGo (UInt8.ofNat u :: t) i n = _
   simp only [uGo, e]
   rw [if_neg (by
    rintro (⟨h1, h2⟩ | ⟨h1, h2⟩)
    ·have := h9 h1; omega
    ·omega), if_pos hs]
  ·rw [uvar_big hs]
   have e : (UInt8.ofNat (128 + u % 128)).toNat = 128 + u % 128 := by simp; omega
   show uGo (UInt8.ofNat (128 + u % 128) :: (uvar (u / 128) ++ t)) i n = _
   simp only [uGo, e]
   have hne : i ≠ 9 := by intro h; have := h9 h; omega
   have hp : (2 : Nat) ^ (7 * (i + 1)) = 128 * 2 ^ (7 * i) := by rw [show 7 * (i + 1) = 7 * i + 7 by omega, Nat.pow_add]; omega
   rw [if_neg (by omega), if_neg (by omega), ih (u / 128) (by omega) (i + 1) _ t (by omega) (by
    rw [hp, ← Nat.mul_assoc]
    refine Nat.lt_of_le_of_lt (Nat.mul_le_mul_right _ ?_) hu
    omega) (.inr (by omega))]
   congr 2
   rw [hp, ← Nat.mul_assoc, show 128 + u % 128 - 128 = u % 128 by omega, Nat.add_assoc, ← Nat.add_mul]
   congr 2
   omega
theorem uGo_of {u : Nat} (t : List UInt8) (h : u < 18446744073709551616) : uGo (uvar u ++ t) 0 0 = .inr (u, t) := by
 have := uGo_uvar u 0 0 t (by omega) (by simpa using h) (.inl rfl)
 simpa using this
abbrev Rd := List UInt8 × Int
def uintR (x : Rd) : Nat × Rd := if x.2 = 0 then (match uGo x.1 0 0 with | .inl e => (0, (x.1, e)) | .inr (u, t) => (u, (t, 0))) else (0, x)
def intR (x : Rd) : Int × Rd := (zag (uintR x).1, (uintR x).2)
def lenR (x : Rd) : Nat × Rd := if (uintR x).2.2 = 0 then (if (uintR x).2.1.length < (uintR x).1 then (0, ((uintR x).2.1, 3)) else ((uintR x).1, (uintR x).2)) else (0, (uintR x).2)
def textR (x : Rd) : List UInt8 × Rd := ((lenR x).2.1.take (lenR x).1, ((lenR x).2.1.drop (lenR x).1, (lenR x).2.2))
def encInt (n : Int) : List UInt8 := uvar (zig n)
theorem encInt_len {n : Int} (h : i64 n) : (encInt n).length ≤ 10 := uvar_len64 (zig_lt h)
theorem i64_nat {n : Nat} (h : n ≤ 4611686018427387904) : i64 (n : Int) := ⟨by omega, by omega⟩
theorem wrap_u64 {n : Int} (h0 : 0 ≤ n) (h1 : n < 18446744073709551616) : IntKind.u64.wrap n = n := by
 unfold IntKind.wrap
 have e : (2 ^ IntKind.u64.bits : Int) = 18446744073709551616 := by decide
 have s : IntKind.u64.signed = false := rfl
 simp only [e, s, Bool.false_and]
 exact Int.emod_eq_of_lt h0 h1
theorem wrap_u64_mod (n : Int) : IntKind.u64.wrap n = n % 18446744073709551616 := by
 unfold IntKind.wrap
 have e : (2 ^ IntKind.u64.bits : Int) = 18446744073709551616 := by decide
 have s : IntKind.u64.signed = false := rfl
 simp only [e, s, Bool.false_and]
 rfl
theorem wrap_u8_mod (n : Int) : IntKind.u8.wrap n = n % 256 := by
 unfold IntKind.wrap
 have e : (2 ^ IntKind.u8.bits : Int) = 256 := by decide
 have s : IntKind.u8.signed = false := rfl
 simp only [e, s, Bool.false_and]
 rfl
theorem pow64 : (2 : Nat) ^ 64 = 18446744073709551616 := by decide
theorem ofI (a : Nat) : (BitVec.ofInt 64 (a : Int)).toNat = a % 18446744073709551616 := by
 rw [BitVec.ofInt_natCast, BitVec.toNat_ofNat]
theorem ones_xor {a : Nat} (h : a < 18446744073709551616) : a ^^^ 18446744073709551615 = 18446744073709551615 - a := by
 have h1 : (BitVec.ofNat 64 a ^^^ BitVec.allOnes 64).toNat = 18446744073709551615 - a := by
  rw [BitVec.xor_allOnes, BitVec.toNat_not, BitVec.toNat_ofNat, pow64, Nat.mod_eq_of_lt h]
 rw [BitVec.toNat_xor, BitVec.toNat_ofNat, pow64, Nat.mod_eq_of_lt h] at h1
 have h2 : (BitVec.allOnes 64).toNat = 18446744073709551615 := by decide
 rw [h2] at h1
 exact h1
theorem xor_lt64 {a b : Nat} (ha : a < 18446744073709551616) (hb : b < 18446744073709551616) : a ^^^ b < 18446744073709551616 := by
 have := Nat.xor_lt_two_pow (n := 64) (x := a) (y := b) (by rw [pow64]; exact ha) (by rw [pow64]; exact hb)
 rwa [pow64] at this
theorem bits_xor {a b : Nat} (ha : a < 18446744073709551616) (hb : b < 18446744073709551616) : bits .xor .u64 (a : Int) (b : Int) = ((a ^^^ b : Nat) : Int) := by
 show IntKind.u64.wrap ((BitVec.ofInt 64 (a : Int) ^^^ BitVec.ofInt 64 (b : Int)).toNat : Int) = _
 rw [BitVec.toNat_xor, ofI, ofI, Nat.mod_eq_of_lt ha, Nat.mod_eq_of_lt hb, wrap_u64 (by omega) (by have := xor_lt64 ha hb; omega)]
theorem zig_bits {n : Int} (h : i64 n) : bits .xor .u64 (IntKind.u64.wrap (IntKind.u64.wrap n * 2 ^ (min (1 : Int).toNat IntKind.u64.bits))) (IntKind.u64.wrap (n.fdiv (2 ^ (min (63 : Int).toNat IntKind.i64.bits)))) = (zig n : Int) := by
 have e1 : min (1 : Int).toNat IntKind.u64.bits = 1 := by decide
 have e2 : min (63 : Int).toNat IntKind.i64.bits = 63 := by decide
 have hz := zig_lt h
 rw [e1, e2]
 unfold i64 at h
 by_cases hn : n < 0
 ·have a : n.fdiv (2 ^ 63) = -1 := by
   rw [Int.fdiv_eq_ediv_of_nonneg _ (by decide)]
   omega
  have b : IntKind.u64.wrap (-1) = ((18446744073709551615 : Nat) : Int) := by rw [wrap_u64_mod]; decide
  have c : IntKind.u64.wrap (IntKind.u64.wrap n * 2 ^ 1) = ((18446744073709551616 + 2 * n).toNat : Int) := by
   rw [wrap_u64_mod, wrap_u64_mod]
   omega
  rw [a, b, c, bits_xor (by omega) (by omega), ones_xor (by omega)]
  have z : zig n = 2 * (-(n + 1)).toNat + 1 := by unfold zig; rw [if_pos hn]
  rw [z]
  omega
 ·have a : n.fdiv (2 ^ 63) = 0 := by
   rw [Int.fdiv_eq_ediv_of_nonneg _ (by decide)]
   omega
  have b : IntKind.u64.wrap 0 = ((0 : Nat) : Int) := by rw [wrap_u64_mod]; decide
  have c : IntKind.u64.wrap (IntKind.u64.wrap n * 2 ^ 1) = ((2 * n.toNat : Nat) : Int) := by
   rw [wrap_u64_mod, wrap_u64_mod]
   omega
  rw [a, b, c, bits_xor (by omega) (by omega), Nat.xor_zero]
  have z : zig n = 2 * n.toNat := by unfold zig; rw [if_neg hn]
  rw [z]
theorem more_bits (n : Nat) : bits .or .u8 (IntKind.u8.wrap (n : Int)) 128 = ((UInt8.ofNat (128 + n % 128)).toNat : Int) := by
 have h : ∀ b : Fin 256, bits .or .u8 (b.val : Int) 128 = ((128 + b.val % 128 : Nat) : Int) := by decide +kernel
 have e : IntKind.u8.wrap (n : Int) = ((n % 256 : Nat) : Int) := by rw [wrap_u8_mod]; omega
 have := h ⟨n % 256, by omega⟩
 simp only at this
 rw [e, this]
 have e2 : (UInt8.ofNat (128 + n % 128)).toNat = 128 + n % 128 := by simp; omega
 rw [e2]
 omega
theorem last_bits {n : Nat} (h : n < 128) : IntKind.u8.wrap (n : Int) = ((UInt8.ofNat n).toNat : Int) := by
 rw [wrap_u8_mod]
 have e2 : (UInt8.ofNat n).toNat = n := by simp; omega
 rw [e2]
 omega
theorem shr7 (n : Nat) : (n : Int).fdiv (2 ^ (min (7 : Int).toNat IntKind.u64.bits)) = ((n / 128 : Nat) : Int) := by
 have e1 : min (7 : Int).toNat IntKind.u64.bits = 7 := by decide
 rw [e1, Int.fdiv_eq_ediv_of_nonneg _ (by decide)]
 omega
structure DRes where
 val : Val
 ok : Bool
 rd : Rd
 parts : Nat
structure DKids where
 vals : List Val
 ok : Bool
 rd : Rd
 parts : Nat
structure DGood (x : Rd) (p : Nat) (r : DRes) : Prop where
 le : r.rd.1.length ≤ x.1.length
 ok : x.1.length ≤ 1000000000 → okV r.val
 size : r.ok = true → p + sizeV r.val = r.parts
 parts : p ≤ 1024 → r.parts ≤ 1025
 good : r.ok = true → p ≤ 1024 → r.parts ≤ 1024
structure KGood (x : Rd) (p : Nat) (acc : List Val) (m : Nat) (r : DKids) : Prop where
 le : r.rd.1.length ≤ x.1.length
 ok : x.1.length ≤ 1000000000 → okVs acc → okVs r.vals
 len : r.vals.length ≤ acc.length + m
 size : r.ok = true → p + sizeL r.vals = r.parts + sizeL acc
 parts : p ≤ 1024 → r.parts ≤ 1025
 good : r.ok = true → p ≤ 1024 → r.parts ≤ 1024
theorem uintR_of {u : Nat} (h : u < 18446744073709551616) (t : List UInt8) : uintR (uvar u ++ t, 0) = (u, (t, 0)) := by
 unfold uintR
 simp only [if_true]
 rw [uGo_of t h]
theorem intR_of {n : Int} (h : i64 n) (t : List UInt8) : intR (encInt n ++ t, 0) = (n, (t, 0)) := by
 unfold intR encInt
 rw [uintR_of (zig_lt h), zag_zig]
theorem textR_of {s : List UInt8} (h : s.length < 18446744073709551616) (t : List UInt8) : textR (uvar s.length ++ s ++ t, 0) = (s, (t, 0)) := by
 have e : lenR (uvar s.length ++ s ++ t, 0) = (s.length, (s ++ t, 0)) := by
  unfold lenR
  rw [List.append_assoc, uintR_of h]
  simp
 unfold textR
 rw [e]
 simp
theorem encInt_cut {a b : Int} (ha : i64 a) (hb : i64 b) {r r' : List UInt8} (h : encInt a ++ r = encInt b ++ r') : a = b ∧ r = r' := by
 have h1 := intR_of ha r
 have h2 := intR_of hb r'
 rw [h, h2] at h1
 simp only [Prod.mk.injEq] at h1
 exact ⟨h1.1.symm, h1.2.1.symm⟩
theorem text_cut {a b : List UInt8} (ha : a.length ≤ 4294967296) (hb : b.length ≤ 4294967296) {r r' : List UInt8} (h : uvar a.length ++ a ++ r = uvar b.length ++ b ++ r') : a = b ∧ r = r' := by
 have h1 := textR_of (s := a) (by omega) r
 have h2 := textR_of (s := b) (by omega) r'
 rw [h, h2] at h1
 simp only [Prod.mk.injEq] at h1
 exact ⟨h1.1.symm, h1.2.1.symm⟩
def codI : List Int → List UInt8
 | [] => []
 | n :: r => encInt n ++ codI r
def codS : List (List UInt8) → List UInt8
 | [] => []
 | s :: r => (uvar s.length ++ s) ++ codS r
mutual
def codT : Val → List UInt8
 | .mk k n s l => encInt k ++ (encInt n ++ ((uvar s.length ++ s) ++ (encInt l.length ++ codTs l)))
def codTs : List Val → List UInt8
 | [] => []
 | v :: r => codT v ++ codTs r
end
theorem i64_len {n : Nat} (h : n ≤ 4294967296) : i64 (n : Int) := ⟨by omega, by omega⟩
theorem codI_cut : ∀ {a b : List Int} {r r' : List UInt8}, a.length = b.length → (∀ n ∈ a, i64 n) → (∀ n ∈ b, i64 n) → codI a ++ r = codI b ++ r' → a = b ∧ r = r'
 | [], [], r, r', _, _, _, h => ⟨rfl, h⟩
 | x :: a, y :: b, r, r', hl, ha, hb, h => by
  simp only [codI, List.append_assoc] at h
  obtain ⟨rfl, h21⟩ := encInt_cut (ha _ (by simp)) (hb _ (by simp)) h
  obtain ⟨rfl, h22⟩ := codI_cut (by simpa using hl) (fun n hn => ha n (by simp [hn])) (fun n hn => hb n (by simp [hn])) h21
  exact ⟨rfl, h22⟩
theorem codS_cut : ∀ {a b : List (List UInt8)} {r r' : List UInt8}, a.length = b.length → (∀ s ∈ a, s.length ≤ 4294967296) → (∀ s ∈ b, s.length ≤ 4294967296) → codS a ++ r = codS b ++ r' → a = b ∧ r = r'
 | [], [], r, r', _, _, _, h => ⟨rfl, h⟩
 | x :: a, y :: b, r, r', hl, ha, hb, h => by
  simp only [codS] at h
  rw [List.append_assoc (uvar x.length ++ x), List.append_assoc (uvar y.length ++ y)] at h
  obtain ⟨rfl, h21⟩ := text_cut (ha _ (by simp)) (hb _ (by simp)) h
  obtain ⟨rfl, h22⟩ := codS_cut (by simpa using hl) (fun n hn => ha n (by simp [hn])) (fun n hn => hb n (by simp [hn])) h21
  exact ⟨rfl, h22⟩
mutual
theorem codT_cut : ∀ {a b : Val} {r r' : List UInt8}, okV a → okV b → codT a ++ r = codT b ++ r' → a = b ∧ r = r'
 | .mk k n s l, .mk k' n' s' l', r, r', ha, hb, h => by
  simp only [okV] at ha hb
  simp only [codT, List.append_assoc] at h
  obtain ⟨rfl, h21⟩ := encInt_cut ha.1 hb.1 h
  obtain ⟨rfl, h22⟩ := encInt_cut ha.2.1 hb.2.1 h21
  rw [← List.append_assoc, ← List.append_assoc (uvar s'.length)] at h22
  obtain ⟨rfl, h23⟩ := text_cut ha.2.2.1 hb.2.2.1 h22
  obtain ⟨e4, h24⟩ := encInt_cut (i64_len ha.2.2.2.1) (i64_len hb.2.2.2.1) h23
  obtain ⟨rfl, h25⟩ := codTs_cut (by omega) ha.2.2.2.2 hb.2.2.2.2 h24
  exact ⟨rfl, h25⟩
theorem codTs_cut : ∀ {a b : List Val} {r r' : List UInt8}, a.length = b.length → okVs a → okVs b → codTs a ++ r = codTs b ++ r' → a = b ∧ r = r'
 | [], [], r, r', _, _, _, h => ⟨rfl, h⟩
 | x :: a, y :: b, r, r', hl, ha, hb, h => by
  simp only [okVs] at ha hb
  simp only [codTs, List.append_assoc] at h
  obtain ⟨rfl, h21⟩ := codT_cut ha.1 hb.1 h
  obtain ⟨rfl, h22⟩ := codTs_cut (by simpa using hl) ha.2 hb.2 h21
  exact ⟨rfl, h22⟩
end
theorem formed1_name {k n : Int} {s : List UInt8} {m : Nat} (h : formed1 k n s m = true) : s.length ≤ 16 := by
 unfold formed1 at h
 split at h
 ·simp at h; simp [h.1]
 ·split at h
  ·simp at h; simp [h.1.2]
  ·split at h
   ·simp at h; simp [h.2]
   ·split at h
    ·rcases Nat.lt_or_ge 16 s.length with h2 | h2
     ·rw [capital_long h2] at h; simp at h
     ·exact h2
    ·cases h
theorem codTs_append : ∀ l m : List Val, codTs (l ++ m) = codTs l ++ codTs m
 | [], m => by simp [codTs]
 | v :: r, m => by simp [codTs, codTs_append r m]
theorem codTs_take {l : List Val} {k : Nat} (h : k < l.length) : codTs (l.take (k + 1)) = codTs (l.take k) ++ codT l[k] := by
 rw [List.take_succ_eq_append_getElem h, codTs_append]; simp [codTs]
mutual
theorem codT_len : ∀ v : Val, okV v → formedV v = true → (codT v).length ≤ 60 * sizeV v
 | .mk k n s kids, ho, hf => by
  simp only [okV] at ho
  simp only [formedV, Bool.and_eq_true] at hf
  have hl := codTs_len kids ho.2.2.2.2 hf.2
  have h1 := encInt_len ho.1
  have h2 := encInt_len ho.2.1
  have h3 := encInt_len (i64_nat (n := kids.length) (by omega))
  have h4 := formed1_name hf.1
  have h5 := uvar_len64 (n := s.length) (by omega)
  simp only [sizeV, codT, List.length_append]
  omega
theorem codTs_len : ∀ l : List Val, okVs l → formedL l = true → (codTs l).length ≤ 60 * sizeL l
 | [], _, _ => by simp [codTs]
 | v :: r, ho, hf => by
  simp only [okVs] at ho
  simp only [formedL, Bool.and_eq_true] at hf
  have h1 := codT_len v ho.1 hf.1
  have h2 := codTs_len r ho.2 hf.2
  simp only [codTs, sizeL, List.length_append]
  omega
end
def codN (x : Nd) : List UInt8 :=
 encInt x.kind ++ ((uvar x.name.length ++ x.name) ++ (encInt x.lo ++ (encInt x.hi ++ (encInt x.weights.length ++ (codI x.weights ++ (encInt x.labels.length ++ (codS x.labels ++
  (encInt x.values.length ++ (codTs x.values ++ (encInt x.kids.length ++ (codI x.kids ++ codT x.value)))))))))))
theorem okVs_ofmem : ∀ {l : List Val}, (∀ v ∈ l, okV v) → okVs l
 | [], _ => trivial
 | v :: r, h => ⟨h v (by simp), okVs_ofmem fun w hw => h w (by simp [hw])⟩
theorem codN_inj {x y : Nd} (hx : okN x) (hy : okN y) (h : codN x = codN y) : x = y := by
 have a1 := hx.name; have a2 := hx.weights; have a3 := hx.labels; have a4 := hx.values; have a5 := hx.kids
 have b1 := hy.name; have b2 := hy.weights; have b3 := hy.labels; have b4 := hy.values; have b5 := hy.kids
 obtain ⟨k, nm, lo, hi', ws, ls, vs, ks, v⟩ := x
 obtain ⟨k2, nm2, lo2, hi2, ws2, ls2, vs2, ks2, v2⟩ := y
 simp only [codN] at h
 simp only at a1 a2 a3 a4 a5 b1 b2 b3 b4 b5
 obtain ⟨rfl, h21⟩ := encInt_cut hx.kind hy.kind h
 obtain ⟨rfl, h22⟩ := text_cut (by omega) (by omega) h21
 obtain ⟨rfl, h23⟩ := encInt_cut hx.lo hy.lo h22
 obtain ⟨rfl, h24⟩ := encInt_cut hx.hi hy.hi h23
 obtain ⟨e5, h25⟩ := encInt_cut (i64_len (by omega)) (i64_len (by omega)) h24
 obtain ⟨rfl, h26⟩ := codI_cut (by simp only at *; omega) hx.weightsI hy.weightsI h25
 obtain ⟨e7, h27⟩ := encInt_cut (i64_len (by omega)) (i64_len (by omega)) h26
 obtain ⟨rfl, h28⟩ := codS_cut (by simp only at *; omega) (fun s hs => by have := hx.labelsI s hs; omega) (fun s hs => by have := hy.labelsI s hs; omega) h27
 obtain ⟨e9, h29⟩ := encInt_cut (i64_len (by omega)) (i64_len (by omega)) h28
 obtain ⟨rfl, h30⟩ := codTs_cut (by simp only at *; omega) (okVs_ofmem fun v hv => (hx.valuesI v hv).1) (okVs_ofmem fun v hv => (hy.valuesI v hv).1) h29
 obtain ⟨e11, h31⟩ := encInt_cut (i64_len (by omega)) (i64_len (by omega)) h30
 obtain ⟨rfl, h32⟩ := codI_cut (by simp only at *; omega) hx.kidsI hy.kidsI h31
 obtain ⟨rfl, -⟩ := codT_cut (r := []) (r' := []) hx.value hy.value (by simpa using h32)
 rfl
end Go.Ax
