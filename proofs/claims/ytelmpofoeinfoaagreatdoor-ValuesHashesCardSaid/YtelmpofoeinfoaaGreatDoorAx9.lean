/- A part of the proof. -/
import Derived.Test.YtelmpofoeinfoaaGreatDoorAx8
import Derived.Below
import Derived.Lib.ConvBytes
import Derived.Lib.ItoaMem
import Derived.ChangeMaps5
import Derived.Lib.LaidTab
import Derived.Lib.ItoaNum
import Derived.Lib.AtoiAllCases
import Derived.Recover
set_option linter.unusedVariables false
namespace Go.Ax
open Go
theorem nn {v : AV} (h : NN v := by
  repeat' first
   | assumption
   | exact NN.int _ _
   | exact NN.bool _
   | exact NN.str _
   | exact NN.nsl
   | exact NN.nptr
   | exact NN.nif
   | exact NN.nfn
   | exact NN.nmap
   | exact NN.junk
   | exact encV_nn _
   | exact encVs_nn _
   | exact encI_nn _
   | exact NNs.nil
   | refine NNs.cons ?_ ?_
   | refine NN.agg' ?_
   | refine NN.tup' ?_
   | refine NN.il' ?_
   | refine NN.ip' ?_
   | refine NN.ifc _ _ ?_
   | exact NN.fn _ _ _ (by simp) (by simp)) : NN v := h
theorem nns {l : List AV} (h : NNs l := by
  repeat' first
   | assumption
   | exact NN.int _ _
   | exact NN.bool _
   | exact NN.str _
   | exact NN.nsl
   | exact NN.nptr
   | exact NN.nif
   | exact NN.nfn
   | exact NN.nmap
   | exact NN.junk
   | exact encV_nn _
   | exact encVs_nn _
   | exact encI_nn _
   | exact NNs.nil
   | refine NNs.cons ?_ ?_
   | refine NN.agg' ?_
   | refine NN.tup' ?_
   | refine NN.il' ?_
   | refine NN.ip' ?_
   | refine NN.ifc _ _ ?_
   | exact NN.fn _ _ _ (by simp) (by simp)) : NNs l := h
section
variable {P : Program} {Γ : List (Nat × AV)} {F : FuncId} {args : List AV} {r : AV} {mem : Mem} {nx : Nat} {K : AV → Mem → Nat → Prop}
theorem PureC.go (h : PureC P [] F args r) (hk : K r mem nx) (ha : NNs args := by exact nns) (hr : NN r := by exact nn) : ACalls P [] F args mem nx K := h.use nnΓ ha hr hk
theorem ACalls.go0 {Qs : AV → Mem → Nat → Prop} (h : ACalls P [] F args [] 0 Qs) (hk : ∀ r m n, Qs r m n → ∃ r', Cv m [] r r' ∧ K r' mem nx) (ha : NNs args := by exact nns) : ACalls P [] F args mem nx K :=
 ACalls.call0 nnΓ h ha hk
end
theorem ACalls.glob {P : Program} {Γ : List (Nat × AV)} {F : FuncId} {args : List AV} {mem : Mem} {nx : Nat} {Q : AV → Mem → Nat → Prop} (h : ACalls P [] F args mem nx Q) : ACalls P Γ F args mem nx Q := by
 refine ⟨fun X D ρ w vs hD hm hv => ?_⟩
 refine (h.run X D ρ w vs hD ⟨hm.low, hm.blk, hm.emp, hm.inj, hm.nod, hm.bar, (fun p hp => by cases hp)⟩ hv).mono ?_
 rintro e w' ⟨r, v, m, n, ρ', h1, h2, h3, h4, h5, h6⟩
 exact ⟨r, v, m, n, ρ', h1, h2, h3, ⟨h4.low, h4.blk, h4.emp, h4.inj, h4.nod, h4.bar, fun p hp => h6.vr (hm.glo p hp)⟩, h5, h6⟩
def sameN : List (Nat × Nat) → Bool
 | [] => true
 | (i, j) :: r => Nat.beq i j && sameN r
theorem sameN_sound : ∀ {σ : List (Nat × Nat)}, sameN σ = true → ∀ p ∈ σ, p.1 = p.2
 | [], h, p, hp => by cases hp
 | (i, j) :: r, h, p, hp => by
  simp only [sameN, Bool.and_eq_true] at h
  rcases List.mem_cons.1 hp with rfl | hp
  ·exact Nat.eq_of_beq_eq_true h.1
  ·exact sameN_sound h.2 p hp
theorem ACalls.pre {P : Program} {Γ : List (Nat × AV)} {F : FuncId} {args args' : List AV} {mem mem' : Mem} {nx : Nat} {K : AV → Mem → Nat → Prop} (hΓ : ∀ p ∈ Γ, NN p.2) (σ : List (Nat × Nat)) (hid : (sameN σ && nodM mem') = true)
  (hM : MemConv mem σ mem') (hargs : CvL mem σ args args') (h : ACalls P Γ F args' mem' nx K) : ACalls P Γ F args mem nx K := by
 simp only [Bool.and_eq_true] at hid
 have hid1 := sameN_sound hid.1
 have hnod := nodM_sound hid.2
 refine ⟨fun X D ρ w vs hD hm hv => ?_⟩
 have hσ : ∀ id id', lk σ id = some id' → D id → D id' ∧ ρ id' = ρ id := by
  intro id id' h hd
  have := hid1 _ (lk_mem h)
  simp only at this
  subst this
  exact ⟨hd, rfl⟩
 have hinj : Inj σ := fun i j k h1 h2 => by
  have a := hid1 _ (lk_mem h1)
  have b := hid1 _ (lk_mem h2)
  simp only at a b
  omega
 obtain ⟨m1, v1, o1⟩ := hm.turn (D' := D) (ρ' := ρ) hΓ hσ hM.cvm hnod hinj
 have hvs : VRL ρ D (OX X ρ mem') w args' vs := ⟨by rw [← hargs.1]; exact hv.1, fun j c' x hc' hx => by
   obtain ⟨c, hc⟩ := get_of_len hargs.1 hc'
   exact v1 c c' (hargs.2 j c c' hc hc') _ (hv.2 j c x hc hx)⟩
 refine (h.run X D ρ w vs hD m1 hvs).mono ?_
 rintro e w' ⟨r, v, m, n, ρ', h1, h2, h3, h4, h5, h6⟩
 refine ⟨r, v, m, n, ρ', h1, h2, h3, h4, h5, ?_⟩
 have e0 : Ext D ρ mem w ρ D mem' w := ⟨fun i hi => hi, fun _ _ => rfl, Nat.le_refl _, fun _ _ _ => rfl, fun p hp hn => .inl (o1 p hp hn), .refl _⟩
 exact e0.trans h6
theorem enc_cases {l : List Val} {k : Nat} (h : k < l.length) : ∃ a b c d, Val.mk a b c d ∈ l ∧ l[k]? = some (Val.mk a b c d) ∧ l[k] = Val.mk a b c d ∧ (encVs l)[(k : Int).toNat]? = some (encV (Val.mk a b c d)) := by
 obtain ⟨⟨a, b, c, d⟩, hv⟩ : ∃ v, v = l[k] := ⟨_, rfl⟩
 have e := enc_at h
 rw [← hv] at e
 exact ⟨a, b, c, d, by rw [hv]; exact List.getElem_mem h, by rw [hv]; exact List.getElem?_eq_getElem h, hv.symm, e⟩
section
variable {mem : Mem} {σ : List (Nat × Nat)}
theorem Cv.int {k : IntKind} {a b : Int} (h : a = b) : Cv mem σ (.int k a) (.int k b) := by rw [h]; exact .same _ (.int _ _)
theorem Cv.w64 {x y : Int} (h : x = y) (hb : i64 y) : Cv mem σ (.int .i64 (IntKind.i64.wrap x)) (.int .i64 y) := by rw [h, wrap64 hb]; exact .same _ (.int _ _)
theorem Cv.bool {a b : Bool} (h : a = b) : Cv mem σ (.bool a) (.bool b) := by rw [h]; exact .same _ (.bool _)
theorem cvVal (k n : Int) (s : List UInt8) : CvE mem σ (.agg [.int .i64 k, .int .i64 n, .str s, .nsl]) (encV (.mk k n s [])) :=
 .agg (.cons (.same _ (.int _ _)) (.cons (.same _ (.int _ _)) (.cons (.same _ (.str _)) (.cons (.nil 4) .nil))))
end
theorem encVs_snoc (l : List Val) (v : Val) : encVs (l ++ [v]) = encVs l ++ [encV v] := by simp [encVs_map]
theorem w64 {x y : Int} (h : x = y) (hb : i64 y) : IntKind.i64.wrap x = y := by rw [h, wrap64 hb]
theorem klt {l : List Val} {k : Nat} (h : decide ((k : Int) < ((encVs l).length : Nat)) = true) : k < l.length := by rw [encVs_length] at h; simpa using h
theorem kge {l : List Val} {k : Nat} (h : decide ((k : Int) < ((encVs l).length : Nat)) = false) : l.length ≤ k := by rw [encVs_length] at h; simpa using h
theorem Cv.fzR {mem : Mem} {σ : List (Nat × Nat)} {id len : Nat} {t : TypeId} {sz : Nat} {xs ys : List AV} (h1 : lk mem id = some (.row t sz xs)) (h2 : lk σ id = none) (h3 : CvR mem σ xs ys) (h4 : ys.length = len) : Cv mem σ (.sl id 0 len) (.il sz ys) :=
 .fz id 0 len t sz xs ys h1 h2 (by have := h3.1; omega) h4 (fun i x y hx hy => (h3.2 i x y (by simpa using hx) hy).1) (fun i x y j c c' hx hy hc hc' => (h3.2 i x y (by simpa using hx) hy).2 j c c' hc hc')
section
variable {P : Program} {Γ : List (Nat × AV)} {F : FuncId} {args : List AV} {r : AV} {mem : Mem} {nx : Nat} {K : AV → Mem → Nat → Prop}
theorem PureC.goG (h : PureC P [] F args r) (hk : K r mem nx) (ha : NNs args := by exact nns) (hr : NN r := by exact nn) : ACalls P Γ F args mem nx K := (h.use nnΓ ha hr hk).glob
theorem ACalls.goG0 {Qs : AV → Mem → Nat → Prop} (h : ACalls P [] F args [] 0 Qs) (hk : ∀ r m n, Qs r m n → ∃ r', Cv m [] r r' ∧ K r' mem nx) (ha : NNs args := by exact nns) : ACalls P Γ F args mem nx K :=
 (ACalls.call0 nnΓ h ha hk).glob
end
end Go.Ax
namespace Go.Ax
open Go
section
variable {P : Program} {Γ : List (Nat × AV)} {B : Nat}
structure ALoop (P : Program) (Γ : List (Nat × AV)) (B : Nat) (c : Code) (s : St) (Q : Exit → St → Prop) : Prop where
 run : AWp P Γ B (.loop c) s Q
def seqQ (P : Program) (Γ : List (Nat × AV)) (B : Nat) (y : Code) (Q : Exit → St → Prop) (e : Exit) (s : St) : Prop :=
 match e with
 | .normal => AWp P Γ B y s Q
 | e => Q e s
def blkQ (id : Nat) (Q : Exit → St → Prop) (e : Exit) (s : St) : Prop :=
 match e with
 | .exit i => match Nat.beq i id with
  | true => Q .normal s
  | false => Q (.exit i) s
 | e => Q e s
theorem aOps_no {ops : List Oper} {K : St → Prop} {Kp : Value → St → Prop} : ∀ {l : List Oper} {s : St}, aOps P Γ (sem P Γ B) ops l s K (fun _ _ => False) → aOps P Γ (sem P Γ B) ops l s K Kp
 | [], s, h => h
 | o :: r, s, h => by
  simp only [aOps] at h ⊢
  split
  ·rename_i h1; simp only [h1] at h
  ·rename_i h1
   simp only [h1] at h
   split
   ·rename_i h2; simp only [h2] at h; exact aOps_no h
   ·rename_i h2; simp only [h2] at h
  ·rename_i h1
   simp only [h1] at h
   split
   ·rename_i h2
    simp only [h2] at h
    split
    ·rename_i h3; simp only [h3] at h; exact aOps_no h
    ·rename_i h3; simp only [h3] at h
   ·rename_i h2
    simp only [h2] at h
    split
    ·rename_i h3
     simp only [h3] at h
     refine ACalls.mono h fun v m n h => ?_
     split
     ·rename_i h4; simp only [h4] at h; exact aOps_no h
     ·rename_i h4; simp only [h4] at h
    ·rename_i h3
     simp only [h3] at h
     split at h <;> exact h.elim
theorem vrun_no {ops : List Oper} {tr : List (List Nat)} {base : Nat} {K : St → Prop} {Kp : Value → Mem → Nat → Prop} : ∀ {l : List Nat} {recs : List Rec} {s : St}, vrun P Γ (sem P Γ B) ops tr base K (fun _ _ _ => False) l recs s → vrun P Γ (sem P Γ B) ops tr base K Kp l recs s
 | [], recs, s, h => h
 | i :: r, recs, s, h => by
  simp only [vrun] at h ⊢
  split
  ·rename_i h1; simp only [h1] at h
  ·rename_i o h1
   simp only [h1] at h
   split
   ·rename_i h2; simp only [h2] at h
   ·rename_i h2
    simp only [h2] at h
    split
    ·rename_i h3; simp only [h3] at h; exact vrun_no h
    ·rename_i h3; simp only [h3] at h
   ·rename_i h2
    simp only [h2] at h
    split
    ·rename_i hk
     simp only [hk] at h
     split
     ·rename_i h3
      simp only [h3] at h
      split
      ·rename_i h4; simp only [h4] at h; exact vrun_no h
      ·rename_i h4; simp only [h4] at h
     ·rename_i h3; simp only [h3] at h
    ·rename_i hk
     simp only [hk] at h
     split
     ·rename_i h3
      simp only [h3] at h
      split
      ·rename_i h4; simp only [h4] at h; exact vrun_no h
      ·rename_i h4; simp only [h4] at h
     ·rename_i h3
      split at h
      ·rename_i h4; exact (h3 _ _ _ _ h4).elim
      ·exact h
    ·rename_i hk
     simp only [hk] at h
     split
     ·rename_i h3
      simp only [h3] at h
      split
      ·rename_i h4; simp only [h4] at h; exact ⟨h.1, vrun_no h.2⟩
      ·rename_i h4; simp only [h4] at h
     ·rename_i h3
      simp only [h3] at h
      split
      ·rename_i h4
       simp only [h4] at h
       refine ACalls.mono h fun v m n h => ?_
       split
       ·rename_i h5; simp only [h5] at h; exact ⟨h.1, vrun_no h.2⟩
       ·rename_i h5; simp only [h5] at h
      ·rename_i h4; simp only [h4] at h
structure AOps (P : Program) (Γ : List (Nat × AV)) (B : Nat) (ops l : List Oper) (s : St) (K : St → Prop) : Prop where
 run : aOps P Γ (sem P Γ B) ops l s K fun _ _ => False
def fo1 (P : Program) (Γ : List (Nat × AV)) (B : Nat) (ops l : List Oper) (s : St) (K : St → Prop) : Prop :=
 match l with
 | [] => K s
 | o :: r => stK s fun sl mem nx nt => fWant ops sl o.guard
   (fEff false P Γ (sem P Γ B) sl mem nx o.op (fun v mem nx => fPut s o.dst v mem nx fun s' => AOps P Γ B ops r s' K) fun _ _ _ => False)
   (fPut s o.dst (.tup []) mem nx fun s' => AOps P Γ B ops r s' K)
theorem AOps.go {ops l : List Oper} {s : St} {K : St → Prop} (h : fo1 P Γ B ops l s K) : AOps P Γ B ops l s K := by
 refine ⟨?_⟩
 cases l with
 | nil => exact h
 | cons o r =>
  have h : fWant ops s.sl o.guard (fEff false P Γ (sem P Γ B) s.sl s.mem s.nx o.op (fun v mem nx => fPut s o.dst v mem nx fun s' => AOps P Γ B ops r s' K) fun _ _ _ => False) (fPut s o.dst (.tup []) s.mem s.nx fun s' => AOps P Γ B ops r s' K) := h
  simp only [aOps]
  rcases fWant_a h with ⟨h1, h⟩ | ⟨h1, h⟩
  ·simp only [h1]
   rcases fEff_a h with ⟨v, m, n, h2, h⟩ | ⟨h2, F, l, h3, h⟩
   ·obtain ⟨s', h4, h⟩ := fPut_a h
    simp only [h2, h4]
    exact h.run
   ·simp only [h2, h3]
    refine (show ACalls P Γ F l s.mem s.nx _ from h).mono fun v m n h => ?_
    obtain ⟨s', h4, h⟩ := fPut_a h
    simp only [h4]
    exact h.run
  ·obtain ⟨s', h4, h⟩ := fPut_a h
   simp only [h1, h4]
   exact h.run
structure ADr (P : Program) (Γ : List (Nat × AV)) (B : Nat) (ops : List Oper) (tr : List (List Nat)) (base : Nat) (K : St → Prop) (l : List Nat) (recs : List Rec) (s : St) : Prop where
 run : vrun P Γ (sem P Γ B) ops tr base K (fun _ _ _ => False) l recs s
def fd1 (P : Program) (Γ : List (Nat × AV)) (B : Nat) (ops : List Oper) (tr : List (List Nat)) (base : Nat) (K : St → Prop) (l : List Nat) (recs : List Rec) (s : St) : Prop :=
 match l with
 | [] => K s
 | i :: r => match ops[i]? with
  | none => False
  | some o => stK s fun sl mem nx nt => fWant ops sl o.guard
   (match kind P o.op with
    | .pure => match still o.op with
     | true => fStep false P Γ sl [] nx o.op fun v _ _ => fPut s o.dst v mem nx fun s' => ADr P Γ B ops tr base K r (⟨i, sl, true, v⟩ :: recs) s'
     | false => filterK (fun p => vis tr base ops.length i p.1) mem fun m => fStep false P Γ sl m nx o.op fun v _ _ => fPut s o.dst v mem nx fun s' => ADr P Γ B ops tr base K r (⟨i, sl, true, v⟩ :: recs) s'
    | .al => natK (base + i) fun id => fStep false P Γ sl [] id o.op fun v m _ => match m with
     | [(_, b)] => fPut s o.dst v ((id, b) :: mem) nx fun s' => ADr P Γ B ops tr base K r (⟨i, sl, true, v⟩ :: recs) s'
     | _ => False
    | .eff => filterK (fun p => vis tr base ops.length i p.1) mem fun m => fEff false P Γ (sem P Γ B) sl m nx o.op (fun v m nx' => filterK (fun p => !vis tr base ops.length i p.1) mem fun rest => filterK (fun p => !hasKey p.1 m) rest fun rest => appK m rest fun m =>
      fPut s o.dst v m nx' fun s' => fChk false P Γ ops tr base i m nx' recs (ADr P Γ B ops tr base K r recs s')) fun _ _ _ => False)
   (fPut s o.dst (.tup []) mem nx fun s' => ADr P Γ B ops tr base K r (⟨i, sl, false, .tup []⟩ :: recs) s')
theorem ADr.go {ops : List Oper} {tr : List (List Nat)} {base : Nat} {K : St → Prop} {l : List Nat} {recs : List Rec} {s : St} (h : fd1 P Γ B ops tr base K l recs s) : ADr P Γ B ops tr base K l recs s := by
 refine ⟨?_⟩
 cases l with
 | nil => exact h
 | cons i r =>
  simp only [fd1] at h
  simp only [vrun]
  split at h
  ·exact h.elim
  ·rename_i o ho
   simp only [ho]
   have h := stK_iff.1 h
   rcases fWant_a h with ⟨h1, h⟩ | ⟨h1, h⟩
   ·simp only [h1]
    split at h
    ·rename_i hkd
     simp only [hkd]
     split at h
     ·rename_i hst
      obtain ⟨v, m, n, h2, h⟩ := fStep_a (s := { sl := s.sl, mem := [], nx := s.nx, nt := s.nt }) h
      obtain ⟨m', n', h2'⟩ := aStep_still (s := { sl := s.sl, mem := [], nx := s.nx, nt := s.nt }) (s' := { s with mem := seen tr base ops.length i s.mem }) hst rfl h2
      obtain ⟨s', h3, h⟩ := fPut_a h
      simp only [h2', h3]
      exact h.run
     ·have h := filterK_iff.1 h
      obtain ⟨v, m, n, h2, h⟩ := fStep_a (s := { s with mem := seen tr base ops.length i s.mem }) h
      obtain ⟨s', h3, h⟩ := fPut_a h
      simp only [h2, h3]
      exact h.run
    ·rename_i hkd
     simp only [hkd]
     have h := natK_iff.1 h
     obtain ⟨v, m, n, h2, h⟩ := fStep_a (s := { s with mem := [], nx := base + i }) h
     simp only [h2]
     split at h
     ·obtain ⟨s', h3, h⟩ := fPut_a h
      simp only [h3]
      exact h.run
     ·exact h.elim
    ·rename_i hkd
     simp only [hkd]
     have h := filterK_iff.1 h
     rcases fEff_a (s := { s with mem := seen tr base ops.length i s.mem }) h with ⟨v, m, n, h2, h⟩ | ⟨h2, F, l, h3, h⟩
     ·simp only [h2]
      have h := appK_iff.1 (filterK_iff.1 (filterK_iff.1 h))
      obtain ⟨s', h3, h⟩ := fPut_a h
      have h3 : stepSt s o.dst v (m ++ back m (unseen tr base ops.length i s.mem)) n = some s' := h3
      simp only [h3]
      obtain ⟨e1, e2, _⟩ := stepSt_parts h3
      have h : fChk false P Γ ops tr base i (m ++ back m (unseen tr base ops.length i s.mem)) n recs (ADr P Γ B ops tr base K r recs s') := h
      rw [← e1, ← e2] at h
      obtain ⟨h4, h⟩ := fChk_a h
      exact ⟨h4, h.run⟩
     ·rw [aCall_congr (s' := s) (fun x _ => by cases x <;> rfl)] at h3
      simp only [h2, h3]
      refine (show ACalls P Γ F l _ _ _ from h).mono fun v m n h => ?_
      have h := appK_iff.1 (filterK_iff.1 (filterK_iff.1 h))
      obtain ⟨s', h3, h⟩ := fPut_a h
      have h3 : stepSt s o.dst v (m ++ back m (unseen tr base ops.length i s.mem)) n = some s' := h3
      simp only [h3]
      obtain ⟨e1, e2, _⟩ := stepSt_parts h3
      have h : fChk false P Γ ops tr base i (m ++ back m (unseen tr base ops.length i s.mem)) n recs (ADr P Γ B ops tr base K r recs s') := h
      rw [← e1, ← e2] at h
      obtain ⟨h4, h⟩ := fChk_a h
      exact ⟨h4, h.run⟩
   ·obtain ⟨s', h3, h⟩ := fPut_a h
    simp only [h1, h3]
    exact h.run
def fReg (P : Program) (Γ : List (Nat × AV)) (B : Nat) (ops : List Oper) (s : St) (Q : Exit → St → Prop) : Prop :=
 match P.follows .mixedOrders with
 | true => match okDraw P ops (eager P ops ops.length [] (upto ops.length)) with
  | true => stK s fun sl mem nx nt => natK (nx + ops.length) fun n => listK (eager P ops ops.length [] (upto ops.length)) fun ord => ADr P Γ B ops (trs ops []) nx (fun s' => Q .normal s') ord [] ⟨sl, mem, n, nt⟩
  | false => False
 | false => False
def scpQ (Q : Exit → St → Prop) (e : Exit) (s : St) : Prop :=
 match e with
 | .goto _ => False
 | e => Q e s
def fw1 (P : Program) (Γ : List (Nat × AV)) (B : Nat) (c : Code) (s : St) (Q : Exit → St → Prop) : Prop :=
 match c with
 | .skip => Q .normal s
 | .seq x y => AWp P Γ B x s (seqQ P Γ B y Q)
 | .cond c x y => stK s fun sl _ _ _ => fev Γ sl c fun v => match v with
  | .bool b => bcs b (AWp P Γ B x s Q) (AWp P Γ B y s Q)
  | _ => False
 | .block id c => AWp P Γ B c s (blkQ id Q)
 | .loop c => ALoop P Γ B c s Q
 | .label _ => Q .normal s
 | .scope c => AWp P Γ B c s (scpQ Q)
 | .exit i => Q (.exit i) s
 | .ret => Q .ret s
 | .region _ ops draw => match draw with
  | false => AOps P Γ B ops.toList ops.toList s fun s' => Q .normal s'
  | true => fReg P Γ B ops.toList s Q
 | .rangeFunc g ps ca cb => fwp false P Γ (sem P Γ B) (.rangeFunc g ps ca cb) s Q
 | _ => False
theorem AWp.go {c : Code} {s : St} {Q : Exit → St → Prop} (h : fw1 P Γ B c s Q) : AWp P Γ B c s Q := by
 cases c with
 | skip => exact fwp_sound (cl := false) sem_ok .skip s Q h
 | exit i => exact fwp_sound (cl := false) sem_ok (.exit i) s Q h
 | ret => exact fwp_sound (cl := false) sem_ok .ret s Q h
 | loop c => exact (show ALoop P Γ B c s Q from h).run
 | label l => exact fwp_sound (cl := false) sem_ok (.label l) s Q h
 | rangeFunc g ps ca cb => exact fwp_sound (cl := false) sem_ok (.rangeFunc g ps ca cb) s Q h
 | scope c =>
  have h : AWp P Γ B c s (scpQ Q) := h
  refine ⟨fun rd X ds D ρ a w hD hs hB hr => wpIn_scope (wpIn_mono (h.run rd X ds D ρ a w hD hs hB hr.scope) ?_)⟩
  rintro e a' w' ⟨s', ρ', hq, hB', hs', hext⟩
  cases e with
  | goto l => exact (show False from hq).elim
  | normal => exact ⟨s', ρ', hq, hB', hs', hext⟩
  | exit i => exact ⟨s', ρ', hq, hB', hs', hext⟩
  | ret => exact ⟨s', ρ', hq, hB', hs', hext⟩
  | panic c => exact ⟨s', ρ', hq, hB', hs', hext⟩
  | outgrown => exact ⟨s', ρ', hq, hB', hs', hext⟩
 | seq x y =>
  have h : AWp P Γ B x s (seqQ P Γ B y Q) := h
  refine ⟨fun rd X ds D ρ a w hD hs hB hr => wpIn_seq (wpIn_mono (h.run rd X ds D ρ a w hD hs hB hr.seq1) ?_)⟩
  rintro e a' w' ⟨s', ρ', hq, hB', hs', hext⟩
  cases e with
  | normal =>
   refine wpIn_mono ((show AWp P Γ B y s' Q from hq).run rd X ds D ρ' a' w' hD hs' hB' hr.seq2) ?_
   rintro e a2 w2 ⟨s2, ρ2, h1, h2, h3, h4⟩
   exact ⟨s2, ρ2, h1, h2, h3, hext.trans h4⟩
  | exit i => exact ⟨s', ρ', hq, hB', hs', hext⟩
  | goto l => exact ⟨s', ρ', hq, hB', hs', hext⟩
  | ret => exact ⟨s', ρ', hq, hB', hs', hext⟩
  | panic c => exact ⟨s', ρ', hq, hB', hs', hext⟩
  | outgrown => exact ⟨s', ρ', hq, hB', hs', hext⟩
 | cond c x y =>
  have h : fev Γ s.sl c fun v => match v with
   | .bool b => bcs b (AWp P Γ B x s Q) (AWp P Γ B y s Q)
   | _ => False := h
  obtain ⟨v, h1, h⟩ := fev_ev h
  split at h
  ·rename_i b
   refine ⟨fun rd X ds D ρ a w hD hs hB hr => ?_⟩
   have hv := ev_sound hs h1
   generalize he : a.eval c = cv at hv
   cases hv
   cases b with
   | true => exact wpIn_cond_true he ((show AWp P Γ B x s Q from h).run rd X ds D ρ a w hD hs hB hr.cond1)
   | false => exact wpIn_cond_false he ((show AWp P Γ B y s Q from h).run rd X ds D ρ a w hD hs hB hr.cond2)
  ·exact h.elim
 | block id c =>
  have h : AWp P Γ B c s (blkQ id Q) := h
  refine ⟨fun rd X ds D ρ a w hD hs hB hr => wpIn_block (wpIn_mono (h.run rd X ds D ρ a w hD hs hB hr.block) ?_)⟩
  rintro e a' w' ⟨s', ρ', hq, hB', hs', hext⟩
  cases e with
  | exit i =>
   simp only [Exit.inBlock]
   simp only [blkQ] at hq
   split at hq
   ·rename_i hi; rw [if_pos (Nat.eq_of_beq_eq_true hi)]; exact ⟨s', ρ', hq, hB', hs', hext⟩
   ·rename_i hi; rw [if_neg (Nat.ne_of_beq_eq_false hi)]; exact ⟨s', ρ', hq, hB', hs', hext⟩
  | normal => exact ⟨s', ρ', hq, hB', hs', hext⟩
  | goto l => exact ⟨s', ρ', hq, hB', hs', hext⟩
  | ret => exact ⟨s', ρ', hq, hB', hs', hext⟩
  | panic c => exact ⟨s', ρ', hq, hB', hs', hext⟩
  | outgrown => exact ⟨s', ρ', hq, hB', hs', hext⟩
 | region id ops draw =>
  cases draw with
  | false => exact awp_sound sem_ok (.region id ops false) s Q (aOps_no (show AOps P Γ B ops.toList ops.toList s _ from h).run)
  | true =>
   refine awp_sound sem_ok (.region id ops true) s Q ?_
   have h : fReg P Γ B ops.toList s Q := h
   unfold fReg at h
   simp only [awp]
   split at h
   ·rename_i hmix
    simp only [hmix]
    split at h
    ·rename_i hok
     simp only [aDraw, hok]
     exact vrun_no (listK_iff.1 (natK_iff.1 (stK_iff.1 h))).run
    ·exact h.elim
   ·exact h.elim
 | _ => exact (show False from h).elim
theorem acalls_go {F : FuncId} {fn : Func} {c : Code} {args : List AV} {mem : Mem} {nx : Nat} {Q : AV → Mem → Nat → Prop} (hΓ : ∀ p ∈ Γ, NN p.2) (hf : P.funcs[F]? = some fn) (hb : fn.body = some c)
  (h : fEnter fn.ntmps args mem nx fun s => AWp P Γ nx c s (fRet P fn.results.toList (Fini nx Q))) (hF : Nat.beq F YF = false := by rfl) : ACalls P Γ F args mem nx Q :=
 (acalls_of_awp hf hb ((fEnter_iff h).mono fun _ _ h => fRet_a h) hF).turn hΓ
theorem ACalls.yield {id : Nat} {args : List AV} {mem : Mem} {nx : Nat} {K : AV → Mem → Nat → Prop} {sl sl' : List (Nat × AV)} {nt : Nat} {ps : Array Tmp} {ca cb : Code} {st : LoopState} {pd : Option Code}
  (hl : lk mem id = some (.loop sl nt ps ca cb st pd)) (hp : putPs nt ps.toList args sl = some sl') (ha : hasRF ca = false) (hb : hasRF cb = false)
  (h : AWp P Γ nx ca ⟨sl', mem, nx, nt⟩ (asgQ P Γ nx id cb K)) : ACalls P Γ YF (.yld id :: args) mem nx K :=
 (ACallsP.round (Kp := fun _ _ _ => False) hl hp ha hb h).toC fun _ _ _ h => h
def loopQ {α : Type} (B : Nat) (R : α → Prop) (I : α → St) (μ : α → Nat) (x : α) (Q : Exit → St → Prop) (e : Exit) (s : St) : Prop :=
 match e with
 | .normal => Again B R I μ x s
 | e => Q e s
theorem ALoop.at {c : Code} {s : St} {Q : Exit → St → Prop} {α : Type} (hΓ : ∀ p ∈ Γ, NN p.2) (R : α → Prop) (I : α → St) (μ : α → Nat) (x : α) (σ : List (Nat × Nat)) (hx : R x) (h0 : Conv B σ s (I x))
  (h : ∀ x, R x → AWp P Γ B c (I x) (loopQ B R I μ x Q)) : ALoop P Γ B c s Q := by
 refine ⟨AWp.conv hΓ h0 ?_⟩
 refine AWp.loop (α := { x : α // R x }) hΓ (fun x => I x.1) (fun x => μ x.1) (fun x => ?_) ⟨x, hx⟩
 refine (h x.1 x.2).mono fun e s h => ?_
 cases e with
 | normal =>
  obtain ⟨y, σ, hy, hc, hlt⟩ := (show Again B R I μ x.1 s from h)
  exact ⟨⟨y, hy⟩, σ, hc, hlt⟩
 | exit i => exact h
 | goto l => exact h
 | ret => exact h
 | panic c => exact h
 | outgrown => exact h
theorem ALoop.ph {c : Code} {s : St} {Q : Exit → St → Prop} (t : TypeId) (sz : Nat) (h : ALoop P Γ B c ⟨s.sl, (s.nx, .row t sz []) :: s.mem, s.nx + 1, s.nt⟩ Q) : ALoop P Γ B c s Q := ⟨AWp.ph t sz h.run⟩
def foA (P : Program) (Γ : List (Nat × AV)) (B : Nat) (ops : List Oper) (K : St → Prop) (next : List Oper → St → Prop) (l : List Oper) (s : St) : Prop :=
 match l with
 | [] => K s
 | o :: r => stK s fun sl mem nx nt => fWant ops sl o.guard
   (fEff false P Γ (sem P Γ B) sl mem nx o.op (fun v mem nx => fPut s o.dst v mem nx fun s' => next r s') fun _ _ _ => False)
   (fPut s o.dst (.tup []) mem nx fun s' => next r s')
theorem foA_ok {ops : List Oper} {K : St → Prop} {next : List Oper → St → Prop} (hn : ∀ r s, next r s → AOps P Γ B ops r s K) {l : List Oper} {s : St} (h : foA P Γ B ops K next l s) : AOps P Γ B ops l s K := by
 refine ⟨?_⟩
 cases l with
 | nil => exact h
 | cons o r =>
  have h : fWant ops s.sl o.guard (fEff false P Γ (sem P Γ B) s.sl s.mem s.nx o.op (fun v mem nx => fPut s o.dst v mem nx fun s' => next r s') fun _ _ _ => False) (fPut s o.dst (.tup []) s.mem s.nx fun s' => next r s') := h
  simp only [aOps]
  rcases fWant_a h with ⟨h1, h⟩ | ⟨h1, h⟩
  ·simp only [h1]
   rcases fEff_a h with ⟨v, m, n, h2, h⟩ | ⟨h2, F, l, h3, h⟩
   ·obtain ⟨s', h4, h⟩ := fPut_a h
    simp only [h2, h4]
    exact (hn _ _ h).run
   ·simp only [h2, h3]
    refine (show ACalls P Γ F l s.mem s.nx _ from h).mono fun v m n h => ?_
    obtain ⟨s', h4, h⟩ := fPut_a h
    simp only [h4]
    exact (hn _ _ h).run
  ·obtain ⟨s', h4, h⟩ := fPut_a h
   simp only [h1, h4]
   exact (hn _ _ h).run
def fwA (P : Program) (Γ : List (Nat × AV)) (B : Nat) (next : Code → St → (Exit → St → Prop) → Prop) (c : Code) (s : St) (Q : Exit → St → Prop) : Prop :=
 match c with
 | .seq x y => next x s (seqQ P Γ B y Q)
 | .block id c => next c s (blkQ id Q)
 | c => fw1 P Γ B c s Q
theorem fwA_ok {next : Code → St → (Exit → St → Prop) → Prop} (hn : ∀ c s Q, next c s Q → AWp P Γ B c s Q) {c : Code} {s : St} {Q : Exit → St → Prop} (h : fwA P Γ B next c s Q) : AWp P Γ B c s Q := by
 cases c with
 | seq x y => exact AWp.go (show fw1 P Γ B (.seq x y) s Q from hn _ _ _ h)
 | block id c => exact AWp.go (show fw1 P Γ B (.block id c) s Q from hn _ _ _ h)
 | _ => exact AWp.go h
def foP0 (P : Program) (Γ : List (Nat × AV)) (B : Nat) (ops : List Oper) (K : St → Prop) (l : List Oper) (s : St) : Prop := AOps P Γ B ops l s K
theorem foP0_ok {ops : List Oper} {K : St → Prop} (l : List Oper) (s : St) (h : foP0 P Γ B ops K l s) : AOps P Γ B ops l s K := h
def foP1 (P : Program) (Γ : List (Nat × AV)) (B : Nat) (ops : List Oper) (K : St → Prop) (l : List Oper) (s : St) : Prop := foA P Γ B ops K (foP0 P Γ B ops K) l s
theorem foP1_ok {ops : List Oper} {K : St → Prop} (l : List Oper) (s : St) (h : foP1 P Γ B ops K l s) : AOps P Γ B ops l s K := foA_ok foP0_ok h
def foP2 (P : Program) (Γ : List (Nat × AV)) (B : Nat) (ops : List Oper) (K : St → Prop) (l : List Oper) (s : St) : Prop := foA P Γ B ops K (foP1 P Γ B ops K) l s
theorem foP2_ok {ops : List Oper} {K : St → Prop} (l : List Oper) (s : St) (h : foP2 P Γ B ops K l s) : AOps P Γ B ops l s K := foA_ok foP1_ok h
def foP3 (P : Program) (Γ : List (Nat × AV)) (B : Nat) (ops : List Oper) (K : St → Prop) (l : List Oper) (s : St) : Prop := foA P Γ B ops K (foP2 P Γ B ops K) l s
theorem foP3_ok {ops : List Oper} {K : St → Prop} (l : List Oper) (s : St) (h : foP3 P Γ B ops K l s) : AOps P Γ B ops l s K := foA_ok foP2_ok h
def foP4 (P : Program) (Γ : List (Nat × AV)) (B : Nat) (ops : List Oper) (K : St → Prop) (l : List Oper) (s : St) : Prop := foA P Γ B ops K (foP3 P Γ B ops K) l s
theorem foP4_ok {ops : List Oper} {K : St → Prop} (l : List Oper) (s : St) (h : foP4 P Γ B ops K l s) : AOps P Γ B ops l s K := foA_ok foP3_ok h
def foP5 (P : Program) (Γ : List (Nat × AV)) (B : Nat) (ops : List Oper) (K : St → Prop) (l : List Oper) (s : St) : Prop := foA P Γ B ops K (foP4 P Γ B ops K) l s
theorem foP5_ok {ops : List Oper} {K : St → Prop} (l : List Oper) (s : St) (h : foP5 P Γ B ops K l s) : AOps P Γ B ops l s K := foA_ok foP4_ok h
def foP6 (P : Program) (Γ : List (Nat × AV)) (B : Nat) (ops : List Oper) (K : St → Prop) (l : List Oper) (s : St) : Prop := foA P Γ B ops K (foP5 P Γ B ops K) l s
theorem foP6_ok {ops : List Oper} {K : St → Prop} (l : List Oper) (s : St) (h : foP6 P Γ B ops K l s) : AOps P Γ B ops l s K := foA_ok foP5_ok h
def foP7 (P : Program) (Γ : List (Nat × AV)) (B : Nat) (ops : List Oper) (K : St → Prop) (l : List Oper) (s : St) : Prop := foA P Γ B ops K (foP6 P Γ B ops K) l s
theorem foP7_ok {ops : List Oper} {K : St → Prop} (l : List Oper) (s : St) (h : foP7 P Γ B ops K l s) : AOps P Γ B ops l s K := foA_ok foP6_ok h
def foP8 (P : Program) (Γ : List (Nat × AV)) (B : Nat) (ops : List Oper) (K : St → Prop) (l : List Oper) (s : St) : Prop := foA P Γ B ops K (foP7 P Γ B ops K) l s
theorem foP8_ok {ops : List Oper} {K : St → Prop} (l : List Oper) (s : St) (h : foP8 P Γ B ops K l s) : AOps P Γ B ops l s K := foA_ok foP7_ok h
def foP9 (P : Program) (Γ : List (Nat × AV)) (B : Nat) (ops : List Oper) (K : St → Prop) (l : List Oper) (s : St) : Prop := foA P Γ B ops K (foP8 P Γ B ops K) l s
theorem foP9_ok {ops : List Oper} {K : St → Prop} (l : List Oper) (s : St) (h : foP9 P Γ B ops K l s) : AOps P Γ B ops l s K := foA_ok foP8_ok h
def foP10 (P : Program) (Γ : List (Nat × AV)) (B : Nat) (ops : List Oper) (K : St → Prop) (l : List Oper) (s : St) : Prop := foA P Γ B ops K (foP9 P Γ B ops K) l s
theorem foP10_ok {ops : List Oper} {K : St → Prop} (l : List Oper) (s : St) (h : foP10 P Γ B ops K l s) : AOps P Γ B ops l s K := foA_ok foP9_ok h
theorem AOps.many {ops l : List Oper} {s : St} {K : St → Prop} (h : foP10 P Γ B ops K l s) : AOps P Γ B ops l s K := foP10_ok l s h
def fwP0 (P : Program) (Γ : List (Nat × AV)) (B : Nat) (c : Code) (s : St) (Q : Exit → St → Prop) : Prop := AWp P Γ B c s Q
theorem fwP0_ok (c : Code) (s : St) (Q : Exit → St → Prop) (h : fwP0 P Γ B c s Q) : AWp P Γ B c s Q := h
def fwP1 (P : Program) (Γ : List (Nat × AV)) (B : Nat) (c : Code) (s : St) (Q : Exit → St → Prop) : Prop := fwA P Γ B (fwP0 P Γ B) c s Q
theorem fwP1_ok (c : Code) (s : St) (Q : Exit → St → Prop) (h : fwP1 P Γ B c s Q) : AWp P Γ B c s Q := fwA_ok fwP0_ok h
def fwP2 (P : Program) (Γ : List (Nat × AV)) (B : Nat) (c : Code) (s : St) (Q : Exit → St → Prop) : Prop := fwA P Γ B (fwP1 P Γ B) c s Q
theorem fwP2_ok (c : Code) (s : St) (Q : Exit → St → Prop) (h : fwP2 P Γ B c s Q) : AWp P Γ B c s Q := fwA_ok fwP1_ok h
def fwP3 (P : Program) (Γ : List (Nat × AV)) (B : Nat) (c : Code) (s : St) (Q : Exit → St → Prop) : Prop := fwA P Γ B (fwP2 P Γ B) c s Q
theorem fwP3_ok (c : Code) (s : St) (Q : Exit → St → Prop) (h : fwP3 P Γ B c s Q) : AWp P Γ B c s Q := fwA_ok fwP2_ok h
def fwP4 (P : Program) (Γ : List (Nat × AV)) (B : Nat) (c : Code) (s : St) (Q : Exit → St → Prop) : Prop := fwA P Γ B (fwP3 P Γ B) c s Q
theorem fwP4_ok (c : Code) (s : St) (Q : Exit → St → Prop) (h : fwP4 P Γ B c s Q) : AWp P Γ B c s Q := fwA_ok fwP3_ok h
def fwP5 (P : Program) (Γ : List (Nat × AV)) (B : Nat) (c : Code) (s : St) (Q : Exit → St → Prop) : Prop := fwA P Γ B (fwP4 P Γ B) c s Q
theorem fwP5_ok (c : Code) (s : St) (Q : Exit → St → Prop) (h : fwP5 P Γ B c s Q) : AWp P Γ B c s Q := fwA_ok fwP4_ok h
def fwP6 (P : Program) (Γ : List (Nat × AV)) (B : Nat) (c : Code) (s : St) (Q : Exit → St → Prop) : Prop := fwA P Γ B (fwP5 P Γ B) c s Q
theorem fwP6_ok (c : Code) (s : St) (Q : Exit → St → Prop) (h : fwP6 P Γ B c s Q) : AWp P Γ B c s Q := fwA_ok fwP5_ok h
def fwP7 (P : Program) (Γ : List (Nat × AV)) (B : Nat) (c : Code) (s : St) (Q : Exit → St → Prop) : Prop := fwA P Γ B (fwP6 P Γ B) c s Q
theorem fwP7_ok (c : Code) (s : St) (Q : Exit → St → Prop) (h : fwP7 P Γ B c s Q) : AWp P Γ B c s Q := fwA_ok fwP6_ok h
def fwP8 (P : Program) (Γ : List (Nat × AV)) (B : Nat) (c : Code) (s : St) (Q : Exit → St → Prop) : Prop := fwA P Γ B (fwP7 P Γ B) c s Q
theorem fwP8_ok (c : Code) (s : St) (Q : Exit → St → Prop) (h : fwP8 P Γ B c s Q) : AWp P Γ B c s Q := fwA_ok fwP7_ok h
theorem AWp.many {c : Code} {s : St} {Q : Exit → St → Prop} (h : fwP8 P Γ B c s Q) : AWp P Γ B c s Q := fwP8_ok c s Q h
class XG (p : Prop) (q : outParam Prop) : Prop where
 h : q → p
instance {c : Code} {s : St} {Q : Exit → St → Prop} : XG (AWp P Γ B c s Q) (fwP8 P Γ B c s Q) := ⟨AWp.many⟩
instance {ops l : List Oper} {s : St} {K : St → Prop} : XG (AOps P Γ B ops l s K) (foP10 P Γ B ops K l s) := ⟨AOps.many⟩
instance {ops : List Oper} {tr : List (List Nat)} {base : Nat} {K : St → Prop} {l : List Nat} {recs : List Rec} {s : St} : XG (ADr P Γ B ops tr base K l recs s) (fd1 P Γ B ops tr base K l recs s) := ⟨ADr.go⟩
theorem Xg {p q : Prop} [i : XG p q] (x : q) : p := i.h x
end
end Go.Ax
namespace Go.Ax
open Go
def inL (i : Nat) : List Nat → Bool
 | [] => false
 | j :: r => match Nat.beq j i with
  | true => true
  | false => inL i r
def pickM (ids : List Nat) : Mem → Mem
 | [] => []
 | (k, b) :: r => match inL k ids with
  | true => (k, b) :: pickM ids r
  | false => pickM ids r
def dropM (ids : List Nat) : Mem → Mem
 | [] => []
 | (k, b) :: r => match inL k ids with
  | true => dropM ids r
  | false => (k, b) :: dropM ids r
def idS : List Nat → List (Nat × Nat)
 | [] => []
 | i :: r => (i, i) :: idS r
def allLt (n : Nat) : List Nat → Bool
 | [] => true
 | i :: r => Nat.blt i n && allLt n r
def keysIn (ids : List Nat) : Mem → Bool
 | [] => true
 | (k, _) :: r => inL k ids && keysIn ids r
theorem pickM_mem {ids : List Nat} : ∀ {m : Mem} {p : Nat × AB}, p ∈ pickM ids m ↔ p ∈ m ∧ inL p.1 ids = true
 | [], p => by simp [pickM]
 | (k, b) :: r, p => by
  simp only [pickM]
  split
  ·rename_i h
   rw [List.mem_cons, pickM_mem (m := r), List.mem_cons]
   constructor
   ·rintro (rfl | ⟨h1, h2⟩)
    ·exact ⟨.inl rfl, h⟩
    ·exact ⟨.inr h1, h2⟩
   ·rintro ⟨rfl | h1, h2⟩
    ·exact .inl rfl
    ·exact .inr ⟨h1, h2⟩
  ·rename_i h
   rw [pickM_mem (m := r), List.mem_cons]
   constructor
   ·rintro ⟨h1, h2⟩; exact ⟨.inr h1, h2⟩
   ·rintro ⟨rfl | h1, h2⟩
    ·rw [h] at h2; cases h2
    ·exact ⟨h1, h2⟩
theorem dropM_mem {ids : List Nat} : ∀ {m : Mem} {p : Nat × AB}, p ∈ dropM ids m ↔ p ∈ m ∧ inL p.1 ids = false
 | [], p => by simp [dropM]
 | (k, b) :: r, p => by
  simp only [dropM]
  split
  ·rename_i h
   rw [dropM_mem (m := r), List.mem_cons]
   constructor
   ·rintro ⟨h1, h2⟩; exact ⟨.inr h1, h2⟩
   ·rintro ⟨rfl | h1, h2⟩
    ·rw [h] at h2; cases h2
    ·exact ⟨h1, h2⟩
  ·rename_i h
   rw [List.mem_cons, dropM_mem (m := r), List.mem_cons]
   constructor
   ·rintro (rfl | ⟨h1, h2⟩)
    ·exact ⟨.inl rfl, h⟩
    ·exact ⟨.inr h1, h2⟩
   ·rintro ⟨rfl | h1, h2⟩
    ·exact .inl rfl
    ·exact .inr ⟨h1, h2⟩
theorem pickM_sub {ids : List Nat} : ∀ (m : Mem), (pickM ids m).Sublist m
 | [] => by simp [pickM]
 | (k, b) :: r => by
  simp only [pickM]
  split
  ·exact (pickM_sub r).cons_cons _
  ·exact (pickM_sub r).cons _
theorem dropM_sub {ids : List Nat} : ∀ (m : Mem), (dropM ids m).Sublist m
 | [] => by simp [dropM]
 | (k, b) :: r => by
  simp only [dropM]
  split
  ·exact (dropM_sub r).cons _
  ·exact (dropM_sub r).cons_cons _
theorem idS_lk : ∀ {ids : List Nat} {i j : Nat}, lk (idS ids) i = some j → i = j ∧ inL i ids = true
 | [], i, j, h => by simp [idS, lk] at h
 | k :: r, i, j, h => by
  simp only [idS, lk] at h
  split at h
  ·rename_i e
   cases h
   exact ⟨(Nat.eq_of_beq_eq_true e).symm, by simp only [inL, e]⟩
  ·rename_i e
   obtain ⟨h1, h2⟩ := idS_lk h
   exact ⟨h1, by simp only [inL, e]; exact h2⟩
theorem lk_idS : ∀ {ids : List Nat} {i : Nat}, inL i ids = true → lk (idS ids) i = some i
 | [], i, h => by simp [inL] at h
 | k :: r, i, h => by
  simp only [inL] at h
  simp only [idS, lk]
  split at h
  ·rename_i e; rw [e, Nat.eq_of_beq_eq_true e]
  ·rename_i e; rw [e]; exact lk_idS h
theorem allLt_sound : ∀ {ids : List Nat} {n i : Nat}, allLt n ids = true → inL i ids = true → i < n
 | [], n, i, _, h => by simp [inL] at h
 | k :: r, n, i, h1, h => by
  simp only [allLt, Bool.and_eq_true] at h1
  simp only [inL] at h
  split at h
  ·rename_i e; rw [← Nat.eq_of_beq_eq_true e]; exact Nat.le_of_ble_eq_true h1.1
  ·exact allLt_sound h1.2 h
theorem keysIn_sound : ∀ {m : Mem} {ids : List Nat}, keysIn ids m = true → ∀ p ∈ m, inL p.1 ids = true
 | [], ids, _, p, hp => by cases hp
 | (k, b) :: r, ids, h, p, hp => by
  simp only [keysIn, Bool.and_eq_true] at h
  rcases List.mem_cons.1 hp with rfl | hp
  ·exact h.1
  ·exact keysIn_sound h.2 p hp
theorem ACalls.useI {P : Program} {Γ : List (Nat × AV)} {F : FuncId} {args args' : List AV} {ms mem : Mem} {ns nx : Nat} {Qs K : AV → Mem → Nat → Prop} (hΓ : ∀ p ∈ Γ, NN p.2) (ids : List Nat) (h : ACalls P Γ F args' ms ns Qs)
  (hp : pickM ids mem = ms) (hargs : CvL ms (idS ids) args args') (hM : MemConv ms (idS ids) ms) (hc : (nodM ms && allLt ns ids) = true)
  (hk : ∀ r m n, Qs r m n → NN r ∧ MemConv m (idS ids) m ∧ (nodM m && keysIn ids m) = true ∧ K r (m ++ dropM ids mem) nx) : ACalls P Γ F args mem nx K := by
 simp only [Bool.and_eq_true] at hc
 refine ⟨fun X D ρ w vs hD hm hv => ?_⟩
 have hinj : Inj (idS ids) := fun i j k h1 h2 => by
  have a := (idS_lk h1).1
  have b := (idS_lk h2).1
  omega
 refine (ACalls.use (K := K) (nx := nx) hΓ h (idS ids) (m1 := ms) (rest := dropM ids mem) ⟨fun p hp' => ?_, fun p hp' => (dropM_mem.1 hp').1, fun p hp' => ?_, fun p h1 q h2 => ?_, ?_⟩ ?_ hargs hM.cvm (nodM_sound hc.1) hinj (fun id i hl => ?_) ?_).run X D ρ w vs hD hm hv
 ·rw [← hp] at hp'; exact (pickM_mem.1 hp').1
 ·cases hi : inL p.1 ids with
  | true => left; rw [← hp]; exact pickM_mem.2 ⟨hp', hi⟩
  | false => right; exact dropM_mem.2 ⟨hp', hi⟩
 ·rw [← hp] at h1
  have a := (pickM_mem.1 h1).2
  have b := (dropM_mem.1 h2).2
  intro e
  rw [e, b] at a
  cases a
 ·rw [← hp]; exact hm.nod.sublist ((pickM_sub mem).map _)
 ·exact hm.nod.sublist ((dropM_sub mem).map _)
 ·obtain ⟨h1, h2⟩ := idS_lk hl
  rw [← h1]; exact allLt_sound hc.2 h2
 ·intro r m n hq hn
  obtain ⟨h1, h2, h3, h4⟩ := hk r m n hq
  simp only [Bool.and_eq_true] at h3
  refine ⟨idS ids, r, m, nx, Nat.le_refl _, .same r h1, h2.cvm, nodM_sound h3.1, hinj, fun i id hl => ?_, fun p h5 q h6 => ?_, h4⟩
  ·obtain ⟨e1, e2⟩ := idS_lk hl
   subst e1
   exact .inl ⟨allLt_sound hc.2 e2, lk_idS e2⟩
  ·have a := keysIn_sound h3.2 p h5
   have b := (dropM_mem.1 h6).2
   intro e
   rw [e, b] at a
   cases a
def keysS : List (Nat × Nat) → List Nat
 | [] => []
 | (i, _) :: r => i :: keysS r
def invS : List (Nat × Nat) → List (Nat × Nat)
 | [] => []
 | (i, j) :: r => (j, i) :: invS r
def valsLt (n : Nat) : List (Nat × Nat) → Bool
 | [] => true
 | (_, j) :: r => Nat.blt j n && valsLt n r
theorem invS_mem : ∀ {σ : List (Nat × Nat)} {i j : Nat}, (j, i) ∈ invS σ ↔ (i, j) ∈ σ
 | [], i, j => by simp [invS]
 | (a, b) :: r, i, j => by
  simp only [invS, List.mem_cons, invS_mem (σ := r), Prod.mk.injEq]
  constructor
  ·rintro (⟨rfl, rfl⟩ | h)
   ·exact .inl ⟨rfl, rfl⟩
   ·exact .inr h
  ·rintro (⟨rfl, rfl⟩ | h)
   ·exact .inl ⟨rfl, rfl⟩
   ·exact .inr h
theorem lk_of_mem {σ : List (Nat × Nat)} (h : nod2 (invS σ) = true) {i j : Nat} (hm : (i, j) ∈ σ) : lk σ i = some j := by
 induction σ with
 | nil => cases hm
 | cons p r ih =>
  obtain ⟨a, b⟩ := p
  simp only [invS, nod2, Bool.and_eq_true] at h
  simp only [lk]
  rcases List.mem_cons.1 hm with e | hm'
  ·cases e; simp
  ·have hne : a ≠ i := by
    intro e
    subst e
    exact notIn_sound h.1 _ (invS_mem.2 hm') rfl
   rw [nbeq_ne hne]
   exact ih h.2 hm'
theorem valsLt_sound : ∀ {σ : List (Nat × Nat)} {n : Nat}, valsLt n σ = true → ∀ p ∈ σ, p.2 < n
 | [], n, _, p, hp => by cases hp
 | (a, b) :: r, n, h, p, hp => by
  simp only [valsLt, Bool.and_eq_true] at h
  rcases List.mem_cons.1 hp with rfl | hp
  ·exact Nat.le_of_ble_eq_true h.1
  ·exact valsLt_sound h.2 p hp
theorem ACalls.useR {P : Program} {Γ : List (Nat × AV)} {F : FuncId} {args args' : List AV} {ms mem m1 : Mem} {ns nx : Nat} {Qs K : AV → Mem → Nat → Prop} (hΓ : ∀ p ∈ Γ, NN p.2) (σ : List (Nat × Nat)) (h : ACalls P Γ F args' ms ns Qs)
  (hp : pickM (keysS σ) mem = m1) (hargs : CvL m1 σ args args') (hM : MemConv m1 σ ms) (hc : (nodM ms && (nod2 σ && (nod2 (invS σ) && valsLt ns σ))) = true)
  (hk : ∀ r m n, Qs r m n → ∃ m', NN r ∧ MemConv m (invS σ) m' ∧ (nodM m' && keysIn (keysS σ) m') = true ∧ K r (m' ++ dropM (keysS σ) mem) nx) : ACalls P Γ F args mem nx K := by
 simp only [Bool.and_eq_true] at hc
 obtain ⟨hc1, hc2, hc3, hc4⟩ := hc
 refine ⟨fun X D ρ w vs hD hm hv => ?_⟩
 refine (ACalls.use (K := K) (nx := nx) hΓ h σ (m1 := m1) (rest := dropM (keysS σ) mem) ⟨fun p hp' => ?_, fun p hp' => (dropM_mem.1 hp').1, fun p hp' => ?_, fun p h1 q h2 => ?_, ?_⟩ ?_ hargs hM.cvm (nodM_sound hc1) (inj_of hc2) (fun id i hl => valsLt_sound hc4 _ (lk_mem hl)) ?_).run X D ρ w vs hD hm hv
 ·rw [← hp] at hp'; exact (pickM_mem.1 hp').1
 ·cases hi : inL p.1 (keysS σ) with
  | true => left; rw [← hp]; exact pickM_mem.2 ⟨hp', hi⟩
  | false => right; exact dropM_mem.2 ⟨hp', hi⟩
 ·rw [← hp] at h1
  have a := (pickM_mem.1 h1).2
  have b := (dropM_mem.1 h2).2
  intro e
  rw [e, b] at a
  cases a
 ·rw [← hp]; exact hm.nod.sublist ((pickM_sub mem).map _)
 ·exact hm.nod.sublist ((dropM_sub mem).map _)
 ·intro r m n hq hn
  obtain ⟨m', h1, h2, h3, h4⟩ := hk r m n hq
  simp only [Bool.and_eq_true] at h3
  refine ⟨invS σ, r, m', nx, Nat.le_refl _, .same r h1, h2.cvm, nodM_sound h3.1, inj_of hc3, fun i id hl => ?_, fun p h5 q h6 => ?_, h4⟩
  ·have hmem := invS_mem.1 (lk_mem hl)
   exact .inl ⟨valsLt_sound hc4 _ hmem, lk_of_mem hc3 hmem⟩
  ·have a := keysIn_sound h3.2 p h5
   have b := (dropM_mem.1 h6).2
   intro e
   rw [e, b] at a
   cases a
end Go.Ax
namespace Go.Ax
open Go
def Grown (w w' : World) : Prop := w.heap.size ≤ w'.heap.size ∧ (∀ b, b < w.heap.size → w'.heap[b]? = w.heap[b]?) ∧ Env w w'
theorem Grown.refl (w : World) : Grown w w := ⟨Nat.le_refl _, fun _ _ => rfl, .refl _⟩
section
variable {P : Program} {Γ : List (Nat × AV)} {F : FuncId} {args : List AV} {r : AV}
def Knows (Γ : List (Nat × AV)) (w : World) : Prop := ∀ p ∈ Γ, ∀ (j : Nat) (c : AV), p.2.cells[j]? = some c → ∃ x ρ D O, w.cell? ⟨p.1, j, none⟩ = some x ∧ VR ρ D O w c x
theorem MR.knows {X : Nat → Prop} {ρ : Nat → Loc} {D : Nat → Prop} {mem : Mem} {w : World} (hm : MR Γ X ρ D mem w) : Knows Γ w := by
 intro p hp j c hc
 have := hm.glo p hp
 cases this with
 | ip _ _ _ f h1 h2 => exact ⟨f j, ρ, D, _, by have := (h1 j c hc).2.1; rwa [Nat.zero_add] at this, h2 j c hc⟩
theorem pureC_of {vs : List Value} (hargs : ∀ (ρ : Nat → Loc) (D O : Nat → Prop) (w : World) (xs : List Value), VRL ρ D O w args xs → xs = vs)
  (h : ∀ w, Knows Γ w → Calls P F vs.toArray w fun e w' => ∃ x, e = .returned x ∧ (∀ (ρ : Nat → Loc) (D O : Nat → Prop) (w : World), VR ρ D O w r x) ∧ Grown w w') (hF : Nat.beq F YF = false := by rfl) : PureC P Γ F args r := by
 refine ⟨fun X D ρ w xs hD hm hv => ?_⟩
 obtain rfl := hargs _ _ _ _ _ hv
 refine .of hF ((h w hm.knows).mono ?_)
 rintro e w' ⟨x, rfl, hx, g1, g2, g3⟩
 obtain ⟨m1, ext⟩ := hm.still g1 g2 g3
 have hsub : ∀ i, D i → dn D 0 0 i := fun i hi => .inl hi
 exact ⟨r, x, [], 0, ρ, rfl, ⟨rfl, rfl, rfl⟩, Nat.le_refl _, (m1.widen hsub).1, hx _ _ _ _, (ext D fun i hi => hi).wide hsub⟩
theorem vrl_int {ρ : Nat → Loc} {D O : Nat → Prop} {w : World} {xs : List Value} {k : IntKind} {n : Int} (h : VRL ρ D O w [.int k n] xs) : xs = [.int k n] := by
 obtain ⟨hl, hv⟩ := h
 match xs, hl with
 | [x], _ =>
  have := hv 0 _ x rfl rfl
  cases this
  rfl
end
def encB (l : List UInt8) : List AV := l.map fun b => .int .u8 (b.toNat : Int)
theorem encB_nn (l : List UInt8) : NNs (encB l) := fun a ha => by
 obtain ⟨n, _, rfl⟩ := List.mem_map.1 ha
 exact .int _ _
theorem encB_get (l : List UInt8) (i : Nat) : (encB l)[i]? = (l[i]?).map fun b => .int .u8 (b.toNat : Int) := by rw [encB, List.getElem?_map]
theorem encB_length (l : List UInt8) : (encB l).length = l.length := by rw [encB, List.length_map]
theorem encB_take (l : List UInt8) (k : Nat) : (encB l).take k = encB (l.take k) := by rw [encB, encB, List.map_take]
theorem encB_drop (l : List UInt8) (k : Nat) : (encB l).drop k = encB (l.drop k) := by rw [encB, encB, List.map_drop]
theorem encB_append (l m : List UInt8) : encB (l ++ m) = encB l ++ encB m := by rw [encB, encB, encB, List.map_append]
theorem toBytes_encB : ∀ l : List UInt8, toBytes (encB l) = some l
 | [] => rfl
 | b :: r => by
  show toBytes (AV.int .u8 (b.toNat : Int) :: encB r) = _
  simp only [toBytes, toBytes_encB r]
  simp
theorem bytesIn_encB : ∀ l : List UInt8, bytesIn (encB l) = some l
 | [] => rfl
 | b :: r => by
  show bytesIn (AV.int .u8 (Int.ofNat b.toNat) :: encB r) = _
  have : Nat.ble b.toNat 255 = true := Nat.ble_eq_true_of_le (by have := b.toNat_lt; omega)
  simp only [bytesIn, bytesIn_encB r, this]
  simp
theorem fmt10 {P : Program} {F : FuncId} {t : TypeId}
  (hF : ∀ (blk off cap : Nat) (u : Nat) (d : Array UInt8) (w : World), Sort.Holds (fun (b : UInt8) => Value.int .u8 (b.toNat : Int)) w blk off d → u < 10 ^ d.size → u < 18446744073709551616 → d.size < 4611686018427387904 →
   Calls P F #[.slice (some ⟨blk, off, none⟩) d.size cap, .int .u64 u] w fun e w' =>
    e = .returned (.tuple #[]) ∧ ∃ (n v' : Nat) (dk : Array UInt8), w' = (Sort.putRow (fun (b : UInt8) => Value.int .u8 (b.toNat : Int)) w blk off dk).drewN n ∧ Lib.FmtInv d.size u 0 v' dk)
  (xs : List UInt8) (u : Nat) (hu64 : u < 18446744073709551616) (hlen : 1 + Lib.nDigits u ≤ xs.length) (hxl : xs.length ≤ 1000) (hF0 : Nat.beq F YF = false := by rfl) :
  ACalls P [] F [.sl 0 1 (Lib.nDigits u), .int .u64 u] [(0, .row t 1 (encB xs))] 1 fun r m n => r = .tup [] ∧ m = [(0, .row t 1 (encB (xs.take 1 ++ Lib.decDigits u ++ xs.drop (1 + Lib.nDigits u))))] := by
 have hpos := Lib.nDigits_pos u
 refine ⟨fun X D ρ w vs hD hm hv => ?_⟩
 obtain ⟨hl, hv⟩ := hv
 match vs, hl with
 | [s, x], _ =>
  have v0 := hv 0 _ s rfl rfl
  have v1 := hv 1 _ x rfl rfl
  cases v1
  have hid : lk [(0, AB.row t 1 (encB xs))] 0 = some (.row t 1 (encB xs)) := rfl
  have hsz := row_sz hm hid
  have hn : 0 < (ρ 0).n := by
   rcases Nat.eq_zero_or_pos (ρ 0).n with h0 | h0
   ·obtain ⟨t', sz', e1, _⟩ := hm.emp _ (lk_mem hid) h0
    injection e1 with _ _ e2
    have : (encB xs).length = 0 := by rw [e2]; rfl
    rw [encB_length] at this
    omega
   ·exact h0
  obtain ⟨o, ho, hsz', arr, fr, rfl, hf, hs, hle, hrow⟩ := hm.blk _ (lk_mem hid) hn
  simp only at ho hsz' hs hle hrow
  rw [hsz] at hrow hle
  rw [encB_length, Nat.mul_one] at hle
  have hcell : ∀ (i : Nat) (b : UInt8), xs[i]? = some b → arr[i]? = some (Value.int .u8 (b.toNat : Int)) := by
   intro i b hb
   obtain ⟨v, hv, _, hr⟩ := (hrow i (.int .u8 (b.toNat : Int)) (by rw [encB_get, hb]; rfl)).2 0 _ rfl
   cases hr
   simpa using hv
  obtain ⟨nd, hnd⟩ : ∃ nd, nd = Lib.nDigits u := ⟨_, rfl⟩
  rw [← hnd] at hpos hlen v0 ⊢
  have hso : ∃ cap, s = .slice (some ⟨(ρ 0).b, 1, none⟩) nd cap := by
   cases v0 with
   | sl _ _ _ cap _ h1 h2 => exact ⟨cap, by rw [hsz]⟩
   | slz => omega
   | slzn => omega
  obtain ⟨cap, rfl⟩ := hso
  have hds : (((xs.drop 1).take nd).toArray).size = nd := by simp; omega
  have hH : Sort.Holds (fun (b : UInt8) => Value.int .u8 (b.toNat : Int)) w (ρ 0).b 1 ((xs.drop 1).take nd).toArray := by
   intro j hj
   rw [hds] at hj
   have hx : xs[1 + j]? = some xs[1 + j] := List.getElem?_eq_getElem (by omega)
   have hd : (((xs.drop 1).take nd).toArray)[j]! = xs[1 + j] := by
    rw [getElem!_pos _ j (by omega)]
    simp [Nat.add_comm]
   constructor
   ·simp only [World.cell?, ho, hd]
    exact hcell _ _ hx
   ·simp only [World.frozen?, ho]
    have := hf (1 + j) (by omega)
    obtain ⟨a, b⟩ := fr
    simp only at this ⊢
    rw [Bool.and_eq_false_iff]
    simp
    omega
  have hcall := hF (ρ 0).b 1 cap u _ w hH (by rw [hds, hnd]; exact Lib.lt_pow_nDigits u) hu64 (by rw [hds]; omega)
  rw [hds] at hcall
  refine .of hF0 (hcall.mono ?_)
  rintro e w' ⟨rfl, n, v', dk, rfl, hinv⟩
  have hdk : dk.size = nd := hinv.size
  have hdig : (Lib.decDigits u).length = nd := by rw [Lib.decDigits_length, hnd]
  rw [hnd] at hinv
  have hat := fun j hj => Lib.row_is_numeral hinv j hj
  obtain ⟨m1, mv, ext⟩ := hm.change (w' := (Sort.putRow (fun (b : UInt8) => Value.int .u8 (b.toNat : Int)) w (ρ 0).b 1 dk).drewN n) (xs' := encB (xs.take 1 ++ Lib.decDigits u ++ xs.drop (1 + nd))) (arr := Sort.putCells (fun (b : UInt8) => Value.int .u8 (b.toNat : Int)) 1 dk arr) (fr := fr) hid hn
   (by
    apply Array.ext_getElem?
    intro k
    show (w.heap.modify (ρ 0).b (Sort.onCells _))[k]? = _
    have hlt := own_lt hm (.inr ⟨_, lk_mem hid, hn, rfl⟩)
    simp only at hlt
    rw [Array.getElem?_modify, Array.getElem?_setIfInBounds]
    by_cases hk : (ρ 0).b = k
    ·subst hk
     rw [if_pos rfl, if_pos rfl, if_pos hlt, ho]
     rfl
    ·rw [if_neg hk, if_neg hk]) .go (fun j hj => hf j (by simpa [Sort.putCells] using hj)) (by rw [← hs]; simp [Sort.putCells])
   (by
    refine ⟨?_, fun i x hi => ?_⟩
    ·rw [encB_length]
     simp [Sort.putCells, hdig]
     omega
    ·rw [encB_get] at hi
     obtain ⟨b, hb, rfl⟩ := Option.map_eq_some_iff.1 hi
     refine ⟨rfl, fun j c hj => ?_⟩
     cases j with
     | succ j => simp [AV.cells] at hj
     | zero =>
      simp [AV.cells] at hj
      subst hj
      refine ⟨.int .u8 (b.toNat : Int), ?_, rfl, .int _ _⟩
      simp only [Nat.mul_one, Nat.add_zero, Sort.putCells, Array.getElem?_mapIdx]
      have hil : i < xs.length := by
       have := (List.getElem?_eq_some_iff.1 hb).1
       simp [hdig] at this
       omega
      have hia : arr[i]? = some (.int .u8 (xs[i].toNat : Int)) := hcell i _ (List.getElem?_eq_getElem hil)
      rw [hia, Option.map_some]
      congr 1
      rw [List.append_assoc, List.getElem?_append] at hb
      have htl : (xs.take 1).length = 1 := by simp; omega
      rw [htl] at hb
      by_cases h1 : i < 1
      ·rw [if_pos h1, List.getElem?_take, if_pos h1, List.getElem?_eq_getElem hil] at hb
       rw [if_neg (by omega), Option.some.inj hb]
      ·rw [if_neg h1, List.getElem?_append, hdig] at hb
       by_cases h2 : i - 1 < nd
       ·rw [if_pos h2, List.getElem?_eq_getElem (by omega)] at hb
        rw [if_pos (by omega), ← hat (i - 1) (by omega), Option.some.inj hb]
       ·rw [if_neg h2, List.getElem?_drop] at hb
        have e : 1 + nd + (i - 1 - nd) = i := by omega
        rw [e, List.getElem?_eq_getElem hil] at hb
        rw [if_neg (by omega), Option.some.inj hb])
  have hsub : ∀ i, D i → dn D 1 1 i := fun i hi => .inl hi
  exact ⟨.tup [], .tuple #[], _, 1, ρ, rfl, ⟨rfl, by simp [up]⟩, Nat.le_refl _, (m1.widen hsub).1, .tup [] #[] rfl (by simp), (ext D fun i hi => hi).wide hsub⟩
end Go.Ax
namespace Go.Ax
open Go Go.RowKit
theorem vr_tab_var {P : Program} {w : World} {n : String} {g : Nat} {k : IntKind} {zs : List Int} (hg : P.globalNamed n = some g) (hv : Lib.TabIs P w n k zs) :
  VR (fun _ => ⟨0, 0, 0⟩) (fun _ => False) (OX (fun _ => False) (fun _ => ⟨0, 0, 0⟩) []) w (.ip (.agg (zs.map fun z => AV.int k z))) (.pointer (some ⟨g, 0, none⟩)) := by
 refine .ip _ g 0 (fun j => .int k (zs.getD j 0)) (fun j c hj => ?_) (fun j c hj => ?_)
 ·have hj0 : j < zs.length := by have := (List.getElem?_eq_some_iff.1 hj).1; simpa [AV.cells] using this
  exact ⟨not_ox _ _, by simpa using hv.cell hg j hj0, rfl⟩
 ·have hj0 : j < zs.length := by have := (List.getElem?_eq_some_iff.1 hj).1; simpa [AV.cells] using this
  simp [AV.cells, List.getElem?_map, List.getElem?_eq_getElem hj0] at hj
  subst hj
  simp [List.getD_eq_getElem?_getD, List.getElem?_eq_getElem hj0]
  exact .int _ _
end Go.Ax
namespace Go.Ax
open Go
def genNames : List (List UInt8) := [[76, 101, 97, 102], [65], [69, 109, 112, 116, 121], [66, 95, 50], [70, 111, 114, 107], [90, 122]]
def genBase (k n : Int) (s : List UInt8) (kids : List Val) : Prop :=
 (k = 0 ∧ i64 n ∧ s = [] ∧ kids = []) ∨ (k = 1 ∧ (n = 0 ∨ n = 1) ∧ s = [] ∧ kids = []) ∨ (k = 2 ∧ n = 0 ∧ s = []) ∨ (k = 3 ∧ n = 0 ∧ s ∈ genNames)
def genV : Nat → Val → Prop
 | 0, .mk k n s kids => genBase k n s kids ∧ kids = []
 | d + 1, .mk k n s kids => genBase k n s kids ∧ kids.length ≤ 3 ∧ ∀ v ∈ kids, genV d v
theorem genNames_len {s : List UInt8} (h : s ∈ genNames) : s.length ≤ 4294967296 := by
 simp [genNames] at h
 rcases h with rfl | rfl | rfl | rfl | rfl | rfl <;> simp
theorem genBase_ok {k n : Int} {s : List UInt8} {kids : List Val} (h : genBase k n s kids) : i64 k ∧ i64 n ∧ s.length ≤ 4294967296 := by
 rcases h with ⟨rfl, h, rfl, _⟩ | ⟨rfl, h, rfl, _⟩ | ⟨rfl, rfl, rfl⟩ | ⟨rfl, rfl, h⟩
 ·exact ⟨⟨by omega, by omega⟩, h, by simp⟩
 ·exact ⟨⟨by omega, by omega⟩, ⟨by omega, by omega⟩, by simp⟩
 ·exact ⟨⟨by omega, by omega⟩, ⟨by omega, by omega⟩, by simp⟩
 ·exact ⟨⟨by omega, by omega⟩, ⟨by omega, by omega⟩, genNames_len h⟩
theorem genV_ok : ∀ {d : Nat} {v : Val}, genV d v → okV v
 | 0, .mk k n s kids, h => by
  simp only [genV] at h
  obtain ⟨h1, rfl⟩ := h
  obtain ⟨a, b, c⟩ := genBase_ok h1
  simp only [okV, okVs]
  exact ⟨a, b, c, by simp, trivial⟩
 | d + 1, .mk k n s kids, h => by
  simp only [genV] at h
  obtain ⟨h1, h2, h3⟩ := h
  obtain ⟨a, b, c⟩ := genBase_ok h1
  simp only [okV]
  exact ⟨a, b, c, by omega, okVs_of fun v hv => genV_ok (h3 v hv)⟩
def genCost : Nat → Nat
 | 0 => 6
 | d + 1 => 4 * genCost d
theorem genCost_pos : ∀ d, 6 ≤ genCost d
 | 0 => Nat.le_refl _
 | d + 1 => by have := genCost_pos d; simp only [genCost]; omega
mutual
def sizeV : Val → Nat
 | .mk _ _ _ kids => 1 + sizeL kids
def sizeL : List Val → Nat
 | [] => 0
 | v :: r => sizeV v + sizeL r
end
mutual
def depthV : Val → Nat
 | .mk _ _ _ kids => depthL kids + 1
def depthL : List Val → Nat
 | [] => 0
 | v :: r => max (depthV v) (depthL r)
end
theorem sizeL_snoc : ∀ (l : List Val) (v : Val), sizeL (l ++ [v]) = sizeL l + sizeV v
 | [], v => by simp [sizeL]
 | a :: r, v => by simp only [List.cons_append, sizeL, sizeL_snoc r v]; omega
theorem sizeL_append : ∀ (l m : List Val), sizeL (l ++ m) = sizeL l + sizeL m
 | [], v => by simp [sizeL]
 | a :: r, v => by simp only [List.cons_append, sizeL, sizeL_append r v]; omega
theorem sizeV_pos : ∀ v : Val, 1 ≤ sizeV v
 | .mk _ _ _ kids => by simp only [sizeV]; omega
theorem sizeL_take {l : List Val} {k : Nat} (h : k < l.length) : sizeL (l.take (k + 1)) = sizeL (l.take k) + sizeV l[k] := by
 rw [List.take_succ_eq_append_getElem h, sizeL_snoc]
theorem sizeL_take_le (l : List Val) (k : Nat) : sizeL (l.take k) ≤ sizeL l := by
 have := sizeL_append (l.take k) (l.drop k)
 rw [List.take_append_drop] at this
 omega
theorem sizeV_mem {l : List Val} {v : Val} (h : v ∈ l) : sizeV v ≤ sizeL l := by
 induction l with
 | nil => cases h
 | cons a r ih =>
  simp only [sizeL]
  rcases List.mem_cons.1 h with rfl | h
  ·omega
  ·have := ih h; omega
theorem sizeL_len (l : List Val) : l.length ≤ sizeL l := by
 induction l with
 | nil => simp
 | cons a r ih => simp only [sizeL, List.length_cons]; have := sizeV_pos a; omega
mutual
theorem depth_le_size : ∀ v : Val, depthV v ≤ sizeV v
 | .mk _ _ _ kids => by simp only [depthV, sizeV]; have := depthL_le_size kids; omega
theorem depthL_le_size : ∀ l : List Val, depthL l ≤ sizeL l
 | [] => by simp [depthL]
 | v :: r => by simp only [depthL, sizeL]; have := depth_le_size v; have := depthL_le_size r; omega
end
def inNm (c : Int) : Bool := (decide (97 ≤ c) && decide (c ≤ 122)) || (decide (65 ≤ c) && decide (c ≤ 90)) || (decide (48 ≤ c) && decide (c ≤ 57)) || decide (c = 95)
def upper (c : Int) : Bool := decide (65 ≤ c) && decide (c ≤ 90)
def capital : List UInt8 → Bool
 | [] => false
 | c :: r => decide (r.length < 16) && upper c.toNat && r.all fun c => inNm c.toNat
theorem upper_in {c : Int} (h : upper c = true) : inNm c = true := by
 simp [upper, inNm] at *
 omega
def formed1 (k n : Int) (s : List UInt8) (len : Nat) : Bool :=
 if k = 0 then decide (s = []) && decide (len = 0)
 else if k = 1 then (decide (n = 0) || decide (n = 1)) && decide (s = []) && decide (len = 0)
 else if k = 2 then decide (n = 0) && decide (s = [])
 else if k = 3 then decide (n = 0) && capital s
 else false
def fits1 (k : Int) (len : Nat) : Bool := decide (len ≤ 256) && (decide (k ≠ 3) || decide (len ≤ 16))
mutual
def formedV : Val → Bool
 | .mk k n s kids => formed1 k n s kids.length && formedL kids
def formedL : List Val → Bool
 | [] => true
 | v :: r => formedV v && formedL r
end
mutual
def fitsV : Val → Bool
 | .mk k _ _ kids => fits1 k kids.length && fitsL kids
def fitsL : List Val → Bool
 | [] => true
 | v :: r => fitsV v && fitsL r
end
def wide1 (k : Int) (len : Nat) : Bool := (decide (k = 2) && decide (256 < len)) || (decide (k = 3) && decide (16 < len))
mutual
def wideV : Val → Bool
 | .mk k _ _ kids => wide1 k kids.length || wideL kids
def wideL : List Val → Bool
 | [] => false
 | v :: r => wideV v || wideL r
end
theorem wide_fits1 {k n : Int} {s : List UInt8} {len : Nat} (h : formed1 k n s len = true) : wide1 k len = !fits1 k len := by
 rw [Bool.eq_iff_iff]
 unfold formed1 at h
 simp only [wide1, fits1, Bool.or_eq_true, Bool.and_eq_true, decide_eq_true_eq, Bool.not_eq_true', Bool.and_eq_false_iff, Bool.or_eq_false_iff, decide_eq_false_iff_not]
 repeat' split at h
 all_goals simp at h
 all_goals omega
mutual
theorem wide_fits : ∀ v : Val, formedV v = true → wideV v = !fitsV v
 | .mk k n s kids, h => by
  simp only [formedV, Bool.and_eq_true] at h
  rw [wideV, fitsV, wide_fits1 h.1, wideL_fits kids h.2, Bool.not_and]
theorem wideL_fits : ∀ l : List Val, formedL l = true → wideL l = !fitsL l
 | [], _ => rfl
 | v :: r, h => by
  simp only [formedL, Bool.and_eq_true] at h
  rw [wideL, fitsL, wide_fits v h.1, wideL_fits r h.2, Bool.not_and]
end
def validV (v : Val) : Int := if formedV v = false then 1 else if wideV v = true ∨ 1024 < sizeV v then 4 else 0
mutual
def visS {S : Type} (st : S → Val → Nat → Bool × S) : Val → Nat → S → Bool × S
 | .mk k n s kids, d, x => match st x (.mk k n s kids) d with
  | (false, y) => (false, y)
  | (true, y) => visL st kids (d + 1) y
def visL {S : Type} (st : S → Val → Nat → Bool × S) : List Val → Nat → S → Bool × S
 | [], _, x => (true, x)
 | v :: r, d, x => match visS st v d x with
  | (false, y) => (false, y)
  | (true, y) => visL st r d y
end
def stValid (x : Nat × Bool × Bool) (v : Val) (_ : Nat) : Bool × (Nat × Bool × Bool) :=
 match v with
 | .mk k n s kids => (x.2.1 && formed1 k n s kids.length, (x.1 + 1, x.2.1 && formed1 k n s kids.length, x.2.2 && fits1 k kids.length))
mutual
theorem vis_valid : ∀ (v : Val) (d n : Nat) (sm : Bool), ∃ n', visS stValid v d (n, true, sm) = (formedV v, (n', formedV v, if formedV v then sm && fitsV v else (visS stValid v d (n, true, sm)).2.2.2)) ∧ n' ≤ n + sizeV v ∧ (formedV v = true → n' = n + sizeV v)
 | .mk k m s kids, d, n, sm => by
  cases hf : formed1 k m s kids.length with
  | false =>
   refine ⟨n + 1, ?_, by simp only [sizeV]; omega, fun h => ?_⟩
   ·simp only [visS, stValid, hf, Bool.and_false, formedV, Bool.false_and, Bool.false_eq_true, if_false]
   ·simp [formedV, hf] at h
  | true =>
   obtain ⟨n', h1, h2, h3⟩ := visL_valid kids (d + 1) (n + 1) (sm && fits1 k kids.length)
   refine ⟨n', ?_, by simp only [sizeV]; omega, fun h => ?_⟩
   ·simp only [visS, stValid, hf, Bool.and_true, formedV, Bool.true_and]
    rw [h1]
    cases formedL kids with
    | true => simp [fitsV, Bool.and_assoc]
    | false => simp
   ·simp only [formedV, hf, Bool.true_and] at h
    rw [h3 h]; simp only [sizeV]; omega
theorem visL_valid : ∀ (l : List Val) (d n : Nat) (sm : Bool), ∃ n', visL stValid l d (n, true, sm) = (formedL l, (n', formedL l, if formedL l then sm && fitsL l else (visL stValid l d (n, true, sm)).2.2.2)) ∧ n' ≤ n + sizeL l ∧ (formedL l = true → n' = n + sizeL l)
 | [], d, n, sm => ⟨n, by simp [visL, formedL, fitsL], by simp, fun _ => by simp [sizeL]⟩
 | v :: r, d, n, sm => by
  obtain ⟨n1, h1, h2, h3⟩ := vis_valid v d n sm
  cases hf : formedV v with
  | false =>
   rw [hf] at h1
   refine ⟨n1, ?_, by simp only [sizeL]; omega, fun h => ?_⟩
   ·simp only [visL, formedL, hf, Bool.false_and, Bool.false_eq_true, if_false]
    rw [h1]
   ·simp [formedL, hf] at h
  | true =>
   rw [hf] at h1
   simp only [if_true] at h1
   obtain ⟨n2, g1, g2, g3⟩ := visL_valid r d n1 (sm && fitsV v)
   refine ⟨n2, ?_, by simp only [sizeL]; omega, fun h => ?_⟩
   ·simp only [visL, formedL, hf, Bool.true_and]
    rw [h1]
    simp only
    rw [g1]
    cases formedL r with
    | true => simp [fitsL, Bool.and_assoc]
    | false => simp
   ·simp only [formedL, hf, Bool.true_and] at h
    rw [g3 h, h3 hf]; simp only [sizeL]; omega
end
theorem valid_vis (v : Val) : (match (visS stValid v 1 (0, true, true)).2 with | (n, good, small) => if good = false then (1 : Int) else if small = false ∨ 1024 < n then 4 else 0) = validV v := by
 obtain ⟨n', h1, h2, h3⟩ := vis_valid v 1 0 true
 rw [h1]
 unfold validV
 cases hf : formedV v with
 | false => simp
 | true =>
  rw [wide_fits v hf, h3 hf]
  simp
def manyV (n : Nat) : List Val := (List.range n).map fun i : Nat => .mk 0 ((i : Int).tmod 3) [] []
theorem manyV_succ (n : Nat) : manyV (n + 1) = manyV n ++ [.mk 0 ((n : Int).tmod 3) [] []] := by simp [manyV, List.range_succ]
theorem manyV_length (n : Nat) : (manyV n).length = n := by simp [manyV]
theorem manyV_size (n : Nat) : sizeL (manyV n) = n := by
 induction n with
 | zero => rfl
 | succ n ih => rw [manyV_succ, sizeL_snoc, ih]; simp [sizeV, sizeL]
theorem okV_leaf {k n : Int} (hk : i64 k) (hn : i64 n) : okV (.mk k n [] []) := by
 simp only [okV, okVs]; exact ⟨hk, hn, by simp, by simp, trivial⟩
theorem manyV_ok (n : Nat) : okVs (manyV n) := okVs_of fun v hv => by
 obtain ⟨i, _, rfl⟩ := List.mem_map.1 hv
 have h := Int.tmod_lt_of_pos (i : Int) (show (0 : Int) < 3 by omega)
 have h' := Int.lt_tmod_of_pos (i : Int) (show (0 : Int) < 3 by omega)
 exact okV_leaf ⟨by omega, by omega⟩ ⟨by omega, by omega⟩
theorem okV_list {n : Int} {l : List Val} {k : Int} {s : List UInt8} (hk : i64 k) (hn : i64 n) (hs : s.length ≤ 4294967296) (hl : l.length ≤ 4294967296) (h : okVs l) : okV (.mk k n s l) := by
 simp only [okV]; exact ⟨hk, hn, hs, hl, h⟩
theorem encVs_set (l : List Val) (i : Nat) (v : Val) : encVs (l.set i v) = (encVs l).set i (encV v) := by simp [encVs_map, List.map_set]
theorem sizeL_set : ∀ {l : List Val} {i : Nat} (v : Val) (h : i < l.length), sizeL (l.set i v) + sizeV l[i] = sizeL l + sizeV v
 | a :: r, 0, v, h => by simp only [List.set_cons_zero, List.getElem_cons_zero, sizeL]; omega
 | a :: r, i + 1, v, h => by
  have := sizeL_set (l := r) (i := i) v (by simpa using h)
  simp only [List.set_cons_succ, List.getElem_cons_succ, sizeL]; omega
theorem okVs_set {l : List Val} {i : Nat} {v : Val} (hl : okVs l) (hv : okV v) : okVs (l.set i v) := okVs_of fun a ha => by
 rcases List.mem_or_eq_of_mem_set ha with h | rfl
 ·exact okVs_mem hl a h
 ·exact hv
theorem sizeL_le {l : List Val} {n : Nat} (h : ∀ v ∈ l, sizeV v ≤ n) : sizeL l ≤ l.length * n := by
 induction l with
 | nil => simp [sizeL]
 | cons a r ih =>
  simp only [sizeL, List.length_cons, Nat.add_mul, Nat.one_mul]
  have h1 := h a (List.mem_cons_self ..)
  have h2 := ih fun v hv => h v (List.mem_cons_of_mem _ hv)
  omega
theorem genV_size_pow : ∀ {d : Nat} {v : Val}, genV d v → sizeV v ≤ 4 ^ d
 | 0, .mk k n s kids, h => by
  simp only [genV] at h
  obtain ⟨_, rfl⟩ := h
  simp [sizeV, sizeL]
 | d + 1, .mk k n s kids, h => by
  simp only [genV] at h
  obtain ⟨_, h2, h3⟩ := h
  have := sizeL_le fun v hv => genV_size_pow (h3 v hv)
  have h4 : kids.length * 4 ^ d ≤ 3 * 4 ^ d := Nat.mul_le_mul_right _ h2
  have h5 : 1 ≤ 4 ^ d := Nat.one_le_pow _ _ (by omega)
  simp only [sizeV, Nat.pow_succ]
  omega
theorem genV_size {v : Val} (h : genV 3 v) : sizeV v ≤ 64 := genV_size_pow h
theorem capital_of {s : List UInt8} {a : UInt8} (h0 : s[0]? = some a) (hl : s.length ≤ 16) (hu : upper a.toNat = true) (hall : ∀ (j : Nat) (c : UInt8), s[j]? = some c → inNm c.toNat = true) : capital s = true := by
 cases s with
 | nil => simp at h0
 | cons b r =>
  simp at h0
  subst h0
  simp only [capital, Bool.and_eq_true, decide_eq_true_eq, List.all_eq_true]
  refine ⟨⟨by simp at hl; omega, hu⟩, fun c hc => ?_⟩
  obtain ⟨j, hj⟩ := List.getElem?_of_mem hc
  exact hall (j + 1) c (by simpa using hj)
theorem capital_nil {s : List UInt8} (h : s.length < 1) : capital s = false := by
 cases s with
 | nil => rfl
 | cons b r => simp at h
theorem capital_long {s : List UInt8} (h : 16 < s.length) : capital s = false := by
 cases s with
 | nil => rfl
 | cons b r => simp only [capital]; simp at h; rw [decide_eq_false (by omega)]; rfl
theorem capital_up {s : List UInt8} {a : UInt8} (h0 : s[0]? = some a) (hu : upper a.toNat = false) : capital s = false := by
 cases s with
 | nil => rfl
 | cons b r => simp at h0; subst h0; simp only [capital]; rw [hu]; simp
theorem capital_in {s : List UInt8} {j : Nat} {c : UInt8} (h : s[j]? = some c) (hc : inNm c.toNat = false) : capital s = false := by
 cases s with
 | nil => rfl
 | cons b r =>
  cases j with
  | zero =>
   simp at h; subst h
   refine capital_up (a := b) rfl ?_
   cases hu : upper b.toNat with
   | false => rfl
   | true => rw [upper_in hu] at hc; cases hc
  | succ j =>
   simp only [capital]
   have : (r.all fun c => inNm c.toNat) = false := by
    rw [Bool.eq_false_iff]
    intro hall
    rw [List.all_eq_true] at hall
    have := hall c (List.mem_of_getElem? (by simpa using h))
    rw [hc] at this
    cases this
   rw [this]; simp
theorem visL_snoc {S : Type} (st : S → Val → Nat → Bool × S) : ∀ (l : List Val) (v : Val) (d : Nat) (x : S), visL st (l ++ [v]) d x = match visL st l d x with | (false, y) => (false, y) | (true, y) => visS st v d y
 | [], v, d, x => by
  simp only [List.nil_append, visL]
  cases visS st v d x with | mk b y => cases b <;> rfl
 | a :: r, v, d, x => by
  simp only [List.cons_append, visL]
  cases visS st a d x with
  | mk b y => cases b with
   | false => rfl
   | true => exact visL_snoc st r v d y
theorem visL_take {S : Type} (st : S → Val → Nat → Bool × S) {l : List Val} {k : Nat} (h : k < l.length) (d : Nat) (x y : S) (hx : visL st (l.take k) d x = (true, y)) : visL st (l.take (k + 1)) d x = visS st l[k] d y := by
 rw [List.take_succ_eq_append_getElem h, visL_snoc, hx]
theorem visL_stop {S : Type} (st : S → Val → Nat → Bool × S) : ∀ {l m : List Val} {d : Nat} {x y : S}, visL st l d x = (false, y) → visL st (l ++ m) d x = (false, y)
 | [], m, d, x, y, h => by simp [visL] at h
 | a :: r, m, d, x, y, h => by
  simp only [visL] at h
  simp only [List.cons_append, visL]
  cases he : visS st a d x with
  | mk b z =>
   rw [he] at h
   cases b with
   | false => simpa using h
   | true => exact visL_stop st h
theorem depthL_mem : ∀ {l : List Val} {v : Val}, v ∈ l → depthV v ≤ depthL l
 | a :: r, v, h => by
  simp only [depthL]
  rcases List.mem_cons.1 h with rfl | h
  ·omega
  ·have := depthL_mem h; omega
mutual
theorem vis_cnt : ∀ (v : Val) (d : Nat) (x : Nat × Bool × Bool), (visS stValid v d x).2.1 ≤ x.1 + sizeV v
 | .mk k n s kids, d, x => by
  simp only [visS, stValid, sizeV]
  split
  ·rename_i h; simp only [Prod.mk.injEq] at h; rw [← h.2]; simp only; omega
  ·rename_i h; simp only [Prod.mk.injEq] at h; rw [← h.2]
   have := visL_cnt kids (d + 1) (x.1 + 1, x.2.1 && formed1 k n s kids.length, x.2.2 && fits1 k kids.length)
   simp only at this
   omega
theorem visL_cnt : ∀ (l : List Val) (d : Nat) (x : Nat × Bool × Bool), (visL stValid l d x).2.1 ≤ x.1 + sizeL l
 | [], d, x => by simp [visL]
 | v :: r, d, x => by
  simp only [visL, sizeL]
  have h1 := vis_cnt v d x
  split
  ·rename_i y h; rw [h] at h1; simp only at h1 ⊢; omega
  ·rename_i y h; rw [h] at h1; have := visL_cnt r d y; simp only at h1; omega
end
def tTrue : List UInt8 := [116, 114, 117, 101]
def tFalse : List UInt8 := [102, 97, 108, 115, 101]
mutual
def printV : Val → List UInt8
 | .mk k n s kids => if k = 0 then Lib.itoa n else if k = 1 then (if n = 1 then tTrue else tFalse) else if k = 2 then 91 :: (printL kids ++ [93]) else if kids = [] then s else s ++ 40 :: (printL kids ++ [41])
def printL : List Val → List UInt8
 | [] => []
 | v :: r => printV v ++ printR r
def printR : List Val → List UInt8
 | [] => []
 | v :: r => 44 :: 32 :: (printV v ++ printR r)
end
theorem printR_snoc : ∀ (l : List Val) (v : Val), printR (l ++ [v]) = printR l ++ 44 :: 32 :: printV v
 | [], v => by simp [printR]
 | a :: r, v => by simp [printR, printR_snoc r v]
theorem printL_take {l : List Val} {k : Nat} (h : k < l.length) : printL (l.take (k + 1)) = printL (l.take k) ++ (if 0 < k then [44, 32] else []) ++ printV l[k] := by
 cases k with
 | zero => rw [List.take_succ_eq_append_getElem h]; simp [printL, printR]
 | succ k =>
  cases l with
  | nil => simp at h
  | cons a r =>
   have hk : k < r.length := by simpa using h
   simp only [List.take_succ_cons, printL, List.getElem_cons_succ]
   rw [List.take_succ_eq_append_getElem hk, printR_snoc]
   simp
theorem itoa_len {n : Int} (h : i64 n) : (Lib.itoa n).length ≤ 21 := by
 unfold Lib.itoa
 have key : ∀ u : Nat, u < 18446744073709551616 → (Lib.decDigits u).length ≤ 20 := by
  intro u hu
  rw [Lib.decDigits_length]
  by_cases h1 : 1 ≤ u
  ·obtain ⟨e1, e2⟩ := Lib.numDigits_eq u h1 hu
   rw [← e1]
   split <;> omega
  ·rw [Lib.nDigits_small (by omega)]; omega
 unfold i64 at h
 split
 ·have := key n.natAbs (by omega)
  simp
  omega
 ·have := key n.toNat (by omega)
  omega
mutual
theorem print_len : ∀ v : Val, okV v → formedV v = true → (printV v).length + 2 ≤ 30 * sizeV v
 | .mk k n s kids, ho, hf => by
  simp only [okV] at ho
  simp only [formedV, Bool.and_eq_true] at hf
  have hl := printL_len kids ho.2.2.2.2 hf.2
  simp only [sizeV, printV]
  have hf1 := hf.1
  unfold formed1 at hf1
  split
  ·have := itoa_len ho.2.1; omega
  ·split
   ·split
    ·simp [tTrue]; omega
    ·simp [tFalse]; omega
   ·split
    ·simp; omega
    ·rename_i h0 h1 h2
     rw [if_neg h0, if_neg h1, if_neg h2] at hf1
     have hs : s.length ≤ 16 := by
      split at hf1
      ·simp only [Bool.and_eq_true] at hf1
       have hc := hf1.2
       unfold capital at hc
       split at hc
       ·cases hc
       ·simp only [Bool.and_eq_true, decide_eq_true_eq] at hc
        simp
        omega
      ·cases hf1
     split
     ·omega
     ·simp; omega
theorem printL_len : ∀ l : List Val, okVs l → formedL l = true → (printL l).length ≤ 30 * sizeL l
 | [], _, _ => by simp [printL]
 | v :: r, ho, hf => by
  simp only [okVs] at ho
  simp only [formedL, Bool.and_eq_true] at hf
  have h1 := print_len v ho.1 hf.1
  have h2 := printR_len r ho.2 hf.2
  simp only [printL, sizeL, List.length_append]
  omega
theorem printR_len : ∀ l : List Val, okVs l → formedL l = true → (printR l).length ≤ 30 * sizeL l
 | [], _, _ => by simp [printR]
 | v :: r, ho, hf => by
  simp only [okVs] at ho
  simp only [formedL, Bool.and_eq_true] at hf
  have h1 := print_len v ho.1 hf.1
  have h2 := printR_len r ho.2 hf.2
  simp only [printR, sizeL, List.length_append, List.length_cons]
  omega
end
theorem formedL_in : ∀ {l : List Val}, formedL l = true → ∀ {v : Val}, v ∈ l → formedV v = true
 | a :: r, h, v, hv => by
  simp only [formedL, Bool.and_eq_true] at h
  rcases List.mem_cons.1 hv with rfl | hv
  ·exact h.1
  ·exact formedL_in h.2 hv
theorem formedL_of : ∀ {l : List Val}, (∀ v ∈ l, formedV v = true) → formedL l = true
 | [], _ => rfl
 | a :: r, h => by simp only [formedL, Bool.and_eq_true]; exact ⟨h a (List.mem_cons_self ..), formedL_of fun v hv => h v (List.mem_cons_of_mem _ hv)⟩
theorem okVs_take {l : List Val} (h : okVs l) (k : Nat) : okVs (l.take k) := okVs_of fun v hv => okVs_mem h v (List.mem_of_mem_take hv)
theorem formedL_takeT {l : List Val} (h : formedL l = true) (k : Nat) : formedL (l.take k) = true := formedL_of fun v hv => formedL_in h (List.mem_of_mem_take hv)
def isNm (c : UInt8) : Bool := inNm c.toNat
def wordOf (s : List UInt8) : List UInt8 := s.takeWhile isNm
def restOf (s : List UInt8) : List UInt8 := s.dropWhile isNm
def cut (p s : List UInt8) : Option (List UInt8) := if p.isPrefixOf s then some (s.drop p.length) else none
abbrev PRes := Option (Val × List UInt8 × Nat)
def pMore (rec : List UInt8 → Nat → PRes) (fin : List UInt8) : Nat → List Val → List UInt8 → Nat → Option (List Val × List UInt8 × Nat)
 | 0, _, _, _ => none
 | m + 1, acc, s, p => match rec s p with
  | none => none
  | some (v, s1, p1) => match cut fin s1 with
   | some s2 => some (acc ++ [v], s2, p1)
   | none => match cut [44, 32] s1 with
    | some s2 => pMore rec fin m (acc ++ [v]) s2 p1
    | none => none
def pKids (rec : List UInt8 → Nat → PRes) (fin : List UInt8) (most : Nat) (s : List UInt8) (p : Nat) : Option (List Val × List UInt8 × Nat) :=
 match cut fin s with
 | some s1 => some ([], s1, p)
 | none => pMore rec fin most [] s p
def pNum (sign word : List UInt8) : Option Int :=
 match Lib.atoiAll (sign ++ word) with
 | .ok n => if Lib.itoa n = sign ++ word then some n else none
 | _ => none
def pWord (rec : List UInt8 → Nat → PRes) (sign s : List UInt8) (p : Nat) : PRes :=
 if wordOf s = tTrue ∧ sign = [] then some (.mk 1 1 [] [], restOf s, p)
 else if wordOf s = tFalse ∧ sign = [] then some (.mk 1 0 [] [], restOf s, p)
 else if capital (wordOf s) = true ∧ sign = [] then
  match cut [40] (restOf s) with
  | none => some (.mk 3 0 (wordOf s) [], restOf s, p)
  | some s1 => match pKids rec [41] 16 s1 p with
   | some (kids, s2, p2) => if kids = [] then none else some (.mk 3 0 (wordOf s) kids, s2, p2)
   | none => none
 else match pNum sign (wordOf s) with
  | some n => some (.mk 0 n [] [], restOf s, p)
  | none => none
def pStep (rec : List UInt8 → Nat → PRes) (s : List UInt8) (p : Nat) : PRes :=
 if 1024 < p + 1 then none
 else match cut [91] s with
  | some s1 => match pKids rec [93] 256 s1 (p + 1) with
   | some (kids, s2, p2) => some (.mk 2 0 [] kids, s2, p2)
   | none => none
  | none => match cut [45] s with
   | some s1 => pWord rec [45] s1 (p + 1)
   | none => pWord rec [] s (p + 1)
def pVal : Nat → List UInt8 → Nat → PRes
 | 0 => fun _ _ => none
 | f + 1 => pStep (pVal f)
theorem parse_snoc : ∀ (l m : List UInt8) (acc a : Nat), Lib.parseUint10 acc l = .ok a → Lib.parseUint10 acc (l ++ m) = Lib.parseUint10 a m
 | [], m, acc, a, h => by
  simp only [Lib.parseUint10] at h
  injection h with h
  rw [h]; rfl
 | c :: r, m, acc, a, h => by
  simp only [Lib.parseUint10, List.cons_append] at h ⊢
  split at h
  ·rename_i h1
   rw [if_pos h1]
   split at h
   ·cases h
   ·rename_i h2
    rw [if_neg h2]
    split at h
    ·cases h
    ·rename_i h3
     rw [if_neg h3]
     exact parse_snoc r m _ a h
  ·cases h
theorem parse_dec : ∀ (u : Nat), u < 18446744073709551616 → Lib.parseUint10 0 (Lib.decDigits u) = .ok u := by
 intro u
 induction u using Nat.strongRecOn with
 | _ u ih =>
  intro hu
  by_cases h10 : u < 10
  ·rw [Lib.decDigits_one h10]
   have e : (UInt8.ofNat (48 + u)).toNat = 48 + u := by simp; omega
   simp only [Lib.parseUint10, e]
   rw [if_pos (by omega), if_neg (by omega), if_neg (by omega)]
   congr 1
   omega
  ·rw [Lib.decDigits, dif_neg h10, parse_snoc _ _ 0 (u / 10) (ih (u / 10) (by omega) (by omega))]
   have e : (UInt8.ofNat (48 + u % 10)).toNat = 48 + u % 10 := by simp; omega
   simp only [Lib.parseUint10, e]
   rw [if_pos (by omega), if_neg (by omega), if_neg (by omega)]
   congr 1
   omega
theorem dec_cons (u : Nat) : ∃ c r, Lib.decDigits u = c :: r ∧ 48 ≤ c.toNat ∧ c.toNat ≤ 57 := by
 induction u using Nat.strongRecOn with
 | _ u ih =>
  by_cases h10 : u < 10
  ·rw [Lib.decDigits_one h10]
   have e : (UInt8.ofNat (48 + u)).toNat = 48 + u := by simp; omega
   exact ⟨_, [], rfl, by omega, by omega⟩
  ·obtain ⟨c, r, h1, h2⟩ := ih (u / 10) (by omega)
   rw [Lib.decDigits, dif_neg h10, h1]
   exact ⟨c, _, rfl, h2⟩
theorem atoi_itoa {n : Int} (h : i64 n) : Lib.atoiAll (Lib.itoa n) = .ok n := by
 unfold i64 at h
 unfold Lib.itoa
 split
 ·have hp := parse_dec n.natAbs (by omega)
  obtain ⟨c, r, h1, _⟩ := dec_cons n.natAbs
  rw [Lib.atoiAll_minus, Lib.parseMag, if_neg (by rw [h1]; simp), hp, Lib.signed, if_neg (by omega)]
  congr 1
  omega
 ·have hp := parse_dec n.toNat (by omega)
  obtain ⟨c, r, h1, h2⟩ := dec_cons n.toNat
  rw [h1] at hp ⊢
  rw [Lib.atoiAll_plain c r (by omega) (by omega), Lib.parseMag, if_neg (by simp), hp, Lib.signless, if_neg (by omega)]
  congr 1
  omega
theorem genNames_cap {s : List UInt8} (h : s ∈ genNames) : capital s = true := by
 simp [genNames] at h
 rcases h with rfl | rfl | rfl | rfl | rfl | rfl <;> decide
theorem genBase_formed {k n : Int} {s : List UInt8} {kids : List Val} (h : genBase k n s kids) : formed1 k n s kids.length = true := by
 rcases h with ⟨rfl, _, rfl, rfl⟩ | ⟨rfl, h, rfl, rfl⟩ | ⟨rfl, rfl, rfl⟩ | ⟨rfl, rfl, h⟩
 ·simp [formed1]
 ·rcases h with rfl | rfl <;> simp [formed1]
 ·simp [formed1]
 ·simp [formed1, genNames_cap h]
theorem genV_formed : ∀ {d : Nat} {v : Val}, genV d v → formedV v = true
 | 0, .mk k n s kids, h => by
  simp only [genV] at h
  obtain ⟨h1, rfl⟩ := h
  simp only [formedV, formedL, Bool.and_true]
  exact genBase_formed h1
 | d + 1, .mk k n s kids, h => by
  simp only [genV] at h
  obtain ⟨h1, h2, h3⟩ := h
  simp only [formedV, Bool.and_eq_true]
  exact ⟨genBase_formed h1, formedL_of fun v hv => genV_formed (h3 v hv)⟩
theorem print_pos {v : Val} (h : formedV v = true) : 0 < (printV v).length := by
 obtain ⟨k, n, s, kids⟩ := v
 simp only [formedV, Bool.and_eq_true] at h
 have h1 := h.1
 unfold formed1 at h1
 rw [printV]
 split
 ·unfold Lib.itoa
  split
  ·simp
  ·obtain ⟨c, r, h1, _⟩ := dec_cons n.toNat
   rw [h1]; simp
 ·split
  ·split <;> simp [tTrue, tFalse]
  ·split
   ·simp
   ·rename_i a b c
    rw [if_neg a, if_neg b, if_neg c] at h1
    split at h1
    ·simp only [Bool.and_eq_true] at h1
     have hs : 0 < s.length := by
      cases s with
      | nil => simp [capital] at h1
      | cons _ _ => simp
     split
     ·exact hs
     ·simp; omega
    ·cases h1
def Delim (t : List UInt8) : Prop := t = [] ∨ ∃ c r, t = c :: r ∧ isNm c = false ∧ c ≠ 40
theorem word_of {w t : List UInt8} (hw : ∀ c ∈ w, isNm c = true) (ht : Delim t) : wordOf (w ++ t) = w ∧ restOf (w ++ t) = t := by
 unfold wordOf restOf
 rw [List.takeWhile_append_of_pos hw, List.dropWhile_append_of_pos hw]
 rcases ht with rfl | ⟨c, r, rfl, hc, _⟩
 ·simp
 ·simp [hc]
theorem cut_ne {c d : UInt8} {r : List UInt8} (h : c ≠ d) : cut [d] (c :: r) = none := by
 unfold cut
 rw [if_neg]
 simp [List.isPrefixOf]
 exact fun e => h e.symm
theorem cut_eq (d : UInt8) (r : List UInt8) : cut [d] (d :: r) = some r := by
 unfold cut
 simp [List.isPrefixOf]
theorem cut_delim {t : List UInt8} (ht : Delim t) : cut [40] t = none := by
 rcases ht with rfl | ⟨c, r, rfl, _, hc⟩
 ·rfl
 ·exact cut_ne hc
theorem dec_digits (u : Nat) : ∀ c ∈ Lib.decDigits u, 48 ≤ c.toNat ∧ c.toNat ≤ 57 := by
 induction u using Nat.strongRecOn with
 | _ u ih =>
  have e : ∀ k : Nat, k < 10 → (UInt8.ofNat (48 + k)).toNat = 48 + k := fun k hk => by simp; omega
  by_cases h10 : u < 10
  ·rw [Lib.decDigits_one h10]
   intro c hc
   simp at hc
   subst hc
   have := e u h10
   simp at this ⊢
   omega
  ·rw [Lib.decDigits, dif_neg h10]
   intro c hc
   rcases List.mem_append.1 hc with h | h
   ·exact ih (u / 10) (by omega) c h
   ·simp only [List.mem_singleton] at h
    subst h
    have := e (u % 10) (by omega)
    omega
theorem digit_nm {c : UInt8} (h : 48 ≤ c.toNat ∧ c.toNat ≤ 57) : isNm c = true := by
 unfold isNm inNm
 have h1 : decide ((48 : Int) ≤ (c.toNat : Int)) = true := by simp; omega
 have h2 : decide ((c.toNat : Int) ≤ (57 : Int)) = true := by simp; omega
 rw [h1, h2]
 simp
theorem u8_ne {c : UInt8} {k : UInt8} (h : c.toNat ≠ k.toNat) : c ≠ k := fun e => h (by rw [e])
theorem pNum_itoa {n : Int} (h : i64 n) {sign word : List UInt8} (e : sign ++ word = Lib.itoa n) : pNum sign word = some n := by
 unfold pNum
 rw [e, atoi_itoa h]
 simp
theorem pVal_int {f : Nat} {n : Int} (h : i64 n) {t : List UInt8} (ht : Delim t) {p : Nat} (hp : p < 1024) : pVal (f + 1) (Lib.itoa n ++ t) p = some (.mk 0 n [] [], t, p + 1) := by
 show pStep (pVal f) _ p = _
 unfold pStep
 rw [if_neg (by omega)]
 by_cases hn : n < 0
 ·have e : Lib.itoa n = 45 :: Lib.decDigits n.natAbs := by unfold Lib.itoa; rw [if_pos hn]
  obtain ⟨hw, hr⟩ := word_of (w := Lib.decDigits n.natAbs) (t := t) (fun c hc => digit_nm (dec_digits _ c hc)) ht
  have hnum := pNum_itoa h (sign := [45]) (word := Lib.decDigits n.natAbs) (by rw [e]; rfl)
  rw [e, List.cons_append, cut_ne (by decide), cut_eq]
  simp only
  unfold pWord
  rw [hw, hr, hnum]
  simp
 ·have e : Lib.itoa n = Lib.decDigits n.toNat := by unfold Lib.itoa; rw [if_neg hn]
  obtain ⟨hw, hr⟩ := word_of (w := Lib.decDigits n.toNat) (t := t) (fun c hc => digit_nm (dec_digits _ c hc)) ht
  have hnum := pNum_itoa h (sign := []) (word := Lib.decDigits n.toNat) (by rw [e]; rfl)
  obtain ⟨c, r, h1, h2, h3⟩ := dec_cons n.toNat
  rw [e]
  have hc1 : cut [91] (Lib.decDigits n.toNat ++ t) = none := by
   rw [h1, List.cons_append]
   exact cut_ne (u8_ne (by show c.toNat ≠ 91; omega))
  have hc2 : cut [45] (Lib.decDigits n.toNat ++ t) = none := by
   rw [h1, List.cons_append]
   exact cut_ne (u8_ne (by show c.toNat ≠ 45; omega))
  rw [hc1, hc2]
  simp only
  unfold pWord
  rw [hw, hr, hnum]
  have t1 : ¬ (Lib.decDigits n.toNat = tTrue ∧ ([] : List UInt8) = []) := by
   rintro ⟨h, _⟩
   rw [h1] at h
   unfold tTrue at h
   injection h with h _
   rw [h] at h3
   exact absurd h3 (by decide)
  have t2 : ¬ (Lib.decDigits n.toNat = tFalse ∧ ([] : List UInt8) = []) := by
   rintro ⟨h, _⟩
   rw [h1] at h
   unfold tFalse at h
   injection h with h _
   rw [h] at h3
   exact absurd h3 (by decide)
  have t3 : ¬ (capital (Lib.decDigits n.toNat) = true ∧ ([] : List UInt8) = []) := by
   rintro ⟨h, _⟩
   rw [capital_up (a := c) (by rw [h1]; rfl) (by unfold upper; simp; omega)] at h
   cases h
  rw [if_neg t1, if_neg t2, if_neg t3]
theorem pVal_word {f : Nat} {w t : List UInt8} (_ : ∀ c ∈ w, isNm c = true) {c0 : UInt8} {r0 : List UInt8} (h0 : w = c0 :: r0) (ht : ∀ d, d = 91 ∨ d = 45 → c0 ≠ d) {p : Nat} (hp : p < 1024) : pVal (f + 1) (w ++ t) p = pWord (pVal f) [] (w ++ t) (p + 1) := by
 show pStep (pVal f) _ p = _
 unfold pStep
 rw [if_neg (by omega)]
 have hc1 : cut [91] (w ++ t) = none := by rw [h0, List.cons_append]; exact cut_ne (ht 91 (.inl rfl))
 have hc2 : cut [45] (w ++ t) = none := by rw [h0, List.cons_append]; exact cut_ne (ht 45 (.inr rfl))
 rw [hc1, hc2]
theorem printL_head {l : List Val} (hl : l ≠ []) (hf : formedL l = true) : ∃ c r, printL l = c :: r ∧ c ≠ 93 ∧ c ≠ 41 := by
 cases l with
 | nil => exact absurd rfl hl
 | cons v r =>
  simp only [formedL, Bool.and_eq_true] at hf
  obtain ⟨k, n, s, kids⟩ := v
  have hv := hf.1
  simp only [formedV, Bool.and_eq_true] at hv
  have h1 := hv.1
  have key : ∃ c q, printV (.mk k n s kids) = c :: q ∧ c ≠ 93 ∧ c ≠ 41 := by
   unfold formed1 at h1
   rw [printV]
   by_cases k0 : k = 0
   ·rw [if_pos k0]
    unfold Lib.itoa
    split
    ·exact ⟨45, _, rfl, by decide, by decide⟩
    ·obtain ⟨c, q, e, h2, h3⟩ := dec_cons n.toNat
     exact ⟨c, q, e, u8_ne (by show c.toNat ≠ 93; omega), u8_ne (by show c.toNat ≠ 41; omega)⟩
   ·rw [if_neg k0] at h1 ⊢
    by_cases k1 : k = 1
    ·rw [if_pos k1]
     split
     ·exact ⟨_, _, rfl, by decide, by decide⟩
     ·exact ⟨_, _, rfl, by decide, by decide⟩
    ·rw [if_neg k1] at h1 ⊢
     by_cases k2 : k = 2
     ·rw [if_pos k2]
      exact ⟨91, _, rfl, by decide, by decide⟩
     ·rw [if_neg k2] at h1 ⊢
      split at h1
      ·simp only [Bool.and_eq_true] at h1
       have hc := h1.2
       cases s with
       | nil => simp [capital] at hc
       | cons c q =>
        simp only [capital, Bool.and_eq_true, upper, decide_eq_true_eq] at hc
        have a1 := hc.1.2
        split
        ·exact ⟨c, q, rfl, u8_ne (by show c.toNat ≠ 93; omega), u8_ne (by show c.toNat ≠ 41; omega)⟩
        ·exact ⟨c, _, rfl, u8_ne (by show c.toNat ≠ 93; omega), u8_ne (by show c.toNat ≠ 41; omega)⟩
      ·cases h1
  obtain ⟨c, q, e, a, b⟩ := key
  exact ⟨c, q ++ printR r, by rw [printL, e]; rfl, a, b⟩
theorem pMore_print {rec : List UInt8 → Nat → PRes} {d : UInt8} (hd : d = 93 ∨ d = 41) : ∀ (l : List Val) (m : Nat) (acc : List Val) (t : List UInt8) (p : Nat), l ≠ [] → l.length ≤ m →
  (∀ (i : Nat) (v : Val) (t' : List UInt8), l[i]? = some v → Delim t' → rec (printV v ++ t') (p + sizeL (l.take i)) = some (v, t', p + sizeL (l.take i) + sizeV v)) →
  pMore rec [d] m acc (printL l ++ d :: t) p = some (acc ++ l, t, p + sizeL l)
 | [], _, _, _, _, h, _, _ => absurd rfl h
 | v :: r, 0, _, _, _, _, h, _ => by simp at h
 | v :: r, m + 1, acc, t, p, _, hm, hrec => by
  have hdn : isNm d = false ∧ d ≠ 40 := by rcases hd with rfl | rfl <;> decide
  simp only [pMore]
  have h0 := fun t' ht => hrec 0 v t' rfl ht
  simp only [List.take_zero, sizeL, Nat.add_zero] at h0
  cases r with
  | nil =>
   rw [show printL [v] ++ d :: t = printV v ++ d :: t by simp [printL, printR], h0 (d :: t) (.inr ⟨d, t, rfl, hdn.1, hdn.2⟩)]
   simp only
   rw [cut_eq]
   simp [sizeL]
  | cons a q =>
   have e : printL (v :: a :: q) ++ d :: t = printV v ++ 44 :: 32 :: (printL (a :: q) ++ d :: t) := by simp [printL, printR]
   rw [e, h0 _ (.inr ⟨44, _, rfl, by decide, by decide⟩)]
   simp only
   rw [cut_ne (by rcases hd with rfl | rfl <;> decide)]
   have hc : cut [44, 32] (44 :: 32 :: (printL (a :: q) ++ d :: t)) = some (printL (a :: q) ++ d :: t) := by
    unfold cut
    simp [List.isPrefixOf]
   rw [hc]
   simp only
   have ih := pMore_print hd (a :: q) m (acc ++ [v]) t (p + sizeV v) (by simp) (by simpa using hm) (fun i x t' hi ht => by
    have := hrec (i + 1) x t' (by simpa using hi) ht
    simp only [List.take_succ_cons, sizeL] at this
    rw [show p + sizeV v + sizeL ((a :: q).take i) = p + (sizeV v + sizeL ((a :: q).take i)) by omega]
    exact this)
   rw [ih]
   simp [sizeL]
   omega
theorem pVal_print : ∀ (v : Val) (f p : Nat) (t : List UInt8), okV v → formedV v = true → fitsV v = true → Delim t → p + sizeV v ≤ 1024 → 1025 ≤ f + p → pVal f (printV v ++ t) p = some (v, t, p + sizeV v)
 | .mk k n s kids, f, p, t, ho, hf, hw, ht, hp, hfp => by
  simp only [okV] at ho
  simp only [formedV, Bool.and_eq_true] at hf
  simp only [fitsV, Bool.and_eq_true] at hw
  simp only [sizeV] at hp
  obtain ⟨g, rfl⟩ : ∃ g, f = g + 1 := ⟨f - 1, by omega⟩
  have h1 := hf.1
  have hrec : ∀ (q : Nat), p + 1 = q → ∀ (i : Nat) (v : Val) (t' : List UInt8), kids[i]? = some v → Delim t' → pVal g (printV v ++ t') (q + sizeL (kids.take i)) = some (v, t', q + sizeL (kids.take i) + sizeV v) := by
   intro q hq i v t' hi hd
   have hil := (List.getElem?_eq_some_iff.1 hi).1
   have hm := List.mem_of_getElem? hi
   have hs := sizeL_take (l := kids) (k := i) hil
   have hs2 := sizeL_take_le kids (i + 1)
   have e : kids[i] = v := by rw [List.getElem?_eq_getElem hil] at hi; exact Option.some.inj hi
   rw [e] at hs
   exact pVal_print v g (q + sizeL (kids.take i)) t' (okVs_mem ho.2.2.2.2 v hm) (formedL_in hf.2 hm) (fitsL_in hw.2 hm) hd (by omega) (by omega)
  unfold formed1 at h1
  rw [printV]
  by_cases k0 : k = 0
  ·subst k0
   rw [if_pos rfl] at h1 ⊢
   simp only [Bool.and_eq_true, decide_eq_true_eq] at h1
   obtain ⟨rfl, h2⟩ := h1
   obtain rfl : kids = [] := List.length_eq_zero_iff.1 h2
   simp only [sizeV, sizeL] at hp ⊢
   exact pVal_int ho.2.1 ht (by omega)
  ·rw [if_neg k0] at h1 ⊢
   by_cases k1 : k = 1
   ·subst k1
    rw [if_pos rfl] at h1 ⊢
    simp only [Bool.and_eq_true, decide_eq_true_eq, Bool.or_eq_true] at h1
    obtain ⟨⟨hn, rfl⟩, h2⟩ := h1
    obtain rfl : kids = [] := List.length_eq_zero_iff.1 h2
    simp only [sizeV, sizeL] at hp ⊢
    rcases hn with rfl | rfl
    ·rw [if_neg (by omega), pVal_word (w := tFalse) (by decide) rfl (by rintro d (rfl | rfl) <;> decide) (by omega)]
     obtain ⟨a, b⟩ := word_of (w := tFalse) (t := t) (by decide) ht
     unfold pWord
     rw [a, b, if_neg (by decide), if_pos ⟨rfl, rfl⟩]
    ·rw [if_pos rfl, pVal_word (w := tTrue) (by decide) rfl (by rintro d (rfl | rfl) <;> decide) (by omega)]
     obtain ⟨a, b⟩ := word_of (w := tTrue) (t := t) (by decide) ht
     unfold pWord
     rw [a, b, if_pos ⟨rfl, rfl⟩]
   ·rw [if_neg k1] at h1 ⊢
    by_cases k2 : k = 2
    ·subst k2
     rw [if_pos rfl] at h1 ⊢
     simp only [Bool.and_eq_true, decide_eq_true_eq] at h1
     obtain ⟨rfl, rfl⟩ := h1
     show pStep (pVal g) _ p = _
     unfold pStep
     rw [if_neg (by omega), List.cons_append, cut_eq]
     simp only
     have hlen : kids.length ≤ 256 := by have := hw.1; unfold fits1 at this; simp at this; omega
     have hk : pKids (pVal g) [93] 256 (printL kids ++ [93] ++ t) (p + 1) = some (kids, t, p + 1 + sizeL kids) := by
      unfold pKids
      by_cases hne : kids = []
      ·subst hne
       rw [show printL [] ++ [93] ++ t = 93 :: t by simp [printL], cut_eq]
       simp [sizeL]
      ·obtain ⟨c, r, e, c1, _⟩ := printL_head hne hf.2
       have : cut [93] (printL kids ++ [93] ++ t) = none := by rw [e]; exact cut_ne c1
       rw [this]
       have := pMore_print (rec := pVal g) (d := 93) (.inl rfl) kids 256 [] t (p + 1) hne hlen (hrec (p + 1) rfl)
       simpa using this
     rw [hk]
     simp only [sizeV]
     rw [show p + 1 + sizeL kids = p + (1 + sizeL kids) by omega]
    ·rw [if_neg k2] at h1 ⊢
     split at h1
     ·rename_i k3
      subst k3
      simp only [Bool.and_eq_true, decide_eq_true_eq] at h1
      obtain ⟨rfl, hc⟩ := h1
      have hcs := hc
      cases s with
      | nil => simp [capital] at hc
      | cons c0 r0 =>
       simp only [capital, Bool.and_eq_true, List.all_eq_true, decide_eq_true_eq] at hc
       have hup := hc.1.2
       have hnm : ∀ c ∈ c0 :: r0, isNm c = true := by
        intro c h
        rcases List.mem_cons.1 h with rfl | h
        ·exact upper_in hup
        ·exact hc.2 c h
       simp only [upper, Bool.and_eq_true, decide_eq_true_eq] at hup
       have hne1 : ¬ (c0 :: r0 = tTrue ∧ ([] : List UInt8) = []) := by
        rintro ⟨h, _⟩
        unfold tTrue at h
        injection h with h _
        rw [h] at hup
        exact absurd hup.2 (by decide)
       have hne2 : ¬ (c0 :: r0 = tFalse ∧ ([] : List UInt8) = []) := by
        rintro ⟨h, _⟩
        unfold tFalse at h
        injection h with h _
        rw [h] at hup
        exact absurd hup.2 (by decide)
       have hfirst : ∀ d, d = 91 ∨ d = 45 → c0 ≠ d := by
        rintro d (rfl | rfl)
        ·exact u8_ne (by show c0.toNat ≠ 91; omega)
        ·exact u8_ne (by show c0.toNat ≠ 45; omega)
       by_cases hk : kids = []
       ·subst hk
        simp only [if_true]
        rw [pVal_word hnm rfl hfirst (by omega)]
        obtain ⟨a, b⟩ := word_of (w := c0 :: r0) (t := t) hnm ht
        unfold pWord
        rw [a, b, if_neg hne1, if_neg hne2, if_pos ⟨hcs, rfl⟩, cut_delim ht]
        simp [sizeV, sizeL]
       ·rw [if_neg hk]
        have hlen : kids.length ≤ 16 := by have := hw.1; unfold fits1 at this; simp at this; omega
        have e : (c0 :: r0) ++ 40 :: (printL kids ++ [41]) ++ t = (c0 :: r0) ++ (40 :: (printL kids ++ 41 :: t)) := by simp
        rw [e, pVal_word hnm rfl hfirst (by omega)]
        have hword : wordOf ((c0 :: r0) ++ (40 :: (printL kids ++ 41 :: t))) = c0 :: r0 ∧ restOf ((c0 :: r0) ++ (40 :: (printL kids ++ 41 :: t))) = 40 :: (printL kids ++ 41 :: t) := by
         have h40 : isNm 40 = false := by decide
         unfold wordOf restOf
         rw [List.takeWhile_append_of_pos hnm, List.dropWhile_append_of_pos hnm]
         simp [h40]
        obtain ⟨a, b⟩ := hword
        unfold pWord
        rw [a, b, if_neg hne1, if_neg hne2, if_pos ⟨hcs, rfl⟩, cut_eq]
        simp only
        have hkk : pKids (pVal g) [41] 16 (printL kids ++ 41 :: t) (p + 1) = some (kids, t, p + 1 + sizeL kids) := by
         unfold pKids
         obtain ⟨c, r, e, _, c1⟩ := printL_head hk hf.2
         have : cut [41] (printL kids ++ 41 :: t) = none := by rw [e]; exact cut_ne c1
         rw [this]
         have := pMore_print (rec := pVal g) (d := 41) (.inr rfl) kids 16 [] t (p + 1) hk hlen (hrec (p + 1) rfl)
         simpa using this
        rw [hkk]
        simp only
        rw [if_neg hk]
        simp only [sizeV]
        rw [show p + 1 + sizeL kids = p + (1 + sizeL kids) by omega]
     ·cases h1
termination_by v f p t => SizeOf.sizeOf v
decreasing_by
 have := List.sizeOf_lt_of_mem (List.mem_of_getElem? hi)
 simp
 omega
where
 fitsL_in : ∀ {l : List Val}, fitsL l = true → ∀ {v : Val}, v ∈ l → fitsV v = true
  | a :: r, h, v, hv => by
   simp only [fitsL, Bool.and_eq_true] at h
   rcases List.mem_cons.1 hv with rfl | hv
   ·exact h.1
   ·exact fitsL_in h.2 hv
theorem valid_fits {v : Val} (h : validV v = 0) : formedV v = true ∧ fitsV v = true ∧ sizeV v ≤ 1024 := by
 unfold validV at h
 split at h
 ·omega
 ·rename_i hf
  have hf : formedV v = true := by simpa using hf
  split at h
  ·omega
  ·rename_i hw
   rw [not_or] at hw
   refine ⟨hf, ?_, by omega⟩
   have := wide_fits v hf
   have h2 : wideV v = false := by simpa using hw.1
   rw [h2] at this
   simpa using this.symm
theorem parse_print {v : Val} (ho : okV v) (h : validV v = 0) : pVal 1025 (printV v) 0 = some (v, [], sizeV v) := by
 obtain ⟨h1, h2, h3⟩ := valid_fits h
 have := pVal_print v 1025 0 [] ho h1 h2 (.inl rfl) (by omega) (by omega)
 simpa using this
def uvar (n : Nat) : List UInt8 := if _h : n < 128 then [UInt8.ofNat n] else UInt8.ofNat (128 + n % 128) :: uvar (n / 128)
termination_by n
def zig (n : Int) : Nat := if n < 0 then 2 * (-(n + 1)).toNat + 1 else 2 * n.toNat
def zag (u : Nat) : Int := if u % 2 = 1 then -((u / 2 : Nat) : Int) - 1 else ((u / 2 : Nat) : Int)
theorem uvar_small {n : Nat} (h : n < 128) : uvar n = [UInt8.ofNat n] := by rw [uvar, dif_pos h]
theorem uvar_big {n : Nat} (h : ¬ n < 128) : uvar n = UInt8.ofNat (128 + n % 128) :: uvar (n / 128) := by rw [uvar, dif_neg h]
theorem zig_lt {n : Int} (h : i64 n) : zig n < 18446744073709551616 := by
 unfold zig; unfold i64 at h
 split <;> omega
theorem zag_zig (n : Int) : zag (zig n) = n := by
 unfold zag zig
 split <;> split <;> omega
theorem uvar_len : ∀ (k n : Nat), n < 128 ^ (k + 1) → (uvar n).length ≤ k + 1
 | 0, n, h => by rw [uvar_small (by simpa using h)]; simp
 | k + 1, n, h => by
  by_cases hn : n < 128
  ·rw [uvar_small hn]; simp
  ·rw [uvar_big hn]
   have := uvar_len k (n / 128) (by rw [Nat.div_lt_iff_lt_mul (by omega)]; rw [Nat.pow_succ] at h; exact h)
   simp; omega
theorem uvar_len64 {n : Nat} (h : n < 18446744073709551616) : (uvar n).length ≤ 10 := by
 refine uvar_len 9 n ?_
 have : (128 : Nat) ^ (9 + 1) = 1180591620717411303424 := by decide
 omega
def uGo : List UInt8 → Nat → Nat → Sum Int (Nat × List UInt8)
 | [], _, _ => .inl 3
 | b :: r, i, n => if (i = 9 ∧ 1 < b.toNat) ∨ (0 < i ∧ b.toNat = 0) then .inl 2 else if b.toNat < 128 then .inr (n + b.toNat * 2 ^ (7 * i), r) else uGo r (i + 1) (n + (b.toNat - 128) * 2 ^ (7 * i))
theorem uGo_uvar : ∀ (u i n : Nat) (t : List UInt8), i ≤ 9 → u * 2 ^ (7 * i) < 18446744073709551616 → (i = 0 ∨ 0 < u) → uGo (uvar u ++ t) i n = .inr (n + u * 2 ^ (7 * i), t) := by
 intro u
 induction u using Nat.strongRecOn with
 | _ u ih =>
  intro i n t hi hu h0
  have h9 : i = 9 → u ≤ 1 := by
   intro e
   subst e
   have : (2 : Nat) ^ (7 * 9) = 9223372036854775808 := by decide
   rw [this] at hu
   omega
  by_cases hs : u < 128
  ·rw [uvar_small hs]
   have e : (UInt8.ofNat u).toNat = u := by simp; omega
   show uGo (UInt8.ofNat u :: t) i n = _
   simp only [uGo, e]
   rw [if_neg (by
    rintro (⟨h1, h2⟩ | ⟨h1, h2⟩)
    ·have := h9 h1; omega
    ·omega), if_pos hs]
  ·rw [uvar_big hs]
   have e : (UInt8.ofNat (128 + u % 128)).toNat = 128 + u % 128 := by simp; omega
   show uGo (UInt8.ofNat (128 + u % 128) :: (uvar (u / 128) ++ t)) i n = _
   simp only [uGo, e]
   have hne : i ≠ 9 := by intro h; have := h9 h; omega
   have hp : (2 : Nat) ^ (7 * (i + 1)) = 128 * 2 ^ (7 * i) := by rw [show 7 * (i + 1) = 7 * i + 7 by omega, Nat.pow_add]; omega
   rw [if_neg (by omega), if_neg (by omega), ih (u / 128) (by omega) (i + 1) _ t (by omega) (by
    rw [hp, ← Nat.mul_assoc]
    refine Nat.lt_of_le_of_lt (Nat.mul_le_mul_right _ ?_) hu
    omega) (.inr (by omega))]
   congr 2
   rw [hp, ← Nat.mul_assoc, show 128 + u % 128 - 128 = u % 128 by omega, Nat.add_assoc, ← Nat.add_mul]
   congr 2
   omega
theorem uGo_of {u : Nat} (t : List UInt8) (h : u < 18446744073709551616) : uGo (uvar u ++ t) 0 0 = .inr (u, t) := by
 have := uGo_uvar u 0 0 t (by omega) (by simpa using h) (.inl rfl)
 simpa using this
abbrev Rd := List UInt8 × Int
def uintR (x : Rd) : Nat × Rd := if x.2 = 0 then (match uGo x.1 0 0 with | .inl e => (0, (x.1, e)) | .inr (u, t) => (u, (t, 0))) else (0, x)
def intR (x : Rd) : Int × Rd := (zag (uintR x).1, (uintR x).2)
def boolR (x : Rd) : Bool × Rd := if x.2 = 0 then (match x.1 with
  | [] => (false, (x.1, 3))
  | b :: t => if 1 < b.toNat then (false, (x.1, 2)) else (decide (b.toNat = 1), (t, 0))) else (false, x)
def lenR (x : Rd) : Nat × Rd := if (uintR x).2.2 = 0 then (if (uintR x).2.1.length < (uintR x).1 then (0, ((uintR x).2.1, 3)) else ((uintR x).1, (uintR x).2)) else (0, (uintR x).2)
def textR (x : Rd) : List UInt8 × Rd := ((lenR x).2.1.take (lenR x).1, ((lenR x).2.1.drop (lenR x).1, (lenR x).2.2))
def encInt (n : Int) : List UInt8 := uvar (zig n)
mutual
def codeV : Val → List UInt8
 | .mk k n s kids => encInt k ++ (if k = 0 then encInt n else if k = 1 then [if n = 1 then 1 else 0] else (if k = 3 then uvar s.length ++ s else []) ++ (encInt kids.length ++ codeL kids))
def codeL : List Val → List UInt8
 | [] => []
 | v :: r => codeV v ++ codeL r
end
theorem codeL_append : ∀ l m : List Val, codeL (l ++ m) = codeL l ++ codeL m
 | [], m => by simp [codeL]
 | v :: r, m => by simp [codeL, codeL_append r m]
theorem codeL_take {l : List Val} {k : Nat} (h : k < l.length) : codeL (l.take (k + 1)) = codeL (l.take k) ++ codeV l[k] := by
 rw [List.take_succ_eq_append_getElem h, codeL_append]; simp [codeL]
theorem encInt_len {n : Int} (h : i64 n) : (encInt n).length ≤ 10 := uvar_len64 (zig_lt h)
theorem i64_nat {n : Nat} (h : n ≤ 4611686018427387904) : i64 (n : Int) := ⟨by omega, by omega⟩
mutual
theorem code_len : ∀ v : Val, okV v → formedV v = true → (codeV v).length ≤ 50 * sizeV v
 | .mk k n s kids, ho, hf => by
  simp only [okV] at ho
  simp only [formedV, Bool.and_eq_true] at hf
  have hl := codeL_len kids ho.2.2.2.2 hf.2
  have h1 := encInt_len ho.1
  have h2 := encInt_len ho.2.1
  have h3 := encInt_len (i64_nat (n := kids.length) (by omega))
  simp only [sizeV, codeV, List.length_append]
  have hf1 := hf.1
  unfold formed1 at hf1
  split
  ·omega
  ·split
   ·simp; omega
   ·rename_i k0 k1
    rw [if_neg k0, if_neg k1] at hf1
    simp only [List.length_append]
    have hs : (if k = 3 then uvar s.length ++ s else []).length ≤ 26 := by
     split
     ·rename_i k3
      subst k3
      rw [if_neg (by omega), if_pos rfl] at hf1
      have : s.length ≤ 16 := by
       rcases Nat.lt_or_ge 16 s.length with h | h
       ·rw [capital_long h] at hf1; simp at hf1
       ·exact h
      have := uvar_len64 (n := s.length) (by omega)
      simp; omega
     ·simp
    omega
theorem codeL_len : ∀ l : List Val, okVs l → formedL l = true → (codeL l).length ≤ 50 * sizeL l
 | [], _, _ => by simp [codeL]
 | v :: r, ho, hf => by
  simp only [okVs] at ho
  simp only [formedL, Bool.and_eq_true] at hf
  have h1 := code_len v ho.1 hf.1
  have h2 := codeL_len r ho.2 hf.2
  simp only [codeL, sizeL, List.length_append]
  omega
end
theorem wrap_u64 {n : Int} (h0 : 0 ≤ n) (h1 : n < 18446744073709551616) : IntKind.u64.wrap n = n := by
 unfold IntKind.wrap
 have e : (2 ^ IntKind.u64.bits : Int) = 18446744073709551616 := by decide
 have s : IntKind.u64.signed = false := rfl
 simp only [e, s, Bool.false_and]
 exact Int.emod_eq_of_lt h0 h1
theorem wrap_u64_mod (n : Int) : IntKind.u64.wrap n = n % 18446744073709551616 := by
 unfold IntKind.wrap
 have e : (2 ^ IntKind.u64.bits : Int) = 18446744073709551616 := by decide
 have s : IntKind.u64.signed = false := rfl
 simp only [e, s, Bool.false_and]
 rfl
theorem wrap_u8_mod (n : Int) : IntKind.u8.wrap n = n % 256 := by
 unfold IntKind.wrap
 have e : (2 ^ IntKind.u8.bits : Int) = 256 := by decide
 have s : IntKind.u8.signed = false := rfl
 simp only [e, s, Bool.false_and]
 rfl
theorem pow64 : (2 : Nat) ^ 64 = 18446744073709551616 := by decide
theorem ofI (a : Nat) : (BitVec.ofInt 64 (a : Int)).toNat = a % 18446744073709551616 := by
 rw [BitVec.ofInt_natCast, BitVec.toNat_ofNat]
theorem ones_xor {a : Nat} (h : a < 18446744073709551616) : a ^^^ 18446744073709551615 = 18446744073709551615 - a := by
 have h1 : (BitVec.ofNat 64 a ^^^ BitVec.allOnes 64).toNat = 18446744073709551615 - a := by
  rw [BitVec.xor_allOnes, BitVec.toNat_not, BitVec.toNat_ofNat, pow64, Nat.mod_eq_of_lt h]
 rw [BitVec.toNat_xor, BitVec.toNat_ofNat, pow64, Nat.mod_eq_of_lt h] at h1
 have h2 : (BitVec.allOnes 64).toNat = 18446744073709551615 := by decide
 rw [h2] at h1
 exact h1
theorem xor_lt64 {a b : Nat} (ha : a < 18446744073709551616) (hb : b < 18446744073709551616) : a ^^^ b < 18446744073709551616 := by
 have := Nat.xor_lt_two_pow (n := 64) (x := a) (y := b) (by rw [pow64]; exact ha) (by rw [pow64]; exact hb)
 rwa [pow64] at this
theorem or_lt64 {a b : Nat} (ha : a < 18446744073709551616) (hb : b < 18446744073709551616) : a ||| b < 18446744073709551616 := by
 have := Nat.or_lt_two_pow (n := 64) (x := a) (y := b) (by rw [pow64]; exact ha) (by rw [pow64]; exact hb)
 rwa [pow64] at this
theorem bits_xor {a b : Nat} (ha : a < 18446744073709551616) (hb : b < 18446744073709551616) : bits .xor .u64 (a : Int) (b : Int) = ((a ^^^ b : Nat) : Int) := by
 show IntKind.u64.wrap ((BitVec.ofInt 64 (a : Int) ^^^ BitVec.ofInt 64 (b : Int)).toNat : Int) = _
 rw [BitVec.toNat_xor, ofI, ofI, Nat.mod_eq_of_lt ha, Nat.mod_eq_of_lt hb, wrap_u64 (by omega) (by have := xor_lt64 ha hb; omega)]
theorem bits_or {a b : Nat} (ha : a < 18446744073709551616) (hb : b < 18446744073709551616) : bits .or .u64 (a : Int) (b : Int) = ((a ||| b : Nat) : Int) := by
 show IntKind.u64.wrap ((BitVec.ofInt 64 (a : Int) ||| BitVec.ofInt 64 (b : Int)).toNat : Int) = _
 rw [BitVec.toNat_or, ofI, ofI, Nat.mod_eq_of_lt ha, Nat.mod_eq_of_lt hb, wrap_u64 (by omega) (by have := or_lt64 ha hb; omega)]
theorem zig_bits {n : Int} (h : i64 n) : bits .xor .u64 (IntKind.u64.wrap (IntKind.u64.wrap n * 2 ^ (min (1 : Int).toNat IntKind.u64.bits))) (IntKind.u64.wrap (n.fdiv (2 ^ (min (63 : Int).toNat IntKind.i64.bits)))) = (zig n : Int) := by
 have e1 : min (1 : Int).toNat IntKind.u64.bits = 1 := by decide
 have e2 : min (63 : Int).toNat IntKind.i64.bits = 63 := by decide
 have hz := zig_lt h
 rw [e1, e2]
 unfold i64 at h
 by_cases hn : n < 0
 ·have a : n.fdiv (2 ^ 63) = -1 := by
   rw [Int.fdiv_eq_ediv_of_nonneg _ (by decide)]
   omega
  have b : IntKind.u64.wrap (-1) = ((18446744073709551615 : Nat) : Int) := by rw [wrap_u64_mod]; decide
  have c : IntKind.u64.wrap (IntKind.u64.wrap n * 2 ^ 1) = ((18446744073709551616 + 2 * n).toNat : Int) := by
   rw [wrap_u64_mod, wrap_u64_mod]
   omega
  rw [a, b, c, bits_xor (by omega) (by omega), ones_xor (by omega)]
  have z : zig n = 2 * (-(n + 1)).toNat + 1 := by unfold zig; rw [if_pos hn]
  rw [z]
  omega
 ·have a : n.fdiv (2 ^ 63) = 0 := by
   rw [Int.fdiv_eq_ediv_of_nonneg _ (by decide)]
   omega
  have b : IntKind.u64.wrap 0 = ((0 : Nat) : Int) := by rw [wrap_u64_mod]; decide
  have c : IntKind.u64.wrap (IntKind.u64.wrap n * 2 ^ 1) = ((2 * n.toNat : Nat) : Int) := by
   rw [wrap_u64_mod, wrap_u64_mod]
   omega
  rw [a, b, c, bits_xor (by omega) (by omega), Nat.xor_zero]
  have z : zig n = 2 * n.toNat := by unfold zig; rw [if_neg hn]
  rw [z]
theorem more_bits (n : Nat) : bits .or .u8 (IntKind.u8.wrap (n : Int)) 128 = ((UInt8.ofNat (128 + n % 128)).toNat : Int) := by
 have h : ∀ b : Fin 256, bits .or .u8 (b.val : Int) 128 = ((128 + b.val % 128 : Nat) : Int) := by decide +kernel
 have e : IntKind.u8.wrap (n : Int) = ((n % 256 : Nat) : Int) := by rw [wrap_u8_mod]; omega
 have := h ⟨n % 256, by omega⟩
 simp only at this
 rw [e, this]
 have e2 : (UInt8.ofNat (128 + n % 128)).toNat = 128 + n % 128 := by simp; omega
 rw [e2]
 omega
theorem last_bits {n : Nat} (h : n < 128) : IntKind.u8.wrap (n : Int) = ((UInt8.ofNat n).toNat : Int) := by
 rw [wrap_u8_mod]
 have e2 : (UInt8.ofNat n).toNat = n := by simp; omega
 rw [e2]
 omega
theorem shr7 (n : Nat) : (n : Int).fdiv (2 ^ (min (7 : Int).toNat IntKind.u64.bits)) = ((n / 128 : Nat) : Int) := by
 have e1 : min (7 : Int).toNat IntKind.u64.bits = 7 := by decide
 rw [e1, Int.fdiv_eq_ediv_of_nonneg _ (by decide)]
 omega
theorem more_ref {n : Nat} (h : n < 18446744073709551616) : IntKind.u8.wrap (IntKind.u64.wrap (128 + (n : Int).tmod 128)) = ((UInt8.ofNat (128 + n % 128)).toNat : Int) := by
 have e : (n : Int).tmod 128 = ((n % 128 : Nat) : Int) := by rw [Int.tmod_eq_emod_of_nonneg (by omega)]; omega
 have e2 : (UInt8.ofNat (128 + n % 128)).toNat = 128 + n % 128 := by simp; omega
 rw [e, e2, wrap_u64 (by omega) (by omega), wrap_u8_mod]
 omega
theorem quo_ref {n : Nat} (h : n < 18446744073709551616) : IntKind.u64.wrap ((n : Int).tdiv 128) = ((n / 128 : Nat) : Int) := by
 have e : (n : Int).tdiv 128 = ((n / 128 : Nat) : Int) := by rw [Int.tdiv_eq_ediv_of_nonneg (by omega)]; omega
 rw [e, wrap_u64 (by omega) (by omega)]
end Go.Ax
namespace Go.Ax
open Go
end Go.Ax
namespace Go.Ax
open Go
structure Est (B L U v U3 v2 top lead next u : Nat) : Prop where
 b2 : 2 ≤ B
 l0 : 0 < L
 u1 : U3 * L ≤ U
 u2 : U < (U3 + 1) * L
 w1 : v2 * L ≤ v
 w2 : v < (v2 + 1) * L
 u3 : U3 = top * B + u
 v3 : v2 = lead * B + next
 uB : u < B
 nB : next < B
 lB : lead < B
 half : B ≤ 2 * lead
 less : U < v * B
section
variable {B L U v U3 v2 top lead next u : Nat} (h : Est B L U v U3 v2 top lead next u)
include h
structure EstI (B U v top lead d r : Nat) : Prop where
 eq : d * lead + r = top
 up : U < (d + 1) * v
 hi : d ≤ B + 1
 rB : r < B
end
end Go.Ax
namespace Go.Ax
open Go
end Go.Ax
namespace Go.Ax
open Go
structure Nd where
 kind : Int
 name : List UInt8
 lo : Int
 hi : Int
 weights : List Int
 labels : List (List UInt8)
 values : List Val
 kids : List Int
 value : Val
structure okN (x : Nd) : Prop where
 kind : i64 x.kind
 name : x.name.length ≤ 4294967296
 lo : i64 x.lo
 hi : i64 x.hi
 weights : x.weights.length ≤ 4294967296
 weightsI : ∀ w ∈ x.weights, i64 w
 labels : x.labels.length ≤ 4294967296
 labelsI : ∀ w ∈ x.labels, w.length ≤ 4294967296
 values : x.values.length ≤ 4294967296
 valuesI : ∀ v ∈ x.values, okV v ∧ sizeV v ≤ 4294967296
 kids : x.kids.length ≤ 4294967296
 kidsI : ∀ k ∈ x.kids, i64 k
 value : okV x.value
 valueS : sizeV x.value ≤ 4294967296
def zeroV : Val → Bool
 | .mk k n s ks => decide (k = 0) && decide (n = 0) && decide (s = []) && decide (ks.length = 0)
def unusedN (x : Nd) : Bool :=
 (decide (x.kind = 0) || zeroV x.value) && (decide (x.kind = 1) || (decide (x.lo = 0) && decide (x.hi = 0))) && (decide (x.kind = 3) || decide (x.name = [])) &&
 (decide (x.kind = 2) || (decide (x.weights.length = 0) && decide (x.labels.length = 0))) && (decide (x.kind = 4) || decide (x.values.length = 0)) && ((decide (x.kind ≠ 0) && decide (x.kind ≠ 1)) || decide (x.kids.length = 0))
def sortedA : List Val → Bool
 | a :: b :: r => decide (cmpV a b < 0) && sortedA (b :: r)
 | _ => true
def kidsIn (i : Int) (l : List Int) : Bool := l.all fun k => decide (0 ≤ k) && decide (k < i)
def formedN (i : Int) (x : Nd) : Bool :=
 unusedN x && (decide (0 ≤ x.kind) && decide (x.kind ≤ 4)) && kidsIn i x.kids &&
 (decide (x.kind ≠ 2) || (decide (1 ≤ x.kids.length) && decide (x.kids.length ≤ 256) && decide (x.weights.length = x.kids.length) && (decide (x.labels.length = 0) || decide (x.labels.length = x.kids.length)))) &&
 (decide (x.kind ≠ 3) || (decide (x.kids.length ≤ 256) && (decide (x.name = []) || (capital x.name && decide (x.kids.length ≤ 16))))) &&
 (decide (x.kind ≠ 4) || decide (x.kids.length = x.values.length + 1)) && sortedA x.values
def numbersN (x : Nd) : Bool :=
 decide (x.lo ≤ x.hi) && decide (-4611686018427387904 ≤ x.lo) && decide (x.hi ≤ 4611686018427387904) && decide (x.hi < x.lo + 1099511627776) && x.weights.all fun w => decide (1 ≤ w) && decide (w ≤ 1000)
def firstE : List Val → Int
 | [] => 0
 | v :: r => if validV v ≠ 0 then validV v else firstE r
def ownN (x : Nd) : List Val := (if x.kind = 0 then [x.value] else []) ++ x.values
def nodeE (i : Int) (x : Nd) : Int :=
 if formedN i x = false then 1 else if firstE (ownN x) ≠ 0 then firstE (ownN x) else if numbersN x = false then 5 else 0
def atI (l : List Int) (k : Int) : Int := l.getD k.toNat 0
def sumK (before kids : List Int) : Int := kids.foldl (fun s k => s + atI before k) 0
def mostK (before kids : List Int) : Int := kids.foldl (fun s k => max s (atI before k)) 0
def armsN (x : Nd) : List Int := if x.kind = 2 then x.kids else x.kids.drop 1
def lenN (before : List Int) (x : Nd) : Int :=
 if x.kind = 0 then 0 else if x.kind = 1 then 1 else if x.kind = 3 then sumK before x.kids else if x.kind = 2 then 1 + mostK before (armsN x) else atI before (x.kids.getD 0 0) + mostK before (armsN x)
def sizN (before : List Int) (x : Nd) : Int :=
 if x.kind = 0 then sizeV x.value else if x.kind = 1 then 1 else if x.kind = 3 then 1 + sumK before x.kids else mostK before (armsN x)
structure Lst where
 vals : List Val
 many : Bool
def madeV (name : List UInt8) (kids : List Val) : Val := if name = [] then .mk 2 0 [] kids else .mk 3 0 name kids
def atL (l : List Lst) (k : Int) : Lst := l.getD k.toNat ⟨[], false⟩
def rangeV (lo hi : Int) : List Val := (List.range (hi + 1 - lo).toNat).map fun i : Nat => .mk 0 (lo + (i : Int)) [] []
def uniStep (before : List Lst) (x : List Val × Bool) (k : Int) : List Val × Bool :=
 (sortV (x.1 ++ (atL before k).vals), x.2 || (atL before k).many || decide (1024 < (sortV (x.1 ++ (atL before k).vals)).length))
def uniL (before : List Lst) (kids : List Int) : Lst :=
 if (kids.foldl (uniStep before) ([], false)).2 then ⟨[], true⟩ else ⟨(kids.foldl (uniStep before) ([], false)).1, false⟩
def rowsX (rows : List (List Val)) (l : List Val) : List (List Val) := rows.flatMap fun r => l.map fun v => r ++ [v]
def rowsL (before : List Lst) : List Int → List (List Val) → Option (List (List Val))
 | [], rows => some rows
 | k :: r, rows => if (atL before k).many = true ∨ 1024 < rows.length * (atL before k).vals.length then none else rowsL before r (rowsX rows (atL before k).vals)
def seqL (before : List Lst) (x : Nd) : Lst :=
 match rowsL before x.kids [[]] with
 | none => ⟨[], true⟩
 | some rows => ⟨sortV (rows.map (madeV x.name)), false⟩
def listN (x : Nd) (before : List Lst) : Lst :=
 if x.kind = 0 then ⟨[x.value], false⟩
 else if x.kind = 1 then (if 1024 ≤ x.hi - x.lo then ⟨[], true⟩ else ⟨rangeV x.lo x.hi, false⟩)
 else if x.kind = 3 then seqL before x
 else uniL before (if x.kind = 4 then x.kids.drop 1 else x.kids)
def listsT (nodes : List Nd) : List Lst := nodes.foldl (fun out x => out ++ [listN x out]) []
def sameVs : List Val → List Val → Bool
 | [], [] => true
 | a :: l, b :: m => decide (cmpV a b = 0) && sameVs l m
 | _, _ => false
def boundE (nodes : List Nd) (x : Nd) : Int :=
 let l := atL (listsT (nodes.take ((x.kids.getD 0 0).toNat + 1))) (x.kids.getD 0 0)
 if l.many = true then 4 else if sameVs l.vals x.values = true then 0 else 1
def stepE (before : List Nd) (ls ss : List Int) (x : Nd) : Int :=
 if nodeE before.length x ≠ 0 then nodeE before.length x
 else if 256 < lenN ls x ∨ 1024 < sizN ss x then 4
 else if x.kind = 4 then boundE before x else 0
def lensT (nodes : List Nd) : List Int := nodes.foldl (fun ls x => ls ++ [lenN ls x]) []
def sizsT (nodes : List Nd) : List Int := nodes.foldl (fun ls x => ls ++ [sizN ls x]) []
def validF : List Nd → List Nd → Int
 | _, [] => 0
 | before, x :: r => if stepE before (lensT before) (sizsT before) x ≠ 0 then stepE before (lensT before) (sizsT before) x else validF (before ++ [x]) r
def validT (nodes : List Nd) : Int := if 4096 < nodes.length then 4 else validF [] nodes
theorem validF_snoc : ∀ (b l : List Nd) (x : Nd), validF b l = 0 → validF b (l ++ [x]) = stepE (b ++ l) (lensT (b ++ l)) (sizsT (b ++ l)) x
 | b, [], x, h => by
  simp only [List.nil_append, validF, List.append_nil]
  split
  ·rfl
  ·rename_i h1; simpa using (Eq.symm (Decidable.not_not.1 h1))
 | b, y :: r, x, h => by
  simp only [List.cons_append, validF] at h ⊢
  split at h
  ·rename_i h1; exact absurd h h1
  ·rename_i h1
   rw [if_neg h1, validF_snoc (b ++ [y]) r x h]
   simp
theorem listsT_snoc (l : List Nd) (x : Nd) : listsT (l ++ [x]) = listsT l ++ [listN x (listsT l)] := by simp [listsT]
theorem kidsIn_iff {i : Int} {l : List Int} : kidsIn i l = true ↔ ∀ (j : Nat) (k : Int), l[j]? = some k → 0 ≤ k ∧ k < i := by
 simp only [kidsIn, List.all_eq_true, Bool.and_eq_true, decide_eq_true_eq]
 constructor
 ·intro h j k hj; exact h k (List.mem_of_getElem? hj)
 ·intro h k hk
  obtain ⟨j, hj⟩ := List.getElem?_of_mem hk
  exact h j k hj
end Go.Ax
namespace Go.Ax
open Go
def limN : Nat := 2 ^ 16384
def fits (z : Int) : Bool := decide (z.natAbs < limN)
structure Fr where
 p : Int
 q : Nat
def Fr.den (a : Fr) : Nat := if a.q = 0 then 1 else a.q
structure Can (a : Fr) : Prop where
 pos : 0 < a.q
 cop : Nat.Coprime a.p.natAbs a.q
end Go.Ax
namespace Go.Ax
open Go
theorem or_add {x y k : Nat} (h1 : 2 ^ k ∣ x) (h2 : y < 2 ^ k) : x ||| y = x + y := by
 obtain ⟨a, rfl⟩ := h1
 rw [Nat.mul_comm, ← Nat.shiftLeft_eq, ← Nat.shiftLeft_add_eq_or_of_lt h2]
end Go.Ax
namespace Go.Ax
section
variable {hit miss up lo low claim : Rat}
end
end Go.Ax
namespace Go.Ax
open Go
def valF (a : Fr) : Rat := (a.p : Rat) / ((a.q : Int) : Rat)
structure Sz (n : Nat) (a : Fr) : Prop where
 num : a.p.natAbs ≤ 2 ^ n
 pos : 0 < a.q
 den : a.q ≤ 2 ^ n
theorem Sz.mono {n m : Nat} {a : Fr} (h : Sz n a) (hm : n ≤ m) : Sz m a :=
 ⟨Nat.le_trans h.num (Nat.pow_le_pow_right (by omega) hm), h.pos, Nat.le_trans h.den (Nat.pow_le_pow_right (by omega) hm)⟩
def oneF : Fr := ⟨1, 1⟩
structure Tst where
 hit : Fr
 miss : Fr
 upper : Fr
 lower : Fr
 ratio : Fr
 verdict : Nat
 runs : Nat
 hits : Nat
structure TstIn (n : Nat) (t : Tst) : Prop where
 hit : Sz 12 t.hit
 miss : Sz 12 t.miss
 up : 0 < t.upper.q
 lo : 0 < t.lower.q
 ratio : Sz n t.ratio
structure TstOK (claim low alpha beta : Rat) (T : Tst) : Prop where
 sz : TstIn 0 T
 ver : T.verdict = 0
 rat : T.ratio = oneF
 low0 : 0 < low
 lowc : low < claim
 clm : claim ≤ 1
 alp : 0 < alpha
 bet : 0 < beta
 sum : alpha + beta < 1
 hit : valF T.hit * low = claim
 miss : valF T.miss * (1 - low) = 1 - claim
 up : valF T.upper * alpha = 1 - beta
 lo : valF T.lower * (1 - alpha) = beta
theorem fdiv_nat (a b : Nat) : ((a : Int).fdiv (b : Int)) = ((a / b : Nat) : Int) := by
 rw [Int.fdiv_eq_ediv_of_nonneg _ (by omega)]; rfl
theorem tdiv_nat (a b : Nat) : ((a : Int).tdiv (b : Int)) = ((a / b : Nat) : Int) := by
 rw [Int.tdiv_eq_ediv_of_nonneg (by omega)]; rfl
theorem shr32 {a : Nat} : ((a : Int).fdiv (2 ^ 32)) = ((a / 4294967296 : Nat) : Int) := fdiv_nat a 4294967296
def mixN (s w : Nat) : Nat :=
 let m := ((s ^^^ w) * 11400714819323198485) % 18446744073709551616
 m ^^^ (m / 4294967296)
theorem mixN_lt (s w : Nat) : mixN s w < 18446744073709551616 := by
 unfold mixN
 exact xor_lt64 (by omega) (by omega)
def wordN : List UInt8 → Nat
 | [] => 0
 | b :: r => b.toNat + 256 * wordN r
theorem wordN_lt : ∀ (l : List UInt8), wordN l < 256 ^ l.length
 | [] => by simp [wordN]
 | b :: r => by
  have := wordN_lt r
  have hb := b.toNat_lt
  simp only [wordN, List.length_cons, Nat.pow_succ]
  omega
theorem wordN_lt64 {l : List UInt8} (h : l.length ≤ 8) : wordN l < 18446744073709551616 := by
 have h1 := wordN_lt l
 have h2 : 256 ^ l.length ≤ 256 ^ 8 := Nat.pow_le_pow_right (by omega) h
 have h3 : (256 : Nat) ^ 8 = 18446744073709551616 := by decide
 omega
def wordsOf (b : List UInt8) : List Nat := (List.range ((b.length + 7) / 8)).map fun k => wordN ((b.drop (8 * k)).take 8)
theorem wordsOf_length (b : List UInt8) : (wordsOf b).length = (b.length + 7) / 8 := by simp [wordsOf]
theorem wordsOf_get {b : List UInt8} {k : Nat} (h : 8 * k < b.length) : (wordsOf b)[k]? = some (wordN ((b.drop (8 * k)).take 8)) := by
 unfold wordsOf
 rw [List.getElem?_map, List.getElem?_range (by omega)]
 rfl
theorem wordsOf_take {b : List UInt8} {k : Nat} (h : 8 * k < b.length) : (wordsOf b).take (k + 1) = (wordsOf b).take k ++ [wordN ((b.drop (8 * k)).take 8)] := by
 have hl : k < (wordsOf b).length := by rw [wordsOf_length]; omega
 rw [List.take_succ_eq_append_getElem hl]
 have := wordsOf_get h
 rw [List.getElem?_eq_getElem hl] at this
 rw [Option.some.inj this]
theorem wordsOf_lt {b : List UInt8} : ∀ w ∈ wordsOf b, w < 18446744073709551616 := fun w hw => by
 unfold wordsOf at hw
 obtain ⟨k, _, rfl⟩ := List.mem_map.1 hw
 exact wordN_lt64 (by simp; omega)
theorem wordN_step {b : List UInt8} {k hi : Nat} (h : k < hi) (hb : hi ≤ b.length) : ∃ h' : k < b.length, wordN ((b.drop k).take (hi - k)) = (b[k]'h').toNat + 256 * wordN ((b.drop (k + 1)).take (hi - (k + 1))) := by
 have h' : k < b.length := by omega
 refine ⟨h', ?_⟩
 rw [List.drop_eq_getElem_cons h', show hi - k = (hi - (k + 1)) + 1 by omega, List.take_succ_cons]
 rfl
theorem mix_go {s w : Nat} (hs : s < 18446744073709551616) (hw : w < 18446744073709551616) :
  bits .xor .u64 (IntKind.u64.wrap (bits .xor .u64 (s : Int) (w : Int) * 11400714819323198485)) ((IntKind.u64.wrap (bits .xor .u64 (s : Int) (w : Int) * 11400714819323198485)).fdiv (2 ^ 32)) = (mixN s w : Int) := by
 have hx := xor_lt64 hs hw
 have e : IntKind.u64.wrap (bits .xor .u64 (s : Int) (w : Int) * 11400714819323198485) = ((((s ^^^ w) * 11400714819323198485) % 18446744073709551616 : Nat) : Int) := by
  rw [bits_xor hs hw, wrap_u64_mod]; omega
 rw [e, shr32, bits_xor (by omega) (by omega)]
 rfl
theorem mix_ref {s w : Nat} (hs : s < 18446744073709551616) (hw : w < 18446744073709551616) :
  bits .xor .u64 (IntKind.u64.wrap (bits .xor .u64 (s : Int) (w : Int) * 11400714819323198485)) (IntKind.u64.wrap ((IntKind.u64.wrap (bits .xor .u64 (s : Int) (w : Int) * 11400714819323198485)).tdiv 4294967296)) = (mixN s w : Int) := by
 have hx := xor_lt64 hs hw
 have e : IntKind.u64.wrap (bits .xor .u64 (s : Int) (w : Int) * 11400714819323198485) = ((((s ^^^ w) * 11400714819323198485) % 18446744073709551616 : Nat) : Int) := by
  rw [bits_xor hs hw, wrap_u64_mod]; omega
 rw [e, show (4294967296 : Int) = ((4294967296 : Nat) : Int) by rfl, tdiv_nat, wrap_u64 (by omega) (by omega), bits_xor (by omega) (by omega)]
 rfl
theorem word_go {x w : Nat} (hx : x < 256) (hw : w < 72057594037927936) : bits .or .u64 (IntKind.u64.wrap ((w : Int) * 2 ^ (min (8 : Int).toNat IntKind.u64.bits))) (x : Int) = ((x + 256 * w : Nat) : Int) := by
 have e1 : min (8 : Int).toNat IntKind.u64.bits = 8 := by decide
 rw [e1, show (w : Int) * 2 ^ 8 = ((w * 256 : Nat) : Int) by rw [Int.natCast_mul]; rfl, wrap_u64 (by omega) (by omega), bits_or (by omega) (by omega)]
 congr 1
 rw [or_add (k := 8) ⟨w, by omega⟩ (by omega)]
 omega
theorem word_ref {x w : Nat} (hx : x < 256) (hw : w < 72057594037927936) : IntKind.u64.wrap (IntKind.u64.wrap (256 * (w : Int)) + (x : Int)) = ((x + 256 * w : Nat) : Int) := by
 rw [wrap_u64 (n := 256 * (w : Int)) (by omega) (by omega), wrap_u64 (by omega) (by omega)]; omega
theorem wordN_lt7 {l : List UInt8} (h : l.length ≤ 7) : wordN l < 72057594037927936 := by
 have h1 := wordN_lt l
 have h2 : 256 ^ l.length ≤ 256 ^ 7 := Nat.pow_le_pow_right (by omega) h
 have h3 : (256 : Nat) ^ 7 = 72057594037927936 := by decide
 omega
def intW (w : Nat) : Int := IntKind.i64.wrap w
def u64N (i : Int) : Nat := (i % 18446744073709551616).toNat
theorem u64N_lt (i : Int) : u64N i < 18446744073709551616 := by unfold u64N; omega
theorem u64N_wrap (i : Int) : IntKind.u64.wrap i = (u64N i : Int) := by unfold u64N; rw [wrap_u64_mod]; omega
theorem foldl_snoc {α β : Type} (f : β → α → β) (l : List α) (a : α) (b : β) : (l ++ [a]).foldl f b = f (l.foldl f b) a := by rw [List.foldl_append]; rfl
def sumN (label : List UInt8) (ws : List Int) : Nat :=
 mixN (ws.foldl (fun s w => mixN s (u64N w)) (mixN (mixN ((wordsOf label).foldl mixN 0) label.length) ws.length)) 0
def bytesN (label b : List UInt8) : Nat := sumN label ((wordsOf b).map intW ++ [(b.length : Int)])
theorem foldl_mix_lt (ws : List Nat) : ∀ s, s < 18446744073709551616 → ws.foldl mixN s < 18446744073709551616 := by
 induction ws with
 | nil => exact fun s h => h
 | cons a r ih => exact fun s _ => ih _ (mixN_lt _ _)
theorem foldl_mixI_lt (ws : List Int) : ∀ s, s < 18446744073709551616 → ws.foldl (fun s w => mixN s (u64N w)) s < 18446744073709551616 := by
 induction ws with
 | nil => exact fun s h => h
 | cons a r ih => exact fun s _ => ih _ (mixN_lt _ _)
structure DRes where
 val : Val
 ok : Bool
 rd : Rd
 parts : Nat
structure DKids where
 vals : List Val
 ok : Bool
 rd : Rd
 parts : Nat
def dKids (rec : Rd → Nat → DRes) : Nat → List Val → Rd → Nat → DKids
 | 0, acc, x, p => ⟨acc, true, x, p⟩
 | m + 1, acc, x, p => if (rec x p).ok = true then dKids rec m (acc ++ [(rec x p).val]) (rec x p).rd (rec x p).parts else ⟨acc, false, (rec x p).rd, (rec x p).parts⟩
def dMore (rec : Rd → Nat → DRes) (k : Int) (s : List UInt8) (x : Rd) (p : Nat) : DRes :=
 if (intR x).1 < 0 ∨ 256 < (intR x).1 then ⟨.mk k 0 s [], false, (intR x).2, p⟩
 else ⟨.mk k 0 s (dKids rec (intR x).1.toNat [] (intR x).2 p).vals, (dKids rec (intR x).1.toNat [] (intR x).2 p).ok, (dKids rec (intR x).1.toNat [] (intR x).2 p).rd, (dKids rec (intR x).1.toNat [] (intR x).2 p).parts⟩
def dStep (rec : Rd → Nat → DRes) (x : Rd) (p : Nat) : DRes :=
 if 1024 < p + 1 then ⟨.mk 0 0 [] [], false, x, p + 1⟩
 else if (intR x).1 = 0 then ⟨.mk 0 (intR (intR x).2).1 [] [], true, (intR (intR x).2).2, p + 1⟩
 else if (intR x).1 = 1 then ⟨.mk 1 (if (boolR (intR x).2).1 = true then 1 else 0) [] [], true, (boolR (intR x).2).2, p + 1⟩
 else if (intR x).1 = 2 then dMore rec 2 [] (intR x).2 (p + 1)
 else if (intR x).1 = 3 then dMore rec 3 (textR (intR x).2).1 (textR (intR x).2).2 (p + 1)
 else ⟨.mk (intR x).1 0 [] [], false, (intR x).2, p + 1⟩
def dVal : Nat → Rd → Nat → DRes
 | 0 => fun x p => ⟨.mk 0 0 [] [], false, x, p⟩
 | f + 1 => dStep (dVal f)
structure DGood (x : Rd) (p : Nat) (r : DRes) : Prop where
 le : r.rd.1.length ≤ x.1.length
 ok : x.1.length ≤ 1000000000 → okV r.val
 size : r.ok = true → p + sizeV r.val = r.parts
 parts : p ≤ 1024 → r.parts ≤ 1025
 good : r.ok = true → p ≤ 1024 → r.parts ≤ 1024
structure KGood (x : Rd) (p : Nat) (acc : List Val) (m : Nat) (r : DKids) : Prop where
 le : r.rd.1.length ≤ x.1.length
 ok : x.1.length ≤ 1000000000 → okVs acc → okVs r.vals
 len : r.vals.length ≤ acc.length + m
 size : r.ok = true → p + sizeL r.vals = r.parts + sizeL acc
 parts : p ≤ 1024 → r.parts ≤ 1025
 good : r.ok = true → p ≤ 1024 → r.parts ≤ 1024
theorem uintR_of {u : Nat} (h : u < 18446744073709551616) (t : List UInt8) : uintR (uvar u ++ t, 0) = (u, (t, 0)) := by
 unfold uintR
 simp only [if_true]
 rw [uGo_of t h]
theorem intR_of {n : Int} (h : i64 n) (t : List UInt8) : intR (encInt n ++ t, 0) = (n, (t, 0)) := by
 unfold intR encInt
 rw [uintR_of (zig_lt h), zag_zig]
theorem textR_of {s : List UInt8} (h : s.length < 18446744073709551616) (t : List UInt8) : textR (uvar s.length ++ s ++ t, 0) = (s, (t, 0)) := by
 have e : lenR (uvar s.length ++ s ++ t, 0) = (s.length, (s ++ t, 0)) := by
  unfold lenR
  rw [List.append_assoc, uintR_of h]
  simp
 unfold textR
 rw [e]
 simp
theorem dKids_of {rec : Rd → Nat → DRes} : ∀ (l acc : List Val) (t : List UInt8) (p : Nat),
  (∀ (i : Nat) (v : Val) (t' : List UInt8), l[i]? = some v → rec (codeV v ++ t', 0) (p + sizeL (l.take i)) = ⟨v, true, (t', 0), p + sizeL (l.take i) + sizeV v⟩) →
  dKids rec l.length acc (codeL l ++ t, 0) p = ⟨acc ++ l, true, (t, 0), p + sizeL l⟩
 | [], acc, t, p, _ => by simp [dKids, codeL, sizeL]
 | v :: r, acc, t, p, h => by
  have h0 := h 0 v (codeL r ++ t) rfl
  simp only [List.take_zero, sizeL, Nat.add_zero] at h0
  simp only [List.length_cons, dKids, codeL, List.append_assoc]
  rw [h0]
  simp only [if_true]
  rw [dKids_of r (acc ++ [v]) t (p + sizeV v) (fun i x t' hi => by
   have := h (i + 1) x t' (by simpa using hi)
   simp only [List.take_succ_cons, sizeL] at this
   rw [show p + sizeV v + sizeL (r.take i) = p + (sizeV v + sizeL (r.take i)) by omega]
   exact this)]
  simp [sizeL]
  omega
theorem fitsL_mem : ∀ {l : List Val}, fitsL l = true → ∀ {v : Val}, v ∈ l → fitsV v = true
 | a :: r, h, v, hv => by
  simp only [fitsL, Bool.and_eq_true] at h
  rcases List.mem_cons.1 hv with rfl | hv
  ·exact h.1
  ·exact fitsL_mem h.2 hv
theorem dVal_code : ∀ (v : Val) (f p : Nat) (t : List UInt8), okV v → formedV v = true → fitsV v = true → p + sizeV v ≤ 1024 → 1025 ≤ f + p → dVal f (codeV v ++ t, 0) p = ⟨v, true, (t, 0), p + sizeV v⟩
 | .mk k n s kids, f, p, t, ho, hf, hw, hp, hfp => by
  simp only [okV] at ho
  simp only [formedV, Bool.and_eq_true] at hf
  simp only [fitsV, Bool.and_eq_true] at hw
  simp only [sizeV] at hp
  obtain ⟨g, rfl⟩ : ∃ g, f = g + 1 := ⟨f - 1, by omega⟩
  have h1 := hf.1
  have hkl : kids.length ≤ 256 := by have := hw.1; unfold fits1 at this; simp at this; omega
  have hrec : ∀ (q : Nat), p + 1 = q → ∀ (i : Nat) (v : Val) (t' : List UInt8), kids[i]? = some v → dVal g (codeV v ++ t', 0) (q + sizeL (kids.take i)) = ⟨v, true, (t', 0), q + sizeL (kids.take i) + sizeV v⟩ := by
   intro q hq i v t' hi
   have hil := (List.getElem?_eq_some_iff.1 hi).1
   have hm := List.mem_of_getElem? hi
   have hs := sizeL_take (l := kids) (k := i) hil
   have hs2 := sizeL_take_le kids (i + 1)
   have e : kids[i] = v := by rw [List.getElem?_eq_getElem hil] at hi; exact Option.some.inj hi
   rw [e] at hs
   exact dVal_code v g (q + sizeL (kids.take i)) t' (okVs_mem ho.2.2.2.2 v hm) (formedL_in hf.2 hm) (fitsL_mem hw.2 hm) (by omega) (by omega)
  have hmore : ∀ (kk : Int) (ss : List UInt8), dMore (dVal g) kk ss (encInt kids.length ++ (codeL kids ++ t), 0) (p + 1) = ⟨.mk kk 0 ss kids, true, (t, 0), p + (1 + sizeL kids)⟩ := by
   intro kk ss
   have e := dKids_of (rec := dVal g) kids [] t (p + 1) (hrec (p + 1) rfl)
   unfold dMore
   rw [intR_of (i64_nat (by omega))]
   simp only
   rw [if_neg (by omega), Int.toNat_natCast, e]
   simp
   omega
  show dStep (dVal g) _ p = _
  unfold dStep
  rw [if_neg (by omega), codeV, List.append_assoc, intR_of ho.1]
  simp only
  unfold formed1 at h1
  by_cases k0 : k = 0
  ·subst k0
   rw [if_pos rfl] at h1 ⊢
   simp only [Bool.and_eq_true, decide_eq_true_eq] at h1
   obtain ⟨rfl, h2⟩ := h1
   obtain rfl : kids = [] := List.length_eq_zero_iff.1 h2
   simp only [if_true]
   rw [intR_of ho.2.1]
   simp [sizeV, sizeL]
  ·rw [if_neg k0] at h1
   rw [if_neg k0, if_neg k0]
   by_cases k1 : k = 1
   ·subst k1
    rw [if_pos rfl] at h1
    rw [if_pos rfl, if_pos rfl]
    simp only [Bool.and_eq_true, decide_eq_true_eq, Bool.or_eq_true] at h1
    obtain ⟨⟨hn, rfl⟩, h2⟩ := h1
    obtain rfl : kids = [] := List.length_eq_zero_iff.1 h2
    rcases hn with rfl | rfl <;> simp [boolR, sizeV, sizeL]
   ·rw [if_neg k1] at h1
    rw [if_neg k1, if_neg k1]
    by_cases k2 : k = 2
    ·subst k2
     rw [if_pos rfl] at h1
     simp only [Bool.and_eq_true, decide_eq_true_eq] at h1
     obtain ⟨rfl, rfl⟩ := h1
     rw [if_pos rfl, if_neg (by omega), List.nil_append, List.append_assoc, hmore]
     rfl
    ·rw [if_neg k2] at h1
     rw [if_neg k2]
     split at h1
     ·rename_i k3
      subst k3
      simp only [Bool.and_eq_true, decide_eq_true_eq] at h1
      obtain ⟨rfl, hc⟩ := h1
      rw [if_pos rfl, if_pos rfl]
      have e : uvar s.length ++ s ++ (encInt kids.length ++ codeL kids) ++ t = uvar s.length ++ s ++ (encInt kids.length ++ (codeL kids ++ t)) := by simp
      rw [e, textR_of (by omega)]
      simp only
      rw [hmore]
      rfl
     ·cases h1
termination_by v f p t => SizeOf.sizeOf v
decreasing_by
 have := List.sizeOf_lt_of_mem (List.mem_of_getElem? hi)
 simp
 omega
def decodeR (b : List UInt8) : Val × Int := if (dVal 1025 (b, 0) 0).ok = true ∧ (dVal 1025 (b, 0) 0).rd = ([], 0) ∧ validV (dVal 1025 (b, 0) 0).val = 0 then ((dVal 1025 (b, 0) 0).val, 0) else (.mk 0 0 [] [], 2)
theorem decode_code {v : Val} (ho : okV v) (h : validV v = 0) : decodeR (codeV v) = (v, 0) := by
 obtain ⟨h1, h2, h3⟩ := valid_fits h
 have e := dVal_code v 1025 0 [] ho h1 h2 (by omega) (by omega)
 rw [List.append_nil] at e
 unfold decodeR
 rw [e]
 simp [h]
theorem wideL_of {l : List Val} (h : ∀ v ∈ l, wideV v = false) : wideL l = false := by
 induction l with
 | nil => rfl
 | cons a l ih => simp only [wideL, Bool.or_eq_false_iff]; exact ⟨h a (List.mem_cons_self ..), ih fun v hv => h v (List.mem_cons_of_mem _ hv)⟩
theorem genV_wide : ∀ {d : Nat} {v : Val}, genV d v → wideV v = false
 | 0, .mk k n s kids, h => by
  simp only [genV] at h
  obtain ⟨h1, rfl⟩ := h
  simp [wideV, wideL, wide1]
 | d + 1, .mk k n s kids, h => by
  simp only [genV] at h
  obtain ⟨h1, h2, h3⟩ := h
  simp only [wideV, Bool.or_eq_false_iff]
  exact ⟨by simp [wide1]; omega, wideL_of fun v hv => genV_wide (h3 v hv)⟩
theorem genV_valid {v : Val} (h : genV 3 v) : validV v = 0 := by
 have h1 := genV_formed h
 have h2 := genV_wide h
 have h3 := genV_size h
 unfold validV
 rw [if_neg (by rw [h1]; simp), if_neg (by rw [h2]; simp; omega)]
theorem code_inj {a b : Val} (ha : okV a) (hb : okV b) (va : validV a = 0) (vb : validV b = 0) (h : codeV a = codeV b) : a = b := by
 have h1 := decode_code ha va
 have h2 := decode_code hb vb
 rw [h, h2] at h1
 exact (congrArg Prod.fst h1).symm
theorem print_inj {a b : Val} (ha : okV a) (hb : okV b) (va : validV a = 0) (vb : validV b = 0) (h : printV a = printV b) : a = b := by
 have h1 := parse_print ha va
 have h2 := parse_print hb vb
 rw [h, h2] at h1
 injection h1 with h1
 exact (congrArg Prod.fst h1).symm
end Go.Ax
namespace Go.Ax
open Go
theorem uni_bound {bs : List Lst} (hb : ∀ b ∈ bs, b.vals.length ≤ 1024 ∧ ∀ v ∈ b.vals, okV v) : ∀ (l : List Int) (a : List Val × Bool) (n : Nat), a.1.length ≤ n → (∀ v ∈ a.1, okV v) →
  (l.foldl (uniStep bs) a).1.length ≤ n + l.length * 1024 ∧ ∀ v ∈ (l.foldl (uniStep bs) a).1, okV v
 | [], a, n, h1, h2 => ⟨by simpa using h1, h2⟩
 | q :: r, a, n, h1, h2 => by
  have hq : (atL bs q).vals.length ≤ 1024 ∧ ∀ v ∈ (atL bs q).vals, okV v := by
   unfold atL
   rw [List.getD_eq_getElem?_getD]
   cases hc : bs[q.toNat]? with
   | none => simp
   | some b => exact hb b (List.mem_of_getElem? hc)
  have hs := sortV_length (a.1 ++ (atL bs q).vals)
  simp only [List.length_append] at hs
  have := uni_bound hb r (uniStep bs a q) (n + 1024) (by simp only [uniStep]; omega) (fun v hv => by
   have := sortV_mem hv
   rcases List.mem_append.1 this with h | h
   ·exact h2 v h
   ·exact hq.2 v h)
  simp only [List.foldl_cons, List.length_cons]
  refine ⟨by have := this.1; omega, this.2⟩
theorem snoc_ind {α : Type} {P : List α → Prop} (h0 : P []) (h1 : ∀ (l : List α) (x : α), P l → P (l ++ [x])) (l : List α) : P l := by
 rw [← List.reverse_reverse l]
 induction l.reverse with
 | nil => exact h0
 | cons a r ih => rw [List.reverse_cons]; exact h1 _ _ ih
structure GoodN (i : Nat) (x : Nd) : Prop where
 ok : okN x
 kind : 0 ≤ x.kind ∧ x.kind ≤ 4
 kids : ∀ (j : Nat) (k : Int), x.kids[j]? = some k → 0 ≤ k ∧ k < i
 klen : x.kids.length ≤ 65536
 num : numbersN x = true
def GoodL (bs : List Lst) : Prop := ∀ b ∈ bs, b.vals.length ≤ 1024 ∧ ∀ v ∈ b.vals, okV v
theorem numbersN_range {x : Nd} (h : numbersN x = true) : x.lo ≤ x.hi ∧ -4611686018427387904 ≤ x.lo ∧ x.hi ≤ 4611686018427387904 ∧ x.hi < x.lo + 1099511627776 := by
 unfold numbersN at h
 simp only [Bool.and_eq_true, decide_eq_true_eq] at h
 exact ⟨h.1.1.1.1, h.1.1.1.2, h.1.1.2, h.1.2⟩
theorem rowsX_mem {rows : List (List Val)} {l : List Val} {r : List Val} (h : r ∈ rowsX rows l) : ∃ r' ∈ rows, ∃ v ∈ l, r = r' ++ [v] := by
 simp only [rowsX, List.mem_flatMap, List.mem_map] at h
 obtain ⟨r', h1, v, h2, rfl⟩ := h
 exact ⟨r', h1, v, h2, rfl⟩
theorem rowsX_len (l : List Val) : ∀ rows : List (List Val), (rowsX rows l).length = rows.length * l.length
 | [] => by simp [rowsX]
 | r :: rs => by
  have := rowsX_len l rs
  simp only [rowsX, List.flatMap_cons, List.length_append, List.length_map, List.length_cons, Nat.add_mul, Nat.one_mul] at this ⊢
  omega
theorem atL_good {bs : List Lst} (hb : GoodL bs) (k : Int) : (atL bs k).vals.length ≤ 1024 ∧ ∀ v ∈ (atL bs k).vals, okV v := by
 unfold atL
 rw [List.getD_eq_getElem?_getD]
 cases h : bs[k.toNat]? with
 | none => simp
 | some b => exact hb b (List.mem_of_getElem? h)
theorem rowsL_good {bs : List Lst} (hb : GoodL bs) : ∀ (kids : List Int) (rows out : List (List Val)) (n : Nat), rows.length ≤ 1024 → (∀ r ∈ rows, r.length ≤ n ∧ ∀ v ∈ r, okV v) → rowsL bs kids rows = some out → out.length ≤ 1024 ∧ ∀ r ∈ out, r.length ≤ n + kids.length ∧ ∀ v ∈ r, okV v
 | [], rows, out, n, h1, h2, h => by
  simp only [rowsL] at h
  cases h
  exact ⟨h1, fun r hr => ⟨by simpa using (h2 r hr).1, (h2 r hr).2⟩⟩
 | k :: ks, rows, out, n, h1, h2, h => by
  simp only [rowsL] at h
  split at h
  ·cases h
  ·rename_i hc
   rw [not_or] at hc
   have hg := atL_good hb k
   obtain ⟨a, b⟩ := rowsL_good hb ks _ out (n + 1) (by rw [rowsX_len]; omega) (fun r hr => by
    obtain ⟨r', h3, v, h4, rfl⟩ := rowsX_mem hr
    refine ⟨by have := (h2 r' h3).1; simp; omega, fun u hu => ?_⟩
    rcases List.mem_append.1 hu with hu | hu
    ·exact (h2 r' h3).2 u hu
    ·simp at hu; rw [hu]; exact hg.2 v h4) h
   exact ⟨a, fun r hr => ⟨by have := (b r hr).1; simp; omega, (b r hr).2⟩⟩
theorem madeV_okV {name : List UInt8} (hn : name.length ≤ 4294967296) {r : List Val} (hr : r.length ≤ 4294967296) (ho : ∀ v ∈ r, okV v) : okV (madeV name r) := by
 unfold madeV
 split
 ·exact okV_list ⟨by omega, by omega⟩ ⟨by omega, by omega⟩ (by simp) hr (okVs_of ho)
 ·exact okV_list ⟨by omega, by omega⟩ ⟨by omega, by omega⟩ hn hr (okVs_of ho)
theorem uni_short {bs : List Lst} : ∀ (l : List Int) (a : List Val × Bool), (a.2 = false → a.1.length ≤ 1024) → (l.foldl (uniStep bs) a).2 = false → (l.foldl (uniStep bs) a).1.length ≤ 1024
 | [], a, h, h2 => h h2
 | k :: r, a, h, h2 => by
  refine uni_short r (uniStep bs a k) (fun h3 => ?_) h2
  simp only [uniStep, Bool.or_eq_false_iff, decide_eq_false_iff_not] at h3 ⊢
  omega
theorem listN_good {x : Nd} {i : Nat} {bs : List Lst} (hx : GoodN i x) (hb : GoodL bs) : (listN x bs).vals.length ≤ 1024 ∧ ∀ v ∈ (listN x bs).vals, okV v := by
 unfold listN
 have hnum := numbersN_range hx.num
 split
 ·exact ⟨by simp, fun v hv => by simp at hv; rw [hv]; exact hx.ok.value⟩
 ·split
  ·split
   ·simp
   ·refine ⟨by simp [rangeV]; omega, fun v hv => ?_⟩
    simp only [rangeV, List.mem_map, List.mem_range] at hv
    obtain ⟨j, hj, rfl⟩ := hv
    exact okV_leaf ⟨by omega, by omega⟩ ⟨by omega, by omega⟩
  ·split
   ·unfold seqL
    split
    ·simp
    ·rename_i rows hr
     obtain ⟨h1, h2⟩ := rowsL_good hb x.kids [[]] rows 0 (by simp) (by simp) hr
     refine ⟨by have := sortV_length (rows.map (madeV x.name)); simp at this ⊢; omega, fun v hv => ?_⟩
     have := sortV_mem hv
     obtain ⟨r, hr2, rfl⟩ := List.mem_map.1 this
     have h3 := h2 r hr2
     have := hx.klen
     exact madeV_okV hx.ok.name (by omega) h3.2
   ·generalize (if x.kind = 4 then x.kids.drop 1 else x.kids) = ks
    unfold uniL
    split
    ·simp
    ·rename_i hm
     have hm : (ks.foldl (uniStep bs) ([], false)).2 = false := by simpa using hm
     exact ⟨uni_short _ _ (by simp) hm, (uni_bound hb _ ([], false) 0 (by simp) (by simp)).2⟩
theorem listsT_good (l : List Nd) : (∀ (i : Nat) (x : Nd), l[i]? = some x → GoodN i x) → GoodL (listsT l) := by
 refine snoc_ind (P := fun l => (∀ (i : Nat) (x : Nd), l[i]? = some x → GoodN i x) → GoodL (listsT l)) (fun _ b hb => by simp [listsT] at hb) (fun l x ih h => ?_) l
 have h1 := ih fun i y hy => h i y (by
  have := (List.getElem?_eq_some_iff.1 hy).1
  rw [List.getElem?_append_left this]; exact hy)
 have h2 := h l.length x (by simp)
 rw [listsT_snoc]
 intro b hb
 rcases List.mem_append.1 hb with hb | hb
 ·exact h1 b hb
 ·simp at hb; rw [hb]; exact listN_good h2 h1
theorem validF_pre {l r : List Nd} (h : validF [] (l ++ r) = 0) : validF [] l = 0 := by
 have key : ∀ (l b : List Nd), validF b (l ++ r) = 0 → validF b l = 0 := by
  intro l
  induction l with
  | nil => intro b _; rfl
  | cons y l ih =>
   intro b h
   simp only [List.cons_append, validF] at h ⊢
   split at h
   ·rename_i h1; exact absurd h h1
   ·rename_i h1
    rw [if_neg h1]
    exact ih _ h
 exact key l [] h
theorem sameVs_lenE : ∀ {l m : List Val}, sameVs l m = true → l.length = m.length
 | [], [], _ => rfl
 | a :: l, b :: m, h => by
  simp only [sameVs, Bool.and_eq_true] at h
  simp [sameVs_lenE h.2]
 | [], b :: m, h => by simp [sameVs] at h
 | a :: l, [], h => by simp [sameVs] at h
structure NodeOK (i : Nat) (x : Nd) : Prop where
 kind : 0 ≤ x.kind ∧ x.kind ≤ 4
 kids : ∀ (j : Nat) (k : Int), x.kids[j]? = some k → 0 ≤ k ∧ k < i
 num : numbersN x = true
 klen : x.kind ≠ 4 → x.kids.length ≤ 256
 bind : x.kind = 4 → x.kids.length = x.values.length + 1
theorem node_ok {i : Nat} {x : Nd} (h : nodeE i x = 0) : NodeOK i x := by
 unfold nodeE at h
 split at h
 ·omega
 ·rename_i hf
  split at h
  ·rename_i h1; exact absurd h h1
  ·split at h
   ·omega
   ·rename_i hn
    have hn : numbersN x = true := by simpa using hn
    have hf : formedN i x = true := by simpa using hf
    unfold formedN at hf
    simp only [Bool.and_eq_true, Bool.or_eq_true, decide_eq_true_eq] at hf
    obtain ⟨⟨⟨⟨⟨⟨hu, hk⟩, hki⟩, h2⟩, h3⟩, h4⟩, _⟩ := hf
    refine ⟨hk, kidsIn_iff.1 hki, hn, fun hne => ?_, fun he => by omega⟩
    unfold unusedN at hu
    simp only [Bool.and_eq_true, Bool.or_eq_true, decide_eq_true_eq] at hu
    rcases (show x.kind = 0 ∨ x.kind = 1 ∨ x.kind = 2 ∨ x.kind = 3 by omega) with e | e | e | e
    ·have := hu.2; omega
    ·have := hu.2; omega
    ·rcases h2 with h2 | h2
     ·omega
     ·exact h2.1.1.2
    ·rcases h3 with h3 | h3
     ·omega
     ·exact h3.1
theorem step_parts {before : List Nd} {ls ss : List Int} {x : Nd} (h : stepE before ls ss x = 0) : nodeE before.length x = 0 ∧ lenN ls x ≤ 256 ∧ sizN ss x ≤ 1024 ∧ (x.kind = 4 → boundE before x = 0) := by
 unfold stepE at h
 split at h
 ·rename_i h1; exact absurd h h1
 ·rename_i h1
  split at h
  ·omega
  ·rename_i h2
   rw [not_or] at h2
   refine ⟨by simpa using h1, by omega, by omega, fun e => ?_⟩
   rw [if_pos e] at h
   exact h
theorem getElem_take_some {α : Type} {l : List α} {n i : Nat} {x : α} (h : (l.take n)[i]? = some x) : l[i]? = some x ∧ i < n := by
 rw [List.getElem?_take] at h
 split at h
 ·rename_i hi; exact ⟨h, hi⟩
 ·cases h
theorem bound_len {before : List Nd} {x : Nd} (hg : ∀ (j : Nat) (y : Nd), before[j]? = some y → GoodN j y) (h : boundE before x = 0) : x.values.length ≤ 1024 := by
 unfold boundE at h
 simp only at h
 split at h
 ·omega
 ·split at h
  ·rename_i hs
   have := sameVs_lenE hs
   have hgl := listsT_good (before.take ((x.kids.getD 0 0).toNat + 1)) fun i y hy => hg i y (getElem_take_some hy).1
   have := (atL_good hgl (x.kids.getD 0 0)).1
   omega
  ·omega
theorem step_good {before : List Nd} {ls ss : List Int} {x : Nd} (hg : ∀ (j : Nat) (y : Nd), before[j]? = some y → GoodN j y) (ho : okN x) (h : stepE before ls ss x = 0) : GoodN before.length x := by
 obtain ⟨h1, h2, h3, h4⟩ := step_parts h
 have hn := node_ok h1
 refine ⟨ho, hn.kind, hn.kids, ?_, hn.num⟩
 by_cases e : x.kind = 4
 ·have := hn.bind e
  have := bound_len hg (h4 e)
  omega
 ·have := hn.klen e
  omega
theorem valid_good (ns : List Nd) (ho : ∀ x ∈ ns, okN x) (h : validF [] ns = 0) : ∀ (j : Nat) (x : Nd), ns[j]? = some x → GoodN j x := by
 refine snoc_ind (P := fun ns => (∀ x ∈ ns, okN x) → validF [] ns = 0 → ∀ (j : Nat) (x : Nd), ns[j]? = some x → GoodN j x) (fun _ _ j x hx => by simp at hx) (fun l x ih ho h => ?_) ns ho h
 have h1 := validF_pre h
 have ih := ih (fun y hy => ho y (List.mem_append_left _ hy)) h1
 have hs := validF_snoc [] l x h1
 rw [h] at hs
 simp only [List.nil_append] at hs
 have hg := step_good ih (ho x (by simp)) hs.symm
 intro j y hy
 rcases Nat.lt_or_ge j l.length with hj | hj
 ·rw [List.getElem?_append_left hj] at hy
  exact ih j y hy
 ·rw [List.getElem?_append_right hj] at hy
  have e : j - l.length = 0 := by
   have := (List.getElem?_eq_some_iff.1 hy).1
   simp at this
   omega
  rw [e] at hy
  simp at hy
  subst hy
  obtain rfl : j = l.length := by omega
  exact hg
def abcd : List (List UInt8) := [[97], [98], [99], [100]]
structure GenN (x : Nd) : Prop where
 ok : okN x
 vals : x.values.length ≤ 1024
 labels : ∀ s ∈ x.labels, s ∈ abcd
 seq : x.kind = 3 → x.kids.length ≤ 3
structure TreeOK (ns : List Nd) : Prop where
 valid : validF [] ns = 0
 gen : ∀ x ∈ ns, GenN x
theorem TreeOK.ok {ns : List Nd} (h : TreeOK ns) : ∀ x ∈ ns, okN x := fun x hx => (h.gen x hx).ok
theorem TreeOK.good {ns : List Nd} (h : TreeOK ns) : ∀ (j : Nat) (x : Nd), ns[j]? = some x → GoodN j x := valid_good ns h.ok h.valid
theorem TreeOK.snoc {ns : List Nd} {x : Nd} (h : TreeOK ns) (hl : ns.length ≤ 1000) (hx : GenN x) (hv : validT (ns ++ [x]) = 0) : TreeOK (ns ++ [x]) := by
 unfold validT at hv
 rw [if_neg (by simp; omega)] at hv
 refine ⟨hv, fun y hy => ?_⟩
 rcases List.mem_append.1 hy with hy | hy
 ·exact h.gen y hy
 ·simp at hy; rw [hy]; exact hx
end Go.Ax
namespace Go.Ax
open Go
mutual
theorem valEq : ∀ (a b : Val), cmpV a b = 0 → a = b
 | .mk k n s ks, .mk k' n' s' ks', h => by
  simp only [cmpV, andThen] at h
  split at h
  ·rename_i h1
   split at h
   ·rename_i h2
    split at h
    ·rename_i h3
     have e1 : k = k' := Decidable.byContradiction fun e => cmpI_nz e h1
     have e2 : n = n' := Decidable.byContradiction fun e => cmpI_nz e h2
     rw [e1, e2, cmpS_zero h3, valsEq ks ks' h]
    ·rename_i h3; exact absurd h h3
   ·rename_i h2; exact absurd h h2
  ·rename_i h1; exact absurd h h1
theorem valsEq : ∀ (l m : List Val), cmpL l m = 0 → l = m
 | [], [], _ => rfl
 | [], _ :: _, h => by simp [cmpL] at h
 | _ :: _, [], h => by simp [cmpL] at h
 | a :: l, b :: m, h => by
  simp only [cmpL, andThen] at h
  split at h
  ·rename_i h1; rw [valEq a b h1, valsEq l m h]
  ·rename_i h1; exact absurd h h1
end
def rowAt : List (List Val) → Nat → List Val
 | [], _ => []
 | l :: r, k => rowAt r (k / l.length) ++ (l[k % l.length]?).toList
theorem cmpV_self (a : Val) : cmpV a a = 0 := (cmpV_good a).refl
def tauOK (σ : List (Nat × Nat)) (ns nx n' : Nat) : List (Nat × Nat) → Bool
 | [] => true
 | (i, id) :: r => (match Nat.blt i ns with
   | true => match lk σ id with
    | some j => Nat.beq j i
    | none => false
   | false => Nat.ble nx id && Nat.blt id n') && tauOK σ ns nx n' r
def keysOr (ids : List Nat) (nx : Nat) : Mem → Bool
 | [] => true
 | (k, _) :: r => (match Nat.ble nx k with
   | true => true
   | false => inL k ids) && keysOr ids nx r
theorem tauOK_sound {σ : List (Nat × Nat)} {ns nx n' : Nat} : ∀ {τ : List (Nat × Nat)}, tauOK σ ns nx n' τ = true → ∀ p ∈ τ, (p.1 < ns ∧ lk σ p.2 = some p.1) ∨ (ns ≤ p.1 ∧ nx ≤ p.2 ∧ p.2 < n')
 | [], _, p, hp => by cases hp
 | (i, id) :: r, h, p, hp => by
  simp only [tauOK, Bool.and_eq_true] at h
  rcases List.mem_cons.1 hp with rfl | hp
  ·have h1 := h.1
   split at h1
   ·rename_i hb
    split at h1
    ·rename_i j hj
     exact .inl ⟨Nat.le_of_ble_eq_true hb, by rw [hj, Nat.eq_of_beq_eq_true h1]⟩
    ·cases h1
   ·rename_i hb
    simp only [Bool.and_eq_true] at h1
    refine .inr ⟨?_, Nat.le_of_ble_eq_true h1.1, Nat.le_of_ble_eq_true h1.2⟩
    rcases Nat.lt_or_ge i ns with hl | hl
    ·have e : Nat.blt i ns = true := Nat.ble_eq_true_of_le hl
     rw [e] at hb; cases hb
    ·exact hl
  ·exact tauOK_sound h.2 p hp
theorem keysOr_sound : ∀ {m : Mem} {ids : List Nat} {nx : Nat}, keysOr ids nx m = true → ∀ p ∈ m, nx ≤ p.1 ∨ inL p.1 ids = true
 | [], ids, nx, _, p, hp => by cases hp
 | (k, b) :: r, ids, nx, h, p, hp => by
  simp only [keysOr, Bool.and_eq_true] at h
  rcases List.mem_cons.1 hp with rfl | hp
  ·have h1 := h.1
   split at h1
   ·rename_i hb; exact .inl (Nat.le_of_ble_eq_true hb)
   ·exact .inr h1
  ·exact keysOr_sound h.2 p hp
theorem ACalls.useN {P : Program} {Γ : List (Nat × AV)} {F : FuncId} {args args' : List AV} {ms mem m1 : Mem} {ns nx : Nat} {Qs K : AV → Mem → Nat → Prop} (hΓ : ∀ p ∈ Γ, NN p.2) (σ : List (Nat × Nat)) (h : ACalls P Γ F args' ms ns Qs)
  (hp : pickM (keysS σ) mem = m1) (hargs : CvL m1 σ args args') (hM : MemConv m1 σ ms) (hc : (nodM ms && (nod2 σ && valsLt ns σ)) = true)
  (hk : ∀ r m n, Qs r m n → ∃ τ r' m' n', Cv m τ r r' ∧ MemConv m τ m' ∧ (nodM m' && (nod2 τ && (Nat.ble nx n' && (keysOr (keysS σ) nx m' && tauOK σ ns nx n' τ)))) = true ∧ K r' (m' ++ dropM (keysS σ) mem) n') : ACalls P Γ F args mem nx K := by
 simp only [Bool.and_eq_true] at hc
 obtain ⟨hc1, hc2, hc4⟩ := hc
 refine ⟨fun X D ρ w vs hD hm hv => ?_⟩
 refine (ACalls.use (K := K) (nx := nx) hΓ h σ (m1 := m1) (rest := dropM (keysS σ) mem) ⟨fun p hp' => ?_, fun p hp' => (dropM_mem.1 hp').1, fun p hp' => ?_, fun p h1 q h2 => ?_, ?_⟩ ?_ hargs hM.cvm (nodM_sound hc1) (inj_of hc2) (fun id i hl => valsLt_sound hc4 _ (lk_mem hl)) ?_).run X D ρ w vs hD hm hv
 ·rw [← hp] at hp'; exact (pickM_mem.1 hp').1
 ·cases hi : inL p.1 (keysS σ) with
  | true => left; rw [← hp]; exact pickM_mem.2 ⟨hp', hi⟩
  | false => right; exact dropM_mem.2 ⟨hp', hi⟩
 ·rw [← hp] at h1
  have a := (pickM_mem.1 h1).2
  have b := (dropM_mem.1 h2).2
  intro e
  rw [e, b] at a
  cases a
 ·rw [← hp]; exact hm.nod.sublist ((pickM_sub mem).map _)
 ·exact hm.nod.sublist ((dropM_sub mem).map _)
 ·intro r m n hq hn
  obtain ⟨τ, r', m', n', h1, h2, h3, h4⟩ := hk r m n hq
  simp only [Bool.and_eq_true] at h3
  refine ⟨τ, r', m', n', Nat.le_of_ble_eq_true h3.2.2.1, h1, h2.cvm, nodM_sound h3.1, inj_of h3.2.1, fun i id hl => tauOK_sound h3.2.2.2.2 _ (lk_mem hl), fun p h5 q h6 => ?_, h4⟩
  have b := (dropM_mem.1 h6).2
  rcases keysOr_sound h3.2.2.2.1 p h5 with a | a
  ·have := hD _ (hm.low q (dropM_mem.1 h6).1)
   omega
  ·intro e
   rw [e, b] at a
   cases a
theorem ACalls.useNw {P : Program} {Γ : List (Nat × AV)} {F : FuncId} {args : List AV} {mem : Mem} {nx : Nat} {t : TypeId} {sz len : Nat} {ys : List AV} {K : AV → Mem → Nat → Prop} (hΓ : ∀ p ∈ Γ, NN p.2)
  (h : ACalls P Γ F args [] 0 fun r m n => r = .sl 0 0 len ∧ m = [(0, .row t sz ys)] ∧ n = 1) (ha : NNs args) (hn : NNs ys) (hk : K (.sl nx 0 len) ((nx, .row t sz ys) :: mem) (nx + 1)) : ACalls P Γ F args mem nx K := by
 refine ⟨fun X D ρ w vs hD hm hv => ?_⟩
 refine (ACalls.use (K := K) (nx := nx) hΓ h [] (m1 := []) (rest := mem) ⟨(fun p hp => by cases hp), fun p hp => hp, fun p hp => .inr hp, (fun p hp => by cases hp), by simp⟩ hm.nod (cvl_same ha) (fun p hp => by cases hp) (by simp) (fun i j k h => by simp [lk] at h) (fun id i h => by simp [lk] at h) ?_).run X D ρ w vs hD hm hv
 rintro r m n ⟨rfl, rfl, rfl⟩ _
 refine ⟨[(0, nx)], .sl nx 0 len, [(nx, .row t sz ys)], nx + 1, Nat.le_succ _, .sl 0 nx 0 len (by simp [lk]), fun p hp => ?_, by simp, inj_of (by rfl), fun i id hl => ?_, fun p hp q hq => ?_, hk⟩
 ·simp at hp
  subst hp
  exact .inl ⟨0, t, sz, ys, ys, rfl, by simp [lk], by simp [lk], .same hn⟩
 ·have := lk_mem hl
  simp at this
  obtain ⟨rfl, rfl⟩ := this
  exact .inr ⟨Nat.zero_le _, Nat.le_refl _, Nat.lt_succ_self _⟩
 ·simp at hp
  subst hp
  have := hD _ (hm.low q hq)
  simp only
  omega
theorem ACalls.ph {P : Program} {Γ : List (Nat × AV)} {F : FuncId} {args : List AV} {mem : Mem} {nx : Nat} {K : AV → Mem → Nat → Prop} (t : TypeId) (sz : Nat) (h : ACalls P Γ F args ((nx, .row t sz []) :: mem) (nx + 1) K) : ACalls P Γ F args mem nx K := by
 refine ⟨fun X D ρ w vs hD hm hv => ?_⟩
 obtain ⟨m1, v1, e1⟩ := hm.phantom (n := nx) (D' := dn D nx (nx + 1)) (fun h' => Nat.lt_irrefl _ (hD _ h')) (fun i hi => .inl hi) (.inr ⟨Nat.le_refl _, Nat.lt_succ_self _⟩) t sz
 refine (h.run X _ _ w vs (fun i hi => ?_) m1 ⟨hv.1, fun j c x hc hx => v1 _ _ (hv.2 j c x hc hx)⟩).mono ?_
 ·rcases hi with hi | hi
  ·have := hD i hi; omega
  ·exact hi.2
 ·rintro e w' ⟨r, v, m, n, ρ', rfl, hk, hn, hm', hr, ext⟩
  have ed : dn (dn D nx (nx + 1)) (nx + 1) n = dn D nx n := by
   funext i
   apply propext
   constructor
   ·rintro ((hi | ⟨h1, h2⟩) | ⟨h1, h2⟩)
    ·exact .inl hi
    ·exact .inr ⟨h1, by omega⟩
    ·exact .inr ⟨by omega, h2⟩
   ·rintro (hi | ⟨h1, h2⟩)
    ·exact .inl (.inl hi)
    ·rcases Nat.lt_or_ge i (nx + 1) with h3 | h3
     ·exact .inl (.inr ⟨h1, h3⟩)
     ·exact .inr ⟨h3, h2⟩
  rw [ed] at hm' hr ext
  refine ⟨r, v, m, n, ρ', rfl, hk, by omega, hm', hr, ?_⟩
  have e2 := e1 D fun i hi => hi
  exact e2.trans ⟨fun i hi => ext.le i (.inl hi), fun i hi => ext.agree i (.inl hi), ext.size, ext.keep, ext.fresh, ext.env⟩
end Go.Ax
namespace Go.Ax
open Go
section
variable {P : Program} {Γ : List (Nat × AV)} {B : Nat}
end
end Go.Ax
namespace Go.Ax
open Go
inductive AMode where
 | ret
 | pan (x : Value)
 | recd (x : Value)
def AMode.mode : AMode → FrameMode
 | .ret => .returning
 | .pan x => .panicking [pe x]
 | .recd x => .panicking [{ v := x, recovered := true }]
def unqL : List Value → Option (List AV)
 | [] => some []
 | .int k n :: r => match unqL r with
  | some l => some (.int k n :: l)
  | none => none
 | .bool b :: r => match unqL r with
  | some l => some (.bool b :: l)
  | none => none
 | _ => none
def unq : Value → Option AV
 | .iface t (.agg arr) => match unqL arr.toList with
  | some l => some (.ifc t (.agg l))
  | none => none
 | _ => none
theorem unqL_sound {ρ : Nat → Loc} {D : Nat → Prop} {O : Nat → Prop} {w : World} : ∀ {xs : List Value} {l : List AV}, unqL xs = some l → VRC ρ D O w l xs
 | [], l, h => by simp only [unqL] at h; cases h; exact ⟨.nil, by simp⟩
 | x :: r, l, h => by
  cases x <;> simp only [unqL] at h <;> first | (cases h; done) | skip
  all_goals
   split at h
   ·rename_i l' hl
    cases h
    obtain ⟨h1, h2⟩ := unqL_sound (ρ := ρ) (D := D) (O := O) (w := w) hl
    refine ⟨.cons ?_ h1, fun y hy => ?_⟩
    ·first | exact .int _ _ | exact .bool _
    ·rcases List.mem_cons.1 hy with rfl | hy
     ·rfl
     ·exact h2 y hy
   ·cases h
theorem unq_sound {ρ : Nat → Loc} {D : Nat → Prop} {O : Nat → Prop} {w : World} {x : Value} {v : AV} (h : unq x = some v) : VR ρ D O w v x := by
 unfold unq at h
 split at h
 ·rename_i t arr
  split at h
  ·rename_i l hl
   cases h
   obtain ⟨h1, h2⟩ := unqL_sound (ρ := ρ) (D := D) (O := O) (w := w) hl
   exact .ifc t _ _ (.agg l arr (by have := h1.1; simpa using this) (fun y hy => h2 y (by simpa using hy)) fun j c y hj hy => h1.2 j c y hj (by simpa using hy))
  ·cases h
 ·cases h
structure AWpS (P : Program) (Γ : List (Nat × AV)) (B : Nat) (c : Code) (s : St) (m : AMode) (Q : Exit → St → AMode → Prop) : Prop where
 run : ∀ (X : Nat → Prop) (ds : List Deferred) (D : Nat → Prop) (ρ : Nat → Loc) (a : Act) (w : World) (c₀ : Frame) (cs : List Frame), (∀ i, D i → i < B) → SR Γ X (ds, 0) ρ (dn D B s.nx) s a w → B ≤ s.nx → c₀.mode = m.mode →
  c.wpS P (fun e a' cs' w' => ∃ (s' : St) (m' : AMode) (ρ' : Nat → Loc), Q e s' m' ∧ cs' = { c₀ with mode := m'.mode } :: cs ∧ B ≤ s'.nx ∧ SR Γ X (ds, 0) ρ' (dn D B s'.nx) s' a' w' ∧ Ext D ρ s.mem w ρ' (dn D B s'.nx) s'.mem w') a (c₀ :: cs) w
section
variable {P : Program} {Γ : List (Nat × AV)} {B : Nat} {s : St} {m : AMode} {Q : Exit → St → AMode → Prop}
theorem frame_mode {c₀ : Frame} {u : FrameMode} (h : c₀.mode = u) : { c₀ with mode := u } = c₀ := by subst h; rfl
theorem AWpS.of {c : Code} (hc : hasRF c = false) (h : AWp P Γ B c s fun e s' => Q e s' m) : AWpS P Γ B c s m Q := by
 refine ⟨fun X ds D ρ a w c₀ cs hD hs hB hm => wpS_of_wp (Go.wp_mono (wpIn_FW.1 (h.run none X (ds, 0) D ρ a w hD hs hB (.no hc))) ?_)⟩
 rintro e a' w' ⟨s', ρ', hq, hB', hs', hext⟩
 exact ⟨s', m, ρ', hq, by rw [frame_mode hm], hB', hs', hext⟩
def seqQS (P : Program) (Γ : List (Nat × AV)) (B : Nat) (y : Code) (Q : Exit → St → AMode → Prop) (e : Exit) (s : St) (m : AMode) : Prop :=
 match e with
 | .normal => AWpS P Γ B y s m Q
 | e => Q e s m
theorem wpS_mono {c : Code} {Q Q' : Exit → Act → List Frame → World → Prop} {a : Act} {cs : List Frame} {w : World} (h : c.wpS P Q a cs w) (hq : ∀ e a cs w, Q e a cs w → Q' e a cs w) : c.wpS P Q' a cs w :=
 fun b k hb hr => let ⟨e, a', cs', w', q, r⟩ := h b k hb hr; ⟨e, a', cs', w', hq _ _ _ _ q, r⟩
theorem AWpS.seq {x y : Code} (h : AWpS P Γ B x s m (seqQS P Γ B y Q)) : AWpS P Γ B (.seq x y) s m Q := by
 refine ⟨fun X ds D ρ a w c₀ cs hD hs hB hm => wpS_seq (wpS_mono (h.run X ds D ρ a w c₀ cs hD hs hB hm) ?_)⟩
 rintro e a' cs' w' ⟨s', m', ρ', hq, rfl, hB', hs', hext⟩
 cases e with
 | normal =>
  refine wpS_mono ((show AWpS P Γ B y s' m' Q from hq).run X ds D ρ' a' w' { c₀ with mode := m'.mode } cs hD hs' hB' rfl) ?_
  rintro e a2 cs2 w2 ⟨s2, m2, ρ2, h1, rfl, h2, h3, h4⟩
  exact ⟨s2, m2, ρ2, h1, rfl, h2, h3, hext.trans h4⟩
 | exit i => exact ⟨s', m', ρ', hq, rfl, hB', hs', hext⟩
 | goto l => exact ⟨s', m', ρ', hq, rfl, hB', hs', hext⟩
 | ret => exact ⟨s', m', ρ', hq, rfl, hB', hs', hext⟩
 | panic c => exact ⟨s', m', ρ', hq, rfl, hB', hs', hext⟩
 | outgrown => exact ⟨s', m', ρ', hq, rfl, hB', hs', hext⟩
theorem AWpS.cond {c : Operand} {x y : Code} {b : Bool} (hc : ev Γ s c = some (.bool b)) (h : bcs b (AWpS P Γ B x s m Q) (AWpS P Γ B y s m Q)) : AWpS P Γ B (.cond c x y) s m Q := by
 refine ⟨fun X ds D ρ a w c₀ cs hD hs hB hm => ?_⟩
 have hv := ev_sound hs hc
 generalize he : a.eval c = cv at hv
 cases hv
 cases b with
 | true => exact wpS_cond he ((show AWpS P Γ B x s m Q from h).run X ds D ρ a w c₀ cs hD hs hB hm)
 | false => exact wpS_cond he ((show AWpS P Γ B y s m Q from h).run X ds D ρ a w c₀ cs hD hs hB hm)
def isRec (op : Op) : Bool :=
 match op with
 | .call c => match c.callee with
  | .builtin .recover => true
  | _ => false
 | _ => false
def recV : AMode → Option (AV × AMode)
 | .ret => some (.nif, .ret)
 | .pan x => match unq x with
  | some v => some (v, .recd x)
  | none => none
 | .recd x => some (.nif, .recd x)
def aOpsS (P : Program) (Γ : List (Nat × AV)) (ops : List Oper) : List Oper → St → AMode → (St → AMode → Prop) → Prop
 | [], s, m, K => K s m
 | o :: r, s, m, K => match aWant ops s o.guard with
  | none => False
  | some false => match stepSt s o.dst (.tup []) s.mem s.nx with
   | some s' => aOpsS P Γ ops r s' m K
   | none => False
  | some true => match isRec o.op with
   | true => match recV m with
    | some (v, m') => match stepSt s o.dst v s.mem s.nx with
     | some s' => aOpsS P Γ ops r s' m' K
     | none => False
    | none => False
   | false => match aStep P Γ s o.op with
    | some (v, mem, nx) => match stepSt s o.dst v mem nx with
     | some s' => aOpsS P Γ ops r s' m K
     | none => False
    | none => False
theorem isRec_run {o : Oper} (h : isRec o.op = true) (ρ : Operand → Value) (w : World) : (execOp ρ o).run P w = .ok .recover w := by
 unfold isRec at h
 split at h
 ·rename_i c hop
  split at h
  ·rename_i hc
   simp [execOp, hop, resolve, hc, invoke, builtin]
  ·cases h
 ·cases h
theorem aOpsS_sound (ops : Array Oper) : ∀ (l : List Nat) (s : St) (m : AMode) (K : St → AMode → Prop), aOpsS P Γ ops.toList (l.filterMap fun i => ops[i]?) s m K →
  ∀ (X : Nat → Prop) (ds : List Deferred) (D : Nat → Prop) (ρ : Nat → Loc) (a : Act) (w : World) (c₀ : Frame) (cs : List Frame) (Q : Exit → Act → List Frame → World → Prop), (∀ i, D i → i < B) → SR Γ X (ds, 0) ρ (dn D B s.nx) s a w → B ≤ s.nx → c₀.mode = m.mode →
   (∀ (s' : St) (m' : AMode) (ρ' : Nat → Loc) (a' : Act) (w' : World), K s' m' → B ≤ s'.nx → SR Γ X (ds, 0) ρ' (dn D B s'.nx) s' a' w' → Ext D ρ s.mem w ρ' (dn D B s'.nx) s'.mem w' → Q .normal a' ({ c₀ with mode := m'.mode } :: cs) w') →
   wpOpsS P ops Q l a (c₀ :: cs) w := by
 intro l
 induction l with
 | nil =>
  intro s m K h X ds D ρ a w c₀ cs Q hD hs hB hm hQ
  have := hQ s m ρ a w h hB hs (Ext.refl fun i hi => .inl hi)
  rw [frame_mode hm] at this
  exact this
 | cons i r ih =>
  intro s m K h X ds D ρ a w c₀ cs Q hD hs hB hm hQ
  simp only [wpOpsS]
  cases ho : ops[i]? with
  | none =>
   simp only [List.filterMap_cons, ho] at h
   exact ih s m K h X ds D ρ a w c₀ cs Q hD hs hB hm hQ
  | some o =>
   simp only [List.filterMap_cons, ho] at h
   simp only [aOpsS] at h
   split at h
   ·exact h.elim
   ·rename_i hw
    have hw' := aWant_sound hs hw
    rw [Array.toArray_toList] at hw'
    simp only [hw', Bool.false_eq_true, if_false]
    split at h
    ·rename_i s' hst
     obtain ⟨h1, h2, h3⟩ := stepSt_sound hst hs hs.mr undef_VR (fun h => h) (fun _ _ h => h)
     refine ih s' m K h X ds D ρ _ w c₀ cs Q hD (by rw [h3]; exact h1) (by omega) hm fun s2 m2 ρ2 a2 w2 k1 k2 k3 k4 => hQ s2 m2 ρ2 a2 w2 k1 k2 k3 (by rw [← h2]; exact k4)
    ·exact h.elim
   ·rename_i hw
    have hw' := aWant_sound hs hw
    rw [Array.toArray_toList] at hw'
    simp only [hw', if_true]
    split at h
    ·rename_i hrec
     rw [isRec_run hrec]
     split at h
     ·rename_i v m' hv
      split at h
      ·rename_i s' hst
       have main : ∀ (x : Value) (c1 : Frame), (VR ρ (dn D B s.nx) (OX X ρ s.mem) w v x) → c1 = { c₀ with mode := m'.mode } → wpOpsS P ops Q r (a.put o.dst x) (c1 :: cs) w := by
        intro x c1 hx hc1
        obtain ⟨h1, h2, h3⟩ := stepSt_sound hst hs hs.mr hx (fun h => h) (fun _ _ h => h)
        subst hc1
        exact ih s' m' K h X ds D ρ _ w { c₀ with mode := m'.mode } cs Q hD (by rw [h3]; exact h1) (by omega) rfl fun s2 m2 ρ2 a2 w2 k1 k2 k3 k4 => hQ s2 m2 ρ2 a2 w2 k1 k2 k3 (by rw [← h2]; exact k4)
       cases m with
       | ret =>
        cases hv
        simp only [recoverD, hm, AMode.mode]
        exact main _ c₀ .nif (frame_mode hm).symm
       | pan x =>
        simp only [recV] at hv
        split at hv
        ·rename_i u hu
         cases hv
         simp only [recoverD, hm, AMode.mode, pe]
         exact main _ _ (unq_sound hu) rfl
        ·cases hv
       | recd x =>
        cases hv
        simp only [recoverD, hm, AMode.mode]
        exact main _ c₀ .nif (frame_mode hm).symm
      ·exact h.elim
     ·exact h.elim
    ·split at h
     ·rename_i v mem nx hstep
      split at h
      ·rename_i s' hst
       have hnx : s.nx ≤ nx := by rcases aStep_nx hstep with h' | h' <;> omega
       obtain ⟨x, n, w', ρ', e1, e2, m1, v1, mono1, ext1⟩ := aStep_sound (P := P) (D := dn D B s.nx) (D' := dn D B nx) (fun h' => Nat.lt_irrefl _ (dn_lt hD hB _ h')) (dn_grow hnx) hs o (fun e => .inr ⟨hB, by omega⟩) hstep
       obtain ⟨h1, h2, h3⟩ := stepSt_sound hst hs m1 v1 (ext1 _ fun i hi => hi).mks mono1
       have fin : wpOpsS P ops Q r (a.put o.dst x) (c₀ :: cs) w' := ih s' m K h X ds D ρ' _ w' c₀ cs Q hD (by rw [h3]; exact h1) (by rw [h3]; exact Nat.le_trans hB hnx) hm fun s2 m2 ρ2 a2 w2 k1 k2 k3 k4 => hQ s2 m2 ρ2 a2 w2 k1 k2 k3 ((ext1 D fun i hi => .inl hi).trans (by rw [← h2]; exact k4))
       rw [e1]
       rcases e2 with rfl | ⟨rfl, rfl⟩
       ·exact fin
       ·exact fin
      ·exact h.elim
     ·exact h.elim
theorem range_ops (L : List Oper) : ∀ (l : List Oper) (k : Nat), (∀ j, L[k + j]? = l[j]?) → ((List.range' k l.length).filterMap fun i => L[i]?) = l
 | [], k, h => rfl
 | o :: r, k, h => by
  have h0 : L[k]? = some o := by simpa using h 0
  rw [List.length_cons, List.range'_succ, List.filterMap_cons, h0]
  simp only
  rw [range_ops L r (k + 1) fun j => by have := h (j + 1); simpa [Nat.add_assoc, Nat.add_comm 1 j] using this]
theorem AWpS.region {id : Nat} {ops : Array Oper} (h : aOpsS P Γ ops.toList ops.toList s m fun s' m' => Q .normal s' m') : AWpS P Γ B (.region id ops false) s m Q := by
 refine ⟨fun X ds D ρ a w c₀ cs hD hs hB hm => wpS_region ?_⟩
 have e : ((List.range ops.size).filterMap fun i => ops[i]?) = ops.toList := by
  have := range_ops ops.toList ops.toList 0 (fun j => by rw [Nat.zero_add])
  rw [List.range_eq_range', ← Array.length_toList]
  simpa using this
 exact aOpsS_sound ops (List.range ops.size) s m _ (by rw [e]; exact h) X ds D ρ a w c₀ cs _ hD hs hB hm fun s' m' ρ' a' w' h1 h2 h3 h4 => ⟨s', m', ρ', h1, rfl, h2, h3, h4⟩
def aDfS (P : Program) (Γ : List (Nat × AV)) (H : Hk) : Code → St → AMode → (St → AMode → Prop) → Prop
 | .skip, s, m, K => K s m
 | .seq x y, s, m, K => aDfS P Γ H x s m fun s' m' => aDfS P Γ H y s' m' K
 | .cond c x y, s, m, K => match ev Γ s c with
  | some (.bool b) => match b with
   | true => aDfS P Γ H x s m K
   | false => aDfS P Γ H y s m K
  | _ => False
 | .region _ ops draw, s, m, K => match draw with
  | false => aOpsS P Γ ops.toList ops.toList s m K
  | true => False
 | _, _, _, _ => False
theorem aDfS_sound {H : Hk} : ∀ (c : Code) (s : St) (m : AMode) (K : St → AMode → Prop), aDfS P Γ H c s m K → AWpS P Γ B c s m fun e s' m' => match e with
  | .normal => K s' m'
  | _ => False := by
 intro c
 induction c with
 | skip => exact fun s m K h => .of rfl ⟨fun rd X ds D ρ a w hD hs hB _ => wpIn_skip ⟨s, ρ, h, hB, hs, Ext.refl fun i hi => .inl hi⟩⟩
 | seq x y ihx ihy =>
  intro s m K h
  refine AWpS.seq ?_
  obtain ⟨h'⟩ := ihx s m _ h
  refine ⟨fun X ds D ρ a w c₀ cs hD hs hB hm => wpS_mono (h' X ds D ρ a w c₀ cs hD hs hB hm) ?_⟩
  rintro e a' cs' w' ⟨s', m', ρ', hq, rest⟩
  refine ⟨s', m', ρ', ?_, rest⟩
  cases e with
  | normal => exact ihy s' m' K hq
  | _ => exact (show False from hq).elim
 | cond c x y ihx ihy =>
  intro s m K h
  simp only [aDfS] at h
  split at h
  ·rename_i b hc
   refine AWpS.cond hc ?_
   cases b with
   | true => exact ihx s m K h
   | false => exact ihy s m K h
  ·exact h.elim
 | region id ops draw =>
  intro s m K h
  cases draw with
  | false => exact AWpS.region h
  | true => exact (show False from h).elim
 | _ => exact fun s m K h => (show False from h).elim
def DfR (ρ : Nat → Loc) (D : Nat → Prop) (O : Nat → Prop) (w : World) (v : AV) (d : Deferred) : Prop :=
 ∃ (F : FuncId) (first cap : List AV) (vs : List Value) (a2 : Array Value), v = .fn (.func F) first cap ∧ d.target = .fn (.func F) a2 ∧ d.args.toList ++ a2.toList = vs ∧ VRL ρ D O w (first ++ cap) vs
def aLeave (P : Program) (Γ : List (Nat × AV)) (H : Hk) (rs : List ResultVar) (v : AV) (s : St) (m : AMode) (Q : AV → Mem → Nat → Prop) (Qp : Value → Mem → Nat → Prop) : Prop :=
 match v with
 | .fn (.func F) first cap => match P.funcs[F]? with
  | some fn => match fn.body with
   | some c => match fn.name == "runtime.NumGoroutine" with
    | false => match fn.results.toList with
     | [] => aDfS P Γ H c (enter fn.ntmps (first ++ cap) s.mem s.nx) m fun s' m' => match m' with
      | .pan x => Qp x s'.mem s'.nx
      | _ => match aRes P rs { s with mem := s'.mem, nx := s'.nx } with
       | some r => Q r s'.mem s'.nx
       | none => False
     | _ :: _ => False
    | true => False
   | none => False
  | none => False
 | _ => False
theorem aLeave_sound {H : Hk} {X : Nat → Prop} {D : Nat → Prop} {ρ ρ0 : Nat → Loc} {a : Act} {w w0 : World} {mem0 : Mem} {d : Deferred} {v : AV} {fn : Func} {Qr : AV → Mem → Nat → Prop} {Qp : Value → Mem → Nat → Prop}
  (hD : ∀ i, D i → i < B) (hs : SR Γ X ([d], 0) ρ (dn D B s.nx) s a w) (hB : B ≤ s.nx) (hv : DfR ρ (dn D B s.nx) (OX X ρ s.mem) w v d) (hext : Ext D ρ0 mem0 w0 ρ (dn D B s.nx) s.mem w)
  (hm : m.mode ≠ .run) (h : aLeave P Γ H fn.results.toList v s m Qr Qp) :
  Leaves P fn a.tmps (fun e w' => ∃ (mem' : Mem) (nx' : Nat) (ρ' : Nat → Loc), B ≤ nx' ∧ MR Γ X ρ' (dn D B nx') mem' w' ∧ Ext D ρ0 mem0 w0 ρ' (dn D B nx') mem' w' ∧
   ((∃ (r : AV) (v : Value), e = .returned v ∧ Qr r mem' nx' ∧ VR ρ' (dn D B nx') (OX X ρ' mem') w' r v) ∨ (∃ x : Value, e = .panicked [pe x] ∧ Qp x mem' nx'))) [d] m.mode w := by
 obtain ⟨F, first, cap, vs, a2, rfl, ht, hvs, hvr⟩ := hv
 simp only [aLeave] at h
 split at h <;> first | exact h.elim | skip
 rename_i fd hf
 split at h <;> first | exact h.elim | skip
 rename_i c hc
 split at h <;> first | exact h.elim | skip
 rename_i hname
 split at h <;> first | exact h.elim | skip
 rename_i hres
 have hname' : ¬ fd.name = "runtime.NumGoroutine" := by simpa using hname
 refine ⟨hm, .func F, a2, F, vs.toArray, ht, ?_, ?_⟩
 ·rw [ht, ← hvs]
  have e : (d.args.toList ++ a2.toList).toArray = d.args ++ a2 := by apply Array.ext'; simp
  simp [invoke, callFunc, hf, hc, hname', e]
 ·refine callsD_of_wpS hf hc fun c₀ cs hc0 => ?_
  have hwide : ∀ id, dn (dn D B s.nx) s.nx s.nx id → dn D B s.nx id := dn_dn hB (Nat.le_refl _)
  have hsr := enter_sr (n := fd.ntmps) (dn_lt hD hB) hs.mr hvr (Nat.zero_le _)
  refine wpS_mono ((aDfS_sound (B := s.nx) (H := H) c _ _ _ h).run X [] (dn D B s.nx) ρ _ w c₀ cs (dn_lt hD hB) hsr (Nat.le_refl _) hc0) ?_
  rintro e a' cs' w' ⟨s', m', ρ', hq, rfl, hB', hs', hext'⟩
  cases e with
  | normal =>
   have hr0 : (results fd a'.tmps).run P w' = .ok (.tuple #[]) w' := by
    have := results_of (P := P) (w := w') (fn := fd) (tmps := a'.tmps) (vs := []) (by rw [hres]; simp)
    simpa using this
   have ext2 := hext.trans ((hext'.sub fun i hi => .inl hi).wide (dn_dn hB hB'))
   obtain ⟨m2, mono2, _⟩ := hs'.mr.widen (dn_dn hB hB')
   refine ⟨hs'.def0.eq, m'.mode, rfl, .tuple #[], hr0, ?_⟩
   have hs2 : SR Γ X ([], 0) ρ' (dn D B s'.nx) { s with mem := s'.mem, nx := s'.nx } { tmps := a.tmps, defers := [] } w' :=
    ⟨m2, Mks.start (ds := ([], 0)) (Nat.zero_le _), hs.size, fun i u hi => mono2 _ _ (hext'.vr (hs.slot i u hi))⟩
   have ret : settle m'.mode = .returning → (match aRes P fn.results.toList { s with mem := s'.mem, nx := s'.nx } with
       | some r => Qr r s'.mem s'.nx
       | none => False) → Leaves P fn a.tmps (fun e w' => ∃ (mem' : Mem) (nx' : Nat) (ρ' : Nat → Loc), B ≤ nx' ∧ MR Γ X ρ' (dn D B nx') mem' w' ∧ Ext D ρ0 mem0 w0 ρ' (dn D B nx') mem' w' ∧
   ((∃ (r : AV) (v : Value), e = .returned v ∧ Qr r mem' nx' ∧ VR ρ' (dn D B nx') (OX X ρ' mem') w' r v) ∨ (∃ x : Value, e = .panicked [pe x] ∧ Qp x mem' nx'))) [] (settle m'.mode) w' := by
    intro hset hq
    rw [hset]
    split at hq
    ·rename_i r hr
     obtain ⟨x, h1, h2⟩ := aRes_sound hs2 hr
     exact ⟨x, h1, s'.mem, s'.nx, ρ', Nat.le_trans hB hB', m2, ext2, .inl ⟨r, x, rfl, hq, h2⟩⟩
    ·exact hq.elim
   cases m' with
   | ret => exact ret rfl hq
   | recd x => exact ret rfl hq
   | pan x => exact ⟨s'.mem, s'.nx, ρ', Nat.le_trans hB hB', m2, ext2, .inr ⟨x, rfl, hq⟩⟩
  | _ => exact (show False from hq).elim
end
structure AWpD (P : Program) (Γ : List (Nat × AV)) (B : Nat) (c : Code) (s : St) (Q : Exit → St → Option AV → Prop) : Prop where
 run : ∀ (X : Nat → Prop) (D : Nat → Prop) (ρ : Nat → Loc) (a : Act) (w : World), (∀ i, D i → i < B) → SR Γ X ([], 0) ρ (dn D B s.nx) s a w → B ≤ s.nx →
  c.wp P (fun e a' w' => ∃ (s' : St) (v : Option AV) (ds : List Deferred) (ρ' : Nat → Loc), Q e s' v ∧ B ≤ s'.nx ∧ SR Γ X (ds, 0) ρ' (dn D B s'.nx) s' a' w' ∧ Ext D ρ s.mem w ρ' (dn D B s'.nx) s'.mem w' ∧
   (match v with
    | none => ds = []
    | some v => ∃ d, ds = [d] ∧ DfR ρ' (dn D B s'.nx) (OX X ρ' s'.mem) w' v d)) a w
section
variable {P : Program} {Γ : List (Nat × AV)} {B : Nat} {s : St} {Q : Exit → St → Option AV → Prop}
theorem SR.widen {X : Nat → Prop} {ds : List Deferred × Nat} {ρ : Nat → Loc} {D D' : Nat → Prop} {a : Act} {w : World} (hs : SR Γ X ds ρ D s a w) (hD : ∀ i, D i → D' i) : SR Γ X ds ρ D' s a w := by
 obtain ⟨m, mono, _⟩ := hs.mr.widen hD
 exact ⟨m, hs.def0, hs.size, fun i v hi => mono _ _ (hs.slot i v hi)⟩
theorem AWpD.of {c : Code} (hc : hasRF c = false) (h : AWp P Γ B c s fun e s' => Q e s' none) : AWpD P Γ B c s Q := by
 refine ⟨fun X D ρ a w hD hs hB => Go.wp_mono (wpIn_FW.1 (h.run none X ([], 0) D ρ a w hD hs hB (.no hc))) ?_⟩
 rintro e a' w' ⟨s', ρ', hq, hB', hs', hext⟩
 exact ⟨s', none, [], ρ', hq, hB', hs', hext, rfl⟩
theorem DfR.vr {X : Nat → Prop} {D D' : Nat → Prop} {ρ ρ' : Nat → Loc} {mem mem' : Mem} {w w' : World} {v : AV} {d : Deferred} (h : Ext D ρ mem w ρ' D' mem' w') (hv : DfR ρ D (OX X ρ mem) w v d) : DfR ρ' D' (OX X ρ' mem') w' v d := by
 obtain ⟨F, first, cap, vs, a2, h1, h2, h3, h4⟩ := hv
 exact ⟨F, first, cap, vs, a2, h1, h2, h3, h4.1, fun j c x hc hx => h.vr (h4.2 j c x hc hx)⟩
def seqQD (P : Program) (Γ : List (Nat × AV)) (B : Nat) (y : Code) (Q : Exit → St → Option AV → Prop) (e : Exit) (s : St) (v : Option AV) : Prop :=
 match e with
 | .normal => match v with
  | none => AWpD P Γ B y s Q
  | some v => hasRF y = false ∧ AWp P Γ s.nx y s fun e s' => Q e s' (some v)
 | e => Q e s v
theorem AWpD.seq {x y : Code} (h : AWpD P Γ B x s (seqQD P Γ B y Q)) : AWpD P Γ B (.seq x y) s Q := by
 refine ⟨fun X D ρ a w hD hs hB => wp_seq (Go.wp_mono (h.run X D ρ a w hD hs hB) ?_)⟩
 rintro e a' w' ⟨s', v, ds, ρ', hq, hB', hs', hext, hv⟩
 cases e with
 | normal =>
  cases v with
  | none =>
   have hv : ds = [] := hv
   subst hv
   refine Go.wp_mono ((show AWpD P Γ B y s' Q from hq).run X D ρ' a' w' hD hs' hB') ?_
   rintro e a2 w2 ⟨s2, v2, ds2, ρ2, h1, h2, h3, h4, h5⟩
   exact ⟨s2, v2, ds2, ρ2, h1, h2, h3, hext.trans h4, h5⟩
  | some v =>
   obtain ⟨d, rfl, hd⟩ := hv
   have key := (show hasRF y = false ∧ AWp P Γ s'.nx y s' (fun e s' => Q e s' (some v)) from hq)
   refine Go.wp_mono (wpIn_FW.1 (key.2.run none X ([d], 0) (dn D B s'.nx) ρ' a' w' (dn_lt hD hB') (hs'.widen fun i hi => .inl hi) (Nat.le_refl _) (.no key.1))) ?_
   rintro e a2 w2 ⟨s2, ρ2, h1, h2, h3, h4⟩
   have hd2 := hd.vr h4
   obtain ⟨_, mono2, _⟩ := h3.mr.widen (dn_dn hB' h2)
   obtain ⟨F, first, cap, vs, a2, g1, g2, g3, g4⟩ := hd2
   exact ⟨s2, some v, [d], ρ2, h1, Nat.le_trans hB' h2, h3.widen (dn_dn hB' h2), hext.trans ((h4.sub fun i hi => .inl hi).wide (dn_dn hB' h2)), d, rfl, F, first, cap, vs, a2, g1, g2, g3, g4.1, fun j c x hc hx => mono2 _ _ (g4.2 j c x hc hx)⟩
 | exit i => exact ⟨s', v, ds, ρ', hq, hB', hs', hext, hv⟩
 | goto l => exact ⟨s', v, ds, ρ', hq, hB', hs', hext, hv⟩
 | ret => exact ⟨s', v, ds, ρ', hq, hB', hs', hext, hv⟩
 | panic c => exact ⟨s', v, ds, ρ', hq, hB', hs', hext, hv⟩
 | outgrown => exact ⟨s', v, ds, ρ', hq, hB', hs', hext, hv⟩
def aOpsD (P : Program) (Γ : List (Nat × AV)) (ops : List Oper) : List Oper → St → (St → AV → Prop) → Prop
 | [], _, _ => False
 | o :: r, s, K => match aWant ops s o.guard with
  | some true => match o.op with
   | .defer c => match r with
    | [] => match c.args.toList with
     | [] => match c.callee with
      | .value f => match ev Γ s f with
       | some (.fn (.func F) first cap) => match stepSt s o.dst (.tup []) s.mem s.nx with
        | some s' => K s' (.fn (.func F) first cap)
        | none => False
       | _ => False
      | _ => False
     | _ :: _ => False
    | _ :: _ => False
   | op => match aStep P Γ s op with
    | some (v, mem, nx) => match stepSt s o.dst v mem nx with
     | some s' => aOpsD P Γ ops r s' K
     | none => False
    | none => False
  | _ => False
theorem aOpsD_sound (ops : List Oper) : ∀ (l : List Oper) (s : St) (K : St → AV → Prop), aOpsD P Γ ops l s K →
  ∀ (X : Nat → Prop) (D : Nat → Prop) (ρ : Nat → Loc) (a : Act) (w : World) (Q : Exit → Act → World → Prop), (∀ i, D i → i < B) → SR Γ X ([], 0) ρ (dn D B s.nx) s a w → B ≤ s.nx →
   (∀ (s' : St) (v : AV) (d : Deferred) (ρ' : Nat → Loc) (a' : Act) (w' : World), K s' v → B ≤ s'.nx → SR Γ X ([d], 0) ρ' (dn D B s'.nx) s' a' w' → Ext D ρ s.mem w ρ' (dn D B s'.nx) s'.mem w' → DfR ρ' (dn D B s'.nx) (OX X ρ' s'.mem) w' v d → Q .normal a' w') → wpList P ops.toArray Q l a w
 | [], s, K, h, X, D, ρ, a, w, Q, hD, hs, hB, hQ => h.elim
 | o :: r, s, K, h, X, D, ρ, a, w, Q, hD, hs, hB, hQ => by
  simp only [aOpsD] at h
  refine wpList_step fun K' hK' => ?_
  split at h <;> first | exact h.elim | skip
  rename_i hw
  rw [aWant_sound hs hw]
  simp only [if_true]
  split at h
  ·rename_i c hop
   split at h <;> first | exact h.elim | skip
   split at h <;> first | exact h.elim | skip
   rename_i hargs
   split at h <;> first | exact h.elim | skip
   rename_i f hc
   split at h <;> first | exact h.elim | skip
   rename_i F first cap hf
   split at h <;> first | exact h.elim | skip
   rename_i s' hst
   have hv := ev_sound hs hf
   generalize he : a.eval f = fv at hv
   cases hv with
   | fn _ _ _ a1 a2 l1 l2 r1 r2 =>
    have hargs' : c.args = #[] := by apply Array.ext'; simpa using hargs
    have e1 : (execOp a.eval o).run P w = .ok (.defer { target := .fn (.func F) a2, args := a1 }) w := by
     simp [execOp, hop, resolve, hc, he, Deferred.ofValue, hargs']
    unfold Oper.wp
    rw [e1]
    have hs' : SR Γ X ([{ target := .fn (.func F) a2, args := a1 }], 0) ρ (dn D B s.nx) s { a with defers := { target := .fn (.func F) a2, args := a1 } :: a.defers } w :=
     ⟨hs.mr, by rw [hs.def0.eq]; exact Mks.start (ds := ([_], 0)) (Nat.zero_le _), hs.size, hs.slot⟩
    obtain ⟨h1, h2, h3⟩ := stepSt_sound hst hs' hs'.mr undef_VR (fun h => h) (fun _ _ h => h)
    refine hK' _ _ (wpList_nil (hQ s' _ _ ρ _ w h (by rw [h3]; exact hB) (by rw [h3]; exact h1) (by rw [h2, h3]; exact Ext.refl fun i hi => .inl hi) ?_))
    refine ⟨F, first, cap, a1.toList ++ a2.toList, a2, rfl, rfl, rfl, ?_⟩
    rw [h2, h3]
    exact VRL.append ⟨by simpa using l1, fun j c x h1 h2 => r1 j c x h1 (by simpa using h2)⟩ ⟨by simpa using l2, fun j c x h1 h2 => r2 j c x h1 (by simpa using h2)⟩
  ·rename_i hnd
   split at h <;> first | exact h.elim | skip
   rename_i v mem nx hstep
   split at h <;> first | exact h.elim | skip
   rename_i s' hst
   have hnx : s.nx ≤ nx := by rcases aStep_nx hstep with h' | h' <;> omega
   obtain ⟨x, n, w', ρ', e1, e2, m1, v1, mono1, ext1⟩ := aStep_sound (P := P) (D := dn D B s.nx) (D' := dn D B nx) (fun h' => Nat.lt_irrefl _ (dn_lt hD hB _ h')) (dn_grow hnx) hs o (fun e => .inr ⟨hB, by omega⟩) hstep
   obtain ⟨h1, h2, h3⟩ := stepSt_sound hst hs m1 v1 (ext1 _ fun i hi => hi).mks mono1
   have fin : K' (a.put o.dst x) w' := hK' _ _ (aOpsD_sound ops r s' K h X D ρ' _ w' Q hD (by rw [h3]; exact h1) (by rw [h3]; exact Nat.le_trans hB hnx) fun s2 v2 d2 ρ2 a2 w2 k1 k2 k3 k4 k5 => hQ s2 v2 d2 ρ2 a2 w2 k1 k2 k3 ((ext1 D fun i hi => .inl hi).trans (by rw [← h2]; exact k4)) k5)
   unfold Oper.wp
   rw [e1]
   rcases e2 with rfl | ⟨rfl, rfl⟩
   ·exact fin
   ·exact fin
theorem AWpD.region {id : Nat} {ops : Array Oper} (h : aOpsD P Γ ops.toList ops.toList s fun s' v => Q .normal s' (some v)) : AWpD P Γ B (.region id ops false) s Q := by
 refine ⟨fun X D ρ a w hD hs hB => wp_region_list ?_⟩
 have := aOpsD_sound ops.toList ops.toList s _ h X D ρ a w (fun e a' w' => ∃ (s' : St) (v : Option AV) (ds : List Deferred) (ρ' : Nat → Loc), Q e s' v ∧ B ≤ s'.nx ∧ SR Γ X (ds, 0) ρ' (dn D B s'.nx) s' a' w' ∧ Ext D ρ s.mem w ρ' (dn D B s'.nx) s'.mem w' ∧
   (match v with
    | none => ds = []
    | some v => ∃ d, ds = [d] ∧ DfR ρ' (dn D B s'.nx) (OX X ρ' s'.mem) w' v d)) hD hs hB
  (fun s' v d ρ' a' w' h1 h2 h3 h4 h5 => ⟨s', some v, [d], ρ', h1, h2, h3, h4, d, rfl, h5⟩)
 simpa using this
def retV (P : Program) (Γ : List (Nat × AV)) (H : Hk) (rs : List ResultVar) (Q : AV → Mem → Nat → Prop) (Qp : Value → Mem → Nat → Prop) (s : St) (v : Option AV) : Prop :=
 match v with
 | none => match aRes P rs s with
  | some r => Q r s.mem s.nx
  | none => False
 | some v => aLeave P Γ H rs v s .ret Q Qp
def retW (P : Program) (Γ : List (Nat × AV)) (H : Hk) (rs : List ResultVar) (Q : AV → Mem → Nat → Prop) (Qp : Value → Mem → Nat → Prop) (x : Value) (s : St) (v : Option AV) : Prop :=
 match v with
 | none => Qp x s.mem s.nx
 | some v => aLeave P Γ H rs v s (.pan x) Q Qp
def retQD (P : Program) (Γ : List (Nat × AV)) (H : Hk) (rs : List ResultVar) (Q : AV → Mem → Nat → Prop) (Qp : Value → Mem → Nat → Prop) : Exit → St → Option AV → Prop := fun e s v =>
 match e with
 | .normal => retV P Γ H rs Q Qp s v
 | .ret => retV P Γ H rs Q Qp s v
 | .panic [⟨x, false, false⟩] => retW P Γ H rs Q Qp x s v
 | _ => False
theorem acallsP_of_awpD {H : Hk} {F : FuncId} {fn : Func} {c : Code} {args : List AV} {mem : Mem} {nx : Nat} {Q : AV → Mem → Nat → Prop} {Qp : Value → Mem → Nat → Prop} (hf : P.funcs[F]? = some fn) (hb : fn.body = some c)
  (h : AWpD P Γ nx c (enter fn.ntmps args mem nx) (retQD P Γ H fn.results.toList Q Qp)) (hF : Nat.beq F YF = false := by rfl) : ACallsP P Γ F args mem nx Q Qp := by
 refine ⟨fun X D ρ w vs hD hm hv => .of hF (calls_of_wp_defers hf hb ?_)⟩
 refine Go.wp_mono (h.run X D ρ _ w hD (enter_sr hD hm hv (Nat.zero_le _)) (Nat.le_refl _)) ?_
 rintro e a' w' ⟨s', v, ds, ρ', hq, hB', hs', hext, hv⟩
 have ret : retV P Γ H fn.results.toList Q Qp s' v → Leaves P fn a'.tmps (fun e w' => ∃ (mem' : Mem) (nx' : Nat) (ρ' : Nat → Loc), nx ≤ nx' ∧ MR Γ X ρ' (dn D nx nx') mem' w' ∧ Ext D ρ mem w ρ' (dn D nx nx') mem' w' ∧
   ((∃ (r : AV) (v : Value), e = .returned v ∧ Q r mem' nx' ∧ VR ρ' (dn D nx nx') (OX X ρ' mem') w' r v) ∨ (∃ x : Value, e = .panicked [pe x] ∧ Qp x mem' nx'))) a'.defers .returning w' := by
  intro hq
  cases v with
  | none =>
   have hv : ds = [] := hv
   subst hv
   rw [hs'.def0.eq]
   simp only [retV] at hq
   split at hq
   ·rename_i r hr
    obtain ⟨x, h1, h2⟩ := aRes_sound hs' hr
    exact ⟨x, h1, s'.mem, s'.nx, ρ', hB', hs'.mr, hext, .inl ⟨r, x, rfl, hq, h2⟩⟩
   ·exact hq.elim
  | some v =>
   obtain ⟨d, rfl, hd⟩ := hv
   rw [hs'.def0.eq]
   exact aLeave_sound (B := nx) (m := .ret) hD hs' hB' hd hext (by simp [AMode.mode]) hq
 cases e with
 | normal => exact ret hq
 | ret => exact ret hq
 | panic ch =>
  unfold retQD at hq
  split at hq
  ·rename_i e; cases e
  ·rename_i e; cases e
  ·rename_i x e
   cases e
   show Leaves P fn a'.tmps _ a'.defers (.panicking [pe x]) w'
   cases v with
   | none =>
    have hv : ds = [] := hv
    subst hv
    rw [hs'.def0.eq]
    exact ⟨s'.mem, s'.nx, ρ', hB', hs'.mr, hext, .inr ⟨x, rfl, hq⟩⟩
   | some v =>
    obtain ⟨d, rfl, hd⟩ := hv
    rw [hs'.def0.eq]
    exact aLeave_sound (B := nx) (m := .pan x) hD hs' hB' hd hext (by simp [AMode.mode]) hq
  ·exact hq.elim
 | _ => exact (show False from hq).elim
end
end Go.Ax
namespace Go.Ax
open Go
def memF (F : Nat) : List Nat → Bool
 | [] => false
 | G :: r => match Nat.beq G F with
  | true => true
  | false => memF F r
def hasDf : List Oper → Bool
 | [] => false
 | o :: r => match o.op with
  | .defer _ => true
  | _ => hasDf r
def fwpD (cl : Bool) (P : Program) (Γ : List (Nat × AV)) (H : Hk) : Code → St → (Exit → St → Option AV → Prop) → Prop
 | .seq x y, s, Q => fwpD cl P Γ H x s fun e s' v => match e with
  | .normal => match v with
   | none => fwpD cl P Γ H y s' Q
   | some v => match hasRF y with
    | false => fwp cl P Γ H y s' fun e s'' => Q e s'' (some v)
    | true => False
  | e => Q e s' v
 | .region id ops draw, s, Q => match hasDf ops.toList with
  | true => match draw with
   | false => aOpsD P Γ ops.toList ops.toList s fun s' v => Q .normal s' (some v)
   | true => False
  | false => fwp cl P Γ H (.region id ops draw) s fun e s' => Q e s' none
 | c, s, Q => match hasRF c with
  | false => fwp cl P Γ H c s fun e s' => Q e s' none
  | true => False
theorem fwpD_sound {cl : Bool} {P : Program} {Γ : List (Nat × AV)} {H : Hk} (hH : ∀ B, HkOK P Γ B H) (B : Nat) : ∀ (c : Code) (s : St) (Q : Exit → St → Option AV → Prop), fwpD cl P Γ H c s Q → AWpD P Γ B c s Q := by
 intro c
 induction c with
 | seq x y ihx ihy =>
  intro s Q h
  simp only [fwpD] at h
  refine AWpD.seq ?_
  obtain ⟨h'⟩ := ihx s _ h
  refine ⟨fun X D ρ a w hD hs hB => Go.wp_mono (h' X D ρ a w hD hs hB) ?_⟩
  rintro e a' w' ⟨s', v, ds, ρ', hq, rest⟩
  refine ⟨s', v, ds, ρ', ?_, rest⟩
  cases e with
  | normal =>
   cases v with
   | none => exact ihy s' Q hq
   | some v =>
    simp only at hq
    split at hq
    ·rename_i hr; exact ⟨hr, fwp_sound (hH s'.nx) y s' _ hq⟩
    ·exact hq.elim
  | exit i => exact hq
  | goto l => exact hq
  | ret => exact hq
  | panic c => exact hq
  | outgrown => exact hq
 | region id ops draw =>
  intro s Q h
  simp only [fwpD] at h
  split at h
  ·split at h
   ·exact AWpD.region h
   ·exact h.elim
  ·exact .of rfl (fwp_sound (hH B) _ _ _ h)
 | _ =>
  intro s Q h
  simp only [fwpD] at h
  split at h
  ·rename_i hr; exact .of hr (fwp_sound (hH B) _ _ _ h)
  ·exact h.elim
def fRound (P : Program) (Γ : List (Nat × AV)) (H : Hk) (args : List AV) (mem : Mem) (nx : Nat) (K : AV → Mem → Nat → Prop) : Prop :=
 match args with
 | .yld id :: rest => opt (lk mem id) fun b => match b with
  | .loop sl nt ps ca cb st pd => match hasRF ca with
   | false => match hasRF cb with
    | false => opt (putPs nt ps.toList rest sl) fun sl' => fwp true P Γ H ca ⟨sl', mem, nx, nt⟩ fun e s1 => match e with
     | .normal => stK s1 fun sl1 m1 n1 t1 => opt (lk m1 id) fun b1 => match b1 with
      | .loop sl nt ps ca cb' .ready pd => upK m1 id (.loop sl nt ps ca cb' .busy pd) fun m2 => fwp true P Γ H cb ⟨sl1, m2, n1, t1⟩ fun e s3 => stK s3 fun _ m3 n3 _ => opt (lk m3 id) fun b3 => match b3 with
       | .loop sl nt ps ca cb _ _ => match e with
        | .normal => upK m3 id (.loop sl nt ps ca cb .ready none) fun m => K (.bool true) m n3
        | .ret => upK m3 id (.loop sl nt ps ca cb .done (some .ret)) fun m => K (.bool false) m n3
        | .exit i => upK m3 id (.loop sl nt ps ca cb .done (some (.exit i))) fun m => K (.bool false) m n3
        | _ => False
       | _ => False
      | _ => False
     | _ => False
    | true => False
   | true => False
  | _ => False
 | _ => False
theorem fRound_sound {P : Program} {Γ : List (Nat × AV)} {H : Hk} (hH : ∀ B, HkOK P Γ B H) {args : List AV} {mem : Mem} {nx : Nat} {K : AV → Mem → Nat → Prop} {Kp : Value → Mem → Nat → Prop} (h : fRound P Γ H args mem nx K) : ACallsP P Γ YF args mem nx K Kp := by
 unfold fRound at h
 split at h <;> first | exact h.elim | skip
 obtain ⟨b, h1, h⟩ := opt_iff.1 h
 split at h <;> first | exact h.elim | skip
 split at h <;> first | exact h.elim | skip
 rename_i ha
 split at h <;> first | exact h.elim | skip
 rename_i hb
 obtain ⟨sl', h2, h⟩ := opt_iff.1 h
 refine ACallsP.round h1 h2 ha hb ((fwp_sound (hH nx) _ _ _ h).mono fun e s1 h => ?_)
 unfold asgQ
 split at h <;> first | exact h.elim | skip
 obtain ⟨b1, h3, h⟩ := opt_iff.1 (stK_iff.1 h)
 simp only [h3]
 split at h <;> first | exact h.elim | skip
 refine (fwp_sound (hH nx) _ _ _ (upK_iff.1 h)).mono fun e s3 h => ?_
 unfold rndQ
 obtain ⟨b3, h4, h⟩ := opt_iff.1 (stK_iff.1 h)
 simp only [h4]
 split at h <;> first | exact h.elim | skip
 split at h
 ·exact upK_iff.1 h
 ·exact upK_iff.1 h
 ·exact upK_iff.1 h
 ·exact h.elim
def fdeep (P : Program) (Γ : List (Nat × AV)) (dl : List Nat) : Nat → Hk
 | 0 => { call := fun _ _ _ _ _ _ => False, loop := fun _ _ _ => False }
 | n + 1 => {
   call := fun F args mem nx K Kp => match Nat.beq F YF with
    | false => match P.funcs[F]? with
     | some fn => match fn.body with
      | some c => match memF F dl with
       | false => fEnter fn.ntmps args mem nx fun s => fwp true P Γ (fdeep P Γ dl n) c s (fRetP P fn.results.toList K Kp)
       | true => fEnter fn.ntmps args mem nx fun s => fwpD true P Γ (fdeep P Γ dl n) c s (retQD P Γ (fdeep P Γ dl n) fn.results.toList K Kp)
      | none => False
     | none => False
    | true => fRound P Γ (fdeep P Γ dl n) args mem nx K
   loop := fun c s Q => fwp true P Γ (fdeep P Γ dl n) c s fun e s' => match e with
    | .normal => (fdeep P Γ dl n).loop c s' Q
    | e => Q e s' }
theorem fdeep_sound (P : Program) (Γ : List (Nat × AV)) (dl : List Nat) : ∀ n B, HkOK P Γ B (fdeep P Γ dl n) ∧
  ∀ c s Q, (fdeep P Γ dl n).loop c s Q → ∀ rd X ds D ρ a w, (∀ i, D i → i < B) → SR Γ X ds ρ (dn D B s.nx) s a w → B ≤ s.nx → NoR rd ds c →
   Code.roundsIn (FW rd) 0 P c (fun e a' w' => ∃ (s' : St) (ρ' : Nat → Loc), Q e s' ∧ B ≤ s'.nx ∧ SR Γ X ds ρ' (dn D B s'.nx) s' a' w' ∧ Ext D ρ s.mem w ρ' (dn D B s'.nx) s'.mem w') n a w := by
 intro n
 induction n with
 | zero => exact fun B => ⟨⟨fun _ _ _ _ _ _ h => h.elim, fun _ _ _ h => h.elim⟩, fun _ _ _ h => h.elim⟩
 | succ n ih =>
  intro B
  have hr : ∀ c s Q, (fdeep P Γ dl (n + 1)).loop c s Q → ∀ rd X ds D ρ a w, (∀ i, D i → i < B) → SR Γ X ds ρ (dn D B s.nx) s a w → B ≤ s.nx → NoR rd ds c →
    Code.roundsIn (FW rd) 0 P c (fun e a' w' => ∃ (s' : St) (ρ' : Nat → Loc), Q e s' ∧ B ≤ s'.nx ∧ SR Γ X ds ρ' (dn D B s'.nx) s' a' w' ∧ Ext D ρ s.mem w ρ' (dn D B s'.nx) s'.mem w') (n + 1) a w := by
   intro c s Q h rd X ds D ρ a w hD hs hB hno
   have h' := (fwp_sound (ih B).1 c s _ h).run rd X ds D ρ a w hD hs hB hno
   rw [roundsIn_succ]
   refine wpIn_mono h' ?_
   rintro e a1 w1 ⟨s1, ρ1, hq, hB1, hs1, hext⟩
   cases e with
   | normal =>
    have key := (ih B).2 c s1 Q hq rd X ds D ρ1 a1 w1 hD hs1 hB1 hno
    refine rounds_mono n a1 w1 _ _ ?_ key
    rintro e a2 w2 ⟨s2, ρ2, h1, h2, h3, h4⟩
    exact ⟨s2, ρ2, h1, h2, h3, hext.trans h4⟩
   | exit id => exact ⟨s1, ρ1, hq, hB1, hs1, hext⟩
   | goto l => exact ⟨s1, ρ1, hq, hB1, hs1, hext⟩
   | ret => exact ⟨s1, ρ1, hq, hB1, hs1, hext⟩
   | panic ch => exact ⟨s1, ρ1, hq, hB1, hs1, hext⟩
   | outgrown => exact ⟨s1, ρ1, hq, hB1, hs1, hext⟩
  refine ⟨⟨fun F args mem nx K Kp h => ?_, fun c s Q h => ⟨fun rd X ds D ρ a w hD hs hB hno => wpIn_loop_rounds (n + 1) (hr c s Q h rd X ds D ρ a w hD hs hB hno.loop)⟩⟩, hr⟩
  simp only [fdeep] at h
  split at h
  ·rename_i hF
   split at h
   ·rename_i fn hf
    split at h
    ·rename_i c hc
     split at h
     ·exact acallsP_of_awp hf hc ((fwp_sound (ih nx).1 _ _ _ (fEnter_iff h)).mono fun _ _ h => fRetP_a h) hF
     ·exact acallsP_of_awpD hf hc (fwpD_sound (fun B => (ih B).1) nx _ _ _ (fEnter_iff h)) hF
    ·exact h.elim
   ·exact h.elim
  ·rename_i hF
   have e := Nat.eq_of_beq_eq_true hF
   subst e
   exact fRound_sound (fun B => (ih B).1) h
theorem acalls_closed {P : Program} {Γ : List (Nat × AV)} {F : FuncId} {args : List AV} {mem : Mem} {nx : Nat} {Q : AV → Mem → Nat → Prop} (dl : List Nat) (n : Nat) (h : (fdeep P Γ dl n).call F args mem nx Q fun _ _ _ => False) : ACalls P Γ F args mem nx Q :=
 ((fdeep_sound P Γ dl n nx).1.call F args mem nx Q _ h).toC fun _ _ _ h => h
end Go.Ax
