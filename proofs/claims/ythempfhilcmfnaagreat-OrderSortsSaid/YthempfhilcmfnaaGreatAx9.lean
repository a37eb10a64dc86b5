/- A part of the proof. -/
import Derived.Test.YthempfhilcmfnaaGreatAx8
import Derived.Below
import Derived.Lib.ConvBytes
import Derived.Lib.ItoaMem
import Derived.ChangeMaps5
import Derived.Lib.LaidTab
import Derived.Lib.ItoaNum
import Derived.Recover
set_option linter.unusedVariables false
namespace Go.Ax
open Go
theorem nn {v : AV} (h : NN v := by
  repeat' first
   | assumption
   | exact NN.int _ _
   | exact NN.bool _
   | exact NN.str _
   | exact NN.nsl
   | exact NN.nptr
   | exact NN.nif
   | exact NN.nfn
   | exact NN.nmap
   | exact NN.junk
   | exact encV_nn _
   | exact encVs_nn _
   | exact encI_nn _
   | exact NNs.nil
   | refine NNs.cons ?_ ?_
   | refine NN.agg' ?_
   | refine NN.tup' ?_
   | refine NN.il' ?_
   | refine NN.ip' ?_
   | refine NN.ifc _ _ ?_
   | exact NN.fn _ _ _ (by simp) (by simp)) : NN v := h
theorem nns {l : List AV} (h : NNs l := by
  repeat' first
   | assumption
   | exact NN.int _ _
   | exact NN.bool _
   | exact NN.str _
   | exact NN.nsl
   | exact NN.nptr
   | exact NN.nif
   | exact NN.nfn
   | exact NN.nmap
   | exact NN.junk
   | exact encV_nn _
   | exact encVs_nn _
   | exact encI_nn _
   | exact NNs.nil
   | refine NNs.cons ?_ ?_
   | refine NN.agg' ?_
   | refine NN.tup' ?_
   | refine NN.il' ?_
   | refine NN.ip' ?_
   | refine NN.ifc _ _ ?_
   | exact NN.fn _ _ _ (by simp) (by simp)) : NNs l := h
section
variable {P : Program} {Γ : List (Nat × AV)} {F : FuncId} {args : List AV} {r : AV} {mem : Mem} {nx : Nat} {K : AV → Mem → Nat → Prop}
theorem PureC.go (h : PureC P [] F args r) (hk : K r mem nx) (ha : NNs args := by exact nns) (hr : NN r := by exact nn) : ACalls P [] F args mem nx K := h.use nnΓ ha hr hk
end
theorem ACalls.glob {P : Program} {Γ : List (Nat × AV)} {F : FuncId} {args : List AV} {mem : Mem} {nx : Nat} {Q : AV → Mem → Nat → Prop} (h : ACalls P [] F args mem nx Q) : ACalls P Γ F args mem nx Q := by
 refine ⟨fun X D ρ w vs hD hm hv => ?_⟩
 refine (h.run X D ρ w vs hD ⟨hm.low, hm.blk, hm.emp, hm.inj, hm.nod, hm.bar, (fun p hp => by cases hp)⟩ hv).mono ?_
 rintro e w' ⟨r, v, m, n, ρ', h1, h2, h3, h4, h5, h6⟩
 exact ⟨r, v, m, n, ρ', h1, h2, h3, ⟨h4.low, h4.blk, h4.emp, h4.inj, h4.nod, h4.bar, fun p hp => h6.vr (hm.glo p hp)⟩, h5, h6⟩
def sameN : List (Nat × Nat) → Bool
 | [] => true
 | (i, j) :: r => Nat.beq i j && sameN r
theorem sameN_sound : ∀ {σ : List (Nat × Nat)}, sameN σ = true → ∀ p ∈ σ, p.1 = p.2
 | [], h, p, hp => by cases hp
 | (i, j) :: r, h, p, hp => by
  simp only [sameN, Bool.and_eq_true] at h
  rcases List.mem_cons.1 hp with rfl | hp
  ·exact Nat.eq_of_beq_eq_true h.1
  ·exact sameN_sound h.2 p hp
theorem ACalls.pre {P : Program} {Γ : List (Nat × AV)} {F : FuncId} {args args' : List AV} {mem mem' : Mem} {nx : Nat} {K : AV → Mem → Nat → Prop} (hΓ : ∀ p ∈ Γ, NN p.2) (σ : List (Nat × Nat)) (hid : (sameN σ && nodM mem') = true)
  (hM : MemConv mem σ mem') (hargs : CvL mem σ args args') (h : ACalls P Γ F args' mem' nx K) : ACalls P Γ F args mem nx K := by
 simp only [Bool.and_eq_true] at hid
 have hid1 := sameN_sound hid.1
 have hnod := nodM_sound hid.2
 refine ⟨fun X D ρ w vs hD hm hv => ?_⟩
 have hσ : ∀ id id', lk σ id = some id' → D id → D id' ∧ ρ id' = ρ id := by
  intro id id' h hd
  have := hid1 _ (lk_mem h)
  simp only at this
  subst this
  exact ⟨hd, rfl⟩
 have hinj : Inj σ := fun i j k h1 h2 => by
  have a := hid1 _ (lk_mem h1)
  have b := hid1 _ (lk_mem h2)
  simp only at a b
  omega
 obtain ⟨m1, v1, o1⟩ := hm.turn (D' := D) (ρ' := ρ) hΓ hσ hM.cvm hnod hinj
 have hvs : VRL ρ D (OX X ρ mem') w args' vs := ⟨by rw [← hargs.1]; exact hv.1, fun j c' x hc' hx => by
   obtain ⟨c, hc⟩ := get_of_len hargs.1 hc'
   exact v1 c c' (hargs.2 j c c' hc hc') _ (hv.2 j c x hc hx)⟩
 refine (h.run X D ρ w vs hD m1 hvs).mono ?_
 rintro e w' ⟨r, v, m, n, ρ', h1, h2, h3, h4, h5, h6⟩
 refine ⟨r, v, m, n, ρ', h1, h2, h3, h4, h5, ?_⟩
 have e0 : Ext D ρ mem w ρ D mem' w := ⟨fun i hi => hi, fun _ _ => rfl, Nat.le_refl _, fun _ _ _ => rfl, fun p hp hn => .inl (o1 p hp hn), .refl _⟩
 exact e0.trans h6
section
variable {mem : Mem} {σ : List (Nat × Nat)}
theorem Cv.int {k : IntKind} {a b : Int} (h : a = b) : Cv mem σ (.int k a) (.int k b) := by rw [h]; exact .same _ (.int _ _)
theorem Cv.w64 {x y : Int} (h : x = y) (hb : i64 y) : Cv mem σ (.int .i64 (IntKind.i64.wrap x)) (.int .i64 y) := by rw [h, wrap64 hb]; exact .same _ (.int _ _)
theorem Cv.bool {a b : Bool} (h : a = b) : Cv mem σ (.bool a) (.bool b) := by rw [h]; exact .same _ (.bool _)
end
theorem w64 {x y : Int} (h : x = y) (hb : i64 y) : IntKind.i64.wrap x = y := by rw [h, wrap64 hb]
section
variable {P : Program} {Γ : List (Nat × AV)} {F : FuncId} {args : List AV} {r : AV} {mem : Mem} {nx : Nat} {K : AV → Mem → Nat → Prop}
theorem ACalls.goG0 {Qs : AV → Mem → Nat → Prop} (h : ACalls P [] F args [] 0 Qs) (hk : ∀ r m n, Qs r m n → ∃ r', Cv m [] r r' ∧ K r' mem nx) (ha : NNs args := by exact nns) : ACalls P Γ F args mem nx K :=
 (ACalls.call0 nnΓ h ha hk).glob
end
end Go.Ax
namespace Go.Ax
open Go
section
variable {P : Program} {Γ : List (Nat × AV)} {B : Nat}
structure ALoop (P : Program) (Γ : List (Nat × AV)) (B : Nat) (c : Code) (s : St) (Q : Exit → St → Prop) : Prop where
 run : AWp P Γ B (.loop c) s Q
def seqQ (P : Program) (Γ : List (Nat × AV)) (B : Nat) (y : Code) (Q : Exit → St → Prop) (e : Exit) (s : St) : Prop :=
 match e with
 | .normal => AWp P Γ B y s Q
 | e => Q e s
def blkQ (id : Nat) (Q : Exit → St → Prop) (e : Exit) (s : St) : Prop :=
 match e with
 | .exit i => match Nat.beq i id with
  | true => Q .normal s
  | false => Q (.exit i) s
 | e => Q e s
theorem aOps_no {ops : List Oper} {K : St → Prop} {Kp : Value → St → Prop} : ∀ {l : List Oper} {s : St}, aOps P Γ (sem P Γ B) ops l s K (fun _ _ => False) → aOps P Γ (sem P Γ B) ops l s K Kp
 | [], s, h => h
 | o :: r, s, h => by
  simp only [aOps] at h ⊢
  split
  ·rename_i h1; simp only [h1] at h
  ·rename_i h1
   simp only [h1] at h
   split
   ·rename_i h2; simp only [h2] at h; exact aOps_no h
   ·rename_i h2; simp only [h2] at h
  ·rename_i h1
   simp only [h1] at h
   split
   ·rename_i h2
    simp only [h2] at h
    split
    ·rename_i h3; simp only [h3] at h; exact aOps_no h
    ·rename_i h3; simp only [h3] at h
   ·rename_i h2
    simp only [h2] at h
    split
    ·rename_i h3
     simp only [h3] at h
     refine ACalls.mono h fun v m n h => ?_
     split
     ·rename_i h4; simp only [h4] at h; exact aOps_no h
     ·rename_i h4; simp only [h4] at h
    ·rename_i h3
     simp only [h3] at h
     split at h <;> exact h.elim
theorem vrun_no {ops : List Oper} {tr : List (List Nat)} {base : Nat} {K : St → Prop} {Kp : Value → Mem → Nat → Prop} : ∀ {l : List Nat} {recs : List Rec} {s : St}, vrun P Γ (sem P Γ B) ops tr base K (fun _ _ _ => False) l recs s → vrun P Γ (sem P Γ B) ops tr base K Kp l recs s
 | [], recs, s, h => h
 | i :: r, recs, s, h => by
  simp only [vrun] at h ⊢
  split
  ·rename_i h1; simp only [h1] at h
  ·rename_i o h1
   simp only [h1] at h
   split
   ·rename_i h2; simp only [h2] at h
   ·rename_i h2
    simp only [h2] at h
    split
    ·rename_i h3; simp only [h3] at h; exact vrun_no h
    ·rename_i h3; simp only [h3] at h
   ·rename_i h2
    simp only [h2] at h
    split
    ·rename_i hk
     simp only [hk] at h
     split
     ·rename_i h3
      simp only [h3] at h
      split
      ·rename_i h4; simp only [h4] at h; exact vrun_no h
      ·rename_i h4; simp only [h4] at h
     ·rename_i h3; simp only [h3] at h
    ·rename_i hk
     simp only [hk] at h
     split
     ·rename_i h3
      simp only [h3] at h
      split
      ·rename_i h4; simp only [h4] at h; exact vrun_no h
      ·rename_i h4; simp only [h4] at h
     ·rename_i h3
      split at h
      ·rename_i h4; exact (h3 _ _ _ _ h4).elim
      ·exact h
    ·rename_i hk
     simp only [hk] at h
     split
     ·rename_i h3
      simp only [h3] at h
      split
      ·rename_i h4; simp only [h4] at h; exact ⟨h.1, vrun_no h.2⟩
      ·rename_i h4; simp only [h4] at h
     ·rename_i h3
      simp only [h3] at h
      split
      ·rename_i h4
       simp only [h4] at h
       refine ACalls.mono h fun v m n h => ?_
       split
       ·rename_i h5; simp only [h5] at h; exact ⟨h.1, vrun_no h.2⟩
       ·rename_i h5; simp only [h5] at h
      ·rename_i h4; simp only [h4] at h
structure AOps (P : Program) (Γ : List (Nat × AV)) (B : Nat) (ops l : List Oper) (s : St) (K : St → Prop) : Prop where
 run : aOps P Γ (sem P Γ B) ops l s K fun _ _ => False
def fo1 (P : Program) (Γ : List (Nat × AV)) (B : Nat) (ops l : List Oper) (s : St) (K : St → Prop) : Prop :=
 match l with
 | [] => K s
 | o :: r => stK s fun sl mem nx nt => fWant ops sl o.guard
   (fEff false P Γ (sem P Γ B) sl mem nx o.op (fun v mem nx => fPut s o.dst v mem nx fun s' => AOps P Γ B ops r s' K) fun _ _ _ => False)
   (fPut s o.dst (.tup []) mem nx fun s' => AOps P Γ B ops r s' K)
theorem AOps.go {ops l : List Oper} {s : St} {K : St → Prop} (h : fo1 P Γ B ops l s K) : AOps P Γ B ops l s K := by
 refine ⟨?_⟩
 cases l with
 | nil => exact h
 | cons o r =>
  have h : fWant ops s.sl o.guard (fEff false P Γ (sem P Γ B) s.sl s.mem s.nx o.op (fun v mem nx => fPut s o.dst v mem nx fun s' => AOps P Γ B ops r s' K) fun _ _ _ => False) (fPut s o.dst (.tup []) s.mem s.nx fun s' => AOps P Γ B ops r s' K) := h
  simp only [aOps]
  rcases fWant_a h with ⟨h1, h⟩ | ⟨h1, h⟩
  ·simp only [h1]
   rcases fEff_a h with ⟨v, m, n, h2, h⟩ | ⟨h2, F, l, h3, h⟩
   ·obtain ⟨s', h4, h⟩ := fPut_a h
    simp only [h2, h4]
    exact h.run
   ·simp only [h2, h3]
    refine (show ACalls P Γ F l s.mem s.nx _ from h).mono fun v m n h => ?_
    obtain ⟨s', h4, h⟩ := fPut_a h
    simp only [h4]
    exact h.run
  ·obtain ⟨s', h4, h⟩ := fPut_a h
   simp only [h1, h4]
   exact h.run
structure ADr (P : Program) (Γ : List (Nat × AV)) (B : Nat) (ops : List Oper) (tr : List (List Nat)) (base : Nat) (K : St → Prop) (l : List Nat) (recs : List Rec) (s : St) : Prop where
 run : vrun P Γ (sem P Γ B) ops tr base K (fun _ _ _ => False) l recs s
def fd1 (P : Program) (Γ : List (Nat × AV)) (B : Nat) (ops : List Oper) (tr : List (List Nat)) (base : Nat) (K : St → Prop) (l : List Nat) (recs : List Rec) (s : St) : Prop :=
 match l with
 | [] => K s
 | i :: r => match ops[i]? with
  | none => False
  | some o => stK s fun sl mem nx nt => fWant ops sl o.guard
   (match kind P o.op with
    | .pure => match still o.op with
     | true => fStep false P Γ sl [] nx o.op fun v _ _ => fPut s o.dst v mem nx fun s' => ADr P Γ B ops tr base K r (⟨i, sl, true, v⟩ :: recs) s'
     | false => filterK (fun p => vis tr base ops.length i p.1) mem fun m => fStep false P Γ sl m nx o.op fun v _ _ => fPut s o.dst v mem nx fun s' => ADr P Γ B ops tr base K r (⟨i, sl, true, v⟩ :: recs) s'
    | .al => natK (base + i) fun id => fStep false P Γ sl [] id o.op fun v m _ => match m with
     | [(_, b)] => fPut s o.dst v ((id, b) :: mem) nx fun s' => ADr P Γ B ops tr base K r (⟨i, sl, true, v⟩ :: recs) s'
     | _ => False
    | .eff => filterK (fun p => vis tr base ops.length i p.1) mem fun m => fEff false P Γ (sem P Γ B) sl m nx o.op (fun v m nx' => filterK (fun p => !vis tr base ops.length i p.1) mem fun rest => filterK (fun p => !hasKey p.1 m) rest fun rest => appK m rest fun m =>
      fPut s o.dst v m nx' fun s' => fChk false P Γ ops tr base i m nx' recs (ADr P Γ B ops tr base K r recs s')) fun _ _ _ => False)
   (fPut s o.dst (.tup []) mem nx fun s' => ADr P Γ B ops tr base K r (⟨i, sl, false, .tup []⟩ :: recs) s')
theorem ADr.go {ops : List Oper} {tr : List (List Nat)} {base : Nat} {K : St → Prop} {l : List Nat} {recs : List Rec} {s : St} (h : fd1 P Γ B ops tr base K l recs s) : ADr P Γ B ops tr base K l recs s := by
 refine ⟨?_⟩
 cases l with
 | nil => exact h
 | cons i r =>
  simp only [fd1] at h
  simp only [vrun]
  split at h
  ·exact h.elim
  ·rename_i o ho
   simp only [ho]
   have h := stK_iff.1 h
   rcases fWant_a h with ⟨h1, h⟩ | ⟨h1, h⟩
   ·simp only [h1]
    split at h
    ·rename_i hkd
     simp only [hkd]
     split at h
     ·rename_i hst
      obtain ⟨v, m, n, h2, h⟩ := fStep_a (s := { sl := s.sl, mem := [], nx := s.nx, nt := s.nt }) h
      obtain ⟨m', n', h2'⟩ := aStep_still (s := { sl := s.sl, mem := [], nx := s.nx, nt := s.nt }) (s' := { s with mem := seen tr base ops.length i s.mem }) hst rfl h2
      obtain ⟨s', h3, h⟩ := fPut_a h
      simp only [h2', h3]
      exact h.run
     ·have h := filterK_iff.1 h
      obtain ⟨v, m, n, h2, h⟩ := fStep_a (s := { s with mem := seen tr base ops.length i s.mem }) h
      obtain ⟨s', h3, h⟩ := fPut_a h
      simp only [h2, h3]
      exact h.run
    ·rename_i hkd
     simp only [hkd]
     have h := natK_iff.1 h
     obtain ⟨v, m, n, h2, h⟩ := fStep_a (s := { s with mem := [], nx := base + i }) h
     simp only [h2]
     split at h
     ·obtain ⟨s', h3, h⟩ := fPut_a h
      simp only [h3]
      exact h.run
     ·exact h.elim
    ·rename_i hkd
     simp only [hkd]
     have h := filterK_iff.1 h
     rcases fEff_a (s := { s with mem := seen tr base ops.length i s.mem }) h with ⟨v, m, n, h2, h⟩ | ⟨h2, F, l, h3, h⟩
     ·simp only [h2]
      have h := appK_iff.1 (filterK_iff.1 (filterK_iff.1 h))
      obtain ⟨s', h3, h⟩ := fPut_a h
      have h3 : stepSt s o.dst v (m ++ back m (unseen tr base ops.length i s.mem)) n = some s' := h3
      simp only [h3]
      obtain ⟨e1, e2, _⟩ := stepSt_parts h3
      have h : fChk false P Γ ops tr base i (m ++ back m (unseen tr base ops.length i s.mem)) n recs (ADr P Γ B ops tr base K r recs s') := h
      rw [← e1, ← e2] at h
      obtain ⟨h4, h⟩ := fChk_a h
      exact ⟨h4, h.run⟩
     ·rw [aCall_congr (s' := s) (fun x _ => by cases x <;> rfl)] at h3
      simp only [h2, h3]
      refine (show ACalls P Γ F l _ _ _ from h).mono fun v m n h => ?_
      have h := appK_iff.1 (filterK_iff.1 (filterK_iff.1 h))
      obtain ⟨s', h3, h⟩ := fPut_a h
      have h3 : stepSt s o.dst v (m ++ back m (unseen tr base ops.length i s.mem)) n = some s' := h3
      simp only [h3]
      obtain ⟨e1, e2, _⟩ := stepSt_parts h3
      have h : fChk false P Γ ops tr base i (m ++ back m (unseen tr base ops.length i s.mem)) n recs (ADr P Γ B ops tr base K r recs s') := h
      rw [← e1, ← e2] at h
      obtain ⟨h4, h⟩ := fChk_a h
      exact ⟨h4, h.run⟩
   ·obtain ⟨s', h3, h⟩ := fPut_a h
    simp only [h1, h3]
    exact h.run
def fReg (P : Program) (Γ : List (Nat × AV)) (B : Nat) (ops : List Oper) (s : St) (Q : Exit → St → Prop) : Prop :=
 match P.follows .mixedOrders with
 | true => match okDraw P ops (eager P ops ops.length [] (upto ops.length)) with
  | true => stK s fun sl mem nx nt => natK (nx + ops.length) fun n => listK (eager P ops ops.length [] (upto ops.length)) fun ord => ADr P Γ B ops (trs ops []) nx (fun s' => Q .normal s') ord [] ⟨sl, mem, n, nt⟩
  | false => False
 | false => False
def scpQ (Q : Exit → St → Prop) (e : Exit) (s : St) : Prop :=
 match e with
 | .goto _ => False
 | e => Q e s
def fw1 (P : Program) (Γ : List (Nat × AV)) (B : Nat) (c : Code) (s : St) (Q : Exit → St → Prop) : Prop :=
 match c with
 | .skip => Q .normal s
 | .seq x y => AWp P Γ B x s (seqQ P Γ B y Q)
 | .cond c x y => stK s fun sl _ _ _ => fev Γ sl c fun v => match v with
  | .bool b => bcs b (AWp P Γ B x s Q) (AWp P Γ B y s Q)
  | _ => False
 | .block id c => AWp P Γ B c s (blkQ id Q)
 | .loop c => ALoop P Γ B c s Q
 | .label _ => Q .normal s
 | .scope c => AWp P Γ B c s (scpQ Q)
 | .exit i => Q (.exit i) s
 | .ret => Q .ret s
 | .region _ ops draw => match draw with
  | false => AOps P Γ B ops.toList ops.toList s fun s' => Q .normal s'
  | true => fReg P Γ B ops.toList s Q
 | .rangeFunc g ps ca cb => fwp false P Γ (sem P Γ B) (.rangeFunc g ps ca cb) s Q
 | _ => False
theorem AWp.go {c : Code} {s : St} {Q : Exit → St → Prop} (h : fw1 P Γ B c s Q) : AWp P Γ B c s Q := by
 cases c with
 | skip => exact fwp_sound (cl := false) sem_ok .skip s Q h
 | exit i => exact fwp_sound (cl := false) sem_ok (.exit i) s Q h
 | ret => exact fwp_sound (cl := false) sem_ok .ret s Q h
 | loop c => exact (show ALoop P Γ B c s Q from h).run
 | label l => exact fwp_sound (cl := false) sem_ok (.label l) s Q h
 | rangeFunc g ps ca cb => exact fwp_sound (cl := false) sem_ok (.rangeFunc g ps ca cb) s Q h
 | scope c =>
  have h : AWp P Γ B c s (scpQ Q) := h
  refine ⟨fun rd X ds D ρ a w hD hs hB hr => wpIn_scope (wpIn_mono (h.run rd X ds D ρ a w hD hs hB hr.scope) ?_)⟩
  rintro e a' w' ⟨s', ρ', hq, hB', hs', hext⟩
  cases e with
  | goto l => exact (show False from hq).elim
  | normal => exact ⟨s', ρ', hq, hB', hs', hext⟩
  | exit i => exact ⟨s', ρ', hq, hB', hs', hext⟩
  | ret => exact ⟨s', ρ', hq, hB', hs', hext⟩
  | panic c => exact ⟨s', ρ', hq, hB', hs', hext⟩
  | outgrown => exact ⟨s', ρ', hq, hB', hs', hext⟩
 | seq x y =>
  have h : AWp P Γ B x s (seqQ P Γ B y Q) := h
  refine ⟨fun rd X ds D ρ a w hD hs hB hr => wpIn_seq (wpIn_mono (h.run rd X ds D ρ a w hD hs hB hr.seq1) ?_)⟩
  rintro e a' w' ⟨s', ρ', hq, hB', hs', hext⟩
  cases e with
  | normal =>
   refine wpIn_mono ((show AWp P Γ B y s' Q from hq).run rd X ds D ρ' a' w' hD hs' hB' hr.seq2) ?_
   rintro e a2 w2 ⟨s2, ρ2, h1, h2, h3, h4⟩
   exact ⟨s2, ρ2, h1, h2, h3, hext.trans h4⟩
  | exit i => exact ⟨s', ρ', hq, hB', hs', hext⟩
  | goto l => exact ⟨s', ρ', hq, hB', hs', hext⟩
  | ret => exact ⟨s', ρ', hq, hB', hs', hext⟩
  | panic c => exact ⟨s', ρ', hq, hB', hs', hext⟩
  | outgrown => exact ⟨s', ρ', hq, hB', hs', hext⟩
 | cond c x y =>
  have h : fev Γ s.sl c fun v => match v with
   | .bool b => bcs b (AWp P Γ B x s Q) (AWp P Γ B y s Q)
   | _ => False := h
  obtain ⟨v, h1, h⟩ := fev_ev h
  split at h
  ·rename_i b
   refine ⟨fun rd X ds D ρ a w hD hs hB hr => ?_⟩
   have hv := ev_sound hs h1
   generalize he : a.eval c = cv at hv
   cases hv
   cases b with
   | true => exact wpIn_cond_true he ((show AWp P Γ B x s Q from h).run rd X ds D ρ a w hD hs hB hr.cond1)
   | false => exact wpIn_cond_false he ((show AWp P Γ B y s Q from h).run rd X ds D ρ a w hD hs hB hr.cond2)
  ·exact h.elim
 | block id c =>
  have h : AWp P Γ B c s (blkQ id Q) := h
  refine ⟨fun rd X ds D ρ a w hD hs hB hr => wpIn_block (wpIn_mono (h.run rd X ds D ρ a w hD hs hB hr.block) ?_)⟩
  rintro e a' w' ⟨s', ρ', hq, hB', hs', hext⟩
  cases e with
  | exit i =>
   simp only [Exit.inBlock]
   simp only [blkQ] at hq
   split at hq
   ·rename_i hi; rw [if_pos (Nat.eq_of_beq_eq_true hi)]; exact ⟨s', ρ', hq, hB', hs', hext⟩
   ·rename_i hi; rw [if_neg (Nat.ne_of_beq_eq_false hi)]; exact ⟨s', ρ', hq, hB', hs', hext⟩
  | normal => exact ⟨s', ρ', hq, hB', hs', hext⟩
  | goto l => exact ⟨s', ρ', hq, hB', hs', hext⟩
  | ret => exact ⟨s', ρ', hq, hB', hs', hext⟩
  | panic c => exact ⟨s', ρ', hq, hB', hs', hext⟩
  | outgrown => exact ⟨s', ρ', hq, hB', hs', hext⟩
 | region id ops draw =>
  cases draw with
  | false => exact awp_sound sem_ok (.region id ops false) s Q (aOps_no (show AOps P Γ B ops.toList ops.toList s _ from h).run)
  | true =>
   refine awp_sound sem_ok (.region id ops true) s Q ?_
   have h : fReg P Γ B ops.toList s Q := h
   unfold fReg at h
   simp only [awp]
   split at h
   ·rename_i hmix
    simp only [hmix]
    split at h
    ·rename_i hok
     simp only [aDraw, hok]
     exact vrun_no (listK_iff.1 (natK_iff.1 (stK_iff.1 h))).run
    ·exact h.elim
   ·exact h.elim
 | _ => exact (show False from h).elim
theorem acalls_go {F : FuncId} {fn : Func} {c : Code} {args : List AV} {mem : Mem} {nx : Nat} {Q : AV → Mem → Nat → Prop} (hΓ : ∀ p ∈ Γ, NN p.2) (hf : P.funcs[F]? = some fn) (hb : fn.body = some c)
  (h : fEnter fn.ntmps args mem nx fun s => AWp P Γ nx c s (fRet P fn.results.toList (Fini nx Q))) (hF : Nat.beq F YF = false := by rfl) : ACalls P Γ F args mem nx Q :=
 (acalls_of_awp hf hb ((fEnter_iff h).mono fun _ _ h => fRet_a h) hF).turn hΓ
theorem ACalls.yield {id : Nat} {args : List AV} {mem : Mem} {nx : Nat} {K : AV → Mem → Nat → Prop} {sl sl' : List (Nat × AV)} {nt : Nat} {ps : Array Tmp} {ca cb : Code} {st : LoopState} {pd : Option Code}
  (hl : lk mem id = some (.loop sl nt ps ca cb st pd)) (hp : putPs nt ps.toList args sl = some sl') (ha : hasRF ca = false) (hb : hasRF cb = false)
  (h : AWp P Γ nx ca ⟨sl', mem, nx, nt⟩ (asgQ P Γ nx id cb K)) : ACalls P Γ YF (.yld id :: args) mem nx K :=
 (ACallsP.round (Kp := fun _ _ _ => False) hl hp ha hb h).toC fun _ _ _ h => h
def loopQ {α : Type} (B : Nat) (R : α → Prop) (I : α → St) (μ : α → Nat) (x : α) (Q : Exit → St → Prop) (e : Exit) (s : St) : Prop :=
 match e with
 | .normal => Again B R I μ x s
 | e => Q e s
theorem ALoop.at {c : Code} {s : St} {Q : Exit → St → Prop} {α : Type} (hΓ : ∀ p ∈ Γ, NN p.2) (R : α → Prop) (I : α → St) (μ : α → Nat) (x : α) (σ : List (Nat × Nat)) (hx : R x) (h0 : Conv B σ s (I x))
  (h : ∀ x, R x → AWp P Γ B c (I x) (loopQ B R I μ x Q)) : ALoop P Γ B c s Q := by
 refine ⟨AWp.conv hΓ h0 ?_⟩
 refine AWp.loop (α := { x : α // R x }) hΓ (fun x => I x.1) (fun x => μ x.1) (fun x => ?_) ⟨x, hx⟩
 refine (h x.1 x.2).mono fun e s h => ?_
 cases e with
 | normal =>
  obtain ⟨y, σ, hy, hc, hlt⟩ := (show Again B R I μ x.1 s from h)
  exact ⟨⟨y, hy⟩, σ, hc, hlt⟩
 | exit i => exact h
 | goto l => exact h
 | ret => exact h
 | panic c => exact h
 | outgrown => exact h
theorem ALoop.ph {c : Code} {s : St} {Q : Exit → St → Prop} (t : TypeId) (sz : Nat) (h : ALoop P Γ B c ⟨s.sl, (s.nx, .row t sz []) :: s.mem, s.nx + 1, s.nt⟩ Q) : ALoop P Γ B c s Q := ⟨AWp.ph t sz h.run⟩
def foA (P : Program) (Γ : List (Nat × AV)) (B : Nat) (ops : List Oper) (K : St → Prop) (next : List Oper → St → Prop) (l : List Oper) (s : St) : Prop :=
 match l with
 | [] => K s
 | o :: r => stK s fun sl mem nx nt => fWant ops sl o.guard
   (fEff false P Γ (sem P Γ B) sl mem nx o.op (fun v mem nx => fPut s o.dst v mem nx fun s' => next r s') fun _ _ _ => False)
   (fPut s o.dst (.tup []) mem nx fun s' => next r s')
theorem foA_ok {ops : List Oper} {K : St → Prop} {next : List Oper → St → Prop} (hn : ∀ r s, next r s → AOps P Γ B ops r s K) {l : List Oper} {s : St} (h : foA P Γ B ops K next l s) : AOps P Γ B ops l s K := by
 refine ⟨?_⟩
 cases l with
 | nil => exact h
 | cons o r =>
  have h : fWant ops s.sl o.guard (fEff false P Γ (sem P Γ B) s.sl s.mem s.nx o.op (fun v mem nx => fPut s o.dst v mem nx fun s' => next r s') fun _ _ _ => False) (fPut s o.dst (.tup []) s.mem s.nx fun s' => next r s') := h
  simp only [aOps]
  rcases fWant_a h with ⟨h1, h⟩ | ⟨h1, h⟩
  ·simp only [h1]
   rcases fEff_a h with ⟨v, m, n, h2, h⟩ | ⟨h2, F, l, h3, h⟩
   ·obtain ⟨s', h4, h⟩ := fPut_a h
    simp only [h2, h4]
    exact (hn _ _ h).run
   ·simp only [h2, h3]
    refine (show ACalls P Γ F l s.mem s.nx _ from h).mono fun v m n h => ?_
    obtain ⟨s', h4, h⟩ := fPut_a h
    simp only [h4]
    exact (hn _ _ h).run
  ·obtain ⟨s', h4, h⟩ := fPut_a h
   simp only [h1, h4]
   exact (hn _ _ h).run
def fwA (P : Program) (Γ : List (Nat × AV)) (B : Nat) (next : Code → St → (Exit → St → Prop) → Prop) (c : Code) (s : St) (Q : Exit → St → Prop) : Prop :=
 match c with
 | .seq x y => next x s (seqQ P Γ B y Q)
 | .block id c => next c s (blkQ id Q)
 | c => fw1 P Γ B c s Q
theorem fwA_ok {next : Code → St → (Exit → St → Prop) → Prop} (hn : ∀ c s Q, next c s Q → AWp P Γ B c s Q) {c : Code} {s : St} {Q : Exit → St → Prop} (h : fwA P Γ B next c s Q) : AWp P Γ B c s Q := by
 cases c with
 | seq x y => exact AWp.go (show fw1 P Γ B (.seq x y) s Q from hn _ _ _ h)
 | block id c => exact AWp.go (show fw1 P Γ B (.block id c) s Q from hn _ _ _ h)
 | _ => exact AWp.go h
def foP0 (P : Program) (Γ : List (Nat × AV)) (B : Nat) (ops : List Oper) (K : St → Prop) (l : List Oper) (s : St) : Prop := AOps P Γ B ops l s K
theorem foP0_ok {ops : List Oper} {K : St → Prop} (l : List Oper) (s : St) (h : foP0 P Γ B ops K l s) : AOps P Γ B ops l s K := h
def foP1 (P : Program) (Γ : List (Nat × AV)) (B : Nat) (ops : List Oper) (K : St → Prop) (l : List Oper) (s : St) : Prop := foA P Γ B ops K (foP0 P Γ B ops K) l s
theorem foP1_ok {ops : List Oper} {K : St → Prop} (l : List Oper) (s : St) (h : foP1 P Γ B ops K l s) : AOps P Γ B ops l s K := foA_ok foP0_ok h
def foP2 (P : Program) (Γ : List (Nat × AV)) (B : Nat) (ops : List Oper) (K : St → Prop) (l : List Oper) (s : St) : Prop := foA P Γ B ops K (foP1 P Γ B ops K) l s
theorem foP2_ok {ops : List Oper} {K : St → Prop} (l : List Oper) (s : St) (h : foP2 P Γ B ops K l s) : AOps P Γ B ops l s K := foA_ok foP1_ok h
def foP3 (P : Program) (Γ : List (Nat × AV)) (B : Nat) (ops : List Oper) (K : St → Prop) (l : List Oper) (s : St) : Prop := foA P Γ B ops K (foP2 P Γ B ops K) l s
theorem foP3_ok {ops : List Oper} {K : St → Prop} (l : List Oper) (s : St) (h : foP3 P Γ B ops K l s) : AOps P Γ B ops l s K := foA_ok foP2_ok h
def foP4 (P : Program) (Γ : List (Nat × AV)) (B : Nat) (ops : List Oper) (K : St → Prop) (l : List Oper) (s : St) : Prop := foA P Γ B ops K (foP3 P Γ B ops K) l s
theorem foP4_ok {ops : List Oper} {K : St → Prop} (l : List Oper) (s : St) (h : foP4 P Γ B ops K l s) : AOps P Γ B ops l s K := foA_ok foP3_ok h
def foP5 (P : Program) (Γ : List (Nat × AV)) (B : Nat) (ops : List Oper) (K : St → Prop) (l : List Oper) (s : St) : Prop := foA P Γ B ops K (foP4 P Γ B ops K) l s
theorem foP5_ok {ops : List Oper} {K : St → Prop} (l : List Oper) (s : St) (h : foP5 P Γ B ops K l s) : AOps P Γ B ops l s K := foA_ok foP4_ok h
def foP6 (P : Program) (Γ : List (Nat × AV)) (B : Nat) (ops : List Oper) (K : St → Prop) (l : List Oper) (s : St) : Prop := foA P Γ B ops K (foP5 P Γ B ops K) l s
theorem foP6_ok {ops : List Oper} {K : St → Prop} (l : List Oper) (s : St) (h : foP6 P Γ B ops K l s) : AOps P Γ B ops l s K := foA_ok foP5_ok h
def foP7 (P : Program) (Γ : List (Nat × AV)) (B : Nat) (ops : List Oper) (K : St → Prop) (l : List Oper) (s : St) : Prop := foA P Γ B ops K (foP6 P Γ B ops K) l s
theorem foP7_ok {ops : List Oper} {K : St → Prop} (l : List Oper) (s : St) (h : foP7 P Γ B ops K l s) : AOps P Γ B ops l s K := foA_ok foP6_ok h
def foP8 (P : Program) (Γ : List (Nat × AV)) (B : Nat) (ops : List Oper) (K : St → Prop) (l : List Oper) (s : St) : Prop := foA P Γ B ops K (foP7 P Γ B ops K) l s
theorem foP8_ok {ops : List Oper} {K : St → Prop} (l : List Oper) (s : St) (h : foP8 P Γ B ops K l s) : AOps P Γ B ops l s K := foA_ok foP7_ok h
def foP9 (P : Program) (Γ : List (Nat × AV)) (B : Nat) (ops : List Oper) (K : St → Prop) (l : List Oper) (s : St) : Prop := foA P Γ B ops K (foP8 P Γ B ops K) l s
theorem foP9_ok {ops : List Oper} {K : St → Prop} (l : List Oper) (s : St) (h : foP9 P Γ B ops K l s) : AOps P Γ B ops l s K := foA_ok foP8_ok h
def foP10 (P : Program) (Γ : List (Nat × AV)) (B : Nat) (ops : List Oper) (K : St → Prop) (l : List Oper) (s : St) : Prop := foA P Γ B ops K (foP9 P Γ B ops K) l s
theorem foP10_ok {ops : List Oper} {K : St → Prop} (l : List Oper) (s : St) (h : foP10 P Γ B ops K l s) : AOps P Γ B ops l s K := foA_ok foP9_ok h
theorem AOps.many {ops l : List Oper} {s : St} {K : St → Prop} (h : foP10 P Γ B ops K l s) : AOps P Γ B ops l s K := foP10_ok l s h
def fwP0 (P : Program) (Γ : List (Nat × AV)) (B : Nat) (c : Code) (s : St) (Q : Exit → St → Prop) : Prop := AWp P Γ B c s Q
theorem fwP0_ok (c : Code) (s : St) (Q : Exit → St → Prop) (h : fwP0 P Γ B c s Q) : AWp P Γ B c s Q := h
def fwP1 (P : Program) (Γ : List (Nat × AV)) (B : Nat) (c : Code) (s : St) (Q : Exit → St → Prop) : Prop := fwA P Γ B (fwP0 P Γ B) c s Q
theorem fwP1_ok (c : Code) (s : St) (Q : Exit → St → Prop) (h : fwP1 P Γ B c s Q) : AWp P Γ B c s Q := fwA_ok fwP0_ok h
def fwP2 (P : Program) (Γ : List (Nat × AV)) (B : Nat) (c : Code) (s : St) (Q : Exit → St → Prop) : Prop := fwA P Γ B (fwP1 P Γ B) c s Q
theorem fwP2_ok (c : Code) (s : St) (Q : Exit → St → Prop) (h : fwP2 P Γ B c s Q) : AWp P Γ B c s Q := fwA_ok fwP1_ok h
def fwP3 (P : Program) (Γ : List (Nat × AV)) (B : Nat) (c : Code) (s : St) (Q : Exit → St → Prop) : Prop := fwA P Γ B (fwP2 P Γ B) c s Q
theorem fwP3_ok (c : Code) (s : St) (Q : Exit → St → Prop) (h : fwP3 P Γ B c s Q) : AWp P Γ B c s Q := fwA_ok fwP2_ok h
def fwP4 (P : Program) (Γ : List (Nat × AV)) (B : Nat) (c : Code) (s : St) (Q : Exit → St → Prop) : Prop := fwA P Γ B (fwP3 P Γ B) c s Q
theorem fwP4_ok (c : Code) (s : St) (Q : Exit → St → Prop) (h : fwP4 P Γ B c s Q) : AWp P Γ B c s Q := fwA_ok fwP3_ok h
def fwP5 (P : Program) (Γ : List (Nat × AV)) (B : Nat) (c : Code) (s : St) (Q : Exit → St → Prop) : Prop := fwA P Γ B (fwP4 P Γ B) c s Q
theorem fwP5_ok (c : Code) (s : St) (Q : Exit → St → Prop) (h : fwP5 P Γ B c s Q) : AWp P Γ B c s Q := fwA_ok fwP4_ok h
def fwP6 (P : Program) (Γ : List (Nat × AV)) (B : Nat) (c : Code) (s : St) (Q : Exit → St → Prop) : Prop := fwA P Γ B (fwP5 P Γ B) c s Q
theorem fwP6_ok (c : Code) (s : St) (Q : Exit → St → Prop) (h : fwP6 P Γ B c s Q) : AWp P Γ B c s Q := fwA_ok fwP5_ok h
def fwP7 (P : Program) (Γ : List (Nat × AV)) (B : Nat) (c : Code) (s : St) (Q : Exit → St → Prop) : Prop := fwA P Γ B (fwP6 P Γ B) c s Q
theorem fwP7_ok (c : Code) (s : St) (Q : Exit → St → Prop) (h : fwP7 P Γ B c s Q) : AWp P Γ B c s Q := fwA_ok fwP6_ok h
def fwP8 (P : Program) (Γ : List (Nat × AV)) (B : Nat) (c : Code) (s : St) (Q : Exit → St → Prop) : Prop := fwA P Γ B (fwP7 P Γ B) c s Q
theorem fwP8_ok (c : Code) (s : St) (Q : Exit → St → Prop) (h : fwP8 P Γ B c s Q) : AWp P Γ B c s Q := fwA_ok fwP7_ok h
theorem AWp.many {c : Code} {s : St} {Q : Exit → St → Prop} (h : fwP8 P Γ B c s Q) : AWp P Γ B c s Q := fwP8_ok c s Q h
class XG (p : Prop) (q : outParam Prop) : Prop where
 h : q → p
instance {c : Code} {s : St} {Q : Exit → St → Prop} : XG (AWp P Γ B c s Q) (fwP8 P Γ B c s Q) := ⟨AWp.many⟩
instance {ops l : List Oper} {s : St} {K : St → Prop} : XG (AOps P Γ B ops l s K) (foP10 P Γ B ops K l s) := ⟨AOps.many⟩
instance {ops : List Oper} {tr : List (List Nat)} {base : Nat} {K : St → Prop} {l : List Nat} {recs : List Rec} {s : St} : XG (ADr P Γ B ops tr base K l recs s) (fd1 P Γ B ops tr base K l recs s) := ⟨ADr.go⟩
theorem Xg {p q : Prop} [i : XG p q] (x : q) : p := i.h x
end
end Go.Ax
namespace Go.Ax
open Go
def inL (i : Nat) : List Nat → Bool
 | [] => false
 | j :: r => match Nat.beq j i with
  | true => true
  | false => inL i r
def pickM (ids : List Nat) : Mem → Mem
 | [] => []
 | (k, b) :: r => match inL k ids with
  | true => (k, b) :: pickM ids r
  | false => pickM ids r
def dropM (ids : List Nat) : Mem → Mem
 | [] => []
 | (k, b) :: r => match inL k ids with
  | true => dropM ids r
  | false => (k, b) :: dropM ids r
def keysIn (ids : List Nat) : Mem → Bool
 | [] => true
 | (k, _) :: r => inL k ids && keysIn ids r
theorem pickM_mem {ids : List Nat} : ∀ {m : Mem} {p : Nat × AB}, p ∈ pickM ids m ↔ p ∈ m ∧ inL p.1 ids = true
 | [], p => by simp [pickM]
 | (k, b) :: r, p => by
  simp only [pickM]
  split
  ·rename_i h
   rw [List.mem_cons, pickM_mem (m := r), List.mem_cons]
   constructor
   ·rintro (rfl | ⟨h1, h2⟩)
    ·exact ⟨.inl rfl, h⟩
    ·exact ⟨.inr h1, h2⟩
   ·rintro ⟨rfl | h1, h2⟩
    ·exact .inl rfl
    ·exact .inr ⟨h1, h2⟩
  ·rename_i h
   rw [pickM_mem (m := r), List.mem_cons]
   constructor
   ·rintro ⟨h1, h2⟩; exact ⟨.inr h1, h2⟩
   ·rintro ⟨rfl | h1, h2⟩
    ·rw [h] at h2; cases h2
    ·exact ⟨h1, h2⟩
theorem dropM_mem {ids : List Nat} : ∀ {m : Mem} {p : Nat × AB}, p ∈ dropM ids m ↔ p ∈ m ∧ inL p.1 ids = false
 | [], p => by simp [dropM]
 | (k, b) :: r, p => by
  simp only [dropM]
  split
  ·rename_i h
   rw [dropM_mem (m := r), List.mem_cons]
   constructor
   ·rintro ⟨h1, h2⟩; exact ⟨.inr h1, h2⟩
   ·rintro ⟨rfl | h1, h2⟩
    ·rw [h] at h2; cases h2
    ·exact ⟨h1, h2⟩
  ·rename_i h
   rw [List.mem_cons, dropM_mem (m := r), List.mem_cons]
   constructor
   ·rintro (rfl | ⟨h1, h2⟩)
    ·exact ⟨.inl rfl, h⟩
    ·exact ⟨.inr h1, h2⟩
   ·rintro ⟨rfl | h1, h2⟩
    ·exact .inl rfl
    ·exact .inr ⟨h1, h2⟩
theorem pickM_sub {ids : List Nat} : ∀ (m : Mem), (pickM ids m).Sublist m
 | [] => by simp [pickM]
 | (k, b) :: r => by
  simp only [pickM]
  split
  ·exact (pickM_sub r).cons_cons _
  ·exact (pickM_sub r).cons _
theorem dropM_sub {ids : List Nat} : ∀ (m : Mem), (dropM ids m).Sublist m
 | [] => by simp [dropM]
 | (k, b) :: r => by
  simp only [dropM]
  split
  ·exact (dropM_sub r).cons _
  ·exact (dropM_sub r).cons_cons _
theorem keysIn_sound : ∀ {m : Mem} {ids : List Nat}, keysIn ids m = true → ∀ p ∈ m, inL p.1 ids = true
 | [], ids, _, p, hp => by cases hp
 | (k, b) :: r, ids, h, p, hp => by
  simp only [keysIn, Bool.and_eq_true] at h
  rcases List.mem_cons.1 hp with rfl | hp
  ·exact h.1
  ·exact keysIn_sound h.2 p hp
def keysS : List (Nat × Nat) → List Nat
 | [] => []
 | (i, _) :: r => i :: keysS r
def invS : List (Nat × Nat) → List (Nat × Nat)
 | [] => []
 | (i, j) :: r => (j, i) :: invS r
def valsLt (n : Nat) : List (Nat × Nat) → Bool
 | [] => true
 | (_, j) :: r => Nat.blt j n && valsLt n r
theorem invS_mem : ∀ {σ : List (Nat × Nat)} {i j : Nat}, (j, i) ∈ invS σ ↔ (i, j) ∈ σ
 | [], i, j => by simp [invS]
 | (a, b) :: r, i, j => by
  simp only [invS, List.mem_cons, invS_mem (σ := r), Prod.mk.injEq]
  constructor
  ·rintro (⟨rfl, rfl⟩ | h)
   ·exact .inl ⟨rfl, rfl⟩
   ·exact .inr h
  ·rintro (⟨rfl, rfl⟩ | h)
   ·exact .inl ⟨rfl, rfl⟩
   ·exact .inr h
theorem lk_of_mem {σ : List (Nat × Nat)} (h : nod2 (invS σ) = true) {i j : Nat} (hm : (i, j) ∈ σ) : lk σ i = some j := by
 induction σ with
 | nil => cases hm
 | cons p r ih =>
  obtain ⟨a, b⟩ := p
  simp only [invS, nod2, Bool.and_eq_true] at h
  simp only [lk]
  rcases List.mem_cons.1 hm with e | hm'
  ·cases e; simp
  ·have hne : a ≠ i := by
    intro e
    subst e
    exact notIn_sound h.1 _ (invS_mem.2 hm') rfl
   rw [nbeq_ne hne]
   exact ih h.2 hm'
theorem valsLt_sound : ∀ {σ : List (Nat × Nat)} {n : Nat}, valsLt n σ = true → ∀ p ∈ σ, p.2 < n
 | [], n, _, p, hp => by cases hp
 | (a, b) :: r, n, h, p, hp => by
  simp only [valsLt, Bool.and_eq_true] at h
  rcases List.mem_cons.1 hp with rfl | hp
  ·exact Nat.le_of_ble_eq_true h.1
  ·exact valsLt_sound h.2 p hp
theorem ACalls.useR {P : Program} {Γ : List (Nat × AV)} {F : FuncId} {args args' : List AV} {ms mem m1 : Mem} {ns nx : Nat} {Qs K : AV → Mem → Nat → Prop} (hΓ : ∀ p ∈ Γ, NN p.2) (σ : List (Nat × Nat)) (h : ACalls P Γ F args' ms ns Qs)
  (hp : pickM (keysS σ) mem = m1) (hargs : CvL m1 σ args args') (hM : MemConv m1 σ ms) (hc : (nodM ms && (nod2 σ && (nod2 (invS σ) && valsLt ns σ))) = true)
  (hk : ∀ r m n, Qs r m n → ∃ m', NN r ∧ MemConv m (invS σ) m' ∧ (nodM m' && keysIn (keysS σ) m') = true ∧ K r (m' ++ dropM (keysS σ) mem) nx) : ACalls P Γ F args mem nx K := by
 simp only [Bool.and_eq_true] at hc
 obtain ⟨hc1, hc2, hc3, hc4⟩ := hc
 refine ⟨fun X D ρ w vs hD hm hv => ?_⟩
 refine (ACalls.use (K := K) (nx := nx) hΓ h σ (m1 := m1) (rest := dropM (keysS σ) mem) ⟨fun p hp' => ?_, fun p hp' => (dropM_mem.1 hp').1, fun p hp' => ?_, fun p h1 q h2 => ?_, ?_⟩ ?_ hargs hM.cvm (nodM_sound hc1) (inj_of hc2) (fun id i hl => valsLt_sound hc4 _ (lk_mem hl)) ?_).run X D ρ w vs hD hm hv
 ·rw [← hp] at hp'; exact (pickM_mem.1 hp').1
 ·cases hi : inL p.1 (keysS σ) with
  | true => left; rw [← hp]; exact pickM_mem.2 ⟨hp', hi⟩
  | false => right; exact dropM_mem.2 ⟨hp', hi⟩
 ·rw [← hp] at h1
  have a := (pickM_mem.1 h1).2
  have b := (dropM_mem.1 h2).2
  intro e
  rw [e, b] at a
  cases a
 ·rw [← hp]; exact hm.nod.sublist ((pickM_sub mem).map _)
 ·exact hm.nod.sublist ((dropM_sub mem).map _)
 ·intro r m n hq hn
  obtain ⟨m', h1, h2, h3, h4⟩ := hk r m n hq
  simp only [Bool.and_eq_true] at h3
  refine ⟨invS σ, r, m', nx, Nat.le_refl _, .same r h1, h2.cvm, nodM_sound h3.1, inj_of hc3, fun i id hl => ?_, fun p h5 q h6 => ?_, h4⟩
  ·have hmem := invS_mem.1 (lk_mem hl)
   exact .inl ⟨valsLt_sound hc4 _ hmem, lk_of_mem hc3 hmem⟩
  ·have a := keysIn_sound h3.2 p h5
   have b := (dropM_mem.1 h6).2
   intro e
   rw [e, b] at a
   cases a
end Go.Ax
namespace Go.Ax
open Go
def Grown (w w' : World) : Prop := w.heap.size ≤ w'.heap.size ∧ (∀ b, b < w.heap.size → w'.heap[b]? = w.heap[b]?) ∧ Env w w'
theorem Grown.refl (w : World) : Grown w w := ⟨Nat.le_refl _, fun _ _ => rfl, .refl _⟩
section
variable {P : Program} {Γ : List (Nat × AV)} {F : FuncId} {args : List AV} {r : AV}
end
end Go.Ax
namespace Go.Ax
open Go Go.RowKit
end Go.Ax
namespace Go.Ax
open Go Go.RowKit Go.ChangeShapes
theorem weights_head {H : Type} {P : Program} {t : TypeId} {ts : List TypeId} {d : DataW H} {r : List (DataW H)} {p : Nat → Bool} (h : (DataW.weightsEach P (t :: ts) (d :: r)).all p = true) : (d.weights P t).all p = true := by
 rw [DataW.weightsEach, List.all_append, Bool.and_eq_true] at h
 exact h.1
theorem vr_ints_sz {P : Program} {H : Type} {enc : TypeId × Value → H} {w : World} {t e : TypeId} {b0 : Nat} {v : Value} {d : DataW H} {ps : List MemPlace}
  (ht : P.underlying t = some (.slice e)) (he : P.underlying e = some (.int .i64)) (hc : P.cellsOf e = 1) (hby : P.bytesOf e = 8) (hval : Value.okWide P w .any b0 t v) (h : DataW.Trod enc P w 0 (fun _ => true) true t v d ps)
  (hsz : (d.weights P t).all (· ≤ reachBytes) = true) :
  ∃ l : List Int, (∀ x ∈ l, i64 x) ∧ VR (fun _ => ⟨0, 0, 0⟩) (fun _ => False) (OX (fun _ => False) (fun _ => ⟨0, 0, 0⟩) []) w (.il 1 (encI l)) v ∧ l.length ≤ 17592186043904 := by
 obtain ⟨a0, len0, cap0, rfl⟩ := WideShapes.okWide_slice ht hval
 obtain ⟨n, hn⟩ := h
 rcases ChangeShapes.open_ints ht he hc hn with ⟨hcs, _⟩ | ⟨a, len, cap, zs, hcs, _, hl, _, hz, hx, hcell, hwf⟩
 ·simp [Value.cells] at hcs
  obtain ⟨rfl, rfl, rfl⟩ := hcs
  exact ⟨[], by simp, .iln _, by simp⟩
 ·simp [Value.cells] at hcs
  obtain ⟨rfl, rfl, rfl⟩ := hcs
  have hsp : a.spot = none := by
   simp only [Value.okWide, ht, Cell.okWide, Cell.ok, World.has] at hval
   exact hval.2.2.2.1
  simp only [if_true] at hz
  obtain ⟨rfl, -⟩ := Prod.mk.inj hx
  have hlen : (zs.take len0).length ≤ 17592186043904 := by
   rw [DataW.weights, ht] at hsz
   simp only [List.all_cons, Bool.and_eq_true, hby] at hsz
   have h1 := of_decide_eq_true hsz.1
   simp [lits, reachBytes] at h1
   simp
   omega
  refine ⟨zs.take len0, fun x hx => ?_, vr_ints hsp hl (by omega) hcell, hlen⟩
  have := hwf x (List.mem_of_mem_take hx)
  have e1 : IntKind.i64.min = -9223372036854775808 := rfl
  have e2 : IntKind.i64.max = 9223372036854775807 := rfl
  simp [Lit.wf, e1, e2] at this
  unfold i64
  omega
end Go.Ax
namespace Go.Ax
open Go Go.ChangeShapes Go.WideShapes Go.ChangeAt Go.RowKit Go.Lib
theorem weights_tail {H : Type} {P : Program} {t : TypeId} {ts : List TypeId} {d : DataW H} {r : List (DataW H)} {p : Nat → Bool} (h : (DataW.weightsEach P (t :: ts) (d :: r)).all p = true) : (DataW.weightsEach P ts r).all p = true := by
 rw [DataW.weightsEach, List.all_append, Bool.and_eq_true] at h
 exact h.2
end Go.Ax
namespace Go.Ax
open Go
mutual
def sizeV : Val → Nat
 | .mk _ _ _ kids => 1 + sizeL kids
def sizeL : List Val → Nat
 | [] => 0
 | v :: r => sizeV v + sizeL r
end
def inNm (c : Int) : Bool := (decide (97 ≤ c) && decide (c ≤ 122)) || (decide (65 ≤ c) && decide (c ≤ 90)) || (decide (48 ≤ c) && decide (c ≤ 57)) || decide (c = 95)
def upper (c : Int) : Bool := decide (65 ≤ c) && decide (c ≤ 90)
def capital : List UInt8 → Bool
 | [] => false
 | c :: r => decide (r.length < 16) && upper c.toNat && r.all fun c => inNm c.toNat
def formed1 (k n : Int) (s : List UInt8) (len : Nat) : Bool :=
 if k = 0 then decide (s = []) && decide (len = 0)
 else if k = 1 then (decide (n = 0) || decide (n = 1)) && decide (s = []) && decide (len = 0)
 else if k = 2 then decide (n = 0) && decide (s = [])
 else if k = 3 then decide (n = 0) && capital s
 else false
mutual
def formedV : Val → Bool
 | .mk k n s kids => formed1 k n s kids.length && formedL kids
def formedL : List Val → Bool
 | [] => true
 | v :: r => formedV v && formedL r
end
def wide1 (k : Int) (len : Nat) : Bool := (decide (k = 2) && decide (256 < len)) || (decide (k = 3) && decide (16 < len))
mutual
def wideV : Val → Bool
 | .mk k _ _ kids => wide1 k kids.length || wideL kids
def wideL : List Val → Bool
 | [] => false
 | v :: r => wideV v || wideL r
end
def validV (v : Val) : Int := if formedV v = false then 1 else if wideV v = true ∨ 1024 < sizeV v then 4 else 0
structure Nd where
 kind : Int
 name : List UInt8
 lo : Int
 hi : Int
 weights : List Int
 labels : List (List UInt8)
 values : List Val
 kids : List Int
 value : Val
structure okN (x : Nd) : Prop where
 kind : i64 x.kind
 name : x.name.length ≤ 4294967296
 lo : i64 x.lo
 hi : i64 x.hi
 weights : x.weights.length ≤ 4294967296
 weightsI : ∀ w ∈ x.weights, i64 w
 labels : x.labels.length ≤ 4294967296
 labelsI : ∀ w ∈ x.labels, w.length ≤ 4294967296
 values : x.values.length ≤ 4294967296
 valuesI : ∀ v ∈ x.values, okV v ∧ sizeV v ≤ 4294967296
 kids : x.kids.length ≤ 4294967296
 kidsI : ∀ k ∈ x.kids, i64 k
 value : okV x.value
 valueS : sizeV x.value ≤ 4294967296
def zeroV : Val → Bool
 | .mk k n s ks => decide (k = 0) && decide (n = 0) && decide (s = []) && decide (ks.length = 0)
def unusedN (x : Nd) : Bool :=
 (decide (x.kind = 0) || zeroV x.value) && (decide (x.kind = 1) || (decide (x.lo = 0) && decide (x.hi = 0))) && (decide (x.kind = 3) || decide (x.name = [])) &&
 (decide (x.kind = 2) || (decide (x.weights.length = 0) && decide (x.labels.length = 0))) && (decide (x.kind = 4) || decide (x.values.length = 0)) && ((decide (x.kind ≠ 0) && decide (x.kind ≠ 1)) || decide (x.kids.length = 0))
def sortedA : List Val → Bool
 | a :: b :: r => decide (cmpV a b < 0) && sortedA (b :: r)
 | _ => true
def kidsIn (i : Int) (l : List Int) : Bool := l.all fun k => decide (0 ≤ k) && decide (k < i)
def formedN (i : Int) (x : Nd) : Bool :=
 unusedN x && (decide (0 ≤ x.kind) && decide (x.kind ≤ 4)) && kidsIn i x.kids &&
 (decide (x.kind ≠ 2) || (decide (1 ≤ x.kids.length) && decide (x.kids.length ≤ 256) && decide (x.weights.length = x.kids.length) && (decide (x.labels.length = 0) || decide (x.labels.length = x.kids.length)))) &&
 (decide (x.kind ≠ 3) || (decide (x.kids.length ≤ 256) && (decide (x.name = []) || (capital x.name && decide (x.kids.length ≤ 16))))) &&
 (decide (x.kind ≠ 4) || decide (x.kids.length = x.values.length + 1)) && sortedA x.values
def numbersN (x : Nd) : Bool :=
 decide (x.lo ≤ x.hi) && decide (-4611686018427387904 ≤ x.lo) && decide (x.hi ≤ 4611686018427387904) && decide (x.hi < x.lo + 1099511627776) && x.weights.all fun w => decide (1 ≤ w) && decide (w ≤ 1000)
def firstE : List Val → Int
 | [] => 0
 | v :: r => if validV v ≠ 0 then validV v else firstE r
def ownN (x : Nd) : List Val := (if x.kind = 0 then [x.value] else []) ++ x.values
def nodeE (i : Int) (x : Nd) : Int :=
 if formedN i x = false then 1 else if firstE (ownN x) ≠ 0 then firstE (ownN x) else if numbersN x = false then 5 else 0
def atI (l : List Int) (k : Int) : Int := l.getD k.toNat 0
def sumK (before kids : List Int) : Int := kids.foldl (fun s k => s + atI before k) 0
def mostK (before kids : List Int) : Int := kids.foldl (fun s k => max s (atI before k)) 0
def armsN (x : Nd) : List Int := if x.kind = 2 then x.kids else x.kids.drop 1
def lenN (before : List Int) (x : Nd) : Int :=
 if x.kind = 0 then 0 else if x.kind = 1 then 1 else if x.kind = 3 then sumK before x.kids else if x.kind = 2 then 1 + mostK before (armsN x) else atI before (x.kids.getD 0 0) + mostK before (armsN x)
def sizN (before : List Int) (x : Nd) : Int :=
 if x.kind = 0 then sizeV x.value else if x.kind = 1 then 1 else if x.kind = 3 then 1 + sumK before x.kids else mostK before (armsN x)
structure Lst where
 vals : List Val
 many : Bool
def madeV (name : List UInt8) (kids : List Val) : Val := if name = [] then .mk 2 0 [] kids else .mk 3 0 name kids
def atL (l : List Lst) (k : Int) : Lst := l.getD k.toNat ⟨[], false⟩
def rangeV (lo hi : Int) : List Val := (List.range (hi + 1 - lo).toNat).map fun i : Nat => .mk 0 (lo + (i : Int)) [] []
def uniStep (before : List Lst) (x : List Val × Bool) (k : Int) : List Val × Bool :=
 (sortV (x.1 ++ (atL before k).vals), x.2 || (atL before k).many || decide (1024 < (sortV (x.1 ++ (atL before k).vals)).length))
def uniL (before : List Lst) (kids : List Int) : Lst :=
 if (kids.foldl (uniStep before) ([], false)).2 then ⟨[], true⟩ else ⟨(kids.foldl (uniStep before) ([], false)).1, false⟩
def rowsX (rows : List (List Val)) (l : List Val) : List (List Val) := rows.flatMap fun r => l.map fun v => r ++ [v]
def rowsL (before : List Lst) : List Int → List (List Val) → Option (List (List Val))
 | [], rows => some rows
 | k :: r, rows => if (atL before k).many = true ∨ 1024 < rows.length * (atL before k).vals.length then none else rowsL before r (rowsX rows (atL before k).vals)
def seqL (before : List Lst) (x : Nd) : Lst :=
 match rowsL before x.kids [[]] with
 | none => ⟨[], true⟩
 | some rows => ⟨sortV (rows.map (madeV x.name)), false⟩
def listN (x : Nd) (before : List Lst) : Lst :=
 if x.kind = 0 then ⟨[x.value], false⟩
 else if x.kind = 1 then (if 1024 ≤ x.hi - x.lo then ⟨[], true⟩ else ⟨rangeV x.lo x.hi, false⟩)
 else if x.kind = 3 then seqL before x
 else uniL before (if x.kind = 4 then x.kids.drop 1 else x.kids)
def listsT (nodes : List Nd) : List Lst := nodes.foldl (fun out x => out ++ [listN x out]) []
def sameVs : List Val → List Val → Bool
 | [], [] => true
 | a :: l, b :: m => decide (cmpV a b = 0) && sameVs l m
 | _, _ => false
def boundE (nodes : List Nd) (x : Nd) : Int :=
 let l := atL (listsT (nodes.take ((x.kids.getD 0 0).toNat + 1))) (x.kids.getD 0 0)
 if l.many = true then 4 else if sameVs l.vals x.values = true then 0 else 1
def stepE (before : List Nd) (ls ss : List Int) (x : Nd) : Int :=
 if nodeE before.length x ≠ 0 then nodeE before.length x
 else if 256 < lenN ls x ∨ 1024 < sizN ss x then 4
 else if x.kind = 4 then boundE before x else 0
def lensT (nodes : List Nd) : List Int := nodes.foldl (fun ls x => ls ++ [lenN ls x]) []
def sizsT (nodes : List Nd) : List Int := nodes.foldl (fun ls x => ls ++ [sizN ls x]) []
def validF : List Nd → List Nd → Int
 | _, [] => 0
 | before, x :: r => if stepE before (lensT before) (sizsT before) x ≠ 0 then stepE before (lensT before) (sizsT before) x else validF (before ++ [x]) r
def aroundI (n most : Int) : Int := (if n < 0 then -(n + 1) else n).tmod most
def pickI (l : List Int) (i most : Int) : Int := if i < 0 ∨ (l.length : Int) ≤ i then 0 else aroundI (l.getD i.toNat 0) most
theorem aroundI_bound {n most : Int} (h : 1 ≤ most) : 0 ≤ aroundI n most ∧ aroundI n most < most := by
 unfold aroundI
 have h0 : 0 ≤ (if n < 0 then -(n + 1) else n) := by split <;> omega
 exact ⟨Int.tmod_nonneg _ h0, Int.tmod_lt_of_pos _ (by omega)⟩
theorem pickI_bound {l : List Int} {i most : Int} (h : 1 ≤ most) : 0 ≤ pickI l i most ∧ pickI l i most < most := by
 unfold pickI
 split
 ·omega
 ·exact aroundI_bound h
end Go.Ax
namespace Go.Ax
open Go
end Go.Ax
namespace Go.Ax
open Go
theorem snoc_ind {α : Type} {P : List α → Prop} (h0 : P []) (h1 : ∀ (l : List α) (x : α), P l → P (l ++ [x])) (l : List α) : P l := by
 rw [← List.reverse_reverse l]
 induction l.reverse with
 | nil => exact h0
 | cons a r ih => rw [List.reverse_cons]; exact h1 _ _ ih
structure GoodN (i : Nat) (x : Nd) : Prop where
 ok : okN x
 kind : 0 ≤ x.kind ∧ x.kind ≤ 4
 kids : ∀ (j : Nat) (k : Int), x.kids[j]? = some k → 0 ≤ k ∧ k < i
 klen : x.kids.length ≤ 65536
 num : numbersN x = true
structure NodeOK (i : Nat) (x : Nd) : Prop where
 kind : 0 ≤ x.kind ∧ x.kind ≤ 4
 kids : ∀ (j : Nat) (k : Int), x.kids[j]? = some k → 0 ≤ k ∧ k < i
 num : numbersN x = true
 klen : x.kind ≠ 4 → x.kids.length ≤ 256
 bind : x.kind = 4 → x.kids.length = x.values.length + 1
def abcd : List (List UInt8) := [[97], [98], [99], [100]]
structure GenN (x : Nd) : Prop where
 ok : okN x
 vals : x.values.length ≤ 1024
 labels : ∀ s ∈ x.labels, s ∈ abcd
 seq : x.kind = 3 → x.kids.length ≤ 3
structure TreeOK (ns : List Nd) : Prop where
 valid : validF [] ns = 0
 gen : ∀ x ∈ ns, GenN x
theorem TreeOK.ok {ns : List Nd} (h : TreeOK ns) : ∀ x ∈ ns, okN x := fun x hx => (h.gen x hx).ok
end Go.Ax
namespace Go.Ax
open Go
def rowAt : List (List Val) → Nat → List Val
 | [], _ => []
 | l :: r, k => rowAt r (k / l.length) ++ (l[k % l.length]?).toList
end Go.Ax
namespace Go.Ax
open Go
def lexP : List Int → List Int → Int
 | [], [] => 0
 | [], _ :: _ => -1
 | _ :: _, [] => 1
 | a :: as, b :: bs => andThen (cmpI a b) (lexP as bs)
def cmpP (a b : List Int) : Int := andThen (cmpI (a.length : Int) (b.length : Int)) (lexP a b)
theorem lexP_good : ∀ a : List Int, Good lexP a
 | [] => by
  constructor
  ·simp [lexP]
  ·intro b; cases b <;> simp [lexP]
  ·intro b c; cases b <;> cases c <;> simp [lexP]
  ·intro b c; cases b <;> cases c <;> simp [lexP]
 | a :: as => by
  have i1 := cmpI_good a
  have i2 := lexP_good as
  constructor
  ·simp [lexP, i1.refl, i2.refl, andThen]
  ·intro b
   cases b with
   | nil => simp [lexP]
   | cons b bs => simp only [lexP]; exact andThen_anti (i1.anti _) (i2.anti _)
  ·intro b c
   cases b with
   | nil => cases c <;> simp [lexP]
   | cons b bs =>
    cases c with
    | nil => simp [lexP]
    | cons c cs => simp only [lexP]; exact lex_trans (i1.trans _ _) (i1.strict _ _) (i2.trans _ _)
  ·intro b c
   cases b with
   | nil => cases c <;> simp [lexP]
   | cons b bs =>
    cases c with
    | nil => simp [lexP]
    | cons c cs => simp only [lexP]; exact lex_strict (i1.trans _ _) (i1.strict _ _) (i2.trans _ _) (i2.strict _ _)
theorem cmpP_good (a : List Int) : Good cmpP a := by
 have i1 := cmpI_good (a.length : Int)
 have i2 := lexP_good a
 constructor
 ·simp [cmpP, i1.refl, i2.refl, andThen]
 ·intro b; simp only [cmpP]; exact andThen_anti (i1.anti _) (i2.anti _)
 ·intro b c; simp only [cmpP]; exact lex_trans (i1.trans _ _) (i1.strict _ _) (i2.trans _ _)
 ·intro b c; simp only [cmpP]; exact lex_strict (i1.trans _ _) (i1.strict _ _) (i2.trans _ _) (i2.strict _ _)
theorem lexPEq : ∀ (a b : List Int), lexP a b = 0 → a = b
 | [], [], _ => rfl
 | [], _ :: _, h => by simp [lexP] at h
 | _ :: _, [], h => by simp [lexP] at h
 | a :: l, b :: m, h => by
  simp only [lexP, andThen] at h
  split at h
  ·rename_i h1; rw [Decidable.byContradiction fun e => cmpI_nz e h1, lexPEq l m h]
  ·rename_i h1; exact absurd h h1
theorem pathEq (a b : List Int) (h : cmpP a b = 0) : a = b := by
 simp only [cmpP, andThen] at h
 split at h
 ·exact lexPEq a b h
 ·rename_i h1; exact absurd h h1
def findP : List (List Int) → List Int → Nat × Bool
 | [], _ => (0, false)
 | a :: r, v => if 0 ≤ cmpP a v then (0, cmpP a v == 0) else ((findP r v).1 + 1, (findP r v).2)
def isAtP (l : List (List Int)) (k : Nat) (v : List Int) : Bool :=
 match l[k]? with
 | some a => cmpP a v == 0
 | none => false
theorem findP_at : ∀ {l : List (List Int)} {v : List Int} {k : Nat}, k ≤ l.length → (∀ p a, p < k → l[p]? = some a → cmpP a v < 0) → (∀ a, l[k]? = some a → 0 ≤ cmpP a v) → findP l v = (k, isAtP l k v)
 | [], v, k, hk, h1, h2 => by
  have : k = 0 := by simpa using hk
  subst this
  simp [findP, isAtP]
 | a :: r, v, 0, hk, h1, h2 => by
  have := h2 a (by simp)
  simp [findP, this, isAtP]
 | a :: r, v, k + 1, hk, h1, h2 => by
  have h0 := h1 0 a (by omega) (by simp)
  have ih := findP_at (l := r) (v := v) (k := k) (by simpa using hk) (fun p b hp hb => h1 (p + 1) b (by omega) (by simpa using hb)) (fun b hb => h2 b (by simpa using hb))
  rw [findP, if_neg (by omega), ih]
  simp [isAtP]
theorem findP_le : ∀ (l : List (List Int)) (v : List Int), (findP l v).1 ≤ l.length
 | [], v => by simp [findP]
 | a :: r, v => by
  simp only [findP]
  split
  ·simp
  ·have := findP_le r v; simp; omega
def putP (out : List (List Int)) (v : List Int) : List (List Int) := if (findP out v).2 then out else out.take (findP out v).1 ++ v :: out.drop (findP out v).1
def sortP (l : List (List Int)) : List (List Int) := l.foldl putP []
theorem sortP_snoc (l : List (List Int)) (v : List Int) : sortP (l ++ [v]) = putP (sortP l) v := by simp [sortP]
theorem putP_mem {out : List (List Int)} {v x : List Int} (h : x ∈ putP out v) : x = v ∨ x ∈ out := by
 unfold putP at h
 split at h
 ·exact .inr h
 ·rcases List.mem_append.1 h with h | h
  ·exact .inr (List.mem_of_mem_take h)
  ·rcases List.mem_cons.1 h with h | h
   ·exact .inl h
   ·exact .inr (List.mem_of_mem_drop h)
theorem putP_length (out : List (List Int)) (v : List Int) : (putP out v).length ≤ out.length + 1 := by
 unfold putP
 split
 ·omega
 ·simp only [List.length_append, List.length_cons, List.length_take, List.length_drop]
  have := findP_le out v
  omega
theorem sortP_length : ∀ l : List (List Int), (sortP l).length ≤ l.length := by
 intro l
 rw [← List.reverse_reverse l]
 generalize l.reverse = r
 induction r with
 | nil => simp [sortP]
 | cons a r ih =>
  rw [List.reverse_cons, sortP_snoc]
  have := putP_length (sortP r.reverse) a
  simp only [List.length_append, List.length_singleton]
  omega
theorem sortP_mem {l : List (List Int)} {x : List Int} : x ∈ sortP l → x ∈ l := by
 rw [← List.reverse_reverse l]
 generalize l.reverse = r
 induction r with
 | nil => simp [sortP]
 | cons a r ih =>
  rw [List.reverse_cons, sortP_snoc]
  intro h
  rcases putP_mem h with rfl | h
  ·simp
  ·exact List.mem_append_left _ (ih h)
theorem lt_leP {a b c : List Int} (h1 : cmpP a b < 0) (h2 : cmpP b c ≤ 0) : cmpP a c < 0 := by
 have g := cmpP_good a
 have t := g.trans b c (by omega) h2
 rcases Int.lt_or_eq_of_le t with h | h
 ·exact h
 ·have := (g.strict b c (by omega) h2 h).1; omega
theorem le_ltP {a b c : List Int} (h1 : cmpP a b ≤ 0) (h2 : cmpP b c < 0) : cmpP a c < 0 := by
 have g := cmpP_good a
 have t := g.trans b c h1 (by omega)
 rcases Int.lt_or_eq_of_le t with h | h
 ·exact h
 ·have := (g.strict b c h1 (by omega) h).2; omega
theorem flip_gtP {a b : List Int} (h : 0 < cmpP a b) : cmpP b a < 0 := by rw [(cmpP_good a).anti b]; omega
theorem flip_geP {a b : List Int} (h : 0 ≤ cmpP a b) : cmpP b a ≤ 0 := by rw [(cmpP_good a).anti b]; omega
theorem flip_ltP {a b : List Int} (h : cmpP a b < 0) : 0 < cmpP b a := by rw [(cmpP_good a).anti b]; omega
def SrtP (l : List (List Int)) : Prop := l.Pairwise fun a b => cmpP a b < 0
theorem putP_cons (a : List Int) (r : List (List Int)) (v : List Int) : putP (a :: r) v = if 0 ≤ cmpP a v then (if cmpP a v == 0 then a :: r else v :: a :: r) else a :: putP r v := by
 unfold putP
 by_cases h : 0 ≤ cmpP a v
 ·simp only [findP, if_pos h]
  rfl
 ·simp only [findP, if_neg h]
  split <;> simp_all
theorem putP_srt : ∀ {l : List (List Int)} {v : List Int}, SrtP l → SrtP (putP l v)
 | [], v, _ => by simp [putP, findP, SrtP]
 | a :: r, v, h => by
  unfold SrtP at h ⊢
  rw [List.pairwise_cons] at h
  rw [putP_cons]
  split
  ·rename_i h0
   split
   ·exact List.pairwise_cons.2 h
   ·rename_i h1
    have h1 : cmpP a v ≠ 0 := by simpa using h1
    have hva := flip_gtP (show 0 < cmpP a v by omega)
    refine List.pairwise_cons.2 ⟨fun b hb => ?_, List.pairwise_cons.2 h⟩
    rcases List.mem_cons.1 hb with rfl | hb
    ·exact hva
    ·exact lt_leP hva (by have := h.1 b hb; omega)
  ·rename_i h0
   refine List.pairwise_cons.2 ⟨fun b hb => ?_, putP_srt (l := r) h.2⟩
   rcases putP_mem hb with rfl | hb
   ·omega
   ·exact h.1 b hb
theorem sortP_srt : ∀ l : List (List Int), SrtP (sortP l) := by
 intro l
 rw [← List.reverse_reverse l]
 generalize l.reverse = r
 induction r with
 | nil => simp [sortP, SrtP]
 | cons a r ih => rw [List.reverse_cons, sortP_snoc]; exact putP_srt ih
theorem SrtP.get {l : List (List Int)} (h : SrtP l) {i j : Nat} {a b : List Int} (hij : i < j) (ha : l[i]? = some a) (hb : l[j]? = some b) : cmpP a b < 0 := by
 obtain ⟨hi, rfl⟩ := List.getElem?_eq_some_iff.1 ha
 obtain ⟨hj, rfl⟩ := List.getElem?_eq_some_iff.1 hb
 exact List.pairwise_iff_getElem.1 h i j hi hj hij
theorem cmpP_irr (a : List Int) : ¬ cmpP a a < 0 := by rw [(cmpP_good a).refl]; omega
theorem srtP_ext : ∀ {a b : List (List Int)}, SrtP a → SrtP b → (∀ x, x ∈ a ↔ x ∈ b) → a = b
 | [], [], _, _, _ => rfl
 | [], y :: m, _, _, h => by have := (h y).2 (by simp); simp at this
 | x :: l, [], _, _, h => by have := (h x).1 (by simp); simp at this
 | x :: l, y :: m, h1, h2, h => by
  unfold SrtP at h1 h2
  rw [List.pairwise_cons] at h1 h2
  have e : x = y := by
   rcases List.mem_cons.1 ((h x).1 (by simp)) with e | e
   ·exact e
   ·rcases List.mem_cons.1 ((h y).2 (by simp)) with e' | e'
    ·exact e'.symm
    ·have a1 := h2.1 x e
     have a2 := h1.1 y e'
     have := lt_leP a1 (by omega : cmpP x y ≤ 0)
     exact absurd this (cmpP_irr y)
  subst e
  congr 1
  refine srtP_ext h1.2 h2.2 fun z => ?_
  constructor
  ·intro hz
   rcases List.mem_cons.1 ((h z).1 (by simp [hz])) with e | e
   ·subst e; exact absurd (h1.1 z hz) (cmpP_irr z)
   ·exact e
  ·intro hz
   rcases List.mem_cons.1 ((h z).2 (by simp [hz])) with e | e
   ·subst e; exact absurd (h2.1 z hz) (cmpP_irr z)
   ·exact e
theorem putP_has : ∀ (l : List (List Int)) (v x : List Int), x ∈ putP l v ↔ x = v ∨ x ∈ l
 | [], v, x => by simp [putP, findP]
 | a :: r, v, x => by
  rw [putP_cons]
  split
  ·split
   ·rename_i h
    have e := pathEq a v (by simpa using h)
    subst e
    constructor
    ·intro h; exact .inr h
    ·rintro (rfl | h)
     ·simp
     ·exact h
   ·simp
  ·simp only [List.mem_cons, putP_has r v x]
   constructor
   ·rintro (h | h | h)
    ·exact .inr (.inl h)
    ·exact .inl h
    ·exact .inr (.inr h)
   ·rintro (h | h | h)
    ·exact .inr (.inl h)
    ·exact .inl h
    ·exact .inr (.inr h)
theorem sortP_has (l : List (List Int)) (x : List Int) : x ∈ sortP l ↔ x ∈ l := by
 refine snoc_ind (P := fun l => x ∈ sortP l ↔ x ∈ l) (by simp [sortP]) (fun l a ih => ?_) l
 rw [sortP_snoc, putP_has, ih]
 simp only [List.mem_append, List.mem_singleton]
 constructor
 ·rintro (h | h)
  ·exact .inr h
  ·exact .inl h
 ·rintro (h | h)
  ·exact .inr h
  ·exact .inl h
theorem cmpP_self (a : List Int) : cmpP a a = 0 := (cmpP_good a).refl
theorem sortP_iff (l : List (List Int)) (x : List Int) : x ∈ sortP l ↔ x ∈ l := sortP_has l x
def keepP (l : List (List Int)) : Nat → Bool
 | 0 => true
 | i + 1 => match l[i + 1]?, l[i]? with
  | some b, some a => !(cmpP b a == 0)
  | _, _ => true
def dedP (l : List (List Int)) : Nat → List (List Int)
 | 0 => []
 | i + 1 => match l[i]? with
  | some v => if keepP l i = true then dedP l i ++ [v] else dedP l i
  | none => dedP l i
theorem dedP_all {l : List (List Int)} : ∀ i, i ≤ l.length → (∀ j, j < i → keepP l j = true) → dedP l i = l.take i
 | 0, _, _ => by simp [dedP]
 | i + 1, h, hk => by
  unfold dedP
  rw [List.getElem?_eq_getElem (by omega)]
  simp only
  rw [if_pos (hk i (by omega)), dedP_all i (by omega) (fun j hj => hk j (by omega)), List.take_succ_eq_append_getElem (by omega)]
def AscP (l : List (List Int)) : Prop := ∀ (i j : Nat) (x y : List Int), i < j → l[i]? = some x → l[j]? = some y → ¬ cmpP y x < 0
theorem dedP_ok {l : List (List Int)} (h : AscP l) : ∀ i, i ≤ l.length → SrtP (dedP l i) ∧ (∀ x, x ∈ dedP l i ↔ x ∈ l.take i)
 | 0, _ => ⟨by simp [dedP, SrtP], by simp [dedP]⟩
 | i + 1, hi => by
  obtain ⟨s1, s2⟩ := dedP_ok h i (by omega)
  have hg : l[i]? = some l[i] := List.getElem?_eq_getElem (by omega)
  have ht : l.take (i + 1) = l.take i ++ [l[i]] := List.take_succ_eq_append_getElem (by omega)
  unfold dedP
  rw [hg]
  simp only
  by_cases hk : keepP l i = true
  ·rw [if_pos hk]
   refine ⟨?_, fun x => by rw [ht, List.mem_append, List.mem_append, s2]⟩
   unfold SrtP
   refine List.pairwise_append.2 ⟨s1, by simp, fun a ha b hb => ?_⟩
   have hb : b = l[i] := by simpa using hb
   subst hb
   have ha2 := (s2 a).1 ha
   obtain ⟨k, hkk, rfl⟩ := List.getElem_of_mem ha2
   have hki : k < i := by simp at hkk; omega
   rw [List.getElem_take]
   cases i with
   | zero => omega
   | succ i =>
    simp only [keepP] at hk
    rw [hg, List.getElem?_eq_getElem (show i < l.length by omega)] at hk
    have hne : cmpP l[i + 1] l[i] ≠ 0 := by simpa using hk
    have h1 := h i (i + 1) _ _ (by omega) (List.getElem?_eq_getElem (by omega)) hg
    have h2 : cmpP l[i] l[i + 1] < 0 := flip_gtP (by omega)
    rcases Nat.lt_or_ge k i with e | e
    ·have h3 := h k i _ _ e (List.getElem?_eq_getElem (by omega)) (List.getElem?_eq_getElem (by omega))
     exact le_ltP (flip_geP (by omega)) h2
    ·have : k = i := by omega
     subst this; exact h2
  ·rw [if_neg hk]
   refine ⟨s1, fun x => ?_⟩
   rw [s2, ht, List.mem_append]
   refine ⟨fun hx => .inl hx, fun hx => ?_⟩
   rcases hx with hx | hx
   ·exact hx
   ·have hx : x = l[i] := by simpa using hx
    cases i with
    | zero => exact absurd rfl hk
    | succ i =>
     simp only [keepP] at hk
     rw [hg, List.getElem?_eq_getElem (show i < l.length by omega)] at hk
     have he : cmpP l[i + 1] l[i] = 0 := by simpa using hk
     rw [hx, pathEq _ _ he]
     exact List.mem_iff_getElem.2 ⟨i, by simp; omega, by rw [List.getElem_take]⟩
theorem ded_sortP {l m : List (List Int)} (hp : m.Perm l) (h : AscP m) : dedP m m.length = sortP l := by
 obtain ⟨h1, h2⟩ := dedP_ok h m.length (Nat.le_refl _)
 refine srtP_ext h1 (sortP_srt l) fun x => ?_
 rw [h2, List.take_length, sortP_iff]
 exact hp.mem_iff
theorem ord_paths (l : List (List Int)) : (∀ x ∈ l, ¬ cmpP x x < 0) ∧ (∀ x ∈ l, ∀ y ∈ l, ∀ z ∈ l, cmpP x y < 0 → cmpP y z < 0 → cmpP x z < 0) ∧ (∀ x ∈ l, ∀ y ∈ l, ∀ z ∈ l, ¬ cmpP x y < 0 → ¬ cmpP y z < 0 → ¬ cmpP x z < 0) := by
 refine ⟨fun x _ => by rw [cmpP_self]; omega, fun x _ y _ z _ h1 h2 => lt_leP h1 (by omega), fun x _ y _ z _ h1 h2 h3 => ?_⟩
 have a := flip_geP (show 0 ≤ cmpP x y by omega)
 have b := flip_geP (show 0 ≤ cmpP y z by omega)
 have c := (cmpP_good z).trans y x b a
 have := flip_ltP h3
 omega
def tauOK (σ : List (Nat × Nat)) (ns nx n' : Nat) : List (Nat × Nat) → Bool
 | [] => true
 | (i, id) :: r => (match Nat.blt i ns with
   | true => match lk σ id with
    | some j => Nat.beq j i
    | none => false
   | false => Nat.ble nx id && Nat.blt id n') && tauOK σ ns nx n' r
def keysOr (ids : List Nat) (nx : Nat) : Mem → Bool
 | [] => true
 | (k, _) :: r => (match Nat.ble nx k with
   | true => true
   | false => inL k ids) && keysOr ids nx r
theorem tauOK_sound {σ : List (Nat × Nat)} {ns nx n' : Nat} : ∀ {τ : List (Nat × Nat)}, tauOK σ ns nx n' τ = true → ∀ p ∈ τ, (p.1 < ns ∧ lk σ p.2 = some p.1) ∨ (ns ≤ p.1 ∧ nx ≤ p.2 ∧ p.2 < n')
 | [], _, p, hp => by cases hp
 | (i, id) :: r, h, p, hp => by
  simp only [tauOK, Bool.and_eq_true] at h
  rcases List.mem_cons.1 hp with rfl | hp
  ·have h1 := h.1
   split at h1
   ·rename_i hb
    split at h1
    ·rename_i j hj
     exact .inl ⟨Nat.le_of_ble_eq_true hb, by rw [hj, Nat.eq_of_beq_eq_true h1]⟩
    ·cases h1
   ·rename_i hb
    simp only [Bool.and_eq_true] at h1
    refine .inr ⟨?_, Nat.le_of_ble_eq_true h1.1, Nat.le_of_ble_eq_true h1.2⟩
    rcases Nat.lt_or_ge i ns with hl | hl
    ·have e : Nat.blt i ns = true := Nat.ble_eq_true_of_le hl
     rw [e] at hb; cases hb
    ·exact hl
  ·exact tauOK_sound h.2 p hp
theorem keysOr_sound : ∀ {m : Mem} {ids : List Nat} {nx : Nat}, keysOr ids nx m = true → ∀ p ∈ m, nx ≤ p.1 ∨ inL p.1 ids = true
 | [], ids, nx, _, p, hp => by cases hp
 | (k, b) :: r, ids, nx, h, p, hp => by
  simp only [keysOr, Bool.and_eq_true] at h
  rcases List.mem_cons.1 hp with rfl | hp
  ·have h1 := h.1
   split at h1
   ·rename_i hb; exact .inl (Nat.le_of_ble_eq_true hb)
   ·exact .inr h1
  ·exact keysOr_sound h.2 p hp
theorem ACalls.useN {P : Program} {Γ : List (Nat × AV)} {F : FuncId} {args args' : List AV} {ms mem m1 : Mem} {ns nx : Nat} {Qs K : AV → Mem → Nat → Prop} (hΓ : ∀ p ∈ Γ, NN p.2) (σ : List (Nat × Nat)) (h : ACalls P Γ F args' ms ns Qs)
  (hp : pickM (keysS σ) mem = m1) (hargs : CvL m1 σ args args') (hM : MemConv m1 σ ms) (hc : (nodM ms && (nod2 σ && valsLt ns σ)) = true)
  (hk : ∀ r m n, Qs r m n → ∃ τ r' m' n', Cv m τ r r' ∧ MemConv m τ m' ∧ (nodM m' && (nod2 τ && (Nat.ble nx n' && (keysOr (keysS σ) nx m' && tauOK σ ns nx n' τ)))) = true ∧ K r' (m' ++ dropM (keysS σ) mem) n') : ACalls P Γ F args mem nx K := by
 simp only [Bool.and_eq_true] at hc
 obtain ⟨hc1, hc2, hc4⟩ := hc
 refine ⟨fun X D ρ w vs hD hm hv => ?_⟩
 refine (ACalls.use (K := K) (nx := nx) hΓ h σ (m1 := m1) (rest := dropM (keysS σ) mem) ⟨fun p hp' => ?_, fun p hp' => (dropM_mem.1 hp').1, fun p hp' => ?_, fun p h1 q h2 => ?_, ?_⟩ ?_ hargs hM.cvm (nodM_sound hc1) (inj_of hc2) (fun id i hl => valsLt_sound hc4 _ (lk_mem hl)) ?_).run X D ρ w vs hD hm hv
 ·rw [← hp] at hp'; exact (pickM_mem.1 hp').1
 ·cases hi : inL p.1 (keysS σ) with
  | true => left; rw [← hp]; exact pickM_mem.2 ⟨hp', hi⟩
  | false => right; exact dropM_mem.2 ⟨hp', hi⟩
 ·rw [← hp] at h1
  have a := (pickM_mem.1 h1).2
  have b := (dropM_mem.1 h2).2
  intro e
  rw [e, b] at a
  cases a
 ·rw [← hp]; exact hm.nod.sublist ((pickM_sub mem).map _)
 ·exact hm.nod.sublist ((dropM_sub mem).map _)
 ·intro r m n hq hn
  obtain ⟨τ, r', m', n', h1, h2, h3, h4⟩ := hk r m n hq
  simp only [Bool.and_eq_true] at h3
  refine ⟨τ, r', m', n', Nat.le_of_ble_eq_true h3.2.2.1, h1, h2.cvm, nodM_sound h3.1, inj_of h3.2.1, fun i id hl => tauOK_sound h3.2.2.2.2 _ (lk_mem hl), fun p h5 q h6 => ?_, h4⟩
  have b := (dropM_mem.1 h6).2
  rcases keysOr_sound h3.2.2.2.1 p h5 with a | a
  ·have := hD _ (hm.low q (dropM_mem.1 h6).1)
   omega
  ·intro e
   rw [e, b] at a
   cases a
theorem ACalls.ph {P : Program} {Γ : List (Nat × AV)} {F : FuncId} {args : List AV} {mem : Mem} {nx : Nat} {K : AV → Mem → Nat → Prop} (t : TypeId) (sz : Nat) (h : ACalls P Γ F args ((nx, .row t sz []) :: mem) (nx + 1) K) : ACalls P Γ F args mem nx K := by
 refine ⟨fun X D ρ w vs hD hm hv => ?_⟩
 obtain ⟨m1, v1, e1⟩ := hm.phantom (n := nx) (D' := dn D nx (nx + 1)) (fun h' => Nat.lt_irrefl _ (hD _ h')) (fun i hi => .inl hi) (.inr ⟨Nat.le_refl _, Nat.lt_succ_self _⟩) t sz
 refine (h.run X _ _ w vs (fun i hi => ?_) m1 ⟨hv.1, fun j c x hc hx => v1 _ _ (hv.2 j c x hc hx)⟩).mono ?_
 ·rcases hi with hi | hi
  ·have := hD i hi; omega
  ·exact hi.2
 ·rintro e w' ⟨r, v, m, n, ρ', rfl, hk, hn, hm', hr, ext⟩
  have ed : dn (dn D nx (nx + 1)) (nx + 1) n = dn D nx n := by
   funext i
   apply propext
   constructor
   ·rintro ((hi | ⟨h1, h2⟩) | ⟨h1, h2⟩)
    ·exact .inl hi
    ·exact .inr ⟨h1, by omega⟩
    ·exact .inr ⟨by omega, h2⟩
   ·rintro (hi | ⟨h1, h2⟩)
    ·exact .inl (.inl hi)
    ·rcases Nat.lt_or_ge i (nx + 1) with h3 | h3
     ·exact .inl (.inr ⟨h1, h3⟩)
     ·exact .inr ⟨h3, h2⟩
  rw [ed] at hm' hr ext
  refine ⟨r, v, m, n, ρ', rfl, hk, by omega, hm', hr, ?_⟩
  have e2 := e1 D fun i hi => hi
  exact e2.trans ⟨fun i hi => ext.le i (.inl hi), fun i hi => ext.agree i (.inl hi), ext.size, ext.keep, ext.fresh, ext.env⟩
end Go.Ax
namespace Go.Ax
open Go
section
variable {P : Program} {Γ : List (Nat × AV)} {B : Nat}
end
end Go.Ax
namespace Go.Ax
open Go
inductive AMode where
 | ret
 | pan (x : Value)
 | recd (x : Value)
def AMode.mode : AMode → FrameMode
 | .ret => .returning
 | .pan x => .panicking [pe x]
 | .recd x => .panicking [{ v := x, recovered := true }]
def unqL : List Value → Option (List AV)
 | [] => some []
 | .int k n :: r => match unqL r with
  | some l => some (.int k n :: l)
  | none => none
 | .bool b :: r => match unqL r with
  | some l => some (.bool b :: l)
  | none => none
 | _ => none
def unq : Value → Option AV
 | .iface t (.agg arr) => match unqL arr.toList with
  | some l => some (.ifc t (.agg l))
  | none => none
 | _ => none
theorem unqL_sound {ρ : Nat → Loc} {D : Nat → Prop} {O : Nat → Prop} {w : World} : ∀ {xs : List Value} {l : List AV}, unqL xs = some l → VRC ρ D O w l xs
 | [], l, h => by simp only [unqL] at h; cases h; exact ⟨.nil, by simp⟩
 | x :: r, l, h => by
  cases x <;> simp only [unqL] at h <;> first | (cases h; done) | skip
  all_goals
   split at h
   ·rename_i l' hl
    cases h
    obtain ⟨h1, h2⟩ := unqL_sound (ρ := ρ) (D := D) (O := O) (w := w) hl
    refine ⟨.cons ?_ h1, fun y hy => ?_⟩
    ·first | exact .int _ _ | exact .bool _
    ·rcases List.mem_cons.1 hy with rfl | hy
     ·rfl
     ·exact h2 y hy
   ·cases h
theorem unq_sound {ρ : Nat → Loc} {D : Nat → Prop} {O : Nat → Prop} {w : World} {x : Value} {v : AV} (h : unq x = some v) : VR ρ D O w v x := by
 unfold unq at h
 split at h
 ·rename_i t arr
  split at h
  ·rename_i l hl
   cases h
   obtain ⟨h1, h2⟩ := unqL_sound (ρ := ρ) (D := D) (O := O) (w := w) hl
   exact .ifc t _ _ (.agg l arr (by have := h1.1; simpa using this) (fun y hy => h2 y (by simpa using hy)) fun j c y hj hy => h1.2 j c y hj (by simpa using hy))
  ·cases h
 ·cases h
structure AWpS (P : Program) (Γ : List (Nat × AV)) (B : Nat) (c : Code) (s : St) (m : AMode) (Q : Exit → St → AMode → Prop) : Prop where
 run : ∀ (X : Nat → Prop) (ds : List Deferred) (D : Nat → Prop) (ρ : Nat → Loc) (a : Act) (w : World) (c₀ : Frame) (cs : List Frame), (∀ i, D i → i < B) → SR Γ X (ds, 0) ρ (dn D B s.nx) s a w → B ≤ s.nx → c₀.mode = m.mode →
  c.wpS P (fun e a' cs' w' => ∃ (s' : St) (m' : AMode) (ρ' : Nat → Loc), Q e s' m' ∧ cs' = { c₀ with mode := m'.mode } :: cs ∧ B ≤ s'.nx ∧ SR Γ X (ds, 0) ρ' (dn D B s'.nx) s' a' w' ∧ Ext D ρ s.mem w ρ' (dn D B s'.nx) s'.mem w') a (c₀ :: cs) w
section
variable {P : Program} {Γ : List (Nat × AV)} {B : Nat} {s : St} {m : AMode} {Q : Exit → St → AMode → Prop}
theorem frame_mode {c₀ : Frame} {u : FrameMode} (h : c₀.mode = u) : { c₀ with mode := u } = c₀ := by subst h; rfl
theorem AWpS.of {c : Code} (hc : hasRF c = false) (h : AWp P Γ B c s fun e s' => Q e s' m) : AWpS P Γ B c s m Q := by
 refine ⟨fun X ds D ρ a w c₀ cs hD hs hB hm => wpS_of_wp (Go.wp_mono (wpIn_FW.1 (h.run none X (ds, 0) D ρ a w hD hs hB (.no hc))) ?_)⟩
 rintro e a' w' ⟨s', ρ', hq, hB', hs', hext⟩
 exact ⟨s', m, ρ', hq, by rw [frame_mode hm], hB', hs', hext⟩
def seqQS (P : Program) (Γ : List (Nat × AV)) (B : Nat) (y : Code) (Q : Exit → St → AMode → Prop) (e : Exit) (s : St) (m : AMode) : Prop :=
 match e with
 | .normal => AWpS P Γ B y s m Q
 | e => Q e s m
theorem wpS_mono {c : Code} {Q Q' : Exit → Act → List Frame → World → Prop} {a : Act} {cs : List Frame} {w : World} (h : c.wpS P Q a cs w) (hq : ∀ e a cs w, Q e a cs w → Q' e a cs w) : c.wpS P Q' a cs w :=
 fun b k hb hr => let ⟨e, a', cs', w', q, r⟩ := h b k hb hr; ⟨e, a', cs', w', hq _ _ _ _ q, r⟩
theorem AWpS.seq {x y : Code} (h : AWpS P Γ B x s m (seqQS P Γ B y Q)) : AWpS P Γ B (.seq x y) s m Q := by
 refine ⟨fun X ds D ρ a w c₀ cs hD hs hB hm => wpS_seq (wpS_mono (h.run X ds D ρ a w c₀ cs hD hs hB hm) ?_)⟩
 rintro e a' cs' w' ⟨s', m', ρ', hq, rfl, hB', hs', hext⟩
 cases e with
 | normal =>
  refine wpS_mono ((show AWpS P Γ B y s' m' Q from hq).run X ds D ρ' a' w' { c₀ with mode := m'.mode } cs hD hs' hB' rfl) ?_
  rintro e a2 cs2 w2 ⟨s2, m2, ρ2, h1, rfl, h2, h3, h4⟩
  exact ⟨s2, m2, ρ2, h1, rfl, h2, h3, hext.trans h4⟩
 | exit i => exact ⟨s', m', ρ', hq, rfl, hB', hs', hext⟩
 | goto l => exact ⟨s', m', ρ', hq, rfl, hB', hs', hext⟩
 | ret => exact ⟨s', m', ρ', hq, rfl, hB', hs', hext⟩
 | panic c => exact ⟨s', m', ρ', hq, rfl, hB', hs', hext⟩
 | outgrown => exact ⟨s', m', ρ', hq, rfl, hB', hs', hext⟩
theorem AWpS.cond {c : Operand} {x y : Code} {b : Bool} (hc : ev Γ s c = some (.bool b)) (h : bcs b (AWpS P Γ B x s m Q) (AWpS P Γ B y s m Q)) : AWpS P Γ B (.cond c x y) s m Q := by
 refine ⟨fun X ds D ρ a w c₀ cs hD hs hB hm => ?_⟩
 have hv := ev_sound hs hc
 generalize he : a.eval c = cv at hv
 cases hv
 cases b with
 | true => exact wpS_cond he ((show AWpS P Γ B x s m Q from h).run X ds D ρ a w c₀ cs hD hs hB hm)
 | false => exact wpS_cond he ((show AWpS P Γ B y s m Q from h).run X ds D ρ a w c₀ cs hD hs hB hm)
def isRec (op : Op) : Bool :=
 match op with
 | .call c => match c.callee with
  | .builtin .recover => true
  | _ => false
 | _ => false
def recV : AMode → Option (AV × AMode)
 | .ret => some (.nif, .ret)
 | .pan x => match unq x with
  | some v => some (v, .recd x)
  | none => none
 | .recd x => some (.nif, .recd x)
def aOpsS (P : Program) (Γ : List (Nat × AV)) (ops : List Oper) : List Oper → St → AMode → (St → AMode → Prop) → Prop
 | [], s, m, K => K s m
 | o :: r, s, m, K => match aWant ops s o.guard with
  | none => False
  | some false => match stepSt s o.dst (.tup []) s.mem s.nx with
   | some s' => aOpsS P Γ ops r s' m K
   | none => False
  | some true => match isRec o.op with
   | true => match recV m with
    | some (v, m') => match stepSt s o.dst v s.mem s.nx with
     | some s' => aOpsS P Γ ops r s' m' K
     | none => False
    | none => False
   | false => match aStep P Γ s o.op with
    | some (v, mem, nx) => match stepSt s o.dst v mem nx with
     | some s' => aOpsS P Γ ops r s' m K
     | none => False
    | none => False
theorem isRec_run {o : Oper} (h : isRec o.op = true) (ρ : Operand → Value) (w : World) : (execOp ρ o).run P w = .ok .recover w := by
 unfold isRec at h
 split at h
 ·rename_i c hop
  split at h
  ·rename_i hc
   simp [execOp, hop, resolve, hc, invoke, builtin]
  ·cases h
 ·cases h
theorem aOpsS_sound (ops : Array Oper) : ∀ (l : List Nat) (s : St) (m : AMode) (K : St → AMode → Prop), aOpsS P Γ ops.toList (l.filterMap fun i => ops[i]?) s m K →
  ∀ (X : Nat → Prop) (ds : List Deferred) (D : Nat → Prop) (ρ : Nat → Loc) (a : Act) (w : World) (c₀ : Frame) (cs : List Frame) (Q : Exit → Act → List Frame → World → Prop), (∀ i, D i → i < B) → SR Γ X (ds, 0) ρ (dn D B s.nx) s a w → B ≤ s.nx → c₀.mode = m.mode →
   (∀ (s' : St) (m' : AMode) (ρ' : Nat → Loc) (a' : Act) (w' : World), K s' m' → B ≤ s'.nx → SR Γ X (ds, 0) ρ' (dn D B s'.nx) s' a' w' → Ext D ρ s.mem w ρ' (dn D B s'.nx) s'.mem w' → Q .normal a' ({ c₀ with mode := m'.mode } :: cs) w') →
   wpOpsS P ops Q l a (c₀ :: cs) w := by
 intro l
 induction l with
 | nil =>
  intro s m K h X ds D ρ a w c₀ cs Q hD hs hB hm hQ
  have := hQ s m ρ a w h hB hs (Ext.refl fun i hi => .inl hi)
  rw [frame_mode hm] at this
  exact this
 | cons i r ih =>
  intro s m K h X ds D ρ a w c₀ cs Q hD hs hB hm hQ
  simp only [wpOpsS]
  cases ho : ops[i]? with
  | none =>
   simp only [List.filterMap_cons, ho] at h
   exact ih s m K h X ds D ρ a w c₀ cs Q hD hs hB hm hQ
  | some o =>
   simp only [List.filterMap_cons, ho] at h
   simp only [aOpsS] at h
   split at h
   ·exact h.elim
   ·rename_i hw
    have hw' := aWant_sound hs hw
    rw [Array.toArray_toList] at hw'
    simp only [hw', Bool.false_eq_true, if_false]
    split at h
    ·rename_i s' hst
     obtain ⟨h1, h2, h3⟩ := stepSt_sound hst hs hs.mr undef_VR (fun h => h) (fun _ _ h => h)
     refine ih s' m K h X ds D ρ _ w c₀ cs Q hD (by rw [h3]; exact h1) (by omega) hm fun s2 m2 ρ2 a2 w2 k1 k2 k3 k4 => hQ s2 m2 ρ2 a2 w2 k1 k2 k3 (by rw [← h2]; exact k4)
    ·exact h.elim
   ·rename_i hw
    have hw' := aWant_sound hs hw
    rw [Array.toArray_toList] at hw'
    simp only [hw', if_true]
    split at h
    ·rename_i hrec
     rw [isRec_run hrec]
     split at h
     ·rename_i v m' hv
      split at h
      ·rename_i s' hst
       have main : ∀ (x : Value) (c1 : Frame), (VR ρ (dn D B s.nx) (OX X ρ s.mem) w v x) → c1 = { c₀ with mode := m'.mode } → wpOpsS P ops Q r (a.put o.dst x) (c1 :: cs) w := by
        intro x c1 hx hc1
        obtain ⟨h1, h2, h3⟩ := stepSt_sound hst hs hs.mr hx (fun h => h) (fun _ _ h => h)
        subst hc1
        exact ih s' m' K h X ds D ρ _ w { c₀ with mode := m'.mode } cs Q hD (by rw [h3]; exact h1) (by omega) rfl fun s2 m2 ρ2 a2 w2 k1 k2 k3 k4 => hQ s2 m2 ρ2 a2 w2 k1 k2 k3 (by rw [← h2]; exact k4)
       cases m with
       | ret =>
        cases hv
        simp only [recoverD, hm, AMode.mode]
        exact main _ c₀ .nif (frame_mode hm).symm
       | pan x =>
        simp only [recV] at hv
        split at hv
        ·rename_i u hu
         cases hv
         simp only [recoverD, hm, AMode.mode, pe]
         exact main _ _ (unq_sound hu) rfl
        ·cases hv
       | recd x =>
        cases hv
        simp only [recoverD, hm, AMode.mode]
        exact main _ c₀ .nif (frame_mode hm).symm
      ·exact h.elim
     ·exact h.elim
    ·split at h
     ·rename_i v mem nx hstep
      split at h
      ·rename_i s' hst
       have hnx : s.nx ≤ nx := by rcases aStep_nx hstep with h' | h' <;> omega
       obtain ⟨x, n, w', ρ', e1, e2, m1, v1, mono1, ext1⟩ := aStep_sound (P := P) (D := dn D B s.nx) (D' := dn D B nx) (fun h' => Nat.lt_irrefl _ (dn_lt hD hB _ h')) (dn_grow hnx) hs o (fun e => .inr ⟨hB, by omega⟩) hstep
       obtain ⟨h1, h2, h3⟩ := stepSt_sound hst hs m1 v1 (ext1 _ fun i hi => hi).mks mono1
       have fin : wpOpsS P ops Q r (a.put o.dst x) (c₀ :: cs) w' := ih s' m K h X ds D ρ' _ w' c₀ cs Q hD (by rw [h3]; exact h1) (by rw [h3]; exact Nat.le_trans hB hnx) hm fun s2 m2 ρ2 a2 w2 k1 k2 k3 k4 => hQ s2 m2 ρ2 a2 w2 k1 k2 k3 ((ext1 D fun i hi => .inl hi).trans (by rw [← h2]; exact k4))
       rw [e1]
       rcases e2 with rfl | ⟨rfl, rfl⟩
       ·exact fin
       ·exact fin
      ·exact h.elim
     ·exact h.elim
theorem range_ops (L : List Oper) : ∀ (l : List Oper) (k : Nat), (∀ j, L[k + j]? = l[j]?) → ((List.range' k l.length).filterMap fun i => L[i]?) = l
 | [], k, h => rfl
 | o :: r, k, h => by
  have h0 : L[k]? = some o := by simpa using h 0
  rw [List.length_cons, List.range'_succ, List.filterMap_cons, h0]
  simp only
  rw [range_ops L r (k + 1) fun j => by have := h (j + 1); simpa [Nat.add_assoc, Nat.add_comm 1 j] using this]
theorem AWpS.region {id : Nat} {ops : Array Oper} (h : aOpsS P Γ ops.toList ops.toList s m fun s' m' => Q .normal s' m') : AWpS P Γ B (.region id ops false) s m Q := by
 refine ⟨fun X ds D ρ a w c₀ cs hD hs hB hm => wpS_region ?_⟩
 have e : ((List.range ops.size).filterMap fun i => ops[i]?) = ops.toList := by
  have := range_ops ops.toList ops.toList 0 (fun j => by rw [Nat.zero_add])
  rw [List.range_eq_range', ← Array.length_toList]
  simpa using this
 exact aOpsS_sound ops (List.range ops.size) s m _ (by rw [e]; exact h) X ds D ρ a w c₀ cs _ hD hs hB hm fun s' m' ρ' a' w' h1 h2 h3 h4 => ⟨s', m', ρ', h1, rfl, h2, h3, h4⟩
def aDfS (P : Program) (Γ : List (Nat × AV)) (H : Hk) : Code → St → AMode → (St → AMode → Prop) → Prop
 | .skip, s, m, K => K s m
 | .seq x y, s, m, K => aDfS P Γ H x s m fun s' m' => aDfS P Γ H y s' m' K
 | .cond c x y, s, m, K => match ev Γ s c with
  | some (.bool b) => match b with
   | true => aDfS P Γ H x s m K
   | false => aDfS P Γ H y s m K
  | _ => False
 | .region _ ops draw, s, m, K => match draw with
  | false => aOpsS P Γ ops.toList ops.toList s m K
  | true => False
 | _, _, _, _ => False
theorem aDfS_sound {H : Hk} : ∀ (c : Code) (s : St) (m : AMode) (K : St → AMode → Prop), aDfS P Γ H c s m K → AWpS P Γ B c s m fun e s' m' => match e with
  | .normal => K s' m'
  | _ => False := by
 intro c
 induction c with
 | skip => exact fun s m K h => .of rfl ⟨fun rd X ds D ρ a w hD hs hB _ => wpIn_skip ⟨s, ρ, h, hB, hs, Ext.refl fun i hi => .inl hi⟩⟩
 | seq x y ihx ihy =>
  intro s m K h
  refine AWpS.seq ?_
  obtain ⟨h'⟩ := ihx s m _ h
  refine ⟨fun X ds D ρ a w c₀ cs hD hs hB hm => wpS_mono (h' X ds D ρ a w c₀ cs hD hs hB hm) ?_⟩
  rintro e a' cs' w' ⟨s', m', ρ', hq, rest⟩
  refine ⟨s', m', ρ', ?_, rest⟩
  cases e with
  | normal => exact ihy s' m' K hq
  | _ => exact (show False from hq).elim
 | cond c x y ihx ihy =>
  intro s m K h
  simp only [aDfS] at h
  split at h
  ·rename_i b hc
   refine AWpS.cond hc ?_
   cases b with
   | true => exact ihx s m K h
   | false => exact ihy s m K h
  ·exact h.elim
 | region id ops draw =>
  intro s m K h
  cases draw with
  | false => exact AWpS.region h
  | true => exact (show False from h).elim
 | _ => exact fun s m K h => (show False from h).elim
def DfR (ρ : Nat → Loc) (D : Nat → Prop) (O : Nat → Prop) (w : World) (v : AV) (d : Deferred) : Prop :=
 ∃ (F : FuncId) (first cap : List AV) (vs : List Value) (a2 : Array Value), v = .fn (.func F) first cap ∧ d.target = .fn (.func F) a2 ∧ d.args.toList ++ a2.toList = vs ∧ VRL ρ D O w (first ++ cap) vs
def aLeave (P : Program) (Γ : List (Nat × AV)) (H : Hk) (rs : List ResultVar) (v : AV) (s : St) (m : AMode) (Q : AV → Mem → Nat → Prop) (Qp : Value → Mem → Nat → Prop) : Prop :=
 match v with
 | .fn (.func F) first cap => match P.funcs[F]? with
  | some fn => match fn.body with
   | some c => match fn.name == "runtime.NumGoroutine" with
    | false => match fn.results.toList with
     | [] => aDfS P Γ H c (enter fn.ntmps (first ++ cap) s.mem s.nx) m fun s' m' => match m' with
      | .pan x => Qp x s'.mem s'.nx
      | _ => match aRes P rs { s with mem := s'.mem, nx := s'.nx } with
       | some r => Q r s'.mem s'.nx
       | none => False
     | _ :: _ => False
    | true => False
   | none => False
  | none => False
 | _ => False
theorem aLeave_sound {H : Hk} {X : Nat → Prop} {D : Nat → Prop} {ρ ρ0 : Nat → Loc} {a : Act} {w w0 : World} {mem0 : Mem} {d : Deferred} {v : AV} {fn : Func} {Qr : AV → Mem → Nat → Prop} {Qp : Value → Mem → Nat → Prop}
  (hD : ∀ i, D i → i < B) (hs : SR Γ X ([d], 0) ρ (dn D B s.nx) s a w) (hB : B ≤ s.nx) (hv : DfR ρ (dn D B s.nx) (OX X ρ s.mem) w v d) (hext : Ext D ρ0 mem0 w0 ρ (dn D B s.nx) s.mem w)
  (hm : m.mode ≠ .run) (h : aLeave P Γ H fn.results.toList v s m Qr Qp) :
  Leaves P fn a.tmps (fun e w' => ∃ (mem' : Mem) (nx' : Nat) (ρ' : Nat → Loc), B ≤ nx' ∧ MR Γ X ρ' (dn D B nx') mem' w' ∧ Ext D ρ0 mem0 w0 ρ' (dn D B nx') mem' w' ∧
   ((∃ (r : AV) (v : Value), e = .returned v ∧ Qr r mem' nx' ∧ VR ρ' (dn D B nx') (OX X ρ' mem') w' r v) ∨ (∃ x : Value, e = .panicked [pe x] ∧ Qp x mem' nx'))) [d] m.mode w := by
 obtain ⟨F, first, cap, vs, a2, rfl, ht, hvs, hvr⟩ := hv
 simp only [aLeave] at h
 split at h <;> first | exact h.elim | skip
 rename_i fd hf
 split at h <;> first | exact h.elim | skip
 rename_i c hc
 split at h <;> first | exact h.elim | skip
 rename_i hname
 split at h <;> first | exact h.elim | skip
 rename_i hres
 have hname' : ¬ fd.name = "runtime.NumGoroutine" := by simpa using hname
 refine ⟨hm, .func F, a2, F, vs.toArray, ht, ?_, ?_⟩
 ·rw [ht, ← hvs]
  have e : (d.args.toList ++ a2.toList).toArray = d.args ++ a2 := by apply Array.ext'; simp
  simp [invoke, callFunc, hf, hc, hname', e]
 ·refine callsD_of_wpS hf hc fun c₀ cs hc0 => ?_
  have hwide : ∀ id, dn (dn D B s.nx) s.nx s.nx id → dn D B s.nx id := dn_dn hB (Nat.le_refl _)
  have hsr := enter_sr (n := fd.ntmps) (dn_lt hD hB) hs.mr hvr (Nat.zero_le _)
  refine wpS_mono ((aDfS_sound (B := s.nx) (H := H) c _ _ _ h).run X [] (dn D B s.nx) ρ _ w c₀ cs (dn_lt hD hB) hsr (Nat.le_refl _) hc0) ?_
  rintro e a' cs' w' ⟨s', m', ρ', hq, rfl, hB', hs', hext'⟩
  cases e with
  | normal =>
   have hr0 : (results fd a'.tmps).run P w' = .ok (.tuple #[]) w' := by
    have := results_of (P := P) (w := w') (fn := fd) (tmps := a'.tmps) (vs := []) (by rw [hres]; simp)
    simpa using this
   have ext2 := hext.trans ((hext'.sub fun i hi => .inl hi).wide (dn_dn hB hB'))
   obtain ⟨m2, mono2, _⟩ := hs'.mr.widen (dn_dn hB hB')
   refine ⟨hs'.def0.eq, m'.mode, rfl, .tuple #[], hr0, ?_⟩
   have hs2 : SR Γ X ([], 0) ρ' (dn D B s'.nx) { s with mem := s'.mem, nx := s'.nx } { tmps := a.tmps, defers := [] } w' :=
    ⟨m2, Mks.start (ds := ([], 0)) (Nat.zero_le _), hs.size, fun i u hi => mono2 _ _ (hext'.vr (hs.slot i u hi))⟩
   have ret : settle m'.mode = .returning → (match aRes P fn.results.toList { s with mem := s'.mem, nx := s'.nx } with
       | some r => Qr r s'.mem s'.nx
       | none => False) → Leaves P fn a.tmps (fun e w' => ∃ (mem' : Mem) (nx' : Nat) (ρ' : Nat → Loc), B ≤ nx' ∧ MR Γ X ρ' (dn D B nx') mem' w' ∧ Ext D ρ0 mem0 w0 ρ' (dn D B nx') mem' w' ∧
   ((∃ (r : AV) (v : Value), e = .returned v ∧ Qr r mem' nx' ∧ VR ρ' (dn D B nx') (OX X ρ' mem') w' r v) ∨ (∃ x : Value, e = .panicked [pe x] ∧ Qp x mem' nx'))) [] (settle m'.mode) w' := by
    intro hset hq
    rw [hset]
    split at hq
    ·rename_i r hr
     obtain ⟨x, h1, h2⟩ := aRes_sound hs2 hr
     exact ⟨x, h1, s'.mem, s'.nx, ρ', Nat.le_trans hB hB', m2, ext2, .inl ⟨r, x, rfl, hq, h2⟩⟩
    ·exact hq.elim
   cases m' with
   | ret => exact ret rfl hq
   | recd x => exact ret rfl hq
   | pan x => exact ⟨s'.mem, s'.nx, ρ', Nat.le_trans hB hB', m2, ext2, .inr ⟨x, rfl, hq⟩⟩
  | _ => exact (show False from hq).elim
end
structure AWpD (P : Program) (Γ : List (Nat × AV)) (B : Nat) (c : Code) (s : St) (Q : Exit → St → Option AV → Prop) : Prop where
 run : ∀ (X : Nat → Prop) (D : Nat → Prop) (ρ : Nat → Loc) (a : Act) (w : World), (∀ i, D i → i < B) → SR Γ X ([], 0) ρ (dn D B s.nx) s a w → B ≤ s.nx →
  c.wp P (fun e a' w' => ∃ (s' : St) (v : Option AV) (ds : List Deferred) (ρ' : Nat → Loc), Q e s' v ∧ B ≤ s'.nx ∧ SR Γ X (ds, 0) ρ' (dn D B s'.nx) s' a' w' ∧ Ext D ρ s.mem w ρ' (dn D B s'.nx) s'.mem w' ∧
   (match v with
    | none => ds = []
    | some v => ∃ d, ds = [d] ∧ DfR ρ' (dn D B s'.nx) (OX X ρ' s'.mem) w' v d)) a w
section
variable {P : Program} {Γ : List (Nat × AV)} {B : Nat} {s : St} {Q : Exit → St → Option AV → Prop}
theorem SR.widen {X : Nat → Prop} {ds : List Deferred × Nat} {ρ : Nat → Loc} {D D' : Nat → Prop} {a : Act} {w : World} (hs : SR Γ X ds ρ D s a w) (hD : ∀ i, D i → D' i) : SR Γ X ds ρ D' s a w := by
 obtain ⟨m, mono, _⟩ := hs.mr.widen hD
 exact ⟨m, hs.def0, hs.size, fun i v hi => mono _ _ (hs.slot i v hi)⟩
theorem AWpD.of {c : Code} (hc : hasRF c = false) (h : AWp P Γ B c s fun e s' => Q e s' none) : AWpD P Γ B c s Q := by
 refine ⟨fun X D ρ a w hD hs hB => Go.wp_mono (wpIn_FW.1 (h.run none X ([], 0) D ρ a w hD hs hB (.no hc))) ?_⟩
 rintro e a' w' ⟨s', ρ', hq, hB', hs', hext⟩
 exact ⟨s', none, [], ρ', hq, hB', hs', hext, rfl⟩
theorem DfR.vr {X : Nat → Prop} {D D' : Nat → Prop} {ρ ρ' : Nat → Loc} {mem mem' : Mem} {w w' : World} {v : AV} {d : Deferred} (h : Ext D ρ mem w ρ' D' mem' w') (hv : DfR ρ D (OX X ρ mem) w v d) : DfR ρ' D' (OX X ρ' mem') w' v d := by
 obtain ⟨F, first, cap, vs, a2, h1, h2, h3, h4⟩ := hv
 exact ⟨F, first, cap, vs, a2, h1, h2, h3, h4.1, fun j c x hc hx => h.vr (h4.2 j c x hc hx)⟩
def seqQD (P : Program) (Γ : List (Nat × AV)) (B : Nat) (y : Code) (Q : Exit → St → Option AV → Prop) (e : Exit) (s : St) (v : Option AV) : Prop :=
 match e with
 | .normal => match v with
  | none => AWpD P Γ B y s Q
  | some v => hasRF y = false ∧ AWp P Γ s.nx y s fun e s' => Q e s' (some v)
 | e => Q e s v
theorem AWpD.seq {x y : Code} (h : AWpD P Γ B x s (seqQD P Γ B y Q)) : AWpD P Γ B (.seq x y) s Q := by
 refine ⟨fun X D ρ a w hD hs hB => wp_seq (Go.wp_mono (h.run X D ρ a w hD hs hB) ?_)⟩
 rintro e a' w' ⟨s', v, ds, ρ', hq, hB', hs', hext, hv⟩
 cases e with
 | normal =>
  cases v with
  | none =>
   have hv : ds = [] := hv
   subst hv
   refine Go.wp_mono ((show AWpD P Γ B y s' Q from hq).run X D ρ' a' w' hD hs' hB') ?_
   rintro e a2 w2 ⟨s2, v2, ds2, ρ2, h1, h2, h3, h4, h5⟩
   exact ⟨s2, v2, ds2, ρ2, h1, h2, h3, hext.trans h4, h5⟩
  | some v =>
   obtain ⟨d, rfl, hd⟩ := hv
   have key := (show hasRF y = false ∧ AWp P Γ s'.nx y s' (fun e s' => Q e s' (some v)) from hq)
   refine Go.wp_mono (wpIn_FW.1 (key.2.run none X ([d], 0) (dn D B s'.nx) ρ' a' w' (dn_lt hD hB') (hs'.widen fun i hi => .inl hi) (Nat.le_refl _) (.no key.1))) ?_
   rintro e a2 w2 ⟨s2, ρ2, h1, h2, h3, h4⟩
   have hd2 := hd.vr h4
   obtain ⟨_, mono2, _⟩ := h3.mr.widen (dn_dn hB' h2)
   obtain ⟨F, first, cap, vs, a2, g1, g2, g3, g4⟩ := hd2
   exact ⟨s2, some v, [d], ρ2, h1, Nat.le_trans hB' h2, h3.widen (dn_dn hB' h2), hext.trans ((h4.sub fun i hi => .inl hi).wide (dn_dn hB' h2)), d, rfl, F, first, cap, vs, a2, g1, g2, g3, g4.1, fun j c x hc hx => mono2 _ _ (g4.2 j c x hc hx)⟩
 | exit i => exact ⟨s', v, ds, ρ', hq, hB', hs', hext, hv⟩
 | goto l => exact ⟨s', v, ds, ρ', hq, hB', hs', hext, hv⟩
 | ret => exact ⟨s', v, ds, ρ', hq, hB', hs', hext, hv⟩
 | panic c => exact ⟨s', v, ds, ρ', hq, hB', hs', hext, hv⟩
 | outgrown => exact ⟨s', v, ds, ρ', hq, hB', hs', hext, hv⟩
def aOpsD (P : Program) (Γ : List (Nat × AV)) (ops : List Oper) : List Oper → St → (St → AV → Prop) → Prop
 | [], _, _ => False
 | o :: r, s, K => match aWant ops s o.guard with
  | some true => match o.op with
   | .defer c => match r with
    | [] => match c.args.toList with
     | [] => match c.callee with
      | .value f => match ev Γ s f with
       | some (.fn (.func F) first cap) => match stepSt s o.dst (.tup []) s.mem s.nx with
        | some s' => K s' (.fn (.func F) first cap)
        | none => False
       | _ => False
      | _ => False
     | _ :: _ => False
    | _ :: _ => False
   | op => match aStep P Γ s op with
    | some (v, mem, nx) => match stepSt s o.dst v mem nx with
     | some s' => aOpsD P Γ ops r s' K
     | none => False
    | none => False
  | _ => False
theorem aOpsD_sound (ops : List Oper) : ∀ (l : List Oper) (s : St) (K : St → AV → Prop), aOpsD P Γ ops l s K →
  ∀ (X : Nat → Prop) (D : Nat → Prop) (ρ : Nat → Loc) (a : Act) (w : World) (Q : Exit → Act → World → Prop), (∀ i, D i → i < B) → SR Γ X ([], 0) ρ (dn D B s.nx) s a w → B ≤ s.nx →
   (∀ (s' : St) (v : AV) (d : Deferred) (ρ' : Nat → Loc) (a' : Act) (w' : World), K s' v → B ≤ s'.nx → SR Γ X ([d], 0) ρ' (dn D B s'.nx) s' a' w' → Ext D ρ s.mem w ρ' (dn D B s'.nx) s'.mem w' → DfR ρ' (dn D B s'.nx) (OX X ρ' s'.mem) w' v d → Q .normal a' w') → wpList P ops.toArray Q l a w
 | [], s, K, h, X, D, ρ, a, w, Q, hD, hs, hB, hQ => h.elim
 | o :: r, s, K, h, X, D, ρ, a, w, Q, hD, hs, hB, hQ => by
  simp only [aOpsD] at h
  refine wpList_step fun K' hK' => ?_
  split at h <;> first | exact h.elim | skip
  rename_i hw
  rw [aWant_sound hs hw]
  simp only [if_true]
  split at h
  ·rename_i c hop
   split at h <;> first | exact h.elim | skip
   split at h <;> first | exact h.elim | skip
   rename_i hargs
   split at h <;> first | exact h.elim | skip
   rename_i f hc
   split at h <;> first | exact h.elim | skip
   rename_i F first cap hf
   split at h <;> first | exact h.elim | skip
   rename_i s' hst
   have hv := ev_sound hs hf
   generalize he : a.eval f = fv at hv
   cases hv with
   | fn _ _ _ a1 a2 l1 l2 r1 r2 =>
    have hargs' : c.args = #[] := by apply Array.ext'; simpa using hargs
    have e1 : (execOp a.eval o).run P w = .ok (.defer { target := .fn (.func F) a2, args := a1 }) w := by
     simp [execOp, hop, resolve, hc, he, Deferred.ofValue, hargs']
    unfold Oper.wp
    rw [e1]
    have hs' : SR Γ X ([{ target := .fn (.func F) a2, args := a1 }], 0) ρ (dn D B s.nx) s { a with defers := { target := .fn (.func F) a2, args := a1 } :: a.defers } w :=
     ⟨hs.mr, by rw [hs.def0.eq]; exact Mks.start (ds := ([_], 0)) (Nat.zero_le _), hs.size, hs.slot⟩
    obtain ⟨h1, h2, h3⟩ := stepSt_sound hst hs' hs'.mr undef_VR (fun h => h) (fun _ _ h => h)
    refine hK' _ _ (wpList_nil (hQ s' _ _ ρ _ w h (by rw [h3]; exact hB) (by rw [h3]; exact h1) (by rw [h2, h3]; exact Ext.refl fun i hi => .inl hi) ?_))
    refine ⟨F, first, cap, a1.toList ++ a2.toList, a2, rfl, rfl, rfl, ?_⟩
    rw [h2, h3]
    exact VRL.append ⟨by simpa using l1, fun j c x h1 h2 => r1 j c x h1 (by simpa using h2)⟩ ⟨by simpa using l2, fun j c x h1 h2 => r2 j c x h1 (by simpa using h2)⟩
  ·rename_i hnd
   split at h <;> first | exact h.elim | skip
   rename_i v mem nx hstep
   split at h <;> first | exact h.elim | skip
   rename_i s' hst
   have hnx : s.nx ≤ nx := by rcases aStep_nx hstep with h' | h' <;> omega
   obtain ⟨x, n, w', ρ', e1, e2, m1, v1, mono1, ext1⟩ := aStep_sound (P := P) (D := dn D B s.nx) (D' := dn D B nx) (fun h' => Nat.lt_irrefl _ (dn_lt hD hB _ h')) (dn_grow hnx) hs o (fun e => .inr ⟨hB, by omega⟩) hstep
   obtain ⟨h1, h2, h3⟩ := stepSt_sound hst hs m1 v1 (ext1 _ fun i hi => hi).mks mono1
   have fin : K' (a.put o.dst x) w' := hK' _ _ (aOpsD_sound ops r s' K h X D ρ' _ w' Q hD (by rw [h3]; exact h1) (by rw [h3]; exact Nat.le_trans hB hnx) fun s2 v2 d2 ρ2 a2 w2 k1 k2 k3 k4 k5 => hQ s2 v2 d2 ρ2 a2 w2 k1 k2 k3 ((ext1 D fun i hi => .inl hi).trans (by rw [← h2]; exact k4)) k5)
   unfold Oper.wp
   rw [e1]
   rcases e2 with rfl | ⟨rfl, rfl⟩
   ·exact fin
   ·exact fin
theorem AWpD.region {id : Nat} {ops : Array Oper} (h : aOpsD P Γ ops.toList ops.toList s fun s' v => Q .normal s' (some v)) : AWpD P Γ B (.region id ops false) s Q := by
 refine ⟨fun X D ρ a w hD hs hB => wp_region_list ?_⟩
 have := aOpsD_sound ops.toList ops.toList s _ h X D ρ a w (fun e a' w' => ∃ (s' : St) (v : Option AV) (ds : List Deferred) (ρ' : Nat → Loc), Q e s' v ∧ B ≤ s'.nx ∧ SR Γ X (ds, 0) ρ' (dn D B s'.nx) s' a' w' ∧ Ext D ρ s.mem w ρ' (dn D B s'.nx) s'.mem w' ∧
   (match v with
    | none => ds = []
    | some v => ∃ d, ds = [d] ∧ DfR ρ' (dn D B s'.nx) (OX X ρ' s'.mem) w' v d)) hD hs hB
  (fun s' v d ρ' a' w' h1 h2 h3 h4 h5 => ⟨s', some v, [d], ρ', h1, h2, h3, h4, d, rfl, h5⟩)
 simpa using this
def retV (P : Program) (Γ : List (Nat × AV)) (H : Hk) (rs : List ResultVar) (Q : AV → Mem → Nat → Prop) (Qp : Value → Mem → Nat → Prop) (s : St) (v : Option AV) : Prop :=
 match v with
 | none => match aRes P rs s with
  | some r => Q r s.mem s.nx
  | none => False
 | some v => aLeave P Γ H rs v s .ret Q Qp
def retW (P : Program) (Γ : List (Nat × AV)) (H : Hk) (rs : List ResultVar) (Q : AV → Mem → Nat → Prop) (Qp : Value → Mem → Nat → Prop) (x : Value) (s : St) (v : Option AV) : Prop :=
 match v with
 | none => Qp x s.mem s.nx
 | some v => aLeave P Γ H rs v s (.pan x) Q Qp
def retQD (P : Program) (Γ : List (Nat × AV)) (H : Hk) (rs : List ResultVar) (Q : AV → Mem → Nat → Prop) (Qp : Value → Mem → Nat → Prop) : Exit → St → Option AV → Prop := fun e s v =>
 match e with
 | .normal => retV P Γ H rs Q Qp s v
 | .ret => retV P Γ H rs Q Qp s v
 | .panic [⟨x, false, false⟩] => retW P Γ H rs Q Qp x s v
 | _ => False
theorem acallsP_of_awpD {H : Hk} {F : FuncId} {fn : Func} {c : Code} {args : List AV} {mem : Mem} {nx : Nat} {Q : AV → Mem → Nat → Prop} {Qp : Value → Mem → Nat → Prop} (hf : P.funcs[F]? = some fn) (hb : fn.body = some c)
  (h : AWpD P Γ nx c (enter fn.ntmps args mem nx) (retQD P Γ H fn.results.toList Q Qp)) (hF : Nat.beq F YF = false := by rfl) : ACallsP P Γ F args mem nx Q Qp := by
 refine ⟨fun X D ρ w vs hD hm hv => .of hF (calls_of_wp_defers hf hb ?_)⟩
 refine Go.wp_mono (h.run X D ρ _ w hD (enter_sr hD hm hv (Nat.zero_le _)) (Nat.le_refl _)) ?_
 rintro e a' w' ⟨s', v, ds, ρ', hq, hB', hs', hext, hv⟩
 have ret : retV P Γ H fn.results.toList Q Qp s' v → Leaves P fn a'.tmps (fun e w' => ∃ (mem' : Mem) (nx' : Nat) (ρ' : Nat → Loc), nx ≤ nx' ∧ MR Γ X ρ' (dn D nx nx') mem' w' ∧ Ext D ρ mem w ρ' (dn D nx nx') mem' w' ∧
   ((∃ (r : AV) (v : Value), e = .returned v ∧ Q r mem' nx' ∧ VR ρ' (dn D nx nx') (OX X ρ' mem') w' r v) ∨ (∃ x : Value, e = .panicked [pe x] ∧ Qp x mem' nx'))) a'.defers .returning w' := by
  intro hq
  cases v with
  | none =>
   have hv : ds = [] := hv
   subst hv
   rw [hs'.def0.eq]
   simp only [retV] at hq
   split at hq
   ·rename_i r hr
    obtain ⟨x, h1, h2⟩ := aRes_sound hs' hr
    exact ⟨x, h1, s'.mem, s'.nx, ρ', hB', hs'.mr, hext, .inl ⟨r, x, rfl, hq, h2⟩⟩
   ·exact hq.elim
  | some v =>
   obtain ⟨d, rfl, hd⟩ := hv
   rw [hs'.def0.eq]
   exact aLeave_sound (B := nx) (m := .ret) hD hs' hB' hd hext (by simp [AMode.mode]) hq
 cases e with
 | normal => exact ret hq
 | ret => exact ret hq
 | panic ch =>
  unfold retQD at hq
  split at hq
  ·rename_i e; cases e
  ·rename_i e; cases e
  ·rename_i x e
   cases e
   show Leaves P fn a'.tmps _ a'.defers (.panicking [pe x]) w'
   cases v with
   | none =>
    have hv : ds = [] := hv
    subst hv
    rw [hs'.def0.eq]
    exact ⟨s'.mem, s'.nx, ρ', hB', hs'.mr, hext, .inr ⟨x, rfl, hq⟩⟩
   | some v =>
    obtain ⟨d, rfl, hd⟩ := hv
    rw [hs'.def0.eq]
    exact aLeave_sound (B := nx) (m := .pan x) hD hs' hB' hd hext (by simp [AMode.mode]) hq
  ·exact hq.elim
 | _ => exact (show False from hq).elim
end
end Go.Ax
namespace Go.Ax
open Go
def memF (F : Nat) : List Nat → Bool
 | [] => false
 | G :: r => match Nat.beq G F with
  | true => true
  | false => memF F r
def hasDf : List Oper → Bool
 | [] => false
 | o :: r => match o.op with
  | .defer _ => true
  | _ => hasDf r
def fwpD (cl : Bool) (P : Program) (Γ : List (Nat × AV)) (H : Hk) : Code → St → (Exit → St → Option AV → Prop) → Prop
 | .seq x y, s, Q => fwpD cl P Γ H x s fun e s' v => match e with
  | .normal => match v with
   | none => fwpD cl P Γ H y s' Q
   | some v => match hasRF y with
    | false => fwp cl P Γ H y s' fun e s'' => Q e s'' (some v)
    | true => False
  | e => Q e s' v
 | .region id ops draw, s, Q => match hasDf ops.toList with
  | true => match draw with
   | false => aOpsD P Γ ops.toList ops.toList s fun s' v => Q .normal s' (some v)
   | true => False
  | false => fwp cl P Γ H (.region id ops draw) s fun e s' => Q e s' none
 | c, s, Q => match hasRF c with
  | false => fwp cl P Γ H c s fun e s' => Q e s' none
  | true => False
theorem fwpD_sound {cl : Bool} {P : Program} {Γ : List (Nat × AV)} {H : Hk} (hH : ∀ B, HkOK P Γ B H) (B : Nat) : ∀ (c : Code) (s : St) (Q : Exit → St → Option AV → Prop), fwpD cl P Γ H c s Q → AWpD P Γ B c s Q := by
 intro c
 induction c with
 | seq x y ihx ihy =>
  intro s Q h
  simp only [fwpD] at h
  refine AWpD.seq ?_
  obtain ⟨h'⟩ := ihx s _ h
  refine ⟨fun X D ρ a w hD hs hB => Go.wp_mono (h' X D ρ a w hD hs hB) ?_⟩
  rintro e a' w' ⟨s', v, ds, ρ', hq, rest⟩
  refine ⟨s', v, ds, ρ', ?_, rest⟩
  cases e with
  | normal =>
   cases v with
   | none => exact ihy s' Q hq
   | some v =>
    simp only at hq
    split at hq
    ·rename_i hr; exact ⟨hr, fwp_sound (hH s'.nx) y s' _ hq⟩
    ·exact hq.elim
  | exit i => exact hq
  | goto l => exact hq
  | ret => exact hq
  | panic c => exact hq
  | outgrown => exact hq
 | region id ops draw =>
  intro s Q h
  simp only [fwpD] at h
  split at h
  ·split at h
   ·exact AWpD.region h
   ·exact h.elim
  ·exact .of rfl (fwp_sound (hH B) _ _ _ h)
 | _ =>
  intro s Q h
  simp only [fwpD] at h
  split at h
  ·rename_i hr; exact .of hr (fwp_sound (hH B) _ _ _ h)
  ·exact h.elim
def fRound (P : Program) (Γ : List (Nat × AV)) (H : Hk) (args : List AV) (mem : Mem) (nx : Nat) (K : AV → Mem → Nat → Prop) : Prop :=
 match args with
 | .yld id :: rest => opt (lk mem id) fun b => match b with
  | .loop sl nt ps ca cb st pd => match hasRF ca with
   | false => match hasRF cb with
    | false => opt (putPs nt ps.toList rest sl) fun sl' => fwp true P Γ H ca ⟨sl', mem, nx, nt⟩ fun e s1 => match e with
     | .normal => stK s1 fun sl1 m1 n1 t1 => opt (lk m1 id) fun b1 => match b1 with
      | .loop sl nt ps ca cb' .ready pd => upK m1 id (.loop sl nt ps ca cb' .busy pd) fun m2 => fwp true P Γ H cb ⟨sl1, m2, n1, t1⟩ fun e s3 => stK s3 fun _ m3 n3 _ => opt (lk m3 id) fun b3 => match b3 with
       | .loop sl nt ps ca cb _ _ => match e with
        | .normal => upK m3 id (.loop sl nt ps ca cb .ready none) fun m => K (.bool true) m n3
        | .ret => upK m3 id (.loop sl nt ps ca cb .done (some .ret)) fun m => K (.bool false) m n3
        | .exit i => upK m3 id (.loop sl nt ps ca cb .done (some (.exit i))) fun m => K (.bool false) m n3
        | _ => False
       | _ => False
      | _ => False
     | _ => False
    | true => False
   | true => False
  | _ => False
 | _ => False
theorem fRound_sound {P : Program} {Γ : List (Nat × AV)} {H : Hk} (hH : ∀ B, HkOK P Γ B H) {args : List AV} {mem : Mem} {nx : Nat} {K : AV → Mem → Nat → Prop} {Kp : Value → Mem → Nat → Prop} (h : fRound P Γ H args mem nx K) : ACallsP P Γ YF args mem nx K Kp := by
 unfold fRound at h
 split at h <;> first | exact h.elim | skip
 obtain ⟨b, h1, h⟩ := opt_iff.1 h
 split at h <;> first | exact h.elim | skip
 split at h <;> first | exact h.elim | skip
 rename_i ha
 split at h <;> first | exact h.elim | skip
 rename_i hb
 obtain ⟨sl', h2, h⟩ := opt_iff.1 h
 refine ACallsP.round h1 h2 ha hb ((fwp_sound (hH nx) _ _ _ h).mono fun e s1 h => ?_)
 unfold asgQ
 split at h <;> first | exact h.elim | skip
 obtain ⟨b1, h3, h⟩ := opt_iff.1 (stK_iff.1 h)
 simp only [h3]
 split at h <;> first | exact h.elim | skip
 refine (fwp_sound (hH nx) _ _ _ (upK_iff.1 h)).mono fun e s3 h => ?_
 unfold rndQ
 obtain ⟨b3, h4, h⟩ := opt_iff.1 (stK_iff.1 h)
 simp only [h4]
 split at h <;> first | exact h.elim | skip
 split at h
 ·exact upK_iff.1 h
 ·exact upK_iff.1 h
 ·exact upK_iff.1 h
 ·exact h.elim
def fdeep (P : Program) (Γ : List (Nat × AV)) (dl : List Nat) : Nat → Hk
 | 0 => { call := fun _ _ _ _ _ _ => False, loop := fun _ _ _ => False }
 | n + 1 => {
   call := fun F args mem nx K Kp => match Nat.beq F YF with
    | false => match P.funcs[F]? with
     | some fn => match fn.body with
      | some c => match memF F dl with
       | false => fEnter fn.ntmps args mem nx fun s => fwp true P Γ (fdeep P Γ dl n) c s (fRetP P fn.results.toList K Kp)
       | true => fEnter fn.ntmps args mem nx fun s => fwpD true P Γ (fdeep P Γ dl n) c s (retQD P Γ (fdeep P Γ dl n) fn.results.toList K Kp)
      | none => False
     | none => False
    | true => fRound P Γ (fdeep P Γ dl n) args mem nx K
   loop := fun c s Q => fwp true P Γ (fdeep P Γ dl n) c s fun e s' => match e with
    | .normal => (fdeep P Γ dl n).loop c s' Q
    | e => Q e s' }
theorem fdeep_sound (P : Program) (Γ : List (Nat × AV)) (dl : List Nat) : ∀ n B, HkOK P Γ B (fdeep P Γ dl n) ∧
  ∀ c s Q, (fdeep P Γ dl n).loop c s Q → ∀ rd X ds D ρ a w, (∀ i, D i → i < B) → SR Γ X ds ρ (dn D B s.nx) s a w → B ≤ s.nx → NoR rd ds c →
   Code.roundsIn (FW rd) 0 P c (fun e a' w' => ∃ (s' : St) (ρ' : Nat → Loc), Q e s' ∧ B ≤ s'.nx ∧ SR Γ X ds ρ' (dn D B s'.nx) s' a' w' ∧ Ext D ρ s.mem w ρ' (dn D B s'.nx) s'.mem w') n a w := by
 intro n
 induction n with
 | zero => exact fun B => ⟨⟨fun _ _ _ _ _ _ h => h.elim, fun _ _ _ h => h.elim⟩, fun _ _ _ h => h.elim⟩
 | succ n ih =>
  intro B
  have hr : ∀ c s Q, (fdeep P Γ dl (n + 1)).loop c s Q → ∀ rd X ds D ρ a w, (∀ i, D i → i < B) → SR Γ X ds ρ (dn D B s.nx) s a w → B ≤ s.nx → NoR rd ds c →
    Code.roundsIn (FW rd) 0 P c (fun e a' w' => ∃ (s' : St) (ρ' : Nat → Loc), Q e s' ∧ B ≤ s'.nx ∧ SR Γ X ds ρ' (dn D B s'.nx) s' a' w' ∧ Ext D ρ s.mem w ρ' (dn D B s'.nx) s'.mem w') (n + 1) a w := by
   intro c s Q h rd X ds D ρ a w hD hs hB hno
   have h' := (fwp_sound (ih B).1 c s _ h).run rd X ds D ρ a w hD hs hB hno
   rw [roundsIn_succ]
   refine wpIn_mono h' ?_
   rintro e a1 w1 ⟨s1, ρ1, hq, hB1, hs1, hext⟩
   cases e with
   | normal =>
    have key := (ih B).2 c s1 Q hq rd X ds D ρ1 a1 w1 hD hs1 hB1 hno
    refine rounds_mono n a1 w1 _ _ ?_ key
    rintro e a2 w2 ⟨s2, ρ2, h1, h2, h3, h4⟩
    exact ⟨s2, ρ2, h1, h2, h3, hext.trans h4⟩
   | exit id => exact ⟨s1, ρ1, hq, hB1, hs1, hext⟩
   | goto l => exact ⟨s1, ρ1, hq, hB1, hs1, hext⟩
   | ret => exact ⟨s1, ρ1, hq, hB1, hs1, hext⟩
   | panic ch => exact ⟨s1, ρ1, hq, hB1, hs1, hext⟩
   | outgrown => exact ⟨s1, ρ1, hq, hB1, hs1, hext⟩
  refine ⟨⟨fun F args mem nx K Kp h => ?_, fun c s Q h => ⟨fun rd X ds D ρ a w hD hs hB hno => wpIn_loop_rounds (n + 1) (hr c s Q h rd X ds D ρ a w hD hs hB hno.loop)⟩⟩, hr⟩
  simp only [fdeep] at h
  split at h
  ·rename_i hF
   split at h
   ·rename_i fn hf
    split at h
    ·rename_i c hc
     split at h
     ·exact acallsP_of_awp hf hc ((fwp_sound (ih nx).1 _ _ _ (fEnter_iff h)).mono fun _ _ h => fRetP_a h) hF
     ·exact acallsP_of_awpD hf hc (fwpD_sound (fun B => (ih B).1) nx _ _ _ (fEnter_iff h)) hF
    ·exact h.elim
   ·exact h.elim
  ·rename_i hF
   have e := Nat.eq_of_beq_eq_true hF
   subst e
   exact fRound_sound (fun B => (ih B).1) h
theorem acalls_closed {P : Program} {Γ : List (Nat × AV)} {F : FuncId} {args : List AV} {mem : Mem} {nx : Nat} {Q : AV → Mem → Nat → Prop} (dl : List Nat) (n : Nat) (h : (fdeep P Γ dl n).call F args mem nx Q fun _ _ _ => False) : ACalls P Γ F args mem nx Q :=
 ((fdeep_sound P Γ dl n nx).1.call F args mem nx Q _ h).toC fun _ _ _ h => h
end Go.Ax
namespace Go.Ax
open Go
section
variable {P : Program} {Γ : List (Nat × AV)} {B : Nat}
theorem ACallsP.use {F : FuncId} {as args : List AV} {ms mem m1 rest : Mem} {ns nx : Nat} {Qs K : AV → Mem → Nat → Prop} {Qsp Kp : Value → Mem → Nat → Prop} (hΓ : ∀ p ∈ Γ, NN p.2) (h : ACallsP P Γ F as ms ns Qs Qsp) (σ : List (Nat × Nat))
  (hp : Parts mem m1 rest) (hrest : (rest.map (·.1)).Nodup) (hargs : CvL m1 σ args as) (hM : CvM m1 σ ms) (hnod : (ms.map (·.1)).Nodup) (hinj : Inj σ) (hlt : ∀ id i, lk σ id = some i → i < ns)
  (hk : ∀ r m n, Qs r m n → ns ≤ n → ∃ τ r' m' n', nx ≤ n' ∧ Cv m τ r r' ∧ CvM m τ m' ∧ (m'.map (·.1)).Nodup ∧ Inj τ ∧ (∀ i id, lk τ i = some id → (i < ns ∧ lk σ id = some i) ∨ (ns ≤ i ∧ nx ≤ id ∧ id < n')) ∧
   (∀ p ∈ m', ∀ q ∈ rest, p.1 ≠ q.1) ∧ K r' (m' ++ rest) n')
  (hkp : ∀ x m n, Qsp x m n → ns ≤ n → ∃ τ m' n', nx ≤ n' ∧ CvM m τ m' ∧ (m'.map (·.1)).Nodup ∧ Inj τ ∧ (∀ i id, lk τ i = some id → (i < ns ∧ lk σ id = some i) ∨ (ns ≤ i ∧ nx ≤ id ∧ id < n')) ∧
   (∀ p ∈ m', ∀ q ∈ rest, p.1 ≠ q.1) ∧ Kp x (m' ++ rest) n') : ACallsP P Γ F args mem nx K Kp := by
 refine ⟨fun X D ρ w vs hD hm hv => ?_⟩
 obtain ⟨p1, pv⟩ := hm.part hp
 have hσ : ∀ id i, lk σ id = some i → D id → (∃ id, lk σ id = some i ∧ D id) ∧ turnL σ ρ ρ i = ρ id := fun id i h1 h2 => ⟨⟨id, h1, h2⟩, turnL_at hinj h1⟩
 obtain ⟨s1, sv, so⟩ := p1.turn (D' := fun i => ∃ id, lk σ id = some i ∧ D id) hΓ hσ hM hnod hinj
 have hvs : VRL (turnL σ ρ ρ) (fun i => ∃ id, lk σ id = some i ∧ D id) (OX (XR X ρ rest) (turnL σ ρ ρ) ms) w as vs :=
  ⟨by rw [← hargs.1]; exact hv.1, fun j c' x hc' hx => by
   obtain ⟨c, hc⟩ := get_of_len hargs.1 hc'
   exact sv c c' (hargs.2 j c c' hc hc') _ (pv _ _ (hv.2 j c x hc hx))⟩
 refine (h.run _ _ _ w vs (fun i ⟨id, h1, _⟩ => hlt id i h1) s1 hvs).mono ?_
 rintro e w' ⟨m, n, ρs, hn, r1, ext, hres⟩
 have main : ∀ (τ : List (Nat × Nat)) (m' : Mem) (n' : Nat), nx ≤ n' → CvM m τ m' → (m'.map (·.1)).Nodup → Inj τ → (∀ i id, lk τ i = some id → (i < ns ∧ lk σ id = some i) ∨ (ns ≤ i ∧ nx ≤ id ∧ id < n')) → (∀ p ∈ m', ∀ q ∈ rest, p.1 ≠ q.1) →
   ∃ ρ', MR Γ X ρ' (dn D nx n') (m' ++ rest) w' ∧ Ext D ρ mem w ρ' (dn D nx n') (m' ++ rest) w' ∧ ∀ r r', Cv m τ r r' → ∀ x, VR ρs (dn (fun i => ∃ id, lk σ id = some i ∧ D id) ns n) (OX (XR X ρ rest) ρs m) w' r x → VR ρ' (dn D nx n') (OX X ρ' (m' ++ rest)) w' r' x := by
  intro τ m' n' hn' t2 t3 t4 t5 t6
  have hτ : ∀ i id, lk τ i = some id → dn (fun i => ∃ id, lk σ id = some i ∧ D id) ns n i → dn D nx n' id ∧ turnL τ ρs ρ id = ρs i := by
   intro i id h1 h2
   refine ⟨?_, turnL_at t4 h1⟩
   rcases t5 i id h1 with ⟨h3, h4⟩ | ⟨h3, h4, h5⟩
   ·rcases h2 with ⟨id0, h5, h6⟩ | ⟨h5, _⟩
    ·rw [hinj id id0 i h4 h5]; exact .inl h6
    ·omega
   ·exact .inr ⟨h4, h5⟩
  obtain ⟨u1, uv, uo⟩ := r1.turn hΓ hτ t2 t3 t4
  have hext : Ext D ρ m1 w (turnL τ ρs ρ) (dn D nx n') m' w' := by
   refine ⟨fun i hi => .inl hi, fun id hid => ?_, ext.size, fun b hb ho => ?_, fun p hp' hpn => ?_, ext.env⟩
   ·by_cases hex : ∃ i, lk τ i = some id
    ·obtain ⟨i, hi⟩ := hex
     rw [turnL_at t4 hi]
     rcases t5 i id hi with ⟨h3, h4⟩ | ⟨h3, h4, h5⟩
     ·rw [ext.agree i ⟨id, h4, hid⟩, turnL_at hinj h4]
     ·have := hD id hid; omega
    ·exact turnL_not hex
   ·refine ext.keep b hb fun ⟨p, hp', hpn, e⟩ => ho ?_
    rw [← e]
    exact so p hp' hpn
   ·obtain ⟨q, hq', hqn, e⟩ := uo p hp' hpn
    rw [← e]
    rcases ext.fresh q hq' hqn with ⟨q', hq1, hq2, e'⟩ | h1
    ·rw [← e']; exact .inl (so q' hq1 hq2)
    ·exact .inr h1
  obtain ⟨j1, j2, j3, j4⟩ := MR.join (D' := dn D nx n') hm hp u1 hext (fun p hp => hp) t6 hrest
  exact ⟨_, j1, j4 D fun i hi => hi, fun r r' hc x hx => j2 _ _ (uv r r' hc _ hx)⟩
 rcases hres with ⟨r, v, rfl, hq, rv⟩ | ⟨x, rfl, hq⟩
 ·obtain ⟨τ, r', m', n', hn', t1, t2, t3, t4, t5, t6, hK⟩ := hk r m n hq hn
  obtain ⟨ρ', k1, k2, k3⟩ := main τ m' n' hn' t2 t3 t4 t5 t6
  exact ⟨_, n', ρ', hn', k1, k2, .inl ⟨r', v, rfl, hK, k3 r r' t1 _ rv⟩⟩
 ·obtain ⟨τ, m', n', hn', t2, t3, t4, t5, t6, hK⟩ := hkp x m n hq hn
  obtain ⟨ρ', k1, k2, k3⟩ := main τ m' n' hn' t2 t3 t4 t5 t6
  exact ⟨_, n', ρ', hn', k1, k2, .inr ⟨x, rfl, hK⟩⟩
def FiniP (B : Nat) (Qp : Value → Mem → Nat → Prop) (x : Value) (m : Mem) (n : Nat) : Prop := Fini B (fun _ m n => Qp x m n) .junk m n
theorem ACallsP.turn {F : FuncId} {args : List AV} {mem : Mem} {nx : Nat} {Q : AV → Mem → Nat → Prop} {Qp : Value → Mem → Nat → Prop} (hΓ : ∀ p ∈ Γ, NN p.2) (h : ACallsP P Γ F args mem nx (Fini nx Q) (FiniP nx Qp)) : ACallsP P Γ F args mem nx Q Qp := by
 refine ⟨fun X D ρ w vs hD hm hv => (h.run X D ρ w vs hD hm hv).mono ?_⟩
 rintro e w' ⟨m, n, ρ', h3, h4, h6, (⟨r, v, h1, ⟨σ, r', m', n', hc, hq⟩, h5⟩ | ⟨x, h1, ⟨σ, r', m', n', hc, hq⟩⟩)⟩
 ·obtain ⟨m1, v1, e1⟩ := turn_mem hΓ hD h4 hc.mem hc.nod hc.inj hc.old
  exact ⟨m', n', _, hc.nx, m1, h6.trans e1, .inl ⟨r', v, h1, hq, v1 r r' hc.res _ h5⟩⟩
 ·obtain ⟨m1, v1, e1⟩ := turn_mem hΓ hD h4 hc.mem hc.nod hc.inj hc.old
  exact ⟨m', n', _, hc.nx, m1, h6.trans e1, .inr ⟨x, h1, hq⟩⟩
structure AOpsP (P : Program) (Γ : List (Nat × AV)) (B : Nat) (ops l : List Oper) (s : St) (K : St → Prop) (Kp : Value → St → Prop) : Prop where
 run : aOps P Γ (semP P Γ B) ops l s K Kp
def foAP (P : Program) (Γ : List (Nat × AV)) (B : Nat) (ops : List Oper) (K : St → Prop) (Kp : Value → St → Prop) (next : List Oper → St → Prop) (l : List Oper) (s : St) : Prop :=
 match l with
 | [] => K s
 | o :: r => stK s fun sl mem nx nt => fWant ops sl o.guard
   (fEffP false P Γ (semP P Γ B) sl mem nx o.op (fun v mem nx => fPut s o.dst v mem nx fun s' => next r s') fun x mem nx => Kp x ⟨sl, mem, nx, nt⟩)
   (fPut s o.dst (.tup []) mem nx fun s' => next r s')
theorem foAP_ok {ops : List Oper} {K : St → Prop} {Kp : Value → St → Prop} {next : List Oper → St → Prop} (hn : ∀ r s, next r s → AOpsP P Γ B ops r s K Kp) {l : List Oper} {s : St} (h : foAP P Γ B ops K Kp next l s) : AOpsP P Γ B ops l s K Kp := by
 refine ⟨?_⟩
 cases l with
 | nil => exact h
 | cons o r =>
  have h : fWant ops s.sl o.guard (fEffP false P Γ (semP P Γ B) s.sl s.mem s.nx o.op (fun v mem nx => fPut s o.dst v mem nx fun s' => next r s') fun x mem nx => Kp x ⟨s.sl, mem, nx, s.nt⟩) (fPut s o.dst (.tup []) s.mem s.nx fun s' => next r s') := h
  simp only [aOps]
  rcases fWant_a h with ⟨h1, h⟩ | ⟨h1, h⟩
  ·simp only [h1]
   rcases fEffP_a h with ⟨v, m, n, h2, h⟩ | ⟨h2, F, l, h3, h⟩ | ⟨h2, h3, y, h4, h⟩
   ·obtain ⟨s', h4, h⟩ := fPut_a h
    simp only [h2, h4]
    exact (hn _ _ h).run
   ·simp only [h2, h3]
    refine (show ACallsP P Γ F l s.mem s.nx _ _ from h).mono (fun v m n h => ?_) fun x m n h => h
    obtain ⟨s', h4, h⟩ := fPut_a h
    simp only [h4]
    exact (hn _ _ h).run
   ·simp only [h2, h3, h4]
    exact h
  ·obtain ⟨s', h4, h⟩ := fPut_a h
   simp only [h1, h4]
   exact (hn _ _ h).run
def foQ0 (P : Program) (Γ : List (Nat × AV)) (B : Nat) (ops : List Oper) (K : St → Prop) (Kp : Value → St → Prop) (l : List Oper) (s : St) : Prop := AOpsP P Γ B ops l s K Kp
theorem foQ0_ok {ops : List Oper} {K : St → Prop} {Kp : Value → St → Prop} (l : List Oper) (s : St) (h : foQ0 P Γ B ops K Kp l s) : AOpsP P Γ B ops l s K Kp := h
def foQ1 (P : Program) (Γ : List (Nat × AV)) (B : Nat) (ops : List Oper) (K : St → Prop) (Kp : Value → St → Prop) (l : List Oper) (s : St) : Prop := foAP P Γ B ops K Kp (foQ0 P Γ B ops K Kp) l s
theorem foQ1_ok {ops : List Oper} {K : St → Prop} {Kp : Value → St → Prop} (l : List Oper) (s : St) (h : foQ1 P Γ B ops K Kp l s) : AOpsP P Γ B ops l s K Kp := foAP_ok foQ0_ok h
def foQ2 (P : Program) (Γ : List (Nat × AV)) (B : Nat) (ops : List Oper) (K : St → Prop) (Kp : Value → St → Prop) (l : List Oper) (s : St) : Prop := foAP P Γ B ops K Kp (foQ1 P Γ B ops K Kp) l s
theorem foQ2_ok {ops : List Oper} {K : St → Prop} {Kp : Value → St → Prop} (l : List Oper) (s : St) (h : foQ2 P Γ B ops K Kp l s) : AOpsP P Γ B ops l s K Kp := foAP_ok foQ1_ok h
def foQ3 (P : Program) (Γ : List (Nat × AV)) (B : Nat) (ops : List Oper) (K : St → Prop) (Kp : Value → St → Prop) (l : List Oper) (s : St) : Prop := foAP P Γ B ops K Kp (foQ2 P Γ B ops K Kp) l s
theorem foQ3_ok {ops : List Oper} {K : St → Prop} {Kp : Value → St → Prop} (l : List Oper) (s : St) (h : foQ3 P Γ B ops K Kp l s) : AOpsP P Γ B ops l s K Kp := foAP_ok foQ2_ok h
def foQ4 (P : Program) (Γ : List (Nat × AV)) (B : Nat) (ops : List Oper) (K : St → Prop) (Kp : Value → St → Prop) (l : List Oper) (s : St) : Prop := foAP P Γ B ops K Kp (foQ3 P Γ B ops K Kp) l s
theorem foQ4_ok {ops : List Oper} {K : St → Prop} {Kp : Value → St → Prop} (l : List Oper) (s : St) (h : foQ4 P Γ B ops K Kp l s) : AOpsP P Γ B ops l s K Kp := foAP_ok foQ3_ok h
def foQ5 (P : Program) (Γ : List (Nat × AV)) (B : Nat) (ops : List Oper) (K : St → Prop) (Kp : Value → St → Prop) (l : List Oper) (s : St) : Prop := foAP P Γ B ops K Kp (foQ4 P Γ B ops K Kp) l s
theorem foQ5_ok {ops : List Oper} {K : St → Prop} {Kp : Value → St → Prop} (l : List Oper) (s : St) (h : foQ5 P Γ B ops K Kp l s) : AOpsP P Γ B ops l s K Kp := foAP_ok foQ4_ok h
theorem AOpsP.many {ops l : List Oper} {s : St} {K : St → Prop} {Kp : Value → St → Prop} (h : foQ5 P Γ B ops K Kp l s) : AOpsP P Γ B ops l s K Kp := foQ5_ok l s h
structure ADrP (P : Program) (Γ : List (Nat × AV)) (B : Nat) (ops : List Oper) (tr : List (List Nat)) (base : Nat) (K : St → Prop) (Kp : Value → Mem → Nat → Prop) (l : List Nat) (recs : List Rec) (s : St) : Prop where
 run : vrun P Γ (semP P Γ B) ops tr base K Kp l recs s
def fd1P (P : Program) (Γ : List (Nat × AV)) (B : Nat) (ops : List Oper) (tr : List (List Nat)) (base : Nat) (K : St → Prop) (Kp : Value → Mem → Nat → Prop) (l : List Nat) (recs : List Rec) (s : St) : Prop :=
 match l with
 | [] => K s
 | i :: r => match ops[i]? with
  | none => False
  | some o => stK s fun sl mem nx nt => fWant ops sl o.guard
   (match kind P o.op with
    | .pure => match still o.op with
     | true => fStep false P Γ sl [] nx o.op fun v _ _ => fPut s o.dst v mem nx fun s' => ADrP P Γ B ops tr base K Kp r (⟨i, sl, true, v⟩ :: recs) s'
     | false => filterK (fun p => vis tr base ops.length i p.1) mem fun m => fStep false P Γ sl m nx o.op fun v _ _ => fPut s o.dst v mem nx fun s' => ADrP P Γ B ops tr base K Kp r (⟨i, sl, true, v⟩ :: recs) s'
    | .al => natK (base + i) fun id => fStep false P Γ sl [] id o.op fun v m _ => match m with
     | [(_, b)] => fPut s o.dst v ((id, b) :: mem) nx fun s' => ADrP P Γ B ops tr base K Kp r (⟨i, sl, true, v⟩ :: recs) s'
     | _ => False
    | .eff => filterK (fun p => vis tr base ops.length i p.1) mem fun m => fEff false P Γ (semP P Γ B) sl m nx o.op (fun v m nx' => filterK (fun p => !vis tr base ops.length i p.1) mem fun rest => filterK (fun p => !hasKey p.1 m) rest fun rest => appK m rest fun m =>
      fPut s o.dst v m nx' fun s' => fChk false P Γ ops tr base i m nx' recs (ADrP P Γ B ops tr base K Kp r recs s')) Kp)
   (fPut s o.dst (.tup []) mem nx fun s' => ADrP P Γ B ops tr base K Kp r (⟨i, sl, false, .tup []⟩ :: recs) s')
theorem ADrP.go {ops : List Oper} {tr : List (List Nat)} {base : Nat} {K : St → Prop} {Kp : Value → Mem → Nat → Prop} {l : List Nat} {recs : List Rec} {s : St} (h : fd1P P Γ B ops tr base K Kp l recs s) : ADrP P Γ B ops tr base K Kp l recs s := by
 refine ⟨?_⟩
 cases l with
 | nil => exact h
 | cons i r =>
  simp only [fd1P] at h
  simp only [vrun]
  split at h
  ·exact h.elim
  ·rename_i o ho
   simp only [ho]
   have h := stK_iff.1 h
   rcases fWant_a h with ⟨h1, h⟩ | ⟨h1, h⟩
   ·simp only [h1]
    split at h
    ·rename_i hkd
     simp only [hkd]
     split at h
     ·rename_i hst
      obtain ⟨v, m, n, h2, h⟩ := fStep_a (s := { sl := s.sl, mem := [], nx := s.nx, nt := s.nt }) h
      obtain ⟨m', n', h2'⟩ := aStep_still (s := { sl := s.sl, mem := [], nx := s.nx, nt := s.nt }) (s' := { s with mem := seen tr base ops.length i s.mem }) hst rfl h2
      obtain ⟨s', h3, h⟩ := fPut_a h
      simp only [h2', h3]
      exact h.run
     ·have h := filterK_iff.1 h
      obtain ⟨v, m, n, h2, h⟩ := fStep_a (s := { s with mem := seen tr base ops.length i s.mem }) h
      obtain ⟨s', h3, h⟩ := fPut_a h
      simp only [h2, h3]
      exact h.run
    ·rename_i hkd
     simp only [hkd]
     have h := natK_iff.1 h
     obtain ⟨v, m, n, h2, h⟩ := fStep_a (s := { s with mem := [], nx := base + i }) h
     simp only [h2]
     split at h
     ·obtain ⟨s', h3, h⟩ := fPut_a h
      simp only [h3]
      exact h.run
     ·exact h.elim
    ·rename_i hkd
     simp only [hkd]
     have h := filterK_iff.1 h
     rcases fEff_a (s := { s with mem := seen tr base ops.length i s.mem }) h with ⟨v, m, n, h2, h⟩ | ⟨h2, F, l, h3, h⟩
     ·simp only [h2]
      have h := appK_iff.1 (filterK_iff.1 (filterK_iff.1 h))
      obtain ⟨s', h3, h⟩ := fPut_a h
      have h3 : stepSt s o.dst v (m ++ back m (unseen tr base ops.length i s.mem)) n = some s' := h3
      simp only [h3]
      obtain ⟨e1, e2, _⟩ := stepSt_parts h3
      have h : fChk false P Γ ops tr base i (m ++ back m (unseen tr base ops.length i s.mem)) n recs (ADrP P Γ B ops tr base K Kp r recs s') := h
      rw [← e1, ← e2] at h
      obtain ⟨h4, h⟩ := fChk_a h
      exact ⟨h4, h.run⟩
     ·rw [aCall_congr (s' := s) (fun x _ => by cases x <;> rfl)] at h3
      simp only [h2, h3]
      refine (show ACallsP P Γ F l _ _ _ _ from h).mono (fun v m n h => ?_) fun x m n h => h
      have h := appK_iff.1 (filterK_iff.1 (filterK_iff.1 h))
      obtain ⟨s', h3, h⟩ := fPut_a h
      have h3 : stepSt s o.dst v (m ++ back m (unseen tr base ops.length i s.mem)) n = some s' := h3
      simp only [h3]
      obtain ⟨e1, e2, _⟩ := stepSt_parts h3
      have h : fChk false P Γ ops tr base i (m ++ back m (unseen tr base ops.length i s.mem)) n recs (ADrP P Γ B ops tr base K Kp r recs s') := h
      rw [← e1, ← e2] at h
      obtain ⟨h4, h⟩ := fChk_a h
      exact ⟨h4, h.run⟩
   ·obtain ⟨s', h3, h⟩ := fPut_a h
    simp only [h1, h3]
    exact h.run
end
end Go.Ax
