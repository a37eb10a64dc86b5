/- A part of the proof. -/
import Derived.Test.YtndfionmfihcoaaGreatDoorAx8
import Derived.Below
import Derived.Lib.ConvBytes
import Derived.Lib.ItoaMem
import Derived.ChangeMaps5
import Derived.Lib.LaidTab
import Derived.Lib.ItoaNum
set_option linter.unusedVariables false
namespace Go.Ax
open Go
theorem nn {v : AV} (h : NN v := by
  repeat' first
   | assumption
   | exact NN.int _ _
   | exact NN.bool _
   | exact NN.str _
   | exact NN.nsl
   | exact NN.nptr
   | exact NN.nif
   | exact NN.nfn
   | exact NN.nmap
   | exact NN.junk
   | exact encV_nn _
   | exact encVs_nn _
   | exact encI_nn _
   | exact NNs.nil
   | refine NNs.cons ?_ ?_
   | refine NN.agg' ?_
   | refine NN.tup' ?_
   | refine NN.il' ?_
   | refine NN.ip' ?_
   | refine NN.ifc _ _ ?_
   | exact NN.fn _ _ _ (by simp) (by simp)) : NN v := h
theorem nns {l : List AV} (h : NNs l := by
  repeat' first
   | assumption
   | exact NN.int _ _
   | exact NN.bool _
   | exact NN.str _
   | exact NN.nsl
   | exact NN.nptr
   | exact NN.nif
   | exact NN.nfn
   | exact NN.nmap
   | exact NN.junk
   | exact encV_nn _
   | exact encVs_nn _
   | exact encI_nn _
   | exact NNs.nil
   | refine NNs.cons ?_ ?_
   | refine NN.agg' ?_
   | refine NN.tup' ?_
   | refine NN.il' ?_
   | refine NN.ip' ?_
   | refine NN.ifc _ _ ?_
   | exact NN.fn _ _ _ (by simp) (by simp)) : NNs l := h
section
variable {P : Program} {Γ : List (Nat × AV)} {F : FuncId} {args : List AV} {r : AV} {mem : Mem} {nx : Nat} {K : AV → Mem → Nat → Prop}
theorem PureC.go (h : PureC P [] F args r) (hk : K r mem nx) (ha : NNs args := by exact nns) (hr : NN r := by exact nn) : ACalls P [] F args mem nx K := h.use nnΓ ha hr hk
theorem ACalls.go0 {Qs : AV → Mem → Nat → Prop} (h : ACalls P [] F args [] 0 Qs) (hk : ∀ r m n, Qs r m n → ∃ r', Cv m [] r r' ∧ K r' mem nx) (ha : NNs args := by exact nns) : ACalls P [] F args mem nx K :=
 ACalls.call0 nnΓ h ha hk
end
theorem ACalls.glob {P : Program} {Γ : List (Nat × AV)} {F : FuncId} {args : List AV} {mem : Mem} {nx : Nat} {Q : AV → Mem → Nat → Prop} (h : ACalls P [] F args mem nx Q) : ACalls P Γ F args mem nx Q := by
 refine ⟨fun X D ρ w vs hD hm hv => ?_⟩
 refine (h.run X D ρ w vs hD ⟨hm.low, hm.blk, hm.emp, hm.inj, hm.nod, hm.bar, (fun p hp => by cases hp)⟩ hv).mono ?_
 rintro e w' ⟨r, v, m, n, ρ', h1, h2, h3, h4, h5, h6⟩
 exact ⟨r, v, m, n, ρ', h1, h2, h3, ⟨h4.low, h4.blk, h4.emp, h4.inj, h4.nod, h4.bar, fun p hp => h6.vr (hm.glo p hp)⟩, h5, h6⟩
def sameN : List (Nat × Nat) → Bool
 | [] => true
 | (i, j) :: r => Nat.beq i j && sameN r
theorem sameN_sound : ∀ {σ : List (Nat × Nat)}, sameN σ = true → ∀ p ∈ σ, p.1 = p.2
 | [], h, p, hp => by cases hp
 | (i, j) :: r, h, p, hp => by
  simp only [sameN, Bool.and_eq_true] at h
  rcases List.mem_cons.1 hp with rfl | hp
  ·exact Nat.eq_of_beq_eq_true h.1
  ·exact sameN_sound h.2 p hp
theorem ACalls.pre {P : Program} {Γ : List (Nat × AV)} {F : FuncId} {args args' : List AV} {mem mem' : Mem} {nx : Nat} {K : AV → Mem → Nat → Prop} (hΓ : ∀ p ∈ Γ, NN p.2) (σ : List (Nat × Nat)) (hid : (sameN σ && nodM mem') = true)
  (hM : MemConv mem σ mem') (hargs : CvL mem σ args args') (h : ACalls P Γ F args' mem' nx K) : ACalls P Γ F args mem nx K := by
 simp only [Bool.and_eq_true] at hid
 have hid1 := sameN_sound hid.1
 have hnod := nodM_sound hid.2
 refine ⟨fun X D ρ w vs hD hm hv => ?_⟩
 have hσ : ∀ id id', lk σ id = some id' → D id → D id' ∧ ρ id' = ρ id := by
  intro id id' h hd
  have := hid1 _ (lk_mem h)
  simp only at this
  subst this
  exact ⟨hd, rfl⟩
 have hinj : Inj σ := fun i j k h1 h2 => by
  have a := hid1 _ (lk_mem h1)
  have b := hid1 _ (lk_mem h2)
  simp only at a b
  omega
 obtain ⟨m1, v1, o1⟩ := hm.turn (D' := D) (ρ' := ρ) hΓ hσ hM.cvm hnod hinj
 have hvs : VRL ρ D (OX X ρ mem') w args' vs := ⟨by rw [← hargs.1]; exact hv.1, fun j c' x hc' hx => by
   obtain ⟨c, hc⟩ := get_of_len hargs.1 hc'
   exact v1 c c' (hargs.2 j c c' hc hc') _ (hv.2 j c x hc hx)⟩
 refine (h.run X D ρ w vs hD m1 hvs).mono ?_
 rintro e w' ⟨r, v, m, n, ρ', h1, h2, h3, h4, h5, h6⟩
 refine ⟨r, v, m, n, ρ', h1, h2, h3, h4, h5, ?_⟩
 have e0 : Ext D ρ mem w ρ D mem' w := ⟨fun i hi => hi, fun _ _ => rfl, Nat.le_refl _, fun _ _ _ => rfl, fun p hp hn => .inl (o1 p hp hn), .refl _⟩
 exact e0.trans h6
theorem enc_cases {l : List Val} {k : Nat} (h : k < l.length) : ∃ a b c d, Val.mk a b c d ∈ l ∧ l[k]? = some (Val.mk a b c d) ∧ l[k] = Val.mk a b c d ∧ (encVs l)[(k : Int).toNat]? = some (encV (Val.mk a b c d)) := by
 obtain ⟨⟨a, b, c, d⟩, hv⟩ : ∃ v, v = l[k] := ⟨_, rfl⟩
 have e := enc_at h
 rw [← hv] at e
 exact ⟨a, b, c, d, by rw [hv]; exact List.getElem_mem h, by rw [hv]; exact List.getElem?_eq_getElem h, hv.symm, e⟩
section
variable {mem : Mem} {σ : List (Nat × Nat)}
theorem Cv.int {k : IntKind} {a b : Int} (h : a = b) : Cv mem σ (.int k a) (.int k b) := by rw [h]; exact .same _ (.int _ _)
theorem Cv.w64 {x y : Int} (h : x = y) (hb : i64 y) : Cv mem σ (.int .i64 (IntKind.i64.wrap x)) (.int .i64 y) := by rw [h, wrap64 hb]; exact .same _ (.int _ _)
theorem Cv.bool {a b : Bool} (h : a = b) : Cv mem σ (.bool a) (.bool b) := by rw [h]; exact .same _ (.bool _)
theorem cvVal (k n : Int) (s : List UInt8) : CvE mem σ (.agg [.int .i64 k, .int .i64 n, .str s, .nsl]) (encV (.mk k n s [])) :=
 .agg (.cons (.same _ (.int _ _)) (.cons (.same _ (.int _ _)) (.cons (.same _ (.str _)) (.cons (.nil 4) .nil))))
end
theorem encVs_snoc (l : List Val) (v : Val) : encVs (l ++ [v]) = encVs l ++ [encV v] := by simp [encVs_map]
theorem w64 {x y : Int} (h : x = y) (hb : i64 y) : IntKind.i64.wrap x = y := by rw [h, wrap64 hb]
theorem klt {l : List Val} {k : Nat} (h : decide ((k : Int) < ((encVs l).length : Nat)) = true) : k < l.length := by rw [encVs_length] at h; simpa using h
theorem kge {l : List Val} {k : Nat} (h : decide ((k : Int) < ((encVs l).length : Nat)) = false) : l.length ≤ k := by rw [encVs_length] at h; simpa using h
theorem Cv.fzR {mem : Mem} {σ : List (Nat × Nat)} {id len : Nat} {t : TypeId} {sz : Nat} {xs ys : List AV} (h1 : lk mem id = some (.row t sz xs)) (h2 : lk σ id = none) (h3 : CvR mem σ xs ys) (h4 : ys.length = len) : Cv mem σ (.sl id 0 len) (.il sz ys) :=
 .fz id 0 len t sz xs ys h1 h2 (by have := h3.1; omega) h4 (fun i x y hx hy => (h3.2 i x y (by simpa using hx) hy).1) (fun i x y j c c' hx hy hc hc' => (h3.2 i x y (by simpa using hx) hy).2 j c c' hc hc')
section
variable {P : Program} {Γ : List (Nat × AV)} {F : FuncId} {args : List AV} {r : AV} {mem : Mem} {nx : Nat} {K : AV → Mem → Nat → Prop}
theorem PureC.goG (h : PureC P [] F args r) (hk : K r mem nx) (ha : NNs args := by exact nns) (hr : NN r := by exact nn) : ACalls P Γ F args mem nx K := (h.use nnΓ ha hr hk).glob
theorem ACalls.goG0 {Qs : AV → Mem → Nat → Prop} (h : ACalls P [] F args [] 0 Qs) (hk : ∀ r m n, Qs r m n → ∃ r', Cv m [] r r' ∧ K r' mem nx) (ha : NNs args := by exact nns) : ACalls P Γ F args mem nx K :=
 (ACalls.call0 nnΓ h ha hk).glob
end
theorem enc_own {l : List Val} {k n : Nat} (h : k < l.length) (hn : l.length = n) : ∃ a b c d, Val.mk a b c d ∈ l ∧ l[k]? = some (Val.mk a b c d) ∧ l[k] = Val.mk a b c d ∧ (encVs l)[0 + (k : Int).toNat]? = some (encV (Val.mk a b c d)) ∧ Nat.blt (k : Int).toNat n = true := by
 obtain ⟨a, b, c, d, h1, h2, h3, h4⟩ := enc_cases h
 exact ⟨a, b, c, d, h1, h2, h3, by rw [Nat.zero_add]; exact h4, Nat.ble_eq_true_of_le (by simp; omega)⟩
end Go.Ax
namespace Go.Ax
open Go
section
variable {P : Program} {Γ : List (Nat × AV)} {B : Nat}
structure ALoop (P : Program) (Γ : List (Nat × AV)) (B : Nat) (c : Code) (s : St) (Q : Exit → St → Prop) : Prop where
 run : AWp P Γ B (.loop c) s Q
def seqQ (P : Program) (Γ : List (Nat × AV)) (B : Nat) (y : Code) (Q : Exit → St → Prop) (e : Exit) (s : St) : Prop :=
 match e with
 | .normal => AWp P Γ B y s Q
 | e => Q e s
def blkQ (id : Nat) (Q : Exit → St → Prop) (e : Exit) (s : St) : Prop :=
 match e with
 | .exit i => match Nat.beq i id with
  | true => Q .normal s
  | false => Q (.exit i) s
 | e => Q e s
structure AOps (P : Program) (Γ : List (Nat × AV)) (B : Nat) (ops l : List Oper) (s : St) (K : St → Prop) : Prop where
 run : aOps P Γ (sem P Γ B) ops l s K
def fo1 (P : Program) (Γ : List (Nat × AV)) (B : Nat) (ops l : List Oper) (s : St) (K : St → Prop) : Prop :=
 match l with
 | [] => K s
 | o :: r => stK s fun sl mem nx nt => fWant ops sl o.guard
   (fEff false P Γ (sem P Γ B) sl mem nx o.op fun v mem nx => fPut s o.dst v mem nx fun s' => AOps P Γ B ops r s' K)
   (fPut s o.dst (.tup []) mem nx fun s' => AOps P Γ B ops r s' K)
theorem AOps.go {ops l : List Oper} {s : St} {K : St → Prop} (h : fo1 P Γ B ops l s K) : AOps P Γ B ops l s K := by
 refine ⟨?_⟩
 cases l with
 | nil => exact h
 | cons o r =>
  have h : fWant ops s.sl o.guard (fEff false P Γ (sem P Γ B) s.sl s.mem s.nx o.op fun v mem nx => fPut s o.dst v mem nx fun s' => AOps P Γ B ops r s' K) (fPut s o.dst (.tup []) s.mem s.nx fun s' => AOps P Γ B ops r s' K) := h
  simp only [aOps]
  rcases fWant_a h with ⟨h1, h⟩ | ⟨h1, h⟩
  ·simp only [h1]
   rcases fEff_a h with ⟨v, m, n, h2, h⟩ | ⟨h2, F, l, h3, h⟩
   ·obtain ⟨s', h4, h⟩ := fPut_a h
    simp only [h2, h4]
    exact h.run
   ·simp only [h2, h3]
    refine (show ACalls P Γ F l s.mem s.nx _ from h).mono fun v m n h => ?_
    obtain ⟨s', h4, h⟩ := fPut_a h
    simp only [h4]
    exact h.run
  ·obtain ⟨s', h4, h⟩ := fPut_a h
   simp only [h1, h4]
   exact h.run
structure ADr (P : Program) (Γ : List (Nat × AV)) (B : Nat) (ops : List Oper) (tr : List (List Nat)) (base : Nat) (K : St → Prop) (l : List Nat) (recs : List Rec) (s : St) : Prop where
 run : vrun P Γ (sem P Γ B) ops tr base K l recs s
def fd1 (P : Program) (Γ : List (Nat × AV)) (B : Nat) (ops : List Oper) (tr : List (List Nat)) (base : Nat) (K : St → Prop) (l : List Nat) (recs : List Rec) (s : St) : Prop :=
 match l with
 | [] => K s
 | i :: r => match ops[i]? with
  | none => False
  | some o => stK s fun sl mem nx nt => fWant ops sl o.guard
   (match kind P o.op with
    | .pure => match still o.op with
     | true => fStep false P Γ sl [] nx o.op fun v _ _ => fPut s o.dst v mem nx fun s' => ADr P Γ B ops tr base K r (⟨i, sl, true, v⟩ :: recs) s'
     | false => filterK (fun p => vis tr base ops.length i p.1) mem fun m => fStep false P Γ sl m nx o.op fun v _ _ => fPut s o.dst v mem nx fun s' => ADr P Γ B ops tr base K r (⟨i, sl, true, v⟩ :: recs) s'
    | .al => natK (base + i) fun id => fStep false P Γ sl [] id o.op fun v m _ => match m with
     | [(_, b)] => fPut s o.dst v ((id, b) :: mem) nx fun s' => ADr P Γ B ops tr base K r (⟨i, sl, true, v⟩ :: recs) s'
     | _ => False
    | .eff => filterK (fun p => vis tr base ops.length i p.1) mem fun m => fEff false P Γ (sem P Γ B) sl m nx o.op fun v m nx' => filterK (fun p => !vis tr base ops.length i p.1) mem fun rest => filterK (fun p => !hasKey p.1 m) rest fun rest => appK m rest fun m =>
      fPut s o.dst v m nx' fun s' => fChk false P Γ ops tr base i m nx' recs (ADr P Γ B ops tr base K r recs s'))
   (fPut s o.dst (.tup []) mem nx fun s' => ADr P Γ B ops tr base K r (⟨i, sl, false, .tup []⟩ :: recs) s')
theorem ADr.go {ops : List Oper} {tr : List (List Nat)} {base : Nat} {K : St → Prop} {l : List Nat} {recs : List Rec} {s : St} (h : fd1 P Γ B ops tr base K l recs s) : ADr P Γ B ops tr base K l recs s := by
 refine ⟨?_⟩
 cases l with
 | nil => exact h
 | cons i r =>
  simp only [fd1] at h
  simp only [vrun]
  split at h
  ·exact h.elim
  ·rename_i o ho
   simp only [ho]
   have h := stK_iff.1 h
   rcases fWant_a h with ⟨h1, h⟩ | ⟨h1, h⟩
   ·simp only [h1]
    split at h
    ·rename_i hkd
     simp only [hkd]
     split at h
     ·rename_i hst
      obtain ⟨v, m, n, h2, h⟩ := fStep_a (s := { sl := s.sl, mem := [], nx := s.nx, nt := s.nt }) h
      obtain ⟨m', n', h2'⟩ := aStep_still (s := { sl := s.sl, mem := [], nx := s.nx, nt := s.nt }) (s' := { s with mem := seen tr base ops.length i s.mem }) hst rfl h2
      obtain ⟨s', h3, h⟩ := fPut_a h
      simp only [h2', h3]
      exact h.run
     ·have h := filterK_iff.1 h
      obtain ⟨v, m, n, h2, h⟩ := fStep_a (s := { s with mem := seen tr base ops.length i s.mem }) h
      obtain ⟨s', h3, h⟩ := fPut_a h
      simp only [h2, h3]
      exact h.run
    ·rename_i hkd
     simp only [hkd]
     have h := natK_iff.1 h
     obtain ⟨v, m, n, h2, h⟩ := fStep_a (s := { s with mem := [], nx := base + i }) h
     simp only [h2]
     split at h
     ·obtain ⟨s', h3, h⟩ := fPut_a h
      simp only [h3]
      exact h.run
     ·exact h.elim
    ·rename_i hkd
     simp only [hkd]
     have h := filterK_iff.1 h
     rcases fEff_a (s := { s with mem := seen tr base ops.length i s.mem }) h with ⟨v, m, n, h2, h⟩ | ⟨h2, F, l, h3, h⟩
     ·simp only [h2]
      have h := appK_iff.1 (filterK_iff.1 (filterK_iff.1 h))
      obtain ⟨s', h3, h⟩ := fPut_a h
      have h3 : stepSt s o.dst v (m ++ back m (unseen tr base ops.length i s.mem)) n = some s' := h3
      simp only [h3]
      obtain ⟨e1, e2, _⟩ := stepSt_parts h3
      have h : fChk false P Γ ops tr base i (m ++ back m (unseen tr base ops.length i s.mem)) n recs (ADr P Γ B ops tr base K r recs s') := h
      rw [← e1, ← e2] at h
      obtain ⟨h4, h⟩ := fChk_a h
      exact ⟨h4, h.run⟩
     ·rw [aCall_congr (s' := s) (fun x _ => by cases x <;> rfl)] at h3
      simp only [h2, h3]
      refine (show ACalls P Γ F l _ _ _ from h).mono fun v m n h => ?_
      have h := appK_iff.1 (filterK_iff.1 (filterK_iff.1 h))
      obtain ⟨s', h3, h⟩ := fPut_a h
      have h3 : stepSt s o.dst v (m ++ back m (unseen tr base ops.length i s.mem)) n = some s' := h3
      simp only [h3]
      obtain ⟨e1, e2, _⟩ := stepSt_parts h3
      have h : fChk false P Γ ops tr base i (m ++ back m (unseen tr base ops.length i s.mem)) n recs (ADr P Γ B ops tr base K r recs s') := h
      rw [← e1, ← e2] at h
      obtain ⟨h4, h⟩ := fChk_a h
      exact ⟨h4, h.run⟩
   ·obtain ⟨s', h3, h⟩ := fPut_a h
    simp only [h1, h3]
    exact h.run
def fReg (P : Program) (Γ : List (Nat × AV)) (B : Nat) (ops : List Oper) (s : St) (Q : Exit → St → Prop) : Prop :=
 match P.follows .mixedOrders with
 | true => match okDraw P ops (eager P ops ops.length [] (upto ops.length)) with
  | true => stK s fun sl mem nx nt => natK (nx + ops.length) fun n => listK (eager P ops ops.length [] (upto ops.length)) fun ord => ADr P Γ B ops (trs ops []) nx (fun s' => Q .normal s') ord [] ⟨sl, mem, n, nt⟩
  | false => False
 | false => False
def scpQ (Q : Exit → St → Prop) (e : Exit) (s : St) : Prop :=
 match e with
 | .goto _ => False
 | e => Q e s
def fw1 (P : Program) (Γ : List (Nat × AV)) (B : Nat) (c : Code) (s : St) (Q : Exit → St → Prop) : Prop :=
 match c with
 | .skip => Q .normal s
 | .seq x y => AWp P Γ B x s (seqQ P Γ B y Q)
 | .cond c x y => stK s fun sl _ _ _ => fev Γ sl c fun v => match v with
  | .bool b => bcs b (AWp P Γ B x s Q) (AWp P Γ B y s Q)
  | _ => False
 | .block id c => AWp P Γ B c s (blkQ id Q)
 | .loop c => ALoop P Γ B c s Q
 | .label _ => Q .normal s
 | .scope c => AWp P Γ B c s (scpQ Q)
 | .exit i => Q (.exit i) s
 | .ret => Q .ret s
 | .region _ ops draw => match draw with
  | false => AOps P Γ B ops.toList ops.toList s fun s' => Q .normal s'
  | true => fReg P Γ B ops.toList s Q
 | _ => False
theorem AWp.go {c : Code} {s : St} {Q : Exit → St → Prop} (h : fw1 P Γ B c s Q) : AWp P Γ B c s Q := by
 cases c with
 | skip => exact fwp_sound (cl := false) sem_ok .skip s Q h
 | exit i => exact fwp_sound (cl := false) sem_ok (.exit i) s Q h
 | ret => exact fwp_sound (cl := false) sem_ok .ret s Q h
 | loop c => exact (show ALoop P Γ B c s Q from h).run
 | label l => exact fwp_sound (cl := false) sem_ok (.label l) s Q h
 | scope c =>
  have h : AWp P Γ B c s (scpQ Q) := h
  refine ⟨fun X D ρ a w hD hs hB => wp_scope_straight (Go.wp_mono (h.run X D ρ a w hD hs hB) ?_)⟩
  rintro e a' w' ⟨s', ρ', hq, hB', hs', hext⟩
  cases e with
  | goto l => exact (show False from hq).elim
  | normal => exact ⟨s', ρ', hq, hB', hs', hext⟩
  | exit i => exact ⟨s', ρ', hq, hB', hs', hext⟩
  | ret => exact ⟨s', ρ', hq, hB', hs', hext⟩
  | panic c => exact ⟨s', ρ', hq, hB', hs', hext⟩
  | outgrown => exact ⟨s', ρ', hq, hB', hs', hext⟩
 | seq x y =>
  have h : AWp P Γ B x s (seqQ P Γ B y Q) := h
  refine ⟨fun X D ρ a w hD hs hB => wp_seq (Go.wp_mono (h.run X D ρ a w hD hs hB) ?_)⟩
  rintro e a' w' ⟨s', ρ', hq, hB', hs', hext⟩
  cases e with
  | normal =>
   refine Go.wp_mono ((show AWp P Γ B y s' Q from hq).run X D ρ' a' w' hD hs' hB') ?_
   rintro e a2 w2 ⟨s2, ρ2, h1, h2, h3, h4⟩
   exact ⟨s2, ρ2, h1, h2, h3, hext.trans h4⟩
  | exit i => exact ⟨s', ρ', hq, hB', hs', hext⟩
  | goto l => exact ⟨s', ρ', hq, hB', hs', hext⟩
  | ret => exact ⟨s', ρ', hq, hB', hs', hext⟩
  | panic c => exact ⟨s', ρ', hq, hB', hs', hext⟩
  | outgrown => exact ⟨s', ρ', hq, hB', hs', hext⟩
 | cond c x y =>
  have h : fev Γ s.sl c fun v => match v with
   | .bool b => bcs b (AWp P Γ B x s Q) (AWp P Γ B y s Q)
   | _ => False := h
  obtain ⟨v, h1, h⟩ := fev_ev h
  split at h
  ·rename_i b
   refine ⟨fun X D ρ a w hD hs hB => ?_⟩
   have hv := ev_sound hs h1
   generalize he : a.eval c = cv at hv
   cases hv
   cases b with
   | true => exact wp_cond_true he ((show AWp P Γ B x s Q from h).run X D ρ a w hD hs hB)
   | false => exact wp_cond_false he ((show AWp P Γ B y s Q from h).run X D ρ a w hD hs hB)
  ·exact h.elim
 | block id c =>
  have h : AWp P Γ B c s (blkQ id Q) := h
  refine ⟨fun X D ρ a w hD hs hB => wp_block (Go.wp_mono (h.run X D ρ a w hD hs hB) ?_)⟩
  rintro e a' w' ⟨s', ρ', hq, hB', hs', hext⟩
  cases e with
  | exit i =>
   simp only [Exit.inBlock]
   simp only [blkQ] at hq
   split at hq
   ·rename_i hi; rw [if_pos (Nat.eq_of_beq_eq_true hi)]; exact ⟨s', ρ', hq, hB', hs', hext⟩
   ·rename_i hi; rw [if_neg (Nat.ne_of_beq_eq_false hi)]; exact ⟨s', ρ', hq, hB', hs', hext⟩
  | normal => exact ⟨s', ρ', hq, hB', hs', hext⟩
  | goto l => exact ⟨s', ρ', hq, hB', hs', hext⟩
  | ret => exact ⟨s', ρ', hq, hB', hs', hext⟩
  | panic c => exact ⟨s', ρ', hq, hB', hs', hext⟩
  | outgrown => exact ⟨s', ρ', hq, hB', hs', hext⟩
 | region id ops draw =>
  cases draw with
  | false => exact awp_sound sem_ok (.region id ops false) s Q (show AOps P Γ B ops.toList ops.toList s _ from h).run
  | true =>
   refine awp_sound sem_ok (.region id ops true) s Q ?_
   have h : fReg P Γ B ops.toList s Q := h
   unfold fReg at h
   simp only [awp]
   split at h
   ·rename_i hmix
    simp only [hmix]
    split at h
    ·rename_i hok
     simp only [aDraw, hok]
     exact (listK_iff.1 (natK_iff.1 (stK_iff.1 h))).run
    ·exact h.elim
   ·exact h.elim
 | _ => exact (show False from h).elim
theorem acalls_go {F : FuncId} {fn : Func} {c : Code} {args : List AV} {mem : Mem} {nx : Nat} {Q : AV → Mem → Nat → Prop} (hΓ : ∀ p ∈ Γ, NN p.2) (hf : P.funcs[F]? = some fn) (hb : fn.body = some c)
  (h : fEnter fn.ntmps args mem nx fun s => AWp P Γ nx c s (fRet P fn.results.toList (Fini nx Q))) : ACalls P Γ F args mem nx Q :=
 (acalls_of_awp hf hb ((fEnter_iff h).mono fun _ _ h => fRet_a h)).turn hΓ
def loopQ {α : Type} (B : Nat) (R : α → Prop) (I : α → St) (μ : α → Nat) (x : α) (Q : Exit → St → Prop) (e : Exit) (s : St) : Prop :=
 match e with
 | .normal => Again B R I μ x s
 | e => Q e s
theorem ALoop.at {c : Code} {s : St} {Q : Exit → St → Prop} {α : Type} (hΓ : ∀ p ∈ Γ, NN p.2) (R : α → Prop) (I : α → St) (μ : α → Nat) (x : α) (σ : List (Nat × Nat)) (hx : R x) (h0 : Conv B σ s (I x))
  (h : ∀ x, R x → AWp P Γ B c (I x) (loopQ B R I μ x Q)) : ALoop P Γ B c s Q := by
 refine ⟨AWp.conv hΓ h0 ?_⟩
 refine AWp.loop (α := { x : α // R x }) hΓ (fun x => I x.1) (fun x => μ x.1) (fun x => ?_) ⟨x, hx⟩
 refine (h x.1 x.2).mono fun e s h => ?_
 cases e with
 | normal =>
  obtain ⟨y, σ, hy, hc, hlt⟩ := (show Again B R I μ x.1 s from h)
  exact ⟨⟨y, hy⟩, σ, hc, hlt⟩
 | exit i => exact h
 | goto l => exact h
 | ret => exact h
 | panic c => exact h
 | outgrown => exact h
theorem ALoop.ph {c : Code} {s : St} {Q : Exit → St → Prop} (t : TypeId) (sz : Nat) (h : ALoop P Γ B c ⟨s.sl, (s.nx, .row t sz []) :: s.mem, s.nx + 1, s.nt⟩ Q) : ALoop P Γ B c s Q := ⟨AWp.ph t sz h.run⟩
def foA (P : Program) (Γ : List (Nat × AV)) (B : Nat) (ops : List Oper) (K : St → Prop) (next : List Oper → St → Prop) (l : List Oper) (s : St) : Prop :=
 match l with
 | [] => K s
 | o :: r => stK s fun sl mem nx nt => fWant ops sl o.guard
   (fEff false P Γ (sem P Γ B) sl mem nx o.op fun v mem nx => fPut s o.dst v mem nx fun s' => next r s')
   (fPut s o.dst (.tup []) mem nx fun s' => next r s')
theorem foA_ok {ops : List Oper} {K : St → Prop} {next : List Oper → St → Prop} (hn : ∀ r s, next r s → AOps P Γ B ops r s K) {l : List Oper} {s : St} (h : foA P Γ B ops K next l s) : AOps P Γ B ops l s K := by
 refine ⟨?_⟩
 cases l with
 | nil => exact h
 | cons o r =>
  have h : fWant ops s.sl o.guard (fEff false P Γ (sem P Γ B) s.sl s.mem s.nx o.op fun v mem nx => fPut s o.dst v mem nx fun s' => next r s') (fPut s o.dst (.tup []) s.mem s.nx fun s' => next r s') := h
  simp only [aOps]
  rcases fWant_a h with ⟨h1, h⟩ | ⟨h1, h⟩
  ·simp only [h1]
   rcases fEff_a h with ⟨v, m, n, h2, h⟩ | ⟨h2, F, l, h3, h⟩
   ·obtain ⟨s', h4, h⟩ := fPut_a h
    simp only [h2, h4]
    exact (hn _ _ h).run
   ·simp only [h2, h3]
    refine (show ACalls P Γ F l s.mem s.nx _ from h).mono fun v m n h => ?_
    obtain ⟨s', h4, h⟩ := fPut_a h
    simp only [h4]
    exact (hn _ _ h).run
  ·obtain ⟨s', h4, h⟩ := fPut_a h
   simp only [h1, h4]
   exact (hn _ _ h).run
def fwA (P : Program) (Γ : List (Nat × AV)) (B : Nat) (next : Code → St → (Exit → St → Prop) → Prop) (c : Code) (s : St) (Q : Exit → St → Prop) : Prop :=
 match c with
 | .seq x y => next x s (seqQ P Γ B y Q)
 | .block id c => next c s (blkQ id Q)
 | c => fw1 P Γ B c s Q
theorem fwA_ok {next : Code → St → (Exit → St → Prop) → Prop} (hn : ∀ c s Q, next c s Q → AWp P Γ B c s Q) {c : Code} {s : St} {Q : Exit → St → Prop} (h : fwA P Γ B next c s Q) : AWp P Γ B c s Q := by
 cases c with
 | seq x y => exact AWp.go (show fw1 P Γ B (.seq x y) s Q from hn _ _ _ h)
 | block id c => exact AWp.go (show fw1 P Γ B (.block id c) s Q from hn _ _ _ h)
 | _ => exact AWp.go h
def foP0 (P : Program) (Γ : List (Nat × AV)) (B : Nat) (ops : List Oper) (K : St → Prop) (l : List Oper) (s : St) : Prop := AOps P Γ B ops l s K
theorem foP0_ok {ops : List Oper} {K : St → Prop} (l : List Oper) (s : St) (h : foP0 P Γ B ops K l s) : AOps P Γ B ops l s K := h
def foP1 (P : Program) (Γ : List (Nat × AV)) (B : Nat) (ops : List Oper) (K : St → Prop) (l : List Oper) (s : St) : Prop := foA P Γ B ops K (foP0 P Γ B ops K) l s
theorem foP1_ok {ops : List Oper} {K : St → Prop} (l : List Oper) (s : St) (h : foP1 P Γ B ops K l s) : AOps P Γ B ops l s K := foA_ok foP0_ok h
def foP2 (P : Program) (Γ : List (Nat × AV)) (B : Nat) (ops : List Oper) (K : St → Prop) (l : List Oper) (s : St) : Prop := foA P Γ B ops K (foP1 P Γ B ops K) l s
theorem foP2_ok {ops : List Oper} {K : St → Prop} (l : List Oper) (s : St) (h : foP2 P Γ B ops K l s) : AOps P Γ B ops l s K := foA_ok foP1_ok h
def foP3 (P : Program) (Γ : List (Nat × AV)) (B : Nat) (ops : List Oper) (K : St → Prop) (l : List Oper) (s : St) : Prop := foA P Γ B ops K (foP2 P Γ B ops K) l s
theorem foP3_ok {ops : List Oper} {K : St → Prop} (l : List Oper) (s : St) (h : foP3 P Γ B ops K l s) : AOps P Γ B ops l s K := foA_ok foP2_ok h
def foP4 (P : Program) (Γ : List (Nat × AV)) (B : Nat) (ops : List Oper) (K : St → Prop) (l : List Oper) (s : St) : Prop := foA P Γ B ops K (foP3 P Γ B ops K) l s
theorem foP4_ok {ops : List Oper} {K : St → Prop} (l : List Oper) (s : St) (h : foP4 P Γ B ops K l s) : AOps P Γ B ops l s K := foA_ok foP3_ok h
def foP5 (P : Program) (Γ : List (Nat × AV)) (B : Nat) (ops : List Oper) (K : St → Prop) (l : List Oper) (s : St) : Prop := foA P Γ B ops K (foP4 P Γ B ops K) l s
theorem foP5_ok {ops : List Oper} {K : St → Prop} (l : List Oper) (s : St) (h : foP5 P Γ B ops K l s) : AOps P Γ B ops l s K := foA_ok foP4_ok h
def foP6 (P : Program) (Γ : List (Nat × AV)) (B : Nat) (ops : List Oper) (K : St → Prop) (l : List Oper) (s : St) : Prop := foA P Γ B ops K (foP5 P Γ B ops K) l s
theorem foP6_ok {ops : List Oper} {K : St → Prop} (l : List Oper) (s : St) (h : foP6 P Γ B ops K l s) : AOps P Γ B ops l s K := foA_ok foP5_ok h
def foP7 (P : Program) (Γ : List (Nat × AV)) (B : Nat) (ops : List Oper) (K : St → Prop) (l : List Oper) (s : St) : Prop := foA P Γ B ops K (foP6 P Γ B ops K) l s
theorem foP7_ok {ops : List Oper} {K : St → Prop} (l : List Oper) (s : St) (h : foP7 P Γ B ops K l s) : AOps P Γ B ops l s K := foA_ok foP6_ok h
def foP8 (P : Program) (Γ : List (Nat × AV)) (B : Nat) (ops : List Oper) (K : St → Prop) (l : List Oper) (s : St) : Prop := foA P Γ B ops K (foP7 P Γ B ops K) l s
theorem foP8_ok {ops : List Oper} {K : St → Prop} (l : List Oper) (s : St) (h : foP8 P Γ B ops K l s) : AOps P Γ B ops l s K := foA_ok foP7_ok h
def foP9 (P : Program) (Γ : List (Nat × AV)) (B : Nat) (ops : List Oper) (K : St → Prop) (l : List Oper) (s : St) : Prop := foA P Γ B ops K (foP8 P Γ B ops K) l s
theorem foP9_ok {ops : List Oper} {K : St → Prop} (l : List Oper) (s : St) (h : foP9 P Γ B ops K l s) : AOps P Γ B ops l s K := foA_ok foP8_ok h
def foP10 (P : Program) (Γ : List (Nat × AV)) (B : Nat) (ops : List Oper) (K : St → Prop) (l : List Oper) (s : St) : Prop := foA P Γ B ops K (foP9 P Γ B ops K) l s
theorem foP10_ok {ops : List Oper} {K : St → Prop} (l : List Oper) (s : St) (h : foP10 P Γ B ops K l s) : AOps P Γ B ops l s K := foA_ok foP9_ok h
theorem AOps.many {ops l : List Oper} {s : St} {K : St → Prop} (h : foP10 P Γ B ops K l s) : AOps P Γ B ops l s K := foP10_ok l s h
def fwP0 (P : Program) (Γ : List (Nat × AV)) (B : Nat) (c : Code) (s : St) (Q : Exit → St → Prop) : Prop := AWp P Γ B c s Q
theorem fwP0_ok (c : Code) (s : St) (Q : Exit → St → Prop) (h : fwP0 P Γ B c s Q) : AWp P Γ B c s Q := h
def fwP1 (P : Program) (Γ : List (Nat × AV)) (B : Nat) (c : Code) (s : St) (Q : Exit → St → Prop) : Prop := fwA P Γ B (fwP0 P Γ B) c s Q
theorem fwP1_ok (c : Code) (s : St) (Q : Exit → St → Prop) (h : fwP1 P Γ B c s Q) : AWp P Γ B c s Q := fwA_ok fwP0_ok h
def fwP2 (P : Program) (Γ : List (Nat × AV)) (B : Nat) (c : Code) (s : St) (Q : Exit → St → Prop) : Prop := fwA P Γ B (fwP1 P Γ B) c s Q
theorem fwP2_ok (c : Code) (s : St) (Q : Exit → St → Prop) (h : fwP2 P Γ B c s Q) : AWp P Γ B c s Q := fwA_ok fwP1_ok h
def fwP3 (P : Program) (Γ : List (Nat × AV)) (B : Nat) (c : Code) (s : St) (Q : Exit → St → Prop) : Prop := fwA P Γ B (fwP2 P Γ B) c s Q
theorem fwP3_ok (c : Code) (s : St) (Q : Exit → St → Prop) (h : fwP3 P Γ B c s Q) : AWp P Γ B c s Q := fwA_ok fwP2_ok h
def fwP4 (P : Program) (Γ : List (Nat × AV)) (B : Nat) (c : Code) (s : St) (Q : Exit → St → Prop) : Prop := fwA P Γ B (fwP3 P Γ B) c s Q
theorem fwP4_ok (c : Code) (s : St) (Q : Exit → St → Prop) (h : fwP4 P Γ B c s Q) : AWp P Γ B c s Q := fwA_ok fwP3_ok h
def fwP5 (P : Program) (Γ : List (Nat × AV)) (B : Nat) (c : Code) (s : St) (Q : Exit → St → Prop) : Prop := fwA P Γ B (fwP4 P Γ B) c s Q
theorem fwP5_ok (c : Code) (s : St) (Q : Exit → St → Prop) (h : fwP5 P Γ B c s Q) : AWp P Γ B c s Q := fwA_ok fwP4_ok h
def fwP6 (P : Program) (Γ : List (Nat × AV)) (B : Nat) (c : Code) (s : St) (Q : Exit → St → Prop) : Prop := fwA P Γ B (fwP5 P Γ B) c s Q
theorem fwP6_ok (c : Code) (s : St) (Q : Exit → St → Prop) (h : fwP6 P Γ B c s Q) : AWp P Γ B c s Q := fwA_ok fwP5_ok h
def fwP7 (P : Program) (Γ : List (Nat × AV)) (B : Nat) (c : Code) (s : St) (Q : Exit → St → Prop) : Prop := fwA P Γ B (fwP6 P Γ B) c s Q
theorem fwP7_ok (c : Code) (s : St) (Q : Exit → St → Prop) (h : fwP7 P Γ B c s Q) : AWp P Γ B c s Q := fwA_ok fwP6_ok h
def fwP8 (P : Program) (Γ : List (Nat × AV)) (B : Nat) (c : Code) (s : St) (Q : Exit → St → Prop) : Prop := fwA P Γ B (fwP7 P Γ B) c s Q
theorem fwP8_ok (c : Code) (s : St) (Q : Exit → St → Prop) (h : fwP8 P Γ B c s Q) : AWp P Γ B c s Q := fwA_ok fwP7_ok h
theorem AWp.many {c : Code} {s : St} {Q : Exit → St → Prop} (h : fwP8 P Γ B c s Q) : AWp P Γ B c s Q := fwP8_ok c s Q h
class XG (p : Prop) (q : outParam Prop) : Prop where
 h : q → p
instance {c : Code} {s : St} {Q : Exit → St → Prop} : XG (AWp P Γ B c s Q) (fwP8 P Γ B c s Q) := ⟨AWp.many⟩
instance {ops l : List Oper} {s : St} {K : St → Prop} : XG (AOps P Γ B ops l s K) (foP10 P Γ B ops K l s) := ⟨AOps.many⟩
instance {ops : List Oper} {tr : List (List Nat)} {base : Nat} {K : St → Prop} {l : List Nat} {recs : List Rec} {s : St} : XG (ADr P Γ B ops tr base K l recs s) (fd1 P Γ B ops tr base K l recs s) := ⟨ADr.go⟩
theorem Xg {p q : Prop} [i : XG p q] (x : q) : p := i.h x
end
end Go.Ax
namespace Go.Ax
open Go
def inL (i : Nat) : List Nat → Bool
 | [] => false
 | j :: r => match Nat.beq j i with
  | true => true
  | false => inL i r
def pickM (ids : List Nat) : Mem → Mem
 | [] => []
 | (k, b) :: r => match inL k ids with
  | true => (k, b) :: pickM ids r
  | false => pickM ids r
def dropM (ids : List Nat) : Mem → Mem
 | [] => []
 | (k, b) :: r => match inL k ids with
  | true => dropM ids r
  | false => (k, b) :: dropM ids r
def keysIn (ids : List Nat) : Mem → Bool
 | [] => true
 | (k, _) :: r => inL k ids && keysIn ids r
theorem pickM_mem {ids : List Nat} : ∀ {m : Mem} {p : Nat × AB}, p ∈ pickM ids m ↔ p ∈ m ∧ inL p.1 ids = true
 | [], p => by simp [pickM]
 | (k, b) :: r, p => by
  simp only [pickM]
  split
  ·rename_i h
   rw [List.mem_cons, pickM_mem (m := r), List.mem_cons]
   constructor
   ·rintro (rfl | ⟨h1, h2⟩)
    ·exact ⟨.inl rfl, h⟩
    ·exact ⟨.inr h1, h2⟩
   ·rintro ⟨rfl | h1, h2⟩
    ·exact .inl rfl
    ·exact .inr ⟨h1, h2⟩
  ·rename_i h
   rw [pickM_mem (m := r), List.mem_cons]
   constructor
   ·rintro ⟨h1, h2⟩; exact ⟨.inr h1, h2⟩
   ·rintro ⟨rfl | h1, h2⟩
    ·rw [h] at h2; cases h2
    ·exact ⟨h1, h2⟩
theorem dropM_mem {ids : List Nat} : ∀ {m : Mem} {p : Nat × AB}, p ∈ dropM ids m ↔ p ∈ m ∧ inL p.1 ids = false
 | [], p => by simp [dropM]
 | (k, b) :: r, p => by
  simp only [dropM]
  split
  ·rename_i h
   rw [dropM_mem (m := r), List.mem_cons]
   constructor
   ·rintro ⟨h1, h2⟩; exact ⟨.inr h1, h2⟩
   ·rintro ⟨rfl | h1, h2⟩
    ·rw [h] at h2; cases h2
    ·exact ⟨h1, h2⟩
  ·rename_i h
   rw [List.mem_cons, dropM_mem (m := r), List.mem_cons]
   constructor
   ·rintro (rfl | ⟨h1, h2⟩)
    ·exact ⟨.inl rfl, h⟩
    ·exact ⟨.inr h1, h2⟩
   ·rintro ⟨rfl | h1, h2⟩
    ·exact .inl rfl
    ·exact .inr ⟨h1, h2⟩
theorem pickM_sub {ids : List Nat} : ∀ (m : Mem), (pickM ids m).Sublist m
 | [] => by simp [pickM]
 | (k, b) :: r => by
  simp only [pickM]
  split
  ·exact (pickM_sub r).cons_cons _
  ·exact (pickM_sub r).cons _
theorem dropM_sub {ids : List Nat} : ∀ (m : Mem), (dropM ids m).Sublist m
 | [] => by simp [dropM]
 | (k, b) :: r => by
  simp only [dropM]
  split
  ·exact (dropM_sub r).cons _
  ·exact (dropM_sub r).cons_cons _
theorem keysIn_sound : ∀ {m : Mem} {ids : List Nat}, keysIn ids m = true → ∀ p ∈ m, inL p.1 ids = true
 | [], ids, _, p, hp => by cases hp
 | (k, b) :: r, ids, h, p, hp => by
  simp only [keysIn, Bool.and_eq_true] at h
  rcases List.mem_cons.1 hp with rfl | hp
  ·exact h.1
  ·exact keysIn_sound h.2 p hp
def keysS : List (Nat × Nat) → List Nat
 | [] => []
 | (i, _) :: r => i :: keysS r
def invS : List (Nat × Nat) → List (Nat × Nat)
 | [] => []
 | (i, j) :: r => (j, i) :: invS r
def valsLt (n : Nat) : List (Nat × Nat) → Bool
 | [] => true
 | (_, j) :: r => Nat.blt j n && valsLt n r
theorem invS_mem : ∀ {σ : List (Nat × Nat)} {i j : Nat}, (j, i) ∈ invS σ ↔ (i, j) ∈ σ
 | [], i, j => by simp [invS]
 | (a, b) :: r, i, j => by
  simp only [invS, List.mem_cons, invS_mem (σ := r), Prod.mk.injEq]
  constructor
  ·rintro (⟨rfl, rfl⟩ | h)
   ·exact .inl ⟨rfl, rfl⟩
   ·exact .inr h
  ·rintro (⟨rfl, rfl⟩ | h)
   ·exact .inl ⟨rfl, rfl⟩
   ·exact .inr h
theorem lk_of_mem {σ : List (Nat × Nat)} (h : nod2 (invS σ) = true) {i j : Nat} (hm : (i, j) ∈ σ) : lk σ i = some j := by
 induction σ with
 | nil => cases hm
 | cons p r ih =>
  obtain ⟨a, b⟩ := p
  simp only [invS, nod2, Bool.and_eq_true] at h
  simp only [lk]
  rcases List.mem_cons.1 hm with e | hm'
  ·cases e; simp
  ·have hne : a ≠ i := by
    intro e
    subst e
    exact notIn_sound h.1 _ (invS_mem.2 hm') rfl
   rw [nbeq_ne hne]
   exact ih h.2 hm'
theorem valsLt_sound : ∀ {σ : List (Nat × Nat)} {n : Nat}, valsLt n σ = true → ∀ p ∈ σ, p.2 < n
 | [], n, _, p, hp => by cases hp
 | (a, b) :: r, n, h, p, hp => by
  simp only [valsLt, Bool.and_eq_true] at h
  rcases List.mem_cons.1 hp with rfl | hp
  ·exact Nat.le_of_ble_eq_true h.1
  ·exact valsLt_sound h.2 p hp
theorem ACalls.useR {P : Program} {Γ : List (Nat × AV)} {F : FuncId} {args args' : List AV} {ms mem m1 : Mem} {ns nx : Nat} {Qs K : AV → Mem → Nat → Prop} (hΓ : ∀ p ∈ Γ, NN p.2) (σ : List (Nat × Nat)) (h : ACalls P Γ F args' ms ns Qs)
  (hp : pickM (keysS σ) mem = m1) (hargs : CvL m1 σ args args') (hM : MemConv m1 σ ms) (hc : (nodM ms && (nod2 σ && (nod2 (invS σ) && valsLt ns σ))) = true)
  (hk : ∀ r m n, Qs r m n → ∃ m', NN r ∧ MemConv m (invS σ) m' ∧ (nodM m' && keysIn (keysS σ) m') = true ∧ K r (m' ++ dropM (keysS σ) mem) nx) : ACalls P Γ F args mem nx K := by
 simp only [Bool.and_eq_true] at hc
 obtain ⟨hc1, hc2, hc3, hc4⟩ := hc
 refine ⟨fun X D ρ w vs hD hm hv => ?_⟩
 refine (ACalls.use (K := K) (nx := nx) hΓ h σ (m1 := m1) (rest := dropM (keysS σ) mem) ⟨fun p hp' => ?_, fun p hp' => (dropM_mem.1 hp').1, fun p hp' => ?_, fun p h1 q h2 => ?_, ?_⟩ ?_ hargs hM.cvm (nodM_sound hc1) (inj_of hc2) (fun id i hl => valsLt_sound hc4 _ (lk_mem hl)) ?_).run X D ρ w vs hD hm hv
 ·rw [← hp] at hp'; exact (pickM_mem.1 hp').1
 ·cases hi : inL p.1 (keysS σ) with
  | true => left; rw [← hp]; exact pickM_mem.2 ⟨hp', hi⟩
  | false => right; exact dropM_mem.2 ⟨hp', hi⟩
 ·rw [← hp] at h1
  have a := (pickM_mem.1 h1).2
  have b := (dropM_mem.1 h2).2
  intro e
  rw [e, b] at a
  cases a
 ·rw [← hp]; exact hm.nod.sublist ((pickM_sub mem).map _)
 ·exact hm.nod.sublist ((dropM_sub mem).map _)
 ·intro r m n hq hn
  obtain ⟨m', h1, h2, h3, h4⟩ := hk r m n hq
  simp only [Bool.and_eq_true] at h3
  refine ⟨invS σ, r, m', nx, Nat.le_refl _, .same r h1, h2.cvm, nodM_sound h3.1, inj_of hc3, fun i id hl => ?_, fun p h5 q h6 => ?_, h4⟩
  ·have hmem := invS_mem.1 (lk_mem hl)
   exact .inl ⟨valsLt_sound hc4 _ hmem, lk_of_mem hc3 hmem⟩
  ·have a := keysIn_sound h3.2 p h5
   have b := (dropM_mem.1 h6).2
   intro e
   rw [e, b] at a
   cases a
end Go.Ax
namespace Go.Ax
open Go
def Grown (w w' : World) : Prop := w.heap.size ≤ w'.heap.size ∧ (∀ b, b < w.heap.size → w'.heap[b]? = w.heap[b]?) ∧ Env w w'
theorem Grown.refl (w : World) : Grown w w := ⟨Nat.le_refl _, fun _ _ => rfl, .refl _⟩
section
variable {P : Program} {Γ : List (Nat × AV)} {F : FuncId} {args : List AV} {r : AV}
def Knows (Γ : List (Nat × AV)) (w : World) : Prop := ∀ p ∈ Γ, ∀ (j : Nat) (c : AV), p.2.cells[j]? = some c → ∃ x ρ D O, w.cell? ⟨p.1, j, none⟩ = some x ∧ VR ρ D O w c x
theorem MR.knows {X : Nat → Prop} {ρ : Nat → Loc} {D : Nat → Prop} {mem : Mem} {w : World} (hm : MR Γ X ρ D mem w) : Knows Γ w := by
 intro p hp j c hc
 have := hm.glo p hp
 cases this with
 | ip _ _ _ f h1 h2 => exact ⟨f j, ρ, D, _, by have := (h1 j c hc).2.1; rwa [Nat.zero_add] at this, h2 j c hc⟩
theorem pureC_of {vs : List Value} (hargs : ∀ (ρ : Nat → Loc) (D O : Nat → Prop) (w : World) (xs : List Value), VRL ρ D O w args xs → xs = vs)
  (h : ∀ w, Knows Γ w → Calls P F vs.toArray w fun e w' => ∃ x, e = .returned x ∧ (∀ (ρ : Nat → Loc) (D O : Nat → Prop) (w : World), VR ρ D O w r x) ∧ Grown w w') : PureC P Γ F args r := by
 refine ⟨fun X D ρ w xs hD hm hv => ?_⟩
 obtain rfl := hargs _ _ _ _ _ hv
 refine (h w hm.knows).mono ?_
 rintro e w' ⟨x, rfl, hx, g1, g2, g3⟩
 obtain ⟨m1, ext⟩ := hm.still g1 g2 g3
 have hsub : ∀ i, D i → dn D 0 0 i := fun i hi => .inl hi
 exact ⟨r, x, [], 0, ρ, rfl, ⟨rfl, rfl, rfl⟩, Nat.le_refl _, (m1.widen hsub).1, hx _ _ _ _, (ext D fun i hi => hi).wide hsub⟩
end
end Go.Ax
namespace Go.Ax
open Go Go.RowKit
theorem vr_tab_var {P : Program} {w : World} {n : String} {g : Nat} {k : IntKind} {zs : List Int} (hg : P.globalNamed n = some g) (hv : Lib.TabIs P w n k zs) :
  VR (fun _ => ⟨0, 0, 0⟩) (fun _ => False) (OX (fun _ => False) (fun _ => ⟨0, 0, 0⟩) []) w (.ip (.agg (zs.map fun z => AV.int k z))) (.pointer (some ⟨g, 0, none⟩)) := by
 refine .ip _ g 0 (fun j => .int k (zs.getD j 0)) (fun j c hj => ?_) (fun j c hj => ?_)
 ·have hj0 : j < zs.length := by have := (List.getElem?_eq_some_iff.1 hj).1; simpa [AV.cells] using this
  exact ⟨not_ox _ _, by simpa using hv.cell hg j hj0, rfl⟩
 ·have hj0 : j < zs.length := by have := (List.getElem?_eq_some_iff.1 hj).1; simpa [AV.cells] using this
  simp [AV.cells, List.getElem?_map, List.getElem?_eq_getElem hj0] at hj
  subst hj
  simp [List.getD_eq_getElem?_getD, List.getElem?_eq_getElem hj0]
  exact .int _ _
end Go.Ax
namespace Go.Ax
open Go
def genNames : List (List UInt8) := [[76, 101, 97, 102], [65], [69, 109, 112, 116, 121], [66, 95, 50], [70, 111, 114, 107], [90, 122]]
def genBase (k n : Int) (s : List UInt8) (kids : List Val) : Prop :=
 (k = 0 ∧ i64 n ∧ s = [] ∧ kids = []) ∨ (k = 1 ∧ (n = 0 ∨ n = 1) ∧ s = [] ∧ kids = []) ∨ (k = 2 ∧ n = 0 ∧ s = []) ∨ (k = 3 ∧ n = 0 ∧ s ∈ genNames)
def genV : Nat → Val → Prop
 | 0, .mk k n s kids => genBase k n s kids ∧ kids = []
 | d + 1, .mk k n s kids => genBase k n s kids ∧ kids.length ≤ 3 ∧ ∀ v ∈ kids, genV d v
theorem genNames_len {s : List UInt8} (h : s ∈ genNames) : s.length ≤ 4294967296 := by
 simp [genNames] at h
 rcases h with rfl | rfl | rfl | rfl | rfl | rfl <;> simp
theorem genBase_ok {k n : Int} {s : List UInt8} {kids : List Val} (h : genBase k n s kids) : i64 k ∧ i64 n ∧ s.length ≤ 4294967296 := by
 rcases h with ⟨rfl, h, rfl, _⟩ | ⟨rfl, h, rfl, _⟩ | ⟨rfl, rfl, rfl⟩ | ⟨rfl, rfl, h⟩
 ·exact ⟨⟨by omega, by omega⟩, h, by simp⟩
 ·exact ⟨⟨by omega, by omega⟩, ⟨by omega, by omega⟩, by simp⟩
 ·exact ⟨⟨by omega, by omega⟩, ⟨by omega, by omega⟩, by simp⟩
 ·exact ⟨⟨by omega, by omega⟩, ⟨by omega, by omega⟩, genNames_len h⟩
theorem genV_ok : ∀ {d : Nat} {v : Val}, genV d v → okV v
 | 0, .mk k n s kids, h => by
  simp only [genV] at h
  obtain ⟨h1, rfl⟩ := h
  obtain ⟨a, b, c⟩ := genBase_ok h1
  simp only [okV, okVs]
  exact ⟨a, b, c, by simp, trivial⟩
 | d + 1, .mk k n s kids, h => by
  simp only [genV] at h
  obtain ⟨h1, h2, h3⟩ := h
  obtain ⟨a, b, c⟩ := genBase_ok h1
  simp only [okV]
  exact ⟨a, b, c, by omega, okVs_of fun v hv => genV_ok (h3 v hv)⟩
def genCost : Nat → Nat
 | 0 => 6
 | d + 1 => 4 * genCost d
theorem genCost_pos : ∀ d, 6 ≤ genCost d
 | 0 => Nat.le_refl _
 | d + 1 => by have := genCost_pos d; simp only [genCost]; omega
end Go.Ax
