/- A part of the proof. -/
import Derived.Test.YtfnhkfdjhmgjbaaGreatDoorAx8
import Derived.Below
import Derived.Lib.ConvBytes
import Derived.Lib.ItoaMem
import Derived.ChangeMaps5
import Derived.Lib.LaidTab
import Derived.Lib.ItoaNum
import Derived.Lib.AtoiAllCases

/- Steps whose side conditions close by themselves. -/
namespace Go.Ax
open Go
set_option linter.unusedVariables false

/-- No own names within, found by the shape. -/
theorem nn {v : AV} (h : NN v := by
    repeat' first
      | assumption
      | exact NN.int _ _
      | exact NN.bool _
      | exact NN.str _
      | exact NN.nsl
      | exact NN.nptr
      | exact NN.nif
      | exact NN.nfn
      | exact NN.nmap
      | exact NN.junk
      | exact encV_nn _
      | exact encVs_nn _
      | exact encI_nn _
      | exact NNs.nil
      | refine NNs.cons ?_ ?_
      | refine NN.agg' ?_
      | refine NN.tup' ?_
      | refine NN.il' ?_
      | refine NN.ip' ?_
      | refine NN.ifc _ _ ?_
      | exact NN.fn _ _ _ (by simp) (by simp)) : NN v := h
theorem nns {l : List AV} (h : NNs l := by
    repeat' first
      | assumption
      | exact NN.int _ _
      | exact NN.bool _
      | exact NN.str _
      | exact NN.nsl
      | exact NN.nptr
      | exact NN.nif
      | exact NN.nfn
      | exact NN.nmap
      | exact NN.junk
      | exact encV_nn _
      | exact encVs_nn _
      | exact encI_nn _
      | exact NNs.nil
      | refine NNs.cons ?_ ?_
      | refine NN.agg' ?_
      | refine NN.tup' ?_
      | refine NN.il' ?_
      | refine NN.ip' ?_
      | refine NN.ifc _ _ ?_
      | exact NN.fn _ _ _ (by simp) (by simp)) : NNs l := h

section
variable {P : Program} {Γ : List (Nat × AV)} {F : FuncId} {args : List AV} {r : AV} {mem : Mem} {nx : Nat} {K : AV → Mem → Nat → Prop}

/-- A call without a trace. -/
theorem PureC.go (h : PureC P [] F args r) (hk : K r mem nx) (ha : NNs args := by exact nns) (hr : NN r := by exact nn) : ACalls P [] F args mem nx K := h.use nnΓ ha hr hk

theorem ACalls.go0 {Qs : AV → Mem → Nat → Prop} (h : ACalls P [] F args [] 0 Qs) (hk : ∀ r m n, Qs r m n → ∃ r', Cv m [] r r' ∧ K r' mem nx) (ha : NNs args := by exact nns) : ACalls P [] F args mem nx K :=
  ACalls.call0 nnΓ h ha hk
end

/-- The same calls where package-level variables are known. -/
theorem ACalls.glob {P : Program} {Γ : List (Nat × AV)} {F : FuncId} {args : List AV} {mem : Mem} {nx : Nat} {Q : AV → Mem → Nat → Prop} (h : ACalls P [] F args mem nx Q) : ACalls P Γ F args mem nx Q := by
  refine ⟨fun X D ρ w vs hD hm hv => ?_⟩
  refine (h.run X D ρ w vs hD ⟨hm.low, hm.blk, hm.emp, hm.inj, hm.nod, hm.bar, (fun p hp => by cases hp)⟩ hv).mono ?_
  rintro e w' ⟨r, v, m, n, ρ', h1, h2, h3, h4, h5, h6⟩
  exact ⟨r, v, m, n, ρ', h1, h2, h3, ⟨h4.low, h4.blk, h4.emp, h4.inj, h4.nod, h4.bar, fun p hp => h6.vr (hm.glo p hp)⟩, h5, h6⟩

/-- The names stay as they are. -/
def sameN : List (Nat × Nat) → Bool
  | [] => true
  | (i, j) :: r => Nat.beq i j && sameN r
theorem sameN_sound : ∀ {σ : List (Nat × Nat)}, sameN σ = true → ∀ p ∈ σ, p.1 = p.2
  | [], h, p, hp => by cases hp
  | (i, j) :: r, h, p, hp => by
    simp only [sameN, Bool.and_eq_true] at h
    rcases List.mem_cons.1 hp with rfl | hp
    · exact Nat.eq_of_beq_eq_true h.1
    · exact sameN_sound h.2 p hp

/-- Before a call: parts of the memory are made immutable or forgotten; the names stay. -/
theorem ACalls.pre {P : Program} {Γ : List (Nat × AV)} {F : FuncId} {args args' : List AV} {mem mem' : Mem} {nx : Nat} {K : AV → Mem → Nat → Prop} (hΓ : ∀ p ∈ Γ, NN p.2) (σ : List (Nat × Nat)) (hid : (sameN σ && nodM mem') = true)
    (hM : MemConv mem σ mem') (hargs : CvL mem σ args args') (h : ACalls P Γ F args' mem' nx K) : ACalls P Γ F args mem nx K := by
  simp only [Bool.and_eq_true] at hid
  have hid1 := sameN_sound hid.1
  have hnod := nodM_sound hid.2
  refine ⟨fun X D ρ w vs hD hm hv => ?_⟩
  have hσ : ∀ id id', lk σ id = some id' → D id → D id' ∧ ρ id' = ρ id := by
    intro id id' h hd
    have := hid1 _ (lk_mem h)
    simp only at this
    subst this
    exact ⟨hd, rfl⟩
  have hinj : Inj σ := fun i j k h1 h2 => by
    have a := hid1 _ (lk_mem h1)
    have b := hid1 _ (lk_mem h2)
    simp only at a b
    omega
  obtain ⟨m1, v1, o1⟩ := hm.turn (D' := D) (ρ' := ρ) hΓ hσ hM.cvm hnod hinj
  have hvs : VRL ρ D (OX X ρ mem') w args' vs := ⟨by rw [← hargs.1]; exact hv.1, fun j c' x hc' hx => by
      obtain ⟨c, hc⟩ := get_of_len hargs.1 hc'
      exact v1 c c' (hargs.2 j c c' hc hc') _ (hv.2 j c x hc hx)⟩
  refine (h.run X D ρ w vs hD m1 hvs).mono ?_
  rintro e w' ⟨r, v, m, n, ρ', h1, h2, h3, h4, h5, h6⟩
  refine ⟨r, v, m, n, ρ', h1, h2, h3, h4, h5, ?_⟩
  have e0 : Ext D ρ mem w ρ D mem' w := ⟨fun i hi => hi, fun _ _ => rfl, Nat.le_refl _, fun _ _ _ => rfl, fun p hp hn => .inl (o1 p hp hn), rfl, rfl⟩
  exact e0.trans h6

theorem enc_cases {l : List Val} {k : Nat} (h : k < l.length) : ∃ a b c d, Val.mk a b c d ∈ l ∧ l[k]? = some (Val.mk a b c d) ∧ l[k] = Val.mk a b c d ∧ (encVs l)[(k : Int).toNat]? = some (encV (Val.mk a b c d)) := by
  obtain ⟨⟨a, b, c, d⟩, hv⟩ : ∃ v, v = l[k] := ⟨_, rfl⟩
  have e := enc_at h
  rw [← hv] at e
  exact ⟨a, b, c, d, by rw [hv]; exact List.getElem_mem h, by rw [hv]; exact List.getElem?_eq_getElem h, hv.symm, e⟩

section
variable {mem : Mem} {σ : List (Nat × Nat)}
theorem Cv.int {k : IntKind} {a b : Int} (h : a = b) : Cv mem σ (.int k a) (.int k b) := by rw [h]; exact .same _ (.int _ _)
theorem Cv.w64 {x y : Int} (h : x = y) (hb : i64 y) : Cv mem σ (.int .i64 (IntKind.i64.wrap x)) (.int .i64 y) := by rw [h, wrap64 hb]; exact .same _ (.int _ _)
theorem Cv.bool {a b : Bool} (h : a = b) : Cv mem σ (.bool a) (.bool b) := by rw [h]; exact .same _ (.bool _)

theorem cvVal (k n : Int) (s : List UInt8) : CvE mem σ (.agg [.int .i64 k, .int .i64 n, .str s, .nsl]) (encV (.mk k n s [])) :=
  .agg (.cons (.same _ (.int _ _)) (.cons (.same _ (.int _ _)) (.cons (.same _ (.str _)) (.cons (.nil 4) .nil))))
end
theorem encVs_snoc (l : List Val) (v : Val) : encVs (l ++ [v]) = encVs l ++ [encV v] := by simp [encVs_map]
theorem w64 {x y : Int} (h : x = y) (hb : i64 y) : IntKind.i64.wrap x = y := by rw [h, wrap64 hb]
theorem klt {l : List Val} {k : Nat} (h : decide ((k : Int) < ((encVs l).length : Nat)) = true) : k < l.length := by rw [encVs_length] at h; simpa using h
theorem kge {l : List Val} {k : Nat} (h : decide ((k : Int) < ((encVs l).length : Nat)) = false) : l.length ≤ k := by rw [encVs_length] at h; simpa using h

/-- A slice of one's own, made immutable, its elements seen otherwise. -/
theorem Cv.fzR {mem : Mem} {σ : List (Nat × Nat)} {id len : Nat} {t : TypeId} {sz : Nat} {xs ys : List AV} (h1 : lk mem id = some (.row t sz xs)) (h2 : lk σ id = none) (h3 : CvR mem σ xs ys) (h4 : ys.length = len) : Cv mem σ (.sl id 0 len) (.il sz ys) :=
  .fz id 0 len t sz xs ys h1 h2 (by have := h3.1; omega) h4 (fun i x y hx hy => (h3.2 i x y (by simpa using hx) hy).1) (fun i x y j c c' hx hy hc hc' => (h3.2 i x y (by simpa using hx) hy).2 j c c' hc hc')

section
variable {P : Program} {Γ : List (Nat × AV)} {F : FuncId} {args : List AV} {r : AV} {mem : Mem} {nx : Nat} {K : AV → Mem → Nat → Prop}
/-- A call without a trace, where package-level variables are known. -/
theorem PureC.goG (h : PureC P [] F args r) (hk : K r mem nx) (ha : NNs args := by exact nns) (hr : NN r := by exact nn) : ACalls P Γ F args mem nx K := (h.use nnΓ ha hr hk).glob
theorem ACalls.goG0 {Qs : AV → Mem → Nat → Prop} (h : ACalls P [] F args [] 0 Qs) (hk : ∀ r m n, Qs r m n → ∃ r', Cv m [] r r' ∧ K r' mem nx) (ha : NNs args := by exact nns) : ACalls P Γ F args mem nx K :=
  (ACalls.call0 nnΓ h ha hk).glob
end

/-- An element of a slice of one's own. -/
theorem enc_own {l : List Val} {k n : Nat} (h : k < l.length) (hn : l.length = n) : ∃ a b c d, Val.mk a b c d ∈ l ∧ l[k]? = some (Val.mk a b c d) ∧ l[k] = Val.mk a b c d ∧ (encVs l)[0 + (k : Int).toNat]? = some (encV (Val.mk a b c d)) ∧ Nat.blt (k : Int).toNat n = true := by
  obtain ⟨a, b, c, d, h1, h2, h3, h4⟩ := enc_cases h
  exact ⟨a, b, c, d, h1, h2, h3, by rw [Nat.zero_add]; exact h4, Nat.ble_eq_true_of_le (by simp; omega)⟩
end Go.Ax

/- Running code piece by piece: what is behind a piece stays folded. -/
namespace Go.Ax
open Go
set_option linter.unusedVariables false

section
variable {P : Program} {Γ : List (Nat × AV)} {B : Nat}

/-- A loop. -/
structure ALoop (P : Program) (Γ : List (Nat × AV)) (B : Nat) (c : Code) (s : St) (Q : Exit → St → Prop) : Prop where
  run : AWp P Γ B (.loop c) s Q

def seqQ (P : Program) (Γ : List (Nat × AV)) (B : Nat) (y : Code) (Q : Exit → St → Prop) (e : Exit) (s : St) : Prop :=
  match e with
  | .normal => AWp P Γ B y s Q
  | e => Q e s

def blkQ (id : Nat) (Q : Exit → St → Prop) (e : Exit) (s : St) : Prop :=
  match e with
  | .exit i => match Nat.beq i id with
    | true => Q .normal s
    | false => Q (.exit i) s
  | e => Q e s

/-- Operations, one after the other. -/
structure AOps (P : Program) (Γ : List (Nat × AV)) (B : Nat) (ops l : List Oper) (s : St) (K : St → Prop) : Prop where
  run : aOps P Γ (sem P Γ B) ops l s K

/-- One operation. -/
def fo1 (P : Program) (Γ : List (Nat × AV)) (B : Nat) (ops l : List Oper) (s : St) (K : St → Prop) : Prop :=
  match l with
  | [] => K s
  | o :: r => stK s fun sl mem nx nt => fWant ops sl o.guard
      (fEff false P Γ (sem P Γ B) sl mem nx o.op fun v mem nx => fPut s o.dst v mem nx fun s' => AOps P Γ B ops r s' K)
      (fPut s o.dst (.tup []) mem nx fun s' => AOps P Γ B ops r s' K)

theorem AOps.go {ops l : List Oper} {s : St} {K : St → Prop} (h : fo1 P Γ B ops l s K) : AOps P Γ B ops l s K := by
  refine ⟨?_⟩
  cases l with
  | nil => exact h
  | cons o r =>
    have h : fWant ops s.sl o.guard (fEff false P Γ (sem P Γ B) s.sl s.mem s.nx o.op fun v mem nx => fPut s o.dst v mem nx fun s' => AOps P Γ B ops r s' K) (fPut s o.dst (.tup []) s.mem s.nx fun s' => AOps P Γ B ops r s' K) := h
    simp only [aOps]
    rcases fWant_a h with ⟨h1, h⟩ | ⟨h1, h⟩
    · simp only [h1]
      rcases fEff_a h with ⟨v, m, n, h2, h⟩ | ⟨h2, F, l, h3, h⟩
      · obtain ⟨s', h4, h⟩ := fPut_a h
        simp only [h2, h4]
        exact h.run
      · simp only [h2, h3]
        refine (show ACalls P Γ F l s.mem s.nx _ from h).mono fun v m n h => ?_
        obtain ⟨s', h4, h⟩ := fPut_a h
        simp only [h4]
        exact h.run
    · obtain ⟨s', h4, h⟩ := fPut_a h
      simp only [h1, h4]
      exact h.run

/-- Operations in the order that was found. -/
structure ADr (P : Program) (Γ : List (Nat × AV)) (B : Nat) (ops : List Oper) (tr : List (List Nat)) (base : Nat) (K : St → Prop) (l : List Nat) (recs : List Rec) (s : St) : Prop where
  run : vrun P Γ (sem P Γ B) ops tr base K l recs s

def fd1 (P : Program) (Γ : List (Nat × AV)) (B : Nat) (ops : List Oper) (tr : List (List Nat)) (base : Nat) (K : St → Prop) (l : List Nat) (recs : List Rec) (s : St) : Prop :=
  match l with
  | [] => K s
  | i :: r => match ops[i]? with
    | none => False
    | some o => stK s fun sl mem nx nt => fWant ops sl o.guard
      (match kind P o.op with
        | .pure => match still o.op with
          | true => fStep false P Γ sl [] nx o.op fun v _ _ => fPut s o.dst v mem nx fun s' => ADr P Γ B ops tr base K r (⟨i, sl, true, v⟩ :: recs) s'
          | false => filterK (fun p => vis tr base ops.length i p.1) mem fun m => fStep false P Γ sl m nx o.op fun v _ _ => fPut s o.dst v mem nx fun s' => ADr P Γ B ops tr base K r (⟨i, sl, true, v⟩ :: recs) s'
        | .al => natK (base + i) fun id => fStep false P Γ sl [] id o.op fun v m _ => match m with
          | [(_, b)] => fPut s o.dst v ((id, b) :: mem) nx fun s' => ADr P Γ B ops tr base K r (⟨i, sl, true, v⟩ :: recs) s'
          | _ => False
        | .eff => filterK (fun p => vis tr base ops.length i p.1) mem fun m => fEff false P Γ (sem P Γ B) sl m nx o.op fun v m nx' => filterK (fun p => !vis tr base ops.length i p.1) mem fun rest => filterK (fun p => !hasKey p.1 m) rest fun rest => appK m rest fun m =>
            fPut s o.dst v m nx' fun s' => fChk false P Γ ops tr base i m nx' recs (ADr P Γ B ops tr base K r recs s'))
      (fPut s o.dst (.tup []) mem nx fun s' => ADr P Γ B ops tr base K r (⟨i, sl, false, .tup []⟩ :: recs) s')

theorem ADr.go {ops : List Oper} {tr : List (List Nat)} {base : Nat} {K : St → Prop} {l : List Nat} {recs : List Rec} {s : St} (h : fd1 P Γ B ops tr base K l recs s) : ADr P Γ B ops tr base K l recs s := by
  refine ⟨?_⟩
  cases l with
  | nil => exact h
  | cons i r =>
    simp only [fd1] at h
    simp only [vrun]
    split at h
    · exact h.elim
    · rename_i o ho
      simp only [ho]
      have h := stK_iff.1 h
      rcases fWant_a h with ⟨h1, h⟩ | ⟨h1, h⟩
      · simp only [h1]
        split at h
        · rename_i hkd
          simp only [hkd]
          split at h
          · rename_i hst
            obtain ⟨v, m, n, h2, h⟩ := fStep_a (s := { sl := s.sl, mem := [], nx := s.nx, nt := s.nt }) h
            obtain ⟨m', n', h2'⟩ := aStep_still (s := { sl := s.sl, mem := [], nx := s.nx, nt := s.nt }) (s' := { s with mem := seen tr base ops.length i s.mem }) hst rfl h2
            obtain ⟨s', h3, h⟩ := fPut_a h
            simp only [h2', h3]
            exact h.run
          · have h := filterK_iff.1 h
            obtain ⟨v, m, n, h2, h⟩ := fStep_a (s := { s with mem := seen tr base ops.length i s.mem }) h
            obtain ⟨s', h3, h⟩ := fPut_a h
            simp only [h2, h3]
            exact h.run
        · rename_i hkd
          simp only [hkd]
          have h := natK_iff.1 h
          obtain ⟨v, m, n, h2, h⟩ := fStep_a (s := { s with mem := [], nx := base + i }) h
          simp only [h2]
          split at h
          · obtain ⟨s', h3, h⟩ := fPut_a h
            simp only [h3]
            exact h.run
          · exact h.elim
        · rename_i hkd
          simp only [hkd]
          have h := filterK_iff.1 h
          rcases fEff_a (s := { s with mem := seen tr base ops.length i s.mem }) h with ⟨v, m, n, h2, h⟩ | ⟨h2, F, l, h3, h⟩
          · simp only [h2]
            have h := appK_iff.1 (filterK_iff.1 (filterK_iff.1 h))
            obtain ⟨s', h3, h⟩ := fPut_a h
            have h3 : stepSt s o.dst v (m ++ back m (unseen tr base ops.length i s.mem)) n = some s' := h3
            simp only [h3]
            obtain ⟨e1, e2, _⟩ := stepSt_parts h3
            have h : fChk false P Γ ops tr base i (m ++ back m (unseen tr base ops.length i s.mem)) n recs (ADr P Γ B ops tr base K r recs s') := h
            rw [← e1, ← e2] at h
            obtain ⟨h4, h⟩ := fChk_a h
            exact ⟨h4, h.run⟩
          · rw [aCall_congr (s' := s) (fun x _ => by cases x <;> rfl)] at h3
            simp only [h2, h3]
            refine (show ACalls P Γ F l _ _ _ from h).mono fun v m n h => ?_
            have h := appK_iff.1 (filterK_iff.1 (filterK_iff.1 h))
            obtain ⟨s', h3, h⟩ := fPut_a h
            have h3 : stepSt s o.dst v (m ++ back m (unseen tr base ops.length i s.mem)) n = some s' := h3
            simp only [h3]
            obtain ⟨e1, e2, _⟩ := stepSt_parts h3
            have h : fChk false P Γ ops tr base i (m ++ back m (unseen tr base ops.length i s.mem)) n recs (ADr P Γ B ops tr base K r recs s') := h
            rw [← e1, ← e2] at h
            obtain ⟨h4, h⟩ := fChk_a h
            exact ⟨h4, h.run⟩
      · obtain ⟨s', h3, h⟩ := fPut_a h
        simp only [h1, h3]
        exact h.run

def fReg (P : Program) (Γ : List (Nat × AV)) (B : Nat) (ops : List Oper) (s : St) (Q : Exit → St → Prop) : Prop :=
  match P.follows .mixedOrders with
  | true => match okDraw P ops (eager P ops ops.length [] (upto ops.length)) with
    | true => stK s fun sl mem nx nt => natK (nx + ops.length) fun n => listK (eager P ops ops.length [] (upto ops.length)) fun ord => ADr P Γ B ops (trs ops []) nx (fun s' => Q .normal s') ord [] ⟨sl, mem, n, nt⟩
    | false => False
  | false => False

/-- One piece of code. -/
def fw1 (P : Program) (Γ : List (Nat × AV)) (B : Nat) (c : Code) (s : St) (Q : Exit → St → Prop) : Prop :=
  match c with
  | .skip => Q .normal s
  | .seq x y => AWp P Γ B x s (seqQ P Γ B y Q)
  | .cond c x y => stK s fun sl _ _ _ => fev Γ sl c fun v => match v with
    | .bool b => bcs b (AWp P Γ B x s Q) (AWp P Γ B y s Q)
    | _ => False
  | .block id c => AWp P Γ B c s (blkQ id Q)
  | .loop c => ALoop P Γ B c s Q
  | .exit i => Q (.exit i) s
  | .ret => Q .ret s
  | .region _ ops draw => match draw with
    | false => AOps P Γ B ops.toList ops.toList s fun s' => Q .normal s'
    | true => fReg P Γ B ops.toList s Q
  | _ => False

theorem AWp.go {c : Code} {s : St} {Q : Exit → St → Prop} (h : fw1 P Γ B c s Q) : AWp P Γ B c s Q := by
  cases c with
  | skip => exact fwp_sound (cl := false) sem_ok .skip s Q h
  | exit i => exact fwp_sound (cl := false) sem_ok (.exit i) s Q h
  | ret => exact fwp_sound (cl := false) sem_ok .ret s Q h
  | loop c => exact (show ALoop P Γ B c s Q from h).run
  | seq x y =>
    have h : AWp P Γ B x s (seqQ P Γ B y Q) := h
    refine ⟨fun X D ρ a w hD hs hB => wp_seq (Go.wp_mono (h.run X D ρ a w hD hs hB) ?_)⟩
    rintro e a' w' ⟨s', ρ', hq, hB', hs', hext⟩
    cases e with
    | normal =>
      refine Go.wp_mono ((show AWp P Γ B y s' Q from hq).run X D ρ' a' w' hD hs' hB') ?_
      rintro e a2 w2 ⟨s2, ρ2, h1, h2, h3, h4⟩
      exact ⟨s2, ρ2, h1, h2, h3, hext.trans h4⟩
    | exit i => exact ⟨s', ρ', hq, hB', hs', hext⟩
    | goto l => exact ⟨s', ρ', hq, hB', hs', hext⟩
    | ret => exact ⟨s', ρ', hq, hB', hs', hext⟩
    | panic c => exact ⟨s', ρ', hq, hB', hs', hext⟩
    | outgrown => exact ⟨s', ρ', hq, hB', hs', hext⟩
  | cond c x y =>
    have h : fev Γ s.sl c fun v => match v with
      | .bool b => bcs b (AWp P Γ B x s Q) (AWp P Γ B y s Q)
      | _ => False := h
    obtain ⟨v, h1, h⟩ := fev_ev h
    split at h
    · rename_i b
      refine ⟨fun X D ρ a w hD hs hB => ?_⟩
      have hv := ev_sound hs h1
      generalize he : a.eval c = cv at hv
      cases hv
      cases b with
      | true => exact wp_cond_true he ((show AWp P Γ B x s Q from h).run X D ρ a w hD hs hB)
      | false => exact wp_cond_false he ((show AWp P Γ B y s Q from h).run X D ρ a w hD hs hB)
    · exact h.elim
  | block id c =>
    have h : AWp P Γ B c s (blkQ id Q) := h
    refine ⟨fun X D ρ a w hD hs hB => wp_block (Go.wp_mono (h.run X D ρ a w hD hs hB) ?_)⟩
    rintro e a' w' ⟨s', ρ', hq, hB', hs', hext⟩
    cases e with
    | exit i =>
      simp only [Exit.inBlock]
      simp only [blkQ] at hq
      split at hq
      · rename_i hi; rw [if_pos (Nat.eq_of_beq_eq_true hi)]; exact ⟨s', ρ', hq, hB', hs', hext⟩
      · rename_i hi; rw [if_neg (Nat.ne_of_beq_eq_false hi)]; exact ⟨s', ρ', hq, hB', hs', hext⟩
    | normal => exact ⟨s', ρ', hq, hB', hs', hext⟩
    | goto l => exact ⟨s', ρ', hq, hB', hs', hext⟩
    | ret => exact ⟨s', ρ', hq, hB', hs', hext⟩
    | panic c => exact ⟨s', ρ', hq, hB', hs', hext⟩
    | outgrown => exact ⟨s', ρ', hq, hB', hs', hext⟩
  | region id ops draw =>
    cases draw with
    | false => exact awp_sound sem_ok (.region id ops false) s Q (show AOps P Γ B ops.toList ops.toList s _ from h).run
    | true =>
      refine awp_sound sem_ok (.region id ops true) s Q ?_
      have h : fReg P Γ B ops.toList s Q := h
      unfold fReg at h
      simp only [awp]
      split at h
      · rename_i hmix
        simp only [hmix]
        split at h
        · rename_i hok
          simp only [aDraw, hok]
          exact (listK_iff.1 (natK_iff.1 (stK_iff.1 h))).run
        · exact h.elim
      · exact h.elim
  | _ => exact (show False from h).elim

/-- A contract of a function, by running it piece by piece. -/
theorem acalls_go {F : FuncId} {fn : Func} {c : Code} {args : List AV} {mem : Mem} {nx : Nat} {Q : AV → Mem → Nat → Prop} (hΓ : ∀ p ∈ Γ, NN p.2) (hf : P.funcs[F]? = some fn) (hb : fn.body = some c)
    (h : fEnter fn.ntmps args mem nx fun s => AWp P Γ nx c s (fRet P fn.results.toList (Fini nx Q))) : ACalls P Γ F args mem nx Q :=
  (acalls_of_awp hf hb ((fEnter_iff h).mono fun _ _ h => fRet_a h)).turn hΓ

def loopQ {α : Type} (B : Nat) (R : α → Prop) (I : α → St) (μ : α → Nat) (x : α) (Q : Exit → St → Prop) (e : Exit) (s : St) : Prop :=
  match e with
  | .normal => Again B R I μ x s
  | e => Q e s

theorem ALoop.at {c : Code} {s : St} {Q : Exit → St → Prop} {α : Type} (hΓ : ∀ p ∈ Γ, NN p.2) (R : α → Prop) (I : α → St) (μ : α → Nat) (x : α) (σ : List (Nat × Nat)) (hx : R x) (h0 : Conv B σ s (I x))
    (h : ∀ x, R x → AWp P Γ B c (I x) (loopQ B R I μ x Q)) : ALoop P Γ B c s Q := by
  refine ⟨AWp.conv hΓ h0 ?_⟩
  refine AWp.loop (α := { x : α // R x }) hΓ (fun x => I x.1) (fun x => μ x.1) (fun x => ?_) ⟨x, hx⟩
  refine (h x.1 x.2).mono fun e s h => ?_
  cases e with
  | normal =>
    obtain ⟨y, σ, hy, hc, hlt⟩ := (show Again B R I μ x.1 s from h)
    exact ⟨⟨y, hy⟩, σ, hc, hlt⟩
  | exit i => exact h
  | goto l => exact h
  | ret => exact h
  | panic c => exact h
  | outgrown => exact h

theorem ALoop.ph {c : Code} {s : St} {Q : Exit → St → Prop} (t : TypeId) (sz : Nat) (h : ALoop P Γ B c ⟨s.sl, (s.nx, .row t sz []) :: s.mem, s.nx + 1, s.nt⟩ Q) : ALoop P Γ B c s Q := ⟨AWp.ph t sz h.run⟩

/-! ### Several pieces at once -/

def foA (P : Program) (Γ : List (Nat × AV)) (B : Nat) (ops : List Oper) (K : St → Prop) (next : List Oper → St → Prop) (l : List Oper) (s : St) : Prop :=
  match l with
  | [] => K s
  | o :: r => stK s fun sl mem nx nt => fWant ops sl o.guard
      (fEff false P Γ (sem P Γ B) sl mem nx o.op fun v mem nx => fPut s o.dst v mem nx fun s' => next r s')
      (fPut s o.dst (.tup []) mem nx fun s' => next r s')

theorem foA_ok {ops : List Oper} {K : St → Prop} {next : List Oper → St → Prop} (hn : ∀ r s, next r s → AOps P Γ B ops r s K) {l : List Oper} {s : St} (h : foA P Γ B ops K next l s) : AOps P Γ B ops l s K := by
  refine ⟨?_⟩
  cases l with
  | nil => exact h
  | cons o r =>
    have h : fWant ops s.sl o.guard (fEff false P Γ (sem P Γ B) s.sl s.mem s.nx o.op fun v mem nx => fPut s o.dst v mem nx fun s' => next r s') (fPut s o.dst (.tup []) s.mem s.nx fun s' => next r s') := h
    simp only [aOps]
    rcases fWant_a h with ⟨h1, h⟩ | ⟨h1, h⟩
    · simp only [h1]
      rcases fEff_a h with ⟨v, m, n, h2, h⟩ | ⟨h2, F, l, h3, h⟩
      · obtain ⟨s', h4, h⟩ := fPut_a h
        simp only [h2, h4]
        exact (hn _ _ h).run
      · simp only [h2, h3]
        refine (show ACalls P Γ F l s.mem s.nx _ from h).mono fun v m n h => ?_
        obtain ⟨s', h4, h⟩ := fPut_a h
        simp only [h4]
        exact (hn _ _ h).run
    · obtain ⟨s', h4, h⟩ := fPut_a h
      simp only [h1, h4]
      exact (hn _ _ h).run

def fwA (P : Program) (Γ : List (Nat × AV)) (B : Nat) (next : Code → St → (Exit → St → Prop) → Prop) (c : Code) (s : St) (Q : Exit → St → Prop) : Prop :=
  match c with
  | .seq x y => next x s (seqQ P Γ B y Q)
  | .block id c => next c s (blkQ id Q)
  | c => fw1 P Γ B c s Q

theorem fwA_ok {next : Code → St → (Exit → St → Prop) → Prop} (hn : ∀ c s Q, next c s Q → AWp P Γ B c s Q) {c : Code} {s : St} {Q : Exit → St → Prop} (h : fwA P Γ B next c s Q) : AWp P Γ B c s Q := by
  cases c with
  | seq x y => exact AWp.go (show fw1 P Γ B (.seq x y) s Q from hn _ _ _ h)
  | block id c => exact AWp.go (show fw1 P Γ B (.block id c) s Q from hn _ _ _ h)
  | _ => exact AWp.go h

def foP0 (P : Program) (Γ : List (Nat × AV)) (B : Nat) (ops : List Oper) (K : St → Prop) (l : List Oper) (s : St) : Prop := AOps P Γ B ops l s K
theorem foP0_ok {ops : List Oper} {K : St → Prop} (l : List Oper) (s : St) (h : foP0 P Γ B ops K l s) : AOps P Γ B ops l s K := h
def foP1 (P : Program) (Γ : List (Nat × AV)) (B : Nat) (ops : List Oper) (K : St → Prop) (l : List Oper) (s : St) : Prop := foA P Γ B ops K (foP0 P Γ B ops K) l s
theorem foP1_ok {ops : List Oper} {K : St → Prop} (l : List Oper) (s : St) (h : foP1 P Γ B ops K l s) : AOps P Γ B ops l s K := foA_ok foP0_ok h
def foP2 (P : Program) (Γ : List (Nat × AV)) (B : Nat) (ops : List Oper) (K : St → Prop) (l : List Oper) (s : St) : Prop := foA P Γ B ops K (foP1 P Γ B ops K) l s
theorem foP2_ok {ops : List Oper} {K : St → Prop} (l : List Oper) (s : St) (h : foP2 P Γ B ops K l s) : AOps P Γ B ops l s K := foA_ok foP1_ok h
def foP3 (P : Program) (Γ : List (Nat × AV)) (B : Nat) (ops : List Oper) (K : St → Prop) (l : List Oper) (s : St) : Prop := foA P Γ B ops K (foP2 P Γ B ops K) l s
theorem foP3_ok {ops : List Oper} {K : St → Prop} (l : List Oper) (s : St) (h : foP3 P Γ B ops K l s) : AOps P Γ B ops l s K := foA_ok foP2_ok h
def foP4 (P : Program) (Γ : List (Nat × AV)) (B : Nat) (ops : List Oper) (K : St → Prop) (l : List Oper) (s : St) : Prop := foA P Γ B ops K (foP3 P Γ B ops K) l s
theorem foP4_ok {ops : List Oper} {K : St → Prop} (l : List Oper) (s : St) (h : foP4 P Γ B ops K l s) : AOps P Γ B ops l s K := foA_ok foP3_ok h
def foP5 (P : Program) (Γ : List (Nat × AV)) (B : Nat) (ops : List Oper) (K : St → Prop) (l : List Oper) (s : St) : Prop := foA P Γ B ops K (foP4 P Γ B ops K) l s
theorem foP5_ok {ops : List Oper} {K : St → Prop} (l : List Oper) (s : St) (h : foP5 P Γ B ops K l s) : AOps P Γ B ops l s K := foA_ok foP4_ok h
def foP6 (P : Program) (Γ : List (Nat × AV)) (B : Nat) (ops : List Oper) (K : St → Prop) (l : List Oper) (s : St) : Prop := foA P Γ B ops K (foP5 P Γ B ops K) l s
theorem foP6_ok {ops : List Oper} {K : St → Prop} (l : List Oper) (s : St) (h : foP6 P Γ B ops K l s) : AOps P Γ B ops l s K := foA_ok foP5_ok h
def foP7 (P : Program) (Γ : List (Nat × AV)) (B : Nat) (ops : List Oper) (K : St → Prop) (l : List Oper) (s : St) : Prop := foA P Γ B ops K (foP6 P Γ B ops K) l s
theorem foP7_ok {ops : List Oper} {K : St → Prop} (l : List Oper) (s : St) (h : foP7 P Γ B ops K l s) : AOps P Γ B ops l s K := foA_ok foP6_ok h
def foP8 (P : Program) (Γ : List (Nat × AV)) (B : Nat) (ops : List Oper) (K : St → Prop) (l : List Oper) (s : St) : Prop := foA P Γ B ops K (foP7 P Γ B ops K) l s
theorem foP8_ok {ops : List Oper} {K : St → Prop} (l : List Oper) (s : St) (h : foP8 P Γ B ops K l s) : AOps P Γ B ops l s K := foA_ok foP7_ok h
def foP9 (P : Program) (Γ : List (Nat × AV)) (B : Nat) (ops : List Oper) (K : St → Prop) (l : List Oper) (s : St) : Prop := foA P Γ B ops K (foP8 P Γ B ops K) l s
theorem foP9_ok {ops : List Oper} {K : St → Prop} (l : List Oper) (s : St) (h : foP9 P Γ B ops K l s) : AOps P Γ B ops l s K := foA_ok foP8_ok h
def foP10 (P : Program) (Γ : List (Nat × AV)) (B : Nat) (ops : List Oper) (K : St → Prop) (l : List Oper) (s : St) : Prop := foA P Γ B ops K (foP9 P Γ B ops K) l s
theorem foP10_ok {ops : List Oper} {K : St → Prop} (l : List Oper) (s : St) (h : foP10 P Γ B ops K l s) : AOps P Γ B ops l s K := foA_ok foP9_ok h
theorem AOps.many {ops l : List Oper} {s : St} {K : St → Prop} (h : foP10 P Γ B ops K l s) : AOps P Γ B ops l s K := foP10_ok l s h

def fwP0 (P : Program) (Γ : List (Nat × AV)) (B : Nat) (c : Code) (s : St) (Q : Exit → St → Prop) : Prop := AWp P Γ B c s Q
theorem fwP0_ok (c : Code) (s : St) (Q : Exit → St → Prop) (h : fwP0 P Γ B c s Q) : AWp P Γ B c s Q := h
def fwP1 (P : Program) (Γ : List (Nat × AV)) (B : Nat) (c : Code) (s : St) (Q : Exit → St → Prop) : Prop := fwA P Γ B (fwP0 P Γ B) c s Q
theorem fwP1_ok (c : Code) (s : St) (Q : Exit → St → Prop) (h : fwP1 P Γ B c s Q) : AWp P Γ B c s Q := fwA_ok fwP0_ok h
def fwP2 (P : Program) (Γ : List (Nat × AV)) (B : Nat) (c : Code) (s : St) (Q : Exit → St → Prop) : Prop := fwA P Γ B (fwP1 P Γ B) c s Q
theorem fwP2_ok (c : Code) (s : St) (Q : Exit → St → Prop) (h : fwP2 P Γ B c s Q) : AWp P Γ B c s Q := fwA_ok fwP1_ok h
def fwP3 (P : Program) (Γ : List (Nat × AV)) (B : Nat) (c : Code) (s : St) (Q : Exit → St → Prop) : Prop := fwA P Γ B (fwP2 P Γ B) c s Q
theorem fwP3_ok (c : Code) (s : St) (Q : Exit → St → Prop) (h : fwP3 P Γ B c s Q) : AWp P Γ B c s Q := fwA_ok fwP2_ok h
def fwP4 (P : Program) (Γ : List (Nat × AV)) (B : Nat) (c : Code) (s : St) (Q : Exit → St → Prop) : Prop := fwA P Γ B (fwP3 P Γ B) c s Q
theorem fwP4_ok (c : Code) (s : St) (Q : Exit → St → Prop) (h : fwP4 P Γ B c s Q) : AWp P Γ B c s Q := fwA_ok fwP3_ok h
def fwP5 (P : Program) (Γ : List (Nat × AV)) (B : Nat) (c : Code) (s : St) (Q : Exit → St → Prop) : Prop := fwA P Γ B (fwP4 P Γ B) c s Q
theorem fwP5_ok (c : Code) (s : St) (Q : Exit → St → Prop) (h : fwP5 P Γ B c s Q) : AWp P Γ B c s Q := fwA_ok fwP4_ok h
def fwP6 (P : Program) (Γ : List (Nat × AV)) (B : Nat) (c : Code) (s : St) (Q : Exit → St → Prop) : Prop := fwA P Γ B (fwP5 P Γ B) c s Q
theorem fwP6_ok (c : Code) (s : St) (Q : Exit → St → Prop) (h : fwP6 P Γ B c s Q) : AWp P Γ B c s Q := fwA_ok fwP5_ok h
def fwP7 (P : Program) (Γ : List (Nat × AV)) (B : Nat) (c : Code) (s : St) (Q : Exit → St → Prop) : Prop := fwA P Γ B (fwP6 P Γ B) c s Q
theorem fwP7_ok (c : Code) (s : St) (Q : Exit → St → Prop) (h : fwP7 P Γ B c s Q) : AWp P Γ B c s Q := fwA_ok fwP6_ok h
def fwP8 (P : Program) (Γ : List (Nat × AV)) (B : Nat) (c : Code) (s : St) (Q : Exit → St → Prop) : Prop := fwA P Γ B (fwP7 P Γ B) c s Q
theorem fwP8_ok (c : Code) (s : St) (Q : Exit → St → Prop) (h : fwP8 P Γ B c s Q) : AWp P Γ B c s Q := fwA_ok fwP7_ok h
theorem AWp.many {c : Code} {s : St} {Q : Exit → St → Prop} (h : fwP8 P Γ B c s Q) : AWp P Γ B c s Q := fwP8_ok c s Q h
end
end Go.Ax

/- Contracts over several blocks, used under the same names. -/
namespace Go.Ax
open Go
set_option linter.unusedVariables false

def inL (i : Nat) : List Nat → Bool
  | [] => false
  | j :: r => match Nat.beq j i with
    | true => true
    | false => inL i r
def pickM (ids : List Nat) : Mem → Mem
  | [] => []
  | (k, b) :: r => match inL k ids with
    | true => (k, b) :: pickM ids r
    | false => pickM ids r
def dropM (ids : List Nat) : Mem → Mem
  | [] => []
  | (k, b) :: r => match inL k ids with
    | true => dropM ids r
    | false => (k, b) :: dropM ids r
def idS : List Nat → List (Nat × Nat)
  | [] => []
  | i :: r => (i, i) :: idS r
def allLt (n : Nat) : List Nat → Bool
  | [] => true
  | i :: r => Nat.blt i n && allLt n r
def keysIn (ids : List Nat) : Mem → Bool
  | [] => true
  | (k, _) :: r => inL k ids && keysIn ids r

theorem pickM_mem {ids : List Nat} : ∀ {m : Mem} {p : Nat × AB}, p ∈ pickM ids m ↔ p ∈ m ∧ inL p.1 ids = true
  | [], p => by simp [pickM]
  | (k, b) :: r, p => by
    simp only [pickM]
    split
    · rename_i h
      rw [List.mem_cons, pickM_mem (m := r), List.mem_cons]
      constructor
      · rintro (rfl | ⟨h1, h2⟩)
        · exact ⟨.inl rfl, h⟩
        · exact ⟨.inr h1, h2⟩
      · rintro ⟨rfl | h1, h2⟩
        · exact .inl rfl
        · exact .inr ⟨h1, h2⟩
    · rename_i h
      rw [pickM_mem (m := r), List.mem_cons]
      constructor
      · rintro ⟨h1, h2⟩; exact ⟨.inr h1, h2⟩
      · rintro ⟨rfl | h1, h2⟩
        · rw [h] at h2; cases h2
        · exact ⟨h1, h2⟩
theorem dropM_mem {ids : List Nat} : ∀ {m : Mem} {p : Nat × AB}, p ∈ dropM ids m ↔ p ∈ m ∧ inL p.1 ids = false
  | [], p => by simp [dropM]
  | (k, b) :: r, p => by
    simp only [dropM]
    split
    · rename_i h
      rw [dropM_mem (m := r), List.mem_cons]
      constructor
      · rintro ⟨h1, h2⟩; exact ⟨.inr h1, h2⟩
      · rintro ⟨rfl | h1, h2⟩
        · rw [h] at h2; cases h2
        · exact ⟨h1, h2⟩
    · rename_i h
      rw [List.mem_cons, dropM_mem (m := r), List.mem_cons]
      constructor
      · rintro (rfl | ⟨h1, h2⟩)
        · exact ⟨.inl rfl, h⟩
        · exact ⟨.inr h1, h2⟩
      · rintro ⟨rfl | h1, h2⟩
        · exact .inl rfl
        · exact .inr ⟨h1, h2⟩
theorem pickM_sub {ids : List Nat} : ∀ (m : Mem), (pickM ids m).Sublist m
  | [] => by simp [pickM]
  | (k, b) :: r => by
    simp only [pickM]
    split
    · exact (pickM_sub r).cons_cons _
    · exact (pickM_sub r).cons _
theorem dropM_sub {ids : List Nat} : ∀ (m : Mem), (dropM ids m).Sublist m
  | [] => by simp [dropM]
  | (k, b) :: r => by
    simp only [dropM]
    split
    · exact (dropM_sub r).cons _
    · exact (dropM_sub r).cons_cons _
theorem idS_lk : ∀ {ids : List Nat} {i j : Nat}, lk (idS ids) i = some j → i = j ∧ inL i ids = true
  | [], i, j, h => by simp [idS, lk] at h
  | k :: r, i, j, h => by
    simp only [idS, lk] at h
    split at h
    · rename_i e
      cases h
      exact ⟨(Nat.eq_of_beq_eq_true e).symm, by simp only [inL, e]⟩
    · rename_i e
      obtain ⟨h1, h2⟩ := idS_lk h
      exact ⟨h1, by simp only [inL, e]; exact h2⟩
theorem lk_idS : ∀ {ids : List Nat} {i : Nat}, inL i ids = true → lk (idS ids) i = some i
  | [], i, h => by simp [inL] at h
  | k :: r, i, h => by
    simp only [inL] at h
    simp only [idS, lk]
    split at h
    · rename_i e; rw [e, Nat.eq_of_beq_eq_true e]
    · rename_i e; rw [e]; exact lk_idS h
theorem allLt_sound : ∀ {ids : List Nat} {n i : Nat}, allLt n ids = true → inL i ids = true → i < n
  | [], n, i, _, h => by simp [inL] at h
  | k :: r, n, i, h1, h => by
    simp only [allLt, Bool.and_eq_true] at h1
    simp only [inL] at h
    split at h
    · rename_i e; rw [← Nat.eq_of_beq_eq_true e]; exact Nat.le_of_ble_eq_true h1.1
    · exact allLt_sound h1.2 h
theorem keysIn_sound : ∀ {m : Mem} {ids : List Nat}, keysIn ids m = true → ∀ p ∈ m, inL p.1 ids = true
  | [], ids, _, p, hp => by cases hp
  | (k, b) :: r, ids, h, p, hp => by
    simp only [keysIn, Bool.and_eq_true] at h
    rcases List.mem_cons.1 hp with rfl | hp
    · exact h.1
    · exact keysIn_sound h.2 p hp

/-- A contract over some blocks, used at a call where they have the same names. -/
theorem ACalls.useI {P : Program} {Γ : List (Nat × AV)} {F : FuncId} {args args' : List AV} {ms mem : Mem} {ns nx : Nat} {Qs K : AV → Mem → Nat → Prop} (hΓ : ∀ p ∈ Γ, NN p.2) (ids : List Nat) (h : ACalls P Γ F args' ms ns Qs)
    (hp : pickM ids mem = ms) (hargs : CvL ms (idS ids) args args') (hM : MemConv ms (idS ids) ms) (hc : (nodM ms && allLt ns ids) = true)
    (hk : ∀ r m n, Qs r m n → NN r ∧ MemConv m (idS ids) m ∧ (nodM m && keysIn ids m) = true ∧ K r (m ++ dropM ids mem) nx) : ACalls P Γ F args mem nx K := by
  simp only [Bool.and_eq_true] at hc
  refine ⟨fun X D ρ w vs hD hm hv => ?_⟩
  have hinj : Inj (idS ids) := fun i j k h1 h2 => by
    have a := (idS_lk h1).1
    have b := (idS_lk h2).1
    omega
  refine (ACalls.use (K := K) (nx := nx) hΓ h (idS ids) (m1 := ms) (rest := dropM ids mem) ⟨fun p hp' => ?_, fun p hp' => (dropM_mem.1 hp').1, fun p hp' => ?_, fun p h1 q h2 => ?_, ?_⟩ ?_ hargs hM.cvm (nodM_sound hc.1) hinj (fun id i hl => ?_) ?_).run X D ρ w vs hD hm hv
  · rw [← hp] at hp'; exact (pickM_mem.1 hp').1
  · cases hi : inL p.1 ids with
    | true => left; rw [← hp]; exact pickM_mem.2 ⟨hp', hi⟩
    | false => right; exact dropM_mem.2 ⟨hp', hi⟩
  · rw [← hp] at h1
    have a := (pickM_mem.1 h1).2
    have b := (dropM_mem.1 h2).2
    intro e
    rw [e, b] at a
    cases a
  · rw [← hp]; exact hm.nod.sublist ((pickM_sub mem).map _)
  · exact hm.nod.sublist ((dropM_sub mem).map _)
  · obtain ⟨h1, h2⟩ := idS_lk hl
    rw [← h1]; exact allLt_sound hc.2 h2
  · intro r m n hq hn
    obtain ⟨h1, h2, h3, h4⟩ := hk r m n hq
    simp only [Bool.and_eq_true] at h3
    refine ⟨idS ids, r, m, nx, Nat.le_refl _, .same r h1, h2.cvm, nodM_sound h3.1, hinj, fun i id hl => ?_, fun p h5 q h6 => ?_, h4⟩
    · obtain ⟨e1, e2⟩ := idS_lk hl
      subst e1
      exact .inl ⟨allLt_sound hc.2 e2, lk_idS e2⟩
    · have a := keysIn_sound h3.2 p h5
      have b := (dropM_mem.1 h6).2
      intro e
      rw [e, b] at a
      cases a

/-! ### .. and under other names -/
def keysS : List (Nat × Nat) → List Nat
  | [] => []
  | (i, _) :: r => i :: keysS r
def invS : List (Nat × Nat) → List (Nat × Nat)
  | [] => []
  | (i, j) :: r => (j, i) :: invS r
def valsLt (n : Nat) : List (Nat × Nat) → Bool
  | [] => true
  | (_, j) :: r => Nat.blt j n && valsLt n r

theorem invS_mem : ∀ {σ : List (Nat × Nat)} {i j : Nat}, (j, i) ∈ invS σ ↔ (i, j) ∈ σ
  | [], i, j => by simp [invS]
  | (a, b) :: r, i, j => by
    simp only [invS, List.mem_cons, invS_mem (σ := r), Prod.mk.injEq]
    constructor
    · rintro (⟨rfl, rfl⟩ | h)
      · exact .inl ⟨rfl, rfl⟩
      · exact .inr h
    · rintro (⟨rfl, rfl⟩ | h)
      · exact .inl ⟨rfl, rfl⟩
      · exact .inr h
theorem lk_of_mem {σ : List (Nat × Nat)} (h : nod2 (invS σ) = true) {i j : Nat} (hm : (i, j) ∈ σ) : lk σ i = some j := by
  induction σ with
  | nil => cases hm
  | cons p r ih =>
    obtain ⟨a, b⟩ := p
    simp only [invS, nod2, Bool.and_eq_true] at h
    simp only [lk]
    rcases List.mem_cons.1 hm with e | hm'
    · cases e; simp
    · have hne : a ≠ i := by
        intro e
        subst e
        exact notIn_sound h.1 _ (invS_mem.2 hm') rfl
      rw [nbeq_ne hne]
      exact ih h.2 hm'
theorem inL_keys : ∀ {σ : List (Nat × Nat)} {i : Nat}, inL i (keysS σ) = true → ∃ j, (i, j) ∈ σ
  | [], i, h => by simp [keysS, inL] at h
  | (a, b) :: r, i, h => by
    simp only [keysS, inL] at h
    split at h
    · rename_i e; exact ⟨b, by rw [← Nat.eq_of_beq_eq_true e]; exact List.mem_cons_self ..⟩
    · obtain ⟨j, hj⟩ := inL_keys h
      exact ⟨j, List.mem_cons_of_mem _ hj⟩
theorem valsLt_sound : ∀ {σ : List (Nat × Nat)} {n : Nat}, valsLt n σ = true → ∀ p ∈ σ, p.2 < n
  | [], n, _, p, hp => by cases hp
  | (a, b) :: r, n, h, p, hp => by
    simp only [valsLt, Bool.and_eq_true] at h
    rcases List.mem_cons.1 hp with rfl | hp
    · exact Nat.le_of_ble_eq_true h.1
    · exact valsLt_sound h.2 p hp

/-- A contract over some blocks, used at a call where they have other names. -/
theorem ACalls.useR {P : Program} {Γ : List (Nat × AV)} {F : FuncId} {args args' : List AV} {ms mem m1 : Mem} {ns nx : Nat} {Qs K : AV → Mem → Nat → Prop} (hΓ : ∀ p ∈ Γ, NN p.2) (σ : List (Nat × Nat)) (h : ACalls P Γ F args' ms ns Qs)
    (hp : pickM (keysS σ) mem = m1) (hargs : CvL m1 σ args args') (hM : MemConv m1 σ ms) (hc : (nodM ms && (nod2 σ && (nod2 (invS σ) && valsLt ns σ))) = true)
    (hk : ∀ r m n, Qs r m n → ∃ m', NN r ∧ MemConv m (invS σ) m' ∧ (nodM m' && keysIn (keysS σ) m') = true ∧ K r (m' ++ dropM (keysS σ) mem) nx) : ACalls P Γ F args mem nx K := by
  simp only [Bool.and_eq_true] at hc
  obtain ⟨hc1, hc2, hc3, hc4⟩ := hc
  refine ⟨fun X D ρ w vs hD hm hv => ?_⟩
  refine (ACalls.use (K := K) (nx := nx) hΓ h σ (m1 := m1) (rest := dropM (keysS σ) mem) ⟨fun p hp' => ?_, fun p hp' => (dropM_mem.1 hp').1, fun p hp' => ?_, fun p h1 q h2 => ?_, ?_⟩ ?_ hargs hM.cvm (nodM_sound hc1) (inj_of hc2) (fun id i hl => valsLt_sound hc4 _ (lk_mem hl)) ?_).run X D ρ w vs hD hm hv
  · rw [← hp] at hp'; exact (pickM_mem.1 hp').1
  · cases hi : inL p.1 (keysS σ) with
    | true => left; rw [← hp]; exact pickM_mem.2 ⟨hp', hi⟩
    | false => right; exact dropM_mem.2 ⟨hp', hi⟩
  · rw [← hp] at h1
    have a := (pickM_mem.1 h1).2
    have b := (dropM_mem.1 h2).2
    intro e
    rw [e, b] at a
    cases a
  · rw [← hp]; exact hm.nod.sublist ((pickM_sub mem).map _)
  · exact hm.nod.sublist ((dropM_sub mem).map _)
  · intro r m n hq hn
    obtain ⟨m', h1, h2, h3, h4⟩ := hk r m n hq
    simp only [Bool.and_eq_true] at h3
    refine ⟨invS σ, r, m', nx, Nat.le_refl _, .same r h1, h2.cvm, nodM_sound h3.1, inj_of hc3, fun i id hl => ?_, fun p h5 q h6 => ?_, h4⟩
    · have hmem := invS_mem.1 (lk_mem hl)
      exact .inl ⟨valsLt_sound hc4 _ hmem, lk_of_mem hc3 hmem⟩
    · have a := keysIn_sound h3.2 p h5
      have b := (dropM_mem.1 h6).2
      intro e
      rw [e, b] at a
      cases a
end Go.Ax

/- Contracts of the kit's shelf, as contracts on abstract values. -/
namespace Go.Ax
open Go
set_option linter.unusedVariables false

/-- The world has grown: what was there is there. -/
def Grown (w w' : World) : Prop := w.heap.size ≤ w'.heap.size ∧ (∀ b, b < w.heap.size → w'.heap[b]? = w.heap[b]?) ∧ w'.os = w.os ∧ w'.output = w.output

theorem Grown.refl (w : World) : Grown w w := ⟨Nat.le_refl _, fun _ _ => rfl, rfl, rfl⟩
theorem grown_below {w w' : World} (h : RowKit.Below w.heap.size w w') : Grown w w' := ⟨h.size, h.block, h.os, h.output⟩
theorem grown_bytes (w : World) (e : TypeId) (s : ByteArray) : Grown w (Lib.bytesWorld w e s) :=
  ⟨by rw [Lib.bytesWorld_size]; omega, fun b hb => Lib.bytesWorld_at_old w e s b hb, by
    unfold Lib.bytesWorld World.freeze
    split
    · rfl
    · rfl, by
    unfold Lib.bytesWorld World.freeze
    split
    · rfl
    · rfl⟩

section
variable {P : Program} {Γ : List (Nat × AV)} {F : FuncId} {args : List AV} {r : AV}

/-- What is known of the variables. -/
def Knows (Γ : List (Nat × AV)) (w : World) : Prop := ∀ p ∈ Γ, ∀ (j : Nat) (c : AV), p.2.cells[j]? = some c → ∃ x ρ D O, w.cell? ⟨p.1, j, none⟩ = some x ∧ VR ρ D O w c x

theorem MR.knows {X : Nat → Prop} {ρ : Nat → Loc} {D : Nat → Prop} {mem : Mem} {w : World} (hm : MR Γ X ρ D mem w) : Knows Γ w := by
  intro p hp j c hc
  have := hm.glo p hp
  cases this with
  | ip _ _ _ f h1 h2 => exact ⟨f j, ρ, D, _, by have := (h1 j c hc).2.1; rwa [Nat.zero_add] at this, h2 j c hc⟩

theorem pureC_of {vs : List Value} (hargs : ∀ (ρ : Nat → Loc) (D O : Nat → Prop) (w : World) (xs : List Value), VRL ρ D O w args xs → xs = vs)
    (h : ∀ w, Knows Γ w → Calls P F vs.toArray w fun e w' => ∃ x, e = .returned x ∧ (∀ (ρ : Nat → Loc) (D O : Nat → Prop) (w : World), VR ρ D O w r x) ∧ Grown w w') : PureC P Γ F args r := by
  refine ⟨fun X D ρ w xs hD hm hv => ?_⟩
  obtain rfl := hargs _ _ _ _ _ hv
  refine (h w hm.knows).mono ?_
  rintro e w' ⟨x, rfl, hx, g1, g2, g3, g4⟩
  obtain ⟨m1, ext⟩ := hm.still g1 g2 ⟨g3, g4⟩
  have hsub : ∀ i, D i → dn D 0 0 i := fun i hi => .inl hi
  exact ⟨r, x, [], 0, ρ, rfl, ⟨rfl, rfl, rfl⟩, Nat.le_refl _, (m1.widen hsub).1, hx _ _ _ _, (ext D fun i hi => hi).wide hsub⟩

theorem vrl_int {ρ : Nat → Loc} {D O : Nat → Prop} {w : World} {xs : List Value} {k : IntKind} {n : Int} (h : VRL ρ D O w [.int k n] xs) : xs = [.int k n] := by
  obtain ⟨hl, hv⟩ := h
  match xs, hl with
  | [x], _ =>
    have := hv 0 _ x rfl rfl
    cases this
    rfl
theorem vrl_str {ρ : Nat → Loc} {D O : Nat → Prop} {w : World} {xs : List Value} {s : List UInt8} (h : VRL ρ D O w [.str s] xs) : xs = [.string ⟨s.toArray⟩] := by
  obtain ⟨hl, hv⟩ := h
  match xs, hl with
  | [x], _ =>
    have := hv 0 _ x rfl rfl
    cases this
    rfl
end

/-- Bytes. -/
def encB (l : List UInt8) : List AV := l.map fun b => .int .u8 (b.toNat : Int)
theorem encB_nn (l : List UInt8) : NNs (encB l) := fun a ha => by
  obtain ⟨n, _, rfl⟩ := List.mem_map.1 ha
  exact .int _ _
theorem encB_get (l : List UInt8) (i : Nat) : (encB l)[i]? = (l[i]?).map fun b => .int .u8 (b.toNat : Int) := by rw [encB, List.getElem?_map]
theorem encB_length (l : List UInt8) : (encB l).length = l.length := by rw [encB, List.length_map]

theorem encB_take (l : List UInt8) (k : Nat) : (encB l).take k = encB (l.take k) := by rw [encB, encB, List.map_take]
theorem encB_drop (l : List UInt8) (k : Nat) : (encB l).drop k = encB (l.drop k) := by rw [encB, encB, List.map_drop]
theorem encB_append (l m : List UInt8) : encB (l ++ m) = encB l ++ encB m := by rw [encB, encB, encB, List.map_append]
theorem toBytes_encB : ∀ l : List UInt8, toBytes (encB l) = some l
  | [] => rfl
  | b :: r => by
    show toBytes (AV.int .u8 (b.toNat : Int) :: encB r) = _
    simp only [toBytes, toBytes_encB r]
    simp
theorem bytesIn_encB : ∀ l : List UInt8, bytesIn (encB l) = some l
  | [] => rfl
  | b :: r => by
    show bytesIn (AV.int .u8 (Int.ofNat b.toNat) :: encB r) = _
    have : Nat.ble b.toNat 255 = true := Nat.ble_eq_true_of_le (by have := b.toNat_lt; omega)
    simp only [bytesIn, bytesIn_encB r, this]
    simp

/-- 'formatBase10' on a row of one's own. -/
theorem fmt10 {P : Program} {F : FuncId} {t : TypeId}
    (hF : ∀ (blk off cap : Nat) (u : Nat) (d : Array UInt8) (w : World), Sort.Holds (fun (b : UInt8) => Value.int .u8 (b.toNat : Int)) w blk off d → u < 10 ^ d.size → u < 18446744073709551616 → d.size < 4611686018427387904 →
      Calls P F #[.slice (some ⟨blk, off, none⟩) d.size cap, .int .u64 u] w fun e w' =>
        e = .returned (.tuple #[]) ∧ ∃ (n v' : Nat) (dk : Array UInt8), w' = (Sort.putRow (fun (b : UInt8) => Value.int .u8 (b.toNat : Int)) w blk off dk).drewN n ∧ Lib.FmtInv d.size u 0 v' dk)
    (xs : List UInt8) (u : Nat) (hu64 : u < 18446744073709551616) (hlen : 1 + Lib.nDigits u ≤ xs.length) (hxl : xs.length ≤ 1000) :
    ACalls P [] F [.sl 0 1 (Lib.nDigits u), .int .u64 u] [(0, .row t 1 (encB xs))] 1 fun r m n => r = .tup [] ∧ m = [(0, .row t 1 (encB (xs.take 1 ++ Lib.decDigits u ++ xs.drop (1 + Lib.nDigits u))))] := by
  have hpos := Lib.nDigits_pos u
  refine ⟨fun X D ρ w vs hD hm hv => ?_⟩
  obtain ⟨hl, hv⟩ := hv
  match vs, hl with
  | [s, x], _ =>
    have v0 := hv 0 _ s rfl rfl
    have v1 := hv 1 _ x rfl rfl
    cases v1
    have hid : lk [(0, AB.row t 1 (encB xs))] 0 = some (.row t 1 (encB xs)) := rfl
    have hsz := row_sz hm hid
    have hn : 0 < (ρ 0).n := by
      rcases Nat.eq_zero_or_pos (ρ 0).n with h0 | h0
      · obtain ⟨t', sz', e1, _⟩ := hm.emp _ (lk_mem hid) h0
        injection e1 with _ _ e2
        have : (encB xs).length = 0 := by rw [e2]; rfl
        rw [encB_length] at this
        omega
      · exact h0
    obtain ⟨o, ho, hsz', arr, fr, rfl, hf, hs, hle, hrow⟩ := hm.blk _ (lk_mem hid) hn
    simp only at ho hsz' hs hle hrow
    rw [hsz] at hrow hle
    rw [encB_length, Nat.mul_one] at hle
    have hcell : ∀ (i : Nat) (b : UInt8), xs[i]? = some b → arr[i]? = some (Value.int .u8 (b.toNat : Int)) := by
      intro i b hb
      obtain ⟨v, hv, _, hr⟩ := (hrow i (.int .u8 (b.toNat : Int)) (by rw [encB_get, hb]; rfl)).2 0 _ rfl
      cases hr
      simpa using hv
    obtain ⟨nd, hnd⟩ : ∃ nd, nd = Lib.nDigits u := ⟨_, rfl⟩
    rw [← hnd] at hpos hlen v0 ⊢
    have hso : ∃ cap, s = .slice (some ⟨(ρ 0).b, 1, none⟩) nd cap := by
      cases v0 with
      | sl _ _ _ cap _ h1 h2 => exact ⟨cap, by rw [hsz]⟩
      | slz => omega
      | slzn => omega
    obtain ⟨cap, rfl⟩ := hso
    have hds : (((xs.drop 1).take nd).toArray).size = nd := by simp; omega
    have hH : Sort.Holds (fun (b : UInt8) => Value.int .u8 (b.toNat : Int)) w (ρ 0).b 1 ((xs.drop 1).take nd).toArray := by
      intro j hj
      rw [hds] at hj
      have hx : xs[1 + j]? = some xs[1 + j] := List.getElem?_eq_getElem (by omega)
      have hd : (((xs.drop 1).take nd).toArray)[j]! = xs[1 + j] := by
        rw [getElem!_pos _ j (by omega)]
        simp [Nat.add_comm]
      constructor
      · simp only [World.cell?, ho, hd]
        exact hcell _ _ hx
      · simp only [World.frozen?, ho]
        have := hf (1 + j) (by omega)
        obtain ⟨a, b⟩ := fr
        simp only at this ⊢
        rw [Bool.and_eq_false_iff]
        simp
        omega
    have hcall := hF (ρ 0).b 1 cap u _ w hH (by rw [hds, hnd]; exact Lib.lt_pow_nDigits u) hu64 (by rw [hds]; omega)
    rw [hds] at hcall
    refine hcall.mono ?_
    rintro e w' ⟨rfl, n, v', dk, rfl, hinv⟩
    have hdk : dk.size = nd := hinv.size
    have hdig : (Lib.decDigits u).length = nd := by rw [Lib.decDigits_length, hnd]
    rw [hnd] at hinv
    have hat := fun j hj => Lib.row_is_numeral hinv j hj
    obtain ⟨m1, mv, ext⟩ := hm.change (w' := (Sort.putRow (fun (b : UInt8) => Value.int .u8 (b.toNat : Int)) w (ρ 0).b 1 dk).drewN n) (xs' := encB (xs.take 1 ++ Lib.decDigits u ++ xs.drop (1 + nd))) (arr := Sort.putCells (fun (b : UInt8) => Value.int .u8 (b.toNat : Int)) 1 dk arr) (fr := fr) hid hn
      (by
        apply Array.ext_getElem?
        intro k
        show (w.heap.modify (ρ 0).b (Sort.onCells _))[k]? = _
        have hlt := own_lt hm (.inr ⟨_, lk_mem hid, hn, rfl⟩)
        simp only at hlt
        rw [Array.getElem?_modify, Array.getElem?_setIfInBounds]
        by_cases hk : (ρ 0).b = k
        · subst hk
          rw [if_pos rfl, if_pos rfl, if_pos hlt, ho]
          rfl
        · rw [if_neg hk, if_neg hk]) ⟨rfl, rfl⟩ (fun j hj => hf j (by simpa [Sort.putCells] using hj)) (by rw [← hs]; simp [Sort.putCells])
      (by
        refine ⟨?_, fun i x hi => ?_⟩
        · rw [encB_length]
          simp [Sort.putCells, hdig]
          omega
        · rw [encB_get] at hi
          obtain ⟨b, hb, rfl⟩ := Option.map_eq_some_iff.1 hi
          refine ⟨rfl, fun j c hj => ?_⟩
          cases j with
          | succ j => simp [AV.cells] at hj
          | zero =>
            simp [AV.cells] at hj
            subst hj
            refine ⟨.int .u8 (b.toNat : Int), ?_, rfl, .int _ _⟩
            simp only [Nat.mul_one, Nat.add_zero, Sort.putCells, Array.getElem?_mapIdx]
            have hil : i < xs.length := by
              have := (List.getElem?_eq_some_iff.1 hb).1
              simp [hdig] at this
              omega
            have hia : arr[i]? = some (.int .u8 (xs[i].toNat : Int)) := hcell i _ (List.getElem?_eq_getElem hil)
            rw [hia, Option.map_some]
            congr 1
            rw [List.append_assoc, List.getElem?_append] at hb
            have htl : (xs.take 1).length = 1 := by simp; omega
            rw [htl] at hb
            by_cases h1 : i < 1
            · rw [if_pos h1, List.getElem?_take, if_pos h1, List.getElem?_eq_getElem hil] at hb
              rw [if_neg (by omega), Option.some.inj hb]
            · rw [if_neg h1, List.getElem?_append, hdig] at hb
              by_cases h2 : i - 1 < nd
              · rw [if_pos h2, List.getElem?_eq_getElem (by omega)] at hb
                rw [if_pos (by omega), ← hat (i - 1) (by omega), Option.some.inj hb]
              · rw [if_neg h2, List.getElem?_drop] at hb
                have e : 1 + nd + (i - 1 - nd) = i := by omega
                rw [e, List.getElem?_eq_getElem hil] at hb
                rw [if_neg (by omega), Option.some.inj hb])
    have hsub : ∀ i, D i → dn D 1 1 i := fun i hi => .inl hi
    exact ⟨.tup [], .tuple #[], _, 1, ρ, rfl, ⟨rfl, by simp [up]⟩, Nat.le_refl _, (m1.widen hsub).1, .tup [] #[] rfl (by simp), (ext D fun i hi => hi).wide hsub⟩
end Go.Ax

/- Further parameters of a row: strings, bytes, slices of bytes; variables that hold tables. -/
namespace Go.Ax
open Go Go.RowKit
set_option linter.unusedVariables false

/-- A string that came in. -/
theorem str_of {P : Program} {H : Type} {enc : TypeId × Value → H} {w : World} {t : TypeId} {b0 : Nat} {v : Value} {d : DataW H} {ps : List MemPlace}
    (ht : P.underlying t = some .string) (hval : Value.okWide P w .any b0 t v) (h : DataW.Trod enc P w 0 (fun _ => true) true t v d ps) :
    ∃ l : List UInt8, v = .string ⟨l.toArray⟩ ∧ ps = [] ∧ l.length ≤ 9223372036854775807 := by
  obtain ⟨s, rfl, _, rfl, hs⟩ := ChangeMaps.open_string ht hval h
  refine ⟨s.data.toList, ?_, rfl, ?_⟩
  · obtain ⟨d⟩ := s; simp
  · have e : maxLen = 9223372036854775807 := rfl
    have e2 : s.size = s.data.toList.length := by obtain ⟨d⟩ := s; rfl
    omega

/-- A byte that came in. -/
theorem byte_of {P : Program} {H : Type} {enc : TypeId × Value → H} {w : World} {t : TypeId} {b0 : Nat} {v : Value} {d : DataW H} {ps : List MemPlace}
    (ht : P.underlying t = some (.int .u8)) (hval : Value.okWide P w .any b0 t v) (h : DataW.Trod enc P w 0 (fun _ => true) true t v d ps) :
    ∃ b : UInt8, v = .int .u8 (b.toNat : Int) ∧ ps = [] := by
  obtain ⟨n, rfl, _, rfl, hw⟩ := ChangeShapes.open_int ht hval h
  have e1 : IntKind.u8.min = 0 := rfl
  have e2 : IntKind.u8.max = 255 := rfl
  simp [Lit.wf, e1, e2] at hw
  refine ⟨UInt8.ofNat n.toNat, ?_, rfl⟩
  have : (UInt8.ofNat n.toNat).toNat = n.toNat := by simp; omega
  rw [this]
  congr 1
  omega

/-- A slice of bytes that came in. -/
theorem vr_bytes {w : World} {a : Addr} {len cap : Nat} {zs : List UInt8} (ha : a.spot = none) (hl : len ≤ cap) (hz : len ≤ zs.length) (hc : ∀ i, i < zs.length → w.cell? (a.add i) = some (.int .u8 ((zs.getD i 0).toNat : Int))) :
    VR (fun _ => ⟨0, 0, 0⟩) (fun _ => False) (OX (fun _ => False) (fun _ => ⟨0, 0, 0⟩) []) w (.il 1 (encB (zs.take len))) (.slice (some a) len cap) := by
  have hlen : (encB (zs.take len)).length = len := by simp [encB]; omega
  obtain ⟨b, off, sp⟩ := a
  simp only at ha
  subst ha
  have key := VR.il (ρ := fun _ => ⟨0, 0, 0⟩) (D := fun _ => False) (O := OX (fun _ => False) (fun _ => ⟨0, 0, 0⟩) []) (w := w) 1 (encB (zs.take len)) b off cap
    (fun i _ => .int .u8 ((zs.getD i 0).toNat : Int)) (by omega) ?_ ?_ ?_
  · rw [hlen] at key; exact key
  · intro i x hx
    obtain ⟨z, _, rfl⟩ := List.mem_map.1 (List.mem_of_getElem? hx)
    rfl
  · intro i x j c hx hj
    have hi : i < len := by have := (List.getElem?_eq_some_iff.1 hx).1; omega
    obtain ⟨z, _, rfl⟩ := List.mem_map.1 (List.mem_of_getElem? hx)
    have hj0 : j = 0 := by have := (List.getElem?_eq_some_iff.1 hj).1; simpa [AV.cells] using this
    subst hj0
    refine ⟨not_ox _ _, ?_, rfl⟩
    have := hc i (by omega)
    rw [show off + (i * 1 + 0) = off + i by omega]
    rw [← this]
    unfold Addr.add
    split
    · rename_i h0; rw [h0]; rfl
    · rfl
  · intro i x j c hx hj
    have hj0 : j = 0 := by
      obtain ⟨z, _, rfl⟩ := List.mem_map.1 (List.mem_of_getElem? hx)
      have := (List.getElem?_eq_some_iff.1 hj).1
      simpa [AV.cells] using this
    subst hj0
    have hi : i < len := by have := (List.getElem?_eq_some_iff.1 hx).1; omega
    simp only [encB, List.getElem?_map, List.getElem?_take, if_pos hi] at hx
    rw [List.getElem?_eq_getElem (by omega)] at hx
    simp only [Option.map_some, Option.some.injEq] at hx
    subst hx
    simp only [AV.cells, List.getElem?_cons_zero, Option.some.injEq] at hj
    subst hj
    rw [show zs.getD i 0 = zs[i] by rw [List.getD_eq_getElem?_getD, List.getElem?_eq_getElem (by omega)]; rfl]
    exact .int _ _

theorem vr_bytes_of {P : Program} {H : Type} {enc : TypeId × Value → H} {w : World} {t e : TypeId} {b0 : Nat} {v : Value} {d : DataW H} {ps : List MemPlace}
    (ht : P.underlying t = some (.slice e)) (he : P.underlying e = some (.int .u8)) (hc : P.cellsOf e = 1) (hval : Value.okWide P w .any b0 t v) (h : DataW.Trod enc P w 0 (fun _ => true) true t v d ps) :
    ∃ l : List UInt8, l.length ≤ 9223372036854775807 ∧ VR (fun _ => ⟨0, 0, 0⟩) (fun _ => False) (OX (fun _ => False) (fun _ => ⟨0, 0, 0⟩) []) w (.il 1 (encB l)) v := by
  obtain ⟨a0, len0, cap0, rfl⟩ := WideShapes.okWide_slice ht hval
  obtain ⟨n, hn⟩ := h
  have em : maxLen = 9223372036854775807 := rfl
  rcases ChangeShapes.open_ints ht he hc hn with ⟨hcs, _⟩ | ⟨a, len, cap, zs, hcs, _, hl, hm, hz, _, hcell, hwf⟩
  · simp [Value.cells] at hcs
    obtain ⟨rfl, rfl, rfl⟩ := hcs
    exact ⟨[], by simp, .iln _⟩
  · simp [Value.cells] at hcs
    obtain ⟨rfl, rfl, rfl⟩ := hcs
    have hsp : a.spot = none := by
      simp only [Value.okWide, ht, Cell.okWide, Cell.ok, World.has] at hval
      exact hval.2.2.2.1
    simp only [if_true] at hz
    have hb : ∀ z ∈ zs, ((UInt8.ofNat z.toNat).toNat : Int) = z := by
      intro z hzm
      have := hwf z hzm
      have e1 : IntKind.u8.min = 0 := rfl
      have e2 : IntKind.u8.max = 255 := rfl
      simp [Lit.wf, e1, e2] at this
      have h2 : (UInt8.ofNat z.toNat).toNat = z.toNat := by simp; omega
      rw [h2]
      omega
    refine ⟨(zs.map fun z => UInt8.ofNat z.toNat).take len0, by simp; omega, vr_bytes hsp hl (by simp; omega) fun i hi => ?_⟩
    have hi' : i < zs.length := by simpa using hi
    have := hcell i hi'
    rw [this]
    have e3 : (zs.map fun z => UInt8.ofNat z.toNat).getD i 0 = UInt8.ofNat zs[i].toNat := by simp [List.getD_eq_getElem?_getD, List.getElem?_eq_getElem hi']
    have e4 : zs.getD i 0 = zs[i] := by simp [List.getD_eq_getElem?_getD, List.getElem?_eq_getElem hi']
    rw [e3, e4, hb _ (List.getElem_mem hi')]

/-- A variable that holds a table of numbers. -/
theorem vr_tab_var {P : Program} {w : World} {n : String} {g : Nat} {k : IntKind} {zs : List Int} (hg : P.globalNamed n = some g) (hv : Lib.TabIs P w n k zs) :
    VR (fun _ => ⟨0, 0, 0⟩) (fun _ => False) (OX (fun _ => False) (fun _ => ⟨0, 0, 0⟩) []) w (.ip (.agg (zs.map fun z => AV.int k z))) (.pointer (some ⟨g, 0, none⟩)) := by
  refine .ip _ g 0 (fun j => .int k (zs.getD j 0)) (fun j c hj => ?_) (fun j c hj => ?_)
  · have hj0 : j < zs.length := by have := (List.getElem?_eq_some_iff.1 hj).1; simpa [AV.cells] using this
    exact ⟨not_ox _ _, by simpa using hv.cell hg j hj0, rfl⟩
  · have hj0 : j < zs.length := by have := (List.getElem?_eq_some_iff.1 hj).1; simpa [AV.cells] using this
    simp [AV.cells, List.getElem?_map, List.getElem?_eq_getElem hj0] at hj
    subst hj
    simp [List.getD_eq_getElem?_getD, List.getElem?_eq_getElem hj0]
    exact .int _ _
end Go.Ax

/- Values that a generator makes. Plain. -/
namespace Go.Ax
open Go
set_option linter.unusedVariables false

/-- The names that occur. -/
def genNames : List (List UInt8) := [[76, 101, 97, 102], [65], [69, 109, 112, 116, 121], [66, 95, 50], [70, 111, 114, 107], [90, 122]]

def genBase (k n : Int) (s : List UInt8) (kids : List Val) : Prop :=
  (k = 0 ∧ i64 n ∧ s = [] ∧ kids = []) ∨ (k = 1 ∧ (n = 0 ∨ n = 1) ∧ s = [] ∧ kids = []) ∨ (k = 2 ∧ n = 0 ∧ s = []) ∨ (k = 3 ∧ n = 0 ∧ s ∈ genNames)

/-- A value of a depth of at most one more. -/
def genV : Nat → Val → Prop
  | 0, .mk k n s kids => genBase k n s kids ∧ kids = []
  | d + 1, .mk k n s kids => genBase k n s kids ∧ kids.length ≤ 3 ∧ ∀ v ∈ kids, genV d v

theorem genNames_len {s : List UInt8} (h : s ∈ genNames) : s.length ≤ 4294967296 := by
  simp [genNames] at h
  rcases h with rfl | rfl | rfl | rfl | rfl | rfl <;> simp

theorem genBase_ok {k n : Int} {s : List UInt8} {kids : List Val} (h : genBase k n s kids) : i64 k ∧ i64 n ∧ s.length ≤ 4294967296 := by
  rcases h with ⟨rfl, h, rfl, _⟩ | ⟨rfl, h, rfl, _⟩ | ⟨rfl, rfl, rfl⟩ | ⟨rfl, rfl, h⟩
  · exact ⟨⟨by omega, by omega⟩, h, by simp⟩
  · exact ⟨⟨by omega, by omega⟩, ⟨by omega, by omega⟩, by simp⟩
  · exact ⟨⟨by omega, by omega⟩, ⟨by omega, by omega⟩, by simp⟩
  · exact ⟨⟨by omega, by omega⟩, ⟨by omega, by omega⟩, genNames_len h⟩

theorem genV_ok : ∀ {d : Nat} {v : Val}, genV d v → okV v
  | 0, .mk k n s kids, h => by
    simp only [genV] at h
    obtain ⟨h1, rfl⟩ := h
    obtain ⟨a, b, c⟩ := genBase_ok h1
    simp only [okV, okVs]
    exact ⟨a, b, c, by simp, trivial⟩
  | d + 1, .mk k n s kids, h => by
    simp only [genV] at h
    obtain ⟨h1, h2, h3⟩ := h
    obtain ⟨a, b, c⟩ := genBase_ok h1
    simp only [okV]
    exact ⟨a, b, c, by omega, okVs_of fun v hv => genV_ok (h3 v hv)⟩

/-- How many numbers it takes at the most. -/
def genCost : Nat → Nat
  | 0 => 6
  | d + 1 => 4 * genCost d

theorem genCost_pos : ∀ d, 6 ≤ genCost d
  | 0 => Nat.le_refl _
  | d + 1 => by have := genCost_pos d; simp only [genCost]; omega
end Go.Ax

/- Validity, size and depth of values. Plain. -/
namespace Go.Ax
open Go
set_option linter.unusedVariables false

mutual
def sizeV : Val → Nat
  | .mk _ _ _ kids => 1 + sizeL kids
def sizeL : List Val → Nat
  | [] => 0
  | v :: r => sizeV v + sizeL r
end
mutual
def depthV : Val → Nat
  | .mk _ _ _ kids => depthL kids + 1
def depthL : List Val → Nat
  | [] => 0
  | v :: r => max (depthV v) (depthL r)
end

theorem sizeL_snoc : ∀ (l : List Val) (v : Val), sizeL (l ++ [v]) = sizeL l + sizeV v
  | [], v => by simp [sizeL]
  | a :: r, v => by simp only [List.cons_append, sizeL, sizeL_snoc r v]; omega
theorem sizeL_append : ∀ (l m : List Val), sizeL (l ++ m) = sizeL l + sizeL m
  | [], v => by simp [sizeL]
  | a :: r, v => by simp only [List.cons_append, sizeL, sizeL_append r v]; omega
theorem depthL_snoc : ∀ (l : List Val) (v : Val), depthL (l ++ [v]) = max (depthL l) (depthV v)
  | [], v => by simp [depthL]
  | a :: r, v => by simp only [List.cons_append, depthL, depthL_snoc r v]; omega
theorem sizeV_pos : ∀ v : Val, 1 ≤ sizeV v
  | .mk _ _ _ kids => by simp only [sizeV]; omega
theorem sizeL_take {l : List Val} {k : Nat} (h : k < l.length) : sizeL (l.take (k + 1)) = sizeL (l.take k) + sizeV l[k] := by
  rw [List.take_succ_eq_append_getElem h, sizeL_snoc]
theorem depthL_take {l : List Val} {k : Nat} (h : k < l.length) : depthL (l.take (k + 1)) = max (depthL (l.take k)) (depthV l[k]) := by
  rw [List.take_succ_eq_append_getElem h, depthL_snoc]
theorem sizeL_take_le (l : List Val) (k : Nat) : sizeL (l.take k) ≤ sizeL l := by
  have := sizeL_append (l.take k) (l.drop k)
  rw [List.take_append_drop] at this
  omega
theorem sizeV_mem {l : List Val} {v : Val} (h : v ∈ l) : sizeV v ≤ sizeL l := by
  induction l with
  | nil => cases h
  | cons a r ih =>
    simp only [sizeL]
    rcases List.mem_cons.1 h with rfl | h
    · omega
    · have := ih h; omega
theorem sizeL_len (l : List Val) : l.length ≤ sizeL l := by
  induction l with
  | nil => simp
  | cons a r ih => simp only [sizeL, List.length_cons]; have := sizeV_pos a; omega
mutual
theorem depth_le_size : ∀ v : Val, depthV v ≤ sizeV v
  | .mk _ _ _ kids => by simp only [depthV, sizeV]; have := depthL_le_size kids; omega
theorem depthL_le_size : ∀ l : List Val, depthL l ≤ sizeL l
  | [] => by simp [depthL]
  | v :: r => by simp only [depthL, sizeL]; have := depth_le_size v; have := depthL_le_size r; omega
end

/-- A letter, a digit or '_'. -/
def inNm (c : Int) : Bool := (decide (97 ≤ c) && decide (c ≤ 122)) || (decide (65 ≤ c) && decide (c ≤ 90)) || (decide (48 ≤ c) && decide (c ≤ 57)) || decide (c = 95)
def upper (c : Int) : Bool := decide (65 ≤ c) && decide (c ≤ 90)
def capital : List UInt8 → Bool
  | [] => false
  | c :: r => decide (r.length < 16) && upper c.toNat && r.all fun c => inNm c.toNat

theorem upper_in {c : Int} (h : upper c = true) : inNm c = true := by
  simp [upper, inNm] at *
  omega

/-- One part. -/
def formed1 (k n : Int) (s : List UInt8) (len : Nat) : Bool :=
  if k = 0 then decide (s = []) && decide (len = 0)
  else if k = 1 then (decide (n = 0) || decide (n = 1)) && decide (s = []) && decide (len = 0)
  else if k = 2 then decide (n = 0) && decide (s = [])
  else if k = 3 then decide (n = 0) && capital s
  else false
def fits1 (k : Int) (len : Nat) : Bool := decide (len ≤ 256) && (decide (k ≠ 3) || decide (len ≤ 16))

mutual
def formedV : Val → Bool
  | .mk k n s kids => formed1 k n s kids.length && formedL kids
def formedL : List Val → Bool
  | [] => true
  | v :: r => formedV v && formedL r
end
mutual
def fitsV : Val → Bool
  | .mk k _ _ kids => fits1 k kids.length && fitsL kids
def fitsL : List Val → Bool
  | [] => true
  | v :: r => fitsV v && fitsL r
end
/-- 'wide' of the reference, turned. -/
def wide1 (k : Int) (len : Nat) : Bool := (decide (k = 2) && decide (256 < len)) || (decide (k = 3) && decide (16 < len))
mutual
def wideV : Val → Bool
  | .mk k _ _ kids => wide1 k kids.length || wideL kids
def wideL : List Val → Bool
  | [] => false
  | v :: r => wideV v || wideL r
end

theorem wide_fits1 {k n : Int} {s : List UInt8} {len : Nat} (h : formed1 k n s len = true) : wide1 k len = !fits1 k len := by
  rw [Bool.eq_iff_iff]
  unfold formed1 at h
  simp only [wide1, fits1, Bool.or_eq_true, Bool.and_eq_true, decide_eq_true_eq, Bool.not_eq_true', Bool.and_eq_false_iff, Bool.or_eq_false_iff, decide_eq_false_iff_not]
  repeat' split at h
  all_goals simp at h
  all_goals omega

mutual
theorem wide_fits : ∀ v : Val, formedV v = true → wideV v = !fitsV v
  | .mk k n s kids, h => by
    simp only [formedV, Bool.and_eq_true] at h
    rw [wideV, fitsV, wide_fits1 h.1, wideL_fits kids h.2, Bool.not_and]
theorem wideL_fits : ∀ l : List Val, formedL l = true → wideL l = !fitsL l
  | [], _ => rfl
  | v :: r, h => by
    simp only [formedL, Bool.and_eq_true] at h
    rw [wideL, fitsL, wide_fits v h.1, wideL_fits r h.2, Bool.not_and]
end

/-- 'Valid' (the numbers of the errors). -/
def validV (v : Val) : Int := if formedV v = false then 1 else if wideV v = true ∨ 1024 < sizeV v then 4 else 0

theorem formedL_take {l : List Val} {k : Nat} (h : k < l.length) : formedL (l.take (k + 1)) = (formedL (l.take k) && formedV l[k]) := by
  rw [List.take_succ_eq_append_getElem h]
  generalize l.take k = m
  induction m with
  | nil => simp [formedL]
  | cons a r ih => simp only [List.cons_append, formedL, ih, Bool.and_assoc]
theorem wideL_take {l : List Val} {k : Nat} (h : k < l.length) : wideL (l.take (k + 1)) = (wideL (l.take k) || wideV l[k]) := by
  rw [List.take_succ_eq_append_getElem h]
  generalize l.take k = m
  induction m with
  | nil => simp [wideL]
  | cons a r ih => simp only [List.cons_append, wideL, ih, Bool.or_assoc]
theorem formedL_mem : ∀ {l : List Val} {v : Val}, v ∈ l → formedV v = false → formedL l = false
  | a :: r, v, h, hf => by
    simp only [formedL]
    rcases List.mem_cons.1 h with rfl | h
    · rw [hf]; rfl
    · rw [formedL_mem h hf]; simp
theorem wideL_mem : ∀ {l : List Val} {v : Val}, v ∈ l → wideV v = true → wideL l = true
  | a :: r, v, h, hf => by
    simp only [wideL]
    rcases List.mem_cons.1 h with rfl | h
    · rw [hf]; rfl
    · rw [wideL_mem h hf]; simp

/-! ### A walk through the parts -/
mutual
def visS {S : Type} (st : S → Val → Nat → Bool × S) : Val → Nat → S → Bool × S
  | .mk k n s kids, d, x => match st x (.mk k n s kids) d with
    | (false, y) => (false, y)
    | (true, y) => visL st kids (d + 1) y
def visL {S : Type} (st : S → Val → Nat → Bool × S) : List Val → Nat → S → Bool × S
  | [], _, x => (true, x)
  | v :: r, d, x => match visS st v d x with
    | (false, y) => (false, y)
    | (true, y) => visL st r d y
end

def stSize (n : Nat) (_ : Val) (_ : Nat) : Bool × Nat := (true, n + 1)
def stDepth (m : Nat) (_ : Val) (d : Nat) : Bool × Nat := (true, max m d)
/-- The number of parts, are all well-formed, are all small. -/
def stValid (x : Nat × Bool × Bool) (v : Val) (_ : Nat) : Bool × (Nat × Bool × Bool) :=
  match v with
  | .mk k n s kids => (x.2.1 && formed1 k n s kids.length, (x.1 + 1, x.2.1 && formed1 k n s kids.length, x.2.2 && fits1 k kids.length))

mutual
theorem vis_size : ∀ (v : Val) (d n : Nat), visS stSize v d n = (true, n + sizeV v)
  | .mk k m s kids, d, n => by simp only [visS, stSize, sizeV]; rw [visL_size]; simp; omega
theorem visL_size : ∀ (l : List Val) (d n : Nat), visL stSize l d n = (true, n + sizeL l)
  | [], d, n => by simp [visL, sizeL]
  | v :: r, d, n => by simp only [visL, vis_size v d n, sizeL]; rw [visL_size]; simp; omega
end
mutual
theorem vis_depth : ∀ (v : Val) (d m : Nat), visS stDepth v d m = (true, max m (d + depthV v - 1))
  | .mk k n s kids, d, m => by
    simp only [visS, stDepth, depthV]
    rw [visL_depth]
    cases kids with
    | nil => simp [depthL]
    | cons b r =>
      have h2 : 1 ≤ depthL (b :: r) := by
        have : 1 ≤ depthV b := by cases b; simp [depthV]
        simp only [depthL]; omega
      simp
theorem visL_depth : ∀ (l : List Val) (d m : Nat), visL stDepth l d m = (true, if l = [] then m else max m (d + depthL l - 1))
  | [], d, m => by simp [visL]
  | v :: r, d, m => by
    simp only [visL, vis_depth v d m, depthL]
    rw [visL_depth]
    cases r with
    | nil => simp [depthL]
    | cons b r =>
      have h1 : 1 ≤ depthV v := by cases v; simp [depthV]
      have h2 : 1 ≤ depthL (b :: r) := by
        have : 1 ≤ depthV b := by cases b; simp [depthV]
        simp only [depthL]; omega
      simp; omega
end
mutual
theorem vis_valid : ∀ (v : Val) (d n : Nat) (sm : Bool), ∃ n', visS stValid v d (n, true, sm) = (formedV v, (n', formedV v, if formedV v then sm && fitsV v else (visS stValid v d (n, true, sm)).2.2.2)) ∧ n' ≤ n + sizeV v ∧ (formedV v = true → n' = n + sizeV v)
  | .mk k m s kids, d, n, sm => by
    cases hf : formed1 k m s kids.length with
    | false =>
      refine ⟨n + 1, ?_, by simp only [sizeV]; omega, fun h => ?_⟩
      · simp only [visS, stValid, hf, Bool.and_false, formedV, Bool.false_and, Bool.false_eq_true, if_false]
      · simp [formedV, hf] at h
    | true =>
      obtain ⟨n', h1, h2, h3⟩ := visL_valid kids (d + 1) (n + 1) (sm && fits1 k kids.length)
      refine ⟨n', ?_, by simp only [sizeV]; omega, fun h => ?_⟩
      · simp only [visS, stValid, hf, Bool.and_true, formedV, Bool.true_and]
        rw [h1]
        cases formedL kids with
        | true => simp [fitsV, Bool.and_assoc]
        | false => simp
      · simp only [formedV, hf, Bool.true_and] at h
        rw [h3 h]; simp only [sizeV]; omega
theorem visL_valid : ∀ (l : List Val) (d n : Nat) (sm : Bool), ∃ n', visL stValid l d (n, true, sm) = (formedL l, (n', formedL l, if formedL l then sm && fitsL l else (visL stValid l d (n, true, sm)).2.2.2)) ∧ n' ≤ n + sizeL l ∧ (formedL l = true → n' = n + sizeL l)
  | [], d, n, sm => ⟨n, by simp [visL, formedL, fitsL], by simp, fun _ => by simp [sizeL]⟩
  | v :: r, d, n, sm => by
    obtain ⟨n1, h1, h2, h3⟩ := vis_valid v d n sm
    cases hf : formedV v with
    | false =>
      rw [hf] at h1
      refine ⟨n1, ?_, by simp only [sizeL]; omega, fun h => ?_⟩
      · simp only [visL, formedL, hf, Bool.false_and, Bool.false_eq_true, if_false]
        rw [h1]
      · simp [formedL, hf] at h
    | true =>
      rw [hf] at h1
      simp only [if_true] at h1
      obtain ⟨n2, g1, g2, g3⟩ := visL_valid r d n1 (sm && fitsV v)
      refine ⟨n2, ?_, by simp only [sizeL]; omega, fun h => ?_⟩
      · simp only [visL, formedL, hf, Bool.true_and]
        rw [h1]
        simp only
        rw [g1]
        cases formedL r with
        | true => simp [fitsL, Bool.and_assoc]
        | false => simp
      · simp only [formedL, hf, Bool.true_and] at h
        rw [g3 h, h3 hf]; simp only [sizeL]; omega
end

/-- What the program answers with what its walk has found. -/
theorem valid_vis (v : Val) : (match (visS stValid v 1 (0, true, true)).2 with | (n, good, small) => if good = false then (1 : Int) else if small = false ∨ 1024 < n then 4 else 0) = validV v := by
  obtain ⟨n', h1, h2, h3⟩ := vis_valid v 1 0 true
  rw [h1]
  unfold validV
  cases hf : formedV v with
  | false => simp
  | true =>
    rw [wide_fits v hf, h3 hf]
    simp

/-! ### Values that the laws make -/
def manyV (n : Nat) : List Val := (List.range n).map fun i : Nat => .mk 0 ((i : Int).tmod 3) [] []
theorem manyV_succ (n : Nat) : manyV (n + 1) = manyV n ++ [.mk 0 ((n : Int).tmod 3) [] []] := by simp [manyV, List.range_succ]
theorem manyV_length (n : Nat) : (manyV n).length = n := by simp [manyV]
theorem manyV_size (n : Nat) : sizeL (manyV n) = n := by
  induction n with
  | zero => rfl
  | succ n ih => rw [manyV_succ, sizeL_snoc, ih]; simp [sizeV, sizeL]
theorem okV_leaf {k n : Int} (hk : i64 k) (hn : i64 n) : okV (.mk k n [] []) := by
  simp only [okV, okVs]; exact ⟨hk, hn, by simp, by simp, trivial⟩
theorem manyV_ok (n : Nat) : okVs (manyV n) := okVs_of fun v hv => by
  obtain ⟨i, _, rfl⟩ := List.mem_map.1 hv
  have h := Int.tmod_lt_of_pos (i : Int) (show (0 : Int) < 3 by omega)
  have h' := Int.lt_tmod_of_pos (i : Int) (show (0 : Int) < 3 by omega)
  exact okV_leaf ⟨by omega, by omega⟩ ⟨by omega, by omega⟩
theorem okV_list {n : Int} {l : List Val} {k : Int} {s : List UInt8} (hk : i64 k) (hn : i64 n) (hs : s.length ≤ 4294967296) (hl : l.length ≤ 4294967296) (h : okVs l) : okV (.mk k n s l) := by
  simp only [okV]; exact ⟨hk, hn, hs, hl, h⟩

theorem encVs_set (l : List Val) (i : Nat) (v : Val) : encVs (l.set i v) = (encVs l).set i (encV v) := by simp [encVs_map, List.map_set]
theorem sizeL_set : ∀ {l : List Val} {i : Nat} (v : Val) (h : i < l.length), sizeL (l.set i v) + sizeV l[i] = sizeL l + sizeV v
  | a :: r, 0, v, h => by simp only [List.set_cons_zero, List.getElem_cons_zero, sizeL]; omega
  | a :: r, i + 1, v, h => by
    have := sizeL_set (l := r) (i := i) v (by simpa using h)
    simp only [List.set_cons_succ, List.getElem_cons_succ, sizeL]; omega
theorem okVs_set {l : List Val} {i : Nat} {v : Val} (hl : okVs l) (hv : okV v) : okVs (l.set i v) := okVs_of fun a ha => by
  rcases List.mem_or_eq_of_mem_set ha with h | rfl
  · exact okVs_mem hl a h
  · exact hv

theorem sizeL_le {l : List Val} {n : Nat} (h : ∀ v ∈ l, sizeV v ≤ n) : sizeL l ≤ l.length * n := by
  induction l with
  | nil => simp [sizeL]
  | cons a r ih =>
    simp only [sizeL, List.length_cons, Nat.add_mul, Nat.one_mul]
    have h1 := h a (List.mem_cons_self ..)
    have h2 := ih fun v hv => h v (List.mem_cons_of_mem _ hv)
    omega
theorem genV_size_pow : ∀ {d : Nat} {v : Val}, genV d v → sizeV v ≤ 4 ^ d
  | 0, .mk k n s kids, h => by
    simp only [genV] at h
    obtain ⟨_, rfl⟩ := h
    simp [sizeV, sizeL]
  | d + 1, .mk k n s kids, h => by
    simp only [genV] at h
    obtain ⟨_, h2, h3⟩ := h
    have := sizeL_le fun v hv => genV_size_pow (h3 v hv)
    have h4 : kids.length * 4 ^ d ≤ 3 * 4 ^ d := Nat.mul_le_mul_right _ h2
    have h5 : 1 ≤ 4 ^ d := Nat.one_le_pow _ _ (by omega)
    simp only [sizeV, Nat.pow_succ]
    omega
theorem genV_size {v : Val} (h : genV 3 v) : sizeV v ≤ 64 := genV_size_pow h

theorem cmpI_range (a b : Int) : cmpI a b = -1 ∨ cmpI a b = 0 ∨ cmpI a b = 1 := by
  unfold cmpI; split
  · simp
  · split <;> simp
theorem andThen_range {c d : Int} (h : c = -1 ∨ c = 0 ∨ c = 1) (h' : d = -1 ∨ d = 0 ∨ d = 1) : andThen c d = -1 ∨ andThen c d = 0 ∨ andThen c d = 1 := by
  unfold andThen; split <;> assumption
mutual
theorem cmpV_range : ∀ a b : Val, cmpV a b = -1 ∨ cmpV a b = 0 ∨ cmpV a b = 1
  | .mk k n s ks, .mk k' n' s' ks' => by
    rw [cmpV]
    exact andThen_range (cmpI_range _ _) (andThen_range (cmpI_range _ _) (andThen_range (cmpS_range _ _) (cmpL_range ks ks')))
theorem cmpL_range : ∀ a b : List Val, cmpL a b = -1 ∨ cmpL a b = 0 ∨ cmpL a b = 1
  | [], [] => by simp [cmpL]
  | [], _ :: _ => by simp [cmpL]
  | _ :: _, [] => by simp [cmpL]
  | a :: as, b :: bs => by
    rw [cmpL]
    exact andThen_range (cmpV_range a b) (cmpL_range as bs)
end
theorem ne_self' (c : Int) : (c != c) = false := by simp

theorem capital_of {s : List UInt8} {a : UInt8} (h0 : s[0]? = some a) (hl : s.length ≤ 16) (hu : upper a.toNat = true) (hall : ∀ (j : Nat) (c : UInt8), s[j]? = some c → inNm c.toNat = true) : capital s = true := by
  cases s with
  | nil => simp at h0
  | cons b r =>
    simp at h0
    subst h0
    simp only [capital, Bool.and_eq_true, decide_eq_true_eq, List.all_eq_true]
    refine ⟨⟨by simp at hl; omega, hu⟩, fun c hc => ?_⟩
    obtain ⟨j, hj⟩ := List.getElem?_of_mem hc
    exact hall (j + 1) c (by simpa using hj)
theorem capital_nil {s : List UInt8} (h : s.length < 1) : capital s = false := by
  cases s with
  | nil => rfl
  | cons b r => simp at h
theorem capital_long {s : List UInt8} (h : 16 < s.length) : capital s = false := by
  cases s with
  | nil => rfl
  | cons b r => simp only [capital]; simp at h; rw [decide_eq_false (by omega)]; rfl
theorem capital_up {s : List UInt8} {a : UInt8} (h0 : s[0]? = some a) (hu : upper a.toNat = false) : capital s = false := by
  cases s with
  | nil => rfl
  | cons b r => simp at h0; subst h0; simp only [capital]; rw [hu]; simp
theorem capital_in {s : List UInt8} {j : Nat} {c : UInt8} (h : s[j]? = some c) (hc : inNm c.toNat = false) : capital s = false := by
  cases s with
  | nil => rfl
  | cons b r =>
    cases j with
    | zero =>
      simp at h; subst h
      refine capital_up (a := b) rfl ?_
      cases hu : upper b.toNat with
      | false => rfl
      | true => rw [upper_in hu] at hc; cases hc
    | succ j =>
      simp only [capital]
      have : (r.all fun c => inNm c.toNat) = false := by
        rw [Bool.eq_false_iff]
        intro hall
        rw [List.all_eq_true] at hall
        have := hall c (List.mem_of_getElem? (by simpa using h))
        rw [hc] at this
        cases this
      rw [this]; simp

/-! ### A walk that always goes on -/
mutual
def resV (g : Nat → Nat → Nat) : Val → Nat → Nat → Nat
  | .mk _ _ _ kids, d, x => resL g kids (d + 1) (g x d)
def resL (g : Nat → Nat → Nat) : List Val → Nat → Nat → Nat
  | [], _, x => x
  | v :: r, d, x => resL g r d (resV g v d x)
end
theorem resL_snoc (g : Nat → Nat → Nat) : ∀ (l : List Val) (v : Val) (d x : Nat), resL g (l ++ [v]) d x = resV g v d (resL g l d x)
  | [], v, d, x => by simp [resL]
  | a :: r, v, d, x => by simp only [List.cons_append, resL]; exact resL_snoc g r v d _
theorem resL_take (g : Nat → Nat → Nat) {l : List Val} {k : Nat} (h : k < l.length) (d x : Nat) : resL g (l.take (k + 1)) d x = resV g l[k] d (resL g (l.take k) d x) := by
  rw [List.take_succ_eq_append_getElem h, resL_snoc]
mutual
theorem resV_le {g : Nat → Nat → Nat} (hg : ∀ n d, g n d ≤ max (n + 1) d) : ∀ (v : Val) (d n : Nat), resV g v d n ≤ max n (d + depthV v) + sizeV v
  | .mk k m s kids, d, n => by
    simp only [resV, depthV, sizeV]
    have h1 := hg n d
    have h2 := resL_le hg kids (d + 1) (g n d)
    omega
theorem resL_le {g : Nat → Nat → Nat} (hg : ∀ n d, g n d ≤ max (n + 1) d) : ∀ (l : List Val) (d n : Nat), resL g l d n ≤ max n (d + depthL l) + sizeL l
  | [], d, n => by simp only [resL]; omega
  | v :: r, d, n => by
    simp only [resL, depthL, sizeL]
    have h1 := resV_le hg v d n
    have h2 := resL_le hg r d (resV g v d n)
    omega
end
mutual
theorem res_size : ∀ (v : Val) (d n : Nat), resV (fun n _ => n + 1) v d n = n + sizeV v
  | .mk k m s kids, d, n => by simp only [resV, sizeV]; rw [resL_size]; omega
theorem resL_size : ∀ (l : List Val) (d n : Nat), resL (fun n _ => n + 1) l d n = n + sizeL l
  | [], d, n => by simp [resL, sizeL]
  | v :: r, d, n => by simp only [resL, sizeL]; rw [res_size, resL_size]; omega
end
mutual
theorem res_depth : ∀ (v : Val) (d n : Nat), resV (fun n d => max n d) v d n = max n (d + depthV v - 1)
  | .mk k m s kids, d, n => by
    simp only [resV, depthV]
    rw [resL_depth]
    cases kids with
    | nil => simp [depthL]
    | cons b r =>
      have h2 : 1 ≤ depthL (b :: r) := by
        have : 1 ≤ depthV b := by cases b; simp [depthV]
        simp only [depthL]; omega
      simp
theorem resL_depth : ∀ (l : List Val) (d n : Nat), resL (fun n d => max n d) l d n = if l = [] then n else max n (d + depthL l - 1)
  | [], d, n => by simp [resL]
  | v :: r, d, n => by
    simp only [resL, depthL]
    rw [res_depth, resL_depth]
    cases r with
    | nil => simp [depthL]
    | cons b r =>
      have h1 : 1 ≤ depthV v := by cases v; simp [depthV]
      have h2 : 1 ≤ depthL (b :: r) := by
        have : 1 ≤ depthV b := by cases b; simp [depthV]
        simp only [depthL]; omega
      simp; omega
end

/-! ### The walk of 'Valid', round by round -/
theorem visL_snoc {S : Type} (st : S → Val → Nat → Bool × S) : ∀ (l : List Val) (v : Val) (d : Nat) (x : S), visL st (l ++ [v]) d x = match visL st l d x with | (false, y) => (false, y) | (true, y) => visS st v d y
  | [], v, d, x => by
    simp only [List.nil_append, visL]
    cases visS st v d x with | mk b y => cases b <;> rfl
  | a :: r, v, d, x => by
    simp only [List.cons_append, visL]
    cases visS st a d x with
    | mk b y => cases b with
      | false => rfl
      | true => exact visL_snoc st r v d y
theorem visL_take {S : Type} (st : S → Val → Nat → Bool × S) {l : List Val} {k : Nat} (h : k < l.length) (d : Nat) (x y : S) (hx : visL st (l.take k) d x = (true, y)) : visL st (l.take (k + 1)) d x = visS st l[k] d y := by
  rw [List.take_succ_eq_append_getElem h, visL_snoc, hx]
theorem visL_stop {S : Type} (st : S → Val → Nat → Bool × S) : ∀ {l m : List Val} {d : Nat} {x y : S}, visL st l d x = (false, y) → visL st (l ++ m) d x = (false, y)
  | [], m, d, x, y, h => by simp [visL] at h
  | a :: r, m, d, x, y, h => by
    simp only [visL] at h
    simp only [List.cons_append, visL]
    cases he : visS st a d x with
    | mk b z =>
      rw [he] at h
      cases b with
      | false => simpa using h
      | true => exact visL_stop st h

theorem depthL_mem : ∀ {l : List Val} {v : Val}, v ∈ l → depthV v ≤ depthL l
  | a :: r, v, h => by
    simp only [depthL]
    rcases List.mem_cons.1 h with rfl | h
    · omega
    · have := depthL_mem h; omega
theorem depthL_append : ∀ (l m : List Val), depthL (l ++ m) = max (depthL l) (depthL m)
  | [], m => by simp [depthL]
  | a :: r, m => by simp only [List.cons_append, depthL, depthL_append r m]; omega
theorem depthL_take_le (l : List Val) (k : Nat) : depthL (l.take k) ≤ depthL l := by
  have := depthL_append (l.take k) (l.drop k)
  rw [List.take_append_drop] at this
  omega

mutual
theorem vis_cnt : ∀ (v : Val) (d : Nat) (x : Nat × Bool × Bool), (visS stValid v d x).2.1 ≤ x.1 + sizeV v
  | .mk k n s kids, d, x => by
    simp only [visS, stValid, sizeV]
    split
    · rename_i h; simp only [Prod.mk.injEq] at h; rw [← h.2]; simp only; omega
    · rename_i h; simp only [Prod.mk.injEq] at h; rw [← h.2]
      have := visL_cnt kids (d + 1) (x.1 + 1, x.2.1 && formed1 k n s kids.length, x.2.2 && fits1 k kids.length)
      simp only at this
      omega
theorem visL_cnt : ∀ (l : List Val) (d : Nat) (x : Nat × Bool × Bool), (visL stValid l d x).2.1 ≤ x.1 + sizeL l
  | [], d, x => by simp [visL]
  | v :: r, d, x => by
    simp only [visL, sizeL]
    have h1 := vis_cnt v d x
    split
    · rename_i y h; rw [h] at h1; simp only at h1 ⊢; omega
    · rename_i y h; rw [h] at h1; have := visL_cnt r d y; simp only at h1; omega
end
end Go.Ax

/- The texts of values: printing, parsing. Plain. -/
namespace Go.Ax
open Go
set_option linter.unusedVariables false

/-! ### Decimal -/
theorem itoa_zero : Lib.itoa 0 = [48] := by rw [Lib.itoa, if_neg (by omega)]; simp [Lib.decDigits_one]

/-- What is left of a number while its digits are taken from the right. -/
def decRest (k : Nat) : List UInt8 := if k = 0 then [] else Lib.decDigits k
theorem decRest_step {k : Nat} (h : k ≠ 0) : decRest k = decRest (k / 10) ++ [UInt8.ofNat (48 + k % 10)] := by
  unfold decRest
  rw [if_neg h]
  by_cases h10 : k < 10
  · rw [if_pos (by omega), Lib.decDigits_one h10, Nat.mod_eq_of_lt h10]; rfl
  · rw [if_neg (by omega), Lib.decDigits, dif_neg h10]

/-! ### Printing -/
def tTrue : List UInt8 := [116, 114, 117, 101]
def tFalse : List UInt8 := [102, 97, 108, 115, 101]
mutual
def printV : Val → List UInt8
  | .mk k n s kids => if k = 0 then Lib.itoa n else if k = 1 then (if n = 1 then tTrue else tFalse) else if k = 2 then 91 :: (printL kids ++ [93]) else if kids = [] then s else s ++ 40 :: (printL kids ++ [41])
def printL : List Val → List UInt8
  | [] => []
  | v :: r => printV v ++ printR r
def printR : List Val → List UInt8
  | [] => []
  | v :: r => 44 :: 32 :: (printV v ++ printR r)
end

theorem printR_snoc : ∀ (l : List Val) (v : Val), printR (l ++ [v]) = printR l ++ 44 :: 32 :: printV v
  | [], v => by simp [printR]
  | a :: r, v => by simp [printR, printR_snoc r v]
theorem printL_take {l : List Val} {k : Nat} (h : k < l.length) : printL (l.take (k + 1)) = printL (l.take k) ++ (if 0 < k then [44, 32] else []) ++ printV l[k] := by
  cases k with
  | zero => rw [List.take_succ_eq_append_getElem h]; simp [printL, printR]
  | succ k =>
    cases l with
    | nil => simp at h
    | cons a r =>
      have hk : k < r.length := by simpa using h
      simp only [List.take_succ_cons, printL, List.getElem_cons_succ]
      rw [List.take_succ_eq_append_getElem hk, printR_snoc]
      simp

/-! ### The length of a text -/
theorem itoa_len {n : Int} (h : i64 n) : (Lib.itoa n).length ≤ 21 := by
  unfold Lib.itoa
  have key : ∀ u : Nat, u < 18446744073709551616 → (Lib.decDigits u).length ≤ 20 := by
    intro u hu
    rw [Lib.decDigits_length]
    by_cases h1 : 1 ≤ u
    · obtain ⟨e1, e2⟩ := Lib.numDigits_eq u h1 hu
      rw [← e1]
      split <;> omega
    · rw [Lib.nDigits_small (by omega)]; omega
  unfold i64 at h
  split
  · have := key n.natAbs (by omega)
    simp
    omega
  · have := key n.toNat (by omega)
    omega

mutual
theorem print_len : ∀ v : Val, okV v → formedV v = true → (printV v).length + 2 ≤ 30 * sizeV v
  | .mk k n s kids, ho, hf => by
    simp only [okV] at ho
    simp only [formedV, Bool.and_eq_true] at hf
    have hl := printL_len kids ho.2.2.2.2 hf.2
    simp only [sizeV, printV]
    have hf1 := hf.1
    unfold formed1 at hf1
    split
    · have := itoa_len ho.2.1; omega
    · split
      · split
        · simp [tTrue]; omega
        · simp [tFalse]; omega
      · split
        · simp; omega
        · rename_i h0 h1 h2
          rw [if_neg h0, if_neg h1, if_neg h2] at hf1
          have hs : s.length ≤ 16 := by
            split at hf1
            · simp only [Bool.and_eq_true] at hf1
              have hc := hf1.2
              unfold capital at hc
              split at hc
              · cases hc
              · simp only [Bool.and_eq_true, decide_eq_true_eq] at hc
                simp
                omega
            · cases hf1
          split
          · omega
          · simp; omega
theorem printL_len : ∀ l : List Val, okVs l → formedL l = true → (printL l).length ≤ 30 * sizeL l
  | [], _, _ => by simp [printL]
  | v :: r, ho, hf => by
    simp only [okVs] at ho
    simp only [formedL, Bool.and_eq_true] at hf
    have h1 := print_len v ho.1 hf.1
    have h2 := printR_len r ho.2 hf.2
    simp only [printL, sizeL, List.length_append]
    omega
theorem printR_len : ∀ l : List Val, okVs l → formedL l = true → (printR l).length ≤ 30 * sizeL l
  | [], _, _ => by simp [printR]
  | v :: r, ho, hf => by
    simp only [okVs] at ho
    simp only [formedL, Bool.and_eq_true] at hf
    have h1 := print_len v ho.1 hf.1
    have h2 := printR_len r ho.2 hf.2
    simp only [printR, sizeL, List.length_append, List.length_cons]
    omega
end

theorem formedL_in : ∀ {l : List Val}, formedL l = true → ∀ {v : Val}, v ∈ l → formedV v = true
  | a :: r, h, v, hv => by
    simp only [formedL, Bool.and_eq_true] at h
    rcases List.mem_cons.1 hv with rfl | hv
    · exact h.1
    · exact formedL_in h.2 hv
theorem formedL_of : ∀ {l : List Val}, (∀ v ∈ l, formedV v = true) → formedL l = true
  | [], _ => rfl
  | a :: r, h => by simp only [formedL, Bool.and_eq_true]; exact ⟨h a (List.mem_cons_self ..), formedL_of fun v hv => h v (List.mem_cons_of_mem _ hv)⟩
theorem okVs_take {l : List Val} (h : okVs l) (k : Nat) : okVs (l.take k) := okVs_of fun v hv => okVs_mem h v (List.mem_of_mem_take hv)
theorem formedL_takeT {l : List Val} (h : formedL l = true) (k : Nat) : formedL (l.take k) = true := formedL_of fun v hv => formedL_in h (List.mem_of_mem_take hv)

/-! ### Parsing -/
/-- The bytes that can be part of a name. -/
def isNm (c : UInt8) : Bool := inNm c.toNat
def wordOf (s : List UInt8) : List UInt8 := s.takeWhile isNm
def restOf (s : List UInt8) : List UInt8 := s.dropWhile isNm
/-- 'accept': what is left, if it is next. -/
def cut (p s : List UInt8) : Option (List UInt8) := if p.isPrefixOf s then some (s.drop p.length) else none

abbrev PRes := Option (Val × List UInt8 × Nat)
/-- Values up to what ends them: as many more as 'most' says, 'acc' being read. -/
def pMore (rec : List UInt8 → Nat → PRes) (fin : List UInt8) : Nat → List Val → List UInt8 → Nat → Option (List Val × List UInt8 × Nat)
  | 0, _, _, _ => none
  | m + 1, acc, s, p => match rec s p with
    | none => none
    | some (v, s1, p1) => match cut fin s1 with
      | some s2 => some (acc ++ [v], s2, p1)
      | none => match cut [44, 32] s1 with
        | some s2 => pMore rec fin m (acc ++ [v]) s2 p1
        | none => none
def pKids (rec : List UInt8 → Nat → PRes) (fin : List UInt8) (most : Nat) (s : List UInt8) (p : Nat) : Option (List Val × List UInt8 × Nat) :=
  match cut fin s with
  | some s1 => some ([], s1, p)
  | none => pMore rec fin most [] s p
/-- A number. -/
def pNum (sign word : List UInt8) : Option Int :=
  match Lib.atoiAll (sign ++ word) with
  | .ok n => if Lib.itoa n = sign ++ word then some n else none
  | _ => none
def pWord (rec : List UInt8 → Nat → PRes) (sign s : List UInt8) (p : Nat) : PRes :=
  if wordOf s = tTrue ∧ sign = [] then some (.mk 1 1 [] [], restOf s, p)
  else if wordOf s = tFalse ∧ sign = [] then some (.mk 1 0 [] [], restOf s, p)
  else if capital (wordOf s) = true ∧ sign = [] then
    match cut [40] (restOf s) with
    | none => some (.mk 3 0 (wordOf s) [], restOf s, p)
    | some s1 => match pKids rec [41] 16 s1 p with
      | some (kids, s2, p2) => if kids = [] then none else some (.mk 3 0 (wordOf s) kids, s2, p2)
      | none => none
  else match pNum sign (wordOf s) with
    | some n => some (.mk 0 n [] [], restOf s, p)
    | none => none
def pStep (rec : List UInt8 → Nat → PRes) (s : List UInt8) (p : Nat) : PRes :=
  if 1024 < p + 1 then none
  else match cut [91] s with
    | some s1 => match pKids rec [93] 256 s1 (p + 1) with
      | some (kids, s2, p2) => some (.mk 2 0 [] kids, s2, p2)
      | none => none
    | none => match cut [45] s with
      | some s1 => pWord rec [45] s1 (p + 1)
      | none => pWord rec [] s (p + 1)
def pVal : Nat → List UInt8 → Nat → PRes
  | 0 => fun _ _ => none
  | f + 1 => pStep (pVal f)

theorem wordOf_len (s : List UInt8) : (wordOf s).length ≤ s.length := (List.takeWhile_sublist _).length_le
theorem restOf_len (s : List UInt8) : (restOf s).length ≤ s.length := (List.dropWhile_sublist _).length_le

/-! ### Numbers lead back -/
theorem parse_snoc : ∀ (l m : List UInt8) (acc a : Nat), Lib.parseUint10 acc l = .ok a → Lib.parseUint10 acc (l ++ m) = Lib.parseUint10 a m
  | [], m, acc, a, h => by
    simp only [Lib.parseUint10] at h
    injection h with h
    rw [h]; rfl
  | c :: r, m, acc, a, h => by
    simp only [Lib.parseUint10, List.cons_append] at h ⊢
    split at h
    · rename_i h1
      rw [if_pos h1]
      split at h
      · cases h
      · rename_i h2
        rw [if_neg h2]
        split at h
        · cases h
        · rename_i h3
          rw [if_neg h3]
          exact parse_snoc r m _ a h
    · cases h
theorem parse_dec : ∀ (u : Nat), u < 18446744073709551616 → Lib.parseUint10 0 (Lib.decDigits u) = .ok u := by
  intro u
  induction u using Nat.strongRecOn with
  | _ u ih =>
    intro hu
    by_cases h10 : u < 10
    · rw [Lib.decDigits_one h10]
      have e : (UInt8.ofNat (48 + u)).toNat = 48 + u := by simp; omega
      simp only [Lib.parseUint10, e]
      rw [if_pos (by omega), if_neg (by omega), if_neg (by omega)]
      congr 1
      omega
    · rw [Lib.decDigits, dif_neg h10, parse_snoc _ _ 0 (u / 10) (ih (u / 10) (by omega) (by omega))]
      have e : (UInt8.ofNat (48 + u % 10)).toNat = 48 + u % 10 := by simp; omega
      simp only [Lib.parseUint10, e]
      rw [if_pos (by omega), if_neg (by omega), if_neg (by omega)]
      congr 1
      omega
theorem dec_cons (u : Nat) : ∃ c r, Lib.decDigits u = c :: r ∧ 48 ≤ c.toNat ∧ c.toNat ≤ 57 := by
  induction u using Nat.strongRecOn with
  | _ u ih =>
    by_cases h10 : u < 10
    · rw [Lib.decDigits_one h10]
      have e : (UInt8.ofNat (48 + u)).toNat = 48 + u := by simp; omega
      exact ⟨_, [], rfl, by omega, by omega⟩
    · obtain ⟨c, r, h1, h2⟩ := ih (u / 10) (by omega)
      rw [Lib.decDigits, dif_neg h10, h1]
      exact ⟨c, _, rfl, h2⟩
theorem atoi_itoa {n : Int} (h : i64 n) : Lib.atoiAll (Lib.itoa n) = .ok n := by
  unfold i64 at h
  unfold Lib.itoa
  split
  · have hp := parse_dec n.natAbs (by omega)
    obtain ⟨c, r, h1, _⟩ := dec_cons n.natAbs
    rw [Lib.atoiAll_minus, Lib.parseMag, if_neg (by rw [h1]; simp), hp, Lib.signed, if_neg (by omega)]
    congr 1
    omega
  · have hp := parse_dec n.toNat (by omega)
    obtain ⟨c, r, h1, h2⟩ := dec_cons n.toNat
    rw [h1] at hp ⊢
    rw [Lib.atoiAll_plain c r (by omega) (by omega), Lib.parseMag, if_neg (by simp), hp, Lib.signless, if_neg (by omega)]
    congr 1
    omega
end Go.Ax

/- What is parsed is what is printed. Plain. -/
namespace Go.Ax
open Go
set_option linter.unusedVariables false

theorem cut_some {q s t : List UInt8} (h : cut q s = some t) : s = q ++ t := by
  unfold cut at h
  split at h
  · rename_i hp
    simp at hp
    obtain ⟨r, rfl⟩ := hp
    simp at h
    rw [h]
  · cases h
theorem word_rest (s : List UInt8) : s = wordOf s ++ restOf s := (List.takeWhile_append_dropWhile ..).symm
theorem printR_L {l : List Val} (h : l ≠ []) : printR l = 44 :: 32 :: printL l := by
  cases l with
  | nil => exact absurd rfl h
  | cons a r => simp [printR, printL]

theorem pMore_sound {rec : List UInt8 → Nat → PRes} (hr : ∀ s p v s' p', rec s p = some (v, s', p') → s = printV v ++ s') (fin : List UInt8) :
    ∀ (m : Nat) (acc : List Val) (s : List UInt8) (p : Nat) (l : List Val) (s' : List UInt8) (p' : Nat), pMore rec fin m acc s p = some (l, s', p') → ∃ r, l = acc ++ r ∧ r ≠ [] ∧ s = printL r ++ fin ++ s'
  | 0, acc, s, p, l, s', p', h => by simp [pMore] at h
  | m + 1, acc, s, p, l, s', p', h => by
    simp only [pMore] at h
    split at h
    · cases h
    · rename_i v s1 p1 hv
      have e1 := hr _ _ _ _ _ hv
      split at h
      · rename_i s2 hc
        cases h
        refine ⟨[v], rfl, by simp, ?_⟩
        rw [e1, cut_some hc]
        simp [printL, printR]
      · split at h
        · rename_i s2 hc
          obtain ⟨r, e2, hne, e3⟩ := pMore_sound hr fin m _ _ _ _ _ _ h
          refine ⟨v :: r, by rw [e2]; simp, by simp, ?_⟩
          rw [e1, cut_some hc, e3]
          simp [printL, printR_L hne]
        · cases h
theorem pKids_sound {rec : List UInt8 → Nat → PRes} (hr : ∀ s p v s' p', rec s p = some (v, s', p') → s = printV v ++ s') {fin : List UInt8} {most : Nat} {s : List UInt8} {p : Nat} {l : List Val} {s' : List UInt8} {p' : Nat}
    (h : pKids rec fin most s p = some (l, s', p')) : s = printL l ++ fin ++ s' := by
  unfold pKids at h
  split at h
  · rename_i s1 hc
    cases h
    rw [cut_some hc]
    simp [printL]
  · obtain ⟨r, e1, _, e2⟩ := pMore_sound hr fin _ _ _ _ _ _ _ h
    rw [e2, e1]
    simp
theorem pWord_sound {rec : List UInt8 → Nat → PRes} (hr : ∀ s p v s' p', rec s p = some (v, s', p') → s = printV v ++ s') {sign s : List UInt8} {p : Nat} {v : Val} {s' : List UInt8} {p' : Nat} (h : pWord rec sign s p = some (v, s', p')) : sign ++ s = printV v ++ s' := by
  have hs := word_rest s
  unfold pWord at h
  split at h
  · rename_i hc
    cases h
    rw [hc.2, List.nil_append]
    have : printV (.mk 1 1 [] []) = tTrue := by simp [printV]
    rw [this, ← hc.1]
    exact hs
  · split at h
    · rename_i hc
      cases h
      rw [hc.2, List.nil_append]
      have : printV (.mk 1 0 [] []) = tFalse := by simp [printV]
      rw [this, ← hc.1]
      exact hs
    · split at h
      · rename_i hc
        rw [hc.2, List.nil_append]
        split at h
        · cases h
          have : printV (.mk 3 0 (wordOf s) []) = wordOf s := by simp [printV]
          rw [this]
          exact hs
        · rename_i s1 hcut
          split at h
          · rename_i kids s2 p2 hk
            split at h
            · cases h
            · rename_i hne
              cases h
              have e := pKids_sound hr hk
              have hpv : printV (.mk 3 0 (wordOf s) kids) = wordOf s ++ 40 :: (printL kids ++ [41]) := by simp [printV, hne]
              have e0 := cut_some hcut
              have hs2 : s = wordOf s ++ ([40] ++ (printL kids ++ [41] ++ s')) := by rw [← e, ← e0]; exact hs
              rw [hpv]
              generalize wordOf s = ww at hs2 ⊢
              rw [hs2]
              simp
          · cases h
      · split at h
        · rename_i n hn
          cases h
          unfold pNum at hn
          split at hn
          · split at hn
            · rename_i hq
              cases hn
              have : printV (.mk 0 n [] []) = Lib.itoa n := by simp [printV]
              rw [this, hq, List.append_assoc, ← hs]
            · cases hn
          · cases hn
        · cases h
theorem pVal_sound : ∀ (f : Nat) (s : List UInt8) (p : Nat) (v : Val) (s' : List UInt8) (p' : Nat), pVal f s p = some (v, s', p') → s = printV v ++ s'
  | 0, s, p, v, s', p', h => by simp [pVal] at h
  | f + 1, s, p, v, s', p', h => by
    have ih := pVal_sound f
    have h : pStep (pVal f) s p = some (v, s', p') := h
    unfold pStep at h
    split at h
    · cases h
    · split at h
      · rename_i s1 hc
        split at h
        · rename_i kids s2 p2 hk
          cases h
          rw [cut_some hc, pKids_sound ih hk]
          simp [printV]
        · cases h
      · split at h
        · rename_i s1 hc
          rw [cut_some hc]
          exact pWord_sound ih h
        · exact pWord_sound ih h

/-! ### Generated values -/
theorem genNames_cap {s : List UInt8} (h : s ∈ genNames) : capital s = true := by
  simp [genNames] at h
  rcases h with rfl | rfl | rfl | rfl | rfl | rfl <;> decide
theorem genBase_formed {k n : Int} {s : List UInt8} {kids : List Val} (h : genBase k n s kids) : formed1 k n s kids.length = true := by
  rcases h with ⟨rfl, _, rfl, rfl⟩ | ⟨rfl, h, rfl, rfl⟩ | ⟨rfl, rfl, rfl⟩ | ⟨rfl, rfl, h⟩
  · simp [formed1]
  · rcases h with rfl | rfl <;> simp [formed1]
  · simp [formed1]
  · simp [formed1, genNames_cap h]
theorem genV_formed : ∀ {d : Nat} {v : Val}, genV d v → formedV v = true
  | 0, .mk k n s kids, h => by
    simp only [genV] at h
    obtain ⟨h1, rfl⟩ := h
    simp only [formedV, formedL, Bool.and_true]
    exact genBase_formed h1
  | d + 1, .mk k n s kids, h => by
    simp only [genV] at h
    obtain ⟨h1, h2, h3⟩ := h
    simp only [formedV, Bool.and_eq_true]
    exact ⟨genBase_formed h1, formedL_of fun v hv => genV_formed (h3 v hv)⟩
theorem print_pos {v : Val} (h : formedV v = true) : 0 < (printV v).length := by
  obtain ⟨k, n, s, kids⟩ := v
  simp only [formedV, Bool.and_eq_true] at h
  have h1 := h.1
  unfold formed1 at h1
  rw [printV]
  split
  · unfold Lib.itoa
    split
    · simp
    · obtain ⟨c, r, h1, _⟩ := dec_cons n.toNat
      rw [h1]; simp
  · split
    · split <;> simp [tTrue, tFalse]
    · split
      · simp
      · rename_i a b c
        rw [if_neg a, if_neg b, if_neg c] at h1
        split at h1
        · simp only [Bool.and_eq_true] at h1
          have hs : 0 < s.length := by
            cases s with
            | nil => simp [capital] at h1
            | cons _ _ => simp
          split
          · exact hs
          · simp; omega
        · cases h1
end Go.Ax

/- What is printed is parsed. Plain. -/
namespace Go.Ax
open Go
set_option linter.unusedVariables false

/-- Behind a text: nothing, or a byte that ends a word. -/
def Delim (t : List UInt8) : Prop := t = [] ∨ ∃ c r, t = c :: r ∧ isNm c = false ∧ c ≠ 40

theorem word_of {w t : List UInt8} (hw : ∀ c ∈ w, isNm c = true) (ht : Delim t) : wordOf (w ++ t) = w ∧ restOf (w ++ t) = t := by
  unfold wordOf restOf
  rw [List.takeWhile_append_of_pos hw, List.dropWhile_append_of_pos hw]
  rcases ht with rfl | ⟨c, r, rfl, hc, _⟩
  · simp
  · simp [hc]
theorem cut_ne {c d : UInt8} {r : List UInt8} (h : c ≠ d) : cut [d] (c :: r) = none := by
  unfold cut
  rw [if_neg]
  simp [List.isPrefixOf]
  exact fun e => h e.symm
theorem cut_eq (d : UInt8) (r : List UInt8) : cut [d] (d :: r) = some r := by
  unfold cut
  simp [List.isPrefixOf]
theorem cut_delim {t : List UInt8} (ht : Delim t) : cut [40] t = none := by
  rcases ht with rfl | ⟨c, r, rfl, _, hc⟩
  · rfl
  · exact cut_ne hc

theorem dec_digits (u : Nat) : ∀ c ∈ Lib.decDigits u, 48 ≤ c.toNat ∧ c.toNat ≤ 57 := by
  induction u using Nat.strongRecOn with
  | _ u ih =>
    have e : ∀ k : Nat, k < 10 → (UInt8.ofNat (48 + k)).toNat = 48 + k := fun k hk => by simp; omega
    by_cases h10 : u < 10
    · rw [Lib.decDigits_one h10]
      intro c hc
      simp at hc
      subst hc
      have := e u h10
      simp at this ⊢
      omega
    · rw [Lib.decDigits, dif_neg h10]
      intro c hc
      rcases List.mem_append.1 hc with h | h
      · exact ih (u / 10) (by omega) c h
      · simp only [List.mem_singleton] at h
        subst h
        have := e (u % 10) (by omega)
        omega
theorem digit_nm {c : UInt8} (h : 48 ≤ c.toNat ∧ c.toNat ≤ 57) : isNm c = true := by
  unfold isNm inNm
  have h1 : decide ((48 : Int) ≤ (c.toNat : Int)) = true := by simp; omega
  have h2 : decide ((c.toNat : Int) ≤ (57 : Int)) = true := by simp; omega
  rw [h1, h2]
  simp
theorem u8_ne {c : UInt8} {k : UInt8} (h : c.toNat ≠ k.toNat) : c ≠ k := fun e => h (by rw [e])

theorem pNum_itoa {n : Int} (h : i64 n) {sign word : List UInt8} (e : sign ++ word = Lib.itoa n) : pNum sign word = some n := by
  unfold pNum
  rw [e, atoi_itoa h]
  simp

/-- A number. -/
theorem pVal_int {f : Nat} {n : Int} (h : i64 n) {t : List UInt8} (ht : Delim t) {p : Nat} (hp : p < 1024) : pVal (f + 1) (Lib.itoa n ++ t) p = some (.mk 0 n [] [], t, p + 1) := by
  show pStep (pVal f) _ p = _
  unfold pStep
  rw [if_neg (by omega)]
  by_cases hn : n < 0
  · have e : Lib.itoa n = 45 :: Lib.decDigits n.natAbs := by unfold Lib.itoa; rw [if_pos hn]
    obtain ⟨hw, hr⟩ := word_of (w := Lib.decDigits n.natAbs) (t := t) (fun c hc => digit_nm (dec_digits _ c hc)) ht
    have hnum := pNum_itoa h (sign := [45]) (word := Lib.decDigits n.natAbs) (by rw [e]; rfl)
    rw [e, List.cons_append, cut_ne (by decide), cut_eq]
    simp only
    unfold pWord
    rw [hw, hr, hnum]
    simp
  · have e : Lib.itoa n = Lib.decDigits n.toNat := by unfold Lib.itoa; rw [if_neg hn]
    obtain ⟨hw, hr⟩ := word_of (w := Lib.decDigits n.toNat) (t := t) (fun c hc => digit_nm (dec_digits _ c hc)) ht
    have hnum := pNum_itoa h (sign := []) (word := Lib.decDigits n.toNat) (by rw [e]; rfl)
    obtain ⟨c, r, h1, h2, h3⟩ := dec_cons n.toNat
    rw [e]
    have hc1 : cut [91] (Lib.decDigits n.toNat ++ t) = none := by
      rw [h1, List.cons_append]
      exact cut_ne (u8_ne (by show c.toNat ≠ 91; omega))
    have hc2 : cut [45] (Lib.decDigits n.toNat ++ t) = none := by
      rw [h1, List.cons_append]
      exact cut_ne (u8_ne (by show c.toNat ≠ 45; omega))
    rw [hc1, hc2]
    simp only
    unfold pWord
    rw [hw, hr, hnum]
    have t1 : ¬ (Lib.decDigits n.toNat = tTrue ∧ ([] : List UInt8) = []) := by
      rintro ⟨h, _⟩
      rw [h1] at h
      unfold tTrue at h
      injection h with h _
      rw [h] at h3
      exact absurd h3 (by decide)
    have t2 : ¬ (Lib.decDigits n.toNat = tFalse ∧ ([] : List UInt8) = []) := by
      rintro ⟨h, _⟩
      rw [h1] at h
      unfold tFalse at h
      injection h with h _
      rw [h] at h3
      exact absurd h3 (by decide)
    have t3 : ¬ (capital (Lib.decDigits n.toNat) = true ∧ ([] : List UInt8) = []) := by
      rintro ⟨h, _⟩
      rw [capital_up (a := c) (by rw [h1]; rfl) (by unfold upper; simp; omega)] at h
      cases h
    rw [if_neg t1, if_neg t2, if_neg t3]

theorem pVal_word {f : Nat} {w t : List UInt8} (_ : ∀ c ∈ w, isNm c = true) {c0 : UInt8} {r0 : List UInt8} (h0 : w = c0 :: r0) (ht : ∀ d, d = 91 ∨ d = 45 → c0 ≠ d) {p : Nat} (hp : p < 1024) : pVal (f + 1) (w ++ t) p = pWord (pVal f) [] (w ++ t) (p + 1) := by
  show pStep (pVal f) _ p = _
  unfold pStep
  rw [if_neg (by omega)]
  have hc1 : cut [91] (w ++ t) = none := by rw [h0, List.cons_append]; exact cut_ne (ht 91 (.inl rfl))
  have hc2 : cut [45] (w ++ t) = none := by rw [h0, List.cons_append]; exact cut_ne (ht 45 (.inr rfl))
  rw [hc1, hc2]

/-- Kids. -/
theorem printL_head {l : List Val} (hl : l ≠ []) (hf : formedL l = true) : ∃ c r, printL l = c :: r ∧ c ≠ 93 ∧ c ≠ 41 := by
  cases l with
  | nil => exact absurd rfl hl
  | cons v r =>
    simp only [formedL, Bool.and_eq_true] at hf
    obtain ⟨k, n, s, kids⟩ := v
    have hv := hf.1
    simp only [formedV, Bool.and_eq_true] at hv
    have h1 := hv.1
    have key : ∃ c q, printV (.mk k n s kids) = c :: q ∧ c ≠ 93 ∧ c ≠ 41 := by
      unfold formed1 at h1
      rw [printV]
      by_cases k0 : k = 0
      · rw [if_pos k0]
        unfold Lib.itoa
        split
        · exact ⟨45, _, rfl, by decide, by decide⟩
        · obtain ⟨c, q, e, h2, h3⟩ := dec_cons n.toNat
          exact ⟨c, q, e, u8_ne (by show c.toNat ≠ 93; omega), u8_ne (by show c.toNat ≠ 41; omega)⟩
      · rw [if_neg k0] at h1 ⊢
        by_cases k1 : k = 1
        · rw [if_pos k1]
          split
          · exact ⟨_, _, rfl, by decide, by decide⟩
          · exact ⟨_, _, rfl, by decide, by decide⟩
        · rw [if_neg k1] at h1 ⊢
          by_cases k2 : k = 2
          · rw [if_pos k2]
            exact ⟨91, _, rfl, by decide, by decide⟩
          · rw [if_neg k2] at h1 ⊢
            split at h1
            · simp only [Bool.and_eq_true] at h1
              have hc := h1.2
              cases s with
              | nil => simp [capital] at hc
              | cons c q =>
                simp only [capital, Bool.and_eq_true, upper, decide_eq_true_eq] at hc
                have a1 := hc.1.2
                split
                · exact ⟨c, q, rfl, u8_ne (by show c.toNat ≠ 93; omega), u8_ne (by show c.toNat ≠ 41; omega)⟩
                · exact ⟨c, _, rfl, u8_ne (by show c.toNat ≠ 93; omega), u8_ne (by show c.toNat ≠ 41; omega)⟩
            · cases h1
    obtain ⟨c, q, e, a, b⟩ := key
    exact ⟨c, q ++ printR r, by rw [printL, e]; rfl, a, b⟩

theorem pMore_print {rec : List UInt8 → Nat → PRes} {d : UInt8} (hd : d = 93 ∨ d = 41) : ∀ (l : List Val) (m : Nat) (acc : List Val) (t : List UInt8) (p : Nat), l ≠ [] → l.length ≤ m →
    (∀ (i : Nat) (v : Val) (t' : List UInt8), l[i]? = some v → Delim t' → rec (printV v ++ t') (p + sizeL (l.take i)) = some (v, t', p + sizeL (l.take i) + sizeV v)) →
    pMore rec [d] m acc (printL l ++ d :: t) p = some (acc ++ l, t, p + sizeL l)
  | [], _, _, _, _, h, _, _ => absurd rfl h
  | v :: r, 0, _, _, _, _, h, _ => by simp at h
  | v :: r, m + 1, acc, t, p, _, hm, hrec => by
    have hdn : isNm d = false ∧ d ≠ 40 := by rcases hd with rfl | rfl <;> decide
    simp only [pMore]
    have h0 := fun t' ht => hrec 0 v t' rfl ht
    simp only [List.take_zero, sizeL, Nat.add_zero] at h0
    cases r with
    | nil =>
      rw [show printL [v] ++ d :: t = printV v ++ d :: t by simp [printL, printR], h0 (d :: t) (.inr ⟨d, t, rfl, hdn.1, hdn.2⟩)]
      simp only
      rw [cut_eq]
      simp [sizeL]
    | cons a q =>
      have e : printL (v :: a :: q) ++ d :: t = printV v ++ 44 :: 32 :: (printL (a :: q) ++ d :: t) := by simp [printL, printR]
      rw [e, h0 _ (.inr ⟨44, _, rfl, by decide, by decide⟩)]
      simp only
      rw [cut_ne (by rcases hd with rfl | rfl <;> decide)]
      have hc : cut [44, 32] (44 :: 32 :: (printL (a :: q) ++ d :: t)) = some (printL (a :: q) ++ d :: t) := by
        unfold cut
        simp [List.isPrefixOf]
      rw [hc]
      simp only
      have ih := pMore_print hd (a :: q) m (acc ++ [v]) t (p + sizeV v) (by simp) (by simpa using hm) (fun i x t' hi ht => by
        have := hrec (i + 1) x t' (by simpa using hi) ht
        simp only [List.take_succ_cons, sizeL] at this
        rw [show p + sizeV v + sizeL ((a :: q).take i) = p + (sizeV v + sizeL ((a :: q).take i)) by omega]
        exact this)
      rw [ih]
      simp [sizeL]
      omega

/-- A valid value's text leads back to it. -/
theorem pVal_print : ∀ (v : Val) (f p : Nat) (t : List UInt8), okV v → formedV v = true → fitsV v = true → Delim t → p + sizeV v ≤ 1024 → 1025 ≤ f + p → pVal f (printV v ++ t) p = some (v, t, p + sizeV v)
  | .mk k n s kids, f, p, t, ho, hf, hw, ht, hp, hfp => by
    simp only [okV] at ho
    simp only [formedV, Bool.and_eq_true] at hf
    simp only [fitsV, Bool.and_eq_true] at hw
    simp only [sizeV] at hp
    obtain ⟨g, rfl⟩ : ∃ g, f = g + 1 := ⟨f - 1, by omega⟩
    have h1 := hf.1
    have hrec : ∀ (q : Nat), p + 1 = q → ∀ (i : Nat) (v : Val) (t' : List UInt8), kids[i]? = some v → Delim t' → pVal g (printV v ++ t') (q + sizeL (kids.take i)) = some (v, t', q + sizeL (kids.take i) + sizeV v) := by
      intro q hq i v t' hi hd
      have hil := (List.getElem?_eq_some_iff.1 hi).1
      have hm := List.mem_of_getElem? hi
      have hs := sizeL_take (l := kids) (k := i) hil
      have hs2 := sizeL_take_le kids (i + 1)
      have e : kids[i] = v := by rw [List.getElem?_eq_getElem hil] at hi; exact Option.some.inj hi
      rw [e] at hs
      exact pVal_print v g (q + sizeL (kids.take i)) t' (okVs_mem ho.2.2.2.2 v hm) (formedL_in hf.2 hm) (fitsL_in hw.2 hm) hd (by omega) (by omega)
    unfold formed1 at h1
    rw [printV]
    by_cases k0 : k = 0
    · subst k0
      rw [if_pos rfl] at h1 ⊢
      simp only [Bool.and_eq_true, decide_eq_true_eq] at h1
      obtain ⟨rfl, h2⟩ := h1
      obtain rfl : kids = [] := List.length_eq_zero_iff.1 h2
      simp only [sizeV, sizeL] at hp ⊢
      exact pVal_int ho.2.1 ht (by omega)
    · rw [if_neg k0] at h1 ⊢
      by_cases k1 : k = 1
      · subst k1
        rw [if_pos rfl] at h1 ⊢
        simp only [Bool.and_eq_true, decide_eq_true_eq, Bool.or_eq_true] at h1
        obtain ⟨⟨hn, rfl⟩, h2⟩ := h1
        obtain rfl : kids = [] := List.length_eq_zero_iff.1 h2
        simp only [sizeV, sizeL] at hp ⊢
        rcases hn with rfl | rfl
        · rw [if_neg (by omega), pVal_word (w := tFalse) (by decide) rfl (by rintro d (rfl | rfl) <;> decide) (by omega)]
          obtain ⟨a, b⟩ := word_of (w := tFalse) (t := t) (by decide) ht
          unfold pWord
          rw [a, b, if_neg (by decide), if_pos ⟨rfl, rfl⟩]
        · rw [if_pos rfl, pVal_word (w := tTrue) (by decide) rfl (by rintro d (rfl | rfl) <;> decide) (by omega)]
          obtain ⟨a, b⟩ := word_of (w := tTrue) (t := t) (by decide) ht
          unfold pWord
          rw [a, b, if_pos ⟨rfl, rfl⟩]
      · rw [if_neg k1] at h1 ⊢
        by_cases k2 : k = 2
        · subst k2
          rw [if_pos rfl] at h1 ⊢
          simp only [Bool.and_eq_true, decide_eq_true_eq] at h1
          obtain ⟨rfl, rfl⟩ := h1
          show pStep (pVal g) _ p = _
          unfold pStep
          rw [if_neg (by omega), List.cons_append, cut_eq]
          simp only
          have hlen : kids.length ≤ 256 := by have := hw.1; unfold fits1 at this; simp at this; omega
          have hk : pKids (pVal g) [93] 256 (printL kids ++ [93] ++ t) (p + 1) = some (kids, t, p + 1 + sizeL kids) := by
            unfold pKids
            by_cases hne : kids = []
            · subst hne
              rw [show printL [] ++ [93] ++ t = 93 :: t by simp [printL], cut_eq]
              simp [sizeL]
            · obtain ⟨c, r, e, c1, _⟩ := printL_head hne hf.2
              have : cut [93] (printL kids ++ [93] ++ t) = none := by rw [e]; exact cut_ne c1
              rw [this]
              have := pMore_print (rec := pVal g) (d := 93) (.inl rfl) kids 256 [] t (p + 1) hne hlen (hrec (p + 1) rfl)
              simpa using this
          rw [hk]
          simp only [sizeV]
          rw [show p + 1 + sizeL kids = p + (1 + sizeL kids) by omega]
        · rw [if_neg k2] at h1 ⊢
          split at h1
          · rename_i k3
            subst k3
            simp only [Bool.and_eq_true, decide_eq_true_eq] at h1
            obtain ⟨rfl, hc⟩ := h1
            have hcs := hc
            cases s with
            | nil => simp [capital] at hc
            | cons c0 r0 =>
              simp only [capital, Bool.and_eq_true, List.all_eq_true, decide_eq_true_eq] at hc
              have hup := hc.1.2
              have hnm : ∀ c ∈ c0 :: r0, isNm c = true := by
                intro c h
                rcases List.mem_cons.1 h with rfl | h
                · exact upper_in hup
                · exact hc.2 c h
              simp only [upper, Bool.and_eq_true, decide_eq_true_eq] at hup
              have hne1 : ¬ (c0 :: r0 = tTrue ∧ ([] : List UInt8) = []) := by
                rintro ⟨h, _⟩
                unfold tTrue at h
                injection h with h _
                rw [h] at hup
                exact absurd hup.2 (by decide)
              have hne2 : ¬ (c0 :: r0 = tFalse ∧ ([] : List UInt8) = []) := by
                rintro ⟨h, _⟩
                unfold tFalse at h
                injection h with h _
                rw [h] at hup
                exact absurd hup.2 (by decide)
              have hfirst : ∀ d, d = 91 ∨ d = 45 → c0 ≠ d := by
                rintro d (rfl | rfl)
                · exact u8_ne (by show c0.toNat ≠ 91; omega)
                · exact u8_ne (by show c0.toNat ≠ 45; omega)
              by_cases hk : kids = []
              · subst hk
                simp only [if_true]
                rw [pVal_word hnm rfl hfirst (by omega)]
                obtain ⟨a, b⟩ := word_of (w := c0 :: r0) (t := t) hnm ht
                unfold pWord
                rw [a, b, if_neg hne1, if_neg hne2, if_pos ⟨hcs, rfl⟩, cut_delim ht]
                simp [sizeV, sizeL]
              · rw [if_neg hk]
                have hlen : kids.length ≤ 16 := by have := hw.1; unfold fits1 at this; simp at this; omega
                have e : (c0 :: r0) ++ 40 :: (printL kids ++ [41]) ++ t = (c0 :: r0) ++ (40 :: (printL kids ++ 41 :: t)) := by simp
                rw [e, pVal_word hnm rfl hfirst (by omega)]
                have hword : wordOf ((c0 :: r0) ++ (40 :: (printL kids ++ 41 :: t))) = c0 :: r0 ∧ restOf ((c0 :: r0) ++ (40 :: (printL kids ++ 41 :: t))) = 40 :: (printL kids ++ 41 :: t) := by
                  have h40 : isNm 40 = false := by decide
                  unfold wordOf restOf
                  rw [List.takeWhile_append_of_pos hnm, List.dropWhile_append_of_pos hnm]
                  simp [h40]
                obtain ⟨a, b⟩ := hword
                unfold pWord
                rw [a, b, if_neg hne1, if_neg hne2, if_pos ⟨hcs, rfl⟩, cut_eq]
                simp only
                have hkk : pKids (pVal g) [41] 16 (printL kids ++ 41 :: t) (p + 1) = some (kids, t, p + 1 + sizeL kids) := by
                  unfold pKids
                  obtain ⟨c, r, e, _, c1⟩ := printL_head hk hf.2
                  have : cut [41] (printL kids ++ 41 :: t) = none := by rw [e]; exact cut_ne c1
                  rw [this]
                  have := pMore_print (rec := pVal g) (d := 41) (.inr rfl) kids 16 [] t (p + 1) hk hlen (hrec (p + 1) rfl)
                  simpa using this
                rw [hkk]
                simp only
                rw [if_neg hk]
                simp only [sizeV]
                rw [show p + 1 + sizeL kids = p + (1 + sizeL kids) by omega]
          · cases h1
termination_by v f p t => SizeOf.sizeOf v
decreasing_by
  have := List.sizeOf_lt_of_mem (List.mem_of_getElem? hi)
  simp
  omega
where
  fitsL_in : ∀ {l : List Val}, fitsL l = true → ∀ {v : Val}, v ∈ l → fitsV v = true
    | a :: r, h, v, hv => by
      simp only [fitsL, Bool.and_eq_true] at h
      rcases List.mem_cons.1 hv with rfl | hv
      · exact h.1
      · exact fitsL_in h.2 hv

theorem valid_fits {v : Val} (h : validV v = 0) : formedV v = true ∧ fitsV v = true ∧ sizeV v ≤ 1024 := by
  unfold validV at h
  split at h
  · omega
  · rename_i hf
    have hf : formedV v = true := by simpa using hf
    split at h
    · omega
    · rename_i hw
      rw [not_or] at hw
      refine ⟨hf, ?_, by omega⟩
      have := wide_fits v hf
      have h2 : wideV v = false := by simpa using hw.1
      rw [h2] at this
      simpa using this.symm
theorem parse_print {v : Val} (ho : okV v) (h : validV v = 0) : pVal 1025 (printV v) 0 = some (v, [], sizeV v) := by
  obtain ⟨h1, h2, h3⟩ := valid_fits h
  have := pVal_print v 1025 0 [] ho h1 h2 (.inl rfl) (by omega) (by omega)
  simpa using this
end Go.Ax

/- Variable-length integers, encodings of values. Plain. -/
namespace Go.Ax
open Go
set_option linter.unusedVariables false

/-! ### Numbers -/
def uvar (n : Nat) : List UInt8 := if _h : n < 128 then [UInt8.ofNat n] else UInt8.ofNat (128 + n % 128) :: uvar (n / 128)
termination_by n
def zig (n : Int) : Nat := if n < 0 then 2 * (-(n + 1)).toNat + 1 else 2 * n.toNat
def zag (u : Nat) : Int := if u % 2 = 1 then -((u / 2 : Nat) : Int) - 1 else ((u / 2 : Nat) : Int)

theorem uvar_small {n : Nat} (h : n < 128) : uvar n = [UInt8.ofNat n] := by rw [uvar, dif_pos h]
theorem uvar_big {n : Nat} (h : ¬ n < 128) : uvar n = UInt8.ofNat (128 + n % 128) :: uvar (n / 128) := by rw [uvar, dif_neg h]
theorem zig_lt {n : Int} (h : i64 n) : zig n < 18446744073709551616 := by
  unfold zig; unfold i64 at h
  split <;> omega
theorem zag_zig (n : Int) : zag (zig n) = n := by
  unfold zag zig
  split <;> split <;> omega
theorem zig_zag (u : Nat) : zig (zag u) = u := by
  unfold zag zig
  split <;> split <;> omega
theorem zag_i64 {u : Nat} (h : u < 18446744073709551616) : i64 (zag u) := by
  unfold zag i64
  split <;> constructor <;> omega

theorem uvar_len : ∀ (k n : Nat), n < 128 ^ (k + 1) → (uvar n).length ≤ k + 1
  | 0, n, h => by rw [uvar_small (by simpa using h)]; simp
  | k + 1, n, h => by
    by_cases hn : n < 128
    · rw [uvar_small hn]; simp
    · rw [uvar_big hn]
      have := uvar_len k (n / 128) (by rw [Nat.div_lt_iff_lt_mul (by omega)]; rw [Nat.pow_succ] at h; exact h)
      simp; omega
theorem uvar_len64 {n : Nat} (h : n < 18446744073709551616) : (uvar n).length ≤ 10 := by
  refine uvar_len 9 n ?_
  have : (128 : Nat) ^ (9 + 1) = 1180591620717411303424 := by decide
  omega

/-! ### Reading a number -/
/-- What is read: a number and the rest, or an error. -/
def uGo : List UInt8 → Nat → Nat → Sum Int (Nat × List UInt8)
  | [], _, _ => .inl 3
  | b :: r, i, n => if (i = 9 ∧ 1 < b.toNat) ∨ (0 < i ∧ b.toNat = 0) then .inl 2 else if b.toNat < 128 then .inr (n + b.toNat * 2 ^ (7 * i), r) else uGo r (i + 1) (n + (b.toNat - 128) * 2 ^ (7 * i))

theorem uGo_err : ∀ (l : List UInt8) (i n : Nat) (e : Int), uGo l i n = .inl e → e = 2 ∨ e = 3
  | [], i, n, e, h => by simp [uGo] at h; omega
  | b :: r, i, n, e, h => by
    simp only [uGo] at h
    split at h
    · simp at h; omega
    · split at h
      · cases h
      · exact uGo_err r _ _ e h

/-- How many sevens are left. -/
theorem uGo_uvar : ∀ (u i n : Nat) (t : List UInt8), i ≤ 9 → u * 2 ^ (7 * i) < 18446744073709551616 → (i = 0 ∨ 0 < u) → uGo (uvar u ++ t) i n = .inr (n + u * 2 ^ (7 * i), t) := by
  intro u
  induction u using Nat.strongRecOn with
  | _ u ih =>
    intro i n t hi hu h0
    have h9 : i = 9 → u ≤ 1 := by
      intro e
      subst e
      have : (2 : Nat) ^ (7 * 9) = 9223372036854775808 := by decide
      rw [this] at hu
      omega
    by_cases hs : u < 128
    · rw [uvar_small hs]
      have e : (UInt8.ofNat u).toNat = u := by simp; omega
      show uGo (UInt8.ofNat u :: t) i n = _
      simp only [uGo, e]
      rw [if_neg (by
        rintro (⟨h1, h2⟩ | ⟨h1, h2⟩)
        · have := h9 h1; omega
        · omega), if_pos hs]
    · rw [uvar_big hs]
      have e : (UInt8.ofNat (128 + u % 128)).toNat = 128 + u % 128 := by simp; omega
      show uGo (UInt8.ofNat (128 + u % 128) :: (uvar (u / 128) ++ t)) i n = _
      simp only [uGo, e]
      have hne : i ≠ 9 := by intro h; have := h9 h; omega
      have hp : (2 : Nat) ^ (7 * (i + 1)) = 128 * 2 ^ (7 * i) := by rw [show 7 * (i + 1) = 7 * i + 7 by omega, Nat.pow_add]; omega
      rw [if_neg (by omega), if_neg (by omega), ih (u / 128) (by omega) (i + 1) _ t (by omega) (by
        rw [hp, ← Nat.mul_assoc]
        refine Nat.lt_of_le_of_lt (Nat.mul_le_mul_right _ ?_) hu
        omega) (.inr (by omega))]
      congr 2
      rw [hp, ← Nat.mul_assoc, show 128 + u % 128 - 128 = u % 128 by omega, Nat.add_assoc, ← Nat.add_mul]
      congr 2
      omega

theorem uGo_sound : ∀ (l : List UInt8) (i n u : Nat) (t : List UInt8), i ≤ 9 → n < 2 ^ (7 * i) → uGo l i n = .inr (u, t) →
    ∃ w, l = uvar w ++ t ∧ u = n + w * 2 ^ (7 * i) ∧ (i = 0 ∨ 0 < w) ∧ u < 18446744073709551616
  | [], i, n, u, t, _, _, h => by simp [uGo] at h
  | b :: r, i, n, u, t, hi, hn, h => by
    simp only [uGo] at h
    have hb := b.toNat_lt
    have eb : UInt8.ofNat b.toNat = b := by simp
    split at h
    · cases h
    · rename_i hc
      rw [not_or] at hc
      split at h
      · rename_i h128
        simp only [Sum.inr.injEq, Prod.mk.injEq] at h
        obtain ⟨rfl, rfl⟩ := h
        refine ⟨b.toNat, by rw [uvar_small h128, eb]; rfl, rfl, by omega, ?_⟩
        have h9 : i = 9 → b.toNat ≤ 1 := fun e => by
          have := hc.1
          omega
        rcases (show i = 0 ∨ i = 1 ∨ i = 2 ∨ i = 3 ∨ i = 4 ∨ i = 5 ∨ i = 6 ∨ i = 7 ∨ i = 8 ∨ i = 9 by omega) with rfl | rfl | rfl | rfl | rfl | rfl | rfl | rfl | rfl | rfl <;> simp at hn ⊢ <;> omega
      · rename_i h128
        have hne : i ≠ 9 := fun e => by have := hc.1; omega
        have hp : (2 : Nat) ^ (7 * (i + 1)) = 128 * 2 ^ (7 * i) := by rw [show 7 * (i + 1) = 7 * i + 7 by omega, Nat.pow_add]; omega
        have hlt : n + (b.toNat - 128) * 2 ^ (7 * i) < 2 ^ (7 * (i + 1)) := by
          rw [hp]
          have : (b.toNat - 128) * 2 ^ (7 * i) ≤ 127 * 2 ^ (7 * i) := Nat.mul_le_mul_right _ (by omega)
          omega
        obtain ⟨w, e1, e2, e3, e4⟩ := uGo_sound r (i + 1) _ u t (by omega) hlt h
        refine ⟨128 * w + (b.toNat - 128), ?_, ?_, .inr (by omega), e4⟩
        · have hw : 0 < w := by omega
          rw [uvar_big (by omega), show (128 * w + (b.toNat - 128)) / 128 = w by omega, show 128 + (128 * w + (b.toNat - 128)) % 128 = b.toNat by omega, eb, e1]
          rfl
        · rw [e2, hp, Nat.add_mul, ← Nat.mul_assoc, Nat.mul_comm w 128]
          omega

theorem uGo0 {l : List UInt8} {u : Nat} {t : List UInt8} (h : uGo l 0 0 = .inr (u, t)) : l = uvar u ++ t ∧ u < 18446744073709551616 := by
  obtain ⟨w, h1, h2, _, h4⟩ := uGo_sound l 0 0 u t (by omega) (by simp) h
  simp at h2
  subst h2
  exact ⟨h1, h4⟩
theorem uGo_of {u : Nat} (t : List UInt8) (h : u < 18446744073709551616) : uGo (uvar u ++ t) 0 0 = .inr (u, t) := by
  have := uGo_uvar u 0 0 t (by omega) (by simpa using h) (.inl rfl)
  simpa using this

/-! ### A reader -/
abbrev Rd := List UInt8 × Int
def uintR (x : Rd) : Nat × Rd := if x.2 = 0 then (match uGo x.1 0 0 with | .inl e => (0, (x.1, e)) | .inr (u, t) => (u, (t, 0))) else (0, x)
def intR (x : Rd) : Int × Rd := (zag (uintR x).1, (uintR x).2)
def boolR (x : Rd) : Bool × Rd := if x.2 = 0 then (match x.1 with
    | [] => (false, (x.1, 3))
    | b :: t => if 1 < b.toNat then (false, (x.1, 2)) else (decide (b.toNat = 1), (t, 0))) else (false, x)
def lenR (x : Rd) : Nat × Rd := if (uintR x).2.2 = 0 then (if (uintR x).2.1.length < (uintR x).1 then (0, ((uintR x).2.1, 3)) else ((uintR x).1, (uintR x).2)) else (0, (uintR x).2)
def textR (x : Rd) : List UInt8 × Rd := ((lenR x).2.1.take (lenR x).1, ((lenR x).2.1.drop (lenR x).1, (lenR x).2.2))

/-! ### Encodings -/
def encInt (n : Int) : List UInt8 := uvar (zig n)
mutual
def codeV : Val → List UInt8
  | .mk k n s kids => encInt k ++ (if k = 0 then encInt n else if k = 1 then [if n = 1 then 1 else 0] else (if k = 3 then uvar s.length ++ s else []) ++ (encInt kids.length ++ codeL kids))
def codeL : List Val → List UInt8
  | [] => []
  | v :: r => codeV v ++ codeL r
end
theorem codeL_append : ∀ l m : List Val, codeL (l ++ m) = codeL l ++ codeL m
  | [], m => by simp [codeL]
  | v :: r, m => by simp [codeL, codeL_append r m]
theorem codeL_take {l : List Val} {k : Nat} (h : k < l.length) : codeL (l.take (k + 1)) = codeL (l.take k) ++ codeV l[k] := by
  rw [List.take_succ_eq_append_getElem h, codeL_append]; simp [codeL]
theorem encInt_len {n : Int} (h : i64 n) : (encInt n).length ≤ 10 := uvar_len64 (zig_lt h)
theorem i64_nat {n : Nat} (h : n ≤ 4611686018427387904) : i64 (n : Int) := ⟨by omega, by omega⟩

mutual
theorem code_len : ∀ v : Val, okV v → formedV v = true → (codeV v).length ≤ 50 * sizeV v
  | .mk k n s kids, ho, hf => by
    simp only [okV] at ho
    simp only [formedV, Bool.and_eq_true] at hf
    have hl := codeL_len kids ho.2.2.2.2 hf.2
    have h1 := encInt_len ho.1
    have h2 := encInt_len ho.2.1
    have h3 := encInt_len (i64_nat (n := kids.length) (by omega))
    simp only [sizeV, codeV, List.length_append]
    have hf1 := hf.1
    unfold formed1 at hf1
    split
    · omega
    · split
      · simp; omega
      · rename_i k0 k1
        rw [if_neg k0, if_neg k1] at hf1
        simp only [List.length_append]
        have hs : (if k = 3 then uvar s.length ++ s else []).length ≤ 26 := by
          split
          · rename_i k3
            subst k3
            rw [if_neg (by omega), if_pos rfl] at hf1
            have : s.length ≤ 16 := by
              rcases Nat.lt_or_ge 16 s.length with h | h
              · rw [capital_long h] at hf1; simp at hf1
              · exact h
            have := uvar_len64 (n := s.length) (by omega)
            simp; omega
          · simp
        omega
theorem codeL_len : ∀ l : List Val, okVs l → formedL l = true → (codeL l).length ≤ 50 * sizeL l
  | [], _, _ => by simp [codeL]
  | v :: r, ho, hf => by
    simp only [okVs] at ho
    simp only [formedL, Bool.and_eq_true] at hf
    have h1 := code_len v ho.1 hf.1
    have h2 := codeL_len r ho.2 hf.2
    simp only [codeL, sizeL, List.length_append]
    omega
end
end Go.Ax

/- Bits of machine integers. Plain. -/
namespace Go.Ax
open Go
set_option linter.unusedVariables false

theorem wrap_u64 {n : Int} (h0 : 0 ≤ n) (h1 : n < 18446744073709551616) : IntKind.u64.wrap n = n := by
  unfold IntKind.wrap
  have e : (2 ^ IntKind.u64.bits : Int) = 18446744073709551616 := by decide
  have s : IntKind.u64.signed = false := rfl
  simp only [e, s, Bool.false_and]
  exact Int.emod_eq_of_lt h0 h1
theorem wrap_u64_mod (n : Int) : IntKind.u64.wrap n = n % 18446744073709551616 := by
  unfold IntKind.wrap
  have e : (2 ^ IntKind.u64.bits : Int) = 18446744073709551616 := by decide
  have s : IntKind.u64.signed = false := rfl
  simp only [e, s, Bool.false_and]
  rfl
theorem wrap_u8_mod (n : Int) : IntKind.u8.wrap n = n % 256 := by
  unfold IntKind.wrap
  have e : (2 ^ IntKind.u8.bits : Int) = 256 := by decide
  have s : IntKind.u8.signed = false := rfl
  simp only [e, s, Bool.false_and]
  rfl
theorem wrap_i64_mod (n : Int) : IntKind.i64.wrap n = if n % 18446744073709551616 ≥ 9223372036854775808 then n % 18446744073709551616 - 18446744073709551616 else n % 18446744073709551616 := by
  unfold IntKind.wrap
  have e : (2 ^ IntKind.i64.bits : Int) = 18446744073709551616 := by decide
  have e' : (2 ^ (IntKind.i64.bits - 1) : Int) = 9223372036854775808 := by decide
  have s : IntKind.i64.signed = true := rfl
  simp only [e, e', s, Bool.true_and, decide_eq_true_eq]

theorem pow64 : (2 : Nat) ^ 64 = 18446744073709551616 := by decide
theorem ofI (a : Nat) : (BitVec.ofInt 64 (a : Int)).toNat = a % 18446744073709551616 := by
  rw [BitVec.ofInt_natCast, BitVec.toNat_ofNat]
theorem ones_xor {a : Nat} (h : a < 18446744073709551616) : a ^^^ 18446744073709551615 = 18446744073709551615 - a := by
  have h1 : (BitVec.ofNat 64 a ^^^ BitVec.allOnes 64).toNat = 18446744073709551615 - a := by
    rw [BitVec.xor_allOnes, BitVec.toNat_not, BitVec.toNat_ofNat, pow64, Nat.mod_eq_of_lt h]
  rw [BitVec.toNat_xor, BitVec.toNat_ofNat, pow64, Nat.mod_eq_of_lt h] at h1
  have h2 : (BitVec.allOnes 64).toNat = 18446744073709551615 := by decide
  rw [h2] at h1
  exact h1
theorem xor_lt64 {a b : Nat} (ha : a < 18446744073709551616) (hb : b < 18446744073709551616) : a ^^^ b < 18446744073709551616 := by
  have := Nat.xor_lt_two_pow (n := 64) (x := a) (y := b) (by rw [pow64]; exact ha) (by rw [pow64]; exact hb)
  rwa [pow64] at this
theorem or_lt64 {a b : Nat} (ha : a < 18446744073709551616) (hb : b < 18446744073709551616) : a ||| b < 18446744073709551616 := by
  have := Nat.or_lt_two_pow (n := 64) (x := a) (y := b) (by rw [pow64]; exact ha) (by rw [pow64]; exact hb)
  rwa [pow64] at this
theorem bits_xor {a b : Nat} (ha : a < 18446744073709551616) (hb : b < 18446744073709551616) : bits .xor .u64 (a : Int) (b : Int) = ((a ^^^ b : Nat) : Int) := by
  show IntKind.u64.wrap ((BitVec.ofInt 64 (a : Int) ^^^ BitVec.ofInt 64 (b : Int)).toNat : Int) = _
  rw [BitVec.toNat_xor, ofI, ofI, Nat.mod_eq_of_lt ha, Nat.mod_eq_of_lt hb, wrap_u64 (by omega) (by have := xor_lt64 ha hb; omega)]
theorem bits_or {a b : Nat} (ha : a < 18446744073709551616) (hb : b < 18446744073709551616) : bits .or .u64 (a : Int) (b : Int) = ((a ||| b : Nat) : Int) := by
  show IntKind.u64.wrap ((BitVec.ofInt 64 (a : Int) ||| BitVec.ofInt 64 (b : Int)).toNat : Int) = _
  rw [BitVec.toNat_or, ofI, ofI, Nat.mod_eq_of_lt ha, Nat.mod_eq_of_lt hb, wrap_u64 (by omega) (by have := or_lt64 ha hb; omega)]
theorem bits_and1 {a : Nat} (ha : a < 18446744073709551616) : bits .and .u64 (a : Int) 1 = ((a % 2 : Nat) : Int) := by
  show IntKind.u64.wrap ((BitVec.ofInt 64 (a : Int) &&& BitVec.ofInt 64 ((1 : Nat) : Int)).toNat : Int) = _
  rw [BitVec.toNat_and, ofI, ofI, Nat.mod_eq_of_lt ha, Nat.mod_eq_of_lt (by omega), Nat.and_one_is_mod, wrap_u64 (by omega) (by omega)]

/-- The zigzag form, as the program computes it. -/
theorem zig_bits {n : Int} (h : i64 n) : bits .xor .u64 (IntKind.u64.wrap (IntKind.u64.wrap n * 2 ^ (min (1 : Int).toNat IntKind.u64.bits))) (IntKind.u64.wrap (n.fdiv (2 ^ (min (63 : Int).toNat IntKind.i64.bits)))) = (zig n : Int) := by
  have e1 : min (1 : Int).toNat IntKind.u64.bits = 1 := by decide
  have e2 : min (63 : Int).toNat IntKind.i64.bits = 63 := by decide
  have hz := zig_lt h
  rw [e1, e2]
  unfold i64 at h
  by_cases hn : n < 0
  · have a : n.fdiv (2 ^ 63) = -1 := by
      rw [Int.fdiv_eq_ediv_of_nonneg _ (by decide)]
      omega
    have b : IntKind.u64.wrap (-1) = ((18446744073709551615 : Nat) : Int) := by rw [wrap_u64_mod]; decide
    have c : IntKind.u64.wrap (IntKind.u64.wrap n * 2 ^ 1) = ((18446744073709551616 + 2 * n).toNat : Int) := by
      rw [wrap_u64_mod, wrap_u64_mod]
      omega
    rw [a, b, c, bits_xor (by omega) (by omega), ones_xor (by omega)]
    have z : zig n = 2 * (-(n + 1)).toNat + 1 := by unfold zig; rw [if_pos hn]
    rw [z]
    omega
  · have a : n.fdiv (2 ^ 63) = 0 := by
      rw [Int.fdiv_eq_ediv_of_nonneg _ (by decide)]
      omega
    have b : IntKind.u64.wrap 0 = ((0 : Nat) : Int) := by rw [wrap_u64_mod]; decide
    have c : IntKind.u64.wrap (IntKind.u64.wrap n * 2 ^ 1) = ((2 * n.toNat : Nat) : Int) := by
      rw [wrap_u64_mod, wrap_u64_mod]
      omega
    rw [a, b, c, bits_xor (by omega) (by omega), Nat.xor_zero]
    have z : zig n = 2 * n.toNat := by unfold zig; rw [if_neg hn]
    rw [z]

/-- .. and back. -/
theorem zag_bits {u : Nat} (h : u < 18446744073709551616) : bits .xor .i64 (IntKind.i64.wrap ((u : Int).fdiv (2 ^ (min (1 : Int).toNat IntKind.u64.bits)))) (IntKind.i64.wrap (0 - IntKind.i64.wrap (bits .and .u64 (u : Int) 1))) = zag u := by
  have e1 : min (1 : Int).toNat IntKind.u64.bits = 1 := by decide
  rw [e1, bits_and1 h]
  have a : (u : Int).fdiv (2 ^ 1) = ((u / 2 : Nat) : Int) := by
    rw [Int.fdiv_eq_ediv_of_nonneg _ (by decide)]
    omega
  have b : IntKind.i64.wrap ((u / 2 : Nat) : Int) = ((u / 2 : Nat) : Int) := wrap64 ⟨by omega, by omega⟩
  have c : IntKind.i64.wrap ((u % 2 : Nat) : Int) = ((u % 2 : Nat) : Int) := wrap64 ⟨by omega, by omega⟩
  rw [a, b, c]
  have key : ∀ y : Nat, y < 18446744073709551616 → bits .xor .i64 ((u / 2 : Nat) : Int) (y : Int) = IntKind.i64.wrap ((u / 2 ^^^ y : Nat) : Int) := by
    intro y hy
    show IntKind.i64.wrap ((BitVec.ofInt 64 ((u / 2 : Nat) : Int) ^^^ BitVec.ofInt 64 (y : Int)).toNat : Int) = _
    rw [BitVec.toNat_xor, ofI, ofI, Nat.mod_eq_of_lt (by omega), Nat.mod_eq_of_lt hy]
  unfold zag
  by_cases hu : u % 2 = 1
  · rw [hu, if_pos rfl]
    have d : IntKind.i64.wrap (0 - ((1 : Nat) : Int)) = -1 := wrap64 ⟨by omega, by omega⟩
    rw [d]
    have k2 : bits .xor .i64 ((u / 2 : Nat) : Int) (-1) = bits .xor .i64 ((u / 2 : Nat) : Int) ((18446744073709551615 : Nat) : Int) := by
      have : BitVec.ofInt 64 (-1) = BitVec.ofInt 64 ((18446744073709551615 : Nat) : Int) := by decide
      show IntKind.i64.wrap ((BitVec.ofInt 64 ((u / 2 : Nat) : Int) ^^^ BitVec.ofInt 64 (-1)).toNat : Int) = _
      rw [this]
      rfl
    rw [k2, key _ (by omega), ones_xor (by omega), wrap_i64_mod]
    split <;> omega
  · have hu0 : u % 2 = 0 := by omega
    rw [hu0, if_neg (by omega)]
    have d : IntKind.i64.wrap (0 - ((0 : Nat) : Int)) = ((0 : Nat) : Int) := wrap64 ⟨by omega, by omega⟩
    rw [d, key _ (by omega), Nat.xor_zero]
    exact b

/-- A byte with more to come. -/
theorem more_bits (n : Nat) : bits .or .u8 (IntKind.u8.wrap (n : Int)) 128 = ((UInt8.ofNat (128 + n % 128)).toNat : Int) := by
  have h : ∀ b : Fin 256, bits .or .u8 (b.val : Int) 128 = ((128 + b.val % 128 : Nat) : Int) := by decide +kernel
  have e : IntKind.u8.wrap (n : Int) = ((n % 256 : Nat) : Int) := by rw [wrap_u8_mod]; omega
  have := h ⟨n % 256, by omega⟩
  simp only at this
  rw [e, this]
  have e2 : (UInt8.ofNat (128 + n % 128)).toNat = 128 + n % 128 := by simp; omega
  rw [e2]
  omega
theorem last_bits {n : Nat} (h : n < 128) : IntKind.u8.wrap (n : Int) = ((UInt8.ofNat n).toNat : Int) := by
  rw [wrap_u8_mod]
  have e2 : (UInt8.ofNat n).toNat = n := by simp; omega
  rw [e2]
  omega
theorem low_bits (b : UInt8) : bits .and .u8 (b.toNat : Int) 127 = ((b.toNat % 128 : Nat) : Int) := by
  have h : ∀ b : Fin 256, bits .and .u8 (b.val : Int) 127 = ((b.val % 128 : Nat) : Int) := by decide +kernel
  exact h ⟨b.toNat, by have := b.toNat_lt; omega⟩
theorem shr7 (n : Nat) : (n : Int).fdiv (2 ^ (min (7 : Int).toNat IntKind.u64.bits)) = ((n / 128 : Nat) : Int) := by
  have e1 : min (7 : Int).toNat IntKind.u64.bits = 7 := by decide
  rw [e1, Int.fdiv_eq_ediv_of_nonneg _ (by decide)]
  omega
theorem more_ref {n : Nat} (h : n < 18446744073709551616) : IntKind.u8.wrap (IntKind.u64.wrap (128 + (n : Int).tmod 128)) = ((UInt8.ofNat (128 + n % 128)).toNat : Int) := by
  have e : (n : Int).tmod 128 = ((n % 128 : Nat) : Int) := by rw [Int.tmod_eq_emod_of_nonneg (by omega)]; omega
  have e2 : (UInt8.ofNat (128 + n % 128)).toNat = 128 + n % 128 := by simp; omega
  rw [e, e2, wrap_u64 (by omega) (by omega), wrap_u8_mod]
  omega
theorem quo_ref {n : Nat} (h : n < 18446744073709551616) : IntKind.u64.wrap ((n : Int).tdiv 128) = ((n / 128 : Nat) : Int) := by
  have e : (n : Int).tdiv 128 = ((n / 128 : Nat) : Int) := by rw [Int.tdiv_eq_ediv_of_nonneg (by omega)]; omega
  rw [e, wrap_u64 (by omega) (by omega)]
/-- Seven bits more. -/
theorem or_bits {n b i : Nat} (hn : n < 2 ^ (7 * i)) (hb : b < 128) (hi : i ≤ 8 ∨ i = 9 ∧ b ≤ 1) :
    bits .or .u64 (n : Int) (IntKind.u64.wrap ((b : Int) * 2 ^ (min (((7 * i : Nat) : Int)).toNat IntKind.u64.bits))) = ((n + b * 2 ^ (7 * i) : Nat) : Int) := by
  have e1 : min (((7 * i : Nat) : Int)).toNat IntKind.u64.bits = 7 * i := by
    have : IntKind.u64.bits = 64 := rfl
    rw [this]
    omega
  rw [e1]
  have hlt : n + b * 2 ^ (7 * i) < 18446744073709551616 := by
    rcases (show i = 0 ∨ i = 1 ∨ i = 2 ∨ i = 3 ∨ i = 4 ∨ i = 5 ∨ i = 6 ∨ i = 7 ∨ i = 8 ∨ i = 9 by omega) with rfl | rfl | rfl | rfl | rfl | rfl | rfl | rfl | rfl | rfl <;> simp at hn ⊢ <;> omega
  have c : ((b : Int) * 2 ^ (7 * i)) = ((b * 2 ^ (7 * i) : Nat) : Int) := by simp
  rw [c, wrap_u64 (by omega) (by omega), bits_or (by omega) (by omega)]
  congr 1
  have := Nat.shiftLeft_add_eq_or_of_lt hn b
  rw [Nat.shiftLeft_eq] at this
  rw [Nat.or_comm, ← this, Nat.add_comm]
end Go.Ax

/- Decoding values. Plain. -/
namespace Go.Ax
open Go
set_option linter.unusedVariables false

/-- What a decoder gives: a value, whether it is one, the reader, the parts that were read. -/
structure DRes where
  val : Val
  ok : Bool
  rd : Rd
  parts : Nat
structure DKids where
  vals : List Val
  ok : Bool
  rd : Rd
  parts : Nat
def dKids (rec : Rd → Nat → DRes) : Nat → List Val → Rd → Nat → DKids
  | 0, acc, x, p => ⟨acc, true, x, p⟩
  | m + 1, acc, x, p => if (rec x p).ok = true then dKids rec m (acc ++ [(rec x p).val]) (rec x p).rd (rec x p).parts else ⟨acc, false, (rec x p).rd, (rec x p).parts⟩
/-- A list's or a constructor's Kids. -/
def dMore (rec : Rd → Nat → DRes) (k : Int) (s : List UInt8) (x : Rd) (p : Nat) : DRes :=
  if (intR x).1 < 0 ∨ 256 < (intR x).1 then ⟨.mk k 0 s [], false, (intR x).2, p⟩
  else ⟨.mk k 0 s (dKids rec (intR x).1.toNat [] (intR x).2 p).vals, (dKids rec (intR x).1.toNat [] (intR x).2 p).ok, (dKids rec (intR x).1.toNat [] (intR x).2 p).rd, (dKids rec (intR x).1.toNat [] (intR x).2 p).parts⟩
def dStep (rec : Rd → Nat → DRes) (x : Rd) (p : Nat) : DRes :=
  if 1024 < p + 1 then ⟨.mk 0 0 [] [], false, x, p + 1⟩
  else if (intR x).1 = 0 then ⟨.mk 0 (intR (intR x).2).1 [] [], true, (intR (intR x).2).2, p + 1⟩
  else if (intR x).1 = 1 then ⟨.mk 1 (if (boolR (intR x).2).1 = true then 1 else 0) [] [], true, (boolR (intR x).2).2, p + 1⟩
  else if (intR x).1 = 2 then dMore rec 2 [] (intR x).2 (p + 1)
  else if (intR x).1 = 3 then dMore rec 3 (textR (intR x).2).1 (textR (intR x).2).2 (p + 1)
  else ⟨.mk (intR x).1 0 [] [], false, (intR x).2, p + 1⟩
def dVal : Nat → Rd → Nat → DRes
  | 0 => fun x p => ⟨.mk 0 0 [] [], false, x, p⟩
  | f + 1 => dStep (dVal f)

/-! ### Lengths, bounds -/
theorem uGo_le : ∀ (l : List UInt8) (i n u : Nat) (t : List UInt8), uGo l i n = .inr (u, t) → t.length ≤ l.length
  | [], i, n, u, t, h => by simp [uGo] at h
  | b :: r, i, n, u, t, h => by
    simp only [uGo] at h
    split at h
    · cases h
    · split at h
      · simp at h; rw [← h.2]; simp
      · have := uGo_le r _ _ u t h; simp; omega
theorem uintR_le (x : Rd) : (uintR x).2.1.length ≤ x.1.length := by
  unfold uintR
  split
  · split
    · simp
    · rename_i u t h; exact uGo_le _ _ _ _ _ h
  · simp
theorem uintR_64 (x : Rd) : (uintR x).1 < 18446744073709551616 := by
  unfold uintR
  split
  · split
    · simp
    · rename_i u t h; exact (uGo0 h).2
  · simp
theorem intR_le (x : Rd) : (intR x).2.1.length ≤ x.1.length := uintR_le x
theorem intR_64 (x : Rd) : i64 (intR x).1 := zag_i64 (uintR_64 x)
theorem boolR_le (x : Rd) : (boolR x).2.1.length ≤ x.1.length := by
  unfold boolR
  split
  · split
    · rename_i h; simp [h]
    · rename_i h
      split
      · simp
      · simp [h]
  · simp
theorem lenR_le' (x : Rd) : (lenR x).2.1.length ≤ x.1.length := by
  have := uintR_le x
  unfold lenR
  split
  · split
    · simpa using this
    · simpa using this
  · simpa using this
theorem textR_le (x : Rd) : (textR x).2.1.length ≤ x.1.length ∧ (textR x).1.length ≤ x.1.length := by
  have := lenR_le' x
  unfold textR
  simp
  omega

/-- What is read is no longer than what there was; the parts that are read are the value's. -/
structure DGood (x : Rd) (p : Nat) (r : DRes) : Prop where
  le : r.rd.1.length ≤ x.1.length
  ok : x.1.length ≤ 1000000000 → okV r.val
  size : r.ok = true → p + sizeV r.val = r.parts
  parts : p ≤ 1024 → r.parts ≤ 1025
  good : r.ok = true → p ≤ 1024 → r.parts ≤ 1024
structure KGood (x : Rd) (p : Nat) (acc : List Val) (m : Nat) (r : DKids) : Prop where
  le : r.rd.1.length ≤ x.1.length
  ok : x.1.length ≤ 1000000000 → okVs acc → okVs r.vals
  len : r.vals.length ≤ acc.length + m
  size : r.ok = true → p + sizeL r.vals = r.parts + sizeL acc
  parts : p ≤ 1024 → r.parts ≤ 1025
  good : r.ok = true → p ≤ 1024 → r.parts ≤ 1024

theorem dKids_good {rec : Rd → Nat → DRes} (hr : ∀ x p, DGood x p (rec x p)) : ∀ (m : Nat) (acc : List Val) (x : Rd) (p : Nat), KGood x p acc m (dKids rec m acc x p)
  | 0, acc, x, p => ⟨by simp [dKids], fun _ h => by simpa [dKids] using h, by simp [dKids], fun _ => by simp [dKids], fun h => by simp [dKids]; omega, fun _ h => by simpa [dKids] using h⟩
  | m + 1, acc, x, p => by
    have h := hr x p
    simp only [dKids]
    split
    · rename_i hok
      have ih := dKids_good hr m (acc ++ [(rec x p).val]) (rec x p).rd (rec x p).parts
      have hs := h.size hok
      refine ⟨by have := ih.le; have := h.le; omega, fun hl ho => ih.ok (by have := h.le; omega) ?_, by have := ih.len; simp at this; omega, fun hk => ?_, fun hp => ih.parts (h.good hok hp), fun hk hp => ih.good hk (h.good hok hp)⟩
      · refine okVs_of fun v hv => ?_
        rcases List.mem_append.1 hv with hv | hv
        · exact okVs_mem ho v hv
        · simp at hv; rw [hv]; exact h.ok hl
      · have := ih.size hk
        rw [sizeL_snoc] at this
        omega
    · rename_i hok
      exact ⟨h.le, fun _ ho => ho, by simp, fun hk => by simp at hk, h.parts, fun hk => by simp at hk⟩

theorem dMore_good {rec : Rd → Nat → DRes} (hr : ∀ x p, DGood x p (rec x p)) (k : Int) (hk : i64 k) (s : List UInt8) (x y : Rd) (p0 : Nat) (hp : p0 + 1 ≤ 1024) (hl0 : x.1.length ≤ y.1.length) (hs : s.length ≤ y.1.length) : DGood y p0 (dMore rec k s x (p0 + 1)) := by
  have h0 : i64 0 := ⟨by omega, by omega⟩
  have hl := intR_le x
  unfold dMore
  split
  · exact ⟨by simp only; omega, fun h => okV_list hk h0 (by omega) (by simp) (by simp [okVs]), fun h => by simp at h, fun _ => by simp only; omega, fun h => by simp at h⟩
  · rename_i hn
    rw [not_or] at hn
    have g := dKids_good hr (intR x).1.toNat [] (intR x).2 (p0 + 1)
    refine ⟨by have := g.le; simp only; omega, fun h => okV_list hk h0 (by omega) ?_ (g.ok (by omega) (by simp [okVs])), fun h => ?_, fun _ => g.parts hp, fun h _ => g.good h hp⟩
    · have := g.len; simp at this; omega
    · have := g.size h; simp [sizeL] at this; simp only [sizeV]; omega

theorem dVal_good : ∀ (f : Nat) (x : Rd) (p : Nat), DGood x p (dVal f x p)
  | 0, x, p => ⟨by simp [dVal], fun _ => okV_leaf ⟨by omega, by omega⟩ ⟨by omega, by omega⟩, fun h => by simp [dVal] at h, fun h => by simp [dVal]; omega, fun h => by simp [dVal] at h⟩
  | f + 1, x, p => by
    have ih := dVal_good f
    have h0 : i64 0 := ⟨by omega, by omega⟩
    have h1 : i64 1 := ⟨by omega, by omega⟩
    have hl := intR_le x
    show DGood x p (dStep (dVal f) x p)
    unfold dStep
    split
    · exact ⟨by simp, fun _ => okV_leaf h0 h0, fun h => by simp at h, fun _ => by simp only; omega, fun h => by simp at h⟩
    · rename_i hp
      split
      · exact ⟨by have := intR_le (intR x).2; simp only; omega, fun _ => okV_leaf h0 (intR_64 _), fun _ => by simp [sizeV, sizeL], fun _ => by simp only; omega, fun _ _ => by simp only; omega⟩
      · split
        · exact ⟨by have := boolR_le (intR x).2; simp only; omega, fun _ => okV_leaf h1 (by split; exact h1; exact h0), fun _ => by simp [sizeV, sizeL], fun _ => by simp only; omega, fun _ _ => by simp only; omega⟩
        · split
          · exact dMore_good ih 2 ⟨by omega, by omega⟩ [] (intR x).2 x p (by omega) hl (by simp)
          · split
            · have t := textR_le (intR x).2
              exact dMore_good ih 3 ⟨by omega, by omega⟩ (textR (intR x).2).1 (textR (intR x).2).2 x p (by omega) (by omega) (by omega)
            · exact ⟨hl, fun _ => okV_leaf (intR_64 x) h0, fun h => by simp at h, fun _ => by simp only; omega, fun h => by simp at h⟩
end Go.Ax

/- What is encoded is decoded, and only that. Plain. -/
namespace Go.Ax
open Go
set_option linter.unusedVariables false

/-! ### There -/
theorem uintR_of {u : Nat} (h : u < 18446744073709551616) (t : List UInt8) : uintR (uvar u ++ t, 0) = (u, (t, 0)) := by
  unfold uintR
  simp only [if_true]
  rw [uGo_of t h]
theorem intR_of {n : Int} (h : i64 n) (t : List UInt8) : intR (encInt n ++ t, 0) = (n, (t, 0)) := by
  unfold intR encInt
  rw [uintR_of (zig_lt h), zag_zig]
theorem textR_of {s : List UInt8} (h : s.length < 18446744073709551616) (t : List UInt8) : textR (uvar s.length ++ s ++ t, 0) = (s, (t, 0)) := by
  have e : lenR (uvar s.length ++ s ++ t, 0) = (s.length, (s ++ t, 0)) := by
    unfold lenR
    rw [List.append_assoc, uintR_of h]
    simp
  unfold textR
  rw [e]
  simp

theorem dKids_of {rec : Rd → Nat → DRes} : ∀ (l acc : List Val) (t : List UInt8) (p : Nat),
    (∀ (i : Nat) (v : Val) (t' : List UInt8), l[i]? = some v → rec (codeV v ++ t', 0) (p + sizeL (l.take i)) = ⟨v, true, (t', 0), p + sizeL (l.take i) + sizeV v⟩) →
    dKids rec l.length acc (codeL l ++ t, 0) p = ⟨acc ++ l, true, (t, 0), p + sizeL l⟩
  | [], acc, t, p, _ => by simp [dKids, codeL, sizeL]
  | v :: r, acc, t, p, h => by
    have h0 := h 0 v (codeL r ++ t) rfl
    simp only [List.take_zero, sizeL, Nat.add_zero] at h0
    simp only [List.length_cons, dKids, codeL, List.append_assoc]
    rw [h0]
    simp only [if_true]
    rw [dKids_of r (acc ++ [v]) t (p + sizeV v) (fun i x t' hi => by
      have := h (i + 1) x t' (by simpa using hi)
      simp only [List.take_succ_cons, sizeL] at this
      rw [show p + sizeV v + sizeL (r.take i) = p + (sizeV v + sizeL (r.take i)) by omega]
      exact this)]
    simp [sizeL]
    omega

theorem fitsL_mem : ∀ {l : List Val}, fitsL l = true → ∀ {v : Val}, v ∈ l → fitsV v = true
  | a :: r, h, v, hv => by
    simp only [fitsL, Bool.and_eq_true] at h
    rcases List.mem_cons.1 hv with rfl | hv
    · exact h.1
    · exact fitsL_mem h.2 hv

theorem dVal_code : ∀ (v : Val) (f p : Nat) (t : List UInt8), okV v → formedV v = true → fitsV v = true → p + sizeV v ≤ 1024 → 1025 ≤ f + p → dVal f (codeV v ++ t, 0) p = ⟨v, true, (t, 0), p + sizeV v⟩
  | .mk k n s kids, f, p, t, ho, hf, hw, hp, hfp => by
    simp only [okV] at ho
    simp only [formedV, Bool.and_eq_true] at hf
    simp only [fitsV, Bool.and_eq_true] at hw
    simp only [sizeV] at hp
    obtain ⟨g, rfl⟩ : ∃ g, f = g + 1 := ⟨f - 1, by omega⟩
    have h1 := hf.1
    have hkl : kids.length ≤ 256 := by have := hw.1; unfold fits1 at this; simp at this; omega
    have hrec : ∀ (q : Nat), p + 1 = q → ∀ (i : Nat) (v : Val) (t' : List UInt8), kids[i]? = some v → dVal g (codeV v ++ t', 0) (q + sizeL (kids.take i)) = ⟨v, true, (t', 0), q + sizeL (kids.take i) + sizeV v⟩ := by
      intro q hq i v t' hi
      have hil := (List.getElem?_eq_some_iff.1 hi).1
      have hm := List.mem_of_getElem? hi
      have hs := sizeL_take (l := kids) (k := i) hil
      have hs2 := sizeL_take_le kids (i + 1)
      have e : kids[i] = v := by rw [List.getElem?_eq_getElem hil] at hi; exact Option.some.inj hi
      rw [e] at hs
      exact dVal_code v g (q + sizeL (kids.take i)) t' (okVs_mem ho.2.2.2.2 v hm) (formedL_in hf.2 hm) (fitsL_mem hw.2 hm) (by omega) (by omega)
    have hmore : ∀ (kk : Int) (ss : List UInt8), dMore (dVal g) kk ss (encInt kids.length ++ (codeL kids ++ t), 0) (p + 1) = ⟨.mk kk 0 ss kids, true, (t, 0), p + (1 + sizeL kids)⟩ := by
      intro kk ss
      have e := dKids_of (rec := dVal g) kids [] t (p + 1) (hrec (p + 1) rfl)
      unfold dMore
      rw [intR_of (i64_nat (by omega))]
      simp only
      rw [if_neg (by omega), Int.toNat_natCast, e]
      simp
      omega
    show dStep (dVal g) _ p = _
    unfold dStep
    rw [if_neg (by omega), codeV, List.append_assoc, intR_of ho.1]
    simp only
    unfold formed1 at h1
    by_cases k0 : k = 0
    · subst k0
      rw [if_pos rfl] at h1 ⊢
      simp only [Bool.and_eq_true, decide_eq_true_eq] at h1
      obtain ⟨rfl, h2⟩ := h1
      obtain rfl : kids = [] := List.length_eq_zero_iff.1 h2
      simp only [if_true]
      rw [intR_of ho.2.1]
      simp [sizeV, sizeL]
    · rw [if_neg k0] at h1
      rw [if_neg k0, if_neg k0]
      by_cases k1 : k = 1
      · subst k1
        rw [if_pos rfl] at h1
        rw [if_pos rfl, if_pos rfl]
        simp only [Bool.and_eq_true, decide_eq_true_eq, Bool.or_eq_true] at h1
        obtain ⟨⟨hn, rfl⟩, h2⟩ := h1
        obtain rfl : kids = [] := List.length_eq_zero_iff.1 h2
        rcases hn with rfl | rfl <;> simp [boolR, sizeV, sizeL]
      · rw [if_neg k1] at h1
        rw [if_neg k1, if_neg k1]
        by_cases k2 : k = 2
        · subst k2
          rw [if_pos rfl] at h1
          simp only [Bool.and_eq_true, decide_eq_true_eq] at h1
          obtain ⟨rfl, rfl⟩ := h1
          rw [if_pos rfl, if_neg (by omega), List.nil_append, List.append_assoc, hmore]
          rfl
        · rw [if_neg k2] at h1
          rw [if_neg k2]
          split at h1
          · rename_i k3
            subst k3
            simp only [Bool.and_eq_true, decide_eq_true_eq] at h1
            obtain ⟨rfl, hc⟩ := h1
            rw [if_pos rfl, if_pos rfl]
            have e : uvar s.length ++ s ++ (encInt kids.length ++ codeL kids) ++ t = uvar s.length ++ s ++ (encInt kids.length ++ (codeL kids ++ t)) := by simp
            rw [e, textR_of (by omega)]
            simp only
            rw [hmore]
            rfl
          · cases h1
termination_by v f p t => SizeOf.sizeOf v
decreasing_by
  have := List.sizeOf_lt_of_mem (List.mem_of_getElem? hi)
  simp
  omega

/-! ### .. and back -/
theorem uintR_ok {x : Rd} (h : (uintR x).2.2 = 0) : x.2 = 0 ∧ x.1 = uvar (uintR x).1 ++ (uintR x).2.1 := by
  unfold uintR at h ⊢
  split at h
  · rename_i h0
    rw [if_pos h0]
    split at h
    · rename_i e he
      rcases uGo_err _ _ _ _ he with rfl | rfl <;> simp at h
    · rename_i u t he
      exact ⟨h0, (uGo0 he).1⟩
  · rename_i h0; exact absurd h h0
theorem intR_ok {x : Rd} (h : (intR x).2.2 = 0) : x.2 = 0 ∧ x.1 = encInt (intR x).1 ++ (intR x).2.1 := by
  have := uintR_ok (x := x) h
  unfold intR encInt
  simp only
  rw [zig_zag]
  exact this
theorem boolR_ok {x : Rd} (h : (boolR x).2.2 = 0) : x.2 = 0 ∧ x.1 = (if (boolR x).1 = true then 1 else 0) :: (boolR x).2.1 := by
  obtain ⟨l, e⟩ := x
  by_cases h0 : e = 0
  · subst h0
    cases l with
    | nil => simp [boolR] at h
    | cons b t =>
      have hb8 : UInt8.ofNat b.toNat = b := by simp
      by_cases hb : 1 < b.toNat
      · simp [boolR, hb] at h
      · have e : boolR (b :: t, 0) = (decide (b.toNat = 1), (t, 0)) := by simp [boolR, hb]
        rw [e]
        refine ⟨rfl, ?_⟩
        simp only [decide_eq_true_eq, List.cons.injEq, and_true]
        split
        · rename_i h1
          rw [h1] at hb8
          exact hb8.symm
        · have h1 : b.toNat = 0 := by omega
          rw [h1] at hb8
          exact hb8.symm
  · simp [boolR, h0] at h
theorem textR_ok {x : Rd} (h : (textR x).2.2 = 0) : x.2 = 0 ∧ x.1 = uvar (textR x).1.length ++ (textR x).1 ++ (textR x).2.1 := by
  unfold textR at h ⊢
  simp only at h ⊢
  have key : x.2 = 0 ∧ x.1 = uvar (lenR x).1 ++ (lenR x).2.1 ∧ (lenR x).1 ≤ (lenR x).2.1.length := by
    unfold lenR at h ⊢
    split at h
    · rename_i hu
      rw [if_pos hu]
      split at h
      · simp at h
      · rename_i hl
        rw [if_neg hl]
        obtain ⟨h1, h2⟩ := uintR_ok hu
        exact ⟨h1, h2, by simp only; omega⟩
    · rename_i hu
      exact absurd h hu
  obtain ⟨h1, h2, h3⟩ := key
  refine ⟨h1, ?_⟩
  rw [List.length_take, Nat.min_eq_left h3, List.append_assoc, List.take_append_drop]
  exact h2

theorem dKids_ok {rec : Rd → Nat → DRes} (hr : ∀ x p, (rec x p).ok = true → (rec x p).rd.2 = 0 → x.2 = 0 ∧ x.1 = codeV (rec x p).val ++ (rec x p).rd.1) : ∀ (m : Nat) (acc : List Val) (x : Rd) (p : Nat), (dKids rec m acc x p).ok = true → (dKids rec m acc x p).rd.2 = 0 →
    x.2 = 0 ∧ ∃ r, (dKids rec m acc x p).vals = acc ++ r ∧ r.length = m ∧ x.1 = codeL r ++ (dKids rec m acc x p).rd.1
  | 0, acc, x, p, _, h => ⟨by simpa [dKids] using h, [], by simp [dKids], rfl, by simp [dKids, codeL]⟩
  | m + 1, acc, x, p, hok, he => by
    simp only [dKids] at hok he ⊢
    split at hok
    · rename_i h0
      rw [if_pos h0] at he ⊢
      obtain ⟨h1, r, h2, h3, h4⟩ := dKids_ok hr m _ _ _ hok he
      obtain ⟨h5, h6⟩ := hr x p h0 h1
      refine ⟨h5, (rec x p).val :: r, by rw [h2]; simp, by simp [h3], ?_⟩
      rw [h6, h4]
      simp [codeL]
    · simp at hok
theorem dMore_ok {rec : Rd → Nat → DRes} (hr : ∀ x p, (rec x p).ok = true → (rec x p).rd.2 = 0 → x.2 = 0 ∧ x.1 = codeV (rec x p).val ++ (rec x p).rd.1) (k : Int) (s : List UInt8) (x : Rd) (p : Nat) (hok : (dMore rec k s x p).ok = true) (he : (dMore rec k s x p).rd.2 = 0) :
    x.2 = 0 ∧ ∃ kids, (dMore rec k s x p).val = .mk k 0 s kids ∧ x.1 = encInt kids.length ++ (codeL kids ++ (dMore rec k s x p).rd.1) := by
  unfold dMore at hok he ⊢
  split at hok
  · simp at hok
  · rename_i hn
    rw [if_neg hn] at he ⊢
    rw [not_or] at hn
    obtain ⟨h1, r, h2, h3, h4⟩ := dKids_ok hr _ _ _ _ hok he
    obtain ⟨h5, h6⟩ := intR_ok h1
    refine ⟨h5, r, by simp only; rw [h2]; rfl, ?_⟩
    rw [h6, h3, ← h4]
    congr 2
    omega
theorem dVal_ok : ∀ (f : Nat) (x : Rd) (p : Nat), (dVal f x p).ok = true → (dVal f x p).rd.2 = 0 → x.2 = 0 ∧ x.1 = codeV (dVal f x p).val ++ (dVal f x p).rd.1
  | 0, x, p, h, _ => by simp [dVal] at h
  | f + 1, x, p, hok, he => by
    have ih := dVal_ok f
    have e : dVal (f + 1) x p = dStep (dVal f) x p := rfl
    rw [e] at hok he ⊢
    unfold dStep at hok he ⊢
    split at hok
    · simp at hok
    · rename_i hp
      rw [if_neg hp] at he ⊢
      split at hok
      · rename_i k0
        rw [if_pos k0] at he ⊢
        obtain ⟨h1, h2⟩ := intR_ok (x := (intR x).2) he
        obtain ⟨h3, h4⟩ := intR_ok h1
        refine ⟨h3, ?_⟩
        rw [codeV, if_pos rfl, List.append_assoc, ← h2]
        rw [k0] at h4
        exact h4
      · rename_i k0
        rw [if_neg k0] at he ⊢
        split at hok
        · rename_i k1
          rw [if_pos k1] at he ⊢
          obtain ⟨h1, h2⟩ := boolR_ok (x := (intR x).2) he
          obtain ⟨h3, h4⟩ := intR_ok h1
          refine ⟨h3, ?_⟩
          rw [codeV, if_neg (by omega), if_pos rfl, List.append_assoc]
          rw [k1] at h4
          rw [h4]
          congr 1
          refine h2.trans ?_
          cases (boolR (intR x).2).1 <;> rfl
        · rename_i k1
          rw [if_neg k1] at he ⊢
          split at hok
          · rename_i k2
            rw [if_pos k2] at he ⊢
            obtain ⟨h1, kids, h2, h3⟩ := dMore_ok ih _ _ _ _ hok he
            obtain ⟨h4, h5⟩ := intR_ok h1
            refine ⟨h4, ?_⟩
            rw [h2, codeV, if_neg (by omega), if_neg (by omega), if_neg (by omega), List.nil_append, List.append_assoc, List.append_assoc, ← h3]
            rw [k2] at h5
            exact h5
          · rename_i k2
            rw [if_neg k2] at he ⊢
            split at hok
            · rename_i k3
              rw [if_pos k3] at he ⊢
              obtain ⟨h1, kids, h2, h3⟩ := dMore_ok ih _ _ _ _ hok he
              obtain ⟨h6, h7⟩ := textR_ok (x := (intR x).2) h1
              obtain ⟨h4, h5⟩ := intR_ok h6
              refine ⟨h4, ?_⟩
              rw [h2, codeV, if_neg (by omega), if_neg (by omega), if_pos rfl]
              rw [k3] at h5
              rw [h5, h7]
              have := h3
              simp only [List.append_assoc]
              rw [← h3]
            · simp at hok

/-- 'Decode'. -/
def decodeR (b : List UInt8) : Val × Int := if (dVal 1025 (b, 0) 0).ok = true ∧ (dVal 1025 (b, 0) 0).rd = ([], 0) ∧ validV (dVal 1025 (b, 0) 0).val = 0 then ((dVal 1025 (b, 0) 0).val, 0) else (.mk 0 0 [] [], 2)
theorem decode_code {v : Val} (ho : okV v) (h : validV v = 0) : decodeR (codeV v) = (v, 0) := by
  obtain ⟨h1, h2, h3⟩ := valid_fits h
  have e := dVal_code v 1025 0 [] ho h1 h2 (by omega) (by omega)
  rw [List.append_nil] at e
  unfold decodeR
  rw [e]
  simp [h]
theorem decode_sound {b : List UInt8} (hb : b.length ≤ 1000000000) (h : (decodeR b).2 = 0) : okV (decodeR b).1 ∧ validV (decodeR b).1 = 0 ∧ codeV (decodeR b).1 = b := by
  unfold decodeR at h ⊢
  split at h
  · rename_i hc
    rw [if_pos hc]
    obtain ⟨h1, h2, h3⟩ := hc
    obtain ⟨_, h4⟩ := dVal_ok 1025 (b, 0) 0 h1 (by rw [h2])
    rw [h2] at h4
    simp at h4
    exact ⟨(dVal_good 1025 (b, 0) 0).ok hb, h3, h4.symm⟩
  · simp at h
theorem decode_bad {b : List UInt8} (h : (decodeR b).2 ≠ 0) : decodeR b = (.mk 0 0 [] [], 2) := by
  unfold decodeR at h ⊢
  split at h
  · simp at h
  · rename_i hc; rw [if_neg hc]
end Go.Ax

/- A contract over several blocks that may give new blocks, used at a call. -/
namespace Go.Ax
open Go
set_option linter.unusedVariables false

/-- The names of the result: old ones as they came, new ones new. -/
def tauOK (σ : List (Nat × Nat)) (ns nx n' : Nat) : List (Nat × Nat) → Bool
  | [] => true
  | (i, id) :: r => (match Nat.blt i ns with
      | true => match lk σ id with
        | some j => Nat.beq j i
        | none => false
      | false => Nat.ble nx id && Nat.blt id n') && tauOK σ ns nx n' r
def keysOr (ids : List Nat) (nx : Nat) : Mem → Bool
  | [] => true
  | (k, _) :: r => (match Nat.ble nx k with
      | true => true
      | false => inL k ids) && keysOr ids nx r

theorem tauOK_sound {σ : List (Nat × Nat)} {ns nx n' : Nat} : ∀ {τ : List (Nat × Nat)}, tauOK σ ns nx n' τ = true → ∀ p ∈ τ, (p.1 < ns ∧ lk σ p.2 = some p.1) ∨ (ns ≤ p.1 ∧ nx ≤ p.2 ∧ p.2 < n')
  | [], _, p, hp => by cases hp
  | (i, id) :: r, h, p, hp => by
    simp only [tauOK, Bool.and_eq_true] at h
    rcases List.mem_cons.1 hp with rfl | hp
    · have h1 := h.1
      split at h1
      · rename_i hb
        split at h1
        · rename_i j hj
          exact .inl ⟨Nat.le_of_ble_eq_true hb, by rw [hj, Nat.eq_of_beq_eq_true h1]⟩
        · cases h1
      · rename_i hb
        simp only [Bool.and_eq_true] at h1
        refine .inr ⟨?_, Nat.le_of_ble_eq_true h1.1, Nat.le_of_ble_eq_true h1.2⟩
        rcases Nat.lt_or_ge i ns with hl | hl
        · have e : Nat.blt i ns = true := Nat.ble_eq_true_of_le hl
          rw [e] at hb; cases hb
        · exact hl
    · exact tauOK_sound h.2 p hp
theorem keysOr_sound : ∀ {m : Mem} {ids : List Nat} {nx : Nat}, keysOr ids nx m = true → ∀ p ∈ m, nx ≤ p.1 ∨ inL p.1 ids = true
  | [], ids, nx, _, p, hp => by cases hp
  | (k, b) :: r, ids, nx, h, p, hp => by
    simp only [keysOr, Bool.and_eq_true] at h
    rcases List.mem_cons.1 hp with rfl | hp
    · have h1 := h.1
      split at h1
      · rename_i hb; exact .inl (Nat.le_of_ble_eq_true hb)
      · exact .inr h1
    · exact keysOr_sound h.2 p hp

/-- A contract over some blocks that gives blocks, old ones or new ones. -/
theorem ACalls.useN {P : Program} {Γ : List (Nat × AV)} {F : FuncId} {args args' : List AV} {ms mem m1 : Mem} {ns nx : Nat} {Qs K : AV → Mem → Nat → Prop} (hΓ : ∀ p ∈ Γ, NN p.2) (σ : List (Nat × Nat)) (h : ACalls P Γ F args' ms ns Qs)
    (hp : pickM (keysS σ) mem = m1) (hargs : CvL m1 σ args args') (hM : MemConv m1 σ ms) (hc : (nodM ms && (nod2 σ && valsLt ns σ)) = true)
    (hk : ∀ r m n, Qs r m n → ∃ τ r' m' n', Cv m τ r r' ∧ MemConv m τ m' ∧ (nodM m' && (nod2 τ && (Nat.ble nx n' && (keysOr (keysS σ) nx m' && tauOK σ ns nx n' τ)))) = true ∧ K r' (m' ++ dropM (keysS σ) mem) n') : ACalls P Γ F args mem nx K := by
  simp only [Bool.and_eq_true] at hc
  obtain ⟨hc1, hc2, hc4⟩ := hc
  refine ⟨fun X D ρ w vs hD hm hv => ?_⟩
  refine (ACalls.use (K := K) (nx := nx) hΓ h σ (m1 := m1) (rest := dropM (keysS σ) mem) ⟨fun p hp' => ?_, fun p hp' => (dropM_mem.1 hp').1, fun p hp' => ?_, fun p h1 q h2 => ?_, ?_⟩ ?_ hargs hM.cvm (nodM_sound hc1) (inj_of hc2) (fun id i hl => valsLt_sound hc4 _ (lk_mem hl)) ?_).run X D ρ w vs hD hm hv
  · rw [← hp] at hp'; exact (pickM_mem.1 hp').1
  · cases hi : inL p.1 (keysS σ) with
    | true => left; rw [← hp]; exact pickM_mem.2 ⟨hp', hi⟩
    | false => right; exact dropM_mem.2 ⟨hp', hi⟩
  · rw [← hp] at h1
    have a := (pickM_mem.1 h1).2
    have b := (dropM_mem.1 h2).2
    intro e
    rw [e, b] at a
    cases a
  · rw [← hp]; exact hm.nod.sublist ((pickM_sub mem).map _)
  · exact hm.nod.sublist ((dropM_sub mem).map _)
  · intro r m n hq hn
    obtain ⟨τ, r', m', n', h1, h2, h3, h4⟩ := hk r m n hq
    simp only [Bool.and_eq_true] at h3
    refine ⟨τ, r', m', n', Nat.le_of_ble_eq_true h3.2.2.1, h1, h2.cvm, nodM_sound h3.1, inj_of h3.2.1, fun i id hl => tauOK_sound h3.2.2.2.2 _ (lk_mem hl), fun p h5 q h6 => ?_, h4⟩
    have b := (dropM_mem.1 h6).2
    rcases keysOr_sound h3.2.2.2.1 p h5 with a | a
    · have := hD _ (hm.low q (dropM_mem.1 h6).1)
      omega
    · intro e
      rw [e, b] at a
      cases a

/-- A contract that makes a row out of immutable things, used at a call. -/
theorem ACalls.useNw {P : Program} {Γ : List (Nat × AV)} {F : FuncId} {args : List AV} {mem : Mem} {nx : Nat} {t : TypeId} {sz len : Nat} {ys : List AV} {K : AV → Mem → Nat → Prop} (hΓ : ∀ p ∈ Γ, NN p.2)
    (h : ACalls P Γ F args [] 0 fun r m n => r = .sl 0 0 len ∧ m = [(0, .row t sz ys)] ∧ n = 1) (ha : NNs args) (hn : NNs ys) (hk : K (.sl nx 0 len) ((nx, .row t sz ys) :: mem) (nx + 1)) : ACalls P Γ F args mem nx K := by
  refine ⟨fun X D ρ w vs hD hm hv => ?_⟩
  refine (ACalls.use (K := K) (nx := nx) hΓ h [] (m1 := []) (rest := mem) ⟨(fun p hp => by cases hp), fun p hp => hp, fun p hp => .inr hp, (fun p hp => by cases hp), by simp⟩ hm.nod (cvl_same ha) (fun p hp => by cases hp) (by simp) (fun i j k h => by simp [lk] at h) (fun id i h => by simp [lk] at h) ?_).run X D ρ w vs hD hm hv
  rintro r m n ⟨rfl, rfl, rfl⟩ _
  refine ⟨[(0, nx)], .sl nx 0 len, [(nx, .row t sz ys)], nx + 1, Nat.le_succ _, .sl 0 nx 0 len (by simp [lk]), fun p hp => ?_, by simp, inj_of (by rfl), fun i id hl => ?_, fun p hp q hq => ?_, hk⟩
  · simp at hp
    subst hp
    exact ⟨0, t, sz, ys, ys, rfl, by simp [lk], by simp [lk], .same hn⟩
  · have := lk_mem hl
    simp at this
    obtain ⟨rfl, rfl⟩ := this
    exact .inr ⟨Nat.zero_le _, Nat.le_refl _, Nat.lt_succ_self _⟩
  · simp at hp
    subst hp
    have := hD _ (hm.low q hq)
    simp only
    omega

/-- A name for an empty slice, before a call. -/
theorem ACalls.ph {P : Program} {Γ : List (Nat × AV)} {F : FuncId} {args : List AV} {mem : Mem} {nx : Nat} {K : AV → Mem → Nat → Prop} (t : TypeId) (sz : Nat) (h : ACalls P Γ F args ((nx, .row t sz []) :: mem) (nx + 1) K) : ACalls P Γ F args mem nx K := by
  refine ⟨fun X D ρ w vs hD hm hv => ?_⟩
  obtain ⟨m1, v1, e1⟩ := hm.phantom (n := nx) (D' := dn D nx (nx + 1)) (fun h' => Nat.lt_irrefl _ (hD _ h')) (fun i hi => .inl hi) (.inr ⟨Nat.le_refl _, Nat.lt_succ_self _⟩) t sz
  refine (h.run X _ _ w vs (fun i hi => ?_) m1 ⟨hv.1, fun j c x hc hx => v1 _ _ (hv.2 j c x hc hx)⟩).mono ?_
  · rcases hi with hi | hi
    · have := hD i hi; omega
    · exact hi.2
  · rintro e w' ⟨r, v, m, n, ρ', rfl, hk, hn, hm', hr, ext⟩
    have ed : dn (dn D nx (nx + 1)) (nx + 1) n = dn D nx n := by
      funext i
      apply propext
      constructor
      · rintro ((hi | ⟨h1, h2⟩) | ⟨h1, h2⟩)
        · exact .inl hi
        · exact .inr ⟨h1, by omega⟩
        · exact .inr ⟨by omega, h2⟩
      · rintro (hi | ⟨h1, h2⟩)
        · exact .inl (.inl hi)
        · rcases Nat.lt_or_ge i (nx + 1) with h3 | h3
          · exact .inl (.inr ⟨h1, h3⟩)
          · exact .inr ⟨h3, h2⟩
    rw [ed] at hm' hr ext
    refine ⟨r, v, m, n, ρ', rfl, hk, by omega, hm', hr, ?_⟩
    have e2 := e1 D fun i hi => hi
    exact e2.trans ⟨fun i hi => ext.le i (.inl hi), fun i hi => ext.agree i (.inl hi), ext.size, ext.keep, ext.fresh, ext.env⟩
end Go.Ax
