/- A part of the proof. -/
import Derived.Test.YtelmpofoeinfoaaGreatDoorAx5
set_option linter.unusedVariables false
namespace Go.Ax
open Go
def fCopy (cl : Bool) (P : Program) (mem : Mem) (t : TypeId) (x y : AV) (K : AV → Mem → Prop) : Prop :=
 match P.underlying t with
 | some (.slice e) => match tsize P e with
  | some n => match x with
   | .sl id 0 len => match lk mem id with
    | some (.row t' sz' xs) => fSrc cl mem n y fun ys => grd (Nat.blt 0 n && (Nat.beq sz' n && (Nat.ble ys.length len && Nat.ble len xs.length)))
      (fList cl (xs.drop ys.length) fun zs => fApp cl ys zs fun zs => fNat cl ys.length fun l => upK mem id (.row t' sz' zs) fun m => K (.int .i64 l) m)
    | _ => False
   | _ => False
  | none => False
 | _ => False
theorem fCopy_a {cl : Bool} {P : Program} {mem : Mem} {t : TypeId} {x y : AV} {K : AV → Mem → Prop} (h : fCopy cl P mem t x y K) : ∃ v m, aCopy P mem t x y = some (v, m) ∧ K v m := by
 unfold fCopy at h
 unfold aCopy
 split at h
 ·rename_i e hu
  simp only [hu]
  split at h
  ·rename_i n hn
   simp only [hn]
   split at h
   ·split at h
    ·rename_i hid
     obtain ⟨ys, h4, h⟩ := fSrc_a h
     obtain ⟨h5, h⟩ := grd_iff.1 h
     rw [Bool.and_eq_true] at h5
     exact ⟨_, _, by simp only [h5.1, hid, h4, h5.2], upK_iff.1 (fNat_iff.1 (fApp_iff.1 (fList_iff.1 h)))⟩
    ·exact h.elim
   ·exact h.elim
  ·exact h.elim
 ·exact h.elim
def fClear (P : Program) (mem : Mem) (t : TypeId) (x : AV) (K : Mem → Prop) : Prop :=
 match P.underlying t with
 | some (.slice e) => match zeroAV P e with
  | some z => match x with
   | .sl id off len => match lk mem id with
    | some (.row t' sz xs) => grd (okVal z && (Nat.beq z.cells.length sz && (Nat.blt 0 sz && (Nat.blt 0 len && Nat.ble (off + len) xs.length))))
      (upK mem id (.row t' sz (xs.take off ++ (List.replicate len z ++ xs.drop (off + len)))) fun m => K m)
    | _ => False
   | _ => False
  | none => False
 | _ => False
theorem fClear_a {P : Program} {mem : Mem} {t : TypeId} {x : AV} {K : Mem → Prop} (h : fClear P mem t x K) : ∃ m, aClear P mem t x = some m ∧ K m := by
 unfold fClear at h
 unfold aClear
 split at h
 ·rename_i e hu
  simp only [hu]
  split at h
  ·rename_i z hz
   simp only [hz]
   split at h
   ·split at h
    ·rename_i hid
     obtain ⟨h5, h⟩ := grd_iff.1 h
     exact ⟨_, by simp only [hid, h5], upK_iff.1 h⟩
    ·exact h.elim
   ·exact h.elim
  ·exact h.elim
 ·exact h.elim
def fBuiltin (cl : Bool) (P : Program) (Γ : List (Nat × AV)) (sl : List (Nat × AV)) (mem : Mem) (nx : Nat) (b : Builtin) (args : List Operand) (ts : List TypeId) (K : AV → Mem → Nat → Prop) : Prop :=
 match b with
 | .len => match args, ts with
  | [x], [t] => fev Γ sl x fun a => opt (aLen P mem t a) fun v => match v with
   | .int k n => fInt cl k n fun v => K v mem nx
   | _ => False
  | _, _ => False
 | .append => match args, ts with
  | [x, y], [t, u] => fev Γ sl x fun a => fev Γ sl y fun b => fAppend cl P mem nx t u a b K
  | _, _ => False
 | .min => fevs Γ sl args fun l => match l with
  | .int k x :: r => opt (aMin x r) fun m => fInt cl k m fun v => K v mem nx
  | _ => False
 | .max => fevs Γ sl args fun l => match l with
  | .int k x :: r => opt (aMax x r) fun m => fInt cl k m fun v => K v mem nx
  | _ => False
 | .unsafeSliceData => match args, ts with
  | [x], [_] => fev Γ sl x fun a => opt (aSliceData a) fun v => K v mem nx
  | _, _ => False
 | .unsafeString => match args, ts with
  | [x, y], [t, _] => fev Γ sl x fun a => fev Γ sl y fun b => match aUString P mem t a b with
   | some (.str l, m) => fList cl l fun l => forceK m fun m => K (.str l) m nx
   | _ => False
  | _, _ => False
 | .copy => match args, ts with
  | [x, y], [t, _] => fev Γ sl x fun a => fev Γ sl y fun b => fCopy cl P mem t a b fun v m => K v m nx
  | _, _ => False
 | .clear => match args, ts with
  | [x], [t] => fev Γ sl x fun a => fClear P mem t a fun m => K (.tup []) m nx
  | _, _ => False
 | _ => False
theorem fBuiltin_a {cl : Bool} {P : Program} {Γ : List (Nat × AV)} {s : St} {b : Builtin} {args : List Operand} {ts : List TypeId} {K : AV → Mem → Nat → Prop} (h : fBuiltin cl P Γ s.sl s.mem s.nx b args ts K) :
  ∃ v m n, aBuiltin P Γ s b args ts = some (v, m, n) ∧ K v m n := by
 unfold fBuiltin at h
 split at h
 ·split at h
  ·obtain ⟨a, h1, h⟩ := fev_ev h
   obtain ⟨v, h2, h⟩ := opt_iff.1 h
   split at h
   ·exact ⟨_, _, _, by simp only [aBuiltin, h1, h2, pureRes], fInt_iff.1 h⟩
   ·exact h.elim
  ·exact h.elim
 ·split at h
  ·obtain ⟨a, h1, h⟩ := fev_ev h
   obtain ⟨b, h2, h⟩ := fev_ev h
   obtain ⟨v, m, n, h3, h⟩ := fAppend_a h
   exact ⟨_, _, _, by simp only [aBuiltin, h1, h2]; exact h3, h⟩
  ·exact h.elim
 ·obtain ⟨l, h1, h⟩ := fevs_evs h
  split at h
  ·obtain ⟨m, h2, h⟩ := opt_iff.1 h
   exact ⟨_, _, _, by simp only [aBuiltin, h1, h2], fInt_iff.1 h⟩
  ·exact h.elim
 ·obtain ⟨l, h1, h⟩ := fevs_evs h
  split at h
  ·obtain ⟨m, h2, h⟩ := opt_iff.1 h
   exact ⟨_, _, _, by simp only [aBuiltin, h1, h2], fInt_iff.1 h⟩
  ·exact h.elim
 ·split at h
  ·obtain ⟨a, h1, h⟩ := fev_ev h
   obtain ⟨v, h2, h⟩ := opt_iff.1 h
   exact ⟨_, _, _, by simp only [aBuiltin, h1, h2, pureRes], h⟩
  ·exact h.elim
 ·split at h
  ·obtain ⟨a, h1, h⟩ := fev_ev h
   obtain ⟨b, h2, h⟩ := fev_ev h
   split at h
   ·rename_i l m h3
    exact ⟨_, _, _, by simp only [aBuiltin, h1, h2, h3], forceK_iff.1 (fList_iff.1 h)⟩
   ·exact h.elim
  ·exact h.elim
 ·split at h
  ·obtain ⟨a, h1, h⟩ := fev_ev h
   obtain ⟨b, h2, h⟩ := fev_ev h
   obtain ⟨v, m, h3, h⟩ := fCopy_a h
   exact ⟨_, _, _, by simp only [aBuiltin, h1, h2, h3], h⟩
  ·exact h.elim
 ·split at h
  ·obtain ⟨a, h1, h⟩ := fev_ev h
   obtain ⟨m, h3, h⟩ := fClear_a h
   exact ⟨_, _, _, by simp only [aBuiltin, h1, h3], h⟩
  ·exact h.elim
 ·exact h.elim
def fStep (cl : Bool) (P : Program) (Γ : List (Nat × AV)) (sl : List (Nat × AV)) (mem : Mem) (nx : Nat) (op : Op) (K : AV → Mem → Nat → Prop) : Prop :=
 match op with
 | .move x => fev Γ sl x fun v => K v mem nx
 | .assign x => fev Γ sl x fun v => K v mem nx
 | .pick c a b => fev Γ sl c fun c => match c with
  | .bool c => bcs c (fev Γ sl a fun v => K v mem nx) (fev Γ sl b fun v => K v mem nx)
  | _ => False
 | .alloc t => fAlloc P mem nx t K
 | .box t x => fev Γ sl x fun v => fBox P mem nx t v K
 | .build t parts => fevParts Γ sl parts.toList fun ps => fBuild P t ps fun v => K v mem nx
 | .buildSlice t len parts => fevParts Γ sl parts.toList fun ps => fBuildSlice P mem nx t len ps K
 | .load t x => fev Γ sl x fun p => fLoad P mem t p fun v => K v mem nx
 | .store t x y => fev Γ sl x fun p => fev Γ sl y fun v => fStore P mem t p v fun m => K (.tup []) m nx
 | .nilCheck x => fev Γ sl x fun p => opt (aNil p) fun v => K v mem nx
 | .binOp op t x y _ => fev Γ sl x fun a => fev Γ sl y fun b => fBin cl P op t x y a b fun v => K v mem nx
 | .unOp op _ x => fev Γ sl x fun a => fUn cl op a fun v => K v mem nx
 | .convert src dst x => fev Γ sl x fun a => match P.underlying dst with
  | some (.slice _) => fStrBytes cl P mem nx src dst a K
  | _ => fConv cl P mem src dst a fun v => K v mem nx
 | .makeInterface t x => fev Γ sl x fun a => opt (aIface P t a) fun v => K v mem nx
 | .makeFunc fn first cap => fevs Γ sl first.toList fun l1 => fevs Γ sl cap.toList fun l2 => K (.fn fn l1 l2) mem nx
 | .makeSlice t l c => fev Γ sl l fun a => fev Γ sl c fun b => fMake cl P mem nx t a b K
 | .slice t x lo hi mx => fev Γ sl x fun a => fevOpt Γ sl lo fun l => fevOpt Γ sl hi fun h => fevOpt Γ sl mx fun m => match !m.isSome || h.isSome with
  | true => fSlice cl P mem t a l h m fun v => K v mem nx
  | false => False
 | .fieldAddr t x f => fev Γ sl x fun p => fFieldAddr P t f p fun v => K v mem nx
 | .field t x f => fev Γ sl x fun p => fField P t f p fun v => K v mem nx
 | .indexAddr t x ix => fev Γ sl x fun p => fev Γ sl ix fun i => fIndexAddr cl P mem t p i fun v => K v mem nx
 | .index t x ix => fev Γ sl x fun p => fev Γ sl ix fun i => fIndex cl P t p i fun v => K v mem nx
 | .extract x i => fev Γ sl x fun p => opt (aExtract p i) fun v => K v mem nx
 | .typeAssert x _ t ok => fev Γ sl x fun p => opt (aAssert P t ok p) fun v => K v mem nx
 | .makeMap _ reserve => match reserve with
  | none => natK (nx + 1) fun n => K (.mp nx) ((nx, .mapb []) :: mem) n
  | some _ => False
 | .lookup t x ix ok => fev Γ sl x fun p => fev Γ sl ix fun i => opt (aLookup P mem t p i ok) fun v => K v mem nx
 | .mapUpdate t x y z => fev Γ sl x fun p => fev Γ sl y fun k => fev Γ sl z fun v => fMapUpdate P mem t p k v fun m => K (.tup []) m nx
 | .insert t x y z => fev Γ sl x fun p => fev Γ sl y fun k => fev Γ sl z fun v => fMapUpdate P mem t p k v fun m => K (.tup []) m nx
 | .call c => match c.callee with
  | .builtin b => fBuiltin cl P Γ sl mem nx b c.args.toList c.argTypes.toList K
  | _ => False
 | _ => False
theorem fStep_a {cl : Bool} {P : Program} {Γ : List (Nat × AV)} {s : St} {op : Op} {K : AV → Mem → Nat → Prop} (h : fStep cl P Γ s.sl s.mem s.nx op K) : ∃ v m n, aStep P Γ s op = some (v, m, n) ∧ K v m n := by
 cases op <;> simp only [fStep] at h <;> simp only [aStep] <;> first | exact h.elim | skip
 case move x =>
  obtain ⟨v, h1, h⟩ := fev_ev h
  exact ⟨_, _, _, by simp only [h1, pureRes], h⟩
 case assign x =>
  obtain ⟨v, h1, h⟩ := fev_ev h
  exact ⟨_, _, _, by simp only [h1, pureRes], h⟩
 case pick c x y =>
  obtain ⟨v, h1, h⟩ := fev_ev h
  split at h
  ·rename_i b
   cases b
   ·obtain ⟨v, h2, h⟩ := fev_ev (show fev Γ s.sl y _ from h)
    exact ⟨_, _, _, by simp only [h1, h2, pureRes], h⟩
   ·obtain ⟨v, h2, h⟩ := fev_ev (show fev Γ s.sl x _ from h)
    exact ⟨_, _, _, by simp only [h1, h2, pureRes], h⟩
  ·exact h.elim
 case alloc t => exact fAlloc_a h
 case box t x =>
  obtain ⟨v, h1, h⟩ := fev_ev h
  simp only [h1]
  exact fBox_a h
 case build t parts =>
  obtain ⟨v, h1, h⟩ := fevParts_ev h
  obtain ⟨v, h2, h⟩ := fBuild_a h
  exact ⟨_, _, _, by simp only [h1, h2, pureRes], h⟩
 case buildSlice t len parts =>
  obtain ⟨v, h1, h⟩ := fevParts_ev h
  simp only [h1]
  exact fBuildSlice_a h
 case load t x =>
  obtain ⟨v, h1, h⟩ := fev_ev h
  obtain ⟨v, h2, h⟩ := fLoad_a h
  exact ⟨_, _, _, by simp only [h1, h2, pureRes], h⟩
 case store t x y =>
  obtain ⟨v, h1, h⟩ := fev_ev h
  obtain ⟨u, h2, h⟩ := fev_ev h
  obtain ⟨m, h3, h⟩ := fStore_a h
  exact ⟨_, _, _, by simp only [h1, h2, h3], h⟩
 case nilCheck x =>
  obtain ⟨v, h1, h⟩ := fev_ev h
  obtain ⟨v, h2, h⟩ := opt_iff.1 h
  exact ⟨_, _, _, by simp only [h1, h2, pureRes], h⟩
 case binOp op t x y t' =>
  obtain ⟨v, h1, h⟩ := fev_ev h
  obtain ⟨u, h2, h⟩ := fev_ev h
  obtain ⟨m, h3, h⟩ := fBin_a h
  exact ⟨_, _, _, by simp only [h1, h2, h3, pureRes], h⟩
 case unOp op t x =>
  obtain ⟨v, h1, h⟩ := fev_ev h
  obtain ⟨v, h2, h⟩ := fUn_a h
  exact ⟨_, _, _, by simp only [h1, h2, pureRes], h⟩
 case convert src dst x =>
  obtain ⟨v, h1, h⟩ := fev_ev h
  simp only [h1]
  split at h
  ·rename_i e hu
   have hn : aConv P s.mem src dst v = none := by
    unfold aConv
    split
    ·rfl
    ·rw [hu]
   rw [hn]
   exact fStrBytes_a h
  ·obtain ⟨u, h2, h⟩ := fConv_a h
   exact ⟨_, _, _, by simp only [h2], h⟩
 case makeInterface t x =>
  obtain ⟨v, h1, h⟩ := fev_ev h
  obtain ⟨v, h2, h⟩ := opt_iff.1 h
  exact ⟨_, _, _, by simp only [h1, h2, pureRes], h⟩
 case makeFunc fn first cap =>
  obtain ⟨v, h1, h⟩ := fevs_evs h
  obtain ⟨v, h2, h⟩ := fevs_evs h
  exact ⟨_, _, _, by simp only [h1, h2], h⟩
 case makeSlice t l c =>
  obtain ⟨v, h1, h⟩ := fev_ev h
  obtain ⟨u, h2, h⟩ := fev_ev h
  simp only [h1, h2]
  exact fMake_a h
 case slice t x lo hi mx =>
  obtain ⟨v, h1, h⟩ := fev_ev h
  obtain ⟨l, h2, h⟩ := fevOpt_ev h
  obtain ⟨h', h3, h⟩ := fevOpt_ev h
  obtain ⟨m, h4, h⟩ := fevOpt_ev h
  simp only [h1, h2, h3, h4]
  split at h
  ·rename_i e
   obtain ⟨u, h5, h⟩ := fSlice_a h
   exact ⟨_, _, _, by simp only [e, h5, pureRes], h⟩
  ·exact h.elim
 case fieldAddr t x f =>
  obtain ⟨v, h1, h⟩ := fev_ev h
  obtain ⟨v, h2, h⟩ := fFieldAddr_a h
  exact ⟨_, _, _, by simp only [h1, h2, pureRes], h⟩
 case field t x f =>
  obtain ⟨v, h1, h⟩ := fev_ev h
  obtain ⟨v, h2, h⟩ := fField_a h
  exact ⟨_, _, _, by simp only [h1, h2, pureRes], h⟩
 case indexAddr t x ix =>
  obtain ⟨v, h1, h⟩ := fev_ev h
  obtain ⟨u, h2, h⟩ := fev_ev h
  obtain ⟨m, h3, h⟩ := fIndexAddr_a h
  exact ⟨_, _, _, by simp only [h1, h2, h3, pureRes], h⟩
 case index t x ix =>
  obtain ⟨v, h1, h⟩ := fev_ev h
  obtain ⟨u, h2, h⟩ := fev_ev h
  obtain ⟨m, h3, h⟩ := fIndex_a h
  exact ⟨_, _, _, by simp only [h1, h2, h3, pureRes], h⟩
 case typeAssert x xt t ok =>
  obtain ⟨p, h1, h⟩ := fev_ev h
  obtain ⟨v, h2, h⟩ := opt_iff.1 h
  exact ⟨_, _, _, by simp only [h1, h2, pureRes], h⟩
 case extract x i =>
  obtain ⟨v, h1, h⟩ := fev_ev h
  obtain ⟨v, h2, h⟩ := opt_iff.1 h
  exact ⟨_, _, _, by simp only [h1, h2, pureRes], h⟩
 case makeMap t r =>
  split at h
  ·exact ⟨_, _, _, rfl, natK_iff.1 h⟩
  ·exact h.elim
 case lookup t x ix ok =>
  obtain ⟨v, h1, h⟩ := fev_ev h
  obtain ⟨u, h2, h⟩ := fev_ev h
  obtain ⟨m, h3, h⟩ := opt_iff.1 h
  exact ⟨_, _, _, by simp only [h1, h2, h3, pureRes], h⟩
 case mapUpdate t x y z =>
  obtain ⟨v, h1, h⟩ := fev_ev h
  obtain ⟨u, h2, h⟩ := fev_ev h
  obtain ⟨u', h3, h⟩ := fev_ev h
  obtain ⟨m, h4, h⟩ := fMapUpdate_a h
  exact ⟨_, _, _, by simp only [h1, h2, h3, h4], h⟩
 case insert t x y z =>
  obtain ⟨v, h1, h⟩ := fev_ev h
  obtain ⟨u, h2, h⟩ := fev_ev h
  obtain ⟨u', h3, h⟩ := fev_ev h
  obtain ⟨m, h4, h⟩ := fMapUpdate_a h
  exact ⟨_, _, _, by simp only [h1, h2, h3, h4], h⟩
 case call c =>
  split at h
  ·rename_i hb
   simp only [hb]
   exact fBuiltin_a h
  ·exact h.elim
def stK (s : St) (K : List (Nat × AV) → Mem → Nat → Nat → Prop) : Prop :=
 match s with
 | ⟨sl, mem, nx, nt⟩ => K sl mem nx nt
theorem stK_iff {s : St} {K : List (Nat × AV) → Mem → Nat → Nat → Prop} : stK s K ↔ K s.sl s.mem s.nx s.nt := Iff.rfl
def fPut (s : St) (d : Option Nat) (v : AV) (mem : Mem) (nx : Nat) (K : St → Prop) : Prop :=
 stK s fun sl _ _ nt => match d with
  | none => K ⟨sl, mem, nx, nt⟩
  | some d => grd (Nat.blt d nt) (upK sl d v fun sl => K ⟨sl, mem, nx, nt⟩)
theorem fPut_a {s : St} {d : Option Nat} {v : AV} {mem : Mem} {nx : Nat} {K : St → Prop} (h : fPut s d v mem nx K) : ∃ s', stepSt s d v mem nx = some s' ∧ K s' := by
 cases d with
 | none => exact ⟨_, rfl, h⟩
 | some d =>
  obtain ⟨h1, h⟩ := grd_iff.1 h
  exact ⟨_, by simp only [stepSt, h1], upK_iff.1 h⟩
def fWant (ops : List Oper) (sl : List (Nat × AV)) (g : Option (Nat × Bool)) (yes no : Prop) : Prop :=
 match g with
 | none => yes
 | some (j, want) => match ops[j]? with
  | none => no
  | some o => match o.dst with
   | none => no
   | some d => match lk sl d with
    | some (.bool b) => match want with
     | true => bcs b yes no
     | false => bcs b no yes
    | some (.tup []) => no
    | _ => False
theorem fWant_a {ops : List Oper} {s : St} {g : Option (Nat × Bool)} {yes no : Prop} (h : fWant ops s.sl g yes no) : (aWant ops s g = some true ∧ yes) ∨ (aWant ops s g = some false ∧ no) := by
 unfold fWant at h
 unfold aWant
 split at h
 ·exact .inl ⟨rfl, h⟩
 ·split at h
  ·rename_i e; exact .inr ⟨by simp only [e], h⟩
  ·rename_i e
   simp only [e]
   split at h
   ·rename_i e; exact .inr ⟨by simp only [e], h⟩
   ·rename_i e
    simp only [e]
    split at h
    ·rename_i b e
     simp only [e]
     split at h
     ·cases b
      ·exact .inr ⟨rfl, h⟩
      ·exact .inl ⟨rfl, h⟩
     ·cases b
      ·exact .inl ⟨rfl, h⟩
      ·exact .inr ⟨rfl, h⟩
    ·rename_i e; exact .inr ⟨by simp only [e], h⟩
    ·exact h.elim
def fCall (P : Program) (Γ : List (Nat × AV)) (sl : List (Nat × AV)) (f : Operand) (args : List Operand) (E : AV → Prop) (K : FuncId → List AV → Prop) : Prop :=
 fev Γ sl f fun v => match v with
  | .fn (.func F) first cap => fevs Γ sl args fun as => match P.funcs[F]? with
   | some fn => match fn.body with
    | some _ => match fn.name == "runtime.NumGoroutine" with
     | false => match Nat.beq F YF with
      | false => appK first as fun l => appK l cap fun l => K F l
      | true => False
     | true => False
    | none => match isNoEsc fn with
     | true => match first with
      | [] => match cap with
       | [] => match as with
        | [v] => E v
        | _ => False
       | _ => False
      | _ => False
     | false => False
   | none => False
  | .yld id => fevs Γ sl args fun as => K YF (.yld id :: as)
  | _ => False
theorem fCall_a {P : Program} {Γ : List (Nat × AV)} {s : St} {c : Call} {f : Operand} (hc : c.callee = .value f) {E : AV → Prop} {K : FuncId → List AV → Prop} (h : fCall P Γ s.sl f c.args.toList E K) :
  (∃ v, aStep P Γ s (.call c) = some (v, s.mem, s.nx) ∧ E v) ∨ (aStep P Γ s (.call c) = none ∧ ∃ F l, aCall P Γ s (.call c) = some (F, l) ∧ K F l) := by
 unfold fCall at h
 obtain ⟨v, h1, h⟩ := fev_ev h
 split at h
 ·rename_i F first cap
  obtain ⟨as, h2, h⟩ := fevs_evs h
  split at h
  ·rename_i fn h3
   split at h
   ·rename_i body h4
    split at h
    ·rename_i h5
     split at h
     ·rename_i h6
      refine .inr ⟨?_, _, _, by simp only [aCall, hc, h1, h2, h3, h4, h5, h6], appK_iff.1 (appK_iff.1 h)⟩
      simp only [aStep, hc, aExt, h1]
      cases first <;> cases cap <;> simp only [h3, h4]
     ·exact h.elim
    ·exact h.elim
   ·rename_i h4
    split at h
    ·rename_i h5
     split at h
     ·split at h
      ·split at h
       ·exact .inl ⟨_, by simp only [aStep, hc, aExt, h1, h2, h3, h4, h5], h⟩
       ·exact h.elim
      ·exact h.elim
     ·exact h.elim
    ·exact h.elim
  ·exact h.elim
 ·rename_i id
  obtain ⟨as, h2, h⟩ := fevs_evs h
  exact .inr ⟨by simp only [aStep, hc, aExt, h1], _, _, by simp only [aCall, hc, h1, h2], h⟩
 ·exact h.elim
def fEff (cl : Bool) (P : Program) (Γ : List (Nat × AV)) (H : Hk) (sl : List (Nat × AV)) (mem : Mem) (nx : Nat) (op : Op) (K : AV → Mem → Nat → Prop) (Kp : Value → Mem → Nat → Prop) : Prop :=
 match op with
 | .call c => match c.callee with
  | .value f => fCall P Γ sl f c.args.toList (fun v => K v mem nx) fun F l => H.call F l mem nx K Kp
  | _ => fStep cl P Γ sl mem nx op K
 | _ => fStep cl P Γ sl mem nx op K
theorem fEff_a {cl : Bool} {P : Program} {Γ : List (Nat × AV)} {H : Hk} {s : St} {op : Op} {K : AV → Mem → Nat → Prop} {Kp : Value → Mem → Nat → Prop} (h : fEff cl P Γ H s.sl s.mem s.nx op K Kp) :
  (∃ v m n, aStep P Γ s op = some (v, m, n) ∧ K v m n) ∨ (aStep P Γ s op = none ∧ ∃ F l, aCall P Γ s op = some (F, l) ∧ H.call F l s.mem s.nx K Kp) := by
 unfold fEff at h
 split at h
 ·split at h
  ·rename_i f hc
   rcases fCall_a hc h with ⟨v, h1, h⟩ | h
   ·exact .inl ⟨_, _, _, h1, h⟩
   ·exact .inr h
  ·exact .inl (fStep_a h)
 ·exact .inl (fStep_a h)
def fEffP (cl : Bool) (P : Program) (Γ : List (Nat × AV)) (H : Hk) (sl : List (Nat × AV)) (mem : Mem) (nx : Nat) (op : Op) (K : AV → Mem → Nat → Prop) (Kp : Value → Mem → Nat → Prop) : Prop :=
 match op with
 | .panic x => fev Γ sl x fun v => opt (quo v) fun y => Kp y mem nx
 | op => fEff cl P Γ H sl mem nx op K Kp
theorem fEffP_a {cl : Bool} {P : Program} {Γ : List (Nat × AV)} {H : Hk} {s : St} {op : Op} {K : AV → Mem → Nat → Prop} {Kp : Value → Mem → Nat → Prop} (h : fEffP cl P Γ H s.sl s.mem s.nx op K Kp) :
  (∃ v m n, aStep P Γ s op = some (v, m, n) ∧ K v m n) ∨ (aStep P Γ s op = none ∧ ∃ F l, aCall P Γ s op = some (F, l) ∧ H.call F l s.mem s.nx K Kp) ∨
   (aStep P Γ s op = none ∧ aCall P Γ s op = none ∧ ∃ y, aPan Γ s op = some y ∧ Kp y s.mem s.nx) := by
 unfold fEffP at h
 split at h
 ·obtain ⟨v, h1, h⟩ := fev_ev h
  obtain ⟨y, h2, h⟩ := opt_iff.1 h
  exact .inr (.inr ⟨rfl, rfl, y, by simp only [aPan, h1, h2], h⟩)
 ·rcases fEff_a h with h | h
  ·exact .inl h
  ·exact .inr (.inl h)
def fOps (cl : Bool) (P : Program) (Γ : List (Nat × AV)) (H : Hk) (ops : List Oper) : List Oper → St → (St → Prop) → (Value → St → Prop) → Prop
 | [], s, K, _ => K s
 | o :: r, s, K, Kp => stK s fun sl mem nx nt => fWant ops sl o.guard
   (fEffP cl P Γ H sl mem nx o.op (fun v mem nx => fPut s o.dst v mem nx fun s' => fOps cl P Γ H ops r s' K Kp) fun x mem nx => Kp x ⟨sl, mem, nx, nt⟩)
   (fPut s o.dst (.tup []) mem nx fun s' => fOps cl P Γ H ops r s' K Kp)
theorem fOps_a {cl : Bool} {P : Program} {Γ : List (Nat × AV)} {H : Hk} {B : Nat} (hH : HkOK P Γ B H) (ops : List Oper) : ∀ (l : List Oper) (s : St) (K K' : St → Prop) (Kp Kp' : Value → St → Prop), (∀ s, K s → K' s) → (∀ x s, Kp x s → Kp' x s) → fOps cl P Γ H ops l s K Kp → aOps P Γ (semP P Γ B) ops l s K' Kp'
 | [], s, K, K', Kp, Kp', hk, hp, h => hk s h
 | o :: r, s, K, K', Kp, Kp', hk, hp, h => by
  simp only [fOps] at h
  simp only [aOps]
  have h := stK_iff.1 h
  rcases fWant_a h with ⟨h1, h⟩ | ⟨h1, h⟩
  ·simp only [h1]
   rcases fEffP_a h with ⟨v, m, n, h2, h⟩ | ⟨h2, F, l, h3, h⟩ | ⟨h2, h3, y, h4, h⟩
   ·obtain ⟨s', h4, h⟩ := fPut_a h
    simp only [h2, h4]
    exact fOps_a hH ops r s' K K' Kp Kp' hk hp h
   ·simp only [h2, h3]
    refine (hH.call _ _ _ _ _ _ h).mono (fun v m n h => ?_) fun x m n h => hp _ _ h
    obtain ⟨s', h4, h⟩ := fPut_a h
    simp only [h4]
    exact fOps_a hH ops r s' K K' Kp Kp' hk hp h
   ·simp only [h2, h3, h4]
    exact hp _ _ h
  ·obtain ⟨s', h4, h⟩ := fPut_a h
   simp only [h1, h4]
   exact fOps_a hH ops r s' K K' Kp Kp' hk hp h
def filterK (f : Nat × AB → Bool) : Mem → (Mem → Prop) → Prop
 | [], K => K []
 | p :: r, K => match f p with
  | true => filterK f r fun l => K (p :: l)
  | false => filterK f r K
theorem filterK_iff {f : Nat × AB → Bool} : ∀ {m : Mem} {K : Mem → Prop}, filterK f m K ↔ K (m.filter f)
 | [], K => Iff.rfl
 | p :: r, K => by
  simp only [filterK, List.filter_cons]
  cases f p
  ·simpa using filterK_iff
  ·simpa using filterK_iff
def fChk (cl : Bool) (P : Program) (Γ : List (Nat × AV)) (ops : List Oper) (tr : List (List Nat)) (base x : Nat) (mem : Mem) (nx : Nat) : List Rec → Prop → Prop
 | [], K => K
 | r :: rs, K => match mem1 r.i (T tr x) with
  | true => fChk cl P Γ ops tr base x mem nx rs K
  | false => match r.want with
   | false => fChk cl P Γ ops tr base x mem nx rs K
   | true => match ops[r.i]? with
    | none => fChk cl P Γ ops tr base x mem nx rs K
    | some o => match kind P o.op with
     | .pure => match still o.op with
      | true => fChk cl P Γ ops tr base x mem nx rs K
      | false => filterK (fun p => vis tr base ops.length r.i p.1) mem fun m => fStep cl P Γ r.sl m nx o.op fun v _ _ => match cl with
       | true => grd (eqAV v r.v) (fChk cl P Γ ops tr base x mem nx rs K)
       | false => v = r.v ∧ fChk cl P Γ ops tr base x mem nx rs K
     | _ => fChk cl P Γ ops tr base x mem nx rs K
theorem fChk_a {cl : Bool} {P : Program} {Γ : List (Nat × AV)} {ops : List Oper} {tr : List (List Nat)} {base x : Nat} {s : St} : ∀ {recs : List Rec} {K : Prop}, fChk cl P Γ ops tr base x s.mem s.nx recs K → chk P Γ ops tr base x s recs ∧ K
 | [], K, h => ⟨trivial, h⟩
 | r :: rs, K, h => by
  simp only [fChk] at h
  simp only [chk]
  split at h
  ·rename_i h1
   obtain ⟨h2, h3⟩ := fChk_a h
   exact ⟨⟨fun e => (by rw [h1] at e; cases e), h2⟩, h3⟩
  ·split at h
   ·rename_i h1
    obtain ⟨h2, h3⟩ := fChk_a h
    exact ⟨⟨fun _ e => (by rw [h1] at e; cases e), h2⟩, h3⟩
   ·split at h
    ·rename_i h1
     obtain ⟨h2, h3⟩ := fChk_a h
     exact ⟨⟨fun _ _ o e => (by rw [h1] at e; cases e), h2⟩, h3⟩
    ·rename_i o ho
     split at h
     ·split at h
      ·rename_i h1
       obtain ⟨h2, h3⟩ := fChk_a h
       refine ⟨⟨fun _ _ o' e _ e' => ?_, h2⟩, h3⟩
       rw [ho] at e
       cases e
       rw [h1] at e'
       cases e'
      ·have h := filterK_iff.1 h
       obtain ⟨v, m, n, h1, h⟩ := fStep_a (s := { sl := r.sl, mem := seen tr base ops.length r.i s.mem, nx := s.nx, nt := s.nt }) h
       have key : v = r.v ∧ fChk cl P Γ ops tr base x s.mem s.nx rs K := by
        cases cl
        ·exact h
        ·obtain ⟨h2, h3⟩ := grd_iff.1 h
         exact ⟨eqAV_eq h2, h3⟩
       obtain ⟨h2, h3⟩ := fChk_a key.2
       refine ⟨⟨fun _ _ o' e _ _ => ?_, h2⟩, h3⟩
       rw [ho] at e
       cases e
       exact ⟨m, n, by rw [← key.1]; exact h1⟩
     ·rename_i hk
      obtain ⟨h2, h3⟩ := fChk_a h
      refine ⟨⟨fun _ _ o' e e' => ?_, h2⟩, h3⟩
      rw [ho] at e
      cases e
      exact (hk e').elim
def fDraw (cl : Bool) (P : Program) (Γ : List (Nat × AV)) (H : Hk) (ops : List Oper) (tr : List (List Nat)) (base : Nat) (K : St → Prop) (Kp : Value → Mem → Nat → Prop) : List Nat → List Rec → St → Prop
 | [], recs, s => K s
 | i :: r, recs, s => match ops[i]? with
  | none => False
  | some o => stK s fun sl mem nx nt => fWant ops sl o.guard
   (match kind P o.op with
    | .pure => match still o.op with
     | true => fStep cl P Γ sl [] nx o.op fun v _ _ => fPut s o.dst v mem nx fun s' => fDraw cl P Γ H ops tr base K Kp r (⟨i, sl, true, v⟩ :: recs) s'
     | false => filterK (fun p => vis tr base ops.length i p.1) mem fun m => fStep cl P Γ sl m nx o.op fun v _ _ => fPut s o.dst v mem nx fun s' => fDraw cl P Γ H ops tr base K Kp r (⟨i, sl, true, v⟩ :: recs) s'
    | .al => natK (base + i) fun id => fStep cl P Γ sl [] id o.op fun v m _ => match m with
     | [(_, b)] => fPut s o.dst v ((id, b) :: mem) nx fun s' => fDraw cl P Γ H ops tr base K Kp r (⟨i, sl, true, v⟩ :: recs) s'
     | _ => False
    | .eff => filterK (fun p => vis tr base ops.length i p.1) mem fun m => fEff cl P Γ H sl m nx o.op (fun v m nx' => filterK (fun p => !vis tr base ops.length i p.1) mem fun rest => filterK (fun p => !hasKey p.1 m) rest fun rest => appK m rest fun m =>
      fPut s o.dst v m nx' fun s' => fChk cl P Γ ops tr base i m nx' recs (fDraw cl P Γ H ops tr base K Kp r recs s')) Kp)
   (fPut s o.dst (.tup []) mem nx fun s' => fDraw cl P Γ H ops tr base K Kp r (⟨i, sl, false, .tup []⟩ :: recs) s')
theorem fDraw_a {cl : Bool} {P : Program} {Γ : List (Nat × AV)} {H : Hk} {B : Nat} (hH : HkOK P Γ B H) (ops : List Oper) (tr : List (List Nat)) (base : Nat) (K K' : St → Prop) (Kp Kp' : Value → Mem → Nat → Prop) (hk : ∀ s, K s → K' s) (hp : ∀ x m n, Kp x m n → Kp' x m n) :
  ∀ (l : List Nat) (recs : List Rec) (s : St), fDraw cl P Γ H ops tr base K Kp l recs s → vrun P Γ (semP P Γ B) ops tr base K' Kp' l recs s
 | [], recs, s, h => hk s h
 | i :: r, recs, s, h => by
  simp only [fDraw] at h
  simp only [vrun]
  split at h
  ·exact h.elim
  ·rename_i o ho
   simp only [ho]
   have h := stK_iff.1 h
   rcases fWant_a h with ⟨h1, h⟩ | ⟨h1, h⟩
   ·simp only [h1]
    split at h
    ·rename_i hkd
     simp only [hkd]
     split at h
     ·rename_i hst
      obtain ⟨v, m, n, h2, h⟩ := fStep_a (s := { sl := s.sl, mem := [], nx := s.nx, nt := s.nt }) h
      obtain ⟨m', n', h2'⟩ := aStep_still (s := { sl := s.sl, mem := [], nx := s.nx, nt := s.nt }) (s' := { s with mem := seen tr base ops.length i s.mem }) hst rfl h2
      obtain ⟨s', h3, h⟩ := fPut_a h
      simp only [h2', h3]
      exact fDraw_a hH ops tr base K K' Kp Kp' hk hp r _ s' h
     ·have h := filterK_iff.1 h
      obtain ⟨v, m, n, h2, h⟩ := fStep_a (s := { s with mem := seen tr base ops.length i s.mem }) h
      obtain ⟨s', h3, h⟩ := fPut_a h
      simp only [h2, h3]
      exact fDraw_a hH ops tr base K K' Kp Kp' hk hp r _ s' h
    ·rename_i hkd
     simp only [hkd]
     have h := natK_iff.1 h
     obtain ⟨v, m, n, h2, h⟩ := fStep_a (s := { s with mem := [], nx := base + i }) h
     simp only [h2]
     split at h
     ·obtain ⟨s', h3, h⟩ := fPut_a h
      simp only [h3]
      exact fDraw_a hH ops tr base K K' Kp Kp' hk hp r _ s' h
     ·exact h.elim
    ·rename_i hkd
     simp only [hkd]
     have h := filterK_iff.1 h
     rcases fEff_a (s := { s with mem := seen tr base ops.length i s.mem }) h with ⟨v, m, n, h2, h⟩ | ⟨h2, F, l, h3, h⟩
     ·simp only [h2]
      have h := appK_iff.1 (filterK_iff.1 (filterK_iff.1 h))
      obtain ⟨s', h3, h⟩ := fPut_a h
      have h3 : stepSt s o.dst v (m ++ back m (unseen tr base ops.length i s.mem)) n = some s' := h3
      simp only [h3]
      obtain ⟨e1, e2, _⟩ := stepSt_parts h3
      have h : fChk cl P Γ ops tr base i (m ++ back m (unseen tr base ops.length i s.mem)) n recs (fDraw cl P Γ H ops tr base K Kp r recs s') := h
      rw [← e1, ← e2] at h
      obtain ⟨h4, h⟩ := fChk_a h
      exact ⟨h4, fDraw_a hH ops tr base K K' Kp Kp' hk hp r _ s' h⟩
     ·rw [aCall_congr (s' := s) (fun x _ => by cases x <;> rfl)] at h3
      simp only [h2, h3]
      refine (hH.call _ _ _ _ _ _ h).mono (fun v m n h => ?_) hp
      have h := appK_iff.1 (filterK_iff.1 (filterK_iff.1 h))
      obtain ⟨s', h3, h⟩ := fPut_a h
      have h3 : stepSt s o.dst v (m ++ back m (unseen tr base ops.length i s.mem)) n = some s' := h3
      simp only [h3]
      obtain ⟨e1, e2, _⟩ := stepSt_parts h3
      have h : fChk cl P Γ ops tr base i (m ++ back m (unseen tr base ops.length i s.mem)) n recs (fDraw cl P Γ H ops tr base K Kp r recs s') := h
      rw [← e1, ← e2] at h
      obtain ⟨h4, h⟩ := fChk_a h
      exact ⟨h4, fDraw_a hH ops tr base K K' Kp Kp' hk hp r _ s' h⟩
   ·obtain ⟨s', h3, h⟩ := fPut_a h
    simp only [h1, h3]
    exact fDraw_a hH ops tr base K K' Kp Kp' hk hp r _ s' h
def fRng (sl : List (Nat × AV)) (id nt : Nat) (m : Mem) (n : Nat) (Q : Exit → St → Prop) : Prop :=
 opt (lk m id) fun b => match b with
  | .loop _ _ _ _ _ st pd => match st with
   | .busy => False
   | _ => filterK (fun p => !Nat.beq p.1 id) m fun m => match pd with
    | none => Q .normal ⟨sl, m, n, nt⟩
    | some .ret => Q .ret ⟨sl, m, n, nt⟩
    | some (.exit i) => Q (.exit i) ⟨sl, m, n, nt⟩
    | some _ => False
  | _ => False
theorem fRng_a {s : St} {m : Mem} {n : Nat} {Q : Exit → St → Prop} (h : fRng s.sl s.nx s.nt m n Q) : rngQ s Q m n := by
 obtain ⟨b, h1, h⟩ := opt_iff.1 h
 unfold rngQ
 simp only [h1]
 cases b with
 | loop sl nt ps ca cb st pd =>
  cases st <;> first | exact h.elim | (simp only at h ⊢; have h := filterK_iff.1 h; exact h)
 | _ => exact h.elim
theorem rngQ.mono {s : St} {m : Mem} {n : Nat} {Q Q' : Exit → St → Prop} (hq : ∀ e s, Q e s → Q' e s) (h : rngQ s Q m n) : rngQ s Q' m n := by
 unfold rngQ at h ⊢
 split at h
 ·split at h
  ·exact h
  ·split at h
   ·exact hq _ _ h
   ·exact hq _ _ h
   ·exact hq _ _ h
   ·exact h
 ·exact h
def fwp (cl : Bool) (P : Program) (Γ : List (Nat × AV)) (H : Hk) : Code → St → (Exit → St → Prop) → Prop
 | .skip, s, Q => Q .normal s
 | .seq x y, s, Q => fwp cl P Γ H x s fun e s' => match e with
  | .normal => fwp cl P Γ H y s' Q
  | e => Q e s'
 | .cond c x y, s, Q => stK s fun sl _ _ _ => fev Γ sl c fun v => match v with
  | .bool b => bcs b (fwp cl P Γ H x s Q) (fwp cl P Γ H y s Q)
  | _ => False
 | .block id c, s, Q => fwp cl P Γ H c s fun e s' => match e with
  | .exit i => match Nat.beq i id with
   | true => Q .normal s'
   | false => Q (.exit i) s'
  | e => Q e s'
 | .loop c, s, Q => H.loop c s Q
 | .label _, s, Q => Q .normal s
 | .scope c, s, Q => fwp cl P Γ H c s fun e s' => match e with
  | .goto _ => False
  | e => Q e s'
 | .exit i, s, Q => Q (.exit i) s
 | .ret, s, Q => Q .ret s
 | .region _ ops draw, s, Q => match draw with
  | false => fOps cl P Γ H ops.toList ops.toList s (fun s' => Q .normal s') fun x s' => Q (.panic [pe x]) s'
  | true => match P.follows .mixedOrders with
   | true => match okDraw P ops.toList (eager P ops.toList ops.toList.length [] (upto ops.toList.length)) with
    | true => stK s fun sl mem nx nt => natK (nx + ops.toList.length) fun n => listK (eager P ops.toList ops.toList.length [] (upto ops.toList.length)) fun ord => fDraw cl P Γ H ops.toList (trs ops.toList []) nx (fun s' => Q .normal s') (fun x m n => Q (.panic [pe x]) ⟨noDst ops.toList sl, m, n, nt⟩) ord [] ⟨sl, mem, n, nt⟩
    | false => False
   | false => False
 | .rangeFunc g ps ca cb, s, Q => stK s fun sl mem nx nt => fev Γ sl g fun v => match v with
  | .fn (.func G) first cap => match P.funcs[G]? with
   | some fn => match fn.body with
    | some _ => match fn.name == "runtime.NumGoroutine" with
     | false => match Nat.beq G YF with
      | false => natK (nx + 1) fun n => appK first (.yld nx :: cap) fun l => H.call G l ((nx, .loop sl nt ps ca cb .ready none) :: mem) n (fun _ m n => fRng sl nx nt m n Q) fun x m n => Q (.panic [pe x]) ⟨sl, m, n, nt⟩
      | true => False
     | true => False
    | none => False
   | none => False
  | _ => False
 | _, _, _ => False
theorem fwp_a {cl : Bool} {P : Program} {Γ : List (Nat × AV)} {H : Hk} {B : Nat} (hH : HkOK P Γ B H) : ∀ (c : Code) (s : St) (Q Q' : Exit → St → Prop), (∀ e s, Q e s → Q' e s) → fwp cl P Γ H c s Q → awp P Γ (semP P Γ B) c s Q' := by
 intro c
 induction c with
 | skip => exact fun s Q Q' hq h => hq _ _ h
 | label l => exact fun s Q Q' hq h => hq _ _ h
 | scope c ih =>
  intro s Q Q' hq h
  simp only [fwp] at h
  simp only [awp]
  refine ih s _ _ (fun e s' h => ?_) h
  cases e with
  | goto l => exact h
  | normal => exact hq _ _ h
  | exit i => exact hq _ _ h
  | ret => exact hq _ _ h
  | panic c => exact hq _ _ h
  | outgrown => exact hq _ _ h
 | exit i => exact fun s Q Q' hq h => hq _ _ h
 | ret => exact fun s Q Q' hq h => hq _ _ h
 | loop c ih => exact fun s Q Q' hq h => (hH.loop c s Q h).mono hq
 | seq x y ihx ihy =>
  intro s Q Q' hq h
  simp only [fwp] at h
  simp only [awp]
  refine ihx s _ _ (fun e s' h => ?_) h
  cases e with
  | normal => exact ihy s' Q Q' hq h
  | exit i => exact hq _ _ h
  | goto l => exact hq _ _ h
  | ret => exact hq _ _ h
  | panic c => exact hq _ _ h
  | outgrown => exact hq _ _ h
 | cond c x y ihx ihy =>
  intro s Q Q' hq h
  simp only [fwp] at h
  simp only [awp]
  have h := stK_iff.1 h
  obtain ⟨v, h1, h⟩ := fev_ev h
  simp only [h1]
  split at h
  ·rename_i b
   cases b
   ·exact ihy s Q Q' hq h
   ·exact ihx s Q Q' hq h
  ·exact h.elim
 | block id c ih =>
  intro s Q Q' hq h
  simp only [fwp] at h
  simp only [awp]
  refine ih s _ _ (fun e s' h => ?_) h
  cases e with
  | exit i =>
   simp only at h ⊢
   split at h
   ·rename_i e; simp only [e]; exact hq _ _ h
   ·rename_i e; simp only [e]; exact hq _ _ h
  | normal => exact hq _ _ h
  | goto l => exact hq _ _ h
  | ret => exact hq _ _ h
  | panic c => exact hq _ _ h
  | outgrown => exact hq _ _ h
 | region id ops draw =>
  intro s Q Q' hq h
  cases draw with
  | false =>
   simp only [fwp] at h
   simp only [awp]
   exact fOps_a hH _ _ _ _ _ _ _ (fun s h => hq _ _ h) (fun x s h => hq _ _ h) h
  | true =>
   simp only [fwp] at h
   simp only [awp]
   split at h
   ·rename_i hmix
    simp only [hmix]
    split at h
    ·rename_i hok
     simp only [aDraw, hok]
     exact fDraw_a hH _ _ _ _ _ _ _ (fun s h => hq _ _ h) (fun x m n h => hq _ _ h) _ _ _ (listK_iff.1 (natK_iff.1 (stK_iff.1 h)))
    ·exact h.elim
   ·exact h.elim
 | rangeFunc g ps ca cb =>
  intro s Q Q' hq h
  simp only [fwp] at h
  obtain ⟨v, h1, h⟩ := fev_ev (s := s) (stK_iff.1 h)
  simp only [awp, h1]
  split at h <;> first | exact h.elim | skip
  split at h <;> first | exact h.elim | skip
  rename_i fn hf
  split at h <;> first | exact h.elim | skip
  rename_i c0 hb
  split at h <;> first | exact h.elim | skip
  rename_i hn
  split at h <;> first | exact h.elim | skip
  rename_i hG
  simp only [hf, hb, hn, hG]
  exact (hH.call _ _ _ _ _ _ (appK_iff.1 (natK_iff.1 h))).mono (fun _ m n h => (fRng_a h).mono hq) fun x m n h => hq _ _ h
 | _ => intro s Q Q' hq h; simp only [fwp] at h
theorem fwp_sound {cl : Bool} {P : Program} {Γ : List (Nat × AV)} {H : Hk} {B : Nat} (hH : HkOK P Γ B H) (c : Code) (s : St) (Q : Exit → St → Prop) (h : fwp cl P Γ H c s Q) : AWp P Γ B c s Q :=
 awp_sound semP_ok c s Q (fwp_a hH c s Q Q (fun _ _ h => h) h)
def enumK : Nat → List AV → (List (Nat × AV) → Prop) → Prop
 | _, [], K => K []
 | k, a :: r, K => natK k fun k => enumK (k + 1) r fun l => K ((k, a) :: l)
theorem enumK_iff : ∀ {k : Nat} {l : List AV} {K : List (Nat × AV) → Prop}, enumK k l K ↔ K (enum k l)
 | k, [], K => Iff.rfl
 | k, a :: r, K => by simp only [enumK, enum, natK_iff, enumK_iff]
def fEnter (ntmps : Nat) (args : List AV) (mem : Mem) (nx : Nat) (K : St → Prop) : Prop :=
 enumK 0 args fun sl => grd (Nat.ble args.length ntmps) (natK ntmps fun nt => K ⟨sl, mem, nx, nt⟩)
theorem fEnter_iff {ntmps : Nat} {args : List AV} {mem : Mem} {nx : Nat} {K : St → Prop} (h : fEnter ntmps args mem nx K) : K (enter ntmps args mem nx) := by
 obtain ⟨h1, h⟩ := grd_iff.1 (enumK_iff.1 h)
 have h := natK_iff.1 h
 have h1 := Nat.le_of_ble_eq_true h1
 have e : enter ntmps args mem nx = ⟨enum 0 args, mem, nx, ntmps⟩ := by simp only [enter]; congr 1; omega
 rw [e]
 exact h
def fRess (P : Program) (s : St) : List ResultVar → (List AV → Prop) → Prop
 | [], K => K []
 | .tmp t :: r, K => opt (lk s.sl t) fun v => fRess P s r fun l => K (v :: l)
 | .cell a t :: r, K => opt (lk s.sl a) fun p => fLoad P s.mem t p fun v => fRess P s r fun l => K (v :: l)
theorem fRess_a {P : Program} {s : St} : ∀ {rs : List ResultVar} {K : List AV → Prop}, fRess P s rs K → ∃ l, aRess P s rs = some l ∧ K l
 | [], K, h => ⟨[], rfl, h⟩
 | .tmp t :: r, K, h => by
  obtain ⟨v, h1, h⟩ := opt_iff.1 h
  obtain ⟨l, h2, h⟩ := fRess_a h
  exact ⟨_, by simp only [aRess, h1, h2], h⟩
 | .cell a t :: r, K, h => by
  obtain ⟨p, h1, h⟩ := opt_iff.1 h
  obtain ⟨v, h2, h⟩ := fLoad_a h
  obtain ⟨l, h3, h⟩ := fRess_a h
  exact ⟨_, by simp only [aRess, h1, h2, h3], h⟩
def fRes (P : Program) (rs : List ResultVar) (s : St) (K : AV → Prop) : Prop :=
 fRess P s rs fun l => match l with
  | [v] => K v
  | [] => K (.tup [])
  | a :: b :: r => K (.tup (a :: b :: r))
theorem fRes_a {P : Program} {rs : List ResultVar} {s : St} {K : AV → Prop} (h : fRes P rs s K) : ∃ v, aRes P rs s = some v ∧ K v := by
 obtain ⟨l, h1, h⟩ := fRess_a h
 unfold aRes
 rw [h1]
 match l, h with
 | [v], h => exact ⟨_, rfl, h⟩
 | [], h => exact ⟨_, rfl, h⟩
 | a :: b :: r, h => exact ⟨_, rfl, h⟩
def fRet (P : Program) (rs : List ResultVar) (Q : AV → Mem → Nat → Prop) : Exit → St → Prop := fun e s =>
 match e with
 | .normal => stK s fun _ mem nx _ => fRes P rs s fun r => Q r mem nx
 | .ret => stK s fun _ mem nx _ => fRes P rs s fun r => Q r mem nx
 | _ => False
theorem fRet_a {P : Program} {rs : List ResultVar} {Q : AV → Mem → Nat → Prop} {e : Exit} {s : St} (h : fRet P rs Q e s) : retQ P rs Q e s := by
 cases e with
 | normal =>
  obtain ⟨v, h1, h⟩ := fRes_a (show fRes P rs s _ from h)
  simp only [retQ, h1]
  exact h
 | ret =>
  obtain ⟨v, h1, h⟩ := fRes_a (show fRes P rs s _ from h)
  simp only [retQ, h1]
  exact h
 | _ => exact (show False from h).elim
theorem acalls_run {P : Program} {Γ : List (Nat × AV)} {F : FuncId} {fn : Func} {c : Code} {args : List AV} {mem : Mem} {nx : Nat} {Q : AV → Mem → Nat → Prop} (hΓ : ∀ p ∈ Γ, NN p.2) (hf : P.funcs[F]? = some fn) (hb : fn.body = some c)
  (h : fEnter fn.ntmps args mem nx fun s => fwp false P Γ (sem P Γ nx) c s (fRet P fn.results.toList (Fini nx Q))) (hF : Nat.beq F YF = false := by rfl) : ACalls P Γ F args mem nx Q :=
 (acalls_of_awp hf hb ((fwp_sound sem_ok _ _ _ (fEnter_iff h)).mono fun _ _ h => fRet_a h) hF).turn hΓ
def fRetP (P : Program) (rs : List ResultVar) (Q : AV → Mem → Nat → Prop) (Qp : Value → Mem → Nat → Prop) : Exit → St → Prop := fun e s =>
 match e with
 | .normal => stK s fun _ mem nx _ => fRes P rs s fun r => Q r mem nx
 | .ret => stK s fun _ mem nx _ => fRes P rs s fun r => Q r mem nx
 | .panic [⟨x, false, false⟩] => stK s fun _ mem nx _ => Qp x mem nx
 | _ => False
theorem fRetP_a {P : Program} {rs : List ResultVar} {Q : AV → Mem → Nat → Prop} {Qp : Value → Mem → Nat → Prop} {e : Exit} {s : St} (h : fRetP P rs Q Qp e s) : retQP P rs Q Qp e s := by
 cases e with
 | normal =>
  obtain ⟨v, h1, h⟩ := fRes_a (show fRes P rs s _ from h)
  simp only [retQP, h1]
  exact h
 | ret =>
  obtain ⟨v, h1, h⟩ := fRes_a (show fRes P rs s _ from h)
  simp only [retQP, h1]
  exact h
 | panic ch =>
  unfold fRetP at h
  split at h
  ·rename_i e; cases e
  ·rename_i e; cases e
  ·rename_i e; cases e; exact h
  ·exact h.elim
 | _ => exact (show False from h).elim
end Go.Ax
