/- A part of the proof. -/
import Derived.Test.YtelmpofoeinfoaaGreatDoorAx4
set_option linter.unusedVariables false
namespace Go.Ax
open Go
def bcs (b : Bool) (p q : Prop) : Prop :=
 match b with
 | true => p
 | false => q
def grd (b : Bool) (p : Prop) : Prop :=
 match b with
 | true => p
 | false => False
def opt {α : Type} (o : Option α) (K : α → Prop) : Prop :=
 match o with
 | some a => K a
 | none => False
theorem bcs_mk {b : Bool} {p q : Prop} (h1 : b = true → p) (h2 : b = false → q) : bcs b p q := by
 cases b
 ·exact h2 rfl
 ·exact h1 rfl
theorem grd_iff {b : Bool} {p : Prop} : grd b p ↔ b = true ∧ p := by cases b <;> simp [grd]
theorem grd_mk {b : Bool} {p : Prop} (h : b = true) (hp : p) : grd b p := grd_iff.2 ⟨h, hp⟩
theorem opt_iff {α : Type} {o : Option α} {K : α → Prop} : opt o K ↔ ∃ a, o = some a ∧ K a := by cases o <;> simp [opt]
theorem opt_mk {α : Type} {o : Option α} {K : α → Prop} {a : α} (h : o = some a) (hk : K a) : opt o K := opt_iff.2 ⟨a, h, hk⟩
def natK (n : Nat) (K : Nat → Prop) : Prop :=
 match n with
 | 0 => K 0
 | Nat.succ m => K (Nat.succ m)
theorem natK_iff {n : Nat} {K : Nat → Prop} : natK n K ↔ K n := by cases n <;> rfl
def intK (n : Int) (K : Int → Prop) : Prop :=
 match n with
 | .ofNat m => natK m fun m => K (.ofNat m)
 | .negSucc m => natK m fun m => K (.negSucc m)
theorem intK_iff {n : Int} {K : Int → Prop} : intK n K ↔ K n := by cases n <;> simp [intK, natK_iff]
def fNat (cl : Bool) (n : Nat) (K : Nat → Prop) : Prop :=
 match cl with
 | true => natK n K
 | false => K n
theorem fNat_iff {cl : Bool} {n : Nat} {K : Nat → Prop} : fNat cl n K ↔ K n := by cases cl <;> simp [fNat, natK_iff]
def fInt (cl : Bool) (k : IntKind) (n : Int) (K : AV → Prop) : Prop :=
 match cl with
 | true => intK n fun n => K (.int k n)
 | false => K (.int k n)
theorem fInt_iff {cl : Bool} {k : IntKind} {n : Int} {K : AV → Prop} : fInt cl k n K ↔ K (.int k n) := by cases cl <;> simp [fInt, intK_iff]
def fBool (cl : Bool) (b : Bool) (K : AV → Prop) : Prop :=
 match cl with
 | true => match b with
  | true => K (.bool true)
  | false => K (.bool false)
 | false => K (.bool b)
theorem fBool_iff {cl : Bool} {b : Bool} {K : AV → Prop} : fBool cl b K ↔ K (.bool b) := by cases cl <;> cases b <;> rfl
def listK {α : Type} : List α → (List α → Prop) → Prop
 | [], K => K []
 | x :: r, K => listK r fun l => K (x :: l)
theorem listK_iff {α : Type} : ∀ {l : List α} {K : List α → Prop}, listK l K ↔ K l
 | [], K => Iff.rfl
 | x :: r, K => by simp [listK, listK_iff]
def fList {α : Type} (cl : Bool) (l : List α) (K : List α → Prop) : Prop :=
 match cl with
 | true => listK l K
 | false => K l
theorem fList_iff {α : Type} {cl : Bool} {l : List α} {K : List α → Prop} : fList cl l K ↔ K l := by cases cl <;> simp [fList, listK_iff]
def appK {α : Type} : List α → List α → (List α → Prop) → Prop
 | [], ys, K => K ys
 | x :: r, ys, K => appK r ys fun l => K (x :: l)
theorem appK_iff {α : Type} : ∀ {xs ys : List α} {K : List α → Prop}, appK xs ys K ↔ K (xs ++ ys)
 | [], ys, K => Iff.rfl
 | x :: r, ys, K => by simp [appK, appK_iff]
def setK {α : Type} : List α → Nat → α → (List α → Prop) → Prop
 | [], _, _, K => K []
 | _ :: r, 0, v, K => K (v :: r)
 | x :: r, i + 1, v, K => setK r i v fun l => K (x :: l)
theorem setK_iff {α : Type} : ∀ {xs : List α} {i : Nat} {v : α} {K : List α → Prop}, setK xs i v K ↔ K (xs.set i v)
 | [], _, _, K => Iff.rfl
 | _ :: r, 0, v, K => Iff.rfl
 | x :: r, i + 1, v, K => by simp [setK, setK_iff]
def takeK {α : Type} : Nat → List α → (List α → Prop) → Prop
 | 0, _, K => K []
 | _ + 1, [], _ => False
 | n + 1, c :: r, K => takeK n r fun l => K (c :: l)
theorem takeK_iff {α : Type} : ∀ {n : Nat} {l : List α} {K : List α → Prop}, takeK n l K ↔ (l.take n).length = n ∧ K (l.take n)
 | 0, l, K => by simp [takeK]
 | n + 1, [], K => by simp [takeK]
 | n + 1, c :: r, K => by simp [takeK, takeK_iff]
def upK {α : Type} : List (Nat × α) → Nat → α → (List (Nat × α) → Prop) → Prop
 | [], j, v, K => K [(j, v)]
 | (i, u) :: r, j, v, K => match Nat.beq i j with
  | true => K ((i, v) :: r)
  | false => upK r j v fun l => K ((i, u) :: l)
theorem upK_iff {α : Type} : ∀ {l : List (Nat × α)} {j : Nat} {v : α} {K : List (Nat × α) → Prop}, upK l j v K ↔ K (up l j v)
 | [], j, v, K => Iff.rfl
 | (i, u) :: r, j, v, K => by
  simp only [upK, up]
  cases Nat.beq i j
  ·exact upK_iff
  ·exact Iff.rfl
def dropK : Nat → Mem → (Mem → Prop) → Prop
 | _, [], K => K []
 | id, (k, u) :: r, K => match Nat.beq k id with
  | true => K r
  | false => dropK id r fun l => K ((k, u) :: l)
theorem dropK_iff : ∀ {id : Nat} {m : Mem} {K : Mem → Prop}, dropK id m K ↔ K (drop id m)
 | _, [], K => Iff.rfl
 | id, (k, u) :: r, K => by
  simp only [dropK, drop]
  cases Nat.beq k id
  ·exact dropK_iff
  ·exact Iff.rfl
def fev (Γ : List (Nat × AV)) (sl : List (Nat × AV)) (x : Operand) (K : AV → Prop) : Prop :=
 match x with
 | .tmp t => opt (lk sl t) K
 | .const (.string s) => listK s.data.toList fun l => K (.str l)
 | .const v => opt (ofVal v) K
 | .global g => opt (lk Γ g) fun v => K (.ip v)
 | .func f => K (.fn (.func f) [] [])
theorem fev_ev {Γ : List (Nat × AV)} {s : St} {x : Operand} {K : AV → Prop} (h : fev Γ s.sl x K) : ∃ v, ev Γ s x = some v ∧ K v := by
 unfold fev at h
 split at h
 ·exact opt_iff.1 h
 ·exact ⟨_, rfl, listK_iff.1 h⟩
 ·exact opt_iff.1 h
 ·obtain ⟨v, h1, h2⟩ := opt_iff.1 h
  exact ⟨_, by simp [ev, h1], h2⟩
 ·exact ⟨_, rfl, h⟩
def fevs (Γ : List (Nat × AV)) (sl : List (Nat × AV)) : List Operand → (List AV → Prop) → Prop
 | [], K => K []
 | x :: r, K => fev Γ sl x fun a => fevs Γ sl r fun l => K (a :: l)
theorem fevs_evs {Γ : List (Nat × AV)} {s : St} : ∀ {xs : List Operand} {K : List AV → Prop}, fevs Γ s.sl xs K → ∃ l, evs Γ s xs = some l ∧ K l
 | [], K, h => ⟨[], rfl, h⟩
 | x :: r, K, h => by
  obtain ⟨a, h1, h2⟩ := fev_ev h
  obtain ⟨l, h3, h4⟩ := fevs_evs h2
  exact ⟨a :: l, by simp [evs, h1, h3], h4⟩
def fevParts (Γ : List (Nat × AV)) (sl : List (Nat × AV)) : List (Nat × Operand) → (List (Nat × AV) → Prop) → Prop
 | [], K => K []
 | (i, x) :: r, K => fev Γ sl x fun a => fevParts Γ sl r fun l => K ((i, a) :: l)
theorem fevParts_ev {Γ : List (Nat × AV)} {s : St} : ∀ {xs : List (Nat × Operand)} {K : List (Nat × AV) → Prop}, fevParts Γ s.sl xs K → ∃ l, evParts Γ s xs = some l ∧ K l
 | [], K, h => ⟨[], rfl, h⟩
 | (i, x) :: r, K, h => by
  obtain ⟨a, h1, h2⟩ := fev_ev h
  obtain ⟨l, h3, h4⟩ := fevParts_ev h2
  exact ⟨(i, a) :: l, by simp [evParts, h1, h3], h4⟩
def fevOpt (Γ : List (Nat × AV)) (sl : List (Nat × AV)) (x : Option Operand) (K : Option AV → Prop) : Prop :=
 match x with
 | none => K none
 | some x => fev Γ sl x fun a => K (some a)
theorem fevOpt_ev {Γ : List (Nat × AV)} {s : St} {x : Option Operand} {K : Option AV → Prop} (h : fevOpt Γ s.sl x K) : ∃ l, evOpt Γ s x = some l ∧ K l := by
 cases x with
 | none => exact ⟨none, rfl, h⟩
 | some x =>
  obtain ⟨a, h1, h2⟩ := fev_ev h
  exact ⟨some a, by simp [evOpt, h1], h2⟩
def fsub (sh : Option Nat) (cs : List AV) (j : Nat) (K : AV → Prop) : Prop :=
 match sh with
 | none => opt cs[j]? fun c => opt (one c) K
 | some n => takeK n (cs.drop j) fun l => K (.agg l)
theorem fsub_sub {sh : Option Nat} {cs : List AV} {j : Nat} {K : AV → Prop} (h : fsub sh cs j K) : ∃ v, sub sh cs j = some v ∧ K v := by
 unfold fsub at h
 split at h
 ·obtain ⟨c, h1, h2⟩ := opt_iff.1 h
  obtain ⟨v, h3, h4⟩ := opt_iff.1 h2
  exact ⟨v, by simp [sub, h1, h3], h4⟩
 ·obtain ⟨h1, h2⟩ := takeK_iff.1 h
  refine ⟨_, ?_, h2⟩
  simp only [sub]
  rw [h1]
  simp
def fLoad (P : Program) (mem : Mem) (t : TypeId) (p : AV) (K : AV → Prop) : Prop :=
 match p with
 | .ip u => match shp P t with
  | some sh => fsub sh u.cells 0 K
  | none => False
 | .ptr id i j => match lk mem id with
  | some (.row _ sz xs) => opt xs[i]? fun x => match shp P t with
   | some sh => match P.underlying t with
    | some (.array _ _) => match sub sh x.cells j with
     | some _ => fsub sh x.cells j K
     | none => fsub sh (flatC xs) (i * sz + j) K
    | _ => fsub sh x.cells j K
   | none => False
  | _ => False
 | _ => False
theorem fLoad_a {P : Program} {mem : Mem} {t : TypeId} {p : AV} {K : AV → Prop} (h : fLoad P mem t p K) : ∃ v, aLoad P mem t p = some v ∧ K v := by
 unfold fLoad at h
 unfold aLoad
 split at h
 ·split at h
  ·rename_i sh hsh
   obtain ⟨v, h1, h2⟩ := fsub_sub h
   exact ⟨v, by simp [hsh, h1], h2⟩
  ·exact h.elim
 ·split at h
  ·rename_i hid
   obtain ⟨x, hx, h⟩ := opt_iff.1 h
   split at h
   ·rename_i sh hsh
    split at h
    ·rename_i hu
     split at h
     ·obtain ⟨v, h1, h2⟩ := fsub_sub h
      exact ⟨v, by simp only [hid, hx, hsh, h1], h2⟩
     ·rename_i hn
      obtain ⟨v, h1, h2⟩ := fsub_sub h
      exact ⟨v, by simp only [hid, hx, hsh, hn, hu, h1], h2⟩
    ·obtain ⟨v, h1, h2⟩ := fsub_sub h
     exact ⟨v, by simp only [hid, hx, hsh, h1], h2⟩
   ·exact h.elim
  ·exact h.elim
 ·exact h.elim
def fFieldAddr (P : Program) (t : TypeId) (f : Nat) (p : AV) (K : AV → Prop) : Prop :=
 match P.underlying t with
 | some (.struct fs) => match fs[f]? with
  | some fd => match tsize P fd.type with
   | some (_ + 1) => match p with
    | .ptr id i j => natK (j + fd.offset) fun j => K (.ptr id i j)
    | .ip u => match shp P fd.type with
     | some sh => fsub sh u.cells fd.offset fun v => K (.ip v)
     | none => False
    | _ => False
   | _ => False
  | none => False
 | _ => False
theorem fFieldAddr_a {P : Program} {t : TypeId} {f : Nat} {p : AV} {K : AV → Prop} (h : fFieldAddr P t f p K) : ∃ v, aFieldAddr P t f p = some v ∧ K v := by
 unfold fFieldAddr at h
 unfold aFieldAddr
 split at h
 ·rename_i fs hu
  split at h
  ·rename_i fd hfd
   split at h
   ·rename_i n hn
    split at h
    ·exact ⟨_, by simp [hu, hfd, hn], natK_iff.1 h⟩
    ·split at h
     ·rename_i sh hsh
      obtain ⟨v, h1, h2⟩ := fsub_sub h
      exact ⟨_, by simp [hu, hfd, hn, hsh, h1], h2⟩
     ·exact h.elim
    ·exact h.elim
   ·exact h.elim
  ·exact h.elim
 ·exact h.elim
def fField (P : Program) (t : TypeId) (f : Nat) (v : AV) (K : AV → Prop) : Prop :=
 match P.underlying t with
 | some (.struct fs) => match fs[f]? with
  | some fd => match v with
   | .agg cs => match shp P fd.type with
    | some sh => fsub sh cs fd.offset K
    | none => False
   | _ => False
  | none => False
 | _ => False
theorem fField_a {P : Program} {t : TypeId} {f : Nat} {p : AV} {K : AV → Prop} (h : fField P t f p K) : ∃ v, aField P t f p = some v ∧ K v := by
 unfold fField at h
 unfold aField
 split at h
 ·rename_i fs hu
  split at h
  ·rename_i fd hfd
   split at h
   ·split at h
    ·rename_i sh hsh
     obtain ⟨v, h1, h2⟩ := fsub_sub h
     exact ⟨v, by simp [hu, hfd, hsh, h1], h2⟩
    ·exact h.elim
   ·exact h.elim
  ·exact h.elim
 ·exact h.elim
def fIndexAddr (cl : Bool) (P : Program) (mem : Mem) (t : TypeId) (p ix : AV) (K : AV → Prop) : Prop :=
 match ix with
 | .int _ n => grd (decide (0 ≤ n)) (match P.underlying t with
   | some (.slice e) => match tsize P e with
    | some sz => match p with
     | .sl id off len => match lk mem id with
      | some (.row _ _ xs) => grd (Nat.blt n.toNat len) (opt xs[off + n.toNat]? fun x => grd (Nat.beq x.cells.length sz) (fNat cl (off + n.toNat) fun m => K (.ptr id m 0)))
      | _ => False
     | .il sz' xs => opt xs[n.toNat]? fun x => grd (Nat.beq sz sz') (K (.ip x))
     | _ => False
    | none => False
   | some (.array m e) => match tsize P e, shp P e with
    | some sz, some sh => grd (Nat.blt n.toNat m) (match p with
      | .ptr id i j => match aElem mem id i j sz with
       | true => fNat cl (i + n.toNat) fun m => K (.ptr id m 0)
       | false => fNat cl (j + n.toNat * sz) fun m => K (.ptr id i m)
      | .ip u => fsub sh u.cells (n.toNat * sz) fun v => K (.ip v)
      | _ => False)
    | _, _ => False
   | _ => False)
 | _ => False
theorem fIndexAddr_a {cl : Bool} {P : Program} {mem : Mem} {t : TypeId} {p ix : AV} {K : AV → Prop} (h : fIndexAddr cl P mem t p ix K) : ∃ v, aIndexAddr P mem t p ix = some v ∧ K v := by
 unfold fIndexAddr at h
 split at h
 ·rename_i kk n
  obtain ⟨hn, h⟩ := grd_iff.1 h
  unfold aIndexAddr
  simp only [hn]
  split at h
  ·rename_i e hu
   simp only [hu]
   split at h
   ·rename_i sz hsz
    simp only [hsz]
    split at h
    ·rename_i id off len
     split at h
     ·rename_i hid
      obtain ⟨h1, h⟩ := grd_iff.1 h
      obtain ⟨x, hx, h⟩ := opt_iff.1 h
      obtain ⟨h2, h⟩ := grd_iff.1 h
      exact ⟨_, by simp [hid, h1, hx, h2], fNat_iff.1 h⟩
     ·exact h.elim
    ·obtain ⟨x, hx, h⟩ := opt_iff.1 h
     obtain ⟨h2, h⟩ := grd_iff.1 h
     exact ⟨_, by simp [hx, h2], h⟩
    ·exact h.elim
   ·exact h.elim
  ·rename_i m e hu
   simp only [hu]
   split at h
   ·rename_i sz sh hsz hsh
    simp only [hsz, hsh]
    obtain ⟨h1, h⟩ := grd_iff.1 h
    simp only [h1]
    split at h
    ·split at h
     ·rename_i he
      exact ⟨_, by simp [he], fNat_iff.1 h⟩
     ·rename_i he
      exact ⟨_, by simp [he], fNat_iff.1 h⟩
    ·obtain ⟨v, h2, h3⟩ := fsub_sub h
     exact ⟨_, by simp [h2], h3⟩
    ·exact h.elim
   ·exact h.elim
  ·exact h.elim
 ·exact h.elim
def fIndex (cl : Bool) (P : Program) (t : TypeId) (v ix : AV) (K : AV → Prop) : Prop :=
 match ix with
 | .int _ n => grd (decide (0 ≤ n)) (match P.underlying t with
   | some .string => match v with
    | .str s => opt s[n.toNat]? fun b => fInt cl .u8 (b.toNat : Int) K
    | _ => False
   | some (.array m e) => match v with
    | .agg cs => grd (Nat.blt n.toNat m) (match tsize P e, shp P e with
      | some sz, some sh => fsub sh cs (n.toNat * sz) K
      | _, _ => False)
    | _ => False
   | _ => False)
 | _ => False
theorem fIndex_a {cl : Bool} {P : Program} {t : TypeId} {p ix : AV} {K : AV → Prop} (h : fIndex cl P t p ix K) : ∃ v, aIndex P t p ix = some v ∧ K v := by
 unfold fIndex at h
 split at h
 ·rename_i kk n
  obtain ⟨hn, h⟩ := grd_iff.1 h
  unfold aIndex
  simp only [hn]
  split at h
  ·rename_i hu
   simp only [hu]
   split at h
   ·obtain ⟨b, hb, h⟩ := opt_iff.1 h
    exact ⟨_, by simp [hb], fInt_iff.1 h⟩
   ·exact h.elim
  ·rename_i m e hu
   simp only [hu]
   split at h
   ·obtain ⟨h1, h⟩ := grd_iff.1 h
    simp only [h1]
    split at h
    ·rename_i sz sh hsz hsh
     obtain ⟨v, h2, h3⟩ := fsub_sub h
     exact ⟨v, by simp [hsz, hsh, h2], h3⟩
    ·exact h.elim
   ·exact h.elim
  ·exact h.elim
 ·exact h.elim
def fIntOp (cl : Bool) (op : BinOp) (k : IntKind) (x y : Int) (K : AV → Prop) : Prop :=
 match op with
 | .add => fInt cl k (k.wrap (x + y)) K
 | .sub => fInt cl k (k.wrap (x - y)) K
 | .mul => fInt cl k (k.wrap (x * y)) K
 | .quo => grd (!decide (y = 0)) (fInt cl k (k.wrap (x.tdiv y)) K)
 | .rem => grd (!decide (y = 0)) (fInt cl k (x.tmod y) K)
 | .and => fInt cl k (bits .and k x y) K
 | .or => fInt cl k (bits .or k x y) K
 | .xor => fInt cl k (bits .xor k x y) K
 | .andNot => fInt cl k (bits .andNot k x y) K
 | .eql => fBool cl (x == y) K
 | .neq => fBool cl (x != y) K
 | .lss => fBool cl (decide (x < y)) K
 | .leq => fBool cl (decide (x ≤ y)) K
 | .gtr => fBool cl (decide (x > y)) K
 | .geq => fBool cl (decide (x ≥ y)) K
 | _ => False
theorem fIntOp_a {cl : Bool} {op : BinOp} {k : IntKind} {x y : Int} {K : AV → Prop} (h : fIntOp cl op k x y K) : ∃ v, aIntOp op k x y = some v ∧ K v := by
  cases op <;> simp only [fIntOp, fInt_iff, fBool_iff] at h <;> simp only [aIntOp] <;> first
    | exact h.elim
    | exact ⟨_, rfl, h⟩
    | (obtain ⟨h1, h2⟩ := grd_iff.1 h
       have : decide (y = 0) = false := by simpa using h1
       rw [this]
       exact ⟨_, rfl, h2⟩)
def fStrOp (cl : Bool) (op : BinOp) (x y : List UInt8) (K : AV → Prop) : Prop :=
 match op with
 | .add => grd (Nat.ble (x.length + y.length) 9223372036854775807) (match cl with
   | true => appK x y fun l => K (.str l)
   | false => K (.str (x ++ y)))
 | .eql => fBool cl (x == y) K
 | .neq => fBool cl (!(x == y)) K
 | .lss => fBool cl (Op.bytesLess x y) K
 | .leq => fBool cl (Op.bytesLess x y || x == y) K
 | .gtr => fBool cl (!(Op.bytesLess x y || x == y)) K
 | .geq => fBool cl (!(Op.bytesLess x y)) K
 | _ => False
theorem fStrOp_a {cl : Bool} {op : BinOp} {x y : List UInt8} {K : AV → Prop} (h : fStrOp cl op x y K) : ∃ v, aStrOp op x y = some v ∧ K v := by
  cases op <;> simp only [fStrOp, fBool_iff] at h <;> simp only [aStrOp] <;> first
    | exact h.elim
    | exact ⟨_, rfl, h⟩
    | (obtain ⟨h1, h2⟩ := grd_iff.1 h
       have h1' : decide ((x.length : Int) + y.length ≤ 9223372036854775807) = true := by have := Nat.le_of_ble_eq_true h1; simp; omega
       rw [h1']
       refine ⟨_, rfl, ?_⟩
       cases cl
       · exact h2
       · exact appK_iff.1 h2)
def fShift (cl : Bool) (op : BinOp) (k : IntKind) (x y : Int) (K : AV → Prop) : Prop :=
 grd (!decide (y < 0)) (match op with
  | .shl => fInt cl k (k.wrap (x * 2 ^ (min y.toNat k.bits))) K
  | .shr => fInt cl k (x.fdiv (2 ^ (min y.toNat k.bits))) K
  | _ => False)
theorem fShift_a {cl : Bool} {op : BinOp} {k : IntKind} {x y : Int} {K : AV → Prop} (h : fShift cl op k x y K) : ∃ v, aShift op k x y = some v ∧ K v := by
 obtain ⟨h1, h2⟩ := grd_iff.1 h
 have h1 : decide (y < 0) = false := by simpa using h1
 unfold aShift
 rw [h1]
 cases op <;> simp only [fInt_iff] at h2 <;> first | exact h2.elim | exact ⟨_, rfl, h2⟩
def fBin (cl : Bool) (P : Program) (op : BinOp) (t : TypeId) (xo yo : Operand) (x y : AV) (K : AV → Prop) : Prop :=
 match x, y with
 | .int k a, .int k' b => match op with
  | .shl => fShift cl .shl k a b K
  | .shr => fShift cl .shr k a b K
  | _ => grd (decide (k = k')) (fIntOp cl op k a b K)
 | .str a, .str b => fStrOp cl op a b K
 | .agg a, .agg b => match P.eqGuardType P.depth t with
  | false => match op with
   | .eql => opt (aEqS P t a b) fun r => fBool cl r K
   | .neq => opt (aEqS P t a b) fun r => fBool cl (!r) K
   | _ => False
  | true => False
 | x, y => match op with
  | .eql => opt (aEq P (isConst xo || isConst yo) t x y) fun b => fBool cl b K
  | .neq => opt (aEq P (isConst xo || isConst yo) t x y) fun b => fBool cl (!b) K
  | _ => False
theorem fBin_a {cl : Bool} {P : Program} {op : BinOp} {t : TypeId} {xo yo : Operand} {x y : AV} {K : AV → Prop} (h : fBin cl P op t xo yo x y K) : ∃ v, aBin P op t xo yo x y = some v ∧ K v := by
 unfold fBin at h
 unfold aBin
 split at h
 ·split at h
  ·exact fShift_a h
  ·exact fShift_a h
  ·obtain ⟨h1, h2⟩ := grd_iff.1 h
   simp only [h1]
   obtain ⟨v, h3, h4⟩ := fIntOp_a h2
   refine ⟨v, ?_, h4⟩
   cases op <;> first | exact h3 | contradiction
 ·exact fStrOp_a h
 ·split at h
  ·rename_i hg
   simp only [hg]
   split at h
   ·obtain ⟨b, hb, h⟩ := opt_iff.1 h
    exact ⟨.bool b, by simp only [hb], fBool_iff.1 h⟩
   ·obtain ⟨b, hb, h⟩ := opt_iff.1 h
    exact ⟨.bool (!b), by simp only [hb], fBool_iff.1 h⟩
   ·exact h.elim
  ·exact h.elim
 ·rename_i h1 h2 h3
  split at h
  ·obtain ⟨b, hb, h⟩ := opt_iff.1 h
   refine ⟨.bool b, ?_, fBool_iff.1 h⟩
   cases x <;> cases y <;> first | (simp only [hb]; done) | (exact (h1 _ _ _ _ rfl rfl).elim) | (exact (h2 _ _ rfl rfl).elim) | (exact (h3 _ _ rfl rfl).elim)
  ·obtain ⟨b, hb, h⟩ := opt_iff.1 h
   refine ⟨.bool (!b), ?_, fBool_iff.1 h⟩
   cases x <;> cases y <;> first | (simp only [hb]; done) | (exact (h1 _ _ _ _ rfl rfl).elim) | (exact (h2 _ _ rfl rfl).elim) | (exact (h3 _ _ rfl rfl).elim)
  ·exact h.elim
def fUn (cl : Bool) (op : UnOp) (x : AV) (K : AV → Prop) : Prop :=
 match op, x with
 | .neg, .int k n => fInt cl k (k.wrap (0 - n)) K
 | .not, .bool b => fBool cl (!b) K
 | _, _ => False
theorem fUn_a {cl : Bool} {op : UnOp} {x : AV} {K : AV → Prop} (h : fUn cl op x K) : ∃ v, aUn op x = some v ∧ K v := by
 unfold fUn at h
 split at h
 ·exact ⟨_, rfl, fInt_iff.1 h⟩
 ·exact ⟨_, rfl, fBool_iff.1 h⟩
 ·exact h.elim
def fConv (cl : Bool) (P : Program) (mem : Mem) (src dst : TypeId) (x : AV) (K : AV → Prop) : Prop :=
 match P.underlying src with
 | none => False
 | some d => match P.underlying dst with
  | some (.int k) => match x with
   | .int _ n => fInt cl k (k.wrap n) K
   | _ => False
  | some .string => match x with
   | .str s => K (.str s)
   | .nsl => match d with
    | .slice e => match P.underlying e with
     | some (.int .u8) => K (.str [])
     | _ => False
    | _ => False
   | .il sz xs => match d with
    | .slice e => match P.underlying e with
     | some (.int .u8) => grd (Nat.beq sz 1) (opt (toBytes xs) fun l => fList cl l fun l => K (.str l))
     | _ => False
    | _ => False
   | .sl id off len => match d with
    | .slice e => match P.underlying e with
     | some (.int .u8) => match lk mem id with
      | some (.row _ _ xs) => grd (Nat.ble (off + len) xs.length) (opt (toBytes ((xs.drop off).take len)) fun l => fList cl l fun l => K (.str l))
      | _ => False
     | _ => False
    | _ => False
   | _ => False
  | some .unsafePointer => opt (aToU P mem d x) K
  | some (.pointer u) => opt (aFromU P mem d u x) K
  | _ => False
theorem fConv_a {cl : Bool} {P : Program} {mem : Mem} {src dst : TypeId} {x : AV} {K : AV → Prop} (h : fConv cl P mem src dst x K) : ∃ v, aConv P mem src dst x = some v ∧ K v := by
 unfold fConv at h
 split at h
 ·exact h.elim
 ·rename_i d hd
  unfold aConv
  simp only [hd]
  split at h
  ·rename_i k hu
   simp only [hu]
   split at h
   ·exact ⟨_, rfl, fInt_iff.1 h⟩
   ·exact h.elim
  ·rename_i hu
   simp only [hu]
   split at h
   ·exact ⟨_, rfl, h⟩
   ·split at h
    ·split at h
     ·rename_i he; exact ⟨_, by simp only [he], h⟩
     ·exact h.elim
    ·exact h.elim
   ·split at h
    ·split at h
     ·rename_i he
      obtain ⟨h1, h⟩ := grd_iff.1 h
      obtain ⟨l, h2, h⟩ := opt_iff.1 h
      exact ⟨_, by simp only [he, h1, h2], fList_iff.1 h⟩
     ·exact h.elim
    ·exact h.elim
   ·split at h
    ·split at h
     ·rename_i he
      split at h
      ·rename_i hid
       obtain ⟨h1, h⟩ := grd_iff.1 h
       obtain ⟨l, h2, h⟩ := opt_iff.1 h
       exact ⟨_, by simp only [he, hid, h1, h2], fList_iff.1 h⟩
      ·exact h.elim
     ·exact h.elim
    ·exact h.elim
   ·exact h.elim
  ·rename_i hu
   simp only [hu]
   obtain ⟨v, h1, h⟩ := opt_iff.1 h
   exact ⟨v, h1, h⟩
  ·rename_i u hu
   simp only [hu]
   obtain ⟨v, h1, h⟩ := opt_iff.1 h
   exact ⟨v, h1, h⟩
  ·exact h.elim
def putAtK : List AV → Nat → List AV → (List AV → Prop) → Prop
 | cells, _, [], K => K cells
 | cells, off, v :: r, K => setK cells off v fun c => putAtK c (off + 1) r K
theorem putAt_fold (off : Nat) : ∀ (vs : List AV) (k : Nat) (cells : List AV) (K : List AV → Prop), putAtK cells (off + k) vs K ↔ K ((vs.zipIdx k).foldl (fun cs p => cs.set (off + p.2) p.1) cells)
 | [], k, cells, K => Iff.rfl
 | v :: r, k, cells, K => by
  simp only [putAtK, setK_iff, List.zipIdx_cons, List.foldl_cons]
  have := putAt_fold off r (k + 1) (cells.set (off + k) v) K
  rw [← Nat.add_assoc] at this
  exact this
def fFill (place : Nat → Option (Nat × Nat)) : List AV → List (Nat × AV) → (List AV → Prop) → Prop
 | cells, [], K => K cells
 | cells, (i, v) :: r, K => match place i with
  | none => False
  | some (off, size) => grd (okVal v && (Nat.beq v.cells.length size && Nat.ble (off + v.cells.length) cells.length)) (putAtK cells off v.cells fun cs => fFill place cs r K)
theorem fFill_a {place : Nat → Option (Nat × Nat)} : ∀ {parts : List (Nat × AV)} {cells : List AV} {K : List AV → Prop}, fFill place cells parts K → ∃ l, aFill place cells parts = some l ∧ K l
 | [], cells, K, h => ⟨cells, by simp [aFill], h⟩
 | (i, v) :: r, cells, K, h => by
  simp only [fFill] at h
  simp only [aFill]
  split at h
  ·exact h.elim
  ·rename_i off size hp
   obtain ⟨h1, h2⟩ := grd_iff.1 h
   have h3 := (putAt_fold off v.cells 0 cells _).1 h2
   obtain ⟨l, h4, h5⟩ := fFill_a h3
   exact ⟨l, by simp only [hp, h1]; exact h4, h5⟩
def fBuild (P : Program) (t : TypeId) (parts : List (Nat × AV)) (K : AV → Prop) : Prop :=
 match P.info? t with
 | some it => match it.zero with
  | some z => match ofVal z with
   | some (.agg zs) => match P.underlying t with
    | some (.array _ e) => match tsize P e with
     | some n => fFill (fun i => some (i * n, n)) zs parts fun cs => K (.agg cs)
     | none => False
    | some (.struct fs) => match aPlaces P fs.toList with
     | some places => fFill (fun i => places[i]?) zs parts fun cs => K (.agg cs)
     | none => False
    | _ => False
   | _ => False
  | none => False
 | none => False
theorem fBuild_a {P : Program} {t : TypeId} {parts : List (Nat × AV)} {K : AV → Prop} (h : fBuild P t parts K) : ∃ v, aBuild P t parts = some v ∧ K v := by
 unfold fBuild at h
 unfold aBuild
 split at h
 ·rename_i it h1
  simp only [h1]
  split at h
  ·rename_i z h2
   simp only [h2]
   split at h
   ·rename_i zs h3
    simp only [h3]
    split at h
    ·rename_i e h4
     simp only [h4]
     split at h
     ·rename_i n h5
      simp only [h5]
      obtain ⟨l, h6, h7⟩ := fFill_a h
      exact ⟨_, by rw [h6], h7⟩
     ·exact h.elim
    ·rename_i fs h4
     simp only [h4]
     split at h
     ·rename_i n h5
      simp only [h5]
      obtain ⟨l, h6, h7⟩ := fFill_a h
      exact ⟨_, by rw [h6], h7⟩
     ·exact h.elim
    ·exact h.elim
   ·exact h.elim
  ·exact h.elim
 ·exact h.elim
def fBound (d : Nat) (x : Option AV) (K : Nat → Prop) : Prop :=
 match x with
 | none => K d
 | some (.int _ n) => grd (decide (0 ≤ n)) (K n.toNat)
 | some _ => False
theorem fBound_a {d : Nat} {x : Option AV} {K : Nat → Prop} (h : fBound d x K) : ∃ n, aBound d x = some n ∧ K n := by
 unfold fBound at h
 split at h
 ·exact ⟨_, rfl, h⟩
 ·obtain ⟨h1, h2⟩ := grd_iff.1 h
  exact ⟨_, by simp only [aBound, h1], h2⟩
 ·exact h.elim
def fSlice (cl : Bool) (P : Program) (mem : Mem) (t : TypeId) (x : AV) (lo hi mx : Option AV) (K : AV → Prop) : Prop :=
 match P.underlying t with
 | some .string => match x, mx with
  | .str s, none => fBound 0 lo fun l => fBound s.length hi fun h => grd (Nat.ble l h && Nat.ble h s.length) (fList cl ((s.drop l).take (h - l)) fun s => K (.str s))
  | _, _ => False
 | some (.slice e) => match tsize P e with
  | none => False
  | some sz => match x with
   | .nsl => fBound 0 lo fun l => fBound 0 hi fun h => fBound 0 mx fun m => grd (Nat.beq l 0 && (Nat.beq h 0 && Nat.beq m 0)) (K .nsl)
   | .il sz' xs => grd (Nat.beq sz sz') (fBound 0 lo fun l => fBound xs.length hi fun h => fBound xs.length mx fun m => grd (Nat.ble l h && (Nat.ble h m && Nat.ble m xs.length)) (fList cl ((xs.drop l).take (h - l)) fun ys => K (.il sz' ys)))
   | .sl id off len => match lk mem id with
    | some (.row _ sz0 _) => grd (Nat.beq sz0 sz) (fBound 0 lo fun l => fBound len hi fun h => fBound len mx fun m => grd (Nat.ble l h && (Nat.ble h m && Nat.ble m len)) (fNat cl (off + l) fun o => fNat cl (h - l) fun n => K (.sl id o n)))
    | _ => False
   | _ => False
 | some (.array n e) => match tsize P e with
  | none => False
  | some sz => match x with
   | .ptr id i 0 => match lk mem id with
    | some (.row _ _ xs) => grd (aElem mem id i 0 sz && Nat.ble (i + n) xs.length) (fBound 0 lo fun l => fBound n hi fun h => fBound n mx fun m => grd (Nat.ble l h && (Nat.ble h m && Nat.ble m n)) (fNat cl (i + l) fun o => fNat cl (h - l) fun n => K (.sl id o n)))
    | _ => False
   | _ => False
 | _ => False
theorem fSlice_a {cl : Bool} {P : Program} {mem : Mem} {t : TypeId} {x : AV} {lo hi mx : Option AV} {K : AV → Prop} (h : fSlice cl P mem t x lo hi mx K) : ∃ v, aSlice P mem t x lo hi mx = some v ∧ K v := by
 unfold fSlice at h
 unfold aSlice
 split at h
 ·rename_i hu
  simp only [hu]
  split at h
  ·rename_i s
   obtain ⟨l, h1, h⟩ := fBound_a h
   obtain ⟨h', h2, h⟩ := fBound_a h
   obtain ⟨h3, h⟩ := grd_iff.1 h
   exact ⟨_, by simp only [h1, h2, h3], fList_iff.1 h⟩
  ·exact h.elim
 ·rename_i e hu
  simp only [hu]
  split at h
  ·exact h.elim
  ·rename_i sz hsz
   simp only [hsz]
   split at h
   ·obtain ⟨l, h1, h⟩ := fBound_a h
    obtain ⟨h', h2, h⟩ := fBound_a h
    obtain ⟨m, h3, h⟩ := fBound_a h
    obtain ⟨h4, h⟩ := grd_iff.1 h
    simp only [Bool.and_eq_true] at h4
    obtain ⟨a1, a2, a3⟩ := h4
    rw [Nat.eq_of_beq_eq_true a1] at h1
    rw [Nat.eq_of_beq_eq_true a2] at h2
    rw [Nat.eq_of_beq_eq_true a3] at h3
    exact ⟨_, by simp only [h1, h2, h3], h⟩
   ·obtain ⟨h0, h⟩ := grd_iff.1 h
    obtain ⟨l, h1, h⟩ := fBound_a h
    obtain ⟨h', h2, h⟩ := fBound_a h
    obtain ⟨m, h3, h⟩ := fBound_a h
    obtain ⟨h4, h⟩ := grd_iff.1 h
    exact ⟨_, by simp only [h0, h1, h2, h3, h4], fList_iff.1 h⟩
   ·split at h
    ·rename_i hid
     obtain ⟨h0, h⟩ := grd_iff.1 h
     obtain ⟨l, h1, h⟩ := fBound_a h
     obtain ⟨h', h2, h⟩ := fBound_a h
     obtain ⟨m, h3, h⟩ := fBound_a h
     obtain ⟨h4, h⟩ := grd_iff.1 h
     exact ⟨_, by simp only [hid, h0, h1, h2, h3, h4], fNat_iff.1 (fNat_iff.1 h)⟩
    ·exact h.elim
   ·exact h.elim
 ·rename_i n e hu
  simp only [hu]
  split at h
  ·exact h.elim
  ·rename_i sz hsz
   simp only [hsz]
   split at h
   ·split at h
    ·rename_i hid
     obtain ⟨h0, h⟩ := grd_iff.1 h
     obtain ⟨l, h1, h⟩ := fBound_a h
     obtain ⟨h', h2, h⟩ := fBound_a h
     obtain ⟨m, h3, h⟩ := fBound_a h
     obtain ⟨h4, h⟩ := grd_iff.1 h
     exact ⟨_, by simp only [hid, h0, h1, h2, h3, h4], fNat_iff.1 (fNat_iff.1 h)⟩
    ·exact h.elim
   ·exact h.elim
 ·exact h.elim
def chunkK (sz : Nat) (sh : Option Nat) : Nat → List AV → (List AV → Prop) → Prop
 | 0, _, K => K []
 | m + 1, cs, K => fsub sh cs 0 fun x => chunkK sz sh m (cs.drop sz) fun l => K (x :: l)
theorem chunkK_a {sz : Nat} {sh : Option Nat} : ∀ {m : Nat} {cs : List AV} {K : List AV → Prop}, chunkK sz sh m cs K → ∃ l, chunk sz sh m cs = some l ∧ K l
 | 0, cs, K, h => ⟨[], rfl, h⟩
 | m + 1, cs, K, h => by
  obtain ⟨x, h1, h⟩ := fsub_sub h
  obtain ⟨l, h2, h⟩ := chunkK_a h
  exact ⟨_, by simp only [chunk, h1, h2], h⟩
def cnt {α : Type} : List α → Nat → Nat
 | [], n => n
 | _ :: r, n => cnt r (n + 1)
theorem cnt_eq {α : Type} : ∀ (l : List α) (n : Nat), cnt l n = l.length + n
 | [], n => by simp [cnt]
 | _ :: r, n => by simp [cnt, cnt_eq r]; omega
def fRow (P : Program) (t : TypeId) (v : AV) (K : Nat → List AV → Prop) : Prop :=
 match P.underlying t with
 | some (.array m e) => match v with
  | .agg cs => match tsize P e, shp P e with
   | some sz, some sh => grd (Nat.beq (sh.getD 1) sz && (Nat.blt 0 sz && Nat.beq cs.length (m * sz))) (chunkK sz sh m cs fun xs => K sz xs)
   | _, _ => False
  | _ => False
 | some _ => grd (okVal v) (match v.cells with
  | [] => K 0 []
  | _ :: _ => natK (cnt v.cells 0) fun n => K n [v])
 | none => False
theorem fRow_a {P : Program} {t : TypeId} {v : AV} {K : Nat → List AV → Prop} (h : fRow P t v K) : ∃ sz xs, asRow P t v = some (sz, xs) ∧ K sz xs := by
 unfold fRow at h
 unfold asRow
 split at h
 ·rename_i m e hu
  simp only [hu]
  split at h
  ·split at h
   ·rename_i sz sh h1 h2
    simp only [h1, h2]
    obtain ⟨h3, h⟩ := grd_iff.1 h
    obtain ⟨l, h4, h⟩ := chunkK_a h
    exact ⟨_, _, by simp only [h3, h4], h⟩
   ·exact h.elim
  ·exact h.elim
 ·rename_i d hna hu
  simp only [hu]
  obtain ⟨h1, h⟩ := grd_iff.1 h
  split at h
  ·rename_i hc
   refine ⟨_, _, ?_, h⟩
   cases hd : d <;> first | (exact (hna _ _ hd).elim) | simp only [h1, hc]
  ·rename_i c cs hc
   have h := natK_iff.1 h
   rw [cnt_eq, Nat.add_zero] at h
   refine ⟨_, _, ?_, h⟩
   cases hd : d <;> first | (exact (hna _ _ hd).elim) | simp only [h1, hc]
 ·exact h.elim
def fAlloc (P : Program) (mem : Mem) (nx : Nat) (t : TypeId) (K : AV → Mem → Nat → Prop) : Prop :=
 match P.info? t with
 | some i => match i.zero with
  | some z => match ofVal z with
   | some v => fRow P t v fun sz xs => natK (nx + 1) fun n => K (.ptr nx 0 0) ((nx, .row t sz xs) :: mem) n
   | none => False
  | none => False
 | none => False
theorem fAlloc_a {P : Program} {mem : Mem} {nx : Nat} {t : TypeId} {K : AV → Mem → Nat → Prop} (h : fAlloc P mem nx t K) : ∃ v m n, aAlloc P mem nx t = some (v, m, n) ∧ K v m n := by
 unfold fAlloc at h
 unfold aAlloc
 split at h
 ·rename_i i h1
  simp only [h1]
  split at h
  ·rename_i z h2
   simp only [h2]
   split at h
   ·rename_i v h3
    simp only [h3]
    obtain ⟨sz, xs, h4, h⟩ := fRow_a h
    exact ⟨_, _, _, by simp only [h4], natK_iff.1 h⟩
   ·exact h.elim
  ·exact h.elim
 ·exact h.elim
def fBox (P : Program) (mem : Mem) (nx : Nat) (t : TypeId) (v : AV) (K : AV → Mem → Nat → Prop) : Prop :=
 fRow P t v fun sz xs => natK (nx + 1) fun n => K (.ptr nx 0 0) ((nx, .row t sz xs) :: mem) n
theorem fBox_a {P : Program} {mem : Mem} {nx : Nat} {t : TypeId} {v : AV} {K : AV → Mem → Nat → Prop} (h : fBox P mem nx t v K) : ∃ r m n, aBox P mem nx t v = some (r, m, n) ∧ K r m n := by
 obtain ⟨sz, xs, h4, h⟩ := fRow_a h
 exact ⟨_, _, _, by simp only [aBox, h4], natK_iff.1 h⟩
def fElems (sz : Nat) : List AV → List (Nat × AV) → (List AV → Prop) → Prop
 | xs, [], K => K xs
 | xs, (i, v) :: r, K => grd (okVal v && (Nat.beq v.cells.length sz && Nat.blt i xs.length)) (setK xs i v fun xs => fElems sz xs r K)
theorem fElems_a {sz : Nat} : ∀ {parts : List (Nat × AV)} {xs : List AV} {K : List AV → Prop}, fElems sz xs parts K → ∃ l, aElems sz xs parts = some l ∧ K l
 | [], xs, K, h => ⟨xs, by simp [aElems], h⟩
 | (i, v) :: r, xs, K, h => by
  obtain ⟨h1, h⟩ := grd_iff.1 h
  obtain ⟨l, h2, h⟩ := fElems_a (setK_iff.1 h)
  exact ⟨l, by simp only [aElems, h1]; exact h2, h⟩
def fBuildSlice (P : Program) (mem : Mem) (nx : Nat) (t : TypeId) (len : Nat) (parts : List (Nat × AV)) (K : AV → Mem → Nat → Prop) : Prop :=
 match P.underlying t with
 | some (.slice e) => match tsize P e, zeroAV P e with
  | some sz, some z => grd (okVal z && (Nat.beq z.cells.length sz && (Nat.blt 0 sz && Nat.ble (len * sz) 16777216))) (listK (List.replicate len z) fun zs => fElems sz zs parts fun xs => natK (nx + 1) fun n => K (.sl nx 0 len) ((nx, .row e sz xs) :: mem) n)
  | _, _ => False
 | _ => False
theorem fBuildSlice_a {P : Program} {mem : Mem} {nx : Nat} {t : TypeId} {len : Nat} {parts : List (Nat × AV)} {K : AV → Mem → Nat → Prop} (h : fBuildSlice P mem nx t len parts K) : ∃ v m n, aBuildSlice P mem nx t len parts = some (v, m, n) ∧ K v m n := by
 unfold fBuildSlice at h
 unfold aBuildSlice
 split at h
 ·rename_i e hu
  simp only [hu]
  split at h
  ·rename_i sz z h1 h2
   simp only [h1, h2]
   obtain ⟨h3, h⟩ := grd_iff.1 h
   obtain ⟨l, h4, h⟩ := fElems_a (listK_iff.1 h)
   exact ⟨_, _, _, by simp only [h3, h4], natK_iff.1 h⟩
  ·exact h.elim
 ·exact h.elim
def spliceK : List AV → Nat → List AV → (List AV → Prop) → Prop
 | [], _, cs, K => K cs
 | x :: r, 0, [], K => K (x :: r)
 | _ :: r, 0, c :: cs, K => spliceK r 0 cs fun l => K (c :: l)
 | x :: r, j + 1, cs, K => spliceK r j cs fun l => K (x :: l)
theorem spliceK_iff : ∀ {xs : List AV} {j : Nat} {cs : List AV} {K : List AV → Prop}, spliceK xs j cs K ↔ K (xs.take j ++ cs ++ xs.drop (j + cs.length))
 | [], j, cs, K => by simp [spliceK]
 | x :: r, 0, [], K => by simp [spliceK]
 | x :: r, 0, c :: cs, K => by simp [spliceK, spliceK_iff]
 | x :: r, j + 1, cs, K => by simp [spliceK, spliceK_iff, Nat.add_right_comm]
def fSetCells (x : AV) (j : Nat) (cs : List AV) (K : AV → Prop) : Prop :=
 match x with
 | .agg xs => spliceK xs j cs fun l => K (.agg l)
 | _ => match cs with
  | [c] => opt (one c) K
  | _ => False
theorem fSetCells_a {x : AV} {j : Nat} {cs : List AV} {K : AV → Prop} (h : fSetCells x j cs K) : ∃ v, setCells x j cs = some v ∧ K v := by
 unfold fSetCells at h
 unfold setCells
 split at h
 ·exact ⟨_, rfl, spliceK_iff.1 h⟩
 ·rename_i hx
  split at h
  ·obtain ⟨v, h1, h2⟩ := opt_iff.1 h
   refine ⟨v, ?_, h2⟩
   cases x <;> first | exact h1 | exact (hx _ rfl).elim
  ·exact h.elim
def forceK : Mem → (Mem → Prop) → Prop
 | [], K => K []
 | p :: r, K => forceK r fun r => K (p :: r)
theorem forceK_iff : ∀ {m : Mem} {K : Mem → Prop}, forceK m K ↔ K m
 | [], K => Iff.rfl
 | p :: r, K => by simp only [forceK]; exact forceK_iff
def fStore1 (P : Program) (mem : Mem) (t : TypeId) (p v : AV) (K : Mem → Prop) : Prop :=
 match p with
 | .ptr id i j => match lk mem id with
  | some (.row t' sz' xs) => opt xs[i]? fun x => match tsize P t with
   | some n => grd (okVal v && (Nat.beq v.cells.length n && Nat.ble (j + n) x.cells.length)) (fSetCells x j v.cells fun x' => setK xs i x' fun xs' => upK mem id (.row t' sz' xs') K)
   | none => False
  | _ => False
 | _ => False
theorem fStore1_a {P : Program} {mem : Mem} {t : TypeId} {p v : AV} {K : Mem → Prop} (h : fStore1 P mem t p v K) : ∃ m, aStore1 P mem t p v = some m ∧ K m := by
 unfold fStore1 at h
 unfold aStore1
 split at h
 ·split at h
  ·rename_i hid
   obtain ⟨x, hx, h⟩ := opt_iff.1 h
   split at h
   ·rename_i n hn
    obtain ⟨h1, h⟩ := grd_iff.1 h
    obtain ⟨x', h2, h⟩ := fSetCells_a h
    exact ⟨_, by simp only [hid, hx, hn, h1, h2], upK_iff.1 (setK_iff.1 h)⟩
   ·exact h.elim
  ·exact h.elim
 ·exact h.elim
def fStore (P : Program) (mem : Mem) (t : TypeId) (p v : AV) (K : Mem → Prop) : Prop :=
 match P.underlying t with
 | some (.array _ _) => opt (aStore P mem t p v) fun m => forceK m K
 | _ => match v.cells with
  | [] => opt (aStoreZ P mem t p v) K
  | _ :: _ => fStore1 P mem t p v K
theorem fStore_a {P : Program} {mem : Mem} {t : TypeId} {p v : AV} {K : Mem → Prop} (h : fStore P mem t p v K) : ∃ m, aStore P mem t p v = some m ∧ K m := by
 unfold fStore at h
 split at h
 ·obtain ⟨m, h1, h⟩ := opt_iff.1 h
  exact ⟨m, h1, forceK_iff.1 h⟩
 ·split at h
  ·obtain ⟨m, h1, h⟩ := opt_iff.1 h
   exact ⟨m, by simp only [aStore, h1], h⟩
  ·rename_i hc
   obtain ⟨m, h1, h⟩ := fStore1_a h
   have hz : aStoreZ P mem t p v = none := by
    unfold aStoreZ
    split <;> first | rfl | skip
    split <;> first | rfl | skip
    split <;> first | rfl | skip
    rw [hc]
   exact ⟨m, by simp only [aStore, hz, h1], h⟩
def fMake (cl : Bool) (P : Program) (mem : Mem) (nx : Nat) (t : TypeId) (l c : AV) (K : AV → Mem → Nat → Prop) : Prop :=
 match l, c with
 | .int _ l, .int _ c => match P.underlying t with
  | some (.slice e) => match P.info? e with
   | some i => match zeroAV P e with
    | some z => grd (okVal z && (Nat.beq z.cells.length i.size && (Nat.blt 0 i.size && (decide (0 ≤ l) && (decide (l ≤ c) && (decide ((i.bytes : Int) * c ≤ 281474976710656) && decide (c ≤ 9223372036854775807)))))))
      (natK (nx + 1) fun n => fList cl (List.replicate l.toNat z) fun zs => fNat cl l.toNat fun m => K (.sl nx 0 m) ((nx, .row e i.size zs) :: mem) n)
    | none => False
   | none => False
  | _ => False
 | _, _ => False
theorem fMake_a {cl : Bool} {P : Program} {mem : Mem} {nx : Nat} {t : TypeId} {l c : AV} {K : AV → Mem → Nat → Prop} (h : fMake cl P mem nx t l c K) : ∃ v m n, aMake P mem nx t l c = some (v, m, n) ∧ K v m n := by
 unfold fMake at h
 split at h
 ·unfold aMake
  split at h
  ·rename_i e hu
   simp only [hu]
   split at h
   ·rename_i i h1
    simp only [h1]
    split at h
    ·rename_i z h2
     simp only [h2]
     obtain ⟨h3, h⟩ := grd_iff.1 h
     have h4 := fNat_iff.1 (fList_iff.1 (natK_iff.1 h))
     exact ⟨_, _, _, by simp only [h3], h4⟩
    ·exact h.elim
   ·exact h.elim
  ·exact h.elim
 ·exact h.elim
def fSrc (cl : Bool) (mem : Mem) (sz : Nat) (x : AV) (K : List AV → Prop) : Prop :=
 match x with
 | .nsl => K []
 | .il sz' ys => grd (Nat.beq sz' sz) (K ys)
 | .sl id off len => match lk mem id with
  | some (.row _ sz' xs) => grd (Nat.beq sz' sz && Nat.ble (off + len) xs.length) (fList cl ((xs.drop off).take len) K)
  | _ => False
 | .str s => grd (Nat.beq sz 1) (fList cl (s.map fun b => .int .u8 (b.toNat : Int)) K)
 | _ => False
theorem fSrc_a {cl : Bool} {mem : Mem} {sz : Nat} {x : AV} {K : List AV → Prop} (h : fSrc cl mem sz x K) : ∃ l, aSrc mem sz x = some l ∧ K l := by
 unfold fSrc at h
 unfold aSrc
 split at h
 ·exact ⟨_, rfl, h⟩
 ·obtain ⟨h1, h⟩ := grd_iff.1 h
  exact ⟨_, by simp only [h1], h⟩
 ·split at h
  ·rename_i hid
   obtain ⟨h1, h⟩ := grd_iff.1 h
   exact ⟨_, by simp only [hid, h1], fList_iff.1 h⟩
  ·exact h.elim
 ·obtain ⟨h1, h⟩ := grd_iff.1 h
  exact ⟨_, by simp only [h1], fList_iff.1 h⟩
 ·exact h.elim
def fApp (cl : Bool) (xs ys : List AV) (K : List AV → Prop) : Prop :=
 match cl with
 | true => appK xs ys K
 | false => K (xs ++ ys)
theorem fApp_iff {cl : Bool} {xs ys : List AV} {K : List AV → Prop} : fApp cl xs ys K ↔ K (xs ++ ys) := by cases cl <;> simp [fApp, appK_iff]
def fAppend (cl : Bool) (P : Program) (mem : Mem) (nx : Nat) (t u : TypeId) (s x : AV) (K : AV → Mem → Nat → Prop) : Prop :=
 match P.underlying t with
 | some (.slice e) => match P.info? e with
  | some i => match i.zero with
   | some z => grd (notInt (P.underlying u) && (Nat.blt 0 i.size && Nat.beq z.cells.size i.size)) (fSrc cl mem i.size x fun ys => match s with
     | .nsl => grd (Nat.ble (ys.length * i.bytes) 140737488355328 && Nat.ble ys.length 9223372036854775807) (fNat cl ys.length fun l => natK (nx + 1) fun n => K (.sl nx 0 l) ((nx, .row e i.size ys) :: mem) n)
     | .sl id 0 len => match lk mem id with
      | some (.row t' sz' xs) => grd (Nat.beq t' e && (Nat.beq sz' i.size && (Nat.beq len xs.length && (Nat.ble ((len + ys.length) * i.bytes) 140737488355328 && Nat.ble (len + ys.length) 9223372036854775807))))
        (fApp cl xs ys fun zs => fNat cl (len + ys.length) fun l => natK (nx + 1) fun n => dropK id mem fun m => K (.sl nx 0 l) ((nx, .row e i.size zs) :: m) n)
      | _ => False
     | _ => False)
   | none => False
  | none => False
 | _ => False
theorem fAppend_a {cl : Bool} {P : Program} {mem : Mem} {nx : Nat} {t u : TypeId} {s x : AV} {K : AV → Mem → Nat → Prop} (h : fAppend cl P mem nx t u s x K) : ∃ v m n, aAppend P mem nx t u s x = some (v, m, n) ∧ K v m n := by
 unfold fAppend at h
 unfold aAppend
 split at h
 ·rename_i e hu
  simp only [hu]
  split at h
  ·rename_i i h1
   simp only [h1]
   split at h
   ·rename_i z h2
    simp only [h2]
    obtain ⟨h3, h⟩ := grd_iff.1 h
    simp only [h3]
    obtain ⟨ys, h4, h⟩ := fSrc_a h
    simp only [h4]
    split at h
    ·obtain ⟨h5, h⟩ := grd_iff.1 h
     exact ⟨_, _, _, by simp only [h5], natK_iff.1 (fNat_iff.1 h)⟩
    ·split at h
     ·rename_i hid
      obtain ⟨h5, h⟩ := grd_iff.1 h
      exact ⟨_, _, _, by simp only [hid, h5], dropK_iff.1 (natK_iff.1 (fNat_iff.1 (fApp_iff.1 h)))⟩
     ·exact h.elim
    ·exact h.elim
   ·exact h.elim
  ·exact h.elim
 ·exact h.elim
def fStrBytes (cl : Bool) (P : Program) (mem : Mem) (nx : Nat) (src dst : TypeId) (x : AV) (K : AV → Mem → Nat → Prop) : Prop :=
 match P.underlying src with
 | none => False
 | some _ => match P.underlying dst with
  | some (.slice e) => match P.underlying e with
   | some (.int .u8) => match x with
    | .str s => natK (nx + 1) fun n => fNat cl s.length fun l => fList cl (s.map fun b => .int .u8 (b.toNat : Int)) fun xs => K (.sl nx 0 l) ((nx, .row e 1 xs) :: mem) n
    | _ => False
   | _ => False
  | _ => False
theorem fStrBytes_a {cl : Bool} {P : Program} {mem : Mem} {nx : Nat} {src dst : TypeId} {x : AV} {K : AV → Mem → Nat → Prop} (h : fStrBytes cl P mem nx src dst x K) : ∃ v m n, aStrBytes P mem nx src dst x = some (v, m, n) ∧ K v m n := by
 unfold fStrBytes at h
 unfold aStrBytes
 split at h
 ·exact h.elim
 ·rename_i d hd
  simp only [hd]
  split at h
  ·rename_i e hu
   simp only [hu]
   split at h
   ·rename_i he
    simp only [he]
    split at h
    ·exact ⟨_, _, _, rfl, fList_iff.1 (fNat_iff.1 (natK_iff.1 h))⟩
    ·exact h.elim
   ·exact h.elim
  ·exact h.elim
def fMapUpdate (P : Program) (mem : Mem) (t : TypeId) (m k v : AV) (K : Mem → Prop) : Prop :=
 match P.underlying t with
 | some (.map kt _) => grd (aKey P kt k) (match m with
   | .mp id => match lk mem id with
    | some (.mapb es) => opt (aFindM P kt k es 0) fun r => match r with
     | some (i, _) => opt es[i]? fun e => grd (sameK e.1 k) (setK es i (k, v) fun es => upK mem id (.mapb es) K)
     | none => appK es [(k, v)] fun es => upK mem id (.mapb es) K
    | _ => False
   | _ => False)
 | _ => False
theorem fMapUpdate_a {P : Program} {mem : Mem} {t : TypeId} {m k v : AV} {K : Mem → Prop} (h : fMapUpdate P mem t m k v K) : ∃ m', aMapUpdate P mem t m k v = some m' ∧ K m' := by
 unfold fMapUpdate at h
 unfold aMapUpdate
 split at h
 ·rename_i kt et hu
  simp only [hu]
  obtain ⟨h1, h⟩ := grd_iff.1 h
  simp only [h1]
  split at h
  ·split at h
   ·rename_i es hid
    simp only [hid]
    obtain ⟨r, h2, h⟩ := opt_iff.1 h
    split at h
    ·obtain ⟨e, h3, h⟩ := opt_iff.1 h
     obtain ⟨h4, h⟩ := grd_iff.1 h
     exact ⟨_, by simp only [h2, h3, h4], upK_iff.1 (setK_iff.1 h)⟩
    ·exact ⟨_, by simp only [h2], upK_iff.1 (appK_iff.1 h)⟩
   ·exact h.elim
  ·exact h.elim
 ·exact h.elim
end Go.Ax
