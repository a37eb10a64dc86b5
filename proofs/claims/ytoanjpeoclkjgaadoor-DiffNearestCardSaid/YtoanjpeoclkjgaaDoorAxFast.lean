/- The operations once more, written so that a state stays written out while it is evaluated. -/
import Derived.Test.YtoanjpeoclkjgaaDoorAxConv2
namespace Go.Ax
open Go
set_option linter.unusedVariables false

/-! ### Joints -/

def bcs (b : Bool) (p q : Prop) : Prop :=
  match b with
  | true => p
  | false => q

def grd (b : Bool) (p : Prop) : Prop :=
  match b with
  | true => p
  | false => False

def opt {α : Type} (o : Option α) (K : α → Prop) : Prop :=
  match o with
  | some a => K a
  | none => False

theorem bcs_mk {b : Bool} {p q : Prop} (h1 : b = true → p) (h2 : b = false → q) : bcs b p q := by
  cases b
  · exact h2 rfl
  · exact h1 rfl

theorem grd_iff {b : Bool} {p : Prop} : grd b p ↔ b = true ∧ p := by cases b <;> simp [grd]
theorem grd_mk {b : Bool} {p : Prop} (h : b = true) (hp : p) : grd b p := grd_iff.2 ⟨h, hp⟩
theorem opt_iff {α : Type} {o : Option α} {K : α → Prop} : opt o K ↔ ∃ a, o = some a ∧ K a := by cases o <;> simp [opt]
theorem opt_mk {α : Type} {o : Option α} {K : α → Prop} {a : α} (h : o = some a) (hk : K a) : opt o K := opt_iff.2 ⟨a, h, hk⟩

/-- The number, written out. -/
def natK (n : Nat) (K : Nat → Prop) : Prop :=
  match n with
  | 0 => K 0
  | Nat.succ m => K (Nat.succ m)

theorem natK_iff {n : Nat} {K : Nat → Prop} : natK n K ↔ K n := by cases n <;> rfl

def intK (n : Int) (K : Int → Prop) : Prop :=
  match n with
  | .ofNat m => natK m fun m => K (.ofNat m)
  | .negSucc m => natK m fun m => K (.negSucc m)

theorem intK_iff {n : Int} {K : Int → Prop} : intK n K ↔ K n := by cases n <;> simp [intK, natK_iff]

/-- In a closed run everything is written out; in an open one nothing that may be unknown. -/
def fNat (cl : Bool) (n : Nat) (K : Nat → Prop) : Prop :=
  match cl with
  | true => natK n K
  | false => K n
theorem fNat_iff {cl : Bool} {n : Nat} {K : Nat → Prop} : fNat cl n K ↔ K n := by cases cl <;> simp [fNat, natK_iff]

def fInt (cl : Bool) (k : IntKind) (n : Int) (K : AV → Prop) : Prop :=
  match cl with
  | true => intK n fun n => K (.int k n)
  | false => K (.int k n)
theorem fInt_iff {cl : Bool} {k : IntKind} {n : Int} {K : AV → Prop} : fInt cl k n K ↔ K (.int k n) := by cases cl <;> simp [fInt, intK_iff]

def fBool (cl : Bool) (b : Bool) (K : AV → Prop) : Prop :=
  match cl with
  | true => match b with
    | true => K (.bool true)
    | false => K (.bool false)
  | false => K (.bool b)
theorem fBool_iff {cl : Bool} {b : Bool} {K : AV → Prop} : fBool cl b K ↔ K (.bool b) := by cases cl <;> cases b <;> rfl

/-- A list, written out. -/
def listK {α : Type} : List α → (List α → Prop) → Prop
  | [], K => K []
  | x :: r, K => listK r fun l => K (x :: l)
theorem listK_iff {α : Type} : ∀ {l : List α} {K : List α → Prop}, listK l K ↔ K l
  | [], K => Iff.rfl
  | x :: r, K => by simp [listK, listK_iff]

def fList {α : Type} (cl : Bool) (l : List α) (K : List α → Prop) : Prop :=
  match cl with
  | true => listK l K
  | false => K l
theorem fList_iff {α : Type} {cl : Bool} {l : List α} {K : List α → Prop} : fList cl l K ↔ K l := by cases cl <;> simp [fList, listK_iff]

def appK {α : Type} : List α → List α → (List α → Prop) → Prop
  | [], ys, K => K ys
  | x :: r, ys, K => appK r ys fun l => K (x :: l)
theorem appK_iff {α : Type} : ∀ {xs ys : List α} {K : List α → Prop}, appK xs ys K ↔ K (xs ++ ys)
  | [], ys, K => Iff.rfl
  | x :: r, ys, K => by simp [appK, appK_iff]

def setK {α : Type} : List α → Nat → α → (List α → Prop) → Prop
  | [], _, _, K => K []
  | _ :: r, 0, v, K => K (v :: r)
  | x :: r, i + 1, v, K => setK r i v fun l => K (x :: l)
theorem setK_iff {α : Type} : ∀ {xs : List α} {i : Nat} {v : α} {K : List α → Prop}, setK xs i v K ↔ K (xs.set i v)
  | [], _, _, K => Iff.rfl
  | _ :: r, 0, v, K => Iff.rfl
  | x :: r, i + 1, v, K => by simp [setK, setK_iff]

/-- The first n, if there are so many. -/
def takeK {α : Type} : Nat → List α → (List α → Prop) → Prop
  | 0, _, K => K []
  | _ + 1, [], _ => False
  | n + 1, c :: r, K => takeK n r fun l => K (c :: l)
theorem takeK_iff {α : Type} : ∀ {n : Nat} {l : List α} {K : List α → Prop}, takeK n l K ↔ (l.take n).length = n ∧ K (l.take n)
  | 0, l, K => by simp [takeK]
  | n + 1, [], K => by simp [takeK]
  | n + 1, c :: r, K => by simp [takeK, takeK_iff]

def upK {α : Type} : List (Nat × α) → Nat → α → (List (Nat × α) → Prop) → Prop
  | [], j, v, K => K [(j, v)]
  | (i, u) :: r, j, v, K => match Nat.beq i j with
    | true => K ((i, v) :: r)
    | false => upK r j v fun l => K ((i, u) :: l)
theorem upK_iff {α : Type} : ∀ {l : List (Nat × α)} {j : Nat} {v : α} {K : List (Nat × α) → Prop}, upK l j v K ↔ K (up l j v)
  | [], j, v, K => Iff.rfl
  | (i, u) :: r, j, v, K => by
    simp only [upK, up]
    cases Nat.beq i j
    · exact upK_iff
    · exact Iff.rfl

def dropK : Nat → Mem → (Mem → Prop) → Prop
  | _, [], K => K []
  | id, (k, u) :: r, K => match Nat.beq k id with
    | true => K r
    | false => dropK id r fun l => K ((k, u) :: l)
theorem dropK_iff : ∀ {id : Nat} {m : Mem} {K : Mem → Prop}, dropK id m K ↔ K (drop id m)
  | _, [], K => Iff.rfl
  | id, (k, u) :: r, K => by
    simp only [dropK, drop]
    cases Nat.beq k id
    · exact dropK_iff
    · exact Iff.rfl

/-! ### Operands -/

def fev (Γ : List (Nat × AV)) (sl : List (Nat × AV)) (x : Operand) (K : AV → Prop) : Prop :=
  match x with
  | .tmp t => opt (lk sl t) K
  | .const (.string s) => listK s.data.toList fun l => K (.str l)
  | .const v => opt (ofVal v) K
  | .global g => opt (lk Γ g) fun v => K (.ip v)
  | .func f => K (.fn (.func f) [] [])

theorem fev_ev {Γ : List (Nat × AV)} {s : St} {x : Operand} {K : AV → Prop} (h : fev Γ s.sl x K) : ∃ v, ev Γ s x = some v ∧ K v := by
  unfold fev at h
  split at h
  · exact opt_iff.1 h
  · exact ⟨_, rfl, listK_iff.1 h⟩
  · exact opt_iff.1 h
  · obtain ⟨v, h1, h2⟩ := opt_iff.1 h
    exact ⟨_, by simp [ev, h1], h2⟩
  · exact ⟨_, rfl, h⟩

def fevs (Γ : List (Nat × AV)) (sl : List (Nat × AV)) : List Operand → (List AV → Prop) → Prop
  | [], K => K []
  | x :: r, K => fev Γ sl x fun a => fevs Γ sl r fun l => K (a :: l)

theorem fevs_evs {Γ : List (Nat × AV)} {s : St} : ∀ {xs : List Operand} {K : List AV → Prop}, fevs Γ s.sl xs K → ∃ l, evs Γ s xs = some l ∧ K l
  | [], K, h => ⟨[], rfl, h⟩
  | x :: r, K, h => by
    obtain ⟨a, h1, h2⟩ := fev_ev h
    obtain ⟨l, h3, h4⟩ := fevs_evs h2
    exact ⟨a :: l, by simp [evs, h1, h3], h4⟩

def fevParts (Γ : List (Nat × AV)) (sl : List (Nat × AV)) : List (Nat × Operand) → (List (Nat × AV) → Prop) → Prop
  | [], K => K []
  | (i, x) :: r, K => fev Γ sl x fun a => fevParts Γ sl r fun l => K ((i, a) :: l)

theorem fevParts_ev {Γ : List (Nat × AV)} {s : St} : ∀ {xs : List (Nat × Operand)} {K : List (Nat × AV) → Prop}, fevParts Γ s.sl xs K → ∃ l, evParts Γ s xs = some l ∧ K l
  | [], K, h => ⟨[], rfl, h⟩
  | (i, x) :: r, K, h => by
    obtain ⟨a, h1, h2⟩ := fev_ev h
    obtain ⟨l, h3, h4⟩ := fevParts_ev h2
    exact ⟨(i, a) :: l, by simp [evParts, h1, h3], h4⟩

def fevOpt (Γ : List (Nat × AV)) (sl : List (Nat × AV)) (x : Option Operand) (K : Option AV → Prop) : Prop :=
  match x with
  | none => K none
  | some x => fev Γ sl x fun a => K (some a)

theorem fevOpt_ev {Γ : List (Nat × AV)} {s : St} {x : Option Operand} {K : Option AV → Prop} (h : fevOpt Γ s.sl x K) : ∃ l, evOpt Γ s x = some l ∧ K l := by
  cases x with
  | none => exact ⟨none, rfl, h⟩
  | some x =>
    obtain ⟨a, h1, h2⟩ := fev_ev h
    exact ⟨some a, by simp [evOpt, h1], h2⟩

/-! ### Pure operations -/

def fsub (sh : Option Nat) (cs : List AV) (j : Nat) (K : AV → Prop) : Prop :=
  match sh with
  | none => opt cs[j]? fun c => opt (one c) K
  | some n => takeK n (cs.drop j) fun l => K (.agg l)

theorem fsub_sub {sh : Option Nat} {cs : List AV} {j : Nat} {K : AV → Prop} (h : fsub sh cs j K) : ∃ v, sub sh cs j = some v ∧ K v := by
  unfold fsub at h
  split at h
  · obtain ⟨c, h1, h2⟩ := opt_iff.1 h
    obtain ⟨v, h3, h4⟩ := opt_iff.1 h2
    exact ⟨v, by simp [sub, h1, h3], h4⟩
  · obtain ⟨h1, h2⟩ := takeK_iff.1 h
    refine ⟨_, ?_, h2⟩
    simp only [sub]
    rw [h1]
    simp

def fLoad (P : Program) (mem : Mem) (t : TypeId) (p : AV) (K : AV → Prop) : Prop :=
  match p with
  | .ip u => match shp P t with
    | some sh => fsub sh u.cells 0 K
    | none => False
  | .ptr id i j => match lk mem id with
    | some (.row _ _ xs) => opt xs[i]? fun x => match shp P t with
      | some sh => fsub sh x.cells j K
      | none => False
    | _ => False
  | _ => False

theorem fLoad_a {P : Program} {mem : Mem} {t : TypeId} {p : AV} {K : AV → Prop} (h : fLoad P mem t p K) : ∃ v, aLoad P mem t p = some v ∧ K v := by
  unfold fLoad at h
  unfold aLoad
  split at h
  · split at h
    · rename_i sh hsh
      obtain ⟨v, h1, h2⟩ := fsub_sub h
      exact ⟨v, by simp [hsh, h1], h2⟩
    · exact h.elim
  · split at h
    · rename_i hid
      obtain ⟨x, hx, h⟩ := opt_iff.1 h
      split at h
      · rename_i sh hsh
        obtain ⟨v, h1, h2⟩ := fsub_sub h
        exact ⟨v, by simp [hid, hx, hsh, h1], h2⟩
      · exact h.elim
    · exact h.elim
  · exact h.elim

def fFieldAddr (P : Program) (t : TypeId) (f : Nat) (p : AV) (K : AV → Prop) : Prop :=
  match P.underlying t with
  | some (.struct fs) => match fs[f]? with
    | some fd => match tsize P fd.type with
      | some (_ + 1) => match p with
        | .ptr id i j => natK (j + fd.offset) fun j => K (.ptr id i j)
        | .ip u => match shp P fd.type with
          | some sh => fsub sh u.cells fd.offset fun v => K (.ip v)
          | none => False
        | _ => False
      | _ => False
    | none => False
  | _ => False

theorem fFieldAddr_a {P : Program} {t : TypeId} {f : Nat} {p : AV} {K : AV → Prop} (h : fFieldAddr P t f p K) : ∃ v, aFieldAddr P t f p = some v ∧ K v := by
  unfold fFieldAddr at h
  unfold aFieldAddr
  split at h
  · rename_i fs hu
    split at h
    · rename_i fd hfd
      split at h
      · rename_i n hn
        split at h
        · exact ⟨_, by simp [hu, hfd, hn], natK_iff.1 h⟩
        · split at h
          · rename_i sh hsh
            obtain ⟨v, h1, h2⟩ := fsub_sub h
            exact ⟨_, by simp [hu, hfd, hn, hsh, h1], h2⟩
          · exact h.elim
        · exact h.elim
      · exact h.elim
    · exact h.elim
  · exact h.elim

def fField (P : Program) (t : TypeId) (f : Nat) (v : AV) (K : AV → Prop) : Prop :=
  match P.underlying t with
  | some (.struct fs) => match fs[f]? with
    | some fd => match v with
      | .agg cs => match shp P fd.type with
        | some sh => fsub sh cs fd.offset K
        | none => False
      | _ => False
    | none => False
  | _ => False

theorem fField_a {P : Program} {t : TypeId} {f : Nat} {p : AV} {K : AV → Prop} (h : fField P t f p K) : ∃ v, aField P t f p = some v ∧ K v := by
  unfold fField at h
  unfold aField
  split at h
  · rename_i fs hu
    split at h
    · rename_i fd hfd
      split at h
      · split at h
        · rename_i sh hsh
          obtain ⟨v, h1, h2⟩ := fsub_sub h
          exact ⟨v, by simp [hu, hfd, hsh, h1], h2⟩
        · exact h.elim
      · exact h.elim
    · exact h.elim
  · exact h.elim

def fIndexAddr (cl : Bool) (P : Program) (mem : Mem) (t : TypeId) (p ix : AV) (K : AV → Prop) : Prop :=
  match ix with
  | .int _ n => grd (decide (0 ≤ n)) (match P.underlying t with
      | some (.slice e) => match tsize P e with
        | some sz => match p with
          | .sl id off len => match lk mem id with
            | some (.row _ _ xs) => grd (Nat.blt n.toNat len) (opt xs[off + n.toNat]? fun x => grd (Nat.beq x.cells.length sz) (fNat cl (off + n.toNat) fun m => K (.ptr id m 0)))
            | _ => False
          | .il sz' xs => opt xs[n.toNat]? fun x => grd (Nat.beq sz sz') (K (.ip x))
          | _ => False
        | none => False
      | some (.array m e) => match tsize P e, shp P e with
        | some sz, some sh => grd (Nat.blt n.toNat m) (match p with
            | .ptr id i j => match aElem mem id i j sz with
              | true => fNat cl (i + n.toNat) fun m => K (.ptr id m 0)
              | false => fNat cl (j + n.toNat * sz) fun m => K (.ptr id i m)
            | .ip u => fsub sh u.cells (n.toNat * sz) fun v => K (.ip v)
            | _ => False)
        | _, _ => False
      | _ => False)
  | _ => False

theorem fIndexAddr_a {cl : Bool} {P : Program} {mem : Mem} {t : TypeId} {p ix : AV} {K : AV → Prop} (h : fIndexAddr cl P mem t p ix K) : ∃ v, aIndexAddr P mem t p ix = some v ∧ K v := by
  unfold fIndexAddr at h
  split at h
  · rename_i kk n
    obtain ⟨hn, h⟩ := grd_iff.1 h
    unfold aIndexAddr
    simp only [hn]
    split at h
    · rename_i e hu
      simp only [hu]
      split at h
      · rename_i sz hsz
        simp only [hsz]
        split at h
        · rename_i id off len
          split at h
          · rename_i hid
            obtain ⟨h1, h⟩ := grd_iff.1 h
            obtain ⟨x, hx, h⟩ := opt_iff.1 h
            obtain ⟨h2, h⟩ := grd_iff.1 h
            exact ⟨_, by simp [hid, h1, hx, h2], fNat_iff.1 h⟩
          · exact h.elim
        · obtain ⟨x, hx, h⟩ := opt_iff.1 h
          obtain ⟨h2, h⟩ := grd_iff.1 h
          exact ⟨_, by simp [hx, h2], h⟩
        · exact h.elim
      · exact h.elim
    · rename_i m e hu
      simp only [hu]
      split at h
      · rename_i sz sh hsz hsh
        simp only [hsz, hsh]
        obtain ⟨h1, h⟩ := grd_iff.1 h
        simp only [h1]
        split at h
        · split at h
          · rename_i he
            exact ⟨_, by simp [he], fNat_iff.1 h⟩
          · rename_i he
            exact ⟨_, by simp [he], fNat_iff.1 h⟩
        · obtain ⟨v, h2, h3⟩ := fsub_sub h
          exact ⟨_, by simp [h2], h3⟩
        · exact h.elim
      · exact h.elim
    · exact h.elim
  · exact h.elim

def fIndex (cl : Bool) (P : Program) (t : TypeId) (v ix : AV) (K : AV → Prop) : Prop :=
  match ix with
  | .int _ n => grd (decide (0 ≤ n)) (match P.underlying t with
      | some .string => match v with
        | .str s => opt s[n.toNat]? fun b => fInt cl .u8 (b.toNat : Int) K
        | _ => False
      | some (.array m e) => match v with
        | .agg cs => grd (Nat.blt n.toNat m) (match tsize P e, shp P e with
            | some sz, some sh => fsub sh cs (n.toNat * sz) K
            | _, _ => False)
        | _ => False
      | _ => False)
  | _ => False

theorem fIndex_a {cl : Bool} {P : Program} {t : TypeId} {p ix : AV} {K : AV → Prop} (h : fIndex cl P t p ix K) : ∃ v, aIndex P t p ix = some v ∧ K v := by
  unfold fIndex at h
  split at h
  · rename_i kk n
    obtain ⟨hn, h⟩ := grd_iff.1 h
    unfold aIndex
    simp only [hn]
    split at h
    · rename_i hu
      simp only [hu]
      split at h
      · obtain ⟨b, hb, h⟩ := opt_iff.1 h
        exact ⟨_, by simp [hb], fInt_iff.1 h⟩
      · exact h.elim
    · rename_i m e hu
      simp only [hu]
      split at h
      · obtain ⟨h1, h⟩ := grd_iff.1 h
        simp only [h1]
        split at h
        · rename_i sz sh hsz hsh
          obtain ⟨v, h2, h3⟩ := fsub_sub h
          exact ⟨v, by simp [hsz, hsh, h2], h3⟩
        · exact h.elim
      · exact h.elim
    · exact h.elim
  · exact h.elim

def fIntOp (cl : Bool) (op : BinOp) (k : IntKind) (x y : Int) (K : AV → Prop) : Prop :=
  match op with
  | .add => fInt cl k (k.wrap (x + y)) K
  | .sub => fInt cl k (k.wrap (x - y)) K
  | .mul => fInt cl k (k.wrap (x * y)) K
  | .quo => grd (!decide (y = 0)) (fInt cl k (k.wrap (x.tdiv y)) K)
  | .rem => grd (!decide (y = 0)) (fInt cl k (x.tmod y) K)
  | .and => fInt cl k (bits .and k x y) K
  | .or => fInt cl k (bits .or k x y) K
  | .xor => fInt cl k (bits .xor k x y) K
  | .andNot => fInt cl k (bits .andNot k x y) K
  | .eql => fBool cl (x == y) K
  | .neq => fBool cl (x != y) K
  | .lss => fBool cl (decide (x < y)) K
  | .leq => fBool cl (decide (x ≤ y)) K
  | .gtr => fBool cl (decide (x > y)) K
  | .geq => fBool cl (decide (x ≥ y)) K
  | _ => False

theorem fIntOp_a {cl : Bool} {op : BinOp} {k : IntKind} {x y : Int} {K : AV → Prop} (h : fIntOp cl op k x y K) : ∃ v, aIntOp op k x y = some v ∧ K v := by
  cases op <;> simp only [fIntOp, fInt_iff, fBool_iff] at h <;> simp only [aIntOp] <;> first
    | exact h.elim
    | exact ⟨_, rfl, h⟩
    | (obtain ⟨h1, h2⟩ := grd_iff.1 h
       have : decide (y = 0) = false := by simpa using h1
       rw [this]
       exact ⟨_, rfl, h2⟩)

def fStrOp (cl : Bool) (op : BinOp) (x y : List UInt8) (K : AV → Prop) : Prop :=
  match op with
  | .add => grd (decide ((x.length : Int) + y.length ≤ 9223372036854775807)) (match cl with
      | true => appK x y fun l => K (.str l)
      | false => K (.str (x ++ y)))
  | .eql => fBool cl (x == y) K
  | .neq => fBool cl (!(x == y)) K
  | .lss => fBool cl (Op.bytesLess x y) K
  | .leq => fBool cl (Op.bytesLess x y || x == y) K
  | .gtr => fBool cl (!(Op.bytesLess x y || x == y)) K
  | .geq => fBool cl (!(Op.bytesLess x y)) K
  | _ => False

theorem fStrOp_a {cl : Bool} {op : BinOp} {x y : List UInt8} {K : AV → Prop} (h : fStrOp cl op x y K) : ∃ v, aStrOp op x y = some v ∧ K v := by
  cases op <;> simp only [fStrOp, fBool_iff] at h <;> simp only [aStrOp] <;> first
    | exact h.elim
    | exact ⟨_, rfl, h⟩
    | (obtain ⟨h1, h2⟩ := grd_iff.1 h
       rw [h1]
       refine ⟨_, rfl, ?_⟩
       cases cl
       · exact h2
       · exact appK_iff.1 h2)

def fShift (cl : Bool) (op : BinOp) (k : IntKind) (x y : Int) (K : AV → Prop) : Prop :=
  grd (!decide (y < 0)) (match op with
    | .shl => fInt cl k (k.wrap (x * 2 ^ (min y.toNat k.bits))) K
    | .shr => fInt cl k (x.fdiv (2 ^ (min y.toNat k.bits))) K
    | _ => False)

theorem fShift_a {cl : Bool} {op : BinOp} {k : IntKind} {x y : Int} {K : AV → Prop} (h : fShift cl op k x y K) : ∃ v, aShift op k x y = some v ∧ K v := by
  obtain ⟨h1, h2⟩ := grd_iff.1 h
  have h1 : decide (y < 0) = false := by simpa using h1
  unfold aShift
  rw [h1]
  cases op <;> simp only [fInt_iff] at h2 <;> first | exact h2.elim | exact ⟨_, rfl, h2⟩

def fBin (cl : Bool) (P : Program) (op : BinOp) (t : TypeId) (xo yo : Operand) (x y : AV) (K : AV → Prop) : Prop :=
  match x, y with
  | .int k a, .int k' b => match op with
    | .shl => fShift cl .shl k a b K
    | .shr => fShift cl .shr k a b K
    | _ => grd (decide (k = k')) (fIntOp cl op k a b K)
  | .str a, .str b => fStrOp cl op a b K
  | .agg a, .agg b => match P.eqGuardType P.depth t with
    | false => match op with
      | .eql => opt (aEqS P t a b) fun r => fBool cl r K
      | .neq => opt (aEqS P t a b) fun r => fBool cl (!r) K
      | _ => False
    | true => False
  | x, y => match op with
    | .eql => opt (aEq P (isConst xo || isConst yo) t x y) fun b => fBool cl b K
    | .neq => opt (aEq P (isConst xo || isConst yo) t x y) fun b => fBool cl (!b) K
    | _ => False

theorem fBin_a {cl : Bool} {P : Program} {op : BinOp} {t : TypeId} {xo yo : Operand} {x y : AV} {K : AV → Prop} (h : fBin cl P op t xo yo x y K) : ∃ v, aBin P op t xo yo x y = some v ∧ K v := by
  unfold fBin at h
  unfold aBin
  split at h
  · split at h
    · exact fShift_a h
    · exact fShift_a h
    · obtain ⟨h1, h2⟩ := grd_iff.1 h
      simp only [h1]
      obtain ⟨v, h3, h4⟩ := fIntOp_a h2
      refine ⟨v, ?_, h4⟩
      cases op <;> first | exact h3 | contradiction
  · exact fStrOp_a h
  · split at h
    · rename_i hg
      simp only [hg]
      split at h
      · obtain ⟨b, hb, h⟩ := opt_iff.1 h
        exact ⟨.bool b, by simp only [hb], fBool_iff.1 h⟩
      · obtain ⟨b, hb, h⟩ := opt_iff.1 h
        exact ⟨.bool (!b), by simp only [hb], fBool_iff.1 h⟩
      · exact h.elim
    · exact h.elim
  · rename_i h1 h2 h3
    split at h
    · obtain ⟨b, hb, h⟩ := opt_iff.1 h
      refine ⟨.bool b, ?_, fBool_iff.1 h⟩
      cases x <;> cases y <;> first | (simp only [hb]; done) | (exact (h1 _ _ _ _ rfl rfl).elim) | (exact (h2 _ _ rfl rfl).elim) | (exact (h3 _ _ rfl rfl).elim)
    · obtain ⟨b, hb, h⟩ := opt_iff.1 h
      refine ⟨.bool (!b), ?_, fBool_iff.1 h⟩
      cases x <;> cases y <;> first | (simp only [hb]; done) | (exact (h1 _ _ _ _ rfl rfl).elim) | (exact (h2 _ _ rfl rfl).elim) | (exact (h3 _ _ rfl rfl).elim)
    · exact h.elim

def fUn (cl : Bool) (op : UnOp) (x : AV) (K : AV → Prop) : Prop :=
  match op, x with
  | .neg, .int k n => fInt cl k (k.wrap (0 - n)) K
  | .not, .bool b => fBool cl (!b) K
  | _, _ => False

theorem fUn_a {cl : Bool} {op : UnOp} {x : AV} {K : AV → Prop} (h : fUn cl op x K) : ∃ v, aUn op x = some v ∧ K v := by
  unfold fUn at h
  split at h
  · exact ⟨_, rfl, fInt_iff.1 h⟩
  · exact ⟨_, rfl, fBool_iff.1 h⟩
  · exact h.elim

def fConv (cl : Bool) (P : Program) (mem : Mem) (src dst : TypeId) (x : AV) (K : AV → Prop) : Prop :=
  match P.underlying src with
  | none => False
  | some d => match P.underlying dst with
    | some (.int k) => match x with
      | .int _ n => fInt cl k (k.wrap n) K
      | _ => False
    | some .string => match x with
      | .str s => K (.str s)
      | .nsl => match d with
        | .slice e => match P.underlying e with
          | some (.int .u8) => K (.str [])
          | _ => False
        | _ => False
      | .il sz xs => match d with
        | .slice e => match P.underlying e with
          | some (.int .u8) => grd (Nat.beq sz 1) (opt (toBytes xs) fun l => fList cl l fun l => K (.str l))
          | _ => False
        | _ => False
      | .sl id off len => match d with
        | .slice e => match P.underlying e with
          | some (.int .u8) => match lk mem id with
            | some (.row _ _ xs) => grd (Nat.ble (off + len) xs.length) (opt (toBytes ((xs.drop off).take len)) fun l => fList cl l fun l => K (.str l))
            | _ => False
          | _ => False
        | _ => False
      | _ => False
    | _ => False

theorem fConv_a {cl : Bool} {P : Program} {mem : Mem} {src dst : TypeId} {x : AV} {K : AV → Prop} (h : fConv cl P mem src dst x K) : ∃ v, aConv P mem src dst x = some v ∧ K v := by
  unfold fConv at h
  split at h
  · exact h.elim
  · rename_i d hd
    unfold aConv
    simp only [hd]
    split at h
    · rename_i k hu
      simp only [hu]
      split at h
      · exact ⟨_, rfl, fInt_iff.1 h⟩
      · exact h.elim
    · rename_i hu
      simp only [hu]
      split at h
      · exact ⟨_, rfl, h⟩
      · split at h
        · split at h
          · rename_i he; exact ⟨_, by simp only [he], h⟩
          · exact h.elim
        · exact h.elim
      · split at h
        · split at h
          · rename_i he
            obtain ⟨h1, h⟩ := grd_iff.1 h
            obtain ⟨l, h2, h⟩ := opt_iff.1 h
            exact ⟨_, by simp only [he, h1, h2], fList_iff.1 h⟩
          · exact h.elim
        · exact h.elim
      · split at h
        · split at h
          · rename_i he
            split at h
            · rename_i hid
              obtain ⟨h1, h⟩ := grd_iff.1 h
              obtain ⟨l, h2, h⟩ := opt_iff.1 h
              exact ⟨_, by simp only [he, hid, h1, h2], fList_iff.1 h⟩
            · exact h.elim
          · exact h.elim
        · exact h.elim
      · exact h.elim
    · exact h.elim
end Go.Ax
