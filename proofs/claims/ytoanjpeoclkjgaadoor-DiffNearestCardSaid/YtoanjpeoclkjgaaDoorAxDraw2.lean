/- Regions that draw their order, second part: the order in which such a region is run on abstract states, and its static conditions. -/
import Derived.Test.YtoanjpeoclkjgaaDoorAxDraw1
import Derived.Test.YtoanjpeoclkjgaaDoorAxFrame
namespace Go.Ax
open Go
set_option linter.unusedVariables false

mutual
def eqAV : AV → AV → Bool
  | .bool a, .bool b => a == b
  | .int k n, .int k' n' => decide (k = k') && decide (n = n')
  | .str s, .str s' => s == s'
  | .nptr, .nptr => true
  | .nsl, .nsl => true
  | .nmap, .nmap => true
  | .nfn, .nfn => true
  | .nif, .nif => true
  | .ptr a b c, .ptr a' b' c' => Nat.beq a a' && (Nat.beq b b' && Nat.beq c c')
  | .sl a b c, .sl a' b' c' => Nat.beq a a' && (Nat.beq b b' && Nat.beq c c')
  | .mp a, .mp a' => Nat.beq a a'
  | .ip v, .ip v' => eqAV v v'
  | .il a xs, .il a' xs' => Nat.beq a a' && eqAVs xs xs'
  | .fn (.func f) xs ys, .fn (.func f') xs' ys' => Nat.beq f f' && (eqAVs xs xs' && eqAVs ys ys')
  | .ifc t v, .ifc t' v' => Nat.beq t t' && eqAV v v'
  | .agg xs, .agg xs' => eqAVs xs xs'
  | .tup xs, .tup xs' => eqAVs xs xs'
  | _, _ => false
def eqAVs : List AV → List AV → Bool
  | [], [] => true
  | a :: r, b :: t => eqAV a b && eqAVs r t
  | _, _ => false
end

mutual
theorem eqAV_eq : ∀ {a b : AV}, eqAV a b = true → a = b
  | .bool a, b, h => by cases b <;> simp_all [eqAV]
  | .int k n, b, h => by cases b <;> simp_all [eqAV]
  | .str s, b, h => by cases b <;> simp_all [eqAV]
  | .nptr, b, h => by cases b <;> simp_all [eqAV]
  | .nsl, b, h => by cases b <;> simp_all [eqAV]
  | .nmap, b, h => by cases b <;> simp_all [eqAV]
  | .nfn, b, h => by cases b <;> simp_all [eqAV]
  | .nif, b, h => by cases b <;> simp_all [eqAV]
  | .ptr x y z, b, h => by cases b <;> simp_all [eqAV]
  | .sl x y z, b, h => by cases b <;> simp_all [eqAV]
  | .mp x, b, h => by cases b <;> simp_all [eqAV]
  | .junk, b, h => by cases b <;> simp_all [eqAV]
  | .ip v, b, h => by
    cases b <;> simp only [eqAV] at h <;> first | (cases h; done) | skip
    rw [eqAV_eq h]
  | .il n xs, b, h => by
    cases b <;> simp only [eqAV] at h <;> first | (cases h; done) | skip
    rw [Bool.and_eq_true] at h
    rw [Nat.eq_of_beq_eq_true h.1, eqAVs_eq h.2]
  | .fn f xs ys, b, h => by
    cases b <;> first | (cases f <;> simp [eqAV] at h; done) | skip
    rename_i f' xs' ys'
    cases f <;> first | (simp [eqAV] at h; done) | skip
    cases f' <;> first | (simp [eqAV] at h; done) | skip
    simp only [eqAV, Bool.and_eq_true] at h
    rw [Nat.eq_of_beq_eq_true h.1, eqAVs_eq h.2.1, eqAVs_eq h.2.2]
  | .ifc t v, b, h => by
    cases b <;> simp only [eqAV] at h <;> first | (cases h; done) | skip
    rw [Bool.and_eq_true] at h
    rw [Nat.eq_of_beq_eq_true h.1, eqAV_eq h.2]
  | .agg xs, b, h => by
    cases b <;> simp only [eqAV] at h <;> first | (cases h; done) | skip
    rw [eqAVs_eq h]
  | .tup xs, b, h => by
    cases b <;> simp only [eqAV] at h <;> first | (cases h; done) | skip
    rw [eqAVs_eq h]
theorem eqAVs_eq : ∀ {l t : List AV}, eqAVs l t = true → l = t
  | [], [], h => rfl
  | [], b :: t, h => by simp [eqAVs] at h
  | a :: r, [], h => by simp [eqAVs] at h
  | a :: r, b :: t, h => by
    simp only [eqAVs, Bool.and_eq_true] at h
    rw [eqAV_eq h.1, eqAVs_eq h.2]
end

def mem1 (x : Nat) : List Nat → Bool
  | [] => false
  | y :: r => match Nat.beq x y with
    | true => true
    | false => mem1 x r

theorem mem1_iff {x : Nat} : ∀ {l : List Nat}, mem1 x l = true ↔ x ∈ l
  | [] => by simp [mem1]
  | y :: r => by
    simp only [mem1]
    cases h : Nat.beq x y with
    | true => simp [Nat.eq_of_beq_eq_true h]
    | false =>
      have := Nat.ne_of_beq_eq_false h
      simp [this, mem1_iff]

def union1 : List Nat → List Nat → List Nat
  | [], l => l
  | x :: r, l => match mem1 x l with
    | true => union1 r l
    | false => union1 r (x :: l)

theorem mem_union1 {x : Nat} : ∀ {a l : List Nat}, x ∈ union1 a l → x ∈ a ∨ x ∈ l
  | [], l, h => .inr h
  | y :: r, l, h => by
    simp only [union1] at h
    split at h
    · rcases mem_union1 h with h | h
      · exact .inl (List.mem_cons_of_mem _ h)
      · exact .inr h
    · rcases mem_union1 h with h | h
      · exact .inl (List.mem_cons_of_mem _ h)
      · rcases List.mem_cons.1 h with rfl | h
        · exact .inl (List.mem_cons_self ..)
        · exact .inr h

def preds (o : Oper) : List Nat := (o.after.toList.filter fun e => Region.binds .any e).map (·.on)

/-- What must come before each operation, through others too. -/
def trRow (acc : List (List Nat)) : List Nat → List Nat
  | [] => []
  | j :: r => union1 (j :: (acc[j]?).getD []) (trRow acc r)

def trs : List Oper → List (List Nat) → List (List Nat)
  | [], acc => acc
  | o :: r, acc => trs r (acc ++ [trRow acc (preds o)])

theorem trRow_mem {acc : List (List Nat)} {x : Nat} : ∀ {l : List Nat}, x ∈ trRow acc l → ∃ j ∈ l, x = j ∨ x ∈ (acc[j]?).getD []
  | [], h => by simp [trRow] at h
  | j :: r, h => by
    simp only [trRow] at h
    rcases mem_union1 h with h | h
    · rcases List.mem_cons.1 h with h | h
      · exact ⟨j, List.mem_cons_self .., .inl h⟩
      · exact ⟨j, List.mem_cons_self .., .inr h⟩
    · obtain ⟨k, hk, h⟩ := trRow_mem h
      exact ⟨k, List.mem_cons_of_mem _ hk, h⟩

/-- The table is right: what stands in a row is a direct predecessor or stands in the row of an earlier one. -/
def TrOK (ops : List Oper) (tr : List (List Nat)) : Prop :=
  ∀ (i x : Nat), x ∈ (tr[i]?).getD [] → ∃ o, ops[i]? = some o ∧ ∃ j ∈ preds o, x = j ∨ (j < i ∧ x ∈ (tr[j]?).getD [])

theorem trs_ok : ∀ (l pre : List Oper) (acc : List (List Nat)), acc.length = pre.length → TrOK pre acc → TrOK (pre ++ l) (trs l acc)
  | [], pre, acc, hl, h => by simpa [trs] using h
  | o :: r, pre, acc, hl, h => by
    simp only [trs]
    have := trs_ok r (pre ++ [o]) (acc ++ [trRow acc (preds o)]) (by simp [hl]) (by
      intro i x hx
      rcases Nat.lt_trichotomy i acc.length with hi | hi | hi
      · rw [List.getElem?_append_left hi] at hx
        obtain ⟨o', ho', j, hj, h'⟩ := h i x hx
        refine ⟨o', by rw [List.getElem?_append_left (by omega)]; exact ho', j, hj, h'.imp (fun e => e) (fun ⟨h1, h2⟩ => ⟨h1, ?_⟩)⟩
        rw [List.getElem?_append_left (by omega)]; exact h2
      · subst hi
        rw [List.getElem?_append_right (Nat.le_refl _)] at hx
        simp at hx
        obtain ⟨j, hj, h'⟩ := trRow_mem hx
        refine ⟨o, by rw [List.getElem?_append_right (by omega)]; simp [hl], j, hj, h'.imp (fun e => e) (fun h2 => ?_)⟩
        have hjl : j < acc.length := by
          rcases Nat.lt_or_ge j acc.length with h3 | h3
          · exact h3
          · rw [List.getElem?_eq_none h3] at h2; simp at h2
        exact ⟨hjl, by rw [List.getElem?_append_left hjl]; exact h2⟩
      · rw [List.getElem?_eq_none (by simp; omega)] at hx; simp at hx)
    simpa using this

theorem trs_ok' (ops : List Oper) : TrOK ops (trs ops []) := by
  have := trs_ok ops [] [] rfl (fun i x hx => by simp at hx)
  simpa using this

/-- A set that is closed under direct predecessors is closed under the table's rows. -/
theorem TrOK.closed {ops : List Oper} {tr : List (List Nat)} (h : TrOK ops tr) {L : Nat → Prop} (hL : ∀ i o, L i → ops[i]? = some o → ∀ j ∈ preds o, L j) :
    ∀ (i : Nat), L i → ∀ x ∈ (tr[i]?).getD [], L x := by
  intro i
  induction i using Nat.strongRecOn with
  | _ i ih =>
    intro hi x hx
    obtain ⟨o, ho, j, hj, h'⟩ := h i x hx
    have hLj := hL i o hi ho j hj
    rcases h' with rfl | ⟨h1, h2⟩
    · exact hLj
    · exact ih j h1 hLj x h2

def looks (ops : List Oper) (o : Oper) : List Nat :=
  (o.op.operands.toList.filterMap fun x => match x with | .tmp t => some t | _ => none) ++
  (match o.guard with
   | some (g, _) => match ops[g]? with
     | some og => og.dst.toList
     | none => []
   | none => [])

def subset1 : List Nat → List Nat → Bool
  | [], _ => true
  | x :: r, l => match mem1 x l with
    | true => subset1 r l
    | false => false

theorem subset1_iff : ∀ {a l : List Nat}, subset1 a l = true → ∀ x ∈ a, x ∈ l
  | [], l, h, x, hx => by simp at hx
  | y :: r, l, h, x, hx => by
    simp only [subset1] at h
    split at h
    · rename_i hy
      rcases List.mem_cons.1 hx with rfl | hx
      · exact mem1_iff.1 hy
      · exact subset1_iff h x hx
    · cases h

def isEffAt (P : Program) (ops : List Oper) (i : Nat) : Bool :=
  match ops[i]? with
  | some o => match kind P o.op with
    | .eff => true
    | _ => false
  | none => true

def readyAt (ops : List Oper) (done : List Nat) (i : Nat) : Bool :=
  match ops[i]? with
  | some o => subset1 (preds o) done
  | none => false

def find1 (f : Nat → Bool) : List Nat → Option Nat
  | [] => none
  | x :: r => match f x with
    | true => some x
    | false => find1 f r

def erase1 (x : Nat) : List Nat → List Nat
  | [] => []
  | y :: r => match Nat.beq x y with
    | true => r
    | false => y :: erase1 x r

/-- The order: whatever has no effect as early as it can be. -/
def eager (P : Program) (ops : List Oper) : Nat → List Nat → List Nat → List Nat
  | 0, _, _ => []
  | n + 1, done, pend => match find1 (fun i => !isEffAt P ops i && readyAt ops done i) pend with
    | some i => i :: eager P ops n (i :: done) (erase1 i pend)
    | none => match find1 (fun i => readyAt ops done i) pend with
      | some i => i :: eager P ops n (i :: done) (erase1 i pend)
      | none => []

def upto : Nat → List Nat
  | 0 => []
  | n + 1 => upto n ++ [n]

/-- The static conditions on an order. -/
def okSeq (P : Program) (ops : List Oper) (tr : List (List Nat)) : List Nat → List Nat → Bool
  | _, [] => true
  | done, i :: r => !mem1 i done && (Nat.blt i ops.length && (readyAt ops done i &&
      ((match isEffAt P ops i with
        | true => r.all fun k => mem1 i ((tr[k]?).getD [])
        | false => true) && okSeq P ops tr (i :: done) r)))

def okSlots (ops : List Oper) (tr : List (List Nat)) : Bool :=
  (upto ops.length).all fun j => match ops[j]? with
    | some oj => match oj.dst with
      | some d => (upto ops.length).all fun i => match ops[i]? with
        | some oi => Nat.beq i j || ((match oi.dst with | some d' => !Nat.beq d d' | none => true) && (!mem1 d (looks ops oi) || (mem1 j ((tr[i]?).getD []) || mem1 i ((tr[j]?).getD []))))
        | none => true
      | none => true
    | none => true

def okDraw (P : Program) (ops : List Oper) (ord : List Nat) : Bool :=
  subset1 (upto ops.length) ord && (okSeq P ops (trs ops []) [] ord && okSlots ops (trs ops []))

end Go.Ax
