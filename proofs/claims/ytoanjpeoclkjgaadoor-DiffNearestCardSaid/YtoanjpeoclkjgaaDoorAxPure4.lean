/- Unary operators, conversions, tuples, closures, interfaces, composites, slices, lengths. -/
import Derived.Test.YtoanjpeoclkjgaaDoorAxPure3
namespace Go.Ax
open Go

def aUn (op : UnOp) (x : AV) : Option AV :=
  match op, x with
  | .neg, .int k n => some (.int k (k.wrap (0 - n)))
  | .not, .bool b => some (.bool (!b))
  | _, _ => none

def toBytes : List AV → Option (List UInt8)
  | [] => some []
  | .int .u8 n :: r => match toBytes r with
    | some l => some (UInt8.ofNat n.toNat :: l)
    | none => none
  | _ => none

def aConv (P : Program) (mem : Mem) (src dst : TypeId) (x : AV) : Option AV :=
  match P.underlying src with
  | none => none
  | some d => match P.underlying dst with
    | some (.int k) => match x with
      | .int _ n => some (.int k (k.wrap n))
      | _ => none
    | some .string => match x with
      | .str s => some (.str s)
      | _ => match d with
        | .slice e => match P.underlying e with
          | some (.int .u8) => match x with
            | .nsl => some (.str [])
            | .il sz xs => match Nat.beq sz 1 with
              | true => match toBytes xs with
                | some l => some (.str l)
                | none => none
              | false => none
            | .sl id off len => match lk mem id with
              | some (.row _ _ xs) => match Nat.ble (off + len) xs.length with
                | true => match toBytes ((xs.drop off).take len) with
                  | some l => some (.str l)
                  | none => none
                | false => none
              | _ => none
            | _ => none
          | _ => none
        | _ => none
    | _ => none

def aExtract (x : AV) (i : Nat) : Option AV :=
  match x with
  | .tup vs => vs[i]?
  | _ => none

def aIface (P : Program) (t : TypeId) (x : AV) : Option AV :=
  match P.concrete t with
  | true => some (.ifc t x)
  | false => none

/-- A value that may lie in memory. -/
def okVal : AV → Bool
  | .tup _ => false
  | .junk => false
  | _ => true

def aFill (place : Nat → Option (Nat × Nat)) : List AV → List (Nat × AV) → Option (List AV)
  | cells, [] => some cells
  | cells, (i, v) :: r => match place i with
    | none => none
    | some (off, size) => match okVal v && (Nat.beq v.cells.length size && Nat.ble (off + v.cells.length) cells.length) with
      | true => aFill place (v.cells.zipIdx.foldl (fun cs p => cs.set (off + p.2) p.1) cells) r
      | false => none

def aPlaces (P : Program) : List Field → Option (List (Nat × Nat))
  | [] => some []
  | f :: r => match tsize P f.type with
    | some n => match aPlaces P r with
      | some l => some ((f.offset, n) :: l)
      | none => none
    | none => none

def aBuild (P : Program) (t : TypeId) (parts : List (Nat × AV)) : Option AV :=
  match P.info? t with
  | some it => match it.zero with
    | some z => match ofVal z with
      | some (.agg zs) => match P.underlying t with
        | some (.array _ e) => match tsize P e with
          | some n => match aFill (fun i => some (i * n, n)) zs parts with
            | some cs => some (.agg cs)
            | none => none
          | none => none
        | some (.struct fs) => match aPlaces P fs.toList with
          | some places => match aFill (fun i => places[i]?) zs parts with
            | some cs => some (.agg cs)
            | none => none
          | none => none
        | _ => none
      | _ => none
    | none => none
  | none => none

section
variable {P : Program} {Γ : List (Nat × AV)} {X : Nat → Prop} {ρ : Nat → Loc} {D : Nat → Prop} {O : Nat → Prop} {mem : Mem} {w : World}

theorem aUn_sound {op : UnOp} {a v : AV} {x : Value} (h : aUn op a = some v) (hx : VR ρ D O w a x) :
    ∃ z, (Op.unary op x).run P w = .ok z w ∧ VR ρ D O w v z := by
  unfold aUn at h
  split at h <;> first | (cases h; done) | skip
  · cases h; cases hx
    exact ⟨_, by simp [Op.unary, Op.intArith], .int _ _⟩
  · cases h; cases hx
    exact ⟨_, by simp [Op.unary], .bool _⟩

theorem toBytes_sound {msg : String} : ∀ {xs : List AV} {l : List UInt8} {vs : List Value}, toBytes xs = some l → VRL ρ D O w xs vs →
    ∀ (s : ByteArray), (forIn vs s fun c __s =>
          match c with
          | Value.int IntKind.u8 n => (pure (ForInStep.yield (__s.push (UInt8.ofNat n.toNat))) : Sem (ForInStep ByteArray))
          | _ => do
            stuck msg
            pure (ForInStep.yield __s)).run P w = .ok ⟨s.data ++ l.toArray⟩ w
  | [], l, vs, h, hv, s => by
    have : vs = [] := by have := hv.1; simp at this; exact List.eq_nil_of_length_eq_zero this.symm
    subst this
    simp [toBytes] at h
    subst h
    simp
  | a :: xs, l, vs, h, hv, s => by
    cases vs with
    | nil => have := hv.1; simp at this
    | cons v vs =>
      unfold toBytes at h
      split at h
      · rename_i e; cases e
      · rename_i n r e
        cases e
        split at h
        · rename_i l' hl
          cases h
          have h0 := hv.2 0 _ v rfl rfl
          cases h0
          have hr : VRL ρ D O w xs vs := ⟨by have := hv.1; simpa using this, fun j c x h1 h2 => hv.2 (j + 1) c x (by simpa using h1) (by simpa using h2)⟩
          have ih := toBytes_sound (msg := msg) hl hr (s.push (UInt8.ofNat n.toNat))
          simp only [List.forIn_cons, pure_bind]
          rw [ih]
          simp [ByteArray.push]
        · cases h
      · cases h

theorem VRL.set {cs : List AV} {vs : List Value} (h : VRL ρ D O w cs vs) {c : AV} {x : Value} (hc : VR ρ D O w c x) (i : Nat) : VRL ρ D O w (cs.set i c) (vs.set i x) := by
  refine ⟨by simp [h.1], fun j c' x' h1 h2 => ?_⟩
  rw [List.getElem?_set] at h1 h2
  by_cases hij : i = j
  · subst hij
    simp only [if_true] at h1 h2
    split at h1
    · split at h2
      · cases h1; cases h2; exact hc
      · cases h2
    · cases h1
  · rw [if_neg hij] at h1 h2
    exact h.2 j c' x' h1 h2

theorem VRL.sets {off : Nat} : ∀ {as : List AV} {xs : List Value} (_ : VRL ρ D O w as xs) (k : Nat) {cs : List AV} {vs : List Value} (_ : VRL ρ D O w cs vs),
    VRL ρ D O w ((as.zipIdx k).foldl (fun cs p => cs.set (off + p.2) p.1) cs) ((xs.zipIdx k).foldl (fun cs p => cs.set (off + p.2) p.1) vs)
  | [], xs, ha, k, cs, vs, h => by
    have : xs = [] := by have := ha.1; simp at this; exact List.eq_nil_of_length_eq_zero this.symm
    subst this
    exact h
  | a :: as, xs, ha, k, cs, vs, h => by
    cases xs with
    | nil => have := ha.1; simp at this
    | cons x xs =>
      simp only [List.zipIdx_cons, List.foldl_cons]
      exact VRL.sets ⟨by have := ha.1; simpa using this, fun j c x h1 h2 => ha.2 (j + 1) c x (by simpa using h1) (by simpa using h2)⟩ (k + 1) (h.set (ha.2 0 a x rfl rfl) _)

theorem foldl_set_toList (off : Nat) : ∀ (l : List (Value × Nat)) (A : Array Value),
    (l.foldl (fun cs p => cs.setIfInBounds (off + p.2) p.1) A).toList = l.foldl (fun cs p => cs.set (off + p.2) p.1) A.toList
  | [], A => rfl
  | p :: l, A => by simp only [List.foldl_cons]; rw [foldl_set_toList off l]; simp

theorem VR.cells_of {a : AV} {x : Value} (h : VR ρ D O w a x) (hj : okVal a = true) : VRC ρ D O w a.cells x.cells.toList := by
  cases h
  case agg cs arr hl ho hr => exact ⟨⟨by simpa [AV.cells, Value.cells] using hl, fun j c x h1 h2 => hr j c x h1 (by simpa [Value.cells] using h2)⟩, by simpa [Value.cells] using ho⟩
  case junk => simp [okVal] at hj
  case tup => simp [okVal] at hj
  all_goals exact ⟨VRL.cons (by constructor <;> assumption) .nil, by simp [Value.cells, Value.oneCell']⟩

theorem VRC.get {cs : List AV} {vs : List Value} (h : VRC ρ D O w cs vs) {j : Nat} {c : AV} (hj : cs[j]? = some c) : ∃ v, vs[j]? = some v ∧ v.oneCell' = true ∧ VR ρ D O w c v := by
  have hlt : j < vs.length := by
    rw [← h.1.1]
    rcases Nat.lt_or_ge j cs.length with h' | h'
    · exact h'
    · rw [List.getElem?_eq_none h'] at hj; cases hj
  exact ⟨vs[j], by simp [hlt], h.2 _ (by simp), h.1.2 j c _ hj (by simp [hlt])⟩

theorem sets_one {off : Nat} : ∀ (l : List (Value × Nat)) (L : List Value), (∀ p ∈ l, p.1.oneCell' = true) → (∀ x ∈ L, x.oneCell' = true) →
    ∀ x ∈ l.foldl (fun cs p => cs.set (off + p.2) p.1) L, x.oneCell' = true
  | [], L, h1, h2 => h2
  | p :: l, L, h1, h2 => by
    simp only [List.foldl_cons]
    refine sets_one l _ (fun q hq => h1 q (List.mem_cons_of_mem _ hq)) (fun x hx => ?_)
    rcases List.mem_or_eq_of_mem_set hx with h | rfl
    · exact h2 x h
    · exact h1 p (List.mem_cons_self ..)

theorem aFill_sound {place : Nat → Option (Nat × Nat)} : ∀ {parts : List (Nat × AV)} {ps : List (Nat × Value)} {cells cs : List AV} {A : Array Value},
    aFill place cells parts = some cs → parts.length = ps.length →
    (∀ (j : Nat) (p : Nat × AV) (q : Nat × Value), parts[j]? = some p → ps[j]? = some q → p.1 = q.1 ∧ VR ρ D O w p.2 q.2) →
    VRC ρ D O w cells A.toList → ∃ B : Array Value, Instr.fill place A ps = some B ∧ VRC ρ D O w cs B.toList
  | [], ps, cells, cs, A, h, hl, hp, hA => by
    have : ps = [] := by simp at hl; exact List.eq_nil_of_length_eq_zero hl.symm
    subst this
    simp only [aFill] at h
    cases h
    exact ⟨A, rfl, hA⟩
  | (i, v) :: r, ps, cells, cs, A, h, hl, hp, hA => by
    cases ps with
    | nil => simp at hl
    | cons q ps =>
      obtain ⟨i', x⟩ := q
      obtain ⟨e, hv⟩ := hp 0 _ _ rfl rfl
      simp only at e hv
      subst e
      simp only [aFill] at h
      split at h
      · cases h
      · rename_i off size hpl
        split at h
        · rename_i hb
          simp only [Bool.and_eq_true] at hb
          have h1 := Nat.eq_of_beq_eq_true hb.2.1
          have h2 := Nat.le_of_ble_eq_true hb.2.2
          have hc := hv.cells_of hb.1
          have e1 : x.cells.size = size := by rw [← h1, hc.1.1]; simp
          have e2 : off + x.cells.size ≤ A.size := by have := hA.1.1; have := hc.1.1; simp at this ⊢; simp at *; omega
          have ih := aFill_sound (A := Array.foldl (fun cs p => cs.setIfInBounds (off + p.2) p.1) A x.cells.zipIdx) h (by simpa using hl)
            (fun j p q h1 h2 => hp (j + 1) p q (by simpa using h1) (by simpa using h2)) (by
              rw [← Array.foldl_toList, foldl_set_toList, Array.toList_zipIdx]
              exact ⟨hc.1.sets 0 hA.1, sets_one _ _ (fun p hp => hc.2 _ (List.fst_mem_of_mem_zipIdx hp)) hA.2⟩)
          obtain ⟨B, hB, hr⟩ := ih
          refine ⟨B, ?_, hr⟩
          rw [Instr.fill]
          simp only [hpl]
          rw [if_neg (by simp [e1]; omega)]
          exact hB
        · cases h

theorem aPlaces_sound : ∀ {fs : List Field} {l : List (Nat × Nat)}, aPlaces P fs = some l → fs.mapM (fun f => (P.info? f.type).map fun i => (f.offset, i.size)) = some l
  | [], l, h => by simp only [aPlaces] at h; cases h; rfl
  | f :: r, l, h => by
    simp only [aPlaces] at h
    split at h
    · rename_i n hn
      split at h
      · rename_i l' hl
        cases h
        unfold tsize at hn
        split at hn
        · rename_i i hi
          cases hn
          simp [hi, aPlaces_sound hl]
        · cases hn
      · cases h
    · cases h

theorem aBuild_sound {t : TypeId} {parts : List (Nat × AV)} {ps : List (Nat × Value)} {v : AV} (h : aBuild P t parts = some v) (hl : parts.length = ps.length)
    (hp : ∀ (j : Nat) (p : Nat × AV) (q : Nat × Value), parts[j]? = some p → ps[j]? = some q → p.1 = q.1 ∧ VR ρ D O w p.2 q.2) :
    ∃ z, (Instr.build t ps.toArray).run P w = .ok z w ∧ VR ρ D O w v z := by
  unfold aBuild at h
  split at h
  · rename_i it hit
    split at h
    · rename_i z hz
      split at h
      · rename_i zs hzs
        obtain ⟨vs, rfl, hvs⟩ := (ofVal_sound (ρ := ρ) (D := D) (O := O) (w := w) hzs).agg_inv
        split at h
        · rename_i m e hu
          split at h
          · rename_i n hn
            split at h
            · rename_i cs hcs
              cases h
              obtain ⟨B, hB, hr⟩ := aFill_sound (A := vs.toArray) hcs hl hp (by simpa using hvs)
              have hb : P.built t ps.toArray.toList = some B := by
                unfold tsize at hn
                split at hn
                · rename_i ie hie
                  cases hn
                  simp [Program.built, hit, hu, hz, hie, Value.cells, hB]
                · cases hn
              exact ⟨.agg B, run_build w t _ B hb, by have := hr.agg; simpa using this⟩
            · cases h
          · cases h
        · rename_i fs hu
          split at h
          · rename_i places hpl
            split at h
            · rename_i cs hcs
              cases h
              obtain ⟨B, hB, hr⟩ := aFill_sound (A := vs.toArray) hcs hl hp (by simpa using hvs)
              have hb : P.built t ps.toArray.toList = some B := by
                simp [Program.built, hit, hu, hz, aPlaces_sound hpl, Value.cells, hB]
              exact ⟨.agg B, run_build w t _ B hb, by have := hr.agg; simpa using this⟩
            · cases h
          · cases h
        · cases h
      · cases h
    · cases h
  · cases h
end
end Go.Ax
