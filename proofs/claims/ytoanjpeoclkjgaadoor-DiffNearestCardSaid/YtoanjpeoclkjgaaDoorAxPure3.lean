/- Index, arithmetic, conversions, slices, lengths. -/
import Derived.Test.YtoanjpeoclkjgaaDoorAxPure2
import Derived.WalkSpells
import Derived.WalkLawsBesides
import Derived.Lib.Strings
import Derived.Laws.StructEq
namespace Go.Ax
open Go

section
variable {P : Program} {Γ : List (Nat × AV)} {X : Nat → Prop} {ρ : Nat → Loc} {D : Nat → Prop} {O : Nat → Prop} {mem : Mem} {w : World}

theorem aElem_sound (hm : MR Γ X ρ D mem w) {id i j sz : Nat} (h : aElem mem id i j sz = true) : j = 0 ∧ (ρ id).sz = sz := by
  unfold aElem at h
  split at h
  · split at h
    · rename_i hid
      split at h
      · rename_i hx
        exact ⟨rfl, by rw [← (own_cells hm hid hx).1]; exact Nat.eq_of_beq_eq_true h⟩
      · cases h
    · cases h
  · cases h

theorem aIndexAddr_sound (hm : MR Γ X ρ D mem w) {t : TypeId} {p ix v : AV} {x y : Value} (h : aIndexAddr P mem t p ix = some v)
    (hx : VR ρ D (OX X ρ mem) w p x) (hy : VR ρ D (OX X ρ mem) w ix y) :
    ∃ z, (Instr.indexAt t x y).run P w = .ok z w ∧ VR ρ D (OX X ρ mem) w v z := by
  unfold aIndexAddr at h
  split at h
  · rename_i k n
    cases hy
    split at h
    · rename_i hn
      have hn : 0 ≤ n := of_decide_eq_true hn
      split at h
      · rename_i e hu
        split at h
        · rename_i sz hsz
          have hrun := run_tsize (w := w) hsz
          split at h
          · rename_i id off len
            split at h
            · rename_i t' sz0 xs hid
              split at h
              · rename_i hlt
                have hlt : n.toNat < len := Nat.le_of_ble_eq_true hlt
                split at h
                · rename_i u hu'
                  split at h
                  · rename_i hl
                    have hl := Nat.eq_of_beq_eq_true hl
                    cases h
                    have hz := (own_cells hm hid hu').1
                    rw [hl] at hz
                    have hlt' : n < (len : Int) := by omega
                    cases hx with
                    | sl _ _ _ cap hid' h1 h2 =>
                      refine ⟨.pointer (some ⟨(ρ id).b, off * (ρ id).sz + n.toNat * sz, none⟩), ?_, ?_⟩
                      · simp [Instr.indexAt, asIntOf, run_underlying hu, hn, hlt', hrun, Addr.add_lit]
                      · have e : off * (ρ id).sz + n.toNat * sz = (off + n.toNat) * (ρ id).sz + 0 := by rw [hz, Nat.add_mul]; omega
                        rw [e]
                        exact .ptr id _ 0 hid'
                    | slz _ _ a a' hid' => omega
                    | slzn _ _ hid' => omega
                  · cases h
                · cases h
              · cases h
            · cases h
          · rename_i sz' xs
            split at h
            · rename_i u hu'
              split at h
              · rename_i hl
                have hl := Nat.eq_of_beq_eq_true hl
                subst hl
                cases h
                have hlt : n.toNat < xs.length := by
                  rcases Nat.lt_or_ge n.toNat xs.length with h | h
                  · exact h
                  · rw [List.getElem?_eq_none h] at hu'; cases hu'
                have hlt' : n < (xs.length : Int) := by omega
                cases hx with
                | il _ _ b off cap f h0 h1 h2 h3 =>
                  refine ⟨.pointer (some ⟨b, off + n.toNat * sz, none⟩), ?_, ?_⟩
                  · simp [Instr.indexAt, asIntOf, run_underlying hu, hn, hlt', hrun, Addr.add_lit]
                  · refine .ip _ b _ (fun j => f n.toNat j) (fun j c hc => ?_) (fun j c hc => h3 _ _ j c hu' hc)
                    have := h2 _ _ j c hu' hc
                    exact ⟨this.1, by rw [Nat.add_assoc]; exact this.2.1, this.2.2⟩
                | iln => simp at hlt
              · cases h
            · cases h
          · cases h
        · cases h
      · rename_i m e hu
        split at h
        · rename_i sz sh hsz hsh
          have hrun := run_tsize (w := w) hsz
          split at h
          · rename_i hlt
            have hlt : n.toNat < m := Nat.le_of_ble_eq_true hlt
            have hlt' : n < (m : Int) := by omega
            split at h
            · rename_i id i j
              cases hx
              refine ⟨.pointer (some ⟨(ρ id).b, i * (ρ id).sz + j + n.toNat * sz, none⟩), ?_, ?_⟩
              · simp [Instr.indexAt, asIntOf, run_underlying hu, Instr.sureAddr, hn, hlt', hrun, Addr.add_lit]
              · split at h
                · rename_i he
                  cases h
                  obtain ⟨rfl, hz⟩ := aElem_sound hm he
                  have e : i * (ρ id).sz + 0 + n.toNat * sz = (i + n.toNat) * (ρ id).sz + 0 := by rw [hz, Nat.add_mul]; omega
                  rw [e]
                  exact .ptr id _ 0 (by assumption)
                · cases h
                  rw [Nat.add_assoc]; exact .ptr id i _ (by assumption)
            · rename_i u
              split at h
              · rename_i v' hv'
                cases h
                obtain ⟨b, off, rfl, hr⟩ := ip_sub hx hv'
                exact ⟨_, by simp [Instr.indexAt, asIntOf, run_underlying hu, Instr.sureAddr, hn, hlt', hrun, Addr.add_lit], hr⟩
              · cases h
            · cases h
          · cases h
        · cases h
      · cases h
    · cases h
  · cases h

theorem aIndex_sound {t : TypeId} {p ix v : AV} {x y : Value} (h : aIndex P t p ix = some v) (hx : VR ρ D O w p x) (hy : VR ρ D O w ix y) :
    ∃ z, (Instr.index t x y).run P w = .ok z w ∧ VR ρ D O w v z := by
  unfold aIndex at h
  split at h
  · rename_i k n
    cases hy
    split at h
    · rename_i hn
      have hn : 0 ≤ n := of_decide_eq_true hn
      split at h
      · rename_i hu
        split at h
        · rename_i s
          split at h
          · rename_i b hb
            cases h
            cases hx
            refine ⟨.int .u8 (b.toNat : Int), ?_, .int _ _⟩
            have hlt : n.toNat < s.length := by
              rcases Nat.lt_or_ge n.toNat s.length with h | h
              · exact h
              · rw [List.getElem?_eq_none h] at hb; cases hb
            have hb' : (⟨s.toArray⟩ : ByteArray)[n.toNat]? = some b := by
              rw [ByteArray.getElem?_lt' (⟨s.toArray⟩ : ByteArray) n.toNat (by simpa [ByteArray.size] using hlt)]
              rw [List.getElem?_eq_getElem hlt] at hb
              exact hb
            simp [Instr.index, asIntOf, run_underlying hu, hn, hb']
          · cases h
        · cases h
      · rename_i m e hu
        split at h
        · rename_i cs
          split at h
          · rename_i hlt
            have hlt : n.toNat < m := Nat.le_of_ble_eq_true hlt
            have hlt' : n < (m : Int) := by omega
            split at h
            · rename_i sz sh hsz hsh
              obtain ⟨vs, rfl, hvs⟩ := hx.agg_inv
              obtain ⟨z, hz, hr⟩ := run_part (w := w) hsh h hvs
              exact ⟨z, by simp [Instr.index, asIntOf, run_underlying hu, hn, hlt', run_tsize hsz, hz], hr⟩
            · cases h
          · cases h
        · cases h
      · cases h
    · cases h
  · cases h
end

/-! Arithmetic -/

def aIntOp (op : BinOp) (k : IntKind) (x y : Int) : Option AV :=
  match op with
  | .add => some (.int k (k.wrap (x + y)))
  | .sub => some (.int k (k.wrap (x - y)))
  | .mul => some (.int k (k.wrap (x * y)))
  | .quo => match decide (y = 0) with
    | true => none
    | false => some (.int k (k.wrap (x.tdiv y)))
  | .rem => match decide (y = 0) with
    | true => none
    | false => some (.int k (x.tmod y))
  | .and => some (.int k (bits .and k x y))
  | .or => some (.int k (bits .or k x y))
  | .xor => some (.int k (bits .xor k x y))
  | .andNot => some (.int k (bits .andNot k x y))
  | .eql => some (.bool (x == y))
  | .neq => some (.bool (x != y))
  | .lss => some (.bool (decide (x < y)))
  | .leq => some (.bool (decide (x ≤ y)))
  | .gtr => some (.bool (decide (x > y)))
  | .geq => some (.bool (decide (x ≥ y)))
  | _ => none

def aStrOp (op : BinOp) (x y : List UInt8) : Option AV :=
  match op with
  | .add => match decide ((x.length : Int) + y.length ≤ 9223372036854775807) with
    | true => some (.str (x ++ y))
    | false => none
  | .eql => some (.bool (x == y))
  | .neq => some (.bool (!(x == y)))
  | .lss => some (.bool (Op.bytesLess x y))
  | .leq => some (.bool (Op.bytesLess x y || x == y))
  | .gtr => some (.bool (!(Op.bytesLess x y || x == y)))
  | .geq => some (.bool (!(Op.bytesLess x y)))
  | _ => none

def aShift (op : BinOp) (k : IntKind) (x y : Int) : Option AV :=
  match decide (y < 0) with
  | true => none
  | false => match op with
    | .shl => some (.int k (k.wrap (x * 2 ^ (min y.toNat k.bits))))
    | .shr => some (.int k (x.fdiv (2 ^ (min y.toNat k.bits))))
    | _ => none

/-- Whether two values of a type are equal, where that can be told; 'lit': one of the operands is written out. -/
def aEq (P : Program) (lit : Bool) (t : TypeId) (x y : AV) : Option Bool :=
  match P.underlying t with
  | some .bool => match x, y with
    | .bool a, .bool b => some (a == b)
    | _, _ => none
  | some (.pointer _) => match x, y with
    | .nptr, .nptr => some true
    | .nptr, .ptr _ _ _ => some false
    | .nptr, .ip _ => some false
    | .ptr _ _ _, .nptr => some false
    | .ip _, .nptr => some false
    | _, _ => none
  | some (.slice _) => match x, y with
    | .nsl, .nsl => some true
    | .sl _ _ (_ + 1), .nsl => some false
    | .nsl, .sl _ _ (_ + 1) => some false
    | .il _ (_ :: _), .nsl => some false
    | .nsl, .il _ (_ :: _) => some false
    | _, _ => none
  | some (.map _ _) => match x, y with
    | .nmap, .nmap => some true
    | .mp _, .nmap => some false
    | .nmap, .mp _ => some false
    | _, _ => none
  | some (.func _ _ _) => match x, y with
    | .nfn, .nfn => some true
    | .fn _ _ _, .nfn => some false
    | .nfn, .fn _ _ _ => some false
    | _, _ => none
  | some (.interface _) => match x, y with
    | .nif, .nif => match lit with
      | true => some true
      | false => none
    | .nif, .ifc _ _ => some false
    | .ifc _ _, .nif => some false
    | _, _ => none
  | _ => none

/-- Two values of one cell each. -/
def aEq1 (P : Program) (t : TypeId) (x y : AV) : Option Bool :=
  match P.underlying t with
  | some (.int _) => match x, y with
    | .int k a, .int k' b => match decide (k = k') with
      | true => some (a == b)
      | false => none
    | _, _ => none
  | some .string => match x, y with
    | .str a, .str b => some (a == b)
    | _, _ => none
  | some .bool => match x, y with
    | .bool a, .bool b => some (a == b)
    | _, _ => none
  | _ => none

def aEqF (P : Program) (xs ys : List AV) : List Field → Option Bool
  | [] => some true
  | f :: r => match f.name == "_" with
    | true => none
    | false => match shp P f.type with
      | some sh => match sub sh xs f.offset with
        | some x => match sub sh ys f.offset with
          | some y => match aEq1 P f.type x y with
            | some b => match aEqF P xs ys r with
              | some c => some (b && c)
              | none => none
            | none => none
          | none => none
        | none => none
      | none => none

/-- Two structs. -/
def aEqS (P : Program) (t : TypeId) (xs ys : List AV) : Option Bool :=
  match P.underlying t with
  | some (.struct fs) => match P.stoodInHeld t with
    | false => aEqF P xs ys fs.toList
    | true => none
  | _ => none

def isConst : Operand → Bool
  | .const _ => true
  | _ => false

def aBin (P : Program) (op : BinOp) (t : TypeId) (xo yo : Operand) (x y : AV) : Option AV :=
  match x, y with
  | .int k a, .int k' b => match op with
    | .shl => aShift .shl k a b
    | .shr => aShift .shr k a b
    | _ => match decide (k = k') with
      | true => aIntOp op k a b
      | false => none
  | .str a, .str b => aStrOp op a b
  | .agg a, .agg b => match P.eqGuardType P.depth t with
    | false => match op with
      | .eql => match aEqS P t a b with
        | some r => some (.bool r)
        | none => none
      | .neq => match aEqS P t a b with
        | some r => some (.bool (!r))
        | none => none
      | _ => none
    | true => none
  | _, _ => match op with
    | .eql => match aEq P (isConst xo || isConst yo) t x y with
      | some b => some (.bool b)
      | none => none
    | .neq => match aEq P (isConst xo || isConst yo) t x y with
      | some b => some (.bool (!b))
      | none => none
    | _ => none

section
variable {P : Program} {ρ : Nat → Loc} {D : Nat → Prop} {O : Nat → Prop} {w : World}

theorem aIntOp_sound {op : BinOp} {k : IntKind} {x y : Int} {v : AV} (h : aIntOp op k x y = some v) (t : TypeId) :
    ∃ z, (binOp op t (.int k x) (.int k y)).run P w = .ok z w ∧ VR ρ D O w v z := by
  cases op <;> simp only [aIntOp] at h <;> first | (cases h; done) | skip
  all_goals first
    | (cases h; refine ⟨_, ?_, VR.int _ _⟩; simp [binOp, Op.intArith, intBits_and, intBits_or, intBits_xor, intBits_andNot]; done)
    | (cases h; refine ⟨_, ?_, VR.bool _⟩; simp [binOp, Op.intCmp]; done)
    | (split at h <;> first | (cases h; done) | (rename_i hd; cases h; refine ⟨_, ?_, VR.int _ _⟩; simp [binOp, Op.intDiv, of_decide_eq_false hd]))

theorem aStrOp_sound {op : BinOp} {x y : List UInt8} {v : AV} (h : aStrOp op x y = some v) (t : TypeId) :
    ∃ z, (binOp op t (.string ⟨x.toArray⟩) (.string ⟨y.toArray⟩)).run P w = .ok z w ∧ VR ρ D O w v z := by
  cases op <;> simp only [aStrOp] at h <;> first | (cases h; done) | skip
  case add =>
    split at h
    · rename_i hd
      cases h
      have hd := of_decide_eq_true hd
      refine ⟨_, ?_, VR.str _⟩
      have e : (⟨x.toArray⟩ : ByteArray) ++ ⟨y.toArray⟩ = ⟨(x ++ y).toArray⟩ := by
        rw [← Lib.mk_data ((⟨x.toArray⟩ : ByteArray) ++ ⟨y.toArray⟩)]
        congr 1
      simp [binOp, Op.stringOp, ByteArray.size, e]
      exact hd
    · cases h
  all_goals (cases h; refine ⟨_, ?_, VR.bool _⟩; simp [binOp, Op.stringOp])

theorem aShift_sound {op : BinOp} {k k' : IntKind} {x y : Int} {v : AV} (h : aShift op k x y = some v) (t : TypeId) :
    ∃ z, (binOp op t (.int k x) (.int k' y)).run P w = .ok z w ∧ VR ρ D O w v z := by
  unfold aShift at h
  split at h
  · cases h
  · rename_i hd
    have hd := of_decide_eq_false hd
    split at h <;> first | (cases h; done) | skip
    all_goals
      cases h
      refine ⟨_, ?_, VR.int _ _⟩
      simp [binOp, Op.shift, hd]

theorem aEq_sound {lit : Bool} {t : TypeId} {a b : AV} {x y : Value} {r : Bool} (h : aEq P lit t a b = some r) (hx : VR ρ D O w a x) (hy : VR ρ D O w b y) :
    (Op.equal t x y).run P w = .ok r w ∧ ∀ (op : BinOp) (xo yo : Operand), lit = (isConst xo || isConst yo) → eqGuard op t xo yo x y = pure () := by
  unfold aEq at h
  split at h <;> first | (cases h; done) | skip
  all_goals rename_i hu
  all_goals
    split at h <;> first | (cases h; done) | skip
  all_goals first | (split at h <;> first | (cases h; done) | skip) | skip
  all_goals
    cases h
    cases hx <;> cases hy <;> first
      | (refine ⟨by show (Op.equalIn (9999 + 1) t _ _).run P w = _; rw [Op.equalIn, Sem.run_bind, run_underlying hu]; rfl, fun op xo yo _ => ?_⟩
         cases op <;> rfl)
      | (refine ⟨by show (Op.equalIn (9999 + 1) t _ _).run P w = _; rw [Op.equalIn, Sem.run_bind, run_underlying hu]; rfl, fun op xo yo hl => ?_⟩
         cases op <;> cases xo <;> cases yo <;> first | rfl | (simp [isConst] at hl))

theorem aEq1_sound {t : TypeId} {a b : AV} {x y : Value} {r : Bool} (h : aEq1 P t a b = some r) (hx : VR ρ D O w a x) (hy : VR ρ D O w b y) (d : Nat) : (Op.equalIn (d + 1) t x y).run P w = .ok r w := by
  unfold aEq1 at h
  split at h
  · rename_i hu
    split at h
    · split at h
      · rename_i hk
        have hk := of_decide_eq_true hk
        subst hk
        cases h; cases hx; cases hy
        exact run_equalIn_int w d t _ _ _ _ hu
      · cases h
    · cases h
  · rename_i hu
    split at h
    · cases h; cases hx; cases hy
      rw [run_equalIn_string w d t _ _ hu, ByteArray.toList_eq, ByteArray.toList_eq]
    · cases h
  · rename_i hu
    split at h
    · cases h; cases hx; cases hy
      exact run_equalIn_bool' w d t _ _ hu
    · cases h
  · cases h

theorem aEqF_sound {xs ys : List AV} {vs us : List Value} (hx : VRC ρ D O w xs vs) (hy : VRC ρ D O w ys us) (d : Nat) : ∀ {fs : List Field} {r : Bool}, aEqF P xs ys fs = some r → (Op.eqFields (d + 1) vs.toArray us.toArray fs).run P w = .ok r w
  | [], r, h => by cases h; simp [Op.eqFields]
  | f :: fs, r, h => by
    simp only [aEqF] at h
    split at h
    · cases h
    · rename_i hn
      have hn : f.name ≠ "_" := by simpa using hn
      split at h
      · rename_i sh hsh
        split at h
        · rename_i x hx1
          split at h
          · rename_i y hy1
            split at h
            · rename_i b hb
              split at h
              · rename_i c hc
                cases h
                obtain ⟨z1, p1, q1⟩ := run_part (w := w) hsh hx1 hx
                obtain ⟨z2, p2, q2⟩ := run_part (w := w) hsh hy1 hy
                have e := aEq1_sound (P := P) hb q1 q2 d
                have ih := aEqF_sound hx hy d hc
                rw [Op.eqFields, if_pos hn, Sem.run_bind, p1, Result.andThen_ok, Sem.run_bind, p2, Result.andThen_ok, Sem.run_bind, e, Result.andThen_ok, Sem.run_ite]
                cases b
                · simp
                · simpa using ih
              · cases h
            · cases h
          · cases h
        · cases h
      · cases h

theorem aEqS_sound {t : TypeId} {a b : List AV} {x y : Value} {r : Bool} (h : aEqS P t a b = some r) (hx : VR ρ D O w (.agg a) x) (hy : VR ρ D O w (.agg b) y) : (Op.equal t x y).run P w = .ok r w ∧ ∃ xs ys, x = .agg xs ∧ y = .agg ys := by
  unfold aEqS at h
  split at h
  · rename_i fs hu
    split at h
    · rename_i hs
      obtain ⟨vs, rfl, hvs⟩ := hx.agg_inv
      obtain ⟨us, rfl, hus⟩ := hy.agg_inv
      have hf : P.fieldsOf t = fs := by simp [Program.fieldsOf, hu]
      refine ⟨?_, _, _, rfl, rfl⟩
      show (Op.equalIn (9999 + 1) t _ _).run P w = _
      rw [run_equalIn_struct w 9999 t _ _ (by rw [hf]; exact hu) hs, hf]
      exact aEqF_sound hvs hus 9998 h
    · cases h
  · cases h

theorem aBin_sound {op : BinOp} {t : TypeId} {xo yo : Operand} {a b v : AV} {x y : Value} (h : aBin P op t xo yo a b = some v) (hx : VR ρ D O w a x) (hy : VR ρ D O w b y) :
    ∃ z, (do eqGuard op t xo yo x y; binOp op t x y).run P w = .ok z w ∧ VR ρ D O w v z := by
  unfold aBin at h
  split at h
  · rename_i k p k' q
    cases hx; cases hy
    have g : ∀ op, eqGuard op t xo yo (.int k p) (.int k' q) = pure () := fun op => by cases op <;> rfl
    rw [g]
    split at h
    · obtain ⟨z, hz, hr⟩ := aShift_sound (P := P) (ρ := ρ) (D := D) (O := O) (w := w) (k' := k') h t
      exact ⟨z, by simpa using hz, hr⟩
    · obtain ⟨z, hz, hr⟩ := aShift_sound (P := P) (ρ := ρ) (D := D) (O := O) (w := w) (k' := k') h t
      exact ⟨z, by simpa using hz, hr⟩
    · split at h
      · rename_i hk
        have hk := of_decide_eq_true hk
        subst hk
        obtain ⟨z, hz, hr⟩ := aIntOp_sound (P := P) (ρ := ρ) (D := D) (O := O) (w := w) h t
        exact ⟨z, by simpa using hz, hr⟩
      · cases h
  · cases hx; cases hy
    have g : ∀ op p q, eqGuard op t xo yo (.string p) (.string q) = pure () := fun op p q => by cases op <;> rfl
    rw [g]
    obtain ⟨z, hz, hr⟩ := aStrOp_sound (P := P) (ρ := ρ) (D := D) (O := O) (w := w) h t
    exact ⟨z, by simpa using hz, hr⟩
  · split at h
    · rename_i hg
      split at h
      · split at h
        · rename_i r he
          cases h
          obtain ⟨h1, xs, ys, rfl, rfl⟩ := aEqS_sound he hx hy
          refine ⟨.bool r, ?_, .bool _⟩
          rw [Sem.run_bind, run_eqGuard_agg w _ _ _ _ _ _ hg, Result.andThen_ok, run_eql_struct]
          have h1 : (Op.equalIn 10000 t (.agg xs) (.agg ys)).run P w = .ok r w := h1
          rw [h1]
          rfl
        · cases h
      · split at h
        · rename_i r he
          cases h
          obtain ⟨h1, xs, ys, rfl, rfl⟩ := aEqS_sound he hx hy
          refine ⟨.bool (!r), ?_, .bool _⟩
          rw [Sem.run_bind, run_eqGuard_agg w _ _ _ _ _ _ hg, Result.andThen_ok, run_neq_struct]
          have h1 : (Op.equalIn 10000 t (.agg xs) (.agg ys)).run P w = .ok r w := h1
          rw [h1]
          rfl
        · cases h
      · cases h
    · cases h
  · rename_i hni hns hna
    have nint : ∀ k n k' n', x = .int k n → y = .int k' n' → False := by
      intro k n k' n' e1 e2
      subst e1 e2
      cases hx <;> cases hy <;> first | exact hni _ _ _ _ rfl rfl | skip
      all_goals (split at h <;> first | (cases h; done) | skip)
      all_goals (split at h <;> first | (cases h; done) | skip)
      all_goals (rename_i he; unfold aEq at he; split at he <;> first | (cases he; done) | (split at he <;> cases he))
    split at h
    · split at h
      · rename_i r he
        cases h
        obtain ⟨h1, h2⟩ := aEq_sound he hx hy
        rw [h2 _ _ _ rfl]
        refine ⟨.bool r, ?_, .bool _⟩
        have e : binOp .eql t x y = (do let r ← Op.equal t x y; pure (.bool r)) := by
          unfold aEq at he
          split at he <;> first | (cases he; done) | skip
          all_goals (split at he <;> first | (cases he; done) | skip)
          all_goals (cases hx <;> cases hy <;> rfl)
        rw [e]
        simp [h1]
      · cases h
    · split at h
      · rename_i r he
        cases h
        obtain ⟨h1, h2⟩ := aEq_sound he hx hy
        rw [h2 _ _ _ rfl]
        refine ⟨.bool (!r), ?_, .bool _⟩
        have e : binOp .neq t x y = (do let r ← Op.equal t x y; pure (.bool (!r))) := by
          unfold aEq at he
          split at he <;> first | (cases he; done) | skip
          all_goals (split at he <;> first | (cases he; done) | skip)
          all_goals (cases hx <;> cases hy <;> rfl)
        rw [e]
        simp [h1]
      · cases h
    · cases h

end
end Go.Ax
