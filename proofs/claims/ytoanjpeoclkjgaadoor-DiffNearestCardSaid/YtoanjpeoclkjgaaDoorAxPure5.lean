/- Conversions, slices, lengths; all pure operations together. -/
import Derived.Test.YtoanjpeoclkjgaaDoorAxPure4
namespace Go.Ax
open Go
set_option linter.unusedVariables false

/-- A bound of a slice expression: not given, or a number. -/
def aBound (d : Nat) : Option AV → Option Nat
  | none => some d
  | some (.int _ n) => match decide (0 ≤ n) with
    | true => some n.toNat
    | false => none
  | some _ => none

def aSlice (P : Program) (mem : Mem) (t : TypeId) (x : AV) (lo hi mx : Option AV) : Option AV :=
  match P.underlying t with
  | some .string => match x, mx with
    | .str s, none => match aBound 0 lo with
      | some l => match aBound s.length hi with
        | some h => match Nat.ble l h && Nat.ble h s.length with
          | true => some (.str ((s.drop l).take (h - l)))
          | false => none
        | none => none
      | none => none
    | _, _ => none
  | some (.slice e) => match tsize P e with
    | none => none
    | some sz => match x with
      | .nsl => match aBound 0 lo, aBound 0 hi, aBound 0 mx with
        | some 0, some 0, some 0 => some .nsl
        | _, _, _ => none
      | .il sz' xs => match Nat.beq sz sz' with
        | true => match aBound 0 lo, aBound xs.length hi, aBound xs.length mx with
          | some l, some h, some m => match Nat.ble l h && (Nat.ble h m && Nat.ble m xs.length) with
            | true => some (.il sz' ((xs.drop l).take (h - l)))
            | false => none
          | _, _, _ => none
        | false => none
      | .sl id off len => match lk mem id with
        | some (.row _ sz0 _) => match Nat.beq sz0 sz with
          | true => match aBound 0 lo, aBound len hi, aBound len mx with
            | some l, some h, some m => match Nat.ble l h && (Nat.ble h m && Nat.ble m len) with
              | true => some (.sl id (off + l) (h - l))
              | false => none
            | _, _, _ => none
          | false => none
        | _ => none
      | _ => none
  | some (.array n e) => match tsize P e with
    | none => none
    | some sz => match x with
      | .ptr id i 0 => match lk mem id with
        | some (.row _ _ xs) => match aElem mem id i 0 sz && Nat.ble (i + n) xs.length with
          | true => match aBound 0 lo, aBound n hi, aBound n mx with
            | some l, some h, some m => match Nat.ble l h && (Nat.ble h m && Nat.ble m n) with
              | true => some (.sl id (i + l) (h - l))
              | false => none
            | _, _, _ => none
          | false => none
        | _ => none
      | _ => none
  | _ => none

def aLen (P : Program) (mem : Mem) (t : TypeId) (x : AV) : Option AV :=
  match P.underlying t with
  | some .string => match x with
    | .str s => some (.int .i64 (s.length : Int))
    | _ => none
  | some (.array n _) => some (.int .i64 (n : Int))
  | some (.slice _) => match x with
    | .nsl => some (.int .i64 0)
    | .il _ xs => some (.int .i64 (xs.length : Int))
    | .sl _ _ len => some (.int .i64 (len : Int))
    | _ => none
  | some (.map _ _) => match x with
    | .nmap => some (.int .i64 0)
    | _ => none
  | _ => none

def aMin : Int → List AV → Option Int
  | x, [] => some x
  | x, .int _ y :: r => aMin (if y < x then y else x) r
  | _, _ => none

def aMax : Int → List AV → Option Int
  | x, [] => some x
  | x, .int _ y :: r => aMax (if y > x then y else x) r
  | _, _ => none

section
variable {P : Program} {Γ : List (Nat × AV)} {X : Nat → Prop} {ρ : Nat → Loc} {D : Nat → Prop} {O : Nat → Prop} {mem : Mem} {w : World}

theorem row_cells {xs : List AV} {b off : Nat} {f : AV → Value → Prop}
    (hs : ∀ (i : Nat) (x : AV), xs[i]? = some x → x.cells.length = 1)
    (hc : ∀ (i : Nat) (x : AV), xs[i]? = some x → ∃ v, w.cell? ⟨b, off + i, none⟩ = some v ∧ f x v) :
    ∃ vs : List Value, vs.length = xs.length ∧ (∀ (j : Nat) (v : Value), vs[j]? = some v → w.cell? (Addr.add ⟨b, off, none⟩ j) = some v) ∧
      ∀ (j : Nat) (c : AV) (x : Value), xs[j]? = some c → vs[j]? = some x → f c x := by
  refine ⟨(List.range xs.length).map fun i => (w.cell? ⟨b, off + i, none⟩).getD undef, by simp, fun j v hj => ?_, fun j c x h1 h2 => ?_⟩
  · have hlt : j < xs.length := by
      rcases Nat.lt_or_ge j xs.length with h | h
      · exact h
      · simp [h] at hj
    obtain ⟨v', hv', _⟩ := hc j _ (List.getElem?_eq_getElem hlt)
    simp [hlt, hv'] at hj
    subst hj
    simp [Addr.add_lit, hv']
  · have hlt : j < xs.length := by
      rcases Nat.lt_or_ge j xs.length with h | h
      · exact h
      · simp [h] at h2
    obtain ⟨v', hv', hr⟩ := hc j c h1
    simp [hlt, hv'] at h2
    subst h2
    exact hr

theorem toBytes_one : ∀ {xs : List AV} {l : List UInt8}, toBytes xs = some l → ∀ (i : Nat) (x : AV), xs[i]? = some x → x.cells = [x]
  | [], l, h, i, x, hi => by simp at hi
  | a :: xs, l, h, i, x, hi => by
    unfold toBytes at h
    split at h
    · rename_i e; cases e
    · rename_i n r e
      cases e
      split at h
      · rename_i l' hl
        cases i with
        | zero => simp at hi; subst hi; rfl
        | succ i => exact toBytes_one hl i x (by simpa using hi)
      · cases h
    · cases h

theorem run_bytesToString {xs : List AV} {l : List UInt8} (h : toBytes xs = some l) {b off cap : Nat}
    (hc : ∀ (i : Nat) (x : AV), xs[i]? = some x → ∃ v, w.cell? ⟨b, off + i, none⟩ = some v ∧ VR ρ D O w x v) :
    (Conv.bytesToString (.slice (some ⟨b, off, none⟩) xs.length cap)).run P w = .ok (.string ⟨l.toArray⟩) w := by
  obtain ⟨vs, hl, hv, hr⟩ := row_cells (w := w) (b := b) (off := off) (f := VR ρ D O w) (fun i x hi => by rw [toBytes_one h i x hi]; rfl) hc
  have hload := run_loadCells_list (P := P) w ⟨b, off, none⟩ vs hv
  have hfor := fun msg : String => toBytes_sound (msg := msg) (P := P) (w := w) (ρ := ρ) (D := D) (O := O) h ⟨hl.symm, hr⟩ ByteArray.empty
  simp only [Conv.bytesToString]
  rw [← hl, Sem.run_bind, hload]
  simp only [Result.andThen_ok]
  rw [Sem.run_bind, List.forIn_toArray]
  refine (congrArg (fun r : Result ByteArray => r.andThen fun a w' => Sem.run P (pure (Value.string a)) w') (hfor _)).trans ?_
  simp [ByteArray.empty, ByteArray.emptyWithCapacity]
  rfl

theorem aConv_sound (hm : MR Γ X ρ D mem w) {src dst : TypeId} {a v : AV} {x : Value} (h : aConv P mem src dst a = some v) (hx : VR ρ D (OX X ρ mem) w a x) :
    ∃ z, (convert src dst x).run P w = .ok z w ∧ VR ρ D (OX X ρ mem) w v z := by
  unfold aConv at h
  split at h
  · cases h
  · rename_i d hd
    split at h
    · rename_i k hk
      split at h
      · cases h; cases hx
        exact ⟨_, by simp [convert, run_underlying hd, run_underlying hk, Conv.intToInt], .int _ _⟩
      · cases h
    · rename_i hk
      split at h
      · cases h; cases hx
        exact ⟨_, by simp [convert, run_underlying hd, run_underlying hk], .str _⟩
      · split at h
        · rename_i e
          split at h
          · rename_i he
            split at h
            · cases h; cases hx
              refine ⟨_, ?_, .str []⟩
              simp [convert, run_underlying hd, run_underlying hk, run_underlying he, Conv.bytesToString]; rfl
            · rename_i sz xs _
              split at h
              · rename_i hsz
                have hsz := Nat.eq_of_beq_eq_true hsz
                subst hsz
                split at h
                · rename_i l hl
                  cases h
                  cases hx with
                  | il _ _ b off cap f h0 h1 h2 h3 =>
                    refine ⟨_, ?_, .str l⟩
                    have := run_bytesToString (P := P) (w := w) (ρ := ρ) (D := D) (O := OX X ρ mem) hl (b := b) (off := off) (cap := cap) (fun i x hi => by
                      have hc : x.cells = [x] := toBytes_one hl i x hi
                      have h4 := h2 i x 0 x hi (by rw [hc]; rfl)
                      exact ⟨f i 0, by simpa using h4.2.1, h3 i x 0 x hi (by rw [hc]; rfl)⟩)
                    simp [convert, run_underlying hd, run_underlying hk, run_underlying he, this]
                  | iln =>
                    simp [toBytes] at hl
                    subst hl
                    refine ⟨_, ?_, .str []⟩
                    simp [convert, run_underlying hd, run_underlying hk, run_underlying he, Conv.bytesToString]; rfl
                · cases h
              · cases h
            · rename_i id off len _
              split at h
              · rename_i t' sz0 xs hid
                split at h
                · rename_i hle
                  have hle := Nat.le_of_ble_eq_true hle
                  split at h
                  · rename_i l hl
                    cases h
                    have hlen : ((xs.drop off).take len).length = len := by simp; omega
                    cases hx with
                    | sl _ _ _ cap hid' h1 h2 =>
                      refine ⟨_, ?_, .str l⟩
                      have := run_bytesToString (P := P) (w := w) (ρ := ρ) (D := D) (O := OX X ρ mem) hl (b := (ρ id).b) (off := off * (ρ id).sz) (cap := cap) (fun i x hi => by
                        have hc : x.cells = [x] := toBytes_one hl i x hi
                        have hi' : xs[off + i]? = some x := by
                          rw [List.getElem?_take] at hi
                          split at hi
                          · rw [List.getElem?_drop] at hi; exact hi
                          · cases hi
                        obtain ⟨hz, hcell⟩ := own_cells hm hid hi'
                        obtain ⟨v, hv, _, hr⟩ := hcell 0 x (by rw [hc]; rfl)
                        have hsz : (ρ id).sz = 1 := by rw [← hz, hc]; rfl
                        refine ⟨v, ?_, hr⟩
                        rw [hsz] at hv ⊢
                        simpa using hv)
                      rw [hlen] at this
                      simp [convert, run_underlying hd, run_underlying hk, run_underlying he, this]
                    | slz _ _ a' ao' hid' =>
                      simp [toBytes] at hl
                      subst hl
                      refine ⟨_, ?_, .str []⟩
                      simp [convert, run_underlying hd, run_underlying hk, run_underlying he, Conv.bytesToString, loadCells, loadCellsFrom]; rfl
                    | slzn _ _ hid' =>
                      simp [toBytes] at hl
                      subst hl
                      refine ⟨_, ?_, .str []⟩
                      simp [convert, run_underlying hd, run_underlying hk, run_underlying he, Conv.bytesToString]; rfl
                  · cases h
                · cases h
              · cases h
            · cases h
          · cases h
        · cases h
    · cases h

theorem aExtract_sound {a v : AV} {i : Nat} {x : Value} (h : aExtract a i = some v) (hx : VR ρ D O w a x) : ∃ z, (Instr.extract x i).run P w = .ok z w ∧ VR ρ D O w v z := by
  unfold aExtract at h
  split at h
  · obtain ⟨vs, rfl, hl, hr⟩ := hx.tup_inv
    rename_i cs
    have hlt : i < vs.length := by
      rcases Nat.lt_or_ge i vs.length with h' | h'
      · exact h'
      · rw [List.getElem?_eq_none (by omega)] at h; cases h
    exact ⟨vs[i], by simp [Instr.extract, hlt], hr i v _ h (by simp [hlt])⟩
  · cases h

theorem aIface_sound {t : TypeId} {a v : AV} {x : Value} (h : aIface P t a = some v) (hx : VR ρ D O w a x) : ∃ z, (Instr.makeInterface t x).run P w = .ok z w ∧ VR ρ D O w v z := by
  unfold aIface at h
  split at h
  · rename_i hc
    cases h
    exact ⟨.iface t x, run_makeInterface w t x hc, .ifc t a x hx⟩
  · cases h

/-- What stands in a bound of a slice expression. -/
inductive BdR (ρ : Nat → Loc) (D : Nat → Prop) (O : Nat → Prop) (w : World) : Option AV → Option Value → Prop
  | none : BdR ρ D O w none none
  | some (a : AV) (x : Value) : VR ρ D O w a x → BdR ρ D O w (some a) (some x)

theorem aBound_sound {a : Option AV} {x : Option Value} {d l : Nat} (h : aBound d a = some l) (hx : BdR ρ D O w a x) (y : Nat) (hy : l ≤ y) (c : BoundsCode) :
    (x = none ∧ l = d) ∨ ∃ v, x = some v ∧ (Instr.sliceBound v y c).run P w = .ok l w := by
  cases hx with
  | none => simp only [aBound] at h; cases h; exact .inl ⟨rfl, rfl⟩
  | some a x hr =>
    right
    refine ⟨x, rfl, ?_⟩
    unfold aBound at h
    split at h
    · rename_i e; cases e
    · rename_i k n e
      cases e
      cases hr
      split at h
      · rename_i hn
        have hn := of_decide_eq_true hn
        cases h
        have h2 : n ≤ (y : Int) := by omega
        simp [Instr.sliceBound, asIntOf, hn, h2]
      · cases h
    · cases h

theorem run_bounds {isS : Bool} {len cap l h m : Nat} {lo hi mx : Option AV} {x y z : Option Value} (h1 : aBound 0 lo = some l) (h2 : aBound len hi = some h)
    (r1 : BdR ρ D O w lo x) (r2 : BdR ρ D O w hi y) (r3 : BdR ρ D O w mx z) (hl : l ≤ h) (hh : h ≤ m) (hm : (z = none ∧ m = cap) ∨ (z.isSome = true ∧ y.isSome = true ∧ aBound cap mx = some m ∧ m ≤ cap)) :
    (Instr.sliceBounds isS len cap x y z).run P w = .ok (l, h, m) w := by
  have b1 := fun c => aBound_sound (P := P) (w := w) h1 r1 h hl c
  have b2 := fun c => aBound_sound (P := P) (w := w) h2 r2 m hh c
  rcases hm with ⟨rfl, rfl⟩ | ⟨hz, hy, h3, hmc⟩
  · rcases b1 .sliceB with ⟨rfl, rfl⟩ | ⟨v, rfl, _⟩
    · rcases b2 .sliceB with ⟨rfl, rfl⟩ | ⟨u, rfl, _⟩
      · simp [Instr.sliceBounds]
      · have e := fun c => (b2 c).resolve_left (by simp)
        simp only [Option.some.injEq, exists_eq_left'] at e
        simp [Instr.sliceBounds, e]
    · have e1 := fun c => (b1 c).resolve_left (by simp)
      simp only [Option.some.injEq, exists_eq_left'] at e1
      rcases b2 .sliceB with ⟨rfl, rfl⟩ | ⟨u, rfl, _⟩
      · simp [Instr.sliceBounds, e1]
      · have e := fun c => (b2 c).resolve_left (by simp)
        simp only [Option.some.injEq, exists_eq_left'] at e
        simp [Instr.sliceBounds, e, e1]
  · have b3 := fun c => aBound_sound (P := P) (w := w) h3 r3 cap hmc c
    obtain ⟨zv, rfl⟩ := Option.isSome_iff_exists.1 hz
    obtain ⟨yv, rfl⟩ := Option.isSome_iff_exists.1 hy
    have e3 := fun c => (b3 c).resolve_left (by simp)
    have e2 := fun c => (b2 c).resolve_left (by simp)
    simp only [Option.some.injEq, exists_eq_left'] at e2 e3
    rcases b1 .sliceB with ⟨rfl, rfl⟩ | ⟨v, rfl, _⟩
    · simp [Instr.sliceBounds, e3, e2]
    · have e1 := fun c => (b1 c).resolve_left (by simp)
      simp only [Option.some.injEq, exists_eq_left'] at e1
      simp [Instr.sliceBounds, e3, e2, e1]

theorem row_sz (hm : MR Γ X ρ D mem w) {id : Nat} {t : TypeId} {sz : Nat} {xs : List AV} (hid : lk mem id = some (.row t sz xs)) : (ρ id).sz = sz := by
  rcases Nat.eq_zero_or_pos (ρ id).n with h | h
  · obtain ⟨t', sz', e, h2⟩ := hm.emp _ (lk_mem hid) h
    cases e
    exact h2
  · obtain ⟨o, ho, h2, _⟩ := hm.blk _ (lk_mem hid) h
    exact h2

theorem bd_some {a : Option AV} {x : Option Value} (h : BdR ρ D O w a x) : x.isSome = a.isSome := by cases h <;> rfl

/-- The bounds that a slice of a capacity is given. -/
theorem run_bounds_cap {isS : Bool} {len cap l h m : Nat} {lo hi mx : Option AV} {x y z : Option Value} (h1 : aBound 0 lo = some l) (h2 : aBound len hi = some h)
    (h3 : aBound len mx = some m) (hlc : len ≤ cap)
    (r1 : BdR ρ D O w lo x) (r2 : BdR ρ D O w hi y) (r3 : BdR ρ D O w mx z) (hl : l ≤ h) (hh : h ≤ m) (hm : m ≤ len) (hmx : mx.isSome = true → hi.isSome = true) :
    ∃ m', h ≤ m' ∧ m' ≤ cap ∧ (Instr.sliceBounds isS len cap x y z).run P w = .ok (l, h, m') w := by
  cases mx with
  | none =>
    cases r3
    exact ⟨cap, by omega, Nat.le_refl _, run_bounds h1 h2 r1 r2 .none hl (by omega) (.inl ⟨rfl, rfl⟩)⟩
  | some a =>
    have hz := bd_some r3
    have hy := bd_some r2
    refine ⟨m, hh, by omega, run_bounds h1 h2 r1 r2 r3 hl hh (.inr ⟨hz, by rw [hy]; exact hmx rfl, ?_, by omega⟩)⟩
    cases a <;> simp only [aBound] at h3 ⊢ <;> exact h3

theorem aSlice_sound (hm : MR Γ X ρ D mem w) {t : TypeId} {a v : AV} {x : Value} {lo hi mx : Option AV} {x1 x2 x3 : Option Value} (h : aSlice P mem t a lo hi mx = some v)
    (hx : VR ρ D (OX X ρ mem) w a x) (r1 : BdR ρ D (OX X ρ mem) w lo x1) (r2 : BdR ρ D (OX X ρ mem) w hi x2) (r3 : BdR ρ D (OX X ρ mem) w mx x3) (hmx : mx.isSome = true → hi.isSome = true) :
    ∃ z, (Instr.sliceAt t x x1 x2 x3).run P w = .ok z w ∧ VR ρ D (OX X ρ mem) w v z := by
  unfold aSlice at h
  split at h
  · rename_i hu
    split at h
    · rename_i s
      cases r3
      split at h
      · rename_i l hl
        split at h
        · rename_i hh hhi
          split at h
          · rename_i hb
            rw [Bool.and_eq_true] at hb
            have b1 := Nat.le_of_ble_eq_true hb.1
            have b2 := Nat.le_of_ble_eq_true hb.2
            cases h
            cases hx
            have hb := run_bounds (P := P) (isS := false) (len := s.length) (cap := s.length) (m := s.length) hl hhi r1 r2 .none b1 b2 (.inl ⟨rfl, rfl⟩)
            refine ⟨_, ?_, .str _⟩
            have hsz : (⟨s.toArray⟩ : ByteArray).size = s.length := by simp [ByteArray.size]
            simp only [Instr.sliceAt, Sem.run_bind, run_underlying hu, Result.andThen_ok, Instr.slice, hsz, Option.isSome_none, Bool.false_eq_true, if_false, hb, ByteArray.extract_mk]
            rfl
          · cases h
        · cases h
      · cases h
    · cases h
  · rename_i e hu
    split at h
    · cases h
    · rename_i sz hsz
      have hrun := run_tsize (w := w) hsz
      split at h
      · split at h
        · rename_i h1 h2 h3
          cases h
          cases hx
          obtain ⟨m', _, hm', hb⟩ := run_bounds_cap (P := P) (isS := true) (cap := 0) h1 h2 h3 (Nat.le_refl _) r1 r2 r3 (Nat.le_refl _) (Nat.le_refl _) (Nat.le_refl _) hmx
          have : m' = 0 := by omega
          subst this
          refine ⟨_, ?_, .nsl⟩
          simp only [Instr.sliceAt, Sem.run_bind, run_underlying hu, Result.andThen_ok, Instr.slice, hb, hrun]
          rfl
        · cases h
      · rename_i sz' xs
        split at h
        · rename_i hsz'
          have hsz' := Nat.eq_of_beq_eq_true hsz'
          subst hsz'
          split at h
          · rename_i l hh m h1 h2 h3
            split at h
            · rename_i hb
              simp only [Bool.and_eq_true] at hb
              have b1 := Nat.le_of_ble_eq_true hb.1
              have b2 := Nat.le_of_ble_eq_true hb.2.1
              have b3 := Nat.le_of_ble_eq_true hb.2.2
              cases h
              cases hx with
              | il _ _ b off cap f g0 g1 g2 g3 =>
                obtain ⟨m', hm1, hm2, hb⟩ := run_bounds_cap (P := P) (isS := true) (cap := cap) h1 h2 h3 g0 r1 r2 r3 b1 b2 b3 hmx
                have hlen : ((xs.drop l).take (hh - l)).length = hh - l := by simp; omega
                by_cases hml : m' = l
                · have e0 : hh - l = 0 := by omega
                  have e1 : (xs.drop l).take (hh - l) = [] := by rw [e0]; simp
                  refine ⟨.slice (some ⟨b, off, none⟩) (hh - l) (m' - l), ?_, ?_⟩
                  · simp only [Instr.sliceAt, Sem.run_bind, run_underlying hu, Result.andThen_ok, Instr.slice, hb, hrun, hml, if_true]
                    rfl
                  · rw [e1, e0]
                    exact .il sz [] b off _ (fun _ _ => undef) (by simp) (by simp) (by simp) (by simp)
                · refine ⟨.slice (some ⟨b, off + l * sz, none⟩) (hh - l) (m' - l), ?_, ?_⟩
                  · simp only [Instr.sliceAt, Sem.run_bind, run_underlying hu, Result.andThen_ok, Instr.slice, hb, hrun, hml, if_false, Option.map_some, Addr.add_lit]
                    rfl
                  · have key : ∀ (i : Nat) (x : AV), ((xs.drop l).take (hh - l))[i]? = some x → xs[l + i]? = some x := by
                      intro i x hi
                      rw [List.getElem?_take] at hi
                      split at hi
                      · rw [List.getElem?_drop] at hi; exact hi
                      · cases hi
                    generalize (xs.drop l).take (hh - l) = Y at *
                    rw [← hlen]
                    refine .il sz _ b (off + l * sz) _ (fun i j => f (l + i) j) (by omega) (fun i x hi => g1 _ x (key i x hi)) (fun i x j c hi hj => ?_) (fun i x j c hi hj => g3 _ x j c (key i x hi) hj)
                    have := g2 _ x j c (key i x hi) hj
                    refine ⟨this.1, ?_, this.2.2⟩
                    rw [← this.2.1, Nat.add_mul]
                    congr 2
                    omega
              | iln =>
                simp at b3
                subst b3
                obtain rfl : hh = 0 := by omega
                obtain rfl : l = 0 := by omega
                obtain ⟨m', _, hm', hb⟩ := run_bounds_cap (P := P) (isS := true) (cap := 0) h1 h2 h3 (by simp) r1 r2 r3 (Nat.le_refl _) (Nat.le_refl _) (by simp) hmx
                have : m' = 0 := by omega
                subst this
                refine ⟨.slice none 0 0, ?_, by simpa using VR.iln sz⟩
                simp only [List.length_nil] at hb
                simp only [Instr.sliceAt, Sem.run_bind, run_underlying hu, Result.andThen_ok, Instr.slice, hb, hrun]
                rfl
            · cases h
          · cases h
        · cases h
      · rename_i id off len
        split at h
        · rename_i t' sz0 xs hid
          split at h
          · rename_i hsz'
            have hsz' := Nat.eq_of_beq_eq_true hsz'
            have hz : (ρ id).sz = sz := by rw [row_sz hm hid]; exact hsz'
            split at h
            · rename_i l hh m h1 h2 h3
              split at h
              · rename_i hb
                simp only [Bool.and_eq_true] at hb
                have b1 := Nat.le_of_ble_eq_true hb.1
                have b2 := Nat.le_of_ble_eq_true hb.2.1
                have b3 := Nat.le_of_ble_eq_true hb.2.2
                cases h
                cases hx with
                | sl _ _ _ cap hid' g1 g2 =>
                  obtain ⟨m', hm1, hm2, hb⟩ := run_bounds_cap (P := P) (isS := true) (cap := cap) h1 h2 h3 g1 r1 r2 r3 b1 b2 b3 hmx
                  by_cases hml : m' = l
                  · have e0 : hh - l = 0 := by omega
                    have e2 : m' - l = 0 := by omega
                    refine ⟨.slice (some ⟨(ρ id).b, off * (ρ id).sz, none⟩) (hh - l) (m' - l), ?_, ?_⟩
                    · simp only [Instr.sliceAt, Sem.run_bind, run_underlying hu, Result.andThen_ok, Instr.slice, hb, hrun, hml, if_true]
                      rfl
                    · rw [e0, e2]
                      exact .slz id _ _ _ hid'
                  · refine ⟨.slice (some ⟨(ρ id).b, off * (ρ id).sz + l * sz, none⟩) (hh - l) (m' - l), ?_, ?_⟩
                    · simp only [Instr.sliceAt, Sem.run_bind, run_underlying hu, Result.andThen_ok, Instr.slice, hb, hrun, hml, if_false, Option.map_some, Addr.add_lit]
                      rfl
                    · have e : off * (ρ id).sz + l * sz = (off + l) * (ρ id).sz := by rw [hz, Nat.add_mul]
                      rw [e]
                      refine .sl id (off + l) (hh - l) (m' - l) hid' (by omega) (Nat.le_trans (Nat.mul_le_mul_right _ ?_) g2)
                      omega
                | slz _ _ ad ao hid' =>
                  have : m = 0 := by omega
                  subst this
                  obtain rfl : hh = 0 := by omega
                  obtain rfl : l = 0 := by omega
                  obtain ⟨m', _, hm', hb⟩ := run_bounds_cap (P := P) (isS := true) (cap := 0) h1 h2 h3 (Nat.le_refl _) r1 r2 r3 (Nat.le_refl _) (Nat.le_refl _) (by simp) hmx
                  have : m' = 0 := by omega
                  subst this
                  refine ⟨.slice (some ⟨ad, ao, none⟩) 0 0, ?_, .slz id _ ad ao hid'⟩
                  simp only [Instr.sliceAt, Sem.run_bind, run_underlying hu, Result.andThen_ok, Instr.slice, hb, hrun, if_true]
                  rfl
                | slzn _ _ hid' =>
                  have : m = 0 := by omega
                  subst this
                  obtain rfl : hh = 0 := by omega
                  obtain rfl : l = 0 := by omega
                  obtain ⟨m', _, hm', hb⟩ := run_bounds_cap (P := P) (isS := true) (cap := 0) h1 h2 h3 (Nat.le_refl _) r1 r2 r3 (Nat.le_refl _) (Nat.le_refl _) (by simp) hmx
                  have : m' = 0 := by omega
                  subst this
                  refine ⟨.slice none 0 0, ?_, .slzn id _ hid'⟩
                  simp only [Instr.sliceAt, Sem.run_bind, run_underlying hu, Result.andThen_ok, Instr.slice, hb, hrun, if_true]
                  rfl
              · cases h
            · cases h
          · cases h
        · cases h
      · cases h
  · rename_i n e hu
    split at h
    · cases h
    · rename_i sz hsz
      have hrun := run_tsize (w := w) hsz
      split at h
      · rename_i id i
        split at h
        · rename_i t' sz0 xs hid
          split at h
          · rename_i hel
            rw [Bool.and_eq_true] at hel
            have hin := Nat.le_of_ble_eq_true hel.2
            have hz := (aElem_sound hm hel.1).2
            split at h
            · rename_i l hh m h1 h2 h3
              split at h
              · rename_i hb
                simp only [Bool.and_eq_true] at hb
                have b1 := Nat.le_of_ble_eq_true hb.1
                have b2 := Nat.le_of_ble_eq_true hb.2.1
                have b3 := Nat.le_of_ble_eq_true hb.2.2
                cases h
                cases hx with
                | ptr _ _ _ hid' =>
                  obtain ⟨m', hm1, hm2, hb⟩ := run_bounds_cap (P := P) (isS := false) (cap := n) h1 h2 h3 (Nat.le_refl _) r1 r2 r3 b1 b2 b3 hmx
                  have hn0 : 0 < (ρ id).n := by
                    rcases Nat.eq_zero_or_pos (ρ id).n with h' | h'
                    · obtain ⟨t', sz1, e, _⟩ := hm.emp _ (lk_mem hid) h'
                      cases e
                      simp [aElem, hid] at hel
                    · exact h'
                  obtain ⟨o, ho, _, arr, fr, rfl, _, q1, q2, _⟩ := hm.blk _ (lk_mem hid) hn0
                  by_cases hml : m' = l
                  · have e0 : hh - l = 0 := by omega
                    have e2 : m' - l = 0 := by omega
                    refine ⟨.slice (some ⟨(ρ id).b, i * (ρ id).sz + 0, none⟩) (hh - l) (m' - l), ?_, ?_⟩
                    · simp only [Instr.sliceAt, Sem.run_bind, run_underlying hu, Result.andThen_ok, Instr.sureAddr, Sem.run_pure, hb, hrun, hml, if_true]
                    · rw [e0, e2]
                      exact .slz id _ _ _ hid'
                  · refine ⟨.slice (some ⟨(ρ id).b, i * (ρ id).sz + 0 + l * sz, none⟩) (hh - l) (m' - l), ?_, ?_⟩
                    · simp only [Instr.sliceAt, Sem.run_bind, run_underlying hu, Result.andThen_ok, Instr.sureAddr, Sem.run_pure, hb, hrun, hml, if_false, Addr.add_lit]
                    · have e : i * (ρ id).sz + 0 + l * sz = (i + l) * (ρ id).sz := by rw [hz, Nat.add_mul]; omega
                      rw [e]
                      refine .sl id (i + l) (hh - l) (m' - l) hid' (by omega) (Nat.le_trans (Nat.mul_le_mul_right _ ?_) q2)
                      omega
              · cases h
            · cases h
          · cases h
        · cases h
      · cases h
  · cases h

theorem aLen_sound {t : TypeId} {a v : AV} {x : Value} (h : aLen P mem t a = some v) (hx : VR ρ D O w a x) (ty : TypeId) :
    ∃ z, (Builtin.len_ #[t] ty #[x]).run P w = .ok z w ∧ VR ρ D O w v z := by
  unfold aLen at h
  split at h
  · rename_i hu
    split at h
    · cases h; cases hx
      refine ⟨_, ?_, .int _ _⟩
      simp [Builtin.len_, run_underlying hu, goInt, ByteArray.size_mk']
    · cases h
  · rename_i hu
    cases h
    refine ⟨_, ?_, .int _ _⟩
    simp [Builtin.len_, run_underlying hu, goInt]
  · rename_i hu
    split at h <;> first | (cases h; done) | skip
    all_goals
      cases h
      cases hx <;>
        (refine ⟨_, ?_, .int _ _⟩
         simp [Builtin.len_, run_underlying hu, goInt])
  · rename_i hu
    split at h
    · cases h; cases hx
      refine ⟨_, ?_, .int _ _⟩
      simp [Builtin.len_, run_underlying hu, goInt]
    · cases h
  · cases h

theorem aMin_sound (k : IntKind) : ∀ {cs : List AV} {vs : List Value} {x r : Int}, aMin x cs = some r → VRL ρ D O w cs vs → (List.foldlM Builtin.min2 (.int k x) vs).run P w = .ok (.int k r) w
  | [], vs, x, r, h, hv => by
    have : vs = [] := by have := hv.1; simp at this; exact List.eq_nil_of_length_eq_zero this.symm
    subst this
    simp only [aMin] at h
    cases h
    simp
  | c :: cs, vs, x, r, h, hv => by
    cases vs with
    | nil => have := hv.1; simp at this
    | cons v vs =>
      unfold aMin at h
      split at h
      · rename_i e; cases e
      · rename_i k' y r' e
        cases e
        have h0 := hv.2 0 _ v rfl rfl
        cases h0
        have hr : VRL ρ D O w cs vs := ⟨by have := hv.1; simpa using this, fun j c x h1 h2 => hv.2 (j + 1) c x (by simpa using h1) (by simpa using h2)⟩
        simp [Builtin.min2, aMin_sound k h hr]
      · cases h

theorem aMax_sound (k : IntKind) : ∀ {cs : List AV} {vs : List Value} {x r : Int}, aMax x cs = some r → VRL ρ D O w cs vs → (List.foldlM Builtin.max2 (.int k x) vs).run P w = .ok (.int k r) w
  | [], vs, x, r, h, hv => by
    have : vs = [] := by have := hv.1; simp at this; exact List.eq_nil_of_length_eq_zero this.symm
    subst this
    simp only [aMax] at h
    cases h
    simp
  | c :: cs, vs, x, r, h, hv => by
    cases vs with
    | nil => have := hv.1; simp at this
    | cons v vs =>
      unfold aMax at h
      split at h
      · rename_i e; cases e
      · rename_i k' y r' e
        cases e
        have h0 := hv.2 0 _ v rfl rfl
        cases h0
        have hr : VRL ρ D O w cs vs := ⟨by have := hv.1; simpa using this, fun j c x h1 h2 => hv.2 (j + 1) c x (by simpa using h1) (by simpa using h2)⟩
        simp [Builtin.max2, aMax_sound k h hr]
      · cases h
end
end Go.Ax
