/- append; the bytes of a string. -/
import Derived.Test.YtoanjpeoclkjgaaDoorAxEff3
namespace Go.Ax
open Go
set_option linter.unusedVariables false

/-- The elements that are appended. -/
def aSrc (mem : Mem) (sz : Nat) : AV → Option (List AV)
  | .nsl => some []
  | .il sz' ys => match Nat.beq sz' sz with
    | true => some ys
    | false => none
  | .sl id off len => match lk mem id with
    | some (.row _ sz' xs) => match Nat.beq sz' sz && Nat.ble (off + len) xs.length with
      | true => some ((xs.drop off).take len)
      | false => none
    | _ => none
  | .str s => match Nat.beq sz 1 with
    | true => some (s.map fun b => .int .u8 (b.toNat : Int))
    | false => none
  | _ => none

def notInt : Option TypeDesc → Bool
  | some (.slice _) => true
  | some .string => true
  | _ => false

def aAppend (P : Program) (mem : Mem) (nx : Nat) (t u : TypeId) (s x : AV) : Option (AV × Mem × Nat) :=
  match P.underlying t with
  | some (.slice e) => match P.info? e with
    | some i => match i.zero with
      | some z => match notInt (P.underlying u) && (Nat.blt 0 i.size && Nat.beq z.cells.size i.size) with
        | true => match aSrc mem i.size x with
          | some ys => match s with
            | .nsl => match ys with
              | [] => some (.nsl, mem, nx)
              | _ :: _ => match Nat.ble (ys.length * i.bytes) 140737488355328 && Nat.ble ys.length 9223372036854775807 with
                | true => some (.sl nx 0 ys.length, (nx, .row e i.size ys) :: mem, nx + 1)
                | false => none
            | .sl id 0 len => match lk mem id with
              | some (.row t' sz' xs) => match Nat.beq t' e && (Nat.beq sz' i.size && (Nat.beq len xs.length && (Nat.ble ((len + ys.length) * i.bytes) 140737488355328 && Nat.ble (len + ys.length) 9223372036854775807))) with
                | true => some (.sl nx 0 (len + ys.length), (nx, .row e i.size (xs ++ ys)) :: drop id mem, nx + 1)
                | false => none
              | _ => none
            | _ => none
          | none => none
        | false => none
      | none => none
    | none => none
  | _ => none

section
variable {P : Program} {Γ : List (Nat × AV)} {X : Nat → Prop} {ρ : Nat → Loc} {D : Nat → Prop} {O : Nat → Prop} {mem : Mem} {w w' : World}

/-- A row of elements as a row of cells. -/
def Flat (ρ : Nat → Loc) (D : Nat → Prop) (O : Nat → Prop) (w : World) (sz : Nat) (ys : List AV) (vs : List Value) : Prop :=
  vs.length = ys.length * sz ∧ (∀ v ∈ vs, v.oneCell' = true) ∧ ∀ (i : Nat) (y : AV), ys[i]? = some y → y.cells.length = sz ∧
    ∀ (j : Nat) (c : AV), y.cells[j]? = some c → ∃ v, vs[i * sz + j]? = some v ∧ VR ρ D O w c v

theorem divmod_lt {q sz n : Nat} (hp : 0 < sz) (h : q < n * sz) : q / sz < n ∧ q % sz < sz ∧ q / sz * sz + q % sz = q :=
  ⟨(Nat.div_lt_iff_lt_mul hp).2 h, Nat.mod_lt _ hp, by rw [Nat.mul_comm]; exact Nat.div_add_mod q sz⟩

/-- Elements that lie in memory, read cell by cell. -/
theorem flat_of {sz : Nat} {ys : List AV} {b off : Nat} (hp : 0 < sz)
    (hc : ∀ (i : Nat) (y : AV), ys[i]? = some y → y.cells.length = sz ∧ ∀ (j : Nat) (c : AV), y.cells[j]? = some c → ∃ v, w.cell? ⟨b, off + (i * sz + j), none⟩ = some v ∧ v.oneCell' = true ∧ VR ρ D O w c v) :
    ∃ vs, Flat ρ D O w sz ys vs ∧ ∀ (j : Nat) (v : Value), vs[j]? = some v → w.cell? (Addr.add ⟨b, off, none⟩ j) = some v := by
  have key : ∀ q, q < ys.length * sz → ∃ v, w.cell? ⟨b, off + q, none⟩ = some v ∧ v.oneCell' = true ∧ ∀ (y c : AV), ys[q / sz]? = some y → y.cells[q % sz]? = some c → VR ρ D O w c v := by
    intro q hq
    obtain ⟨h1, h2, h3⟩ := divmod_lt hp hq
    have hy : ys[q / sz]? = some ys[q / sz] := List.getElem?_eq_getElem h1
    obtain ⟨h4, h5⟩ := hc _ _ hy
    have hcc : ys[q / sz].cells[q % sz]? = some (ys[q / sz].cells[q % sz]'(by omega)) := List.getElem?_eq_getElem _
    obtain ⟨v, hv, ho, hr⟩ := h5 _ _ hcc
    rw [h3] at hv
    refine ⟨v, hv, ho, fun y c e1 e2 => ?_⟩
    rw [hy] at e1
    cases e1
    rw [hcc] at e2
    cases e2
    exact hr
  refine ⟨(List.range (ys.length * sz)).map fun q => (w.cell? ⟨b, off + q, none⟩).getD undef, ⟨by simp, fun v hv => ?_, fun i y hi => ⟨(hc i y hi).1, fun j c hj => ?_⟩⟩, fun j v hj => ?_⟩
  · obtain ⟨q, hq, rfl⟩ := List.mem_map.1 hv
    obtain ⟨v, hv, ho, _⟩ := key q (List.mem_range.1 hq)
    simp [hv, ho]
  · obtain ⟨v, hv, ho, hr⟩ := (hc i y hi).2 j c hj
    have hjl : j < sz := by
      rw [← (hc i y hi).1]
      rcases Nat.lt_or_ge j y.cells.length with h' | h'
      · exact h'
      · rw [List.getElem?_eq_none h'] at hj; cases hj
    have hil : i < ys.length := by
      rcases Nat.lt_or_ge i ys.length with h' | h'
      · exact h'
      · rw [List.getElem?_eq_none h'] at hi; cases hi
    have : (i + 1) * sz ≤ ys.length * sz := Nat.mul_le_mul_right _ hil
    rw [Nat.add_mul, Nat.one_mul] at this
    refine ⟨v, ?_, hr⟩
    rw [List.getElem?_map, List.getElem?_range (by omega)]
    simp [hv]
  · have hjl : j < ys.length * sz := by
      rcases Nat.lt_or_ge j (ys.length * sz) with h' | h'
      · exact h'
      · simp [h'] at hj
    obtain ⟨v', hv, _⟩ := key j hjl
    simp [hjl, hv] at hj
    subst hj
    simp [Addr.add_lit, hv]

/-- What is appended, read. -/
theorem aSrc_sound (hm : MR Γ X ρ D mem w) {sz : Nat} {a : AV} {x : Value} {ys : List AV} (hp : 0 < sz) (h : aSrc mem sz a = some ys) (hx : VR ρ D (OX X ρ mem) w a x) :
    ∃ vs, Flat ρ D (OX X ρ mem) w sz ys vs ∧ Builtin.lenOf x = pure ys.length ∧ ∀ w', w'.heap = w.heap → (Builtin.firstCells sz ys.length x).run P w' = .ok vs.toArray w' := by
  have cellw : ∀ w' : World, w'.heap = w.heap → ∀ a, w'.cell? a = w.cell? a := fun w' e a => by simp [World.cell?, e]
  have fin : ∀ {b off len cap : Nat}, (∀ (i : Nat) (y : AV), ys[i]? = some y → y.cells.length = sz ∧ ∀ (j : Nat) (c : AV), y.cells[j]? = some c → ∃ v, w.cell? ⟨b, off + (i * sz + j), none⟩ = some v ∧ v.oneCell' = true ∧ VR ρ D (OX X ρ mem) w c v) →
      len = ys.length → ∃ vs, Flat ρ D (OX X ρ mem) w sz ys vs ∧ Builtin.lenOf (.slice (some ⟨b, off, none⟩) len cap) = pure ys.length ∧
        ∀ w', w'.heap = w.heap → (Builtin.firstCells sz ys.length (.slice (some ⟨b, off, none⟩) len cap)).run P w' = .ok vs.toArray w' := by
    intro b off len cap hc hl
    obtain ⟨vs, hf, hv⟩ := flat_of hp hc
    refine ⟨vs, hf, by rw [hl]; rfl, fun w' e => ?_⟩
    exact run_firstCells_some w' sz ys.length ⟨b, off, none⟩ len cap vs hf.1 (fun j v hj => by rw [cellw w' e]; exact hv j v hj)
  have finz : ys = [] → ∀ (ad : Option Addr) (cap : Nat), x = .slice ad 0 cap → ∃ vs, Flat ρ D (OX X ρ mem) w sz ys vs ∧ Builtin.lenOf x = pure ys.length ∧
        ∀ w', w'.heap = w.heap → (Builtin.firstCells sz ys.length x).run P w' = .ok vs.toArray w' := by
    intro e ad cap ex
    subst e ex
    refine ⟨[], ⟨by simp, by simp, by simp⟩, rfl, fun w' _ => ?_⟩
    cases ad with
    | none => rfl
    | some ad => simp [Builtin.firstCells, loadCells, loadCellsFrom]
  unfold aSrc at h
  split at h
  · cases h
    cases hx
    exact finz rfl _ _ rfl
  · rename_i sz' ys'
    split at h
    · rename_i hs
      have hs := Nat.eq_of_beq_eq_true hs
      cases h
      subst hs
      cases hx with
      | il _ _ b off cap f h0 h1 h2 h3 =>
        exact fin (fun i y hi => ⟨h1 i y hi, fun j c hj => ⟨f i j, (h2 i y j c hi hj).2.1, (h2 i y j c hi hj).2.2, h3 i y j c hi hj⟩⟩) rfl
      | iln => exact finz rfl _ _ rfl
    · cases h
  · rename_i id off len
    split at h
    · rename_i t' sz' xs hid
      split at h
      · rename_i hb
        rw [Bool.and_eq_true] at hb
        have b1 := Nat.eq_of_beq_eq_true hb.1
        have b2 := Nat.le_of_ble_eq_true hb.2
        have hz : (ρ id).sz = sz := by rw [row_sz hm hid]; exact b1
        cases h
        cases hx with
        | sl _ _ _ cap hid' g1 g2 =>
          refine fin (fun i y hi => ?_) (by simp; omega)
          have hi' : xs[off + i]? = some y := by
            rw [List.getElem?_take] at hi
            split at hi
            · rw [List.getElem?_drop] at hi; exact hi
            · cases hi
          obtain ⟨h1, h2⟩ := own_cells hm hid hi'
          refine ⟨by rw [h1, hz], fun j c hj => ?_⟩
          obtain ⟨v, hv, ho, hr⟩ := h2 j c hj
          refine ⟨v, ?_, ho, hr⟩
          rw [hz, Nat.add_mul, Nat.add_assoc] at hv
          rw [hz]
          exact hv
        | slz _ _ ad ao hid' => exact finz (by simp) _ _ rfl
        | slzn _ _ hid' => exact finz (by simp) _ _ rfl
      · cases h
    · cases h
  · rename_i s
    split at h
    · rename_i hs
      have hs := Nat.eq_of_beq_eq_true hs
      cases h
      subst hs
      cases hx
      refine ⟨s.map fun b => .int .u8 (b.toNat : Int), ⟨by simp, fun v hv => ?_, fun i y hi => ?_⟩, ?_, fun w' _ => ?_⟩
      · obtain ⟨b, _, rfl⟩ := List.mem_map.1 hv; rfl
      · rw [List.getElem?_map] at hi
        obtain ⟨b, hb, rfl⟩ := Option.map_eq_some_iff.1 hi
        refine ⟨rfl, fun j c hj => ?_⟩
        cases j with
        | zero =>
          simp [AV.cells] at hj
          subst hj
          exact ⟨_, by simp [List.getElem?_map, hb], .int _ _⟩
        | succ j => simp [AV.cells] at hj
      · simp [Builtin.lenOf, ByteArray.size_mk']
      · simp [Builtin.firstCells, ByteArray.extract_mk]
    · cases h
  · cases h

theorem Flat.row {sz : Nat} {ys : List AV} {vs : List Value} (h : Flat ρ D O w sz ys vs) {pre : List AV} {ps : List Value} (h' : Flat ρ D O w sz pre ps) (post : Array Value) :
    RowR ρ D O w sz (ps.toArray ++ vs.toArray ++ post) (pre ++ ys) := by
  obtain ⟨h1, ho, h2⟩ := h
  obtain ⟨h3, ho', h4⟩ := h'
  refine ⟨by simp [h1, h3, Nat.add_mul], fun i y hi => ?_⟩
  have key : ∀ (q : Nat) (v : Value), (ps ++ vs)[q]? = some v → (ps.toArray ++ vs.toArray ++ post)[q]? = some v := by
    intro q v hq
    have hlt : q < (ps ++ vs).length := by
      rcases Nat.lt_or_ge q (ps ++ vs).length with h' | h'
      · exact h'
      · rw [List.getElem?_eq_none h'] at hq; cases hq
    rw [Array.getElem?_append, if_pos (by simpa using hlt)]
    simpa using hq
  rw [List.getElem?_append] at hi
  split at hi
  · rename_i hlt
    refine ⟨(h4 i y hi).1, fun j c hj => ?_⟩
    obtain ⟨v, hv, hr⟩ := (h4 i y hi).2 j c hj
    refine ⟨v, key _ _ ?_, ho' v (List.mem_of_getElem? hv), hr⟩
    have hlt2 : i * sz + j < ps.length := by
      rcases Nat.lt_or_ge (i * sz + j) ps.length with h' | h'
      · exact h'
      · rw [List.getElem?_eq_none h'] at hv; cases hv
    rw [List.getElem?_append, if_pos hlt2]
    exact hv
  · rename_i hge
    refine ⟨(h2 _ y hi).1, fun j c hj => ?_⟩
    obtain ⟨v, hv, hr⟩ := (h2 _ y hi).2 j c hj
    refine ⟨v, key _ _ ?_, ho v (List.mem_of_getElem? hv), hr⟩
    have e : i * sz + j = ps.length + ((i - pre.length) * sz + j) := by
      rw [h3, Nat.sub_mul]
      have : pre.length * sz ≤ i * sz := Nat.mul_le_mul_right _ (by omega)
      omega
    rw [e, List.getElem?_append_right (by omega)]
    rw [Nat.add_sub_cancel_left]
    exact hv

theorem run_append_zeros {u : TypeId} (hu : notInt (P.underlying u) = true) : (∃ e, P.underlying u = some (.slice e)) ∨ P.underlying u = some .string := by
  cases h : P.underlying u with
  | none => rw [h] at hu; cases hu
  | some d => rw [h] at hu; cases d <;> first | exact .inr rfl | exact .inl ⟨_, rfl⟩ | (simp [notInt] at hu)

theorem run_append_more {t u ty e : TypeId} {i : TypeInfo} {z x : Value} {base : Option Addr} {sLen sCap n : Nat} {news olds : Array Value} (ht : P.underlying t = some (.slice e)) (hu : notInt (P.underlying u) = true)
    (hi : P.info? e = some i) (hz : i.zero = some z) (hlen : Builtin.lenOf x = pure n) (hnew : ∀ w', w'.heap = w.heap → (Builtin.firstCells i.size n x).run P w' = .ok news w')
    (hold : ∀ w', w'.heap = w.heap → (Builtin.firstCells i.size sLen (.slice base sLen sCap)).run P w' = .ok olds w') (hgt : sCap < sLen + n) (h63 : sLen + n ≤ 9223372036854775807) (h47 : (sLen + n) * i.bytes ≤ 140737488355328) :
    (Builtin.append_ #[t, u] ty #[.slice base sLen sCap, x]).run P w =
      .ok (.slice (some ⟨w.heap.size, 0, none⟩) (sLen + n) (grownCap w (sLen + n) sCap e)) (w.drew.alloc (.cells (olds ++ news ++ Builtin.zeroCells z.cells (grownCap w (sLen + n) sCap e - (sLen + n))) e)) := by
  have hn : ¬ (sLen + n ≤ sCap) := by omega
  have h48 := growslice_fits hgt h47
  have h48' : ¬ (281474976710656 < Builtin.nextslicecap (sLen + n) sCap * i.bytes) := by omega
  have h63' : ¬ ((9223372036854775807 : Int) < (sLen : Int) + (n : Int) ∧ i.bytes = 0) := by rintro ⟨h1, _⟩; omega
  have hnew' := hnew w.drew rfl
  have hold' := hold w.drew rfl
  rcases run_append_zeros hu with ⟨e', hd⟩ | hd
  · simp [Builtin.append_, run_underlying ht, run_underlying hd, Go.sizeOf, typeInfo, zeroValue, hi, hz, hlen, hn, h63', h48', Question.forced, hnew', hold', newRow, grownCap]
  · simp [Builtin.append_, run_underlying ht, run_underlying hd, Go.sizeOf, typeInfo, zeroValue, hi, hz, hlen, hn, h63', h48', Question.forced, hnew', hold', newRow, grownCap]

theorem run_append_fits {t u ty e : TypeId} {i : TypeInfo} {x : Value} {g sLen sCap n : Nat} {news : List Value} {cur : Array Value} {fr : Nat × Nat} (ht : P.underlying t = some (.slice e)) (hu : notInt (P.underlying u) = true)
    (hi : P.info? e = some i) (hlen : Builtin.lenOf x = pure n) (hnew : (Builtin.firstCells i.size n x).run P w = .ok news.toArray w) (hg : w.heap[g]? = some (.cells cur e fr)) (hfr : ∀ j, j < cur.size → ¬ (fr.1 ≤ j ∧ j < fr.2))
    (hone : ∀ v ∈ news, v.oneCell' = true) (hroom : sLen + n ≤ sCap) (hfit : sLen * i.size + news.length ≤ cur.size) :
    (Builtin.append_ #[t, u] ty #[.slice (some ⟨g, 0, none⟩) sLen sCap, x]).run P w =
      .ok (.slice (some ⟨g, 0, none⟩) (sLen + n) sCap) (w.setRow g (cur.toList.take (sLen * i.size) ++ news ++ cur.toList.drop (sLen * i.size + news.length)).toArray) := by
  have hst := run_storeCells_gen P g (sLen * i.size) e fr news 0 cur w hg hfr (by simpa using hfit) hone
  simp only [Nat.add_zero] at hst
  rcases run_append_zeros hu with ⟨e', hd⟩ | hd
  · simp [Builtin.append_, run_underlying ht, run_underlying hd, Go.sizeOf, typeInfo, hi, hlen, hroom, hnew, Addr.add_lit, hst]
  · simp [Builtin.append_, run_underlying ht, run_underlying hd, Go.sizeOf, typeInfo, hi, hlen, hroom, hnew, Addr.add_lit, hst]

theorem run_append_none {t u ty e : TypeId} {i : TypeInfo} {x : Value} {ad : Option Addr} (ht : P.underlying t = some (.slice e)) (hu : notInt (P.underlying u) = true)
    (hi : P.info? e = some i) (hlen : Builtin.lenOf x = pure 0) (hnew : (Builtin.firstCells i.size 0 x).run P w = .ok #[] w) :
    (Builtin.append_ #[t, u] ty #[.slice ad 0 0, x]).run P w = .ok (.slice ad 0 0) w := by
  rcases run_append_zeros hu with ⟨e', hd⟩ | hd
  · cases ad <;> simp [Builtin.append_, run_underlying ht, run_underlying hd, Go.sizeOf, typeInfo, hi, hlen, hnew, storeCells]
  · cases ad <;> simp [Builtin.append_, run_underlying ht, run_underlying hd, Go.sizeOf, typeInfo, hi, hlen, hnew, storeCells]
end
end Go.Ax
