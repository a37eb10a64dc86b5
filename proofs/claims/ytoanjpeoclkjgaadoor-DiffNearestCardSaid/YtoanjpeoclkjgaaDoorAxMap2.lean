/- Maps. -/
import Derived.Test.YtoanjpeoclkjgaaDoorAxMap1
namespace Go.Ax
open Go
set_option linter.unusedVariables false

def aMakeMap (mem : Mem) (nx : Nat) (reserve : Option AV) : Option (AV × Mem × Nat) :=
  match reserve with
  | none => some (.mp nx, (nx, .mapb []) :: mem, nx + 1)
  | some _ => none

/-- One cell, a plain kind. -/
def scal : Option TypeDesc → Bool
  | some (.int _) => true
  | some .string => true
  | some .bool => true
  | _ => false

def scalF (P : Program) (cs : List AV) : List Field → Bool
  | [] => true
  | f :: r => !(f.name == "_") && (scal (P.underlying f.type) && ((sub none cs f.offset).isSome && scalF P cs r))

/-- A key that can be looked up. -/
def aKey (P : Program) (t : TypeId) (k : AV) : Bool :=
  match P.underlying t with
  | some (.struct fs) => match k with
    | .agg cs => scalF P cs fs.toList
    | _ => false
  | d => scal d

def aKeyEq (P : Program) (t : TypeId) (k e : AV) : Option Bool :=
  match P.underlying t with
  | some (.struct _) => match k, e with
    | .agg a, .agg b => aEqS P t a b
    | _, _ => none
  | _ => aEq1 P t k e

def aFindM (P : Program) (t : TypeId) (k : AV) : List (AV × AV) → Nat → Option (Option (Nat × AV))
  | [], _ => some none
  | (a, v) :: r, i => match aKeyEq P t k a with
    | some true => some (some (i, v))
    | some false => aFindM P t k r (i + 1)
    | none => none

def aLookup (P : Program) (mem : Mem) (t : TypeId) (m k : AV) (ok : Bool) : Option AV :=
  match P.underlying t with
  | some (.map kt et) => match aKey P kt k with
    | true => match m with
      | .nmap => match zeroAV P et with
        | some z => match ok with
          | true => some (.tup [z, .bool false])
          | false => some z
        | none => none
      | .mp id => match lk mem id with
        | some (.mapb es) => match aFindM P kt k es 0 with
          | some (some (_, v)) => match ok with
            | true => some (.tup [v, .bool true])
            | false => some v
          | some none => match zeroAV P et with
            | some z => match ok with
              | true => some (.tup [z, .bool false])
              | false => some z
            | none => none
          | none => none
        | _ => none
      | _ => none
    | false => none
  | _ => none

def same0 : AV → AV → Bool
  | .int k a, .int k' b => decide (k = k') && decide (a = b)
  | .str a, .str b => decide (a = b)
  | .bool a, .bool b => decide (a = b)
  | _, _ => false

def same0s : List AV → List AV → Bool
  | [], [] => true
  | a :: r, b :: t => same0 a b && same0s r t
  | _, _ => false

def sameK : AV → AV → Bool
  | .agg a, .agg b => same0s a b
  | a, b => same0 a b

def aMapUpdate (P : Program) (mem : Mem) (t : TypeId) (m k v : AV) : Option Mem :=
  match P.underlying t with
  | some (.map kt _) => match aKey P kt k with
    | true => match m with
      | .mp id => match lk mem id with
        | some (.mapb es) => match aFindM P kt k es 0 with
          | some (some (i, _)) => match es[i]? with
            | some (k', _) => match sameK k' k with
              | true => some (up mem id (.mapb (es.set i (k, v))))
              | false => none
            | none => none
          | some none => some (up mem id (.mapb (es ++ [(k, v)])))
          | none => none
        | _ => none
      | _ => none
    | false => none
  | _ => none

section
variable {P : Program} {Γ : List (Nat × AV)} {X : Nat → Prop} {ρ : Nat → Loc} {D D' : Nat → Prop} {O : Nat → Prop} {mem : Mem} {w w' : World}

theorem getObj_run {r : Nat} {es : Array MapEntry} {c : Nat} (h : w.heap[r]? = some (.map es c)) : (getObj r).run P w = .ok (.map es c) w := by simp [getObj, Sem.run, h]
theorem setObj_run {r : Nat} {es : Array MapEntry} {c : Nat} (o' : Obj) (h : w.heap[r]? = some (.map es c)) : (setObj r o').run P w = .ok () { w with heap := w.heap.setIfInBounds r o' } := by simp [setObj, Sem.run, h]

theorem aMakeMap_sound {n : Nat} (hn0 : ¬ D n) (hD : ∀ i, D i → D' i) (hDn : D' n) (hm : MR Γ X ρ D mem w) {t : TypeId} {v : AV} {mem' : Mem} {N' : Nat} (h : aMakeMap mem n none = some (v, mem', N')) :
    Done P Γ X ρ D mem w ((Instr.makeMap t none).run P w) v mem' D' := by
  cases h
  obtain ⟨h1, h2, h3⟩ := hm.allocG hn0 hD hDn (l := ⟨w.heap.size, 1, 1⟩) (o := .map #[] 0) (a := .mapb []) (w' := w.alloc (.map #[] 0)) rfl Nat.one_pos rfl ⟨rfl, rfl⟩ ⟨#[], 0, rfl, rfl, by simp⟩
  refine ⟨.map (some w.heap.size), w.alloc (.map #[] 0), _, by simp [Instr.makeMap], h1, ?_, h2, h3⟩
  have := VR.mp (ρ := setL ρ n ⟨w.heap.size, 1, 1⟩) (D := D') (O := OX X (setL ρ n ⟨w.heap.size, 1, 1⟩) ((n, .mapb []) :: mem)) (w := w.alloc (.map #[] 0)) n hDn
  rw [setL_same] at this
  exact this

theorem run_checkKey_scal {t : TypeId} (h : scal (P.underlying t) = true) (em : Bool) (d : Nat) (x : Value) : (Instr.checkKey em (d + 1) t x).run P w = .ok () w := by
  unfold scal at h
  split at h <;> first | (cases h; done) | skip
  all_goals
    rename_i hu
    rw [Instr.checkKey, Sem.run_bind, run_underlying hu, Result.andThen_ok]
    rfl

theorem scal_shp {t : TypeId} (h : scal (P.underlying t) = true) : shp P t = some none := by
  unfold scal at h
  unfold shp
  split at h <;> first | (cases h; done) | (rename_i hu; rw [hu])

theorem aKey_sound {t : TypeId} {k : AV} {x : Value} (h : aKey P t k = true) (hx : VR ρ D O w k x) (em : Bool) : (Instr.checkKey em 10000 t x).run P w = .ok () w := by
  unfold aKey at h
  split at h
  · rename_i fs hu
    split at h
    · rename_i cs
      obtain ⟨vs, rfl, hvs⟩ := hx.agg_inv
      rw [Instr.checkKey, Sem.run_bind, run_underlying hu, Result.andThen_ok]
      simp only
      rw [Sem.run_bind]
      have key : ∀ l : List Field, scalF P cs l = true → (forIn l PUnit.unit (fun f _ => if f.name ≠ "_" then do Instr.checkKey em 9999 f.type (← part f.type vs.toArray f.offset); pure (ForInStep.yield PUnit.unit) else pure (ForInStep.yield PUnit.unit)) : Sem PUnit).run P w = .ok PUnit.unit w := by
        intro l
        induction l with
        | nil => intro _; simp
        | cons f r ih =>
          intro hl
          simp only [scalF, Bool.and_eq_true] at hl
          obtain ⟨h1, h2, h3, h4⟩ := hl
          obtain ⟨v, hv⟩ := Option.isSome_iff_exists.1 h3
          obtain ⟨z, p1, _⟩ := run_part (w := w) (scal_shp h2) hv hvs
          have hn : f.name ≠ "_" := by simpa using h1
          rw [List.forIn_cons, if_pos hn]
          simp only [Sem.run_bind, p1, Result.andThen_ok, run_checkKey_scal h2 em 9998 z, Sem.run_pure]
          exact ih h4
      have := key fs.toList h
      rw [← Array.forIn_toList]
      rw [this]
      rfl
    · cases h
  · exact run_checkKey_scal h em 9999 x

theorem run_equal_key {t : TypeId} {k e : AV} {x y : Value} {r : Bool} (h : aKeyEq P t k e = some r) (hx : VR ρ D O w k x) (hy : VR ρ D O w e y) : (Op.equal t x y).run P w = .ok r w := by
  unfold aKeyEq at h
  split at h
  · split at h
    · exact (aEqS_sound h hx hy).1
    · cases h
  · exact aEq1_sound h hx hy 9999

theorem sameNow_key {t : TypeId} {d : TypeDesc} (hu : P.underlying t = some d) {k e : AV} {x y : Value} {r : Bool} (h : aKeyEq P t k e = some r) (hx : VR ρ D O w k x) (hy : VR ρ D O w e y) :
    Instr.sameNow d x y = some r ∨ (Instr.sameNow d x y = none) := by
  unfold aKeyEq at h
  rw [hu] at h
  cases d with
  | int kk =>
    simp only [aEq1, hu] at h
    split at h
    · split at h
      · rename_i hk
        have hk := of_decide_eq_true hk
        subst hk
        cases h; cases hx; cases hy
        left; simp [Instr.sameNow]
      · cases h
    · cases h
  | string =>
    simp only [aEq1, hu] at h
    split at h
    · cases h; cases hx; cases hy
      left
      simp only [Instr.sameNow]
      rw [beq_toListBytes, ByteArray.toList_eq, ByteArray.toList_eq]
    · cases h
  | bool =>
    simp only [aEq1, hu] at h
    split at h
    · cases h; cases hx; cases hy
      left; simp [Instr.sameNow]
    · cases h
  | _ => right; simp [Instr.sameNow]

/-- What was found. -/
def FR (ρ : Nat → Loc) (D : Nat → Prop) (O : Nat → Prop) (w : World) : Option (Nat × AV) → Option (Nat × Value) → Prop
  | none, none => True
  | some (i, v), some (j, x) => i = j ∧ VR ρ D O w v x
  | _, _ => False

def EntR (ρ : Nat → Loc) (D : Nat → Prop) (O : Nat → Prop) (w : World) (es : List (AV × AV)) (l : List MapEntry) : Prop :=
  l.length = es.length ∧ ∀ (i : Nat) (e : AV × AV), es[i]? = some e → ∃ m, l[i]? = some m ∧ VR ρ D O w e.1 m.key ∧ VR ρ D O w e.2 m.val

theorem EntR.tail {e : AV × AV} {es : List (AV × AV)} {m : MapEntry} {l : List MapEntry} (h : EntR ρ D O w (e :: es) (m :: l)) : VR ρ D O w e.1 m.key ∧ VR ρ D O w e.2 m.val ∧ EntR ρ D O w es l := by
  obtain ⟨h1, h2⟩ := h
  obtain ⟨m', e1, r1, r2⟩ := h2 0 e rfl
  simp at e1
  subst e1
  exact ⟨r1, r2, by simpa using h1, fun i e' he => by
    obtain ⟨m', e1, r1, r2⟩ := h2 (i + 1) e' (by simpa using he)
    exact ⟨m', by simpa using e1, r1, r2⟩⟩

theorem aFindM_asking {t : TypeId} {k : AV} {x : Value} (hx : VR ρ D O w k x) : ∀ {es : List (AV × AV)} {l : List MapEntry} {i : Nat} {r : Option (Nat × AV)}, EntR ρ D O w es l → aFindM P t k es i = some r →
    ∃ o, (Instr.findAsking t x l i).run P w = .ok o w ∧ FR ρ D O w r o
  | [], l, i, r, hl, h => by
    cases h
    have : l = [] := List.eq_nil_of_length_eq_zero hl.1
    subst this
    exact ⟨none, by simp [Instr.findAsking], trivial⟩
  | (a, v) :: es, [], i, r, hl, h => by have := hl.1; simp at this
  | (a, v) :: es, m :: l, i, r, hl, h => by
    obtain ⟨r1, r2, r3⟩ := hl.tail
    simp only [aFindM] at h
    split at h
    · rename_i he
      cases h
      have e := run_equal_key (P := P) he hx r1
      exact ⟨some (i, m.val), by rw [Instr.findAsking, Sem.run_bind, e, Result.andThen_ok]; simp, rfl, r2⟩
    · rename_i he
      have e := run_equal_key (P := P) he hx r1
      obtain ⟨o, h1, h2⟩ := aFindM_asking hx r3 h
      exact ⟨o, by rw [Instr.findAsking, Sem.run_bind, e, Result.andThen_ok]; simpa using h1, h2⟩
    · cases h

theorem aFindM_now {t : TypeId} {d : TypeDesc} (hu : P.underlying t = some d) {k : AV} {x : Value} (hx : VR ρ D O w k x) : ∀ {es : List (AV × AV)} {l : List MapEntry} {i : Nat} {r : Option (Nat × AV)}, EntR ρ D O w es l → aFindM P t k es i = some r →
    Instr.findNow d x l i = none ∨ ∃ o, Instr.findNow d x l i = some o ∧ FR ρ D O w r o
  | [], l, i, r, hl, h => by
    cases h
    have : l = [] := List.eq_nil_of_length_eq_zero hl.1
    subst this
    exact .inr ⟨none, by simp [Instr.findNow], trivial⟩
  | (a, v) :: es, [], i, r, hl, h => by have := hl.1; simp at this
  | (a, v) :: es, m :: l, i, r, hl, h => by
    obtain ⟨r1, r2, r3⟩ := hl.tail
    simp only [aFindM] at h
    split at h
    · rename_i he
      cases h
      rcases sameNow_key hu he hx r1 with e | e
      · exact .inr ⟨some (i, m.val), by simp [Instr.findNow, e], rfl, r2⟩
      · exact .inl (by simp [Instr.findNow, e])
    · rename_i he
      rcases sameNow_key hu he hx r1 with e | e
      · rcases aFindM_now hu hx r3 h with h1 | ⟨o, h1, h2⟩
        · exact .inl (by simp [Instr.findNow, e, h1])
        · exact .inr ⟨o, by simp [Instr.findNow, e, h1], h2⟩
      · exact .inl (by simp [Instr.findNow, e])
    · cases h

theorem aFindM_sound {t : TypeId} {k : AV} {x : Value} (hkey : aKey P t k = true) (hx : VR ρ D O w k x) {es : List (AV × AV)} {l : List MapEntry} {r : Option (Nat × AV)} (hl : EntR ρ D O w es l) (h : aFindM P t k es 0 = some r) :
    ∃ o, (Instr.findKey t x l).run P w = .ok o w ∧ FR ρ D O w r o := by
  obtain ⟨d, hu⟩ : ∃ d, P.underlying t = some d := by
    unfold aKey at hkey
    split at hkey
    · rename_i hu; exact ⟨_, hu⟩
    · unfold scal at hkey
      split at hkey <;> first | (cases hkey; done) | exact ⟨_, by assumption⟩
  rw [Instr.findKey, Sem.run_bind, run_underlying hu, Result.andThen_ok]
  rcases aFindM_now hu hx hl h with h1 | ⟨o, h1, h2⟩
  · rw [h1]
    exact aFindM_asking hx hl h
  · rw [h1]
    exact ⟨o, rfl, h2⟩

theorem zeroAV_run {et : TypeId} {z : AV} (h : zeroAV P et = some z) : ∃ x, (zeroValue et).run P w = .ok x w ∧ VR ρ D O w z x := by
  unfold zeroAV at h
  split at h
  · rename_i i hi
    split at h
    · rename_i zv hz
      exact ⟨zv, by simp [zeroValue, typeInfo, hi, hz], ofVal_sound h⟩
    · cases h
  · cases h

theorem tup2 {a b : AV} {x y : Value} (h1 : VR ρ D O w a x) (h2 : VR ρ D O w b y) : VR ρ D O w (.tup [a, b]) (.tuple #[x, y]) :=
  (VRL.cons h1 (VRL.cons h2 VRL.nil)).tup

theorem aLookup_sound (hm : MR Γ X ρ D mem w) {t : TypeId} {m k v : AV} {ok : Bool} {x y : Value} (h : aLookup P mem t m k ok = some v) (hx : VR ρ D (OX X ρ mem) w m x) (hy : VR ρ D (OX X ρ mem) w k y) :
    ∃ z, (Instr.lookup t x y ok).run P w = .ok z w ∧ VR ρ D (OX X ρ mem) w v z := by
  unfold aLookup at h
  split at h
  · rename_i kt et hu
    split at h
    · rename_i hkey
      split at h
      · cases hx
        split at h
        · rename_i z hz
          obtain ⟨zv, q1, q2⟩ := zeroAV_run (P := P) (ρ := ρ) (D := D) (O := OX X ρ mem) (w := w) hz
          have hf : (Instr.findKey kt y []).run P w = .ok none w := by
            obtain ⟨o, f1, f2⟩ := aFindM_sound (P := P) (ρ := ρ) (D := D) (O := OX X ρ mem) (w := w) hkey hy (es := []) (l := []) (r := none) ⟨rfl, by simp⟩ rfl
            cases o with
            | none => exact f1
            | some o => exact f2.elim
          split at h
          · cases h
            exact ⟨.tuple #[zv, .bool false], by simp [Instr.lookup, run_underlying hu, aKey_sound hkey hy, hf, q1], tup2 q2 (.bool _)⟩
          · cases h
            exact ⟨zv, by simp [Instr.lookup, run_underlying hu, aKey_sound hkey hy, hf, q1], q2⟩
        · cases h
      · rename_i id
        split at h
        · rename_i es hid
          have hpos := mapb_pos hm hid
          obtain ⟨o, ho, arr, clk, rfl, a1, a2⟩ := hm.blk _ (lk_mem hid) hpos
          cases hx
          have hl : EntR ρ D (OX X ρ mem) w es arr.toList := ⟨by simpa using a1, fun i e he => by
            obtain ⟨m, m1, m2, m3⟩ := a2 i e he
            exact ⟨m, by simpa using m1, m2, m3⟩⟩
          have hg := getObj_run (P := P) ho
          split at h
          · rename_i i u hf
            obtain ⟨o, f1, f2⟩ := aFindM_sound (P := P) hkey hy hl hf
            cases o with
            | none => exact f2.elim
            | some o =>
              obtain ⟨j, ux⟩ := o
              obtain ⟨_, f2⟩ := f2
              split at h
              · cases h
                exact ⟨.tuple #[ux, .bool true], by simp [Instr.lookup, run_underlying hu, hg, aKey_sound hkey hy, f1], tup2 f2 (.bool _)⟩
              · cases h
                exact ⟨ux, by simp [Instr.lookup, run_underlying hu, hg, aKey_sound hkey hy, f1], f2⟩
          · rename_i hf
            obtain ⟨o, f1, f2⟩ := aFindM_sound (P := P) hkey hy hl hf
            cases o with
            | some o => exact f2.elim
            | none =>
              split at h
              · rename_i z hz
                obtain ⟨zv, q1, q2⟩ := zeroAV_run (P := P) (ρ := ρ) (D := D) (O := OX X ρ mem) (w := w) hz
                split at h
                · cases h
                  exact ⟨.tuple #[zv, .bool false], by simp [Instr.lookup, run_underlying hu, hg, aKey_sound hkey hy, f1, q1], tup2 q2 (.bool _)⟩
                · cases h
                  exact ⟨zv, by simp [Instr.lookup, run_underlying hu, hg, aKey_sound hkey hy, f1, q1], q2⟩
              · cases h
          · cases h
        · cases h
      · cases h
    · cases h
  · cases h

theorem same0_bits {a b : AV} {x y : Value} (h : same0 a b = true) (hx : VR ρ D O w a x) (hy : VR ρ D O w b y) (n : Nat) : Instr.sameBits n x y = true := by
  unfold same0 at h
  split at h
  · simp at h; obtain ⟨rfl, rfl⟩ := h; cases hx; cases hy; simp [Instr.sameBits]
  · simp at h; subst h; cases hx; cases hy; simp only [Instr.sameBits]; rw [beq_toListBytes]; simp
  · simp at h; subst h; cases hx; cases hy; simp [Instr.sameBits]
  · cases h

theorem same0s_bits (n : Nat) : ∀ {as bs : List AV} {xs ys : List Value}, same0s as bs = true → VRL ρ D O w as xs → VRL ρ D O w bs ys → xs.length = ys.length ∧ (xs.zip ys).all (fun p => Instr.sameBits n p.1 p.2) = true
  | [], [], xs, ys, h, hx, hy => by
    have e1 : xs = [] := List.eq_nil_of_length_eq_zero hx.1.symm
    have e2 : ys = [] := List.eq_nil_of_length_eq_zero hy.1.symm
    subst e1 e2
    simp
  | a :: as, b :: bs, [], ys, h, hx, hy => by have := hx.1; simp at this
  | a :: as, b :: bs, x :: xs, [], h, hx, hy => by have := hy.1; simp at this
  | a :: as, b :: bs, x :: xs, y :: ys, h, hx, hy => by
    simp only [same0s, Bool.and_eq_true] at h
    have h1 := same0_bits (ρ := ρ) (D := D) (O := O) (w := w) h.1 (hx.2 0 a x rfl rfl) (hy.2 0 b y rfl rfl) n
    have hx' : VRL ρ D O w as xs := ⟨by simpa using hx.1, fun j c x h1 h2 => hx.2 (j + 1) c x (by simpa using h1) (by simpa using h2)⟩
    have hy' : VRL ρ D O w bs ys := ⟨by simpa using hy.1, fun j c x h1 h2 => hy.2 (j + 1) c x (by simpa using h1) (by simpa using h2)⟩
    obtain ⟨i1, i2⟩ := same0s_bits n h.2 hx' hy'
    exact ⟨by simp [i1], by simp only [List.zip_cons_cons, List.all_cons, h1, i2, Bool.and_self]⟩
  | [], b :: bs, xs, ys, h, hx, hy => by simp [same0s] at h
  | a :: as, [], xs, ys, h, hx, hy => by simp [same0s] at h

theorem sameK_bits {a b : AV} {x y : Value} (h : sameK a b = true) (hx : VR ρ D O w a x) (hy : VR ρ D O w b y) : Instr.sameBits 10000 x y = true := by
  unfold sameK at h
  split at h
  · obtain ⟨xs, rfl, hxs⟩ := hx.agg_inv
    obtain ⟨ys, rfl, hys⟩ := hy.agg_inv
    obtain ⟨h1, h2⟩ := same0s_bits (ρ := ρ) (D := D) (O := O) (w := w) 9999 h hxs.1 hys.1
    rw [Instr.sameBits]
    simp only [List.size_toArray, h1, BEq.rfl, Bool.true_and]
    exact h2
  · exact same0_bits h hx hy 10000

theorem aMapUpdate_sound (hm : MR Γ X ρ D mem w) {t : TypeId} {m k v : AV} {x y z : Value} {mem' : Mem} (h : aMapUpdate P mem t m k v = some mem') (hx : VR ρ D (OX X ρ mem) w m x) (hy : VR ρ D (OX X ρ mem) w k y) (hz : VR ρ D (OX X ρ mem) w v z) :
    ∃ w', (Instr.mapUpdate t x y z).run P w = .ok () w' ∧ MR Γ X ρ D mem' w' ∧ (∀ u y, VR ρ D (OX X ρ mem) w u y → VR ρ D (OX X ρ mem') w' u y) ∧ ∀ A : Nat → Prop, (∀ i, A i → D i) → Ext A ρ mem w ρ D mem' w' := by
  unfold aMapUpdate at h
  split at h
  · rename_i kt et hu
    split at h
    · rename_i hkey
      split at h
      · rename_i id
        split at h
        · rename_i es hid
          have hpos := mapb_pos hm hid
          obtain ⟨o, ho, arr, clk, rfl, a1, a2⟩ := hm.blk _ (lk_mem hid) hpos
          cases hx
          have hl : EntR ρ D (OX X ρ mem) w es arr.toList := ⟨by simpa using a1, fun i e he => by
            obtain ⟨m, m1, m2, m3⟩ := a2 i e he
            exact ⟨m, by simpa using m1, m2, m3⟩⟩
          have hg := getObj_run (P := P) ho
          split at h
          · rename_i i u hf
            split at h
            · rename_i k' u' hi
              split at h
              · rename_i hsame
                cases h
                obtain ⟨o, f1, f2⟩ := aFindM_sound (P := P) hkey hy hl hf
                cases o with
                | none => exact f2.elim
                | some o =>
                  obtain ⟨j, ux⟩ := o
                  obtain ⟨rfl, f2⟩ := f2
                  obtain ⟨me, m1, m2, m3⟩ := a2 i _ hi
                  have hb : Instr.sameBits 10000 me.key y = true := sameK_bits hsame m2 hy
                  have hks : (Instr.keyThatStays me.key y).run P w = .ok y w := by simp [Instr.keyThatStays, hb]
                  obtain ⟨c1, c2, c3⟩ := hm.changeG (o := .map (arr.modify i fun e => { e with key := y, val := z }) clk) (a' := .mapb (es.set i (k, v))) (w' := { w with heap := w.heap.setIfInBounds (ρ id).b (.map (arr.modify i fun e => { e with key := y, val := z }) clk) }) hid hpos rfl ⟨rfl, rfl⟩
                    ⟨_, _, rfl, by simpa using a1, fun q e he => by
                      by_cases hqi : q = i
                      · subst hqi
                        have : q < es.length := by
                          rcases Nat.lt_or_ge q es.length with h' | h'
                          · exact h'
                          · rw [List.getElem?_eq_none h'] at hi; cases hi
                        rw [List.getElem?_set_self this] at he
                        cases he
                        exact ⟨{ me with key := y, val := z }, by simp [Array.getElem?_modify, m1], hy, hz⟩
                      · rw [List.getElem?_set_ne (Ne.symm hqi)] at he
                        obtain ⟨m, n1, n2, n3⟩ := a2 q e he
                        exact ⟨m, by simp [Array.getElem?_modify, Ne.symm hqi, n1], n2, n3⟩⟩
                  refine ⟨_, ?_, c1, c2, c3⟩
                  simp only [Instr.mapUpdate, Sem.run_bind, run_underlying hu, Result.andThen_ok, hg, aKey_sound hkey hy, f1, m1, Option.map_some, Option.getD_some, hks]
                  exact setObj_run _ ho
              · cases h
            · cases h
          · rename_i hf
            cases h
            obtain ⟨o, f1, f2⟩ := aFindM_sound (P := P) hkey hy hl hf
            cases o with
            | some o => exact f2.elim
            | none =>
              obtain ⟨c1, c2, c3⟩ := hm.changeG (o := .map (arr.push { key := y, val := z, born := clk }) (clk + 1)) (a' := .mapb (es ++ [(k, v)])) (w' := { w with heap := w.heap.setIfInBounds (ρ id).b (.map (arr.push { key := y, val := z, born := clk }) (clk + 1)) }) hid hpos rfl ⟨rfl, rfl⟩
                ⟨_, _, rfl, by simpa using a1, fun q e he => by
                  by_cases hq : q < es.length
                  · rw [List.getElem?_append_left hq] at he
                    obtain ⟨m, n1, n2, n3⟩ := a2 q e he
                    exact ⟨m, by rw [Array.getElem?_push, if_neg (by omega)]; exact n1, n2, n3⟩
                  · rw [List.getElem?_append_right (by omega)] at he
                    have : q - es.length = 0 := by
                      rcases Nat.eq_zero_or_pos (q - es.length) with h' | h'
                      · exact h'
                      · rw [List.getElem?_eq_none (by simp; omega)] at he; cases he
                    have hqe : q = arr.size := by omega
                    rw [this] at he
                    simp at he
                    subst he
                    exact ⟨{ key := y, val := z, born := clk }, by rw [Array.getElem?_push, if_pos hqe], hy, hz⟩⟩
              refine ⟨_, ?_, c1, c2, c3⟩
              simp only [Instr.mapUpdate, Sem.run_bind, run_underlying hu, Result.andThen_ok, hg, aKey_sound hkey hy, f1]
              exact setObj_run _ ho
          · cases h
        · cases h
      · cases h
    · cases h
  · cases h
end
end Go.Ax
