/- One operation on an abstract state. -/
import Derived.Test.YtoanjpeoclkjgaaDoorAxEff5
import Derived.Test.YtoanjpeoclkjgaaDoorAxMap2
namespace Go.Ax
open Go
set_option linter.unusedVariables false

/-- '[]byte(s)'. -/
def aStrBytes (P : Program) (mem : Mem) (nx : Nat) (src dst : TypeId) (x : AV) : Option (AV × Mem × Nat) :=
  match P.underlying src with
  | none => none
  | some _ => match P.underlying dst with
    | some (.slice e) => match P.underlying e with
      | some (.int .u8) => match x with
        | .str s => match s with
          | [] => none
          | _ :: _ => some (.sl nx 0 s.length, (nx, .row e 1 (s.map fun b => .int .u8 (b.toNat : Int))) :: mem, nx + 1)
        | _ => none
      | _ => none
    | _ => none

section
variable {P : Program} {Γ : List (Nat × AV)} {X : Nat → Prop} {ρ : Nat → Loc} {D : Nat → Prop} {O : Nat → Prop} {mem : Mem} {w w' : World}

theorem aStrBytes_sound {n : Nat} {D' : Nat → Prop} (hn0 : ¬ D n) (hD : ∀ i, D i → D' i) (hDn : D' n) (hm : MR Γ X ρ D mem w) {src dst : TypeId} {a v : AV} {x : Value} {mem' : Mem} {N' : Nat} (h : aStrBytes P mem n src dst a = some (v, mem', N'))
    (hx : VR ρ D (OX X ρ mem) w a x) : Done P Γ X ρ D mem w ((convert src dst x).run P w) v mem' D' := by
  unfold aStrBytes at h
  split at h
  · cases h
  · rename_i d hd
    split at h
    · rename_i e hu
      split at h
      · rename_i he
        split at h
        · rename_i s
          split at h
          · cases h
          · rename_i s0 sr
            cases h
            cases hx
            generalize hs : s0 :: sr = s at *
            have hpos : 0 < s.length := by rw [← hs]; simp
            have hsz : (⟨s.toArray⟩ : ByteArray).size = s.length := by simp [ByteArray.size]
            have hcap : s.length ≤ grownCap w s.length 0 e := grownCap_ge w s.length 0 e
            generalize hc : grownCap w s.length 0 e = cap at *
            have hasize : ((s.map fun b => Value.int .u8 (b.toNat : Int)).toArray ++ Array.replicate (cap - s.length) (Value.int .u8 0)).size = cap := by simp; omega
            generalize harr : (s.map fun b => Value.int .u8 (b.toNat : Int)).toArray ++ Array.replicate (cap - s.length) (Value.int .u8 0) = arr at *
            have hrow : RowR ρ D (OX X ρ mem) w 1 arr (s.map fun b => .int .u8 (b.toNat : Int)) := by
              refine ⟨by simp; omega, fun i y hi => ?_⟩
              rw [List.getElem?_map] at hi
              obtain ⟨b, hb, rfl⟩ := Option.map_eq_some_iff.1 hi
              refine ⟨rfl, fun j c hj => ?_⟩
              cases j with
              | zero =>
                simp [AV.cells] at hj
                subst hj
                refine ⟨.int .u8 (b.toNat : Int), ?_, rfl, .int _ _⟩
                have hil : i < s.length := by
                  rcases Nat.lt_or_ge i s.length with h' | h'
                  · exact h'
                  · rw [List.getElem?_eq_none h'] at hb; cases hb
                rw [← harr, Array.getElem?_append, if_pos (by simpa using hil)]
                simp [hb]
              | succ j => simp [AV.cells] at hj
            have hheap : ((w.drew.alloc (.cells arr e)).freeze ⟨w.heap.size, arr.size, none⟩ 1).heap = w.heap.push (.cells arr e (arr.size, arr.size + 1)) := by
              apply Array.ext_getElem?
              intro i
              simp only [World.freeze, World.alloc, World.drew]
              rw [if_neg (by simp)]
              simp only [Array.getElem?_modify, Array.getElem?_push]
              by_cases hi : i = w.heap.size
              · subst hi; simp
              · simp [hi, Ne.symm hi]
            obtain ⟨h1, h2, h3⟩ := hm.alloc hn0 hD hDn hheap ⟨rfl, rfl⟩ (fun j hj => by simp; omega) hrow (fun h0 => by omega)
            refine ⟨.slice (some ⟨w.heap.size, 0, none⟩) s.length cap, _, _, ?_, h1, ?_, h2, h3⟩
            · have hch : (choose (Question.appendCap s.length 0 e)).run P w = .ok cap w.drew := by
                rw [run_choose_drew]
                simp [Question.forced, ← hc, grownCap]
              have hel : Array.map (fun b => Value.int IntKind.u8 (b.toNat : Int)) s.toArray ++ Array.replicate (cap - s.length) (Value.int .u8 0) = arr := by rw [← harr]; simp
              have hshape : (w.drew.alloc (.cells arr e)).shape? w.heap.size = some (e, arr.size) := by
                have hh : (w.drew.alloc (.cells arr e)).heap[w.heap.size]? = some (.cells arr e (0, 0)) := by
                  show (w.heap.push (.cells arr e (0, 0)))[w.heap.size]? = _
                  simp
                simp only [World.shape?, hh]
              simp only [convert, Sem.run_bind, run_underlying hd, run_underlying hu, run_underlying he, Result.andThen_ok]
              cases d <;> simp only [Conv.stringToBytes, Sem.run_bind, Result.andThen_ok, hsz, hch, hel, newRow, run_newObj_alloc, Sem.run_pure, markStringish, run_shape] <;>
                simp [hshape]
            · have := VR.sl (ρ := setL ρ n ⟨w.heap.size, arr.size, 1⟩) (D := D') (O := OX X (setL ρ n ⟨w.heap.size, arr.size, 1⟩) ((n, .row e 1 (s.map fun b => .int .u8 (b.toNat : Int))) :: mem)) (w := (w.drew.alloc (.cells arr e)).freeze ⟨w.heap.size, arr.size, none⟩ 1) n 0 s.length cap hDn hcap (by rw [setL_same]; simp; omega)
              rw [setL_same] at this
              simpa using this
        · cases h
      · cases h
    · cases h
end

def evParts (Γ : List (Nat × AV)) (s : St) : List (Nat × Operand) → Option (List (Nat × AV))
  | [] => some []
  | (i, x) :: r => match ev Γ s x with
    | some a => match evParts Γ s r with
      | some l => some ((i, a) :: l)
      | none => none
    | none => none

/-- A bound of a slice expression. -/
def evOpt (Γ : List (Nat × AV)) (s : St) : Option Operand → Option (Option AV)
  | none => some none
  | some x => match ev Γ s x with
    | some a => some (some a)
    | none => none

def pureRes (s : St) : Option AV → Option (AV × Mem × Nat)
  | some v => some (v, s.mem, s.nx)
  | none => none

def aBuiltin (P : Program) (Γ : List (Nat × AV)) (s : St) (b : Builtin) (args : List Operand) (ts : List TypeId) : Option (AV × Mem × Nat) :=
  match b with
  | .len => match args, ts with
    | [x], [t] => match ev Γ s x with
      | some a => pureRes s (aLen P s.mem t a)
      | none => none
    | _, _ => none
  | .append => match args, ts with
    | [x, y], [t, u] => match ev Γ s x with
      | some a => match ev Γ s y with
        | some b => aAppend P s.mem s.nx t u a b
        | none => none
      | none => none
    | _, _ => none
  | .min => match evs Γ s args with
    | some (.int k x :: r) => match aMin x r with
      | some m => some (.int k m, s.mem, s.nx)
      | none => none
    | _ => none
  | .max => match evs Γ s args with
    | some (.int k x :: r) => match aMax x r with
      | some m => some (.int k m, s.mem, s.nx)
      | none => none
    | _ => none
  | _ => none

def aStep (P : Program) (Γ : List (Nat × AV)) (s : St) (op : Op) : Option (AV × Mem × Nat) :=
  match op with
  | .move x => pureRes s (ev Γ s x)
  | .assign x => pureRes s (ev Γ s x)
  | .pick c a b => match ev Γ s c with
    | some (.bool true) => pureRes s (ev Γ s a)
    | some (.bool false) => pureRes s (ev Γ s b)
    | _ => none
  | .alloc t => aAlloc P s.mem s.nx t
  | .box t x => match ev Γ s x with
    | some v => aBox P s.mem s.nx t v
    | none => none
  | .build t parts => match evParts Γ s parts.toList with
    | some ps => pureRes s (aBuild P t ps)
    | none => none
  | .buildSlice t len parts => match evParts Γ s parts.toList with
    | some ps => aBuildSlice P s.mem s.nx t len ps
    | none => none
  | .load t x => match ev Γ s x with
    | some p => pureRes s (aLoad P s.mem t p)
    | none => none
  | .store t x y => match ev Γ s x with
    | some p => match ev Γ s y with
      | some v => match aStore P s.mem t p v with
        | some m => some (.tup [], m, s.nx)
        | none => none
      | none => none
    | none => none
  | .nilCheck x => match ev Γ s x with
    | some p => pureRes s (aNil p)
    | none => none
  | .binOp op t x y _ => match ev Γ s x with
    | some a => match ev Γ s y with
      | some b => pureRes s (aBin P op t x y a b)
      | none => none
    | none => none
  | .unOp op _ x => match ev Γ s x with
    | some a => pureRes s (aUn op a)
    | none => none
  | .convert src dst x => match ev Γ s x with
    | some a => match aConv P s.mem src dst a with
      | some v => some (v, s.mem, s.nx)
      | none => aStrBytes P s.mem s.nx src dst a
    | none => none
  | .makeInterface t x => match ev Γ s x with
    | some a => pureRes s (aIface P t a)
    | none => none
  | .makeFunc fn first cap => match evs Γ s first.toList with
    | some l1 => match evs Γ s cap.toList with
      | some l2 => some (.fn fn l1 l2, s.mem, s.nx)
      | none => none
    | none => none
  | .makeSlice t l c => match ev Γ s l with
    | some a => match ev Γ s c with
      | some b => aMake P s.mem s.nx t a b
      | none => none
    | none => none
  | .slice t x lo hi mx => match ev Γ s x with
    | some a => match evOpt Γ s lo with
      | some l => match evOpt Γ s hi with
        | some h => match evOpt Γ s mx with
          | some m => match !m.isSome || h.isSome with
            | true => pureRes s (aSlice P s.mem t a l h m)
            | false => none
          | none => none
        | none => none
      | none => none
    | none => none
  | .fieldAddr t x f => match ev Γ s x with
    | some p => pureRes s (aFieldAddr P t f p)
    | none => none
  | .field t x f => match ev Γ s x with
    | some p => pureRes s (aField P t f p)
    | none => none
  | .indexAddr t x ix => match ev Γ s x with
    | some p => match ev Γ s ix with
      | some i => pureRes s (aIndexAddr P s.mem t p i)
      | none => none
    | none => none
  | .index t x ix => match ev Γ s x with
    | some p => match ev Γ s ix with
      | some i => pureRes s (aIndex P t p i)
      | none => none
    | none => none
  | .extract x i => match ev Γ s x with
    | some p => pureRes s (aExtract p i)
    | none => none
  | .makeMap _ reserve => match reserve with
    | none => aMakeMap s.mem s.nx none
    | some _ => none
  | .lookup t x ix ok => match ev Γ s x with
    | some p => match ev Γ s ix with
      | some i => pureRes s (aLookup P s.mem t p i ok)
      | none => none
    | none => none
  | .mapUpdate t x y z => match ev Γ s x with
    | some p => match ev Γ s y with
      | some k => match ev Γ s z with
        | some v => match aMapUpdate P s.mem t p k v with
          | some m => some (.tup [], m, s.nx)
          | none => none
        | none => none
      | none => none
    | none => none
  | .call c => match c.callee with
    | .builtin b => aBuiltin P Γ s b c.args.toList c.argTypes.toList
    | _ => none
  | _ => none

/-- What an operation comes to. -/
def DoneN (P : Program) (Γ : List (Nat × AV)) (X : Nat → Prop) (ρ : Nat → Loc) (D : Nat → Prop) (mem : Mem) (w : World) (r : Result Next) (v : AV) (mem' : Mem) (D' : Nat → Prop) : Prop :=
  ∃ (x : Value) (n : Next) (w' : World) (ρ' : Nat → Loc), r = .ok n w' ∧ (n = .value x ∨ (n = .skip ∧ x = undef)) ∧ MR Γ X ρ' D' mem' w' ∧ VR ρ' D' (OX X ρ' mem') w' v x ∧
    (∀ u y, VR ρ D (OX X ρ mem) w u y → VR ρ' D' (OX X ρ' mem') w' u y) ∧ ∀ A : Nat → Prop, (∀ i, A i → D i) → Ext A ρ mem w ρ' D' mem' w'

section
variable {P : Program} {Γ : List (Nat × AV)} {X : Nat → Prop} {ρ : Nat → Loc} {D D' : Nat → Prop} {s : St} {a : Act} {w : World}

theorem Done.next {mem mem' : Mem} {m : Sem Value} {v : AV} (h : Done P Γ X ρ D mem w (m.run P w) v mem' D') :
    DoneN P Γ X ρ D mem w ((do let x ← m; pure (Next.value x)).run P w) v mem' D' := by
  obtain ⟨x, w', ρ', h1, h2, h3, h4, h5⟩ := h.ex
  exact ⟨x, .value x, w', ρ', by simp [h1], .inl rfl, h2, h3, h4, h5⟩

theorem pure_next (hD : ∀ i, D i → D' i) (hs : SR Γ X ρ D s a w) {m : Sem Value} {v : AV} {o : Option AV} {v' : AV} {mem' : Mem} {N' : Nat} (h : pureRes s o = some (v', mem', N'))
    (hm : ∀ v, o = some v → ∃ x, m.run P w = .ok x w ∧ VR ρ D (OX X ρ s.mem) w v x) :
    DoneN P Γ X ρ D s.mem w ((do let x ← m; pure (Next.value x)).run P w) v' mem' D' := by
  unfold pureRes at h
  split at h
  · rename_i v0
    cases h
    obtain ⟨x, h1, h2⟩ := hm _ rfl
    obtain ⟨w1, w2, w3⟩ := hs.mr.widen hD
    exact ⟨x, .value x, w, ρ, by simp [h1], .inl rfl, w1, w2 _ _ h2, w2, w3⟩
  · cases h

theorem evParts_sound (hs : SR Γ X ρ D s a w) : ∀ {ps : List (Nat × Operand)} {vs : List (Nat × AV)}, evParts Γ s ps = some vs →
    vs.length = (ps.map fun (i, x) => (i, a.eval x)).length ∧ ∀ (j : Nat) (p : Nat × AV) (q : Nat × Value), vs[j]? = some p → (ps.map fun (i, x) => (i, a.eval x))[j]? = some q → p.1 = q.1 ∧ VR ρ D (OX X ρ s.mem) w p.2 q.2
  | [], vs, h => by simp [evParts] at h; subst h; simp
  | (i, x) :: r, vs, h => by
    simp only [evParts] at h
    split at h
    · rename_i v hv
      split at h
      · rename_i l hl
        cases h
        obtain ⟨h1, h2⟩ := evParts_sound hs hl
        refine ⟨by simpa using h1, fun j p q hp hq => ?_⟩
        cases j with
        | zero => simp at hp hq; subst hp hq; exact ⟨rfl, ev_sound hs hv⟩
        | succ j => simp at hp hq; exact h2 j p q hp (by simpa using hq)
      · cases h
    · cases h

theorem evOpt_sound (hs : SR Γ X ρ D s a w) {x : Option Operand} {v : Option AV} (h : evOpt Γ s x = some v) : BdR ρ D (OX X ρ s.mem) w v (x.map a.eval) := by
  unfold evOpt at h
  split at h
  · cases h; exact .none
  · split at h
    · rename_i u hu; cases h; exact .some _ _ (ev_sound hs hu)
    · cases h
end
end Go.Ax
