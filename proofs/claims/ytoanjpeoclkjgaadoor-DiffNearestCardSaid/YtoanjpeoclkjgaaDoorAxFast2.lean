/- The operations once more, second part. -/
import Derived.Test.YtoanjpeoclkjgaaDoorAxFast
namespace Go.Ax
open Go
set_option linter.unusedVariables false

def putAtK : List AV → Nat → List AV → (List AV → Prop) → Prop
  | cells, _, [], K => K cells
  | cells, off, v :: r, K => setK cells off v fun c => putAtK c (off + 1) r K

theorem putAt_fold (off : Nat) : ∀ (vs : List AV) (k : Nat) (cells : List AV) (K : List AV → Prop), putAtK cells (off + k) vs K ↔ K ((vs.zipIdx k).foldl (fun cs p => cs.set (off + p.2) p.1) cells)
  | [], k, cells, K => Iff.rfl
  | v :: r, k, cells, K => by
    simp only [putAtK, setK_iff, List.zipIdx_cons, List.foldl_cons]
    have := putAt_fold off r (k + 1) (cells.set (off + k) v) K
    rw [← Nat.add_assoc] at this
    exact this

def fFill (place : Nat → Option (Nat × Nat)) : List AV → List (Nat × AV) → (List AV → Prop) → Prop
  | cells, [], K => K cells
  | cells, (i, v) :: r, K => match place i with
    | none => False
    | some (off, size) => grd (okVal v && (Nat.beq v.cells.length size && Nat.ble (off + v.cells.length) cells.length)) (putAtK cells off v.cells fun cs => fFill place cs r K)

theorem fFill_a {place : Nat → Option (Nat × Nat)} : ∀ {parts : List (Nat × AV)} {cells : List AV} {K : List AV → Prop}, fFill place cells parts K → ∃ l, aFill place cells parts = some l ∧ K l
  | [], cells, K, h => ⟨cells, by simp [aFill], h⟩
  | (i, v) :: r, cells, K, h => by
    simp only [fFill] at h
    simp only [aFill]
    split at h
    · exact h.elim
    · rename_i off size hp
      obtain ⟨h1, h2⟩ := grd_iff.1 h
      have h3 := (putAt_fold off v.cells 0 cells _).1 h2
      obtain ⟨l, h4, h5⟩ := fFill_a h3
      exact ⟨l, by simp only [hp, h1]; exact h4, h5⟩

def fBuild (P : Program) (t : TypeId) (parts : List (Nat × AV)) (K : AV → Prop) : Prop :=
  match P.info? t with
  | some it => match it.zero with
    | some z => match ofVal z with
      | some (.agg zs) => match P.underlying t with
        | some (.array _ e) => match tsize P e with
          | some n => fFill (fun i => some (i * n, n)) zs parts fun cs => K (.agg cs)
          | none => False
        | some (.struct fs) => match aPlaces P fs.toList with
          | some places => fFill (fun i => places[i]?) zs parts fun cs => K (.agg cs)
          | none => False
        | _ => False
      | _ => False
    | none => False
  | none => False

theorem fBuild_a {P : Program} {t : TypeId} {parts : List (Nat × AV)} {K : AV → Prop} (h : fBuild P t parts K) : ∃ v, aBuild P t parts = some v ∧ K v := by
  unfold fBuild at h
  unfold aBuild
  split at h
  · rename_i it h1
    simp only [h1]
    split at h
    · rename_i z h2
      simp only [h2]
      split at h
      · rename_i zs h3
        simp only [h3]
        split at h
        · rename_i e h4
          simp only [h4]
          split at h
          · rename_i n h5
            simp only [h5]
            obtain ⟨l, h6, h7⟩ := fFill_a h
            exact ⟨_, by rw [h6], h7⟩
          · exact h.elim
        · rename_i fs h4
          simp only [h4]
          split at h
          · rename_i n h5
            simp only [h5]
            obtain ⟨l, h6, h7⟩ := fFill_a h
            exact ⟨_, by rw [h6], h7⟩
          · exact h.elim
        · exact h.elim
      · exact h.elim
    · exact h.elim
  · exact h.elim

def fBound (d : Nat) (x : Option AV) (K : Nat → Prop) : Prop :=
  match x with
  | none => K d
  | some (.int _ n) => grd (decide (0 ≤ n)) (K n.toNat)
  | some _ => False

theorem fBound_a {d : Nat} {x : Option AV} {K : Nat → Prop} (h : fBound d x K) : ∃ n, aBound d x = some n ∧ K n := by
  unfold fBound at h
  split at h
  · exact ⟨_, rfl, h⟩
  · obtain ⟨h1, h2⟩ := grd_iff.1 h
    exact ⟨_, by simp only [aBound, h1], h2⟩
  · exact h.elim

def fSlice (cl : Bool) (P : Program) (mem : Mem) (t : TypeId) (x : AV) (lo hi mx : Option AV) (K : AV → Prop) : Prop :=
  match P.underlying t with
  | some .string => match x, mx with
    | .str s, none => fBound 0 lo fun l => fBound s.length hi fun h => grd (Nat.ble l h && Nat.ble h s.length) (fList cl ((s.drop l).take (h - l)) fun s => K (.str s))
    | _, _ => False
  | some (.slice e) => match tsize P e with
    | none => False
    | some sz => match x with
      | .nsl => fBound 0 lo fun l => fBound 0 hi fun h => fBound 0 mx fun m => grd (Nat.beq l 0 && (Nat.beq h 0 && Nat.beq m 0)) (K .nsl)
      | .il sz' xs => grd (Nat.beq sz sz') (fBound 0 lo fun l => fBound xs.length hi fun h => fBound xs.length mx fun m => grd (Nat.ble l h && (Nat.ble h m && Nat.ble m xs.length)) (fList cl ((xs.drop l).take (h - l)) fun ys => K (.il sz' ys)))
      | .sl id off len => match lk mem id with
        | some (.row _ sz0 _) => grd (Nat.beq sz0 sz) (fBound 0 lo fun l => fBound len hi fun h => fBound len mx fun m => grd (Nat.ble l h && (Nat.ble h m && Nat.ble m len)) (fNat cl (off + l) fun o => fNat cl (h - l) fun n => K (.sl id o n)))
        | _ => False
      | _ => False
  | some (.array n e) => match tsize P e with
    | none => False
    | some sz => match x with
      | .ptr id i 0 => match lk mem id with
        | some (.row _ _ xs) => grd (aElem mem id i 0 sz && Nat.ble (i + n) xs.length) (fBound 0 lo fun l => fBound n hi fun h => fBound n mx fun m => grd (Nat.ble l h && (Nat.ble h m && Nat.ble m n)) (fNat cl (i + l) fun o => fNat cl (h - l) fun n => K (.sl id o n)))
        | _ => False
      | _ => False
  | _ => False

theorem fSlice_a {cl : Bool} {P : Program} {mem : Mem} {t : TypeId} {x : AV} {lo hi mx : Option AV} {K : AV → Prop} (h : fSlice cl P mem t x lo hi mx K) : ∃ v, aSlice P mem t x lo hi mx = some v ∧ K v := by
  unfold fSlice at h
  unfold aSlice
  split at h
  · rename_i hu
    simp only [hu]
    split at h
    · rename_i s
      obtain ⟨l, h1, h⟩ := fBound_a h
      obtain ⟨h', h2, h⟩ := fBound_a h
      obtain ⟨h3, h⟩ := grd_iff.1 h
      exact ⟨_, by simp only [h1, h2, h3], fList_iff.1 h⟩
    · exact h.elim
  · rename_i e hu
    simp only [hu]
    split at h
    · exact h.elim
    · rename_i sz hsz
      simp only [hsz]
      split at h
      · obtain ⟨l, h1, h⟩ := fBound_a h
        obtain ⟨h', h2, h⟩ := fBound_a h
        obtain ⟨m, h3, h⟩ := fBound_a h
        obtain ⟨h4, h⟩ := grd_iff.1 h
        simp only [Bool.and_eq_true] at h4
        obtain ⟨a1, a2, a3⟩ := h4
        rw [Nat.eq_of_beq_eq_true a1] at h1
        rw [Nat.eq_of_beq_eq_true a2] at h2
        rw [Nat.eq_of_beq_eq_true a3] at h3
        exact ⟨_, by simp only [h1, h2, h3], h⟩
      · obtain ⟨h0, h⟩ := grd_iff.1 h
        obtain ⟨l, h1, h⟩ := fBound_a h
        obtain ⟨h', h2, h⟩ := fBound_a h
        obtain ⟨m, h3, h⟩ := fBound_a h
        obtain ⟨h4, h⟩ := grd_iff.1 h
        exact ⟨_, by simp only [h0, h1, h2, h3, h4], fList_iff.1 h⟩
      · split at h
        · rename_i hid
          obtain ⟨h0, h⟩ := grd_iff.1 h
          obtain ⟨l, h1, h⟩ := fBound_a h
          obtain ⟨h', h2, h⟩ := fBound_a h
          obtain ⟨m, h3, h⟩ := fBound_a h
          obtain ⟨h4, h⟩ := grd_iff.1 h
          exact ⟨_, by simp only [hid, h0, h1, h2, h3, h4], fNat_iff.1 (fNat_iff.1 h)⟩
        · exact h.elim
      · exact h.elim
  · rename_i n e hu
    simp only [hu]
    split at h
    · exact h.elim
    · rename_i sz hsz
      simp only [hsz]
      split at h
      · split at h
        · rename_i hid
          obtain ⟨h0, h⟩ := grd_iff.1 h
          obtain ⟨l, h1, h⟩ := fBound_a h
          obtain ⟨h', h2, h⟩ := fBound_a h
          obtain ⟨m, h3, h⟩ := fBound_a h
          obtain ⟨h4, h⟩ := grd_iff.1 h
          exact ⟨_, by simp only [hid, h0, h1, h2, h3, h4], fNat_iff.1 (fNat_iff.1 h)⟩
        · exact h.elim
      · exact h.elim
  · exact h.elim

def chunkK (sz : Nat) (sh : Option Nat) : Nat → List AV → (List AV → Prop) → Prop
  | 0, _, K => K []
  | m + 1, cs, K => fsub sh cs 0 fun x => chunkK sz sh m (cs.drop sz) fun l => K (x :: l)

theorem chunkK_a {sz : Nat} {sh : Option Nat} : ∀ {m : Nat} {cs : List AV} {K : List AV → Prop}, chunkK sz sh m cs K → ∃ l, chunk sz sh m cs = some l ∧ K l
  | 0, cs, K, h => ⟨[], rfl, h⟩
  | m + 1, cs, K, h => by
    obtain ⟨x, h1, h⟩ := fsub_sub h
    obtain ⟨l, h2, h⟩ := chunkK_a h
    exact ⟨_, by simp only [chunk, h1, h2], h⟩

def cnt {α : Type} : List α → Nat → Nat
  | [], n => n
  | _ :: r, n => cnt r (n + 1)
theorem cnt_eq {α : Type} : ∀ (l : List α) (n : Nat), cnt l n = l.length + n
  | [], n => by simp [cnt]
  | _ :: r, n => by simp [cnt, cnt_eq r]; omega

def fRow (P : Program) (t : TypeId) (v : AV) (K : Nat → List AV → Prop) : Prop :=
  match P.underlying t with
  | some (.array m e) => match v with
    | .agg cs => match tsize P e, shp P e with
      | some sz, some sh => grd (Nat.beq (sh.getD 1) sz && (Nat.blt 0 sz && Nat.beq cs.length (m * sz))) (chunkK sz sh m cs fun xs => K sz xs)
      | _, _ => False
    | _ => False
  | some _ => grd (okVal v) (match v.cells with
    | [] => False
    | _ :: _ => natK (cnt v.cells 0) fun n => K n [v])
  | none => False

theorem fRow_a {P : Program} {t : TypeId} {v : AV} {K : Nat → List AV → Prop} (h : fRow P t v K) : ∃ sz xs, asRow P t v = some (sz, xs) ∧ K sz xs := by
  unfold fRow at h
  unfold asRow
  split at h
  · rename_i m e hu
    simp only [hu]
    split at h
    · split at h
      · rename_i sz sh h1 h2
        simp only [h1, h2]
        obtain ⟨h3, h⟩ := grd_iff.1 h
        obtain ⟨l, h4, h⟩ := chunkK_a h
        exact ⟨_, _, by simp only [h3, h4], h⟩
      · exact h.elim
    · exact h.elim
  · rename_i d hna hu
    simp only [hu]
    obtain ⟨h1, h⟩ := grd_iff.1 h
    split at h
    · exact h.elim
    · rename_i c cs hc
      have h := natK_iff.1 h
      rw [cnt_eq, Nat.add_zero] at h
      refine ⟨_, _, ?_, h⟩
      cases hd : d <;> first | (exact (hna _ _ hd).elim) | simp only [h1, hc]
  · exact h.elim

def fNew (cl : Bool) (t : TypeId) (mem : Mem) (nx : Nat) (sz : Nat) (xs : List AV) (v : Nat → AV) (K : AV → Mem → Nat → Prop) : Prop := natK (nx + 1) fun n => K (v nx) ((nx, .row t sz xs) :: mem) n

def fAlloc (P : Program) (mem : Mem) (nx : Nat) (t : TypeId) (K : AV → Mem → Nat → Prop) : Prop :=
  match P.info? t with
  | some i => match i.zero with
    | some z => match ofVal z with
      | some v => fRow P t v fun sz xs => natK (nx + 1) fun n => K (.ptr nx 0 0) ((nx, .row t sz xs) :: mem) n
      | none => False
    | none => False
  | none => False

theorem fAlloc_a {P : Program} {mem : Mem} {nx : Nat} {t : TypeId} {K : AV → Mem → Nat → Prop} (h : fAlloc P mem nx t K) : ∃ v m n, aAlloc P mem nx t = some (v, m, n) ∧ K v m n := by
  unfold fAlloc at h
  unfold aAlloc
  split at h
  · rename_i i h1
    simp only [h1]
    split at h
    · rename_i z h2
      simp only [h2]
      split at h
      · rename_i v h3
        simp only [h3]
        obtain ⟨sz, xs, h4, h⟩ := fRow_a h
        exact ⟨_, _, _, by simp only [h4], natK_iff.1 h⟩
      · exact h.elim
    · exact h.elim
  · exact h.elim

def fBox (P : Program) (mem : Mem) (nx : Nat) (t : TypeId) (v : AV) (K : AV → Mem → Nat → Prop) : Prop :=
  fRow P t v fun sz xs => natK (nx + 1) fun n => K (.ptr nx 0 0) ((nx, .row t sz xs) :: mem) n

theorem fBox_a {P : Program} {mem : Mem} {nx : Nat} {t : TypeId} {v : AV} {K : AV → Mem → Nat → Prop} (h : fBox P mem nx t v K) : ∃ r m n, aBox P mem nx t v = some (r, m, n) ∧ K r m n := by
  obtain ⟨sz, xs, h4, h⟩ := fRow_a h
  exact ⟨_, _, _, by simp only [aBox, h4], natK_iff.1 h⟩

def fElems (sz : Nat) : List AV → List (Nat × AV) → (List AV → Prop) → Prop
  | xs, [], K => K xs
  | xs, (i, v) :: r, K => grd (okVal v && (Nat.beq v.cells.length sz && Nat.blt i xs.length)) (setK xs i v fun xs => fElems sz xs r K)

theorem fElems_a {sz : Nat} : ∀ {parts : List (Nat × AV)} {xs : List AV} {K : List AV → Prop}, fElems sz xs parts K → ∃ l, aElems sz xs parts = some l ∧ K l
  | [], xs, K, h => ⟨xs, by simp [aElems], h⟩
  | (i, v) :: r, xs, K, h => by
    obtain ⟨h1, h⟩ := grd_iff.1 h
    obtain ⟨l, h2, h⟩ := fElems_a (setK_iff.1 h)
    exact ⟨l, by simp only [aElems, h1]; exact h2, h⟩

def fBuildSlice (P : Program) (mem : Mem) (nx : Nat) (t : TypeId) (len : Nat) (parts : List (Nat × AV)) (K : AV → Mem → Nat → Prop) : Prop :=
  match P.underlying t with
  | some (.slice e) => match tsize P e, zeroAV P e with
    | some sz, some z => grd (okVal z && (Nat.beq z.cells.length sz && (Nat.blt 0 sz && Nat.ble (len * sz) 16777216))) (listK (List.replicate len z) fun zs => fElems sz zs parts fun xs => natK (nx + 1) fun n => K (.sl nx 0 len) ((nx, .row e sz xs) :: mem) n)
    | _, _ => False
  | _ => False

theorem fBuildSlice_a {P : Program} {mem : Mem} {nx : Nat} {t : TypeId} {len : Nat} {parts : List (Nat × AV)} {K : AV → Mem → Nat → Prop} (h : fBuildSlice P mem nx t len parts K) : ∃ v m n, aBuildSlice P mem nx t len parts = some (v, m, n) ∧ K v m n := by
  unfold fBuildSlice at h
  unfold aBuildSlice
  split at h
  · rename_i e hu
    simp only [hu]
    split at h
    · rename_i sz z h1 h2
      simp only [h1, h2]
      obtain ⟨h3, h⟩ := grd_iff.1 h
      obtain ⟨l, h4, h⟩ := fElems_a (listK_iff.1 h)
      exact ⟨_, _, _, by simp only [h3, h4], natK_iff.1 h⟩
    · exact h.elim
  · exact h.elim

def spliceK : List AV → Nat → List AV → (List AV → Prop) → Prop
  | [], _, cs, K => K cs
  | x :: r, 0, [], K => K (x :: r)
  | _ :: r, 0, c :: cs, K => spliceK r 0 cs fun l => K (c :: l)
  | x :: r, j + 1, cs, K => spliceK r j cs fun l => K (x :: l)

theorem spliceK_iff : ∀ {xs : List AV} {j : Nat} {cs : List AV} {K : List AV → Prop}, spliceK xs j cs K ↔ K (xs.take j ++ cs ++ xs.drop (j + cs.length))
  | [], j, cs, K => by simp [spliceK]
  | x :: r, 0, [], K => by simp [spliceK]
  | x :: r, 0, c :: cs, K => by simp [spliceK, spliceK_iff]
  | x :: r, j + 1, cs, K => by simp [spliceK, spliceK_iff, Nat.add_right_comm]

def fSetCells (x : AV) (j : Nat) (cs : List AV) (K : AV → Prop) : Prop :=
  match x with
  | .agg xs => spliceK xs j cs fun l => K (.agg l)
  | _ => match cs with
    | [c] => opt (one c) K
    | _ => False

theorem fSetCells_a {x : AV} {j : Nat} {cs : List AV} {K : AV → Prop} (h : fSetCells x j cs K) : ∃ v, setCells x j cs = some v ∧ K v := by
  unfold fSetCells at h
  unfold setCells
  split at h
  · exact ⟨_, rfl, spliceK_iff.1 h⟩
  · rename_i hx
    split at h
    · obtain ⟨v, h1, h2⟩ := opt_iff.1 h
      refine ⟨v, ?_, h2⟩
      cases x <;> first | exact h1 | exact (hx _ rfl).elim
    · exact h.elim

def fStore (P : Program) (mem : Mem) (t : TypeId) (p v : AV) (K : Mem → Prop) : Prop :=
  match p with
  | .ptr id i j => match lk mem id with
    | some (.row t' sz' xs) => opt xs[i]? fun x => match tsize P t with
      | some n => grd (okVal v && (Nat.beq v.cells.length n && Nat.ble (j + n) x.cells.length)) (fSetCells x j v.cells fun x' => setK xs i x' fun xs' => upK mem id (.row t' sz' xs') K)
      | none => False
    | _ => False
  | _ => False

theorem fStore_a {P : Program} {mem : Mem} {t : TypeId} {p v : AV} {K : Mem → Prop} (h : fStore P mem t p v K) : ∃ m, aStore P mem t p v = some m ∧ K m := by
  unfold fStore at h
  unfold aStore
  split at h
  · split at h
    · rename_i hid
      obtain ⟨x, hx, h⟩ := opt_iff.1 h
      split at h
      · rename_i n hn
        obtain ⟨h1, h⟩ := grd_iff.1 h
        obtain ⟨x', h2, h⟩ := fSetCells_a h
        exact ⟨_, by simp only [hid, hx, hn, h1, h2], upK_iff.1 (setK_iff.1 h)⟩
      · exact h.elim
    · exact h.elim
  · exact h.elim

def fMake (cl : Bool) (P : Program) (mem : Mem) (nx : Nat) (t : TypeId) (l c : AV) (K : AV → Mem → Nat → Prop) : Prop :=
  match l, c with
  | .int _ l, .int _ c => match P.underlying t with
    | some (.slice e) => match P.info? e with
      | some i => match zeroAV P e with
        | some z => grd (okVal z && (Nat.beq z.cells.length i.size && (Nat.blt 0 i.size && (decide (0 ≤ l) && (decide (l ≤ c) && (decide ((i.bytes : Int) * c ≤ 281474976710656) && decide (c ≤ 9223372036854775807)))))))
            (natK (nx + 1) fun n => fList cl (List.replicate l.toNat z) fun zs => fNat cl l.toNat fun m => K (.sl nx 0 m) ((nx, .row e i.size zs) :: mem) n)
        | none => False
      | none => False
    | _ => False
  | _, _ => False

theorem fMake_a {cl : Bool} {P : Program} {mem : Mem} {nx : Nat} {t : TypeId} {l c : AV} {K : AV → Mem → Nat → Prop} (h : fMake cl P mem nx t l c K) : ∃ v m n, aMake P mem nx t l c = some (v, m, n) ∧ K v m n := by
  unfold fMake at h
  split at h
  · unfold aMake
    split at h
    · rename_i e hu
      simp only [hu]
      split at h
      · rename_i i h1
        simp only [h1]
        split at h
        · rename_i z h2
          simp only [h2]
          obtain ⟨h3, h⟩ := grd_iff.1 h
          have h4 := fNat_iff.1 (fList_iff.1 (natK_iff.1 h))
          exact ⟨_, _, _, by simp only [h3], h4⟩
        · exact h.elim
      · exact h.elim
    · exact h.elim
  · exact h.elim

def fSrc (cl : Bool) (mem : Mem) (sz : Nat) (x : AV) (K : List AV → Prop) : Prop :=
  match x with
  | .nsl => K []
  | .il sz' ys => grd (Nat.beq sz' sz) (K ys)
  | .sl id off len => match lk mem id with
    | some (.row _ sz' xs) => grd (Nat.beq sz' sz && Nat.ble (off + len) xs.length) (fList cl ((xs.drop off).take len) K)
    | _ => False
  | .str s => grd (Nat.beq sz 1) (fList cl (s.map fun b => .int .u8 (b.toNat : Int)) K)
  | _ => False

theorem fSrc_a {cl : Bool} {mem : Mem} {sz : Nat} {x : AV} {K : List AV → Prop} (h : fSrc cl mem sz x K) : ∃ l, aSrc mem sz x = some l ∧ K l := by
  unfold fSrc at h
  unfold aSrc
  split at h
  · exact ⟨_, rfl, h⟩
  · obtain ⟨h1, h⟩ := grd_iff.1 h
    exact ⟨_, by simp only [h1], h⟩
  · split at h
    · rename_i hid
      obtain ⟨h1, h⟩ := grd_iff.1 h
      exact ⟨_, by simp only [hid, h1], fList_iff.1 h⟩
    · exact h.elim
  · obtain ⟨h1, h⟩ := grd_iff.1 h
    exact ⟨_, by simp only [h1], fList_iff.1 h⟩
  · exact h.elim

def fApp (cl : Bool) (xs ys : List AV) (K : List AV → Prop) : Prop :=
  match cl with
  | true => appK xs ys K
  | false => K (xs ++ ys)
theorem fApp_iff {cl : Bool} {xs ys : List AV} {K : List AV → Prop} : fApp cl xs ys K ↔ K (xs ++ ys) := by cases cl <;> simp [fApp, appK_iff]

def fAppend (cl : Bool) (P : Program) (mem : Mem) (nx : Nat) (t u : TypeId) (s x : AV) (K : AV → Mem → Nat → Prop) : Prop :=
  match P.underlying t with
  | some (.slice e) => match P.info? e with
    | some i => match i.zero with
      | some z => grd (notInt (P.underlying u) && (Nat.blt 0 i.size && Nat.beq z.cells.size i.size)) (fSrc cl mem i.size x fun ys => match s with
          | .nsl => match ys with
            | [] => K .nsl mem nx
            | y :: yr => grd (Nat.ble ((y :: yr).length * i.bytes) 140737488355328 && Nat.ble (y :: yr).length 9223372036854775807) (fNat cl (y :: yr).length fun l => natK (nx + 1) fun n => K (.sl nx 0 l) ((nx, .row e i.size (y :: yr)) :: mem) n)
          | .sl id 0 len => match lk mem id with
            | some (.row t' sz' xs) => grd (Nat.beq t' e && (Nat.beq sz' i.size && (Nat.beq len xs.length && (Nat.ble ((len + ys.length) * i.bytes) 140737488355328 && Nat.ble (len + ys.length) 9223372036854775807))))
                (fApp cl xs ys fun zs => fNat cl (len + ys.length) fun l => natK (nx + 1) fun n => dropK id mem fun m => K (.sl nx 0 l) ((nx, .row e i.size zs) :: m) n)
            | _ => False
          | _ => False)
      | none => False
    | none => False
  | _ => False

theorem fAppend_a {cl : Bool} {P : Program} {mem : Mem} {nx : Nat} {t u : TypeId} {s x : AV} {K : AV → Mem → Nat → Prop} (h : fAppend cl P mem nx t u s x K) : ∃ v m n, aAppend P mem nx t u s x = some (v, m, n) ∧ K v m n := by
  unfold fAppend at h
  unfold aAppend
  split at h
  · rename_i e hu
    simp only [hu]
    split at h
    · rename_i i h1
      simp only [h1]
      split at h
      · rename_i z h2
        simp only [h2]
        obtain ⟨h3, h⟩ := grd_iff.1 h
        simp only [h3]
        obtain ⟨ys, h4, h⟩ := fSrc_a h
        simp only [h4]
        split at h
        · split at h
          · exact ⟨_, _, _, rfl, h⟩
          · obtain ⟨h5, h⟩ := grd_iff.1 h
            exact ⟨_, _, _, by simp only [h5], natK_iff.1 (fNat_iff.1 h)⟩
        · split at h
          · rename_i hid
            obtain ⟨h5, h⟩ := grd_iff.1 h
            exact ⟨_, _, _, by simp only [hid, h5], dropK_iff.1 (natK_iff.1 (fNat_iff.1 (fApp_iff.1 h)))⟩
          · exact h.elim
        · exact h.elim
      · exact h.elim
    · exact h.elim
  · exact h.elim

def fStrBytes (cl : Bool) (P : Program) (mem : Mem) (nx : Nat) (src dst : TypeId) (x : AV) (K : AV → Mem → Nat → Prop) : Prop :=
  match P.underlying src with
  | none => False
  | some _ => match P.underlying dst with
    | some (.slice e) => match P.underlying e with
      | some (.int .u8) => match x with
        | .str s => match s with
          | [] => False
          | c :: r => natK (nx + 1) fun n => fNat cl (c :: r).length fun l => fList cl ((c :: r).map fun b => .int .u8 (b.toNat : Int)) fun xs => K (.sl nx 0 l) ((nx, .row e 1 xs) :: mem) n
        | _ => False
      | _ => False
    | _ => False

theorem fStrBytes_a {cl : Bool} {P : Program} {mem : Mem} {nx : Nat} {src dst : TypeId} {x : AV} {K : AV → Mem → Nat → Prop} (h : fStrBytes cl P mem nx src dst x K) : ∃ v m n, aStrBytes P mem nx src dst x = some (v, m, n) ∧ K v m n := by
  unfold fStrBytes at h
  unfold aStrBytes
  split at h
  · exact h.elim
  · rename_i d hd
    simp only [hd]
    split at h
    · rename_i e hu
      simp only [hu]
      split at h
      · rename_i he
        simp only [he]
        split at h
        · split at h
          · exact h.elim
          · exact ⟨_, _, _, rfl, fList_iff.1 (fNat_iff.1 (natK_iff.1 h))⟩
        · exact h.elim
      · exact h.elim
    · exact h.elim

def fMapUpdate (P : Program) (mem : Mem) (t : TypeId) (m k v : AV) (K : Mem → Prop) : Prop :=
  match P.underlying t with
  | some (.map kt _) => grd (aKey P kt k) (match m with
      | .mp id => match lk mem id with
        | some (.mapb es) => opt (aFindM P kt k es 0) fun r => match r with
          | some (i, _) => opt es[i]? fun e => grd (sameK e.1 k) (setK es i (k, v) fun es => upK mem id (.mapb es) K)
          | none => appK es [(k, v)] fun es => upK mem id (.mapb es) K
        | _ => False
      | _ => False)
  | _ => False

theorem fMapUpdate_a {P : Program} {mem : Mem} {t : TypeId} {m k v : AV} {K : Mem → Prop} (h : fMapUpdate P mem t m k v K) : ∃ m', aMapUpdate P mem t m k v = some m' ∧ K m' := by
  unfold fMapUpdate at h
  unfold aMapUpdate
  split at h
  · rename_i kt et hu
    simp only [hu]
    obtain ⟨h1, h⟩ := grd_iff.1 h
    simp only [h1]
    split at h
    · split at h
      · rename_i es hid
        simp only [hid]
        obtain ⟨r, h2, h⟩ := opt_iff.1 h
        split at h
        · obtain ⟨e, h3, h⟩ := opt_iff.1 h
          obtain ⟨h4, h⟩ := grd_iff.1 h
          exact ⟨_, by simp only [h2, h3, h4], upK_iff.1 (setK_iff.1 h)⟩
        · exact ⟨_, by simp only [h2], upK_iff.1 (appK_iff.1 h)⟩
      · exact h.elim
    · exact h.elim
  · exact h.elim
end Go.Ax
