/- For every input (of two slices of ints and two ints), refuterlaw10.ValuesHashes returns true, and its arguments read behind the call as they read before (the card ValuesHashesCardSaid, the full form). Conditions: the package-level variables that the row lists hold, when the call begins, what the program's text lays (the card ties them to it); no bound on sizes. -/
import Derived.Test.YtelmpofoeinfoaaGreatDoorAx11
import Derived.Test.YtelmpofoeinfoaaGreatDoorCards
import Derived.Test.YtelmpofoeinfoaaGreatDoorTie
import Derived.Lib.LaidIn
set_option linter.unusedVariables false
namespace Go.Proofs.YtelmpofoeinfoaaGreatDoor
open Go Go.Ax Go.Proofs
set_option maxRecDepth 100000
set_option maxHeartbeats 16000000
set_option linter.unusedSimpArgs false
theorem rHash (v : Val) (ho : okV v) (hf : formedV v = true) (hz : sizeV v ≤ 1000000) (hc : (codeV v).length ≤ 4294967000) : PureC Tryz.prog [] 15 [encV v] (.int .u64 (bytesN [118, 97, 108, 117, 101] (codeV v))) := by
 have hE := rEncode v ho hf hz
 have nv := encV_nn v
 have hB := rBytesH [118, 97, 108, 117, 101] (codeV v) (by decide) hc
 generalize bytesN [118, 97, 108, 117, 101] (codeV v) = y at *
 generalize codeV v = w at *
 obtain ⟨k, n, s, ks⟩ := v
 refine acalls_go nnΓ Tryz.func15 rfl ?_
 ((conv=>whnf);repeat(refine Xg ?_;conv=>whnf))
 refine newUse nnΓ hE ?_ (.cons nv .nil)
 ((conv=>whnf);repeat(refine Xg ?_;conv=>whnf))
 refine hB.frz [1] nnΓ (.cons (.same _ nn) (.cons (fzRow (id := 1) rfl (encB_length _).symm rfl (encB_nn _)) .nil)) nn ?_
 ((conv=>whnf);repeat(refine Xg ?_;conv=>whnf))
 exact fin_pure nn ⟨rfl, rfl, rfl⟩
theorem valPack (v : Val) (ov : okV v) (sv : sizeV v ≤ 10000) (vv : validV v = 0) : ∃ (w : List UInt8) (y : Nat) (p : List UInt8), w = codeV v ∧ y = bytesN [118, 97, 108, 117, 101] w ∧ p = printV v ∧
  PureC Tryz.prog [] 12 [encV v] (.tup [.il 1 (encB w), .int .i64 0]) ∧ PureC Tryz.prog [] 13 [encV v] (.int .u64 y) ∧
  PureC Tryz.prog [] 14 [.str [118, 97, 108, 117, 101], .il 1 (encB w)] (.int .u64 y) ∧ PureC Tryz.prog [] 15 [encV v] (.int .u64 y) ∧ PureC Tryz.prog gz 18 [encV v] (.str p) := by
 have hf := (valid_fits vv).1
 have hE := vEncode v ov (by omega)
 rw [vv, if_pos rfl] at hE
 have hc := code_len v ov hf
 have hH := vHash v ov (by omega) fun _ => by omega
 rw [vv, if_pos rfl] at hH
 have hP := vPrint v ov (by omega)
 rw [vv, if_pos rfl] at hP
 exact ⟨_, _, _, rfl, rfl, rfl, hE, hH, hBytes _ _ (by decide) (by omega), rHash v ov hf (by omega) (by omega), hP⟩
theorem twoPack (a b : Val) (oa : okV a) (ob : okV b) (va : validV a = 0) : ∃ (sm : Bool) (cm : Int), PureC Tryz.prog [] 17 [encV a, encV b] (.bool sm) ∧ PureC Tryz.prog [] 19 [encV a, encV b] (.int .i64 cm) ∧
  (cm == 0) = sm ∧ (validV b = 0 → (codeV a == codeV b) = sm ∧ (printV a == printV b) = sm) ∧ (sm = true → codeV a = codeV b) := by
 refine ⟨_, _, rEqual a b oa, vCompare a b oa, rfl, fun vb => ⟨?_, ?_⟩, fun h => ?_⟩
 ·rw [Bool.eq_iff_iff, beq_iff_eq]
  unfold eqV
  rw [beq_iff_eq]
  exact ⟨fun h => by rw [code_inj oa ob va vb h]; exact cmpV_self b, fun h => by rw [valEq _ _ h]⟩
 ·rw [Bool.eq_iff_iff, beq_iff_eq]
  unfold eqV
  rw [beq_iff_eq]
  exact ⟨fun h => by rw [print_inj oa ob va vb h]; exact cmpV_self b, fun h => by rw [valEq _ _ h]⟩
 ·unfold eqV at h
  rw [beq_iff_eq] at h
  rw [valEq _ _ h]
theorem lawHashesW (l m : List Int) (bent by_ : Int) (_ : ∀ x ∈ l, i64 x) (_ : ∀ x ∈ m, i64 x) (_ : i64 bent) (hb : i64 by_) : PureC Tryz.prog gz 4 [.il 1 (Go.Ax.encI l), .il 1 (Go.Ax.encI m), .int .i64 bent, .int .i64 by_] (.bool true) := by
 have h0 : i64 0 := ⟨by omega, by omega⟩
 have nl : NN (.il 1 (Go.Ax.encI l)) := .il' (encI_nn l)
 have nm : NN (.il 1 (Go.Ax.encI m)) := .il' (encI_nn m)
 refine acalls_go nngz Tryz.func4 rfl ?_
 ((conv=>whnf);repeat(refine Xg ?_;conv=>whnf))
 refine ACalls.goG0 (rSome l 0 0 h0) ?_ (.cons nl (.cons nn (.cons nn .nil)))
 rintro r m' n' ⟨⟨a1, a2, a3, a4⟩, rfl, oa, sa, ga, rfl, rfl⟩
 refine ⟨_, .same _ (encV_nn _), ?_⟩
 have va := genV_valid (ga (Int.le_refl _))
 ((conv=>whnf);repeat(refine Xg ?_;conv=>whnf))
 refine ACalls.goG0 (rSome m bent by_ hb) ?_ (.cons nm (.cons nn (.cons nn .nil)))
 rintro r m' n' ⟨⟨b1, b2, b3, b4⟩, rfl, ob, sb, -, rfl, rfl⟩
 refine ⟨_, .same _ (encV_nn _), ?_⟩
 have hEb := vEncode _ ob (by omega)
 have hHb := fun h => vHash _ ob (by omega) h
 obtain ⟨wa, ya, pa, ewa, eya, epa, hEa, hHa, hBa, hRa, hPa⟩ := valPack _ oa sa va
 obtain ⟨sm, cm, hEq, hCm, ec, ev, es⟩ := twoPack _ _ oa ob va
 have nca : NN (.il 1 (encB wa)) := .il' (encB_nn _)
 have ta : toBytes (encB wa) = some wa := toBytes_encB _
 by_cases vb : validV (.mk b1 b2 b3 b4) = 0
 ·obtain ⟨wb, yb, pb, ewb, eyb, epb, hEb, hHb, hBb, hRb, hPb⟩ := valPack _ ob sb vb
  have ncb : NN (.il 1 (encB wb)) := .il' (encB_nn _)
  have tb : toBytes (encB wb) = some wb := toBytes_encB _
  obtain ⟨e1, e2⟩ := ev vb
  rw [← ewa, ← ewb] at e1 es
  rw [← epa, ← epb] at e2
  have e5 : sm = true → (ya != yb) = false := fun h => by rw [eya, eyb, es h]; simp
  clear ev es eya eyb ewa ewb epa epb
  ((conv=>whnf);repeat(refine Xg ?_;conv=>whnf))
  refine hEa.goG ?_ (.cons (encV_nn _) .nil) (.tup' (.cons nca (.cons nn .nil)))
  ((conv=>whnf);repeat(refine Xg ?_;conv=>whnf))
  repeat ((first | refine setK_iff.2 ?_ | refine ⟨rfl, ?_⟩); ((conv=>whnf);repeat(refine Xg ?_;conv=>whnf)))
  refine hHa.goG ?_ (.cons (encV_nn _) .nil) nn
  ((conv=>whnf);repeat(refine Xg ?_;conv=>whnf))
  repeat ((first | refine setK_iff.2 ?_ | refine ⟨rfl, ?_⟩); ((conv=>whnf);repeat(refine Xg ?_;conv=>whnf)))
  refine hBa.goG ?_ (.cons nn (.cons nca .nil)) nn
  ((conv=>whnf);repeat(refine Xg ?_;conv=>whnf))
  repeat ((first | refine setK_iff.2 ?_ | refine ⟨rfl, ?_⟩ | refine opt_mk ta ?_ | refine opt_mk tb ?_); ((conv=>whnf);repeat(refine Xg ?_;conv=>whnf)))
  rw [show (((ya : Nat) : Int) != ((ya : Nat) : Int)) = false by simp]
  ((conv=>whnf);repeat(refine Xg ?_;conv=>whnf))
  repeat ((first | refine setK_iff.2 ?_ | refine ⟨rfl, ?_⟩ | refine opt_mk ta ?_ | refine opt_mk tb ?_); ((conv=>whnf);repeat(refine Xg ?_;conv=>whnf)))
  refine hHa.goG ?_ (.cons (encV_nn _) .nil) nn
  ((conv=>whnf);repeat(refine Xg ?_;conv=>whnf))
  repeat ((first | refine setK_iff.2 ?_ | refine ⟨rfl, ?_⟩ | refine opt_mk ta ?_ | refine opt_mk tb ?_); ((conv=>whnf);repeat(refine Xg ?_;conv=>whnf)))
  refine hRa.goG ?_ (.cons (encV_nn _) .nil) nn
  ((conv=>whnf);repeat(refine Xg ?_;conv=>whnf))
  repeat ((first | refine setK_iff.2 ?_ | refine ⟨rfl, ?_⟩ | refine opt_mk ta ?_ | refine opt_mk tb ?_); ((conv=>whnf);repeat(refine Xg ?_;conv=>whnf)))
  rw [show (((ya : Nat) : Int) != ((ya : Nat) : Int)) = false by simp]
  ((conv=>whnf);repeat(refine Xg ?_;conv=>whnf))
  repeat ((first | refine setK_iff.2 ?_ | refine ⟨rfl, ?_⟩ | refine opt_mk ta ?_ | refine opt_mk tb ?_); ((conv=>whnf);repeat(refine Xg ?_;conv=>whnf)))
  refine hEb.goG ?_ (.cons (encV_nn _) .nil) (.tup' (.cons ncb (.cons nn .nil)))
  ((conv=>whnf);repeat(refine Xg ?_;conv=>whnf))
  repeat ((first | refine setK_iff.2 ?_ | refine ⟨rfl, ?_⟩ | refine opt_mk ta ?_ | refine opt_mk tb ?_); ((conv=>whnf);repeat(refine Xg ?_;conv=>whnf)))
  refine hEq.goG ?_ (.cons (encV_nn _) (.cons (encV_nn _) .nil)) nn
  ((conv=>whnf);repeat(refine Xg ?_;conv=>whnf))
  repeat ((first | refine setK_iff.2 ?_ | refine ⟨rfl, ?_⟩ | refine opt_mk ta ?_ | refine opt_mk tb ?_); ((conv=>whnf);repeat(refine Xg ?_;conv=>whnf)))
  rw [e1, show (!(sm == sm)) = false by simp]
  ((conv=>whnf);repeat(refine Xg ?_;conv=>whnf))
  repeat ((first | refine setK_iff.2 ?_ | refine ⟨rfl, ?_⟩ | refine opt_mk ta ?_ | refine opt_mk tb ?_); ((conv=>whnf);repeat(refine Xg ?_;conv=>whnf)))
  refine hPa.use nngz (.cons (encV_nn _) .nil) nn ?_
  ((conv=>whnf);repeat(refine Xg ?_;conv=>whnf))
  repeat ((first | refine setK_iff.2 ?_ | refine ⟨rfl, ?_⟩ | refine opt_mk ta ?_ | refine opt_mk tb ?_); ((conv=>whnf);repeat(refine Xg ?_;conv=>whnf)))
  refine hPb.use nngz (.cons (encV_nn _) .nil) nn ?_
  ((conv=>whnf);repeat(refine Xg ?_;conv=>whnf))
  repeat ((first | refine setK_iff.2 ?_ | refine ⟨rfl, ?_⟩ | refine opt_mk ta ?_ | refine opt_mk tb ?_); ((conv=>whnf);repeat(refine Xg ?_;conv=>whnf)))
  rw [e2, show (!(sm == sm)) = false by simp]
  ((conv=>whnf);repeat(refine Xg ?_;conv=>whnf))
  repeat ((first | refine setK_iff.2 ?_ | refine ⟨rfl, ?_⟩ | refine opt_mk ta ?_ | refine opt_mk tb ?_); ((conv=>whnf);repeat(refine Xg ?_;conv=>whnf)))
  cases sm with
  | true =>
   have e5 := e5 rfl
   ((conv=>whnf);repeat(refine Xg ?_;conv=>whnf))
   repeat ((first | refine setK_iff.2 ?_ | refine ⟨rfl, ?_⟩ | refine opt_mk ta ?_ | refine opt_mk tb ?_); ((conv=>whnf);repeat(refine Xg ?_;conv=>whnf)))
   refine hHa.goG ?_ (.cons (encV_nn _) .nil) nn
   ((conv=>whnf);repeat(refine Xg ?_;conv=>whnf))
   repeat ((first | refine setK_iff.2 ?_ | refine ⟨rfl, ?_⟩ | refine opt_mk ta ?_ | refine opt_mk tb ?_); ((conv=>whnf);repeat(refine Xg ?_;conv=>whnf)))
   refine hHb.goG ?_ (.cons (encV_nn _) .nil) nn
   ((conv=>whnf);repeat(refine Xg ?_;conv=>whnf))
   repeat ((first | refine setK_iff.2 ?_ | refine ⟨rfl, ?_⟩ | refine opt_mk ta ?_ | refine opt_mk tb ?_); ((conv=>whnf);repeat(refine Xg ?_;conv=>whnf)))
   rw [show (((ya : Nat) : Int) != ((yb : Nat) : Int)) = false by simp at e5; simp [e5]]
   ((conv=>whnf);repeat(refine Xg ?_;conv=>whnf))
   repeat ((first | refine setK_iff.2 ?_ | refine ⟨rfl, ?_⟩ | refine opt_mk ta ?_ | refine opt_mk tb ?_); ((conv=>whnf);repeat(refine Xg ?_;conv=>whnf)))
   refine hCm.goG ?_ (.cons (encV_nn _) (.cons (encV_nn _) .nil)) nn
   ((conv=>whnf);repeat(refine Xg ?_;conv=>whnf))
   repeat ((first | refine setK_iff.2 ?_ | refine ⟨rfl, ?_⟩ | refine opt_mk ta ?_ | refine opt_mk tb ?_); ((conv=>whnf);repeat(refine Xg ?_;conv=>whnf)))
   rw [ec]
   ((conv=>whnf);repeat(refine Xg ?_;conv=>whnf))
   repeat ((first | refine setK_iff.2 ?_ | refine ⟨rfl, ?_⟩ | refine opt_mk ta ?_ | refine opt_mk tb ?_); ((conv=>whnf);repeat(refine Xg ?_;conv=>whnf)))
   refine ACalls.call0 nngz (acalls_closed [] 60 (by rw [lives10]; trivial)) .nil ?_
   intro r m' n' hr
   rw [saysTrue_eq hr]
   refine ⟨_, .same _ (.bool true), ?_⟩
   ((conv=>whnf);repeat(refine Xg ?_;conv=>whnf))
   exact fin_pure (.bool _) ⟨rfl, rfl, rfl⟩
  | false =>
   ((conv=>whnf);repeat(refine Xg ?_;conv=>whnf))
   repeat ((first | refine setK_iff.2 ?_ | refine ⟨rfl, ?_⟩ | refine opt_mk ta ?_ | refine opt_mk tb ?_); ((conv=>whnf);repeat(refine Xg ?_;conv=>whnf)))
   refine hCm.goG ?_ (.cons (encV_nn _) (.cons (encV_nn _) .nil)) nn
   ((conv=>whnf);repeat(refine Xg ?_;conv=>whnf))
   repeat ((first | refine setK_iff.2 ?_ | refine ⟨rfl, ?_⟩ | refine opt_mk ta ?_ | refine opt_mk tb ?_); ((conv=>whnf);repeat(refine Xg ?_;conv=>whnf)))
   rw [ec]
   ((conv=>whnf);repeat(refine Xg ?_;conv=>whnf))
   repeat ((first | refine setK_iff.2 ?_ | refine ⟨rfl, ?_⟩ | refine opt_mk ta ?_ | refine opt_mk tb ?_); ((conv=>whnf);repeat(refine Xg ?_;conv=>whnf)))
   refine ACalls.call0 nngz (acalls_closed [] 60 (by rw [lives10]; trivial)) .nil ?_
   intro r m' n' hr
   rw [saysTrue_eq hr]
   refine ⟨_, .same _ (.bool true), ?_⟩
   ((conv=>whnf);repeat(refine Xg ?_;conv=>whnf))
   exact fin_pure (.bool _) ⟨rfl, rfl, rfl⟩
 ·rw [if_neg vb] at hEb
  have hHc := hHb fun h => absurd h vb
  rw [if_neg vb] at hHc
  clear ev es hHb
  generalize validV (.mk b1 b2 b3 b4) = e at *
  ((conv=>whnf);repeat(refine Xg ?_;conv=>whnf))
  refine hEa.goG ?_ (.cons (encV_nn _) .nil) (.tup' (.cons nca (.cons nn .nil)))
  ((conv=>whnf);repeat(refine Xg ?_;conv=>whnf))
  repeat ((first | refine setK_iff.2 ?_ | refine ⟨rfl, ?_⟩); ((conv=>whnf);repeat(refine Xg ?_;conv=>whnf)))
  refine hHa.goG ?_ (.cons (encV_nn _) .nil) nn
  ((conv=>whnf);repeat(refine Xg ?_;conv=>whnf))
  repeat ((first | refine setK_iff.2 ?_ | refine ⟨rfl, ?_⟩); ((conv=>whnf);repeat(refine Xg ?_;conv=>whnf)))
  refine hBa.goG ?_ (.cons nn (.cons nca .nil)) nn
  ((conv=>whnf);repeat(refine Xg ?_;conv=>whnf))
  repeat ((first | refine setK_iff.2 ?_ | refine ⟨rfl, ?_⟩); ((conv=>whnf);repeat(refine Xg ?_;conv=>whnf)))
  rw [show (((ya : Nat) : Int) != ((ya : Nat) : Int)) = false by simp]
  ((conv=>whnf);repeat(refine Xg ?_;conv=>whnf))
  repeat ((first | refine setK_iff.2 ?_ | refine ⟨rfl, ?_⟩); ((conv=>whnf);repeat(refine Xg ?_;conv=>whnf)))
  refine hHa.goG ?_ (.cons (encV_nn _) .nil) nn
  ((conv=>whnf);repeat(refine Xg ?_;conv=>whnf))
  repeat ((first | refine setK_iff.2 ?_ | refine ⟨rfl, ?_⟩); ((conv=>whnf);repeat(refine Xg ?_;conv=>whnf)))
  refine hRa.goG ?_ (.cons (encV_nn _) .nil) nn
  ((conv=>whnf);repeat(refine Xg ?_;conv=>whnf))
  repeat ((first | refine setK_iff.2 ?_ | refine ⟨rfl, ?_⟩); ((conv=>whnf);repeat(refine Xg ?_;conv=>whnf)))
  rw [show (((ya : Nat) : Int) != ((ya : Nat) : Int)) = false by simp]
  ((conv=>whnf);repeat(refine Xg ?_;conv=>whnf))
  repeat ((first | refine setK_iff.2 ?_ | refine ⟨rfl, ?_⟩); ((conv=>whnf);repeat(refine Xg ?_;conv=>whnf)))
  refine hEb.goG ?_ (.cons (encV_nn _) .nil) (.tup' (.cons nn (.cons nn .nil)))
  ((conv=>whnf);repeat(refine Xg ?_;conv=>whnf))
  repeat ((first | refine setK_iff.2 ?_ | refine ⟨rfl, ?_⟩); ((conv=>whnf);repeat(refine Xg ?_;conv=>whnf)))
  rw [show (e != 0) = true by simpa using vb]
  ((conv=>whnf);repeat(refine Xg ?_;conv=>whnf))
  repeat ((first | refine setK_iff.2 ?_ | refine ⟨rfl, ?_⟩); ((conv=>whnf);repeat(refine Xg ?_;conv=>whnf)))
  refine hHc.goG ?_ (.cons (encV_nn _) .nil) nn
  ((conv=>whnf);repeat(refine Xg ?_;conv=>whnf))
  repeat ((first | refine setK_iff.2 ?_ | refine ⟨rfl, ?_⟩); ((conv=>whnf);repeat(refine Xg ?_;conv=>whnf)))
  refine ACalls.call0 nngz (acalls_closed [] 60 (by rw [lives10]; trivial)) .nil ?_
  intro r m' n' hr
  rw [saysTrue_eq hr]
  refine ⟨_, .same _ (.bool true), ?_⟩
  ((conv=>whnf);repeat(refine Xg ?_;conv=>whnf))
  exact fin_pure (.bool _) ⟨rfl, rfl, rfl⟩
end Go.Proofs.YtelmpofoeinfoaaGreatDoor
namespace Go.Proofs.YtelmpofoeinfoaaGreatDoor.ValuesHashes
open Go.ChangeShapes Go.WideShapes Go.ChangeAt Go.RowKit Go.Lib Go.Ax
theorem own : ownKnob Tryz.prog.godebug = none := by kernel_rfl
theorem laidOut : laidOutB Tryz.prog = true := by kernel_rfl
theorem cells3 : Tryz.prog.cellsOf 3 = 1 := by kernel_rfl
theorem gName : Tryz.prog.globalNamed "strconv.ErrSyntax" = some 0 := by kernel_rfl
theorem gNameR : Tryz.prog.globalNamed "strconv.ErrRange" = some 1 := by kernel_rfl
theorem gNameP : Tryz.prog.globalNamed "internal/strconv.uint64pow10" = some 2 := by kernel_rfl
theorem gType : (Tryz.prog.globals[0]?).map (·.type) = some 206 := by kernel_rfl
theorem gTypeR : (Tryz.prog.globals[1]?).map (·.type) = some 206 := by kernel_rfl
theorem gTypeP : (Tryz.prog.globals[2]?).map (·.type) = some 285 := by kernel_rfl
theorem star : "*" ++ "errors.errorString" = "*errors.errorString" := by decide
theorem named (u : TypeId) (h : Tryz.prog.typeName? 3 u = some "*errors.errorString") : u = 282 :=
 typeName_ptr_named (nm := "errors.errorString") (by rw [star]; kernel_rfl) (by kernel_rfl) (by decide) u (by rw [star]; exact h)
theorem cellsE : Tryz.prog.cellsOf 284 = 1 := by kernel_rfl
theorem cellsS : Tryz.prog.cellsOf 9 = 1 := by kernel_rfl
theorem cellsU : Tryz.prog.cellsOf 42 = 1 := by kernel_rfl
theorem cellsP : Tryz.prog.cellsOf 285 = 20 := by kernel_rfl
def pows : List Int := [1, 10, 100, 1000, 10000, 100000, 1000000, 10000000, 100000000, 1000000000, 10000000000, 100000000000, 1000000000000, 10000000000000, 100000000000000, 1000000000000000, 10000000000000000, 100000000000000000, 1000000000000000000, 10000000000000000000]
theorem vars {W : World} (h : laidMetH Tryz.prog Rows.valuesHashesRow.laid W) : ∀ p ∈ gz, VR (fun _ => ⟨0, 0, 0⟩) (fun _ => False) (OX (fun _ => False) (fun _ => ⟨0, 0, 0⟩) []) W (.ip p.2) (.pointer (some ⟨p.1, 0, none⟩)) := by
 have h : laidMet Tryz.prog Rows.valuesHashesRow.laid W := h
 have h4 := h.tail.tail.tail.tail
 obtain ⟨a, s, hv, hc, hs, hz⟩ := laid_sentinel (tp := 282) (te := 284) (ts := 9) h4 gName gType Tryz.underlying206 named Tryz.underlying282 Tryz.underlying284 rfl rfl Tryz.underlying9 cellsE cellsS
 have hsp := laid_spot h4 gName hv Tryz.underlying282
 have h3 := h.tail.tail.tail
 obtain ⟨a', s', hv', hc', hs', hz'⟩ := laid_sentinel (tp := 282) (te := 284) (ts := 9) h3 gNameR gTypeR Tryz.underlying206 named Tryz.underlying282 Tryz.underlying284 rfl rfl Tryz.underlying9 cellsE cellsS
 have hsp' := laid_spot h3 gNameR hv' Tryz.underlying282
 have h2 := h.tail.tail
 have htab := tabIs_of_head (k := .u64) (zs := pows) gNameP gTypeP Tryz.underlying285 Tryz.underlying42 cellsU cellsP h2
 intro p hp
 simp only [gz, List.mem_cons, List.not_mem_nil, or_false] at hp
 rcases hp with rfl | rfl | rfl
 ·exact vr_iface_var gName hv hsp
 ·exact vr_iface_var gNameR hv' hsp'
 ·exact vr_tab_var gNameP htab
set_option maxRecDepth 100000 in
theorem contract (H : Type) (enc : TypeId × Value → H) (W : World) (base : Nat) (args : Array Value) (ds gs : List (DataW H)) (before : List MemPlace)
  (hval : ∀ (j : Nat) t v, Tryz.f4.params[j]? = some t → args[j]? = some v → Value.okWide Tryz.prog W .any base t v)
  (hW : DataW.Whole enc Tryz.prog Tryz.f4.params.toList Rows.valuesHashesSpec.vars false W args.toList ds gs before) (hL : laidMetH Tryz.prog Rows.valuesHashesRow.laid W) :
  Calls Tryz.prog 4 args W fun e W' => ∃ v, e = .returned v ∧ Rows.valuesHashesSpec.post enc Tryz.prog Tryz.f4 false true false false W args v W' := by
 have hW' := hW
 obtain ⟨p, q, hA0, hV, rfl, hfz, hnd⟩ := hW
 have hA : DataW.TrodAll enc Tryz.prog W 0 (fun _ => true) true Tryz.f4.params.toList args.toList ds p := hA0
 rw [Tryz.params4] at hA hval
 obtain ⟨v0, vs0, d0, ds0, p0, q0, hargs, rfl, rfl, h0, r0⟩ := trodAll_cons hA
 obtain ⟨v1, vs1, d1, ds1, p1, q1, rfl, rfl, rfl, h1, r1⟩ := trodAll_cons r0
 obtain ⟨v2, vs2, d2, ds2, p2, q2, rfl, rfl, rfl, h2, r2⟩ := trodAll_cons r1
 obtain ⟨v3, vs3, d3, ds3, p3, q3, rfl, rfl, rfl, h3, r3⟩ := trodAll_cons r2
 obtain ⟨rfl, rfl, rfl⟩ := trodAll_nil r3
 obtain rfl : args = #[v0, v1, v2, v3] := by cases args; simp_all
 obtain ⟨rfl, rfl⟩ := trodVars_none hV
 have h0k := h0
 obtain ⟨x0, b0, e0⟩ := vr_ints_of Tryz.underlying22 Tryz.underlying3 cells3 (hval 0 22 v0 rfl rfl) h0
 have h1k := h1
 obtain ⟨x1, b1, e1⟩ := vr_ints_of Tryz.underlying22 Tryz.underlying3 cells3 (hval 1 22 v1 rfl rfl) h1
 have h2k := h2
 obtain ⟨x2, rfl, rfl, rfl, hwf2⟩ := open_int Tryz.underlying3 (hval 2 3 v2 rfl rfl) h2
 have b2 : i64 x2 := by
  have e1 : IntKind.i64.min = -9223372036854775808 := rfl
  have e2 : IntKind.i64.max = 9223372036854775807 := rfl
  simp [Lit.wf, e1, e2] at hwf2
  unfold i64
  omega
 have h3k := h3
 obtain ⟨x3, rfl, rfl, rfl, hwf3⟩ := open_int Tryz.underlying3 (hval 3 3 v3 rfl rfl) h3
 have b3 : i64 x3 := by
  have e1 : IntKind.i64.min = -9223372036854775808 := rfl
  have e2 : IntKind.i64.max = 9223372036854775807 := rfl
  simp [Lit.wf, e1, e2] at hwf3
  unfold i64
  omega
 clear hA0
 refine ((lawHashesW x0 x1 x2 x3 b0 b1 b2 b3).callsG W [v0, v1, .int .i64 x2, .int .i64 x3] (vars hL) (.cons e0 (.cons e1 (.cons (.int _ _) (.cons (.int _ _) .nil))))).mono ?_
 rintro e W' ⟨rfl, hk⟩
 refine ⟨_, rfl, _, _, _, [], p0 ++ (p1 ++ ([] ++ ([] ++ []))), [], hW', ?_, ?_, ?_, hk.frame _, fun h => by cases h⟩
 ·exact trodAll_cons_mk (shut_bool Tryz.underlying4 _) trodAll_mk0
 ·exact trodAll_cons_mk (Kept.trod laidOut (by kernel_rfl) (of_decide_eq_true (by kernel_rfl)) h0k hk) (trodAll_cons_mk (Kept.trod laidOut (by kernel_rfl) (of_decide_eq_true (by kernel_rfl)) h1k hk) (trodAll_cons_mk (Kept.trod laidOut (by kernel_rfl) (of_decide_eq_true (by kernel_rfl)) h2k hk) (trodAll_cons_mk (Kept.trod laidOut (by kernel_rfl) (of_decide_eq_true (by kernel_rfl)) h3k hk) trodAll_mk0)))
 ·rfl
noncomputable def laidWorld (os : Os) : World :=
 let N := (World.settled Tryz.prog os).heap.size
 let w0 := World.holding Tryz.prog os ⟨#[
  .cells #[.string ⟨#[105, 110, 118, 97, 108, 105, 100, 32, 115, 121, 110, 116, 97, 120]⟩] 284,
  .cells #[.string ⟨#[118, 97, 108, 117, 101, 32, 111, 117, 116, 32, 111, 102, 32, 114, 97, 110, 103, 101]⟩] 284], #[], []⟩
 let put (h : Array Obj) (g : Nat) (cs : Array Value) : Array Obj := h.modify g fun
  | .cells _ t frozen => .cells cs t frozen
  | o => o
 let nums (d : DataW Unit) : Array Value := match d with
  | .agg ds => (ds.map fun
   | .lit (.int k n) => Value.int k n
   | _ => .bool false).toArray
  | _ => #[]
 let h0 := put (put w0.heap 0 #[.iface 282 (.pointer (some ⟨N, 0, none⟩))]) 1 #[.iface 282 (.pointer (some ⟨N + 1, 0, none⟩))]
 let h1 := put h0 2 (nums Rows.laid_internal_strconv_uint64pow10)
 let h2 := put h1 3 (nums Rows.laid_math_bits_deBruijn32tab)
 let h3 := put h2 4 (nums Rows.laid_math_bits_deBruijn64tab)
 { w0 with heap := h3 }
noncomputable abbrev N0 : Nat := (World.settled Tryz.prog default).heap.size
theorem laid_met (os : Os) (args : Array Value) : laidMet Tryz.prog Rows.valuesHashesRow.laid ((laidWorld os).forCall (fun _ _ => 0) ⟨#[], args, []⟩).memory :=
 (LaidIn.of_run (l := Rows.valuesHashesRow.laid) [0, 1, 2, 3, 4, N0, N0 + 1] 8 (by kernel_rfl) (by kernel_rfl) (by kernel_rfl) (by kernel_rfl)).met
noncomputable abbrev wargs : Array Value := #[.slice none 0 0, .slice none 0 0, .int .i64 0, .int .i64 0]
theorem reads (os : Os) {H : Type} (enc : TypeId × Value → H) : ∃ places, DataW.whole enc Tryz.prog ((laidWorld os).forCall (fun _ _ => 0) ⟨#[], wargs, []⟩).memory Tryz.f4.params.toList Rows.valuesHashesSpec.vars false wargs.toList 8 = some ([.nil, .nil, .lit (.int .i64 0), .lit (.int .i64 0)], [], places) :=
 ⟨[], by kernel_rfl⟩
set_option maxRecDepth 100000 in
theorem lifted (os : Os) (started : os.Started) (H : Type) (enc : TypeId × Value → H) (F : Stop.Interp) :
  ReturnsInHanded {} Tryz.checked os 4 .any ((OpenSpec.ofChange Rows.valuesHashesSpec).preRow enc Tryz.prog Tryz.f4 Rows.valuesHashesRow.domain false Rows.valuesHashesRow.laid) (((OpenSpec.ofChange Rows.valuesHashesSpec).at F).post enc Tryz.prog Tryz.f4 false true false false) := by
 obtain ⟨places, hx⟩ := reads os enc
 refine returnsInHanded_of_row (C := Tryz.checked) (s := OpenSpec.ofChange Rows.valuesHashesSpec) own started (by kernel_rfl) Tryz.func4
  (witness_row_atRef (enc := enc) (C := Tryz.checked) false (laidWorld os) wargs rfl (by kernel_rfl) (by kernel_rfl) (by kernel_rfl)
   (OpenSpec.preRow_of_cond 8 hx (by kernel_rfl) (fun k hk => by cases hk) (by kernel_rfl) (laid_met os _))) ?_
 intro W base args ds gs before hval hW _ _ _ hL _ _
 exact contract H enc W base args ds gs before hval hW hL
theorem said : Rows.ValuesHashesSaid :=
 OpenClaim.holds_of_cond 4 Tryz.f4 rfl rfl rfl rfl rfl rfl rfl ⟨rfl, rfl, rfl, rfl, rfl⟩ rfl rfl rfl rfl rfl (by kernel_rfl) Tryz.func4 (by kernel_rfl)
  (of_decide_eq_true (by kernel_rfl)) (by unfold Func.isWrapper; first | (rw [if_pos (by decide +kernel)]; kernel_rfl) | (rw [if_neg (by decide +kernel)]; exact ⟨rfl, rfl⟩))
  (fun os started H enc _ F => by rw [OpenClaim.pre_eq_preRow]; exact lifted os started H enc F)
theorem plain (f : FuncId) (fn : Func) (hf : Tryz.pinned.checked.prog.funcNamed "refuter/refuterlaw10.ValuesHashes" = some f) (hfn : Tryz.pinned.checked.prog.funcs[f]? = some fn) :
  true = Tryz.pinned.checked.prog.looks [] ∧ ∀ (j : Nat) t, fn.params[j]? = some t → Tryz.pinned.checked.prog.wantsStandIn t = false := by
 obtain rfl : f = 4 := Option.some.inj ((show Tryz.prog.funcNamed "refuter/refuterlaw10.ValuesHashes" = some 4 by kernel_rfl).symm.trans hf) |>.symm
 obtain rfl : fn = Tryz.f4 := (Option.some.inj (Tryz.func4.symm.trans hfn)).symm
 refine ⟨by kernel_rfl, fun j t ht => ?_⟩
 rw [Tryz.params4] at ht
 have hTI : Tryz.prog.wantsStandIn 22 = false := by kernel_rfl
 have hTi : Tryz.prog.wantsStandIn 3 = false := by kernel_rfl
 have hm := Array.mem_of_getElem? ht
 simp at hm
 repeat' (first | (rw [(hm : t = 22)]; exact hTI) | (rw [(hm : t = 3)]; exact hTi) | rcases hm with hm | hm)
theorem card : Rows.ValuesHashesCardSaid :=
 Claim7.holds_tied_plain_at .later [] _ _ _ _ said (fun _ h => by cases h) (by kernel_rfl) (fun _ h => by cases h) valuesHashes_row_tie rfl ⟨rfl, rfl⟩ (by kernel_rfl) rfl plain (by kernel_rfl)
end Go.Proofs.YtelmpofoeinfoaaGreatDoor.ValuesHashes
