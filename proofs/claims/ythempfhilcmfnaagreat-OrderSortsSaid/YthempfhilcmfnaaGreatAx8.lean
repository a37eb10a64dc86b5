/- A part of the proof. -/
import Derived.Test.YthempfhilcmfnaaGreatAx7
import Derived.ProofKit
import Derived.OpenShut
import Derived.Carry
import Derived.ChangeSlices
import Derived.Deep.DeepHandedRow
import Derived.Deep.DeepWitnessRowRef
import Derived.Stop.LaidErr
set_option linter.unusedVariables false
namespace Go.Ax
open Go Go.RowKit
theorem mr_nil (w : World) (ρ : Nat → Loc) : MR [] (fun _ => False) ρ (fun _ => False) [] w :=
 ⟨(fun p hp => by cases hp), (fun p hp => by cases hp), (fun p hp => by cases hp), (fun p hp => by cases hp), by simp, (fun b hb => hb.elim), (fun p hp => by cases hp)⟩
theorem not_ox (ρ : Nat → Loc) (b : Nat) : ¬ OX (fun _ => False) ρ [] b := by
 rintro (h | ⟨p, hp, _⟩)
 ·exact h
 ·cases hp
def Kept (w w' : World) : Prop := Below w.heap.size w { w' with tape := w.tape }
theorem Kept.frame {W w' : World} (h : Kept W w') (may : MemPlace → Prop) : W.keptBut w' may :=
 Below.frame (w' := { w' with tape := W.tape }) h may
theorem Kept.trod {H : Type} {enc : TypeId × Value → H} {P : Program} {t : TypeId} (hl : laidOutB P = true) (hr : P.readableRec t = true) (hrow : t < P.types.size) {W W' : World} {v : Value} {d : DataW H} {ps : List MemPlace}
  (h : DataW.Trod enc P W 0 (fun _ => true) true t v d ps) (hb : Kept W W') :
  DataW.Trod enc P W' 0 (fun b => decide (b < W.heap.size)) true t v d ps := by
 have hlt : ∀ x ∈ ps, x.block < W.heap.size := by
  obtain ⟨n, hn⟩ := h
  exact DataW.trod_lt n _ _ _ hn
 exact WideElems.Trod_stays hl hr hrow h (fun x hx => Below.same (w' := { W' with tape := W.tape }) hb (hlt x hx)) (fun x hx => by simpa using hlt x hx)
theorem PureC.calls {P : Program} {F : FuncId} {args : List AV} {b : Bool} (h : PureC P [] F args (.bool b)) (w : World) (vs : List Value) (hv : VRL (fun _ => ⟨0, 0, 0⟩) (fun _ => False) (OX (fun _ => False) (fun _ => ⟨0, 0, 0⟩) []) w args vs) (hF : Nat.beq F YF = false := by rfl) :
  Calls P F vs.toArray w fun e w' => e = .returned (.bool b) ∧ Kept w w' := by
 refine ((h.run _ _ _ w vs (fun i h => h.elim) (mr_nil w _) hv).calls hF).mono ?_
 rintro e w' ⟨r, v, m, n, ρ', rfl, ⟨rfl, rfl, rfl⟩, _, _, hr, ext⟩
 cases hr
 refine ⟨rfl, ⟨ext.env.1, rfl, ext.env.2, ext.size, fun k hk => ext.keep k hk ?_⟩⟩
 rintro ⟨p, hp, _⟩
 cases hp
theorem vr_ints {w : World} {a : Addr} {len cap : Nat} {zs : List Int} (ha : a.spot = none) (hl : len ≤ cap) (hz : len ≤ zs.length) (hc : ∀ i, i < zs.length → w.cell? (a.add i) = some (.int .i64 (zs.getD i 0))) :
  VR (fun _ => ⟨0, 0, 0⟩) (fun _ => False) (OX (fun _ => False) (fun _ => ⟨0, 0, 0⟩) []) w (.il 1 (encI (zs.take len))) (.slice (some a) len cap) := by
 have hlen : (encI (zs.take len)).length = len := by simp [encI]; omega
 obtain ⟨b, off, sp⟩ := a
 simp only at ha
 subst ha
 have key := VR.il (ρ := fun _ => ⟨0, 0, 0⟩) (D := fun _ => False) (O := OX (fun _ => False) (fun _ => ⟨0, 0, 0⟩) []) (w := w) 1 (encI (zs.take len)) b off cap
  (fun i _ => .int .i64 (zs.getD i 0)) (by omega) ?_ ?_ ?_
 ·rw [hlen] at key; exact key
 ·intro i x hx
  obtain ⟨z, _, rfl⟩ := List.mem_map.1 (List.mem_of_getElem? hx)
  rfl
 ·intro i x j c hx hj
  have hi : i < len := by have := (List.getElem?_eq_some_iff.1 hx).1; omega
  obtain ⟨z, _, rfl⟩ := List.mem_map.1 (List.mem_of_getElem? hx)
  have hj0 : j = 0 := by have := (List.getElem?_eq_some_iff.1 hj).1; simpa [AV.cells] using this
  subst hj0
  refine ⟨not_ox _ _, ?_, rfl⟩
  have := hc i (by omega)
  rw [show off + (i * 1 + 0) = off + i by omega]
  rw [← this]
  unfold Addr.add
  split
  ·rename_i h0; rw [h0]; rfl
  ·rfl
 ·intro i x j c hx hj
  have hj0 : j = 0 := by
   obtain ⟨z, _, rfl⟩ := List.mem_map.1 (List.mem_of_getElem? hx)
   have := (List.getElem?_eq_some_iff.1 hj).1
   simpa [AV.cells] using this
  subst hj0
  have hi : i < len := by have := (List.getElem?_eq_some_iff.1 hx).1; omega
  simp only [encI, List.getElem?_map, List.getElem?_take, if_pos hi] at hx
  rw [List.getElem?_eq_getElem (by omega)] at hx
  simp only [Option.map_some, Option.some.injEq] at hx
  subst hx
  simp only [AV.cells, List.getElem?_cons_zero, Option.some.injEq] at hj
  subst hj
  rw [show zs.getD i 0 = zs[i] by rw [List.getD_eq_getElem?_getD, List.getElem?_eq_getElem (by omega)]; rfl]
  exact .int _ _
end Go.Ax
