/- A part of the proof. -/
import Derived.Test.YtnookkohfkjbcaaGreatDoorAx13
import Derived.Shelf.Strconv.Atoi
import Derived.Shelf.Strconv.Itoa0
import Derived.Shelf.Strconv.Itoa1
import Derived.Shelf.LaysM
import Derived.Shelf.Strconv.Itoa2
import Derived.Shelf.Strconv.Itoa3
import Derived.Shelf.Strconv.AtoiErrFast
import Derived.Shelf.Strconv.ParseIntEmpty
import Derived.Shelf.Strconv.AtoiFail
import Derived.Shelf.Strconv.Clone
import Derived.Shelf.Strconv.SyntaxError
import Derived.Shelf.LaysC
import Derived.Shelf.Strconv.ToError
import Derived.Shelf.Strconv.Lower
import Derived.Shelf.Strconv.ParseUint10
import Derived.Shelf.Strconv.ParseUint10Empty
import Derived.Shelf.Strconv.ParseUint10Any
import Derived.Shelf.Strconv.ParseInt10
import Derived.Shelf.Strconv.AtoiLong
import Derived.Shelf.Strconv.AtoiInnerAll
import Derived.Shelf.Strconv.RangeError
import Derived.Shelf.Strconv.ToErrorRange
import Derived.Shelf.Strconv.AtoiAll
import Derived.Test.YtnookkohfkjbcaaGreatDoorProg
import Derived.KernelRfl
set_option linter.unusedVariables false
namespace Go.Proofs
open Go.Shelf
def Tryz.lays129_ren : Go.Shelf.Ren := ⟨fun | 129 => 137 | n => n, fun | 53 => 134 | 3 => 3 | 4 => 4 | 46 => 161 | 5 => 5 | 9 => 9 | n => n, fun | n => n⟩
theorem Tryz.lays129 : Go.Proofs.Lays.n129 Tryz.prog Tryz.lays129_ren := {
 mixed := by kernel_rfl
 f129 := Tryz.func137.trans (congrArg some (by kernel_rfl))
 t3 := Tryz.underlying3
 a3 := Tryz.isAgg3
 z3 := Tryz.sizeOf3
 v3 := Tryz.zeroValue3
 t4 := Tryz.underlying4
 a4 := Tryz.isAgg4
 z4 := Tryz.sizeOf4
 v4 := Tryz.zeroValue4
 t5 := Tryz.underlying5
 a5 := Tryz.isAgg5
 z5 := Tryz.sizeOf5
 v5 := Tryz.zeroValue5
 t9 := Tryz.underlying9
 a9 := Tryz.isAgg9
 z9 := Tryz.sizeOf9
 v9 := Tryz.zeroValue9
 t46 := Tryz.underlying161
 a46 := Tryz.isAgg161
 z46 := Tryz.sizeOf161
 v46 := Tryz.zeroValue161
 t53 := Tryz.underlying134
 a53 := Tryz.isAgg134
 z53 := Tryz.sizeOf134
 v53 := Tryz.zeroValue134 }
theorem Tryz.bits_Len64 (x : Int) (w : World) (h0 : 0 ≤ x) (h1 : x ≤ 18446744073709551615) :
  Calls Tryz.prog 137 #[.int .u64 x] w fun e w' => e = .returned (.int .i64 (Lib.bitLen x.toNat)) ∧ w' = w := Any.bits_Len64 Tryz.lays129 x w h0 h1
def Tryz.lays317_ren : Go.Shelf.Ren := ⟨fun | 317 => 136 | n => n, fun | 3 => 3 | 46 => 161 | n => n, fun | n => n⟩
theorem Tryz.lays317 : Go.Proofs.Lays.n317 Tryz.prog Tryz.lays317_ren := {
 mixed := by kernel_rfl
 f317 := Tryz.func136.trans (congrArg some (by kernel_rfl))
 t3 := Tryz.underlying3
 a3 := Tryz.isAgg3
 z3 := Tryz.sizeOf3
 v3 := Tryz.zeroValue3
 t46 := Tryz.underlying161
 a46 := Tryz.isAgg161
 z46 := Tryz.sizeOf161
 v46 := Tryz.zeroValue161 }
open Go.Lib in
theorem Tryz.internal_strconv_log10Pow2 (x : Nat) (h : x ≤ 64) (w : World) :
  Calls Tryz.prog 136 #[.int .i64 x] w fun e w' => e = .returned (.int .i64 (Lib.l10 x)) ∧ w' = w := Any.internal_strconv_log10Pow2 Tryz.lays317 x h w
open Go.Lib in
def Tryz.lays283_ren : Go.Shelf.Ren := ⟨fun | 283 => 124 | n => n, fun | 3 => 3 | 9 => 9 | 4 => 4 | n => n, fun | n => n⟩
theorem Tryz.lays283 : Go.Proofs.Lays.n283 Tryz.prog Tryz.lays283_ren := {
 mixed := by kernel_rfl
 f283 := Tryz.func124.trans (congrArg some (by kernel_rfl))
 t3 := Tryz.underlying3
 a3 := Tryz.isAgg3
 z3 := Tryz.sizeOf3
 v3 := Tryz.zeroValue3
 t4 := Tryz.underlying4
 a4 := Tryz.isAgg4
 z4 := Tryz.sizeOf4
 v4 := Tryz.zeroValue4
 t9 := Tryz.underlying9
 a9 := Tryz.isAgg9
 z9 := Tryz.sizeOf9
 v9 := Tryz.zeroValue9 }
open Go.Lib in
theorem Tryz.internal_strconv_small (i : Nat) (h : i < 100) (w : World) :
  Calls Tryz.prog 124 #[.int .i64 i] w fun e w' => e = .returned (.string ⟨(Lib.decDigits i).toArray⟩) ∧ w' = w := Any.internal_strconv_small Tryz.lays283 i h w
def Tryz.lays285_ren : Go.Shelf.Ren := ⟨fun | 285 => 126 | n => n, fun | 37 => 88 | 53 => 134 | 3 => 3 | 4 => 4 | 51 => 177 | 9 => 9 | 5 => 5 | 0 => 0 | n => n, fun | n => n⟩
theorem Tryz.lays285 : Go.Proofs.Lays.n285 Tryz.prog Tryz.lays285_ren := {
 mixed := by kernel_rfl
 f285 := Tryz.func126.trans (congrArg some (by kernel_rfl))
 t0 := Tryz.underlying0
 a0 := Tryz.isAgg0
 z0 := Tryz.sizeOf0
 v0 := Tryz.zeroValue0
 t3 := Tryz.underlying3
 a3 := Tryz.isAgg3
 z3 := Tryz.sizeOf3
 v3 := Tryz.zeroValue3
 t4 := Tryz.underlying4
 a4 := Tryz.isAgg4
 z4 := Tryz.sizeOf4
 v4 := Tryz.zeroValue4
 t5 := Tryz.underlying5
 a5 := Tryz.isAgg5
 z5 := Tryz.sizeOf5
 v5 := Tryz.zeroValue5
 t9 := Tryz.underlying9
 a9 := Tryz.isAgg9
 z9 := Tryz.sizeOf9
 v9 := Tryz.zeroValue9
 t37 := Tryz.underlying88
 a37 := Tryz.isAgg88
 z37 := Tryz.sizeOf88
 v37 := Tryz.zeroValue88
 t51 := Tryz.underlying177
 a51 := Tryz.isAgg177
 z51 := Tryz.sizeOf177
 v51 := Tryz.zeroValue177
 t53 := Tryz.underlying134
 a53 := Tryz.isAgg134
 z53 := Tryz.sizeOf134
 v53 := Tryz.zeroValue134 }
open Go.RowKit Go.Sort Go.Lib in
theorem Tryz.internal_strconv_formatBase10 (blk off cap : Nat) (u : Nat) (d : Array UInt8) (w : World) (hH : Holds (fun (b : UInt8) => Value.int .u8 (b.toNat : Int)) w blk off d) (hu : u < 10 ^ d.size) (hu64 : u < 18446744073709551616) (hsz : d.size < 4611686018427387904) :
  Calls Tryz.prog 126 #[.slice (some ⟨blk, off, none⟩) d.size cap, .int .u64 u] w fun e w' =>
   e = .returned (.tuple #[]) ∧ ∃ (n v' : Nat) (dk : Array UInt8), w' = (putRow (fun (b : UInt8) => Value.int .u8 (b.toNat : Int)) w blk off dk).drewN n ∧ FmtInv d.size u 0 v' dk := Any.internal_strconv_formatBase10 Tryz.lays285 blk off cap u d w hH hu hu64 hsz
def Tryz.laysC172_ren : Go.Shelf.Ren := ⟨fun | 172 => 51 | 244 => 83 | 245 => 84 | 247 => 106 | 279 => 107 | 280 => 108 | 281 => 109 | 282 => 110 | 287 => 128 | 316 => 129 | 171 => 50 | 205 => 130 | 321 => 141 | 322 => 142 | 243 => 82 | 246 => 105 | 283 => 124 | 284 => 125 | 285 => 126 | 286 => 127 | 129 => 137 | 317 => 136 | 318 => 138 | 319 => 139 | 320 => 140 | 337 => 146 | 338 => 147 | n => n, fun | 9 => 9 | 3 => 3 | 75 => 96 | 76 => 97 | 4 => 4 | 5 => 5 | 167 => 151 | 37 => 88 | 0 => 0 | 85 => 152 | 2 => 2 | 168 => 154 | 53 => 134 | 175 => 167 | 46 => 161 | 210 => 171 | 127 => 181 | 145 => 184 | 143 => 182 | 21 => 21 | 171 => 162 | 173 => 165 | 212 => 176 | 51 => 177 | 20 => 20 | 213 => 178 | 232 => 189 | 233 => 190 | 80 => 191 | n => n, fun | 15 => 0 | 16 => 1 | 17 => 2 | 18 => 3 | 19 => 4 | n => n⟩
theorem Tryz.laysC172 : Go.Proofs.LaysC.n172 Tryz.prog Tryz.laysC172_ren := {
 mixed := by kernel_rfl
 f129 := Tryz.func137.trans (congrArg some (by kernel_rfl))
 f171 := Tryz.func50.trans (congrArg some (by kernel_rfl))
 f172 := Tryz.func51.trans (congrArg some (by kernel_rfl))
 f205 := Tryz.func130.trans (congrArg some (by kernel_rfl))
 f243 := Tryz.func82.trans (congrArg some (by kernel_rfl))
 f244 := Tryz.func83.trans (congrArg some (by kernel_rfl))
 f245 := Tryz.func84.trans (congrArg some (by kernel_rfl))
 f246 := Tryz.func105.trans (congrArg some (by kernel_rfl))
 f247 := Tryz.func106.trans (congrArg some (by kernel_rfl))
 f279 := Tryz.func107.trans (congrArg some (by kernel_rfl))
 f280 := Tryz.func108.trans (congrArg some (by kernel_rfl))
 f281 := Tryz.func109.trans (congrArg some (by kernel_rfl))
 f282 := Tryz.func110.trans (congrArg some (by kernel_rfl))
 f283 := Tryz.func124.trans (congrArg some (by kernel_rfl))
 f284 := Tryz.func125.trans (congrArg some (by kernel_rfl))
 f285 := Tryz.func126.trans (congrArg some (by kernel_rfl))
 f286 := Tryz.func127.trans (congrArg some (by kernel_rfl))
 f287 := Tryz.func128.trans (congrArg some (by kernel_rfl))
 f316 := Tryz.func129.trans (congrArg some (by kernel_rfl))
 f317 := Tryz.func136.trans (congrArg some (by kernel_rfl))
 f318 := Tryz.func138.trans (congrArg some (by kernel_rfl))
 f319 := Tryz.func139.trans (congrArg some (by kernel_rfl))
 f320 := Tryz.func140.trans (congrArg some (by kernel_rfl))
 f321 := Tryz.func141.trans (congrArg some (by kernel_rfl))
 f322 := Tryz.func142.trans (congrArg some (by kernel_rfl))
 f337 := Tryz.func146.trans (congrArg some (by kernel_rfl))
 f338 := Tryz.func147.trans (congrArg some (by kernel_rfl))
 t0 := Tryz.underlying0
 a0 := Tryz.isAgg0
 z0 := Tryz.sizeOf0
 v0 := Tryz.zeroValue0
 t2 := Tryz.underlying2
 a2 := Tryz.isAgg2
 z2 := Tryz.sizeOf2
 v2 := Tryz.zeroValue2
 t3 := Tryz.underlying3
 a3 := Tryz.isAgg3
 z3 := Tryz.sizeOf3
 v3 := Tryz.zeroValue3
 t4 := Tryz.underlying4
 a4 := Tryz.isAgg4
 z4 := Tryz.sizeOf4
 v4 := Tryz.zeroValue4
 t5 := Tryz.underlying5
 a5 := Tryz.isAgg5
 z5 := Tryz.sizeOf5
 v5 := Tryz.zeroValue5
 t9 := Tryz.underlying9
 a9 := Tryz.isAgg9
 z9 := Tryz.sizeOf9
 v9 := Tryz.zeroValue9
 t20 := Tryz.underlying20
 a20 := Tryz.isAgg20
 z20 := Tryz.sizeOf20
 v20 := Tryz.zeroValue20
 t21 := Tryz.underlying21
 a21 := Tryz.isAgg21
 z21 := Tryz.sizeOf21
 v21 := Tryz.zeroValue21
 t37 := Tryz.underlying88
 a37 := Tryz.isAgg88
 z37 := Tryz.sizeOf88
 v37 := Tryz.zeroValue88
 t46 := Tryz.underlying161
 a46 := Tryz.isAgg161
 z46 := Tryz.sizeOf161
 v46 := Tryz.zeroValue161
 t51 := Tryz.underlying177
 a51 := Tryz.isAgg177
 z51 := Tryz.sizeOf177
 v51 := Tryz.zeroValue177
 t53 := Tryz.underlying134
 a53 := Tryz.isAgg134
 z53 := Tryz.sizeOf134
 v53 := Tryz.zeroValue134
 t75 := Tryz.underlying96
 a75 := Tryz.isAgg96
 z75 := Tryz.sizeOf96
 v75 := Tryz.zeroValue96
 t76 := Tryz.underlying97
 a76 := Tryz.isAgg97
 z76 := Tryz.sizeOf97
 v76 := Tryz.zeroValue97
 t85 := Tryz.underlying152
 a85 := Tryz.isAgg152
 z85 := Tryz.sizeOf152
 v85 := Tryz.zeroValue152
 t127 := Tryz.underlying181
 a127 := Tryz.isAgg181
 z127 := Tryz.sizeOf181
 v127 := Tryz.zeroValue181
 t143 := Tryz.underlying182
 a143 := Tryz.isAgg182
 z143 := Tryz.sizeOf182
 v143 := Tryz.zeroValue182
 t145 := Tryz.underlying184
 a145 := Tryz.isAgg184
 z145 := Tryz.sizeOf184
 v145 := Tryz.zeroValue184
 t167 := Tryz.underlying151
 a167 := Tryz.isAgg151
 z167 := Tryz.sizeOf151
 v167 := Tryz.zeroValue151
 t168 := Tryz.underlying154
 a168 := Tryz.isAgg154
 z168 := Tryz.sizeOf154
 v168 := Tryz.zeroValue154
 t171 := Tryz.underlying162
 a171 := Tryz.isAgg162
 z171 := Tryz.sizeOf162
 v171 := Tryz.zeroValue162
 t173 := Tryz.underlying165
 a173 := Tryz.isAgg165
 z173 := Tryz.sizeOf165
 v173 := Tryz.zeroValue165
 t175 := Tryz.underlying167
 a175 := Tryz.isAgg167
 z175 := Tryz.sizeOf167
 v175 := Tryz.zeroValue167
 t210 := Tryz.underlying171
 a210 := Tryz.isAgg171
 z210 := Tryz.sizeOf171
 v210 := Tryz.zeroValue171
 t212 := Tryz.underlying176
 a212 := Tryz.isAgg176
 z212 := Tryz.sizeOf176
 v212 := Tryz.zeroValue176
 t213 := Tryz.underlying178
 a213 := Tryz.isAgg178
 z213 := Tryz.sizeOf178
 t232 := Tryz.underlying189
 a232 := Tryz.isAgg189
 z232 := Tryz.sizeOf189
 v232 := Tryz.zeroValue189
 t233 := Tryz.underlying190
 a233 := Tryz.isAgg190
 z233 := Tryz.sizeOf190
 v233 := Tryz.zeroValue190
 g15 := by kernel_rfl
 g16 := by kernel_rfl
 g17 := by kernel_rfl
 g18 := by kernel_rfl
 g19 := by kernel_rfl
 t80 := Tryz.underlying191
 a80 := Tryz.isAgg191
 z80 := Tryz.sizeOf191
 v80 := Tryz.zeroValue191
 i0 := by kernel_rfl
 i2 := by kernel_rfl
 i3 := by kernel_rfl
 i4 := by kernel_rfl
 i5 := by kernel_rfl
 i9 := by kernel_rfl
 i20 := by kernel_rfl
 i21 := by kernel_rfl
 i37 := by kernel_rfl
 i46 := by kernel_rfl
 i51 := by kernel_rfl
 i53 := by kernel_rfl
 i75 := by kernel_rfl
 i76 := by kernel_rfl
 i80 := by kernel_rfl
 i85 := by kernel_rfl
 i127 := by kernel_rfl
 i143 := by kernel_rfl
 i145 := by kernel_rfl
 i167 := by kernel_rfl
 i168 := by kernel_rfl
 i171 := by kernel_rfl
 i173 := by kernel_rfl
 i175 := by kernel_rfl
 i210 := by kernel_rfl
 i212 := by kernel_rfl
 i232 := by kernel_rfl
 i233 := by kernel_rfl
 m15 := by kernel_rfl
 m16 := by kernel_rfl
 m17 := by kernel_rfl
 m18 := by kernel_rfl
 m19 := by kernel_rfl
 c0 := by kernel_rfl
 c2 := by kernel_rfl
 c3 := by kernel_rfl
 c4 := by kernel_rfl
 c5 := by kernel_rfl
 c9 := by kernel_rfl
 c20 := by kernel_rfl
 c21 := by kernel_rfl
 c37 := by kernel_rfl
 c46 := by kernel_rfl
 c51 := by kernel_rfl
 c53 := by kernel_rfl
 c75 := by kernel_rfl
 c76 := by kernel_rfl
 c80 := by kernel_rfl
 c85 := by kernel_rfl
 c127 := by kernel_rfl
 c143 := by kernel_rfl
 c145 := by kernel_rfl
 c167 := by kernel_rfl
 c168 := by kernel_rfl
 c171 := by kernel_rfl
 c173 := by kernel_rfl
 c175 := by kernel_rfl
 c210 := by kernel_rfl
 c212 := by kernel_rfl
 c213 := by kernel_rfl
 c232 := by kernel_rfl
 c233 := by kernel_rfl }
open Go.RowKit in
theorem Tryz.strconv_Atoi_ok (s : ByteArray) (hmax : s.size ≤ 9223372036854775806) (v : Int) (h : Lib.atoiAll s.data.toList = .ok v) (w : World) :
  Calls Tryz.prog 51 #[.string s] w fun e w' => e = .returned (.tuple #[.int .i64 v, .nilIface]) ∧ (w' = w ∨ ∃ t, w' = Lib.bytesWorld w 5 t) := Any.strconv_Atoi_ok Tryz.laysC172 s hmax v h w
open Go.RowKit in
theorem Tryz.strconv_Atoi_syntax (s : ByteArray) (hlim : s.size ≤ 281474976710656) (h : Lib.atoiAll s.data.toList = (Lib.atoiAll [])) (ev : Value) (w : World) (hv : w.cell? ⟨0, 0, none⟩ = some ev) (hev : ev = .nilIface ∨ ∃ te pe, ev = .iface te pe) :
  Calls Tryz.prog 51 #[.string s] w fun e w' => ∃ N, e = .returned (.tuple #[.int .i64 (0), .iface 154 (.pointer (some ⟨N, 0, none⟩))]) ∧ w.heap.size ≤ N ∧ w'.heap[N]? = some (.cells #[.string ⟨#[65, 116, 111, 105]⟩, .string s, ev] 171 (0, 0)) ∧ Below w.heap.size w w' := Any.strconv_Atoi_syntax Tryz.laysC172 s hlim h ev w hv hev
open Go.RowKit in
theorem Tryz.strconv_Atoi_range (s : ByteArray) (hlim : s.size ≤ 281474976710656) (h : Lib.atoiAll s.data.toList = .range) (ev : Value) (w : World) (hv : w.cell? ⟨1, 0, none⟩ = some ev) (hev : ev = .nilIface ∨ ∃ te pe, ev = .iface te pe) :
  Calls Tryz.prog 51 #[.string s] w fun e w' => ∃ N, e = .returned (.tuple #[.int .i64 (Lib.atoiSat s.data.toList), .iface 154 (.pointer (some ⟨N, 0, none⟩))]) ∧ w.heap.size ≤ N ∧ w'.heap[N]? = some (.cells #[.string ⟨#[65, 116, 111, 105]⟩, .string s, ev] 171 (0, 0)) ∧ Below w.heap.size w w' := Any.strconv_Atoi_range Tryz.laysC172 s hlim h ev w hv hev
end Go.Proofs
namespace Go.Proofs.YtnookkohfkjbcaaGreatDoor
open Go Go.Ax Go.Proofs
set_option maxRecDepth 1000000
def saysTrue (r : AV) : Prop := match r with | .bool b => (match b with | true => True | false => False) | _ => False
theorem saysTrue_eq {r : AV} (h : saysTrue r) : r = .bool true := by
 unfold saysTrue at h
 split at h
 ·split at h
  ·rfl
  ·exact h.elim
 ·exact h.elim
def gz : List (Nat × AV) := [(0, .ifc 182 (.ip (.agg []))), (1, .ifc 182 (.ip (.agg []))), (2, .agg ([.int .u64 1, .int .u64 10, .int .u64 100, .int .u64 1000, .int .u64 10000, .int .u64 100000, .int .u64 1000000, .int .u64 10000000, .int .u64 100000000, .int .u64 1000000000, .int .u64 10000000000, .int .u64 100000000000, .int .u64 1000000000000, .int .u64 10000000000000, .int .u64 100000000000000, .int .u64 1000000000000000, .int .u64 10000000000000000, .int .u64 100000000000000000, .int .u64 1000000000000000000, .int .u64 10000000000000000000]))]
set_option maxRecDepth 100000
set_option maxHeartbeats 4000000
theorem nngz : ∀ p ∈ gz, NN p.2 := fun p hp => by
 simp only [gz, List.mem_cons, List.not_mem_nil, or_false] at hp
 rcases hp with rfl | rfl | rfl
 ·exact nn
 ·exact nn
 ·exact nn
theorem sLen64 (u : Nat) (h : u < 18446744073709551616) : PureC Tryz.prog [] 137 [.int .u64 u] (.int .i64 (Lib.bitLen u)) :=
 pureC_of (fun _ _ _ _ _ h => vrl_int h) fun w _ => (Tryz.bits_Len64 u w (by omega) (by omega)).mono fun e w' ⟨h1, h2⟩ => ⟨_, h1, fun _ _ _ _ => .int _ _, by rw [h2]; exact .refl w⟩
theorem sLog10 (x : Nat) (h : x ≤ 64) : PureC Tryz.prog [] 136 [.int .i64 x] (.int .i64 (Lib.l10 x)) :=
 pureC_of (fun _ _ _ _ _ h => vrl_int h) fun w _ => (Tryz.internal_strconv_log10Pow2 x h w).mono fun e w' ⟨h1, h2⟩ => ⟨_, h1, fun _ _ _ _ => .int _ _, by rw [h2]; exact .refl w⟩
theorem sSmall (i : Nat) (h : i < 100) : PureC Tryz.prog [] 124 [.int .i64 i] (.str (Lib.decDigits i)) :=
 pureC_of (fun _ _ _ _ _ h => vrl_int h) fun w _ => (Tryz.internal_strconv_small i h w).mono fun e w' ⟨h1, h2⟩ => ⟨_, h1, fun _ _ _ _ => .str _, by rw [h2]; exact .refl w⟩
theorem sBool2 (b : Bool) : PureC Tryz.prog [] 138 [.bool b] (.int .i64 (if b then 1 else 0)) := by
 cases b
 all_goals
  refine acalls_go nnΓ Tryz.func138 rfl ?_
  ((conv=>whnf);repeat(refine Xg ?_;conv=>whnf))
  exact fin_pure nn ⟨rfl, rfl, rfl⟩
theorem sFmt10 (t : TypeId) (xs : List UInt8) (u : Nat) (hu64 : u < 18446744073709551616) (hlen : 1 + Lib.nDigits u ≤ xs.length) (hxl : xs.length ≤ 1000) :
  ACalls Tryz.prog [] 126 [.sl 0 1 (Lib.nDigits u), .int .u64 u] [(0, .row t 1 (encB xs))] 1 fun r m n => r = .tup [] ∧ m = [(0, .row t 1 (encB (xs.take 1 ++ Lib.decDigits u ++ xs.drop (1 + Lib.nDigits u))))] :=
 fmt10 Tryz.internal_strconv_formatBase10 xs u hu64 hlen hxl
def tabP : List AV := [.int .u64 1, .int .u64 10, .int .u64 100, .int .u64 1000, .int .u64 10000, .int .u64 100000, .int .u64 1000000, .int .u64 10000000, .int .u64 100000000, .int .u64 1000000000, .int .u64 10000000000, .int .u64 100000000000, .int .u64 1000000000000, .int .u64 10000000000000, .int .u64 100000000000000, .int .u64 1000000000000000, .int .u64 10000000000000000, .int .u64 100000000000000000, .int .u64 1000000000000000000, .int .u64 10000000000000000000]
theorem tab_at (q : Nat) (h : q ≤ 19) : tabP[q]? = some (.int .u64 ((10 ^ q : Nat) : Int)) := by
 rcases (show q = 0 ∨ q = 1 ∨ q = 2 ∨ q = 3 ∨ q = 4 ∨ q = 5 ∨ q = 6 ∨ q = 7 ∨ q = 8 ∨ q = 9 ∨ q = 10 ∨ q = 11 ∨ q = 12 ∨ q = 13 ∨ q = 14 ∨ q = 15 ∨ q = 16 ∨ q = 17 ∨ q = 18 ∨ q = 19 by omega) with rfl | rfl | rfl | rfl | rfl | rfl | rfl | rfl | rfl | rfl | rfl | rfl | rfl | rfl | rfl | rfl | rfl | rfl | rfl | rfl <;> rfl
theorem sNumDigits (u : Nat) (h1 : 1 ≤ u) (h2 : u < 18446744073709551616) : PureC Tryz.prog gz 125 [.int .u64 u] (.int .i64 (Lib.nDigits u)) := by
 obtain ⟨e1, e2⟩ := Lib.numDigits_eq u h1 h2
 have hL := sLen64 u h2
 have hb : Lib.bitLen u ≤ 64 := Lib.bitLen_le u 64 (Nat.le_refl _) h2
 generalize Lib.bitLen u = L at *
 have hq := sLog10 L hb
 generalize Lib.l10 L = q at *
 generalize Lib.nDigits u = nd at *
 have htab := tab_at q e2
 refine acalls_go nngz Tryz.func125 rfl ?_
 ((conv=>whnf);repeat(refine Xg ?_;conv=>whnf))
 refine hL.goG ?_
 ((conv=>whnf);repeat(refine Xg ?_;conv=>whnf))
 refine hq.goG ?_
 ((conv=>whnf);repeat(refine Xg ?_;conv=>whnf))
 refine grd_mk (b := Nat.blt q 20) (Nat.ble_eq_true_of_le (by omega)) ?_
 ((conv=>whnf);repeat(refine Xg ?_;conv=>whnf))
 have htab' : tabP[((q : Int)).toNat * 1]? = some (.int .u64 ((10 ^ q : Nat) : Int)) := by simpa using htab
 clear htab
 have hpq : ∃ pq : Int, pq = ((10 ^ q : Nat) : Int) := ⟨_, rfl⟩
 obtain ⟨pq, hpq⟩ := hpq
 rw [← hpq] at htab'
 refine opt_mk htab' ?_
 ((conv=>whnf);repeat(refine Xg ?_;conv=>whnf))
 refine (sBool2 _).goG ?_
 ((conv=>whnf);repeat(refine Xg ?_;conv=>whnf))
 refine fin_pure nn ⟨?_, rfl, rfl⟩
 congr 1
 have hle : decide ((u : Int) ≥ pq) = decide (10 ^ q ≤ u) := by rw [hpq]; simp only [ge_iff_le, Int.ofNat_le]
 have hnd : nd ≤ 20 := by rw [← e1]; split <;> omega
 rw [hle, w64 (y := (nd : Int)) _ ⟨by omega, by omega⟩]
 rw [← e1]
 by_cases hc : 10 ^ q ≤ u <;> simp [hc]
theorem nDigits_le (u : Nat) (h2 : u < 18446744073709551616) : Lib.nDigits u ≤ 20 := by
 by_cases h1 : 1 ≤ u
 ·obtain ⟨e1, e2⟩ := Lib.numDigits_eq u h1 h2
  rw [← e1]
  split <;> omega
 ·rw [Lib.nDigits_small (by omega)]; omega
theorem u64_wrap (n : Int) : IntKind.u64.wrap n = n % 18446744073709551616 := by
 simp [IntKind.wrap, IntKind.bits, IntKind.signed]
theorem sFormatInt (n : Int) (hn : i64 n) : PureC Tryz.prog gz 105 [.int .i64 n, .int .i64 10] (.str (Lib.itoa n)) := by
 rcases (show (0 ≤ n ∧ n < 100) ∨ 100 ≤ n ∨ n < 0 by omega) with ⟨h0, h1⟩ | h1 | h1
 ·obtain ⟨i, rfl⟩ : ∃ i : Nat, n = i := ⟨n.toNat, by omega⟩
  have d2 : decide ((i : Int) < 100) = true := by simpa using h1
  refine acalls_go nngz Tryz.func105 rfl ?_
  ((conv=>whnf);repeat(refine Xg ?_;conv=>whnf))
  rw [d2]
  ((conv=>whnf);repeat(refine Xg ?_;conv=>whnf))
  refine (sSmall i (by omega)).goG ?_
  ((conv=>whnf);repeat(refine Xg ?_;conv=>whnf))
  refine fin_pure nn ⟨?_, rfl, rfl⟩
  rw [Lib.itoa_nonneg]
 ·obtain ⟨u, rfl⟩ : ∃ i : Nat, n = i := ⟨n.toNat, by omega⟩
  have d2 : decide ((u : Int) < 100) = false := by simp; omega
  have d3 : decide ((u : Int) < 0) = false := by simp
  unfold i64 at hn
  have hw : IntKind.u64.wrap (u : Int) = (u : Int) := by rw [u64_wrap]; omega
  have hu64 : u < 18446744073709551616 := by omega
  have hnd := nDigits_le u hu64
  have hF := (sFmt10 162 (List.replicate 24 0) u hu64 (by simp; omega) (by simp)).glob (Γ := gz)
  have hdl := Lib.decDigits_length u
  have hN := sNumDigits u (by omega) hu64
  have hdd : (Lib.decDigits u ++ List.drop (1 + Lib.nDigits u) (List.replicate 24 0)).length = 23 := by simp [hdl]; omega
  have hit := Lib.itoa_nonneg u
  generalize Lib.nDigits u = nd at hN hF hnd hdl hdd
  generalize Lib.decDigits u = ds at hF hdl hit hdd
  refine acalls_go nngz Tryz.func105 rfl ?_
  ((conv=>whnf);repeat(refine Xg ?_;conv=>whnf))
  rw [d2]
  ((conv=>whnf);repeat(refine Xg ?_;conv=>whnf))
  rw [hw]
  refine hN.use nngz nns nn ?_
  ((conv=>whnf);repeat(refine Xg ?_;conv=>whnf))
  rw [w64 (x := 1 + (nd : Int)) (y := ((1 + nd : Nat) : Int)) (by omega) ⟨by omega, by omega⟩]
  ((conv=>whnf);repeat(refine Xg ?_;conv=>whnf))
  refine grd_mk (sl_ok (by simp; omega) (by simp; omega) (by simp)) ?_
  ((conv=>whnf);repeat(refine Xg ?_;conv=>whnf))
  refine ACalls.useI nngz [0] hF (by rfl) (.cons (.slE rfl (by simp; omega)) (.cons (.same _ nn) .nil)) ⟨⟨0, _, rfl, rfl, .same (encB_nn _)⟩, trivial⟩ rfl ?_
  rintro r m n' ⟨rfl, rfl⟩
  refine ⟨nn, ⟨⟨0, _, rfl, rfl, .same (encB_nn _)⟩, trivial⟩, rfl, ?_⟩
  have hlist : List.take 1 (List.replicate 24 (0 : UInt8)) ++ ds ++ List.drop (1 + nd) (List.replicate 24 0) = 0 :: (ds ++ List.drop (1 + nd) (List.replicate 24 0)) := rfl
  rw [hlist]
  have htk : List.take nd (ds ++ List.drop (1 + nd) (List.replicate 24 0)) = ds := by rw [List.take_append_of_le_length (by omega), List.take_of_length_le (by omega)]
  generalize ds ++ List.drop (1 + nd) (List.replicate 24 0) = rest at hdd htk
  have hrl : (encB (0 :: rest)).length = 24 := by rw [encB_length]; simp [hdd]
  ((conv=>whnf);repeat(refine Xg ?_;conv=>whnf))
  refine grd_mk (by rw [Bool.and_eq_true]; exact ⟨rfl, Nat.ble_eq_true_of_le (by rw [hrl]; omega)⟩) ?_
  ((conv=>whnf);repeat(refine Xg ?_;conv=>whnf))
  rw [w64 (x := 1 + (nd : Int)) (y := ((1 + nd : Nat) : Int)) (by omega) ⟨by omega, by omega⟩]
  ((conv=>whnf);repeat(refine Xg ?_;conv=>whnf))
  refine grd_mk (sl_ok (by simp; omega) (by simp; omega) (by simp)) ?_
  ((conv=>whnf);repeat(refine Xg ?_;conv=>whnf))
  refine grd_mk (Nat.ble_eq_true_of_le (by rw [hrl]; simp; omega)) ?_
  refine opt_mk (a := ds) ?_ ?_
  ·rw [encB_drop, encB_take, toBytes_encB]
   show some (List.take ((((1 + nd : Nat) : Int)).toNat - 1) rest) = some ds
   rw [← htk]
   congr 2
   simp
   omega
  ((conv=>whnf);repeat(refine Xg ?_;conv=>whnf))
  refine fin_pure nn ⟨?_, rfl, rfl⟩
  rw [hit]
 ·obtain ⟨u, rfl⟩ : ∃ i : Nat, n = -(i : Int) := ⟨(-n).toNat, by omega⟩
  have d1 : decide (0 ≤ -(u : Int)) = false := by simp; omega
  have d3 : decide (-(u : Int) < 0) = true := by simp; omega
  unfold i64 at hn
  have hw : IntKind.u64.wrap (0 - IntKind.u64.wrap (-(u : Int))) = (u : Int) := by rw [u64_wrap, u64_wrap]; omega
  have hu64 : u < 18446744073709551616 := by omega
  have hnd := nDigits_le u hu64
  have hF := (sFmt10 162 (List.replicate 24 0) u hu64 (by simp; omega) (by simp)).glob (Γ := gz)
  have hdl := Lib.decDigits_length u
  have hN := sNumDigits u (by omega) hu64
  have hdd : (Lib.decDigits u ++ List.drop (1 + Lib.nDigits u) (List.replicate 24 0)).length = 23 := by simp [hdl]; omega
  have hit := Lib.itoa_neg u (by omega)
  generalize Lib.nDigits u = nd at hN hF hnd hdl hdd
  generalize Lib.decDigits u = ds at hF hdl hit hdd
  refine acalls_go nngz Tryz.func105 rfl ?_
  ((conv=>whnf);repeat(refine Xg ?_;conv=>whnf))
  rw [d1]
  ((conv=>whnf);repeat(refine Xg ?_;conv=>whnf))
  rw [d3]
  ((conv=>whnf);repeat(refine Xg ?_;conv=>whnf))
  rw [hw]
  refine hN.use nngz nns nn ?_
  ((conv=>whnf);repeat(refine Xg ?_;conv=>whnf))
  rw [w64 (x := 1 + (nd : Int)) (y := ((1 + nd : Nat) : Int)) (by omega) ⟨by omega, by omega⟩]
  ((conv=>whnf);repeat(refine Xg ?_;conv=>whnf))
  refine grd_mk (sl_ok (by simp; omega) (by simp; omega) (by simp)) ?_
  ((conv=>whnf);repeat(refine Xg ?_;conv=>whnf))
  refine ACalls.useI nngz [0] hF (by rfl) (.cons (.slE rfl (by simp; omega)) (.cons (.same _ nn) .nil)) ⟨⟨0, _, rfl, rfl, .same (encB_nn _)⟩, trivial⟩ rfl ?_
  rintro r m n' ⟨rfl, rfl⟩
  refine ⟨nn, ⟨⟨0, _, rfl, rfl, .same (encB_nn _)⟩, trivial⟩, rfl, ?_⟩
  have hlist : List.take 1 (List.replicate 24 (0 : UInt8)) ++ ds ++ List.drop (1 + nd) (List.replicate 24 0) = 0 :: (ds ++ List.drop (1 + nd) (List.replicate 24 0)) := rfl
  rw [hlist]
  have htk : List.take nd (ds ++ List.drop (1 + nd) (List.replicate 24 0)) = ds := by rw [List.take_append_of_le_length (by omega), List.take_of_length_le (by omega)]
  generalize ds ++ List.drop (1 + nd) (List.replicate 24 0) = rest at hdd htk
  have hrl : ∀ b, (encB (b :: rest)).length = 24 := fun b => by rw [encB_length]; simp [hdd]
  ((conv=>whnf);repeat(refine Xg ?_;conv=>whnf))
  rw [d3]
  ((conv=>whnf);repeat(refine Xg ?_;conv=>whnf))
  refine grd_mk (by rw [Bool.and_eq_true]; exact ⟨rfl, Nat.ble_eq_true_of_le (Nat.le_of_eq (hrl 45).symm)⟩) ?_
  ((conv=>whnf);repeat(refine Xg ?_;conv=>whnf))
  rw [w64 (x := 1 + (nd : Int)) (y := ((1 + nd : Nat) : Int)) (by omega) ⟨by omega, by omega⟩]
  ((conv=>whnf);repeat(refine Xg ?_;conv=>whnf))
  refine grd_mk (sl_ok (by simp) (by simp; omega) (by simp)) ?_
  ((conv=>whnf);repeat(refine Xg ?_;conv=>whnf))
  refine grd_mk (Nat.ble_eq_true_of_le (show _ ≤ (encB (45 :: rest)).length by rw [hrl]; simp; omega)) ?_
  refine opt_mk (a := 45 :: ds) (show toBytes (List.take ((((1 + nd : Nat) : Int)).toNat - 0) (List.drop (0 + 0) (encB (45 :: rest)))) = _ from ?_) ?_
  ·rw [encB_drop, encB_take, toBytes_encB]
   have e : (((1 + nd : Nat) : Int)).toNat - 0 = nd + 1 := by simp; omega
   rw [e]
   show some (45 :: List.take nd rest) = _
   rw [htk]
  ((conv=>whnf);repeat(refine Xg ?_;conv=>whnf))
  refine fin_pure nn ⟨?_, rfl, rfl⟩
  rw [hit]
theorem sItoaI (n : Int) (hn : i64 n) : PureC Tryz.prog gz 82 [.int .i64 n] (.str (Lib.itoa n)) := by
 have h := sFormatInt n hn
 generalize Lib.itoa n = r at h
 refine acalls_go nngz Tryz.func82 rfl ?_
 ((conv=>whnf);repeat(refine Xg ?_;conv=>whnf))
 refine h.use nngz nns nn ?_
 ((conv=>whnf);repeat(refine Xg ?_;conv=>whnf))
 exact fin_pure nn ⟨rfl, rfl, rfl⟩
theorem sItoa (n : Int) (hn : i64 n) : PureC Tryz.prog gz 50 [.int .i64 n] (.str (Lib.itoa n)) := by
 have h := sItoaI n hn
 generalize Lib.itoa n = r at h
 refine acalls_go nngz Tryz.func50 rfl ?_
 ((conv=>whnf);repeat(refine Xg ?_;conv=>whnf))
 refine h.use nngz nns nn ?_
 ((conv=>whnf);repeat(refine Xg ?_;conv=>whnf))
 exact fin_pure nn ⟨rfl, rfl, rfl⟩
theorem knows_err {g : Nat} {t : TypeId} {v : AV} {w : World} (h : Knows gz w) (hg : (g, AV.ifc t v) ∈ gz) : ∃ ev, w.cell? ⟨g, 0, none⟩ = some ev ∧ (ev = .nilIface ∨ ∃ te pe, ev = .iface te pe) := by
 obtain ⟨x, ρ, D, O, h1, h2⟩ := h _ hg 0 (.ifc t v) rfl
 cases h2 with
 | ifc _ _ y hy => exact ⟨_, h1, .inr ⟨_, _, rfl⟩⟩
theorem sAtoi (s : List UInt8) (hs : s.length ≤ 4294967296) :
  ∃ (n : Int) (e : AV), i64 n ∧ (e = .nif ∨ e = .ifc 154 .junk) ∧ PureC Tryz.prog gz 51 [.str s] (.tup [.int .i64 n, e]) ∧ (∀ m, Lib.atoiAll s = .ok m → n = m ∧ e = .nif) := by
 have hsz : (⟨s.toArray⟩ : ByteArray).size = s.length := by simp [ByteArray.size]
 have hd : (⟨s.toArray⟩ : ByteArray).data.toList = s := by simp
 cases h : Lib.atoiAll s with
 | ok v =>
  refine ⟨v, .nif, Lib.atoiAll_bounds h, .inl rfl, pureC_of (fun _ _ _ _ _ h => vrl_str h) fun w _ => ?_, fun m hm => ⟨by injection hm, rfl⟩⟩
  refine (Tryz.strconv_Atoi_ok ⟨s.toArray⟩ (by rw [hsz]; omega) v (by rw [hd]; exact h) w).mono ?_
  rintro e w' ⟨rfl, hw⟩
  refine ⟨_, rfl, fun _ _ _ _ => .tup _ _ rfl fun j c x h1 h2 => ?_, ?_⟩
  ·match j, h1, h2 with
   | 0, h1, h2 => simp at h1 h2; subst h1 h2; exact .int _ _
   | 1, h1, h2 => simp at h1 h2; subst h1 h2; exact .nif
   | j + 2, h1, h2 => simp at h1
  ·rcases hw with rfl | ⟨t, rfl⟩
   ·exact .refl _
   ·exact grown_bytes _ _ _
 | range =>
  refine ⟨Lib.atoiSat s, .ifc 154 .junk, Lib.atoiSat_bounds s, .inr rfl, pureC_of (fun _ _ _ _ _ h => vrl_str h) fun w hk => ?_, fun m hm => by cases hm⟩
  obtain ⟨ev, h1, h2⟩ := knows_err (g := 1) hk (.tail _ (.head _))
  have hc := Tryz.strconv_Atoi_range ⟨s.toArray⟩ (by rw [hsz]; omega) (by rw [hd]; exact h) ev w h1 h2
  rw [hd] at hc
  refine hc.mono ?_
  rintro e w' ⟨N, rfl, -, -, hb⟩
  refine ⟨_, rfl, fun _ _ _ _ => .tup _ _ rfl fun j c x h1 h2 => ?_, grown_below hb⟩
  match j, h1, h2 with
  | 0, h1, h2 => simp at h1 h2; subst h1 h2; exact .int _ _
  | 1, h1, h2 => simp at h1 h2; subst h1 h2; exact .ifc _ _ _ (.junk _)
  | j + 2, h1, h2 => simp at h1
 | _ =>
  refine ⟨0, .ifc 154 .junk, ⟨by omega, by omega⟩, .inr rfl, pureC_of (fun _ _ _ _ _ h => vrl_str h) fun w hk => ?_, fun m hm => by cases hm⟩
  obtain ⟨ev, h1, h2⟩ := knows_err (g := 0) hk (.head _)
  refine (Tryz.strconv_Atoi_syntax ⟨s.toArray⟩ (by rw [hsz]; omega) (by rw [hd]; exact h) ev w h1 h2).mono ?_
  rintro e w' ⟨N, rfl, -, -, hb⟩
  refine ⟨_, rfl, fun _ _ _ _ => .tup _ _ rfl fun j c x h1 h2 => ?_, grown_below hb⟩
  match j, h1, h2 with
  | 0, h1, h2 => simp at h1 h2; subst h1 h2; exact .int _ _
  | 1, h1, h2 => simp at h1 h2; subst h1 h2; exact .ifc _ _ _ (.junk _)
  | j + 2, h1, h2 => simp at h1
end Go.Proofs.YtnookkohfkjbcaaGreatDoor
namespace Go.Proofs.YtnookkohfkjbcaaGreatDoor
open Go Go.Ax Go.Proofs
set_option maxRecDepth 100000
set_option maxHeartbeats 4000000
def cI (n : Nat) : AB := .row 3 1 [.int .i64 n]
def cB (b : Bool) : AB := .row 4 1 [.bool b]
def cF (f : AV) : AB := .row 159 1 [f]
section
variable {mem : Mem} {σ : List (Nat × Nat)}
theorem cvFn1 {F : FuncId} {i : Nat} (h : lk σ i = some i) : CvR mem σ [.fn (.func F) [] [.ptr i 0 0]] [.fn (.func F) [] [.ptr i 0 0]] :=
 .cons (.one rfl rfl (.fn _ _ _ _ _ rfl rfl (by simp) (CvL.cons (.ptr i i 0 0 h) .nil).2)) .nil
theorem cvFn2 {F : FuncId} {i j : Nat} (h : lk σ i = some i) (h' : lk σ j = some j) : CvR mem σ [.fn (.func F) [] [.ptr i 0 0, .ptr j 0 0]] [.fn (.func F) [] [.ptr i 0 0, .ptr j 0 0]] :=
 .cons (.one rfl rfl (.fn _ _ _ _ _ rfl rfl (by simp) (CvL.cons (.ptr i i 0 0 h) (.cons (.ptr j j 0 0 h') .nil)).2)) .nil
theorem cvFn3 {F : FuncId} {i j k : Nat} (h : lk σ i = some i) (h' : lk σ j = some j) (h'' : lk σ k = some k) : CvR mem σ [.fn (.func F) [] [.ptr i 0 0, .ptr j 0 0, .ptr k 0 0]] [.fn (.func F) [] [.ptr i 0 0, .ptr j 0 0, .ptr k 0 0]] :=
 .cons (.one rfl rfl (.fn _ _ _ _ _ rfl rfl (by simp) (CvL.cons (.ptr i i 0 0 h) (.cons (.ptr j j 0 0 h') (.cons (.ptr k k 0 0 h'') .nil))).2)) .nil
end
def wMS (n : Nat) : Mem := [(0, cI n), (1, cF (.fn (.func 118) [] [.ptr 0 0 0])), (2, cF (.fn (.func 131) [] [.ptr 1 0 0, .ptr 2 0 0]))]
theorem visit1S (g : Nat → Nat → Nat) (hg : ∀ n d, g n d ≤ max (n + 1) d)
  (hsee : ∀ (v : Val) (d n : Nat), d ≤ 1099511627776 → n ≤ 4398046511104 → ACalls Tryz.prog [] 118 [encV v, .int .i64 d, .ptr 0 0 0] [(0, cI n)] 1 fun r m _ => r = .bool true ∧ m = [(0, cI (g n d))]) :
  ∀ (v : Val) (d n : Nat), d + depthV v ≤ 1099511627776 → max n (d + depthV v) + sizeV v ≤ 4398046511104 →
   ACalls Tryz.prog [] 131 [encV v, .int .i64 d, .ptr 1 0 0, .ptr 2 0 0] (wMS n) 3 fun r m _ => r = .bool true ∧ m = wMS (resV g v d n)
 | .mk vk vn vs ks, d, n, hd, hb => by
  have ih : ∀ a ∈ ks, ∀ (d n : Nat), d + depthV a ≤ 1099511627776 → max n (d + depthV a) + sizeV a ≤ 4398046511104 → ACalls Tryz.prog [] 131 [encV a, .int .i64 d, .ptr 1 0 0, .ptr 2 0 0] (wMS n) 3 fun r m _ => r = .bool true ∧ m = wMS (resV g a d n) :=
   fun a hm d n h1 h2 => visit1S g hg hsee a d n h1 h2
  simp only [depthV, sizeV] at hd hb
  have hlen := sizeL_len ks
  have hgn := hg n d
  refine acalls_go nnΓ Tryz.func131 rfl ?_
  ((conv=>whnf);repeat(refine Xg ?_;conv=>whnf))
  refine ACalls.useI nnΓ [0] (hsee (.mk vk vn vs ks) d n (by omega) (by omega)) (by rfl) (.cons (.same _ nn) (.cons (.same _ nn) (.cons (.ptr 0 0 0 0 rfl) .nil))) ⟨⟨0, _, rfl, rfl, .same nns⟩, trivial⟩ rfl ?_
  rintro r m n' ⟨rfl, rfl⟩
  refine ⟨nn, ⟨⟨0, _, rfl, rfl, .same nns⟩, trivial⟩, rfl, ?_⟩
  ((conv=>whnf);repeat(refine Xg ?_;conv=>whnf))
  refine ALoop.at nnΓ (fun k : Nat => k ≤ ks.length)
   (fun k => ⟨[(1, .int .i64 d), (3, .ptr 2 0 0), (15, .il 4 (encVs ks)), (16, .int .i64 (encVs ks).length), (17, .int .i64 k)], wMS (resL g (ks.take k) (d + 1) (g n d)), 3, 28⟩)
   (fun k => ks.length - k) 0 [(0, 0), (1, 1), (2, 2)] (by simp)
   (conv_mk _ rfl ⟨⟨0, _, rfl, rfl, .same nns⟩, ⟨1, _, rfl, rfl, cvFn1 rfl⟩, ⟨2, _, rfl, rfl, cvFn2 rfl rfl⟩, trivial⟩ ⟨⟨_, rfl, .same _ nn⟩, ⟨_, rfl, .ptr 2 2 0 0 rfl⟩, ⟨_, rfl, .same _ nn⟩, ⟨_, rfl, .same _ nn⟩, ⟨_, rfl, .same _ nn⟩, trivial⟩) ?_
  intro k hk
  have hrl := resL_le hg (ks.take k) (d + 1) (g n d)
  ((conv=>whnf);repeat(refine Xg ?_;conv=>whnf))
  refine bcs_mk (fun h => ?_) (fun h => ?_)
  ·have hlt := klt h
   obtain ⟨a, b, c, e, hm, hg', he, e1⟩ := enc_cases hlt
   have hst := sizeL_take hlt
   have hdt := depthL_take hlt
   rw [he] at hst hdt
   have hst' := sizeL_take_le ks (k + 1)
   have hdm := depthL_mem hm
   have hdk : depthL (ks.take k) ≤ depthL ks := depthL_take_le ks k
   have hrt := resL_take g hlt (d + 1) (g n d)
   rw [he] at hrt
   ((conv=>whnf);repeat(refine Xg ?_;conv=>whnf))
   refine opt_mk e1 ?_
   ((conv=>whnf);repeat(refine Xg ?_;conv=>whnf))
   rw [w64 (x := (d : Int) + 1) (y := ((d + 1 : Nat) : Int)) (by omega) ⟨by omega, by omega⟩]
   refine ACalls.useI nnΓ [0, 1, 2] (ih _ hm (d + 1) (resL g (ks.take k) (d + 1) (g n d)) (by omega) (by omega)) (by rfl) (.cons (.same _ nn) (.cons (.same _ nn) (.cons (.ptr 1 1 0 0 rfl) (.cons (.ptr 2 2 0 0 rfl) .nil))))
    ⟨⟨0, _, rfl, rfl, .same nns⟩, ⟨1, _, rfl, rfl, cvFn1 rfl⟩, ⟨2, _, rfl, rfl, cvFn2 rfl rfl⟩, trivial⟩ rfl ?_
   rintro r m n' ⟨rfl, rfl⟩
   refine ⟨nn, ⟨⟨0, _, rfl, rfl, .same nns⟩, ⟨1, _, rfl, rfl, cvFn1 rfl⟩, ⟨2, _, rfl, rfl, cvFn2 rfl rfl⟩, trivial⟩, rfl, ?_⟩
   rw [← hrt]
   ((conv=>whnf);repeat(refine Xg ?_;conv=>whnf))
   exact .mk (k + 1) [(0, 0), (1, 1), (2, 2)] (by omega)
    (conv_mk _ rfl ⟨⟨0, _, rfl, rfl, .same nns⟩, ⟨1, _, rfl, rfl, cvFn1 rfl⟩, ⟨2, _, rfl, rfl, cvFn2 rfl rfl⟩, trivial⟩ ⟨⟨_, rfl, .same _ nn⟩, ⟨_, rfl, .ptr 2 2 0 0 rfl⟩, ⟨_, rfl, .same _ nn⟩, ⟨_, rfl, .same _ nn⟩, ⟨_, rfl, .w64 (by omega) ⟨by omega, by omega⟩⟩, trivial⟩) (by omega)
  ·have hk' : k = ks.length := by have := kge h; omega
   ((conv=>whnf);repeat(refine Xg ?_;conv=>whnf))
   refine fin_mk (n' := 3) (m' := wMS (resL g (ks.take k) (d + 1) (g n d))) [(0, 0), (1, 1), (2, 2)] rfl ⟨⟨0, _, rfl, rfl, .same nns⟩, ⟨1, _, rfl, rfl, cvFn1 rfl⟩, ⟨2, _, rfl, rfl, cvFn2 rfl rfl⟩, trivial⟩ (.same _ nn) ⟨rfl, ?_⟩
   rw [hk', List.take_length, resV]
 termination_by v => SizeOf.sizeOf v
 decreasing_by simp; have := List.sizeOf_lt_of_mem hm; omega
end Go.Proofs.YtnookkohfkjbcaaGreatDoor
namespace Go.Proofs.YtnookkohfkjbcaaGreatDoor
open Go Go.Ax Go.Proofs
set_option maxRecDepth 100000
set_option maxHeartbeats 4000000
section
variable {mem : Mem} {σ : List (Nat × Nat)}
theorem cvFn1R {F : FuncId} {i i' : Nat} (h : lk σ i = some i') : CvR mem σ [.fn (.func F) [] [.ptr i 0 0]] [.fn (.func F) [] [.ptr i' 0 0]] :=
 .cons (.one rfl rfl (.fn _ _ _ _ _ rfl rfl (by simp) (CvL.cons (.ptr i i' 0 0 h) .nil).2)) .nil
theorem cvFn2R {F : FuncId} {i j i' j' : Nat} (h : lk σ i = some i') (h' : lk σ j = some j') : CvR mem σ [.fn (.func F) [] [.ptr i 0 0, .ptr j 0 0]] [.fn (.func F) [] [.ptr i' 0 0, .ptr j' 0 0]] :=
 .cons (.one rfl rfl (.fn _ _ _ _ _ rfl rfl (by simp) (CvL.cons (.ptr i i' 0 0 h) (.cons (.ptr j j' 0 0 h') .nil)).2)) .nil
theorem cvFn3R {F : FuncId} {i j k i' j' k' : Nat} (h : lk σ i = some i') (h' : lk σ j = some j') (h'' : lk σ k = some k') : CvR mem σ [.fn (.func F) [] [.ptr i 0 0, .ptr j 0 0, .ptr k 0 0]] [.fn (.func F) [] [.ptr i' 0 0, .ptr j' 0 0, .ptr k' 0 0]] :=
 .cons (.one rfl rfl (.fn _ _ _ _ _ rfl rfl (by simp) (CvL.cons (.ptr i i' 0 0 h) (.cons (.ptr j j' 0 0 h') (.cons (.ptr k k' 0 0 h'') .nil))).2)) .nil
theorem cvF1 {F : FuncId} {i i' : Nat} (h : lk σ i = some i') : Cv mem σ (.fn (.func F) [] [.ptr i 0 0]) (.fn (.func F) [] [.ptr i' 0 0]) :=
 .fn _ _ _ _ _ rfl rfl (by simp) (CvL.cons (.ptr i i' 0 0 h) .nil).2
theorem cvF3 {F : FuncId} {i j k i' j' k' : Nat} (h : lk σ i = some i') (h' : lk σ j = some j') (h'' : lk σ k = some k') : Cv mem σ (.fn (.func F) [] [.ptr i 0 0, .ptr j 0 0, .ptr k 0 0]) (.fn (.func F) [] [.ptr i' 0 0, .ptr j' 0 0, .ptr k' 0 0]) :=
 .fn _ _ _ _ _ rfl rfl (by simp) (CvL.cons (.ptr i i' 0 0 h) (.cons (.ptr j j' 0 0 h') (.cons (.ptr k k' 0 0 h'') .nil))).2
end
theorem seeS : ∀ (v : Val) (d n : Nat), d ≤ 1099511627776 → n ≤ 4398046511104 → ACalls Tryz.prog [] 118 [encV v, .int .i64 d, .ptr 0 0 0] [(0, cI n)] 1 fun r m _ => r = .bool true ∧ m = [(0, cI (n + 1))]
 | .mk vk vn vs ks, d, n, hd, hn => by
  refine acalls_go nnΓ Tryz.func118 rfl ?_
  ((conv=>whnf);repeat(refine Xg ?_;conv=>whnf))
  exact fin_mk (n' := 1) (m' := [(0, cI (n + 1))]) [(0, 0)] rfl ⟨⟨0, _, rfl, rfl, .cons (.one rfl rfl (.w64 (by omega) ⟨by omega, by omega⟩)) .nil⟩, trivial⟩ (.same _ nn) ⟨rfl, rfl⟩
theorem vVisitS : ∀ (v : Val) (n : Nat), 1 + depthV v ≤ 1099511627776 → max n (1 + depthV v) + sizeV v ≤ 4398046511104 →
   ACalls Tryz.prog [] 114 [encV v, .fn (.func 118) [] [.ptr 0 0 0]] [(0, cI n)] 1 fun r m _ => r = .tup [] ∧ m = [(0, cI (resV (fun n _ => n + 1) v 1 n))]
 | .mk vk vn vs ks, n, hd, hb => by
  have hw := visit1S (fun n _ => n + 1) (fun n d => by omega) seeS (.mk vk vn vs ks) 1 n hd hb
  generalize resV (fun n _ => n + 1) (.mk vk vn vs ks) 1 n = res at hw
  refine acalls_go nnΓ Tryz.func114 rfl ?_
  ((conv=>whnf);repeat(refine Xg ?_;conv=>whnf))
  refine ACalls.useR nnΓ [(0, 0), (2, 1), (3, 2)] hw (by rfl) (.cons (.same _ nn) (.cons (.int rfl) (.cons (.ptr 2 1 0 0 rfl) (.cons (.ptr 3 2 0 0 rfl) .nil))))
   ⟨⟨0, _, rfl, rfl, .same nns⟩, ⟨2, _, rfl, rfl, cvFn1R rfl⟩, ⟨3, _, rfl, rfl, cvFn2R rfl rfl⟩, trivial⟩ rfl ?_
  rintro r m n' ⟨rfl, rfl⟩
  refine ⟨[(0, cI res)], nn, ⟨⟨0, _, rfl, rfl, .same nns⟩, trivial⟩, rfl, ?_⟩
  ((conv=>whnf);repeat(refine Xg ?_;conv=>whnf))
  exact fin_mk (n' := 1) (m' := [(0, cI res)]) [(0, 0)] rfl ⟨⟨0, _, rfl, rfl, .same nns⟩, trivial⟩ (.same _ nn) ⟨rfl, rfl⟩
theorem vSize : ∀ v : Val, sizeV v ≤ 1048576 → PureC Tryz.prog [] 93 [encV v] (.int .i64 (sizeV v))
 | .mk vk vn vs ks, hs => by
  have hd := depth_le_size (.mk vk vn vs ks)
  have hw := vVisitS (.mk vk vn vs ks) 0 (by omega) (by omega)
  rw [show resV (fun n _ => n + 1) (.mk vk vn vs ks) 1 0 = sizeV (.mk vk vn vs ks) by rw [res_size]; omega] at hw
  generalize sizeV (.mk vk vn vs ks) = res at hw
  refine acalls_go nnΓ Tryz.func93 rfl ?_
  ((conv=>whnf);repeat(refine Xg ?_;conv=>whnf))
  refine ACalls.useR nnΓ [(1, 0)] hw (by rfl) (.cons (.same _ nn) (.cons (cvF1 rfl) .nil)) ⟨⟨1, _, rfl, rfl, .same nns⟩, trivial⟩ rfl ?_
  rintro r m n' ⟨rfl, rfl⟩
  refine ⟨[(1, cI res)], nn, ⟨⟨0, _, rfl, rfl, .same nns⟩, trivial⟩, rfl, ?_⟩
  ((conv=>whnf);repeat(refine Xg ?_;conv=>whnf))
  exact fin_pure nn ⟨rfl, rfl, rfl⟩
abbrev VS := Nat × Bool × Bool
def vC (x : VS) : Mem := [(0, cI x.1), (1, cB x.2.1), (2, cB x.2.2)]
def wV (x : VS) : Mem := [(0, cI x.1), (1, cB x.2.1), (2, cB x.2.2), (3, cF (.fn (.func 115) [] [.ptr 0 0 0, .ptr 1 0 0, .ptr 2 0 0])), (4, cF (.fn (.func 131) [] [.ptr 3 0 0, .ptr 4 0 0]))]
theorem seeV (vk vn : Int) (vs : List UInt8) (ks : List Val) (hs : vs.length ≤ 4294967296) (d : Nat) (x : VS) (hx : x.1 ≤ 4398046511104) :
  ACalls Tryz.prog [] 115 [encV (.mk vk vn vs ks), .int .i64 d, .ptr 0 0 0, .ptr 1 0 0, .ptr 2 0 0] (vC x) 3 fun r m _ => r = .bool (stValid x (.mk vk vn vs ks) d).1 ∧ m = vC (stValid x (.mk vk vn vs ks) d).2 := by
 obtain ⟨n, g, s⟩ := x
 have h1 := vFormed vk vn vs ks hs
 have h2 := vFits vk vn vs ks
 have hst : stValid (n, g, s) (.mk vk vn vs ks) d = (g && formed1 vk vn vs ks.length, (n + 1, g && formed1 vk vn vs ks.length, s && fits1 vk ks.length)) := rfl
 generalize formed1 vk vn vs ks.length = fb at h1 hst
 generalize fits1 vk ks.length = tb at h2 hst
 rw [hst]
 simp only at hx
 refine acalls_go nnΓ Tryz.func115 rfl ?_
 cases g <;> cases s
 all_goals
  ((conv=>whnf);repeat(refine Xg ?_;conv=>whnf))
  try (refine h1.go ?_; ((conv=>whnf);repeat(refine Xg ?_;conv=>whnf)))
  try (refine h2.go ?_; ((conv=>whnf);repeat(refine Xg ?_;conv=>whnf)))
  exact fin_mk (n' := 3) (m' := vC (n + 1, _, _)) [(0, 0), (1, 1), (2, 2)] rfl ⟨⟨0, _, rfl, rfl, .cons (.one rfl rfl (.w64 (by omega) ⟨by omega, by omega⟩)) .nil⟩, ⟨1, _, rfl, rfl, .same nns⟩, ⟨2, _, rfl, rfl, .same nns⟩, trivial⟩ (.same _ nn) ⟨rfl, rfl⟩
theorem visitV : ∀ (v : Val) (d : Nat) (x : VS), okV v → d + depthV v ≤ 1099511627776 → x.1 + sizeV v ≤ 4398046511104 →
   ACalls Tryz.prog [] 131 [encV v, .int .i64 d, .ptr 3 0 0, .ptr 4 0 0] (wV x) 5 fun r m _ => r = .bool (visS stValid v d x).1 ∧ m = wV (visS stValid v d x).2
 | .mk vk vn vs ks, d, x, hok, hd, hb => by
  simp only [okV] at hok
  obtain ⟨hv1, hv2, hv3, hv4, hv5⟩ := hok
  have ih : ∀ a ∈ ks, ∀ (d : Nat) (x : VS), d + depthV a ≤ 1099511627776 → x.1 + sizeV a ≤ 4398046511104 → ACalls Tryz.prog [] 131 [encV a, .int .i64 d, .ptr 3 0 0, .ptr 4 0 0] (wV x) 5 fun r m _ => r = .bool (visS stValid a d x).1 ∧ m = wV (visS stValid a d x).2 :=
   fun a hm d x h1 h2 => visitV a d x (okVs_mem hv5 a hm) h1 h2
  simp only [depthV, sizeV] at hd hb
  have hlen := sizeL_len ks
  have hsee := seeV vk vn vs ks hv3 d x (by omega)
  have hy1 : (stValid x (.mk vk vn vs ks) d).2.1 = x.1 + 1 := rfl
  generalize hst0 : stValid x (.mk vk vn vs ks) d = st at hsee hy1
  obtain ⟨b, y⟩ := st
  simp only at hy1
  refine acalls_go nnΓ Tryz.func131 rfl ?_
  ((conv=>whnf);repeat(refine Xg ?_;conv=>whnf))
  refine ACalls.useI nnΓ [0, 1, 2] hsee (by rfl) (.cons (.same _ nn) (.cons (.same _ nn) (.cons (.ptr 0 0 0 0 rfl) (.cons (.ptr 1 1 0 0 rfl) (.cons (.ptr 2 2 0 0 rfl) .nil))))) ⟨⟨0, _, rfl, rfl, .same nns⟩, ⟨1, _, rfl, rfl, .same nns⟩, ⟨2, _, rfl, rfl, .same nns⟩, trivial⟩ rfl ?_
  rintro r m n' ⟨rfl, rfl⟩
  refine ⟨nn, ⟨⟨0, _, rfl, rfl, .same nns⟩, ⟨1, _, rfl, rfl, .same nns⟩, ⟨2, _, rfl, rfl, .same nns⟩, trivial⟩, rfl, ?_⟩
  cases b with
  | false =>
   ((conv=>whnf);repeat(refine Xg ?_;conv=>whnf))
   refine fin_mk (n' := 5) (m' := wV y) [(0, 0), (1, 1), (2, 2), (3, 3), (4, 4)] rfl ⟨⟨0, _, rfl, rfl, .same nns⟩, ⟨1, _, rfl, rfl, .same nns⟩, ⟨2, _, rfl, rfl, .same nns⟩, ⟨3, _, rfl, rfl, cvFn3 rfl rfl rfl⟩, ⟨4, _, rfl, rfl, cvFn2 rfl rfl⟩, trivial⟩ (.same _ nn) ?_
   have hvis : visS stValid (.mk vk vn vs ks) d x = (false, y) := by rw [visS, hst0]
   rw [hvis]
   exact ⟨rfl, rfl⟩
  | true =>
   have hvis : visS stValid (.mk vk vn vs ks) d x = visL stValid ks (d + 1) y := by rw [visS, hst0]
   ((conv=>whnf);repeat(refine Xg ?_;conv=>whnf))
   refine ALoop.at nnΓ (fun a : Nat × VS => a.1 ≤ ks.length ∧ visL stValid (ks.take a.1) (d + 1) y = (true, a.2))
    (fun a => ⟨[(1, .int .i64 d), (3, .ptr 4 0 0), (15, .il 4 (encVs ks)), (16, .int .i64 (encVs ks).length), (17, .int .i64 a.1)], wV a.2, 5, 28⟩)
    (fun a => ks.length - a.1) (0, y) [(0, 0), (1, 1), (2, 2), (3, 3), (4, 4)] ⟨by simp, rfl⟩
    (conv_mk _ rfl ⟨⟨0, _, rfl, rfl, .same nns⟩, ⟨1, _, rfl, rfl, .same nns⟩, ⟨2, _, rfl, rfl, .same nns⟩, ⟨3, _, rfl, rfl, cvFn3 rfl rfl rfl⟩, ⟨4, _, rfl, rfl, cvFn2 rfl rfl⟩, trivial⟩ ⟨⟨_, rfl, .same _ nn⟩, ⟨_, rfl, .ptr 4 4 0 0 rfl⟩, ⟨_, rfl, .same _ nn⟩, ⟨_, rfl, .same _ nn⟩, ⟨_, rfl, .same _ nn⟩, trivial⟩) ?_
   rintro ⟨k, z⟩ ⟨hk, hz⟩
   simp only at hk hz
   have hcnt := visL_cnt (ks.take k) (d + 1) y
   rw [hz] at hcnt
   simp only at hcnt
   ((conv=>whnf);repeat(refine Xg ?_;conv=>whnf))
   refine bcs_mk (fun h => ?_) (fun h => ?_)
   ·have hlt : k < ks.length := klt h
    obtain ⟨a, b, c, e, hm, hg', he, e1⟩ := enc_cases hlt
    have hst := sizeL_take hlt
    rw [he] at hst
    have hst' := sizeL_take_le ks (k + 1)
    have hdm := depthL_mem hm
    have hnext := visL_take stValid hlt (d + 1) y z hz
    rw [he] at hnext
    have hb2 : z.1 + sizeV (.mk a b c e) ≤ 4398046511104 := by omega
    have hih := ih _ hm (d + 1) z (by omega) hb2
    generalize visS stValid (.mk a b c e) (d + 1) z = st2 at hih hnext
    obtain ⟨b2, z2⟩ := st2
    ((conv=>whnf);repeat(refine Xg ?_;conv=>whnf))
    refine opt_mk e1 ?_
    ((conv=>whnf);repeat(refine Xg ?_;conv=>whnf))
    rw [w64 (x := (d : Int) + 1) (y := ((d + 1 : Nat) : Int)) (by omega) ⟨by omega, by omega⟩]
    refine ACalls.useI nnΓ [0, 1, 2, 3, 4] hih (by rfl) (.cons (.same _ nn) (.cons (.same _ nn) (.cons (.ptr 3 3 0 0 rfl) (.cons (.ptr 4 4 0 0 rfl) .nil))))
     ⟨⟨0, _, rfl, rfl, .same nns⟩, ⟨1, _, rfl, rfl, .same nns⟩, ⟨2, _, rfl, rfl, .same nns⟩, ⟨3, _, rfl, rfl, cvFn3 rfl rfl rfl⟩, ⟨4, _, rfl, rfl, cvFn2 rfl rfl⟩, trivial⟩ rfl ?_
    rintro r m n' ⟨rfl, rfl⟩
    refine ⟨nn, ⟨⟨0, _, rfl, rfl, .same nns⟩, ⟨1, _, rfl, rfl, .same nns⟩, ⟨2, _, rfl, rfl, .same nns⟩, ⟨3, _, rfl, rfl, cvFn3 rfl rfl rfl⟩, ⟨4, _, rfl, rfl, cvFn2 rfl rfl⟩, trivial⟩, rfl, ?_⟩
    cases b2 with
    | false =>
     ((conv=>whnf);repeat(refine Xg ?_;conv=>whnf))
     refine fin_mk (n' := 5) (m' := wV z2) [(0, 0), (1, 1), (2, 2), (3, 3), (4, 4)] rfl ⟨⟨0, _, rfl, rfl, .same nns⟩, ⟨1, _, rfl, rfl, .same nns⟩, ⟨2, _, rfl, rfl, .same nns⟩, ⟨3, _, rfl, rfl, cvFn3 rfl rfl rfl⟩, ⟨4, _, rfl, rfl, cvFn2 rfl rfl⟩, trivial⟩ (.same _ nn) ?_
     have := visL_stop stValid (m := ks.drop (k + 1)) hnext
     rw [List.take_append_drop] at this
     rw [hvis, this]
     exact ⟨rfl, rfl⟩
    | true =>
     ((conv=>whnf);repeat(refine Xg ?_;conv=>whnf))
     exact .mk (k + 1, z2) [(0, 0), (1, 1), (2, 2), (3, 3), (4, 4)] ⟨by simp only; omega, hnext⟩
      (conv_mk _ rfl ⟨⟨0, _, rfl, rfl, .same nns⟩, ⟨1, _, rfl, rfl, .same nns⟩, ⟨2, _, rfl, rfl, .same nns⟩, ⟨3, _, rfl, rfl, cvFn3 rfl rfl rfl⟩, ⟨4, _, rfl, rfl, cvFn2 rfl rfl⟩, trivial⟩ ⟨⟨_, rfl, .same _ nn⟩, ⟨_, rfl, .ptr 4 4 0 0 rfl⟩, ⟨_, rfl, .same _ nn⟩, ⟨_, rfl, .same _ nn⟩, ⟨_, rfl, .w64 (by omega) ⟨by omega, by omega⟩⟩, trivial⟩) (by simp only; omega)
   ·have hk' : k = ks.length := by have := kge h; omega
    ((conv=>whnf);repeat(refine Xg ?_;conv=>whnf))
    refine fin_mk (n' := 5) (m' := wV z) [(0, 0), (1, 1), (2, 2), (3, 3), (4, 4)] rfl ⟨⟨0, _, rfl, rfl, .same nns⟩, ⟨1, _, rfl, rfl, .same nns⟩, ⟨2, _, rfl, rfl, .same nns⟩, ⟨3, _, rfl, rfl, cvFn3 rfl rfl rfl⟩, ⟨4, _, rfl, rfl, cvFn2 rfl rfl⟩, trivial⟩ (.same _ nn) ?_
    rw [hk', List.take_length] at hz
    rw [hvis, hz]
    exact ⟨rfl, rfl⟩
 termination_by v => SizeOf.sizeOf v
 decreasing_by simp; have := List.sizeOf_lt_of_mem hm; omega
theorem vVisitV : ∀ (v : Val) (x : VS), okV v → 1 + depthV v ≤ 1099511627776 → x.1 + sizeV v ≤ 4398046511104 →
   ACalls Tryz.prog [] 114 [encV v, .fn (.func 115) [] [.ptr 0 0 0, .ptr 1 0 0, .ptr 2 0 0]] (vC x) 3 fun r m _ => r = .tup [] ∧ m = vC (visS stValid v 1 x).2
 | .mk vk vn vs ks, x, hok, hd, hb => by
  have hw := visitV (.mk vk vn vs ks) 1 x hok hd hb
  generalize visS stValid (.mk vk vn vs ks) 1 x = st at hw
  obtain ⟨b, y⟩ := st
  refine acalls_go nnΓ Tryz.func114 rfl ?_
  ((conv=>whnf);repeat(refine Xg ?_;conv=>whnf))
  refine ACalls.useR nnΓ [(0, 0), (1, 1), (2, 2), (4, 3), (5, 4)] hw (by rfl) (.cons (.same _ nn) (.cons (.int rfl) (.cons (.ptr 4 3 0 0 rfl) (.cons (.ptr 5 4 0 0 rfl) .nil))))
   ⟨⟨0, _, rfl, rfl, .same nns⟩, ⟨1, _, rfl, rfl, .same nns⟩, ⟨2, _, rfl, rfl, .same nns⟩, ⟨4, _, rfl, rfl, cvFn3R rfl rfl rfl⟩, ⟨5, _, rfl, rfl, cvFn2R rfl rfl⟩, trivial⟩ rfl ?_
  rintro r m n' ⟨rfl, rfl⟩
  refine ⟨[(0, cI y.1), (1, cB y.2.1), (2, cB y.2.2)], nn, ⟨⟨0, _, rfl, rfl, .same nns⟩, ⟨1, _, rfl, rfl, .same nns⟩, ⟨2, _, rfl, rfl, .same nns⟩, trivial⟩, rfl, ?_⟩
  ((conv=>whnf);repeat(refine Xg ?_;conv=>whnf))
  exact fin_mk (n' := 3) (m' := vC y) [(0, 0), (1, 1), (2, 2)] rfl ⟨⟨0, _, rfl, rfl, .same nns⟩, ⟨1, _, rfl, rfl, .same nns⟩, ⟨2, _, rfl, rfl, .same nns⟩, trivial⟩ (.same _ nn) ⟨rfl, rfl⟩
theorem vValid : ∀ v : Val, okV v → sizeV v ≤ 1048576 → PureC Tryz.prog [] 91 [encV v] (.int .i64 (validV v))
 | .mk vk vn vs ks, hok, hs => by
  have hd := depth_le_size (.mk vk vn vs ks)
  have hw := vVisitV (.mk vk vn vs ks) (0, true, true) hok (by omega) (by simp only; omega)
  have hval := valid_vis (.mk vk vn vs ks)
  generalize validV (.mk vk vn vs ks) = res at hval
  generalize (visS stValid (.mk vk vn vs ks) 1 (0, true, true)).2 = y at hw hval
  obtain ⟨n, g, s⟩ := y
  simp only at hval
  refine acalls_go nnΓ Tryz.func91 rfl ?_
  ((conv=>whnf);repeat(refine Xg ?_;conv=>whnf))
  refine ACalls.useR nnΓ [(1, 0), (2, 1), (3, 2)] hw (by rfl) (.cons (.same _ nn) (.cons (cvF3 rfl rfl rfl) .nil)) ⟨⟨1, _, rfl, rfl, .same nns⟩, ⟨2, _, rfl, rfl, .same nns⟩, ⟨3, _, rfl, rfl, .same nns⟩, trivial⟩ rfl ?_
  rintro r m n' ⟨rfl, rfl⟩
  refine ⟨[(1, cI n), (2, cB g), (3, cB s)], nn, ⟨⟨0, _, rfl, rfl, .same nns⟩, ⟨1, _, rfl, rfl, .same nns⟩, ⟨2, _, rfl, rfl, .same nns⟩, trivial⟩, rfl, ?_⟩
  cases g with
  | false =>
   ((conv=>whnf);repeat(refine Xg ?_;conv=>whnf))
   refine fin_pure nn ⟨?_, rfl, rfl⟩
   rw [← hval]; rfl
  | true =>
   cases s with
   | false =>
    ((conv=>whnf);repeat(refine Xg ?_;conv=>whnf))
    refine fin_pure nn ⟨?_, rfl, rfl⟩
    rw [← hval]; simp
   | true =>
    ((conv=>whnf);repeat(refine Xg ?_;conv=>whnf))
    refine bcs_mk (fun h => ?_) (fun h => ?_)
    ·((conv=>whnf);repeat(refine Xg ?_;conv=>whnf))
     refine fin_pure nn ⟨?_, rfl, rfl⟩
     rw [← hval, if_neg (by simp), if_pos (by simp at h; omega)]
    ·((conv=>whnf);repeat(refine Xg ?_;conv=>whnf))
     refine fin_pure nn ⟨?_, rfl, rfl⟩
     rw [← hval, if_neg (by simp), if_neg (by simp at h; simp; omega)]
end Go.Proofs.YtnookkohfkjbcaaGreatDoor
namespace Go.Proofs.YtnookkohfkjbcaaGreatDoor
open Go Go.Ax Go.Proofs
set_option maxRecDepth 100000
set_option maxHeartbeats 4000000
theorem rDecimal (n : Int) (hn : i64 n) : PureC Tryz.prog [] 30 [.int .i64 n] (.str (Lib.itoa n)) := by
 unfold i64 at hn
 refine acalls_go nnΓ Tryz.func30 rfl ?_
 by_cases h0 : n = 0
 ·subst h0
  rw [itoa_zero]
  ((conv=>whnf);repeat(refine Xg ?_;conv=>whnf))
  exact fin_pure nn ⟨rfl, rfl, rfl⟩
 have e0 : (n == 0) = false := by simpa using h0
 ((conv=>whnf);repeat(refine Xg ?_;conv=>whnf))
 rw [e0]
 ((conv=>whnf);repeat(refine Xg ?_;conv=>whnf))
 refine ALoop.at nnΓ (fun a : Int × List UInt8 => a.1.natAbs ≤ n.natAbs ∧ (a.1 = 0 ∨ (a.1 < 0 ↔ n < 0)) ∧ Lib.decDigits n.natAbs = decRest a.1.natAbs ++ a.2)
  (fun a => ⟨[(0, .int .i64 n), (3, .str a.2), (4, .int .i64 a.1)], [], 0, 31⟩) (fun a => a.1.natAbs) (n, []) [] ⟨Nat.le_refl _, .inr Iff.rfl, by simp [decRest, h0]⟩
  (conv_pure ⟨⟨_, rfl, .same _ nn⟩, ⟨_, rfl, .same _ nn⟩, ⟨_, rfl, .same _ nn⟩, trivial⟩) ?_
 rintro ⟨k, s⟩ ⟨hk1, hk2, hk3⟩
 simp only at hk1 hk2 hk3
 have hsl : s.length ≤ 20 := by
  have h1 := nDigits_le n.natAbs (by omega)
  rw [← Lib.decDigits_length, hk3, List.length_append] at h1
  omega
 by_cases hk0 : k = 0
 ·subst hk0
  rw [show decRest (Int.natAbs 0) = [] from rfl, List.nil_append] at hk3
  ((conv=>whnf);repeat(refine Xg ?_;conv=>whnf))
  refine bcs_mk (fun h => ?_) (fun h => ?_)
  ·((conv=>whnf);repeat(refine Xg ?_;conv=>whnf))
   refine grd_mk (Nat.ble_eq_true_of_le (by simp; omega)) ?_
   ((conv=>whnf);repeat(refine Xg ?_;conv=>whnf))
   refine fin_pure nn ⟨?_, rfl, rfl⟩
   rw [Lib.itoa, if_pos (by simpa using h), hk3]
   rfl
  ·((conv=>whnf);repeat(refine Xg ?_;conv=>whnf))
   refine fin_pure nn ⟨?_, rfl, rfl⟩
   have h' : ¬ n < 0 := by simpa using h
   have e : n.toNat = n.natAbs := by omega
   rw [Lib.itoa, if_neg h', e, hk3]
 ·have e1 : (k == 0) = false := by simpa using hk0
  ((conv=>whnf);repeat(refine Xg ?_;conv=>whnf))
  rw [show ((k, s).fst != 0) = true by simpa using hk0]
  have hq := Int.mul_tdiv_add_tmod k 10
  have hkq : k.tdiv 10 = if 0 ≤ k then ((k.natAbs / 10 : Nat) : Int) else -((k.natAbs / 10 : Nat) : Int) := by
   split
   ·rw [Int.tdiv_eq_ediv_of_nonneg (by assumption)]; omega
   ·obtain ⟨q, rfl⟩ : ∃ q : Nat, k = -(q : Int) := ⟨k.natAbs, by omega⟩
    rw [Int.neg_tdiv, Int.tdiv_eq_ediv_of_nonneg (by omega)]; simp
  have hkm : (k.tmod 10).natAbs = k.natAbs % 10 := by split at hkq <;> omega
  have hkb : (k.tdiv 10).natAbs = k.natAbs / 10 := by split at hkq <;> omega
  have hstep := decRest_step (k := k.natAbs) (by omega)
  have hfin : ∀ d : Int, d = ((k.natAbs % 10 : Nat) : Int) → UInt8.ofNat (IntKind.u8.wrap (IntKind.i64.wrap (48 + d))).toNat = UInt8.ofNat (48 + k.natAbs % 10) := by
   intro d hd
   have e1 : IntKind.i64.wrap (48 + d) = 48 + d := wrap64 ⟨by omega, by omega⟩
   have e2 : IntKind.u8.wrap (48 + d) = 48 + d := IntWalk.u8_in _ ⟨by omega, by omega⟩
   rw [e1, e2, hd]
   congr 1
  have hnext : ∀ b : UInt8, b = UInt8.ofNat (48 + k.natAbs % 10) → (fun a : Int × List UInt8 => a.1.natAbs ≤ n.natAbs ∧ (a.1 = 0 ∨ (a.1 < 0 ↔ n < 0)) ∧ Lib.decDigits n.natAbs = decRest a.1.natAbs ++ a.2) (k.tdiv 10, b :: s) := by
   intro b hb
   refine ⟨by simp only; omega, ?_, ?_⟩
   ·simp only
    split at hkq <;> omega
   ·simp only
    rw [hk3, hstep, hkb, hb]
    simp
  have hb : i64 (k.tdiv 10) := by
   unfold i64
   split at hkq <;> omega
  ((conv=>whnf);repeat(refine Xg ?_;conv=>whnf))
  refine bcs_mk (fun h => ?_) (fun h => ?_)
  ·have h' : k.tmod 10 < 0 := by simpa using h
   have e1 : IntKind.i64.wrap (0 - k.tmod 10) = ((k.natAbs % 10 : Nat) : Int) := by rw [wrap64 ⟨by omega, by omega⟩]; omega
   ((conv=>whnf);repeat(refine Xg ?_;conv=>whnf))
   refine grd_mk (Nat.ble_eq_true_of_le (by simp; omega)) ?_
   ((conv=>whnf);repeat(refine Xg ?_;conv=>whnf))
   exact .mk (k.tdiv 10, _ :: s) [] (hnext _ (hfin _ e1)) (conv_pure ⟨⟨_, rfl, .same _ nn⟩, ⟨_, rfl, .same _ nn⟩, ⟨_, rfl, .int (wrap64 hb)⟩, trivial⟩) (by simp only; omega)
  ·have h' : ¬ k.tmod 10 < 0 := by simpa using h
   have e1 : k.tmod 10 = ((k.natAbs % 10 : Nat) : Int) := by omega
   ((conv=>whnf);repeat(refine Xg ?_;conv=>whnf))
   refine grd_mk (Nat.ble_eq_true_of_le (by simp; omega)) ?_
   ((conv=>whnf);repeat(refine Xg ?_;conv=>whnf))
   exact .mk (k.tdiv 10, _ :: s) [] (hnext _ (hfin _ e1)) (conv_pure ⟨⟨_, rfl, .same _ nn⟩, ⟨_, rfl, .same _ nn⟩, ⟨_, rfl, .int (wrap64 hb)⟩, trivial⟩) (by simp only; omega)
set_option maxHeartbeats 8000000
theorem dOptions (x : Nd) (hx : OptN x) : PureC Tryz.prog [] 26 [.ip (encN x)] (.int .i64 (optsN x)) := by
 have hr := hx.rng
 unfold optsN
 obtain ⟨kind, name, lo, hi, ws, ls, vals, kids, ⟨vk, vn, vs, vks⟩⟩ := x
 simp only at hr ⊢
 have e1 : IntKind.i64.wrap (hi - lo) = hi - lo := wrap64 ⟨by omega, by omega⟩
 have e2 : IntKind.i64.wrap (hi - lo + 1) = hi - lo + 1 := wrap64 ⟨by omega, by omega⟩
 refine acalls_go nnΓ Tryz.func26 rfl ?_
 ((conv=>whnf);repeat(refine Xg ?_;conv=>whnf))
 refine bcs_mk (fun h => ?_) (fun h => ?_)
 ·have h1 : kind = 1 := by simpa using h
  rw [if_pos h1]
  ((conv=>whnf);repeat(refine Xg ?_;conv=>whnf))
  repeat (refine ⟨rfl, ?_⟩; ((conv=>whnf);repeat(refine Xg ?_;conv=>whnf)))
  rw [e1, e2]
  exact fin_pure nn ⟨rfl, rfl, rfl⟩
 ·have h1 : ¬ kind = 1 := by simpa using h
  rw [if_neg h1]
  ((conv=>whnf);repeat(refine Xg ?_;conv=>whnf))
  refine bcs_mk (fun h => ?_) (fun h => ?_)
  ·have h2 : kind = 2 := by simpa using h
   rw [if_pos h2]
   ((conv=>whnf);repeat(refine Xg ?_;conv=>whnf))
   rw [encI_length]
   exact fin_pure nn ⟨rfl, rfl, rfl⟩
  ·have h2 : ¬ kind = 2 := by simpa using h
   rw [if_neg h2]
   ((conv=>whnf);repeat(refine Xg ?_;conv=>whnf))
   exact fin_pure nn ⟨rfl, rfl, rfl⟩
theorem rOptions14 (x : Nd) (hx : OptN x) (hk : x.kind = 1 ∨ x.kind = 2) : PureC Tryz.prog [] 52 [encN x] (.int .i64 (optsN x)) := by
 have hr := hx.rng
 unfold optsN
 obtain ⟨kind, name, lo, hi, ws, ls, vals, kids, ⟨vk, vn, vs, vks⟩⟩ := x
 simp only at hr hk ⊢
 have e1 : IntKind.i64.wrap (hi - lo) = hi - lo := wrap64 ⟨by omega, by omega⟩
 have e2 : IntKind.i64.wrap (hi - lo + 1) = hi - lo + 1 := wrap64 ⟨by omega, by omega⟩
 refine acalls_go nnΓ Tryz.func52 rfl ?_
 rcases hk with rfl | rfl
 ·((conv=>whnf);repeat(refine Xg ?_;conv=>whnf))
  rw [e1, e2]
  exact fin_pure nn ⟨rfl, rfl, rfl⟩
 ·((conv=>whnf);repeat(refine Xg ?_;conv=>whnf))
  rw [encI_length]
  exact fin_pure nn ⟨rfl, rfl, rfl⟩
theorem rOptions31 (x : Nd) (hx : OptN x) : PureC Tryz.prog [] 28 [encN x] (.int .i64 (optsN x)) := by
 have hO := rOptions14 x hx
 have hxn := encN_nn x
 have h0 : ¬ (x.kind = 1 ∨ x.kind = 2) → optsN x = 0 := fun h => by unfold optsN; rw [if_neg (by omega), if_neg (by omega)]
 generalize optsN x = o at hO h0 ⊢
 obtain ⟨kind, name, lo, hi, ws, ls, vals, kids, ⟨vk, vn, vs, vks⟩⟩ := x
 simp only at hO h0
 refine acalls_go nnΓ Tryz.func28 rfl ?_
 ((conv=>whnf);repeat(refine Xg ?_;conv=>whnf))
 by_cases k1 : kind = 1
 ·have hO := hO (.inl k1)
  subst k1
  ((conv=>whnf);repeat(refine Xg ?_;conv=>whnf))
  refine hO.go ?_ (.cons hxn .nil)
  ((conv=>whnf);repeat(refine Xg ?_;conv=>whnf))
  exact fin_pure nn ⟨rfl, rfl, rfl⟩
 ·have d1 : (kind == 1) = false := by simpa using k1
  rw [d1]
  ((conv=>whnf);repeat(refine Xg ?_;conv=>whnf))
  by_cases k2 : kind = 2
  ·have hO := hO (.inr k2)
   subst k2
   ((conv=>whnf);repeat(refine Xg ?_;conv=>whnf))
   refine hO.go ?_ (.cons hxn .nil)
   ((conv=>whnf);repeat(refine Xg ?_;conv=>whnf))
   exact fin_pure nn ⟨rfl, rfl, rfl⟩
  ·have d2 : (kind == 2) = false := by simpa using k2
   rw [d2]
   ((conv=>whnf);repeat(refine Xg ?_;conv=>whnf))
   rw [h0 (by omega)]
   exact fin_pure nn ⟨rfl, rfl, rfl⟩
theorem encS_cases {l : List (List UInt8)} {k : Nat} (h : k < l.length) : (encS l)[((k : Nat) : Int).toNat]? = some (.str l[k]) := by simp [encS_get, List.getElem?_eq_getElem h]
theorem sIndex (l : List (List UInt8)) (s : List UInt8) (hl : l.length ≤ 4294967296) : PureC Tryz.prog [] 49 [.il 1 (encS l), .str s] (.int .i64 (idxS l s)) := by
 refine acalls_go nnΓ Tryz.func49 rfl ?_
 ((conv=>whnf);repeat(refine Xg ?_;conv=>whnf))
 refine ALoop.at nnΓ (fun i : Nat => i ≤ l.length ∧ idxS l s = idxFrom s (l.drop i) i) (fun i => ⟨[(0, .il 1 (encS l)), (1, .str s), (7, .int .i64 l.length), (8, .int .i64 i)], [], 0, 19⟩) (fun i => l.length - i) 0 [] ⟨by simp, by simp [idxS]⟩
  (conv_pure ⟨⟨_, rfl, .same _ (.il' (encS_nn _))⟩, ⟨_, rfl, .same _ nn⟩, ⟨_, rfl, .int (by rw [encS_length])⟩, ⟨_, rfl, .same _ nn⟩, trivial⟩) ?_
 rintro i ⟨hi, hx⟩
 ((conv=>whnf);repeat(refine Xg ?_;conv=>whnf))
 refine bcs_mk (fun h => ?_) (fun h => ?_)
 ·have hil : i < l.length := by simpa using h
  have ei := encS_cases hil
  rw [List.drop_eq_getElem_cons hil, idxFrom] at hx
  generalize l[i] = t at ei hx
  ((conv=>whnf);repeat(refine Xg ?_;conv=>whnf))
  refine opt_mk ei ?_
  ((conv=>whnf);repeat(refine Xg ?_;conv=>whnf))
  refine bcs_mk (fun h2 => ?_) (fun h2 => ?_)
  ·have e : s = t := by simpa using h2
   rw [if_pos e.symm] at hx
   rw [hx]
   ((conv=>whnf);repeat(refine Xg ?_;conv=>whnf))
   exact fin_pure nn ⟨rfl, rfl, rfl⟩
  ·have e : ¬ s = t := by simpa using h2
   rw [if_neg fun h => e h.symm] at hx
   ((conv=>whnf);repeat(refine Xg ?_;conv=>whnf))
   exact .mk (i + 1) [] ⟨by omega, hx⟩ (conv_pure ⟨⟨_, rfl, .same _ (.il' (encS_nn _))⟩, ⟨_, rfl, .same _ nn⟩, ⟨_, rfl, .same _ nn⟩, ⟨_, rfl, .w64 (by omega) ⟨by omega, by omega⟩⟩, trivial⟩) (by omega)
 ·have hil : i = l.length := by simp at h; omega
  rw [hil, List.drop_length, idxFrom] at hx
  rw [hx]
  ((conv=>whnf);repeat(refine Xg ?_;conv=>whnf))
  exact fin_pure nn ⟨rfl, rfl, rfl⟩
theorem rFirst (l : List (List UInt8)) (s : List UInt8) (hl : l.length ≤ 4294967296) : PureC Tryz.prog [] 29 [.il 1 (encS l), .str s] (.int .i64 (idxS l s)) := by
 refine acalls_go nnΓ Tryz.func29 rfl ?_
 ((conv=>whnf);repeat(refine Xg ?_;conv=>whnf))
 refine ALoop.at nnΓ (fun i : Nat => i ≤ l.length ∧ idxS l s = idxFrom s (l.drop i) i) (fun i => ⟨[(0, .il 1 (encS l)), (1, .str s), (5, .int .i64 i)], [], 0, 19⟩) (fun i => l.length - i) 0 [] ⟨by simp, by simp [idxS]⟩
  (conv_pure ⟨⟨_, rfl, .same _ (.il' (encS_nn _))⟩, ⟨_, rfl, .same _ nn⟩, ⟨_, rfl, .same _ nn⟩, trivial⟩) ?_
 rintro i ⟨hi, hx⟩
 ((conv=>whnf);repeat(refine Xg ?_;conv=>whnf))
 refine bcs_mk (fun h => ?_) (fun h => ?_)
 ·have hil : i < l.length := by rw [encS_length] at h; simpa using h
  have ei := encS_cases hil
  rw [List.drop_eq_getElem_cons hil, idxFrom] at hx
  generalize l[i] = t at ei hx
  ((conv=>whnf);repeat(refine Xg ?_;conv=>whnf))
  refine opt_mk ei ?_
  ((conv=>whnf);repeat(refine Xg ?_;conv=>whnf))
  refine bcs_mk (fun h2 => ?_) (fun h2 => ?_)
  ·have e : t = s := by simpa using h2
   rw [if_pos e] at hx
   rw [hx]
   ((conv=>whnf);repeat(refine Xg ?_;conv=>whnf))
   exact fin_pure nn ⟨rfl, rfl, rfl⟩
  ·have e : ¬ t = s := by simpa using h2
   rw [if_neg e] at hx
   ((conv=>whnf);repeat(refine Xg ?_;conv=>whnf))
   exact .mk (i + 1) [] ⟨by omega, hx⟩ (conv_pure ⟨⟨_, rfl, .same _ (.il' (encS_nn _))⟩, ⟨_, rfl, .same _ nn⟩, ⟨_, rfl, .w64 (by omega) ⟨by omega, by omega⟩⟩, trivial⟩) (by omega)
 ·have hil : i = l.length := by rw [encS_length] at h; simp at h; omega
  rw [hil, List.drop_length, idxFrom] at hx
  rw [hx]
  ((conv=>whnf);repeat(refine Xg ?_;conv=>whnf))
  exact fin_pure nn ⟨rfl, rfl, rfl⟩
end Go.Proofs.YtnookkohfkjbcaaGreatDoor
namespace Go.Ax
open Go
end Go.Ax
namespace Go.Ax
open Go
theorem wrap_u64_mod (n : Int) : IntKind.u64.wrap n = n % 18446744073709551616 := by
 unfold IntKind.wrap
 have e : (2 ^ IntKind.u64.bits : Int) = 18446744073709551616 := by decide
 have s : IntKind.u64.signed = false := rfl
 simp only [e, s, Bool.false_and]
 rfl
end Go.Ax
