/- A part of the proof. -/
import Derived.Test.YtbannipihdlofaaGreatDoorAx9
import Derived.Shelf.Strings.Builder1
import Derived.Shelf.Strings.Builder2
import Derived.Shelf.Strings.BuilderF
import Derived.Shelf.Strconv.Atoi
import Derived.Shelf.Strconv.Itoa0
import Derived.Shelf.Strconv.Itoa1
import Derived.Shelf.LaysM
import Derived.Shelf.Strconv.Itoa2
import Derived.Shelf.Strconv.Itoa3
import Derived.Shelf.Strconv.AtoiErrFast
import Derived.Shelf.Strconv.ParseIntEmpty
import Derived.Shelf.Strconv.AtoiFail
import Derived.Shelf.Strconv.Clone
import Derived.Shelf.Strconv.SyntaxError
import Derived.Shelf.LaysC
import Derived.Shelf.Strconv.ToError
import Derived.Shelf.Strconv.Lower
import Derived.Shelf.Strconv.ParseUint10
import Derived.Shelf.Strconv.ParseUint10Empty
import Derived.Shelf.Strconv.ParseUint10Any
import Derived.Shelf.Strconv.ParseInt10
import Derived.Shelf.Strconv.AtoiLong
import Derived.Shelf.Strconv.AtoiInnerAll
import Derived.Shelf.Strconv.RangeError
import Derived.Shelf.Strconv.ToErrorRange
import Derived.Shelf.Strconv.AtoiAll
import Derived.Shelf.Strings.Prefix
import Derived.Shelf.Bits.Mul64
import Derived.Shelf.Strings.Repeat
import Derived.Test.YtbannipihdlofaaGreatDoorProg
import Derived.KernelRfl
set_option linter.unusedVariables false
namespace Go.Proofs
open Go.Shelf
def Tryz.lays129_ren : Go.Shelf.Ren := ⟨fun | 129 => 142 | n => n, fun | 53 => 108 | 3 => 3 | 4 => 4 | 46 => 111 | 5 => 5 | 9 => 9 | n => n, fun | n => n⟩
theorem Tryz.lays129 : Go.Proofs.Lays.n129 Tryz.prog Tryz.lays129_ren := {
 mixed := by kernel_rfl
 f129 := Tryz.func142.trans (congrArg some (by kernel_rfl))
 t3 := Tryz.underlying3
 a3 := Tryz.isAgg3
 z3 := Tryz.sizeOf3
 v3 := Tryz.zeroValue3
 t4 := Tryz.underlying4
 a4 := Tryz.isAgg4
 z4 := Tryz.sizeOf4
 v4 := Tryz.zeroValue4
 t5 := Tryz.underlying5
 a5 := Tryz.isAgg5
 z5 := Tryz.sizeOf5
 v5 := Tryz.zeroValue5
 t9 := Tryz.underlying9
 a9 := Tryz.isAgg9
 z9 := Tryz.sizeOf9
 v9 := Tryz.zeroValue9
 t46 := Tryz.underlying111
 a46 := Tryz.isAgg111
 z46 := Tryz.sizeOf111
 v46 := Tryz.zeroValue111
 t53 := Tryz.underlying108
 a53 := Tryz.isAgg108
 z53 := Tryz.sizeOf108
 v53 := Tryz.zeroValue108 }
theorem Tryz.bits_Len64 (x : Int) (w : World) (h0 : 0 ≤ x) (h1 : x ≤ 18446744073709551615) :
  Calls Tryz.prog 142 #[.int .u64 x] w fun e w' => e = .returned (.int .i64 (Lib.bitLen x.toNat)) ∧ w' = w := Any.bits_Len64 Tryz.lays129 x w h0 h1
def Tryz.lays317_ren : Go.Shelf.Ren := ⟨fun | 317 => 141 | n => n, fun | 3 => 3 | 46 => 111 | n => n, fun | n => n⟩
theorem Tryz.lays317 : Go.Proofs.Lays.n317 Tryz.prog Tryz.lays317_ren := {
 mixed := by kernel_rfl
 f317 := Tryz.func141.trans (congrArg some (by kernel_rfl))
 t3 := Tryz.underlying3
 a3 := Tryz.isAgg3
 z3 := Tryz.sizeOf3
 v3 := Tryz.zeroValue3
 t46 := Tryz.underlying111
 a46 := Tryz.isAgg111
 z46 := Tryz.sizeOf111
 v46 := Tryz.zeroValue111 }
open Go.Lib in
theorem Tryz.internal_strconv_log10Pow2 (x : Nat) (h : x ≤ 64) (w : World) :
  Calls Tryz.prog 141 #[.int .i64 x] w fun e w' => e = .returned (.int .i64 (Lib.l10 x)) ∧ w' = w := Any.internal_strconv_log10Pow2 Tryz.lays317 x h w
open Go.Lib in
def Tryz.lays283_ren : Go.Shelf.Ren := ⟨fun | 283 => 132 | n => n, fun | 3 => 3 | 9 => 9 | 4 => 4 | n => n, fun | n => n⟩
theorem Tryz.lays283 : Go.Proofs.Lays.n283 Tryz.prog Tryz.lays283_ren := {
 mixed := by kernel_rfl
 f283 := Tryz.func132.trans (congrArg some (by kernel_rfl))
 t3 := Tryz.underlying3
 a3 := Tryz.isAgg3
 z3 := Tryz.sizeOf3
 v3 := Tryz.zeroValue3
 t4 := Tryz.underlying4
 a4 := Tryz.isAgg4
 z4 := Tryz.sizeOf4
 v4 := Tryz.zeroValue4
 t9 := Tryz.underlying9
 a9 := Tryz.isAgg9
 z9 := Tryz.sizeOf9
 v9 := Tryz.zeroValue9 }
open Go.Lib in
theorem Tryz.internal_strconv_small (i : Nat) (h : i < 100) (w : World) :
  Calls Tryz.prog 132 #[.int .i64 i] w fun e w' => e = .returned (.string ⟨(Lib.decDigits i).toArray⟩) ∧ w' = w := Any.internal_strconv_small Tryz.lays283 i h w
def Tryz.lays285_ren : Go.Shelf.Ren := ⟨fun | 285 => 134 | n => n, fun | 37 => 119 | 53 => 108 | 3 => 3 | 4 => 4 | 51 => 110 | 9 => 9 | 5 => 5 | 0 => 0 | n => n, fun | n => n⟩
theorem Tryz.lays285 : Go.Proofs.Lays.n285 Tryz.prog Tryz.lays285_ren := {
 mixed := by kernel_rfl
 f285 := Tryz.func134.trans (congrArg some (by kernel_rfl))
 t0 := Tryz.underlying0
 a0 := Tryz.isAgg0
 z0 := Tryz.sizeOf0
 v0 := Tryz.zeroValue0
 t3 := Tryz.underlying3
 a3 := Tryz.isAgg3
 z3 := Tryz.sizeOf3
 v3 := Tryz.zeroValue3
 t4 := Tryz.underlying4
 a4 := Tryz.isAgg4
 z4 := Tryz.sizeOf4
 v4 := Tryz.zeroValue4
 t5 := Tryz.underlying5
 a5 := Tryz.isAgg5
 z5 := Tryz.sizeOf5
 v5 := Tryz.zeroValue5
 t9 := Tryz.underlying9
 a9 := Tryz.isAgg9
 z9 := Tryz.sizeOf9
 v9 := Tryz.zeroValue9
 t37 := Tryz.underlying119
 a37 := Tryz.isAgg119
 z37 := Tryz.sizeOf119
 v37 := Tryz.zeroValue119
 t51 := Tryz.underlying110
 a51 := Tryz.isAgg110
 z51 := Tryz.sizeOf110
 v51 := Tryz.zeroValue110
 t53 := Tryz.underlying108
 a53 := Tryz.isAgg108
 z53 := Tryz.sizeOf108
 v53 := Tryz.zeroValue108 }
open Go.RowKit Go.Sort Go.Lib in
theorem Tryz.internal_strconv_formatBase10 (blk off cap : Nat) (u : Nat) (d : Array UInt8) (w : World) (hH : Holds (fun (b : UInt8) => Value.int .u8 (b.toNat : Int)) w blk off d) (hu : u < 10 ^ d.size) (hu64 : u < 18446744073709551616) (hsz : d.size < 4611686018427387904) :
  Calls Tryz.prog 134 #[.slice (some ⟨blk, off, none⟩) d.size cap, .int .u64 u] w fun e w' =>
   e = .returned (.tuple #[]) ∧ ∃ (n v' : Nat) (dk : Array UInt8), w' = (putRow (fun (b : UInt8) => Value.int .u8 (b.toNat : Int)) w blk off dk).drewN n ∧ FmtInv d.size u 0 v' dk := Any.internal_strconv_formatBase10 Tryz.lays285 blk off cap u d w hH hu hu64 hsz
open Go.RowKit in
def Tryz.laysC172_ren : Go.Shelf.Ren := ⟨fun | 172 => 84 | 244 => 105 | 245 => 106 | 247 => 124 | 279 => 125 | 280 => 126 | 281 => 127 | 282 => 128 | 287 => 138 | 316 => 139 | 171 => 70 | 205 => 140 | 321 => 146 | 322 => 147 | 243 => 94 | 246 => 115 | 283 => 132 | 284 => 133 | 285 => 134 | 286 => 135 | 129 => 142 | 317 => 141 | 318 => 143 | 319 => 144 | 320 => 145 | 337 => 148 | 338 => 149 | n => n, fun | 9 => 9 | 3 => 3 | 75 => 123 | 76 => 125 | 4 => 4 | 5 => 5 | 167 => 168 | 37 => 119 | 0 => 0 | 85 => 169 | 2 => 2 | 168 => 171 | 53 => 108 | 175 => 180 | 46 => 111 | 210 => 184 | 127 => 148 | 145 => 194 | 143 => 192 | 21 => 21 | 171 => 174 | 173 => 177 | 212 => 187 | 51 => 110 | 20 => 20 | 213 => 188 | 232 => 195 | 233 => 196 | 80 => 48 | n => n, fun | 15 => 0 | 16 => 1 | 17 => 2 | 18 => 4 | 19 => 5 | n => n⟩
theorem Tryz.laysC172 : Go.Proofs.LaysC.n172 Tryz.prog Tryz.laysC172_ren := {
 mixed := by kernel_rfl
 f129 := Tryz.func142.trans (congrArg some (by kernel_rfl))
 f171 := Tryz.func70.trans (congrArg some (by kernel_rfl))
 f172 := Tryz.func84.trans (congrArg some (by kernel_rfl))
 f205 := Tryz.func140.trans (congrArg some (by kernel_rfl))
 f243 := Tryz.func94.trans (congrArg some (by kernel_rfl))
 f244 := Tryz.func105.trans (congrArg some (by kernel_rfl))
 f245 := Tryz.func106.trans (congrArg some (by kernel_rfl))
 f246 := Tryz.func115.trans (congrArg some (by kernel_rfl))
 f247 := Tryz.func124.trans (congrArg some (by kernel_rfl))
 f279 := Tryz.func125.trans (congrArg some (by kernel_rfl))
 f280 := Tryz.func126.trans (congrArg some (by kernel_rfl))
 f281 := Tryz.func127.trans (congrArg some (by kernel_rfl))
 f282 := Tryz.func128.trans (congrArg some (by kernel_rfl))
 f283 := Tryz.func132.trans (congrArg some (by kernel_rfl))
 f284 := Tryz.func133.trans (congrArg some (by kernel_rfl))
 f285 := Tryz.func134.trans (congrArg some (by kernel_rfl))
 f286 := Tryz.func135.trans (congrArg some (by kernel_rfl))
 f287 := Tryz.func138.trans (congrArg some (by kernel_rfl))
 f316 := Tryz.func139.trans (congrArg some (by kernel_rfl))
 f317 := Tryz.func141.trans (congrArg some (by kernel_rfl))
 f318 := Tryz.func143.trans (congrArg some (by kernel_rfl))
 f319 := Tryz.func144.trans (congrArg some (by kernel_rfl))
 f320 := Tryz.func145.trans (congrArg some (by kernel_rfl))
 f321 := Tryz.func146.trans (congrArg some (by kernel_rfl))
 f322 := Tryz.func147.trans (congrArg some (by kernel_rfl))
 f337 := Tryz.func148.trans (congrArg some (by kernel_rfl))
 f338 := Tryz.func149.trans (congrArg some (by kernel_rfl))
 t0 := Tryz.underlying0
 a0 := Tryz.isAgg0
 z0 := Tryz.sizeOf0
 v0 := Tryz.zeroValue0
 t2 := Tryz.underlying2
 a2 := Tryz.isAgg2
 z2 := Tryz.sizeOf2
 v2 := Tryz.zeroValue2
 t3 := Tryz.underlying3
 a3 := Tryz.isAgg3
 z3 := Tryz.sizeOf3
 v3 := Tryz.zeroValue3
 t4 := Tryz.underlying4
 a4 := Tryz.isAgg4
 z4 := Tryz.sizeOf4
 v4 := Tryz.zeroValue4
 t5 := Tryz.underlying5
 a5 := Tryz.isAgg5
 z5 := Tryz.sizeOf5
 v5 := Tryz.zeroValue5
 t9 := Tryz.underlying9
 a9 := Tryz.isAgg9
 z9 := Tryz.sizeOf9
 v9 := Tryz.zeroValue9
 t20 := Tryz.underlying20
 a20 := Tryz.isAgg20
 z20 := Tryz.sizeOf20
 v20 := Tryz.zeroValue20
 t21 := Tryz.underlying21
 a21 := Tryz.isAgg21
 z21 := Tryz.sizeOf21
 v21 := Tryz.zeroValue21
 t37 := Tryz.underlying119
 a37 := Tryz.isAgg119
 z37 := Tryz.sizeOf119
 v37 := Tryz.zeroValue119
 t46 := Tryz.underlying111
 a46 := Tryz.isAgg111
 z46 := Tryz.sizeOf111
 v46 := Tryz.zeroValue111
 t51 := Tryz.underlying110
 a51 := Tryz.isAgg110
 z51 := Tryz.sizeOf110
 v51 := Tryz.zeroValue110
 t53 := Tryz.underlying108
 a53 := Tryz.isAgg108
 z53 := Tryz.sizeOf108
 v53 := Tryz.zeroValue108
 t75 := Tryz.underlying123
 a75 := Tryz.isAgg123
 z75 := Tryz.sizeOf123
 v75 := Tryz.zeroValue123
 t76 := Tryz.underlying125
 a76 := Tryz.isAgg125
 z76 := Tryz.sizeOf125
 v76 := Tryz.zeroValue125
 t85 := Tryz.underlying169
 a85 := Tryz.isAgg169
 z85 := Tryz.sizeOf169
 v85 := Tryz.zeroValue169
 t127 := Tryz.underlying148
 a127 := Tryz.isAgg148
 z127 := Tryz.sizeOf148
 v127 := Tryz.zeroValue148
 t143 := Tryz.underlying192
 a143 := Tryz.isAgg192
 z143 := Tryz.sizeOf192
 v143 := Tryz.zeroValue192
 t145 := Tryz.underlying194
 a145 := Tryz.isAgg194
 z145 := Tryz.sizeOf194
 v145 := Tryz.zeroValue194
 t167 := Tryz.underlying168
 a167 := Tryz.isAgg168
 z167 := Tryz.sizeOf168
 v167 := Tryz.zeroValue168
 t168 := Tryz.underlying171
 a168 := Tryz.isAgg171
 z168 := Tryz.sizeOf171
 v168 := Tryz.zeroValue171
 t171 := Tryz.underlying174
 a171 := Tryz.isAgg174
 z171 := Tryz.sizeOf174
 v171 := Tryz.zeroValue174
 t173 := Tryz.underlying177
 a173 := Tryz.isAgg177
 z173 := Tryz.sizeOf177
 v173 := Tryz.zeroValue177
 t175 := Tryz.underlying180
 a175 := Tryz.isAgg180
 z175 := Tryz.sizeOf180
 v175 := Tryz.zeroValue180
 t210 := Tryz.underlying184
 a210 := Tryz.isAgg184
 z210 := Tryz.sizeOf184
 v210 := Tryz.zeroValue184
 t212 := Tryz.underlying187
 a212 := Tryz.isAgg187
 z212 := Tryz.sizeOf187
 v212 := Tryz.zeroValue187
 t213 := Tryz.underlying188
 a213 := Tryz.isAgg188
 z213 := Tryz.sizeOf188
 t232 := Tryz.underlying195
 a232 := Tryz.isAgg195
 z232 := Tryz.sizeOf195
 v232 := Tryz.zeroValue195
 t233 := Tryz.underlying196
 a233 := Tryz.isAgg196
 z233 := Tryz.sizeOf196
 v233 := Tryz.zeroValue196
 g15 := by kernel_rfl
 g16 := by kernel_rfl
 g17 := by kernel_rfl
 g18 := by kernel_rfl
 g19 := by kernel_rfl
 t80 := Tryz.underlying48
 a80 := Tryz.isAgg48
 z80 := Tryz.sizeOf48
 v80 := Tryz.zeroValue48
 i0 := by kernel_rfl
 i2 := by kernel_rfl
 i3 := by kernel_rfl
 i4 := by kernel_rfl
 i5 := by kernel_rfl
 i9 := by kernel_rfl
 i20 := by kernel_rfl
 i21 := by kernel_rfl
 i37 := by kernel_rfl
 i46 := by kernel_rfl
 i51 := by kernel_rfl
 i53 := by kernel_rfl
 i75 := by kernel_rfl
 i76 := by kernel_rfl
 i80 := by kernel_rfl
 i85 := by kernel_rfl
 i127 := by kernel_rfl
 i143 := by kernel_rfl
 i145 := by kernel_rfl
 i167 := by kernel_rfl
 i168 := by kernel_rfl
 i171 := by kernel_rfl
 i173 := by kernel_rfl
 i175 := by kernel_rfl
 i210 := by kernel_rfl
 i212 := by kernel_rfl
 i232 := by kernel_rfl
 i233 := by kernel_rfl
 m15 := by kernel_rfl
 m16 := by kernel_rfl
 m17 := by kernel_rfl
 m18 := by kernel_rfl
 m19 := by kernel_rfl
 c0 := by kernel_rfl
 c2 := by kernel_rfl
 c3 := by kernel_rfl
 c4 := by kernel_rfl
 c5 := by kernel_rfl
 c9 := by kernel_rfl
 c20 := by kernel_rfl
 c21 := by kernel_rfl
 c37 := by kernel_rfl
 c46 := by kernel_rfl
 c51 := by kernel_rfl
 c53 := by kernel_rfl
 c75 := by kernel_rfl
 c76 := by kernel_rfl
 c80 := by kernel_rfl
 c85 := by kernel_rfl
 c127 := by kernel_rfl
 c143 := by kernel_rfl
 c145 := by kernel_rfl
 c167 := by kernel_rfl
 c168 := by kernel_rfl
 c171 := by kernel_rfl
 c173 := by kernel_rfl
 c175 := by kernel_rfl
 c210 := by kernel_rfl
 c212 := by kernel_rfl
 c213 := by kernel_rfl
 c232 := by kernel_rfl
 c233 := by kernel_rfl }
open Go.RowKit in
theorem Tryz.strconv_Atoi_ok (s : ByteArray) (hmax : s.size ≤ 9223372036854775806) (v : Int) (h : Lib.atoiAll s.data.toList = .ok v) (w : World) :
  Calls Tryz.prog 84 #[.string s] w fun e w' => e = .returned (.tuple #[.int .i64 v, .nilIface]) ∧ (w' = w ∨ ∃ t, w' = Lib.bytesWorld w 5 t) := Any.strconv_Atoi_ok Tryz.laysC172 s hmax v h w
open Go.RowKit in
theorem Tryz.strconv_Atoi_syntax (s : ByteArray) (hlim : s.size ≤ 281474976710656) (h : Lib.atoiAll s.data.toList = (Lib.atoiAll [])) (ev : Value) (w : World) (hv : w.cell? ⟨0, 0, none⟩ = some ev) (hev : ev = .nilIface ∨ ∃ te pe, ev = .iface te pe) :
  Calls Tryz.prog 84 #[.string s] w fun e w' => ∃ N, e = .returned (.tuple #[.int .i64 (0), .iface 171 (.pointer (some ⟨N, 0, none⟩))]) ∧ w.heap.size ≤ N ∧ w'.heap[N]? = some (.cells #[.string ⟨#[65, 116, 111, 105]⟩, .string s, ev] 184 (0, 0)) ∧ Below w.heap.size w w' := Any.strconv_Atoi_syntax Tryz.laysC172 s hlim h ev w hv hev
open Go.RowKit in
theorem Tryz.strconv_Atoi_range (s : ByteArray) (hlim : s.size ≤ 281474976710656) (h : Lib.atoiAll s.data.toList = .range) (ev : Value) (w : World) (hv : w.cell? ⟨1, 0, none⟩ = some ev) (hev : ev = .nilIface ∨ ∃ te pe, ev = .iface te pe) :
  Calls Tryz.prog 84 #[.string s] w fun e w' => ∃ N, e = .returned (.tuple #[.int .i64 (Lib.atoiSat s.data.toList), .iface 171 (.pointer (some ⟨N, 0, none⟩))]) ∧ w.heap.size ≤ N ∧ w'.heap[N]? = some (.cells #[.string ⟨#[65, 116, 111, 105]⟩, .string s, ev] 184 (0, 0)) ∧ Below w.heap.size w w' := Any.strconv_Atoi_range Tryz.laysC172 s hlim h ev w hv hev
end Go.Proofs
namespace Go.Proofs.YtbannipihdlofaaGreatDoor
open Go Go.Ax Go.Proofs
set_option maxRecDepth 1000000
def gz : List (Nat × AV) := [(0, .ifc 192 (.ip (.agg []))), (1, .ifc 192 (.ip (.agg []))), (2, .agg ([.int .u64 1, .int .u64 10, .int .u64 100, .int .u64 1000, .int .u64 10000, .int .u64 100000, .int .u64 1000000, .int .u64 10000000, .int .u64 100000000, .int .u64 1000000000, .int .u64 10000000000, .int .u64 100000000000, .int .u64 1000000000000, .int .u64 10000000000000, .int .u64 100000000000000, .int .u64 1000000000000000, .int .u64 10000000000000000, .int .u64 100000000000000000, .int .u64 1000000000000000000, .int .u64 10000000000000000000]))]
set_option maxRecDepth 100000
set_option maxHeartbeats 4000000
theorem nngz : ∀ p ∈ gz, NN p.2 := fun p hp => by
 simp only [gz, List.mem_cons, List.not_mem_nil, or_false] at hp
 rcases hp with rfl | rfl | rfl
 ·exact nn
 ·exact nn
 ·exact nn
theorem sLen64 (u : Nat) (h : u < 18446744073709551616) : PureC Tryz.prog [] 142 [.int .u64 u] (.int .i64 (Lib.bitLen u)) :=
 pureC_of (fun _ _ _ _ _ h => vrl_int h) fun w _ => (Tryz.bits_Len64 u w (by omega) (by omega)).mono fun e w' ⟨h1, h2⟩ => ⟨_, h1, fun _ _ _ _ => .int _ _, by rw [h2]; exact .refl w⟩
theorem sLog10 (x : Nat) (h : x ≤ 64) : PureC Tryz.prog [] 141 [.int .i64 x] (.int .i64 (Lib.l10 x)) :=
 pureC_of (fun _ _ _ _ _ h => vrl_int h) fun w _ => (Tryz.internal_strconv_log10Pow2 x h w).mono fun e w' ⟨h1, h2⟩ => ⟨_, h1, fun _ _ _ _ => .int _ _, by rw [h2]; exact .refl w⟩
theorem sSmall (i : Nat) (h : i < 100) : PureC Tryz.prog [] 132 [.int .i64 i] (.str (Lib.decDigits i)) :=
 pureC_of (fun _ _ _ _ _ h => vrl_int h) fun w _ => (Tryz.internal_strconv_small i h w).mono fun e w' ⟨h1, h2⟩ => ⟨_, h1, fun _ _ _ _ => .str _, by rw [h2]; exact .refl w⟩
theorem sBool2 (b : Bool) : PureC Tryz.prog [] 143 [.bool b] (.int .i64 (if b then 1 else 0)) := by
 cases b
 all_goals
  refine acalls_go nnΓ Tryz.func143 rfl ?_
  ((conv=>whnf);repeat(refine Xg ?_;conv=>whnf))
  exact fin_pure nn ⟨rfl, rfl, rfl⟩
theorem sFmt10 (t : TypeId) (xs : List UInt8) (u : Nat) (hu64 : u < 18446744073709551616) (hlen : 1 + Lib.nDigits u ≤ xs.length) (hxl : xs.length ≤ 1000) :
  ACalls Tryz.prog [] 134 [.sl 0 1 (Lib.nDigits u), .int .u64 u] [(0, .row t 1 (encB xs))] 1 fun r m n => r = .tup [] ∧ m = [(0, .row t 1 (encB (xs.take 1 ++ Lib.decDigits u ++ xs.drop (1 + Lib.nDigits u))))] :=
 fmt10 Tryz.internal_strconv_formatBase10 xs u hu64 hlen hxl
def tabP : List AV := [.int .u64 1, .int .u64 10, .int .u64 100, .int .u64 1000, .int .u64 10000, .int .u64 100000, .int .u64 1000000, .int .u64 10000000, .int .u64 100000000, .int .u64 1000000000, .int .u64 10000000000, .int .u64 100000000000, .int .u64 1000000000000, .int .u64 10000000000000, .int .u64 100000000000000, .int .u64 1000000000000000, .int .u64 10000000000000000, .int .u64 100000000000000000, .int .u64 1000000000000000000, .int .u64 10000000000000000000]
theorem tab_at (q : Nat) (h : q ≤ 19) : tabP[q]? = some (.int .u64 ((10 ^ q : Nat) : Int)) := by
 rcases (show q = 0 ∨ q = 1 ∨ q = 2 ∨ q = 3 ∨ q = 4 ∨ q = 5 ∨ q = 6 ∨ q = 7 ∨ q = 8 ∨ q = 9 ∨ q = 10 ∨ q = 11 ∨ q = 12 ∨ q = 13 ∨ q = 14 ∨ q = 15 ∨ q = 16 ∨ q = 17 ∨ q = 18 ∨ q = 19 by omega) with rfl | rfl | rfl | rfl | rfl | rfl | rfl | rfl | rfl | rfl | rfl | rfl | rfl | rfl | rfl | rfl | rfl | rfl | rfl | rfl <;> rfl
theorem sNumDigits (u : Nat) (h1 : 1 ≤ u) (h2 : u < 18446744073709551616) : PureC Tryz.prog gz 133 [.int .u64 u] (.int .i64 (Lib.nDigits u)) := by
 obtain ⟨e1, e2⟩ := Lib.numDigits_eq u h1 h2
 have hL := sLen64 u h2
 have hb : Lib.bitLen u ≤ 64 := Lib.bitLen_le u 64 (Nat.le_refl _) h2
 generalize Lib.bitLen u = L at *
 have hq := sLog10 L hb
 generalize Lib.l10 L = q at *
 generalize Lib.nDigits u = nd at *
 have htab := tab_at q e2
 refine acalls_go nngz Tryz.func133 rfl ?_
 ((conv=>whnf);repeat(refine Xg ?_;conv=>whnf))
 refine hL.goG ?_
 ((conv=>whnf);repeat(refine Xg ?_;conv=>whnf))
 refine hq.goG ?_
 ((conv=>whnf);repeat(refine Xg ?_;conv=>whnf))
 refine grd_mk (b := Nat.blt q 20) (Nat.ble_eq_true_of_le (by omega)) ?_
 ((conv=>whnf);repeat(refine Xg ?_;conv=>whnf))
 have htab' : tabP[((q : Int)).toNat * 1]? = some (.int .u64 ((10 ^ q : Nat) : Int)) := by simpa using htab
 clear htab
 have hpq : ∃ pq : Int, pq = ((10 ^ q : Nat) : Int) := ⟨_, rfl⟩
 obtain ⟨pq, hpq⟩ := hpq
 rw [← hpq] at htab'
 refine opt_mk htab' ?_
 ((conv=>whnf);repeat(refine Xg ?_;conv=>whnf))
 refine (sBool2 _).goG ?_
 ((conv=>whnf);repeat(refine Xg ?_;conv=>whnf))
 refine fin_pure nn ⟨?_, rfl, rfl⟩
 congr 1
 have hle : decide ((u : Int) ≥ pq) = decide (10 ^ q ≤ u) := by rw [hpq]; simp only [ge_iff_le, Int.ofNat_le]
 have hnd : nd ≤ 20 := by rw [← e1]; split <;> omega
 rw [hle, w64 (y := (nd : Int)) _ ⟨by omega, by omega⟩]
 rw [← e1]
 by_cases hc : 10 ^ q ≤ u <;> simp [hc]
theorem nDigits_le (u : Nat) (h2 : u < 18446744073709551616) : Lib.nDigits u ≤ 20 := by
 by_cases h1 : 1 ≤ u
 ·obtain ⟨e1, e2⟩ := Lib.numDigits_eq u h1 h2
  rw [← e1]
  split <;> omega
 ·rw [Lib.nDigits_small (by omega)]; omega
theorem u64_wrap (n : Int) : IntKind.u64.wrap n = n % 18446744073709551616 := by
 simp [IntKind.wrap, IntKind.bits, IntKind.signed]
theorem sFormatInt (n : Int) (hn : i64 n) : PureC Tryz.prog gz 115 [.int .i64 n, .int .i64 10] (.str (Lib.itoa n)) := by
 rcases (show (0 ≤ n ∧ n < 100) ∨ 100 ≤ n ∨ n < 0 by omega) with ⟨h0, h1⟩ | h1 | h1
 ·obtain ⟨i, rfl⟩ : ∃ i : Nat, n = i := ⟨n.toNat, by omega⟩
  have d2 : decide ((i : Int) < 100) = true := by simpa using h1
  refine acalls_go nngz Tryz.func115 rfl ?_
  ((conv=>whnf);repeat(refine Xg ?_;conv=>whnf))
  rw [d2]
  ((conv=>whnf);repeat(refine Xg ?_;conv=>whnf))
  refine (sSmall i (by omega)).goG ?_
  ((conv=>whnf);repeat(refine Xg ?_;conv=>whnf))
  refine fin_pure nn ⟨?_, rfl, rfl⟩
  rw [Lib.itoa_nonneg]
 ·obtain ⟨u, rfl⟩ : ∃ i : Nat, n = i := ⟨n.toNat, by omega⟩
  have d2 : decide ((u : Int) < 100) = false := by simp; omega
  have d3 : decide ((u : Int) < 0) = false := by simp
  unfold i64 at hn
  have hw : IntKind.u64.wrap (u : Int) = (u : Int) := by rw [u64_wrap]; omega
  have hu64 : u < 18446744073709551616 := by omega
  have hnd := nDigits_le u hu64
  have hF := (sFmt10 174 (List.replicate 24 0) u hu64 (by simp; omega) (by simp)).glob (Γ := gz)
  have hdl := Lib.decDigits_length u
  have hN := sNumDigits u (by omega) hu64
  have hdd : (Lib.decDigits u ++ List.drop (1 + Lib.nDigits u) (List.replicate 24 0)).length = 23 := by simp [hdl]; omega
  have hit := Lib.itoa_nonneg u
  generalize Lib.nDigits u = nd at hN hF hnd hdl hdd
  generalize Lib.decDigits u = ds at hF hdl hit hdd
  refine acalls_go nngz Tryz.func115 rfl ?_
  ((conv=>whnf);repeat(refine Xg ?_;conv=>whnf))
  rw [d2]
  ((conv=>whnf);repeat(refine Xg ?_;conv=>whnf))
  rw [hw]
  refine hN.use nngz nns nn ?_
  ((conv=>whnf);repeat(refine Xg ?_;conv=>whnf))
  rw [w64 (x := 1 + (nd : Int)) (y := ((1 + nd : Nat) : Int)) (by omega) ⟨by omega, by omega⟩]
  ((conv=>whnf);repeat(refine Xg ?_;conv=>whnf))
  refine grd_mk (sl_ok (by simp; omega) (by simp; omega) (by simp)) ?_
  ((conv=>whnf);repeat(refine Xg ?_;conv=>whnf))
  refine ACalls.useI nngz [0] hF (by rfl) (.cons (.slE rfl (by simp; omega)) (.cons (.same _ nn) .nil)) ⟨⟨0, _, rfl, rfl, .same (encB_nn _)⟩, trivial⟩ rfl ?_
  rintro r m n' ⟨rfl, rfl⟩
  refine ⟨nn, ⟨⟨0, _, rfl, rfl, .same (encB_nn _)⟩, trivial⟩, rfl, ?_⟩
  have hlist : List.take 1 (List.replicate 24 (0 : UInt8)) ++ ds ++ List.drop (1 + nd) (List.replicate 24 0) = 0 :: (ds ++ List.drop (1 + nd) (List.replicate 24 0)) := rfl
  rw [hlist]
  have htk : List.take nd (ds ++ List.drop (1 + nd) (List.replicate 24 0)) = ds := by rw [List.take_append_of_le_length (by omega), List.take_of_length_le (by omega)]
  generalize ds ++ List.drop (1 + nd) (List.replicate 24 0) = rest at hdd htk
  have hrl : (encB (0 :: rest)).length = 24 := by rw [encB_length]; simp [hdd]
  ((conv=>whnf);repeat(refine Xg ?_;conv=>whnf))
  refine grd_mk (by rw [Bool.and_eq_true]; exact ⟨rfl, Nat.ble_eq_true_of_le (by rw [hrl]; omega)⟩) ?_
  ((conv=>whnf);repeat(refine Xg ?_;conv=>whnf))
  rw [w64 (x := 1 + (nd : Int)) (y := ((1 + nd : Nat) : Int)) (by omega) ⟨by omega, by omega⟩]
  ((conv=>whnf);repeat(refine Xg ?_;conv=>whnf))
  refine grd_mk (sl_ok (by simp; omega) (by simp; omega) (by simp)) ?_
  ((conv=>whnf);repeat(refine Xg ?_;conv=>whnf))
  refine grd_mk (Nat.ble_eq_true_of_le (by rw [hrl]; simp; omega)) ?_
  refine opt_mk (a := ds) ?_ ?_
  ·rw [encB_drop, encB_take, toBytes_encB]
   show some (List.take ((((1 + nd : Nat) : Int)).toNat - 1) rest) = some ds
   rw [← htk]
   congr 2
   simp
   omega
  ((conv=>whnf);repeat(refine Xg ?_;conv=>whnf))
  refine fin_pure nn ⟨?_, rfl, rfl⟩
  rw [hit]
 ·obtain ⟨u, rfl⟩ : ∃ i : Nat, n = -(i : Int) := ⟨(-n).toNat, by omega⟩
  have d1 : decide (0 ≤ -(u : Int)) = false := by simp; omega
  have d3 : decide (-(u : Int) < 0) = true := by simp; omega
  unfold i64 at hn
  have hw : IntKind.u64.wrap (0 - IntKind.u64.wrap (-(u : Int))) = (u : Int) := by rw [u64_wrap, u64_wrap]; omega
  have hu64 : u < 18446744073709551616 := by omega
  have hnd := nDigits_le u hu64
  have hF := (sFmt10 174 (List.replicate 24 0) u hu64 (by simp; omega) (by simp)).glob (Γ := gz)
  have hdl := Lib.decDigits_length u
  have hN := sNumDigits u (by omega) hu64
  have hdd : (Lib.decDigits u ++ List.drop (1 + Lib.nDigits u) (List.replicate 24 0)).length = 23 := by simp [hdl]; omega
  have hit := Lib.itoa_neg u (by omega)
  generalize Lib.nDigits u = nd at hN hF hnd hdl hdd
  generalize Lib.decDigits u = ds at hF hdl hit hdd
  refine acalls_go nngz Tryz.func115 rfl ?_
  ((conv=>whnf);repeat(refine Xg ?_;conv=>whnf))
  rw [d1]
  ((conv=>whnf);repeat(refine Xg ?_;conv=>whnf))
  rw [d3]
  ((conv=>whnf);repeat(refine Xg ?_;conv=>whnf))
  rw [hw]
  refine hN.use nngz nns nn ?_
  ((conv=>whnf);repeat(refine Xg ?_;conv=>whnf))
  rw [w64 (x := 1 + (nd : Int)) (y := ((1 + nd : Nat) : Int)) (by omega) ⟨by omega, by omega⟩]
  ((conv=>whnf);repeat(refine Xg ?_;conv=>whnf))
  refine grd_mk (sl_ok (by simp; omega) (by simp; omega) (by simp)) ?_
  ((conv=>whnf);repeat(refine Xg ?_;conv=>whnf))
  refine ACalls.useI nngz [0] hF (by rfl) (.cons (.slE rfl (by simp; omega)) (.cons (.same _ nn) .nil)) ⟨⟨0, _, rfl, rfl, .same (encB_nn _)⟩, trivial⟩ rfl ?_
  rintro r m n' ⟨rfl, rfl⟩
  refine ⟨nn, ⟨⟨0, _, rfl, rfl, .same (encB_nn _)⟩, trivial⟩, rfl, ?_⟩
  have hlist : List.take 1 (List.replicate 24 (0 : UInt8)) ++ ds ++ List.drop (1 + nd) (List.replicate 24 0) = 0 :: (ds ++ List.drop (1 + nd) (List.replicate 24 0)) := rfl
  rw [hlist]
  have htk : List.take nd (ds ++ List.drop (1 + nd) (List.replicate 24 0)) = ds := by rw [List.take_append_of_le_length (by omega), List.take_of_length_le (by omega)]
  generalize ds ++ List.drop (1 + nd) (List.replicate 24 0) = rest at hdd htk
  have hrl : ∀ b, (encB (b :: rest)).length = 24 := fun b => by rw [encB_length]; simp [hdd]
  ((conv=>whnf);repeat(refine Xg ?_;conv=>whnf))
  rw [d3]
  ((conv=>whnf);repeat(refine Xg ?_;conv=>whnf))
  refine grd_mk (by rw [Bool.and_eq_true]; exact ⟨rfl, Nat.ble_eq_true_of_le (Nat.le_of_eq (hrl 45).symm)⟩) ?_
  ((conv=>whnf);repeat(refine Xg ?_;conv=>whnf))
  rw [w64 (x := 1 + (nd : Int)) (y := ((1 + nd : Nat) : Int)) (by omega) ⟨by omega, by omega⟩]
  ((conv=>whnf);repeat(refine Xg ?_;conv=>whnf))
  refine grd_mk (sl_ok (by simp) (by simp; omega) (by simp)) ?_
  ((conv=>whnf);repeat(refine Xg ?_;conv=>whnf))
  refine grd_mk (Nat.ble_eq_true_of_le (show _ ≤ (encB (45 :: rest)).length by rw [hrl]; simp; omega)) ?_
  refine opt_mk (a := 45 :: ds) (show toBytes (List.take ((((1 + nd : Nat) : Int)).toNat - 0) (List.drop (0 + 0) (encB (45 :: rest)))) = _ from ?_) ?_
  ·rw [encB_drop, encB_take, toBytes_encB]
   have e : (((1 + nd : Nat) : Int)).toNat - 0 = nd + 1 := by simp; omega
   rw [e]
   show some (45 :: List.take nd rest) = _
   rw [htk]
  ((conv=>whnf);repeat(refine Xg ?_;conv=>whnf))
  refine fin_pure nn ⟨?_, rfl, rfl⟩
  rw [hit]
theorem sItoaI (n : Int) (hn : i64 n) : PureC Tryz.prog gz 94 [.int .i64 n] (.str (Lib.itoa n)) := by
 have h := sFormatInt n hn
 generalize Lib.itoa n = r at h
 refine acalls_go nngz Tryz.func94 rfl ?_
 ((conv=>whnf);repeat(refine Xg ?_;conv=>whnf))
 refine h.use nngz nns nn ?_
 ((conv=>whnf);repeat(refine Xg ?_;conv=>whnf))
 exact fin_pure nn ⟨rfl, rfl, rfl⟩
theorem sItoa (n : Int) (hn : i64 n) : PureC Tryz.prog gz 70 [.int .i64 n] (.str (Lib.itoa n)) := by
 have h := sItoaI n hn
 generalize Lib.itoa n = r at h
 refine acalls_go nngz Tryz.func70 rfl ?_
 ((conv=>whnf);repeat(refine Xg ?_;conv=>whnf))
 refine h.use nngz nns nn ?_
 ((conv=>whnf);repeat(refine Xg ?_;conv=>whnf))
 exact fin_pure nn ⟨rfl, rfl, rfl⟩
theorem knows_err {g : Nat} {t : TypeId} {v : AV} {w : World} (h : Knows gz w) (hg : (g, AV.ifc t v) ∈ gz) : ∃ ev, w.cell? ⟨g, 0, none⟩ = some ev ∧ (ev = .nilIface ∨ ∃ te pe, ev = .iface te pe) := by
 obtain ⟨x, ρ, D, O, h1, h2⟩ := h _ hg 0 (.ifc t v) rfl
 cases h2 with
 | ifc _ _ y hy => exact ⟨_, h1, .inr ⟨_, _, rfl⟩⟩
theorem sAtoi (s : List UInt8) (hs : s.length ≤ 4294967296) :
  ∃ (n : Int) (e : AV), i64 n ∧ (e = .nif ∨ e = .ifc 171 .junk) ∧ PureC Tryz.prog gz 84 [.str s] (.tup [.int .i64 n, e]) ∧ (∀ m, Lib.atoiAll s = .ok m → n = m ∧ e = .nif) := by
 have hsz : (⟨s.toArray⟩ : ByteArray).size = s.length := by simp [ByteArray.size]
 have hd : (⟨s.toArray⟩ : ByteArray).data.toList = s := by simp
 cases h : Lib.atoiAll s with
 | ok v =>
  refine ⟨v, .nif, Lib.atoiAll_bounds h, .inl rfl, pureC_of (fun _ _ _ _ _ h => vrl_str h) fun w _ => ?_, fun m hm => ⟨by injection hm, rfl⟩⟩
  refine (Tryz.strconv_Atoi_ok ⟨s.toArray⟩ (by rw [hsz]; omega) v (by rw [hd]; exact h) w).mono ?_
  rintro e w' ⟨rfl, hw⟩
  refine ⟨_, rfl, fun _ _ _ _ => .tup _ _ rfl fun j c x h1 h2 => ?_, ?_⟩
  ·match j, h1, h2 with
   | 0, h1, h2 => simp at h1 h2; subst h1 h2; exact .int _ _
   | 1, h1, h2 => simp at h1 h2; subst h1 h2; exact .nif
   | j + 2, h1, h2 => simp at h1
  ·rcases hw with rfl | ⟨t, rfl⟩
   ·exact .refl _
   ·exact grown_bytes _ _ _
 | range =>
  refine ⟨Lib.atoiSat s, .ifc 171 .junk, Lib.atoiSat_bounds s, .inr rfl, pureC_of (fun _ _ _ _ _ h => vrl_str h) fun w hk => ?_, fun m hm => by cases hm⟩
  obtain ⟨ev, h1, h2⟩ := knows_err (g := 1) hk (.tail _ (.head _))
  have hc := Tryz.strconv_Atoi_range ⟨s.toArray⟩ (by rw [hsz]; omega) (by rw [hd]; exact h) ev w h1 h2
  rw [hd] at hc
  refine hc.mono ?_
  rintro e w' ⟨N, rfl, -, -, hb⟩
  refine ⟨_, rfl, fun _ _ _ _ => .tup _ _ rfl fun j c x h1 h2 => ?_, grown_below hb⟩
  match j, h1, h2 with
  | 0, h1, h2 => simp at h1 h2; subst h1 h2; exact .int _ _
  | 1, h1, h2 => simp at h1 h2; subst h1 h2; exact .ifc _ _ _ (.junk _)
  | j + 2, h1, h2 => simp at h1
 | _ =>
  refine ⟨0, .ifc 171 .junk, ⟨by omega, by omega⟩, .inr rfl, pureC_of (fun _ _ _ _ _ h => vrl_str h) fun w hk => ?_, fun m hm => by cases hm⟩
  obtain ⟨ev, h1, h2⟩ := knows_err (g := 0) hk (.head _)
  refine (Tryz.strconv_Atoi_syntax ⟨s.toArray⟩ (by rw [hsz]; omega) (by rw [hd]; exact h) ev w h1 h2).mono ?_
  rintro e w' ⟨N, rfl, -, -, hb⟩
  refine ⟨_, rfl, fun _ _ _ _ => .tup _ _ rfl fun j c x h1 h2 => ?_, grown_below hb⟩
  match j, h1, h2 with
  | 0, h1, h2 => simp at h1 h2; subst h1 h2; exact .int _ _
  | 1, h1, h2 => simp at h1 h2; subst h1 h2; exact .ifc _ _ _ (.junk _)
  | j + 2, h1, h2 => simp at h1
end Go.Proofs.YtbannipihdlofaaGreatDoor
namespace Go.Ax
open Go
def dg (B n : Nat) : List Nat := if h : n = 0 ∨ B < 2 then [] else n % B :: dg B (n / B)
termination_by n
decreasing_by
 have := not_or.1 h
 exact Nat.div_lt_self (by omega) (by omega)
def vl (B : Nat) : List Nat → Nat
 | [] => 0
 | d :: r => d + B * vl B r
def trimZ : List Nat → List Nat
 | [] => []
 | d :: r => if d = 0 ∧ trimZ r = [] then [] else d :: trimZ r
theorem dg_zero (B : Nat) : dg B 0 = [] := by rw [dg]; simp
theorem dg_pos {B n : Nat} (hB : 2 ≤ B) (hn : 0 < n) : dg B n = n % B :: dg B (n / B) := by
 rw [dg, dif_neg (by omega)]
theorem vl_dg {B : Nat} (hB : 2 ≤ B) (n : Nat) : vl B (dg B n) = n := by
 induction n using Nat.strongRecOn with
 | ind n ih =>
  rcases Nat.eq_zero_or_pos n with rfl | hn
  ·rw [dg_zero]; rfl
  ·rw [dg_pos hB hn, vl, ih _ (Nat.div_lt_self hn (by omega))]
   exact Nat.mod_add_div n B
theorem dg_lt {B : Nat} (hB : 2 ≤ B) (n : Nat) : ∀ d ∈ dg B n, d < B := by
 induction n using Nat.strongRecOn with
 | ind n ih =>
  rcases Nat.eq_zero_or_pos n with rfl | hn
  ·rw [dg_zero]; simp
  ·rw [dg_pos hB hn]
   intro d hd
   rcases List.mem_cons.1 hd with rfl | hd
   ·exact Nat.mod_lt _ (by omega)
   ·exact ih _ (Nat.div_lt_self hn (by omega)) d hd
theorem dg_nil {B n : Nat} (hB : 2 ≤ B) : dg B n = [] ↔ n = 0 := by
 constructor
 ·intro h
  rcases Nat.eq_zero_or_pos n with e | hn
  ·exact e
  ·rw [dg_pos hB hn] at h; cases h
 ·rintro rfl; exact dg_zero B
theorem dg_cons {B d m : Nat} (hB : 2 ≤ B) (hd : d < B) (h : 0 < d + B * m) : dg B (d + B * m) = d :: dg B m := by
 rw [dg_pos hB h, Nat.add_mul_mod_self_left, Nat.mod_eq_of_lt hd, Nat.add_mul_div_left _ _ (by omega), Nat.div_eq_of_lt hd, Nat.zero_add]
theorem trimZ_dg {B : Nat} (hB : 2 ≤ B) : ∀ l : List Nat, (∀ d ∈ l, d < B) → trimZ l = dg B (vl B l)
 | [], _ => by rw [vl, dg_zero]; rfl
 | d :: r, h => by
  have ih := trimZ_dg hB r fun x hx => h x (by simp [hx])
  have hd := h d (by simp)
  rw [trimZ, vl, ih]
  by_cases e : d = 0 ∧ dg B (vl B r) = []
  ·rw [if_pos e, e.1, (dg_nil hB).1 e.2]
   simp [dg_zero]
  ·rw [if_neg e, dg_cons hB hd]
   rcases Nat.eq_zero_or_pos d with h0 | h0
   ·have hv : vl B r ≠ 0 := fun hv => e ⟨h0, by rw [hv, dg_zero]⟩
    have := Nat.mul_pos (show 0 < B by omega) (Nat.pos_of_ne_zero hv)
    omega
   ·omega
theorem vl_lt {B : Nat} (hB : 2 ≤ B) : ∀ l : List Nat, (∀ d ∈ l, d < B) → vl B l < B ^ l.length
 | [], _ => by simp [vl]
 | d :: r, h => by
  have ih := vl_lt hB r fun x hx => h x (by simp [hx])
  have hd := h d (by simp)
  rw [vl, List.length_cons, Nat.pow_succ, Nat.mul_comm _ B]
  have : B * (vl B r + 1) ≤ B * B ^ r.length := Nat.mul_le_mul_left _ ih
  rw [Nat.mul_add] at this
  omega
theorem vl_append (B : Nat) : ∀ l m : List Nat, vl B (l ++ m) = vl B l + B ^ l.length * vl B m
 | [], m => by simp [vl]
 | d :: r, m => by
  rw [List.cons_append, vl, vl_append B r m, vl, List.length_cons, Nat.pow_succ, Nat.mul_add, Nat.mul_comm (B ^ r.length) B, Nat.mul_assoc]
  omega
theorem dg_lt_pow {B n : Nat} (hB : 2 ≤ B) : n < B ^ (dg B n).length := by
 have := vl_lt hB _ (dg_lt hB n)
 rwa [vl_dg hB] at this
theorem dg_ge {B : Nat} (hB : 2 ≤ B) (n : Nat) : 0 < n → B ^ ((dg B n).length - 1) ≤ n := by
 induction n using Nat.strongRecOn with
 | ind n ih =>
  intro hn
  rw [dg_pos hB hn, List.length_cons, Nat.add_sub_cancel]
  rcases Nat.eq_zero_or_pos (n / B) with e | e
  ·rw [e, dg_zero, List.length_nil, Nat.pow_zero]; exact hn
  ·have h1 := ih _ (Nat.div_lt_self hn (by omega)) e
   have h2 : 0 < (dg B (n / B)).length := by
    rcases Nat.eq_zero_or_pos (dg B (n / B)).length with h | h
    ·have := (dg_nil hB).1 (List.eq_nil_of_length_eq_zero h); omega
    ·exact h
   have h3 : B ^ (dg B (n / B)).length = B * B ^ ((dg B (n / B)).length - 1) := by
    rw [← Nat.pow_succ']; congr 1; omega
   rw [h3]
   exact Nat.le_trans (Nat.mul_le_mul_left B h1) (Nat.mul_div_le n B)
theorem dg_len_le {B n k : Nat} (hB : 2 ≤ B) (h : n < B ^ k) : (dg B n).length ≤ k := by
 rcases Nat.eq_zero_or_pos n with rfl | hn
 ·rw [dg_zero]; simp
 ·have h1 := dg_ge hB n hn
  rcases Nat.lt_or_ge k (dg B n).length with h2 | h2
  ·have : B ^ k ≤ B ^ ((dg B n).length - 1) := Nat.pow_le_pow_right (by omega) (by omega)
   omega
  ·exact h2
theorem dg_len_iff {B n k : Nat} (hB : 2 ≤ B) : (dg B n).length ≤ k ↔ n < B ^ k := by
 constructor
 ·intro h
  exact Nat.lt_of_lt_of_le (dg_lt_pow hB) (Nat.pow_le_pow_right (by omega) h)
 ·exact dg_len_le hB
theorem dg_len_mono {B n m : Nat} (hB : 2 ≤ B) (h : n ≤ m) : (dg B n).length ≤ (dg B m).length :=
 dg_len_le hB (Nat.lt_of_le_of_lt h (dg_lt_pow hB))
theorem vl_snoc (B : Nat) (l : List Nat) (d : Nat) : vl B (l ++ [d]) = vl B l + B ^ l.length * d := by
 rw [vl_append]; simp [vl]
theorem take_snoc {l : List Nat} {i d : Nat} (h : l[i]? = some d) : l.take (i + 1) = l.take i ++ [d] := by
 rw [List.take_add_one, h]; rfl
theorem vl_take {B : Nat} {l : List Nat} {i d : Nat} (h : l[i]? = some d) : vl B (l.take (i + 1)) = vl B (l.take i) + B ^ i * d := by
 have hl := (List.getElem?_eq_some_iff.1 h).1
 rw [take_snoc h, vl_snoc, List.length_take, Nat.min_eq_left (by omega)]
theorem take_end_snoc {l : List Nat} {i : Nat} (h : l.length ≤ i) : l.take (i + 1) = l.take i := by
 rw [List.take_of_length_le h, List.take_of_length_le (by omega)]
theorem add_step {B : Nat} (hB : 2 ≤ B) {s : List Nat} {va vb x y c i : Nat} (hs : s.length = i) (h : vl B s + B ^ i * c = va + vb) :
  vl B (s ++ [(c + (x + y)) % B]) + B ^ (i + 1) * ((c + (x + y)) / B) = (va + B ^ i * x) + (vb + B ^ i * y) := by
 rw [vl_snoc, hs, Nat.pow_succ, Nat.mul_assoc]
 have h2 : B ^ i * ((c + (x + y)) % B) + B ^ i * (B * ((c + (x + y)) / B)) = B ^ i * (c + (x + y)) := by
  rw [← Nat.mul_add, Nat.mod_add_div]
 rw [Nat.mul_add, Nat.mul_add] at h2
 omega
theorem sub_step {B : Nat} {s : List Nat} {va vb x y b i : Nat} (hs : s.length = i) (h : vl B s + vb = va + B ^ i * b) (hx : x < B) (hy : y < B) (hb : b ≤ 1) :
  vl B (s ++ [if y + b > x then x + B - (y + b) else x - (y + b)]) + (vb + B ^ i * y) = (va + B ^ i * x) + B ^ (i + 1) * (if y + b > x then 1 else 0) := by
 rw [vl_snoc, hs, Nat.pow_succ]
 split
 ·have e : B ^ i * (x + B - (y + b)) + B ^ i * (y + b) = B ^ i * x + B ^ i * B * 1 := by rw [← Nat.mul_add, Nat.mul_one, ← Nat.mul_add]; congr 1; omega
  rw [Nat.mul_add (B ^ i) y b] at e
  omega
 ·have e : B ^ i * (x - (y + b)) + B ^ i * (y + b) = B ^ i * x := by rw [← Nat.mul_add]; congr 1; omega
  rw [Nat.mul_add (B ^ i) y b] at e
  omega
theorem sub_digit {B x y b : Nat} (hx : x < B) (hy : y < B) (hb : b ≤ 1) : (if y + b > x then x + B - (y + b) else x - (y + b)) < B := by
 split <;> omega
theorem vl_set (B : Nat) : ∀ (l : List Nat) (k d e : Nat), l[k]? = some e → vl B (l.set k d) + B ^ k * e = vl B l + B ^ k * d
 | [], k, d, e, h => by cases h
 | a :: r, 0, d, e, h => by
  cases h
  simp only [List.set_cons_zero, vl, Nat.pow_zero, Nat.one_mul]
  omega
 | a :: r, k + 1, d, e, h => by
  have ih := vl_set B r k d e h
  simp only [List.set_cons_succ, vl, Nat.pow_succ, Nat.mul_comm (B ^ k) B, Nat.mul_assoc]
  have h2 : B * (vl B (r.set k d)) + B * (B ^ k * e) = B * vl B r + B * (B ^ k * d) := by rw [← Nat.mul_add, ih, Nat.mul_add]
  omega
theorem lt_set {B : Nat} {l : List Nat} {k d : Nat} (hl : ∀ x ∈ l, x < B) (hd : d < B) : ∀ x ∈ l.set k d, x < B := fun x hx => by
 rcases List.mem_or_eq_of_mem_set hx with h | h
 ·exact hl x h
 ·rw [h]; exact hd
theorem mul_step {B : Nat} {P : List Nat} {V x y c p k w : Nat} (hp : P[k]? = some p) (h : vl B P + B ^ k * c = V + x * w) :
  vl B (P.set k ((c + (x * y + p)) % B)) + B ^ (k + 1) * ((c + (x * y + p)) / B) = V + x * (w + B ^ k * y) := by
 have h1 := vl_set B P k ((c + (x * y + p)) % B) p hp
 have h2 : B ^ k * ((c + (x * y + p)) % B) + B ^ k * (B * ((c + (x * y + p)) / B)) = B ^ k * (c + (x * y + p)) := by
  rw [← Nat.mul_add, Nat.mod_add_div]
 have h3 : x * (B ^ k * y) = B ^ k * (x * y) := by rw [Nat.mul_left_comm]
 rw [Nat.pow_succ, Nat.mul_assoc, Nat.mul_add, h3]
 rw [Nat.mul_add, Nat.mul_add (B ^ k) (x * y) p] at h2
 omega
theorem div_step {B : Nat} (hB : 0 < B) {Q r d x : Nat} (hd : 0 < d) {V : Nat} (h : V = Q * d + r) (hr : r < d) :
  x + B * V = (((r * B + x) / d) + B * Q) * d + (r * B + x) % d ∧ (r * B + x) % d < d ∧ (x < B → (r * B + x) / d < B) := by
 refine ⟨?_, Nat.mod_lt _ hd, fun hx => ?_⟩
 ·have e := Nat.div_add_mod (r * B + x) d
  rw [h, Nat.add_mul, Nat.mul_add, Nat.mul_comm ((r * B + x) / d) d, Nat.mul_assoc, Nat.mul_comm B r]
  omega
 ·rw [Nat.div_lt_iff_lt_mul hd]
  have : (r + 1) * B ≤ d * B := Nat.mul_le_mul_right _ hr
  rw [Nat.add_mul, Nat.one_mul, Nat.mul_comm d B] at this
  omega
theorem vl_cons_drop {B : Nat} {l : List Nat} {i d : Nat} (h : l[i]? = some d) : vl B (l.drop i) = d + B * vl B (l.drop (i + 1)) := by
 obtain ⟨h1, h2⟩ := List.getElem?_eq_some_iff.1 h
 rw [List.drop_eq_getElem_cons h1, vl, h2]
theorem vl_lt_of_top {B : Nat} {a b : List Nat} {i x y : Nat} (ha : ∀ d ∈ a, d < B) (hB : 2 ≤ B) (hab : a.drop (i + 1) = b.drop (i + 1)) (hx : a[i]? = some x) (hy : b[i]? = some y) (h : x < y) (hl : a.length = b.length) : vl B a < vl B b := by
 have ea : a = a.take i ++ a.drop i := (List.take_append_drop i a).symm
 have eb : b = b.take i ++ b.drop i := (List.take_append_drop i b).symm
 have hia := (List.getElem?_eq_some_iff.1 hx).1
 have la : (a.take i).length = i := by rw [List.length_take]; omega
 have lb : (b.take i).length = i := by rw [List.length_take]; omega
 have h1 := vl_lt hB (a.take i) fun d hd => ha d (List.mem_of_mem_take hd)
 rw [la] at h1
 have va : vl B a = vl B (a.take i) + B ^ i * (x + B * vl B (a.drop (i + 1))) := by
  conv => lhs; rw [ea]
  rw [vl_append, la, vl_cons_drop hx]
 have vb : vl B b = vl B (b.take i) + B ^ i * (y + B * vl B (a.drop (i + 1))) := by
  conv => lhs; rw [eb]
  rw [vl_append, lb, vl_cons_drop hy, hab]
 have h2 : B ^ i * (x + 1 + B * vl B (a.drop (i + 1))) ≤ B ^ i * (y + B * vl B (a.drop (i + 1))) := Nat.mul_le_mul_left _ (by omega)
 have h3 : B ^ i * (x + 1 + B * vl B (a.drop (i + 1))) = B ^ i * (x + B * vl B (a.drop (i + 1))) + B ^ i := by
  rw [show x + 1 + B * vl B (a.drop (i + 1)) = (x + B * vl B (a.drop (i + 1))) + 1 by omega, Nat.mul_add, Nat.mul_one]
 omega
theorem dg_len_lt {B n m : Nat} (hB : 2 ≤ B) (h : (dg B n).length < (dg B m).length) : n < m := by
 rcases Nat.lt_or_ge n m with h1 | h1
 ·exact h1
 ·have := dg_len_mono hB h1; omega
end Go.Ax
namespace Go.Ax
open Go
theorem take_step {B : Nat} (hB : 2 ≤ B) {s : List Nat} {X A x y q c b i : Nat} (hs : s.length = i) (h : vl B s + X = A + B ^ i * (c + b)) (hx : x < B) (hb : b ≤ 1) :
  vl B (s ++ [if (c + q * y) % B + b > x then x + B - ((c + q * y) % B + b) else x - ((c + q * y) % B + b)]) + (X + B ^ i * (q * y)) = (A + B ^ i * x) + B ^ (i + 1) * ((c + q * y) / B + (if (c + q * y) % B + b > x then 1 else 0)) := by
 have hm : (c + q * y) % B < B := Nat.mod_lt _ (by omega)
 have e1 : B ^ i * (c + q * y) = B ^ i * ((c + q * y) % B) + B ^ i * (B * ((c + q * y) / B)) := by rw [← Nat.mul_add, Nat.mod_add_div]
 rw [Nat.mul_add (B ^ i) c, ← Nat.mul_assoc (B ^ i) B, ← Nat.pow_succ] at e1
 have h2 : vl B s + (X + B ^ i * c - B ^ i * c) = A + B ^ i * (c + b) := by rw [Nat.add_sub_cancel]; exact h
 rw [Nat.mul_add] at h
 have e2 : B ^ i * (if (c + q * y) % B + b > x then x + B - ((c + q * y) % B + b) else x - ((c + q * y) % B + b)) + B ^ i * ((c + q * y) % B + b) = B ^ i * x + B ^ (i + 1) * (if (c + q * y) % B + b > x then 1 else 0) := by
  rw [Nat.pow_succ, Nat.mul_assoc, ← Nat.mul_add, ← Nat.mul_add]
  congr 1
  split <;> omega
 rw [Nat.mul_add (B ^ i) ((c + q * y) % B) b] at e2
 rw [vl_snoc, hs, Nat.mul_add (B ^ (i + 1))]
 generalize B ^ (i + 1) = G at e1 e2 ⊢
 generalize (c + q * y) % B = lo at e1 e2 ⊢
 omega
structure Est (B L U v U3 v2 top lead next u : Nat) : Prop where
 b2 : 2 ≤ B
 l0 : 0 < L
 u1 : U3 * L ≤ U
 u2 : U < (U3 + 1) * L
 w1 : v2 * L ≤ v
 w2 : v < (v2 + 1) * L
 u3 : U3 = top * B + u
 v3 : v2 = lead * B + next
 uB : u < B
 nB : next < B
 lB : lead < B
 half : B ≤ 2 * lead
 less : U < v * B
section
variable {B L U v U3 v2 top lead next u : Nat} (h : Est B L U v U3 v2 top lead next u)
include h
theorem est_vpos : 0 < lead ∧ B * L ≤ v := by
 have h0 := h.b2
 have h1 := h.half
 have h2 := h.w1
 have h3 : lead * B ≤ v2 := by rw [h.v3]; omega
 have h4 : 1 * B ≤ lead * B := Nat.mul_le_mul_right _ (by omega)
 have h5 : B * L ≤ v2 * L := Nat.mul_le_mul_right _ (by omega)
 omega
theorem est_gt {d : Nat} (hd : U3 < d * v2) : U < d * v := by
 have h1 : (U3 + 1) * L ≤ d * v2 * L := Nat.mul_le_mul_right _ hd
 have h2 : d * v2 * L ≤ d * v := by rw [Nat.mul_assoc]; exact Nat.mul_le_mul_left _ h.w1
 have := h.u2
 omega
theorem est_big {d : Nat} (hd : B ≤ d) : U < d * v := by
 have h1 := h.less
 have h2 : B * v ≤ d * v := Nat.mul_le_mul_right _ hd
 rw [Nat.mul_comm v B] at h1
 omega
theorem est_le {d : Nat} (hd : d * v2 ≤ U3) (hB : d < B) : d * v ≤ U + v := by
 obtain ⟨-, h1⟩ := est_vpos h
 have h2 : d * v ≤ d * ((v2 + 1) * L) := Nat.mul_le_mul_left _ (by have := h.w2; omega)
 have h3 : d * ((v2 + 1) * L) = d * v2 * L + d * L := by rw [Nat.add_mul, Nat.one_mul, Nat.mul_add, Nat.mul_assoc]
 have h4 : d * v2 * L ≤ U3 * L := Nat.mul_le_mul_right _ hd
 have h5 : d * L ≤ B * L := Nat.mul_le_mul_right _ (by omega)
 have := h.u1
 omega
structure EstI (B U v top lead d r : Nat) : Prop where
 eq : d * lead + r = top
 up : U < (d + 1) * v
 hi : d ≤ B + 1
 rB : r < B
theorem est_top : top ≤ lead * B + (B - 1) := by
 have h0 := h.b2
 have hL := h.l0
 have h1 : U3 * L < (v2 + 1) * L * B := Nat.lt_of_le_of_lt h.u1 (Nat.lt_of_lt_of_le h.less (Nat.mul_le_mul_right _ (by have := h.w2; omega)))
 have h2 : U3 < (v2 + 1) * B := by
  rw [Nat.mul_assoc, Nat.mul_comm L B, ← Nat.mul_assoc] at h1
  exact Nat.lt_of_mul_lt_mul_right h1
 have h3 : top * B < (v2 + 1) * B := by have := h.u3; omega
 have h4 : top < v2 + 1 := Nat.lt_of_mul_lt_mul_right h3
 have := h.v3
 have := h.nB
 omega
theorem est_init : EstI B U v top lead (top / lead) (top % lead) := by
 obtain ⟨hl, -⟩ := est_vpos h
 have e := Nat.div_add_mod top lead
 have hm := Nat.mod_lt top hl
 have ht := est_top h
 have hh := h.half
 have hlB := h.lB
 rw [Nat.mul_comm] at e
 refine ⟨e, ?_, ?_, by omega⟩
 ·have h1 : top + 1 ≤ (top / lead + 1) * lead := by rw [Nat.add_mul, Nat.one_mul]; omega
  have h2 : (top + 1) * B ≤ (top / lead + 1) * lead * B := Nat.mul_le_mul_right _ h1
  have h3 : (top / lead + 1) * lead * B ≤ (top / lead + 1) * v2 := by rw [Nat.mul_assoc]; exact Nat.mul_le_mul_left _ (by have := h.v3; omega)
  have h4 : U3 < (top / lead + 1) * v2 := by
   rw [Nat.add_mul, Nat.one_mul] at h2
   have := h.u3
   have := h.uB
   omega
  exact est_gt h h4
 ·rcases Nat.lt_or_ge (B + 1) (top / lead) with h1 | h1
  ·exfalso
   have h2 : (B + 2) * lead ≤ (top / lead) * lead := Nat.mul_le_mul_right _ (by omega)
   rw [Nat.add_mul, Nat.mul_comm B lead] at h2
   omega
  ·exact h1
theorem est_down {d r : Nat} (hI : EstI B U v top lead d r) (hc : B ≤ d ∨ r * B + u < d * next) : 0 < d ∧ (d - 1) * lead + (r + lead) = top ∧ U < (d - 1 + 1) * v := by
 have hlt : U < d * v := by
  rcases hc with hc | hc
  ·exact est_big h hc
  ·refine est_gt h ?_
   have e := hI.eq
   rw [h.u3, h.v3, Nat.mul_add, ← Nat.mul_assoc, ← e, Nat.add_mul]
   omega
 have hd : 0 < d := by
  rcases Nat.eq_zero_or_pos d with rfl | hd
  ·rw [Nat.zero_mul] at hlt; omega
  ·exact hd
 obtain ⟨d, rfl⟩ : ∃ k, d = k + 1 := ⟨d - 1, by omega⟩
 have e := hI.eq
 rw [Nat.add_mul, Nat.one_mul] at e
 refine ⟨hd, by rw [Nat.add_sub_cancel]; omega, by rw [Nat.add_sub_cancel]; exact hlt⟩
theorem est_done {d r : Nat} (hI : EstI B U v top lead d r) (h1 : d < B) (h2 : d * next ≤ r * B + u) : d * v ≤ U + v := by
 refine est_le h ?_ h1
 have e := hI.eq
 rw [h.u3, h.v3, Nat.mul_add, ← Nat.mul_assoc, ← e, Nat.add_mul]
 omega
theorem est_stop {d r : Nat} (e : d * lead + r = top) (h1 : B ≤ r) : d < B ∧ d * v ≤ U + v := by
 have ht := est_top h
 have h0 := h.b2
 obtain ⟨hl, -⟩ := est_vpos h
 have hd : d < B := by
  have h2 : d * lead < B * lead := by rw [Nat.mul_comm B lead]; omega
  exact Nat.lt_of_mul_lt_mul_right h2
 refine ⟨hd, est_le h ?_ hd⟩
 have h3 : d * next ≤ B * B := Nat.mul_le_mul (by omega) (by have := h.nB; omega)
 have h4 : B * B ≤ r * B := Nat.mul_le_mul_right _ h1
 rw [h.u3, h.v3, Nat.mul_add, ← Nat.mul_assoc, ← e, Nat.add_mul]
 omega
end
theorem digit_exact {U v d : Nat} (up : U < (d + 1) * v) (h : d * v ≤ U) : U / v = d ∧ U % v = U - d * v := by
 have hv : 0 < v := by
  rcases Nat.eq_zero_or_pos v with rfl | hv
  ·simp at up
  ·exact hv
 have e : U = d * v + (U - d * v) := by omega
 have hr : U - d * v < v := by rw [Nat.add_mul, Nat.one_mul] at up; omega
 constructor
 ·generalize U - d * v = w at e hr
  rw [e, Nat.mul_comm d v, Nat.mul_add_div hv, Nat.div_eq_of_lt hr]; rfl
 ·generalize U - d * v = w at e hr ⊢
  rw [e, Nat.mul_comm d v, Nat.mul_add_mod, Nat.mod_eq_of_lt hr]
theorem digit_less {U v d : Nat} (hd : 0 < d) (h : U < d * v) (h2 : d * v ≤ U + v) : U / v = d - 1 ∧ U % v + d * v = U + v := by
 obtain ⟨k, rfl⟩ : ∃ k, d = k + 1 := ⟨d - 1, by omega⟩
 rw [Nat.add_mul, Nat.one_mul] at h2
 obtain ⟨e1, e2⟩ := digit_exact (d := k) h (by omega)
 refine ⟨by rw [e1]; rfl, ?_⟩
 rw [e2, Nat.add_mul, Nat.one_mul]
 omega
end Go.Ax
namespace Go.Ax
open Go
def cmpJ (a b : Int) : Int := if a < b then -1 else if b < a then 1 else 0
theorem cmpJ_neg (a b : Int) : cmpJ b a = - cmpJ a b := by unfold cmpJ; split <;> split <;> (try split) <;> omega
theorem cmpJ_ne {a b : Int} (h : a ≠ b) : cmpJ a b ≠ 0 := by unfold cmpJ; split <;> (try split) <;> omega
theorem cmpJ_eq {a b : Int} : cmpJ a b = 0 ↔ a = b := by unfold cmpJ; split <;> (try split) <;> omega
theorem cmp_whole {p q r s : Int} (hq : 0 < q) (hs : 0 < s) (h : p / q ≠ r / s) : cmpJ (p * s) (r * q) = cmpJ (p / q) (r / s) := by
 have key : ∀ p q r s : Int, 0 < q → 0 < s → p / q < r / s → p * s < r * q := by
  intro p q r s hq hs h
  have e1 := Int.mul_ediv_add_emod p q
  have e2 := Int.mul_ediv_add_emod r s
  have x1 := Int.emod_lt_of_pos p hq
  have y0 := Int.emod_nonneg r (Int.ne_of_gt hs)
  have h1 : p < q * (p / q + 1) := by rw [Int.mul_add]; omega
  have h2 : q * (p / q + 1) ≤ q * (r / s) := Int.mul_le_mul_of_nonneg_left (by omega) (by omega)
  have h3 : p < q * (r / s) := by omega
  have h4 : p * s < q * (r / s) * s := Int.mul_lt_mul_of_pos_right h3 hs
  have h5 : s * (r / s) ≤ r := by omega
  have h6 : s * (r / s) * q ≤ r * q := Int.mul_le_mul_of_nonneg_right h5 (by omega)
  have h7 : q * (r / s) * s = s * (r / s) * q := by rw [Int.mul_assoc, Int.mul_comm q, Int.mul_comm (r / s) s]
  omega
 rcases Int.lt_or_gt_of_ne h with h1 | h1
 ·have := key p q r s hq hs h1
  unfold cmpJ
  rw [if_pos this, if_pos h1]
 ·have := key r s p q hs hq h1
  unfold cmpJ
  rw [if_neg (by omega), if_pos this, if_neg (by omega), if_pos h1]
theorem cmp_rest {p q r s : Int} (h : p / q = r / s) : cmpJ (p * s) (r * q) = cmpJ (p % q * s) (r % s * q) := by
 have e1 := Int.mul_ediv_add_emod p q
 have e2 := Int.mul_ediv_add_emod r s
 have f1 : p * s = q * (p / q) * s + p % q * s := by rw [← Int.add_mul, e1]
 have f2 : r * q = q * (p / q) * s + r % s * q := by
  rw [h, show q * (r / s) * s = s * (r / s) * q by rw [Int.mul_assoc, Int.mul_comm q, Int.mul_comm (r / s) s], ← Int.add_mul, e2]
 unfold cmpJ
 rw [f1, f2]
 split <;> split <;> (try split) <;> (try split) <;> omega
def sgnI (x : Int) : Int := cmpJ x 0
theorem cmp_zero {x y q s : Int} (hq : 0 < q) (hs : 0 < s) (hx : 0 ≤ x) (hy : 0 ≤ y) (h : x = 0 ∨ y = 0) : cmpJ (x * s) (y * q) = sgnI x - sgnI y := by
 rcases h with rfl | rfl
 ·rcases Int.lt_or_eq_of_le hy with h1 | rfl
  ·have := Int.mul_pos h1 hq
   unfold sgnI cmpJ
   rw [Int.zero_mul, if_pos this]; simp; omega
  ·simp [sgnI, cmpJ]
 ·rcases Int.lt_or_eq_of_le hx with h1 | rfl
  ·have := Int.mul_pos h1 hs
   unfold sgnI cmpJ
   rw [Int.zero_mul, if_neg (by omega), if_pos this]; simp; omega
  ·simp [sgnI, cmpJ]
theorem cmp_turn {x y q s : Int} : cmpJ (x * s) (y * q) = - cmpJ (q * y) (s * x) := by
 rw [← cmpJ_neg, Int.mul_comm s x, Int.mul_comm q y]
theorem gcd_step (a b : Nat) : Nat.gcd b (a % b) = Nat.gcd a b := by rw [Nat.gcd_comm b, ← Nat.gcd_rec, Nat.gcd_comm]
def padD : Nat → Nat → List UInt8
 | 0, _ => []
 | k + 1, r => padD k (r / 10) ++ [UInt8.ofNat (48 + r % 10)]
theorem padD_length : ∀ k r, (padD k r).length = k
 | 0, _ => rfl
 | k + 1, r => by rw [padD, List.length_append, padD_length k]; rfl
theorem decD_step {n : Nat} (h : 10 ≤ n) : Lib.decDigits n = Lib.decDigits (n / 10) ++ [UInt8.ofNat (48 + n % 10)] := by
 rw [Lib.decDigits, dif_neg (by omega)]
theorem decD_split : ∀ (k q r : Nat), 0 < q → r < 10 ^ k → Lib.decDigits (r + 10 ^ k * q) = Lib.decDigits q ++ padD k r
 | 0, q, r, hq, hr => by
  have : r = 0 := by simpa using hr
  subst this
  simp [padD]
 | k + 1, q, r, hq, hr => by
  have hp : 0 < 10 ^ k := Nat.pow_pos (by omega)
  have e : 10 ^ (k + 1) * q = 10 * (10 ^ k * q) := by rw [Nat.pow_succ, Nat.mul_comm (10 ^ k) 10, Nat.mul_assoc]
  have h1 : 1 ≤ 10 ^ k * q := Nat.mul_pos hp hq
  rw [decD_step (by omega), e, padD, ← List.append_assoc, show (r + 10 * (10 ^ k * q)) / 10 = r / 10 + 10 ^ k * q by omega, show (r + 10 * (10 ^ k * q)) % 10 = r % 10 by omega]
  rw [decD_split k q (r / 10) hq (by rw [Nat.pow_succ] at hr; omega)]
theorem decD_len : ∀ (k r : Nat), r < 10 ^ k → 0 < k → (Lib.decDigits r).length ≤ k
 | 0, r, _, h => by omega
 | k + 1, r, hr, _ => by
  by_cases h : r < 10
  ·rw [Lib.decDigits_one h]; simp
  ·rw [decD_step (by omega), List.length_append]
   have hk : 0 < k := by
    rcases Nat.eq_zero_or_pos k with rfl | hk
    ·simp at hr; omega
    ·exact hk
   have := decD_len k (r / 10) (by rw [Nat.pow_succ] at hr; omega) hk
   simp; omega
theorem padD_zero : ∀ k, padD k 0 = List.replicate k 48
 | 0 => rfl
 | k + 1 => by rw [padD, show 0 / 10 = 0 by rfl, padD_zero k, List.replicate_succ']; rfl
theorem padD_eq : ∀ (k r : Nat), r < 10 ^ k → 0 < k → padD k r = List.replicate (k - (Lib.decDigits r).length) 48 ++ Lib.decDigits r
 | 0, r, _, h => by omega
 | k + 1, r, hr, _ => by
  rw [padD]
  by_cases h : r < 10
  ·rw [Lib.decDigits_one h, Nat.div_eq_of_lt h, padD_zero, Nat.mod_eq_of_lt h]
   simp
  ·have hk : 0 < k := by
    rcases Nat.eq_zero_or_pos k with rfl | hk
    ·simp at hr; omega
    ·exact hk
   have hr2 : r / 10 < 10 ^ k := by rw [Nat.pow_succ] at hr; omega
   have hl := decD_len k (r / 10) hr2 hk
   rw [decD_step (by omega), padD_eq k (r / 10) hr2 hk, List.length_append, List.append_assoc]
   congr 2
   simp
def txtB (k : Nat) : List Nat → List UInt8
 | [] => []
 | d :: r => if r = [] then Lib.decDigits d else txtB k r ++ padD k d
theorem txtB_dg {k : Nat} (hk : 0 < k) (n : Nat) (hn : 0 < n) : txtB k (dg (10 ^ k) n) = Lib.decDigits n := by
 have hB : 2 ≤ 10 ^ k := by
  obtain ⟨j, rfl⟩ : ∃ j, k = j + 1 := ⟨k - 1, by omega⟩
  have : 0 < 10 ^ j := Nat.pow_pos (by omega)
  rw [Nat.pow_succ]; omega
 induction n using Nat.strongRecOn with
 | ind n ih =>
  rw [dg_pos hB hn, txtB]
  rcases Nat.eq_zero_or_pos (n / 10 ^ k) with e | e
  ·have hlt : n < 10 ^ k := by
    rcases Nat.lt_or_ge n (10 ^ k) with h | h
    ·exact h
    ·have := Nat.div_pos h (by omega); omega
   rw [e, dg_zero, if_pos rfl, Nat.mod_eq_of_lt hlt]
  ·rw [if_neg (fun h => by have := (dg_nil hB).1 h; omega), ih _ (Nat.div_lt_self hn (by omega)) e, ← decD_split k _ _ e (Nat.mod_lt _ (by omega)), Nat.mod_add_div]
def decZ (z : Int) : List UInt8 := Lib.itoa z
theorem decZ_nat (n : Nat) : decZ n = Lib.decDigits n := Lib.itoa_nonneg n
def valT (l : List UInt8) : Nat := l.foldl (fun a c => a * 10 + (c.toNat - 48)) 0
theorem valT_snoc (l : List UInt8) (c : UInt8) : valT (l ++ [c]) = valT l * 10 + (c.toNat - 48) := by simp [valT]
theorem valT_app (l : List UInt8) : ∀ m : List UInt8, valT (l ++ m) = valT l * 10 ^ m.length + valT m := by
 intro m
 have h : ∀ (m : List UInt8) (a : Nat), m.foldl (fun a c => a * 10 + (c.toNat - 48)) a = a * 10 ^ m.length + m.foldl (fun a c => a * 10 + (c.toNat - 48)) 0 := by
  intro m
  induction m with
  | nil => intro a; simp
  | cons c r ih =>
   intro a
   rw [List.foldl_cons, ih, List.foldl_cons, ih (0 * 10 + _), List.length_cons, Nat.pow_succ, Nat.zero_mul, Nat.zero_add, Nat.add_mul, Nat.mul_assoc a 10, Nat.mul_comm 10]
   omega
 unfold valT
 rw [List.foldl_append, h m]
theorem digit_toNat (d : Nat) (h : d < 10) : (UInt8.ofNat (48 + d)).toNat = 48 + d := by
 rw [UInt8.toNat_ofNat']; omega
theorem valT_dec (n : Nat) : valT (Lib.decDigits n) = n := by
 induction n using Nat.strongRecOn with
 | ind n ih =>
  by_cases h : n < 10
  ·rw [Lib.decDigits_one h]
   simp only [valT, List.foldl_cons, List.foldl_nil]
   rw [digit_toNat _ h]; omega
  ·rw [decD_step (by omega), valT_snoc, ih _ (by omega), digit_toNat _ (by omega)]; omega
def allDig (l : List UInt8) : Prop := ∀ c ∈ l, 48 ≤ c.toNat ∧ c.toNat ≤ 57
theorem decD_dig (n : Nat) : allDig (Lib.decDigits n) := by
 induction n using Nat.strongRecOn with
 | ind n ih =>
  by_cases h : n < 10
  ·rw [Lib.decDigits_one h]
   intro c hc
   rw [List.mem_singleton.1 hc, digit_toNat _ h]; omega
  ·rw [decD_step (by omega)]
   intro c hc
   rcases List.mem_append.1 hc with hc | hc
   ·exact ih _ (by omega) c hc
   ·rw [List.mem_singleton.1 hc, digit_toNat _ (by omega)]; omega
theorem snoc_ind {α : Type} {P : List α → Prop} (h0 : P []) (h1 : ∀ l a, P l → P (l ++ [a])) (l : List α) : P l := by
 have h : ∀ m : List α, P m.reverse := fun m => by
  induction m with
  | nil => exact h0
  | cons a r ih => rw [List.reverse_cons]; exact h1 _ _ ih
 rw [← List.reverse_reverse l]
 exact h _
theorem valT_lt {l : List UInt8} (h : allDig l) : valT l < 10 ^ l.length := by
 induction l using snoc_ind with
 | h0 => simp [valT]
 | h1 l c ih =>
  have h1 := ih fun x hx => h x (by simp [hx])
  have h2 := h c (by simp)
  rw [valT_snoc, List.length_append, List.length_singleton, Nat.pow_succ]
  omega
theorem gcd_cross {p q r s : Nat} (h1 : Nat.Coprime p q) (h2 : Nat.Coprime r s) : Nat.gcd (p * r) (q * s) = Nat.gcd p s * Nat.gcd r q := by
 rcases Nat.eq_zero_or_pos q with rfl | hq
 ·have hp : p = 1 := by simpa [Nat.Coprime] using h1
  subst hp
  simp
 rcases Nat.eq_zero_or_pos s with rfl | hs
 ·have hr : r = 1 := by simpa [Nat.Coprime] using h2
  subst hr
  simp
 have g1 : 0 < Nat.gcd p s := Nat.gcd_pos_of_pos_right _ hs
 have g2 : 0 < Nat.gcd r q := Nat.gcd_pos_of_pos_right _ hq
 obtain ⟨p', hp⟩ := Nat.gcd_dvd_left p s
 obtain ⟨s', hs'⟩ := Nat.gcd_dvd_right p s
 obtain ⟨r', hr⟩ := Nat.gcd_dvd_left r q
 obtain ⟨q', hq'⟩ := Nat.gcd_dvd_right r q
 have c1 : Nat.Coprime p' s' := by
  have := Nat.coprime_div_gcd_div_gcd g1
  rwa [Nat.div_eq_of_eq_mul_right g1 hp, Nat.div_eq_of_eq_mul_right g1 hs'] at this
 have c2 : Nat.Coprime r' q' := by
  have := Nat.coprime_div_gcd_div_gcd g2
  rwa [Nat.div_eq_of_eq_mul_right g2 hr, Nat.div_eq_of_eq_mul_right g2 hq'] at this
 generalize Nat.gcd p s = g at *
 generalize Nat.gcd r q = h at *
 have c3 : Nat.Coprime p' q' := Nat.Coprime.coprime_dvd_left ⟨g, by rw [hp, Nat.mul_comm]⟩ (Nat.Coprime.coprime_dvd_right ⟨h, by rw [hq', Nat.mul_comm]⟩ h1)
 have c4 : Nat.Coprime r' s' := Nat.Coprime.coprime_dvd_left ⟨h, by rw [hr, Nat.mul_comm]⟩ (Nat.Coprime.coprime_dvd_right ⟨g, by rw [hs', Nat.mul_comm]⟩ h2)
 have c5 : Nat.Coprime (p' * r') (q' * s') := Nat.Coprime.mul_left (Nat.Coprime.mul_right c3 c1) (Nat.Coprime.mul_right c2 c4)
 have e1 : p * r = g * h * (p' * r') := by rw [hp, hr]; simp only [Nat.mul_assoc, Nat.mul_left_comm]
 have e2 : q * s = g * h * (q' * s') := by rw [hq', hs']; simp only [Nat.mul_assoc, Nat.mul_left_comm]
 rw [e1, e2, Nat.gcd_mul_left, c5, Nat.mul_one]
structure Nd where
 kind : Int
 name : List UInt8
 lo : Int
 hi : Int
 weights : List Int
 labels : List (List UInt8)
 values : List Val
 kids : List Int
 value : Val
def encS (l : List (List UInt8)) : List AV := l.map AV.str
theorem encS_nn (l : List (List UInt8)) : NNs (encS l) := fun a ha => by
 obtain ⟨n, _, rfl⟩ := List.mem_map.1 ha
 exact .str _
theorem encS_length (l : List (List UInt8)) : (encS l).length = l.length := by rw [encS, List.length_map]
theorem encS_get (l : List (List UInt8)) (i : Nat) : (encS l)[i]? = (l[i]?).map AV.str := by rw [encS, List.getElem?_map]
structure okN (x : Nd) : Prop where
 kind : i64 x.kind
 name : x.name.length ≤ 4294967296
 lo : i64 x.lo
 hi : i64 x.hi
 weights : x.weights.length ≤ 4294967296
 weightsI : ∀ w ∈ x.weights, i64 w
 labels : x.labels.length ≤ 4294967296
 labelsI : ∀ w ∈ x.labels, w.length ≤ 4294967296
 values : x.values.length ≤ 4294967296
 valuesI : ∀ v ∈ x.values, okV v ∧ sizeV v ≤ 4294967296
 kids : x.kids.length ≤ 4294967296
 kidsI : ∀ k ∈ x.kids, i64 k
 value : okV x.value
 valueS : sizeV x.value ≤ 4294967296
structure Lst where
 vals : List Val
 many : Bool
theorem wb2 : 2 ≤ 4294967296 := by decide
abbrev nW (n : Nat) : Nat := (dg 4294967296 n).length
theorem dgl_add {B : Nat} (hB : 2 ≤ B) (x y : Nat) : (dg B (x + y)).length ≤ max (dg B x).length (dg B y).length + 1 := by
 refine dg_len_le hB ?_
 have h1 := dg_lt_pow (n := x) hB
 have h2 := dg_lt_pow (n := y) hB
 generalize (dg B x).length = a at *
 generalize (dg B y).length = b at *
 have h3 : B ^ a ≤ B ^ max a b := Nat.pow_le_pow_right (by omega) (by omega)
 have h4 : B ^ b ≤ B ^ max a b := Nat.pow_le_pow_right (by omega) (by omega)
 have h5 : B ^ max a b * 2 ≤ B ^ max a b * B := Nat.mul_le_mul_left _ hB
 rw [Nat.pow_succ]
 omega
theorem dgl_mul {B : Nat} (hB : 2 ≤ B) (x y : Nat) : (dg B (x * y)).length ≤ (dg B x).length + (dg B y).length := by
 refine dg_len_le hB ?_
 have h1 := dg_lt_pow (n := x) hB
 have h2 := dg_lt_pow (n := y) hB
 rw [Nat.pow_add]
 exact Nat.mul_lt_mul'' h1 h2
theorem dgl_sub {B : Nat} (hB : 2 ≤ B) (x y : Nat) : (dg B (x - y)).length ≤ (dg B x).length := dg_len_mono hB (Nat.sub_le _ _)
theorem dgl_div {B : Nat} (hB : 2 ≤ B) (x y : Nat) : (dg B (x / y)).length ≤ (dg B x).length := dg_len_mono hB (Nat.div_le_self _ _)
theorem dgl_mod {B : Nat} (hB : 2 ≤ B) (x y : Nat) : (dg B (x % y)).length ≤ (dg B x).length := dg_len_mono hB (Nat.mod_le _ _)
theorem dgl_gcd {B : Nat} (hB : 2 ≤ B) (x y : Nat) : (dg B (Nat.gcd x y)).length ≤ max (dg B x).length (dg B y).length := by
 rcases Nat.eq_zero_or_pos x with rfl | h
 ·rw [Nat.gcd_zero_left]; omega
 ·have := dg_len_mono hB (Nat.gcd_le_left y h); omega
theorem dgl_small {B n : Nat} (hB : 2 ≤ B) (h : n < B) : (dg B n).length ≤ 1 := dg_len_le hB (by rw [Nat.pow_one]; exact h)
theorem dgl_two {B n : Nat} (hB : 2 ≤ B) (h : n < B * B) : (dg B n).length ≤ 2 := dg_len_le hB (by rw [Nat.pow_two]; exact h)
theorem dgl_ten (n : Nat) : (dg 10000 n).length ≤ 3 * nW n := by
 refine dg_len_le (by omega) (Nat.lt_of_lt_of_le (dg_lt_pow wb2) ?_)
 rw [Nat.pow_mul]
 exact Nat.pow_le_pow_left (by decide) _
def encU (l : List Nat) : List AV := l.map fun (d : Nat) => .int .u32 (d : Int)
def encD (l : List Nat) : List AV := l.map fun (d : Nat) => .int .i64 (d : Int)
theorem encU_length (l : List Nat) : (encU l).length = l.length := by simp [encU]
theorem encD_length (l : List Nat) : (encD l).length = l.length := by simp [encD]
theorem encU_nn (l : List Nat) : NNs (encU l) := fun a ha => by
 obtain ⟨n, _, rfl⟩ := List.mem_map.1 ha
 exact .int _ _
theorem encD_nn (l : List Nat) : NNs (encD l) := fun a ha => by
 obtain ⟨n, _, rfl⟩ := List.mem_map.1 ha
 exact .int _ _
theorem encU_get (l : List Nat) (i : Nat) : (encU l)[i]? = (l[i]?).map fun (d : Nat) => AV.int .u32 (d : Int) := by rw [encU, List.getElem?_map]
theorem encD_get (l : List Nat) (i : Nat) : (encD l)[i]? = (l[i]?).map fun (d : Nat) => AV.int .i64 (d : Int) := by rw [encD, List.getElem?_map]
theorem encU_set (l : List Nat) (i d : Nat) : (encU l).set i (.int .u32 (d : Int)) = encU (l.set i d) := by unfold encU; rw [List.map_set]
theorem encD_set (l : List Nat) (i d : Nat) : (encD l).set i (.int .i64 (d : Int)) = encD (l.set i d) := by unfold encD; rw [List.map_set]
theorem encU_app (l m : List Nat) : encU (l ++ m) = encU l ++ encU m := by simp [encU]
theorem encD_app (l m : List Nat) : encD (l ++ m) = encD l ++ encD m := by simp [encD]
theorem encU_zeros (n : Nat) : encU (List.replicate n 0) = List.replicate n (.int .u32 0) := by simp [encU]
theorem encD_zeros (n : Nat) : encD (List.replicate n 0) = List.replicate n (.int .i64 0) := by simp [encD]
def encW (z : Int) : AV := .agg [.bool (decide (z < 0)), .il 1 (encU (dg 4294967296 z.natAbs))]
def encR (z : Int) : AV := .agg [.bool (decide (z < 0)), .il 1 (encD (dg 10000 z.natAbs))]
theorem encW_nn (z : Int) : NN (encW z) := .agg' (.cons (.bool _) (.cons (.il' (encU_nn _)) .nil))
theorem encR_nn (z : Int) : NN (encR z) := .agg' (.cons (.bool _) (.cons (.il' (encD_nn _)) .nil))
theorem u32_wrap (n : Int) : IntKind.u32.wrap n = n % 4294967296 := by
 unfold IntKind.wrap
 simp [IntKind.bits, IntKind.signed]
def pre0 (s : List Nat) (n : Nat) : List Nat := s ++ List.replicate (n - s.length) 0
theorem pre0_length {s : List Nat} {n : Nat} (h : s.length ≤ n) : (pre0 s n).length = n := by simp [pre0]; omega
theorem pre0_get {s : List Nat} {n : Nat} (h : s.length < n) : (pre0 s n)[s.length]? = some 0 := by
 unfold pre0
 rw [List.getElem?_append_right (Nat.le_refl _), Nat.sub_self, List.getElem?_replicate, if_pos (by omega)]
theorem pre0_set {s : List Nat} {n d : Nat} (h : s.length < n) : (pre0 s n).set s.length d = pre0 (s ++ [d]) n := by
 unfold pre0
 obtain ⟨m, hm⟩ : ∃ m, n - s.length = m + 1 := ⟨n - s.length - 1, by omega⟩
 rw [List.set_append_right _ _ (Nat.le_refl _), Nat.sub_self, hm, List.replicate_succ, List.set_cons_zero, List.length_append, List.length_singleton, show n - (s.length + 1) = m by omega]
 simp
theorem vl_zeros (B n : Nat) : vl B (List.replicate n 0) = 0 := by
 induction n with
 | zero => rfl
 | succ n ih => rw [List.replicate_succ, vl, ih]; simp
theorem vl_pre0 (B : Nat) (s : List Nat) (n : Nat) : vl B (pre0 s n) = vl B s := by unfold pre0; rw [vl_append, vl_zeros]; simp
def limN : Nat := 2 ^ 16384
theorem lim_of {n m k : Nat} (h : limN = 2 ^ n) (e : n = m * k) : limN = (2 ^ m) ^ k := by rw [h, e, Nat.pow_mul]
theorem limN_eq : limN = 2 ^ 16384 := by delta limN; exact Eq.refl _
theorem lim_words {k : Nat} (hk : 16384 = 32 * k) : limN = (2 ^ 32) ^ k := lim_of limN_eq hk
theorem lim_ten : 10000 ^ 1229 ≤ limN := by unfold limN; decide +kernel
theorem lim_dec : limN ≤ 10 ^ 4933 := by unfold limN; decide +kernel
def fits (z : Int) : Bool := decide (z.natAbs < limN)
theorem fits_w {z : Int} {n : Nat} (h : limN = (2 ^ 32) ^ n) : fits z = decide (nW z.natAbs ≤ n) := by
 unfold fits
 rw [decide_eq_decide, h, show (2 : Nat) ^ 32 = 4294967296 from rfl]
 exact (dg_len_iff wb2).symm
theorem fits_wk {z : Int} {k : Nat} (hk : 16384 = 32 * k) : fits z = decide (nW z.natAbs ≤ k) := fits_w (lim_words hk)
theorem fits_words {z : Int} : fits z = decide (nW z.natAbs ≤ 512) := fits_wk rfl
theorem fits_nW {z : Int} (h : fits z = true) : nW z.natAbs ≤ 512 := by rw [fits_words] at h; simpa using h
theorem fits_s {z : Int} {n : Nat} (hn : 10000 ^ n ≤ limN) (h : (dg 10000 z.natAbs).length ≤ n) : fits z = true := by
 unfold fits
 have h1 := dg_lt_pow (B := 10000) (n := z.natAbs) (by omega)
 have h2 : 10000 ^ (dg 10000 z.natAbs).length ≤ 10000 ^ n := Nat.pow_le_pow_right (by omega) h
 exact decide_eq_true (Nat.lt_of_lt_of_le h1 (Nat.le_trans h2 hn))
theorem fits_short {z : Int} (h : (dg 10000 z.natAbs).length < 1230) : fits z = true := fits_s lim_ten (Nat.le_of_lt_succ h)
structure Fr where
 p : Int
 q : Nat
def Fr.den (a : Fr) : Nat := if a.q = 0 then 1 else a.q
def mkF (p q : Int) : Fr := ⟨(if q < 0 then -p else p) / (Nat.gcd p.natAbs q.natAbs : Int), q.natAbs / Nat.gcd p.natAbs q.natAbs⟩
structure Can (a : Fr) : Prop where
 pos : 0 < a.q
 cop : Nat.Coprime a.p.natAbs a.q
def zF : Fr := ⟨0, 1⟩
def rngF (a : Fr) : Fr × Int := if fits a.p = true ∧ fits a.q = true then (a, 0) else (zF, 4)
def mulF (a b : Fr) : Fr × Int := rngF (mkF (a.p * b.p) (a.q * b.q))
def divF (a b : Fr) : Fr × Int := if b.p = 0 then (zF, 1) else rngF (mkF (a.p * b.q) (a.q * b.p))
def addF (a b : Fr) : Fr × Int :=
 let g := Nat.gcd a.q b.q
 let s := b.q / g
 let q := a.q / g
 if fits (a.p * s) = true ∧ fits (b.p * q) = true ∧ fits (q * b.q) = true ∧ fits (a.p * s + b.p * q) = true then (mkF (a.p * s + b.p * q) (q * b.q), 0) else (zF, 4)
def negF (a : Fr) : Fr := ⟨-a.p, a.q⟩
def subF (a b : Fr) : Fr × Int := addF a (negF b)
def cmpF (a b : Fr) : Int := cmpJ (a.p * b.q) (b.p * a.q)
def sgnF (a : Fr) : Int := cmpJ a.p 0
theorem natAbs_ediv_nat (p : Int) (g : Nat) (h : (g : Nat) ∣ p.natAbs) : (p / (g : Int)).natAbs = p.natAbs / g := by
 obtain ⟨k, hk⟩ := h
 rcases Nat.eq_zero_or_pos g with rfl | hg
 ·simp at hk; subst hk; simp
 ·rcases Int.natAbs_eq p with e | e
  ·rw [e, hk, Int.natAbs_natCast, ← Int.natCast_ediv, Int.natAbs_natCast]
  ·have : p = (g : Int) * (-(k : Int)) := by rw [e, hk, Int.natCast_mul, Int.mul_neg]
   rw [hk, Nat.mul_div_cancel_left _ hg, this, Int.mul_ediv_cancel_left _ (by omega)]
   simp
theorem mkF_can {p q : Int} (h : q ≠ 0) : Can (mkF p q) := by
 have hq : 0 < q.natAbs := Int.natAbs_pos.2 h
 have hg : 0 < Nat.gcd p.natAbs q.natAbs := Nat.gcd_pos_of_pos_right _ hq
 refine ⟨Nat.div_pos (Nat.gcd_le_right _ hq) hg, ?_⟩
 unfold mkF
 simp only
 have e : (if q < 0 then -p else p).natAbs = p.natAbs := by split <;> simp
 rw [natAbs_ediv_nat _ _ (by rw [e]; exact Nat.gcd_dvd_left _ _), e]
 exact Nat.coprime_div_gcd_div_gcd hg
theorem zF_can : Can zF := ⟨by decide, by simp [zF]⟩
theorem mkF_self {a : Fr} (h : Can a) : mkF a.p a.q = a := by
 unfold mkF
 have e : Nat.gcd a.p.natAbs (a.q : Int).natAbs = 1 := by rw [Int.natAbs_natCast]; exact h.cop
 rw [e, if_neg (by omega)]
 simp
theorem mul_cross {a b : Fr} (ha : Can a) (hb : Can b) :
  mkF (a.p * b.p) (a.q * b.q) = ⟨(a.p / (Nat.gcd a.p.natAbs b.q : Int)) * (b.p / (Nat.gcd b.p.natAbs a.q : Int)), (a.q / Nat.gcd b.p.natAbs a.q) * (b.q / Nat.gcd a.p.natAbs b.q)⟩ := by
 have hg : Nat.gcd (a.p * b.p).natAbs ((a.q : Int) * (b.q : Int)).natAbs = Nat.gcd a.p.natAbs b.q * Nat.gcd b.p.natAbs a.q := by
  rw [Int.natAbs_mul, Int.natAbs_mul, Int.natAbs_natCast, Int.natAbs_natCast]
  exact gcd_cross ha.cop hb.cop
 have g1 : 0 < Nat.gcd a.p.natAbs b.q := Nat.gcd_pos_of_pos_right _ hb.pos
 have g2 : 0 < Nat.gcd b.p.natAbs a.q := Nat.gcd_pos_of_pos_right _ ha.pos
 have d1 : (Nat.gcd a.p.natAbs b.q : Int) ∣ a.p := Int.ofNat_dvd_left.2 (Nat.gcd_dvd_left _ _)
 have d2 : (Nat.gcd b.p.natAbs a.q : Int) ∣ b.p := Int.ofNat_dvd_left.2 (Nat.gcd_dvd_left _ _)
 have d3 := Nat.gcd_dvd_right a.p.natAbs b.q
 have d4 := Nat.gcd_dvd_right b.p.natAbs a.q
 unfold mkF
 rw [hg, if_neg (by have := Int.mul_nonneg (show (0:Int) ≤ a.q by omega) (show (0:Int) ≤ b.q by omega); omega)]
 generalize Nat.gcd a.p.natAbs b.q = g at *
 generalize Nat.gcd b.p.natAbs a.q = h at *
 obtain ⟨x, hx⟩ := d1
 obtain ⟨y, hy⟩ := d2
 obtain ⟨z, hz⟩ := d3
 obtain ⟨w, hw⟩ := d4
 rw [hx, hy, hz, hw, Int.natAbs_mul, Int.natAbs_natCast, Int.natAbs_natCast, Int.mul_ediv_cancel_left _ (by omega), Int.mul_ediv_cancel_left _ (by omega), Nat.mul_div_cancel_left _ g1, Nat.mul_div_cancel_left _ g2]
 congr 1
 ·rw [show (g : Int) * x * ((h : Int) * y) = ((g * h : Nat) : Int) * (x * y) by rw [Int.natCast_mul]; simp only [Int.mul_assoc, Int.mul_left_comm]]
  exact Int.mul_ediv_cancel_left _ (by have := Nat.mul_pos g1 g2; omega)
 ·rw [show h * w * (g * z) = g * h * (w * z) by simp only [Nat.mul_assoc, Nat.mul_left_comm]]
  exact Nat.mul_div_cancel_left _ (Nat.mul_pos g1 g2)
theorem vl_drop (B : Nat) (l : List Nat) (i : Nat) (hi : i ≤ l.length) : vl B l = vl B (l.take i) + B ^ i * vl B (l.drop i) := by
 conv => lhs; rw [← List.take_append_drop i l]
 rw [vl_append, List.length_take, Nat.min_eq_left hi]
theorem vl_top3 {B : Nat} (hB : 2 ≤ B) {l : List Nat} {n u u1 u2 : Nat} (hl : l.length = n + 3) (hd : ∀ d ∈ l, d < B) (h0 : l[n]? = some u) (h1 : l[n + 1]? = some u1) (h2 : l[n + 2]? = some u2) :
  ((u2 * B + u1) * B + u) * B ^ n ≤ vl B l ∧ vl B l < ((u2 * B + u1) * B + u + 1) * B ^ n := by
 have e := vl_drop B l n (by omega)
 rw [vl_cons_drop h0, vl_cons_drop h1, vl_cons_drop h2, List.drop_eq_nil_of_le (by omega)] at e
 have hlt := vl_lt hB (l.take n) fun d hm => hd d (List.mem_of_mem_take hm)
 rw [List.length_take, Nat.min_eq_left (by omega)] at hlt
 have e2 : u + B * (u1 + B * (u2 + B * vl B [])) = (u2 * B + u1) * B + u := by
  simp only [vl, Nat.mul_zero, Nat.add_zero, Nat.add_mul, Nat.mul_add, Nat.mul_comm, Nat.mul_left_comm, Nat.mul_assoc]; omega
 rw [e2, Nat.mul_comm (B ^ n)] at e
 rw [Nat.add_mul _ 1]
 omega
theorem vl_top2 {B : Nat} (hB : 2 ≤ B) {l : List Nat} {n u u1 : Nat} (hl : l.length = n + 2) (hd : ∀ d ∈ l, d < B) (h0 : l[n]? = some u) (h1 : l[n + 1]? = some u1) :
  (u1 * B + u) * B ^ n ≤ vl B l ∧ vl B l < (u1 * B + u + 1) * B ^ n := by
 have e := vl_drop B l n (by omega)
 rw [vl_cons_drop h0, vl_cons_drop h1, List.drop_eq_nil_of_le (by omega)] at e
 have hlt := vl_lt hB (l.take n) fun d hm => hd d (List.mem_of_mem_take hm)
 rw [List.length_take, Nat.min_eq_left (by omega)] at hlt
 have e2 : u + B * (u1 + B * vl B []) = u1 * B + u := by
  simp only [vl, Nat.mul_zero, Nat.add_zero, Nat.mul_comm]; omega
 rw [e2, Nat.mul_comm (B ^ n)] at e
 rw [Nat.add_mul _ 1]
 omega
theorem dig_bounds {L r b U V : Nat} (hL : 0 < L) (h1 : U * L ≤ r) (h2 : r < (U + 1) * L) (h3 : V * L ≤ b) (h4 : b < (V + 1) * L) (hV : 0 < V) : U / (V + 1) ≤ r / b ∧ r / b ≤ U / V := by
 have hb : 0 < b := by
  have : 1 * L ≤ V * L := Nat.mul_le_mul_right _ hV
  omega
 constructor
 ·rw [Nat.le_div_iff_mul_le hb]
  have e := Nat.div_mul_le_self U (V + 1)
  have h5 : U / (V + 1) * b ≤ U / (V + 1) * ((V + 1) * L) := Nat.mul_le_mul_left _ (by omega)
  have h6 : U / (V + 1) * (V + 1) * L ≤ U * L := Nat.mul_le_mul_right _ e
  rw [Nat.mul_assoc] at h6
  omega
 ·rw [Nat.le_div_iff_mul_le hV]
  have e := Nat.div_mul_le_self r b
  have h5 : r / b * (V * L) ≤ r / b * b := Nat.mul_le_mul_left _ h3
  have h6 : r / b * V * L < (U + 1) * L := by rw [Nat.mul_assoc]; omega
  have := Nat.lt_of_mul_lt_mul_right h6
  omega
theorem quot_lt {r b B : Nat} (h : r < b * B) : r / b < B := by
 rcases Nat.eq_zero_or_pos b with rfl | hb
 ·simp at h
 ·rw [Nat.div_lt_iff_lt_mul hb, Nat.mul_comm]; exact h
theorem long_step {B b x V Q r : Nat} (hb : 0 < b) (h : V = Q * b + r) (hr : r < b) (hx : x < B) :
  x + B * V = ((x + B * r) / b + B * Q) * b + (x + B * r) % b ∧ (x + B * r) % b < b ∧ x + B * r < b * B := by
 have e := Nat.div_add_mod (x + B * r) b
 refine ⟨?_, Nat.mod_lt _ hb, ?_⟩
 ·rw [h, Nat.add_mul, Nat.mul_add, Nat.mul_comm ((x + B * r) / b) b, Nat.mul_assoc]
  omega
 ·have : (r + 1) * B ≤ b * B := Nat.mul_le_mul_right _ hr
  rw [Nat.add_mul, Nat.one_mul, Nat.mul_comm r B] at this
  omega
theorem mkF_neg {p q : Int} (h : q ≠ 0) : mkF (-p) (-q) = mkF p q := by
 unfold mkF
 rw [Int.natAbs_neg, Int.natAbs_neg]
 congr 2
 split <;> split <;> omega
theorem div_turn {a b : Fr} (ha : Can a) (hb : Can b) (h : b.p ≠ 0) : mkF (a.p * (mkF b.q b.p).p) (a.q * (mkF b.q b.p).q) = mkF (a.p * b.q) (a.q * b.p) := by
 have hg : Nat.gcd (b.q : Int).natAbs b.p.natAbs = 1 := by rw [Int.natAbs_natCast, Nat.gcd_comm]; exact hb.cop
 have hm : mkF b.q b.p = ⟨if b.p < 0 then -(b.q : Int) else b.q, b.p.natAbs⟩ := by
  unfold mkF
  rw [hg]; simp
 rw [hm]
 simp only
 rcases Int.lt_or_le b.p 0 with h1 | h1
 ·rw [if_pos h1]
  have hq : (a.q : Int) * b.p ≠ 0 := fun e => by
   have := ha.pos
   rcases Int.mul_eq_zero.1 e with h2 | h2
   ·omega
   ·exact h h2
  rw [show ((b.p.natAbs : Nat) : Int) = -b.p by omega, Int.mul_neg, Int.mul_neg]
  exact mkF_neg hq
 ·rw [if_neg (by omega), show ((b.p.natAbs : Nat) : Int) = b.p by omega]
theorem up_step {B p q x y V : Nat} (hpq : p * q = B) (hp : 0 < p) : ((x * p) % B + y) + B * (V * p + x / q) = (x + B * V) * p + y := by
 have h1 : x * p / B = x / q := by rw [← hpq, Nat.mul_comm x p, Nat.mul_div_mul_left _ _ hp]
 have e := Nat.mod_add_div (x * p) B
 rw [h1] at e
 rw [Nat.add_mul, Nat.mul_add, Nat.mul_assoc]
 omega
theorem up_digit {B p q x y : Nat} (hpq : p * q = B) (hp : 0 < p) (hq : 0 < q) (hy : y < B) : (x * p) % B + y / q < B ∧ p ∣ (x * p) % B ∧ y / q < p := by
 have h1 : y / q < p := by rw [Nat.div_lt_iff_lt_mul hq]; omega
 have h2 : p ∣ (x * p) % B := (Nat.dvd_mod_iff ⟨q, hpq.symm⟩).2 ⟨x, Nat.mul_comm _ _⟩
 refine ⟨?_, h2, h1⟩
 obtain ⟨k, hk⟩ := h2
 have h3 : (x * p) % B < B := Nat.mod_lt _ (by rw [← hpq]; exact Nat.mul_pos hp hq)
 rw [hk, ← hpq] at h3 ⊢
 have h4 : k < q := Nat.lt_of_mul_lt_mul_left h3
 have h5 : p * (k + 1) ≤ p * q := Nat.mul_le_mul_left _ h4
 rw [Nat.mul_add, Nat.mul_one] at h5
 omega
theorem down_step {B p q x Y y : Nat} (hpq : p * q = B) (hp : 0 < p) (hy : Y % B = y) : (x + B * Y) / p = (x / p + (y * q) % B) + B * (Y / p) := by
 have hB : B = q * p := by rw [← hpq, Nat.mul_comm]
 have e1 : (x + B * Y) / p = x / p + q * Y := by
  rw [hB, Nat.mul_comm q p, Nat.mul_assoc, Nat.add_mul_div_left _ _ hp]
 have e2 : q * Y = (y * q) % B + B * (Y / p) := by
  rw [← hy]
  have h1 := Nat.mod_add_div Y p
  have h2 : q * Y = q * (Y % p) + B * (Y / p) := by
   conv => lhs; rw [← h1]
   rw [Nat.mul_add, ← Nat.mul_assoc, ← hB]
  have h3 : Y % B * q % B = q * (Y % p) := by
   rw [Nat.mul_comm _ q, hB, Nat.mul_mod_mul_left]
   congr 1
   rw [← hB, ← hpq]
   exact Nat.mod_mul_right_mod Y p q
  rw [h3, h2]
 rw [e1, e2]
 omega
theorem or_add {x y k : Nat} (h1 : 2 ^ k ∣ x) (h2 : y < 2 ^ k) : x ||| y = x + y := by
 obtain ⟨a, rfl⟩ := h1
 rw [Nat.mul_comm, ← Nat.shiftLeft_eq, ← Nat.shiftLeft_add_eq_or_of_lt h2]
theorem pow_split {k n : Nat} (h : k ≤ n) : 2 ^ k * 2 ^ (n - k) = 2 ^ n := by rw [← Nat.pow_add]; congr 1; omega
end Go.Ax
namespace Go.Ax
def verQ (up lo r : Rat) : Nat := if up ≤ r then 1 else if r ≤ lo then 2 else 0
def chQ (hit miss up lo : Rat) (v : Nat) (p : Rat) : Nat → Nat → Rat → Rat
 | m, d, r => if d = v then 1 else if d ≠ 0 then 0 else match m with
  | 0 => 0
  | m + 1 => p * chQ hit miss up lo v p m (verQ up lo (r * hit)) (r * hit) + (1 - p) * chQ hit miss up lo v p m (verQ up lo (r * miss)) (r * miss)
section
variable {hit miss up lo low claim : Rat}
theorem verQ_one {r : Rat} (h : verQ up lo r = 1) : up ≤ r := by
 unfold verQ at h
 split at h
 ·assumption
 ·split at h <;> cases h
theorem verQ_two {r : Rat} (h : verQ up lo r = 2) : r ≤ lo := by
 unfold verQ at h
 split at h
 ·cases h
 ·split at h
  ·assumption
  ·cases h
theorem ch_holds (h1 : hit * low = claim) (h2 : miss * (1 - low) = 1 - claim) (hl : 0 < low) (hl1 : low < 1) (hh : 0 ≤ hit) (hm : 0 ≤ miss) : ∀ (m d : Nat) (r : Rat), 0 ≤ r → (d = 1 → up ≤ r) → chQ hit miss up lo 1 low m d r * up ≤ r := by
 intro m
 induction m with
 | zero =>
  intro d r h0 hd
  unfold chQ
  split
  ·rename_i e; have := hd e; grind
  ·split <;> grind
 | succ m ih =>
  intro d r h0 hd
  unfold chQ
  split
  ·rename_i e; have := hd e; grind
  ·split
   ·grind
   ·have p1 : 0 ≤ r * hit := Rat.mul_nonneg h0 hh
    have p2 : 0 ≤ r * miss := Rat.mul_nonneg h0 hm
    have a := ih (verQ up lo (r * hit)) (r * hit) p1 verQ_one
    have b := ih (verQ up lo (r * miss)) (r * miss) p2 verQ_one
    simp only
    generalize chQ hit miss up lo 1 low m (verQ up lo (r * hit)) (r * hit) = f at a ⊢
    generalize chQ hit miss up lo 1 low m (verQ up lo (r * miss)) (r * miss) = g at b ⊢
    have a2 : low * (f * up) ≤ low * (r * hit) := Rat.mul_le_mul_of_nonneg_left a (by grind)
    have b2 : (1 - low) * (g * up) ≤ (1 - low) * (r * miss) := Rat.mul_le_mul_of_nonneg_left b (by grind)
    have e : r * (hit * low) + r * (miss * (1 - low)) = r := by rw [h1, h2]; grind
    grind
theorem ch_fails (h1 : hit * low = claim) (h2 : miss * (1 - low) = 1 - claim) (hl : 0 < low) (hl1 : low < 1) (hh : 0 ≤ hit) (hm : 0 ≤ miss) (hlo : 0 < lo) : ∀ (m d : Nat) (r : Rat), 0 ≤ r → (d = 2 → r ≤ lo) → chQ hit miss up lo 2 claim m d r * r ≤ lo := by
 intro m
 induction m with
 | zero =>
  intro d r h0 hd
  unfold chQ
  split
  ·rename_i e; have := hd e; grind
  ·split <;> grind
 | succ m ih =>
  intro d r h0 hd
  unfold chQ
  split
  ·rename_i e; have := hd e; grind
  ·split
   ·grind
   ·have p1 : 0 ≤ r * hit := Rat.mul_nonneg h0 hh
    have p2 : 0 ≤ r * miss := Rat.mul_nonneg h0 hm
    have a := ih (verQ up lo (r * hit)) (r * hit) p1 verQ_two
    have b := ih (verQ up lo (r * miss)) (r * miss) p2 verQ_two
    simp only
    generalize chQ hit miss up lo 2 claim m (verQ up lo (r * hit)) (r * hit) = f at a ⊢
    generalize chQ hit miss up lo 2 claim m (verQ up lo (r * miss)) (r * miss) = g at b ⊢
    have a2 : low * (f * (r * hit)) ≤ low * lo := Rat.mul_le_mul_of_nonneg_left a (by grind)
    have b2 : (1 - low) * (g * (r * miss)) ≤ (1 - low) * lo := Rat.mul_le_mul_of_nonneg_left b (by grind)
    have e1 : claim * f * r = low * (f * (r * hit)) := by rw [← h1]; grind
    have e2 : (1 - claim) * g * r = (1 - low) * (g * (r * miss)) := by rw [← h2]; grind
    grind
end
end Go.Ax
namespace Go.Ax
open Go
def valF (a : Fr) : Rat := (a.p : Rat) / ((a.q : Int) : Rat)
theorem cast_pos {n : Nat} (h : 0 < n) : (0 : Rat) < ((n : Int) : Rat) := by
 have : ((0 : Int) : Rat) < ((n : Int) : Rat) := Rat.intCast_lt_intCast.2 (by omega)
 exact this
theorem cast_ne {n : Int} (h : n ≠ 0) : ((n : Int) : Rat) ≠ 0 := fun e => h (Rat.intCast_inj.1 (by rw [e]; rfl))
theorem valF_mk {p q : Int} (h : q ≠ 0) : valF (mkF p q) = (p : Rat) / (q : Rat) := by
 have hq : 0 < q.natAbs := Int.natAbs_pos.2 h
 have hg : 0 < Nat.gcd p.natAbs q.natAbs := Nat.gcd_pos_of_pos_right _ hq
 obtain ⟨x, hx⟩ := Int.ofNat_dvd_left.2 (Nat.gcd_dvd_left p.natAbs q.natAbs)
 obtain ⟨y, hy⟩ := Nat.gcd_dvd_right p.natAbs q.natAbs
 unfold valF mkF
 generalize Nat.gcd p.natAbs q.natAbs = g at *
 simp only
 have e2 : q.natAbs / g = y := by rw [hy, Nat.mul_div_cancel_left _ hg]
 have hy0 : 0 < y := by
  rcases Nat.eq_zero_or_pos y with e | e
  ·rw [e] at hy; simp at hy; omega
  ·exact e
 have gp := cast_pos hg
 have yp := cast_pos hy0
 rw [e2]
 rcases Int.lt_or_le q 0 with h1 | h1
 ·rw [if_pos h1, show -p = (g : Int) * (-x) by rw [hx]; simp [Int.mul_neg], Int.mul_ediv_cancel_left _ (by omega)]
  have e3 : q = -((g : Int) * (y : Int)) := by rw [← Int.natCast_mul, ← hy]; omega
  rw [hx, e3]
  simp only [Rat.intCast_neg, Rat.intCast_mul]
  grind
 ·rw [if_neg (by omega), hx, Int.mul_ediv_cancel_left _ (by omega)]
  have e3 : q = (g : Int) * (y : Int) := by rw [← Int.natCast_mul, ← hy]; omega
  rw [e3]
  simp only [Rat.intCast_mul]
  grind
theorem valF_lt {a b : Fr} (ha : 0 < a.q) (hb : 0 < b.q) : valF a < valF b ↔ a.p * b.q < b.p * a.q := by
 have a1 := cast_pos ha
 have b1 := cast_pos hb
 unfold valF
 rw [Rat.div_lt_iff a1]
 have e : (b.p : Rat) / ((b.q : Int) : Rat) * ((a.q : Int) : Rat) = ((b.p : Rat) * ((a.q : Int) : Rat)) / ((b.q : Int) : Rat) := by grind
 rw [e, Rat.lt_div_iff b1, ← Rat.intCast_mul, ← Rat.intCast_mul, Rat.intCast_lt_intCast]
theorem cmpF_lt {a b : Fr} (ha : 0 < a.q) (hb : 0 < b.q) : cmpF a b < 0 ↔ valF a < valF b := by
 rw [valF_lt ha hb]
 unfold cmpF cmpJ
 split <;> (try split) <;> omega
theorem cmpF_gt {a b : Fr} (ha : 0 < a.q) (hb : 0 < b.q) : 0 < cmpF a b ↔ valF b < valF a := by
 rw [valF_lt hb ha]
 unfold cmpF cmpJ
 split <;> (try split) <;> omega
theorem valF_z : valF zF = 0 := by unfold valF zF; grind
theorem valF_pos {a : Fr} (ha : 0 < a.q) : 0 < valF a ↔ 0 < a.p := by
 have := valF_lt (a := zF) (b := a) (by decide) ha
 rw [valF_z] at this
 rw [this]
 simp [zF]
theorem valF_mul {a b : Fr} (ha : 0 < a.q) (hb : 0 < b.q) : valF (mkF (a.p * b.p) (a.q * b.q)) = valF a * valF b := by
 have a1 := cast_pos ha
 have b1 := cast_pos hb
 rw [valF_mk (by have := Int.mul_pos (show (0 : Int) < a.q by omega) (show (0 : Int) < b.q by omega); omega)]
 unfold valF
 simp only [Rat.intCast_mul]
 grind
theorem valF_div {a b : Fr} (ha : 0 < a.q) (hb : 0 < b.q) (h : b.p ≠ 0) : valF (mkF (a.p * b.q) (a.q * b.p)) = valF a / valF b := by
 have a1 := cast_pos ha
 have b1 := cast_pos hb
 have c1 := cast_ne h
 have a2 : (a.q : Int) ≠ 0 := by omega
 rw [valF_mk (Int.mul_ne_zero a2 h)]
 unfold valF
 simp only [Rat.intCast_mul]
 grind
theorem valF_sum {a b : Fr} (ha : 0 < a.q) (hb : 0 < b.q) : valF (mkF (a.p * (b.q / Nat.gcd a.q b.q : Nat) + b.p * (a.q / Nat.gcd a.q b.q : Nat)) ((a.q / Nat.gcd a.q b.q : Nat) * b.q)) = valF a + valF b := by
 have hg : 0 < Nat.gcd a.q b.q := Nat.gcd_pos_of_pos_left _ ha
 obtain ⟨x, hx⟩ := Nat.gcd_dvd_left a.q b.q
 obtain ⟨y, hy⟩ := Nat.gcd_dvd_right a.q b.q
 unfold valF
 generalize Nat.gcd a.q b.q = g at *
 have e1 : a.q / g = x := by rw [hx, Nat.mul_div_cancel_left _ hg]
 have e2 : b.q / g = y := by rw [hy, Nat.mul_div_cancel_left _ hg]
 have x0 : 0 < x := by
  rcases Nat.eq_zero_or_pos x with e | e
  ·rw [e] at hx; simp at hx; omega
  ·exact e
 have y0 : 0 < y := by
  rcases Nat.eq_zero_or_pos y with e | e
  ·rw [e] at hy; simp at hy; omega
  ·exact e
 have gp := cast_pos hg
 have xp := cast_pos x0
 have yp := cast_pos y0
 rw [e1, e2]
 have := valF_mk (p := a.p * (y : Nat) + b.p * (x : Nat)) (q := (x : Int) * b.q) (Int.mul_ne_zero (by omega) (by omega))
 unfold valF at this
 rw [this, hx, hy]
 simp only [Rat.intCast_mul, Rat.intCast_add, Int.natCast_mul]
 grind
theorem valF_negF (a : Fr) : valF (negF a) = - valF a := by
 unfold valF negF
 simp only [Rat.intCast_neg]
 grind
structure Sz (n : Nat) (a : Fr) : Prop where
 num : a.p.natAbs ≤ 2 ^ n
 pos : 0 < a.q
 den : a.q ≤ 2 ^ n
theorem fits_l {z : Int} {n m : Nat} (hm : limN = 2 ^ m) (h : z.natAbs ≤ 2 ^ n) (hn : n < m) : fits z = true := by
 unfold fits
 rw [hm]
 exact decide_eq_true (Nat.lt_of_le_of_lt h (Nat.pow_lt_pow_right (by omega) hn))
theorem fits_le {z : Int} {n : Nat} (h : z.natAbs ≤ 2 ^ n) (hn : n < 16384) : fits z = true := fits_l limN_eq h hn
theorem mkF_num (p q : Int) : (mkF p q).p.natAbs ≤ p.natAbs := by
 unfold mkF
 simp only
 have e : (if q < 0 then -p else p).natAbs = p.natAbs := by split <;> simp
 rw [natAbs_ediv_nat _ _ (by rw [e]; exact Nat.gcd_dvd_left _ _), e]
 exact Nat.div_le_self _ _
theorem mkF_den (p q : Int) : (mkF p q).q ≤ q.natAbs := by
 unfold mkF
 exact Nat.div_le_self _ _
theorem mkF_sz {p q : Int} {n : Nat} (h0 : q ≠ 0) (hp : p.natAbs ≤ 2 ^ n) (hq : q.natAbs ≤ 2 ^ n) : Sz n (mkF p q) :=
 ⟨Nat.le_trans (mkF_num p q) hp, (mkF_can h0).pos, Nat.le_trans (mkF_den p q) hq⟩
theorem rngF_sz {n : Nat} {a : Fr} (h : Sz n a) (hn : n < 16384) : rngF a = (a, 0) := by
 unfold rngF
 rw [if_pos ⟨fits_le h.num hn, fits_le (by rw [Int.natAbs_natCast]; exact h.den) hn⟩]
theorem two_mul_le {a b x y n m : Nat} (h1 : a ≤ 2 ^ n) (h2 : b ≤ 2 ^ m) (e : x = a * b) (hy : y = n + m) : x ≤ 2 ^ y := by
 rw [e, hy, Nat.pow_add]; exact Nat.mul_le_mul h1 h2
theorem mulF_sz {n m : Nat} {a b : Fr} (ha : Sz n a) (hb : Sz m b) (h : n + m < 16384) : mulF a b = (mkF (a.p * b.p) (a.q * b.q), 0) ∧ Sz (n + m) (mkF (a.p * b.p) (a.q * b.q)) := by
 have h0 : (a.q : Int) * b.q ≠ 0 := Int.mul_ne_zero (by have := ha.pos; omega) (by have := hb.pos; omega)
 have hs : Sz (n + m) (mkF (a.p * b.p) (a.q * b.q)) := mkF_sz h0 (two_mul_le ha.num hb.num (Int.natAbs_mul _ _) rfl) (two_mul_le ha.den hb.den (by rw [Int.natAbs_mul]; rfl) rfl)
 exact ⟨rngF_sz hs h, hs⟩
theorem divF_sz {n m : Nat} {a b : Fr} (ha : Sz n a) (hb : Sz m b) (hz : b.p ≠ 0) (h : n + m < 16384) : divF a b = (mkF (a.p * b.q) (a.q * b.p), 0) ∧ Sz (n + m) (mkF (a.p * b.q) (a.q * b.p)) := by
 have h0 : (a.q : Int) * b.p ≠ 0 := Int.mul_ne_zero (by have := ha.pos; omega) hz
 have hs : Sz (n + m) (mkF (a.p * b.q) (a.q * b.p)) := mkF_sz h0 (two_mul_le ha.num hb.den (by rw [Int.natAbs_mul]; rfl) rfl) (two_mul_le ha.den hb.num (by rw [Int.natAbs_mul]; rfl) rfl)
 unfold divF
 rw [if_neg hz]
 exact ⟨rngF_sz hs h, hs⟩
theorem sum_le {x y : Int} {n : Nat} (h1 : x.natAbs ≤ 2 ^ n) (h2 : y.natAbs ≤ 2 ^ n) : (x + y).natAbs ≤ 2 ^ (n + 1) := by
 have := Int.natAbs_add_le x y
 rw [Nat.pow_succ]; omega
theorem addF_sz {n m : Nat} {a b : Fr} (ha : Sz n a) (hb : Sz m b) (h : n + m + 1 < 16384) :
  addF a b = (mkF (a.p * (b.q / Nat.gcd a.q b.q : Nat) + b.p * (a.q / Nat.gcd a.q b.q : Nat)) ((a.q / Nat.gcd a.q b.q : Nat) * b.q), 0) ∧
   Sz (n + m + 1) (mkF (a.p * (b.q / Nat.gcd a.q b.q : Nat) + b.p * (a.q / Nat.gcd a.q b.q : Nat)) ((a.q / Nat.gcd a.q b.q : Nat) * b.q)) := by
 have hg : 0 < Nat.gcd a.q b.q := Nat.gcd_pos_of_pos_left _ ha.pos
 have s1 : b.q / Nat.gcd a.q b.q ≤ 2 ^ m := Nat.le_trans (Nat.div_le_self _ _) hb.den
 have s2 : a.q / Nat.gcd a.q b.q ≤ 2 ^ n := Nat.le_trans (Nat.div_le_self _ _) ha.den
 have s3 : 0 < a.q / Nat.gcd a.q b.q := Nat.div_pos (Nat.gcd_le_left _ ha.pos) hg
 have l1 : (a.p * (b.q / Nat.gcd a.q b.q : Nat)).natAbs ≤ 2 ^ (n + m) := two_mul_le ha.num s1 (by rw [Int.natAbs_mul]; rfl) rfl
 have l2 : (b.p * (a.q / Nat.gcd a.q b.q : Nat)).natAbs ≤ 2 ^ (n + m) := two_mul_le hb.num s2 (by rw [Int.natAbs_mul]; rfl) (by omega)
 have l3 : (((a.q / Nat.gcd a.q b.q : Nat) : Int) * b.q).natAbs ≤ 2 ^ (n + m) := two_mul_le s2 hb.den (by rw [Int.natAbs_mul]; rfl) rfl
 have l4 := sum_le l1 l2
 have h0 : ((a.q / Nat.gcd a.q b.q : Nat) : Int) * b.q ≠ 0 := Int.mul_ne_zero (by omega) (by have := hb.pos; omega)
 refine ⟨?_, mkF_sz h0 l4 (Nat.le_trans l3 (Nat.pow_le_pow_right (by omega) (by omega)))⟩
 unfold addF
 simp only
 rw [if_pos ⟨fits_le l1 (by omega), fits_le l2 (by omega), fits_le (by exact l3) (by omega), fits_le l4 (by omega)⟩]
theorem Sz.mono {n m : Nat} {a : Fr} (h : Sz n a) (hm : n ≤ m) : Sz m a :=
 ⟨Nat.le_trans h.num (Nat.pow_le_pow_right (by omega) hm), h.pos, Nat.le_trans h.den (Nat.pow_le_pow_right (by omega) hm)⟩
theorem negF_sz {n : Nat} {a : Fr} (h : Sz n a) : Sz n (negF a) := ⟨by unfold negF; simp only [Int.natAbs_neg]; exact h.num, h.pos, h.den⟩
theorem zF_sz : Sz 0 zF := ⟨by decide, by decide, by decide⟩
def oneF : Fr := ⟨1, 1⟩
theorem oneF_sz : Sz 0 oneF := ⟨by decide, by decide, by decide⟩
theorem oneF_can : Can oneF := ⟨by decide, by decide⟩
theorem valF_one : valF oneF = 1 := by unfold valF oneF; grind
structure Tst where
 hit : Fr
 miss : Fr
 upper : Fr
 lower : Fr
 ratio : Fr
 verdict : Nat
 runs : Nat
 hits : Nat
def verF (up lo r : Fr) : Nat := if 0 ≤ cmpF r up then 1 else if cmpF r lo ≤ 0 then 2 else 0
def feedT (t : Tst) (b : Bool) : Tst × Int × Int :=
  if t.verdict ≠ 0 then (t, t.verdict, 25)
  else if (mulF t.ratio (if b then t.hit else t.miss)).2 ≠ 0 then (t, 0, (mulF t.ratio (if b then t.hit else t.miss)).2)
  else
    ({ t with ratio := (mulF t.ratio (if b then t.hit else t.miss)).1, runs := t.runs + 1, hits := if b then t.hits + 1 else t.hits,
              verdict := verF t.upper t.lower (mulF t.ratio (if b then t.hit else t.miss)).1 },
     verF t.upper t.lower (mulF t.ratio (if b then t.hit else t.miss)).1, 0)
def newT (claim low alpha beta : Fr) : Option Tst × Int :=
 if sgnF low ≤ 0 ∨ 0 ≤ cmpF low claim ∨ 0 < cmpF claim oneF ∨ sgnF alpha ≤ 0 ∨ sgnF beta ≤ 0 then (none, 1)
 else if (addF alpha beta).2 ≠ 0 then (none, (addF alpha beta).2)
 else if 0 ≤ cmpF (addF alpha beta).1 oneF then (none, 1)
 else
  let a := subF oneF beta
  let b := subF oneF alpha
  let c := subF oneF claim
  let d := subF oneF low
  if a.2 ≠ 0 ∨ b.2 ≠ 0 ∨ c.2 ≠ 0 ∨ d.2 ≠ 0 ∨ (divF a.1 alpha).2 ≠ 0 ∨ (divF beta b.1).2 ≠ 0 ∨ (divF claim low).2 ≠ 0 ∨ (divF c.1 d.1).2 ≠ 0 then (none, 4)
  else (some ⟨(divF claim low).1, (divF c.1 d.1).1, (divF a.1 alpha).1, (divF beta b.1).1, oneF, 0, 0, 0⟩, 0)
def chF (v : Nat) (p : Fr) : Nat → Tst → Fr
 | m, t => if t.verdict = v then oneF else if t.verdict ≠ 0 then zF else match m with
  | 0 => zF
  | m + 1 => (addF (mulF p (chF v p m (feedT t true).1)).1 (mulF (subF oneF p).1 (chF v p m (feedT t false).1)).1).1
theorem verF_val {up lo r : Fr} (h1 : 0 < up.q) (h2 : 0 < lo.q) (h3 : 0 < r.q) : verF up lo r = verQ (valF up) (valF lo) (valF r) := by
 unfold verF verQ
 have a := cmpF_lt h3 h1
 have b := cmpF_gt h3 h2
 by_cases c1 : valF up ≤ valF r
 ·rw [if_pos c1, if_pos]
  have : ¬ cmpF r up < 0 := fun h => by have := a.1 h; grind
  omega
 ·rw [if_neg c1, if_neg (by have := a.2 (by grind); omega)]
  by_cases c2 : valF r ≤ valF lo
  ·rw [if_pos c2, if_pos]
   have : ¬ 0 < cmpF r lo := fun h => by have := b.1 h; grind
   omega
  ·rw [if_neg c2, if_neg (by have := b.2 (by grind); omega)]
structure TstIn (n : Nat) (t : Tst) : Prop where
 hit : Sz 12 t.hit
 miss : Sz 12 t.miss
 up : 0 < t.upper.q
 lo : 0 < t.lower.q
 ratio : Sz n t.ratio
theorem feed_open {n : Nat} {t : Tst} (h : TstIn n t) (hn : n + 12 < 16384) (hv : t.verdict = 0) (b : Bool) :
  TstIn (n + 12) (feedT t b).1 ∧ valF (feedT t b).1.ratio = valF t.ratio * valF (if b then t.hit else t.miss) ∧ (feedT t b).1.verdict = verQ (valF t.upper) (valF t.lower) (valF (feedT t b).1.ratio) ∧
   (feedT t b).1.hit = t.hit ∧ (feedT t b).1.miss = t.miss ∧ (feedT t b).1.upper = t.upper ∧ (feedT t b).1.lower = t.lower ∧ (feedT t b).2.2 = 0 ∧ (feedT t b).2.1 = (feedT t b).1.verdict ∧
   (feedT t b).1.ratio = mkF (t.ratio.p * (if b then t.hit else t.miss).p) (t.ratio.q * (if b then t.hit else t.miss).q) ∧ (feedT t b).1.runs = t.runs + 1 ∧ (feedT t b).1.hits = (if b then t.hits + 1 else t.hits) := by
 have hb : Sz 12 (if b then t.hit else t.miss) := by split; exact h.hit; exact h.miss
 obtain ⟨e1, e2⟩ := mulF_sz h.ratio hb hn
 have e3 := valF_mul h.ratio.pos hb.pos
 unfold feedT
 rw [if_neg (by rw [hv]; simp), e1, if_neg (by simp)]
 exact ⟨⟨h.hit, h.miss, h.up, h.lo, e2⟩, e3, verF_val h.up h.lo e2.pos, rfl, rfl, rfl, rfl, rfl, rfl, rfl, rfl, rfl⟩
theorem feed_done {t : Tst} (hv : t.verdict ≠ 0) (b : Bool) : feedT t b = (t, (t.verdict : Int), 25) := by unfold feedT; rw [if_pos hv]
def cS : Nat → Nat
 | 0 => 0
 | m + 1 => 22 + 2 * cS m
theorem ch_val {v : Nat} {p : Fr} (hp : Sz 10 p) : ∀ (m n : Nat) (t : Tst), TstIn n t → n + 12 * m < 16384 → cS m < 16384 →
  Sz (cS m) (chF v p m t) ∧ valF (chF v p m t) = chQ (valF t.hit) (valF t.miss) (valF t.upper) (valF t.lower) v (valF p) m t.verdict (valF t.ratio) := by
 intro m
 induction m with
 | zero =>
  intro n t _ _ _
  unfold chF chQ
  split
  ·exact ⟨oneF_sz, valF_one⟩
  ·split
   ·exact ⟨zF_sz, valF_z⟩
   ·exact ⟨zF_sz, valF_z⟩
 | succ m ih =>
  intro n t h hn hc
  unfold chF chQ
  split
  ·exact ⟨oneF_sz.mono (Nat.zero_le _), valF_one⟩
  ·split
   ·exact ⟨zF_sz.mono (Nat.zero_le _), valF_z⟩
   ·rename_i hv
    have hv : t.verdict = 0 := Decidable.not_not.1 hv
    simp only [cS] at hc ⊢
    obtain ⟨a1, a2, a3, a4, a5, a6, a7, -⟩ := feed_open h (by omega) hv true
    obtain ⟨b1, b2, b3, b4, b5, b6, b7, -⟩ := feed_open h (by omega) hv false
    obtain ⟨s1, e1⟩ := ih (n + 12) _ a1 (by omega) (by omega)
    obtain ⟨s2, e2⟩ := ih (n + 12) _ b1 (by omega) (by omega)
    rw [a4, a5, a6, a7, a3, a2] at e1
    rw [b4, b5, b6, b7, b3, b2] at e2
    obtain ⟨m1, m2⟩ := mulF_sz hp s1 (by omega)
    have m3 := valF_mul hp.pos s1.pos
    obtain ⟨q1, q2⟩ := addF_sz (a := oneF) (b := negF p) oneF_sz (negF_sz hp) (by omega)
    have q3 := valF_sum (a := oneF) (b := negF p) oneF_sz.pos hp.pos
    have q4 : (subF oneF p).1 = _ := congrArg Prod.fst q1
    simp only at q4
    rw [← q4] at q2 q3
    rw [valF_one, valF_negF] at q3
    obtain ⟨w1, w2⟩ := mulF_sz q2 s2 (by omega)
    have w3 := valF_mul q2.pos s2.pos
    have m4 : (mulF p (chF v p m (feedT t true).1)).1 = _ := congrArg Prod.fst m1
    have w4 : (mulF (subF oneF p).1 (chF v p m (feedT t false).1)).1 = _ := congrArg Prod.fst w1
    simp only at m4 w4
    rw [← m4] at m2 m3
    rw [← w4] at w2 w3
    obtain ⟨z1, z2⟩ := addF_sz m2 w2 (by omega)
    have z3 := valF_sum m2.pos w2.pos
    have z4 := congrArg Prod.fst z1
    simp only at z4
    rw [← z4] at z2 z3
    refine ⟨z2.mono (by omega), ?_⟩
    rw [z3, m3, w3, q3, e1, e2]
    simp only [if_true, Bool.false_eq_true, if_false]
    grind
theorem sub_val {n m : Nat} {a b : Fr} (ha : Sz n a) (hb : Sz m b) (h : n + m + 1 < 16384) : (subF a b).2 = 0 ∧ Sz (n + m + 1) (subF a b).1 ∧ valF (subF a b).1 = valF a - valF b := by
 obtain ⟨q1, q2⟩ := addF_sz ha (negF_sz hb) h
 have q3 := valF_sum ha.pos (negF_sz hb).pos
 have q4 : (subF a b).1 = _ := congrArg Prod.fst q1
 have q5 : (subF a b).2 = _ := congrArg Prod.snd q1
 simp only at q4 q5
 rw [← q4] at q2 q3
 rw [valF_negF] at q3
 exact ⟨q5, q2, by rw [q3]; grind⟩
theorem div_val {n m : Nat} {a b : Fr} (ha : Sz n a) (hb : Sz m b) (hz : valF b ≠ 0) (h : n + m < 16384) : (divF a b).2 = 0 ∧ Sz (n + m) (divF a b).1 ∧ valF (divF a b).1 * valF b = valF a := by
 have hp : b.p ≠ 0 := fun e => hz (by unfold valF; rw [e]; simp [Rat.div_def])
 obtain ⟨q1, q2⟩ := divF_sz ha hb hp h
 have q3 := valF_div ha.pos hb.pos hp
 have q4 : (divF a b).1 = _ := congrArg Prod.fst q1
 have q5 : (divF a b).2 = _ := congrArg Prod.snd q1
 simp only at q4 q5
 rw [← q4] at q2 q3
 exact ⟨q5, q2, by rw [q3]; grind⟩
structure TstOK (claim low alpha beta : Rat) (T : Tst) : Prop where
 sz : TstIn 0 T
 ver : T.verdict = 0
 rat : T.ratio = oneF
 low0 : 0 < low
 lowc : low < claim
 clm : claim ≤ 1
 alp : 0 < alpha
 bet : 0 < beta
 sum : alpha + beta < 1
 hit : valF T.hit * low = claim
 miss : valF T.miss * (1 - low) = 1 - claim
 up : valF T.upper * alpha = 1 - beta
 lo : valF T.lower * (1 - alpha) = beta
theorem new_ok {claim low alpha beta : Fr} (h1 : Sz 5 claim) (h2 : Sz 5 low) (h3 : Sz 5 alpha) (h4 : Sz 5 beta) {T : Tst} {e : Int} (h : newT claim low alpha beta = (some T, e)) : TstOK (valF claim) (valF low) (valF alpha) (valF beta) T := by
 unfold newT at h
 split at h
 ·cases h
 ·rename_i c1
  simp only [not_or] at c1
  obtain ⟨a1, a2, a3, a4, a5⟩ := c1
  split at h
  ·cases h
  ·split at h
   ·cases h
   ·rename_i c2 c3
    have v1 : 0 < valF low := (valF_pos h2.pos).2 (by unfold sgnF cmpJ at a1; split at a1 <;> (try split at a1) <;> omega)
    have v2 : valF low < valF claim := (cmpF_lt h2.pos h1.pos).1 (by omega)
    have v3 : valF claim ≤ 1 := by
     have := cmpF_gt h1.pos oneF_sz.pos
     rw [valF_one] at this
     have h5 := fun x => a3 (this.2 x)
     grind
    have v4 : 0 < valF alpha := (valF_pos h3.pos).2 (by unfold sgnF cmpJ at a4; split at a4 <;> (try split at a4) <;> omega)
    have v5 : 0 < valF beta := (valF_pos h4.pos).2 (by unfold sgnF cmpJ at a5; split at a5 <;> (try split at a5) <;> omega)
    obtain ⟨q1, q2⟩ := addF_sz h3 h4 (by omega)
    have q3 := valF_sum h3.pos h4.pos
    have q4 := congrArg Prod.fst q1
    simp only at q4
    rw [← q4] at q2 q3
    have v6 : valF alpha + valF beta < 1 := by
     have := (cmpF_lt q2.pos oneF_sz.pos).1 (by omega)
     rw [valF_one, q3] at this
     exact this
    obtain ⟨b1, b2, b3⟩ := sub_val oneF_sz h4 (by omega)
    obtain ⟨d1, d2, d3⟩ := sub_val oneF_sz h3 (by omega)
    obtain ⟨f1, f2, f3⟩ := sub_val oneF_sz h1 (by omega)
    obtain ⟨g1, g2, g3⟩ := sub_val oneF_sz h2 (by omega)
    rw [valF_one] at b3 d3 f3 g3
    obtain ⟨u1, u2, u3⟩ := div_val b2 h3 (by grind) (by omega)
    obtain ⟨l1, l2, l3⟩ := div_val h4 d2 (by grind) (by omega)
    obtain ⟨i1, i2, i3⟩ := div_val h1 h2 (by grind) (by omega)
    obtain ⟨m1, m2, m3⟩ := div_val f2 g2 (by grind) (by omega)
    have i4 : Sz 12 (divF claim low).1 := i2.mono (by omega)
    have m4 : Sz 12 (divF (subF oneF claim).1 (subF oneF low).1).1 := m2.mono (by omega)
    simp only [b1, d1, f1, g1, u1, l1, i1, m1, ne_eq, not_true_eq_false, or_self, if_false] at h
    simp only [Prod.mk.injEq, Option.some.injEq] at h
    have hT := h.1
    clear h
    have w1 : valF (divF (subF oneF claim).1 (subF oneF low).1).1 * (1 - valF low) = 1 - valF claim := by rw [← f3, ← m3, g3]
    have w2 : valF (divF (subF oneF beta).1 alpha).1 * valF alpha = 1 - valF beta := by rw [u3, b3]
    have w3 : valF (divF beta (subF oneF alpha).1).1 * (1 - valF alpha) = valF beta := by rw [← d3]; exact l3
    have w4 := u2.pos
    have w5 := l2.pos
    generalize (divF claim low).1 = x1 at *
    generalize (divF (subF oneF claim).1 (subF oneF low).1).1 = x2 at *
    generalize (divF (subF oneF beta).1 alpha).1 = x3 at *
    generalize (divF beta (subF oneF alpha).1).1 = x4 at *
    subst hT
    exact ⟨⟨i4, m4, w4, w5, oneF_sz⟩, rfl, rfl, v1, v2, v3, v4, v5, v6, i3, w1, w2, w3⟩
def Behind (t c : Tst) : Prop := (t.verdict = 0 ∧ c.verdict = 0 ∧ 0 ≤ valF t.ratio ∧ valF t.ratio ≤ valF c.ratio) ∨ c.verdict = 1 ∨ t.verdict = 2
structure SameT (t c : Tst) : Prop where
 hit : t.hit = c.hit
 miss : t.miss = c.miss
 up : t.upper = c.upper
 lo : t.lower = c.lower
theorem feed_same {t : Tst} (b : Bool) : (feedT t b).1.hit = t.hit ∧ (feedT t b).1.miss = t.miss ∧ (feedT t b).1.upper = t.upper ∧ (feedT t b).1.lower = t.lower := by
 unfold feedT
 generalize mulF t.ratio (if b then t.hit else t.miss) = r
 split
 ·exact ⟨rfl, rfl, rfl, rfl⟩
 ·split <;> exact ⟨rfl, rfl, rfl, rfl⟩
theorem SameT.feed {t c : Tst} (h : SameT t c) (a b : Bool) : SameT (feedT t a).1 (feedT c b).1 := by
 obtain ⟨x1, x2, x3, x4⟩ := feed_same (t := t) a
 obtain ⟨y1, y2, y3, y4⟩ := feed_same (t := c) b
 exact ⟨by rw [x1, y1, h.hit], by rw [x2, y2, h.miss], by rw [x3, y3, h.up], by rw [x4, y4, h.lo]⟩
theorem feed_in {n : Nat} {t : Tst} (h : TstIn n t) (hn : n + 12 < 16384) (b : Bool) : TstIn (n + 12) (feedT t b).1 := by
 by_cases hv : t.verdict = 0
 ·exact (feed_open h hn hv b).1
 ·rw [feed_done hv]
  exact ⟨h.hit, h.miss, h.up, h.lo, h.ratio.mono (by omega)⟩
theorem feed_two {t : Tst} {v : Nat} (hv : t.verdict = v) (h0 : v ≠ 0) (b : Bool) : (feedT t b).1.verdict = v := by
 rw [feed_done (by omega)]; exact hv
theorem behind_feed {n : Nat} {t c : Tst} (ht : TstIn n t) (hc : TstIn n c) (hn : n + 12 < 16384) (hs : SameT t c) (h0 : 0 ≤ valF t.miss) (h1 : valF t.miss ≤ valF t.hit) {a b : Bool} (hab : a = true → b = true) (h : Behind t c) : Behind (feedT t a).1 (feedT c b).1 := by
 rcases h with ⟨v1, v2, r0, r1⟩ | h | h
 ·obtain ⟨-, a2, a3, -⟩ := feed_open ht hn v1 a
  obtain ⟨-, b2, b3, -⟩ := feed_open hc hn v2 b
  rw [← hs.hit, ← hs.miss] at b2
  rw [← hs.up, ← hs.lo] at b3
  have hx : valF (if a then t.hit else t.miss) ≤ valF (if b then t.hit else t.miss) := by
   cases a <;> cases b <;> simp <;> first | exact Rat.le_refl | exact h1 | (have := hab rfl; cases this)
  have hx0 : 0 ≤ valF (if a then t.hit else t.miss) := by cases a <;> simp <;> grind
  generalize valF (if a then t.hit else t.miss) = x at *
  generalize valF (if b then t.hit else t.miss) = y at *
  have p0 : 0 ≤ valF t.ratio * x := Rat.mul_nonneg r0 hx0
  have p1 : valF t.ratio * x ≤ valF t.ratio * y := Rat.mul_le_mul_of_nonneg_left hx r0
  have p2 : valF t.ratio * y ≤ valF c.ratio * y := Rat.mul_le_mul_of_nonneg_right r1 (by grind)
  rw [← a2] at p0 p1
  rw [← b2] at p2
  generalize (feedT t a).1 = t' at *
  generalize (feedT c b).1 = c' at *
  unfold Behind
  rw [a3, b3]
  unfold verQ
  by_cases c1 : valF t.upper ≤ valF c'.ratio
  ·rw [if_pos c1]; exact .inr (.inl rfl)
  ·by_cases c2 : valF c'.ratio ≤ valF t.lower
   ·right; right
    rw [if_neg (by grind), if_pos (by grind)]
   ·rw [if_neg c1, if_neg c2]
    by_cases c3 : valF t.upper ≤ valF t'.ratio
    ·exfalso; grind
    ·rw [if_neg c3]
     by_cases c4 : valF t'.ratio ≤ valF t.lower
     ·rw [if_pos c4]; exact .inr (.inr rfl)
     ·rw [if_neg c4]; exact .inl ⟨rfl, rfl, p0, by grind⟩
 ·exact .inr (.inl (feed_two h (by omega) b))
 ·exact .inr (.inr (feed_two h (by omega) a))
theorem behind_verdicts {t c : Tst} (h : Behind t c) : (t.verdict = 1 → c.verdict = 1) ∧ (c.verdict = 2 → t.verdict = 2) := by
 rcases h with ⟨v1, v2, -, -⟩ | h | h
 ·exact ⟨fun h => by omega, fun h => by omega⟩
 ·exact ⟨fun _ => h, fun h => by omega⟩
 ·exact ⟨fun h => by omega, fun _ => h⟩
theorem tst_factors {claim low alpha beta : Rat} {T : Tst} (h : TstOK claim low alpha beta T) : 1 < valF T.hit ∧ 0 ≤ valF T.miss ∧ valF T.miss < 1 := by
 have h1 := h.hit
 have h2 := h.miss
 have l0 := h.low0
 have l1 := h.lowc
 have l2 := h.clm
 refine ⟨?_, ?_, ?_⟩
 ·rcases (show valF T.hit ≤ 1 ∨ 1 < valF T.hit by grind) with e | e
  ·have := Rat.mul_le_mul_of_nonneg_right e (show 0 ≤ low by grind)
   grind
  ·exact e
 ·rcases (show 0 ≤ valF T.miss ∨ valF T.miss < 0 by grind) with e | e
  ·exact e
  ·have := Rat.mul_lt_mul_of_pos_right e (show 0 < 1 - low by grind)
   grind
 ·rcases (show 1 ≤ valF T.miss ∨ valF T.miss < 1 by grind) with e | e
  ·have := Rat.mul_le_mul_of_nonneg_right e (show 0 ≤ 1 - low by grind)
   grind
  ·exact e
theorem can_ext {a b : Fr} (ha : Can a) (hb : Can b) (h : valF a = valF b) : a = b := by
 have a1 := cast_pos ha.pos
 have b1 := cast_pos hb.pos
 have e : a.p * b.q = b.p * a.q := by
  have : (a.p : Rat) * ((b.q : Int) : Rat) = (b.p : Rat) * ((a.q : Int) : Rat) := by
   unfold valF at h
   grind
  rw [← Rat.intCast_mul, ← Rat.intCast_mul, Rat.intCast_inj] at this
  exact this
 have en : a.p.natAbs * b.q = b.p.natAbs * a.q := by
  have := congrArg Int.natAbs e
  rwa [Int.natAbs_mul, Int.natAbs_mul, Int.natAbs_natCast, Int.natAbs_natCast] at this
 have d1 : a.q ∣ b.q := (Nat.Coprime.symm ha.cop).dvd_of_dvd_mul_left ⟨b.p.natAbs, by rw [en, Nat.mul_comm]⟩
 have d2 : b.q ∣ a.q := (Nat.Coprime.symm hb.cop).dvd_of_dvd_mul_left ⟨a.p.natAbs, by rw [← en, Nat.mul_comm]⟩
 have hq : a.q = b.q := Nat.dvd_antisymm d1 d2
 have hp : a.p = b.p := by
  rw [hq] at e
  exact Int.eq_of_mul_eq_mul_right (by have := hb.pos; omega) e
 cases a; cases b
 simp only at hq hp
 rw [hq, hp]
def powF (a : Fr) (n : Nat) : Fr := ⟨a.p ^ n, a.q ^ n⟩
theorem powF_can {a : Fr} (h : Can a) (n : Nat) : Can (powF a n) := ⟨Nat.pow_pos h.pos, by unfold powF; simp only [Int.natAbs_pow]; exact Nat.Coprime.pow _ _ h.cop⟩
theorem powF_zero (a : Fr) : powF a 0 = oneF := by simp [powF, oneF]
theorem valF_pow {a : Fr} (h : 0 < a.q) : ∀ n, valF (powF a n) = valF a ^ n
 | 0 => by rw [powF_zero, valF_one, Rat.pow_zero]
 | n + 1 => by
  have a1 := cast_pos h
  have a2 := cast_pos (Nat.pow_pos (n := n) h)
  rw [Rat.pow_succ, ← valF_pow h n]
  unfold valF powF
  simp only [Int.pow_succ, Nat.pow_succ, Rat.intCast_mul, Int.natCast_mul]
  grind
theorem powF_sz {a : Fr} {n : Nat} (h : Sz n a) : ∀ k, Sz (n * k) (powF a k)
 | 0 => by rw [powF_zero]; exact oneF_sz.mono (Nat.zero_le _)
 | k + 1 => by
  have ih := powF_sz h k
  refine ⟨?_, Nat.pow_pos h.pos, ?_⟩
  ·exact two_mul_le ih.num h.num (by unfold powF; simp only [Int.pow_succ, Int.natAbs_mul]) (by rw [Nat.mul_add, Nat.mul_one])
  ·exact two_mul_le ih.den h.den (by unfold powF; simp only [Nat.pow_succ]) (by rw [Nat.mul_add, Nat.mul_one])
theorem parse_digits : ∀ (l : List UInt8) (acc : Nat), allDig l → (acc + 1) * 10 ^ l.length ≤ 1000000000000000000 → Lib.parseUint10 acc l = .ok (l.foldl (fun a c => a * 10 + (c.toNat - 48)) acc)
 | [], acc, _, _ => rfl
 | c :: r, acc, h, hb => by
  have hc := h c (by simp)
  have hp : 1 ≤ 10 ^ r.length := Nat.pow_pos (by omega)
  rw [List.length_cons, Nat.pow_succ, Nat.mul_comm (10 ^ r.length) 10, ← Nat.mul_assoc] at hb
  have h1 : (acc * 10 + (c.toNat - 48) + 1) * 10 ^ r.length ≤ (acc + 1) * 10 * 10 ^ r.length := Nat.mul_le_mul_right _ (by omega)
  have h2 : (acc * 10 + (c.toNat - 48) + 1) * 1 ≤ (acc * 10 + (c.toNat - 48) + 1) * 10 ^ r.length := Nat.mul_le_mul_left _ hp
  rw [Lib.parseUint10, if_pos hc, if_neg (by omega), if_neg (by omega), List.foldl_cons]
  exact parse_digits r _ (fun x hx => h x (by simp [hx])) (by omega)
theorem atoi_digits {l : List UInt8} (h : allDig l) (h0 : l ≠ []) (hl : l.length ≤ 18) : Lib.atoiAll l = .ok (valT l : Int) := by
 have hp : 10 ^ l.length ≤ 10 ^ 18 := Nat.pow_le_pow_right (by omega) hl
 have hp2 : 10 ^ 18 = 1000000000000000000 := by decide
 have hv := valT_lt h
 have e := parse_digits l 0 h (by omega)
 cases l with
 | nil => exact absurd rfl h0
 | cons c r =>
  have hc := h c (by simp)
  rw [Lib.atoiAll_plain c r (by omega) (by omega), Lib.parseMag, if_neg (by simp), e]
  show Lib.signless (.ok (valT (c :: r))) = _
  rw [Lib.signless, if_neg (by omega)]
theorem chunk_step {s : List UInt8} {i n : Nat} (hn : n = (s.length - i - 1) % 9 + 1) (hi : i < s.length) (h : i = 0 ∨ 9 ∣ (s.length - i)) :
  i + n ≤ s.length ∧ 1 ≤ n ∧ n ≤ 9 ∧ 9 ∣ (s.length - (i + n)) ∧ valT (s.take (i + n)) = valT (s.take i) * 1000000000 + valT ((s.drop i).take n) := by
 have h1 : n ≤ s.length - i := by omega
 refine ⟨by omega, by omega, by omega, by omega, ?_⟩
 rw [List.take_add, valT_app]
 have hl : ((s.drop i).take n).length = n := by rw [List.length_take, List.length_drop]; omega
 rw [hl]
 rcases h with rfl | h
 ·simp [valT]
 ·have : n = 9 := by omega
  rw [this]
theorem allDig_sub {s : List UInt8} (h : allDig s) (i n : Nat) : allDig ((s.drop i).take n) := fun c hc => h c (List.mem_of_mem_drop (List.mem_of_mem_take hc))
theorem decZ_len {z : Int} (h : fits z = true) : (decZ z).length ≤ 4934 := by
 unfold fits at h
 have h1 : z.natAbs < limN := by simpa using h
 have h2 := decD_len 4933 z.natAbs (Nat.lt_of_lt_of_le h1 lim_dec) (by omega)
 unfold decZ Lib.itoa
 split
 ·simp; omega
 ·rw [show z.toNat = z.natAbs by omega]; omega
end Go.Ax
namespace Go.Ax
open Go
end Go.Ax
namespace Go.Ax
open Go
theorem wrap_u64 {n : Int} (h0 : 0 ≤ n) (h1 : n < 18446744073709551616) : IntKind.u64.wrap n = n := by
 unfold IntKind.wrap
 have e : (2 ^ IntKind.u64.bits : Int) = 18446744073709551616 := by decide
 have s : IntKind.u64.signed = false := rfl
 simp only [e, s, Bool.false_and]
 exact Int.emod_eq_of_lt h0 h1
theorem wrap_u64_mod (n : Int) : IntKind.u64.wrap n = n % 18446744073709551616 := by
 unfold IntKind.wrap
 have e : (2 ^ IntKind.u64.bits : Int) = 18446744073709551616 := by decide
 have s : IntKind.u64.signed = false := rfl
 simp only [e, s, Bool.false_and]
 rfl
theorem wrap_u8_mod (n : Int) : IntKind.u8.wrap n = n % 256 := by
 unfold IntKind.wrap
 have e : (2 ^ IntKind.u8.bits : Int) = 256 := by decide
 have s : IntKind.u8.signed = false := rfl
 simp only [e, s, Bool.false_and]
 rfl
theorem wrap_i64_mod (n : Int) : IntKind.i64.wrap n = if n % 18446744073709551616 ≥ 9223372036854775808 then n % 18446744073709551616 - 18446744073709551616 else n % 18446744073709551616 := by
 unfold IntKind.wrap
 have e : (2 ^ IntKind.i64.bits : Int) = 18446744073709551616 := by decide
 have e' : (2 ^ (IntKind.i64.bits - 1) : Int) = 9223372036854775808 := by decide
 have s : IntKind.i64.signed = true := rfl
 simp only [e, e', s, Bool.true_and, decide_eq_true_eq]
theorem pow64 : (2 : Nat) ^ 64 = 18446744073709551616 := by decide
theorem ofI (a : Nat) : (BitVec.ofInt 64 (a : Int)).toNat = a % 18446744073709551616 := by
 rw [BitVec.ofInt_natCast, BitVec.toNat_ofNat]
theorem or_lt64 {a b : Nat} (ha : a < 18446744073709551616) (hb : b < 18446744073709551616) : a ||| b < 18446744073709551616 := by
 have := Nat.or_lt_two_pow (n := 64) (x := a) (y := b) (by rw [pow64]; exact ha) (by rw [pow64]; exact hb)
 rwa [pow64] at this
theorem bits_or {a b : Nat} (ha : a < 18446744073709551616) (hb : b < 18446744073709551616) : bits .or .u64 (a : Int) (b : Int) = ((a ||| b : Nat) : Int) := by
 show IntKind.u64.wrap ((BitVec.ofInt 64 (a : Int) ||| BitVec.ofInt 64 (b : Int)).toNat : Int) = _
 rw [BitVec.toNat_or, ofI, ofI, Nat.mod_eq_of_lt ha, Nat.mod_eq_of_lt hb, wrap_u64 (by omega) (by have := or_lt64 ha hb; omega)]
theorem w32 (n : Nat) : IntKind.u32.wrap (n : Int) = ((n % 4294967296 : Nat) : Int) := by
 rw [u32_wrap, Int.natCast_emod]; rfl
theorem w32s {n : Nat} (h : n < 4294967296) : IntKind.u32.wrap (n : Int) = (n : Int) := by rw [w32, Nat.mod_eq_of_lt h]
theorem w64n {n : Nat} (h : n < 18446744073709551616) : IntKind.u64.wrap (n : Int) = (n : Int) := wrap_u64 (by omega) (by omega)
theorem pow32 : (2 : Nat) ^ 32 = 4294967296 := by decide
theorem bits_or32 {a b : Nat} (ha : a < 4294967296) (hb : b < 4294967296) : bits .or .u32 (a : Int) (b : Int) = ((a ||| b : Nat) : Int) := by
 show IntKind.u32.wrap ((BitVec.ofInt 32 (a : Int) ||| BitVec.ofInt 32 (b : Int)).toNat : Int) = _
 have h : a ||| b < 4294967296 := by
  have := Nat.or_lt_two_pow (n := 32) (x := a) (y := b) (by rw [pow32]; exact ha) (by rw [pow32]; exact hb)
  rwa [pow32] at this
 rw [BitVec.toNat_or, BitVec.ofInt_natCast, BitVec.ofInt_natCast, BitVec.toNat_ofNat, BitVec.toNat_ofNat, pow32, Nat.mod_eq_of_lt ha, Nat.mod_eq_of_lt hb, w32s h]
theorem bits_mask {a : Nat} (ha : a < 18446744073709551616) : bits .and .u64 (a : Int) 4294967295 = ((a % 4294967296 : Nat) : Int) := by
 show IntKind.u64.wrap ((BitVec.ofInt 64 (a : Int) &&& BitVec.ofInt 64 ((4294967295 : Nat) : Int)).toNat : Int) = _
 rw [BitVec.toNat_and, ofI, ofI, Nat.mod_eq_of_lt ha, Nat.mod_eq_of_lt (by omega), show (4294967295 : Nat) = 2 ^ 32 - 1 by decide, Nat.and_two_pow_sub_one_eq_mod, pow32]
 exact w64n (by have := Nat.mod_lt a (show 0 < 4294967296 by decide); omega)
theorem join64 {a b : Nat} (ha : a < 4294967296) (hb : b < 4294967296) : bits .or .u64 (IntKind.u64.wrap ((a : Int) * 2 ^ 32)) (b : Int) = ((a * 4294967296 + b : Nat) : Int) := by
 rw [show (a : Int) * 2 ^ 32 = ((a * 4294967296 : Nat) : Int) by rw [Int.natCast_mul]; rfl, w64n (by omega), bits_or (by omega) (by omega)]
 congr 1
 exact or_add (k := 32) ⟨a, by rw [pow32, Nat.mul_comm]⟩ (by rw [pow32]; exact hb)
theorem fdiv_nat (a b : Nat) : ((a : Int).fdiv (b : Int)) = ((a / b : Nat) : Int) := by
 rw [Int.fdiv_eq_ediv_of_nonneg _ (by omega)]; rfl
theorem tdiv_nat (a b : Nat) : ((a : Int).tdiv (b : Int)) = ((a / b : Nat) : Int) := by
 rw [Int.tdiv_eq_ediv_of_nonneg (by omega)]; rfl
theorem tmod_nat (a b : Nat) : ((a : Int).tmod (b : Int)) = ((a % b : Nat) : Int) := by
 rw [Int.tmod_eq_emod_of_nonneg (by omega)]; rfl
theorem shr32 {a : Nat} : ((a : Int).fdiv (2 ^ 32)) = ((a / 4294967296 : Nat) : Int) := fdiv_nat a 4294967296
theorem trimZ_snoc (d : Nat) : ∀ l : List Nat, trimZ (l ++ [d]) = if d = 0 then trimZ l else l ++ [d]
 | [] => by
  simp only [List.nil_append, trimZ]
  by_cases h : d = 0 <;> simp [h]
 | a :: r => by
  rw [List.cons_append, trimZ, trimZ_snoc d r, trimZ]
  by_cases h : d = 0
  ·simp [h]
  ·simp [h]
def sg (neg : Bool) (n : Nat) : Int := if neg then -(n : Int) else n
theorem sg_abs (neg : Bool) (n : Nat) : (sg neg n).natAbs = n := by unfold sg; split <;> simp
theorem sg_neg (neg : Bool) (n : Nat) : decide (sg neg n < 0) = (neg && decide (0 < n)) := by
 cases neg <;> simp [sg]
theorem sg_of (z : Int) : sg (decide (z < 0)) z.natAbs = z := by
 unfold sg
 split
 ·rename_i h; have := of_decide_eq_true h; omega
 ·rename_i h; have : ¬ z < 0 := fun x => h (decide_eq_true x); omega
theorem dg_len_zero {B n : Nat} (hB : 2 ≤ B) : decide (0 < (dg B n).length) = decide (0 < n) := by
 rw [decide_eq_decide]
 constructor
 ·intro h
  rcases Nat.eq_zero_or_pos n with rfl | h2
  ·rw [dg_zero] at h; simp at h
  ·exact h2
 ·intro h
  rw [dg_pos hB h]; simp
theorem seg_vl {B : Nat} (hB : 2 ≤ B) {N : List Nat} {j V n : Nat} (hN : ∀ d ∈ N, d < B) (hj : j + (n + 3) ≤ N.length) (hV : V < B ^ (n + 2)) (h : vl B N < V * B ^ (j + 1)) :
  vl B N = vl B (N.take j) + B ^ j * vl B ((N.drop j).take (n + 3)) ∧ vl B (N.drop (j + (n + 3))) = 0 ∧ vl B ((N.drop j).take (n + 3)) < V * B := by
 have e1 := vl_drop B N j (by omega)
 have e2 := vl_drop B (N.drop j) (n + 3) (by rw [List.length_drop]; omega)
 rw [List.drop_drop] at e2
 have hz : vl B (N.drop (j + (n + 3))) = 0 := by
  rcases Nat.eq_zero_or_pos (vl B (N.drop (j + (n + 3)))) with e | e
  ·exact e
  ·exfalso
   have h1 : B ^ j * (B ^ (n + 3) * 1) ≤ B ^ j * (B ^ (n + 3) * vl B (N.drop (j + (n + 3)))) := Nat.mul_le_mul_left _ (Nat.mul_le_mul_left _ e)
   have h2 : V * B ^ (j + 1) < B ^ (n + 2) * B ^ (j + 1) := Nat.mul_lt_mul_of_pos_right hV (Nat.pow_pos (by omega))
   have h3 : B ^ (n + 2) * B ^ (j + 1) = B ^ j * (B ^ (n + 3) * 1) := by rw [Nat.mul_one, ← Nat.pow_add, ← Nat.pow_add]; congr 1; omega
   rw [e2, Nat.mul_add] at e1
   generalize B ^ j * (B ^ (n + 3) * 1) = P at *
   generalize V * B ^ (j + 1) = Q at *
   generalize B ^ (n + 2) * B ^ (j + 1) = R at *
   omega
 rw [hz, Nat.mul_zero, Nat.add_zero] at e2
 refine ⟨by rw [← e2]; exact e1, hz, ?_⟩
 have h4 : B ^ j * vl B ((N.drop j).take (n + 3)) < B ^ j * (V * B) := by
  rw [← e2]
  have : V * B ^ (j + 1) = B ^ j * (V * B) := by rw [Nat.pow_succ]; ac_rfl
  rw [← this]
  generalize V * B ^ (j + 1) = Q at *
  omega
 exact Nat.lt_of_mul_lt_mul_left h4
theorem lead_half {n lead next V : Nat} (h1 : 2147483648 * 4294967296 ^ (n + 1) ≤ V) (h2 : V < (lead * 4294967296 + next + 1) * 4294967296 ^ n) (hn : next < 4294967296) : 4294967296 ≤ 2 * lead := by
 have h3 : (lead * 4294967296 + next + 1) * 4294967296 ^ n ≤ ((lead + 1) * 4294967296) * 4294967296 ^ n := Nat.mul_le_mul_right _ (by omega)
 have h4 : 2147483648 * 4294967296 * 4294967296 ^ n < (lead + 1) * 4294967296 * 4294967296 ^ n := by
  rw [Nat.pow_succ, Nat.mul_comm (4294967296 ^ n), ← Nat.mul_assoc] at h1
  exact Nat.lt_of_le_of_lt h1 (Nat.lt_of_lt_of_le h2 h3)
 have h5 := Nat.lt_of_mul_lt_mul_right h4
 omega
theorem kn_next {B : Nat} (hB : 2 ≤ B) {N S : List Nat} {j n V U Q X : Nat} (hN : ∀ d ∈ N, d < B) (hj : j + (n + 3) ≤ N.length) (hS : S.length = n + 3) (hSv : vl B S = U % V) (hV0 : 0 < V)
  (e : vl B N = vl B (N.take j) + B ^ j * U) (hz : vl B (N.drop (j + (n + 3))) = 0) (hX : Q * B ^ (j + 1) * V + vl B N = X) :
  (U / V + B * Q) * B ^ j * V + vl B (N.take j ++ (S ++ N.drop (j + S.length))) = X ∧ vl B (N.take j ++ (S ++ N.drop (j + S.length))) < V * B ^ j := by
 have hl : (N.take j).length = j := by rw [List.length_take]; omega
 have hv : vl B (N.take j ++ (S ++ N.drop (j + S.length))) = vl B (N.take j) + B ^ j * (U % V) := by
  rw [vl_append, vl_append, hl, hS, hz, hSv, Nat.mul_zero, Nat.add_zero]
 have hlt := vl_lt hB (N.take j) fun d hm => hN d (List.mem_of_mem_take hm)
 rw [hl] at hlt
 rw [hv]
 constructor
 ·have hd := Nat.div_add_mod U V
  have h1 : B ^ j * U = B ^ j * (V * (U / V)) + B ^ j * (U % V) := by rw [← Nat.mul_add, hd]
  have h2 : Q * B ^ (j + 1) * V = B * Q * B ^ j * V := by rw [Nat.pow_succ]; ac_rfl
  have h3 : (U / V) * B ^ j * V = B ^ j * (V * (U / V)) := by ac_rfl
  rw [Nat.add_mul, Nat.add_mul, h3, ← h2, ← hX, e, h1]
  omega
 ·have h1 : U % V + 1 ≤ V := Nat.mod_lt U hV0
  have h2 : B ^ j * (U % V + 1) ≤ B ^ j * V := Nat.mul_le_mul_left _ h1
  rw [Nat.mul_add, Nat.mul_one, Nat.mul_comm (B ^ j) V] at h2
  omega
theorem div_scaled {x y p : Nat} (hp : 0 < p) (Q R : Nat) (h : Q * (y * p) + R = x * p) (hR : R < y * p) : x / y = Q ∧ R / p = x % y := by
 have hy : 0 < y := by
  rcases Nat.eq_zero_or_pos y with e | e
  ·rw [e, Nat.zero_mul] at hR; omega
  ·exact e
 have h1 : p ∣ R := by
  have : R = x * p - Q * (y * p) := by omega
  rw [this, ← Nat.mul_assoc, ← Nat.sub_mul]
  exact Nat.dvd_mul_left _ _
 obtain ⟨r, rfl⟩ := h1
 have h2 : Q * y + r = x := by
  have : (Q * y + r) * p = x * p := by rw [Nat.add_mul, ← h, Nat.mul_assoc, Nat.mul_comm r p]
  exact Nat.eq_of_mul_eq_mul_right hp this
 have h3 : r < y := by
  rw [Nat.mul_comm y p] at hR
  exact Nat.lt_of_mul_lt_mul_left hR
 rw [Nat.mul_div_cancel_left _ hp, ← h2, Nat.mul_comm Q y]
 constructor
 ·rw [Nat.mul_add_div hy, Nat.div_eq_of_lt h3]; rfl
 ·rw [Nat.mul_add_mod, Nat.mod_eq_of_lt h3]
def partsS (n : Nat) : List (List UInt8) :=
 if n = 0 then [] else (if n / 1000000000 = 0 then Lib.decDigits n else padD 9 (n % 1000000000)) :: partsS (n / 1000000000)
termination_by n
decreasing_by omega
theorem partsS_zero : partsS 0 = [] := by rw [partsS]; rfl
theorem partsS_pos {n : Nat} (h : 0 < n) : partsS n = (if n / 1000000000 = 0 then Lib.decDigits n else padD 9 (n % 1000000000)) :: partsS (n / 1000000000) := by
 rw [partsS, if_neg (by omega)]
theorem partsS_text : ∀ (f n : Nat), n < f → 0 < n → (partsS n).reverse.flatten = Lib.decDigits n
 | 0, n, h, _ => by omega
 | f + 1, n, h, h0 => by
  rw [partsS_pos h0]
  rcases Nat.eq_zero_or_pos (n / 1000000000) with e | e
  ·rw [if_pos e, e, partsS_zero]; simp
  ·rw [if_neg (by omega), List.reverse_cons, List.flatten_append, partsS_text f (n / 1000000000) (by omega) e]
   have := decD_split 9 (n / 1000000000) (n % 1000000000) e (Nat.mod_lt _ (by decide))
   rw [show (10 : Nat) ^ 9 = 1000000000 by decide, Nat.mod_add_div] at this
   rw [this]
   simp
theorem partsS_len : ∀ (f n : Nat), n < f → ∀ t ∈ partsS n, t.length ≤ 9
 | 0, n, h => by omega
 | f + 1, n, h => by
  intro t ht
  rcases Nat.eq_zero_or_pos n with rfl | h0
  ·rw [partsS_zero] at ht; cases ht
  rw [partsS_pos h0] at ht
  rcases List.mem_cons.1 ht with rfl | ht
  ·split
   ·rename_i e
    exact decD_len 9 n (by rw [show (10 : Nat) ^ 9 = 1000000000 by decide]; omega) (by decide)
   ·rw [padD_length]; omega
  ·exact partsS_len f (n / 1000000000) (by omega) t ht
theorem partsS_count (f n : Nat) (k : Nat) : n < f → n < 1000000000 ^ k → (partsS n).length ≤ k := by
 induction k generalizing n f with
 | zero => intro _ h; simp at h; subst h; rw [partsS_zero]; simp
 | succ k ih =>
  intro hf h
  rcases Nat.eq_zero_or_pos n with rfl | h0
  ·rw [partsS_zero]; simp
  rw [partsS_pos h0]
  have := ih f (n / 1000000000) (by omega) (by
   rw [Nat.pow_succ] at h
   exact Nat.div_lt_of_lt_mul (by rw [Nat.mul_comm]; exact h))
  simp
  omega
def dgI (l : List Nat) (i : Int) : Nat := if i < 0 then 0 else l.getD i.toNat 0
theorem dgI_nat (l : List Nat) (i : Nat) : dgI l (i : Int) = l.getD i 0 := by unfold dgI; rw [if_neg (by omega)]; simp
theorem dgI_lt {l : List Nat} {B : Nat} (hB : 0 < B) (h : ∀ d ∈ l, d < B) (i : Int) : dgI l i < B := by
 unfold dgI
 split
 ·exact hB
 ·rw [List.getD_eq_getElem?_getD]
  cases hg : l[i.toNat]? with
  | none => simpa using hB
  | some d => exact h _ (List.mem_of_getElem? hg)
def dUp (r b : List Nat) : Nat := 10000 * (10000 * dgI r b.length + dgI r ((b.length : Int) - 1)) + dgI r ((b.length : Int) - 2)
def dLw (b : List Nat) : Nat := 10000 * dgI b ((b.length : Int) - 1) + dgI b ((b.length : Int) - 2)
theorem dgI_at {l : List Nat} {i : Nat} {j : Int} (hj : j = (i : Int)) : dgI l j = l.getD i 0 := by rw [hj, dgI_nat]
theorem vl_getD (B : Nat) : ∀ (l : List Nat) (n : Nat), vl B (l.drop n) = l.getD n 0 + B * vl B (l.drop (n + 1))
 | [], n => by simp [vl]
 | a :: r, 0 => by simp [vl]
 | a :: r, n + 1 => by simpa using vl_getD B r n
theorem vl_split (B : Nat) (l : List Nat) (n : Nat) : vl B l = vl B (l.take n) + B ^ n * vl B (l.drop n) := by
 rcases Nat.lt_or_ge n l.length with h | h
 ·exact vl_drop B l n (Nat.le_of_lt h)
 ·rw [List.take_of_length_le h, List.drop_eq_nil_of_le h]; simp [vl]
theorem vl_take_lt {B : Nat} (hB : 2 ≤ B) {l : List Nat} (h : ∀ d ∈ l, d < B) (n : Nat) : vl B (l.take n) < B ^ n := by
 have := vl_lt hB (l.take n) fun d hm => h d (List.mem_of_mem_take hm)
 refine Nat.lt_of_lt_of_le this (Nat.pow_le_pow_right (by omega) ?_)
 rw [List.length_take]; omega
theorem dig_est {r b : List Nat} (hr : ∀ d ∈ r, d < 10000) (hb : ∀ d ∈ b, d < 10000) (hk : 0 < b.length) (htop : 0 < dgI b ((b.length : Int) - 1)) (hrl : r.length ≤ b.length + 1) :
  0 < dLw b ∧ dUp r b / (dLw b + 1) ≤ vl 10000 r / vl 10000 b ∧ vl 10000 r / vl 10000 b ≤ dUp r b / dLw b := by
 have hB : (2 : Nat) ≤ 10000 := by decide
 have hL : 0 < dLw b := by unfold dLw; omega
 refine ⟨hL, ?_⟩
 obtain ⟨k, hk1⟩ : ∃ k, b.length = k + 1 := ⟨b.length - 1, by omega⟩
 cases k with
 | zero =>
  have e1 : dUp r b = 10000 * vl 10000 r := by
   have h0 := vl_getD 10000 r 0
   have h1 := vl_getD 10000 r 1
   have h2 : r.drop (1 + 1) = [] := List.drop_eq_nil_of_le (by omega)
   rw [h2] at h1
   simp only [List.drop_zero, Nat.zero_add] at h0
   unfold dUp
   rw [hk1, dgI_at (i := 1) rfl, dgI_at (i := 0) (by omega), show dgI r (((0 + 1 : Nat) : Int) - 2) = 0 by unfold dgI; rw [if_pos (by omega)]]
   simp only [vl] at h1
   omega
  have e2 : dLw b = 10000 * vl 10000 b := by
   have h0 := vl_getD 10000 b 0
   have h2 : b.drop (0 + 1) = [] := List.drop_eq_nil_of_le (by omega)
   rw [h2] at h0
   simp only [List.drop_zero, Nat.zero_add, vl] at h0
   unfold dLw
   rw [hk1, dgI_at (i := 0) (by omega), show dgI b (((0 + 1 : Nat) : Int) - 2) = 0 by unfold dgI; rw [if_pos (by omega)]]
   omega
  have hv : 0 < vl 10000 b := by omega
  rw [e1, e2]
  refine ⟨?_, ?_⟩
  ·rw [Nat.le_div_iff_mul_le hv]
   have h1 := Nat.div_mul_le_self (10000 * vl 10000 r) (10000 * vl 10000 b + 1)
   generalize 10000 * vl 10000 r / (10000 * vl 10000 b + 1) = q at *
   rw [Nat.mul_add, Nat.mul_left_comm] at h1
   omega
  ·rw [Nat.mul_div_mul_left _ _ (by omega)]
   exact Nat.le_refl _
 | succ k =>
  have sr := vl_split 10000 r k
  have sb := vl_split 10000 b k
  have lr := vl_take_lt hB hr k
  have lb := vl_take_lt hB hb k
  have er : vl 10000 (r.drop k) = dUp r b := by
   rw [vl_getD, vl_getD, vl_getD, List.drop_eq_nil_of_le (by omega)]
   unfold dUp
   rw [hk1, dgI_at (i := k + 1 + 1) (by omega), dgI_at (i := k + 1) (by omega), dgI_at (i := k) (by omega)]
   simp only [vl]
   omega
  have eb : vl 10000 (b.drop k) = dLw b := by
   rw [vl_getD, vl_getD, List.drop_eq_nil_of_le (by omega)]
   unfold dLw
   rw [hk1, dgI_at (i := k + 1) (by omega), dgI_at (i := k) (by omega)]
   simp only [vl]
   omega
  rw [er, Nat.mul_comm] at sr
  rw [eb, Nat.mul_comm] at sb
  refine dig_bounds (L := 10000 ^ k) (Nat.pow_pos (by omega)) (by omega) (by rw [Nat.add_mul, Nat.one_mul]; omega) (by omega) (by rw [Nat.add_mul, Nat.one_mul]; omega) hL
def digB (r b : List Nat) : Nat × Nat := if r.length < b.length ∨ b.length = 0 then (0, 0) else (min 9999 (dUp r b / (dLw b + 1)), min 9999 (dUp r b / dLw b))
theorem dg_top {B n : Nat} (hB : 2 ≤ B) (hn : 0 < n) : 0 < dgI (dg B n) (((dg B n).length : Int) - 1) := by
 have hl : 0 < (dg B n).length := by rw [dg_pos hB hn]; simp
 obtain ⟨k, hk⟩ : ∃ k, (dg B n).length = k + 1 := ⟨(dg B n).length - 1, by omega⟩
 rw [hk, dgI_at (i := k) (by omega)]
 have h1 := dg_ge hB n hn
 rw [hk] at h1
 have h2 := vl_split B (dg B n) k
 rw [vl_dg hB, vl_getD, List.drop_eq_nil_of_le (by omega)] at h2
 have h3 := vl_take_lt hB (dg_lt hB n) k
 simp only [vl, Nat.mul_zero, Nat.add_zero, Nat.add_sub_cancel] at h1 h2
 rcases Nat.eq_zero_or_pos ((dg B n).getD k 0) with e | e
 ·rw [e, Nat.mul_zero] at h2; omega
 ·exact e
theorem digB_ok {x y : Nat} (hy : 0 < y) (hx : x < y * 10000) : (digB (dg 10000 x) (dg 10000 y)).1 ≤ x / y ∧ x / y ≤ (digB (dg 10000 x) (dg 10000 y)).2 ∧ (digB (dg 10000 x) (dg 10000 y)).2 ≤ 9999 := by
 have hB : (2 : Nat) ≤ 10000 := by decide
 have hl : 0 < (dg 10000 y).length := by rw [dg_pos hB hy]; simp
 have hq : x / y < 10000 := by rw [Nat.div_lt_iff_lt_mul hy, Nat.mul_comm]; exact hx
 unfold digB
 by_cases h : (dg 10000 x).length < (dg 10000 y).length ∨ (dg 10000 y).length = 0
 ·rw [if_pos h]
  have hlt : x < y := dg_len_lt hB (by omega)
  rw [Nat.div_eq_of_lt hlt]
  simp
 ·rw [if_neg h]
  have hrl : (dg 10000 x).length ≤ (dg 10000 y).length + 1 := by
   refine dg_len_le hB ?_
   have := dg_lt_pow (n := y) hB
   rw [Nat.pow_succ]
   exact Nat.lt_of_lt_of_le hx (Nat.mul_le_mul_right _ (Nat.le_of_lt this))
  obtain ⟨h1, h2, h3⟩ := dig_est (dg_lt hB x) (dg_lt hB y) hl (dg_top hB hy) hrl
  rw [vl_dg hB, vl_dg hB] at h2 h3
  simp only
  omega
def tauOK (σ : List (Nat × Nat)) (ns nx n' : Nat) : List (Nat × Nat) → Bool
 | [] => true
 | (i, id) :: r => (match Nat.blt i ns with
   | true => match lk σ id with
    | some j => Nat.beq j i
    | none => false
   | false => Nat.ble nx id && Nat.blt id n') && tauOK σ ns nx n' r
def keysOr (ids : List Nat) (nx : Nat) : Mem → Bool
 | [] => true
 | (k, _) :: r => (match Nat.ble nx k with
   | true => true
   | false => inL k ids) && keysOr ids nx r
theorem tauOK_sound {σ : List (Nat × Nat)} {ns nx n' : Nat} : ∀ {τ : List (Nat × Nat)}, tauOK σ ns nx n' τ = true → ∀ p ∈ τ, (p.1 < ns ∧ lk σ p.2 = some p.1) ∨ (ns ≤ p.1 ∧ nx ≤ p.2 ∧ p.2 < n')
 | [], _, p, hp => by cases hp
 | (i, id) :: r, h, p, hp => by
  simp only [tauOK, Bool.and_eq_true] at h
  rcases List.mem_cons.1 hp with rfl | hp
  ·have h1 := h.1
   split at h1
   ·rename_i hb
    split at h1
    ·rename_i j hj
     exact .inl ⟨Nat.le_of_ble_eq_true hb, by rw [hj, Nat.eq_of_beq_eq_true h1]⟩
    ·cases h1
   ·rename_i hb
    simp only [Bool.and_eq_true] at h1
    refine .inr ⟨?_, Nat.le_of_ble_eq_true h1.1, Nat.le_of_ble_eq_true h1.2⟩
    rcases Nat.lt_or_ge i ns with hl | hl
    ·have e : Nat.blt i ns = true := Nat.ble_eq_true_of_le hl
     rw [e] at hb; cases hb
    ·exact hl
  ·exact tauOK_sound h.2 p hp
theorem keysOr_sound : ∀ {m : Mem} {ids : List Nat} {nx : Nat}, keysOr ids nx m = true → ∀ p ∈ m, nx ≤ p.1 ∨ inL p.1 ids = true
 | [], ids, nx, _, p, hp => by cases hp
 | (k, b) :: r, ids, nx, h, p, hp => by
  simp only [keysOr, Bool.and_eq_true] at h
  rcases List.mem_cons.1 hp with rfl | hp
  ·have h1 := h.1
   split at h1
   ·rename_i hb; exact .inl (Nat.le_of_ble_eq_true hb)
   ·exact .inr h1
  ·exact keysOr_sound h.2 p hp
theorem ACalls.useN {P : Program} {Γ : List (Nat × AV)} {F : FuncId} {args args' : List AV} {ms mem m1 : Mem} {ns nx : Nat} {Qs K : AV → Mem → Nat → Prop} (hΓ : ∀ p ∈ Γ, NN p.2) (σ : List (Nat × Nat)) (h : ACalls P Γ F args' ms ns Qs)
  (hp : pickM (keysS σ) mem = m1) (hargs : CvL m1 σ args args') (hM : MemConv m1 σ ms) (hc : (nodM ms && (nod2 σ && valsLt ns σ)) = true)
  (hk : ∀ r m n, Qs r m n → ∃ τ r' m' n', Cv m τ r r' ∧ MemConv m τ m' ∧ (nodM m' && (nod2 τ && (Nat.ble nx n' && (keysOr (keysS σ) nx m' && tauOK σ ns nx n' τ)))) = true ∧ K r' (m' ++ dropM (keysS σ) mem) n') : ACalls P Γ F args mem nx K := by
 simp only [Bool.and_eq_true] at hc
 obtain ⟨hc1, hc2, hc4⟩ := hc
 refine ⟨fun X D ρ w vs hD hm hv => ?_⟩
 refine (ACalls.use (K := K) (nx := nx) hΓ h σ (m1 := m1) (rest := dropM (keysS σ) mem) ⟨fun p hp' => ?_, fun p hp' => (dropM_mem.1 hp').1, fun p hp' => ?_, fun p h1 q h2 => ?_, ?_⟩ ?_ hargs hM.cvm (nodM_sound hc1) (inj_of hc2) (fun id i hl => valsLt_sound hc4 _ (lk_mem hl)) ?_).run X D ρ w vs hD hm hv
 ·rw [← hp] at hp'; exact (pickM_mem.1 hp').1
 ·cases hi : inL p.1 (keysS σ) with
  | true => left; rw [← hp]; exact pickM_mem.2 ⟨hp', hi⟩
  | false => right; exact dropM_mem.2 ⟨hp', hi⟩
 ·rw [← hp] at h1
  have a := (pickM_mem.1 h1).2
  have b := (dropM_mem.1 h2).2
  intro e
  rw [e, b] at a
  cases a
 ·rw [← hp]; exact hm.nod.sublist ((pickM_sub mem).map _)
 ·exact hm.nod.sublist ((dropM_sub mem).map _)
 ·intro r m n hq hn
  obtain ⟨τ, r', m', n', h1, h2, h3, h4⟩ := hk r m n hq
  simp only [Bool.and_eq_true] at h3
  refine ⟨τ, r', m', n', Nat.le_of_ble_eq_true h3.2.2.1, h1, h2.cvm, nodM_sound h3.1, inj_of h3.2.1, fun i id hl => tauOK_sound h3.2.2.2.2 _ (lk_mem hl), fun p h5 q h6 => ?_, h4⟩
  have b := (dropM_mem.1 h6).2
  rcases keysOr_sound h3.2.2.2.1 p h5 with a | a
  ·have := hD _ (hm.low q (dropM_mem.1 h6).1)
   omega
  ·intro e
   rw [e, b] at a
   cases a
theorem ACalls.ph {P : Program} {Γ : List (Nat × AV)} {F : FuncId} {args : List AV} {mem : Mem} {nx : Nat} {K : AV → Mem → Nat → Prop} (t : TypeId) (sz : Nat) (h : ACalls P Γ F args ((nx, .row t sz []) :: mem) (nx + 1) K) : ACalls P Γ F args mem nx K := by
 refine ⟨fun X D ρ w vs hD hm hv => ?_⟩
 obtain ⟨m1, v1, e1⟩ := hm.phantom (n := nx) (D' := dn D nx (nx + 1)) (fun h' => Nat.lt_irrefl _ (hD _ h')) (fun i hi => .inl hi) (.inr ⟨Nat.le_refl _, Nat.lt_succ_self _⟩) t sz
 refine (h.run X _ _ w vs (fun i hi => ?_) m1 ⟨hv.1, fun j c x hc hx => v1 _ _ (hv.2 j c x hc hx)⟩).mono ?_
 ·rcases hi with hi | hi
  ·have := hD i hi; omega
  ·exact hi.2
 ·rintro e w' ⟨r, v, m, n, ρ', rfl, hk, hn, hm', hr, ext⟩
  have ed : dn (dn D nx (nx + 1)) (nx + 1) n = dn D nx n := by
   funext i
   apply propext
   constructor
   ·rintro ((hi | ⟨h1, h2⟩) | ⟨h1, h2⟩)
    ·exact .inl hi
    ·exact .inr ⟨h1, by omega⟩
    ·exact .inr ⟨by omega, h2⟩
   ·rintro (hi | ⟨h1, h2⟩)
    ·exact .inl (.inl hi)
    ·rcases Nat.lt_or_ge i (nx + 1) with h3 | h3
     ·exact .inl (.inr ⟨h1, h3⟩)
     ·exact .inr ⟨h3, h2⟩
  rw [ed] at hm' hr ext
  refine ⟨r, v, m, n, ρ', rfl, hk, by omega, hm', hr, ?_⟩
  have e2 := e1 D fun i hi => hi
  exact e2.trans ⟨fun i hi => ext.le i (.inl hi), fun i hi => ext.agree i (.inl hi), ext.size, ext.keep, ext.fresh, ext.env⟩
end Go.Ax
namespace Go.Ax
open Go
section
variable {P : Program} {Γ : List (Nat × AV)} {B : Nat}
end
end Go.Ax
