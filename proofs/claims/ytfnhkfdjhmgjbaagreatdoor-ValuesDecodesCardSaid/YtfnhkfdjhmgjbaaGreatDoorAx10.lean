/- A part of the proof. -/
import Derived.Test.YtfnhkfdjhmgjbaaGreatDoorAx9
import Derived.Shelf.Strconv.Atoi
import Derived.Shelf.Strconv.Itoa0
import Derived.Shelf.Strconv.Itoa1
import Derived.Shelf.LaysM
import Derived.Shelf.Strconv.Itoa2
import Derived.Shelf.Strconv.Itoa3
import Derived.Shelf.Strconv.AtoiErrFast
import Derived.Shelf.Strconv.ParseIntEmpty
import Derived.Shelf.Strconv.AtoiFail
import Derived.Shelf.Strconv.Clone
import Derived.Shelf.Strconv.SyntaxError
import Derived.Shelf.LaysC
import Derived.Shelf.Strconv.ToError
import Derived.Shelf.Strconv.Lower
import Derived.Shelf.Strconv.ParseUint10
import Derived.Shelf.Strconv.ParseUint10Empty
import Derived.Shelf.Strconv.ParseUint10Any
import Derived.Shelf.Strconv.ParseInt10
import Derived.Shelf.Strconv.AtoiLong
import Derived.Shelf.Strconv.AtoiInnerAll
import Derived.Shelf.Strconv.RangeError
import Derived.Shelf.Strconv.ToErrorRange
import Derived.Shelf.Strconv.AtoiAll
import Derived.Test.YtfnhkfdjhmgjbaaGreatDoorProg
import Derived.KernelRfl

/-
  DERIVED: THE SHELF's CONTRACTS AT THIS DUMP, IN PLAIN WORDS (tools/lay-plain.mjs out of 'TryzShelf.lean', which tools/lay-shelf.mjs wrote): THE SAME DECLARATIONS UNDER THE SAME NAMES: 'import', 'namespace', 'open', 'def', 'theorem' AND NOTHING ELSE: no command of the shelf's: FOR A HAND-IN. Each laying: the table of numbers ('.._ren') and one theorem, a field a fact of the dump's own or the kernel's comparison; each contract: ONE APPLICATION.
-/
namespace Go.Proofs
open Go.Shelf
set_option linter.unusedVariables false
def Tryz.lays129_ren : Go.Shelf.Ren := ⟨fun | 129 => 163 | n => n, fun | 53 => 60 | 3 => 3 | 4 => 4 | 46 => 114 | 5 => 5 | 9 => 9 | n => n, fun | n => n⟩
theorem Tryz.lays129 : Go.Proofs.Lays.n129 Tryz.prog Tryz.lays129_ren := {
  mixed := by kernel_rfl
  f129 := Tryz.func163.trans (congrArg some (by kernel_rfl))
  t3 := Tryz.underlying3
  a3 := Tryz.isAgg3
  z3 := Tryz.sizeOf3
  v3 := Tryz.zeroValue3
  t4 := Tryz.underlying4
  a4 := Tryz.isAgg4
  z4 := Tryz.sizeOf4
  v4 := Tryz.zeroValue4
  t5 := Tryz.underlying5
  a5 := Tryz.isAgg5
  z5 := Tryz.sizeOf5
  v5 := Tryz.zeroValue5
  t9 := Tryz.underlying9
  a9 := Tryz.isAgg9
  z9 := Tryz.sizeOf9
  v9 := Tryz.zeroValue9
  t46 := Tryz.underlying114
  a46 := Tryz.isAgg114
  z46 := Tryz.sizeOf114
  v46 := Tryz.zeroValue114
  t53 := Tryz.underlying60
  a53 := Tryz.isAgg60
  z53 := Tryz.sizeOf60
  v53 := Tryz.zeroValue60 }
/-- bits.Len64: "Len64 returns the minimum number of bits required to represent x; the result is 0 for x == 0.": IT RETURNS 'Lib.bitLen x'; the world is as it was. ('h0', 'h1': x is a uint64.) (LAID: no walk: one application.) -/
theorem Tryz.bits_Len64 (x : Int) (w : World) (h0 : 0 ≤ x) (h1 : x ≤ 18446744073709551615) :
    Calls Tryz.prog 163 #[.int .u64 x] w fun e w' => e = .returned (.int .i64 (Lib.bitLen x.toNat)) ∧ w' = w := Any.bits_Len64 Tryz.lays129 x w h0 h1
def Tryz.lays317_ren : Go.Shelf.Ren := ⟨fun | 317 => 208 | n => n, fun | 3 => 3 | 46 => 114 | n => n, fun | n => n⟩
theorem Tryz.lays317 : Go.Proofs.Lays.n317 Tryz.prog Tryz.lays317_ren := {
  mixed := by kernel_rfl
  f317 := Tryz.func208.trans (congrArg some (by kernel_rfl))
  t3 := Tryz.underlying3
  a3 := Tryz.isAgg3
  z3 := Tryz.sizeOf3
  v3 := Tryz.zeroValue3
  t46 := Tryz.underlying114
  a46 := Tryz.isAgg114
  z46 := Tryz.sizeOf114
  v46 := Tryz.zeroValue114 }
open Go.Lib in
/-- internal/strconv.log10Pow2: "log10Pow2(x) returns ⌊log₁₀ 2**x⌋ = ⌊x * log₁₀ 2⌋.": '(x * 78913) >> 18', at an x up to 64 (a length in bits). The world is as it was. (LAID: no walk: one application.) -/
theorem Tryz.internal_strconv_log10Pow2 (x : Nat) (h : x ≤ 64) (w : World) :
    Calls Tryz.prog 208 #[.int .i64 x] w fun e w' => e = .returned (.int .i64 (Lib.l10 x)) ∧ w' = w := Any.internal_strconv_log10Pow2 Tryz.lays317 x h w
def Tryz.lays318_ren : Go.Shelf.Ren := ⟨fun | 318 => 209 | n => n, fun | 3 => 3 | 4 => 4 | n => n, fun | n => n⟩
theorem Tryz.lays318 : Go.Proofs.Lays.n318 Tryz.prog Tryz.lays318_ren := {
  mixed := by kernel_rfl
  f318 := Tryz.func209.trans (congrArg some (by kernel_rfl))
  t3 := Tryz.underlying3
  a3 := Tryz.isAgg3
  z3 := Tryz.sizeOf3
  v3 := Tryz.zeroValue3
  t4 := Tryz.underlying4
  a4 := Tryz.isAgg4
  z4 := Tryz.sizeOf4
  v4 := Tryz.zeroValue4 }
open Go.Lib in
/-- internal/strconv.bool2: "bool2 converts b to an integer: 1 for true, 0 for false." The world is as it was. (LAID: no walk: one application.) -/
theorem Tryz.internal_strconv_bool2_int (b : Bool) (w : World) :
    Calls Tryz.prog 209 #[.bool b] w fun e w' => e = .returned (.int .i64 (if b then 1 else 0)) ∧ w' = w := Any.internal_strconv_bool2_int Tryz.lays318 b w
def Tryz.lays283_ren : Go.Shelf.Ren := ⟨fun | 283 => 193 | n => n, fun | 3 => 3 | 9 => 9 | 4 => 4 | n => n, fun | n => n⟩
theorem Tryz.lays283 : Go.Proofs.Lays.n283 Tryz.prog Tryz.lays283_ren := {
  mixed := by kernel_rfl
  f283 := Tryz.func193.trans (congrArg some (by kernel_rfl))
  t3 := Tryz.underlying3
  a3 := Tryz.isAgg3
  z3 := Tryz.sizeOf3
  v3 := Tryz.zeroValue3
  t4 := Tryz.underlying4
  a4 := Tryz.isAgg4
  z4 := Tryz.sizeOf4
  v4 := Tryz.zeroValue4
  t9 := Tryz.underlying9
  a9 := Tryz.isAgg9
  z9 := Tryz.sizeOf9
  v9 := Tryz.zeroValue9 }
open Go.Lib in
/-- internal/strconv.small: "small returns the string for an i with 0 <= i < nSmalls.": i's decimal numeral. The world is as it was. (LAID: no walk: one application.) -/
theorem Tryz.internal_strconv_small (i : Nat) (h : i < 100) (w : World) :
    Calls Tryz.prog 193 #[.int .i64 i] w fun e w' => e = .returned (.string ⟨(Lib.decDigits i).toArray⟩) ∧ w' = w := Any.internal_strconv_small Tryz.lays283 i h w
def Tryz.lays285_ren : Go.Shelf.Ren := ⟨fun | 285 => 195 | n => n, fun | 37 => 49 | 53 => 60 | 3 => 3 | 4 => 4 | 51 => 194 | 9 => 9 | 5 => 5 | 0 => 0 | n => n, fun | n => n⟩
theorem Tryz.lays285 : Go.Proofs.Lays.n285 Tryz.prog Tryz.lays285_ren := {
  mixed := by kernel_rfl
  f285 := Tryz.func195.trans (congrArg some (by kernel_rfl))
  t0 := Tryz.underlying0
  a0 := Tryz.isAgg0
  z0 := Tryz.sizeOf0
  v0 := Tryz.zeroValue0
  t3 := Tryz.underlying3
  a3 := Tryz.isAgg3
  z3 := Tryz.sizeOf3
  v3 := Tryz.zeroValue3
  t4 := Tryz.underlying4
  a4 := Tryz.isAgg4
  z4 := Tryz.sizeOf4
  v4 := Tryz.zeroValue4
  t5 := Tryz.underlying5
  a5 := Tryz.isAgg5
  z5 := Tryz.sizeOf5
  v5 := Tryz.zeroValue5
  t9 := Tryz.underlying9
  a9 := Tryz.isAgg9
  z9 := Tryz.sizeOf9
  v9 := Tryz.zeroValue9
  t37 := Tryz.underlying49
  a37 := Tryz.isAgg49
  z37 := Tryz.sizeOf49
  v37 := Tryz.zeroValue49
  t51 := Tryz.underlying194
  a51 := Tryz.isAgg194
  z51 := Tryz.sizeOf194
  v51 := Tryz.zeroValue194
  t53 := Tryz.underlying60
  a53 := Tryz.isAgg60
  z53 := Tryz.sizeOf60
  v53 := Tryz.zeroValue60 }
open Go.RowKit Go.Sort Go.Lib in
/-- internal/strconv.formatBase10: "formatBase10 formats the decimal representation of u into a. The caller is responsible for ensuring that a is big enough to hold u. If a is too big, leading zeros will be filled in as needed.": THE ROW HOLDS u's DIGITS ('FmtInv .. 0 ..': every place t holds 'dg u (len - 1 - t)'); all else is as it was but for the count of draws. (LAID: no walk: one application.) -/
theorem Tryz.internal_strconv_formatBase10 (blk off cap : Nat) (u : Nat) (d : Array UInt8) (w : World) (hH : Holds (fun (b : UInt8) => Value.int .u8 (b.toNat : Int)) w blk off d) (hu : u < 10 ^ d.size) (hu64 : u < 18446744073709551616) (hsz : d.size < 4611686018427387904) :
    Calls Tryz.prog 195 #[.slice (some ⟨blk, off, none⟩) d.size cap, .int .u64 u] w fun e w' =>
      e = .returned (.tuple #[]) ∧ ∃ (n v' : Nat) (dk : Array UInt8), w' = (putRow (fun (b : UInt8) => Value.int .u8 (b.toNat : Int)) w blk off dk).drewN n ∧ FmtInv d.size u 0 v' dk := Any.internal_strconv_formatBase10 Tryz.lays285 blk off cap u d w hH hu hu64 hsz
def Tryz.laysC172_ren : Go.Shelf.Ren := ⟨fun | 172 => 89 | 244 => 131 | 245 => 132 | 247 => 168 | 279 => 169 | 280 => 170 | 281 => 171 | 282 => 172 | 287 => 197 | 316 => 198 | 171 => 88 | 205 => 199 | 321 => 212 | 322 => 213 | 243 => 130 | 246 => 167 | 283 => 193 | 284 => 194 | 285 => 195 | 286 => 196 | 129 => 163 | 317 => 208 | 318 => 209 | 319 => 210 | 320 => 211 | 337 => 216 | 338 => 217 | n => n, fun | 9 => 9 | 3 => 3 | 75 => 131 | 76 => 132 | 4 => 4 | 5 => 5 | 167 => 198 | 37 => 49 | 0 => 0 | 85 => 199 | 2 => 2 | 168 => 201 | 53 => 60 | 175 => 224 | 46 => 114 | 210 => 228 | 127 => 151 | 145 => 245 | 143 => 243 | 21 => 21 | 171 => 220 | 173 => 222 | 212 => 240 | 51 => 194 | 20 => 20 | 213 => 241 | 232 => 250 | 233 => 251 | 80 => 92 | n => n, fun | 15 => 0 | 16 => 1 | 17 => 2 | 18 => 3 | 19 => 4 | n => n⟩
theorem Tryz.laysC172 : Go.Proofs.LaysC.n172 Tryz.prog Tryz.laysC172_ren := {
  mixed := by kernel_rfl
  f129 := Tryz.func163.trans (congrArg some (by kernel_rfl))
  f171 := Tryz.func88.trans (congrArg some (by kernel_rfl))
  f172 := Tryz.func89.trans (congrArg some (by kernel_rfl))
  f205 := Tryz.func199.trans (congrArg some (by kernel_rfl))
  f243 := Tryz.func130.trans (congrArg some (by kernel_rfl))
  f244 := Tryz.func131.trans (congrArg some (by kernel_rfl))
  f245 := Tryz.func132.trans (congrArg some (by kernel_rfl))
  f246 := Tryz.func167.trans (congrArg some (by kernel_rfl))
  f247 := Tryz.func168.trans (congrArg some (by kernel_rfl))
  f279 := Tryz.func169.trans (congrArg some (by kernel_rfl))
  f280 := Tryz.func170.trans (congrArg some (by kernel_rfl))
  f281 := Tryz.func171.trans (congrArg some (by kernel_rfl))
  f282 := Tryz.func172.trans (congrArg some (by kernel_rfl))
  f283 := Tryz.func193.trans (congrArg some (by kernel_rfl))
  f284 := Tryz.func194.trans (congrArg some (by kernel_rfl))
  f285 := Tryz.func195.trans (congrArg some (by kernel_rfl))
  f286 := Tryz.func196.trans (congrArg some (by kernel_rfl))
  f287 := Tryz.func197.trans (congrArg some (by kernel_rfl))
  f316 := Tryz.func198.trans (congrArg some (by kernel_rfl))
  f317 := Tryz.func208.trans (congrArg some (by kernel_rfl))
  f318 := Tryz.func209.trans (congrArg some (by kernel_rfl))
  f319 := Tryz.func210.trans (congrArg some (by kernel_rfl))
  f320 := Tryz.func211.trans (congrArg some (by kernel_rfl))
  f321 := Tryz.func212.trans (congrArg some (by kernel_rfl))
  f322 := Tryz.func213.trans (congrArg some (by kernel_rfl))
  f337 := Tryz.func216.trans (congrArg some (by kernel_rfl))
  f338 := Tryz.func217.trans (congrArg some (by kernel_rfl))
  t0 := Tryz.underlying0
  a0 := Tryz.isAgg0
  z0 := Tryz.sizeOf0
  v0 := Tryz.zeroValue0
  t2 := Tryz.underlying2
  a2 := Tryz.isAgg2
  z2 := Tryz.sizeOf2
  v2 := Tryz.zeroValue2
  t3 := Tryz.underlying3
  a3 := Tryz.isAgg3
  z3 := Tryz.sizeOf3
  v3 := Tryz.zeroValue3
  t4 := Tryz.underlying4
  a4 := Tryz.isAgg4
  z4 := Tryz.sizeOf4
  v4 := Tryz.zeroValue4
  t5 := Tryz.underlying5
  a5 := Tryz.isAgg5
  z5 := Tryz.sizeOf5
  v5 := Tryz.zeroValue5
  t9 := Tryz.underlying9
  a9 := Tryz.isAgg9
  z9 := Tryz.sizeOf9
  v9 := Tryz.zeroValue9
  t20 := Tryz.underlying20
  a20 := Tryz.isAgg20
  z20 := Tryz.sizeOf20
  v20 := Tryz.zeroValue20
  t21 := Tryz.underlying21
  a21 := Tryz.isAgg21
  z21 := Tryz.sizeOf21
  v21 := Tryz.zeroValue21
  t37 := Tryz.underlying49
  a37 := Tryz.isAgg49
  z37 := Tryz.sizeOf49
  v37 := Tryz.zeroValue49
  t46 := Tryz.underlying114
  a46 := Tryz.isAgg114
  z46 := Tryz.sizeOf114
  v46 := Tryz.zeroValue114
  t51 := Tryz.underlying194
  a51 := Tryz.isAgg194
  z51 := Tryz.sizeOf194
  v51 := Tryz.zeroValue194
  t53 := Tryz.underlying60
  a53 := Tryz.isAgg60
  z53 := Tryz.sizeOf60
  v53 := Tryz.zeroValue60
  t75 := Tryz.underlying131
  a75 := Tryz.isAgg131
  z75 := Tryz.sizeOf131
  v75 := Tryz.zeroValue131
  t76 := Tryz.underlying132
  a76 := Tryz.isAgg132
  z76 := Tryz.sizeOf132
  v76 := Tryz.zeroValue132
  t85 := Tryz.underlying199
  a85 := Tryz.isAgg199
  z85 := Tryz.sizeOf199
  v85 := Tryz.zeroValue199
  t127 := Tryz.underlying151
  a127 := Tryz.isAgg151
  z127 := Tryz.sizeOf151
  v127 := Tryz.zeroValue151
  t143 := Tryz.underlying243
  a143 := Tryz.isAgg243
  z143 := Tryz.sizeOf243
  v143 := Tryz.zeroValue243
  t145 := Tryz.underlying245
  a145 := Tryz.isAgg245
  z145 := Tryz.sizeOf245
  v145 := Tryz.zeroValue245
  t167 := Tryz.underlying198
  a167 := Tryz.isAgg198
  z167 := Tryz.sizeOf198
  v167 := Tryz.zeroValue198
  t168 := Tryz.underlying201
  a168 := Tryz.isAgg201
  z168 := Tryz.sizeOf201
  v168 := Tryz.zeroValue201
  t171 := Tryz.underlying220
  a171 := Tryz.isAgg220
  z171 := Tryz.sizeOf220
  v171 := Tryz.zeroValue220
  t173 := Tryz.underlying222
  a173 := Tryz.isAgg222
  z173 := Tryz.sizeOf222
  v173 := Tryz.zeroValue222
  t175 := Tryz.underlying224
  a175 := Tryz.isAgg224
  z175 := Tryz.sizeOf224
  v175 := Tryz.zeroValue224
  t210 := Tryz.underlying228
  a210 := Tryz.isAgg228
  z210 := Tryz.sizeOf228
  v210 := Tryz.zeroValue228
  t212 := Tryz.underlying240
  a212 := Tryz.isAgg240
  z212 := Tryz.sizeOf240
  v212 := Tryz.zeroValue240
  t213 := Tryz.underlying241
  a213 := Tryz.isAgg241
  z213 := Tryz.sizeOf241
  t232 := Tryz.underlying250
  a232 := Tryz.isAgg250
  z232 := Tryz.sizeOf250
  v232 := Tryz.zeroValue250
  t233 := Tryz.underlying251
  a233 := Tryz.isAgg251
  z233 := Tryz.sizeOf251
  v233 := Tryz.zeroValue251
  g15 := by kernel_rfl
  g16 := by kernel_rfl
  g17 := by kernel_rfl
  g18 := by kernel_rfl
  g19 := by kernel_rfl
  t80 := Tryz.underlying92
  a80 := Tryz.isAgg92
  z80 := Tryz.sizeOf92
  v80 := Tryz.zeroValue92
  i0 := by kernel_rfl
  i2 := by kernel_rfl
  i3 := by kernel_rfl
  i4 := by kernel_rfl
  i5 := by kernel_rfl
  i9 := by kernel_rfl
  i20 := by kernel_rfl
  i21 := by kernel_rfl
  i37 := by kernel_rfl
  i46 := by kernel_rfl
  i51 := by kernel_rfl
  i53 := by kernel_rfl
  i75 := by kernel_rfl
  i76 := by kernel_rfl
  i80 := by kernel_rfl
  i85 := by kernel_rfl
  i127 := by kernel_rfl
  i143 := by kernel_rfl
  i145 := by kernel_rfl
  i167 := by kernel_rfl
  i168 := by kernel_rfl
  i171 := by kernel_rfl
  i173 := by kernel_rfl
  i175 := by kernel_rfl
  i210 := by kernel_rfl
  i212 := by kernel_rfl
  i232 := by kernel_rfl
  i233 := by kernel_rfl
  m15 := by kernel_rfl
  m16 := by kernel_rfl
  m17 := by kernel_rfl
  m18 := by kernel_rfl
  m19 := by kernel_rfl
  c0 := by kernel_rfl
  c2 := by kernel_rfl
  c3 := by kernel_rfl
  c4 := by kernel_rfl
  c5 := by kernel_rfl
  c9 := by kernel_rfl
  c20 := by kernel_rfl
  c21 := by kernel_rfl
  c37 := by kernel_rfl
  c46 := by kernel_rfl
  c51 := by kernel_rfl
  c53 := by kernel_rfl
  c75 := by kernel_rfl
  c76 := by kernel_rfl
  c80 := by kernel_rfl
  c85 := by kernel_rfl
  c127 := by kernel_rfl
  c143 := by kernel_rfl
  c145 := by kernel_rfl
  c167 := by kernel_rfl
  c168 := by kernel_rfl
  c171 := by kernel_rfl
  c173 := by kernel_rfl
  c175 := by kernel_rfl
  c210 := by kernel_rfl
  c212 := by kernel_rfl
  c213 := by kernel_rfl
  c232 := by kernel_rfl
  c233 := by kernel_rfl }
open Go.RowKit in
/-- strconv.Atoi, AT EVERY STRING THAT SPELLS AN int ('Lib.atoiAll .. = .ok v'; of whatever length: leading zeros count): v, AND NO ERROR. The world: as it was, or with the one new row that '[]byte(..)' lays. (LAID: no walk: one application.) -/
theorem Tryz.strconv_Atoi_ok (s : ByteArray) (hmax : s.size ≤ 9223372036854775806) (v : Int) (h : Lib.atoiAll s.data.toList = .ok v) (w : World) :
    Calls Tryz.prog 89 #[.string s] w fun e w' => e = .returned (.tuple #[.int .i64 v, .nilIface]) ∧ (w' = w ∨ ∃ t, w' = Lib.bytesWorld w 5 t) := Any.strconv_Atoi_ok Tryz.laysC172 s hmax v h w
open Go.RowKit in
/-- strconv.Atoi, AT EVERY STRING THAT IS NO DECIMAL NUMERAL ('.syntax'): 0, AND AN ERROR THAT IS NOT nil: a *NumError in a new block N: {Func: "Atoi", Num: s's bytes, Err: what the variable ErrSyntax holds}. Of what was there nothing has turned. (LAID: no walk: one application.) -/
theorem Tryz.strconv_Atoi_syntax (s : ByteArray) (hlim : s.size ≤ 281474976710656) (h : Lib.atoiAll s.data.toList = (Lib.atoiAll [])) (ev : Value) (w : World) (hv : w.cell? ⟨0, 0, none⟩ = some ev) (hev : ev = .nilIface ∨ ∃ te pe, ev = .iface te pe) :
    Calls Tryz.prog 89 #[.string s] w fun e w' => ∃ N, e = .returned (.tuple #[.int .i64 (0), .iface 201 (.pointer (some ⟨N, 0, none⟩))]) ∧ w.heap.size ≤ N ∧ w'.heap[N]? = some (.cells #[.string ⟨#[65, 116, 111, 105]⟩, .string s, ev] 228 (0, 0)) ∧ Below w.heap.size w w' := Any.strconv_Atoi_syntax Tryz.laysC172 s hlim h ev w hv hev
open Go.RowKit in
/-- strconv.Atoi, AT EVERY NUMERAL THAT NO int HOLDS ('.range'): THE GREATEST OR THE LEAST int, BY THE SIGN ('Lib.atoiSat'), AND AN ERROR THAT IS NOT nil: a *NumError in a new block N: {Func: "Atoi", Num: s's bytes, Err: what the variable ErrRange holds}. Of what was there nothing has turned. (LAID: no walk: one application.) -/
theorem Tryz.strconv_Atoi_range (s : ByteArray) (hlim : s.size ≤ 281474976710656) (h : Lib.atoiAll s.data.toList = .range) (ev : Value) (w : World) (hv : w.cell? ⟨1, 0, none⟩ = some ev) (hev : ev = .nilIface ∨ ∃ te pe, ev = .iface te pe) :
    Calls Tryz.prog 89 #[.string s] w fun e w' => ∃ N, e = .returned (.tuple #[.int .i64 (Lib.atoiSat s.data.toList), .iface 201 (.pointer (some ⟨N, 0, none⟩))]) ∧ w.heap.size ≤ N ∧ w'.heap[N]? = some (.cells #[.string ⟨#[65, 116, 111, 105]⟩, .string s, ev] 228 (0, 0)) ∧ Below w.heap.size w w' := Any.strconv_Atoi_range Tryz.laysC172 s hlim h ev w hv hev
end Go.Proofs

namespace Go.Proofs.YtfnhkfdjhmgjbaaGreatDoor
open Go Go.Ax Go.Proofs
set_option linter.unusedVariables false
set_option maxRecDepth 1000000
def saysTrue (r : AV) : Prop := match r with | .bool b => (match b with | true => True | false => False) | _ => False
theorem saysTrue_eq {r : AV} (h : saysTrue r) : r = .bool true := by
  unfold saysTrue at h
  split at h
  · split at h
    · rfl
    · exact h.elim
  · exact h.elim
/-- The variables that are read: 'strconv.ErrSyntax', 'strconv.ErrRange' and the table of powers of ten. -/
def gz : List (Nat × AV) := [(0, .ifc 243 (.ip (.agg []))), (1, .ifc 243 (.ip (.agg []))), (2, .agg ([.int .u64 1, .int .u64 10, .int .u64 100, .int .u64 1000, .int .u64 10000, .int .u64 100000, .int .u64 1000000, .int .u64 10000000, .int .u64 100000000, .int .u64 1000000000, .int .u64 10000000000, .int .u64 100000000000, .int .u64 1000000000000, .int .u64 10000000000000, .int .u64 100000000000000, .int .u64 1000000000000000, .int .u64 10000000000000000, .int .u64 100000000000000000, .int .u64 1000000000000000000, .int .u64 10000000000000000000]))]
theorem lives10 : ((fdeep Tryz.prog gz 60).call 21 [] [] 0 fun r _ _ => saysTrue r) = True := by kernel_rfl
end Go.Proofs.YtfnhkfdjhmgjbaaGreatDoor

namespace Go.Proofs.YtfnhkfdjhmgjbaaGreatDoor
open Go Go.Ax Go.Proofs
set_option linter.unusedVariables false
set_option maxRecDepth 100000
set_option maxHeartbeats 4000000

theorem nngz : ∀ p ∈ gz, NN p.2 := fun p hp => by
  simp only [gz, List.mem_cons, List.not_mem_nil, or_false] at hp
  rcases hp with rfl | rfl | rfl
  · exact nn
  · exact nn
  · exact nn

theorem sLen64 (u : Nat) (h : u < 18446744073709551616) : PureC Tryz.prog [] 163 [.int .u64 u] (.int .i64 (Lib.bitLen u)) :=
  pureC_of (fun _ _ _ _ _ h => vrl_int h) fun w _ => (Tryz.bits_Len64 u w (by omega) (by omega)).mono fun e w' ⟨h1, h2⟩ => ⟨_, h1, fun _ _ _ _ => .int _ _, by rw [h2]; exact .refl w⟩
theorem sLog10 (x : Nat) (h : x ≤ 64) : PureC Tryz.prog [] 208 [.int .i64 x] (.int .i64 (Lib.l10 x)) :=
  pureC_of (fun _ _ _ _ _ h => vrl_int h) fun w _ => (Tryz.internal_strconv_log10Pow2 x h w).mono fun e w' ⟨h1, h2⟩ => ⟨_, h1, fun _ _ _ _ => .int _ _, by rw [h2]; exact .refl w⟩
theorem sSmall (i : Nat) (h : i < 100) : PureC Tryz.prog [] 193 [.int .i64 i] (.str (Lib.decDigits i)) :=
  pureC_of (fun _ _ _ _ _ h => vrl_int h) fun w _ => (Tryz.internal_strconv_small i h w).mono fun e w' ⟨h1, h2⟩ => ⟨_, h1, fun _ _ _ _ => .str _, by rw [h2]; exact .refl w⟩
theorem sBool2 (b : Bool) : PureC Tryz.prog [] 209 [.bool b] (.int .i64 (if b then 1 else 0)) := by
  cases b
  all_goals
    refine acalls_go nnΓ Tryz.func209 rfl ?_
    ((conv => whnf); repeat ((first | refine AWp.many ?_ | refine AOps.many ?_ | refine ADr.go ?_); conv => whnf))
    exact fin_pure nn ⟨rfl, rfl, rfl⟩
theorem sFmt10 (t : TypeId) (xs : List UInt8) (u : Nat) (hu64 : u < 18446744073709551616) (hlen : 1 + Lib.nDigits u ≤ xs.length) (hxl : xs.length ≤ 1000) :
    ACalls Tryz.prog [] 195 [.sl 0 1 (Lib.nDigits u), .int .u64 u] [(0, .row t 1 (encB xs))] 1 fun r m n => r = .tup [] ∧ m = [(0, .row t 1 (encB (xs.take 1 ++ Lib.decDigits u ++ xs.drop (1 + Lib.nDigits u))))] :=
  fmt10 Tryz.internal_strconv_formatBase10 xs u hu64 hlen hxl

def tabP : List AV := [.int .u64 1, .int .u64 10, .int .u64 100, .int .u64 1000, .int .u64 10000, .int .u64 100000, .int .u64 1000000, .int .u64 10000000, .int .u64 100000000, .int .u64 1000000000, .int .u64 10000000000, .int .u64 100000000000, .int .u64 1000000000000, .int .u64 10000000000000, .int .u64 100000000000000, .int .u64 1000000000000000, .int .u64 10000000000000000, .int .u64 100000000000000000, .int .u64 1000000000000000000, .int .u64 10000000000000000000]
theorem tab_at (q : Nat) (h : q ≤ 19) : tabP[q]? = some (.int .u64 ((10 ^ q : Nat) : Int)) := by
  rcases (show q = 0 ∨ q = 1 ∨ q = 2 ∨ q = 3 ∨ q = 4 ∨ q = 5 ∨ q = 6 ∨ q = 7 ∨ q = 8 ∨ q = 9 ∨ q = 10 ∨ q = 11 ∨ q = 12 ∨ q = 13 ∨ q = 14 ∨ q = 15 ∨ q = 16 ∨ q = 17 ∨ q = 18 ∨ q = 19 by omega) with rfl | rfl | rfl | rfl | rfl | rfl | rfl | rfl | rfl | rfl | rfl | rfl | rfl | rfl | rfl | rfl | rfl | rfl | rfl | rfl <;> rfl

/-- 'numDigits'. -/
theorem sNumDigits (u : Nat) (h1 : 1 ≤ u) (h2 : u < 18446744073709551616) : PureC Tryz.prog gz 194 [.int .u64 u] (.int .i64 (Lib.nDigits u)) := by
  obtain ⟨e1, e2⟩ := Lib.numDigits_eq u h1 h2
  have hL := sLen64 u h2
  have hb : Lib.bitLen u ≤ 64 := Lib.bitLen_le u 64 (Nat.le_refl _) h2
  generalize Lib.bitLen u = L at *
  have hq := sLog10 L hb
  generalize Lib.l10 L = q at *
  generalize Lib.nDigits u = nd at *
  have htab := tab_at q e2
  refine acalls_go nngz Tryz.func194 rfl ?_
  ((conv => whnf); repeat ((first | refine AWp.many ?_ | refine AOps.many ?_ | refine ADr.go ?_); conv => whnf))
  refine hL.goG ?_
  ((conv => whnf); repeat ((first | refine AWp.many ?_ | refine AOps.many ?_ | refine ADr.go ?_); conv => whnf))
  refine hq.goG ?_
  ((conv => whnf); repeat ((first | refine AWp.many ?_ | refine AOps.many ?_ | refine ADr.go ?_); conv => whnf))
  refine grd_mk (b := Nat.blt q 20) (Nat.ble_eq_true_of_le (by omega)) ?_
  ((conv => whnf); repeat ((first | refine AWp.many ?_ | refine AOps.many ?_ | refine ADr.go ?_); conv => whnf))
  have htab' : tabP[((q : Int)).toNat * 1]? = some (.int .u64 ((10 ^ q : Nat) : Int)) := by simpa using htab
  clear htab
  have hpq : ∃ pq : Int, pq = ((10 ^ q : Nat) : Int) := ⟨_, rfl⟩
  obtain ⟨pq, hpq⟩ := hpq
  rw [← hpq] at htab'
  refine opt_mk htab' ?_
  ((conv => whnf); repeat ((first | refine AWp.many ?_ | refine AOps.many ?_ | refine ADr.go ?_); conv => whnf))
  refine (sBool2 _).goG ?_
  ((conv => whnf); repeat ((first | refine AWp.many ?_ | refine AOps.many ?_ | refine ADr.go ?_); conv => whnf))
  refine fin_pure nn ⟨?_, rfl, rfl⟩
  congr 1
  have hle : decide ((u : Int) ≥ pq) = decide (10 ^ q ≤ u) := by rw [hpq]; simp only [ge_iff_le, Int.ofNat_le]
  have hnd : nd ≤ 20 := by rw [← e1]; split <;> omega
  rw [hle, w64 (y := (nd : Int)) _ ⟨by omega, by omega⟩]
  rw [← e1]
  by_cases hc : 10 ^ q ≤ u <;> simp [hc]

theorem nDigits_le (u : Nat) (h2 : u < 18446744073709551616) : Lib.nDigits u ≤ 20 := by
  by_cases h1 : 1 ≤ u
  · obtain ⟨e1, e2⟩ := Lib.numDigits_eq u h1 h2
    rw [← e1]
    split <;> omega
  · rw [Lib.nDigits_small (by omega)]; omega
theorem u64_wrap (n : Int) : IntKind.u64.wrap n = n % 18446744073709551616 := by
  simp [IntKind.wrap, IntKind.bits, IntKind.signed]

/-- 'FormatInt(i, 10)'. -/
theorem sFormatInt (n : Int) (hn : i64 n) : PureC Tryz.prog gz 167 [.int .i64 n, .int .i64 10] (.str (Lib.itoa n)) := by
  rcases (show (0 ≤ n ∧ n < 100) ∨ 100 ≤ n ∨ n < 0 by omega) with ⟨h0, h1⟩ | h1 | h1
  · obtain ⟨i, rfl⟩ : ∃ i : Nat, n = i := ⟨n.toNat, by omega⟩
    have d2 : decide ((i : Int) < 100) = true := by simpa using h1
    refine acalls_go nngz Tryz.func167 rfl ?_
    ((conv => whnf); repeat ((first | refine AWp.many ?_ | refine AOps.many ?_ | refine ADr.go ?_); conv => whnf))
    rw [d2]
    ((conv => whnf); repeat ((first | refine AWp.many ?_ | refine AOps.many ?_ | refine ADr.go ?_); conv => whnf))
    refine (sSmall i (by omega)).goG ?_
    ((conv => whnf); repeat ((first | refine AWp.many ?_ | refine AOps.many ?_ | refine ADr.go ?_); conv => whnf))
    refine fin_pure nn ⟨?_, rfl, rfl⟩
    rw [Lib.itoa_nonneg]
  · obtain ⟨u, rfl⟩ : ∃ i : Nat, n = i := ⟨n.toNat, by omega⟩
    have d2 : decide ((u : Int) < 100) = false := by simp; omega
    have d3 : decide ((u : Int) < 0) = false := by simp
    unfold i64 at hn
    have hw : IntKind.u64.wrap (u : Int) = (u : Int) := by rw [u64_wrap]; omega
    have hu64 : u < 18446744073709551616 := by omega
    have hnd := nDigits_le u hu64
    have hF := (sFmt10 220 (List.replicate 24 0) u hu64 (by simp; omega) (by simp)).glob (Γ := gz)
    have hdl := Lib.decDigits_length u
    have hN := sNumDigits u (by omega) hu64
    have hdd : (Lib.decDigits u ++ List.drop (1 + Lib.nDigits u) (List.replicate 24 0)).length = 23 := by simp [hdl]; omega
    have hit := Lib.itoa_nonneg u
    generalize Lib.nDigits u = nd at hN hF hnd hdl hdd
    generalize Lib.decDigits u = ds at hF hdl hit hdd
    refine acalls_go nngz Tryz.func167 rfl ?_
    ((conv => whnf); repeat ((first | refine AWp.many ?_ | refine AOps.many ?_ | refine ADr.go ?_); conv => whnf))
    rw [d2]
    ((conv => whnf); repeat ((first | refine AWp.many ?_ | refine AOps.many ?_ | refine ADr.go ?_); conv => whnf))
    rw [hw]
    refine hN.use nngz nns nn ?_
    ((conv => whnf); repeat ((first | refine AWp.many ?_ | refine AOps.many ?_ | refine ADr.go ?_); conv => whnf))
    rw [w64 (x := 1 + (nd : Int)) (y := ((1 + nd : Nat) : Int)) (by omega) ⟨by omega, by omega⟩]
    ((conv => whnf); repeat ((first | refine AWp.many ?_ | refine AOps.many ?_ | refine ADr.go ?_); conv => whnf))
    refine grd_mk (sl_ok (by simp; omega) (by simp; omega) (by simp)) ?_
    ((conv => whnf); repeat ((first | refine AWp.many ?_ | refine AOps.many ?_ | refine ADr.go ?_); conv => whnf))
    refine ACalls.useI nngz [0] hF (by rfl) (.cons (.slE rfl (by simp; omega)) (.cons (.same _ nn) .nil)) ⟨⟨0, _, rfl, rfl, .same (encB_nn _)⟩, trivial⟩ rfl ?_
    rintro r m n' ⟨rfl, rfl⟩
    refine ⟨nn, ⟨⟨0, _, rfl, rfl, .same (encB_nn _)⟩, trivial⟩, rfl, ?_⟩
    have hlist : List.take 1 (List.replicate 24 (0 : UInt8)) ++ ds ++ List.drop (1 + nd) (List.replicate 24 0) = 0 :: (ds ++ List.drop (1 + nd) (List.replicate 24 0)) := rfl
    rw [hlist]
    have htk : List.take nd (ds ++ List.drop (1 + nd) (List.replicate 24 0)) = ds := by rw [List.take_append_of_le_length (by omega), List.take_of_length_le (by omega)]
    generalize ds ++ List.drop (1 + nd) (List.replicate 24 0) = rest at hdd htk
    have hrl : (encB (0 :: rest)).length = 24 := by rw [encB_length]; simp [hdd]
    ((conv => whnf); repeat ((first | refine AWp.many ?_ | refine AOps.many ?_ | refine ADr.go ?_); conv => whnf))
    refine grd_mk (by rw [Bool.and_eq_true]; exact ⟨rfl, Nat.ble_eq_true_of_le (by rw [hrl]; omega)⟩) ?_
    ((conv => whnf); repeat ((first | refine AWp.many ?_ | refine AOps.many ?_ | refine ADr.go ?_); conv => whnf))
    rw [w64 (x := 1 + (nd : Int)) (y := ((1 + nd : Nat) : Int)) (by omega) ⟨by omega, by omega⟩]
    ((conv => whnf); repeat ((first | refine AWp.many ?_ | refine AOps.many ?_ | refine ADr.go ?_); conv => whnf))
    refine grd_mk (sl_ok (by simp; omega) (by simp; omega) (by simp)) ?_
    ((conv => whnf); repeat ((first | refine AWp.many ?_ | refine AOps.many ?_ | refine ADr.go ?_); conv => whnf))
    refine grd_mk (Nat.ble_eq_true_of_le (by rw [hrl]; simp; omega)) ?_
    refine opt_mk (a := ds) ?_ ?_
    · rw [encB_drop, encB_take, toBytes_encB]
      show some (List.take ((((1 + nd : Nat) : Int)).toNat - 1) rest) = some ds
      rw [← htk]
      congr 2
      simp
      omega
    ((conv => whnf); repeat ((first | refine AWp.many ?_ | refine AOps.many ?_ | refine ADr.go ?_); conv => whnf))
    refine fin_pure nn ⟨?_, rfl, rfl⟩
    rw [hit]
  · obtain ⟨u, rfl⟩ : ∃ i : Nat, n = -(i : Int) := ⟨(-n).toNat, by omega⟩
    have d1 : decide (0 ≤ -(u : Int)) = false := by simp; omega
    have d3 : decide (-(u : Int) < 0) = true := by simp; omega
    unfold i64 at hn
    have hw : IntKind.u64.wrap (0 - IntKind.u64.wrap (-(u : Int))) = (u : Int) := by rw [u64_wrap, u64_wrap]; omega
    have hu64 : u < 18446744073709551616 := by omega
    have hnd := nDigits_le u hu64
    have hF := (sFmt10 220 (List.replicate 24 0) u hu64 (by simp; omega) (by simp)).glob (Γ := gz)
    have hdl := Lib.decDigits_length u
    have hN := sNumDigits u (by omega) hu64
    have hdd : (Lib.decDigits u ++ List.drop (1 + Lib.nDigits u) (List.replicate 24 0)).length = 23 := by simp [hdl]; omega
    have hit := Lib.itoa_neg u (by omega)
    generalize Lib.nDigits u = nd at hN hF hnd hdl hdd
    generalize Lib.decDigits u = ds at hF hdl hit hdd
    refine acalls_go nngz Tryz.func167 rfl ?_
    ((conv => whnf); repeat ((first | refine AWp.many ?_ | refine AOps.many ?_ | refine ADr.go ?_); conv => whnf))
    rw [d1]
    ((conv => whnf); repeat ((first | refine AWp.many ?_ | refine AOps.many ?_ | refine ADr.go ?_); conv => whnf))
    rw [d3]
    ((conv => whnf); repeat ((first | refine AWp.many ?_ | refine AOps.many ?_ | refine ADr.go ?_); conv => whnf))
    rw [hw]
    refine hN.use nngz nns nn ?_
    ((conv => whnf); repeat ((first | refine AWp.many ?_ | refine AOps.many ?_ | refine ADr.go ?_); conv => whnf))
    rw [w64 (x := 1 + (nd : Int)) (y := ((1 + nd : Nat) : Int)) (by omega) ⟨by omega, by omega⟩]
    ((conv => whnf); repeat ((first | refine AWp.many ?_ | refine AOps.many ?_ | refine ADr.go ?_); conv => whnf))
    refine grd_mk (sl_ok (by simp; omega) (by simp; omega) (by simp)) ?_
    ((conv => whnf); repeat ((first | refine AWp.many ?_ | refine AOps.many ?_ | refine ADr.go ?_); conv => whnf))
    refine ACalls.useI nngz [0] hF (by rfl) (.cons (.slE rfl (by simp; omega)) (.cons (.same _ nn) .nil)) ⟨⟨0, _, rfl, rfl, .same (encB_nn _)⟩, trivial⟩ rfl ?_
    rintro r m n' ⟨rfl, rfl⟩
    refine ⟨nn, ⟨⟨0, _, rfl, rfl, .same (encB_nn _)⟩, trivial⟩, rfl, ?_⟩
    have hlist : List.take 1 (List.replicate 24 (0 : UInt8)) ++ ds ++ List.drop (1 + nd) (List.replicate 24 0) = 0 :: (ds ++ List.drop (1 + nd) (List.replicate 24 0)) := rfl
    rw [hlist]
    have htk : List.take nd (ds ++ List.drop (1 + nd) (List.replicate 24 0)) = ds := by rw [List.take_append_of_le_length (by omega), List.take_of_length_le (by omega)]
    generalize ds ++ List.drop (1 + nd) (List.replicate 24 0) = rest at hdd htk
    have hrl : ∀ b, (encB (b :: rest)).length = 24 := fun b => by rw [encB_length]; simp [hdd]
    ((conv => whnf); repeat ((first | refine AWp.many ?_ | refine AOps.many ?_ | refine ADr.go ?_); conv => whnf))
    rw [d3]
    ((conv => whnf); repeat ((first | refine AWp.many ?_ | refine AOps.many ?_ | refine ADr.go ?_); conv => whnf))
    refine grd_mk (by rw [Bool.and_eq_true]; exact ⟨rfl, Nat.ble_eq_true_of_le (Nat.le_of_eq (hrl 45).symm)⟩) ?_
    ((conv => whnf); repeat ((first | refine AWp.many ?_ | refine AOps.many ?_ | refine ADr.go ?_); conv => whnf))
    rw [w64 (x := 1 + (nd : Int)) (y := ((1 + nd : Nat) : Int)) (by omega) ⟨by omega, by omega⟩]
    ((conv => whnf); repeat ((first | refine AWp.many ?_ | refine AOps.many ?_ | refine ADr.go ?_); conv => whnf))
    refine grd_mk (sl_ok (by simp) (by simp; omega) (by simp)) ?_
    ((conv => whnf); repeat ((first | refine AWp.many ?_ | refine AOps.many ?_ | refine ADr.go ?_); conv => whnf))
    refine grd_mk (Nat.ble_eq_true_of_le (show _ ≤ (encB (45 :: rest)).length by rw [hrl]; simp; omega)) ?_
    refine opt_mk (a := 45 :: ds) (show toBytes (List.take ((((1 + nd : Nat) : Int)).toNat - 0) (List.drop (0 + 0) (encB (45 :: rest)))) = _ from ?_) ?_
    · rw [encB_drop, encB_take, toBytes_encB]
      have e : (((1 + nd : Nat) : Int)).toNat - 0 = nd + 1 := by simp; omega
      rw [e]
      show some (45 :: List.take nd rest) = _
      rw [htk]
    ((conv => whnf); repeat ((first | refine AWp.many ?_ | refine AOps.many ?_ | refine ADr.go ?_); conv => whnf))
    refine fin_pure nn ⟨?_, rfl, rfl⟩
    rw [hit]

theorem sItoaI (n : Int) (hn : i64 n) : PureC Tryz.prog gz 130 [.int .i64 n] (.str (Lib.itoa n)) := by
  have h := sFormatInt n hn
  generalize Lib.itoa n = r at h
  refine acalls_go nngz Tryz.func130 rfl ?_
  ((conv => whnf); repeat ((first | refine AWp.many ?_ | refine AOps.many ?_ | refine ADr.go ?_); conv => whnf))
  refine h.use nngz nns nn ?_
  ((conv => whnf); repeat ((first | refine AWp.many ?_ | refine AOps.many ?_ | refine ADr.go ?_); conv => whnf))
  exact fin_pure nn ⟨rfl, rfl, rfl⟩
/-- 'strconv.Itoa'. -/
theorem sItoa (n : Int) (hn : i64 n) : PureC Tryz.prog gz 88 [.int .i64 n] (.str (Lib.itoa n)) := by
  have h := sItoaI n hn
  generalize Lib.itoa n = r at h
  refine acalls_go nngz Tryz.func88 rfl ?_
  ((conv => whnf); repeat ((first | refine AWp.many ?_ | refine AOps.many ?_ | refine ADr.go ?_); conv => whnf))
  refine h.use nngz nns nn ?_
  ((conv => whnf); repeat ((first | refine AWp.many ?_ | refine AOps.many ?_ | refine ADr.go ?_); conv => whnf))
  exact fin_pure nn ⟨rfl, rfl, rfl⟩

/-- 'strconv.Atoi'. -/
theorem knows_err {g : Nat} {t : TypeId} {v : AV} {w : World} (h : Knows gz w) (hg : (g, AV.ifc t v) ∈ gz) : ∃ ev, w.cell? ⟨g, 0, none⟩ = some ev ∧ (ev = .nilIface ∨ ∃ te pe, ev = .iface te pe) := by
  obtain ⟨x, ρ, D, O, h1, h2⟩ := h _ hg 0 (.ifc t v) rfl
  cases h2 with
  | ifc _ _ y hy => exact ⟨_, h1, .inr ⟨_, _, rfl⟩⟩
theorem sAtoi (s : List UInt8) (hs : s.length ≤ 4294967296) :
    ∃ (n : Int) (e : AV), i64 n ∧ (e = .nif ∨ e = .ifc 201 .junk) ∧ PureC Tryz.prog gz 89 [.str s] (.tup [.int .i64 n, e]) ∧ (∀ m, Lib.atoiAll s = .ok m → n = m ∧ e = .nif) := by
  have hsz : (⟨s.toArray⟩ : ByteArray).size = s.length := by simp [ByteArray.size]
  have hd : (⟨s.toArray⟩ : ByteArray).data.toList = s := by simp
  cases h : Lib.atoiAll s with
  | ok v =>
    refine ⟨v, .nif, Lib.atoiAll_bounds h, .inl rfl, pureC_of (fun _ _ _ _ _ h => vrl_str h) fun w _ => ?_, fun m hm => ⟨by injection hm, rfl⟩⟩
    refine (Tryz.strconv_Atoi_ok ⟨s.toArray⟩ (by rw [hsz]; omega) v (by rw [hd]; exact h) w).mono ?_
    rintro e w' ⟨rfl, hw⟩
    refine ⟨_, rfl, fun _ _ _ _ => .tup _ _ rfl fun j c x h1 h2 => ?_, ?_⟩
    · match j, h1, h2 with
      | 0, h1, h2 => simp at h1 h2; subst h1 h2; exact .int _ _
      | 1, h1, h2 => simp at h1 h2; subst h1 h2; exact .nif
      | j + 2, h1, h2 => simp at h1
    · rcases hw with rfl | ⟨t, rfl⟩
      · exact .refl _
      · exact grown_bytes _ _ _
  | range =>
    refine ⟨Lib.atoiSat s, .ifc 201 .junk, Lib.atoiSat_bounds s, .inr rfl, pureC_of (fun _ _ _ _ _ h => vrl_str h) fun w hk => ?_, fun m hm => by cases hm⟩
    obtain ⟨ev, h1, h2⟩ := knows_err (g := 1) hk (.tail _ (.head _))
    have hc := Tryz.strconv_Atoi_range ⟨s.toArray⟩ (by rw [hsz]; omega) (by rw [hd]; exact h) ev w h1 h2
    rw [hd] at hc
    refine hc.mono ?_
    rintro e w' ⟨N, rfl, -, -, hb⟩
    refine ⟨_, rfl, fun _ _ _ _ => .tup _ _ rfl fun j c x h1 h2 => ?_, grown_below hb⟩
    match j, h1, h2 with
    | 0, h1, h2 => simp at h1 h2; subst h1 h2; exact .int _ _
    | 1, h1, h2 => simp at h1 h2; subst h1 h2; exact .ifc _ _ _ (.junk _)
    | j + 2, h1, h2 => simp at h1
  | _ =>
    refine ⟨0, .ifc 201 .junk, ⟨by omega, by omega⟩, .inr rfl, pureC_of (fun _ _ _ _ _ h => vrl_str h) fun w hk => ?_, fun m hm => by cases hm⟩
    obtain ⟨ev, h1, h2⟩ := knows_err (g := 0) hk (.head _)
    refine (Tryz.strconv_Atoi_syntax ⟨s.toArray⟩ (by rw [hsz]; omega) (by rw [hd]; exact h) ev w h1 h2).mono ?_
    rintro e w' ⟨N, rfl, -, -, hb⟩
    refine ⟨_, rfl, fun _ _ _ _ => .tup _ _ rfl fun j c x h1 h2 => ?_, grown_below hb⟩
    match j, h1, h2 with
    | 0, h1, h2 => simp at h1 h2; subst h1 h2; exact .int _ _
    | 1, h1, h2 => simp at h1 h2; subst h1 h2; exact .ifc _ _ _ (.junk _)
    | j + 2, h1, h2 => simp at h1
end Go.Proofs.YtfnhkfdjhmgjbaaGreatDoor

namespace Go.Proofs.YtfnhkfdjhmgjbaaGreatDoor
open Go Go.Ax Go.Proofs
set_option linter.unusedVariables false
set_option maxRecDepth 100000
set_option maxHeartbeats 4000000

/-- The address that a builder keeps: nil before the first write. -/
def adr : Bool → AV
  | true => .ptr 0 0 0
  | false => .nptr
/-- A builder's two cells, in a texter. -/
abbrev bC (a : AV) (id n : Nat) : AB := .row 90 2 [.agg [a, .sl id 0 n]]
abbrev bM (a : Bool) (s : List UInt8) : Mem := [(0, bC (adr a) 1 s.length), (1, .row 5 1 (encB s))]
/-- What writing leaves behind. -/
def bN (s : List UInt8) (m : Mem) (n : Nat) : Prop := m = [(0, bC (.ptr 0 0 0) 2 s.length), (2, .row 5 1 (encB s))] ∧ n = 3
theorem bC_cv {mem : Mem} {σ : List (Nat × Nat)} {a : Bool} {i j n : Nat} (h0 : lk σ 0 = some 0) (h1 : lk σ i = some j) : CvR mem σ [.agg [adr a, .sl i 0 n]] [.agg [adr a, .sl j 0 n]] :=
  .cons (.agg (.cons (by cases a; exact .same _ nn; exact .ptr 0 0 0 0 h0) (.cons (.sl i j 0 n h1) .nil))) .nil

theorem bFrom (s : List UInt8) : aFromU Tryz.prog (bM false s) .unsafePointer 88 (.ptr 0 0 0) = some (.ptr 0 0 0) := by kernel_rfl

theorem bCheck (a : Bool) (s : List UInt8) : ACalls Tryz.prog [] 203 [.ptr 0 0 0] (bM a s) 2 fun r m n => r = .tup [] ∧ m = bM true s ∧ n = 2 := by
  refine acalls_go nnΓ Tryz.func203 rfl ?_
  cases a with
  | false =>
    ((conv => whnf); repeat ((first | refine AWp.many ?_ | refine AOps.many ?_ | refine ADr.go ?_); conv => whnf))
    rw [bFrom]
    ((conv => whnf); repeat ((first | refine AWp.many ?_ | refine AOps.many ?_ | refine ADr.go ?_); conv => whnf))
    exact fin_mk (r' := .tup []) (m' := bM true s) (n' := 2) [(0, 0), (1, 1)] rfl ⟨⟨0, _, rfl, rfl, bC_cv (a := true) rfl rfl⟩, ⟨1, _, rfl, rfl, .same (encB_nn _)⟩, trivial⟩ (.same _ nn) ⟨rfl, rfl, rfl⟩
  | true =>
    ((conv => whnf); repeat ((first | refine AWp.many ?_ | refine AOps.many ?_ | refine ADr.go ?_); conv => whnf))
    exact fin_mk (r' := .tup []) (m' := bM true s) (n' := 2) [(0, 0), (1, 1)] rfl ⟨⟨0, _, rfl, rfl, bC_cv (a := true) rfl rfl⟩, ⟨1, _, rfl, rfl, .same (encB_nn _)⟩, trivial⟩ (.same _ nn) ⟨rfl, rfl, rfl⟩

theorem bString (a : Bool) (s w : List UInt8) (hs : s.length + w.length ≤ 100000000) : ACalls Tryz.prog [] 180 [.ptr 0 0 0, .str w] (bM a s) 2 fun r m n => r = .tup [.int .i64 w.length, .nif] ∧ bN (s ++ w) m n := by
  refine acalls_go nnΓ Tryz.func180 rfl ?_
  ((conv => whnf); repeat ((first | refine AWp.many ?_ | refine AOps.many ?_ | refine ADr.go ?_); conv => whnf))
  refine ACalls.useI nnΓ [0, 1] (bCheck a s) rfl (.cons (.ptr 0 0 0 0 rfl) .nil) ⟨⟨0, _, rfl, rfl, bC_cv rfl rfl⟩, ⟨1, _, rfl, rfl, .same (encB_nn _)⟩, trivial⟩ rfl ?_
  rintro r m n ⟨rfl, rfl, rfl⟩
  refine ⟨nn, ⟨⟨0, _, rfl, rfl, bC_cv (a := true) rfl rfl⟩, ⟨1, _, rfl, rfl, .same (encB_nn _)⟩, trivial⟩, rfl, ?_⟩
  ((conv => whnf); repeat ((first | refine AWp.many ?_ | refine AOps.many ?_ | refine ADr.go ?_); conv => whnf))
  have e : List.map (fun b : UInt8 => AV.int IntKind.u8 (b.toNat : Int)) w = encB w := rfl
  rw [e]
  refine grd_mk (app_ok rfl rfl (encB_length _).symm (by rw [encB_length]; omega)) ?_
  ((conv => whnf); repeat ((first | refine AWp.many ?_ | refine AOps.many ?_ | refine ADr.go ?_); conv => whnf))
  exact fin_mk (r' := .tup [.int .i64 w.length, .nif]) (m' := [(0, bC (.ptr 0 0 0) 2 (s ++ w).length), (2, .row 5 1 (encB (s ++ w)))]) (n' := 3) [(0, 0), (2, 2)] rfl
    ⟨⟨0, _, rfl, rfl, .cons (.agg (.cons (.ptr 0 0 0 0 rfl) (.cons (.slE rfl (by rw [encB_length, List.length_append])) .nil))) .nil⟩, ⟨2, _, rfl, rfl, .eq (encB_nn _) (encB_append _ _).symm⟩, trivial⟩ (.same _ nn) ⟨rfl, rfl, rfl⟩

theorem bByte (a : Bool) (s : List UInt8) (c : UInt8) (hs : s.length ≤ 100000000) : ACalls Tryz.prog [] 182 [.ptr 0 0 0, .int .u8 c.toNat] (bM a s) 2 fun r m n => r = .nif ∧ bN (s ++ [c]) m n := by
  refine acalls_go nnΓ Tryz.func182 rfl ?_
  ((conv => whnf); repeat ((first | refine AWp.many ?_ | refine AOps.many ?_ | refine ADr.go ?_); conv => whnf))
  refine ACalls.useI nnΓ [0, 1] (bCheck a s) rfl (.cons (.ptr 0 0 0 0 rfl) .nil) ⟨⟨0, _, rfl, rfl, bC_cv rfl rfl⟩, ⟨1, _, rfl, rfl, .same (encB_nn _)⟩, trivial⟩ rfl ?_
  rintro r m n ⟨rfl, rfl, rfl⟩
  refine ⟨nn, ⟨⟨0, _, rfl, rfl, bC_cv (a := true) rfl rfl⟩, ⟨1, _, rfl, rfl, .same (encB_nn _)⟩, trivial⟩, rfl, ?_⟩
  ((conv => whnf); repeat ((first | refine AWp.many ?_ | refine AOps.many ?_ | refine ADr.go ?_); conv => whnf))
  refine grd_mk (app_ok rfl rfl (encB_length _).symm (by simp; omega)) ?_
  ((conv => whnf); repeat ((first | refine AWp.many ?_ | refine AOps.many ?_ | refine ADr.go ?_); conv => whnf))
  exact fin_mk (r' := .nif) (m' := [(0, bC (.ptr 0 0 0) 2 (s ++ [c]).length), (2, .row 5 1 (encB (s ++ [c])))]) (n' := 3) [(0, 0), (3, 2)] rfl
    ⟨⟨0, _, rfl, rfl, .cons (.agg (.cons (.ptr 0 0 0 0 rfl) (.cons (.slE rfl (by simp)) .nil))) .nil⟩, ⟨3, _, rfl, rfl, .eq (encB_nn _) (by rw [encB_append]; rfl)⟩, trivial⟩ (.same _ nn) ⟨rfl, rfl, rfl⟩

theorem lk_pickM {ids : List Nat} {k : Nat} (hk : inL k ids = true) : ∀ (m : Mem), lk (pickM ids m) k = lk m k
  | [] => rfl
  | (j, b) :: r => by
    simp only [pickM, lk]
    split
    · simp only [lk, lk_pickM hk r]
    · rename_i h
      rw [lk_pickM hk r]
      split
      · rename_i e
        rw [Nat.eq_of_beq_eq_true e, hk] at h
        cases h
      · rfl

/-- What writes, used: the buffer gets a new name. -/
theorem bUse {Γ : List (Nat × AV)} {F : FuncId} {aa : List AV} {a : Bool} {s s' : List UInt8} {rv : AV} {mem : Mem} {nx : Nat} {K : AV → Mem → Nat → Prop} (i : Nat) (hΓ : ∀ p ∈ Γ, NN p.2)
    (h : ACalls Tryz.prog Γ F (.ptr 0 0 0 :: aa) (bM a s) 2 fun r m n => r = rv ∧ bN s' m n) (h0 : lk mem 0 = some (bC (adr a) i s.length)) (h1 : lk mem i = some (.row 5 1 (encB s))) (hi : Nat.blt 0 i = true) (hin : Nat.blt i nx = true)
    (hk : K rv ((0, bC (.ptr 0 0 0) nx s'.length) :: (nx, .row 5 1 (encB s')) :: dropM [0, i] mem) (nx + 1)) (ha : NNs aa := by exact nns) (hr : NN rv := by exact nn) : ACalls Tryz.prog Γ F (.ptr 0 0 0 :: aa) mem nx K := by
  have hi := Nat.le_of_ble_eq_true hi
  have hin := Nat.le_of_ble_eq_true hin
  have e0 : Nat.beq 0 i = false := nbeq_ne (by omega)
  have k0 : inL 0 [0, i] = true := rfl
  have ki : inL i [0, i] = true := by simp [inL, e0]
  have s0 : lk [(0, 0), (i, 1)] 0 = some 0 := rfl
  have si : lk [(0, 0), (i, 1)] i = some 1 := by simp [lk, e0]
  refine ACalls.useN hΓ [(0, 0), (i, 1)] h rfl (.cons (.ptr 0 0 0 0 rfl) (.same ha)) ⟨⟨0, _, s0, by rw [← h0]; exact lk_pickM k0 mem, bC_cv s0 si⟩, ⟨i, _, si, by rw [← h1]; exact lk_pickM ki mem, .same (encB_nn _)⟩, trivial⟩ rfl ?_
  rintro r m n ⟨rfl, rfl, rfl⟩
  refine ⟨[(0, 0), (2, nx)], _, [(0, bC (.ptr 0 0 0) nx s'.length), (nx, .row 5 1 (encB s'))], nx + 1, .same _ hr, ⟨⟨0, _, rfl, rfl, bC_cv (a := true) rfl rfl⟩, ⟨2, _, rfl, rfl, .same (encB_nn _)⟩, trivial⟩, ?_, hk⟩
  have e1 : Nat.beq nx 0 = false := nbeq_ne (by omega)
  have e2 : Nat.ble nx 0 = false := by
    cases e : Nat.ble nx 0 with
    | false => rfl
    | true => have := Nat.le_of_ble_eq_true e; omega
  have e3 : Nat.ble nx nx = true := Nat.ble_eq_true_of_le (Nat.le_refl _)
  have e4 : Nat.ble nx (nx + 1) = true := Nat.ble_eq_true_of_le (by omega)
  have e5 : Nat.blt nx (nx + 1) = true := Nat.ble_eq_true_of_le (by omega)
  have e6 : Nat.blt 0 2 = true := rfl
  have e7 : Nat.blt 2 2 = false := rfl
  simp only [nodM, keyOut, nod2, notIn, keysOr, keysS, tauOK, e1, e2, e3, e4, e5, e6, e7, k0, s0]
  rfl

theorem sFormatBoolI (b : Bool) : PureC Tryz.prog [] 204 [.bool b] (.str (if b = true then tTrue else tFalse)) := by
  cases b
  all_goals
    refine acalls_go nnΓ Tryz.func204 rfl ?_
    ((conv => whnf); repeat ((first | refine AWp.many ?_ | refine AOps.many ?_ | refine ADr.go ?_); conv => whnf))
    exact fin_pure nn ⟨rfl, rfl, rfl⟩
theorem sFormatBool (b : Bool) : PureC Tryz.prog [] 181 [.bool b] (.str (if b = true then tTrue else tFalse)) := by
  have h := sFormatBoolI b
  generalize (if b = true then tTrue else tFalse) = t at h ⊢
  refine acalls_go nnΓ Tryz.func181 rfl ?_
  ((conv => whnf); repeat ((first | refine AWp.many ?_ | refine AOps.many ?_ | refine ADr.go ?_); conv => whnf))
  refine h.go ?_
  ((conv => whnf); repeat ((first | refine AWp.many ?_ | refine AOps.many ?_ | refine ADr.go ?_); conv => whnf))
  exact fin_pure nn ⟨rfl, rfl, rfl⟩
end Go.Proofs.YtfnhkfdjhmgjbaaGreatDoor

namespace Go.Proofs.YtfnhkfdjhmgjbaaGreatDoor
open Go Go.Ax Go.Proofs
set_option linter.unusedVariables false
set_option maxRecDepth 100000
set_option maxHeartbeats 4000000

/-- A writer, in a coder. -/
abbrev wC (id n : Nat) : AB := .row 103 1 [.agg [.sl id 0 n]]
abbrev wM (s : List UInt8) : Mem := [(0, wC 1 s.length), (1, .row 5 1 (encB s))]
/-- What writing leaves behind. -/
def wN (s : List UInt8) (m : Mem) (n : Nat) : Prop := m = [(0, wC 2 s.length), (2, .row 5 1 (encB s))] ∧ n = 3
def WxQ (s : List UInt8) (r : AV) (m : Mem) (n : Nat) : Prop := r = .tup [] ∧ wN s m n
theorem wC_cv {mem : Mem} {σ : List (Nat × Nat)} {i j n n' : Nat} (h1 : lk σ i = some j) (h : n = n') : CvR mem σ [.agg [.sl i 0 n]] [.agg [.sl j 0 n']] :=
  .cons (.agg (.cons (.slE h1 h) .nil)) .nil

/-- What writes, used: the buffer gets a new name. -/
theorem wUse {Γ : List (Nat × AV)} {F : FuncId} {aa : List AV} {s s' : List UInt8} {rv : AV} {mem : Mem} {nx : Nat} {K : AV → Mem → Nat → Prop} (i : Nat) (hΓ : ∀ p ∈ Γ, NN p.2)
    (h : ACalls Tryz.prog Γ F (.ptr 0 0 0 :: aa) (wM s) 2 fun r m n => r = rv ∧ wN s' m n) (h0 : lk mem 0 = some (wC i s.length)) (h1 : lk mem i = some (.row 5 1 (encB s))) (hi : Nat.blt 0 i = true) (hin : Nat.blt i nx = true)
    (hk : K rv ((0, wC nx s'.length) :: (nx, .row 5 1 (encB s')) :: dropM [0, i] mem) (nx + 1)) (ha : NNs aa := by exact nns) (hr : NN rv := by exact nn) : ACalls Tryz.prog Γ F (.ptr 0 0 0 :: aa) mem nx K := by
  have hi := Nat.le_of_ble_eq_true hi
  have hin := Nat.le_of_ble_eq_true hin
  have e0 : Nat.beq 0 i = false := nbeq_ne (by omega)
  have k0 : inL 0 [0, i] = true := rfl
  have ki : inL i [0, i] = true := by simp [inL, e0]
  have s0 : lk [(0, 0), (i, 1)] 0 = some 0 := rfl
  have si : lk [(0, 0), (i, 1)] i = some 1 := by simp [lk, e0]
  refine ACalls.useN hΓ [(0, 0), (i, 1)] h rfl (.cons (.ptr 0 0 0 0 rfl) (.same ha)) ⟨⟨0, _, s0, by rw [← h0]; exact lk_pickM k0 mem, wC_cv si rfl⟩, ⟨i, _, si, by rw [← h1]; exact lk_pickM ki mem, .same (encB_nn _)⟩, trivial⟩ rfl ?_
  rintro r m n ⟨rfl, rfl, rfl⟩
  refine ⟨[(0, 0), (2, nx)], _, [(0, wC nx s'.length), (nx, .row 5 1 (encB s'))], nx + 1, .same _ hr, ⟨⟨0, _, rfl, rfl, wC_cv rfl rfl⟩, ⟨2, _, rfl, rfl, .same (encB_nn _)⟩, trivial⟩, ?_, hk⟩
  have e1 : Nat.beq nx 0 = false := nbeq_ne (by omega)
  have e2 : Nat.ble nx 0 = false := by
    cases e : Nat.ble nx 0 with
    | false => rfl
    | true => have := Nat.le_of_ble_eq_true e; omega
  have e3 : Nat.ble nx nx = true := Nat.ble_eq_true_of_le (Nat.le_refl _)
  have e4 : Nat.ble nx (nx + 1) = true := Nat.ble_eq_true_of_le (by omega)
  have e5 : Nat.blt nx (nx + 1) = true := Nat.ble_eq_true_of_le (by omega)
  have e6 : Nat.blt 0 2 = true := rfl
  have e7 : Nat.blt 2 2 = false := rfl
  simp only [nodM, keyOut, nod2, notIn, keysOr, keysS, tauOK, e1, e2, e3, e4, e5, e6, e7, k0, s0]
  rfl
/-- The end of what writes: the buffer has the name 'i'. -/
theorem wxFin {s : List UInt8} {xs : List AV} {mem : Mem} {nx i n : Nat} (h0 : lk mem 0 = some (wC i n)) (h1 : lk mem i = some (.row 5 1 xs)) (hi : 2 ≤ i) (hn : n = s.length) (hx : xs = encB s) : Fini 2 (WxQ s) (.tup []) mem nx := by
  have e0 : Nat.beq 0 i = false := nbeq_ne (by omega)
  have si : lk [(0, 0), (i, 2)] i = some 2 := by simp [lk, e0]
  exact fin_mk (r' := .tup []) (m' := [(0, wC 2 s.length), (2, .row 5 1 (encB s))]) (n' := 3) [(0, 0), (i, 2)] rfl
    ⟨⟨0, _, rfl, h0, wC_cv si hn⟩, ⟨i, _, si, h1, .eq (encB_nn _) hx⟩, trivial⟩ (.same _ nn) ⟨rfl, rfl, rfl⟩

theorem wUint (s : List UInt8) (u : Nat) (hu : u < 18446744073709551616) (hs : s.length ≤ 90000000) : ACalls Tryz.prog [] 146 [.ptr 0 0 0, .int .u64 u] (wM s) 2 (WxQ (s ++ uvar u)) := by
  have hul := uvar_len64 hu
  refine acalls_go nnΓ Tryz.func146 rfl ?_
  ((conv => whnf); repeat ((first | refine AWp.many ?_ | refine AOps.many ?_ | refine ADr.go ?_); conv => whnf))
  refine ALoop.at nnΓ (fun x : Nat × List UInt8 => x.2 ++ uvar x.1 = s ++ uvar u)
    (fun x => ⟨[(0, .ptr 0 0 0), (1, .int .u64 x.1)], [(0, wC 2 x.2.length), (2, .row 5 1 (encB x.2))], 3, 31⟩) (fun x => x.1) (u, s) [(0, 0), (1, 2)] rfl
    (conv_mk _ rfl ⟨⟨0, _, rfl, rfl, wC_cv rfl rfl⟩, ⟨1, _, rfl, rfl, .same (encB_nn _)⟩, trivial⟩ ⟨⟨_, rfl, .ptr 0 0 0 0 rfl⟩, ⟨_, rfl, .same _ nn⟩, trivial⟩) ?_
  rintro ⟨n, acc⟩ hx
  simp only at hx
  have hal : acc.length ≤ s.length + 10 := by have := congrArg List.length hx; simp at this; omega
  ((conv => whnf); repeat ((first | refine AWp.many ?_ | refine AOps.many ?_ | refine ADr.go ?_); conv => whnf))
  refine bcs_mk (fun h => ?_) (fun h => ?_)
  · have hn : ¬ n < 128 := by simp at h; omega
    ((conv => whnf); repeat ((first | refine AWp.many ?_ | refine AOps.many ?_ | refine ADr.go ?_); conv => whnf))
    refine grd_mk (app_ok rfl rfl (encB_length _).symm (by simp; omega)) ?_
    ((conv => whnf); repeat ((first | refine AWp.many ?_ | refine AOps.many ?_ | refine ADr.go ?_); conv => whnf))
    rw [more_bits, shr7]
    refine .mk (n / 128, acc ++ [UInt8.ofNat (128 + n % 128)]) [(0, 0), (4, 2)] ?_ (conv_mk _ rfl ⟨⟨0, _, rfl, rfl, wC_cv rfl (by simp)⟩, ⟨4, _, rfl, rfl, .eq (encB_nn _) (by rw [encB_append]; rfl)⟩, trivial⟩ ⟨⟨_, rfl, .ptr 0 0 0 0 rfl⟩, ⟨_, rfl, .same _ nn⟩, trivial⟩) (by simp only; omega)
    rw [uvar_big hn] at hx
    simpa using hx
  · have hn : n < 128 := by simp at h; omega
    ((conv => whnf); repeat ((first | refine AWp.many ?_ | refine AOps.many ?_ | refine ADr.go ?_); conv => whnf))
    refine grd_mk (app_ok rfl rfl (encB_length _).symm (by simp; omega)) ?_
    ((conv => whnf); repeat ((first | refine AWp.many ?_ | refine AOps.many ?_ | refine ADr.go ?_); conv => whnf))
    rw [last_bits hn]
    rw [uvar_small hn] at hx
    exact wxFin (i := 4) rfl rfl (by omega) (by rw [← hx]; simp) (by rw [← hx, encB_append]; rfl)

theorem wInt (s : List UInt8) (n : Int) (hn : i64 n) (hs : s.length ≤ 90000000) : ACalls Tryz.prog [] 109 [.ptr 0 0 0, .int .i64 n] (wM s) 2 (WxQ (s ++ encInt n)) := by
  have hU := wUint s (zig n) (zig_lt hn) hs
  refine acalls_go nnΓ Tryz.func109 rfl ?_
  have hz := zig_bits hn
  unfold encInt
  generalize zig n = z at hU hz ⊢
  ((conv => whnf); repeat ((first | refine AWp.many ?_ | refine AOps.many ?_ | refine ADr.go ?_); conv => whnf))
  rw [hz]
  refine wUse 1 nnΓ hU rfl rfl rfl rfl ?_
  ((conv => whnf); repeat ((first | refine AWp.many ?_ | refine AOps.many ?_ | refine ADr.go ?_); conv => whnf))
  exact wxFin (i := 2) rfl rfl (by omega) rfl rfl

theorem wBool (s : List UInt8) (b : Bool) (hs : s.length ≤ 90000000) : ACalls Tryz.prog [] 185 [.ptr 0 0 0, .bool b] (wM s) 2 (WxQ (s ++ [if b = true then 1 else 0])) := by
  refine acalls_go nnΓ Tryz.func185 rfl ?_
  cases b with
  | true =>
    ((conv => whnf); repeat ((first | refine AWp.many ?_ | refine AOps.many ?_ | refine ADr.go ?_); conv => whnf))
    refine grd_mk (app_ok rfl rfl (encB_length _).symm (by simp; omega)) ?_
    ((conv => whnf); repeat ((first | refine AWp.many ?_ | refine AOps.many ?_ | refine ADr.go ?_); conv => whnf))
    exact wxFin (i := 3) rfl rfl (by omega) (by simp) (by rw [encB_append]; rfl)
  | false =>
    ((conv => whnf); repeat ((first | refine AWp.many ?_ | refine AOps.many ?_ | refine ADr.go ?_); conv => whnf))
    refine grd_mk (app_ok rfl rfl (encB_length _).symm (by simp; omega)) ?_
    ((conv => whnf); repeat ((first | refine AWp.many ?_ | refine AOps.many ?_ | refine ADr.go ?_); conv => whnf))
    exact wxFin (i := 3) rfl rfl (by omega) (by simp) (by rw [encB_append]; rfl)

theorem wText (s w : List UInt8) (hs : s.length + w.length ≤ 90000000) : ACalls Tryz.prog [] 186 [.ptr 0 0 0, .str w] (wM s) 2 (WxQ (s ++ (uvar w.length ++ w))) := by
  have hU := wUint s w.length (by omega) (by omega)
  have hul := uvar_len64 (n := w.length) (by omega)
  have hw : IntKind.u64.wrap (w.length : Int) = (w.length : Int) := wrap_u64 (by omega) (by omega)
  generalize uvar w.length = x at hU hul ⊢
  refine acalls_go nnΓ Tryz.func186 rfl ?_
  ((conv => whnf); repeat ((first | refine AWp.many ?_ | refine AOps.many ?_ | refine ADr.go ?_); conv => whnf))
  rw [hw]
  refine wUse 1 nnΓ hU rfl rfl rfl rfl ?_
  ((conv => whnf); repeat ((first | refine AWp.many ?_ | refine AOps.many ?_ | refine ADr.go ?_); conv => whnf))
  have e : List.map (fun b : UInt8 => AV.int IntKind.u8 (b.toNat : Int)) w = encB w := rfl
  rw [e]
  refine grd_mk (app_ok rfl rfl (encB_length _).symm (by rw [encB_length]; simp; omega)) ?_
  ((conv => whnf); repeat ((first | refine AWp.many ?_ | refine AOps.many ?_ | refine ADr.go ?_); conv => whnf))
  exact wxFin (i := 3) rfl rfl (by omega) (by rw [encB_length]; simp; omega) (by rw [← encB_append, List.append_assoc])
end Go.Proofs.YtfnhkfdjhmgjbaaGreatDoor

namespace Go.Proofs.YtfnhkfdjhmgjbaaGreatDoor
open Go Go.Ax Go.Proofs
set_option linter.unusedVariables false
set_option maxRecDepth 100000
set_option maxHeartbeats 4000000

/-- 'refuterref10.Size'. -/
theorem rSize : ∀ v : Val, sizeV v ≤ 1099511627776 → PureC Tryz.prog [] 58 [encV v] (.int .i64 (sizeV v))
  | .mk vk vn vs ks, hs => by
    have hs' : sizeL ks + 1 ≤ 1099511627776 := by simp only [sizeV] at hs; omega
    have ih : ∀ a ∈ ks, PureC Tryz.prog [] 58 [encV a] (.int .i64 (sizeV a)) := fun a hm => rSize a (by have := sizeV_mem hm; omega)
    have hl := sizeL_len ks
    refine acalls_go nnΓ Tryz.func58 rfl ?_
    ((conv => whnf); repeat ((first | refine AWp.many ?_ | refine AOps.many ?_ | refine ADr.go ?_); conv => whnf))
    refine ALoop.at nnΓ (fun k : Nat => k ≤ ks.length)
      (fun k => ⟨[(1, .ptr 0 0 0), (3, .int .i64 (1 + sizeL (ks.take k) : Nat)), (4, .int .i64 k)], [(0, .row 33 4 [encV (.mk vk vn vs ks)])], 1, 21⟩)
      (fun k => ks.length - k) 0 [(0, 0)] (by simp)
      (conv_mk _ rfl ⟨⟨0, _, rfl, rfl, .same nns⟩, trivial⟩ ⟨⟨_, rfl, .ptr 0 0 0 0 rfl⟩, ⟨_, rfl, .same _ nn⟩, ⟨_, rfl, .same _ nn⟩, trivial⟩) ?_
    intro k hk
    ((conv => whnf); repeat ((first | refine AWp.many ?_ | refine AOps.many ?_ | refine ADr.go ?_); conv => whnf))
    refine bcs_mk (fun h => ?_) (fun h => ?_)
    · have hlt := klt h
      obtain ⟨a, b, c, d, hm, hg, he, e1⟩ := enc_cases hlt
      have hsz := sizeL_take hlt
      have hle := sizeL_take_le ks (k + 1)
      rw [he] at hsz
      ((conv => whnf); repeat ((first | refine AWp.many ?_ | refine AOps.many ?_ | refine ADr.go ?_); conv => whnf))
      refine opt_mk e1 ?_
      ((conv => whnf); repeat ((first | refine AWp.many ?_ | refine AOps.many ?_ | refine ADr.go ?_); conv => whnf))
      refine (ih _ hm).go ?_
      ((conv => whnf); repeat ((first | refine AWp.many ?_ | refine AOps.many ?_ | refine ADr.go ?_); conv => whnf))
      exact .mk (k + 1) [(0, 0)] (by omega) (conv_mk _ rfl ⟨⟨0, _, rfl, rfl, .same nns⟩, trivial⟩ ⟨⟨_, rfl, .ptr 0 0 0 0 rfl⟩, ⟨_, rfl, .w64 (by omega) ⟨by omega, by omega⟩⟩, ⟨_, rfl, .w64 (by omega) ⟨by omega, by omega⟩⟩, trivial⟩) (by omega)
    · have hk' : k = ks.length := by have := kge h; omega
      ((conv => whnf); repeat ((first | refine AWp.many ?_ | refine AOps.many ?_ | refine ADr.go ?_); conv => whnf))
      refine fin_pure nn ⟨?_, rfl, rfl⟩
      rw [hk', List.take_length, sizeV]
  termination_by v => SizeOf.sizeOf v
  decreasing_by simp; have := List.sizeOf_lt_of_mem hm; omega

theorem vInName (c : Int) : PureC Tryz.prog [] 145 [.int .u8 c] (.bool (inNm c)) := by
  refine acalls_go nnΓ Tryz.func145 rfl ?_
  ((conv => whnf); repeat ((first | refine AWp.many ?_ | refine AOps.many ?_ | refine ADr.go ?_); conv => whnf))
  repeat' (refine bcs_mk (fun h => ?_) (fun h => ?_) <;> ((try rw [h]); ((conv => whnf); repeat ((first | refine AWp.many ?_ | refine AOps.many ?_ | refine ADr.go ?_); conv => whnf))))
  all_goals
    refine fin_pure nn ⟨?_, rfl, rfl⟩
    congr 1
    rw [Bool.eq_iff_iff]
    simp [inNm] at *
    try omega

/-- 'refuterref10.Capital'. -/
theorem rCapital (s : List UInt8) (hs : s.length ≤ 4294967296) : PureC Tryz.prog [] 101 [.str s] (.bool (capital s)) := by
  refine acalls_go nnΓ Tryz.func101 rfl ?_
  ((conv => whnf); repeat ((first | refine AWp.many ?_ | refine AOps.many ?_ | refine ADr.go ?_); conv => whnf))
  refine bcs_mk (fun h => ?_) (fun h => ?_)
  · rw [h]
    ((conv => whnf); repeat ((first | refine AWp.many ?_ | refine AOps.many ?_ | refine ADr.go ?_); conv => whnf))
    refine fin_pure nn ⟨?_, rfl, rfl⟩
    rw [capital_nil (by simp at h; omega)]
  have h1 : 1 ≤ s.length := by simp at h; omega
  rw [h]
  ((conv => whnf); repeat ((first | refine AWp.many ?_ | refine AOps.many ?_ | refine ADr.go ?_); conv => whnf))
  refine bcs_mk (fun h => ?_) (fun h => ?_)
  · rw [h]
    ((conv => whnf); repeat ((first | refine AWp.many ?_ | refine AOps.many ?_ | refine ADr.go ?_); conv => whnf))
    refine fin_pure nn ⟨?_, rfl, rfl⟩
    rw [capital_long (by simp at h; omega)]
  have h2 : s.length ≤ 16 := by simp at h; omega
  rw [h]
  obtain ⟨a, ha⟩ : ∃ a, s[0]? = some a := ⟨s[0], by simp⟩
  ((conv => whnf); repeat ((first | refine AWp.many ?_ | refine AOps.many ?_ | refine ADr.go ?_); conv => whnf))
  refine opt_mk ha ?_
  ((conv => whnf); repeat ((first | refine AWp.many ?_ | refine AOps.many ?_ | refine ADr.go ?_); conv => whnf))
  refine bcs_mk (fun h => ?_) (fun h => ?_)
  · rw [h]
    ((conv => whnf); repeat ((first | refine AWp.many ?_ | refine AOps.many ?_ | refine ADr.go ?_); conv => whnf))
    refine fin_pure nn ⟨?_, rfl, rfl⟩
    rw [capital_up ha (by simp [upper] at *; omega)]
  have h3 : 65 ≤ (a.toNat : Int) := by simpa using h
  rw [h]
  ((conv => whnf); repeat ((first | refine AWp.many ?_ | refine AOps.many ?_ | refine ADr.go ?_); conv => whnf))
  refine opt_mk ha ?_
  ((conv => whnf); repeat ((first | refine AWp.many ?_ | refine AOps.many ?_ | refine ADr.go ?_); conv => whnf))
  refine bcs_mk (fun h => ?_) (fun h => ?_)
  · ((conv => whnf); repeat ((first | refine AWp.many ?_ | refine AOps.many ?_ | refine ADr.go ?_); conv => whnf))
    refine fin_pure nn ⟨?_, rfl, rfl⟩
    rw [capital_up ha (by simp [upper] at *; omega)]
  have h4 : (a.toNat : Int) ≤ 90 := by simpa using h
  ((conv => whnf); repeat ((first | refine AWp.many ?_ | refine AOps.many ?_ | refine ADr.go ?_); conv => whnf))
  refine ALoop.at nnΓ (fun i : Nat => i ≤ s.length ∧ ∀ j c, j < i → s[j]? = some c → inNm c.toNat = true)
    (fun i => ⟨[(0, .str s), (3, .int .i64 i)], [], 0, 64⟩) (fun i => s.length - i) 0 [] ⟨by simp, by simp⟩
    (conv_pure ⟨⟨_, rfl, .same _ nn⟩, ⟨_, rfl, .same _ nn⟩, trivial⟩) ?_
  rintro i ⟨hi, hall⟩
  ((conv => whnf); repeat ((first | refine AWp.many ?_ | refine AOps.many ?_ | refine ADr.go ?_); conv => whnf))
  refine bcs_mk (fun h => ?_) (fun h => ?_)
  · have hlt : i < s.length := by simpa using h
    obtain ⟨c, hc⟩ : ∃ c, s[i]? = some c := ⟨s[i], by simp [hlt]⟩
    have hc' : s[(i : Int).toNat]? = some c := by rw [Int.toNat_natCast]; exact hc
    ((conv => whnf); repeat ((first | refine AWp.many ?_ | refine AOps.many ?_ | refine ADr.go ?_); conv => whnf))
    refine opt_mk hc' ?_
    ((conv => whnf); repeat ((first | refine AWp.many ?_ | refine AOps.many ?_ | refine ADr.go ?_); conv => whnf))
    repeat' (refine bcs_mk (fun h => ?_) (fun h => ?_) <;> ((try rw [h]); ((conv => whnf); repeat ((first | refine AWp.many ?_ | refine AOps.many ?_ | refine ADr.go ?_); conv => whnf))))
    all_goals first
      | (refine fin_pure nn ⟨?_, rfl, rfl⟩
         rw [capital_in hc (by rw [Bool.eq_false_iff]; simp [inNm] at *; omega)])
      | (refine .mk (i + 1) [] ⟨by omega, fun j c2 hj hc2 => ?_⟩ (conv_pure ⟨⟨_, rfl, .same _ nn⟩, ⟨_, rfl, .w64 (by omega) ⟨by omega, by omega⟩⟩, trivial⟩) (by omega)
         rcases Nat.lt_or_ge j i with hj' | hj'
         · exact hall j c2 hj' hc2
         · have hji : j = i := by omega
           rw [hji, hc] at hc2
           cases hc2
           simp [inNm] at *
           omega)
  · ((conv => whnf); repeat ((first | refine AWp.many ?_ | refine AOps.many ?_ | refine ADr.go ?_); conv => whnf))
    refine fin_pure nn ⟨?_, rfl, rfl⟩
    have hk : i = s.length := by simp at h; omega
    rw [capital_of ha h2 (by simp [upper]; omega) fun j c hc => hall j c (by rw [hk]; exact (List.getElem?_eq_some_iff.1 hc).1) hc]

/-- 'values.capital'. -/
theorem vCapital (s : List UInt8) (hs : s.length ≤ 4294967296) : PureC Tryz.prog [] 105 [.str s] (.bool (capital s)) := by
  refine acalls_go nnΓ Tryz.func105 rfl ?_
  ((conv => whnf); repeat ((first | refine AWp.many ?_ | refine AOps.many ?_ | refine ADr.go ?_); conv => whnf))
  refine bcs_mk (fun h => ?_) (fun h => ?_)
  · rw [h]
    ((conv => whnf); repeat ((first | refine AWp.many ?_ | refine AOps.many ?_ | refine ADr.go ?_); conv => whnf))
    refine fin_pure nn ⟨?_, rfl, rfl⟩
    rw [capital_nil (by simp at h; rw [h]; simp)]
  have h1 : 1 ≤ s.length := by
    rcases Nat.eq_zero_or_pos s.length with h' | h'
    · rw [List.eq_nil_of_length_eq_zero h'] at h; simp at h
    · exact h'
  rw [h]
  ((conv => whnf); repeat ((first | refine AWp.many ?_ | refine AOps.many ?_ | refine ADr.go ?_); conv => whnf))
  refine bcs_mk (fun h => ?_) (fun h => ?_)
  · rw [h]
    ((conv => whnf); repeat ((first | refine AWp.many ?_ | refine AOps.many ?_ | refine ADr.go ?_); conv => whnf))
    refine fin_pure nn ⟨?_, rfl, rfl⟩
    rw [capital_long (by simp at h; omega)]
  have h2 : s.length ≤ 16 := by simp at h; omega
  rw [h]
  obtain ⟨a, ha⟩ : ∃ a, s[0]? = some a := ⟨s[0], by simp⟩
  ((conv => whnf); repeat ((first | refine AWp.many ?_ | refine AOps.many ?_ | refine ADr.go ?_); conv => whnf))
  refine opt_mk ha ?_
  ((conv => whnf); repeat ((first | refine AWp.many ?_ | refine AOps.many ?_ | refine ADr.go ?_); conv => whnf))
  refine bcs_mk (fun h => ?_) (fun h => ?_)
  · rw [h]
    ((conv => whnf); repeat ((first | refine AWp.many ?_ | refine AOps.many ?_ | refine ADr.go ?_); conv => whnf))
    refine fin_pure nn ⟨?_, rfl, rfl⟩
    rw [capital_up ha (by simp [upper] at *; omega)]
  have h3 : 65 ≤ (a.toNat : Int) := by simpa using h
  rw [h]
  ((conv => whnf); repeat ((first | refine AWp.many ?_ | refine AOps.many ?_ | refine ADr.go ?_); conv => whnf))
  refine opt_mk ha ?_
  ((conv => whnf); repeat ((first | refine AWp.many ?_ | refine AOps.many ?_ | refine ADr.go ?_); conv => whnf))
  refine bcs_mk (fun h => ?_) (fun h => ?_)
  · ((conv => whnf); repeat ((first | refine AWp.many ?_ | refine AOps.many ?_ | refine ADr.go ?_); conv => whnf))
    refine fin_pure nn ⟨?_, rfl, rfl⟩
    rw [capital_up ha (by simp [upper] at *; omega)]
  have h4 : (a.toNat : Int) ≤ 90 := by simpa using h
  have hua : upper a.toNat = true := by simp [upper]; omega
  ((conv => whnf); repeat ((first | refine AWp.many ?_ | refine AOps.many ?_ | refine ADr.go ?_); conv => whnf))
  refine ALoop.at nnΓ (fun i : Nat => 1 ≤ i ∧ i ≤ s.length ∧ ∀ j c, j < i → s[j]? = some c → inNm c.toNat = true)
    (fun i => ⟨[(0, .str s), (3, .int .i64 i)], [], 0, 32⟩) (fun i => s.length - i) 1 [] ⟨by simp, h1, fun j c hj hc => by rw [show j = 0 by omega, ha] at hc; cases hc; exact upper_in hua⟩
    (conv_pure ⟨⟨_, rfl, .same _ nn⟩, ⟨_, rfl, .same _ nn⟩, trivial⟩) ?_
  rintro i ⟨h0, hi, hall⟩
  ((conv => whnf); repeat ((first | refine AWp.many ?_ | refine AOps.many ?_ | refine ADr.go ?_); conv => whnf))
  refine bcs_mk (fun h => ?_) (fun h => ?_)
  · have hlt : i < s.length := by simpa using h
    obtain ⟨c, hc⟩ : ∃ c, s[i]? = some c := ⟨s[i], by simp [hlt]⟩
    have hc' : s[(i : Int).toNat]? = some c := by rw [Int.toNat_natCast]; exact hc
    ((conv => whnf); repeat ((first | refine AWp.many ?_ | refine AOps.many ?_ | refine ADr.go ?_); conv => whnf))
    refine opt_mk hc' ?_
    ((conv => whnf); repeat ((first | refine AWp.many ?_ | refine AOps.many ?_ | refine ADr.go ?_); conv => whnf))
    refine (vInName c.toNat).go ?_
    ((conv => whnf); repeat ((first | refine AWp.many ?_ | refine AOps.many ?_ | refine ADr.go ?_); conv => whnf))
    cases hb : inNm c.toNat with
    | false =>
      ((conv => whnf); repeat ((first | refine AWp.many ?_ | refine AOps.many ?_ | refine ADr.go ?_); conv => whnf))
      refine fin_pure nn ⟨?_, rfl, rfl⟩
      rw [capital_in hc hb]
    | true =>
      ((conv => whnf); repeat ((first | refine AWp.many ?_ | refine AOps.many ?_ | refine ADr.go ?_); conv => whnf))
      refine .mk (i + 1) [] ⟨by omega, by omega, fun j c2 hj hc2 => ?_⟩ (conv_pure ⟨⟨_, rfl, .same _ nn⟩, ⟨_, rfl, .w64 (by omega) ⟨by omega, by omega⟩⟩, trivial⟩) (by omega)
      rcases Nat.lt_or_ge j i with hj' | hj'
      · exact hall j c2 hj' hc2
      · have hji : j = i := by omega
        rw [hji, hc] at hc2
        cases hc2
        exact hb
  · ((conv => whnf); repeat ((first | refine AWp.many ?_ | refine AOps.many ?_ | refine ADr.go ?_); conv => whnf))
    refine fin_pure nn ⟨?_, rfl, rfl⟩
    have hk : i = s.length := by simp at h; omega
    rw [capital_of ha h2 hua fun j c hc => hall j c (by rw [hk]; exact (List.getElem?_eq_some_iff.1 hc).1) hc]
end Go.Proofs.YtfnhkfdjhmgjbaaGreatDoor

namespace Go.Proofs.YtfnhkfdjhmgjbaaGreatDoor
open Go Go.Ax Go.Proofs
set_option linter.unusedVariables false
set_option maxRecDepth 100000
set_option maxHeartbeats 4000000

/-- 'values.formed'. -/
theorem vFormed (vk vn : Int) (vs : List UInt8) (ks : List Val) (hs : vs.length ≤ 4294967296) : PureC Tryz.prog [] 98 [encV (.mk vk vn vs ks)] (.bool (formed1 vk vn vs ks.length)) := by
  refine acalls_go nnΓ Tryz.func98 rfl ?_
  ((conv => whnf); repeat ((first | refine AWp.many ?_ | refine AOps.many ?_ | refine ADr.go ?_); conv => whnf))
  repeat' (first | (refine bcs_mk (fun h => ?_) (fun h => ?_) <;> ((try rw [h]); ((conv => whnf); repeat ((first | refine AWp.many ?_ | refine AOps.many ?_ | refine ADr.go ?_); conv => whnf)))) | (refine (vCapital vs hs).go ?_; ((conv => whnf); repeat ((first | refine AWp.many ?_ | refine AOps.many ?_ | refine ADr.go ?_); conv => whnf))))
  all_goals
    refine fin_pure nn ⟨?_, rfl, rfl⟩
    congr 1
    rw [Bool.eq_iff_iff]
    simp_all [formed1, encVs_length, List.length_eq_zero_iff, List.isEmpty_iff]

/-- 'values.fits'. -/
theorem vFits (vk vn : Int) (vs : List UInt8) (ks : List Val) : PureC Tryz.prog [] 99 [encV (.mk vk vn vs ks)] (.bool (fits1 vk ks.length)) := by
  refine acalls_go nnΓ Tryz.func99 rfl ?_
  ((conv => whnf); repeat ((first | refine AWp.many ?_ | refine AOps.many ?_ | refine ADr.go ?_); conv => whnf))
  repeat' (refine bcs_mk (fun h => ?_) (fun h => ?_) <;> ((try rw [h]); ((conv => whnf); repeat ((first | refine AWp.many ?_ | refine AOps.many ?_ | refine ADr.go ?_); conv => whnf))))
  all_goals
    refine fin_pure nn ⟨?_, rfl, rfl⟩
    congr 1
    rw [Bool.eq_iff_iff]
    simp [fits1, encVs_length] at *
    try omega

/-- 'refuterref10.formed'. -/
theorem rFormed : ∀ v : Val, okV v → PureC Tryz.prog [] 56 [encV v] (.bool (formedV v))
  | .mk vk vn vs ks, hv => by
    simp only [okV] at hv
    obtain ⟨hv1, hv2, hv3, hv4, hv5⟩ := hv
    have ih : ∀ a ∈ ks, PureC Tryz.prog [] 56 [encV a] (.bool (formedV a)) := fun a hm => rFormed a (okVs_mem hv5 a hm)
    clear hv5
    refine acalls_go nnΓ Tryz.func56 rfl ?_
    ((conv => whnf); repeat ((first | refine AWp.many ?_ | refine AOps.many ?_ | refine ADr.go ?_); conv => whnf))
    refine (rCapital vs hv3).go ?_
    obtain ⟨cb, hcb⟩ : ∃ cb, cb = capital vs := ⟨_, rfl⟩
    rw [← hcb]
    rcases (show vk = 0 ∨ vk = 1 ∨ vk = 2 ∨ vk = 3 ∨ (vk < 0 ∨ 3 < vk) by omega) with rfl | rfl | rfl | rfl | hk
    · ((conv => whnf); repeat ((first | refine AWp.many ?_ | refine AOps.many ?_ | refine ADr.go ?_); conv => whnf))
      repeat' (refine bcs_mk (fun h => ?_) (fun h => ?_) <;> ((try rw [h]); ((conv => whnf); repeat ((first | refine AWp.many ?_ | refine AOps.many ?_ | refine ADr.go ?_); conv => whnf))))
      all_goals first
        | (refine fin_pure nn ⟨?_, rfl, rfl⟩
           clear ih
           have hf1 : formed1 0 vn vs ks.length = false := by
             rw [Bool.eq_false_iff]
             simp_all [formed1, encVs_length, List.length_pos_iff]
             try omega
           rw [formedV, hf1]
           rfl)
        | (have hf1 : formed1 0 vn vs ks.length = true := by
             clear ih
             simp_all [formed1, encVs_length, List.length_pos_iff]
             try omega
           refine ALoop.at nnΓ (fun k : Nat => k ≤ ks.length ∧ formedL (ks.take k) = true)
             (fun k => ⟨[(1, .ptr 0 0 0), (4, .int .i64 k)], [(0, .row 33 4 [encV (.mk 0 vn vs ks)])], 1, 95⟩) (fun k => ks.length - k) 0 [(0, 0)] ⟨by simp, rfl⟩
             (conv_mk _ rfl ⟨⟨0, _, rfl, rfl, .same nns⟩, trivial⟩ ⟨⟨_, rfl, .ptr 0 0 0 0 rfl⟩, ⟨_, rfl, .same _ nn⟩, trivial⟩) ?_
           rintro k ⟨hk, hall⟩
           ((conv => whnf); repeat ((first | refine AWp.many ?_ | refine AOps.many ?_ | refine ADr.go ?_); conv => whnf))
           refine bcs_mk (fun h => ?_) (fun h => ?_)
           · have hlt := klt h
             obtain ⟨a, b, c, d, hm, hg, he, e1⟩ := enc_cases hlt
             have hih := ih _ hm
             obtain ⟨fb, hfb⟩ : ∃ fb, fb = formedV (.mk a b c d) := ⟨_, rfl⟩
             rw [← hfb] at hih
             ((conv => whnf); repeat ((first | refine AWp.many ?_ | refine AOps.many ?_ | refine ADr.go ?_); conv => whnf))
             refine opt_mk e1 ?_
             ((conv => whnf); repeat ((first | refine AWp.many ?_ | refine AOps.many ?_ | refine ADr.go ?_); conv => whnf))
             refine hih.go ?_
             cases fb with
             | false =>
               ((conv => whnf); repeat ((first | refine AWp.many ?_ | refine AOps.many ?_ | refine ADr.go ?_); conv => whnf))
               refine fin_pure nn ⟨?_, rfl, rfl⟩
               rw [formedV, formedL_mem hm hfb.symm, Bool.and_false]
             | true =>
               ((conv => whnf); repeat ((first | refine AWp.many ?_ | refine AOps.many ?_ | refine ADr.go ?_); conv => whnf))
               refine .mk (k + 1) [(0, 0)] ⟨by omega, ?_⟩ (conv_mk _ rfl ⟨⟨0, _, rfl, rfl, .same nns⟩, trivial⟩ ⟨⟨_, rfl, .ptr 0 0 0 0 rfl⟩, ⟨_, rfl, .w64 (by omega) ⟨by omega, by omega⟩⟩, trivial⟩) (by omega)
               rw [formedL_take hlt, hall, he, ← hfb]
               rfl
           · have hk' : k = ks.length := by have := kge h; omega
             ((conv => whnf); repeat ((first | refine AWp.many ?_ | refine AOps.many ?_ | refine ADr.go ?_); conv => whnf))
             refine fin_pure nn ⟨?_, rfl, rfl⟩
             rw [hk', List.take_length] at hall
             rw [formedV, hf1, hall]
             rfl)
    · ((conv => whnf); repeat ((first | refine AWp.many ?_ | refine AOps.many ?_ | refine ADr.go ?_); conv => whnf))
      repeat' (refine bcs_mk (fun h => ?_) (fun h => ?_) <;> ((try rw [h]); ((conv => whnf); repeat ((first | refine AWp.many ?_ | refine AOps.many ?_ | refine ADr.go ?_); conv => whnf))))
      all_goals first
        | (refine fin_pure nn ⟨?_, rfl, rfl⟩
           clear ih
           have hf1 : formed1 1 vn vs ks.length = false := by
             rw [Bool.eq_false_iff]
             simp_all [formed1, encVs_length, List.length_pos_iff]
             try omega
           rw [formedV, hf1]
           rfl)
        | (have hf1 : formed1 1 vn vs ks.length = true := by
             clear ih
             simp_all [formed1, encVs_length, List.length_pos_iff]
             try omega
           refine ALoop.at nnΓ (fun k : Nat => k ≤ ks.length ∧ formedL (ks.take k) = true)
             (fun k => ⟨[(1, .ptr 0 0 0), (4, .int .i64 k)], [(0, .row 33 4 [encV (.mk 1 vn vs ks)])], 1, 95⟩) (fun k => ks.length - k) 0 [(0, 0)] ⟨by simp, rfl⟩
             (conv_mk _ rfl ⟨⟨0, _, rfl, rfl, .same nns⟩, trivial⟩ ⟨⟨_, rfl, .ptr 0 0 0 0 rfl⟩, ⟨_, rfl, .same _ nn⟩, trivial⟩) ?_
           rintro k ⟨hk, hall⟩
           ((conv => whnf); repeat ((first | refine AWp.many ?_ | refine AOps.many ?_ | refine ADr.go ?_); conv => whnf))
           refine bcs_mk (fun h => ?_) (fun h => ?_)
           · have hlt := klt h
             obtain ⟨a, b, c, d, hm, hg, he, e1⟩ := enc_cases hlt
             have hih := ih _ hm
             obtain ⟨fb, hfb⟩ : ∃ fb, fb = formedV (.mk a b c d) := ⟨_, rfl⟩
             rw [← hfb] at hih
             ((conv => whnf); repeat ((first | refine AWp.many ?_ | refine AOps.many ?_ | refine ADr.go ?_); conv => whnf))
             refine opt_mk e1 ?_
             ((conv => whnf); repeat ((first | refine AWp.many ?_ | refine AOps.many ?_ | refine ADr.go ?_); conv => whnf))
             refine hih.go ?_
             cases fb with
             | false =>
               ((conv => whnf); repeat ((first | refine AWp.many ?_ | refine AOps.many ?_ | refine ADr.go ?_); conv => whnf))
               refine fin_pure nn ⟨?_, rfl, rfl⟩
               rw [formedV, formedL_mem hm hfb.symm, Bool.and_false]
             | true =>
               ((conv => whnf); repeat ((first | refine AWp.many ?_ | refine AOps.many ?_ | refine ADr.go ?_); conv => whnf))
               refine .mk (k + 1) [(0, 0)] ⟨by omega, ?_⟩ (conv_mk _ rfl ⟨⟨0, _, rfl, rfl, .same nns⟩, trivial⟩ ⟨⟨_, rfl, .ptr 0 0 0 0 rfl⟩, ⟨_, rfl, .w64 (by omega) ⟨by omega, by omega⟩⟩, trivial⟩) (by omega)
               rw [formedL_take hlt, hall, he, ← hfb]
               rfl
           · have hk' : k = ks.length := by have := kge h; omega
             ((conv => whnf); repeat ((first | refine AWp.many ?_ | refine AOps.many ?_ | refine ADr.go ?_); conv => whnf))
             refine fin_pure nn ⟨?_, rfl, rfl⟩
             rw [hk', List.take_length] at hall
             rw [formedV, hf1, hall]
             rfl)
    · ((conv => whnf); repeat ((first | refine AWp.many ?_ | refine AOps.many ?_ | refine ADr.go ?_); conv => whnf))
      repeat' (refine bcs_mk (fun h => ?_) (fun h => ?_) <;> ((try rw [h]); ((conv => whnf); repeat ((first | refine AWp.many ?_ | refine AOps.many ?_ | refine ADr.go ?_); conv => whnf))))
      all_goals first
        | (refine fin_pure nn ⟨?_, rfl, rfl⟩
           clear ih
           have hf1 : formed1 2 vn vs ks.length = false := by
             rw [Bool.eq_false_iff]
             simp_all [formed1]
             try omega
           rw [formedV, hf1]
           rfl)
        | (have hf1 : formed1 2 vn vs ks.length = true := by
             clear ih
             simp_all [formed1]
             try omega
           refine ALoop.at nnΓ (fun k : Nat => k ≤ ks.length ∧ formedL (ks.take k) = true)
             (fun k => ⟨[(1, .ptr 0 0 0), (4, .int .i64 k)], [(0, .row 33 4 [encV (.mk 2 vn vs ks)])], 1, 95⟩) (fun k => ks.length - k) 0 [(0, 0)] ⟨by simp, rfl⟩
             (conv_mk _ rfl ⟨⟨0, _, rfl, rfl, .same nns⟩, trivial⟩ ⟨⟨_, rfl, .ptr 0 0 0 0 rfl⟩, ⟨_, rfl, .same _ nn⟩, trivial⟩) ?_
           rintro k ⟨hk, hall⟩
           ((conv => whnf); repeat ((first | refine AWp.many ?_ | refine AOps.many ?_ | refine ADr.go ?_); conv => whnf))
           refine bcs_mk (fun h => ?_) (fun h => ?_)
           · have hlt := klt h
             obtain ⟨a, b, c, d, hm, hg, he, e1⟩ := enc_cases hlt
             have hih := ih _ hm
             obtain ⟨fb, hfb⟩ : ∃ fb, fb = formedV (.mk a b c d) := ⟨_, rfl⟩
             rw [← hfb] at hih
             ((conv => whnf); repeat ((first | refine AWp.many ?_ | refine AOps.many ?_ | refine ADr.go ?_); conv => whnf))
             refine opt_mk e1 ?_
             ((conv => whnf); repeat ((first | refine AWp.many ?_ | refine AOps.many ?_ | refine ADr.go ?_); conv => whnf))
             refine hih.go ?_
             cases fb with
             | false =>
               ((conv => whnf); repeat ((first | refine AWp.many ?_ | refine AOps.many ?_ | refine ADr.go ?_); conv => whnf))
               refine fin_pure nn ⟨?_, rfl, rfl⟩
               rw [formedV, formedL_mem hm hfb.symm, Bool.and_false]
             | true =>
               ((conv => whnf); repeat ((first | refine AWp.many ?_ | refine AOps.many ?_ | refine ADr.go ?_); conv => whnf))
               refine .mk (k + 1) [(0, 0)] ⟨by omega, ?_⟩ (conv_mk _ rfl ⟨⟨0, _, rfl, rfl, .same nns⟩, trivial⟩ ⟨⟨_, rfl, .ptr 0 0 0 0 rfl⟩, ⟨_, rfl, .w64 (by omega) ⟨by omega, by omega⟩⟩, trivial⟩) (by omega)
               rw [formedL_take hlt, hall, he, ← hfb]
               rfl
           · have hk' : k = ks.length := by have := kge h; omega
             ((conv => whnf); repeat ((first | refine AWp.many ?_ | refine AOps.many ?_ | refine ADr.go ?_); conv => whnf))
             refine fin_pure nn ⟨?_, rfl, rfl⟩
             rw [hk', List.take_length] at hall
             rw [formedV, hf1, hall]
             rfl)
    · ((conv => whnf); repeat ((first | refine AWp.many ?_ | refine AOps.many ?_ | refine ADr.go ?_); conv => whnf))
      repeat' (refine bcs_mk (fun h => ?_) (fun h => ?_) <;> ((try rw [h]); ((conv => whnf); repeat ((first | refine AWp.many ?_ | refine AOps.many ?_ | refine ADr.go ?_); conv => whnf))))
      all_goals first
        | (refine fin_pure nn ⟨?_, rfl, rfl⟩
           clear ih
           have hf1 : formed1 3 vn vs ks.length = false := by
             rw [Bool.eq_false_iff]
             simp_all [formed1]
             try omega
           rw [formedV, hf1]
           rfl)
        | (have hf1 : formed1 3 vn vs ks.length = true := by
             clear ih
             simp_all [formed1]
             try omega
           refine ALoop.at nnΓ (fun k : Nat => k ≤ ks.length ∧ formedL (ks.take k) = true)
             (fun k => ⟨[(1, .ptr 0 0 0), (4, .int .i64 k)], [(0, .row 33 4 [encV (.mk 3 vn vs ks)])], 1, 95⟩) (fun k => ks.length - k) 0 [(0, 0)] ⟨by simp, rfl⟩
             (conv_mk _ rfl ⟨⟨0, _, rfl, rfl, .same nns⟩, trivial⟩ ⟨⟨_, rfl, .ptr 0 0 0 0 rfl⟩, ⟨_, rfl, .same _ nn⟩, trivial⟩) ?_
           rintro k ⟨hk, hall⟩
           ((conv => whnf); repeat ((first | refine AWp.many ?_ | refine AOps.many ?_ | refine ADr.go ?_); conv => whnf))
           refine bcs_mk (fun h => ?_) (fun h => ?_)
           · have hlt := klt h
             obtain ⟨a, b, c, d, hm, hg, he, e1⟩ := enc_cases hlt
             have hih := ih _ hm
             obtain ⟨fb, hfb⟩ : ∃ fb, fb = formedV (.mk a b c d) := ⟨_, rfl⟩
             rw [← hfb] at hih
             ((conv => whnf); repeat ((first | refine AWp.many ?_ | refine AOps.many ?_ | refine ADr.go ?_); conv => whnf))
             refine opt_mk e1 ?_
             ((conv => whnf); repeat ((first | refine AWp.many ?_ | refine AOps.many ?_ | refine ADr.go ?_); conv => whnf))
             refine hih.go ?_
             cases fb with
             | false =>
               ((conv => whnf); repeat ((first | refine AWp.many ?_ | refine AOps.many ?_ | refine ADr.go ?_); conv => whnf))
               refine fin_pure nn ⟨?_, rfl, rfl⟩
               rw [formedV, formedL_mem hm hfb.symm, Bool.and_false]
             | true =>
               ((conv => whnf); repeat ((first | refine AWp.many ?_ | refine AOps.many ?_ | refine ADr.go ?_); conv => whnf))
               refine .mk (k + 1) [(0, 0)] ⟨by omega, ?_⟩ (conv_mk _ rfl ⟨⟨0, _, rfl, rfl, .same nns⟩, trivial⟩ ⟨⟨_, rfl, .ptr 0 0 0 0 rfl⟩, ⟨_, rfl, .w64 (by omega) ⟨by omega, by omega⟩⟩, trivial⟩) (by omega)
               rw [formedL_take hlt, hall, he, ← hfb]
               rfl
           · have hk' : k = ks.length := by have := kge h; omega
             ((conv => whnf); repeat ((first | refine AWp.many ?_ | refine AOps.many ?_ | refine ADr.go ?_); conv => whnf))
             refine fin_pure nn ⟨?_, rfl, rfl⟩
             rw [hk', List.take_length] at hall
             rw [formedV, hf1, hall]
             rfl)
    · have e0 : (vk == 0) = false := by simp; omega
      have e1 : (vk == 1) = false := by simp; omega
      have e2 : (vk == 2) = false := by simp; omega
      have e3 : (vk == 3) = false := by simp; omega
      have hf1 : formed1 vk vn vs ks.length = false := by
        unfold formed1
        rw [if_neg (by omega), if_neg (by omega), if_neg (by omega), if_neg (by omega)]
      have hfin : AV.bool false = AV.bool (formedV (.mk vk vn vs ks)) := by rw [formedV, hf1]; rfl
      ((conv => whnf); repeat ((first | refine AWp.many ?_ | refine AOps.many ?_ | refine ADr.go ?_); conv => whnf))
      repeat (first | (rw [e0]; ((conv => whnf); repeat ((first | refine AWp.many ?_ | refine AOps.many ?_ | refine ADr.go ?_); conv => whnf))) | (rw [e1]; ((conv => whnf); repeat ((first | refine AWp.many ?_ | refine AOps.many ?_ | refine ADr.go ?_); conv => whnf))) | (rw [e2]; ((conv => whnf); repeat ((first | refine AWp.many ?_ | refine AOps.many ?_ | refine ADr.go ?_); conv => whnf))) | (rw [e3]; ((conv => whnf); repeat ((first | refine AWp.many ?_ | refine AOps.many ?_ | refine ADr.go ?_); conv => whnf))))
      refine bcs_mk (fun h => ?_) (fun h => ?_)
      · rw [h]
        ((conv => whnf); repeat ((first | refine AWp.many ?_ | refine AOps.many ?_ | refine ADr.go ?_); conv => whnf))
        exact fin_pure nn ⟨hfin, rfl, rfl⟩
      · rw [h]
        ((conv => whnf); repeat ((first | refine AWp.many ?_ | refine AOps.many ?_ | refine ADr.go ?_); conv => whnf))
        refine bcs_mk (fun h' => ?_) (fun h' => ?_)
        · ((conv => whnf); repeat ((first | refine AWp.many ?_ | refine AOps.many ?_ | refine ADr.go ?_); conv => whnf))
          exact fin_pure nn ⟨hfin, rfl, rfl⟩
        · exfalso
          simp at h h'
          omega
  termination_by v => SizeOf.sizeOf v
  decreasing_by simp; have := List.sizeOf_lt_of_mem hm; omega

/-- 'refuterref10.wide'. -/
theorem rWide : ∀ v : Val, okV v → PureC Tryz.prog [] 57 [encV v] (.bool (wideV v))
  | .mk vk vn vs ks, hv => by
    simp only [okV] at hv
    obtain ⟨hv1, hv2, hv3, hv4, hv5⟩ := hv
    have ih : ∀ a ∈ ks, PureC Tryz.prog [] 57 [encV a] (.bool (wideV a)) := fun a hm => rWide a (okVs_mem hv5 a hm)
    clear hv5
    refine acalls_go nnΓ Tryz.func57 rfl ?_
    ((conv => whnf); repeat ((first | refine AWp.many ?_ | refine AOps.many ?_ | refine ADr.go ?_); conv => whnf))
    repeat' (refine bcs_mk (fun h => ?_) (fun h => ?_) <;> ((try rw [h]); ((conv => whnf); repeat ((first | refine AWp.many ?_ | refine AOps.many ?_ | refine ADr.go ?_); conv => whnf))))
    all_goals first
      | (refine fin_pure nn ⟨?_, rfl, rfl⟩
         clear ih
         have hf1 : wide1 vk ks.length = true := by
           simp [wide1, encVs_length] at *
           omega
         rw [wideV, hf1]
         rfl)
      | (have hf1 : wide1 vk ks.length = false := by
           clear ih
           rw [Bool.eq_false_iff]
           simp [wide1, encVs_length] at *
           omega
         refine ALoop.at nnΓ (fun k : Nat => k ≤ ks.length ∧ wideL (ks.take k) = false)
           (fun k => ⟨[(1, .ptr 0 0 0), (3, .int .i64 k)], [(0, .row 33 4 [encV (.mk vk vn vs ks)])], 1, 39⟩) (fun k => ks.length - k) 0 [(0, 0)] ⟨by simp, rfl⟩
           (conv_mk _ rfl ⟨⟨0, _, rfl, rfl, .same nns⟩, trivial⟩ ⟨⟨_, rfl, .ptr 0 0 0 0 rfl⟩, ⟨_, rfl, .same _ nn⟩, trivial⟩) ?_
         rintro k ⟨hk, hall⟩
         ((conv => whnf); repeat ((first | refine AWp.many ?_ | refine AOps.many ?_ | refine ADr.go ?_); conv => whnf))
         refine bcs_mk (fun h => ?_) (fun h => ?_)
         · have hlt := klt h
           obtain ⟨a, b, c, d, hm, hg, he, e1⟩ := enc_cases hlt
           have hih := ih _ hm
           obtain ⟨fb, hfb⟩ : ∃ fb, fb = wideV (.mk a b c d) := ⟨_, rfl⟩
           rw [← hfb] at hih
           ((conv => whnf); repeat ((first | refine AWp.many ?_ | refine AOps.many ?_ | refine ADr.go ?_); conv => whnf))
           refine opt_mk e1 ?_
           ((conv => whnf); repeat ((first | refine AWp.many ?_ | refine AOps.many ?_ | refine ADr.go ?_); conv => whnf))
           refine hih.go ?_
           cases fb with
           | true =>
             ((conv => whnf); repeat ((first | refine AWp.many ?_ | refine AOps.many ?_ | refine ADr.go ?_); conv => whnf))
             refine fin_pure nn ⟨?_, rfl, rfl⟩
             rw [wideV, wideL_mem hm hfb.symm, Bool.or_true]
           | false =>
             ((conv => whnf); repeat ((first | refine AWp.many ?_ | refine AOps.many ?_ | refine ADr.go ?_); conv => whnf))
             refine .mk (k + 1) [(0, 0)] ⟨by omega, ?_⟩ (conv_mk _ rfl ⟨⟨0, _, rfl, rfl, .same nns⟩, trivial⟩ ⟨⟨_, rfl, .ptr 0 0 0 0 rfl⟩, ⟨_, rfl, .w64 (by omega) ⟨by omega, by omega⟩⟩, trivial⟩) (by omega)
             rw [wideL_take hlt, hall, he, ← hfb]
             rfl
         · have hk' : k = ks.length := by have := kge h; omega
           ((conv => whnf); repeat ((first | refine AWp.many ?_ | refine AOps.many ?_ | refine ADr.go ?_); conv => whnf))
           refine fin_pure nn ⟨?_, rfl, rfl⟩
           rw [hk', List.take_length] at hall
           rw [wideV, hf1, hall]
           rfl)
  termination_by v => SizeOf.sizeOf v
  decreasing_by simp; have := List.sizeOf_lt_of_mem hm; omega

/-- 'refuterref10.Valid'. -/
theorem rValid : ∀ v : Val, okV v → sizeV v ≤ 1099511627776 → PureC Tryz.prog [] 17 [encV v] (.int .i64 (validV v))
  | .mk vk vn vs ks, hv, hs => by
    have h1 := rFormed _ hv
    have h2 := rWide _ hv
    have h3 := rSize _ hs
    have hval : validV (.mk vk vn vs ks) = if formedV (.mk vk vn vs ks) = false then 1 else if wideV (.mk vk vn vs ks) = true ∨ 1024 < sizeV (.mk vk vn vs ks) then 4 else 0 := rfl
    generalize formedV (.mk vk vn vs ks) = fb at h1 hval
    generalize wideV (.mk vk vn vs ks) = wb at h2 hval
    generalize sizeV (.mk vk vn vs ks) = sz at h3 hval
    generalize validV (.mk vk vn vs ks) = res at hval
    refine acalls_go nnΓ Tryz.func17 rfl ?_
    ((conv => whnf); repeat ((first | refine AWp.many ?_ | refine AOps.many ?_ | refine ADr.go ?_); conv => whnf))
    refine h1.go ?_
    cases fb with
    | false =>
      ((conv => whnf); repeat ((first | refine AWp.many ?_ | refine AOps.many ?_ | refine ADr.go ?_); conv => whnf))
      refine fin_pure nn ⟨?_, rfl, rfl⟩
      rw [hval]; rfl
    | true =>
      ((conv => whnf); repeat ((first | refine AWp.many ?_ | refine AOps.many ?_ | refine ADr.go ?_); conv => whnf))
      refine h2.go ?_
      cases wb with
      | true =>
        ((conv => whnf); repeat ((first | refine AWp.many ?_ | refine AOps.many ?_ | refine ADr.go ?_); conv => whnf))
        refine fin_pure nn ⟨?_, rfl, rfl⟩
        rw [hval]; simp
      | false =>
        ((conv => whnf); repeat ((first | refine AWp.many ?_ | refine AOps.many ?_ | refine ADr.go ?_); conv => whnf))
        refine h3.go ?_
        ((conv => whnf); repeat ((first | refine AWp.many ?_ | refine AOps.many ?_ | refine ADr.go ?_); conv => whnf))
        refine bcs_mk (fun h => ?_) (fun h => ?_)
        · ((conv => whnf); repeat ((first | refine AWp.many ?_ | refine AOps.many ?_ | refine ADr.go ?_); conv => whnf))
          refine fin_pure nn ⟨?_, rfl, rfl⟩
          rw [hval, if_neg (by simp), if_pos (by simp at h; omega)]
        · ((conv => whnf); repeat ((first | refine AWp.many ?_ | refine AOps.many ?_ | refine ADr.go ?_); conv => whnf))
          refine fin_pure nn ⟨?_, rfl, rfl⟩
          rw [hval, if_neg (by simp), if_neg (by simp at h; simp; omega)]
end Go.Proofs.YtfnhkfdjhmgjbaaGreatDoor

namespace Go.Proofs.YtfnhkfdjhmgjbaaGreatDoor
open Go Go.Ax Go.Proofs
set_option linter.unusedVariables false
set_option maxRecDepth 100000
set_option maxHeartbeats 4000000

/-! ### 'values.visit' -/
def cI (n : Nat) : AB := .row 3 1 [.int .i64 n]
def cB (b : Bool) : AB := .row 4 1 [.bool b]
def cF (f : AV) : AB := .row 147 1 [f]

section
variable {mem : Mem} {σ : List (Nat × Nat)}
theorem cvFn1 {F : FuncId} {i : Nat} (h : lk σ i = some i) : CvR mem σ [.fn (.func F) [] [.ptr i 0 0]] [.fn (.func F) [] [.ptr i 0 0]] :=
  .cons (.one rfl rfl (.fn _ _ _ _ _ rfl rfl (by simp) (CvL.cons (.ptr i i 0 0 h) .nil).2)) .nil
theorem cvFn2 {F : FuncId} {i j : Nat} (h : lk σ i = some i) (h' : lk σ j = some j) : CvR mem σ [.fn (.func F) [] [.ptr i 0 0, .ptr j 0 0]] [.fn (.func F) [] [.ptr i 0 0, .ptr j 0 0]] :=
  .cons (.one rfl rfl (.fn _ _ _ _ _ rfl rfl (by simp) (CvL.cons (.ptr i i 0 0 h) (.cons (.ptr j j 0 0 h') .nil)).2)) .nil
theorem cvFn3 {F : FuncId} {i j k : Nat} (h : lk σ i = some i) (h' : lk σ j = some j) (h'' : lk σ k = some k) : CvR mem σ [.fn (.func F) [] [.ptr i 0 0, .ptr j 0 0, .ptr k 0 0]] [.fn (.func F) [] [.ptr i 0 0, .ptr j 0 0, .ptr k 0 0]] :=
  .cons (.one rfl rfl (.fn _ _ _ _ _ rfl rfl (by simp) (CvL.cons (.ptr i i 0 0 h) (.cons (.ptr j j 0 0 h') (.cons (.ptr k k 0 0 h'') .nil))).2)) .nil
end

/-- The memory of the walk over one number. -/
def wMS (n : Nat) : Mem := [(0, cI n), (1, cF (.fn (.func 107) [] [.ptr 0 0 0])), (2, cF (.fn (.func 139) [] [.ptr 1 0 0, .ptr 2 0 0]))]

theorem visit1S (g : Nat → Nat → Nat) (hg : ∀ n d, g n d ≤ max (n + 1) d)
    (hsee : ∀ (v : Val) (d n : Nat), d ≤ 1099511627776 → n ≤ 4398046511104 → ACalls Tryz.prog [] 107 [encV v, .int .i64 d, .ptr 0 0 0] [(0, cI n)] 1 fun r m _ => r = .bool true ∧ m = [(0, cI (g n d))]) :
    ∀ (v : Val) (d n : Nat), d + depthV v ≤ 1099511627776 → max n (d + depthV v) + sizeV v ≤ 4398046511104 →
      ACalls Tryz.prog [] 139 [encV v, .int .i64 d, .ptr 1 0 0, .ptr 2 0 0] (wMS n) 3 fun r m _ => r = .bool true ∧ m = wMS (resV g v d n)
  | .mk vk vn vs ks, d, n, hd, hb => by
    have ih : ∀ a ∈ ks, ∀ (d n : Nat), d + depthV a ≤ 1099511627776 → max n (d + depthV a) + sizeV a ≤ 4398046511104 → ACalls Tryz.prog [] 139 [encV a, .int .i64 d, .ptr 1 0 0, .ptr 2 0 0] (wMS n) 3 fun r m _ => r = .bool true ∧ m = wMS (resV g a d n) :=
      fun a hm d n h1 h2 => visit1S g hg hsee a d n h1 h2
    simp only [depthV, sizeV] at hd hb
    have hlen := sizeL_len ks
    have hgn := hg n d
    refine acalls_go nnΓ Tryz.func139 rfl ?_
    ((conv => whnf); repeat ((first | refine AWp.many ?_ | refine AOps.many ?_ | refine ADr.go ?_); conv => whnf))
    refine ACalls.useI nnΓ [0] (hsee (.mk vk vn vs ks) d n (by omega) (by omega)) (by rfl) (.cons (.same _ nn) (.cons (.same _ nn) (.cons (.ptr 0 0 0 0 rfl) .nil))) ⟨⟨0, _, rfl, rfl, .same nns⟩, trivial⟩ rfl ?_
    rintro r m n' ⟨rfl, rfl⟩
    refine ⟨nn, ⟨⟨0, _, rfl, rfl, .same nns⟩, trivial⟩, rfl, ?_⟩
    ((conv => whnf); repeat ((first | refine AWp.many ?_ | refine AOps.many ?_ | refine ADr.go ?_); conv => whnf))
    refine ALoop.at nnΓ (fun k : Nat => k ≤ ks.length)
      (fun k => ⟨[(1, .int .i64 d), (3, .ptr 2 0 0), (15, .il 4 (encVs ks)), (16, .int .i64 (encVs ks).length), (17, .int .i64 k)], wMS (resL g (ks.take k) (d + 1) (g n d)), 3, 28⟩)
      (fun k => ks.length - k) 0 [(0, 0), (1, 1), (2, 2)] (by simp)
      (conv_mk _ rfl ⟨⟨0, _, rfl, rfl, .same nns⟩, ⟨1, _, rfl, rfl, cvFn1 rfl⟩, ⟨2, _, rfl, rfl, cvFn2 rfl rfl⟩, trivial⟩ ⟨⟨_, rfl, .same _ nn⟩, ⟨_, rfl, .ptr 2 2 0 0 rfl⟩, ⟨_, rfl, .same _ nn⟩, ⟨_, rfl, .same _ nn⟩, ⟨_, rfl, .same _ nn⟩, trivial⟩) ?_
    intro k hk
    have hrl := resL_le hg (ks.take k) (d + 1) (g n d)
    ((conv => whnf); repeat ((first | refine AWp.many ?_ | refine AOps.many ?_ | refine ADr.go ?_); conv => whnf))
    refine bcs_mk (fun h => ?_) (fun h => ?_)
    · have hlt := klt h
      obtain ⟨a, b, c, e, hm, hg', he, e1⟩ := enc_cases hlt
      have hst := sizeL_take hlt
      have hdt := depthL_take hlt
      rw [he] at hst hdt
      have hst' := sizeL_take_le ks (k + 1)
      have hdm := depthL_mem hm
      have hdk : depthL (ks.take k) ≤ depthL ks := depthL_take_le ks k
      have hrt := resL_take g hlt (d + 1) (g n d)
      rw [he] at hrt
      ((conv => whnf); repeat ((first | refine AWp.many ?_ | refine AOps.many ?_ | refine ADr.go ?_); conv => whnf))
      refine opt_mk e1 ?_
      ((conv => whnf); repeat ((first | refine AWp.many ?_ | refine AOps.many ?_ | refine ADr.go ?_); conv => whnf))
      rw [w64 (x := (d : Int) + 1) (y := ((d + 1 : Nat) : Int)) (by omega) ⟨by omega, by omega⟩]
      refine ACalls.useI nnΓ [0, 1, 2] (ih _ hm (d + 1) (resL g (ks.take k) (d + 1) (g n d)) (by omega) (by omega)) (by rfl) (.cons (.same _ nn) (.cons (.same _ nn) (.cons (.ptr 1 1 0 0 rfl) (.cons (.ptr 2 2 0 0 rfl) .nil))))
        ⟨⟨0, _, rfl, rfl, .same nns⟩, ⟨1, _, rfl, rfl, cvFn1 rfl⟩, ⟨2, _, rfl, rfl, cvFn2 rfl rfl⟩, trivial⟩ rfl ?_
      rintro r m n' ⟨rfl, rfl⟩
      refine ⟨nn, ⟨⟨0, _, rfl, rfl, .same nns⟩, ⟨1, _, rfl, rfl, cvFn1 rfl⟩, ⟨2, _, rfl, rfl, cvFn2 rfl rfl⟩, trivial⟩, rfl, ?_⟩
      rw [← hrt]
      ((conv => whnf); repeat ((first | refine AWp.many ?_ | refine AOps.many ?_ | refine ADr.go ?_); conv => whnf))
      exact .mk (k + 1) [(0, 0), (1, 1), (2, 2)] (by omega)
        (conv_mk _ rfl ⟨⟨0, _, rfl, rfl, .same nns⟩, ⟨1, _, rfl, rfl, cvFn1 rfl⟩, ⟨2, _, rfl, rfl, cvFn2 rfl rfl⟩, trivial⟩ ⟨⟨_, rfl, .same _ nn⟩, ⟨_, rfl, .ptr 2 2 0 0 rfl⟩, ⟨_, rfl, .same _ nn⟩, ⟨_, rfl, .same _ nn⟩, ⟨_, rfl, .w64 (by omega) ⟨by omega, by omega⟩⟩, trivial⟩) (by omega)
    · have hk' : k = ks.length := by have := kge h; omega
      ((conv => whnf); repeat ((first | refine AWp.many ?_ | refine AOps.many ?_ | refine ADr.go ?_); conv => whnf))
      refine fin_mk (n' := 3) (m' := wMS (resL g (ks.take k) (d + 1) (g n d))) [(0, 0), (1, 1), (2, 2)] rfl ⟨⟨0, _, rfl, rfl, .same nns⟩, ⟨1, _, rfl, rfl, cvFn1 rfl⟩, ⟨2, _, rfl, rfl, cvFn2 rfl rfl⟩, trivial⟩ (.same _ nn) ⟨rfl, ?_⟩
      rw [hk', List.take_length, resV]
  termination_by v => SizeOf.sizeOf v
  decreasing_by simp; have := List.sizeOf_lt_of_mem hm; omega
/-- The memory of the walk over one number. -/
def wMD (n : Nat) : Mem := [(0, cI n), (1, cF (.fn (.func 108) [] [.ptr 0 0 0])), (2, cF (.fn (.func 139) [] [.ptr 1 0 0, .ptr 2 0 0]))]

theorem visit1D (g : Nat → Nat → Nat) (hg : ∀ n d, g n d ≤ max (n + 1) d)
    (hsee : ∀ (v : Val) (d n : Nat), d ≤ 1099511627776 → n ≤ 4398046511104 → ACalls Tryz.prog [] 108 [encV v, .int .i64 d, .ptr 0 0 0] [(0, cI n)] 1 fun r m _ => r = .bool true ∧ m = [(0, cI (g n d))]) :
    ∀ (v : Val) (d n : Nat), d + depthV v ≤ 1099511627776 → max n (d + depthV v) + sizeV v ≤ 4398046511104 →
      ACalls Tryz.prog [] 139 [encV v, .int .i64 d, .ptr 1 0 0, .ptr 2 0 0] (wMD n) 3 fun r m _ => r = .bool true ∧ m = wMD (resV g v d n)
  | .mk vk vn vs ks, d, n, hd, hb => by
    have ih : ∀ a ∈ ks, ∀ (d n : Nat), d + depthV a ≤ 1099511627776 → max n (d + depthV a) + sizeV a ≤ 4398046511104 → ACalls Tryz.prog [] 139 [encV a, .int .i64 d, .ptr 1 0 0, .ptr 2 0 0] (wMD n) 3 fun r m _ => r = .bool true ∧ m = wMD (resV g a d n) :=
      fun a hm d n h1 h2 => visit1D g hg hsee a d n h1 h2
    simp only [depthV, sizeV] at hd hb
    have hlen := sizeL_len ks
    have hgn := hg n d
    refine acalls_go nnΓ Tryz.func139 rfl ?_
    ((conv => whnf); repeat ((first | refine AWp.many ?_ | refine AOps.many ?_ | refine ADr.go ?_); conv => whnf))
    refine ACalls.useI nnΓ [0] (hsee (.mk vk vn vs ks) d n (by omega) (by omega)) (by rfl) (.cons (.same _ nn) (.cons (.same _ nn) (.cons (.ptr 0 0 0 0 rfl) .nil))) ⟨⟨0, _, rfl, rfl, .same nns⟩, trivial⟩ rfl ?_
    rintro r m n' ⟨rfl, rfl⟩
    refine ⟨nn, ⟨⟨0, _, rfl, rfl, .same nns⟩, trivial⟩, rfl, ?_⟩
    ((conv => whnf); repeat ((first | refine AWp.many ?_ | refine AOps.many ?_ | refine ADr.go ?_); conv => whnf))
    refine ALoop.at nnΓ (fun k : Nat => k ≤ ks.length)
      (fun k => ⟨[(1, .int .i64 d), (3, .ptr 2 0 0), (15, .il 4 (encVs ks)), (16, .int .i64 (encVs ks).length), (17, .int .i64 k)], wMD (resL g (ks.take k) (d + 1) (g n d)), 3, 28⟩)
      (fun k => ks.length - k) 0 [(0, 0), (1, 1), (2, 2)] (by simp)
      (conv_mk _ rfl ⟨⟨0, _, rfl, rfl, .same nns⟩, ⟨1, _, rfl, rfl, cvFn1 rfl⟩, ⟨2, _, rfl, rfl, cvFn2 rfl rfl⟩, trivial⟩ ⟨⟨_, rfl, .same _ nn⟩, ⟨_, rfl, .ptr 2 2 0 0 rfl⟩, ⟨_, rfl, .same _ nn⟩, ⟨_, rfl, .same _ nn⟩, ⟨_, rfl, .same _ nn⟩, trivial⟩) ?_
    intro k hk
    have hrl := resL_le hg (ks.take k) (d + 1) (g n d)
    ((conv => whnf); repeat ((first | refine AWp.many ?_ | refine AOps.many ?_ | refine ADr.go ?_); conv => whnf))
    refine bcs_mk (fun h => ?_) (fun h => ?_)
    · have hlt := klt h
      obtain ⟨a, b, c, e, hm, hg', he, e1⟩ := enc_cases hlt
      have hst := sizeL_take hlt
      have hdt := depthL_take hlt
      rw [he] at hst hdt
      have hst' := sizeL_take_le ks (k + 1)
      have hdm := depthL_mem hm
      have hdk : depthL (ks.take k) ≤ depthL ks := depthL_take_le ks k
      have hrt := resL_take g hlt (d + 1) (g n d)
      rw [he] at hrt
      ((conv => whnf); repeat ((first | refine AWp.many ?_ | refine AOps.many ?_ | refine ADr.go ?_); conv => whnf))
      refine opt_mk e1 ?_
      ((conv => whnf); repeat ((first | refine AWp.many ?_ | refine AOps.many ?_ | refine ADr.go ?_); conv => whnf))
      rw [w64 (x := (d : Int) + 1) (y := ((d + 1 : Nat) : Int)) (by omega) ⟨by omega, by omega⟩]
      refine ACalls.useI nnΓ [0, 1, 2] (ih _ hm (d + 1) (resL g (ks.take k) (d + 1) (g n d)) (by omega) (by omega)) (by rfl) (.cons (.same _ nn) (.cons (.same _ nn) (.cons (.ptr 1 1 0 0 rfl) (.cons (.ptr 2 2 0 0 rfl) .nil))))
        ⟨⟨0, _, rfl, rfl, .same nns⟩, ⟨1, _, rfl, rfl, cvFn1 rfl⟩, ⟨2, _, rfl, rfl, cvFn2 rfl rfl⟩, trivial⟩ rfl ?_
      rintro r m n' ⟨rfl, rfl⟩
      refine ⟨nn, ⟨⟨0, _, rfl, rfl, .same nns⟩, ⟨1, _, rfl, rfl, cvFn1 rfl⟩, ⟨2, _, rfl, rfl, cvFn2 rfl rfl⟩, trivial⟩, rfl, ?_⟩
      rw [← hrt]
      ((conv => whnf); repeat ((first | refine AWp.many ?_ | refine AOps.many ?_ | refine ADr.go ?_); conv => whnf))
      exact .mk (k + 1) [(0, 0), (1, 1), (2, 2)] (by omega)
        (conv_mk _ rfl ⟨⟨0, _, rfl, rfl, .same nns⟩, ⟨1, _, rfl, rfl, cvFn1 rfl⟩, ⟨2, _, rfl, rfl, cvFn2 rfl rfl⟩, trivial⟩ ⟨⟨_, rfl, .same _ nn⟩, ⟨_, rfl, .ptr 2 2 0 0 rfl⟩, ⟨_, rfl, .same _ nn⟩, ⟨_, rfl, .same _ nn⟩, ⟨_, rfl, .w64 (by omega) ⟨by omega, by omega⟩⟩, trivial⟩) (by omega)
    · have hk' : k = ks.length := by have := kge h; omega
      ((conv => whnf); repeat ((first | refine AWp.many ?_ | refine AOps.many ?_ | refine ADr.go ?_); conv => whnf))
      refine fin_mk (n' := 3) (m' := wMD (resL g (ks.take k) (d + 1) (g n d))) [(0, 0), (1, 1), (2, 2)] rfl ⟨⟨0, _, rfl, rfl, .same nns⟩, ⟨1, _, rfl, rfl, cvFn1 rfl⟩, ⟨2, _, rfl, rfl, cvFn2 rfl rfl⟩, trivial⟩ (.same _ nn) ⟨rfl, ?_⟩
      rw [hk', List.take_length, resV]
  termination_by v => SizeOf.sizeOf v
  decreasing_by simp; have := List.sizeOf_lt_of_mem hm; omega
end Go.Proofs.YtfnhkfdjhmgjbaaGreatDoor

namespace Go.Proofs.YtfnhkfdjhmgjbaaGreatDoor
open Go Go.Ax Go.Proofs
set_option linter.unusedVariables false
set_option maxRecDepth 100000
set_option maxHeartbeats 4000000

section
variable {mem : Mem} {σ : List (Nat × Nat)}
theorem cvFn1R {F : FuncId} {i i' : Nat} (h : lk σ i = some i') : CvR mem σ [.fn (.func F) [] [.ptr i 0 0]] [.fn (.func F) [] [.ptr i' 0 0]] :=
  .cons (.one rfl rfl (.fn _ _ _ _ _ rfl rfl (by simp) (CvL.cons (.ptr i i' 0 0 h) .nil).2)) .nil
theorem cvFn2R {F : FuncId} {i j i' j' : Nat} (h : lk σ i = some i') (h' : lk σ j = some j') : CvR mem σ [.fn (.func F) [] [.ptr i 0 0, .ptr j 0 0]] [.fn (.func F) [] [.ptr i' 0 0, .ptr j' 0 0]] :=
  .cons (.one rfl rfl (.fn _ _ _ _ _ rfl rfl (by simp) (CvL.cons (.ptr i i' 0 0 h) (.cons (.ptr j j' 0 0 h') .nil)).2)) .nil
theorem cvFn3R {F : FuncId} {i j k i' j' k' : Nat} (h : lk σ i = some i') (h' : lk σ j = some j') (h'' : lk σ k = some k') : CvR mem σ [.fn (.func F) [] [.ptr i 0 0, .ptr j 0 0, .ptr k 0 0]] [.fn (.func F) [] [.ptr i' 0 0, .ptr j' 0 0, .ptr k' 0 0]] :=
  .cons (.one rfl rfl (.fn _ _ _ _ _ rfl rfl (by simp) (CvL.cons (.ptr i i' 0 0 h) (.cons (.ptr j j' 0 0 h') (.cons (.ptr k k' 0 0 h'') .nil))).2)) .nil
theorem cvF1 {F : FuncId} {i i' : Nat} (h : lk σ i = some i') : Cv mem σ (.fn (.func F) [] [.ptr i 0 0]) (.fn (.func F) [] [.ptr i' 0 0]) :=
  .fn _ _ _ _ _ rfl rfl (by simp) (CvL.cons (.ptr i i' 0 0 h) .nil).2
theorem cvF3 {F : FuncId} {i j k i' j' k' : Nat} (h : lk σ i = some i') (h' : lk σ j = some j') (h'' : lk σ k = some k') : Cv mem σ (.fn (.func F) [] [.ptr i 0 0, .ptr j 0 0, .ptr k 0 0]) (.fn (.func F) [] [.ptr i' 0 0, .ptr j' 0 0, .ptr k' 0 0]) :=
  .fn _ _ _ _ _ rfl rfl (by simp) (CvL.cons (.ptr i i' 0 0 h) (.cons (.ptr j j' 0 0 h') (.cons (.ptr k k' 0 0 h'') .nil))).2
end

theorem seeS : ∀ (v : Val) (d n : Nat), d ≤ 1099511627776 → n ≤ 4398046511104 → ACalls Tryz.prog [] 107 [encV v, .int .i64 d, .ptr 0 0 0] [(0, cI n)] 1 fun r m _ => r = .bool true ∧ m = [(0, cI (n + 1))]
  | .mk vk vn vs ks, d, n, hd, hn => by
    refine acalls_go nnΓ Tryz.func107 rfl ?_
    ((conv => whnf); repeat ((first | refine AWp.many ?_ | refine AOps.many ?_ | refine ADr.go ?_); conv => whnf))
    exact fin_mk (n' := 1) (m' := [(0, cI (n + 1))]) [(0, 0)] rfl ⟨⟨0, _, rfl, rfl, .cons (.one rfl rfl (.w64 (by omega) ⟨by omega, by omega⟩)) .nil⟩, trivial⟩ (.same _ nn) ⟨rfl, rfl⟩

theorem seeD : ∀ (v : Val) (d n : Nat), d ≤ 1099511627776 → n ≤ 4398046511104 → ACalls Tryz.prog [] 108 [encV v, .int .i64 d, .ptr 0 0 0] [(0, cI n)] 1 fun r m _ => r = .bool true ∧ m = [(0, cI (max n d))]
  | .mk vk vn vs ks, d, n, hd, hn => by
    refine acalls_go nnΓ Tryz.func108 rfl ?_
    ((conv => whnf); repeat ((first | refine AWp.many ?_ | refine AOps.many ?_ | refine ADr.go ?_); conv => whnf))
    exact fin_mk (n' := 1) (m' := [(0, cI (max n d))]) [(0, 0)] rfl ⟨⟨0, _, rfl, rfl, .cons (.one rfl rfl (.int (by simp; omega))) .nil⟩, trivial⟩ (.same _ nn) ⟨rfl, rfl⟩

theorem vVisitS : ∀ (v : Val) (n : Nat), 1 + depthV v ≤ 1099511627776 → max n (1 + depthV v) + sizeV v ≤ 4398046511104 →
      ACalls Tryz.prog [] 96 [encV v, .fn (.func 107) [] [.ptr 0 0 0]] [(0, cI n)] 1 fun r m _ => r = .tup [] ∧ m = [(0, cI (resV (fun n _ => n + 1) v 1 n))]
  | .mk vk vn vs ks, n, hd, hb => by
    have hw := visit1S (fun n _ => n + 1) (fun n d => by omega) seeS (.mk vk vn vs ks) 1 n hd hb
    generalize resV (fun n _ => n + 1) (.mk vk vn vs ks) 1 n = res at hw
    refine acalls_go nnΓ Tryz.func96 rfl ?_
    ((conv => whnf); repeat ((first | refine AWp.many ?_ | refine AOps.many ?_ | refine ADr.go ?_); conv => whnf))
    refine ACalls.useR nnΓ [(0, 0), (2, 1), (3, 2)] hw (by rfl) (.cons (.same _ nn) (.cons (.int rfl) (.cons (.ptr 2 1 0 0 rfl) (.cons (.ptr 3 2 0 0 rfl) .nil))))
      ⟨⟨0, _, rfl, rfl, .same nns⟩, ⟨2, _, rfl, rfl, cvFn1R rfl⟩, ⟨3, _, rfl, rfl, cvFn2R rfl rfl⟩, trivial⟩ rfl ?_
    rintro r m n' ⟨rfl, rfl⟩
    refine ⟨[(0, cI res)], nn, ⟨⟨0, _, rfl, rfl, .same nns⟩, trivial⟩, rfl, ?_⟩
    ((conv => whnf); repeat ((first | refine AWp.many ?_ | refine AOps.many ?_ | refine ADr.go ?_); conv => whnf))
    exact fin_mk (n' := 1) (m' := [(0, cI res)]) [(0, 0)] rfl ⟨⟨0, _, rfl, rfl, .same nns⟩, trivial⟩ (.same _ nn) ⟨rfl, rfl⟩

theorem vSize : ∀ v : Val, sizeV v ≤ 1048576 → PureC Tryz.prog [] 61 [encV v] (.int .i64 (sizeV v))
  | .mk vk vn vs ks, hs => by
    have hd := depth_le_size (.mk vk vn vs ks)
    have hw := vVisitS (.mk vk vn vs ks) 0 (by omega) (by omega)
    rw [show resV (fun n _ => n + 1) (.mk vk vn vs ks) 1 0 = sizeV (.mk vk vn vs ks) by rw [res_size]; omega] at hw
    generalize sizeV (.mk vk vn vs ks) = res at hw
    refine acalls_go nnΓ Tryz.func61 rfl ?_
    ((conv => whnf); repeat ((first | refine AWp.many ?_ | refine AOps.many ?_ | refine ADr.go ?_); conv => whnf))
    refine ACalls.useR nnΓ [(1, 0)] hw (by rfl) (.cons (.same _ nn) (.cons (cvF1 rfl) .nil)) ⟨⟨1, _, rfl, rfl, .same nns⟩, trivial⟩ rfl ?_
    rintro r m n' ⟨rfl, rfl⟩
    refine ⟨[(1, cI res)], nn, ⟨⟨0, _, rfl, rfl, .same nns⟩, trivial⟩, rfl, ?_⟩
    ((conv => whnf); repeat ((first | refine AWp.many ?_ | refine AOps.many ?_ | refine ADr.go ?_); conv => whnf))
    exact fin_pure nn ⟨rfl, rfl, rfl⟩

theorem vVisitD : ∀ (v : Val) (n : Nat), 1 + depthV v ≤ 1099511627776 → max n (1 + depthV v) + sizeV v ≤ 4398046511104 →
      ACalls Tryz.prog [] 96 [encV v, .fn (.func 108) [] [.ptr 0 0 0]] [(0, cI n)] 1 fun r m _ => r = .tup [] ∧ m = [(0, cI (resV (fun n d => max n d) v 1 n))]
  | .mk vk vn vs ks, n, hd, hb => by
    have hw := visit1D (fun n d => max n d) (fun n d => by omega) seeD (.mk vk vn vs ks) 1 n hd hb
    generalize resV (fun n d => max n d) (.mk vk vn vs ks) 1 n = res at hw
    refine acalls_go nnΓ Tryz.func96 rfl ?_
    ((conv => whnf); repeat ((first | refine AWp.many ?_ | refine AOps.many ?_ | refine ADr.go ?_); conv => whnf))
    refine ACalls.useR nnΓ [(0, 0), (2, 1), (3, 2)] hw (by rfl) (.cons (.same _ nn) (.cons (.int rfl) (.cons (.ptr 2 1 0 0 rfl) (.cons (.ptr 3 2 0 0 rfl) .nil))))
      ⟨⟨0, _, rfl, rfl, .same nns⟩, ⟨2, _, rfl, rfl, cvFn1R rfl⟩, ⟨3, _, rfl, rfl, cvFn2R rfl rfl⟩, trivial⟩ rfl ?_
    rintro r m n' ⟨rfl, rfl⟩
    refine ⟨[(0, cI res)], nn, ⟨⟨0, _, rfl, rfl, .same nns⟩, trivial⟩, rfl, ?_⟩
    ((conv => whnf); repeat ((first | refine AWp.many ?_ | refine AOps.many ?_ | refine ADr.go ?_); conv => whnf))
    exact fin_mk (n' := 1) (m' := [(0, cI res)]) [(0, 0)] rfl ⟨⟨0, _, rfl, rfl, .same nns⟩, trivial⟩ (.same _ nn) ⟨rfl, rfl⟩

theorem vDepth : ∀ v : Val, sizeV v ≤ 1048576 → PureC Tryz.prog [] 62 [encV v] (.int .i64 (depthV v))
  | .mk vk vn vs ks, hs => by
    have hd := depth_le_size (.mk vk vn vs ks)
    have hw := vVisitD (.mk vk vn vs ks) 0 (by omega) (by omega)
    rw [show resV (fun n d => max n d) (.mk vk vn vs ks) 1 0 = depthV (.mk vk vn vs ks) by rw [res_depth]; omega] at hw
    generalize depthV (.mk vk vn vs ks) = res at hw
    refine acalls_go nnΓ Tryz.func62 rfl ?_
    ((conv => whnf); repeat ((first | refine AWp.many ?_ | refine AOps.many ?_ | refine ADr.go ?_); conv => whnf))
    refine ACalls.useR nnΓ [(1, 0)] hw (by rfl) (.cons (.same _ nn) (.cons (cvF1 rfl) .nil)) ⟨⟨1, _, rfl, rfl, .same nns⟩, trivial⟩ rfl ?_
    rintro r m n' ⟨rfl, rfl⟩
    refine ⟨[(1, cI res)], nn, ⟨⟨0, _, rfl, rfl, .same nns⟩, trivial⟩, rfl, ?_⟩
    ((conv => whnf); repeat ((first | refine AWp.many ?_ | refine AOps.many ?_ | refine ADr.go ?_); conv => whnf))
    exact fin_pure nn ⟨rfl, rfl, rfl⟩


/-! ### 'Valid' -/
abbrev VS := Nat × Bool × Bool
def vC (x : VS) : Mem := [(0, cI x.1), (1, cB x.2.1), (2, cB x.2.2)]
def wV (x : VS) : Mem := [(0, cI x.1), (1, cB x.2.1), (2, cB x.2.2), (3, cF (.fn (.func 97) [] [.ptr 0 0 0, .ptr 1 0 0, .ptr 2 0 0])), (4, cF (.fn (.func 139) [] [.ptr 3 0 0, .ptr 4 0 0]))]

theorem seeV (vk vn : Int) (vs : List UInt8) (ks : List Val) (hs : vs.length ≤ 4294967296) (d : Nat) (x : VS) (hx : x.1 ≤ 4398046511104) :
    ACalls Tryz.prog [] 97 [encV (.mk vk vn vs ks), .int .i64 d, .ptr 0 0 0, .ptr 1 0 0, .ptr 2 0 0] (vC x) 3 fun r m _ => r = .bool (stValid x (.mk vk vn vs ks) d).1 ∧ m = vC (stValid x (.mk vk vn vs ks) d).2 := by
  obtain ⟨n, g, s⟩ := x
  have h1 := vFormed vk vn vs ks hs
  have h2 := vFits vk vn vs ks
  have hst : stValid (n, g, s) (.mk vk vn vs ks) d = (g && formed1 vk vn vs ks.length, (n + 1, g && formed1 vk vn vs ks.length, s && fits1 vk ks.length)) := rfl
  generalize formed1 vk vn vs ks.length = fb at h1 hst
  generalize fits1 vk ks.length = tb at h2 hst
  rw [hst]
  simp only at hx
  refine acalls_go nnΓ Tryz.func97 rfl ?_
  cases g <;> cases s
  all_goals
    ((conv => whnf); repeat ((first | refine AWp.many ?_ | refine AOps.many ?_ | refine ADr.go ?_); conv => whnf))
    try (refine h1.go ?_; ((conv => whnf); repeat ((first | refine AWp.many ?_ | refine AOps.many ?_ | refine ADr.go ?_); conv => whnf)))
    try (refine h2.go ?_; ((conv => whnf); repeat ((first | refine AWp.many ?_ | refine AOps.many ?_ | refine ADr.go ?_); conv => whnf)))
    exact fin_mk (n' := 3) (m' := vC (n + 1, _, _)) [(0, 0), (1, 1), (2, 2)] rfl ⟨⟨0, _, rfl, rfl, .cons (.one rfl rfl (.w64 (by omega) ⟨by omega, by omega⟩)) .nil⟩, ⟨1, _, rfl, rfl, .same nns⟩, ⟨2, _, rfl, rfl, .same nns⟩, trivial⟩ (.same _ nn) ⟨rfl, rfl⟩

theorem visitV : ∀ (v : Val) (d : Nat) (x : VS), okV v → d + depthV v ≤ 1099511627776 → x.1 + sizeV v ≤ 4398046511104 →
      ACalls Tryz.prog [] 139 [encV v, .int .i64 d, .ptr 3 0 0, .ptr 4 0 0] (wV x) 5 fun r m _ => r = .bool (visS stValid v d x).1 ∧ m = wV (visS stValid v d x).2
  | .mk vk vn vs ks, d, x, hok, hd, hb => by
    simp only [okV] at hok
    obtain ⟨hv1, hv2, hv3, hv4, hv5⟩ := hok
    have ih : ∀ a ∈ ks, ∀ (d : Nat) (x : VS), d + depthV a ≤ 1099511627776 → x.1 + sizeV a ≤ 4398046511104 → ACalls Tryz.prog [] 139 [encV a, .int .i64 d, .ptr 3 0 0, .ptr 4 0 0] (wV x) 5 fun r m _ => r = .bool (visS stValid a d x).1 ∧ m = wV (visS stValid a d x).2 :=
      fun a hm d x h1 h2 => visitV a d x (okVs_mem hv5 a hm) h1 h2
    simp only [depthV, sizeV] at hd hb
    have hlen := sizeL_len ks
    have hsee := seeV vk vn vs ks hv3 d x (by omega)
    have hy1 : (stValid x (.mk vk vn vs ks) d).2.1 = x.1 + 1 := rfl
    generalize hst0 : stValid x (.mk vk vn vs ks) d = st at hsee hy1
    obtain ⟨b, y⟩ := st
    simp only at hy1
    refine acalls_go nnΓ Tryz.func139 rfl ?_
    ((conv => whnf); repeat ((first | refine AWp.many ?_ | refine AOps.many ?_ | refine ADr.go ?_); conv => whnf))
    refine ACalls.useI nnΓ [0, 1, 2] hsee (by rfl) (.cons (.same _ nn) (.cons (.same _ nn) (.cons (.ptr 0 0 0 0 rfl) (.cons (.ptr 1 1 0 0 rfl) (.cons (.ptr 2 2 0 0 rfl) .nil))))) ⟨⟨0, _, rfl, rfl, .same nns⟩, ⟨1, _, rfl, rfl, .same nns⟩, ⟨2, _, rfl, rfl, .same nns⟩, trivial⟩ rfl ?_
    rintro r m n' ⟨rfl, rfl⟩
    refine ⟨nn, ⟨⟨0, _, rfl, rfl, .same nns⟩, ⟨1, _, rfl, rfl, .same nns⟩, ⟨2, _, rfl, rfl, .same nns⟩, trivial⟩, rfl, ?_⟩
    cases b with
    | false =>
      ((conv => whnf); repeat ((first | refine AWp.many ?_ | refine AOps.many ?_ | refine ADr.go ?_); conv => whnf))
      refine fin_mk (n' := 5) (m' := wV y) [(0, 0), (1, 1), (2, 2), (3, 3), (4, 4)] rfl ⟨⟨0, _, rfl, rfl, .same nns⟩, ⟨1, _, rfl, rfl, .same nns⟩, ⟨2, _, rfl, rfl, .same nns⟩, ⟨3, _, rfl, rfl, cvFn3 rfl rfl rfl⟩, ⟨4, _, rfl, rfl, cvFn2 rfl rfl⟩, trivial⟩ (.same _ nn) ?_
      have hvis : visS stValid (.mk vk vn vs ks) d x = (false, y) := by rw [visS, hst0]
      rw [hvis]
      exact ⟨rfl, rfl⟩
    | true =>
      have hvis : visS stValid (.mk vk vn vs ks) d x = visL stValid ks (d + 1) y := by rw [visS, hst0]
      ((conv => whnf); repeat ((first | refine AWp.many ?_ | refine AOps.many ?_ | refine ADr.go ?_); conv => whnf))
      refine ALoop.at nnΓ (fun a : Nat × VS => a.1 ≤ ks.length ∧ visL stValid (ks.take a.1) (d + 1) y = (true, a.2))
        (fun a => ⟨[(1, .int .i64 d), (3, .ptr 4 0 0), (15, .il 4 (encVs ks)), (16, .int .i64 (encVs ks).length), (17, .int .i64 a.1)], wV a.2, 5, 28⟩)
        (fun a => ks.length - a.1) (0, y) [(0, 0), (1, 1), (2, 2), (3, 3), (4, 4)] ⟨by simp, rfl⟩
        (conv_mk _ rfl ⟨⟨0, _, rfl, rfl, .same nns⟩, ⟨1, _, rfl, rfl, .same nns⟩, ⟨2, _, rfl, rfl, .same nns⟩, ⟨3, _, rfl, rfl, cvFn3 rfl rfl rfl⟩, ⟨4, _, rfl, rfl, cvFn2 rfl rfl⟩, trivial⟩ ⟨⟨_, rfl, .same _ nn⟩, ⟨_, rfl, .ptr 4 4 0 0 rfl⟩, ⟨_, rfl, .same _ nn⟩, ⟨_, rfl, .same _ nn⟩, ⟨_, rfl, .same _ nn⟩, trivial⟩) ?_
      rintro ⟨k, z⟩ ⟨hk, hz⟩
      simp only at hk hz
      have hcnt := visL_cnt (ks.take k) (d + 1) y
      rw [hz] at hcnt
      simp only at hcnt
      ((conv => whnf); repeat ((first | refine AWp.many ?_ | refine AOps.many ?_ | refine ADr.go ?_); conv => whnf))
      refine bcs_mk (fun h => ?_) (fun h => ?_)
      · have hlt : k < ks.length := klt h
        obtain ⟨a, b, c, e, hm, hg', he, e1⟩ := enc_cases hlt
        have hst := sizeL_take hlt
        rw [he] at hst
        have hst' := sizeL_take_le ks (k + 1)
        have hdm := depthL_mem hm
        have hnext := visL_take stValid hlt (d + 1) y z hz
        rw [he] at hnext
        have hb2 : z.1 + sizeV (.mk a b c e) ≤ 4398046511104 := by omega
        have hih := ih _ hm (d + 1) z (by omega) hb2
        generalize visS stValid (.mk a b c e) (d + 1) z = st2 at hih hnext
        obtain ⟨b2, z2⟩ := st2
        ((conv => whnf); repeat ((first | refine AWp.many ?_ | refine AOps.many ?_ | refine ADr.go ?_); conv => whnf))
        refine opt_mk e1 ?_
        ((conv => whnf); repeat ((first | refine AWp.many ?_ | refine AOps.many ?_ | refine ADr.go ?_); conv => whnf))
        rw [w64 (x := (d : Int) + 1) (y := ((d + 1 : Nat) : Int)) (by omega) ⟨by omega, by omega⟩]
        refine ACalls.useI nnΓ [0, 1, 2, 3, 4] hih (by rfl) (.cons (.same _ nn) (.cons (.same _ nn) (.cons (.ptr 3 3 0 0 rfl) (.cons (.ptr 4 4 0 0 rfl) .nil))))
          ⟨⟨0, _, rfl, rfl, .same nns⟩, ⟨1, _, rfl, rfl, .same nns⟩, ⟨2, _, rfl, rfl, .same nns⟩, ⟨3, _, rfl, rfl, cvFn3 rfl rfl rfl⟩, ⟨4, _, rfl, rfl, cvFn2 rfl rfl⟩, trivial⟩ rfl ?_
        rintro r m n' ⟨rfl, rfl⟩
        refine ⟨nn, ⟨⟨0, _, rfl, rfl, .same nns⟩, ⟨1, _, rfl, rfl, .same nns⟩, ⟨2, _, rfl, rfl, .same nns⟩, ⟨3, _, rfl, rfl, cvFn3 rfl rfl rfl⟩, ⟨4, _, rfl, rfl, cvFn2 rfl rfl⟩, trivial⟩, rfl, ?_⟩
        cases b2 with
        | false =>
          ((conv => whnf); repeat ((first | refine AWp.many ?_ | refine AOps.many ?_ | refine ADr.go ?_); conv => whnf))
          refine fin_mk (n' := 5) (m' := wV z2) [(0, 0), (1, 1), (2, 2), (3, 3), (4, 4)] rfl ⟨⟨0, _, rfl, rfl, .same nns⟩, ⟨1, _, rfl, rfl, .same nns⟩, ⟨2, _, rfl, rfl, .same nns⟩, ⟨3, _, rfl, rfl, cvFn3 rfl rfl rfl⟩, ⟨4, _, rfl, rfl, cvFn2 rfl rfl⟩, trivial⟩ (.same _ nn) ?_
          have := visL_stop stValid (m := ks.drop (k + 1)) hnext
          rw [List.take_append_drop] at this
          rw [hvis, this]
          exact ⟨rfl, rfl⟩
        | true =>
          ((conv => whnf); repeat ((first | refine AWp.many ?_ | refine AOps.many ?_ | refine ADr.go ?_); conv => whnf))
          exact .mk (k + 1, z2) [(0, 0), (1, 1), (2, 2), (3, 3), (4, 4)] ⟨by simp only; omega, hnext⟩
            (conv_mk _ rfl ⟨⟨0, _, rfl, rfl, .same nns⟩, ⟨1, _, rfl, rfl, .same nns⟩, ⟨2, _, rfl, rfl, .same nns⟩, ⟨3, _, rfl, rfl, cvFn3 rfl rfl rfl⟩, ⟨4, _, rfl, rfl, cvFn2 rfl rfl⟩, trivial⟩ ⟨⟨_, rfl, .same _ nn⟩, ⟨_, rfl, .ptr 4 4 0 0 rfl⟩, ⟨_, rfl, .same _ nn⟩, ⟨_, rfl, .same _ nn⟩, ⟨_, rfl, .w64 (by omega) ⟨by omega, by omega⟩⟩, trivial⟩) (by simp only; omega)
      · have hk' : k = ks.length := by have := kge h; omega
        ((conv => whnf); repeat ((first | refine AWp.many ?_ | refine AOps.many ?_ | refine ADr.go ?_); conv => whnf))
        refine fin_mk (n' := 5) (m' := wV z) [(0, 0), (1, 1), (2, 2), (3, 3), (4, 4)] rfl ⟨⟨0, _, rfl, rfl, .same nns⟩, ⟨1, _, rfl, rfl, .same nns⟩, ⟨2, _, rfl, rfl, .same nns⟩, ⟨3, _, rfl, rfl, cvFn3 rfl rfl rfl⟩, ⟨4, _, rfl, rfl, cvFn2 rfl rfl⟩, trivial⟩ (.same _ nn) ?_
        rw [hk', List.take_length] at hz
        rw [hvis, hz]
        exact ⟨rfl, rfl⟩
  termination_by v => SizeOf.sizeOf v
  decreasing_by simp; have := List.sizeOf_lt_of_mem hm; omega

theorem vVisitV : ∀ (v : Val) (x : VS), okV v → 1 + depthV v ≤ 1099511627776 → x.1 + sizeV v ≤ 4398046511104 →
      ACalls Tryz.prog [] 96 [encV v, .fn (.func 97) [] [.ptr 0 0 0, .ptr 1 0 0, .ptr 2 0 0]] (vC x) 3 fun r m _ => r = .tup [] ∧ m = vC (visS stValid v 1 x).2
  | .mk vk vn vs ks, x, hok, hd, hb => by
    have hw := visitV (.mk vk vn vs ks) 1 x hok hd hb
    generalize visS stValid (.mk vk vn vs ks) 1 x = st at hw
    obtain ⟨b, y⟩ := st
    refine acalls_go nnΓ Tryz.func96 rfl ?_
    ((conv => whnf); repeat ((first | refine AWp.many ?_ | refine AOps.many ?_ | refine ADr.go ?_); conv => whnf))
    refine ACalls.useR nnΓ [(0, 0), (1, 1), (2, 2), (4, 3), (5, 4)] hw (by rfl) (.cons (.same _ nn) (.cons (.int rfl) (.cons (.ptr 4 3 0 0 rfl) (.cons (.ptr 5 4 0 0 rfl) .nil))))
      ⟨⟨0, _, rfl, rfl, .same nns⟩, ⟨1, _, rfl, rfl, .same nns⟩, ⟨2, _, rfl, rfl, .same nns⟩, ⟨4, _, rfl, rfl, cvFn3R rfl rfl rfl⟩, ⟨5, _, rfl, rfl, cvFn2R rfl rfl⟩, trivial⟩ rfl ?_
    rintro r m n' ⟨rfl, rfl⟩
    refine ⟨[(0, cI y.1), (1, cB y.2.1), (2, cB y.2.2)], nn, ⟨⟨0, _, rfl, rfl, .same nns⟩, ⟨1, _, rfl, rfl, .same nns⟩, ⟨2, _, rfl, rfl, .same nns⟩, trivial⟩, rfl, ?_⟩
    ((conv => whnf); repeat ((first | refine AWp.many ?_ | refine AOps.many ?_ | refine ADr.go ?_); conv => whnf))
    exact fin_mk (n' := 3) (m' := vC y) [(0, 0), (1, 1), (2, 2)] rfl ⟨⟨0, _, rfl, rfl, .same nns⟩, ⟨1, _, rfl, rfl, .same nns⟩, ⟨2, _, rfl, rfl, .same nns⟩, trivial⟩ (.same _ nn) ⟨rfl, rfl⟩

/-- 'values.Valid'. -/
theorem vValid : ∀ v : Val, okV v → sizeV v ≤ 1048576 → PureC Tryz.prog [] 53 [encV v] (.int .i64 (validV v))
  | .mk vk vn vs ks, hok, hs => by
    have hd := depth_le_size (.mk vk vn vs ks)
    have hw := vVisitV (.mk vk vn vs ks) (0, true, true) hok (by omega) (by simp only; omega)
    have hval := valid_vis (.mk vk vn vs ks)
    generalize validV (.mk vk vn vs ks) = res at hval
    generalize (visS stValid (.mk vk vn vs ks) 1 (0, true, true)).2 = y at hw hval
    obtain ⟨n, g, s⟩ := y
    simp only at hval
    refine acalls_go nnΓ Tryz.func53 rfl ?_
    ((conv => whnf); repeat ((first | refine AWp.many ?_ | refine AOps.many ?_ | refine ADr.go ?_); conv => whnf))
    refine ACalls.useR nnΓ [(1, 0), (2, 1), (3, 2)] hw (by rfl) (.cons (.same _ nn) (.cons (cvF3 rfl rfl rfl) .nil)) ⟨⟨1, _, rfl, rfl, .same nns⟩, ⟨2, _, rfl, rfl, .same nns⟩, ⟨3, _, rfl, rfl, .same nns⟩, trivial⟩ rfl ?_
    rintro r m n' ⟨rfl, rfl⟩
    refine ⟨[(1, cI n), (2, cB g), (3, cB s)], nn, ⟨⟨0, _, rfl, rfl, .same nns⟩, ⟨1, _, rfl, rfl, .same nns⟩, ⟨2, _, rfl, rfl, .same nns⟩, trivial⟩, rfl, ?_⟩
    cases g with
    | false =>
      ((conv => whnf); repeat ((first | refine AWp.many ?_ | refine AOps.many ?_ | refine ADr.go ?_); conv => whnf))
      refine fin_pure nn ⟨?_, rfl, rfl⟩
      rw [← hval]; rfl
    | true =>
      cases s with
      | false =>
        ((conv => whnf); repeat ((first | refine AWp.many ?_ | refine AOps.many ?_ | refine ADr.go ?_); conv => whnf))
        refine fin_pure nn ⟨?_, rfl, rfl⟩
        rw [← hval]; simp
      | true =>
        ((conv => whnf); repeat ((first | refine AWp.many ?_ | refine AOps.many ?_ | refine ADr.go ?_); conv => whnf))
        refine bcs_mk (fun h => ?_) (fun h => ?_)
        · ((conv => whnf); repeat ((first | refine AWp.many ?_ | refine AOps.many ?_ | refine ADr.go ?_); conv => whnf))
          refine fin_pure nn ⟨?_, rfl, rfl⟩
          rw [← hval, if_neg (by simp), if_pos (by simp at h; omega)]
        · ((conv => whnf); repeat ((first | refine AWp.many ?_ | refine AOps.many ?_ | refine ADr.go ?_); conv => whnf))
          refine fin_pure nn ⟨?_, rfl, rfl⟩
          rw [← hval, if_neg (by simp), if_neg (by simp at h; simp; omega)]
end Go.Proofs.YtfnhkfdjhmgjbaaGreatDoor

namespace Go.Proofs.YtfnhkfdjhmgjbaaGreatDoor
open Go Go.Ax Go.Proofs
set_option linter.unusedVariables false
set_option maxRecDepth 100000
set_option maxHeartbeats 4000000

theorem cNumber (s : List UInt8) (v1 v2 : Int) (v3 : List UInt8) (v4 : List Val) (hn : i64 v2) (hs : s.length ≤ 90000000) : ACalls Tryz.prog [] 147 [.ptr 0 0 0, encV (.mk v1 v2 v3 v4)] (wM s) 2 (WxQ (s ++ encInt v2)) := by
  have hI := wInt s v2 hn hs
  generalize encInt v2 = w at hI ⊢
  refine acalls_go nnΓ Tryz.func147 rfl ?_
  ((conv => whnf); repeat ((first | refine AWp.many ?_ | refine AOps.many ?_ | refine ADr.go ?_); conv => whnf))
  refine wUse 1 nnΓ hI rfl rfl rfl rfl ?_
  ((conv => whnf); repeat ((first | refine AWp.many ?_ | refine AOps.many ?_ | refine ADr.go ?_); conv => whnf))
  exact wxFin (i := 9) rfl rfl (by omega) rfl rfl
theorem cTruth (s : List UInt8) (v1 v2 : Int) (v3 : List UInt8) (v4 : List Val) (hs : s.length ≤ 90000000) : ACalls Tryz.prog [] 148 [.ptr 0 0 0, encV (.mk v1 v2 v3 v4)] (wM s) 2 (WxQ (s ++ [if v2 = 1 then 1 else 0])) := by
  have hB := wBool s (v2 == 1) hs
  have e : (if (v2 == 1) = true then (1 : UInt8) else 0) = if v2 = 1 then 1 else 0 := by simp
  rw [e] at hB
  generalize (if v2 = 1 then (1 : UInt8) else 0) = w at hB ⊢
  refine acalls_go nnΓ Tryz.func148 rfl ?_
  ((conv => whnf); repeat ((first | refine AWp.many ?_ | refine AOps.many ?_ | refine ADr.go ?_); conv => whnf))
  refine wUse 1 nnΓ hB rfl rfl rfl rfl ?_
  ((conv => whnf); repeat ((first | refine AWp.many ?_ | refine AOps.many ?_ | refine ADr.go ?_); conv => whnf))
  exact wxFin (i := 10) rfl rfl (by omega) rfl rfl

theorem cList (s : List UInt8) (v1 v2 : Int) (v3 : List UInt8) (ks : List Val) (hok : okVs ks) (hf : formedL ks = true) (hs : s.length + 60 * sizeL ks + 10 ≤ 80000000)
    (ih : ∀ v ∈ ks, ∀ s : List UInt8, s.length + 60 * sizeV v ≤ 80000000 → ACalls Tryz.prog [] 63 [.ptr 0 0 0, encV v] (wM s) 2 (WxQ (s ++ codeV v))) :
    ACalls Tryz.prog [] 149 [.ptr 0 0 0, encV (.mk v1 v2 v3 ks)] (wM s) 2 (WxQ (s ++ (encInt ks.length ++ codeL ks))) := by
  have hkl := sizeL_len ks
  have hI := wInt s ks.length (i64_nat (by omega)) (by omega)
  have hil := encInt_len (i64_nat (n := ks.length) (by omega))
  generalize encInt ks.length = w0 at hI hil ⊢
  have hlen : ((encVs ks).length : Int) = ks.length := by rw [encVs_length]
  refine acalls_go nnΓ Tryz.func149 rfl ?_
  ((conv => whnf); repeat ((first | refine AWp.many ?_ | refine AOps.many ?_ | refine ADr.go ?_); conv => whnf))
  rw [hlen]
  refine wUse 1 nnΓ hI rfl rfl rfl rfl ?_
  ((conv => whnf); repeat ((first | refine AWp.many ?_ | refine AOps.many ?_ | refine ADr.go ?_); conv => whnf))
  refine ALoop.at nnΓ (fun k : Nat => k ≤ ks.length)
    (fun k => ⟨[(0, .ptr 0 0 0), (14, .il 4 (encVs ks)), (15, .int .i64 ks.length), (16, .int .i64 k)], [(0, wC 2 (s ++ (w0 ++ codeL (ks.take k))).length), (2, .row 5 1 (encB (s ++ (w0 ++ codeL (ks.take k)))))], 3, 24⟩) (fun k => ks.length - k) 0 [(0, 0), (10, 2)] (by simp)
    (conv_mk _ rfl ⟨⟨0, _, rfl, rfl, wC_cv rfl (by simp [codeL])⟩, ⟨10, _, rfl, rfl, .eq (encB_nn _) (by simp [codeL])⟩, trivial⟩ ⟨⟨_, rfl, .ptr 0 0 0 0 rfl⟩, ⟨_, rfl, .same _ nn⟩, ⟨_, rfl, .int hlen⟩, ⟨_, rfl, .same _ nn⟩, trivial⟩) ?_
  intro k hk
  ((conv => whnf); repeat ((first | refine AWp.many ?_ | refine AOps.many ?_ | refine ADr.go ?_); conv => whnf))
  refine bcs_mk (fun h => ?_) (fun h => ?_)
  · have hlt : k < ks.length := by simpa using h
    obtain ⟨a, b, c, d, hm, hg, he, e1⟩ := enc_cases hlt
    have hih := ih _ hm
    have hpt := codeL_take hlt
    rw [he] at hpt
    have hbound := codeL_len (ks.take k) (okVs_take hok _) (formedL_takeT hf _)
    have hsz := sizeL_take_le ks (k + 1)
    rw [sizeL_take hlt, he] at hsz
    generalize codeV (.mk a b c d) = pv at hih hpt
    obtain ⟨pl, hpl⟩ : ∃ pl, pl = codeL (ks.take k) := ⟨_, rfl⟩
    rw [← hpl] at hpt hbound ⊢
    ((conv => whnf); repeat ((first | refine AWp.many ?_ | refine AOps.many ?_ | refine ADr.go ?_); conv => whnf))
    refine opt_mk e1 ?_
    ((conv => whnf); repeat ((first | refine AWp.many ?_ | refine AOps.many ?_ | refine ADr.go ?_); conv => whnf))
    refine wUse 2 nnΓ (hih (s ++ (w0 ++ pl)) (by simp; omega)) rfl rfl rfl rfl ?_
    ((conv => whnf); repeat ((first | refine AWp.many ?_ | refine AOps.many ?_ | refine ADr.go ?_); conv => whnf))
    have hnx : s ++ (w0 ++ pl) ++ pv = s ++ (w0 ++ codeL (ks.take (k + 1))) := by rw [hpt]; simp
    exact .mk (k + 1) [(0, 0), (4, 2)] (by omega) (conv_mk _ rfl ⟨⟨0, _, rfl, rfl, wC_cv rfl (by rw [hnx])⟩, ⟨4, _, rfl, rfl, .eq (encB_nn _) (by rw [hnx])⟩, trivial⟩ ⟨⟨_, rfl, .ptr 0 0 0 0 rfl⟩, ⟨_, rfl, .same _ nn⟩, ⟨_, rfl, .same _ nn⟩, ⟨_, rfl, .w64 (by omega) ⟨by omega, by omega⟩⟩, trivial⟩) (by omega)
  · have hke : k = ks.length := by simp at h; omega
    subst hke
    rw [List.take_length]
    ((conv => whnf); repeat ((first | refine AWp.many ?_ | refine AOps.many ?_ | refine ADr.go ?_); conv => whnf))
    exact wxFin (i := 2) rfl rfl (by omega) rfl rfl

theorem cMade (s : List UInt8) (v1 v2 : Int) (v3 : List UInt8) (ks : List Val) (hok : okVs ks) (hf : formedL ks = true) (hv3 : v3.length ≤ 16) (hs : s.length + 60 * sizeL ks + 40 ≤ 80000000)
    (ih : ∀ v ∈ ks, ∀ s : List UInt8, s.length + 60 * sizeV v ≤ 80000000 → ACalls Tryz.prog [] 63 [.ptr 0 0 0, encV v] (wM s) 2 (WxQ (s ++ codeV v))) :
    ACalls Tryz.prog [] 150 [.ptr 0 0 0, encV (.mk v1 v2 v3 ks)] (wM s) 2 (WxQ (s ++ ((uvar v3.length ++ v3) ++ (encInt ks.length ++ codeL ks)))) := by
  have hT := wText s v3 (by omega)
  have hul := uvar_len64 (n := v3.length) (by omega)
  have hL := cList (s ++ (uvar v3.length ++ v3)) v1 v2 v3 ks hok hf (by simp; omega) ih
  generalize uvar v3.length ++ v3 = w at hT hL ⊢
  generalize encInt ks.length ++ codeL ks = w' at hL ⊢
  refine acalls_go nnΓ Tryz.func150 rfl ?_
  ((conv => whnf); repeat ((first | refine AWp.many ?_ | refine AOps.many ?_ | refine ADr.go ?_); conv => whnf))
  refine wUse 1 nnΓ hT rfl rfl rfl rfl ?_
  ((conv => whnf); repeat ((first | refine AWp.many ?_ | refine AOps.many ?_ | refine ADr.go ?_); conv => whnf))
  refine wUse 9 nnΓ hL rfl rfl rfl rfl ?_
  ((conv => whnf); repeat ((first | refine AWp.many ?_ | refine AOps.many ?_ | refine ADr.go ?_); conv => whnf))
  rw [← List.append_assoc]
  exact wxFin (i := 10) rfl rfl (by omega) rfl rfl

def kindsC : AV := .agg [.fn (.func 147) [.ptr 0 0 0] [], .fn (.func 148) [.ptr 0 0 0] [], .fn (.func 149) [.ptr 0 0 0] [], .fn (.func 150) [.ptr 0 0 0] []]
theorem cvFnQ {mem : Mem} {σ : List (Nat × Nat)} {f : Fn} (h : lk σ 0 = some 0) : Cv mem σ (.fn f [.ptr 0 0 0] []) (.fn f [.ptr 0 0 0] []) :=
  .fn f _ _ _ _ rfl rfl (CvL.cons (.ptr 0 0 0 0 h) .nil).2 (CvL.nil).2
theorem cvKindsC {mem : Mem} {σ : List (Nat × Nat)} (h : lk σ 0 = some 0) : Cv mem σ kindsC kindsC := .agg' (.cons (cvFnQ h) (.cons (cvFnQ h) (.cons (cvFnQ h) (.cons (cvFnQ h) .nil))))
theorem cKinds (s : List UInt8) : ACalls Tryz.prog [] 110 [.ptr 0 0 0] (wM s) 2 fun r m n => r = kindsC ∧ m = wM s ∧ n = 2 := by
  refine acalls_go nnΓ Tryz.func110 rfl ?_
  ((conv => whnf); repeat ((first | refine AWp.many ?_ | refine AOps.many ?_ | refine ADr.go ?_); conv => whnf))
  exact fin_mk (r' := kindsC) (m' := wM s) (n' := 2) [(0, 0), (1, 1)] rfl ⟨⟨0, _, rfl, rfl, wC_cv rfl rfl⟩, ⟨1, _, rfl, rfl, .same (encB_nn _)⟩, trivial⟩ (cvKindsC rfl) ⟨rfl, rfl, rfl⟩

theorem cValue : ∀ (v : Val) (s : List UInt8), okV v → formedV v = true → s.length + 60 * sizeV v ≤ 80000000 → ACalls Tryz.prog [] 63 [.ptr 0 0 0, encV v] (wM s) 2 (WxQ (s ++ codeV v))
  | .mk k n t ks, s, ho, hf, hs => by
    simp only [okV] at ho
    obtain ⟨hv1, hv2, hv3, hv4, hv5⟩ := ho
    simp only [formedV, Bool.and_eq_true] at hf
    obtain ⟨hf1, hf2⟩ := hf
    simp only [sizeV] at hs
    have ih : ∀ v ∈ ks, ∀ s : List UInt8, s.length + 60 * sizeV v ≤ 80000000 → ACalls Tryz.prog [] 63 [.ptr 0 0 0, encV v] (wM s) 2 (WxQ (s ++ codeV v)) := fun v hm s h =>
      cValue v s (okVs_mem hv5 v hm) (formedL_in hf2 hm) h
    have hI := wInt s k hv1 (by omega)
    have hil := encInt_len hv1
    rw [codeV]
    obtain ⟨w0, hw0⟩ : ∃ w0, w0 = encInt k := ⟨_, rfl⟩
    rw [← hw0] at hI hil ⊢
    unfold formed1 at hf1
    refine acalls_go nnΓ Tryz.func63 rfl ?_
    ((conv => whnf); repeat ((first | refine AWp.many ?_ | refine AOps.many ?_ | refine ADr.go ?_); conv => whnf))
    refine wUse 1 nnΓ hI rfl rfl rfl rfl ?_
    ((conv => whnf); repeat ((first | refine AWp.many ?_ | refine AOps.many ?_ | refine ADr.go ?_); conv => whnf))
    refine ACalls.useN nnΓ [(0, 0), (9, 1)] (cKinds (s ++ w0)) rfl (.cons (.ptr 0 0 0 0 rfl) .nil) ⟨⟨0, _, rfl, rfl, wC_cv rfl rfl⟩, ⟨9, _, rfl, rfl, .same (encB_nn _)⟩, trivial⟩ rfl ?_
    rintro r m n' ⟨rfl, rfl, rfl⟩
    refine ⟨[(0, 0), (1, 9)], _, [(0, wC 9 (s ++ w0).length), (9, .row 5 1 (encB (s ++ w0)))], 17, cvKindsC rfl, ⟨⟨0, _, rfl, rfl, wC_cv rfl rfl⟩, ⟨1, _, rfl, rfl, .same (encB_nn _)⟩, trivial⟩, rfl, ?_⟩
    by_cases k0 : k = 0
    · subst k0
      have hC := cNumber (s ++ w0) 0 n t ks hv2 (by simp; omega)
      rw [if_pos rfl]
      generalize encInt n = w at hC ⊢
      ((conv => whnf); repeat ((first | refine AWp.many ?_ | refine AOps.many ?_ | refine ADr.go ?_); conv => whnf))
      repeat (refine ⟨rfl, ?_⟩; ((conv => whnf); repeat ((first | refine AWp.many ?_ | refine AOps.many ?_ | refine ADr.go ?_); conv => whnf)))
      refine wUse 9 nnΓ hC rfl rfl rfl rfl ?_
      ((conv => whnf); repeat ((first | refine AWp.many ?_ | refine AOps.many ?_ | refine ADr.go ?_); conv => whnf))
      rw [← List.append_assoc]
      exact wxFin (i := 17) rfl rfl (by omega) rfl rfl
    · rw [if_neg k0] at hf1 ⊢
      by_cases k1 : k = 1
      · subst k1
        have hC := cTruth (s ++ w0) 1 n t ks (by simp; omega)
        rw [if_pos rfl]
        generalize [if n = 1 then (1 : UInt8) else 0] = w at hC ⊢
        ((conv => whnf); repeat ((first | refine AWp.many ?_ | refine AOps.many ?_ | refine ADr.go ?_); conv => whnf))
        repeat (refine ⟨rfl, ?_⟩; ((conv => whnf); repeat ((first | refine AWp.many ?_ | refine AOps.many ?_ | refine ADr.go ?_); conv => whnf)))
        refine wUse 9 nnΓ hC rfl rfl rfl rfl ?_
        ((conv => whnf); repeat ((first | refine AWp.many ?_ | refine AOps.many ?_ | refine ADr.go ?_); conv => whnf))
        rw [← List.append_assoc]
        exact wxFin (i := 17) rfl rfl (by omega) rfl rfl
      · rw [if_neg k1] at hf1 ⊢
        by_cases k2 : k = 2
        · subst k2
          have hC := cList (s ++ w0) 2 n t ks hv5 hf2 (by simp; omega) ih
          rw [if_neg (by omega), List.nil_append]
          generalize encInt ks.length ++ codeL ks = w at hC ⊢
          ((conv => whnf); repeat ((first | refine AWp.many ?_ | refine AOps.many ?_ | refine ADr.go ?_); conv => whnf))
          repeat (refine ⟨rfl, ?_⟩; ((conv => whnf); repeat ((first | refine AWp.many ?_ | refine AOps.many ?_ | refine ADr.go ?_); conv => whnf)))
          refine wUse 9 nnΓ hC rfl rfl rfl rfl ?_
          ((conv => whnf); repeat ((first | refine AWp.many ?_ | refine AOps.many ?_ | refine ADr.go ?_); conv => whnf))
          rw [← List.append_assoc]
          exact wxFin (i := 17) rfl rfl (by omega) rfl rfl
        · rw [if_neg k2] at hf1
          by_cases k3 : k = 3
          · subst k3
            rw [if_pos rfl] at hf1 ⊢
            have ht : t.length ≤ 16 := by
              rcases Nat.lt_or_ge 16 t.length with h | h
              · rw [capital_long h] at hf1; simp at hf1
              · exact h
            have hC := cMade (s ++ w0) 3 n t ks hv5 hf2 ht (by simp; omega) ih
            generalize uvar t.length ++ t ++ (encInt ks.length ++ codeL ks) = w at hC ⊢
            ((conv => whnf); repeat ((first | refine AWp.many ?_ | refine AOps.many ?_ | refine ADr.go ?_); conv => whnf))
            repeat (refine ⟨rfl, ?_⟩; ((conv => whnf); repeat ((first | refine AWp.many ?_ | refine AOps.many ?_ | refine ADr.go ?_); conv => whnf)))
            refine wUse 9 nnΓ hC rfl rfl rfl rfl ?_
            ((conv => whnf); repeat ((first | refine AWp.many ?_ | refine AOps.many ?_ | refine ADr.go ?_); conv => whnf))
            rw [← List.append_assoc]
            exact wxFin (i := 17) rfl rfl (by omega) rfl rfl
          · rw [if_neg k3] at hf1
            cases hf1

/-- 'Done': a copy. -/
theorem wDone (s : List UInt8) (hs : s.length ≤ 90000000) : ACalls Tryz.prog [] 64 [.ptr 0 0 0] (wM s) 2 fun r m n => r = .il 1 (encB s) ∧ m = [] ∧ n = 2 := by
  refine acalls_go nnΓ Tryz.func64 rfl ?_
  ((conv => whnf); repeat ((first | refine AWp.many ?_ | refine AOps.many ?_ | refine ADr.go ?_); conv => whnf))
  have lT := encB_length s
  have eT : List.take s.length (List.drop 0 (encB s)) = encB s := by rw [List.drop_zero, List.take_of_length_le (by rw [lT]; omega)]
  refine grd_mk (src_ok (by rw [lT]; omega)) ?_
  rw [eT]
  ((conv => whnf); repeat ((first | refine AWp.many ?_ | refine AOps.many ?_ | refine ADr.go ?_); conv => whnf))
  refine grd_mk (app_ok rfl rfl rfl (by rw [lT]; simp; omega)) ?_
  ((conv => whnf); repeat ((first | refine AWp.many ?_ | refine AOps.many ?_ | refine ADr.go ?_); conv => whnf))
  exact fin_mk (r' := .il 1 (encB s)) (m' := []) (n' := 2) [] rfl trivial (.fz' rfl rfl (by simp) (by simp) (encB_nn _)) ⟨rfl, rfl, rfl⟩

/-- 'values.Encode'. -/
theorem vEncode : ∀ v : Val, okV v → sizeV v ≤ 1000000 → PureC Tryz.prog [] 22 [encV v] (.tup [if validV v = 0 then .il 1 (encB (codeV v)) else .nsl, .int .i64 (validV v)])
  | .mk v1 v2 v3 v4, ho, hs => by
    have hV := vValid (.mk v1 v2 v3 v4) ho (by omega)
    obtain ⟨e, he⟩ : ∃ e, e = validV (.mk v1 v2 v3 v4) := ⟨_, rfl⟩
    rw [← he] at hV ⊢
    refine acalls_go nnΓ Tryz.func22 rfl ?_
    ((conv => whnf); repeat ((first | refine AWp.many ?_ | refine AOps.many ?_ | refine ADr.go ?_); conv => whnf))
    refine hV.go ?_
    by_cases h0 : e = 0
    · subst h0
      rw [if_pos rfl]
      have hf := (valid_fits he.symm).1
      have hX := cValue (.mk v1 v2 v3 v4) [] ho hf (by simp; omega)
      have hpl := code_len _ ho hf
      generalize codeV (.mk v1 v2 v3 v4) = w at hX hpl ⊢
      have hwl : w.length ≤ 50000000 := by omega
      ((conv => whnf); repeat ((first | refine AWp.many ?_ | refine AOps.many ?_ | refine ADr.go ?_); conv => whnf))
      refine ACalls.ph 5 1 ?_
      refine ACalls.useN nnΓ [(1, 0), (2, 1)] hX rfl (.cons (.ptr 1 0 0 0 rfl) (.same nns)) ⟨⟨1, _, rfl, rfl, .cons (.agg (.cons (.nslk 2 1 _ rfl rfl) .nil)) .nil⟩, ⟨2, _, rfl, rfl, .same .nil⟩, trivial⟩ rfl ?_
      rintro r m n ⟨rfl, rfl, rfl⟩
      rw [List.nil_append]
      refine ⟨[(0, 1), (2, 3)], _, [(1, wC 3 w.length), (3, .row 5 1 (encB w))], 4, .same _ nn, ⟨⟨0, _, rfl, rfl, wC_cv rfl rfl⟩, ⟨2, _, rfl, rfl, .same (encB_nn _)⟩, trivial⟩, rfl, ?_⟩
      ((conv => whnf); repeat ((first | refine AWp.many ?_ | refine AOps.many ?_ | refine ADr.go ?_); conv => whnf))
      refine ACalls.useN nnΓ [(1, 0), (3, 1)] (wDone w (by omega)) rfl (.cons (.ptr 1 0 0 0 rfl) .nil) ⟨⟨1, _, rfl, rfl, wC_cv rfl rfl⟩, ⟨3, _, rfl, rfl, .same (encB_nn _)⟩, trivial⟩ rfl ?_
      rintro r m n ⟨rfl, rfl, rfl⟩
      refine ⟨[], _, [], 4, .same _ (.il' (encB_nn _)), trivial, rfl, ?_⟩
      ((conv => whnf); repeat ((first | refine AWp.many ?_ | refine AOps.many ?_ | refine ADr.go ?_); conv => whnf))
      exact fin_pure (.tup' (.cons (.il' (encB_nn _)) (.cons (.int _ _) .nil))) ⟨rfl, rfl, rfl⟩
    · have d1 : (e != 0) = true := by simpa using h0
      rw [if_neg h0]
      ((conv => whnf); repeat ((first | refine AWp.many ?_ | refine AOps.many ?_ | refine ADr.go ?_); conv => whnf))
      rw [d1]
      ((conv => whnf); repeat ((first | refine AWp.many ?_ | refine AOps.many ?_ | refine ADr.go ?_); conv => whnf))
      exact fin_pure nn ⟨rfl, rfl, rfl⟩
end Go.Proofs.YtfnhkfdjhmgjbaaGreatDoor

namespace Go.Proofs.YtfnhkfdjhmgjbaaGreatDoor
open Go Go.Ax Go.Proofs
set_option linter.unusedVariables false
set_option maxRecDepth 100000
set_option maxHeartbeats 4000000

/-- A new row of bytes. -/
def NewB (s : List UInt8) (r : AV) (m : Mem) (n : Nat) : Prop := r = .sl 0 0 s.length ∧ m = [(0, .row 5 1 (encB s))] ∧ n = 1
theorem newFin {s : List UInt8} {xs : List AV} {mem : Mem} {nx i n : Nat} (h1 : lk mem i = some (.row 5 1 xs)) (hn : n = s.length) (hx : xs = encB s) : Fini 0 (NewB s) (.sl i 0 n) mem nx := by
  have si : lk [(i, 0)] i = some 0 := by simp [lk]
  exact fin_mk (r' := .sl 0 0 s.length) (m' := [(0, .row 5 1 (encB s))]) (n' := 1) [(i, 0)] rfl ⟨⟨i, _, si, h1, .eq (encB_nn _) hx⟩, trivial⟩ (.slE si hn) ⟨rfl, rfl, rfl⟩
theorem newUse {Γ : List (Nat × AV)} {F : FuncId} {args : List AV} {s : List UInt8} {mem : Mem} {nx : Nat} {K : AV → Mem → Nat → Prop} (hΓ : ∀ p ∈ Γ, NN p.2) (h : ACalls Tryz.prog Γ F args [] 0 (NewB s)) (hk : K (.sl nx 0 s.length) ((nx, .row 5 1 (encB s)) :: mem) (nx + 1)) (ha : NNs args := by exact nns) : ACalls Tryz.prog Γ F args mem nx K :=
  ACalls.useNw hΓ h ha (encB_nn _) hk

theorem rUint (u : Nat) (hu : u < 18446744073709551616) : ACalls Tryz.prog [] 113 [.int .u64 u] [] 0 (NewB (uvar u)) := by
  have hul := uvar_len64 hu
  refine acalls_go nnΓ Tryz.func113 rfl ?_
  ((conv => whnf); repeat ((first | refine AWp.many ?_ | refine AOps.many ?_ | refine ADr.go ?_); conv => whnf))
  refine ALoop.ph 5 1 ?_
  refine ALoop.at nnΓ (fun x : Nat × List UInt8 => x.2 ++ uvar x.1 = uvar u ∧ x.1 < 18446744073709551616)
    (fun x => ⟨[(0, .int .u64 x.1), (3, .sl 0 0 x.2.length)], [(0, .row 5 1 (encB x.2))], 1, 20⟩) (fun x => x.1) (u, []) [(0, 0)] ⟨rfl, hu⟩
    (conv_mk _ rfl ⟨⟨0, _, rfl, rfl, .same .nil⟩, trivial⟩ ⟨⟨_, rfl, .same _ nn⟩, ⟨_, rfl, .nslk 0 0 _ rfl rfl⟩, trivial⟩) ?_
  rintro ⟨n, acc⟩ ⟨hx, hn64⟩
  simp only at hx hn64
  have hal : acc.length ≤ 10 := by have := congrArg List.length hx; simp at this; omega
  ((conv => whnf); repeat ((first | refine AWp.many ?_ | refine AOps.many ?_ | refine ADr.go ?_); conv => whnf))
  refine bcs_mk (fun h => ?_) (fun h => ?_)
  · have hn : ¬ n < 128 := by simp at h; omega
    ((conv => whnf); repeat ((first | refine AWp.many ?_ | refine AOps.many ?_ | refine ADr.go ?_); conv => whnf))
    refine grd_mk (app_ok rfl rfl (encB_length _).symm (by simp; omega)) ?_
    ((conv => whnf); repeat ((first | refine AWp.many ?_ | refine AOps.many ?_ | refine ADr.go ?_); conv => whnf))
    rw [more_ref hn64, quo_ref hn64]
    refine .mk (n / 128, acc ++ [UInt8.ofNat (128 + n % 128)]) [(2, 0)] ⟨?_, by simp only; omega⟩ (conv_mk _ rfl ⟨⟨2, _, rfl, rfl, .eq (encB_nn _) (by rw [encB_append]; rfl)⟩, trivial⟩ ⟨⟨_, rfl, .same _ nn⟩, ⟨_, rfl, .slE rfl (by simp)⟩, trivial⟩) (by simp only; omega)
    rw [uvar_big hn] at hx
    simpa using hx
  · have hn : n < 128 := by simp at h; omega
    ((conv => whnf); repeat ((first | refine AWp.many ?_ | refine AOps.many ?_ | refine ADr.go ?_); conv => whnf))
    refine grd_mk (app_ok rfl rfl (encB_length _).symm (by simp; omega)) ?_
    ((conv => whnf); repeat ((first | refine AWp.many ?_ | refine AOps.many ?_ | refine ADr.go ?_); conv => whnf))
    rw [last_bits hn]
    rw [uvar_small hn] at hx
    exact newFin rfl (by rw [← hx]; simp) (by rw [← hx, encB_append]; rfl)

theorem rZig (n : Int) (hn : i64 n) : PureC Tryz.prog [] 114 [.int .i64 n] (.int .u64 (zig n)) := by
  have hz := zig_lt hn
  have hzd : (zig n : Int) = if n < 0 then -2 * n - 1 else 2 * n := by unfold zig; split <;> omega
  generalize zig n = z at hz hzd ⊢
  unfold i64 at hn
  refine acalls_go nnΓ Tryz.func114 rfl ?_
  ((conv => whnf); repeat ((first | refine AWp.many ?_ | refine AOps.many ?_ | refine ADr.go ?_); conv => whnf))
  refine bcs_mk (fun h => ?_) (fun h => ?_)
  · have h0 : n < 0 := by simpa using h
    rw [if_pos h0] at hzd
    ((conv => whnf); repeat ((first | refine AWp.many ?_ | refine AOps.many ?_ | refine ADr.go ?_); conv => whnf))
    have e1 : IntKind.i64.wrap (n + 1) = n + 1 := wrap64 ⟨by omega, by omega⟩
    have e2 : IntKind.i64.wrap (0 - (n + 1)) = -(n + 1) := w64 (by omega) ⟨by omega, by omega⟩
    have e3 : IntKind.u64.wrap (-(n + 1)) = -(n + 1) := wrap_u64 (by omega) (by omega)
    have e4 : IntKind.u64.wrap (2 * -(n + 1)) = 2 * -(n + 1) := wrap_u64 (by omega) (by omega)
    have e5 : IntKind.u64.wrap (2 * -(n + 1) + 1) = z := by rw [wrap_u64 (by omega) (by omega)]; omega
    rw [e1, e2, e3, e4, e5]
    exact fin_pure nn ⟨rfl, rfl, rfl⟩
  · have h0 : ¬ n < 0 := by simpa using h
    rw [if_neg h0] at hzd
    ((conv => whnf); repeat ((first | refine AWp.many ?_ | refine AOps.many ?_ | refine ADr.go ?_); conv => whnf))
    have e3 : IntKind.u64.wrap n = n := wrap_u64 (by omega) (by omega)
    have e4 : IntKind.u64.wrap (2 * n) = z := by rw [wrap_u64 (by omega) (by omega)]; omega
    rw [e3, e4]
    exact fin_pure nn ⟨rfl, rfl, rfl⟩

theorem rInt (n : Int) (hn : i64 n) : ACalls Tryz.prog [] 67 [.int .i64 n] [] 0 (NewB (encInt n)) := by
  have hZ := rZig n hn
  have hU := rUint (zig n) (zig_lt hn)
  unfold encInt
  generalize zig n = z at hZ hU ⊢
  refine acalls_go nnΓ Tryz.func67 rfl ?_
  ((conv => whnf); repeat ((first | refine AWp.many ?_ | refine AOps.many ?_ | refine ADr.go ?_); conv => whnf))
  refine hZ.go ?_
  ((conv => whnf); repeat ((first | refine AWp.many ?_ | refine AOps.many ?_ | refine ADr.go ?_); conv => whnf))
  refine newUse nnΓ hU ?_
  ((conv => whnf); repeat ((first | refine AWp.many ?_ | refine AOps.many ?_ | refine ADr.go ?_); conv => whnf))
  exact newFin rfl rfl rfl
/-- 'Raw' of bytes of one's own. -/
theorem rRaw (w : List UInt8) (hw : w.length ≤ 1000000) : ACalls Tryz.prog [] 68 [.il 1 (encB w)] [] 0 (NewB (uvar w.length ++ w)) := by
  have hU := rUint w.length (by omega)
  have hul := uvar_len64 (n := w.length) (by omega)
  have lT := encB_length w
  have hwr : IntKind.u64.wrap ((encB w).length : Int) = (w.length : Int) := by rw [lT]; exact wrap_u64 (by omega) (by omega)
  generalize uvar w.length = x at hU hul ⊢
  refine acalls_go nnΓ Tryz.func68 rfl ?_
  ((conv => whnf); repeat ((first | refine AWp.many ?_ | refine AOps.many ?_ | refine ADr.go ?_); conv => whnf))
  rw [hwr]
  refine newUse nnΓ hU ?_
  ((conv => whnf); repeat ((first | refine AWp.many ?_ | refine AOps.many ?_ | refine ADr.go ?_); conv => whnf))
  refine grd_mk (app_ok rfl rfl (encB_length _).symm (by rw [lT]; omega)) ?_
  ((conv => whnf); repeat ((first | refine AWp.many ?_ | refine AOps.many ?_ | refine ADr.go ?_); conv => whnf))
  exact newFin rfl (by rw [lT]; simp) (encB_append _ _).symm

theorem eTake (w : List UInt8) : List.take w.length (List.drop 0 (encB w)) = encB w := by rw [List.drop_zero, List.take_of_length_le (by rw [encB_length]; omega)]
/-- 'refuterref10.Encode', for values that are well-formed. -/
theorem rEncode : ∀ v : Val, okV v → formedV v = true → sizeV v ≤ 1000000 → ACalls Tryz.prog [] 25 [encV v] [] 0 (NewB (codeV v))
  | .mk vk vn vs ks, ho, hf, hs => by
    have hlen := code_len _ ho hf
    simp only [okV] at ho
    obtain ⟨hv1, hv2, hv3, hv4, hv5⟩ := ho
    simp only [formedV, Bool.and_eq_true] at hf
    obtain ⟨hf1, hf2⟩ := hf
    simp only [sizeV] at hs hlen
    have hkl := sizeL_len ks
    have ih : ∀ a ∈ ks, ACalls Tryz.prog [] 25 [encV a] [] 0 (NewB (codeV a)) := fun a hm =>
      rEncode a (okVs_mem hv5 a hm) (formedL_in hf2 hm) (by have := sizeV_mem hm; omega)
    have hK := rInt vk hv1
    have hKl := encInt_len hv1
    rw [codeV] at hlen ⊢
    obtain ⟨w0, hw0⟩ : ∃ w0, w0 = encInt vk := ⟨_, rfl⟩
    rw [← hw0] at hK hKl hlen ⊢
    unfold formed1 at hf1
    refine acalls_go nnΓ Tryz.func25 rfl ?_
    ((conv => whnf); repeat ((first | refine AWp.many ?_ | refine AOps.many ?_ | refine ADr.go ?_); conv => whnf))
    refine newUse nnΓ hK ?_
    by_cases k0 : vk = 0
    · subst k0
      have hN := rInt vn hv2
      rw [if_pos rfl] at hlen ⊢
      generalize encInt vn = w at hN hlen ⊢
      ((conv => whnf); repeat ((first | refine AWp.many ?_ | refine AOps.many ?_ | refine ADr.go ?_); conv => whnf))
      refine newUse nnΓ hN ?_
      ((conv => whnf); repeat ((first | refine AWp.many ?_ | refine AOps.many ?_ | refine ADr.go ?_); conv => whnf))
      simp only [List.length_append] at hlen
      refine grd_mk (src_ok (by rw [encB_length]; omega)) ?_
      rw [eTake]
      ((conv => whnf); repeat ((first | refine AWp.many ?_ | refine AOps.many ?_ | refine ADr.go ?_); conv => whnf))
      refine grd_mk (app_ok rfl rfl (encB_length _).symm (by rw [encB_length]; omega)) ?_
      ((conv => whnf); repeat ((first | refine AWp.many ?_ | refine AOps.many ?_ | refine ADr.go ?_); conv => whnf))
      exact newFin rfl (by rw [encB_length]; simp) (encB_append _ _).symm
    · rw [if_neg k0] at hf1 hlen ⊢
      by_cases k1 : vk = 1
      · subst k1
        rw [if_pos rfl] at hlen hf1 ⊢
        simp only [Bool.and_eq_true, Bool.or_eq_true, decide_eq_true_eq] at hf1
        rcases hf1.1.1 with rfl | rfl
        · ((conv => whnf); repeat ((first | refine AWp.many ?_ | refine AOps.many ?_ | refine ADr.go ?_); conv => whnf))
          refine grd_mk (app_ok rfl rfl (encB_length _).symm (by simp; omega)) ?_
          ((conv => whnf); repeat ((first | refine AWp.many ?_ | refine AOps.many ?_ | refine ADr.go ?_); conv => whnf))
          exact newFin rfl (by simp) (by rw [encB_append]; rfl)
        · ((conv => whnf); repeat ((first | refine AWp.many ?_ | refine AOps.many ?_ | refine ADr.go ?_); conv => whnf))
          refine grd_mk (app_ok rfl rfl (encB_length _).symm (by simp; omega)) ?_
          ((conv => whnf); repeat ((first | refine AWp.many ?_ | refine AOps.many ?_ | refine ADr.go ?_); conv => whnf))
          exact newFin rfl (by simp) (by rw [encB_append]; rfl)
      · rw [if_neg k1] at hf1 hlen ⊢
        have hL := rInt ks.length (i64_nat (by omega))
        have hLl := encInt_len (i64_nat (n := ks.length) (by omega))
        have hel : ((encVs ks).length : Int) = ks.length := by rw [encVs_length]
        generalize encInt ks.length = w1 at hL hLl hlen ⊢
        by_cases k3 : vk = 3
        · subst k3
          rw [if_neg (by omega), if_pos rfl] at hf1
          rw [if_pos rfl] at hlen ⊢
          have ht : vs.length ≤ 16 := by
            rcases Nat.lt_or_ge 16 vs.length with h | h
            · rw [capital_long h] at hf1; simp at hf1
            · exact h
          have hR := rRaw vs (by omega)
          have hRl : (uvar vs.length ++ vs).length ≤ 26 := by have := uvar_len64 (n := vs.length) (by omega); simp; omega
          generalize uvar vs.length ++ vs = w2 at hR hRl hlen ⊢
          simp only [List.length_append] at hlen
          ((conv => whnf); repeat ((first | refine AWp.many ?_ | refine AOps.many ?_ | refine ADr.go ?_); conv => whnf))
          refine ACalls.pre nnΓ [(1, 1), (0, 0)] (mem' := [(1, .row 5 1 (encB w0)), (0, .row 33 4 [encV (.mk 3 vn vs ks)])]) (args' := [.il 1 (encB vs)]) rfl
            ⟨⟨1, _, rfl, rfl, .same (encB_nn _)⟩, ⟨0, _, rfl, rfl, .same nns⟩, trivial⟩ (.cons (.fz' rfl rfl (by simp) (by rw [List.drop_zero]; exact List.take_of_length_le (by simp)) (encB_nn _)) .nil) ?_
          refine newUse nnΓ hR ?_ (.cons (.il' (encB_nn _)) .nil)
          ((conv => whnf); repeat ((first | refine AWp.many ?_ | refine AOps.many ?_ | refine ADr.go ?_); conv => whnf))
          refine grd_mk (src_ok (by rw [encB_length]; omega)) ?_
          rw [eTake]
          ((conv => whnf); repeat ((first | refine AWp.many ?_ | refine AOps.many ?_ | refine ADr.go ?_); conv => whnf))
          refine grd_mk (app_ok rfl rfl (encB_length _).symm (by rw [encB_length]; (try simp); omega)) ?_
          ((conv => whnf); repeat ((first | refine AWp.many ?_ | refine AOps.many ?_ | refine ADr.go ?_); conv => whnf))
          rw [hel]
          refine newUse nnΓ hL ?_
          ((conv => whnf); repeat ((first | refine AWp.many ?_ | refine AOps.many ?_ | refine ADr.go ?_); conv => whnf))
          refine grd_mk (src_ok (by rw [encB_length]; omega)) ?_
          rw [eTake]
          ((conv => whnf); repeat ((first | refine AWp.many ?_ | refine AOps.many ?_ | refine ADr.go ?_); conv => whnf))
          refine grd_mk (app_ok rfl rfl (by simp [encB_length]) (by simp [encB_length]; omega)) ?_
          ((conv => whnf); repeat ((first | refine AWp.many ?_ | refine AOps.many ?_ | refine ADr.go ?_); conv => whnf))
          obtain ⟨wa, hwa⟩ : ∃ wa, wa = w0 ++ w2 ++ w1 := ⟨_, rfl⟩
          have hal : wa.length ≤ 60 := by rw [hwa]; simp; omega
          have hfin : wa ++ codeL ks = w0 ++ (w2 ++ (w1 ++ codeL ks)) := by rw [hwa]; simp
          rw [← hfin]
          refine ALoop.at nnΓ (fun k : Nat => k ≤ ks.length)
            (fun k => ⟨[(1, .ptr 0 0 0), (3, .sl 1 0 (wa ++ codeL (ks.take k)).length), (4, .int .i64 k)], [(0, .row 33 4 [encV (.mk 3 vn vs ks)]), (1, .row 5 1 (encB (wa ++ codeL (ks.take k))))], 2, 56⟩) (fun k => ks.length - k) 0 [(0, 0), (6, 1)] (by simp)
            (conv_mk _ rfl ⟨⟨0, _, rfl, rfl, .same nns⟩, ⟨6, _, rfl, rfl, .eq (encB_nn _) (by rw [← encB_append, ← encB_append, hwa]; simp [codeL])⟩, trivial⟩ ⟨⟨_, rfl, .ptr 0 0 0 0 rfl⟩, ⟨_, rfl, .slE rfl (by simp [hwa, encB_length, codeL]; omega)⟩, ⟨_, rfl, .same _ nn⟩, trivial⟩) ?_
          intro k hk
          ((conv => whnf); repeat ((first | refine AWp.many ?_ | refine AOps.many ?_ | refine ADr.go ?_); conv => whnf))
          refine bcs_mk (fun h => ?_) (fun h => ?_)
          · have hlt := klt h
            obtain ⟨a, b, c, d, hm, hg, he, e1⟩ := enc_cases hlt
            have hih := ih _ hm
            have hpt := codeL_take hlt
            rw [he] at hpt
            have hbound := codeL_len (ks.take (k + 1)) (okVs_take hv5 _) (formedL_takeT hf2 _)
            have hsz := sizeL_take_le ks (k + 1)
            rw [hpt] at hbound
            simp only [List.length_append] at hbound
            generalize codeV (.mk a b c d) = pv at hih hpt hbound
            obtain ⟨pl, hpl⟩ : ∃ pl, pl = codeL (ks.take k) := ⟨_, rfl⟩
            rw [← hpl] at hpt hbound ⊢
            ((conv => whnf); repeat ((first | refine AWp.many ?_ | refine AOps.many ?_ | refine ADr.go ?_); conv => whnf))
            refine opt_mk e1 ?_
            ((conv => whnf); repeat ((first | refine AWp.many ?_ | refine AOps.many ?_ | refine ADr.go ?_); conv => whnf))
            refine newUse nnΓ hih ?_
            ((conv => whnf); repeat ((first | refine AWp.many ?_ | refine AOps.many ?_ | refine ADr.go ?_); conv => whnf))
            refine grd_mk (src_ok (by rw [encB_length]; omega)) ?_
            rw [eTake]
            ((conv => whnf); repeat ((first | refine AWp.many ?_ | refine AOps.many ?_ | refine ADr.go ?_); conv => whnf))
            refine grd_mk (app_ok rfl rfl (encB_length _).symm (by rw [encB_length]; simp; omega)) ?_
            ((conv => whnf); repeat ((first | refine AWp.many ?_ | refine AOps.many ?_ | refine ADr.go ?_); conv => whnf))
            have hnx : wa ++ pl ++ pv = wa ++ codeL (ks.take (k + 1)) := by rw [hpt]; simp
            exact .mk (k + 1) [(0, 0), (3, 1)] (by omega) (conv_mk _ rfl ⟨⟨0, _, rfl, rfl, .same nns⟩, ⟨3, _, rfl, rfl, .eq (encB_nn _) (by rw [← hnx, encB_append (wa ++ pl) pv])⟩, trivial⟩ ⟨⟨_, rfl, .ptr 0 0 0 0 rfl⟩, ⟨_, rfl, .slE rfl (by rw [← hnx, encB_length]; simp; omega)⟩, ⟨_, rfl, .w64 (by omega) ⟨by omega, by omega⟩⟩, trivial⟩) (by omega)
          · have hke := kge h
            have : k = ks.length := by omega
            subst this
            rw [List.take_length]
            ((conv => whnf); repeat ((first | refine AWp.many ?_ | refine AOps.many ?_ | refine ADr.go ?_); conv => whnf))
            exact newFin rfl rfl rfl
        · have k2 : vk = 2 := by
            rw [if_neg k3] at hf1
            by_cases k2 : vk = 2
            · exact k2
            · rw [if_neg k2] at hf1; cases hf1
          subst k2
          rw [if_neg (by omega), List.nil_append] at hlen ⊢
          simp only [List.length_append] at hlen
          ((conv => whnf); repeat ((first | refine AWp.many ?_ | refine AOps.many ?_ | refine ADr.go ?_); conv => whnf))
          rw [hel]
          refine newUse nnΓ hL ?_
          ((conv => whnf); repeat ((first | refine AWp.many ?_ | refine AOps.many ?_ | refine ADr.go ?_); conv => whnf))
          refine grd_mk (src_ok (by rw [encB_length]; omega)) ?_
          rw [eTake]
          ((conv => whnf); repeat ((first | refine AWp.many ?_ | refine AOps.many ?_ | refine ADr.go ?_); conv => whnf))
          refine grd_mk (app_ok rfl rfl (encB_length _).symm (by rw [encB_length]; omega)) ?_
          ((conv => whnf); repeat ((first | refine AWp.many ?_ | refine AOps.many ?_ | refine ADr.go ?_); conv => whnf))
          obtain ⟨wa, hwa⟩ : ∃ wa, wa = w0 ++ w1 := ⟨_, rfl⟩
          have hal : wa.length ≤ 20 := by rw [hwa]; simp; omega
          have hfin : wa ++ codeL ks = w0 ++ (w1 ++ codeL ks) := by rw [hwa]; simp
          rw [← hfin]
          refine ALoop.at nnΓ (fun k : Nat => k ≤ ks.length)
            (fun k => ⟨[(1, .ptr 0 0 0), (3, .sl 1 0 (wa ++ codeL (ks.take k)).length), (4, .int .i64 k)], [(0, .row 33 4 [encV (.mk 2 vn vs ks)]), (1, .row 5 1 (encB (wa ++ codeL (ks.take k))))], 2, 56⟩) (fun k => ks.length - k) 0 [(0, 0), (3, 1)] (by simp)
            (conv_mk _ rfl ⟨⟨0, _, rfl, rfl, .same nns⟩, ⟨3, _, rfl, rfl, .eq (encB_nn _) (by rw [← encB_append, hwa]; simp [codeL])⟩, trivial⟩ ⟨⟨_, rfl, .ptr 0 0 0 0 rfl⟩, ⟨_, rfl, .slE rfl (by rw [hwa, encB_length]; simp [codeL])⟩, ⟨_, rfl, .same _ nn⟩, trivial⟩) ?_
          intro k hk
          ((conv => whnf); repeat ((first | refine AWp.many ?_ | refine AOps.many ?_ | refine ADr.go ?_); conv => whnf))
          refine bcs_mk (fun h => ?_) (fun h => ?_)
          · have hlt := klt h
            obtain ⟨a, b, c, d, hm, hg, he, e1⟩ := enc_cases hlt
            have hih := ih _ hm
            have hpt := codeL_take hlt
            rw [he] at hpt
            have hbound := codeL_len (ks.take (k + 1)) (okVs_take hv5 _) (formedL_takeT hf2 _)
            have hsz := sizeL_take_le ks (k + 1)
            rw [hpt] at hbound
            simp only [List.length_append] at hbound
            generalize codeV (.mk a b c d) = pv at hih hpt hbound
            obtain ⟨pl, hpl⟩ : ∃ pl, pl = codeL (ks.take k) := ⟨_, rfl⟩
            rw [← hpl] at hpt hbound ⊢
            ((conv => whnf); repeat ((first | refine AWp.many ?_ | refine AOps.many ?_ | refine ADr.go ?_); conv => whnf))
            refine opt_mk e1 ?_
            ((conv => whnf); repeat ((first | refine AWp.many ?_ | refine AOps.many ?_ | refine ADr.go ?_); conv => whnf))
            refine newUse nnΓ hih ?_
            ((conv => whnf); repeat ((first | refine AWp.many ?_ | refine AOps.many ?_ | refine ADr.go ?_); conv => whnf))
            refine grd_mk (src_ok (by rw [encB_length]; omega)) ?_
            rw [eTake]
            ((conv => whnf); repeat ((first | refine AWp.many ?_ | refine AOps.many ?_ | refine ADr.go ?_); conv => whnf))
            refine grd_mk (app_ok rfl rfl (encB_length _).symm (by rw [encB_length]; simp; omega)) ?_
            ((conv => whnf); repeat ((first | refine AWp.many ?_ | refine AOps.many ?_ | refine ADr.go ?_); conv => whnf))
            have hnx : wa ++ pl ++ pv = wa ++ codeL (ks.take (k + 1)) := by rw [hpt]; simp
            exact .mk (k + 1) [(0, 0), (3, 1)] (by omega) (conv_mk _ rfl ⟨⟨0, _, rfl, rfl, .same nns⟩, ⟨3, _, rfl, rfl, .eq (encB_nn _) (by rw [← hnx, encB_append (wa ++ pl) pv])⟩, trivial⟩ ⟨⟨_, rfl, .ptr 0 0 0 0 rfl⟩, ⟨_, rfl, .slE rfl (by rw [← hnx, encB_length]; simp; omega)⟩, ⟨_, rfl, .w64 (by omega) ⟨by omega, by omega⟩⟩, trivial⟩) (by omega)
          · have hke := kge h
            have : k = ks.length := by omega
            subst this
            rw [List.take_length]
            ((conv => whnf); repeat ((first | refine AWp.many ?_ | refine AOps.many ?_ | refine ADr.go ?_); conv => whnf))
            exact newFin rfl rfl rfl
end Go.Proofs.YtfnhkfdjhmgjbaaGreatDoor

namespace Go.Proofs.YtfnhkfdjhmgjbaaGreatDoor
open Go Go.Ax Go.Proofs
set_option linter.unusedVariables false
set_option maxRecDepth 100000
set_option maxHeartbeats 4000000

/-- A reader. -/
abbrev rdC (x : Rd) : AB := .row 110 2 [.agg [.il 1 (encB x.1), .int .i64 x.2]]
theorem rdNN (x : Rd) : NNs [.agg [.il 1 (encB x.1), .int .i64 x.2]] := .cons (.agg' (.cons (.il' (encB_nn _)) (.cons (.int _ _) .nil))) .nil
def RdQ (v : AV) (x : Rd) (r : AV) (m : Mem) (_ : Nat) : Prop := r = v ∧ m = [(0, rdC x)]
theorem rdFin {v : AV} {x : Rd} {ys : List AV} {e : Int} {mem : Mem} {nx : Nat} (h0 : lk mem 0 = some (.row 110 2 [.agg [.il 1 ys, .int .i64 e]])) (hy : ys = encB x.1) (he : e = x.2) (hv : NN v := by exact nn) : Fini 1 (RdQ v x) v mem nx := by
  subst hy he
  exact fin_mk (r' := v) (m' := [(0, rdC x)]) (n' := 1) [(0, 0)] rfl ⟨⟨0, _, rfl, h0, .same (rdNN _)⟩, trivial⟩ (.same _ hv) ⟨rfl, rfl⟩
/-- What reads, used at a reader named 'g'. -/
theorem rdUse {Γ : List (Nat × AV)} {F : FuncId} {aa : List AV} {v : AV} {x y : Rd} {mem : Mem} {nx : Nat} {K : AV → Mem → Nat → Prop} (g : Nat) (hΓ : ∀ p ∈ Γ, NN p.2)
    (h : ACalls Tryz.prog Γ F (.ptr 0 0 0 :: aa) [(0, rdC x)] 1 (RdQ v y)) (hg : lk mem g = some (rdC x)) (hk : dropK g mem fun rest => K v ((g, rdC y) :: rest) nx) (ha : NNs aa := by exact nns) (hv : NN v := by exact nn) : ACalls Tryz.prog Γ F (.ptr g 0 0 :: aa) mem nx K := by
  refine ACalls.use1 hΓ h g hg (rdNN _) (.cons (.ptr g 0 0 0 (by simp [lk])) (.same ha)) ?_
  rintro r m n ⟨rfl, rfl⟩
  exact ⟨_, rfl, hv, rdNN _, hk⟩

theorem dFail (x : Rd) (e : Int) : ACalls Tryz.prog [] 115 [.ptr 0 0 0, .int .i64 e] [(0, rdC x)] 1 (RdQ (.tup []) (x.1, if x.2 = 0 then e else x.2)) := by
  obtain ⟨l, f⟩ := x
  simp only
  refine acalls_go nnΓ Tryz.func115 rfl ?_
  ((conv => whnf); repeat ((first | refine AWp.many ?_ | refine AOps.many ?_ | refine ADr.go ?_); conv => whnf))
  by_cases h : f = 0
  · subst h
    rw [if_pos rfl]
    ((conv => whnf); repeat ((first | refine AWp.many ?_ | refine AOps.many ?_ | refine ADr.go ?_); conv => whnf))
    exact rdFin rfl rfl rfl
  · have d : (f == 0) = false := by simpa using h
    rw [if_neg h, d]
    ((conv => whnf); repeat ((first | refine AWp.many ?_ | refine AOps.many ?_ | refine ADr.go ?_); conv => whnf))
    exact rdFin rfl rfl rfl

theorem dUint (x : Rd) (hl : x.1.length ≤ 1000000000) : ACalls Tryz.prog [] 69 [.ptr 0 0 0] [(0, rdC x)] 1 (RdQ (.int .u64 (uintR x).1) (uintR x).2) := by
  obtain ⟨l, f⟩ := x
  simp only at hl
  unfold uintR
  simp only
  refine acalls_go nnΓ Tryz.func69 rfl ?_
  ((conv => whnf); repeat ((first | refine AWp.many ?_ | refine AOps.many ?_ | refine ADr.go ?_); conv => whnf))
  by_cases h : f = 0
  · subst h
    rw [if_pos rfl]
    ((conv => whnf); repeat ((first | refine AWp.many ?_ | refine AOps.many ?_ | refine ADr.go ?_); conv => whnf))
    refine ALoop.at nnΓ (fun y : Nat × Nat => y.1 ≤ l.length ∧ y.1 ≤ 9 ∧ y.2 < 2 ^ (7 * y.1) ∧ uGo l 0 0 = uGo (l.drop y.1) y.1 y.2)
      (fun y => ⟨[(0, .ptr 0 0 0), (3, .int .u64 y.2), (4, .int .i64 y.1)], [(0, rdC (l, 0))], 1, 66⟩) (fun y => l.length - y.1) (0, 0) [(0, 0)] ⟨by simp, by simp, by simp, by simp⟩
      (conv_mk _ rfl ⟨⟨0, _, rfl, rfl, .same (rdNN _)⟩, trivial⟩ ⟨⟨_, rfl, .ptr 0 0 0 0 rfl⟩, ⟨_, rfl, .same _ nn⟩, ⟨_, rfl, .same _ nn⟩, trivial⟩) ?_
    rintro ⟨i, n⟩ ⟨hi, hi9, hn, hu⟩
    simp only at hi hi9 hn hu
    ((conv => whnf); repeat ((first | refine AWp.many ?_ | refine AOps.many ?_ | refine ADr.go ?_); conv => whnf))
    refine bcs_mk (fun h => ?_) (fun h => ?_)
    · have hil : l.length ≤ i := by simpa [encB_length] using h
      have hgo : uGo l 0 0 = .inl 3 := by rw [hu, List.drop_eq_nil_of_le hil]; rfl
      rw [hgo]
      ((conv => whnf); repeat ((first | refine AWp.many ?_ | refine AOps.many ?_ | refine ADr.go ?_); conv => whnf))
      refine rdUse 0 nnΓ (dFail (l, 0) 3) rfl ?_
      ((conv => whnf); repeat ((first | refine AWp.many ?_ | refine AOps.many ?_ | refine ADr.go ?_); conv => whnf))
      exact rdFin rfl rfl rfl
    · have hil : i < l.length := by simpa [encB_length] using h
      have hg : (encB l)[((i : Nat) : Int).toNat]? = some (.int .u8 (l[i].toNat : Int)) := by simp [encB_get, List.getElem?_eq_getElem hil]
      rw [List.drop_eq_getElem_cons hil] at hu
      generalize l[i] = b at hg hu
      simp only [uGo] at hu
      ((conv => whnf); repeat ((first | refine AWp.many ?_ | refine AOps.many ?_ | refine ADr.go ?_); conv => whnf))
      refine opt_mk hg ?_
      ((conv => whnf); repeat ((first | refine AWp.many ?_ | refine AOps.many ?_ | refine ADr.go ?_); conv => whnf))
      have hb := b.toNat_lt
      by_cases hbad : (i = 9 ∧ 1 < b.toNat) ∨ (0 < i ∧ b.toNat = 0)
      · rw [if_pos hbad] at hu
        rw [hu]
        rcases hbad with ⟨rfl, h1⟩ | ⟨h1, h2⟩
        · have d1 : decide ((b.toNat : Int) > 1) = true := by simp; omega
          ((conv => whnf); repeat ((first | refine AWp.many ?_ | refine AOps.many ?_ | refine ADr.go ?_); conv => whnf))
          rw [d1]
          ((conv => whnf); repeat ((first | refine AWp.many ?_ | refine AOps.many ?_ | refine ADr.go ?_); conv => whnf))
          refine rdUse 0 nnΓ (dFail (l, 0) 2) rfl ?_
          ((conv => whnf); repeat ((first | refine AWp.many ?_ | refine AOps.many ?_ | refine ADr.go ?_); conv => whnf))
          exact rdFin rfl rfl rfl
        · have d0 : decide (((i : Nat) : Int) > 0) = true := by simp; omega
          rw [h2]
          by_cases h9 : i = 9
          · subst h9
            ((conv => whnf); repeat ((first | refine AWp.many ?_ | refine AOps.many ?_ | refine ADr.go ?_); conv => whnf))
            refine rdUse 0 nnΓ (dFail (l, 0) 2) rfl ?_
            ((conv => whnf); repeat ((first | refine AWp.many ?_ | refine AOps.many ?_ | refine ADr.go ?_); conv => whnf))
            exact rdFin rfl rfl rfl
          · have d9 : (((i : Nat) : Int) == 9) = false := by simp; omega
            rw [d9]
            ((conv => whnf); repeat ((first | refine AWp.many ?_ | refine AOps.many ?_ | refine ADr.go ?_); conv => whnf))
            rw [d0]
            ((conv => whnf); repeat ((first | refine AWp.many ?_ | refine AOps.many ?_ | refine ADr.go ?_); conv => whnf))
            refine rdUse 0 nnΓ (dFail (l, 0) 2) rfl ?_
            ((conv => whnf); repeat ((first | refine AWp.many ?_ | refine AOps.many ?_ | refine ADr.go ?_); conv => whnf))
            exact rdFin rfl rfl rfl
      · rw [if_neg hbad] at hu
        rw [not_or] at hbad
        have hw7 : IntKind.i64.wrap (7 * ((i : Nat) : Int)) = ((7 * i : Nat) : Int) := w64 (by omega) ⟨by omega, by omega⟩
        have hlow : IntKind.u64.wrap (bits .and .u8 (b.toNat : Int) 127) = ((b.toNat % 128 : Nat) : Int) := by rw [low_bits]; exact wrap_u64 (by omega) (by omega)
        have hor := or_bits (n := n) (b := b.toNat % 128) (i := i) hn (by omega) (by omega)
        have dlt : (!decide (((7 * i : Nat) : Int) < 0)) = true := by simp; omega
        have hw1 : IntKind.i64.wrap (((i : Nat) : Int) + 1) = ((i + 1 : Nat) : Int) := w64 (by omega) ⟨by omega, by omega⟩
        by_cases h9 : i = 9
        · have d9 : (((i : Nat) : Int) == 9) = true := by simp; omega
          have d1 : decide ((b.toNat : Int) > 1) = false := by simp; omega
          have d0 : decide (((i : Nat) : Int) > 0) = true := by simp; omega
          have dz : ((b.toNat : Int) == 0) = false := by simp; omega
          rw [d9]
          ((conv => whnf); repeat ((first | refine AWp.many ?_ | refine AOps.many ?_ | refine ADr.go ?_); conv => whnf))
          rw [d1]
          ((conv => whnf); repeat ((first | refine AWp.many ?_ | refine AOps.many ?_ | refine ADr.go ?_); conv => whnf))
          rw [d0]
          ((conv => whnf); repeat ((first | refine AWp.many ?_ | refine AOps.many ?_ | refine ADr.go ?_); conv => whnf))
          rw [dz]
          ((conv => whnf); repeat ((first | refine AWp.many ?_ | refine AOps.many ?_ | refine ADr.go ?_); conv => whnf))
          rw [hw7, hlow]
          refine grd_mk dlt ?_
          ((conv => whnf); repeat ((first | refine AWp.many ?_ | refine AOps.many ?_ | refine ADr.go ?_); conv => whnf))
          rw [hor]
          refine bcs_mk (fun hh => ?_) (fun hh => ?_)
          · have hb128 : b.toNat < 128 := by simp at hh; omega
            rw [if_pos hb128] at hu
            rw [hu, Nat.mod_eq_of_lt hb128]
            ((conv => whnf); repeat ((first | refine AWp.many ?_ | refine AOps.many ?_ | refine ADr.go ?_); conv => whnf))
            rw [hw1]
            ((conv => whnf); repeat ((first | refine AWp.many ?_ | refine AOps.many ?_ | refine ADr.go ?_); conv => whnf))
            refine grd_mk (sl_ok (by rw [encB_length]; simp; omega) (by omega) (by omega)) ?_
            ((conv => whnf); repeat ((first | refine AWp.many ?_ | refine AOps.many ?_ | refine ADr.go ?_); conv => whnf))
            exact rdFin rfl (by simp only; rw [encB_drop, encB_length, encB_take, List.take_of_length_le (by simp)]; simp) rfl
          · have hb128 : ¬ b.toNat < 128 := by simp at hh; omega
            rw [if_neg hb128] at hu
            have hmod : b.toNat % 128 = b.toNat - 128 := by omega
            rw [hmod]
            ((conv => whnf); repeat ((first | refine AWp.many ?_ | refine AOps.many ?_ | refine ADr.go ?_); conv => whnf))
            refine .mk (i + 1, n + (b.toNat - 128) * 2 ^ (7 * i)) [(0, 0)] ⟨by simp only; omega, by simp only; omega, ?_, hu⟩ (conv_mk _ rfl ⟨⟨0, _, rfl, rfl, .same (rdNN _)⟩, trivial⟩ ⟨⟨_, rfl, .ptr 0 0 0 0 rfl⟩, ⟨_, rfl, .same _ nn⟩, ⟨_, rfl, .w64 (by simp only; omega) ⟨by omega, by omega⟩⟩, trivial⟩) (by simp only; omega)
            simp only
            have hp : (2 : Nat) ^ (7 * (i + 1)) = 128 * 2 ^ (7 * i) := by rw [show 7 * (i + 1) = 7 * i + 7 by omega, Nat.pow_add]; omega
            rw [hp]
            have : (b.toNat - 128) * 2 ^ (7 * i) ≤ 127 * 2 ^ (7 * i) := Nat.mul_le_mul_right _ (by omega)
            omega
        · have d9 : (((i : Nat) : Int) == 9) = false := by simp; omega
          rw [d9]
          by_cases h0 : i = 0
          · have d0 : decide (((i : Nat) : Int) > 0) = false := by simp; omega
            ((conv => whnf); repeat ((first | refine AWp.many ?_ | refine AOps.many ?_ | refine ADr.go ?_); conv => whnf))
            rw [d0]
            ((conv => whnf); repeat ((first | refine AWp.many ?_ | refine AOps.many ?_ | refine ADr.go ?_); conv => whnf))
            rw [hw7, hlow]
            refine grd_mk dlt ?_
            ((conv => whnf); repeat ((first | refine AWp.many ?_ | refine AOps.many ?_ | refine ADr.go ?_); conv => whnf))
            rw [hor]
            refine bcs_mk (fun hh => ?_) (fun hh => ?_)
            · have hb128 : b.toNat < 128 := by simp at hh; omega
              rw [if_pos hb128] at hu
              rw [hu, Nat.mod_eq_of_lt hb128]
              ((conv => whnf); repeat ((first | refine AWp.many ?_ | refine AOps.many ?_ | refine ADr.go ?_); conv => whnf))
              rw [hw1]
              ((conv => whnf); repeat ((first | refine AWp.many ?_ | refine AOps.many ?_ | refine ADr.go ?_); conv => whnf))
              refine grd_mk (sl_ok (by rw [encB_length]; simp; omega) (by omega) (by omega)) ?_
              ((conv => whnf); repeat ((first | refine AWp.many ?_ | refine AOps.many ?_ | refine ADr.go ?_); conv => whnf))
              exact rdFin rfl (by simp only; rw [encB_drop, encB_length, encB_take, List.take_of_length_le (by simp)]; simp) rfl
            · have hb128 : ¬ b.toNat < 128 := by simp at hh; omega
              rw [if_neg hb128] at hu
              have hmod : b.toNat % 128 = b.toNat - 128 := by omega
              rw [hmod]
              ((conv => whnf); repeat ((first | refine AWp.many ?_ | refine AOps.many ?_ | refine ADr.go ?_); conv => whnf))
              refine .mk (i + 1, n + (b.toNat - 128) * 2 ^ (7 * i)) [(0, 0)] ⟨by simp only; omega, by simp only; omega, ?_, hu⟩ (conv_mk _ rfl ⟨⟨0, _, rfl, rfl, .same (rdNN _)⟩, trivial⟩ ⟨⟨_, rfl, .ptr 0 0 0 0 rfl⟩, ⟨_, rfl, .same _ nn⟩, ⟨_, rfl, .w64 (by simp only; omega) ⟨by omega, by omega⟩⟩, trivial⟩) (by simp only; omega)
              simp only
              have hp : (2 : Nat) ^ (7 * (i + 1)) = 128 * 2 ^ (7 * i) := by rw [show 7 * (i + 1) = 7 * i + 7 by omega, Nat.pow_add]; omega
              rw [hp]
              have : (b.toNat - 128) * 2 ^ (7 * i) ≤ 127 * 2 ^ (7 * i) := Nat.mul_le_mul_right _ (by omega)
              omega
          · have d0 : decide (((i : Nat) : Int) > 0) = true := by simp; omega
            have dz : ((b.toNat : Int) == 0) = false := by simp; omega
            ((conv => whnf); repeat ((first | refine AWp.many ?_ | refine AOps.many ?_ | refine ADr.go ?_); conv => whnf))
            rw [d0]
            ((conv => whnf); repeat ((first | refine AWp.many ?_ | refine AOps.many ?_ | refine ADr.go ?_); conv => whnf))
            rw [dz]
            ((conv => whnf); repeat ((first | refine AWp.many ?_ | refine AOps.many ?_ | refine ADr.go ?_); conv => whnf))
            rw [hw7, hlow]
            refine grd_mk dlt ?_
            ((conv => whnf); repeat ((first | refine AWp.many ?_ | refine AOps.many ?_ | refine ADr.go ?_); conv => whnf))
            rw [hor]
            refine bcs_mk (fun hh => ?_) (fun hh => ?_)
            · have hb128 : b.toNat < 128 := by simp at hh; omega
              rw [if_pos hb128] at hu
              rw [hu, Nat.mod_eq_of_lt hb128]
              ((conv => whnf); repeat ((first | refine AWp.many ?_ | refine AOps.many ?_ | refine ADr.go ?_); conv => whnf))
              rw [hw1]
              ((conv => whnf); repeat ((first | refine AWp.many ?_ | refine AOps.many ?_ | refine ADr.go ?_); conv => whnf))
              refine grd_mk (sl_ok (by rw [encB_length]; simp; omega) (by omega) (by omega)) ?_
              ((conv => whnf); repeat ((first | refine AWp.many ?_ | refine AOps.many ?_ | refine ADr.go ?_); conv => whnf))
              exact rdFin rfl (by simp only; rw [encB_drop, encB_length, encB_take, List.take_of_length_le (by simp)]; simp) rfl
            · have hb128 : ¬ b.toNat < 128 := by simp at hh; omega
              rw [if_neg hb128] at hu
              have hmod : b.toNat % 128 = b.toNat - 128 := by omega
              rw [hmod]
              ((conv => whnf); repeat ((first | refine AWp.many ?_ | refine AOps.many ?_ | refine ADr.go ?_); conv => whnf))
              refine .mk (i + 1, n + (b.toNat - 128) * 2 ^ (7 * i)) [(0, 0)] ⟨by simp only; omega, by simp only; omega, ?_, hu⟩ (conv_mk _ rfl ⟨⟨0, _, rfl, rfl, .same (rdNN _)⟩, trivial⟩ ⟨⟨_, rfl, .ptr 0 0 0 0 rfl⟩, ⟨_, rfl, .same _ nn⟩, ⟨_, rfl, .w64 (by simp only; omega) ⟨by omega, by omega⟩⟩, trivial⟩) (by simp only; omega)
              simp only
              have hp : (2 : Nat) ^ (7 * (i + 1)) = 128 * 2 ^ (7 * i) := by rw [show 7 * (i + 1) = 7 * i + 7 by omega, Nat.pow_add]; omega
              rw [hp]
              have : (b.toNat - 128) * 2 ^ (7 * i) ≤ 127 * 2 ^ (7 * i) := Nat.mul_le_mul_right _ (by omega)
              omega
  · have d : (f != 0) = true := by simpa using h
    rw [if_neg h, d]
    ((conv => whnf); repeat ((first | refine AWp.many ?_ | refine AOps.many ?_ | refine ADr.go ?_); conv => whnf))
    exact rdFin rfl rfl rfl
end Go.Proofs.YtfnhkfdjhmgjbaaGreatDoor

namespace Go.Proofs.YtfnhkfdjhmgjbaaGreatDoor
open Go Go.Ax Go.Proofs
set_option linter.unusedVariables false
set_option maxRecDepth 100000
set_option maxHeartbeats 4000000

theorem uGo_len : ∀ (l : List UInt8) (i n u : Nat) (t : List UInt8), uGo l i n = .inr (u, t) → t.length ≤ l.length
  | [], i, n, u, t, h => by simp [uGo] at h
  | b :: r, i, n, u, t, h => by
    simp only [uGo] at h
    split at h
    · cases h
    · split at h
      · simp at h; rw [← h.2]; simp
      · have := uGo_len r _ _ u t h; simp; omega
theorem uintR_len (x : Rd) : (uintR x).2.1.length ≤ x.1.length := by
  unfold uintR
  split
  · split
    · simp
    · rename_i u t h; exact uGo_len _ _ _ _ _ h
  · simp
theorem uintR_lt (x : Rd) : (uintR x).1 < 18446744073709551616 := by
  unfold uintR
  split
  · split
    · simp
    · rename_i u t h; exact (uGo0 h).2
  · simp

theorem dInt (x : Rd) (hl : x.1.length ≤ 1000000000) : ACalls Tryz.prog [] 26 [.ptr 0 0 0] [(0, rdC x)] 1 (RdQ (.int .i64 (intR x).1) (intR x).2) := by
  have hU := dUint x hl
  have hlt := uintR_lt x
  unfold intR
  generalize uintR x = y at hU hlt ⊢
  obtain ⟨u, y⟩ := y
  have hz := zag_bits hlt
  simp only at hU hz ⊢
  refine acalls_go nnΓ Tryz.func26 rfl ?_
  ((conv => whnf); repeat ((first | refine AWp.many ?_ | refine AOps.many ?_ | refine ADr.go ?_); conv => whnf))
  refine rdUse 0 nnΓ hU rfl ?_
  ((conv => whnf); repeat ((first | refine AWp.many ?_ | refine AOps.many ?_ | refine ADr.go ?_); conv => whnf))
  rw [hz]
  exact rdFin rfl rfl rfl

theorem dBool (x : Rd) (hl : x.1.length ≤ 1000000000) : ACalls Tryz.prog [] 111 [.ptr 0 0 0] [(0, rdC x)] 1 (RdQ (.bool (boolR x).1) (boolR x).2) := by
  obtain ⟨l, f⟩ := x
  simp only at hl
  unfold boolR
  simp only
  refine acalls_go nnΓ Tryz.func111 rfl ?_
  ((conv => whnf); repeat ((first | refine AWp.many ?_ | refine AOps.many ?_ | refine ADr.go ?_); conv => whnf))
  by_cases h : f = 0
  · subst h
    rw [if_pos rfl]
    cases l with
    | nil =>
      ((conv => whnf); repeat ((first | refine AWp.many ?_ | refine AOps.many ?_ | refine ADr.go ?_); conv => whnf))
      refine rdUse 0 nnΓ (dFail ([], 0) 3) rfl ?_
      ((conv => whnf); repeat ((first | refine AWp.many ?_ | refine AOps.many ?_ | refine ADr.go ?_); conv => whnf))
      exact rdFin rfl rfl rfl
    | cons b t =>
      have hb := b.toNat_lt
      have hel : ((encB (b :: t)).length : Int) = ((t.length + 1 : Nat) : Int) := by rw [encB_length]; rfl
      simp only
      ((conv => whnf); repeat ((first | refine AWp.many ?_ | refine AOps.many ?_ | refine ADr.go ?_); conv => whnf))
      refine bcs_mk (fun hh => ?_) (fun hh => ?_)
      · have h1 : 1 < b.toNat := by simp at hh; omega
        rw [if_pos h1]
        ((conv => whnf); repeat ((first | refine AWp.many ?_ | refine AOps.many ?_ | refine ADr.go ?_); conv => whnf))
        refine rdUse 0 nnΓ (dFail (b :: t, 0) 2) rfl ?_
        ((conv => whnf); repeat ((first | refine AWp.many ?_ | refine AOps.many ?_ | refine ADr.go ?_); conv => whnf))
        exact rdFin rfl rfl rfl
      · have h1 : ¬ 1 < b.toNat := by simp at hh; omega
        rw [if_neg h1]
        ((conv => whnf); repeat ((first | refine AWp.many ?_ | refine AOps.many ?_ | refine ADr.go ?_); conv => whnf))
        refine grd_mk (sl_ok (by rw [encB_length]; simp) (by omega) (by omega)) ?_
        ((conv => whnf); repeat ((first | refine AWp.many ?_ | refine AOps.many ?_ | refine ADr.go ?_); conv => whnf))
        have e : ((b.toNat : Int) == 1) = decide (b.toNat = 1) := by
          rw [Bool.eq_iff_iff]; simp; omega
        rw [e]
        exact rdFin rfl (by simp [encB]; exact List.take_of_length_le (by simp)) rfl
  · have d : (f != 0) = true := by simpa using h
    rw [if_neg h, d]
    ((conv => whnf); repeat ((first | refine AWp.many ?_ | refine AOps.many ?_ | refine ADr.go ?_); conv => whnf))
    exact rdFin rfl rfl rfl

theorem dLen (x : Rd) (hl : x.1.length ≤ 1000000000) : ACalls Tryz.prog [] 152 [.ptr 0 0 0] [(0, rdC x)] 1 (RdQ (.int .i64 (lenR x).1) (lenR x).2) := by
  have hU := dUint x hl
  have hlt := uintR_lt x
  have hll := uintR_len x
  unfold lenR
  generalize uintR x = y at hU hlt hll ⊢
  obtain ⟨u, l, e⟩ := y
  simp only at hU hlt hll ⊢
  have hw : IntKind.u64.wrap ((encB l).length : Int) = (l.length : Int) := by rw [encB_length]; exact wrap_u64 (by omega) (by omega)
  refine acalls_go nnΓ Tryz.func152 rfl ?_
  ((conv => whnf); repeat ((first | refine AWp.many ?_ | refine AOps.many ?_ | refine ADr.go ?_); conv => whnf))
  refine rdUse 0 nnΓ hU rfl ?_
  by_cases h : e = 0
  · subst h
    rw [if_pos rfl]
    ((conv => whnf); repeat ((first | refine AWp.many ?_ | refine AOps.many ?_ | refine ADr.go ?_); conv => whnf))
    rw [hw]
    refine bcs_mk (fun hh => ?_) (fun hh => ?_)
    · have h1 : l.length < u := by simp at hh; omega
      rw [if_pos h1]
      ((conv => whnf); repeat ((first | refine AWp.many ?_ | refine AOps.many ?_ | refine ADr.go ?_); conv => whnf))
      refine rdUse 0 nnΓ (dFail (l, 0) 3) rfl ?_
      ((conv => whnf); repeat ((first | refine AWp.many ?_ | refine AOps.many ?_ | refine ADr.go ?_); conv => whnf))
      exact rdFin rfl rfl rfl
    · have h1 : ¬ l.length < u := by simp at hh; omega
      rw [if_neg h1]
      ((conv => whnf); repeat ((first | refine AWp.many ?_ | refine AOps.many ?_ | refine ADr.go ?_); conv => whnf))
      rw [wrap64 (n := (u : Int)) ⟨by omega, by omega⟩]
      exact rdFin rfl rfl rfl
  · have d : (e == 0) = false := by simpa using h
    have d' : (e != 0) = true := by simpa using h
    rw [if_neg h]
    ((conv => whnf); repeat ((first | refine AWp.many ?_ | refine AOps.many ?_ | refine ADr.go ?_); conv => whnf))
    rw [d]
    ((conv => whnf); repeat ((first | refine AWp.many ?_ | refine AOps.many ?_ | refine ADr.go ?_); conv => whnf))
    rw [d']
    ((conv => whnf); repeat ((first | refine AWp.many ?_ | refine AOps.many ?_ | refine ADr.go ?_); conv => whnf))
    exact rdFin rfl rfl rfl

theorem dTake (l : List UInt8) (e : Int) (k : Nat) (hk : k ≤ l.length) : ACalls Tryz.prog [] 151 [.ptr 0 0 0, .int .i64 k] [(0, rdC (l, e))] 1 (RdQ (.il 1 (encB (l.take k))) (l.drop k, e)) := by
  refine acalls_go nnΓ Tryz.func151 rfl ?_
  have e1 : List.take (((k : Nat) : Int).toNat - 0) (List.drop 0 (encB l)) = encB (l.take k) := by rw [List.drop_zero, encB_take]; simp
  have e2 : List.take ((encB l).length - ((k : Nat) : Int).toNat) (List.drop ((k : Nat) : Int).toNat (encB l)) = encB (l.drop k) := by
    rw [encB_drop, encB_take, encB_length, List.take_of_length_le (by simp)]; simp
  ((conv => whnf); repeat ((first | refine AWp.many ?_ | refine AOps.many ?_ | refine ADr.go ?_); conv => whnf))
  refine grd_mk (sl_ok (by omega) (by rw [encB_length]; simp; omega) (by omega)) ?_
  rw [e1]
  ((conv => whnf); repeat ((first | refine AWp.many ?_ | refine AOps.many ?_ | refine ADr.go ?_); conv => whnf))
  refine grd_mk (sl_ok (by rw [encB_length]; simp; omega) (by omega) (by omega)) ?_
  rw [e2]
  ((conv => whnf); repeat ((first | refine AWp.many ?_ | refine AOps.many ?_ | refine ADr.go ?_); conv => whnf))
  exact rdFin rfl rfl rfl (.il' (encB_nn _))

theorem lenR_le (x : Rd) : (lenR x).1 ≤ (lenR x).2.1.length := by
  unfold lenR
  split
  · split
    · simp
    · simp only; omega
  · simp
theorem lenR_len (x : Rd) : (lenR x).2.1.length ≤ x.1.length := by
  have := uintR_len x
  unfold lenR
  split
  · split
    · simpa using this
    · simpa using this
  · simpa using this

theorem dText (x : Rd) (hl : x.1.length ≤ 1000000000) : ACalls Tryz.prog [] 112 [.ptr 0 0 0] [(0, rdC x)] 1 (RdQ (.str (textR x).1) (textR x).2) := by
  have hL := dLen x hl
  have hle := lenR_le x
  unfold textR
  generalize lenR x = y at hL hle ⊢
  obtain ⟨k, l, e⟩ := y
  simp only at hL hle ⊢
  have hT := dTake l e k hle
  refine acalls_go nnΓ Tryz.func112 rfl ?_
  ((conv => whnf); repeat ((first | refine AWp.many ?_ | refine AOps.many ?_ | refine ADr.go ?_); conv => whnf))
  refine rdUse 0 nnΓ hL rfl ?_
  ((conv => whnf); repeat ((first | refine AWp.many ?_ | refine AOps.many ?_ | refine ADr.go ?_); conv => whnf))
  refine rdUse 0 nnΓ hT rfl ?_ nns (.il' (encB_nn _))
  ((conv => whnf); repeat ((first | refine AWp.many ?_ | refine AOps.many ?_ | refine ADr.go ?_); conv => whnf))
  refine opt_mk (toBytes_encB _) ?_
  ((conv => whnf); repeat ((first | refine AWp.many ?_ | refine AOps.many ?_ | refine ADr.go ?_); conv => whnf))
  exact rdFin rfl rfl rfl

theorem dEnd (x : Rd) : ACalls Tryz.prog [] 66 [.ptr 0 0 0] [(0, rdC x)] 1 (RdQ (.int .i64 (if x.2 = 0 then (if x.1 = [] then 0 else 2) else x.2)) x) := by
  obtain ⟨l, f⟩ := x
  simp only
  refine acalls_go nnΓ Tryz.func66 rfl ?_
  ((conv => whnf); repeat ((first | refine AWp.many ?_ | refine AOps.many ?_ | refine ADr.go ?_); conv => whnf))
  by_cases h : f = 0
  · subst h
    rw [if_pos rfl]
    cases l with
    | nil =>
      rw [if_pos rfl]
      ((conv => whnf); repeat ((first | refine AWp.many ?_ | refine AOps.many ?_ | refine ADr.go ?_); conv => whnf))
      exact rdFin rfl rfl rfl
    | cons b t =>
      rw [if_neg (by simp)]
      have hel : decide (((encB (b :: t)).length : Int) > 0) = true := by rw [encB_length]; simp
      ((conv => whnf); repeat ((first | refine AWp.many ?_ | refine AOps.many ?_ | refine ADr.go ?_); conv => whnf))
      rw [hel]
      ((conv => whnf); repeat ((first | refine AWp.many ?_ | refine AOps.many ?_ | refine ADr.go ?_); conv => whnf))
      exact rdFin rfl rfl rfl
  · have d : (f != 0) = true := by simpa using h
    rw [if_neg h, d]
    ((conv => whnf); repeat ((first | refine AWp.many ?_ | refine AOps.many ?_ | refine ADr.go ?_); conv => whnf))
    exact rdFin rfl rfl rfl

/-- 'wire.Read'. -/
theorem dRead (b : List UInt8) (hb : b.length ≤ 1000000000) : ACalls Tryz.prog [] 24 [.il 1 (encB b)] [] 0 fun r m n => r = .ptr 0 0 0 ∧ m = [(0, rdC (b, 0))] ∧ n = 1 := by
  refine acalls_go nnΓ Tryz.func24 rfl ?_
  ((conv => whnf); repeat ((first | refine AWp.many ?_ | refine AOps.many ?_ | refine ADr.go ?_); conv => whnf))
  refine grd_mk (app_ok rfl rfl rfl (by rw [encB_length]; omega)) ?_
  ((conv => whnf); repeat ((first | refine AWp.many ?_ | refine AOps.many ?_ | refine ADr.go ?_); conv => whnf))
  exact fin_mk (r' := .ptr 0 0 0) (m' := [(0, rdC (b, 0))]) (n' := 1) [(2, 0)] rfl ⟨⟨2, _, rfl, rfl, .cons (.agg (.cons (.fz' rfl rfl (by simp) (by simp) (encB_nn _)) (.cons (.same _ nn) .nil))) .nil⟩, trivial⟩ (.ptr 2 0 0 0 rfl) ⟨rfl, rfl, rfl⟩
end Go.Proofs.YtfnhkfdjhmgjbaaGreatDoor
