/- A part of the proof. -/
import Derived.Test.YtfnhkfdjhmgjbaaGreatDoorAx9
import Derived.Shelf.Strconv.Atoi
import Derived.Shelf.Strconv.Itoa0
import Derived.Shelf.Strconv.Itoa1
import Derived.Shelf.LaysM
import Derived.Shelf.Strconv.Itoa2
import Derived.Shelf.Strconv.Itoa3
import Derived.Shelf.Strconv.AtoiErrFast
import Derived.Shelf.Strconv.ParseIntEmpty
import Derived.Shelf.Strconv.AtoiFail
import Derived.Shelf.Strconv.Clone
import Derived.Shelf.Strconv.SyntaxError
import Derived.Shelf.LaysC
import Derived.Shelf.Strconv.ToError
import Derived.Shelf.Strconv.Lower
import Derived.Shelf.Strconv.ParseUint10
import Derived.Shelf.Strconv.ParseUint10Empty
import Derived.Shelf.Strconv.ParseUint10Any
import Derived.Shelf.Strconv.ParseInt10
import Derived.Shelf.Strconv.AtoiLong
import Derived.Shelf.Strconv.AtoiInnerAll
import Derived.Shelf.Strconv.RangeError
import Derived.Shelf.Strconv.ToErrorRange
import Derived.Shelf.Strconv.AtoiAll
import Derived.Test.YtfnhkfdjhmgjbaaGreatDoorProg
import Derived.KernelRfl

/-
  DERIVED: THE SHELF's CONTRACTS AT THIS DUMP, IN PLAIN WORDS (tools/lay-plain.mjs out of 'TryzShelf.lean', which tools/lay-shelf.mjs wrote): THE SAME DECLARATIONS UNDER THE SAME NAMES: 'import', 'namespace', 'open', 'def', 'theorem' AND NOTHING ELSE: no command of the shelf's: FOR A HAND-IN. Each laying: the table of numbers ('.._ren') and one theorem, a field a fact of the dump's own or the kernel's comparison; each contract: ONE APPLICATION.
-/
namespace Go.Proofs
open Go.Shelf
set_option linter.unusedVariables false
def Tryz.lays129_ren : Go.Shelf.Ren := ⟨fun | 129 => 163 | n => n, fun | 53 => 60 | 3 => 3 | 4 => 4 | 46 => 114 | 5 => 5 | 9 => 9 | n => n, fun | n => n⟩
theorem Tryz.lays129 : Go.Proofs.Lays.n129 Tryz.prog Tryz.lays129_ren := {
  mixed := by kernel_rfl
  f129 := Tryz.func163.trans (congrArg some (by kernel_rfl))
  t3 := Tryz.underlying3
  a3 := Tryz.isAgg3
  z3 := Tryz.sizeOf3
  v3 := Tryz.zeroValue3
  t4 := Tryz.underlying4
  a4 := Tryz.isAgg4
  z4 := Tryz.sizeOf4
  v4 := Tryz.zeroValue4
  t5 := Tryz.underlying5
  a5 := Tryz.isAgg5
  z5 := Tryz.sizeOf5
  v5 := Tryz.zeroValue5
  t9 := Tryz.underlying9
  a9 := Tryz.isAgg9
  z9 := Tryz.sizeOf9
  v9 := Tryz.zeroValue9
  t46 := Tryz.underlying114
  a46 := Tryz.isAgg114
  z46 := Tryz.sizeOf114
  v46 := Tryz.zeroValue114
  t53 := Tryz.underlying60
  a53 := Tryz.isAgg60
  z53 := Tryz.sizeOf60
  v53 := Tryz.zeroValue60 }
/-- bits.Len64: "Len64 returns the minimum number of bits required to represent x; the result is 0 for x == 0.": IT RETURNS 'Lib.bitLen x'; the world is as it was. ('h0', 'h1': x is a uint64.) (LAID: no walk: one application.) -/
theorem Tryz.bits_Len64 (x : Int) (w : World) (h0 : 0 ≤ x) (h1 : x ≤ 18446744073709551615) :
    Calls Tryz.prog 163 #[.int .u64 x] w fun e w' => e = .returned (.int .i64 (Lib.bitLen x.toNat)) ∧ w' = w := Any.bits_Len64 Tryz.lays129 x w h0 h1
def Tryz.lays317_ren : Go.Shelf.Ren := ⟨fun | 317 => 208 | n => n, fun | 3 => 3 | 46 => 114 | n => n, fun | n => n⟩
theorem Tryz.lays317 : Go.Proofs.Lays.n317 Tryz.prog Tryz.lays317_ren := {
  mixed := by kernel_rfl
  f317 := Tryz.func208.trans (congrArg some (by kernel_rfl))
  t3 := Tryz.underlying3
  a3 := Tryz.isAgg3
  z3 := Tryz.sizeOf3
  v3 := Tryz.zeroValue3
  t46 := Tryz.underlying114
  a46 := Tryz.isAgg114
  z46 := Tryz.sizeOf114
  v46 := Tryz.zeroValue114 }
open Go.Lib in
/-- internal/strconv.log10Pow2: "log10Pow2(x) returns ⌊log₁₀ 2**x⌋ = ⌊x * log₁₀ 2⌋.": '(x * 78913) >> 18', at an x up to 64 (a length in bits). The world is as it was. (LAID: no walk: one application.) -/
theorem Tryz.internal_strconv_log10Pow2 (x : Nat) (h : x ≤ 64) (w : World) :
    Calls Tryz.prog 208 #[.int .i64 x] w fun e w' => e = .returned (.int .i64 (Lib.l10 x)) ∧ w' = w := Any.internal_strconv_log10Pow2 Tryz.lays317 x h w
def Tryz.lays318_ren : Go.Shelf.Ren := ⟨fun | 318 => 209 | n => n, fun | 3 => 3 | 4 => 4 | n => n, fun | n => n⟩
theorem Tryz.lays318 : Go.Proofs.Lays.n318 Tryz.prog Tryz.lays318_ren := {
  mixed := by kernel_rfl
  f318 := Tryz.func209.trans (congrArg some (by kernel_rfl))
  t3 := Tryz.underlying3
  a3 := Tryz.isAgg3
  z3 := Tryz.sizeOf3
  v3 := Tryz.zeroValue3
  t4 := Tryz.underlying4
  a4 := Tryz.isAgg4
  z4 := Tryz.sizeOf4
  v4 := Tryz.zeroValue4 }
open Go.Lib in
/-- internal/strconv.bool2: "bool2 converts b to an integer: 1 for true, 0 for false." The world is as it was. (LAID: no walk: one application.) -/
theorem Tryz.internal_strconv_bool2_int (b : Bool) (w : World) :
    Calls Tryz.prog 209 #[.bool b] w fun e w' => e = .returned (.int .i64 (if b then 1 else 0)) ∧ w' = w := Any.internal_strconv_bool2_int Tryz.lays318 b w
def Tryz.lays283_ren : Go.Shelf.Ren := ⟨fun | 283 => 193 | n => n, fun | 3 => 3 | 9 => 9 | 4 => 4 | n => n, fun | n => n⟩
theorem Tryz.lays283 : Go.Proofs.Lays.n283 Tryz.prog Tryz.lays283_ren := {
  mixed := by kernel_rfl
  f283 := Tryz.func193.trans (congrArg some (by kernel_rfl))
  t3 := Tryz.underlying3
  a3 := Tryz.isAgg3
  z3 := Tryz.sizeOf3
  v3 := Tryz.zeroValue3
  t4 := Tryz.underlying4
  a4 := Tryz.isAgg4
  z4 := Tryz.sizeOf4
  v4 := Tryz.zeroValue4
  t9 := Tryz.underlying9
  a9 := Tryz.isAgg9
  z9 := Tryz.sizeOf9
  v9 := Tryz.zeroValue9 }
open Go.Lib in
/-- internal/strconv.small: "small returns the string for an i with 0 <= i < nSmalls.": i's decimal numeral. The world is as it was. (LAID: no walk: one application.) -/
theorem Tryz.internal_strconv_small (i : Nat) (h : i < 100) (w : World) :
    Calls Tryz.prog 193 #[.int .i64 i] w fun e w' => e = .returned (.string ⟨(Lib.decDigits i).toArray⟩) ∧ w' = w := Any.internal_strconv_small Tryz.lays283 i h w
def Tryz.lays285_ren : Go.Shelf.Ren := ⟨fun | 285 => 195 | n => n, fun | 37 => 49 | 53 => 60 | 3 => 3 | 4 => 4 | 51 => 194 | 9 => 9 | 5 => 5 | 0 => 0 | n => n, fun | n => n⟩
theorem Tryz.lays285 : Go.Proofs.Lays.n285 Tryz.prog Tryz.lays285_ren := {
  mixed := by kernel_rfl
  f285 := Tryz.func195.trans (congrArg some (by kernel_rfl))
  t0 := Tryz.underlying0
  a0 := Tryz.isAgg0
  z0 := Tryz.sizeOf0
  v0 := Tryz.zeroValue0
  t3 := Tryz.underlying3
  a3 := Tryz.isAgg3
  z3 := Tryz.sizeOf3
  v3 := Tryz.zeroValue3
  t4 := Tryz.underlying4
  a4 := Tryz.isAgg4
  z4 := Tryz.sizeOf4
  v4 := Tryz.zeroValue4
  t5 := Tryz.underlying5
  a5 := Tryz.isAgg5
  z5 := Tryz.sizeOf5
  v5 := Tryz.zeroValue5
  t9 := Tryz.underlying9
  a9 := Tryz.isAgg9
  z9 := Tryz.sizeOf9
  v9 := Tryz.zeroValue9
  t37 := Tryz.underlying49
  a37 := Tryz.isAgg49
  z37 := Tryz.sizeOf49
  v37 := Tryz.zeroValue49
  t51 := Tryz.underlying194
  a51 := Tryz.isAgg194
  z51 := Tryz.sizeOf194
  v51 := Tryz.zeroValue194
  t53 := Tryz.underlying60
  a53 := Tryz.isAgg60
  z53 := Tryz.sizeOf60
  v53 := Tryz.zeroValue60 }
open Go.RowKit Go.Sort Go.Lib in
/-- internal/strconv.formatBase10: "formatBase10 formats the decimal representation of u into a. The caller is responsible for ensuring that a is big enough to hold u. If a is too big, leading zeros will be filled in as needed.": THE ROW HOLDS u's DIGITS ('FmtInv .. 0 ..': every place t holds 'dg u (len - 1 - t)'); all else is as it was but for the count of draws. (LAID: no walk: one application.) -/
theorem Tryz.internal_strconv_formatBase10 (blk off cap : Nat) (u : Nat) (d : Array UInt8) (w : World) (hH : Holds (fun (b : UInt8) => Value.int .u8 (b.toNat : Int)) w blk off d) (hu : u < 10 ^ d.size) (hu64 : u < 18446744073709551616) (hsz : d.size < 4611686018427387904) :
    Calls Tryz.prog 195 #[.slice (some ⟨blk, off, none⟩) d.size cap, .int .u64 u] w fun e w' =>
      e = .returned (.tuple #[]) ∧ ∃ (n v' : Nat) (dk : Array UInt8), w' = (putRow (fun (b : UInt8) => Value.int .u8 (b.toNat : Int)) w blk off dk).drewN n ∧ FmtInv d.size u 0 v' dk := Any.internal_strconv_formatBase10 Tryz.lays285 blk off cap u d w hH hu hu64 hsz
def Tryz.laysC172_ren : Go.Shelf.Ren := ⟨fun | 172 => 89 | 244 => 131 | 245 => 132 | 247 => 168 | 279 => 169 | 280 => 170 | 281 => 171 | 282 => 172 | 287 => 197 | 316 => 198 | 171 => 88 | 205 => 199 | 321 => 212 | 322 => 213 | 243 => 130 | 246 => 167 | 283 => 193 | 284 => 194 | 285 => 195 | 286 => 196 | 129 => 163 | 317 => 208 | 318 => 209 | 319 => 210 | 320 => 211 | 337 => 216 | 338 => 217 | n => n, fun | 9 => 9 | 3 => 3 | 75 => 131 | 76 => 132 | 4 => 4 | 5 => 5 | 167 => 198 | 37 => 49 | 0 => 0 | 85 => 199 | 2 => 2 | 168 => 201 | 53 => 60 | 175 => 224 | 46 => 114 | 210 => 228 | 127 => 151 | 145 => 245 | 143 => 243 | 21 => 21 | 171 => 220 | 173 => 222 | 212 => 240 | 51 => 194 | 20 => 20 | 213 => 241 | 232 => 250 | 233 => 251 | 80 => 92 | n => n, fun | 15 => 0 | 16 => 1 | 17 => 2 | 18 => 3 | 19 => 4 | n => n⟩
theorem Tryz.laysC172 : Go.Proofs.LaysC.n172 Tryz.prog Tryz.laysC172_ren := {
  mixed := by kernel_rfl
  f129 := Tryz.func163.trans (congrArg some (by kernel_rfl))
  f171 := Tryz.func88.trans (congrArg some (by kernel_rfl))
  f172 := Tryz.func89.trans (congrArg some (by kernel_rfl))
  f205 := Tryz.func199.trans (congrArg some (by kernel_rfl))
  f243 := Tryz.func130.trans (congrArg some (by kernel_rfl))
  f244 := Tryz.func131.trans (congrArg some (by kernel_rfl))
  f245 := Tryz.func132.trans (congrArg some (by kernel_rfl))
  f246 := Tryz.func167.trans (congrArg some (by kernel_rfl))
  f247 := Tryz.func168.trans (congrArg some (by kernel_rfl))
  f279 := Tryz.func169.trans (congrArg some (by kernel_rfl))
  f280 := Tryz.func170.trans (congrArg some (by kernel_rfl))
  f281 := Tryz.func171.trans (congrArg some (by kernel_rfl))
  f282 := Tryz.func172.trans (congrArg some (by kernel_rfl))
  f283 := Tryz.func193.trans (congrArg some (by kernel_rfl))
  f284 := Tryz.func194.trans (congrArg some (by kernel_rfl))
  f285 := Tryz.func195.trans (congrArg some (by kernel_rfl))
  f286 := Tryz.func196.trans (congrArg some (by kernel_rfl))
  f287 := Tryz.func197.trans (congrArg some (by kernel_rfl))
  f316 := Tryz.func198.trans (congrArg some (by kernel_rfl))
  f317 := Tryz.func208.trans (congrArg some (by kernel_rfl))
  f318 := Tryz.func209.trans (congrArg some (by kernel_rfl))
  f319 := Tryz.func210.trans (congrArg some (by kernel_rfl))
  f320 := Tryz.func211.trans (congrArg some (by kernel_rfl))
  f321 := Tryz.func212.trans (congrArg some (by kernel_rfl))
  f322 := Tryz.func213.trans (congrArg some (by kernel_rfl))
  f337 := Tryz.func216.trans (congrArg some (by kernel_rfl))
  f338 := Tryz.func217.trans (congrArg some (by kernel_rfl))
  t0 := Tryz.underlying0
  a0 := Tryz.isAgg0
  z0 := Tryz.sizeOf0
  v0 := Tryz.zeroValue0
  t2 := Tryz.underlying2
  a2 := Tryz.isAgg2
  z2 := Tryz.sizeOf2
  v2 := Tryz.zeroValue2
  t3 := Tryz.underlying3
  a3 := Tryz.isAgg3
  z3 := Tryz.sizeOf3
  v3 := Tryz.zeroValue3
  t4 := Tryz.underlying4
  a4 := Tryz.isAgg4
  z4 := Tryz.sizeOf4
  v4 := Tryz.zeroValue4
  t5 := Tryz.underlying5
  a5 := Tryz.isAgg5
  z5 := Tryz.sizeOf5
  v5 := Tryz.zeroValue5
  t9 := Tryz.underlying9
  a9 := Tryz.isAgg9
  z9 := Tryz.sizeOf9
  v9 := Tryz.zeroValue9
  t20 := Tryz.underlying20
  a20 := Tryz.isAgg20
  z20 := Tryz.sizeOf20
  v20 := Tryz.zeroValue20
  t21 := Tryz.underlying21
  a21 := Tryz.isAgg21
  z21 := Tryz.sizeOf21
  v21 := Tryz.zeroValue21
  t37 := Tryz.underlying49
  a37 := Tryz.isAgg49
  z37 := Tryz.sizeOf49
  v37 := Tryz.zeroValue49
  t46 := Tryz.underlying114
  a46 := Tryz.isAgg114
  z46 := Tryz.sizeOf114
  v46 := Tryz.zeroValue114
  t51 := Tryz.underlying194
  a51 := Tryz.isAgg194
  z51 := Tryz.sizeOf194
  v51 := Tryz.zeroValue194
  t53 := Tryz.underlying60
  a53 := Tryz.isAgg60
  z53 := Tryz.sizeOf60
  v53 := Tryz.zeroValue60
  t75 := Tryz.underlying131
  a75 := Tryz.isAgg131
  z75 := Tryz.sizeOf131
  v75 := Tryz.zeroValue131
  t76 := Tryz.underlying132
  a76 := Tryz.isAgg132
  z76 := Tryz.sizeOf132
  v76 := Tryz.zeroValue132
  t85 := Tryz.underlying199
  a85 := Tryz.isAgg199
  z85 := Tryz.sizeOf199
  v85 := Tryz.zeroValue199
  t127 := Tryz.underlying151
  a127 := Tryz.isAgg151
  z127 := Tryz.sizeOf151
  v127 := Tryz.zeroValue151
  t143 := Tryz.underlying243
  a143 := Tryz.isAgg243
  z143 := Tryz.sizeOf243
  v143 := Tryz.zeroValue243
  t145 := Tryz.underlying245
  a145 := Tryz.isAgg245
  z145 := Tryz.sizeOf245
  v145 := Tryz.zeroValue245
  t167 := Tryz.underlying198
  a167 := Tryz.isAgg198
  z167 := Tryz.sizeOf198
  v167 := Tryz.zeroValue198
  t168 := Tryz.underlying201
  a168 := Tryz.isAgg201
  z168 := Tryz.sizeOf201
  v168 := Tryz.zeroValue201
  t171 := Tryz.underlying220
  a171 := Tryz.isAgg220
  z171 := Tryz.sizeOf220
  v171 := Tryz.zeroValue220
  t173 := Tryz.underlying222
  a173 := Tryz.isAgg222
  z173 := Tryz.sizeOf222
  v173 := Tryz.zeroValue222
  t175 := Tryz.underlying224
  a175 := Tryz.isAgg224
  z175 := Tryz.sizeOf224
  v175 := Tryz.zeroValue224
  t210 := Tryz.underlying228
  a210 := Tryz.isAgg228
  z210 := Tryz.sizeOf228
  v210 := Tryz.zeroValue228
  t212 := Tryz.underlying240
  a212 := Tryz.isAgg240
  z212 := Tryz.sizeOf240
  v212 := Tryz.zeroValue240
  t213 := Tryz.underlying241
  a213 := Tryz.isAgg241
  z213 := Tryz.sizeOf241
  t232 := Tryz.underlying250
  a232 := Tryz.isAgg250
  z232 := Tryz.sizeOf250
  v232 := Tryz.zeroValue250
  t233 := Tryz.underlying251
  a233 := Tryz.isAgg251
  z233 := Tryz.sizeOf251
  v233 := Tryz.zeroValue251
  g15 := by kernel_rfl
  g16 := by kernel_rfl
  g17 := by kernel_rfl
  g18 := by kernel_rfl
  g19 := by kernel_rfl
  t80 := Tryz.underlying92
  a80 := Tryz.isAgg92
  z80 := Tryz.sizeOf92
  v80 := Tryz.zeroValue92
  i0 := by kernel_rfl
  i2 := by kernel_rfl
  i3 := by kernel_rfl
  i4 := by kernel_rfl
  i5 := by kernel_rfl
  i9 := by kernel_rfl
  i20 := by kernel_rfl
  i21 := by kernel_rfl
  i37 := by kernel_rfl
  i46 := by kernel_rfl
  i51 := by kernel_rfl
  i53 := by kernel_rfl
  i75 := by kernel_rfl
  i76 := by kernel_rfl
  i80 := by kernel_rfl
  i85 := by kernel_rfl
  i127 := by kernel_rfl
  i143 := by kernel_rfl
  i145 := by kernel_rfl
  i167 := by kernel_rfl
  i168 := by kernel_rfl
  i171 := by kernel_rfl
  i173 := by kernel_rfl
  i175 := by kernel_rfl
  i210 := by kernel_rfl
  i212 := by kernel_rfl
  i232 := by kernel_rfl
  i233 := by kernel_rfl
  m15 := by kernel_rfl
  m16 := by kernel_rfl
  m17 := by kernel_rfl
  m18 := by kernel_rfl
  m19 := by kernel_rfl
  c0 := by kernel_rfl
  c2 := by kernel_rfl
  c3 := by kernel_rfl
  c4 := by kernel_rfl
  c5 := by kernel_rfl
  c9 := by kernel_rfl
  c20 := by kernel_rfl
  c21 := by kernel_rfl
  c37 := by kernel_rfl
  c46 := by kernel_rfl
  c51 := by kernel_rfl
  c53 := by kernel_rfl
  c75 := by kernel_rfl
  c76 := by kernel_rfl
  c80 := by kernel_rfl
  c85 := by kernel_rfl
  c127 := by kernel_rfl
  c143 := by kernel_rfl
  c145 := by kernel_rfl
  c167 := by kernel_rfl
  c168 := by kernel_rfl
  c171 := by kernel_rfl
  c173 := by kernel_rfl
  c175 := by kernel_rfl
  c210 := by kernel_rfl
  c212 := by kernel_rfl
  c213 := by kernel_rfl
  c232 := by kernel_rfl
  c233 := by kernel_rfl }
open Go.RowKit in
/-- strconv.Atoi, AT EVERY STRING THAT SPELLS AN int ('Lib.atoiAll .. = .ok v'; of whatever length: leading zeros count): v, AND NO ERROR. The world: as it was, or with the one new row that '[]byte(..)' lays. (LAID: no walk: one application.) -/
theorem Tryz.strconv_Atoi_ok (s : ByteArray) (hmax : s.size ≤ 9223372036854775806) (v : Int) (h : Lib.atoiAll s.data.toList = .ok v) (w : World) :
    Calls Tryz.prog 89 #[.string s] w fun e w' => e = .returned (.tuple #[.int .i64 v, .nilIface]) ∧ (w' = w ∨ ∃ t, w' = Lib.bytesWorld w 5 t) := Any.strconv_Atoi_ok Tryz.laysC172 s hmax v h w
open Go.RowKit in
/-- strconv.Atoi, AT EVERY STRING THAT IS NO DECIMAL NUMERAL ('.syntax'): 0, AND AN ERROR THAT IS NOT nil: a *NumError in a new block N: {Func: "Atoi", Num: s's bytes, Err: what the variable ErrSyntax holds}. Of what was there nothing has turned. (LAID: no walk: one application.) -/
theorem Tryz.strconv_Atoi_syntax (s : ByteArray) (hlim : s.size ≤ 281474976710656) (h : Lib.atoiAll s.data.toList = (Lib.atoiAll [])) (ev : Value) (w : World) (hv : w.cell? ⟨0, 0, none⟩ = some ev) (hev : ev = .nilIface ∨ ∃ te pe, ev = .iface te pe) :
    Calls Tryz.prog 89 #[.string s] w fun e w' => ∃ N, e = .returned (.tuple #[.int .i64 (0), .iface 201 (.pointer (some ⟨N, 0, none⟩))]) ∧ w.heap.size ≤ N ∧ w'.heap[N]? = some (.cells #[.string ⟨#[65, 116, 111, 105]⟩, .string s, ev] 228 (0, 0)) ∧ Below w.heap.size w w' := Any.strconv_Atoi_syntax Tryz.laysC172 s hlim h ev w hv hev
open Go.RowKit in
/-- strconv.Atoi, AT EVERY NUMERAL THAT NO int HOLDS ('.range'): THE GREATEST OR THE LEAST int, BY THE SIGN ('Lib.atoiSat'), AND AN ERROR THAT IS NOT nil: a *NumError in a new block N: {Func: "Atoi", Num: s's bytes, Err: what the variable ErrRange holds}. Of what was there nothing has turned. (LAID: no walk: one application.) -/
theorem Tryz.strconv_Atoi_range (s : ByteArray) (hlim : s.size ≤ 281474976710656) (h : Lib.atoiAll s.data.toList = .range) (ev : Value) (w : World) (hv : w.cell? ⟨1, 0, none⟩ = some ev) (hev : ev = .nilIface ∨ ∃ te pe, ev = .iface te pe) :
    Calls Tryz.prog 89 #[.string s] w fun e w' => ∃ N, e = .returned (.tuple #[.int .i64 (Lib.atoiSat s.data.toList), .iface 201 (.pointer (some ⟨N, 0, none⟩))]) ∧ w.heap.size ≤ N ∧ w'.heap[N]? = some (.cells #[.string ⟨#[65, 116, 111, 105]⟩, .string s, ev] 228 (0, 0)) ∧ Below w.heap.size w w' := Any.strconv_Atoi_range Tryz.laysC172 s hlim h ev w hv hev
end Go.Proofs

namespace Go.Proofs.YtfnhkfdjhmgjbaaGreatDoor
open Go Go.Ax Go.Proofs
set_option linter.unusedVariables false
set_option maxRecDepth 1000000
def saysTrue (r : AV) : Prop := match r with | .bool b => (match b with | true => True | false => False) | _ => False
theorem saysTrue_eq {r : AV} (h : saysTrue r) : r = .bool true := by
  unfold saysTrue at h
  split at h
  · split at h
    · rfl
    · exact h.elim
  · exact h.elim
/-- The variables that are read: 'strconv.ErrSyntax', 'strconv.ErrRange' and the table of powers of ten. -/
def gz : List (Nat × AV) := [(0, .ifc 243 (.ip (.agg []))), (1, .ifc 243 (.ip (.agg []))), (2, .agg ([.int .u64 1, .int .u64 10, .int .u64 100, .int .u64 1000, .int .u64 10000, .int .u64 100000, .int .u64 1000000, .int .u64 10000000, .int .u64 100000000, .int .u64 1000000000, .int .u64 10000000000, .int .u64 100000000000, .int .u64 1000000000000, .int .u64 10000000000000, .int .u64 100000000000000, .int .u64 1000000000000000, .int .u64 10000000000000000, .int .u64 100000000000000000, .int .u64 1000000000000000000, .int .u64 10000000000000000000]))]
theorem lives10 : ((fdeep Tryz.prog gz 60).call 21 [] [] 0 fun r _ _ => saysTrue r) = True := by kernel_rfl
end Go.Proofs.YtfnhkfdjhmgjbaaGreatDoor

namespace Go.Proofs.YtfnhkfdjhmgjbaaGreatDoor
open Go Go.Ax Go.Proofs
set_option linter.unusedVariables false
set_option maxRecDepth 100000
set_option maxHeartbeats 4000000

theorem nngz : ∀ p ∈ gz, NN p.2 := fun p hp => by
  simp only [gz, List.mem_cons, List.not_mem_nil, or_false] at hp
  rcases hp with rfl | rfl | rfl
  · exact nn
  · exact nn
  · exact nn

theorem sLen64 (u : Nat) (h : u < 18446744073709551616) : PureC Tryz.prog [] 163 [.int .u64 u] (.int .i64 (Lib.bitLen u)) :=
  pureC_of (fun _ _ _ _ _ h => vrl_int h) fun w _ => (Tryz.bits_Len64 u w (by omega) (by omega)).mono fun e w' ⟨h1, h2⟩ => ⟨_, h1, fun _ _ _ _ => .int _ _, by rw [h2]; exact .refl w⟩
theorem sLog10 (x : Nat) (h : x ≤ 64) : PureC Tryz.prog [] 208 [.int .i64 x] (.int .i64 (Lib.l10 x)) :=
  pureC_of (fun _ _ _ _ _ h => vrl_int h) fun w _ => (Tryz.internal_strconv_log10Pow2 x h w).mono fun e w' ⟨h1, h2⟩ => ⟨_, h1, fun _ _ _ _ => .int _ _, by rw [h2]; exact .refl w⟩
theorem sSmall (i : Nat) (h : i < 100) : PureC Tryz.prog [] 193 [.int .i64 i] (.str (Lib.decDigits i)) :=
  pureC_of (fun _ _ _ _ _ h => vrl_int h) fun w _ => (Tryz.internal_strconv_small i h w).mono fun e w' ⟨h1, h2⟩ => ⟨_, h1, fun _ _ _ _ => .str _, by rw [h2]; exact .refl w⟩
theorem sBool2 (b : Bool) : PureC Tryz.prog [] 209 [.bool b] (.int .i64 (if b then 1 else 0)) := by
  cases b
  all_goals
    refine acalls_go nnΓ Tryz.func209 rfl ?_
    ((conv => whnf); repeat ((first | refine AWp.many ?_ | refine AOps.many ?_ | refine ADr.go ?_); conv => whnf))
    exact fin_pure nn ⟨rfl, rfl, rfl⟩
theorem sFmt10 (t : TypeId) (xs : List UInt8) (u : Nat) (hu64 : u < 18446744073709551616) (hlen : 1 + Lib.nDigits u ≤ xs.length) (hxl : xs.length ≤ 1000) :
    ACalls Tryz.prog [] 195 [.sl 0 1 (Lib.nDigits u), .int .u64 u] [(0, .row t 1 (encB xs))] 1 fun r m n => r = .tup [] ∧ m = [(0, .row t 1 (encB (xs.take 1 ++ Lib.decDigits u ++ xs.drop (1 + Lib.nDigits u))))] :=
  fmt10 Tryz.internal_strconv_formatBase10 xs u hu64 hlen hxl

def tabP : List AV := [.int .u64 1, .int .u64 10, .int .u64 100, .int .u64 1000, .int .u64 10000, .int .u64 100000, .int .u64 1000000, .int .u64 10000000, .int .u64 100000000, .int .u64 1000000000, .int .u64 10000000000, .int .u64 100000000000, .int .u64 1000000000000, .int .u64 10000000000000, .int .u64 100000000000000, .int .u64 1000000000000000, .int .u64 10000000000000000, .int .u64 100000000000000000, .int .u64 1000000000000000000, .int .u64 10000000000000000000]
theorem tab_at (q : Nat) (h : q ≤ 19) : tabP[q]? = some (.int .u64 ((10 ^ q : Nat) : Int)) := by
  rcases (show q = 0 ∨ q = 1 ∨ q = 2 ∨ q = 3 ∨ q = 4 ∨ q = 5 ∨ q = 6 ∨ q = 7 ∨ q = 8 ∨ q = 9 ∨ q = 10 ∨ q = 11 ∨ q = 12 ∨ q = 13 ∨ q = 14 ∨ q = 15 ∨ q = 16 ∨ q = 17 ∨ q = 18 ∨ q = 19 by omega) with rfl | rfl | rfl | rfl | rfl | rfl | rfl | rfl | rfl | rfl | rfl | rfl | rfl | rfl | rfl | rfl | rfl | rfl | rfl | rfl <;> rfl

/-- 'numDigits'. -/
theorem sNumDigits (u : Nat) (h1 : 1 ≤ u) (h2 : u < 18446744073709551616) : PureC Tryz.prog gz 194 [.int .u64 u] (.int .i64 (Lib.nDigits u)) := by
  obtain ⟨e1, e2⟩ := Lib.numDigits_eq u h1 h2
  have hL := sLen64 u h2
  have hb : Lib.bitLen u ≤ 64 := Lib.bitLen_le u 64 (Nat.le_refl _) h2
  generalize Lib.bitLen u = L at *
  have hq := sLog10 L hb
  generalize Lib.l10 L = q at *
  generalize Lib.nDigits u = nd at *
  have htab := tab_at q e2
  refine acalls_go nngz Tryz.func194 rfl ?_
  ((conv => whnf); repeat ((first | refine AWp.many ?_ | refine AOps.many ?_ | refine ADr.go ?_); conv => whnf))
  refine hL.goG ?_
  ((conv => whnf); repeat ((first | refine AWp.many ?_ | refine AOps.many ?_ | refine ADr.go ?_); conv => whnf))
  refine hq.goG ?_
  ((conv => whnf); repeat ((first | refine AWp.many ?_ | refine AOps.many ?_ | refine ADr.go ?_); conv => whnf))
  refine grd_mk (b := Nat.blt q 20) (Nat.ble_eq_true_of_le (by omega)) ?_
  ((conv => whnf); repeat ((first | refine AWp.many ?_ | refine AOps.many ?_ | refine ADr.go ?_); conv => whnf))
  have htab' : tabP[((q : Int)).toNat * 1]? = some (.int .u64 ((10 ^ q : Nat) : Int)) := by simpa using htab
  clear htab
  have hpq : ∃ pq : Int, pq = ((10 ^ q : Nat) : Int) := ⟨_, rfl⟩
  obtain ⟨pq, hpq⟩ := hpq
  rw [← hpq] at htab'
  refine opt_mk htab' ?_
  ((conv => whnf); repeat ((first | refine AWp.many ?_ | refine AOps.many ?_ | refine ADr.go ?_); conv => whnf))
  refine (sBool2 _).goG ?_
  ((conv => whnf); repeat ((first | refine AWp.many ?_ | refine AOps.many ?_ | refine ADr.go ?_); conv => whnf))
  refine fin_pure nn ⟨?_, rfl, rfl⟩
  congr 1
  have hle : decide ((u : Int) ≥ pq) = decide (10 ^ q ≤ u) := by rw [hpq]; simp only [ge_iff_le, Int.ofNat_le]
  have hnd : nd ≤ 20 := by rw [← e1]; split <;> omega
  rw [hle, w64 (y := (nd : Int)) _ ⟨by omega, by omega⟩]
  rw [← e1]
  by_cases hc : 10 ^ q ≤ u <;> simp [hc]

theorem nDigits_le (u : Nat) (h2 : u < 18446744073709551616) : Lib.nDigits u ≤ 20 := by
  by_cases h1 : 1 ≤ u
  · obtain ⟨e1, e2⟩ := Lib.numDigits_eq u h1 h2
    rw [← e1]
    split <;> omega
  · rw [Lib.nDigits_small (by omega)]; omega
theorem u64_wrap (n : Int) : IntKind.u64.wrap n = n % 18446744073709551616 := by
  simp [IntKind.wrap, IntKind.bits, IntKind.signed]

/-- 'FormatInt(i, 10)'. -/
theorem sFormatInt (n : Int) (hn : i64 n) : PureC Tryz.prog gz 167 [.int .i64 n, .int .i64 10] (.str (Lib.itoa n)) := by
  rcases (show (0 ≤ n ∧ n < 100) ∨ 100 ≤ n ∨ n < 0 by omega) with ⟨h0, h1⟩ | h1 | h1
  · obtain ⟨i, rfl⟩ : ∃ i : Nat, n = i := ⟨n.toNat, by omega⟩
    have d2 : decide ((i : Int) < 100) = true := by simpa using h1
    refine acalls_go nngz Tryz.func167 rfl ?_
    ((conv => whnf); repeat ((first | refine AWp.many ?_ | refine AOps.many ?_ | refine ADr.go ?_); conv => whnf))
    rw [d2]
    ((conv => whnf); repeat ((first | refine AWp.many ?_ | refine AOps.many ?_ | refine ADr.go ?_); conv => whnf))
    refine (sSmall i (by omega)).goG ?_
    ((conv => whnf); repeat ((first | refine AWp.many ?_ | refine AOps.many ?_ | refine ADr.go ?_); conv => whnf))
    refine fin_pure nn ⟨?_, rfl, rfl⟩
    rw [Lib.itoa_nonneg]
  · obtain ⟨u, rfl⟩ : ∃ i : Nat, n = i := ⟨n.toNat, by omega⟩
    have d2 : decide ((u : Int) < 100) = false := by simp; omega
    have d3 : decide ((u : Int) < 0) = false := by simp
    unfold i64 at hn
    have hw : IntKind.u64.wrap (u : Int) = (u : Int) := by rw [u64_wrap]; omega
    have hu64 : u < 18446744073709551616 := by omega
    have hnd := nDigits_le u hu64
    have hF := (sFmt10 220 (List.replicate 24 0) u hu64 (by simp; omega) (by simp)).glob (Γ := gz)
    have hdl := Lib.decDigits_length u
    have hN := sNumDigits u (by omega) hu64
    have hdd : (Lib.decDigits u ++ List.drop (1 + Lib.nDigits u) (List.replicate 24 0)).length = 23 := by simp [hdl]; omega
    have hit := Lib.itoa_nonneg u
    generalize Lib.nDigits u = nd at hN hF hnd hdl hdd
    generalize Lib.decDigits u = ds at hF hdl hit hdd
    refine acalls_go nngz Tryz.func167 rfl ?_
    ((conv => whnf); repeat ((first | refine AWp.many ?_ | refine AOps.many ?_ | refine ADr.go ?_); conv => whnf))
    rw [d2]
    ((conv => whnf); repeat ((first | refine AWp.many ?_ | refine AOps.many ?_ | refine ADr.go ?_); conv => whnf))
    rw [hw]
    refine hN.use nngz nns nn ?_
    ((conv => whnf); repeat ((first | refine AWp.many ?_ | refine AOps.many ?_ | refine ADr.go ?_); conv => whnf))
    rw [w64 (x := 1 + (nd : Int)) (y := ((1 + nd : Nat) : Int)) (by omega) ⟨by omega, by omega⟩]
    ((conv => whnf); repeat ((first | refine AWp.many ?_ | refine AOps.many ?_ | refine ADr.go ?_); conv => whnf))
    refine grd_mk (sl_ok (by simp; omega) (by simp; omega) (by simp)) ?_
    ((conv => whnf); repeat ((first | refine AWp.many ?_ | refine AOps.many ?_ | refine ADr.go ?_); conv => whnf))
    refine ACalls.useI nngz [0] hF (by rfl) (.cons (.slE rfl (by simp; omega)) (.cons (.same _ nn) .nil)) ⟨⟨0, _, rfl, rfl, .same (encB_nn _)⟩, trivial⟩ rfl ?_
    rintro r m n' ⟨rfl, rfl⟩
    refine ⟨nn, ⟨⟨0, _, rfl, rfl, .same (encB_nn _)⟩, trivial⟩, rfl, ?_⟩
    have hlist : List.take 1 (List.replicate 24 (0 : UInt8)) ++ ds ++ List.drop (1 + nd) (List.replicate 24 0) = 0 :: (ds ++ List.drop (1 + nd) (List.replicate 24 0)) := rfl
    rw [hlist]
    have htk : List.take nd (ds ++ List.drop (1 + nd) (List.replicate 24 0)) = ds := by rw [List.take_append_of_le_length (by omega), List.take_of_length_le (by omega)]
    generalize ds ++ List.drop (1 + nd) (List.replicate 24 0) = rest at hdd htk
    have hrl : (encB (0 :: rest)).length = 24 := by rw [encB_length]; simp [hdd]
    ((conv => whnf); repeat ((first | refine AWp.many ?_ | refine AOps.many ?_ | refine ADr.go ?_); conv => whnf))
    refine grd_mk (by rw [Bool.and_eq_true]; exact ⟨rfl, Nat.ble_eq_true_of_le (by rw [hrl]; omega)⟩) ?_
    ((conv => whnf); repeat ((first | refine AWp.many ?_ | refine AOps.many ?_ | refine ADr.go ?_); conv => whnf))
    rw [w64 (x := 1 + (nd : Int)) (y := ((1 + nd : Nat) : Int)) (by omega) ⟨by omega, by omega⟩]
    ((conv => whnf); repeat ((first | refine AWp.many ?_ | refine AOps.many ?_ | refine ADr.go ?_); conv => whnf))
    refine grd_mk (sl_ok (by simp; omega) (by simp; omega) (by simp)) ?_
    ((conv => whnf); repeat ((first | refine AWp.many ?_ | refine AOps.many ?_ | refine ADr.go ?_); conv => whnf))
    refine grd_mk (Nat.ble_eq_true_of_le (by rw [hrl]; simp; omega)) ?_
    refine opt_mk (a := ds) ?_ ?_
    · rw [encB_drop, encB_take, toBytes_encB]
      show some (List.take ((((1 + nd : Nat) : Int)).toNat - 1) rest) = some ds
      rw [← htk]
      congr 2
      simp
      omega
    ((conv => whnf); repeat ((first | refine AWp.many ?_ | refine AOps.many ?_ | refine ADr.go ?_); conv => whnf))
    refine fin_pure nn ⟨?_, rfl, rfl⟩
    rw [hit]
  · obtain ⟨u, rfl⟩ : ∃ i : Nat, n = -(i : Int) := ⟨(-n).toNat, by omega⟩
    have d1 : decide (0 ≤ -(u : Int)) = false := by simp; omega
    have d3 : decide (-(u : Int) < 0) = true := by simp; omega
    unfold i64 at hn
    have hw : IntKind.u64.wrap (0 - IntKind.u64.wrap (-(u : Int))) = (u : Int) := by rw [u64_wrap, u64_wrap]; omega
    have hu64 : u < 18446744073709551616 := by omega
    have hnd := nDigits_le u hu64
    have hF := (sFmt10 220 (List.replicate 24 0) u hu64 (by simp; omega) (by simp)).glob (Γ := gz)
    have hdl := Lib.decDigits_length u
    have hN := sNumDigits u (by omega) hu64
    have hdd : (Lib.decDigits u ++ List.drop (1 + Lib.nDigits u) (List.replicate 24 0)).length = 23 := by simp [hdl]; omega
    have hit := Lib.itoa_neg u (by omega)
    generalize Lib.nDigits u = nd at hN hF hnd hdl hdd
    generalize Lib.decDigits u = ds at hF hdl hit hdd
    refine acalls_go nngz Tryz.func167 rfl ?_
    ((conv => whnf); repeat ((first | refine AWp.many ?_ | refine AOps.many ?_ | refine ADr.go ?_); conv => whnf))
    rw [d1]
    ((conv => whnf); repeat ((first | refine AWp.many ?_ | refine AOps.many ?_ | refine ADr.go ?_); conv => whnf))
    rw [d3]
    ((conv => whnf); repeat ((first | refine AWp.many ?_ | refine AOps.many ?_ | refine ADr.go ?_); conv => whnf))
    rw [hw]
    refine hN.use nngz nns nn ?_
    ((conv => whnf); repeat ((first | refine AWp.many ?_ | refine AOps.many ?_ | refine ADr.go ?_); conv => whnf))
    rw [w64 (x := 1 + (nd : Int)) (y := ((1 + nd : Nat) : Int)) (by omega) ⟨by omega, by omega⟩]
    ((conv => whnf); repeat ((first | refine AWp.many ?_ | refine AOps.many ?_ | refine ADr.go ?_); conv => whnf))
    refine grd_mk (sl_ok (by simp; omega) (by simp; omega) (by simp)) ?_
    ((conv => whnf); repeat ((first | refine AWp.many ?_ | refine AOps.many ?_ | refine ADr.go ?_); conv => whnf))
    refine ACalls.useI nngz [0] hF (by rfl) (.cons (.slE rfl (by simp; omega)) (.cons (.same _ nn) .nil)) ⟨⟨0, _, rfl, rfl, .same (encB_nn _)⟩, trivial⟩ rfl ?_
    rintro r m n' ⟨rfl, rfl⟩
    refine ⟨nn, ⟨⟨0, _, rfl, rfl, .same (encB_nn _)⟩, trivial⟩, rfl, ?_⟩
    have hlist : List.take 1 (List.replicate 24 (0 : UInt8)) ++ ds ++ List.drop (1 + nd) (List.replicate 24 0) = 0 :: (ds ++ List.drop (1 + nd) (List.replicate 24 0)) := rfl
    rw [hlist]
    have htk : List.take nd (ds ++ List.drop (1 + nd) (List.replicate 24 0)) = ds := by rw [List.take_append_of_le_length (by omega), List.take_of_length_le (by omega)]
    generalize ds ++ List.drop (1 + nd) (List.replicate 24 0) = rest at hdd htk
    have hrl : ∀ b, (encB (b :: rest)).length = 24 := fun b => by rw [encB_length]; simp [hdd]
    ((conv => whnf); repeat ((first | refine AWp.many ?_ | refine AOps.many ?_ | refine ADr.go ?_); conv => whnf))
    rw [d3]
    ((conv => whnf); repeat ((first | refine AWp.many ?_ | refine AOps.many ?_ | refine ADr.go ?_); conv => whnf))
    refine grd_mk (by rw [Bool.and_eq_true]; exact ⟨rfl, Nat.ble_eq_true_of_le (Nat.le_of_eq (hrl 45).symm)⟩) ?_
    ((conv => whnf); repeat ((first | refine AWp.many ?_ | refine AOps.many ?_ | refine ADr.go ?_); conv => whnf))
    rw [w64 (x := 1 + (nd : Int)) (y := ((1 + nd : Nat) : Int)) (by omega) ⟨by omega, by omega⟩]
    ((conv => whnf); repeat ((first | refine AWp.many ?_ | refine AOps.many ?_ | refine ADr.go ?_); conv => whnf))
    refine grd_mk (sl_ok (by simp) (by simp; omega) (by simp)) ?_
    ((conv => whnf); repeat ((first | refine AWp.many ?_ | refine AOps.many ?_ | refine ADr.go ?_); conv => whnf))
    refine grd_mk (Nat.ble_eq_true_of_le (show _ ≤ (encB (45 :: rest)).length by rw [hrl]; simp; omega)) ?_
    refine opt_mk (a := 45 :: ds) (show toBytes (List.take ((((1 + nd : Nat) : Int)).toNat - 0) (List.drop (0 + 0) (encB (45 :: rest)))) = _ from ?_) ?_
    · rw [encB_drop, encB_take, toBytes_encB]
      have e : (((1 + nd : Nat) : Int)).toNat - 0 = nd + 1 := by simp; omega
      rw [e]
      show some (45 :: List.take nd rest) = _
      rw [htk]
    ((conv => whnf); repeat ((first | refine AWp.many ?_ | refine AOps.many ?_ | refine ADr.go ?_); conv => whnf))
    refine fin_pure nn ⟨?_, rfl, rfl⟩
    rw [hit]

theorem sItoaI (n : Int) (hn : i64 n) : PureC Tryz.prog gz 130 [.int .i64 n] (.str (Lib.itoa n)) := by
  have h := sFormatInt n hn
  generalize Lib.itoa n = r at h
  refine acalls_go nngz Tryz.func130 rfl ?_
  ((conv => whnf); repeat ((first | refine AWp.many ?_ | refine AOps.many ?_ | refine ADr.go ?_); conv => whnf))
  refine h.use nngz nns nn ?_
  ((conv => whnf); repeat ((first | refine AWp.many ?_ | refine AOps.many ?_ | refine ADr.go ?_); conv => whnf))
  exact fin_pure nn ⟨rfl, rfl, rfl⟩
/-- 'strconv.Itoa'. -/
theorem sItoa (n : Int) (hn : i64 n) : PureC Tryz.prog gz 88 [.int .i64 n] (.str (Lib.itoa n)) := by
  have h := sItoaI n hn
  generalize Lib.itoa n = r at h
  refine acalls_go nngz Tryz.func88 rfl ?_
  ((conv => whnf); repeat ((first | refine AWp.many ?_ | refine AOps.many ?_ | refine ADr.go ?_); conv => whnf))
  refine h.use nngz nns nn ?_
  ((conv => whnf); repeat ((first | refine AWp.many ?_ | refine AOps.many ?_ | refine ADr.go ?_); conv => whnf))
  exact fin_pure nn ⟨rfl, rfl, rfl⟩

/-- 'strconv.Atoi'. -/
theorem knows_err {g : Nat} {t : TypeId} {v : AV} {w : World} (h : Knows gz w) (hg : (g, AV.ifc t v) ∈ gz) : ∃ ev, w.cell? ⟨g, 0, none⟩ = some ev ∧ (ev = .nilIface ∨ ∃ te pe, ev = .iface te pe) := by
  obtain ⟨x, ρ, D, O, h1, h2⟩ := h _ hg 0 (.ifc t v) rfl
  cases h2 with
  | ifc _ _ y hy => exact ⟨_, h1, .inr ⟨_, _, rfl⟩⟩
theorem sAtoi (s : List UInt8) (hs : s.length ≤ 4294967296) :
    ∃ (n : Int) (e : AV), i64 n ∧ (e = .nif ∨ e = .ifc 201 .junk) ∧ PureC Tryz.prog gz 89 [.str s] (.tup [.int .i64 n, e]) ∧ (∀ m, Lib.atoiAll s = .ok m → n = m ∧ e = .nif) := by
  have hsz : (⟨s.toArray⟩ : ByteArray).size = s.length := by simp [ByteArray.size]
  have hd : (⟨s.toArray⟩ : ByteArray).data.toList = s := by simp
  cases h : Lib.atoiAll s with
  | ok v =>
    refine ⟨v, .nif, Lib.atoiAll_bounds h, .inl rfl, pureC_of (fun _ _ _ _ _ h => vrl_str h) fun w _ => ?_, fun m hm => ⟨by injection hm, rfl⟩⟩
    refine (Tryz.strconv_Atoi_ok ⟨s.toArray⟩ (by rw [hsz]; omega) v (by rw [hd]; exact h) w).mono ?_
    rintro e w' ⟨rfl, hw⟩
    refine ⟨_, rfl, fun _ _ _ _ => .tup _ _ rfl fun j c x h1 h2 => ?_, ?_⟩
    · match j, h1, h2 with
      | 0, h1, h2 => simp at h1 h2; subst h1 h2; exact .int _ _
      | 1, h1, h2 => simp at h1 h2; subst h1 h2; exact .nif
      | j + 2, h1, h2 => simp at h1
    · rcases hw with rfl | ⟨t, rfl⟩
      · exact .refl _
      · exact grown_bytes _ _ _
  | range =>
    refine ⟨Lib.atoiSat s, .ifc 201 .junk, Lib.atoiSat_bounds s, .inr rfl, pureC_of (fun _ _ _ _ _ h => vrl_str h) fun w hk => ?_, fun m hm => by cases hm⟩
    obtain ⟨ev, h1, h2⟩ := knows_err (g := 1) hk (.tail _ (.head _))
    have hc := Tryz.strconv_Atoi_range ⟨s.toArray⟩ (by rw [hsz]; omega) (by rw [hd]; exact h) ev w h1 h2
    rw [hd] at hc
    refine hc.mono ?_
    rintro e w' ⟨N, rfl, -, -, hb⟩
    refine ⟨_, rfl, fun _ _ _ _ => .tup _ _ rfl fun j c x h1 h2 => ?_, grown_below hb⟩
    match j, h1, h2 with
    | 0, h1, h2 => simp at h1 h2; subst h1 h2; exact .int _ _
    | 1, h1, h2 => simp at h1 h2; subst h1 h2; exact .ifc _ _ _ (.junk _)
    | j + 2, h1, h2 => simp at h1
  | _ =>
    refine ⟨0, .ifc 201 .junk, ⟨by omega, by omega⟩, .inr rfl, pureC_of (fun _ _ _ _ _ h => vrl_str h) fun w hk => ?_, fun m hm => by cases hm⟩
    obtain ⟨ev, h1, h2⟩ := knows_err (g := 0) hk (.head _)
    refine (Tryz.strconv_Atoi_syntax ⟨s.toArray⟩ (by rw [hsz]; omega) (by rw [hd]; exact h) ev w h1 h2).mono ?_
    rintro e w' ⟨N, rfl, -, -, hb⟩
    refine ⟨_, rfl, fun _ _ _ _ => .tup _ _ rfl fun j c x h1 h2 => ?_, grown_below hb⟩
    match j, h1, h2 with
    | 0, h1, h2 => simp at h1 h2; subst h1 h2; exact .int _ _
    | 1, h1, h2 => simp at h1 h2; subst h1 h2; exact .ifc _ _ _ (.junk _)
    | j + 2, h1, h2 => simp at h1
end Go.Proofs.YtfnhkfdjhmgjbaaGreatDoor

namespace Go.Proofs.YtfnhkfdjhmgjbaaGreatDoor
open Go Go.Ax Go.Proofs
set_option linter.unusedVariables false
set_option maxRecDepth 100000
set_option maxHeartbeats 4000000

/-- 'refuterref10.Size'. -/
theorem rSize : ∀ v : Val, sizeV v ≤ 1099511627776 → PureC Tryz.prog [] 58 [encV v] (.int .i64 (sizeV v))
  | .mk vk vn vs ks, hs => by
    have hs' : sizeL ks + 1 ≤ 1099511627776 := by simp only [sizeV] at hs; omega
    have ih : ∀ a ∈ ks, PureC Tryz.prog [] 58 [encV a] (.int .i64 (sizeV a)) := fun a hm => rSize a (by have := sizeV_mem hm; omega)
    have hl := sizeL_len ks
    refine acalls_go nnΓ Tryz.func58 rfl ?_
    ((conv => whnf); repeat ((first | refine AWp.many ?_ | refine AOps.many ?_ | refine ADr.go ?_); conv => whnf))
    refine ALoop.at nnΓ (fun k : Nat => k ≤ ks.length)
      (fun k => ⟨[(1, .ptr 0 0 0), (3, .int .i64 (1 + sizeL (ks.take k) : Nat)), (4, .int .i64 k)], [(0, .row 33 4 [encV (.mk vk vn vs ks)])], 1, 21⟩)
      (fun k => ks.length - k) 0 [(0, 0)] (by simp)
      (conv_mk _ rfl ⟨⟨0, _, rfl, rfl, .same nns⟩, trivial⟩ ⟨⟨_, rfl, .ptr 0 0 0 0 rfl⟩, ⟨_, rfl, .same _ nn⟩, ⟨_, rfl, .same _ nn⟩, trivial⟩) ?_
    intro k hk
    ((conv => whnf); repeat ((first | refine AWp.many ?_ | refine AOps.many ?_ | refine ADr.go ?_); conv => whnf))
    refine bcs_mk (fun h => ?_) (fun h => ?_)
    · have hlt := klt h
      obtain ⟨a, b, c, d, hm, hg, he, e1⟩ := enc_cases hlt
      have hsz := sizeL_take hlt
      have hle := sizeL_take_le ks (k + 1)
      rw [he] at hsz
      ((conv => whnf); repeat ((first | refine AWp.many ?_ | refine AOps.many ?_ | refine ADr.go ?_); conv => whnf))
      refine opt_mk e1 ?_
      ((conv => whnf); repeat ((first | refine AWp.many ?_ | refine AOps.many ?_ | refine ADr.go ?_); conv => whnf))
      refine (ih _ hm).go ?_
      ((conv => whnf); repeat ((first | refine AWp.many ?_ | refine AOps.many ?_ | refine ADr.go ?_); conv => whnf))
      exact .mk (k + 1) [(0, 0)] (by omega) (conv_mk _ rfl ⟨⟨0, _, rfl, rfl, .same nns⟩, trivial⟩ ⟨⟨_, rfl, .ptr 0 0 0 0 rfl⟩, ⟨_, rfl, .w64 (by omega) ⟨by omega, by omega⟩⟩, ⟨_, rfl, .w64 (by omega) ⟨by omega, by omega⟩⟩, trivial⟩) (by omega)
    · have hk' : k = ks.length := by have := kge h; omega
      ((conv => whnf); repeat ((first | refine AWp.many ?_ | refine AOps.many ?_ | refine ADr.go ?_); conv => whnf))
      refine fin_pure nn ⟨?_, rfl, rfl⟩
      rw [hk', List.take_length, sizeV]
  termination_by v => SizeOf.sizeOf v
  decreasing_by simp; have := List.sizeOf_lt_of_mem hm; omega

theorem vInName (c : Int) : PureC Tryz.prog [] 145 [.int .u8 c] (.bool (inNm c)) := by
  refine acalls_go nnΓ Tryz.func145 rfl ?_
  ((conv => whnf); repeat ((first | refine AWp.many ?_ | refine AOps.many ?_ | refine ADr.go ?_); conv => whnf))
  repeat' (refine bcs_mk (fun h => ?_) (fun h => ?_) <;> ((try rw [h]); ((conv => whnf); repeat ((first | refine AWp.many ?_ | refine AOps.many ?_ | refine ADr.go ?_); conv => whnf))))
  all_goals
    refine fin_pure nn ⟨?_, rfl, rfl⟩
    congr 1
    rw [Bool.eq_iff_iff]
    simp [inNm] at *
    try omega

/-- 'refuterref10.Capital'. -/
theorem rCapital (s : List UInt8) (hs : s.length ≤ 4294967296) : PureC Tryz.prog [] 101 [.str s] (.bool (capital s)) := by
  refine acalls_go nnΓ Tryz.func101 rfl ?_
  ((conv => whnf); repeat ((first | refine AWp.many ?_ | refine AOps.many ?_ | refine ADr.go ?_); conv => whnf))
  refine bcs_mk (fun h => ?_) (fun h => ?_)
  · rw [h]
    ((conv => whnf); repeat ((first | refine AWp.many ?_ | refine AOps.many ?_ | refine ADr.go ?_); conv => whnf))
    refine fin_pure nn ⟨?_, rfl, rfl⟩
    rw [capital_nil (by simp at h; omega)]
  have h1 : 1 ≤ s.length := by simp at h; omega
  rw [h]
  ((conv => whnf); repeat ((first | refine AWp.many ?_ | refine AOps.many ?_ | refine ADr.go ?_); conv => whnf))
  refine bcs_mk (fun h => ?_) (fun h => ?_)
  · rw [h]
    ((conv => whnf); repeat ((first | refine AWp.many ?_ | refine AOps.many ?_ | refine ADr.go ?_); conv => whnf))
    refine fin_pure nn ⟨?_, rfl, rfl⟩
    rw [capital_long (by simp at h; omega)]
  have h2 : s.length ≤ 16 := by simp at h; omega
  rw [h]
  obtain ⟨a, ha⟩ : ∃ a, s[0]? = some a := ⟨s[0], by simp⟩
  ((conv => whnf); repeat ((first | refine AWp.many ?_ | refine AOps.many ?_ | refine ADr.go ?_); conv => whnf))
  refine opt_mk ha ?_
  ((conv => whnf); repeat ((first | refine AWp.many ?_ | refine AOps.many ?_ | refine ADr.go ?_); conv => whnf))
  refine bcs_mk (fun h => ?_) (fun h => ?_)
  · rw [h]
    ((conv => whnf); repeat ((first | refine AWp.many ?_ | refine AOps.many ?_ | refine ADr.go ?_); conv => whnf))
    refine fin_pure nn ⟨?_, rfl, rfl⟩
    rw [capital_up ha (by simp [upper] at *; omega)]
  have h3 : 65 ≤ (a.toNat : Int) := by simpa using h
  rw [h]
  ((conv => whnf); repeat ((first | refine AWp.many ?_ | refine AOps.many ?_ | refine ADr.go ?_); conv => whnf))
  refine opt_mk ha ?_
  ((conv => whnf); repeat ((first | refine AWp.many ?_ | refine AOps.many ?_ | refine ADr.go ?_); conv => whnf))
  refine bcs_mk (fun h => ?_) (fun h => ?_)
  · ((conv => whnf); repeat ((first | refine AWp.many ?_ | refine AOps.many ?_ | refine ADr.go ?_); conv => whnf))
    refine fin_pure nn ⟨?_, rfl, rfl⟩
    rw [capital_up ha (by simp [upper] at *; omega)]
  have h4 : (a.toNat : Int) ≤ 90 := by simpa using h
  ((conv => whnf); repeat ((first | refine AWp.many ?_ | refine AOps.many ?_ | refine ADr.go ?_); conv => whnf))
  refine ALoop.at nnΓ (fun i : Nat => i ≤ s.length ∧ ∀ j c, j < i → s[j]? = some c → inNm c.toNat = true)
    (fun i => ⟨[(0, .str s), (3, .int .i64 i)], [], 0, 64⟩) (fun i => s.length - i) 0 [] ⟨by simp, by simp⟩
    (conv_pure ⟨⟨_, rfl, .same _ nn⟩, ⟨_, rfl, .same _ nn⟩, trivial⟩) ?_
  rintro i ⟨hi, hall⟩
  ((conv => whnf); repeat ((first | refine AWp.many ?_ | refine AOps.many ?_ | refine ADr.go ?_); conv => whnf))
  refine bcs_mk (fun h => ?_) (fun h => ?_)
  · have hlt : i < s.length := by simpa using h
    obtain ⟨c, hc⟩ : ∃ c, s[i]? = some c := ⟨s[i], by simp [hlt]⟩
    have hc' : s[(i : Int).toNat]? = some c := by rw [Int.toNat_natCast]; exact hc
    ((conv => whnf); repeat ((first | refine AWp.many ?_ | refine AOps.many ?_ | refine ADr.go ?_); conv => whnf))
    refine opt_mk hc' ?_
    ((conv => whnf); repeat ((first | refine AWp.many ?_ | refine AOps.many ?_ | refine ADr.go ?_); conv => whnf))
    repeat' (refine bcs_mk (fun h => ?_) (fun h => ?_) <;> ((try rw [h]); ((conv => whnf); repeat ((first | refine AWp.many ?_ | refine AOps.many ?_ | refine ADr.go ?_); conv => whnf))))
    all_goals first
      | (refine fin_pure nn ⟨?_, rfl, rfl⟩
         rw [capital_in hc (by rw [Bool.eq_false_iff]; simp [inNm] at *; omega)])
      | (refine .mk (i + 1) [] ⟨by omega, fun j c2 hj hc2 => ?_⟩ (conv_pure ⟨⟨_, rfl, .same _ nn⟩, ⟨_, rfl, .w64 (by omega) ⟨by omega, by omega⟩⟩, trivial⟩) (by omega)
         rcases Nat.lt_or_ge j i with hj' | hj'
         · exact hall j c2 hj' hc2
         · have hji : j = i := by omega
           rw [hji, hc] at hc2
           cases hc2
           simp [inNm] at *
           omega)
  · ((conv => whnf); repeat ((first | refine AWp.many ?_ | refine AOps.many ?_ | refine ADr.go ?_); conv => whnf))
    refine fin_pure nn ⟨?_, rfl, rfl⟩
    have hk : i = s.length := by simp at h; omega
    rw [capital_of ha h2 (by simp [upper]; omega) fun j c hc => hall j c (by rw [hk]; exact (List.getElem?_eq_some_iff.1 hc).1) hc]

/-- 'values.capital'. -/
theorem vCapital (s : List UInt8) (hs : s.length ≤ 4294967296) : PureC Tryz.prog [] 105 [.str s] (.bool (capital s)) := by
  refine acalls_go nnΓ Tryz.func105 rfl ?_
  ((conv => whnf); repeat ((first | refine AWp.many ?_ | refine AOps.many ?_ | refine ADr.go ?_); conv => whnf))
  refine bcs_mk (fun h => ?_) (fun h => ?_)
  · rw [h]
    ((conv => whnf); repeat ((first | refine AWp.many ?_ | refine AOps.many ?_ | refine ADr.go ?_); conv => whnf))
    refine fin_pure nn ⟨?_, rfl, rfl⟩
    rw [capital_nil (by simp at h; rw [h]; simp)]
  have h1 : 1 ≤ s.length := by
    rcases Nat.eq_zero_or_pos s.length with h' | h'
    · rw [List.eq_nil_of_length_eq_zero h'] at h; simp at h
    · exact h'
  rw [h]
  ((conv => whnf); repeat ((first | refine AWp.many ?_ | refine AOps.many ?_ | refine ADr.go ?_); conv => whnf))
  refine bcs_mk (fun h => ?_) (fun h => ?_)
  · rw [h]
    ((conv => whnf); repeat ((first | refine AWp.many ?_ | refine AOps.many ?_ | refine ADr.go ?_); conv => whnf))
    refine fin_pure nn ⟨?_, rfl, rfl⟩
    rw [capital_long (by simp at h; omega)]
  have h2 : s.length ≤ 16 := by simp at h; omega
  rw [h]
  obtain ⟨a, ha⟩ : ∃ a, s[0]? = some a := ⟨s[0], by simp⟩
  ((conv => whnf); repeat ((first | refine AWp.many ?_ | refine AOps.many ?_ | refine ADr.go ?_); conv => whnf))
  refine opt_mk ha ?_
  ((conv => whnf); repeat ((first | refine AWp.many ?_ | refine AOps.many ?_ | refine ADr.go ?_); conv => whnf))
  refine bcs_mk (fun h => ?_) (fun h => ?_)
  · rw [h]
    ((conv => whnf); repeat ((first | refine AWp.many ?_ | refine AOps.many ?_ | refine ADr.go ?_); conv => whnf))
    refine fin_pure nn ⟨?_, rfl, rfl⟩
    rw [capital_up ha (by simp [upper] at *; omega)]
  have h3 : 65 ≤ (a.toNat : Int) := by simpa using h
  rw [h]
  ((conv => whnf); repeat ((first | refine AWp.many ?_ | refine AOps.many ?_ | refine ADr.go ?_); conv => whnf))
  refine opt_mk ha ?_
  ((conv => whnf); repeat ((first | refine AWp.many ?_ | refine AOps.many ?_ | refine ADr.go ?_); conv => whnf))
  refine bcs_mk (fun h => ?_) (fun h => ?_)
  · ((conv => whnf); repeat ((first | refine AWp.many ?_ | refine AOps.many ?_ | refine ADr.go ?_); conv => whnf))
    refine fin_pure nn ⟨?_, rfl, rfl⟩
    rw [capital_up ha (by simp [upper] at *; omega)]
  have h4 : (a.toNat : Int) ≤ 90 := by simpa using h
  have hua : upper a.toNat = true := by simp [upper]; omega
  ((conv => whnf); repeat ((first | refine AWp.many ?_ | refine AOps.many ?_ | refine ADr.go ?_); conv => whnf))
  refine ALoop.at nnΓ (fun i : Nat => 1 ≤ i ∧ i ≤ s.length ∧ ∀ j c, j < i → s[j]? = some c → inNm c.toNat = true)
    (fun i => ⟨[(0, .str s), (3, .int .i64 i)], [], 0, 32⟩) (fun i => s.length - i) 1 [] ⟨by simp, h1, fun j c hj hc => by rw [show j = 0 by omega, ha] at hc; cases hc; exact upper_in hua⟩
    (conv_pure ⟨⟨_, rfl, .same _ nn⟩, ⟨_, rfl, .same _ nn⟩, trivial⟩) ?_
  rintro i ⟨h0, hi, hall⟩
  ((conv => whnf); repeat ((first | refine AWp.many ?_ | refine AOps.many ?_ | refine ADr.go ?_); conv => whnf))
  refine bcs_mk (fun h => ?_) (fun h => ?_)
  · have hlt : i < s.length := by simpa using h
    obtain ⟨c, hc⟩ : ∃ c, s[i]? = some c := ⟨s[i], by simp [hlt]⟩
    have hc' : s[(i : Int).toNat]? = some c := by rw [Int.toNat_natCast]; exact hc
    ((conv => whnf); repeat ((first | refine AWp.many ?_ | refine AOps.many ?_ | refine ADr.go ?_); conv => whnf))
    refine opt_mk hc' ?_
    ((conv => whnf); repeat ((first | refine AWp.many ?_ | refine AOps.many ?_ | refine ADr.go ?_); conv => whnf))
    refine (vInName c.toNat).go ?_
    ((conv => whnf); repeat ((first | refine AWp.many ?_ | refine AOps.many ?_ | refine ADr.go ?_); conv => whnf))
    cases hb : inNm c.toNat with
    | false =>
      ((conv => whnf); repeat ((first | refine AWp.many ?_ | refine AOps.many ?_ | refine ADr.go ?_); conv => whnf))
      refine fin_pure nn ⟨?_, rfl, rfl⟩
      rw [capital_in hc hb]
    | true =>
      ((conv => whnf); repeat ((first | refine AWp.many ?_ | refine AOps.many ?_ | refine ADr.go ?_); conv => whnf))
      refine .mk (i + 1) [] ⟨by omega, by omega, fun j c2 hj hc2 => ?_⟩ (conv_pure ⟨⟨_, rfl, .same _ nn⟩, ⟨_, rfl, .w64 (by omega) ⟨by omega, by omega⟩⟩, trivial⟩) (by omega)
      rcases Nat.lt_or_ge j i with hj' | hj'
      · exact hall j c2 hj' hc2
      · have hji : j = i := by omega
        rw [hji, hc] at hc2
        cases hc2
        exact hb
  · ((conv => whnf); repeat ((first | refine AWp.many ?_ | refine AOps.many ?_ | refine ADr.go ?_); conv => whnf))
    refine fin_pure nn ⟨?_, rfl, rfl⟩
    have hk : i = s.length := by simp at h; omega
    rw [capital_of ha h2 hua fun j c hc => hall j c (by rw [hk]; exact (List.getElem?_eq_some_iff.1 hc).1) hc]
end Go.Proofs.YtfnhkfdjhmgjbaaGreatDoor

namespace Go.Proofs.YtfnhkfdjhmgjbaaGreatDoor
open Go Go.Ax Go.Proofs
set_option linter.unusedVariables false
set_option maxRecDepth 100000
set_option maxHeartbeats 4000000

/-- 'values.formed'. -/
theorem vFormed (vk vn : Int) (vs : List UInt8) (ks : List Val) (hs : vs.length ≤ 4294967296) : PureC Tryz.prog [] 98 [encV (.mk vk vn vs ks)] (.bool (formed1 vk vn vs ks.length)) := by
  refine acalls_go nnΓ Tryz.func98 rfl ?_
  ((conv => whnf); repeat ((first | refine AWp.many ?_ | refine AOps.many ?_ | refine ADr.go ?_); conv => whnf))
  repeat' (first | (refine bcs_mk (fun h => ?_) (fun h => ?_) <;> ((try rw [h]); ((conv => whnf); repeat ((first | refine AWp.many ?_ | refine AOps.many ?_ | refine ADr.go ?_); conv => whnf)))) | (refine (vCapital vs hs).go ?_; ((conv => whnf); repeat ((first | refine AWp.many ?_ | refine AOps.many ?_ | refine ADr.go ?_); conv => whnf))))
  all_goals
    refine fin_pure nn ⟨?_, rfl, rfl⟩
    congr 1
    rw [Bool.eq_iff_iff]
    simp_all [formed1, encVs_length, List.length_eq_zero_iff, List.isEmpty_iff]

/-- 'values.fits'. -/
theorem vFits (vk vn : Int) (vs : List UInt8) (ks : List Val) : PureC Tryz.prog [] 99 [encV (.mk vk vn vs ks)] (.bool (fits1 vk ks.length)) := by
  refine acalls_go nnΓ Tryz.func99 rfl ?_
  ((conv => whnf); repeat ((first | refine AWp.many ?_ | refine AOps.many ?_ | refine ADr.go ?_); conv => whnf))
  repeat' (refine bcs_mk (fun h => ?_) (fun h => ?_) <;> ((try rw [h]); ((conv => whnf); repeat ((first | refine AWp.many ?_ | refine AOps.many ?_ | refine ADr.go ?_); conv => whnf))))
  all_goals
    refine fin_pure nn ⟨?_, rfl, rfl⟩
    congr 1
    rw [Bool.eq_iff_iff]
    simp [fits1, encVs_length] at *
    try omega

/-- 'refuterref10.formed'. -/
theorem rFormed : ∀ v : Val, okV v → PureC Tryz.prog [] 56 [encV v] (.bool (formedV v))
  | .mk vk vn vs ks, hv => by
    simp only [okV] at hv
    obtain ⟨hv1, hv2, hv3, hv4, hv5⟩ := hv
    have ih : ∀ a ∈ ks, PureC Tryz.prog [] 56 [encV a] (.bool (formedV a)) := fun a hm => rFormed a (okVs_mem hv5 a hm)
    clear hv5
    refine acalls_go nnΓ Tryz.func56 rfl ?_
    ((conv => whnf); repeat ((first | refine AWp.many ?_ | refine AOps.many ?_ | refine ADr.go ?_); conv => whnf))
    refine (rCapital vs hv3).go ?_
    obtain ⟨cb, hcb⟩ : ∃ cb, cb = capital vs := ⟨_, rfl⟩
    rw [← hcb]
    rcases (show vk = 0 ∨ vk = 1 ∨ vk = 2 ∨ vk = 3 ∨ (vk < 0 ∨ 3 < vk) by omega) with rfl | rfl | rfl | rfl | hk
    · ((conv => whnf); repeat ((first | refine AWp.many ?_ | refine AOps.many ?_ | refine ADr.go ?_); conv => whnf))
      repeat' (refine bcs_mk (fun h => ?_) (fun h => ?_) <;> ((try rw [h]); ((conv => whnf); repeat ((first | refine AWp.many ?_ | refine AOps.many ?_ | refine ADr.go ?_); conv => whnf))))
      all_goals first
        | (refine fin_pure nn ⟨?_, rfl, rfl⟩
           clear ih
           have hf1 : formed1 0 vn vs ks.length = false := by
             rw [Bool.eq_false_iff]
             simp_all [formed1, encVs_length, List.length_pos_iff]
             try omega
           rw [formedV, hf1]
           rfl)
        | (have hf1 : formed1 0 vn vs ks.length = true := by
             clear ih
             simp_all [formed1, encVs_length, List.length_pos_iff]
             try omega
           refine ALoop.at nnΓ (fun k : Nat => k ≤ ks.length ∧ formedL (ks.take k) = true)
             (fun k => ⟨[(1, .ptr 0 0 0), (4, .int .i64 k)], [(0, .row 33 4 [encV (.mk 0 vn vs ks)])], 1, 95⟩) (fun k => ks.length - k) 0 [(0, 0)] ⟨by simp, rfl⟩
             (conv_mk _ rfl ⟨⟨0, _, rfl, rfl, .same nns⟩, trivial⟩ ⟨⟨_, rfl, .ptr 0 0 0 0 rfl⟩, ⟨_, rfl, .same _ nn⟩, trivial⟩) ?_
           rintro k ⟨hk, hall⟩
           ((conv => whnf); repeat ((first | refine AWp.many ?_ | refine AOps.many ?_ | refine ADr.go ?_); conv => whnf))
           refine bcs_mk (fun h => ?_) (fun h => ?_)
           · have hlt := klt h
             obtain ⟨a, b, c, d, hm, hg, he, e1⟩ := enc_cases hlt
             have hih := ih _ hm
             obtain ⟨fb, hfb⟩ : ∃ fb, fb = formedV (.mk a b c d) := ⟨_, rfl⟩
             rw [← hfb] at hih
             ((conv => whnf); repeat ((first | refine AWp.many ?_ | refine AOps.many ?_ | refine ADr.go ?_); conv => whnf))
             refine opt_mk e1 ?_
             ((conv => whnf); repeat ((first | refine AWp.many ?_ | refine AOps.many ?_ | refine ADr.go ?_); conv => whnf))
             refine hih.go ?_
             cases fb with
             | false =>
               ((conv => whnf); repeat ((first | refine AWp.many ?_ | refine AOps.many ?_ | refine ADr.go ?_); conv => whnf))
               refine fin_pure nn ⟨?_, rfl, rfl⟩
               rw [formedV, formedL_mem hm hfb.symm, Bool.and_false]
             | true =>
               ((conv => whnf); repeat ((first | refine AWp.many ?_ | refine AOps.many ?_ | refine ADr.go ?_); conv => whnf))
               refine .mk (k + 1) [(0, 0)] ⟨by omega, ?_⟩ (conv_mk _ rfl ⟨⟨0, _, rfl, rfl, .same nns⟩, trivial⟩ ⟨⟨_, rfl, .ptr 0 0 0 0 rfl⟩, ⟨_, rfl, .w64 (by omega) ⟨by omega, by omega⟩⟩, trivial⟩) (by omega)
               rw [formedL_take hlt, hall, he, ← hfb]
               rfl
           · have hk' : k = ks.length := by have := kge h; omega
             ((conv => whnf); repeat ((first | refine AWp.many ?_ | refine AOps.many ?_ | refine ADr.go ?_); conv => whnf))
             refine fin_pure nn ⟨?_, rfl, rfl⟩
             rw [hk', List.take_length] at hall
             rw [formedV, hf1, hall]
             rfl)
    · ((conv => whnf); repeat ((first | refine AWp.many ?_ | refine AOps.many ?_ | refine ADr.go ?_); conv => whnf))
      repeat' (refine bcs_mk (fun h => ?_) (fun h => ?_) <;> ((try rw [h]); ((conv => whnf); repeat ((first | refine AWp.many ?_ | refine AOps.many ?_ | refine ADr.go ?_); conv => whnf))))
      all_goals first
        | (refine fin_pure nn ⟨?_, rfl, rfl⟩
           clear ih
           have hf1 : formed1 1 vn vs ks.length = false := by
             rw [Bool.eq_false_iff]
             simp_all [formed1, encVs_length, List.length_pos_iff]
             try omega
           rw [formedV, hf1]
           rfl)
        | (have hf1 : formed1 1 vn vs ks.length = true := by
             clear ih
             simp_all [formed1, encVs_length, List.length_pos_iff]
             try omega
           refine ALoop.at nnΓ (fun k : Nat => k ≤ ks.length ∧ formedL (ks.take k) = true)
             (fun k => ⟨[(1, .ptr 0 0 0), (4, .int .i64 k)], [(0, .row 33 4 [encV (.mk 1 vn vs ks)])], 1, 95⟩) (fun k => ks.length - k) 0 [(0, 0)] ⟨by simp, rfl⟩
             (conv_mk _ rfl ⟨⟨0, _, rfl, rfl, .same nns⟩, trivial⟩ ⟨⟨_, rfl, .ptr 0 0 0 0 rfl⟩, ⟨_, rfl, .same _ nn⟩, trivial⟩) ?_
           rintro k ⟨hk, hall⟩
           ((conv => whnf); repeat ((first | refine AWp.many ?_ | refine AOps.many ?_ | refine ADr.go ?_); conv => whnf))
           refine bcs_mk (fun h => ?_) (fun h => ?_)
           · have hlt := klt h
             obtain ⟨a, b, c, d, hm, hg, he, e1⟩ := enc_cases hlt
             have hih := ih _ hm
             obtain ⟨fb, hfb⟩ : ∃ fb, fb = formedV (.mk a b c d) := ⟨_, rfl⟩
             rw [← hfb] at hih
             ((conv => whnf); repeat ((first | refine AWp.many ?_ | refine AOps.many ?_ | refine ADr.go ?_); conv => whnf))
             refine opt_mk e1 ?_
             ((conv => whnf); repeat ((first | refine AWp.many ?_ | refine AOps.many ?_ | refine ADr.go ?_); conv => whnf))
             refine hih.go ?_
             cases fb with
             | false =>
               ((conv => whnf); repeat ((first | refine AWp.many ?_ | refine AOps.many ?_ | refine ADr.go ?_); conv => whnf))
               refine fin_pure nn ⟨?_, rfl, rfl⟩
               rw [formedV, formedL_mem hm hfb.symm, Bool.and_false]
             | true =>
               ((conv => whnf); repeat ((first | refine AWp.many ?_ | refine AOps.many ?_ | refine ADr.go ?_); conv => whnf))
               refine .mk (k + 1) [(0, 0)] ⟨by omega, ?_⟩ (conv_mk _ rfl ⟨⟨0, _, rfl, rfl, .same nns⟩, trivial⟩ ⟨⟨_, rfl, .ptr 0 0 0 0 rfl⟩, ⟨_, rfl, .w64 (by omega) ⟨by omega, by omega⟩⟩, trivial⟩) (by omega)
               rw [formedL_take hlt, hall, he, ← hfb]
               rfl
           · have hk' : k = ks.length := by have := kge h; omega
             ((conv => whnf); repeat ((first | refine AWp.many ?_ | refine AOps.many ?_ | refine ADr.go ?_); conv => whnf))
             refine fin_pure nn ⟨?_, rfl, rfl⟩
             rw [hk', List.take_length] at hall
             rw [formedV, hf1, hall]
             rfl)
    · ((conv => whnf); repeat ((first | refine AWp.many ?_ | refine AOps.many ?_ | refine ADr.go ?_); conv => whnf))
      repeat' (refine bcs_mk (fun h => ?_) (fun h => ?_) <;> ((try rw [h]); ((conv => whnf); repeat ((first | refine AWp.many ?_ | refine AOps.many ?_ | refine ADr.go ?_); conv => whnf))))
      all_goals first
        | (refine fin_pure nn ⟨?_, rfl, rfl⟩
           clear ih
           have hf1 : formed1 2 vn vs ks.length = false := by
             rw [Bool.eq_false_iff]
             simp_all [formed1]
             try omega
           rw [formedV, hf1]
           rfl)
        | (have hf1 : formed1 2 vn vs ks.length = true := by
             clear ih
             simp_all [formed1]
             try omega
           refine ALoop.at nnΓ (fun k : Nat => k ≤ ks.length ∧ formedL (ks.take k) = true)
             (fun k => ⟨[(1, .ptr 0 0 0), (4, .int .i64 k)], [(0, .row 33 4 [encV (.mk 2 vn vs ks)])], 1, 95⟩) (fun k => ks.length - k) 0 [(0, 0)] ⟨by simp, rfl⟩
             (conv_mk _ rfl ⟨⟨0, _, rfl, rfl, .same nns⟩, trivial⟩ ⟨⟨_, rfl, .ptr 0 0 0 0 rfl⟩, ⟨_, rfl, .same _ nn⟩, trivial⟩) ?_
           rintro k ⟨hk, hall⟩
           ((conv => whnf); repeat ((first | refine AWp.many ?_ | refine AOps.many ?_ | refine ADr.go ?_); conv => whnf))
           refine bcs_mk (fun h => ?_) (fun h => ?_)
           · have hlt := klt h
             obtain ⟨a, b, c, d, hm, hg, he, e1⟩ := enc_cases hlt
             have hih := ih _ hm
             obtain ⟨fb, hfb⟩ : ∃ fb, fb = formedV (.mk a b c d) := ⟨_, rfl⟩
             rw [← hfb] at hih
             ((conv => whnf); repeat ((first | refine AWp.many ?_ | refine AOps.many ?_ | refine ADr.go ?_); conv => whnf))
             refine opt_mk e1 ?_
             ((conv => whnf); repeat ((first | refine AWp.many ?_ | refine AOps.many ?_ | refine ADr.go ?_); conv => whnf))
             refine hih.go ?_
             cases fb with
             | false =>
               ((conv => whnf); repeat ((first | refine AWp.many ?_ | refine AOps.many ?_ | refine ADr.go ?_); conv => whnf))
               refine fin_pure nn ⟨?_, rfl, rfl⟩
               rw [formedV, formedL_mem hm hfb.symm, Bool.and_false]
             | true =>
               ((conv => whnf); repeat ((first | refine AWp.many ?_ | refine AOps.many ?_ | refine ADr.go ?_); conv => whnf))
               refine .mk (k + 1) [(0, 0)] ⟨by omega, ?_⟩ (conv_mk _ rfl ⟨⟨0, _, rfl, rfl, .same nns⟩, trivial⟩ ⟨⟨_, rfl, .ptr 0 0 0 0 rfl⟩, ⟨_, rfl, .w64 (by omega) ⟨by omega, by omega⟩⟩, trivial⟩) (by omega)
               rw [formedL_take hlt, hall, he, ← hfb]
               rfl
           · have hk' : k = ks.length := by have := kge h; omega
             ((conv => whnf); repeat ((first | refine AWp.many ?_ | refine AOps.many ?_ | refine ADr.go ?_); conv => whnf))
             refine fin_pure nn ⟨?_, rfl, rfl⟩
             rw [hk', List.take_length] at hall
             rw [formedV, hf1, hall]
             rfl)
    · ((conv => whnf); repeat ((first | refine AWp.many ?_ | refine AOps.many ?_ | refine ADr.go ?_); conv => whnf))
      repeat' (refine bcs_mk (fun h => ?_) (fun h => ?_) <;> ((try rw [h]); ((conv => whnf); repeat ((first | refine AWp.many ?_ | refine AOps.many ?_ | refine ADr.go ?_); conv => whnf))))
      all_goals first
        | (refine fin_pure nn ⟨?_, rfl, rfl⟩
           clear ih
           have hf1 : formed1 3 vn vs ks.length = false := by
             rw [Bool.eq_false_iff]
             simp_all [formed1]
             try omega
           rw [formedV, hf1]
           rfl)
        | (have hf1 : formed1 3 vn vs ks.length = true := by
             clear ih
             simp_all [formed1]
             try omega
           refine ALoop.at nnΓ (fun k : Nat => k ≤ ks.length ∧ formedL (ks.take k) = true)
             (fun k => ⟨[(1, .ptr 0 0 0), (4, .int .i64 k)], [(0, .row 33 4 [encV (.mk 3 vn vs ks)])], 1, 95⟩) (fun k => ks.length - k) 0 [(0, 0)] ⟨by simp, rfl⟩
             (conv_mk _ rfl ⟨⟨0, _, rfl, rfl, .same nns⟩, trivial⟩ ⟨⟨_, rfl, .ptr 0 0 0 0 rfl⟩, ⟨_, rfl, .same _ nn⟩, trivial⟩) ?_
           rintro k ⟨hk, hall⟩
           ((conv => whnf); repeat ((first | refine AWp.many ?_ | refine AOps.many ?_ | refine ADr.go ?_); conv => whnf))
           refine bcs_mk (fun h => ?_) (fun h => ?_)
           · have hlt := klt h
             obtain ⟨a, b, c, d, hm, hg, he, e1⟩ := enc_cases hlt
             have hih := ih _ hm
             obtain ⟨fb, hfb⟩ : ∃ fb, fb = formedV (.mk a b c d) := ⟨_, rfl⟩
             rw [← hfb] at hih
             ((conv => whnf); repeat ((first | refine AWp.many ?_ | refine AOps.many ?_ | refine ADr.go ?_); conv => whnf))
             refine opt_mk e1 ?_
             ((conv => whnf); repeat ((first | refine AWp.many ?_ | refine AOps.many ?_ | refine ADr.go ?_); conv => whnf))
             refine hih.go ?_
             cases fb with
             | false =>
               ((conv => whnf); repeat ((first | refine AWp.many ?_ | refine AOps.many ?_ | refine ADr.go ?_); conv => whnf))
               refine fin_pure nn ⟨?_, rfl, rfl⟩
               rw [formedV, formedL_mem hm hfb.symm, Bool.and_false]
             | true =>
               ((conv => whnf); repeat ((first | refine AWp.many ?_ | refine AOps.many ?_ | refine ADr.go ?_); conv => whnf))
               refine .mk (k + 1) [(0, 0)] ⟨by omega, ?_⟩ (conv_mk _ rfl ⟨⟨0, _, rfl, rfl, .same nns⟩, trivial⟩ ⟨⟨_, rfl, .ptr 0 0 0 0 rfl⟩, ⟨_, rfl, .w64 (by omega) ⟨by omega, by omega⟩⟩, trivial⟩) (by omega)
               rw [formedL_take hlt, hall, he, ← hfb]
               rfl
           · have hk' : k = ks.length := by have := kge h; omega
             ((conv => whnf); repeat ((first | refine AWp.many ?_ | refine AOps.many ?_ | refine ADr.go ?_); conv => whnf))
             refine fin_pure nn ⟨?_, rfl, rfl⟩
             rw [hk', List.take_length] at hall
             rw [formedV, hf1, hall]
             rfl)
    · have e0 : (vk == 0) = false := by simp; omega
      have e1 : (vk == 1) = false := by simp; omega
      have e2 : (vk == 2) = false := by simp; omega
      have e3 : (vk == 3) = false := by simp; omega
      have hf1 : formed1 vk vn vs ks.length = false := by
        unfold formed1
        rw [if_neg (by omega), if_neg (by omega), if_neg (by omega), if_neg (by omega)]
      have hfin : AV.bool false = AV.bool (formedV (.mk vk vn vs ks)) := by rw [formedV, hf1]; rfl
      ((conv => whnf); repeat ((first | refine AWp.many ?_ | refine AOps.many ?_ | refine ADr.go ?_); conv => whnf))
      repeat (first | (rw [e0]; ((conv => whnf); repeat ((first | refine AWp.many ?_ | refine AOps.many ?_ | refine ADr.go ?_); conv => whnf))) | (rw [e1]; ((conv => whnf); repeat ((first | refine AWp.many ?_ | refine AOps.many ?_ | refine ADr.go ?_); conv => whnf))) | (rw [e2]; ((conv => whnf); repeat ((first | refine AWp.many ?_ | refine AOps.many ?_ | refine ADr.go ?_); conv => whnf))) | (rw [e3]; ((conv => whnf); repeat ((first | refine AWp.many ?_ | refine AOps.many ?_ | refine ADr.go ?_); conv => whnf))))
      refine bcs_mk (fun h => ?_) (fun h => ?_)
      · rw [h]
        ((conv => whnf); repeat ((first | refine AWp.many ?_ | refine AOps.many ?_ | refine ADr.go ?_); conv => whnf))
        exact fin_pure nn ⟨hfin, rfl, rfl⟩
      · rw [h]
        ((conv => whnf); repeat ((first | refine AWp.many ?_ | refine AOps.many ?_ | refine ADr.go ?_); conv => whnf))
        refine bcs_mk (fun h' => ?_) (fun h' => ?_)
        · ((conv => whnf); repeat ((first | refine AWp.many ?_ | refine AOps.many ?_ | refine ADr.go ?_); conv => whnf))
          exact fin_pure nn ⟨hfin, rfl, rfl⟩
        · exfalso
          simp at h h'
          omega
  termination_by v => SizeOf.sizeOf v
  decreasing_by simp; have := List.sizeOf_lt_of_mem hm; omega

/-- 'refuterref10.wide'. -/
theorem rWide : ∀ v : Val, okV v → PureC Tryz.prog [] 57 [encV v] (.bool (wideV v))
  | .mk vk vn vs ks, hv => by
    simp only [okV] at hv
    obtain ⟨hv1, hv2, hv3, hv4, hv5⟩ := hv
    have ih : ∀ a ∈ ks, PureC Tryz.prog [] 57 [encV a] (.bool (wideV a)) := fun a hm => rWide a (okVs_mem hv5 a hm)
    clear hv5
    refine acalls_go nnΓ Tryz.func57 rfl ?_
    ((conv => whnf); repeat ((first | refine AWp.many ?_ | refine AOps.many ?_ | refine ADr.go ?_); conv => whnf))
    repeat' (refine bcs_mk (fun h => ?_) (fun h => ?_) <;> ((try rw [h]); ((conv => whnf); repeat ((first | refine AWp.many ?_ | refine AOps.many ?_ | refine ADr.go ?_); conv => whnf))))
    all_goals first
      | (refine fin_pure nn ⟨?_, rfl, rfl⟩
         clear ih
         have hf1 : wide1 vk ks.length = true := by
           simp [wide1, encVs_length] at *
           omega
         rw [wideV, hf1]
         rfl)
      | (have hf1 : wide1 vk ks.length = false := by
           clear ih
           rw [Bool.eq_false_iff]
           simp [wide1, encVs_length] at *
           omega
         refine ALoop.at nnΓ (fun k : Nat => k ≤ ks.length ∧ wideL (ks.take k) = false)
           (fun k => ⟨[(1, .ptr 0 0 0), (3, .int .i64 k)], [(0, .row 33 4 [encV (.mk vk vn vs ks)])], 1, 39⟩) (fun k => ks.length - k) 0 [(0, 0)] ⟨by simp, rfl⟩
           (conv_mk _ rfl ⟨⟨0, _, rfl, rfl, .same nns⟩, trivial⟩ ⟨⟨_, rfl, .ptr 0 0 0 0 rfl⟩, ⟨_, rfl, .same _ nn⟩, trivial⟩) ?_
         rintro k ⟨hk, hall⟩
         ((conv => whnf); repeat ((first | refine AWp.many ?_ | refine AOps.many ?_ | refine ADr.go ?_); conv => whnf))
         refine bcs_mk (fun h => ?_) (fun h => ?_)
         · have hlt := klt h
           obtain ⟨a, b, c, d, hm, hg, he, e1⟩ := enc_cases hlt
           have hih := ih _ hm
           obtain ⟨fb, hfb⟩ : ∃ fb, fb = wideV (.mk a b c d) := ⟨_, rfl⟩
           rw [← hfb] at hih
           ((conv => whnf); repeat ((first | refine AWp.many ?_ | refine AOps.many ?_ | refine ADr.go ?_); conv => whnf))
           refine opt_mk e1 ?_
           ((conv => whnf); repeat ((first | refine AWp.many ?_ | refine AOps.many ?_ | refine ADr.go ?_); conv => whnf))
           refine hih.go ?_
           cases fb with
           | true =>
             ((conv => whnf); repeat ((first | refine AWp.many ?_ | refine AOps.many ?_ | refine ADr.go ?_); conv => whnf))
             refine fin_pure nn ⟨?_, rfl, rfl⟩
             rw [wideV, wideL_mem hm hfb.symm, Bool.or_true]
           | false =>
             ((conv => whnf); repeat ((first | refine AWp.many ?_ | refine AOps.many ?_ | refine ADr.go ?_); conv => whnf))
             refine .mk (k + 1) [(0, 0)] ⟨by omega, ?_⟩ (conv_mk _ rfl ⟨⟨0, _, rfl, rfl, .same nns⟩, trivial⟩ ⟨⟨_, rfl, .ptr 0 0 0 0 rfl⟩, ⟨_, rfl, .w64 (by omega) ⟨by omega, by omega⟩⟩, trivial⟩) (by omega)
             rw [wideL_take hlt, hall, he, ← hfb]
             rfl
         · have hk' : k = ks.length := by have := kge h; omega
           ((conv => whnf); repeat ((first | refine AWp.many ?_ | refine AOps.many ?_ | refine ADr.go ?_); conv => whnf))
           refine fin_pure nn ⟨?_, rfl, rfl⟩
           rw [hk', List.take_length] at hall
           rw [wideV, hf1, hall]
           rfl)
  termination_by v => SizeOf.sizeOf v
  decreasing_by simp; have := List.sizeOf_lt_of_mem hm; omega

/-- 'refuterref10.Valid'. -/
theorem rValid : ∀ v : Val, okV v → sizeV v ≤ 1099511627776 → PureC Tryz.prog [] 17 [encV v] (.int .i64 (validV v))
  | .mk vk vn vs ks, hv, hs => by
    have h1 := rFormed _ hv
    have h2 := rWide _ hv
    have h3 := rSize _ hs
    have hval : validV (.mk vk vn vs ks) = if formedV (.mk vk vn vs ks) = false then 1 else if wideV (.mk vk vn vs ks) = true ∨ 1024 < sizeV (.mk vk vn vs ks) then 4 else 0 := rfl
    generalize formedV (.mk vk vn vs ks) = fb at h1 hval
    generalize wideV (.mk vk vn vs ks) = wb at h2 hval
    generalize sizeV (.mk vk vn vs ks) = sz at h3 hval
    generalize validV (.mk vk vn vs ks) = res at hval
    refine acalls_go nnΓ Tryz.func17 rfl ?_
    ((conv => whnf); repeat ((first | refine AWp.many ?_ | refine AOps.many ?_ | refine ADr.go ?_); conv => whnf))
    refine h1.go ?_
    cases fb with
    | false =>
      ((conv => whnf); repeat ((first | refine AWp.many ?_ | refine AOps.many ?_ | refine ADr.go ?_); conv => whnf))
      refine fin_pure nn ⟨?_, rfl, rfl⟩
      rw [hval]; rfl
    | true =>
      ((conv => whnf); repeat ((first | refine AWp.many ?_ | refine AOps.many ?_ | refine ADr.go ?_); conv => whnf))
      refine h2.go ?_
      cases wb with
      | true =>
        ((conv => whnf); repeat ((first | refine AWp.many ?_ | refine AOps.many ?_ | refine ADr.go ?_); conv => whnf))
        refine fin_pure nn ⟨?_, rfl, rfl⟩
        rw [hval]; simp
      | false =>
        ((conv => whnf); repeat ((first | refine AWp.many ?_ | refine AOps.many ?_ | refine ADr.go ?_); conv => whnf))
        refine h3.go ?_
        ((conv => whnf); repeat ((first | refine AWp.many ?_ | refine AOps.many ?_ | refine ADr.go ?_); conv => whnf))
        refine bcs_mk (fun h => ?_) (fun h => ?_)
        · ((conv => whnf); repeat ((first | refine AWp.many ?_ | refine AOps.many ?_ | refine ADr.go ?_); conv => whnf))
          refine fin_pure nn ⟨?_, rfl, rfl⟩
          rw [hval, if_neg (by simp), if_pos (by simp at h; omega)]
        · ((conv => whnf); repeat ((first | refine AWp.many ?_ | refine AOps.many ?_ | refine ADr.go ?_); conv => whnf))
          refine fin_pure nn ⟨?_, rfl, rfl⟩
          rw [hval, if_neg (by simp), if_neg (by simp at h; simp; omega)]
end Go.Proofs.YtfnhkfdjhmgjbaaGreatDoor

namespace Go.Proofs.YtfnhkfdjhmgjbaaGreatDoor
open Go Go.Ax Go.Proofs
set_option linter.unusedVariables false
set_option maxRecDepth 100000
set_option maxHeartbeats 4000000

/-! ### 'values.visit' -/
def cI (n : Nat) : AB := .row 3 1 [.int .i64 n]
def cB (b : Bool) : AB := .row 4 1 [.bool b]
def cF (f : AV) : AB := .row 147 1 [f]

section
variable {mem : Mem} {σ : List (Nat × Nat)}
theorem cvFn1 {F : FuncId} {i : Nat} (h : lk σ i = some i) : CvR mem σ [.fn (.func F) [] [.ptr i 0 0]] [.fn (.func F) [] [.ptr i 0 0]] :=
  .cons (.one rfl rfl (.fn _ _ _ _ _ rfl rfl (by simp) (CvL.cons (.ptr i i 0 0 h) .nil).2)) .nil
theorem cvFn2 {F : FuncId} {i j : Nat} (h : lk σ i = some i) (h' : lk σ j = some j) : CvR mem σ [.fn (.func F) [] [.ptr i 0 0, .ptr j 0 0]] [.fn (.func F) [] [.ptr i 0 0, .ptr j 0 0]] :=
  .cons (.one rfl rfl (.fn _ _ _ _ _ rfl rfl (by simp) (CvL.cons (.ptr i i 0 0 h) (.cons (.ptr j j 0 0 h') .nil)).2)) .nil
theorem cvFn3 {F : FuncId} {i j k : Nat} (h : lk σ i = some i) (h' : lk σ j = some j) (h'' : lk σ k = some k) : CvR mem σ [.fn (.func F) [] [.ptr i 0 0, .ptr j 0 0, .ptr k 0 0]] [.fn (.func F) [] [.ptr i 0 0, .ptr j 0 0, .ptr k 0 0]] :=
  .cons (.one rfl rfl (.fn _ _ _ _ _ rfl rfl (by simp) (CvL.cons (.ptr i i 0 0 h) (.cons (.ptr j j 0 0 h') (.cons (.ptr k k 0 0 h'') .nil))).2)) .nil
end

/-- The memory of the walk over one number. -/
def wMS (n : Nat) : Mem := [(0, cI n), (1, cF (.fn (.func 107) [] [.ptr 0 0 0])), (2, cF (.fn (.func 139) [] [.ptr 1 0 0, .ptr 2 0 0]))]

theorem visit1S (g : Nat → Nat → Nat) (hg : ∀ n d, g n d ≤ max (n + 1) d)
    (hsee : ∀ (v : Val) (d n : Nat), d ≤ 1099511627776 → n ≤ 4398046511104 → ACalls Tryz.prog [] 107 [encV v, .int .i64 d, .ptr 0 0 0] [(0, cI n)] 1 fun r m _ => r = .bool true ∧ m = [(0, cI (g n d))]) :
    ∀ (v : Val) (d n : Nat), d + depthV v ≤ 1099511627776 → max n (d + depthV v) + sizeV v ≤ 4398046511104 →
      ACalls Tryz.prog [] 139 [encV v, .int .i64 d, .ptr 1 0 0, .ptr 2 0 0] (wMS n) 3 fun r m _ => r = .bool true ∧ m = wMS (resV g v d n)
  | .mk vk vn vs ks, d, n, hd, hb => by
    have ih : ∀ a ∈ ks, ∀ (d n : Nat), d + depthV a ≤ 1099511627776 → max n (d + depthV a) + sizeV a ≤ 4398046511104 → ACalls Tryz.prog [] 139 [encV a, .int .i64 d, .ptr 1 0 0, .ptr 2 0 0] (wMS n) 3 fun r m _ => r = .bool true ∧ m = wMS (resV g a d n) :=
      fun a hm d n h1 h2 => visit1S g hg hsee a d n h1 h2
    simp only [depthV, sizeV] at hd hb
    have hlen := sizeL_len ks
    have hgn := hg n d
    refine acalls_go nnΓ Tryz.func139 rfl ?_
    ((conv => whnf); repeat ((first | refine AWp.many ?_ | refine AOps.many ?_ | refine ADr.go ?_); conv => whnf))
    refine ACalls.useI nnΓ [0] (hsee (.mk vk vn vs ks) d n (by omega) (by omega)) (by rfl) (.cons (.same _ nn) (.cons (.same _ nn) (.cons (.ptr 0 0 0 0 rfl) .nil))) ⟨⟨0, _, rfl, rfl, .same nns⟩, trivial⟩ rfl ?_
    rintro r m n' ⟨rfl, rfl⟩
    refine ⟨nn, ⟨⟨0, _, rfl, rfl, .same nns⟩, trivial⟩, rfl, ?_⟩
    ((conv => whnf); repeat ((first | refine AWp.many ?_ | refine AOps.many ?_ | refine ADr.go ?_); conv => whnf))
    refine ALoop.at nnΓ (fun k : Nat => k ≤ ks.length)
      (fun k => ⟨[(1, .int .i64 d), (3, .ptr 2 0 0), (15, .il 4 (encVs ks)), (16, .int .i64 (encVs ks).length), (17, .int .i64 k)], wMS (resL g (ks.take k) (d + 1) (g n d)), 3, 28⟩)
      (fun k => ks.length - k) 0 [(0, 0), (1, 1), (2, 2)] (by simp)
      (conv_mk _ rfl ⟨⟨0, _, rfl, rfl, .same nns⟩, ⟨1, _, rfl, rfl, cvFn1 rfl⟩, ⟨2, _, rfl, rfl, cvFn2 rfl rfl⟩, trivial⟩ ⟨⟨_, rfl, .same _ nn⟩, ⟨_, rfl, .ptr 2 2 0 0 rfl⟩, ⟨_, rfl, .same _ nn⟩, ⟨_, rfl, .same _ nn⟩, ⟨_, rfl, .same _ nn⟩, trivial⟩) ?_
    intro k hk
    have hrl := resL_le hg (ks.take k) (d + 1) (g n d)
    ((conv => whnf); repeat ((first | refine AWp.many ?_ | refine AOps.many ?_ | refine ADr.go ?_); conv => whnf))
    refine bcs_mk (fun h => ?_) (fun h => ?_)
    · have hlt := klt h
      obtain ⟨a, b, c, e, hm, hg', he, e1⟩ := enc_cases hlt
      have hst := sizeL_take hlt
      have hdt := depthL_take hlt
      rw [he] at hst hdt
      have hst' := sizeL_take_le ks (k + 1)
      have hdm := depthL_mem hm
      have hdk : depthL (ks.take k) ≤ depthL ks := depthL_take_le ks k
      have hrt := resL_take g hlt (d + 1) (g n d)
      rw [he] at hrt
      ((conv => whnf); repeat ((first | refine AWp.many ?_ | refine AOps.many ?_ | refine ADr.go ?_); conv => whnf))
      refine opt_mk e1 ?_
      ((conv => whnf); repeat ((first | refine AWp.many ?_ | refine AOps.many ?_ | refine ADr.go ?_); conv => whnf))
      rw [w64 (x := (d : Int) + 1) (y := ((d + 1 : Nat) : Int)) (by omega) ⟨by omega, by omega⟩]
      refine ACalls.useI nnΓ [0, 1, 2] (ih _ hm (d + 1) (resL g (ks.take k) (d + 1) (g n d)) (by omega) (by omega)) (by rfl) (.cons (.same _ nn) (.cons (.same _ nn) (.cons (.ptr 1 1 0 0 rfl) (.cons (.ptr 2 2 0 0 rfl) .nil))))
        ⟨⟨0, _, rfl, rfl, .same nns⟩, ⟨1, _, rfl, rfl, cvFn1 rfl⟩, ⟨2, _, rfl, rfl, cvFn2 rfl rfl⟩, trivial⟩ rfl ?_
      rintro r m n' ⟨rfl, rfl⟩
      refine ⟨nn, ⟨⟨0, _, rfl, rfl, .same nns⟩, ⟨1, _, rfl, rfl, cvFn1 rfl⟩, ⟨2, _, rfl, rfl, cvFn2 rfl rfl⟩, trivial⟩, rfl, ?_⟩
      rw [← hrt]
      ((conv => whnf); repeat ((first | refine AWp.many ?_ | refine AOps.many ?_ | refine ADr.go ?_); conv => whnf))
      exact .mk (k + 1) [(0, 0), (1, 1), (2, 2)] (by omega)
        (conv_mk _ rfl ⟨⟨0, _, rfl, rfl, .same nns⟩, ⟨1, _, rfl, rfl, cvFn1 rfl⟩, ⟨2, _, rfl, rfl, cvFn2 rfl rfl⟩, trivial⟩ ⟨⟨_, rfl, .same _ nn⟩, ⟨_, rfl, .ptr 2 2 0 0 rfl⟩, ⟨_, rfl, .same _ nn⟩, ⟨_, rfl, .same _ nn⟩, ⟨_, rfl, .w64 (by omega) ⟨by omega, by omega⟩⟩, trivial⟩) (by omega)
    · have hk' : k = ks.length := by have := kge h; omega
      ((conv => whnf); repeat ((first | refine AWp.many ?_ | refine AOps.many ?_ | refine ADr.go ?_); conv => whnf))
      refine fin_mk (n' := 3) (m' := wMS (resL g (ks.take k) (d + 1) (g n d))) [(0, 0), (1, 1), (2, 2)] rfl ⟨⟨0, _, rfl, rfl, .same nns⟩, ⟨1, _, rfl, rfl, cvFn1 rfl⟩, ⟨2, _, rfl, rfl, cvFn2 rfl rfl⟩, trivial⟩ (.same _ nn) ⟨rfl, ?_⟩
      rw [hk', List.take_length, resV]
  termination_by v => SizeOf.sizeOf v
  decreasing_by simp; have := List.sizeOf_lt_of_mem hm; omega
/-- The memory of the walk over one number. -/
def wMD (n : Nat) : Mem := [(0, cI n), (1, cF (.fn (.func 108) [] [.ptr 0 0 0])), (2, cF (.fn (.func 139) [] [.ptr 1 0 0, .ptr 2 0 0]))]

theorem visit1D (g : Nat → Nat → Nat) (hg : ∀ n d, g n d ≤ max (n + 1) d)
    (hsee : ∀ (v : Val) (d n : Nat), d ≤ 1099511627776 → n ≤ 4398046511104 → ACalls Tryz.prog [] 108 [encV v, .int .i64 d, .ptr 0 0 0] [(0, cI n)] 1 fun r m _ => r = .bool true ∧ m = [(0, cI (g n d))]) :
    ∀ (v : Val) (d n : Nat), d + depthV v ≤ 1099511627776 → max n (d + depthV v) + sizeV v ≤ 4398046511104 →
      ACalls Tryz.prog [] 139 [encV v, .int .i64 d, .ptr 1 0 0, .ptr 2 0 0] (wMD n) 3 fun r m _ => r = .bool true ∧ m = wMD (resV g v d n)
  | .mk vk vn vs ks, d, n, hd, hb => by
    have ih : ∀ a ∈ ks, ∀ (d n : Nat), d + depthV a ≤ 1099511627776 → max n (d + depthV a) + sizeV a ≤ 4398046511104 → ACalls Tryz.prog [] 139 [encV a, .int .i64 d, .ptr 1 0 0, .ptr 2 0 0] (wMD n) 3 fun r m _ => r = .bool true ∧ m = wMD (resV g a d n) :=
      fun a hm d n h1 h2 => visit1D g hg hsee a d n h1 h2
    simp only [depthV, sizeV] at hd hb
    have hlen := sizeL_len ks
    have hgn := hg n d
    refine acalls_go nnΓ Tryz.func139 rfl ?_
    ((conv => whnf); repeat ((first | refine AWp.many ?_ | refine AOps.many ?_ | refine ADr.go ?_); conv => whnf))
    refine ACalls.useI nnΓ [0] (hsee (.mk vk vn vs ks) d n (by omega) (by omega)) (by rfl) (.cons (.same _ nn) (.cons (.same _ nn) (.cons (.ptr 0 0 0 0 rfl) .nil))) ⟨⟨0, _, rfl, rfl, .same nns⟩, trivial⟩ rfl ?_
    rintro r m n' ⟨rfl, rfl⟩
    refine ⟨nn, ⟨⟨0, _, rfl, rfl, .same nns⟩, trivial⟩, rfl, ?_⟩
    ((conv => whnf); repeat ((first | refine AWp.many ?_ | refine AOps.many ?_ | refine ADr.go ?_); conv => whnf))
    refine ALoop.at nnΓ (fun k : Nat => k ≤ ks.length)
      (fun k => ⟨[(1, .int .i64 d), (3, .ptr 2 0 0), (15, .il 4 (encVs ks)), (16, .int .i64 (encVs ks).length), (17, .int .i64 k)], wMD (resL g (ks.take k) (d + 1) (g n d)), 3, 28⟩)
      (fun k => ks.length - k) 0 [(0, 0), (1, 1), (2, 2)] (by simp)
      (conv_mk _ rfl ⟨⟨0, _, rfl, rfl, .same nns⟩, ⟨1, _, rfl, rfl, cvFn1 rfl⟩, ⟨2, _, rfl, rfl, cvFn2 rfl rfl⟩, trivial⟩ ⟨⟨_, rfl, .same _ nn⟩, ⟨_, rfl, .ptr 2 2 0 0 rfl⟩, ⟨_, rfl, .same _ nn⟩, ⟨_, rfl, .same _ nn⟩, ⟨_, rfl, .same _ nn⟩, trivial⟩) ?_
    intro k hk
    have hrl := resL_le hg (ks.take k) (d + 1) (g n d)
    ((conv => whnf); repeat ((first | refine AWp.many ?_ | refine AOps.many ?_ | refine ADr.go ?_); conv => whnf))
    refine bcs_mk (fun h => ?_) (fun h => ?_)
    · have hlt := klt h
      obtain ⟨a, b, c, e, hm, hg', he, e1⟩ := enc_cases hlt
      have hst := sizeL_take hlt
      have hdt := depthL_take hlt
      rw [he] at hst hdt
      have hst' := sizeL_take_le ks (k + 1)
      have hdm := depthL_mem hm
      have hdk : depthL (ks.take k) ≤ depthL ks := depthL_take_le ks k
      have hrt := resL_take g hlt (d + 1) (g n d)
      rw [he] at hrt
      ((conv => whnf); repeat ((first | refine AWp.many ?_ | refine AOps.many ?_ | refine ADr.go ?_); conv => whnf))
      refine opt_mk e1 ?_
      ((conv => whnf); repeat ((first | refine AWp.many ?_ | refine AOps.many ?_ | refine ADr.go ?_); conv => whnf))
      rw [w64 (x := (d : Int) + 1) (y := ((d + 1 : Nat) : Int)) (by omega) ⟨by omega, by omega⟩]
      refine ACalls.useI nnΓ [0, 1, 2] (ih _ hm (d + 1) (resL g (ks.take k) (d + 1) (g n d)) (by omega) (by omega)) (by rfl) (.cons (.same _ nn) (.cons (.same _ nn) (.cons (.ptr 1 1 0 0 rfl) (.cons (.ptr 2 2 0 0 rfl) .nil))))
        ⟨⟨0, _, rfl, rfl, .same nns⟩, ⟨1, _, rfl, rfl, cvFn1 rfl⟩, ⟨2, _, rfl, rfl, cvFn2 rfl rfl⟩, trivial⟩ rfl ?_
      rintro r m n' ⟨rfl, rfl⟩
      refine ⟨nn, ⟨⟨0, _, rfl, rfl, .same nns⟩, ⟨1, _, rfl, rfl, cvFn1 rfl⟩, ⟨2, _, rfl, rfl, cvFn2 rfl rfl⟩, trivial⟩, rfl, ?_⟩
      rw [← hrt]
      ((conv => whnf); repeat ((first | refine AWp.many ?_ | refine AOps.many ?_ | refine ADr.go ?_); conv => whnf))
      exact .mk (k + 1) [(0, 0), (1, 1), (2, 2)] (by omega)
        (conv_mk _ rfl ⟨⟨0, _, rfl, rfl, .same nns⟩, ⟨1, _, rfl, rfl, cvFn1 rfl⟩, ⟨2, _, rfl, rfl, cvFn2 rfl rfl⟩, trivial⟩ ⟨⟨_, rfl, .same _ nn⟩, ⟨_, rfl, .ptr 2 2 0 0 rfl⟩, ⟨_, rfl, .same _ nn⟩, ⟨_, rfl, .same _ nn⟩, ⟨_, rfl, .w64 (by omega) ⟨by omega, by omega⟩⟩, trivial⟩) (by omega)
    · have hk' : k = ks.length := by have := kge h; omega
      ((conv => whnf); repeat ((first | refine AWp.many ?_ | refine AOps.many ?_ | refine ADr.go ?_); conv => whnf))
      refine fin_mk (n' := 3) (m' := wMD (resL g (ks.take k) (d + 1) (g n d))) [(0, 0), (1, 1), (2, 2)] rfl ⟨⟨0, _, rfl, rfl, .same nns⟩, ⟨1, _, rfl, rfl, cvFn1 rfl⟩, ⟨2, _, rfl, rfl, cvFn2 rfl rfl⟩, trivial⟩ (.same _ nn) ⟨rfl, ?_⟩
      rw [hk', List.take_length, resV]
  termination_by v => SizeOf.sizeOf v
  decreasing_by simp; have := List.sizeOf_lt_of_mem hm; omega
end Go.Proofs.YtfnhkfdjhmgjbaaGreatDoor

namespace Go.Proofs.YtfnhkfdjhmgjbaaGreatDoor
open Go Go.Ax Go.Proofs
set_option linter.unusedVariables false
set_option maxRecDepth 100000
set_option maxHeartbeats 4000000

section
variable {mem : Mem} {σ : List (Nat × Nat)}
theorem cvFn1R {F : FuncId} {i i' : Nat} (h : lk σ i = some i') : CvR mem σ [.fn (.func F) [] [.ptr i 0 0]] [.fn (.func F) [] [.ptr i' 0 0]] :=
  .cons (.one rfl rfl (.fn _ _ _ _ _ rfl rfl (by simp) (CvL.cons (.ptr i i' 0 0 h) .nil).2)) .nil
theorem cvFn2R {F : FuncId} {i j i' j' : Nat} (h : lk σ i = some i') (h' : lk σ j = some j') : CvR mem σ [.fn (.func F) [] [.ptr i 0 0, .ptr j 0 0]] [.fn (.func F) [] [.ptr i' 0 0, .ptr j' 0 0]] :=
  .cons (.one rfl rfl (.fn _ _ _ _ _ rfl rfl (by simp) (CvL.cons (.ptr i i' 0 0 h) (.cons (.ptr j j' 0 0 h') .nil)).2)) .nil
theorem cvFn3R {F : FuncId} {i j k i' j' k' : Nat} (h : lk σ i = some i') (h' : lk σ j = some j') (h'' : lk σ k = some k') : CvR mem σ [.fn (.func F) [] [.ptr i 0 0, .ptr j 0 0, .ptr k 0 0]] [.fn (.func F) [] [.ptr i' 0 0, .ptr j' 0 0, .ptr k' 0 0]] :=
  .cons (.one rfl rfl (.fn _ _ _ _ _ rfl rfl (by simp) (CvL.cons (.ptr i i' 0 0 h) (.cons (.ptr j j' 0 0 h') (.cons (.ptr k k' 0 0 h'') .nil))).2)) .nil
theorem cvF1 {F : FuncId} {i i' : Nat} (h : lk σ i = some i') : Cv mem σ (.fn (.func F) [] [.ptr i 0 0]) (.fn (.func F) [] [.ptr i' 0 0]) :=
  .fn _ _ _ _ _ rfl rfl (by simp) (CvL.cons (.ptr i i' 0 0 h) .nil).2
theorem cvF3 {F : FuncId} {i j k i' j' k' : Nat} (h : lk σ i = some i') (h' : lk σ j = some j') (h'' : lk σ k = some k') : Cv mem σ (.fn (.func F) [] [.ptr i 0 0, .ptr j 0 0, .ptr k 0 0]) (.fn (.func F) [] [.ptr i' 0 0, .ptr j' 0 0, .ptr k' 0 0]) :=
  .fn _ _ _ _ _ rfl rfl (by simp) (CvL.cons (.ptr i i' 0 0 h) (.cons (.ptr j j' 0 0 h') (.cons (.ptr k k' 0 0 h'') .nil))).2
end

theorem seeS : ∀ (v : Val) (d n : Nat), d ≤ 1099511627776 → n ≤ 4398046511104 → ACalls Tryz.prog [] 107 [encV v, .int .i64 d, .ptr 0 0 0] [(0, cI n)] 1 fun r m _ => r = .bool true ∧ m = [(0, cI (n + 1))]
  | .mk vk vn vs ks, d, n, hd, hn => by
    refine acalls_go nnΓ Tryz.func107 rfl ?_
    ((conv => whnf); repeat ((first | refine AWp.many ?_ | refine AOps.many ?_ | refine ADr.go ?_); conv => whnf))
    exact fin_mk (n' := 1) (m' := [(0, cI (n + 1))]) [(0, 0)] rfl ⟨⟨0, _, rfl, rfl, .cons (.one rfl rfl (.w64 (by omega) ⟨by omega, by omega⟩)) .nil⟩, trivial⟩ (.same _ nn) ⟨rfl, rfl⟩

theorem seeD : ∀ (v : Val) (d n : Nat), d ≤ 1099511627776 → n ≤ 4398046511104 → ACalls Tryz.prog [] 108 [encV v, .int .i64 d, .ptr 0 0 0] [(0, cI n)] 1 fun r m _ => r = .bool true ∧ m = [(0, cI (max n d))]
  | .mk vk vn vs ks, d, n, hd, hn => by
    refine acalls_go nnΓ Tryz.func108 rfl ?_
    ((conv => whnf); repeat ((first | refine AWp.many ?_ | refine AOps.many ?_ | refine ADr.go ?_); conv => whnf))
    exact fin_mk (n' := 1) (m' := [(0, cI (max n d))]) [(0, 0)] rfl ⟨⟨0, _, rfl, rfl, .cons (.one rfl rfl (.int (by simp; omega))) .nil⟩, trivial⟩ (.same _ nn) ⟨rfl, rfl⟩

theorem vVisitS : ∀ (v : Val) (n : Nat), 1 + depthV v ≤ 1099511627776 → max n (1 + depthV v) + sizeV v ≤ 4398046511104 →
      ACalls Tryz.prog [] 96 [encV v, .fn (.func 107) [] [.ptr 0 0 0]] [(0, cI n)] 1 fun r m _ => r = .tup [] ∧ m = [(0, cI (resV (fun n _ => n + 1) v 1 n))]
  | .mk vk vn vs ks, n, hd, hb => by
    have hw := visit1S (fun n _ => n + 1) (fun n d => by omega) seeS (.mk vk vn vs ks) 1 n hd hb
    generalize resV (fun n _ => n + 1) (.mk vk vn vs ks) 1 n = res at hw
    refine acalls_go nnΓ Tryz.func96 rfl ?_
    ((conv => whnf); repeat ((first | refine AWp.many ?_ | refine AOps.many ?_ | refine ADr.go ?_); conv => whnf))
    refine ACalls.useR nnΓ [(0, 0), (2, 1), (3, 2)] hw (by rfl) (.cons (.same _ nn) (.cons (.int rfl) (.cons (.ptr 2 1 0 0 rfl) (.cons (.ptr 3 2 0 0 rfl) .nil))))
      ⟨⟨0, _, rfl, rfl, .same nns⟩, ⟨2, _, rfl, rfl, cvFn1R rfl⟩, ⟨3, _, rfl, rfl, cvFn2R rfl rfl⟩, trivial⟩ rfl ?_
    rintro r m n' ⟨rfl, rfl⟩
    refine ⟨[(0, cI res)], nn, ⟨⟨0, _, rfl, rfl, .same nns⟩, trivial⟩, rfl, ?_⟩
    ((conv => whnf); repeat ((first | refine AWp.many ?_ | refine AOps.many ?_ | refine ADr.go ?_); conv => whnf))
    exact fin_mk (n' := 1) (m' := [(0, cI res)]) [(0, 0)] rfl ⟨⟨0, _, rfl, rfl, .same nns⟩, trivial⟩ (.same _ nn) ⟨rfl, rfl⟩

theorem vSize : ∀ v : Val, sizeV v ≤ 1048576 → PureC Tryz.prog [] 61 [encV v] (.int .i64 (sizeV v))
  | .mk vk vn vs ks, hs => by
    have hd := depth_le_size (.mk vk vn vs ks)
    have hw := vVisitS (.mk vk vn vs ks) 0 (by omega) (by omega)
    rw [show resV (fun n _ => n + 1) (.mk vk vn vs ks) 1 0 = sizeV (.mk vk vn vs ks) by rw [res_size]; omega] at hw
    generalize sizeV (.mk vk vn vs ks) = res at hw
    refine acalls_go nnΓ Tryz.func61 rfl ?_
    ((conv => whnf); repeat ((first | refine AWp.many ?_ | refine AOps.many ?_ | refine ADr.go ?_); conv => whnf))
    refine ACalls.useR nnΓ [(1, 0)] hw (by rfl) (.cons (.same _ nn) (.cons (cvF1 rfl) .nil)) ⟨⟨1, _, rfl, rfl, .same nns⟩, trivial⟩ rfl ?_
    rintro r m n' ⟨rfl, rfl⟩
    refine ⟨[(1, cI res)], nn, ⟨⟨0, _, rfl, rfl, .same nns⟩, trivial⟩, rfl, ?_⟩
    ((conv => whnf); repeat ((first | refine AWp.many ?_ | refine AOps.many ?_ | refine ADr.go ?_); conv => whnf))
    exact fin_pure nn ⟨rfl, rfl, rfl⟩

theorem vVisitD : ∀ (v : Val) (n : Nat), 1 + depthV v ≤ 1099511627776 → max n (1 + depthV v) + sizeV v ≤ 4398046511104 →
      ACalls Tryz.prog [] 96 [encV v, .fn (.func 108) [] [.ptr 0 0 0]] [(0, cI n)] 1 fun r m _ => r = .tup [] ∧ m = [(0, cI (resV (fun n d => max n d) v 1 n))]
  | .mk vk vn vs ks, n, hd, hb => by
    have hw := visit1D (fun n d => max n d) (fun n d => by omega) seeD (.mk vk vn vs ks) 1 n hd hb
    generalize resV (fun n d => max n d) (.mk vk vn vs ks) 1 n = res at hw
    refine acalls_go nnΓ Tryz.func96 rfl ?_
    ((conv => whnf); repeat ((first | refine AWp.many ?_ | refine AOps.many ?_ | refine ADr.go ?_); conv => whnf))
    refine ACalls.useR nnΓ [(0, 0), (2, 1), (3, 2)] hw (by rfl) (.cons (.same _ nn) (.cons (.int rfl) (.cons (.ptr 2 1 0 0 rfl) (.cons (.ptr 3 2 0 0 rfl) .nil))))
      ⟨⟨0, _, rfl, rfl, .same nns⟩, ⟨2, _, rfl, rfl, cvFn1R rfl⟩, ⟨3, _, rfl, rfl, cvFn2R rfl rfl⟩, trivial⟩ rfl ?_
    rintro r m n' ⟨rfl, rfl⟩
    refine ⟨[(0, cI res)], nn, ⟨⟨0, _, rfl, rfl, .same nns⟩, trivial⟩, rfl, ?_⟩
    ((conv => whnf); repeat ((first | refine AWp.many ?_ | refine AOps.many ?_ | refine ADr.go ?_); conv => whnf))
    exact fin_mk (n' := 1) (m' := [(0, cI res)]) [(0, 0)] rfl ⟨⟨0, _, rfl, rfl, .same nns⟩, trivial⟩ (.same _ nn) ⟨rfl, rfl⟩

theorem vDepth : ∀ v : Val, sizeV v ≤ 1048576 → PureC Tryz.prog [] 62 [encV v] (.int .i64 (depthV v))
  | .mk vk vn vs ks, hs => by
    have hd := depth_le_size (.mk vk vn vs ks)
    have hw := vVisitD (.mk vk vn vs ks) 0 (by omega) (by omega)
    rw [show resV (fun n d => max n d) (.mk vk vn vs ks) 1 0 = depthV (.mk vk vn vs ks) by rw [res_depth]; omega] at hw
    generalize depthV (.mk vk vn vs ks) = res at hw
    refine acalls_go nnΓ Tryz.func62 rfl ?_
    ((conv => whnf); repeat ((first | refine AWp.many ?_ | refine AOps.many ?_ | refine ADr.go ?_); conv => whnf))
    refine ACalls.useR nnΓ [(1, 0)] hw (by rfl) (.cons (.same _ nn) (.cons (cvF1 rfl) .nil)) ⟨⟨1, _, rfl, rfl, .same nns⟩, trivial⟩ rfl ?_
    rintro r m n' ⟨rfl, rfl⟩
    refine ⟨[(1, cI res)], nn, ⟨⟨0, _, rfl, rfl, .same nns⟩, trivial⟩, rfl, ?_⟩
    ((conv => whnf); repeat ((first | refine AWp.many ?_ | refine AOps.many ?_ | refine ADr.go ?_); conv => whnf))
    exact fin_pure nn ⟨rfl, rfl, rfl⟩


/-! ### 'Valid' -/
abbrev VS := Nat × Bool × Bool
def vC (x : VS) : Mem := [(0, cI x.1), (1, cB x.2.1), (2, cB x.2.2)]
def wV (x : VS) : Mem := [(0, cI x.1), (1, cB x.2.1), (2, cB x.2.2), (3, cF (.fn (.func 97) [] [.ptr 0 0 0, .ptr 1 0 0, .ptr 2 0 0])), (4, cF (.fn (.func 139) [] [.ptr 3 0 0, .ptr 4 0 0]))]

theorem seeV (vk vn : Int) (vs : List UInt8) (ks : List Val) (hs : vs.length ≤ 4294967296) (d : Nat) (x : VS) (hx : x.1 ≤ 4398046511104) :
    ACalls Tryz.prog [] 97 [encV (.mk vk vn vs ks), .int .i64 d, .ptr 0 0 0, .ptr 1 0 0, .ptr 2 0 0] (vC x) 3 fun r m _ => r = .bool (stValid x (.mk vk vn vs ks) d).1 ∧ m = vC (stValid x (.mk vk vn vs ks) d).2 := by
  obtain ⟨n, g, s⟩ := x
  have h1 := vFormed vk vn vs ks hs
  have h2 := vFits vk vn vs ks
  have hst : stValid (n, g, s) (.mk vk vn vs ks) d = (g && formed1 vk vn vs ks.length, (n + 1, g && formed1 vk vn vs ks.length, s && fits1 vk ks.length)) := rfl
  generalize formed1 vk vn vs ks.length = fb at h1 hst
  generalize fits1 vk ks.length = tb at h2 hst
  rw [hst]
  simp only at hx
  refine acalls_go nnΓ Tryz.func97 rfl ?_
  cases g <;> cases s
  all_goals
    ((conv => whnf); repeat ((first | refine AWp.many ?_ | refine AOps.many ?_ | refine ADr.go ?_); conv => whnf))
    try (refine h1.go ?_; ((conv => whnf); repeat ((first | refine AWp.many ?_ | refine AOps.many ?_ | refine ADr.go ?_); conv => whnf)))
    try (refine h2.go ?_; ((conv => whnf); repeat ((first | refine AWp.many ?_ | refine AOps.many ?_ | refine ADr.go ?_); conv => whnf)))
    exact fin_mk (n' := 3) (m' := vC (n + 1, _, _)) [(0, 0), (1, 1), (2, 2)] rfl ⟨⟨0, _, rfl, rfl, .cons (.one rfl rfl (.w64 (by omega) ⟨by omega, by omega⟩)) .nil⟩, ⟨1, _, rfl, rfl, .same nns⟩, ⟨2, _, rfl, rfl, .same nns⟩, trivial⟩ (.same _ nn) ⟨rfl, rfl⟩

theorem visitV : ∀ (v : Val) (d : Nat) (x : VS), okV v → d + depthV v ≤ 1099511627776 → x.1 + sizeV v ≤ 4398046511104 →
      ACalls Tryz.prog [] 139 [encV v, .int .i64 d, .ptr 3 0 0, .ptr 4 0 0] (wV x) 5 fun r m _ => r = .bool (visS stValid v d x).1 ∧ m = wV (visS stValid v d x).2
  | .mk vk vn vs ks, d, x, hok, hd, hb => by
    simp only [okV] at hok
    obtain ⟨hv1, hv2, hv3, hv4, hv5⟩ := hok
    have ih : ∀ a ∈ ks, ∀ (d : Nat) (x : VS), d + depthV a ≤ 1099511627776 → x.1 + sizeV a ≤ 4398046511104 → ACalls Tryz.prog [] 139 [encV a, .int .i64 d, .ptr 3 0 0, .ptr 4 0 0] (wV x) 5 fun r m _ => r = .bool (visS stValid a d x).1 ∧ m = wV (visS stValid a d x).2 :=
      fun a hm d x h1 h2 => visitV a d x (okVs_mem hv5 a hm) h1 h2
    simp only [depthV, sizeV] at hd hb
    have hlen := sizeL_len ks
    have hsee := seeV vk vn vs ks hv3 d x (by omega)
    have hy1 : (stValid x (.mk vk vn vs ks) d).2.1 = x.1 + 1 := rfl
    generalize hst0 : stValid x (.mk vk vn vs ks) d = st at hsee hy1
    obtain ⟨b, y⟩ := st
    simp only at hy1
    refine acalls_go nnΓ Tryz.func139 rfl ?_
    ((conv => whnf); repeat ((first | refine AWp.many ?_ | refine AOps.many ?_ | refine ADr.go ?_); conv => whnf))
    refine ACalls.useI nnΓ [0, 1, 2] hsee (by rfl) (.cons (.same _ nn) (.cons (.same _ nn) (.cons (.ptr 0 0 0 0 rfl) (.cons (.ptr 1 1 0 0 rfl) (.cons (.ptr 2 2 0 0 rfl) .nil))))) ⟨⟨0, _, rfl, rfl, .same nns⟩, ⟨1, _, rfl, rfl, .same nns⟩, ⟨2, _, rfl, rfl, .same nns⟩, trivial⟩ rfl ?_
    rintro r m n' ⟨rfl, rfl⟩
    refine ⟨nn, ⟨⟨0, _, rfl, rfl, .same nns⟩, ⟨1, _, rfl, rfl, .same nns⟩, ⟨2, _, rfl, rfl, .same nns⟩, trivial⟩, rfl, ?_⟩
    cases b with
    | false =>
      ((conv => whnf); repeat ((first | refine AWp.many ?_ | refine AOps.many ?_ | refine ADr.go ?_); conv => whnf))
      refine fin_mk (n' := 5) (m' := wV y) [(0, 0), (1, 1), (2, 2), (3, 3), (4, 4)] rfl ⟨⟨0, _, rfl, rfl, .same nns⟩, ⟨1, _, rfl, rfl, .same nns⟩, ⟨2, _, rfl, rfl, .same nns⟩, ⟨3, _, rfl, rfl, cvFn3 rfl rfl rfl⟩, ⟨4, _, rfl, rfl, cvFn2 rfl rfl⟩, trivial⟩ (.same _ nn) ?_
      have hvis : visS stValid (.mk vk vn vs ks) d x = (false, y) := by rw [visS, hst0]
      rw [hvis]
      exact ⟨rfl, rfl⟩
    | true =>
      have hvis : visS stValid (.mk vk vn vs ks) d x = visL stValid ks (d + 1) y := by rw [visS, hst0]
      ((conv => whnf); repeat ((first | refine AWp.many ?_ | refine AOps.many ?_ | refine ADr.go ?_); conv => whnf))
      refine ALoop.at nnΓ (fun a : Nat × VS => a.1 ≤ ks.length ∧ visL stValid (ks.take a.1) (d + 1) y = (true, a.2))
        (fun a => ⟨[(1, .int .i64 d), (3, .ptr 4 0 0), (15, .il 4 (encVs ks)), (16, .int .i64 (encVs ks).length), (17, .int .i64 a.1)], wV a.2, 5, 28⟩)
        (fun a => ks.length - a.1) (0, y) [(0, 0), (1, 1), (2, 2), (3, 3), (4, 4)] ⟨by simp, rfl⟩
        (conv_mk _ rfl ⟨⟨0, _, rfl, rfl, .same nns⟩, ⟨1, _, rfl, rfl, .same nns⟩, ⟨2, _, rfl, rfl, .same nns⟩, ⟨3, _, rfl, rfl, cvFn3 rfl rfl rfl⟩, ⟨4, _, rfl, rfl, cvFn2 rfl rfl⟩, trivial⟩ ⟨⟨_, rfl, .same _ nn⟩, ⟨_, rfl, .ptr 4 4 0 0 rfl⟩, ⟨_, rfl, .same _ nn⟩, ⟨_, rfl, .same _ nn⟩, ⟨_, rfl, .same _ nn⟩, trivial⟩) ?_
      rintro ⟨k, z⟩ ⟨hk, hz⟩
      simp only at hk hz
      have hcnt := visL_cnt (ks.take k) (d + 1) y
      rw [hz] at hcnt
      simp only at hcnt
      ((conv => whnf); repeat ((first | refine AWp.many ?_ | refine AOps.many ?_ | refine ADr.go ?_); conv => whnf))
      refine bcs_mk (fun h => ?_) (fun h => ?_)
      · have hlt : k < ks.length := klt h
        obtain ⟨a, b, c, e, hm, hg', he, e1⟩ := enc_cases hlt
        have hst := sizeL_take hlt
        rw [he] at hst
        have hst' := sizeL_take_le ks (k + 1)
        have hdm := depthL_mem hm
        have hnext := visL_take stValid hlt (d + 1) y z hz
        rw [he] at hnext
        have hb2 : z.1 + sizeV (.mk a b c e) ≤ 4398046511104 := by omega
        have hih := ih _ hm (d + 1) z (by omega) hb2
        generalize visS stValid (.mk a b c e) (d + 1) z = st2 at hih hnext
        obtain ⟨b2, z2⟩ := st2
        ((conv => whnf); repeat ((first | refine AWp.many ?_ | refine AOps.many ?_ | refine ADr.go ?_); conv => whnf))
        refine opt_mk e1 ?_
        ((conv => whnf); repeat ((first | refine AWp.many ?_ | refine AOps.many ?_ | refine ADr.go ?_); conv => whnf))
        rw [w64 (x := (d : Int) + 1) (y := ((d + 1 : Nat) : Int)) (by omega) ⟨by omega, by omega⟩]
        refine ACalls.useI nnΓ [0, 1, 2, 3, 4] hih (by rfl) (.cons (.same _ nn) (.cons (.same _ nn) (.cons (.ptr 3 3 0 0 rfl) (.cons (.ptr 4 4 0 0 rfl) .nil))))
          ⟨⟨0, _, rfl, rfl, .same nns⟩, ⟨1, _, rfl, rfl, .same nns⟩, ⟨2, _, rfl, rfl, .same nns⟩, ⟨3, _, rfl, rfl, cvFn3 rfl rfl rfl⟩, ⟨4, _, rfl, rfl, cvFn2 rfl rfl⟩, trivial⟩ rfl ?_
        rintro r m n' ⟨rfl, rfl⟩
        refine ⟨nn, ⟨⟨0, _, rfl, rfl, .same nns⟩, ⟨1, _, rfl, rfl, .same nns⟩, ⟨2, _, rfl, rfl, .same nns⟩, ⟨3, _, rfl, rfl, cvFn3 rfl rfl rfl⟩, ⟨4, _, rfl, rfl, cvFn2 rfl rfl⟩, trivial⟩, rfl, ?_⟩
        cases b2 with
        | false =>
          ((conv => whnf); repeat ((first | refine AWp.many ?_ | refine AOps.many ?_ | refine ADr.go ?_); conv => whnf))
          refine fin_mk (n' := 5) (m' := wV z2) [(0, 0), (1, 1), (2, 2), (3, 3), (4, 4)] rfl ⟨⟨0, _, rfl, rfl, .same nns⟩, ⟨1, _, rfl, rfl, .same nns⟩, ⟨2, _, rfl, rfl, .same nns⟩, ⟨3, _, rfl, rfl, cvFn3 rfl rfl rfl⟩, ⟨4, _, rfl, rfl, cvFn2 rfl rfl⟩, trivial⟩ (.same _ nn) ?_
          have := visL_stop stValid (m := ks.drop (k + 1)) hnext
          rw [List.take_append_drop] at this
          rw [hvis, this]
          exact ⟨rfl, rfl⟩
        | true =>
          ((conv => whnf); repeat ((first | refine AWp.many ?_ | refine AOps.many ?_ | refine ADr.go ?_); conv => whnf))
          exact .mk (k + 1, z2) [(0, 0), (1, 1), (2, 2), (3, 3), (4, 4)] ⟨by simp only; omega, hnext⟩
            (conv_mk _ rfl ⟨⟨0, _, rfl, rfl, .same nns⟩, ⟨1, _, rfl, rfl, .same nns⟩, ⟨2, _, rfl, rfl, .same nns⟩, ⟨3, _, rfl, rfl, cvFn3 rfl rfl rfl⟩, ⟨4, _, rfl, rfl, cvFn2 rfl rfl⟩, trivial⟩ ⟨⟨_, rfl, .same _ nn⟩, ⟨_, rfl, .ptr 4 4 0 0 rfl⟩, ⟨_, rfl, .same _ nn⟩, ⟨_, rfl, .same _ nn⟩, ⟨_, rfl, .w64 (by omega) ⟨by omega, by omega⟩⟩, trivial⟩) (by simp only; omega)
      · have hk' : k = ks.length := by have := kge h; omega
        ((conv => whnf); repeat ((first | refine AWp.many ?_ | refine AOps.many ?_ | refine ADr.go ?_); conv => whnf))
        refine fin_mk (n' := 5) (m' := wV z) [(0, 0), (1, 1), (2, 2), (3, 3), (4, 4)] rfl ⟨⟨0, _, rfl, rfl, .same nns⟩, ⟨1, _, rfl, rfl, .same nns⟩, ⟨2, _, rfl, rfl, .same nns⟩, ⟨3, _, rfl, rfl, cvFn3 rfl rfl rfl⟩, ⟨4, _, rfl, rfl, cvFn2 rfl rfl⟩, trivial⟩ (.same _ nn) ?_
        rw [hk', List.take_length] at hz
        rw [hvis, hz]
        exact ⟨rfl, rfl⟩
  termination_by v => SizeOf.sizeOf v
  decreasing_by simp; have := List.sizeOf_lt_of_mem hm; omega

theorem vVisitV : ∀ (v : Val) (x : VS), okV v → 1 + depthV v ≤ 1099511627776 → x.1 + sizeV v ≤ 4398046511104 →
      ACalls Tryz.prog [] 96 [encV v, .fn (.func 97) [] [.ptr 0 0 0, .ptr 1 0 0, .ptr 2 0 0]] (vC x) 3 fun r m _ => r = .tup [] ∧ m = vC (visS stValid v 1 x).2
  | .mk vk vn vs ks, x, hok, hd, hb => by
    have hw := visitV (.mk vk vn vs ks) 1 x hok hd hb
    generalize visS stValid (.mk vk vn vs ks) 1 x = st at hw
    obtain ⟨b, y⟩ := st
    refine acalls_go nnΓ Tryz.func96 rfl ?_
    ((conv => whnf); repeat ((first | refine AWp.many ?_ | refine AOps.many ?_ | refine ADr.go ?_); conv => whnf))
    refine ACalls.useR nnΓ [(0, 0), (1, 1), (2, 2), (4, 3), (5, 4)] hw (by rfl) (.cons (.same _ nn) (.cons (.int rfl) (.cons (.ptr 4 3 0 0 rfl) (.cons (.ptr 5 4 0 0 rfl) .nil))))
      ⟨⟨0, _, rfl, rfl, .same nns⟩, ⟨1, _, rfl, rfl, .same nns⟩, ⟨2, _, rfl, rfl, .same nns⟩, ⟨4, _, rfl, rfl, cvFn3R rfl rfl rfl⟩, ⟨5, _, rfl, rfl, cvFn2R rfl rfl⟩, trivial⟩ rfl ?_
    rintro r m n' ⟨rfl, rfl⟩
    refine ⟨[(0, cI y.1), (1, cB y.2.1), (2, cB y.2.2)], nn, ⟨⟨0, _, rfl, rfl, .same nns⟩, ⟨1, _, rfl, rfl, .same nns⟩, ⟨2, _, rfl, rfl, .same nns⟩, trivial⟩, rfl, ?_⟩
    ((conv => whnf); repeat ((first | refine AWp.many ?_ | refine AOps.many ?_ | refine ADr.go ?_); conv => whnf))
    exact fin_mk (n' := 3) (m' := vC y) [(0, 0), (1, 1), (2, 2)] rfl ⟨⟨0, _, rfl, rfl, .same nns⟩, ⟨1, _, rfl, rfl, .same nns⟩, ⟨2, _, rfl, rfl, .same nns⟩, trivial⟩ (.same _ nn) ⟨rfl, rfl⟩

/-- 'values.Valid'. -/
theorem vValid : ∀ v : Val, okV v → sizeV v ≤ 1048576 → PureC Tryz.prog [] 53 [encV v] (.int .i64 (validV v))
  | .mk vk vn vs ks, hok, hs => by
    have hd := depth_le_size (.mk vk vn vs ks)
    have hw := vVisitV (.mk vk vn vs ks) (0, true, true) hok (by omega) (by simp only; omega)
    have hval := valid_vis (.mk vk vn vs ks)
    generalize validV (.mk vk vn vs ks) = res at hval
    generalize (visS stValid (.mk vk vn vs ks) 1 (0, true, true)).2 = y at hw hval
    obtain ⟨n, g, s⟩ := y
    simp only at hval
    refine acalls_go nnΓ Tryz.func53 rfl ?_
    ((conv => whnf); repeat ((first | refine AWp.many ?_ | refine AOps.many ?_ | refine ADr.go ?_); conv => whnf))
    refine ACalls.useR nnΓ [(1, 0), (2, 1), (3, 2)] hw (by rfl) (.cons (.same _ nn) (.cons (cvF3 rfl rfl rfl) .nil)) ⟨⟨1, _, rfl, rfl, .same nns⟩, ⟨2, _, rfl, rfl, .same nns⟩, ⟨3, _, rfl, rfl, .same nns⟩, trivial⟩ rfl ?_
    rintro r m n' ⟨rfl, rfl⟩
    refine ⟨[(1, cI n), (2, cB g), (3, cB s)], nn, ⟨⟨0, _, rfl, rfl, .same nns⟩, ⟨1, _, rfl, rfl, .same nns⟩, ⟨2, _, rfl, rfl, .same nns⟩, trivial⟩, rfl, ?_⟩
    cases g with
    | false =>
      ((conv => whnf); repeat ((first | refine AWp.many ?_ | refine AOps.many ?_ | refine ADr.go ?_); conv => whnf))
      refine fin_pure nn ⟨?_, rfl, rfl⟩
      rw [← hval]; rfl
    | true =>
      cases s with
      | false =>
        ((conv => whnf); repeat ((first | refine AWp.many ?_ | refine AOps.many ?_ | refine ADr.go ?_); conv => whnf))
        refine fin_pure nn ⟨?_, rfl, rfl⟩
        rw [← hval]; simp
      | true =>
        ((conv => whnf); repeat ((first | refine AWp.many ?_ | refine AOps.many ?_ | refine ADr.go ?_); conv => whnf))
        refine bcs_mk (fun h => ?_) (fun h => ?_)
        · ((conv => whnf); repeat ((first | refine AWp.many ?_ | refine AOps.many ?_ | refine ADr.go ?_); conv => whnf))
          refine fin_pure nn ⟨?_, rfl, rfl⟩
          rw [← hval, if_neg (by simp), if_pos (by simp at h; omega)]
        · ((conv => whnf); repeat ((first | refine AWp.many ?_ | refine AOps.many ?_ | refine ADr.go ?_); conv => whnf))
          refine fin_pure nn ⟨?_, rfl, rfl⟩
          rw [← hval, if_neg (by simp), if_neg (by simp at h; simp; omega)]
end Go.Proofs.YtfnhkfdjhmgjbaaGreatDoor

namespace Go.Proofs.YtfnhkfdjhmgjbaaGreatDoor
open Go Go.Ax Go.Proofs
set_option linter.unusedVariables false
set_option maxRecDepth 100000
set_option maxHeartbeats 4000000

/-- 'refuterref10.Decimal'. -/
theorem rDecimal (n : Int) (hn : i64 n) : PureC Tryz.prog [] 46 [.int .i64 n] (.str (Lib.itoa n)) := by
  unfold i64 at hn
  refine acalls_go nnΓ Tryz.func46 rfl ?_
  by_cases h0 : n = 0
  · subst h0
    rw [itoa_zero]
    ((conv => whnf); repeat ((first | refine AWp.many ?_ | refine AOps.many ?_ | refine ADr.go ?_); conv => whnf))
    exact fin_pure nn ⟨rfl, rfl, rfl⟩
  have e0 : (n == 0) = false := by simpa using h0
  ((conv => whnf); repeat ((first | refine AWp.many ?_ | refine AOps.many ?_ | refine ADr.go ?_); conv => whnf))
  rw [e0]
  ((conv => whnf); repeat ((first | refine AWp.many ?_ | refine AOps.many ?_ | refine ADr.go ?_); conv => whnf))
  refine ALoop.at nnΓ (fun a : Int × List UInt8 => a.1.natAbs ≤ n.natAbs ∧ (a.1 = 0 ∨ (a.1 < 0 ↔ n < 0)) ∧ Lib.decDigits n.natAbs = decRest a.1.natAbs ++ a.2)
    (fun a => ⟨[(0, .int .i64 n), (3, .str a.2), (4, .int .i64 a.1)], [], 0, 31⟩) (fun a => a.1.natAbs) (n, []) [] ⟨Nat.le_refl _, .inr Iff.rfl, by simp [decRest, h0]⟩
    (conv_pure ⟨⟨_, rfl, .same _ nn⟩, ⟨_, rfl, .same _ nn⟩, ⟨_, rfl, .same _ nn⟩, trivial⟩) ?_
  rintro ⟨k, s⟩ ⟨hk1, hk2, hk3⟩
  simp only at hk1 hk2 hk3
  have hsl : s.length ≤ 20 := by
    have h1 := nDigits_le n.natAbs (by omega)
    rw [← Lib.decDigits_length, hk3, List.length_append] at h1
    omega
  by_cases hk0 : k = 0
  · subst hk0
    rw [show decRest (Int.natAbs 0) = [] from rfl, List.nil_append] at hk3
    ((conv => whnf); repeat ((first | refine AWp.many ?_ | refine AOps.many ?_ | refine ADr.go ?_); conv => whnf))
    refine bcs_mk (fun h => ?_) (fun h => ?_)
    · ((conv => whnf); repeat ((first | refine AWp.many ?_ | refine AOps.many ?_ | refine ADr.go ?_); conv => whnf))
      refine grd_mk (Nat.ble_eq_true_of_le (by simp; omega)) ?_
      ((conv => whnf); repeat ((first | refine AWp.many ?_ | refine AOps.many ?_ | refine ADr.go ?_); conv => whnf))
      refine fin_pure nn ⟨?_, rfl, rfl⟩
      rw [Lib.itoa, if_pos (by simpa using h), hk3]
      rfl
    · ((conv => whnf); repeat ((first | refine AWp.many ?_ | refine AOps.many ?_ | refine ADr.go ?_); conv => whnf))
      refine fin_pure nn ⟨?_, rfl, rfl⟩
      have h' : ¬ n < 0 := by simpa using h
      have e : n.toNat = n.natAbs := by omega
      rw [Lib.itoa, if_neg h', e, hk3]
  · have e1 : (k == 0) = false := by simpa using hk0
    ((conv => whnf); repeat ((first | refine AWp.many ?_ | refine AOps.many ?_ | refine ADr.go ?_); conv => whnf))
    rw [show ((k, s).fst != 0) = true by simpa using hk0]
    have hq := Int.mul_tdiv_add_tmod k 10
    have hkq : k.tdiv 10 = if 0 ≤ k then ((k.natAbs / 10 : Nat) : Int) else -((k.natAbs / 10 : Nat) : Int) := by
      split
      · rw [Int.tdiv_eq_ediv_of_nonneg (by assumption)]; omega
      · obtain ⟨q, rfl⟩ : ∃ q : Nat, k = -(q : Int) := ⟨k.natAbs, by omega⟩
        rw [Int.neg_tdiv, Int.tdiv_eq_ediv_of_nonneg (by omega)]; simp
    have hkm : (k.tmod 10).natAbs = k.natAbs % 10 := by split at hkq <;> omega
    have hkb : (k.tdiv 10).natAbs = k.natAbs / 10 := by split at hkq <;> omega
    have hstep := decRest_step (k := k.natAbs) (by omega)
    have hfin : ∀ d : Int, d = ((k.natAbs % 10 : Nat) : Int) → UInt8.ofNat (IntKind.u8.wrap (IntKind.i64.wrap (48 + d))).toNat = UInt8.ofNat (48 + k.natAbs % 10) := by
      intro d hd
      have e1 : IntKind.i64.wrap (48 + d) = 48 + d := wrap64 ⟨by omega, by omega⟩
      have e2 : IntKind.u8.wrap (48 + d) = 48 + d := IntWalk.u8_in _ ⟨by omega, by omega⟩
      rw [e1, e2, hd]
      congr 1
    have hnext : ∀ b : UInt8, b = UInt8.ofNat (48 + k.natAbs % 10) → (fun a : Int × List UInt8 => a.1.natAbs ≤ n.natAbs ∧ (a.1 = 0 ∨ (a.1 < 0 ↔ n < 0)) ∧ Lib.decDigits n.natAbs = decRest a.1.natAbs ++ a.2) (k.tdiv 10, b :: s) := by
      intro b hb
      refine ⟨by simp only; omega, ?_, ?_⟩
      · simp only
        split at hkq <;> omega
      · simp only
        rw [hk3, hstep, hkb, hb]
        simp
    have hb : i64 (k.tdiv 10) := by
      unfold i64
      split at hkq <;> omega
    ((conv => whnf); repeat ((first | refine AWp.many ?_ | refine AOps.many ?_ | refine ADr.go ?_); conv => whnf))
    refine bcs_mk (fun h => ?_) (fun h => ?_)
    · have h' : k.tmod 10 < 0 := by simpa using h
      have e1 : IntKind.i64.wrap (0 - k.tmod 10) = ((k.natAbs % 10 : Nat) : Int) := by rw [wrap64 ⟨by omega, by omega⟩]; omega
      ((conv => whnf); repeat ((first | refine AWp.many ?_ | refine AOps.many ?_ | refine ADr.go ?_); conv => whnf))
      refine grd_mk (Nat.ble_eq_true_of_le (by simp; omega)) ?_
      ((conv => whnf); repeat ((first | refine AWp.many ?_ | refine AOps.many ?_ | refine ADr.go ?_); conv => whnf))
      exact .mk (k.tdiv 10, _ :: s) [] (hnext _ (hfin _ e1)) (conv_pure ⟨⟨_, rfl, .same _ nn⟩, ⟨_, rfl, .same _ nn⟩, ⟨_, rfl, .int (wrap64 hb)⟩, trivial⟩) (by simp only; omega)
    · have h' : ¬ k.tmod 10 < 0 := by simpa using h
      have e1 : k.tmod 10 = ((k.natAbs % 10 : Nat) : Int) := by omega
      ((conv => whnf); repeat ((first | refine AWp.many ?_ | refine AOps.many ?_ | refine ADr.go ?_); conv => whnf))
      refine grd_mk (Nat.ble_eq_true_of_le (by simp; omega)) ?_
      ((conv => whnf); repeat ((first | refine AWp.many ?_ | refine AOps.many ?_ | refine ADr.go ?_); conv => whnf))
      exact .mk (k.tdiv 10, _ :: s) [] (hnext _ (hfin _ e1)) (conv_pure ⟨⟨_, rfl, .same _ nn⟩, ⟨_, rfl, .same _ nn⟩, ⟨_, rfl, .int (wrap64 hb)⟩, trivial⟩) (by simp only; omega)
end Go.Proofs.YtfnhkfdjhmgjbaaGreatDoor

namespace Go.Proofs.YtfnhkfdjhmgjbaaGreatDoor
open Go Go.Ax Go.Proofs
set_option linter.unusedVariables false
set_option maxRecDepth 100000
set_option maxHeartbeats 4000000

/-- 'refuterref10.Print', for values that are well-formed. -/
theorem rPrint : ∀ v : Val, okV v → formedV v = true → sizeV v ≤ 1000000 → PureC Tryz.prog [] 19 [encV v] (.str (printV v))
  | .mk vk vn vs ks, ho, hf, hs => by
    have hlen := print_len _ ho hf
    simp only [okV] at ho
    obtain ⟨hv1, hv2, hv3, hv4, hv5⟩ := ho
    simp only [formedV, Bool.and_eq_true] at hf
    obtain ⟨hf1, hf2⟩ := hf
    simp only [sizeV] at hs hlen
    have ih : ∀ a ∈ ks, PureC Tryz.prog [] 19 [encV a] (.str (printV a)) := fun a hm =>
      rPrint a (okVs_mem hv5 a hm) (formedL_in hf2 hm) (by have := sizeV_mem hm; omega)
    have hll := printL_len ks hv5 hf2
    have hD := rDecimal vn hv2
    have hpv : printV (.mk vk vn vs ks) = if vk = 0 then Lib.itoa vn else if vk = 1 then (if vn = 1 then tTrue else tFalse) else if vk = 2 then 91 :: (printL ks ++ [93]) else if ks = [] then vs else vs ++ 40 :: (printL ks ++ [41]) := by rw [printV]
    generalize printV (.mk vk vn vs ks) = pv0 at hpv hlen ⊢
    generalize Lib.itoa vn = itn at hD hpv
    refine acalls_go nnΓ Tryz.func19 rfl ?_
    ((conv => whnf); repeat ((first | refine AWp.many ?_ | refine AOps.many ?_ | refine ADr.go ?_); conv => whnf))
    refine ALoop.at nnΓ (fun k : Nat => k ≤ ks.length)
      (fun k => ⟨[(1, .ptr 0 0 0), (3, .str (printL (ks.take k))), (4, .int .i64 k)], [(0, .row 33 4 [encV (.mk vk vn vs ks)])], 1, 56⟩) (fun k => ks.length - k) 0 [(0, 0)] (by simp)
      (conv_mk _ rfl ⟨⟨0, _, rfl, rfl, .same nns⟩, trivial⟩ ⟨⟨_, rfl, .ptr 0 0 0 0 rfl⟩, ⟨_, rfl, .same _ nn⟩, ⟨_, rfl, .same _ nn⟩, trivial⟩) ?_
    intro k hk
    ((conv => whnf); repeat ((first | refine AWp.many ?_ | refine AOps.many ?_ | refine ADr.go ?_); conv => whnf))
    refine bcs_mk (fun h => ?_) (fun h => ?_)
    · have hlt := klt h
      obtain ⟨a, b, c, d, hm, hg, he, e1⟩ := enc_cases hlt
      have hih := ih _ hm
      have hpt := printL_take hlt
      rw [he] at hpt
      have hbound := printL_len (ks.take (k + 1)) (okVs_take hv5 _) (formedL_takeT hf2 _)
      have hsz := sizeL_take_le ks (k + 1)
      rw [hpt] at hbound
      generalize printV (.mk a b c d) = pv at hih hpt hbound
      obtain ⟨pl, hpl⟩ : ∃ pl, pl = printL (ks.take k) := ⟨_, rfl⟩
      rw [← hpl] at hpt hbound ⊢
      simp only [List.length_append] at hbound
      have hnxt : ∀ x : List UInt8, x = pl ++ (if 0 < k then [44, 32] else []) ++ pv → x = printL (ks.take (k + 1)) := fun x hx => by rw [hx, hpt]
      by_cases hk0 : k = 0
      · subst hk0
        ((conv => whnf); repeat ((first | refine AWp.many ?_ | refine AOps.many ?_ | refine ADr.go ?_); conv => whnf))
        refine opt_mk e1 ?_
        ((conv => whnf); repeat ((first | refine AWp.many ?_ | refine AOps.many ?_ | refine ADr.go ?_); conv => whnf))
        refine hih.go ?_
        ((conv => whnf); repeat ((first | refine AWp.many ?_ | refine AOps.many ?_ | refine ADr.go ?_); conv => whnf))
        refine grd_mk (Nat.ble_eq_true_of_le (by (try simp); omega)) ?_
        ((conv => whnf); repeat ((first | refine AWp.many ?_ | refine AOps.many ?_ | refine ADr.go ?_); conv => whnf))
        exact .mk (0 + 1) [(0, 0)] (by omega) (conv_mk _ rfl ⟨⟨0, _, rfl, rfl, .same nns⟩, trivial⟩ ⟨⟨_, rfl, .ptr 0 0 0 0 rfl⟩, ⟨_, rfl, .eq nn (congrArg AV.str (hnxt _ (by simp)))⟩, ⟨_, rfl, .w64 (by omega) ⟨by omega, by omega⟩⟩, trivial⟩) (by omega)
      · have d1 : decide ((k : Int) > 0) = true := by simp; omega
        rw [if_pos (by omega)] at hnxt hbound
        ((conv => whnf); repeat ((first | refine AWp.many ?_ | refine AOps.many ?_ | refine ADr.go ?_); conv => whnf))
        rw [d1]
        ((conv => whnf); repeat ((first | refine AWp.many ?_ | refine AOps.many ?_ | refine ADr.go ?_); conv => whnf))
        refine grd_mk (Nat.ble_eq_true_of_le (by simp at hbound ⊢; omega)) ?_
        generalize hz : pl ++ [44, 32] = z
        have hzl : z.length = pl.length + 2 := by rw [← hz]; simp
        ((conv => whnf); repeat ((first | refine AWp.many ?_ | refine AOps.many ?_ | refine ADr.go ?_); conv => whnf))
        refine opt_mk e1 ?_
        ((conv => whnf); repeat ((first | refine AWp.many ?_ | refine AOps.many ?_ | refine ADr.go ?_); conv => whnf))
        refine hih.go ?_
        ((conv => whnf); repeat ((first | refine AWp.many ?_ | refine AOps.many ?_ | refine ADr.go ?_); conv => whnf))
        refine grd_mk (Nat.ble_eq_true_of_le (by simp at hbound ⊢; omega)) ?_
        ((conv => whnf); repeat ((first | refine AWp.many ?_ | refine AOps.many ?_ | refine ADr.go ?_); conv => whnf))
        exact .mk (k + 1) [(0, 0)] (by omega) (conv_mk _ rfl ⟨⟨0, _, rfl, rfl, .same nns⟩, trivial⟩ ⟨⟨_, rfl, .ptr 0 0 0 0 rfl⟩, ⟨_, rfl, .eq nn (congrArg AV.str (hnxt _ (by rw [hz])))⟩, ⟨_, rfl, .w64 (by omega) ⟨by omega, by omega⟩⟩, trivial⟩) (by omega)
    · have hk' : k = ks.length := by have := kge h; omega
      clear ih
      rw [hk', List.take_length]
      generalize printL ks = pl at hll hpv
      rcases (show vk = 0 ∨ vk = 1 ∨ vk = 2 ∨ vk = 3 by
        unfold formed1 at hf1
        by_cases h0 : vk = 0
        · exact .inl h0
        by_cases h1 : vk = 1
        · exact .inr (.inl h1)
        by_cases h2 : vk = 2
        · exact .inr (.inr (.inl h2))
        by_cases h3 : vk = 3
        · exact .inr (.inr (.inr h3))
        simp [h0, h1, h2, h3] at hf1) with rfl | rfl | rfl | rfl
      · ((conv => whnf); repeat ((first | refine AWp.many ?_ | refine AOps.many ?_ | refine ADr.go ?_); conv => whnf))
        refine hD.go ?_
        ((conv => whnf); repeat ((first | refine AWp.many ?_ | refine AOps.many ?_ | refine ADr.go ?_); conv => whnf))
        refine fin_pure nn ⟨?_, rfl, rfl⟩
        rw [hpv]; rfl
      · have hvn : vn = 0 ∨ vn = 1 := by unfold formed1 at hf1; simp at hf1; exact hf1.1.1
        rcases hvn with rfl | rfl
        · ((conv => whnf); repeat ((first | refine AWp.many ?_ | refine AOps.many ?_ | refine ADr.go ?_); conv => whnf))
          refine fin_pure nn ⟨?_, rfl, rfl⟩
          rw [hpv]; rfl
        · ((conv => whnf); repeat ((first | refine AWp.many ?_ | refine AOps.many ?_ | refine ADr.go ?_); conv => whnf))
          refine fin_pure nn ⟨?_, rfl, rfl⟩
          rw [hpv]; rfl
      · ((conv => whnf); repeat ((first | refine AWp.many ?_ | refine AOps.many ?_ | refine ADr.go ?_); conv => whnf))
        refine grd_mk (Nat.ble_eq_true_of_le (by (try simp); omega)) ?_
        generalize hz : [91] ++ pl = z
        have hzl : z.length = pl.length + 1 := by rw [← hz]; simp
        ((conv => whnf); repeat ((first | refine AWp.many ?_ | refine AOps.many ?_ | refine ADr.go ?_); conv => whnf))
        refine grd_mk (Nat.ble_eq_true_of_le (by (try simp); omega)) ?_
        ((conv => whnf); repeat ((first | refine AWp.many ?_ | refine AOps.many ?_ | refine ADr.go ?_); conv => whnf))
        refine fin_pure nn ⟨?_, rfl, rfl⟩
        rw [hpv, ← hz]; rfl
      · cases ks with
        | nil =>
          ((conv => whnf); repeat ((first | refine AWp.many ?_ | refine AOps.many ?_ | refine ADr.go ?_); conv => whnf))
          refine fin_pure nn ⟨?_, rfl, rfl⟩
          rw [hpv]; rfl
        | cons x r =>
          ((conv => whnf); repeat ((first | refine AWp.many ?_ | refine AOps.many ?_ | refine ADr.go ?_); conv => whnf))
          refine grd_mk (Nat.ble_eq_true_of_le (by (try simp); omega)) ?_
          generalize hz : vs ++ [40] = z
          have hzl : z.length = vs.length + 1 := by rw [← hz]; simp
          ((conv => whnf); repeat ((first | refine AWp.many ?_ | refine AOps.many ?_ | refine ADr.go ?_); conv => whnf))
          refine grd_mk (Nat.ble_eq_true_of_le (by (try simp); omega)) ?_
          generalize hz2 : z ++ pl = z2
          have hzl2 : z2.length = z.length + pl.length := by rw [← hz2]; simp
          ((conv => whnf); repeat ((first | refine AWp.many ?_ | refine AOps.many ?_ | refine ADr.go ?_); conv => whnf))
          refine grd_mk (Nat.ble_eq_true_of_le (by (try simp); omega)) ?_
          ((conv => whnf); repeat ((first | refine AWp.many ?_ | refine AOps.many ?_ | refine ADr.go ?_); conv => whnf))
          refine fin_pure nn ⟨?_, rfl, rfl⟩
          rw [hpv, ← hz2, ← hz]; simp
  termination_by v => SizeOf.sizeOf v
  decreasing_by simp; have := List.sizeOf_lt_of_mem hm; omega
end Go.Proofs.YtfnhkfdjhmgjbaaGreatDoor

namespace Go.Proofs.YtfnhkfdjhmgjbaaGreatDoor
open Go Go.Ax Go.Proofs
set_option linter.unusedVariables false
set_option maxRecDepth 100000
set_option maxHeartbeats 4000000

theorem take_rest (s : List UInt8) (n : Nat) : List.take (s.length - ((n : Int)).toNat) (List.drop ((n : Int)).toNat s) = List.drop n s := by
  rw [Int.toNat_natCast, List.take_of_length_le (by simp)]
theorem sl2_ok {l h n : Nat} (h1 : l ≤ h) (h2 : h ≤ n) : (Nat.ble l h && Nat.ble h n) = true := by rw [Nat.ble_eq_true_of_le h1, Nat.ble_eq_true_of_le h2]; rfl
/-- The scanner. -/
def sC (s : List UInt8) (p : Nat) : AB := .row 97 2 [.agg [.str s, .int .i64 p]]

theorem sHasPrefix (s q : List UInt8) (hq : q.length ≤ 1000) : PureC Tryz.prog [] 205 [.str s, .str q] (.bool (q.isPrefixOf s)) := by
  refine acalls_go nnΓ Tryz.func205 rfl ?_
  by_cases hl : q.length ≤ s.length
  · have d1 : decide ((s.length : Int) ≥ q.length) = true := by simpa using hl
    ((conv => whnf); repeat ((first | refine AWp.many ?_ | refine AOps.many ?_ | refine ADr.go ?_); conv => whnf))
    rw [d1]
    ((conv => whnf); repeat ((first | refine AWp.many ?_ | refine AOps.many ?_ | refine ADr.go ?_); conv => whnf))
    refine grd_mk (sl2_ok (by (try simp) <;> omega) (by (try simp) <;> omega)) ?_
    ((conv => whnf); repeat ((first | refine AWp.many ?_ | refine AOps.many ?_ | refine ADr.go ?_); conv => whnf))
    refine fin_pure nn ⟨?_, rfl, rfl⟩
    congr 1
    rw [Bool.eq_iff_iff]
    simp
    constructor
    · intro h
      have h2 := List.take_append_drop q.length s
      rw [h] at h2
      exact ⟨s.drop q.length, h2⟩
    · rintro ⟨t, rfl⟩
      simp
  · have d1 : decide ((s.length : Int) ≥ q.length) = false := by simp; omega
    ((conv => whnf); repeat ((first | refine AWp.many ?_ | refine AOps.many ?_ | refine ADr.go ?_); conv => whnf))
    rw [d1]
    ((conv => whnf); repeat ((first | refine AWp.many ?_ | refine AOps.many ?_ | refine ADr.go ?_); conv => whnf))
    refine fin_pure nn ⟨?_, rfl, rfl⟩
    congr 1
    symm
    rw [Bool.eq_false_iff]
    intro h
    simp at h
    have := h.length_le
    omega

def cutR (q s : List UInt8) : List UInt8 := if q.isPrefixOf s then s.drop q.length else s
theorem sCutI (s q : List UInt8) (hq : q.length ≤ 1000) : PureC Tryz.prog [] 184 [.str s, .str q] (.tup [.str (cutR q s), .bool (q.isPrefixOf s)]) := by
  have h := sHasPrefix s q hq
  have hle : q.isPrefixOf s = true → q.length ≤ s.length := fun h => by simp at h; exact h.length_le
  unfold cutR
  generalize q.isPrefixOf s = b at h hle
  refine acalls_go nnΓ Tryz.func184 rfl ?_
  ((conv => whnf); repeat ((first | refine AWp.many ?_ | refine AOps.many ?_ | refine ADr.go ?_); conv => whnf))
  refine h.go ?_
  cases b with
  | false =>
    ((conv => whnf); repeat ((first | refine AWp.many ?_ | refine AOps.many ?_ | refine ADr.go ?_); conv => whnf))
    exact fin_pure nn ⟨rfl, rfl, rfl⟩
  | true =>
    have := hle rfl
    ((conv => whnf); repeat ((first | refine AWp.many ?_ | refine AOps.many ?_ | refine ADr.go ?_); conv => whnf))
    refine grd_mk (sl2_ok (by (try simp) <;> omega) (by (try simp) <;> omega)) ?_
    ((conv => whnf); repeat ((first | refine AWp.many ?_ | refine AOps.many ?_ | refine ADr.go ?_); conv => whnf))
    refine fin_pure nn ⟨?_, rfl, rfl⟩
    congr 3
    exact take_rest s q.length
theorem sCut (s q : List UInt8) (hq : q.length ≤ 1000) : PureC Tryz.prog [] 144 [.str s, .str q] (.tup [.str (cutR q s), .bool (q.isPrefixOf s)]) := by
  have h := sCutI s q hq
  generalize cutR q s = r at h
  generalize q.isPrefixOf s = b at h
  refine acalls_go nnΓ Tryz.func144 rfl ?_
  ((conv => whnf); repeat ((first | refine AWp.many ?_ | refine AOps.many ?_ | refine ADr.go ?_); conv => whnf))
  refine h.go ?_
  ((conv => whnf); repeat ((first | refine AWp.many ?_ | refine AOps.many ?_ | refine ADr.go ?_); conv => whnf))
  exact fin_pure nn ⟨rfl, rfl, rfl⟩

/-- 'accept'. -/
theorem sAccept (s q : List UInt8) (p : Nat) (hq : q.length ≤ 1000) : ACalls Tryz.prog [] 102 [.ptr 0 0 0, .str q] [(0, sC s p)] 1 fun r m _ => r = .bool (q.isPrefixOf s) ∧ m = [(0, sC (cutR q s) p)] := by
  have h := sCut s q hq
  generalize cutR q s = r at h
  generalize q.isPrefixOf s = b at h
  refine acalls_go nnΓ Tryz.func102 rfl ?_
  ((conv => whnf); repeat ((first | refine AWp.many ?_ | refine AOps.many ?_ | refine ADr.go ?_); conv => whnf))
  refine h.go ?_
  ((conv => whnf); repeat ((first | refine AWp.many ?_ | refine AOps.many ?_ | refine ADr.go ?_); conv => whnf))
  exact fin_mk (n' := 1) (m' := [(0, sC r p)]) [(0, 0)] rfl ⟨⟨0, _, rfl, rfl, .same nns⟩, trivial⟩ (.same _ nn) ⟨rfl, rfl⟩

theorem word_take {s : List UInt8} {n : Nat} (h1 : n ≤ s.length) (h2 : ∀ c ∈ s.take n, isNm c = true) (h3 : ∀ c, s[n]? = some c → isNm c = false) : wordOf s = s.take n ∧ restOf s = s.drop n := by
  have hd : (s.drop n).takeWhile isNm = [] ∧ (s.drop n).dropWhile isNm = s.drop n := by
    cases hs : s.drop n with
    | nil => simp
    | cons c r =>
      have : s[n]? = some c := by
        have := List.getElem?_drop (xs := s) (i := n) (j := 0)
        rw [hs] at this
        simpa using this.symm
      simp [h3 c this]
  have e : s = s.take n ++ s.drop n := (List.take_append_drop n s).symm
  have hw : wordOf s = s.take n := by
    unfold wordOf
    rw [e, List.takeWhile_append_of_pos h2, hd.1]
    simp
  refine ⟨hw, ?_⟩
  unfold restOf
  rw [e, List.dropWhile_append_of_pos h2, hd.2]
  simp
/-- 'word'. -/
theorem sWord (s : List UInt8) (p : Nat) (hs : s.length ≤ 4294967296) : ACalls Tryz.prog [] 104 [.ptr 0 0 0] [(0, sC s p)] 1 fun r m _ => r = .str (wordOf s) ∧ m = [(0, sC (restOf s) p)] := by
  refine acalls_go nnΓ Tryz.func104 rfl ?_
  ((conv => whnf); repeat ((first | refine AWp.many ?_ | refine AOps.many ?_ | refine ADr.go ?_); conv => whnf))
  refine ALoop.at nnΓ (fun n : Nat => n ≤ s.length ∧ ∀ c ∈ s.take n, isNm c = true) (fun n => ⟨[(0, .ptr 0 0 0), (3, .int .i64 n)], [(0, sC s p)], 1, 39⟩) (fun n => s.length - n) 0 [(0, 0)] (by simp)
    (conv_mk _ rfl ⟨⟨0, _, rfl, rfl, .same nns⟩, trivial⟩ ⟨⟨_, rfl, .ptr 0 0 0 0 rfl⟩, ⟨_, rfl, .same _ nn⟩, trivial⟩) ?_
  rintro n ⟨hn, hall⟩
  have hend : (∀ c, s[n]? = some c → isNm c = false) → wordOf s = s.take n ∧ restOf s = s.drop n := word_take hn hall
  by_cases hlt : n < s.length
  · have d1 : decide ((n : Int) < s.length) = true := by simpa using hlt
    have hget : s[n]? = some s[n] := List.getElem?_eq_getElem hlt
    have hin := vInName (s[n].toNat : Int)
    have hnm : inNm (s[n].toNat : Int) = isNm s[n] := rfl
    have hts : s.take (n + 1) = s.take n ++ [s[n]] := List.take_succ_eq_append_getElem hlt
    generalize s[n] = c at *
    rw [hnm] at hin
    ((conv => whnf); repeat ((first | refine AWp.many ?_ | refine AOps.many ?_ | refine ADr.go ?_); conv => whnf))
    rw [d1]
    ((conv => whnf); repeat ((first | refine AWp.many ?_ | refine AOps.many ?_ | refine ADr.go ?_); conv => whnf))
    refine opt_mk (show s[((n : Int)).toNat]? = some c by simpa using hget) ?_
    ((conv => whnf); repeat ((first | refine AWp.many ?_ | refine AOps.many ?_ | refine ADr.go ?_); conv => whnf))
    refine hin.go ?_
    cases hb : isNm c with
    | true =>
      ((conv => whnf); repeat ((first | refine AWp.many ?_ | refine AOps.many ?_ | refine ADr.go ?_); conv => whnf))
      exact .mk (n + 1) [(0, 0)] ⟨by omega, fun x hx => by rw [hts] at hx; simp at hx; rcases hx with hx | rfl; exact hall x (by simpa using hx); exact hb⟩
        (conv_mk _ rfl ⟨⟨0, _, rfl, rfl, .same nns⟩, trivial⟩ ⟨⟨_, rfl, .ptr 0 0 0 0 rfl⟩, ⟨_, rfl, .w64 (by omega) ⟨by omega, by omega⟩⟩, trivial⟩) (by omega)
    | false =>
      obtain ⟨e1, e2⟩ := hend (fun x hx => by rw [hget] at hx; cases hx; exact hb)
      ((conv => whnf); repeat ((first | refine AWp.many ?_ | refine AOps.many ?_ | refine ADr.go ?_); conv => whnf))
      refine grd_mk (sl2_ok (by (try simp) <;> omega) (by (try simp) <;> omega)) ?_
      ((conv => whnf); repeat ((first | refine AWp.many ?_ | refine AOps.many ?_ | refine ADr.go ?_); conv => whnf))
      refine grd_mk (sl2_ok (by (try simp) <;> omega) (by (try simp) <;> omega)) ?_
      ((conv => whnf); repeat ((first | refine AWp.many ?_ | refine AOps.many ?_ | refine ADr.go ?_); conv => whnf))
      refine fin_mk (n' := 1) (m' := [(0, sC (restOf s) p)]) (r' := .str (wordOf s)) [(0, 0)] rfl ⟨⟨0, _, rfl, rfl, .eq nns ?_⟩, trivial⟩ (.eq nn ?_) ⟨rfl, rfl⟩
      · rw [e2]; congr 4; exact take_rest s n
      · rw [e1]; congr 1
  · have hn' : n = s.length := by omega
    have d1 : decide ((n : Int) < s.length) = false := by simp; omega
    obtain ⟨e1, e2⟩ := hend (fun x hx => by rw [List.getElem?_eq_none (by omega)] at hx; cases hx)
    ((conv => whnf); repeat ((first | refine AWp.many ?_ | refine AOps.many ?_ | refine ADr.go ?_); conv => whnf))
    rw [d1]
    ((conv => whnf); repeat ((first | refine AWp.many ?_ | refine AOps.many ?_ | refine ADr.go ?_); conv => whnf))
    refine grd_mk (sl2_ok (by (try simp) <;> omega) (by (try simp) <;> omega)) ?_
    ((conv => whnf); repeat ((first | refine AWp.many ?_ | refine AOps.many ?_ | refine ADr.go ?_); conv => whnf))
    refine grd_mk (sl2_ok (by (try simp) <;> omega) (by (try simp) <;> omega)) ?_
    ((conv => whnf); repeat ((first | refine AWp.many ?_ | refine AOps.many ?_ | refine ADr.go ?_); conv => whnf))
    refine fin_mk (n' := 1) (m' := [(0, sC (restOf s) p)]) (r' := .str (wordOf s)) [(0, 0)] rfl ⟨⟨0, _, rfl, rfl, .eq nns ?_⟩, trivial⟩ (.eq nn ?_) ⟨rfl, rfl⟩
    · rw [e2]; congr 4; exact take_rest s n
    · rw [e1]; congr 1
end Go.Proofs.YtfnhkfdjhmgjbaaGreatDoor

namespace Go.Proofs.YtfnhkfdjhmgjbaaGreatDoor
open Go Go.Ax Go.Proofs
set_option linter.unusedVariables false
set_option maxRecDepth 100000
set_option maxHeartbeats 4000000

theorem cut_eq (q s : List UInt8) : cut q s = if q.isPrefixOf s then some (cutR q s) else none := by
  unfold cut cutR
  split <;> rfl
theorem cut_t {q s : List UInt8} (h : q.isPrefixOf s = true) : cut q s = some (cutR q s) := by rw [cut_eq, if_pos h]
theorem cut_f {q s : List UInt8} (h : q.isPrefixOf s = false) : cut q s = none ∧ cutR q s = s := by
  rw [cut_eq, cutR, h]
  exact ⟨rfl, rfl⟩
theorem cutR_len (q s : List UInt8) : (cutR q s).length ≤ s.length := by unfold cutR; split <;> simp

/-- What 'value' gives. -/
def ValQ (f : Nat) (s : List UInt8) (p : Nat) (r : AV) (m : Mem) (_ : Nat) : Prop :=
  ∃ (v : Val) (b : Bool) (s' : List UInt8) (p' : Nat), r = .tup [encV v, .bool b] ∧ m = [(0, sC s' p')] ∧
    (b = true → pVal f s p = some (v, s', p') ∧ sizeV v + p = p' ∧ p' ≤ 1024 ∧ s'.length ≤ s.length ∧ okV v) ∧ (b = false → pVal f s p = none)
def KidQ (f : Nat) (fin : List UInt8) (most : Nat) (s : List UInt8) (p : Nat) (r : AV) (m : Mem) (_ : Nat) : Prop :=
  ∃ (l : List Val) (b : Bool) (s' : List UInt8) (p' : Nat), r = .tup [.il 4 (encVs l), .bool b] ∧ m = [(0, sC s' p')] ∧
    (b = true → pKids (pVal f) fin most s p = some (l, s', p') ∧ sizeL l + p = p' ∧ p' ≤ 1024 ∧ s'.length ≤ s.length ∧ okVs l ∧ l.length ≤ most) ∧ (b = false → pKids (pVal f) fin most s p = none)

/-- 'kids'. -/
theorem sKids (f : Nat) (hV : ∀ (s : List UInt8) (p : Nat), s.length ≤ 1000000000 → 1025 ≤ f + p → p ≤ 1024 → ACalls Tryz.prog gz 59 [.ptr 0 0 0] [(0, sC s p)] 1 (ValQ f s p))
    (fin : List UInt8) (most : Nat) (hf : fin.length ≤ 1000) (hmost : most ≤ 256) (s : List UInt8) (p : Nat) (hs : s.length ≤ 1000000000) (hp : 1025 ≤ f + p) (hp2 : p ≤ 1024) :
    ACalls Tryz.prog gz 103 [.ptr 0 0 0, .str fin, .int .i64 most] [(0, sC s p)] 1 (KidQ f fin most s p) := by
  have h1 := sAccept s fin p hf
  have hcl := cutR_len fin s
  have hK : pKids (pVal f) fin most s p = match cut fin s with
    | some s1 => some ([], s1, p)
    | none => pMore (pVal f) fin most [] s p := rfl
  refine acalls_go nngz Tryz.func103 rfl ?_
  ((conv => whnf); repeat ((first | refine AWp.many ?_ | refine AOps.many ?_ | refine ADr.go ?_); conv => whnf))
  refine ACalls.useI nngz [0] h1.glob (by rfl) (.cons (.ptr 0 0 0 0 rfl) (.cons (.same _ nn) .nil)) ⟨⟨0, _, rfl, rfl, .same nns⟩, trivial⟩ rfl ?_
  rintro r m n' ⟨rfl, rfl⟩
  refine ⟨nn, ⟨⟨0, _, rfl, rfl, .same nns⟩, trivial⟩, rfl, ?_⟩
  cases hb : fin.isPrefixOf s with
  | true =>
    ((conv => whnf); repeat ((first | refine AWp.many ?_ | refine AOps.many ?_ | refine ADr.go ?_); conv => whnf))
    refine fin_mk (n' := 1) (m' := [(0, sC (cutR fin s) p)]) (r' := .tup [.il 4 (encVs []), .bool true]) [(0, 0)] rfl ⟨⟨0, _, rfl, rfl, .same nns⟩, trivial⟩ (.tup' (.cons (.nil 4) (.cons (.same _ nn) .nil))) ⟨[], true, cutR fin s, p, rfl, rfl, fun _ => ⟨?_, ?_, hp2, hcl, by simp [okVs], by simp⟩, fun h => by cases h⟩
    · rw [hK, cut_t hb]
    · simp [sizeL]
  | false =>
    rw [(cut_f hb).2]
    rw [(cut_f hb).1] at hK
    simp only at hK
    have hKN : pKids (pVal f) fin most s p = none → ∀ (s' : List UInt8) (p' : Nat) (mem : Mem) (n : Nat), lk mem 0 = some (sC s' p') → Fini 1 (KidQ f fin most s p) (.tup [.nsl, .bool false]) mem n := by
      intro h s' p' mem n hm
      exact fin_mk (n' := 1) (m' := [(0, sC s' p')]) (r' := .tup [.il 4 (encVs []), .bool false]) [(0, 0)] rfl ⟨⟨0, _, rfl, hm, .same nns⟩, trivial⟩ (.tup' (.cons (.nil 4) (.cons (.same _ nn) .nil))) ⟨[], false, s', p', rfl, rfl, (fun h => by cases h), fun _ => h⟩
    ((conv => whnf); repeat ((first | refine AWp.many ?_ | refine AOps.many ?_ | refine ADr.go ?_); conv => whnf))
    refine ALoop.ph 33 4 ?_
    refine ALoop.at nngz (fun a : List Val × List UInt8 × Nat => a.1.length ≤ most ∧ pKids (pVal f) fin most s p = pMore (pVal f) fin (most - a.1.length) a.1 a.2.1 a.2.2 ∧ sizeL a.1 + p = a.2.2 ∧ a.2.2 ≤ 1024 ∧ a.2.1.length ≤ s.length ∧ okVs a.1)
      (fun a => ⟨[(0, .ptr 0 0 0), (1, .str fin), (2, .int .i64 most), (8, .sl 1 0 a.1.length)], [(0, sC a.2.1 a.2.2), (1, .row 33 4 (encVs a.1))], 2, 36⟩)
      (fun a => most - a.1.length) ([], s, p) [(0, 0), (1, 1)] ⟨by simp, by rw [hK]; rfl, by simp [sizeL], hp2, Nat.le_refl _, by simp [okVs]⟩
      (conv_mk _ rfl ⟨⟨0, _, rfl, rfl, .same nns⟩, ⟨1, _, rfl, rfl, .nil⟩, trivial⟩ ⟨⟨_, rfl, .ptr 0 0 0 0 rfl⟩, ⟨_, rfl, .same _ nn⟩, ⟨_, rfl, .same _ nn⟩, ⟨_, rfl, .nslk 1 1 _ rfl rfl⟩, trivial⟩) ?_
    rintro ⟨acc, s1, p1⟩ ⟨ha1, ha2, ha3, ha4, ha5, ha6⟩
    simp only at ha1 ha2 ha3 ha4 ha5 ha6
    ((conv => whnf); repeat ((first | refine AWp.many ?_ | refine AOps.many ?_ | refine ADr.go ?_); conv => whnf))
    refine bcs_mk (fun h => ?_) (fun h => ?_)
    · have hlt : acc.length < most := by simpa using h
      obtain ⟨mm, hmm⟩ : ∃ mm, most - acc.length = mm + 1 := ⟨most - acc.length - 1, by omega⟩
      rw [hmm] at ha2
      have hm2 : pMore (pVal f) fin (mm + 1) acc s1 p1 = match pVal f s1 p1 with
        | none => none
        | some (v, s1, p1) => match cut fin s1 with
          | some s2 => some (acc ++ [v], s2, p1)
          | none => match cut [44, 32] s1 with
            | some s2 => pMore (pVal f) fin mm (acc ++ [v]) s2 p1
            | none => none := rfl
      rw [hm2] at ha2
      ((conv => whnf); repeat ((first | refine AWp.many ?_ | refine AOps.many ?_ | refine ADr.go ?_); conv => whnf))
      refine ACalls.useI nngz [0] (hV s1 p1 (by omega) (by omega) ha4) (by rfl) (.cons (.ptr 0 0 0 0 rfl) .nil) ⟨⟨0, _, rfl, rfl, .same nns⟩, trivial⟩ rfl ?_
      rintro r m n' ⟨⟨k, n, t, ks⟩, b, s2, p2, rfl, rfl, hv1, hv2⟩
      refine ⟨nn, ⟨⟨0, _, rfl, rfl, .same nns⟩, trivial⟩, rfl, ?_⟩
      cases b with
      | false =>
        rw [hv2 rfl] at ha2
        ((conv => whnf); repeat ((first | refine AWp.many ?_ | refine AOps.many ?_ | refine ADr.go ?_); conv => whnf))
        exact hKN ha2 s2 p2 _ _ rfl
      | true =>
        obtain ⟨v1, v2, v3, v4, v5⟩ := hv1 rfl
        rw [v1] at ha2
        simp only at ha2
        have h2 := sAccept s2 fin p2 hf
        have h3 := sAccept s2 [44, 32] p2 (by simp)
        have hcl2 := cutR_len fin s2
        have hcl3 := cutR_len [44, 32] s2
        have hsn := sizeL_snoc acc (.mk k n t ks)
        have hok2 : okVs (acc ++ [.mk k n t ks]) := okVs_of fun v hv => by
          rcases List.mem_append.1 hv with hv | hv
          · exact okVs_mem ha6 v hv
          · simp at hv; subst hv; exact v5
        have hacc : (encVs acc ++ [encV (.mk k n t ks)]) = encVs (acc ++ [.mk k n t ks]) := (encVs_snoc _ _).symm
        ((conv => whnf); repeat ((first | refine AWp.many ?_ | refine AOps.many ?_ | refine ADr.go ?_); conv => whnf))
        refine grd_mk (app_ok rfl rfl (encVs_length _).symm (by simp; omega)) ?_
        ((conv => whnf); repeat ((first | refine AWp.many ?_ | refine AOps.many ?_ | refine ADr.go ?_); conv => whnf))
        refine ACalls.useI nngz [0] h2.glob (by rfl) (.cons (.ptr 0 0 0 0 rfl) (.cons (.same _ nn) .nil)) ⟨⟨0, _, rfl, rfl, .same nns⟩, trivial⟩ rfl ?_
        rintro r m n' ⟨rfl, rfl⟩
        refine ⟨nn, ⟨⟨0, _, rfl, rfl, .same nns⟩, trivial⟩, rfl, ?_⟩
        cases hb2 : fin.isPrefixOf s2 with
        | true =>
          rw [cut_t hb2] at ha2
          simp only at ha2
          ((conv => whnf); repeat ((first | refine AWp.many ?_ | refine AOps.many ?_ | refine ADr.go ?_); conv => whnf))
          exact fin_mk (n' := 1) (m' := [(0, sC (cutR fin s2) p2)]) (r' := .tup [.il 4 (encVs (acc ++ [Val.mk k n t ks])), .bool true]) [(0, 0)] rfl ⟨⟨0, _, rfl, rfl, .same nns⟩, trivial⟩
            (.tup' (.cons (.fzR (id := 4) rfl rfl (.eq (encVs_nn _) hacc) (by simp [encVs_length])) (.cons (.same _ nn) .nil)))
            ⟨acc ++ [Val.mk k n t ks], true, cutR fin s2, p2, rfl, rfl, fun _ => ⟨ha2, by rw [hsn]; omega, v3, by omega, hok2, by simp; omega⟩, fun h => by cases h⟩
        | false =>
          rw [(cut_f hb2).2]
          rw [(cut_f hb2).1] at ha2
          simp only at ha2
          ((conv => whnf); repeat ((first | refine AWp.many ?_ | refine AOps.many ?_ | refine ADr.go ?_); conv => whnf))
          refine ACalls.useI nngz [0] h3.glob (by rfl) (.cons (.ptr 0 0 0 0 rfl) (.cons (.same _ nn) .nil)) ⟨⟨0, _, rfl, rfl, .same nns⟩, trivial⟩ rfl ?_
          rintro r m n' ⟨rfl, rfl⟩
          refine ⟨nn, ⟨⟨0, _, rfl, rfl, .same nns⟩, trivial⟩, rfl, ?_⟩
          cases hb3 : List.isPrefixOf [44, 32] s2 with
          | false =>
            rw [(cut_f hb3).1] at ha2
            simp only at ha2
            ((conv => whnf); repeat ((first | refine AWp.many ?_ | refine AOps.many ?_ | refine ADr.go ?_); conv => whnf))
            exact hKN ha2 _ p2 _ _ rfl
          | true =>
            rw [cut_t hb3] at ha2
            simp only at ha2
            ((conv => whnf); repeat ((first | refine AWp.many ?_ | refine AOps.many ?_ | refine ADr.go ?_); conv => whnf))
            refine Again.mk (acc ++ [Val.mk k n t ks], cutR [44, 32] s2, p2) [(0, 0), (4, 1)] ⟨by simp; omega, ?_, by simp only; rw [hsn]; omega, v3, by simp only; omega, hok2⟩
              (conv_mk _ rfl ⟨⟨0, _, rfl, rfl, .same nns⟩, ⟨4, _, rfl, rfl, .eq (encVs_nn _) hacc⟩, trivial⟩ ⟨⟨_, rfl, .ptr 0 0 0 0 rfl⟩, ⟨_, rfl, .same _ nn⟩, ⟨_, rfl, .same _ nn⟩, ⟨_, rfl, .slE rfl (by simp)⟩, trivial⟩) (by simp; omega)
            simp only
            rw [ha2, show most - (acc ++ [Val.mk k n t ks]).length = mm by simp; omega]
    · have hge : acc.length = most := by have : ¬ acc.length < most := by simpa using h
                                         omega
      rw [hge, Nat.sub_self] at ha2
      ((conv => whnf); repeat ((first | refine AWp.many ?_ | refine AOps.many ?_ | refine ADr.go ?_); conv => whnf))
      exact hKN ha2 s1 p1 _ _ rfl

theorem cvLeaf {mem : Mem} {σ : List (Nat × Nat)} (k n : Int) (s : List UInt8) : Cv mem σ (.agg [.int .i64 k, .int .i64 n, .str s, .nsl]) (encV (.mk k n s [])) :=
  .agg' (.cons (.same _ (.int _ _)) (.cons (.same _ (.int _ _)) (.cons (.same _ (.str _)) (.cons (.nil 4) .nil))))
theorem ok0 {k n : Int} {s : List UInt8} (h1 : i64 k) (h2 : i64 n) (h3 : s.length ≤ 4294967296) : okV (.mk k n s []) := by simp only [okV, okVs]; exact ⟨h1, h2, h3, by simp, trivial⟩

/-- 'value'. -/
theorem sValue : ∀ (f : Nat) (s : List UInt8) (p : Nat), s.length ≤ 1000000000 → 1025 ≤ f + p → p ≤ 1024 → ACalls Tryz.prog gz 59 [.ptr 0 0 0] [(0, sC s p)] 1 (ValQ f s p)
  | 0, s, p, hs, hp, hp2 => by omega
  | f + 1, s, p, hs, hp, hp2 => by
    have ih := sValue f
    have hP : pVal (f + 1) s p = pStep (pVal f) s p := rfl
    have hfail : pVal (f + 1) s p = none → ∀ (r : AV) (v : Val) (s' : List UInt8) (p' : Nat) (mem : Mem) (n : Nat), Cv mem [(0, 0)] r (encV v) → lk mem 0 = some (sC s' p') → Fini 1 (ValQ (f + 1) s p) (.tup [r, .bool false]) mem n := by
      intro h r v s' p' mem n hr hm
      exact fin_mk (n' := 1) (m' := [(0, sC s' p')]) (r' := .tup [encV v, .bool false]) [(0, 0)] rfl ⟨⟨0, _, rfl, hm, .same nns⟩, trivial⟩ (.tup' (.cons hr (.cons (.same _ nn) .nil))) ⟨v, false, s', p', rfl, rfl, (fun h => by cases h), fun _ => h⟩
    have hgood : ∀ (r : AV) (v : Val) (s' : List UInt8) (p' : Nat) (mem : Mem) (n : Nat), pVal (f + 1) s p = some (v, s', p') → sizeV v + p = p' → p' ≤ 1024 → s'.length ≤ s.length → okV v → Cv mem [(0, 0)] r (encV v) → lk mem 0 = some (sC s' p') → Fini 1 (ValQ (f + 1) s p) (.tup [r, .bool true]) mem n := by
      intro r v s' p' mem n h1 h2 h3 h4 h5 hr hm
      exact fin_mk (n' := 1) (m' := [(0, sC s' p')]) (r' := .tup [encV v, .bool true]) [(0, 0)] rfl ⟨⟨0, _, rfl, hm, .same nns⟩, trivial⟩ (.tup' (.cons hr (.cons (.same _ nn) .nil))) ⟨v, true, s', p', rfl, rfl, (fun _ => ⟨h1, h2, h3, h4, h5⟩), fun h => by cases h⟩
    refine acalls_go nngz Tryz.func59 rfl ?_
    ((conv => whnf); repeat ((first | refine AWp.many ?_ | refine AOps.many ?_ | refine ADr.go ?_); conv => whnf))
    rw [w64 (x := (p : Int) + 1) (y := ((p + 1 : Nat) : Int)) (by omega) ⟨by omega, by omega⟩]
    by_cases hp3 : p = 1024
    · subst hp3
      ((conv => whnf); repeat ((first | refine AWp.many ?_ | refine AOps.many ?_ | refine ADr.go ?_); conv => whnf))
      exact hfail (by rw [hP, pStep, if_pos (by omega)]) _ (.mk 0 0 [] []) s 1025 _ _ (.agg' (.cons (.same _ nn) (.cons (.same _ nn) (.cons (.same _ nn) (.cons (.nil 4) .nil))))) rfl
    have d1 : decide (((p + 1 : Nat) : Int) > 1024) = false := by simp; omega
    rw [d1]
    have hP2 : pVal (f + 1) s p = match cut [91] s with
      | some s1 => match pKids (pVal f) [93] 256 s1 (p + 1) with
        | some (kids, s2, p2) => some (.mk 2 0 [] kids, s2, p2)
        | none => none
      | none => match cut [45] s with
        | some s1 => pWord (pVal f) [45] s1 (p + 1)
        | none => pWord (pVal f) [] s (p + 1) := by rw [hP, pStep, if_neg (by omega)]; rfl
    clear hP d1
    ((conv => whnf); repeat ((first | refine AWp.many ?_ | refine AOps.many ?_ | refine ADr.go ?_); conv => whnf))
    refine ACalls.useI nngz [0] (sAccept s [91] (p + 1) (by simp)).glob (by rfl) (.cons (.ptr 0 0 0 0 rfl) (.cons (.same _ nn) .nil)) ⟨⟨0, _, rfl, rfl, .same nns⟩, trivial⟩ rfl ?_
    rintro r m n' ⟨rfl, rfl⟩
    refine ⟨nn, ⟨⟨0, _, rfl, rfl, .same nns⟩, trivial⟩, rfl, ?_⟩
    cases hb : List.isPrefixOf [91] s with
    | true =>
      rw [cut_t hb] at hP2
      simp only at hP2
      have hcl := cutR_len [91] s
      ((conv => whnf); repeat ((first | refine AWp.many ?_ | refine AOps.many ?_ | refine ADr.go ?_); conv => whnf))
      refine ACalls.useI nngz [0] (sKids f ih [93] 256 (by simp) (by omega) (cutR [91] s) (p + 1) (by omega) (by omega) (by omega)) (by rfl) (.cons (.ptr 0 0 0 0 rfl) (.cons (.same _ nn) (.cons (.int rfl) .nil))) ⟨⟨0, _, rfl, rfl, .same nns⟩, trivial⟩ rfl ?_
      rintro r m n' ⟨l, b, s2, p2, rfl, rfl, hk1, hk2⟩
      refine ⟨nn, ⟨⟨0, _, rfl, rfl, .same nns⟩, trivial⟩, rfl, ?_⟩
      cases b with
      | false =>
        rw [hk2 rfl] at hP2
        ((conv => whnf); repeat ((first | refine AWp.many ?_ | refine AOps.many ?_ | refine ADr.go ?_); conv => whnf))
        exact hfail hP2 _ (.mk 2 0 [] l) s2 p2 _ _ (.same _ nn) rfl
      | true =>
        obtain ⟨k1, k2, k3, k4, k5, k6⟩ := hk1 rfl
        rw [k1] at hP2
        ((conv => whnf); repeat ((first | refine AWp.many ?_ | refine AOps.many ?_ | refine ADr.go ?_); conv => whnf))
        exact hgood _ (.mk 2 0 [] l) s2 p2 _ _ hP2 (by simp only [sizeV]; omega) k3 (by omega) (by simp only [okV]; exact ⟨⟨by omega, by omega⟩, ⟨by omega, by omega⟩, by simp, by omega, k5⟩) (.same _ nn) rfl
    | false =>
      rw [(cut_f hb).1] at hP2
      rw [(cut_f hb).2]
      simp only at hP2
      ((conv => whnf); repeat ((first | refine AWp.many ?_ | refine AOps.many ?_ | refine ADr.go ?_); conv => whnf))
      refine ACalls.useI nngz [0] (sAccept s [45] (p + 1) (by simp)).glob (by rfl) (.cons (.ptr 0 0 0 0 rfl) (.cons (.same _ nn) .nil)) ⟨⟨0, _, rfl, rfl, .same nns⟩, trivial⟩ rfl ?_
      rintro r m n' ⟨rfl, rfl⟩
      refine ⟨nn, ⟨⟨0, _, rfl, rfl, .same nns⟩, trivial⟩, rfl, ?_⟩
      cases hb2 : List.isPrefixOf [45] s with
      | true =>
        rw [cut_t hb2] at hP2
        have hPW : pVal (f + 1) s p = pWord (pVal f) [45] (cutR [45] s) (p + 1) := hP2
        clear hP2
        have hcl := cutR_len [45] s
        unfold pWord at hPW
        rw [if_neg (by simp), if_neg (by simp), if_neg (by simp)] at hPW
        ((conv => whnf); repeat ((first | refine AWp.many ?_ | refine AOps.many ?_ | refine ADr.go ?_); conv => whnf))
        refine ACalls.useI nngz [0] (sWord (cutR [45] s) (p + 1) (by omega)).glob (by rfl) (.cons (.ptr 0 0 0 0 rfl) .nil) ⟨⟨0, _, rfl, rfl, .same nns⟩, trivial⟩ rfl ?_
        rintro r m n' ⟨rfl, rfl⟩
        refine ⟨nn, ⟨⟨0, _, rfl, rfl, .same nns⟩, trivial⟩, rfl, ?_⟩
        have hwl := wordOf_len ((cutR [45] s))
        have hrl := restOf_len ((cutR [45] s))
        generalize wordOf ((cutR [45] s)) = w at hPW hwl ⊢
        generalize restOf ((cutR [45] s)) = rs at hPW hrl ⊢
        ((conv => whnf); repeat ((first | refine AWp.many ?_ | refine AOps.many ?_ | refine ADr.go ?_); conv => whnf))
        cases e1 : (w == [116, 114, 117, 101])
        all_goals
          ((conv => whnf); repeat ((first | refine AWp.many ?_ | refine AOps.many ?_ | refine ADr.go ?_); conv => whnf))
          cases e2 : (w == [102, 97, 108, 115, 101])
          all_goals
            ((conv => whnf); repeat ((first | refine AWp.many ?_ | refine AOps.many ?_ | refine ADr.go ?_); conv => whnf))
            refine (vCapital w (by omega)).goG ?_
            cases e3 : capital w
            all_goals
              ((conv => whnf); repeat ((first | refine AWp.many ?_ | refine AOps.many ?_ | refine ADr.go ?_); conv => whnf))
              obtain ⟨n, e, hn, he, hA, hok⟩ := sAtoi ([45] ++ w) (by simp; omega)
              have hI := sItoa n hn
              have hN : pNum [45] w = match Lib.atoiAll ([45] ++ w) with
                | .ok n => if Lib.itoa n = [45] ++ w then some n else none
                | _ => none := rfl
              have hzl : ([45] ++ w).length ≤ 4294967297 := by simp; omega
              refine grd_mk (Nat.ble_eq_true_of_le (by simp; omega)) ?_
              generalize hz : [45] ++ w = z at hA hok hN hzl ⊢
              ((conv => whnf); repeat ((first | refine AWp.many ?_ | refine AOps.many ?_ | refine ADr.go ?_); conv => whnf))
              refine hA.use nngz nns (by rcases he with rfl | rfl <;> exact nn) ?_
              rcases he with rfl | rfl
              · ((conv => whnf); repeat ((first | refine AWp.many ?_ | refine AOps.many ?_ | refine ADr.go ?_); conv => whnf))
                refine hI.use nngz nns nn ?_
                ((conv => whnf); repeat ((first | refine AWp.many ?_ | refine AOps.many ?_ | refine ADr.go ?_); conv => whnf))
                refine grd_mk (Nat.ble_eq_true_of_le (by simp; omega)) ?_
                rw [hz]
                by_cases hq : Lib.itoa n = z
                · have ha : Lib.atoiAll z = .ok n := by rw [← hq]; exact atoi_itoa hn
                  rw [ha] at hN
                  simp only [hq, if_true] at hN
                  rw [hN] at hPW
                  have hzz : (!(z == z)) = false := by simp
                  rw [hq]
                  ((conv => whnf); repeat ((first | refine AWp.many ?_ | refine AOps.many ?_ | refine ADr.go ?_); conv => whnf))
                  rw [hzz]
                  ((conv => whnf); repeat ((first | refine AWp.many ?_ | refine AOps.many ?_ | refine ADr.go ?_); conv => whnf))
                  exact hgood _ (.mk 0 n [] []) rs (p + 1) _ _ hPW (by simp [sizeV, sizeL]; omega) (by omega) (by omega) (ok0 ⟨by omega, by omega⟩ hn (by simp)) (cvLeaf _ _ _) rfl
                · have hne : pNum [45] w = none := by
                    rw [hN]
                    cases ha : Lib.atoiAll z with
                    | ok m => obtain ⟨rfl, _⟩ := hok m ha; simp [hq]
                    | _ => rfl
                  rw [hne] at hPW
                  have hzz : (!(Lib.itoa n == z)) = true := by simpa using hq
                  generalize Lib.itoa n = it at *
                  ((conv => whnf); repeat ((first | refine AWp.many ?_ | refine AOps.many ?_ | refine ADr.go ?_); conv => whnf))
                  rw [hzz]
                  ((conv => whnf); repeat ((first | refine AWp.many ?_ | refine AOps.many ?_ | refine ADr.go ?_); conv => whnf))
                  exact hfail hPW _ (.mk 0 0 [] []) rs (p + 1) _ _ (cvLeaf _ _ _) rfl
              · have hne : pNum [45] w = none := by
                  rw [hN]
                  cases ha : Lib.atoiAll z with
                  | ok m => exact absurd (hok m ha).2 (by simp)
                  | _ => rfl
                rw [hne] at hPW
                ((conv => whnf); repeat ((first | refine AWp.many ?_ | refine AOps.many ?_ | refine ADr.go ?_); conv => whnf))
                exact hfail hPW _ (.mk 0 0 [] []) rs (p + 1) _ _ (cvLeaf _ _ _) rfl
      | false =>
        rw [(cut_f hb2).1] at hP2
        rw [(cut_f hb2).2]
        have hPW : pVal (f + 1) s p = pWord (pVal f) [] s (p + 1) := hP2
        clear hP2
        unfold pWord at hPW
        ((conv => whnf); repeat ((first | refine AWp.many ?_ | refine AOps.many ?_ | refine ADr.go ?_); conv => whnf))
        refine ACalls.useI nngz [0] (sWord s (p + 1) (by omega)).glob (by rfl) (.cons (.ptr 0 0 0 0 rfl) .nil) ⟨⟨0, _, rfl, rfl, .same nns⟩, trivial⟩ rfl ?_
        rintro r m n' ⟨rfl, rfl⟩
        refine ⟨nn, ⟨⟨0, _, rfl, rfl, .same nns⟩, trivial⟩, rfl, ?_⟩
        have hwl := wordOf_len (s)
        have hrl := restOf_len (s)
        generalize wordOf (s) = w at hPW hwl ⊢
        generalize restOf (s) = rs at hPW hrl ⊢
        ((conv => whnf); repeat ((first | refine AWp.many ?_ | refine AOps.many ?_ | refine ADr.go ?_); conv => whnf))
        cases e1 : (w == [116, 114, 117, 101]) with
        | true =>
          have hw : w = tTrue := show w = [116, 114, 117, 101] by simpa using e1
          rw [if_pos ⟨hw, rfl⟩] at hPW
          ((conv => whnf); repeat ((first | refine AWp.many ?_ | refine AOps.many ?_ | refine ADr.go ?_); conv => whnf))
          exact hgood _ (.mk 1 1 [] []) rs (p + 1) _ _ hPW (by simp [sizeV, sizeL]; omega) (by omega) (by omega) (ok0 ⟨by omega, by omega⟩ ⟨by omega, by omega⟩ (by simp)) (cvLeaf _ _ _) rfl
        | false =>
          have hw : ¬ w = tTrue := show ¬ w = [116, 114, 117, 101] by simpa using e1
          rw [if_neg (fun h => hw h.1)] at hPW
          ((conv => whnf); repeat ((first | refine AWp.many ?_ | refine AOps.many ?_ | refine ADr.go ?_); conv => whnf))
          cases e2 : (w == [102, 97, 108, 115, 101]) with
          | true =>
            have hw2 : w = tFalse := show w = [102, 97, 108, 115, 101] by simpa using e2
            rw [if_pos ⟨hw2, rfl⟩] at hPW
            ((conv => whnf); repeat ((first | refine AWp.many ?_ | refine AOps.many ?_ | refine ADr.go ?_); conv => whnf))
            exact hgood _ (.mk 1 0 [] []) rs (p + 1) _ _ hPW (by simp [sizeV, sizeL]; omega) (by omega) (by omega) (ok0 ⟨by omega, by omega⟩ ⟨by omega, by omega⟩ (by simp)) (cvLeaf _ _ _) rfl
          | false =>
            have hw2 : ¬ w = tFalse := show ¬ w = [102, 97, 108, 115, 101] by simpa using e2
            rw [if_neg (fun h => hw2 h.1)] at hPW
            ((conv => whnf); repeat ((first | refine AWp.many ?_ | refine AOps.many ?_ | refine ADr.go ?_); conv => whnf))
            refine (vCapital w (by omega)).goG ?_
            cases e3 : capital w with
            | true =>
              rw [if_pos ⟨e3, rfl⟩] at hPW
              ((conv => whnf); repeat ((first | refine AWp.many ?_ | refine AOps.many ?_ | refine ADr.go ?_); conv => whnf))
              refine ACalls.useI nngz [0] (sAccept rs [40] (p + 1) (by simp)).glob (by rfl) (.cons (.ptr 0 0 0 0 rfl) (.cons (.same _ nn) .nil)) ⟨⟨0, _, rfl, rfl, .same nns⟩, trivial⟩ rfl ?_
              rintro r m n' ⟨rfl, rfl⟩
              refine ⟨nn, ⟨⟨0, _, rfl, rfl, .same nns⟩, trivial⟩, rfl, ?_⟩
              cases hb4 : List.isPrefixOf [40] rs with
              | false =>
                rw [(cut_f hb4).1] at hPW
                rw [(cut_f hb4).2]
                ((conv => whnf); repeat ((first | refine AWp.many ?_ | refine AOps.many ?_ | refine ADr.go ?_); conv => whnf))
                exact hgood _ (.mk 3 0 w []) rs (p + 1) _ _ hPW (by simp [sizeV, sizeL]; omega) (by omega) (by omega) (ok0 ⟨by omega, by omega⟩ ⟨by omega, by omega⟩ (by omega)) (cvLeaf _ _ _) rfl
              | true =>
                rw [cut_t hb4] at hPW
                simp only at hPW
                have hcl := cutR_len [40] rs
                ((conv => whnf); repeat ((first | refine AWp.many ?_ | refine AOps.many ?_ | refine ADr.go ?_); conv => whnf))
                refine ACalls.useI nngz [0] (sKids f ih [41] 16 (by simp) (by omega) (cutR [40] rs) (p + 1) (by omega) (by omega) (by omega)) (by rfl) (.cons (.ptr 0 0 0 0 rfl) (.cons (.same _ nn) (.cons (.int rfl) .nil))) ⟨⟨0, _, rfl, rfl, .same nns⟩, trivial⟩ rfl ?_
                rintro r m n' ⟨l, b, s2, p2, rfl, rfl, hk1, hk2⟩
                refine ⟨nn, ⟨⟨0, _, rfl, rfl, .same nns⟩, trivial⟩, rfl, ?_⟩
                cases b with
                | false =>
                  rw [hk2 rfl] at hPW
                  ((conv => whnf); repeat ((first | refine AWp.many ?_ | refine AOps.many ?_ | refine ADr.go ?_); conv => whnf))
                  exact hfail hPW _ (.mk 3 0 w l) s2 p2 _ _ (.same _ nn) rfl
                | true =>
                  obtain ⟨k1, k2, k3, k4, k5, k6⟩ := hk1 rfl
                  rw [k1] at hPW
                  simp only at hPW
                  cases l with
                  | nil =>
                    ((conv => whnf); repeat ((first | refine AWp.many ?_ | refine AOps.many ?_ | refine ADr.go ?_); conv => whnf))
                    exact hfail hPW _ (.mk 3 0 w []) s2 p2 _ _ (.same _ nn) rfl
                  | cons x r =>
                    rw [if_neg (by simp)] at hPW
                    have d5 : decide (((encVs (x :: r)).length : Int) > 0) = true := by simp [encVs_length]
                    ((conv => whnf); repeat ((first | refine AWp.many ?_ | refine AOps.many ?_ | refine ADr.go ?_); conv => whnf))
                    rw [d5]
                    exact hgood _ (.mk 3 0 w (x :: r)) s2 p2 _ _ hPW (by simp only [sizeV]; omega) k3 (by omega) (by simp only [okV]; exact ⟨⟨by omega, by omega⟩, ⟨by omega, by omega⟩, by omega, by omega, k5⟩) (.same _ nn) rfl
            | false =>
              rw [if_neg (by simp [e3])] at hPW
              ((conv => whnf); repeat ((first | refine AWp.many ?_ | refine AOps.many ?_ | refine ADr.go ?_); conv => whnf))
              obtain ⟨n, e, hn, he, hA, hok⟩ := sAtoi ([] ++ w) (by simp; omega)
              have hI := sItoa n hn
              have hN : pNum [] w = match Lib.atoiAll ([] ++ w) with
                | .ok n => if Lib.itoa n = [] ++ w then some n else none
                | _ => none := rfl
              have hzl : ([] ++ w).length ≤ 4294967297 := by simp; omega
              refine grd_mk (Nat.ble_eq_true_of_le (by simp; omega)) ?_
              generalize hz : [] ++ w = z at hA hok hN hzl ⊢
              ((conv => whnf); repeat ((first | refine AWp.many ?_ | refine AOps.many ?_ | refine ADr.go ?_); conv => whnf))
              refine hA.use nngz nns (by rcases he with rfl | rfl <;> exact nn) ?_
              rcases he with rfl | rfl
              · ((conv => whnf); repeat ((first | refine AWp.many ?_ | refine AOps.many ?_ | refine ADr.go ?_); conv => whnf))
                refine hI.use nngz nns nn ?_
                ((conv => whnf); repeat ((first | refine AWp.many ?_ | refine AOps.many ?_ | refine ADr.go ?_); conv => whnf))
                refine grd_mk (Nat.ble_eq_true_of_le (by simp; omega)) ?_
                rw [hz]
                by_cases hq : Lib.itoa n = z
                · have ha : Lib.atoiAll z = .ok n := by rw [← hq]; exact atoi_itoa hn
                  rw [ha] at hN
                  simp only [hq, if_true] at hN
                  rw [hN] at hPW
                  have hzz : (!(z == z)) = false := by simp
                  rw [hq]
                  ((conv => whnf); repeat ((first | refine AWp.many ?_ | refine AOps.many ?_ | refine ADr.go ?_); conv => whnf))
                  rw [hzz]
                  ((conv => whnf); repeat ((first | refine AWp.many ?_ | refine AOps.many ?_ | refine ADr.go ?_); conv => whnf))
                  exact hgood _ (.mk 0 n [] []) rs (p + 1) _ _ hPW (by simp [sizeV, sizeL]; omega) (by omega) (by omega) (ok0 ⟨by omega, by omega⟩ hn (by simp)) (cvLeaf _ _ _) rfl
                · have hne : pNum [] w = none := by
                    rw [hN]
                    cases ha : Lib.atoiAll z with
                    | ok m => obtain ⟨rfl, _⟩ := hok m ha; simp [hq]
                    | _ => rfl
                  rw [hne] at hPW
                  have hzz : (!(Lib.itoa n == z)) = true := by simpa using hq
                  generalize Lib.itoa n = it at *
                  ((conv => whnf); repeat ((first | refine AWp.many ?_ | refine AOps.many ?_ | refine ADr.go ?_); conv => whnf))
                  rw [hzz]
                  ((conv => whnf); repeat ((first | refine AWp.many ?_ | refine AOps.many ?_ | refine ADr.go ?_); conv => whnf))
                  exact hfail hPW _ (.mk 0 0 [] []) rs (p + 1) _ _ (cvLeaf _ _ _) rfl
              · have hne : pNum [] w = none := by
                  rw [hN]
                  cases ha : Lib.atoiAll z with
                  | ok m => exact absurd (hok m ha).2 (by simp)
                  | _ => rfl
                rw [hne] at hPW
                ((conv => whnf); repeat ((first | refine AWp.many ?_ | refine AOps.many ?_ | refine ADr.go ?_); conv => whnf))
                exact hfail hPW _ (.mk 0 0 [] []) rs (p + 1) _ _ (cvLeaf _ _ _) rfl
end Go.Proofs.YtfnhkfdjhmgjbaaGreatDoor

namespace Go.Proofs.YtfnhkfdjhmgjbaaGreatDoor
open Go Go.Ax Go.Proofs
set_option linter.unusedVariables false
set_option maxRecDepth 100000
set_option maxHeartbeats 4000000

/-- 'values.Parse': a valid value with this very text, or ErrForm and the zero value. -/
theorem vParse (s : List UInt8) (hs : s.length ≤ 1000000000) : ACalls Tryz.prog gz 18 [.str s] [] 0 fun r m n => ∃ (v : Val) (e : Int), r = .tup [encV v, .int .i64 e] ∧ m = [] ∧ n = 0 ∧
      (e = 0 ∧ okV v ∧ sizeV v ≤ 1024 ∧ validV v = 0 ∧ pVal 1025 s 0 = some (v, [], sizeV v) ∨ e = 2 ∧ v = .mk 0 0 [] [] ∧ ∀ v', validV v' = 0 → ∀ p, pVal 1025 s 0 ≠ some (v', [], p)) := by
  have hV := sValue 1025 s 0 hs (by omega) (by omega)
  refine acalls_go nngz Tryz.func18 rfl ?_
  ((conv => whnf); repeat ((first | refine AWp.many ?_ | refine AOps.many ?_ | refine ADr.go ?_); conv => whnf))
  refine ACalls.useR nngz [(1, 0)] hV (by rfl) (.cons (.ptr 1 0 0 0 rfl) .nil) ⟨⟨1, _, rfl, rfl, .same nns⟩, trivial⟩ rfl ?_
  rintro r m n' ⟨⟨k, n, t, ks⟩, b, s2, p2, rfl, rfl, hv1, hv2⟩
  refine ⟨[(1, sC s2 p2)], nn, ⟨⟨0, _, rfl, rfl, .same nns⟩, trivial⟩, rfl, ?_⟩
  have hbad : (∀ v', validV v' = 0 → ∀ p, pVal 1025 s 0 ≠ some (v', [], p)) → ∀ (mem : Mem) (n : Nat), Fini 0 (fun r m n => ∃ (v : Val) (e : Int), r = .tup [encV v, .int .i64 e] ∧ m = [] ∧ n = 0 ∧
      (e = 0 ∧ okV v ∧ sizeV v ≤ 1024 ∧ validV v = 0 ∧ pVal 1025 s 0 = some (v, [], sizeV v) ∨ e = 2 ∧ v = .mk 0 0 [] [] ∧ ∀ v', validV v' = 0 → ∀ p, pVal 1025 s 0 ≠ some (v', [], p))) (.tup [.agg [.int .i64 0, .int .i64 0, .str [], .nsl], .int .i64 2]) mem n := by
    intro h mem n
    exact fin_cv (r' := .tup [encV (.mk 0 0 [] []), .int .i64 2]) (.tup' (.cons (cvLeaf _ _ _) (.cons (.same _ nn) .nil))) ⟨.mk 0 0 [] [], 2, rfl, rfl, rfl, .inr ⟨rfl, rfl, h⟩⟩
  cases b with
  | false =>
    ((conv => whnf); repeat ((first | refine AWp.many ?_ | refine AOps.many ?_ | refine ADr.go ?_); conv => whnf))
    exact hbad (fun v' _ p hh => by rw [hv2 rfl] at hh; cases hh) _ _
  | true =>
    obtain ⟨v1, v2, v3, v4, v5⟩ := hv1 rfl
    cases s2 with
    | cons c r =>
      ((conv => whnf); repeat ((first | refine AWp.many ?_ | refine AOps.many ?_ | refine ADr.go ?_); conv => whnf))
      exact hbad (fun v' _ p hh => by rw [v1] at hh; cases hh) _ _
    | nil =>
      have hval := vValid (.mk k n t ks) v5 (by omega)
      obtain ⟨e, he⟩ : ∃ e, e = validV (.mk k n t ks) := ⟨_, rfl⟩
      rw [← he] at hval
      ((conv => whnf); repeat ((first | refine AWp.many ?_ | refine AOps.many ?_ | refine ADr.go ?_); conv => whnf))
      refine hval.goG ?_
      by_cases h0 : e = 0
      · subst h0
        ((conv => whnf); repeat ((first | refine AWp.many ?_ | refine AOps.many ?_ | refine ADr.go ?_); conv => whnf))
        refine fin_cv (r' := .tup [encV (.mk k n t ks), .int .i64 0]) (.same _ nn) ⟨.mk k n t ks, 0, rfl, rfl, rfl, .inl ⟨rfl, v5, by omega, he.symm, ?_⟩⟩
        rw [v1, ← v2]
        simp
      · have d1 : (e != 0) = true := by simpa using h0
        ((conv => whnf); repeat ((first | refine AWp.many ?_ | refine AOps.many ?_ | refine ADr.go ?_); conv => whnf))
        rw [d1]
        ((conv => whnf); repeat ((first | refine AWp.many ?_ | refine AOps.many ?_ | refine ADr.go ?_); conv => whnf))
        exact hbad (fun v' hv' p hh => by rw [v1] at hh; cases hh; exact h0 (by rw [he]; exact hv')) _ _
end Go.Proofs.YtfnhkfdjhmgjbaaGreatDoor

/- What is printed is parsed. Plain. -/
namespace Go.Ax
open Go
set_option linter.unusedVariables false

/-- Behind a text: nothing, or a byte that ends a word. -/
def Delim (t : List UInt8) : Prop := t = [] ∨ ∃ c r, t = c :: r ∧ isNm c = false ∧ c ≠ 40

theorem word_of {w t : List UInt8} (hw : ∀ c ∈ w, isNm c = true) (ht : Delim t) : wordOf (w ++ t) = w ∧ restOf (w ++ t) = t := by
  unfold wordOf restOf
  rw [List.takeWhile_append_of_pos hw, List.dropWhile_append_of_pos hw]
  rcases ht with rfl | ⟨c, r, rfl, hc, _⟩
  · simp
  · simp [hc]
theorem cut_ne {c d : UInt8} {r : List UInt8} (h : c ≠ d) : cut [d] (c :: r) = none := by
  unfold cut
  rw [if_neg]
  simp [List.isPrefixOf]
  exact fun e => h e.symm
theorem cut_eq (d : UInt8) (r : List UInt8) : cut [d] (d :: r) = some r := by
  unfold cut
  simp [List.isPrefixOf]
theorem cut_delim {t : List UInt8} (ht : Delim t) : cut [40] t = none := by
  rcases ht with rfl | ⟨c, r, rfl, _, hc⟩
  · rfl
  · exact cut_ne hc

theorem dec_digits (u : Nat) : ∀ c ∈ Lib.decDigits u, 48 ≤ c.toNat ∧ c.toNat ≤ 57 := by
  induction u using Nat.strongRecOn with
  | _ u ih =>
    have e : ∀ k : Nat, k < 10 → (UInt8.ofNat (48 + k)).toNat = 48 + k := fun k hk => by simp; omega
    by_cases h10 : u < 10
    · rw [Lib.decDigits_one h10]
      intro c hc
      simp at hc
      subst hc
      have := e u h10
      simp at this ⊢
      omega
    · rw [Lib.decDigits, dif_neg h10]
      intro c hc
      rcases List.mem_append.1 hc with h | h
      · exact ih (u / 10) (by omega) c h
      · simp only [List.mem_singleton] at h
        subst h
        have := e (u % 10) (by omega)
        omega
theorem digit_nm {c : UInt8} (h : 48 ≤ c.toNat ∧ c.toNat ≤ 57) : isNm c = true := by
  unfold isNm inNm
  have h1 : decide ((48 : Int) ≤ (c.toNat : Int)) = true := by simp; omega
  have h2 : decide ((c.toNat : Int) ≤ (57 : Int)) = true := by simp; omega
  rw [h1, h2]
  simp
theorem u8_ne {c : UInt8} {k : UInt8} (h : c.toNat ≠ k.toNat) : c ≠ k := fun e => h (by rw [e])

theorem pNum_itoa {n : Int} (h : i64 n) {sign word : List UInt8} (e : sign ++ word = Lib.itoa n) : pNum sign word = some n := by
  unfold pNum
  rw [e, atoi_itoa h]
  simp

/-- A number. -/
theorem pVal_int {f : Nat} {n : Int} (h : i64 n) {t : List UInt8} (ht : Delim t) {p : Nat} (hp : p < 1024) : pVal (f + 1) (Lib.itoa n ++ t) p = some (.mk 0 n [] [], t, p + 1) := by
  show pStep (pVal f) _ p = _
  unfold pStep
  rw [if_neg (by omega)]
  by_cases hn : n < 0
  · have e : Lib.itoa n = 45 :: Lib.decDigits n.natAbs := by unfold Lib.itoa; rw [if_pos hn]
    obtain ⟨hw, hr⟩ := word_of (w := Lib.decDigits n.natAbs) (t := t) (fun c hc => digit_nm (dec_digits _ c hc)) ht
    have hnum := pNum_itoa h (sign := [45]) (word := Lib.decDigits n.natAbs) (by rw [e]; rfl)
    rw [e, List.cons_append, cut_ne (by decide), cut_eq]
    simp only
    unfold pWord
    rw [hw, hr, hnum]
    simp
  · have e : Lib.itoa n = Lib.decDigits n.toNat := by unfold Lib.itoa; rw [if_neg hn]
    obtain ⟨hw, hr⟩ := word_of (w := Lib.decDigits n.toNat) (t := t) (fun c hc => digit_nm (dec_digits _ c hc)) ht
    have hnum := pNum_itoa h (sign := []) (word := Lib.decDigits n.toNat) (by rw [e]; rfl)
    obtain ⟨c, r, h1, h2, h3⟩ := dec_cons n.toNat
    rw [e]
    have hc1 : cut [91] (Lib.decDigits n.toNat ++ t) = none := by
      rw [h1, List.cons_append]
      exact cut_ne (u8_ne (by show c.toNat ≠ 91; omega))
    have hc2 : cut [45] (Lib.decDigits n.toNat ++ t) = none := by
      rw [h1, List.cons_append]
      exact cut_ne (u8_ne (by show c.toNat ≠ 45; omega))
    rw [hc1, hc2]
    simp only
    unfold pWord
    rw [hw, hr, hnum]
    have t1 : ¬ (Lib.decDigits n.toNat = tTrue ∧ ([] : List UInt8) = []) := by
      rintro ⟨h, _⟩
      rw [h1] at h
      unfold tTrue at h
      injection h with h _
      rw [h] at h3
      exact absurd h3 (by decide)
    have t2 : ¬ (Lib.decDigits n.toNat = tFalse ∧ ([] : List UInt8) = []) := by
      rintro ⟨h, _⟩
      rw [h1] at h
      unfold tFalse at h
      injection h with h _
      rw [h] at h3
      exact absurd h3 (by decide)
    have t3 : ¬ (capital (Lib.decDigits n.toNat) = true ∧ ([] : List UInt8) = []) := by
      rintro ⟨h, _⟩
      rw [capital_up (a := c) (by rw [h1]; rfl) (by unfold upper; simp; omega)] at h
      cases h
    rw [if_neg t1, if_neg t2, if_neg t3]

theorem pVal_word {f : Nat} {w t : List UInt8} (_ : ∀ c ∈ w, isNm c = true) {c0 : UInt8} {r0 : List UInt8} (h0 : w = c0 :: r0) (ht : ∀ d, d = 91 ∨ d = 45 → c0 ≠ d) {p : Nat} (hp : p < 1024) : pVal (f + 1) (w ++ t) p = pWord (pVal f) [] (w ++ t) (p + 1) := by
  show pStep (pVal f) _ p = _
  unfold pStep
  rw [if_neg (by omega)]
  have hc1 : cut [91] (w ++ t) = none := by rw [h0, List.cons_append]; exact cut_ne (ht 91 (.inl rfl))
  have hc2 : cut [45] (w ++ t) = none := by rw [h0, List.cons_append]; exact cut_ne (ht 45 (.inr rfl))
  rw [hc1, hc2]

/-- Kids. -/
theorem printL_head {l : List Val} (hl : l ≠ []) (hf : formedL l = true) : ∃ c r, printL l = c :: r ∧ c ≠ 93 ∧ c ≠ 41 := by
  cases l with
  | nil => exact absurd rfl hl
  | cons v r =>
    simp only [formedL, Bool.and_eq_true] at hf
    obtain ⟨k, n, s, kids⟩ := v
    have hv := hf.1
    simp only [formedV, Bool.and_eq_true] at hv
    have h1 := hv.1
    have key : ∃ c q, printV (.mk k n s kids) = c :: q ∧ c ≠ 93 ∧ c ≠ 41 := by
      unfold formed1 at h1
      rw [printV]
      by_cases k0 : k = 0
      · rw [if_pos k0]
        unfold Lib.itoa
        split
        · exact ⟨45, _, rfl, by decide, by decide⟩
        · obtain ⟨c, q, e, h2, h3⟩ := dec_cons n.toNat
          exact ⟨c, q, e, u8_ne (by show c.toNat ≠ 93; omega), u8_ne (by show c.toNat ≠ 41; omega)⟩
      · rw [if_neg k0] at h1 ⊢
        by_cases k1 : k = 1
        · rw [if_pos k1]
          split
          · exact ⟨_, _, rfl, by decide, by decide⟩
          · exact ⟨_, _, rfl, by decide, by decide⟩
        · rw [if_neg k1] at h1 ⊢
          by_cases k2 : k = 2
          · rw [if_pos k2]
            exact ⟨91, _, rfl, by decide, by decide⟩
          · rw [if_neg k2] at h1 ⊢
            split at h1
            · simp only [Bool.and_eq_true] at h1
              have hc := h1.2
              cases s with
              | nil => simp [capital] at hc
              | cons c q =>
                simp only [capital, Bool.and_eq_true, upper, decide_eq_true_eq] at hc
                have a1 := hc.1.2
                split
                · exact ⟨c, q, rfl, u8_ne (by show c.toNat ≠ 93; omega), u8_ne (by show c.toNat ≠ 41; omega)⟩
                · exact ⟨c, _, rfl, u8_ne (by show c.toNat ≠ 93; omega), u8_ne (by show c.toNat ≠ 41; omega)⟩
            · cases h1
    obtain ⟨c, q, e, a, b⟩ := key
    exact ⟨c, q ++ printR r, by rw [printL, e]; rfl, a, b⟩

theorem pMore_print {rec : List UInt8 → Nat → PRes} {d : UInt8} (hd : d = 93 ∨ d = 41) : ∀ (l : List Val) (m : Nat) (acc : List Val) (t : List UInt8) (p : Nat), l ≠ [] → l.length ≤ m →
    (∀ (i : Nat) (v : Val) (t' : List UInt8), l[i]? = some v → Delim t' → rec (printV v ++ t') (p + sizeL (l.take i)) = some (v, t', p + sizeL (l.take i) + sizeV v)) →
    pMore rec [d] m acc (printL l ++ d :: t) p = some (acc ++ l, t, p + sizeL l)
  | [], _, _, _, _, h, _, _ => absurd rfl h
  | v :: r, 0, _, _, _, _, h, _ => by simp at h
  | v :: r, m + 1, acc, t, p, _, hm, hrec => by
    have hdn : isNm d = false ∧ d ≠ 40 := by rcases hd with rfl | rfl <;> decide
    simp only [pMore]
    have h0 := fun t' ht => hrec 0 v t' rfl ht
    simp only [List.take_zero, sizeL, Nat.add_zero] at h0
    cases r with
    | nil =>
      rw [show printL [v] ++ d :: t = printV v ++ d :: t by simp [printL, printR], h0 (d :: t) (.inr ⟨d, t, rfl, hdn.1, hdn.2⟩)]
      simp only
      rw [cut_eq]
      simp [sizeL]
    | cons a q =>
      have e : printL (v :: a :: q) ++ d :: t = printV v ++ 44 :: 32 :: (printL (a :: q) ++ d :: t) := by simp [printL, printR]
      rw [e, h0 _ (.inr ⟨44, _, rfl, by decide, by decide⟩)]
      simp only
      rw [cut_ne (by rcases hd with rfl | rfl <;> decide)]
      have hc : cut [44, 32] (44 :: 32 :: (printL (a :: q) ++ d :: t)) = some (printL (a :: q) ++ d :: t) := by
        unfold cut
        simp [List.isPrefixOf]
      rw [hc]
      simp only
      have ih := pMore_print hd (a :: q) m (acc ++ [v]) t (p + sizeV v) (by simp) (by simpa using hm) (fun i x t' hi ht => by
        have := hrec (i + 1) x t' (by simpa using hi) ht
        simp only [List.take_succ_cons, sizeL] at this
        rw [show p + sizeV v + sizeL ((a :: q).take i) = p + (sizeV v + sizeL ((a :: q).take i)) by omega]
        exact this)
      rw [ih]
      simp [sizeL]
      omega

/-- A valid value's text leads back to it. -/
theorem pVal_print : ∀ (v : Val) (f p : Nat) (t : List UInt8), okV v → formedV v = true → fitsV v = true → Delim t → p + sizeV v ≤ 1024 → 1025 ≤ f + p → pVal f (printV v ++ t) p = some (v, t, p + sizeV v)
  | .mk k n s kids, f, p, t, ho, hf, hw, ht, hp, hfp => by
    simp only [okV] at ho
    simp only [formedV, Bool.and_eq_true] at hf
    simp only [fitsV, Bool.and_eq_true] at hw
    simp only [sizeV] at hp
    obtain ⟨g, rfl⟩ : ∃ g, f = g + 1 := ⟨f - 1, by omega⟩
    have h1 := hf.1
    have hrec : ∀ (q : Nat), p + 1 = q → ∀ (i : Nat) (v : Val) (t' : List UInt8), kids[i]? = some v → Delim t' → pVal g (printV v ++ t') (q + sizeL (kids.take i)) = some (v, t', q + sizeL (kids.take i) + sizeV v) := by
      intro q hq i v t' hi hd
      have hil := (List.getElem?_eq_some_iff.1 hi).1
      have hm := List.mem_of_getElem? hi
      have hs := sizeL_take (l := kids) (k := i) hil
      have hs2 := sizeL_take_le kids (i + 1)
      have e : kids[i] = v := by rw [List.getElem?_eq_getElem hil] at hi; exact Option.some.inj hi
      rw [e] at hs
      exact pVal_print v g (q + sizeL (kids.take i)) t' (okVs_mem ho.2.2.2.2 v hm) (formedL_in hf.2 hm) (fitsL_in hw.2 hm) hd (by omega) (by omega)
    unfold formed1 at h1
    rw [printV]
    by_cases k0 : k = 0
    · subst k0
      rw [if_pos rfl] at h1 ⊢
      simp only [Bool.and_eq_true, decide_eq_true_eq] at h1
      obtain ⟨rfl, h2⟩ := h1
      obtain rfl : kids = [] := List.length_eq_zero_iff.1 h2
      simp only [sizeV, sizeL] at hp ⊢
      exact pVal_int ho.2.1 ht (by omega)
    · rw [if_neg k0] at h1 ⊢
      by_cases k1 : k = 1
      · subst k1
        rw [if_pos rfl] at h1 ⊢
        simp only [Bool.and_eq_true, decide_eq_true_eq, Bool.or_eq_true] at h1
        obtain ⟨⟨hn, rfl⟩, h2⟩ := h1
        obtain rfl : kids = [] := List.length_eq_zero_iff.1 h2
        simp only [sizeV, sizeL] at hp ⊢
        rcases hn with rfl | rfl
        · rw [if_neg (by omega), pVal_word (w := tFalse) (by decide) rfl (by rintro d (rfl | rfl) <;> decide) (by omega)]
          obtain ⟨a, b⟩ := word_of (w := tFalse) (t := t) (by decide) ht
          unfold pWord
          rw [a, b, if_neg (by decide), if_pos ⟨rfl, rfl⟩]
        · rw [if_pos rfl, pVal_word (w := tTrue) (by decide) rfl (by rintro d (rfl | rfl) <;> decide) (by omega)]
          obtain ⟨a, b⟩ := word_of (w := tTrue) (t := t) (by decide) ht
          unfold pWord
          rw [a, b, if_pos ⟨rfl, rfl⟩]
      · rw [if_neg k1] at h1 ⊢
        by_cases k2 : k = 2
        · subst k2
          rw [if_pos rfl] at h1 ⊢
          simp only [Bool.and_eq_true, decide_eq_true_eq] at h1
          obtain ⟨rfl, rfl⟩ := h1
          show pStep (pVal g) _ p = _
          unfold pStep
          rw [if_neg (by omega), List.cons_append, cut_eq]
          simp only
          have hlen : kids.length ≤ 256 := by have := hw.1; unfold fits1 at this; simp at this; omega
          have hk : pKids (pVal g) [93] 256 (printL kids ++ [93] ++ t) (p + 1) = some (kids, t, p + 1 + sizeL kids) := by
            unfold pKids
            by_cases hne : kids = []
            · subst hne
              rw [show printL [] ++ [93] ++ t = 93 :: t by simp [printL], cut_eq]
              simp [sizeL]
            · obtain ⟨c, r, e, c1, _⟩ := printL_head hne hf.2
              have : cut [93] (printL kids ++ [93] ++ t) = none := by rw [e]; exact cut_ne c1
              rw [this]
              have := pMore_print (rec := pVal g) (d := 93) (.inl rfl) kids 256 [] t (p + 1) hne hlen (hrec (p + 1) rfl)
              simpa using this
          rw [hk]
          simp only [sizeV]
          rw [show p + 1 + sizeL kids = p + (1 + sizeL kids) by omega]
        · rw [if_neg k2] at h1 ⊢
          split at h1
          · rename_i k3
            subst k3
            simp only [Bool.and_eq_true, decide_eq_true_eq] at h1
            obtain ⟨rfl, hc⟩ := h1
            have hcs := hc
            cases s with
            | nil => simp [capital] at hc
            | cons c0 r0 =>
              simp only [capital, Bool.and_eq_true, List.all_eq_true, decide_eq_true_eq] at hc
              have hup := hc.1.2
              have hnm : ∀ c ∈ c0 :: r0, isNm c = true := by
                intro c h
                rcases List.mem_cons.1 h with rfl | h
                · exact upper_in hup
                · exact hc.2 c h
              simp only [upper, Bool.and_eq_true, decide_eq_true_eq] at hup
              have hne1 : ¬ (c0 :: r0 = tTrue ∧ ([] : List UInt8) = []) := by
                rintro ⟨h, _⟩
                unfold tTrue at h
                injection h with h _
                rw [h] at hup
                exact absurd hup.2 (by decide)
              have hne2 : ¬ (c0 :: r0 = tFalse ∧ ([] : List UInt8) = []) := by
                rintro ⟨h, _⟩
                unfold tFalse at h
                injection h with h _
                rw [h] at hup
                exact absurd hup.2 (by decide)
              have hfirst : ∀ d, d = 91 ∨ d = 45 → c0 ≠ d := by
                rintro d (rfl | rfl)
                · exact u8_ne (by show c0.toNat ≠ 91; omega)
                · exact u8_ne (by show c0.toNat ≠ 45; omega)
              by_cases hk : kids = []
              · subst hk
                simp only [if_true]
                rw [pVal_word hnm rfl hfirst (by omega)]
                obtain ⟨a, b⟩ := word_of (w := c0 :: r0) (t := t) hnm ht
                unfold pWord
                rw [a, b, if_neg hne1, if_neg hne2, if_pos ⟨hcs, rfl⟩, cut_delim ht]
                simp [sizeV, sizeL]
              · rw [if_neg hk]
                have hlen : kids.length ≤ 16 := by have := hw.1; unfold fits1 at this; simp at this; omega
                have e : (c0 :: r0) ++ 40 :: (printL kids ++ [41]) ++ t = (c0 :: r0) ++ (40 :: (printL kids ++ 41 :: t)) := by simp
                rw [e, pVal_word hnm rfl hfirst (by omega)]
                have hword : wordOf ((c0 :: r0) ++ (40 :: (printL kids ++ 41 :: t))) = c0 :: r0 ∧ restOf ((c0 :: r0) ++ (40 :: (printL kids ++ 41 :: t))) = 40 :: (printL kids ++ 41 :: t) := by
                  have h40 : isNm 40 = false := by decide
                  unfold wordOf restOf
                  rw [List.takeWhile_append_of_pos hnm, List.dropWhile_append_of_pos hnm]
                  simp [h40]
                obtain ⟨a, b⟩ := hword
                unfold pWord
                rw [a, b, if_neg hne1, if_neg hne2, if_pos ⟨hcs, rfl⟩, cut_eq]
                simp only
                have hkk : pKids (pVal g) [41] 16 (printL kids ++ 41 :: t) (p + 1) = some (kids, t, p + 1 + sizeL kids) := by
                  unfold pKids
                  obtain ⟨c, r, e, _, c1⟩ := printL_head hk hf.2
                  have : cut [41] (printL kids ++ 41 :: t) = none := by rw [e]; exact cut_ne c1
                  rw [this]
                  have := pMore_print (rec := pVal g) (d := 41) (.inr rfl) kids 16 [] t (p + 1) hk hlen (hrec (p + 1) rfl)
                  simpa using this
                rw [hkk]
                simp only
                rw [if_neg hk]
                simp only [sizeV]
                rw [show p + 1 + sizeL kids = p + (1 + sizeL kids) by omega]
          · cases h1
termination_by v f p t => SizeOf.sizeOf v
decreasing_by
  have := List.sizeOf_lt_of_mem (List.mem_of_getElem? hi)
  simp
  omega
where
  fitsL_in : ∀ {l : List Val}, fitsL l = true → ∀ {v : Val}, v ∈ l → fitsV v = true
    | a :: r, h, v, hv => by
      simp only [fitsL, Bool.and_eq_true] at h
      rcases List.mem_cons.1 hv with rfl | hv
      · exact h.1
      · exact fitsL_in h.2 hv

theorem valid_fits {v : Val} (h : validV v = 0) : formedV v = true ∧ fitsV v = true ∧ sizeV v ≤ 1024 := by
  unfold validV at h
  split at h
  · omega
  · rename_i hf
    have hf : formedV v = true := by simpa using hf
    split at h
    · omega
    · rename_i hw
      rw [not_or] at hw
      refine ⟨hf, ?_, by omega⟩
      have := wide_fits v hf
      have h2 : wideV v = false := by simpa using hw.1
      rw [h2] at this
      simpa using this.symm
theorem parse_print {v : Val} (ho : okV v) (h : validV v = 0) : pVal 1025 (printV v) 0 = some (v, [], sizeV v) := by
  obtain ⟨h1, h2, h3⟩ := valid_fits h
  have := pVal_print v 1025 0 [] ho h1 h2 (.inl rfl) (by omega) (by omega)
  simpa using this
end Go.Ax

/- A contract over several blocks that may give new blocks, used at a call. -/
namespace Go.Ax
open Go
set_option linter.unusedVariables false

/-- The names of the result: old ones as they came, new ones new. -/
def tauOK (σ : List (Nat × Nat)) (ns nx n' : Nat) : List (Nat × Nat) → Bool
  | [] => true
  | (i, id) :: r => (match Nat.blt i ns with
      | true => match lk σ id with
        | some j => Nat.beq j i
        | none => false
      | false => Nat.ble nx id && Nat.blt id n') && tauOK σ ns nx n' r
def keysOr (ids : List Nat) (nx : Nat) : Mem → Bool
  | [] => true
  | (k, _) :: r => (match Nat.ble nx k with
      | true => true
      | false => inL k ids) && keysOr ids nx r

theorem tauOK_sound {σ : List (Nat × Nat)} {ns nx n' : Nat} : ∀ {τ : List (Nat × Nat)}, tauOK σ ns nx n' τ = true → ∀ p ∈ τ, (p.1 < ns ∧ lk σ p.2 = some p.1) ∨ (ns ≤ p.1 ∧ nx ≤ p.2 ∧ p.2 < n')
  | [], _, p, hp => by cases hp
  | (i, id) :: r, h, p, hp => by
    simp only [tauOK, Bool.and_eq_true] at h
    rcases List.mem_cons.1 hp with rfl | hp
    · have h1 := h.1
      split at h1
      · rename_i hb
        split at h1
        · rename_i j hj
          exact .inl ⟨Nat.le_of_ble_eq_true hb, by rw [hj, Nat.eq_of_beq_eq_true h1]⟩
        · cases h1
      · rename_i hb
        simp only [Bool.and_eq_true] at h1
        refine .inr ⟨?_, Nat.le_of_ble_eq_true h1.1, Nat.le_of_ble_eq_true h1.2⟩
        rcases Nat.lt_or_ge i ns with hl | hl
        · have e : Nat.blt i ns = true := Nat.ble_eq_true_of_le hl
          rw [e] at hb; cases hb
        · exact hl
    · exact tauOK_sound h.2 p hp
theorem keysOr_sound : ∀ {m : Mem} {ids : List Nat} {nx : Nat}, keysOr ids nx m = true → ∀ p ∈ m, nx ≤ p.1 ∨ inL p.1 ids = true
  | [], ids, nx, _, p, hp => by cases hp
  | (k, b) :: r, ids, nx, h, p, hp => by
    simp only [keysOr, Bool.and_eq_true] at h
    rcases List.mem_cons.1 hp with rfl | hp
    · have h1 := h.1
      split at h1
      · rename_i hb; exact .inl (Nat.le_of_ble_eq_true hb)
      · exact .inr h1
    · exact keysOr_sound h.2 p hp

/-- A contract over some blocks that gives blocks, old ones or new ones. -/
theorem ACalls.useN {P : Program} {Γ : List (Nat × AV)} {F : FuncId} {args args' : List AV} {ms mem m1 : Mem} {ns nx : Nat} {Qs K : AV → Mem → Nat → Prop} (hΓ : ∀ p ∈ Γ, NN p.2) (σ : List (Nat × Nat)) (h : ACalls P Γ F args' ms ns Qs)
    (hp : pickM (keysS σ) mem = m1) (hargs : CvL m1 σ args args') (hM : MemConv m1 σ ms) (hc : (nodM ms && (nod2 σ && valsLt ns σ)) = true)
    (hk : ∀ r m n, Qs r m n → ∃ τ r' m' n', Cv m τ r r' ∧ MemConv m τ m' ∧ (nodM m' && (nod2 τ && (Nat.ble nx n' && (keysOr (keysS σ) nx m' && tauOK σ ns nx n' τ)))) = true ∧ K r' (m' ++ dropM (keysS σ) mem) n') : ACalls P Γ F args mem nx K := by
  simp only [Bool.and_eq_true] at hc
  obtain ⟨hc1, hc2, hc4⟩ := hc
  refine ⟨fun X D ρ w vs hD hm hv => ?_⟩
  refine (ACalls.use (K := K) (nx := nx) hΓ h σ (m1 := m1) (rest := dropM (keysS σ) mem) ⟨fun p hp' => ?_, fun p hp' => (dropM_mem.1 hp').1, fun p hp' => ?_, fun p h1 q h2 => ?_, ?_⟩ ?_ hargs hM.cvm (nodM_sound hc1) (inj_of hc2) (fun id i hl => valsLt_sound hc4 _ (lk_mem hl)) ?_).run X D ρ w vs hD hm hv
  · rw [← hp] at hp'; exact (pickM_mem.1 hp').1
  · cases hi : inL p.1 (keysS σ) with
    | true => left; rw [← hp]; exact pickM_mem.2 ⟨hp', hi⟩
    | false => right; exact dropM_mem.2 ⟨hp', hi⟩
  · rw [← hp] at h1
    have a := (pickM_mem.1 h1).2
    have b := (dropM_mem.1 h2).2
    intro e
    rw [e, b] at a
    cases a
  · rw [← hp]; exact hm.nod.sublist ((pickM_sub mem).map _)
  · exact hm.nod.sublist ((dropM_sub mem).map _)
  · intro r m n hq hn
    obtain ⟨τ, r', m', n', h1, h2, h3, h4⟩ := hk r m n hq
    simp only [Bool.and_eq_true] at h3
    refine ⟨τ, r', m', n', Nat.le_of_ble_eq_true h3.2.2.1, h1, h2.cvm, nodM_sound h3.1, inj_of h3.2.1, fun i id hl => tauOK_sound h3.2.2.2.2 _ (lk_mem hl), fun p h5 q h6 => ?_, h4⟩
    have b := (dropM_mem.1 h6).2
    rcases keysOr_sound h3.2.2.2.1 p h5 with a | a
    · have := hD _ (hm.low q (dropM_mem.1 h6).1)
      omega
    · intro e
      rw [e, b] at a
      cases a

/-- A name for an empty slice, before a call. -/
theorem ACalls.ph {P : Program} {Γ : List (Nat × AV)} {F : FuncId} {args : List AV} {mem : Mem} {nx : Nat} {K : AV → Mem → Nat → Prop} (t : TypeId) (sz : Nat) (h : ACalls P Γ F args ((nx, .row t sz []) :: mem) (nx + 1) K) : ACalls P Γ F args mem nx K := by
  refine ⟨fun X D ρ w vs hD hm hv => ?_⟩
  obtain ⟨m1, v1, e1⟩ := hm.phantom (n := nx) (D' := dn D nx (nx + 1)) (fun h' => Nat.lt_irrefl _ (hD _ h')) (fun i hi => .inl hi) (.inr ⟨Nat.le_refl _, Nat.lt_succ_self _⟩) t sz
  refine (h.run X _ _ w vs (fun i hi => ?_) m1 ⟨hv.1, fun j c x hc hx => v1 _ _ (hv.2 j c x hc hx)⟩).mono ?_
  · rcases hi with hi | hi
    · have := hD i hi; omega
    · exact hi.2
  · rintro e w' ⟨r, v, m, n, ρ', rfl, hk, hn, hm', hr, ext⟩
    have ed : dn (dn D nx (nx + 1)) (nx + 1) n = dn D nx n := by
      funext i
      apply propext
      constructor
      · rintro ((hi | ⟨h1, h2⟩) | ⟨h1, h2⟩)
        · exact .inl hi
        · exact .inr ⟨h1, by omega⟩
        · exact .inr ⟨by omega, h2⟩
      · rintro (hi | ⟨h1, h2⟩)
        · exact .inl (.inl hi)
        · rcases Nat.lt_or_ge i (nx + 1) with h3 | h3
          · exact .inl (.inr ⟨h1, h3⟩)
          · exact .inr ⟨h3, h2⟩
    rw [ed] at hm' hr ext
    refine ⟨r, v, m, n, ρ', rfl, hk, by omega, hm', hr, ?_⟩
    have e2 := e1 D fun i hi => hi
    exact e2.trans ⟨fun i hi => ext.le i (.inl hi), fun i hi => ext.agree i (.inl hi), ext.size, ext.keep, ext.fresh, ext.env⟩
end Go.Ax
