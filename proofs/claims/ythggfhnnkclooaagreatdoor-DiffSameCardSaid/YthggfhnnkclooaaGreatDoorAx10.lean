/- A part of the proof. -/
import Derived.Test.YthggfhnnkclooaaGreatDoorAx9
import Derived.Shelf.Strings.Builder1
import Derived.Shelf.Strings.Builder2
import Derived.Shelf.Small.Bits
import Derived.Shelf.Small.Wraps
import Derived.Shelf.Strings.BuilderF
import Derived.Shelf.Strconv.Atoi
import Derived.Shelf.Strconv.Itoa0
import Derived.Shelf.Strconv.Itoa1
import Derived.Shelf.LaysM
import Derived.Shelf.Strconv.Itoa2
import Derived.Shelf.Strconv.Itoa3
import Derived.Shelf.Strconv.AtoiErrFast
import Derived.Shelf.Strconv.ParseIntEmpty
import Derived.Shelf.Strconv.AtoiFail
import Derived.Shelf.Strconv.Clone
import Derived.Shelf.Strconv.SyntaxError
import Derived.Shelf.LaysC
import Derived.Shelf.Strconv.ToError
import Derived.Shelf.Strconv.Lower
import Derived.Shelf.Strconv.ParseUint10
import Derived.Shelf.Strconv.ParseUint10Empty
import Derived.Shelf.Strconv.ParseUint10Any
import Derived.Shelf.Strconv.ParseInt10
import Derived.Shelf.Strconv.AtoiLong
import Derived.Shelf.Strconv.AtoiInnerAll
import Derived.Shelf.Strconv.RangeError
import Derived.Shelf.Strconv.ToErrorRange
import Derived.Shelf.Strconv.AtoiAll
import Derived.Shelf.Strconv.ParseUintEmpty
import Derived.Shelf.Strconv.ParseUint10b64
import Derived.Shelf.Strconv.ParseUint10b32
import Derived.Shelf.Strconv.ParseUint10b16
import Derived.Shelf.Strconv.ParseUint10b8
import Derived.Shelf.Strings.Prefix
import Derived.Shelf.Bits.Mul64
import Derived.Shelf.Strings.Repeat
import Derived.Shelf.Slices.Turned
import Derived.Shelf.Slices.Equal
import Derived.Ground.Names2Prog
import Derived.Shelf.Slices.SearchI
import Derived.Shelf.Slices.Empties2
import Derived.Test.YthggfhnnkclooaaGreatDoorProg
import Derived.KernelRfl
set_option linter.unusedSectionVars false
set_option linter.unusedVariables false
set_option linter.unusedSimpArgs false
set_option maxRecDepth 1000000
set_option maxHeartbeats 16000000
namespace Go.Proofs
open Go.Shelf
def Tryz.lays129_ren:Go.Shelf.Ren:=⟨fun|129=>262|n=>n,fun|53=>209|3=>3|4=>4|46=>252|5=>5|9=>9|n=>n,fun|n=>n⟩
theorem Tryz.lays129:Go.Proofs.Lays.n129 Tryz.prog Tryz.lays129_ren:={
 mixed:=by kernel_rfl
 f129:=Tryz.func262.trans (congrArg some (by kernel_rfl))
 t3:=Tryz.underlying3
 a3:=Tryz.isAgg3
 z3:=Tryz.sizeOf3
 v3:=Tryz.zeroValue3
 t4:=Tryz.underlying4
 a4:=Tryz.isAgg4
 z4:=Tryz.sizeOf4
 v4:=Tryz.zeroValue4
 t5:=Tryz.underlying5
 a5:=Tryz.isAgg5
 z5:=Tryz.sizeOf5
 v5:=Tryz.zeroValue5
 t9:=Tryz.underlying9
 a9:=Tryz.isAgg9
 z9:=Tryz.sizeOf9
 v9:=Tryz.zeroValue9
 t46:=Tryz.underlying252
 a46:=Tryz.isAgg252
 z46:=Tryz.sizeOf252
 v46:=Tryz.zeroValue252
 t53:=Tryz.underlying209
 a53:=Tryz.isAgg209
 z53:=Tryz.sizeOf209
 v53:=Tryz.zeroValue209 }
theorem Tryz.bits_Len64(x:Int)(w:World)(h0:0<=x)(h1:x<=18446744073709551615) :
  Calls Tryz.prog 262 #[.int .u64 x] w λe w'=>e = .returned (.int .i64 (Lib.bitLen x.toNat))/\w'=w:=Any.bits_Len64 Tryz.lays129 x w h0 h1
def Tryz.lays317_ren:Go.Shelf.Ren:=⟨fun|317=>261|n=>n,fun|3=>3|46=>252|n=>n,fun|n=>n⟩
theorem Tryz.lays317:Go.Proofs.Lays.n317 Tryz.prog Tryz.lays317_ren:={
 mixed:=by kernel_rfl
 f317:=Tryz.func261.trans (congrArg some (by kernel_rfl))
 t3:=Tryz.underlying3
 a3:=Tryz.isAgg3
 z3:=Tryz.sizeOf3
 v3:=Tryz.zeroValue3
 t46:=Tryz.underlying252
 a46:=Tryz.isAgg252
 z46:=Tryz.sizeOf252
 v46:=Tryz.zeroValue252 }
open Go.Lib in
theorem Tryz.internal_strconv_log10Pow2(x:Nat)(h:x<=64)(w:World) :
  Calls Tryz.prog 261 #[.int .i64 x] w λe w'=>e = .returned (.int .i64 (Lib.l10 x))/\w'=w:=Any.internal_strconv_log10Pow2 Tryz.lays317 x h w
open Go.Lib in
def Tryz.lays283_ren:Go.Shelf.Ren:=⟨fun|283=>246|n=>n,fun|3=>3|9=>9|4=>4|n=>n,fun|n=>n⟩
theorem Tryz.lays283:Go.Proofs.Lays.n283 Tryz.prog Tryz.lays283_ren:={
 mixed:=by kernel_rfl
 f283:=Tryz.func246.trans (congrArg some (by kernel_rfl))
 t3:=Tryz.underlying3
 a3:=Tryz.isAgg3
 z3:=Tryz.sizeOf3
 v3:=Tryz.zeroValue3
 t4:=Tryz.underlying4
 a4:=Tryz.isAgg4
 z4:=Tryz.sizeOf4
 v4:=Tryz.zeroValue4
 t9:=Tryz.underlying9
 a9:=Tryz.isAgg9
 z9:=Tryz.sizeOf9
 v9:=Tryz.zeroValue9 }
open Go.Lib in
theorem Tryz.internal_strconv_small(i:Nat)(h:i<100)(w:World) :
  Calls Tryz.prog 246 #[.int .i64 i] w λe w'=>e = .returned (.string ⟨(Lib.decDigits i).toArray⟩)/\w'=w:=Any.internal_strconv_small Tryz.lays283 i h w
def Tryz.lays285_ren:Go.Shelf.Ren:=⟨fun|285=>248|n=>n,fun|37=>164|53=>209|3=>3|4=>4|51=>157|9=>9|5=>5|0=>0|n=>n,fun|n=>n⟩
theorem Tryz.lays285:Go.Proofs.Lays.n285 Tryz.prog Tryz.lays285_ren:={
 mixed:=by kernel_rfl
 f285:=Tryz.func248.trans (congrArg some (by kernel_rfl))
 t0:=Tryz.underlying0
 a0:=Tryz.isAgg0
 z0:=Tryz.sizeOf0
 v0:=Tryz.zeroValue0
 t3:=Tryz.underlying3
 a3:=Tryz.isAgg3
 z3:=Tryz.sizeOf3
 v3:=Tryz.zeroValue3
 t4:=Tryz.underlying4
 a4:=Tryz.isAgg4
 z4:=Tryz.sizeOf4
 v4:=Tryz.zeroValue4
 t5:=Tryz.underlying5
 a5:=Tryz.isAgg5
 z5:=Tryz.sizeOf5
 v5:=Tryz.zeroValue5
 t9:=Tryz.underlying9
 a9:=Tryz.isAgg9
 z9:=Tryz.sizeOf9
 v9:=Tryz.zeroValue9
 t37:=Tryz.underlying164
 a37:=Tryz.isAgg164
 z37:=Tryz.sizeOf164
 v37:=Tryz.zeroValue164
 t51:=Tryz.underlying157
 a51:=Tryz.isAgg157
 z51:=Tryz.sizeOf157
 v51:=Tryz.zeroValue157
 t53:=Tryz.underlying209
 a53:=Tryz.isAgg209
 z53:=Tryz.sizeOf209
 v53:=Tryz.zeroValue209 }
open Go.RowKit Go.Sort Go.Lib in
theorem Tryz.internal_strconv_formatBase10(blk off cap:Nat)(u:Nat)(d:Array UInt8)(w:World)(hH:Holds (λ(b:UInt8)=>Value.int .u8 (b.toNat:Int)) w blk off d)(hu:u<10 ^ d.size)(hu64:u<18446744073709551616)(hsz:d.size<4611686018427387904) :
  Calls Tryz.prog 248 #[.slice (some ⟨blk,off,none⟩) d.size cap,.int .u64 u] w λe w'=>
   e = .returned (.tuple #[])/\∃(n v':Nat) (dk:Array UInt8),w'=(putRow (λ(b:UInt8)=>Value.int .u8 (b.toNat:Int)) w blk off dk).drewN n/\FmtInv d.size u 0 v' dk:=Any.internal_strconv_formatBase10 Tryz.lays285 blk off cap u d w hH hu hu64 hsz
def Tryz.laysC172_ren:Go.Shelf.Ren:=⟨fun|172=>177|244=>227|245=>228|247=>252|279=>253|280=>254|281=>255|282=>256|287=>266|316=>267|171=>87|205=>268|321=>273|322=>274|243=>158|246=>212|283=>246|284=>247|285=>248|286=>249|129=>262|317=>261|318=>263|319=>264|320=>265|337=>271|338=>272|n=>n,fun|9=>9|3=>3|75=>168|76=>170|4=>4|5=>5|167=>322|37=>164|0=>0|85=>323|2=>2|168=>325|53=>209|175=>339|46=>252|210=>343|127=>257|145=>352|143=>350|21=>21|171=>316|173=>319|212=>336|51=>157|20=>20|213=>337|232=>354|233=>355|80=>86|n=>n,fun|15=>2|16=>3|17=>0|18=>4|19=>5|n=>n⟩
theorem Tryz.laysC172:Go.Proofs.LaysC.n172 Tryz.prog Tryz.laysC172_ren:={
 mixed:=by kernel_rfl
 f129:=Tryz.func262.trans (congrArg some (by kernel_rfl))
 f171:=Tryz.func87.trans (congrArg some (by kernel_rfl))
 f172:=Tryz.func177.trans (congrArg some (by kernel_rfl))
 f205:=Tryz.func268.trans (congrArg some (by kernel_rfl))
 f243:=Tryz.func158.trans (congrArg some (by kernel_rfl))
 f244:=Tryz.func227.trans (congrArg some (by kernel_rfl))
 f245:=Tryz.func228.trans (congrArg some (by kernel_rfl))
 f246:=Tryz.func212.trans (congrArg some (by kernel_rfl))
 f247:=Tryz.func252.trans (congrArg some (by kernel_rfl))
 f279:=Tryz.func253.trans (congrArg some (by kernel_rfl))
 f280:=Tryz.func254.trans (congrArg some (by kernel_rfl))
 f281:=Tryz.func255.trans (congrArg some (by kernel_rfl))
 f282:=Tryz.func256.trans (congrArg some (by kernel_rfl))
 f283:=Tryz.func246.trans (congrArg some (by kernel_rfl))
 f284:=Tryz.func247.trans (congrArg some (by kernel_rfl))
 f285:=Tryz.func248.trans (congrArg some (by kernel_rfl))
 f286:=Tryz.func249.trans (congrArg some (by kernel_rfl))
 f287:=Tryz.func266.trans (congrArg some (by kernel_rfl))
 f316:=Tryz.func267.trans (congrArg some (by kernel_rfl))
 f317:=Tryz.func261.trans (congrArg some (by kernel_rfl))
 f318:=Tryz.func263.trans (congrArg some (by kernel_rfl))
 f319:=Tryz.func264.trans (congrArg some (by kernel_rfl))
 f320:=Tryz.func265.trans (congrArg some (by kernel_rfl))
 f321:=Tryz.func273.trans (congrArg some (by kernel_rfl))
 f322:=Tryz.func274.trans (congrArg some (by kernel_rfl))
 f337:=Tryz.func271.trans (congrArg some (by kernel_rfl))
 f338:=Tryz.func272.trans (congrArg some (by kernel_rfl))
 t0:=Tryz.underlying0
 a0:=Tryz.isAgg0
 z0:=Tryz.sizeOf0
 v0:=Tryz.zeroValue0
 t2:=Tryz.underlying2
 a2:=Tryz.isAgg2
 z2:=Tryz.sizeOf2
 v2:=Tryz.zeroValue2
 t3:=Tryz.underlying3
 a3:=Tryz.isAgg3
 z3:=Tryz.sizeOf3
 v3:=Tryz.zeroValue3
 t4:=Tryz.underlying4
 a4:=Tryz.isAgg4
 z4:=Tryz.sizeOf4
 v4:=Tryz.zeroValue4
 t5:=Tryz.underlying5
 a5:=Tryz.isAgg5
 z5:=Tryz.sizeOf5
 v5:=Tryz.zeroValue5
 t9:=Tryz.underlying9
 a9:=Tryz.isAgg9
 z9:=Tryz.sizeOf9
 v9:=Tryz.zeroValue9
 t20:=Tryz.underlying20
 a20:=Tryz.isAgg20
 z20:=Tryz.sizeOf20
 v20:=Tryz.zeroValue20
 t21:=Tryz.underlying21
 a21:=Tryz.isAgg21
 z21:=Tryz.sizeOf21
 v21:=Tryz.zeroValue21
 t37:=Tryz.underlying164
 a37:=Tryz.isAgg164
 z37:=Tryz.sizeOf164
 v37:=Tryz.zeroValue164
 t46:=Tryz.underlying252
 a46:=Tryz.isAgg252
 z46:=Tryz.sizeOf252
 v46:=Tryz.zeroValue252
 t51:=Tryz.underlying157
 a51:=Tryz.isAgg157
 z51:=Tryz.sizeOf157
 v51:=Tryz.zeroValue157
 t53:=Tryz.underlying209
 a53:=Tryz.isAgg209
 z53:=Tryz.sizeOf209
 v53:=Tryz.zeroValue209
 t75:=Tryz.underlying168
 a75:=Tryz.isAgg168
 z75:=Tryz.sizeOf168
 v75:=Tryz.zeroValue168
 t76:=Tryz.underlying170
 a76:=Tryz.isAgg170
 z76:=Tryz.sizeOf170
 v76:=Tryz.zeroValue170
 t85:=Tryz.underlying323
 a85:=Tryz.isAgg323
 z85:=Tryz.sizeOf323
 v85:=Tryz.zeroValue323
 t127:=Tryz.underlying257
 a127:=Tryz.isAgg257
 z127:=Tryz.sizeOf257
 v127:=Tryz.zeroValue257
 t143:=Tryz.underlying350
 a143:=Tryz.isAgg350
 z143:=Tryz.sizeOf350
 v143:=Tryz.zeroValue350
 t145:=Tryz.underlying352
 a145:=Tryz.isAgg352
 z145:=Tryz.sizeOf352
 v145:=Tryz.zeroValue352
 t167:=Tryz.underlying322
 a167:=Tryz.isAgg322
 z167:=Tryz.sizeOf322
 v167:=Tryz.zeroValue322
 t168:=Tryz.underlying325
 a168:=Tryz.isAgg325
 z168:=Tryz.sizeOf325
 v168:=Tryz.zeroValue325
 t171:=Tryz.underlying316
 a171:=Tryz.isAgg316
 z171:=Tryz.sizeOf316
 v171:=Tryz.zeroValue316
 t173:=Tryz.underlying319
 a173:=Tryz.isAgg319
 z173:=Tryz.sizeOf319
 v173:=Tryz.zeroValue319
 t175:=Tryz.underlying339
 a175:=Tryz.isAgg339
 z175:=Tryz.sizeOf339
 v175:=Tryz.zeroValue339
 t210:=Tryz.underlying343
 a210:=Tryz.isAgg343
 z210:=Tryz.sizeOf343
 v210:=Tryz.zeroValue343
 t212:=Tryz.underlying336
 a212:=Tryz.isAgg336
 z212:=Tryz.sizeOf336
 v212:=Tryz.zeroValue336
 t213:=Tryz.underlying337
 a213:=Tryz.isAgg337
 z213:=Tryz.sizeOf337
 t232:=Tryz.underlying354
 a232:=Tryz.isAgg354
 z232:=Tryz.sizeOf354
 v232:=Tryz.zeroValue354
 t233:=Tryz.underlying355
 a233:=Tryz.isAgg355
 z233:=Tryz.sizeOf355
 v233:=Tryz.zeroValue355
 g15:=by kernel_rfl
 g16:=by kernel_rfl
 g17:=by kernel_rfl
 g18:=by kernel_rfl
 g19:=by kernel_rfl
 t80:=Tryz.underlying86
 a80:=Tryz.isAgg86
 z80:=Tryz.sizeOf86
 v80:=Tryz.zeroValue86
 i0:=by kernel_rfl
 i2:=by kernel_rfl
 i3:=by kernel_rfl
 i4:=by kernel_rfl
 i5:=by kernel_rfl
 i9:=by kernel_rfl
 i20:=by kernel_rfl
 i21:=by kernel_rfl
 i37:=by kernel_rfl
 i46:=by kernel_rfl
 i51:=by kernel_rfl
 i53:=by kernel_rfl
 i75:=by kernel_rfl
 i76:=by kernel_rfl
 i80:=by kernel_rfl
 i85:=by kernel_rfl
 i127:=by kernel_rfl
 i143:=by kernel_rfl
 i145:=by kernel_rfl
 i167:=by kernel_rfl
 i168:=by kernel_rfl
 i171:=by kernel_rfl
 i173:=by kernel_rfl
 i175:=by kernel_rfl
 i210:=by kernel_rfl
 i212:=by kernel_rfl
 i232:=by kernel_rfl
 i233:=by kernel_rfl
 m15:=by kernel_rfl
 m16:=by kernel_rfl
 m17:=by kernel_rfl
 m18:=by kernel_rfl
 m19:=by kernel_rfl
 c0:=by kernel_rfl
 c2:=by kernel_rfl
 c3:=by kernel_rfl
 c4:=by kernel_rfl
 c5:=by kernel_rfl
 c9:=by kernel_rfl
 c20:=by kernel_rfl
 c21:=by kernel_rfl
 c37:=by kernel_rfl
 c46:=by kernel_rfl
 c51:=by kernel_rfl
 c53:=by kernel_rfl
 c75:=by kernel_rfl
 c76:=by kernel_rfl
 c80:=by kernel_rfl
 c85:=by kernel_rfl
 c127:=by kernel_rfl
 c143:=by kernel_rfl
 c145:=by kernel_rfl
 c167:=by kernel_rfl
 c168:=by kernel_rfl
 c171:=by kernel_rfl
 c173:=by kernel_rfl
 c175:=by kernel_rfl
 c210:=by kernel_rfl
 c212:=by kernel_rfl
 c213:=by kernel_rfl
 c232:=by kernel_rfl
 c233:=by kernel_rfl }
open Go.RowKit in
theorem Tryz.strconv_Atoi_ok(s:ByteArray)(hmax:s.size<=9223372036854775806)(v:Int)(h:Lib.atoiAll s.data.toList = .ok v)(w:World) :
  Calls Tryz.prog 177 #[.string s] w λe w'=>e = .returned (.tuple #[.int .i64 v,.nilIface])/\(w'=w\/∃t,w'=Lib.bytesWorld w 5 t):=Any.strconv_Atoi_ok Tryz.laysC172 s hmax v h w
open Go.RowKit in
theorem Tryz.strconv_Atoi_syntax(s:ByteArray)(hlim:s.size<=281474976710656)(h:Lib.atoiAll s.data.toList=(Lib.atoiAll []))(ev:Value)(w:World)(hv:w.cell? ⟨2,0,none⟩=some ev)(hev:ev = .nilIface\/∃te pe,ev = .iface te pe) :
  Calls Tryz.prog 177 #[.string s] w λe w'=>∃N,e = .returned (.tuple #[.int .i64 (0),.iface 325 (.pointer (some ⟨N,0,none⟩))])/\w.heap.size<=N/\w'.heap[N]? = some (.cells #[.string ⟨#[65,116,111,105]⟩,.string s,ev] 343 (0,0))/\Below w.heap.size w w':=Any.strconv_Atoi_syntax Tryz.laysC172 s hlim h ev w hv hev
open Go.RowKit in
theorem Tryz.strconv_Atoi_range(s:ByteArray)(hlim:s.size<=281474976710656)(h:Lib.atoiAll s.data.toList = .range)(ev:Value)(w:World)(hv:w.cell? ⟨3,0,none⟩=some ev)(hev:ev = .nilIface\/∃te pe,ev = .iface te pe) :
  Calls Tryz.prog 177 #[.string s] w λe w'=>∃N,e = .returned (.tuple #[.int .i64 (Lib.atoiSat s.data.toList),.iface 325 (.pointer (some ⟨N,0,none⟩))])/\w.heap.size<=N/\w'.heap[N]? = some (.cells #[.string ⟨#[65,116,111,105]⟩,.string s,ev] 343 (0,0))/\Below w.heap.size w w':=Any.strconv_Atoi_range Tryz.laysC172 s hlim h ev w hv hev
end Go.Proofs
namespace Go.Proofs.YthggfhnnkclooaaGreatDoor
open Go Go.Ax Go.Proofs Tryz
def gz:List (Nat × AV):=[(2,.ifc 350 (.ip (.agg []))),(3,.ifc 350 (.ip (.agg []))),(0,.agg ([.int .u64 1,.int .u64 10,.int .u64 100,.int .u64 1000,.int .u64 10000,.int .u64 100000,.int .u64 1000000,.int .u64 10000000,.int .u64 100000000,.int .u64 1000000000,.int .u64 10000000000,.int .u64 100000000000,.int .u64 1000000000000,.int .u64 10000000000000,.int .u64 100000000000000,.int .u64 1000000000000000,.int .u64 10000000000000000,.int .u64 100000000000000000,.int .u64 1000000000000000000,.int .u64 10000000000000000000]))]
theorem fQ:∀p∈gz,NN p.2:=λp hp=>by
 simp only[gz,Y6,List.not_mem_nil,or_false] at hp;rcases hp with rfl|rfl|rfl
 .exact nn
 .exact nn
 .exact nn
theorem Us(u:Nat)(h:u<18446744073709551616):aX prog [] 262 [.int .u64 u] (.int .i64 (Lib.bitLen u)):=
 rO (λ_ _ _ _ _ h=>G2 h) λw _=>(Tryz.bits_Len64 u w om om).mono λe w' ⟨h1,h2⟩=>⟨_,h1,λ_ _ _ _=>.int _ _,by rw[h2];exact .refl w⟩
theorem Ub(x:Nat)(h:x<=64):aX prog [] 261 [.int .i64 x] (.int .i64 (Lib.l10 x)):=
 rO (λ_ _ _ _ _ h=>G2 h) λw _=>(Tryz.internal_strconv_log10Pow2 x h w).mono λe w' ⟨h1,h2⟩=>⟨_,h1,λ_ _ _ _=>.int _ _,by rw[h2];exact .refl w⟩
theorem VH(i:Nat)(h:i<100):aX prog [] 246 [.int .i64 i] (.str (Lib.decDigits i)):=
 rO (λ_ _ _ _ _ h=>G2 h) λw _=>(Tryz.internal_strconv_small i h w).mono λe w' ⟨h1,h2⟩=>⟨_,h1,λ_ _ _ _=>.str _,by rw[h2];exact .refl w⟩
theorem VL(b:Bool):aX prog [] 263 [.bool b] (.int .i64 (if b then 1 else 0)):=by
 cases b
 all_goals
  refine aG bJ func263 rfl ?_;refine Z ?_;exact aA nn ⟨rfl,rfl,rfl⟩
theorem QS(t:TypeId)(xs:List UInt8)(u:Nat)(hu64:u<18446744073709551616)(hlen:1+Lib.nDigits u<=xs.length)(hxl:xs.length<=1000) :
  aJ prog [] 248 [.sl 0 1 (Lib.nDigits u),.int .u64 u] [(0,.row t 1 (mR xs))] 1 λr m n=>r = .tup []/\m=[(0,.row t 1 (mR (xs.take 1++Lib.decDigits u++xs.drop (1+Lib.nDigits u))))]:=
 WE Tryz.internal_strconv_formatBase10 xs u hu64 hlen hxl
def XF:List AV:=[.int .u64 1,.int .u64 10,.int .u64 100,.int .u64 1000,.int .u64 10000,.int .u64 100000,.int .u64 1000000,.int .u64 10000000,.int .u64 100000000,.int .u64 1000000000,.int .u64 10000000000,.int .u64 100000000000,.int .u64 1000000000000,.int .u64 10000000000000,.int .u64 100000000000000,.int .u64 1000000000000000,.int .u64 10000000000000000,.int .u64 100000000000000000,.int .u64 1000000000000000000,.int .u64 10000000000000000000]
theorem Tq(q:Nat)(h:q<=19):XF[q]? = some (.int .u64 ((10 ^ q:Nat):Int)):=by
 rcases(show q=0\/q=1\/q=2\/q=3\/q=4\/q=5\/q=6\/q=7\/q=8\/q=9\/q=10\/q=11\/q=12\/q=13\/q=14\/q=15\/q=16\/q=17\/q=18\/q=19 by omega) with rfl|rfl|rfl|rfl|rfl|rfl|rfl|rfl|rfl|rfl|rfl|rfl|rfl|rfl|rfl|rfl|rfl|rfl|rfl|rfl<;>rfl
theorem D8(u:Nat)(h1:1<=u)(h2:u<18446744073709551616):aX prog gz 247 [.int .u64 u] (.int .i64 (Lib.nDigits u)):=by
 obtain⟨e1,e2⟩:=Lib.numDigits_eq u h1 h2;have hL:=Us u h2;have hb:Lib.bitLen u<=64:=Lib.bitLen_le u 64 (Y8 _) h2;generalize Lib.bitLen u=L at *;have hq:=Ub L hb;generalize Lib.l10 L=q at *;generalize Lib.nDigits u=nd at *;have htab:=Tq q e2;refine aG fQ func247 rfl ?_;refine Z ?_;refine hL.goG ?_;refine Z ?_;refine hq.goG ?_;refine Z ?_;refine aO (b:=Nat.blt q 20) (Y3 om) ?_;refine Z ?_;have htab':XF[((q:Int)).toNat*1]? = some (.int .u64 ((10 ^ q:Nat):Int)):=su htab
 clear htab;have hpq:∃pq:Int,pq=((10 ^ q:Nat):Int):=⟨_,rfl⟩
 obtain⟨pq,hpq⟩:=hpq;rw[<-hpq] at htab';refine aC htab' ?_;refine Z ?_;refine(VL _).goG ?_;refine Z ?_;refine aA nn ⟨?_,rfl,rfl⟩;congr 1;have hle:decide ((u:Int)≥pq)=decide (10 ^ q<=u):=by rw[hpq];simp only[ge_iff_le,Int.ofNat_le]
 have hnd:nd<=20:=by rw[<-e1];split<;>omega
 rw[hle,w64 (y:=(nd:Int)) _ oq];rw[<-e1];by_cases hc:10 ^ q<=u<;>simp[hc]
theorem D1(u:Nat)(h2:u<18446744073709551616):Lib.nDigits u<=20:=by
 by_cases h1:1<=u
 .obtain⟨e1,e2⟩:=Lib.numDigits_eq u h1 h2;rw[<-e1];split<;>omega
 .rw[Lib.nDigits_small om];omega
theorem C2(n:Int):IntKind.u64.wrap n=n%18446744073709551616:=by
 simp[IntKind.wrap,IntKind.bits,IntKind.signed]
theorem Js(n:Int)(hn:i64 n):aX prog gz 212 [.int .i64 n,.int .i64 10] (.str (Lib.itoa n)):=by
 rcases(show (0<=n/\n<100)\/100<=n\/n<0 by omega) with⟨h0,h1⟩|h1|h1
 .obtain⟨i,rfl⟩:∃i:Nat,n=i:=⟨n.toNat,om⟩
  have d2:decide ((i:Int)<100)=true:=su h1
  refine aG fQ func212 rfl ?_;refine Z ?_;rw[d2];refine Z ?_;refine(VH i om).goG ?_;refine Z ?_;refine aA nn ⟨?_,rfl,rfl⟩;rw[Lib.itoa_nonneg]
 .obtain⟨u,rfl⟩:∃i:Nat,n=i:=⟨n.toNat,om⟩
  have d2:decide ((u:Int)<100)=false:=by simp;omega
  have d3:decide ((u:Int)<0)=false:=sq
  unfold i64 at hn;have hw:IntKind.u64.wrap (u:Int)=(u:Int):=by rw[C2];omega
  have hu64:u<18446744073709551616:=om;have hnd:=D1 u hu64;have hF:=(QS 316 (List.replicate 24 0) u hu64 (by simp;omega) sq).glob (C:=gz);have hdl:=Lib.decDigits_length u;have hN:=D8 u om hu64;have hdd:(Lib.decDigits u++List.drop (1+Lib.nDigits u) (List.replicate 24 0)).length=23:=by simp[hdl];omega
  have hit:=Lib.itoa_nonneg u;generalize Lib.nDigits u=nd at hN hF hnd hdl hdd;generalize Lib.decDigits u=ds at hF hdl hit hdd;refine aG fQ func212 rfl ?_;refine Z ?_;rw[d2];refine Z ?_;rw[hw];refine hN.use fQ dN nn ?_;refine Z ?_;rw[w64 (x:=1+(nd:Int)) (y:=((1+nd:Nat):Int)) om oq];refine Z ?_;refine aO (Ho (by simp;omega) (by simp;omega) sq) ?_;refine Z ?_;refine aJ.useI fQ [0] hF (by rfl) (.cons (.slE rfl (by simp;omega)) (.s .nil)) ⟨aI 0 (CG _),trivial⟩ rfl ?_;rintro r m n' ⟨rfl,rfl⟩;refine⟨nn,⟨aI 0 (CG _),trivial⟩,rfl, ?_⟩;have hlist:List.take 1 (List.replicate 24 (0:UInt8))++ds++List.drop (1+nd) (List.replicate 24 0)=0::(ds++List.drop (1+nd) (List.replicate 24 0)):=rfl;rw[hlist];have htk:List.take nd (ds++List.drop (1+nd) (List.replicate 24 0))=ds:=by rw[aAb om,Y9 om]
  generalize ds++List.drop (1+nd) (List.replicate 24 0)=rest at hdd htk;have hrl:(mR (0::rest)).length=24:=by rw[nY];simp[hdd]
  refine Z ?_;refine aO (by rw[Y1];exact⟨rfl,Y3 (by rw[hrl];omega)⟩) ?_;refine Z ?_;rw[w64 (x:=1+(nd:Int)) (y:=((1+nd:Nat):Int)) om oq];refine Z ?_;refine aO (Ho (by simp;omega) (by simp;omega) sq) ?_;refine Z ?_;refine aO (Y3 (by rw[hrl];simp;omega)) ?_;refine aC (a:=ds) ?_ ?_
  .rw[Ep,FV,sN]
   show some (List.take ((((1+nd:Nat):Int)).toNat-1) rest)=some ds
   rw[<-htk];congr 2;simp;omega
  refine Z ?_;refine aA nn ⟨?_,rfl,rfl⟩;rw[hit]
 .obtain⟨u,rfl⟩:∃i:Nat,n = -(i:Int):=⟨(-n).toNat,om⟩
  have d1:decide (0<=-(u:Int))=false:=by simp;omega
  have d3:decide (-(u:Int)<0)=true:=by simp;omega
  unfold i64 at hn;have hw:IntKind.u64.wrap (0-IntKind.u64.wrap (-(u:Int)))=(u:Int):=by rw[C2,C2];omega
  have hu64:u<18446744073709551616:=om;have hnd:=D1 u hu64;have hF:=(QS 316 (List.replicate 24 0) u hu64 (by simp;omega) sq).glob (C:=gz);have hdl:=Lib.decDigits_length u;have hN:=D8 u om hu64;have hdd:(Lib.decDigits u++List.drop (1+Lib.nDigits u) (List.replicate 24 0)).length=23:=by simp[hdl];omega
  have hit:=Lib.itoa_neg u om;generalize Lib.nDigits u=nd at hN hF hnd hdl hdd;generalize Lib.decDigits u=ds at hF hdl hit hdd;refine aG fQ func212 rfl ?_;refine Z ?_;rw[d1];refine Z ?_;rw[d3];refine Z ?_;rw[hw];refine hN.use fQ dN nn ?_;refine Z ?_;rw[w64 (x:=1+(nd:Int)) (y:=((1+nd:Nat):Int)) om oq];refine Z ?_;refine aO (Ho (by simp;omega) (by simp;omega) sq) ?_;refine Z ?_;refine aJ.useI fQ [0] hF (by rfl) (.cons (.slE rfl (by simp;omega)) (.s .nil)) ⟨aI 0 (CG _),trivial⟩ rfl ?_;rintro r m n' ⟨rfl,rfl⟩;refine⟨nn,⟨aI 0 (CG _),trivial⟩,rfl, ?_⟩;have hlist:List.take 1 (List.replicate 24 (0:UInt8))++ds++List.drop (1+nd) (List.replicate 24 0)=0::(ds++List.drop (1+nd) (List.replicate 24 0)):=rfl;rw[hlist];have htk:List.take nd (ds++List.drop (1+nd) (List.replicate 24 0))=ds:=by rw[aAb om,Y9 om]
  generalize ds++List.drop (1+nd) (List.replicate 24 0)=rest at hdd htk;have hrl:∀b,(mR (b::rest)).length=24:=λb=>by rw[nY];simp[hdd]
  refine Z ?_;rw[d3];refine Z ?_;refine aO (by rw[Y1];exact⟨rfl,Y3 (Nat.le_of_eq (hrl 45).symm)⟩) ?_;refine Z ?_;rw[w64 (x:=1+(nd:Int)) (y:=((1+nd:Nat):Int)) om oq];refine Z ?_;refine aO (Ho sq (by simp;omega) sq) ?_;refine Z ?_;refine aO (Y3 (show _<=(mR (45::rest)).length by rw[hrl];simp;omega)) ?_;refine aC (a:=45::ds) (show gI (List.take ((((1+nd:Nat):Int)).toNat-0) (List.drop (0+0) (mR (45::rest))))=_ from ?_) ?_
  .rw[Ep,FV,sN];have e:(((1+nd:Nat):Int)).toNat-0=nd+1:=by simp;omega
   rw[e]
   show some (45::List.take nd rest)=_
   rw[htk]
  refine Z ?_;refine aA nn ⟨?_,rfl,rfl⟩;rw[hit]
theorem US(n:Int)(hn:i64 n):aX prog gz 158 [.int .i64 n] (.str (Lib.itoa n)):=by
 have h:=Js n hn;generalize Lib.itoa n=r at h;refine aG fQ func158 rfl ?_;refine Z ?_;refine h.use fQ dN nn ?_;refine Z ?_;exact aA nn ⟨rfl,rfl,rfl⟩
theorem TU(n:Int)(hn:i64 n):aX prog gz 87 [.int .i64 n] (.str (Lib.itoa n)):=by
 have h:=US n hn;generalize Lib.itoa n=r at h;refine aG fQ func87 rfl ?_;refine Z ?_;refine h.use fQ dN nn ?_;refine Z ?_;exact aA nn ⟨rfl,rfl,rfl⟩
end Go.Proofs.YthggfhnnkclooaaGreatDoor
namespace Go.Ax
open Go
def dg(B n:Nat):List Nat:=if h:n=0\/B<2 then [] else n%B::dg B (n/B)
termination_by n
decreasing_by
 have:=not_or.1 h;exact aBQ om om
def vl(B:Nat):List Nat->Nat
 | []=>0
 | d::r=>d+B*vl B r
def fB:List Nat->List Nat
 | []=>[]
 | d::r=>if d=0/\fB r=[] then [] else d::fB r
theorem fP(B:Nat):dg B 0=[]:=by rw[dg];simp
theorem qV{B n:Nat}(hB:2<=B)(hn:0<n):dg B n=n%B::dg B (n/B):=by
 rw[dg,dif_neg om]
theorem mO{B:Nat}(hB:2<=B)(n:Nat):vl B (dg B n)=n:=by
 induction n using Nat.strongRecOn with
 | ind n ih=>
  rcases ZC n with rfl|hn
  .rw[fP];rfl
  .rw[qV hB hn,vl,ih _ (aBQ hn om)];exact aBh n B
theorem l6{B:Nat}(hB:2<=B)(n:Nat):∀d∈dg B n,d<B:=by
 induction n using Nat.strongRecOn with
 | ind n ih=>
  rcases ZC n with rfl|hn
  .rw[fP];simp
  .rw[qV hB hn];intro d hd;rcases Y6.1 hd with rfl|hd
   .exact Zx _ om
   .exact ih _ (aBQ hn om) d hd
theorem QN{B n:Nat}(hB:2<=B):dg B n=[]↔n=0:=by
 constructor
 .intro h;rcases ZC n with e|hn
  .exact e
  .rw[qV hB hn] at h;cases h
 .rintro rfl;exact fP B
theorem Lt{B d m:Nat}(hB:2<=B)(hd:d<B)(h:0<d+B*m):dg B (d+B*m)=d::dg B m:=by
 rw[qV hB h,aBt,Zs hd,aBN _ _ om,aAj hd,ZP]
theorem kI{B:Nat}(hB:2<=B):∀l:List Nat,(∀d∈l,d<B)->fB l=dg B (vl B l)
 | [],_=>by rw[vl,fP];rfl
 | d::r,h=>by
  have ih:=kI hB r λx hx=>h x (by simp[hx])
  have hd:=h d sq;rw[fB,vl,ih];by_cases e:d=0/\dg B (vl B r)=[]
  .rw[Y4 e,e.1,(QN hB).1 e.2];simp[fP]
  .rw[Yz e,Lt hB hd];rcases ZC d with h0|h0
   .have hv:vl B r≠0:=λhv=>e ⟨h0,by rw[hv,fP]⟩
    have:=aAM (show 0<B by omega) (Nat.pos_of_ne_zero hv);omega
   .omega
theorem vS{B:Nat}(hB:2<=B):∀l:List Nat,(∀d∈l,d<B)->vl B l<B ^ l.length
 | [],_=>by simp[vl]
 | d::r,h=>by
  have ih:=vS hB r λx hx=>h x (by simp[hx])
  have hd:=h d sq;rw[vl,Zc,Nat.pow_succ,ZX _ B];have:B*(vl B r+1)<=B*B ^ r.length:=Zl _ ih;rw[Nat.mul_add] at this;omega
theorem iZ(B:Nat):∀l m:List Nat,vl B (l++m)=vl B l+B ^ l.length*vl B m
 | [],m=>by simp[vl]
 | d::r,m=>by
  rw[Zo,vl,iZ B r m,vl,Zc,Nat.pow_succ,Nat.mul_add,ZX (B ^ r.length) B,Nat.mul_assoc];omega
theorem iC{B n:Nat}(hB:2<=B):n<B ^ (dg B n).length:=by
 have:=vS hB _ (l6 hB n)
 rwa [mO hB] at this
theorem TJ{B:Nat}(hB:2<=B)(n:Nat):0<n->B ^ ((dg B n).length-1)<=n:=by
 induction n using Nat.strongRecOn with
 | ind n ih=>
  intro hn;rw[qV hB hn,Zc,aAZ];rcases ZC (n/B) with e|e
  .rw[e,fP,aAr,Nat.pow_zero];exact hn
  .have h1:=ih _ (aBQ hn om) e;have h2:0<(dg B (n/B)).length:=by
    rcases ZC (dg B (n/B)).length with h|h
    .have:=(QN hB).1 (ZB h);omega
    .exact h
   have h3:B ^ (dg B (n/B)).length=B*B ^ ((dg B (n/B)).length-1):=by
    rw[<-Nat.pow_succ'];congr 1;omega
   rw[h3];exact Zj (Zl B h1) (Nat.mul_div_le n B)
theorem k9{B n k:Nat}(hB:2<=B)(h:n<B ^ k):(dg B n).length<=k:=by
 rcases ZC n with rfl|hn
 .rw[fP];simp
 .have h1:=TJ hB n hn;rcases ZG k (dg B n).length with h2|h2
  .have:B ^ k<=B ^ ((dg B n).length-1):=aAd om om;omega
  .exact h2
theorem Jo{B n k:Nat}(hB:2<=B):(dg B n).length<=k↔n<B ^ k:=by
 constructor
 .intro h;exact aAo (iC hB) (aAd om h)
 .exact k9 hB
theorem dO{B n m:Nat}(hB:2<=B)(h:n<=m):(dg B n).length<=(dg B m).length:=
 k9 hB (aAf h (iC hB))
theorem sK(B:Nat)(l:List Nat)(d:Nat):vl B (l++[d])=vl B l+B ^ l.length*d:=by
 rw[iZ];simp[vl]
theorem wQ{l:List Nat}{i d:Nat}(h:l[i]? = some d):l.take (i+1)=l.take i++[d]:=by
 rw[aB5,h];rfl
theorem jE{B:Nat}{l:List Nat}{i d:Nat}(h:l[i]? = some d):vl B (l.take (i+1))=vl B (l.take i)+B ^ i*d:=by
 have hl:=(Y0.1 h).1;rw[wQ h,sK,ZO,Z1 om]
theorem z8{B:Nat}(hB:2<=B){s:List Nat}{va vb x y c i:Nat}(hs:s.length=i)(h:vl B s+B ^ i*c=va+vb) :
  vl B (s++[(c+(x+y))%B])+B ^ (i+1)*((c+(x+y))/B)=(va+B ^ i*x)+(vb+B ^ i*y):=by
 rw[sK,hs,Nat.pow_succ,Nat.mul_assoc];have h2:B ^ i*((c+(x+y))%B)+B ^ i*(B*((c+(x+y))/B))=B ^ i*(c+(x+y)):=by
  rw[<-Nat.mul_add,aBh]
 rw[Nat.mul_add,Nat.mul_add] at h2;omega
theorem H1{B:Nat}{s:List Nat}{va vb x y b i:Nat}(hs:s.length=i)(h:vl B s+vb=va+B ^ i*b)(hx:x<B)(hy:y<B)(hb:b<=1) :
  vl B (s++[if y+b>x then x+B-(y+b) else x-(y+b)])+(vb+B ^ i*y)=(va+B ^ i*x)+B ^ (i+1)*(if y+b>x then 1 else 0):=by
 rw[sK,hs,Nat.pow_succ];split
 .have e:B ^ i*(x+B-(y+b))+B ^ i*(y+b)=B ^ i*x+B ^ i*B*1:=by rw[<-Nat.mul_add,aAA,<-Nat.mul_add];congr 1;omega
  rw[Nat.mul_add (B ^ i) y b] at e;omega
 .have e:B ^ i*(x-(y+b))+B ^ i*(y+b)=B ^ i*x:=by rw[<-Nat.mul_add];congr 1;omega
  rw[Nat.mul_add (B ^ i) y b] at e;omega
theorem wA{B x y b:Nat}(hx:x<B)(hy:y<B)(hb:b<=1):(if y+b>x then x+B-(y+b) else x-(y+b))<B:=by
 split<;>omega
theorem Kn(B:Nat):∀(l:List Nat) (k d e:Nat),l[k]? = some e->vl B (l.set k d)+B ^ k*e=vl B l+B ^ k*d
 | [],k,d,e,h=>by cases h
 | a::r,0,d,e,h=>by
  cases h;simp only[aAy,vl,Nat.pow_zero,aAa];omega
 | a::r,k+1,d,e,h=>by
  have ih:=Kn B r k d e h;simp only[List.set_cons_succ,vl,Nat.pow_succ,ZX (B ^ k) B,Nat.mul_assoc];have h2:B*(vl B (r.set k d))+B*(B ^ k*e)=B*vl B r+B*(B ^ k*d):=by rw[<-Nat.mul_add,ih,Nat.mul_add]
  omega
theorem O6{B:Nat}{l:List Nat}{k d:Nat}(hl:∀x∈l,x<B)(hd:d<B):∀x∈l.set k d,x<B:=λx hx=>by
 rcases aBr hx with h|h
 .exact hl x h
 .rw[h];exact hd
theorem Ol{B:Nat}{P:List Nat}{V x y c p k w:Nat}(hp:P[k]? = some p)(h:vl B P+B ^ k*c=V+x*w) :
  vl B (P.set k ((c+(x*y+p))%B))+B ^ (k+1)*((c+(x*y+p))/B)=V+x*(w+B ^ k*y):=by
 have h1:=Kn B P k ((c+(x*y+p))%B) p hp;have h2:B ^ k*((c+(x*y+p))%B)+B ^ k*(B*((c+(x*y+p))/B))=B ^ k*(c+(x*y+p)):=by
  rw[<-Nat.mul_add,aBh]
 have h3:x*(B ^ k*y)=B ^ k*(x*y):=by rw[aAO]
 rw[Nat.pow_succ,Nat.mul_assoc,Nat.mul_add,h3];rw[Nat.mul_add,Nat.mul_add (B ^ k) (x*y) p] at h2;omega
theorem PQ{B:Nat}(hB:0<B){Q r d x:Nat}(hd:0<d){V:Nat}(h:V=Q*d+r)(hr:r<d) :
  x+B*V=(((r*B+x)/d)+B*Q)*d+(r*B+x)%d/\(r*B+x)%d<d/\(x<B->(r*B+x)/d<B):=by
 refine⟨?_,Zx _ hd,λhx=>?_⟩
 .have e:=aBv (r*B+x) d;rw[h,Nat.add_mul,Nat.mul_add,ZX ((r*B+x)/d) d,Nat.mul_assoc,ZX B r];omega
 .rw[aAE hd];have:(r+1)*B<=d*B:=ZF _ hr;rw[Nat.add_mul,aAa,ZX d B] at this;omega
theorem dR{B:Nat}{l:List Nat}{i d:Nat}(h:l[i]? = some d):vl B (l.drop i)=d+B*vl B (l.drop (i+1)):=by
 obtain⟨h1,h2⟩:=Y0.1 h;rw[List.drop_eq_getElem_cons h1,vl,h2]
theorem zM{B:Nat}{a b:List Nat}{i x y:Nat}(ha:∀d∈a,d<B)(hB:2<=B)(hab:a.drop (i+1)=b.drop (i+1))(hx:a[i]? = some x)(hy:b[i]? = some y)(h:x<y)(hl:a.length=b.length):vl B a<vl B b:=by
 have ea:a=a.take i++a.drop i:=(List.take_append_drop i a).symm;have eb:b=b.take i++b.drop i:=(List.take_append_drop i b).symm;have hia:=(Y0.1 hx).1;have la:(a.take i).length=i:=by rw[ZO];omega
 have lb:(b.take i).length=i:=by rw[ZO];omega
 have h1:=vS hB (a.take i) λd hd=>ha d (Zg hd)
 rw[la] at h1;have va:vl B a=vl B (a.take i)+B ^ i*(x+B*vl B (a.drop (i+1))):=by
  conv=>lhs;rw[ea]
  rw[iZ,la,dR hx]
 have vb:vl B b=vl B (b.take i)+B ^ i*(y+B*vl B (a.drop (i+1))):=by
  conv=>lhs;rw[eb]
  rw[iZ,lb,dR hy,hab]
 have h2:B ^ i*(x+1+B*vl B (a.drop (i+1)))<=B ^ i*(y+B*vl B (a.drop (i+1))):=Zl _ om;have h3:B ^ i*(x+1+B*vl B (a.drop (i+1)))=B ^ i*(x+B*vl B (a.drop (i+1)))+B ^ i:=by
  rw[show x+1+B*vl B (a.drop (i+1))=(x+B*vl B (a.drop (i+1)))+1 by omega,Nat.mul_add,aAA]
 omega
theorem E7{B n m:Nat}(hB:2<=B)(h:(dg B n).length<(dg B m).length):n<m:=by
 rcases ZG n m with h1|h1
 .exact h1
 .have:=dO hB h1;omega
end Go.Ax
namespace Go.Ax
open Go
theorem Fe{B:Nat}(hB:2<=B){s:List Nat}{X A x y q c b i:Nat}(hs:s.length=i)(h:vl B s+X=A+B ^ i*(c+b))(hx:x<B)(hb:b<=1) :
  vl B (s++[if (c+q*y)%B+b>x then x+B-((c+q*y)%B+b) else x-((c+q*y)%B+b)])+(X+B ^ i*(q*y))=(A+B ^ i*x)+B ^ (i+1)*((c+q*y)/B+(if (c+q*y)%B+b>x then 1 else 0)):=by
 have hm:(c+q*y)%B<B:=Zx _ om;have e1:B ^ i*(c+q*y)=B ^ i*((c+q*y)%B)+B ^ i*(B*((c+q*y)/B)):=by rw[<-Nat.mul_add,aBh]
 rw[Nat.mul_add (B ^ i) c,<-Nat.mul_assoc (B ^ i) B,<-Nat.pow_succ] at e1;have h2:vl B s+(X+B ^ i*c-B ^ i*c)=A+B ^ i*(c+b):=by rw[aAZ];exact h
 rw[Nat.mul_add] at h;have e2:B ^ i*(if (c+q*y)%B+b>x then x+B-((c+q*y)%B+b) else x-((c+q*y)%B+b))+B ^ i*((c+q*y)%B+b)=B ^ i*x+B ^ (i+1)*(if (c+q*y)%B+b>x then 1 else 0):=by
  rw[Nat.pow_succ,Nat.mul_assoc,<-Nat.mul_add,<-Nat.mul_add];congr 1;split<;>omega
 rw[Nat.mul_add (B ^ i) ((c+q*y)%B) b] at e2;rw[sK,hs,Nat.mul_add (B ^ (i+1))];generalize B ^ (i+1)=ag at e1 e2 |-;generalize (c+q*y)%B=lo at e1 e2 |-;omega
structure Yd(B L U v U3 v2 top lead next u:Nat):Prop where
 b2:2<=B
 l0:0<L
 u1:U3*L<=U
 u2:U<(U3+1)*L
 w1:v2*L<=v
 w2:v<(v2+1)*L
 u3:U3=top*B+u
 v3:v2=lead*B+next
 uB:u<B
 nB:next<B
 lB:lead<B
 half:B<=2*lead
 less:U<v*B
section
variable {B L U v U3 v2 top lead next u:Nat} (h:Yd B L U v U3 v2 top lead next u)
include h
theorem DJ:0<lead/\B*L<=v:=by
 have h0:=h.b2;have h1:=h.half;have h2:=h.w1;have h3:lead*B<=v2:=by rw[h.v3];omega
 have h4:1*B<=lead*B:=ZF _ om;have h5:B*L<=v2*L:=ZF _ om;omega
theorem PS{d:Nat}(hd:U3<d*v2):U<d*v:=by
 have h1:(U3+1)*L<=d*v2*L:=ZF _ hd;have h2:d*v2*L<=d*v:=by rw[Nat.mul_assoc];exact Zl _ h.w1
 have:=h.u2;omega
theorem Qx{d:Nat}(hd:B<=d):U<d*v:=by
 have h1:=h.less;have h2:B*v<=d*v:=ZF _ hd;rw[ZX v B] at h1;omega
theorem PY{d:Nat}(hd:d*v2<=U3)(hB:d<B):d*v<=U+v:=by
 obtain⟨-,h1⟩:=DJ h;have h2:d*v<=d*((v2+1)*L):=Zl _ (by have:=h.w2;omega);have h3:d*((v2+1)*L)=d*v2*L+d*L:=by rw[Nat.add_mul,aAa,Nat.mul_add,Nat.mul_assoc]
 have h4:d*v2*L<=U3*L:=ZF _ hd;have h5:d*L<=B*L:=ZF _ om;have:=h.u1;omega
structure RN(B U v top lead d r:Nat):Prop where
 eq:d*lead+r=top
 up:U<(d+1)*v
 hi:d<=B+1
 rB:r<B
theorem F6:top<=lead*B+(B-1):=by
 have h0:=h.b2;have hL:=h.l0;have h1:U3*L<(v2+1)*L*B:=aAf h.u1 (aAo h.less (ZF _ (by have:=h.w2;omega)));have h2:U3<(v2+1)*B:=by
  rw[Nat.mul_assoc,ZX L B,<-Nat.mul_assoc] at h1;exact aA0 h1
 have h3:top*B<(v2+1)*B:=by have:=h.u3;omega
 have h4:top<v2+1:=aA0 h3;have:=h.v3;have:=h.nB;omega
theorem Pc:RN B U v top lead (top/lead) (top%lead):=by
 obtain⟨hl,-⟩:=DJ h;have e:=aBv top lead;have hm:=Zx top hl;have ht:=F6 h;have hh:=h.half;have hlB:=h.lB;rw[ZX] at e;refine⟨e, ?_, ?_,om⟩
 .have h1:top+1<=(top/lead+1)*lead:=by rw[Nat.add_mul,aAa];omega
  have h2:(top+1)*B<=(top/lead+1)*lead*B:=ZF _ h1;have h3:(top/lead+1)*lead*B<=(top/lead+1)*v2:=by rw[Nat.mul_assoc];exact Zl _ (by have:=h.v3;omega)
  have h4:U3<(top/lead+1)*v2:=by
   rw[Nat.add_mul,aAa] at h2;have:=h.u3;have:=h.uB;omega
  exact PS h h4
 .rcases ZG (B+1) (top/lead) with h1|h1
  .exfalso;have h2:(B+2)*lead<=(top/lead)*lead:=ZF _ om;rw[Nat.add_mul,ZX B lead] at h2;omega
  .exact h1
theorem JR{d r:Nat}(hI:RN B U v top lead d r)(hc:B<=d\/r*B+u<d*next):0<d/\(d-1)*lead+(r+lead)=top/\U<(d-1+1)*v:=by
 have hlt:U<d*v:=by
  rcases hc with hc|hc
  .exact Qx h hc
  .refine PS h ?_;have e:=hI.eq;rw[h.u3,h.v3,Nat.mul_add,<-Nat.mul_assoc,<-e,Nat.add_mul];omega
 have hd:0<d:=by
  rcases ZC d with rfl|hd
  .rw[aBV] at hlt;omega
  .exact hd
 obtain⟨d,rfl⟩:∃k,d=k+1:=⟨d-1,om⟩
 have e:=hI.eq;rw[Nat.add_mul,aAa] at e;refine⟨hd,by rw[aAZ];omega,by rw[aAZ];exact hlt⟩
theorem OD{d r:Nat}(hI:RN B U v top lead d r)(h1:d<B)(h2:d*next<=r*B+u):d*v<=U+v:=by
 refine PY h ?_ h1;have e:=hI.eq;rw[h.u3,h.v3,Nat.mul_add,<-Nat.mul_assoc,<-e,Nat.add_mul];omega
theorem Ir{d r:Nat}(e:d*lead+r=top)(h1:B<=r):d<B/\d*v<=U+v:=by
 have ht:=F6 h;have h0:=h.b2;obtain⟨hl,-⟩:=DJ h;have hd:d<B:=by
  have h2:d*lead<B*lead:=by rw[ZX B lead];omega
  exact aA0 h2
 refine⟨hd,PY h ?_ hd⟩;have h3:d*next<=B*B:=Z5 om (by have:=h.nB;omega)
 have h4:B*B<=r*B:=ZF _ h1;rw[h.u3,h.v3,Nat.mul_add,<-Nat.mul_assoc,<-e,Nat.add_mul];omega
end
theorem uH{U v d:Nat}(up:U<(d+1)*v)(h:d*v<=U):U/v=d/\U%v=U-d*v:=by
 have hv:0<v:=by
  rcases ZC v with rfl|hv
  .simp at up
  .exact hv
 have e:U=d*v+(U-d*v):=om;have hr:U-d*v<v:=by rw[Nat.add_mul,aAa] at up;omega
 constructor
 .generalize U-d*v=w at e hr;rw[e,ZX d v,Nat.mul_add_div hv,aAj hr];rfl
 .generalize U-d*v=w at e hr |-;rw[e,ZX d v,aCb,Zs hr]
theorem Ko{U v d:Nat}(hd:0<d)(h:U<d*v)(h2:d*v<=U+v):U/v=d-1/\U%v+d*v=U+v:=by
 obtain⟨k,rfl⟩:∃k,d=k+1:=⟨d-1,om⟩
 rw[Nat.add_mul,aAa] at h2;obtain⟨e1,e2⟩:=uH (d:=k) h om;refine⟨by rw[e1];rfl, ?_⟩;rw[e2,Nat.add_mul,aAa];omega
end Go.Ax
namespace Go.Ax
open Go
def dY(a b:Int):Int:=if a<b then -1 else if b<a then 1 else 0
theorem Pe(a b:Int):dY b a = - dY a b:=by unfold dY;split<;>split<;>(try split)<;>omega
theorem CI{a b:Int}:dY a b=0↔a=b:=by unfold dY;split<;>(try split)<;>omega
theorem NI{p q r s:Int}(hq:0<q)(hs:0<s)(h:p/q≠r/s):dY (p*s) (r*q)=dY (p/q) (r/s):=by
 have key:∀p q r s:Int,0<q->0<s->p/q<r/s->p*s<r*q:=by
  intro p q r s hq hs h;have e1:=aBj p q;have e2:=aBj r s;have x1:=aBz p hq;have y0:=aBR r (Int.ne_of_gt hs);have h1:p<q*(p/q+1):=by rw[Int.mul_add];omega
  have h2:q*(p/q+1)<=q*(r/s):=Int.mul_le_mul_of_nonneg_left om om;have h3:p<q*(r/s):=om;have h4:p*s<q*(r/s)*s:=Int.mul_lt_mul_of_pos_right h3 hs;have h5:s*(r/s)<=r:=om;have h6:s*(r/s)*q<=r*q:=aBL h5 om;have h7:q*(r/s)*s=s*(r/s)*q:=by rw[Int.mul_assoc,aBH q,aBH (r/s) s]
  omega
 rcases Int.lt_or_gt_of_ne h with h1|h1
 .have:=key p q r s hq hs h1;unfold dY;rw[Y4 this,Y4 h1]
 .have:=key r s p q hs hq h1;unfold dY;rw[Yz om,Y4 this,Yz om,Y4 h1]
theorem O2{p q r s:Int}(h:p/q=r/s):dY (p*s) (r*q)=dY (p%q*s) (r%s*q):=by
 have e1:=aBj p q;have e2:=aBj r s;have f1:p*s=q*(p/q)*s+p%q*s:=by rw[<-Int.add_mul,e1]
 have f2:r*q=q*(p/q)*s+r%s*q:=by
  rw[h,show q*(r/s)*s=s*(r/s)*q by rw[Int.mul_assoc,aBH q,aBH (r/s) s],<-Int.add_mul,e2]
 unfold dY;rw[f1,f2];split<;>split<;>(try split)<;>(try split)<;>omega
def Mp(x:Int):Int:=dY x 0
theorem QY{x y q s:Int}(hq:0<q)(hs:0<s)(hx:0<=x)(hy:0<=y)(h:x=0\/y=0):dY (x*s) (y*q)=Mp x-Mp y:=by
 rcases h with rfl|rfl
 .rcases aBy hy with h1|rfl
  .have:=Int.mul_pos h1 hq;unfold Mp dY;rw[Int.zero_mul,Y4 this];simp;omega
  .simp[Mp,dY]
 .rcases aBy hx with h1|rfl
  .have:=Int.mul_pos h1 hs;unfold Mp dY;rw[Int.zero_mul,Yz om,Y4 this];simp;omega
  .simp[Mp,dY]
theorem QM{x y q s:Int}:dY (x*s) (y*q) = - dY (q*y) (s*x):=by
 rw[<-Pe,aBH s x,aBH q y]
theorem Pp(a b:Nat):Nat.gcd b (a%b)=Nat.gcd a b:=by rw[Nat.gcd_comm b,<-Nat.gcd_rec,Nat.gcd_comm]
end Go.Ax
namespace Go.Ax
open Go
theorem Mo{p q r s:Nat}(h1:Nat.Coprime p q)(h2:Nat.Coprime r s):Nat.gcd (p*r) (q*s)=Nat.gcd p s*Nat.gcd r q:=by
 rcases ZC q with rfl|hq
 .have hp:p=1:=by simpa[Nat.Coprime] using h1
  subst hp;simp
 rcases ZC s with rfl|hs
 .have hr:r=1:=by simpa[Nat.Coprime] using h2
  subst hr;simp
 have g1:0<Nat.gcd p s:=aAg _ hs;have g2:0<Nat.gcd r q:=aAg _ hq;obtain⟨p',hp⟩:=aAI p s;obtain⟨s',hs'⟩:=aBl p s;obtain⟨r',hr⟩:=aAI r q;obtain⟨q',hq'⟩:=aBl r q;have c1:Nat.Coprime p' s':=by
  have:=aBm g1
  rwa [aA1 g1 hp,aA1 g1 hs'] at this
 have c2:Nat.Coprime r' q':=by
  have:=aBm g2
  rwa [aA1 g2 hr,aA1 g2 hq'] at this
 generalize Nat.gcd p s=g at *;generalize Nat.gcd r q=h at *;have c3:Nat.Coprime p' q':=Nat.Coprime.coprime_dvd_left ⟨g,by rw[hp,ZX]⟩ (Nat.Coprime.coprime_dvd_right ⟨h,by rw[hq',ZX]⟩ h1);have c4:Nat.Coprime r' s':=Nat.Coprime.coprime_dvd_left ⟨h,by rw[hr,ZX]⟩ (Nat.Coprime.coprime_dvd_right ⟨g,by rw[hs',ZX]⟩ h2);have c5:Nat.Coprime (p'*r') (q'*s'):=Nat.Coprime.mul_left (Nat.Coprime.mul_right c3 c1) (Nat.Coprime.mul_right c2 c4);have e1:p*r=g*h*(p'*r'):=by rw[hp,hr];simp only[Nat.mul_assoc,aAO]
 have e2:q*s=g*h*(q'*s'):=by rw[hq',hs'];simp only[Nat.mul_assoc,aAO]
 rw[e1,e2,Nat.gcd_mul_left,c5,aAA]
structure Nd where
 kind:Int
 name:List UInt8
 lo:Int
 hi:Int
 weights:List Int
 labels:List (List UInt8)
 values:List bD
 kids:List Int
 value:bD
def oN(l:List (List UInt8)):List AV:=l.map AV.str
def cK(x:Nd):AV:=
 match x.value with
 | .mk k n s ks=>.agg [.int .i64 x.kind,.str x.name,.int .i64 x.lo,.int .i64 x.hi,.il 1 (aV x.weights),.il 1 (oN x.labels),.il 4 (aR x.values),.il 1 (aV x.kids),.int .i64 k,.int .i64 n,.str s,.il 4 (aR ks)]
def bC(l:List Nd):List AV:=l.map cK
theorem jD(l:List (List UInt8)):jU (oN l):=λa ha=>by
 obtain⟨n,_,rfl⟩:=ZL.1 ha;exact .str _
theorem cS(l:List (List UInt8)):(oN l).length=l.length:=by rw[oN,aAs]
theorem C3(l:List (List UInt8))(i:Nat):(oN l)[i]? = (l[i]?).map AV.str:=by rw[oN,ZT]
theorem bH(x:Nd):NN (cK x):=by
 unfold cK;split;exact .agg' (.cons (.int _ _) (.cons (.str _) (.cons (.int _ _) (.cons (.int _ _) (.cons (.il' (aT _)) (.cons (.il' (jD _)) (.cons (.il' (aW _)) (.cons (.il' (aT _)) (.cons (.int _ _) (.cons (.int _ _) (.cons (.str _) (.cons (.il' (aW _)) .nil))))))))))))
theorem bA(l:List Nd):jU (bC l):=λa ha=>by
 obtain⟨n,_,rfl⟩:=ZL.1 ha;exact bH n
theorem bW(l:List Nd):(bC l).length=l.length:=by rw[bC,aAs]
theorem i7(l:List Nd)(i:Nat):(bC l)[i]? = (l[i]?).map cK:=by rw[bC,ZT]
structure sU(x:Nd):Prop where
 kind:i64 x.kind
 name:x.name.length<=4294967296
 lo:i64 x.lo
 hi:i64 x.hi
 weights:x.weights.length<=4294967296
 weightsI:∀w∈x.weights,i64 w
 labels:x.labels.length<=4294967296
 labelsI:∀w∈x.labels,w.length<=4294967296
 values:x.values.length<=4294967296
 valuesI:∀v∈x.values,iG v/\bN v<=4294967296
 kids:x.kids.length<=4294967296
 kidsI:∀k∈x.kids,i64 k
 value:iG x.value
 valueS:bN x.value<=4294967296
def CZ:bD->Bool
 | .mk k n s ks=>decide (k=0) && decide (n=0) && decide (s=[]) && decide (ks.length=0)
def jF(x:Nd):Bool:=
 (decide (x.kind=0) || CZ x.value) && (decide (x.kind=1) || (decide (x.lo=0) && decide (x.hi=0))) && (decide (x.kind=3) || decide (x.name=[])) &&
 (decide (x.kind=2) || (decide (x.weights.length=0) && decide (x.labels.length=0))) && (decide (x.kind=4) || decide (x.values.length=0)) && ((decide (x.kind≠0) && decide (x.kind≠1)) || decide (x.kids.length=0))
def fX:List bD->Bool
 | a::b::r=>decide (cN a b<0) && fX (b::r)
 | _=>true
def t7(i:Int)(l:List Int):Bool:=l.all λk=>decide (0<=k) && decide (k<i)
def dL(i:Int)(x:Nd):Bool:=
 jF x && (decide (0<=x.kind) && decide (x.kind<=4)) && t7 i x.kids &&
 (decide (x.kind≠2) || (decide (1<=x.kids.length) && decide (x.kids.length<=256) && decide (x.weights.length=x.kids.length) && (decide (x.labels.length=0) || decide (x.labels.length=x.kids.length)))) &&
 (decide (x.kind≠3) || (decide (x.kids.length<=256) && (decide (x.name=[]) || (fO x.name && decide (x.kids.length<=16))))) &&
 (decide (x.kind≠4) || decide (x.kids.length=x.values.length+1)) && fX x.values
def eD(x:Nd):Bool:=
 decide (x.lo<=x.hi) && decide (-4611686018427387904<=x.lo) && decide (x.hi<=4611686018427387904) && decide (x.hi<x.lo+1099511627776) && x.weights.all λw=>decide (1<=w) && decide (w<=1000)
def fD:List bD->Int
 | []=>0
 | v::r=>if gK v≠0 then gK v else fD r
def p6(x:Nd):List bD:=(if x.kind=0 then [x.value] else [])++x.values
def gG(i:Int)(x:Nd):Int:=
 if dL i x=false then 1 else if fD (p6 x)≠0 then fD (p6 x) else if eD x=false then 5 else 0
def eJ(l:List Int)(k:Int):Int:=l.getD k.toNat 0
def fR(before kids:List Int):Int:=kids.foldl (λs k=>s+eJ before k) 0
def cX(before kids:List Int):Int:=kids.foldl (λs k=>max s (eJ before k)) 0
def eQ(x:Nd):List Int:=if x.kind=2 then x.kids else x.kids.drop 1
def fN(before:List Int)(x:Nd):Int:=
 if x.kind=0 then 0 else if x.kind=1 then 1 else if x.kind=3 then fR before x.kids else if x.kind=2 then 1+cX before (eQ x) else eJ before (x.kids.getD 0 0)+cX before (eQ x)
def mJ(before:List Int)(x:Nd):Int:=
 if x.kind=0 then bN x.value else if x.kind=1 then 1 else if x.kind=3 then 1+fR before x.kids else cX before (eQ x)
structure iF where
 vals:List bD
 many:Bool
def d8(name:List UInt8)(kids:List bD):bD:=if name=[] then .mk 2 0 [] kids else .mk 3 0 name kids
def dV(l:List iF)(k:Int):iF:=l.getD k.toNat ⟨[],false⟩
def iE(lo hi:Int):List bD:=(List.range (hi+1-lo).toNat).map λi:Nat=>.mk 0 (lo+(i:Int)) [] []
def bU(before:List iF)(x:List bD × Bool)(k:Int):List bD × Bool:=
 (fC (x.1++(dV before k).vals),x.2 || (dV before k).many || decide (1024<(fC (x.1++(dV before k).vals)).length))
def mL(before:List iF)(kids:List Int):iF:=
 if (kids.foldl (bU before) ([],false)).2 then⟨[],true⟩ else⟨(kids.foldl (bU before) ([],false)).1,false⟩
def gU(rows:List (List bD))(l:List bD):List (List bD):=rows.flatMap λr=>l.map λv=>r++[v]
def fM(before:List iF):List Int->List (List bD)->Option (List (List bD))
 | [],rows=>some rows
 | k::r,rows=>if (dV before k).many=true\/1024<rows.length*(dV before k).vals.length then none else fM before r (gU rows (dV before k).vals)
def p7(before:List iF)(x:Nd):iF:=
 match fM before x.kids [[]] with
 | none=>⟨[],true⟩
 | some rows=>⟨fC (rows.map (d8 x.name)),false⟩
def dQ(x:Nd)(before:List iF):iF:=
 if x.kind=0 then⟨[x.value],false⟩
 else if x.kind=1 then(if 1024<=x.hi-x.lo then⟨[],true⟩ else⟨iE x.lo x.hi,false⟩)
 else if x.kind=3 then p7 before x
 else mL before (if x.kind=4 then x.kids.drop 1 else x.kids)
def aS(nodes:List Nd):List iF:=nodes.foldl (λout x=>out++[dQ x out]) []
def dC:List bD->List bD->Bool
 | [],[]=>true
 | a::l,b::m=>decide (cN a b=0) && dC l m
 | _,_=>false
def jC(nodes:List Nd)(x:Nd):Int:=
 let l:=dV (aS (nodes.take ((x.kids.getD 0 0).toNat+1))) (x.kids.getD 0 0)
 if l.many=true then 4 else if dC l.vals x.values=true then 0 else 1
def iJ(before:List Nd)(ls ss:List Int)(x:Nd):Int:=
 if gG before.length x≠0 then gG before.length x
 else if 256<fN ls x\/1024<mJ ss x then 4
 else if x.kind=4 then jC before x else 0
def a8(nodes:List Nd):List Int:=nodes.foldl (λls x=>ls++[fN ls x]) []
def c7(nodes:List Nd):List Int:=nodes.foldl (λls x=>ls++[mJ ls x]) []
def cH:List Nd->List Nd->Int
 | _,[]=>0
 | before,x::r=>if iJ before (a8 before) (c7 before) x≠0 then iJ before (a8 before) (c7 before) x else cH (before++[x]) r
def cR(nodes:List Nd):Int:=if 4096<nodes.length then 4 else cH [] nodes
theorem gQ:∀(b l:List Nd) (x:Nd),cH b l=0->cH b (l++[x])=iJ (b++l) (a8 (b++l)) (c7 (b++l)) x
 | b,[],x,h=>by
  simp only[Zi,cH,aAi];split
  .rfl
  .rename_i h1;simpa using (Eq.symm (Decidable.not_not.1 h1))
 | b,y::r,x,h=>by
  simp only[Zo,cH] at h |-;split at h
  .rename_i h1;exact absurd h h1
  .rename_i h1;rw[Yz h1,gQ (b++[y]) r x h];simp
theorem iT(l:List Nd)(x:Nd):a8 (l++[x])=a8 l++[fN (a8 l) x]:=by simp[a8]
theorem nC(l:List Nd)(x:Nd):c7 (l++[x])=c7 l++[mJ (c7 l) x]:=by simp[c7]
theorem jI(l:List Nd)(x:Nd):aS (l++[x])=aS l++[dQ x (aS l)]:=by simp[aS]
def sA(n most:Int):Int:=(if n<0 then -(n+1) else n).tmod most
def mA(l:List Int)(i most:Int):Int:=if i<0\/(l.length:Int)<=i then 0 else sA (l.getD i.toNat 0) most
theorem EZ{n most:Int}(h:1<=most):0<=sA n most/\sA n most<most:=by
 unfold sA;have h0:0<=(if n<0 then -(n+1) else n):=by split<;>omega
 exact⟨aAR _ h0,aAz _ om⟩
theorem lG{l:List Int}{i most:Int}(h:1<=most):0<=mA l i most/\mA l i most<most:=by
 unfold mA;split
 .omega
 .exact EZ h
def xI(k:Int):bD:=
 if k.tmod 4=0 then .mk 0 ((k.tdiv 4).tmod 9-4) [] []
 else if k.tmod 4=1 then .mk 1 ((k.tdiv 4).tmod 2) [] []
 else if k.tmod 4=2 then .mk 3 0 (([[76,101,97,102],[82,101,100],[88]]:List (List UInt8)).getD ((k.tdiv 4).tmod 3).toNat []) []
 else .mk 2 0 [] [.mk 0 ((k.tdiv 4).tmod 3) [] []]
def kidI(l:List Int)(i j:Int):Int:=
 if (mA l (3*i+j+2) 1000000).tmod 3=0 then((mA l (3*i+j+2) 1000000).tdiv 3).tmod i else max 0 (i-1-((mA l (3*i+j+2) 1000000).tdiv 3).tmod 3)
theorem x7:∀{l:List bD},(∀(j:Nat) (a b:bD),l[j]? = some a->l[j+1]? = some b->cN a b<0)->fX l=true
 | [],_=>rfl
 | [a],_=>rfl
 | a::b::r,h=>by
  simp only[fX,Y1,ZR];exact⟨h 0 a b rfl rfl,x7 λj x y hx hy=>h (j+1) x y (su hx) (su hy)⟩
theorem yN:∀{l:List bD},fX l=true->∀(j:Nat) (a b:bD),l[j]? = some a->l[j+1]? = some b->cN a b<0
 | [],_,j,a,b,h1,h2=>by simp at h1
 | [x],_,j,a,b,h1,h2=>by simp at h2
 | x::y::r,h,j,a,b,h1,h2=>by
  simp only[fX,Y1,ZR] at h;cases j with
  | zero=>simp at h1 h2;subst h1 h2;exact h.1
  | succ j=>exact yN h.2 j a b (su h1) (su h2)
theorem pE{i:Int}{l:List Int}:t7 i l=true↔∀(j:Nat) (k:Int),l[j]? = some k->0<=k/\k<i:=by
 simp only[t7,Z3,Y1,ZR];constructor
 .intro h j k hj;exact h k (Y2 hj)
 .intro h k hk;obtain⟨j,hj⟩:=ZV hk;exact h j k hj
theorem Yo:2<=4294967296:=by decide
abbrev nW(n:Nat):Nat:=(dg 4294967296 n).length
theorem Q9{B:Nat}(hB:2<=B)(x y:Nat):(dg B (x+y)).length<=max (dg B x).length (dg B y).length+1:=by
 refine k9 hB ?_;have h1:=iC (n:=x) hB;have h2:=iC (n:=y) hB;generalize (dg B x).length=a at *;generalize (dg B y).length=b at *;have h3:B ^ a<=B ^ max a b:=aAd om om;have h4:B ^ b<=B ^ max a b:=aAd om om;have h5:B ^ max a b*2<=B ^ max a b*B:=Zl _ hB;rw[Nat.pow_succ];omega
theorem G9{B:Nat}(hB:2<=B)(x y:Nat):(dg B (x*y)).length<=(dg B x).length+(dg B y).length:=by
 refine k9 hB ?_;have h1:=iC (n:=x) hB;have h2:=iC (n:=y) hB;rw[Nat.pow_add];exact Nat.mul_lt_mul'' h1 h2
theorem Ra{B:Nat}(hB:2<=B)(x y:Nat):(dg B (x-y)).length<=(dg B x).length:=dO hB (Nat.sub_le _ _)
theorem CP{B:Nat}(hB:2<=B)(x y:Nat):(dg B (x/y)).length<=(dg B x).length:=dO hB (aAS _ _)
theorem LZ{B:Nat}(hB:2<=B)(x y:Nat):(dg B (x%y)).length<=(dg B x).length:=dO hB (Nat.mod_le _ _)
theorem HF{B:Nat}(hB:2<=B)(x y:Nat):(dg B (Nat.gcd x y)).length<=max (dg B x).length (dg B y).length:=by
 rcases ZC x with rfl|h
 .rw[Nat.gcd_zero_left];omega
 .have:=dO hB (Nat.gcd_le_left y h);omega
theorem NH{B n:Nat}(hB:2<=B)(h:n<B):(dg B n).length<=1:=k9 hB (by rw[Nat.pow_one];exact h)
theorem Lc{B n:Nat}(hB:2<=B)(h:n<B*B):(dg B n).length<=2:=k9 hB (by rw[Nat.pow_two];exact h)
def bB(l:List Nat):List AV:=l.map λ(d:Nat)=>.int .u32 (d:Int)
theorem aU(l:List Nat):(bB l).length=l.length:=by simp[bB]
theorem aM(l:List Nat):jU (bB l):=λa ha=>by
 obtain⟨n,_,rfl⟩:=ZL.1 ha;exact .int _ _
theorem IK(l:List Nat)(i:Nat):(bB l)[i]? = (l[i]?).map λ(d:Nat)=>AV.int .u32 (d:Int):=by rw[bB,ZT]
theorem iA(l:List Nat)(i d:Nat):(bB l).set i (.int .u32 (d:Int))=bB (l.set i d):=by unfold bB;rw[aA9]
theorem Jf(l m:List Nat):bB (l++m)=bB l++bB m:=by simp[bB]
theorem yG(n:Nat):bB (List.replicate n 0)=List.replicate n (.int .u32 0):=by simp[bB]
def fI(z:Int):AV:=.agg [.bool (decide (z<0)),.il 1 (bB (dg 4294967296 z.natAbs))]
theorem kQ(z:Int):NN (fI z):=.agg' (.cons (.bool _) (.cons (.il' (aM _)) .nil))
theorem IR(n:Int):IntKind.u32.wrap n=n%4294967296:=by
 unfold IntKind.wrap;simp[IntKind.bits,IntKind.signed]
def eZ(s:List Nat)(n:Nat):List Nat:=s++List.replicate (n-s.length) 0
theorem jP{s:List Nat}{n:Nat}(h:s.length<=n):(eZ s n).length=n:=by simp[eZ];omega
theorem OO{s:List Nat}{n:Nat}(h:s.length<n):(eZ s n)[s.length]? = some 0:=by
 unfold eZ;rw[ZM (Y8 _),aAe,aAm,Y4 om]
theorem QJ{s:List Nat}{n d:Nat}(h:s.length<n):(eZ s n).set s.length d=eZ (s++[d]) n:=by
 unfold eZ;obtain⟨m,hm⟩:∃m,n-s.length=m+1:=⟨n-s.length-1,om⟩
 rw[Zw _ _ (Y8 _),aAe,hm,Zq,aAy,ZA,ZZ,show n-(s.length+1)=m by omega];simp
theorem Jb(B n:Nat):vl B (List.replicate n 0)=0:=by
 induction n with
 | zero=>rfl
 | succ n ih=>rw[Zq,vl,ih];simp
theorem G1(B:Nat)(s:List Nat)(n:Nat):vl B (eZ s n)=vl B s:=by unfold eZ;rw[iZ,Jb];simp
def zS:Nat:=2 ^ 16384
theorem T4{n m k:Nat}(h:zS=2 ^ n)(e:n=m*k):zS=(2 ^ m) ^ k:=by rw[h,e,Nat.pow_mul]
theorem Ld:zS=2 ^ 16384:=by delta zS;exact Eq.refl _
theorem NE{k:Nat}(hk:16384=32*k):zS=(2 ^ 32) ^ k:=T4 Ld hk
def iR(z:Int):Bool:=decide (z.natAbs<zS)
theorem To{z:Int}{n:Nat}(h:zS=(2 ^ 32) ^ n):iR z=decide (nW z.natAbs<=n):=by
 unfold iR;rw[Zp,h,show (2:Nat) ^ 32=4294967296 from rfl];exact(Jo Yo).symm
theorem So{z:Int}{k:Nat}(hk:16384=32*k):iR z=decide (nW z.natAbs<=k):=To (NE hk)
theorem CX{z:Int}:iR z=decide (nW z.natAbs<=512):=So rfl
theorem GA{z:Int}(h:iR z=true):nW z.natAbs<=512:=by rw[CX] at h;simpa using h
structure Fr where
 p:Int
 q:Nat
def Fr.den(a:Fr):Nat:=if a.q=0 then 1 else a.q
def yB(p q:Int):Fr:=⟨(if q<0 then -p else p)/(Nat.gcd p.natAbs q.natAbs:Int),q.natAbs/Nat.gcd p.natAbs q.natAbs⟩
structure Can(a:Fr):Prop where
 pos:0<a.q
 cop:Nat.Coprime a.p.natAbs a.q
def zF:Fr:=⟨0,1⟩
def Sy(a:Fr):Fr × Int:=if iR a.p=true/\iR a.q=true then(a,0) else(zF,4)
def tW(a b:Fr):Fr × Int:=Sy (yB (a.p*b.p) (a.q*b.q))
def Uz(a b:Fr):Int:=dY (a.p*b.q) (b.p*a.q)
theorem tS(p:Int)(g:Nat)(h:(g:Nat) ∣ p.natAbs):(p/(g:Int)).natAbs=p.natAbs/g:=by
 obtain⟨k,hk⟩:=h;rcases ZC g with rfl|hg
 .simp at hk;subst hk;simp
 .rcases Int.natAbs_eq p with e|e
  .rw[e,hk,Zb,<-Int.natCast_ediv,Zb]
  .have:p=(g:Int)*(-(k:Int)):=by rw[e,hk,Int.natCast_mul,aBA]
   rw[hk,aAB _ hg,this,aAJ _ om];simp
theorem LD{p q:Int}(h:q≠0):Can (yB p q):=by
 have hq:0<q.natAbs:=aBZ.2 h;have hg:0<Nat.gcd p.natAbs q.natAbs:=aAg _ hq;refine⟨aCh (Nat.gcd_le_right _ hq) hg, ?_⟩;unfold yB;simp only;have e:(if q<0 then -p else p).natAbs=p.natAbs:=by split<;>simp
 rw[tS _ _ (by rw[e];exact aAI _ _),e];exact aBm hg
theorem N3{a:Fr}(h:Can a):yB a.p a.q=a:=by
 unfold yB;have e:Nat.gcd a.p.natAbs (a.q:Int).natAbs=1:=by rw[Zb];exact h.cop
 rw[e,Yz om];simp
theorem Mj{a b:Fr}(ha:Can a)(hb:Can b) :
  yB (a.p*b.p) (a.q*b.q)=⟨(a.p/(Nat.gcd a.p.natAbs b.q:Int))*(b.p/(Nat.gcd b.p.natAbs a.q:Int)),(a.q/Nat.gcd b.p.natAbs a.q)*(b.q/Nat.gcd a.p.natAbs b.q)⟩:=by
 have hg:Nat.gcd (a.p*b.p).natAbs ((a.q:Int)*(b.q:Int)).natAbs=Nat.gcd a.p.natAbs b.q*Nat.gcd b.p.natAbs a.q:=by
  rw[aB0,aB0,Zb,Zb];exact Mo ha.cop hb.cop
 have g1:0<Nat.gcd a.p.natAbs b.q:=aAg _ hb.pos;have g2:0<Nat.gcd b.p.natAbs a.q:=aAg _ ha.pos;have d1:(Nat.gcd a.p.natAbs b.q:Int) ∣ a.p:=Int.ofNat_dvd_left.2 (aAI _ _);have d2:(Nat.gcd b.p.natAbs a.q:Int) ∣ b.p:=Int.ofNat_dvd_left.2 (aAI _ _);have d3:=aBl a.p.natAbs b.q;have d4:=aBl b.p.natAbs a.q;unfold yB;rw[hg,Yz (by have:=Int.mul_nonneg (show (0:Int)<=a.q by omega) (show (0:Int)<=b.q by omega);omega)];generalize Nat.gcd a.p.natAbs b.q=g at *;generalize Nat.gcd b.p.natAbs a.q=h at *;obtain⟨x,hx⟩:=d1;obtain⟨y,hy⟩:=d2;obtain⟨z,hz⟩:=d3;obtain⟨w,hw⟩:=d4;rw[hx,hy,hz,hw,aB0,Zb,Zb,aAJ _ om,aAJ _ om,aAB _ g1,aAB _ g2];congr 1
 .rw[show (g:Int)*x*((h:Int)*y)=((g*h:Nat):Int)*(x*y) by rw[Int.natCast_mul];simp only[Int.mul_assoc,Int.mul_left_comm]];exact aAJ _ (by have:=aAM g1 g2;omega)
 .rw[show h*w*(g*z)=g*h*(w*z) by simp only[Nat.mul_assoc,aAO]];exact aAB _ (aAM g1 g2)
theorem oQ(B:Nat)(l:List Nat)(i:Nat)(hi:i<=l.length):vl B l=vl B (l.take i)+B ^ i*vl B (l.drop i):=by
 conv=>lhs;rw[<-List.take_append_drop i l]
 rw[iZ,ZO,Z1 hi]
theorem RP{B:Nat}(hB:2<=B){l:List Nat}{n u u1 u2:Nat}(hl:l.length=n+3)(hd:∀d∈l,d<B)(h0:l[n]? = some u)(h1:l[n+1]? = some u1)(h2:l[n+2]? = some u2) :
  ((u2*B+u1)*B+u)*B ^ n<=vl B l/\vl B l<((u2*B+u1)*B+u+1)*B ^ n:=by
 have e:=oQ B l n om;rw[dR h0,dR h1,dR h2,Zy om] at e;have hlt:=vS hB (l.take n) λd hm=>hd d (Zg hm)
 rw[ZO,Z1 om] at hlt;have e2:u+B*(u1+B*(u2+B*vl B []))=(u2*B+u1)*B+u:=by
  simp only[vl,aAx,Zm,Nat.add_mul,Nat.mul_add,ZX,aAO,Nat.mul_assoc];omega
 rw[e2,ZX (B ^ n)] at e;rw[Nat.add_mul _ 1];omega
theorem Rc{B:Nat}(hB:2<=B){l:List Nat}{n u u1:Nat}(hl:l.length=n+2)(hd:∀d∈l,d<B)(h0:l[n]? = some u)(h1:l[n+1]? = some u1) :
  (u1*B+u)*B ^ n<=vl B l/\vl B l<(u1*B+u+1)*B ^ n:=by
 have e:=oQ B l n om;rw[dR h0,dR h1,Zy om] at e;have hlt:=vS hB (l.take n) λd hm=>hd d (Zg hm)
 rw[ZO,Z1 om] at hlt;have e2:u+B*(u1+B*vl B [])=u1*B+u:=by
  simp only[vl,aAx,Zm,ZX];omega
 rw[e2,ZX (B ^ n)] at e;rw[Nat.add_mul _ 1];omega
theorem RE{r b B:Nat}(h:r<b*B):r/b<B:=by
 rcases ZC b with rfl|hb
 .simp at h
 .rw[aAE hb,ZX];exact h
theorem SE{B p q x y V:Nat}(hpq:p*q=B)(hp:0<p):((x*p)%B+y)+B*(V*p+x/q)=(x+B*V)*p+y:=by
 have h1:x*p/B=x/q:=by rw[<-hpq,ZX x p,Nat.mul_div_mul_left _ _ hp]
 have e:=aBh (x*p) B;rw[h1] at e;rw[Nat.add_mul,Nat.mul_add,Nat.mul_assoc];omega
theorem JK{B p q x y:Nat}(hpq:p*q=B)(hp:0<p)(hq:0<q)(hy:y<B):(x*p)%B+y/q<B/\p ∣ (x*p)%B/\y/q<p:=by
 have h1:y/q<p:=by rw[aAE hq];omega
 have h2:p ∣ (x*p)%B:=(Nat.dvd_mod_iff ⟨q,hpq.symm⟩).2 ⟨x,ZX _ _⟩;refine⟨?_,h2,h1⟩;obtain⟨k,hk⟩:=h2;have h3:(x*p)%B<B:=Zx _ (by rw[<-hpq];exact aAM hp hq);rw[hk,<-hpq] at h3 |-;have h4:k<q:=aA5 h3;have h5:p*(k+1)<=p*q:=Zl _ h4;rw[Nat.mul_add,aAA] at h5;omega
theorem Ms{B p q x Y y:Nat}(hpq:p*q=B)(hp:0<p)(hy:Y%B=y):(x+B*Y)/p=(x/p+(y*q)%B)+B*(Y/p):=by
 have hB:B=q*p:=by rw[<-hpq,ZX]
 have e1:(x+B*Y)/p=x/p+q*Y:=by
  rw[hB,ZX q p,Nat.mul_assoc,aBN _ _ hp]
 have e2:q*Y=(y*q)%B+B*(Y/p):=by
  rw[<-hy];have h1:=aBh Y p;have h2:q*Y=q*(Y%p)+B*(Y/p):=by
   conv=>lhs;rw[<-h1]
   rw[Nat.mul_add,<-Nat.mul_assoc,<-hB]
  have h3:Y%B*q%B=q*(Y%p):=by
   rw[ZX _ q,hB,Nat.mul_mod_mul_left];congr 1;rw[<-hB,<-hpq];exact Nat.mod_mul_right_mod Y p q
  rw[h3,h2]
 rw[e1,e2];omega
theorem Ju{x y k:Nat}(h1:2 ^ k ∣ x)(h2:y<2 ^ k):x ||| y=x+y:=by
 obtain⟨a,rfl⟩:=h1;rw[ZX,<-Nat.shiftLeft_eq,<-Nat.shiftLeft_add_eq_or_of_lt h2]
theorem Aw{k n:Nat}(h:k<=n):2 ^ k*2 ^ (n-k)=2 ^ n:=by rw[<-Nat.pow_add];congr 1;omega
end Go.Ax
namespace Go.Ax
section
variable {hit miss up lo low claim:Rat}
end
end Go.Ax
namespace Go.Ax
open Go
def KT(a:Fr):Rat:=(a.p:Rat)/((a.q:Int):Rat)
structure Sz(n:Nat)(a:Fr):Prop where
 num:a.p.natAbs<=2 ^ n
 pos:0<a.q
 den:a.q<=2 ^ n
theorem Sz.mono{n m:Nat}{a:Fr}(h:Sz n a)(hm:n<=m):Sz m a:=
 ⟨Zj h.num (aAd om hm),h.pos,Zj h.den (aAd om hm)⟩
def YJ:Fr:=⟨1,1⟩
structure XX where
 hit:Fr
 miss:Fr
 upper:Fr
 lower:Fr
 ratio:Fr
 verdict:Nat
 runs:Nat
 hits:Nat
structure W1(n:Nat)(t:XX):Prop where
 hit:Sz 12 t.hit
 miss:Sz 12 t.miss
 up:0<t.upper.q
 lo:0<t.lower.q
 ratio:Sz n t.ratio
structure YV(claim low alpha beta:Rat)(T:XX):Prop where
 sz:W1 0 T
 ver:T.verdict=0
 rat:T.ratio=YJ
 low0:0<low
 lowc:low<claim
 clm:claim<=1
 alp:0<alpha
 bet:0<beta
 sum:alpha+beta<1
 hit:KT T.hit*low=claim
 miss:KT T.miss*(1-low)=1-claim
 up:KT T.upper*alpha=1-beta
 lo:KT T.lower*(1-alpha)=beta
def YP(t c:XX):Prop:=(t.verdict=0/\c.verdict=0/\0<=KT t.ratio/\KT t.ratio<=KT c.ratio)\/c.verdict=1\/t.verdict=2
structure Yl(t c:XX):Prop where
 hit:t.hit=c.hit
 miss:t.miss=c.miss
 up:t.upper=c.upper
 lo:t.lower=c.lower
end Go.Ax
namespace Go.Ax
open Go
end Go.Ax
namespace Go.Ax
open Go
abbrev Rd:=List UInt8 × Int
theorem JY{n:Int}(h0:0<=n)(h1:n<18446744073709551616):IntKind.u64.wrap n=n:=by
 unfold IntKind.wrap;have e:(2 ^ IntKind.u64.bits:Int)=18446744073709551616:=by decide
 have s:IntKind.u64.signed=false:=rfl;simp only[e,s,aBG];exact Int.emod_eq_of_lt h0 h1
theorem jW(n:Int):IntKind.u64.wrap n=n%18446744073709551616:=by
 unfold IntKind.wrap;have e:(2 ^ IntKind.u64.bits:Int)=18446744073709551616:=by decide
 have s:IntKind.u64.signed=false:=rfl;simp only[e,s,aBG];rfl
theorem Ha(n:Int):IntKind.u8.wrap n=n%256:=by
 unfold IntKind.wrap;have e:(2 ^ IntKind.u8.bits:Int)=256:=by decide
 have s:IntKind.u8.signed=false:=rfl;simp only[e,s,aBG];rfl
theorem OP:(2:Nat) ^ 64=18446744073709551616:=by decide
theorem XY(a:Nat):(BitVec.ofInt 64 (a:Int)).toNat=a%18446744073709551616:=by
 rw[BitVec.ofInt_natCast,BitVec.toNat_ofNat]
theorem Sm{a b:Nat}(ha:a<18446744073709551616)(hb:b<18446744073709551616):a ||| b<18446744073709551616:=by
 have:=Nat.or_lt_two_pow (n:=64) (x:=a) (y:=b) (by rw[OP];exact ha) (by rw[OP];exact hb)
 rwa [OP] at this
theorem TF{a b:Nat}(ha:a<18446744073709551616)(hb:b<18446744073709551616):bits .or .u64 (a:Int) (b:Int)=((a ||| b:Nat):Int):=by
 show IntKind.u64.wrap ((BitVec.ofInt 64 (a:Int) ||| BitVec.ofInt 64 (b:Int)).toNat:Int)=_
 rw[BitVec.toNat_or,XY,XY,Zs ha,Zs hb,JY om (by have:=Sm ha hb;omega)]
theorem Uy(n:Nat):IntKind.u32.wrap (n:Int)=((n%4294967296:Nat):Int):=by
 rw[IR,Int.natCast_emod];rfl
theorem Ig{n:Nat}(h:n<4294967296):IntKind.u32.wrap (n:Int)=(n:Int):=by rw[Uy,Zs h]
theorem iD{n:Nat}(h:n<18446744073709551616):IntKind.u64.wrap (n:Int)=(n:Int):=JY om om
theorem C8:(2:Nat) ^ 32=4294967296:=by decide
theorem Fg{a b:Nat}(ha:a<4294967296)(hb:b<4294967296):bits .or .u32 (a:Int) (b:Int)=((a ||| b:Nat):Int):=by
 show IntKind.u32.wrap ((BitVec.ofInt 32 (a:Int) ||| BitVec.ofInt 32 (b:Int)).toNat:Int)=_
 have h:a ||| b<4294967296:=by
  have:=Nat.or_lt_two_pow (n:=32) (x:=a) (y:=b) (by rw[C8];exact ha) (by rw[C8];exact hb)
  rwa [C8] at this
 rw[BitVec.toNat_or,BitVec.ofInt_natCast,BitVec.ofInt_natCast,BitVec.toNat_ofNat,BitVec.toNat_ofNat,C8,Zs ha,Zs hb,Ig h]
theorem bits_mask{a:Nat}(ha:a<18446744073709551616):bits .and .u64 (a:Int) 4294967295=((a%4294967296:Nat):Int):=by
 show IntKind.u64.wrap ((BitVec.ofInt 64 (a:Int) &&& BitVec.ofInt 64 ((4294967295:Nat):Int)).toNat:Int)=_
 rw[BitVec.toNat_and,XY,XY,Zs ha,Zs om,show (4294967295:Nat)=2 ^ 32-1 by decide,Nat.and_two_pow_sub_one_eq_mod,C8];exact iD (by have:=Zx a (show 0<4294967296 by decide);omega)
theorem J6{a b:Nat}(ha:a<4294967296)(hb:b<4294967296):bits .or .u64 (IntKind.u64.wrap ((a:Int)*2 ^ 32)) (b:Int)=((a*4294967296+b:Nat):Int):=by
 rw[show (a:Int)*2 ^ 32=((a*4294967296:Nat):Int) by rw[Int.natCast_mul];rfl,iD om,TF om om];congr 1;exact Ju (k:=32) ⟨a,by rw[C8,ZX]⟩ (by rw[C8];exact hb)
theorem IG(a b:Nat):((a:Int).fdiv (b:Int))=((a/b:Nat):Int):=by
 rw[aB1 _ om];rfl
theorem JG(a b:Nat):((a:Int).tdiv (b:Int))=((a/b:Nat):Int):=by
 rw[aA2 om];rfl
theorem Cg(a b:Nat):((a:Int).tmod (b:Int))=((a%b:Nat):Int):=by
 rw[Int.tmod_eq_emod_of_nonneg om];rfl
theorem Bh{a:Nat}:((a:Int).fdiv (2 ^ 32))=((a/4294967296:Nat):Int):=IG a 4294967296
theorem yK(d:Nat):∀l:List Nat,fB (l++[d])=if d=0 then fB l else l++[d]
 | []=>by
  simp only[Zi,fB];by_cases h:d=0<;>simp[h]
 | a::r=>by
  rw[Zo,fB,yK d r,fB];by_cases h:d=0
  .simp[h]
  .simp[h]
def sg(neg:Bool)(n:Nat):Int:=if neg then -(n:Int) else n
theorem P6(neg:Bool)(n:Nat):(sg neg n).natAbs=n:=by unfold sg;split<;>simp
theorem Tu(neg:Bool)(n:Nat):decide (sg neg n<0)=(neg && decide (0<n)):=by
 cases neg<;>simp[sg]
theorem QU(z:Int):sg (decide (z<0)) z.natAbs=z:=by
 unfold sg;split
 .rename_i h;have:=Zh h;omega
 .rename_i h;have:¬z<0:=λx=>h (Y7 x);omega
theorem n6{B n:Nat}(hB:2<=B):decide (0<(dg B n).length)=decide (0<n):=by
 rw[Zp];constructor
 .intro h;rcases ZC n with rfl|h2
  .rw[fP] at h;simp at h
  .exact h2
 .intro h;rw[qV hB h];simp
theorem T9{B:Nat}(hB:2<=B){N:List Nat}{j V n:Nat}(hN:∀d∈N,d<B)(hj:j+(n+3)<=N.length)(hV:V<B ^ (n+2))(h:vl B N<V*B ^ (j+1)) :
  vl B N=vl B (N.take j)+B ^ j*vl B ((N.drop j).take (n+3))/\vl B (N.drop (j+(n+3)))=0/\vl B ((N.drop j).take (n+3))<V*B:=by
 have e1:=oQ B N j om;have e2:=oQ B (N.drop j) (n+3) (by rw[aAG];omega);rw[List.drop_drop] at e2;have hz:vl B (N.drop (j+(n+3)))=0:=by
  rcases ZC (vl B (N.drop (j+(n+3)))) with e|e
  .exact e
  .exfalso;have h1:B ^ j*(B ^ (n+3)*1)<=B ^ j*(B ^ (n+3)*vl B (N.drop (j+(n+3)))):=Zl _ (Zl _ e);have h2:V*B ^ (j+1)<B ^ (n+2)*B ^ (j+1):=aAW hV (aAN om);have h3:B ^ (n+2)*B ^ (j+1)=B ^ j*(B ^ (n+3)*1):=by rw[aAA,<-Nat.pow_add,<-Nat.pow_add];congr 1;omega
   rw[e2,Nat.mul_add] at e1;generalize B ^ j*(B ^ (n+3)*1)=P at *;generalize V*B ^ (j+1)=Q at *;generalize B ^ (n+2)*B ^ (j+1)=R at *;omega
 rw[hz,aAx,Zm] at e2;refine⟨by rw[<-e2];exact e1,hz, ?_⟩;have h4:B ^ j*vl B ((N.drop j).take (n+3))<B ^ j*(V*B):=by
  rw[<-e2];have:V*B ^ (j+1)=B ^ j*(V*B):=by rw[Nat.pow_succ];ac_rfl
  rw[<-this];generalize V*B ^ (j+1)=Q at *;omega
 exact aA5 h4
theorem My{n lead next V:Nat}(h1:2147483648*4294967296 ^ (n+1)<=V)(h2:V<(lead*4294967296+next+1)*4294967296 ^ n)(hn:next<4294967296):4294967296<=2*lead:=by
 have h3:(lead*4294967296+next+1)*4294967296 ^ n<=((lead+1)*4294967296)*4294967296 ^ n:=ZF _ om;have h4:2147483648*4294967296*4294967296 ^ n<(lead+1)*4294967296*4294967296 ^ n:=by
  rw[Nat.pow_succ,ZX (4294967296 ^ n),<-Nat.mul_assoc] at h1;exact aAf h1 (aAo h2 h3)
 have h5:=aA0 h4;omega
theorem RD{B:Nat}(hB:2<=B){N S:List Nat}{j n V U Q X:Nat}(hN:∀d∈N,d<B)(hj:j+(n+3)<=N.length)(hS:S.length=n+3)(hSv:vl B S=U%V)(hV0:0<V)
  (e:vl B N=vl B (N.take j)+B ^ j*U) (hz:vl B (N.drop (j+(n+3)))=0) (hX:Q*B ^ (j+1)*V+vl B N=X) :
  (U/V+B*Q)*B ^ j*V+vl B (N.take j++(S++N.drop (j+S.length)))=X/\vl B (N.take j++(S++N.drop (j+S.length)))<V*B ^ j:=by
 have hl:(N.take j).length=j:=by rw[ZO];omega
 have hv:vl B (N.take j++(S++N.drop (j+S.length)))=vl B (N.take j)+B ^ j*(U%V):=by
  rw[iZ,iZ,hl,hS,hz,hSv,aAx,Zm]
 have hlt:=vS hB (N.take j) λd hm=>hN d (Zg hm)
 rw[hl] at hlt;rw[hv];constructor
 .have hd:=aBv U V;have h1:B ^ j*U=B ^ j*(V*(U/V))+B ^ j*(U%V):=by rw[<-Nat.mul_add,hd]
  have h2:Q*B ^ (j+1)*V=B*Q*B ^ j*V:=by rw[Nat.pow_succ];ac_rfl
  have h3:(U/V)*B ^ j*V=B ^ j*(V*(U/V)):=by ac_rfl
  rw[Nat.add_mul,Nat.add_mul,h3,<-h2,<-hX,e,h1];omega
 .have h1:U%V+1<=V:=Zx U hV0;have h2:B ^ j*(U%V+1)<=B ^ j*V:=Zl _ h1;rw[Nat.mul_add,aAA,ZX (B ^ j) V] at h2;omega
theorem Kr{x y p:Nat}(hp:0<p)(Q R:Nat)(h:Q*(y*p)+R=x*p)(hR:R<y*p):x/y=Q/\R/p=x%y:=by
 have hy:0<y:=by
  rcases ZC y with e|e
  .rw[e,aBV] at hR;omega
  .exact e
 have h1:p ∣ R:=by
  have:R=x*p-Q*(y*p):=om;rw[this,<-Nat.mul_assoc,<-Nat.sub_mul];exact Nat.dvd_mul_left _ _
 obtain⟨r,rfl⟩:=h1;have h2:Q*y+r=x:=by
  have:(Q*y+r)*p=x*p:=by rw[Nat.add_mul,<-h,Nat.mul_assoc,ZX r p]
  exact Nat.eq_of_mul_eq_mul_right hp this
 have h3:r<y:=by
  rw[ZX y p] at hR;exact aA5 hR
 rw[aAB _ hp,<-h2,ZX Q y];constructor
 .rw[Nat.mul_add_div hy,aAj h3];rfl
 .rw[aCb,Zs h3]
end Go.Ax
namespace Go.Ax
open Go
theorem JV(B:Nat)(l:List Nat)(n:Nat):vl B l=vl B (l.take n)+B ^ n*vl B (l.drop n):=by
 rcases ZG n l.length with h|h
 .exact oQ B l n (aBa h)
 .rw[Y9 h,Zy h];simp[vl]
def rL(J:List (Nat × Nat))(ns nx n':Nat):List (Nat × Nat)->Bool
 | []=>true
 | (i,id)::r=>(match Nat.blt i ns with
   | true=>match lk J id with
    | some j=>Nat.beq j i
    | none=>false
   | false=>Nat.ble nx id && Nat.blt id n') && rL J ns nx n' r
def mG(ids:List Nat)(nx:Nat):aQ->Bool
 | []=>true
 | (k,_)::r=>(match Nat.ble nx k with
   | true=>true
   | false=>C7 k ids) && mG ids nx r
theorem qJ{J:List (Nat × Nat)}{ns nx n':Nat}:∀{I:List (Nat × Nat)},rL J ns nx n' I=true->∀p∈I,(p.1<ns/\lk J p.2=some p.1)\/(ns<=p.1/\nx<=p.2/\p.2<n')
 | [],_,p,hp=>by cases hp
 | (i,id)::r,h,p,hp=>by
  simp only[rL,Y1] at h;rcases Y6.1 hp with rfl|hp
  .have h1:=h.1;split at h1
   .rename_i hb;split at h1
    .rename_i j hj;exact .inl ⟨Y5 hb,by rw[hj,Nat.eq_of_beq_eq_true h1]⟩
    .cases h1
   .rename_i hb;simp only[Y1] at h1;refine .inr ⟨?_,Y5 h1.1,Y5 h1.2⟩;rcases ZG i ns with hl|hl
    .have e:Nat.blt i ns=true:=Y3 hl;rw[e] at hb;cases hb
    .exact hl
  .exact qJ h.2 p hp
theorem sC:∀{m:aQ} {ids:List Nat} {nx:Nat},mG ids nx m=true->∀p∈m,nx<=p.1\/C7 p.1 ids=true
 | [],ids,nx,_,p,hp=>by cases hp
 | (k,b)::r,ids,nx,h,p,hp=>by
  simp only[mG,Y1] at h;rcases Y6.1 hp with rfl|hp
  .have h1:=h.1;split at h1
   .rename_i hb;exact .inl (Y5 hb)
   .exact .inr h1
  .exact sC h.2 p hp
theorem aJ.useN{P:Program}{C:List (Nat × AV)}{F:FuncId}{args args':List AV}{ms mem m1:aQ}{ns nx:Nat}{Qs K:AV->aQ->Nat->Prop}(hΓ:∀p∈C,NN p.2)(J:List (Nat × Nat))(h:aJ P C F args' ms ns Qs)
  (hp:kC (iN J) mem=m1) (hargs:g6 m1 J args args') (hM:cO m1 J ms) (hc:(kG ms && (kV J && pU ns J))=true)
  (hk:∀r m n,Qs r m n->∃I r' m' n',Cv m I r r'/\cO m I m'/\(kG m' && (kV I && (Nat.ble nx n' && (mG (iN J) nx m' && rL J ns nx n' I))))=true/\K r' (m'++gZ (iN J) mem) n'):aJ P C F args mem nx K:=by
 simp only[Y1] at hc;obtain⟨hc1,hc2,hc4⟩:=hc;refine⟨λX D E w vs hD hm hv=>?_⟩;refine(aJ.use (K:=K) (nx:=nx) hΓ h J (m1:=m1) (rest:=gZ (iN J) mem) ⟨λp hp'=>?_,λp hp'=>(dH.1 hp').1,λp hp'=>?_,λp h1 q h2=>?_, ?_⟩ ?_ hargs hM.cvm (eI hc1) (mI hc2) (λid i hl=>lY hc4 _ (bL hl)) ?_).run X D E w vs hD hm hv
 .rw[<-hp] at hp';exact(eO.1 hp').1
 .cases hi:C7 p.1 (iN J) with
  | true=>left;rw[<-hp];exact eO.2 ⟨hp',hi⟩
  | false=>right;exact dH.2 ⟨hp',hi⟩
 .rw[<-hp] at h1;have a:=(eO.1 h1).2;have b:=(dH.1 h2).2;intro e;rw[e,b] at a;cases a
 .rw[<-hp];exact hm.nod.sublist ((m7 mem).map _)
 .exact hm.nod.sublist ((nJ mem).map _)
 .intro r m n hq hn;obtain⟨I,r',m',n',h1,h2,h3,h4⟩:=hk r m n hq;simp only[Y1] at h3;refine⟨I,r',m',n',Y5 h3.2.2.1,h1,h2.cvm,eI h3.1,mI h3.2.1,λi id hl=>qJ h3.2.2.2.2 _ (bL hl),λp h5 q h6=>?_,h4⟩;have b:=(dH.1 h6).2;rcases sC h3.2.2.2.1 p h5 with a|a
  .have:=hD _ (hm.low q (dH.1 h6).1);omega
  .intro e;rw[e,b] at a;cases a
theorem aJ.ph{P:Program}{C:List (Nat × AV)}{F:FuncId}{args:List AV}{mem:aQ}{nx:Nat}{K:AV->aQ->Nat->Prop}(t:TypeId)(sz:Nat)(h:aJ P C F args ((nx,.row t sz [])::mem) (nx+1) K):aJ P C F args mem nx K:=by
 refine⟨λX D E w vs hD hm hv=>?_⟩;obtain⟨m1,v1,e1⟩:=hm.phantom (n:=nx) (D':=dn D nx (nx+1)) (λh'=>aBc _ (hD _ h')) (λi hi=>.inl hi) (.inr ⟨Y8 _,aAH _⟩) t sz;refine(h.run X _ _ w vs (λi hi=>?_) m1 ⟨hv.1,λj c x hc hx=>v1 _ _ (hv.2 j c x hc hx)⟩).mono ?_
 .rcases hi with hi|hi
  .have:=hD i hi;omega
  .exact hi.2
 .rintro e w' ⟨r,v,m,n,E',rfl,hk,hn,hm',hr,ext⟩;have ed:dn (dn D nx (nx+1)) (nx+1) n=dn D nx n:=by
   funext i
   apply propext;constructor
   .rintro((hi|⟨h1,h2⟩)|⟨h1,h2⟩)
    .exact .inl hi
    .exact .inr ⟨h1,om⟩
    .exact .inr ⟨om,h2⟩
   .rintro(hi|⟨h1,h2⟩)
    .exact .inl (.inl hi)
    .rcases ZG i (nx+1) with h3|h3
     .exact .inl (.inr ⟨h1,h3⟩)
     .exact .inr ⟨h3,h2⟩
  rw[ed] at hm' hr ext;refine⟨r,v,m,n,E',rfl,hk,om,hm',hr, ?_⟩;have e2:=e1 D λi hi=>hi
  exact e2.trans ⟨λi hi=>ext.le i (.inl hi),λi hi=>ext.agree i (.inl hi),ext.size,ext.keep,ext.fresh,ext.env⟩
end Go.Ax
namespace Go.Ax
open Go
section
variable {P:Program} {C:List (Nat × AV)} {B:Nat}
theorem OC{b:Bool}{c1 c2:Code}{s1 s2:St}{i:Nat}{y:Code}{Q:Exit->St->Prop}{G:Type}(hΓ:∀p∈C,NN p.2)(R:G->Prop)(af:G->St)
  (h1:∀Qr:Exit->St->Prop,(∀(a:G) (s:St) (J:List (Nat × Nat)),R a->Conv B J s (af a)->Qr .normal s)->Nu b (eH P C B c1 s1 (B8 i Qr)) (eH P C B c2 s2 (B8 i Qr)))
  (h2:∀a,R a->eH P C B y (af a) Q):Nu b (eH P C B c1 s1 (B8 i (J0 P C B y Q))) (eH P C B c2 s2 (B8 i (J0 P C B y Q))):=by
 have h:=h1 (λe s=>match e with
  | .normal=>∃a J,R a/\Conv B J s (af a)
  | e=>Q e s) (λa s J hr hc=>⟨a,J,hr,hc⟩)
 have key:∀(e:Exit) (s:St),B8 i (λe s=>match e with
  | .normal=>∃a J,R a/\Conv B J s (af a)
  | e=>Q e s) e s->B8 i (J0 P C B y Q) e s:=by
  intro e s hq;have norm:(∃a J,R a/\Conv B J s (af a))->eH P C B y s Q:=λ⟨a,J,hr,hc⟩=>eH.conv hΓ hc (h2 a hr)
  cases e with
  | normal=>exact norm hq
  | exit j=>
   simp only[B8] at hq |-;split at hq
   .exact norm hq
   .exact hq
  | goto l=>exact hq
  | ret=>exact hq
  | panic c=>exact hq
  | outgrown=>exact hq
 cases b with
 | true=>exact eH.mono (show eH P C B c1 s1 _ from h) key
 | false=>exact eH.mono (show eH P C B c2 s2 _ from h) key
end
end Go.Ax
