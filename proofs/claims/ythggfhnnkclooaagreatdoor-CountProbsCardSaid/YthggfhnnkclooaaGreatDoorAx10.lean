/- A part of the proof. -/
import Derived.Test.YthggfhnnkclooaaGreatDoorAx9
import Derived.Shelf.Strings.Builder1
import Derived.Shelf.Strings.Builder2
import Derived.Shelf.Small.Bits
import Derived.Shelf.Small.Wraps
import Derived.Shelf.Strings.BuilderF
import Derived.Shelf.Strconv.Atoi
import Derived.Shelf.Strconv.Itoa0
import Derived.Shelf.Strconv.Itoa1
import Derived.Shelf.LaysM
import Derived.Shelf.Strconv.Itoa2
import Derived.Shelf.Strconv.Itoa3
import Derived.Shelf.Strconv.AtoiErrFast
import Derived.Shelf.Strconv.ParseIntEmpty
import Derived.Shelf.Strconv.AtoiFail
import Derived.Shelf.Strconv.Clone
import Derived.Shelf.Strconv.SyntaxError
import Derived.Shelf.LaysC
import Derived.Shelf.Strconv.ToError
import Derived.Shelf.Strconv.Lower
import Derived.Shelf.Strconv.ParseUint10
import Derived.Shelf.Strconv.ParseUint10Empty
import Derived.Shelf.Strconv.ParseUint10Any
import Derived.Shelf.Strconv.ParseInt10
import Derived.Shelf.Strconv.AtoiLong
import Derived.Shelf.Strconv.AtoiInnerAll
import Derived.Shelf.Strconv.RangeError
import Derived.Shelf.Strconv.ToErrorRange
import Derived.Shelf.Strconv.AtoiAll
import Derived.Shelf.Strconv.ParseUintEmpty
import Derived.Shelf.Strconv.ParseUint10b64
import Derived.Shelf.Strconv.ParseUint10b32
import Derived.Shelf.Strconv.ParseUint10b16
import Derived.Shelf.Strconv.ParseUint10b8
import Derived.Shelf.Strings.Prefix
import Derived.Shelf.Bits.Mul64
import Derived.Shelf.Strings.Repeat
import Derived.Shelf.Slices.Turned
import Derived.Shelf.Slices.Equal
import Derived.Ground.Names2Prog
import Derived.Shelf.Slices.SearchI
import Derived.Shelf.Slices.Empties2
import Derived.Test.YthggfhnnkclooaaGreatDoorProg
import Derived.KernelRfl
set_option linter.unusedSectionVars false
set_option linter.unusedVariables false
set_option linter.unusedSimpArgs false
set_option maxRecDepth 1000000
set_option maxHeartbeats 16000000
namespace Go.Proofs
open Go.Shelf
def Tryz.lays129_ren:Go.Shelf.Ren:=⟨fun|129=>262|n=>n,fun|53=>209|3=>3|4=>4|46=>252|5=>5|9=>9|n=>n,fun|n=>n⟩
theorem Tryz.lays129:Go.Proofs.Lays.n129 Tryz.prog Tryz.lays129_ren:={
 mixed:=by kernel_rfl
 f129:=Tryz.func262.trans (congrArg some (by kernel_rfl))
 t3:=Tryz.underlying3
 a3:=Tryz.isAgg3
 z3:=Tryz.sizeOf3
 v3:=Tryz.zeroValue3
 t4:=Tryz.underlying4
 a4:=Tryz.isAgg4
 z4:=Tryz.sizeOf4
 v4:=Tryz.zeroValue4
 t5:=Tryz.underlying5
 a5:=Tryz.isAgg5
 z5:=Tryz.sizeOf5
 v5:=Tryz.zeroValue5
 t9:=Tryz.underlying9
 a9:=Tryz.isAgg9
 z9:=Tryz.sizeOf9
 v9:=Tryz.zeroValue9
 t46:=Tryz.underlying252
 a46:=Tryz.isAgg252
 z46:=Tryz.sizeOf252
 v46:=Tryz.zeroValue252
 t53:=Tryz.underlying209
 a53:=Tryz.isAgg209
 z53:=Tryz.sizeOf209
 v53:=Tryz.zeroValue209 }
theorem Tryz.bits_Len64(x:Int)(w:World)(h0:0<=x)(h1:x<=18446744073709551615) :
  Calls Tryz.prog 262 #[.int .u64 x] w λe w'=>e = .returned (.int .i64 (Lib.bitLen x.toNat))/\w'=w:=Any.bits_Len64 Tryz.lays129 x w h0 h1
def Tryz.lays317_ren:Go.Shelf.Ren:=⟨fun|317=>261|n=>n,fun|3=>3|46=>252|n=>n,fun|n=>n⟩
theorem Tryz.lays317:Go.Proofs.Lays.n317 Tryz.prog Tryz.lays317_ren:={
 mixed:=by kernel_rfl
 f317:=Tryz.func261.trans (congrArg some (by kernel_rfl))
 t3:=Tryz.underlying3
 a3:=Tryz.isAgg3
 z3:=Tryz.sizeOf3
 v3:=Tryz.zeroValue3
 t46:=Tryz.underlying252
 a46:=Tryz.isAgg252
 z46:=Tryz.sizeOf252
 v46:=Tryz.zeroValue252 }
open Go.Lib in
theorem Tryz.internal_strconv_log10Pow2(x:Nat)(h:x<=64)(w:World) :
  Calls Tryz.prog 261 #[.int .i64 x] w λe w'=>e = .returned (.int .i64 (Lib.l10 x))/\w'=w:=Any.internal_strconv_log10Pow2 Tryz.lays317 x h w
open Go.Lib in
def Tryz.lays283_ren:Go.Shelf.Ren:=⟨fun|283=>246|n=>n,fun|3=>3|9=>9|4=>4|n=>n,fun|n=>n⟩
theorem Tryz.lays283:Go.Proofs.Lays.n283 Tryz.prog Tryz.lays283_ren:={
 mixed:=by kernel_rfl
 f283:=Tryz.func246.trans (congrArg some (by kernel_rfl))
 t3:=Tryz.underlying3
 a3:=Tryz.isAgg3
 z3:=Tryz.sizeOf3
 v3:=Tryz.zeroValue3
 t4:=Tryz.underlying4
 a4:=Tryz.isAgg4
 z4:=Tryz.sizeOf4
 v4:=Tryz.zeroValue4
 t9:=Tryz.underlying9
 a9:=Tryz.isAgg9
 z9:=Tryz.sizeOf9
 v9:=Tryz.zeroValue9 }
open Go.Lib in
theorem Tryz.internal_strconv_small(i:Nat)(h:i<100)(w:World) :
  Calls Tryz.prog 246 #[.int .i64 i] w λe w'=>e = .returned (.string ⟨(Lib.decDigits i).toArray⟩)/\w'=w:=Any.internal_strconv_small Tryz.lays283 i h w
def Tryz.lays285_ren:Go.Shelf.Ren:=⟨fun|285=>248|n=>n,fun|37=>164|53=>209|3=>3|4=>4|51=>157|9=>9|5=>5|0=>0|n=>n,fun|n=>n⟩
theorem Tryz.lays285:Go.Proofs.Lays.n285 Tryz.prog Tryz.lays285_ren:={
 mixed:=by kernel_rfl
 f285:=Tryz.func248.trans (congrArg some (by kernel_rfl))
 t0:=Tryz.underlying0
 a0:=Tryz.isAgg0
 z0:=Tryz.sizeOf0
 v0:=Tryz.zeroValue0
 t3:=Tryz.underlying3
 a3:=Tryz.isAgg3
 z3:=Tryz.sizeOf3
 v3:=Tryz.zeroValue3
 t4:=Tryz.underlying4
 a4:=Tryz.isAgg4
 z4:=Tryz.sizeOf4
 v4:=Tryz.zeroValue4
 t5:=Tryz.underlying5
 a5:=Tryz.isAgg5
 z5:=Tryz.sizeOf5
 v5:=Tryz.zeroValue5
 t9:=Tryz.underlying9
 a9:=Tryz.isAgg9
 z9:=Tryz.sizeOf9
 v9:=Tryz.zeroValue9
 t37:=Tryz.underlying164
 a37:=Tryz.isAgg164
 z37:=Tryz.sizeOf164
 v37:=Tryz.zeroValue164
 t51:=Tryz.underlying157
 a51:=Tryz.isAgg157
 z51:=Tryz.sizeOf157
 v51:=Tryz.zeroValue157
 t53:=Tryz.underlying209
 a53:=Tryz.isAgg209
 z53:=Tryz.sizeOf209
 v53:=Tryz.zeroValue209 }
open Go.RowKit Go.Sort Go.Lib in
theorem Tryz.internal_strconv_formatBase10(blk off cap:Nat)(u:Nat)(d:Array UInt8)(w:World)(hH:Holds (λ(b:UInt8)=>Value.int .u8 (b.toNat:Int)) w blk off d)(hu:u<10 ^ d.size)(hu64:u<18446744073709551616)(hsz:d.size<4611686018427387904) :
  Calls Tryz.prog 248 #[.slice (some ⟨blk,off,none⟩) d.size cap,.int .u64 u] w λe w'=>
   e = .returned (.tuple #[])/\∃(n v':Nat) (dk:Array UInt8),w'=(putRow (λ(b:UInt8)=>Value.int .u8 (b.toNat:Int)) w blk off dk).drewN n/\FmtInv d.size u 0 v' dk:=Any.internal_strconv_formatBase10 Tryz.lays285 blk off cap u d w hH hu hu64 hsz
end Go.Proofs
namespace Go.Proofs.YthggfhnnkclooaaGreatDoor
open Go Go.Ax Go.Proofs Tryz
def gz:List (Nat × AV):=[(0,.agg [.int .u64 1,.int .u64 10,.int .u64 100,.int .u64 1000,.int .u64 10000,.int .u64 100000,.int .u64 1000000,.int .u64 10000000,.int .u64 100000000,.int .u64 1000000000,.int .u64 10000000000,.int .u64 100000000000,.int .u64 1000000000000,.int .u64 10000000000000,.int .u64 100000000000000,.int .u64 1000000000000000,.int .u64 10000000000000000,.int .u64 100000000000000000,.int .u64 1000000000000000000,.int .u64 10000000000000000000]),(4,.agg [.int .u8 0,.int .u8 1,.int .u8 28,.int .u8 2,.int .u8 29,.int .u8 14,.int .u8 24,.int .u8 3,.int .u8 30,.int .u8 22,.int .u8 20,.int .u8 15,.int .u8 25,.int .u8 17,.int .u8 4,.int .u8 8,.int .u8 31,.int .u8 27,.int .u8 13,.int .u8 23,.int .u8 21,.int .u8 19,.int .u8 16,.int .u8 7,.int .u8 26,.int .u8 12,.int .u8 18,.int .u8 6,.int .u8 11,.int .u8 5,.int .u8 10,.int .u8 9]),(5,.agg [.int .u8 0,.int .u8 1,.int .u8 56,.int .u8 2,.int .u8 57,.int .u8 49,.int .u8 28,.int .u8 3,.int .u8 61,.int .u8 58,.int .u8 42,.int .u8 50,.int .u8 38,.int .u8 29,.int .u8 17,.int .u8 4,.int .u8 62,.int .u8 47,.int .u8 59,.int .u8 36,.int .u8 45,.int .u8 43,.int .u8 51,.int .u8 22,.int .u8 53,.int .u8 39,.int .u8 33,.int .u8 30,.int .u8 24,.int .u8 18,.int .u8 12,.int .u8 5,.int .u8 63,.int .u8 55,.int .u8 48,.int .u8 27,.int .u8 60,.int .u8 41,.int .u8 37,.int .u8 16,.int .u8 46,.int .u8 35,.int .u8 44,.int .u8 21,.int .u8 52,.int .u8 32,.int .u8 23,.int .u8 11,.int .u8 54,.int .u8 26,.int .u8 40,.int .u8 15,.int .u8 34,.int .u8 20,.int .u8 31,.int .u8 10,.int .u8 25,.int .u8 14,.int .u8 19,.int .u8 9,.int .u8 13,.int .u8 8,.int .u8 7,.int .u8 6])]
theorem d8:∀p∈gz,NN p.2:=λp hp=>by
 simp only[gz,ZC,aB6,or_false] at hp;rcases hp with rfl|rfl|rfl
 .exact nn
 .exact nn
 .exact nn
theorem U1(u:Nat)(h:u<18446744073709551616):aU prog [] 262 [.int .u64 u] (.int .i64 (Lib.bitLen u)):=
 Dq (λ_ _ _ _ _ h=>Gi h) λw _=>(Tryz.bits_Len64 u w om om).mono λe w' ⟨h1,h2⟩=>⟨_,h1,λ_ _ _ _=>.int _ _,by rw[h2];exact .refl w⟩
theorem US(x:Nat)(h:x<=64):aU prog [] 261 [.int .i64 x] (.int .i64 (Lib.l10 x)):=
 Dq (λ_ _ _ _ _ h=>Gi h) λw _=>(Tryz.internal_strconv_log10Pow2 x h w).mono λe w' ⟨h1,h2⟩=>⟨_,h1,λ_ _ _ _=>.int _ _,by rw[h2];exact .refl w⟩
theorem VZ(i:Nat)(h:i<100):aU prog [] 246 [.int .i64 i] (.str (Lib.decDigits i)):=
 Dq (λ_ _ _ _ _ h=>Gi h) λw _=>(Tryz.internal_strconv_small i h w).mono λe w' ⟨h1,h2⟩=>⟨_,h1,λ_ _ _ _=>.str _,by rw[h2];exact .refl w⟩
theorem Ud(b:Bool):aU prog [] 263 [.bool b] (.int .i64 (if b then 1 else 0)):=by
 cases b
 all_goals
  refine aD bI func263 rfl ?_;refine Z ?_;exact aA nn C' 
theorem PU(t:TypeId)(xs:List UInt8)(u:Nat)(hu64:u<18446744073709551616)(hlen:1+Lib.nDigits u<=xs.length)(hxl:xs.length<=1000) :
  aJ prog [] 248 [.sl 0 1 (Lib.nDigits u),.int .u64 u] [(0,.row t 1 (gY xs))] 1 λr m n=>r = .tup []/\m=[(0,.row t 1 (gY (xs.take 1++Lib.decDigits u++xs.drop (1+Lib.nDigits u))))]:=
 XY Tryz.internal_strconv_formatBase10 xs u hu64 hlen hxl
def WW:List AV:=[.int .u64 1,.int .u64 10,.int .u64 100,.int .u64 1000,.int .u64 10000,.int .u64 100000,.int .u64 1000000,.int .u64 10000000,.int .u64 100000000,.int .u64 1000000000,.int .u64 10000000000,.int .u64 100000000000,.int .u64 1000000000000,.int .u64 10000000000000,.int .u64 100000000000000,.int .u64 1000000000000000,.int .u64 10000000000000000,.int .u64 100000000000000000,.int .u64 1000000000000000000,.int .u64 10000000000000000000]
theorem VO(q:Nat)(h:q<=19):WW[q]? = some (.int .u64 ((10 ^ q:Nat):Int)):=by
 rcases(show q=0\/q=1\/q=2\/q=3\/q=4\/q=5\/q=6\/q=7\/q=8\/q=9\/q=10\/q=11\/q=12\/q=13\/q=14\/q=15\/q=16\/q=17\/q=18\/q=19 by omega) with rfl|rfl|rfl|rfl|rfl|rfl|rfl|rfl|rfl|rfl|rfl|rfl|rfl|rfl|rfl|rfl|rfl|rfl|rfl|rfl<;>rfl
theorem DG(u:Nat)(h1:1<=u)(h2:u<18446744073709551616):aU prog gz 247 [.int .u64 u] (.int .i64 (Lib.nDigits u)):=by
 obtain⟨e1,e2⟩:=Lib.numDigits_eq u h1 h2;have hL:=U1 u h2;have hb:Lib.bitLen u<=64:=Lib.bitLen_le u 64 (ZA _) h2;generalize Lib.bitLen u=L at *;have hq:=US L hb;generalize Lib.l10 L=q at *;generalize Lib.nDigits u=nd at *;have htab:=VO q e2;refine aD d8 func247 rfl ?_;refine Z ?_;refine hL.goG ?_;refine Z ?_;refine hq.goG ?_;refine Z ?_;refine aK (b:=Nat.blt q 20) (Y2 om) ?_;refine Z ?_;have htab':WW[((q:Int)).toNat*1]? = some (.int .u64 ((10 ^ q:Nat):Int)):=su htab
 clear htab;have hpq:∃pq:Int,pq=((10 ^ q:Nat):Int):=cm
 obtain⟨pq,hpq⟩:=hpq;rw[<-hpq] at htab';refine aC htab' ?_;refine Z ?_;refine(Ud _).goG ?_;refine Z ?_;refine aA nn ⟨?_,rfl,rfl⟩;congr 1;have hle:decide ((u:Int)≥pq)=decide (10 ^ q<=u):=by rw[hpq];simp only[ge_iff_le,Int.ofNat_le]
 have hnd:nd<=20:=by rw[<-e1];split<;>omega
 rw[hle,w64 (y:=(nd:Int)) _ oq];rw[<-e1];by_cases hc:10 ^ q<=u<;>simp[hc]
theorem zJ(u:Nat)(h2:u<18446744073709551616):Lib.nDigits u<=20:=by
 by_cases h1:1<=u
 .obtain⟨e1,e2⟩:=Lib.numDigits_eq u h1 h2;rw[<-e1];split<;>omega
 .rw[Lib.nDigits_small om];omega
theorem DH(n:Int):IntKind.u64.wrap n=n%18446744073709551616:=by
 simp[IntKind.wrap,IntKind.bits,IntKind.signed]
theorem KH(n:Int)(hn:i64 n):aU prog gz 212 [.int .i64 n,.int .i64 10] (.str (Lib.itoa n)):=by
 rcases(show (0<=n/\n<100)\/100<=n\/n<0 by omega) with⟨h0,h1⟩|h1|h1
 .obtain⟨i,rfl⟩:∃i:Nat,n=i:=⟨n.toNat,om⟩
  have d2:decide ((i:Int)<100)=true:=su h1
  refine aD d8 func212 rfl ?_;refine Z ?_;rw[d2];refine Z ?_;refine(VZ i om).goG ?_;refine Z ?_;refine aA nn ⟨?_,rfl,rfl⟩;rw[Lib.itoa_nonneg]
 .obtain⟨u,rfl⟩:∃i:Nat,n=i:=⟨n.toNat,om⟩
  have d2:decide ((u:Int)<100)=false:=B'
  have d3:decide ((u:Int)<0)=false:=sq
  unfold i64 at hn;have hw:IntKind.u64.wrap (u:Int)=(u:Int):=by rw[DH];omega
  have hu64:u<18446744073709551616:=om;have hnd:=zJ u hu64;have hF:=(PU 316 (List.replicate 24 0) u hu64 B' sq).glob (C:=gz);have hdl:=Lib.decDigits_length u;have hN:=DG u om hu64;have hdd:(Lib.decDigits u++List.drop (1+Lib.nDigits u) (List.replicate 24 0)).length=23:=by simp[hdl];omega
  have hit:=Lib.itoa_nonneg u;generalize Lib.nDigits u=nd at hN hF hnd hdl hdd;generalize Lib.decDigits u=ds at hF hdl hit hdd;refine aD d8 func212 rfl ?_;refine Z ?_;rw[d2];refine Z ?_;rw[hw];refine hN.use d8 dQ nn ?_;refine Z ?_;rw[w64 (x:=1+(nd:Int)) (y:=((1+nd:Nat):Int)) om oq];refine Z ?_;refine aK (H6 B' B' sq) ?_;refine Z ?_;refine aJ.useI d8 [0] hF ef (.cons (.slE rfl B') ax) ⟨aF 0 (fP _),trivial⟩ rfl ?_;rintro r m n' ⟨rfl,rfl⟩;refine⟨nn,⟨aF 0 (fP _),trivial⟩,rfl, ?_⟩;have hlist:List.take 1 (List.replicate 24 (0:UInt8))++ds++List.drop (1+nd) (List.replicate 24 0)=0::(ds++List.drop (1+nd) (List.replicate 24 0)):=rfl;rw[hlist];have htk:List.take nd (ds++List.drop (1+nd) (List.replicate 24 0))=ds:=by rw[aAk om,ZD om]
  generalize ds++List.drop (1+nd) (List.replicate 24 0)=rest at hdd htk;have hrl:(gY (0::rest)).length=24:=by rw[iC];simp[hdd]
  refine Z ?_;refine aK (by rw[Y6];exact⟨rfl,Y2 (by rw[hrl];omega)⟩) ?_;refine Z ?_;rw[w64 (x:=1+(nd:Int)) (y:=((1+nd:Nat):Int)) om oq];refine Z ?_;refine aK (H6 B' B' sq) ?_;refine Z ?_;refine aK (Y2 (by rw[hrl];simp;omega)) ?_;refine aC (a:=ds) ?_ ?_
  .rw[F5,Bd,s8]
   show some (List.take ((((1+nd:Nat):Int)).toNat-1) rest)=some ds
   rw[<-htk];congr 2;simp;omega
  refine Z ?_;refine aA nn ⟨?_,rfl,rfl⟩;rw[hit]
 .obtain⟨u,rfl⟩:∃i:Nat,n = -(i:Int):=⟨(-n).toNat,om⟩
  have d1:decide (0<=-(u:Int))=false:=B'
  have d3:decide (-(u:Int)<0)=true:=B'
  unfold i64 at hn;have hw:IntKind.u64.wrap (0-IntKind.u64.wrap (-(u:Int)))=(u:Int):=by rw[DH,DH];omega
  have hu64:u<18446744073709551616:=om;have hnd:=zJ u hu64;have hF:=(PU 316 (List.replicate 24 0) u hu64 B' sq).glob (C:=gz);have hdl:=Lib.decDigits_length u;have hN:=DG u om hu64;have hdd:(Lib.decDigits u++List.drop (1+Lib.nDigits u) (List.replicate 24 0)).length=23:=by simp[hdl];omega
  have hit:=Lib.itoa_neg u om;generalize Lib.nDigits u=nd at hN hF hnd hdl hdd;generalize Lib.decDigits u=ds at hF hdl hit hdd;refine aD d8 func212 rfl ?_;refine Z ?_;rw[d1];refine Z ?_;rw[d3];refine Z ?_;rw[hw];refine hN.use d8 dQ nn ?_;refine Z ?_;rw[w64 (x:=1+(nd:Int)) (y:=((1+nd:Nat):Int)) om oq];refine Z ?_;refine aK (H6 B' B' sq) ?_;refine Z ?_;refine aJ.useI d8 [0] hF ef (.cons (.slE rfl B') ax) ⟨aF 0 (fP _),trivial⟩ rfl ?_;rintro r m n' ⟨rfl,rfl⟩;refine⟨nn,⟨aF 0 (fP _),trivial⟩,rfl, ?_⟩;have hlist:List.take 1 (List.replicate 24 (0:UInt8))++ds++List.drop (1+nd) (List.replicate 24 0)=0::(ds++List.drop (1+nd) (List.replicate 24 0)):=rfl;rw[hlist];have htk:List.take nd (ds++List.drop (1+nd) (List.replicate 24 0))=ds:=by rw[aAk om,ZD om]
  generalize ds++List.drop (1+nd) (List.replicate 24 0)=rest at hdd htk;have hrl:∀b,(gY (b::rest)).length=24:=λb=>by rw[iC];simp[hdd]
  refine Z ?_;rw[d3];refine Z ?_;refine aK (by rw[Y6];exact⟨rfl,Y2 (Nat.le_of_eq (hrl 45).symm)⟩) ?_;refine Z ?_;rw[w64 (x:=1+(nd:Int)) (y:=((1+nd:Nat):Int)) om oq];refine Z ?_;refine aK (H6 sq B' sq) ?_;refine Z ?_;refine aK (Y2 (show _<=(gY (45::rest)).length by rw[hrl];simp;omega)) ?_;refine aC (a:=45::ds) (show g5 (List.take ((((1+nd:Nat):Int)).toNat-0) (List.drop (0+0) (gY (45::rest))))=_ from ?_) ?_
  .rw[F5,Bd,s8];have e:(((1+nd:Nat):Int)).toNat-0=nd+1:=by simp;omega
   rw[e]
   show some (45::List.take nd rest)=_
   rw[htk]
  refine Z ?_;refine aA nn ⟨?_,rfl,rfl⟩;rw[hit]
theorem VM(n:Int)(hn:i64 n):aU prog gz 158 [.int .i64 n] (.str (Lib.itoa n)):=by
 have h:=KH n hn;generalize Lib.itoa n=r at h;refine aD d8 func158 rfl ?_;refine Z ?_;refine h.use d8 dQ nn ?_;refine Z ?_;exact aA nn C' 
theorem WO(n:Int)(hn:i64 n):aU prog gz 87 [.int .i64 n] (.str (Lib.itoa n)):=by
 have h:=VM n hn;generalize Lib.itoa n=r at h;refine aD d8 func87 rfl ?_;refine Z ?_;refine h.use d8 dQ nn ?_;refine Z ?_;exact aA nn C' 
end Go.Proofs.YthggfhnnkclooaaGreatDoor
namespace Go.Ax
open Go
def dg(B n:Nat):List Nat:=if h:n=0\/B<2 then [] else n%B::dg B (n/B)
termination_by n
decreasing_by
 have:=not_or.1 h;exact aBA om om
def vl(B:Nat):List Nat->Nat
 | []=>0
 | d::r=>d+B*vl B r
def eB:List Nat->List Nat
 | []=>[]
 | d::r=>if d=0/\eB r=[] then [] else d::eB r
theorem eA(B:Nat):dg B 0=[]:=by rw[dg];simp
theorem kV{B n:Nat}(hB:2<=B)(hn:0<n):dg B n=n%B::dg B (n/B):=by
 rw[dg,dif_neg om]
theorem fM{B:Nat}(hB:2<=B)(n:Nat):vl B (dg B n)=n:=by
 induction n using Nat.strongRecOn with
 | ind n ih=>
  rcases ZF n with rfl|hn
  .rw[eA];rfl
  .rw[kV hB hn,vl,ih _ (aBA hn om)];exact aA2 n B
theorem eJ{B:Nat}(hB:2<=B)(n:Nat):∀d∈dg B n,d<B:=by
 induction n using Nat.strongRecOn with
 | ind n ih=>
  rcases ZF n with rfl|hn
  .rw[eA];simp
  .rw[kV hB hn];intro d hd;rcases ZC.1 hd with rfl|hd
   .exact Zr _ om
   .exact ih _ (aBA hn om) d hd
theorem Gw{B n:Nat}(hB:2<=B):dg B n=[]↔n=0:=by
 constructor
 .intro h;rcases ZF n with e|hn
  .exact e
  .rw[kV hB hn] at h;cases h
 .rintro rfl;exact eA B
theorem LI{B d m:Nat}(hB:2<=B)(hd:d<B)(h:0<d+B*m):dg B (d+B*m)=d::dg B m:=by
 rw[kV hB h,aBZ,Zt hd,Nat.add_mul_div_left _ _ om,aAh hd,ZP]
theorem jO{B:Nat}(hB:2<=B):∀l:List Nat,(∀d∈l,d<B)->eB l=dg B (vl B l)
 | [],_=>by rw[vl,eA];rfl
 | d::r,h=>by
  have ih:=jO hB r λx hx=>h x (by simp[hx])
  have hd:=h d sq;rw[eB,vl,ih];by_cases e:d=0/\dg B (vl B r)=[]
  .rw[Y7 e,e.1,(Gw hB).1 e.2];simp[eA]
  .rw[Y3 e,LI hB hd];rcases ZF d with h0|h0
   .have hv:vl B r≠0:=λhv=>e ⟨h0,by rw[hv,eA]⟩
    have:=aAK (show 0<B by omega) (Nat.pos_of_ne_zero hv);omega
   .omega
theorem qN{B:Nat}(hB:2<=B):∀l:List Nat,(∀d∈l,d<B)->vl B l<B ^ l.length
 | [],_=>by simp[vl]
 | d::r,h=>by
  have ih:=qN hB r λx hx=>h x (by simp[hx])
  have hd:=h d sq;rw[vl,ZZ,Nat.pow_succ,ZV _ B];have:B*(vl B r+1)<=B*B ^ r.length:=Zq _ ih;rw[Nat.mul_add] at this;omega
theorem jI(B:Nat):∀l m:List Nat,vl B (l++m)=vl B l+B ^ l.length*vl B m
 | [],m=>by simp[vl]
 | d::r,m=>by
  rw[Z0,vl,jI B r m,vl,ZZ,Nat.pow_succ,Nat.mul_add,ZV (B ^ r.length) B,Nat.mul_assoc];omega
theorem fI{B n:Nat}(hB:2<=B):n<B ^ (dg B n).length:=by
 have:=qN hB _ (eJ hB n)
 rwa [fM hB] at this
theorem En{B:Nat}(hB:2<=B)(n:Nat):0<n->B ^ ((dg B n).length-1)<=n:=by
 induction n using Nat.strongRecOn with
 | ind n ih=>
  intro hn;rw[kV hB hn,ZZ,aAV];rcases ZF (n/B) with e|e
  .rw[e,eA,aAm,Nat.pow_zero];exact hn
  .have h1:=ih _ (aBA hn om) e;have h2:0<(dg B (n/B)).length:=by
    rcases ZF (dg B (n/B)).length with h|h
    .have:=(Gw hB).1 (ZH h);omega
    .exact h
   have h3:B ^ (dg B (n/B)).length=B*B ^ ((dg B (n/B)).length-1):=by
    rw[<-Nat.pow_succ'];congr 1;omega
   rw[h3];exact Zk (Zq B h1) (Nat.mul_div_le n B)
theorem fT{B n k:Nat}(hB:2<=B)(h:n<B ^ k):(dg B n).length<=k:=by
 rcases ZF n with rfl|hn
 .rw[eA];simp
 .have h1:=En hB n hn;rcases ZL k (dg B n).length with h2|h2
  .have:B ^ k<=B ^ ((dg B n).length-1):=Zo om om;omega
  .exact h2
theorem J5{B n k:Nat}(hB:2<=B):(dg B n).length<=k↔n<B ^ k:=by
 constructor
 .intro h;exact Z3 (fI hB) (Zo om h)
 .exact fT hB
theorem cU{B n m:Nat}(hB:2<=B)(h:n<=m):(dg B n).length<=(dg B m).length:=
 fT hB (aAc h (fI hB))
theorem s9(B:Nat)(l:List Nat)(d:Nat):vl B (l++[d])=vl B l+B ^ l.length*d:=by
 rw[jI];simp[vl]
theorem rM{l:List Nat}{i d:Nat}(h:l[i]? = some d):l.take (i+1)=l.take i++[d]:=by
 rw[aB2,h];rfl
theorem iL{B:Nat}{l:List Nat}{i d:Nat}(h:l[i]? = some d):vl B (l.take (i+1))=vl B (l.take i)+B ^ i*d:=by
 have hl:=(Y4.1 h).1;rw[rM h,s9,ZQ,Z5 om]
theorem Ea{l:List Nat}{i:Nat}(h:l.length<=i):l.take (i+1)=l.take i:=by
 rw[ZD h,ZD om]
theorem vI{B:Nat}(hB:2<=B){s:List Nat}{va vb x y c i:Nat}(hs:s.length=i)(h:vl B s+B ^ i*c=va+vb) :
  vl B (s++[(c+(x+y))%B])+B ^ (i+1)*((c+(x+y))/B)=(va+B ^ i*x)+(vb+B ^ i*y):=by
 rw[s9,hs,Nat.pow_succ,Nat.mul_assoc];have h2:B ^ i*((c+(x+y))%B)+B ^ i*(B*((c+(x+y))/B))=B ^ i*(c+(x+y)):=by
  rw[<-Nat.mul_add,aA2]
 rw[Nat.mul_add,Nat.mul_add] at h2;omega
theorem Co{B:Nat}{s:List Nat}{va vb x y b i:Nat}(hs:s.length=i)(h:vl B s+vb=va+B ^ i*b)(hx:x<B)(hy:y<B)(hb:b<=1) :
  vl B (s++[if y+b>x then x+B-(y+b) else x-(y+b)])+(vb+B ^ i*y)=(va+B ^ i*x)+B ^ (i+1)*(if y+b>x then 1 else 0):=by
 rw[s9,hs,Nat.pow_succ];split
 .have e:B ^ i*(x+B-(y+b))+B ^ i*(y+b)=B ^ i*x+B ^ i*B*1:=by rw[<-Nat.mul_add,aAL,<-Nat.mul_add];congr 1;omega
  rw[Nat.mul_add (B ^ i) y b] at e;omega
 .have e:B ^ i*(x-(y+b))+B ^ i*(y+b)=B ^ i*x:=by rw[<-Nat.mul_add];congr 1;omega
  rw[Nat.mul_add (B ^ i) y b] at e;omega
theorem rF{B x y b:Nat}(hx:x<B)(hy:y<B)(hb:b<=1):(if y+b>x then x+B-(y+b) else x-(y+b))<B:=by
 split<;>omega
theorem HE(B:Nat):∀(l:List Nat) (k d e:Nat),l[k]? = some e->vl B (l.set k d)+B ^ k*e=vl B l+B ^ k*d
 | [],k,d,e,h=>by cases h
 | a::r,0,d,e,h=>by
  cases h;simp only[aAJ,vl,Nat.pow_zero,Z6];omega
 | a::r,k+1,d,e,h=>by
  have ih:=HE B r k d e h;simp only[List.set_cons_succ,vl,Nat.pow_succ,ZV (B ^ k) B,Nat.mul_assoc];have h2:B*(vl B (r.set k d))+B*(B ^ k*e)=B*vl B r+B*(B ^ k*d):=by rw[<-Nat.mul_add,ih,Nat.mul_add]
  omega
theorem Gv{B:Nat}{l:List Nat}{k d:Nat}(hl:∀x∈l,x<B)(hd:d<B):∀x∈l.set k d,x<B:=λx hx=>by
 rcases aBw hx with h|h
 .exact hl x h
 .rw[h];exact hd
theorem I5{B:Nat}{P:List Nat}{V x y c p k w:Nat}(hp:P[k]? = some p)(h:vl B P+B ^ k*c=V+x*w) :
  vl B (P.set k ((c+(x*y+p))%B))+B ^ (k+1)*((c+(x*y+p))/B)=V+x*(w+B ^ k*y):=by
 have h1:=HE B P k ((c+(x*y+p))%B) p hp;have h2:B ^ k*((c+(x*y+p))%B)+B ^ k*(B*((c+(x*y+p))/B))=B ^ k*(c+(x*y+p)):=by
  rw[<-Nat.mul_add,aA2]
 have h3:x*(B ^ k*y)=B ^ k*(x*y):=by rw[aAF]
 rw[Nat.pow_succ,Nat.mul_assoc,Nat.mul_add,h3];rw[Nat.mul_add,Nat.mul_add (B ^ k) (x*y) p] at h2;omega
theorem OP{B:Nat}(hB:0<B){Q r d x:Nat}(hd:0<d){V:Nat}(h:V=Q*d+r)(hr:r<d) :
  x+B*V=(((r*B+x)/d)+B*Q)*d+(r*B+x)%d/\(r*B+x)%d<d/\(x<B->(r*B+x)/d<B):=by
 refine⟨?_,Zr _ hd,λhx=>?_⟩
 .have e:=aBf (r*B+x) d;rw[h,Nat.add_mul,Nat.mul_add,ZV ((r*B+x)/d) d,Nat.mul_assoc,ZV B r];omega
 .rw[aAx hd];have:(r+1)*B<=d*B:=ZI _ hr;rw[Nat.add_mul,Z6,ZV d B] at this;omega
theorem dG{B:Nat}{l:List Nat}{i d:Nat}(h:l[i]? = some d):vl B (l.drop i)=d+B*vl B (l.drop (i+1)):=by
 obtain⟨h1,h2⟩:=Y4.1 h;rw[List.drop_eq_getElem_cons h1,vl,h2]
theorem oZ{B:Nat}{a b:List Nat}{i x y:Nat}(ha:∀d∈a,d<B)(hB:2<=B)(hab:a.drop (i+1)=b.drop (i+1))(hx:a[i]? = some x)(hy:b[i]? = some y)(h:x<y)(hl:a.length=b.length):vl B a<vl B b:=by
 have ea:a=a.take i++a.drop i:=(List.take_append_drop i a).symm;have eb:b=b.take i++b.drop i:=(List.take_append_drop i b).symm;have hia:=(Y4.1 hx).1;have la:(a.take i).length=i:=cx
 have lb:(b.take i).length=i:=cx
 have h1:=qN hB (a.take i) λd hd=>ha d (Ze hd)
 rw[la] at h1;have va:vl B a=vl B (a.take i)+B ^ i*(x+B*vl B (a.drop (i+1))):=by
  conv=>lhs;rw[ea]
  rw[jI,la,dG hx]
 have vb:vl B b=vl B (b.take i)+B ^ i*(y+B*vl B (a.drop (i+1))):=by
  conv=>lhs;rw[eb]
  rw[jI,lb,dG hy,hab]
 have h2:B ^ i*(x+1+B*vl B (a.drop (i+1)))<=B ^ i*(y+B*vl B (a.drop (i+1))):=Zq _ om;have h3:B ^ i*(x+1+B*vl B (a.drop (i+1)))=B ^ i*(x+B*vl B (a.drop (i+1)))+B ^ i:=by
  rw[show x+1+B*vl B (a.drop (i+1))=(x+B*vl B (a.drop (i+1)))+1 by omega,Nat.mul_add,aAL]
 omega
theorem o6{B n m:Nat}(hB:2<=B)(h:(dg B n).length<(dg B m).length):n<m:=by
 rcases ZL n m with h1|h1
 .exact h1
 .have:=cU hB h1;omega
end Go.Ax
namespace Go.Ax
open Go
theorem FI{B:Nat}(hB:2<=B){s:List Nat}{X A x y q c b i:Nat}(hs:s.length=i)(h:vl B s+X=A+B ^ i*(c+b))(hx:x<B)(hb:b<=1) :
  vl B (s++[if (c+q*y)%B+b>x then x+B-((c+q*y)%B+b) else x-((c+q*y)%B+b)])+(X+B ^ i*(q*y))=(A+B ^ i*x)+B ^ (i+1)*((c+q*y)/B+(if (c+q*y)%B+b>x then 1 else 0)):=by
 have hm:(c+q*y)%B<B:=Zr _ om;have e1:B ^ i*(c+q*y)=B ^ i*((c+q*y)%B)+B ^ i*(B*((c+q*y)/B)):=by rw[<-Nat.mul_add,aA2]
 rw[Nat.mul_add (B ^ i) c,<-Nat.mul_assoc (B ^ i) B,<-Nat.pow_succ] at e1;have h2:vl B s+(X+B ^ i*c-B ^ i*c)=A+B ^ i*(c+b):=by rw[aAV];exact h
 rw[Nat.mul_add] at h;have e2:B ^ i*(if (c+q*y)%B+b>x then x+B-((c+q*y)%B+b) else x-((c+q*y)%B+b))+B ^ i*((c+q*y)%B+b)=B ^ i*x+B ^ (i+1)*(if (c+q*y)%B+b>x then 1 else 0):=by
  rw[Nat.pow_succ,Nat.mul_assoc,<-Nat.mul_add,<-Nat.mul_add];congr 1;split<;>omega
 rw[Nat.mul_add (B ^ i) ((c+q*y)%B) b] at e2;rw[s9,hs,Nat.mul_add (B ^ (i+1))];generalize B ^ (i+1)=ag at e1 e2 |-;generalize (c+q*y)%B=lo at e1 e2 |-;omega
structure Yn(B L U v U3 v2 top lead next u:Nat):Prop where
 b2:2<=B
 l0:0<L
 u1:U3*L<=U
 u2:U<(U3+1)*L
 w1:v2*L<=v
 w2:v<(v2+1)*L
 u3:U3=top*B+u
 v3:v2=lead*B+next
 uB:u<B
 nB:next<B
 lB:lead<B
 half:B<=2*lead
 less:U<v*B
section
variable {B L U v U3 v2 top lead next u:Nat} (h:Yn B L U v U3 v2 top lead next u)
include h
theorem DA:0<lead/\B*L<=v:=by
 have h0:=h.b2;have h1:=h.half;have h2:=h.w1;have h3:lead*B<=v2:=by rw[h.v3];omega
 have h4:1*B<=lead*B:=ZI _ om;have h5:B*L<=v2*L:=ZI _ om;omega
theorem P6{d:Nat}(hd:U3<d*v2):U<d*v:=by
 have h1:(U3+1)*L<=d*v2*L:=ZI _ hd;have h2:d*v2*L<=d*v:=by rw[Nat.mul_assoc];exact Zq _ h.w1
 have:=h.u2;omega
theorem R2{d:Nat}(hd:B<=d):U<d*v:=by
 have h1:=h.less;have h2:B*v<=d*v:=ZI _ hd;rw[ZV v B] at h1;omega
theorem OF{d:Nat}(hd:d*v2<=U3)(hB:d<B):d*v<=U+v:=by
 obtain⟨-,h1⟩:=DA h;have h2:d*v<=d*((v2+1)*L):=Zq _ (by have:=h.w2;omega);have h3:d*((v2+1)*L)=d*v2*L+d*L:=by rw[Nat.add_mul,Z6,Nat.mul_add,Nat.mul_assoc]
 have h4:d*v2*L<=U3*L:=ZI _ hd;have h5:d*L<=B*L:=ZI _ om;have:=h.u1;omega
structure Q4(B U v top lead d r:Nat):Prop where
 eq:d*lead+r=top
 up:U<(d+1)*v
 hi:d<=B+1
 rB:r<B
theorem GG:top<=lead*B+(B-1):=by
 have h0:=h.b2;have hL:=h.l0;have h1:U3*L<(v2+1)*L*B:=aAc h.u1 (Z3 h.less (ZI _ (by have:=h.w2;omega)));have h2:U3<(v2+1)*B:=by
  rw[Nat.mul_assoc,ZV L B,<-Nat.mul_assoc] at h1;exact aAP h1
 have h3:top*B<(v2+1)*B:=by have:=h.u3;omega
 have h4:top<v2+1:=aAP h3;have:=h.v3;have:=h.nB;omega
theorem P4:Q4 B U v top lead (top/lead) (top%lead):=by
 obtain⟨hl,-⟩:=DA h;have e:=aBf top lead;have hm:=Zr top hl;have ht:=GG h;have hh:=h.half;have hlB:=h.lB;rw[ZV] at e;refine⟨e, ?_, ?_,om⟩
 .have h1:top+1<=(top/lead+1)*lead:=by rw[Nat.add_mul,Z6];omega
  have h2:(top+1)*B<=(top/lead+1)*lead*B:=ZI _ h1;have h3:(top/lead+1)*lead*B<=(top/lead+1)*v2:=by rw[Nat.mul_assoc];exact Zq _ (by have:=h.v3;omega)
  have h4:U3<(top/lead+1)*v2:=by
   rw[Nat.add_mul,Z6] at h2;have:=h.u3;have:=h.uB;omega
  exact P6 h h4
 .rcases ZL (B+1) (top/lead) with h1|h1
  .exfalso;have h2:(B+2)*lead<=(top/lead)*lead:=ZI _ om;rw[Nat.add_mul,ZV B lead] at h2;omega
  .exact h1
theorem Ir{d r:Nat}(hI:Q4 B U v top lead d r)(hc:B<=d\/r*B+u<d*next):0<d/\(d-1)*lead+(r+lead)=top/\U<(d-1+1)*v:=by
 have hlt:U<d*v:=by
  rcases hc with hc|hc
  .exact R2 h hc
  .refine P6 h ?_;have e:=hI.eq;rw[h.u3,h.v3,Nat.mul_add,<-Nat.mul_assoc,<-e,Nat.add_mul];omega
 have hd:0<d:=by
  rcases ZF d with rfl|hd
  .rw[aBS] at hlt;omega
  .exact hd
 obtain⟨d,rfl⟩:∃k,d=k+1:=⟨d-1,om⟩
 have e:=hI.eq;rw[Nat.add_mul,Z6] at e;refine⟨hd,by rw[aAV];omega,by rw[aAV];exact hlt⟩
theorem O6{d r:Nat}(hI:Q4 B U v top lead d r)(h1:d<B)(h2:d*next<=r*B+u):d*v<=U+v:=by
 refine OF h ?_ h1;have e:=hI.eq;rw[h.u3,h.v3,Nat.mul_add,<-Nat.mul_assoc,<-e,Nat.add_mul];omega
theorem IM{d r:Nat}(e:d*lead+r=top)(h1:B<=r):d<B/\d*v<=U+v:=by
 have ht:=GG h;have h0:=h.b2;obtain⟨hl,-⟩:=DA h;have hd:d<B:=by
  have h2:d*lead<B*lead:=by rw[ZV B lead];omega
  exact aAP h2
 refine⟨hd,OF h ?_ hd⟩;have h3:d*next<=B*B:=Z7 om (by have:=h.nB;omega)
 have h4:B*B<=r*B:=ZI _ h1;rw[h.u3,h.v3,Nat.mul_add,<-Nat.mul_assoc,<-e,Nat.add_mul];omega
end
theorem vM{U v d:Nat}(up:U<(d+1)*v)(h:d*v<=U):U/v=d/\U%v=U-d*v:=by
 have hv:0<v:=by
  rcases ZF v with rfl|hv
  .simp at up
  .exact hv
 have e:U=d*v+(U-d*v):=om;have hr:U-d*v<v:=by rw[Nat.add_mul,Z6] at up;omega
 constructor
 .generalize U-d*v=w at e hr;rw[e,ZV d v,Nat.mul_add_div hv,aAh hr];rfl
 .generalize U-d*v=w at e hr |-;rw[e,ZV d v,aCa,Zt hr]
theorem KL{U v d:Nat}(hd:0<d)(h:U<d*v)(h2:d*v<=U+v):U/v=d-1/\U%v+d*v=U+v:=by
 obtain⟨k,rfl⟩:∃k,d=k+1:=⟨d-1,om⟩
 rw[Nat.add_mul,Z6] at h2;obtain⟨e1,e2⟩:=vM (d:=k) h om;refine⟨by rw[e1];rfl, ?_⟩;rw[e2,Nat.add_mul,Z6];omega
end Go.Ax
namespace Go.Ax
open Go
def fJ(a b:Int):Int:=if a<b then -1 else if b<a then 1 else 0
theorem Q8{a b:Int}(h:a≠b):fJ a b≠0:=by unfold fJ;split<;>(try split)<;>omega
theorem H9(a b:Nat):Nat.gcd b (a%b)=Nat.gcd a b:=by rw[Nat.gcd_comm b,<-Nat.gcd_rec,Nat.gcd_comm]
def xF:Nat->Nat->List UInt8
 | 0,_=>[]
 | k+1,r=>xF k (r/10)++[UInt8.ofNat (48+r%10)]
theorem uJ:∀k r,(xF k r).length=k
 | 0,_=>rfl
 | k+1,r=>by rw[xF,ZB,uJ k];rfl
theorem rQ{n:Nat}(h:10<=n):Lib.decDigits n=Lib.decDigits (n/10)++[UInt8.ofNat (48+n%10)]:=by
 rw[Lib.decDigits,dif_neg om]
theorem zD:∀(k q r:Nat),0<q->r<10 ^ k->Lib.decDigits (r+10 ^ k*q)=Lib.decDigits q++xF k r
 | 0,q,r,hq,hr=>by
  have:r=0:=su hr
  subst this;simp[xF]
 | k+1,q,r,hq,hr=>by
  have hp:0<10 ^ k:=aAq om;have e:10 ^ (k+1)*q=10*(10 ^ k*q):=by rw[Nat.pow_succ,ZV (10 ^ k) 10,Nat.mul_assoc]
  have h1:1<=10 ^ k*q:=aAK hp hq;rw[rQ om,e,xF,<-List.append_assoc,show (r+10*(10 ^ k*q))/10=r/10+10 ^ k*q by omega,show (r+10*(10 ^ k*q))%10=r%10 by omega];rw[zD k q (r/10) hq (by rw[Nat.pow_succ] at hr;omega)]
theorem pM:∀(k r:Nat),r<10 ^ k->0<k->(Lib.decDigits r).length<=k
 | 0,r,_,h=>om
 | k+1,r,hr,_=>by
  by_cases h:r<10
  .rw[Lib.decDigits_one h];simp
  .rw[rQ om,ZB];have hk:0<k:=by
    rcases ZF k with rfl|hk
    .simp at hr;omega
    .exact hk
   have:=pM k (r/10) (by rw[Nat.pow_succ] at hr;omega) hk;simp;omega
theorem Ex:∀k,xF k 0=List.replicate k 48
 | 0=>rfl
 | k+1=>by rw[xF,show 0/10=0 by rfl,Ex k,List.replicate_succ'];rfl
theorem Gu:∀(k r:Nat),r<10 ^ k->0<k->xF k r=List.replicate (k-(Lib.decDigits r).length) 48++Lib.decDigits r
 | 0,r,_,h=>om
 | k+1,r,hr,_=>by
  rw[xF];by_cases h:r<10
  .rw[Lib.decDigits_one h,aAh h,Ex,Zt h];simp
  .have hk:0<k:=by
    rcases ZF k with rfl|hk
    .simp at hr;omega
    .exact hk
   have hr2:r/10<10 ^ k:=by rw[Nat.pow_succ] at hr;omega
   have hl:=pM k (r/10) hr2 hk;rw[rQ om,Gu k (r/10) hr2 hk,ZB,List.append_assoc];congr 2;simp
def AO(k:Nat):List Nat->List UInt8
 | []=>[]
 | d::r=>if r=[] then Lib.decDigits d else AO k r++xF k d
theorem SI{k:Nat}(hk:0<k)(n:Nat)(hn:0<n):AO k (dg (10 ^ k) n)=Lib.decDigits n:=by
 have hB:2<=10 ^ k:=by
  obtain⟨j,rfl⟩:∃j,k=j+1:=⟨k-1,om⟩
  have:0<10 ^ j:=aAq om;rw[Nat.pow_succ];omega
 induction n using Nat.strongRecOn with
 | ind n ih=>
  rw[kV hB hn,AO];rcases ZF (n/10 ^ k) with e|e
  .have hlt:n<10 ^ k:=by
    rcases ZL n (10 ^ k) with h|h
    .exact h
    .have:=aB3 h om;omega
   rw[e,eA,Y7 rfl,Zt hlt]
  .rw[Y3 (λh=>by have:=(Gw hB).1 h;omega),ih _ (aBA hn om) e,<-zD k _ _ e (Zr _ om),aA2]
def tX(z:Int):List UInt8:=Lib.itoa z
theorem Ie(n:Nat):tX n=Lib.decDigits n:=Lib.itoa_nonneg n
def Nt(l:List UInt8):Nat:=l.foldl (λa c=>a*10+(c.toNat-48)) 0
theorem MA(l:List UInt8)(c:UInt8):Nt (l++[c])=Nt l*10+(c.toNat-48):=by simp[Nt]
theorem Bt(d:Nat)(h:d<10):(UInt8.ofNat (48+d)).toNat=48+d:=by
 rw[UInt8.toNat_ofNat'];omega
theorem Pq(n:Nat):Nt (Lib.decDigits n)=n:=by
 induction n using Nat.strongRecOn with
 | ind n ih=>
  by_cases h:n<10
  .rw[Lib.decDigits_one h];simp only[Nt,Zh,aCf];rw[Bt _ h];omega
  .rw[rQ om,MA,ih _ om,Bt _ om];omega
theorem Mj{p q r s:Nat}(h1:Nat.Coprime p q)(h2:Nat.Coprime r s):Nat.gcd (p*r) (q*s)=Nat.gcd p s*Nat.gcd r q:=by
 rcases ZF q with rfl|hq
 .have hp:p=1:=by simpa[Nat.Coprime] using h1
  subst hp;simp
 rcases ZF s with rfl|hs
 .have hr:r=1:=by simpa[Nat.Coprime] using h2
  subst hr;simp
 have g1:0<Nat.gcd p s:=aAp _ hs;have g2:0<Nat.gcd r q:=aAp _ hq;obtain⟨p',hp⟩:=aAM p s;obtain⟨s',hs'⟩:=aBn p s;obtain⟨r',hr⟩:=aAM r q;obtain⟨q',hq'⟩:=aBn r q;have c1:Nat.Coprime p' s':=by
  have:=aBo g1
  rwa [aBa g1 hp,aBa g1 hs'] at this
 have c2:Nat.Coprime r' q':=by
  have:=aBo g2
  rwa [aBa g2 hr,aBa g2 hq'] at this
 generalize Nat.gcd p s=g at *;generalize Nat.gcd r q=h at *;have c3:Nat.Coprime p' q':=Nat.Coprime.coprime_dvd_left ⟨g,by rw[hp,ZV]⟩ (Nat.Coprime.coprime_dvd_right ⟨h,by rw[hq',ZV]⟩ h1);have c4:Nat.Coprime r' s':=Nat.Coprime.coprime_dvd_left ⟨h,by rw[hr,ZV]⟩ (Nat.Coprime.coprime_dvd_right ⟨g,by rw[hs',ZV]⟩ h2);have c5:Nat.Coprime (p'*r') (q'*s'):=Nat.Coprime.mul_left (Nat.Coprime.mul_right c3 c1) (Nat.Coprime.mul_right c2 c4);have e1:p*r=g*h*(p'*r'):=by rw[hp,hr];simp only[Nat.mul_assoc,aAF]
 have e2:q*s=g*h*(q'*s'):=by rw[hq',hs'];simp only[Nat.mul_assoc,aAF]
 rw[e1,e2,Nat.gcd_mul_left,c5,aAL]
structure Nd where
 kind:Int
 name:List UInt8
 lo:Int
 hi:Int
 weights:List Int
 labels:List (List UInt8)
 values:List bH
 kids:List Int
 value:bH
def tL(l:List (List UInt8)):List AV:=l.map AV.str
def dM(x:Nd):AV:=
 match x.value with
 | .mk k n s ks=>.agg [.int .i64 x.kind,.str x.name,.int .i64 x.lo,.int .i64 x.hi,.il 1 (aY x.weights),.il 1 (tL x.labels),.il 4 (aQ x.values),.il 1 (aY x.kids),.int .i64 k,.int .i64 n,.str s,.il 4 (aQ ks)]
def bG(l:List Nd):List AV:=l.map dM
theorem oS(l:List (List UInt8)):jR (tL l):=λa ha=>by
 obtain⟨n,_,rfl⟩:=ZW.1 ha;exact .str _
theorem eC(l:List (List UInt8)):(tL l).length=l.length:=by rw[tL,aAC]
theorem Hn(l:List (List UInt8))(i:Nat):(tL l)[i]? = (l[i]?).map AV.str:=by rw[tL,Zx]
theorem bP(x:Nd):NN (dM x):=by
 unfold dM;split;exact .agg' (.cons (.int _ _) (.cons (.str _) (.cons (.int _ _) (.cons (.int _ _) (.cons (.il' (aW _)) (.cons (.il' (oS _)) (.cons (.il' (aX _)) (.cons (.il' (aW _)) (.cons (.int _ _) (.cons (.int _ _) (.cons (.str _) gg)))))))))))
theorem bB(l:List Nd):jR (bG l):=λa ha=>by
 obtain⟨n,_,rfl⟩:=ZW.1 ha;exact bP n
theorem cH(l:List Nd):(bG l).length=l.length:=by rw[bG,aAC]
theorem o8(l:List Nd)(i:Nat):(bG l)[i]? = (l[i]?).map dM:=by rw[bG,Zx]
structure tY(x:Nd):Prop where
 kind:i64 x.kind
 name:x.name.length<=4294967296
 lo:i64 x.lo
 hi:i64 x.hi
 weights:x.weights.length<=4294967296
 weightsI:∀w∈x.weights,i64 w
 labels:x.labels.length<=4294967296
 labelsI:∀w∈x.labels,w.length<=4294967296
 values:x.values.length<=4294967296
 valuesI:∀v∈x.values,jG v/\bS v<=4294967296
 kids:x.kids.length<=4294967296
 kidsI:∀k∈x.kids,i64 k
 value:jG x.value
 valueS:bS x.value<=4294967296
def DX:bH->Bool
 | .mk k n s ks=>decide (k=0) && decide (n=0) && decide (s=[]) && decide (ks.length=0)
def kC(x:Nd):Bool:=
 (decide (x.kind=0) || DX x.value) && (decide (x.kind=1) || (decide (x.lo=0) && decide (x.hi=0))) && (decide (x.kind=3) || decide (x.name=[])) &&
 (decide (x.kind=2) || (decide (x.weights.length=0) && decide (x.labels.length=0))) && (decide (x.kind=4) || decide (x.values.length=0)) && ((decide (x.kind≠0) && decide (x.kind≠1)) || decide (x.kids.length=0))
def gH:List bH->Bool
 | a::b::r=>decide (c8 a b<0) && gH (b::r)
 | _=>true
def uU(i:Int)(l:List Int):Bool:=l.all λk=>decide (0<=k) && decide (k<i)
def dS(i:Int)(x:Nd):Bool:=
 kC x && (decide (0<=x.kind) && decide (x.kind<=4)) && uU i x.kids &&
 (decide (x.kind≠2) || (decide (1<=x.kids.length) && decide (x.kids.length<=256) && decide (x.weights.length=x.kids.length) && (decide (x.labels.length=0) || decide (x.labels.length=x.kids.length)))) &&
 (decide (x.kind≠3) || (decide (x.kids.length<=256) && (decide (x.name=[]) || (gA x.name && decide (x.kids.length<=16))))) &&
 (decide (x.kind≠4) || decide (x.kids.length=x.values.length+1)) && gH x.values
def d6(x:Nd):Bool:=
 decide (x.lo<=x.hi) && decide (-4611686018427387904<=x.lo) && decide (x.hi<=4611686018427387904) && decide (x.hi<x.lo+1099511627776) && x.weights.all λw=>decide (1<=w) && decide (w<=1000)
def fU:List bH->Int
 | []=>0
 | v::r=>if hZ v≠0 then hZ v else fU r
def qA(x:Nd):List bH:=(if x.kind=0 then [x.value] else [])++x.values
def g9(i:Int)(x:Nd):Int:=
 if dS i x=false then 1 else if fU (qA x)≠0 then fU (qA x) else if d6 x=false then 5 else 0
def eP(l:List Int)(k:Int):Int:=l.getD k.toNat 0
def gB(before kids:List Int):Int:=kids.foldl (λs k=>s+eP before k) 0
def c9(before kids:List Int):Int:=kids.foldl (λs k=>max s (eP before k)) 0
def eT(x:Nd):List Int:=if x.kind=2 then x.kids else x.kids.drop 1
def f8(before:List Int)(x:Nd):Int:=
 if x.kind=0 then 0 else if x.kind=1 then 1 else if x.kind=3 then gB before x.kids else if x.kind=2 then 1+c9 before (eT x) else eP before (x.kids.getD 0 0)+c9 before (eT x)
def mF(before:List Int)(x:Nd):Int:=
 if x.kind=0 then bS x.value else if x.kind=1 then 1 else if x.kind=3 then 1+gB before x.kids else c9 before (eT x)
structure iX where
 vals:List bH
 many:Bool
def dW(name:List UInt8)(kids:List bH):bH:=if name=[] then .mk 2 0 [] kids else .mk 3 0 name kids
def dT(l:List iX)(k:Int):iX:=l.getD k.toNat ⟨[],false⟩
def iR(lo hi:Int):List bH:=(List.range (hi+1-lo).toNat).map λi:Nat=>.mk 0 (lo+(i:Int)) [] []
def bY(before:List iX)(x:List bH × Bool)(k:Int):List bH × Bool:=
 (fR (x.1++(dT before k).vals),x.2 || (dT before k).many || decide (1024<(fR (x.1++(dT before k).vals)).length))
def mN(before:List iX)(kids:List Int):iX:=
 if (kids.foldl (bY before) ([],false)).2 then⟨[],true⟩ else⟨(kids.foldl (bY before) ([],false)).1,false⟩
def iI(rows:List (List bH))(l:List bH):List (List bH):=rows.flatMap λr=>l.map λv=>r++[v]
def f7(before:List iX):List Int->List (List bH)->Option (List (List bH))
 | [],rows=>some rows
 | k::r,rows=>if (dT before k).many=true\/1024<rows.length*(dT before k).vals.length then none else f7 before r (iI rows (dT before k).vals)
def p9(before:List iX)(x:Nd):iX:=
 match f7 before x.kids [[]] with
 | none=>⟨[],true⟩
 | some rows=>⟨fR (rows.map (dW x.name)),false⟩
def dN(x:Nd)(before:List iX):iX:=
 if x.kind=0 then⟨[x.value],false⟩
 else if x.kind=1 then(if 1024<=x.hi-x.lo then⟨[],true⟩ else⟨iR x.lo x.hi,false⟩)
 else if x.kind=3 then p9 before x
 else mN before (if x.kind=4 then x.kids.drop 1 else x.kids)
def aS(nodes:List Nd):List iX:=nodes.foldl (λout x=>out++[dN x out]) []
def eO:List bH->List bH->Bool
 | [],[]=>true
 | a::l,b::m=>decide (c8 a b=0) && eO l m
 | _,_=>false
def jM(nodes:List Nd)(x:Nd):Int:=
 let l:=dT (aS (nodes.take ((x.kids.getD 0 0).toNat+1))) (x.kids.getD 0 0)
 if l.many=true then 4 else if eO l.vals x.values=true then 0 else 1
def iY(before:List Nd)(ls ss:List Int)(x:Nd):Int:=
 if g9 before.length x≠0 then g9 before.length x
 else if 256<f8 ls x\/1024<mF ss x then 4
 else if x.kind=4 then jM before x else 0
def bD(nodes:List Nd):List Int:=nodes.foldl (λls x=>ls++[f8 ls x]) []
def dD(nodes:List Nd):List Int:=nodes.foldl (λls x=>ls++[mF ls x]) []
def cP:List Nd->List Nd->Int
 | _,[]=>0
 | before,x::r=>if iY before (bD before) (dD before) x≠0 then iY before (bD before) (dD before) x else cP (before++[x]) r
def eX(nodes:List Nd):Int:=if 4096<nodes.length then 4 else cP [] nodes
theorem iG:∀(b l:List Nd) (x:Nd),cP b l=0->cP b (l++[x])=iY (b++l) (bD (b++l)) (dD (b++l)) x
 | b,[],x,h=>by
  simp only[Zp,cP,aAi];split
  .rfl
  .rename_i h1;simpa using (Eq.symm (Decidable.not_not.1 h1))
 | b,y::r,x,h=>by
  simp only[Z0,cP] at h |-;split at h
  .rename_i h1;exact absurd h h1
  .rename_i h1;rw[Y3 h1,iG (b++[y]) r x h];simp
theorem i7(l:List Nd)(x:Nd):bD (l++[x])=bD l++[f8 (bD l) x]:=by simp[bD]
theorem nJ(l:List Nd)(x:Nd):dD (l++[x])=dD l++[mF (dD l) x]:=by simp[dD]
theorem jP(l:List Nd)(x:Nd):aS (l++[x])=aS l++[dN x (aS l)]:=by simp[aS]
def r8(n most:Int):Int:=(if n<0 then -(n+1) else n).tmod most
def mK(l:List Int)(i most:Int):Int:=if i<0\/(l.length:Int)<=i then 0 else r8 (l.getD i.toNat 0) most
theorem Ec{n most:Int}(h:1<=most):0<=r8 n most/\r8 n most<most:=by
 unfold r8;have h0:0<=(if n<0 then -(n+1) else n):=by split<;>omega
 exact⟨aA3 _ h0,aAW _ om⟩
theorem lL{l:List Int}{i most:Int}(h:1<=most):0<=mK l i most/\mK l i most<most:=by
 unfold mK;split
 .omega
 .exact Ec h
def x5(k:Int):bH:=
 if k.tmod 4=0 then .mk 0 ((k.tdiv 4).tmod 9-4) [] []
 else if k.tmod 4=1 then .mk 1 ((k.tdiv 4).tmod 2) [] []
 else if k.tmod 4=2 then .mk 3 0 (([[76,101,97,102],[82,101,100],[88]]:List (List UInt8)).getD ((k.tdiv 4).tmod 3).toNat []) []
 else .mk 2 0 [] [.mk 0 ((k.tdiv 4).tmod 3) [] []]
def kidI(l:List Int)(i j:Int):Int:=
 if (mK l (3*i+j+2) 1000000).tmod 3=0 then((mK l (3*i+j+2) 1000000).tdiv 3).tmod i else max 0 (i-1-((mK l (3*i+j+2) 1000000).tdiv 3).tmod 3)
theorem yX:∀{l:List bH},(∀(j:Nat) (a b:bH),l[j]? = some a->l[j+1]? = some b->c8 a b<0)->gH l=true
 | [],_=>rfl
 | [a],_=>rfl
 | a::b::r,h=>by
  simp only[gH,Y6,Zc];exact⟨h 0 a b rfl rfl,yX λj x y hx hy=>h (j+1) x y (su hx) (su hy)⟩
theorem y8:∀{l:List bH},gH l=true->∀(j:Nat) (a b:bH),l[j]? = some a->l[j+1]? = some b->c8 a b<0
 | [],_,j,a,b,h1,h2=>by simp at h1
 | [x],_,j,a,b,h1,h2=>by simp at h2
 | x::y::r,h,j,a,b,h1,h2=>by
  simp only[gH,Y6,Zc] at h;cases j with
  | zero=>simp at h1 h2;subst h1 h2;exact h.1
  | succ j=>exact y8 h.2 j a b (su h1) (su h2)
theorem pX{i:Int}{l:List Int}:uU i l=true↔∀(j:Nat) (k:Int),l[j]? = some k->0<=k/\k<i:=by
 simp only[uU,Z8,Y6,Zc];constructor
 .intro h j k hj;exact h k (Y5 hj)
 .intro h k hk;obtain⟨j,hj⟩:=Zl hk;exact h j k hj
theorem Yf:2<=4294967296:=H'
abbrev nW(n:Nat):Nat:=(dg 4294967296 n).length
theorem Lx{B:Nat}(hB:2<=B)(x y:Nat):(dg B (x+y)).length<=max (dg B x).length (dg B y).length+1:=by
 refine fT hB ?_;have h1:=fI (n:=x) hB;have h2:=fI (n:=y) hB;generalize (dg B x).length=a at *;generalize (dg B y).length=b at *;have h3:B ^ a<=B ^ max a b:=Zo om om;have h4:B ^ b<=B ^ max a b:=Zo om om;have h5:B ^ max a b*2<=B ^ max a b*B:=Zq _ hB;rw[Nat.pow_succ];omega
theorem qT{B:Nat}(hB:2<=B)(x y:Nat):(dg B (x*y)).length<=(dg B x).length+(dg B y).length:=by
 refine fT hB ?_;have h1:=fI (n:=x) hB;have h2:=fI (n:=y) hB;rw[Nat.pow_add];exact Nat.mul_lt_mul'' h1 h2
theorem Cd{B:Nat}(hB:2<=B)(x y:Nat):(dg B (x-y)).length<=(dg B x).length:=cU hB (Nat.sub_le _ _)
theorem xC{B:Nat}(hB:2<=B)(x y:Nat):(dg B (x/y)).length<=(dg B x).length:=cU hB (aAu _ _)
theorem CN{B:Nat}(hB:2<=B)(x y:Nat):(dg B (x%y)).length<=(dg B x).length:=cU hB (Nat.mod_le _ _)
theorem CP{B:Nat}(hB:2<=B)(x y:Nat):(dg B (Nat.gcd x y)).length<=max (dg B x).length (dg B y).length:=by
 rcases ZF x with rfl|h
 .rw[Nat.gcd_zero_left];omega
 .have:=cU hB (Nat.gcd_le_left y h);omega
theorem wO{B n:Nat}(hB:2<=B)(h:n<B):(dg B n).length<=1:=fT hB (by rw[Nat.pow_one];exact h)
theorem LW{B n:Nat}(hB:2<=B)(h:n<B*B):(dg B n).length<=2:=fT hB (by rw[Nat.pow_two];exact h)
theorem HN(n:Nat):(dg 10000 n).length<=3*nW n:=by
 refine fT om (Z3 (fI Yf) ?_);rw[Nat.pow_mul];exact Nat.pow_le_pow_left H' _
def bA(l:List Nat):List AV:=l.map λ(d:Nat)=>.int .u32 (d:Int)
def bX(l:List Nat):List AV:=l.map λ(d:Nat)=>.int .i64 (d:Int)
theorem aT(l:List Nat):(bA l).length=l.length:=by simp[bA]
theorem aV(l:List Nat):(bX l).length=l.length:=by simp[bX]
theorem aO(l:List Nat):jR (bA l):=λa ha=>by
 obtain⟨n,_,rfl⟩:=ZW.1 ha;exact .int _ _
theorem fG(l:List Nat):jR (bX l):=λa ha=>by
 obtain⟨n,_,rfl⟩:=ZW.1 ha;exact .int _ _
theorem Hd(l:List Nat)(i:Nat):(bA l)[i]? = (l[i]?).map λ(d:Nat)=>AV.int .u32 (d:Int):=by rw[bA,Zx]
theorem Oq(l:List Nat)(i:Nat):(bX l)[i]? = (l[i]?).map λ(d:Nat)=>AV.int .i64 (d:Int):=by rw[bX,Zx]
theorem iU(l:List Nat)(i d:Nat):(bA l).set i (.int .u32 (d:Int))=bA (l.set i d):=by unfold bA;rw[aA7]
theorem Dp(l:List Nat)(i d:Nat):(bX l).set i (.int .i64 (d:Int))=bX (l.set i d):=by unfold bX;rw[aA7]
theorem Ht(l m:List Nat):bA (l++m)=bA l++bA m:=by simp[bA]
theorem PR(l m:List Nat):bX (l++m)=bX l++bX m:=by simp[bX]
theorem yT(n:Nat):bA (List.replicate n 0)=List.replicate n (.int .u32 0):=by simp[bA]
theorem Cl(n:Nat):bX (List.replicate n 0)=List.replicate n (.int .i64 0):=by simp[bX]
def gC(z:Int):AV:=.agg [.bool (decide (z<0)),.il 1 (bA (dg 4294967296 z.natAbs))]
def fW(z:Int):AV:=.agg [.bool (decide (z<0)),.il 1 (bX (dg 10000 z.natAbs))]
theorem CR(z:Int):NN (gC z):=.agg' (.cons (.bool _) (.cons (.il' (aO _)) .nil))
theorem tC(z:Int):NN (fW z):=.agg' (.cons (.bool _) (.cons (.il' (fG _)) .nil))
theorem H1(n:Int):IntKind.u32.wrap n=n%4294967296:=by
 unfold IntKind.wrap;simp[IntKind.bits,IntKind.signed]
def dY(s:List Nat)(n:Nat):List Nat:=s++List.replicate (n-s.length) 0
theorem iH{s:List Nat}{n:Nat}(h:s.length<=n):(dY s n).length=n:=by simp[dY];omega
theorem QC{s:List Nat}{n:Nat}(h:s.length<n):(dY s n)[s.length]? = some 0:=by
 unfold dY;rw[ZS (ZA _),aAo,aAr,Y7 om]
theorem OE{s:List Nat}{n d:Nat}(h:s.length<n):(dY s n).set s.length d=dY (s++[d]) n:=by
 unfold dY;obtain⟨m,hm⟩:∃m,n-s.length=m+1:=⟨n-s.length-1,om⟩
 rw[Z2 _ _ (ZA _),aAo,hm,Zz,aAJ,ZB,ZY,show n-(s.length+1)=m by omega];simp
theorem AH(B n:Nat):vl B (List.replicate n 0)=0:=by
 induction n with
 | zero=>rfl
 | succ n ih=>rw[Zz,vl,ih];simp
theorem Ce(B:Nat)(s:List Nat)(n:Nat):vl B (dY s n)=vl B s:=by unfold dY;rw[jI,AH];simp
def q6:Nat:=2 ^ 16384
theorem UA{n m k:Nat}(h:q6=2 ^ n)(e:n=m*k):q6=(2 ^ m) ^ k:=by rw[h,e,Nat.pow_mul]
theorem G1:q6=2 ^ 16384:=by delta q6;exact Eq.refl _
theorem MT{k:Nat}(hk:16384=32*k):q6=(2 ^ 32) ^ k:=UA G1 hk
theorem Qq:10000 ^ 1229<=q6:=by unfold q6;decide +kernel
theorem SZ:q6<=10 ^ 4933:=by unfold q6;decide +kernel
def eY(z:Int):Bool:=decide (z.natAbs<q6)
theorem VD{z:Int}{n:Nat}(h:q6=(2 ^ 32) ^ n):eY z=decide (nW z.natAbs<=n):=by
 unfold eY;rw[Zg,h,show (2:Nat) ^ 32=4294967296 from rfl];exact(J5 Yf).symm
theorem S9{z:Int}{k:Nat}(hk:16384=32*k):eY z=decide (nW z.natAbs<=k):=VD (MT hk)
theorem Cj{z:Int}:eY z=decide (nW z.natAbs<=512):=S9 rfl
theorem v8{z:Int}(h:eY z=true):nW z.natAbs<=512:=by rw[Cj] at h;simpa using h
theorem Uq{z:Int}{n:Nat}(hn:10000 ^ n<=q6)(h:(dg 10000 z.natAbs).length<=n):eY z=true:=by
 unfold eY;have h1:=fI (B:=10000) (n:=z.natAbs) om;have h2:10000 ^ (dg 10000 z.natAbs).length<=10000 ^ n:=Zo om h;exact Y8 (Z3 h1 (Zk h2 hn))
theorem Kx{z:Int}(h:(dg 10000 z.natAbs).length<1230):eY z=true:=Uq Qq (Nat.le_of_lt_succ h)
structure Fr where
 p:Int
 q:Nat
def Fr.den(a:Fr):Nat:=if a.q=0 then 1 else a.q
def mkF(p q:Int):Fr:=⟨(if q<0 then -p else p)/(Nat.gcd p.natAbs q.natAbs:Int),q.natAbs/Nat.gcd p.natAbs q.natAbs⟩
structure Can(a:Fr):Prop where
 pos:0<a.q
 cop:Nat.Coprime a.p.natAbs a.q
def zF:Fr:=⟨0,1⟩
def EX(a:Fr):Fr × Int:=if eY a.p=true/\eY a.q=true then(a,0) else(zF,4)
def p7(a b:Fr):Fr × Int:=EX (mkF (a.p*b.p) (a.q*b.q))
def CB(a b:Fr):Fr × Int:=if b.p=0 then(zF,1) else EX (mkF (a.p*b.q) (a.q*b.p))
def SC(a b:Fr):Fr × Int:=
 let g:=Nat.gcd a.q b.q
 let s:=b.q/g
 let q:=a.q/g
 if eY (a.p*s)=true/\eY (b.p*q)=true/\eY (q*b.q)=true/\eY (a.p*s+b.p*q)=true then(mkF (a.p*s+b.p*q) (q*b.q),0) else(zF,4)
def X5(a:Fr):Fr:=⟨-a.p,a.q⟩
def Io(a b:Fr):Fr × Int:=SC a (X5 b)
def UH(a b:Fr):Int:=fJ (a.p*b.q) (b.p*a.q)
def VX(a:Fr):Int:=fJ a.p 0
theorem oH(p:Int)(g:Nat)(h:(g:Nat) ∣ p.natAbs):(p/(g:Int)).natAbs=p.natAbs/g:=by
 obtain⟨k,hk⟩:=h;rcases ZF g with rfl|hg
 .simp at hk;subst hk;simp
 .rcases Int.natAbs_eq p with e|e
  .rw[e,hk,ZM,<-Int.natCast_ediv,ZM]
  .have:p=(g:Int)*(-(k:Int)):=by rw[e,hk,Int.natCast_mul,aBM]
   rw[hk,aAN _ hg,this,aAX _ om];simp
theorem Lb{p q:Int}(h:q≠0):Can (mkF p q):=by
 have hq:0<q.natAbs:=aBH.2 h;have hg:0<Nat.gcd p.natAbs q.natAbs:=aAp _ hq;refine⟨aB3 (Nat.gcd_le_right _ hq) hg, ?_⟩;unfold mkF;simp only;have e:(if q<0 then -p else p).natAbs=p.natAbs:=by split<;>simp
 rw[oH _ _ (by rw[e];exact aAM _ _),e];exact aBo hg
theorem O5{a:Fr}(h:Can a):mkF a.p a.q=a:=by
 unfold mkF;have e:Nat.gcd a.p.natAbs (a.q:Int).natAbs=1:=by rw[ZM];exact h.cop
 rw[e,Y3 om];simp
theorem NP{a b:Fr}(ha:Can a)(hb:Can b) :
  mkF (a.p*b.p) (a.q*b.q)=⟨(a.p/(Nat.gcd a.p.natAbs b.q:Int))*(b.p/(Nat.gcd b.p.natAbs a.q:Int)),(a.q/Nat.gcd b.p.natAbs a.q)*(b.q/Nat.gcd a.p.natAbs b.q)⟩:=by
 have hg:Nat.gcd (a.p*b.p).natAbs ((a.q:Int)*(b.q:Int)).natAbs=Nat.gcd a.p.natAbs b.q*Nat.gcd b.p.natAbs a.q:=by
  rw[aBt,aBt,ZM,ZM];exact Mj ha.cop hb.cop
 have g1:0<Nat.gcd a.p.natAbs b.q:=aAp _ hb.pos;have g2:0<Nat.gcd b.p.natAbs a.q:=aAp _ ha.pos;have d1:(Nat.gcd a.p.natAbs b.q:Int) ∣ a.p:=Int.ofNat_dvd_left.2 (aAM _ _);have d2:(Nat.gcd b.p.natAbs a.q:Int) ∣ b.p:=Int.ofNat_dvd_left.2 (aAM _ _);have d3:=aBn a.p.natAbs b.q;have d4:=aBn b.p.natAbs a.q;unfold mkF;rw[hg,Y3 (by have:=Int.mul_nonneg (show (0:Int)<=a.q by omega) (show (0:Int)<=b.q by omega);omega)];generalize Nat.gcd a.p.natAbs b.q=g at *;generalize Nat.gcd b.p.natAbs a.q=h at *;obtain⟨x,hx⟩:=d1;obtain⟨y,hy⟩:=d2;obtain⟨z,hz⟩:=d3;obtain⟨w,hw⟩:=d4;rw[hx,hy,hz,hw,aBt,ZM,ZM,aAX _ om,aAX _ om,aAN _ g1,aAN _ g2];congr 1
 .rw[show (g:Int)*x*((h:Int)*y)=((g*h:Nat):Int)*(x*y) by rw[Int.natCast_mul];simp only[Int.mul_assoc,Int.mul_left_comm]];exact aAX _ (by have:=aAK g1 g2;omega)
 .rw[show h*w*(g*z)=g*h*(w*z) by simp only[Nat.mul_assoc,aAF]];exact aAN _ (aAK g1 g2)
theorem oX(B:Nat)(l:List Nat)(i:Nat)(hi:i<=l.length):vl B l=vl B (l.take i)+B ^ i*vl B (l.drop i):=by
 conv=>lhs;rw[<-List.take_append_drop i l]
 rw[jI,ZQ,Z5 hi]
theorem S5{B:Nat}(hB:2<=B){l:List Nat}{n u u1 u2:Nat}(hl:l.length=n+3)(hd:∀d∈l,d<B)(h0:l[n]? = some u)(h1:l[n+1]? = some u1)(h2:l[n+2]? = some u2) :
  ((u2*B+u1)*B+u)*B ^ n<=vl B l/\vl B l<((u2*B+u1)*B+u+1)*B ^ n:=by
 have e:=oX B l n om;rw[dG h0,dG h1,dG h2,Zm om] at e;have hlt:=qN hB (l.take n) λd hm=>hd d (Ze hm)
 rw[ZQ,Z5 om] at hlt;have e2:u+B*(u1+B*(u2+B*vl B []))=(u2*B+u1)*B+u:=by
  simp only[vl,aAy,Zs,Nat.add_mul,Nat.mul_add,ZV,aAF,Nat.mul_assoc];omega
 rw[e2,ZV (B ^ n)] at e;rw[Nat.add_mul _ 1];omega
theorem RP{B:Nat}(hB:2<=B){l:List Nat}{n u u1:Nat}(hl:l.length=n+2)(hd:∀d∈l,d<B)(h0:l[n]? = some u)(h1:l[n+1]? = some u1) :
  (u1*B+u)*B ^ n<=vl B l/\vl B l<(u1*B+u+1)*B ^ n:=by
 have e:=oX B l n om;rw[dG h0,dG h1,Zm om] at e;have hlt:=qN hB (l.take n) λd hm=>hd d (Ze hm)
 rw[ZQ,Z5 om] at hlt;have e2:u+B*(u1+B*vl B [])=u1*B+u:=by
  simp only[vl,aAy,Zs,ZV];omega
 rw[e2,ZV (B ^ n)] at e;rw[Nat.add_mul _ 1];omega
theorem Jt{L r b U V:Nat}(hL:0<L)(h1:U*L<=r)(h2:r<(U+1)*L)(h3:V*L<=b)(h4:b<(V+1)*L)(hV:0<V):U/(V+1)<=r/b/\r/b<=U/V:=by
 have hb:0<b:=by
  have:1*L<=V*L:=ZI _ hV;omega
 constructor
 .rw[aBc hb];have e:=aBx U (V+1);have h5:U/(V+1)*b<=U/(V+1)*((V+1)*L):=Zq _ om;have h6:U/(V+1)*(V+1)*L<=U*L:=ZI _ e;rw[Nat.mul_assoc] at h6;omega
 .rw[aBc hV];have e:=aBx r b;have h5:r/b*(V*L)<=r/b*b:=Zq _ h3;have h6:r/b*V*L<(U+1)*L:=by rw[Nat.mul_assoc];omega
  have:=aAP h6;omega
theorem S4{r b B:Nat}(h:r<b*B):r/b<B:=by
 rcases ZF b with rfl|hb
 .simp at h
 .rw[aAx hb,ZV];exact h
theorem MQ{B b x V Q r:Nat}(hb:0<b)(h:V=Q*b+r)(hr:r<b)(hx:x<B) :
  x+B*V=((x+B*r)/b+B*Q)*b+(x+B*r)%b/\(x+B*r)%b<b/\x+B*r<b*B:=by
 have e:=aBf (x+B*r) b;refine⟨?_,Zr _ hb, ?_⟩
 .rw[h,Nat.add_mul,Nat.mul_add,ZV ((x+B*r)/b) b,Nat.mul_assoc];omega
 .have:(r+1)*B<=b*B:=ZI _ hr;rw[Nat.add_mul,Z6,ZV r B] at this;omega
theorem Q6{B p q x y V:Nat}(hpq:p*q=B)(hp:0<p):((x*p)%B+y)+B*(V*p+x/q)=(x+B*V)*p+y:=by
 have h1:x*p/B=x/q:=by rw[<-hpq,ZV x p,Nat.mul_div_mul_left _ _ hp]
 have e:=aA2 (x*p) B;rw[h1] at e;rw[Nat.add_mul,Nat.mul_add,Nat.mul_assoc];omega
theorem IL{B p q x y:Nat}(hpq:p*q=B)(hp:0<p)(hq:0<q)(hy:y<B):(x*p)%B+y/q<B/\p ∣ (x*p)%B/\y/q<p:=by
 have h1:y/q<p:=by rw[aAx hq];omega
 have h2:p ∣ (x*p)%B:=(Nat.dvd_mod_iff ⟨q,hpq.symm⟩).2 ⟨x,ZV _ _⟩;refine⟨?_,h2,h1⟩;obtain⟨k,hk⟩:=h2;have h3:(x*p)%B<B:=Zr _ (by rw[<-hpq];exact aAK hp hq);rw[hk,<-hpq] at h3 |-;have h4:k<q:=aBe h3;have h5:p*(k+1)<=p*q:=Zq _ h4;rw[Nat.mul_add,aAL] at h5;omega
theorem Nv{B p q x Y y:Nat}(hpq:p*q=B)(hp:0<p)(hy:Y%B=y):(x+B*Y)/p=(x/p+(y*q)%B)+B*(Y/p):=by
 have hB:B=q*p:=by rw[<-hpq,ZV]
 have e1:(x+B*Y)/p=x/p+q*Y:=by
  rw[hB,ZV q p,Nat.mul_assoc,Nat.add_mul_div_left _ _ hp]
 have e2:q*Y=(y*q)%B+B*(Y/p):=by
  rw[<-hy];have h1:=aA2 Y p;have h2:q*Y=q*(Y%p)+B*(Y/p):=by
   conv=>lhs;rw[<-h1]
   rw[Nat.mul_add,<-Nat.mul_assoc,<-hB]
  have h3:Y%B*q%B=q*(Y%p):=by
   rw[ZV _ q,hB,Nat.mul_mod_mul_left];congr 1;rw[<-hB,<-hpq];exact Nat.mod_mul_right_mod Y p q
  rw[h3,h2]
 rw[e1,e2];omega
theorem Jy{x y k:Nat}(h1:2 ^ k ∣ x)(h2:y<2 ^ k):x ||| y=x+y:=by
 obtain⟨a,rfl⟩:=h1;rw[ZV,<-Nat.shiftLeft_eq,<-Nat.shiftLeft_add_eq_or_of_lt h2]
theorem BJ{k n:Nat}(h:k<=n):2 ^ k*2 ^ (n-k)=2 ^ n:=by rw[<-Nat.pow_add];congr 1;omega
end Go.Ax
namespace Go.Ax
section
variable {hit miss up lo low claim:Rat}
end
end Go.Ax
namespace Go.Ax
open Go
def S1(a:Fr):Rat:=(a.p:Rat)/((a.q:Int):Rat)
structure Sz(n:Nat)(a:Fr):Prop where
 num:a.p.natAbs<=2 ^ n
 pos:0<a.q
 den:a.q<=2 ^ n
theorem RR(p q:Int):(mkF p q).p.natAbs<=p.natAbs:=by
 unfold mkF;simp only;have e:(if q<0 then -p else p).natAbs=p.natAbs:=by split<;>simp
 rw[oH _ _ (by rw[e];exact aAM _ _),e];exact aAu _ _
theorem SL(p q:Int):(mkF p q).q<=q.natAbs:=by
 unfold mkF;exact aAu _ _
theorem Sz.mono{n m:Nat}{a:Fr}(h:Sz n a)(hm:n<=m):Sz m a:=
 ⟨Zk h.num (Zo om hm),h.pos,Zk h.den (Zo om hm)⟩
def Bb:Fr:=⟨1,1⟩
structure W3 where
 hit:Fr
 miss:Fr
 upper:Fr
 lower:Fr
 ratio:Fr
 verdict:Nat
 runs:Nat
 hits:Nat
def Xw(claim low alpha beta:Fr):Option W3 × Int:=
 if VX low<=0\/0<=UH low claim\/0<UH claim Bb\/VX alpha<=0\/VX beta<=0 then(none,1)
 else if (SC alpha beta).2≠0 then(none,(SC alpha beta).2)
 else if 0<=UH (SC alpha beta).1 Bb then(none,1)
 else
  let a:=Io Bb beta
  let b:=Io Bb alpha
  let c:=Io Bb claim
  let d:=Io Bb low
  if a.2≠0\/b.2≠0\/c.2≠0\/d.2≠0\/(CB a.1 alpha).2≠0\/(CB beta b.1).2≠0\/(CB claim low).2≠0\/(CB c.1 d.1).2≠0 then(none,4)
  else(some ⟨(CB claim low).1,(CB c.1 d.1).1,(CB a.1 alpha).1,(CB beta b.1).1,Bb,0,0,0⟩,0)
structure WV(n:Nat)(t:W3):Prop where
 hit:Sz 12 t.hit
 miss:Sz 12 t.miss
 up:0<t.upper.q
 lo:0<t.lower.q
 ratio:Sz n t.ratio
structure Yq(claim low alpha beta:Rat)(T:W3):Prop where
 sz:WV 0 T
 ver:T.verdict=0
 rat:T.ratio=Bb
 low0:0<low
 lowc:low<claim
 clm:claim<=1
 alp:0<alpha
 bet:0<beta
 sum:alpha+beta<1
 hit:S1 T.hit*low=claim
 miss:S1 T.miss*(1-low)=1-claim
 up:S1 T.upper*alpha=1-beta
 lo:S1 T.lower*(1-alpha)=beta
structure YX(t c:W3):Prop where
 hit:t.hit=c.hit
 miss:t.miss=c.miss
 up:t.upper=c.upper
 lo:t.lower=c.lower
end Go.Ax
namespace Go.Ax
open Go
theorem QS{z:Int}(h:eY z=true):(tX z).length<=4934:=by
 unfold eY at h;have h1:z.natAbs<q6:=su h
 have h2:=pM 4933 z.natAbs (Z3 h1 SZ) om;unfold tX Lib.itoa;split
 .simp;omega
 .rw[show z.toNat=z.natAbs by omega];omega
end Go.Ax
namespace Go.Ax
open Go
abbrev Rd:=List UInt8 × Int
theorem Ja{n:Int}(h0:0<=n)(h1:n<18446744073709551616):IntKind.u64.wrap n=n:=by
 unfold IntKind.wrap;have e:(2 ^ IntKind.u64.bits:Int)=18446744073709551616:=H'
 have s:IntKind.u64.signed=false:=rfl;simp only[e,s,aBG];exact Int.emod_eq_of_lt h0 h1
theorem kA(n:Int):IntKind.u64.wrap n=n%18446744073709551616:=by
 unfold IntKind.wrap;have e:(2 ^ IntKind.u64.bits:Int)=18446744073709551616:=H'
 have s:IntKind.u64.signed=false:=rfl;simp only[e,s,aBG];rfl
theorem Hh(n:Int):IntKind.u8.wrap n=n%256:=by
 unfold IntKind.wrap;have e:(2 ^ IntKind.u8.bits:Int)=256:=H'
 have s:IntKind.u8.signed=false:=rfl;simp only[e,s,aBG];rfl
theorem PF:(2:Nat) ^ 64=18446744073709551616:=H'
theorem Xe(a:Nat):(BitVec.ofInt 64 (a:Int)).toNat=a%18446744073709551616:=by
 rw[BitVec.ofInt_natCast,BitVec.toNat_ofNat]
theorem Re{a b:Nat}(ha:a<18446744073709551616)(hb:b<18446744073709551616):a ||| b<18446744073709551616:=by
 have:=Nat.or_lt_two_pow (n:=64) (x:=a) (y:=b) (by rw[PF];exact ha) (by rw[PF];exact hb)
 rwa [PF] at this
theorem Rv{a b:Nat}(ha:a<18446744073709551616)(hb:b<18446744073709551616):bits .or .u64 (a:Int) (b:Int)=((a ||| b:Nat):Int):=by
 show IntKind.u64.wrap ((BitVec.ofInt 64 (a:Int) ||| BitVec.ofInt 64 (b:Int)).toNat:Int)=_
 rw[BitVec.toNat_or,Xe,Xe,Zt ha,Zt hb,Ja om (by have:=Re ha hb;omega)]
theorem VA(n:Nat):IntKind.u32.wrap (n:Int)=((n%4294967296:Nat):Int):=by
 rw[H1,Int.natCast_emod];rfl
theorem JP{n:Nat}(h:n<4294967296):IntKind.u32.wrap (n:Int)=(n:Int):=by rw[VA,Zt h]
theorem iT{n:Nat}(h:n<18446744073709551616):IntKind.u64.wrap (n:Int)=(n:Int):=Ja om om
theorem DF:(2:Nat) ^ 32=4294967296:=H'
theorem Ez{a b:Nat}(ha:a<4294967296)(hb:b<4294967296):bits .or .u32 (a:Int) (b:Int)=((a ||| b:Nat):Int):=by
 show IntKind.u32.wrap ((BitVec.ofInt 32 (a:Int) ||| BitVec.ofInt 32 (b:Int)).toNat:Int)=_
 have h:a ||| b<4294967296:=by
  have:=Nat.or_lt_two_pow (n:=32) (x:=a) (y:=b) (by rw[DF];exact ha) (by rw[DF];exact hb)
  rwa [DF] at this
 rw[BitVec.toNat_or,BitVec.ofInt_natCast,BitVec.ofInt_natCast,BitVec.toNat_ofNat,BitVec.toNat_ofNat,DF,Zt ha,Zt hb,JP h]
theorem bits_mask{a:Nat}(ha:a<18446744073709551616):bits .and .u64 (a:Int) 4294967295=((a%4294967296:Nat):Int):=by
 show IntKind.u64.wrap ((BitVec.ofInt 64 (a:Int) &&& BitVec.ofInt 64 ((4294967295:Nat):Int)).toNat:Int)=_
 rw[BitVec.toNat_and,Xe,Xe,Zt ha,Zt om,show (4294967295:Nat)=2 ^ 32-1 by decide,Nat.and_two_pow_sub_one_eq_mod,DF];exact iT (by have:=Zr a (show 0<4294967296 by decide);omega)
theorem Ke{a b:Nat}(ha:a<4294967296)(hb:b<4294967296):bits .or .u64 (IntKind.u64.wrap ((a:Int)*2 ^ 32)) (b:Int)=((a*4294967296+b:Nat):Int):=by
 rw[show (a:Int)*2 ^ 32=((a*4294967296:Nat):Int) by rw[Int.natCast_mul];rfl,iT om,Rv om om];congr 1;exact Jy (k:=32) ⟨a,by rw[DF,ZV]⟩ (by rw[DF];exact hb)
theorem Jb(a b:Nat):((a:Int).fdiv (b:Int))=((a/b:Nat):Int):=by
 rw[aBX _ om];rfl
theorem kJ(a b:Nat):((a:Int).tdiv (b:Int))=((a/b:Nat):Int):=by
 rw[aAB om];rfl
theorem n6(a b:Nat):((a:Int).tmod (b:Int))=((a%b:Nat):Int):=by
 rw[Int.tmod_eq_emod_of_nonneg om];rfl
theorem B8{a:Nat}:((a:Int).fdiv (2 ^ 32))=((a/4294967296:Nat):Int):=Jb a 4294967296
theorem tJ(d:Nat):∀l:List Nat,eB (l++[d])=if d=0 then eB l else l++[d]
 | []=>by
  simp only[Zp,eB];by_cases h:d=0<;>simp[h]
 | a::r=>by
  rw[Z0,eB,tJ d r,eB];by_cases h:d=0
  .simp[h]
  .simp[h]
def sg(neg:Bool)(n:Nat):Int:=if neg then -(n:Int) else n
theorem Du(neg:Bool)(n:Nat):(sg neg n).natAbs=n:=by unfold sg;split<;>simp
theorem OZ(neg:Bool)(n:Nat):decide (sg neg n<0)=(neg && decide (0<n)):=by
 cases neg<;>simp[sg]
theorem Hs(z:Int):sg (decide (z<0)) z.natAbs=z:=by
 unfold sg;split
 .rename_i h;have:=Zf h;omega
 .rename_i h;have:¬z<0:=λx=>h (Y8 x);omega
theorem fL{B n:Nat}(hB:2<=B):decide (0<(dg B n).length)=decide (0<n):=by
 rw[Zg];constructor
 .intro h;rcases ZF n with rfl|h2
  .rw[eA] at h;simp at h
  .exact h2
 .intro h;rw[kV hB h];simp
theorem Un{B:Nat}(hB:2<=B){N:List Nat}{j V n:Nat}(hN:∀d∈N,d<B)(hj:j+(n+3)<=N.length)(hV:V<B ^ (n+2))(h:vl B N<V*B ^ (j+1)) :
  vl B N=vl B (N.take j)+B ^ j*vl B ((N.drop j).take (n+3))/\vl B (N.drop (j+(n+3)))=0/\vl B ((N.drop j).take (n+3))<V*B:=by
 have e1:=oX B N j om;have e2:=oX B (N.drop j) (n+3) (by rw[aAg];omega);rw[List.drop_drop] at e2;have hz:vl B (N.drop (j+(n+3)))=0:=by
  rcases ZF (vl B (N.drop (j+(n+3)))) with e|e
  .exact e
  .exfalso;have h1:B ^ j*(B ^ (n+3)*1)<=B ^ j*(B ^ (n+3)*vl B (N.drop (j+(n+3)))):=Zq _ (Zq _ e);have h2:V*B ^ (j+1)<B ^ (n+2)*B ^ (j+1):=aA8 hV (aAq om);have h3:B ^ (n+2)*B ^ (j+1)=B ^ j*(B ^ (n+3)*1):=by rw[aAL,<-Nat.pow_add,<-Nat.pow_add];congr 1;omega
   rw[e2,Nat.mul_add] at e1;generalize B ^ j*(B ^ (n+3)*1)=P at *;generalize V*B ^ (j+1)=Q at *;generalize B ^ (n+2)*B ^ (j+1)=R at *;omega
 rw[hz,aAy,Zs] at e2;refine⟨by rw[<-e2];exact e1,hz, ?_⟩;have h4:B ^ j*vl B ((N.drop j).take (n+3))<B ^ j*(V*B):=by
  rw[<-e2];have:V*B ^ (j+1)=B ^ j*(V*B):=by rw[Nat.pow_succ];ac_rfl
  rw[<-this];generalize V*B ^ (j+1)=Q at *;omega
 exact aBe h4
theorem Mr{n lead next V:Nat}(h1:2147483648*4294967296 ^ (n+1)<=V)(h2:V<(lead*4294967296+next+1)*4294967296 ^ n)(hn:next<4294967296):4294967296<=2*lead:=by
 have h3:(lead*4294967296+next+1)*4294967296 ^ n<=((lead+1)*4294967296)*4294967296 ^ n:=ZI _ om;have h4:2147483648*4294967296*4294967296 ^ n<(lead+1)*4294967296*4294967296 ^ n:=by
  rw[Nat.pow_succ,ZV (4294967296 ^ n),<-Nat.mul_assoc] at h1;exact aAc h1 (Z3 h2 h3)
 have h5:=aAP h4;omega
theorem RO{B:Nat}(hB:2<=B){N S:List Nat}{j n V U Q X:Nat}(hN:∀d∈N,d<B)(hj:j+(n+3)<=N.length)(hS:S.length=n+3)(hSv:vl B S=U%V)(hV0:0<V)
  (e:vl B N=vl B (N.take j)+B ^ j*U) (hz:vl B (N.drop (j+(n+3)))=0) (hX:Q*B ^ (j+1)*V+vl B N=X) :
  (U/V+B*Q)*B ^ j*V+vl B (N.take j++(S++N.drop (j+S.length)))=X/\vl B (N.take j++(S++N.drop (j+S.length)))<V*B ^ j:=by
 have hl:(N.take j).length=j:=cx
 have hv:vl B (N.take j++(S++N.drop (j+S.length)))=vl B (N.take j)+B ^ j*(U%V):=by
  rw[jI,jI,hl,hS,hz,hSv,aAy,Zs]
 have hlt:=qN hB (N.take j) λd hm=>hN d (Ze hm)
 rw[hl] at hlt;rw[hv];constructor
 .have hd:=aBf U V;have h1:B ^ j*U=B ^ j*(V*(U/V))+B ^ j*(U%V):=by rw[<-Nat.mul_add,hd]
  have h2:Q*B ^ (j+1)*V=B*Q*B ^ j*V:=by rw[Nat.pow_succ];ac_rfl
  have h3:(U/V)*B ^ j*V=B ^ j*(V*(U/V)):=by ac_rfl
  rw[Nat.add_mul,Nat.add_mul,h3,<-h2,<-hX,e,h1];omega
 .have h1:U%V+1<=V:=Zr U hV0;have h2:B ^ j*(U%V+1)<=B ^ j*V:=Zq _ h1;rw[Nat.mul_add,aAL,ZV (B ^ j) V] at h2;omega
theorem Kw{x y p:Nat}(hp:0<p)(Q R:Nat)(h:Q*(y*p)+R=x*p)(hR:R<y*p):x/y=Q/\R/p=x%y:=by
 have hy:0<y:=by
  rcases ZF y with e|e
  .rw[e,aBS] at hR;omega
  .exact e
 have h1:p ∣ R:=by
  have:R=x*p-Q*(y*p):=om;rw[this,<-Nat.mul_assoc,<-Nat.sub_mul];exact Nat.dvd_mul_left _ _
 obtain⟨r,rfl⟩:=h1;have h2:Q*y+r=x:=by
  have:(Q*y+r)*p=x*p:=by rw[Nat.add_mul,<-h,Nat.mul_assoc,ZV r p]
  exact Nat.eq_of_mul_eq_mul_right hp this
 have h3:r<y:=by
  rw[ZV y p] at hR;exact aBe hR
 rw[aAN _ hp,<-h2,ZV Q y];constructor
 .rw[Nat.mul_add_div hy,aAh h3];rfl
 .rw[aCa,Zt h3]
def dF(n:Nat):List (List UInt8):=
 if n=0 then [] else(if n/1000000000=0 then Lib.decDigits n else xF 9 (n%1000000000))::dF (n/1000000000)
termination_by n
decreasing_by omega
theorem nY:dF 0=[]:=by rw[dF];rfl
theorem mZ{n:Nat}(h:0<n):dF n=(if n/1000000000=0 then Lib.decDigits n else xF 9 (n%1000000000))::dF (n/1000000000):=by
 rw[dF,Y3 om]
theorem B2:∀(f n:Nat),n<f->0<n->(dF n).reverse.flatten=Lib.decDigits n
 | 0,n,h,_=>om
 | f+1,n,h,h0=>by
  rw[mZ h0];rcases ZF (n/1000000000) with e|e
  .rw[Y7 e,e,nY];simp
  .rw[Y3 om,aAY,aBQ,B2 f (n/1000000000) om e];have:=zD 9 (n/1000000000) (n%1000000000) e (Zr _ H');rw[show (10:Nat) ^ 9=1000000000 by decide,aA2] at this;rw[this];simp
theorem Di:∀(f n:Nat),n<f->∀t∈dF n,t.length<=9
 | 0,n,h=>om
 | f+1,n,h=>by
  intro t ht;rcases ZF n with rfl|h0
  .rw[nY] at ht;cases ht
  rw[mZ h0] at ht;rcases ZC.1 ht with rfl|ht
  .split
   .rename_i e;exact pM 9 n (by rw[show (10:Nat) ^ 9=1000000000 by decide];omega) H'
   .rw[uJ];omega
  .exact Di f (n/1000000000) om t ht
theorem HS(f n:Nat)(k:Nat):n<f->n<1000000000 ^ k->(dF n).length<=k:=by
 induction k generalizing n f with
 | zero=>intro _ h;simp at h;subst h;rw[nY];simp
 | succ k ih=>
  intro hf h;rcases ZF n with rfl|h0
  .rw[nY];simp
  rw[mZ h0];have:=ih f (n/1000000000) om (by
   rw[Nat.pow_succ] at h;exact Nat.div_lt_of_lt_mul (by rw[ZV];exact h))
  simp;omega
def zS(l:List Nat)(i:Int):Nat:=if i<0 then 0 else l.getD i.toNat 0
theorem K7(l:List Nat)(i:Nat):zS l (i:Int)=l.getD i 0:=by unfold zS;rw[Y3 om];simp
theorem PM{l:List Nat}{B:Nat}(hB:0<B)(h:∀d∈l,d<B)(i:Int):zS l i<B:=by
 unfold zS;split
 .exact hB
 .rw[Y0];cases hg:l[i.toNat]? with
  | none=>simpa using hB
  | some d=>exact h _ (Y5 hg)
def K3(r b:List Nat):Nat:=10000*(10000*zS r b.length+zS r ((b.length:Int)-1))+zS r ((b.length:Int)-2)
def HU(b:List Nat):Nat:=10000*zS b ((b.length:Int)-1)+zS b ((b.length:Int)-2)
theorem sG{l:List Nat}{i:Nat}{j:Int}(hj:j=(i:Int)):zS l j=l.getD i 0:=by rw[hj,K7]
theorem nX(B:Nat):∀(l:List Nat) (n:Nat),vl B (l.drop n)=l.getD n 0+B*vl B (l.drop (n+1))
 | [],n=>by simp[vl]
 | a::r,0=>by simp[vl]
 | a::r,n+1=>by simpa using nX B r n
theorem uA(B:Nat)(l:List Nat)(n:Nat):vl B l=vl B (l.take n)+B ^ n*vl B (l.drop n):=by
 rcases ZL n l.length with h|h
 .exact oX B l n (aAE h)
 .rw[ZD h,Zm h];simp[vl]
theorem yM{B:Nat}(hB:2<=B){l:List Nat}(h:∀d∈l,d<B)(n:Nat):vl B (l.take n)<B ^ n:=by
 have:=qN hB (l.take n) λd hm=>h d (Ze hm)
 refine Z3 this (Zo om ?_);rw[ZQ];omega
theorem Ru{r b:List Nat}(hr:∀d∈r,d<10000)(hb:∀d∈b,d<10000)(hk:0<b.length)(htop:0<zS b ((b.length:Int)-1))(hrl:r.length<=b.length+1) :
  0<HU b/\K3 r b/(HU b+1)<=vl 10000 r/vl 10000 b/\vl 10000 r/vl 10000 b<=K3 r b/HU b:=by
 have hB:(2:Nat)<=10000:=H'
 have hL:0<HU b:=by unfold HU;omega
 refine⟨hL, ?_⟩;obtain⟨k,hk1⟩:∃k,b.length=k+1:=⟨b.length-1,om⟩
 cases k with
 | zero=>
  have e1:K3 r b=10000*vl 10000 r:=by
   have h0:=nX 10000 r 0;have h1:=nX 10000 r 1;have h2:r.drop (1+1)=[]:=Zm om;rw[h2] at h1;simp only[ZT,ZP] at h0;unfold K3;rw[hk1,sG (i:=1) rfl,sG (i:=0) om,show zS r (((0+1:Nat):Int)-2)=0 by unfold zS;rw[Y7 om]];simp only[vl] at h1;omega
  have e2:HU b=10000*vl 10000 b:=by
   have h0:=nX 10000 b 0;have h2:b.drop (0+1)=[]:=Zm om;rw[h2] at h0;simp only[ZT,ZP,vl] at h0;unfold HU;rw[hk1,sG (i:=0) om,show zS b (((0+1:Nat):Int)-2)=0 by unfold zS;rw[Y7 om]];omega
  have hv:0<vl 10000 b:=om;rw[e1,e2];refine⟨?_, ?_⟩
  .rw[aBc hv];have h1:=aBx (10000*vl 10000 r) (10000*vl 10000 b+1);generalize 10000*vl 10000 r/(10000*vl 10000 b+1)=q at *;rw[Nat.mul_add,aAF] at h1;omega
  .rw[Nat.mul_div_mul_left _ _ om];exact ZA _
 | succ k=>
  have sr:=uA 10000 r k;have sb:=uA 10000 b k;have lr:=yM hB hr k;have lb:=yM hB hb k;have er:vl 10000 (r.drop k)=K3 r b:=by
   rw[nX,nX,nX,Zm om];unfold K3;rw[hk1,sG (i:=k+1+1) om,sG (i:=k+1) om,sG (i:=k) om];simp only[vl];omega
  have eb:vl 10000 (b.drop k)=HU b:=by
   rw[nX,nX,Zm om];unfold HU;rw[hk1,sG (i:=k+1) om,sG (i:=k) om];simp only[vl];omega
  rw[er,ZV] at sr;rw[eb,ZV] at sb;refine Jt (L:=10000 ^ k) (aAq om) om (by rw[Nat.add_mul,Z6];omega) om (by rw[Nat.add_mul,Z6];omega) hL
def G2(r b:List Nat):Nat × Nat:=if r.length<b.length\/b.length=0 then(0,0) else(min 9999 (K3 r b/(HU b+1)),min 9999 (K3 r b/HU b))
theorem QA{B n:Nat}(hB:2<=B)(hn:0<n):0<zS (dg B n) (((dg B n).length:Int)-1):=by
 have hl:0<(dg B n).length:=by rw[kV hB hn];simp
 obtain⟨k,hk⟩:∃k,(dg B n).length=k+1:=⟨(dg B n).length-1,om⟩
 rw[hk,sG (i:=k) om];have h1:=En hB n hn;rw[hk] at h1;have h2:=uA B (dg B n) k;rw[fM hB,nX,Zm om] at h2;have h3:=yM hB (eJ hB n) k;simp only[vl,aAy,Zs,aAV] at h1 h2;rcases ZF ((dg B n).getD k 0) with e|e
 .rw[e,aAy] at h2;omega
 .exact e
theorem Qw{x y:Nat}(hy:0<y)(hx:x<y*10000):(G2 (dg 10000 x) (dg 10000 y)).1<=x/y/\x/y<=(G2 (dg 10000 x) (dg 10000 y)).2/\(G2 (dg 10000 x) (dg 10000 y)).2<=9999:=by
 have hB:(2:Nat)<=10000:=H'
 have hl:0<(dg 10000 y).length:=by rw[kV hB hy];simp
 have hq:x/y<10000:=by rw[aAx hy,ZV];exact hx
 unfold G2;by_cases h:(dg 10000 x).length<(dg 10000 y).length\/(dg 10000 y).length=0
 .rw[Y7 h];have hlt:x<y:=o6 hB om;rw[aAh hlt];simp
 .rw[Y3 h];have hrl:(dg 10000 x).length<=(dg 10000 y).length+1:=by
   refine fT hB ?_;have:=fI (n:=y) hB;rw[Nat.pow_succ];exact Z3 hx (ZI _ (aAE this))
  obtain⟨h1,h2,h3⟩:=Ru (eJ hB x) (eJ hB y) hl (QA hB hy) hrl;rw[fM hB,fM hB] at h2 h3;simp only;omega
def rU(J:List (Nat × Nat))(ns nx n':Nat):List (Nat × Nat)->Bool
 | []=>true
 | (i,id)::r=>(match Nat.blt i ns with
   | true=>match lk J id with
    | some j=>Nat.beq j i
    | none=>false
   | false=>Nat.ble nx id && Nat.blt id n') && rU J ns nx n' r
def lY(ids:List Nat)(nx:Nat):aR->Bool
 | []=>true
 | (k,_)::r=>(match Nat.ble nx k with
   | true=>true
   | false=>CG k ids) && lY ids nx r
theorem qG{J:List (Nat × Nat)}{ns nx n':Nat}:∀{I:List (Nat × Nat)},rU J ns nx n' I=true->∀p∈I,(p.1<ns/\lk J p.2=some p.1)\/(ns<=p.1/\nx<=p.2/\p.2<n')
 | [],_,p,hp=>by cases hp
 | (i,id)::r,h,p,hp=>by
  simp only[rU,Y6] at h;rcases ZC.1 hp with rfl|hp
  .have h1:=h.1;split at h1
   .rename_i hb;split at h1
    .rename_i j hj;exact .inl ⟨Y9 hb,by rw[hj,Nat.eq_of_beq_eq_true h1]⟩
    .cases h1
   .rename_i hb;simp only[Y6] at h1;refine .inr ⟨?_,Y9 h1.1,Y9 h1.2⟩;rcases ZL i ns with hl|hl
    .have e:Nat.blt i ns=true:=Y2 hl;rw[e] at hb;cases hb
    .exact hl
  .exact qG h.2 p hp
theorem sN:∀{m:aR} {ids:List Nat} {nx:Nat},lY ids nx m=true->∀p∈m,nx<=p.1\/CG p.1 ids=true
 | [],ids,nx,_,p,hp=>by cases hp
 | (k,b)::r,ids,nx,h,p,hp=>by
  simp only[lY,Y6] at h;rcases ZC.1 hp with rfl|hp
  .have h1:=h.1;split at h1
   .rename_i hb;exact .inl (Y9 hb)
   .exact .inr h1
  .exact sN h.2 p hp
theorem aJ.useN{P:Program}{C:List (Nat × AV)}{F:FuncId}{args args':List AV}{ms mem m1:aR}{ns nx:Nat}{Qs K:AV->aR->Nat->Prop}(hΓ:∀p∈C,NN p.2)(J:List (Nat × Nat))(h:aJ P C F args' ms ns Qs)
  (hp:mH (g8 J) mem=m1) (hargs:iS m1 J args args') (hM:cZ m1 J ms) (hc:(kZ ms && (lU J && qZ ns J))=true)
  (hk:∀r m n,Qs r m n->∃I r' m' n',Cv m I r r'/\cZ m I m'/\(kZ m' && (lU I && (Nat.ble nx n' && (lY (g8 J) nx m' && rU J ns nx n' I))))=true/\K r' (m'++gQ (g8 J) mem) n'):aJ P C F args mem nx K:=by
 simp only[Y6] at hc;obtain⟨hc1,hc2,hc4⟩:=hc;refine⟨λX D E w vs hD hm hv=>?_⟩;refine(aJ.use (K:=K) (nx:=nx) hΓ h J (m1:=m1) (rest:=gQ (g8 J) mem) ⟨λp hp'=>?_,λp hp'=>(dK.1 hp').1,λp hp'=>?_,λp h1 q h2=>?_, ?_⟩ ?_ hargs hM.cvm (eM hc1) (l7 hc2) (λid i hl=>mD hc4 _ (bR hl)) ?_).run X D E w vs hD hm hv
 .rw[<-hp] at hp';exact(eS.1 hp').1
 .cases hi:CG p.1 (g8 J) with
  | true=>left;rw[<-hp];exact eS.2 ⟨hp',hi⟩
  | false=>right;exact dK.2 ⟨hp',hi⟩
 .rw[<-hp] at h1;have a:=(eS.1 h1).2;have b:=(dK.1 h2).2;intro e;rw[e,b] at a;cases a
 .rw[<-hp];exact hm.nod.sublist ((nK mem).map _)
 .exact hm.nod.sublist ((nD mem).map _)
 .intro r m n hq hn;obtain⟨I,r',m',n',h1,h2,h3,h4⟩:=hk r m n hq;simp only[Y6] at h3;refine⟨I,r',m',n',Y9 h3.2.2.1,h1,h2.cvm,eM h3.1,l7 h3.2.1,λi id hl=>qG h3.2.2.2.2 _ (bR hl),λp h5 q h6=>?_,h4⟩;have b:=(dK.1 h6).2;rcases sN h3.2.2.2.1 p h5 with a|a
  .have:=hD _ (hm.low q (dK.1 h6).1);omega
  .intro e;rw[e,b] at a;cases a
theorem aJ.ph{P:Program}{C:List (Nat × AV)}{F:FuncId}{args:List AV}{mem:aR}{nx:Nat}{K:AV->aR->Nat->Prop}(t:TypeId)(sz:Nat)(h:aJ P C F args ((nx,.row t sz [])::mem) (nx+1) K):aJ P C F args mem nx K:=by
 refine⟨λX D E w vs hD hm hv=>?_⟩;obtain⟨m1,v1,e1⟩:=hm.phantom (n:=nx) (D':=dn D nx (nx+1)) (λh'=>aBh _ (hD _ h')) (λi hi=>.inl hi) (.inr ⟨ZA _,aAv _⟩) t sz;refine(h.run X _ _ w vs (λi hi=>?_) m1 ⟨hv.1,λj c x hc hx=>v1 _ _ (hv.2 j c x hc hx)⟩).mono ?_
 .rcases hi with hi|hi
  .have:=hD i hi;omega
  .exact hi.2
 .rintro e w' ⟨r,v,m,n,E',rfl,hk,hn,hm',hr,ext⟩;have ed:dn (dn D nx (nx+1)) (nx+1) n=dn D nx n:=by
   funext i
   apply propext;constructor
   .rintro((hi|⟨h1,h2⟩)|⟨h1,h2⟩)
    .exact .inl hi
    .exact .inr ⟨h1,om⟩
    .exact .inr ⟨om,h2⟩
   .rintro(hi|⟨h1,h2⟩)
    .exact .inl (.inl hi)
    .rcases ZL i (nx+1) with h3|h3
     .exact .inl (.inr ⟨h1,h3⟩)
     .exact .inr ⟨h3,h2⟩
  rw[ed] at hm' hr ext;refine⟨r,v,m,n,E',rfl,hk,om,hm',hr, ?_⟩;have e2:=e1 D λi hi=>hi
  exact e2.trans ⟨λi hi=>ext.le i (.inl hi),λi hi=>ext.agree i (.inl hi),ext.size,ext.keep,ext.fresh,ext.env⟩
end Go.Ax
namespace Go.Ax
open Go
section
variable {P:Program} {C:List (Nat × AV)} {B:Nat}
theorem PL{b:Bool}{c1 c2:Code}{s1 s2:St}{i:Nat}{y:Code}{Q:Exit->St->Prop}{G:Type}(hΓ:∀p∈C,NN p.2)(R:G->Prop)(af:G->St)
  (h1:∀Qr:Exit->St->Prop,(∀(a:G) (s:St) (J:List (Nat × Nat)),R a->Conv B J s (af a)->Qr .normal s)->Qc b (eQ P C B c1 s1 (CD i Qr)) (eQ P C B c2 s2 (CD i Qr)))
  (h2:∀a,R a->eQ P C B y (af a) Q):Qc b (eQ P C B c1 s1 (CD i (K1 P C B y Q))) (eQ P C B c2 s2 (CD i (K1 P C B y Q))):=by
 have h:=h1 (λe s=>match e with
  | .normal=>∃a J,R a/\Conv B J s (af a)
  | e=>Q e s) (λa s J hr hc=>⟨a,J,hr,hc⟩)
 have key:∀(e:Exit) (s:St),CD i (λe s=>match e with
  | .normal=>∃a J,R a/\Conv B J s (af a)
  | e=>Q e s) e s->CD i (K1 P C B y Q) e s:=by
  intro e s hq;have norm:(∃a J,R a/\Conv B J s (af a))->eQ P C B y s Q:=λ⟨a,J,hr,hc⟩=>eQ.conv hΓ hc (h2 a hr)
  cases e with
  | normal=>exact norm hq
  | exit j=>
   simp only[CD] at hq |-;split at hq
   .exact norm hq
   .exact hq
  | goto l=>exact hq
  | ret=>exact hq
  | panic c=>exact hq
  | outgrown=>exact hq
 cases b with
 | true=>exact eQ.mono (show eQ P C B c1 s1 _ from h) key
 | false=>exact eQ.mono (show eQ P C B c2 s2 _ from h) key
end
end Go.Ax
