/- A part of the proof. -/
import Derived.Test.YtnbkfjjdlofdpaaGreatDoorAx9
import Derived.Shelf.Small.Bits
import Derived.Shelf.Strconv.Itoa0
import Derived.Shelf.Strconv.Itoa1
import Derived.Shelf.LaysM
import Derived.Shelf.Strconv.Itoa2
import Derived.Shelf.Strconv.Itoa3
import Derived.Ground.SlsfProg
import Derived.Shelf.SlSortCmp.Insertion
import Derived.Test.YtnbkfjjdlofdpaaGreatDoorProg
import Derived.KernelRfl
set_option linter.unusedVariables false
set_option linter.unusedSimpArgs false
set_option linter.unusedSectionVars false
namespace Go.Proofs
open Go.Shelf
def Tryz.lays129_ren:Go.Shelf.Ren:=⟨fun|129=>60|n=>n,fun|53=>110|3=>3|4=>4|46=>87|5=>5|9=>9|n=>n,fun|n=>n⟩
theorem Tryz.lays129:Go.Proofs.Lays.n129 Tryz.prog Tryz.lays129_ren:={
 mixed:=by kernel_rfl
 f129:=Tryz.func60.trans (congrArg some (by kernel_rfl))
 t3:=Tryz.underlying3
 a3:=Tryz.isAgg3
 z3:=Tryz.sizeOf3
 v3:=Tryz.zeroValue3
 t4:=Tryz.underlying4
 a4:=Tryz.isAgg4
 z4:=Tryz.sizeOf4
 v4:=Tryz.zeroValue4
 t5:=Tryz.underlying5
 a5:=Tryz.isAgg5
 z5:=Tryz.sizeOf5
 v5:=Tryz.zeroValue5
 t9:=Tryz.underlying9
 a9:=Tryz.isAgg9
 z9:=Tryz.sizeOf9
 v9:=Tryz.zeroValue9
 t46:=Tryz.underlying87
 a46:=Tryz.isAgg87
 z46:=Tryz.sizeOf87
 v46:=Tryz.zeroValue87
 t53:=Tryz.underlying110
 a53:=Tryz.isAgg110
 z53:=Tryz.sizeOf110
 v53:=Tryz.zeroValue110 }
theorem Tryz.bits_Len64(x:Int)(w:World)(h0:0<=x)(h1:x<=18446744073709551615) :
  Calls Tryz.prog 60 #[.int .u64 x] w fun e w'=>e = .returned (.int .i64 (Lib.bitLen x.toNat))/\w'=w:=Any.bits_Len64 Tryz.lays129 x w h0 h1
def Tryz.lays317_ren:Go.Shelf.Ren:=⟨fun|317=>106|n=>n,fun|3=>3|46=>87|n=>n,fun|n=>n⟩
theorem Tryz.lays317:Go.Proofs.Lays.n317 Tryz.prog Tryz.lays317_ren:={
 mixed:=by kernel_rfl
 f317:=Tryz.func106.trans (congrArg some (by kernel_rfl))
 t3:=Tryz.underlying3
 a3:=Tryz.isAgg3
 z3:=Tryz.sizeOf3
 v3:=Tryz.zeroValue3
 t46:=Tryz.underlying87
 a46:=Tryz.isAgg87
 z46:=Tryz.sizeOf87
 v46:=Tryz.zeroValue87 }
open Go.Lib in
theorem Tryz.internal_strconv_log10Pow2(x:Nat)(h:x<=64)(w:World) :
  Calls Tryz.prog 106 #[.int .i64 x] w fun e w'=>e = .returned (.int .i64 (Lib.l10 x))/\w'=w:=Any.internal_strconv_log10Pow2 Tryz.lays317 x h w
open Go.Lib in
def Tryz.lays283_ren:Go.Shelf.Ren:=⟨fun|283=>84|n=>n,fun|3=>3|9=>9|4=>4|n=>n,fun|n=>n⟩
theorem Tryz.lays283:Go.Proofs.Lays.n283 Tryz.prog Tryz.lays283_ren:={
 mixed:=by kernel_rfl
 f283:=Tryz.func84.trans (congrArg some (by kernel_rfl))
 t3:=Tryz.underlying3
 a3:=Tryz.isAgg3
 z3:=Tryz.sizeOf3
 v3:=Tryz.zeroValue3
 t4:=Tryz.underlying4
 a4:=Tryz.isAgg4
 z4:=Tryz.sizeOf4
 v4:=Tryz.zeroValue4
 t9:=Tryz.underlying9
 a9:=Tryz.isAgg9
 z9:=Tryz.sizeOf9
 v9:=Tryz.zeroValue9 }
open Go.Lib in
theorem Tryz.internal_strconv_small(i:Nat)(h:i<100)(w:World) :
  Calls Tryz.prog 84 #[.int .i64 i] w fun e w'=>e = .returned (.string ⟨(Lib.decDigits i).toArray⟩)/\w'=w:=Any.internal_strconv_small Tryz.lays283 i h w
def Tryz.lays285_ren:Go.Shelf.Ren:=⟨fun|285=>86|n=>n,fun|37=>140|53=>110|3=>3|4=>4|51=>108|9=>9|5=>5|0=>0|n=>n,fun|n=>n⟩
theorem Tryz.lays285:Go.Proofs.Lays.n285 Tryz.prog Tryz.lays285_ren:={
 mixed:=by kernel_rfl
 f285:=Tryz.func86.trans (congrArg some (by kernel_rfl))
 t0:=Tryz.underlying0
 a0:=Tryz.isAgg0
 z0:=Tryz.sizeOf0
 v0:=Tryz.zeroValue0
 t3:=Tryz.underlying3
 a3:=Tryz.isAgg3
 z3:=Tryz.sizeOf3
 v3:=Tryz.zeroValue3
 t4:=Tryz.underlying4
 a4:=Tryz.isAgg4
 z4:=Tryz.sizeOf4
 v4:=Tryz.zeroValue4
 t5:=Tryz.underlying5
 a5:=Tryz.isAgg5
 z5:=Tryz.sizeOf5
 v5:=Tryz.zeroValue5
 t9:=Tryz.underlying9
 a9:=Tryz.isAgg9
 z9:=Tryz.sizeOf9
 v9:=Tryz.zeroValue9
 t37:=Tryz.underlying140
 a37:=Tryz.isAgg140
 z37:=Tryz.sizeOf140
 v37:=Tryz.zeroValue140
 t51:=Tryz.underlying108
 a51:=Tryz.isAgg108
 z51:=Tryz.sizeOf108
 v51:=Tryz.zeroValue108
 t53:=Tryz.underlying110
 a53:=Tryz.isAgg110
 z53:=Tryz.sizeOf110
 v53:=Tryz.zeroValue110 }
open Go.RowKit Go.Sort Go.Lib in
theorem Tryz.internal_strconv_formatBase10(blk off cap:Nat)(u:Nat)(d:Array UInt8)(w:World)(hH:Holds (fun(b:UInt8)=>Value.int .u8 (b.toNat:Int)) w blk off d)(hu:u<10 ^ d.size)(hu64:u<18446744073709551616)(hsz:d.size<4611686018427387904) :
  Calls Tryz.prog 86 #[.slice (some ⟨blk,off,none⟩) d.size cap,.int .u64 u] w fun e w'=>
   e = .returned (.tuple #[])/\∃(n v':Nat) (dk:Array UInt8),w'=(putRow (fun(b:UInt8)=>Value.int .u8 (b.toNat:Int)) w blk off dk).drewN n/\FmtInv d.size u 0 v' dk:=Any.internal_strconv_formatBase10 Tryz.lays285 blk off cap u d w hH hu hu64 hsz
end Go.Proofs
namespace Go.Proofs.YtnbkfjjdlofdpaaGreatDoor
open Go Go.Ax Go.Proofs Tryz
set_option maxRecDepth 1000000
set_option maxRecDepth 1000000
def gz:List (Nat × AV):=[(0,.agg [.int .u64 1,.int .u64 10,.int .u64 100,.int .u64 1000,.int .u64 10000,.int .u64 100000,.int .u64 1000000,.int .u64 10000000,.int .u64 100000000,.int .u64 1000000000,.int .u64 10000000000,.int .u64 100000000000,.int .u64 1000000000000,.int .u64 10000000000000,.int .u64 100000000000000,.int .u64 1000000000000000,.int .u64 10000000000000000,.int .u64 100000000000000000,.int .u64 1000000000000000000,.int .u64 10000000000000000000]),(1,.agg [.int .u8 0,.int .u8 1,.int .u8 28,.int .u8 2,.int .u8 29,.int .u8 14,.int .u8 24,.int .u8 3,.int .u8 30,.int .u8 22,.int .u8 20,.int .u8 15,.int .u8 25,.int .u8 17,.int .u8 4,.int .u8 8,.int .u8 31,.int .u8 27,.int .u8 13,.int .u8 23,.int .u8 21,.int .u8 19,.int .u8 16,.int .u8 7,.int .u8 26,.int .u8 12,.int .u8 18,.int .u8 6,.int .u8 11,.int .u8 5,.int .u8 10,.int .u8 9]),(2,.agg [.int .u8 0,.int .u8 1,.int .u8 56,.int .u8 2,.int .u8 57,.int .u8 49,.int .u8 28,.int .u8 3,.int .u8 61,.int .u8 58,.int .u8 42,.int .u8 50,.int .u8 38,.int .u8 29,.int .u8 17,.int .u8 4,.int .u8 62,.int .u8 47,.int .u8 59,.int .u8 36,.int .u8 45,.int .u8 43,.int .u8 51,.int .u8 22,.int .u8 53,.int .u8 39,.int .u8 33,.int .u8 30,.int .u8 24,.int .u8 18,.int .u8 12,.int .u8 5,.int .u8 63,.int .u8 55,.int .u8 48,.int .u8 27,.int .u8 60,.int .u8 41,.int .u8 37,.int .u8 16,.int .u8 46,.int .u8 35,.int .u8 44,.int .u8 21,.int .u8 52,.int .u8 32,.int .u8 23,.int .u8 11,.int .u8 54,.int .u8 26,.int .u8 40,.int .u8 15,.int .u8 34,.int .u8 20,.int .u8 31,.int .u8 10,.int .u8 25,.int .u8 14,.int .u8 19,.int .u8 9,.int .u8 13,.int .u8 8,.int .u8 7,.int .u8 6])]
set_option maxRecDepth 100000
set_option maxHeartbeats 4000000
theorem bE:∀p∈gz,NN p.2:=fun p hp=>by
 simp only[gz,JQ,KW,or_false] at hp;rcases hp with rfl|rfl|rfl
 ·exact nn
 ·exact nn
 ·exact nn
theorem GS(u:Nat)(h:u<18446744073709551616):aR prog [] 60 [.int .u64 u] (.int .i64 (Lib.bitLen u)):=
 sV (fun _ _ _ _ _ h=>vW h) fun w _=>(Tryz.bits_Len64 u w om om).mono fun e w' ⟨h1,h2⟩=>⟨_,h1,fun _ _ _ _=>.int _ _,by rw[h2];exact .refl w⟩
theorem GH(x:Nat)(h:x<=64):aR prog [] 106 [.int .i64 x] (.int .i64 (Lib.l10 x)):=
 sV (fun _ _ _ _ _ h=>vW h) fun w _=>(Tryz.internal_strconv_log10Pow2 x h w).mono fun e w' ⟨h1,h2⟩=>⟨_,h1,fun _ _ _ _=>.int _ _,by rw[h2];exact .refl w⟩
theorem Gi(i:Nat)(h:i<100):aR prog [] 84 [.int .i64 i] (.str (Lib.decDigits i)):=
 sV (fun _ _ _ _ _ h=>vW h) fun w _=>(Tryz.internal_strconv_small i h w).mono fun e w' ⟨h1,h2⟩=>⟨_,h1,fun _ _ _ _=>.str _,by rw[h2];exact .refl w⟩
theorem Gf(b:Bool):aR prog [] 107 [.bool b] (.int .i64 (if b then 1 else 0)):=by
 cases b
 all_goals
  refine aN eG func107 rfl ?_;refine Rr ?_;exact aJ nn ⟨rfl,rfl,rfl⟩
theorem DE(t:TypeId)(xs:List UInt8)(u:Nat)(hu64:u<18446744073709551616)(hlen:1+Lib.nDigits u<=xs.length)(hxl:xs.length<=1000) :
  aC prog [] 86 [.sl 0 1 (Lib.nDigits u),.int .u64 u] [(0,.row t 1 (fG xs))] 1 fun r m n=>r = .tup []/\m=[(0,.row t 1 (fG (xs.take 1++Lib.decDigits u++xs.drop (1+Lib.nDigits u))))]:=
 Hn Tryz.internal_strconv_formatBase10 xs u hu64 hlen hxl
def Hm:List AV:=[.int .u64 1,.int .u64 10,.int .u64 100,.int .u64 1000,.int .u64 10000,.int .u64 100000,.int .u64 1000000,.int .u64 10000000,.int .u64 100000000,.int .u64 1000000000,.int .u64 10000000000,.int .u64 100000000000,.int .u64 1000000000000,.int .u64 10000000000000,.int .u64 100000000000000,.int .u64 1000000000000000,.int .u64 10000000000000000,.int .u64 100000000000000000,.int .u64 1000000000000000000,.int .u64 10000000000000000000]
theorem Ga(q:Nat)(h:q<=19):Hm[q]? = some (.int .u64 ((10 ^ q:Nat):Int)):=by
 rcases(show q=0∨q=1∨q=2∨q=3∨q=4∨q=5∨q=6∨q=7∨q=8∨q=9∨q=10∨q=11∨q=12∨q=13∨q=14∨q=15∨q=16∨q=17∨q=18∨q=19 by omega) with rfl|rfl|rfl|rfl|rfl|rfl|rfl|rfl|rfl|rfl|rfl|rfl|rfl|rfl|rfl|rfl|rfl|rfl|rfl|rfl<;>rfl
theorem r8(u:Nat)(h1:1<=u)(h2:u<18446744073709551616):aR prog gz 85 [.int .u64 u] (.int .i64 (Lib.nDigits u)):=by
 obtain⟨e1,e2⟩:=Lib.numDigits_eq u h1 h2;have hL:=GS u h2;have hb:Lib.bitLen u<=64:=Lib.bitLen_le u 64 (JX _) h2;generalize Lib.bitLen u=L at *;have hq:=GH L hb;generalize Lib.l10 L=q at *;generalize Lib.nDigits u=nd at *;have htab:=Ga q e2;refine aN bE func85 rfl ?_;refine Rr ?_;refine hL.goG ?_;refine Rr ?_;refine hq.goG ?_;refine Rr ?_;refine aS (b:=Nat.blt q 20) (JZ om) ?_;refine Rr ?_;have htab':Hm[((q:Int)).toNat*1]? = some (.int .u64 ((10 ^ q:Nat):Int)):=by simpa using htab
 clear htab;have hpq:∃pq:Int,pq=((10 ^ q:Nat):Int):=⟨_,rfl⟩
 obtain⟨pq,hpq⟩:=hpq;rw[←hpq] at htab';refine aI htab' ?_;refine Rr ?_;refine(Gf _).goG ?_;refine Rr ?_;refine aJ nn ⟨?_,rfl,rfl⟩;congr 1;have hle:decide ((u:Int)≥pq)=decide (10 ^ q<=u):=by rw[hpq];simp only[ge_iff_le,Int.ofNat_le]
 have hnd:nd<=20:=by rw[←e1];split<;>omega
 rw[hle,w64 (y:=(nd:Int)) _ ⟨om,om⟩];rw[←e1];by_cases hc:10 ^ q<=u<;>simp[hc]
theorem sN(u:Nat)(h2:u<18446744073709551616):Lib.nDigits u<=20:=by
 by_cases h1:1<=u
 ·obtain⟨e1,e2⟩:=Lib.numDigits_eq u h1 h2;rw[←e1];split<;>omega
 ·rw[Lib.nDigits_small om];omega
theorem sR(n:Int):IntKind.u64.wrap n=n%18446744073709551616:=by
 simp[IntKind.wrap,IntKind.bits,IntKind.signed]
theorem AG(n:Int)(hn:i64 n):aR prog gz 48 [.int .i64 n,.int .i64 10] (.str (Lib.itoa n)):=by
 rcases(show (0<=n/\n<100)∨100<=n∨n<0 by omega) with⟨h0,h1⟩|h1|h1
 ·obtain⟨i,rfl⟩:∃i:Nat,n=i:=⟨n.toNat,om⟩
  have d2:decide ((i:Int)<100)=true:=by simpa using h1
  refine aN bE func48 rfl ?_;refine Rr ?_;rw[d2];refine Rr ?_;refine(Gi i om).goG ?_;refine Rr ?_;refine aJ nn ⟨?_,rfl,rfl⟩;rw[Lib.itoa_nonneg]
 ·obtain⟨u,rfl⟩:∃i:Nat,n=i:=⟨n.toNat,om⟩
  have d2:decide ((u:Int)<100)=false:=by simp;omega
  have d3:decide ((u:Int)<0)=false:=by simp
  unfold i64 at hn;have hw:IntKind.u64.wrap (u:Int)=(u:Int):=by rw[sR];omega
  have hu64:u<18446744073709551616:=om;have hnd:=sN u hu64;have hF:=(DE 138 (List.replicate 24 0) u hu64 (by simp;omega) (by simp)).glob (Γ:=gz);have hdl:=Lib.decDigits_length u;have hN:=r8 u om hu64;have hdd:(Lib.decDigits u++List.drop (1+Lib.nDigits u) (List.replicate 24 0)).length=23:=by simp[hdl];omega
  have hit:=Lib.itoa_nonneg u;generalize Lib.nDigits u=nd at hN hF hnd hdl hdd;generalize Lib.decDigits u=ds at hF hdl hit hdd;refine aN bE func48 rfl ?_;refine Rr ?_;rw[d2];refine Rr ?_;rw[hw];refine hN.use bE xU nn ?_;refine Rr ?_;rw[w64 (x:=1+(nd:Int)) (y:=((1+nd:Nat):Int)) om ⟨om,om⟩];refine Rr ?_;refine aS (eD (by simp;omega) (by simp;omega) (by simp)) ?_;refine Rr ?_;refine aC.useI bE [0] hF (by rfl) (.cons (.slE rfl (by simp;omega)) (.s .nil)) ⟨c9 0 (rD _),trivial⟩ rfl ?_;rintro r m n' ⟨rfl,rfl⟩;refine⟨nn,⟨c9 0 (rD _),trivial⟩,rfl, ?_⟩;have hlist:List.take 1 (List.replicate 24 (0:UInt8))++ds++List.drop (1+nd) (List.replicate 24 0)=0::(ds++List.drop (1+nd) (List.replicate 24 0)):=rfl;rw[hlist];have htk:List.take nd (ds++List.drop (1+nd) (List.replicate 24 0))=ds:=by rw[Km om,KQ om]
  generalize ds++List.drop (1+nd) (List.replicate 24 0)=rest at hdd htk;have hrl:(fG (0::rest)).length=24:=by rw[fW];simp[hdd]
  refine Rr ?_;refine aS (by rw[JU];exact⟨rfl,JZ (by rw[hrl];omega)⟩) ?_;refine Rr ?_;rw[w64 (x:=1+(nd:Int)) (y:=((1+nd:Nat):Int)) om ⟨om,om⟩];refine Rr ?_;refine aS (eD (by simp;omega) (by simp;omega) (by simp)) ?_;refine Rr ?_;refine aS (JZ (by rw[hrl];simp;omega)) ?_;refine aI (a:=ds) ?_ ?_
  ·rw[uS,uY,jJ]
   show some (List.take ((((1+nd:Nat):Int)).toNat-1) rest)=some ds
   rw[←htk];congr 2;simp;omega
  refine Rr ?_;refine aJ nn ⟨?_,rfl,rfl⟩;rw[hit]
 ·obtain⟨u,rfl⟩:∃i:Nat,n = -(i:Int):=⟨(-n).toNat,om⟩
  have d1:decide (0<=-(u:Int))=false:=by simp;omega
  have d3:decide (-(u:Int)<0)=true:=by simp;omega
  unfold i64 at hn;have hw:IntKind.u64.wrap (0-IntKind.u64.wrap (-(u:Int)))=(u:Int):=by rw[sR,sR];omega
  have hu64:u<18446744073709551616:=om;have hnd:=sN u hu64;have hF:=(DE 138 (List.replicate 24 0) u hu64 (by simp;omega) (by simp)).glob (Γ:=gz);have hdl:=Lib.decDigits_length u;have hN:=r8 u om hu64;have hdd:(Lib.decDigits u++List.drop (1+Lib.nDigits u) (List.replicate 24 0)).length=23:=by simp[hdl];omega
  have hit:=Lib.itoa_neg u om;generalize Lib.nDigits u=nd at hN hF hnd hdl hdd;generalize Lib.decDigits u=ds at hF hdl hit hdd;refine aN bE func48 rfl ?_;refine Rr ?_;rw[d1];refine Rr ?_;rw[d3];refine Rr ?_;rw[hw];refine hN.use bE xU nn ?_;refine Rr ?_;rw[w64 (x:=1+(nd:Int)) (y:=((1+nd:Nat):Int)) om ⟨om,om⟩];refine Rr ?_;refine aS (eD (by simp;omega) (by simp;omega) (by simp)) ?_;refine Rr ?_;refine aC.useI bE [0] hF (by rfl) (.cons (.slE rfl (by simp;omega)) (.s .nil)) ⟨c9 0 (rD _),trivial⟩ rfl ?_;rintro r m n' ⟨rfl,rfl⟩;refine⟨nn,⟨c9 0 (rD _),trivial⟩,rfl, ?_⟩;have hlist:List.take 1 (List.replicate 24 (0:UInt8))++ds++List.drop (1+nd) (List.replicate 24 0)=0::(ds++List.drop (1+nd) (List.replicate 24 0)):=rfl;rw[hlist];have htk:List.take nd (ds++List.drop (1+nd) (List.replicate 24 0))=ds:=by rw[Km om,KQ om]
  generalize ds++List.drop (1+nd) (List.replicate 24 0)=rest at hdd htk;have hrl:∀b,(fG (b::rest)).length=24:=fun b=>by rw[fW];simp[hdd]
  refine Rr ?_;rw[d3];refine Rr ?_;refine aS (by rw[JU];exact⟨rfl,JZ (Nat.le_of_eq (hrl 45).symm)⟩) ?_;refine Rr ?_;rw[w64 (x:=1+(nd:Int)) (y:=((1+nd:Nat):Int)) om ⟨om,om⟩];refine Rr ?_;refine aS (eD (by simp) (by simp;omega) (by simp)) ?_;refine Rr ?_;refine aS (JZ (show _<=(fG (45::rest)).length by rw[hrl];simp;omega)) ?_;refine aI (a:=45::ds) (show cH (List.take ((((1+nd:Nat):Int)).toNat-0) (List.drop (0+0) (fG (45::rest))))=_ from ?_) ?_
  ·rw[uS,uY,jJ];have e:(((1+nd:Nat):Int)).toNat-0=nd+1:=by simp;omega
   rw[e]
   show some (45::List.take nd rest)=_
   rw[htk]
  refine Rr ?_;refine aJ nn ⟨?_,rfl,rfl⟩;rw[hit]
theorem Gb(n:Int)(hn:i64 n):aR prog gz 34 [.int .i64 n] (.str (Lib.itoa n)):=by
 have h:=AG n hn;generalize Lib.itoa n=r at h;refine aN bE func34 rfl ?_;refine Rr ?_;refine h.use bE xU nn ?_;refine Rr ?_;exact aJ nn ⟨rfl,rfl,rfl⟩
theorem vM(n:Int)(hn:i64 n):aR prog gz 19 [.int .i64 n] (.str (Lib.itoa n)):=by
 have h:=Gb n hn;generalize Lib.itoa n=r at h;refine aN bE func19 rfl ?_;refine Rr ?_;refine h.use bE xU nn ?_;refine Rr ?_;exact aJ nn ⟨rfl,rfl,rfl⟩
set_option maxRecDepth 100000
theorem D3(x:Int):aR prog [] 49 [.int .i64 x] (.bool false):=by
 refine jU eG func49 rfl ?_
 conv=>whnf
 refine aJ (.bool _) ⟨?_,rfl,rfl⟩;simp
theorem wU(x y:Int):aR prog [] 35 [.int .i64 x,.int .i64 y] (.int .i64 (cB x y)):=by
 refine jU eG func35 rfl ?_
 conv=>whnf
 refine(D3 x).use eG (.cons (.int _ _) .nil) (.bool _) ?_
 conv=>whnf
 refine(D3 y).use eG (.cons (.int _ _) .nil) (.bool _) ?_
 conv=>whnf
 refine b7 (fun h=>?_) (fun h=>?_)
 ·conv=>whnf
  refine aJ (.int _ _) ⟨?_,rfl,rfl⟩;simp at h;simp[cB,h]
 conv=>whnf
 refine b7 (fun h'=>?_) (fun h'=>?_)
 ·conv=>whnf
  refine aJ (.int _ _) ⟨?_,rfl,rfl⟩;simp at h h';simp only[cB];rw[Ja om,Jb om]
 ·conv=>whnf
  refine aJ (.int _ _) ⟨?_,rfl,rfl⟩;simp at h h';simp only[cB];rw[Ja om,Ja om]
set_option maxRecDepth 100000
set_option maxHeartbeats 16000000
theorem iB{l:List Int}{k:Nat}(h:k<l.length):(a6 l)[(k:Int).toNat]? = some (.int .i64 l[k]):=by
 rw[KR,zN,JS h];rfl
theorem vD{a b:List Int}{k:Nat}(h1:k<a.length)(h2:k<b.length):dI (a.drop k) (b.drop k)=andThen (cB a[k] b[k]) (dI (a.drop (k+1)) (b.drop (k+1))):=by
 rw[List.drop_eq_getElem_cons h1,List.drop_eq_getElem_cons h2,dI]
theorem Ia(a b:List Int)(ha:a.length<=4611686018427387904):aR prog [] 36 [.il 1 (a6 a),.il 1 (a6 b)] (.int .i64 (dI a b)):=by
 have na:NN (.il 1 (a6 a)):=.il' (aU a);have nb:NN (.il 1 (a6 b)):=.il' (aU b);have la:=bW a;have lb:=bW b;refine aN eG func36 rfl ?_;refine Rr ?_;refine bH.at eG (fun k:Nat=>k<=a.length/\k<=b.length/\dI a b=dI (a.drop k) (b.drop k))
  (fun k=>⟨[(0,.il 1 (a6 a)),(1,.il 1 (a6 b)),(9,.il 1 (a6 a)),(10,.int .i64 (a6 a).length),(11,.int .i64 k)],[],0,36⟩)
  (fun k=>a.length-k) 0 [] ⟨by simp,by simp,by simp⟩
  (bB ⟨aP na,aP nb,aP na,aL,aL,trivial⟩) ?_
 rintro k ⟨h1,h2,h3⟩;have d1:decide ((k:Int)<((a6 a).length:Int))=decide (k<a.length):=by rw[la];exact Jq.2 om
 have d2:decide ((k:Int)≥((a6 b).length:Int))=decide (k≥b.length):=by rw[lb];exact Jq.2 om
 by_cases hk:k<a.length
 ·by_cases hb:k≥b.length
  ·refine Rr ?_;rw[d1,Jk hk];refine Rt ?_;repeat(refine aI (iB hk) ?_;refine Rt ?_)
   rw[d2,Jk hb];refine Rr ?_;refine aJ nn ⟨?_,rfl,rfl⟩;rw[h3,KZ (l:=b) om,List.drop_eq_getElem_cons hk,dI]
  ·have hb:k<b.length:=om;have hc:=wU a[k] b[k];have hs:=vD hk hb;generalize hce:cB a[k] b[k]=c at *;refine Rr ?_;rw[d1,Jk hk];refine Rt ?_;repeat(refine aI (iB hk) ?_;refine Rt ?_)
   rw[d2,Jm om];refine Rt ?_;repeat(refine aI (iB hb) ?_;refine Rt ?_)
   refine hc.go ?_;refine Rr ?_;refine b7 (fun h=>?_) (fun h=>?_)
   ·have h:c≠0:=by simpa using h
    refine Rr ?_;refine aJ nn ⟨?_,rfl,rfl⟩;rw[h3,hs,andThen,Ja h]
   ·have h:c=0:=by simpa using h
    refine Rr ?_;exact .mk (k+1) [] ⟨om,om,by rw[h3,hs,andThen,Jb h]⟩ (bB ⟨aP na,aP nb,aP na,aL,⟨_,rfl,.w64 om ⟨om,om⟩⟩,trivial⟩) om
 ·have hd:a.drop k=[]:=KZ om;refine Rr ?_;rw[d1,Jm hk];refine Rr ?_;refine b7 (fun h=>?_) (fun h=>?_)
  ·have h:a.length<b.length:=by rw[la,lb] at h;simpa using h
   refine Rr ?_;refine aJ nn ⟨?_,rfl,rfl⟩;rw[h3,hd,List.drop_eq_getElem_cons (show k<b.length by omega),dI]
  ·have h:¬a.length<b.length:=by rw[la,lb] at h;simpa using h
   refine Rr ?_;refine aJ nn ⟨?_,rfl,rfl⟩;rw[h3,hd,KZ om,dI]
theorem I5(x y:Int):aR prog [] 22 [.il 1 [.int .i64 x,.int .i64 y]] (.int .i64 (andThen x y)):=by
 have nl:NN (.il 1 [.int .i64 x,.int .i64 y]):=.il' (.cons nn (.cons nn .nil));refine aN eG func22 rfl ?_;refine Rr ?_;refine bH.at eG (fun k:Nat=>k<=2/\(0<k->x=0)/\(1<k->y=0))
  (fun k=>⟨[(3,.int .i64 0),(6,.il 1 [.int .i64 x,.int .i64 y]),(7,.int .i64 2),(8,.int .i64 k)],[],0,18⟩)
  (fun k=>2-k) 0 [] ⟨om,om,om⟩
  (bB ⟨aL,aP nl,aL,aL,trivial⟩) ?_
 rintro k ⟨h1,h2,h3⟩
 match k,h1,h2,h3 with
 | 0,h1,h2,h3=>
  refine Rr ?_;refine b7 (fun h=>?_) (fun h=>?_)
  ·have h:x≠0:=by simpa using h
   refine Rr ?_;refine aJ nn ⟨?_,rfl,rfl⟩;rw[andThen,Ja h]
  ·have h:x=0:=by simpa using h
   refine Rr ?_;exact .mk 1 [] ⟨om,fun _=>h,om⟩ (bB ⟨aL,aP nl,aL,⟨_,rfl,.w64 rfl ⟨om,om⟩⟩,trivial⟩) om
 | 1,h1,h2,h3=>
  refine Rr ?_;refine b7 (fun h=>?_) (fun h=>?_)
  ·have h:y≠0:=by simpa using h
   refine Rr ?_;refine aJ nn ⟨?_,rfl,rfl⟩;rw[andThen,Jb (h2 om)]
  ·have h:y=0:=by simpa using h
   refine Rr ?_;exact .mk 2 [] ⟨om,fun _=>h2 om,fun _=>h⟩ (bB ⟨aL,aP nl,aL,⟨_,rfl,.w64 rfl ⟨om,om⟩⟩,trivial⟩) om
 | 2,h1,h2,h3=>
  refine Rr ?_;refine aJ nn ⟨?_,rfl,rfl⟩;rw[andThen,Jb (h2 om),h3 om]
theorem IH(a b:List Int)(ha:a.length<=4611686018427387904):aR prog [] 23 [.il 1 (a6 a),.il 1 (a6 b)] (.int .i64 (fQ a b)):=by
 have na:NN (.il 1 (a6 a)):=.il' (aU a);have nb:NN (.il 1 (a6 b)):=.il' (aU b);have hc:=wU ((a6 a).length:Int) ((a6 b).length:Int);have hs:=Ia a b ha;have ho:=I5 (cB ((a6 a).length:Int) ((a6 b).length:Int)) (dI a b);have he:fQ a b=andThen (cB ((a6 a).length:Int) ((a6 b).length:Int)) (dI a b):=by rw[bW,bW];rfl
 rw[he];generalize cB ((a6 a).length:Int) ((a6 b).length:Int)=x at *;generalize dI a b=y at *;generalize andThen x y=z at *;refine aN eG func23 rfl ?_;refine Rr ?_;refine hc.go ?_;refine Rr ?_;refine hs.go ?_ (.cons na (.cons nb .nil)) nn;refine Rr ?_;refine aC.pre eG [] (mem':=[]) rfl trivial (.cons (.fz' (id:=0) (off:=0) (len:=2) (ys:=[.int .i64 x,.int .i64 y]) rfl rfl (by simp) rfl (.cons nn (.cons nn .nil))) .nil) ?_;refine ho.go ?_ (.cons (.il' (.cons nn (.cons nn .nil))) .nil) nn;refine Rr ?_;exact aJ nn ⟨rfl,rfl,rfl⟩
theorem Il(a b:List Int)(ha:a.length<=4611686018427387904):aR prog [] 46 [.il 1 (a6 a),.il 1 (a6 b)] (.int .i64 (fQ a b)):=by
 have na:NN (.il 1 (a6 a)):=.il' (aU a);have nb:NN (.il 1 (a6 b)):=.il' (aU b);have la:=bW a;have lb:=bW b;refine aN eG func46 rfl ?_;refine Rr ?_;refine b7 (fun h=>?_) (fun h=>?_)
 ·have h:a.length<b.length:=by rw[la,lb] at h;simpa using h
  refine Rr ?_;refine aJ nn ⟨?_,rfl,rfl⟩;rw[fQ,cB,Jb om];rfl
 have h1:¬a.length<b.length:=by rw[la,lb] at h;simpa using h
 refine Rr ?_;refine b7 (fun h=>?_) (fun h=>?_)
 ·have h:b.length<a.length:=by rw[la,lb] at h;simpa using h
  refine Rr ?_;refine aJ nn ⟨?_,rfl,rfl⟩;rw[fQ,cB,Ja om,Jb om];rfl
 have h2:¬b.length<a.length:=by rw[la,lb] at h;simpa using h
 have hab:a.length=b.length:=om;have he:fQ a b=dI a b:=by rw[fQ,cB,Ja om,Ja om,andThen,Jb rfl]
 rw[he];refine Rr ?_;refine bH.at eG (fun k:Nat=>k<=a.length/\dI a b=dI (a.drop k) (b.drop k))
  (fun k=>⟨[(0,.il 1 (a6 a)),(1,.il 1 (a6 b)),(5,.int .i64 k)],[],0,40⟩)
  (fun k=>a.length-k) 0 [] ⟨by simp,by simp⟩
  (bB ⟨aP na,aP nb,aL,trivial⟩) ?_
 rintro k ⟨k1,k3⟩;have d1:decide ((k:Int)<((a6 a).length:Int))=decide (k<a.length):=by rw[la];exact Jq.2 om
 by_cases hk:k<a.length
 ·have hb:k<b.length:=om;have hs:=vD hk hb;have ea:=iB hk;have eb:=iB hb;generalize a[k]=x at *;generalize b[k]=y at *;refine Rr ?_;rw[d1,Jk hk];refine Rt ?_;repeat((first|refine aI ea ?_|refine aI eb ?_);refine Rt ?_)
  refine b7 (fun h=>?_) (fun h=>?_)
  ·have h:x<y:=by simpa using h
   refine Rr ?_;refine aJ nn ⟨?_,rfl,rfl⟩;rw[k3,hs,cB,Jb h];rfl
  have g1:¬x<y:=by simpa using h
  refine Rt ?_;repeat((first|refine aI ea ?_|refine aI eb ?_);refine Rt ?_)
  refine b7 (fun h=>?_) (fun h=>?_)
  ·have h:y<x:=by simpa using h
   refine Rr ?_;refine aJ nn ⟨?_,rfl,rfl⟩;rw[k3,hs,cB,Ja g1,Jb h];rfl
  have g2:¬y<x:=by simpa using h
  refine Rr ?_;exact .mk (k+1) [] ⟨om,by rw[k3,hs,cB,Ja g1,Ja g2];rfl⟩ (bB ⟨aP na,aP nb,⟨_,rfl,.w64 om ⟨om,om⟩⟩,trivial⟩) om
 ·refine Rr ?_;rw[d1,Jm hk];refine Rr ?_;refine aJ nn ⟨?_,rfl,rfl⟩;rw[k3,KZ (l:=a) om,KZ (l:=b) om,dI]
set_option maxRecDepth 100000
theorem tR(n:Int):i64 (IntKind.i64.wrap n):=by
 rw[IntKind.wrap_i64];exact⟨om,om⟩
set_option maxRecDepth 100000
set_option maxHeartbeats 16000000
theorem qR(n most:Int)(hn:i64 n)(hm:1<=most):aR prog [] 12 [.int .i64 n,.int .i64 most] (.int .i64 (fK n most)):=by
 have hz:decide (most≠0)=true:=by simp;omega
 unfold i64 at hn;refine aN eG func12 rfl ?_;refine Rr ?_;refine b7 (fun h=>?_) (fun h=>?_)
 ·have h:n<0:=by simpa using h
  refine Rr ?_;refine aS (by rw[Jm om];rfl) ?_;refine Rr ?_;refine aJ nn ⟨?_,rfl,rfl⟩;rw[fK,Jb h,w64 (x:=n+1) (y:=n+1) rfl ⟨om,om⟩,w64 (x:=0-(n+1)) (y:=-(n+1)) om ⟨om,om⟩]
 ·have h:¬n<0:=by simpa using h
  refine Rr ?_;refine aS (by rw[Jm om];rfl) ?_;refine Rr ?_;refine aJ nn ⟨?_,rfl,rfl⟩;rw[fK,Ja h]
theorem o5{mem:aA}{id len:Nat}{t:TypeId}{sz:Nat}{xs ys:List AV}(h1:lk mem id=some (.row t sz xs))(e:len=xs.length)(h:xs=ys)(h5:Go.Ax.f9 ys):Cv mem [] (.sl id 0 len) (.il sz ys):=by
 subst h e;exact .fz' (id:=id) h1 rfl om (by rw[LY];exact KQ om) h5
set_option maxRecDepth 100000
set_option maxHeartbeats 16000000
def F6(o:Oc):AV:=.agg [.int .i64 o.kind,.int .i64 o.at_,.int .i64 o.code]
theorem e6(o:Oc):NN (F6 o):=.agg' (.cons nn (.cons nn (.cons nn .nil)))
theorem Ft(n:Int)(hn:i64 n):aC prog [] 16 [.int .i64 n] [] 0 fun r m k=>∃p:List Int,p.length<=3/\(∀x∈p,i64 x)/\r = .il 1 (a6 p)/\m=[]/\k=0:=by
 have hA:=qR n 60 hn (by decide);have hb:=fL (n:=n) (most:=60) (by decide);generalize fK n 60=k at *;refine aN eG func16 rfl ?_;refine Rr ?_;refine hA.go ?_;refine Rr ?_;have h7:k.tmod 7=0∨k.tmod 7=1∨k.tmod 7=2∨k.tmod 7=3∨k.tmod 7=4∨k.tmod 7=5∨k.tmod 7=6:=by
  rw[Int.tmod_eq_emod_of_nonneg hb.1];omega
 rcases h7 with h|h|h|h|h|h|h<;>rw[h]<;>refine Rr ?_
 ·exact b8 (r':=.il 1 (a6 [])) (.nil 1) ⟨[],by decide,by simp,rfl,rfl,rfl⟩
 ·exact b8 (r':=.il 1 (a6 [0])) (o5 (id:=0) rfl rfl rfl (aU _)) ⟨[0],by decide,by simp[i64],rfl,rfl,rfl⟩
 ·exact b8 (r':=.il 1 (a6 [1])) (o5 (id:=1) rfl rfl rfl (aU _)) ⟨[1],by decide,by simp[i64],rfl,rfl,rfl⟩
 ·exact b8 (r':=.il 1 (a6 [12])) (o5 (id:=2) rfl rfl rfl (aU _)) ⟨[12],by decide,by simp[i64],rfl,rfl,rfl⟩
 ·exact b8 (r':=.il 1 (a6 [0,0])) (o5 (id:=3) rfl rfl rfl (aU _)) ⟨[0,0],by decide,by simp[i64],rfl,rfl,rfl⟩
 ·exact b8 (r':=.il 1 (a6 [1,2])) (o5 (id:=4) rfl rfl rfl (aU _)) ⟨[1,2],by decide,by simp[i64],rfl,rfl,rfl⟩
 ·exact b8 (r':=.il 1 (a6 [1,2,3])) (o5 (id:=5) rfl rfl rfl (aU _)) ⟨[1,2,3],by decide,by simp[i64],rfl,rfl,rfl⟩
def JH(o:Oc):Prop:=i64 o.kind/\i64 o.at_/\i64 o.code
theorem Ho(n:Int)(hn:i64 n):aC prog [] 17 [.int .i64 n] [] 0 fun r m k=>∃o:Oc,JH o/\r=F6 o/\m=[]/\k=0:=by
 have hA:=qR n 60 hn (by decide);have hb:=fL (n:=n) (most:=60) (by decide);generalize fK n 60=k at *;refine aN eG func17 rfl ?_;refine Rr ?_;refine hA.go ?_;refine Rr ?_;have ht:∀(x:Int) (m:Nat),0<m->m<=5->i64 (x.tmod (m:Int)):=fun x m h0 h1=>by
  have h:=Int.natAbs_tmod x (m:Int);have h2:x.natAbs%(m:Int).natAbs<m:=by rw[Int.natAbs_natCast];exact LW _ h0
  unfold i64;omega
 exact aJ (e6 ⟨_,_,_⟩) ⟨⟨_,_,_⟩,⟨tR _,ht _ 3 (by decide) (by decide),ht _ 5 (by decide) (by decide)⟩,rfl,rfl,rfl⟩
set_option maxRecDepth 100000
set_option maxHeartbeats 8000000
theorem xF{l:List Int}{k:Nat}(h:k<l.length){z:Int}(hz:z=(k:Int)):(a6 l)[z.toNat]? = some (.int .i64 l[k]):=by
 rw[hz,KR,zN,JS h];rfl
theorem wN{mem:aA}{σ:List (Nat × Nat)}{xs ys ys':List AV}(h:s5 mem σ xs ys)(e:ys'=ys):s5 mem σ xs ys':=by rw[e];exact h
def GM(g:Gr):Prop:=(∀x∈g.min,i64 x)/\g.min.length<=3/\g.fs.length<=3/\(∀f∈g.fs,(∀x∈f.path,i64 x)/\f.path.length<=3)/\JH g.oc
theorem HJ(l:List Int)(hl:∀x∈l,i64 x)(hlen:l.length<=17592186043904)(most:Nat)(hmo:most<=12):aC prog [] 5 [.il 1 (a6 l),.int .i64 most] [] 0 fun r m k=>
  ∃G:List Gr,G.length<=most/\(∀g∈G,GM g)/\r = .sl 0 0 G.length/\m=[(0,.row 37 5 (aD G))]/\k=1:=by
 have nl:NN (.il 1 (a6 l)):=.il' (aU l);have ll:=bW l;refine aN eG func5 rfl ?_;refine Rr ?_;refine bH.ph 37 5 ?_;refine bH.at eG (fun G:List Gr=>G.length<=most/\∀g∈G,GM g)
  (fun G=>⟨[(0,.il 1 (a6 l)),(1,.int .i64 most),(5,.sl 0 0 G.length),(6,.int .i64 ((4*G.length:Nat):Int))],[(0,.row 37 5 (aD G))],1,73⟩) (fun G=>most-G.length) [] [(0,0)] (by simp)
  (bD _ rfl ⟨⟨0,_,rfl,rfl,.nil⟩,trivial⟩ ⟨aP nl,aL,⟨_,rfl,.nslk 0 0 _ rfl rfl⟩,aL,trivial⟩) ?_
 rintro G ⟨hG,hGi⟩;have w3:IntKind.i64.wrap (((4*G.length:Nat):Int)+3)=((4*G.length:Nat):Int)+3:=Go.Ax.f7 ⟨om,om⟩;have w1:IntKind.i64.wrap (((4*G.length:Nat):Int)+1)=((4*G.length:Nat):Int)+1:=Go.Ax.f7 ⟨om,om⟩;have w2:IntKind.i64.wrap (((4*G.length:Nat):Int)+2)=((4*G.length:Nat):Int)+2:=Go.Ax.f7 ⟨om,om⟩;have wm:IntKind.i64.wrap (4*(most:Int))=4*(most:Int):=Go.Ax.f7 ⟨om,om⟩;refine Rr ?_;rw[w3];refine b7 (fun hb=>?_) (fun hb=>?_)
 rotate_left
 ·rw[hb];refine Rr ?_;exact pI (r':=.sl 0 0 G.length) (m':=[(0,.row 37 5 (aD G))]) (n':=1) [(0,0)] rfl ⟨c9 0 (aK _),trivial⟩ (.sl 0 0 0 _ rfl) ⟨G,hG,hGi,rfl,rfl,rfl⟩
 rw[hb];have h3:4*G.length+3<l.length:=by have:=Jr hb;omega
 refine Rr ?_;rw[wm];refine b7 (fun hb2=>?_) (fun hb2=>?_)
 rotate_left
 ·rw[hb2];refine Rr ?_;exact pI (r':=.sl 0 0 G.length) (m':=[(0,.row 37 5 (aD G))]) (n':=1) [(0,0)] rfl ⟨c9 0 (aK _),trivial⟩ (.sl 0 0 0 _ rfl) ⟨G,hG,hGi,rfl,rfl,rfl⟩
 rw[hb2];have hlt:G.length<most:=by have:=Jr hb2;omega
 have e0:=xF (l:=l) (k:=4*G.length) om rfl;have e1:=xF (l:=l) (k:=4*G.length+1) (z:=((4*G.length:Nat):Int)+1) om om;have e2:=xF (l:=l) (k:=4*G.length+2) (z:=((4*G.length:Nat):Int)+2) om om;have e3:=xF (l:=l) (k:=4*G.length+3) (z:=((4*G.length:Nat):Int)+3) om om;have i0:=hl _ (Jl (show 4*G.length<l.length by omega));have i1:=hl _ (Jl (show 4*G.length+1<l.length by omega));have i2:=hl _ (Jl (show 4*G.length+2<l.length by omega));have i3:=hl _ (Jl (show 4*G.length+3<l.length by omega));generalize l[4*G.length]=n0 at e0 i0;generalize l[4*G.length+1]=n1 at e1 i1;generalize l[4*G.length+2]=n2 at e2 i2;generalize l[4*G.length+3]=n3 at e3 i3;have hP:=Ft n0 i0;have hO:=Ho n1 i1;refine Rr ?_;refine aI e0 ?_;refine Rr ?_;rw[w1];refine Rr ?_;refine aI e1 ?_;refine Rr ?_;refine aC.go0 hP ?_;rintro r m k ⟨p,hp1,hp2,rfl,rfl,rfl⟩;have np:NN (.il 1 (a6 p)):=.il' (aU p);have lp:=bW p;refine⟨_,.same _ np, ?_⟩;refine Rr ?_;repeat((first|refine aI e0 ?_|refine aI e1 ?_|refine aF ?_);refine Rr ?_)
 refine aC.go0 hO ?_;rintro r m k ⟨o,ho,rfl,rfl,rfl⟩;refine⟨_,.same _ (e6 o), ?_⟩;obtain⟨o1,o2,o3⟩:=o;refine Rt ?_;refine bH.ph 50 4 ?_;refine bH.at eG (fun fs:List Fl=>fs.length<=3/\∀f∈fs,(∀x∈f.path,i64 x)/\f.path.length<=3)
  (fun fs=>⟨[(0,.il 1 (a6 l)),(1,.int .i64 most),(5,.sl 0 0 G.length),(6,.int .i64 ((4*G.length:Nat):Int)),(7,.ptr 1 0 0),(8,.int .i64 fs.length)],[(0,.row 37 5 (aD G)),(1,.row 37 5 [.agg [.il 1 (a6 p),.int .i64 o1,.int .i64 o2,.int .i64 o3,.sl 2 0 fs.length]]),(2,.row 50 4 (aQ fs))],3,73⟩) (fun fs=>3-fs.length) [] [(0,0),(13,1),(15,2)] (by simp)
  (bD _ rfl ⟨c9 0 (aK G),⟨13,_,rfl,rfl,.cons (.agg (.cons (.same _ np) (.s (.s (.s (.cons (.nslk 15 2 _ rfl rfl) .nil)))))) .nil⟩,⟨15,_,rfl,rfl,.nil⟩,trivial⟩ ⟨aP nl,aL,⟨_,rfl,.sl 0 0 0 _ rfl⟩,aL,dU,aL,trivial⟩) ?_
 rintro fs ⟨hf1,hf2⟩;have lf:=aZ fs;have lG:=bA G;have hA:=qR n2 4 i2 (by decide);have hAb:=fL (n:=n2) (most:=4) (by decide);generalize fK n2 4=m at hA hAb;refine Rr ?_;rw[w2];refine Rr ?_;refine aI e2 ?_;refine Rr ?_;refine hA.go ?_;refine Rr ?_;refine b7 (fun hb3=>?_) (fun hb3=>?_)
 ·have hlt3:fs.length<3:=by have:=Jr hb3;omega
  rw[hb3];have hP:=Ft (IntKind.i64.wrap (n3+IntKind.i64.wrap (3*(fs.length:Int)))) (tR _);have hO:=Ho (IntKind.i64.wrap (n1+IntKind.i64.wrap ((fs.length:Int).tdiv 2))) (tR _);refine Rr ?_;rw[w3];refine Rr ?_;refine aI e3 ?_;refine Rr ?_;rw[w1];refine Rr ?_;repeat((first|refine aI e3 ?_|refine aI e1 ?_|refine aF ?_);refine Rr ?_)
  refine aC.go0 hP ?_;rintro r m' k ⟨q,hp1',hp2',rfl,rfl,rfl⟩;have nq:NN (.il 1 (a6 q)):=.il' (aU q);refine⟨_,.same _ nq, ?_⟩;refine Rr ?_;repeat((first|refine aI e3 ?_|refine aI e1 ?_|refine aF ?_);refine Rr ?_)
  refine aC.go0 hO ?_;rintro r m' k ⟨⟨u1,u2,u3⟩,-,rfl,rfl,rfl⟩;refine⟨_,.same _ (e6 ⟨u1,u2,u3⟩), ?_⟩;refine Rr ?_;repeat((first|refine aI e3 ?_|refine aI e1 ?_|refine aF ?_);refine Rr ?_)
  refine aS (dY rfl rfl (by rw[lf]) (by simp;omega)) ?_;refine Rt ?_;repeat((first|refine aI e3 ?_|refine aI e1 ?_);refine Rt ?_)
  exact .mk (fs++[⟨q,⟨u1,u2,u3⟩⟩]) [(0,0),(1,1),(28,2)] ⟨by simp;omega,fun f hf=>by
    rcases JV.1 hf with hf|hf
    ·exact hf2 f hf
    ·simp at hf;subst hf;exact⟨hp2',hp1'⟩⟩
   (bD _ rfl ⟨c9 0 (aK G),⟨1,_,rfl,rfl,.cons (.agg (.cons (.same _ np) (.s (.s (.s (.cons (.slE rfl (by simp)) .nil)))))) .nil⟩,⟨28,_,rfl,rfl,.eq (aM _) (by simp[aQ,fZ])⟩,trivial⟩ ⟨aP nl,aL,⟨_,rfl,.sl 0 0 0 _ rfl⟩,aL,dU,⟨_,rfl,.int (by rw[Go.Ax.f7 ⟨om,om⟩];simp)⟩,trivial⟩) (by simp;omega)
 ·rw[hb3];refine Rr ?_;refine aS (dY rfl rfl (by rw[lG]) (by simp;omega)) ?_;refine Rr ?_;refine .mk (G++[⟨p,⟨o1,o2,o3⟩,fs⟩]) [(4,0)] ⟨by simp;omega,fun g hg=>by
    rcases JV.1 hg with hg|hg
    ·exact hGi g hg
    ·simp at hg;subst hg;exact⟨hp2,hp1,hf1,hf2,ho⟩⟩
   (bD _ rfl ⟨⟨4,_,rfl,rfl,wN (s5.snoc (y:=dV ⟨p,⟨o1,o2,o3⟩,fs⟩) rfl (.same (aK G)) (.agg (.cons (.same _ np) (.s (.s (.s (.cons (.fzR (id:=2) rfl rfl (.same (aM fs)) lf) .nil))))))) (by simp[aD])⟩,trivial⟩ ⟨aP nl,aL,⟨_,rfl,.slE rfl (by simp)⟩,⟨_,rfl,.int (by rw[Go.Ax.f7 ⟨om,om⟩];simp;omega)⟩,trivial⟩) (by simp;omega)
set_option maxRecDepth 100000
set_option maxHeartbeats 8000000
theorem gN{l:List Fl}{k:Nat}(h:k<l.length):(aQ l)[((k:Nat):Int).toNat]? = some (fZ l[k]):=by
 simp[aQ,JS h]
theorem GE(l:List Fl)(hl:l.length<=1000):aR prog [] 18 [.il 4 (aQ l)] (.il 4 (aQ l)):=by
 have nl:NN (.il 4 (aQ l)):=.il' (aM l);have ll:=aZ l;refine aN eG func18 rfl ?_;refine Rr ?_;refine bH.ph 57 4 ?_;refine bH.at eG (fun k:Nat=>k<=l.length)
  (fun k=>⟨[(0,.il 4 (aQ l)),(3,.sl 0 0 k),(4,.int .i64 k)],[(0,.row 57 4 (aQ (l.take k)))],1,26⟩) (fun k=>l.length-k) 0 [(0,0)] (by simp)
  (bD _ rfl ⟨⟨0,_,rfl,rfl,.nil⟩,trivial⟩ ⟨aP nl,⟨_,rfl,.nslk 0 0 _ rfl rfl⟩,aL,trivial⟩) ?_
 intro k hk;have lk:(aQ (l.take k)).length=k:=by rw[aZ,J2];omega
 refine Rr ?_;refine b7 (fun hb=>?_) (fun hb=>?_)
 ·rw[hb];have hlt:k<l.length:=by have:=Jr hb;omega
  have e:=gN hlt;have e2:aQ (l.take (k+1))=aQ (l.take k)++[fZ l[k]]:=by rw[Jd hlt,aQ,J3];rfl
  have hn:=hU l[k];generalize l[k]=f at e e2 hn;obtain⟨p,o1,o2,o3⟩:=f;refine Rr ?_;repeat((first|refine aI e ?_|refine aF ?_);refine Rr ?_)
  refine aS (dY rfl rfl (by rw[lk]) (by simp;omega)) ?_;refine Rr ?_;repeat((first|refine aI e ?_|refine aF ?_);refine Rr ?_)
  exact .mk (k+1) [(16,0)] om (bD _ rfl ⟨⟨16,_,rfl,rfl,.eq (aM _) (by rw[e2];rfl)⟩,trivial⟩ ⟨aP nl,⟨_,rfl,.slE rfl (by simp)⟩,⟨_,rfl,.w64 om ⟨om,om⟩⟩,trivial⟩) om
 ·rw[hb];refine Rr ?_;have:k=l.length:=by have:=KU hb;omega
  subst this;exact b8 (r':=.il 4 (aQ l)) (.fzR (id:=0) rfl rfl (.eq (aM _) (by rw[Jx])) ll) ⟨rfl,rfl,rfl⟩
theorem Iq(l:List Gr)(hl:l.length<=1000)(hi:∀g∈l,g.fs.length<=1000):aR prog [] 6 [.il 5 (aD l)] (.il 5 (aD l)):=by
 have nl:NN (.il 5 (aD l)):=.il' (aK l);have ll:=bA l;refine aN eG func6 rfl ?_;refine Rr ?_;refine bH.ph 33 5 ?_;refine bH.at eG (fun k:Nat=>k<=l.length)
  (fun k=>⟨[(0,.il 5 (aD l)),(3,.sl 0 0 k),(4,.int .i64 k)],[(0,.row 33 5 (aD (l.take k)))],1,32⟩) (fun k=>l.length-k) 0 [(0,0)] (by simp)
  (bD _ rfl ⟨⟨0,_,rfl,rfl,.nil⟩,trivial⟩ ⟨aP nl,⟨_,rfl,.nslk 0 0 _ rfl rfl⟩,aL,trivial⟩) ?_
 intro k hk;have lk:(aD (l.take k)).length=k:=by rw[bA,J2];omega
 refine Rr ?_;refine b7 (fun hb=>?_) (fun hb=>?_)
 ·rw[hb];have hlt:k<l.length:=by have:=Jr hb;omega
  have e:=iV hlt;have e2:aD (l.take (k+1))=aD (l.take k)++[dV l[k]]:=by rw[Jd hlt,aD,J3];rfl
  have hn:=eN l[k];have hF:=GE l[k].fs (hi _ (Jl hlt));generalize l[k]=f at e e2 hn hF;obtain⟨p,⟨o1,o2,o3⟩,fs⟩:=f;have nf:NN (.il 4 (aQ fs)):=.il' (aM fs);refine Rr ?_;repeat((first|refine aI e ?_|refine aF ?_);refine Rr ?_)
  refine hF.go ?_ (.cons nf .nil) nf;refine Rr ?_;repeat((first|refine aI e ?_|refine aF ?_);refine Rr ?_)
  refine aS (dY rfl rfl (by rw[lk]) (by simp;omega)) ?_;refine Rr ?_;repeat((first|refine aI e ?_|refine aF ?_);refine Rr ?_)
  exact .mk (k+1) [(22,0)] om (bD _ rfl ⟨⟨22,_,rfl,rfl,.eq (aK _) (by rw[e2];rfl)⟩,trivial⟩ ⟨aP nl,⟨_,rfl,.slE rfl (by simp)⟩,⟨_,rfl,.w64 om ⟨om,om⟩⟩,trivial⟩) om
 ·rw[hb];refine Rr ?_;have:k=l.length:=by have:=KU hb;omega
  subst this;exact b8 (r':=.il 5 (aD l)) (.fzR (id:=0) rfl rfl (.eq (aK _) (by rw[Jx])) ll) ⟨rfl,rfl,rfl⟩
end Go.Proofs.YtnbkfjjdlofdpaaGreatDoor
namespace Go.Ax
open Go
def JL(rest:aA)(Q:Exit->St->Prop)(e:Exit)(s:St):Prop:=(∀p∈s.mem,∀q∈rest,p.1≠q.1)/\Q e ⟨s.sl,s.mem++rest,s.nx,s.nt⟩
theorem cJ.frame{P:Program}{Γ:List (Nat × AV)}{B:Nat}{c:Code}{sl:List (Nat × AV)}{m1 rest:aA}{nx nt:Nat}{Q:Exit->St->Prop}(h:cJ P Γ nx c ⟨sl,m1,nx,nt⟩ (JL rest Q)):cJ P Γ B c ⟨sl,m1++rest,nx,nt⟩ Q:=by
 refine⟨fun rd X ds D ρ a w hD hs hB hr=>?_⟩;have hn:=hs.mr.nod;simp only[J3] at hn;obtain⟨n1,n2,n3⟩:=KI.1 hn;have hp:k0 (m1++rest) m1 rest:=⟨fun p h=>Je _ h,fun p h=>Jw _ h,fun p h=>JV.1 h,fun p hp q hq=>n3 _ (LL hp) _ (LL hq),n1⟩
 obtain⟨p1,pv⟩:=hs.mr.part hp;obtain⟨q1,qv,qe⟩:=p1.widen (D':=dn (dn D B nx) nx nx) (fun i hi=>.inl hi);have hs1:SR Γ (XR X ρ rest) ds ρ (dn (dn D B nx) nx nx) ⟨sl,m1,nx,nt⟩ a w:=⟨q1,hp.mks hs.def0,hs.size,fun i v hi=>qv _ _ (pv _ _ (hs.slot i v hi))⟩
 refine wpIn_mono (h.run rd (XR X ρ rest) ds (dn D B nx) ρ a w (jY hD hB) hs1 (JX _) hr) ?_;rintro e a' w' ⟨s',ρ',⟨hdis,hq⟩,hB',hs',ext⟩;obtain⟨j1,j2,j3,j4⟩:=MR.join hs.mr hp hs'.mr ext (fun p h=>h) hdis n2;obtain⟨k1,kv,ke⟩:=j1.widen (iD hB hB');have hO:∀b,OX X ρ' (s'.mem++rest) b->OX (XR X ρ rest) ρ' s'.mem b:=by
  rintro b (h|⟨p,hp',hn,e⟩)
  ·exact .inl (.inl h)
  ·rcases JV.1 hp' with h|h
   ·exact .inr ⟨p,h,hn,e⟩
   ·rw[ext.agree _ (hs.mr.low p (hp.subr p h))] at hn e;exact .inl (.inr ⟨p,h,hn,e⟩)
 exact⟨⟨s'.sl,s'.mem++rest,s'.nx,s'.nt⟩,ρ',hq,J0 hB hB',⟨k1,hs'.def0.at (JX _) fun b _ ho=>⟨fun h=>ho (hO b h),rfl⟩,hs'.size,fun i v hi=>kv _ _ (j2 _ _ (hs'.slot i v hi))⟩,(j4 D fun i hi=>.inl hi).wide (iD hB hB')⟩
theorem bH.frame{P:Program}{Γ:List (Nat × AV)}{B:Nat}{c:Code}{sl:List (Nat × AV)}{m1 rest:aA}{nx nt:Nat}{Q:Exit->St->Prop}(h:bH P Γ nx c ⟨sl,m1,nx,nt⟩ (JL rest Q)):bH P Γ B c ⟨sl,m1++rest,nx,nt⟩ Q:=⟨cJ.frame h.run⟩
theorem HL{P:Program}{Γ:List (Nat × AV)}{id mid n:Nat}{sn:List Nat}{es:List (AV × AV)}{mem:aA}{nx:Nat}{K:AV->aA->Nat->Prop}{K1:AV->aA->Prop}(hK:∀v m,K v m nx->K1 v m)(hid:lk mem id=some (.iter mid n sn))(hmid:lk mem mid=some (.mapb es))(hn:es.length=n)
  (h1:∀i k v,i∉sn->es[i]? = some (k,v)->K (.tup [.bool true,k,v]) (up mem id (.iter mid n (i::sn))) nx) (h2:(∀i,i<n->i∈sn)->K (.tup [.bool false]) mem nx) :
  IP (oU mem (.ptr id 0 0)) K1 (aC P Γ YF [.ptr id 0 0] mem nx K):=by
 unfold IP;split
 ·rename_i v m h;obtain⟨mid',n',sn',es',a1,a2,a3,a4⟩:=xV h;rw[hid] at a1;cases a1;rw[hmid] at a2;cases a2;by_cases hex:∃i,i<n/\i∉sn
  ·obtain⟨i,hi,hs⟩:=hex;obtain⟨⟨k,u⟩,hku⟩:∃e,es[i]? = some e:=⟨es[i],by simp⟩
   obtain⟨rfl,rfl⟩:=a4 _ _ (.inl ⟨i,k,u,hs,hku,rfl,rfl⟩);exact hK _ _ (h1 i k u hs hku)
  ·have hall:∀i,i<n->i∈sn:=fun i hi=>Classical.byContradiction fun h=>hex ⟨i,hi,h⟩
   obtain⟨rfl,rfl⟩:=a4 _ _ (.inr ⟨hall,rfl,rfl⟩);exact hK _ _ (h2 hall)
 ·exact aC.next hid hmid hn h1 h2
end Go.Ax
