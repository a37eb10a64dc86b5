/- A part of the proof. -/
import Derived.Test.YtnbkfjjdlofdpaaGreatDoorAx9
import Derived.Shelf.Small.Bits
import Derived.Shelf.Strconv.Itoa0
import Derived.Shelf.Strconv.Itoa1
import Derived.Shelf.LaysM
import Derived.Shelf.Strconv.Itoa2
import Derived.Shelf.Strconv.Itoa3
import Derived.Ground.SlsfProg
import Derived.Shelf.SlSortCmp.Insertion
import Derived.Test.YtnbkfjjdlofdpaaGreatDoorProg
import Derived.KernelRfl
set_option linter.unusedVariables false
set_option linter.unusedSimpArgs false
set_option linter.unusedSectionVars false
namespace Go.Proofs
open Go.Shelf
def Tryz.lays129_ren:Go.Shelf.Ren:=⟨fun|129=>60|n=>n,fun|53=>110|3=>3|4=>4|46=>87|5=>5|9=>9|n=>n,fun|n=>n⟩
theorem Tryz.lays129:Go.Proofs.Lays.n129 Tryz.prog Tryz.lays129_ren:={
 mixed:=by kernel_rfl
 f129:=Tryz.func60.trans (congrArg some (by kernel_rfl))
 t3:=Tryz.underlying3
 a3:=Tryz.isAgg3
 z3:=Tryz.sizeOf3
 v3:=Tryz.zeroValue3
 t4:=Tryz.underlying4
 a4:=Tryz.isAgg4
 z4:=Tryz.sizeOf4
 v4:=Tryz.zeroValue4
 t5:=Tryz.underlying5
 a5:=Tryz.isAgg5
 z5:=Tryz.sizeOf5
 v5:=Tryz.zeroValue5
 t9:=Tryz.underlying9
 a9:=Tryz.isAgg9
 z9:=Tryz.sizeOf9
 v9:=Tryz.zeroValue9
 t46:=Tryz.underlying87
 a46:=Tryz.isAgg87
 z46:=Tryz.sizeOf87
 v46:=Tryz.zeroValue87
 t53:=Tryz.underlying110
 a53:=Tryz.isAgg110
 z53:=Tryz.sizeOf110
 v53:=Tryz.zeroValue110 }
theorem Tryz.bits_Len64(x:Int)(w:World)(h0:0<=x)(h1:x<=18446744073709551615) :
  Calls Tryz.prog 60 #[.int .u64 x] w fun e w'=>e = .returned (.int .i64 (Lib.bitLen x.toNat))/\w'=w:=Any.bits_Len64 Tryz.lays129 x w h0 h1
def Tryz.lays317_ren:Go.Shelf.Ren:=⟨fun|317=>106|n=>n,fun|3=>3|46=>87|n=>n,fun|n=>n⟩
theorem Tryz.lays317:Go.Proofs.Lays.n317 Tryz.prog Tryz.lays317_ren:={
 mixed:=by kernel_rfl
 f317:=Tryz.func106.trans (congrArg some (by kernel_rfl))
 t3:=Tryz.underlying3
 a3:=Tryz.isAgg3
 z3:=Tryz.sizeOf3
 v3:=Tryz.zeroValue3
 t46:=Tryz.underlying87
 a46:=Tryz.isAgg87
 z46:=Tryz.sizeOf87
 v46:=Tryz.zeroValue87 }
open Go.Lib in
theorem Tryz.internal_strconv_log10Pow2(x:Nat)(h:x<=64)(w:World) :
  Calls Tryz.prog 106 #[.int .i64 x] w fun e w'=>e = .returned (.int .i64 (Lib.l10 x))/\w'=w:=Any.internal_strconv_log10Pow2 Tryz.lays317 x h w
open Go.Lib in
def Tryz.lays283_ren:Go.Shelf.Ren:=⟨fun|283=>84|n=>n,fun|3=>3|9=>9|4=>4|n=>n,fun|n=>n⟩
theorem Tryz.lays283:Go.Proofs.Lays.n283 Tryz.prog Tryz.lays283_ren:={
 mixed:=by kernel_rfl
 f283:=Tryz.func84.trans (congrArg some (by kernel_rfl))
 t3:=Tryz.underlying3
 a3:=Tryz.isAgg3
 z3:=Tryz.sizeOf3
 v3:=Tryz.zeroValue3
 t4:=Tryz.underlying4
 a4:=Tryz.isAgg4
 z4:=Tryz.sizeOf4
 v4:=Tryz.zeroValue4
 t9:=Tryz.underlying9
 a9:=Tryz.isAgg9
 z9:=Tryz.sizeOf9
 v9:=Tryz.zeroValue9 }
open Go.Lib in
theorem Tryz.internal_strconv_small(i:Nat)(h:i<100)(w:World) :
  Calls Tryz.prog 84 #[.int .i64 i] w fun e w'=>e = .returned (.string ⟨(Lib.decDigits i).toArray⟩)/\w'=w:=Any.internal_strconv_small Tryz.lays283 i h w
def Tryz.lays285_ren:Go.Shelf.Ren:=⟨fun|285=>86|n=>n,fun|37=>140|53=>110|3=>3|4=>4|51=>108|9=>9|5=>5|0=>0|n=>n,fun|n=>n⟩
theorem Tryz.lays285:Go.Proofs.Lays.n285 Tryz.prog Tryz.lays285_ren:={
 mixed:=by kernel_rfl
 f285:=Tryz.func86.trans (congrArg some (by kernel_rfl))
 t0:=Tryz.underlying0
 a0:=Tryz.isAgg0
 z0:=Tryz.sizeOf0
 v0:=Tryz.zeroValue0
 t3:=Tryz.underlying3
 a3:=Tryz.isAgg3
 z3:=Tryz.sizeOf3
 v3:=Tryz.zeroValue3
 t4:=Tryz.underlying4
 a4:=Tryz.isAgg4
 z4:=Tryz.sizeOf4
 v4:=Tryz.zeroValue4
 t5:=Tryz.underlying5
 a5:=Tryz.isAgg5
 z5:=Tryz.sizeOf5
 v5:=Tryz.zeroValue5
 t9:=Tryz.underlying9
 a9:=Tryz.isAgg9
 z9:=Tryz.sizeOf9
 v9:=Tryz.zeroValue9
 t37:=Tryz.underlying140
 a37:=Tryz.isAgg140
 z37:=Tryz.sizeOf140
 v37:=Tryz.zeroValue140
 t51:=Tryz.underlying108
 a51:=Tryz.isAgg108
 z51:=Tryz.sizeOf108
 v51:=Tryz.zeroValue108
 t53:=Tryz.underlying110
 a53:=Tryz.isAgg110
 z53:=Tryz.sizeOf110
 v53:=Tryz.zeroValue110 }
open Go.RowKit Go.Sort Go.Lib in
theorem Tryz.internal_strconv_formatBase10(blk off cap:Nat)(u:Nat)(d:Array UInt8)(w:World)(hH:Holds (fun(b:UInt8)=>Value.int .u8 (b.toNat:Int)) w blk off d)(hu:u<10 ^ d.size)(hu64:u<18446744073709551616)(hsz:d.size<4611686018427387904) :
  Calls Tryz.prog 86 #[.slice (some ⟨blk,off,none⟩) d.size cap,.int .u64 u] w fun e w'=>
   e = .returned (.tuple #[])/\∃(n v':Nat) (dk:Array UInt8),w'=(putRow (fun(b:UInt8)=>Value.int .u8 (b.toNat:Int)) w blk off dk).drewN n/\FmtInv d.size u 0 v' dk:=Any.internal_strconv_formatBase10 Tryz.lays285 blk off cap u d w hH hu hu64 hsz
end Go.Proofs
namespace Go.Proofs.YtnbkfjjdlofdpaaGreatDoor
open Go Go.Ax Go.Proofs Tryz
set_option maxRecDepth 1000000
set_option maxRecDepth 1000000
def gz:List (Nat × AV):=[(0,.agg [.int .u64 1,.int .u64 10,.int .u64 100,.int .u64 1000,.int .u64 10000,.int .u64 100000,.int .u64 1000000,.int .u64 10000000,.int .u64 100000000,.int .u64 1000000000,.int .u64 10000000000,.int .u64 100000000000,.int .u64 1000000000000,.int .u64 10000000000000,.int .u64 100000000000000,.int .u64 1000000000000000,.int .u64 10000000000000000,.int .u64 100000000000000000,.int .u64 1000000000000000000,.int .u64 10000000000000000000]),(1,.agg [.int .u8 0,.int .u8 1,.int .u8 28,.int .u8 2,.int .u8 29,.int .u8 14,.int .u8 24,.int .u8 3,.int .u8 30,.int .u8 22,.int .u8 20,.int .u8 15,.int .u8 25,.int .u8 17,.int .u8 4,.int .u8 8,.int .u8 31,.int .u8 27,.int .u8 13,.int .u8 23,.int .u8 21,.int .u8 19,.int .u8 16,.int .u8 7,.int .u8 26,.int .u8 12,.int .u8 18,.int .u8 6,.int .u8 11,.int .u8 5,.int .u8 10,.int .u8 9]),(2,.agg [.int .u8 0,.int .u8 1,.int .u8 56,.int .u8 2,.int .u8 57,.int .u8 49,.int .u8 28,.int .u8 3,.int .u8 61,.int .u8 58,.int .u8 42,.int .u8 50,.int .u8 38,.int .u8 29,.int .u8 17,.int .u8 4,.int .u8 62,.int .u8 47,.int .u8 59,.int .u8 36,.int .u8 45,.int .u8 43,.int .u8 51,.int .u8 22,.int .u8 53,.int .u8 39,.int .u8 33,.int .u8 30,.int .u8 24,.int .u8 18,.int .u8 12,.int .u8 5,.int .u8 63,.int .u8 55,.int .u8 48,.int .u8 27,.int .u8 60,.int .u8 41,.int .u8 37,.int .u8 16,.int .u8 46,.int .u8 35,.int .u8 44,.int .u8 21,.int .u8 52,.int .u8 32,.int .u8 23,.int .u8 11,.int .u8 54,.int .u8 26,.int .u8 40,.int .u8 15,.int .u8 34,.int .u8 20,.int .u8 31,.int .u8 10,.int .u8 25,.int .u8 14,.int .u8 19,.int .u8 9,.int .u8 13,.int .u8 8,.int .u8 7,.int .u8 6])]
set_option maxRecDepth 100000
set_option maxHeartbeats 4000000
theorem a7:∀p∈gz,NN p.2:=fun p hp=>by
 simp only[gz,JA,KA,or_false] at hp;rcases hp with rfl|rfl|rfl
 ·exact nn
 ·exact nn
 ·exact nn
theorem GN(u:Nat)(h:u<18446744073709551616):aS prog [] 60 [.int .u64 u] (.int .i64 (Lib.bitLen u)):=
 q6 (fun _ _ _ _ _ h=>vZ h) fun w _=>(Tryz.bits_Len64 u w om om).mono fun e w' ⟨h1,h2⟩=>⟨_,h1,fun _ _ _ _=>.int _ _,by rw[h2];exact .refl w⟩
theorem Fq(x:Nat)(h:x<=64):aS prog [] 106 [.int .i64 x] (.int .i64 (Lib.l10 x)):=
 q6 (fun _ _ _ _ _ h=>vZ h) fun w _=>(Tryz.internal_strconv_log10Pow2 x h w).mono fun e w' ⟨h1,h2⟩=>⟨_,h1,fun _ _ _ _=>.int _ _,by rw[h2];exact .refl w⟩
theorem Fv(i:Nat)(h:i<100):aS prog [] 84 [.int .i64 i] (.str (Lib.decDigits i)):=
 q6 (fun _ _ _ _ _ h=>vZ h) fun w _=>(Tryz.internal_strconv_small i h w).mono fun e w' ⟨h1,h2⟩=>⟨_,h1,fun _ _ _ _=>.str _,by rw[h2];exact .refl w⟩
theorem GT(b:Bool):aS prog [] 107 [.bool b] (.int .i64 (if b then 1 else 0)):=by
 cases b
 all_goals
  refine aR fS func107 rfl ?_;refine Rr ?_;exact aJ nn ⟨rfl,rfl,rfl⟩
theorem DE(t:TypeId)(xs:List UInt8)(u:Nat)(hu64:u<18446744073709551616)(hlen:1+Lib.nDigits u<=xs.length)(hxl:xs.length<=1000) :
  aC prog [] 86 [.sl 0 1 (Lib.nDigits u),.int .u64 u] [(0,.row t 1 (eT xs))] 1 fun r m n=>r = .tup []/\m=[(0,.row t 1 (eT (xs.take 1++Lib.decDigits u++xs.drop (1+Lib.nDigits u))))]:=
 Hp Tryz.internal_strconv_formatBase10 xs u hu64 hlen hxl
def Hv:List AV:=[.int .u64 1,.int .u64 10,.int .u64 100,.int .u64 1000,.int .u64 10000,.int .u64 100000,.int .u64 1000000,.int .u64 10000000,.int .u64 100000000,.int .u64 1000000000,.int .u64 10000000000,.int .u64 100000000000,.int .u64 1000000000000,.int .u64 10000000000000,.int .u64 100000000000000,.int .u64 1000000000000000,.int .u64 10000000000000000,.int .u64 100000000000000000,.int .u64 1000000000000000000,.int .u64 10000000000000000000]
theorem Gd(q:Nat)(h:q<=19):Hv[q]? = some (.int .u64 ((10 ^ q:Nat):Int)):=by
 rcases(show q=0∨q=1∨q=2∨q=3∨q=4∨q=5∨q=6∨q=7∨q=8∨q=9∨q=10∨q=11∨q=12∨q=13∨q=14∨q=15∨q=16∨q=17∨q=18∨q=19 by omega) with rfl|rfl|rfl|rfl|rfl|rfl|rfl|rfl|rfl|rfl|rfl|rfl|rfl|rfl|rfl|rfl|rfl|rfl|rfl|rfl<;>rfl
theorem s7(u:Nat)(h1:1<=u)(h2:u<18446744073709551616):aS prog gz 85 [.int .u64 u] (.int .i64 (Lib.nDigits u)):=by
 obtain⟨e1,e2⟩:=Lib.numDigits_eq u h1 h2;have hL:=GN u h2;have hb:Lib.bitLen u<=64:=Lib.bitLen_le u 64 (JG _) h2;generalize Lib.bitLen u=L at *;have hq:=Fq L hb;generalize Lib.l10 L=q at *;generalize Lib.nDigits u=nd at *;have htab:=Gd q e2;refine aR a7 func85 rfl ?_;refine Rr ?_;refine hL.goG ?_;refine Rr ?_;refine hq.goG ?_;refine Rr ?_;refine aM (b:=Nat.blt q 20) (JD om) ?_;refine Rr ?_;have htab':Hv[((q:Int)).toNat*1]? = some (.int .u64 ((10 ^ q:Nat):Int)):=by simpa using htab
 clear htab;have hpq:∃pq:Int,pq=((10 ^ q:Nat):Int):=⟨_,rfl⟩
 obtain⟨pq,hpq⟩:=hpq;rw[←hpq] at htab';refine aD htab' ?_;refine Rr ?_;refine(GT _).goG ?_;refine Rr ?_;refine aJ nn ⟨?_,rfl,rfl⟩;congr 1;have hle:decide ((u:Int)≥pq)=decide (10 ^ q<=u):=by rw[hpq];simp only[ge_iff_le,Int.ofNat_le]
 have hnd:nd<=20:=by rw[←e1];split<;>omega
 rw[hle,w64 (y:=(nd:Int)) _ ⟨om,om⟩];rw[←e1];by_cases hc:10 ^ q<=u<;>simp[hc]
theorem mL(u:Nat)(h2:u<18446744073709551616):Lib.nDigits u<=20:=by
 by_cases h1:1<=u
 ·obtain⟨e1,e2⟩:=Lib.numDigits_eq u h1 h2;rw[←e1];split<;>omega
 ·rw[Lib.nDigits_small om];omega
theorem rD(n:Int):IntKind.u64.wrap n=n%18446744073709551616:=by
 simp[IntKind.wrap,IntKind.bits,IntKind.signed]
theorem AI(n:Int)(hn:i64 n):aS prog gz 48 [.int .i64 n,.int .i64 10] (.str (Lib.itoa n)):=by
 rcases(show (0<=n/\n<100)∨100<=n∨n<0 by omega) with⟨h0,h1⟩|h1|h1
 ·obtain⟨i,rfl⟩:∃i:Nat,n=i:=⟨n.toNat,om⟩
  have d2:decide ((i:Int)<100)=true:=by simpa using h1
  refine aR a7 func48 rfl ?_;refine Rr ?_;rw[d2];refine Rr ?_;refine(Fv i om).goG ?_;refine Rr ?_;refine aJ nn ⟨?_,rfl,rfl⟩;rw[Lib.itoa_nonneg]
 ·obtain⟨u,rfl⟩:∃i:Nat,n=i:=⟨n.toNat,om⟩
  have d2:decide ((u:Int)<100)=false:=by simp;omega
  have d3:decide ((u:Int)<0)=false:=by simp
  unfold i64 at hn;have hw:IntKind.u64.wrap (u:Int)=(u:Int):=by rw[rD];omega
  have hu64:u<18446744073709551616:=om;have hnd:=mL u hu64;have hF:=(DE 138 (List.replicate 24 0) u hu64 (by simp;omega) (by simp)).glob (Γ:=gz);have hdl:=Lib.decDigits_length u;have hN:=s7 u om hu64;have hdd:(Lib.decDigits u++List.drop (1+Lib.nDigits u) (List.replicate 24 0)).length=23:=by simp[hdl];omega
  have hit:=Lib.itoa_nonneg u;generalize Lib.nDigits u=nd at hN hF hnd hdl hdd;generalize Lib.decDigits u=ds at hF hdl hit hdd;refine aR a7 func48 rfl ?_;refine Rr ?_;rw[d2];refine Rr ?_;rw[hw];refine hN.use a7 xA nn ?_;refine Rr ?_;rw[w64 (x:=1+(nd:Int)) (y:=((1+nd:Nat):Int)) om ⟨om,om⟩];refine Rr ?_;refine aM (rJ (by simp;omega) (by simp;omega) (by simp)) ?_;refine Rr ?_;refine aC.useI a7 [0] hF (by rfl) (.cons (.slE rfl (by simp;omega)) (.s .nil)) ⟨eN 0 (qO _),trivial⟩ rfl ?_;rintro r m n' ⟨rfl,rfl⟩;refine⟨nn,⟨eN 0 (qO _),trivial⟩,rfl, ?_⟩;have hlist:List.take 1 (List.replicate 24 (0:UInt8))++ds++List.drop (1+nd) (List.replicate 24 0)=0::(ds++List.drop (1+nd) (List.replicate 24 0)):=rfl;rw[hlist];have htk:List.take nd (ds++List.drop (1+nd) (List.replicate 24 0))=ds:=by rw[KQ om,KE om]
  generalize ds++List.drop (1+nd) (List.replicate 24 0)=rest at hdd htk;have hrl:(eT (0::rest)).length=24:=by rw[fD];simp[hdd]
  refine Rr ?_;refine aM (by rw[JE];exact⟨rfl,JD (by rw[hrl];omega)⟩) ?_;refine Rr ?_;rw[w64 (x:=1+(nd:Int)) (y:=((1+nd:Nat):Int)) om ⟨om,om⟩];refine Rr ?_;refine aM (rJ (by simp;omega) (by simp;omega) (by simp)) ?_;refine Rr ?_;refine aM (JD (by rw[hrl];simp;omega)) ?_;refine aD (a:=ds) ?_ ?_
  ·rw[tZ,tU,jB]
   show some (List.take ((((1+nd:Nat):Int)).toNat-1) rest)=some ds
   rw[←htk];congr 2;simp;omega
  refine Rr ?_;refine aJ nn ⟨?_,rfl,rfl⟩;rw[hit]
 ·obtain⟨u,rfl⟩:∃i:Nat,n = -(i:Int):=⟨(-n).toNat,om⟩
  have d1:decide (0<=-(u:Int))=false:=by simp;omega
  have d3:decide (-(u:Int)<0)=true:=by simp;omega
  unfold i64 at hn;have hw:IntKind.u64.wrap (0-IntKind.u64.wrap (-(u:Int)))=(u:Int):=by rw[rD,rD];omega
  have hu64:u<18446744073709551616:=om;have hnd:=mL u hu64;have hF:=(DE 138 (List.replicate 24 0) u hu64 (by simp;omega) (by simp)).glob (Γ:=gz);have hdl:=Lib.decDigits_length u;have hN:=s7 u om hu64;have hdd:(Lib.decDigits u++List.drop (1+Lib.nDigits u) (List.replicate 24 0)).length=23:=by simp[hdl];omega
  have hit:=Lib.itoa_neg u om;generalize Lib.nDigits u=nd at hN hF hnd hdl hdd;generalize Lib.decDigits u=ds at hF hdl hit hdd;refine aR a7 func48 rfl ?_;refine Rr ?_;rw[d1];refine Rr ?_;rw[d3];refine Rr ?_;rw[hw];refine hN.use a7 xA nn ?_;refine Rr ?_;rw[w64 (x:=1+(nd:Int)) (y:=((1+nd:Nat):Int)) om ⟨om,om⟩];refine Rr ?_;refine aM (rJ (by simp;omega) (by simp;omega) (by simp)) ?_;refine Rr ?_;refine aC.useI a7 [0] hF (by rfl) (.cons (.slE rfl (by simp;omega)) (.s .nil)) ⟨eN 0 (qO _),trivial⟩ rfl ?_;rintro r m n' ⟨rfl,rfl⟩;refine⟨nn,⟨eN 0 (qO _),trivial⟩,rfl, ?_⟩;have hlist:List.take 1 (List.replicate 24 (0:UInt8))++ds++List.drop (1+nd) (List.replicate 24 0)=0::(ds++List.drop (1+nd) (List.replicate 24 0)):=rfl;rw[hlist];have htk:List.take nd (ds++List.drop (1+nd) (List.replicate 24 0))=ds:=by rw[KQ om,KE om]
  generalize ds++List.drop (1+nd) (List.replicate 24 0)=rest at hdd htk;have hrl:∀b,(eT (b::rest)).length=24:=fun b=>by rw[fD];simp[hdd]
  refine Rr ?_;rw[d3];refine Rr ?_;refine aM (by rw[JE];exact⟨rfl,JD (Nat.le_of_eq (hrl 45).symm)⟩) ?_;refine Rr ?_;rw[w64 (x:=1+(nd:Int)) (y:=((1+nd:Nat):Int)) om ⟨om,om⟩];refine Rr ?_;refine aM (rJ (by simp) (by simp;omega) (by simp)) ?_;refine Rr ?_;refine aM (JD (show _<=(eT (45::rest)).length by rw[hrl];simp;omega)) ?_;refine aD (a:=45::ds) (show cB (List.take ((((1+nd:Nat):Int)).toNat-0) (List.drop (0+0) (eT (45::rest))))=_ from ?_) ?_
  ·rw[tZ,tU,jB];have e:(((1+nd:Nat):Int)).toNat-0=nd+1:=by simp;omega
   rw[e]
   show some (45::List.take nd rest)=_
   rw[htk]
  refine Rr ?_;refine aJ nn ⟨?_,rfl,rfl⟩;rw[hit]
theorem Gg(n:Int)(hn:i64 n):aS prog gz 34 [.int .i64 n] (.str (Lib.itoa n)):=by
 have h:=AI n hn;generalize Lib.itoa n=r at h;refine aR a7 func34 rfl ?_;refine Rr ?_;refine h.use a7 xA nn ?_;refine Rr ?_;exact aJ nn ⟨rfl,rfl,rfl⟩
theorem uT(n:Int)(hn:i64 n):aS prog gz 19 [.int .i64 n] (.str (Lib.itoa n)):=by
 have h:=Gg n hn;generalize Lib.itoa n=r at h;refine aR a7 func19 rfl ?_;refine Rr ?_;refine h.use a7 xA nn ?_;refine Rr ?_;exact aJ nn ⟨rfl,rfl,rfl⟩
set_option maxRecDepth 100000
theorem Dh(x:Int):aS prog [] 49 [.int .i64 x] (.bool false):=by
 refine jD fS func49 rfl ?_
 conv=>whnf
 refine aJ (.bool _) ⟨?_,rfl,rfl⟩;simp
theorem wY(x y:Int):aS prog [] 35 [.int .i64 x,.int .i64 y] (.int .i64 (dE x y)):=by
 refine jD fS func35 rfl ?_
 conv=>whnf
 refine(Dh x).use fS (.cons (.int _ _) .nil) (.bool _) ?_
 conv=>whnf
 refine(Dh y).use fS (.cons (.int _ _) .nil) (.bool _) ?_
 conv=>whnf
 refine bV (fun h=>?_) (fun h=>?_)
 ·conv=>whnf
  refine aJ (.int _ _) ⟨?_,rfl,rfl⟩;simp at h;simp[dE,h]
 conv=>whnf
 refine bV (fun h'=>?_) (fun h'=>?_)
 ·conv=>whnf
  refine aJ (.int _ _) ⟨?_,rfl,rfl⟩;simp at h h';simp only[dE];rw[JJ om,JL om]
 ·conv=>whnf
  refine aJ (.int _ _) ⟨?_,rfl,rfl⟩;simp at h h';simp only[dE];rw[JJ om,JJ om]
set_option maxRecDepth 100000
set_option maxHeartbeats 16000000
theorem fX{l:List Int}{k:Nat}(h:k<l.length):(aY l)[(k:Int).toNat]? = some (.int .i64 l[k]):=by
 rw[Jx,nY,I9 h];rfl
theorem CB{a b:List Int}{k:Nat}(h1:k<a.length)(h2:k<b.length):dQ (a.drop k) (b.drop k)=andThen (dE a[k] b[k]) (dQ (a.drop (k+1)) (b.drop (k+1))):=by
 rw[List.drop_eq_getElem_cons h1,List.drop_eq_getElem_cons h2,dQ]
theorem IT(a b:List Int)(ha:a.length<=4611686018427387904):aS prog [] 36 [.il 1 (aY a),.il 1 (aY b)] (.int .i64 (dQ a b)):=by
 have na:NN (.il 1 (aY a)):=.il' (aU a);have nb:NN (.il 1 (aY b)):=.il' (aU b);have la:=bB a;have lb:=bB b;refine aR fS func36 rfl ?_;refine Rr ?_;refine bJ.at fS (fun k:Nat=>k<=a.length/\k<=b.length/\dQ a b=dQ (a.drop k) (b.drop k))
  (fun k=>⟨[(0,.il 1 (aY a)),(1,.il 1 (aY b)),(9,.il 1 (aY a)),(10,.int .i64 (aY a).length),(11,.int .i64 k)],[],0,36⟩)
  (fun k=>a.length-k) 0 [] ⟨by simp,by simp,by simp⟩
  (aV ⟨aT na,aT nb,aT na,aK,aK,trivial⟩) ?_
 rintro k ⟨h1,h2,h3⟩;have d1:decide ((k:Int)<((aY a).length:Int))=decide (k<a.length):=by rw[la];exact Jn.2 om
 have d2:decide ((k:Int)≥((aY b).length:Int))=decide (k≥b.length):=by rw[lb];exact Jn.2 om
 by_cases hk:k<a.length
 ·by_cases hb:k≥b.length
  ·refine Rr ?_;rw[d1,JX hk];refine Rt ?_;repeat(refine aD (fX hk) ?_;refine Rt ?_)
   rw[d2,JX hb];refine Rr ?_;refine aJ nn ⟨?_,rfl,rfl⟩;rw[h3,Ks (l:=b) om,List.drop_eq_getElem_cons hk,dQ]
  ·have hb:k<b.length:=om;have hc:=wY a[k] b[k];have hs:=CB hk hb;generalize hce:dE a[k] b[k]=c at *;refine Rr ?_;rw[d1,JX hk];refine Rt ?_;repeat(refine aD (fX hk) ?_;refine Rt ?_)
   rw[d2,JZ om];refine Rt ?_;repeat(refine aD (fX hb) ?_;refine Rt ?_)
   refine hc.go ?_;refine Rr ?_;refine bV (fun h=>?_) (fun h=>?_)
   ·have h:c≠0:=by simpa using h
    refine Rr ?_;refine aJ nn ⟨?_,rfl,rfl⟩;rw[h3,hs,andThen,JJ h]
   ·have h:c=0:=by simpa using h
    refine Rr ?_;exact .mk (k+1) [] ⟨om,om,by rw[h3,hs,andThen,JL h]⟩ (aV ⟨aT na,aT nb,aT na,aK,⟨_,rfl,.w64 om ⟨om,om⟩⟩,trivial⟩) om
 ·have hd:a.drop k=[]:=Ks om;refine Rr ?_;rw[d1,JZ hk];refine Rr ?_;refine bV (fun h=>?_) (fun h=>?_)
  ·have h:a.length<b.length:=by rw[la,lb] at h;simpa using h
   refine Rr ?_;refine aJ nn ⟨?_,rfl,rfl⟩;rw[h3,hd,List.drop_eq_getElem_cons (show k<b.length by omega),dQ]
  ·have h:¬a.length<b.length:=by rw[la,lb] at h;simpa using h
   refine Rr ?_;refine aJ nn ⟨?_,rfl,rfl⟩;rw[h3,hd,Ks om,dQ]
theorem Il(x y:Int):aS prog [] 22 [.il 1 [.int .i64 x,.int .i64 y]] (.int .i64 (andThen x y)):=by
 have nl:NN (.il 1 [.int .i64 x,.int .i64 y]):=.il' (.cons nn (.cons nn .nil));refine aR fS func22 rfl ?_;refine Rr ?_;refine bJ.at fS (fun k:Nat=>k<=2/\(0<k->x=0)/\(1<k->y=0))
  (fun k=>⟨[(3,.int .i64 0),(6,.il 1 [.int .i64 x,.int .i64 y]),(7,.int .i64 2),(8,.int .i64 k)],[],0,18⟩)
  (fun k=>2-k) 0 [] ⟨om,om,om⟩
  (aV ⟨aK,aT nl,aK,aK,trivial⟩) ?_
 rintro k ⟨h1,h2,h3⟩
 match k,h1,h2,h3 with
 | 0,h1,h2,h3=>
  refine Rr ?_;refine bV (fun h=>?_) (fun h=>?_)
  ·have h:x≠0:=by simpa using h
   refine Rr ?_;refine aJ nn ⟨?_,rfl,rfl⟩;rw[andThen,JJ h]
  ·have h:x=0:=by simpa using h
   refine Rr ?_;exact .mk 1 [] ⟨om,fun _=>h,om⟩ (aV ⟨aK,aT nl,aK,⟨_,rfl,.w64 rfl ⟨om,om⟩⟩,trivial⟩) om
 | 1,h1,h2,h3=>
  refine Rr ?_;refine bV (fun h=>?_) (fun h=>?_)
  ·have h:y≠0:=by simpa using h
   refine Rr ?_;refine aJ nn ⟨?_,rfl,rfl⟩;rw[andThen,JL (h2 om)]
  ·have h:y=0:=by simpa using h
   refine Rr ?_;exact .mk 2 [] ⟨om,fun _=>h2 om,fun _=>h⟩ (aV ⟨aK,aT nl,aK,⟨_,rfl,.w64 rfl ⟨om,om⟩⟩,trivial⟩) om
 | 2,h1,h2,h3=>
  refine Rr ?_;refine aJ nn ⟨?_,rfl,rfl⟩;rw[andThen,JL (h2 om),h3 om]
theorem G9(a b:List Int)(ha:a.length<=4611686018427387904):aS prog [] 23 [.il 1 (aY a),.il 1 (aY b)] (.int .i64 (i9 a b)):=by
 have na:NN (.il 1 (aY a)):=.il' (aU a);have nb:NN (.il 1 (aY b)):=.il' (aU b);have hc:=wY ((aY a).length:Int) ((aY b).length:Int);have hs:=IT a b ha;have ho:=Il (dE ((aY a).length:Int) ((aY b).length:Int)) (dQ a b);have he:i9 a b=andThen (dE ((aY a).length:Int) ((aY b).length:Int)) (dQ a b):=by rw[bB,bB];rfl
 rw[he];generalize dE ((aY a).length:Int) ((aY b).length:Int)=x at *;generalize dQ a b=y at *;generalize andThen x y=z at *;refine aR fS func23 rfl ?_;refine Rr ?_;refine hc.go ?_;refine Rr ?_;refine hs.go ?_ (.cons na (.cons nb .nil)) nn;refine Rr ?_;refine aC.pre fS [] (mem':=[]) rfl trivial (.cons (.fz' (id:=0) (off:=0) (len:=2) (ys:=[.int .i64 x,.int .i64 y]) rfl rfl (by simp) rfl (.cons nn (.cons nn .nil))) .nil) ?_;refine ho.go ?_ (.cons (.il' (.cons nn (.cons nn .nil))) .nil) nn;refine Rr ?_;exact aJ nn ⟨rfl,rfl,rfl⟩
set_option maxRecDepth 100000
theorem s6(n:Int):i64 (IntKind.i64.wrap n):=by
 rw[IntKind.wrap_i64];exact⟨om,om⟩
set_option maxRecDepth 100000
set_option maxHeartbeats 16000000
theorem wI(n most:Int)(hn:i64 n)(hm:1<=most):aS prog [] 12 [.int .i64 n,.int .i64 most] (.int .i64 (fW n most)):=by
 have hz:decide (most≠0)=true:=by simp;omega
 unfold i64 at hn;refine aR fS func12 rfl ?_;refine Rr ?_;refine bV (fun h=>?_) (fun h=>?_)
 ·have h:n<0:=by simpa using h
  refine Rr ?_;refine aM (by rw[JZ om];rfl) ?_;refine Rr ?_;refine aJ nn ⟨?_,rfl,rfl⟩;rw[fW,JL h,w64 (x:=n+1) (y:=n+1) rfl ⟨om,om⟩,w64 (x:=0-(n+1)) (y:=-(n+1)) om ⟨om,om⟩]
 ·have h:¬n<0:=by simpa using h
  refine Rr ?_;refine aM (by rw[JZ om];rfl) ?_;refine Rr ?_;refine aJ nn ⟨?_,rfl,rfl⟩;rw[fW,JJ h]
theorem If(l m:List Int)(hl:l.length<=4294967296):aS prog [] 9 [.il 1 (aY l),.il 1 (aY m)] (.bool (decide (l=m))):=by
 refine aR fS func9 rfl ?_;refine Rr ?_;refine bV (fun h=>?_) (fun h=>?_)
 ·have h1:l.length≠m.length:=by rw[bB,bB] at h;simp at h;omega
  rw[JZ (fun e=>h1 (by rw[e]))];refine Rr ?_;exact aJ nn ⟨rfl,rfl,rfl⟩
 ·have h1:l.length=m.length:=by rw[bB,bB] at h;simp at h;omega
  refine Rr ?_;refine bJ.at fS (fun i:Nat=>i<=l.length/\decide (l=m)=decide (l.drop i=m.drop i)) (fun i=>⟨[(0,.il 1 (aY l)),(1,.il 1 (aY m)),(5,.int .i64 i)],[],0,26⟩) (fun i=>l.length-i) 0 [] ⟨by simp,by simp⟩
   (aV ⟨aT (.il' (aU _)),aT (.il' (aU _)),aK,trivial⟩) ?_
  rintro i ⟨hi,hs⟩;refine Rr ?_;refine bV (fun hb=>?_) (fun hb=>?_)
  ·have hil:i<l.length:=by rw[bB] at hb;simpa using hb
   have ep:(aY l)[((i:Nat):Int).toNat]? = some (.int .i64 l[i]):=by simp[nY,I9 hil]
   have eq:(aY m)[((i:Nat):Int).toNat]? = some (.int .i64 (m[i])):=by simp[nY,I9 (show i<m.length by omega)]
   rw[List.drop_eq_getElem_cons hil,List.drop_eq_getElem_cons (show i<m.length by omega)] at hs;generalize l[i]=p at ep hs;generalize m[i]=q at eq hs;refine Rr ?_;repeat((first|refine aD ep ?_|refine aD eq ?_|refine aH ?_);refine Rr ?_)
   refine bV (fun h=>?_) (fun h=>?_)
   ·have hne:p≠q:=by simpa using h
    rw[hs,JZ (fun e=>hne (List.cons.inj e).1)];refine Rr ?_;exact aJ nn ⟨rfl,rfl,rfl⟩
   ·have hne:p=q:=by simpa using h
    subst hne;refine Rr ?_;exact .mk (i+1) [] ⟨om,by rw[hs];simp⟩ (aV ⟨aT (.il' (aU _)),aT (.il' (aU _)),⟨_,rfl,.w64 om ⟨om,om⟩⟩,trivial⟩) om
  ·have hil:i=l.length:=by rw[bB] at hb;simp at hb;omega
   rw[hil,List.drop_length,h1,List.drop_length] at hs;rw[hs];refine Rr ?_;exact aJ nn ⟨rfl,rfl,rfl⟩
def Em:List UInt8:=[48,49,50,51,52,53,54,55,56,57]
theorem Bi{d:Nat}(h:d<10):List.take (((d+1:Nat):Int).toNat-((d:Nat):Int).toNat) (List.drop ((d:Nat):Int).toNat Em)=[UInt8.ofNat (48+d)]:=by
 rcases(show d=0∨d=1∨d=2∨d=3∨d=4∨d=5∨d=6∨d=7∨d=8∨d=9 by omega) with rfl|rfl|rfl|rfl|rfl|rfl|rfl|rfl|rfl|rfl<;>rfl
theorem uE(n:Int)(hn:i64 n):aS prog [] 20 [.int .i64 n] (.str (Lib.itoa n)):=by
 unfold i64 at hn;refine aR fS func20 rfl ?_;by_cases h0:n=0
 ·subst h0;rw[Bq];refine Rr ?_;exact aJ nn ⟨rfl,rfl,rfl⟩
 have e0:(n == 0)=false:=by simpa using h0
 refine Rr ?_;rw[e0];refine Rr ?_;refine bJ.at fS (fun a:Int × List UInt8=>a.1.natAbs<=n.natAbs/\(a.1=0∨(a.1<0↔n<0))/\Lib.decDigits n.natAbs=i5 a.1.natAbs++a.2)
  (fun a=>⟨[(0,.int .i64 n),(3,.str Em),(4,.str a.2),(5,.int .i64 a.1)],[],0,32⟩) (fun a=>a.1.natAbs) (n,[]) [] ⟨JG _,.inr Iff.rfl,by simp[i5,h0]⟩
  (aV ⟨aK,aK,aK,aK,trivial⟩) ?_
 rintro⟨k,s⟩ ⟨hk1,hk2,hk3⟩;simp only at hk1 hk2 hk3;have hsl:s.length<=20:=by
  have h1:=mL n.natAbs om;rw[←Lib.decDigits_length,hk3,Jz] at h1;omega
 by_cases hk0:k=0
 ·subst hk0;rw[show i5 (Int.natAbs 0)=[] from rfl,KD] at hk3;refine Rr ?_;refine bV (fun h=>?_) (fun h=>?_)
  ·refine Rr ?_;refine aM (JD (by simp;omega)) ?_;refine Rr ?_;refine aJ nn ⟨?_,rfl,rfl⟩;rw[Lib.itoa,JL (by simpa using h),hk3];rfl
  ·refine Rr ?_;refine aJ nn ⟨?_,rfl,rfl⟩;have h':¬n<0:=by simpa using h
   have e:n.toNat=n.natAbs:=om;rw[Lib.itoa,JJ h',e,hk3]
 ·have e1:(k == 0)=false:=by simpa using hk0
  refine Rr ?_;rw[show ((k,s).fst != 0)=true by simpa using hk0];have hq:=Int.mul_tdiv_add_tmod k 10;have hkq:k.tdiv 10=if 0<=k then((k.natAbs/10:Nat):Int) else -((k.natAbs/10:Nat):Int):=by
   split
   ·rw[K6 (by assumption)];omega
   ·obtain⟨q,rfl⟩:∃q:Nat,k = -(q:Int):=⟨k.natAbs,om⟩
    rw[Int.neg_tdiv,K6 om];simp
  have hkm:(k.tmod 10).natAbs=k.natAbs%10:=by split at hkq<;>omega
  have hkb:(k.tdiv 10).natAbs=k.natAbs/10:=by split at hkq<;>omega
  have hstep:=v7 (k:=k.natAbs) om;have hnext:∀b:UInt8,b=UInt8.ofNat (48+k.natAbs%10)->(fun a:Int × List UInt8=>a.1.natAbs<=n.natAbs/\(a.1=0∨(a.1<0↔n<0))/\Lib.decDigits n.natAbs=i5 a.1.natAbs++a.2) (k.tdiv 10,b::s):=by
   intro b hb;refine⟨by simp only;omega, ?_, ?_⟩
   ·simp only;split at hkq<;>omega
   ·simp only;rw[hk3,hstep,hkb,hb];simp
  have hb:i64 (k.tdiv 10):=by
   unfold i64;split at hkq<;>omega
  refine Rr ?_;refine bV (fun h=>?_) (fun h=>?_)
  ·have h':k.tmod 10<0:=by simpa using h
   have e1:IntKind.i64.wrap (0-k.tmod 10)=((k.natAbs%10:Nat):Int):=by rw[dI ⟨om,om⟩];omega
   have hkk:k.natAbs%10<10:=Kv _ (by decide);generalize hd:k.natAbs%10=d at *;have e2:IntKind.i64.wrap ((d:Int)+1)=((d+1:Nat):Int):=by rw[dI ⟨om,om⟩];omega
   refine Rr ?_;rw[e1];have hd10:d<10:=hkk;rw[e2];have z1:decide (0<=(d:Int))=true:=JX om;have z3:(Nat.ble ((d:Nat):Int).toNat ((d+1:Nat):Int).toNat && Nat.ble ((d+1:Nat):Int).toNat Em.length)=true:=by
    rw[Jx,Jx,JD om,JD (by show d+1<=10;omega)];rfl
   rw[z1];refine Rr ?_;refine aM z3 ?_;refine Rr ?_;rw[Bi hd10];refine aM (JD (by simp;omega)) ?_;refine Rr ?_;exact .mk (k.tdiv 10,UInt8.ofNat (48+d)::s) [] (hnext _ rfl) (aV ⟨aK,aK,aK,⟨_,rfl,.int (dI hb)⟩,trivial⟩) (by simp only;omega)
  ·have h':¬k.tmod 10<0:=by simpa using h
   have e1:k.tmod 10=((k.natAbs%10:Nat):Int):=om;have hkk:k.natAbs%10<10:=Kv _ (by decide);generalize hd:k.natAbs%10=d at *;have e2:IntKind.i64.wrap ((d:Int)+1)=((d+1:Nat):Int):=by rw[dI ⟨om,om⟩];omega
   refine Rr ?_;rw[e1];have hd10:d<10:=hkk;rw[e2];have z1:decide (0<=(d:Int))=true:=JX om;have z3:(Nat.ble ((d:Nat):Int).toNat ((d+1:Nat):Int).toNat && Nat.ble ((d+1:Nat):Int).toNat Em.length)=true:=by
    rw[Jx,Jx,JD om,JD (by show d+1<=10;omega)];rfl
   rw[z1];refine Rr ?_;refine aM z3 ?_;refine Rr ?_;rw[Bi hd10];refine aM (JD (by simp;omega)) ?_;refine Rr ?_;exact .mk (k.tdiv 10,UInt8.ofNat (48+d)::s) [] (hnext _ rfl) (aV ⟨aK,aK,aK,⟨_,rfl,.int (dI hb)⟩,trivial⟩) (by simp only;omega)
theorem oV{mem:aA}{id len:Nat}{t:TypeId}{sz:Nat}{xs ys:List AV}(h1:lk mem id=some (.row t sz xs))(e:len=xs.length)(h:xs=ys)(h5:hE ys):Cv mem [] (.sl id 0 len) (.il sz ys):=by
 subst h e;exact .fz' (id:=id) h1 rfl om (by rw[LF];exact KE om) h5
set_option maxRecDepth 100000
set_option maxHeartbeats 16000000
def H9(o:Oc):AV:=.agg [.int .i64 o.kind,.int .i64 o.at_,.int .i64 o.code]
theorem mE(o:Oc):NN (H9 o):=.agg' (.cons nn (.cons nn (.cons nn .nil)))
theorem Fh(n:Int)(hn:i64 n):aC prog [] 16 [.int .i64 n] [] 0 fun r m k=>∃p:List Int,p.length<=3/\(∀x∈p,i64 x)/\r = .il 1 (aY p)/\m=[]/\k=0:=by
 have hA:=wI n 60 hn (by decide);have hb:=iD (n:=n) (most:=60) (by decide);generalize fW n 60=k at *;refine aR fS func16 rfl ?_;refine Rr ?_;refine hA.go ?_;refine Rr ?_;have h7:k.tmod 7=0∨k.tmod 7=1∨k.tmod 7=2∨k.tmod 7=3∨k.tmod 7=4∨k.tmod 7=5∨k.tmod 7=6:=by
  rw[Int.tmod_eq_emod_of_nonneg hb.1];omega
 rcases h7 with h|h|h|h|h|h|h<;>rw[h]<;>refine Rr ?_
 ·exact dN (r':=.il 1 (aY [])) (.nil 1) ⟨[],by decide,by simp,rfl,rfl,rfl⟩
 ·exact dN (r':=.il 1 (aY [0])) (oV (id:=0) rfl rfl rfl (aU _)) ⟨[0],by decide,by simp[i64],rfl,rfl,rfl⟩
 ·exact dN (r':=.il 1 (aY [1])) (oV (id:=1) rfl rfl rfl (aU _)) ⟨[1],by decide,by simp[i64],rfl,rfl,rfl⟩
 ·exact dN (r':=.il 1 (aY [12])) (oV (id:=2) rfl rfl rfl (aU _)) ⟨[12],by decide,by simp[i64],rfl,rfl,rfl⟩
 ·exact dN (r':=.il 1 (aY [0,0])) (oV (id:=3) rfl rfl rfl (aU _)) ⟨[0,0],by decide,by simp[i64],rfl,rfl,rfl⟩
 ·exact dN (r':=.il 1 (aY [1,2])) (oV (id:=4) rfl rfl rfl (aU _)) ⟨[1,2],by decide,by simp[i64],rfl,rfl,rfl⟩
 ·exact dN (r':=.il 1 (aY [1,2,3])) (oV (id:=5) rfl rfl rfl (aU _)) ⟨[1,2,3],by decide,by simp[i64],rfl,rfl,rfl⟩
def I3(o:Oc):Prop:=i64 o.kind/\i64 o.at_/\i64 o.code
theorem HL(n:Int)(hn:i64 n):aC prog [] 17 [.int .i64 n] [] 0 fun r m k=>∃o:Oc,I3 o/\r=H9 o/\m=[]/\k=0:=by
 have hA:=wI n 60 hn (by decide);have hb:=iD (n:=n) (most:=60) (by decide);generalize fW n 60=k at *;refine aR fS func17 rfl ?_;refine Rr ?_;refine hA.go ?_;refine Rr ?_;have ht:∀(x:Int) (m:Nat),0<m->m<=5->i64 (x.tmod (m:Int)):=fun x m h0 h1=>by
  have h:=Int.natAbs_tmod x (m:Int);have h2:x.natAbs%(m:Int).natAbs<m:=by rw[Int.natAbs_natCast];exact Kv _ h0
  unfold i64;omega
 exact aJ (mE ⟨_,_,_⟩) ⟨⟨_,_,_⟩,⟨s6 _,ht _ 3 (by decide) (by decide),ht _ 5 (by decide) (by decide)⟩,rfl,rfl,rfl⟩
set_option maxRecDepth 100000
set_option maxHeartbeats 8000000
theorem vE{l:List Int}{k:Nat}(h:k<l.length){z:Int}(hz:z=(k:Int)):(aY l)[z.toNat]? = some (.int .i64 l[k]):=by
 rw[hz,Jx,nY,I9 h];rfl
theorem AY{mem:aA}{σ:List (Nat × Nat)}{xs ys ys':List AV}(h:tG mem σ xs ys)(e:ys'=ys):tG mem σ xs ys':=by rw[e];exact h
def F2(g:Gr):Prop:=(∀x∈g.min,i64 x)/\g.min.length<=3/\g.fs.length<=3/\(∀f∈g.fs,(∀x∈f.path,i64 x)/\f.path.length<=3)/\I3 g.oc
theorem Hs(l:List Int)(hl:∀x∈l,i64 x)(hlen:l.length<=17592186043904)(most:Nat)(hmo:most<=12):aC prog [] 5 [.il 1 (aY l),.int .i64 most] [] 0 fun r m k=>
  ∃G:List Gr,G.length<=most/\(∀g∈G,F2 g)/\r = .sl 0 0 G.length/\m=[(0,.row 37 5 (a8 G))]/\k=1:=by
 have nl:NN (.il 1 (aY l)):=.il' (aU l);have ll:=bB l;refine aR fS func5 rfl ?_;refine Rr ?_;refine bJ.ph 37 5 ?_;refine bJ.at fS (fun G:List Gr=>G.length<=most/\∀g∈G,F2 g)
  (fun G=>⟨[(0,.il 1 (aY l)),(1,.int .i64 most),(5,.sl 0 0 G.length),(6,.int .i64 ((4*G.length:Nat):Int))],[(0,.row 37 5 (a8 G))],1,73⟩) (fun G=>most-G.length) [] [(0,0)] (by simp)
  (bN _ rfl ⟨⟨0,_,rfl,rfl,.nil⟩,trivial⟩ ⟨aT nl,aK,⟨_,rfl,.nslk 0 0 _ rfl rfl⟩,aK,trivial⟩) ?_
 rintro G ⟨hG,hGi⟩;have w3:IntKind.i64.wrap (((4*G.length:Nat):Int)+3)=((4*G.length:Nat):Int)+3:=dI ⟨om,om⟩;have w1:IntKind.i64.wrap (((4*G.length:Nat):Int)+1)=((4*G.length:Nat):Int)+1:=dI ⟨om,om⟩;have w2:IntKind.i64.wrap (((4*G.length:Nat):Int)+2)=((4*G.length:Nat):Int)+2:=dI ⟨om,om⟩;have wm:IntKind.i64.wrap (4*(most:Int))=4*(most:Int):=dI ⟨om,om⟩;refine Rr ?_;rw[w3];refine bV (fun hb=>?_) (fun hb=>?_)
 rotate_left
 ·rw[hb];refine Rr ?_;exact oW (r':=.sl 0 0 G.length) (m':=[(0,.row 37 5 (a8 G))]) (n':=1) [(0,0)] rfl ⟨eN 0 (bI _),trivial⟩ (.sl 0 0 0 _ rfl) ⟨G,hG,hGi,rfl,rfl,rfl⟩
 rw[hb];have h3:4*G.length+3<l.length:=by have:=JV hb;omega
 refine Rr ?_;rw[wm];refine bV (fun hb2=>?_) (fun hb2=>?_)
 rotate_left
 ·rw[hb2];refine Rr ?_;exact oW (r':=.sl 0 0 G.length) (m':=[(0,.row 37 5 (a8 G))]) (n':=1) [(0,0)] rfl ⟨eN 0 (bI _),trivial⟩ (.sl 0 0 0 _ rfl) ⟨G,hG,hGi,rfl,rfl,rfl⟩
 rw[hb2];have hlt:G.length<most:=by have:=JV hb2;omega
 have e0:=vE (l:=l) (k:=4*G.length) om rfl;have e1:=vE (l:=l) (k:=4*G.length+1) (z:=((4*G.length:Nat):Int)+1) om om;have e2:=vE (l:=l) (k:=4*G.length+2) (z:=((4*G.length:Nat):Int)+2) om om;have e3:=vE (l:=l) (k:=4*G.length+3) (z:=((4*G.length:Nat):Int)+3) om om;have i0:=hl _ (JQ (show 4*G.length<l.length by omega));have i1:=hl _ (JQ (show 4*G.length+1<l.length by omega));have i2:=hl _ (JQ (show 4*G.length+2<l.length by omega));have i3:=hl _ (JQ (show 4*G.length+3<l.length by omega));generalize l[4*G.length]=n0 at e0 i0;generalize l[4*G.length+1]=n1 at e1 i1;generalize l[4*G.length+2]=n2 at e2 i2;generalize l[4*G.length+3]=n3 at e3 i3;have hP:=Fh n0 i0;have hO:=HL n1 i1;refine Rr ?_;refine aD e0 ?_;refine Rr ?_;rw[w1];refine Rr ?_;refine aD e1 ?_;refine Rr ?_;refine aC.go0 hP ?_;rintro r m k ⟨p,hp1,hp2,rfl,rfl,rfl⟩;have np:NN (.il 1 (aY p)):=.il' (aU p);have lp:=bB p;refine⟨_,.same _ np, ?_⟩;refine Rr ?_;repeat((first|refine aD e0 ?_|refine aD e1 ?_|refine aH ?_);refine Rr ?_)
 refine aC.go0 hO ?_;rintro r m k ⟨o,ho,rfl,rfl,rfl⟩;refine⟨_,.same _ (mE o), ?_⟩;obtain⟨o1,o2,o3⟩:=o;refine Rt ?_;refine bJ.ph 50 4 ?_;refine bJ.at fS (fun fs:List Fl=>fs.length<=3/\∀f∈fs,(∀x∈f.path,i64 x)/\f.path.length<=3)
  (fun fs=>⟨[(0,.il 1 (aY l)),(1,.int .i64 most),(5,.sl 0 0 G.length),(6,.int .i64 ((4*G.length:Nat):Int)),(7,.ptr 1 0 0),(8,.int .i64 fs.length)],[(0,.row 37 5 (a8 G)),(1,.row 37 5 [.agg [.il 1 (aY p),.int .i64 o1,.int .i64 o2,.int .i64 o3,.sl 2 0 fs.length]]),(2,.row 50 4 (aX fs))],3,73⟩) (fun fs=>3-fs.length) [] [(0,0),(13,1),(15,2)] (by simp)
  (bN _ rfl ⟨eN 0 (bI G),⟨13,_,rfl,rfl,.cons (.agg (.cons (.same _ np) (.s (.s (.s (.cons (.nslk 15 2 _ rfl rfl) .nil)))))) .nil⟩,⟨15,_,rfl,rfl,.nil⟩,trivial⟩ ⟨aT nl,aK,⟨_,rfl,.sl 0 0 0 _ rfl⟩,aK,lM,aK,trivial⟩) ?_
 rintro fs ⟨hf1,hf2⟩;have lf:=cD fs;have lG:=cG G;have hA:=wI n2 4 i2 (by decide);have hAb:=iD (n:=n2) (most:=4) (by decide);generalize fW n2 4=m at hA hAb;refine Rr ?_;rw[w2];refine Rr ?_;refine aD e2 ?_;refine Rr ?_;refine hA.go ?_;refine Rr ?_;refine bV (fun hb3=>?_) (fun hb3=>?_)
 ·have hlt3:fs.length<3:=by have:=JV hb3;omega
  rw[hb3];have hP:=Fh (IntKind.i64.wrap (n3+IntKind.i64.wrap (3*(fs.length:Int)))) (s6 _);have hO:=HL (IntKind.i64.wrap (n1+IntKind.i64.wrap ((fs.length:Int).tdiv 2))) (s6 _);refine Rr ?_;rw[w3];refine Rr ?_;refine aD e3 ?_;refine Rr ?_;rw[w1];refine Rr ?_;repeat((first|refine aD e3 ?_|refine aD e1 ?_|refine aH ?_);refine Rr ?_)
  refine aC.go0 hP ?_;rintro r m' k ⟨q,hp1',hp2',rfl,rfl,rfl⟩;have nq:NN (.il 1 (aY q)):=.il' (aU q);refine⟨_,.same _ nq, ?_⟩;refine Rr ?_;repeat((first|refine aD e3 ?_|refine aD e1 ?_|refine aH ?_);refine Rr ?_)
  refine aC.go0 hO ?_;rintro r m' k ⟨⟨u1,u2,u3⟩,-,rfl,rfl,rfl⟩;refine⟨_,.same _ (mE ⟨u1,u2,u3⟩), ?_⟩;refine Rr ?_;repeat((first|refine aD e3 ?_|refine aD e1 ?_|refine aH ?_);refine Rr ?_)
  refine aM (kB rfl rfl (by rw[lf]) (by simp;omega)) ?_;refine Rt ?_;repeat((first|refine aD e3 ?_|refine aD e1 ?_);refine Rt ?_)
  exact .mk (fs++[⟨q,⟨u1,u2,u3⟩⟩]) [(0,0),(1,1),(28,2)] ⟨by simp;omega,fun f hf=>by
    rcases JI.1 hf with hf|hf
    ·exact hf2 f hf
    ·simp at hf;subst hf;exact⟨hp2',hp1'⟩⟩
   (bN _ rfl ⟨eN 0 (bI G),⟨1,_,rfl,rfl,.cons (.agg (.cons (.same _ np) (.s (.s (.s (.cons (.slE rfl (by simp)) .nil)))))) .nil⟩,⟨28,_,rfl,rfl,.eq (aZ _) (by simp[aX,gS])⟩,trivial⟩ ⟨aT nl,aK,⟨_,rfl,.sl 0 0 0 _ rfl⟩,aK,lM,⟨_,rfl,.int (by rw[dI ⟨om,om⟩];simp)⟩,trivial⟩) (by simp;omega)
 ·rw[hb3];refine Rr ?_;refine aM (kB rfl rfl (by rw[lG]) (by simp;omega)) ?_;refine Rr ?_;refine .mk (G++[⟨p,⟨o1,o2,o3⟩,fs⟩]) [(4,0)] ⟨by simp;omega,fun g hg=>by
    rcases JI.1 hg with hg|hg
    ·exact hGi g hg
    ·simp at hg;subst hg;exact⟨hp2,hp1,hf1,hf2,ho⟩⟩
   (bN _ rfl ⟨⟨4,_,rfl,rfl,AY (tG.snoc (y:=eJ ⟨p,⟨o1,o2,o3⟩,fs⟩) rfl (.same (bI G)) (.agg (.cons (.same _ np) (.s (.s (.s (.cons (.fzR (id:=2) rfl rfl (.same (aZ fs)) lf) .nil))))))) (by simp[a8])⟩,trivial⟩ ⟨aT nl,aK,⟨_,rfl,.slE rfl (by simp)⟩,⟨_,rfl,.int (by rw[dI ⟨om,om⟩];simp;omega)⟩,trivial⟩) (by simp;omega)
set_option maxRecDepth 100000
set_option maxHeartbeats 8000000
theorem xF{l:List Fl}{k:Nat}(h:k<l.length):(aX l)[((k:Nat):Int).toNat]? = some (gS l[k]):=by
 simp[aX,I9 h]
theorem GE(l:List Fl)(hl:l.length<=1000):aS prog [] 18 [.il 4 (aX l)] (.il 4 (aX l)):=by
 have nl:NN (.il 4 (aX l)):=.il' (aZ l);have ll:=cD l;refine aR fS func18 rfl ?_;refine Rr ?_;refine bJ.ph 57 4 ?_;refine bJ.at fS (fun k:Nat=>k<=l.length)
  (fun k=>⟨[(0,.il 4 (aX l)),(3,.sl 0 0 k),(4,.int .i64 k)],[(0,.row 57 4 (aX (l.take k)))],1,26⟩) (fun k=>l.length-k) 0 [(0,0)] (by simp)
  (bN _ rfl ⟨⟨0,_,rfl,rfl,.nil⟩,trivial⟩ ⟨aT nl,⟨_,rfl,.nslk 0 0 _ rfl rfl⟩,aK,trivial⟩) ?_
 intro k hk;have lk:(aX (l.take k)).length=k:=by rw[cD,J0];omega
 refine Rr ?_;refine bV (fun hb=>?_) (fun hb=>?_)
 ·rw[hb];have hlt:k<l.length:=by have:=JV hb;omega
  have e:=xF hlt;have e2:aX (l.take (k+1))=aX (l.take k)++[gS l[k]]:=by rw[JR hlt,aX,Jq];rfl
  have hn:=nB l[k];generalize l[k]=f at e e2 hn;obtain⟨p,o1,o2,o3⟩:=f;refine Rr ?_;repeat((first|refine aD e ?_|refine aH ?_);refine Rr ?_)
  refine aM (kB rfl rfl (by rw[lk]) (by simp;omega)) ?_;refine Rr ?_;repeat((first|refine aD e ?_|refine aH ?_);refine Rr ?_)
  exact .mk (k+1) [(16,0)] om (bN _ rfl ⟨⟨16,_,rfl,rfl,.eq (aZ _) (by rw[e2];rfl)⟩,trivial⟩ ⟨aT nl,⟨_,rfl,.slE rfl (by simp)⟩,⟨_,rfl,.w64 om ⟨om,om⟩⟩,trivial⟩) om
 ·rw[hb];refine Rr ?_;have:k=l.length:=by have:=J8 hb;omega
  subst this;exact dN (r':=.il 4 (aX l)) (.fzR (id:=0) rfl rfl (.eq (aZ _) (by rw[Jr])) ll) ⟨rfl,rfl,rfl⟩
theorem IP(l:List Gr)(hl:l.length<=1000)(hi:∀g∈l,g.fs.length<=1000):aS prog [] 6 [.il 5 (a8 l)] (.il 5 (a8 l)):=by
 have nl:NN (.il 5 (a8 l)):=.il' (bI l);have ll:=cG l;refine aR fS func6 rfl ?_;refine Rr ?_;refine bJ.ph 33 5 ?_;refine bJ.at fS (fun k:Nat=>k<=l.length)
  (fun k=>⟨[(0,.il 5 (a8 l)),(3,.sl 0 0 k),(4,.int .i64 k)],[(0,.row 33 5 (a8 (l.take k)))],1,32⟩) (fun k=>l.length-k) 0 [(0,0)] (by simp)
  (bN _ rfl ⟨⟨0,_,rfl,rfl,.nil⟩,trivial⟩ ⟨aT nl,⟨_,rfl,.nslk 0 0 _ rfl rfl⟩,aK,trivial⟩) ?_
 intro k hk;have lk:(a8 (l.take k)).length=k:=by rw[cG,J0];omega
 refine Rr ?_;refine bV (fun hb=>?_) (fun hb=>?_)
 ·rw[hb];have hlt:k<l.length:=by have:=JV hb;omega
  have e:=iK hlt;have e2:a8 (l.take (k+1))=a8 (l.take k)++[eJ l[k]]:=by rw[JR hlt,a8,Jq];rfl
  have hn:=eI l[k];have hF:=GE l[k].fs (hi _ (JQ hlt));generalize l[k]=f at e e2 hn hF;obtain⟨p,⟨o1,o2,o3⟩,fs⟩:=f;have nf:NN (.il 4 (aX fs)):=.il' (aZ fs);refine Rr ?_;repeat((first|refine aD e ?_|refine aH ?_);refine Rr ?_)
  refine hF.go ?_ (.cons nf .nil) nf;refine Rr ?_;repeat((first|refine aD e ?_|refine aH ?_);refine Rr ?_)
  refine aM (kB rfl rfl (by rw[lk]) (by simp;omega)) ?_;refine Rr ?_;repeat((first|refine aD e ?_|refine aH ?_);refine Rr ?_)
  exact .mk (k+1) [(22,0)] om (bN _ rfl ⟨⟨22,_,rfl,rfl,.eq (bI _) (by rw[e2];rfl)⟩,trivial⟩ ⟨aT nl,⟨_,rfl,.slE rfl (by simp)⟩,⟨_,rfl,.w64 om ⟨om,om⟩⟩,trivial⟩) om
 ·rw[hb];refine Rr ?_;have:k=l.length:=by have:=J8 hb;omega
  subst this;exact dN (r':=.il 5 (a8 l)) (.fzR (id:=0) rfl rfl (.eq (bI _) (by rw[Jr])) ll) ⟨rfl,rfl,rfl⟩
end Go.Proofs.YtnbkfjjdlofdpaaGreatDoor
namespace Go.Ax
open Go
def Ix(rest:aA)(Q:Exit->St->Prop)(e:Exit)(s:St):Prop:=(∀p∈s.mem,∀q∈rest,p.1≠q.1)/\Q e ⟨s.sl,s.mem++rest,s.nx,s.nt⟩
theorem cJ.frame{P:Program}{Γ:List (Nat × AV)}{B:Nat}{c:Code}{sl:List (Nat × AV)}{m1 rest:aA}{nx nt:Nat}{Q:Exit->St->Prop}(h:cJ P Γ nx c ⟨sl,m1,nx,nt⟩ (Ix rest Q)):cJ P Γ B c ⟨sl,m1++rest,nx,nt⟩ Q:=by
 refine⟨fun rd X ds D ρ a w hD hs hB hr=>?_⟩;have hn:=hs.mr.nod;simp only[Jq] at hn;obtain⟨n1,n2,n3⟩:=J2.1 hn;have hp:kO (m1++rest) m1 rest:=⟨fun p h=>JN _ h,fun p h=>Jf _ h,fun p h=>JI.1 h,fun p hp q hq=>n3 _ (K2 hp) _ (K2 hq),n1⟩
 obtain⟨p1,pv⟩:=hs.mr.part hp;obtain⟨q1,qv,qe⟩:=p1.widen (D':=dn (dn D B nx) nx nx) (fun i hi=>.inl hi);have hs1:SR Γ (XR X ρ rest) ds ρ (dn (dn D B nx) nx nx) ⟨sl,m1,nx,nt⟩ a w:=⟨q1,hp.mks hs.def0,hs.size,fun i v hi=>qv _ _ (pv _ _ (hs.slot i v hi))⟩
 refine wpIn_mono (h.run rd (XR X ρ rest) ds (dn D B nx) ρ a w (jI hD hB) hs1 (JG _) hr) ?_;rintro e a' w' ⟨s',ρ',⟨hdis,hq⟩,hB',hs',ext⟩;obtain⟨j1,j2,j3,j4⟩:=MR.join hs.mr hp hs'.mr ext (fun p h=>h) hdis n2;obtain⟨k1,kv,ke⟩:=j1.widen (g5 hB hB');have hO:∀b,OX X ρ' (s'.mem++rest) b->OX (XR X ρ rest) ρ' s'.mem b:=by
  rintro b (h|⟨p,hp',hn,e⟩)
  ·exact .inl (.inl h)
  ·rcases JI.1 hp' with h|h
   ·exact .inr ⟨p,h,hn,e⟩
   ·rw[ext.agree _ (hs.mr.low p (hp.subr p h))] at hn e;exact .inl (.inr ⟨p,h,hn,e⟩)
 exact⟨⟨s'.sl,s'.mem++rest,s'.nx,s'.nt⟩,ρ',hq,Jh hB hB',⟨k1,hs'.def0.at (JG _) fun b _ ho=>⟨fun h=>ho (hO b h),rfl⟩,hs'.size,fun i v hi=>kv _ _ (j2 _ _ (hs'.slot i v hi))⟩,(j4 D fun i hi=>.inl hi).wide (g5 hB hB')⟩
theorem bJ.frame{P:Program}{Γ:List (Nat × AV)}{B:Nat}{c:Code}{sl:List (Nat × AV)}{m1 rest:aA}{nx nt:Nat}{Q:Exit->St->Prop}(h:bJ P Γ nx c ⟨sl,m1,nx,nt⟩ (Ix rest Q)):bJ P Γ B c ⟨sl,m1++rest,nx,nt⟩ Q:=⟨cJ.frame h.run⟩
theorem HA{P:Program}{Γ:List (Nat × AV)}{id mid n:Nat}{sn:List Nat}{es:List (AV × AV)}{mem:aA}{nx:Nat}{K:AV->aA->Nat->Prop}{K1:AV->aA->Prop}(hK:∀v m,K v m nx->K1 v m)(hid:lk mem id=some (.iter mid n sn))(hmid:lk mem mid=some (.mapb es))(hn:es.length=n)
  (h1:∀i k v,i∉sn->es[i]? = some (k,v)->K (.tup [.bool true,k,v]) (up mem id (.iter mid n (i::sn))) nx) (h2:(∀i,i<n->i∈sn)->K (.tup [.bool false]) mem nx) :
  IB (nU mem (.ptr id 0 0)) K1 (aC P Γ YF [.ptr id 0 0] mem nx K):=by
 unfold IB;split
 ·rename_i v m h;obtain⟨mid',n',sn',es',a1,a2,a3,a4⟩:=yC h;rw[hid] at a1;cases a1;rw[hmid] at a2;cases a2;by_cases hex:∃i,i<n/\i∉sn
  ·obtain⟨i,hi,hs⟩:=hex;obtain⟨⟨k,u⟩,hku⟩:∃e,es[i]? = some e:=⟨es[i],by simp⟩
   obtain⟨rfl,rfl⟩:=a4 _ _ (.inl ⟨i,k,u,hs,hku,rfl,rfl⟩);exact hK _ _ (h1 i k u hs hku)
  ·have hall:∀i,i<n->i∈sn:=fun i hi=>Classical.byContradiction fun h=>hex ⟨i,hi,h⟩
   obtain⟨rfl,rfl⟩:=a4 _ _ (.inr ⟨hall,rfl,rfl⟩);exact hK _ _ (h2 hall)
 ·exact aC.next hid hmid hn h1 h2
end Go.Ax
