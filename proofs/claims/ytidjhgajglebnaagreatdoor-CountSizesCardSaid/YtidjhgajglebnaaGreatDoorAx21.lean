/- A part of the proof. -/
import Derived.Test.YtidjhgajglebnaaGreatDoorAx20
set_option linter.unusedSectionVars false
set_option linter.unusedVariables false
set_option linter.unusedSimpArgs false
set_option maxRecDepth 1000000
set_option maxHeartbeats 16000000
namespace Go.Proofs.YtidjhgajglebnaaGreatDoor
open Go Go.Ax Go.Proofs Tryz
variable{J:List (Nat × Nat)}{A:List Nd}{n i:Nat}{mem:aP}{xs:List AV}{S:List aQ}{E:List Key}
theorem ZB:aT prog [] 41 [.str [48],.int .i64 0] (.str (List.replicate 0 48)):=cK bE fH.nil [] [] 20 rfl (by kernel_rfl)
theorem Zl:aT prog [] 41 [.str [48],.int .i64 1] (.str (List.replicate 1 48)):=cK bE fH.nil [] [] 20 rfl (by kernel_rfl)
theorem ZA:aT prog [] 41 [.str [48],.int .i64 2] (.str (List.replicate 2 48)):=cK bE fH.nil [] [] 20 rfl (by kernel_rfl)
theorem Zh:aT prog [] 41 [.str [48],.int .i64 3] (.str (List.replicate 3 48)):=cK bE fH.nil [] [] 20 rfl (by kernel_rfl)
theorem ZW:aT prog [] 41 [.str [48],.int .i64 4] (.str (List.replicate 4 48)):=cK bE fH.nil [] [] 20 rfl (by kernel_rfl)
theorem ZK:aT prog [] 41 [.str [48],.int .i64 5] (.str (List.replicate 5 48)):=cK bE fH.nil [] [] 20 rfl (by kernel_rfl)
theorem Y9:aT prog [] 41 [.str [48],.int .i64 6] (.str (List.replicate 6 48)):=cK bE fH.nil [] [] 20 rfl (by kernel_rfl)
theorem ZY:aT prog [] 41 [.str [48],.int .i64 7] (.str (List.replicate 7 48)):=cK bE fH.nil [] [] 20 rfl (by kernel_rfl)
theorem Y8:aT prog [] 41 [.str [48],.int .i64 8] (.str (List.replicate 8 48)):=cK bE fH.nil [] [] 20 rfl (by kernel_rfl)
theorem T9(k:Nat)(hk:k<=8):aT prog [] 41 [.str [48],.int .i64 k] (.str (List.replicate k 48)):=by
 rcases(show k=0\/k=1\/k=2\/k=3\/k=4\/k=5\/k=6\/k=7\/k=8 by omega) with rfl|rfl|rfl|rfl|rfl|rfl|rfl|rfl|rfl
 .exact ZB
 .exact Zl
 .exact ZA
 .exact Zh
 .exact ZW
 .exact ZK
 .exact Y9
 .exact ZY
 .exact Y8
theorem Ii(n:Nat):Lib.decDigits n≠[]:=λe=>by
 by_cases h:n<10
 .rw[Lib.decDigits_one h] at e;cases e
 .rw[zI om] at e;simp at e
theorem RM(n:Nat):Lib.itoa (n:Int)=Lib.decDigits n:=Lib.itoa_nonneg n
theorem Gr(l:List (List UInt8))(x:List UInt8):vF (l++[x])=vF l++[.str x]:=by simp[vF]
theorem Gv{P:List (List UInt8)}{x:List UInt8}(h:P[i]? = some x):(P.drop i).reverse.flatten=(P.drop (i+1)).reverse.flatten++x:=by
 obtain⟨h1,h2⟩:=aAg.1 h;rw[List.drop_eq_getElem_cons h1,h2,aB1,aCX];simp
theorem FE:∀{P:List (List UInt8)},(∀t∈P,t.length<=9)->P.reverse.flatten.length<=9*P.length
 | [],_=>sq
 | a::r,h=>by
  have h1:=FE (P:=r) λt ht=>h t (by simp[ht])
  have h2:=h a sq;rw[aB1,aCX,aAA,aAH];simp at h1 |-;omega
def Wg:Bool->AV
 | true=>.ptr 1 0 0
 | false=>.nptr
theorem M7{a:Bool}(h0:lk J 1=some 0)(h1:lk J 2=some 1):sH mem J [.agg [Wg a,.sl 2 0 n]] [.agg [Y1 a,.sl 1 0 n]]:=
 .cons (.agg (.cons (by cases a;exact .same _ nn;exact .ptr 1 0 0 0 h0) (.cons (.sl 2 1 0 n h1) .nil))) .nil
theorem Ta(z:Int)(hz:(dg 4294967296 z.natAbs).length<=100000):aT prog gz 11 [mM z] (.str (LP z)):=by
 have hB:(2:Nat)<=4294967296:=by decide
 have hdz:=Us z;have hbz:(if z<0 then 45::Lib.decDigits z.natAbs else Lib.decDigits z.natAbs)=(if decide (z<0)=true then 45::Lib.decDigits z.natAbs else Lib.decDigits z.natAbs):=sq
 rw[hbz] at hdz;rw[hdz,lW z];have hz0:z=0\/0<z.natAbs:=om;have hpt:=λh:0<z.natAbs=>DJ (z.natAbs+1) z.natAbs (aBx _) h
 have hpl:=F0 (z.natAbs+1) z.natAbs (aBx _);have hpc:=Iu (z.natAbs+1) z.natAbs (2*(dg 4294967296 z.natAbs).length) (aBx _) (by
  have h1:=kT (n:=z.natAbs) hB;refine aB9 h1 ?_;rw[Nat.pow_mul];exact Nat.pow_le_pow_left (by decide) _)
 have hbf:z=0->decide (z<0)=false:=λh=>by rw[h];rfl
 generalize hbz':decide (z<0)=bz at *;generalize hN:z.natAbs=N at *;have hlz:=iE (B:=4294967296) (n:=N) hB;refine aD eA func11 rfl ?_;by_cases h0:N=0
 .have hb:=hbf om;rw[hb,h0,fL];refine Rt ?_;exact aA nn ⟨by rw[aAe sq,Lib.decDigits_one om];rfl,rfl,rfl⟩
 .have hN0:0<N:=om;have hpt:=hpt hN0;have hla0:0<(dg 4294967296 N).length:=(aA2.1 hlz).2 hN0;have e1:(((dg 4294967296 N).length:Int) == 0)=false:=by simp;intro h;rw[h] at hla0;simp at hla0
  refine Rr ?_;rw[aX,e1];refine Rr ?_;rw[aX];refine aN (C5 rfl rfl rfl om rfl) ?_;refine Rr ?_;refine aN (Vq rfl rfl (by rw[aX,aAc];omega) (by rw[aA9];omega)) ?_;refine Rr ?_;refine bA.ph 9 1 ?_;refine bA.at eA (λp:Nat × List (List UInt8)=>p.1<=N/\p.2++dJ p.1=dJ N)
   (λp=>⟨[(1,.ptr 0 0 0),(3,.il 1 (bR (dg 4294967296 p.1))),(4,.sl 1 0 p.2.length)],[(0,.row 33 2 [.agg [.bool bz,.il 1 (bR (dg 4294967296 N))]]),(1,.row 9 1 (vF p.2))],2,63⟩)
   (λp=>p.1) (N,[]) [(0,0),(2,1)] ⟨aAp _,rfl⟩
   (aE _ rfl ⟨aL 0 (.cons (GJ _ _) .nil),⟨2,_,rfl,rfl,.nil⟩,trivial⟩
    ⟨aF,⟨_,rfl,.fz' (id:=1) (off:=0) (ys:=bR (dg 4294967296 N)) rfl rfl (by simp[aX]) (by
     rw[aAJ,aAk (by simp[aX])];simp[aX]) (bD _)⟩,⟨_,rfl,.nslk 2 1 _ rfl rfl⟩,trivial⟩) ?_
  rintro⟨n,P⟩ ⟨h1,h2⟩;simp only at h1 h2 |-;have hPl:P.length<=2*(dg 4294967296 N).length:=by
   have:=congrArg List.length h2;rw[aAA] at this;omega
  have hdl:=fJ hB h1;have hln:=iE (B:=4294967296) (n:=n) hB;have hlz:decide (((bR (dg 4294967296 n)).length:Int)>0)=decide (0<n):=by rw[aX,<-hln,aA2];omega
  by_cases hn:0<n
  .have hdw:=QA n 1000000000 om (by decide) (by decide);have htr:=DX (g6 (dg 4294967296 (n/1000000000)) (dg 4294967296 n).length) (by rw[mW (Mq hB _ _)];omega);rw[La] at htr;have hmd:n%1000000000<1000000000:=aBt _ (by decide);have hit:=Xm ((n%1000000000:Nat):Int) oq;rw[RM] at hit;have hdl9:=uE 9 (n%1000000000) om (by decide);have hdp:0<(Lib.decDigits (n%1000000000)).length:=by
    rcases aAz (Lib.decDigits (n%1000000000)).length with h|h
    .exact absurd (aAB h) (Ii _)
    .exact h
   have hpad:=H1 9 (n%1000000000) om (by decide);have hps:=o5 hn;have hq:=iE (B:=4294967296) (n:=n/1000000000) hB;have hlq:decide (((bR (dg 4294967296 (n/1000000000))).length:Int)>0)=decide (0<n/1000000000):=by rw[aX,<-hq,aA2];omega
   have hw:IntKind.i64.wrap ((n%1000000000:Nat):Int)=((n%1000000000:Nat):Int):=aV oq;generalize g6 (dg 4294967296 (n/1000000000)) (dg 4294967296 n).length=pq at *;refine Rr ?_;rw[hlz,aAn hn];refine Rr ?_;refine hdw.goG ?_ (.cons (tU _) (.cons nn .nil)) (.tup' (.cons (tU _) (.cons nn .nil)));refine Rr ?_;refine htr.goG ?_ (.cons (tU _) .nil) (tU _);refine Rr ?_;rw[hw];refine aT.use hit eA (.cons nn .nil) nn ?_;refine Rr ?_;rw[hlq];by_cases hq0:0<n/1000000000
   .rw[aAn hq0];rw[aAe om] at hps;have hrep:=T9 (9-(Lib.decDigits (n%1000000000)).length) om;have hw9:IntKind.i64.wrap (9-((Lib.decDigits (n%1000000000)).length:Int))=((9-(Lib.decDigits (n%1000000000)).length:Nat):Int):=by rw[aV oq];omega
    refine Rr ?_;rw[hw9];refine hrep.goG ?_ (.cons nn (.cons nn .nil)) nn;refine Rr ?_;generalize Lib.decDigits (n%1000000000)=tx at *;refine aN (aAf (by simp;omega)) ?_;refine Rr ?_;refine aN (cD rfl rfl (by rw[cE]) (by simp;omega)) ?_;refine Rr ?_;exact .mk (n/1000000000,P++[zO 9 (n%1000000000)]) [(0,0),(3,1)] ⟨by simp only;omega,by simp only;rw[<-h2,hps];simp⟩
     (aE _ rfl ⟨aL 0 (.cons (GJ _ _) .nil),⟨3,_,rfl,rfl,.eq (qH _) (by rw[Gr,hpad];rfl)⟩,trivial⟩
      ⟨aF,aM (tU _),⟨_,rfl,.slE rfl (by simp[cE])⟩,trivial⟩) (by simp only;omega)
   .rw[aAw hq0];rw[aAh om] at hps;have hnm:n%1000000000=n:=om;rw[hnm];rw[hnm] at hdl9;generalize Lib.decDigits n=tx at *;refine Rr ?_;refine aN (cD rfl rfl (by rw[cE]) (by simp;omega)) ?_;refine Rr ?_;exact .mk (n/1000000000,P++[tx]) [(0,0),(3,1)] ⟨by simp only;omega,by simp only;rw[<-h2,hps];simp⟩
     (aE _ rfl ⟨aL 0 (.cons (GJ _ _) .nil),⟨3,_,rfl,rfl,.eq (qH _) (by rw[Gr];rfl)⟩,trivial⟩
      ⟨aF,aM (tU _),⟨_,rfl,.slE rfl (by simp[cE])⟩,trivial⟩) (by simp only;omega)
  .have hn0:n=0:=om;subst hn0;rw[pQ,aA3] at h2;subst h2;have hd0':decide (0<0)=false:=rfl;cases bz with
   | false=>
    refine Rr ?_;rw[hlz,aAw hn];refine Rr ?_;refine bA.ph 5 1 ?_;refine bA.at eA (λp:Nat × Bool=>p.1<=(dJ N).length/\(p.2=true\/(p.1=(dJ N).length/\True)))
     (λp=>⟨[(4,.sl 0 0 (dJ N).length),(7,.ptr 1 0 0),(8,.int .i64 ((p.1:Int)-1))],[(0,.row 9 1 (vF (dJ N))),(1,.row 90 2 [.agg [Wg p.2,.sl 2 0 ([]++((dJ N).drop p.1).reverse.flatten).length]]),(2,.row 5 1 (eF ([]++((dJ N).drop p.1).reverse.flatten)))],3,63⟩)
     (λp=>p.1) ((dJ N).length,false) [(1,0),(2,1),(3,2)] ⟨aAp _,.inr ⟨rfl,trivial⟩⟩
     (aE _ rfl ⟨aL 1 (qH _),⟨2,_,rfl,rfl,by rw[aBy];exact .cons (.agg (.s (.cons (.nslk 3 2 _ rfl rfl) .nil))) .nil⟩,⟨3,_,rfl,rfl,by rw[aBy];exact sH.nil⟩,trivial⟩
      ⟨⟨_,rfl,.slE rfl rfl⟩,aF,⟨_,rfl,.w64 (by simp only) ⟨by simp only;omega,by simp only;omega⟩⟩,trivial⟩) ?_
    rintro⟨k,a⟩ ⟨k1,k2⟩;simp only at k1 k2 |-;have hfl:=FE (P:=(dJ N).drop k) λt ht=>hpl t (aAX ht)
    rw[aBw] at hfl;refine Rr ?_;refine aI (λhb=>?_) (λhb=>?_)
    .have hk0:0<k:=by simp at hb;omega
     obtain⟨i,rfl⟩:∃i,k=i+1:=⟨k-1,om⟩
     rw[show (((i+1:Nat):Int)-1)=(i:Int) by omega];obtain⟨x,hx⟩:∃x,(dJ N)[i]? = some x:=⟨_,aAa om⟩
     have hx9:=hpl x (aAm hx);have gx:(vF (dJ N))[0+((i:Nat):Int).toNat]? = some (.str x):=by rw[aAF,aAc,JP,hx];rfl
     have hfs:=Gv hx;have bi:=sC (i:=i) (n:=(dJ N).length) om;have hws:=λs (h:s.length<=10000000)=>Nt a s x om
     have hws:=hws ([]++((dJ N).drop (i+1)).reverse.flatten) (by rw[aAA];simp only[aBC,aAH];omega);rw[List.append_assoc,<-hfs] at hws;refine Rt ?_;repeat((first|refine aN bi ?_|refine aB gx ?_);refine Rt ?_)
     refine aH.useN eA [(1,0),(2,1)] hws.glob rfl (.cons (.ptr 1 0 0 0 rfl) (.same (.cons nn .nil))) ⟨⟨1,_,rfl,rfl,M7 rfl rfl⟩,aL 2 (c7 _),trivial⟩ rfl ?_;rintro r m n ⟨rfl,rfl,rfl⟩;refine⟨[(0,1),(2,3)],_,[(1,.row 90 2 [.agg [.ptr 1 0 0,.sl 3 0 ([]++((dJ N).drop i).reverse.flatten).length]]),(3,.row 5 1 (eF ([]++((dJ N).drop i).reverse.flatten)))],4,.same _ (.tup' (.cons nn (.cons nn .nil))),⟨⟨0,_,rfl,rfl,.cons (.agg (.cons (.ptr 0 1 0 0 rfl) (.cons (.sl 2 3 0 _ rfl) .nil))) .nil⟩,aL 2 (c7 _),trivial⟩,rfl, ?_⟩;refine Rr ?_;exact .mk (i,true) [(0,0),(1,1),(3,2)] ⟨by simp only;omega,.inl rfl⟩
      (aE _ rfl ⟨aL 0 (qH _),⟨1,_,rfl,rfl,.cons (.agg (.cons (.ptr 1 1 0 0 rfl) (.cons (.sl 3 2 0 _ rfl) .nil))) .nil⟩,aL 3 (c7 _),trivial⟩
       ⟨⟨_,rfl,.slE rfl rfl⟩,aF,⟨_,rfl,.w64 rfl ⟨by simp only;omega,by simp only;omega⟩⟩,trivial⟩) (by simp only;omega)
    .have hk0:k=0:=by simp at hb;omega
     subst hk0;have hPpos:0<(dJ N).length:=by rw[o5 hN0];simp
     have ha:a=true:=by rcases k2 with h|⟨h,-⟩;exact h;omega
     subst ha;have hd0:[]++((dJ N).drop 0).reverse.flatten=[]++Lib.decDigits N:=by rw[aAJ,hpt]
     have hbt:=Vf ([]++Lib.decDigits N) (by simp[Ii]) (by rw[<-hd0,aAA];simp only[aBC,aAH];omega);rw[hd0];refine Rr ?_;refine aH.useN eA [(1,0),(2,1)] hbt.glob rfl (.cons (.ptr 1 0 0 0 rfl) .nil) ⟨⟨1,_,rfl,rfl,M7 (a:=true) rfl rfl⟩,aL 2 (c7 _),trivial⟩ rfl ?_;rintro r m n ⟨rfl,rfl,rfl⟩;refine⟨[],_,[],3,.same _ nn,trivial,rfl, ?_⟩;refine Rr ?_;exact aA nn ⟨rfl,rfl,rfl⟩
   | true=>
    have hwb:=Yb false [] 45 sq;refine Rr ?_;rw[hlz,aAw hn];refine Rr ?_;refine aH.ph 5 1 ?_;refine aH.useN eA [(2,0),(3,1)] hwb.glob rfl (.cons (.ptr 2 0 0 0 rfl) (.same (.cons nn .nil))) ⟨⟨2,_,rfl,rfl,.cons (.agg (.s (.cons (.nslk 3 1 _ rfl rfl) .nil))) .nil⟩,⟨3,_,rfl,rfl,.nil⟩,trivial⟩ rfl ?_;rintro r m n ⟨rfl,rfl,rfl⟩;refine⟨[(0,2),(2,4)],_,[(2,.row 90 2 [.agg [.ptr 2 0 0,.sl 4 0 1]]),(4,.row 5 1 (eF [45]))],5,.same _ nn,⟨⟨0,_,rfl,rfl,.cons (.agg (.cons (.ptr 0 2 0 0 rfl) (.cons (.sl 2 4 0 _ rfl) .nil))) .nil⟩,aL 2 (c7 _),trivial⟩,rfl, ?_⟩;refine Rr ?_;refine bA.at eA (λp:Nat × Bool=>p.1<=(dJ N).length/\(p.2=true\/(p.1=(dJ N).length/\False)))
     (λp=>⟨[(4,.sl 0 0 (dJ N).length),(7,.ptr 1 0 0),(8,.int .i64 ((p.1:Int)-1))],[(0,.row 9 1 (vF (dJ N))),(1,.row 90 2 [.agg [Wg p.2,.sl 2 0 ([45]++((dJ N).drop p.1).reverse.flatten).length]]),(2,.row 5 1 (eF ([45]++((dJ N).drop p.1).reverse.flatten)))],3,63⟩)
     (λp=>p.1) ((dJ N).length,true) [(1,0),(2,1),(4,2)] ⟨aAp _,.inl rfl⟩
     (aE _ rfl ⟨aL 1 (qH _),⟨2,_,rfl,rfl,by rw[aBy];exact .cons (.agg (.cons (.ptr 2 1 0 0 rfl) (.cons (.slE rfl sq) .nil))) .nil⟩,⟨4,_,rfl,rfl,by rw[aBy];exact .same (c7 _)⟩,trivial⟩
      ⟨⟨_,rfl,.slE rfl rfl⟩,aF,⟨_,rfl,.w64 (by simp only) ⟨by simp only;omega,by simp only;omega⟩⟩,trivial⟩) ?_
    rintro⟨k,a⟩ ⟨k1,k2⟩;simp only at k1 k2 |-;have hfl:=FE (P:=(dJ N).drop k) λt ht=>hpl t (aAX ht)
    rw[aBw] at hfl;refine Rr ?_;refine aI (λhb=>?_) (λhb=>?_)
    .have hk0:0<k:=by simp at hb;omega
     obtain⟨i,rfl⟩:∃i,k=i+1:=⟨k-1,om⟩
     rw[show (((i+1:Nat):Int)-1)=(i:Int) by omega];obtain⟨x,hx⟩:∃x,(dJ N)[i]? = some x:=⟨_,aAa om⟩
     have hx9:=hpl x (aAm hx);have gx:(vF (dJ N))[0+((i:Nat):Int).toNat]? = some (.str x):=by rw[aAF,aAc,JP,hx];rfl
     have hfs:=Gv hx;have bi:=sC (i:=i) (n:=(dJ N).length) om;have hws:=λs (h:s.length<=10000000)=>Nt a s x om
     have hws:=hws ([45]++((dJ N).drop (i+1)).reverse.flatten) (by rw[aAA];simp only[aBC,aAH];omega);rw[List.append_assoc,<-hfs] at hws;refine Rt ?_;repeat((first|refine aN bi ?_|refine aB gx ?_);refine Rt ?_)
     refine aH.useN eA [(1,0),(2,1)] hws.glob rfl (.cons (.ptr 1 0 0 0 rfl) (.same (.cons nn .nil))) ⟨⟨1,_,rfl,rfl,M7 rfl rfl⟩,aL 2 (c7 _),trivial⟩ rfl ?_;rintro r m n ⟨rfl,rfl,rfl⟩;refine⟨[(0,1),(2,3)],_,[(1,.row 90 2 [.agg [.ptr 1 0 0,.sl 3 0 ([45]++((dJ N).drop i).reverse.flatten).length]]),(3,.row 5 1 (eF ([45]++((dJ N).drop i).reverse.flatten)))],4,.same _ (.tup' (.cons nn (.cons nn .nil))),⟨⟨0,_,rfl,rfl,.cons (.agg (.cons (.ptr 0 1 0 0 rfl) (.cons (.sl 2 3 0 _ rfl) .nil))) .nil⟩,aL 2 (c7 _),trivial⟩,rfl, ?_⟩;refine Rr ?_;exact .mk (i,true) [(0,0),(1,1),(3,2)] ⟨by simp only;omega,.inl rfl⟩
      (aE _ rfl ⟨aL 0 (qH _),⟨1,_,rfl,rfl,.cons (.agg (.cons (.ptr 1 1 0 0 rfl) (.cons (.sl 3 2 0 _ rfl) .nil))) .nil⟩,aL 3 (c7 _),trivial⟩
       ⟨⟨_,rfl,.slE rfl rfl⟩,aF,⟨_,rfl,.w64 rfl ⟨by simp only;omega,by simp only;omega⟩⟩,trivial⟩) (by simp only;omega)
    .have hk0:k=0:=by simp at hb;omega
     subst hk0;have hPpos:0<(dJ N).length:=by rw[o5 hN0];simp
     have ha:a=true:=by rcases k2 with h|⟨h,-⟩;exact h;omega
     subst ha;have hd0:[45]++((dJ N).drop 0).reverse.flatten=[45]++Lib.decDigits N:=by rw[aAJ,hpt]
     have hbt:=Vf ([45]++Lib.decDigits N) (by simp[Ii]) (by rw[<-hd0,aAA];simp only[aBC,aAH];omega);rw[hd0];refine Rr ?_;refine aH.useN eA [(1,0),(2,1)] hbt.glob rfl (.cons (.ptr 1 0 0 0 rfl) .nil) ⟨⟨1,_,rfl,rfl,M7 (a:=true) rfl rfl⟩,aL 2 (c7 _),trivial⟩ rfl ?_;rintro r m n ⟨rfl,rfl,rfl⟩;refine⟨[],_,[],3,.same _ nn,trivial,rfl, ?_⟩;refine Rr ?_;exact aA nn ⟨rfl,rfl,rfl⟩
theorem Uf(n:Nat)(h:n<=j8 256):aT prog gz 13 [mM (n:Int),eQ (n:Int)] (.bool true):=by
 have hS:=Ta (n:Int) (aAx (BZ h) om);have hT:=YY (n:Int) (by
  rw[aBd];exact aAx (F5 h rfl (by decide)) (by decide))
 obtain⟨b,l,e⟩:=f8 (n:Int);have n1:=gE b l;have n2:NN (.agg [.bool false,.il 1 (bR (dg 4294967296 n))]):=.agg' (.cons (tB _) (.cons (tU _) .nil));rw[e] at hT |-;rw[dU] at hS |-;generalize bR (dg 4294967296 n)=z at *;generalize LP (n:Int)=t at *;refine aD eA func13 rfl ?_;refine Rr ?_;refine hS.use eA (.cons n2 .nil) nn ?_;refine Rt ?_;refine hT.goG ?_ (.cons n1 .nil) nn;refine Rt ?_;exact gM (r':=.bool true) (.bool sq) ⟨rfl,rfl,rfl⟩
structure Ga(A:List Nd)(S:List aQ):Prop where
 own:∀x∈A,∀v∈x.values,v∈S
 kid:∀u∈S,∀w∈jN u,w∈S
 ok:∀u∈S,iO u/\bG u=0
 len:A.length*(S.length+1)<=34000000000
theorem MG(h:VT A)(hl:A.length<=100):Ga A (Aq A):=⟨λx hx v hv=>Lf hx hv,λu hu w hw=>Go.Ax.LT hu hw,OL h,by
 have h1:=Ln h;have h2:A.length*((Aq A).length+1)<=100*(100*2048000+1):=aBn hl om;omega⟩
def jR(A:List Nd)(k:Key):List Cell:=match k.2 with
 | none=>(fQ false).all A k.1
 | some v=>(fQ false).of A k.1 v
def K8:aQ:=.mk 0 0 [] []
def MK(A:List Nd)(k:Key):AV:=match k.2.getD K8 with
 | .mk a b s ks=>.agg [.int .i64 k.1,.bool k.2.isNone,.int .i64 a,.int .i64 b,.str s,.il 4 (aU ks),.il 6 (bU (jR A k))]
theorem Tb(A:List Nd)(k:Key):NN (MK A k):=by
 unfold MK;split;exact .agg' (.cons nn (.cons (j9 _) (.cons nn (.cons nn (.cons nn (.cons (.il' (bK _)) (.cons (.il' (bY _)) .nil)))))))
def kO(A:List Nd)(E:List Key):List AV:=E.map (MK A)
theorem iU(A:List Nd)(E:List Key):kZ (kO A E):=λa h=>by
 obtain⟨k,-,rfl⟩:=aAE.1 h;exact Tb A k
theorem A2(A:List Nd)(E:List Key):(kO A E).length=E.length:=by simp[kO]
theorem Ll(A:List Nd)(E:List Key)(k:Key):kO A (E++[k])=kO A E++[MK A k]:=by simp[kO]
structure pS(A:List Nd)(S:List aQ)(E:List Key):Prop where
 nod:E.Nodup
 node:∀k∈E,k.1<A.length
 val:∀k∈E,∀v,k.2=some v->v∈S
theorem pS.len(h:pS A S E)(hS:Ga A S):E.length<=34000000000:=by
 have h1:=Gf (m:=(List.range A.length).flatMap λi=>(none::S.map some).map λo=>(i,o)) h.nod λk hk=>by
  refine aB8.2 ⟨k.1,aCi.2 (h.node k hk),aAE.2 ⟨k.2, ?_,rfl⟩⟩;cases ho:k.2 with
  | none=>exact aAv ..
  | some v=>exact aAo _ (aAE.2 ⟨v,h.val k hk v ho,rfl⟩)
 have h2:=xC (λi:Nat=>(none::S.map some).map λo=>((i,o):Key)) (S.length+1) (List.range A.length) λx _=>sq
 rw[List.length_range] at h2;have:=hS.len;omega
theorem pS.nil(A:List Nd)(S:List aQ):pS A S []:=⟨aC4,sq,sq⟩
theorem pS.snoc(h:pS A S E){k:Key}(hk:k∉E)(h1:k.1<A.length)(h2:∀v,k.2=some v->v∈S):pS A S (E++[k]):=by
 refine⟨?_,λq hq=>?_,λq hq v hv=>?_⟩
 .rw[aCe];refine⟨h.nod,sq,λa ha b hb e=>?_⟩;rw[aBa.1 hb] at e;exact hk (e ▸ ha)
 .rcases aAt.1 hq with hq|hq
  .exact h.node q hq
  .rw[aBa.1 hq];exact h1
 .rcases aAt.1 hq with hq|hq
  .exact h.val q hq v hv
  .rw[aBa.1 hq] at hv;exact h2 v hv
def jV(A:List Nd)(E:List Key)(rid:Nat):aP:=[(0,.row 99 3 [.agg [.il 12 (bJ A),.bool false,.sl rid 0 E.length]]),(rid,.row 169 7 (kO A E))]
def Zc(A:List Nd)(S:List aQ)(i:Nat)(E:List Key)(res:List Cell):AV->aP->Nat->Prop:=λr m k=>∃F,(∀q∈F,q.1<=i)/\pS A S (E++F)/\r = .il 6 (bU res)/\m=jV A (E++F) 2/\k=3
def IX(A:List Nd)(S:List aQ)(i:Nat):Prop:=∀(o:Option aQ) (E:List Key),(∀v,o=some v->v∈S)->pS A S E ->
 aH prog [] 46 [.ptr 0 0 0,.int .i64 i,.bool o.isNone,cO (o.getD K8)] (jV A E 1) 2 (Zc A S i E (jR A (i,o)))
theorem Mr(A:List Nd)(k:Key):∃a b s ks,k.2.getD K8 = .mk a b s ks/\MK A k = .agg [.int .i64 k.1,.bool k.2.isNone,.int .i64 a,.int .i64 b,.str s,.il 4 (aU ks),.il 6 (bU (jR A k))]:=by
 unfold MK;split;rename_i a b s ks h;exact⟨a,b,s,ks,h,rfl⟩
def XN(A:List Nd)(S:List aQ)(i:Nat):Prop:=∀(o:Option aQ) (E:List Key),(∀v,o=some v->v∈S)->pS A S E ->
 aH prog [] 94 [.ptr 0 0 0,cW (aG A i),.bool o.isNone,cO (o.getD K8)] (jV A E 1) 2 (λr m k=>∃F,(∀q∈F,q.1<i)/\pS A S (E++F)/\r = .il 6 (bU (jR A (i,o)))/\m=jV A (E++F) 2/\k=3)
theorem d9{ia ib rid len:Nat}(s0:lk J ia=some 0)(s1:lk J ib=some rid)(m0:lk mem ia=some (.row 99 3 [.agg [.il 12 (bJ A),.bool false,.sl ib 0 len]]))(m1:lk mem ib=some (.row 169 7 xs))(hl:len=E.length)(hx:xs=kO A E):dR mem J (jV A E rid):=
 ⟨⟨ia,_,s0,m0,.cons (.agg (.cons (.same _ (.il' (aR A))) (.cons (.same _ (j9 _)) (.cons (.slE s1 hl) .nil)))) .nil⟩,⟨ib,_,s1,m1,.eq (iU A E) hx⟩,trivial⟩
theorem YJ(h:VT A)(hS:Ga A S)(i:Nat)(hi:i<A.length)(hR:XN A S i):IX A S i:=by
 intro o E ho hE;have hv:iO (o.getD K8):=by
  cases o with
  | none=>exact⟨oq,oq,sq,sq,trivial⟩
  | some v=>exact(hS.ok v (ho v rfl)).1
 have nv:=dC (o.getD K8);have hRo:=hR o E ho hE;have hlen:=hE.len hS;have lE:=A2 A E;have nE:=iU A E;obtain⟨w,hw⟩:∃w,w=o.getD K8:=⟨_,rfl⟩
 rw[<-hw] at hv nv hRo |-;obtain⟨al,hal⟩:∃al,al=o.isNone:=⟨_,rfl⟩
 rw[<-hal] at hRo |-;obtain⟨vk,vn,vs,vks⟩:=w;refine aD bE func46 rfl ?_;refine Rr ?_;refine bA.at bE (λj:Nat=>j<=E.length/\∀q∈E.take j,q≠(i,o))
  (λj=>⟨[(0,.ptr 0 0 0),(1,.int .i64 i),(2,.bool al),(7,.ptr 2 0 0),(9,.int .i64 j)],[(0,.row 99 3 [.agg [.il 12 (bJ A),.bool false,.sl 1 0 E.length]]),(1,.row 169 7 (kO A E)),(2,.row 55 4 [cO (.mk vk vn vs vks)])],3,77⟩) (λj=>E.length-j) 0 [(0,0),(1,1),(2,2)] ⟨aAN _,sq⟩
  (aE _ rfl ⟨⟨0,_,rfl,rfl,.cons (.agg (.cons (.same _ (.il' (aR A))) (.cons (.same _ (j9 _)) (.cons (.slE rfl rfl) .nil)))) .nil⟩,aL 1 nE,aL 2 (.cons nv .nil),trivial⟩ ⟨aF,aJ,aJ,aF,aJ,trivial⟩) ?_
 rintro j ⟨hj,hjn⟩;refine Rr ?_;refine aI (λhb=>?_) (λhb=>?_)
 .have hlt:j<E.length:=su hb
  have eE:(kO A E)[0+((j:Nat):Int).toNat]? = some (MK A E[j]):=by
   rw[show 0+((j:Nat):Int).toNat=j by simp];simp[kO,aAa hlt]
  have bx:Nat.blt ((j:Nat):Int).toNat E.length=true:=aAf (by simp;omega);have htk:E.take (j+1)=E.take j++[E[j]]:=aAl hlt;have hEj:=hE.val _ (aAq hlt);have nxt:E[j]≠(i,o)->∀q∈E.take (j+1),q≠(i,o):=by
   intro hne q hq;rw[htk,aAt,aBa] at hq;rcases hq with hq|rfl
   .exact hjn q hq
   .exact hne
  generalize E[j]=kq at *;obtain⟨ki,ko⟩:=kq;obtain⟨u1,u2,u3,u4,hu,eC⟩:=Mr A (ki,ko);rw[eC] at eE;simp only at eE hu;by_cases e1:ki=i
  .subst e1;have ek:(((ki:Nat):Int) == ((ki:Nat):Int))=true:=sq
   cases ko with
   | none=>
    cases o with
    | none=>
     subst hal;generalize hrk:bU (jR A (ki,none))=rk at *;have nrk:kZ rk:=by rw[<-hrk];exact bY _
     refine Rt ?_;repeat((first|refine aN bx ?_|refine aB eE ?_);refine Rt ?_)
     rw[ek];refine Rt ?_;repeat((first|refine aN bx ?_|refine aB eE ?_);refine Rt ?_)
     exact aW (n':=3) (m':=jV A (E++[]) 2) [(0,0),(1,2)] rfl (d9 (ia:=0) (ib:=1) rfl rfl rfl rfl sq sq) (.same _ (.il' nrk)) ⟨[],sq,by rw[aA3];exact hE,by rw[hrk],rfl,rfl⟩
    | some v=>
     subst hal;have hnx:=nxt sq;refine Rt ?_;repeat((first|refine aN bx ?_|refine aB eE ?_);refine Rt ?_)
     rw[ek];refine Rt ?_;repeat((first|refine aN bx ?_|refine aB eE ?_);refine Rt ?_)
     exact .mk (j+1) [(0,0),(1,1),(2,2)] ⟨om,hnx⟩
      (aE _ rfl ⟨⟨0,_,rfl,rfl,.cons (.agg (.cons (.same _ (.il' (aR A))) (.cons (.same _ (j9 _)) (.cons (.slE rfl rfl) .nil)))) .nil⟩,aL 1 nE,aL 2 (.cons nv .nil),trivial⟩ ⟨aF,aJ,aJ,aF,⟨_,rfl,.int (by rw[aV oq];simp)⟩,trivial⟩) om
   | some u=>
    cases o with
    | none=>
     subst hal;have hnx:=nxt sq;refine Rt ?_;repeat((first|refine aN bx ?_|refine aB eE ?_);refine Rt ?_)
     rw[ek];refine Rt ?_;repeat((first|refine aN bx ?_|refine aB eE ?_);refine Rt ?_)
     exact .mk (j+1) [(0,0),(1,1),(2,2)] ⟨om,hnx⟩
      (aE _ rfl ⟨⟨0,_,rfl,rfl,.cons (.agg (.cons (.same _ (.il' (aR A))) (.cons (.same _ (j9 _)) (.cons (.slE rfl rfl) .nil)))) .nil⟩,aL 1 nE,aL 2 (.cons nv .nil),trivial⟩ ⟨aF,aJ,aJ,aF,⟨_,rfl,.int (by rw[aV oq];simp)⟩,trivial⟩) om
    | some v=>
     subst hal;have hu':u = .mk u1 u2 u3 u4:=hu;have hv' : .mk vk vn vs vks=v:=hw;have hC:=tK (.mk u1 u2 u3 u4) (.mk vk vn vs vks) (by rw[<-hu'];exact(hS.ok u (hEj u rfl)).1);by_cases ec:cJ (.mk u1 u2 u3 u4) (.mk vk vn vs vks)=0
     .have e2:u=v:=by rw[hu',<-hv'];exact uC.1 ec
      rw[ec] at hC;rw[e2] at eE;generalize hrk:bU (jR A (ki,some v))=rk at *;have nrk:kZ rk:=by rw[<-hrk];exact bY _
      refine Rt ?_;repeat((first|refine aN bx ?_|refine aB eE ?_);refine Rt ?_)
      rw[ek];refine Rt ?_;repeat((first|refine aN bx ?_|refine aB eE ?_);refine Rt ?_)
      refine hC.go ?_ (.cons (dC _) (.cons nv .nil)) nn;refine Rt ?_;repeat((first|refine aN bx ?_|refine aB eE ?_);refine Rt ?_)
      exact aW (n':=3) (m':=jV A (E++[]) 2) [(0,0),(1,2)] rfl (d9 (ia:=0) (ib:=1) rfl rfl rfl rfl sq sq) (.same _ (.il' nrk)) ⟨[],sq,by rw[aA3];exact hE,by rw[hrk],rfl,rfl⟩
     .have hnx:=nxt (by
       intro e;have:u=v:=Option.some.inj (congrArg Prod.snd e);rw[hu',<-hv'] at this;exact ec (uC.2 this))
      have hcb:(cJ (.mk u1 u2 u3 u4) (.mk vk vn vs vks) == 0)=false:=beq_eq_false_iff_ne.2 ec;refine Rt ?_;repeat((first|refine aN bx ?_|refine aB eE ?_);refine Rt ?_)
      rw[ek];refine Rt ?_;repeat((first|refine aN bx ?_|refine aB eE ?_);refine Rt ?_)
      refine hC.go ?_ (.cons (dC _) (.cons nv .nil)) nn;refine Rt ?_;repeat((first|refine aN bx ?_|refine aB eE ?_);refine Rt ?_)
      rw[hcb];refine Rt ?_;repeat((first|refine aN bx ?_|refine aB eE ?_);refine Rt ?_)
      exact .mk (j+1) [(0,0),(1,1),(2,2)] ⟨om,hnx⟩
       (aE _ rfl ⟨⟨0,_,rfl,rfl,.cons (.agg (.cons (.same _ (.il' (aR A))) (.cons (.same _ (j9 _)) (.cons (.slE rfl rfl) .nil)))) .nil⟩,aL 1 nE,aL 2 (.cons nv .nil),trivial⟩ ⟨aF,aJ,aJ,aF,⟨_,rfl,.int (by rw[aV oq];simp)⟩,trivial⟩) om
  .have hnx:=nxt λe=>e1 (congrArg Prod.fst e)
   have ek:(((ki:Nat):Int) == ((i:Nat):Int))=false:=beq_eq_false_iff_ne.2 om;refine Rt ?_;repeat((first|refine aN bx ?_|refine aB eE ?_);refine Rt ?_)
   rw[ek];refine Rt ?_;repeat((first|refine aN bx ?_|refine aB eE ?_);refine Rt ?_)
   exact .mk (j+1) [(0,0),(1,1),(2,2)] ⟨om,hnx⟩
    (aE _ rfl ⟨⟨0,_,rfl,rfl,.cons (.agg (.cons (.same _ (.il' (aR A))) (.cons (.same _ (j9 _)) (.cons (.slE rfl rfl) .nil)))) .nil⟩,aL 1 nE,aL 2 (.cons nv .nil),trivial⟩ ⟨aF,aJ,aJ,aF,⟨_,rfl,.int (by rw[aV oq];simp)⟩,trivial⟩) om
 .have hx:=b9 hi;have en:(bJ A)[((i:Nat):Int).toNat]? = some (cW (aG A i)):=by simp[jW,hx]
  have hje:j=E.length:=by
   have:¬j<E.length:=su hb
   omega
  rw[hje,aAD] at hjn;have nN:=bB (aG A i);generalize aG A i=x at *;obtain⟨xk,xn,xl,xh,xw,xb,xv,xc,⟨yk,yn,ys,yks⟩⟩:=x;refine Rr ?_;refine aB en ?_;refine Rt ?_;refine aH.useN bE [(0,0),(1,1)] hRo rfl (.cons (.ptr 0 0 0 0 rfl) (.cons (.same _ nN) (.cons (.same _ (j9 _)) (.cons (.same _ nv) .nil)))) (d9 (ia:=0) (ib:=1) rfl rfl rfl rfl rfl rfl) rfl ?_;rintro r m k ⟨F,hF1,hF2,rfl,rfl,rfl⟩;have hni:(i,o)∉E++F:=by
   intro hq;rcases aAt.1 hq with hq|hq
   .exact hjn _ hq rfl
   .have:=hF1 _ hq;simp only at this;omega
  have hI:=hF2.snoc hni hi (λv e=>ho v e);have hl2:=hF2.len hS;have lE2:=A2 A (E++F);have hsn:=Ll A (E++F) (i,o);obtain⟨u1,u2,u3,u4,hu,eC⟩:=Mr A (i,o);rw[eC] at hsn;simp only at hsn hu;rw[<-hw] at hu;rw[<-hal] at hsn;injection hu with a1 a2 a3 a4;subst a1 a2 a3 a4;have nrk:=bY (jR A (i,o));refine⟨[(0,0),(2,26)],.il 6 (bU (jR A (i,o))),jV A (E++F) 26,27,.same _ (.il' nrk),d9 (ia:=0) (ib:=2) rfl rfl rfl rfl rfl rfl,rfl, ?_⟩;generalize hrk:bU (jR A (i,o))=rk at *;have nE2:=iU A (E++F++[(i,o)]);unfold jV;generalize kO A (E++F)=G at *;refine Rt ?_;refine aN (cD rfl rfl lE2.symm (by simp only[aAJ,aBT,aBZ,aAH,aBC];omega)) ?_;refine Rt ?_;refine aW (n':=3) (m':=jV A (E++(F++[(i,o)])) 2) [(0,0),(42,2)] rfl (d9 (ia:=0) (ib:=42) rfl rfl rfl rfl ?_ (by rw[<-List.append_assoc,hsn];first|done|rfl)) (.same _ (.il' nrk)) ⟨F++[(i,o)],λq hq=>?_,by rw[<-List.append_assoc];exact hI,by rw[hrk],rfl,rfl⟩
  .simp[Nat.add_assoc]
  .rcases aAt.1 hq with hq|hq
   .have:=hF1 q hq;omega
   .rw[aBa.1 hq];exact aAp _
theorem RP{A:List Nd}{S:List aQ}{j:Nat}(ih:IX A S j)(o:Option aQ){E:List Key}(ho:∀v,o=some v->v∈S)(hE:pS A S E){al:Bool}{w:aQ}(hal:o.isNone=al)(hw:o.getD K8=w){mem:aP}{nx:Nat}(rid:Nat){K:AV->aP->Nat->Prop}
  (hp:i5 [0,rid] mem=jV A E rid) (s0:lk [(0,0),(rid,1)] 0=some 0) (s1:lk [(0,0),(rid,1)] rid=some 1) (m0:lk (jV A E rid) 0=some (.row 99 3 [.agg [.il 12 (bJ A),.bool false,.sl rid 0 E.length]])) (m1:lk (jV A E rid) rid=some (.row 169 7 (kO A E))) (hc0:(pU (jV A E 1) && (pW [(0,0),(rid,1)] && xW 2 [(0,0),(rid,1)]))=true)
  (hc:∀L':List Key,(pU (jV A L' nx) && (pW [(0,0),(2,nx)] && (Nat.ble nx (nx+1) && (wJ [0,rid] nx (jV A L' nx) && DD [(0,0),(rid,1)] 2 nx (nx+1) [(0,0),(2,nx)]))))=true)
  (hk:∀F:List Key,(∀q∈F,q.1<=j)->pS A S (E++F)->K (.il 6 (bU (jR A (j,o)))) (jV A (E++F) nx++iJ [0,rid] mem) (nx+1)):aH prog [] 46 [.ptr 0 0 0,.int .i64 j,.bool al,cO w] mem nx K:=by
 subst hal hw;refine aH.useN bE [(0,0),(rid,1)] (ih o E ho hE) hp (.cons (.ptr 0 0 0 0 s0) (.s (.cons (.same _ (j9 _)) (.cons (.same _ (dC _)) .nil)))) (d9 (ia:=0) (ib:=rid) s0 s1 m0 m1 rfl rfl) hc0 ?_;rintro r m k ⟨F,h1,h2,rfl,rfl,rfl⟩;exact⟨[(0,0),(2,nx)],.il 6 (bU (jR A (j,o))),jV A (E++F) nx,nx+1,.same _ (.il' (bY _)),d9 (ia:=0) (ib:=2) rfl rfl rfl rfl rfl rfl,hc _,hk F h1 h2⟩
theorem Mk(E:List Key)(a b:List Cell)(ha:a.length<=100000)(hb:b.length<=100000)(sa:∀c∈a,AK c)(sb:∀c∈b,AK c):aH prog [] 153 [.ptr 0 0 0,.il 6 (bU a),.il 6 (bU b)] (jV A E 1) 2 λr m k=>r = .il 6 (bU (dY false a b))/\m=jV A E 1/\k=2:=by
 have na:NN (.il 6 (bU a)):=.il' (bY a);have nb:NN (.il 6 (bU b)):=.il' (bY b);have nE:=iU A E;have la:=fS a;have lb:=fS b;have hl:=pR false a b;have hN:=Ih;have nz:=vS zC;obtain⟨y0,r0,y1,r1,y2,r2,ez1,ez2⟩:=uJ zC;rw[ez2] at hN nz;have step:=λ(i:Nat) (h:i<max a.length b.length)=>PL false a b h
 refine aD bE func153 rfl ?_;refine Rr ?_;refine bA.ph 103 6 ?_;refine bA.at bE (λi:Nat=>i<=max a.length b.length)
  (λi=>⟨[(0,.ptr 0 0 0),(1,.il 6 (bU a)),(2,.il 6 (bU b)),(7,.sl 2 0 ((dY false a b).take i).length),(8,.int .i64 i)],[(0,.row 99 3 [.agg [.il 12 (bJ A),.bool false,.sl 1 0 E.length]]),(1,.row 169 7 (kO A E)),(2,.row 103 6 (bU ((dY false a b).take i)))],3,65⟩) (λi=>max a.length b.length-i) 0 [(0,0),(1,1),(2,2)] (aAN _)
  (aE _ rfl ⟨⟨0,_,rfl,rfl,.cons (.agg (.cons (.same _ (.il' (aR A))) (.cons (.same _ (j9 _)) (.cons (.slE rfl rfl) .nil)))) .nil⟩,aL 1 nE,⟨2,_,rfl,rfl,.nil⟩,trivial⟩ ⟨aF,aM na,aM nb,⟨_,rfl,.nslk 2 2 _ rfl rfl⟩,aJ,trivial⟩) ?_
 intro i hi;have da:decide ((i:Int)<(a.length:Int))=decide (i<a.length):=aA2.2 om;have db:decide ((i:Int)<(b.length:Int))=decide (i<b.length):=aA2.2 om;have hXl:((dY false a b).take i).length=i:=by rw[aAR,hl];omega
 have lX:=fS ((dY false a b).take i);rw[hXl] at lX;by_cases h1:i<a.length
 .have st:=step i om;have ea:(bU a)[((i:Nat):Int).toNat]? = some (mG a[i]):=by rw[aAc,oP,aAa h1];rfl
  have sx:=sa _ (aAq h1);rw[aAb,aAa h1,aBv] at st;generalize a[i]=x at *;rw[aAn h1] at da;obtain⟨z,f0,z1,f1,z2,f2,ex1,ex2⟩:=uJ x;by_cases h2:i<b.length
  .have eb:(bU b)[((i:Nat):Int).toNat]? = some (mG b[i]):=by rw[aAc,oP,aAa h2];rfl
   have sy:=sb _ (aAq h2);rw[aAh h2,aAb,aAa h2,aBv] at st;generalize b[i]=y at *;rw[aAn h2] at db;obtain⟨w,g0,w1,g1,w2,g2,ey1,ey2⟩:=uJ y;have hA:=W3 x.n y.n (aAx sx om) (aAx sy om);rw[<-Int.natCast_add] at hA;obtain⟨u,v,ev⟩:=f8 ((x.n+y.n:Nat):Int);have hc:mG (GO false x y)=_:=QB (c:=x) (m:=x.n+y.n) ev ex2;have hs:=rV ((dY false a b).take i) (GO false x y);rw[<-st,hc] at hs;have nS:=bY ((dY false a b).take (i+1));have hX1:((dY false a b).take (i+1)).length=i+1:=by rw[aAR,hl];omega
   rw[ex1,ey1,ev] at hA;rw[ex2] at ea;rw[ey2] at eb;rw[hXl];generalize bU ((dY false a b).take i)=S at *;refine Rr ?_;rw[la,da];refine Rr ?_;refine hN.go ?_ .nil nz;repeat(first|(rw[la,da];refine Rr ?_)|(rw[lb,db];refine Rr ?_)|(refine aB ea ?_;refine Rr ?_)|(refine aB eb ?_;refine Rr ?_)|(refine dE.2 ?_;refine Rr ?_)|(refine bQ ?_;refine Rr ?_)|(refine Rr ?_;done))
   refine hA.go ?_ (.cons (gE _ _) (.cons (gE _ _) .nil)) (gE _ _);refine Rt ?_;repeat((first|rw[la,da]|rw[lb,db]|refine aB ea ?_|refine aB eb ?_);refine Rt ?_)
   refine aN (cD rfl rfl lX.symm (by simp;omega)) ?_;refine Rr ?_;exact .mk (i+1) [(0,0),(1,1),(15,2)] om
    (aE _ rfl ⟨⟨0,_,rfl,rfl,.cons (.agg (.cons (.same _ (.il' (aR A))) (.cons (.same _ (j9 _)) (.cons (.slE rfl rfl) .nil)))) .nil⟩,aL 1 nE,⟨15,_,rfl,rfl,.eq nS (by rw[hs];rfl)⟩,trivial⟩ ⟨aF,aM na,aM nb,⟨_,rfl,.slE rfl (by rw[hX1];rfl)⟩,⟨_,rfl,.int (by rw[aV oq];simp)⟩,trivial⟩) om
  .rw[aAe h2] at st;rw[aAw h2] at db;have hs:=rV ((dY false a b).take i) x;rw[<-st,ex2] at hs;have nS:=bY ((dY false a b).take (i+1));have hX1:((dY false a b).take (i+1)).length=i+1:=by rw[aAR,hl];omega
   rw[ex2] at ea;rw[hXl];generalize bU ((dY false a b).take i)=S at *;refine Rr ?_;rw[la,da];refine Rr ?_;refine hN.go ?_ .nil nz;refine Rt ?_;repeat((first|rw[la,da]|rw[lb,db]|refine aB ea ?_);refine Rt ?_)
   refine aN (cD rfl rfl lX.symm (by simp;omega)) ?_;refine Rr ?_;exact .mk (i+1) [(0,0),(1,1),(5,2)] om
    (aE _ rfl ⟨⟨0,_,rfl,rfl,.cons (.agg (.cons (.same _ (.il' (aR A))) (.cons (.same _ (j9 _)) (.cons (.slE rfl rfl) .nil)))) .nil⟩,aL 1 nE,⟨5,_,rfl,rfl,.eq nS (by rw[hs];rfl)⟩,trivial⟩ ⟨aF,aM na,aM nb,⟨_,rfl,.slE rfl (by rw[hX1];rfl)⟩,⟨_,rfl,.int (by rw[aV oq];simp)⟩,trivial⟩) om
 .rw[aAw h1] at da;by_cases h2:i<b.length
  .have st:=step i om;have ga:a.getD i zC=zC:=by rw[aAb,aAs om];rfl
   have eb:(bU b)[((i:Nat):Int).toNat]? = some (mG b[i]):=by rw[aAc,oP,aAa h2];rfl
   have sy:=sb _ (aAq h2);rw[aAh h2,aAb (l:=b),aAa h2,aBv,ga] at st;generalize b[i]=y at *;rw[aAn h2] at db;obtain⟨w,g0,w1,g1,w2,g2,ey1,ey2⟩:=uJ y;have hA:=W3 zC.n y.n (aAx Ze om) (aAx sy om);rw[<-Int.natCast_add] at hA;obtain⟨u,v,ev⟩:=f8 ((zC.n+y.n:Nat):Int);have hc:mG (GO false zC y)=_:=QB (c:=zC) (m:=zC.n+y.n) ev ez2;have hs:=rV ((dY false a b).take i) (GO false zC y);rw[<-st,hc] at hs;have nS:=bY ((dY false a b).take (i+1));have hX1:((dY false a b).take (i+1)).length=i+1:=by rw[aAR,hl];omega
   rw[ez1,ey1,ev] at hA;rw[ey2] at eb;rw[hXl];generalize bU ((dY false a b).take i)=S at *;refine Rr ?_;rw[la,da];refine Rr ?_;rw[lb,db];refine Rr ?_;refine hN.go ?_ .nil nz;refine Rt ?_;repeat((first|rw[la,da]|rw[lb,db]|refine aB eb ?_);refine Rt ?_)
   refine hA.go ?_ (.cons (gE _ _) (.cons (gE _ _) .nil)) (gE _ _);refine Rt ?_;repeat((first|rw[la,da]|rw[lb,db]|refine aB eb ?_);refine Rt ?_)
   refine aN (cD rfl rfl lX.symm (by simp;omega)) ?_;refine Rr ?_;exact .mk (i+1) [(0,0),(1,1),(15,2)] om
    (aE _ rfl ⟨⟨0,_,rfl,rfl,.cons (.agg (.cons (.same _ (.il' (aR A))) (.cons (.same _ (j9 _)) (.cons (.slE rfl rfl) .nil)))) .nil⟩,aL 1 nE,⟨15,_,rfl,rfl,.eq nS (by rw[hs];rfl)⟩,trivial⟩ ⟨aF,aM na,aM nb,⟨_,rfl,.slE rfl (by rw[hX1];rfl)⟩,⟨_,rfl,.int (by rw[aV oq];simp)⟩,trivial⟩) om
  .rw[aAw h2] at db;have he:(dY false a b).take i=dY false a b:=aAk (by rw[hl];omega);rw[he];have nS:=bY (dY false a b);have lE:=fS (dY false a b);refine Rr ?_;rw[la,da];refine Rr ?_;rw[lb,db];refine Rr ?_;exact aW (n':=2) (m':=jV A E 1) [(0,0),(1,1)] rfl (d9 (ia:=0) (ib:=1) rfl rfl rfl rfl rfl rfl) (Cv.fzR (id:=2) rfl rfl (.same nS) lE) ⟨rfl,rfl,rfl⟩
theorem UB(E:List Key)(a b:List Cell)(ha:a.length<=10000)(hb:b.length<=10000)(sa:∀c∈a,AK c)(sb:∀c∈b,AK c)(hP:∀i,(Cx a b i).length<=100000/\∀c∈Cx a b i,AK c)(hW:∀(i:Nat) (h:i<a.length),∀c∈sG false i a[i] b,AK c):
  aH prog [] 154 [.ptr 0 0 0,.il 6 (bU a),.il 6 (bU b)] (jV A E 1) 2 λr m k=>r = .il 6 (bU (Go.Ax.f6 false a b))/\m=jV A E 1/\k=2:=by
 have na:NN (.il 6 (bU a)):=.il' (bY a);have nb:NN (.il 6 (bU b)):=.il' (bY b);have nE:=iU A E;have la:=fS a;have lb:=fS b;have hN:=Ih;have nz:=vS zC;have hall:=R5 a b;have hAdd:=λ(i:Nat) (h:i<a.length)=>Mk (A:=A) E (Cx a b i) (sG false i a[i] b) (hP i).1 (by unfold sG;rw[aAA,aA9];split<;>simp<;>omega) (hP i).2 (hW i h)
 have hnext:=λ(i:Nat) (h:i<a.length)=>PR (b:=b) h
 generalize Go.Ax.f6 false a b=res at *;have hX0:Cx a b 0=[]:=rfl;have nX:=λi=>bY (Cx a b i)
 generalize Cx a b=X at *;refine aD bE func154 rfl ?_;refine Rr ?_;refine bA.at bE (λi:Nat=>i<=a.length)
  (λi=>⟨[(0,.ptr 0 0 0),(1,.il 6 (bU a)),(2,.il 6 (bU b)),(7,.il 6 (bU (X i))),(8,.int .i64 i)],[(0,.row 99 3 [.agg [.il 12 (bJ A),.bool false,.sl 1 0 E.length]]),(1,.row 169 7 (kO A E))],2,85⟩) (λi=>a.length-i) 0 [(0,0),(1,1)] (aAN _)
  (aE _ rfl ⟨⟨0,_,rfl,rfl,.cons (.agg (.cons (.same _ (.il' (aR A))) (.cons (.same _ (j9 _)) (.cons (.slE rfl rfl) .nil)))) .nil⟩,aL 1 nE,trivial⟩ ⟨aF,aM na,aM nb,⟨_,rfl,by rw[hX0];exact .nil 6⟩,aJ,trivial⟩) ?_
 intro i hi;refine Rr ?_;rw[la];refine aI (λhbb=>?_) (λhbb=>?_)
 .have hlt:i<a.length:=su hbb
  have ea:(bU a)[((i:Nat):Int).toNat]? = some (mG a[i]):=by rw[aAc,oP,aAa hlt];rfl
  have sx:=sa _ (aAq hlt);have hAi:=hAdd i hlt;have hni:=hnext i hlt;rw[<-hni] at hAi;have nXi:=nX i;generalize a[i]=x at *;obtain⟨z,f0,z1,f1,z2,f2,ex1,ex2,ex3⟩:=KV x;rw[ex2] at ea;have hf:decide ((((bO f0).length:Nat):Int)>0)=decide (0<x.n):=by
   rw[<-Lc,<-ex3,aS,aA2];omega
  obtain⟨y0,r0,y1,r1,y2,r2,ez1,ez2⟩:=uJ zC;obtain⟨d1,k1,d2,k2,e0⟩:=A4 ⟨0,1⟩;have hO:=ZX 0 oq;rw[e0] at hO;have hN':=hN;have nz':=nz;rw[ez2] at hN' nz';refine Rr ?_;refine bA.ph 103 6 ?_;refine bA.at bE (λk:Nat=>k<=i)
   (λk=>⟨[(0,.ptr 0 0 0),(1,.il 6 (bU a)),(2,.il 6 (bU b)),(7,.il 6 (bU (X i))),(8,.int .i64 i),(9,.sl 2 0 k),(10,.int .i64 k)],[(0,.row 99 3 [.agg [.il 12 (bJ A),.bool false,.sl 1 0 E.length]]),(1,.row 169 7 (kO A E)),(2,.row 103 6 (bU (List.replicate k zC)))],3,85⟩) (λk=>i-k) 0 [(0,0),(1,1),(2,2)] (aAN _)
   (aE _ rfl ⟨⟨0,_,rfl,rfl,.cons (.agg (.cons (.same _ (.il' (aR A))) (.cons (.same _ (j9 _)) (.cons (.slE rfl rfl) .nil)))) .nil⟩,aL 1 nE,⟨2,_,rfl,rfl,.nil⟩,trivial⟩ ⟨aF,aM na,aM nb,aM (.il' nXi),aJ,⟨_,rfl,.nslk 2 2 _ rfl rfl⟩,aJ,trivial⟩) ?_
  intro k hk;refine Rr ?_;refine aI (λhb2=>?_) (λhb2=>?_)
  .have hlk:k<i:=su hb2
   have lS:=fS (List.replicate k zC);rw[aA9] at lS;have hs:=Of k;have nS:=bY (List.replicate (k+1) zC);rw[ez2] at hs;generalize bU (List.replicate k zC)=S at *;refine Rr ?_;refine hN'.go ?_ .nil nz';refine Rt ?_;refine aN (cD rfl rfl lS.symm (by simp;omega)) ?_;refine Rr ?_;exact .mk (k+1) [(0,0),(1,1),(4,2)] om
    (aE _ rfl ⟨⟨0,_,rfl,rfl,.cons (.agg (.cons (.same _ (.il' (aR A))) (.cons (.same _ (j9 _)) (.cons (.slE rfl rfl) .nil)))) .nil⟩,aL 1 nE,⟨4,_,rfl,rfl,.eq nS (by rw[hs];rfl)⟩,trivial⟩ ⟨aF,aM na,aM nb,aM (.il' nXi),aJ,⟨_,rfl,.slE rfl rfl⟩,⟨_,rfl,.int (by rw[aV oq];simp)⟩,trivial⟩) om
  .have hke:k=i:=by
    have:¬k<i:=su hb2
    omega
   subst hke;have nR:=bY (List.replicate k zC);refine Rr ?_;refine bA.at bE (λq:Nat=>q<=b.length/\(0<q->0<x.n))
    (λq=>⟨[(0,.ptr 0 0 0),(1,.il 6 (bU a)),(2,.il 6 (bU b)),(7,.il 6 (bU (X k))),(8,.int .i64 k),(9,.sl 2 0 (k+q)),(11,.int .i64 q)],[(0,.row 99 3 [.agg [.il 12 (bJ A),.bool false,.sl 1 0 E.length]]),(1,.row 169 7 (kO A E)),(2,.row 103 6 (bU (List.replicate k zC++(b.take q).map (uF false x))))],3,85⟩) (λq=>b.length-q) 0 [(0,0),(1,1),(2,2)] ⟨aAN _,om⟩
    (aE _ rfl ⟨⟨0,_,rfl,rfl,.cons (.agg (.cons (.same _ (.il' (aR A))) (.cons (.same _ (j9 _)) (.cons (.slE rfl rfl) .nil)))) .nil⟩,aL 1 nE,⟨2,_,rfl,rfl,.eq (bY _) sq⟩,trivial⟩ ⟨aF,aM na,aM nb,aM (.il' nXi),aJ,⟨_,rfl,.slE rfl rfl⟩,aJ,trivial⟩) ?_
   rintro q ⟨hq,hqx⟩;have hYl:(List.replicate k zC++(b.take q).map (uF false x)).length=k+q:=by simp;omega
   have lY:=fS (List.replicate k zC++(b.take q).map (uF false x));rw[hYl] at lY;have db:decide ((q:Int)<(b.length:Int))=decide (q<b.length):=aA2.2 om;by_cases h2:q<b.length
   .rw[aAn h2] at db;by_cases h3:0<x.n
    .rw[aAn h3] at hf;have eb:(bU b)[((q:Nat):Int).toNat]? = some (mG b[q]):=by rw[aAc,oP,aAa h2];rfl
     have sy:=sb _ (aAq h2);have hYs:List.replicate k zC++(b.take (q+1)).map (uF false x)=(List.replicate k zC++(b.take q).map (uF false x))++[uF false x b[q]]:=by
      rw[aAl h2,aBu,<-List.append_assoc];rfl
     have nS:=bY (List.replicate k zC++(b.take (q+1)).map (uF false x));generalize b[q]=y at *;obtain⟨w,g0,w1,g1,w2,g2,ey1,ey2⟩:=uJ y;rw[ey2] at eb;have hM:=Yh x.n y.n (aAx sx om) (aAx sy om);rw[<-Int.natCast_mul] at hM;obtain⟨u,v,ev⟩:=f8 ((x.n*y.n:Nat):Int);have hc:mG (uF false x y)=_:=Du (c:=uF false x y) ev e0;have hs:=rV (List.replicate k zC++(b.take q).map (uF false x)) (uF false x y);rw[<-hYs,hc] at hs;rw[ex1,ey1,ev] at hM;generalize bU (List.replicate k zC++(b.take q).map (uF false x))=Y at *;refine Rr ?_;rw[lb,db];refine Rt ?_;repeat(refine aB ea ?_;refine Rt ?_)
     rw[hf];refine Rt ?_;repeat((first|refine aB ea ?_|refine aB eb ?_);refine Rt ?_)
     refine hM.go ?_ (.cons (gE _ _) (.cons (gE _ _) .nil)) (gE _ _);refine Rt ?_;repeat((first|refine aB ea ?_|refine aB eb ?_);refine Rt ?_)
     refine hO.go ?_ (.cons nn .nil) (Wv _ _ _ _);refine Rt ?_;repeat((first|refine aB ea ?_|refine aB eb ?_);refine Rt ?_)
     refine aN (cD rfl rfl lY.symm (by simp;omega)) ?_;refine Rr ?_;exact .mk (q+1) [(0,0),(1,1),(19,2)] ⟨om,λ_=>h3⟩
      (aE _ rfl ⟨⟨0,_,rfl,rfl,.cons (.agg (.cons (.same _ (.il' (aR A))) (.cons (.same _ (j9 _)) (.cons (.slE rfl rfl) .nil)))) .nil⟩,aL 1 nE,⟨19,_,rfl,rfl,.eq nS (by rw[hs];rfl)⟩,trivial⟩ ⟨aF,aM na,aM nb,aM (.il' nXi),aJ,⟨_,rfl,.slE rfl rfl⟩,⟨_,rfl,.int (by rw[aV oq];simp)⟩,trivial⟩) om
    .have hq0:q=0:=by
      apply Nat.eq_zero_of_not_pos;exact λe=>h3 (hqx e)
     have hYw:List.replicate k zC++(b.take q).map (uF false x)=sG false k x b:=by
      unfold sG;rw[aAe h3,hq0];simp
     rw[aAw h3] at hf;have nY:=bY (List.replicate k zC++(b.take q).map (uF false x));rw[<-hYw] at hAi;have nr:NN (.il 6 (bU (X (k+1)))):=.il' (nX _);generalize hGY:bU (List.replicate k zC++(b.take q).map (uF false x))=Y at *;refine Rr ?_;rw[lb,db];refine Rt ?_;repeat(refine aB ea ?_;refine Rt ?_)
     rw[hf];refine Rr ?_;refine aH.pre bE [(0,0),(1,1)] (mem':=jV A E 1) rfl (d9 (ia:=0) (ib:=1) rfl rfl rfl rfl rfl rfl) (.cons (.ptr 0 0 0 0 rfl) (.cons (.same _ (.il' nXi)) (.cons (Cv.fzR (id:=2) rfl rfl (.same nY) lY) .nil))) ?_;refine aH.useI bE [0,1] hAi rfl (.cons (.ptr 0 0 0 0 rfl) (.cons (.same _ (.il' nXi)) (.cons (.same _ (.il' nY)) .nil))) (d9 (ia:=0) (ib:=1) rfl rfl rfl rfl rfl rfl) rfl ?_;rintro r m k' ⟨rfl,rfl,rfl⟩;refine⟨nr,d9 (ia:=0) (ib:=1) rfl rfl rfl rfl rfl rfl,rfl, ?_⟩;refine Rr ?_;exact .mk (k+1) [(0,0),(1,1)] om (aE _ rfl ⟨⟨0,_,rfl,rfl,.cons (.agg (.cons (.same _ (.il' (aR A))) (.cons (.same _ (j9 _)) (.cons (.slE rfl rfl) .nil)))) .nil⟩,aL 1 nE,trivial⟩ ⟨aF,aM na,aM nb,aM nr,⟨_,rfl,.int (by rw[aV oq];simp)⟩,trivial⟩) om
   .rw[aAw h2] at db;have hYw:List.replicate k zC++(b.take q).map (uF false x)=sG false k x b:=by
     unfold sG;rw[aAk om];split
     .rfl
     .rename_i h3;have hq0:q=0:=by
       apply Nat.eq_zero_of_not_pos;exact λe=>h3 (hqx e)
      have:b=[]:=aAB om;rw[this];rfl
    have nY:=bY (List.replicate k zC++(b.take q).map (uF false x));rw[<-hYw] at hAi;have nr:NN (.il 6 (bU (X (k+1)))):=.il' (nX _);generalize hGY:bU (List.replicate k zC++(b.take q).map (uF false x))=Y at *;refine Rr ?_;rw[lb,db];refine Rr ?_;refine aH.pre bE [(0,0),(1,1)] (mem':=jV A E 1) rfl (d9 (ia:=0) (ib:=1) rfl rfl rfl rfl rfl rfl) (.cons (.ptr 0 0 0 0 rfl) (.cons (.same _ (.il' nXi)) (.cons (Cv.fzR (id:=2) rfl rfl (.same nY) lY) .nil))) ?_;refine aH.useI bE [0,1] hAi rfl (.cons (.ptr 0 0 0 0 rfl) (.cons (.same _ (.il' nXi)) (.cons (.same _ (.il' nY)) .nil))) (d9 (ia:=0) (ib:=1) rfl rfl rfl rfl rfl rfl) rfl ?_;rintro r m k' ⟨rfl,rfl,rfl⟩;refine⟨nr,d9 (ia:=0) (ib:=1) rfl rfl rfl rfl rfl rfl,rfl, ?_⟩;refine Rr ?_;exact .mk (k+1) [(0,0),(1,1)] om (aE _ rfl ⟨⟨0,_,rfl,rfl,.cons (.agg (.cons (.same _ (.il' (aR A))) (.cons (.same _ (j9 _)) (.cons (.slE rfl rfl) .nil)))) .nil⟩,aL 1 nE,trivial⟩ ⟨aF,aM na,aM nb,aM nr,⟨_,rfl,.int (by rw[aV oq];simp)⟩,trivial⟩) om
 .have he:i=a.length:=by
   have:¬i<a.length:=su hbb
   omega
  subst he;have nr:NN (.il 6 (bU (X a.length))):=.il' (nX _);rw[hall] at nr |-;refine Rr ?_;exact aW (n':=2) (m':=jV A E 1) [(0,0),(1,1)] rfl (d9 (ia:=0) (ib:=1) rfl rfl rfl rfl rfl rfl) (.same _ nr) ⟨rfl,rfl,rfl⟩
theorem D1(E:List Key)(a b:List Cell)(ha:a.length<=10000)(hb:b.length<=10000)(sa:eD a<=j8 300)(sb:eD b<=j8 300):aH prog [] 154 [.ptr 0 0 0,.il 6 (bU a),.il 6 (bU b)] (jV A E 1) 2 λr m k=>r = .il 6 (bU (Go.Ax.f6 false a b))/\m=jV A E 1/\k=2:=by
 have hm:∀n m:Nat,n<=j8 300->m<=j8 300->n*m<=j8 600:=λn m h1 h2=>by
  have h:=aBn h1 h2
  rwa [vZ] at h
 refine UB E a b ha hb (λc hc=>tI (aAx (sT hc) (aAx sa (fC om)))) (λc hc=>tI (aAx (sT hc) (aAx sb (fC om)))) (λi=>⟨?_,λc hc=>tI ?_⟩) λi hi c hc=>tI ?_
 .rw[Me];refine aAx (QR _ _) ?_;rw[aAR];omega
 .refine aAx (sT hc) ?_;rw[Me,nD];exact hm _ _ (aAx (I2 a i) sa) sb
 .refine aAx (sT hc) ?_;rw[HM];exact hm _ _ (aAx (sT (aAq hi)) sa) sb
theorem ND(E:List Key)(a b:List Cell)(ha:a.length<=100000)(hb:b.length<=100000)(sa:eD a<=j8 600)(sb:eD b<=j8 600):aH prog [] 153 [.ptr 0 0 0,.il 6 (bU a),.il 6 (bU b)] (jV A E 1) 2 λr m k=>r = .il 6 (bU (dY false a b))/\m=jV A E 1/\k=2:=
 Mk E a b ha hb (λc hc=>tI (aAx (sT hc) sa)) λc hc=>tI (aAx (sT hc) sb)
theorem HP{A:List Nd}{E:List Key}{f:Nat}{a b:List Cell}{res:List Cell}(h:aH prog [] f [.ptr 0 0 0,.il 6 (bU a),.il 6 (bU b)] (jV A E 1) 2 λr m k=>r = .il 6 (bU res)/\m=jV A E 1/\k=2){mem:aP}{nx:Nat}(rid:Nat){K:AV->aP->Nat->Prop}
  (hp:i5 [0,rid] mem=jV A E rid) (s0:lk [(0,0),(rid,1)] 0=some 0) (s1:lk [(0,0),(rid,1)] rid=some 1) (m0:lk (jV A E rid) 0=some (.row 99 3 [.agg [.il 12 (bJ A),.bool false,.sl rid 0 E.length]])) (m1:lk (jV A E rid) rid=some (.row 169 7 (kO A E))) (hc0:(pU (jV A E 1) && (pW [(0,0),(rid,1)] && xW 2 [(0,0),(rid,1)]))=true)
  (t1:lk [(0,0),(1,rid)] 1=some rid) (hc:(pU (jV A E rid) && (pW [(0,0),(1,rid)] && (Nat.ble nx nx && (wJ [0,rid] nx (jV A E rid) && DD [(0,0),(rid,1)] 2 nx nx [(0,0),(1,rid)]))))=true)
  (hk:K (.il 6 (bU res)) (jV A E rid++iJ [0,rid] mem) nx):aH prog [] f [.ptr 0 0 0,.il 6 (bU a),.il 6 (bU b)] mem nx K:=by
 refine aH.useN bE [(0,0),(rid,1)] h hp (.cons (.ptr 0 0 0 0 s0) (.cons (.same _ (.il' (bY _))) (.cons (.same _ (.il' (bY _))) .nil))) (d9 (ia:=0) (ib:=rid) s0 s1 m0 m1 rfl rfl) hc0 ?_;rintro r m k ⟨rfl,rfl,rfl⟩;exact⟨[(0,0),(1,rid)],.il 6 (bU res),jV A E rid,nx,.same _ (.il' (bY _)),d9 (ia:=0) (ib:=1) rfl t1 rfl rfl rfl rfl,hc,hk⟩
theorem k7(A:List Nd)(i:Nat)(o:Option aQ):jR A (i,o)=jC A i o:=by cases o<;>rfl
def AF(A:List Nd)(S:List aQ)(i:Nat)(o:Option aQ)(E:List Key):Prop:=aH prog [] 94 [.ptr 0 0 0,cW (aG A i),.bool o.isNone,cO (o.getD K8)] (jV A E 1) 2 (λr m k=>∃F,(∀q∈F,q.1<i)/\pS A S (E++F)/\r = .il 6 (bU (jR A (i,o)))/\m=jV A (E++F) 2/\k=3)
theorem Yn(h:VT A)(hS:Ga A S)(i:Nat)(hi:i<A.length)(ih:∀j<i,IX A S j)(k2:(aG A i).kind=2)(o:Option aQ)(E:List Key)(ho:∀v,o=some v->v∈S)(hE:pS A S E):AF A S i o E:=by
 have hx:=b9 hi;have hxm:=aAm hx;have gx:=h.node hx;have hkm:=λ(k:Int) (hk:k∈(aG A i).kids)=>eH h hx hk
 have nN:=bB (aG A i);have nv:=dC (o.getD K8);have hres:jR A (i,o)=Ib A (aG A i) o (aG A i).kids.length:=by rw[k7];exact Mw h hi k2 o
 have hvo:∀v,o=some v->bG v=0:=λv e=>(hS.ok v (ho v e)).2
 have hb:=YA h hi k2 hvo;have hnx:=λ(k:Nat) (hk:k<(aG A i).kids.length)=>Qf (A:=A) (x:=aG A i) (o:=o) hk
 have hwl:=h.wlen hx k2;have hwi:=MI gx.node.num;have hkl:=h.tin.klen _ hxm;have hrw:=λ(j:Nat) (hj:j<i)=>iG h (i:=j) om hvo
 have hWs:=λk=>Rw hwi om k
 have hS0:=Ti hwi om;have h0:Ib A (aG A i) o 0=[]:=by unfold Ib;rw[aBZ];rfl
 unfold AF;generalize Ib A (aG A i) o=G at *;obtain⟨w,hw⟩:∃w,o.getD K8=w:=⟨_,rfl⟩
 rw[hw] at nv |-;obtain⟨al,hal⟩:∃al,o.isNone=al:=⟨_,rfl⟩
 rw[hal,hres];generalize aG A i=x at *;obtain⟨xk,xn,xl,xh,xw,xb,xv,xc,⟨yk,yn,ys,yks⟩⟩:=x;simp only at k2 hkm hres hnx hwl hwi hkl hWs hS0 hb |-;subst k2;have hSum:=XB xw om hWs;have hWt:i64 (p9 xw):=by have:=hWs xw.length;rwa [aAD] at this
 have lc:=aK xc;generalize p9 xw=sw at *;obtain⟨vk,vn,vs,vks⟩:=w;refine aD bE func94 rfl ?_;refine Rt ?_;refine hSum.go ?_ (.cons (.il' (bH _)) .nil) nn;refine Rt ?_;refine bA.at bE (λp:Nat × List Key=>p.1<=xc.length/\(∀q∈p.2,q.1<i)/\pS A S (E++p.2))
  (λp=>⟨[(0,.ptr 0 0 0),(2,.bool al),(5,.ptr 2 0 0),(7,.ptr 3 0 0),(9,.il 6 (bU (G p.1))),(11,.int .i64 sw),(12,.int .i64 p.1)],[(0,.row 99 3 [.agg [.il 12 (bJ A),.bool false,.sl 4 0 (E++p.2).length]]),(4,.row 169 7 (kO A (E++p.2))),(2,.row 57 12 [cW ⟨2,xn,xl,xh,xw,xb,xv,xc,.mk yk yn ys yks⟩]),(3,.row 55 4 [cO (.mk vk vn vs vks)])],5,186⟩)
  (λp=>xc.length-p.1) (0,[]) [(0,0),(1,4),(2,2),(3,3)] ⟨aAN _,sq,su hE⟩
  (aE _ rfl ⟨⟨0,_,rfl,rfl,.cons (.agg (.cons (.same _ (.il' (aR A))) (.cons (.same _ (j9 _)) (.cons (.slE rfl sq) .nil)))) .nil⟩,⟨1,_,rfl,rfl,.eq (iU _ _) sq⟩,aL 2 (.cons nN .nil),aL 3 (.cons nv .nil),trivial⟩
   ⟨aF,aM (j9 _),aF,aF,⟨_,rfl,by rw[h0];exact .nil 6⟩,aJ,aJ,trivial⟩) ?_
 rintro⟨k,F⟩ ⟨hk,hF1,hF2⟩;simp only at hk hF1 hF2 |-;refine Rr ?_;rw[lc];refine aI (λhbb=>?_) (λhbb=>?_)
 .have hlt:k<xc.length:=su hbb
  have hnk:=hnx k hlt;have e1:(bL xw)[((k:Nat):Int).toNat]? = some (.int .i64 xw[k]):=by simp[bP,aAa (show k<xw.length by omega)]
  have e2:(bL xc)[((k:Nat):Int).toNat]? = some (.int .i64 xc[k]):=by simp[bP,aAa hlt]
  have ew:xw.getD k 0=xw[k]:=by rw[aAb,aAa (show k<xw.length by omega)];rfl
  have hwk:=hwi xw[k] (aAq _);rw[ew] at hnk;obtain⟨q0,q1⟩:=hkm xc[k] (aAq hlt);generalize xw[k]=wk at *;generalize xc[k]=q at *;obtain⟨j,rfl⟩:∃j:Nat,q=(j:Int):=⟨q.toNat,om⟩
  rw[aAc] at q1 hnk;have hO:=LV 1 wk sw oq om oq hWt hS0;have hr:=hrw j q1;rw[<-k7] at hnk hr;have nO:=bY (iP 1 wk sw);have hbk:=hb k;have sO:eD (iP 1 wk sw)=1:=by rw[tR];rfl
  have lO:(iP 1 wk sw).length=2:=rfl;have hM:=λE'=>D1 (A:=A) E' (iP 1 wk sw) (jR A (j,o)) om om (by rw[sO];exact pA _) (aAx hr.2 (fC om))
  have lM:=iT false (a:=iP 1 wk sw) (b:=jR A (j,o)) (p:=1) (q:=256) om om;have sM:=Bo (a:=iP 1 wk sw) (b:=jR A (j,o)) (by rw[sO];exact pA _) hr.2;have hA:=λE'=>ND (A:=A) E' (G k) (Go.Ax.f6 false (iP 1 wk sw) (jR A (j,o))) om om hbk.2 (aAx sM (fC om))
  rw[<-hnk] at hA;generalize iP 1 wk sw=O at *;refine Rt ?_;repeat((first|refine aB e1 ?_|refine aB e2 ?_);refine Rt ?_)
  refine hO.go ?_ (.cons nn (.cons nn (.cons nn .nil))) (.il' nO);refine Rt ?_;repeat((first|refine aB e1 ?_|refine aB e2 ?_);refine Rt ?_)
  refine RP (ih j q1) o ho hF2 hal hw 4 rfl rfl rfl rfl rfl rfl (λ_=>rfl) (λF' h1 h2=>?_);rw[List.append_assoc] at h2 |-;unfold jV;refine Rt ?_;repeat((first|refine aB e1 ?_|refine aB e2 ?_);refine Rt ?_)
  refine HP (hM (E++(F++F'))) 27 rfl rfl rfl rfl rfl rfl rfl rfl ?_;unfold jV;refine Rt ?_;repeat((first|refine aB e1 ?_|refine aB e2 ?_);refine Rt ?_)
  refine HP (hA (E++(F++F'))) 27 rfl rfl rfl rfl rfl rfl rfl rfl ?_;unfold jV;refine Rt ?_;repeat((first|refine aB e1 ?_|refine aB e2 ?_);refine Rt ?_)
  exact .mk (k+1,F++F') [(0,0),(27,4),(2,2),(3,3)] ⟨by simp only;omega,λp hp=>by
    rcases aAt.1 hp with hp|hp
    .exact hF1 p hp
    .have:=h1 p hp;omega,h2⟩
   (aE _ rfl ⟨⟨0,_,rfl,rfl,.cons (.agg (.cons (.same _ (.il' (aR A))) (.cons (.same _ (j9 _)) (.cons (.slE rfl rfl) .nil)))) .nil⟩,aL 27 (iU _ _),aL 2 (.cons nN .nil),aL 3 (.cons nv .nil),trivial⟩
    ⟨aF,aM (j9 _),aF,aF,aM (.il' (bY _)),aJ,⟨_,rfl,.int (by rw[aV oq];simp)⟩,trivial⟩) (by simp only;omega)
 .have hke:k=xc.length:=by
   have:¬k<xc.length:=su hbb
   omega
  rw[hke];refine Rt ?_;exact aW (n':=3) (m':=jV A (E++F) 2) [(0,0),(4,2)] rfl (d9 (ia:=0) (ib:=4) rfl rfl rfl rfl rfl rfl) (.same _ (.il' (bY _))) ⟨F,hF1,hF2,rfl,rfl,rfl⟩
theorem Yk(h:VT A)(hS:Ga A S)(i:Nat)(hi:i<A.length)(ih:∀j<i,IX A S j)(k4:(aG A i).kind=4)(o:Option aQ)(E:List Key)(ho:∀v,o=some v->v∈S)(hE:pS A S E):AF A S i o E:=by
 have hx:=b9 hi;have hxm:=aAm hx;have gx:=h.node hx;have hkm:=λ(k:Int) (hk:k∈(aG A i).kids)=>eH h hx hk
 have nN:=bB (aG A i);have nv:=dC (o.getD K8);have hres:jR A (i,o)=Iw A (aG A i) o (aG A i).values.length:=by rw[k7];exact NW h hi k4 o
 have hvo:∀v,o=some v->bG v=0:=λv e=>(hS.ok v (ho v e)).2
 have hvv:=λ(u:aQ) (hu:u∈(aG A i).values)=>h.vals_valid hx hu
 have hvS:=λ(u:aQ) (hu:u∈(aG A i).values)=>hS.own _ hxm u hu
 have hb:=XQ h hi k4 hvv hvo;have hbl:=gx.node.bind k4;have hnx:=λ(k:Nat) (hk:k<(aG A i).values.length)=>QY (A:=A) (x:=aG A i) (o:=o) hk hbl
 have hkl:=h.tin.vlen _ hxm;have hrw:=λ(j:Nat) (hj:j<i)=>iG h (i:=j) om hvo
 have hrv:=λ(j:Nat) (hj:j<i) (u:aQ) (hu:u∈(aG A i).values)=>iG h (i:=j) om (o:=some u) (λv e=>by injection e with e;exact e ▸ hvv u hu)
 have h0:Iw A (aG A i) o 0=[]:=by unfold Iw;rw[aBZ];rfl
 have hk0:iN (aG A i)=((aG A i).kids.getD 0 0).toNat:=rfl;rw[hk0] at hnx;unfold AF;generalize Iw A (aG A i) o=G at *;obtain⟨w,hw⟩:∃w,o.getD K8=w:=⟨_,rfl⟩
 rw[hw] at nv |-;obtain⟨al,hal⟩:∃al,o.isNone=al:=⟨_,rfl⟩
 rw[hal,hres];generalize aG A i=x at *;obtain⟨xk,xn,xl,xh,xw,xb,xv,xc,⟨yk,yn,ys,yks⟩⟩:=x;simp only at k4 hkm hres hnx hbl hkl hb hvv hvS hrv |-;subst k4;have lc:=aC xv;obtain⟨vk,vn,vs,vks⟩:=w;refine aD bE func94 rfl ?_;refine Rt ?_;refine bA.at bE (λp:Nat × List Key=>p.1<=xv.length/\(∀q∈p.2,q.1<i)/\pS A S (E++p.2))
  (λp=>⟨[(0,.ptr 0 0 0),(2,.bool al),(5,.ptr 2 0 0),(7,.ptr 3 0 0),(9,.il 6 (bU (G p.1))),(16,.int .i64 p.1)],[(0,.row 99 3 [.agg [.il 12 (bJ A),.bool false,.sl 4 0 (E++p.2).length]]),(4,.row 169 7 (kO A (E++p.2))),(2,.row 57 12 [cW ⟨4,xn,xl,xh,xw,xb,xv,xc,.mk yk yn ys yks⟩]),(3,.row 55 4 [cO (.mk vk vn vs vks)])],5,186⟩)
  (λp=>xv.length-p.1) (0,[]) [(0,0),(1,4),(2,2),(3,3)] ⟨aAN _,sq,su hE⟩
  (aE _ rfl ⟨⟨0,_,rfl,rfl,.cons (.agg (.cons (.same _ (.il' (aR A))) (.cons (.same _ (j9 _)) (.cons (.slE rfl sq) .nil)))) .nil⟩,⟨1,_,rfl,rfl,.eq (iU _ _) sq⟩,aL 2 (.cons nN .nil),aL 3 (.cons nv .nil),trivial⟩
   ⟨aF,aM (j9 _),aF,aF,⟨_,rfl,by rw[h0];exact .nil 6⟩,aJ,trivial⟩) ?_
 rintro⟨k,F⟩ ⟨hk,hF1,hF2⟩;simp only at hk hF1 hF2 |-;refine Rr ?_;rw[lc];refine aI (λhbb=>?_) (λhbb=>?_)
 .have hlt:k<xv.length:=su hbb
  have hlt2:k+1<xc.length:=om;have hlt0:0<xc.length:=om;have hnk:=hnx k hlt;have e1:(aU xv)[((k:Nat):Int).toNat]? = some (cO xv[k]):=by rw[aAc,gQ,aAa hlt];rfl
  have hwr:IntKind.i64.wrap ((k:Int)+1)=((k+1:Nat):Int):=by
   rw[aV oq];simp
  have e2:(bL xc)[((k+1:Nat):Int).toNat]? = some (.int .i64 xc[k+1]):=by
   rw[aAc];simp[bP,aAa hlt2]
  have e0:(bL xc)[(0:Int).toNat]? = some (.int .i64 (xc.getD 0 0)):=by
   rw[show (0:Int).toNat=0 from rfl,aAb,aAa hlt0];simp[bP,aAa hlt0]
  obtain⟨q0,q1⟩:=hkm xc[k+1] (aAq hlt2);obtain⟨p0,p1⟩:=hkm (xc.getD 0 0) (by rw[aAb,aAa hlt0];exact aAq hlt0);have huS:=hvS _ (aAq hlt);have huV:=λ(j:Nat) (hj:j<i)=>hrv j hj _ (aAq hlt)
  generalize xc[k+1]=q at *;generalize xc.getD 0 0=p at *;generalize xv[k]=u at *;obtain⟨q,rfl⟩:=aAu q0;obtain⟨p,rfl⟩:=aAu p0;rw[aAc] at q1 p1;rw[aAc,aAc] at hnk;have hr1:=huV p p1;have hr2:=hrw q q1;rw[<-k7] at hr1 hr2;rw[<-k7,<-k7] at hnk;have hbk:=hb k;have hM:=λE'=>D1 (A:=A) E' (jR A (p,some u)) (jR A (q,o)) om om (aAx hr1.2 (fC om)) (aAx hr2.2 (fC om))
  have lM:=iT false (a:=jR A (p,some u)) (b:=jR A (q,o)) (p:=256) (q:=256) om om;have sM:=Bo (a:=jR A (p,some u)) (b:=jR A (q,o)) hr1.2 hr2.2;have hA:=λE'=>ND (A:=A) E' (G k) (Go.Ax.f6 false (jR A (p,some u)) (jR A (q,o))) om om hbk.2 (aAx sM (fC om))
  rw[<-hnk] at hA;obtain⟨u1,u2,u3,u4⟩:=u;refine Rt ?_;repeat((first|refine aB e1 ?_|refine aB e0 ?_|rw[hwr]|refine aB e2 ?_);refine Rt ?_)
  refine RP (ih p p1) (some (.mk u1 u2 u3 u4)) (λv e=>by injection e with e;exact e ▸ huS) hF2 rfl rfl 4 rfl rfl rfl rfl rfl rfl (λ_=>rfl) (λF' h1 h2=>?_);rw[List.append_assoc] at h2 |-;unfold jV;refine Rt ?_;repeat((first|refine aB e1 ?_|refine aB e0 ?_|rw[hwr]|refine aB e2 ?_);refine Rt ?_)
  refine RP (ih q q1) o ho h2 hal hw 32 rfl rfl rfl rfl rfl rfl (λ_=>rfl) (λF'' h3 h4=>?_);rw[List.append_assoc,List.append_assoc,<-List.append_assoc F F' F''] at h4 |-;unfold jV;refine Rt ?_;repeat((first|refine aB e1 ?_|refine aB e0 ?_|rw[hwr]|refine aB e2 ?_);refine Rt ?_)
  refine HP (hM (E++(F++F'++F''))) 33 rfl rfl rfl rfl rfl rfl rfl rfl ?_;unfold jV;refine Rt ?_;repeat((first|refine aB e1 ?_|refine aB e0 ?_|rw[hwr]|refine aB e2 ?_);refine Rt ?_)
  refine HP (hA (E++(F++F'++F''))) 33 rfl rfl rfl rfl rfl rfl rfl rfl ?_;unfold jV;refine Rt ?_;repeat((first|refine aB e1 ?_|refine aB e0 ?_|rw[hwr]|refine aB e2 ?_);refine Rt ?_)
  exact .mk (k+1,F++F'++F'') [(0,0),(33,4),(2,2),(3,3)] ⟨by simp only;omega,λr hp=>by
    rcases aAt.1 hp with hp|hp
    .rcases aAt.1 hp with hp|hp
     .exact hF1 r hp
     .have:=h1 r hp;omega
    .have:=h3 r hp;omega,h4⟩
   (aE _ rfl ⟨⟨0,_,rfl,rfl,.cons (.agg (.cons (.same _ (.il' (aR A))) (.cons (.same _ (j9 _)) (.cons (.slE rfl rfl) .nil)))) .nil⟩,aL 33 (iU _ _),aL 2 (.cons nN .nil),aL 3 (.cons nv .nil),trivial⟩
    ⟨aF,aM (j9 _),aF,aF,aM (.il' (bY _)),⟨_,rfl,.int (by rfl)⟩,trivial⟩) (by simp only;omega)
 .have hke:k=xv.length:=by
   have:¬k<xv.length:=su hbb
   omega
  rw[hke];refine Rt ?_;exact aW (n':=3) (m':=jV A (E++F) 2) [(0,0),(4,2)] rfl (d9 (ia:=0) (ib:=4) rfl rfl rfl rfl rfl rfl) (.same _ (.il' (bY _))) ⟨F,hF1,hF2,rfl,rfl,rfl⟩
theorem Q8{A:List Nd}{S:List aQ}{j:Nat}(ih:IX A S j)(o:Option aQ){E:List Key}(ho:∀v,o=some v->v∈S)(hE:pS A S E){al:Bool}{w:aQ}(hal:o.isNone=al)(hw:o.getD K8=w){mem:aP}{nx:Nat}(rid:Nat){wa:AV}(cw:jB (i5 [0,rid] mem) [(0,0),(rid,1)] [wa] [cO w]){K:AV->aP->Nat->Prop}
  (hp:i5 [0,rid] mem=jV A E rid) (s0:lk [(0,0),(rid,1)] 0=some 0) (s1:lk [(0,0),(rid,1)] rid=some 1) (m0:lk (jV A E rid) 0=some (.row 99 3 [.agg [.il 12 (bJ A),.bool false,.sl rid 0 E.length]])) (m1:lk (jV A E rid) rid=some (.row 169 7 (kO A E))) (hc0:(pU (jV A E 1) && (pW [(0,0),(rid,1)] && xW 2 [(0,0),(rid,1)]))=true)
  (hc:∀L':List Key,(pU (jV A L' nx) && (pW [(0,0),(2,nx)] && (Nat.ble nx (nx+1) && (wJ [0,rid] nx (jV A L' nx) && DD [(0,0),(rid,1)] 2 nx (nx+1) [(0,0),(2,nx)]))))=true)
  (hk:∀F:List Key,(∀q∈F,q.1<=j)->pS A S (E++F)->K (.il 6 (bU (jR A (j,o)))) (jV A (E++F) nx++iJ [0,rid] mem) (nx+1)):aH prog [] 46 [.ptr 0 0 0,.int .i64 j,.bool al,wa] mem nx K:=by
 subst hal hw;refine aH.useN bE [(0,0),(rid,1)] (ih o E ho hE) hp (.cons (.ptr 0 0 0 0 s0) (.s (.cons (.same _ (j9 _)) (by rw[<-hp];exact cw)))) (d9 (ia:=0) (ib:=rid) s0 s1 m0 m1 rfl rfl) hc0 ?_;rintro r m k ⟨F,h1,h2,rfl,rfl,rfl⟩;exact⟨[(0,0),(2,nx)],.il 6 (bU (jR A (j,o))),jV A (E++F) nx,nx+1,.same _ (.il' (bY _)),d9 (ia:=0) (ib:=2) rfl rfl rfl rfl rfl rfl,hc _,hk F h1 h2⟩
theorem Yu(h:VT A)(hS:Ga A S)(i:Nat)(hi:i<A.length)(ih:∀j<i,IX A S j)(k3:(aG A i).kind=3)(E:List Key)(hE:pS A S E):AF A S i none E:=by
 have hx:=b9 hi;have hxm:=aAm hx;have gx:=h.node hx;have hkm:=λ(k:Int) (hk:k∈(aG A i).kids)=>eH h hx hk
 have nN:=bB (aG A i);have hkl:=h.tin.klen _ hxm;have hres:jR A (i,none)=Dr A (aG A i) (List.replicate (aG A i).kids.length none) (aG A i).kids.length:=by rw[k7];exact U5 h hi k3
 obtain⟨ps,hps⟩:∃ps:List (Option aQ),ps=List.replicate (aG A i).kids.length none:=⟨_,rfl⟩
 rw[<-hps] at hres;have hpl:ps.length=(aG A i).kids.length:=by rw[hps];simp
 have hpv:∀o∈ps,∀v,o=some v->bG v=0:=λo ho v e=>by
  rw[hps] at ho;rw[(aC5.1 ho).2] at e;cases e
 have hpn:∀(k:Nat) (hk:k<ps.length),ps[k]=none:=λk hk=>by subst hps;simp
 have hb:=G7 h hi k3 ps hpv;have hnx:=λ(k:Nat) (hk:k<(aG A i).kids.length) (hl:k<ps.length)=>KL (A:=A) (x:=aG A i) (ps:=ps) hk hl
 have hrw:=λ(j:Nat) (hj:j<i) (o:Option aQ) (ho:∀v,o=some v->bG v=0)=>iG h (i:=j) om ho
 have h0:Dr A (aG A i) ps 0=eM:=by unfold Dr;rw[aBZ];rfl
 unfold AF;generalize Dr A (aG A i) ps=G at *;rw[hres];have hMd:=RC (aG A i) [];have nv:=dC K8;have hEm:=BP;have nEm:=bY eM;generalize aG A i=x at *;obtain⟨xk,xn,xl,xh,xw,xb,xv,xc,⟨yk,yn,ys,yks⟩⟩:=x;simp only at k3 hkm hnx hkl hb hMd hres hpl |-;subst k3;have lc:=aK xc;rw[JO] at hMd;have nMd:=dC (.mk (if xn=[] then 2 else 3) 0 xn []);generalize (if xn=[] then(2:Int) else 3)=mk at *;refine aD bE func94 rfl ?_;refine Rt ?_;refine hMd.go ?_ (.cons nN (.cons (.il' (bK [])) .nil)) nMd;refine Rt ?_;refine hEm.go ?_ .nil (.il' nEm);refine Rt ?_;refine bA.at bE (λp:Nat × List Key=>p.1<=xc.length/\(∀q∈p.2,q.1<i)/\pS A S (E++p.2))
  (λp=>⟨[(0,.ptr 0 0 0),(2,.bool true),(5,.ptr 2 0 0),(7,.ptr 3 0 0),(9,.il 6 (bU (G p.1))),(14,.int .i64 p.1)],[(0,.row 99 3 [.agg [.il 12 (bJ A),.bool false,.sl 4 0 (E++p.2).length]]),(4,.row 169 7 (kO A (E++p.2))),(2,.row 57 12 [cW ⟨3,xn,xl,xh,xw,xb,xv,xc,.mk yk yn ys yks⟩]),(3,.row 55 4 [cO K8])],5,186⟩)
  (λp=>xc.length-p.1) (0,[]) [(0,0),(1,4),(2,2),(3,3)] ⟨aAN _,sq,su hE⟩
  (aE _ rfl ⟨⟨0,_,rfl,rfl,.cons (.agg (.cons (.same _ (.il' (aR A))) (.cons (.same _ (j9 _)) (.cons (.slE rfl sq) .nil)))) .nil⟩,⟨1,_,rfl,rfl,.eq (iU _ _) sq⟩,aL 2 (.cons nN .nil),aL 3 (.cons nv .nil),trivial⟩
   ⟨aF,aM (j9 _),aF,aF,⟨_,rfl,.eq (.il' (bY _)) (by rw[h0])⟩,aJ,trivial⟩) ?_
 rintro⟨k,F⟩ ⟨hk,hF1,hF2⟩;simp only at hk hF1 hF2 |-;refine Rr ?_;rw[lc];refine aI (λhbb=>?_) (λhbb=>?_)
 .have hlt:k<xc.length:=su hbb
  have hltp:k<ps.length:=om;have hnk:=hnx k hlt hltp;have hpk:=hpv ps[k] (aAq hltp);have e2:(bL xc)[((k:Nat):Int).toNat]? = some (.int .i64 xc[k]):=by simp[bP,aAa hlt]
  obtain⟨q0,q1⟩:=hkm xc[k] (aAq hlt);rw[hpn k hltp] at hnk hpk;obtain⟨part,hpart⟩:∃part:Option aQ,part=none:=⟨_,rfl⟩
  rw[<-hpart] at hnk hpk;generalize xc[k]=q at *;obtain⟨j,rfl⟩:∃j:Nat,q=(j:Int):=⟨q.toNat,om⟩
  rw[aAc] at q1 hnk;have hr:=hrw j q1 part hpk;rw[<-k7] at hnk hr;have hbk:=hb k;have hM:=λE'=>D1 (A:=A) E' (G k) (jR A (j,part)) om om (aAx hbk.2 (fC om)) (aAx hr.2 (fC om))
  rw[<-hnk] at hM;refine Rt ?_;repeat(refine aB e2 ?_;refine Rt ?_)
  refine Q8 (ih j q1) none (λv e=>by cases e) hF2 rfl rfl 4 (jB.cons (Cv.agg' (jB.cons (Cv.same _ nn) (jB.cons (Cv.same _ nn) (jB.cons (Cv.same _ nn) (jB.cons (Cv.nil 4) jB.nil))))) jB.nil) rfl rfl rfl rfl rfl rfl (λ_=>rfl) (λF' h1 h2=>?_);rw[<-hpart];rw[List.append_assoc] at h2 |-;unfold jV;refine Rt ?_;repeat(refine aB e2 ?_;refine Rt ?_)
  refine HP (hM (E++(F++F'))) 19 rfl rfl rfl rfl rfl rfl rfl rfl ?_;unfold jV;refine Rt ?_;repeat(refine aB e2 ?_;refine Rt ?_)
  exact .mk (k+1,F++F') [(0,0),(19,4),(2,2),(3,3)] ⟨by simp only;omega,λp hp=>by
    rcases aAt.1 hp with hp|hp
    .exact hF1 p hp
    .have:=h1 p hp;omega,h2⟩
   (aE _ rfl ⟨⟨0,_,rfl,rfl,.cons (.agg (.cons (.same _ (.il' (aR A))) (.cons (.same _ (j9 _)) (.cons (.slE rfl rfl) .nil)))) .nil⟩,aL 19 (iU _ _),aL 2 (.cons nN .nil),aL 3 (.cons nv .nil),trivial⟩
    ⟨aF,aM (j9 _),aF,aF,aM (.il' (bY _)),⟨_,rfl,.int (by rw[aV oq];simp)⟩,trivial⟩) (by simp only;omega)
 .have hke:k=xc.length:=by
   have:¬k<xc.length:=su hbb
   omega
  rw[hke];refine Rt ?_;exact aW (n':=3) (m':=jV A (E++F) 2) [(0,0),(4,2)] rfl (d9 (ia:=0) (ib:=4) rfl rfl rfl rfl rfl rfl) (.same _ (.il' (bY _))) ⟨F,hF1,hF2,rfl,rfl,rfl⟩
theorem Yj(h:VT A)(hS:Ga A S)(i:Nat)(hi:i<A.length)(ih:∀j<i,IX A S j)(k3:(aG A i).kind=3)(v:aQ)(E:List Key)(ho:v∈S)(hE:pS A S E):AF A S i (some v) E:=by
 have hx:=b9 hi;have hxm:=aAm hx;have gx:=h.node hx;have hkm:=λ(k:Int) (hk:k∈(aG A i).kids)=>eH h hx hk
 have nN:=bB (aG A i);have hkl:=h.tin.klen _ hxm;have hok:=hS.ok v ho;have hkS:=hS.kid v ho;have hSv:=UO h hi k3 v;rw[<-k7] at hSv;have hMd:=RC (aG A i) (jN v);obtain⟨ps,hps⟩:∃ps:List (Option aQ),ps=(jN v).map some:=⟨_,rfl⟩
 rw[<-hps] at hSv;have hpl:ps.length=(jN v).length:=by rw[hps];simp
 have hpv:∀o∈ps,∀v,o=some v->bG v=0:=λo ho v e=>by
  rw[hps] at ho;obtain⟨u,hu,rfl⟩:=aAE.1 ho;injection e with e;exact e ▸ (hS.ok u (hkS u hu)).2
 have hpn:∀(k:Nat) (hk:k<ps.length) (hk2:k<(jN v).length),ps[k]=some (jN v)[k]:=λk hk hk2=>by subst hps;simp
 have hb:=G7 h hi k3 ps hpv;have hnx:=λ(k:Nat) (hk:k<(aG A i).kids.length) (hl:k<ps.length)=>KL (A:=A) (x:=aG A i) (ps:=ps) hk hl
 have hrw:=λ(j:Nat) (hj:j<i) (o:Option aQ) (ho:∀v,o=some v->bG v=0)=>iG h (i:=j) om ho
 have h0:Dr A (aG A i) ps 0=eM:=by unfold Dr;rw[aBZ];rfl
 unfold AF;generalize Dr A (aG A i) ps=G at *;obtain⟨vk,vn,vs,vks⟩:=v;have hir:=λx=>LA (x:=x) hok.2
 have nv:=dC (.mk vk vn vs vks);have hEm:=BP;have nEm:=bY eM;generalize aG A i=x at *;obtain⟨xk,xn,xl,xh,xw,xb,xv,xc,⟨yk,yn,ys,yks⟩⟩:=x;simp only at k3 hkm hnx hkl hb hMd hSv |-;subst k3;have lc:=aK xc;rw[JO] at hMd;have nMd:=dC (.mk (if xn=[] then 2 else 3) 0 xn vks);have hie:=hir ⟨3,xn,xl,xh,xw,xb,xv,xc,.mk yk yn ys yks⟩;simp only at hie;have lv:=aC vks
 replace hMd:aT prog [] 155 [cW ⟨3,xn,xl,xh,xw,xb,xv,xc,.mk yk yn ys yks⟩,.il 4 (aU vks)] (cO (.mk (if xn=[] then 2 else 3) 0 xn vks)):=hMd
 replace hpl:ps.length=vks.length:=hpl
 replace hpn:∀(k:Nat) (hk:k<ps.length) (hk2:k<vks.length),ps[k]=some vks[k]:=hpn
 replace hkS:∀u∈vks,u∈S:=hkS
 have hvl:vks.length<=4294967296:=hok.1.2.2.2.1;generalize (if xn=[] then(2:Int) else 3)=mk at *;refine aD bE func94 rfl ?_;refine Rt ?_;refine hMd.go ?_ (.cons nN (.cons (.il' (bK vks)) .nil)) nMd;refine Rt ?_;by_cases c1:mk=vk
 .have b1:(mk != vk)=false:=by simp[c1]
  rw[b1];refine Rt ?_;by_cases c2:xn=vs
  .have b2:(!(xn == vs))=false:=by simp[c2]
   rw[b2];refine Rt ?_;rw[lv,lc];by_cases c3:vks.length=xc.length
   .have b3:((vks.length:Int) != (xc.length:Int))=false:=by simp[c3]
    rw[b3];have him:=hie.2 ⟨c1,c2,c3⟩;rw[him,aAh rfl] at hSv;rw[hSv];refine Rt ?_;refine hEm.go ?_ .nil (.il' nEm);refine Rt ?_;refine bA.at bE (λp:Nat × List Key=>p.1<=xc.length/\(∀q∈p.2,q.1<i)/\pS A S (E++p.2))
     (λp=>⟨[(0,.ptr 0 0 0),(2,.bool false),(5,.ptr 2 0 0),(7,.ptr 3 0 0),(9,.il 6 (bU (G p.1))),(14,.int .i64 p.1)],[(0,.row 99 3 [.agg [.il 12 (bJ A),.bool false,.sl 4 0 (E++p.2).length]]),(4,.row 169 7 (kO A (E++p.2))),(2,.row 57 12 [cW ⟨3,xn,xl,xh,xw,xb,xv,xc,.mk yk yn ys yks⟩]),(3,.row 55 4 [cO (.mk vk vn vs vks)])],5,186⟩)
     (λp=>xc.length-p.1) (0,[]) [(0,0),(1,4),(2,2),(3,3)] ⟨aAN _,sq,su hE⟩
     (aE _ rfl ⟨⟨0,_,rfl,rfl,.cons (.agg (.cons (.same _ (.il' (aR A))) (.cons (.same _ (j9 _)) (.cons (.slE rfl sq) .nil)))) .nil⟩,⟨1,_,rfl,rfl,.eq (iU _ _) sq⟩,aL 2 (.cons nN .nil),aL 3 (.cons nv .nil),trivial⟩
      ⟨aF,aM (j9 _),aF,aF,⟨_,rfl,.eq (.il' (bY _)) (by rw[h0])⟩,aJ,trivial⟩) ?_
    rintro⟨k,F⟩ ⟨hk,hF1,hF2⟩;simp only at hk hF1 hF2 |-;refine Rr ?_;rw[lc];refine aI (λhbb=>?_) (λhbb=>?_)
    .have hlt:k<xc.length:=su hbb
     have hltp:k<ps.length:=om;have hnk:=hnx k hlt hltp;have hpk:=hpv ps[k] (aAq hltp);have e2:(bL xc)[((k:Nat):Int).toNat]? = some (.int .i64 xc[k]):=by simp[bP,aAa hlt]
     obtain⟨q0,q1⟩:=hkm xc[k] (aAq hlt);have hltv:k<vks.length:=om;rw[hpn k hltp hltv] at hnk hpk;have e1:(aU vks)[((k:Nat):Int).toNat]? = some (cO vks[k]):=by rw[aAc,gQ,aAa hltv];rfl
     have huS:=hkS vks[k] (aAq hltv);generalize vks[k]=u at *;obtain⟨part,hpart⟩:∃part:Option aQ,part=some u:=⟨_,rfl⟩
     rw[<-hpart] at hnk hpk;generalize xc[k]=q at *;obtain⟨j,rfl⟩:∃j:Nat,q=(j:Int):=⟨q.toNat,om⟩
     rw[aAc] at q1 hnk;have hr:=hrw j q1 part hpk;rw[<-k7] at hnk hr;have hbk:=hb k;have hM:=λE'=>D1 (A:=A) E' (G k) (jR A (j,part)) om om (aAx hbk.2 (fC om)) (aAx hr.2 (fC om))
     rw[<-hnk] at hM;obtain⟨u1,u2,u3,u4⟩:=u;refine Rt ?_;repeat((first|refine aB e1 ?_|refine aB e2 ?_);refine Rt ?_)
     refine Q8 (ih j q1) (some (.mk u1 u2 u3 u4)) (λv e=>by injection e with e;exact e ▸ huS) hF2 rfl rfl 4 (jB.cons (Cv.same _ (dC _)) jB.nil) rfl rfl rfl rfl rfl rfl (λ_=>rfl) (λF' h1 h2=>?_);rw[<-hpart];rw[List.append_assoc] at h2 |-;unfold jV;refine Rt ?_;repeat((first|refine aB e1 ?_|refine aB e2 ?_);refine Rt ?_)
     refine HP (hM (E++(F++F'))) 19 rfl rfl rfl rfl rfl rfl rfl rfl ?_;unfold jV;refine Rt ?_;repeat((first|refine aB e1 ?_|refine aB e2 ?_);refine Rt ?_)
     exact .mk (k+1,F++F') [(0,0),(19,4),(2,2),(3,3)] ⟨by simp only;omega,λp hp=>by
       rcases aAt.1 hp with hp|hp
       .exact hF1 p hp
       .have:=h1 p hp;omega,h2⟩
      (aE _ rfl ⟨⟨0,_,rfl,rfl,.cons (.agg (.cons (.same _ (.il' (aR A))) (.cons (.same _ (j9 _)) (.cons (.slE rfl rfl) .nil)))) .nil⟩,aL 19 (iU _ _),aL 2 (.cons nN .nil),aL 3 (.cons nv .nil),trivial⟩
       ⟨aF,aM (j9 _),aF,aF,aM (.il' (bY _)),⟨_,rfl,.int (by rw[aV oq];simp)⟩,trivial⟩) (by simp only;omega)
    .have hke:k=xc.length:=by
      have:¬k<xc.length:=su hbb
      omega
     rw[hke];refine Rt ?_;exact aW (n':=3) (m':=jV A (E++F) 2) [(0,0),(4,2)] rfl (d9 (ia:=0) (ib:=4) rfl rfl rfl rfl rfl rfl) (.same _ (.il' (bY _))) ⟨F,hF1,hF2,rfl,rfl,rfl⟩
   .have b3:((vks.length:Int) != (xc.length:Int))=true:=bne_iff_ne.2 om;rw[b3];have him:jA ⟨3,xn,xl,xh,xw,xb,xv,xc,.mk yk yn ys yks⟩ (.mk vk vn vs vks)=false:=by
     rw[aBz];exact λe=>c3 (hie.1 e).2.2
    rw[him,aAe sq] at hSv;rw[hSv];refine Rt ?_;exact aW (n':=3) (m':=jV A (E++[]) 2) [(0,0),(1,2)] rfl (d9 (ia:=0) (ib:=1) rfl rfl rfl rfl sq sq) (.nil 6) ⟨[],sq,by rw[aA3];exact hE,rfl,rfl,rfl⟩
  .have b2:(!(xn == vs))=true:=by simp[c2]
   rw[b2];have him:jA ⟨3,xn,xl,xh,xw,xb,xv,xc,.mk yk yn ys yks⟩ (.mk vk vn vs vks)=false:=by
    rw[aBz];exact λe=>c2 (hie.1 e).2.1
   rw[him,aAe sq] at hSv;rw[hSv];refine Rt ?_;exact aW (n':=3) (m':=jV A (E++[]) 2) [(0,0),(1,2)] rfl (d9 (ia:=0) (ib:=1) rfl rfl rfl rfl sq sq) (.nil 6) ⟨[],sq,by rw[aA3];exact hE,rfl,rfl,rfl⟩
 .have b1:(mk != vk)=true:=bne_iff_ne.2 c1;rw[b1];have him:jA ⟨3,xn,xl,xh,xw,xb,xv,xc,.mk yk yn ys yks⟩ (.mk vk vn vs vks)=false:=by
   rw[aBz];exact λe=>c1 (hie.1 e).1
  rw[him,aAe sq] at hSv;rw[hSv];refine Rt ?_;exact aW (n':=3) (m':=jV A (E++[]) 2) [(0,0),(1,2)] rfl (d9 (ia:=0) (ib:=1) rfl rfl rfl rfl sq sq) (.nil 6) ⟨[],sq,by rw[aA3];exact hE,rfl,rfl,rfl⟩
theorem Vj(h:VT A)(hS:Ga A S)(i:Nat)(hi:i<A.length)(k01:(aG A i).kind=0\/(aG A i).kind=1)(o:Option aQ)(E:List Key)(ho:∀v,o=some v->v∈S)(hE:pS A S E):AF A S i o E:=by
 have hx:=b9 hi;have hxm:=aAm hx;have gx:=h.node hx;have nN:=bB (aG A i);have hnum:=gx.node.num;have hokv:=(h.tin.ok _ hxm).value;have nEm:=bY eM;unfold AF;cases o with
 | none=>
  rcases k01 with k0|k1
  .have hres:jR A (i,none)=eM:=by rw[k7];exact S5 h hi k0
   rw[hres];generalize aG A i=x at *;obtain⟨xk,xn,xl,xh,xw,xb,xv,xc,⟨yk,yn,ys,yks⟩⟩:=x;simp only at k0;subst k0;refine aD bE func94 rfl ?_;refine Rt ?_;refine BP.go ?_ .nil (.il' nEm);refine Rt ?_;exact aW (n':=3) (m':=jV A (E++[]) 2) [(0,0),(1,2)] rfl (d9 (ia:=0) (ib:=1) rfl rfl rfl rfl sq sq) (.same _ (.il' nEm)) ⟨[],sq,by rw[aA3];exact hE,rfl,rfl,rfl⟩
  .have hres:jR A (i,none)=iP ((aG A i).hi-(aG A i).lo+1) 1 1:=by rw[k7];exact UF h hi k1
   rw[hres];generalize aG A i=x at *;obtain⟨xk,xn,xl,xh,xw,xb,xv,xc,⟨yk,yn,ys,yks⟩⟩:=x;simp only at k1 |-;subst k1;obtain⟨r1,r2,r3,r4⟩:=dG hnum;simp only at r1 r2 r3 r4;have hO:=LV (xh-xl+1) 1 1 oq om oq oq om;have nr:=bY (iP (xh-xl+1) 1 1);have w1:IntKind.i64.wrap (xh-xl)=xh-xl:=aV oq;have w2:IntKind.i64.wrap (xh-xl+1)=xh-xl+1:=aV oq;have hO2:aT prog [] 151 [.int .i64 (IntKind.i64.wrap (IntKind.i64.wrap (xh-xl)+1)),.int .i64 1,.int .i64 1] (.il 6 (bU (iP (xh-xl+1) 1 1))):=by rw[w1,w2];exact hO
   refine aD bE func94 rfl ?_;refine Rt ?_;refine hO2.go ?_ (.cons nn (.cons nn (.cons nn .nil))) (.il' nr);refine Rt ?_;exact aW (n':=3) (m':=jV A (E++[]) 2) [(0,0),(1,2)] rfl (d9 (ia:=0) (ib:=1) rfl rfl rfl rfl sq sq) (.same _ (.il' nr)) ⟨[],sq,by rw[aA3];exact hE,rfl,rfl,rfl⟩
 | some v=>
  have hok:=hS.ok v (ho v rfl);have nv:=dC v;rcases k01 with k0|k1
  .have hres:jR A (i,some v)=_:=(k7 A i (some v)).trans (U1 h hi k0 v);rw[hres];generalize aG A i=x at *;obtain⟨xk,xn,xl,xh,xw,xb,xv,xc,y⟩:=x;simp only at k0 hokv |-;subst k0;have hC:=tK y v hokv;have ny:=dC y;generalize cJ y v=c at *;obtain⟨yk,yn,ys,yks⟩:=y;obtain⟨vk,vn,vs,vks⟩:=v;refine aD bE func94 rfl ?_;refine Rt ?_;refine hC.go ?_ (.cons ny (.cons nv .nil)) nn;refine Rt ?_;refine aI (λhb=>?_) (λhb=>?_)
   .rw[aAh (su hb)];refine Rt ?_;refine BP.go ?_ .nil (.il' nEm);refine Rt ?_;exact aW (n':=3) (m':=jV A (E++[]) 2) [(0,0),(1,2)] rfl (d9 (ia:=0) (ib:=1) rfl rfl rfl rfl sq sq) (.same _ (.il' nEm)) ⟨[],sq,by rw[aA3];exact hE,rfl,rfl,rfl⟩
   .rw[aAe (su hb)];refine Rt ?_;exact aW (n':=3) (m':=jV A (E++[]) 2) [(0,0),(1,2)] rfl (d9 (ia:=0) (ib:=1) rfl rfl rfl rfl sq sq) (.nil 6) ⟨[],sq,by rw[aA3];exact hE,rfl,rfl,rfl⟩
  .have hres:jR A (i,some v)=_:=(k7 A i (some v)).trans (Ud h hi k1 v);rw[hres];generalize aG A i=x at *;obtain⟨xk,xn,xl,xh,xw,xb,xv,xc,⟨yk,yn,ys,yks⟩⟩:=x;simp only at k1 |-;subst k1;obtain⟨r1,r2,r3,r4⟩:=dG hnum;simp only at r1 r2 r3 r4;have hO:=LV 1 1 (xh-xl+1) oq om oq oq om;have nr:=bY (iP 1 1 (xh-xl+1));have w1:IntKind.i64.wrap (xh-xl)=xh-xl:=aV oq;have w2:IntKind.i64.wrap (xh-xl+1)=xh-xl+1:=aV oq;have hO2:aT prog [] 151 [.int .i64 1,.int .i64 1,.int .i64 (IntKind.i64.wrap (IntKind.i64.wrap (xh-xl)+1))] (.il 6 (bU (iP 1 1 (xh-xl+1)))):=by rw[w1,w2];exact hO
   have hir:yE ⟨1,xn,xl,xh,xw,xb,xv,xc,.mk yk yn ys yks⟩ v=(decide (Jb v=0) && decide (xl<=MQ v) && decide (MQ v<=xh)):=rfl;rw[hir];obtain⟨vk,vn,vs,vks⟩:=v;have e1:Jb (.mk vk vn vs vks)=vk:=rfl;have e2:MQ (.mk vk vn vs vks)=vn:=rfl;rw[e1,e2];refine aD bE func94 rfl ?_;refine Rt ?_;by_cases c1:vk=0
   .have b1:(vk == 0)=true:=by simp[c1]
    rw[b1];refine Rt ?_;by_cases c2:xl<=vn
    .have b2:decide (vn≥(⟨1,xn,xl,xh,xw,xb,xv,xc,.mk yk yn ys yks⟩:Nd).lo)=true:=aAn c2;rw[b2];refine Rt ?_;by_cases c3:vn<=xh
     .have b3:decide (vn<=(⟨1,xn,xl,xh,xw,xb,xv,xc,.mk yk yn ys yks⟩:Nd).hi)=true:=aAn c3;rw[b3];rw[aAh (by simp[c1,c2,c3])];refine Rt ?_;refine hO2.go ?_ (.cons nn (.cons nn (.cons nn .nil))) (.il' nr);refine Rt ?_;exact aW (n':=3) (m':=jV A (E++[]) 2) [(0,0),(1,2)] rfl (d9 (ia:=0) (ib:=1) rfl rfl rfl rfl sq sq) (.same _ (.il' nr)) ⟨[],sq,by rw[aA3];exact hE,rfl,rfl,rfl⟩
     .have b3:decide (vn<=(⟨1,xn,xl,xh,xw,xb,xv,xc,.mk yk yn ys yks⟩:Nd).hi)=false:=aAw c3;rw[b3];rw[aAe (by simp[c1,c2,c3])];refine Rt ?_;exact aW (n':=3) (m':=jV A (E++[]) 2) [(0,0),(1,2)] rfl (d9 (ia:=0) (ib:=1) rfl rfl rfl rfl sq sq) (.nil 6) ⟨[],sq,by rw[aA3];exact hE,rfl,rfl,rfl⟩
    .have b2:decide (vn≥(⟨1,xn,xl,xh,xw,xb,xv,xc,.mk yk yn ys yks⟩:Nd).lo)=false:=aAw c2;rw[b2];rw[aAe (by simp[c1,c2])];refine Rt ?_;exact aW (n':=3) (m':=jV A (E++[]) 2) [(0,0),(1,2)] rfl (d9 (ia:=0) (ib:=1) rfl rfl rfl rfl sq sq) (.nil 6) ⟨[],sq,by rw[aA3];exact hE,rfl,rfl,rfl⟩
   .have b1:(vk == 0)=false:=beq_eq_false_iff_ne.2 c1;rw[b1];rw[aAe (by simp[c1])];refine Rt ?_;exact aW (n':=3) (m':=jV A (E++[]) 2) [(0,0),(1,2)] rfl (d9 (ia:=0) (ib:=1) rfl rfl rfl rfl sq sq) (.nil 6) ⟨[],sq,by rw[aA3];exact hE,rfl,rfl,rfl⟩
theorem ZM(h:VT A)(hS:Ga A S)(i:Nat)(hi:i<A.length)(ih:∀j<i,IX A S j):XN A S i:=by
 intro o E ho hE;have hk:=(h.node (b9 hi)).node.kind;have hc:(aG A i).kind=0\/(aG A i).kind=1\/(aG A i).kind=2\/(aG A i).kind=3\/(aG A i).kind=4:=om;rcases hc with k|k|k|k|k
 .exact Vj h hS i hi (.inl k) o E ho hE
 .exact Vj h hS i hi (.inr k) o E ho hE
 .exact Yn h hS i hi ih k o E ho hE
 .cases o with
  | none=>exact Yu h hS i hi ih k E hE
  | some v=>exact Yj h hS i hi ih k v E (ho v rfl) hE
 .exact Yk h hS i hi ih k o E ho hE
theorem Zf(h:VT A)(hS:Ga A S):∀i,i<A.length->IX A S i:=by
 intro i
 induction i using Nat.strongRecOn with
 | ind i ih=>exact λhi=>YJ h hS i hi (ZM h hS i hi λj hj=>ih j hj om)
theorem NA(h:VT A)(hl:A.length<=100):aT prog [] 48 [.agg [.il 12 (bJ A)],.bool false,.bool true,.agg [.int .i64 0,.int .i64 0,.str [],.nsl]] (.il 6 (bU (jR A (A.length-1,none)))):=by
 have hS:=MG h hl;have hp:=h.pos;have hR:=Zf h hS (A.length-1) om;have lA:=dL A;have nA:=aR A;have hd:(((A.length:Nat):Int) == 0)=false:=beq_eq_false_iff_ne.2 om;have hw:IntKind.i64.wrap (((A.length:Nat):Int)-1)=((A.length-1:Nat):Int):=by
  rw[aV oq];omega
 refine aD bE func48 rfl ?_;refine Rr ?_;rw[lA,hd];refine Rt ?_;rw[lA,hw];refine Rr ?_;refine aH.ph 169 7 ?_;refine aH.useN bE [(2,0),(3,1)] (hR none [] (λv e=>by cases e) (pS.nil A _)) rfl (.cons (.ptr 2 0 0 0 rfl) (.s (.cons (.same _ (j9 _)) (.cons (Cv.agg' (jB.cons (Cv.same _ nn) (jB.cons (Cv.same _ nn) (jB.cons (Cv.same _ nn) (jB.cons (Cv.nil 4) jB.nil))))) .nil)))) ⟨⟨2,_,rfl,rfl,.cons (.agg (.cons (.same _ (.il' nA)) (.cons (.same _ (j9 _)) (.cons (.nslk 3 1 _ rfl rfl) .nil)))) .nil⟩,⟨3,_,rfl,rfl,.nil⟩,trivial⟩ rfl ?_;rintro r m k ⟨F,h1,h2,rfl,rfl,rfl⟩;refine⟨[],.il 6 (bU (jR A (A.length-1,none))),[],4,.same _ (.il' (bY _)),trivial,rfl, ?_⟩;refine Rt ?_;exact aA (.il' (bY _)) ⟨rfl,rfl,rfl⟩
theorem Rm:aT prog [] 48 [.agg [.il 12 (bJ [])],.bool false,.bool true,.agg [.int .i64 0,.int .i64 0,.str [],.nsl]] (.il 6 (bU [])):=by
 refine aD bE func48 rfl ?_;refine Rt ?_;exact aW (n':=0) (m':=[]) [] rfl trivial (.nil 6) ⟨rfl,rfl,rfl⟩
theorem HA{R:List Cell}(hR:aT prog [] 48 [.agg [.il 12 (bJ A)],.bool false,.bool true,.agg [.int .i64 0,.int .i64 0,.str [],.nsl]] (.il 6 (bU R)))(hl:R.length<=257)(mx:Nat)(hm:mx<=256):
  aT prog [] 23 [.agg [.il 12 (bJ A)],.int .i64 mx] (.il 2 ((List.range (mx+1)).map λk=>eQ ((nR R k:Nat):Int))):=by
 have nA:=aR A;have nR':=bY R;have lR:=fS R;have hO:=Tz 0 oq;refine aD bE func23 rfl ?_;refine Rr ?_;refine hR.go ?_ (.cons (.agg' (.cons (.il' nA) .nil)) (.cons nn (.cons nn (.cons (.agg' (.cons nn (.cons nn (.cons nn (.cons .nsl .nil))))) .nil)))) (.il' nR');refine Rr ?_;obtain⟨X,hX⟩:∃X:Nat->List AV,∀k,X k=(List.range k).map λi=>eQ ((nR R i:Nat):Int):=⟨_,λ_=>rfl⟩
 have hX0:X 0=[]:=by rw[hX];rfl
 have hXs:∀k,X (k+1)=X k++[eQ ((nR R k:Nat):Int)]:=λk=>by rw[hX,hX,aCy,aBu];rfl
 have hXl:∀k,(X k).length=k:=λk=>by rw[hX];simp
 have nX:∀k,kZ (X k):=λk a ha=>by
  rw[hX] at ha;obtain⟨i,-,rfl⟩:=aAE.1 ha;obtain⟨u,v,e⟩:=f8 ((nR R i:Nat):Int);rw[e];exact gE _ _
 rw[<-hX (mx+1)];refine bA.ph 44 2 ?_;refine bA.at bE (λk:Nat=>k<=mx+1)
  (λk=>⟨[(1,.int .i64 mx),(5,.il 6 (bU R)),(6,.sl 0 0 k),(7,.int .i64 k)],[(0,.row 44 2 (X k))],1,33⟩)
  (λk=>mx+1-k) 0 [(1,0)] (aAN _)
  (aE _ rfl ⟨⟨1,_,rfl,rfl,.eq (nX 0) (by rw[hX0])⟩,trivial⟩
   ⟨aJ,aM (.il' nR'),⟨_,rfl,.nslk 1 0 _ rfl rfl⟩,aJ,trivial⟩) ?_
 intro k hk;have dk:decide (((k:Nat):Int)<=((mx:Nat):Int))=decide (k<mx+1):=aA2.2 om;have hs:=hXs k;have lX:=hXl k;have nX1:=nX (k+1);by_cases hlt:k<mx+1
 .by_cases hr:k<R.length
  .have e1:(bU R)[((k:Nat):Int).toNat]? = some (mG R[k]):=by rw[aAc,oP,aAa hr];rfl
   have en:nR R k=R[k].n:=by unfold nR;rw[aAb,aAa hr];rfl
   have d2:decide (((k:Nat):Int)<((R.length:Nat):Int))=true:=aAn om;rw[en] at hs;obtain⟨z,f0,z1,f1,z2,f2,ex1,ex2⟩:=uJ R[k];rw[ex1] at hs;rw[ex2] at e1;generalize X k=Y at *;refine Rr ?_;rw[dk,aAn hlt];refine Rr ?_;rw[lR,d2];refine Rr ?_;refine aB e1 ?_;refine Rt ?_;refine aN (cD rfl rfl lX.symm (by simp;omega)) ?_;refine Rt ?_;exact .mk (k+1) [(2,0)] om (aE _ rfl ⟨⟨2,_,rfl,rfl,.eq nX1 (by rw[hs];rfl)⟩,trivial⟩
    ⟨aJ,aM (.il' nR'),⟨_,rfl,.slE rfl rfl⟩,⟨_,rfl,.int (by rw[aV oq];simp)⟩,trivial⟩) om
  .have en:nR R k=0:=sU om;have d2:decide (((k:Nat):Int)<((R.length:Nat):Int))=false:=aAw om;rw[en] at hs;obtain⟨u,v,eo⟩:=f8 0;have eo':eQ ((0:Nat):Int)=_:=eo;rw[eo'] at hs;rw[eo] at hO;generalize X k=Y at *;refine Rr ?_;rw[dk,aAn hlt];refine Rr ?_;rw[lR,d2];refine Rr ?_;refine hO.go ?_ (.cons nn .nil) (gE _ _);refine Rt ?_;refine aN (cD rfl rfl lX.symm (by simp;omega)) ?_;refine Rt ?_;exact .mk (k+1) [(2,0)] om (aE _ rfl ⟨⟨2,_,rfl,rfl,.eq nX1 (by rw[hs];rfl)⟩,trivial⟩
    ⟨aJ,aM (.il' nR'),⟨_,rfl,.slE rfl rfl⟩,⟨_,rfl,.int (by rw[aV oq];simp)⟩,trivial⟩) om
 .have hke:k=mx+1:=om;subst hke;have lX:=hXl (mx+1);refine Rr ?_;rw[dk,aAw hlt];refine Rr ?_;exact aW (n':=0) (m':=[]) [] rfl trivial (Cv.fzR (id:=0) rfl rfl (.same (nX _)) lX) ⟨rfl,rfl,rfl⟩
def Ps(R:List Cell):Nat->Int
 | 0=>-1
 | k+1=>if 0<nR R k/\Ps R k<0 then(k:Int) else Ps R k
def Vh(R:List Cell):Nat->Nat
 | 0=>0
 | k+1=>if 0<nR R k then k else Vh R k
theorem Mn{R:List Cell}{a:Nat}(hb:∀j,0<nR R j->a<=j):∀k,k<=a->Ps R k = -1
 | 0,_=>rfl
 | k+1,h=>by
  unfold Ps;rw[aAe (λhc=>by have:=hb k hc.1;omega)];exact Mn hb k om
theorem R6{R:List Cell}{a:Nat}(ha:0<nR R a)(hb:∀j,0<nR R j->a<=j):∀k,a<k->Ps R k=a
 | 0,h=>om
 | k+1,h=>by
  unfold Ps;by_cases e:k=a
  .subst e;rw[aAh ⟨ha,by rw[Mn hb k (aAp _)];omega⟩]
  .have:=R6 ha hb k om;rw[this,aAe (λhc=>om)]
theorem QU{R:List Cell}{a:Nat}(ha:0<nR R a)(hb:∀j,0<nR R j->j<=a):∀k,a<k->Vh R k=a
 | 0,h=>om
 | k+1,h=>by
  unfold Vh;by_cases e:k=a
  .subst e;rw[aAh ha]
  .rw[aAe (λhc=>by have:=hb k hc;omega)];exact QU ha hb k om
theorem To:0<(bO (dg 10000 n)).length↔0<n:=by
 have e:(bO (dg 10000 n)).length=(dg 10000 n).length:=by simp[bO]
 rw[e];constructor
 .intro h;rcases aAz n with h0|h0
  .subst h0;rw[fL] at h;exact h
  .exact h0
 .intro h;rw[dg];split
  .omega
  .simp
theorem Ky{R:List Cell}(hR:aT prog [] 48 [.agg [.il 12 (bJ A)],.bool false,.bool true,.agg [.int .i64 0,.int .i64 0,.str [],.nsl]] (.il 6 (bU R)))(hl:R.length<=257):
  aT prog [] 25 [.agg [.il 12 (bJ A)]] (.tup [.int .i64 (Ps R R.length),.int .i64 (Vh R R.length)]):=by
 have nA:=aR A;have nR':=bY R;have lR:=fS R;refine aD bE func25 rfl ?_;refine Rr ?_;refine hR.go ?_ (.cons (.agg' (.cons (.il' nA) .nil)) (.cons nn (.cons nn (.cons (.agg' (.cons nn (.cons nn (.cons nn (.cons .nsl .nil))))) .nil)))) (.il' nR');refine Rr ?_;refine bA.at bE (λk:Nat=>k<=R.length)
  (λk=>⟨[(4,.il 6 (bU R)),(5,.int .i64 (Ps R k)),(6,.int .i64 (Vh R k)),(7,.int .i64 k)],[],0,31⟩)
  (λk=>R.length-k) 0 [] (aAN _)
  (bX ⟨aM (.il' nR'),aJ,aJ,aJ,trivial⟩) ?_
 intro k hk;have dk:decide (((k:Nat):Int)<((R.length:Nat):Int))=decide (k<R.length):=aA2.2 om;by_cases hlt:k<R.length
 .have e1:(bU R)[((k:Nat):Int).toNat]? = some (mG R[k]):=by rw[aAc,oP,aAa hlt];rfl
  have en:nR R k=R[k].n:=by unfold nR;rw[aAb,aAa hlt];rfl
  have hle:Ps R (k+1)=if 0<nR R k/\Ps R k<0 then(k:Int) else Ps R k:=rfl
  have hmo:Vh R (k+1)=if 0<nR R k then k else Vh R k:=rfl
  rw[en] at hle hmo;obtain⟨z,f0,z1,f1,z2,f2,ex1,ex2,ef⟩:=KV R[k];have hd:=To (n:=R[k].n);rw[<-ef] at hd;rw[ex2] at e1;obtain⟨n0,hn0⟩:∃n0,n0=(bO f0).length:=⟨_,rfl⟩
  generalize Ps R k=a at *;generalize Vh R k=b at *;refine Rr ?_;rw[lR,dk,aAn hlt];refine Rr ?_;refine aB e1 ?_;refine Rr ?_;refine aI (λh1=>?_) (λh1=>?_)
  .have hp:0<R[k].n:=hd.1 (su h1);refine Rr ?_;refine aI (λh2=>?_) (λh2=>?_)
   .have ha:a<0:=su h2
    rw[aAh ⟨hp,ha⟩] at hle;rw[aAh hp] at hmo;refine Rr ?_;exact .mk (k+1) [] om (bX ⟨aM (.il' nR'),⟨_,rfl,.int (by rw[hle])⟩,⟨_,rfl,.int (by rw[hmo])⟩,⟨_,rfl,.w64 om oq⟩,trivial⟩) om
   .have ha:¬a<0:=su h2
    rw[aAe (λhc=>ha hc.2)] at hle;rw[aAh hp] at hmo;refine Rr ?_;exact .mk (k+1) [] om (bX ⟨aM (.il' nR'),⟨_,rfl,.int (by rw[hle])⟩,⟨_,rfl,.int (by rw[hmo])⟩,⟨_,rfl,.w64 om oq⟩,trivial⟩) om
  .have hp:¬0<R[k].n:=λhc=>(show ¬0<(bO f0).length by simpa using h1) (hd.2 hc)
   rw[aAe (λhc=>hp hc.1)] at hle;rw[aAe hp] at hmo;refine Rr ?_;exact .mk (k+1) [] om (bX ⟨aM (.il' nR'),⟨_,rfl,.int (by rw[hle])⟩,⟨_,rfl,.int (by rw[hmo])⟩,⟨_,rfl,.w64 om oq⟩,trivial⟩) om
 .have hke:k=R.length:=om;subst hke;refine Rr ?_;rw[lR,dk,aAw hlt];refine Rr ?_;exact aA (.tup' (.cons nn (.cons nn .nil))) ⟨rfl,rfl,rfl⟩
end Go.Proofs.YtidjhgajglebnaaGreatDoor
namespace Go.Ax
open Go
section
variable {T:Type} (g:Bd T)
theorem oM{a b:Option T}(ha:a.isSome=true)(hb:b.isSome=true):(c8 g a b).isSome=true:=by
 cases a with
 | none=>cases ha
 | some x=>cases b with
  | none=>cases hb
  | some y=>rfl
theorem vK{a b:Option T}(ha:a.isSome=true):(fX g a b).isSome=true:=by
 cases a with
 | none=>cases ha
 | some x=>cases b<;>rfl
theorem uI{a b:Option T}(hb:b.isSome=true):(fX g a b).isSome=true:=by
 cases b with
 | none=>cases hb
 | some x=>cases a<;>rfl
theorem zA{V:Type}{f:Option T->V->Option T}:∀(l:List V) (b:Option T),b.isSome=true->(∀a∈l,∀b,b.isSome=true->(f b a).isSome=true)->(l.foldl f b).isSome=true
 | [],b,hb,_=>hb
 | a::l,b,hb,h=>zA l _ (h a (aAv ..) b hb) λx hx=>h x (aAo _ hx)
theorem wY{V:Type}{f:Option T->V->Option T}(hk:∀a b,b.isSome=true->(f b a).isSome=true):∀(l:List V) (b:Option T),(∃a∈l,∀b,(f b a).isSome=true)->(l.foldl f b).isSome=true
 | [],b,h=>by obtain⟨a,ha,_⟩:=h;cases ha
 | a::l,b,h=>by
  obtain⟨x,hx,hf⟩:=h;rw[aAy];rcases aAj.1 hx with rfl|hx
  .exact zA l _ (hf b) λa _ b hb=>hk a b hb
  .exact wY hk l _ ⟨x,hx,hf⟩
theorem JJ{bs:List jM}:∀(ks:List Int) (rows out:List (List aQ)),gH bs ks rows=some out->∀r∈out,∃r0∈rows,∃vs,r=r0++vs/\vs.length=ks.length/\∀p∈ks.zip vs,p.2∈(d8 bs p.1).vals
 | [],rows,out,h,r,hr=>by
  simp only[gH] at h;cases h;exact⟨r,hr,[],sq,rfl,sq⟩
 | k::ks,rows,out,h,r,hr=>by
  simp only[gH] at h;split at h
  .cases h
  .obtain⟨r1,h1,vs,e1,e2,e3⟩:=JJ ks _ out h r hr;obtain⟨r0,h0,v,hv,rfl⟩:=qV h1;refine⟨r0,h0,v::vs,by rw[e1,List.append_assoc];rfl,by rw[aAH,aAH,e2],λp hp=>?_⟩;rw[aA4] at hp;rcases aAj.1 hp with rfl|hp
   .exact hv
   .exact e3 p hp
theorem Md{bs:List jM}{ks:List Int}{v:aQ}(h:v∈(pO bs ks).vals):∃k∈ks,v∈(d8 bs k).vals:=by
 unfold pO at h;split at h
 .cases h
 .rcases IF ks _ v h with h|h
  .cases h
  .exact h
theorem UX{A:List Nd}(h:VT A):∀i,i<A.length->((aZ g).all A i).isSome=true/\∀v∈(d8 (aO A) i).vals,bG v=0->((aZ g).of A i v).isSome=true:=by
 intro i
 induction i using Nat.strongRecOn with
 | ind i ih=>
  intro hi;have hx:=b9 hi;have hk:=λ(k:Int) (hk:k∈(aG A i).kids)=>eH h hx hk
  have ia:=λ(k:Int) (hm:k∈(aG A i).kids)=>(ih k.toNat (hk k hm).2 (by have:=hk k hm;omega)).1
  have io:∀k∈(aG A i).kids,∀v∈(d8 (aO A) k).vals,bG v=0->((aZ g).of A k.toNat v).isSome=true:=λk hm v hv=>(ih k.toNat (hk k hm).2 (by have:=hk k hm;omega)).2 v (by rw[aCY (hk k hm).1];exact hv)
  have hvv:=λ(u:aQ) (hu:u∈(aG A i).values)=>h.vals_valid hx hu
  have hw:=h.wlen hx;have hb:=h.bind hx;have hl:=h.lst hx;have hkind:=(h.node hx).node.kind;have hbk:(aG A i).kind=4->∀u∈(aG A i).values,((aZ g).of A (iN (aG A i)) u).isSome=true:=λh4 u hu=>by
   obtain⟨b1,b2,b3,b4⟩:=hb h4;have hm:(aG A i).kids.getD 0 0∈(aG A i).kids:=by
    rw[aAb,aAa (show 0<(aG A i).kids.length by omega)];exact aAq _
   refine io _ hm u ?_ (hvv u hu);have e:((yG (aG A i) 0:Nat):Int)=(aG A i).kids.getD 0 0:=by
    show (((aG A i).kids.getD (0:Int).toNat 0).toNat:Int)=_
    exact aCY (hk _ hm).1
   rw[e] at b4;rw[b4];exact hu
  rw[(aZ g).all_eq h hi];refine⟨?_,λv hv vv=>?_⟩
  .show (v8 _ _ _ _).isSome=true
   unfold v8;generalize aG A i=x at *;split
   .rfl
   split
   .exact zA _ _ rfl λk hm b hb=>oM g hb (ia k hm)
   split
   .rename_i h2;obtain⟨w1,w2⟩:=hw h2;refine wY (λa b hb=>vK g hb) _ _ ⟨(x.kids[0],0), ?_,λb=>uI g (oM g rfl (ia _ (aAq _)))⟩;refine List.mem_iff_getElem?.2 ⟨0, ?_⟩;rw[List.getElem?_zipIdx,aAa om];rfl
   split
   .rename_i h4;obtain⟨b1,b2,b3,b4⟩:=hb h4;have hlen:0<(x.values.zip (x.kids.drop 1)).length:=by simp;omega
    refine wY (λa b hb=>vK g hb) _ _ ⟨_,aAq hlen,λb=>?_⟩;have hm:=aAq hlen;obtain⟨m1,m2⟩:=cN hm;exact uI g (oM g (hbk h4 _ (aA0 hm).1) (ia _ m1))
   .rfl
  .rw[(aZ g).of_eq h hi]
   show (qE _ _ _ _).isSome=true
   unfold qE;rw[aAe (show ¬bG v≠0 by omega)];rw[hl] at hv;unfold dX at hv;generalize aG A i=x at *;split
   .rename_i h0;rw[aAh h0] at hv;rw[aBa.1 hv,aAh ((oU _).refl)];rfl
   rename_i h0;rw[aAe h0] at hv;split
   .rename_i h1;rw[aAh h1] at hv;split at hv
    .cases hv
    .obtain⟨j,hj,rfl⟩:=aAE.1 hv;have hj':=aCi.1 hj;have:yE x (.mk 0 (x.lo+(j:Int)) [] [])=true:=by
      show (decide ((0:Int)=0) && decide (x.lo<=x.lo+(j:Int)) && decide (x.lo+(j:Int)<=x.hi))=true
      rw[aAn rfl,aAn om,aAn om];rfl
     rw[aAh this];rfl
   rename_i h1;rw[aAe h1] at hv;split
   .rename_i h3;rw[aAh h3] at hv;unfold tF at hv;cases hr:gH (aO A) x.kids [[]] with
    | none=>rw[hr] at hv;cases hv
    | some rows=>
     rw[hr] at hv;obtain⟨r,hr1,rfl⟩:=aAE.1 (q6 hv);obtain⟨r0,q0,vs,e1,e2,e3⟩:=JJ _ _ _ hr r hr1;rw[aBa.1 q0,aAZ] at e1;subst e1;have hm:jA x (eB x.name r)=true:=by
      unfold eB;split
      .rename_i hn;exact l9.2 ⟨e2,by rw[aAh hn]⟩
      .rename_i hn;exact l9.2 ⟨e2,by rw[aAe hn];exact⟨rfl,rfl⟩⟩
     have hkv:jN (eB x.name r)=r:=by unfold eB;split<;>rfl
     rw[aAh hm,hkv];refine zA _ _ rfl λp hp b hb=>oM g hb ?_
     obtain⟨m1,m2⟩:=aA0 hp;exact io _ m1 _ (e3 p hp) (kA vv _ (by rw[hkv];exact m2))
   rename_i h3;rw[aAe h3] at hv;split
   .rename_i h2;rw[aAe om] at hv;obtain⟨k,hk1,hk2⟩:=Md hv;obtain⟨j,hj,rfl⟩:=List.mem_iff_getElem.1 hk1;refine wY (λa b hb=>vK g hb) _ _ ⟨(x.kids[j],j), ?_,λb=>uI g (oM g rfl (io _ hk1 v hk2 vv))⟩;refine List.mem_iff_getElem?.2 ⟨j, ?_⟩;rw[List.getElem?_zipIdx,aAa hj];simp
   rename_i h2;have h4:x.kind=4:=om;rw[aAh h4];rw[aAh h4] at hv;obtain⟨b1,b2,b3,b4⟩:=hb h4;obtain⟨k,hk1,hk2⟩:=Md hv;obtain⟨j,hj,rfl⟩:=List.mem_iff_getElem.1 hk1;have hj2:j<x.values.length:=by rw[aBw] at hj;omega
   have hlen:j<(x.values.zip (x.kids.drop 1)).length:=by rw[List.length_zip];omega
   have hz:(x.values.zip (x.kids.drop 1))[j]=(x.values[j],(x.kids.drop 1)[j]):=aCM;refine wY (λa b hb=>vK g hb) _ _ ⟨_,aAq hlen,λb=>?_⟩;rw[hz];exact uI g (oM g (hbk h4 _ (aAq hj2)) (io _ (aAX hk1) v hk2 vv))
end
end Go.Ax
