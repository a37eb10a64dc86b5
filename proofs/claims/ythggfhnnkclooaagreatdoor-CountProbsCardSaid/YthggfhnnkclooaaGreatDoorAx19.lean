/- A part of the proof. -/
import Derived.Test.YthggfhnnkclooaaGreatDoorAx18
set_option linter.unusedSectionVars false
set_option linter.unusedVariables false
set_option linter.unusedSimpArgs false
set_option maxRecDepth 1000000
set_option maxHeartbeats 16000000
namespace Go.Proofs.YthggfhnnkclooaaGreatDoor
open Go Go.Ax Go.Proofs Tryz
theorem YJ:aU prog [] 88 [.str [48],.int .i64 0] (.str (List.replicate 0 48)):=cO bI Go.Ax.f6.nil [] [] 20 rfl (by kernel_rfl)
theorem Xv:aU prog [] 88 [.str [48],.int .i64 1] (.str (List.replicate 1 48)):=cO bI Go.Ax.f6.nil [] [] 20 rfl (by kernel_rfl)
theorem Xj:aU prog [] 88 [.str [48],.int .i64 2] (.str (List.replicate 2 48)):=cO bI Go.Ax.f6.nil [] [] 20 rfl (by kernel_rfl)
theorem Xz:aU prog [] 88 [.str [48],.int .i64 3] (.str (List.replicate 3 48)):=cO bI Go.Ax.f6.nil [] [] 20 rfl (by kernel_rfl)
theorem YO:aU prog [] 88 [.str [48],.int .i64 4] (.str (List.replicate 4 48)):=cO bI Go.Ax.f6.nil [] [] 20 rfl (by kernel_rfl)
theorem YH:aU prog [] 88 [.str [48],.int .i64 5] (.str (List.replicate 5 48)):=cO bI Go.Ax.f6.nil [] [] 20 rfl (by kernel_rfl)
theorem YP:aU prog [] 88 [.str [48],.int .i64 6] (.str (List.replicate 6 48)):=cO bI Go.Ax.f6.nil [] [] 20 rfl (by kernel_rfl)
theorem Xp:aU prog [] 88 [.str [48],.int .i64 7] (.str (List.replicate 7 48)):=cO bI Go.Ax.f6.nil [] [] 20 rfl (by kernel_rfl)
theorem X0:aU prog [] 88 [.str [48],.int .i64 8] (.str (List.replicate 8 48)):=cO bI Go.Ax.f6.nil [] [] 20 rfl (by kernel_rfl)
theorem Qe(k:Nat)(hk:k<=8):aU prog [] 88 [.str [48],.int .i64 k] (.str (List.replicate k 48)):=by
 rcases(show k=0\/k=1\/k=2\/k=3\/k=4\/k=5\/k=6\/k=7\/k=8 by omega) with rfl|rfl|rfl|rfl|rfl|rfl|rfl|rfl|rfl
 .exact YJ
 .exact Xv
 .exact Xj
 .exact Xz
 .exact YO
 .exact YH
 .exact YP
 .exact Xp
 .exact X0
theorem F9(n:Nat):Lib.decDigits n≠[]:=λe=>by
 by_cases h:n<10
 .rw[Lib.decDigits_one h] at e;cases e
 .rw[rQ om] at e;simp at e
theorem Pj(n:Nat):Lib.itoa (n:Int)=Lib.decDigits n:=Lib.itoa_nonneg n
theorem Fz(l:List (List UInt8))(x:List UInt8):tL (l++[x])=tL l++[.str x]:=by simp[tL]
theorem F0{P:List (List UInt8)}{i:Nat}{x:List UInt8}(h:P[i]? = some x):(P.drop i).reverse.flatten=(P.drop (i+1)).reverse.flatten++x:=by
 obtain⟨h1,h2⟩:=Y4.1 h;rw[List.drop_eq_getElem_cons h1,h2,aAY,aBQ];simp
theorem Cm:∀{P:List (List UInt8)},(∀t∈P,t.length<=9)->P.reverse.flatten.length<=9*P.length
 | [],_=>sq
 | a::r,h=>by
  have h1:=Cm (P:=r) λt ht=>h t (by simp[ht])
  have h2:=h a sq;rw[aAY,aBQ,ZB,ZZ];simp at h1 |-;omega
def VH:Bool->AV
 | true=>.ptr 1 0 0
 | false=>.nptr
theorem LQ{mem:aR}{J:List (Nat × Nat)}{a:Bool}{n:Nat}(h0:lk J 1=some 0)(h1:lk J 2=some 1):rY mem J [.agg [VH a,.sl 2 0 n]] [.agg [Xb a,.sl 1 0 n]]:=
 .cons (.agg (.cons (by cases a;exact .same _ nn;exact .ptr 1 0 0 0 h0) (.cons (.sl 2 1 0 n h1) .nil))) .nil
theorem Ls(z:Int)(hz:(dg 4294967296 z.natAbs).length<=100000):aU prog gz 33 [gC z] (.str (tX z)):=by
 have hB:(2:Nat)<=4294967296:=by decide
 have hdz:=Qy z;have hbz:(if z<0 then 45::Lib.decDigits z.natAbs else Lib.decDigits z.natAbs)=(if decide (z<0)=true then 45::Lib.decDigits z.natAbs else Lib.decDigits z.natAbs):=sq
 rw[hbz] at hdz;rw[hdz,iD z];have hz0:z=0\/0<z.natAbs:=om;have hpt:=λh:0<z.natAbs=>B2 (z.natAbs+1) z.natAbs (aAv _) h
 have hpl:=Di (z.natAbs+1) z.natAbs (aAv _);have hpc:=HS (z.natAbs+1) z.natAbs (2*(dg 4294967296 z.natAbs).length) (aAv _) (by
  have h1:=fI (n:=z.natAbs) hB;refine Z3 h1 ?_;rw[Nat.pow_mul];exact Nat.pow_le_pow_left (by decide) _)
 have hbf:z=0->decide (z<0)=false:=λh=>by rw[h];rfl
 generalize hbz':decide (z<0)=bz at *;generalize hN:z.natAbs=N at *;have hlz:=fL (B:=4294967296) (n:=N) hB;refine aD d8 func33 rfl ?_;by_cases h0:N=0
 .have hb:=hbf om;rw[hb,h0,eA];refine Rt ?_;exact aA nn ⟨by rw[Y3 sq,Lib.decDigits_one om];rfl,rfl,rfl⟩
 .have hN0:0<N:=om;have hpt:=hpt hN0;have hla0:0<(dg 4294967296 N).length:=(Zg.1 hlz).2 hN0;have e1:(((dg 4294967296 N).length:Int) == 0)=false:=by simp;intro h;rw[h] at hla0;simp at hla0
  refine Z ?_;rw[aT,e1];refine Z ?_;rw[aT];refine aK (vF rfl rfl rfl om rfl) ?_;refine Z ?_;refine aK (Qa rfl rfl (by rw[aT,Y1];omega) (by rw[aAS];omega)) ?_;refine Z ?_;refine bJ.ph 9 1 ?_;refine bJ.at d8 (λp:Nat × List (List UInt8)=>p.1<=N/\p.2++dF p.1=dF N)
   (λp=>⟨[(1,.ptr 0 0 0),(3,.il 1 (bA (dg 4294967296 p.1))),(4,.sl 1 0 p.2.length)],[(0,.row 32 2 [.agg [.bool bz,.il 1 (bA (dg 4294967296 N))]]),(1,.row 9 1 (tL p.2))],2,63⟩)
   (λp=>p.1) (N,[]) [(0,0),(2,1)] ⟨ZA _,rfl⟩
   (aH _ rfl ⟨aF 0 (.cons (eD _ _) .nil),⟨2,_,rfl,rfl,.nil⟩,trivial⟩
    ⟨aM,⟨_,rfl,.fz' (id:=1) (off:=0) (ys:=bA (dg 4294967296 N)) rfl rfl (by simp[aT]) (by
     rw[ZT,ZD (by simp[aT])];simp[aT]) (aO _)⟩,⟨_,rfl,.nslk 2 1 _ rfl rfl⟩,trivial⟩) ?_
  rintro⟨n,P⟩ ⟨h1,h2⟩;simp only at h1 h2 |-;have hPl:P.length<=2*(dg 4294967296 N).length:=by
   have:=congrArg List.length h2;rw[ZB] at this;omega
  have hdl:=cU hB h1;have hln:=fL (B:=4294967296) (n:=n) hB;have hlz:decide (((bA (dg 4294967296 n)).length:Int)>0)=decide (0<n):=by rw[aT,<-hln,Zg];omega
  by_cases hn:0<n
  .have hdw:=IP n 1000000000 om (by decide) (by decide);have htr:=xL (dY (dg 4294967296 (n/1000000000)) (dg 4294967296 n).length) (by rw[iH (xC hB _ _)];omega);rw[zE] at htr;have hmd:n%1000000000<1000000000:=Zr _ (by decide);have hit:=WO ((n%1000000000:Nat):Int) oq;rw[Pj] at hit;have hdl9:=pM 9 (n%1000000000) om (by decide);have hdp:0<(Lib.decDigits (n%1000000000)).length:=by
    rcases ZF (Lib.decDigits (n%1000000000)).length with h|h
    .exact absurd (ZH h) (F9 _)
    .exact h
   have hpad:=Gu 9 (n%1000000000) om (by decide);have hps:=mZ hn;have hq:=fL (B:=4294967296) (n:=n/1000000000) hB;have hlq:decide (((bA (dg 4294967296 (n/1000000000))).length:Int)>0)=decide (0<n/1000000000):=by rw[aT,<-hq,Zg];omega
   have hw:IntKind.i64.wrap ((n%1000000000:Nat):Int)=((n%1000000000:Nat):Int):=bF oq;generalize dY (dg 4294967296 (n/1000000000)) (dg 4294967296 n).length=pq at *;refine Z ?_;rw[hlz,Y8 hn];refine Z ?_;refine hdw.goG ?_ (.cons (tU _) (.cons nn .nil)) (.tup' (.cons (tU _) (.cons nn .nil)));refine Z ?_;refine htr.goG ?_ (.cons (tU _) .nil) (tU _);refine Z ?_;rw[hw];refine aU.use hit d8 (.cons nn .nil) nn ?_;refine Z ?_;rw[hlq];by_cases hq0:0<n/1000000000
   .rw[Y8 hq0];rw[Y3 om] at hps;have hrep:=Qe (9-(Lib.decDigits (n%1000000000)).length) om;have hw9:IntKind.i64.wrap (9-((Lib.decDigits (n%1000000000)).length:Int))=((9-(Lib.decDigits (n%1000000000)).length:Nat):Int):=by rw[bF oq];omega
    refine Z ?_;rw[hw9];refine hrep.goG ?_ (.cons nn (.cons nn .nil)) nn;refine Z ?_;generalize Lib.decDigits (n%1000000000)=tx at *;refine aK (Y2 (by simp;omega)) ?_;refine Z ?_;refine aK (b8 rfl rfl (by rw[eC]) (by simp;omega)) ?_;refine Z ?_;exact .mk (n/1000000000,P++[xF 9 (n%1000000000)]) [(0,0),(3,1)] ⟨by simp only;omega,by simp only;rw[<-h2,hps];simp⟩
     (aH _ rfl ⟨aF 0 (.cons (eD _ _) .nil),⟨3,_,rfl,rfl,.eq (oS _) (by rw[Fz,hpad];rfl)⟩,trivial⟩
      ⟨aM,aP (tU _),⟨_,rfl,.slE rfl (by simp[eC])⟩,trivial⟩) (by simp only;omega)
   .rw[ZG hq0];rw[Y7 om] at hps;have hnm:n%1000000000=n:=om;rw[hnm];rw[hnm] at hdl9;generalize Lib.decDigits n=tx at *;refine Z ?_;refine aK (b8 rfl rfl (by rw[eC]) (by simp;omega)) ?_;refine Z ?_;exact .mk (n/1000000000,P++[tx]) [(0,0),(3,1)] ⟨by simp only;omega,by simp only;rw[<-h2,hps];simp⟩
     (aH _ rfl ⟨aF 0 (.cons (eD _ _) .nil),⟨3,_,rfl,rfl,.eq (oS _) (by rw[Fz];rfl)⟩,trivial⟩
      ⟨aM,aP (tU _),⟨_,rfl,.slE rfl (by simp[eC])⟩,trivial⟩) (by simp only;omega)
  .have hn0:n=0:=om;subst hn0;rw[nY,aAi] at h2;subst h2;have hd0':decide (0<0)=false:=rfl;cases bz with
   | false=>
    refine Z ?_;rw[hlz,ZG hn];refine Z ?_;refine bJ.ph 5 1 ?_;refine bJ.at d8 (λp:Nat × Bool=>p.1<=(dF N).length/\(p.2=true\/(p.1=(dF N).length/\True)))
     (λp=>⟨[(4,.sl 0 0 (dF N).length),(7,.ptr 1 0 0),(8,.int .i64 ((p.1:Int)-1))],[(0,.row 9 1 (tL (dF N))),(1,.row 166 2 [.agg [VH p.2,.sl 2 0 ([]++((dF N).drop p.1).reverse.flatten).length]]),(2,.row 5 1 (gY ([]++((dF N).drop p.1).reverse.flatten)))],3,63⟩)
     (λp=>p.1) ((dF N).length,false) [(1,0),(2,1),(3,2)] ⟨ZA _,.inr ⟨rfl,trivial⟩⟩
     (aH _ rfl ⟨aF 1 (oS _),⟨2,_,rfl,rfl,by rw[aAn];exact .cons (.agg (.s (.cons (.nslk 3 2 _ rfl rfl) .nil))) .nil⟩,⟨3,_,rfl,rfl,by rw[aAn];exact rY.nil⟩,trivial⟩
      ⟨⟨_,rfl,.slE rfl rfl⟩,aM,⟨_,rfl,.w64 (by simp only) ⟨by simp only;omega,by simp only;omega⟩⟩,trivial⟩) ?_
    rintro⟨k,a⟩ ⟨k1,k2⟩;simp only at k1 k2 |-;have hfl:=Cm (P:=(dF N).drop k) λt ht=>hpl t (Zn ht)
    rw[aAg] at hfl;refine Z ?_;refine aL (λhb=>?_) (λhb=>?_)
    .have hk0:0<k:=by simp at hb;omega
     obtain⟨i,rfl⟩:∃i,k=i+1:=⟨k-1,om⟩
     rw[show (((i+1:Nat):Int)-1)=(i:Int) by omega];obtain⟨x,hx⟩:∃x,(dF N)[i]? = some x:=⟨_,Yz om⟩
     have hx9:=hpl x (Y5 hx);have gx:(tL (dF N))[0+((i:Nat):Int).toNat]? = some (.str x):=by rw[ZP,Y1,Hn,hx];rfl
     have hfs:=F0 hx;have bi:=jE (i:=i) (n:=(dF N).length) om;have hws:=λs (h:s.length<=10000000)=>LX a s x om
     have hws:=hws ([]++((dF N).drop (i+1)).reverse.flatten) (by rw[ZB];simp only[aAm,ZZ];omega);rw[List.append_assoc,<-hfs] at hws;refine Rt ?_;repeat((first|refine aK bi ?_|refine aC gx ?_);refine Rt ?_)
     refine aJ.useN d8 [(1,0),(2,1)] hws.glob rfl (.cons (.ptr 1 0 0 0 rfl) (.same (.cons nn .nil))) ⟨⟨1,_,rfl,rfl,LQ rfl rfl⟩,aF 2 (fP _),trivial⟩ rfl ?_;rintro r m n ⟨rfl,rfl,rfl⟩;refine⟨[(0,1),(2,3)],_,[(1,.row 166 2 [.agg [.ptr 1 0 0,.sl 3 0 ([]++((dF N).drop i).reverse.flatten).length]]),(3,.row 5 1 (gY ([]++((dF N).drop i).reverse.flatten)))],4,.same _ (.tup' (.cons nn (.cons nn .nil))),⟨⟨0,_,rfl,rfl,.cons (.agg (.cons (.ptr 0 1 0 0 rfl) (.cons (.sl 2 3 0 _ rfl) .nil))) .nil⟩,aF 2 (fP _),trivial⟩,rfl, ?_⟩;refine Z ?_;exact .mk (i,true) [(0,0),(1,1),(3,2)] ⟨by simp only;omega,.inl rfl⟩
      (aH _ rfl ⟨aF 0 (oS _),⟨1,_,rfl,rfl,.cons (.agg (.cons (.ptr 1 1 0 0 rfl) (.cons (.sl 3 2 0 _ rfl) .nil))) .nil⟩,aF 3 (fP _),trivial⟩
       ⟨⟨_,rfl,.slE rfl rfl⟩,aM,⟨_,rfl,.w64 rfl ⟨by simp only;omega,by simp only;omega⟩⟩,trivial⟩) (by simp only;omega)
    .have hk0:k=0:=by simp at hb;omega
     subst hk0;have hPpos:0<(dF N).length:=by rw[mZ hN0];simp
     have ha:a=true:=by rcases k2 with h|⟨h,-⟩;exact h;omega
     subst ha;have hd0:[]++((dF N).drop 0).reverse.flatten=[]++Lib.decDigits N:=by rw[ZT,hpt]
     have hbt:=TC ([]++Lib.decDigits N) (by simp[F9]) (by rw[<-hd0,ZB];simp only[aAm,ZZ];omega);rw[hd0];refine Z ?_;refine aJ.useN d8 [(1,0),(2,1)] hbt.glob rfl (.cons (.ptr 1 0 0 0 rfl) .nil) ⟨⟨1,_,rfl,rfl,LQ (a:=true) rfl rfl⟩,aF 2 (fP _),trivial⟩ rfl ?_;rintro r m n ⟨rfl,rfl,rfl⟩;refine⟨[],_,[],3,.same _ nn,trivial,rfl, ?_⟩;refine Z ?_;exact aA nn ⟨rfl,rfl,rfl⟩
   | true=>
    have hwb:=XV false [] 45 sq;refine Z ?_;rw[hlz,ZG hn];refine Z ?_;refine aJ.ph 5 1 ?_;refine aJ.useN d8 [(2,0),(3,1)] hwb.glob rfl (.cons (.ptr 2 0 0 0 rfl) (.same (.cons nn .nil))) ⟨⟨2,_,rfl,rfl,.cons (.agg (.s (.cons (.nslk 3 1 _ rfl rfl) .nil))) .nil⟩,⟨3,_,rfl,rfl,.nil⟩,trivial⟩ rfl ?_;rintro r m n ⟨rfl,rfl,rfl⟩;refine⟨[(0,2),(2,4)],_,[(2,.row 166 2 [.agg [.ptr 2 0 0,.sl 4 0 1]]),(4,.row 5 1 (gY [45]))],5,.same _ nn,⟨⟨0,_,rfl,rfl,.cons (.agg (.cons (.ptr 0 2 0 0 rfl) (.cons (.sl 2 4 0 _ rfl) .nil))) .nil⟩,aF 2 (fP _),trivial⟩,rfl, ?_⟩;refine Z ?_;refine bJ.at d8 (λp:Nat × Bool=>p.1<=(dF N).length/\(p.2=true\/(p.1=(dF N).length/\False)))
     (λp=>⟨[(4,.sl 0 0 (dF N).length),(7,.ptr 1 0 0),(8,.int .i64 ((p.1:Int)-1))],[(0,.row 9 1 (tL (dF N))),(1,.row 166 2 [.agg [VH p.2,.sl 2 0 ([45]++((dF N).drop p.1).reverse.flatten).length]]),(2,.row 5 1 (gY ([45]++((dF N).drop p.1).reverse.flatten)))],3,63⟩)
     (λp=>p.1) ((dF N).length,true) [(1,0),(2,1),(4,2)] ⟨ZA _,.inl rfl⟩
     (aH _ rfl ⟨aF 1 (oS _),⟨2,_,rfl,rfl,by rw[aAn];exact .cons (.agg (.cons (.ptr 2 1 0 0 rfl) (.cons (.slE rfl sq) .nil))) .nil⟩,⟨4,_,rfl,rfl,by rw[aAn];exact .same (fP _)⟩,trivial⟩
      ⟨⟨_,rfl,.slE rfl rfl⟩,aM,⟨_,rfl,.w64 (by simp only) ⟨by simp only;omega,by simp only;omega⟩⟩,trivial⟩) ?_
    rintro⟨k,a⟩ ⟨k1,k2⟩;simp only at k1 k2 |-;have hfl:=Cm (P:=(dF N).drop k) λt ht=>hpl t (Zn ht)
    rw[aAg] at hfl;refine Z ?_;refine aL (λhb=>?_) (λhb=>?_)
    .have hk0:0<k:=by simp at hb;omega
     obtain⟨i,rfl⟩:∃i,k=i+1:=⟨k-1,om⟩
     rw[show (((i+1:Nat):Int)-1)=(i:Int) by omega];obtain⟨x,hx⟩:∃x,(dF N)[i]? = some x:=⟨_,Yz om⟩
     have hx9:=hpl x (Y5 hx);have gx:(tL (dF N))[0+((i:Nat):Int).toNat]? = some (.str x):=by rw[ZP,Y1,Hn,hx];rfl
     have hfs:=F0 hx;have bi:=jE (i:=i) (n:=(dF N).length) om;have hws:=λs (h:s.length<=10000000)=>LX a s x om
     have hws:=hws ([45]++((dF N).drop (i+1)).reverse.flatten) (by rw[ZB];simp only[aAm,ZZ];omega);rw[List.append_assoc,<-hfs] at hws;refine Rt ?_;repeat((first|refine aK bi ?_|refine aC gx ?_);refine Rt ?_)
     refine aJ.useN d8 [(1,0),(2,1)] hws.glob rfl (.cons (.ptr 1 0 0 0 rfl) (.same (.cons nn .nil))) ⟨⟨1,_,rfl,rfl,LQ rfl rfl⟩,aF 2 (fP _),trivial⟩ rfl ?_;rintro r m n ⟨rfl,rfl,rfl⟩;refine⟨[(0,1),(2,3)],_,[(1,.row 166 2 [.agg [.ptr 1 0 0,.sl 3 0 ([45]++((dF N).drop i).reverse.flatten).length]]),(3,.row 5 1 (gY ([45]++((dF N).drop i).reverse.flatten)))],4,.same _ (.tup' (.cons nn (.cons nn .nil))),⟨⟨0,_,rfl,rfl,.cons (.agg (.cons (.ptr 0 1 0 0 rfl) (.cons (.sl 2 3 0 _ rfl) .nil))) .nil⟩,aF 2 (fP _),trivial⟩,rfl, ?_⟩;refine Z ?_;exact .mk (i,true) [(0,0),(1,1),(3,2)] ⟨by simp only;omega,.inl rfl⟩
      (aH _ rfl ⟨aF 0 (oS _),⟨1,_,rfl,rfl,.cons (.agg (.cons (.ptr 1 1 0 0 rfl) (.cons (.sl 3 2 0 _ rfl) .nil))) .nil⟩,aF 3 (fP _),trivial⟩
       ⟨⟨_,rfl,.slE rfl rfl⟩,aM,⟨_,rfl,.w64 rfl ⟨by simp only;omega,by simp only;omega⟩⟩,trivial⟩) (by simp only;omega)
    .have hk0:k=0:=by simp at hb;omega
     subst hk0;have hPpos:0<(dF N).length:=by rw[mZ hN0];simp
     have ha:a=true:=by rcases k2 with h|⟨h,-⟩;exact h;omega
     subst ha;have hd0:[45]++((dF N).drop 0).reverse.flatten=[45]++Lib.decDigits N:=by rw[ZT,hpt]
     have hbt:=TC ([45]++Lib.decDigits N) (by simp[F9]) (by rw[<-hd0,ZB];simp only[aAm,ZZ];omega);rw[hd0];refine Z ?_;refine aJ.useN d8 [(1,0),(2,1)] hbt.glob rfl (.cons (.ptr 1 0 0 0 rfl) .nil) ⟨⟨1,_,rfl,rfl,LQ (a:=true) rfl rfl⟩,aF 2 (fP _),trivial⟩ rfl ?_;rintro r m n ⟨rfl,rfl,rfl⟩;refine⟨[],_,[],3,.same _ nn,trivial,rfl, ?_⟩;refine Z ?_;exact aA nn ⟨rfl,rfl,rfl⟩
end Go.Proofs.YthggfhnnkclooaaGreatDoor
namespace Go.Ax
open Go
structure YY(n:Nat)(claim low alpha beta A B ae D U L H M:Fr):Prop where
 a:Io Bb beta=(A,0)
 b:Io Bb alpha=(B,0)
 c:Io Bb claim=(ae,0)
 d:Io Bb low=(D,0)
 u:CB A alpha=(U,0)
 l:CB beta B=(L,0)
 h:CB claim low=(H,0)
 m:CB ae D=(M,0)
 ca:Can A/\Can B/\Can ae/\Can D/\Can U/\Can L/\Can H/\Can M
 sz:Sz (4*n+4) A/\Sz (4*n+4) B/\Sz (4*n+4) ae/\Sz (4*n+4) D/\Sz (4*n+4) U/\Sz (4*n+4) L/\Sz (4*n+4) H/\Sz (4*n+4) M
 is:Xw claim low alpha beta=(some ⟨H,M,U,L,Bb,0,0,0⟩,0)
end Go.Ax
