/- A part of the proof. -/
import Derived.Test.YtidjhgajglebnaaGreatDoorAx20
set_option linter.unusedVariables false
set_option linter.unusedSimpArgs false
namespace Go.Proofs.YtidjhgajglebnaaGreatDoor
open Go Go.Ax Go.Proofs Tryz
set_option maxRecDepth 100000
set_option maxHeartbeats 16000000
theorem YP:aT prog [] 41 [.str [48],.int .i64 0] (.str (List.replicate 0 48)):=pJ bD [] 20 rfl (by kernel_rfl)
theorem Xv:aT prog [] 41 [.str [48],.int .i64 1] (.str (List.replicate 1 48)):=pJ bD [] 20 rfl (by kernel_rfl)
theorem YC:aT prog [] 41 [.str [48],.int .i64 2] (.str (List.replicate 2 48)):=pJ bD [] 20 rfl (by kernel_rfl)
theorem YK:aT prog [] 41 [.str [48],.int .i64 3] (.str (List.replicate 3 48)):=pJ bD [] 20 rfl (by kernel_rfl)
theorem Xq:aT prog [] 41 [.str [48],.int .i64 4] (.str (List.replicate 4 48)):=pJ bD [] 20 rfl (by kernel_rfl)
theorem X0:aT prog [] 41 [.str [48],.int .i64 5] (.str (List.replicate 5 48)):=pJ bD [] 20 rfl (by kernel_rfl)
theorem X1:aT prog [] 41 [.str [48],.int .i64 6] (.str (List.replicate 6 48)):=pJ bD [] 20 rfl (by kernel_rfl)
theorem X8:aT prog [] 41 [.str [48],.int .i64 7] (.str (List.replicate 7 48)):=pJ bD [] 20 rfl (by kernel_rfl)
theorem X5:aT prog [] 41 [.str [48],.int .i64 8] (.str (List.replicate 8 48)):=pJ bD [] 20 rfl (by kernel_rfl)
theorem Rj(k:Nat)(hk:k<=8):aT prog [] 41 [.str [48],.int .i64 k] (.str (List.replicate k 48)):=by
 rcases(show k=0∨k=1∨k=2∨k=3∨k=4∨k=5∨k=6∨k=7∨k=8 by omega) with rfl|rfl|rfl|rfl|rfl|rfl|rfl|rfl|rfl
 ·exact YP
 ·exact Xv
 ·exact YC
 ·exact YK
 ·exact Xq
 ·exact X0
 ·exact X1
 ·exact X8
 ·exact X5
theorem HA(n:Nat):Lib.decDigits n≠[]:=fun e=>by
 by_cases h:n<10
 ·rw[Lib.decDigits_one h] at e;cases e
 ·rw[xC (by omega)] at e;simp at e
theorem Pl(n:Nat):Lib.itoa (n:Int)=Lib.decDigits n:=Lib.itoa_nonneg n
theorem Gf(l:List (List UInt8))(x:List UInt8):rO (l++[x])=rO l++[.str x]:=by simp[rO]
theorem Gd{P:List (List UInt8)}{i:Nat}{x:List UInt8}(h:P[i]? = some x):(P.drop i).reverse.flatten=(P.drop (i+1)).reverse.flatten++x:=by
 obtain⟨h1,h2⟩:=Yn.1 h;rw[List.drop_eq_getElem_cons h1,h2,aAA,aBv];simp
theorem EF:∀{P:List (List UInt8)},(∀t∈P,t.length<=9)->P.reverse.flatten.length<=9*P.length
 | [],_=>by simp
 | a::r,h=>by
  have h1:=EF (P:=r) fun t ht=>h t (by simp[ht])
  have h2:=h a (by simp);rw[aAA,aBv,Y1,ZH];simp at h1 ⊢;omega
def Vd:Bool->AV
 | true=>.ptr 1 0 0
 | false=>.nptr
theorem Mh{mem:aQ}{σ:List (Nat × Nat)}{a:Bool}{n:Nat}(h0:lk σ 1=some 0)(h1:lk σ 2=some 1):tL mem σ [.agg [Vd a,.sl 2 0 n]] [.agg [XU a,.sl 1 0 n]]:=
 .cons (.agg (.cons (by cases a;exact .same _ nn;exact .ptr 1 0 0 0 h0) (.cons (.sl 2 1 0 n h1) .nil))) .nil
theorem TV(z:Int)(hz:(dg 4294967296 z.natAbs).length<=100000):aT prog gz 11 [kC z] (.str (KN z)):=by
 have hB:(2:Nat)<=4294967296:=by decide
 have hdz:=S9 z;have hbz:(if z<0 then 45::Lib.decDigits z.natAbs else Lib.decDigits z.natAbs)=(if decide (z<0)=true then 45::Lib.decDigits z.natAbs else Lib.decDigits z.natAbs):=by simp
 rw[hbz] at hdz;rw[hdz,lD z];have hz0:z=0∨0<z.natAbs:=by omega
 have hpt:=fun h:0<z.natAbs=>CK (z.natAbs+1) z.natAbs (Zo _) h
 have hpl:=DG (z.natAbs+1) z.natAbs (Zo _);have hpc:=HU (z.natAbs+1) z.natAbs (2*(dg 4294967296 z.natAbs).length) (Zo _) (by
  have h1:=kG (n:=z.natAbs) hB;refine aAI h1 ?_;rw[Nat.pow_mul];exact Nat.pow_le_pow_left (by decide) _)
 have hbf:z=0->decide (z<0)=false:=fun h=>by rw[h];rfl
 generalize hbz':decide (z<0)=bz at *;generalize hN:z.natAbs=N at *;have hlz:=gZ (B:=4294967296) (n:=N) hB;refine aD dQ func11 rfl ?_;by_cases h0:N=0
 ·have hb:=hbf (by omega);rw[hb,h0,fV];refine Rt ?_;exact aA nn ⟨by rw[Yo (by simp),Lib.decDigits_one (by omega)];rfl,rfl,rfl⟩
 ·have hN0:0<N:=by omega
  have hpt:=hpt hN0;have hla0:0<(dg 4294967296 N).length:=(Ze.1 hlz).2 hN0;have e1:(((dg 4294967296 N).length:Int) == 0)=false:=by simp;intro h;rw[h] at hla0;simp at hla0
  refine Rr ?_;rw[aX,e1];refine Rr ?_;rw[aX];refine aM (CA rfl rfl rfl (by omega) rfl) ?_;refine Rr ?_;refine aM (UE rfl rfl (by rw[aX,Yl];omega) (by rw[Z5];omega)) ?_;refine Rr ?_;refine aZ.ph 9 1 ?_;refine aZ.at dQ (fun p:Nat × List (List UInt8)=>p.1<=N/\p.2++dB p.1=dB N)
   (fun p=>⟨[(1,.ptr 0 0 0),(3,.il 1 (bX (dg 4294967296 p.1))),(4,.sl 1 0 p.2.length)],[(0,.row 33 2 [.agg [.bool bz,.il 1 (bX (dg 4294967296 N))]]),(1,.row 9 1 (rO p.2))],2,63⟩)
   (fun p=>p.1) (N,[]) [(0,0),(2,1)] ⟨Yy _,rfl⟩
   (aE _ rfl ⟨aL 0 (.cons (FE _ _) .nil),⟨2,_,rfl,rfl,.nil⟩,trivial⟩
    ⟨aG,⟨_,rfl,.fz' (id:=1) (off:=0) (ys:=bX (dg 4294967296 N)) rfl rfl (by simp[aX]) (by
     rw[ZI,Yu (by simp[aX])];simp[aX]) (a8 _)⟩,⟨_,rfl,.nslk 2 1 _ rfl rfl⟩,trivial⟩) ?_
  rintro⟨n,P⟩ ⟨h1,h2⟩;simp only at h1 h2 ⊢;have hPl:P.length<=2*(dg 4294967296 N).length:=by
   have:=congrArg List.length h2;rw[Y1] at this;omega
  have hdl:=dX hB h1;have hln:=gZ (B:=4294967296) (n:=n) hB;have hlz:decide (((bX (dg 4294967296 n)).length:Int)>0)=decide (0<n):=by rw[aX,←hln,Ze];omega
  by_cases hn:0<n
  ·have hdw:=Pe n 1000000000 (by omega) (by decide) (by decide);have htr:=CC (gQ (dg 4294967296 (n/1000000000)) (dg 4294967296 n).length) (by rw[mD (Lk hB _ _)];omega);rw[Kv] at htr;have hmd:n%1000000000<1000000000:=Z1 _ (by decide);have hit:=WF ((n%1000000000:Nat):Int) ⟨by omega,by omega⟩;rw[Pl] at hit;have hdl9:=rS 9 (n%1000000000) (by omega) (by decide);have hdp:0<(Lib.decDigits (n%1000000000)).length:=by
    rcases Y2 (Lib.decDigits (n%1000000000)).length with h|h
    ·exact absurd (Y6 h) (HA _)
    ·exact h
   have hpad:=HQ 9 (n%1000000000) (by omega) (by decide);have hps:=n8 hn;have hq:=gZ (B:=4294967296) (n:=n/1000000000) hB;have hlq:decide (((bX (dg 4294967296 (n/1000000000))).length:Int)>0)=decide (0<n/1000000000):=by rw[aX,←hq,Ze];omega
   have hw:IntKind.i64.wrap ((n%1000000000:Nat):Int)=((n%1000000000:Nat):Int):=bA ⟨by omega,by omega⟩;generalize gQ (dg 4294967296 (n/1000000000)) (dg 4294967296 n).length=pq at *;refine Rr ?_;rw[hlz,Y0 hn];refine Rr ?_;refine hdw.goG ?_ (.cons (tU _) (.cons nn .nil)) (.tup' (.cons (tU _) (.cons nn .nil)));refine Rr ?_;refine htr.goG ?_ (.cons (tU _) .nil) (tU _);refine Rr ?_;rw[hw];refine aT.use hit dQ (.cons nn .nil) nn ?_;refine Rr ?_;rw[hlq];by_cases hq0:0<n/1000000000
   ·rw[Y0 hq0];rw[Yo (by omega)] at hps;have hrep:=Rj (9-(Lib.decDigits (n%1000000000)).length) (by omega);have hw9:IntKind.i64.wrap (9-((Lib.decDigits (n%1000000000)).length:Int))=((9-(Lib.decDigits (n%1000000000)).length:Nat):Int):=by rw[bA ⟨by omega,by omega⟩];omega
    refine Rr ?_;rw[hw9];refine hrep.goG ?_ (.cons nn (.cons nn .nil)) nn;refine Rr ?_;generalize Lib.decDigits (n%1000000000)=tx at *;refine aM (Yp (by simp;omega)) ?_;refine Rr ?_;refine aM (bT rfl rfl (by rw[bY]) (by simp;omega)) ?_;refine Rr ?_;exact .mk (n/1000000000,P++[yA 9 (n%1000000000)]) [(0,0),(3,1)] ⟨by simp only;omega,by simp only;rw[←h2,hps];simp⟩
     (aE _ rfl ⟨aL 0 (.cons (FE _ _) .nil),⟨3,_,rfl,rfl,.eq (oQ _) (by rw[Gf,hpad];rfl)⟩,trivial⟩
      ⟨aG,aN (tU _),⟨_,rfl,.slE rfl (by simp[bY])⟩,trivial⟩) (by simp only;omega)
   ·rw[ZC hq0];rw[Yt (by omega)] at hps;have hnm:n%1000000000=n:=by omega
    rw[hnm];rw[hnm] at hdl9;generalize Lib.decDigits n=tx at *;refine Rr ?_;refine aM (bT rfl rfl (by rw[bY]) (by simp;omega)) ?_;refine Rr ?_;exact .mk (n/1000000000,P++[tx]) [(0,0),(3,1)] ⟨by simp only;omega,by simp only;rw[←h2,hps];simp⟩
     (aE _ rfl ⟨aL 0 (.cons (FE _ _) .nil),⟨3,_,rfl,rfl,.eq (oQ _) (by rw[Gf];rfl)⟩,trivial⟩
      ⟨aG,aN (tU _),⟨_,rfl,.slE rfl (by simp[bY])⟩,trivial⟩) (by simp only;omega)
  ·have hn0:n=0:=by omega
   subst hn0;rw[o5,ZZ] at h2;subst h2;have hd0':decide (0<0)=false:=rfl;cases bz with
   | false=>
    refine Rr ?_;rw[hlz,ZC hn];refine Rr ?_;refine aZ.ph 5 1 ?_;refine aZ.at dQ (fun p:Nat × Bool=>p.1<=(dB N).length/\(p.2=true∨(p.1=(dB N).length/\True)))
     (fun p=>⟨[(4,.sl 0 0 (dB N).length),(7,.ptr 1 0 0),(8,.int .i64 ((p.1:Int)-1))],[(0,.row 9 1 (rO (dB N))),(1,.row 90 2 [.agg [Vd p.2,.sl 2 0 ([]++((dB N).drop p.1).reverse.flatten).length]]),(2,.row 5 1 (dY ([]++((dB N).drop p.1).reverse.flatten)))],3,63⟩)
     (fun p=>p.1) ((dB N).length,false) [(1,0),(2,1),(3,2)] ⟨Yy _,.inr ⟨rfl,trivial⟩⟩
     (aE _ rfl ⟨aL 1 (oQ _),⟨2,_,rfl,rfl,by rw[Z6];exact .cons (.agg (.s (.cons (.nslk 3 2 _ rfl rfl) .nil))) .nil⟩,⟨3,_,rfl,rfl,by rw[Z6];exact tL.nil⟩,trivial⟩
      ⟨⟨_,rfl,.slE rfl rfl⟩,aG,⟨_,rfl,.w64 (by simp only) ⟨by simp only;omega,by simp only;omega⟩⟩,trivial⟩) ?_
    rintro⟨k,a⟩ ⟨k1,k2⟩;simp only at k1 k2 ⊢;have hfl:=EF (P:=(dB N).drop k) fun t ht=>hpl t (ZV ht)
    rw[aAi] at hfl;refine Rr ?_;refine aH (fun hb=>?_) (fun hb=>?_)
    ·have hk0:0<k:=by simp at hb;omega
     obtain⟨i,rfl⟩:∃i,k=i+1:=⟨k-1,by omega⟩
     rw[show (((i+1:Nat):Int)-1)=(i:Int) by omega];obtain⟨x,hx⟩:∃x,(dB N)[i]? = some x:=⟨_,Yj (by omega)⟩
     have hx9:=hpl x (Yv hx);have gx:(rO (dB N))[0+((i:Nat):Int).toNat]? = some (.str x):=by rw[ZD,Yl,J1,hx];rfl
     have hfs:=Gd hx;have bi:=qF (i:=i) (n:=(dB N).length) (by omega);have hws:=fun s (h:s.length<=10000000)=>Ll a s x (by omega)
     have hws:=hws ([]++((dB N).drop (i+1)).reverse.flatten) (by rw[Y1];simp only[Zj,ZH];omega);rw[List.append_assoc,←hfs] at hws;refine Rt ?_;repeat((first|refine aM bi ?_|refine aB gx ?_);refine Rt ?_)
     refine aF.useN dQ [(1,0),(2,1)] hws.glob rfl (.cons (.ptr 1 0 0 0 rfl) (.same (.cons nn .nil))) ⟨⟨1,_,rfl,rfl,Mh rfl rfl⟩,aL 2 (cW _),trivial⟩ rfl ?_;rintro r m n ⟨rfl,rfl,rfl⟩;refine⟨[(0,1),(2,3)],_,[(1,.row 90 2 [.agg [.ptr 1 0 0,.sl 3 0 ([]++((dB N).drop i).reverse.flatten).length]]),(3,.row 5 1 (dY ([]++((dB N).drop i).reverse.flatten)))],4,.same _ (.tup' (.cons nn (.cons nn .nil))),⟨⟨0,_,rfl,rfl,.cons (.agg (.cons (.ptr 0 1 0 0 rfl) (.cons (.sl 2 3 0 _ rfl) .nil))) .nil⟩,aL 2 (cW _),trivial⟩,rfl, ?_⟩;refine Rr ?_;exact .mk (i,true) [(0,0),(1,1),(3,2)] ⟨by simp only;omega,.inl rfl⟩
      (aE _ rfl ⟨aL 0 (oQ _),⟨1,_,rfl,rfl,.cons (.agg (.cons (.ptr 1 1 0 0 rfl) (.cons (.sl 3 2 0 _ rfl) .nil))) .nil⟩,aL 3 (cW _),trivial⟩
       ⟨⟨_,rfl,.slE rfl rfl⟩,aG,⟨_,rfl,.w64 rfl ⟨by simp only;omega,by simp only;omega⟩⟩,trivial⟩) (by simp only;omega)
    ·have hk0:k=0:=by simp at hb;omega
     subst hk0;have hPpos:0<(dB N).length:=by rw[n8 hN0];simp
     have ha:a=true:=by rcases k2 with h|⟨h,-⟩;exact h;omega
     subst ha;have hd0:[]++((dB N).drop 0).reverse.flatten=[]++Lib.decDigits N:=by rw[ZI,hpt]
     have hbt:=T7 ([]++Lib.decDigits N) (by simp[HA]) (by rw[←hd0,Y1];simp only[Zj,ZH];omega);rw[hd0];refine Rr ?_;refine aF.useN dQ [(1,0),(2,1)] hbt.glob rfl (.cons (.ptr 1 0 0 0 rfl) .nil) ⟨⟨1,_,rfl,rfl,Mh (a:=true) rfl rfl⟩,aL 2 (cW _),trivial⟩ rfl ?_;rintro r m n ⟨rfl,rfl,rfl⟩;refine⟨[],_,[],3,.same _ nn,trivial,rfl, ?_⟩;refine Rr ?_;exact aA nn ⟨rfl,rfl,rfl⟩
   | true=>
    have hwb:=V1 false [] 45 (by simp);refine Rr ?_;rw[hlz,ZC hn];refine Rr ?_;refine aF.ph 5 1 ?_;refine aF.useN dQ [(2,0),(3,1)] hwb.glob rfl (.cons (.ptr 2 0 0 0 rfl) (.same (.cons nn .nil))) ⟨⟨2,_,rfl,rfl,.cons (.agg (.s (.cons (.nslk 3 1 _ rfl rfl) .nil))) .nil⟩,⟨3,_,rfl,rfl,.nil⟩,trivial⟩ rfl ?_;rintro r m n ⟨rfl,rfl,rfl⟩;refine⟨[(0,2),(2,4)],_,[(2,.row 90 2 [.agg [.ptr 2 0 0,.sl 4 0 1]]),(4,.row 5 1 (dY [45]))],5,.same _ nn,⟨⟨0,_,rfl,rfl,.cons (.agg (.cons (.ptr 0 2 0 0 rfl) (.cons (.sl 2 4 0 _ rfl) .nil))) .nil⟩,aL 2 (cW _),trivial⟩,rfl, ?_⟩;refine Rr ?_;refine aZ.at dQ (fun p:Nat × Bool=>p.1<=(dB N).length/\(p.2=true∨(p.1=(dB N).length/\False)))
     (fun p=>⟨[(4,.sl 0 0 (dB N).length),(7,.ptr 1 0 0),(8,.int .i64 ((p.1:Int)-1))],[(0,.row 9 1 (rO (dB N))),(1,.row 90 2 [.agg [Vd p.2,.sl 2 0 ([45]++((dB N).drop p.1).reverse.flatten).length]]),(2,.row 5 1 (dY ([45]++((dB N).drop p.1).reverse.flatten)))],3,63⟩)
     (fun p=>p.1) ((dB N).length,true) [(1,0),(2,1),(4,2)] ⟨Yy _,.inl rfl⟩
     (aE _ rfl ⟨aL 1 (oQ _),⟨2,_,rfl,rfl,by rw[Z6];exact .cons (.agg (.cons (.ptr 2 1 0 0 rfl) (.cons (.slE rfl (by simp)) .nil))) .nil⟩,⟨4,_,rfl,rfl,by rw[Z6];exact .same (cW _)⟩,trivial⟩
      ⟨⟨_,rfl,.slE rfl rfl⟩,aG,⟨_,rfl,.w64 (by simp only) ⟨by simp only;omega,by simp only;omega⟩⟩,trivial⟩) ?_
    rintro⟨k,a⟩ ⟨k1,k2⟩;simp only at k1 k2 ⊢;have hfl:=EF (P:=(dB N).drop k) fun t ht=>hpl t (ZV ht)
    rw[aAi] at hfl;refine Rr ?_;refine aH (fun hb=>?_) (fun hb=>?_)
    ·have hk0:0<k:=by simp at hb;omega
     obtain⟨i,rfl⟩:∃i,k=i+1:=⟨k-1,by omega⟩
     rw[show (((i+1:Nat):Int)-1)=(i:Int) by omega];obtain⟨x,hx⟩:∃x,(dB N)[i]? = some x:=⟨_,Yj (by omega)⟩
     have hx9:=hpl x (Yv hx);have gx:(rO (dB N))[0+((i:Nat):Int).toNat]? = some (.str x):=by rw[ZD,Yl,J1,hx];rfl
     have hfs:=Gd hx;have bi:=qF (i:=i) (n:=(dB N).length) (by omega);have hws:=fun s (h:s.length<=10000000)=>Ll a s x (by omega)
     have hws:=hws ([45]++((dB N).drop (i+1)).reverse.flatten) (by rw[Y1];simp only[Zj,ZH];omega);rw[List.append_assoc,←hfs] at hws;refine Rt ?_;repeat((first|refine aM bi ?_|refine aB gx ?_);refine Rt ?_)
     refine aF.useN dQ [(1,0),(2,1)] hws.glob rfl (.cons (.ptr 1 0 0 0 rfl) (.same (.cons nn .nil))) ⟨⟨1,_,rfl,rfl,Mh rfl rfl⟩,aL 2 (cW _),trivial⟩ rfl ?_;rintro r m n ⟨rfl,rfl,rfl⟩;refine⟨[(0,1),(2,3)],_,[(1,.row 90 2 [.agg [.ptr 1 0 0,.sl 3 0 ([45]++((dB N).drop i).reverse.flatten).length]]),(3,.row 5 1 (dY ([45]++((dB N).drop i).reverse.flatten)))],4,.same _ (.tup' (.cons nn (.cons nn .nil))),⟨⟨0,_,rfl,rfl,.cons (.agg (.cons (.ptr 0 1 0 0 rfl) (.cons (.sl 2 3 0 _ rfl) .nil))) .nil⟩,aL 2 (cW _),trivial⟩,rfl, ?_⟩;refine Rr ?_;exact .mk (i,true) [(0,0),(1,1),(3,2)] ⟨by simp only;omega,.inl rfl⟩
      (aE _ rfl ⟨aL 0 (oQ _),⟨1,_,rfl,rfl,.cons (.agg (.cons (.ptr 1 1 0 0 rfl) (.cons (.sl 3 2 0 _ rfl) .nil))) .nil⟩,aL 3 (cW _),trivial⟩
       ⟨⟨_,rfl,.slE rfl rfl⟩,aG,⟨_,rfl,.w64 rfl ⟨by simp only;omega,by simp only;omega⟩⟩,trivial⟩) (by simp only;omega)
    ·have hk0:k=0:=by simp at hb;omega
     subst hk0;have hPpos:0<(dB N).length:=by rw[n8 hN0];simp
     have ha:a=true:=by rcases k2 with h|⟨h,-⟩;exact h;omega
     subst ha;have hd0:[45]++((dB N).drop 0).reverse.flatten=[45]++Lib.decDigits N:=by rw[ZI,hpt]
     have hbt:=T7 ([45]++Lib.decDigits N) (by simp[HA]) (by rw[←hd0,Y1];simp only[Zj,ZH];omega);rw[hd0];refine Rr ?_;refine aF.useN dQ [(1,0),(2,1)] hbt.glob rfl (.cons (.ptr 1 0 0 0 rfl) .nil) ⟨⟨1,_,rfl,rfl,Mh (a:=true) rfl rfl⟩,aL 2 (cW _),trivial⟩ rfl ?_;rintro r m n ⟨rfl,rfl,rfl⟩;refine⟨[],_,[],3,.same _ nn,trivial,rfl, ?_⟩;refine Rr ?_;exact aA nn ⟨rfl,rfl,rfl⟩
end Go.Proofs.YtidjhgajglebnaaGreatDoor
namespace Go.Ax
open Go
theorem Oc(m:Bool)(i:Nat)(c:Cell)(b:List Cell):(uC m i c b).length<=i+b.length:=by
 unfold uC;rw[Y1,Z5];split<;>simp
theorem iK(m:Bool){a b:List Cell}{p q:Nat}(ha:a.length<=p+1)(hb:b.length<=q+1):(hZ m a b).length<=p+q+1:=by
 have key:∀(P:Nat) (a:List Cell) (n:Nat) (out:List Cell),out.length<=P->(∀j<a.length,n+j+b.length<=P)->((a.zipIdx n).foldl (fun out ci=>eF m out (uC m ci.2 ci.1 b)) out).length<=P:=by
  intro P a
  induction a with
  | nil=>intro n out h _;simpa using h
  | cons c a ih=>
   intro n out h hj;rw[aAo,Y9];refine ih _ _ ?_ fun j hl=>?_
   ·rw[qN];have h1:=Oc m n c b;have h2:=hj 0 (by simp);simp only;omega
   ·have:=hj (j+1) (by simp;omega);omega
 exact key _ a 0 [] (by simp) fun j hj=>by omega
theorem qS(m:Bool){α:Type}(f:α->List Cell){P:Nat}:∀(l:List α) (out:List Cell),out.length<=P->(∀x∈l,(f x).length<=P)->(l.foldl (fun o x=>eF m o (f x)) out).length<=P
 | [],out,h,_=>h
 | x::l,out,h,hf=>by
  rw[Y9];refine qS m f l _ ?_ fun y hy=>hf y (Yx _ hy)
  rw[qN];have:=hf x (Y7 ..);omega
theorem Tb(m:Bool){A:List Nd}(h:VT A):∀i,i<A.length->((g5 m).all A i).length<=mU A i+1/\∀v,((g5 m).of A i v).length<=mU A i+1:=by
 intro i
 induction i using Nat.strongRecOn with
 | ind i ih=>
  intro hi;have hx:=bS hi;have hk:=fun(k:Int) (hk:k∈(aJ A i).kids)=>fI h hx hk
  have ia:=fun(k:Int) (hm:k∈(aJ A i).kids)=>(ih k.toNat (hk k hm).2 (by have:=hk k hm;omega)).1
  have io:=fun(k:Int) (hm:k∈(aJ A i).kids)=>(ih k.toNat (hk k hm).2 (by have:=hk k hm;omega)).2
  obtain⟨l1,l2,l3,l4,l5⟩:=h.lenS hx;rw[(g5 m).all_eq h hi];refine⟨?_,fun v=>?_⟩
  ·show (kO _ _ _ _).length<=_
   unfold kO;generalize aJ A i=x at *;split
   ·rename_i h1;rw[l2 h1];simp[jI]
   split
   ·rename_i h3;rw[l3 h3];have key:∀(ks:List Int) (out:List Cell) (s:Nat),(∀k∈ks,k∈x.kids)->out.length<=s+1->(ks.foldl (fun f k=>hZ m f ((g5 m).all A k.toNat)) out).length<=s+lU A ks+1:=by
     intro ks
     induction ks with
     | nil=>intro out s _ ho;simpa[lU] using ho
     | cons k ks ihk=>
      intro out s hks ho;rw[Y9];have:=ihk (hZ m out ((g5 m).all A k.toNat)) (s+mU A k.toNat) (fun q hq=>hks q (Yx _ hq)) (iK m ho (ia k (hks k (Y7 ..))));simp only[lU,ZP,aAa] at this ⊢;omega
    have:=key x.kids fW 0 (fun _ h=>h) (by simp[fW]);omega
   split
   ·rename_i h2;refine qS m (fun kc:Int × Nat=>hZ m (jI 1 (x.weights.getD kc.2 0) (pO x.weights)) ((g5 m).all A kc.1.toNat)) _ _ (by simp) fun kc hm=>?_
    have e:=iK m (a:=jI 1 (x.weights.getD kc.2 0) (pO x.weights)) (p:=1) (by simp[jI]) (ia _ (d8 hm));have:=l4 h2 _ (d8 hm);omega
   split
   ·rename_i h4;refine qS m (fun vk:aR × Int=>hZ m ((g5 m).of A (gB x) vk.1) ((g5 m).all A vk.2.toNat)) _ _ (by simp) fun vk hm=>?_
    obtain⟨m1,m2⟩:=cU hm;have e:=iK m (io _ m2 vk.1) (ia _ m1);have:=l5 h4 _ (Zq hm).2;have e2:gB x=(x.kids.getD 0 0).toNat:=rfl;rw[e2] at this ⊢;omega
   ·simp[fW]
  ·rw[(g5 m).of_eq h hi]
   show (kM _ _ _ _).length<=_
   unfold kM;generalize aJ A i=x at *;split
   ·split<;>simp[fW]
   split
   ·rename_i h1;rw[l2 h1];split<;>simp[jI]
   split
   ·rename_i h3;split
    ·rw[l3 h3];have key:∀(ks:List Int) (vs:List aR) (out:List Cell) (s:Nat),(∀k∈ks,k∈x.kids)->out.length<=s+1->((ks.zip vs).foldl (fun f kv=>hZ m f ((g5 m).of A kv.1.toNat kv.2)) out).length<=s+lU A ks+1:=by
      intro ks
      induction ks with
      | nil=>intro vs out s _ ho;simpa[lU] using ho
      | cons k ks ihk=>
       intro vs out s hks ho;cases vs with
       | nil=>simp only[List.zip_nil_right,aBM];omega
       | cons v vs=>
        rw[Z2,Y9];have:=ihk vs (hZ m out ((g5 m).of A k.toNat v)) (s+mU A k.toNat) (fun q hq=>hks q (Yx _ hq)) (iK m ho (io k (hks k (Y7 ..)) v));simp only[lU,ZP,aAa] at this ⊢;omega
     have:=key x.kids (jZ v) fW 0 (fun _ h=>h) (by simp[fW]);omega
    ·simp
   split
   ·rename_i h2;refine qS m (fun kc:Int × Nat=>hZ m (jI 1 (x.weights.getD kc.2 0) (pO x.weights)) ((g5 m).of A kc.1.toNat v)) _ _ (by simp) fun kc hm=>?_
    have e:=iK m (a:=jI 1 (x.weights.getD kc.2 0) (pO x.weights)) (p:=1) (by simp[jI]) (io _ (d8 hm) v);have:=l4 h2 _ (d8 hm);omega
   split
   ·rename_i h4;refine qS m (fun vk:aR × Int=>hZ m ((g5 m).of A (gB x) vk.1) ((g5 m).of A vk.2.toNat v)) _ _ (by simp) fun vk hm=>?_
    obtain⟨m1,m2⟩:=cU hm;have e:=iK m (io _ m2 vk.1) (io _ m1 v);have:=l5 h4 _ (Zq hm).2;have e2:gB x=(x.kids.getD 0 0).toNat:=rfl;rw[e2] at this ⊢;omega
   ·simp
theorem G1:∀(l:List Int) (s:Int),(∀w∈l,1<=w/\w<=1000)->s+l.length<=l.foldl (· + ·) s/\l.foldl (· + ·) s<=s+1000*l.length
 | [],s,_=>by simp
 | a::l,s,h=>by
  obtain⟨h1,h2⟩:=G1 l (s+a) fun w hw=>h w (Yx _ hw)
  obtain⟨a1,a2⟩:=h a (Y7 ..);rw[Y9,ZH];constructor<;>push_cast<;>omega
theorem Qg{l:List Int}(h:∀w∈l,1<=w/\w<=1000)(hl:l.length<=1000000)(k:Nat):i64 (pO (l.take k)):=by
 obtain⟨h1,h2⟩:=G1 (l.take k) 0 fun w hw=>h w (ZG hw)
 have hk:(l.take k).length<=l.length:=by rw[ZT];omega
 unfold pO;exact⟨by omega,by omega⟩
theorem SM{l:List Int}(h:∀w∈l,1<=w/\w<=1000)(h0:0<l.length):pO l≠0:=by
 obtain⟨h1,h2⟩:=G1 l 0 h;unfold pO;omega
theorem Ki{x:Nd}(h:dT x=true):∀w∈x.weights,1<=w/\w<=1000:=by
 unfold dT at h;simp only[Yk,Z9,ZA] at h;exact h.2
end Go.Ax
