/- A part of the proof. -/
import Derived.Test.YtidjhgajglebnaaGreatDoorAx17
set_option linter.unusedVariables false
set_option linter.unusedSimpArgs false
namespace Go.Proofs.YtidjhgajglebnaaGreatDoor
open Go Go.Ax Go.Proofs Tryz
set_option maxRecDepth 100000
set_option maxHeartbeats 16000000
theorem VZ{A:List Nd}(h:tX A):L7 A:=⟨h.ok,h.val,h.vals,fun x hx=>Yw (h.vlen x hx) (by omega),fun x hx=>Yw (h.klen x hx) (by omega)⟩
theorem VD{A:List Nd}(h:VT A):aT prog [] 9 [.agg [.il 12 (bG A)]] (.tup [kC ((cZ.all A (A.length-1):Nat):Int),.int .i64 0]):=by
 have hV:=Gv A (VZ h.tin);rw[h.val] at hV;have hN:=J5 A;have hW:=Vi h;have nA:NN (.agg [.il 12 (bG A)]):=.agg' (.cons (.il' (aP A)) .nil);rw[dF] at hW ⊢;have nz:NN (.agg [.bool false,.il 1 (bX (dg 4294967296 (cZ.all A (A.length-1))))]):=.agg' (.cons (tB _) (.cons (tU _) .nil));generalize bX (dg 4294967296 (cZ.all A (A.length-1)))=z at *;refine aD bD func9 rfl ?_;refine Rr ?_;refine hV.go ?_ (.cons nA .nil) nn;refine Rt ?_;refine aF.useN bD [] hN rfl (.same (.cons nA .nil)) trivial rfl ?_;rintro r m k ⟨rfl,rfl,rfl⟩;refine⟨[(0,9),(1,10)],.ptr 9 0 0,[(9,.row 150 8 [KH A 10]),(10,.mapb (rP i7 aW A []))],11,.ptr 0 9 0 0 rfl,⟨⟨0,_,rfl,rfl,.cons (uF rfl) .nil⟩,⟨1,_,rfl,rfl,tZ dP []⟩,trivial⟩,rfl, ?_⟩;refine Rt ?_;refine aF.useN bD [(9,0),(10,1)] hW rfl (.cons (.same _ nA) (.cons (.ptr 9 0 0 0 rfl) (.cons (.same _ (.agg' (.cons (tB _) (.cons .nsl .nil)))) .nil))) (dD (i:=9) (j:=10) rfl rfl rfl rfl) rfl ?_;rintro r m k ⟨rfl,⟨L,rfl⟩,rfl⟩;refine⟨[(0,9),(1,10)],.agg [.bool false,.il 1 z],[(9,.row 150 8 [KH A 10]),(10,.mapb (rP i7 aW A L))],21,.same _ nz,⟨⟨0,_,rfl,rfl,.cons (uF rfl) .nil⟩,⟨1,_,rfl,rfl,tZ dP L⟩,trivial⟩,rfl, ?_⟩;refine Rt ?_;exact aA (.tup' (.cons nz (.cons nn .nil))) ⟨rfl,rfl,rfl⟩
theorem Sl{A:List Nd}(hi:L7 A)(e:dM A≠0):aT prog [] 9 [.agg [.il 12 (bG A)]] (.tup [.agg [.bool false,.nsl],.int .i64 (dM A)]):=by
 have hV:=Gv A hi;have nA:NN (.agg [.il 12 (bG A)]):=.agg' (.cons (.il' (aP A)) .nil);have hb:(dM A != 0)=true:=by simpa using e
 generalize dM A=v at *;refine aD bD func9 rfl ?_;refine Rr ?_;refine hV.go ?_ (.cons nA .nil) nn;refine Rt ?_;rw[hb];refine Rt ?_;exact aA (.tup' (.cons (.agg' (.cons (tB _) (.cons .nsl .nil))) (.cons nn .nil))) ⟨rfl,rfl,rfl⟩
theorem SC{A:List Nd}(hi:L7 A)(e:dM A≠0):aT prog [] 10 [.agg [.il 12 (bG A)]] (.tup [.nsl,.int .i64 (dM A)]):=by
 have hV:=Gv A hi;have nA:NN (.agg [.il 12 (bG A)]):=.agg' (.cons (.il' (aP A)) .nil);have hb:(dM A != 0)=true:=by simpa using e
 generalize dM A=v at *;refine aD bD func10 rfl ?_;refine Rr ?_;refine hV.go ?_ (.cons nA .nil) nn;refine Rt ?_;rw[hb];refine Rt ?_;exact aA (.tup' (.cons .nsl (.cons nn .nil))) ⟨rfl,rfl,rfl⟩
def uY(A:List Nd)(k:Nat):List AV:=(List.range A.length).map fun i=>if i<k then kC ((cZ.all A i:Nat):Int) else .agg [.bool false,.nsl]
theorem Ja(A:List Nd)(k:Nat):(uY A k).length=A.length:=by simp[uY]
theorem Co(A:List Nd)(k:Nat):kI (uY A k):=by
 intro c h;unfold uY at h;obtain⟨q,-,rfl⟩:=ZF.1 h;split
 ·rw[dF];exact .agg' (.cons (tB _) (.cons (tU _) .nil))
 ·exact .agg' (.cons (tB _) (.cons .nsl .nil))
theorem QZ(A:List Nd)(k:Nat)(h:k<A.length):(uY A k).set k (kC ((cZ.all A k:Nat):Int))=uY A (k+1):=by
 refine aBj fun j=>?_
 unfold uY;by_cases e:k=j
 ·subst e;rw[Zg (by simpa using h),ZO,aAF h];simp
 ·rw[aA4 e,ZO,ZO];cases hm:(List.range A.length)[j]? with
  | none=>rfl
  | some q=>
   have:q=j:=by
    obtain⟨h1,h2⟩:=Yn.1 hm;simpa using h2.symm
   subst this;simp only[aAl];have e2:(q<k)↔(q<k+1):=by omega
   simp only[e2]
theorem Mv(A:List Nd):uY A 0=List.replicate A.length (.agg [.bool false,.nsl]):=by
 unfold uY;refine aBj fun j=>?_
 rw[ZO,aAe];split
 ·rename_i h;rw[aAF h];rfl
 ·rename_i h;rw[Y3 (by simpa using h)];rfl
theorem Uy{A:List Nd}(h:VT A):aF prog [] 10 [.agg [.il 12 (bG A)]] [] 0 fun r m k=>r = .tup [.sl 0 0 A.length,.int .i64 0]/\m=[(0,.row 33 2 (uY A A.length))]/\k=1:=by
 have hV:=Gv A (VZ h.tin);rw[h.val] at hV;have hN:=J5 A;have nA:NN (.agg [.il 12 (bG A)]):=.agg' (.cons (.il' (aP A)) .nil);have hlen:(bG A).length=A.length:=cG A;have hl:=h.tin.len;have hz:=Mv A;refine aD bD func10 rfl ?_;refine Rr ?_;refine hV.go ?_ (.cons nA .nil) nn;refine Rt ?_;refine aF.useN bD [] hN rfl (.same (.cons nA .nil)) trivial rfl ?_;rintro r m k ⟨rfl,rfl,rfl⟩;refine⟨[(0,1),(1,2)],.ptr 1 0 0,[(1,.row 150 8 [KH A 2]),(2,.mapb (rP i7 aW A []))],3,.ptr 0 1 0 0 rfl,⟨⟨0,_,rfl,rfl,.cons (uF rfl) .nil⟩,⟨1,_,rfl,rfl,tZ dP []⟩,trivial⟩,rfl, ?_⟩;refine Rt ?_;rw[hlen];refine Rr ?_;refine aM (cL rfl (cL rfl (cL rfl (cL (Y0 (by omega)) (cL (Y0 (by omega)) (cL (wP rfl (by omega) (by omega)) (Y0 (by omega)))))))) ?_;refine Rt ?_;rw[show ((A.length:Nat):Int).toNat=A.length from Yl _];have hA:=fun(i:Nat) (hi:i<A.length)=>xN (A:=A) h hi
 have iA:=T0 h;refine aZ.at bD (fun p:Nat × List Key=>p.1<=A.length/\∀q∈p.2,iC q)
  (fun p=>⟨[(5,.ptr 0 0 0),(6,.sl 2 0 A.length),(20,.int .i64 A.length),(21,.int .i64 p.1)],[(0,.row 150 8 [KH A 1]),(1,.mapb (rP i7 aW A p.2)),(2,.row 33 2 (uY A p.1))],3,33⟩)
  (fun p=>A.length-p.1) (0,[]) [(1,0),(2,1),(3,2)] ⟨Zd _,by simp⟩
  (aE _ rfl ⟨⟨1,_,rfl,rfl,.cons (uF rfl) .nil⟩,⟨2,_,rfl,rfl,tZ dP []⟩,⟨3,_,rfl,rfl,.eq (Co A 0) hz.symm⟩,trivial⟩
   ⟨aG,⟨_,rfl,.sl 3 2 0 _ rfl⟩,aK,aK,trivial⟩) ?_
 rintro⟨k,L1⟩ ⟨hk,hL1⟩;simp only at hk hL1 ⊢;refine Rr ?_;refine aH (fun hb=>?_) (fun hb=>?_)
 ·have hlt:k<A.length:=by simpa using hb
  obtain⟨b,hF⟩:=Ln (cZ.all A k);rw[←hA k hlt] at hF;have hs:=QZ A k hlt;have hn:=Ja A k;have nS:=Co A (k+1);rw[dF] at hs;have bx:Nat.blt ((k:Nat):Int).toNat A.length=true:=Yp (by simp;omega);have bz:(uY A k)[0+((k:Nat):Int).toNat]? = some (.agg [.bool false,.nsl]):=by
   unfold uY;rw[show 0+((k:Nat):Int).toNat=k by simp,ZO,aAF hlt];simp
  generalize uY A k=C at *;refine Rr ?_;refine I8 (iA k hlt) hL1 rfl hF fun L2 hL2=>?_
  refine Rt ?_;repeat((first|refine aM bx ?_|refine aB bz ?_);refine Rt ?_)
  exact .mk (k+1,L2) [(0,0),(1,1),(2,2)] ⟨by simp only;omega,hL2⟩
   (aE _ rfl ⟨⟨0,_,rfl,rfl,.cons (uF rfl) .nil⟩,⟨1,_,rfl,rfl,tZ dP L2⟩,⟨2,_,rfl,rfl,.eq nS (by rw[←hs];simp)⟩,trivial⟩
    ⟨aG,⟨_,rfl,.sl 2 2 0 _ rfl⟩,aK,⟨_,rfl,.int (by rw[bA ⟨by omega,by omega⟩];simp)⟩,trivial⟩) (by simp only;omega)
 ·have hke:k=A.length:=by
   have:¬k<A.length:=by simpa using hb
   omega
  subst hke;have nS:=Co A A.length;refine Rt ?_;exact bF (r':=.tup [.sl 0 0 A.length,.int .i64 0]) (n':=1) (m':=[(0,.row 33 2 (uY A A.length))]) [(2,0)] rfl ⟨aL 2 nS,trivial⟩ (.tup' (.cons (.sl 2 0 0 _ rfl) (.s .nil))) ⟨rfl,rfl,rfl⟩
end Go.Proofs.YtidjhgajglebnaaGreatDoor
namespace Go.Ax
open Go
def dB(n:Nat):List (List UInt8):=
 if n=0 then [] else(if n/1000000000=0 then Lib.decDigits n else yA 9 (n%1000000000))::dB (n/1000000000)
termination_by n
decreasing_by omega
theorem o5:dB 0=[]:=by rw[dB];rfl
theorem n8{n:Nat}(h:0<n):dB n=(if n/1000000000=0 then Lib.decDigits n else yA 9 (n%1000000000))::dB (n/1000000000):=by
 rw[dB,Yo (by omega)]
theorem CK:∀(f n:Nat),n<f->0<n->(dB n).reverse.flatten=Lib.decDigits n
 | 0,n,h,_=>by omega
 | f+1,n,h,h0=>by
  rw[n8 h0];rcases Y2 (n/1000000000) with e|e
  ·rw[Yt e,e,o5];simp
  ·rw[Yo (by omega),aAA,aBv,CK f (n/1000000000) (by omega) e];have:=AC 9 (n/1000000000) (n%1000000000) e (Z1 _ (by decide));rw[show (10:Nat) ^ 9=1000000000 by decide,aBc] at this;rw[this];simp
theorem DG:∀(f n:Nat),n<f->∀t∈dB n,t.length<=9
 | 0,n,h=>by omega
 | f+1,n,h=>by
  intro t ht;rcases Y2 n with rfl|h0
  ·rw[o5] at ht;cases ht
  rw[n8 h0] at ht;rcases Yr.1 ht with rfl|ht
  ·split
   ·rename_i e;exact rS 9 n (by rw[show (10:Nat) ^ 9=1000000000 by decide];omega) (by decide)
   ·rw[vN];omega
  ·exact DG f (n/1000000000) (by omega) t ht
theorem HU(f n:Nat)(k:Nat):n<f->n<1000000000 ^ k->(dB n).length<=k:=by
 induction k generalizing n f with
 | zero=>intro _ h;simp at h;subst h;rw[o5];simp
 | succ k ih=>
  intro hf h;rcases Y2 n with rfl|h0
  ·rw[o5];simp
  rw[n8 h0];have:=ih f (n/1000000000) (by omega) (by
   rw[aAd] at h;exact Nat.div_lt_of_lt_mul (by rw[Zm];exact h))
  simp;omega
def AF(l:List Nat)(i:Int):Nat:=if i<0 then 0 else l.getD i.toNat 0
theorem Lx(l:List Nat)(i:Nat):AF l (i:Int)=l.getD i 0:=by unfold AF;rw[Yo (by omega)];simp
theorem QD{l:List Nat}{B:Nat}(hB:0<B)(h:∀d∈l,d<B)(i:Int):AF l i<B:=by
 unfold AF;split
 ·exact hB
 ·rw[Ym];cases hg:l[i.toNat]? with
  | none=>simpa using hB
  | some d=>exact h _ (Yv hg)
def ME(r b:List Nat):Nat:=10000*(10000*AF r b.length+AF r ((b.length:Int)-1))+AF r ((b.length:Int)-2)
def H1(b:List Nat):Nat:=10000*AF b ((b.length:Int)-1)+AF b ((b.length:Int)-2)
theorem sL{l:List Nat}{i:Nat}{j:Int}(hj:j=(i:Int)):AF l j=l.getD i 0:=by rw[hj,Lx]
theorem oR(B:Nat):∀(l:List Nat) (n:Nat),vl B (l.drop n)=l.getD n 0+B*vl B (l.drop (n+1))
 | [],n=>by simp[vl]
 | a::r,0=>by simp[vl]
 | a::r,n+1=>by simpa using oR B r n
theorem wD(B:Nat)(l:List Nat)(n:Nat):vl B l=vl B (l.take n)+B ^ n*vl B (l.drop n):=by
 rcases Y5 n l.length with h|h
 ·exact Lv B l n (aBI h)
 ·rw[Yu h,Zw h];simp[vl]
theorem zW{B:Nat}(hB:2<=B){l:List Nat}(h:∀d∈l,d<B)(n:Nat):vl B (l.take n)<B ^ n:=by
 have:=EB hB (l.take n) fun d hm=>h d (ZG hm)
 refine aAI this (Zl (by omega) ?_);rw[ZT];omega
theorem Rf{r b:List Nat}(hr:∀d∈r,d<10000)(hb:∀d∈b,d<10000)(hk:0<b.length)(htop:0<AF b ((b.length:Int)-1))(hrl:r.length<=b.length+1) :
  0<H1 b/\ME r b/(H1 b+1)<=vl 10000 r/vl 10000 b/\vl 10000 r/vl 10000 b<=ME r b/H1 b:=by
 have hB:(2:Nat)<=10000:=by decide
 have hL:0<H1 b:=by unfold H1;omega
 refine⟨hL, ?_⟩;obtain⟨k,hk1⟩:∃k,b.length=k+1:=⟨b.length-1,by omega⟩
 cases k with
 | zero=>
  have e1:ME r b=10000*vl 10000 r:=by
   have h0:=oR 10000 r 0;have h1:=oR 10000 r 1;have h2:r.drop (1+1)=[]:=Zw (by omega);rw[h2] at h1;simp only[ZI,ZD] at h0;unfold ME;rw[hk1,sL (i:=1) rfl,sL (i:=0) (by omega),show AF r (((0+1:Nat):Int)-2)=0 by unfold AF;rw[Yt (by omega)]];simp only[vl] at h1;omega
  have e2:H1 b=10000*vl 10000 b:=by
   have h0:=oR 10000 b 0;have h2:b.drop (0+1)=[]:=Zw (by omega);rw[h2] at h0;simp only[ZI,ZD,vl] at h0;unfold H1;rw[hk1,sL (i:=0) (by omega),show AF b (((0+1:Nat):Int)-2)=0 by unfold AF;rw[Yt (by omega)]];omega
  have hv:0<vl 10000 b:=by omega
  rw[e1,e2];refine⟨?_, ?_⟩
  ·rw[aAO hv];have h1:=aBt (10000*vl 10000 r) (10000*vl 10000 b+1);generalize 10000*vl 10000 r/(10000*vl 10000 b+1)=q at *;rw[Nat.mul_add,aBi] at h1;omega
  ·rw[Nat.mul_div_mul_left _ _ (by omega)];exact Yy _
 | succ k=>
  have sr:=wD 10000 r k;have sb:=wD 10000 b k;have lr:=zW hB hr k;have lb:=zW hB hb k;have er:vl 10000 (r.drop k)=ME r b:=by
   rw[oR,oR,oR,Zw (by omega)];unfold ME;rw[hk1,sL (i:=k+1+1) (by omega),sL (i:=k+1) (by omega),sL (i:=k) (by omega)];simp only[vl];omega
  have eb:vl 10000 (b.drop k)=H1 b:=by
   rw[oR,oR,Zw (by omega)];unfold H1;rw[hk1,sL (i:=k+1) (by omega),sL (i:=k) (by omega)];simp only[vl];omega
  rw[er,Zm] at sr;rw[eb,Zm] at sb;refine KQ (L:=10000 ^ k) (Nat.pow_pos (by omega)) (by omega) (by rw[Nat.add_mul,Zx];omega) (by omega) (by rw[Nat.add_mul,Zx];omega) hL
def Hy(r b:List Nat):Nat × Nat:=if r.length<b.length∨b.length=0 then(0,0) else(min 9999 (ME r b/(H1 b+1)),min 9999 (ME r b/H1 b))
theorem Po{B n:Nat}(hB:2<=B)(hn:0<n):0<AF (dg B n) (((dg B n).length:Int)-1):=by
 have hl:0<(dg B n).length:=by rw[pE hB hn];simp
 obtain⟨k,hk⟩:∃k,(dg B n).length=k+1:=⟨(dg B n).length-1,by omega⟩
 rw[hk,sL (i:=k) (by omega)];have h1:=IB hB n hn;rw[hk] at h1;have h2:=wD B (dg B n) k;rw[gE hB,oR,Zw (by omega)] at h2;have h3:=zW hB (fP hB n) k;simp only[vl,aBH,aAr,Nat.add_sub_cancel] at h1 h2;rcases Y2 ((dg B n).getD k 0) with e|e
 ·rw[e,aBH] at h2;omega
 ·exact e
theorem TJ{x y:Nat}(hy:0<y)(hx:x<y*10000):(Hy (dg 10000 x) (dg 10000 y)).1<=x/y/\x/y<=(Hy (dg 10000 x) (dg 10000 y)).2/\(Hy (dg 10000 x) (dg 10000 y)).2<=9999:=by
 have hB:(2:Nat)<=10000:=by decide
 have hl:0<(dg 10000 y).length:=by rw[pE hB hy];simp
 have hq:x/y<10000:=by rw[aAv hy,Zm];exact hx
 unfold Hy;by_cases h:(dg 10000 x).length<(dg 10000 y).length∨(dg 10000 y).length=0
 ·rw[Yt h];have hlt:x<y:=pX hB (by omega);rw[aAV hlt];simp
 ·rw[Yo h];have hrl:(dg 10000 x).length<=(dg 10000 y).length+1:=by
   refine iI hB ?_;have:=kG (n:=y) hB;rw[aAd];exact aAI hx (ZE _ (aBI this))
  obtain⟨h1,h2,h3⟩:=Rf (fP hB x) (fP hB y) hl (Po hB hy) hrl;rw[gE hB,gE hB] at h2 h3;simp only;omega
end Go.Ax
