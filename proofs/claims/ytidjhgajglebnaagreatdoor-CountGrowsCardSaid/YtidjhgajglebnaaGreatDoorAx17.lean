/- A part of the proof. -/
import Derived.Test.YtidjhgajglebnaaGreatDoorAx16
set_option linter.unusedVariables false
set_option linter.unusedSimpArgs false
namespace Go.Proofs.YtidjhgajglebnaaGreatDoor
open Go Go.Ax Go.Proofs Tryz
set_option maxRecDepth 100000
set_option maxHeartbeats 16000000
theorem M7{A:List Nd}(h:sO A):MV A:=⟨h.ok,h.val,h.vals,fun x hx=>UQ (h.vlen x hx) (by omega),fun x hx=>UQ (h.klen x hx) (by omega)⟩
theorem RV{A:List Nd}(h:VT A):aZ prog [] 9 [.agg [.il 12 (bD A)]] (.tup [fW ((cV.all A (A.length-1):Nat):Int),.int .i64 0]):=by
 have hV:=Cr A (M7 h.tin);rw[h.val] at hV;have hN:=GJ A;have hW:=QL h;have nA:NN (.agg [.il 12 (bD A)]):=.agg' (.cons (.il' (aX A)) .nil);rw[cM] at hW ⊢;have nz:NN (.agg [.bool false,.il 1 (bM (dg 4294967296 (cV.all A (A.length-1))))]):=.agg' (.cons (tB _) (.cons (tU _) .nil));generalize bM (dg 4294967296 (cV.all A (A.length-1)))=z at *;refine aG bB func9 rfl ?_;refine Rr ?_;refine hV.go ?_ (.cons nA .nil) nn;refine Rt ?_;refine aE.useN bB [] hN rfl (.same (.cons nA .nil)) trivial rfl ?_;rintro r m k ⟨rfl,rfl,rfl⟩;refine⟨[(0,9),(1,10)],.ptr 9 0 0,[(9,.row 150 8 [IP A 10]),(10,.mapb (oY gY aR A []))],11,.ptr 0 9 0 0 rfl,⟨⟨0,_,rfl,rfl,.cons (qH rfl) .nil⟩,⟨1,_,rfl,rfl,qG c9 []⟩,trivial⟩,rfl, ?_⟩;refine Rt ?_;refine aE.useN bB [(9,0),(10,1)] hW rfl (.cons (.same _ nA) (.cons (.ptr 9 0 0 0 rfl) (.cons (.same _ (.agg' (.cons (tB _) (.cons .nsl .nil)))) .nil))) (cR (i:=9) (j:=10) rfl rfl rfl rfl) rfl ?_;rintro r m k ⟨rfl,⟨L,rfl⟩,rfl⟩;refine⟨[(0,9),(1,10)],.agg [.bool false,.il 1 z],[(9,.row 150 8 [IP A 10]),(10,.mapb (oY gY aR A L))],21,.same _ nz,⟨⟨0,_,rfl,rfl,.cons (qH rfl) .nil⟩,⟨1,_,rfl,rfl,qG c9 L⟩,trivial⟩,rfl, ?_⟩;refine Rt ?_;exact aA (.tup' (.cons nz (.cons nn .nil))) ⟨rfl,rfl,rfl⟩
theorem PH{A:List Nd}(hi:MV A)(e:dD A≠0):aZ prog [] 9 [.agg [.il 12 (bD A)]] (.tup [.agg [.bool false,.nsl],.int .i64 (dD A)]):=by
 have hV:=Cr A hi;have nA:NN (.agg [.il 12 (bD A)]):=.agg' (.cons (.il' (aX A)) .nil);have hb:(dD A != 0)=true:=by simpa using e
 generalize dD A=v at *;refine aG bB func9 rfl ?_;refine Rr ?_;refine hV.go ?_ (.cons nA .nil) nn;refine Rt ?_;rw[hb];refine Rt ?_;exact aA (.tup' (.cons (.agg' (.cons (tB _) (.cons .nsl .nil))) (.cons nn .nil))) ⟨rfl,rfl,rfl⟩
def rE(A:List Nd)(k:Nat):List AV:=(List.range A.length).map fun i=>if i<k then fW ((cV.all A i:Nat):Int) else .agg [.bool false,.nsl]
theorem Gm(A:List Nd)(k:Nat):(rE A k).length=A.length:=by simp[rE]
theorem A2(A:List Nd)(k:Nat):kH (rE A k):=by
 intro c h;unfold rE at h;obtain⟨q,-,rfl⟩:=US.1 h;split
 ·rw[cM];exact .agg' (.cons (tB _) (.cons (tU _) .nil))
 ·exact .agg' (.cons (tB _) (.cons .nsl .nil))
theorem NG(A:List Nd)(k:Nat)(h:k<A.length):(rE A k).set k (fW ((cV.all A k:Nat):Int))=rE A (k+1):=by
 refine Wg fun j=>?_
 unfold rE;by_cases e:k=j
 ·subst e;rw[Uu (by simpa using h),Uh,WB h];simp
 ·rw[WP e,Uh,Uh];cases hm:(List.range A.length)[j]? with
  | none=>rfl
  | some q=>
   have:q=j:=by
    obtain⟨h1,h2⟩:=T0.1 hm;simpa using h2.symm
   subst this;simp only[Vd];have e2:(q<k)↔(q<k+1):=by omega
   simp only[e2]
theorem KK(A:List Nd):rE A 0=List.replicate A.length (.agg [.bool false,.nsl]):=by
 unfold rE;refine Wg fun j=>?_
 rw[Uh,VN];split
 ·rename_i h;rw[WB h];rfl
 ·rename_i h;rw[UE (by simpa using h)];rfl
theorem QS{A:List Nd}(h:VT A):aE prog [] 10 [.agg [.il 12 (bD A)]] [] 0 fun r m k=>r = .tup [.sl 0 0 A.length,.int .i64 0]/\m=[(0,.row 33 2 (rE A A.length))]/\k=1:=by
 have hV:=Cr A (M7 h.tin);rw[h.val] at hV;have hN:=GJ A;have nA:NN (.agg [.il 12 (bD A)]):=.agg' (.cons (.il' (aX A)) .nil);have hlen:(bD A).length=A.length:=cO A;have hl:=h.tin.len;have hz:=KK A;refine aG bB func10 rfl ?_;refine Rr ?_;refine hV.go ?_ (.cons nA .nil) nn;refine Rt ?_;refine aE.useN bB [] hN rfl (.same (.cons nA .nil)) trivial rfl ?_;rintro r m k ⟨rfl,rfl,rfl⟩;refine⟨[(0,1),(1,2)],.ptr 1 0 0,[(1,.row 150 8 [IP A 2]),(2,.mapb (oY gY aR A []))],3,.ptr 0 1 0 0 rfl,⟨⟨0,_,rfl,rfl,.cons (qH rfl) .nil⟩,⟨1,_,rfl,rfl,qG c9 []⟩,trivial⟩,rfl, ?_⟩;refine Rt ?_;rw[hlen];refine Rr ?_;refine aM (bY rfl (bY rfl (bY rfl (bY (UD (by omega)) (bY (UD (by omega)) (bY (sP rfl (by omega) (by omega)) (UD (by omega)))))))) ?_;refine Rt ?_;rw[show ((A.length:Nat):Int).toNat=A.length from T4 _];have hA:=fun(i:Nat) (hi:i<A.length)=>uF (A:=A) h hi
 have iA:=Pf h;refine bA.at bB (fun p:Nat × List Key=>p.1<=A.length/\∀q∈p.2,f7 q)
  (fun p=>⟨[(5,.ptr 0 0 0),(6,.sl 2 0 A.length),(20,.int .i64 A.length),(21,.int .i64 p.1)],[(0,.row 150 8 [IP A 1]),(1,.mapb (oY gY aR A p.2)),(2,.row 33 2 (rE A p.1))],3,33⟩)
  (fun p=>A.length-p.1) (0,[]) [(1,0),(2,1),(3,2)] ⟨VL _,by simp⟩
  (aF _ rfl ⟨⟨1,_,rfl,rfl,.cons (qH rfl) .nil⟩,⟨2,_,rfl,rfl,qG c9 []⟩,⟨3,_,rfl,rfl,.eq (A2 A 0) hz.symm⟩,trivial⟩
   ⟨aI,⟨_,rfl,.sl 3 2 0 _ rfl⟩,aJ,aJ,trivial⟩) ?_
 rintro⟨k,L1⟩ ⟨hk,hL1⟩;simp only at hk hL1 ⊢;refine Rr ?_;refine aD (fun hb=>?_) (fun hb=>?_)
 ·have hlt:k<A.length:=by simpa using hb
  obtain⟨b,hF⟩:=Ix (cV.all A k);rw[←hA k hlt] at hF;have hs:=NG A k hlt;have hn:=Gm A k;have nS:=A2 A (k+1);rw[cM] at hs;have bx:Nat.blt ((k:Nat):Int).toNat A.length=true:=T8 (by simp;omega);have bz:(rE A k)[0+((k:Nat):Int).toNat]? = some (.agg [.bool false,.nsl]):=by
   unfold rE;rw[show 0+((k:Nat):Int).toNat=k by simp,Uh,WB hlt];simp
  generalize rE A k=C at *;refine Rr ?_;refine GH (iA k hlt) hL1 rfl hF fun L2 hL2=>?_
  refine Rt ?_;repeat((first|refine aM bx ?_|refine aC bz ?_);refine Rt ?_)
  exact .mk (k+1,L2) [(0,0),(1,1),(2,2)] ⟨by simp only;omega,hL2⟩
   (aF _ rfl ⟨⟨0,_,rfl,rfl,.cons (qH rfl) .nil⟩,⟨1,_,rfl,rfl,qG c9 L2⟩,⟨2,_,rfl,rfl,.eq nS (by rw[←hs];simp)⟩,trivial⟩
    ⟨aI,⟨_,rfl,.sl 2 2 0 _ rfl⟩,aJ,⟨_,rfl,.int (by rw[bE ⟨by omega,by omega⟩];simp)⟩,trivial⟩) (by simp only;omega)
 ·have hke:k=A.length:=by
   have:¬k<A.length:=by simpa using hb
   omega
  subst hke;have nS:=A2 A A.length;refine Rt ?_;exact bJ (r':=.tup [.sl 0 0 A.length,.int .i64 0]) (n':=1) (m':=[(0,.row 33 2 (rE A A.length))]) [(2,0)] rfl ⟨aK 2 nS,trivial⟩ (.tup' (.cons (.sl 2 0 0 _ rfl) (.s .nil))) ⟨rfl,rfl,rfl⟩
end Go.Proofs.YtidjhgajglebnaaGreatDoor
namespace Go.Ax
open Go
def wK(l:List Nat)(i:Int):Nat:=if i<0 then 0 else l.getD i.toNat 0
theorem I4(l:List Nat)(i:Nat):wK l (i:Int)=l.getD i 0:=by unfold wK;rw[T5 (by omega)];simp
theorem NU{l:List Nat}{B:Nat}(hB:0<B)(h:∀d∈l,d<B)(i:Int):wK l i<B:=by
 unfold wK;split
 ·exact hB
 ·rw[T1];cases hg:l[i.toNat]? with
  | none=>simpa using hB
  | some d=>exact h _ (UA hg)
def JV(r b:List Nat):Nat:=10000*(10000*wK r b.length+wK r ((b.length:Int)-1))+wK r ((b.length:Int)-2)
def Fd(b:List Nat):Nat:=10000*wK b ((b.length:Int)-1)+wK b ((b.length:Int)-2)
theorem pZ{l:List Nat}{i:Nat}{j:Int}(hj:j=(i:Int)):wK l j=l.getD i 0:=by rw[hj,I4]
theorem lW(B:Nat):∀(l:List Nat) (n:Nat),vl B (l.drop n)=l.getD n 0+B*vl B (l.drop (n+1))
 | [],n=>by simp[vl]
 | a::r,0=>by simp[vl]
 | a::r,n+1=>by simpa using lW B r n
theorem rV(B:Nat)(l:List Nat)(n:Nat):vl B l=vl B (l.take n)+B ^ n*vl B (l.drop n):=by
 rcases UG n l.length with h|h
 ·exact Ii B l n (XA h)
 ·rw[UB h,VB h];simp[vl]
theorem wJ{B:Nat}(hB:2<=B){l:List Nat}(h:∀d∈l,d<B)(n:Nat):vl B (l.take n)<B ^ n:=by
 have:=CR hB (l.take n) fun d hm=>h d (Uc hm)
 refine WH this (Uw (by omega) ?_);rw[U4];omega
theorem N3{r b:List Nat}(hr:∀d∈r,d<10000)(hb:∀d∈b,d<10000)(hk:0<b.length)(htop:0<wK b ((b.length:Int)-1))(hrl:r.length<=b.length+1) :
  0<Fd b/\JV r b/(Fd b+1)<=vl 10000 r/vl 10000 b/\vl 10000 r/vl 10000 b<=JV r b/Fd b:=by
 have hB:(2:Nat)<=10000:=by decide
 have hL:0<Fd b:=by unfold Fd;omega
 refine⟨hL, ?_⟩;obtain⟨k,hk1⟩:∃k,b.length=k+1:=⟨b.length-1,by omega⟩
 cases k with
 | zero=>
  have e1:JV r b=10000*vl 10000 r:=by
   have h0:=lW 10000 r 0;have h1:=lW 10000 r 1;have h2:r.drop (1+1)=[]:=VB (by omega);rw[h2] at h1;simp only[Ub,UT] at h0;unfold JV;rw[hk1,pZ (i:=1) rfl,pZ (i:=0) (by omega),show wK r (((0+1:Nat):Int)-2)=0 by unfold wK;rw[T7 (by omega)]];simp only[vl] at h1;omega
  have e2:Fd b=10000*vl 10000 b:=by
   have h0:=lW 10000 b 0;have h2:b.drop (0+1)=[]:=VB (by omega);rw[h2] at h0;simp only[Ub,UT,vl] at h0;unfold Fd;rw[hk1,pZ (i:=0) (by omega),show wK b (((0+1:Nat):Int)-2)=0 by unfold wK;rw[T7 (by omega)]];omega
  have hv:0<vl 10000 b:=by omega
  rw[e1,e2];refine⟨?_, ?_⟩
  ·rw[V0 hv];have h1:=Ws (10000*vl 10000 r) (10000*vl 10000 b+1);generalize 10000*vl 10000 r/(10000*vl 10000 b+1)=q at *;rw[U2,We] at h1;omega
  ·rw[Nat.mul_div_mul_left _ _ (by omega)];exact UC _
 | succ k=>
  have sr:=rV 10000 r k;have sb:=rV 10000 b k;have lr:=wJ hB hr k;have lb:=wJ hB hb k;have er:vl 10000 (r.drop k)=JV r b:=by
   rw[lW,lW,lW,VB (by omega)];unfold JV;rw[hk1,pZ (i:=k+1+1) (by omega),pZ (i:=k+1) (by omega),pZ (i:=k) (by omega)];simp only[vl];omega
  have eb:vl 10000 (b.drop k)=Fd b:=by
   rw[lW,lW,VB (by omega)];unfold Fd;rw[hk1,pZ (i:=k+1) (by omega),pZ (i:=k) (by omega)];simp only[vl];omega
  rw[er,Vb] at sr;rw[eb,Vb] at sb;refine Hh (L:=10000 ^ k) (Nat.pow_pos (by omega)) (by omega) (by rw[UZ,U8];omega) (by omega) (by rw[UZ,U8];omega) hL
def Eh(r b:List Nat):Nat × Nat:=if r.length<b.length∨b.length=0 then(0,0) else(min 9999 (JV r b/(Fd b+1)),min 9999 (JV r b/Fd b))
theorem L6{B n:Nat}(hB:2<=B)(hn:0<n):0<wK (dg B n) (((dg B n).length:Int)-1):=by
 have hl:0<(dg B n).length:=by rw[oS hB hn];simp
 obtain⟨k,hk⟩:∃k,(dg B n).length=k+1:=⟨(dg B n).length-1,by omega⟩
 rw[hk,pZ (i:=k) (by omega)];have h1:=G2 hB n hn;rw[hk] at h1;have h2:=rV B (dg B n) k;rw[fK hB,lW,VB (by omega)] at h2;have h3:=wJ hB (eS hB n) k;simp only[vl,W8,Vi,Nat.add_sub_cancel] at h1 h2;rcases UK ((dg B n).getD k 0) with e|e
 ·rw[e,W8] at h2;omega
 ·exact e
theorem O9{x y:Nat}(hy:0<y)(hx:x<y*10000):(Eh (dg 10000 x) (dg 10000 y)).1<=x/y/\x/y<=(Eh (dg 10000 x) (dg 10000 y)).2/\(Eh (dg 10000 x) (dg 10000 y)).2<=9999:=by
 have hB:(2:Nat)<=10000:=by decide
 have hl:0<(dg 10000 y).length:=by rw[oS hB hy];simp
 have hq:x/y<10000:=by rw[V3 hy,Vb];exact hx
 unfold Eh;by_cases h:(dg 10000 x).length<(dg 10000 y).length∨(dg 10000 y).length=0
 ·rw[T7 h];have hlt:x<y:=nG hB (by omega);rw[Wk hlt];simp
 ·rw[T5 h];have hrl:(dg 10000 x).length<=(dg 10000 y).length+1:=by
   refine hZ hB ?_;have:=jY (n:=y) hB;rw[V8];exact WH hx (UP _ (XA this))
  obtain⟨h1,h2,h3⟩:=N3 (eS hB x) (eS hB y) hl (L6 hB hy) hrl;rw[fK hB,fK hB] at h2 h3;simp only;omega
end Go.Ax
