/- A part of the proof. -/
import Derived.Test.YtidjhgajglebnaaGreatDoorAx19
set_option linter.unusedVariables false
set_option linter.unusedSimpArgs false
namespace Go.Proofs.YtidjhgajglebnaaGreatDoor
open Go Go.Ax Go.Proofs Tryz
set_option maxRecDepth 100000
set_option maxHeartbeats 16000000
def gO(c:Cell):AV:=.agg [.bool (decide ((c.n:Int)<0)),.il 1 (bJ (dg 10000 (c.n:Int).natAbs)),.bool (decide (c.p.p<0)),.il 1 (bJ (dg 10000 c.p.p.natAbs)),.bool (decide ((c.p.q:Int)<0)),.il 1 (bJ (dg 10000 (c.p.q:Int).natAbs))]
theorem g8(c:Cell):NN (gO c):=.agg' (.cons (gH _) (.cons (tD _) (.cons (gH _) (.cons (tD _) (.cons (gH _) (.cons (tD _) .nil))))))
def bK(l:List Cell):List AV:=l.map gO
theorem bW(l:List Cell):kI (bK l):=fun a h=>by
 obtain⟨c,-,rfl⟩:=ZF.1 h;exact g8 c
theorem nZ(l:List Cell)(i:Nat):(bK l)[i]? = (l[i]?).map gO:=by simp[bK]
theorem fE(l:List Cell):(bK l).length=l.length:=by simp[bK]
theorem C1{c:Cell}{b b1 b2:Bool}{l l1 l2:List Nat}(h:dW (c.n:Int) = .agg [.bool b,.il 1 (bJ l)])(h2:Nk c.p = .agg [.bool b1,.il 1 (bJ l1),.bool b2,.il 1 (bJ l2)]):gO c = .agg [.bool b,.il 1 (bJ l),.bool b1,.il 1 (bJ l1),.bool b2,.il 1 (bJ l2)]:=by
 rw[d7] at h;unfold Nk at h2;simp only[AV.agg.injEq,List.cons.injEq,and_true] at h h2;unfold gO;rw[h.1,h.2,h2.1,h2.2.1,h2.2.2.1,h2.2.2.2]
theorem Aq(a:Fr):∃b l c m,Nk a = .agg [.bool b,.il 1 (bJ l),.bool c,.il 1 (bJ m)]:=⟨_,_,_,_,rfl⟩
theorem Ak:aT prog [] 90 [] (gO zC):=by
 have h1:=Tz 0 ⟨by omega,by omega⟩;have h2:=Xi 0 ⟨by omega,by omega⟩;obtain⟨b,l,e1⟩:=eR 0;obtain⟨b1,l1,b2,l2,e2⟩:=Aq ⟨0,1⟩;have hc:gO zC=_:=C1 (c:=zC) e1 e2;have nc:=g8 zC;have n1:=fD b l;have n2:=UY b1 b2 l1 l2;rw[e1] at h1;rw[e2] at h2;rw[hc] at nc ⊢;refine aD bD func90 rfl ?_;refine Rr ?_;refine h1.go ?_ (.cons nn .nil) n1;refine Rr ?_;refine h2.go ?_ (.cons nn .nil) n2;refine Rt ?_;exact aA nc ⟨rfl,rfl,rfl⟩
theorem AM:aT prog [] 150 [] (.il 6 (bK fW)):=by
 have h1:=Tz 1 ⟨by omega,by omega⟩;have h2:=Xi 1 ⟨by omega,by omega⟩;obtain⟨b,l,e1⟩:=eR 1;obtain⟨b1,l1,b2,l2,e2⟩:=Aq ⟨1,1⟩;have hc:gO ⟨1,⟨1,1⟩⟩=_:=C1 (c:=⟨1,⟨1,1⟩⟩) e1 e2;have hs:bK fW=[gO ⟨1,⟨1,1⟩⟩]:=rfl;have nc:=g8 ⟨1,⟨1,1⟩⟩;have n1:=fD b l;have n2:=UY b1 b2 l1 l2;rw[e1] at h1;rw[e2] at h2;rw[hc] at nc hs;rw[hs];refine aD bD func150 rfl ?_;refine Rr ?_;refine h1.go ?_ (.cons nn .nil) n1;refine Rr ?_;refine h2.go ?_ (.cons nn .nil) n2;refine Rt ?_;exact fL (P5 rfl rfl rfl (.cons nc .nil)) ⟨rfl,rfl,rfl⟩
theorem RI{n:Int}(h:i64 n):(dg 10000 n.natAbs).length<=800000:=by
 have:n.natAbs<=2 ^ 63:=by
  have:=h.1;have:=h.2;omega
 exact Yw (E0 this (by omega)) (by omega)
theorem Kj(n p q:Int)(hn:i64 n)(h0:0<=n)(hp:i64 p)(hq:i64 q)(hq0:q≠0):aT prog [] 151 [.int .i64 n,.int .i64 p,.int .i64 q] (.il 6 (bK (jI n p q))):=by
 have hN:=Ak;have h1:=Tz n hn;have h2:=Tz p hp;have h3:=Tz q hq;have hM:=IW p q hq0 (RI hp) (RI hq);obtain⟨b,l,e1⟩:=eR n;obtain⟨c1,m1,e2⟩:=eR p;obtain⟨c2,m2,e3⟩:=eR q;obtain⟨b1,l1,b2,l2,e4⟩:=Aq (mkF p q);obtain⟨y,ey⟩:∃y,y=gO zC:=⟨_,rfl⟩
 obtain⟨d0,k0,d1,k1,d2,k2,e5⟩:∃d0 k0 d1 k1 d2 k2,gO zC = .agg [.bool d0,.il 1 (bJ k0),.bool d1,.il 1 (bJ k1),.bool d2,.il 1 (bJ k2)]:=⟨_,_,_,_,_,_,rfl⟩
 have hc:gO ⟨n.toNat,mkF p q⟩=_:=C1 (c:=⟨n.toNat,mkF p q⟩) (by rw[Int.toNat_of_nonneg h0];exact e1) e4;have hs:bK (jI n p q)=[gO zC,gO ⟨n.toNat,mkF p q⟩]:=rfl;have nz:=g8 zC;have nc:=g8 ⟨n.toNat,mkF p q⟩;have n1:=fD b l;have n2:=fD c1 m1;have n3:=fD c2 m2;have n4:=UY b1 b2 l1 l2;rw[e1] at h1;rw[e2] at h2;rw[e3] at h3;rw[e2,e3,e4] at hM;rw[e5] at hN nz;rw[hc,e5] at hs;rw[hc] at nc;rw[hs];refine aD bD func151 rfl ?_;refine Rr ?_;refine h2.go ?_ (.cons nn .nil) n2;refine Rr ?_;refine h3.go ?_ (.cons nn .nil) n3;refine Rr ?_;refine hM.go ?_ (.cons n2 (.cons n3 .nil)) (.tup' (.cons n4 (.cons nn .nil)));refine Rt ?_;refine hN.go ?_ .nil nz;refine Rt ?_;refine h1.go ?_ (.cons nn .nil) n1;refine Rt ?_;exact fL (P5 rfl rfl rfl (.cons nz (.cons nc .nil))) ⟨rfl,rfl,rfl⟩
set_option maxHeartbeats 16000000
def WD:AV:=.ip (.agg [.junk,.bool false,.junk])
theorem Qt:NN WD:=.ip' (.agg' (.cons .junk (.cons (gH _) (.cons .junk .nil))))
def q7(c:Cell):Prop:=(dg 10000 ((c.n:Nat):Int).natAbs).length<=500000
theorem YN:q7 zC:=by
 unfold q7;rw[show ((zC.n:Nat):Int).natAbs=0 from rfl,dg];simp
theorem jP(c:Cell):∃b l b1 l1 b2 l2,dW (c.n:Int) = .agg [.bool b,.il 1 (bJ l)]/\gO c = .agg [.bool b,.il 1 (bJ l),.bool b1,.il 1 (bJ l1),.bool b2,.il 1 (bJ l2)]:=⟨_,_,_,_,_,_,rfl,rfl⟩
theorem Hu{c:Cell}{m:Nat}{b b1 b2 b':Bool}{l l1 l2 l':List Nat}(h:dW (m:Int) = .agg [.bool b',.il 1 (bJ l')])(h2:gO c = .agg [.bool b,.il 1 (bJ l),.bool b1,.il 1 (bJ l1),.bool b2,.il 1 (bJ l2)]):gO ⟨m,c.p⟩ = .agg [.bool b',.il 1 (bJ l'),.bool b1,.il 1 (bJ l1),.bool b2,.il 1 (bJ l2)]:=by
 rw[d7] at h;unfold gO at h2 ⊢;simp only[AV.agg.injEq,List.cons.injEq,and_true] at h h2;rw[h.1,h.2,h2.2.2.1,h2.2.2.2.1,h2.2.2.2.2.1,h2.2.2.2.2.2]
theorem qI(l:List Cell)(c:Cell):bK (l++[c])=bK l++[gO c]:=by simp[bK]
set_option maxHeartbeats 16000000
theorem Vp(l:List Int)(hl:l.length<=1000000)(hs:∀k,i64 (pO (l.take k))):aT prog [] 152 [.il 1 (bH l)] (.int .i64 (pO l)):=by
 have nl:NN (.il 1 (bH l)):=.il' (bE l);have ll:=aI l;refine aD bD func152 rfl ?_;refine Rr ?_;refine aZ.at bD (fun i:Nat=>i<=l.length) (fun i=>⟨[(0,.il 1 (bH l)),(3,.int .i64 (pO (l.take i))),(4,.int .i64 i)],[],0,18⟩) (fun i=>l.length-i) 0 [] (by omega)
  (bL ⟨aN nl,aK,aK,trivial⟩) ?_
 intro i hi;refine Rr ?_;rw[ll];refine aH (fun hb=>?_) (fun hb=>?_)
 ·have hlt:i<l.length:=by simpa using hb
  have e1:=Ry hlt;have hst:pO (l.take (i+1))=pO (l.take i)+l[i]:=by
   unfold pO;rw[Ys hlt,Zb];rfl
  have h1:=hs (i+1);rw[hst] at h1;generalize l[i]=q at *;generalize pO (l.take i)=S at *;refine Rr ?_;refine aB e1 ?_;refine Rr ?_;exact .mk (i+1) [] (by omega) (bL ⟨aN nl,⟨_,rfl,.int (by rw[bA h1,hst])⟩,⟨_,rfl,.int (by rw[bA ⟨by omega,by omega⟩];simp)⟩,trivial⟩) (by omega)
 ·have he:l.take i=l:=Yu (by
   have:¬i<l.length:=by simpa using hb
   omega)
  rw[he];refine Rr ?_;exact aA nn ⟨rfl,rfl,rfl⟩
theorem Qe(a:List Cell)(ha:a.length<=100000)(sa:∀c∈a,q7 c)(ss:∀k,q7 ⟨cR (a.take k),zF⟩):aT prog [] 45 [WD,.il 6 (bK a)] (gO ⟨cR a,zF⟩):=by
 have na:NN (.il 6 (bK a)):=.il' (bW a);have nm:=Qt;have la:=fE a;have hN:=Ak;have nz:=g8 zC;obtain⟨y0,r0,y1,r1,y2,r2,ez1,ez2⟩:=jP zC;rw[ez2] at hN nz;unfold WD at nm ⊢;have h0:gO ⟨cR (a.take 0),zF⟩=gO zC:=rfl;refine aD bD func45 rfl ?_;refine Rr ?_;refine hN.go ?_ .nil nz;refine Rt ?_;refine aZ.at bD (fun i:Nat=>i<=a.length)
  (fun i=>⟨[(0,.ip (.agg [.junk,.bool false,.junk])),(1,.il 6 (bK a)),(4,.ptr 0 0 0),(5,.ptr 1 0 0),(6,.int .i64 i)],[(0,.row 103 6 [.agg [.bool false,.nsl,.bool false,.nsl,.bool false,.nsl]]),(1,.row 103 6 [gO ⟨cR (a.take i),zF⟩])],2,40⟩) (fun i=>a.length-i) 0 [(0,0),(1,1)] (by omega)
  (aE _ rfl ⟨aL 0 (.cons (.agg' (.cons (gH _) (.cons .nsl (.cons (gH _) (.cons .nsl (.cons (gH _) (.cons .nsl .nil))))))) .nil),⟨1,_,rfl,rfl,.eq (.cons (g8 _) .nil) (by rw[h0,ez2])⟩,trivial⟩ ⟨aN nm,aN na,aG,aG,aK,trivial⟩) ?_
 intro i hi;obtain⟨z,f0,z1,f1,z2,f2,ex1,ex2⟩:=jP ⟨cR (a.take i),zF⟩;rw[ex2];refine Rr ?_;rw[la];refine aH (fun hb=>?_) (fun hb=>?_)
 ·have hlt:i<a.length:=by simpa using hb
  have ea:(bK a)[((i:Nat):Int).toNat]? = some (gO a[i]):=by rw[Yl,nZ,Yj hlt];rfl
  have hst:cR (a.take (i+1))=cR (a.take i)+a[i].n:=by
   unfold cR;rw[Ys hlt,Zk,aAb];simp
  have s1:=ss i;have sx:=sa _ (Y8 hlt);generalize a[i]=x at *;obtain⟨w,g0,w1,g1,w2,g2,ey1,ey2⟩:=jP x;have hA:=Qy (cR (a.take i)) x.n (Yw s1 (by omega)) (Yw sx (by omega));rw[←Int.natCast_add,←hst] at hA;obtain⟨u,v,ev⟩:=eR ((cR (a.take (i+1)):Nat):Int);have hc:gO ⟨cR (a.take (i+1)),zF⟩=_:=Hu (c:=⟨cR (a.take i),zF⟩) (m:=cR (a.take (i+1))) ev ex2;have nc:=g8 ⟨cR (a.take (i+1)),zF⟩;have ex1:dW ((cR (a.take i):Nat):Int)=_:=ex1;rw[ex1,ey1,ev] at hA;rw[ey2] at ea;refine Rt ?_;repeat(refine aB ea ?_;refine Rt ?_)
  refine hA.go ?_ (.cons (fD _ _) (.cons (fD _ _) .nil)) (fD _ _);refine Rt ?_;repeat(refine aB ea ?_;refine Rt ?_)
  exact .mk (i+1) [(0,0),(1,1)] (by omega)
   (aE _ rfl ⟨aL 0 (.cons (.agg' (.cons (gH _) (.cons .nsl (.cons (gH _) (.cons .nsl (.cons (gH _) (.cons .nsl .nil))))))) .nil),⟨1,_,rfl,rfl,.eq (.cons nc .nil) (by rw[hc])⟩,trivial⟩ ⟨aN nm,aN na,aG,aG,⟨_,rfl,.int (by rw[bA ⟨by omega,by omega⟩];simp)⟩,trivial⟩) (by omega)
 ·have he:a.take i=a:=Yu (by
   have:¬i<a.length:=by simpa using hb
   omega)
  have nc:=g8 ⟨cR (a.take i),zF⟩;rw[←he,ex2];rw[ex2] at nc;refine Rt ?_;exact aA nc ⟨rfl,rfl,rfl⟩
set_option maxHeartbeats 16000000
def Bp(a b:List Cell)(i:Nat):List Cell:=(a.zipIdx.take i).foldl (fun out ci=>eF false out (uC false ci.2 ci.1 b)) []
theorem Od{a b:List Cell}{i:Nat}(h:i<a.length):Bp a b (i+1)=eF false (Bp a b i) (uC false i a[i] b):=by
 unfold Bp;rw[Ys (by simpa using h),Zb];simp
theorem RM(a b:List Cell):Bp a b a.length=hZ false a b:=by
 unfold Bp hZ;rw[Yu (by simp)]
theorem M8(k:Nat):bK (List.replicate (k+1) zC)=bK (List.replicate k zC)++[gO zC]:=by rw[aBp,qI]
theorem Kc(n:Nat):decide (0<(dg 10000 n).length)=decide (0<n):=by
 rw[Ze];constructor
 ·intro h;apply Nat.pos_of_ne_zero;intro e;subst e;rw[dg] at h;simp at h
 ·intro h;rw[pE hT h];simp
theorem Q3(c:Cell):∃b l b1 l1 b2 l2,dW (c.n:Int) = .agg [.bool b,.il 1 (bJ l)]/\gO c = .agg [.bool b,.il 1 (bJ l),.bool b1,.il 1 (bJ l1),.bool b2,.il 1 (bJ l2)]/\l=dg 10000 c.n:=⟨_,_,_,_,_,_,rfl,rfl,by rw[Zc]⟩
set_option maxHeartbeats 16000000
theorem oI{c:Cell}:∀{r:List Cell},c∈r->c.n<=cR r
 | [],h=>by cases h
 | a::r,h=>by
  rw[oA];rcases Yr.1 h with rfl|h
  ·omega
  ·have:=oI h;omega
theorem sS(r:List Cell)(k:Nat):cR (r.take k)<=cR r:=by
 unfold cR
 conv=>rhs;rw[←List.take_append_drop k r]
 rw[Zk,aAb];omega
theorem Dq{n k m:Nat}(h:n<=mO k)(e:40*k=m)(hm:0<m):(dg 10000 n).length<=m:=by
 rw[ML k m e] at h;exact E0 h hm
theorem kR{c:Cell}(h:c.n<=mO 600):q7 c:=by
 unfold q7;rw[Zc];exact Yw (Dq h rfl (by decide)) (by decide)
theorem MX(a b:List Cell)(i:Nat):Bp a b i=hZ false (a.take i) b:=by
 unfold Bp hZ;rw[sY]
theorem Qw(i:Nat)(c:Cell)(b:List Cell):(uC false i c b).length<=i+b.length:=by
 unfold uC;rw[Y1,Z5];split<;>simp
theorem QB(a b:List Cell):(hZ false a b).length<=a.length+b.length:=by
 have key:∀(a:List Cell) (n:Nat) (out:List Cell),((a.zipIdx n).foldl (fun out ci=>eF false out (uC false ci.2 ci.1 b)) out).length<=max out.length (n+a.length+b.length):=by
  intro a
  induction a with
  | nil=>intro n out;simp;omega
  | cons c a ih=>
   intro n out;rw[aAo,Y9];refine Yw (ih _ _) ?_;rw[qN];have:=Qw n c b;simp only[ZH];omega
 have:=key a 0 [];unfold hZ;simp at this;omega
theorem OO(a:List Cell)(ha:a.length<=100000)(sa:cR a<=mO 600):aT prog [] 45 [WD,.il 6 (bK a)] (gO ⟨cR a,zF⟩):=
 Qe a ha (fun c hc=>kR (Yw (oI hc) sa)) fun k=>kR (Yw (sS a k) sa)
theorem S9(z:Int):KN z=if z<0 then 45::Lib.decDigits z.natAbs else Lib.decDigits z.natAbs:=by
 unfold KN Lib.itoa;split
 ·rfl
 ·rw[show z.toNat=z.natAbs by omega]
end Go.Proofs.YtidjhgajglebnaaGreatDoor
namespace Go.Ax
open Go
def Bz(f:AV->Option AV):List AV->Option (List AV)
 | []=>some []
 | a::r=>match f a with
  | none=>none
  | some b=>match Bz f r with
   | none=>none
   | some t=>some (b::t)
def frz:Nat->List (Nat × Nat)->aQ->AV->Option AV
 | 0,_,_,_=>none
 | n+1,σ,m,v=>match v with
  | .bool b=>some (.bool b)
  | .int k i=>some (.int k i)
  | .str s=>some (.str s)
  | .nptr=>some .nptr
  | .nsl=>some .nsl
  | .nmap=>some .nmap
  | .nfn=>some .nfn
  | .nif=>some .nif
  | .sl id off len=>match lk σ id with
   | none=>match lk m id with
    | some (.row t sz xs)=>match Nat.ble (off+len) xs.length with
     | true=>match Bz (frz n σ m) ((xs.drop off).take len) with
      | some ys=>some (.il sz ys)
      | none=>none
     | false=>none
    | _=>none
   | some _=>none
  | .il sz xs=>match Bz (frz n σ m) xs with
   | some ys=>some (.il sz ys)
   | none=>none
  | .ifc t v=>match frz n σ m v with
   | some v'=>some (.ifc t v')
   | none=>none
  | .agg cs=>match Bz (frz n σ m) cs with
   | some ys=>some (.agg ys)
   | none=>none
  | .tup cs=>match Bz (frz n σ m) cs with
   | some ys=>some (.tup ys)
   | none=>none
  | _=>none
structure BH(m:aQ)(σ:List (Nat × Nat))(v v':AV):Prop where
 cv:Cv m σ v v'
 nn:NN v'
 ce:iB m σ v.cells v'.cells
theorem BH.len{m:aQ}{σ:List (Nat × Nat)}{v v':AV}(h:BH m σ v v'):v.cells.length=v'.cells.length:=h.ce.1
theorem lN{m:aQ}{σ:List (Nat × Nat)}{f:AV->Option AV}(hf:∀v v',f v=some v'->BH m σ v v'):∀{l l':List AV},Bz f l=some l'->l.length=l'.length/\∀(j:Nat) (a b:AV),l[j]? = some a->l'[j]? = some b->BH m σ a b
 | [],l',h=>by simp only[Bz] at h;cases h;exact⟨rfl,fun j a b h=>by simp at h⟩
 | a::r,l',h=>by
  simp only[Bz] at h;split at h
  ·cases h
  ·rename_i b hb;split at h
   ·cases h
   ·rename_i t ht;cases h;obtain⟨h1,h2⟩:=lN hf ht;refine⟨by simp[h1],fun j x y hx hy=>?_⟩;cases j with
    | zero=>simp at hx hy;subst hx hy;exact hf _ _ hb
    | succ j=>simp at hx hy;exact h2 j x y hx hy
theorem xD{m:aQ}{σ:List (Nat × Nat)}{l l':List AV}(h1:l.length=l'.length)(h2:∀(j:Nat) (a b:AV),l[j]? = some a->l'[j]? = some b->BH m σ a b):kI l':=fun b hb=>by
 obtain⟨j,hj⟩:=ZQ hb;obtain⟨a,ha⟩:=dU h1 hj;exact(h2 j a b ha hj).nn
theorem BH.one{m:aQ}{σ:List (Nat × Nat)}{v v':AV}(h1:v.cells=[v])(h2:v'.cells=[v'])(hc:Cv m σ v v')(hn:NN v'):BH m σ v v':=
 ⟨hc,hn,by rw[h1,h2];exact iB.cons hc .nil⟩
theorem oE{m:aQ}{σ:List (Nat × Nat)}:∀(n:Nat) (v v':AV),frz n σ m v=some v'->BH m σ v v'
 | 0,v,v',h=>by simp[frz] at h
 | n+1,v,v',h=>by
  have ih:=oE (m:=m) (σ:=σ) n;cases v with
  | bool b=>simp only[frz] at h;cases h;exact .one rfl rfl (.same _ (.bool b)) (.bool b)
  | int k i=>simp only[frz] at h;cases h;exact .one rfl rfl (.same _ (.int k i)) (.int k i)
  | str s=>simp only[frz] at h;cases h;exact .one rfl rfl (.same _ (.str s)) (.str s)
  | nptr=>simp only[frz] at h;cases h;exact .one rfl rfl (.same _ .nptr) .nptr
  | nsl=>simp only[frz] at h;cases h;exact .one rfl rfl (.same _ .nsl) .nsl
  | nmap=>simp only[frz] at h;cases h;exact .one rfl rfl (.same _ .nmap) .nmap
  | nfn=>simp only[frz] at h;cases h;exact .one rfl rfl (.same _ .nfn) .nfn
  | nif=>simp only[frz] at h;cases h;exact .one rfl rfl (.same _ .nif) .nif
  | ptr id i j=>simp[frz] at h
  | mp id=>simp[frz] at h
  | ip v=>simp[frz] at h
  | fn f a b=>simp[frz] at h
  | junk=>simp[frz] at h
  | yld id=>simp[frz] at h
  | sl id off len=>
   simp only[frz] at h;split at h
   ·rename_i hs;split at h
    ·rename_i t sz xs hx;split at h
     ·rename_i hle;split at h
      ·rename_i ys hy;cases h;have hle:=Yq hle;obtain⟨h1,h2⟩:=lN ih hy;have hget:∀(i:Nat) (x y:AV),xs[off+i]? = some x->ys[i]? = some y->BH m σ x y:=fun i x y hx hy=>by
        refine h2 i x y ?_ hy;have hlt:i<ys.length:=(Yn.1 hy).1;rw[←h1] at hlt;rw[ZJ,Yt (by simp at hlt;omega),ZY];exact hx
       refine .one rfl rfl (.fz id off len t sz xs ys hx hs hle (by rw[←h1];simp;omega) (fun i x y hx hy=>(hget i x y hx hy).len) fun i x y j c c' hx hy hc hc'=>(hget i x y hx hy).ce.2 j c c' hc hc') ?_;exact NN.il' (xD h1 h2)
      ·cases h
     ·cases h
    ·cases h
   ·cases h
  | il sz xs=>
   simp only[frz] at h;split at h
   ·rename_i ys hy;cases h;obtain⟨h1,h2⟩:=lN ih hy;refine .one rfl rfl (.il sz xs ys h1 (fun i x y hx hy=>(h2 i x y hx hy).len) fun i x y j c c' hx hy hc hc'=>(h2 i x y hx hy).ce.2 j c c' hc hc') ?_;exact NN.il' (xD h1 h2)
   ·cases h
  | ifc t v=>
   simp only[frz] at h;split at h
   ·rename_i v' hv;cases h;exact .one rfl rfl (.ifc t v v' (ih v v' hv).cv) (.ifc t v' (ih v v' hv).nn)
   ·cases h
  | agg cs=>
   simp only[frz] at h;split at h
   ·rename_i ys hy;cases h;obtain⟨h1,h2⟩:=lN ih hy;have hl:iB m σ cs ys:=⟨h1,fun j c c' hc hc'=>(h2 j c c' hc hc').cv⟩
    exact⟨.agg' hl,.agg' (xD h1 h2),hl⟩
   ·cases h
  | tup cs=>
   simp only[frz] at h;split at h
   ·rename_i ys hy;cases h;obtain⟨h1,h2⟩:=lN ih hy;have hl:iB m σ cs ys:=⟨h1,fun j c c' hc hc'=>(h2 j c c' hc hc').cv⟩
    exact .one rfl rfl (.tup' hl) (.tup' (xD h1 h2))
   ·cases h
def RG:aQ->List (Nat × Nat)
 | []=>[]
 | (i,_)::r=>(i,i)::RG r
theorem Up{mem:aQ}:∀{i:Nat} {b:AB},lk mem i=some b->lk (RG mem) i=some i:=by
 induction mem with
 | nil=>intro i b h;simp[lk] at h
 | cons p r ih=>
  intro i b h;obtain⟨j,u⟩:=p;simp only[lk] at h;simp only[RG,lk];split at h
  ·rename_i e;rw[Nat.eq_of_beq_eq_true e]
  ·exact ih h
def Lw(m:aQ):aQ->Bool
 | []=>true
 | (i,b)::r=>(match b with
  | .row t sz xs=>match lk m i with
   | some (.row t' sz' xs')=>match Bz (frz 30 [] []) xs with
    | some ys=>Nat.beq t t' && (Nat.beq sz sz' && (rY xs' xs && rY ys xs))
    | none=>false
   | _=>false
  | _=>false) && Lw m r
theorem wX{m:aQ}(σ:List (Nat × Nat)):∀{mem:aQ},Lw m mem=true->(∀p∈mem,lk σ p.1=some p.1)->dV m σ mem
 | [],h,hs=>trivial
 | (i,b)::r,h,hs=>by
  simp only[Lw,Yk] at h;refine⟨?_,wX σ h.2 fun p hp=>hs p (Yx _ hp)⟩;have h:=h.1;split at h
  ·rename_i t sz xs;split at h
   ·rename_i t' sz' xs' hl;split at h
    ·rename_i ys hy;simp only[Yk] at h;obtain⟨h1,h2,h3,h4⟩:=h;have e1:=Nat.eq_of_beq_eq_true h1;have e2:=Nat.eq_of_beq_eq_true h2;have e3:=mX h3;have e4:=mX h4;subst e1 e2 e3 e4;obtain⟨g1,g2⟩:=lN (oE 30) hy;exact⟨i,ys,hs _ (Y7 ..),hl,.same (xD g1 g2)⟩
    ·cases h
   ·cases h
  ·cases h
def X2(mem:aQ)(want r:AV)(m:aQ):Bool:=
 match frz 30 (RG mem) m r with
 | some v=>match nL v want with
  | true=>Lw m mem
  | false=>false
 | none=>false
def XW(mem:aQ)(want r:AV)(m:aQ):Prop:=
 match X2 mem want r m with
 | true=>True
 | false=>False
theorem Lr:∀{mem:aQ},(mem.map (·.1)).Nodup->∀p∈mem,lk (RG mem) p.1=some p.1:=by
 intro mem hn p hp;have:∃b,lk mem p.1=some b:=by
  clear hn
  induction mem with
  | nil=>cases hp
  | cons q r ih=>
   obtain⟨j,u⟩:=q;simp only[lk];split
   ·exact⟨u,rfl⟩
   ·rename_i e;rcases Yr.1 hp with rfl|hp
    ·simp at e
    ·exact ih hp
 obtain⟨b,hb⟩:=this;exact Up hb
theorem pJ{P:Program}{Γ:List (Nat × AV)}{F:FuncId}{args:List AV}{mem:aQ}{nx:Nat}{want:AV}(hΓ:∀p∈Γ,NN p.2)(dl:List Nat)(n:Nat)
  (hc:(n9 (RG mem) && (oD mem && (wJ nx nx (RG mem) && Nat.ble nx nx)))=true)
  (h:((uN P Γ dl n).call F args mem nx (fun r m _=>XW mem want r m) fun _ _ _=>False)=True):aF P Γ F args mem nx fun r m k=>r=want/\m=mem/\k=nx:=by
 refine aF.turn hΓ ((FT dl n (by rw[h];trivial)).mono fun r m k hk=>?_);unfold XW at hk;split at hk
 ·rename_i hb;unfold X2 at hb;split at hb
  ·rename_i v hv;split at hb
   ·rename_i he;have e:=xE he;subst e;have hn:(mem.map (·.1)).Nodup:=by
     simp only[Yk] at hc;exact fY hc.2.1
    exact bF (RG mem) hc (wX _ hb (Lr hn)) (oE 30 r v hv).cv ⟨rfl,rfl,rfl⟩
   ·cases hb
  ·cases hb
 ·exact hk.elim
theorem aF.exact{P:Program}{Γ:List (Nat × AV)}{F:FuncId}{args:List AV}{mem:aQ}{nx:Nat}{want:AV}{K:AV->aQ->Nat->Prop}(h:aF P Γ F args mem nx fun r m k=>r=want/\m=mem/\k=nx)(hk:K want mem nx):aF P Γ F args mem nx K:=
 h.mono fun r m k ⟨h1,h2,h3⟩=>by rw[h1,h2,h3];exact hk
end Go.Ax
