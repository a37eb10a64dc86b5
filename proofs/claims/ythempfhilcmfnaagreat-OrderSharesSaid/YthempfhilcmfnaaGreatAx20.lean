/- A part of the proof. -/
import Derived.Test.YthempfhilcmfnaaGreatAx19
set_option linter.unusedVariables false
set_option linter.unusedSimpArgs false
namespace Go.Proofs.YthempfhilcmfnaaGreat
open Go Go.Ax Go.Proofs Tryz
set_option maxRecDepth 100000
set_option maxHeartbeats 16000000
theorem IX{A:List Nd}(h:VT A):EV A=0:=by
 unfold EV;rw[Rp (by simp[h.val]),Rp (by have:=h.pos;omega)]
theorem sJ{A:List Nd}(h:VT A)(hS:∀p f i a0,i<f->i<A.length->(a6 A p f i a0).spans.length<=4294967296)(p:List Int)(raws:List (List Int))(hp:p.length<=1000000)(hr:∀q∈raws,o8 p q)(hl:raws.length<=5120030000000) :
  a8 prog [] 75 [.agg [.il 12 (aR A)],.il 1 (aI p),.il 1 (aZ raws)] (.il 1 (aZ (eH (cC A p raws)))):=by
 have nA:NN (.il 12 (aR A)):=.il' (aQ A);have np:NN (.il 1 (aI p)):=.il' (aG p);have nr:NN (.il 1 (aZ raws)):=.il' (aU raws);have lr:=bA raws;have hFi:=fun q (hq:q∈raws)=>Nx h.tin (fun _=>hS) q (by have:=(hr q hq).1;omega) (hr q hq).2
 refine aL bC func75 rfl ?_;((conv=>whnf);repeat(refine Xg ?_;conv=>whnf));refine a7.at bC (fun k:Nat=>k<=raws.length)
  (fun k=>⟨[(1,.il 1 (aI p)),(2,.il 1 (aZ raws)),(3,.ip (.agg [.il 12 (aR A)])),(7,.il 1 (aZ (eH (cC A p (raws.take k))))),(8,.int .i64 k)],[],0,38⟩)
  (fun k=>raws.length-k) 0 [] (by omega)
  (aJ _ rfl trivial ⟨⟨_,rfl,.same _ np⟩,⟨_,rfl,.same _ nr⟩,⟨_,rfl,QM rfl rfl (.same _ nA)⟩,⟨_,rfl,.nil 1⟩,aH,trivial⟩) ?_
 intro k k1;have d1:decide ((k:Int)<((aZ raws).length:Int))=decide (k<raws.length):=by rw[lr];exact SB.2 (by omega)
 have no:NN (.il 1 (aZ (eH (cC A p (raws.take k))))):=.il' (aU _);by_cases hk:k<raws.length
 ·obtain⟨q,pm,pg,pe⟩:=rN hk;have hq:=hFi q pm;have hst:raws.take (k+1)=raws.take k++[q]:=by
   rw[Rv hk];rw[Rm hk] at pg;rw[Option.some.inj pg]
  have hsn:=Jn A p (raws.take k) q;rw[←hst] at hsn;have hfl:=o9 h q;have hrl:=g7 A p (raws.take k);have hrs:=wJ h p (raws.take k);have hsl:=wT (cC A p (raws.take k));rw[SX] at hrl;rw[IX h,show Ce A q=fV A q by unfold Ce;rw[Rx (IX h)]] at hq;have hC:=P8 (fV A q) p (by omega);have hP:=RR (eH (cC A p (raws.take k))) (fV A q) (by omega) (fun z hz=>by have:=hrs z (Dn hz);omega);rw[←nU] at hP;have nq:NN (.il 1 (aI (fV A q))):=.il' (aG _);have nrq:NN (.il 1 (aI q)):=.il' (aG _);clear hst hFi hrl hrs hsl;generalize cC A p (raws.take k)=F at *;generalize dE (fV A q) p=c at *;generalize fV A q=fq at *;((conv=>whnf);repeat(refine Xg ?_;conv=>whnf));rw[d1,Rs hk];((conv=>whnf);repeat(refine Xg ?_;conv=>whnf));repeat((first|refine aC pe ?_|refine aB.2 ?_|refine aD ?_);(conv=>whnf);repeat(refine Xg ?_;conv=>whnf))
  refine hq.go ?_ (.cons (.agg' (.cons nA .nil)) (.cons nrq .nil)) (.tup' (.cons nq (.cons nn .nil)));((conv=>whnf);repeat(refine Xg ?_;conv=>whnf));repeat((first|refine aB.2 ?_|refine aD ?_);(conv=>whnf);repeat(refine Xg ?_;conv=>whnf))
  refine hC.go ?_ (.cons nq (.cons np .nil)) nn;((conv=>whnf);repeat(refine Xg ?_;conv=>whnf));by_cases hc:c<0
  ·rw[Rx hc] at hsn;rw[Rs hc];((conv=>whnf);repeat(refine Xg ?_;conv=>whnf));refine hP.go ?_ (.cons no (.cons nq .nil)) (.il' (aU _));((conv=>whnf);repeat(refine Xg ?_;conv=>whnf));exact .mk (k+1) [] (by omega) (aJ _ rfl trivial ⟨⟨_,rfl,.same _ np⟩,⟨_,rfl,.same _ nr⟩,⟨_,rfl,.same _ (.ip' (.agg' (.cons nA .nil)))⟩,⟨_,rfl,.eq (.il' (aU _)) (by rw[hsn])⟩,⟨_,rfl,.wo⟩,trivial⟩) (by omega)
  ·rw[Rp hc] at hsn;rw[R4 hc];((conv=>whnf);repeat(refine Xg ?_;conv=>whnf));exact .mk (k+1) [] (by omega) (aJ _ rfl trivial ⟨⟨_,rfl,.same _ np⟩,⟨_,rfl,.same _ nr⟩,⟨_,rfl,.same _ (.ip' (.agg' (.cons nA .nil)))⟩,⟨_,rfl,.eq (.il' (aU _)) (by rw[hsn])⟩,⟨_,rfl,.wo⟩,trivial⟩) (by omega)
 ·((conv=>whnf);repeat(refine Xg ?_;conv=>whnf));rw[d1,R4 hk];((conv=>whnf);repeat(refine Xg ?_;conv=>whnf));refine aA no ⟨?_,rfl,rfl⟩;rw[SA (by omega)]
set_option maxHeartbeats 16000000
theorem Oy{A:List Nd}{p:List Int}(h:PB A p):a8 prog [] 46 [.int .i64 3,.agg [.il 12 (aR A)],.il 1 (aI p)] (.tup [.il 1 (aZ (dF A p 3)),.int .i64 (bV A p)]):=by
 have nA:NN (.il 12 (aR A)):=.il' (aQ A);have np:NN (.il 1 (aI p)):=.il' (aG p);have np1:g9 [AV.il 1 (aI p)]:=.cons np .nil;have nAp:g9 [AV.agg [.il 12 (aR A)],AV.il 1 (aI p)]:=.cons (.agg' (.cons nA .nil)) np1;have hpl:=h.len;have hVa:=tI h.toJe;have nV:NN (bT (kY A p)):=bM _;have hR:dF A p 3=if bV A p=0 then eH (cC A p (cO 3 (bW A p) p)) else []:=rfl
 have hvt:=fun e=>fZ h.toJe e
 have hsi:=fun e=>pI h.toJe e
 have hrw:=h.raws 3;have hsl:(bW A p).length<=4294967296:=by
  unfold bW;split
  ·rename_i e;have hv:=fZ h.toJe e;exact h.cnt hv A.length (A.length-1) 0 (by have:=hv.pos;omega) (by have:=hv.pos;omega)
  ·simp
 have hS:=fun(e:bV A p=0)=>IP p (by omega) (by have hrw':=hrw e;rw[show cO 3 (bW A p) p=mD p 0 from rfl] at hrw';(try simp only[Ro] at hrw');omega)
 have hcnt:=h.cntA;have hRe:=fun(e:bV A p=0)=>sJ (hvt e) (hcnt (hvt e)) p (cO 3 (bW A p) p) hpl (xI h.i64 (hsi e) 3) (hrw e)
 generalize dF A p 3=R at *;generalize kY A p=V at *;generalize bV A p=E at *;generalize bW A p=sp at *;obtain⟨v1,v2,v3,v4⟩:=V;refine aL bC func46 rfl ?_;((conv=>whnf);repeat(refine Xg ?_;conv=>whnf));refine hVa.go ?_ nAp (.tup' (.cons nV (.cons nn .nil)));((conv=>whnf);repeat(refine Xg ?_;conv=>whnf));repeat((first|refine aB.2 ?_|refine aD ?_);(conv=>whnf);repeat(refine Xg ?_;conv=>whnf))
 refine aO (fun hb=>?_) (fun hb=>?_)
 ·have h0:E≠0:=by simpa using hb
  rw[Rp h0] at hR;rw[hR];((conv=>whnf);repeat(refine Xg ?_;conv=>whnf));exact bF (r':=.tup [.il 1 (aZ []),.int .i64 E]) (.tup' (.cons (.nil 1) (.s .nil))) ⟨rfl,rfl,rfl⟩
 ·have h0:E=0:=by simpa using hb
  subst h0;rw[Rx rfl] at hR;have hRe:=hRe rfl;have hrw:=hrw rfl;rw[show cO 3 sp p=mD p 0 from rfl] at hrw hRe hR
  (try simp only[Ro] at hrw)
  have e0:=bA (dL p sp);have e1:=bA (nT p 0);have e2:=bA (dY p sp);have e3:=bA (mD p 0);rw[hR];((conv=>whnf);repeat(refine Xg ?_;conv=>whnf));repeat((first|refine aB.2 ?_|refine aD ?_);(conv=>whnf);repeat(refine Xg ?_;conv=>whnf))
  refine(hS rfl).go ?_ np1 (.il' (aU _));((conv=>whnf);repeat(refine Xg ?_;conv=>whnf));refine aK (nS rfl (by omega)) ?_;((conv=>whnf);repeat(refine Xg ?_;conv=>whnf));repeat((first|refine aB.2 ?_|refine aD ?_);(conv=>whnf);repeat(refine Xg ?_;conv=>whnf))
  refine hRe.frz [2] bC (.cons (.same _ (.agg' (.cons nA .nil))) (.cons (.same _ np) (.cons (jL (id:=2) rfl rfl (by simp) (by simp[aZ]) (aU _)) .nil))) (.il' (aU _)) ?_;((conv=>whnf);repeat(refine Xg ?_;conv=>whnf));repeat((first|refine aB.2 ?_|refine aD ?_);(conv=>whnf);repeat(refine Xg ?_;conv=>whnf))
  exact bF (r':=.tup [.il 1 (aZ (eH (cC A p (mD p 0)))),.int .i64 0]) (.same _ (.tup' (.cons (.il' (aU _)) (.cons nn .nil)))) ⟨rfl,rfl,rfl⟩
end Go.Proofs.YthempfhilcmfnaaGreat
namespace Go.Ax
open Go
structure PF(x:Nd):Prop where
 ok:rL x
 val:bH x.value<=1024
 vals:∀v∈x.values,bH v<=1024
 vlen:x.values.length<=1024
 klen:x.kids.length<=1025
 llen:x.labels.length<=256
 wlen:x.weights.length<=256
 lab:∀s∈x.labels,s∈vV
theorem zN:∀{l:List bB},eQ l=0->∀v∈l,fW v=0
 | [],_,v,hv=>by simp at hv
 | a::r,h,v,hv=>by
  simp only[eQ] at h;split at h
  ·rename_i h1;exact absurd h h1
  ·rename_i h1;rcases Rz.1 hv with rfl|hv
   ·exact Decidable.not_not.1 h1
   ·exact zN h v hv
theorem AF{v:bB}(h:fW v=0):bH v<=1024:=by
 unfold fW at h;split at h
 ·omega
 ·split at h
  ·omega
  ·rename_i h1;rw[not_or] at h1;omega
theorem HZ{v:bB}(h:Bh v=true):bH v<=1024:=by
 obtain⟨k,n,s,ks⟩:=v;simp only[Bh,Rr,SP] at h;have:ks=[]:=S1.1 h.2;subst this;simp[bH,cQ]
theorem Dg{ns:List Nd}(h:gY ns):∀x∈ns,PF x:=by
 intro x hx;obtain⟨j,hj⟩:=Sb hx;have hn:=nY ns h.valid j x hj;have hN:=kQ hn;have hg:=h.gen x hx;have hf:=g5 hn;have hfe:eQ (oI x)=0:=by
  unfold fE at hn;rw[Rp (by rw[hf];simp)] at hn;split at hn
  ·rename_i h1;exact absurd hn h1
  ·rename_i h1;exact Decidable.not_not.1 h1
 have hv:=zN hfe;unfold cV at hf;simp only[Rr] at hf;obtain⟨⟨⟨⟨⟨⟨hu,hkd⟩,hki⟩,h2⟩,h3⟩,h4⟩,h5⟩:=hf;unfold iI at hu;simp only[Rr,Sv,SP] at hu h2 h4;have hul:=hu.1.1.2;have hz:=hu.1.1.1.1.1;have hvl:=hg.vals;refine⟨hg.ok, ?_,fun v hm=>AF (hv v (by unfold oI;exact TK _ hm)),hvl, ?_, ?_, ?_,hg.labels⟩
 ·rcases hz with e|e
  ·exact AF (hv x.value (by unfold oI;rw[Rx e];simp))
  ·exact HZ e
 ·by_cases e:x.kind=4
  ·have:=hN.bind e;omega
  ·have:=hN.klen e;omega
 ·rcases hul with e|e
  ·rcases h2 with h2|h2
   ·exact absurd e h2
   ·omega
  ·omega
 ·rcases hul with e|e
  ·rcases h2 with h2|h2
   ·exact absurd e h2
   ·omega
  ·omega
structure wF(LB:List (List UInt8))(x:Nd):Prop where
 ok:rL x
 val:bH x.value<=1048576
 vals:∀v∈x.values,bH v<=1048576
 vlen:x.values.length<=2000
 klen:x.kids.length<=2000
 llen:x.labels.length<=1000
 lab:∀s∈x.labels,s∈LB
variable {LB:List (List UInt8)}
theorem Hy(hLB:∀s∈vV,s∈LB){x:Nd}(h:PF x):wF LB x:=
 ⟨h.ok,by have:=h.val;omega,fun v hv=>by have:=h.vals v hv;omega,by have:=h.vlen;omega,by have:=h.klen;omega,by have:=h.llen;omega,fun s hs=>hLB s (h.lab s hs)⟩
theorem yR{ns:List Nd}(hLB:∀s∈LB,s.length<=19)(h:∀x∈ns,wF LB x)(hl:ns.length<=1000):qT ns:=
 ⟨fun x hx=>(h x hx).ok,fun x hx=>(h x hx).val,fun x hx=>(h x hx).vals,fun x hx=>(h x hx).vlen,fun x hx=>(h x hx).klen,fun x hx=>(h x hx).llen,fun x hx s hs=>by have:=hLB s ((h x hx).lab s hs);omega,hl⟩
theorem H0{l:List Int}{n:Int}(h:∀w∈l,i64 w)(hn:i64 n):∀w∈l++[n],i64 w:=fun w hw=>by
 rcases R5.1 hw with hw|hw
 ·exact h w hw
 ·simp at hw;rw[hw];exact hn
theorem MI{x:Nd}{n:Int}(h:wF LB x)(hn:i64 n):wF LB { x with kind:=n }:=⟨⟨hn,h.ok.name,h.ok.lo,h.ok.hi,h.ok.weights,h.ok.weightsI,h.ok.labels,h.ok.labelsI,h.ok.values,h.ok.valuesI,h.ok.kids,h.ok.kidsI,h.ok.value,h.ok.valueS⟩,h.val,h.vals,h.vlen,h.klen,h.llen,h.lab⟩
theorem Qe{x:Nd}{n:Int}(h:wF LB x)(hn:i64 n):wF LB { x with lo:=n }:=⟨⟨h.ok.kind,h.ok.name,hn,h.ok.hi,h.ok.weights,h.ok.weightsI,h.ok.labels,h.ok.labelsI,h.ok.values,h.ok.valuesI,h.ok.kids,h.ok.kidsI,h.ok.value,h.ok.valueS⟩,h.val,h.vals,h.vlen,h.klen,h.llen,h.lab⟩
theorem QP{x:Nd}{n:Int}(h:wF LB x)(hn:i64 n):wF LB { x with hi:=n }:=⟨⟨h.ok.kind,h.ok.name,h.ok.lo,hn,h.ok.weights,h.ok.weightsI,h.ok.labels,h.ok.labelsI,h.ok.values,h.ok.valuesI,h.ok.kids,h.ok.kidsI,h.ok.value,h.ok.valueS⟩,h.val,h.vals,h.vlen,h.klen,h.llen,h.lab⟩
theorem Bq{x:Nd}{ws:List Int}(h:wF LB x)(hl:ws.length<=100000)(hi:∀w∈ws,i64 w):wF LB { x with weights:=ws }:=⟨⟨h.ok.kind,h.ok.name,h.ok.lo,h.ok.hi,by simp only;omega,hi,h.ok.labels,h.ok.labelsI,h.ok.values,h.ok.valuesI,h.ok.kids,h.ok.kidsI,h.ok.value,h.ok.valueS⟩,h.val,h.vals,h.vlen,h.klen,h.llen,h.lab⟩
theorem Ib{x:Nd}{ks:List Int}(h:wF LB x)(hl:ks.length<=2000)(hi:∀w∈ks,i64 w):wF LB { x with kids:=ks }:=⟨⟨h.ok.kind,h.ok.name,h.ok.lo,h.ok.hi,h.ok.weights,h.ok.weightsI,h.ok.labels,h.ok.labelsI,h.ok.values,h.ok.valuesI,by simp only;omega,hi,h.ok.value,h.ok.valueS⟩,h.val,h.vals,h.vlen,hl,h.llen,h.lab⟩
theorem uA{x:Nd}{s:List UInt8}(h:wF LB x)(hs:s.length<=1000):wF LB { x with name:=s }:=⟨⟨h.ok.kind,by simp only;omega,h.ok.lo,h.ok.hi,h.ok.weights,h.ok.weightsI,h.ok.labels,h.ok.labelsI,h.ok.values,h.ok.valuesI,h.ok.kids,h.ok.kidsI,h.ok.value,h.ok.valueS⟩,h.val,h.vals,h.vlen,h.klen,h.llen,h.lab⟩
theorem JL{x:Nd}{ls:List (List UInt8)}(h:wF LB x)(hl:ls.length<=1000)(hs:∀s∈ls,s∈LB)(hLB:∀s∈LB,s.length<=19):wF LB { x with labels:=ls }:=⟨⟨h.ok.kind,h.ok.name,h.ok.lo,h.ok.hi,h.ok.weights,h.ok.weightsI,by simp only;omega,fun s hm=>by have:=hLB s (hs s hm);omega,h.ok.values,h.ok.valuesI,h.ok.kids,h.ok.kidsI,h.ok.value,h.ok.valueS⟩,h.val,h.vals,h.vlen,h.klen,hl,hs⟩
theorem JU{x:Nd}{vs:List bB}(h:wF LB x)(hl:vs.length<=2000)(hv:∀v∈vs,iA v/\bH v<=1048576):wF LB { x with values:=vs }:=⟨⟨h.ok.kind,h.ok.name,h.ok.lo,h.ok.hi,h.ok.weights,h.ok.weightsI,h.ok.labels,h.ok.labelsI,by simp only;omega,fun v hm=>⟨(hv v hm).1,by have:=(hv v hm).2;omega⟩,h.ok.kids,h.ok.kidsI,h.ok.value,h.ok.valueS⟩,h.val,fun v hm=>(hv v hm).2,hl,h.klen,h.llen,h.lab⟩
theorem Kz{x:Nd}{v:bB}(h:wF LB x)(hv:iA v)(hs:bH v<=1048576):wF LB { x with value:=v }:=⟨⟨h.ok.kind,h.ok.name,h.ok.lo,h.ok.hi,h.ok.weights,h.ok.weightsI,h.ok.labels,h.ok.labelsI,h.ok.values,h.ok.valuesI,h.ok.kids,h.ok.kidsI,hv,by simp only;omega⟩,hs,h.vals,h.vlen,h.klen,h.llen,h.lab⟩
theorem Oe{ns:List Nd}{i:Nat}{x:Nd}(h:∀y∈ns,wF LB y)(hx:wF LB x):∀y∈ns.set i x,wF LB y:=fun y hy=>by
 rcases TT hy with hy|rfl
 ·exact h y hy
 ·exact hx
end Go.Ax
namespace Go.Ax
open Go
def Pf(x y:Nd):Prop:=(y.kind=x.kind/\y.kids.length<=x.kids.length+1)∨(y.kids=x.kids/\y.values=x.values/\y.weights=x.weights)
theorem A4{ns:List Nd}(h:b9 [] ns=0){j:Nat}{x:Nd}(hj:ns[j]? = some x):cV j x=true:=g5 (nY ns h j x hj)
theorem Ly{A:List Nd}(h:∀x∈A,Fa x)(j:Nat):gN (aN A j)<=3:=by
 unfold aN;rw[Rn];cases e:A[j]? with
 | none=>simp[gN]
 | some x=>
  have hg:=h x (R3 e);simp only[TG];unfold gN;split
  ·rename_i h3;have:=hg.seq h3;omega
  ·omega
theorem RI{x y:Nd}{i j:Nat}(hx:cV i x=true)(hy:cV j y=true)(hg:Fa x)(hs:Pf x y):gN y<=4:=by
 unfold gN;split
 ·rename_i h3;rcases hs with⟨h1,h2⟩|⟨h1,h2,h4⟩
  ·have:=hg.seq (by omega);omega
  ·unfold cV at hx hy;simp only[Rr] at hx hy;obtain⟨⟨⟨⟨⟨⟨hu,hkd⟩,hki⟩,hx2⟩,hx3⟩,hx4⟩,hx5⟩:=hx;obtain⟨⟨⟨⟨⟨⟨hv,hld⟩,hli⟩,hy2⟩,hy3⟩,hy4⟩,hy5⟩:=hy;unfold iI at hu hv;simp only[Rr,Sv,SP] at hu hv hx2 hx4 hkd;obtain⟨⟨⟨⟨⟨-,-⟩,-⟩,hvw⟩,hvv⟩,-⟩:=hv;obtain⟨⟨⟨⟨⟨-,-⟩,-⟩,-⟩,-⟩,huk⟩:=hu;rw[h4] at hvw;rw[h2] at hvv;rw[h1];have hgs:=hg.seq;by_cases k3:x.kind=3
   ·have:=hgs k3;omega
   ·omega
 ·omega
theorem HG{A:List Nd}{i:Nat}(h:∀j,j≠i->gN (aN A j)<=3)(h4:gN (aN A i)<=4):∀n,(n<i->HP A n<=3 ^ n)/\3*HP A n<=4*3 ^ n
 | 0=>by simp[HP]
 | n+1=>by
  obtain⟨a,b⟩:=HG h h4 n;have hp:3 ^ (n+1)=3*3 ^ n:=by rw[Nat.pow_succ,T2]
  rw[HP,hp];by_cases e:n+1=i
  ·rw[e];have a:=a (by omega);have:=TE a h4;exact⟨fun q=>absurd q (Tb _),by omega⟩
  ·have h3:=h (n+1) e;have:=TE (R2 (HP A n)) h3;exact⟨fun q=>by have:=a (by omega);omega,by omega⟩
theorem II{A:List Nd}(h:∀j,gN (aN A j)<=5):∀n,HP A n<=5 ^ n
 | 0=>by simp[HP]
 | n+1=>by
  have a:=II h n;rw[HP,Nat.pow_succ];exact TE a (h _)
theorem IS{n:Nat}(h:n<=13):4*3 ^ n<=6377292:=by
 have:(3:Nat) ^ n<=3 ^ 13:=Nat.pow_le_pow_right (by omega) h;omega
theorem MG{n:Nat}(h:n<=8):3*5 ^ n<=6377292:=by
 have:(5:Nat) ^ n<=5 ^ 8:=Nat.pow_le_pow_right (by omega) h;omega
theorem OD{A:List Nd}(h:∀x∈A,Fa x)(hl:A.length<=14):3*HP A (A.length-1)<=6377292:=
 Si (HG (A:=A) (i:=0) (fun j _=>Ly h j) (by have:=Ly h 0;omega) _).2 (IS (by omega))
theorem Ps{A:List Nd}{i:Nat}{x y:Nd}(hT:gY A)(hl:A.length<=14)(hx:A[i]? = some x)(hs:Pf x y)(hv:VT (A.set i y)):3*HP (A.set i y) ((A.set i y).length-1)<=6377292:=by
 have hi:=(Rt.1 hx).1;have hy:(A.set i y)[i]? = some y:=by rw[TA];simp[hi]
 have hfx:=A4 hT.valid hx;have hfy:=A4 hv.v0 hy;refine Si (HG (A:=A.set i y) (i:=i) (fun j hj=>?_) ?_ _).2 (IS (by rw[Sx];omega))
 ·have:aN (A.set i y) j=aN A j:=by
   unfold aN;rw[Rn,Rn,TA,Rp (by omega)]
  rw[this];exact Ly hT.gen j
 ·have:aN (A.set i y) i=y:=by
   unfold aN;rw[Rn,hy];rfl
  rw[this];exact RI hfx hfy (hT.gen x (R3 hx)) hs
theorem KJ{A:List Nd}(h:VT A)(hH:3*HP A (A.length-1)<=6377292):∀p f i a0,i<f->i<A.length->(a6 A p f i a0).spans.length<=3200000:=fun p f i a0 hf hi=>by
 have h1:=Ck h p f i a0 hf hi;have h2:=uI A (k:=i) (n:=A.length-1) (by omega);omega
end Go.Ax
