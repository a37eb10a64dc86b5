/- A part of the proof. -/
import Derived.Test.YthempfhilcmfnaaGreatAx11
import Derived.Test.YthempfhilcmfnaaGreatProg
import Derived.KernelRfl
set_option linter.unusedVariables false
set_option linter.unusedSimpArgs false
namespace Go.Proofs.YthempfhilcmfnaaGreat
open Go Go.Ax Go.Proofs Tryz
set_option maxRecDepth 100000
set_option maxHeartbeats 16000000
theorem kS{e sz size bytes len n k:Nat}(h1:Nat.beq sz size=true)(hb:Nat.beq bytes 24=true)(h2:len=n)(h3:len+k<=5864062014805) :
  (Nat.beq e e && (Nat.beq sz size && (Nat.beq len n && (Nat.ble ((len+k)*bytes) 140737488355328 && Nat.ble (len+k) 9223372036854775807))))=true:=by
 have hb:=Rw hb;subst hb;rw[h1,h2,Ru (by omega),Ru (by omega)];simp
theorem nS{bytes k:Nat}(hb:Nat.beq bytes 24=true)(h3:k<=5864062014805):(Nat.ble (k*bytes) 140737488355328 && Nat.ble k 9223372036854775807)=true:=by
 have hb:=Rw hb;subst hb;rw[Ru (by omega),Ru (by omega)];simp
def aZ(l:List (List Int)):List AV:=l.map fun p=>.il 1 (aI p)
theorem bA(l:List (List Int)):(aZ l).length=l.length:=by simp[aZ]
theorem aU(l:List (List Int)):g9 (aZ l):=fun a h=>by
 simp only[aZ,SJ] at h;obtain⟨p,_,rfl⟩:=h;exact .il' (aG p)
theorem pL(l:List (List Int))(k:Nat):(aZ l)[k]? = (l[k]?).map fun p=>AV.il 1 (aI p):=by simp[aZ]
theorem rN{l:List (List Int)}{k:Nat}(h:k<l.length):∃p,p∈l/\l[k]? = some p/\(aZ l)[(k:Int).toNat]? = some (.il 1 (aI p)):=
 ⟨l[k],SI h,Rm h,by rw[Rq,pL,Rm h];rfl⟩
theorem dK{l:List Int}{k:Nat}(h:k<l.length):(aI l)[(k:Int).toNat]? = some (.int .i64 l[k]):=by
 rw[Rq,bG,Rm h];rfl
theorem DZ{a b:List Int}{k:Nat}(h1:k<a.length)(h2:k<b.length):iJ (a.drop k) (b.drop k)=andThen (jZ a[k] b[k]) (iJ (a.drop (k+1)) (b.drop (k+1))):=by
 rw[SH h1,SH h2,iJ]
theorem RO(a b:List Int)(ha:a.length<=4611686018427387904):a8 prog [] 21 [.il 1 (aI a),.il 1 (aI b)] (.int .i64 (iJ a b)):=by
 have na:NN (.il 1 (aI a)):=.il' (aG a);have nb:NN (.il 1 (aI b)):=.il' (aG b);have la:=aE a;have lb:=aE b;refine aL bC func21 rfl ?_;((conv=>whnf);repeat(refine Xg ?_;conv=>whnf));refine a7.at bC (fun k:Nat=>k<=a.length/\k<=b.length/\iJ a b=iJ (a.drop k) (b.drop k))
  (fun k=>⟨[(0,.il 1 (aI a)),(1,.il 1 (aI b)),(9,.il 1 (aI a)),(10,.int .i64 (aI a).length),(11,.int .i64 k)],[],0,36⟩)
  (fun k=>a.length-k) 0 [] ⟨by simp,by simp,by simp⟩
  (bL ⟨⟨_,rfl,.same _ na⟩,⟨_,rfl,.same _ nb⟩,⟨_,rfl,.same _ na⟩,aH,aH,trivial⟩) ?_
 rintro k ⟨h1,h2,h3⟩;have d1:decide ((k:Int)<((aI a).length:Int))=decide (k<a.length):=by rw[la];exact SB.2 (by omega)
 have d2:decide ((k:Int)≥((aI b).length:Int))=decide (k≥b.length):=by rw[lb];exact SB.2 (by omega)
 by_cases hk:k<a.length
 ·by_cases hb:k≥b.length
  ·((conv=>whnf);repeat(refine Xg ?_;conv=>whnf));rw[d1,Rs hk];((conv=>whnf);repeat(refine Xg ?_;conv=>whnf));repeat((first|refine aC (dK hk) ?_|refine aB.2 ?_|refine aD ?_);(conv=>whnf);repeat(refine Xg ?_;conv=>whnf))
   rw[d2,Rs hb];((conv=>whnf);repeat(refine Xg ?_;conv=>whnf));refine aA nn ⟨?_,rfl,rfl⟩;rw[h3,Sg (l:=b) (by omega),SH hk,iJ]
  ·have hb:k<b.length:=by omega
   have hc:=Dv a[k] b[k];have hs:=DZ hk hb;generalize hce:jZ a[k] b[k]=c at *;((conv=>whnf);repeat(refine Xg ?_;conv=>whnf));rw[d1,Rs hk];((conv=>whnf);repeat(refine Xg ?_;conv=>whnf));repeat((first|refine aC (dK hk) ?_|refine aB.2 ?_|refine aD ?_);(conv=>whnf);repeat(refine Xg ?_;conv=>whnf))
   rw[d2,R4 (by omega)];((conv=>whnf);repeat(refine Xg ?_;conv=>whnf));repeat((first|refine aC (dK hb) ?_|refine aB.2 ?_|refine aD ?_);(conv=>whnf);repeat(refine Xg ?_;conv=>whnf))
   refine hc.go ?_;((conv=>whnf);repeat(refine Xg ?_;conv=>whnf));refine aO (fun h=>?_) (fun h=>?_)
   ·have h:c≠0:=by simpa using h
    ((conv=>whnf);repeat(refine Xg ?_;conv=>whnf));refine aA nn ⟨?_,rfl,rfl⟩;rw[h3,hs,andThen,Rp h]
   ·have h:c=0:=by simpa using h
    ((conv=>whnf);repeat(refine Xg ?_;conv=>whnf));exact .mk (k+1) [] ⟨by omega,by omega,by rw[h3,hs,andThen,Rx h]⟩ (bL ⟨⟨_,rfl,.same _ na⟩,⟨_,rfl,.same _ nb⟩,⟨_,rfl,.same _ na⟩,aH,⟨_,rfl,.wo⟩,trivial⟩) (by omega)
 ·have hd:a.drop k=[]:=Sg (by omega);((conv=>whnf);repeat(refine Xg ?_;conv=>whnf));rw[d1,R4 hk];((conv=>whnf);repeat(refine Xg ?_;conv=>whnf));refine aO (fun h=>?_) (fun h=>?_)
  ·have h:a.length<b.length:=by rw[la,lb] at h;simpa using h
   ((conv=>whnf);repeat(refine Xg ?_;conv=>whnf));refine aA nn ⟨?_,rfl,rfl⟩;rw[h3,hd,SH (show k<b.length by omega),iJ]
  ·have h:¬a.length<b.length:=by rw[la,lb] at h;simpa using h
   ((conv=>whnf);repeat(refine Xg ?_;conv=>whnf));refine aA nn ⟨?_,rfl,rfl⟩;rw[h3,hd,Sg (by omega),iJ]
theorem Rk(x y:Int):a8 prog [] 19 [.il 1 [.int .i64 x,.int .i64 y]] (.int .i64 (andThen x y)):=by
 have nl:NN (.il 1 [.int .i64 x,.int .i64 y]):=.il' (.cons nn (.cons nn .nil));refine aL bC func19 rfl ?_;((conv=>whnf);repeat(refine Xg ?_;conv=>whnf));refine a7.at bC (fun k:Nat=>k<=2/\(0<k->x=0)/\(1<k->y=0))
  (fun k=>⟨[(3,.int .i64 0),(6,.il 1 [.int .i64 x,.int .i64 y]),(7,.int .i64 2),(8,.int .i64 k)],[],0,18⟩)
  (fun k=>2-k) 0 [] ⟨by omega,by omega,by omega⟩
  (bL ⟨aH,⟨_,rfl,.same _ nl⟩,aH,aH,trivial⟩) ?_
 rintro k ⟨h1,h2,h3⟩
 match k,h1,h2,h3 with
 | 0,h1,h2,h3=>
  ((conv=>whnf);repeat(refine Xg ?_;conv=>whnf));refine aO (fun h=>?_) (fun h=>?_)
  ·have h:x≠0:=by simpa using h
   ((conv=>whnf);repeat(refine Xg ?_;conv=>whnf));refine aA nn ⟨?_,rfl,rfl⟩;rw[andThen,Rp h]
  ·have h:x=0:=by simpa using h
   ((conv=>whnf);repeat(refine Xg ?_;conv=>whnf));exact .mk 1 [] ⟨by omega,fun _=>h,by omega⟩ (bL ⟨aH,⟨_,rfl,.same _ nl⟩,aH,⟨_,rfl,.w64 rfl ⟨by omega,by omega⟩⟩,trivial⟩) (by omega)
 | 1,h1,h2,h3=>
  ((conv=>whnf);repeat(refine Xg ?_;conv=>whnf));refine aO (fun h=>?_) (fun h=>?_)
  ·have h:y≠0:=by simpa using h
   ((conv=>whnf);repeat(refine Xg ?_;conv=>whnf));refine aA nn ⟨?_,rfl,rfl⟩;rw[andThen,Rx (h2 (by omega))]
  ·have h:y=0:=by simpa using h
   ((conv=>whnf);repeat(refine Xg ?_;conv=>whnf));exact .mk 2 [] ⟨by omega,fun _=>h2 (by omega),fun _=>h⟩ (bL ⟨aH,⟨_,rfl,.same _ nl⟩,aH,⟨_,rfl,.w64 rfl ⟨by omega,by omega⟩⟩,trivial⟩) (by omega)
 | 2,h1,h2,h3=>
  ((conv=>whnf);repeat(refine Xg ?_;conv=>whnf));refine aA nn ⟨?_,rfl,rfl⟩;rw[andThen,Rx (h2 (by omega)),h3 (by omega)]
theorem Qh(a b:List Int)(ha:a.length<=4611686018427387904):a8 prog [] 11 [.il 1 (aI a),.il 1 (aI b)] (.int .i64 (dE a b)):=by
 have na:NN (.il 1 (aI a)):=.il' (aG a);have nb:NN (.il 1 (aI b)):=.il' (aG b);have hc:=Dv ((aI a).length:Int) ((aI b).length:Int);have hs:=RO a b ha;have ho:=Rk (jZ ((aI a).length:Int) ((aI b).length:Int)) (iJ a b);have he:dE a b=andThen (jZ ((aI a).length:Int) ((aI b).length:Int)) (iJ a b):=by rw[aE,aE];rfl
 rw[he];generalize jZ ((aI a).length:Int) ((aI b).length:Int)=x at *;generalize iJ a b=y at *;generalize andThen x y=z at *;refine aL bC func11 rfl ?_;((conv=>whnf);repeat(refine Xg ?_;conv=>whnf));refine hc.go ?_;((conv=>whnf);repeat(refine Xg ?_;conv=>whnf));refine hs.go ?_ (.cons na (.cons nb .nil)) nn;((conv=>whnf);repeat(refine Xg ?_;conv=>whnf));refine aM.pre bC [] (mem':=[]) rfl trivial (.cons (.fz' (id:=0) (off:=0) (len:=2) (ys:=[.int .i64 x,.int .i64 y]) rfl rfl (by simp) rfl (.cons nn (.cons nn .nil))) .nil) ?_;refine ho.go ?_ (.cons (.il' (.cons nn (.cons nn .nil))) .nil) nn;((conv=>whnf);repeat(refine Xg ?_;conv=>whnf));exact aA nn ⟨rfl,rfl,rfl⟩
theorem P8(a b:List Int)(ha:a.length<=4611686018427387904):a8 prog [] 12 [.il 1 (aI a),.il 1 (aI b)] (.int .i64 (dE a b)):=by
 have na:NN (.il 1 (aI a)):=.il' (aG a);have nb:NN (.il 1 (aI b)):=.il' (aG b);have la:=aE a;have lb:=aE b;refine aL bC func12 rfl ?_;((conv=>whnf);repeat(refine Xg ?_;conv=>whnf));refine aO (fun h=>?_) (fun h=>?_)
 ·have h:a.length<b.length:=by rw[la,lb] at h;simpa using h
  ((conv=>whnf);repeat(refine Xg ?_;conv=>whnf));refine aA nn ⟨?_,rfl,rfl⟩;rw[dE,jZ,Rx (by omega)];rfl
 have h1:¬a.length<b.length:=by rw[la,lb] at h;simpa using h
 ((conv=>whnf);repeat(refine Xg ?_;conv=>whnf));refine aO (fun h=>?_) (fun h=>?_)
 ·have h:b.length<a.length:=by rw[la,lb] at h;simpa using h
  ((conv=>whnf);repeat(refine Xg ?_;conv=>whnf));refine aA nn ⟨?_,rfl,rfl⟩;rw[dE,jZ,Rp (by omega),Rx (by omega)];rfl
 have h2:¬b.length<a.length:=by rw[la,lb] at h;simpa using h
 have hab:a.length=b.length:=by omega
 have he:dE a b=iJ a b:=by rw[dE,jZ,Rp (by omega),Rp (by omega),andThen,Rx rfl]
 rw[he];((conv=>whnf);repeat(refine Xg ?_;conv=>whnf));refine a7.at bC (fun k:Nat=>k<=a.length/\iJ a b=iJ (a.drop k) (b.drop k))
  (fun k=>⟨[(0,.il 1 (aI a)),(1,.il 1 (aI b)),(5,.int .i64 k)],[],0,40⟩)
  (fun k=>a.length-k) 0 [] ⟨by simp,by simp⟩
  (bL ⟨⟨_,rfl,.same _ na⟩,⟨_,rfl,.same _ nb⟩,aH,trivial⟩) ?_
 rintro k ⟨k1,k3⟩;have d1:decide ((k:Int)<((aI a).length:Int))=decide (k<a.length):=by rw[la];exact SB.2 (by omega)
 by_cases hk:k<a.length
 ·have hb:k<b.length:=by omega
  have hs:=DZ hk hb;have ea:=dK hk;have eb:=dK hb;generalize a[k]=x at *;generalize b[k]=y at *;((conv=>whnf);repeat(refine Xg ?_;conv=>whnf));rw[d1,Rs hk];((conv=>whnf);repeat(refine Xg ?_;conv=>whnf));repeat((first|refine aC ea ?_|refine aC eb ?_|refine aB.2 ?_|refine aD ?_);(conv=>whnf);repeat(refine Xg ?_;conv=>whnf))
  refine aO (fun h=>?_) (fun h=>?_)
  ·have h:x<y:=by simpa using h
   ((conv=>whnf);repeat(refine Xg ?_;conv=>whnf));refine aA nn ⟨?_,rfl,rfl⟩;rw[k3,hs,jZ,Rx h];rfl
  have g1:¬x<y:=by simpa using h
  ((conv=>whnf);repeat(refine Xg ?_;conv=>whnf));repeat((first|refine aC ea ?_|refine aC eb ?_|refine aB.2 ?_|refine aD ?_);(conv=>whnf);repeat(refine Xg ?_;conv=>whnf))
  refine aO (fun h=>?_) (fun h=>?_)
  ·have h:y<x:=by simpa using h
   ((conv=>whnf);repeat(refine Xg ?_;conv=>whnf));refine aA nn ⟨?_,rfl,rfl⟩;rw[k3,hs,jZ,Rp g1,Rx h];rfl
  have g2:¬y<x:=by simpa using h
  ((conv=>whnf);repeat(refine Xg ?_;conv=>whnf));exact .mk (k+1) [] ⟨by omega,by rw[k3,hs,jZ,Rp g1,Rp g2];rfl⟩ (bL ⟨⟨_,rfl,.same _ na⟩,⟨_,rfl,.same _ nb⟩,⟨_,rfl,.wo⟩,trivial⟩) (by omega)
 ·((conv=>whnf);repeat(refine Xg ?_;conv=>whnf));rw[d1,R4 hk];((conv=>whnf);repeat(refine Xg ?_;conv=>whnf));refine aA nn ⟨?_,rfl,rfl⟩;rw[k3,Sg (l:=a) (by omega),Sg (l:=b) (by omega),iJ]
set_option maxHeartbeats 16000000
theorem dT{mem:aS}{id len:Nat}{t:TypeId}{sz:Nat}{xs ys:List AV}(h1:lk mem id=some (.row t sz xs))(e:len=xs.length)(h:xs=ys)(h5:g9 ys):Cv mem [] (.sl id 0 len) (.il sz ys):=by
 subst h e;exact .fz' (id:=id) h1 rfl (by omega) (by rw[SS];exact SA (by omega)) h5
def oZ(l:List (List Int)):Prop:=∀p∈l,p.length<=17592186043904
theorem RR(l:List (List Int))(x:List Int)(hl:l.length<=5120030000001)(hs:oZ l):a8 prog [] 26 [.il 1 (aZ l),.il 1 (aI x)] (.il 1 (aZ (pB l x))):=by
 have nl:NN (.il 1 (aZ l)):=.il' (aU l);have nx:NN (.il 1 (aI x)):=.il' (aG x);have ll:=bA l;refine aL bC func26 rfl ?_;((conv=>whnf);repeat(refine Xg ?_;conv=>whnf));refine a7.at bC (fun k:Nat=>k<=l.length/\∀p a,p<k->l[p]? = some a->dE a x<0)
  (fun k=>⟨[(0,.il 1 (aZ l)),(1,.il 1 (aI x)),(5,.int .i64 k)],[],0,50⟩)
  (fun k=>l.length-k) 0 [] ⟨by omega,by omega⟩
  (bL ⟨⟨_,rfl,.same _ nl⟩,⟨_,rfl,.same _ nx⟩,aH,trivial⟩) ?_
 rintro k ⟨k1,k2⟩;have d1:decide ((k:Int)<((aZ l).length:Int))=decide (k<l.length):=by rw[ll];exact SB.2 (by omega)
 by_cases hk:k<l.length
 ·obtain⟨p,pm,pg,pe⟩:=rN hk;have hc:=P8 p x (by have:=hs p pm;omega);have hf0:∀(h:0<=dE p x),lJ l x=(k,uN l k x):=fun h=>Bl (by omega) k2 (fun a ha=>by rw[pg] at ha;cases ha;exact h)
  have hat:uN l k x=(dE p x == 0):=by unfold uN;rw[pg]
  have hk2:dE p x<0->∀q a,q<k+1->l[q]? = some a->dE a x<0:=fun h q a hq ha=>by
   rcases R9 q k with e|e
   ·exact k2 q a e ha
   ·have:q=k:=by omega
    subst this;rw[pg] at ha;cases ha;exact h
  rw[hat] at hf0;clear hat;generalize dE p x=c at *;((conv=>whnf);repeat(refine Xg ?_;conv=>whnf));rw[d1,Rs hk];((conv=>whnf);repeat(refine Xg ?_;conv=>whnf));repeat((first|refine aC pe ?_|refine aB.2 ?_|refine aD ?_);(conv=>whnf);repeat(refine Xg ?_;conv=>whnf))
  refine hc.go ?_ (.cons (.il' (aG p)) (.cons nx .nil)) nn;((conv=>whnf);repeat(refine Xg ?_;conv=>whnf));refine aO (fun h=>?_) (fun h=>?_)
  ·have h:c<0:=by simpa using h
   ((conv=>whnf);repeat(refine Xg ?_;conv=>whnf));exact .mk (k+1) [] ⟨by omega,hk2 h⟩ (bL ⟨⟨_,rfl,.same _ nl⟩,⟨_,rfl,.same _ nx⟩,⟨_,rfl,.wo⟩,trivial⟩) (by omega)
  have h:0<=c:=by simpa using h
  have hf:=hf0 h;((conv=>whnf);repeat(refine Xg ?_;conv=>whnf));rw[d1,Rs hk];((conv=>whnf);repeat(refine Xg ?_;conv=>whnf));repeat((first|refine aC pe ?_|refine aB.2 ?_|refine aD ?_);(conv=>whnf);repeat(refine Xg ?_;conv=>whnf))
  refine hc.go ?_ (.cons (.il' (aG p)) (.cons nx .nil)) nn;((conv=>whnf);repeat(refine Xg ?_;conv=>whnf));refine aO (fun h'=>?_) (fun h'=>?_)
  ·have h':c=0:=by simpa using h'
   have he:pB l x=l:=by unfold pB;rw[hf,h'];rfl
   rw[he];((conv=>whnf);repeat(refine Xg ?_;conv=>whnf));exact aA nl ⟨rfl,rfl,rfl⟩
  have h':c≠0:=by simpa using h'
  have hb:(c == 0)=false:=by simpa using h'
  have he:pB l x=l.take k++x::l.drop k:=by unfold pB;rw[hf,hb];rfl
  rw[he];((conv=>whnf);repeat(refine Xg ?_;conv=>whnf));repeat(first
   | (refine aD ?_;(conv=>whnf);repeat(refine Xg ?_;conv=>whnf))
   | (refine aK (i8 (by simp;try omega) (by simp;try omega) (by simp;try omega)) ?_;(conv=>whnf);repeat(refine Xg ?_;conv=>whnf))
   | (refine aK (Ap (by simp;try omega)) ?_;(conv=>whnf);repeat(refine Xg ?_;conv=>whnf))
   | (refine aK (nS rfl (by simp;try omega)) ?_;(conv=>whnf);repeat(refine Xg ?_;conv=>whnf))
   | (refine aK (kS rfl rfl (by simp;try omega) (by simp;try omega)) ?_;(conv=>whnf);repeat(refine Xg ?_;conv=>whnf)))
  have hrow:List.take ((k:Int).toNat-0) (List.drop 0 (aZ l))++List.take 1 (List.drop 0 [AV.il 1 (aI x)])++List.take ((aZ l).length-(k:Int).toNat) (List.drop (k:Int).toNat (aZ l))=aZ (l.take k++x::l.drop k):=by
   simp only[Rq,SS,UZ,aZ,Te,Su,T8,US];rw[SA (i:=(List.map (fun p=>AV.il 1 (aI p)) l).length-k) (by simp)];simp
  exact bF (dT (id:=3) rfl (by simp only[Ro]) hrow (aU _)) ⟨rfl,rfl,rfl⟩
 ·((conv=>whnf);repeat(refine Xg ?_;conv=>whnf));rw[d1,R4 hk];((conv=>whnf);repeat(refine Xg ?_;conv=>whnf));rw[d1,R4 hk];have hk0:k=l.length:=by omega
  have hf:lJ l x=(k,uN l k x):=Bl (by omega) k2 (fun a ha=>by rw[R8 (by omega)] at ha;cases ha);have hat:uN l k x=false:=by unfold uN;rw[R8 (by omega)]
  have he:pB l x=l.take k++x::l.drop k:=by unfold pB;rw[hf,hat];rfl
  rw[he];((conv=>whnf);repeat(refine Xg ?_;conv=>whnf));repeat(first
   | (refine aD ?_;(conv=>whnf);repeat(refine Xg ?_;conv=>whnf))
   | (refine aK (i8 (by simp;try omega) (by simp;try omega) (by simp;try omega)) ?_;(conv=>whnf);repeat(refine Xg ?_;conv=>whnf))
   | (refine aK (Ap (by simp;try omega)) ?_;(conv=>whnf);repeat(refine Xg ?_;conv=>whnf))
   | (refine aK (nS rfl (by simp;try omega)) ?_;(conv=>whnf);repeat(refine Xg ?_;conv=>whnf))
   | (refine aK (kS rfl rfl (by simp;try omega) (by simp;try omega)) ?_;(conv=>whnf);repeat(refine Xg ?_;conv=>whnf)))
  have hrow:List.take ((k:Int).toNat-0) (List.drop 0 (aZ l))++List.take 1 (List.drop 0 [AV.il 1 (aI x)])++List.take ((aZ l).length-(k:Int).toNat) (List.drop (k:Int).toNat (aZ l))=aZ (l.take k++x::l.drop k):=by
   simp only[Rq,SS,UZ,aZ,Te,Su,T8,US];rw[SA (i:=(List.map (fun p=>AV.il 1 (aI p)) l).length-k) (by simp)];simp
  exact bF (dT (id:=3) rfl (by simp only[Ro]) hrow (aU _)) ⟨rfl,rfl,rfl⟩
theorem PY(l:List Int)(hl:l.length<=4611686018427387904):a8 prog [] 22 [.il 1 (aI l),.il 1 (aI l)] (.bool true):=by
 have nl:NN (.il 1 (aI l)):=.il' (aG l);have ll:=aE l;refine aL bC func22 rfl ?_;((conv=>whnf);repeat(refine Xg ?_;conv=>whnf));rw[bne_self_eq_false];((conv=>whnf);repeat(refine Xg ?_;conv=>whnf));refine a7.at bC (fun k:Nat=>k<=l.length) (fun k=>⟨[(0,.il 1 (aI l)),(1,.il 1 (aI l)),(5,.int .i64 k)],[],0,26⟩) (fun k=>l.length-k) 0 [] (by omega)
  (bL ⟨⟨_,rfl,.same _ nl⟩,⟨_,rfl,.same _ nl⟩,aH,trivial⟩) ?_
 intro k hk;have d1:decide ((k:Int)<((aI l).length:Int))=decide (k<l.length):=by rw[ll];exact SB.2 (by omega)
 by_cases hlt:k<l.length
 ·have ev:=dK hlt;generalize l[k]=x at *;((conv=>whnf);repeat(refine Xg ?_;conv=>whnf));rw[d1,Rs hlt];((conv=>whnf);repeat(refine Xg ?_;conv=>whnf));repeat((first|refine aC ev ?_|refine aB.2 ?_|refine aD ?_);(conv=>whnf);repeat(refine Xg ?_;conv=>whnf))
  rw[bne_self_eq_false];((conv=>whnf);repeat(refine Xg ?_;conv=>whnf));exact .mk (k+1) [] (by omega) (bL ⟨⟨_,rfl,.same _ nl⟩,⟨_,rfl,.same _ nl⟩,⟨_,rfl,.wo⟩,trivial⟩) (by omega)
 ·((conv=>whnf);repeat(refine Xg ?_;conv=>whnf));rw[d1,R4 hlt];((conv=>whnf);repeat(refine Xg ?_;conv=>whnf));exact aA nn ⟨rfl,rfl,rfl⟩
theorem rX(l:List (List Int))(hl:l.length<=5120030000001)(hs:oZ l):a8 prog [] 13 [.il 1 (aZ l),.il 1 (aZ l)] (.bool true):=by
 have nl:NN (.il 1 (aZ l)):=.il' (aU l);have ll:=bA l;refine aL bC func13 rfl ?_;((conv=>whnf);repeat(refine Xg ?_;conv=>whnf));rw[bne_self_eq_false];((conv=>whnf);repeat(refine Xg ?_;conv=>whnf));refine a7.at bC (fun k:Nat=>k<=l.length) (fun k=>⟨[(0,.il 1 (aZ l)),(1,.il 1 (aZ l)),(5,.int .i64 k)],[],0,29⟩) (fun k=>l.length-k) 0 [] (by omega)
  (bL ⟨⟨_,rfl,.same _ nl⟩,⟨_,rfl,.same _ nl⟩,aH,trivial⟩) ?_
 intro k hk;have d1:decide ((k:Int)<((aZ l).length:Int))=decide (k<l.length):=by rw[ll];exact SB.2 (by omega)
 by_cases hlt:k<l.length
 ·obtain⟨p,pm,pg,pe⟩:=rN hlt;have hc:=PY p (by have:=hs p pm;omega);((conv=>whnf);repeat(refine Xg ?_;conv=>whnf));rw[d1,Rs hlt];((conv=>whnf);repeat(refine Xg ?_;conv=>whnf));repeat((first|refine aC pe ?_|refine aB.2 ?_|refine aD ?_);(conv=>whnf);repeat(refine Xg ?_;conv=>whnf))
  refine hc.go ?_ (.cons (.il' (aG p)) (.cons (.il' (aG p)) .nil)) nn;((conv=>whnf);repeat(refine Xg ?_;conv=>whnf));exact .mk (k+1) [] (by omega) (bL ⟨⟨_,rfl,.same _ nl⟩,⟨_,rfl,.same _ nl⟩,⟨_,rfl,.wo⟩,trivial⟩) (by omega)
 ·((conv=>whnf);repeat(refine Xg ?_;conv=>whnf));rw[d1,R4 hlt];((conv=>whnf);repeat(refine Xg ?_;conv=>whnf));exact aA nn ⟨rfl,rfl,rfl⟩
set_option maxHeartbeats 16000000
def RK(A:List Nd):AV:=.agg [.ip (.agg [.il 12 (aR A)]),.il 1 (aI (aX A)),.il 4 (aT (cS A))]
def wk(A:List Nd):AV:=.ip (RK A)
theorem O0(A:List Nd):NN (RK A):=.agg' (.cons (.ip' (.agg' (.cons (.il' (aQ A)) .nil))) (.cons (.il' (aG _)) (.cons (.il' (aV _)) .nil)))
theorem eM(A:List Nd):NN (wk A):=.ip' (O0 A)
theorem Ih{A:List Nd}{i:Nat}(hi:i<A.length):(aI (aX A))[((i:Nat):Int).toNat]? = some (.int .i64 (Go.Ax.d7 (aX A) i)):=by
 have h:i<(aX A).length:=by rw[eY];exact hi
 rw[Rq,bG,Rm h];unfold Go.Ax.d7;rw[Rq,Rn,Rm h];rfl
theorem IU{A:List Nd}{i:Nat}(hi:i<A.length):(aT (cS A))[((i:Nat):Int).toNat]? = some (bT (CX (cS A) i)):=by
 have h:i<(cS A).length:=by rw[iV];exact hi
 rw[Rq,i6,Rm h];unfold CX;rw[Rn,Rm h];rfl
theorem mL{A:List Nd}{i:Nat}(hi:i<A.length):(aR A)[((i:Nat):Int).toNat]? = some (bU (aN A i)):=by
 rw[Rq,nJ,dS hi];rfl
theorem FC{A:List Nd}{i:Nat}(hi:i<A.length):a8 prog [] 130 [wk A,.int .i64 i] (.int .i64 (Go.Ax.d7 (aX A) i)):=by
 have e:=Ih hi;refine aL bC func130 rfl ?_;((conv=>whnf);repeat(refine Xg ?_;conv=>whnf));refine aC e ?_;((conv=>whnf);repeat(refine Xg ?_;conv=>whnf));exact aA nn ⟨rfl,rfl,rfl⟩
theorem PM{A:List Nd}{i:Nat}(hi:i<A.length):a8 prog [] 131 [wk A,.int .i64 i] (bT (CX (cS A) i)):=by
 have e:=IU hi;generalize CX (cS A) i=v at *;obtain⟨v1,v2,v3,v4⟩:=v;refine aL bC func131 rfl ?_;((conv=>whnf);repeat(refine Xg ?_;conv=>whnf));refine aC e ?_;((conv=>whnf);repeat(refine Xg ?_;conv=>whnf));exact aA nn ⟨rfl,rfl,rfl⟩
theorem Qz{A:List Nd}(hp:0<A.length)(hl:A.length<=100000):a8 prog [] 61 [wk A] (.int .i64 ((A.length-1:Nat):Int)):=by
 have hw:IntKind.i64.wrap (((aR A).length:Int)-1)=((A.length-1:Nat):Int):=by rw[bD,bY ⟨by omega,by omega⟩];omega
 refine aL bC func61 rfl ?_;((conv=>whnf);repeat(refine Xg ?_;conv=>whnf));exact bF (.int hw) ⟨rfl,rfl,rfl⟩
theorem F3(x:Nd)(h:x.kind=1->dW x=true):a8 prog [] 91 [.ip (bU x)] (.int .i64 (fM x)):=by
 have hr:x.kind=1->x.lo<=x.hi/\x.hi<x.lo+1099511627776:=fun e=>⟨(cA (h e)).1,(cA (h e)).2.2.2⟩
 have ho:fM x=if x.kind=1 then x.hi-x.lo+1 else x.kids.length:=rfl
 clear h;obtain⟨kind,name,lo,hi,ws,ls,vals,kids,⟨vk,vn,vs,vks⟩⟩:=x;simp only at hr ho;generalize fM ⟨kind,name,lo,hi,ws,ls,vals,kids,.mk vk vn vs vks⟩=o at *;refine aL bC func91 rfl ?_;((conv=>whnf);repeat(refine Xg ?_;conv=>whnf));refine aO (fun h=>?_) (fun h=>?_)
 ·have h1:kind=1:=by simpa using h
  obtain⟨r1,r2⟩:=hr h1;rw[Rx h1] at ho;have hw:IntKind.i64.wrap (hi-lo)=hi-lo:=bY ⟨by omega,by omega⟩;have hw2:IntKind.i64.wrap (hi-lo+1)=o:=by rw[bY ⟨by omega,by omega⟩,ho]
  ((conv=>whnf);repeat(refine Xg ?_;conv=>whnf));repeat(refine aD ?_;(conv=>whnf);repeat(refine Xg ?_;conv=>whnf))
  rw[hw,hw2];exact aA nn ⟨rfl,rfl,rfl⟩
 ·have h1:¬kind=1:=by simpa using h
  rw[Rp h1] at ho;((conv=>whnf);repeat(refine Xg ?_;conv=>whnf));exact bF (.int (by rw[ho,aE])) ⟨rfl,rfl,rfl⟩
theorem N5(x:Nd)(v:bB)(hl:x.values.length<=4294967296)(hok:∀a∈x.values,iA a)(hs:lN x.values):a8 prog [] 112 [.ip (bU x),bT v] (.int .i64 (((Go.Ax.d9 x.values v).1+1:Nat):Int)):=by
 have hf:=QO x.values v hl hok hs;have hle:=xC x.values v;obtain⟨kind,name,lo,hi,ws,ls,vals,kids,⟨vk,vn,vs,vks⟩⟩:=x;simp only at hf hle hl ⊢;generalize (Go.Ax.d9 vals v).1=k at *;generalize (Go.Ax.d9 vals v).2=b at *;obtain⟨v1,v2,v3,v4⟩:=v;refine aL bC func112 rfl ?_;((conv=>whnf);repeat(refine Xg ?_;conv=>whnf));refine hf.go ?_;((conv=>whnf);repeat(refine Xg ?_;conv=>whnf));repeat(refine aD ?_;(conv=>whnf);repeat(refine Xg ?_;conv=>whnf))
 exact bF (.wo) ⟨rfl,rfl,rfl⟩
set_option maxHeartbeats 4000000
theorem LF:∀v:bB,bH v<=1099511627776->a8 prog [] 96 [bT v] (.int .i64 (bH v))
 | .mk vk vn vs ks,hs=>by
  have hs':cQ ks+1<=1099511627776:=by simp only[bH] at hs;omega
  have ih:∀a∈ks,a8 prog [] 96 [bT a] (.int .i64 (bH a)):=fun a hm=>LF a (by have:=JS hm;omega)
  have hl:=zE ks;refine aL bC func96 rfl ?_;((conv=>whnf);repeat(refine Xg ?_;conv=>whnf));refine a7.at bC (fun k:Nat=>k<=ks.length)
   (fun k=>⟨[(1,.ptr 0 0 0),(3,.int .i64 (1+cQ (ks.take k):Nat)),(4,.int .i64 k)],[(0,.row 60 4 [bT (.mk vk vn vs ks)])],1,21⟩)
   (fun k=>ks.length-k) 0 [(0,0)] (by simp)
   (aJ _ rfl ⟨⟨0,_,rfl,rfl,.same dD⟩,trivial⟩ ⟨⟨_,rfl,.ptr 0 0 0 0 rfl⟩,aH,aH,trivial⟩) ?_
  intro k hk;((conv=>whnf);repeat(refine Xg ?_;conv=>whnf));refine aO (fun h=>?_) (fun h=>?_)
  ·have hlt:=FU h;obtain⟨a,b,c,d,hm,hg,he,e1⟩:=cL hlt;have hsz:=vO hlt;have hle:=o0 ks (k+1);rw[he] at hsz;((conv=>whnf);repeat(refine Xg ?_;conv=>whnf));refine aC e1 ?_;((conv=>whnf);repeat(refine Xg ?_;conv=>whnf));refine(ih _ hm).go ?_;((conv=>whnf);repeat(refine Xg ?_;conv=>whnf));exact .mk (k+1) [(0,0)] (by omega) (aJ _ rfl ⟨⟨0,_,rfl,rfl,.same dD⟩,trivial⟩ ⟨⟨_,rfl,.ptr 0 0 0 0 rfl⟩,⟨_,rfl,.wo⟩,⟨_,rfl,.wo⟩,trivial⟩) (by omega)
  ·have hk':k=ks.length:=by have:=Eu h;omega
   ((conv=>whnf);repeat(refine Xg ?_;conv=>whnf));refine aA nn ⟨?_,rfl,rfl⟩;rw[hk',SD,bH]
 termination_by v=>SizeOf.sizeOf v
 decreasing_by simp;have:=TL hm;omega
theorem M0(c:Int):a8 prog [] 158 [.int .u8 c] (.bool (uM c)):=by
 refine aL bC func158 rfl ?_;((conv=>whnf);repeat(refine Xg ?_;conv=>whnf));repeat' (refine aO (fun h=>?_) (fun h=>?_)<;>((try rw[h]);(conv=>whnf);repeat(refine Xg ?_;conv=>whnf)))
 all_goals
  refine aA nn ⟨?_,rfl,rfl⟩;congr 1;rw[Sj];simp[uM] at *;try omega
theorem J2(s:List UInt8)(hs:s.length<=4294967296):a8 prog [] 135 [.str s] (.bool (fA s)):=by
  refine aL bC func135 rfl ?_;((conv=>whnf);repeat(refine Xg ?_;conv=>whnf));refine aO (fun h=>?_) (fun h=>?_)
  · rw[h]
    ((conv=>whnf);repeat(refine Xg ?_;conv=>whnf));refine aA nn ⟨?_,rfl,rfl⟩;rw[sR (by simp at h;omega)]
  have h1:1<=s.length:=by simp at h;omega
  rw[h];((conv=>whnf);repeat(refine Xg ?_;conv=>whnf));refine aO (fun h=>?_) (fun h=>?_)
  · rw[h]
    ((conv=>whnf);repeat(refine Xg ?_;conv=>whnf));refine aA nn ⟨?_,rfl,rfl⟩;rw[qN (by simp at h;omega)]
  have h2:s.length<=16:=by simp at h;omega
  rw[h];obtain⟨a,ha⟩:∃a,s[0]? = some a:=⟨s[0],by simp⟩
  ((conv=>whnf);repeat(refine Xg ?_;conv=>whnf));refine aC ha ?_;((conv=>whnf);repeat(refine Xg ?_;conv=>whnf));refine aO (fun h=>?_) (fun h=>?_)
  · rw[h]
    ((conv=>whnf);repeat(refine Xg ?_;conv=>whnf));refine aA nn ⟨?_,rfl,rfl⟩;rw[jU ha (by simp[mX] at *;omega)]
  have h3:65<=(a.toNat:Int):=by simpa using h
  rw[h];((conv=>whnf);repeat(refine Xg ?_;conv=>whnf));refine aC ha ?_;((conv=>whnf);repeat(refine Xg ?_;conv=>whnf));refine aO (fun h=>?_) (fun h=>?_)
  · ((conv=>whnf);repeat(refine Xg ?_;conv=>whnf))
    refine aA nn ⟨?_,rfl,rfl⟩;rw[jU ha (by simp[mX] at *;omega)]
  have h4:(a.toNat:Int)<=90:=by simpa using h
  ((conv=>whnf);repeat(refine Xg ?_;conv=>whnf));refine a7.at bC (fun i:Nat=>i<=s.length/\∀j c,j<i->s[j]? = some c->uM c.toNat=true)
    (fun i=>⟨[(0,.str s),(3,.int .i64 i)],[],0,64⟩) (fun i=>s.length-i) 0 [] ⟨by simp,by simp⟩
    (bL ⟨aH,aH,trivial⟩) ?_
  rintro i ⟨hi,hall⟩;((conv=>whnf);repeat(refine Xg ?_;conv=>whnf));refine aO (fun h=>?_) (fun h=>?_)
  · have hlt:i<s.length:=by simpa using h
    obtain⟨c,hc⟩:∃c,s[i]? = some c:=⟨s[i],by simp[hlt]⟩
    have hc':s[(i:Int).toNat]? = some c:=by rw[Rq];exact hc
    ((conv=>whnf);repeat(refine Xg ?_;conv=>whnf));refine aC hc' ?_;((conv=>whnf);repeat(refine Xg ?_;conv=>whnf));repeat' (refine aO (fun h=>?_) (fun h=>?_)<;>((try rw[h]);(conv=>whnf);repeat(refine Xg ?_;conv=>whnf)))
    all_goals first
      | (refine aA nn ⟨?_,rfl,rfl⟩
         rw[vI hc (by rw[TS];simp[uM] at *;omega)])
      | (refine .mk (i+1) [] ⟨by omega,fun j c2 hj hc2=>?_⟩ (bL ⟨aH,⟨_,rfl,.wo⟩,trivial⟩) (by omega)
         rcases R9 j i with hj'|hj'
         · exact hall j c2 hj' hc2
         · have hji:j=i:=by omega
           rw[hji,hc] at hc2;cases hc2;simp[uM] at *;omega)
  · ((conv=>whnf);repeat(refine Xg ?_;conv=>whnf))
    refine aA nn ⟨?_,rfl,rfl⟩;have hk:i=s.length:=by simp at h;omega
    rw[vH ha h2 (by simp[mX];omega) fun j c hc=>hall j c (by rw[hk];exact(Rt.1 hc).1) hc]
theorem KE(s:List UInt8)(hs:s.length<=4294967296):a8 prog [] 155 [.str s] (.bool (fA s)):=by
 refine aL bC func155 rfl ?_;((conv=>whnf);repeat(refine Xg ?_;conv=>whnf));refine aO (fun h=>?_) (fun h=>?_)
 ·rw[h];((conv=>whnf);repeat(refine Xg ?_;conv=>whnf));refine aA nn ⟨?_,rfl,rfl⟩;rw[sR (by simp at h;rw[h];simp)]
 have h1:1<=s.length:=by
  rcases SN s.length with h'|h'
  ·rw[R6 h'] at h;simp at h
  ·exact h'
 rw[h];((conv=>whnf);repeat(refine Xg ?_;conv=>whnf));refine aO (fun h=>?_) (fun h=>?_)
 ·rw[h];((conv=>whnf);repeat(refine Xg ?_;conv=>whnf));refine aA nn ⟨?_,rfl,rfl⟩;rw[qN (by simp at h;omega)]
 have h2:s.length<=16:=by simp at h;omega
 rw[h];obtain⟨a,ha⟩:∃a,s[0]? = some a:=⟨s[0],by simp⟩
 ((conv=>whnf);repeat(refine Xg ?_;conv=>whnf));refine aC ha ?_;((conv=>whnf);repeat(refine Xg ?_;conv=>whnf));refine aO (fun h=>?_) (fun h=>?_)
 ·rw[h];((conv=>whnf);repeat(refine Xg ?_;conv=>whnf));refine aA nn ⟨?_,rfl,rfl⟩;rw[jU ha (by simp[mX] at *;omega)]
 have h3:65<=(a.toNat:Int):=by simpa using h
 rw[h];((conv=>whnf);repeat(refine Xg ?_;conv=>whnf));refine aC ha ?_;((conv=>whnf);repeat(refine Xg ?_;conv=>whnf));refine aO (fun h=>?_) (fun h=>?_)
 ·((conv=>whnf);repeat(refine Xg ?_;conv=>whnf));refine aA nn ⟨?_,rfl,rfl⟩;rw[jU ha (by simp[mX] at *;omega)]
 have h4:(a.toNat:Int)<=90:=by simpa using h
 have hua:mX a.toNat=true:=by simp[mX];omega
 ((conv=>whnf);repeat(refine Xg ?_;conv=>whnf));refine a7.at bC (fun i:Nat=>1<=i/\i<=s.length/\∀j c,j<i->s[j]? = some c->uM c.toNat=true)
  (fun i=>⟨[(0,.str s),(3,.int .i64 i)],[],0,32⟩) (fun i=>s.length-i) 1 [] ⟨by simp,h1,fun j c hj hc=>by rw[show j=0 by omega,ha] at hc;cases hc;exact GD hua⟩
  (bL ⟨aH,aH,trivial⟩) ?_
 rintro i ⟨h0,hi,hall⟩;((conv=>whnf);repeat(refine Xg ?_;conv=>whnf));refine aO (fun h=>?_) (fun h=>?_)
 ·have hlt:i<s.length:=by simpa using h
  obtain⟨c,hc⟩:∃c,s[i]? = some c:=⟨s[i],by simp[hlt]⟩
  have hc':s[(i:Int).toNat]? = some c:=by rw[Rq];exact hc
  ((conv=>whnf);repeat(refine Xg ?_;conv=>whnf));refine aC hc' ?_;((conv=>whnf);repeat(refine Xg ?_;conv=>whnf));refine(M0 c.toNat).go ?_;((conv=>whnf);repeat(refine Xg ?_;conv=>whnf));cases hb:uM c.toNat with
  | false=>
   ((conv=>whnf);repeat(refine Xg ?_;conv=>whnf));refine aA nn ⟨?_,rfl,rfl⟩;rw[vI hc hb]
  | true=>
   ((conv=>whnf);repeat(refine Xg ?_;conv=>whnf));refine .mk (i+1) [] ⟨by omega,by omega,fun j c2 hj hc2=>?_⟩ (bL ⟨aH,⟨_,rfl,.wo⟩,trivial⟩) (by omega);rcases R9 j i with hj'|hj'
   ·exact hall j c2 hj' hc2
   ·have hji:j=i:=by omega
    rw[hji,hc] at hc2;cases hc2;exact hb
 ·((conv=>whnf);repeat(refine Xg ?_;conv=>whnf));refine aA nn ⟨?_,rfl,rfl⟩;have hk:i=s.length:=by simp at h;omega
  rw[vH ha h2 hua fun j c hc=>hall j c (by rw[hk];exact(Rt.1 hc).1) hc]
set_option maxHeartbeats 4000000
theorem Nm(vk vn:Int)(vs:List UInt8)(ks:List bB)(hs:vs.length<=4294967296):a8 prog [] 149 [bT (.mk vk vn vs ks)] (.bool (cZ vk vn vs ks.length)):=by
 refine aL bC func149 rfl ?_;((conv=>whnf);repeat(refine Xg ?_;conv=>whnf));repeat' (first|(refine aO (fun h=>?_) (fun h=>?_)<;>((try rw[h]);(conv=>whnf);repeat(refine Xg ?_;conv=>whnf)))|(refine(KE vs hs).go ?_;(conv=>whnf);repeat(refine Xg ?_;conv=>whnf)))
 all_goals
  refine aA nn ⟨?_,rfl,rfl⟩;congr 1;rw[Sj];simp_all[cZ,aF,S1,List.isEmpty_iff]
theorem QI(vk vn:Int)(vs:List UInt8)(ks:List bB):a8 prog [] 150 [bT (.mk vk vn vs ks)] (.bool (uX vk ks.length)):=by
 refine aL bC func150 rfl ?_;((conv=>whnf);repeat(refine Xg ?_;conv=>whnf));repeat' (refine aO (fun h=>?_) (fun h=>?_)<;>((try rw[h]);(conv=>whnf);repeat(refine Xg ?_;conv=>whnf)))
 all_goals
  refine aA nn ⟨?_,rfl,rfl⟩;congr 1;rw[Sj];simp[uX,aF] at *;try omega
theorem Ij:∀v:bB,iA v->a8 prog [] 117 [bT v] (.bool (cJ v))
  | .mk vk vn vs ks,hv=>by
    simp only[iA] at hv;obtain⟨hv1,hv2,hv3,hv4,hv5⟩:=hv;have ih:∀a∈ks,a8 prog [] 117 [bT a] (.bool (cJ a)):=fun a hm=>Ij a (pC hv5 a hm)
    clear hv5;refine aL bC func117 rfl ?_;((conv=>whnf);repeat(refine Xg ?_;conv=>whnf));refine(J2 vs hv3).go ?_;obtain⟨cb,hcb⟩:∃cb,cb=fA vs:=⟨_,rfl⟩
    rw[←hcb];rcases(show vk=0∨vk=1∨vk=2∨vk=3∨(vk<0∨3<vk) by omega) with rfl|rfl|rfl|rfl|hk
    · ((conv=>whnf);repeat(refine Xg ?_;conv=>whnf))
      repeat' (refine aO (fun h=>?_) (fun h=>?_)<;>((try rw[h]);(conv=>whnf);repeat(refine Xg ?_;conv=>whnf)))
      all_goals first
        | (refine aA nn ⟨?_,rfl,rfl⟩
           clear ih;have hf1:cZ 0 vn vs ks.length=false:=by
             rw[TS];simp_all[cZ,aF,S2];try omega
           rw[cJ,hf1];rfl)
        | (have hf1:cZ 0 vn vs ks.length=true:=by
             clear ih;simp_all[cZ,aF,S2];try omega
           refine a7.at bC (fun k:Nat=>k<=ks.length/\dR (ks.take k)=true)
             (fun k=>⟨[(1,.ptr 0 0 0),(4,.int .i64 k)],[(0,.row 60 4 [bT (.mk 0 vn vs ks)])],1,95⟩) (fun k=>ks.length-k) 0 [(0,0)] ⟨by simp,rfl⟩
             (aJ _ rfl ⟨⟨0,_,rfl,rfl,.same dD⟩,trivial⟩ ⟨⟨_,rfl,.ptr 0 0 0 0 rfl⟩,aH,trivial⟩) ?_
           rintro k ⟨hk,hall⟩;((conv=>whnf);repeat(refine Xg ?_;conv=>whnf));refine aO (fun h=>?_) (fun h=>?_)
           · have hlt:=FU h
             obtain⟨a,b,c,d,hm,hg,he,e1⟩:=cL hlt;have hih:=ih _ hm;obtain⟨fb,hfb⟩:∃fb,fb=cJ (.mk a b c d):=⟨_,rfl⟩
             rw[←hfb] at hih;((conv=>whnf);repeat(refine Xg ?_;conv=>whnf));refine aC e1 ?_;((conv=>whnf);repeat(refine Xg ?_;conv=>whnf));refine hih.go ?_;cases fb with
             | false=>
               ((conv=>whnf);repeat(refine Xg ?_;conv=>whnf));refine aA nn ⟨?_,rfl,rfl⟩;rw[cJ,mP hm hfb.symm,Tz]
             | true=>
               ((conv=>whnf);repeat(refine Xg ?_;conv=>whnf));refine .mk (k+1) [(0,0)] ⟨by omega, ?_⟩ (aJ _ rfl ⟨⟨0,_,rfl,rfl,.same dD⟩,trivial⟩ ⟨⟨_,rfl,.ptr 0 0 0 0 rfl⟩,⟨_,rfl,.wo⟩,trivial⟩) (by omega);rw[m9 hlt,hall,he,←hfb];rfl
           · have hk':k=ks.length:=by have:=Eu h;omega
             ((conv=>whnf);repeat(refine Xg ?_;conv=>whnf));refine aA nn ⟨?_,rfl,rfl⟩;rw[hk',SD] at hall;rw[cJ,hf1,hall];rfl)
    · ((conv=>whnf);repeat(refine Xg ?_;conv=>whnf))
      repeat' (refine aO (fun h=>?_) (fun h=>?_)<;>((try rw[h]);(conv=>whnf);repeat(refine Xg ?_;conv=>whnf)))
      all_goals first
        | (refine aA nn ⟨?_,rfl,rfl⟩
           clear ih;have hf1:cZ 1 vn vs ks.length=false:=by
             rw[TS];simp_all[cZ,aF,S2];try omega
           rw[cJ,hf1];rfl)
        | (have hf1:cZ 1 vn vs ks.length=true:=by
             clear ih;simp_all[cZ,aF,S2];try omega
           refine a7.at bC (fun k:Nat=>k<=ks.length/\dR (ks.take k)=true)
             (fun k=>⟨[(1,.ptr 0 0 0),(4,.int .i64 k)],[(0,.row 60 4 [bT (.mk 1 vn vs ks)])],1,95⟩) (fun k=>ks.length-k) 0 [(0,0)] ⟨by simp,rfl⟩
             (aJ _ rfl ⟨⟨0,_,rfl,rfl,.same dD⟩,trivial⟩ ⟨⟨_,rfl,.ptr 0 0 0 0 rfl⟩,aH,trivial⟩) ?_
           rintro k ⟨hk,hall⟩;((conv=>whnf);repeat(refine Xg ?_;conv=>whnf));refine aO (fun h=>?_) (fun h=>?_)
           · have hlt:=FU h
             obtain⟨a,b,c,d,hm,hg,he,e1⟩:=cL hlt;have hih:=ih _ hm;obtain⟨fb,hfb⟩:∃fb,fb=cJ (.mk a b c d):=⟨_,rfl⟩
             rw[←hfb] at hih;((conv=>whnf);repeat(refine Xg ?_;conv=>whnf));refine aC e1 ?_;((conv=>whnf);repeat(refine Xg ?_;conv=>whnf));refine hih.go ?_;cases fb with
             | false=>
               ((conv=>whnf);repeat(refine Xg ?_;conv=>whnf));refine aA nn ⟨?_,rfl,rfl⟩;rw[cJ,mP hm hfb.symm,Tz]
             | true=>
               ((conv=>whnf);repeat(refine Xg ?_;conv=>whnf));refine .mk (k+1) [(0,0)] ⟨by omega, ?_⟩ (aJ _ rfl ⟨⟨0,_,rfl,rfl,.same dD⟩,trivial⟩ ⟨⟨_,rfl,.ptr 0 0 0 0 rfl⟩,⟨_,rfl,.wo⟩,trivial⟩) (by omega);rw[m9 hlt,hall,he,←hfb];rfl
           · have hk':k=ks.length:=by have:=Eu h;omega
             ((conv=>whnf);repeat(refine Xg ?_;conv=>whnf));refine aA nn ⟨?_,rfl,rfl⟩;rw[hk',SD] at hall;rw[cJ,hf1,hall];rfl)
    · ((conv=>whnf);repeat(refine Xg ?_;conv=>whnf))
      repeat' (refine aO (fun h=>?_) (fun h=>?_)<;>((try rw[h]);(conv=>whnf);repeat(refine Xg ?_;conv=>whnf)))
      all_goals first
        | (refine aA nn ⟨?_,rfl,rfl⟩
           clear ih;have hf1:cZ 2 vn vs ks.length=false:=by
             rw[TS];simp_all[cZ];try omega
           rw[cJ,hf1];rfl)
        | (have hf1:cZ 2 vn vs ks.length=true:=by
             clear ih;simp_all[cZ];try omega
           refine a7.at bC (fun k:Nat=>k<=ks.length/\dR (ks.take k)=true)
             (fun k=>⟨[(1,.ptr 0 0 0),(4,.int .i64 k)],[(0,.row 60 4 [bT (.mk 2 vn vs ks)])],1,95⟩) (fun k=>ks.length-k) 0 [(0,0)] ⟨by simp,rfl⟩
             (aJ _ rfl ⟨⟨0,_,rfl,rfl,.same dD⟩,trivial⟩ ⟨⟨_,rfl,.ptr 0 0 0 0 rfl⟩,aH,trivial⟩) ?_
           rintro k ⟨hk,hall⟩;((conv=>whnf);repeat(refine Xg ?_;conv=>whnf));refine aO (fun h=>?_) (fun h=>?_)
           · have hlt:=FU h
             obtain⟨a,b,c,d,hm,hg,he,e1⟩:=cL hlt;have hih:=ih _ hm;obtain⟨fb,hfb⟩:∃fb,fb=cJ (.mk a b c d):=⟨_,rfl⟩
             rw[←hfb] at hih;((conv=>whnf);repeat(refine Xg ?_;conv=>whnf));refine aC e1 ?_;((conv=>whnf);repeat(refine Xg ?_;conv=>whnf));refine hih.go ?_;cases fb with
             | false=>
               ((conv=>whnf);repeat(refine Xg ?_;conv=>whnf));refine aA nn ⟨?_,rfl,rfl⟩;rw[cJ,mP hm hfb.symm,Tz]
             | true=>
               ((conv=>whnf);repeat(refine Xg ?_;conv=>whnf));refine .mk (k+1) [(0,0)] ⟨by omega, ?_⟩ (aJ _ rfl ⟨⟨0,_,rfl,rfl,.same dD⟩,trivial⟩ ⟨⟨_,rfl,.ptr 0 0 0 0 rfl⟩,⟨_,rfl,.wo⟩,trivial⟩) (by omega);rw[m9 hlt,hall,he,←hfb];rfl
           · have hk':k=ks.length:=by have:=Eu h;omega
             ((conv=>whnf);repeat(refine Xg ?_;conv=>whnf));refine aA nn ⟨?_,rfl,rfl⟩;rw[hk',SD] at hall;rw[cJ,hf1,hall];rfl)
    · ((conv=>whnf);repeat(refine Xg ?_;conv=>whnf))
      repeat' (refine aO (fun h=>?_) (fun h=>?_)<;>((try rw[h]);(conv=>whnf);repeat(refine Xg ?_;conv=>whnf)))
      all_goals first
        | (refine aA nn ⟨?_,rfl,rfl⟩
           clear ih;have hf1:cZ 3 vn vs ks.length=false:=by
             rw[TS];simp_all[cZ];try omega
           rw[cJ,hf1];rfl)
        | (have hf1:cZ 3 vn vs ks.length=true:=by
             clear ih;simp_all[cZ];try omega
           refine a7.at bC (fun k:Nat=>k<=ks.length/\dR (ks.take k)=true)
             (fun k=>⟨[(1,.ptr 0 0 0),(4,.int .i64 k)],[(0,.row 60 4 [bT (.mk 3 vn vs ks)])],1,95⟩) (fun k=>ks.length-k) 0 [(0,0)] ⟨by simp,rfl⟩
             (aJ _ rfl ⟨⟨0,_,rfl,rfl,.same dD⟩,trivial⟩ ⟨⟨_,rfl,.ptr 0 0 0 0 rfl⟩,aH,trivial⟩) ?_
           rintro k ⟨hk,hall⟩;((conv=>whnf);repeat(refine Xg ?_;conv=>whnf));refine aO (fun h=>?_) (fun h=>?_)
           · have hlt:=FU h
             obtain⟨a,b,c,d,hm,hg,he,e1⟩:=cL hlt;have hih:=ih _ hm;obtain⟨fb,hfb⟩:∃fb,fb=cJ (.mk a b c d):=⟨_,rfl⟩
             rw[←hfb] at hih;((conv=>whnf);repeat(refine Xg ?_;conv=>whnf));refine aC e1 ?_;((conv=>whnf);repeat(refine Xg ?_;conv=>whnf));refine hih.go ?_;cases fb with
             | false=>
               ((conv=>whnf);repeat(refine Xg ?_;conv=>whnf));refine aA nn ⟨?_,rfl,rfl⟩;rw[cJ,mP hm hfb.symm,Tz]
             | true=>
               ((conv=>whnf);repeat(refine Xg ?_;conv=>whnf));refine .mk (k+1) [(0,0)] ⟨by omega, ?_⟩ (aJ _ rfl ⟨⟨0,_,rfl,rfl,.same dD⟩,trivial⟩ ⟨⟨_,rfl,.ptr 0 0 0 0 rfl⟩,⟨_,rfl,.wo⟩,trivial⟩) (by omega);rw[m9 hlt,hall,he,←hfb];rfl
           · have hk':k=ks.length:=by have:=Eu h;omega
             ((conv=>whnf);repeat(refine Xg ?_;conv=>whnf));refine aA nn ⟨?_,rfl,rfl⟩;rw[hk',SD] at hall;rw[cJ,hf1,hall];rfl)
    · have e0:(vk == 0)=false:=by simp;omega
      have e1:(vk == 1)=false:=by simp;omega
      have e2:(vk == 2)=false:=by simp;omega
      have e3:(vk == 3)=false:=by simp;omega
      have hf1:cZ vk vn vs ks.length=false:=by
        unfold cZ;rw[Rp (by omega),Rp (by omega),Rp (by omega),Rp (by omega)]
      have hfin:AV.bool false=AV.bool (cJ (.mk vk vn vs ks)):=by rw[cJ,hf1];rfl
      ((conv=>whnf);repeat(refine Xg ?_;conv=>whnf));repeat((first|rw[e0]|rw[e1]|rw[e2]|rw[e3]);(conv=>whnf);repeat(refine Xg ?_;conv=>whnf))
      refine aO (fun h=>?_) (fun h=>?_)
      · rw[h]
        ((conv=>whnf);repeat(refine Xg ?_;conv=>whnf));exact aA nn ⟨hfin,rfl,rfl⟩
      · rw[h]
        ((conv=>whnf);repeat(refine Xg ?_;conv=>whnf));refine aO (fun h'=>?_) (fun h'=>?_)
        · ((conv=>whnf);repeat(refine Xg ?_;conv=>whnf))
          exact aA nn ⟨hfin,rfl,rfl⟩
        · exfalso
          simp at h h';omega
  termination_by v=>SizeOf.sizeOf v
  decreasing_by simp;have:=TL hm;omega
theorem N6:∀v:bB,iA v->a8 prog [] 118 [bT v] (.bool (mW v))
  | .mk vk vn vs ks,hv=>by
    simp only[iA] at hv;obtain⟨hv1,hv2,hv3,hv4,hv5⟩:=hv;have ih:∀a∈ks,a8 prog [] 118 [bT a] (.bool (mW a)):=fun a hm=>N6 a (pC hv5 a hm)
    clear hv5;refine aL bC func118 rfl ?_;((conv=>whnf);repeat(refine Xg ?_;conv=>whnf));repeat' (refine aO (fun h=>?_) (fun h=>?_)<;>((try rw[h]);(conv=>whnf);repeat(refine Xg ?_;conv=>whnf)))
    all_goals first
      | (refine aA nn ⟨?_,rfl,rfl⟩
         clear ih;have hf1:x6 vk ks.length=true:=by
           simp[x6,aF] at *;omega
         rw[mW,hf1];rfl)
      | (have hf1:x6 vk ks.length=false:=by
           clear ih;rw[TS];simp[x6,aF] at *;omega
         refine a7.at bC (fun k:Nat=>k<=ks.length/\pR (ks.take k)=false)
           (fun k=>⟨[(1,.ptr 0 0 0),(3,.int .i64 k)],[(0,.row 60 4 [bT (.mk vk vn vs ks)])],1,39⟩) (fun k=>ks.length-k) 0 [(0,0)] ⟨by simp,rfl⟩
           (aJ _ rfl ⟨⟨0,_,rfl,rfl,.same dD⟩,trivial⟩ ⟨⟨_,rfl,.ptr 0 0 0 0 rfl⟩,aH,trivial⟩) ?_
         rintro k ⟨hk,hall⟩;((conv=>whnf);repeat(refine Xg ?_;conv=>whnf));refine aO (fun h=>?_) (fun h=>?_)
         · have hlt:=FU h
           obtain⟨a,b,c,d,hm,hg,he,e1⟩:=cL hlt;have hih:=ih _ hm;obtain⟨fb,hfb⟩:∃fb,fb=mW (.mk a b c d):=⟨_,rfl⟩
           rw[←hfb] at hih;((conv=>whnf);repeat(refine Xg ?_;conv=>whnf));refine aC e1 ?_;((conv=>whnf);repeat(refine Xg ?_;conv=>whnf));refine hih.go ?_;cases fb with
           | true=>
             ((conv=>whnf);repeat(refine Xg ?_;conv=>whnf));refine aA nn ⟨?_,rfl,rfl⟩;rw[mW,Dj hm hfb.symm,Bool.or_true]
           | false=>
             ((conv=>whnf);repeat(refine Xg ?_;conv=>whnf));refine .mk (k+1) [(0,0)] ⟨by omega, ?_⟩ (aJ _ rfl ⟨⟨0,_,rfl,rfl,.same dD⟩,trivial⟩ ⟨⟨_,rfl,.ptr 0 0 0 0 rfl⟩,⟨_,rfl,.wo⟩,trivial⟩) (by omega);rw[HY hlt,hall,he,←hfb];rfl
         · have hk':k=ks.length:=by have:=Eu h;omega
           ((conv=>whnf);repeat(refine Xg ?_;conv=>whnf));refine aA nn ⟨?_,rfl,rfl⟩;rw[hk',SD] at hall;rw[mW,hf1,hall];rfl)
  termination_by v=>SizeOf.sizeOf v
  decreasing_by simp;have:=TL hm;omega
theorem OZ:∀v:bB,iA v->bH v<=1099511627776->a8 prog [] 94 [bT v] (.int .i64 (fW v))
 | .mk vk vn vs ks,hv,hs=>by
  have h1:=Ij _ hv;have h2:=N6 _ hv;have h3:=LF _ hs;have hval:fW (.mk vk vn vs ks)=if cJ (.mk vk vn vs ks)=false then 1 else if mW (.mk vk vn vs ks)=true∨1024<bH (.mk vk vn vs ks) then 4 else 0:=rfl
  generalize cJ (.mk vk vn vs ks)=fb at h1 hval;generalize mW (.mk vk vn vs ks)=wb at h2 hval;generalize bH (.mk vk vn vs ks)=sz at h3 hval;generalize fW (.mk vk vn vs ks)=res at hval;refine aL bC func94 rfl ?_;((conv=>whnf);repeat(refine Xg ?_;conv=>whnf));refine h1.go ?_;cases fb with
  | false=>
   ((conv=>whnf);repeat(refine Xg ?_;conv=>whnf));refine aA nn ⟨?_,rfl,rfl⟩;rw[hval];rfl
  | true=>
   ((conv=>whnf);repeat(refine Xg ?_;conv=>whnf));refine h2.go ?_;cases wb with
   | true=>
    ((conv=>whnf);repeat(refine Xg ?_;conv=>whnf));refine aA nn ⟨?_,rfl,rfl⟩;rw[hval];simp
   | false=>
    ((conv=>whnf);repeat(refine Xg ?_;conv=>whnf));refine h3.go ?_;((conv=>whnf);repeat(refine Xg ?_;conv=>whnf));refine aO (fun h=>?_) (fun h=>?_)
    ·((conv=>whnf);repeat(refine Xg ?_;conv=>whnf));refine aA nn ⟨?_,rfl,rfl⟩;rw[hval,Rp (by simp),Rx (by simp at h;omega)]
    ·((conv=>whnf);repeat(refine Xg ?_;conv=>whnf));refine aA nn ⟨?_,rfl,rfl⟩;rw[hval,Rp (by simp),Rp (by simp at h;simp;omega)]
set_option maxHeartbeats 4000000
theorem GS(n:Int):i64 (IntKind.i64.wrap n):=by
 rw[IntKind.wrap_i64];exact⟨by omega,by omega⟩
theorem tT(n most:Int)(hn:i64 n)(hm:1<=most):a8 prog [] 18 [.int .i64 n,.int .i64 most] (.int .i64 (jM n most)):=by
 have hz:decide (most≠0)=true:=by simp;omega
 unfold i64 at hn;refine aL bC func18 rfl ?_;((conv=>whnf);repeat(refine Xg ?_;conv=>whnf));refine aO (fun h=>?_) (fun h=>?_)
 ·have h:n<0:=by simpa using h
  ((conv=>whnf);repeat(refine Xg ?_;conv=>whnf));refine aK (by rw[R4 (by omega)];rfl) ?_;((conv=>whnf);repeat(refine Xg ?_;conv=>whnf));refine aA nn ⟨?_,rfl,rfl⟩;rw[jM,Rx h,w64 (x:=n+1) (y:=n+1) rfl ⟨by omega,by omega⟩,w64 (x:=0-(n+1)) (y:=-(n+1)) (by omega) ⟨by omega,by omega⟩]
 ·have h:¬n<0:=by simpa using h
  ((conv=>whnf);repeat(refine Xg ?_;conv=>whnf));refine aK (by rw[R4 (by omega)];rfl) ?_;((conv=>whnf);repeat(refine Xg ?_;conv=>whnf));refine aA nn ⟨?_,rfl,rfl⟩;rw[jM,Rp h]
theorem sT(l:List Int)(i most:Int)(hl:∀x∈l,i64 x)(hm:1<=most):a8 prog [] 10 [.il 1 (aI l),.int .i64 i,.int .i64 most] (.int .i64 (gB l i most)):=by
 refine aL bC func10 rfl ?_;((conv=>whnf);repeat(refine Xg ?_;conv=>whnf));refine aO (fun h=>?_) (fun h=>?_)
 ·rw[h];((conv=>whnf);repeat(refine Xg ?_;conv=>whnf));refine aA nn ⟨?_,rfl,rfl⟩;rw[gB,Rx (.inl (by simpa using h))]
 ·have h0:0<=i:=by simpa using h
  rw[h];((conv=>whnf);repeat(refine Xg ?_;conv=>whnf));refine aO (fun h=>?_) (fun h=>?_)
  ·((conv=>whnf);repeat(refine Xg ?_;conv=>whnf));refine aA nn ⟨?_,rfl,rfl⟩;rw[aE] at h;rw[gB,Rx (.inr (by simpa using h))]
  ·rw[aE] at h;have h1:i<l.length:=by simpa using h
   obtain⟨q,rfl⟩:=R7 h0;have hq:q<l.length:=by omega
   ((conv=>whnf);repeat(refine Xg ?_;conv=>whnf));refine aC (a:=.int .i64 l[q]) (by rw[Rq,bG,Rm hq];rfl) ?_;((conv=>whnf);repeat(refine Xg ?_;conv=>whnf));refine(tT l[q] most (hl _ (SI hq)) hm).go ?_;((conv=>whnf);repeat(refine Xg ?_;conv=>whnf));refine aA nn ⟨?_,rfl,rfl⟩;rw[gB,Rp (by omega),Rq,Rn,Rm hq];rfl
theorem KN(l:List Int)(i j:Int)(hl:∀x∈l,i64 x)(hi:1<=i)(hi':i<=1000)(hj:0<=j)(hj':j<=1000):a8 prog [] 63 [.il 1 (aI l),.int .i64 i,.int .i64 j] (.int .i64 (kidI l i j)):=by
 have hp:=sT l (3*i+j+2) 1000000 hl (by omega);have hb:=eG (l:=l) (i:=3*i+j+2) (most:=1000000) (by omega);have hk:kidI l i j=if (gB l (3*i+j+2) 1000000).tmod 3=0 then((gB l (3*i+j+2) 1000000).tdiv 3).tmod i else max 0 (i-1-((gB l (3*i+j+2) 1000000).tdiv 3).tmod 3):=rfl
 generalize gB l (3*i+j+2) 1000000=p at hp hb hk;rw[hk];have hd:0<=p.tdiv 3/\p.tdiv 3<=1000000:=by
  rw[T0 hb.1];omega
 have hd3:0<=(p.tdiv 3).tmod 3/\(p.tdiv 3).tmod 3<3:=⟨Tf _ hd.1,TY _ (by omega)⟩
 refine aL bC func63 rfl ?_;((conv=>whnf);repeat(refine Xg ?_;conv=>whnf));rw[w64 (x:=3*i) (y:=3*i) rfl ⟨by omega,by omega⟩,w64 (x:=3*i+j) (y:=3*i+j) rfl ⟨by omega,by omega⟩,w64 (x:=3*i+j+2) (y:=3*i+j+2) rfl ⟨by omega,by omega⟩];refine hp.go ?_;((conv=>whnf);repeat(refine Xg ?_;conv=>whnf));refine aO (fun h=>?_) (fun h=>?_)
 ·have h:p.tmod 3=0:=by simpa using h
  ((conv=>whnf);repeat(refine Xg ?_;conv=>whnf));refine aK (by rw[R4 (by omega)];rfl) ?_;((conv=>whnf);repeat(refine Xg ?_;conv=>whnf));refine aA nn ⟨?_,rfl,rfl⟩;rw[Rx h,w64 (x:=p.tdiv 3) (y:=p.tdiv 3) rfl ⟨by omega,by omega⟩]
 ·have h:¬p.tmod 3=0:=by simpa using h
  ((conv=>whnf);repeat(refine Xg ?_;conv=>whnf));refine aA nn ⟨?_,rfl,rfl⟩;rw[Rp h,w64 (x:=p.tdiv 3) (y:=p.tdiv 3) rfl ⟨by omega,by omega⟩,w64 (x:=i-1) (y:=i-1) rfl ⟨by omega,by omega⟩,w64 (x:=i-1-(p.tdiv 3).tmod 3) (y:=i-1-(p.tdiv 3).tmod 3) rfl ⟨by omega,by omega⟩];congr 1;simp;omega
theorem N8(k:Int)(h0:0<=k)(h1:k<=1000000):a8 prog [] 62 [.int .i64 k] (bT (uO k)):=by
 have hd:0<=k.tdiv 4/\k.tdiv 4<=1000000:=by
  rw[T0 h0];omega
 have hm:0<=k.tmod 4/\k.tmod 4<4:=⟨Tf _ h0,TY _ (by omega)⟩
 have h9:0<=(k.tdiv 4).tmod 9/\(k.tdiv 4).tmod 9<9:=⟨Tf _ hd.1,TY _ (by omega)⟩
 have h3:0<=(k.tdiv 4).tmod 3/\(k.tdiv 4).tmod 3<3:=⟨Tf _ hd.1,TY _ (by omega)⟩
 have hw:IntKind.i64.wrap (k.tdiv 4)=k.tdiv 4:=w64 rfl ⟨by omega,by omega⟩;have hv:uO k=if k.tmod 4=0 then .mk 0 ((k.tdiv 4).tmod 9-4) [] []
  else if k.tmod 4=1 then .mk 1 ((k.tdiv 4).tmod 2) [] []
  else if k.tmod 4=2 then .mk 3 0 (([[76,101,97,102],[82,101,100],[88]]:List (List UInt8)).getD ((k.tdiv 4).tmod 3).toNat []) []
  else .mk 2 0 [] [.mk 0 ((k.tdiv 4).tmod 3) [] []]:=rfl
 generalize uO k=v at hv;have hw9:IntKind.i64.wrap ((k.tdiv 4).tmod 9-4)=(k.tdiv 4).tmod 9-4:=w64 rfl ⟨by omega,by omega⟩;refine aL bC func62 rfl ?_;rcases(show k.tmod 4=0∨k.tmod 4=1∨k.tmod 4=2∨k.tmod 4=3 by omega) with e|e|e|e
 ·rw[Rx e] at hv;((conv=>whnf);repeat(refine Xg ?_;conv=>whnf));rw[e];((conv=>whnf);repeat(refine Xg ?_;conv=>whnf));rw[hw,hw9];exact bF (.agg' (.s (.s (.s (.cons (.nil 4) .nil))))) ⟨by rw[hv];rfl,rfl,rfl⟩
 ·rw[Rp (by omega),Rx e] at hv;((conv=>whnf);repeat(refine Xg ?_;conv=>whnf));rw[e];((conv=>whnf);repeat(refine Xg ?_;conv=>whnf));rw[hw];exact bF (.agg' (.s (.s (.s (.cons (.nil 4) .nil))))) ⟨by rw[hv];rfl,rfl,rfl⟩
 ·rw[Rp (by omega),Rp (by omega),Rx e] at hv;((conv=>whnf);repeat(refine Xg ?_;conv=>whnf));rw[e];((conv=>whnf);repeat(refine Xg ?_;conv=>whnf));rw[hw];rcases(show (k.tdiv 4).tmod 3=0∨(k.tdiv 4).tmod 3=1∨(k.tdiv 4).tmod 3=2 by omega) with e3|e3|e3
  all_goals
   rw[e3] at hv ⊢;((conv=>whnf);repeat(refine Xg ?_;conv=>whnf));exact bF (.agg' (.s (.s (.s (.cons (.nil 4) .nil))))) ⟨by rw[hv];rfl,rfl,rfl⟩
 ·rw[Rp (by omega),Rp (by omega),Rp (by omega)] at hv;((conv=>whnf);repeat(refine Xg ?_;conv=>whnf));rw[e];((conv=>whnf);repeat(refine Xg ?_;conv=>whnf));rw[hw];exact bF (.agg' (.s (.s (.s (.cons (.fzR rfl rfl (.cons (sX _ _ _) .nil) rfl) .nil))))) ⟨by rw[hv];rfl,rfl,rfl⟩
end Go.Proofs.YthempfhilcmfnaaGreat
