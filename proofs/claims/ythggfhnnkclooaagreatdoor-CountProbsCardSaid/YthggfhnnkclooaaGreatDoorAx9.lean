/- A part of the proof. -/
import Derived.Test.YthggfhnnkclooaaGreatDoorAx8
import Derived.Below
import Derived.Lib.ConvBytes
import Derived.Lib.ItoaMem
import Derived.ChangeMaps5
import Derived.Lib.LaidTab
import Derived.Lib.ItoaNum
import Derived.Lib.AtoiAllCases
set_option linter.unusedSectionVars false
set_option linter.unusedVariables false
set_option linter.unusedSimpArgs false
set_option maxRecDepth 1000000
set_option maxHeartbeats 16000000
namespace Go.Ax
open Go
theorem nn {v:AV} (h:NN v:=by
  repeat' first
   | assumption
   | exact NN.int _ _
   | exact NN.bool _
   | exact NN.str _
   | exact NN.nsl
   | exact NN.nptr
   | exact NN.nif
   | exact NN.nfn
   | exact NN.nmap
   | exact NN.junk
   | exact bZ _
   | exact aX _
   | exact aW _
   | exact jR.nil
   | refine jR.cons ?_ ?_
   | refine NN.agg' ?_
   | refine NN.tup' ?_
   | refine NN.il' ?_
   | refine NN.ip' ?_
   | refine NN.ifc _ _ ?_
   | exact NN.fn _ _ _ sq sq):NN v:=h
theorem dQ {l:List AV} (h:jR l:=by
  repeat' first
   | assumption
   | exact NN.int _ _
   | exact NN.bool _
   | exact NN.str _
   | exact NN.nsl
   | exact NN.nptr
   | exact NN.nif
   | exact NN.nfn
   | exact NN.nmap
   | exact NN.junk
   | exact bZ _
   | exact aX _
   | exact aW _
   | exact jR.nil
   | refine jR.cons ?_ ?_
   | refine NN.agg' ?_
   | refine NN.tup' ?_
   | refine NN.il' ?_
   | refine NN.ip' ?_
   | refine NN.ifc _ _ ?_
   | exact NN.fn _ _ _ sq sq):jR l:=h
section
variable {P:Program} {C:List (Nat × AV)} {F:FuncId} {args:List AV} {r:AV} {mem:aR} {nx:Nat} {K:AV->aR->Nat->Prop}
theorem aU.go(h:aU P [] F args r)(hk:K r mem nx)(ha:jR args:=by exact dQ)(hr:NN r:=by exact nn):aJ P [] F args mem nx K:=h.use bI ha hr hk
theorem aJ.go0{Qs:AV->aR->Nat->Prop}(h:aJ P [] F args [] 0 Qs)(hk:∀r m n,Qs r m n->∃r',Cv m [] r r'/\K r' mem nx)(ha:jR args:=by exact dQ):aJ P [] F args mem nx K:=
 aJ.call0 bI h ha hk
end
theorem aJ.glob{P:Program}{C:List (Nat × AV)}{F:FuncId}{args:List AV}{mem:aR}{nx:Nat}{Q:AV->aR->Nat->Prop}(h:aJ P [] F args mem nx Q):aJ P C F args mem nx Q:=by
 refine⟨λX D E w vs hD hm hv=>?_⟩;refine(h.run X D E w vs hD ⟨hm.low,hm.blk,hm.emp,hm.inj,hm.nod,hm.bar,(λp hp=>by cases hp)⟩ hv).mono ?_;rintro e w' ⟨r,v,m,n,E',h1,h2,h3,h4,h5,h6⟩;exact⟨r,v,m,n,E',h1,h2,h3,⟨h4.low,h4.blk,h4.emp,h4.inj,h4.nod,h4.bar,λp hp=>h6.vr (hm.glo p hp)⟩,h5,h6⟩
def JV:List (Nat × Nat)->Bool
 | []=>true
 | (i,j)::r=>Nat.beq i j && JV r
theorem vS:∀{J:List (Nat × Nat)},JV J=true->∀p∈J,p.1=p.2
 | [],h,p,hp=>by cases hp
 | (i,j)::r,h,p,hp=>by
  simp only[JV,Y6] at h;rcases ZC.1 hp with rfl|hp
  .exact Nat.eq_of_beq_eq_true h.1
  .exact vS h.2 p hp
theorem aJ.pre{P:Program}{C:List (Nat × AV)}{F:FuncId}{args args':List AV}{mem mem':aR}{nx:Nat}{K:AV->aR->Nat->Prop}(hΓ:∀p∈C,NN p.2)(J:List (Nat × Nat))(hid:(JV J && kZ mem')=true)
  (hM:cZ mem J mem') (hargs:iS mem J args args') (h:aJ P C F args' mem' nx K):aJ P C F args mem nx K:=by
 simp only[Y6] at hid;have hid1:=vS hid.1;have hnod:=eM hid.2;refine⟨λX D E w vs hD hm hv=>?_⟩;have hσ:∀id id',lk J id=some id'->D id->D id'/\E id'=E id:=by
  intro id id' h hd;have:=hid1 _ (bR h);simp only at this;subst this;exact⟨hd,rfl⟩
 have hinj:J1 J:=λi j k h1 h2=>by
  have a:=hid1 _ (bR h1);have b:=hid1 _ (bR h2);simp only at a b;omega
 obtain⟨m1,v1,o1⟩:=hm.turn (D':=D) (E':=E) hΓ hσ hM.cvm hnod hinj;have hvs:kY E D (OX X E mem') w args' vs:=⟨by rw[<-hargs.1];exact hv.1,λj c' x hc' hx=>by
   obtain⟨c,hc⟩:=dO hargs.1 hc';exact v1 c c' (hargs.2 j c c' hc hc') _ (hv.2 j c x hc hx)⟩
 refine(h.run X D E w vs hD m1 hvs).mono ?_;rintro e w' ⟨r,v,m,n,E',h1,h2,h3,h4,h5,h6⟩;refine⟨r,v,m,n,E',h1,h2,h3,h4,h5, ?_⟩;have e0:Ext D E mem w E D mem' w:=⟨λi hi=>hi,λ_ _=>rfl,ZA _,λ_ _ _=>rfl,λp hp hn=>.inl (o1 p hp hn),.refl _⟩
 exact e0.trans h6
theorem dU{l:List bH}{k:Nat}(h:k<l.length):∃a b c d,bH.mk a b c d∈l/\l[k]? = some (bH.mk a b c d)/\l[k]=bH.mk a b c d/\(aQ l)[(k:Int).toNat]? = some (cC (bH.mk a b c d)):=by
 obtain⟨⟨a,b,c,d⟩,hv⟩:∃v,v=l[k]:=cm
 have e:=BE h;rw[<-hv] at e;exact⟨a,b,c,d,by rw[hv];exact Za h,by rw[hv];exact Yz h,hv.symm,e⟩
section
variable {mem:aR} {J:List (Nat × Nat)}
theorem Cv.int{k:IntKind}{a b:Int}(h:a=b):Cv mem J (.int k a) (.int k b):=by rw[h];exact .same _ (.int _ _)
theorem Cv.w64{x y:Int}(h:x=y)(hb:i64 y):Cv mem J (.int .i64 (IntKind.i64.wrap x)) (.int .i64 y):=by rw[h,bF hb];exact .same _ (.int _ _)
theorem Cv.wo{x y:Int}(h:x=y:=by omega)(h1 : -9223372036854775808<=y:=by omega)(h2:y<=9223372036854775807:=by omega):Cv mem J (.int .i64 (IntKind.i64.wrap x)) (.int .i64 y):=.w64 h ⟨h1,h2⟩
theorem Cv.wp{x y:Int}(h:x=y:=by simp only;omega)(h1 : -9223372036854775808<=y:=by simp only;omega)(h2:y<=9223372036854775807:=by simp only;omega):Cv mem J (.int .i64 (IntKind.i64.wrap x)) (.int .i64 y):=.w64 h ⟨h1,h2⟩
theorem aG{sl:List (Nat × AV)}{i:Nat}{v:AV}(h:lk sl i=some v:=by rfl)(hn:NN v:=by exact nn):∃w,lk sl i=some w/\Cv mem J w v:=⟨v,h,.same v hn⟩
theorem iS.s{v:AV}{as bs:List AV}(hs:iS mem J as bs)(hn:NN v:=by exact nn):iS mem J (v::as) (v::bs):=.cons (.same v hn) hs
theorem bK{G:Type}{a:G}{q:Prop}(h:q):a=a/\q:=⟨rfl,h⟩
theorem aM{sl:List (Nat × AV)}{i id id' x y:Nat}(h:lk sl i=some (.ptr id x y):=by rfl)(h2:lk J id=some id':=by rfl):∃w,lk sl i=some w/\Cv mem J w (.ptr id' x y):=⟨_,h,.ptr id id' x y h2⟩
theorem aP{sl:List (Nat × AV)}{i:Nat}{v:AV}(hn:NN v)(h:lk sl i=some v:=by rfl):∃w,lk sl i=some w/\Cv mem J w v:=⟨v,h,.same v hn⟩
theorem aF{t:TypeId}{sz p:Nat}{ys:List AV}(id:Nat)(hn:jR ys)(h1:lk J id=some p:=by rfl)(h2:lk mem id=some (.row t sz ys):=by rfl):∃id xs,lk J id=some p/\lk mem id=some (.row t sz xs)/\rY mem J xs ys:=⟨id,ys,h1,h2,.same hn⟩
theorem Rs{p q:Prop}(x:q)(e:q->p:=by(intro x;(repeat((first|refine cY.2 ?_|refine bK ?_);((conv=>whnf);(repeat(refine Xg ?_;conv=>whnf)))));exact x)):p:=e x
theorem Rt{p q:Prop}(x:q)(e:q->p:=by(intro x;(conv=>whnf);(repeat(refine Xg ?_;conv=>whnf));(repeat((first|refine cY.2 ?_|refine bK ?_);((conv=>whnf);(repeat(refine Xg ?_;conv=>whnf)))));exact x)):p:=e x
theorem Cv.bool{a b:Bool}(h:a=b):Cv mem J (.bool a) (.bool b):=by rw[h];exact .same _ (.bool _)
theorem x7(k n:Int)(s:List UInt8):Jh mem J (.agg [.int .i64 k,.int .i64 n,.str s,.nsl]) (cC (.mk k n s [])):=
 .agg (.cons (.same _ (.int _ _)) (.cons (.same _ (.int _ _)) (.cons (.same _ (.str _)) (.cons (.nil 4) .nil))))
end
theorem gW(l:List bH)(v:bH):aQ (l++[v])=aQ l++[cC v]:=by simp[gR]
theorem w64{x y:Int}(h:x=y)(hb:i64 y):IntKind.i64.wrap x=y:=by rw[h,bF hb]
theorem Ma{l:List bH}{k:Nat}(h:decide ((k:Int)<((aQ l).length:Nat))=true):k<l.length:=by rw[aB] at h;simpa using h
theorem MC{l:List bH}{k:Nat}(h:decide ((k:Int)<((aQ l).length:Nat))=false):l.length<=k:=by rw[aB] at h;simpa using h
theorem Cv.fzR{mem:aR}{J:List (Nat × Nat)}{id len:Nat}{t:TypeId}{sz:Nat}{xs ys:List AV}(h1:lk mem id=some (.row t sz xs))(h2:lk J id=none)(h3:rY mem J xs ys)(h4:ys.length=len):Cv mem J (.sl id 0 len) (.il sz ys):=
 .fz id 0 len t sz xs ys h1 h2 (by have:=h3.1;omega) h4 (λi x y hx hy=>(h3.2 i x y (su hx) hy).1) (λi x y j c c' hx hy hc hc'=>(h3.2 i x y (su hx) hy).2 j c c' hc hc')
section
variable {P:Program} {C:List (Nat × AV)} {F:FuncId} {args:List AV} {r:AV} {mem:aR} {nx:Nat} {K:AV->aR->Nat->Prop}
theorem aU.goG(h:aU P [] F args r)(hk:K r mem nx)(ha:jR args:=by exact dQ)(hr:NN r:=by exact nn):aJ P C F args mem nx K:=(h.use bI ha hr hk).glob
theorem aJ.goG0{Qs:AV->aR->Nat->Prop}(h:aJ P [] F args [] 0 Qs)(hk:∀r m n,Qs r m n->∃r',Cv m [] r r'/\K r' mem nx)(ha:jR args:=by exact dQ):aJ P C F args mem nx K:=
 (aJ.call0 bI h ha hk).glob
end
theorem Sl{l:List bH}{k n:Nat}(h:k<l.length)(hn:l.length=n):∃a b c d,bH.mk a b c d∈l/\l[k]? = some (bH.mk a b c d)/\l[k]=bH.mk a b c d/\(aQ l)[0+(k:Int).toNat]? = some (cC (bH.mk a b c d))/\Nat.blt (k:Int).toNat n=true:=by
 obtain⟨a,b,c,d,h1,h2,h3,h4⟩:=dU h;exact⟨a,b,c,d,h1,h2,h3,by rw[ZP];exact h4,Y2 B'⟩
end Go.Ax
namespace Go.Ax
open Go
section
variable {P:Program} {C:List (Nat × AV)} {B:Nat}
structure bJ(P:Program)(C:List (Nat × AV))(B:Nat)(c:Code)(s:St)(Q:Exit->St->Prop):Prop where
 run:eQ P C B (.loop c) s Q
def K1(P:Program)(C:List (Nat × AV))(B:Nat)(y:Code)(Q:Exit->St->Prop)(e:Exit)(s:St):Prop:=
 match e with
 | .normal=>eQ P C B y s Q
 | e=>Q e s
def CD(id:Nat)(Q:Exit->St->Prop)(e:Exit)(s:St):Prop:=
 match e with
 | .exit i=>match Nat.beq i id with
  | true=>Q .normal s
  | false=>Q (.exit i) s
 | e=>Q e s
theorem CL{ops:List Oper}{K:St->Prop}{Kp:Value->St->Prop}:∀{l:List Oper} {s:St},xI P C (F8 P C B) ops l s K (λ_ _=>False)->xI P C (F8 P C B) ops l s K Kp
 | [],s,h=>h
 | o::r,s,h=>by
  simp only[xI] at h |-;split
  .rename_i h1;simp only[h1] at h
  .rename_i h1;simp only[h1] at h;split
   .rename_i h2;simp only[h2] at h;exact CL h
   .rename_i h2;simp only[h2] at h
  .rename_i h1;simp only[h1] at h;split
   .rename_i h2;simp only[h2] at h;split
    .rename_i h3;simp only[h3] at h;exact CL h
    .rename_i h3;simp only[h3] at h
   .rename_i h2;simp only[h2] at h;split
    .rename_i h3;simp only[h3] at h;refine aJ.mono h λv m n h=>?_
     split
     .rename_i h4;simp only[h4] at h;exact CL h
     .rename_i h4;simp only[h4] at h
    .rename_i h3;simp only[h3] at h;split at h<;>exact h.elim
theorem xA{ops:List Oper}{tr:List (List Nat)}{base:Nat}{K:St->Prop}{Kp:Value->aR->Nat->Prop}:∀{l:List Nat} {recs:List Bf} {s:St},qB P C (F8 P C B) ops tr base K (λ_ _ _=>False) l recs s->qB P C (F8 P C B) ops tr base K Kp l recs s
 | [],recs,s,h=>h
 | i::r,recs,s,h=>by
  simp only[qB] at h |-;split
  .rename_i h1;simp only[h1] at h
  .rename_i o h1;simp only[h1] at h;split
   .rename_i h2;simp only[h2] at h
   .rename_i h2;simp only[h2] at h;split
    .rename_i h3;simp only[h3] at h;exact xA h
    .rename_i h3;simp only[h3] at h
   .rename_i h2;simp only[h2] at h;split
    .rename_i hk;simp only[hk] at h;split
     .rename_i h3;simp only[h3] at h;split
      .rename_i h4;simp only[h4] at h;exact xA h
      .rename_i h4;simp only[h4] at h
     .rename_i h3;simp only[h3] at h
    .rename_i hk;simp only[hk] at h;split
     .rename_i h3;simp only[h3] at h;split
      .rename_i h4;simp only[h4] at h;exact xA h
      .rename_i h4;simp only[h4] at h
     .rename_i h3;split at h
      .rename_i h4;exact(h3 _ _ _ _ h4).elim
      .exact h
    .rename_i hk;simp only[hk] at h;split
     .rename_i h3;simp only[h3] at h;split
      .rename_i h4;simp only[h4] at h;exact⟨h.1,xA h.2⟩
      .rename_i h4;simp only[h4] at h
     .rename_i h3;simp only[h3] at h;split
      .rename_i h4;simp only[h4] at h;refine aJ.mono h λv m n h=>?_
       split
       .rename_i h5;simp only[h5] at h;exact⟨h.1,xA h.2⟩
       .rename_i h5;simp only[h5] at h
      .rename_i h4;simp only[h4] at h
structure jL(P:Program)(C:List (Nat × AV))(B:Nat)(ops l:List Oper)(s:St)(K:St->Prop):Prop where
 run:xI P C (F8 P C B) ops l s K λ_ _=>False
def Ys(P:Program)(C:List (Nat × AV))(B:Nat)(ops l:List Oper)(s:St)(K:St->Prop):Prop:=
 match l with
 | []=>K s
 | o::r=>GI s λsl mem nx nt=>tT ops sl o.guard
   (ET false P C (F8 P C B) sl mem nx o.op (λv mem nx=>lS s o.dst v mem nx λs'=>jL P C B ops r s' K) λ_ _ _=>False)
   (lS s o.dst (.tup []) mem nx λs'=>jL P C B ops r s' K)
theorem jL.go{ops l:List Oper}{s:St}{K:St->Prop}(h:Ys P C B ops l s K):jL P C B ops l s K:=by
 refine⟨?_⟩;cases l with
 | nil=>exact h
 | cons o r=>
  have h:tT ops s.sl o.guard (ET false P C (F8 P C B) s.sl s.mem s.nx o.op (λv mem nx=>lS s o.dst v mem nx λs'=>jL P C B ops r s' K) λ_ _ _=>False) (lS s o.dst (.tup []) s.mem s.nx λs'=>jL P C B ops r s' K):=h;simp only[xI];rcases sR h with⟨h1,h⟩|⟨h1,h⟩
  .simp only[h1];rcases BU h with⟨v,m,n,h2,h⟩|⟨h2,F,l,h3,h⟩
   .obtain⟨s',h4,h⟩:=eU h;simp only[h2,h4];exact h.run
   .simp only[h2,h3];refine(show aJ P C F l s.mem s.nx _ from h).mono λv m n h=>?_
    obtain⟨s',h4,h⟩:=eU h;simp only[h4];exact h.run
  .obtain⟨s',h4,h⟩:=eU h;simp only[h1,h4];exact h.run
structure Nz(P:Program)(C:List (Nat × AV))(B:Nat)(ops:List Oper)(tr:List (List Nat))(base:Nat)(K:St->Prop)(l:List Nat)(recs:List Bf)(s:St):Prop where
 run:qB P C (F8 P C B) ops tr base K (λ_ _ _=>False) l recs s
def Xx(P:Program)(C:List (Nat × AV))(B:Nat)(ops:List Oper)(tr:List (List Nat))(base:Nat)(K:St->Prop)(l:List Nat)(recs:List Bf)(s:St):Prop:=
 match l with
 | []=>K s
 | i::r=>match ops[i]? with
  | none=>False
  | some o=>GI s λsl mem nx nt=>tT ops sl o.guard
   (match kind P o.op with
    | .pure=>match still o.op with
     | true=>qD false P C sl [] nx o.op λv _ _=>lS s o.dst v mem nx λs'=>Nz P C B ops tr base K r (⟨i,sl,true,v⟩::recs) s'
     | false=>iJ (λp=>H5 tr base ops.length i p.1) mem λm=>qD false P C sl m nx o.op λv _ _=>lS s o.dst v mem nx λs'=>Nz P C B ops tr base K r (⟨i,sl,true,v⟩::recs) s'
    | .al=>pS (base+i) λid=>qD false P C sl [] id o.op λv m _=>match m with
     | [(_,b)]=>lS s o.dst v ((id,b)::mem) nx λs'=>Nz P C B ops tr base K r (⟨i,sl,true,v⟩::recs) s'
     | _=>False
    | .eff=>iJ (λp=>H5 tr base ops.length i p.1) mem λm=>ET false P C (F8 P C B) sl m nx o.op (λv m nx'=>iJ (λp=>!H5 tr base ops.length i p.1) mem λrest=>iJ (λp=>!s5 p.1 m) rest λrest=>Cw m rest λm=>
      lS s o.dst v m nx' λs'=>sS false P C ops tr base i m nx' recs (Nz P C B ops tr base K r recs s')) λ_ _ _=>False)
   (lS s o.dst (.tup []) mem nx λs'=>Nz P C B ops tr base K r (⟨i,sl,false,.tup []⟩::recs) s')
theorem Nz.go{ops:List Oper}{tr:List (List Nat)}{base:Nat}{K:St->Prop}{l:List Nat}{recs:List Bf}{s:St}(h:Xx P C B ops tr base K l recs s):Nz P C B ops tr base K l recs s:=by
 refine⟨?_⟩;cases l with
 | nil=>exact h
 | cons i r=>
  simp only[Xx] at h;simp only[qB];split at h
  .exact h.elim
  .rename_i o ho;simp only[ho];have h:=qH.1 h;rcases sR h with⟨h1,h⟩|⟨h1,h⟩
   .simp only[h1];split at h
    .rename_i hkd;simp only[hkd];split at h
     .rename_i hst;obtain⟨v,m,n,h2,h⟩:=kT (s:={ sl:=s.sl,mem:=[],nx:=s.nx,nt:=s.nt }) h;obtain⟨m',n',h2'⟩:=qL (s:={ sl:=s.sl,mem:=[],nx:=s.nx,nt:=s.nt }) (s':={ s with mem:=jQ tr base ops.length i s.mem }) hst rfl h2;obtain⟨s',h3,h⟩:=eU h;simp only[h2',h3];exact h.run
     .have h:=cV.1 h;obtain⟨v,m,n,h2,h⟩:=kT (s:={ s with mem:=jQ tr base ops.length i s.mem }) h;obtain⟨s',h3,h⟩:=eU h;simp only[h2,h3];exact h.run
    .rename_i hkd;simp only[hkd];have h:=eE.1 h;obtain⟨v,m,n,h2,h⟩:=kT (s:={ s with mem:=[],nx:=base+i }) h;simp only[h2];split at h
     .obtain⟨s',h3,h⟩:=eU h;simp only[h3];exact h.run
     .exact h.elim
    .rename_i hkd;simp only[hkd];have h:=cV.1 h;rcases BU (s:={ s with mem:=jQ tr base ops.length i s.mem }) h with⟨v,m,n,h2,h⟩|⟨h2,F,l,h3,h⟩
     .simp only[h2];have h:=jB.1 (cV.1 (cV.1 h));obtain⟨s',h3,h⟩:=eU h;have h3:fN s o.dst v (m++qX m (gL tr base ops.length i s.mem)) n=some s':=h3;simp only[h3];obtain⟨e1,e2,_⟩:=gJ h3;have h:sS false P C ops tr base i (m++qX m (gL tr base ops.length i s.mem)) n recs (Nz P C B ops tr base K r recs s'):=h;rw[<-e1,<-e2] at h;obtain⟨h4,h⟩:=oM h;exact⟨h4,h.run⟩
     .rw[qJ (s':=s) (λx _=>by cases x<;>rfl)] at h3;simp only[h2,h3];refine(show aJ P C F l _ _ _ from h).mono λv m n h=>?_
      have h:=jB.1 (cV.1 (cV.1 h));obtain⟨s',h3,h⟩:=eU h;have h3:fN s o.dst v (m++qX m (gL tr base ops.length i s.mem)) n=some s':=h3;simp only[h3];obtain⟨e1,e2,_⟩:=gJ h3;have h:sS false P C ops tr base i (m++qX m (gL tr base ops.length i s.mem)) n recs (Nz P C B ops tr base K r recs s'):=h;rw[<-e1,<-e2] at h;obtain⟨h4,h⟩:=oM h;exact⟨h4,h.run⟩
   .obtain⟨s',h3,h⟩:=eU h;simp only[h1,h3];exact h.run
def Ub(P:Program)(C:List (Nat × AV))(B:Nat)(ops:List Oper)(s:St)(Q:Exit->St->Prop):Prop:=
 match P.follows .mixedOrders with
 | true=>match BY P ops (vE P ops ops.length [] (yI ops.length)) with
  | true=>GI s λsl mem nx nt=>pS (nx+ops.length) λn=>AG (vE P ops ops.length [] (yI ops.length)) λord=>Nz P C B ops (K5 ops []) nx (λs'=>Q .normal s') ord [] ⟨sl,mem,n,nt⟩
  | false=>False
 | false=>False
def We(Q:Exit->St->Prop)(e:Exit)(s:St):Prop:=
 match e with
 | .goto _=>False
 | e=>Q e s
def T7(P:Program)(C:List (Nat × AV))(B:Nat)(c:Code)(s:St)(Q:Exit->St->Prop):Prop:=
 match c with
 | .skip=>Q .normal s
 | .seq x y=>eQ P C B x s (K1 P C B y Q)
 | .cond c x y=>GI s λsl _ _ _=>mL C sl c λv=>match v with
  | .bool b=>Qc b (eQ P C B x s Q) (eQ P C B y s Q)
  | _=>False
 | .block id c=>eQ P C B c s (CD id Q)
 | .loop c=>bJ P C B c s Q
 | .label _=>Q .normal s
 | .scope c=>eQ P C B c s (We Q)
 | .exit i=>Q (.exit i) s
 | .ret=>Q .ret s
 | .region _ ops draw=>match draw with
  | false=>jL P C B ops.toList ops.toList s λs'=>Q .normal s'
  | true=>Ub P C B ops.toList s Q
 | _=>False
theorem eQ.go{c:Code}{s:St}{Q:Exit->St->Prop}(h:T7 P C B c s Q):eQ P C B c s Q:=by
 cases c with
 | skip=>exact iA (cl:=false) vJ .skip s Q h
 | exit i=>exact iA (cl:=false) vJ (.exit i) s Q h
 | ret=>exact iA (cl:=false) vJ .ret s Q h
 | loop c=>exact(show bJ P C B c s Q from h).run
 | label l=>exact iA (cl:=false) vJ (.label l) s Q h
 | scope c=>
  have h:eQ P C B c s (We Q):=h;refine⟨λrd X ds D E a w hD hs hB hr=>DS (wpIn_mono (h.run rd X ds D E a w hD hs hB hr.scope) ?_)⟩;rintro e a' w' ⟨s',E',hq,hB',hs',hext⟩;cases e with
  | goto l=>exact(show False from hq).elim
  | normal=>exact⟨s',E',hq,hB',hs',hext⟩
  | exit i=>exact⟨s',E',hq,hB',hs',hext⟩
  | ret=>exact⟨s',E',hq,hB',hs',hext⟩
  | panic c=>exact⟨s',E',hq,hB',hs',hext⟩
  | outgrown=>exact⟨s',E',hq,hB',hs',hext⟩
 | seq x y=>
  have h:eQ P C B x s (K1 P C B y Q):=h;refine⟨λrd X ds D E a w hD hs hB hr=>wpIn_seq (wpIn_mono (h.run rd X ds D E a w hD hs hB hr.seq1) ?_)⟩;rintro e a' w' ⟨s',E',hq,hB',hs',hext⟩;cases e with
  | normal=>
   refine wpIn_mono ((show eQ P C B y s' Q from hq).run rd X ds D E' a' w' hD hs' hB' hr.seq2) ?_;rintro e a2 w2 ⟨s2,ρ2,h1,h2,h3,h4⟩;exact⟨s2,ρ2,h1,h2,h3,hext.trans h4⟩
  | exit i=>exact⟨s',E',hq,hB',hs',hext⟩
  | goto l=>exact⟨s',E',hq,hB',hs',hext⟩
  | ret=>exact⟨s',E',hq,hB',hs',hext⟩
  | panic c=>exact⟨s',E',hq,hB',hs',hext⟩
  | outgrown=>exact⟨s',E',hq,hB',hs',hext⟩
 | cond c x y=>
  have h:mL C s.sl c λv=>match v with
   | .bool b=>Qc b (eQ P C B x s Q) (eQ P C B y s Q)
   | _=>False:=h
  obtain⟨v,h1,h⟩:=cL h;split at h
  .rename_i b;refine⟨λrd X ds D E a w hD hs hB hr=>?_⟩;have hv:=aZ hs h1;generalize he:a.eval c=cv at hv;cases hv;cases b with
   | true=>exact wpIn_cond_true he ((show eQ P C B x s Q from h).run rd X ds D E a w hD hs hB hr.cond1)
   | false=>exact wpIn_cond_false he ((show eQ P C B y s Q from h).run rd X ds D E a w hD hs hB hr.cond2)
  .exact h.elim
 | block id c=>
  have h:eQ P C B c s (CD id Q):=h;refine⟨λrd X ds D E a w hD hs hB hr=>wpIn_block (wpIn_mono (h.run rd X ds D E a w hD hs hB hr.block) ?_)⟩;rintro e a' w' ⟨s',E',hq,hB',hs',hext⟩;cases e with
  | exit i=>
   simp only[Exit.inBlock];simp only[CD] at hq;split at hq
   .rename_i hi;rw[Y7 (Nat.eq_of_beq_eq_true hi)];exact⟨s',E',hq,hB',hs',hext⟩
   .rename_i hi;rw[Y3 (aAd hi)];exact⟨s',E',hq,hB',hs',hext⟩
  | normal=>exact⟨s',E',hq,hB',hs',hext⟩
  | goto l=>exact⟨s',E',hq,hB',hs',hext⟩
  | ret=>exact⟨s',E',hq,hB',hs',hext⟩
  | panic c=>exact⟨s',E',hq,hB',hs',hext⟩
  | outgrown=>exact⟨s',E',hq,hB',hs',hext⟩
 | region id ops draw=>
  cases draw with
  | false=>exact rR vJ (.region id ops false) s Q (CL (show jL P C B ops.toList ops.toList s _ from h).run)
  | true=>
   refine rR vJ (.region id ops true) s Q ?_;have h:Ub P C B ops.toList s Q:=h;unfold Ub at h;simp only[Ek];split at h
   .rename_i hmix;simp only[hmix];split at h
    .rename_i hok;simp only[F3,hok];exact xA (nH.1 (eE.1 (qH.1 h))).run
    .exact h.elim
   .exact h.elim
 | _=>exact(show False from h).elim
theorem aD{F:FuncId}{fn:Func}{c:Code}{args:List AV}{mem:aR}{nx:Nat}{Q:AV->aR->Nat->Prop}(hΓ:∀p∈C,NN p.2)(hf:P.funcs[F]? = some fn)(hb:fn.body=some c)
  (h:uE fn.ntmps args mem nx λs=>eQ P C nx c s (UQ P fn.results.toList (oC nx Q))) (hF:Nat.beq F YF=false:=by rfl):aJ P C F args mem nx Q:=
 (xV hf hb ((k9 h).mono λ_ _ h=>Of h) hF).turn hΓ
def WL{G:Type}(B:Nat)(R:G->Prop)(ah:G->St)(μ:G->Nat)(x:G)(Q:Exit->St->Prop)(e:Exit)(s:St):Prop:=
 match e with
 | .normal=>H7 B R ah μ x s
 | e=>Q e s
theorem bJ.at{c:Code}{s:St}{Q:Exit->St->Prop}{G:Type}(hΓ:∀p∈C,NN p.2)(R:G->Prop)(ah:G->St)(μ:G->Nat)(x:G)(J:List (Nat × Nat))(hx:R x)(h0:Conv B J s (ah x))
  (h:∀x,R x->eQ P C B c (ah x) (WL B R ah μ x Q)):bJ P C B c s Q:=by
 refine⟨eQ.conv hΓ h0 ?_⟩;refine eQ.loop (G:={ x:G // R x }) hΓ (λx=>ah x.1) (λx=>μ x.1) (λx=>?_) ⟨x,hx⟩;refine(h x.1 x.2).mono λe s h=>?_
 cases e with
 | normal=>
  obtain⟨y,J,hy,hc,hlt⟩:=(show H7 B R ah μ x.1 s from h)
  exact⟨⟨y,hy⟩,J,hc,hlt⟩
 | exit i=>exact h
 | goto l=>exact h
 | ret=>exact h
 | panic c=>exact h
 | outgrown=>exact h
theorem bJ.ph{c:Code}{s:St}{Q:Exit->St->Prop}(t:TypeId)(sz:Nat)(h:bJ P C B c ⟨s.sl,(s.nx,.row t sz [])::s.mem,s.nx+1,s.nt⟩ Q):bJ P C B c s Q:=⟨eQ.ph t sz h.run⟩
def Gl(P:Program)(C:List (Nat × AV))(B:Nat)(ops:List Oper)(K:St->Prop)(next:List Oper->St->Prop)(l:List Oper)(s:St):Prop:=
 match l with
 | []=>K s
 | o::r=>GI s λsl mem nx nt=>tT ops sl o.guard
   (ET false P C (F8 P C B) sl mem nx o.op (λv mem nx=>lS s o.dst v mem nx λs'=>next r s') λ_ _ _=>False)
   (lS s o.dst (.tup []) mem nx λs'=>next r s')
theorem q5{ops:List Oper}{K:St->Prop}{next:List Oper->St->Prop}(hn:∀r s,next r s->jL P C B ops r s K){l:List Oper}{s:St}(h:Gl P C B ops K next l s):jL P C B ops l s K:=by
 refine⟨?_⟩;cases l with
 | nil=>exact h
 | cons o r=>
  have h:tT ops s.sl o.guard (ET false P C (F8 P C B) s.sl s.mem s.nx o.op (λv mem nx=>lS s o.dst v mem nx λs'=>next r s') λ_ _ _=>False) (lS s o.dst (.tup []) s.mem s.nx λs'=>next r s'):=h;simp only[xI];rcases sR h with⟨h1,h⟩|⟨h1,h⟩
  .simp only[h1];rcases BU h with⟨v,m,n,h2,h⟩|⟨h2,F,l,h3,h⟩
   .obtain⟨s',h4,h⟩:=eU h;simp only[h2,h4];exact(hn _ _ h).run
   .simp only[h2,h3];refine(show aJ P C F l s.mem s.nx _ from h).mono λv m n h=>?_
    obtain⟨s',h4,h⟩:=eU h;simp only[h4];exact(hn _ _ h).run
  .obtain⟨s',h4,h⟩:=eU h;simp only[h1,h4];exact(hn _ _ h).run
def SD(P:Program)(C:List (Nat × AV))(B:Nat)(next:Code->St->(Exit->St->Prop)->Prop)(c:Code)(s:St)(Q:Exit->St->Prop):Prop:=
 match c with
 | .seq x y=>next x s (K1 P C B y Q)
 | .block id c=>next c s (CD id Q)
 | c=>T7 P C B c s Q
theorem uP{next:Code->St->(Exit->St->Prop)->Prop}(hn:∀c s Q,next c s Q->eQ P C B c s Q){c:Code}{s:St}{Q:Exit->St->Prop}(h:SD P C B next c s Q):eQ P C B c s Q:=by
 cases c with
 | seq x y=>exact eQ.go (show T7 P C B (.seq x y) s Q from hn _ _ _ h)
 | block id c=>exact eQ.go (show T7 P C B (.block id c) s Q from hn _ _ _ h)
 | _=>exact eQ.go h
def Vs(P:Program)(C:List (Nat × AV))(B:Nat)(ops:List Oper)(K:St->Prop)(l:List Oper)(s:St):Prop:=jL P C B ops l s K
theorem RG{ops:List Oper}{K:St->Prop}(l:List Oper)(s:St)(h:Vs P C B ops K l s):jL P C B ops l s K:=h
def WF(P:Program)(C:List (Nat × AV))(B:Nat)(ops:List Oper)(K:St->Prop)(l:List Oper)(s:St):Prop:=Gl P C B ops K (Vs P C B ops K) l s
theorem Ry{ops:List Oper}{K:St->Prop}(l:List Oper)(s:St)(h:WF P C B ops K l s):jL P C B ops l s K:=q5 RG h
def W8(P:Program)(C:List (Nat × AV))(B:Nat)(ops:List Oper)(K:St->Prop)(l:List Oper)(s:St):Prop:=Gl P C B ops K (WF P C B ops K) l s
theorem RB{ops:List Oper}{K:St->Prop}(l:List Oper)(s:St)(h:W8 P C B ops K l s):jL P C B ops l s K:=q5 Ry h
def Wy(P:Program)(C:List (Nat × AV))(B:Nat)(ops:List Oper)(K:St->Prop)(l:List Oper)(s:St):Prop:=Gl P C B ops K (W8 P C B ops K) l s
theorem Rk{ops:List Oper}{K:St->Prop}(l:List Oper)(s:St)(h:Wy P C B ops K l s):jL P C B ops l s K:=q5 RB h
def XI(P:Program)(C:List (Nat × AV))(B:Nat)(ops:List Oper)(K:St->Prop)(l:List Oper)(s:St):Prop:=Gl P C B ops K (Wy P C B ops K) l s
theorem Sa{ops:List Oper}{K:St->Prop}(l:List Oper)(s:St)(h:XI P C B ops K l s):jL P C B ops l s K:=q5 Rk h
def XK(P:Program)(C:List (Nat × AV))(B:Nat)(ops:List Oper)(K:St->Prop)(l:List Oper)(s:St):Prop:=Gl P C B ops K (XI P C B ops K) l s
theorem Sw{ops:List Oper}{K:St->Prop}(l:List Oper)(s:St)(h:XK P C B ops K l s):jL P C B ops l s K:=q5 Sa h
def WZ(P:Program)(C:List (Nat × AV))(B:Nat)(ops:List Oper)(K:St->Prop)(l:List Oper)(s:St):Prop:=Gl P C B ops K (XK P C B ops K) l s
theorem Q3{ops:List Oper}{K:St->Prop}(l:List Oper)(s:St)(h:WZ P C B ops K l s):jL P C B ops l s K:=q5 Sw h
def Wg(P:Program)(C:List (Nat × AV))(B:Nat)(ops:List Oper)(K:St->Prop)(l:List Oper)(s:St):Prop:=Gl P C B ops K (WZ P C B ops K) l s
theorem R7{ops:List Oper}{K:St->Prop}(l:List Oper)(s:St)(h:Wg P C B ops K l s):jL P C B ops l s K:=q5 Q3 h
def Wl(P:Program)(C:List (Nat × AV))(B:Nat)(ops:List Oper)(K:St->Prop)(l:List Oper)(s:St):Prop:=Gl P C B ops K (Wg P C B ops K) l s
theorem S7{ops:List Oper}{K:St->Prop}(l:List Oper)(s:St)(h:Wl P C B ops K l s):jL P C B ops l s K:=q5 R7 h
def W1(P:Program)(C:List (Nat × AV))(B:Nat)(ops:List Oper)(K:St->Prop)(l:List Oper)(s:St):Prop:=Gl P C B ops K (Wl P C B ops K) l s
theorem R6{ops:List Oper}{K:St->Prop}(l:List Oper)(s:St)(h:W1 P C B ops K l s):jL P C B ops l s K:=q5 S7 h
def OV(P:Program)(C:List (Nat × AV))(B:Nat)(ops:List Oper)(K:St->Prop)(l:List Oper)(s:St):Prop:=Gl P C B ops K (W1 P C B ops K) l s
theorem OH{ops:List Oper}{K:St->Prop}(l:List Oper)(s:St)(h:OV P C B ops K l s):jL P C B ops l s K:=q5 R6 h
theorem jL.many{ops l:List Oper}{s:St}{K:St->Prop}(h:OV P C B ops K l s):jL P C B ops l s K:=OH l s h
def WY(P:Program)(C:List (Nat × AV))(B:Nat)(c:Code)(s:St)(Q:Exit->St->Prop):Prop:=eQ P C B c s Q
theorem Rj(c:Code)(s:St)(Q:Exit->St->Prop)(h:WY P C B c s Q):eQ P C B c s Q:=h
def WK(P:Program)(C:List (Nat × AV))(B:Nat)(c:Code)(s:St)(Q:Exit->St->Prop):Prop:=SD P C B (WY P C B) c s Q
theorem R8(c:Code)(s:St)(Q:Exit->St->Prop)(h:WK P C B c s Q):eQ P C B c s Q:=uP Rj h
def Wq(P:Program)(C:List (Nat × AV))(B:Nat)(c:Code)(s:St)(Q:Exit->St->Prop):Prop:=SD P C B (WK P C B) c s Q
theorem RZ(c:Code)(s:St)(Q:Exit->St->Prop)(h:Wq P C B c s Q):eQ P C B c s Q:=uP R8 h
def XL(P:Program)(C:List (Nat × AV))(B:Nat)(c:Code)(s:St)(Q:Exit->St->Prop):Prop:=SD P C B (Wq P C B) c s Q
theorem RX(c:Code)(s:St)(Q:Exit->St->Prop)(h:XL P C B c s Q):eQ P C B c s Q:=uP RZ h
def WC(P:Program)(C:List (Nat × AV))(B:Nat)(c:Code)(s:St)(Q:Exit->St->Prop):Prop:=SD P C B (XL P C B) c s Q
theorem SK(c:Code)(s:St)(Q:Exit->St->Prop)(h:WC P C B c s Q):eQ P C B c s Q:=uP RX h
def WT(P:Program)(C:List (Nat × AV))(B:Nat)(c:Code)(s:St)(Q:Exit->St->Prop):Prop:=SD P C B (WC P C B) c s Q
theorem SE(c:Code)(s:St)(Q:Exit->St->Prop)(h:WT P C B c s Q):eQ P C B c s Q:=uP SK h
def WU(P:Program)(C:List (Nat × AV))(B:Nat)(c:Code)(s:St)(Q:Exit->St->Prop):Prop:=SD P C B (WT P C B) c s Q
theorem SO(c:Code)(s:St)(Q:Exit->St->Prop)(h:WU P C B c s Q):eQ P C B c s Q:=uP SE h
def XM(P:Program)(C:List (Nat × AV))(B:Nat)(c:Code)(s:St)(Q:Exit->St->Prop):Prop:=SD P C B (WU P C B) c s Q
theorem Qu(c:Code)(s:St)(Q:Exit->St->Prop)(h:XM P C B c s Q):eQ P C B c s Q:=uP SO h
def VW(P:Program)(C:List (Nat × AV))(B:Nat)(c:Code)(s:St)(Q:Exit->St->Prop):Prop:=SD P C B (XM P C B) c s Q
theorem SN(c:Code)(s:St)(Q:Exit->St->Prop)(h:VW P C B c s Q):eQ P C B c s Q:=uP Qu h
theorem eQ.many{c:Code}{s:St}{Q:Exit->St->Prop}(h:VW P C B c s Q):eQ P C B c s Q:=SN c s Q h
class XG(p:Prop)(q:outParam Prop):Prop where
 h:q->p
instance{c:Code}{s:St}{Q:Exit->St->Prop}:XG (eQ P C B c s Q) (VW P C B c s Q):=⟨eQ.many⟩
instance{ops l:List Oper}{s:St}{K:St->Prop}:XG (jL P C B ops l s K) (OV P C B ops K l s):=⟨jL.many⟩
instance{ops:List Oper}{tr:List (List Nat)}{base:Nat}{K:St->Prop}{l:List Nat}{recs:List Bf}{s:St}:XG (Nz P C B ops tr base K l recs s) (Xx P C B ops tr base K l recs s):=⟨Nz.go⟩
theorem Xg{p q:Prop}[i:XG p q](x:q):p:=i.h x
theorem Z{p q:Prop}(x:q)(e:q->p:=by(intro x;(conv=>whnf);(repeat(refine Xg ?_;conv=>whnf));exact x)):p:=e x
end
end Go.Ax
namespace Go.Ax
open Go
def CG(i:Nat):List Nat->Bool
 | []=>false
 | j::r=>match Nat.beq j i with
  | true=>true
  | false=>CG i r
def mH(ids:List Nat):aR->aR
 | []=>[]
 | (k,b)::r=>match CG k ids with
  | true=>(k,b)::mH ids r
  | false=>mH ids r
def gQ(ids:List Nat):aR->aR
 | []=>[]
 | (k,b)::r=>match CG k ids with
  | true=>gQ ids r
  | false=>(k,b)::gQ ids r
def rV:List Nat->List (Nat × Nat)
 | []=>[]
 | i::r=>(i,i)::rV r
def Lc(n:Nat):List Nat->Bool
 | []=>true
 | i::r=>Nat.blt i n && Lc n r
def Cx(ids:List Nat):aR->Bool
 | []=>true
 | (k,_)::r=>CG k ids && Cx ids r
theorem eS{ids:List Nat}:∀{m:aR} {p:Nat × AB},p∈mH ids m↔p∈m/\CG p.1 ids=true
 | [],p=>by simp[mH]
 | (k,b)::r,p=>by
  simp only[mH];split
  .rename_i h;rw[ZC,eS (m:=r),ZC];constructor
   .rintro(rfl|⟨h1,h2⟩)
    .exact⟨.inl rfl,h⟩
    .exact⟨.inr h1,h2⟩
   .rintro⟨rfl|h1,h2⟩
    .exact .inl rfl
    .exact .inr ⟨h1,h2⟩
  .rename_i h;rw[eS (m:=r),ZC];constructor
   .rintro⟨h1,h2⟩;exact⟨.inr h1,h2⟩
   .rintro⟨rfl|h1,h2⟩
    .rw[h] at h2;cases h2
    .exact⟨h1,h2⟩
theorem dK{ids:List Nat}:∀{m:aR} {p:Nat × AB},p∈gQ ids m↔p∈m/\CG p.1 ids=false
 | [],p=>by simp[gQ]
 | (k,b)::r,p=>by
  simp only[gQ];split
  .rename_i h;rw[dK (m:=r),ZC];constructor
   .rintro⟨h1,h2⟩;exact⟨.inr h1,h2⟩
   .rintro⟨rfl|h1,h2⟩
    .rw[h] at h2;cases h2
    .exact⟨h1,h2⟩
  .rename_i h;rw[ZC,dK (m:=r),ZC];constructor
   .rintro(rfl|⟨h1,h2⟩)
    .exact⟨.inl rfl,h⟩
    .exact⟨.inr h1,h2⟩
   .rintro⟨rfl|h1,h2⟩
    .exact .inl rfl
    .exact .inr ⟨h1,h2⟩
theorem nK{ids:List Nat}:∀(m:aR),(mH ids m).Sublist m
 | []=>by simp[mH]
 | (k,b)::r=>by
  simp only[mH];split
  .exact(nK r).cons_cons _
  .exact(nK r).cons _
theorem nD{ids:List Nat}:∀(m:aR),(gQ ids m).Sublist m
 | []=>by simp[gQ]
 | (k,b)::r=>by
  simp only[gQ];split
  .exact(nD r).cons _
  .exact(nD r).cons_cons _
theorem DV:∀{ids:List Nat} {i j:Nat},lk (rV ids) i=some j->i=j/\CG i ids=true
 | [],i,j,h=>by simp[rV,lk] at h
 | k::r,i,j,h=>by
  simp only[rV,lk] at h;split at h
  .rename_i e;cases h;exact⟨(Nat.eq_of_beq_eq_true e).symm,by simp only[CG,e]⟩
  .rename_i e;obtain⟨h1,h2⟩:=DV h;exact⟨h1,by simp only[CG,e];exact h2⟩
theorem OA:∀{ids:List Nat} {i:Nat},CG i ids=true->lk (rV ids) i=some i
 | [],i,h=>by simp[CG] at h
 | k::r,i,h=>by
  simp only[CG] at h;simp only[rV,lk];split at h
  .rename_i e;rw[e,Nat.eq_of_beq_eq_true e]
  .rename_i e;rw[e];exact OA h
theorem uC:∀{ids:List Nat} {n i:Nat},Lc n ids=true->CG i ids=true->i<n
 | [],n,i,_,h=>by simp[CG] at h
 | k::r,n,i,h1,h=>by
  simp only[Lc,Y6] at h1;simp only[CG] at h;split at h
  .rename_i e;rw[<-Nat.eq_of_beq_eq_true e];exact Y9 h1.1
  .exact uC h1.2 h
theorem tF:∀{m:aR} {ids:List Nat},Cx ids m=true->∀p∈m,CG p.1 ids=true
 | [],ids,_,p,hp=>by cases hp
 | (k,b)::r,ids,h,p,hp=>by
  simp only[Cx,Y6] at h;rcases ZC.1 hp with rfl|hp
  .exact h.1
  .exact tF h.2 p hp
theorem aJ.useI{P:Program}{C:List (Nat × AV)}{F:FuncId}{args args':List AV}{ms mem:aR}{ns nx:Nat}{Qs K:AV->aR->Nat->Prop}(hΓ:∀p∈C,NN p.2)(ids:List Nat)(h:aJ P C F args' ms ns Qs)
  (hp:mH ids mem=ms) (hargs:iS ms (rV ids) args args') (hM:cZ ms (rV ids) ms) (hc:(kZ ms && Lc ns ids)=true)
  (hk:∀r m n,Qs r m n->NN r/\cZ m (rV ids) m/\(kZ m && Cx ids m)=true/\K r (m++gQ ids mem) nx):aJ P C F args mem nx K:=by
 simp only[Y6] at hc;refine⟨λX D E w vs hD hm hv=>?_⟩;have hinj:J1 (rV ids):=λi j k h1 h2=>by
  have a:=(DV h1).1;have b:=(DV h2).1;omega
 refine(aJ.use (K:=K) (nx:=nx) hΓ h (rV ids) (m1:=ms) (rest:=gQ ids mem) ⟨λp hp'=>?_,λp hp'=>(dK.1 hp').1,λp hp'=>?_,λp h1 q h2=>?_, ?_⟩ ?_ hargs hM.cvm (eM hc.1) hinj (λid i hl=>?_) ?_).run X D E w vs hD hm hv
 .rw[<-hp] at hp';exact(eS.1 hp').1
 .cases hi:CG p.1 ids with
  | true=>left;rw[<-hp];exact eS.2 ⟨hp',hi⟩
  | false=>right;exact dK.2 ⟨hp',hi⟩
 .rw[<-hp] at h1;have a:=(eS.1 h1).2;have b:=(dK.1 h2).2;intro e;rw[e,b] at a;cases a
 .rw[<-hp];exact hm.nod.sublist ((nK mem).map _)
 .exact hm.nod.sublist ((nD mem).map _)
 .obtain⟨h1,h2⟩:=DV hl;rw[<-h1];exact uC hc.2 h2
 .intro r m n hq hn;obtain⟨h1,h2,h3,h4⟩:=hk r m n hq;simp only[Y6] at h3;refine⟨rV ids,r,m,nx,ZA _,.same r h1,h2.cvm,eM h3.1,hinj,λi id hl=>?_,λp h5 q h6=>?_,h4⟩
  .obtain⟨e1,e2⟩:=DV hl;subst e1;exact .inl ⟨uC hc.2 e2,OA e2⟩
  .have a:=tF h3.2 p h5;have b:=(dK.1 h6).2;intro e;rw[e,b] at a;cases a
def g8:List (Nat × Nat)->List Nat
 | []=>[]
 | (i,_)::r=>i::g8 r
def Gq:List (Nat × Nat)->List (Nat × Nat)
 | []=>[]
 | (i,j)::r=>(j,i)::Gq r
def qZ(n:Nat):List (Nat × Nat)->Bool
 | []=>true
 | (_,j)::r=>Nat.blt j n && qZ n r
theorem EN:∀{J:List (Nat × Nat)} {i j:Nat},(j,i)∈Gq J↔(i,j)∈J
 | [],i,j=>by simp[Gq]
 | (a,b)::r,i,j=>by
  simp only[Gq,ZC,EN (J:=r),Prod.mk.injEq];constructor
  .rintro(⟨rfl,rfl⟩|h)
   .exact .inl gj
   .exact .inr h
  .rintro(⟨rfl,rfl⟩|h)
   .exact .inl gj
   .exact .inr h
theorem MJ{J:List (Nat × Nat)}(h:lU (Gq J)=true){i j:Nat}(hm:(i,j)∈J):lk J i=some j:=by
 induction J with
 | nil=>cases hm
 | cons p r ih=>
  obtain⟨a,b⟩:=p;simp only[Gq,lU,Y6] at h;simp only[lk];rcases ZC.1 hm with e|hm'
  .cases e;simp
  .have hne:a≠i:=by
    intro e;subst e;exact qE h.1 _ (EN.2 hm') rfl
   rw[sL hne];exact ih h.2 hm'
theorem mD:∀{J:List (Nat × Nat)} {n:Nat},qZ n J=true->∀p∈J,p.2<n
 | [],n,_,p,hp=>by cases hp
 | (a,b)::r,n,h,p,hp=>by
  simp only[qZ,Y6] at h;rcases ZC.1 hp with rfl|hp
  .exact Y9 h.1
  .exact mD h.2 p hp
theorem aJ.useR{P:Program}{C:List (Nat × AV)}{F:FuncId}{args args':List AV}{ms mem m1:aR}{ns nx:Nat}{Qs K:AV->aR->Nat->Prop}(hΓ:∀p∈C,NN p.2)(J:List (Nat × Nat))(h:aJ P C F args' ms ns Qs)
  (hp:mH (g8 J) mem=m1) (hargs:iS m1 J args args') (hM:cZ m1 J ms) (hc:(kZ ms && (lU J && (lU (Gq J) && qZ ns J)))=true)
  (hk:∀r m n,Qs r m n->∃m',NN r/\cZ m (Gq J) m'/\(kZ m' && Cx (g8 J) m')=true/\K r (m'++gQ (g8 J) mem) nx):aJ P C F args mem nx K:=by
 simp only[Y6] at hc;obtain⟨hc1,hc2,hc3,hc4⟩:=hc;refine⟨λX D E w vs hD hm hv=>?_⟩;refine(aJ.use (K:=K) (nx:=nx) hΓ h J (m1:=m1) (rest:=gQ (g8 J) mem) ⟨λp hp'=>?_,λp hp'=>(dK.1 hp').1,λp hp'=>?_,λp h1 q h2=>?_, ?_⟩ ?_ hargs hM.cvm (eM hc1) (l7 hc2) (λid i hl=>mD hc4 _ (bR hl)) ?_).run X D E w vs hD hm hv
 .rw[<-hp] at hp';exact(eS.1 hp').1
 .cases hi:CG p.1 (g8 J) with
  | true=>left;rw[<-hp];exact eS.2 ⟨hp',hi⟩
  | false=>right;exact dK.2 ⟨hp',hi⟩
 .rw[<-hp] at h1;have a:=(eS.1 h1).2;have b:=(dK.1 h2).2;intro e;rw[e,b] at a;cases a
 .rw[<-hp];exact hm.nod.sublist ((nK mem).map _)
 .exact hm.nod.sublist ((nD mem).map _)
 .intro r m n hq hn;obtain⟨m',h1,h2,h3,h4⟩:=hk r m n hq;simp only[Y6] at h3;refine⟨Gq J,r,m',nx,ZA _,.same r h1,h2.cvm,eM h3.1,l7 hc3,λi id hl=>?_,λp h5 q h6=>?_,h4⟩
  .have hmem:=EN.1 (bR hl);exact .inl ⟨mD hc4 _ hmem,MJ hc3 hmem⟩
  .have a:=tF h3.2 p h5;have b:=(dK.1 h6).2;intro e;rw[e,b] at a;cases a
end Go.Ax
namespace Go.Ax
open Go
def Oe(w w':World):Prop:=w.heap.size<=w'.heap.size/\(∀b,b<w.heap.size->w'.heap[b]? = w.heap[b]?)/\E6 w w'
theorem Oe.refl(w:World):Oe w w:=⟨ZA _,λ_ _=>rfl,.refl _⟩
section
variable {P:Program} {C:List (Nat × AV)} {F:FuncId} {args:List AV} {r:AV}
def Th(C:List (Nat × AV))(w:World):Prop:=∀p∈C,∀(j:Nat) (c:AV),p.2.cells[j]? = some c->∃x E D O,w.cell? ⟨p.1,j,none⟩=some x/\VR E D O w c x
theorem MR.knows{X:Nat->Prop}{E:Nat->dP}{D:Nat->Prop}{mem:aR}{w:World}(hm:MR C X E D mem w):Th C w:=by
 intro p hp j c hc;have:=hm.glo p hp;cases this with
 | ip _ _ _ f h1 h2=>exact⟨f j,E,D,_,by have:=(h1 j c hc).2.1;rwa [ZP] at this,h2 j c hc⟩
theorem Dq{vs:List Value}(hargs:∀(E:Nat->dP) (D O:Nat->Prop) (w:World) (xs:List Value),kY E D O w args xs->xs=vs)
  (h:∀w,Th C w->Calls P F vs.toArray w λe w'=>∃x,e = .returned x/\(∀(E:Nat->dP) (D O:Nat->Prop) (w:World),VR E D O w r x)/\Oe w w') (hF:Nat.beq F YF=false:=by rfl):aU P C F args r:=by
 refine⟨λX D E w xs hD hm hv=>?_⟩;obtain rfl:=hargs _ _ _ _ _ hv;refine .of hF ((h w hm.knows).mono ?_);rintro e w' ⟨x,rfl,hx,g1,g2,g3⟩;obtain⟨m1,ext⟩:=hm.still g1 g2 g3;have hsub:∀i,D i->dn D 0 0 i:=λi hi=>.inl hi
 exact⟨r,x,[],0,E,rfl,C',ZA _,(m1.widen hsub).1,hx _ _ _ _,(ext D λi hi=>hi).wide hsub⟩
theorem Gi{E:Nat->dP}{D O:Nat->Prop}{w:World}{xs:List Value}{k:IntKind}{n:Int}(h:kY E D O w [.int k n] xs):xs=[.int k n]:=by
 obtain⟨hl,hv⟩:=h
 match xs,hl with
 | [x],_=>
  have:=hv 0 _ x rfl rfl;cases this;rfl
end
def gY(l:List UInt8):List AV:=l.map λb=>.int .u8 (b.toNat:Int)
theorem fP(l:List UInt8):jR (gY l):=λa ha=>by
 obtain⟨n,_,rfl⟩:=ZW.1 ha;exact .int _ _
theorem JS(l:List UInt8)(i:Nat):(gY l)[i]? = (l[i]?).map λb=>.int .u8 (b.toNat:Int):=by rw[gY,Zx]
theorem iC(l:List UInt8):(gY l).length=l.length:=by rw[gY,aAC]
theorem Bd(l:List UInt8)(k:Nat):(gY l).take k=gY (l.take k):=by rw[gY,gY,List.map_take]
theorem F5(l:List UInt8)(k:Nat):(gY l).drop k=gY (l.drop k):=by rw[gY,gY,List.map_drop]
theorem Bs(l m:List UInt8):gY (l++m)=gY l++gY m:=by rw[gY,gY,gY,aA1]
theorem s8:∀l:List UInt8,g5 (gY l)=some l
 | []=>rfl
 | b::r=>by
  show g5 (AV.int .u8 (b.toNat:Int)::gY r)=_
  simp only[g5,s8 r];simp
theorem AC:∀l:List UInt8,nR (gY l)=some l
 | []=>rfl
 | b::r=>by
  show nR (AV.int .u8 (Int.ofNat b.toNat)::gY r)=_
  have:Nat.ble b.toNat 255=true:=Y2 (by have:=b.toNat_lt;omega);simp only[nR,AC r,this];simp
theorem XY{P:Program}{F:FuncId}{t:TypeId}
  (hF:∀(blk off cap:Nat) (u:Nat) (d:Array UInt8) (w:World),Sort.Holds (λ(b:UInt8)=>Value.int .u8 (b.toNat:Int)) w blk off d->u<10 ^ d.size->u<18446744073709551616->d.size<4611686018427387904 ->
   Calls P F #[.slice (some ⟨blk,off,none⟩) d.size cap,.int .u64 u] w λe w'=>
    e = .returned (.tuple #[])/\∃(n v':Nat) (dk:Array UInt8),w'=(Sort.putRow (λ(b:UInt8)=>Value.int .u8 (b.toNat:Int)) w blk off dk).drewN n/\Lib.FmtInv d.size u 0 v' dk)
  (xs:List UInt8) (u:Nat) (hu64:u<18446744073709551616) (hlen:1+Lib.nDigits u<=xs.length) (hxl:xs.length<=1000) (hF0:Nat.beq F YF=false:=by rfl) :
  aJ P [] F [.sl 0 1 (Lib.nDigits u),.int .u64 u] [(0,.row t 1 (gY xs))] 1 λr m n=>r = .tup []/\m=[(0,.row t 1 (gY (xs.take 1++Lib.decDigits u++xs.drop (1+Lib.nDigits u))))]:=by
 have hpos:=Lib.nDigits_pos u;refine⟨λX D E w vs hD hm hv=>?_⟩;obtain⟨hl,hv⟩:=hv
 match vs,hl with
 | [s,x],_=>
  have v0:=hv 0 _ s rfl rfl;have v1:=hv 1 _ x rfl rfl;cases v1;have hid:lk [(0,AB.row t 1 (gY xs))] 0=some (.row t 1 (gY xs)):=rfl;have hsz:=yE hm hid;have hn:0<(E 0).n:=by
   rcases ZF (E 0).n with h0|h0
   .obtain⟨t',sz',e1,_⟩:=hm.emp _ ij h0;injection e1 with _ _ e2;have:(gY xs).length=0:=by rw[e2];rfl
    rw[iC] at this;omega
   .exact h0
  obtain⟨o,ho,hsz',arr,fr,rfl,hf,hs,hle,hrow⟩:=hm.blk _ ij hn;simp only at ho hsz' hs hle hrow;rw[hsz] at hrow hle;rw[iC,aAL] at hle;have hcell:∀(i:Nat) (b:UInt8),xs[i]? = some b->arr[i]? = some (Value.int .u8 (b.toNat:Int)):=by
   intro i b hb;obtain⟨v,hv,_,hr⟩:=(hrow i (.int .u8 (b.toNat:Int)) (by rw[JS,hb];rfl)).2 0 _ rfl;cases hr;simpa using hv
  obtain⟨nd,hnd⟩:∃nd,nd=Lib.nDigits u:=cm
  rw[<-hnd] at hpos hlen v0 |-;have hso:∃cap,s = .slice (some ⟨(E 0).b,1,none⟩) nd cap:=by
   cases v0 with
   | sl _ _ _ cap _ h1 h2=>exact⟨cap,by rw[hsz]⟩
   | slz=>omega
   | slzn=>omega
  obtain⟨cap,rfl⟩:=hso;have hds:(((xs.drop 1).take nd).toArray).size=nd:=B'
  have hH:Sort.Holds (λ(b:UInt8)=>Value.int .u8 (b.toNat:Int)) w (E 0).b 1 ((xs.drop 1).take nd).toArray:=by
   intro j hj;rw[hds] at hj;have hx:xs[1+j]? = some xs[1+j]:=Yz om;have hd:(((xs.drop 1).take nd).toArray)[j]! = xs[1+j]:=by
    rw[getElem!_pos _ j om];simp[aBv]
   constructor
   .simp only[World.cell?,ho,hd];exact hcell _ _ hx
   .simp only[World.frozen?,ho];have:=hf (1+j) om;obtain⟨a,b⟩:=fr;simp only at this |-;rw[aAT];simp;omega
  have hcall:=hF (E 0).b 1 cap u _ w hH (by rw[hds,hnd];exact Lib.lt_pow_nDigits u) hu64 (by rw[hds];omega);rw[hds] at hcall;refine .of hF0 (hcall.mono ?_);rintro e w' ⟨rfl,n,v',dk,rfl,hinv⟩;have hdk:dk.size=nd:=hinv.size;have hdig:(Lib.decDigits u).length=nd:=by rw[Lib.decDigits_length,hnd]
  rw[hnd] at hinv;have hat:=λj hj=>Lib.row_is_numeral hinv j hj
  obtain⟨m1,mv,ext⟩:=hm.change (w':=(Sort.putRow (λ(b:UInt8)=>Value.int .u8 (b.toNat:Int)) w (E 0).b 1 dk).drewN n) (xs':=gY (xs.take 1++Lib.decDigits u++xs.drop (1+nd))) (arr:=Sort.putCells (λ(b:UInt8)=>Value.int .u8 (b.toNat:Int)) 1 dk arr) (fr:=fr) hid hn
   (by
    apply aBV;intro k
    show (w.heap.modify (E 0).b (Sort.onCells _))[k]? = _
    have hlt:=oG hm (.inr ⟨_,bR hid,hn,rfl⟩);simp only at hlt;rw[aAG,aBN];by_cases hk:(E 0).b=k
    .subst hk;rw[Y7 rfl,Y7 rfl,Y7 hlt,ho];rfl
    .rw[Y3 hk,Y3 hk]) .go (λj hj=>hf j (by simpa[Sort.putCells] using hj)) (by rw[<-hs];simp[Sort.putCells])
   (by
    refine⟨?_,λi x hi=>?_⟩
    .rw[iC];simp[Sort.putCells,hdig];omega
    .rw[JS] at hi;obtain⟨b,hb,rfl⟩:=aBE.1 hi;refine⟨rfl,λj c hj=>?_⟩;cases j with
     | succ j=>simp[AV.cells] at hj
     | zero=>
      simp[AV.cells] at hj;subst hj;refine⟨.int .u8 (b.toNat:Int), ?_,rfl,.int _ _⟩;simp only[aAL,Zs,Sort.putCells,Array.getElem?_mapIdx];have hil:i<xs.length:=by
       have:=(Y4.1 hb).1;simp[hdig] at this;omega
      have hia:arr[i]? = some (.int .u8 (xs[i].toNat:Int)):=hcell i _ (Yz hil);rw[hia,aAQ];congr 1;rw[List.append_assoc,Zu] at hb;have htl:(xs.take 1).length=1:=B'
      rw[htl] at hb;by_cases h1:i<1
      .rw[Y7 h1,Zb,Y7 h1,Yz hil] at hb;rw[Y3 om,Option.some.inj hb]
      .rw[Y3 h1,Zu,hdig] at hb;by_cases h2:i-1<nd
       .rw[Y7 h2,Yz om] at hb;rw[Y7 om,<-hat (i-1) om,Option.some.inj hb]
       .rw[Y3 h2,Zd] at hb;have e:1+nd+(i-1-nd)=i:=om;rw[e,Yz hil] at hb;rw[Y3 om,Option.some.inj hb])
  have hsub:∀i,D i->dn D 1 1 i:=λi hi=>.inl hi
  exact⟨.tup [],.tuple #[],_,1,E,rfl,⟨rfl,by simp[up]⟩,ZA _,(m1.widen hsub).1,.tup [] #[] rfl sq,(ext D λi hi=>hi).wide hsub⟩
end Go.Ax
namespace Go.Ax
open Go Go.RowKit
theorem zK{P:Program}{w:World}{n:String}{g:Nat}{k:IntKind}{zs:List Int}(hg:P.globalNamed n=some g)(hv:Lib.TabIs P w n k zs) :
  VR (λ_=>⟨0,0,0⟩) (λ_=>False) (OX (λ_=>False) (λ_=>⟨0,0,0⟩) []) w (.ip (.agg (zs.map λz=>AV.int k z))) (.pointer (some ⟨g,0,none⟩)):=by
 refine .ip _ g 0 (λj=>.int k (zs.getD j 0)) (λj c hj=>?_) (λj c hj=>?_)
 .have hj0:j<zs.length:=by have:=(Y4.1 hj).1;simpa[AV.cells] using this
  exact⟨OU _ _,by simpa using hv.cell hg j hj0,rfl⟩
 .have hj0:j<zs.length:=by have:=(Y4.1 hj).1;simpa[AV.cells] using this
  simp[AV.cells,Zx,Yz hj0] at hj;subst hj;simp[Y0,Yz hj0];exact .int _ _
end Go.Ax
namespace Go.Ax
open Go Go.RowKit Go.ChangeShapes
theorem F7{H:Type}{P:Program}{t:TypeId}{ts:List TypeId}{d:DataW H}{r:List (DataW H)}{p:Nat->Bool}(h:(DataW.weightsEach P (t::ts) (d::r)).all p=true):(d.weights P t).all p=true:=by
 rw[DataW.weightsEach,aBO,Y6] at h;exact h.1
theorem Ko{P:Program}{H:Type}{enc:TypeId × Value->H}{w:World}{t e:TypeId}{b0:Nat}{v:Value}{d:DataW H}{ps:List MemPlace}
  (ht:P.underlying t=some (.slice e)) (he:P.underlying e=some (.int .i64)) (hc:P.cellsOf e=1) (hby:P.bytesOf e=8) (hval:Value.okWide P w .any b0 t v) (h:DataW.Trod enc P w 0 (λ_=>true) true t v d ps)
  (hsz:(d.weights P t).all (· <= reachBytes)=true) :
  ∃l:List Int,(∀x∈l,i64 x)/\VR (λ_=>⟨0,0,0⟩) (λ_=>False) (OX (λ_=>False) (λ_=>⟨0,0,0⟩) []) w (.il 1 (aY l)) v/\l.length<=17592186043904:=by
 obtain⟨a0,len0,cap0,rfl⟩:=WideShapes.okWide_slice ht hval;obtain⟨n,hn⟩:=h;rcases ChangeShapes.open_ints ht he hc hn with⟨hcs,_⟩|⟨a,len,cap,zs,hcs,_,hl,_,hz,hx,hcell,hwf⟩
 .simp[Value.cells] at hcs;obtain⟨rfl,rfl,rfl⟩:=hcs;exact⟨[],sq,.iln _,sq⟩
 .simp[Value.cells] at hcs;obtain⟨rfl,rfl,rfl⟩:=hcs;have hsp:a.spot=none:=by
   simp only[Value.okWide,ht,Cell.okWide,Cell.ok,World.has] at hval;exact hval.2.2.2.1
  simp only[if_true] at hz;obtain⟨rfl,-⟩:=Prod.mk.inj hx;have hlen:(zs.take len0).length<=17592186043904:=by
   rw[DataW.weights,ht] at hsz;simp only[List.all_cons,Y6,hby] at hsz;have h1:=Zf hsz.1;simp[lits,reachBytes] at h1;simp;omega
  refine⟨zs.take len0,λx hx=>?_,LE hsp hl om hcell,hlen⟩;have:=hwf x (Ze hx);have e1:IntKind.i64.min = -9223372036854775808:=rfl;have e2:IntKind.i64.max=9223372036854775807:=rfl;simp[Lit.wf,e1,e2] at this;unfold i64;omega
end Go.Ax
namespace Go.Ax
open Go Go.ChangeShapes Go.WideShapes Go.ChangeAt Go.RowKit Go.Lib
theorem GC{H:Type}{P:Program}{t:TypeId}{ts:List TypeId}{d:DataW H}{r:List (DataW H)}{p:Nat->Bool}(h:(DataW.weightsEach P (t::ts) (d::r)).all p=true):(DataW.weightsEach P ts r).all p=true:=by
 rw[DataW.weightsEach,aBO,Y6] at h;exact h.2
end Go.Ax
namespace Go.Ax
open Go
mutual
def bS:bH->Nat
 | .mk _ _ _ kids=>1+c7 kids
def c7:List bH->Nat
 | []=>0
 | v::r=>bS v+c7 r
end
mutual
def i8:bH->Nat
 | .mk _ _ _ kids=>gO kids+1
def gO:List bH->Nat
 | []=>0
 | v::r=>max (i8 v) (gO r)
end
theorem zA:∀(l:List bH) (v:bH),c7 (l++[v])=c7 l+bS v
 | [],v=>by simp[c7]
 | a::r,v=>by simp only[Z0,c7,zA r v];omega
theorem zU:∀(l m:List bH),c7 (l++m)=c7 l+c7 m
 | [],v=>by simp[c7]
 | a::r,v=>by simp only[Z0,c7,zU r v];omega
theorem B3:∀(l:List bH) (v:bH),gO (l++[v])=max (gO l) (i8 v)
 | [],v=>by simp[gO]
 | a::r,v=>by simp only[Z0,gO,B3 r v];omega
theorem Fb:∀v:bH,1<=bS v
 | .mk _ _ _ kids=>by simp only[bS];omega
theorem zL{l:List bH}{k:Nat}(h:k<l.length):c7 (l.take (k+1))=c7 (l.take k)+bS l[k]:=by
 rw[ZE h,zA]
theorem Hq{l:List bH}{k:Nat}(h:k<l.length):gO (l.take (k+1))=max (gO (l.take k)) (i8 l[k]):=by
 rw[ZE h,B3]
theorem qY(l:List bH)(k:Nat):c7 (l.take k)<=c7 l:=by
 have:=zU (l.take k) (l.drop k);rw[List.take_append_drop] at this;omega
theorem Ep{l:List bH}{v:bH}(h:v∈l):bS v<=c7 l:=by
 induction l with
 | nil=>cases h
 | cons a r ih=>
  simp only[c7];rcases ZC.1 h with rfl|h
  .omega
  .have:=ih h;omega
theorem BV(l:List bH):l.length<=c7 l:=by
 induction l with
 | nil=>simp
 | cons a r ih=>simp only[c7,ZZ];have:=Fb a;omega
mutual
theorem qV:∀v:bH,i8 v<=bS v
 | .mk _ _ _ kids=>by simp only[i8,bS];have:=uT kids;omega
theorem uT:∀l:List bH,gO l<=c7 l
 | []=>by simp[gO]
 | v::r=>by simp only[gO,c7];have:=qV v;have:=uT r;omega
end
def xG(c:Int):Bool:=(decide (97<=c) && decide (c<=122)) || (decide (65<=c) && decide (c<=90)) || (decide (48<=c) && decide (c<=57)) || decide (c=95)
def upper(c:Int):Bool:=decide (65<=c) && decide (c<=90)
def gA:List UInt8->Bool
 | []=>false
 | c::r=>decide (r.length<16) && upper c.toNat && r.all λc=>xG c.toNat
theorem JL{c:Int}(h:upper c=true):xG c=true:=by
 simp[upper,xG] at *;omega
def dL(k n:Int)(s:List UInt8)(len:Nat):Bool:=
 if k=0 then decide (s=[]) && decide (len=0)
 else if k=1 then(decide (n=0) || decide (n=1)) && decide (s=[]) && decide (len=0)
 else if k=2 then decide (n=0) && decide (s=[])
 else if k=3 then decide (n=0) && gA s
 else false
def xR(k:Int)(len:Nat):Bool:=decide (len<=256) && (decide (k≠3) || decide (len<=16))
mutual
def cQ:bH->Bool
 | .mk k n s kids=>dL k n s kids.length && d9 kids
def d9:List bH->Bool
 | []=>true
 | v::r=>cQ v && d9 r
end
mutual
def Ev:bH->Bool
 | .mk k _ _ kids=>xR k kids.length && D5 kids
def D5:List bH->Bool
 | []=>true
 | v::r=>Ev v && D5 r
end
def An(k:Int)(len:Nat):Bool:=(decide (k=2) && decide (256<len)) || (decide (k=3) && decide (16<len))
mutual
def oP:bH->Bool
 | .mk k _ _ kids=>An k kids.length || rT kids
def rT:List bH->Bool
 | []=>false
 | v::r=>oP v || rT r
end
theorem KR{k n:Int}{s:List UInt8}{len:Nat}(h:dL k n s len=true):An k len = !xR k len:=by
 rw[Zv];unfold dL at h;simp only[An,xR,aAb,Y6,Zc,Bool.not_eq_true',aAT,aBr,aAZ];repeat' split at h
 all_goals simp at h
 all_goals omega
mutual
theorem FN:∀v:bH,cQ v=true->oP v = !Ev v
 | .mk k n s kids,h=>by
  simp only[cQ,Y6] at h;rw[oP,Ev,KR h.1,D3 kids h.2,Bool.not_and]
theorem D3:∀l:List bH,d9 l=true->rT l = !D5 l
 | [],_=>rfl
 | v::r,h=>by
  simp only[d9,Y6] at h;rw[rT,D5,FN v h.1,D3 r h.2,Bool.not_and]
end
def hZ(v:bH):Int:=if cQ v=false then 1 else if oP v=true\/1024<bS v then 4 else 0
theorem oY{l:List bH}{k:Nat}(h:k<l.length):d9 (l.take (k+1))=(d9 (l.take k) && cQ l[k]):=by
 rw[ZE h];generalize l.take k=m
 induction m with
 | nil=>simp[d9]
 | cons a r ih=>simp only[Z0,d9,ih,aBF]
theorem J7{l:List bH}{k:Nat}(h:k<l.length):rT (l.take (k+1))=(rT (l.take k) || oP l[k]):=by
 rw[ZE h];generalize l.take k=m
 induction m with
 | nil=>simp[rT]
 | cons a r ih=>simp only[Z0,rT,ih,Bool.or_assoc]
theorem n7:∀{l:List bH} {v:bH},v∈l->cQ v=false->d9 l=false
 | a::r,v,h,hf=>by
  simp only[d9];rcases ZC.1 h with rfl|h
  .rw[hf];rfl
  .rw[n7 h hf];simp
theorem Fd:∀{l:List bH} {v:bH},v∈l->oP v=true->rT l=true
 | a::r,v,h,hf=>by
  simp only[rT];rcases ZC.1 h with rfl|h
  .rw[hf];rfl
  .rw[Fd h hf];simp
mutual
def oN{S:Type}(st:S->bH->Nat->Bool × S):bH->Nat->S->Bool × S
 | .mk k n s kids,d,x=>match st x (.mk k n s kids) d with
  | (false,y)=>(false,y)
  | (true,y)=>pI st kids (d+1) y
def pI{S:Type}(st:S->bH->Nat->Bool × S):List bH->Nat->S->Bool × S
 | [],_,x=>(true,x)
 | v::r,d,x=>match oN st v d x with
  | (false,y)=>(false,y)
  | (true,y)=>pI st r d y
end
def dX(x:Nat × Bool × Bool)(v:bH)(_:Nat):Bool × (Nat × Bool × Bool):=
 match v with
 | .mk k n s kids=>(x.2.1 && dL k n s kids.length,(x.1+1,x.2.1 && dL k n s kids.length,x.2.2 && xR k kids.length))
mutual
theorem Fm:∀(v:bH) (d n:Nat) (sm:Bool),∃n',oN dX v d (n,true,sm)=(cQ v,(n',cQ v,if cQ v then sm && Ev v else(oN dX v d (n,true,sm)).2.2.2))/\n'<=n+bS v/\(cQ v=true->n'=n+bS v)
 | .mk k m s kids,d,n,sm=>by
  cases hf:dL k m s kids.length with
  | false=>
   refine⟨n+1, ?_,by simp only[bS];omega,λh=>?_⟩
   .simp only[oN,dX,hf,aBs,cQ,aBG,aAt,if_false]
   .simp[cQ,hf] at h
  | true=>
   obtain⟨n',h1,h2,h3⟩:=Da kids (d+1) (n+1) (sm && xR k kids.length);refine⟨n', ?_,by simp only[bS];omega,λh=>?_⟩
   .simp only[oN,dX,hf,Bool.and_true,cQ,aBl];rw[h1];cases d9 kids with
    | true=>simp[Ev,aBF]
    | false=>simp
   .simp only[cQ,hf,aBl] at h;rw[h3 h];simp only[bS];omega
theorem Da:∀(l:List bH) (d n:Nat) (sm:Bool),∃n',pI dX l d (n,true,sm)=(d9 l,(n',d9 l,if d9 l then sm && D5 l else(pI dX l d (n,true,sm)).2.2.2))/\n'<=n+c7 l/\(d9 l=true->n'=n+c7 l)
 | [],d,n,sm=>⟨n,by simp[pI,d9,D5],sq,λ_=>by simp[c7]⟩
 | v::r,d,n,sm=>by
  obtain⟨n1,h1,h2,h3⟩:=Fm v d n sm;cases hf:cQ v with
  | false=>
   rw[hf] at h1;refine⟨n1, ?_,by simp only[c7];omega,λh=>?_⟩
   .simp only[pI,d9,hf,aBG,aAt,if_false];rw[h1]
   .simp[d9,hf] at h
  | true=>
   rw[hf] at h1;simp only[if_true] at h1;obtain⟨n2,g1,g2,g3⟩:=Da r d n1 (sm && Ev v);refine⟨n2, ?_,by simp only[c7];omega,λh=>?_⟩
   .simp only[pI,d9,hf,aBl];rw[h1];simp only;rw[g1];cases d9 r with
    | true=>simp[D5,aBF]
    | false=>simp
   .simp only[d9,hf,aBl] at h;rw[g3 h,h3 hf];simp only[c7];omega
end
theorem ML(v:bH):(match (oN dX v 1 (0,true,true)).2 with|(n,good,small)=>if good=false then(1:Int) else if small=false\/1024<n then 4 else 0)=hZ v:=by
 obtain⟨n',h1,h2,h3⟩:=Fm v 1 0 true;rw[h1];unfold hZ;cases hf:cQ v with
 | false=>simp
 | true=>
  rw[FN v hf,h3 hf];simp
theorem jF{k n:Int}(hk:i64 k)(hn:i64 n):jG (.mk k n [] []):=by
 simp only[jG,zO];exact⟨hk,hn,sq,sq,trivial⟩
theorem mJ{n:Int}{l:List bH}{k:Int}{s:List UInt8}(hk:i64 k)(hn:i64 n)(hs:s.length<=4294967296)(hl:l.length<=4294967296)(h:zO l):jG (.mk k n s l):=by
 simp only[jG];exact⟨hk,hn,hs,hl,h⟩
theorem BX(l:List bH)(i:Nat)(v:bH):aQ (l.set i v)=(aQ l).set i (cC v):=by simp[gR,aA7]
theorem yA{s:List UInt8}{a:UInt8}(h0:s[0]? = some a)(hl:s.length<=16)(hu:upper a.toNat=true)(hall:∀(j:Nat) (c:UInt8),s[j]? = some c->xG c.toNat=true):gA s=true:=by
 cases s with
 | nil=>simp at h0
 | cons b r=>
  simp at h0;subst h0;simp only[gA,Y6,Zc,Z8];refine⟨⟨by simp at hl;omega,hu⟩,λc hc=>?_⟩;obtain⟨j,hj⟩:=Zl hc;exact hall (j+1) c (su hj)
theorem vK{s:List UInt8}(h:s.length<1):gA s=false:=by
 cases s with
 | nil=>rfl
 | cons b r=>simp at h
theorem tN{s:List UInt8}(h:16<s.length):gA s=false:=by
 cases s with
 | nil=>rfl
 | cons b r=>simp only[gA];simp at h;rw[ZG om];rfl
theorem kW{s:List UInt8}{a:UInt8}(h0:s[0]? = some a)(hu:upper a.toNat=false):gA s=false:=by
 cases s with
 | nil=>rfl
 | cons b r=>simp at h0;subst h0;simp only[gA];rw[hu];simp
theorem yG{s:List UInt8}{j:Nat}{c:UInt8}(h:s[j]? = some c)(hc:xG c.toNat=false):gA s=false:=by
 cases s with
 | nil=>rfl
 | cons b r=>
  cases j with
  | zero=>
   simp at h;subst h;refine kW (a:=b) rfl ?_;cases hu:upper b.toNat with
   | false=>rfl
   | true=>rw[JL hu] at hc;cases hc
  | succ j=>
   simp only[gA];have:(r.all λc=>xG c.toNat)=false:=by
    rw[aAO];intro hall;rw[Z8] at hall;have:=hall c (Y5 (su h));rw[hc] at this;cases this
   rw[this];simp
mutual
def AD(g:Nat->Nat->Nat):bH->Nat->Nat->Nat
 | .mk _ _ _ kids,d,x=>u7 g kids (d+1) (g x d)
def u7(g:Nat->Nat->Nat):List bH->Nat->Nat->Nat
 | [],_,x=>x
 | v::r,d,x=>u7 g r d (AD g v d x)
end
theorem Ew(g:Nat->Nat->Nat):∀(l:List bH) (v:bH) (d x:Nat),u7 g (l++[v]) d x=AD g v d (u7 g l d x)
 | [],v,d,x=>by simp[u7]
 | a::r,v,d,x=>by simp only[Z0,u7];exact Ew g r v d _
theorem Mx(g:Nat->Nat->Nat){l:List bH}{k:Nat}(h:k<l.length)(d x:Nat):u7 g (l.take (k+1)) d x=AD g l[k] d (u7 g (l.take k) d x):=by
 rw[ZE h,Ew]
mutual
theorem RN{g:Nat->Nat->Nat}(hg:∀n d,g n d<=max (n+1) d):∀(v:bH) (d n:Nat),AD g v d n<=max n (d+i8 v)+bS v
 | .mk k m s kids,d,n=>by
  simp only[AD,i8,bS];have h1:=hg n d;have h2:=G8 hg kids (d+1) (g n d);omega
theorem G8{g:Nat->Nat->Nat}(hg:∀n d,g n d<=max (n+1) d):∀(l:List bH) (d n:Nat),u7 g l d n<=max n (d+gO l)+c7 l
 | [],d,n=>by simp only[u7];omega
 | v::r,d,n=>by
  simp only[u7,gO,c7];have h1:=RN hg v d n;have h2:=G8 hg r d (AD g v d n);omega
end
mutual
theorem It:∀(v:bH) (d n:Nat),AD (λn _=>n+1) v d n=n+bS v
 | .mk k m s kids,d,n=>by simp only[AD,bS];rw[FD];omega
theorem FD:∀(l:List bH) (d n:Nat),u7 (λn _=>n+1) l d n=n+c7 l
 | [],d,n=>by simp[u7,c7]
 | v::r,d,n=>by simp only[u7,c7];rw[It,FD];omega
end
theorem FG{S:Type}(st:S->bH->Nat->Bool × S):∀(l:List bH) (v:bH) (d:Nat) (x:S),pI st (l++[v]) d x=match pI st l d x with|(false,y)=>(false,y)|(true,y)=>oN st v d y
 | [],v,d,x=>by
  simp only[Zp,pI];cases oN st v d x with|mk b y=>cases b<;>rfl
 | a::r,v,d,x=>by
  simp only[Z0,pI];cases oN st a d x with
  | mk b y=>cases b with
   | false=>rfl
   | true=>exact FG st r v d y
theorem NQ{S:Type}(st:S->bH->Nat->Bool × S){l:List bH}{k:Nat}(h:k<l.length)(d:Nat)(x y:S)(hx:pI st (l.take k) d x=(true,y)):pI st (l.take (k+1)) d x=oN st l[k] d y:=by
 rw[ZE h,FG,hx]
theorem E3{S:Type}(st:S->bH->Nat->Bool × S):∀{l m:List bH} {d:Nat} {x y:S},pI st l d x=(false,y)->pI st (l++m) d x=(false,y)
 | [],m,d,x,y,h=>by simp[pI] at h
 | a::r,m,d,x,y,h=>by
  simp only[pI] at h;simp only[Z0,pI];cases he:oN st a d x with
  | mk b z=>
   rw[he] at h;cases b with
   | false=>simpa using h
   | true=>exact E3 st h
theorem zN:∀{l:List bH} {v:bH},v∈l->i8 v<=gO l
 | a::r,v,h=>by
  simp only[gO];rcases ZC.1 h with rfl|h
  .omega
  .have:=zN h;omega
theorem xJ:∀(l m:List bH),gO (l++m)=max (gO l) (gO m)
 | [],m=>by simp[gO]
 | a::r,m=>by simp only[Z0,gO,xJ r m];omega
theorem C2(l:List bH)(k:Nat):gO (l.take k)<=gO l:=by
 have:=xJ (l.take k) (l.drop k);rw[List.take_append_drop] at this;omega
mutual
theorem Rl:∀(v:bH) (d:Nat) (x:Nat × Bool × Bool),(oN dX v d x).2.1<=x.1+bS v
 | .mk k n s kids,d,x=>by
  simp only[oN,dX,bS];split
  .rename_i h;simp only[Prod.mk.injEq] at h;rw[<-h.2];simp only;omega
  .rename_i h;simp only[Prod.mk.injEq] at h;rw[<-h.2];have:=DT kids (d+1) (x.1+1,x.2.1 && dL k n s kids.length,x.2.2 && xR k kids.length);simp only at this;omega
theorem DT:∀(l:List bH) (d:Nat) (x:Nat × Bool × Bool),(pI dX l d x).2.1<=x.1+c7 l
 | [],d,x=>by simp[pI]
 | v::r,d,x=>by
  simp only[pI,c7];have h1:=Rl v d x;split
  .rename_i y h;rw[h] at h1;simp only at h1 |-;omega
  .rename_i y h;rw[h] at h1;have:=DT r d y;simp only at h1;omega
end
theorem NS:Lib.itoa 0=[48]:=by rw[Lib.itoa,Y3 om];simp[Lib.decDigits_one]
def sJ(k:Nat):List UInt8:=if k=0 then [] else Lib.decDigits k
theorem HI{k:Nat}(h:k≠0):sJ k=sJ (k/10)++[UInt8.ofNat (48+k%10)]:=by
 unfold sJ;rw[Y3 h];by_cases h10:k<10
 .rw[Y7 om,Lib.decDigits_one h10,Zt h10];rfl
 .rw[Y3 om,Lib.decDigits,dif_neg h10]
def WP(p s:List UInt8):Option (List UInt8):=if p.isPrefixOf s then some (s.drop p.length) else none
end Go.Ax
