/- A part of the proof. -/
import Derived.Test.YthggfhnnkclooaaGreatDoorAx8
import Derived.Below
import Derived.Lib.ConvBytes
import Derived.Lib.ItoaMem
import Derived.ChangeMaps5
import Derived.Lib.LaidTab
import Derived.Lib.ItoaNum
import Derived.Lib.AtoiAllCases
set_option linter.unusedSectionVars false
set_option linter.unusedVariables false
set_option linter.unusedSimpArgs false
set_option maxRecDepth 1000000
set_option maxHeartbeats 16000000
namespace Go.Ax
open Go
theorem nn {v:AV} (h:NN v:=by
  repeat' first
   | assumption
   | exact NN.int _ _
   | exact NN.bool _
   | exact NN.str _
   | exact NN.nsl
   | exact NN.nptr
   | exact NN.nif
   | exact NN.nfn
   | exact NN.nmap
   | exact NN.junk
   | exact bT _
   | exact aW _
   | exact aT _
   | exact jU.nil
   | refine jU.cons ?_ ?_
   | refine NN.agg' ?_
   | refine NN.tup' ?_
   | refine NN.il' ?_
   | refine NN.ip' ?_
   | refine NN.ifc _ _ ?_
   | exact NN.fn _ _ _ sq sq):NN v:=h
theorem dN {l:List AV} (h:jU l:=by
  repeat' first
   | assumption
   | exact NN.int _ _
   | exact NN.bool _
   | exact NN.str _
   | exact NN.nsl
   | exact NN.nptr
   | exact NN.nif
   | exact NN.nfn
   | exact NN.nmap
   | exact NN.junk
   | exact bT _
   | exact aW _
   | exact aT _
   | exact jU.nil
   | refine jU.cons ?_ ?_
   | refine NN.agg' ?_
   | refine NN.tup' ?_
   | refine NN.il' ?_
   | refine NN.ip' ?_
   | refine NN.ifc _ _ ?_
   | exact NN.fn _ _ _ sq sq):jU l:=h
section
variable {P:Program} {C:List (Nat × AV)} {F:FuncId} {args:List AV} {r:AV} {mem:aQ} {nx:Nat} {K:AV->aQ->Nat->Prop}
theorem aX.go(h:aX P [] F args r)(hk:K r mem nx)(ha:jU args:=by exact dN)(hr:NN r:=by exact nn):aJ P [] F args mem nx K:=h.use bJ ha hr hk
theorem aJ.go0{Qs:AV->aQ->Nat->Prop}(h:aJ P [] F args [] 0 Qs)(hk:∀r m n,Qs r m n->∃r',Cv m [] r r'/\K r' mem nx)(ha:jU args:=by exact dN):aJ P [] F args mem nx K:=
 aJ.call0 bJ h ha hk
end
theorem aJ.glob{P:Program}{C:List (Nat × AV)}{F:FuncId}{args:List AV}{mem:aQ}{nx:Nat}{Q:AV->aQ->Nat->Prop}(h:aJ P [] F args mem nx Q):aJ P C F args mem nx Q:=by
 refine⟨λX D E w vs hD hm hv=>?_⟩;refine(h.run X D E w vs hD ⟨hm.low,hm.blk,hm.emp,hm.inj,hm.nod,hm.bar,(λp hp=>by cases hp)⟩ hv).mono ?_;rintro e w' ⟨r,v,m,n,E',h1,h2,h3,h4,h5,h6⟩;exact⟨r,v,m,n,E',h1,h2,h3,⟨h4.low,h4.blk,h4.emp,h4.inj,h4.nod,h4.bar,λp hp=>h6.vr (hm.glo p hp)⟩,h5,h6⟩
def Hh:List (Nat × Nat)->Bool
 | []=>true
 | (i,j)::r=>Nat.beq i j && Hh r
theorem uY:∀{J:List (Nat × Nat)},Hh J=true->∀p∈J,p.1=p.2
 | [],h,p,hp=>by cases hp
 | (i,j)::r,h,p,hp=>by
  simp only[Hh,Y1] at h;rcases Y6.1 hp with rfl|hp
  .exact Nat.eq_of_beq_eq_true h.1
  .exact uY h.2 p hp
theorem aJ.pre{P:Program}{C:List (Nat × AV)}{F:FuncId}{args args':List AV}{mem mem':aQ}{nx:Nat}{K:AV->aQ->Nat->Prop}(hΓ:∀p∈C,NN p.2)(J:List (Nat × Nat))(hid:(Hh J && kG mem')=true)
  (hM:cO mem J mem') (hargs:g6 mem J args args') (h:aJ P C F args' mem' nx K):aJ P C F args mem nx K:=by
 simp only[Y1] at hid;have hid1:=uY hid.1;have hnod:=eI hid.2;refine⟨λX D E w vs hD hm hv=>?_⟩;have hσ:∀id id',lk J id=some id'->D id->D id'/\E id'=E id:=by
  intro id id' h hd;have:=hid1 _ (bL h);simp only at this;subst this;exact⟨hd,rfl⟩
 have hinj:Jv J:=λi j k h1 h2=>by
  have a:=hid1 _ (bL h1);have b:=hid1 _ (bL h2);simp only at a b;omega
 obtain⟨m1,v1,o1⟩:=hm.turn (D':=D) (E':=E) hΓ hσ hM.cvm hnod hinj;have hvs:j8 E D (OX X E mem') w args' vs:=⟨by rw[<-hargs.1];exact hv.1,λj c' x hc' hx=>by
   obtain⟨c,hc⟩:=dS hargs.1 hc';exact v1 c c' (hargs.2 j c c' hc hc') _ (hv.2 j c x hc hx)⟩
 refine(h.run X D E w vs hD m1 hvs).mono ?_;rintro e w' ⟨r,v,m,n,E',h1,h2,h3,h4,h5,h6⟩;refine⟨r,v,m,n,E',h1,h2,h3,h4,h5, ?_⟩;have e0:Ext D E mem w E D mem' w:=⟨λi hi=>hi,λ_ _=>rfl,Y8 _,λ_ _ _=>rfl,λp hp hn=>.inl (o1 p hp hn),.refl _⟩
 exact e0.trans h6
theorem dE{l:List bD}{k:Nat}(h:k<l.length):∃a b c d,bD.mk a b c d∈l/\l[k]? = some (bD.mk a b c d)/\l[k]=bD.mk a b c d/\(aR l)[(k:Int).toNat]? = some (bY (bD.mk a b c d)):=by
 obtain⟨⟨a,b,c,d⟩,hv⟩:∃v,v=l[k]:=⟨_,rfl⟩
 have e:=uW h;rw[<-hv] at e;exact⟨a,b,c,d,by rw[hv];exact ZW h,by rw[hv];exact Yw h,hv.symm,e⟩
section
variable {mem:aQ} {J:List (Nat × Nat)}
theorem Cv.int{k:IntKind}{a b:Int}(h:a=b):Cv mem J (.int k a) (.int k b):=by rw[h];exact .same _ (.int _ _)
theorem Cv.w64{x y:Int}(h:x=y)(hb:i64 y):Cv mem J (.int .i64 (IntKind.i64.wrap x)) (.int .i64 y):=by rw[h,bS hb];exact .same _ (.int _ _)
theorem Cv.wo{x y:Int}(h:x=y:=by omega)(h1 : -9223372036854775808<=y:=by omega)(h2:y<=9223372036854775807:=by omega):Cv mem J (.int .i64 (IntKind.i64.wrap x)) (.int .i64 y):=.w64 h ⟨h1,h2⟩
theorem Cv.wp{x y:Int}(h:x=y:=by simp only;omega)(h1 : -9223372036854775808<=y:=by simp only;omega)(h2:y<=9223372036854775807:=by simp only;omega):Cv mem J (.int .i64 (IntKind.i64.wrap x)) (.int .i64 y):=.w64 h ⟨h1,h2⟩
theorem aF{sl:List (Nat × AV)}{i:Nat}{v:AV}(h:lk sl i=some v:=by rfl)(hn:NN v:=by exact nn):∃w,lk sl i=some w/\Cv mem J w v:=⟨v,h,.same v hn⟩
theorem g6.s{v:AV}{as bs:List AV}(hs:g6 mem J as bs)(hn:NN v:=by exact nn):g6 mem J (v::as) (v::bs):=.cons (.same v hn) hs
theorem aY{G:Type}{a:G}{q:Prop}(h:q):a=a/\q:=⟨rfl,h⟩
theorem aN{sl:List (Nat × AV)}{i id id' x y:Nat}(h:lk sl i=some (.ptr id x y):=by rfl)(h2:lk J id=some id':=by rfl):∃w,lk sl i=some w/\Cv mem J w (.ptr id' x y):=⟨_,h,.ptr id id' x y h2⟩
theorem aP{sl:List (Nat × AV)}{i:Nat}{v:AV}(hn:NN v)(h:lk sl i=some v:=by rfl):∃w,lk sl i=some w/\Cv mem J w v:=⟨v,h,.same v hn⟩
theorem aI{t:TypeId}{sz p:Nat}{ys:List AV}(id:Nat)(hn:jU ys)(h1:lk J id=some p:=by rfl)(h2:lk mem id=some (.row t sz ys):=by rfl):∃id xs,lk J id=some p/\lk mem id=some (.row t sz xs)/\tO mem J xs ys:=⟨id,ys,h1,h2,.same hn⟩
theorem Rs{p q:Prop}(x:q)(e:q->p:=by(intro x;(repeat((first|refine dF.2 ?_|refine aY ?_);((conv=>whnf);(repeat(refine Xg ?_;conv=>whnf)))));exact x)):p:=e x
theorem Rt{p q:Prop}(x:q)(e:q->p:=by(intro x;(conv=>whnf);(repeat(refine Xg ?_;conv=>whnf));(repeat((first|refine dF.2 ?_|refine aY ?_);((conv=>whnf);(repeat(refine Xg ?_;conv=>whnf)))));exact x)):p:=e x
theorem Cv.bool{a b:Bool}(h:a=b):Cv mem J (.bool a) (.bool b):=by rw[h];exact .same _ (.bool _)
theorem xL(k n:Int)(s:List UInt8):Ji mem J (.agg [.int .i64 k,.int .i64 n,.str s,.nsl]) (bY (.mk k n s [])):=
 .agg (.cons (.same _ (.int _ _)) (.cons (.same _ (.int _ _)) (.cons (.same _ (.str _)) (.cons (.nil 4) .nil))))
end
theorem gY(l:List bD)(v:bD):aR (l++[v])=aR l++[bY v]:=by simp[f9]
theorem w64{x y:Int}(h:x=y)(hb:i64 y):IntKind.i64.wrap x=y:=by rw[h,bS hb]
theorem MX{l:List bD}{k:Nat}(h:decide ((k:Int)<((aR l).length:Nat))=true):k<l.length:=by rw[aB] at h;simpa using h
theorem NQ{l:List bD}{k:Nat}(h:decide ((k:Int)<((aR l).length:Nat))=false):l.length<=k:=by rw[aB] at h;simpa using h
theorem Cv.fzR{mem:aQ}{J:List (Nat × Nat)}{id len:Nat}{t:TypeId}{sz:Nat}{xs ys:List AV}(h1:lk mem id=some (.row t sz xs))(h2:lk J id=none)(h3:tO mem J xs ys)(h4:ys.length=len):Cv mem J (.sl id 0 len) (.il sz ys):=
 .fz id 0 len t sz xs ys h1 h2 (by have:=h3.1;omega) h4 (λi x y hx hy=>(h3.2 i x y (su hx) hy).1) (λi x y j c c' hx hy hc hc'=>(h3.2 i x y (su hx) hy).2 j c c' hc hc')
section
variable {P:Program} {C:List (Nat × AV)} {F:FuncId} {args:List AV} {r:AV} {mem:aQ} {nx:Nat} {K:AV->aQ->Nat->Prop}
theorem aX.goG(h:aX P [] F args r)(hk:K r mem nx)(ha:jU args:=by exact dN)(hr:NN r:=by exact nn):aJ P C F args mem nx K:=(h.use bJ ha hr hk).glob
theorem aJ.goG0{Qs:AV->aQ->Nat->Prop}(h:aJ P [] F args [] 0 Qs)(hk:∀r m n,Qs r m n->∃r',Cv m [] r r'/\K r' mem nx)(ha:jU args:=by exact dN):aJ P C F args mem nx K:=
 (aJ.call0 bJ h ha hk).glob
end
theorem SP{l:List bD}{k n:Nat}(h:k<l.length)(hn:l.length=n):∃a b c d,bD.mk a b c d∈l/\l[k]? = some (bD.mk a b c d)/\l[k]=bD.mk a b c d/\(aR l)[0+(k:Int).toNat]? = some (bY (bD.mk a b c d))/\Nat.blt (k:Int).toNat n=true:=by
 obtain⟨a,b,c,d,h1,h2,h3,h4⟩:=dE h;exact⟨a,b,c,d,h1,h2,h3,by rw[ZP];exact h4,Y3 (by simp;omega)⟩
end Go.Ax
namespace Go.Ax
open Go
section
variable {P:Program} {C:List (Nat × AV)} {B:Nat}
structure bI(P:Program)(C:List (Nat × AV))(B:Nat)(c:Code)(s:St)(Q:Exit->St->Prop):Prop where
 run:eH P C B (.loop c) s Q
def J0(P:Program)(C:List (Nat × AV))(B:Nat)(y:Code)(Q:Exit->St->Prop)(e:Exit)(s:St):Prop:=
 match e with
 | .normal=>eH P C B y s Q
 | e=>Q e s
def B8(id:Nat)(Q:Exit->St->Prop)(e:Exit)(s:St):Prop:=
 match e with
 | .exit i=>match Nat.beq i id with
  | true=>Q .normal s
  | false=>Q (.exit i) s
 | e=>Q e s
theorem CU{ops:List Oper}{K:St->Prop}{Kp:Value->St->Prop}:∀{l:List Oper} {s:St},xA P C (Gw P C B) ops l s K (λ_ _=>False)->xA P C (Gw P C B) ops l s K Kp
 | [],s,h=>h
 | o::r,s,h=>by
  simp only[xA] at h |-;split
  .rename_i h1;simp only[h1] at h
  .rename_i h1;simp only[h1] at h;split
   .rename_i h2;simp only[h2] at h;exact CU h
   .rename_i h2;simp only[h2] at h
  .rename_i h1;simp only[h1] at h;split
   .rename_i h2;simp only[h2] at h;split
    .rename_i h3;simp only[h3] at h;exact CU h
    .rename_i h3;simp only[h3] at h
   .rename_i h2;simp only[h2] at h;split
    .rename_i h3;simp only[h3] at h;refine aJ.mono h λv m n h=>?_
     split
     .rename_i h4;simp only[h4] at h;exact CU h
     .rename_i h4;simp only[h4] at h
    .rename_i h3;simp only[h3] at h;split at h<;>exact h.elim
theorem wZ{ops:List Oper}{tr:List (List Nat)}{base:Nat}{K:St->Prop}{Kp:Value->aQ->Nat->Prop}:∀{l:List Nat} {recs:List BD} {s:St},p8 P C (Gw P C B) ops tr base K (λ_ _ _=>False) l recs s->p8 P C (Gw P C B) ops tr base K Kp l recs s
 | [],recs,s,h=>h
 | i::r,recs,s,h=>by
  simp only[p8] at h |-;split
  .rename_i h1;simp only[h1] at h
  .rename_i o h1;simp only[h1] at h;split
   .rename_i h2;simp only[h2] at h
   .rename_i h2;simp only[h2] at h;split
    .rename_i h3;simp only[h3] at h;exact wZ h
    .rename_i h3;simp only[h3] at h
   .rename_i h2;simp only[h2] at h;split
    .rename_i hk;simp only[hk] at h;split
     .rename_i h3;simp only[h3] at h;split
      .rename_i h4;simp only[h4] at h;exact wZ h
      .rename_i h4;simp only[h4] at h
     .rename_i h3;simp only[h3] at h
    .rename_i hk;simp only[hk] at h;split
     .rename_i h3;simp only[h3] at h;split
      .rename_i h4;simp only[h4] at h;exact wZ h
      .rename_i h4;simp only[h4] at h
     .rename_i h3;split at h
      .rename_i h4;exact(h3 _ _ _ _ h4).elim
      .exact h
    .rename_i hk;simp only[hk] at h;split
     .rename_i h3;simp only[h3] at h;split
      .rename_i h4;simp only[h4] at h;exact⟨h.1,wZ h.2⟩
      .rename_i h4;simp only[h4] at h
     .rename_i h3;simp only[h3] at h;split
      .rename_i h4;simp only[h4] at h;refine aJ.mono h λv m n h=>?_
       split
       .rename_i h5;simp only[h5] at h;exact⟨h.1,wZ h.2⟩
       .rename_i h5;simp only[h5] at h
      .rename_i h4;simp only[h4] at h
structure jB(P:Program)(C:List (Nat × AV))(B:Nat)(ops l:List Oper)(s:St)(K:St->Prop):Prop where
 run:xA P C (Gw P C B) ops l s K λ_ _=>False
def Yt(P:Program)(C:List (Nat × AV))(B:Nat)(ops l:List Oper)(s:St)(K:St->Prop):Prop:=
 match l with
 | []=>K s
 | o::r=>EV s λsl mem nx nt=>pH ops sl o.guard
   (EP false P C (Gw P C B) sl mem nx o.op (λv mem nx=>kX s o.dst v mem nx λs'=>jB P C B ops r s' K) λ_ _ _=>False)
   (kX s o.dst (.tup []) mem nx λs'=>jB P C B ops r s' K)
theorem jB.go{ops l:List Oper}{s:St}{K:St->Prop}(h:Yt P C B ops l s K):jB P C B ops l s K:=by
 refine⟨?_⟩;cases l with
 | nil=>exact h
 | cons o r=>
  have h:pH ops s.sl o.guard (EP false P C (Gw P C B) s.sl s.mem s.nx o.op (λv mem nx=>kX s o.dst v mem nx λs'=>jB P C B ops r s' K) λ_ _ _=>False) (kX s o.dst (.tup []) s.mem s.nx λs'=>jB P C B ops r s' K):=h;simp only[xA];rcases tJ h with⟨h1,h⟩|⟨h1,h⟩
  .simp only[h1];rcases BI h with⟨v,m,n,h2,h⟩|⟨h2,F,l,h3,h⟩
   .obtain⟨s',h4,h⟩:=eR h;simp only[h2,h4];exact h.run
   .simp only[h2,h3];refine(show aJ P C F l s.mem s.nx _ from h).mono λv m n h=>?_
    obtain⟨s',h4,h⟩:=eR h;simp only[h4];exact h.run
  .obtain⟨s',h4,h⟩:=eR h;simp only[h1,h4];exact h.run
structure Nt(P:Program)(C:List (Nat × AV))(B:Nat)(ops:List Oper)(tr:List (List Nat))(base:Nat)(K:St->Prop)(l:List Nat)(recs:List BD)(s:St):Prop where
 run:p8 P C (Gw P C B) ops tr base K (λ_ _ _=>False) l recs s
def YE(P:Program)(C:List (Nat × AV))(B:Nat)(ops:List Oper)(tr:List (List Nat))(base:Nat)(K:St->Prop)(l:List Nat)(recs:List BD)(s:St):Prop:=
 match l with
 | []=>K s
 | i::r=>match ops[i]? with
  | none=>False
  | some o=>EV s λsl mem nx nt=>pH ops sl o.guard
   (match kind P o.op with
    | .pure=>match still o.op with
     | true=>qC false P C sl [] nx o.op λv _ _=>kX s o.dst v mem nx λs'=>Nt P C B ops tr base K r (⟨i,sl,true,v⟩::recs) s'
     | false=>gV (λp=>HV tr base ops.length i p.1) mem λm=>qC false P C sl m nx o.op λv _ _=>kX s o.dst v mem nx λs'=>Nt P C B ops tr base K r (⟨i,sl,true,v⟩::recs) s'
    | .al=>pX (base+i) λid=>qC false P C sl [] id o.op λv m _=>match m with
     | [(_,b)]=>kX s o.dst v ((id,b)::mem) nx λs'=>Nt P C B ops tr base K r (⟨i,sl,true,v⟩::recs) s'
     | _=>False
    | .eff=>gV (λp=>HV tr base ops.length i p.1) mem λm=>EP false P C (Gw P C B) sl m nx o.op (λv m nx'=>gV (λp=>!HV tr base ops.length i p.1) mem λrest=>gV (λp=>!s6 p.1 m) rest λrest=>CB m rest λm=>
      kX s o.dst v m nx' λs'=>tE false P C ops tr base i m nx' recs (Nt P C B ops tr base K r recs s')) λ_ _ _=>False)
   (kX s o.dst (.tup []) mem nx λs'=>Nt P C B ops tr base K r (⟨i,sl,false,.tup []⟩::recs) s')
theorem Nt.go{ops:List Oper}{tr:List (List Nat)}{base:Nat}{K:St->Prop}{l:List Nat}{recs:List BD}{s:St}(h:YE P C B ops tr base K l recs s):Nt P C B ops tr base K l recs s:=by
 refine⟨?_⟩;cases l with
 | nil=>exact h
 | cons i r=>
  simp only[YE] at h;simp only[p8];split at h
  .exact h.elim
  .rename_i o ho;simp only[ho];have h:=nU.1 h;rcases tJ h with⟨h1,h⟩|⟨h1,h⟩
   .simp only[h1];split at h
    .rename_i hkd;simp only[hkd];split at h
     .rename_i hst;obtain⟨v,m,n,h2,h⟩:=kO (s:={ sl:=s.sl,mem:=[],nx:=s.nx,nt:=s.nt }) h;obtain⟨m',n',h2'⟩:=qI (s:={ sl:=s.sl,mem:=[],nx:=s.nx,nt:=s.nt }) (s':={ s with mem:=fL tr base ops.length i s.mem }) hst rfl h2;obtain⟨s',h3,h⟩:=eR h;simp only[h2',h3];exact h.run
     .have h:=cL.1 h;obtain⟨v,m,n,h2,h⟩:=kO (s:={ s with mem:=fL tr base ops.length i s.mem }) h;obtain⟨s',h3,h⟩:=eR h;simp only[h2,h3];exact h.run
    .rename_i hkd;simp only[hkd];have h:=eE.1 h;obtain⟨v,m,n,h2,h⟩:=kO (s:={ s with mem:=[],nx:=base+i }) h;simp only[h2];split at h
     .obtain⟨s',h3,h⟩:=eR h;simp only[h3];exact h.run
     .exact h.elim
    .rename_i hkd;simp only[hkd];have h:=cL.1 h;rcases BI (s:={ s with mem:=fL tr base ops.length i s.mem }) h with⟨v,m,n,h2,h⟩|⟨h2,F,l,h3,h⟩
     .simp only[h2];have h:=gM.1 (cL.1 (cL.1 h));obtain⟨s',h3,h⟩:=eR h;have h3:eY s o.dst v (m++qW m (fZ tr base ops.length i s.mem)) n=some s':=h3;simp only[h3];obtain⟨e1,e2,_⟩:=f6 h3;have h:tE false P C ops tr base i (m++qW m (fZ tr base ops.length i s.mem)) n recs (Nt P C B ops tr base K r recs s'):=h;rw[<-e1,<-e2] at h;obtain⟨h4,h⟩:=oI h;exact⟨h4,h.run⟩
     .rw[qL (s':=s) (λx _=>by cases x<;>rfl)] at h3;simp only[h2,h3];refine(show aJ P C F l _ _ _ from h).mono λv m n h=>?_
      have h:=gM.1 (cL.1 (cL.1 h));obtain⟨s',h3,h⟩:=eR h;have h3:eY s o.dst v (m++qW m (fZ tr base ops.length i s.mem)) n=some s':=h3;simp only[h3];obtain⟨e1,e2,_⟩:=f6 h3;have h:tE false P C ops tr base i (m++qW m (fZ tr base ops.length i s.mem)) n recs (Nt P C B ops tr base K r recs s'):=h;rw[<-e1,<-e2] at h;obtain⟨h4,h⟩:=oI h;exact⟨h4,h.run⟩
   .obtain⟨s',h3,h⟩:=eR h;simp only[h1,h3];exact h.run
def Uc(P:Program)(C:List (Nat × AV))(B:Nat)(ops:List Oper)(s:St)(Q:Exit->St->Prop):Prop:=
 match P.follows .mixedOrders with
 | true=>match BL P ops (t8 P ops ops.length [] (yC ops.length)) with
  | true=>EV s λsl mem nx nt=>pX (nx+ops.length) λn=>tZ (t8 P ops ops.length [] (yC ops.length)) λord=>Nt P C B ops (Li ops []) nx (λs'=>Q .normal s') ord [] ⟨sl,mem,n,nt⟩
  | false=>False
 | false=>False
def Ww(Q:Exit->St->Prop)(e:Exit)(s:St):Prop:=
 match e with
 | .goto _=>False
 | e=>Q e s
def Ut(P:Program)(C:List (Nat × AV))(B:Nat)(c:Code)(s:St)(Q:Exit->St->Prop):Prop:=
 match c with
 | .skip=>Q .normal s
 | .seq x y=>eH P C B x s (J0 P C B y Q)
 | .cond c x y=>EV s λsl _ _ _=>kZ C sl c λv=>match v with
  | .bool b=>Nu b (eH P C B x s Q) (eH P C B y s Q)
  | _=>False
 | .block id c=>eH P C B c s (B8 id Q)
 | .loop c=>bI P C B c s Q
 | .label _=>Q .normal s
 | .scope c=>eH P C B c s (Ww Q)
 | .exit i=>Q (.exit i) s
 | .ret=>Q .ret s
 | .region _ ops draw=>match draw with
  | false=>jB P C B ops.toList ops.toList s λs'=>Q .normal s'
  | true=>Uc P C B ops.toList s Q
 | _=>False
theorem eH.go{c:Code}{s:St}{Q:Exit->St->Prop}(h:Ut P C B c s Q):eH P C B c s Q:=by
 cases c with
 | skip=>exact fE (cl:=false) vU .skip s Q h
 | exit i=>exact fE (cl:=false) vU (.exit i) s Q h
 | ret=>exact fE (cl:=false) vU .ret s Q h
 | loop c=>exact(show bI P C B c s Q from h).run
 | label l=>exact fE (cl:=false) vU (.label l) s Q h
 | scope c=>
  have h:eH P C B c s (Ww Q):=h;refine⟨λrd X ds D E a w hD hs hB hr=>DG (wpIn_mono (h.run rd X ds D E a w hD hs hB hr.scope) ?_)⟩;rintro e a' w' ⟨s',E',hq,hB',hs',hext⟩;cases e with
  | goto l=>exact(show False from hq).elim
  | normal=>exact⟨s',E',hq,hB',hs',hext⟩
  | exit i=>exact⟨s',E',hq,hB',hs',hext⟩
  | ret=>exact⟨s',E',hq,hB',hs',hext⟩
  | panic c=>exact⟨s',E',hq,hB',hs',hext⟩
  | outgrown=>exact⟨s',E',hq,hB',hs',hext⟩
 | seq x y=>
  have h:eH P C B x s (J0 P C B y Q):=h;refine⟨λrd X ds D E a w hD hs hB hr=>wpIn_seq (wpIn_mono (h.run rd X ds D E a w hD hs hB hr.seq1) ?_)⟩;rintro e a' w' ⟨s',E',hq,hB',hs',hext⟩;cases e with
  | normal=>
   refine wpIn_mono ((show eH P C B y s' Q from hq).run rd X ds D E' a' w' hD hs' hB' hr.seq2) ?_;rintro e a2 w2 ⟨s2,ρ2,h1,h2,h3,h4⟩;exact⟨s2,ρ2,h1,h2,h3,hext.trans h4⟩
  | exit i=>exact⟨s',E',hq,hB',hs',hext⟩
  | goto l=>exact⟨s',E',hq,hB',hs',hext⟩
  | ret=>exact⟨s',E',hq,hB',hs',hext⟩
  | panic c=>exact⟨s',E',hq,hB',hs',hext⟩
  | outgrown=>exact⟨s',E',hq,hB',hs',hext⟩
 | cond c x y=>
  have h:kZ C s.sl c λv=>match v with
   | .bool b=>Nu b (eH P C B x s Q) (eH P C B y s Q)
   | _=>False:=h
  obtain⟨v,h1,h⟩:=cD h;split at h
  .rename_i b;refine⟨λrd X ds D E a w hD hs hB hr=>?_⟩;have hv:=aZ hs h1;generalize he:a.eval c=cv at hv;cases hv;cases b with
   | true=>exact wpIn_cond_true he ((show eH P C B x s Q from h).run rd X ds D E a w hD hs hB hr.cond1)
   | false=>exact wpIn_cond_false he ((show eH P C B y s Q from h).run rd X ds D E a w hD hs hB hr.cond2)
  .exact h.elim
 | block id c=>
  have h:eH P C B c s (B8 id Q):=h;refine⟨λrd X ds D E a w hD hs hB hr=>wpIn_block (wpIn_mono (h.run rd X ds D E a w hD hs hB hr.block) ?_)⟩;rintro e a' w' ⟨s',E',hq,hB',hs',hext⟩;cases e with
  | exit i=>
   simp only[Exit.inBlock];simp only[B8] at hq;split at hq
   .rename_i hi;rw[Y4 (Nat.eq_of_beq_eq_true hi)];exact⟨s',E',hq,hB',hs',hext⟩
   .rename_i hi;rw[Yz (Z6 hi)];exact⟨s',E',hq,hB',hs',hext⟩
  | normal=>exact⟨s',E',hq,hB',hs',hext⟩
  | goto l=>exact⟨s',E',hq,hB',hs',hext⟩
  | ret=>exact⟨s',E',hq,hB',hs',hext⟩
  | panic c=>exact⟨s',E',hq,hB',hs',hext⟩
  | outgrown=>exact⟨s',E',hq,hB',hs',hext⟩
 | region id ops draw=>
  cases draw with
  | false=>exact rN vU (.region id ops false) s Q (CU (show jB P C B ops.toList ops.toList s _ from h).run)
  | true=>
   refine rN vU (.region id ops true) s Q ?_;have h:Uc P C B ops.toList s Q:=h;unfold Uc at h;simp only[EW];split at h
   .rename_i hmix;simp only[hmix];split at h
    .rename_i hok;simp only[FJ,hok];exact wZ (lD.1 (eE.1 (nU.1 h))).run
    .exact h.elim
   .exact h.elim
 | _=>exact(show False from h).elim
theorem aG{F:FuncId}{fn:Func}{c:Code}{args:List AV}{mem:aQ}{nx:Nat}{Q:AV->aQ->Nat->Prop}(hΓ:∀p∈C,NN p.2)(hf:P.funcs[F]? = some fn)(hb:fn.body=some c)
  (h:s8 fn.ntmps args mem nx λs=>eH P C nx c s (U6 P fn.results.toList (kH nx Q))) (hF:Nat.beq F YF=false:=by rfl):aJ P C F args mem nx Q:=
 (xG hf hb ((jN h).mono λ_ _ h=>Ow h) hF).turn hΓ
def Wg{G:Type}(B:Nat)(R:G->Prop)(ah:G->St)(μ:G->Nat)(x:G)(Q:Exit->St->Prop)(e:Exit)(s:St):Prop:=
 match e with
 | .normal=>H3 B R ah μ x s
 | e=>Q e s
theorem bI.at{c:Code}{s:St}{Q:Exit->St->Prop}{G:Type}(hΓ:∀p∈C,NN p.2)(R:G->Prop)(ah:G->St)(μ:G->Nat)(x:G)(J:List (Nat × Nat))(hx:R x)(h0:Conv B J s (ah x))
  (h:∀x,R x->eH P C B c (ah x) (Wg B R ah μ x Q)):bI P C B c s Q:=by
 refine⟨eH.conv hΓ h0 ?_⟩;refine eH.loop (G:={ x:G // R x }) hΓ (λx=>ah x.1) (λx=>μ x.1) (λx=>?_) ⟨x,hx⟩;refine(h x.1 x.2).mono λe s h=>?_
 cases e with
 | normal=>
  obtain⟨y,J,hy,hc,hlt⟩:=(show H3 B R ah μ x.1 s from h)
  exact⟨⟨y,hy⟩,J,hc,hlt⟩
 | exit i=>exact h
 | goto l=>exact h
 | ret=>exact h
 | panic c=>exact h
 | outgrown=>exact h
theorem bI.ph{c:Code}{s:St}{Q:Exit->St->Prop}(t:TypeId)(sz:Nat)(h:bI P C B c ⟨s.sl,(s.nx,.row t sz [])::s.mem,s.nx+1,s.nt⟩ Q):bI P C B c s Q:=⟨eH.ph t sz h.run⟩
def GG(P:Program)(C:List (Nat × AV))(B:Nat)(ops:List Oper)(K:St->Prop)(next:List Oper->St->Prop)(l:List Oper)(s:St):Prop:=
 match l with
 | []=>K s
 | o::r=>EV s λsl mem nx nt=>pH ops sl o.guard
   (EP false P C (Gw P C B) sl mem nx o.op (λv mem nx=>kX s o.dst v mem nx λs'=>next r s') λ_ _ _=>False)
   (kX s o.dst (.tup []) mem nx λs'=>next r s')
theorem qZ{ops:List Oper}{K:St->Prop}{next:List Oper->St->Prop}(hn:∀r s,next r s->jB P C B ops r s K){l:List Oper}{s:St}(h:GG P C B ops K next l s):jB P C B ops l s K:=by
 refine⟨?_⟩;cases l with
 | nil=>exact h
 | cons o r=>
  have h:pH ops s.sl o.guard (EP false P C (Gw P C B) s.sl s.mem s.nx o.op (λv mem nx=>kX s o.dst v mem nx λs'=>next r s') λ_ _ _=>False) (kX s o.dst (.tup []) s.mem s.nx λs'=>next r s'):=h;simp only[xA];rcases tJ h with⟨h1,h⟩|⟨h1,h⟩
  .simp only[h1];rcases BI h with⟨v,m,n,h2,h⟩|⟨h2,F,l,h3,h⟩
   .obtain⟨s',h4,h⟩:=eR h;simp only[h2,h4];exact(hn _ _ h).run
   .simp only[h2,h3];refine(show aJ P C F l s.mem s.nx _ from h).mono λv m n h=>?_
    obtain⟨s',h4,h⟩:=eR h;simp only[h4];exact(hn _ _ h).run
  .obtain⟨s',h4,h⟩:=eR h;simp only[h1,h4];exact(hn _ _ h).run
def SK(P:Program)(C:List (Nat × AV))(B:Nat)(next:Code->St->(Exit->St->Prop)->Prop)(c:Code)(s:St)(Q:Exit->St->Prop):Prop:=
 match c with
 | .seq x y=>next x s (J0 P C B y Q)
 | .block id c=>next c s (B8 id Q)
 | c=>Ut P C B c s Q
theorem uI{next:Code->St->(Exit->St->Prop)->Prop}(hn:∀c s Q,next c s Q->eH P C B c s Q){c:Code}{s:St}{Q:Exit->St->Prop}(h:SK P C B next c s Q):eH P C B c s Q:=by
 cases c with
 | seq x y=>exact eH.go (show Ut P C B (.seq x y) s Q from hn _ _ _ h)
 | block id c=>exact eH.go (show Ut P C B (.block id c) s Q from hn _ _ _ h)
 | _=>exact eH.go h
def Vi(P:Program)(C:List (Nat × AV))(B:Nat)(ops:List Oper)(K:St->Prop)(l:List Oper)(s:St):Prop:=jB P C B ops l s K
theorem SA{ops:List Oper}{K:St->Prop}(l:List Oper)(s:St)(h:Vi P C B ops K l s):jB P C B ops l s K:=h
def Wr(P:Program)(C:List (Nat × AV))(B:Nat)(ops:List Oper)(K:St->Prop)(l:List Oper)(s:St):Prop:=GG P C B ops K (Vi P C B ops K) l s
theorem Rw{ops:List Oper}{K:St->Prop}(l:List Oper)(s:St)(h:Wr P C B ops K l s):jB P C B ops l s K:=qZ SA h
def V9(P:Program)(C:List (Nat × AV))(B:Nat)(ops:List Oper)(K:St->Prop)(l:List Oper)(s:St):Prop:=GG P C B ops K (Wr P C B ops K) l s
theorem ST{ops:List Oper}{K:St->Prop}(l:List Oper)(s:St)(h:V9 P C B ops K l s):jB P C B ops l s K:=qZ Rw h
def XE(P:Program)(C:List (Nat × AV))(B:Nat)(ops:List Oper)(K:St->Prop)(l:List Oper)(s:St):Prop:=GG P C B ops K (V9 P C B ops K) l s
theorem R3{ops:List Oper}{K:St->Prop}(l:List Oper)(s:St)(h:XE P C B ops K l s):jB P C B ops l s K:=qZ ST h
def Vl(P:Program)(C:List (Nat × AV))(B:Nat)(ops:List Oper)(K:St->Prop)(l:List Oper)(s:St):Prop:=GG P C B ops K (XE P C B ops K) l s
theorem Q4{ops:List Oper}{K:St->Prop}(l:List Oper)(s:St)(h:Vl P C B ops K l s):jB P C B ops l s K:=qZ R3 h
def Vs(P:Program)(C:List (Nat × AV))(B:Nat)(ops:List Oper)(K:St->Prop)(l:List Oper)(s:St):Prop:=GG P C B ops K (Vl P C B ops K) l s
theorem Qi{ops:List Oper}{K:St->Prop}(l:List Oper)(s:St)(h:Vs P C B ops K l s):jB P C B ops l s K:=qZ Q4 h
def XN(P:Program)(C:List (Nat × AV))(B:Nat)(ops:List Oper)(K:St->Prop)(l:List Oper)(s:St):Prop:=GG P C B ops K (Vs P C B ops K) l s
theorem Sj{ops:List Oper}{K:St->Prop}(l:List Oper)(s:St)(h:XN P C B ops K l s):jB P C B ops l s K:=qZ Qi h
def WB(P:Program)(C:List (Nat × AV))(B:Nat)(ops:List Oper)(K:St->Prop)(l:List Oper)(s:St):Prop:=GG P C B ops K (XN P C B ops K) l s
theorem Sl{ops:List Oper}{K:St->Prop}(l:List Oper)(s:St)(h:WB P C B ops K l s):jB P C B ops l s K:=qZ Sj h
def Vz(P:Program)(C:List (Nat × AV))(B:Nat)(ops:List Oper)(K:St->Prop)(l:List Oper)(s:St):Prop:=GG P C B ops K (WB P C B ops K) l s
theorem R6{ops:List Oper}{K:St->Prop}(l:List Oper)(s:St)(h:Vz P C B ops K l s):jB P C B ops l s K:=qZ Sl h
def Wq(P:Program)(C:List (Nat × AV))(B:Nat)(ops:List Oper)(K:St->Prop)(l:List Oper)(s:St):Prop:=GG P C B ops K (Vz P C B ops K) l s
theorem Q3{ops:List Oper}{K:St->Prop}(l:List Oper)(s:St)(h:Wq P C B ops K l s):jB P C B ops l s K:=qZ R6 h
def O5(P:Program)(C:List (Nat × AV))(B:Nat)(ops:List Oper)(K:St->Prop)(l:List Oper)(s:St):Prop:=GG P C B ops K (Wq P C B ops K) l s
theorem Oe{ops:List Oper}{K:St->Prop}(l:List Oper)(s:St)(h:O5 P C B ops K l s):jB P C B ops l s K:=qZ Q3 h
theorem jB.many{ops l:List Oper}{s:St}{K:St->Prop}(h:O5 P C B ops K l s):jB P C B ops l s K:=Oe l s h
def W9(P:Program)(C:List (Nat × AV))(B:Nat)(c:Code)(s:St)(Q:Exit->St->Prop):Prop:=eH P C B c s Q
theorem SD(c:Code)(s:St)(Q:Exit->St->Prop)(h:W9 P C B c s Q):eH P C B c s Q:=h
def V5(P:Program)(C:List (Nat × AV))(B:Nat)(c:Code)(s:St)(Q:Exit->St->Prop):Prop:=SK P C B (W9 P C B) c s Q
theorem R8(c:Code)(s:St)(Q:Exit->St->Prop)(h:V5 P C B c s Q):eH P C B c s Q:=uI SD h
def W3(P:Program)(C:List (Nat × AV))(B:Nat)(c:Code)(s:St)(Q:Exit->St->Prop):Prop:=SK P C B (V5 P C B) c s Q
theorem SI(c:Code)(s:St)(Q:Exit->St->Prop)(h:W3 P C B c s Q):eH P C B c s Q:=uI R8 h
def Vo(P:Program)(C:List (Nat × AV))(B:Nat)(c:Code)(s:St)(Q:Exit->St->Prop):Prop:=SK P C B (W3 P C B) c s Q
theorem TH(c:Code)(s:St)(Q:Exit->St->Prop)(h:Vo P C B c s Q):eH P C B c s Q:=uI SI h
def Wp(P:Program)(C:List (Nat × AV))(B:Nat)(c:Code)(s:St)(Q:Exit->St->Prop):Prop:=SK P C B (Vo P C B) c s Q
theorem Qq(c:Code)(s:St)(Q:Exit->St->Prop)(h:Wp P C B c s Q):eH P C B c s Q:=uI TH h
def Vg(P:Program)(C:List (Nat × AV))(B:Nat)(c:Code)(s:St)(Q:Exit->St->Prop):Prop:=SK P C B (Wp P C B) c s Q
theorem Rl(c:Code)(s:St)(Q:Exit->St->Prop)(h:Vg P C B c s Q):eH P C B c s Q:=uI Qq h
def W0(P:Program)(C:List (Nat × AV))(B:Nat)(c:Code)(s:St)(Q:Exit->St->Prop):Prop:=SK P C B (Vg P C B) c s Q
theorem Su(c:Code)(s:St)(Q:Exit->St->Prop)(h:W0 P C B c s Q):eH P C B c s Q:=uI Rl h
def W4(P:Program)(C:List (Nat × AV))(B:Nat)(c:Code)(s:St)(Q:Exit->St->Prop):Prop:=SK P C B (W0 P C B) c s Q
theorem S9(c:Code)(s:St)(Q:Exit->St->Prop)(h:W4 P C B c s Q):eH P C B c s Q:=uI Su h
def UY(P:Program)(C:List (Nat × AV))(B:Nat)(c:Code)(s:St)(Q:Exit->St->Prop):Prop:=SK P C B (W4 P C B) c s Q
theorem R7(c:Code)(s:St)(Q:Exit->St->Prop)(h:UY P C B c s Q):eH P C B c s Q:=uI S9 h
theorem eH.many{c:Code}{s:St}{Q:Exit->St->Prop}(h:UY P C B c s Q):eH P C B c s Q:=R7 c s Q h
class XG(p:Prop)(q:outParam Prop):Prop where
 h:q->p
instance{c:Code}{s:St}{Q:Exit->St->Prop}:XG (eH P C B c s Q) (UY P C B c s Q):=⟨eH.many⟩
instance{ops l:List Oper}{s:St}{K:St->Prop}:XG (jB P C B ops l s K) (O5 P C B ops K l s):=⟨jB.many⟩
instance{ops:List Oper}{tr:List (List Nat)}{base:Nat}{K:St->Prop}{l:List Nat}{recs:List BD}{s:St}:XG (Nt P C B ops tr base K l recs s) (YE P C B ops tr base K l recs s):=⟨Nt.go⟩
theorem Xg{p q:Prop}[i:XG p q](x:q):p:=i.h x
theorem Z{p q:Prop}(x:q)(e:q->p:=by(intro x;(conv=>whnf);(repeat(refine Xg ?_;conv=>whnf));exact x)):p:=e x
end
end Go.Ax
namespace Go.Ax
open Go
def C7(i:Nat):List Nat->Bool
 | []=>false
 | j::r=>match Nat.beq j i with
  | true=>true
  | false=>C7 i r
def kC(ids:List Nat):aQ->aQ
 | []=>[]
 | (k,b)::r=>match C7 k ids with
  | true=>(k,b)::kC ids r
  | false=>kC ids r
def gZ(ids:List Nat):aQ->aQ
 | []=>[]
 | (k,b)::r=>match C7 k ids with
  | true=>gZ ids r
  | false=>(k,b)::gZ ids r
def rJ:List Nat->List (Nat × Nat)
 | []=>[]
 | i::r=>(i,i)::rJ r
def Lx(n:Nat):List Nat->Bool
 | []=>true
 | i::r=>Nat.blt i n && Lx n r
def Dc(ids:List Nat):aQ->Bool
 | []=>true
 | (k,_)::r=>C7 k ids && Dc ids r
theorem eO{ids:List Nat}:∀{m:aQ} {p:Nat × AB},p∈kC ids m↔p∈m/\C7 p.1 ids=true
 | [],p=>by simp[kC]
 | (k,b)::r,p=>by
  simp only[kC];split
  .rename_i h;rw[Y6,eO (m:=r),Y6];constructor
   .rintro(rfl|⟨h1,h2⟩)
    .exact⟨.inl rfl,h⟩
    .exact⟨.inr h1,h2⟩
   .rintro⟨rfl|h1,h2⟩
    .exact .inl rfl
    .exact .inr ⟨h1,h2⟩
  .rename_i h;rw[eO (m:=r),Y6];constructor
   .rintro⟨h1,h2⟩;exact⟨.inr h1,h2⟩
   .rintro⟨rfl|h1,h2⟩
    .rw[h] at h2;cases h2
    .exact⟨h1,h2⟩
theorem dH{ids:List Nat}:∀{m:aQ} {p:Nat × AB},p∈gZ ids m↔p∈m/\C7 p.1 ids=false
 | [],p=>by simp[gZ]
 | (k,b)::r,p=>by
  simp only[gZ];split
  .rename_i h;rw[dH (m:=r),Y6];constructor
   .rintro⟨h1,h2⟩;exact⟨.inr h1,h2⟩
   .rintro⟨rfl|h1,h2⟩
    .rw[h] at h2;cases h2
    .exact⟨h1,h2⟩
  .rename_i h;rw[Y6,dH (m:=r),Y6];constructor
   .rintro(rfl|⟨h1,h2⟩)
    .exact⟨.inl rfl,h⟩
    .exact⟨.inr h1,h2⟩
   .rintro⟨rfl|h1,h2⟩
    .exact .inl rfl
    .exact .inr ⟨h1,h2⟩
theorem m7{ids:List Nat}:∀(m:aQ),(kC ids m).Sublist m
 | []=>by simp[kC]
 | (k,b)::r=>by
  simp only[kC];split
  .exact(m7 r).cons_cons _
  .exact(m7 r).cons _
theorem nJ{ids:List Nat}:∀(m:aQ),(gZ ids m).Sublist m
 | []=>by simp[gZ]
 | (k,b)::r=>by
  simp only[gZ];split
  .exact(nJ r).cons _
  .exact(nJ r).cons_cons _
theorem DH:∀{ids:List Nat} {i j:Nat},lk (rJ ids) i=some j->i=j/\C7 i ids=true
 | [],i,j,h=>by simp[rJ,lk] at h
 | k::r,i,j,h=>by
  simp only[rJ,lk] at h;split at h
  .rename_i e;cases h;exact⟨(Nat.eq_of_beq_eq_true e).symm,by simp only[C7,e]⟩
  .rename_i e;obtain⟨h1,h2⟩:=DH h;exact⟨h1,by simp only[C7,e];exact h2⟩
theorem Pa:∀{ids:List Nat} {i:Nat},C7 i ids=true->lk (rJ ids) i=some i
 | [],i,h=>by simp[C7] at h
 | k::r,i,h=>by
  simp only[C7] at h;simp only[rJ,lk];split at h
  .rename_i e;rw[e,Nat.eq_of_beq_eq_true e]
  .rename_i e;rw[e];exact Pa h
theorem vP:∀{ids:List Nat} {n i:Nat},Lx n ids=true->C7 i ids=true->i<n
 | [],n,i,_,h=>by simp[C7] at h
 | k::r,n,i,h1,h=>by
  simp only[Lx,Y1] at h1;simp only[C7] at h;split at h
  .rename_i e;rw[<-Nat.eq_of_beq_eq_true e];exact Y5 h1.1
  .exact vP h1.2 h
theorem sL:∀{m:aQ} {ids:List Nat},Dc ids m=true->∀p∈m,C7 p.1 ids=true
 | [],ids,_,p,hp=>by cases hp
 | (k,b)::r,ids,h,p,hp=>by
  simp only[Dc,Y1] at h;rcases Y6.1 hp with rfl|hp
  .exact h.1
  .exact sL h.2 p hp
theorem aJ.useI{P:Program}{C:List (Nat × AV)}{F:FuncId}{args args':List AV}{ms mem:aQ}{ns nx:Nat}{Qs K:AV->aQ->Nat->Prop}(hΓ:∀p∈C,NN p.2)(ids:List Nat)(h:aJ P C F args' ms ns Qs)
  (hp:kC ids mem=ms) (hargs:g6 ms (rJ ids) args args') (hM:cO ms (rJ ids) ms) (hc:(kG ms && Lx ns ids)=true)
  (hk:∀r m n,Qs r m n->NN r/\cO m (rJ ids) m/\(kG m && Dc ids m)=true/\K r (m++gZ ids mem) nx):aJ P C F args mem nx K:=by
 simp only[Y1] at hc;refine⟨λX D E w vs hD hm hv=>?_⟩;have hinj:Jv (rJ ids):=λi j k h1 h2=>by
  have a:=(DH h1).1;have b:=(DH h2).1;omega
 refine(aJ.use (K:=K) (nx:=nx) hΓ h (rJ ids) (m1:=ms) (rest:=gZ ids mem) ⟨λp hp'=>?_,λp hp'=>(dH.1 hp').1,λp hp'=>?_,λp h1 q h2=>?_, ?_⟩ ?_ hargs hM.cvm (eI hc.1) hinj (λid i hl=>?_) ?_).run X D E w vs hD hm hv
 .rw[<-hp] at hp';exact(eO.1 hp').1
 .cases hi:C7 p.1 ids with
  | true=>left;rw[<-hp];exact eO.2 ⟨hp',hi⟩
  | false=>right;exact dH.2 ⟨hp',hi⟩
 .rw[<-hp] at h1;have a:=(eO.1 h1).2;have b:=(dH.1 h2).2;intro e;rw[e,b] at a;cases a
 .rw[<-hp];exact hm.nod.sublist ((m7 mem).map _)
 .exact hm.nod.sublist ((nJ mem).map _)
 .obtain⟨h1,h2⟩:=DH hl;rw[<-h1];exact vP hc.2 h2
 .intro r m n hq hn;obtain⟨h1,h2,h3,h4⟩:=hk r m n hq;simp only[Y1] at h3;refine⟨rJ ids,r,m,nx,Y8 _,.same r h1,h2.cvm,eI h3.1,hinj,λi id hl=>?_,λp h5 q h6=>?_,h4⟩
  .obtain⟨e1,e2⟩:=DH hl;subst e1;exact .inl ⟨vP hc.2 e2,Pa e2⟩
  .have a:=sL h3.2 p h5;have b:=(dH.1 h6).2;intro e;rw[e,b] at a;cases a
def iN:List (Nat × Nat)->List Nat
 | []=>[]
 | (i,_)::r=>i::iN r
def Gz:List (Nat × Nat)->List (Nat × Nat)
 | []=>[]
 | (i,j)::r=>(j,i)::Gz r
def pU(n:Nat):List (Nat × Nat)->Bool
 | []=>true
 | (_,j)::r=>Nat.blt j n && pU n r
theorem Do:∀{J:List (Nat × Nat)} {i j:Nat},(j,i)∈Gz J↔(i,j)∈J
 | [],i,j=>by simp[Gz]
 | (a,b)::r,i,j=>by
  simp only[Gz,Y6,Do (J:=r),Prod.mk.injEq];constructor
  .rintro(⟨rfl,rfl⟩|h)
   .exact .inl ⟨rfl,rfl⟩
   .exact .inr h
  .rintro(⟨rfl,rfl⟩|h)
   .exact .inl ⟨rfl,rfl⟩
   .exact .inr h
theorem MQ{J:List (Nat × Nat)}(h:kV (Gz J)=true){i j:Nat}(hm:(i,j)∈J):lk J i=some j:=by
 induction J with
 | nil=>cases hm
 | cons p r ih=>
  obtain⟨a,b⟩:=p;simp only[Gz,kV,Y1] at h;simp only[lk];rcases Y6.1 hm with e|hm'
  .cases e;simp
  .have hne:a≠i:=by
    intro e;subst e;exact qK h.1 _ (Do.2 hm') rfl
   rw[tH hne];exact ih h.2 hm'
theorem lY:∀{J:List (Nat × Nat)} {n:Nat},pU n J=true->∀p∈J,p.2<n
 | [],n,_,p,hp=>by cases hp
 | (a,b)::r,n,h,p,hp=>by
  simp only[pU,Y1] at h;rcases Y6.1 hp with rfl|hp
  .exact Y5 h.1
  .exact lY h.2 p hp
theorem aJ.useR{P:Program}{C:List (Nat × AV)}{F:FuncId}{args args':List AV}{ms mem m1:aQ}{ns nx:Nat}{Qs K:AV->aQ->Nat->Prop}(hΓ:∀p∈C,NN p.2)(J:List (Nat × Nat))(h:aJ P C F args' ms ns Qs)
  (hp:kC (iN J) mem=m1) (hargs:g6 m1 J args args') (hM:cO m1 J ms) (hc:(kG ms && (kV J && (kV (Gz J) && pU ns J)))=true)
  (hk:∀r m n,Qs r m n->∃m',NN r/\cO m (Gz J) m'/\(kG m' && Dc (iN J) m')=true/\K r (m'++gZ (iN J) mem) nx):aJ P C F args mem nx K:=by
 simp only[Y1] at hc;obtain⟨hc1,hc2,hc3,hc4⟩:=hc;refine⟨λX D E w vs hD hm hv=>?_⟩;refine(aJ.use (K:=K) (nx:=nx) hΓ h J (m1:=m1) (rest:=gZ (iN J) mem) ⟨λp hp'=>?_,λp hp'=>(dH.1 hp').1,λp hp'=>?_,λp h1 q h2=>?_, ?_⟩ ?_ hargs hM.cvm (eI hc1) (mI hc2) (λid i hl=>lY hc4 _ (bL hl)) ?_).run X D E w vs hD hm hv
 .rw[<-hp] at hp';exact(eO.1 hp').1
 .cases hi:C7 p.1 (iN J) with
  | true=>left;rw[<-hp];exact eO.2 ⟨hp',hi⟩
  | false=>right;exact dH.2 ⟨hp',hi⟩
 .rw[<-hp] at h1;have a:=(eO.1 h1).2;have b:=(dH.1 h2).2;intro e;rw[e,b] at a;cases a
 .rw[<-hp];exact hm.nod.sublist ((m7 mem).map _)
 .exact hm.nod.sublist ((nJ mem).map _)
 .intro r m n hq hn;obtain⟨m',h1,h2,h3,h4⟩:=hk r m n hq;simp only[Y1] at h3;refine⟨Gz J,r,m',nx,Y8 _,.same r h1,h2.cvm,eI h3.1,mI hc3,λi id hl=>?_,λp h5 q h6=>?_,h4⟩
  .have hmem:=Do.1 (bL hl);exact .inl ⟨lY hc4 _ hmem,MQ hc3 hmem⟩
  .have a:=sL h3.2 p h5;have b:=(dH.1 h6).2;intro e;rw[e,b] at a;cases a
end Go.Ax
namespace Go.Ax
open Go
def Hl(w w':World):Prop:=w.heap.size<=w'.heap.size/\(∀b,b<w.heap.size->w'.heap[b]? = w.heap[b]?)/\FI w w'
theorem Hl.refl(w:World):Hl w w:=⟨Y8 _,λ_ _=>rfl,.refl _⟩
theorem Bn{w w':World}(h:RowKit.Below w.heap.size w w'):Hl w w':=⟨h.size,h.block,h.os,h.output,h.tape,trivial⟩
theorem Ix(w:World)(e:TypeId)(s:ByteArray):Hl w (Lib.bytesWorld w e s):=by
 refine⟨by rw[Lib.bytesWorld_size];omega,λb hb=>Lib.bytesWorld_at_old w e s b hb, ?_⟩;unfold Lib.bytesWorld World.freeze;split
 .exact .go
 .exact .go
section
variable {P:Program} {C:List (Nat × AV)} {F:FuncId} {args:List AV} {r:AV}
def PK(C:List (Nat × AV))(w:World):Prop:=∀p∈C,∀(j:Nat) (c:AV),p.2.cells[j]? = some c->∃x E D O,w.cell? ⟨p.1,j,none⟩=some x/\VR E D O w c x
theorem MR.knows{X:Nat->Prop}{E:Nat->dP}{D:Nat->Prop}{mem:aQ}{w:World}(hm:MR C X E D mem w):PK C w:=by
 intro p hp j c hc;have:=hm.glo p hp;cases this with
 | ip _ _ _ f h1 h2=>exact⟨f j,E,D,_,by have:=(h1 j c hc).2.1;rwa [ZP] at this,h2 j c hc⟩
theorem rO{vs:List Value}(hargs:∀(E:Nat->dP) (D O:Nat->Prop) (w:World) (xs:List Value),j8 E D O w args xs->xs=vs)
  (h:∀w,PK C w->Calls P F vs.toArray w λe w'=>∃x,e = .returned x/\(∀(E:Nat->dP) (D O:Nat->Prop) (w:World),VR E D O w r x)/\Hl w w') (hF:Nat.beq F YF=false:=by rfl):aX P C F args r:=by
 refine⟨λX D E w xs hD hm hv=>?_⟩;obtain rfl:=hargs _ _ _ _ _ hv;refine .of hF ((h w hm.knows).mono ?_);rintro e w' ⟨x,rfl,hx,g1,g2,g3⟩;obtain⟨m1,ext⟩:=hm.still g1 g2 g3;have hsub:∀i,D i->dn D 0 0 i:=λi hi=>.inl hi
 exact⟨r,x,[],0,E,rfl,⟨rfl,rfl,rfl⟩,Y8 _,(m1.widen hsub).1,hx _ _ _ _,(ext D λi hi=>hi).wide hsub⟩
theorem G2{E:Nat->dP}{D O:Nat->Prop}{w:World}{xs:List Value}{k:IntKind}{n:Int}(h:j8 E D O w [.int k n] xs):xs=[.int k n]:=by
 obtain⟨hl,hv⟩:=h
 match xs,hl with
 | [x],_=>
  have:=hv 0 _ x rfl rfl;cases this;rfl
theorem Gp{E:Nat->dP}{D O:Nat->Prop}{w:World}{xs:List Value}{s:List UInt8}(h:j8 E D O w [.str s] xs):xs=[.string ⟨s.toArray⟩]:=by
 obtain⟨hl,hv⟩:=h
 match xs,hl with
 | [x],_=>
  have:=hv 0 _ x rfl rfl;cases this;rfl
end
def mR(l:List UInt8):List AV:=l.map λb=>.int .u8 (b.toNat:Int)
theorem CG(l:List UInt8):jU (mR l):=λa ha=>by
 obtain⟨n,_,rfl⟩:=ZL.1 ha;exact .int _ _
theorem II(l:List UInt8)(i:Nat):(mR l)[i]? = (l[i]?).map λb=>.int .u8 (b.toNat:Int):=by rw[mR,ZT]
theorem nY(l:List UInt8):(mR l).length=l.length:=by rw[mR,aAs]
theorem FV(l:List UInt8)(k:Nat):(mR l).take k=mR (l.take k):=by rw[mR,mR,List.map_take]
theorem Ep(l:List UInt8)(k:Nat):(mR l).drop k=mR (l.drop k):=by rw[mR,mR,List.map_drop]
theorem sN:∀l:List UInt8,gI (mR l)=some l
 | []=>rfl
 | b::r=>by
  show gI (AV.int .u8 (b.toNat:Int)::mR r)=_
  simp only[gI,sN r];simp
theorem WE{P:Program}{F:FuncId}{t:TypeId}
  (hF:∀(blk off cap:Nat) (u:Nat) (d:Array UInt8) (w:World),Sort.Holds (λ(b:UInt8)=>Value.int .u8 (b.toNat:Int)) w blk off d->u<10 ^ d.size->u<18446744073709551616->d.size<4611686018427387904 ->
   Calls P F #[.slice (some ⟨blk,off,none⟩) d.size cap,.int .u64 u] w λe w'=>
    e = .returned (.tuple #[])/\∃(n v':Nat) (dk:Array UInt8),w'=(Sort.putRow (λ(b:UInt8)=>Value.int .u8 (b.toNat:Int)) w blk off dk).drewN n/\Lib.FmtInv d.size u 0 v' dk)
  (xs:List UInt8) (u:Nat) (hu64:u<18446744073709551616) (hlen:1+Lib.nDigits u<=xs.length) (hxl:xs.length<=1000) (hF0:Nat.beq F YF=false:=by rfl) :
  aJ P [] F [.sl 0 1 (Lib.nDigits u),.int .u64 u] [(0,.row t 1 (mR xs))] 1 λr m n=>r = .tup []/\m=[(0,.row t 1 (mR (xs.take 1++Lib.decDigits u++xs.drop (1+Lib.nDigits u))))]:=by
 have hpos:=Lib.nDigits_pos u;refine⟨λX D E w vs hD hm hv=>?_⟩;obtain⟨hl,hv⟩:=hv
 match vs,hl with
 | [s,x],_=>
  have v0:=hv 0 _ s rfl rfl;have v1:=hv 1 _ x rfl rfl;cases v1;have hid:lk [(0,AB.row t 1 (mR xs))] 0=some (.row t 1 (mR xs)):=rfl;have hsz:=x5 hm hid;have hn:0<(E 0).n:=by
   rcases ZC (E 0).n with h0|h0
   .obtain⟨t',sz',e1,_⟩:=hm.emp _ (bL hid) h0;injection e1 with _ _ e2;have:(mR xs).length=0:=by rw[e2];rfl
    rw[nY] at this;omega
   .exact h0
  obtain⟨o,ho,hsz',arr,fr,rfl,hf,hs,hle,hrow⟩:=hm.blk _ (bL hid) hn;simp only at ho hsz' hs hle hrow;rw[hsz] at hrow hle;rw[nY,aAA] at hle;have hcell:∀(i:Nat) (b:UInt8),xs[i]? = some b->arr[i]? = some (Value.int .u8 (b.toNat:Int)):=by
   intro i b hb;obtain⟨v,hv,_,hr⟩:=(hrow i (.int .u8 (b.toNat:Int)) (by rw[II,hb];rfl)).2 0 _ rfl;cases hr;simpa using hv
  obtain⟨nd,hnd⟩:∃nd,nd=Lib.nDigits u:=⟨_,rfl⟩
  rw[<-hnd] at hpos hlen v0 |-;have hso:∃cap,s = .slice (some ⟨(E 0).b,1,none⟩) nd cap:=by
   cases v0 with
   | sl _ _ _ cap _ h1 h2=>exact⟨cap,by rw[hsz]⟩
   | slz=>omega
   | slzn=>omega
  obtain⟨cap,rfl⟩:=hso;have hds:(((xs.drop 1).take nd).toArray).size=nd:=by simp;omega
  have hH:Sort.Holds (λ(b:UInt8)=>Value.int .u8 (b.toNat:Int)) w (E 0).b 1 ((xs.drop 1).take nd).toArray:=by
   intro j hj;rw[hds] at hj;have hx:xs[1+j]? = some xs[1+j]:=Yw om;have hd:(((xs.drop 1).take nd).toArray)[j]! = xs[1+j]:=by
    rw[getElem!_pos _ j om];simp[aBE]
   constructor
   .simp only[World.cell?,ho,hd];exact hcell _ _ hx
   .simp only[World.frozen?,ho];have:=hf (1+j) om;obtain⟨a,b⟩:=fr;simp only at this |-;rw[aAD];simp;omega
  have hcall:=hF (E 0).b 1 cap u _ w hH (by rw[hds,hnd];exact Lib.lt_pow_nDigits u) hu64 (by rw[hds];omega);rw[hds] at hcall;refine .of hF0 (hcall.mono ?_);rintro e w' ⟨rfl,n,v',dk,rfl,hinv⟩;have hdk:dk.size=nd:=hinv.size;have hdig:(Lib.decDigits u).length=nd:=by rw[Lib.decDigits_length,hnd]
  rw[hnd] at hinv;have hat:=λj hj=>Lib.row_is_numeral hinv j hj
  obtain⟨m1,mv,ext⟩:=hm.change (w':=(Sort.putRow (λ(b:UInt8)=>Value.int .u8 (b.toNat:Int)) w (E 0).b 1 dk).drewN n) (xs':=mR (xs.take 1++Lib.decDigits u++xs.drop (1+nd))) (arr:=Sort.putCells (λ(b:UInt8)=>Value.int .u8 (b.toNat:Int)) 1 dk arr) (fr:=fr) hid hn
   (by
    apply aBY;intro k
    show (w.heap.modify (E 0).b (Sort.onCells _))[k]? = _
    have hlt:=oH hm (.inr ⟨_,bL hid,hn,rfl⟩);simp only at hlt;rw[aAu,aBO];by_cases hk:(E 0).b=k
    .subst hk;rw[Y4 rfl,Y4 rfl,Y4 hlt,ho];rfl
    .rw[Yz hk,Yz hk]) .go (λj hj=>hf j (by simpa[Sort.putCells] using hj)) (by rw[<-hs];simp[Sort.putCells])
   (by
    refine⟨?_,λi x hi=>?_⟩
    .rw[nY];simp[Sort.putCells,hdig];omega
    .rw[II] at hi;obtain⟨b,hb,rfl⟩:=aBC.1 hi;refine⟨rfl,λj c hj=>?_⟩;cases j with
     | succ j=>simp[AV.cells] at hj
     | zero=>
      simp[AV.cells] at hj;subst hj;refine⟨.int .u8 (b.toNat:Int), ?_,rfl,.int _ _⟩;simp only[aAA,Zm,Sort.putCells,Array.getElem?_mapIdx];have hil:i<xs.length:=by
       have:=(Y0.1 hb).1;simp[hdig] at this;omega
      have hia:arr[i]? = some (.int .u8 (xs[i].toNat:Int)):=hcell i _ (Yw hil);rw[hia,aAq];congr 1;rw[List.append_assoc,Zk] at hb;have htl:(xs.take 1).length=1:=by simp;omega
      rw[htl] at hb;by_cases h1:i<1
      .rw[Y4 h1,Za,Y4 h1,Yw hil] at hb;rw[Yz om,Option.some.inj hb]
      .rw[Yz h1,Zk,hdig] at hb;by_cases h2:i-1<nd
       .rw[Y4 h2,Yw om] at hb;rw[Y4 om,<-hat (i-1) om,Option.some.inj hb]
       .rw[Yz h2,ZS] at hb;have e:1+nd+(i-1-nd)=i:=om;rw[e,Yw hil] at hb;rw[Yz om,Option.some.inj hb])
  have hsub:∀i,D i->dn D 1 1 i:=λi hi=>.inl hi
  exact⟨.tup [],.tuple #[],_,1,E,rfl,⟨rfl,by simp[up]⟩,Y8 _,(m1.widen hsub).1,.tup [] #[] rfl sq,(ext D λi hi=>hi).wide hsub⟩
end Go.Ax
namespace Go.Ax
open Go Go.RowKit
theorem Ka{P:Program}{w:World}{n:String}{g:Nat}{k:IntKind}{zs:List Int}(hg:P.globalNamed n=some g)(hv:Lib.TabIs P w n k zs) :
  VR (λ_=>⟨0,0,0⟩) (λ_=>False) (OX (λ_=>False) (λ_=>⟨0,0,0⟩) []) w (.ip (.agg (zs.map λz=>AV.int k z))) (.pointer (some ⟨g,0,none⟩)):=by
 refine .ip _ g 0 (λj=>.int k (zs.getD j 0)) (λj c hj=>?_) (λj c hj=>?_)
 .have hj0:j<zs.length:=by have:=(Y0.1 hj).1;simpa[AV.cells] using this
  exact⟨J1 _ _,by simpa using hv.cell hg j hj0,rfl⟩
 .have hj0:j<zs.length:=by have:=(Y0.1 hj).1;simpa[AV.cells] using this
  simp[AV.cells,ZT,Yw hj0] at hj;subst hj;simp[Yx,Yw hj0];exact .int _ _
end Go.Ax
namespace Go.Ax
open Go Go.RowKit Go.ChangeShapes
theorem AG{H:Type}{P:Program}{t:TypeId}{ts:List TypeId}{d:DataW H}{r:List (DataW H)}{p:Nat->Bool}(h:(DataW.weightsEach P (t::ts) (d::r)).all p=true):(d.weights P t).all p=true:=by
 rw[DataW.weightsEach,aBP,Y1] at h;exact h.1
theorem DO{P:Program}{H:Type}{enc:TypeId × Value->H}{w:World}{t e:TypeId}{b0:Nat}{v:Value}{d:DataW H}{ps:List MemPlace}
  (ht:P.underlying t=some (.slice e)) (he:P.underlying e=some (.int .i64)) (hc:P.cellsOf e=1) (hby:P.bytesOf e=8) (hval:Value.okWide P w .any b0 t v) (h:DataW.Trod enc P w 0 (λ_=>true) true t v d ps)
  (hsz:(d.weights P t).all (· <= reachBytes)=true) :
  ∃l:List Int,(∀x∈l,i64 x)/\VR (λ_=>⟨0,0,0⟩) (λ_=>False) (OX (λ_=>False) (λ_=>⟨0,0,0⟩) []) w (.il 1 (aV l)) v/\l.length<=17592186043904:=by
 obtain⟨a0,len0,cap0,rfl⟩:=WideShapes.okWide_slice ht hval;obtain⟨n,hn⟩:=h;rcases ChangeShapes.open_ints ht he hc hn with⟨hcs,_⟩|⟨a,len,cap,zs,hcs,_,hl,_,hz,hx,hcell,hwf⟩
 .simp[Value.cells] at hcs;obtain⟨rfl,rfl,rfl⟩:=hcs;exact⟨[],sq,.iln _,sq⟩
 .simp[Value.cells] at hcs;obtain⟨rfl,rfl,rfl⟩:=hcs;have hsp:a.spot=none:=by
   simp only[Value.okWide,ht,Cell.okWide,Cell.ok,World.has] at hval;exact hval.2.2.2.1
  simp only[if_true] at hz;obtain⟨rfl,-⟩:=Prod.mk.inj hx;have hlen:(zs.take len0).length<=17592186043904:=by
   rw[DataW.weights,ht] at hsz;simp only[List.all_cons,Y1,hby] at hsz;have h1:=Zh hsz.1;simp[lits,reachBytes] at h1;simp;omega
  refine⟨zs.take len0,λx hx=>?_,Rv hsp hl om hcell,hlen⟩;have:=hwf x (Zg hx);have e1:IntKind.i64.min = -9223372036854775808:=rfl;have e2:IntKind.i64.max=9223372036854775807:=rfl;simp[Lit.wf,e1,e2] at this;unfold i64;omega
end Go.Ax
namespace Go.Ax
open Go Go.ChangeShapes Go.WideShapes Go.ChangeAt Go.RowKit Go.Lib
theorem r7{H:Type}{P:Program}{t:TypeId}{ts:List TypeId}{d:DataW H}{r:List (DataW H)}{p:Nat->Bool}(h:(DataW.weightsEach P (t::ts) (d::r)).all p=true):(DataW.weightsEach P ts r).all p=true:=by
 rw[DataW.weightsEach,aBP,Y1] at h;exact h.2
end Go.Ax
namespace Go.Ax
open Go
mutual
def bN:bD->Nat
 | .mk _ _ _ kids=>1+cY kids
def cY:List bD->Nat
 | []=>0
 | v::r=>bN v+cY r
end
mutual
def iQ:bD->Nat
 | .mk _ _ _ kids=>fY kids+1
def fY:List bD->Nat
 | []=>0
 | v::r=>max (iQ v) (fY r)
end
theorem yY:∀(l:List bD) (v:bD),cY (l++[v])=cY l+bN v
 | [],v=>by simp[cY]
 | a::r,v=>by simp only[Zo,cY,yY r v];omega
theorem AD:∀(l m:List bD),cY (l++m)=cY l+cY m
 | [],v=>by simp[cY]
 | a::r,v=>by simp only[Zo,cY,AD r v];omega
theorem Bw:∀(l:List bD) (v:bD),fY (l++[v])=max (fY l) (iQ v)
 | [],v=>by simp[fY]
 | a::r,v=>by simp only[Zo,fY,Bw r v];omega
theorem Et:∀v:bD,1<=bN v
 | .mk _ _ _ kids=>by simp only[bN];omega
theorem yW{l:List bD}{k:Nat}(h:k<l.length):cY (l.take (k+1))=cY (l.take k)+bN l[k]:=by
 rw[List.take_succ_eq_append_getElem h,yY]
theorem JS{l:List bD}{k:Nat}(h:k<l.length):fY (l.take (k+1))=max (fY (l.take k)) (iQ l[k]):=by
 rw[List.take_succ_eq_append_getElem h,Bw]
theorem qR(l:List bD)(k:Nat):cY (l.take k)<=cY l:=by
 have:=AD (l.take k) (l.drop k);rw[List.take_append_drop] at this;omega
theorem Fq{l:List bD}{v:bD}(h:v∈l):bN v<=cY l:=by
 induction l with
 | nil=>cases h
 | cons a r ih=>
  simp only[cY];rcases Y6.1 h with rfl|h
  .omega
  .have:=ih h;omega
theorem A5(l:List bD):l.length<=cY l:=by
 induction l with
 | nil=>simp
 | cons a r ih=>simp only[cY,Zc];have:=Et a;omega
mutual
theorem qX:∀v:bD,iQ v<=bN v
 | .mk _ _ _ kids=>by simp only[iQ,bN];have:=vK kids;omega
theorem vK:∀l:List bD,fY l<=cY l
 | []=>by simp[fY]
 | v::r=>by simp only[fY,cY];have:=qX v;have:=vK r;omega
end
def xB(c:Int):Bool:=(decide (97<=c) && decide (c<=122)) || (decide (65<=c) && decide (c<=90)) || (decide (48<=c) && decide (c<=57)) || decide (c=95)
def upper(c:Int):Bool:=decide (65<=c) && decide (c<=90)
def fO:List UInt8->Bool
 | []=>false
 | c::r=>decide (r.length<16) && upper c.toNat && r.all λc=>xB c.toNat
theorem IV{c:Int}(h:upper c=true):xB c=true:=by
 simp[upper,xB] at *;omega
def dJ(k n:Int)(s:List UInt8)(len:Nat):Bool:=
 if k=0 then decide (s=[]) && decide (len=0)
 else if k=1 then(decide (n=0) || decide (n=1)) && decide (s=[]) && decide (len=0)
 else if k=2 then decide (n=0) && decide (s=[])
 else if k=3 then decide (n=0) && fO s
 else false
def xE(k:Int)(len:Nat):Bool:=decide (len<=256) && (decide (k≠3) || decide (len<=16))
mutual
def cJ:bD->Bool
 | .mk k n s kids=>dJ k n s kids.length && d9 kids
def d9:List bD->Bool
 | []=>true
 | v::r=>cJ v && d9 r
end
mutual
def E4:bD->Bool
 | .mk k _ _ kids=>xE k kids.length && DF kids
def DF:List bD->Bool
 | []=>true
 | v::r=>E4 v && DF r
end
def zG(k:Int)(len:Nat):Bool:=(decide (k=2) && decide (256<len)) || (decide (k=3) && decide (16<len))
mutual
def oK:bD->Bool
 | .mk k _ _ kids=>zG k kids.length || rS kids
def rS:List bD->Bool
 | []=>false
 | v::r=>oK v || rS r
end
theorem K3{k n:Int}{s:List UInt8}{len:Nat}(h:dJ k n s len=true):zG k len = !xE k len:=by
 rw[Ze];unfold dJ at h;simp only[zG,xE,Z0,Y1,ZR,Bool.not_eq_true',aAD,aA8,aAn];repeat' split at h
 all_goals simp at h
 all_goals omega
mutual
theorem E9:∀v:bD,cJ v=true->oK v = !E4 v
 | .mk k n s kids,h=>by
  simp only[cJ,Y1] at h;rw[oK,E4,K3 h.1,Dp kids h.2,Bool.not_and]
theorem Dp:∀l:List bD,d9 l=true->rS l = !DF l
 | [],_=>rfl
 | v::r,h=>by
  simp only[d9,Y1] at h;rw[rS,DF,E9 v h.1,Dp r h.2,Bool.not_and]
end
def gK(v:bD):Int:=if cJ v=false then 1 else if oK v=true\/1024<bN v then 4 else 0
theorem oS{l:List bD}{k:Nat}(h:k<l.length):d9 (l.take (k+1))=(d9 (l.take k) && cJ l[k]):=by
 rw[List.take_succ_eq_append_getElem h];generalize l.take k=m
 induction m with
 | nil=>simp[d9]
 | cons a r ih=>simp only[Zo,d9,ih,aBF]
theorem Km{l:List bD}{k:Nat}(h:k<l.length):rS (l.take (k+1))=(rS (l.take k) || oK l[k]):=by
 rw[List.take_succ_eq_append_getElem h];generalize l.take k=m
 induction m with
 | nil=>simp[rS]
 | cons a r ih=>simp only[Zo,rS,ih,Bool.or_assoc]
theorem nX:∀{l:List bD} {v:bD},v∈l->cJ v=false->d9 l=false
 | a::r,v,h,hf=>by
  simp only[d9];rcases Y6.1 h with rfl|h
  .rw[hf];rfl
  .rw[nX h hf];simp
theorem E8:∀{l:List bD} {v:bD},v∈l->oK v=true->rS l=true
 | a::r,v,h,hf=>by
  simp only[rS];rcases Y6.1 h with rfl|h
  .rw[hf];rfl
  .rw[E8 h hf];simp
mutual
def oJ{S:Type}(st:S->bD->Nat->Bool × S):bD->Nat->S->Bool × S
 | .mk k n s kids,d,x=>match st x (.mk k n s kids) d with
  | (false,y)=>(false,y)
  | (true,y)=>pY st kids (d+1) y
def pY{S:Type}(st:S->bD->Nat->Bool × S):List bD->Nat->S->Bool × S
 | [],_,x=>(true,x)
 | v::r,d,x=>match oJ st v d x with
  | (false,y)=>(false,y)
  | (true,y)=>pY st r d y
end
def dX(x:Nat × Bool × Bool)(v:bD)(_:Nat):Bool × (Nat × Bool × Bool):=
 match v with
 | .mk k n s kids=>(x.2.1 && dJ k n s kids.length,(x.1+1,x.2.1 && dJ k n s kids.length,x.2.2 && xE k kids.length))
mutual
theorem Ek:∀(v:bD) (d n:Nat) (sm:Bool),∃n',oJ dX v d (n,true,sm)=(cJ v,(n',cJ v,if cJ v then sm && E4 v else(oJ dX v d (n,true,sm)).2.2.2))/\n'<=n+bN v/\(cJ v=true->n'=n+bN v)
 | .mk k m s kids,d,n,sm=>by
  cases hf:dJ k m s kids.length with
  | false=>
   refine⟨n+1, ?_,by simp only[bN];omega,λh=>?_⟩
   .simp only[oJ,dX,hf,aBp,cJ,aBG,aAl,if_false]
   .simp[cJ,hf] at h
  | true=>
   obtain⟨n',h1,h2,h3⟩:=Cl kids (d+1) (n+1) (sm && xE k kids.length);refine⟨n', ?_,by simp only[bN];omega,λh=>?_⟩
   .simp only[oJ,dX,hf,Bool.and_true,cJ,aBb];rw[h1];cases d9 kids with
    | true=>simp[E4,aBF]
    | false=>simp
   .simp only[cJ,hf,aBb] at h;rw[h3 h];simp only[bN];omega
theorem Cl:∀(l:List bD) (d n:Nat) (sm:Bool),∃n',pY dX l d (n,true,sm)=(d9 l,(n',d9 l,if d9 l then sm && DF l else(pY dX l d (n,true,sm)).2.2.2))/\n'<=n+cY l/\(d9 l=true->n'=n+cY l)
 | [],d,n,sm=>⟨n,by simp[pY,d9,DF],sq,λ_=>by simp[cY]⟩
 | v::r,d,n,sm=>by
  obtain⟨n1,h1,h2,h3⟩:=Ek v d n sm;cases hf:cJ v with
  | false=>
   rw[hf] at h1;refine⟨n1, ?_,by simp only[cY];omega,λh=>?_⟩
   .simp only[pY,d9,hf,aBG,aAl,if_false];rw[h1]
   .simp[d9,hf] at h
  | true=>
   rw[hf] at h1;simp only[if_true] at h1;obtain⟨n2,g1,g2,g3⟩:=Cl r d n1 (sm && E4 v);refine⟨n2, ?_,by simp only[cY];omega,λh=>?_⟩
   .simp only[pY,d9,hf,aBb];rw[h1];simp only;rw[g1];cases d9 r with
    | true=>simp[DF,aBF]
    | false=>simp
   .simp only[d9,hf,aBb] at h;rw[g3 h,h3 hf];simp only[cY];omega
end
theorem NG(v:bD):(match (oJ dX v 1 (0,true,true)).2 with|(n,good,small)=>if good=false then(1:Int) else if small=false\/1024<n then 4 else 0)=gK v:=by
 obtain⟨n',h1,h2,h3⟩:=Ek v 1 0 true;rw[h1];unfold gK;cases hf:cJ v with
 | false=>simp
 | true=>
  rw[E9 v hf,h3 hf];simp
theorem iV{k n:Int}(hk:i64 k)(hn:i64 n):iG (.mk k n [] []):=by
 simp only[iG,yI];exact⟨hk,hn,sq,sq,trivial⟩
theorem lW{n:Int}{l:List bD}{k:Int}{s:List UInt8}(hk:i64 k)(hn:i64 n)(hs:s.length<=4294967296)(hl:l.length<=4294967296)(h:yI l):iG (.mk k n s l):=by
 simp only[iG];exact⟨hk,hn,hs,hl,h⟩
theorem A2(l:List bD)(i:Nat)(v:bD):aR (l.set i v)=(aR l).set i (bY v):=by simp[f9,aA9]
theorem y8{s:List UInt8}{a:UInt8}(h0:s[0]? = some a)(hl:s.length<=16)(hu:upper a.toNat=true)(hall:∀(j:Nat) (c:UInt8),s[j]? = some c->xB c.toNat=true):fO s=true:=by
 cases s with
 | nil=>simp at h0
 | cons b r=>
  simp at h0;subst h0;simp only[fO,Y1,ZR,Z3];refine⟨⟨by simp at hl;omega,hu⟩,λc hc=>?_⟩;obtain⟨j,hj⟩:=ZV hc;exact hall (j+1) c (su hj)
theorem vV{s:List UInt8}(h:s.length<1):fO s=false:=by
 cases s with
 | nil=>rfl
 | cons b r=>simp at h
theorem tN{s:List UInt8}(h:16<s.length):fO s=false:=by
 cases s with
 | nil=>rfl
 | cons b r=>simp only[fO];simp at h;rw[ZN om];rfl
theorem kW{s:List UInt8}{a:UInt8}(h0:s[0]? = some a)(hu:upper a.toNat=false):fO s=false:=by
 cases s with
 | nil=>rfl
 | cons b r=>simp at h0;subst h0;simp only[fO];rw[hu];simp
theorem yF{s:List UInt8}{j:Nat}{c:UInt8}(h:s[j]? = some c)(hc:xB c.toNat=false):fO s=false:=by
 cases s with
 | nil=>rfl
 | cons b r=>
  cases j with
  | zero=>
   simp at h;subst h;refine kW (a:=b) rfl ?_;cases hu:upper b.toNat with
   | false=>rfl
   | true=>rw[IV hu] at hc;cases hc
  | succ j=>
   simp only[fO];have:(r.all λc=>xB c.toNat)=false:=by
    rw[aAC];intro hall;rw[Z3] at hall;have:=hall c (Y2 (su h));rw[hc] at this;cases this
   rw[this];simp
mutual
def Ac(g:Nat->Nat->Nat):bD->Nat->Nat->Nat
 | .mk _ _ _ kids,d,x=>tY g kids (d+1) (g x d)
def tY(g:Nat->Nat->Nat):List bD->Nat->Nat->Nat
 | [],_,x=>x
 | v::r,d,x=>tY g r d (Ac g v d x)
end
theorem Fm(g:Nat->Nat->Nat):∀(l:List bD) (v:bD) (d x:Nat),tY g (l++[v]) d x=Ac g v d (tY g l d x)
 | [],v,d,x=>by simp[tY]
 | a::r,v,d,x=>by simp only[Zo,tY];exact Fm g r v d _
theorem MV(g:Nat->Nat->Nat){l:List bD}{k:Nat}(h:k<l.length)(d x:Nat):tY g (l.take (k+1)) d x=Ac g l[k] d (tY g (l.take k) d x):=by
 rw[List.take_succ_eq_append_getElem h,Fm]
mutual
theorem RC{g:Nat->Nat->Nat}(hg:∀n d,g n d<=max (n+1) d):∀(v:bD) (d n:Nat),Ac g v d n<=max n (d+iQ v)+bN v
 | .mk k m s kids,d,n=>by
  simp only[Ac,iQ,bN];have h1:=hg n d;have h2:=F3 hg kids (d+1) (g n d);omega
theorem F3{g:Nat->Nat->Nat}(hg:∀n d,g n d<=max (n+1) d):∀(l:List bD) (d n:Nat),tY g l d n<=max n (d+fY l)+cY l
 | [],d,n=>by simp only[tY];omega
 | v::r,d,n=>by
  simp only[tY,fY,cY];have h1:=RC hg v d n;have h2:=F3 hg r d (Ac g v d n);omega
end
mutual
theorem JZ:∀(v:bD) (d n:Nat),Ac (λn _=>n+1) v d n=n+bN v
 | .mk k m s kids,d,n=>by simp only[Ac,bN];rw[Em];omega
theorem Em:∀(l:List bD) (d n:Nat),tY (λn _=>n+1) l d n=n+cY l
 | [],d,n=>by simp[tY,cY]
 | v::r,d,n=>by simp only[tY,cY];rw[JZ,Em];omega
end
theorem Eg{S:Type}(st:S->bD->Nat->Bool × S):∀(l:List bD) (v:bD) (d:Nat) (x:S),pY st (l++[v]) d x=match pY st l d x with|(false,y)=>(false,y)|(true,y)=>oJ st v d y
 | [],v,d,x=>by
  simp only[Zi,pY];cases oJ st v d x with|mk b y=>cases b<;>rfl
 | a::r,v,d,x=>by
  simp only[Zo,pY];cases oJ st a d x with
  | mk b y=>cases b with
   | false=>rfl
   | true=>exact Eg st r v d y
theorem MS{S:Type}(st:S->bD->Nat->Bool × S){l:List bD}{k:Nat}(h:k<l.length)(d:Nat)(x y:S)(hx:pY st (l.take k) d x=(true,y)):pY st (l.take (k+1)) d x=oJ st l[k] d y:=by
 rw[List.take_succ_eq_append_getElem h,Eg,hx]
theorem Fd{S:Type}(st:S->bD->Nat->Bool × S):∀{l m:List bD} {d:Nat} {x y:S},pY st l d x=(false,y)->pY st (l++m) d x=(false,y)
 | [],m,d,x,y,h=>by simp[pY] at h
 | a::r,m,d,x,y,h=>by
  simp only[pY] at h;simp only[Zo,pY];cases he:oJ st a d x with
  | mk b z=>
   rw[he] at h;cases b with
   | false=>simpa using h
   | true=>exact Fd st h
theorem y9:∀{l:List bD} {v:bD},v∈l->iQ v<=fY l
 | a::r,v,h=>by
  simp only[fY];rcases Y6.1 h with rfl|h
  .omega
  .have:=y9 h;omega
theorem xW:∀(l m:List bD),fY (l++m)=max (fY l) (fY m)
 | [],m=>by simp[fY]
 | a::r,m=>by simp only[Zo,fY,xW r m];omega
theorem Cd(l:List bD)(k:Nat):fY (l.take k)<=fY l:=by
 have:=xW (l.take k) (l.drop k);rw[List.take_append_drop] at this;omega
mutual
theorem RA:∀(v:bD) (d:Nat) (x:Nat × Bool × Bool),(oJ dX v d x).2.1<=x.1+bN v
 | .mk k n s kids,d,x=>by
  simp only[oJ,dX,bN];split
  .rename_i h;simp only[Prod.mk.injEq] at h;rw[<-h.2];simp only;omega
  .rename_i h;simp only[Prod.mk.injEq] at h;rw[<-h.2];have:=Dz kids (d+1) (x.1+1,x.2.1 && dJ k n s kids.length,x.2.2 && xE k kids.length);simp only at this;omega
theorem Dz:∀(l:List bD) (d:Nat) (x:Nat × Bool × Bool),(pY dX l d x).2.1<=x.1+cY l
 | [],d,x=>by simp[pY]
 | v::r,d,x=>by
  simp only[pY,cY];have h1:=RA v d x;split
  .rename_i y h;rw[h] at h1;simp only at h1 |-;omega
  .rename_i y h;rw[h] at h1;have:=Dz r d y;simp only at h1;omega
end
def WJ(p s:List UInt8):Option (List UInt8):=if p.isPrefixOf s then some (s.drop p.length) else none
theorem DL:∀(l m:List UInt8) (acc a:Nat),Lib.parseUint10 acc l = .ok a->Lib.parseUint10 acc (l++m)=Lib.parseUint10 a m
 | [],m,acc,a,h=>by
  simp only[Lib.parseUint10] at h;injection h with h;rw[h];rfl
 | c::r,m,acc,a,h=>by
  simp only[Lib.parseUint10,Zo] at h |-;split at h
  .rename_i h1;rw[Y4 h1];split at h
   .cases h
   .rename_i h2;rw[Yz h2];split at h
    .cases h
    .rename_i h3;rw[Yz h3];exact DL r m _ a h
  .cases h
theorem FL:∀(u:Nat),u<18446744073709551616->Lib.parseUint10 0 (Lib.decDigits u) = .ok u:=by
 intro u
 induction u using Nat.strongRecOn with
 | _ u ih=>
  intro hu;by_cases h10:u<10
  .rw[Lib.decDigits_one h10];have e:(UInt8.ofNat (48+u)).toNat=48+u:=by simp;omega
   simp only[Lib.parseUint10,e];rw[Y4 om,Yz om,Yz om];congr 1;omega
  .rw[Lib.decDigits,dif_neg h10,DL _ _ 0 (u/10) (ih (u/10) om om)];have e:(UInt8.ofNat (48+u%10)).toNat=48+u%10:=by simp;omega
   simp only[Lib.parseUint10,e];rw[Y4 om,Yz om,Yz om];congr 1;omega
theorem JL(u:Nat):∃c r,Lib.decDigits u=c::r/\48<=c.toNat/\c.toNat<=57:=by
 induction u using Nat.strongRecOn with
 | _ u ih=>
  by_cases h10:u<10
  .rw[Lib.decDigits_one h10];have e:(UInt8.ofNat (48+u)).toNat=48+u:=by simp;omega
   exact⟨_,[],rfl,om,om⟩
  .obtain⟨c,r,h1,h2⟩:=ih (u/10) om;rw[Lib.decDigits,dif_neg h10,h1];exact⟨c,_,rfl,h2⟩
theorem M2{n:Int}(h:i64 n):Lib.atoiAll (Lib.itoa n) = .ok n:=by
 unfold i64 at h;unfold Lib.itoa;split
 .have hp:=FL n.natAbs om;obtain⟨c,r,h1,_⟩:=JL n.natAbs;rw[Lib.atoiAll_minus,Lib.parseMag,Yz (by rw[h1];simp),hp,Lib.signed,Yz om];congr 1;omega
 .have hp:=FL n.toNat om;obtain⟨c,r,h1,h2⟩:=JL n.toNat;rw[h1] at hp |-;rw[Lib.atoiAll_plain c r om om,Lib.parseMag,Yz sq,hp,Lib.signless,Yz om];congr 1;omega
end Go.Ax
