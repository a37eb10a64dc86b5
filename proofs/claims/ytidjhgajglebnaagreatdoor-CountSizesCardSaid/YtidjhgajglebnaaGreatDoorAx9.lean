/- A part of the proof. -/
import Derived.Test.YtidjhgajglebnaaGreatDoorAx8
import Derived.Below
import Derived.Lib.ConvBytes
import Derived.Lib.ItoaMem
import Derived.ChangeMaps5
import Derived.Lib.LaidTab
import Derived.Lib.ItoaNum
import Derived.Lib.AtoiAllCases
set_option linter.unusedVariables false
set_option linter.unusedSimpArgs false
set_option maxRecDepth 1000000
set_option maxHeartbeats 16000000
namespace Go.Ax
open Go
variable{sl:List (Nat × AV)}{n i k sz id len:Nat}{t:TypeId}{Q Qs:AV->aP->Nat->Prop}{v:AV}{V:Type}{xs ys as:List AV}{l:List aQ}{b:Bool}
theorem nn(h:NN v:=by
  repeat' first
   | assumption
   | exact NN.int _ _
   | exact NN.bool _
   | exact NN.str _
   | exact NN.nsl
   | exact NN.nptr
   | exact NN.nif
   | exact NN.nfn
   | exact NN.nmap
   | exact NN.junk
   | exact dC _
   | exact bK _
   | exact bH _
   | exact kZ.nil
   | refine kZ.cons ?_ ?_
   | refine NN.agg' ?_
   | refine NN.tup' ?_
   | refine NN.il' ?_
   | refine NN.ip' ?_
   | refine NN.ifc _ _ ?_
   | exact NN.fn _ _ _ sq sq):NN v:=h
theorem dO {l:List AV} (h:kZ l:=by
  repeat' first
   | assumption
   | exact NN.int _ _
   | exact NN.bool _
   | exact NN.str _
   | exact NN.nsl
   | exact NN.nptr
   | exact NN.nif
   | exact NN.nfn
   | exact NN.nmap
   | exact NN.junk
   | exact dC _
   | exact bK _
   | exact bH _
   | exact kZ.nil
   | refine kZ.cons ?_ ?_
   | refine NN.agg' ?_
   | refine NN.tup' ?_
   | refine NN.il' ?_
   | refine NN.ip' ?_
   | refine NN.ifc _ _ ?_
   | exact NN.fn _ _ _ sq sq):kZ l:=h
section
variable {P:Program} {Z:List (Nat × AV)} {F:FuncId} {args:List AV} {r:AV} {mem:aP} {nx:Nat} {K:AV->aP->Nat->Prop}
theorem aT.go(h:aT P [] F args r)(hk:K r mem nx)(ha:kZ args:=by exact dO)(hr:NN r:=by exact nn):aH P [] F args mem nx K:=h.use bE ha hr hk
theorem aH.go0(h:aH P [] F args [] 0 Qs)(hk:∀r m n,Qs r m n->∃r',Cv m [] r r'/\K r' mem nx)(ha:kZ args:=by exact dO):aH P [] F args mem nx K:=
 aH.call0 bE h ha hk
end
theorem aH.glob{P:Program}{Z:List (Nat × AV)}{F:FuncId}{args:List AV}{mem:aP}{nx:Nat}(h:aH P [] F args mem nx Q):aH P Z F args mem nx Q:=by
 refine⟨λX D C w vs hD hm hv=>?_⟩;refine(h.run X D C w vs hD ⟨hm.low,hm.blk,hm.emp,hm.inj,hm.nod,hm.bar,(λp hp=>by cases hp)⟩ hv).mono ?_;rintro e w' ⟨r,v,m,n,C',h1,h2,h3,h4,h5,h6⟩;exact⟨r,v,m,n,C',h1,h2,h3,⟨h4.low,h4.blk,h4.emp,h4.inj,h4.nod,h4.bar,λp hp=>h6.vr (hm.glo p hp)⟩,h5,h6⟩
def Na:List (Nat × Nat)->Bool
 | []=>true
 | (i,j)::r=>Nat.beq i j && Na r
theorem C4:∀{J:List (Nat × Nat)},Na J=true->∀p∈J,p.1=p.2
 | [],h,p,hp=>by cases hp
 | (i,j)::r,h,p,hp=>by
  simp only[Na,aAd] at h;rcases aAj.1 hp with rfl|hp
  .exact Nat.eq_of_beq_eq_true h.1
  .exact C4 h.2 p hp
theorem aH.pre{P:Program}{Z:List (Nat × AV)}{F:FuncId}{args args':List AV}{mem mem':aP}{nx:Nat}{K:AV->aP->Nat->Prop}(hΓ:∀p∈Z,NN p.2)(J:List (Nat × Nat))(hid:(Na J && pU mem')=true)
  (hM:dR mem J mem') (hargs:jB mem J args args') (h:aH P Z F args' mem' nx K):aH P Z F args mem nx K:=by
 simp only[aAd] at hid;have hid1:=C4 hid.1;have hnod:=gU hid.2;refine⟨λX D C w vs hD hm hv=>?_⟩;have hσ:∀id id',lk J id=some id'->D id->D id'/\C id'=C id:=by
  intro id id' h hd;have:=hid1 _ (b8 h);simp only at this;subst this;exact⟨hd,rfl⟩
 have hinj:Si J:=λi j k h1 h2=>by
  have a:=hid1 _ (b8 h1);have b:=hid1 _ (b8 h2);simp only at a b;omega
 obtain⟨m1,v1,o1⟩:=hm.turn (D':=D) (C':=C) hΓ hσ hM.cvm hnod hinj;have hvs:m9 C D (OX X C mem') w args' vs:=⟨by rw[<-hargs.1];exact hv.1,λj c' x hc' hx=>by
   obtain⟨c,hc⟩:=dZ hargs.1 hc';exact v1 c c' (hargs.2 j c c' hc hc') _ (hv.2 j c x hc hx)⟩
 refine(h.run X D C w vs hD m1 hvs).mono ?_;rintro e w' ⟨r,v,m,n,C',h1,h2,h3,h4,h5,h6⟩;refine⟨r,v,m,n,C',h1,h2,h3,h4,h5, ?_⟩;have e0:Ext D C mem w C D mem' w:=⟨λi hi=>hi,λ_ _=>rfl,aAp _,λ_ _ _=>rfl,λp hp hn=>.inl (o1 p hp hn),.refl _⟩
 exact e0.trans h6
theorem cX(h:k<l.length):∃a b c d,aQ.mk a b c d∈l/\l[k]? = some (aQ.mk a b c d)/\l[k]=aQ.mk a b c d/\(aU l)[(k:Int).toNat]? = some (cO (aQ.mk a b c d)):=by
 obtain⟨⟨a,b,c,d⟩,hv⟩:∃v,v=l[k]:=⟨_,rfl⟩
 have e:=Hg h;rw[<-hv] at e;exact⟨a,b,c,d,by rw[hv];exact aAq h,by rw[hv];exact aAa h,hv.symm,e⟩
section
variable {mem:aP} {J:List (Nat × Nat)}
theorem Cv.int{k:IntKind}{a b:Int}(h:a=b):Cv mem J (.int k a) (.int k b):=by rw[h];exact .same _ (.int _ _)
theorem Cv.w64{x y:Int}(h:x=y)(hb:i64 y):Cv mem J (.int .i64 (IntKind.i64.wrap x)) (.int .i64 y):=by rw[h,aV hb];exact .same _ (.int _ _)
theorem Cv.wo{x y:Int}(h:x=y:=by omega)(h1 : -9223372036854775808<=y:=by omega)(h2:y<=9223372036854775807:=by omega):Cv mem J (.int .i64 (IntKind.i64.wrap x)) (.int .i64 y):=.w64 h ⟨h1,h2⟩
theorem Cv.wp{x y:Int}(h:x=y:=by simp only;omega)(h1 : -9223372036854775808<=y:=by simp only;omega)(h2:y<=9223372036854775807:=by simp only;omega):Cv mem J (.int .i64 (IntKind.i64.wrap x)) (.int .i64 y):=.w64 h ⟨h1,h2⟩
theorem aJ(h:lk sl i=some v:=by rfl)(hn:NN v:=by exact nn):∃w,lk sl i=some w/\Cv mem J w v:=⟨v,h,.same v hn⟩
theorem jB.s{bs:List AV}(hs:jB mem J as bs)(hn:NN v:=by exact nn):jB mem J (v::as) (v::bs):=.cons (.same v hn) hs
theorem bQ{a:V}{q:Prop}(h:q):a=a/\q:=⟨rfl,h⟩
theorem aF{id' x y:Nat}(h:lk sl i=some (.ptr id x y):=by rfl)(h2:lk J id=some id':=by rfl):∃w,lk sl i=some w/\Cv mem J w (.ptr id' x y):=⟨_,h,.ptr id id' x y h2⟩
theorem aM(hn:NN v)(h:lk sl i=some v:=by rfl):∃w,lk sl i=some w/\Cv mem J w v:=⟨v,h,.same v hn⟩
theorem aL{p:Nat}(id:Nat)(hn:kZ ys)(h1:lk J id=some p:=by rfl)(h2:lk mem id=some (.row t sz ys):=by rfl):∃id xs,lk J id=some p/\lk mem id=some (.row t sz xs)/\sH mem J xs ys:=⟨id,ys,h1,h2,.same hn⟩
theorem Rs{p q:Prop}(x:q)(e:q->p:=by(intro x;(repeat((first|refine dE.2 ?_|refine bQ ?_);((conv=>whnf);(repeat(refine Xg ?_;conv=>whnf)))));exact x)):p:=e x
theorem Rt{p q:Prop}(x:q)(e:q->p:=by(intro x;(conv=>whnf);(repeat(refine Xg ?_;conv=>whnf));(repeat((first|refine dE.2 ?_|refine bQ ?_);((conv=>whnf);(repeat(refine Xg ?_;conv=>whnf)))));exact x)):p:=e x
theorem Cv.bool{a:Bool}(h:a=b):Cv mem J (.bool a) (.bool b):=by rw[h];exact .same _ (.bool _)
theorem Ml(k n:Int)(s:List UInt8):CH mem J (.agg [.int .i64 k,.int .i64 n,.str s,.nsl]) (cO (.mk k n s [])):=
 .agg (.cons (.same _ (.int _ _)) (.cons (.same _ (.int _ _)) (.cons (.same _ (.str _)) (.cons (.nil 4) .nil))))
end
theorem kM(l:List aQ)(v:aQ):aU (l++[v])=aU l++[cO v]:=by simp[jT]
theorem w64{x y:Int}(h:x=y)(hb:i64 y):IntKind.i64.wrap x=y:=by rw[h,aV hb]
theorem Jp(h:decide ((k:Int)<((aU l).length:Nat))=true):k<l.length:=by rw[aC] at h;simpa using h
theorem Jd(h:decide ((k:Int)<((aU l).length:Nat))=false):l.length<=k:=by rw[aC] at h;simpa using h
theorem Cv.fzR{mem:aP}{J:List (Nat × Nat)}(h1:lk mem id=some (.row t sz xs))(h2:lk J id=none)(h3:sH mem J xs ys)(h4:ys.length=len):Cv mem J (.sl id 0 len) (.il sz ys):=
 .fz id 0 len t sz xs ys h1 h2 (by have:=h3.1;omega) h4 (λi x y hx hy=>(h3.2 i x y (su hx) hy).1) (λi x y j c c' hx hy hc hc'=>(h3.2 i x y (su hx) hy).2 j c c' hc hc')
section
variable {P:Program} {Z:List (Nat × AV)} {F:FuncId} {args:List AV} {r:AV} {mem:aP} {nx:Nat} {K:AV->aP->Nat->Prop}
theorem aT.goG(h:aT P [] F args r)(hk:K r mem nx)(ha:kZ args:=by exact dO)(hr:NN r:=by exact nn):aH P Z F args mem nx K:=(h.use bE ha hr hk).glob
theorem aH.goG0(h:aH P [] F args [] 0 Qs)(hk:∀r m n,Qs r m n->∃r',Cv m [] r r'/\K r' mem nx)(ha:kZ args:=by exact dO):aH P Z F args mem nx K:=
 (aH.call0 bE h ha hk).glob
end
theorem TU(h:k<l.length)(hn:l.length=n):∃a b c d,aQ.mk a b c d∈l/\l[k]? = some (aQ.mk a b c d)/\l[k]=aQ.mk a b c d/\(aU l)[0+(k:Int).toNat]? = some (cO (aQ.mk a b c d))/\Nat.blt (k:Int).toNat n=true:=by
 obtain⟨a,b,c,d,h1,h2,h3,h4⟩:=cX h;exact⟨a,b,c,d,h1,h2,h3,by rw[aAF];exact h4,aAf (by simp;omega)⟩
end Go.Ax
namespace Go.Ax
open Go
variable{ops:List Oper}{s:St}{tr:List (List Nat)}{c:Code}
section
variable {P:Program} {Z:List (Nat × AV)} {B:Nat}
structure bA(P:Program)(Z:List (Nat × AV))(B:Nat)(c:Code)(s:St)(Q:Exit->St->Prop):Prop where
 run:gC P Z B (.loop c) s Q
def OZ(P:Program)(Z:List (Nat × AV))(B:Nat)(y:Code)(Q:Exit->St->Prop)(e:Exit)(s:St):Prop:=
 match e with
 | .normal=>gC P Z B y s Q
 | e=>Q e s
def FS(id:Nat)(Q:Exit->St->Prop)(e:Exit)(s:St):Prop:=
 match e with
 | .exit i=>match Nat.beq i id with
  | true=>Q .normal s
  | false=>Q (.exit i) s
 | e=>Q e s
theorem D6{ops:List Oper}{K:St->Prop}{Kp:Value->St->Prop}:∀{l:List Oper} {s:St},zL P Z (NV P Z B) ops l s K (λ_ _=>False)->zL P Z (NV P Z B) ops l s K Kp
 | [],s,h=>h
 | o::r,s,h=>by
  simp only[zL] at h |-;split
  .rename_i h1;simp only[h1] at h
  .rename_i h1;simp only[h1] at h;split
   .rename_i h2;simp only[h2] at h;exact D6 h
   .rename_i h2;simp only[h2] at h
  .rename_i h1;simp only[h1] at h;split
   .rename_i h2;simp only[h2] at h;split
    .rename_i h3;simp only[h3] at h;exact D6 h
    .rename_i h3;simp only[h3] at h
   .rename_i h2;simp only[h2] at h;split
    .rename_i h3;simp only[h3] at h;refine aH.mono h λv m n h=>?_
     split
     .rename_i h4;simp only[h4] at h;exact D6 h
     .rename_i h4;simp only[h4] at h
    .rename_i h3;simp only[h3] at h;split at h<;>exact h.elim
theorem yK{ops:List Oper}{tr:List (List Nat)}{base:Nat}{K:St->Prop}{Kp:Value->aP->Nat->Prop}:∀{l:List Nat} {recs:List EB} {s:St},s7 P Z (NV P Z B) ops tr base K (λ_ _ _=>False) l recs s->s7 P Z (NV P Z B) ops tr base K Kp l recs s
 | [],recs,s,h=>h
 | i::r,recs,s,h=>by
  simp only[s7] at h |-;split
  .rename_i h1;simp only[h1] at h
  .rename_i o h1;simp only[h1] at h;split
   .rename_i h2;simp only[h2] at h
   .rename_i h2;simp only[h2] at h;split
    .rename_i h3;simp only[h3] at h;exact yK h
    .rename_i h3;simp only[h3] at h
   .rename_i h2;simp only[h2] at h;split
    .rename_i hk;simp only[hk] at h;split
     .rename_i h3;simp only[h3] at h;split
      .rename_i h4;simp only[h4] at h;exact yK h
      .rename_i h4;simp only[h4] at h
     .rename_i h3;simp only[h3] at h
    .rename_i hk;simp only[hk] at h;split
     .rename_i h3;simp only[h3] at h;split
      .rename_i h4;simp only[h4] at h;exact yK h
      .rename_i h4;simp only[h4] at h
     .rename_i h3;split at h
      .rename_i h4;exact(h3 _ _ _ _ h4).elim
      .exact h
    .rename_i hk;simp only[hk] at h;split
     .rename_i h3;simp only[h3] at h;split
      .rename_i h4;simp only[h4] at h;exact⟨h.1,yK h.2⟩
      .rename_i h4;simp only[h4] at h
     .rename_i h3;simp only[h3] at h;split
      .rename_i h4;simp only[h4] at h;refine aH.mono h λv m n h=>?_
       split
       .rename_i h5;simp only[h5] at h;exact⟨h.1,yK h.2⟩
       .rename_i h5;simp only[h5] at h
      .rename_i h4;simp only[h4] at h
structure n8(P:Program)(Z:List (Nat × AV))(B:Nat)(ops l:List Oper)(s:St)(K:St->Prop):Prop where
 run:zL P Z (NV P Z B) ops l s K λ_ _=>False
def Zx(P:Program)(Z:List (Nat × AV))(B:Nat)(ops l:List Oper)(s:St)(K:St->Prop):Prop:=
 match l with
 | []=>K s
 | o::r=>Ki s λsl mem nx nt=>yA ops sl o.guard
   (Id false P Z (NV P Z B) sl mem nx o.op (λv mem nx=>qA s o.dst v mem nx λs'=>n8 P Z B ops r s' K) λ_ _ _=>False)
   (qA s o.dst (.tup []) mem nx λs'=>n8 P Z B ops r s' K)
theorem n8.go{l:List Oper}{K:St->Prop}(h:Zx P Z B ops l s K):n8 P Z B ops l s K:=by
 refine⟨?_⟩;cases l with
 | nil=>exact h
 | cons o r=>
  have h:yA ops s.sl o.guard (Id false P Z (NV P Z B) s.sl s.mem s.nx o.op (λv mem nx=>qA s o.dst v mem nx λs'=>n8 P Z B ops r s' K) λ_ _ _=>False) (qA s o.dst (.tup []) s.mem s.nx λs'=>n8 P Z B ops r s' K):=h;simp only[zL];rcases yX h with⟨h1,h⟩|⟨h1,h⟩
  .simp only[h1];rcases FO h with⟨v,m,n,h2,h⟩|⟨h2,F,l,h3,h⟩
   .obtain⟨s',h4,h⟩:=gJ h;simp only[h2,h4];exact h.run
   .simp only[h2,h3];refine(show aH P Z F l s.mem s.nx _ from h).mono λv m n h=>?_
    obtain⟨s',h4,h⟩:=gJ h;simp only[h4];exact h.run
  .obtain⟨s',h4,h⟩:=gJ h;simp only[h1,h4];exact h.run
structure Pp(P:Program)(Z:List (Nat × AV))(B:Nat)(ops:List Oper)(tr:List (List Nat))(base:Nat)(K:St->Prop)(l:List Nat)(recs:List EB)(s:St):Prop where
 run:s7 P Z (NV P Z B) ops tr base K (λ_ _ _=>False) l recs s
def ZT(P:Program)(Z:List (Nat × AV))(B:Nat)(ops:List Oper)(tr:List (List Nat))(base:Nat)(K:St->Prop)(l:List Nat)(recs:List EB)(s:St):Prop:=
 match l with
 | []=>K s
 | i::r=>match ops[i]? with
  | none=>False
  | some o=>Ki s λsl mem nx nt=>yA ops sl o.guard
   (match kind P o.op with
    | .pure=>match still o.op with
     | true=>yB false P Z sl [] nx o.op λv _ _=>qA s o.dst v mem nx λs'=>Pp P Z B ops tr base K r (⟨i,sl,true,v⟩::recs) s'
     | false=>kQ (λp=>NI tr base ops.length i p.1) mem λm=>yB false P Z sl m nx o.op λv _ _=>qA s o.dst v mem nx λs'=>Pp P Z B ops tr base K r (⟨i,sl,true,v⟩::recs) s'
    | .al=>tX (base+i) λid=>yB false P Z sl [] id o.op λv m _=>match m with
     | [(_,b)]=>qA s o.dst v ((id,b)::mem) nx λs'=>Pp P Z B ops tr base K r (⟨i,sl,true,v⟩::recs) s'
     | _=>False
    | .eff=>kQ (λp=>NI tr base ops.length i p.1) mem λm=>Id false P Z (NV P Z B) sl m nx o.op (λv m nx'=>kQ (λp=>!NI tr base ops.length i p.1) mem λrest=>kQ (λp=>!xJ p.1 m) rest λrest=>GN m rest λm=>
      qA s o.dst v m nx' λs'=>zN false P Z ops tr base i m nx' recs (Pp P Z B ops tr base K r recs s')) λ_ _ _=>False)
   (qA s o.dst (.tup []) mem nx λs'=>Pp P Z B ops tr base K r (⟨i,sl,false,.tup []⟩::recs) s')
theorem Pp.go{base:Nat}{K:St->Prop}{l:List Nat}{recs:List EB}(h:ZT P Z B ops tr base K l recs s):Pp P Z B ops tr base K l recs s:=by
 refine⟨?_⟩;cases l with
 | nil=>exact h
 | cons i r=>
  simp only[ZT] at h;simp only[s7];split at h
  .exact h.elim
  .rename_i o ho;simp only[ho];have h:=yM.1 h;rcases yX h with⟨h1,h⟩|⟨h1,h⟩
   .simp only[h1];split at h
    .rename_i hkd;simp only[hkd];split at h
     .rename_i hst;obtain⟨v,m,n,h2,h⟩:=qN (s:={ sl:=s.sl,mem:=[],nx:=s.nx,nt:=s.nt }) h;obtain⟨m',n',h2'⟩:=yH (s:={ sl:=s.sl,mem:=[],nx:=s.nx,nt:=s.nt }) (s':={ s with mem:=lL tr base ops.length i s.mem }) hst rfl h2;obtain⟨s',h3,h⟩:=gJ h;simp only[h2',h3];exact h.run
     .have h:=d6.1 h;obtain⟨v,m,n,h2,h⟩:=qN (s:={ s with mem:=lL tr base ops.length i s.mem }) h;obtain⟨s',h3,h⟩:=gJ h;simp only[h2,h3];exact h.run
    .rename_i hkd;simp only[hkd];have h:=fM.1 h;obtain⟨v,m,n,h2,h⟩:=qN (s:={ s with mem:=[],nx:=base+i }) h;simp only[h2];split at h
     .obtain⟨s',h3,h⟩:=gJ h;simp only[h3];exact h.run
     .exact h.elim
    .rename_i hkd;simp only[hkd];have h:=d6.1 h;rcases FO (s:={ s with mem:=lL tr base ops.length i s.mem }) h with⟨v,m,n,h2,h⟩|⟨h2,F,l,h3,h⟩
     .simp only[h2];have h:=iM.1 (d6.1 (d6.1 h));obtain⟨s',h3,h⟩:=gJ h;have h3:fV s o.dst v (m++wX m (i7 tr base ops.length i s.mem)) n=some s':=h3;simp only[h3];obtain⟨e1,e2,_⟩:=jL h3;have h:zN false P Z ops tr base i (m++wX m (i7 tr base ops.length i s.mem)) n recs (Pp P Z B ops tr base K r recs s'):=h;rw[<-e1,<-e2] at h;obtain⟨h4,h⟩:=tG h;exact⟨h4,h.run⟩
     .rw[xX (s':=s) (λx _=>by cases x<;>rfl)] at h3;simp only[h2,h3];refine(show aH P Z F l _ _ _ from h).mono λv m n h=>?_
      have h:=iM.1 (d6.1 (d6.1 h));obtain⟨s',h3,h⟩:=gJ h;have h3:fV s o.dst v (m++wX m (i7 tr base ops.length i s.mem)) n=some s':=h3;simp only[h3];obtain⟨e1,e2,_⟩:=jL h3;have h:zN false P Z ops tr base i (m++wX m (i7 tr base ops.length i s.mem)) n recs (Pp P Z B ops tr base K r recs s'):=h;rw[<-e1,<-e2] at h;obtain⟨h4,h⟩:=tG h;exact⟨h4,h.run⟩
   .obtain⟨s',h3,h⟩:=gJ h;simp only[h1,h3];exact h.run
def Wx(P:Program)(Z:List (Nat × AV))(B:Nat)(ops:List Oper)(s:St)(Q:Exit->St->Prop):Prop:=
 match P.follows .mixedOrders with
 | true=>match FX P ops (A5 P ops ops.length [] (Cy ops.length)) with
  | true=>Ki s λsl mem nx nt=>tX (nx+ops.length) λn=>DF (A5 P ops ops.length [] (Cy ops.length)) λord=>Pp P Z B ops (OE ops []) nx (λs'=>Q .normal s') ord [] ⟨sl,mem,n,nt⟩
  | false=>False
 | false=>False
def Xs(Q:Exit->St->Prop)(e:Exit)(s:St):Prop:=
 match e with
 | .goto _=>False
 | e=>Q e s
def Yz(P:Program)(Z:List (Nat × AV))(B:Nat)(c:Code)(s:St)(Q:Exit->St->Prop):Prop:=
 match c with
 | .skip=>Q .normal s
 | .seq x y=>gC P Z B x s (OZ P Z B y Q)
 | .cond c x y=>Ki s λsl _ _ _=>oY Z sl c λv=>match v with
  | .bool b=>Sj b (gC P Z B x s Q) (gC P Z B y s Q)
  | _=>False
 | .block id c=>gC P Z B c s (FS id Q)
 | .loop c=>bA P Z B c s Q
 | .label _=>Q .normal s
 | .scope c=>gC P Z B c s (Xs Q)
 | .exit i=>Q (.exit i) s
 | .ret=>Q .ret s
 | .region _ ops draw=>match draw with
  | false=>n8 P Z B ops.toList ops.toList s λs'=>Q .normal s'
  | true=>Wx P Z B ops.toList s Q
 | _=>False
theorem gC.go{Q:Exit->St->Prop}(h:Yz P Z B c s Q):gC P Z B c s Q:=by
 cases c with
 | skip=>exact iC (cl:=false) wS .skip s Q h
 | exit i=>exact iC (cl:=false) wS (.exit i) s Q h
 | ret=>exact iC (cl:=false) wS .ret s Q h
 | loop c=>exact(show bA P Z B c s Q from h).run
 | label l=>exact iC (cl:=false) wS (.label l) s Q h
 | scope c=>
  have h:gC P Z B c s (Xs Q):=h;refine⟨λrd X ds D C a w hD hs hB hr=>FN (wpIn_mono (h.run rd X ds D C a w hD hs hB hr.scope) ?_)⟩;rintro e a' w' ⟨s',C',hq,hB',hs',hext⟩;cases e with
  | goto l=>exact(show False from hq).elim
  | normal=>exact⟨s',C',hq,hB',hs',hext⟩
  | exit i=>exact⟨s',C',hq,hB',hs',hext⟩
  | ret=>exact⟨s',C',hq,hB',hs',hext⟩
  | panic c=>exact⟨s',C',hq,hB',hs',hext⟩
  | outgrown=>exact⟨s',C',hq,hB',hs',hext⟩
 | seq x y=>
  have h:gC P Z B x s (OZ P Z B y Q):=h;refine⟨λrd X ds D C a w hD hs hB hr=>wpIn_seq (wpIn_mono (h.run rd X ds D C a w hD hs hB hr.seq1) ?_)⟩;rintro e a' w' ⟨s',C',hq,hB',hs',hext⟩;cases e with
  | normal=>
   refine wpIn_mono ((show gC P Z B y s' Q from hq).run rd X ds D C' a' w' hD hs' hB' hr.seq2) ?_;rintro e a2 w2 ⟨s2,ρ2,h1,h2,h3,h4⟩;exact⟨s2,ρ2,h1,h2,h3,hext.trans h4⟩
  | exit i=>exact⟨s',C',hq,hB',hs',hext⟩
  | goto l=>exact⟨s',C',hq,hB',hs',hext⟩
  | ret=>exact⟨s',C',hq,hB',hs',hext⟩
  | panic c=>exact⟨s',C',hq,hB',hs',hext⟩
  | outgrown=>exact⟨s',C',hq,hB',hs',hext⟩
 | cond c x y=>
  have h:oY Z s.sl c λv=>match v with
   | .bool b=>Sj b (gC P Z B x s Q) (gC P Z B y s Q)
   | _=>False:=h
  obtain⟨v,h1,h⟩:=cZ h;split at h
  .rename_i b;refine⟨λrd X ds D C a w hD hs hB hr=>?_⟩;have hv:=a8 hs h1;generalize he:a.eval c=cv at hv;cases hv;cases b with
   | true=>exact wpIn_cond_true he ((show gC P Z B x s Q from h).run rd X ds D C a w hD hs hB hr.cond1)
   | false=>exact wpIn_cond_false he ((show gC P Z B y s Q from h).run rd X ds D C a w hD hs hB hr.cond2)
  .exact h.elim
 | block id c=>
  have h:gC P Z B c s (FS id Q):=h;refine⟨λrd X ds D C a w hD hs hB hr=>wpIn_block (wpIn_mono (h.run rd X ds D C a w hD hs hB hr.block) ?_)⟩;rintro e a' w' ⟨s',C',hq,hB',hs',hext⟩;cases e with
  | exit i=>
   simp only[Exit.inBlock];simp only[FS] at hq;split at hq
   .rename_i hi;rw[aAh (Nat.eq_of_beq_eq_true hi)];exact⟨s',C',hq,hB',hs',hext⟩
   .rename_i hi;rw[aAe (aBj hi)];exact⟨s',C',hq,hB',hs',hext⟩
  | normal=>exact⟨s',C',hq,hB',hs',hext⟩
  | goto l=>exact⟨s',C',hq,hB',hs',hext⟩
  | ret=>exact⟨s',C',hq,hB',hs',hext⟩
  | panic c=>exact⟨s',C',hq,hB',hs',hext⟩
  | outgrown=>exact⟨s',C',hq,hB',hs',hext⟩
 | region id ops draw=>
  cases draw with
  | false=>exact CV wS (.region id ops false) s Q (D6 (show n8 P Z B ops.toList ops.toList s _ from h).run)
  | true=>
   refine CV wS (.region id ops true) s Q ?_;have h:Wx P Z B ops.toList s Q:=h;unfold Wx at h;simp only[Gt];split at h
   .rename_i hmix;simp only[hmix];split at h
    .rename_i hok;simp only[KR,hok];exact yK (qZ.1 (fM.1 (yM.1 h))).run
    .exact h.elim
   .exact h.elim
 | _=>exact(show False from h).elim
theorem aD{F:FuncId}{fn:Func}{c:Code}{args:List AV}{mem:aP}{nx:Nat}{Q:AV->aP->Nat->Prop}(hΓ:∀p∈Z,NN p.2)(hf:P.funcs[F]? = some fn)(hb:fn.body=some c)
  (h:CZ fn.ntmps args mem nx λs=>gC P Z nx c s (MS P fn.results.toList (rE nx Q))) (hF:Nat.beq F YF=false:=by rfl):aH P Z F args mem nx Q:=
 (AH hf hb ((sA h).mono λ_ _ h=>RI h) hF).turn hΓ
def X4{V:Type}(B:Nat)(R:V->Prop)(I:V->St)(μ:V->Nat)(x:V)(Q:Exit->St->Prop)(e:Exit)(s:St):Prop:=
 match e with
 | .normal=>Kt B R I μ x s
 | e=>Q e s
theorem bA.at{c:Code}{s:St}{Q:Exit->St->Prop}{V:Type}(hΓ:∀p∈Z,NN p.2)(R:V->Prop)(I:V->St)(μ:V->Nat)(x:V)(J:List (Nat × Nat))(hx:R x)(h0:Conv B J s (I x))
  (h:∀x,R x->gC P Z B c (I x) (X4 B R I μ x Q)):bA P Z B c s Q:=by
 refine⟨gC.conv hΓ h0 ?_⟩;refine gC.loop (V:={ x:V // R x }) hΓ (λx=>I x.1) (λx=>μ x.1) (λx=>?_) ⟨x,hx⟩;refine(h x.1 x.2).mono λe s h=>?_
 cases e with
 | normal=>
  obtain⟨y,J,hy,hc,hlt⟩:=(show Kt B R I μ x.1 s from h)
  exact⟨⟨y,hy⟩,J,hc,hlt⟩
 | exit i=>exact h
 | goto l=>exact h
 | ret=>exact h
 | panic c=>exact h
 | outgrown=>exact h
theorem bA.ph{Q:Exit->St->Prop}(t:TypeId)(sz:Nat)(h:bA P Z B c ⟨s.sl,(s.nx,.row t sz [])::s.mem,s.nx+1,s.nt⟩ Q):bA P Z B c s Q:=⟨gC.ph t sz h.run⟩
def SI(P:Program)(Z:List (Nat × AV))(B:Nat)(ops:List Oper)(K:St->Prop)(next:List Oper->St->Prop)(l:List Oper)(s:St):Prop:=
 match l with
 | []=>K s
 | o::r=>Ki s λsl mem nx nt=>yA ops sl o.guard
   (Id false P Z (NV P Z B) sl mem nx o.op (λv mem nx=>qA s o.dst v mem nx λs'=>next r s') λ_ _ _=>False)
   (qA s o.dst (.tup []) mem nx λs'=>next r s')
theorem tE{K:St->Prop}{next:List Oper->St->Prop}(hn:∀r s,next r s->n8 P Z B ops r s K){l:List Oper}(h:SI P Z B ops K next l s):n8 P Z B ops l s K:=by
 refine⟨?_⟩;cases l with
 | nil=>exact h
 | cons o r=>
  have h:yA ops s.sl o.guard (Id false P Z (NV P Z B) s.sl s.mem s.nx o.op (λv mem nx=>qA s o.dst v mem nx λs'=>next r s') λ_ _ _=>False) (qA s o.dst (.tup []) s.mem s.nx λs'=>next r s'):=h;simp only[zL];rcases yX h with⟨h1,h⟩|⟨h1,h⟩
  .simp only[h1];rcases FO h with⟨v,m,n,h2,h⟩|⟨h2,F,l,h3,h⟩
   .obtain⟨s',h4,h⟩:=gJ h;simp only[h2,h4];exact(hn _ _ h).run
   .simp only[h2,h3];refine(show aH P Z F l s.mem s.nx _ from h).mono λv m n h=>?_
    obtain⟨s',h4,h⟩:=gJ h;simp only[h4];exact(hn _ _ h).run
  .obtain⟨s',h4,h⟩:=gJ h;simp only[h1,h4];exact(hn _ _ h).run
def S8(P:Program)(Z:List (Nat × AV))(B:Nat)(next:Code->St->(Exit->St->Prop)->Prop)(c:Code)(s:St)(Q:Exit->St->Prop):Prop:=
 match c with
 | .seq x y=>next x s (OZ P Z B y Q)
 | .block id c=>next c s (FS id Q)
 | c=>Yz P Z B c s Q
theorem xY{next:Code->St->(Exit->St->Prop)->Prop}(hn:∀c s Q,next c s Q->gC P Z B c s Q){Q:Exit->St->Prop}(h:S8 P Z B next c s Q):gC P Z B c s Q:=by
 cases c with
 | seq x y=>exact gC.go (show Yz P Z B (.seq x y) s Q from hn _ _ _ h)
 | block id c=>exact gC.go (show Yz P Z B (.block id c) s Q from hn _ _ _ h)
 | _=>exact gC.go h
def XV(P:Program)(Z:List (Nat × AV))(B:Nat)(ops:List Oper)(K:St->Prop)(l:List Oper)(s:St):Prop:=n8 P Z B ops l s K
theorem Sv{K:St->Prop}(l:List Oper)(s:St)(h:XV P Z B ops K l s):n8 P Z B ops l s K:=h
def YL(P:Program)(Z:List (Nat × AV))(B:Nat)(ops:List Oper)(K:St->Prop)(l:List Oper)(s:St):Prop:=SI P Z B ops K (XV P Z B ops K) l s
theorem UD{K:St->Prop}(l:List Oper)(s:St)(h:YL P Z B ops K l s):n8 P Z B ops l s K:=tE Sv h
def Xk(P:Program)(Z:List (Nat × AV))(B:Nat)(ops:List Oper)(K:St->Prop)(l:List Oper)(s:St):Prop:=SI P Z B ops K (YL P Z B ops K) l s
theorem TH{K:St->Prop}(l:List Oper)(s:St)(h:Xk P Z B ops K l s):n8 P Z B ops l s K:=tE UD h
def Xf(P:Program)(Z:List (Nat × AV))(B:Nat)(ops:List Oper)(K:St->Prop)(l:List Oper)(s:St):Prop:=SI P Z B ops K (Xk P Z B ops K) l s
theorem Ui{K:St->Prop}(l:List Oper)(s:St)(h:Xf P Z B ops K l s):n8 P Z B ops l s K:=tE TH h
def YH(P:Program)(Z:List (Nat × AV))(B:Nat)(ops:List Oper)(K:St->Prop)(l:List Oper)(s:St):Prop:=SI P Z B ops K (Xf P Z B ops K) l s
theorem So{K:St->Prop}(l:List Oper)(s:St)(h:YH P Z B ops K l s):n8 P Z B ops l s K:=tE Ui h
def XW(P:Program)(Z:List (Nat × AV))(B:Nat)(ops:List Oper)(K:St->Prop)(l:List Oper)(s:St):Prop:=SI P Z B ops K (YH P Z B ops K) l s
theorem S2{K:St->Prop}(l:List Oper)(s:St)(h:XW P Z B ops K l s):n8 P Z B ops l s K:=tE So h
def Xn(P:Program)(Z:List (Nat × AV))(B:Nat)(ops:List Oper)(K:St->Prop)(l:List Oper)(s:St):Prop:=SI P Z B ops K (XW P Z B ops K) l s
theorem Tv{K:St->Prop}(l:List Oper)(s:St)(h:Xn P Z B ops K l s):n8 P Z B ops l s K:=tE S2 h
def Xl(P:Program)(Z:List (Nat × AV))(B:Nat)(ops:List Oper)(K:St->Prop)(l:List Oper)(s:St):Prop:=SI P Z B ops K (Xn P Z B ops K) l s
theorem T3{K:St->Prop}(l:List Oper)(s:St)(h:Xl P Z B ops K l s):n8 P Z B ops l s K:=tE Tv h
def Yf(P:Program)(Z:List (Nat × AV))(B:Nat)(ops:List Oper)(K:St->Prop)(l:List Oper)(s:St):Prop:=SI P Z B ops K (Xl P Z B ops K) l s
theorem Sm{K:St->Prop}(l:List Oper)(s:St)(h:Yf P Z B ops K l s):n8 P Z B ops l s K:=tE T3 h
def Xq(P:Program)(Z:List (Nat × AV))(B:Nat)(ops:List Oper)(K:St->Prop)(l:List Oper)(s:St):Prop:=SI P Z B ops K (Yf P Z B ops K) l s
theorem S4{K:St->Prop}(l:List Oper)(s:St)(h:Xq P Z B ops K l s):n8 P Z B ops l s K:=tE Sm h
def Ri(P:Program)(Z:List (Nat × AV))(B:Nat)(ops:List Oper)(K:St->Prop)(l:List Oper)(s:St):Prop:=SI P Z B ops K (Xq P Z B ops K) l s
theorem P4{K:St->Prop}(l:List Oper)(s:St)(h:Ri P Z B ops K l s):n8 P Z B ops l s K:=tE S4 h
theorem n8.many{l:List Oper}{K:St->Prop}(h:Ri P Z B ops K l s):n8 P Z B ops l s K:=P4 l s h
def YI(P:Program)(Z:List (Nat × AV))(B:Nat)(c:Code)(s:St)(Q:Exit->St->Prop):Prop:=gC P Z B c s Q
theorem TV(c:Code)(s:St)(Q:Exit->St->Prop)(h:YI P Z B c s Q):gC P Z B c s Q:=h
def XT(P:Program)(Z:List (Nat × AV))(B:Nat)(c:Code)(s:St)(Q:Exit->St->Prop):Prop:=S8 P Z B (YI P Z B) c s Q
theorem TO(c:Code)(s:St)(Q:Exit->St->Prop)(h:XT P Z B c s Q):gC P Z B c s Q:=xY TV h
def YW(P:Program)(Z:List (Nat × AV))(B:Nat)(c:Code)(s:St)(Q:Exit->St->Prop):Prop:=S8 P Z B (XT P Z B) c s Q
theorem TJ(c:Code)(s:St)(Q:Exit->St->Prop)(h:YW P Z B c s Q):gC P Z B c s Q:=xY TO h
def YE(P:Program)(Z:List (Nat × AV))(B:Nat)(c:Code)(s:St)(Q:Exit->St->Prop):Prop:=S8 P Z B (YW P Z B) c s Q
theorem T4(c:Code)(s:St)(Q:Exit->St->Prop)(h:YE P Z B c s Q):gC P Z B c s Q:=xY TJ h
def YR(P:Program)(Z:List (Nat × AV))(B:Nat)(c:Code)(s:St)(Q:Exit->St->Prop):Prop:=S8 P Z B (YE P Z B) c s Q
theorem TF(c:Code)(s:St)(Q:Exit->St->Prop)(h:YR P Z B c s Q):gC P Z B c s Q:=xY T4 h
def YD(P:Program)(Z:List (Nat × AV))(B:Nat)(c:Code)(s:St)(Q:Exit->St->Prop):Prop:=S8 P Z B (YR P Z B) c s Q
theorem Th(c:Code)(s:St)(Q:Exit->St->Prop)(h:YD P Z B c s Q):gC P Z B c s Q:=xY TF h
def YO(P:Program)(Z:List (Nat × AV))(B:Nat)(c:Code)(s:St)(Q:Exit->St->Prop):Prop:=S8 P Z B (YD P Z B) c s Q
theorem Tx(c:Code)(s:St)(Q:Exit->St->Prop)(h:YO P Z B c s Q):gC P Z B c s Q:=xY Th h
def Xe(P:Program)(Z:List (Nat × AV))(B:Nat)(c:Code)(s:St)(Q:Exit->St->Prop):Prop:=S8 P Z B (YO P Z B) c s Q
theorem Ue(c:Code)(s:St)(Q:Exit->St->Prop)(h:Xe P Z B c s Q):gC P Z B c s Q:=xY Tx h
def WC(P:Program)(Z:List (Nat × AV))(B:Nat)(c:Code)(s:St)(Q:Exit->St->Prop):Prop:=S8 P Z B (Xe P Z B) c s Q
theorem Un(c:Code)(s:St)(Q:Exit->St->Prop)(h:WC P Z B c s Q):gC P Z B c s Q:=xY Ue h
theorem gC.many{Q:Exit->St->Prop}(h:WC P Z B c s Q):gC P Z B c s Q:=Un c s Q h
class XG(p:Prop)(q:outParam Prop):Prop where
 h:q->p
instance{c:Code}{s:St}{Q:Exit->St->Prop}:XG (gC P Z B c s Q) (WC P Z B c s Q):=⟨gC.many⟩
instance{ops l:List Oper}{s:St}{K:St->Prop}:XG (n8 P Z B ops l s K) (Ri P Z B ops K l s):=⟨n8.many⟩
instance{ops:List Oper}{tr:List (List Nat)}{base:Nat}{K:St->Prop}{l:List Nat}{recs:List EB}{s:St}:XG (Pp P Z B ops tr base K l recs s) (ZT P Z B ops tr base K l recs s):=⟨Pp.go⟩
theorem Xg{p q:Prop}[i:XG p q](x:q):p:=i.h x
theorem Rr{p q:Prop}(x:q)(e:q->p:=by(intro x;(conv=>whnf);(repeat(refine Xg ?_;conv=>whnf));exact x)):p:=e x
end
end Go.Ax
namespace Go.Ax
open Go
def Dc(i:Nat):List Nat->Bool
 | []=>false
 | j::r=>match Nat.beq j i with
  | true=>true
  | false=>Dc i r
def i5(ids:List Nat):aP->aP
 | []=>[]
 | (k,b)::r=>match Dc k ids with
  | true=>(k,b)::i5 ids r
  | false=>i5 ids r
def iJ(ids:List Nat):aP->aP
 | []=>[]
 | (k,b)::r=>match Dc k ids with
  | true=>iJ ids r
  | false=>(k,b)::iJ ids r
def tN:List Nat->List (Nat × Nat)
 | []=>[]
 | i::r=>(i,i)::tN r
def Nw(n:Nat):List Nat->Bool
 | []=>true
 | i::r=>Nat.blt i n && Nw n r
def FM(ids:List Nat):aP->Bool
 | []=>true
 | (k,_)::r=>Dc k ids && FM ids r
theorem gA{ids:List Nat}:∀{m:aP} {p:Nat × AB},p∈i5 ids m↔p∈m/\Dc p.1 ids=true
 | [],p=>by simp[i5]
 | (k,b)::r,p=>by
  simp only[i5];split
  .rename_i h;rw[aAj,gA (m:=r),aAj];constructor
   .rintro(rfl|⟨h1,h2⟩)
    .exact⟨.inl rfl,h⟩
    .exact⟨.inr h1,h2⟩
   .rintro⟨rfl|h1,h2⟩
    .exact .inl rfl
    .exact .inr ⟨h1,h2⟩
  .rename_i h;rw[gA (m:=r),aAj];constructor
   .rintro⟨h1,h2⟩;exact⟨.inr h1,h2⟩
   .rintro⟨rfl|h1,h2⟩
    .rw[h] at h2;cases h2
    .exact⟨h1,h2⟩
theorem eG{ids:List Nat}:∀{m:aP} {p:Nat × AB},p∈iJ ids m↔p∈m/\Dc p.1 ids=false
 | [],p=>by simp[iJ]
 | (k,b)::r,p=>by
  simp only[iJ];split
  .rename_i h;rw[eG (m:=r),aAj];constructor
   .rintro⟨h1,h2⟩;exact⟨.inr h1,h2⟩
   .rintro⟨rfl|h1,h2⟩
    .rw[h] at h2;cases h2
    .exact⟨h1,h2⟩
  .rename_i h;rw[aAj,eG (m:=r),aAj];constructor
   .rintro(rfl|⟨h1,h2⟩)
    .exact⟨.inl rfl,h⟩
    .exact⟨.inr h1,h2⟩
   .rintro⟨rfl|h1,h2⟩
    .exact .inl rfl
    .exact .inr ⟨h1,h2⟩
theorem qQ{ids:List Nat}:∀(m:aP),(i5 ids m).Sublist m
 | []=>by simp[i5]
 | (k,b)::r=>by
  simp only[i5];split
  .exact(qQ r).cons_cons _
  .exact(qQ r).cons _
theorem qR{ids:List Nat}:∀(m:aP),(iJ ids m).Sublist m
 | []=>by simp[iJ]
 | (k,b)::r=>by
  simp only[iJ];split
  .exact(qR r).cons _
  .exact(qR r).cons_cons _
theorem F3:∀{ids:List Nat} {i j:Nat},lk (tN ids) i=some j->i=j/\Dc i ids=true
 | [],i,j,h=>by simp[tN,lk] at h
 | k::r,i,j,h=>by
  simp only[tN,lk] at h;split at h
  .rename_i e;cases h;exact⟨(Nat.eq_of_beq_eq_true e).symm,by simp only[Dc,e]⟩
  .rename_i e;obtain⟨h1,h2⟩:=F3 h;exact⟨h1,by simp only[Dc,e];exact h2⟩
theorem Ra:∀{ids:List Nat} {i:Nat},Dc i ids=true->lk (tN ids) i=some i
 | [],i,h=>by simp[Dc] at h
 | k::r,i,h=>by
  simp only[Dc] at h;simp only[tN,lk];split at h
  .rename_i e;rw[e,Nat.eq_of_beq_eq_true e]
  .rename_i e;rw[e];exact Ra h
theorem xM:∀{ids:List Nat} {n i:Nat},Nw n ids=true->Dc i ids=true->i<n
 | [],n,i,_,h=>by simp[Dc] at h
 | k::r,n,i,h1,h=>by
  simp only[Nw,aAd] at h1;simp only[Dc] at h;split at h
  .rename_i e;rw[<-Nat.eq_of_beq_eq_true e];exact aAi h1.1
  .exact xM h1.2 h
theorem vD:∀{m:aP} {ids:List Nat},FM ids m=true->∀p∈m,Dc p.1 ids=true
 | [],ids,_,p,hp=>by cases hp
 | (k,b)::r,ids,h,p,hp=>by
  simp only[FM,aAd] at h;rcases aAj.1 hp with rfl|hp
  .exact h.1
  .exact vD h.2 p hp
theorem aH.useI{P:Program}{Z:List (Nat × AV)}{F:FuncId}{args args':List AV}{ms mem:aP}{ns nx:Nat}{Qs K:AV->aP->Nat->Prop}(hΓ:∀p∈Z,NN p.2)(ids:List Nat)(h:aH P Z F args' ms ns Qs)
  (hp:i5 ids mem=ms) (hargs:jB ms (tN ids) args args') (hM:dR ms (tN ids) ms) (hc:(pU ms && Nw ns ids)=true)
  (hk:∀r m n,Qs r m n->NN r/\dR m (tN ids) m/\(pU m && FM ids m)=true/\K r (m++iJ ids mem) nx):aH P Z F args mem nx K:=by
 simp only[aAd] at hc;refine⟨λX D C w vs hD hm hv=>?_⟩;have hinj:Si (tN ids):=λi j k h1 h2=>by
  have a:=(F3 h1).1;have b:=(F3 h2).1;omega
 refine(aH.use (K:=K) (nx:=nx) hΓ h (tN ids) (m1:=ms) (rest:=iJ ids mem) ⟨λp hp'=>?_,λp hp'=>(eG.1 hp').1,λp hp'=>?_,λp h1 q h2=>?_, ?_⟩ ?_ hargs hM.cvm (gU hc.1) hinj (λid i hl=>?_) ?_).run X D C w vs hD hm hv
 .rw[<-hp] at hp';exact(gA.1 hp').1
 .cases hi:Dc p.1 ids with
  | true=>left;rw[<-hp];exact gA.2 ⟨hp',hi⟩
  | false=>right;exact eG.2 ⟨hp',hi⟩
 .rw[<-hp] at h1;have a:=(gA.1 h1).2;have b:=(eG.1 h2).2;intro e;rw[e,b] at a;cases a
 .rw[<-hp];exact hm.nod.sublist ((qQ mem).map _)
 .exact hm.nod.sublist ((qR mem).map _)
 .obtain⟨h1,h2⟩:=F3 hl;rw[<-h1];exact xM hc.2 h2
 .intro r m n hq hn;obtain⟨h1,h2,h3,h4⟩:=hk r m n hq;simp only[aAd] at h3;refine⟨tN ids,r,m,nx,aAp _,.same r h1,h2.cvm,gU h3.1,hinj,λi id hl=>?_,λp h5 q h6=>?_,h4⟩
  .obtain⟨e1,e2⟩:=F3 hl;subst e1;exact .inl ⟨xM hc.2 e2,Ra e2⟩
  .have a:=vD h3.2 p h5;have b:=(eG.1 h6).2;intro e;rw[e,b] at a;cases a
def wA:List (Nat × Nat)->List Nat
 | []=>[]
 | (i,_)::r=>i::wA r
def Ip:List (Nat × Nat)->List (Nat × Nat)
 | []=>[]
 | (i,j)::r=>(j,i)::Ip r
def xW(n:Nat):List (Nat × Nat)->Bool
 | []=>true
 | (_,j)::r=>Nat.blt j n && xW n r
theorem F8:∀{J:List (Nat × Nat)} {i j:Nat},(j,i)∈Ip J↔(i,j)∈J
 | [],i,j=>by simp[Ip]
 | (a,b)::r,i,j=>by
  simp only[Ip,aAj,F8 (J:=r),Prod.mk.injEq];constructor
  .rintro(⟨rfl,rfl⟩|h)
   .exact .inl ⟨rfl,rfl⟩
   .exact .inr h
  .rintro(⟨rfl,rfl⟩|h)
   .exact .inl ⟨rfl,rfl⟩
   .exact .inr h
theorem OM{J:List (Nat × Nat)}(h:pW (Ip J)=true){i j:Nat}(hm:(i,j)∈J):lk J i=some j:=by
 induction J with
 | nil=>cases hm
 | cons p r ih=>
  obtain⟨a,b⟩:=p;simp only[Ip,pW,aAd] at h;simp only[lk];rcases aAj.1 hm with e|hm'
  .cases e;simp
  .have hne:a≠i:=by
    intro e;subst e;exact sL h.1 _ (F8.2 hm') rfl
   rw[pI hne];exact ih h.2 hm'
theorem qJ:∀{J:List (Nat × Nat)} {n:Nat},xW n J=true->∀p∈J,p.2<n
 | [],n,_,p,hp=>by cases hp
 | (a,b)::r,n,h,p,hp=>by
  simp only[xW,aAd] at h;rcases aAj.1 hp with rfl|hp
  .exact aAi h.1
  .exact qJ h.2 p hp
theorem aH.useR{P:Program}{Z:List (Nat × AV)}{F:FuncId}{args args':List AV}{ms mem m1:aP}{ns nx:Nat}{Qs K:AV->aP->Nat->Prop}(hΓ:∀p∈Z,NN p.2)(J:List (Nat × Nat))(h:aH P Z F args' ms ns Qs)
  (hp:i5 (wA J) mem=m1) (hargs:jB m1 J args args') (hM:dR m1 J ms) (hc:(pU ms && (pW J && (pW (Ip J) && xW ns J)))=true)
  (hk:∀r m n,Qs r m n->∃m',NN r/\dR m (Ip J) m'/\(pU m' && FM (wA J) m')=true/\K r (m'++iJ (wA J) mem) nx):aH P Z F args mem nx K:=by
 simp only[aAd] at hc;obtain⟨hc1,hc2,hc3,hc4⟩:=hc;refine⟨λX D C w vs hD hm hv=>?_⟩;refine(aH.use (K:=K) (nx:=nx) hΓ h J (m1:=m1) (rest:=iJ (wA J) mem) ⟨λp hp'=>?_,λp hp'=>(eG.1 hp').1,λp hp'=>?_,λp h1 q h2=>?_, ?_⟩ ?_ hargs hM.cvm (gU hc1) (rX hc2) (λid i hl=>qJ hc4 _ (b8 hl)) ?_).run X D C w vs hD hm hv
 .rw[<-hp] at hp';exact(gA.1 hp').1
 .cases hi:Dc p.1 (wA J) with
  | true=>left;rw[<-hp];exact gA.2 ⟨hp',hi⟩
  | false=>right;exact eG.2 ⟨hp',hi⟩
 .rw[<-hp] at h1;have a:=(gA.1 h1).2;have b:=(eG.1 h2).2;intro e;rw[e,b] at a;cases a
 .rw[<-hp];exact hm.nod.sublist ((qQ mem).map _)
 .exact hm.nod.sublist ((qR mem).map _)
 .intro r m n hq hn;obtain⟨m',h1,h2,h3,h4⟩:=hk r m n hq;simp only[aAd] at h3;refine⟨Ip J,r,m',nx,aAp _,.same r h1,h2.cvm,gU h3.1,rX hc3,λi id hl=>?_,λp h5 q h6=>?_,h4⟩
  .have hmem:=F8.1 (b8 hl);exact .inl ⟨qJ hc4 _ hmem,OM hc3 hmem⟩
  .have a:=vD h3.2 p h5;have b:=(eG.1 h6).2;intro e;rw[e,b] at a;cases a
end Go.Ax
namespace Go.Ax
open Go
variable{mem:aP}{w:World}{D O X:Nat->Prop}{C:Nat->dP}
def RX(w w':World):Prop:=w.heap.size<=w'.heap.size/\(∀b,b<w.heap.size->w'.heap[b]? = w.heap[b]?)/\G6 w w'
theorem RX.refl(w:World):RX w w:=⟨aAp _,λ_ _=>rfl,.refl _⟩
section
variable {P:Program} {Z:List (Nat × AV)} {F:FuncId} {args:List AV} {r:AV}
def Vn(Z:List (Nat × AV))(w:World):Prop:=∀p∈Z,∀(j:Nat) (c:AV),p.2.cells[j]? = some c->∃x C D O,w.cell? ⟨p.1,j,none⟩=some x/\VR C D O w c x
theorem MR.knows(hm:MR Z X C D mem w):Vn Z w:=by
 intro p hp j c hc;have:=hm.glo p hp;cases this with
 | ip _ _ _ f h1 h2=>exact⟨f j,C,D,_,by have:=(h1 j c hc).2.1;rwa [aAF] at this,h2 j c hc⟩
theorem Ec{vs:List Value}(hargs:∀(C:Nat->dP) (D O:Nat->Prop) (w:World) (xs:List Value),m9 C D O w args xs->xs=vs)
  (h:∀w,Vn Z w->Calls P F vs.toArray w λe w'=>∃x,e = .returned x/\(∀(C:Nat->dP) (D O:Nat->Prop) (w:World),VR C D O w r x)/\RX w w') (hF:Nat.beq F YF=false:=by rfl):aT P Z F args r:=by
 refine⟨λX D C w xs hD hm hv=>?_⟩;obtain rfl:=hargs _ _ _ _ _ hv;refine .of hF ((h w hm.knows).mono ?_);rintro e w' ⟨x,rfl,hx,g1,g2,g3⟩;obtain⟨m1,ext⟩:=hm.still g1 g2 g3;have hsub:∀i,D i->dn D 0 0 i:=λi hi=>.inl hi
 exact⟨r,x,[],0,C,rfl,⟨rfl,rfl,rfl⟩,aAp _,(m1.widen hsub).1,hx _ _ _ _,(ext D λi hi=>hi).wide hsub⟩
theorem Hi{xs:List Value}{k:IntKind}{n:Int}(h:m9 C D O w [.int k n] xs):xs=[.int k n]:=by
 obtain⟨hl,hv⟩:=h
 match xs,hl with
 | [x],_=>
  have:=hv 0 _ x rfl rfl;cases this;rfl
end
def eF(l:List UInt8):List AV:=l.map λb=>.int .u8 (b.toNat:Int)
theorem c7(l:List UInt8):kZ (eF l):=λa ha=>by
 obtain⟨n,_,rfl⟩:=aAE.1 ha;exact .int _ _
theorem KQ(l:List UInt8)(i:Nat):(eF l)[i]? = (l[i]?).map λb=>.int .u8 (b.toNat:Int):=by rw[eF,aAK]
theorem dN(l:List UInt8):(eF l).length=l.length:=by rw[eF,aBO]
theorem CU(l:List UInt8)(k:Nat):(eF l).take k=eF (l.take k):=by rw[eF,eF,List.map_take]
theorem G4(l:List UInt8)(k:Nat):(eF l).drop k=eF (l.drop k):=by rw[eF,eF,List.map_drop]
theorem kN(l m:List UInt8):eF (l++m)=eF l++eF m:=by rw[eF,eF,eF,aBu]
theorem oD:∀l:List UInt8,gB (eF l)=some l
 | []=>rfl
 | b::r=>by
  show gB (AV.int .u8 (b.toNat:Int)::eF r)=_
  simp only[gB,oD r];simp
theorem Bn:∀l:List UInt8,pH (eF l)=some l
 | []=>rfl
 | b::r=>by
  show pH (AV.int .u8 (Int.ofNat b.toNat)::eF r)=_
  have:Nat.ble b.toNat 255=true:=aAf (by have:=b.toNat_lt;omega);simp only[pH,Bn r,this];simp
theorem Xv{P:Program}{F:FuncId}{t:TypeId}
  (hF:∀(blk off cap:Nat) (u:Nat) (d:Array UInt8) (w:World),Sort.Holds (λ(b:UInt8)=>Value.int .u8 (b.toNat:Int)) w blk off d->u<10 ^ d.size->u<18446744073709551616->d.size<4611686018427387904 ->
   Calls P F #[.slice (some ⟨blk,off,none⟩) d.size cap,.int .u64 u] w λe w'=>
    e = .returned (.tuple #[])/\∃(n v':Nat) (dk:Array UInt8),w'=(Sort.putRow (λ(b:UInt8)=>Value.int .u8 (b.toNat:Int)) w blk off dk).drewN n/\Lib.FmtInv d.size u 0 v' dk)
  (xs:List UInt8) (u:Nat) (hu64:u<18446744073709551616) (hlen:1+Lib.nDigits u<=xs.length) (hxl:xs.length<=1000) (hF0:Nat.beq F YF=false:=by rfl) :
  aH P [] F [.sl 0 1 (Lib.nDigits u),.int .u64 u] [(0,.row t 1 (eF xs))] 1 λr m n=>r = .tup []/\m=[(0,.row t 1 (eF (xs.take 1++Lib.decDigits u++xs.drop (1+Lib.nDigits u))))]:=by
 have hpos:=Lib.nDigits_pos u;refine⟨λX D C w vs hD hm hv=>?_⟩;obtain⟨hl,hv⟩:=hv
 match vs,hl with
 | [s,x],_=>
  have v0:=hv 0 _ s rfl rfl;have v1:=hv 1 _ x rfl rfl;cases v1;have hid:lk [(0,AB.row t 1 (eF xs))] 0=some (.row t 1 (eF xs)):=rfl;have hsz:=Ae hm hid;have hn:0<(C 0).n:=by
   rcases aAz (C 0).n with h0|h0
   .obtain⟨t',sz',e1,_⟩:=hm.emp _ (b8 hid) h0;injection e1 with _ _ e2;have:(eF xs).length=0:=by rw[e2];rfl
    rw[dN] at this;omega
   .exact h0
  obtain⟨o,ho,hsz',arr,fr,rfl,hf,hs,hle,hrow⟩:=hm.blk _ (b8 hid) hn;simp only at ho hsz' hs hle hrow;rw[hsz] at hrow hle;rw[dN,aDf] at hle;have hcell:∀(i:Nat) (b:UInt8),xs[i]? = some b->arr[i]? = some (Value.int .u8 (b.toNat:Int)):=by
   intro i b hb;obtain⟨v,hv,_,hr⟩:=(hrow i (.int .u8 (b.toNat:Int)) (by rw[KQ,hb];rfl)).2 0 _ rfl;cases hr;simpa using hv
  obtain⟨nd,hnd⟩:∃nd,nd=Lib.nDigits u:=⟨_,rfl⟩
  rw[<-hnd] at hpos hlen v0 |-;have hso:∃cap,s = .slice (some ⟨(C 0).b,1,none⟩) nd cap:=by
   cases v0 with
   | sl _ _ _ cap _ h1 h2=>exact⟨cap,by rw[hsz]⟩
   | slz=>omega
   | slzn=>omega
  obtain⟨cap,rfl⟩:=hso;have hds:(((xs.drop 1).take nd).toArray).size=nd:=by simp;omega
  have hH:Sort.Holds (λ(b:UInt8)=>Value.int .u8 (b.toNat:Int)) w (C 0).b 1 ((xs.drop 1).take nd).toArray:=by
   intro j hj;rw[hds] at hj;have hx:xs[1+j]? = some xs[1+j]:=aAa om;have hd:(((xs.drop 1).take nd).toArray)[j]! = xs[1+j]:=by
    rw[getElem!_pos _ j om];simp[aCH]
   constructor
   .simp only[World.cell?,ho,hd];exact hcell _ _ hx
   .simp only[World.frozen?,ho];have:=hf (1+j) om;obtain⟨a,b⟩:=fr;simp only at this |-;rw[aBV];simp;omega
  have hcall:=hF (C 0).b 1 cap u _ w hH (by rw[hds,hnd];exact Lib.lt_pow_nDigits u) hu64 (by rw[hds];omega);rw[hds] at hcall;refine .of hF0 (hcall.mono ?_);rintro e w' ⟨rfl,n,v',dk,rfl,hinv⟩;have hdk:dk.size=nd:=hinv.size;have hdig:(Lib.decDigits u).length=nd:=by rw[Lib.decDigits_length,hnd]
  rw[hnd] at hinv;have hat:=λj hj=>Lib.row_is_numeral hinv j hj
  obtain⟨m1,mv,ext⟩:=hm.change (w':=(Sort.putRow (λ(b:UInt8)=>Value.int .u8 (b.toNat:Int)) w (C 0).b 1 dk).drewN n) (xs':=eF (xs.take 1++Lib.decDigits u++xs.drop (1+nd))) (arr:=Sort.putCells (λ(b:UInt8)=>Value.int .u8 (b.toNat:Int)) 1 dk arr) (fr:=fr) hid hn
   (by
    apply aC2;intro k
    show (w.heap.modify (C 0).b (Sort.onCells _))[k]? = _
    have hlt:=qB hm (.inr ⟨_,b8 hid,hn,rfl⟩);simp only at hlt;rw[aBU,aCS];by_cases hk:(C 0).b=k
    .subst hk;rw[aAh rfl,aAh rfl,aAh hlt,ho];rfl
    .rw[aAe hk,aAe hk]) .go (λj hj=>hf j (by simpa[Sort.putCells] using hj)) (by rw[<-hs];simp[Sort.putCells])
   (by
    refine⟨?_,λi x hi=>?_⟩
    .rw[dN];simp[Sort.putCells,hdig];omega
    .rw[KQ] at hi;obtain⟨b,hb,rfl⟩:=aCG.1 hi;refine⟨rfl,λj c hj=>?_⟩;cases j with
     | succ j=>simp[AV.cells] at hj
     | zero=>
      simp[AV.cells] at hj;subst hj;refine⟨.int .u8 (b.toNat:Int), ?_,rfl,.int _ _⟩;simp only[aDf,aBo,Sort.putCells,Array.getElem?_mapIdx];have hil:i<xs.length:=by
       have:=(aAg.1 hb).1;simp[hdig] at this;omega
      have hia:arr[i]? = some (.int .u8 (xs[i].toNat:Int)):=hcell i _ (aAa hil);rw[hia,aBM];congr 1;rw[List.append_assoc,aAO] at hb;have htl:(xs.take 1).length=1:=by simp;omega
      rw[htl] at hb;by_cases h1:i<1
      .rw[aAh h1,aAL,aAh h1,aAa hil] at hb;rw[aAe om,Option.some.inj hb]
      .rw[aAe h1,aAO,hdig] at hb;by_cases h2:i-1<nd
       .rw[aAh h2,aAa om] at hb;rw[aAh om,<-hat (i-1) om,Option.some.inj hb]
       .rw[aAe h2,aAV] at hb;have e:1+nd+(i-1-nd)=i:=om;rw[e,aAa hil] at hb;rw[aAe om,Option.some.inj hb])
  have hsub:∀i,D i->dn D 1 1 i:=λi hi=>.inl hi
  exact⟨.tup [],.tuple #[],_,1,C,rfl,⟨rfl,by simp[up]⟩,aAp _,(m1.widen hsub).1,.tup [] #[] rfl sq,(ext D λi hi=>hi).wide hsub⟩
end Go.Ax
namespace Go.Ax
open Go Go.RowKit
theorem Ak{P:Program}{w:World}{n:String}{g:Nat}{k:IntKind}{zs:List Int}(hg:P.globalNamed n=some g)(hv:Lib.TabIs P w n k zs) :
  VR (λ_=>⟨0,0,0⟩) (λ_=>False) (OX (λ_=>False) (λ_=>⟨0,0,0⟩) []) w (.ip (.agg (zs.map λz=>AV.int k z))) (.pointer (some ⟨g,0,none⟩)):=by
 refine .ip _ g 0 (λj=>.int k (zs.getD j 0)) (λj c hj=>?_) (λj c hj=>?_)
 .have hj0:j<zs.length:=by have:=(aAg.1 hj).1;simpa[AV.cells] using this
  exact⟨QS _ _,by simpa using hv.cell hg j hj0,rfl⟩
 .have hj0:j<zs.length:=by have:=(aAg.1 hj).1;simpa[AV.cells] using this
  simp[AV.cells,aAK,aAa hj0] at hj;subst hj;simp[aAb,aAa hj0];exact .int _ _
end Go.Ax
namespace Go.Ax
open Go
variable{n i k j len:Nat}{V β:Type}{l:List aQ}{ss ls:List Int}{rows:List (List aQ)}
mutual
def bF:aQ->Nat
 | .mk _ _ _ kids=>1+cA kids
def cA:List aQ->Nat
 | []=>0
 | v::r=>bF v+cA r
end
mutual
def jI:aQ->Nat
 | .mk _ _ _ kids=>gK kids+1
def gK:List aQ->Nat
 | []=>0
 | v::r=>max (jI v) (gK r)
end
theorem AP:∀(l:List aQ) (v:aQ),cA (l++[v])=cA l+bF v
 | [],v=>by simp[cA]
 | a::r,v=>by simp only[aBc,cA,AP r v];omega
theorem BC:∀(l m:List aQ),cA (l++m)=cA l+cA m
 | [],v=>by simp[cA]
 | a::r,v=>by simp only[aBc,cA,BC r v];omega
theorem DG:∀(l:List aQ) (v:aQ),gK (l++[v])=max (gK l) (jI v)
 | [],v=>by simp[gK]
 | a::r,v=>by simp only[aBc,gK,DG r v];omega
theorem HV:∀v:aQ,1<=bF v
 | .mk _ _ _ kids=>by simp only[bF];omega
theorem rG(h:k<l.length):cA (l.take (k+1))=cA (l.take k)+bF l[k]:=by
 rw[aAl h,AP]
theorem KE(h:k<l.length):gK (l.take (k+1))=max (gK (l.take k)) (jI l[k]):=by
 rw[aAl h,DG]
theorem lC(l:List aQ)(k:Nat):cA (l.take k)<=cA l:=by
 have:=BC (l.take k) (l.drop k);rw[List.take_append_drop] at this;omega
theorem Cq{v:aQ}(h:v∈l):bF v<=cA l:=by
 induction l with
 | nil=>cases h
 | cons a r ih=>
  simp only[cA];rcases aAj.1 h with rfl|h
  .omega
  .have:=ih h;omega
theorem zH(l:List aQ):l.length<=cA l:=by
 induction l with
 | nil=>simp
 | cons a r ih=>simp only[cA,aAH];have:=HV a;omega
mutual
theorem sY:∀v:aQ,jI v<=bF v
 | .mk _ _ _ kids=>by simp only[jI,bF];have:=yI kids;omega
theorem yI:∀l:List aQ,gK l<=cA l
 | []=>by simp[gK]
 | v::r=>by simp only[gK,cA];have:=sY v;have:=yI r;omega
end
def zK(c:Int):Bool:=(decide (97<=c) && decide (c<=122)) || (decide (65<=c) && decide (c<=90)) || (decide (48<=c) && decide (c<=57)) || decide (c=95)
def upper(c:Int):Bool:=decide (65<=c) && decide (c<=90)
def f9:List UInt8->Bool
 | []=>false
 | c::r=>decide (r.length<16) && upper c.toNat && r.all λc=>zK c.toNat
theorem Kz{c:Int}(h:upper c=true):zK c=true:=by
 simp[upper,zK] at *;omega
def dA(k n:Int)(s:List UInt8)(len:Nat):Bool:=
 if k=0 then decide (s=[]) && decide (len=0)
 else if k=1 then(decide (n=0) || decide (n=1)) && decide (s=[]) && decide (len=0)
 else if k=2 then decide (n=0) && decide (s=[])
 else if k=3 then decide (n=0) && f9 s
 else false
def yC(k:Int)(len:Nat):Bool:=decide (len<=256) && (decide (k≠3) || decide (len<=16))
mutual
def bT:aQ->Bool
 | .mk k n s kids=>dA k n s kids.length && c9 kids
def c9:List aQ->Bool
 | []=>true
 | v::r=>bT v && c9 r
end
mutual
def zT:aQ->Bool
 | .mk k _ _ kids=>yC k kids.length && Bg kids
def Bg:List aQ->Bool
 | []=>true
 | v::r=>zT v && Bg r
end
def Bl(k:Int)(len:Nat):Bool:=(decide (k=2) && decide (256<len)) || (decide (k=3) && decide (16<len))
mutual
def lF:aQ->Bool
 | .mk k _ _ kids=>Bl k kids.length || rO kids
def rO:List aQ->Bool
 | []=>false
 | v::r=>lF v || rO r
end
theorem LN{k n:Int}{s:List UInt8}(h:dA k n s len=true):Bl k len = !yC k len:=by
 rw[aAS];unfold dA at h;simp only[Bl,yC,aBm,aAd,aAC,Bool.not_eq_true',aBV,aB0,aB2];repeat' split at h
 all_goals simp at h
 all_goals omega
mutual
theorem Ca:∀v:aQ,bT v=true->lF v = !zT v
 | .mk k n s kids,h=>by
  simp only[bT,aAd] at h;rw[lF,zT,LN h.1,FT kids h.2,Bool.not_and]
theorem FT:∀l:List aQ,c9 l=true->rO l = !Bg l
 | [],_=>rfl
 | v::r,h=>by
  simp only[c9,aAd] at h;rw[rO,Bg,Ca v h.1,FT r h.2,Bool.not_and]
end
def bG(v:aQ):Int:=if bT v=false then 1 else if lF v=true\/1024<bF v then 4 else 0
theorem qF(h:k<l.length):c9 (l.take (k+1))=(c9 (l.take k) && bT l[k]):=by
 rw[aAl h];generalize l.take k=m
 induction m with
 | nil=>simp[c9]
 | cons a r ih=>simp only[aBc,c9,ih,aDg]
theorem Lu(h:k<l.length):rO (l.take (k+1))=(rO (l.take k) || lF l[k]):=by
 rw[aAl h];generalize l.take k=m
 induction m with
 | nil=>simp[rO]
 | cons a r ih=>simp only[aBc,rO,ih,Bool.or_assoc]
theorem pP:∀{l:List aQ} {v:aQ},v∈l->bT v=false->c9 l=false
 | a::r,v,h,hf=>by
  simp only[c9];rcases aAj.1 h with rfl|h
  .rw[hf];rfl
  .rw[pP h hf];simp
theorem Gu:∀{l:List aQ} {v:aQ},v∈l->lF v=true->rO l=true
 | a::r,v,h,hf=>by
  simp only[rO];rcases aAj.1 h with rfl|h
  .rw[hf];rfl
  .rw[Gu h hf];simp
mutual
def qC{S:Type}(st:S->aQ->Nat->Bool × S):aQ->Nat->S->Bool × S
 | .mk k n s kids,d,x=>match st x (.mk k n s kids) d with
  | (false,y)=>(false,y)
  | (true,y)=>rY st kids (d+1) y
def rY{S:Type}(st:S->aQ->Nat->Bool × S):List aQ->Nat->S->Bool × S
 | [],_,x=>(true,x)
 | v::r,d,x=>match qC st v d x with
  | (false,y)=>(false,y)
  | (true,y)=>rY st r d y
end
def dV(x:Nat × Bool × Bool)(v:aQ)(_:Nat):Bool × (Nat × Bool × Bool):=
 match v with
 | .mk k n s kids=>(x.2.1 && dA k n s kids.length,(x.1+1,x.2.1 && dA k n s kids.length,x.2.2 && yC k kids.length))
mutual
theorem HK:∀(v:aQ) (d n:Nat) (sm:Bool),∃n',qC dV v d (n,true,sm)=(bT v,(n',bT v,if bT v then sm && zT v else(qC dV v d (n,true,sm)).2.2.2))/\n'<=n+bF v/\(bT v=true->n'=n+bF v)
 | .mk k m s kids,d,n,sm=>by
  cases hf:dA k m s kids.length with
  | false=>
   refine⟨n+1, ?_,by simp only[bF];omega,λh=>?_⟩
   .simp only[qC,dV,hf,aBR,bT,aBK,aBB,if_false]
   .simp[bT,hf] at h
  | true=>
   obtain⟨n',h1,h2,h3⟩:=EH kids (d+1) (n+1) (sm && yC k kids.length);refine⟨n', ?_,by simp only[bF];omega,λh=>?_⟩
   .simp only[qC,dV,hf,Bool.and_true,bT,aBY];rw[h1];cases c9 kids with
    | true=>simp[zT,aDg]
    | false=>simp
   .simp only[bT,hf,aBY] at h;rw[h3 h];simp only[bF];omega
theorem EH:∀(l:List aQ) (d n:Nat) (sm:Bool),∃n',rY dV l d (n,true,sm)=(c9 l,(n',c9 l,if c9 l then sm && Bg l else(rY dV l d (n,true,sm)).2.2.2))/\n'<=n+cA l/\(c9 l=true->n'=n+cA l)
 | [],d,n,sm=>⟨n,by simp[rY,c9,Bg],sq,λ_=>by simp[cA]⟩
 | v::r,d,n,sm=>by
  obtain⟨n1,h1,h2,h3⟩:=HK v d n sm;cases hf:bT v with
  | false=>
   rw[hf] at h1;refine⟨n1, ?_,by simp only[cA];omega,λh=>?_⟩
   .simp only[rY,c9,hf,aBK,aBB,if_false];rw[h1]
   .simp[c9,hf] at h
  | true=>
   rw[hf] at h1;simp only[if_true] at h1;obtain⟨n2,g1,g2,g3⟩:=EH r d n1 (sm && zT v);refine⟨n2, ?_,by simp only[cA];omega,λh=>?_⟩
   .simp only[rY,c9,hf,aBY];rw[h1];simp only;rw[g1];cases c9 r with
    | true=>simp[Bg,aDg]
    | false=>simp
   .simp only[c9,hf,aBY] at h;rw[g3 h,h3 hf];simp only[cA];omega
end
theorem OP(v:aQ):(match (qC dV v 1 (0,true,true)).2 with|(n,good,small)=>if good=false then(1:Int) else if small=false\/1024<n then 4 else 0)=bG v:=by
 obtain⟨n',h1,h2,h3⟩:=HK v 1 0 true;rw[h1];unfold bG;cases hf:bT v with
 | false=>simp
 | true=>
  rw[Ca v hf,h3 hf];simp
theorem kP{k n:Int}(hk:i64 k)(hn:i64 n):iO (.mk k n [] []):=by
 simp only[iO,tO];exact⟨hk,hn,sq,sq,trivial⟩
theorem oC{n:Int}{k:Int}{s:List UInt8}(hk:i64 k)(hn:i64 n)(hs:s.length<=4294967296)(hl:l.length<=4294967296)(h:tO l):iO (.mk k n s l):=by
 simp only[iO];exact⟨hk,hn,hs,hl,h⟩
theorem Ad{s:List UInt8}{a:UInt8}(h0:s[0]? = some a)(hl:s.length<=16)(hu:upper a.toNat=true)(hall:∀(j:Nat) (c:UInt8),s[j]? = some c->zK c.toNat=true):f9 s=true:=by
 cases s with
 | nil=>simp at h0
 | cons b r=>
  simp at h0;subst h0;simp only[f9,aAd,aAC,aBD];refine⟨⟨by simp at hl;omega,hu⟩,λc hc=>?_⟩;obtain⟨j,hj⟩:=aAU hc;exact hall (j+1) c (su hj)
theorem xH{s:List UInt8}(h:s.length<1):f9 s=false:=by
 cases s with
 | nil=>rfl
 | cons b r=>simp at h
theorem nQ{s:List UInt8}(h:16<s.length):f9 s=false:=by
 cases s with
 | nil=>rfl
 | cons b r=>simp only[f9];simp at h;rw[aAw om];rfl
theorem mC{s:List UInt8}{a:UInt8}(h0:s[0]? = some a)(hu:upper a.toNat=false):f9 s=false:=by
 cases s with
 | nil=>rfl
 | cons b r=>simp at h0;subst h0;simp only[f9];rw[hu];simp
theorem Au{s:List UInt8}{c:UInt8}(h:s[j]? = some c)(hc:zK c.toNat=false):f9 s=false:=by
 cases s with
 | nil=>rfl
 | cons b r=>
  cases j with
  | zero=>
   simp at h;subst h;refine mC (a:=b) rfl ?_;cases hu:upper b.toNat with
   | false=>rfl
   | true=>rw[Kz hu] at hc;cases hc
  | succ j=>
   simp only[f9];have:(r.all λc=>zK c.toNat)=false:=by
    rw[aBz];intro hall;rw[aBD] at hall;have:=hall c (aAm (su h));rw[hc] at this;cases this
   rw[this];simp
mutual
def BH(g:Nat->Nat->Nat):aQ->Nat->Nat->Nat
 | .mk _ _ _ kids,d,x=>xE g kids (d+1) (g x d)
def xE(g:Nat->Nat->Nat):List aQ->Nat->Nat->Nat
 | [],_,x=>x
 | v::r,d,x=>xE g r d (BH g v d x)
end
theorem G8(g:Nat->Nat->Nat):∀(l:List aQ) (v:aQ) (d x:Nat),xE g (l++[v]) d x=BH g v d (xE g l d x)
 | [],v,d,x=>by simp[xE]
 | a::r,v,d,x=>by simp only[aBc,xE];exact G8 g r v d _
theorem Oy(g:Nat->Nat->Nat)(h:k<l.length)(d x:Nat):xE g (l.take (k+1)) d x=BH g l[k] d (xE g (l.take k) d x):=by
 rw[aAl h,G8]
mutual
theorem Te{g:Nat->Nat->Nat}(hg:∀n d,g n d<=max (n+1) d):∀(v:aQ) (d n:Nat),BH g v d n<=max n (d+jI v)+bF v
 | .mk k m s kids,d,n=>by
  simp only[BH,jI,bF];have h1:=hg n d;have h2:=Hn hg kids (d+1) (g n d);omega
theorem Hn{g:Nat->Nat->Nat}(hg:∀n d,g n d<=max (n+1) d):∀(l:List aQ) (d n:Nat),xE g l d n<=max n (d+gK l)+cA l
 | [],d,n=>by simp only[xE];omega
 | v::r,d,n=>by
  simp only[xE,gK,cA];have h1:=Te hg v d n;have h2:=Hn hg r d (BH g v d n);omega
end
mutual
theorem Kl:∀(v:aQ) (d n:Nat),BH (λn _=>n+1) v d n=n+bF v
 | .mk k m s kids,d,n=>by simp only[BH,bF];rw[HD];omega
theorem HD:∀(l:List aQ) (d n:Nat),xE (λn _=>n+1) l d n=n+cA l
 | [],d,n=>by simp[xE,cA]
 | v::r,d,n=>by simp only[xE,cA];rw[Kl,HD];omega
end
theorem He{S:Type}(st:S->aQ->Nat->Bool × S):∀(l:List aQ) (v:aQ) (d:Nat) (x:S),rY st (l++[v]) d x=match rY st l d x with|(false,y)=>(false,y)|(true,y)=>qC st v d y
 | [],v,d,x=>by
  simp only[aAZ,rY];cases qC st v d x with|mk b y=>cases b<;>rfl
 | a::r,v,d,x=>by
  simp only[aBc,rY];cases qC st a d x with
  | mk b y=>cases b with
   | false=>rfl
   | true=>exact He st r v d y
theorem PQ{S:Type}(st:S->aQ->Nat->Bool × S)(h:k<l.length)(d:Nat)(x y:S)(hx:rY st (l.take k) d x=(true,y)):rY st (l.take (k+1)) d x=qC st l[k] d y:=by
 rw[aAl h,He,hx]
theorem Gq{S:Type}(st:S->aQ->Nat->Bool × S):∀{l m:List aQ} {d:Nat} {x y:S},rY st l d x=(false,y)->rY st (l++m) d x=(false,y)
 | [],m,d,x,y,h=>by simp[rY] at h
 | a::r,m,d,x,y,h=>by
  simp only[rY] at h;simp only[aBc,rY];cases he:qC st a d x with
  | mk b z=>
   rw[he] at h;cases b with
   | false=>simpa using h
   | true=>exact Gq st h
theorem Af:∀{l:List aQ} {v:aQ},v∈l->jI v<=gK l
 | a::r,v,h=>by
  simp only[gK];rcases aAj.1 h with rfl|h
  .omega
  .have:=Af h;omega
theorem AI:∀(l m:List aQ),gK (l++m)=max (gK l) (gK m)
 | [],m=>by simp[gK]
 | a::r,m=>by simp only[aBc,gK,AI r m];omega
theorem Fo(l:List aQ)(k:Nat):gK (l.take k)<=gK l:=by
 have:=AI (l.take k) (l.drop k);rw[List.take_append_drop] at this;omega
mutual
theorem Uz:∀(v:aQ) (d:Nat) (x:Nat × Bool × Bool),(qC dV v d x).2.1<=x.1+bF v
 | .mk k n s kids,d,x=>by
  simp only[qC,dV,bF];split
  .rename_i h;simp only[Prod.mk.injEq] at h;rw[<-h.2];simp only;omega
  .rename_i h;simp only[Prod.mk.injEq] at h;rw[<-h.2];have:=EM kids (d+1) (x.1+1,x.2.1 && dA k n s kids.length,x.2.2 && yC k kids.length);simp only at this;omega
theorem EM:∀(l:List aQ) (d:Nat) (x:Nat × Bool × Bool),(rY dV l d x).2.1<=x.1+cA l
 | [],d,x=>by simp[rY]
 | v::r,d,x=>by
  simp only[rY,cA];have h1:=Uz v d x;split
  .rename_i y h;rw[h] at h1;simp only at h1 |-;omega
  .rename_i y h;rw[h] at h1;have:=EM r d y;simp only at h1;omega
end
structure Nd where
 kind:Int
 name:List UInt8
 lo:Int
 hi:Int
 weights:List Int
 labels:List (List UInt8)
 values:List aQ
 kids:List Int
 value:aQ
def vF(l:List (List UInt8)):List AV:=l.map AV.str
def cW(x:Nd):AV:=
 match x.value with
 | .mk k n s ks=>.agg [.int .i64 x.kind,.str x.name,.int .i64 x.lo,.int .i64 x.hi,.il 1 (bL x.weights),.il 1 (vF x.labels),.il 4 (aU x.values),.il 1 (bL x.kids),.int .i64 k,.int .i64 n,.str s,.il 4 (aU ks)]
def bJ(l:List Nd):List AV:=l.map cW
theorem qH(l:List (List UInt8)):kZ (vF l):=λa ha=>by
 obtain⟨n,_,rfl⟩:=aAE.1 ha;exact .str _
theorem cE(l:List (List UInt8)):(vF l).length=l.length:=by rw[vF,aBO]
theorem JP(l:List (List UInt8))(i:Nat):(vF l)[i]? = (l[i]?).map AV.str:=by rw[vF,aAK]
theorem bB(x:Nd):NN (cW x):=by
 unfold cW;split;exact .agg' (.cons (.int _ _) (.cons (.str _) (.cons (.int _ _) (.cons (.int _ _) (.cons (.il' (bH _)) (.cons (.il' (qH _)) (.cons (.il' (bK _)) (.cons (.il' (bH _)) (.cons (.int _ _) (.cons (.int _ _) (.cons (.str _) (.cons (.il' (bK _)) .nil))))))))))))
theorem aR(l:List Nd):kZ (bJ l):=λa ha=>by
 obtain⟨n,_,rfl⟩:=aAE.1 ha;exact bB n
theorem dL(l:List Nd):(bJ l).length=l.length:=by rw[bJ,aBO]
theorem jW(l:List Nd)(i:Nat):(bJ l)[i]? = (l[i]?).map cW:=by rw[bJ,aAK]
structure x9(x:Nd):Prop where
 kind:i64 x.kind
 name:x.name.length<=4294967296
 lo:i64 x.lo
 hi:i64 x.hi
 weights:x.weights.length<=4294967296
 weightsI:∀w∈x.weights,i64 w
 labels:x.labels.length<=4294967296
 labelsI:∀w∈x.labels,w.length<=4294967296
 values:x.values.length<=4294967296
 valuesI:∀v∈x.values,iO v/\bF v<=4294967296
 kids:x.kids.length<=4294967296
 kidsI:∀k∈x.kids,i64 k
 value:iO x.value
 valueS:bF x.value<=4294967296
def Em:aQ->Bool
 | .mk k n s ks=>decide (k=0) && decide (n=0) && decide (s=[]) && decide (ks.length=0)
def lU(x:Nd):Bool:=
 (decide (x.kind=0) || Em x.value) && (decide (x.kind=1) || (decide (x.lo=0) && decide (x.hi=0))) && (decide (x.kind=3) || decide (x.name=[])) &&
 (decide (x.kind=2) || (decide (x.weights.length=0) && decide (x.labels.length=0))) && (decide (x.kind=4) || decide (x.values.length=0)) && ((decide (x.kind≠0) && decide (x.kind≠1)) || decide (x.kids.length=0))
def fD:List aQ->Bool
 | a::b::r=>decide (cJ a b<0) && fD (b::r)
 | _=>true
def qD(i:Int)(l:List Int):Bool:=l.all λk=>decide (0<=k) && decide (k<i)
def dT(i:Int)(x:Nd):Bool:=
 lU x && (decide (0<=x.kind) && decide (x.kind<=4)) && qD i x.kids &&
 (decide (x.kind≠2) || (decide (1<=x.kids.length) && decide (x.kids.length<=256) && decide (x.weights.length=x.kids.length) && (decide (x.labels.length=0) || decide (x.labels.length=x.kids.length)))) &&
 (decide (x.kind≠3) || (decide (x.kids.length<=256) && (decide (x.name=[]) || (f9 x.name && decide (x.kids.length<=16))))) &&
 (decide (x.kind≠4) || decide (x.kids.length=x.values.length+1)) && fD x.values
def d7(x:Nd):Bool:=
 decide (x.lo<=x.hi) && decide (-4611686018427387904<=x.lo) && decide (x.hi<=4611686018427387904) && decide (x.hi<x.lo+1099511627776) && x.weights.all λw=>decide (1<=w) && decide (w<=1000)
def fG:List aQ->Int
 | []=>0
 | v::r=>if bG v≠0 then bG v else fG r
def r8(x:Nd):List aQ:=(if x.kind=0 then [x.value] else [])++x.values
def gY(i:Int)(x:Nd):Int:=
 if dT i x=false then 1 else if fG (r8 x)≠0 then fG (r8 x) else if d7 x=false then 5 else 0
def f7(l:List Int)(k:Int):Int:=l.getD k.toNat 0
def i9(before kids:List Int):Int:=kids.foldl (λs k=>s+f7 before k) 0
def dM(before kids:List Int):Int:=kids.foldl (λs k=>max s (f7 before k)) 0
def i8(x:Nd):List Int:=if x.kind=2 then x.kids else x.kids.drop 1
def jQ(before:List Int)(x:Nd):Int:=
 if x.kind=0 then 0 else if x.kind=1 then 1 else if x.kind=3 then i9 before x.kids else if x.kind=2 then 1+dM before (i8 x) else f7 before (x.kids.getD 0 0)+dM before (i8 x)
def nK(before:List Int)(x:Nd):Int:=
 if x.kind=0 then bF x.value else if x.kind=1 then 1 else if x.kind=3 then 1+i9 before x.kids else dM before (i8 x)
structure jM where
 vals:List aQ
 many:Bool
def eB(name:List UInt8)(kids:List aQ):aQ:=if name=[] then .mk 2 0 [] kids else .mk 3 0 name kids
def d8(l:List jM)(k:Int):jM:=l.getD k.toNat ⟨[],false⟩
def g7(lo hi:Int):List aQ:=(List.range (hi+1-lo).toNat).map λi:Nat=>.mk 0 (lo+(i:Int)) [] []
def cV(before:List jM)(x:List aQ × Bool)(k:Int):List aQ × Bool:=
 (fT (x.1++(d8 before k).vals),x.2 || (d8 before k).many || decide (1024<(fT (x.1++(d8 before k).vals)).length))
def pO(before:List jM)(kids:List Int):jM:=
 if (kids.foldl (cV before) ([],false)).2 then⟨[],true⟩ else⟨(kids.foldl (cV before) ([],false)).1,false⟩
def gF(rows:List (List aQ))(l:List aQ):List (List aQ):=rows.flatMap λr=>l.map λv=>r++[v]
def gH(before:List jM):List Int->List (List aQ)->Option (List (List aQ))
 | [],rows=>some rows
 | k::r,rows=>if (d8 before k).many=true\/1024<rows.length*(d8 before k).vals.length then none else gH before r (gF rows (d8 before k).vals)
def tF(before:List jM)(x:Nd):jM:=
 match gH before x.kids [[]] with
 | none=>⟨[],true⟩
 | some rows=>⟨fT (rows.map (eB x.name)),false⟩
def dX(x:Nd)(before:List jM):jM:=
 if x.kind=0 then⟨[x.value],false⟩
 else if x.kind=1 then(if 1024<=x.hi-x.lo then⟨[],true⟩ else⟨g7 x.lo x.hi,false⟩)
 else if x.kind=3 then tF before x
 else pO before (if x.kind=4 then x.kids.drop 1 else x.kids)
def aO(nodes:List Nd):List jM:=nodes.foldl (λout x=>out++[dX x out]) []
def dK:List aQ->List aQ->Bool
 | [],[]=>true
 | a::l,b::m=>decide (cJ a b=0) && dK l m
 | _,_=>false
def jY(nodes:List Nd)(x:Nd):Int:=
 let l:=d8 (aO (nodes.take ((x.kids.getD 0 0).toNat+1))) (x.kids.getD 0 0)
 if l.many=true then 4 else if dK l.vals x.values=true then 0 else 1
def jD(before:List Nd)(ls ss:List Int)(x:Nd):Int:=
 if gY before.length x≠0 then gY before.length x
 else if 256<jQ ls x\/1024<nK ss x then 4
 else if x.kind=4 then jY before x else 0
def cY(nodes:List Nd):List Int:=nodes.foldl (λls x=>ls++[jQ ls x]) []
def dH(nodes:List Nd):List Int:=nodes.foldl (λls x=>ls++[nK ls x]) []
def dB:List Nd->List Nd->Int
 | _,[]=>0
 | before,x::r=>if jD before (cY before) (dH before) x≠0 then jD before (cY before) (dH before) x else dB (before++[x]) r
def gL(nodes:List Nd):Int:=if 4096<nodes.length then 4 else dB [] nodes
theorem iH:∀(b l:List Nd) (x:Nd),dB b l=0->dB b (l++[x])=jD (b++l) (cY (b++l)) (dH (b++l)) x
 | b,[],x,h=>by
  simp only[aAZ,dB,aA3];split
  .rfl
  .rename_i h1;simpa using (Eq.symm (Decidable.not_not.1 h1))
 | b,y::r,x,h=>by
  simp only[aBc,dB] at h |-;split at h
  .rename_i h1;exact absurd h h1
  .rename_i h1;rw[aAe h1,iH (b++[y]) r x h];simp
theorem oX(l:List Nd)(x:Nd):cY (l++[x])=cY l++[jQ (cY l) x]:=by simp[cY]
theorem oW(l:List Nd)(x:Nd):dH (l++[x])=dH l++[nK (dH l) x]:=by simp[dH]
theorem kL(l:List Nd)(x:Nd):aO (l++[x])=aO l++[dX x (aO l)]:=by simp[aO]
def uT(n most:Int):Int:=(if n<0 then -(n+1) else n).tmod most
def nU(l:List Int)(i most:Int):Int:=if i<0\/(l.length:Int)<=i then 0 else uT (l.getD i.toNat 0) most
theorem GX{n most:Int}(h:1<=most):0<=uT n most/\uT n most<most:=by
 unfold uT;have h0:0<=(if n<0 then -(n+1) else n):=by split<;>omega
 exact⟨aB4 _ h0,aBP _ om⟩
theorem mU{l:List Int}{i most:Int}(h:1<=most):0<=nU l i most/\nU l i most<most:=by
 unfold nU;split
 .omega
 .exact GX h
def AC(k:Int):aQ:=
 if k.tmod 4=0 then .mk 0 ((k.tdiv 4).tmod 9-4) [] []
 else if k.tmod 4=1 then .mk 1 ((k.tdiv 4).tmod 2) [] []
 else if k.tmod 4=2 then .mk 3 0 (([[76,101,97,102],[82,101,100],[88]]:List (List UInt8)).getD ((k.tdiv 4).tmod 3).toNat []) []
 else .mk 2 0 [] [.mk 0 ((k.tdiv 4).tmod 3) [] []]
def sX(l:List Int)(i j:Int):Int:=
 if (nU l (3*i+j+2) 1000000).tmod 3=0 then((nU l (3*i+j+2) 1000000).tdiv 3).tmod i else max 0 (i-1-((nU l (3*i+j+2) 1000000).tdiv 3).tmod 3)
theorem mL:∀{l:List aQ},(∀(j:Nat) (a b:aQ),l[j]? = some a->l[j+1]? = some b->cJ a b<0)->fD l=true
 | [],_=>rfl
 | [a],_=>rfl
 | a::b::r,h=>by
  simp only[fD,aAd,aAC];exact⟨h 0 a b rfl rfl,mL λj x y hx hy=>h (j+1) x y (su hx) (su hy)⟩
theorem mH:∀{l:List aQ},fD l=true->∀(j:Nat) (a b:aQ),l[j]? = some a->l[j+1]? = some b->cJ a b<0
 | [],_,j,a,b,h1,h2=>by simp at h1
 | [x],_,j,a,b,h1,h2=>by simp at h2
 | x::y::r,h,j,a,b,h1,h2=>by
  simp only[fD,aAd,aAC] at h;cases j with
  | zero=>simp at h1 h2;subst h1 h2;exact h.1
  | succ j=>exact mH h.2 j a b (su h1) (su h2)
theorem fN{i:Int}{l:List Int}:qD i l=true↔∀(j:Nat) (k:Int),l[j]? = some k->0<=k/\k<i:=by
 simp only[qD,aBD,aAd,aAC];constructor
 .intro h j k hj;exact h k (aAm hj)
 .intro h k hk;obtain⟨j,hj⟩:=aAU hk;exact h j k hj
theorem FD:∀{l m:List aQ},l.length≠m.length->dK l m=false
 | [],[],h=>absurd rfl h
 | [],_::_,_=>rfl
 | _::_,[],_=>rfl
 | a::l,b::m,h=>by
  rw[dK,FD (l:=l) (m:=m) (su h),aBR]
theorem yO{b l:List Int}(h:k<l.length):i9 b (l.take (k+1))=i9 b (l.take k)+f7 b l[k]:=by
 unfold i9;rw[aAl h,List.foldl_append];rfl
theorem vN{b l:List Int}(h:k<l.length):dM b (l.take (k+1))=max (dM b (l.take k)) (f7 b l[k]):=by
 unfold dM;rw[aAl h,List.foldl_append];rfl
theorem q7{b l:List Int}(h:k<l.length)(hk:0<k):dM b ((l.take (k+1)).drop 1)=max (dM b ((l.take k).drop 1)) (f7 b l[k]):=by
 rw[aAl h,aCP (by simp;omega)];simp[dM]
theorem oV{b:List Int}{M:Int}(hM:0<=M)(h:∀x∈b,0<=x/\x<=M)(q:Int):0<=f7 b q/\f7 b q<=M:=by
 unfold f7;rw[aAb];cases hq:b[q.toNat]? with
 | none=>simp;omega
 | some x=>exact h x (aAm hq)
theorem yS(b:List Int):∀(l:List Int) (s:Int),l.foldl (λs k=>s+f7 b k) s=s+i9 b l
 | [],s=>by simp[i9]
 | a::r,s=>by
  simp only[aAy,i9];rw[yS b r,yS b r (0+f7 b a)];simp[i9];omega
theorem kH{b:List Int}{M:Int}(hM:0<=M)(h:∀x∈b,0<=x/\x<=M):∀l:List Int,0<=i9 b l/\i9 b l<=l.length*M
 | []=>by simp[i9]
 | a::r=>by
  have h1:=kH hM h r;have h2:=oV hM h a;have e:i9 b (a::r)=f7 b a+i9 b r:=by simp only[i9,aAy];rw[yS b r];simp[i9]
  rw[e];simp only[aAH];have:((r.length+1:Nat):Int)*M=r.length*M+M:=by rw[Int.natCast_add,Int.add_mul];simp
  omega
theorem HH(b:List Int){M:Int}(h:∀q,0<=f7 b q/\f7 b q<=M):∀(l:List Int) (s:Int),0<=s->s<=M->0<=l.foldl (λs k=>max s (f7 b k)) s/\l.foldl (λs k=>max s (f7 b k)) s<=M
 | [],s,h1,h2=>⟨h1,h2⟩
 | a::r,s,h1,h2=>by
  have:=h a;simp only[aAy];exact HH b h r (max s (f7 b a)) om om
theorem mT{b:List Int}{M:Int}(hM:0<=M)(h:∀x∈b,0<=x/\x<=M)(l:List Int):0<=dM b l/\dM b l<=M:=
 HH b (oV hM h) l 0 om hM
theorem aH.useApp{P:Program}{Z:List (Nat × AV)}{F:FuncId}{args args':List AV}{mem:aP}{nx:Nat}{t:TypeId}{sz:Nat}{xs:List AV}{R:Nat->List AV->Prop}{K:AV->aP->Nat->Prop}(hΓ:∀p∈Z,NN p.2)
  (h:aH P Z F args' [(0,.row t sz xs)] 1 λr m _=>∃(len:Nat) (ys:List AV),r = .sl 1 0 len/\m=[(1,.row t sz ys)]/\kZ ys/\R len ys) (g:Nat) (hg:lk mem g=some (.row t sz xs)) (hx:kZ xs) (hargs:jB [(g,.row t sz xs)] [(g,0)] args args')
  (hk:∀len ys,R len ys->Gi g mem λrest=>K (.sl nx 0 len) ((nx,.row t sz ys)::rest) (nx+1)):aH P Z F args mem nx K:=by
 refine⟨λX D C w vs hD hm hv=>?_⟩;refine(aH.use (K:=K) (nx:=nx) hΓ h [(g,0)] (m1:=[(g,.row t sz xs)]) (rest:=drop g mem) ⟨λp hp=>?_,λp hp=>dQ hp,λp hp=>?_,λp hp q hq=>?_,sq⟩ (l6 hm.nod) hargs (λp hp=>?_) sq (rX (by rfl)) (λid i hl=>?_) ?_).run X D C w vs hD hm hv
 .simp at hp;subst hp;exact b8 hg
 .by_cases hpg:p.1=g
  .left;have:=vW hm.nod hp (b8 hg) hpg;rw[this];simp
  .exact .inr (wO hp hpg)
 .simp at hp;subst hp;exact Ne.symm (u9 hm.nod hq)
 .simp at hp;subst hp;exact .inl ⟨g,t,sz,xs,xs,rfl,by simp[lk],by simp[lk],.same hx⟩
 .have:=b8 hl;simp at this;omega
 .rintro r m n ⟨len,ys,rfl,rfl,hn,hR⟩ _;refine⟨[(1,nx)],.sl nx 0 len,[(nx,.row t sz ys)],nx+1,aC8 _,.sl 1 nx 0 len (by simp[lk]),λp hp=>?_,sq,rX (by rfl),λi id hl=>?_,λp hp q hq=>?_,y6.1 (hk len ys hR)⟩
  .simp at hp;subst hp;exact .inl ⟨1,t,sz,ys,ys,rfl,by simp[lk],by simp[lk],.same hn⟩
  .have:=b8 hl;simp at this;obtain⟨rfl,rfl⟩:=this;exact .inr ⟨aAp _,aAp _,aBx _⟩
  .simp at hp;subst hp;have:=hD _ (hm.low q (dQ hq));simp only;omega
def oZ(x:jM):AV:=.agg [.il 4 (aU x.vals),.bool x.many]
def cT(l:List jM):List AV:=l.map oZ
theorem qK(x:jM):NN (oZ x):=.agg' (.cons (.il' (bK _)) (.cons (.bool _) .nil))
theorem bW(l:List jM):kZ (cT l):=λa ha=>by
 obtain⟨n,_,rfl⟩:=aAE.1 ha;exact qK n
theorem uS(l:List jM):(cT l).length=l.length:=by rw[cT,aBO]
theorem oT(l:List jM)(i:Nat):(cT l)[i]? = (l[i]?).map oZ:=by rw[cT,aAK]
def u5(lo:Int)(k:Nat):List aQ:=(List.range k).map λi:Nat=>.mk 0 (lo+(i:Int)) [] []
theorem De(lo:Int)(k:Nat):u5 lo (k+1)=u5 lo k++[.mk 0 (lo+(k:Int)) [] []]:=by simp[u5,aCy]
theorem Gb(lo:Int)(k:Nat):(u5 lo k).length=k:=by simp[u5]
theorem aH.useNew{P:Program}{Z:List (Nat × AV)}{F:FuncId}{args:List AV}{mem:aP}{nx:Nat}{t:TypeId}{sz len:Nat}{ys:List AV}{K:AV->aP->Nat->Prop}(hΓ:∀p∈Z,NN p.2)
  (h:aH P Z F args [] 0 λr m n=>r = .sl 0 0 len/\m=[(0,.row t sz ys)]/\n=1) (ha:kZ args) (hn:kZ ys) (hk:K (.sl nx 0 len) ((nx,.row t sz ys)::mem) (nx+1)):aH P Z F args mem nx K:=by
 refine⟨λX D C w vs hD hm hv=>?_⟩;refine(aH.use (K:=K) (nx:=nx) hΓ h [] (m1:=[]) (rest:=mem) ⟨(λp hp=>by cases hp),λp hp=>hp,λp hp=>.inr hp,(λp hp=>by cases hp),sq⟩ hm.nod (Fs ha) (λp hp=>by cases hp) sq (λi j k h=>by simp[lk] at h) (λid i h=>by simp[lk] at h) ?_).run X D C w vs hD hm hv;rintro r m n ⟨rfl,rfl,rfl⟩ _;refine⟨[(0,nx)],.sl nx 0 len,[(nx,.row t sz ys)],nx+1,aC8 _,.sl 0 nx 0 len (by simp[lk]),λp hp=>?_,sq,rX (by rfl),λi id hl=>?_,λp hp q hq=>?_,hk⟩
 .simp at hp;subst hp;exact .inl ⟨0,t,sz,ys,ys,rfl,by simp[lk],by simp[lk],.same hn⟩
 .have:=b8 hl;simp at this;obtain⟨rfl,rfl⟩:=this;exact .inr ⟨aAN _,aAp _,aBx _⟩
 .simp at hp;subst hp;have:=hD _ (hm.low q hq);simp only;omega
theorem zJ{bs:List jM}(hb:∀b∈bs,b.vals.length<=1024/\∀v∈b.vals,iO v):∀(l:List Int) (a:List aQ × Bool) (n:Nat),a.1.length<=n->(∀v∈a.1,iO v) ->
  (l.foldl (cV bs) a).1.length<=n+l.length*1024/\∀v∈(l.foldl (cV bs) a).1,iO v
 | [],a,n,h1,h2=>⟨su h1,h2⟩
 | q::r,a,n,h1,h2=>by
  have hq:(d8 bs q).vals.length<=1024/\∀v∈(d8 bs q).vals,iO v:=by
   unfold d8;rw[aAb];cases hc:bs[q.toNat]? with
   | none=>simp
   | some b=>exact hb b (aAm hc)
  have hs:=uZ (a.1++(d8 bs q).vals);simp only[aAA] at hs;have:=zJ hb r (cV bs a q) (n+1024) (by simp only[cV];omega) (λv hv=>by
   have:=q6 hv;rcases aAt.1 this with h|h
   .exact h2 v h
   .exact hq.2 v h)
  simp only[aAy,aAH];refine⟨by have:=this.1;omega,this.2⟩
theorem Ls(f:β->V->β){l:List V}(h:k<l.length)(a:β):(l.take (k+1)).foldl f a=f ((l.take k).foldl f a) l[k]:=by
 rw[aAl h,List.foldl_append];rfl
theorem Ld(f:β->V->β){l:List V}(h:k<l.length)(hk:0<k)(a:β):((l.take (k+1)).drop 1).foldl f a=f (((l.take k).drop 1).foldl f a) l[k]:=by
 rw[aAl h,aCP (by simp;omega),List.foldl_append];rfl
theorem i0{P:List V->Prop}(h0:P [])(h1:∀(l:List V) (x:V),P l->P (l++[x]))(l:List V):P l:=by
 rw[<-List.reverse_reverse l]
 induction l.reverse with
 | nil=>exact h0
 | cons a r ih=>rw[aB1];exact h1 _ _ ih
structure mV(i:Nat)(x:Nd):Prop where
 ok:x9 x
 kind:0<=x.kind/\x.kind<=4
 kids:∀(j:Nat) (k:Int),x.kids[j]? = some k->0<=k/\k<i
 klen:x.kids.length<=65536
 num:d7 x=true
def HR(bs:List jM):Prop:=∀b∈bs,b.vals.length<=1024/\∀v∈b.vals,iO v
theorem dG{x:Nd}(h:d7 x=true):x.lo<=x.hi/\-4611686018427387904<=x.lo/\x.hi<=4611686018427387904/\x.hi<x.lo+1099511627776:=by
 unfold d7 at h;simp only[aAd,aAC] at h;exact⟨h.1.1.1.1,h.1.1.1.2,h.1.1.2,h.1.2⟩
theorem qV{r:List aQ}(h:r∈gF rows l):∃r'∈rows,∃v∈l,r=r'++[v]:=by
 simp only[gF,aB8,aAE] at h;obtain⟨r',h1,v,h2,rfl⟩:=h;exact⟨r',h1,v,h2,rfl⟩
theorem uG(l:List aQ):∀rows:List (List aQ),(gF rows l).length=rows.length*l.length
 | []=>by simp[gF]
 | r::rs=>by
  have:=uG l rs;simp only[gF,aBs,aAA,aBO,aAH,Nat.add_mul,aBq] at this |-;omega
theorem xA{bs:List jM}(hb:HR bs)(k:Int):(d8 bs k).vals.length<=1024/\∀v∈(d8 bs k).vals,iO v:=by
 unfold d8;rw[aAb];cases h:bs[k.toNat]? with
 | none=>simp
 | some b=>exact hb b (aAm h)
theorem Ez{bs:List jM}(hb:HR bs):∀(kids:List Int) (rows out:List (List aQ)) (n:Nat),rows.length<=1024->(∀r∈rows,r.length<=n/\∀v∈r,iO v)->gH bs kids rows=some out->out.length<=1024/\∀r∈out,r.length<=n+kids.length/\∀v∈r,iO v
 | [],rows,out,n,h1,h2,h=>by
  simp only[gH] at h;cases h;exact⟨h1,λr hr=>⟨by simpa using (h2 r hr).1,(h2 r hr).2⟩⟩
 | k::ks,rows,out,n,h1,h2,h=>by
  simp only[gH] at h;split at h
  .cases h
  .rename_i hc;rw[not_or] at hc;have hg:=xA hb k;obtain⟨a,b⟩:=Ez hb ks _ out (n+1) (by rw[uG];omega) (λr hr=>by
    obtain⟨r',h3,v,h4,rfl⟩:=qV hr;refine⟨by have:=(h2 r' h3).1;simp;omega,λu hu=>?_⟩;rcases aAt.1 hu with hu|hu
    .exact(h2 r' h3).2 u hu
    .simp at hu;rw[hu];exact hg.2 v h4) h
   exact⟨a,λr hr=>⟨by have:=(b r hr).1;simp;omega,(b r hr).2⟩⟩
theorem Pg{name:List UInt8}(hn:name.length<=4294967296){r:List aQ}(hr:r.length<=4294967296)(ho:∀v∈r,iO v):iO (eB name r):=by
 unfold eB;split
 .exact oC oq oq sq hr (sV ho)
 .exact oC oq oq hn hr (sV ho)
theorem HQ{bs:List jM}:∀(l:List Int) (a:List aQ × Bool),(a.2=false->a.1.length<=1024)->(l.foldl (cV bs) a).2=false->(l.foldl (cV bs) a).1.length<=1024
 | [],a,h,h2=>h h2
 | k::r,a,h,h2=>by
  refine HQ r (cV bs a k) (λh3=>?_) h2;simp only[cV,aB0,aB2] at h3 |-;omega
theorem L9{x:Nd}{bs:List jM}(hx:mV i x)(hb:HR bs):(dX x bs).vals.length<=1024/\∀v∈(dX x bs).vals,iO v:=by
 unfold dX;have hnum:=dG hx.num;split
 .exact⟨sq,λv hv=>by simp at hv;rw[hv];exact hx.ok.value⟩
 .split
  .split
   .simp
   .refine⟨by simp[g7];omega,λv hv=>?_⟩;simp only[g7,aAE,aCi] at hv;obtain⟨j,hj,rfl⟩:=hv;exact kP oq oq
  .split
   .unfold tF;split
    .simp
    .rename_i rows hr;obtain⟨h1,h2⟩:=Ez hb x.kids [[]] rows 0 sq sq hr;refine⟨by have:=uZ (rows.map (eB x.name));simp at this |-;omega,λv hv=>?_⟩;have:=q6 hv;obtain⟨r,hr2,rfl⟩:=aAE.1 this;have h3:=h2 r hr2;have:=hx.klen;exact Pg hx.ok.name om h3.2
   .generalize (if x.kind=4 then x.kids.drop 1 else x.kids)=ks;unfold pO;split
    .simp
    .rename_i hm;have hm:(ks.foldl (cV bs) ([],false)).2=false:=su hm
     exact⟨HQ _ _ sq hm,(zJ hb _ ([],false) 0 sq sq).2⟩
theorem gN(l:List Nd):(aO l).length=l.length:=by
 refine i0 (P:=λl=>(aO l).length=l.length) rfl (λl x ih=>?_) l;rw[kL];simp[ih]
theorem pM(l:List Nd):(∀(i:Nat) (x:Nd),l[i]? = some x->mV i x)->HR (aO l):=by
 refine i0 (P:=λl=>(∀(i:Nat) (x:Nd),l[i]? = some x->mV i x)->HR (aO l)) (λ_ b hb=>by simp[aO] at hb) (λl x ih h=>?_) l;have h1:=ih λi y hy=>h i y (by
  have:=(aAg.1 hy).1;rw[aAM this];exact hy)
 have h2:=h l.length x sq;rw[kL];intro b hb;rcases aAt.1 hb with hb|hb
 .exact h1 b hb
 .simp at hb;rw[hb];exact L9 h2 h1
theorem FK:∀(b l r:List Nd),dB b l=0->dB b (l++r)=dB (b++l) r
 | b,[],r,_=>sq
 | b,y::l,r,h=>by
  simp only[aBc,dB] at h |-;split at h
  .rename_i h1;exact absurd h h1
  .rename_i h1;rw[aAe h1,FK (b++[y]) l r h];simp
theorem kG{l r:List Nd}(h:dB [] (l++r)=0):dB [] l=0:=by
 have key:∀(l b:List Nd),dB b (l++r)=0->dB b l=0:=by
  intro l
  induction l with
  | nil=>intro b _;rfl
  | cons y l ih=>
   intro b h;simp only[aBc,dB] at h |-;split at h
   .rename_i h1;exact absurd h h1
   .rename_i h1;rw[aAe h1];exact ih _ h
 exact key l [] h
theorem DT{l r:List Nd}{x:Nd}(h:dB [] l=0)(hs:jD l (cY l) (dH l) x≠0):dB [] (l++x::r)=jD l (cY l) (dH l) x:=by
 rw[FK _ _ _ h];simp only[aAZ,dB];rw[aAh hs]
theorem pT:∀{l m:List aQ},dK l m=true->l.length=m.length
 | [],[],_=>rfl
 | a::l,b::m,h=>by
  simp only[dK,aAd] at h;simp[pT h.2]
 | [],b::m,h=>by simp[dK] at h
 | a::l,[],h=>by simp[dK] at h
structure IM(i:Nat)(x:Nd):Prop where
 kind:0<=x.kind/\x.kind<=4
 kids:∀(j:Nat) (k:Int),x.kids[j]? = some k->0<=k/\k<i
 num:d7 x=true
 klen:x.kind≠4->x.kids.length<=256
 bind:x.kind=4->x.kids.length=x.values.length+1
theorem pB{x:Nd}(h:gY i x=0):IM i x:=by
 unfold gY at h;split at h
 .omega
 .rename_i hf;split at h
  .rename_i h1;exact absurd h h1
  .split at h
   .omega
   .rename_i hn;have hn:d7 x=true:=su hn
    have hf:dT i x=true:=su hf
    unfold dT at hf;simp only[aAd,aBm,aAC] at hf;obtain⟨⟨⟨⟨⟨⟨hu,hk⟩,hki⟩,h2⟩,h3⟩,h4⟩,_⟩:=hf;refine⟨hk,fN.1 hki,hn,λhne=>?_,λhe=>om⟩;unfold lU at hu;simp only[aAd,aBm,aAC] at hu;rcases(show x.kind=0\/x.kind=1\/x.kind=2\/x.kind=3 by omega) with e|e|e|e
    .have:=hu.2;omega
    .have:=hu.2;omega
    .rcases h2 with h2|h2
     .omega
     .exact h2.1.1.2
    .rcases h3 with h3|h3
     .omega
     .exact h3.1
theorem gD{before:List Nd}{x:Nd}(h:jD before ls ss x=0):gY before.length x=0/\jQ ls x<=256/\nK ss x<=1024/\(x.kind=4->jY before x=0):=by
 unfold jD at h;split at h
 .rename_i h1;exact absurd h h1
 .rename_i h1;split at h
  .omega
  .rename_i h2;rw[not_or] at h2;refine⟨su h1,om,om,λe=>?_⟩;rw[aAh e] at h;exact h
theorem nC{l:List V}{x:V}(h:(l.take n)[i]? = some x):l[i]? = some x/\i<n:=by
 rw[aAL] at h;split at h
 .rename_i hi;exact⟨h,hi⟩
 .cases h
theorem PG{before:List Nd}{x:Nd}(hg:∀(j:Nat) (y:Nd),before[j]? = some y->mV j y)(h:jY before x=0):x.values.length<=1024:=by
 unfold jY at h;simp only at h;split at h
 .omega
 .split at h
  .rename_i hs;have:=pT hs;have hgl:=pM (before.take ((x.kids.getD 0 0).toNat+1)) λi y hy=>hg i y (nC hy).1
   have:=(xA hgl (x.kids.getD 0 0)).1;omega
  .omega
theorem Ou{before:List Nd}{x:Nd}(hg:∀(j:Nat) (y:Nd),before[j]? = some y->mV j y)(ho:x9 x)(h:jD before ls ss x=0):mV before.length x:=by
 obtain⟨h1,h2,h3,h4⟩:=gD h;have hn:=pB h1;refine⟨ho,hn.kind,hn.kids, ?_,hn.num⟩;by_cases e:x.kind=4
 .have:=hn.bind e;have:=PG hg (h4 e);omega
 .have:=hn.klen e;omega
theorem o6(ns:List Nd)(ho:∀x∈ns,x9 x)(h:dB [] ns=0):∀(j:Nat) (x:Nd),ns[j]? = some x->mV j x:=by
 refine i0 (P:=λns=>(∀x∈ns,x9 x)->dB [] ns=0->∀(j:Nat) (x:Nd),ns[j]? = some x->mV j x) (λ_ _ j x hx=>by simp at hx) (λl x ih ho h=>?_) ns ho h;have h1:=kG h;have ih:=ih (λy hy=>ho y (aAQ _ hy)) h1;have hs:=iH [] l x h1;rw[h] at hs;simp only[aAZ] at hs;have hg:=Ou ih (ho x sq) hs.symm;intro j y hy;rcases aAr j l.length with hj|hj
 .rw[aAM hj] at hy;exact ih j y hy
 .rw[aAW hj] at hy;have e:j-l.length=0:=by
   have:=(aAg.1 hy).1;simp at this;omega
  rw[e] at hy;simp at hy;subst hy;obtain rfl:j=l.length:=om;exact hg
theorem Jz{x:Nd}(h:∀y∈ls,0<=y/\y<=1024):0<=jQ ls x:=by
 have h1:=(kH om h x.kids).1;have h2:=(mT om h (i8 x)).1;have h3:=(oV om h (x.kids.getD 0 0)).1;unfold jQ;split
 .omega
 .split
  .omega
  .split
   .exact h1
   .split
    .omega
    .omega
theorem KA{x:Nd}(h:∀y∈ls,0<=y/\y<=1024):0<=nK ls x:=by
 have h1:=(kH om h x.kids).1;have h2:=(mT om h (i8 x)).1;unfold nK;split
 .omega
 .split
  .omega
  .split
   .omega
   .exact h2
theorem rP(ns:List Nd)(h:dB [] ns=0):(∀y∈cY ns,0<=y/\y<=1024)/\(∀y∈dH ns,0<=y/\y<=1024):=by
 refine i0 (P:=λns=>dB [] ns=0->(∀y∈cY ns,0<=y/\y<=1024)/\(∀y∈dH ns,0<=y/\y<=1024)) (λ_=>by simp[cY,dH]) (λl x ih h=>?_) ns h;have h1:=kG h;obtain⟨i1,i2⟩:=ih h1;have hs:=iH [] l x h1;rw[h] at hs;simp only[aAZ] at hs;obtain⟨_,h2,h3,_⟩:=gD hs.symm;rw[oX,oW];have n1:=Jz (x:=x) i1;have n2:=KA (x:=x) i2;constructor
 .intro y hy;rcases aAt.1 hy with hy|hy
  .exact i1 y hy
  .simp at hy;subst hy;omega
 .intro y hy;rcases aAt.1 hy with hy|hy
  .exact i2 y hy
  .simp at hy;subst hy;omega
theorem nH(l:List Nd):(cY l).length=l.length:=by
 refine i0 (P:=λl=>(cY l).length=l.length) rfl (λl x ih=>?_) l;rw[oX];simp[ih]
theorem oA(l:List Nd):(dH l).length=l.length:=by
 refine i0 (P:=λl=>(dH l).length=l.length) rfl (λl x ih=>?_) l;rw[oW];simp[ih]
theorem EE{a b:Int}(ha:0<=a)(hb:0<b):a.tdiv b<=a:=by
 rw[aBH ha];exact Int.ediv_le_self _ ha
theorem lQ{a b:Int}(ha:0<=a)(hb:0<b):0<=a.tmod b/\a.tmod b<b:=⟨aB4 _ ha,aBP _ hb⟩
theorem JX(k:Int)(hk:0<=k):iO (AC k)/\bF (AC k)<=2:=by
 have h4:=lQ hk (show (0:Int)<4 by omega);have hd:0<=k.tdiv 4:=aB5 hk om;have a:=lQ hd (show (0:Int)<9 by omega);have b:=lQ hd (show (0:Int)<2 by omega);have c:=lQ hd (show (0:Int)<3 by omega);unfold AC;split
 .exact⟨kP oq oq,by simp[bF,cA]⟩
 .split
  .exact⟨kP oq oq,by simp[bF,cA]⟩
  .split
   .refine⟨oC oq oq ?_ sq (by simp[tO]),by simp[bF,cA]⟩;rcases(show ((k.tdiv 4).tmod 3).toNat=0\/((k.tdiv 4).tmod 3).toNat=1\/((k.tdiv 4).tmod 3).toNat=2 by omega) with h|h|h<;>rw[h]<;>simp
   .refine⟨oC oq oq sq sq ?_,by simp[bF,cA]⟩;simp only[tO,and_true];exact kP oq oq
def Ag:List (List UInt8):=[[97],[98],[99],[100]]
structure Re(x:Nd):Prop where
 ok:x9 x
 vals:x.values.length<=1024
 labels:∀s∈x.labels,s∈Ag
 seq:x.kind=3->x.kids.length<=3
structure mF(ns:List Nd):Prop where
 valid:dB [] ns=0
 gen:∀x∈ns,Re x
theorem qI{kind lo hi:Int}{name:List UInt8}{ws ks:List Int}{ls:List (List UInt8)}{vs:List aQ}{v:aQ}(h1:i64 kind)(h2:name.length<=1000)(h3:i64 lo)(h4:i64 hi)(h5:ws.length<=1000)(h6:∀w∈ws,i64 w)(h7:ls.length<=1000)(h8:∀s∈ls,s∈Ag)
  (h9:vs.length<=1000) (h10:∀v∈vs,iO v/\bF v<=4294967296) (h11:ks.length<=1000) (h12:∀k∈ks,i64 k) (h13:iO v) (h14:bF v<=4294967296)
  (h15:kind=3->ks.length<=3:=by first|(intro h;exact absurd h om)|(intro _;omega)):Re ⟨kind,name,lo,hi,ws,ls,vs,ks,v⟩:=
 ⟨⟨h1,by simp only;omega,h3,h4,by simp only;omega,h6,by simp only;omega,λs hs=>by
   have:=h8 s hs;simp[Ag] at this;rcases this with rfl|rfl|rfl|rfl<;>simp,by simp only;omega,h10,by simp only;omega,h12,h13,h14⟩,by simp only;omega,h8,h15⟩
theorem Lg(ns:List Nd)(ls ss:List Int)(m:Int):jD ns ls ss ⟨0,[],0,0,[],[],[],[],.mk 0 m [] []⟩=0:=by
 have hv:bG (.mk 0 m [] [])=0:=by simp[bG,bT,c9,dA,lF,rO,Bl,bF,cA]
 have hf:dT (ns.length:Int) ⟨0,[],0,0,[],[],[],[],.mk 0 m [] []⟩=true:=by simp[dT,lU,qD,fD]
 have hn:gY (ns.length:Int) ⟨0,[],0,0,[],[],[],[],.mk 0 m [] []⟩=0:=by
  unfold gY;rw[aAe (by rw[hf];simp)];simp[r8,fG,hv,d7]
 unfold jD;rw[aAe (by rw[hn];simp)];simp[jQ,nK,bF,cA]
theorem GI{bs:List jM}{ss:List Int}:∀(kids:List Int) (rows out:List (List aQ)) (S:Int),(∀r∈rows,(cA r:Int)<=S)->(∀k∈kids,∀v∈(d8 bs k).vals,(bF v:Int)<=f7 ss k)->gH bs kids rows=some out->∀r∈out,(cA r:Int)<=S+i9 ss kids
 | [],rows,out,S,h1,_,h=>by
  simp only[gH] at h;cases h;intro r hr;simpa[i9] using h1 r hr
 | k::ks,rows,out,S,h1,h2,h=>by
  simp only[gH] at h;split at h
  .cases h
  .have e:i9 ss (k::ks)=f7 ss k+i9 ss ks:=by simp only[i9,aAy];rw[yS ss ks];simp[i9]
   have ih:=GI ks _ out (S+f7 ss k) (λr hr=>by
    obtain⟨r',h3,v,h4,rfl⟩:=qV hr;have a:=h1 r' h3;have b:=h2 k sq v h4;rw[AP];omega) (λk' hk'=>h2 k' (by simp[hk'])) h
   intro r hr;have:=ih r hr;omega
theorem IF{bs:List jM}:∀(l:List Int) (a:List aQ × Bool),∀v∈(l.foldl (cV bs) a).1,v∈a.1\/∃k∈l,v∈(d8 bs k).vals
 | [],a,v,hv=>.inl hv
 | k::r,a,v,hv=>by
  rcases IF r (cV bs a k) v hv with h|⟨k',h1,h2⟩
  .simp only[cV] at h;rcases aAt.1 (q6 h) with h|h
   .exact .inl h
   .exact .inr ⟨k,sq,h⟩
  .exact .inr ⟨k',by simp[h1],h2⟩
theorem BU{ss:List Int}:∀(l:List Int) (s:Int) (k:Int),k∈l->f7 ss k<=l.foldl (λs k=>max s (f7 ss k)) s/\s<=l.foldl (λs k=>max s (f7 ss k)) s
 | a::r,s,k,h=>by
  have mono:∀(l:List Int) (s:Int),s<=l.foldl (λs k=>max s (f7 ss k)) s:=by
   intro l
   induction l with
   | nil=>intro s;simp
   | cons b l ih=>intro s;have:=ih (max s (f7 ss b));simp only[aAy];omega
  simp only[aAy];rcases aAj.1 h with rfl|h
  .have:=mono r (max s (f7 ss k));omega
  .have:=BU (ss:=ss) r (max s (f7 ss a)) k h;omega
theorem LD{x:Nd}{bs:List jM}(hkd:0<=x.kind/\x.kind<=4)(hb:∀k∈x.kids,∀v∈(d8 bs k).vals,(bF v:Int)<=f7 ss k):∀v∈(dX x bs).vals,(bF v:Int)<=nK ss x:=by
 intro v hv;unfold dX at hv;split at hv
 .rename_i h0;simp at hv;subst hv;unfold nK;rw[aAh h0];omega
 .rename_i h0;split at hv
  .rename_i h1;split at hv
   .simp at hv
   .simp only[g7,aAE] at hv;obtain⟨j,_,rfl⟩:=hv;unfold nK;rw[aAe h0,aAh h1];simp[bF,cA]
  .rename_i h1;split at hv
   .rename_i h3;unfold tF at hv;split at hv
    .simp at hv
    .rename_i rows hr;obtain⟨r,hr2,rfl⟩:=aAE.1 (q6 hv);have:=GI x.kids [[]] rows 0 (by simp[cA]) hb hr r hr2;have e:bF (eB x.name r)=1+cA r:=by unfold eB;split<;>simp[bF]
     unfold nK;rw[aAe h0,aAe h1,aAh h3,e];omega
   .rename_i h3;have key:∀ks:List Int,(∀k∈ks,k∈x.kids)->v∈(pO bs ks).vals->(bF v:Int)<=dM ss ks:=by
     intro ks hks hv;unfold pO at hv;split at hv
     .simp at hv
     .rcases IF ks ([],false) v hv with h|⟨k,h1,h2⟩
      .simp at h
      .have:=hb k (hks k h1) v h2;have:=(BU (ss:=ss) ks 0 k h1).1;unfold dM;omega
    have:(bF v:Int)<=dM ss (i8 x):=by
     unfold i8;by_cases h4:x.kind=4
     .rw[aAh h4] at hv;rw[aAe om];exact key _ (λk hk=>aAX hk) hv
     .rw[aAe h4] at hv;by_cases h2:x.kind=2
      .rw[aAh h2];exact key _ (λk hk=>hk) hv
      .omega
    unfold nK;rw[aAe h0,aAe h1,aAe h3];omega
theorem Jk{bs:List jM}{b:jM}{k:Int}(hk:0<=k):(k<bs.length->d8 (bs++[b]) k=d8 bs k)/\(k=bs.length->d8 (bs++[b]) k=b):=by
 unfold d8;constructor
 .intro h;rw[aAb,aAb,aAM om]
 .intro h;rw[aAb,aAW om,show k.toNat-bs.length=0 by omega];rfl
theorem SW{bs:List Int}{b:Int}{k:Int}(hk:0<=k):(k<bs.length->f7 (bs++[b]) k=f7 bs k)/\(k=bs.length->f7 (bs++[b]) k=b):=by
 unfold f7;constructor
 .intro h;rw[aAb,aAb,aAM om]
 .intro h;rw[aAb,aAW om,show k.toNat-bs.length=0 by omega];rfl
theorem Lk(ns:List Nd)(hg:∀(j:Nat) (x:Nd),ns[j]? = some x->mV j x):∀(k:Int),0<=k->k<ns.length->∀v∈(d8 (aO ns) k).vals,(bF v:Int)<=f7 (dH ns) k:=by
 refine i0 (P:=λns=>(∀(j:Nat) (x:Nd),ns[j]? = some x->mV j x)->∀(k:Int),0<=k->k<ns.length->∀v∈(d8 (aO ns) k).vals,(bF v:Int)<=f7 (dH ns) k) (λ_ k h1 h2=>by simp at h2;omega) (λl x ih hg k hk0 hk v hv=>?_) ns hg;have hgl:∀(j:Nat) (y:Nd),l[j]? = some y->mV j y:=λj y hy=>hg j y (by
  have:=(aAg.1 hy).1;rw[aAM this];exact hy)
 have ih:=ih hgl;have hx:=hg l.length x sq;rw[kL] at hv;rw[oW];have e1:=Jk (bs:=aO l) (b:=dX x (aO l)) hk0;have e2:=SW (bs:=dH l) (b:=nK (dH l) x) hk0;rw[gN] at e1;rw[oA] at e2;rcases(show k<l.length\/k=l.length by simp at hk;omega) with h|h
 .rw[e1.1 h] at hv;rw[e2.1 h];exact ih k hk0 h v hv
 .rw[e1.2 h] at hv;rw[e2.2 h];refine LD hx.kind (λq hq u hu=>?_) v hv;obtain⟨j,hj⟩:=aAU hq;obtain⟨q0,q1⟩:=hx.kids j q hj;exact ih q q0 q1 u hu
theorem I9(ns:List Nd)(ho:∀x∈ns,x9 x)(h:dB [] ns=0)(k:Int)(h0:0<=k)(h1:k<ns.length):∀v∈(d8 (aO ns) k).vals,bF v<=1024:=by
 intro v hv;have a:=Lk ns (o6 ns ho h) k h0 h1 v hv;have b:=(oV (M:=1024) om (rP ns h).2 k).2;omega
theorem mF.ok{ns:List Nd}(h:mF ns):∀x∈ns,x9 x:=λx hx=>(h.gen x hx).ok
theorem mF.good{ns:List Nd}(h:mF ns):∀(j:Nat) (x:Nd),ns[j]? = some x->mV j x:=o6 ns h.ok h.valid
theorem mF.snoc{ns:List Nd}{x:Nd}(h:mF ns)(hl:ns.length<=1000)(hx:Re x)(hv:gL (ns++[x])=0):mF (ns++[x]):=by
 unfold gL at hv;rw[aAe (by simp;omega)] at hv;refine⟨hv,λy hy=>?_⟩;rcases aAt.1 hy with hy|hy
 .exact h.gen y hy
 .simp at hy;rw[hy];exact hx
theorem mF.leaf{ns:List Nd}(h:mF ns){m:Int}(hm:i64 m):mF (ns++[⟨0,[],0,0,[],[],[],[],.mk 0 m [] []⟩]):=by
 refine⟨?_,λy hy=>?_⟩
 .rw[iH [] ns _ h.valid];exact Lg _ _ _ _
 .rcases aAt.1 hy with hy|hy
  .exact h.gen y hy
  .simp at hy;rw[hy];have h0:i64 0:=oq
   exact qI h0 sq h0 h0 sq sq sq sq sq sq sq sq (kP h0 hm) (by simp[bF,cA])
def fW(a b:List aQ):List aQ:=match a,b with
 | [],b=>b
 | a,[]=>a
 | x::l,y::m=>if cJ x y<0 then x::fW l (y::m) else if cJ x y=0 then x::fW l m else y::fW (x::l) m
termination_by a.length+b.length
theorem EN(b:List aQ):fW [] b=b:=by rw[fW]
theorem KK(a:List aQ):fW a []=a:=by
 cases a with
 | nil=>rw[fW]
 | cons x l=>rw[fW];simp
theorem KG(x y:aQ)(l m:List aQ):fW (x::l) (y::m)=if cJ x y<0 then x::fW l (y::m) else if cJ x y=0 then x::fW l m else y::fW (x::l) m:=by rw[fW]
mutual
theorem GH:∀(a b:aQ),cJ a b=0->a=b
 | .mk k n s ks,.mk k' n' s' ks',h=>by
  simp only[cJ,andThen] at h;split at h
  .rename_i h1;split at h
   .rename_i h2;split at h
    .rename_i h3;have e1:k=k':=Decidable.byContradiction λe=>yL e h1
     have e2:n=n':=Decidable.byContradiction λe=>yL e h2
     rw[e1,e2,qY h3,P1 ks ks' h]
    .rename_i h3;exact absurd h h3
   .rename_i h2;exact absurd h h2
  .rename_i h1;exact absurd h h1
theorem P1:∀(l m:List aQ),g5 l m=0->l=m
 | [],[],_=>rfl
 | [],_::_,h=>by simp[g5] at h
 | _::_,[],h=>by simp[g5] at h
 | a::l,b::m,h=>by
  simp only[g5,andThen] at h;split at h
  .rename_i h1;rw[GH a b h1,P1 l m h]
  .rename_i h1;exact absurd h h1
end
theorem FU(a:aQ):¬cJ a a<0:=by rw[(oU a).refl];omega
theorem IT:∀{a b:List aQ},pZ a->pZ b->(∀x,x∈a↔x∈b)->a=b
 | [],[],_,_,_=>rfl
 | [],y::m,_,_,h=>by have:=(h y).2 sq;simp at this
 | x::l,[],_,_,h=>by have:=(h x).1 sq;simp at this
 | x::l,y::m,h1,h2,h=>by
  unfold pZ at h1 h2;rw[aA1] at h1 h2;have e:x=y:=by
   rcases aAj.1 ((h x).1 sq) with e|e
   .exact e
   .rcases aAj.1 ((h y).2 sq) with e'|e'
    .exact e'.symm
    .have a1:=h2.1 x e;have a2:=h1.1 y e';have:=Kr a1 (by omega:cJ x y<=0);exact absurd this (FU y)
  subst e;congr 1;refine IT h1.2 h2.2 λz=>?_
  constructor
  .intro hz;rcases aAj.1 ((h z).1 (by simp[hz])) with e|e
   .subst e;exact absurd (h1.1 z hz) (FU z)
   .exact e
  .intro hz;rcases aAj.1 ((h z).2 (by simp[hz])) with e|e
   .subst e;exact absurd (h2.1 z hz) (FU z)
   .exact e
theorem KZ:∀(l:List aQ) (v x:aQ),x∈zM l v↔x=v\/x∈l
 | [],v,x=>by simp[zM,kY]
 | a::r,v,x=>by
  rw[Gy];split
  .split
   .rename_i h;have e:=GH a v (su h);subst e;constructor
    .intro h;exact .inr h
    .rintro(rfl|h)
     .simp
     .exact h
   .simp
  .simp only[aAj,KZ r v x];constructor
   .rintro(h|h|h)
    .exact .inr (.inl h)
    .exact .inl h
    .exact .inr (.inr h)
   .rintro(h|h|h)
    .exact .inr (.inl h)
    .exact .inl h
    .exact .inr (.inr h)
theorem CL(l:List aQ)(x:aQ):x∈fT l↔x∈l:=by
 refine i0 (P:=λl=>x∈fT l↔x∈l) (by simp[fT]) (λl a ih=>?_) l;rw[r9,KZ,ih];simp only[aAt,aBa];constructor
 .rintro(h|h)
  .exact .inr h
  .exact .inl h
 .rintro(h|h)
  .exact .inr h
  .exact .inl h
theorem IJ(h:pZ l):fT l=l:=IT (yV l) h (CL l)
theorem q9(a b:List aQ)(x:aQ):x∈fW a b↔x∈a\/x∈b:=by
 fun_induction fW a b with
 | case1 b=>simp
 | case2 a h=>simp
 | case3 y l z m h ih=>simp only[aAj,ih];simp only[or_assoc]
 | case4 y l z m h1 h2 ih=>
  have:=GH y z h2;subst this;simp only[aAj,ih];constructor
  .rintro(h|h|h)
   .exact .inl (.inl h)
   .exact .inl (.inr h)
   .exact .inr (.inr h)
  .rintro((h|h)|(h|h))
   .exact .inl h
   .exact .inr (.inl h)
   .exact .inl h
   .exact .inr (.inr h)
 | case5 y l z m h1 h2 ih=>
  simp only[aAj,ih];constructor
  .rintro(h|(h|h)|h)
   .exact .inr (.inl h)
   .exact .inl (.inl h)
   .exact .inl (.inr h)
   .exact .inr (.inr h)
  .rintro((h|h)|(h|h))
   .exact .inr (.inl (.inl h))
   .exact .inr (.inl (.inr h))
   .exact .inl h
   .exact .inr (.inr h)
theorem Eo(a b:List aQ):pZ a->pZ b->pZ (fW a b):=by
 fun_induction fW a b with
 | case1 b=>intro _ h;exact h
 | case2 a h=>intro h _;exact h
 | case3 y l z m h ih=>
  intro h1 h2;unfold pZ at h1 h2 |-;have h1':=aA1.1 h1;have h2':=aA1.1 h2;refine aA1.2 ⟨λx hx=>?_,ih h1'.2 h2⟩;rcases(q9 _ _ _).1 hx with hx|hx
  .exact h1'.1 x hx
  .rcases aAj.1 hx with rfl|hx
   .exact h
   .have:=h2'.1 x hx;exact Kr h om
 | case4 y l z m hn he ih=>
  intro h1 h2;unfold pZ at h1 h2 |-;have h1':=aA1.1 h1;have h2':=aA1.1 h2;have:=GH y z he;subst this;refine aA1.2 ⟨λx hx=>?_,ih h1'.2 h2'.2⟩;rcases(q9 _ _ _).1 hx with hx|hx
  .exact h1'.1 x hx
  .exact h2'.1 x hx
 | case5 y l z m hn he ih=>
  intro h1 h2;unfold pZ at h1 h2 |-;have h1':=aA1.1 h1;have h2':=aA1.1 h2;have hzy:=NS (a:=y) (b:=z) om;refine aA1.2 ⟨λx hx=>?_,ih h1 h2'.2⟩;rcases(q9 _ _ _).1 hx with hx|hx
  .rcases aAj.1 hx with rfl|hx
   .exact hzy
   .have:=h1'.1 x hx;exact Kr hzy om
  .exact h2'.1 x hx
theorem Kb{a b:List aQ}(h1:pZ a)(h2:pZ b):fW a b=fT (a++b):=
 IT (Eo a b h1 h2) (yV _) λx=>by rw[q9,CL,aAt]
theorem E7:∀(r l:List Nd),∃m,aO (l++r)=aO l++m
 | [],l=>⟨[],sq⟩
 | x::r,l=>by
  obtain⟨m,hm⟩:=E7 r (l++[x]);refine⟨dX x (aO l)::m, ?_⟩;have e:l++x::r=l++[x]++r:=sq
  rw[e,hm,kL];simp
theorem TT{a b:List jM}{k:Int}(h0:0<=k)(h:k<a.length):d8 (a++b) k=d8 a k:=by
 unfold d8;rw[aAb,aAb,aAM om]
theorem mD{ns:List Nd}{k:Int}(h0:0<=k)(h:k<n)(hn:n<=ns.length):d8 (aO (ns.take n)) k=d8 (aO ns) k:=by
 obtain⟨m,hm⟩:=E7 (ns.drop n) (ns.take n);rw[List.take_append_drop] at hm;rw[hm,TT h0 (by rw[gN,aAR];omega)]
theorem Ea{b1 b2:List jM}{l:List Int}(h:∀k∈l,d8 b1 k=d8 b2 k):pO b1 l=pO b2 l:=by
 have:∀(l:List Int) (a:List aQ × Bool),(∀k∈l,d8 b1 k=d8 b2 k)->l.foldl (cV b1) a=l.foldl (cV b2) a:=by
  intro l
  induction l with
  | nil=>intro a _;rfl
  | cons k r ih=>
   intro a h;simp only[aAy];have e:cV b1 a k=cV b2 a k:=by unfold cV;rw[h k sq]
   rw[e];exact ih _ λq hq=>h q (by simp[hq])
 unfold pO;rw[this l _ h]
theorem DQ{b1 b2:List jM}:∀(l:List Int) (rows:List (List aQ)),(∀k∈l,d8 b1 k=d8 b2 k)->gH b1 l rows=gH b2 l rows
 | [],rows,_=>rfl
 | k::r,rows,h=>by
  simp only[gH,h k sq];split
  .rfl
  .exact DQ r _ λq hq=>h q (by simp[hq])
theorem DE{b1 b2:List jM}{x:Nd}(h:∀k∈x.kids,d8 b1 k=d8 b2 k):dX x b1=dX x b2:=by
 unfold dX;split
 .rfl
 .split
  .rfl
  .split
   .unfold tF;rw[DQ x.kids _ h]
   .split
    .exact Ea λk hk=>h k (aAX hk)
    .exact Ea h
theorem ET{ns:List Nd}(hg:∀(j:Nat) (x:Nd),ns[j]? = some x->mV j x){x:Nd}(hx:ns[i]? = some x):d8 (aO ns) i=dX x (aO ns):=by
 obtain⟨hi,he⟩:=aAg.1 hx;have e1:d8 (aO (ns.take (i+1))) i=d8 (aO ns) i:=mD om om om;rw[<-e1,aAl hi,kL,he];rw[(Jk (b:=dX x (aO (ns.take i))) (show (0:Int)<=i by omega)).2 (by rw[gN,aAR];omega)];refine DE λk hk=>?_
 obtain⟨j,hj⟩:=aAU hk;obtain⟨h0,h1⟩:=(hg i x hx).kids j k hj;exact mD h0 h1 om
theorem Ci:∀{a b:List aQ} {x y:aQ},a.length=b.length->g5 (a++[x]) (b++[y])=andThen (g5 a b) (cJ x y)
 | [],[],x,y,_=>by
  simp only[aAZ,g5,andThen];split
  .rename_i h;rw[h];rfl
  .rfl
 | [],_::_,_,_,h=>by simp at h
 | _::_,[],_,_,h=>by simp at h
 | a::l,b::m,x,y,h=>by
  simp only[aBc,g5];rw[Ci (su h)];unfold andThen;repeat' split
  all_goals first|rfl|omega
def SY(n:Nat)(rows:List (List aQ)):Prop:=(∀r∈rows,r.length=n)/\rows.Pairwise λa b=>g5 a b<0
theorem PO(h:SY n rows)(hl:pZ l):SY (n+1) (gF rows l):=by
 obtain⟨h1,h2⟩:=h;refine⟨λr hr=>?_, ?_⟩
 .obtain⟨r',h3,v,_,rfl⟩:=qV hr;simp[h1 r' h3]
 .unfold gF
  induction rows with
  | nil=>simp
  | cons a rs ih=>
   rw[aA1] at h2;rw[aBs,List.pairwise_append];refine⟨?_,ih (λr hr=>h1 r (by simp[hr])) h2.2, ?_⟩
   .rw[aDa];refine hl.imp fun {x y} hxy=>?_
    rw[Ci rfl,(CP a).refl];simpa[andThen] using hxy
   .intro p hp q hq;obtain⟨v,_,rfl⟩:=aAE.1 hp;obtain⟨r',h3,u,_,rfl⟩:=qV (rows:=rs) (l:=l) hq;have:=h2.1 r' h3;rw[Ci (by rw[h1 a sq,h1 r' (by simp[h3])])];unfold andThen;split
    .omega
    .exact this
theorem Gk{bs:List jM}(hb:∀b∈bs,pZ b.vals):∀(kids:List Int) (n:Nat) (rows out:List (List aQ)),SY n rows->gH bs kids rows=some out->SY (n+kids.length) out
 | [],n,rows,out,h,h2=>by
  simp only[gH] at h2;cases h2;exact h
 | k::ks,n,rows,out,h,h2=>by
  simp only[gH] at h2;split at h2
  .cases h2
  .have hs:pZ (d8 bs k).vals:=by
    unfold d8;rw[aAb];cases e:bs[k.toNat]? with
    | none=>simp[pZ]
    | some b=>exact hb b (aAm e)
   have:=Gk hb ks (n+1) _ out (PO h hs) h2;simp only[aAH];rw[show n+(ks.length+1)=n+1+ks.length by omega];exact this
theorem Rz(name:List UInt8)(a b:List aQ):cJ (eB name a) (eB name b)=g5 a b:=by
 unfold eB;split<;>simp[cJ,(mY _).refl,(tV _).refl,andThen]
theorem SU(name:List UInt8)(h:SY n rows):pZ (rows.map (eB name)):=by
 unfold pZ;rw[aDa];exact h.2.imp fun {a b} h=>by rw[Rz];exact h
theorem O1(lo hi:Int):pZ (g7 lo hi):=by
 unfold pZ g7;rw[aDa];refine List.pairwise_lt_range.imp fun {i j} h=>?_
 rw[Q9 rfl om];rw[aAh om];omega
theorem Pe{x:Nd}{bs:List jM}:pZ (dX x bs).vals:=by
 unfold dX;split
 .simp[pZ]
 .split
  .split
   .simp[pZ]
   .exact O1 _ _
  .split
   .unfold tF;split
    .simp[pZ]
    .exact yV _
   .generalize (if x.kind=4 then x.kids.drop 1 else x.kids)=ks;unfold pO;split
    .simp[pZ]
    .have:∀(l:List Int) (a:List aQ × Bool),pZ a.1->pZ (l.foldl (cV bs) a).1:=by
      intro l
      induction l with
      | nil=>intro a h;exact h
      | cons k r ih=>intro a _;exact ih _ (yV _)
     exact this _ _ (by simp[pZ])
theorem EX(ns:List Nd):∀b∈aO ns,pZ b.vals:=by
 refine i0 (P:=λns=>∀b∈aO ns,pZ b.vals) (by simp[aO]) (λl x ih=>?_) ns;rw[kL];intro b hb;rcases aAt.1 hb with hb|hb
 .exact ih b hb
 .simp at hb;rw[hb];exact Pe
theorem Tc{bs:List jM}(hb:∀b∈bs,pZ b.vals)(k:Int):pZ (d8 bs k).vals:=by
 unfold d8;rw[aAb];cases h:bs[k.toNat]? with
 | none=>simp[pZ]
 | some b=>exact hb b (aAm h)
theorem N7{bs:List jM}(hb:∀b∈bs,pZ b.vals){x:Nd}(h:gH bs x.kids [[]]=some rows):tF bs x=⟨rows.map (eB x.name),false⟩:=by
 unfold tF;rw[h];simp only;rw[IJ (SU _ (Gk hb x.kids 0 [[]] rows ⟨sq,sq⟩ h))]
def rowAt:List (List aQ)->Nat->List aQ
 | [],_=>[]
 | l::r,k=>rowAt r (k/l.length)++(l[k%l.length]?).toList
def tP:List (List aQ)->List (List aQ)
 | []=>[[]]
 | l::r=>gF (tP r) l
def lN:List (List aQ)->Nat
 | []=>1
 | l::r=>lN r*l.length
theorem Ct:∀ls:List (List aQ),(tP ls).length=lN ls
 | []=>rfl
 | l::r=>by rw[tP,uG,lN,Ct r]
theorem Gd(l:List aQ):∀(rows:List (List aQ)) (k:Nat) (a:List aQ) (v:aQ),rows[k/l.length]? = some a->l[k%l.length]? = some v->(gF rows l)[k]? = some (a++[v])
 | [],k,a,v,h,_=>by simp at h
 | r::rs,k,a,v,h,hv=>by
  have hpos:0<l.length:=by
   rcases aAz l.length with h0|h0
   .have:l=[]:=aBh.1 h0;subst this;simp at hv
   .exact h0
  unfold gF;rw[aBs];rcases aAr k l.length with hk|hk
  .rw[aAM (su hk)];rw[aCj hk] at h;rw[aBb hk] at hv;simp at h;subst h;simp[hv]
  .rw[aAW (su hk),aBO];have e1:k/l.length=(k-l.length)/l.length+1:=by
    conv=>lhs;rw[show k=(k-l.length)+l.length by omega]
    exact Nat.add_div_right _ hpos
   have e2:k%l.length=(k-l.length)%l.length:=(Nat.mod_eq_sub_mod hk)
   rw[e1] at h;rw[e2] at hv;exact Gd l rs (k-l.length) a v (su h) hv
theorem HB:∀(ls:List (List aQ)) (k:Nat),k<lN ls->(tP ls)[k]? = some (rowAt ls k)
 | [],k,h=>by
  simp[lN] at h;subst h;rfl
 | l::r,k,h=>by
  simp only[lN] at h;have hpos:0<l.length:=by
   rcases aAz l.length with h0|h0
   .rw[h0] at h;simp at h
   .exact h0
  have h1:k/l.length<lN r:=Nat.div_lt_of_lt_mul (by rw[aBg];exact h);have h2:=aBt k hpos;have e:=aAa h2;rw[tP,rowAt,e];exact Gd l _ k _ _ (HB r _ h1) e
theorem G2{bs:List jM}:∀(kids:List Int) (ls:List (List aQ)),lN ls<=1024 ->
  gH bs kids (tP ls)=if (kids.foldl (λ(a:Nat × Bool) k=>(a.1*(d8 bs k).vals.length,a.2 || (d8 bs k).many || decide (1024<a.1*(d8 bs k).vals.length))) (lN ls,false)).2 then none
   else some (tP (kids.reverse.map (λk=>(d8 bs k).vals)++ls))
 | [],ls,h=>by simp[gH]
 | k::r,ls,h=>by
  have stay:∀(l:List Int) (n:Nat),(l.foldl (λ(a:Nat × Bool) k=>(a.1*(d8 bs k).vals.length,a.2 || (d8 bs k).many || decide (1024<a.1*(d8 bs k).vals.length))) (n,true)).2=true:=by
   intro l
   induction l with
   | nil=>intro n;rfl
   | cons q l ih=>intro n;simp only[aAy,Bool.true_or];exact ih _
  simp only[gH,aAy,Ct,aCw];by_cases hc:(d8 bs k).many=true\/1024<lN ls*(d8 bs k).vals.length
  .have e:((d8 bs k).many || decide (1024<lN ls*(d8 bs k).vals.length))=true:=su hc
   rw[aAh hc,e,aAh (stay _ _)]
  .have e:((d8 bs k).many || decide (1024<lN ls*(d8 bs k).vals.length))=false:=by
    rw[not_or] at hc;simp at hc |-;exact hc
   rw[aAe hc,e];rw[not_or] at hc;have:=G2 (bs:=bs) r ((d8 bs k).vals::ls) (by simp only[lN];omega);simp only[tP,lN] at this;rw[this];simp[List.append_assoc]
theorem OG:Lib.itoa 0=[48]:=by rw[Lib.itoa,aAe om];simp[Lib.decDigits_one]
def vJ(k:Nat):List UInt8:=if k=0 then [] else Lib.decDigits k
theorem IS(h:k≠0):vJ k=vJ (k/10)++[UInt8.ofNat (48+k%10)]:=by
 unfold vJ;rw[aAe h];by_cases h10:k<10
 .rw[aAh om,Lib.decDigits_one h10,aBb h10];rfl
 .rw[aAe om,Lib.decDigits,dif_neg h10]
theorem u6:∀{l:List aQ},c9 l=true->∀{v:aQ},v∈l->bT v=true
 | a::r,h,v,hv=>by
  simp only[c9,aAd] at h;rcases aAj.1 hv with rfl|hv
  .exact h.1
  .exact u6 h.2 hv
theorem FL:∀{l:List aQ},(∀v∈l,bT v=true)->c9 l=true
 | [],_=>rfl
 | a::r,h=>by simp only[c9,aAd];exact⟨h a (aAv ..),FL λv hv=>h v (aAo _ hv)⟩
theorem OJ(h:tO l)(k:Nat):tO (l.take k):=sV λv hv=>jO h v (aAI hv)
theorem GZ(h:c9 l=true)(k:Nat):c9 (l.take k)=true:=FL λv hv=>u6 h (aAI hv)
def Yv(p s:List UInt8):Option (List UInt8):=if p.isPrefixOf s then some (s.drop p.length) else none
structure X9(x:Nd):Prop where
 ok:x9 x
 rng:x.lo<=x.hi/\-4611686018427387904<=x.lo/\x.hi<=4611686018427387904/\x.hi<x.lo+1099511627776
 klen:x.kids.length<=2000
 kl2:x.kind=2->x.kids.length<=1000
 ch:x.kind=2->1<=x.kids.length/\(x.labels.length=0\/x.labels.length=x.kids.length)
theorem uP(ns:List Nd)(h:dB [] ns=0):∀(j:Nat) (x:Nd),ns[j]? = some x->gY j x=0:=by
 refine i0 (P:=λns=>dB [] ns=0->∀(j:Nat) (x:Nd),ns[j]? = some x->gY j x=0) (λ_ j x hx=>by simp at hx) (λl x ih h=>?_) ns h;have h1:=kG h;have ih:=ih h1;have hs:=iH [] l x h1;rw[h] at hs;simp only[aAZ] at hs;obtain⟨hg,-,-,-⟩:=gD hs.symm;intro j y hy;rcases aAr j l.length with hj|hj
 .rw[aAM hj] at hy;exact ih j y hy
 .rw[aAW hj] at hy;have e:j-l.length=0:=by
   have:=(aAg.1 hy).1;simp at this;omega
  rw[e] at hy;simp at hy;subst hy;rw[show j=l.length by omega];exact hg
structure Z2(LB:List (List UInt8))(x:Nd):Prop where
 opt:X9 x
 lab:∀s∈x.labels,s∈LB
 ll:x.labels.length<=1000
theorem Ev{bs:List jM}:∀(l:List Int) (a:List aQ × Bool),a.2=true->(l.foldl (cV bs) a).2=true
 | [],_,h=>h
 | k::r,a,h=>Ev r _ (by simp[cV,h])
theorem BN(h:l≠[]):fT l≠[]:=by
 cases l with
 | nil=>exact absurd rfl h
 | cons a r=>exact List.ne_nil_of_mem ((CL (a::r) a).2 sq)
theorem KO{bs:List jM}:∀(l:List Int) (a:List aQ × Bool),a.1≠[]->(l.foldl (cV bs) a).1≠[]
 | [],_,h=>h
 | k::r,a,h=>KO r _ (BN (by simp[h]))
theorem Ww{bs:List jM}{l:List Int}(hl:l≠[])(h:∀k∈l,(d8 bs k).many=false->(d8 bs k).vals≠[])(hm:(pO bs l).many=false):(pO bs l).vals≠[]:=by
 unfold pO at hm |-;split at hm
 .simp at hm
 .rename_i hf;rw[aAe hf];simp only;cases l with
  | nil=>exact absurd rfl hl
  | cons k r=>
   simp only[aAy] at hf |-;have hk:(cV bs ([],false) k).2=false:=by
    cases e:(cV bs ([],false) k).2 with
    | false=>rfl
    | true=>exact absurd (Ev r _ e) hf
   refine KO r _ (BN ?_);simp only[cV,aCw,aB0] at hk;simp only[aAZ];exact h k sq hk.1
theorem MW{bs:List jM}:∀(kids:List Int) (rows out:List (List aQ)),rows≠[]->(∀k∈kids,(d8 bs k).many=false->(d8 bs k).vals≠[])->gH bs kids rows=some out->out≠[]
 | [],rows,out,h,_,h2=>by
  simp only[gH] at h2;cases h2;exact h
 | k::ks,rows,out,h,hk,h2=>by
  simp only[gH] at h2;split at h2
  .cases h2
  .rename_i hc;rw[not_or] at hc;refine MW ks _ out ?_ (λq hq=>hk q (by simp[hq])) h2;have hv:=hk k sq (by simpa using hc.1);have:=uG (d8 bs k).vals rows;intro e;rw[e] at this;have a:=aA5.2 h;have b:=aA5.2 hv;have:=aCd a b;simp at *;omega
theorem mK(ns:List Nd)(h:dB [] ns=0):∀(j:Nat) (x:Nd),ns[j]? = some x->jD (ns.take j) (cY (ns.take j)) (dH (ns.take j)) x=0:=by
 intro j x hx;obtain⟨hj,he⟩:=aAg.1 hx;have e:ns=ns.take j++x::ns.drop (j+1):=by
  rw[<-he];simp
 have h1:dB [] (ns.take j)=0:=by
  rw[e] at h;exact kG h
 have h2:dB [] (ns.take j++[x])=0:=by
  have e2:ns=(ns.take j++[x])++ns.drop (j+1):=su e
  rw[e2] at h;exact kG h
 rw[iH [] _ x h1] at h2;simpa using h2
theorem qG{i:Int}{x:Nd}(h:dT i x=true):(x.kind=2->1<=x.kids.length)/\(x.kind=4->x.kids.length=x.values.length+1):=by
 unfold dT at h;simp only[aAd,aBm,aAC] at h;obtain⟨⟨⟨⟨_,h2⟩,_⟩,h4⟩,_⟩:=h;exact⟨λe=>by rcases h2 with h2|h2<;>omega,λe=>om⟩
theorem kS{i:Int}{x:Nd}(h:gY i x=0):dT i x=true:=by
 unfold gY at h;split at h
 .omega
 .rename_i hf;simpa using hf
theorem K2(ns:List Nd)(ho:∀x∈ns,x9 x)(h:dB [] ns=0):∀(n:Nat) (k:Nat),k<=n->k<ns.length->(d8 (aO ns) k).many=false->(d8 (aO ns) k).vals≠[]:=by
 have hg:=o6 ns ho h;intro n
 induction n with
 | zero=>
  intro k hk hlt hm;have hx:=aAa hlt;have hG:=hg k _ hx;have hst:=mK ns h k _ hx;obtain⟨h1,_,_,h4⟩:=gD hst;have hlen:(ns.take k).length=k:=by simp;omega
  rw[hlen] at h1;have hfp:=qG (kS h1);have hk0:(ns[k]).kids=[]:=by
   cases e:(ns[k]).kids with
   | nil=>rfl
   | cons q r=>have:=hG.kids 0 q (by rw[e];rfl);omega
  rw[ET hg hx] at hm |-;have hnum:=dG hG.num;rw[hk0] at hfp;simp at hfp;unfold dX at hm |-;split
  .simp
  .split
   .split
    .rename_i e;rw[aAe (by assumption),aAh (by assumption),aAh e] at hm;simp at hm
    .simp only[g7];intro e;have:=congrArg List.length e;simp at this;omega
   .split
    .unfold tF;rw[hk0];simp[gH,BN]
    .have:=hG.kind;omega
 | succ n ih=>
  intro k hk hlt hm;have hx:=aAa hlt;have hG:=hg k _ hx;have hst:=mK ns h k _ hx;obtain⟨h1,_,_,h4⟩:=gD hst;have hlen:(ns.take k).length=k:=by simp;omega
  rw[hlen] at h1;have hfp:=qG (kS h1);rw[ET hg hx] at hm |-;have hnum:=dG hG.num;have hkid:∀q∈(ns[k]).kids,(d8 (aO ns) q).many=false->(d8 (aO ns) q).vals≠[]:=λq hq=>by
   obtain⟨j,hj⟩:=aAU hq;obtain⟨q0,q1⟩:=hG.kids j q hj;obtain⟨q,rfl⟩:=aAu q0;exact ih q om om
  unfold dX at hm |-;split
  .simp
  .split
   .split
    .rename_i e;rw[aAe (by assumption),aAh (by assumption),aAh e] at hm;simp at hm
    .simp only[g7];intro e;have:=congrArg List.length e;simp at this;omega
   .split
    .rename_i e0 e1 e3;rw[aAe e0,aAe e1,aAh e3] at hm;unfold tF at hm |-;split
     .rename_i e;rw[e] at hm;simp at hm
     .rename_i rows e;have:=MW _ _ _ sq hkid e;exact BN (su this)
    .rename_i e0 e1 e3;rw[aAe e0,aAe e1,aAe e3] at hm;refine Ww ?_ (λq hq=>hkid q ?_) hm
     .split
      .rename_i e4;have hb:=h4 e4;have hkl:=hfp.2 e4;unfold jY at hb;simp only at hb;split at hb
       .omega
       .rename_i hmany;split at hb
        .rename_i hs;have hsl:=pT hs;have hq:=hG.kids 0 ((ns[k]).kids.getD 0 0) (by
          rw[aAb];have:0<(ns[k]).kids.length:=om;rw[aAa this];rfl)
         obtain⟨q,hqe⟩:=aAu hq.1;rw[hqe] at hsl hmany hq;simp only[aAc] at hsl hmany;rw[aCk,show min (q+1) k=q+1 by omega,mD om om om] at hsl hmany;have:=ih q om om (su hmany);have:=aA5.2 this;intro e;have:=congrArg List.length e;simp at this;omega
        .omega
      .have:=hG.kind;have:=hfp.1 om;exact List.ne_nil_of_length_pos om
     .split at hq
      .exact aAX hq
      .exact hq
def BL(ss:List Int)(x:Nd):Int:=
 if x.kind=0 then bF x.value else if x.kind=1 then 1 else if x.kind=3 then 1+i9 ss x.kids else max 1 (dM ss (i8 x))
theorem NG{x:Nd}:BL ss x<=1024↔nK ss x<=1024:=by
 unfold BL nK;split
 .rfl
 .split
  .rfl
  .split
   .rfl
   .omega
theorem IA{ns:List Nd}(ho:∀x∈ns,x9 x)(h:dB [] ns=0){x:Nd}(hk:x.kind=2\/x.kind=4)(hs:jD ns (cY ns) (dH ns) x=0):∃q∈i8 x,0<=q/\q<ns.length:=by
 obtain⟨h1,_,_,h4⟩:=gD hs;have hfp:=qG (kS h1);have hn:=pB h1;have mem:∀q∈x.kids,0<=q/\q<ns.length:=λq hq=>by
  obtain⟨j,hj⟩:=aAU hq;exact hn.kids j q hj
 rcases hk with e|e
 .unfold i8;rw[aAh e];cases hc:x.kids with
  | nil=>have:=hfp.1 e;rw[hc] at this;simp at this
  | cons q r=>exact⟨q,sq,mem q (by rw[hc];simp)⟩
 .unfold i8;rw[aAe om];have hb:=h4 e;have hkl:=hfp.2 e;have:1<=x.values.length:=by
   unfold jY at hb;simp only at hb;split at hb
   .omega
   .rename_i hmany;split at hb
    .rename_i hs;have hsl:=pT hs;have hlt:0<x.kids.length:=om;have hq:=mem (x.kids.getD 0 0) (by rw[aAb,aAa hlt];exact aAq hlt);obtain⟨q,hqe⟩:=aAu hq.1;rw[hqe] at hsl hmany hq;simp only[aAc] at hsl hmany;rw[mD om om om] at hsl hmany;have:=K2 ns ho h q q om om (su hmany);have:=aA5.2 this;omega
    .omega
  have hlt:1<x.kids.length:=om;refine⟨x.kids[1], ?_,mem _ (aAq hlt)⟩;refine aAm (i:=0) ?_;rw[aAV];exact aAa hlt
theorem Ja(ns:List Nd)(ho:∀x∈ns,x9 x)(h:dB [] ns=0):∀y∈dH ns,1<=y:=by
 refine i0 (P:=λns=>(∀x∈ns,x9 x)->dB [] ns=0->∀y∈dH ns,1<=y) (λ_ _=>by simp[dH]) (λl x ih ho h=>?_) ns ho h;have h1:=kG h;have hol:∀y∈l,x9 y:=λy hy=>ho y (aAQ _ hy)
 have ih:=ih hol h1;have hs:=iH [] l x h1;rw[h] at hs;simp only[aAZ] at hs;rw[oW];intro y hy;rcases aAt.1 hy with hy|hy
 .exact ih y hy
 .simp at hy;subst hy;have hb:=rP l h1;have hk:=(pB (gD hs.symm).1).kind;unfold nK;split
  .have:=HV x.value;omega
  .split
   .omega
   .split
    .have:=(kH om hb.2 x.kids).1;omega
    .obtain⟨q,hq,q0,q1⟩:=IA hol h1 om hs.symm;have:=(BU (ss:=dH l) (i8 x) 0 q hq).1;have h2:1<=f7 (dH l) q:=by
      unfold f7;have hlt:q.toNat<(dH l).length:=by rw[oA];omega
      rw[aAb,aAa hlt];exact ih _ (aAq hlt)
     unfold dM;omega
theorem Ua{ns:List Nd}(ho:∀x∈ns,x9 x)(h:dB [] ns=0){x:Nd}(hs:jD ns (cY ns) (dH ns) x=0):BL (dH ns) x=nK (dH ns) x:=by
 have hk:=(pB (gD hs).1).kind;unfold BL nK;split
 .rfl
 .split
  .rfl
  .split
   .rfl
   .obtain⟨q,hq,q0,q1⟩:=IA ho h om hs;have:=(BU (ss:=dH ns) (i8 x) 0 q hq).1;have h2:1<=f7 (dH ns) q:=by
     unfold f7;have hlt:q.toNat<(dH ns).length:=by rw[oA];omega
     rw[aAb,aAa hlt];exact Ja ns ho h _ (aAq hlt)
    unfold dM at *;omega
theorem Nu{a b:List Int}{k:Int}(h0:0<=k)(h:k<a.length):f7 (a++b) k=f7 a k:=by
 unfold f7;rw[aAb,aAb,aAM om]
theorem F4{a b:List Int}{l:List Int}(h:∀k∈l,f7 a k=f7 b k):i9 a l=i9 b l:=by
 unfold i9;have:∀(l:List Int) (s:Int),(∀k∈l,f7 a k=f7 b k)->l.foldl (λs k=>s+f7 a k) s=l.foldl (λs k=>s+f7 b k) s:=by
  intro l
  induction l with
  | nil=>intro s _;rfl
  | cons k r ih=>intro s h;simp only[aAy];rw[h k sq];exact ih _ λq hq=>h q (by simp[hq])
 exact this l 0 h
theorem xV{a b:List Int}{l:List Int}(h:∀k∈l,f7 a k=f7 b k):dM a l=dM b l:=by
 unfold dM;have:∀(l:List Int) (s:Int),(∀k∈l,f7 a k=f7 b k)->l.foldl (λs k=>max s (f7 a k)) s=l.foldl (λs k=>max s (f7 b k)) s:=by
  intro l
  induction l with
  | nil=>intro s _;rfl
  | cons k r ih=>intro s h;simp only[aAy];rw[h k sq];exact ih _ λq hq=>h q (by simp[hq])
 exact this l 0 h
theorem EP{x:Nd}{q:Int}(h:q∈i8 x):q∈x.kids:=by
 unfold i8 at h;split at h
 .exact h
 .exact aAX h
theorem Ei{a b:List Int}{x:Nd}(h:∀k∈x.kids,f7 a k=f7 b k)(h4:x.kind=4->0<x.kids.length)(hk:0<=x.kind/\x.kind<=4):jQ a x=jQ b x:=by
 unfold jQ;split
 .rfl
 .split
  .rfl
  .split
   .exact F4 h
   .split
    .rw[xV λq hq=>h q (EP hq)]
    .have:0<x.kids.length:=h4 om;rw[xV λq hq=>h q (EP hq),h (x.kids.getD 0 0) (by rw[aAb,aAa this];exact aAq this)]
theorem Lw{a b:List Int}{x:Nd}(h:∀k∈x.kids,f7 a k=f7 b k):BL a x=BL b x:=by
 unfold BL;rw[F4 h,xV λq hq=>h q (EP hq)]
end Go.Ax
namespace Go.Ax
open Go
variable{i j:Nat}{bs:List jM}{l:List aQ}
structure jH(ns:List Nd)(n:Nat):Prop where
 hn:n<=ns.length
 len:ns.length<=4096
 ok:∀x∈ns,x9 x
 val:dB [] (ns.take n)=0
variable {ns:List Nd} {n:Nat}
theorem jH.okT(h:jH ns n):∀x∈ns.take n,x9 x:=λx hx=>h.ok x (aAI hx)
theorem jH.goodT(h:jH ns n):∀(j:Nat) (x:Nd),(ns.take n)[j]? = some x->mV j x:=o6 _ h.okT h.val
theorem Fj{x:Nd}(hi:i<n)(hx:ns[i]? = some x):(ns.take n)[i]? = some x:=by rw[aAL,aAh hi];exact hx
theorem jH.node(h:jH ns n){x:Nd}(hi:i<n)(hx:ns[i]? = some x):mV i x:=h.goodT i x (Fj hi hx)
theorem jH.atE(h:jH ns n){k:Int}(h0:0<=k)(h1:k<n):d8 (aO (ns.take n)) k=d8 (aO ns) k:=mD h0 h1 h.hn
theorem jH.vals(h:jH ns n){k:Int}(h0:0<=k)(h1:k<n):(d8 (aO ns) k).vals.length<=1024/\∀v∈(d8 (aO ns) k).vals,iO v:=by
 rw[<-h.atE h0 h1];exact xA (pM _ h.goodT) k
theorem jH.at(h:jH ns n){x:Nd}(hi:i<n)(hx:ns[i]? = some x):d8 (aO ns) i=dX x (aO ns):=by
 rw[<-h.atE om om,ET h.goodT (Fj hi hx)];refine DE λk hk=>?_
 obtain⟨j,hj⟩:=aAU hk;obtain⟨h0,h1⟩:=(h.node hi hx).kids j k hj;exact h.atE h0 om
theorem Zd(ns:List Nd)(k:Int):pZ (d8 (aO ns) k).vals:=Tc (EX ns) k
theorem jH.ne(h:jH ns n){k:Int}(h0:0<=k)(h1:k<n)(hm:(d8 (aO ns) k).many=false):(d8 (aO ns) k).vals≠[]:=by
 rw[<-h.atE h0 h1] at hm |-;obtain⟨k,rfl⟩:=aAu h0;exact K2 _ h.okT h.val k k (aAp _) (by rw[aAR];have:=h.hn;omega) hm
theorem jH.step(h:jH ns n){x:Nd}(hi:i<n)(hx:ns[i]? = some x):jD (ns.take i) (cY (ns.take i)) (dH (ns.take i)) x=0:=by
 have:=mK _ h.val i x (Fj hi hx)
 rwa [aCk,aBN om] at this
theorem jH.nodeOK(h:jH ns n){x:Nd}(hi:i<n)(hx:ns[i]? = some x):IM i x:=by
 have:=pB (gD (h.step hi hx)).1
 rwa [aAR,aBN (by have:=h.hn;omega)] at this
theorem V3{kids:List Int}{k:Int}{a:List aQ × Bool}(hk:kids[j]? = some k)(h:(kids.take j).foldl (cV bs) ([],false)=a):
  (kids.take (j+1)).foldl (cV bs) ([],false)=cV bs a k:=by
 obtain⟨hj,he⟩:=aAg.1 hk;rw[aAl hj,List.foldl_append,h,he];rfl
theorem NH{kids:List Int}(h:((kids.take j).foldl (cV bs) ([],false)).2=true):pO bs kids=⟨[],true⟩:=by
 have e:(kids.foldl (cV bs) ([],false)).2=true:=by
  conv=>lhs;rw[<-List.take_append_drop j kids,List.foldl_append]
  exact Ev _ _ h
 unfold pO;rw[aAh e]
theorem Qi{kids:List Int}{out:List aQ}(h:kids.foldl (cV bs) ([],false)=(out,false)):pO bs kids=⟨out,false⟩:=by
 unfold pO;rw[h];rfl
def iQ(bs:List jM)(a:Nat × Bool)(k:Int):Nat × Bool:=(a.1*(d8 bs k).vals.length,a.2 || (d8 bs k).many || decide (1024<a.1*(d8 bs k).vals.length))
theorem Kg{bs:List jM}:∀(l:List Int) (a:Nat × Bool),a.2=true->(l.foldl (iQ bs) a).2=true
 | [],_,h=>h
 | k::r,a,h=>Kg r _ (by simp[iQ,h])
theorem Kc(kids:List Int):gH bs kids [[]]=if (kids.foldl (iQ bs) (1,false)).2=true then none else some (tP (kids.map λk=>(d8 bs k).vals).reverse):=by
 have:=G2 (bs:=bs) kids [] (by simp[lN]);simp only[tP,lN,aA3] at this;rw[this,List.map_reverse];rfl
theorem W4{kids:List Int}{k:Int}{a:Nat × Bool}(hk:kids[j]? = some k)(h:(kids.take j).foldl (iQ bs) (1,false)=a):
  (kids.take (j+1)).foldl (iQ bs) (1,false)=iQ bs a k:=by
 obtain⟨hj,he⟩:=aAg.1 hk;rw[aAl hj,List.foldl_append,h,he];rfl
theorem Uv{x:Nd}(h:((x.kids.take j).foldl (iQ bs) (1,false)).2=true):tF bs x=⟨[],true⟩:=by
 have e:(x.kids.foldl (iQ bs) (1,false)).2=true:=by
  conv=>lhs;rw[<-List.take_append_drop j x.kids,List.foldl_append]
  exact Kg _ _ h
 unfold tF;rw[Kc,aAh e]
theorem Rf:∀(kids:List Int) (a:Nat × Bool),(kids.foldl (iQ bs) a).1=a.1*lN (kids.map λk=>(d8 bs k).vals).reverse:=by
 intro kids;refine i0 (P:=λkids=>∀a:Nat × Bool,(kids.foldl (iQ bs) a).1=a.1*lN (kids.map λk=>(d8 bs k).vals).reverse) (λa=>by simp[lN]) (λl x ih a=>?_) kids;rw[List.foldl_append,aBu,List.reverse_append];simp only[aAy,aDh,aAT,List.map_nil,List.reverse_singleton,List.singleton_append,lN];rw[iQ,ih a,Nat.mul_assoc]
theorem P8(hb:∀b∈bs,pZ b.vals){x:Nd}{t:Nat}(h:x.kids.foldl (iQ bs) (1,false)=(t,false)):
  tF bs x=⟨(tP (x.kids.map λk=>(d8 bs k).vals).reverse).map (eB x.name),false⟩/\t=lN (x.kids.map λk=>(d8 bs k).vals).reverse:=by
 have hr:gH bs x.kids [[]]=some (tP (x.kids.map λk=>(d8 bs k).vals).reverse):=by
  rw[Kc,h];rfl
 refine⟨N7 hb hr, ?_⟩;have:=Rf (bs:=bs) x.kids (1,false);rw[h] at this;simpa using this
theorem L0{ls:List (List aQ)}{q kk:Nat}{v:aQ}(hl:ls[q]? = some l)(hv:l[kk%l.length]? = some v):
  rowAt (ls.take (q+1)).reverse kk=rowAt (ls.take q).reverse (kk/l.length)++[v]:=by
 obtain⟨h1,h2⟩:=aAg.1 hl;rw[aAl h1,List.reverse_append,h2];simp only[List.reverse_singleton,List.singleton_append,rowAt,hv];rfl
end Go.Ax
namespace Go.Ax
open Go
variable{A:List Nd}{n i:Nat}
structure Mt where
 old:Nat
 now:Nat
 opts:List Int
 same:List Bool
def aG(l:List Nd)(i:Nat):Nd:=l.getD i ⟨0,[],0,0,[],[],[],[],.mk 0 0 [] []⟩
def yG(y:Nd)(k:Int):Nat:=(y.kids.getD k.toNat 0).toNat
structure E6(A:List Nd):Prop where
 ok:∀x∈A,x9 x
 val:∀x∈A,bF x.value<=1048576
 vals:∀x∈A,∀v∈x.values,bF v<=1048576
 vlen:∀x∈A,x.values.length<=2000
 klen:∀x∈A,x.kids.length<=2000
 llen:∀x∈A,x.labels.length<=1000
 lab:∀x∈A,∀s∈x.labels,s.length<=1000
 len:A.length<=1000
structure Vw(A:List Nd)(i:Nat)(x:Nd):Prop where
 opt:X9 x
 node:IM i x
 srt:pZ x.values
 val:∀v∈x.values,iO v
theorem xU:∀{l:List aQ},fD l=true->pZ l
 | [],_=>by simp[pZ]
 | [a],_=>by simp[pZ]
 | a::b::r,h=>by
  simp only[fD,aAd,aAC] at h;have ih:=xU h.2;unfold pZ at ih |-;refine aA1.2 ⟨λx hx=>?_,ih⟩;rcases aAj.1 hx with rfl|hx
  .exact h.1
  .have:=(aA1.1 ih).1 x hx;exact Kr h.1 om
theorem goodT(h:E6 A)(hv:gL A=0){x:Nd}(hx:A[i]? = some x):Vw A i x:=by
 have hxm:=aAm hx;have hv0:dB [] A=0:=by
  unfold gL at hv;split at hv
  .omega
  .exact hv
 have hn:=uP A hv0 i x hx;have hN:=pB hn;have hf:=kS hn;have hfp:=qG hf;have hk:=h.klen x hxm;refine⟨⟨h.ok x hxm,dG hN.num,om,λe=>by have:=hN.klen om;omega,λe=>?_⟩,hN, ?_,λv hv=>((h.ok x hxm).valuesI v hv).1⟩
 .refine⟨hfp.1 e, ?_⟩;unfold dT at hf;simp only[aAd,aBm,aAC] at hf;rcases hf.1.1.1.2 with h2|h2
  .exact absurd e h2
  .exact h2.2
 .unfold dT at hf;simp only[aAd] at hf;exact xU hf.2
theorem PF(ho:∀x∈A,x9 x)(hv:gL A=0){x:Nd}(hx:A[i]? = some x)(h4:x.kind=4):1<=x.values.length:=by
 have hv0:dB [] A=0:=by
  unfold gL at hv;split at hv
  .omega
  .exact hv
 have hi:=(aAg.1 hx).1;have hpre:dB [] (A.take i)=0:=by
  have:=hv0;rw[<-List.take_append_drop i A] at this;exact kG this
 obtain⟨q,hq,-⟩:=IA (ns:=A.take i) (λy hy=>ho y (aAI hy)) hpre (x:=x) (.inr h4) (mK A hv0 i x hx);have hb:=(pB (uP A hv0 i x hx)).bind h4;unfold i8 at hq;rw[aAe om] at hq;have:=List.length_pos_of_mem hq;simp at this;omega
theorem W1{A:List Nd}{y:Nd}(hy:IM n y){k:Int}(h0:0<=k)(h1:k<y.kids.length):yG y k<n/\∃q:Int,y.kids[k.toNat]? = some q/\q=yG y k:=by
 have hk:k.toNat<y.kids.length:=om;obtain⟨a,b⟩:=hy.kids k.toNat _ (aAa hk);unfold yG;rw[aAb,aAa hk];simp only[aBv];exact⟨om,_,rfl,om⟩
end Go.Ax
namespace Go.Ax
open Go
end Go.Ax
namespace Go.Ax
open Go
variable{i j:Nat}
abbrev Sp:=Nat × Nat × Nat
structure Z6 where
 val:aQ
 used:Nat
 stop:Int
 spans:List Sp
structure Pt where
 used:Nat
 vals:List aQ
 spans:List Sp
 stop:Int
def Um(x:Nd):Int:=if x.kind=1 then x.hi-x.lo+1 else x.kids.length
structure VT(A:List Nd):Prop where
 tin:E6 A
 val:gL A=0
 pos:0<A.length
section
variable {A:List Nd}
theorem VT.v0(h:VT A):dB [] A=0:=by
 have hv:=h.val;unfold gL at hv;split at hv
 .omega
 .exact hv
theorem VT.set(h:VT A):jH A A.length:=⟨aAp _,by have:=h.tin.len;omega,h.tin.ok,by rw[aAD];exact h.v0⟩
theorem VT.node(h:VT A){x:Nd}(hx:A[i]? = some x):Vw A i x:=goodT h.tin h.val hx
theorem b9(hi:i<A.length):A[i]? = some (aG A i):=by
 unfold aG;rw[aAb,aAa hi];rfl
theorem VT.kid(h:VT A){x:Nd}(hx:A[i]? = some x)(hj:j<x.kids.length):yG x j<i/\x.kids[j]? = some (yG x j:Int):=by
 have hi:=(aAg.1 hx).1;obtain⟨h1,q,h2,h3⟩:=W1 (A:=A) (h.node hx).node (k:=(j:Int)) om om;refine⟨h1, ?_⟩;rw[aAc] at h2;rw[h2,h3]
theorem VT.lst(h:VT A){x:Nd}(hx:A[i]? = some x):d8 (aO A) i=dX x (aO A):=h.set.at (aAg.1 hx).1 hx
theorem CS:∀{l m:List aQ},dK l m=true->l=m
 | [],[],_=>rfl
 | a::l,b::m,h=>by
  simp only[dK,aAd,aAC] at h;rw[GH a b h.1,CS h.2]
 | [],b::m,h=>by simp[dK] at h
 | a::l,[],h=>by simp[dK] at h
theorem VT.bind(h:VT A){x:Nd}(hx:A[i]? = some x)(h4:x.kind=4):x.kids.length=x.values.length+1/\1<=x.values.length/\(d8 (aO A) (yG x 0)).many=false/\(d8 (aO A) (yG x 0)).vals=x.values:=by
 have hi:=(aAg.1 hx).1;have hb:=(h.node hx).node.bind h4;have h1:=PF h.tin.ok h.val hx h4;refine⟨hb,h1, ?_⟩;obtain⟨k1,k2⟩:yG x 0<i/\x.kids[0]? = some (yG x 0:Int):=h.kid hx (j:=0) om;have hs:=(gD (mK A h.v0 i x hx)).2.2.2 h4;have e0:x.kids.getD 0 0=(yG x 0:Int):=by rw[aAb,k2];rfl
 unfold jY at hs;rw[e0,aAc,aCk,aBN om,mD om om om] at hs;simp only at hs;split at hs
 .omega
 .rename_i hm;split at hs
  .rename_i hsv;exact⟨su hm,CS hsv⟩
  .omega
end
theorem Kq{n:List UInt8}{vs:List aQ}(hn:n.length<=4294967296)(hl:vs.length<=4294967296)(h:∀v∈vs,iO v):iO (eB n vs):=by
 have z:∀k:Int,0<=k->k<=3->i64 k:=λk h1 h2=>oq
 unfold eB;split
 .exact oC (z 2 om om) (z 0 om om) sq hl (sV h)
 .exact oC (z 3 om om) (z 0 om om) hn hl (sV h)
end Go.Ax
namespace Go.Ax
open Go
theorem eH{A:List Nd}(h:VT A){i:Nat}{x:Nd}(hx:A[i]? = some x){k:Int}(hk:k∈x.kids):0<=k/\k.toNat<i:=by
 obtain⟨j,hj⟩:=aAU hk;have:=(h.node hx).node.kids j k hj;omega
def ZV(a b:Nat)(l:List Sp):Prop:=∀s∈l,a<=s.1/\s.1<=s.2.1/\s.2.1<=s.2.2/\s.2.2<=b
theorem ZV.mono{a b a' b':Nat}{l:List Sp}(h:ZV a b l)(h1:a'<=a)(h2:b<=b'):ZV a' b' l:=λs hs=>by
 have:=h s hs;omega
end Go.Ax
namespace Go.Ax
open Go
variable{n i:Nat}
theorem Pj(r:List Nd):∀l:List Nd,∃m,cY (l++r)=cY l++m:=by
 refine i0 (P:=λr=>∀l:List Nd,∃m,cY (l++r)=cY l++m) (λl=>⟨[],sq⟩) (λr x ih l=>?_) r;obtain⟨m,hm⟩:=ih l;refine⟨m++[jQ (cY (l++r)) x], ?_⟩;rw[<-List.append_assoc,oX,hm,List.append_assoc]
theorem Gl{A:List Nd}{k:Int}(h0:0<=k)(h:k<n)(hn:n<=A.length):f7 (cY (A.take n)) k=f7 (cY A) k:=by
 obtain⟨m,hm⟩:=Pj (A.drop n) (A.take n);rw[List.take_append_drop] at hm;rw[hm,Nu h0 (by rw[nH,aAR];omega)]
section
variable {A:List Nd}
theorem VT.lenC(h:VT A){x:Nd}(hx:A[i]? = some x)(hi:i<=n)(hn:n<=A.length):jQ (cY (A.take n)) x=jQ (cY A) x:=by
 refine Ei (λk hk=>?_) (λh4=>by have:=(h.bind hx h4).1;omega) (h.node hx).node.kind;have:=eH h hx hk;exact Gl this.1 om hn
theorem VT.len(h:VT A){x:Nd}(hx:A[i]? = some x):f7 (cY A) i=jQ (cY A) x:=by
 obtain⟨hi,he⟩:=aAg.1 hx;rw[<-Gl (n:=i+1) om om om,aAl hi,oX,he,h.lenC hx (aAp _) om];unfold f7;rw[aAc,aAb,aAW (by rw[nH];simp;omega),nH];simp[show min i A.length=i by omega]
theorem VT.lens0(h:VT A)(k:Int):0<=f7 (cY A) k/\f7 (cY A) k<=1024:=by
 unfold f7;rw[aAb];cases e:(cY A)[k.toNat]? with
 | none=>simp
 | some b=>exact(rP A h.v0).1 b (aAm e)
end
end Go.Ax
namespace Go.Ax
open Go
variable{A:List Nd}{i:Nat}{V:Type}
structure Sys(S R:Type) where
 sa:Nd->(Nat->S)->(Nat->aQ->R)->S
 sf:Nd->(Nat->aQ->R)->aQ->R
 s0:S
 r0:R
 la:∀(x:Nd) (al al':Nat->S) (of of':Nat->aQ->R),(∀k∈x.kids,al k.toNat=al' k.toNat)->(∀k∈x.kids,∀v,of k.toNat v=of' k.toNat v)->sa x al of=sa x al' of'
 lf:∀(x:Nd) (of of':Nat->aQ->R) (v:aQ),(∀k∈x.kids,∀v,of k.toNat v=of' k.toNat v)->sf x of v=sf x of' v
section
variable {S R:Type}
def Sys.run(y:Sys S R)(A:List Nd):Nat->(Nat->S) × (Nat->aQ->R)
 | 0=>(λ_=>y.s0,λ_ _=>y.r0)
 | f+1=>(λi=>y.sa (aG A i) (y.run A f).1 (y.run A f).2,λi v=>y.sf (aG A i) (y.run A f).2 v)
def Sys.all(y:Sys S R)(A:List Nd)(i:Nat):S:=(y.run A (i+1)).1 i
def Sys.of(y:Sys S R)(A:List Nd)(i:Nat)(v:aQ):R:=(y.run A (i+1)).2 i v
theorem Sys.stable(y:Sys S R){A:List Nd}(h:VT A):∀(f g i:Nat),i<f->i<g->i<A.length->(y.run A f).1 i=(y.run A g).1 i/\∀v,(y.run A f).2 i v=(y.run A g).2 i v
 | 0,g,i,h1,h2,h3=>om
 | f+1,0,i,h1,h2,h3=>om
 | f+1,g+1,i,h1,h2,h3=>by
  have hk:=λ(k:Int) (hk:k∈(aG A i).kids)=>eH h (b9 h3) hk
  have ih:=λ(k:Int) (hm:k∈(aG A i).kids)=>y.stable h f g k.toNat (by have:=hk k hm;omega) (by have:=hk k hm;omega) (by have:=hk k hm;omega)
  exact⟨y.la _ _ _ _ _ (λk hm=>(ih k hm).1) λk hm=>(ih k hm).2,λv=>y.lf _ _ _ _ λk hm=>(ih k hm).2⟩
theorem Sys.all_eq(y:Sys S R)(h:VT A)(hi:i<A.length):y.all A i=y.sa (aG A i) (y.all A) (y.of A):=by
 have hk:=λ(k:Int) (hk:k∈(aG A i).kids)=>eH h (b9 hi) hk
 exact y.la _ _ _ _ _ (λk hm=>(y.stable h i _ k.toNat (hk k hm).2 (aBx _) (by have:=hk k hm;omega)).1) λk hm=>(y.stable h i _ k.toNat (hk k hm).2 (aBx _) (by have:=hk k hm;omega)).2
theorem Sys.of_eq(y:Sys S R)(h:VT A)(hi:i<A.length)(v:aQ):y.of A i v=y.sf (aG A i) (y.of A) v:=by
 have hk:=λ(k:Int) (hk:k∈(aG A i).kids)=>eH h (b9 hi) hk
 exact y.lf _ _ _ _ λk hm=>(y.stable h i _ k.toNat (hk k hm).2 (aBx _) (by have:=hk k hm;omega)).2
end
theorem cU{V β:Type}{f g:β->V->β}:∀(l:List V) (b:β),(∀a∈l,∀b,f b a=g b a)->l.foldl f b=l.foldl g b
 | [],b,h=>rfl
 | a::l,b,h=>by
  rw[aAy,aAy,h a (aAv ..),cU l _ λa ha=>h a (aAo _ ha)]
theorem dS{l:List V}{kc:V × Nat}(h:kc∈l.zipIdx):kc.1∈l:=by
 obtain⟨a,i⟩:=kc;obtain⟨h1,h2⟩:=List.mem_zipIdx' h;simp only at h2 |-;rw[h2];exact aAq _
theorem cN{l:List V}{ks:List Int}{a:V × Int}(h:a∈l.zip (ks.drop 1)):a.2∈ks/\ks.getD 0 0∈ks:=by
 have:=aAX (aA0 h).2;cases ks with
 | nil=>cases this
 | cons b r=>exact⟨this,sq⟩
def jN:aQ->List aQ
 | .mk _ _ _ ks=>ks
def Yr:aQ->List UInt8
 | .mk _ _ s _=>s
def jA(x:Nd)(v:aQ):Bool:=decide ((jN v).length=x.kids.length) && (if x.name=[] then decide (Jb v=2) else decide (Jb v=3) && decide (Yr v=x.name))
def yE(x:Nd)(v:aQ):Bool:=decide (Jb v=0) && decide (x.lo<=MQ v) && decide (MQ v<=x.hi)
def iN(x:Nd):Nat:=(x.kids.getD 0 0).toNat
structure Bd(T:Type) where
 one:T
 add:T->T->T
 mul:T->T->T
 opt:Nd->Nat->T
 spn:Nd->T
section
variable {T:Type}
def fX(g:Bd T):Option T->Option T->Option T
 | none,b=>b
 | some a,none=>some a
 | some a,some b=>some (g.add a b)
def c8(g:Bd T):Option T->Option T->Option T
 | some a,some b=>some (g.mul a b)
 | _,_=>none
def XL(g:Bd T)(x:Nd)(al:Nat->Option T)(f:Option T)(kc:Int × Nat):Option T:=fX g f (c8 g (some (g.opt x kc.2)) (al kc.1.toNat))
def YV(g:Bd T)(x:Nd)(of:Nat->aQ->Option T)(al:Nat->Option T)(f:Option T)(vk:aQ × Int):Option T:=fX g f (c8 g (of (iN x) vk.1) (al vk.2.toNat))
def YM(g:Bd T)(of:Nat->aQ->Option T)(f:Option T)(kv:Int × aQ):Option T:=c8 g f (of kv.1.toNat kv.2)
def v8(g:Bd T)(x:Nd)(al:Nat->Option T)(of:Nat->aQ->Option T):Option T:=
 if x.kind=1 then some (g.spn x)
 else if x.kind=3 then x.kids.foldl (λf k=>c8 g f (al k.toNat)) (some g.one)
 else if x.kind=2 then x.kids.zipIdx.foldl (XL g x al) none
 else if x.kind=4 then(x.values.zip (x.kids.drop 1)).foldl (YV g x of al) none
 else some g.one
def qE(g:Bd T)(x:Nd)(of:Nat->aQ->Option T)(v:aQ):Option T:=
 if bG v≠0 then none
 else if x.kind=0 then(if cJ x.value v=0 then some g.one else none)
 else if x.kind=1 then(if yE x v=true then some (g.opt x (MQ v-x.lo).toNat) else none)
 else if x.kind=3 then(if jA x v=true then(x.kids.zip (jN v)).foldl (YM g of) (some g.one) else none)
 else if x.kind=2 then x.kids.zipIdx.foldl (XL g x λk=>of k v) none
 else if x.kind=4 then(x.values.zip (x.kids.drop 1)).foldl (YV g x of λk=>of k v) none
 else none
def aZ(g:Bd T):Sys (Option T) (Option T) where
 sa:=v8 g
 sf:=qE g
 s0:=none
 r0:=none
 la:=λx al al' of of' h1 h2=>by
  unfold v8;split
  .rfl
  split
  .exact cU _ _ λk hk b=>by rw[h1 k hk]
  split
  .exact cU _ _ λkc hk b=>by unfold XL;rw[h1 _ (dS hk)]
  split
  .exact cU _ _ λvk hk b=>by
    obtain⟨m1,m2⟩:=cN hk;unfold YV iN;rw[h1 _ m1,h2 _ m2]
  .rfl
 lf:=λx of of' v h2=>by
  unfold qE;split
  .rfl
  split
  .rfl
  split
  .rfl
  split
  .split
   .exact cU _ _ λkv hk b=>by unfold YM;rw[h2 _ (aA0 hk).1]
   .rfl
  split
  .exact cU _ _ λkc hk b=>by unfold XL;dsimp only;rw[h2 _ (dS hk)]
  split
  .exact cU _ _ λvk hk b=>by
    obtain⟨m1,m2⟩:=cN hk;unfold YV iN;simp only;rw[h2 _ m1,h2 _ m2]
  .rfl
end
end Go.Ax
namespace Go.Ax
open Go
def Z3(n:Nat):Option Nat:=if n=0 then none else some n
def wK(x:Nd)(al:Nat->Nat)(of:Nat->aQ->Nat):Nat:=
 if x.kind=1 then(x.hi-x.lo+1).toNat
 else if x.kind=3 then x.kids.foldl (λf k=>f*al k.toNat) 1
 else if x.kind=2 then x.kids.foldl (λf k=>f+al k.toNat) 0
 else if x.kind=4 then(x.values.zip (x.kids.drop 1)).foldl (λf vk=>f+of (iN x) vk.1*al vk.2.toNat) 0
 else 1
def wZ(x:Nd)(of:Nat->aQ->Nat)(v:aQ):Nat:=
 if bG v≠0 then 0
 else if x.kind=0 then(if cJ x.value v=0 then 1 else 0)
 else if x.kind=1 then(if yE x v=true then 1 else 0)
 else if x.kind=3 then(if jA x v=true then(x.kids.zip (jN v)).foldl (λf kv=>f*of kv.1.toNat kv.2) 1 else 0)
 else if x.kind=2 then x.kids.foldl (λf k=>f+of k.toNat v) 0
 else if x.kind=4 then(x.values.zip (x.kids.drop 1)).foldl (λf vk=>f+of (iN x) vk.1*of vk.2.toNat v) 0
 else 0
def mJ:Sys Nat Nat where
 sa:=wK
 sf:=wZ
 s0:=0
 r0:=0
 la:=λx al al' of of' h1 h2=>by
  unfold wK;split
  .rfl
  split
  .exact cU _ _ λk hk b=>by rw[h1 k hk]
  split
  .exact cU _ _ λk hk b=>by rw[h1 k hk]
  split
  .exact cU _ _ λvk hk b=>by
    obtain⟨m1,m2⟩:=cN hk;unfold iN;rw[h1 _ m1,h2 _ m2]
  .rfl
 lf:=λx of of' v h2=>by
  unfold wZ;split
  .rfl
  split
  .rfl
  split
  .rfl
  split
  .split
   .exact cU _ _ λkv hk b=>by rw[h2 _ (aA0 hk).1]
   .rfl
  split
  .exact cU _ _ λk hk b=>by rw[h2 k hk]
  split
  .exact cU _ _ λvk hk b=>by
    obtain⟨m1,m2⟩:=cN hk;unfold iN;rw[h2 _ m1,h2 _ m2]
  .rfl
theorem oR{V β γ:Type}(t:β->γ){f:β->V->β}{g:γ->V->γ}:∀(l:List V) (b:β),(∀a∈l,∀b,t (f b a)=g (t b) a)->t (l.foldl f b)=l.foldl g (t b)
 | [],b,h=>rfl
 | a::l,b,h=>by
  rw[aAy,aAy,<-h a (aAv ..) b,oR t l _ λa ha=>h a (aAo _ ha)]
theorem Bw{V β:Type}{f:β->V->β}(l:List V):∀(n:Nat) (b:β),(l.zipIdx n).foldl (λb kc=>f b kc.1) b=l.foldl f b:=by
 induction l with
 | nil=>exact λn b=>rfl
 | cons a l ih=>exact λn b=>by rw[aBI,aAy,aAy,ih]
end Go.Ax
namespace Go.Ax
open Go
variable{A:List Nd}{i:Nat}{l:List aQ}
theorem ES{v:aQ}(h:bG v=0):bT v=true/\zT v=true/\bF v<=1024:=by
 unfold bG at h;split at h
 .omega
 .rename_i hf;have hf:bT v=true:=su hf
  split at h
  .omega
  .rename_i hw;rw[not_or] at hw;refine⟨hf, ?_,om⟩;have:=Ca v hf;have h2:lF v=false:=by simpa using hw.1
   rw[h2] at this;simpa using this.symm
theorem DO:∀{l:List aQ},fG l=0->∀v∈l,bG v=0
 | [],h,v,hv=>by cases hv
 | a::l,h,v,hv=>by
  simp only[fG] at h;split at h
  .rename_i h1;exact absurd h h1
  .rename_i h1;rcases aAj.1 hv with rfl|hv
   .exact Decidable.not_not.1 h1
   .exact DO h v hv
theorem VT.own(h:VT A){x:Nd}(hx:A[i]? = some x):∀v∈r8 x,bG v=0:=by
 have hn:=(gD (mK A h.v0 i x hx)).1;unfold gY at hn;split at hn
 .omega
 split at hn
 .rename_i h1;exact absurd hn h1
 .rename_i h1;exact DO (Decidable.not_not.1 h1)
theorem VT.vals_valid(h:VT A){x:Nd}(hx:A[i]? = some x){v:aQ}(hv:v∈x.values):bG v=0:=h.own hx v (aBp _ hv)
theorem VT.len256(h:VT A){x:Nd}(hx:A[i]? = some x):0<=f7 (cY A) i/\f7 (cY A) i<=256:=by
 have hi:=(aAg.1 hx).1;have:=(gD (mK A h.v0 i x hx)).2.1;rw[h.lenC hx (aAp _) om,<-h.len hx] at this;exact⟨(h.lens0 i).1,this⟩
theorem Ge:∀{l:List aQ},c9 l=true->∀v∈l,bT v=true
 | [],h,v,hv=>by cases hv
 | a::l,h,v,hv=>by
  simp only[c9,aAd] at h;rcases aAj.1 hv with rfl|hv
  .exact h.1
  .exact Ge h.2 v hv
theorem KX:∀{l:List aQ},rO l=false->∀v∈l,lF v=false
 | [],h,v,hv=>by cases hv
 | a::l,h,v,hv=>by
  simp only[rO,aB0] at h;rcases aAj.1 hv with rfl|hv
  .exact h.1
  .exact KX h.2 v hv
theorem KW:∀{l:List aQ} {v:aQ},v∈l->bF v<=cA l
 | a::l,v,hv=>by
  simp only[cA];rcases aAj.1 hv with rfl|hv
  .omega
  .have:=KW hv;omega
theorem iF{v:aQ}(h:bG v=0):bT v=true/\lF v=false/\bF v<=1024:=by
 unfold bG at h;split at h
 .omega
 .rename_i h1;split at h
  .omega
  .rename_i h2;rw[not_or] at h2;exact⟨su h1,by simpa using h2.1,om⟩
theorem Sb{v:aQ}(h1:bT v=true)(h2:lF v=false)(h3:bF v<=1024):bG v=0:=by
 unfold bG;rw[aAe (by rw[h1];simp),aAe (by rw[h2];simp;omega)]
theorem kA{v:aQ}(h:bG v=0):∀u∈jN v,bG u=0:=λu hu=>by
 obtain⟨k,n,s,ks⟩:=v;obtain⟨h1,h2,h3⟩:=iF h;simp only[bT,aAd] at h1;simp only[lF,aB0] at h2;simp only[bF] at h3;have:=KW (show u∈ks from hu);exact Sb (Ge h1.2 u hu) (KX h2.2 u hu) om
def p6(v:aQ)(l:List aQ):Nat:=l.countP λu=>decide (cJ u v=0)
def Jg(x:Nd)(pv:Nat->List aQ):List aQ:=
 if x.kind=1 then g7 x.lo x.hi
 else if x.kind=3 then(x.kids.foldl (λrows k=>gF rows (pv k.toNat)) [[]]).map (eB x.name)
 else if x.kind=2 then x.kids.flatMap λk=>pv k.toNat
 else if x.kind=4 then(x.values.zip (x.kids.drop 1)).flatMap λvk=>((pv (iN x)).filter λu=>decide (cJ u vk.1=0)).flatMap λ_=>pv vk.2.toNat
 else [x.value]
theorem uN{V β:Type}{f g:V->List β}:∀(l:List V),(∀a∈l,f a=g a)->l.flatMap f=l.flatMap g
 | [],h=>rfl
 | a::l,h=>by rw[aBs,aBs,h a (aAv ..),uN l λa ha=>h a (aAo _ ha)]
def Yl:Sys (List aQ) Unit where
 sa:=λx al _=>Jg x al
 sf:=λ_ _ _=>()
 s0:=[]
 r0:=()
 la:=λx al al' of of' h1 h2=>by
  unfold Jg;split
  .rfl
  split
  .exact congrArg _ (cU _ _ λk hk b=>by rw[h1 k hk])
  split
  .exact uN _ λk hk=>h1 k hk
  split
  .exact uN _ λvk hk=>by
    obtain⟨m1,m2⟩:=cN hk;unfold iN;rw[h1 _ m1,h1 _ m2]
  .rfl
 lf:=λx of of' v h2=>rfl
def uD(A:List Nd)(i:Nat):List aQ:=Yl.all A i
theorem uC{a b:aQ}:cJ a b=0↔a=b:=⟨GH a b,λh=>by rw[h];exact(oU b).refl⟩
theorem Lz(l:List aQ):dK l l=true:=by
 induction l with
 | nil=>rfl
 | cons a l ih=>simp only[dK,aAd,aAC];exact⟨uC.2 rfl,ih⟩
theorem Av{m:List aQ}:dK l m=true↔l=m:=⟨CS,λh=>by rw[h];exact Lz m⟩
theorem KU(q r:List aQ)(u v:aQ):dK (q++[u]) (r++[v])=(dK q r && decide (cJ u v=0)):=by
 rw[aAS,aAd,Av,Av,aAC,uC];constructor
 .intro h;exact List.append_inj' h rfl |>.imp id λh=>su h
 .rintro⟨rfl,rfl⟩;rfl
theorem l9{x:Nd}{k n:Int}{s:List UInt8}{ks:List aQ}:jA x (.mk k n s ks)=true↔ks.length=x.kids.length/\(if x.name=[] then k=2 else k=3/\s=x.name):=by
 show (decide (ks.length=x.kids.length) && (if x.name=[] then decide (k=2) else decide (k=3) && decide (s=x.name)))=true↔_
 rw[aAd,aAC];refine and_congr_right λ_=>?_
 split
 .rw[aAC]
 .rw[aAd,aAC,aAC]
theorem Gx{x:Nd}{k n:Int}{s:List UInt8}{ks:List aQ}:yE x (.mk k n s ks)=true↔(k=0/\x.lo<=n)/\n<=x.hi:=by
 show (decide (k=0) && decide (x.lo<=n) && decide (n<=x.hi))=true↔_
 rw[aAd,aAd,aAC,aAC,aAC]
def GQ(r:List aQ)(rows:List (List aQ)):Nat:=rows.countP λq=>dK q r
theorem E2(r:List aQ)(v:aQ)(l:List aQ):∀rows:List (List aQ),GQ (r++[v]) (gF rows l)=GQ r rows*p6 v l
 | []=>by simp[GQ,gF]
 | q::rows=>by
  have ih:=E2 r v l rows;unfold GQ gF at *;rw[aBs,aCC,ih,aDe,List.countP_cons,Nat.add_mul,aCH];congr 1;have e:((λq=>dK q (r++[v])) ∘ λv=>q++[v])=λu=>(dK q r && decide (cJ u v=0)):=by
   funext u;exact KU q r u v
  rw[e];cases dK q r with
  | true=>simp[p6]
  | false=>simp
theorem HO(pv:Nat->List aQ):∀(ks:List Int) (vs:List aQ) (r:List aQ) (rows:List (List aQ)),vs.length=ks.length ->
  GQ (r++vs) (ks.foldl (λrows k=>gF rows (pv k.toNat)) rows)=(ks.zip vs).foldl (λf kv=>f*p6 kv.2 (pv kv.1.toNat)) (GQ r rows)
 | [],[],r,rows,_=>sq
 | [],v::vs,r,rows,h=>by simp at h
 | k::ks,[],r,rows,h=>by simp at h
 | k::ks,v::vs,r,rows,h=>by
  rw[aAy,aA4,aAy,show r++v::vs=(r++[v])++vs by simp,HO pv ks vs _ _ (su h),E2]
theorem AE(pv:Nat->List aQ):∀(ks:List Int) (rows:List (List aQ)),(ks.foldl (λrows k=>gF rows (pv k.toNat)) rows).length=ks.foldl (λf k=>f*(pv k.toNat).length) rows.length
 | [],rows=>rfl
 | k::ks,rows=>by rw[aAy,aAy,AE pv ks,uG]
theorem AJ(pv:Nat->List aQ):∀(ks:List Int) (rows:List (List aQ)) (n:Nat),(∀q∈rows,q.length=n)->∀q∈ks.foldl (λrows k=>gF rows (pv k.toNat)) rows,q.length=n+ks.length
 | [],rows,n,h,q,hq=>h q hq
 | k::ks,rows,n,h,q,hq=>by
  rw[aAy] at hq;have:=AJ pv ks _ (n+1) (λq hq=>by
   obtain⟨r,h1,v,h2,rfl⟩:=qV hq;simp[h r h1]) q hq
  simp only[aAH];omega
theorem RV(x:Nd){v:aQ}(hv:bG v=0)(rows:List (List aQ))(hr:∀q∈rows,q.length=x.kids.length):p6 v (rows.map (eB x.name))=if jA x v=true then GQ (jN v) rows else 0:=by
 obtain⟨k,n,s,ks⟩:=v;have hf:=(iF hv).1;simp only[bT,aAd] at hf;have hf:=hf.1;unfold p6;rw[aDe];have key:∀q∈rows,((λu=>decide (cJ u (.mk k n s ks)=0)) ∘ eB x.name) q=(jA x (.mk k n s ks) && dK q ks):=by
  intro q hq;have hql:=hr q hq
  show decide (cJ (eB x.name q) (.mk k n s ks)=0)=_
  rw[aAS,aAC,uC,aAd,Av,l9];unfold eB;by_cases hn:x.name=[]
  .rw[aAh hn,aAh hn];constructor
   .intro h;injection h with h1 h2 h3 h4;subst h4;exact⟨⟨hql,h1.symm⟩,rfl⟩
   .rintro⟨⟨h1,h2⟩,rfl⟩;subst h2;unfold dA at hf;simp at hf;rw[hf.1,hf.2]
  .rw[aAe hn,aAe hn];constructor
   .intro h;injection h with h1 h2 h3 h4;subst h4;exact⟨⟨hql,h1.symm,h3.symm⟩,rfl⟩
   .rintro⟨⟨h1,h2,h3⟩,rfl⟩;subst h2;unfold dA at hf;simp at hf;rw[hf.1,h3]
 rw[List.countP_congr (q:=λq=>(jA x (.mk k n s ks) && dK q ks)) λq hq=>by rw[key q hq]];unfold GQ jN;cases jA x (.mk k n s ks) with
 | true=>simp
 | false=>simp
theorem Ce{V:Type}(v:aQ)(f:V->List aQ):∀(l:List V) (s:Nat),s+p6 v (l.flatMap f)=l.foldl (λs a=>s+p6 v (f a)) s
 | [],s=>by simp[p6]
 | a::l,s=>by
  rw[aBs,aAy,<-Ce v f l];unfold p6;rw[aCC];omega
theorem F6{V:Type}(f:V->List aQ):∀(l:List V) (s:Nat),s+(l.flatMap f).length=l.foldl (λs a=>s+(f a).length) s
 | [],s=>sq
 | a::l,s=>by
  rw[aBs,aAy,<-F6 f l,aAA];omega
theorem F2(v:aQ)(l:List aQ):(l.filter λu=>decide (cJ u v=0)).length=p6 v l:=by unfold p6;rw[List.countP_eq_length_filter]
theorem PM(m l:List aQ):(l.flatMap λ_=>m).length=l.length*m.length:=by
 induction l with
 | nil=>simp
 | cons a l ih=>rw[aBs,aAA,ih,aAH,Nat.add_mul,aBq];omega
theorem PJ(v:aQ)(m l:List aQ):p6 v (l.flatMap λ_=>m)=l.length*p6 v m:=by
 induction l with
 | nil=>simp[p6]
 | cons a l ih=>
  rw[aBs,aAH,Nat.add_mul,aBq,<-ih];unfold p6;rw[aCC];omega
theorem LW{x:Nd}{v:aQ}(hv:bG v=0):p6 v (g7 x.lo x.hi)=if yE x v=true then 1 else 0:=by
 obtain⟨k,n,s,ks⟩:=v;have hf:=(iF hv).1;simp only[bT,aAd] at hf;have hf:=hf.1;unfold p6 g7;rw[aDe];have key:∀m:Nat,(List.range m).countP ((λu=>decide (cJ u (.mk k n s ks)=0)) ∘ λi:Nat=>aQ.mk 0 (x.lo+(i:Int)) [] [])=if k=0/\x.lo<=n/\n<x.lo+m then 1 else 0:=by
  intro m
  induction m with
  | zero=>rw[aAe om];rfl
  | succ m ih=>
   rw[aCy,aCC,ih,List.countP_singleton];have e:((λu=>decide (cJ u (.mk k n s ks)=0)) ∘ λi:Nat=>aQ.mk 0 (x.lo+(i:Int)) [] []) m=decide (k=0/\n=x.lo+m):=by
    show decide (cJ (.mk 0 (x.lo+(m:Int)) [] []) (.mk k n s ks)=0)=_
    rw[aAS,aAC,aAC,uC];constructor
    .intro h;injection h with h1 h2 h3 h4;exact⟨h1.symm,h2.symm⟩
    .rintro⟨rfl,rfl⟩;unfold dA at hf;simp at hf;rw[hf.1,hf.2]
   rw[e];by_cases h1:k=0
   .by_cases h2:n=x.lo+m
    .rw[aAe om,aAh (by simp[h1,h2]),aAh om]
    .rw[aAe (c:=decide _=true) (by simp[h2])];by_cases h3:x.lo<=n/\n<x.lo+m
     .rw[aAh ⟨h1,h3⟩,aAh om]
     .rw[aAe om,aAe om]
   .rw[aAe (by simp[h1]),aAe (by simp[h1]),aAe (by simp[h1])]
 rw[key];by_cases h:(k=0/\x.lo<=n)/\n<=x.hi
 .rw[aAh (Gx.2 h),aAh om]
 .rw[aAe (λe=>h (Gx.1 e)),aAe om]
theorem JI(h:VT A):∀i,i<A.length->(uD A i).length=mJ.all A i/\∀v,bG v=0->p6 v (uD A i)=mJ.of A i v:=by
 intro i
 induction i using Nat.strongRecOn with
 | ind i ih=>
  intro hi;have hx:=b9 hi;have hk:=λ(k:Int) (hk:k∈(aG A i).kids)=>eH h hx hk
  have ia:=λ(k:Int) (hm:k∈(aG A i).kids)=>(ih k.toNat (hk k hm).2 (by have:=hk k hm;omega)).1
  have io:=λ(k:Int) (hm:k∈(aG A i).kids)=>(ih k.toNat (hk k hm).2 (by have:=hk k hm;omega)).2
  have hr:=dG (h.node hx).node.num;have hvv:=λ(u:aQ) (hu:u∈(aG A i).values)=>h.vals_valid hx hu
  rw[mJ.all_eq h hi,show uD A i=Jg (aG A i) (uD A) from Yl.all_eq h hi];refine⟨?_,λv hv=>?_⟩
  .show _=wK _ _ _
   unfold Jg wK;generalize aG A i=x at *;split
   .simp[g7];omega
   split
   .rw[aBO,AE];exact cU _ _ λk hm b=>by rw[ia k hm]
   split
   .have:=F6 (λk:Int=>uD A k.toNat) x.kids 0;rw[aAF] at this;rw[this];exact cU _ _ λk hm b=>by rw[ia k hm]
   split
   .have:=F6 (λvk:aQ × Int=>((uD A (iN x)).filter λu=>decide (cJ u vk.1=0)).flatMap λ_=>uD A vk.2.toNat) (x.values.zip (x.kids.drop 1)) 0;rw[aAF] at this;rw[this];exact cU _ _ λvk hm b=>by
     obtain⟨m1,m2⟩:=cN hm;rw[PM,F2,ia _ m1];unfold iN;rw[io _ m2 _ (hvv _ (aA0 hm).1)]
   .rfl
  .rw[mJ.of_eq h hi]
   show _=wZ _ _ _
   unfold Jg wZ;rw[aAe (show ¬bG v≠0 by omega)];have hkk:=(h.node hx).node.kind;generalize aG A i=x at *;by_cases k0:x.kind=0
   .rw[aAe om,aAe om,aAe om,aAe om,aAh k0];unfold p6;rw[List.countP_singleton];by_cases e:cJ x.value v=0
    .rw[aAh (su e),aAh e]
    .rw[aAe (su e),aAe e]
   rw[aAe k0];by_cases k1:x.kind=1
   .rw[aAh k1,aAh k1];exact LW hv
   rw[aAe k1,aAe k1];by_cases k3:x.kind=3
   .rw[aAh k3,aAh k3,RV x hv _ λq hq=>by have:=AJ (uD A) x.kids [[]] 0 sq q hq;omega];obtain⟨k,n,s,ks⟩:=v;split
    .rename_i hm;have hl:=(l9.1 hm).1;have:=HO (uD A) x.kids ks [] [[]] hl;rw[aAZ] at this
     show GQ ks _=_
     rw[this];have e1:GQ [] [[]]=1:=rfl;rw[e1];exact cU _ _ λkv hm b=>by
      obtain⟨m1,m2⟩:=aA0 hm;rw[io _ m1 _ (kA hv _ m2)]
    .rfl
   rw[aAe k3,aAe k3];by_cases k2:x.kind=2
   .rw[aAh k2,aAh k2];have:=Ce v (λk:Int=>uD A k.toNat) x.kids 0;rw[aAF] at this;rw[this];exact cU _ _ λk hm b=>by rw[io k hm v hv]
   rw[aAe k2,aAe k2,aAh om,aAh om];have:=Ce v (λvk:aQ × Int=>((uD A (iN x)).filter λu=>decide (cJ u vk.1=0)).flatMap λ_=>uD A vk.2.toNat) (x.values.zip (x.kids.drop 1)) 0;rw[aAF] at this;rw[this];exact cU _ _ λvk hm b=>by
    obtain⟨m1,m2⟩:=cN hm;rw[PJ,F2,io _ m1 v hv];unfold iN;rw[io _ m2 _ (hvv _ (aA0 hm).1)]
theorem JG(h:VT A)(hi:i<A.length){v:aQ}(hv:bG v≠0):mJ.of A i v=0:=by
 rw[mJ.of_eq h hi]
 show wZ _ _ _=_
 unfold wZ;rw[aAh hv]
theorem YN(h:VT A)(hi:i<A.length)(v:aQ):mJ.of A i v<=mJ.all A i:=by
 by_cases hv:bG v=0
 .obtain⟨h1,h2⟩:=JI h i hi;rw[<-h1,<-h2 v hv];exact List.countP_le_length
 .rw[JG h hi hv];omega
theorem Ex{a:aQ}:∀{vs:List aQ},pZ vs->(vs.map λu=>if decide (cJ a u=0)=true then 1 else 0).sum<=1
 | [],_=>sq
 | u::vs,h=>by
  obtain⟨h1,h2⟩:=aA1.1 h;rw[aAT,aBL];by_cases e:cJ a u=0
  .rw[aAh (su e)];have:(vs.map λu=>if decide (cJ a u=0)=true then 1 else 0).sum=0:=by
    have hall:∀w∈vs,(if decide (cJ a w=0)=true then 1 else 0)=0:=λw hw=>by
     rw[aAe];simp only[aAC];intro e2;have:=h1 w hw;rw[<-GH _ _ e,e2] at this;omega
    rw[aCt (g:=λ_=>0) hall];clear h1 h2 hall h
    induction vs with
    | nil=>rfl
    | cons w vs ih=>rw[aAT,aBL,ih]
   omega
  .rw[aAe (su e)];have:=Ex (a:=a) h2;omega
theorem Ng{V:Type}(f g:V->Nat):∀l:List V,(l.map λa=>f a+g a).sum=(l.map f).sum+(l.map g).sum
 | []=>rfl
 | a::l=>by simp only[aAT,aBL,Ng f g l];omega
theorem Fz{vs:List aQ}(hs:pZ vs):∀l:List aQ,(vs.map λu=>p6 u l).sum<=l.length
 | []=>by
  have:(vs.map λu=>p6 u []).sum=0:=by
   clear hs
   induction vs with
   | nil=>rfl
   | cons a vs ih=>rw[aAT,aBL,ih];rfl
  omega
 | a::l=>by
  have h1:=Fz hs l;have h2:=Ex (a:=a) hs;have e:(λu=>p6 u (a::l))=λu=>p6 u l+if decide (cJ a u=0)=true then 1 else 0:=by
   funext u
   unfold p6;rw[List.countP_cons]
  rw[e,Ng,aAH];omega
theorem PK(h:VT A)(hi:i<A.length){vs:List aQ}(hs:pZ vs)(hv:∀v∈vs,bG v=0):(vs.map λu=>mJ.of A i u).sum<=mJ.all A i:=by
 obtain⟨h1,h2⟩:=JI h i hi;rw[<-h1,aCt (g:=λu=>p6 u (uD A i)) λu hu=>(h2 u (hv u hu)).symm];exact Fz hs _
theorem s8{V:Type}(f:V->Nat):∀(l:List V) (s:Nat),l.foldl (λs a=>s+f a) s=s+(l.map f).sum
 | [],s=>sq
 | a::l,s=>by rw[aAy,s8 f l,aAT,aBL];omega
theorem Fp{V:Type}{f:V->Nat}{M:Nat}:∀{l:List V},(∀a∈l,f a<=M)->(l.map f).sum<=l.length*M
 | [],_=>sq
 | a::l,h=>by
  have h1:=h a (aAv ..);have h2:=Fp (l:=l) (M:=M) λb hb=>h b (aAo _ hb)
  rw[aAT,aBL,aAH,Nat.add_mul,aBq];omega
theorem FV{f:aQ->Nat}{g:Int->Nat}{M:Nat}:∀(vs:List aQ) (ks:List Int),(∀k∈ks,g k<=M)->((vs.zip ks).map λvk=>f vk.1*g vk.2).sum<=(vs.map f).sum*M
 | [],ks,h=>sq
 | v::vs,[],h=>sq
 | v::vs,k::ks,h=>by
  have h1:=aBS (f v) (h k (aAv ..));have h2:=FV (f:=f) vs ks λb hb=>h b (aAo _ hb)
  simp only[aA4,aAT,aBL,Nat.add_mul];omega
def nL(A:List Nd)(i:Nat):Nat:=(f7 (cY A) i).toNat
def j8(n:Nat):Nat:=2 ^ (40*n)
theorem vZ(a b:Nat):j8 a*j8 b=j8 (a+b):=by unfold j8;rw[<-Nat.pow_add,Nat.mul_add]
theorem fC{a b:Nat}(h:a<=b):j8 a<=j8 b:=aBf om om
theorem pA(a:Nat):1<=j8 a:=Nat.one_le_two_pow
theorem D5:j8 1=1099511627776:=by decide
def sI(A:List Nd)(ks:List Int):Nat:=(ks.map λk=>nL A k.toNat).sum
theorem Gp{A:List Nd}(h:VT A):∀(ks:List Int) (s:Int),(∀k∈ks,0<=k)->ks.foldl (λs k=>s+f7 (cY A) k) s=s+(sI A ks:Nat)
 | [],s,_=>by simp[sI]
 | k::ks,s,hk=>by
  have h0:=hk k (aAv ..);have h1:=(h.lens0 k).1;rw[aAy,Gp h ks _ λq hq=>hk q (aAo _ hq)];unfold sI nL;rw[aAT,aBL];have e:((k.toNat:Nat):Int)=k:=om;rw[e];omega
theorem Ep{A:List Nd}:∀(ks:List Int) (s:Int),s<=ks.foldl (λs k=>max s (f7 (cY A) k)) s/\∀k∈ks,f7 (cY A) k<=ks.foldl (λs k=>max s (f7 (cY A) k)) s
 | [],s=>⟨Int.le_refl _,sq⟩
 | k::ks,s=>by
  obtain⟨h1,h2⟩:=Ep (A:=A) ks (max s (f7 (cY A) k));rw[aAy];refine⟨om,λq hq=>?_⟩;rcases aAj.1 hq with rfl|hq
  .omega
  .exact h2 q hq
theorem VT.lenS(h:VT A){x:Nd}(hx:A[i]? = some x):nL A i<=256/\(x.kind=1->nL A i=1)/\(x.kind=3->nL A i=sI A x.kids)/\(x.kind=2->∀k∈x.kids,nL A k.toNat+1<=nL A i) /\
  (x.kind=4->∀k∈x.kids.drop 1,nL A (iN x)+nL A k.toNat<=nL A i):=by
 have hl:=h.len256 hx;have he:=h.len hx;have hk:=λ(k:Int) (hk:k∈x.kids)=>eH h hx hk
 have hl0:=λk=>(h.lens0 k).1
 have hln:((nL A i:Nat):Int)=f7 (cY A) i:=by unfold nL;omega
 refine⟨om,λh1=>?_,λh3=>?_,λh2 k hm=>?_,λh4 k hm=>?_⟩
 .unfold jQ at he;rw[aAe om,aAh h1] at he;omega
 .unfold jQ at he;rw[aAe om,aAe om,aAh h3] at he;have:=Gp h x.kids 0 λk hm=>(hk k hm).1
  unfold i9 at he;omega
 .unfold jQ at he;rw[aAe om,aAe om,aAe om,aAh h2] at he;have hk':((k.toNat:Nat):Int)=k:=by have:=hk k hm;omega
  have:=(Ep (A:=A) (i8 x) 0).2 k (by unfold i8;rw[aAh h2];exact hm);unfold dM at he;have h0:=hl0 k
  show (f7 (cY A) (k.toNat:Nat)).toNat+1<=_
  rw[hk'];omega
 .unfold jQ at he;rw[aAe om,aAe om,aAe om,aAe om] at he;have hk':((k.toNat:Nat):Int)=k:=by have:=hk k (aAX hm);omega
  have:=(Ep (A:=A) (i8 x) 0).2 k (by unfold i8;rw[aAe om];exact hm);unfold dM at he;have h0:=hl0 k;have h00:=hl0 (x.kids.getD 0 0);have hq:0<=x.kids.getD 0 0:=by
   cases hks:x.kids with
   | nil=>simp
   | cons a r=>exact(hk a (by rw[hks];simp)).1
  show (f7 (cY A) (iN x:Nat)).toNat+(f7 (cY A) (k.toNat:Nat)).toNat<=_
  rw[hk',show ((iN x:Nat):Int)=x.kids.getD 0 0 by unfold iN;omega];omega
theorem Mi{A:List Nd}{f:Int->Nat}:∀(ks:List Int) (s n:Nat),(∀k∈ks,f k<=j8 (nL A k.toNat))->s<=j8 n->ks.foldl (λs k=>s*f k) s<=j8 (n+sI A ks)
 | [],s,n,_,hs=>by simpa[sI] using hs
 | k::ks,s,n,h,hs=>by
  rw[aAy];have h1:=aBn hs (h k (aAv ..));rw[vZ] at h1;have:=Mi ks _ _ (λq hq=>h q (aAo _ hq)) h1;simpa[sI,Nat.add_assoc] using this
theorem LO{x:Nd}(h:d7 x=true):(x.hi-x.lo+1).toNat<=j8 1:=by
 have:=dG h;rw[D5];omega
theorem S1(h:VT A):∀i,i<A.length->mJ.all A i<=j8 (nL A i):=by
 intro i
 induction i using Nat.strongRecOn with
 | ind i ih=>
  intro hi;have hx:=b9 hi;have hk:=λ(k:Int) (hk:k∈(aG A i).kids)=>eH h hx hk
  have ia:=λ(k:Int) (hm:k∈(aG A i).kids)=>ih k.toNat (hk k hm).2 (by have:=hk k hm;omega)
  have hg:=h.node hx;obtain⟨l1,l2,l3,l4,l5⟩:=h.lenS hx;have hvv:=λ(u:aQ) (hu:u∈(aG A i).values)=>h.vals_valid hx hu
  rw[mJ.all_eq h hi]
  show wK _ _ _<=_
  unfold wK;split
  .rename_i k1;rw[l2 k1];exact LO hg.node.num
  split
  .rename_i k3;rw[l3 k3];have:=Mi (A:=A) (f:=λk=>mJ.all A k.toNat) (aG A i).kids 1 0 ia (pA 0);simpa using this
  split
  .rename_i k2;rw[s8,aAF];have hl:=hg.node.klen om;by_cases h0:(aG A i).kids=[]
   .rw[h0];simp
   .have hb:∀k∈(aG A i).kids,mJ.all A k.toNat<=j8 (nL A i-1):=λk hm=>aAx (ia k hm) (fC (by have:=l4 k2 k hm;omega))
    obtain⟨k,hm⟩:=aC7 _ h0;have h1:=l4 k2 k hm;refine aAx (Fp hb) ?_;have:=aAG (j8 (nL A i-1)) (show (aG A i).kids.length<=j8 1 by rw[D5];omega);rw[vZ,show 1+(nL A i-1)=nL A i by omega] at this;exact this
  split
  .rename_i k4;rw[s8,aAF];have hb:=hg.node.bind k4;by_cases h0:(aG A i).kids.drop 1=[]
   .rw[h0];simp
   .obtain⟨q,hq⟩:=aC7 _ h0;have hkm:(aG A i).kids.getD 0 0∈(aG A i).kids:=by
     cases hks:(aG A i).kids with
     | nil=>rw[hks] at h0;simp at h0
     | cons a r=>simp
    have h1:=l5 k4 q hq;have hM:∀k∈(aG A i).kids.drop 1,mJ.all A k.toNat<=j8 (nL A i-nL A (iN (aG A i))):=λk hm=>aAx (ia k (aAX hm)) (fC (by have:=l5 k4 k hm;omega))
    refine aAx (FV (f:=λu=>mJ.of A (iN (aG A i)) u) (g:=λk=>mJ.all A k.toNat) _ _ hM) ?_;have hk0:=hk _ hkm;have h2:=PK h (i:=iN (aG A i)) (by unfold iN;omega) hg.srt hvv;have h3:=ia _ hkm;refine aAx (aAG _ (aAx h2 h3)) ?_;rw[vZ];exact fC (by unfold iN at h1 |-;omega)
  .exact pA _
end Go.Ax
namespace Go.Ax
open Go
variable{k:Nat}
theorem BB{V:Type}:∀(l:List V) (k n:Nat),(l.zipIdx n).take k=(l.take k).zipIdx n
 | [],k,n=>sq
 | a::l,0,n=>sq
 | a::l,k+1,n=>by rw[aBI,aBT,aBT,aBI,BB l k]
theorem m7{V β:Type}:∀(l:List V) (m:List β) (k:Nat),(l.zip m).take k=(l.take k).zip (m.take k)
 | [],m,k=>sq
 | a::l,[],k=>sq
 | a::l,b::m,0=>sq
 | a::l,b::m,k+1=>by rw[aA4,aBT,aBT,aBT,aA4,m7 l m k]
section
variable {T:Type} (g:Bd T)
def I8(x:Nd)(al:Nat->Option T)(k:Nat):Option T:=(x.kids.take k).foldl (λf k=>c8 g f (al k.toNat)) (some g.one)
def A7(x:Nd)(al:Nat->Option T)(k:Nat):Option T:=(x.kids.zipIdx.take k).foldl (XL g x al) none
def BM(x:Nd)(of:Nat->aQ->Option T)(al:Nat->Option T)(k:Nat):Option T:=((x.values.zip (x.kids.drop 1)).take k).foldl (YV g x of al) none
def NC(x:Nd)(of:Nat->aQ->Option T)(vs:List aQ)(k:Nat):Option T:=((x.kids.zip vs).take k).foldl (YM g of) (some g.one)
theorem KP{x:Nd}{al:Nat->Option T}(h:k<x.kids.length):I8 g x al (k+1)=c8 g (I8 g x al k) (al (x.kids[k]).toNat):=by
 unfold I8;rw[aAl h,List.foldl_append];rfl
theorem CE{x:Nd}{al:Nat->Option T}(h:k<x.kids.length):A7 g x al (k+1)=fX g (A7 g x al k) (c8 g (some (g.opt x k)) (al (x.kids[k]).toNat)):=by
 unfold A7;rw[aAl (su h),List.foldl_append];simp[XL]
theorem J1{x:Nd}(h:k<x.values.length)(hl:x.kids.length=x.values.length+1)(h1:k<(x.values.zip (x.kids.drop 1)).length):(x.values.zip (x.kids.drop 1))[k]=(x.values[k],x.kids[k+1]):=by
 rw[aCM];simp
theorem BJ{x:Nd}{of:Nat->aQ->Option T}{al:Nat->Option T}(h:k<x.values.length)(hl:x.kids.length=x.values.length+1):BM g x of al (k+1)=fX g (BM g x of al k) (c8 g (of (iN x) x.values[k]) (al (x.kids[k+1]).toNat)):=by
 have h1:k<(x.values.zip (x.kids.drop 1)).length:=by simp;omega
 unfold BM;rw[aAl h1,List.foldl_append,J1 h hl h1];rfl
theorem KC{x:Nd}{of:Nat->aQ->Option T}{vs:List aQ}(h:k<x.kids.length)(hl:vs.length=x.kids.length):NC g x of vs (k+1)=c8 g (NC g x of vs k) (of (x.kids[k]).toNat vs[k]):=by
 have h1:k<(x.kids.zip vs).length:=by simp;omega
 unfold NC;rw[aAl h1,List.foldl_append,aCM];rfl
theorem G9{A:List Nd}(h:VT A){i:Nat}(hi:i<A.length):(aZ g).all A i =
  if (aG A i).kind=1 then some (g.spn (aG A i)) else if (aG A i).kind=3 then I8 g (aG A i) ((aZ g).all A) (aG A i).kids.length
  else if (aG A i).kind=2 then A7 g (aG A i) ((aZ g).all A) (aG A i).kids.length else if (aG A i).kind=4 then BM g (aG A i) ((aZ g).of A) ((aZ g).all A) (aG A i).values.length else some g.one:=by
 rw[(aZ g).all_eq h hi]
 show v8 _ _ _ _=_
 have hx:=b9 hi;have hb:=(h.node hx).node.bind;unfold v8;generalize aG A i=x at *;split
 .rfl
 split
 .unfold I8;rw[aAD]
 split
 .unfold A7;rw[aAk sq]
 split
 .rename_i h4;unfold BM;rw[aAk (by have:=hb h4;simp;omega)]
 .rfl
theorem JL{A:List Nd}(h:VT A){i:Nat}(hi:i<A.length){v:aQ}(hv:bG v=0):(aZ g).of A i v =
  if (aG A i).kind=0 then(if cJ (aG A i).value v=0 then some g.one else none) else if (aG A i).kind=1 then(if yE (aG A i) v=true then some (g.opt (aG A i) (MQ v-(aG A i).lo).toNat) else none)
  else if (aG A i).kind=3 then(if jA (aG A i) v=true then NC g (aG A i) ((aZ g).of A) (jN v) (aG A i).kids.length else none)
  else if (aG A i).kind=2 then A7 g (aG A i) (λk=>(aZ g).of A k v) (aG A i).kids.length else if (aG A i).kind=4 then BM g (aG A i) ((aZ g).of A) (λk=>(aZ g).of A k v) (aG A i).values.length else none:=by
 rw[(aZ g).of_eq h hi]
 show qE _ _ _ _=_
 have hx:=b9 hi;have hb:=(h.node hx).node.bind;unfold qE;rw[aAe om];generalize aG A i=x at *;split
 .rfl
 split
 .rfl
 split
 .split
  .unfold NC;rw[aAk (by simp;omega)]
  .rfl
 split
 .unfold A7;rw[aAk sq]
 split
 .rename_i h4;unfold BM;rw[aAk (by have:=hb h4;simp;omega)]
 .rfl
end
def Yx(o:Option Nat):Prop:=∃n,n<=j8 256/\o=Z3 n
theorem Yx.none:Yx none:=⟨0,aAN _,rfl⟩
theorem Yx.one:Yx (some 1):=⟨1,pA _,rfl⟩
section
variable {A:List Nd} (h:VT A) {i:Nat} (hi:i<A.length)
include h hi
theorem rJ{k:Int}(hk:k∈(aG A i).kids):k.toNat<A.length:=by
 have:=eH h (b9 hi) hk;omega
end
end Go.Ax
namespace Go.Ax
open Go
variable{n i k B m d:Nat}{l:List aQ}
def n9(n:Nat):List UInt8:=if _h:n<128 then [UInt8.ofNat n] else UInt8.ofNat (128+n%128)::n9 (n/128)
termination_by n
def Pq(n:Int):Nat:=if n<0 then 2*(-(n+1)).toNat+1 else 2*n.toNat
def ZR(u:Nat):Int:=if u%2=1 then -((u/2:Nat):Int)-1 else((u/2:Nat):Int)
theorem vE(h:n<128):n9 n=[UInt8.ofNat n]:=by rw[n9,dif_pos h]
theorem GF(h:¬n<128):n9 n=UInt8.ofNat (128+n%128)::n9 (n/128):=by rw[n9,dif_neg h]
theorem Hh{n:Int}(h:i64 n):Pq n<18446744073709551616:=by
 unfold Pq;unfold i64 at h;split<;>omega
theorem T1(n:Int):ZR (Pq n)=n:=by
 unfold ZR Pq;split<;>split<;>omega
theorem J6:∀(k n:Nat),n<128 ^ (k+1)->(n9 n).length<=k+1
 | 0,n,h=>by rw[vE (su h)];simp
 | k+1,n,h=>by
  by_cases hn:n<128
  .rw[vE hn];simp
  .rw[GF hn];have:=J6 k (n/128) (by rw[aBW om];rw[aBF] at h;exact h);simp;omega
theorem rA(h:n<18446744073709551616):(n9 n).length<=10:=by
 refine J6 9 n ?_;have:(128:Nat) ^ (9+1)=1180591620717411303424:=by decide
 omega
def Vp:List UInt8->Nat->Nat->Sum Int (Nat × List UInt8)
 | [],_,_=>.inl 3
 | b::r,i,n=>if (i=9/\1<b.toNat)\/(0<i/\b.toNat=0) then .inl 2 else if b.toNat<128 then .inr (n+b.toNat*2 ^ (7*i),r) else Vp r (i+1) (n+(b.toNat-128)*2 ^ (7*i))
theorem RA:∀(u i n:Nat) (t:List UInt8),i<=9->u*2 ^ (7*i)<18446744073709551616->(i=0\/0<u)->Vp (n9 u++t) i n = .inr (n+u*2 ^ (7*i),t):=by
 intro u
 induction u using Nat.strongRecOn with
 | _ u ih=>
  intro i n t hi hu h0;have h9:i=9->u<=1:=by
   intro e;subst e;have:(2:Nat) ^ (7*9)=9223372036854775808:=by decide
   rw[this] at hu;omega
  by_cases hs:u<128
  .rw[vE hs];have e:(UInt8.ofNat u).toNat=u:=by simp;omega
   show Vp (UInt8.ofNat u::t) i n=_
   simp only[Vp,e];rw[aAe (by
    rintro(⟨h1,h2⟩|⟨h1,h2⟩)
    .have:=h9 h1;omega
    .omega),aAh hs]
  .rw[GF hs];have e:(UInt8.ofNat (128+u%128)).toNat=128+u%128:=by simp;omega
   show Vp (UInt8.ofNat (128+u%128)::(n9 (u/128)++t)) i n=_
   simp only[Vp,e];have hne:i≠9:=by intro h;have:=h9 h;omega
   have hp:(2:Nat) ^ (7*(i+1))=128*2 ^ (7*i):=by rw[show 7*(i+1)=7*i+7 by omega,Nat.pow_add];omega
   rw[aAe om,aAe om,ih (u/128) om (i+1) _ t om (by
    rw[hp,<-Nat.mul_assoc];refine aCm (aAG _ ?_) hu;omega) (.inr om)]
   congr 2;rw[hp,<-Nat.mul_assoc,show 128+u%128-128=u%128 by omega,Nat.add_assoc,<-Nat.add_mul];congr 2;omega
theorem Wa{u:Nat}(t:List UInt8)(h:u<18446744073709551616):Vp (n9 u++t) 0 0 = .inr (u,t):=by
 have:=RA u 0 0 t om (su h) (.inl rfl);simpa using this
abbrev Rd:=List UInt8 × Int
def wW(x:Rd):Nat × Rd:=if x.2=0 then(match Vp x.1 0 0 with | .inl e=>(0,(x.1,e)) | .inr (u,t)=>(u,(t,0))) else(0,x)
def oH(x:Rd):Int × Rd:=(ZR (wW x).1,(wW x).2)
def QT(x:Rd):Bool × Rd:=if x.2=0 then(match x.1 with
  | []=>(false,(x.1,3))
  | b::t=>if 1<b.toNat then(false,(x.1,2)) else(decide (b.toNat=1),(t,0))) else(false,x)
def MA(x:Rd):Nat × Rd:=if (wW x).2.2=0 then(if (wW x).2.1.length<(wW x).1 then(0,((wW x).2.1,3)) else((wW x).1,(wW x).2)) else(0,(wW x).2)
def NJ(x:Rd):List UInt8 × Rd:=((MA x).2.1.take (MA x).1,((MA x).2.1.drop (MA x).1,(MA x).2.2))
def g9(n:Int):List UInt8:=n9 (Pq n)
mutual
def fI:aQ->List UInt8
 | .mk k n s kids=>g9 k++(if k=0 then g9 n else if k=1 then [if n=1 then 1 else 0] else(if k=3 then n9 s.length++s else [])++(g9 kids.length++gV kids))
def gV:List aQ->List UInt8
 | []=>[]
 | v::r=>fI v++gV r
end
theorem B8:∀l m:List aQ,gV (l++m)=gV l++gV m
 | [],m=>by simp[gV]
 | v::r,m=>by simp[gV,B8 r m]
theorem L7(h:k<l.length):gV (l.take (k+1))=gV (l.take k)++fI l[k]:=by
 rw[aAl h,B8];simp[gV]
theorem rW{n:Int}(h:i64 n):(g9 n).length<=10:=rA (Hh h)
theorem Dw(h:n<=4611686018427387904):i64 (n:Int):=oq
mutual
theorem JQ:∀v:aQ,iO v->bT v=true->(fI v).length<=50*bF v
 | .mk k n s kids,ho,hf=>by
  simp only[iO] at ho;simp only[bT,aAd] at hf;have hl:=Cj kids ho.2.2.2.2 hf.2;have h1:=rW ho.1;have h2:=rW ho.2.1;have h3:=rW (Dw (n:=kids.length) om);simp only[bF,fI,aAA];have hf1:=hf.1;unfold dA at hf1;split
  .omega
  .split
   .simp;omega
   .rename_i k0 k1;rw[aAe k0,aAe k1] at hf1;simp only[aAA];have hs:(if k=3 then n9 s.length++s else []).length<=26:=by
     split
     .rename_i k3;subst k3;rw[aAe om,aAh rfl] at hf1;have:s.length<=16:=by
       rcases aAr 16 s.length with h|h
       .rw[nQ h] at hf1;simp at hf1
       .exact h
      have:=rA (n:=s.length) om;simp;omega
     .simp
    omega
theorem Cj:∀l:List aQ,tO l->c9 l=true->(gV l).length<=50*cA l
 | [],_,_=>by simp[gV]
 | v::r,ho,hf=>by
  simp only[tO] at ho;simp only[c9,aAd] at hf;have h1:=JQ v ho.1 hf.1;have h2:=Cj r ho.2 hf.2;simp only[gV,cA,aAA];omega
end
theorem Bx{n:Int}(h0:0<=n)(h1:n<18446744073709551616):IntKind.u64.wrap n=n:=by
 unfold IntKind.wrap;have e:(2 ^ IntKind.u64.bits:Int)=18446744073709551616:=by decide
 have s:IntKind.u64.signed=false:=rfl;simp only[e,s,aBK];exact Int.emod_eq_of_lt h0 h1
theorem eJ(n:Int):IntKind.u64.wrap n=n%18446744073709551616:=by
 unfold IntKind.wrap;have e:(2 ^ IntKind.u64.bits:Int)=18446744073709551616:=by decide
 have s:IntKind.u64.signed=false:=rfl;simp only[e,s,aBK];rfl
theorem DK(n:Int):IntKind.u8.wrap n=n%256:=by
 unfold IntKind.wrap;have e:(2 ^ IntKind.u8.bits:Int)=256:=by decide
 have s:IntKind.u8.signed=false:=rfl;simp only[e,s,aBK];rfl
theorem DH:(2:Nat) ^ 64=18446744073709551616:=by decide
theorem Y2(a:Nat):(BitVec.ofInt 64 (a:Int)).toNat=a%18446744073709551616:=by
 rw[BitVec.ofInt_natCast,BitVec.toNat_ofNat]
theorem R7{a:Nat}(h:a<18446744073709551616):a ^^^ 18446744073709551615=18446744073709551615-a:=by
 have h1:(BitVec.ofNat 64 a ^^^ BitVec.allOnes 64).toNat=18446744073709551615-a:=by
  rw[BitVec.xor_allOnes,BitVec.toNat_not,BitVec.toNat_ofNat,DH,aBb h]
 rw[BitVec.toNat_xor,BitVec.toNat_ofNat,DH,aBb h] at h1;have h2:(BitVec.allOnes 64).toNat=18446744073709551615:=by decide
 rw[h2] at h1;exact h1
theorem Ru{a b:Nat}(ha:a<18446744073709551616)(hb:b<18446744073709551616):a ^^^ b<18446744073709551616:=by
 have:=Nat.xor_lt_two_pow (n:=64) (x:=a) (y:=b) (by rw[DH];exact ha) (by rw[DH];exact hb)
 rwa [DH] at this
theorem Uw{a b:Nat}(ha:a<18446744073709551616)(hb:b<18446744073709551616):a ||| b<18446744073709551616:=by
 have:=Nat.or_lt_two_pow (n:=64) (x:=a) (y:=b) (by rw[DH];exact ha) (by rw[DH];exact hb)
 rwa [DH] at this
theorem K3{a b:Nat}(ha:a<18446744073709551616)(hb:b<18446744073709551616):bits .xor .u64 (a:Int) (b:Int)=((a ^^^ b:Nat):Int):=by
 show IntKind.u64.wrap ((BitVec.ofInt 64 (a:Int) ^^^ BitVec.ofInt 64 (b:Int)).toNat:Int)=_
 rw[BitVec.toNat_xor,Y2,Y2,aBb ha,aBb hb,Bx om (by have:=Ru ha hb;omega)]
theorem TZ{a b:Nat}(ha:a<18446744073709551616)(hb:b<18446744073709551616):bits .or .u64 (a:Int) (b:Int)=((a ||| b:Nat):Int):=by
 show IntKind.u64.wrap ((BitVec.ofInt 64 (a:Int) ||| BitVec.ofInt 64 (b:Int)).toNat:Int)=_
 rw[BitVec.toNat_or,Y2,Y2,aBb ha,aBb hb,Bx om (by have:=Uw ha hb;omega)]
theorem RJ{n:Int}(h:i64 n):bits .xor .u64 (IntKind.u64.wrap (IntKind.u64.wrap n*2 ^ (min (1:Int).toNat IntKind.u64.bits))) (IntKind.u64.wrap (n.fdiv (2 ^ (min (63:Int).toNat IntKind.i64.bits))))=(Pq n:Int):=by
 have e1:min (1:Int).toNat IntKind.u64.bits=1:=by decide
 have e2:min (63:Int).toNat IntKind.i64.bits=63:=by decide
 have hz:=Hh h;rw[e1,e2];unfold i64 at h;by_cases hn:n<0
 .have a:n.fdiv (2 ^ 63) = -1:=by
   rw[aCa _ (by decide)];omega
  have b:IntKind.u64.wrap (-1)=((18446744073709551615:Nat):Int):=by rw[eJ];decide
  have c:IntKind.u64.wrap (IntKind.u64.wrap n*2 ^ 1)=((18446744073709551616+2*n).toNat:Int):=by
   rw[eJ,eJ];omega
  rw[a,b,c,K3 om om,R7 om];have z:Pq n=2*(-(n+1)).toNat+1:=by unfold Pq;rw[aAh hn]
  rw[z];omega
 .have a:n.fdiv (2 ^ 63)=0:=by
   rw[aCa _ (by decide)];omega
  have b:IntKind.u64.wrap 0=((0:Nat):Int):=by rw[eJ];decide
  have c:IntKind.u64.wrap (IntKind.u64.wrap n*2 ^ 1)=((2*n.toNat:Nat):Int):=by
   rw[eJ,eJ];omega
  rw[a,b,c,K3 om om,Nat.xor_zero];have z:Pq n=2*n.toNat:=by unfold Pq;rw[aAe hn]
  rw[z]
theorem PV(n:Nat):bits .or .u8 (IntKind.u8.wrap (n:Int)) 128=((UInt8.ofNat (128+n%128)).toNat:Int):=by
 have h:∀b:Fin 256,bits .or .u8 (b.val:Int) 128=((128+b.val%128:Nat):Int):=by decide +kernel
 have e:IntKind.u8.wrap (n:Int)=((n%256:Nat):Int):=by rw[DK];omega
 have:=h ⟨n%256,om⟩;simp only at this;rw[e,this];have e2:(UInt8.ofNat (128+n%128)).toNat=128+n%128:=by simp;omega
 rw[e2];omega
theorem N0(h:n<128):IntKind.u8.wrap (n:Int)=((UInt8.ofNat n).toNat:Int):=by
 rw[DK];have e2:(UInt8.ofNat n).toNat=n:=by simp;omega
 rw[e2];omega
theorem ZE(n:Nat):(n:Int).fdiv (2 ^ (min (7:Int).toNat IntKind.u64.bits))=((n/128:Nat):Int):=by
 have e1:min (7:Int).toNat IntKind.u64.bits=7:=by decide
 rw[e1,aCa _ (by decide)];omega
def dg(B n:Nat):List Nat:=if h:n=0\/B<2 then [] else n%B::dg B (n/B)
termination_by n
decreasing_by
 have:=not_or.1 h;exact aCz om om
def vl(B:Nat):List Nat->Nat
 | []=>0
 | d::r=>d+B*vl B r
def fY:List Nat->List Nat
 | []=>[]
 | d::r=>if d=0/\fY r=[] then [] else d::fY r
theorem fL(B:Nat):dg B 0=[]:=by rw[dg];simp
theorem p5(hB:2<=B)(hn:0<n):dg B n=n%B::dg B (n/B):=by
 rw[dg,dif_neg om]
theorem gO(hB:2<=B)(n:Nat):vl B (dg B n)=n:=by
 induction n using Nat.strongRecOn with
 | ind n ih=>
  rcases aAz n with rfl|hn
  .rw[fL];rfl
  .rw[p5 hB hn,vl,ih _ (aCz hn om)];exact aCA n B
theorem fZ(hB:2<=B)(n:Nat):∀d∈dg B n,d<B:=by
 induction n using Nat.strongRecOn with
 | ind n ih=>
  rcases aAz n with rfl|hn
  .rw[fL];simp
  .rw[p5 hB hn];intro d hd;rcases aAj.1 hd with rfl|hd
   .exact aBt _ om
   .exact ih _ (aCz hn om) d hd
theorem Hl(hB:2<=B):dg B n=[]↔n=0:=by
 constructor
 .intro h;rcases aAz n with e|hn
  .exact e
  .rw[p5 hB hn] at h;cases h
 .rintro rfl;exact fL B
theorem Nf(hB:2<=B)(hd:d<B)(h:0<d+B*m):dg B (d+B*m)=d::dg B m:=by
 rw[p5 hB h,Nat.add_mul_mod_self_left,aBb hd,Nat.add_mul_div_left _ _ om,aCj hd,aAF]
theorem lD{B:Nat}(hB:2<=B):∀l:List Nat,(∀d∈l,d<B)->fY l=dg B (vl B l)
 | [],_=>by rw[vl,fL];rfl
 | d::r,h=>by
  have ih:=lD hB r λx hx=>h x (by simp[hx])
  have hd:=h d sq;rw[fY,vl,ih];by_cases e:d=0/\dg B (vl B r)=[]
  .rw[aAh e,e.1,(Hl hB).1 e.2];simp[fL]
  .rw[aAe e,Nf hB hd];rcases aAz d with h0|h0
   .have hv:vl B r≠0:=λhv=>e ⟨h0,by rw[hv,fL]⟩
    have:=aCd (show 0<B by omega) (Nat.pos_of_ne_zero hv);omega
   .omega
theorem Es{B:Nat}(hB:2<=B):∀l:List Nat,(∀d∈l,d<B)->vl B l<B ^ l.length
 | [],_=>by simp[vl]
 | d::r,h=>by
  have ih:=Es hB r λx hx=>h x (by simp[hx])
  have hd:=h d sq;rw[vl,aAH,aBF,aBg _ B];have:B*(vl B r+1)<=B*B ^ r.length:=aBS _ ih;rw[Nat.mul_add] at this;omega
theorem mR(B:Nat):∀l m:List Nat,vl B (l++m)=vl B l+B ^ l.length*vl B m
 | [],m=>by simp[vl]
 | d::r,m=>by
  rw[aBc,vl,mR B r m,vl,aAH,aBF,Nat.mul_add,aBg (B ^ r.length) B,Nat.mul_assoc];omega
theorem kT(hB:2<=B):n<B ^ (dg B n).length:=by
 have:=Es hB _ (fZ hB n)
 rwa [gO hB] at this
theorem J2(hB:2<=B)(n:Nat):0<n->B ^ ((dg B n).length-1)<=n:=by
 induction n using Nat.strongRecOn with
 | ind n ih=>
  intro hn;rw[p5 hB hn,aAH,Nat.add_sub_cancel];rcases aAz (n/B) with e|e
  .rw[e,fL,aBC,Nat.pow_zero];exact hn
  .have h1:=ih _ (aCz hn om) e;have h2:0<(dg B (n/B)).length:=by
    rcases aAz (dg B (n/B)).length with h|h
    .have:=(Hl hB).1 (aAB h);omega
    .exact h
   have h3:B ^ (dg B (n/B)).length=B*B ^ ((dg B (n/B)).length-1):=by
    rw[<-Nat.pow_succ'];congr 1;omega
   rw[h3];exact aAx (aBS B h1) (Nat.mul_div_le n B)
theorem iR(hB:2<=B)(h:n<B ^ k):(dg B n).length<=k:=by
 rcases aAz n with rfl|hn
 .rw[fL];simp
 .have h1:=J2 hB n hn;rcases aAr k (dg B n).length with h2|h2
  .have:B ^ k<=B ^ ((dg B n).length-1):=aBf om om;omega
  .exact h2
theorem Li(hB:2<=B):(dg B n).length<=k↔n<B ^ k:=by
 constructor
 .intro h;exact aB9 (kT hB) (aBf om h)
 .exact iR hB
theorem fJ(hB:2<=B)(h:n<=m):(dg B n).length<=(dg B m).length:=
 iR hB (aCm h (kT hB))
theorem BD(B:Nat)(l:List Nat)(d:Nat):vl B (l++[d])=vl B l+B ^ l.length*d:=by
 rw[mR];simp[vl]
theorem CM{l:List Nat}(h:l[i]? = some d):l.take (i+1)=l.take i++[d]:=by
 rw[List.take_add_one,h];rfl
theorem jZ{l:List Nat}(h:l[i]? = some d):vl B (l.take (i+1))=vl B (l.take i)+B ^ i*d:=by
 have hl:=(aAg.1 h).1;rw[CM h,BD,aAR,aBN om]
theorem GV{l:List Nat}(h:l.length<=i):l.take (i+1)=l.take i:=by
 rw[aAk h,aAk om]
theorem wH(hB:2<=B){s:List Nat}{va vb x y c:Nat}(hs:s.length=i)(h:vl B s+B ^ i*c=va+vb):
  vl B (s++[(c+(x+y))%B])+B ^ (i+1)*((c+(x+y))/B)=(va+B ^ i*x)+(vb+B ^ i*y):=by
 rw[BD,hs,aBF,Nat.mul_assoc];have h2:B ^ i*((c+(x+y))%B)+B ^ i*(B*((c+(x+y))/B))=B ^ i*(c+(x+y)):=by
  rw[<-Nat.mul_add,aCA]
 rw[Nat.mul_add,Nat.mul_add] at h2;omega
theorem E8{s:List Nat}{va vb x y b:Nat}(hs:s.length=i)(h:vl B s+vb=va+B ^ i*b)(hx:x<B)(hy:y<B)(hb:b<=1):
  vl B (s++[if y+b>x then x+B-(y+b) else x-(y+b)])+(vb+B ^ i*y)=(va+B ^ i*x)+B ^ (i+1)*(if y+b>x then 1 else 0):=by
 rw[BD,hs,aBF];split
 .have e:B ^ i*(x+B-(y+b))+B ^ i*(y+b)=B ^ i*x+B ^ i*B*1:=by rw[<-Nat.mul_add,aDf,<-Nat.mul_add];congr 1;omega
  rw[Nat.mul_add (B ^ i) y b] at e;omega
 .have e:B ^ i*(x-(y+b))+B ^ i*(y+b)=B ^ i*x:=by rw[<-Nat.mul_add];congr 1;omega
  rw[Nat.mul_add (B ^ i) y b] at e;omega
theorem C1{x y b:Nat}(hx:x<B)(hy:y<B)(hb:b<=1):(if y+b>x then x+B-(y+b) else x-(y+b))<B:=by
 split<;>omega
theorem IW(B:Nat):∀(l:List Nat) (k d e:Nat),l[k]? = some e->vl B (l.set k d)+B ^ k*e=vl B l+B ^ k*d
 | [],k,d,e,h=>by cases h
 | a::r,0,d,e,h=>by
  cases h;simp only[aCD,vl,Nat.pow_zero,aBq];omega
 | a::r,k+1,d,e,h=>by
  have ih:=IW B r k d e h;simp only[List.set_cons_succ,vl,aBF,aBg (B ^ k) B,Nat.mul_assoc];have h2:B*(vl B (r.set k d))+B*(B ^ k*e)=B*vl B r+B*(B ^ k*d):=by rw[<-Nat.mul_add,ih,Nat.mul_add]
  omega
theorem IB{l:List Nat}(hl:∀x∈l,x<B)(hd:d<B):∀x∈l.set k d,x<B:=λx hx=>by
 rcases aC6 hx with h|h
 .exact hl x h
 .rw[h];exact hd
theorem Ji{P:List Nat}{ag x y c p w:Nat}(hp:P[k]? = some p)(h:vl B P+B ^ k*c=ag+x*w):
  vl B (P.set k ((c+(x*y+p))%B))+B ^ (k+1)*((c+(x*y+p))/B)=ag+x*(w+B ^ k*y):=by
 have h1:=IW B P k ((c+(x*y+p))%B) p hp;have h2:B ^ k*((c+(x*y+p))%B)+B ^ k*(B*((c+(x*y+p))/B))=B ^ k*(c+(x*y+p)):=by
  rw[<-Nat.mul_add,aCA]
 have h3:x*(B ^ k*y)=B ^ k*(x*y):=by rw[aCI]
 rw[aBF,Nat.mul_assoc,Nat.mul_add,h3];rw[Nat.mul_add,Nat.mul_add (B ^ k) (x*y) p] at h2;omega
theorem P7(hB:0<B){Q r x:Nat}(hd:0<d){ag:Nat}(h:ag=Q*d+r)(hr:r<d):
  x+B*ag=(((r*B+x)/d)+B*Q)*d+(r*B+x)%d/\(r*B+x)%d<d/\(x<B->(r*B+x)/d<B):=by
 refine⟨?_,aBt _ hd,λhx=>?_⟩
 .have e:=aCx (r*B+x) d;rw[h,Nat.add_mul,Nat.mul_add,aBg ((r*B+x)/d) d,Nat.mul_assoc,aBg B r];omega
 .rw[aBW hd];have:(r+1)*B<=d*B:=aAG _ hr;rw[Nat.add_mul,aBq,aBg d B] at this;omega
theorem qL{l:List Nat}(h:l[i]? = some d):vl B (l.drop i)=d+B*vl B (l.drop (i+1)):=by
 obtain⟨h1,h2⟩:=aAg.1 h;rw[List.drop_eq_getElem_cons h1,vl,h2]
theorem qP{a b:List Nat}{x y:Nat}(ha:∀d∈a,d<B)(hB:2<=B)(hab:a.drop (i+1)=b.drop (i+1))(hx:a[i]? = some x)(hy:b[i]? = some y)(h:x<y)(hl:a.length=b.length):vl B a<vl B b:=by
 have ea:a=a.take i++a.drop i:=(List.take_append_drop i a).symm;have eb:b=b.take i++b.drop i:=(List.take_append_drop i b).symm;have hia:=(aAg.1 hx).1;have la:(a.take i).length=i:=by rw[aAR];omega
 have lb:(b.take i).length=i:=by rw[aAR];omega
 have h1:=Es hB (a.take i) λd hd=>ha d (aAI hd)
 rw[la] at h1;have va:vl B a=vl B (a.take i)+B ^ i*(x+B*vl B (a.drop (i+1))):=by
  conv=>lhs;rw[ea]
  rw[mR,la,qL hx]
 have vb:vl B b=vl B (b.take i)+B ^ i*(y+B*vl B (a.drop (i+1))):=by
  conv=>lhs;rw[eb]
  rw[mR,lb,qL hy,hab]
 have h2:B ^ i*(x+1+B*vl B (a.drop (i+1)))<=B ^ i*(y+B*vl B (a.drop (i+1))):=aBS _ om;have h3:B ^ i*(x+1+B*vl B (a.drop (i+1)))=B ^ i*(x+B*vl B (a.drop (i+1)))+B ^ i:=by
  rw[show x+1+B*vl B (a.drop (i+1))=(x+B*vl B (a.drop (i+1)))+1 by omega,Nat.mul_add,aDf]
 omega
theorem qX(hB:2<=B)(h:(dg B n).length<(dg B m).length):n<m:=by
 rcases aAr n m with h1|h1
 .exact h1
 .have:=fJ hB h1;omega
end Go.Ax
namespace Go.Ax
open Go
structure Zy(B L U v U3 v2 top lead next u:Nat):Prop where
 b2:2<=B
 l0:0<L
 u1:U3*L<=U
 u2:U<(U3+1)*L
 w1:v2*L<=v
 w2:v<(v2+1)*L
 u3:U3=top*B+u
 v3:v2=lead*B+next
 uB:u<B
 nB:next<B
 lB:lead<B
 half:B<=2*lead
 less:U<v*B
section
variable {B L U v U3 v2 top lead next u:Nat} (h:Zy B L U v U3 v2 top lead next u)
include h
structure Z4(B U v top lead d r:Nat):Prop where
 eq:d*lead+r=top
 up:U<(d+1)*v
 hi:d<=B+1
 rB:r<B
end
theorem JC{U v d:Nat}(up:U<(d+1)*v)(h:d*v<=U):U/v=d/\U%v=U-d*v:=by
 have hv:0<v:=by
  rcases aAz v with rfl|hv
  .simp at up
  .exact hv
 have e:U=d*v+(U-d*v):=om;have hr:U-d*v<v:=by rw[Nat.add_mul,aBq] at up;omega
 constructor
 .generalize U-d*v=w at e hr;rw[e,aBg d v,Nat.mul_add_div hv,aCj hr];rfl
 .generalize U-d*v=w at e hr |-;rw[e,aBg d v,Nat.mul_add_mod,aBb hr]
end Go.Ax
namespace Go.Ax
open Go
def mI(a b:Int):Int:=if a<b then -1 else if b<a then 1 else 0
theorem Qe(a b:Nat):Nat.gcd b (a%b)=Nat.gcd a b:=by rw[Nat.gcd_comm b,<-Nat.gcd_rec,Nat.gcd_comm]
def zO:Nat->Nat->List UInt8
 | 0,_=>[]
 | k+1,r=>zO k (r/10)++[UInt8.ofNat (48+r%10)]
theorem x6:∀k r,(zO k r).length=k
 | 0,_=>rfl
 | k+1,r=>by rw[zO,aAA,x6 k];rfl
theorem zI{n:Nat}(h:10<=n):Lib.decDigits n=Lib.decDigits (n/10)++[UInt8.ofNat (48+n%10)]:=by
 rw[Lib.decDigits,dif_neg om]
theorem AS:∀(k q r:Nat),0<q->r<10 ^ k->Lib.decDigits (r+10 ^ k*q)=Lib.decDigits q++zO k r
 | 0,q,r,hq,hr=>by
  have:r=0:=su hr
  subst this;simp[zO]
 | k+1,q,r,hq,hr=>by
  have hp:0<10 ^ k:=Nat.pow_pos om;have e:10 ^ (k+1)*q=10*(10 ^ k*q):=by rw[aBF,aBg (10 ^ k) 10,Nat.mul_assoc]
  have h1:1<=10 ^ k*q:=aCd hp hq;rw[zI om,e,zO,<-List.append_assoc,show (r+10*(10 ^ k*q))/10=r/10+10 ^ k*q by omega,show (r+10*(10 ^ k*q))%10=r%10 by omega];rw[AS k q (r/10) hq (by rw[aBF] at hr;omega)]
theorem uE:∀(k r:Nat),r<10 ^ k->0<k->(Lib.decDigits r).length<=k
 | 0,r,_,h=>om
 | k+1,r,hr,_=>by
  by_cases h:r<10
  .rw[Lib.decDigits_one h];simp
  .rw[zI om,aAA];have hk:0<k:=by
    rcases aAz k with rfl|hk
    .simp at hr;omega
    .exact hk
   have:=uE k (r/10) (by rw[aBF] at hr;omega) hk;simp;omega
theorem Gh:∀k,zO k 0=List.replicate k 48
 | 0=>rfl
 | k+1=>by rw[zO,show 0/10=0 by rfl,Gh k,aCQ];rfl
theorem H1:∀(k r:Nat),r<10 ^ k->0<k->zO k r=List.replicate (k-(Lib.decDigits r).length) 48++Lib.decDigits r
 | 0,r,_,h=>om
 | k+1,r,hr,_=>by
  rw[zO];by_cases h:r<10
  .rw[Lib.decDigits_one h,aCj h,Gh,aBb h];simp
  .have hk:0<k:=by
    rcases aAz k with rfl|hk
    .simp at hr;omega
    .exact hk
   have hr2:r/10<10 ^ k:=by rw[aBF] at hr;omega
   have hl:=uE k (r/10) hr2 hk;rw[zI om,H1 k (r/10) hr2 hk,aAA,List.append_assoc];congr 2;simp
def Bf(k:Nat):List Nat->List UInt8
 | []=>[]
 | d::r=>if r=[] then Lib.decDigits d else Bf k r++zO k d
theorem Tt{k:Nat}(hk:0<k)(n:Nat)(hn:0<n):Bf k (dg (10 ^ k) n)=Lib.decDigits n:=by
 have hB:2<=10 ^ k:=by
  obtain⟨j,rfl⟩:∃j,k=j+1:=⟨k-1,om⟩
  have:0<10 ^ j:=Nat.pow_pos om;rw[aBF];omega
 induction n using Nat.strongRecOn with
 | ind n ih=>
  rw[p5 hB hn,Bf];rcases aAz (n/10 ^ k) with e|e
  .have hlt:n<10 ^ k:=by
    rcases aAr n (10 ^ k) with h|h
    .exact h
    .have:=Nat.div_pos h om;omega
   rw[e,fL,aAh rfl,aBb hlt]
  .rw[aAe (λh=>by have:=(Hl hB).1 h;omega),ih _ (aCz hn om) e,<-AS k _ _ e (aBt _ om),aCA]
def LP(z:Int):List UInt8:=Lib.itoa z
end Go.Ax
namespace Go.Ax
open Go
variable{n k B m d:Nat}{z:Int}
theorem Z5:2<=4294967296:=by decide
abbrev nW(n:Nat):Nat:=(dg 4294967296 n).length
theorem H0(hB:2<=B)(x y:Nat):(dg B (x+y)).length<=max (dg B x).length (dg B y).length+1:=by
 refine iR hB ?_;have h1:=kT (n:=x) hB;have h2:=kT (n:=y) hB;generalize (dg B x).length=a at *;generalize (dg B y).length=b at *;have h3:B ^ a<=B ^ max a b:=aBf om om;have h4:B ^ b<=B ^ max a b:=aBf om om;have h5:B ^ max a b*2<=B ^ max a b*B:=aBS _ hB;rw[aBF];omega
theorem Dz(hB:2<=B)(x y:Nat):(dg B (x*y)).length<=(dg B x).length+(dg B y).length:=by
 refine iR hB ?_;have h1:=kT (n:=x) hB;have h2:=kT (n:=y) hB;rw[Nat.pow_add];exact Nat.mul_lt_mul'' h1 h2
theorem BX(hB:2<=B)(x y:Nat):(dg B (x-y)).length<=(dg B x).length:=fJ hB (Nat.sub_le _ _)
theorem Mq(hB:2<=B)(x y:Nat):(dg B (x/y)).length<=(dg B x).length:=fJ hB (aCT _ _)
theorem Nr(hB:2<=B)(x y:Nat):(dg B (x%y)).length<=(dg B x).length:=fJ hB (Nat.mod_le _ _)
theorem UK(hB:2<=B)(x y:Nat):(dg B (Nat.gcd x y)).length<=max (dg B x).length (dg B y).length:=by
 rcases aAz x with rfl|h
 .rw[Nat.gcd_zero_left];omega
 .have:=fJ hB (Nat.gcd_le_left y h);omega
theorem Hb(hB:2<=B)(h:n<B):(dg B n).length<=1:=iR hB (by rw[Nat.pow_one];exact h)
def bR(l:List Nat):List AV:=l.map λ(d:Nat)=>.int .u32 (d:Int)
def bO(l:List Nat):List AV:=l.map λ(d:Nat)=>.int .i64 (d:Int)
theorem aX(l:List Nat):(bR l).length=l.length:=by simp[bR]
theorem aS(l:List Nat):(bO l).length=l.length:=by simp[bO]
theorem bD(l:List Nat):kZ (bR l):=λa ha=>by
 obtain⟨n,_,rfl⟩:=aAE.1 ha;exact .int _ _
theorem fE(l:List Nat):kZ (bO l):=λa ha=>by
 obtain⟨n,_,rfl⟩:=aAE.1 ha;exact .int _ _
theorem SC(l:List Nat)(i:Nat):(bR l)[i]? = (l[i]?).map λ(d:Nat)=>AV.int .u32 (d:Int):=by rw[bR,aAK]
theorem QP(l:List Nat)(i:Nat):(bO l)[i]? = (l[i]?).map λ(d:Nat)=>AV.int .i64 (d:Int):=by rw[bO,aAK]
theorem tQ(l:List Nat)(i d:Nat):(bR l).set i (.int .u32 (d:Int))=bR (l.set i d):=by unfold bR;rw[aCs]
theorem Fm(l:List Nat)(i d:Nat):(bO l).set i (.int .i64 (d:Int))=bO (l.set i d):=by unfold bO;rw[aCs]
theorem Ro(l m:List Nat):bO (l++m)=bO l++bO m:=by simp[bO]
theorem E9(n:Nat):bR (List.replicate n 0)=List.replicate n (.int .u32 0):=by simp[bR]
theorem EQ(n:Nat):bO (List.replicate n 0)=List.replicate n (.int .i64 0):=by simp[bO]
def mM(z:Int):AV:=.agg [.bool (decide (z<0)),.il 1 (bR (dg 4294967296 z.natAbs))]
def eQ(z:Int):AV:=.agg [.bool (decide (z<0)),.il 1 (bO (dg 10000 z.natAbs))]
theorem Bk(z:Int):NN (mM z):=.agg' (.cons (.bool _) (.cons (.il' (bD _)) .nil))
theorem Iv(z:Int):NN (eQ z):=.agg' (.cons (.bool _) (.cons (.il' (fE _)) .nil))
theorem Jw(n:Int):IntKind.u32.wrap n=n%4294967296:=by
 unfold IntKind.wrap;simp[IntKind.bits,IntKind.signed]
def g6(s:List Nat)(n:Nat):List Nat:=s++List.replicate (n-s.length) 0
theorem mW{s:List Nat}(h:s.length<=n):(g6 s n).length=n:=by simp[g6];omega
theorem QI{s:List Nat}(h:s.length<n):(g6 s n)[s.length]? = some 0:=by
 unfold g6;rw[aAW (aAp _),aCZ,aBr,aAh om]
theorem QX{s:List Nat}(h:s.length<n):(g6 s n).set s.length d=g6 (s++[d]) n:=by
 unfold g6;obtain⟨m,hm⟩:∃m,n-s.length=m+1:=⟨n-s.length-1,om⟩
 rw[aCo _ _ (aAp _),aCZ,hm,aA6,aCD,aAA,aA7,show n-(s.length+1)=m by omega];simp
theorem Ba(B n:Nat):vl B (List.replicate n 0)=0:=by
 induction n with
 | zero=>rfl
 | succ n ih=>rw[aA6,vl,ih];simp
theorem Np(B:Nat)(s:List Nat)(n:Nat):vl B (g6 s n)=vl B s:=by unfold g6;rw[mR,Ba];simp
def Je:Nat:=2 ^ 16384
theorem V4(h:Je=2 ^ n)(e:n=m*k):Je=(2 ^ m) ^ k:=by rw[h,e,Nat.pow_mul]
theorem Mb:Je=2 ^ 16384:=by delta Je;exact Eq.refl _
theorem Pc(hk:16384=32*k):Je=(2 ^ 32) ^ k:=V4 Mb hk
def pK(z:Int):Bool:=decide (z.natAbs<Je)
theorem Vy(h:Je=(2 ^ 32) ^ n):pK z=decide (nW z.natAbs<=n):=by
 unfold pK;rw[aA2,h,show (2:Nat) ^ 32=4294967296 from rfl];exact(Li Z5).symm
theorem TE(hk:16384=32*k):pK z=decide (nW z.natAbs<=k):=Vy (Pc hk)
theorem Fk{z:Int}:pK z=decide (nW z.natAbs<=512):=TE rfl
theorem Tw(h:pK z=true):nW z.natAbs<=512:=by rw[Fk] at h;simpa using h
structure Fr where
 p:Int
 q:Nat
def Fr.den(a:Fr):Nat:=if a.q=0 then 1 else a.q
def NT(p q:Int):Fr:=⟨(if q<0 then -p else p)/(Nat.gcd p.natAbs q.natAbs:Int),q.natAbs/Nat.gcd p.natAbs q.natAbs⟩
structure Z9(a:Fr):Prop where
 pos:0<a.q
 cop:Nat.Coprime a.p.natAbs a.q
def zF:Fr:=⟨0,1⟩
def ZF(a:Fr):Fr × Int:=if pK a.p=true/\pK a.q=true then(a,0) else(zF,4)
def ZI(a b:Fr):Fr × Int:=ZF (NT (a.p*b.p) (a.q*b.q))
def ZS(a b:Fr):Fr × Int:=
 let g:=Nat.gcd a.q b.q
 let s:=b.q/g
 let q:=a.q/g
 if pK (a.p*s)=true/\pK (b.p*q)=true/\pK (q*b.q)=true/\pK (a.p*s+b.p*q)=true then(NT (a.p*s+b.p*q) (q*b.q),0) else(zF,4)
theorem Mx(B:Nat)(l:List Nat)(i:Nat)(hi:i<=l.length):vl B l=vl B (l.take i)+B ^ i*vl B (l.drop i):=by
 conv=>lhs;rw[<-List.take_append_drop i l]
 rw[mR,aAR,aBN hi]
theorem L8{L r b U ag:Nat}(hL:0<L)(h1:U*L<=r)(h2:r<(U+1)*L)(h3:ag*L<=b)(h4:b<(ag+1)*L)(hV:0<ag):U/(ag+1)<=r/b/\r/b<=U/ag:=by
 have hb:0<b:=by
  have:1*L<=ag*L:=aAG _ hV;omega
 constructor
 .rw[aCb hb];have e:=aCU U (ag+1);have h5:U/(ag+1)*b<=U/(ag+1)*((ag+1)*L):=aBS _ om;have h6:U/(ag+1)*(ag+1)*L<=U*L:=aAG _ e;rw[Nat.mul_assoc] at h6;omega
 .rw[aCb hV];have e:=aCU r b;have h5:r/b*(ag*L)<=r/b*b:=aBS _ h3;have h6:r/b*ag*L<(U+1)*L:=by rw[Nat.mul_assoc];omega
  have:=Nat.lt_of_mul_lt_mul_right h6;omega
theorem Nz{b x ag Q r:Nat}(hb:0<b)(h:ag=Q*b+r)(hr:r<b)(hx:x<B):
  x+B*ag=((x+B*r)/b+B*Q)*b+(x+B*r)%b/\(x+B*r)%b<b/\x+B*r<b*B:=by
 have e:=aCx (x+B*r) b;refine⟨?_,aBt _ hb, ?_⟩
 .rw[h,Nat.add_mul,Nat.mul_add,aBg ((x+B*r)/b) b,Nat.mul_assoc];omega
 .have:(r+1)*B<=b*B:=aAG _ hr;rw[Nat.add_mul,aBq,aBg r B] at this;omega
theorem Ws{x y:Nat}(h1:2 ^ k ∣ x)(h2:y<2 ^ k):x ||| y=x+y:=by
 obtain⟨a,rfl⟩:=h1;rw[aBg,<-Nat.shiftLeft_eq,<-Nat.shiftLeft_add_eq_or_of_lt h2]
end Go.Ax
namespace Go.Ax
section
variable {hit miss up lo low claim:Rat}
end
end Go.Ax
namespace Go.Ax
open Go
variable{n m:Nat}{z:Int}
def Sl(a:Fr):Rat:=(a.p:Rat)/((a.q:Int):Rat)
structure Sz(n:Nat)(a:Fr):Prop where
 num:a.p.natAbs<=2 ^ n
 pos:0<a.q
 den:a.q<=2 ^ n
theorem WT(hm:Je=2 ^ m)(h:z.natAbs<=2 ^ n)(hn:n<m):pK z=true:=by
 unfold pK;rw[hm];exact aAn (aCm h (Nat.pow_lt_pow_right om hn))
theorem TB(h:z.natAbs<=2 ^ n)(hn:n<16384):pK z=true:=WT Mb h hn
theorem Sz.mono{a:Fr}(h:Sz n a)(hm:n<=m):Sz m a:=
 ⟨aAx h.num (aBf om hm),h.pos,aAx h.den (aBf om hm)⟩
def ZD:Fr:=⟨1,1⟩
structure Zj where
 hit:Fr
 miss:Fr
 upper:Fr
 lower:Fr
 ratio:Fr
 verdict:Nat
 runs:Nat
 hits:Nat
structure YU(n:Nat)(t:Zj):Prop where
 hit:Sz 12 t.hit
 miss:Sz 12 t.miss
 up:0<t.upper.q
 lo:0<t.lower.q
 ratio:Sz n t.ratio
structure Zq(claim low alpha beta:Rat)(T:Zj):Prop where
 sz:YU 0 T
 ver:T.verdict=0
 rat:T.ratio=ZD
 low0:0<low
 lowc:low<claim
 clm:claim<=1
 alp:0<alpha
 bet:0<beta
 sum:alpha+beta<1
 hit:Sl T.hit*low=claim
 miss:Sl T.miss*(1-low)=1-claim
 up:Sl T.upper*alpha=1-beta
 lo:Sl T.lower*(1-alpha)=beta
theorem Xz(n:Nat):IntKind.u32.wrap (n:Int)=((n%4294967296:Nat):Int):=by
 rw[Jw,Int.natCast_emod];rfl
theorem Pf(h:n<4294967296):IntKind.u32.wrap (n:Int)=(n:Int):=by rw[Xz,aBb h]
theorem wF(h:n<18446744073709551616):IntKind.u64.wrap (n:Int)=(n:Int):=Bx om om
theorem VM:(2:Nat) ^ 32=4294967296:=by decide
theorem V8{a b:Nat}(ha:a<4294967296)(hb:b<4294967296):bits .or .u64 (IntKind.u64.wrap ((a:Int)*2 ^ 32)) (b:Int)=((a*4294967296+b:Nat):Int):=by
 rw[show (a:Int)*2 ^ 32=((a*4294967296:Nat):Int) by rw[Int.natCast_mul];rfl,wF om,TZ om om];congr 1;exact Ws (k:=32) ⟨a,by rw[VM,aBg]⟩ (by rw[VM];exact hb)
theorem P5(a b:Nat):((a:Int).fdiv (b:Int))=((a/b:Nat):Int):=by
 rw[aCa _ om];rfl
theorem pX(a b:Nat):((a:Int).tdiv (b:Int))=((a/b:Nat):Int):=by
 rw[aBH om];rfl
theorem x8(a b:Nat):((a:Int).tmod (b:Int))=((a%b:Nat):Int):=by
 rw[Int.tmod_eq_emod_of_nonneg om];rfl
theorem Rg{a:Nat}:((a:Int).fdiv (2 ^ 32))=((a/4294967296:Nat):Int):=P5 a 4294967296
end Go.Ax
namespace Go.Ax
open Go
structure Jo where
 val:aQ
 ok:Bool
 rd:Rd
 parts:Nat
structure VV where
 vals:List aQ
 ok:Bool
 rd:Rd
 parts:Nat
def DS(rec:Rd->Nat->Jo):Nat->List aQ->Rd->Nat->VV
 | 0,acc,x,p=>⟨acc,true,x,p⟩
 | m+1,acc,x,p=>if (rec x p).ok=true then DS rec m (acc++[(rec x p).val]) (rec x p).rd (rec x p).parts else⟨acc,false,(rec x p).rd,(rec x p).parts⟩
def Mu(rec:Rd->Nat->Jo)(k:Int)(s:List UInt8)(x:Rd)(p:Nat):Jo:=
 if (oH x).1<0\/256<(oH x).1 then⟨.mk k 0 s [],false,(oH x).2,p⟩
 else⟨.mk k 0 s (DS rec (oH x).1.toNat [] (oH x).2 p).vals,(DS rec (oH x).1.toNat [] (oH x).2 p).ok,(DS rec (oH x).1.toNat [] (oH x).2 p).rd,(DS rec (oH x).1.toNat [] (oH x).2 p).parts⟩
def QW(rec:Rd->Nat->Jo)(x:Rd)(p:Nat):Jo:=
 if 1024<p+1 then⟨.mk 0 0 [] [],false,x,p+1⟩
 else if (oH x).1=0 then⟨.mk 0 (oH (oH x).2).1 [] [],true,(oH (oH x).2).2,p+1⟩
 else if (oH x).1=1 then⟨.mk 1 (if (QT (oH x).2).1=true then 1 else 0) [] [],true,(QT (oH x).2).2,p+1⟩
 else if (oH x).1=2 then Mu rec 2 [] (oH x).2 (p+1)
 else if (oH x).1=3 then Mu rec 3 (NJ (oH x).2).1 (NJ (oH x).2).2 (p+1)
 else⟨.mk (oH x).1 0 [] [],false,(oH x).2,p+1⟩
def GM:Nat->Rd->Nat->Jo
 | 0=>λx p=>⟨.mk 0 0 [] [],false,x,p⟩
 | f+1=>QW (GM f)
structure Zs(x:Rd)(p:Nat)(r:Jo):Prop where
 le:r.rd.1.length<=x.1.length
 ok:x.1.length<=1000000000->iO r.val
 size:r.ok=true->p+bF r.val=r.parts
 parts:p<=1024->r.parts<=1025
 good:r.ok=true->p<=1024->r.parts<=1024
structure Zr(x:Rd)(p:Nat)(acc:List aQ)(m:Nat)(r:VV):Prop where
 le:r.rd.1.length<=x.1.length
 ok:x.1.length<=1000000000->tO acc->tO r.vals
 len:r.vals.length<=acc.length+m
 size:r.ok=true->p+cA r.vals=r.parts+cA acc
 parts:p<=1024->r.parts<=1025
 good:r.ok=true->p<=1024->r.parts<=1024
theorem Jq{u:Nat}(h:u<18446744073709551616)(t:List UInt8):wW (n9 u++t,0)=(u,(t,0)):=by
 unfold wW;simp only[if_true];rw[Wa t h]
theorem IG{n:Int}(h:i64 n)(t:List UInt8):oH (g9 n++t,0)=(n,(t,0)):=by
 unfold oH g9;rw[Jq (Hh h),T1]
theorem RO{s:List UInt8}(h:s.length<18446744073709551616)(t:List UInt8):NJ (n9 s.length++s++t,0)=(s,(t,0)):=by
 have e:MA (n9 s.length++s++t,0)=(s.length,(s++t,0)):=by
  unfold MA;rw[List.append_assoc,Jq h];simp
 unfold NJ;rw[e];simp
theorem JU{rec:Rd->Nat->Jo}:∀(l acc:List aQ) (t:List UInt8) (p:Nat),
  (∀(i:Nat) (v:aQ) (t':List UInt8),l[i]? = some v->rec (fI v++t',0) (p+cA (l.take i))=⟨v,true,(t',0),p+cA (l.take i)+bF v⟩) ->
  DS rec l.length acc (gV l++t,0) p=⟨acc++l,true,(t,0),p+cA l⟩
 | [],acc,t,p,_=>by simp[DS,gV,cA]
 | v::r,acc,t,p,h=>by
  have h0:=h 0 v (gV r++t) rfl;simp only[aBZ,cA,aBo] at h0;simp only[aAH,DS,gV,List.append_assoc];rw[h0];simp only[if_true];rw[JU r (acc++[v]) t (p+bF v) (λi x t' hi=>by
   have:=h (i+1) x t' (su hi);simp only[aBT,cA] at this;rw[show p+bF v+cA (r.take i)=p+(bF v+cA (r.take i)) by omega];exact this)]
  simp[cA];omega
theorem G1:∀{l:List aQ},Bg l=true->∀{v:aQ},v∈l->zT v=true
 | a::r,h,v,hv=>by
  simp only[Bg,aAd] at h;rcases aAj.1 hv with rfl|hv
  .exact h.1
  .exact G1 h.2 hv
theorem HE:∀(v:aQ) (f p:Nat) (t:List UInt8),iO v->bT v=true->zT v=true->p+bF v<=1024->1025<=f+p->GM f (fI v++t,0) p=⟨v,true,(t,0),p+bF v⟩
 | .mk k n s kids,f,p,t,ho,hf,hw,hp,hfp=>by
  simp only[iO] at ho;simp only[bT,aAd] at hf;simp only[zT,aAd] at hw;simp only[bF] at hp;obtain⟨g,rfl⟩:∃g,f=g+1:=⟨f-1,om⟩
  have h1:=hf.1;have hkl:kids.length<=256:=by have:=hw.1;unfold yC at this;simp at this;omega
  have hrec:∀(q:Nat),p+1=q->∀(i:Nat) (v:aQ) (t':List UInt8),kids[i]? = some v->GM g (fI v++t',0) (q+cA (kids.take i))=⟨v,true,(t',0),q+cA (kids.take i)+bF v⟩:=by
   intro q hq i v t' hi;have hil:=(aAg.1 hi).1;have hm:=aAm hi;have hs:=rG (l:=kids) (k:=i) hil;have hs2:=lC kids (i+1);have e:kids[i]=v:=by rw[aAa hil] at hi;exact Option.some.inj hi
   rw[e] at hs;exact HE v g (q+cA (kids.take i)) t' (jO ho.2.2.2.2 v hm) (u6 hf.2 hm) (G1 hw.2 hm) om om
  have hmore:∀(kk:Int) (ss:List UInt8),Mu (GM g) kk ss (g9 kids.length++(gV kids++t),0) (p+1)=⟨.mk kk 0 ss kids,true,(t,0),p+(1+cA kids)⟩:=by
   intro kk ss;have e:=JU (rec:=GM g) kids [] t (p+1) (hrec (p+1) rfl);unfold Mu;rw[IG (Dw om)];simp only;rw[aAe om,aAc,e];simp;omega
  show QW (GM g) _ p=_
  unfold QW;rw[aAe om,fI,List.append_assoc,IG ho.1];simp only;unfold dA at h1;by_cases k0:k=0
  .subst k0;rw[aAh rfl] at h1 |-;simp only[aAd,aAC] at h1;obtain⟨rfl,h2⟩:=h1;obtain rfl:kids=[]:=aBh.1 h2;simp only[if_true];rw[IG ho.2.1];simp[bF,cA]
  .rw[aAe k0] at h1;rw[aAe k0,aAe k0];by_cases k1:k=1
   .subst k1;rw[aAh rfl] at h1;rw[aAh rfl,aAh rfl];simp only[aAd,aAC,aBm] at h1;obtain⟨⟨hn,rfl⟩,h2⟩:=h1;obtain rfl:kids=[]:=aBh.1 h2;rcases hn with rfl|rfl<;>simp[QT,bF,cA]
   .rw[aAe k1] at h1;rw[aAe k1,aAe k1];by_cases k2:k=2
    .subst k2;rw[aAh rfl] at h1;simp only[aAd,aAC] at h1;obtain⟨rfl,rfl⟩:=h1;rw[aAh rfl,aAe om,aAZ,List.append_assoc,hmore];rfl
    .rw[aAe k2] at h1;rw[aAe k2];split at h1
     .rename_i k3;subst k3;simp only[aAd,aAC] at h1;obtain⟨rfl,hc⟩:=h1;rw[aAh rfl,aAh rfl];have e:n9 s.length++s++(g9 kids.length++gV kids)++t=n9 s.length++s++(g9 kids.length++(gV kids++t)):=sq
      rw[e,RO om];simp only;rw[hmore];rfl
     .cases h1
termination_by v f p t=>SizeOf.sizeOf v
decreasing_by
 have:=aBE (aAm hi);simp;omega
def M0(b:List UInt8):aQ × Int:=if (GM 1025 (b,0) 0).ok=true/\(GM 1025 (b,0) 0).rd=([],0)/\bG (GM 1025 (b,0) 0).val=0 then((GM 1025 (b,0) 0).val,0) else(.mk 0 0 [] [],2)
theorem Df{v:aQ}(ho:iO v)(h:bG v=0):M0 (fI v)=(v,0):=by
 obtain⟨h1,h2,h3⟩:=ES h;have e:=HE v 1025 0 [] ho h1 h2 om om;rw[aA3] at e;unfold M0;rw[e];simp[h]
theorem Qo{a b:aQ}(ha:iO a)(hb:iO b)(va:bG a=0)(vb:bG b=0)(h:fI a=fI b):a=b:=by
 have h1:=Df ha va;have h2:=Df hb vb;rw[h,h2] at h1;exact(congrArg Prod.fst h1).symm
end Go.Ax
