/- A part of the proof. -/
import Derived.Test.YtidjhgajglebnaaGreatDoorAx8
import Derived.Below
import Derived.Lib.ConvBytes
import Derived.Lib.ItoaMem
import Derived.ChangeMaps5
import Derived.Lib.LaidTab
import Derived.Lib.ItoaNum
import Derived.Lib.AtoiAllCases
set_option linter.unusedVariables false
set_option linter.unusedSimpArgs false
namespace Go.Ax
open Go
theorem nn {v:AV} (h:NN v:=by
  repeat' first
   | assumption
   | exact NN.int _ _
   | exact NN.bool _
   | exact NN.str _
   | exact NN.nsl
   | exact NN.nptr
   | exact NN.nif
   | exact NN.nfn
   | exact NN.nmap
   | exact NN.junk
   | exact dZ _
   | exact bC _
   | exact a8 _
   | exact kH.nil
   | refine kH.cons ?_ ?_
   | refine NN.agg' ?_
   | refine NN.tup' ?_
   | refine NN.il' ?_
   | refine NN.ip' ?_
   | refine NN.ifc _ _ ?_
   | exact NN.fn _ _ _ (by simp) (by simp)):NN v:=h
theorem cZ {l:List AV} (h:kH l:=by
  repeat' first
   | assumption
   | exact NN.int _ _
   | exact NN.bool _
   | exact NN.str _
   | exact NN.nsl
   | exact NN.nptr
   | exact NN.nif
   | exact NN.nfn
   | exact NN.nmap
   | exact NN.junk
   | exact dZ _
   | exact bC _
   | exact a8 _
   | exact kH.nil
   | refine kH.cons ?_ ?_
   | refine NN.agg' ?_
   | refine NN.tup' ?_
   | refine NN.il' ?_
   | refine NN.ip' ?_
   | refine NN.ifc _ _ ?_
   | exact NN.fn _ _ _ (by simp) (by simp)):kH l:=h
section
variable {P:Program} {Γ:List (Nat × AV)} {F:FuncId} {args:List AV} {r:AV} {mem:aN} {nx:Nat} {K:AV->aN->Nat->Prop}
theorem aZ.go(h:aZ P [] F args r)(hk:K r mem nx)(ha:kH args:=by exact cZ)(hr:NN r:=by exact nn):aE P [] F args mem nx K:=h.use bB ha hr hk
theorem aE.go0{Qs:AV->aN->Nat->Prop}(h:aE P [] F args [] 0 Qs)(hk:∀r m n,Qs r m n->∃r',Cv m [] r r'/\K r' mem nx)(ha:kH args:=by exact cZ):aE P [] F args mem nx K:=
 aE.call0 bB h ha hk
end
theorem aE.glob{P:Program}{Γ:List (Nat × AV)}{F:FuncId}{args:List AV}{mem:aN}{nx:Nat}{Q:AV->aN->Nat->Prop}(h:aE P [] F args mem nx Q):aE P Γ F args mem nx Q:=by
 refine⟨fun X D ρ w vs hD hm hv=>?_⟩;refine(h.run X D ρ w vs hD ⟨hm.low,hm.blk,hm.emp,hm.inj,hm.nod,hm.bar,(fun p hp=>by cases hp)⟩ hv).mono ?_;rintro e w' ⟨r,v,m,n,ρ',h1,h2,h3,h4,h5,h6⟩;exact⟨r,v,m,n,ρ',h1,h2,h3,⟨h4.low,h4.blk,h4.emp,h4.inj,h4.nod,h4.bar,fun p hp=>h6.vr (hm.glo p hp)⟩,h5,h6⟩
def Jc:List (Nat × Nat)->Bool
 | []=>true
 | (i,j)::r=>Nat.beq i j && Jc r
theorem Ab:∀{σ:List (Nat × Nat)},Jc σ=true->∀p∈σ,p.1=p.2
 | [],h,p,hp=>by cases hp
 | (i,j)::r,h,p,hp=>by
  simp only[Jc,Tz] at h;rcases T6.1 hp with rfl|hp
  ·exact T2 h.1
  ·exact Ab h.2 p hp
theorem aE.pre{P:Program}{Γ:List (Nat × AV)}{F:FuncId}{args args':List AV}{mem mem':aN}{nx:Nat}{K:AV->aN->Nat->Prop}(hΓ:∀p∈Γ,NN p.2)(σ:List (Nat × Nat))(hid:(Jc σ && rF mem')=true)
  (hM:dE mem σ mem') (hargs:jJ mem σ args args') (h:aE P Γ F args' mem' nx K):aE P Γ F args mem nx K:=by
 simp only[Tz] at hid;have hid1:=Ab hid.1;have hnod:=fE hid.2;refine⟨fun X D ρ w vs hD hm hv=>?_⟩;have hσ:∀id id',lk σ id=some id'->D id->D id'/\ρ id'=ρ id:=by
  intro id id' h hd;have:=hid1 _ (bK h);simp only at this;subst this;exact⟨hd,rfl⟩
 have hinj:NX σ:=fun i j k h1 h2=>by
  have a:=hid1 _ (bK h1);have b:=hid1 _ (bK h2);simp only at a b;omega
 obtain⟨m1,v1,o1⟩:=hm.turn (D':=D) (ρ':=ρ) hΓ hσ hM.cvm hnod hinj;have hvs:jI ρ D (OX X ρ mem') w args' vs:=⟨by rw[←hargs.1];exact hv.1,fun j c' x hc' hx=>by
   obtain⟨c,hc⟩:=dC hargs.1 hc';exact v1 c c' (hargs.2 j c c' hc hc') _ (hv.2 j c x hc hx)⟩
 refine(h.run X D ρ w vs hD m1 hvs).mono ?_;rintro e w' ⟨r,v,m,n,ρ',h1,h2,h3,h4,h5,h6⟩;refine⟨r,v,m,n,ρ',h1,h2,h3,h4,h5, ?_⟩;have e0:Ext D ρ mem w ρ D mem' w:=⟨fun i hi=>hi,fun _ _=>rfl,UC _,fun _ _ _=>rfl,fun p hp hn=>.inl (o1 p hp hn),.refl _⟩
 exact e0.trans h6
theorem bZ{l:List aT}{k:Nat}(h:k<l.length):∃a b c d,aT.mk a b c d∈l/\l[k]? = some (aT.mk a b c d)/\l[k]=aT.mk a b c d/\(aS l)[(k:Int).toNat]? = some (cK (aT.mk a b c d)):=by
 obtain⟨⟨a,b,c,d⟩,hv⟩:∃v,v=l[k]:=⟨_,rfl⟩
 have e:=Ez h;rw[←hv] at e;exact⟨a,b,c,d,by rw[hv];exact UW h,by rw[hv];exact Ty h,hv.symm,e⟩
section
variable {mem:aN} {σ:List (Nat × Nat)}
theorem Cv.int{k:IntKind}{a b:Int}(h:a=b):Cv mem σ (.int k a) (.int k b):=by rw[h];exact .same _ (.int _ _)
theorem Cv.w64{x y:Int}(h:x=y)(hb:i64 y):Cv mem σ (.int .i64 (IntKind.i64.wrap x)) (.int .i64 y):=by rw[h,bE hb];exact .same _ (.int _ _)
theorem Cv.wo{x y:Int}(h:x=y:=by omega)(h1 : -9223372036854775808<=y:=by omega)(h2:y<=9223372036854775807:=by omega):Cv mem σ (.int .i64 (IntKind.i64.wrap x)) (.int .i64 y):=.w64 h ⟨h1,h2⟩
theorem Cv.wp{x y:Int}(h:x=y:=by simp only;omega)(h1 : -9223372036854775808<=y:=by simp only;omega)(h2:y<=9223372036854775807:=by simp only;omega):Cv mem σ (.int .i64 (IntKind.i64.wrap x)) (.int .i64 y):=.w64 h ⟨h1,h2⟩
theorem aJ{sl:List (Nat × AV)}{i:Nat}{v:AV}(h:lk sl i=some v:=by rfl)(hn:NN v:=by exact nn):∃w,lk sl i=some w/\Cv mem σ w v:=⟨v,h,.same v hn⟩
theorem jJ.s{v:AV}{as bs:List AV}(hs:jJ mem σ as bs)(hn:NN v:=by exact nn):jJ mem σ (v::as) (v::bs):=.cons (.same v hn) hs
theorem bH{α:Type}{a:α}{q:Prop}(h:q):a=a/\q:=⟨rfl,h⟩
theorem aI{sl:List (Nat × AV)}{i id id' x y:Nat}(h:lk sl i=some (.ptr id x y):=by rfl)(h2:lk σ id=some id':=by rfl):∃w,lk sl i=some w/\Cv mem σ w (.ptr id' x y):=⟨_,h,.ptr id id' x y h2⟩
theorem aQ{sl:List (Nat × AV)}{i:Nat}{v:AV}(hn:NN v)(h:lk sl i=some v:=by rfl):∃w,lk sl i=some w/\Cv mem σ w v:=⟨v,h,.same v hn⟩
theorem aK{t:TypeId}{sz p:Nat}{ys:List AV}(id:Nat)(hn:kH ys)(h1:lk σ id=some p:=by rfl)(h2:lk mem id=some (.row t sz ys):=by rfl):∃id xs,lk σ id=some p/\lk mem id=some (.row t sz xs)/\rI mem σ xs ys:=⟨id,ys,h1,h2,.same hn⟩
theorem Rs{p q:Prop}(x:q)(e:q->p:=by(intro x;(repeat((first|refine dN.2 ?_|refine bH ?_);((conv=>whnf);(repeat(refine Xg ?_;conv=>whnf)))));exact x)):p:=e x
theorem Rt{p q:Prop}(x:q)(e:q->p:=by(intro x;(conv=>whnf);(repeat(refine Xg ?_;conv=>whnf));(repeat((first|refine dN.2 ?_|refine bH ?_);((conv=>whnf);(repeat(refine Xg ?_;conv=>whnf)))));exact x)):p:=e x
theorem Cv.bool{a b:Bool}(h:a=b):Cv mem σ (.bool a) (.bool b):=by rw[h];exact .same _ (.bool _)
theorem JY(k n:Int)(s:List UInt8):D1 mem σ (.agg [.int .i64 k,.int .i64 n,.str s,.nsl]) (cK (.mk k n s [])):=
 .agg (.cons (.same _ (.int _ _)) (.cons (.same _ (.int _ _)) (.cons (.same _ (.str _)) (.cons (.nil 4) .nil))))
end
theorem iR(l:List aT)(v:aT):aS (l++[v])=aS l++[cK v]:=by simp[iE]
theorem w64{x y:Int}(h:x=y)(hb:i64 y):IntKind.i64.wrap x=y:=by rw[h,bE hb]
theorem GE{l:List aT}{k:Nat}(h:decide ((k:Int)<((aS l).length:Nat))=true):k<l.length:=by rw[aB] at h;simpa using h
theorem G5{l:List aT}{k:Nat}(h:decide ((k:Int)<((aS l).length:Nat))=false):l.length<=k:=by rw[aB] at h;simpa using h
theorem Cv.fzR{mem:aN}{σ:List (Nat × Nat)}{id len:Nat}{t:TypeId}{sz:Nat}{xs ys:List AV}(h1:lk mem id=some (.row t sz xs))(h2:lk σ id=none)(h3:rI mem σ xs ys)(h4:ys.length=len):Cv mem σ (.sl id 0 len) (.il sz ys):=
 .fz id 0 len t sz xs ys h1 h2 (by have:=h3.1;omega) h4 (fun i x y hx hy=>(h3.2 i x y (by simpa using hx) hy).1) (fun i x y j c c' hx hy hc hc'=>(h3.2 i x y (by simpa using hx) hy).2 j c c' hc hc')
section
variable {P:Program} {Γ:List (Nat × AV)} {F:FuncId} {args:List AV} {r:AV} {mem:aN} {nx:Nat} {K:AV->aN->Nat->Prop}
theorem aZ.goG(h:aZ P [] F args r)(hk:K r mem nx)(ha:kH args:=by exact cZ)(hr:NN r:=by exact nn):aE P Γ F args mem nx K:=(h.use bB ha hr hk).glob
theorem aE.goG0{Qs:AV->aN->Nat->Prop}(h:aE P [] F args [] 0 Qs)(hk:∀r m n,Qs r m n->∃r',Cv m [] r r'/\K r' mem nx)(ha:kH args:=by exact cZ):aE P Γ F args mem nx K:=
 (aE.call0 bB h ha hk).glob
end
theorem OJ{l:List aT}{k n:Nat}(h:k<l.length)(hn:l.length=n):∃a b c d,aT.mk a b c d∈l/\l[k]? = some (aT.mk a b c d)/\l[k]=aT.mk a b c d/\(aS l)[0+(k:Int).toNat]? = some (cK (aT.mk a b c d))/\Nat.blt (k:Int).toNat n=true:=by
 obtain⟨a,b,c,d,h1,h2,h3,h4⟩:=bZ h;exact⟨a,b,c,d,h1,h2,h3,by rw[UT];exact h4,T8 (by simp;omega)⟩
end Go.Ax
namespace Go.Ax
open Go
section
variable {P:Program} {Γ:List (Nat × AV)} {B:Nat}
structure bA(P:Program)(Γ:List (Nat × AV))(B:Nat)(c:Code)(s:St)(Q:Exit->St->Prop):Prop where
 run:eD P Γ B (.loop c) s Q
def Ku(P:Program)(Γ:List (Nat × AV))(B:Nat)(y:Code)(Q:Exit->St->Prop)(e:Exit)(s:St):Prop:=
 match e with
 | .normal=>eD P Γ B y s Q
 | e=>Q e s
def Bv(id:Nat)(Q:Exit->St->Prop)(e:Exit)(s:St):Prop:=
 match e with
 | .exit i=>match Nat.beq i id with
  | true=>Q .normal s
  | false=>Q (.exit i) s
 | e=>Q e s
theorem BG{ops:List Oper}{K:St->Prop}{Kp:Value->St->Prop}:∀{l:List Oper} {s:St},uI P Γ (H1 P Γ B) ops l s K (fun _ _=>False)->uI P Γ (H1 P Γ B) ops l s K Kp
 | [],s,h=>h
 | o::r,s,h=>by
  simp only[uI] at h ⊢;split
  ·rename_i h1;simp only[h1] at h
  ·rename_i h1;simp only[h1] at h;split
   ·rename_i h2;simp only[h2] at h;exact BG h
   ·rename_i h2;simp only[h2] at h
  ·rename_i h1;simp only[h1] at h;split
   ·rename_i h2;simp only[h2] at h;split
    ·rename_i h3;simp only[h3] at h;exact BG h
    ·rename_i h3;simp only[h3] at h
   ·rename_i h2;simp only[h2] at h;split
    ·rename_i h3;simp only[h3] at h;refine aE.mono h fun v m n h=>?_
     split
     ·rename_i h4;simp only[h4] at h;exact BG h
     ·rename_i h4;simp only[h4] at h
    ·rename_i h3;simp only[h3] at h;split at h<;>exact h.elim
theorem tZ{ops:List Oper}{tr:List (List Nat)}{base:Nat}{K:St->Prop}{Kp:Value->aN->Nat->Prop}:∀{l:List Nat} {recs:List Ay} {s:St},oU P Γ (H1 P Γ B) ops tr base K (fun _ _ _=>False) l recs s->oU P Γ (H1 P Γ B) ops tr base K Kp l recs s
 | [],recs,s,h=>h
 | i::r,recs,s,h=>by
  simp only[oU] at h ⊢;split
  ·rename_i h1;simp only[h1] at h
  ·rename_i o h1;simp only[h1] at h;split
   ·rename_i h2;simp only[h2] at h
   ·rename_i h2;simp only[h2] at h;split
    ·rename_i h3;simp only[h3] at h;exact tZ h
    ·rename_i h3;simp only[h3] at h
   ·rename_i h2;simp only[h2] at h;split
    ·rename_i hk;simp only[hk] at h;split
     ·rename_i h3;simp only[h3] at h;split
      ·rename_i h4;simp only[h4] at h;exact tZ h
      ·rename_i h4;simp only[h4] at h
     ·rename_i h3;simp only[h3] at h
    ·rename_i hk;simp only[hk] at h;split
     ·rename_i h3;simp only[h3] at h;split
      ·rename_i h4;simp only[h4] at h;exact tZ h
      ·rename_i h4;simp only[h4] at h
     ·rename_i h3;split at h
      ·rename_i h4;exact(h3 _ _ _ _ h4).elim
      ·exact h
    ·rename_i hk;simp only[hk] at h;split
     ·rename_i h3;simp only[h3] at h;split
      ·rename_i h4;simp only[h4] at h;exact⟨h.1,tZ h.2⟩
      ·rename_i h4;simp only[h4] at h
     ·rename_i h3;simp only[h3] at h;split
      ·rename_i h4;simp only[h4] at h;refine aE.mono h fun v m n h=>?_
       split
       ·rename_i h5;simp only[h5] at h;exact⟨h.1,tZ h.2⟩
       ·rename_i h5;simp only[h5] at h
      ·rename_i h4;simp only[h4] at h
structure kZ(P:Program)(Γ:List (Nat × AV))(B:Nat)(ops l:List Oper)(s:St)(K:St->Prop):Prop where
 run:uI P Γ (H1 P Γ B) ops l s K fun _ _=>False
def To(P:Program)(Γ:List (Nat × AV))(B:Nat)(ops l:List Oper)(s:St)(K:St->Prop):Prop:=
 match l with
 | []=>K s
 | o::r=>Fe s fun sl mem nx nt=>sR ops sl o.guard
   (Em false P Γ (H1 P Γ B) sl mem nx o.op (fun v mem nx=>mL s o.dst v mem nx fun s'=>kZ P Γ B ops r s' K) fun _ _ _=>False)
   (mL s o.dst (.tup []) mem nx fun s'=>kZ P Γ B ops r s' K)
theorem kZ.go{ops l:List Oper}{s:St}{K:St->Prop}(h:To P Γ B ops l s K):kZ P Γ B ops l s K:=by
 refine⟨?_⟩;cases l with
 | nil=>exact h
 | cons o r=>
  have h:sR ops s.sl o.guard (Em false P Γ (H1 P Γ B) s.sl s.mem s.nx o.op (fun v mem nx=>mL s o.dst v mem nx fun s'=>kZ P Γ B ops r s' K) fun _ _ _=>False) (mL s o.dst (.tup []) s.mem s.nx fun s'=>kZ P Γ B ops r s' K):=h;simp only[uI];rcases uE h with⟨h1,h⟩|⟨h1,h⟩
  ·simp only[h1];rcases Cc h with⟨v,m,n,h2,h⟩|⟨h2,F,l,h3,h⟩
   ·obtain⟨s',h4,h⟩:=eP h;simp only[h2,h4];exact h.run
   ·simp only[h2,h3];refine(show aE P Γ F l s.mem s.nx _ from h).mono fun v m n h=>?_
    obtain⟨s',h4,h⟩:=eP h;simp only[h4];exact h.run
  ·obtain⟨s',h4,h⟩:=eP h;simp only[h1,h4];exact h.run
structure LI(P:Program)(Γ:List (Nat × AV))(B:Nat)(ops:List Oper)(tr:List (List Nat))(base:Nat)(K:St->Prop)(l:List Nat)(recs:List Ay)(s:St):Prop where
 run:oU P Γ (H1 P Γ B) ops tr base K (fun _ _ _=>False) l recs s
def TN(P:Program)(Γ:List (Nat × AV))(B:Nat)(ops:List Oper)(tr:List (List Nat))(base:Nat)(K:St->Prop)(l:List Nat)(recs:List Ay)(s:St):Prop:=
 match l with
 | []=>K s
 | i::r=>match ops[i]? with
  | none=>False
  | some o=>Fe s fun sl mem nx nt=>sR ops sl o.guard
   (match kind P o.op with
    | .pure=>match still o.op with
     | true=>rX false P Γ sl [] nx o.op fun v _ _=>mL s o.dst v mem nx fun s'=>LI P Γ B ops tr base K r (⟨i,sl,true,v⟩::recs) s'
     | false=>iH (fun p=>JI tr base ops.length i p.1) mem fun m=>rX false P Γ sl m nx o.op fun v _ _=>mL s o.dst v mem nx fun s'=>LI P Γ B ops tr base K r (⟨i,sl,true,v⟩::recs) s'
    | .al=>oV (base+i) fun id=>rX false P Γ sl [] id o.op fun v m _=>match m with
     | [(_,b)]=>mL s o.dst v ((id,b)::mem) nx fun s'=>LI P Γ B ops tr base K r (⟨i,sl,true,v⟩::recs) s'
     | _=>False
    | .eff=>iH (fun p=>JI tr base ops.length i p.1) mem fun m=>Em false P Γ (H1 P Γ B) sl m nx o.op (fun v m nx'=>iH (fun p=>!JI tr base ops.length i p.1) mem fun rest=>iH (fun p=>!sJ p.1 m) rest fun rest=>Cl m rest fun m=>
      mL s o.dst v m nx' fun s'=>uL false P Γ ops tr base i m nx' recs (LI P Γ B ops tr base K r recs s')) fun _ _ _=>False)
   (mL s o.dst (.tup []) mem nx fun s'=>LI P Γ B ops tr base K r (⟨i,sl,false,.tup []⟩::recs) s')
theorem LI.go{ops:List Oper}{tr:List (List Nat)}{base:Nat}{K:St->Prop}{l:List Nat}{recs:List Ay}{s:St}(h:TN P Γ B ops tr base K l recs s):LI P Γ B ops tr base K l recs s:=by
 refine⟨?_⟩;cases l with
 | nil=>exact h
 | cons i r=>
  simp only[TN] at h;simp only[oU];split at h
  ·exact h.elim
  ·rename_i o ho;simp only[ho];have h:=p6.1 h;rcases uE h with⟨h1,h⟩|⟨h1,h⟩
   ·simp only[h1];split at h
    ·rename_i hkd;simp only[hkd];split at h
     ·rename_i hst;obtain⟨v,m,n,h2,h⟩:=mR (s:={ sl:=s.sl,mem:=[],nx:=s.nx,nt:=s.nt }) h;obtain⟨m',n',h2'⟩:=sU (s:={ sl:=s.sl,mem:=[],nx:=s.nx,nt:=s.nt }) (s':={ s with mem:=i9 tr base ops.length i s.mem }) hst rfl h2;obtain⟨s',h3,h⟩:=eP h;simp only[h2',h3];exact h.run
     ·have h:=cY.1 h;obtain⟨v,m,n,h2,h⟩:=mR (s:={ s with mem:=i9 tr base ops.length i s.mem }) h;obtain⟨s',h3,h⟩:=eP h;simp only[h2,h3];exact h.run
    ·rename_i hkd;simp only[hkd];have h:=dM.1 h;obtain⟨v,m,n,h2,h⟩:=mR (s:={ s with mem:=[],nx:=base+i }) h;simp only[h2];split at h
     ·obtain⟨s',h3,h⟩:=eP h;simp only[h3];exact h.run
     ·exact h.elim
    ·rename_i hkd;simp only[hkd];have h:=cY.1 h;rcases Cc (s:={ s with mem:=i9 tr base ops.length i s.mem }) h with⟨v,m,n,h2,h⟩|⟨h2,F,l,h3,h⟩
     ·simp only[h2];have h:=gE.1 (cY.1 (cY.1 h));obtain⟨s',h3,h⟩:=eP h;have h3:eC s o.dst v (m++tH m (gI tr base ops.length i s.mem)) n=some s':=h3;simp only[h3];obtain⟨e1,e2,_⟩:=gV h3;have h:uL false P Γ ops tr base i (m++tH m (gI tr base ops.length i s.mem)) n recs (LI P Γ B ops tr base K r recs s'):=h;rw[←e1,←e2] at h;obtain⟨h4,h⟩:=oQ h;exact⟨h4,h.run⟩
     ·rw[sC (s':=s) (fun x _=>by cases x<;>rfl)] at h3;simp only[h2,h3];refine(show aE P Γ F l _ _ _ from h).mono fun v m n h=>?_
      have h:=gE.1 (cY.1 (cY.1 h));obtain⟨s',h3,h⟩:=eP h;have h3:eC s o.dst v (m++tH m (gI tr base ops.length i s.mem)) n=some s':=h3;simp only[h3];obtain⟨e1,e2,_⟩:=gV h3;have h:uL false P Γ ops tr base i (m++tH m (gI tr base ops.length i s.mem)) n recs (LI P Γ B ops tr base K r recs s'):=h;rw[←e1,←e2] at h;obtain⟨h4,h⟩:=oQ h;exact⟨h4,h.run⟩
   ·obtain⟨s',h3,h⟩:=eP h;simp only[h1,h3];exact h.run
def Qk(P:Program)(Γ:List (Nat × AV))(B:Nat)(ops:List Oper)(s:St)(Q:Exit->St->Prop):Prop:=
 match P.follows .mixedOrders with
 | true=>match Bf P ops (wT P ops ops.length [] (y5 ops.length)) with
  | true=>Fe s fun sl mem nx nt=>oV (nx+ops.length) fun n=>AE (wT P ops ops.length [] (y5 ops.length)) fun ord=>LI P Γ B ops (KN ops []) nx (fun s'=>Q .normal s') ord [] ⟨sl,mem,n,nt⟩
  | false=>False
 | false=>False
def Rb(Q:Exit->St->Prop)(e:Exit)(s:St):Prop:=
 match e with
 | .goto _=>False
 | e=>Q e s
def Sy(P:Program)(Γ:List (Nat × AV))(B:Nat)(c:Code)(s:St)(Q:Exit->St->Prop):Prop:=
 match c with
 | .skip=>Q .normal s
 | .seq x y=>eD P Γ B x s (Ku P Γ B y Q)
 | .cond c x y=>Fe s fun sl _ _ _=>lC Γ sl c fun v=>match v with
  | .bool b=>NW b (eD P Γ B x s Q) (eD P Γ B y s Q)
  | _=>False
 | .block id c=>eD P Γ B c s (Bv id Q)
 | .loop c=>bA P Γ B c s Q
 | .label _=>Q .normal s
 | .scope c=>eD P Γ B c s (Rb Q)
 | .exit i=>Q (.exit i) s
 | .ret=>Q .ret s
 | .region _ ops draw=>match draw with
  | false=>kZ P Γ B ops.toList ops.toList s fun s'=>Q .normal s'
  | true=>Qk P Γ B ops.toList s Q
 | .rangeFunc g ps ca cb=>Ao false P Γ (H1 P Γ B) (.rangeFunc g ps ca cb) s Q
 | _=>False
theorem eD.go{c:Code}{s:St}{Q:Exit->St->Prop}(h:Sy P Γ B c s Q):eD P Γ B c s Q:=by
 cases c with
 | skip=>exact eY (cl:=false) p8 .skip s Q h
 | exit i=>exact eY (cl:=false) p8 (.exit i) s Q h
 | ret=>exact eY (cl:=false) p8 .ret s Q h
 | loop c=>exact(show bA P Γ B c s Q from h).run
 | label l=>exact eY (cl:=false) p8 (.label l) s Q h
 | rangeFunc g ps ca cb=>exact eY (cl:=false) p8 (.rangeFunc g ps ca cb) s Q h
 | scope c=>
  have h:eD P Γ B c s (Rb Q):=h;refine⟨fun rd X ds D ρ a w hD hs hB hr=>C6 (wpIn_mono (h.run rd X ds D ρ a w hD hs hB hr.scope) ?_)⟩;rintro e a' w' ⟨s',ρ',hq,hB',hs',hext⟩;cases e with
  | goto l=>exact(show False from hq).elim
  | normal=>exact⟨s',ρ',hq,hB',hs',hext⟩
  | exit i=>exact⟨s',ρ',hq,hB',hs',hext⟩
  | ret=>exact⟨s',ρ',hq,hB',hs',hext⟩
  | panic c=>exact⟨s',ρ',hq,hB',hs',hext⟩
  | outgrown=>exact⟨s',ρ',hq,hB',hs',hext⟩
 | seq x y=>
  have h:eD P Γ B x s (Ku P Γ B y Q):=h;refine⟨fun rd X ds D ρ a w hD hs hB hr=>wpIn_seq (wpIn_mono (h.run rd X ds D ρ a w hD hs hB hr.seq1) ?_)⟩;rintro e a' w' ⟨s',ρ',hq,hB',hs',hext⟩;cases e with
  | normal=>
   refine wpIn_mono ((show eD P Γ B y s' Q from hq).run rd X ds D ρ' a' w' hD hs' hB' hr.seq2) ?_;rintro e a2 w2 ⟨s2,ρ2,h1,h2,h3,h4⟩;exact⟨s2,ρ2,h1,h2,h3,hext.trans h4⟩
  | exit i=>exact⟨s',ρ',hq,hB',hs',hext⟩
  | goto l=>exact⟨s',ρ',hq,hB',hs',hext⟩
  | ret=>exact⟨s',ρ',hq,hB',hs',hext⟩
  | panic c=>exact⟨s',ρ',hq,hB',hs',hext⟩
  | outgrown=>exact⟨s',ρ',hq,hB',hs',hext⟩
 | cond c x y=>
  have h:lC Γ s.sl c fun v=>match v with
   | .bool b=>NW b (eD P Γ B x s Q) (eD P Γ B y s Q)
   | _=>False:=h
  obtain⟨v,h1,h⟩:=b8 h;split at h
  ·rename_i b;refine⟨fun rd X ds D ρ a w hD hs hB hr=>?_⟩;have hv:=aU hs h1;generalize he:a.eval c=cv at hv;cases hv;cases b with
   | true=>exact wpIn_cond_true he ((show eD P Γ B x s Q from h).run rd X ds D ρ a w hD hs hB hr.cond1)
   | false=>exact wpIn_cond_false he ((show eD P Γ B y s Q from h).run rd X ds D ρ a w hD hs hB hr.cond2)
  ·exact h.elim
 | block id c=>
  have h:eD P Γ B c s (Bv id Q):=h;refine⟨fun rd X ds D ρ a w hD hs hB hr=>wpIn_block (wpIn_mono (h.run rd X ds D ρ a w hD hs hB hr.block) ?_)⟩;rintro e a' w' ⟨s',ρ',hq,hB',hs',hext⟩;cases e with
  | exit i=>
   simp only[Exit.inBlock];simp only[Bv] at hq;split at hq
   ·rename_i hi;rw[T7 (T2 hi)];exact⟨s',ρ',hq,hB',hs',hext⟩
   ·rename_i hi;rw[T5 (U0 hi)];exact⟨s',ρ',hq,hB',hs',hext⟩
  | normal=>exact⟨s',ρ',hq,hB',hs',hext⟩
  | goto l=>exact⟨s',ρ',hq,hB',hs',hext⟩
  | ret=>exact⟨s',ρ',hq,hB',hs',hext⟩
  | panic c=>exact⟨s',ρ',hq,hB',hs',hext⟩
  | outgrown=>exact⟨s',ρ',hq,hB',hs',hext⟩
 | region id ops draw=>
  cases draw with
  | false=>exact zE p8 (.region id ops false) s Q (BG (show kZ P Γ B ops.toList ops.toList s _ from h).run)
  | true=>
   refine zE p8 (.region id ops true) s Q ?_;have h:Qk P Γ B ops.toList s Q:=h;unfold Qk at h;simp only[DA];split at h
   ·rename_i hmix;simp only[hmix];split at h
    ·rename_i hok;simp only[GK,hok];exact tZ (nE.1 (dM.1 (p6.1 h))).run
    ·exact h.elim
   ·exact h.elim
 | _=>exact(show False from h).elim
theorem aG{F:FuncId}{fn:Func}{c:Code}{args:List AV}{mem:aN}{nx:Nat}{Q:AV->aN->Nat->Prop}(hΓ:∀p∈Γ,NN p.2)(hf:P.funcs[F]? = some fn)(hb:fn.body=some c)
  (h:zK fn.ntmps args mem nx fun s=>eD P Γ nx c s (L0 P fn.results.toList (oH nx Q))) (hF:Nat.beq F YF=false:=by rfl):aE P Γ F args mem nx Q:=
 (u9 hf hb ((nQ h).mono fun _ _ h=>M5 h) hF).turn hΓ
theorem aE.yield{id:Nat}{args:List AV}{mem:aN}{nx:Nat}{K:AV->aN->Nat->Prop}{sl sl':List (Nat × AV)}{nt:Nat}{ps:Array Tmp}{ca cb:Code}{st:LoopState}{pd:Option Code}
  (hl:lk mem id=some (.loop sl nt ps ca cb st pd)) (hp:AQ nt ps.toList args sl=some sl') (ha:gU ca=false) (hb:gU cb=false)
  (h:eD P Γ nx ca ⟨sl',mem,nx,nt⟩ (RQ P Γ nx id cb K)):aE P Γ YF (.yld id::args) mem nx K:=
 (fY.round (Kp:=fun _ _ _=>False) hl hp ha hb h).toC fun _ _ _ h=>h
def SL{α:Type}(B:Nat)(R:α->Prop)(I:α->St)(μ:α->Nat)(x:α)(Q:Exit->St->Prop)(e:Exit)(s:St):Prop:=
 match e with
 | .normal=>Gd B R I μ x s
 | e=>Q e s
theorem bA.at{c:Code}{s:St}{Q:Exit->St->Prop}{α:Type}(hΓ:∀p∈Γ,NN p.2)(R:α->Prop)(I:α->St)(μ:α->Nat)(x:α)(σ:List (Nat × Nat))(hx:R x)(h0:Conv B σ s (I x))
  (h:∀x,R x->eD P Γ B c (I x) (SL B R I μ x Q)):bA P Γ B c s Q:=by
 refine⟨eD.conv hΓ h0 ?_⟩;refine eD.loop (α:={ x:α // R x }) hΓ (fun x=>I x.1) (fun x=>μ x.1) (fun x=>?_) ⟨x,hx⟩;refine(h x.1 x.2).mono fun e s h=>?_
 cases e with
 | normal=>
  obtain⟨y,σ,hy,hc,hlt⟩:=(show Gd B R I μ x.1 s from h)
  exact⟨⟨y,hy⟩,σ,hc,hlt⟩
 | exit i=>exact h
 | goto l=>exact h
 | ret=>exact h
 | panic c=>exact h
 | outgrown=>exact h
theorem bA.ph{c:Code}{s:St}{Q:Exit->St->Prop}(t:TypeId)(sz:Nat)(h:bA P Γ B c ⟨s.sl,(s.nx,.row t sz [])::s.mem,s.nx+1,s.nt⟩ Q):bA P Γ B c s Q:=⟨eD.ph t sz h.run⟩
def NM(P:Program)(Γ:List (Nat × AV))(B:Nat)(ops:List Oper)(K:St->Prop)(next:List Oper->St->Prop)(l:List Oper)(s:St):Prop:=
 match l with
 | []=>K s
 | o::r=>Fe s fun sl mem nx nt=>sR ops sl o.guard
   (Em false P Γ (H1 P Γ B) sl mem nx o.op (fun v mem nx=>mL s o.dst v mem nx fun s'=>next r s') fun _ _ _=>False)
   (mL s o.dst (.tup []) mem nx fun s'=>next r s')
theorem oX{ops:List Oper}{K:St->Prop}{next:List Oper->St->Prop}(hn:∀r s,next r s->kZ P Γ B ops r s K){l:List Oper}{s:St}(h:NM P Γ B ops K next l s):kZ P Γ B ops l s K:=by
 refine⟨?_⟩;cases l with
 | nil=>exact h
 | cons o r=>
  have h:sR ops s.sl o.guard (Em false P Γ (H1 P Γ B) s.sl s.mem s.nx o.op (fun v mem nx=>mL s o.dst v mem nx fun s'=>next r s') fun _ _ _=>False) (mL s o.dst (.tup []) s.mem s.nx fun s'=>next r s'):=h;simp only[uI];rcases uE h with⟨h1,h⟩|⟨h1,h⟩
  ·simp only[h1];rcases Cc h with⟨v,m,n,h2,h⟩|⟨h2,F,l,h3,h⟩
   ·obtain⟨s',h4,h⟩:=eP h;simp only[h2,h4];exact(hn _ _ h).run
   ·simp only[h2,h3];refine(show aE P Γ F l s.mem s.nx _ from h).mono fun v m n h=>?_
    obtain⟨s',h4,h⟩:=eP h;simp only[h4];exact(hn _ _ h).run
  ·obtain⟨s',h4,h⟩:=eP h;simp only[h1,h4];exact(hn _ _ h).run
def N6(P:Program)(Γ:List (Nat × AV))(B:Nat)(next:Code->St->(Exit->St->Prop)->Prop)(c:Code)(s:St)(Q:Exit->St->Prop):Prop:=
 match c with
 | .seq x y=>next x s (Ku P Γ B y Q)
 | .block id c=>next c s (Bv id Q)
 | c=>Sy P Γ B c s Q
theorem rM{next:Code->St->(Exit->St->Prop)->Prop}(hn:∀c s Q,next c s Q->eD P Γ B c s Q){c:Code}{s:St}{Q:Exit->St->Prop}(h:N6 P Γ B next c s Q):eD P Γ B c s Q:=by
 cases c with
 | seq x y=>exact eD.go (show Sy P Γ B (.seq x y) s Q from hn _ _ _ h)
 | block id c=>exact eD.go (show Sy P Γ B (.block id c) s Q from hn _ _ _ h)
 | _=>exact eD.go h
def Sn(P:Program)(Γ:List (Nat × AV))(B:Nat)(ops:List Oper)(K:St->Prop)(l:List Oper)(s:St):Prop:=kZ P Γ B ops l s K
theorem Ng{ops:List Oper}{K:St->Prop}(l:List Oper)(s:St)(h:Sn P Γ B ops K l s):kZ P Γ B ops l s K:=h
def Rp(P:Program)(Γ:List (Nat × AV))(B:Nat)(ops:List Oper)(K:St->Prop)(l:List Oper)(s:St):Prop:=NM P Γ B ops K (Sn P Γ B ops K) l s
theorem Oi{ops:List Oper}{K:St->Prop}(l:List Oper)(s:St)(h:Rp P Γ B ops K l s):kZ P Γ B ops l s K:=oX Ng h
def Rq(P:Program)(Γ:List (Nat × AV))(B:Nat)(ops:List Oper)(K:St->Prop)(l:List Oper)(s:St):Prop:=NM P Γ B ops K (Rp P Γ B ops K) l s
theorem Od{ops:List Oper}{K:St->Prop}(l:List Oper)(s:St)(h:Rq P Γ B ops K l s):kZ P Γ B ops l s K:=oX Oi h
def Rj(P:Program)(Γ:List (Nat × AV))(B:Nat)(ops:List Oper)(K:St->Prop)(l:List Oper)(s:St):Prop:=NM P Γ B ops K (Rq P Γ B ops K) l s
theorem O1{ops:List Oper}{K:St->Prop}(l:List Oper)(s:St)(h:Rj P Γ B ops K l s):kZ P Γ B ops l s K:=oX Od h
def SF(P:Program)(Γ:List (Nat × AV))(B:Nat)(ops:List Oper)(K:St->Prop)(l:List Oper)(s:St):Prop:=NM P Γ B ops K (Rj P Γ B ops K) l s
theorem Nu{ops:List Oper}{K:St->Prop}(l:List Oper)(s:St)(h:SF P Γ B ops K l s):kZ P Γ B ops l s K:=oX O1 h
def Sk(P:Program)(Γ:List (Nat × AV))(B:Nat)(ops:List Oper)(K:St->Prop)(l:List Oper)(s:St):Prop:=NM P Γ B ops K (SF P Γ B ops K) l s
theorem OU{ops:List Oper}{K:St->Prop}(l:List Oper)(s:St)(h:Sk P Γ B ops K l s):kZ P Γ B ops l s K:=oX Nu h
def RZ(P:Program)(Γ:List (Nat × AV))(B:Nat)(ops:List Oper)(K:St->Prop)(l:List Oper)(s:St):Prop:=NM P Γ B ops K (Sk P Γ B ops K) l s
theorem Ow{ops:List Oper}{K:St->Prop}(l:List Oper)(s:St)(h:RZ P Γ B ops K l s):kZ P Γ B ops l s K:=oX OU h
def SU(P:Program)(Γ:List (Nat × AV))(B:Nat)(ops:List Oper)(K:St->Prop)(l:List Oper)(s:St):Prop:=NM P Γ B ops K (RZ P Γ B ops K) l s
theorem N4{ops:List Oper}{K:St->Prop}(l:List Oper)(s:St)(h:SU P Γ B ops K l s):kZ P Γ B ops l s K:=oX Ow h
def Rk(P:Program)(Γ:List (Nat × AV))(B:Nat)(ops:List Oper)(K:St->Prop)(l:List Oper)(s:St):Prop:=NM P Γ B ops K (SU P Γ B ops K) l s
theorem NZ{ops:List Oper}{K:St->Prop}(l:List Oper)(s:St)(h:Rk P Γ B ops K l s):kZ P Γ B ops l s K:=oX N4 h
def SC(P:Program)(Γ:List (Nat × AV))(B:Nat)(ops:List Oper)(K:St->Prop)(l:List Oper)(s:St):Prop:=NM P Γ B ops K (Rk P Γ B ops K) l s
theorem Oo{ops:List Oper}{K:St->Prop}(l:List Oper)(s:St)(h:SC P Γ B ops K l s):kZ P Γ B ops l s K:=oX NZ h
def Ml(P:Program)(Γ:List (Nat × AV))(B:Nat)(ops:List Oper)(K:St->Prop)(l:List Oper)(s:St):Prop:=NM P Γ B ops K (SC P Γ B ops K) l s
theorem Mg{ops:List Oper}{K:St->Prop}(l:List Oper)(s:St)(h:Ml P Γ B ops K l s):kZ P Γ B ops l s K:=oX Oo h
theorem kZ.many{ops l:List Oper}{s:St}{K:St->Prop}(h:Ml P Γ B ops K l s):kZ P Γ B ops l s K:=Mg l s h
def Ss(P:Program)(Γ:List (Nat × AV))(B:Nat)(c:Code)(s:St)(Q:Exit->St->Prop):Prop:=eD P Γ B c s Q
theorem Ok(c:Code)(s:St)(Q:Exit->St->Prop)(h:Ss P Γ B c s Q):eD P Γ B c s Q:=h
def Sq(P:Program)(Γ:List (Nat × AV))(B:Nat)(c:Code)(s:St)(Q:Exit->St->Prop):Prop:=N6 P Γ B (Ss P Γ B) c s Q
theorem O2(c:Code)(s:St)(Q:Exit->St->Prop)(h:Sq P Γ B c s Q):eD P Γ B c s Q:=rM Ok h
def SB(P:Program)(Γ:List (Nat × AV))(B:Nat)(c:Code)(s:St)(Q:Exit->St->Prop):Prop:=N6 P Γ B (Sq P Γ B) c s Q
theorem PG(c:Code)(s:St)(Q:Exit->St->Prop)(h:SB P Γ B c s Q):eD P Γ B c s Q:=rM O2 h
def SX(P:Program)(Γ:List (Nat × AV))(B:Nat)(c:Code)(s:St)(Q:Exit->St->Prop):Prop:=N6 P Γ B (SB P Γ B) c s Q
theorem Oa(c:Code)(s:St)(Q:Exit->St->Prop)(h:SX P Γ B c s Q):eD P Γ B c s Q:=rM PG h
def Rg(P:Program)(Γ:List (Nat × AV))(B:Nat)(c:Code)(s:St)(Q:Exit->St->Prop):Prop:=N6 P Γ B (SX P Γ B) c s Q
theorem N1(c:Code)(s:St)(Q:Exit->St->Prop)(h:Rg P Γ B c s Q):eD P Γ B c s Q:=rM Oa h
def SI(P:Program)(Γ:List (Nat × AV))(B:Nat)(c:Code)(s:St)(Q:Exit->St->Prop):Prop:=N6 P Γ B (Rg P Γ B) c s Q
theorem OG(c:Code)(s:St)(Q:Exit->St->Prop)(h:SI P Γ B c s Q):eD P Γ B c s Q:=rM N1 h
def Sl(P:Program)(Γ:List (Nat × AV))(B:Nat)(c:Code)(s:St)(Q:Exit->St->Prop):Prop:=N6 P Γ B (SI P Γ B) c s Q
theorem Oq(c:Code)(s:St)(Q:Exit->St->Prop)(h:Sl P Γ B c s Q):eD P Γ B c s Q:=rM OG h
def Si(P:Program)(Γ:List (Nat × AV))(B:Nat)(c:Code)(s:St)(Q:Exit->St->Prop):Prop:=N6 P Γ B (Sl P Γ B) c s Q
theorem Nv(c:Code)(s:St)(Q:Exit->St->Prop)(h:Si P Γ B c s Q):eD P Γ B c s Q:=rM Oq h
def Qh(P:Program)(Γ:List (Nat × AV))(B:Nat)(c:Code)(s:St)(Q:Exit->St->Prop):Prop:=N6 P Γ B (Si P Γ B) c s Q
theorem OC(c:Code)(s:St)(Q:Exit->St->Prop)(h:Qh P Γ B c s Q):eD P Γ B c s Q:=rM Nv h
theorem eD.many{c:Code}{s:St}{Q:Exit->St->Prop}(h:Qh P Γ B c s Q):eD P Γ B c s Q:=OC c s Q h
class XG(p:Prop)(q:outParam Prop):Prop where
 h:q->p
instance{c:Code}{s:St}{Q:Exit->St->Prop}:XG (eD P Γ B c s Q) (Qh P Γ B c s Q):=⟨eD.many⟩
instance{ops l:List Oper}{s:St}{K:St->Prop}:XG (kZ P Γ B ops l s K) (Ml P Γ B ops K l s):=⟨kZ.many⟩
instance{ops:List Oper}{tr:List (List Nat)}{base:Nat}{K:St->Prop}{l:List Nat}{recs:List Ay}{s:St}:XG (LI P Γ B ops tr base K l recs s) (TN P Γ B ops tr base K l recs s):=⟨LI.go⟩
theorem Xg{p q:Prop}[i:XG p q](x:q):p:=i.h x
theorem Rr{p q:Prop}(x:q)(e:q->p:=by(intro x;(conv=>whnf);(repeat(refine Xg ?_;conv=>whnf));exact x)):p:=e x
end
end Go.Ax
namespace Go.Ax
open Go
def Aa(i:Nat):List Nat->Bool
 | []=>false
 | j::r=>match Nat.beq j i with
  | true=>true
  | false=>Aa i r
def kU(ids:List Nat):aN->aN
 | []=>[]
 | (k,b)::r=>match Aa k ids with
  | true=>(k,b)::kU ids r
  | false=>kU ids r
def iZ(ids:List Nat):aN->aN
 | []=>[]
 | (k,b)::r=>match Aa k ids with
  | true=>iZ ids r
  | false=>(k,b)::iZ ids r
def pK:List Nat->List (Nat × Nat)
 | []=>[]
 | i::r=>(i,i)::pK r
def I7(n:Nat):List Nat->Bool
 | []=>true
 | i::r=>Nat.blt i n && I7 n r
def CK(ids:List Nat):aN->Bool
 | []=>true
 | (k,_)::r=>Aa k ids && CK ids r
theorem eF{ids:List Nat}:∀{m:aN} {p:Nat × AB},p∈kU ids m↔p∈m/\Aa p.1 ids=true
 | [],p=>by simp[kU]
 | (k,b)::r,p=>by
  simp only[kU];split
  ·rename_i h;rw[T6,eF (m:=r),T6];constructor
   ·rintro(rfl|⟨h1,h2⟩)
    ·exact⟨.inl rfl,h⟩
    ·exact⟨.inr h1,h2⟩
   ·rintro⟨rfl|h1,h2⟩
    ·exact .inl rfl
    ·exact .inr ⟨h1,h2⟩
  ·rename_i h;rw[eF (m:=r),T6];constructor
   ·rintro⟨h1,h2⟩;exact⟨.inr h1,h2⟩
   ·rintro⟨rfl|h1,h2⟩
    ·rw[h] at h2;cases h2
    ·exact⟨h1,h2⟩
theorem dF{ids:List Nat}:∀{m:aN} {p:Nat × AB},p∈iZ ids m↔p∈m/\Aa p.1 ids=false
 | [],p=>by simp[iZ]
 | (k,b)::r,p=>by
  simp only[iZ];split
  ·rename_i h;rw[dF (m:=r),T6];constructor
   ·rintro⟨h1,h2⟩;exact⟨.inr h1,h2⟩
   ·rintro⟨rfl|h1,h2⟩
    ·rw[h] at h2;cases h2
    ·exact⟨h1,h2⟩
  ·rename_i h;rw[T6,dF (m:=r),T6];constructor
   ·rintro(rfl|⟨h1,h2⟩)
    ·exact⟨.inl rfl,h⟩
    ·exact⟨.inr h1,h2⟩
   ·rintro⟨rfl|h1,h2⟩
    ·exact .inl rfl
    ·exact .inr ⟨h1,h2⟩
theorem nF{ids:List Nat}:∀(m:aN),(kU ids m).Sublist m
 | []=>by simp[kU]
 | (k,b)::r=>by
  simp only[kU];split
  ·exact(nF r).cons_cons _
  ·exact(nF r).cons _
theorem nH{ids:List Nat}:∀(m:aN),(iZ ids m).Sublist m
 | []=>by simp[iZ]
 | (k,b)::r=>by
  simp only[iZ];split
  ·exact(nH r).cons _
  ·exact(nH r).cons_cons _
theorem C5:∀{ids:List Nat} {i j:Nat},lk (pK ids) i=some j->i=j/\Aa i ids=true
 | [],i,j,h=>by simp[pK,lk] at h
 | k::r,i,j,h=>by
  simp only[pK,lk] at h;split at h
  ·rename_i e;cases h;exact⟨(T2 e).symm,by simp only[Aa,e]⟩
  ·rename_i e;obtain⟨h1,h2⟩:=C5 h;exact⟨h1,by simp only[Aa,e];exact h2⟩
theorem NL:∀{ids:List Nat} {i:Nat},Aa i ids=true->lk (pK ids) i=some i
 | [],i,h=>by simp[Aa] at h
 | k::r,i,h=>by
  simp only[Aa] at h;simp only[pK,lk];split at h
  ·rename_i e;rw[e,T2 e]
  ·rename_i e;rw[e];exact NL h
theorem sG:∀{ids:List Nat} {n i:Nat},I7 n ids=true->Aa i ids=true->i<n
 | [],n,i,_,h=>by simp[Aa] at h
 | k::r,n,i,h1,h=>by
  simp only[I7,Tz] at h1;simp only[Aa] at h;split at h
  ·rename_i e;rw[←T2 e];exact T3 h1.1
  ·exact sG h1.2 h
theorem qT:∀{m:aN} {ids:List Nat},CK ids m=true->∀p∈m,Aa p.1 ids=true
 | [],ids,_,p,hp=>by cases hp
 | (k,b)::r,ids,h,p,hp=>by
  simp only[CK,Tz] at h;rcases T6.1 hp with rfl|hp
  ·exact h.1
  ·exact qT h.2 p hp
theorem aE.useI{P:Program}{Γ:List (Nat × AV)}{F:FuncId}{args args':List AV}{ms mem:aN}{ns nx:Nat}{Qs K:AV->aN->Nat->Prop}(hΓ:∀p∈Γ,NN p.2)(ids:List Nat)(h:aE P Γ F args' ms ns Qs)
  (hp:kU ids mem=ms) (hargs:jJ ms (pK ids) args args') (hM:dE ms (pK ids) ms) (hc:(rF ms && I7 ns ids)=true)
  (hk:∀r m n,Qs r m n->NN r/\dE m (pK ids) m/\(rF m && CK ids m)=true/\K r (m++iZ ids mem) nx):aE P Γ F args mem nx K:=by
 simp only[Tz] at hc;refine⟨fun X D ρ w vs hD hm hv=>?_⟩;have hinj:NX (pK ids):=fun i j k h1 h2=>by
  have a:=(C5 h1).1;have b:=(C5 h2).1;omega
 refine(aE.use (K:=K) (nx:=nx) hΓ h (pK ids) (m1:=ms) (rest:=iZ ids mem) ⟨fun p hp'=>?_,fun p hp'=>(dF.1 hp').1,fun p hp'=>?_,fun p h1 q h2=>?_, ?_⟩ ?_ hargs hM.cvm (fE hc.1) hinj (fun id i hl=>?_) ?_).run X D ρ w vs hD hm hv
 ·rw[←hp] at hp';exact(eF.1 hp').1
 ·cases hi:Aa p.1 ids with
  | true=>left;rw[←hp];exact eF.2 ⟨hp',hi⟩
  | false=>right;exact dF.2 ⟨hp',hi⟩
 ·rw[←hp] at h1;have a:=(eF.1 h1).2;have b:=(dF.1 h2).2;intro e;rw[e,b] at a;cases a
 ·rw[←hp];exact hm.nod.sublist ((nF mem).map _)
 ·exact hm.nod.sublist ((nH mem).map _)
 ·obtain⟨h1,h2⟩:=C5 hl;rw[←h1];exact sG hc.2 h2
 ·intro r m n hq hn;obtain⟨h1,h2,h3,h4⟩:=hk r m n hq;simp only[Tz] at h3;refine⟨pK ids,r,m,nx,UC _,.same r h1,h2.cvm,fE h3.1,hinj,fun i id hl=>?_,fun p h5 q h6=>?_,h4⟩
  ·obtain⟨e1,e2⟩:=C5 hl;subst e1;exact .inl ⟨sG hc.2 e2,NL e2⟩
  ·have a:=qT h3.2 p h5;have b:=(dF.1 h6).2;intro e;rw[e,b] at a;cases a
def rA:List (Nat × Nat)->List Nat
 | []=>[]
 | (i,_)::r=>i::rA r
def Et:List (Nat × Nat)->List (Nat × Nat)
 | []=>[]
 | (i,j)::r=>(j,i)::Et r
def Bt(n:Nat):List (Nat × Nat)->Bool
 | []=>true
 | (_,j)::r=>Nat.blt j n && Bt n r
theorem BU:∀{σ:List (Nat × Nat)} {i j:Nat},(j,i)∈Et σ↔(i,j)∈σ
 | [],i,j=>by simp[Et]
 | (a,b)::r,i,j=>by
  simp only[Et,T6,BU (σ:=r),Prod.mk.injEq];constructor
  ·rintro(⟨rfl,rfl⟩|h)
   ·exact .inl ⟨rfl,rfl⟩
   ·exact .inr h
  ·rintro(⟨rfl,rfl⟩|h)
   ·exact .inl ⟨rfl,rfl⟩
   ·exact .inr h
theorem J3{σ:List (Nat × Nat)}(h:rG (Et σ)=true){i j:Nat}(hm:(i,j)∈σ):lk σ i=some j:=by
 induction σ with
 | nil=>cases hm
 | cons p r ih=>
  obtain⟨a,b⟩:=p;simp only[Et,rG,Tz] at h;simp only[lk];rcases T6.1 hm with e|hm'
  ·cases e;simp
  ·have hne:a≠i:=by
    intro e;subst e;exact oK h.1 _ (BU.2 hm') rfl
   rw[l6 hne];exact ih h.2 hm'
theorem mW:∀{σ:List (Nat × Nat)} {n:Nat},Bt n σ=true->∀p∈σ,p.2<n
 | [],n,_,p,hp=>by cases hp
 | (a,b)::r,n,h,p,hp=>by
  simp only[Bt,Tz] at h;rcases T6.1 hp with rfl|hp
  ·exact T3 h.1
  ·exact mW h.2 p hp
theorem aE.useR{P:Program}{Γ:List (Nat × AV)}{F:FuncId}{args args':List AV}{ms mem m1:aN}{ns nx:Nat}{Qs K:AV->aN->Nat->Prop}(hΓ:∀p∈Γ,NN p.2)(σ:List (Nat × Nat))(h:aE P Γ F args' ms ns Qs)
  (hp:kU (rA σ) mem=m1) (hargs:jJ m1 σ args args') (hM:dE m1 σ ms) (hc:(rF ms && (rG σ && (rG (Et σ) && Bt ns σ)))=true)
  (hk:∀r m n,Qs r m n->∃m',NN r/\dE m (Et σ) m'/\(rF m' && CK (rA σ) m')=true/\K r (m'++iZ (rA σ) mem) nx):aE P Γ F args mem nx K:=by
 simp only[Tz] at hc;obtain⟨hc1,hc2,hc3,hc4⟩:=hc;refine⟨fun X D ρ w vs hD hm hv=>?_⟩;refine(aE.use (K:=K) (nx:=nx) hΓ h σ (m1:=m1) (rest:=iZ (rA σ) mem) ⟨fun p hp'=>?_,fun p hp'=>(dF.1 hp').1,fun p hp'=>?_,fun p h1 q h2=>?_, ?_⟩ ?_ hargs hM.cvm (fE hc1) (n9 hc2) (fun id i hl=>mW hc4 _ (bK hl)) ?_).run X D ρ w vs hD hm hv
 ·rw[←hp] at hp';exact(eF.1 hp').1
 ·cases hi:Aa p.1 (rA σ) with
  | true=>left;rw[←hp];exact eF.2 ⟨hp',hi⟩
  | false=>right;exact dF.2 ⟨hp',hi⟩
 ·rw[←hp] at h1;have a:=(eF.1 h1).2;have b:=(dF.1 h2).2;intro e;rw[e,b] at a;cases a
 ·rw[←hp];exact hm.nod.sublist ((nF mem).map _)
 ·exact hm.nod.sublist ((nH mem).map _)
 ·intro r m n hq hn;obtain⟨m',h1,h2,h3,h4⟩:=hk r m n hq;simp only[Tz] at h3;refine⟨Et σ,r,m',nx,UC _,.same r h1,h2.cvm,fE h3.1,n9 hc3,fun i id hl=>?_,fun p h5 q h6=>?_,h4⟩
  ·have hmem:=BU.1 (bK hl);exact .inl ⟨mW hc4 _ hmem,J3 hc3 hmem⟩
  ·have a:=qT h3.2 p h5;have b:=(dF.1 h6).2;intro e;rw[e,b] at a;cases a
end Go.Ax
namespace Go.Ax
open Go
def QE(w w':World):Prop:=w.heap.size<=w'.heap.size/\(∀b,b<w.heap.size->w'.heap[b]? = w.heap[b]?)/\Dk w w'
theorem QE.refl(w:World):QE w w:=⟨UC _,fun _ _=>rfl,.refl _⟩
section
variable {P:Program} {Γ:List (Nat × AV)} {F:FuncId} {args:List AV} {r:AV}
end
def kI(l:List UInt8):List AV:=l.map fun b=>.int .u8 (b.toNat:Int)
theorem f9(l:List UInt8):kH (kI l):=fun a ha=>by
 obtain⟨n,_,rfl⟩:=US.1 ha;exact .int _ _
theorem gQ(l:List UInt8):(kI l).length=l.length:=by rw[kI,VW]
theorem mD(l m:List UInt8):kI (l++m)=kI l++kI m:=by rw[kI,kI,kI,VP]
theorem x7:∀l:List UInt8,fG (kI l)=some l
 | []=>rfl
 | b::r=>by
  show fG (AV.int .u8 (b.toNat:Int)::kI r)=_
  simp only[fG,x7 r];simp
end Go.Ax
namespace Go.Ax
open Go Go.RowKit
theorem wB{P:Program}{w:World}{n:String}{g:Nat}{k:IntKind}{zs:List Int}(hg:P.globalNamed n=some g)(hv:Lib.TabIs P w n k zs) :
  VR (fun _=>⟨0,0,0⟩) (fun _=>False) (OX (fun _=>False) (fun _=>⟨0,0,0⟩) []) w (.ip (.agg (zs.map fun z=>AV.int k z))) (.pointer (some ⟨g,0,none⟩)):=by
 refine .ip _ g 0 (fun j=>.int k (zs.getD j 0)) (fun j c hj=>?_) (fun j c hj=>?_)
 ·have hj0:j<zs.length:=by have:=(T0.1 hj).1;simpa[AV.cells] using this
  exact⟨My _ _,by simpa using hv.cell hg j hj0,rfl⟩
 ·have hj0:j<zs.length:=by have:=(T0.1 hj).1;simpa[AV.cells] using this
  simp[AV.cells,Uh,Ty hj0] at hj;subst hj;simp[T1,Ty hj0];exact .int _ _
end Go.Ax
namespace Go.Ax
open Go
mutual
def aY:aT->Nat
 | .mk _ _ _ kids=>1+bO kids
def bO:List aT->Nat
 | []=>0
 | v::r=>aY v+bO r
end
mutual
def gW:aT->Nat
 | .mk _ _ _ kids=>eQ kids+1
def eQ:List aT->Nat
 | []=>0
 | v::r=>max (gW v) (eQ r)
end
theorem vV:∀(l:List aT) (v:aT),bO (l++[v])=bO l+aY v
 | [],v=>by simp[bO]
 | a::r,v=>by simp only[Uv,bO,vV r v];omega
theorem xO:∀(l m:List aT),bO (l++m)=bO l+bO m
 | [],v=>by simp[bO]
 | a::r,v=>by simp only[Uv,bO,xO r v];omega
theorem AY:∀(l:List aT) (v:aT),eQ (l++[v])=max (eQ l) (gW v)
 | [],v=>by simp[eQ]
 | a::r,v=>by simp only[Uv,eQ,AY r v];omega
theorem EK:∀v:aT,1<=aY v
 | .mk _ _ _ kids=>by simp only[aY];omega
theorem oC{l:List aT}{k:Nat}(h:k<l.length):bO (l.take (k+1))=bO (l.take k)+aY l[k]:=by
 rw[T9 h,vV]
theorem Ff{l:List aT}{k:Nat}(h:k<l.length):eQ (l.take (k+1))=max (eQ (l.take k)) (gW l[k]):=by
 rw[T9 h,AY]
theorem jE(l:List aT)(k:Nat):bO (l.take k)<=bO l:=by
 have:=xO (l.take k) (l.drop k);rw[Ug] at this;omega
theorem EI{l:List aT}{v:aT}(h:v∈l):aY v<=bO l:=by
 induction l with
 | nil=>cases h
 | cons a r ih=>
  simp only[bO];rcases T6.1 h with rfl|h
  ·omega
  ·have:=ih h;omega
theorem uC(l:List aT):l.length<=bO l:=by
 induction l with
 | nil=>simp
 | cons a r ih=>simp only[bO,Ul];have:=EK a;omega
mutual
theorem oT:∀v:aT,gW v<=aY v
 | .mk _ _ _ kids=>by simp only[gW,aY];have:=sA kids;omega
theorem sA:∀l:List aT,eQ l<=bO l
 | []=>by simp[eQ]
 | v::r=>by simp only[eQ,bO];have:=oT v;have:=sA r;omega
end
def uJ(c:Int):Bool:=(decide (97<=c) && decide (c<=122)) || (decide (65<=c) && decide (c<=90)) || (decide (48<=c) && decide (c<=57)) || decide (c=95)
def upper(c:Int):Bool:=decide (65<=c) && decide (c<=90)
def eH:List UInt8->Bool
 | []=>false
 | c::r=>decide (r.length<16) && upper c.toNat && r.all fun c=>uJ c.toNat
theorem Gy{c:Int}(h:upper c=true):uJ c=true:=by
 simp[upper,uJ] at *;omega
def cE(k n:Int)(s:List UInt8)(len:Nat):Bool:=
 if k=0 then decide (s=[]) && decide (len=0)
 else if k=1 then(decide (n=0) || decide (n=1)) && decide (s=[]) && decide (len=0)
 else if k=2 then decide (n=0) && decide (s=[])
 else if k=3 then decide (n=0) && eH s
 else false
def tC(k:Int)(len:Nat):Bool:=decide (len<=256) && (decide (k≠3) || decide (len<=16))
mutual
def bI:aT->Bool
 | .mk k n s kids=>cE k n s kids.length && cC kids
def cC:List aT->Bool
 | []=>true
 | v::r=>bI v && cC r
end
mutual
def vF:aT->Bool
 | .mk k _ _ kids=>tC k kids.length && xM kids
def xM:List aT->Bool
 | []=>true
 | v::r=>vF v && xM r
end
def wW(k:Int)(len:Nat):Bool:=(decide (k=2) && decide (256<len)) || (decide (k=3) && decide (16<len))
mutual
def jD:aT->Bool
 | .mk k _ _ kids=>wW k kids.length || oE kids
def oE:List aT->Bool
 | []=>false
 | v::r=>jD v || oE r
end
theorem Hd{k n:Int}{s:List UInt8}{len:Nat}(h:cE k n s len=true):wW k len = !tC k len:=by
 rw[Ue];unfold cE at h;simp only[wW,tC,U5,Tz,UJ,Bool.not_eq_true',V2,Vk,Vl];repeat' split at h
 all_goals simp at h
 all_goals omega
mutual
theorem zJ:∀v:aT,bI v=true->jD v = !vF v
 | .mk k n s kids,h=>by
  simp only[bI,Tz] at h;rw[jD,vF,Hd h.1,BL kids h.2,Bool.not_and]
theorem BL:∀l:List aT,cC l=true->oE l = !xM l
 | [],_=>rfl
 | v::r,h=>by
  simp only[cC,Tz] at h;rw[oE,xM,zJ v h.1,BL r h.2,Bool.not_and]
end
def bS(v:aT):Int:=if bI v=false then 1 else if jD v=true∨1024<aY v then 4 else 0
theorem mS{l:List aT}{k:Nat}(h:k<l.length):cC (l.take (k+1))=(cC (l.take k) && bI l[k]):=by
 rw[T9 h];generalize l.take k=m
 induction m with
 | nil=>simp[cC]
 | cons a r ih=>simp only[Uv,cC,ih,XD]
theorem HY{l:List aT}{k:Nat}(h:k<l.length):oE (l.take (k+1))=(oE (l.take k) || jD l[k]):=by
 rw[T9 h];generalize l.take k=m
 induction m with
 | nil=>simp[oE]
 | cons a r ih=>simp only[Uv,oE,ih,Bool.or_assoc]
theorem mC:∀{l:List aT} {v:aT},v∈l->bI v=false->cC l=false
 | a::r,v,h,hf=>by
  simp only[cC];rcases T6.1 h with rfl|h
  ·rw[hf];rfl
  ·rw[mC h hf];simp
theorem D3:∀{l:List aT} {v:aT},v∈l->jD v=true->oE l=true
 | a::r,v,h,hf=>by
  simp only[oE];rcases T6.1 h with rfl|h
  ·rw[hf];rfl
  ·rw[D3 h hf];simp
mutual
def mJ{S:Type}(st:S->aT->Nat->Bool × S):aT->Nat->S->Bool × S
 | .mk k n s kids,d,x=>match st x (.mk k n s kids) d with
  | (false,y)=>(false,y)
  | (true,y)=>nM st kids (d+1) y
def nM{S:Type}(st:S->aT->Nat->Bool × S):List aT->Nat->S->Bool × S
 | [],_,x=>(true,x)
 | v::r,d,x=>match mJ st v d x with
  | (false,y)=>(false,y)
  | (true,y)=>nM st r d y
end
def c8(x:Nat × Bool × Bool)(v:aT)(_:Nat):Bool × (Nat × Bool × Bool):=
 match v with
 | .mk k n s kids=>(x.2.1 && cE k n s kids.length,(x.1+1,x.2.1 && cE k n s kids.length,x.2.2 && tC k kids.length))
mutual
theorem EE:∀(v:aT) (d n:Nat) (sm:Bool),∃n',mJ c8 v d (n,true,sm)=(bI v,(n',bI v,if bI v then sm && vF v else(mJ c8 v d (n,true,sm)).2.2.2))/\n'<=n+aY v/\(bI v=true->n'=n+aY v)
 | .mk k m s kids,d,n,sm=>by
  cases hf:cE k m s kids.length with
  | false=>
   refine⟨n+1, ?_,by simp only[aY];omega,fun h=>?_⟩
   ·simp only[mJ,c8,hf,Vw,bI,Vx,VI,if_false]
   ·simp[bI,hf] at h
  | true=>
   obtain⟨n',h1,h2,h3⟩:=CN kids (d+1) (n+1) (sm && tC k kids.length);refine⟨n', ?_,by simp only[aY];omega,fun h=>?_⟩
   ·simp only[mJ,c8,hf,Bool.and_true,bI,V9];rw[h1];cases cC kids with
    | true=>simp[vF,XD]
    | false=>simp
   ·simp only[bI,hf,V9] at h;rw[h3 h];simp only[aY];omega
theorem CN:∀(l:List aT) (d n:Nat) (sm:Bool),∃n',nM c8 l d (n,true,sm)=(cC l,(n',cC l,if cC l then sm && xM l else(nM c8 l d (n,true,sm)).2.2.2))/\n'<=n+bO l/\(cC l=true->n'=n+bO l)
 | [],d,n,sm=>⟨n,by simp[nM,cC,xM],by simp,fun _=>by simp[bO]⟩
 | v::r,d,n,sm=>by
  obtain⟨n1,h1,h2,h3⟩:=EE v d n sm;cases hf:bI v with
  | false=>
   rw[hf] at h1;refine⟨n1, ?_,by simp only[bO];omega,fun h=>?_⟩
   ·simp only[nM,cC,hf,Vx,VI,if_false];rw[h1]
   ·simp[cC,hf] at h
  | true=>
   rw[hf] at h1;simp only[if_true] at h1;obtain⟨n2,g1,g2,g3⟩:=CN r d n1 (sm && vF v);refine⟨n2, ?_,by simp only[bO];omega,fun h=>?_⟩
   ·simp only[nM,cC,hf,V9];rw[h1];simp only;rw[g1];cases cC r with
    | true=>simp[xM,XD]
    | false=>simp
   ·simp only[cC,hf,V9] at h;rw[g3 h,h3 hf];simp only[bO];omega
end
theorem LG(v:aT):(match (mJ c8 v 1 (0,true,true)).2 with|(n,good,small)=>if good=false then(1:Int) else if small=false∨1024<n then 4 else 0)=bS v:=by
 obtain⟨n',h1,h2,h3⟩:=EE v 1 0 true;rw[h1];unfold bS;cases hf:bI v with
 | false=>simp
 | true=>
  rw[zJ v hf,h3 hf];simp
theorem iT{k n:Int}(hk:i64 k)(hn:i64 n):g5 (.mk k n [] []):=by
 simp only[g5,o9];exact⟨hk,hn,by simp,by simp,trivial⟩
theorem kL{n:Int}{l:List aT}{k:Int}{s:List UInt8}(hk:i64 k)(hn:i64 n)(hs:s.length<=4294967296)(hl:l.length<=4294967296)(h:o9 l):g5 (.mk k n s l):=by
 simp only[g5];exact⟨hk,hn,hs,hl,h⟩
theorem vJ{s:List UInt8}{a:UInt8}(h0:s[0]? = some a)(hl:s.length<=16)(hu:upper a.toNat=true)(hall:∀(j:Nat) (c:UInt8),s[j]? = some c->uJ c.toNat=true):eH s=true:=by
 cases s with
 | nil=>simp at h0
 | cons b r=>
  simp at h0;subst h0;simp only[eH,Tz,UJ,VQ];refine⟨⟨by simp at hl;omega,hu⟩,fun c hc=>?_⟩;obtain⟨j,hj⟩:=Ui hc;exact hall (j+1) c (by simpa using hj)
theorem rP{s:List UInt8}(h:s.length<1):eH s=false:=by
 cases s with
 | nil=>rfl
 | cons b r=>simp at h
theorem kN{s:List UInt8}(h:16<s.length):eH s=false:=by
 cases s with
 | nil=>rfl
 | cons b r=>simp only[eH];simp at h;rw[UO (by omega)];rfl
theorem jS{s:List UInt8}{a:UInt8}(h0:s[0]? = some a)(hu:upper a.toNat=false):eH s=false:=by
 cases s with
 | nil=>rfl
 | cons b r=>simp at h0;subst h0;simp only[eH];rw[hu];simp
theorem vY{s:List UInt8}{j:Nat}{c:UInt8}(h:s[j]? = some c)(hc:uJ c.toNat=false):eH s=false:=by
 cases s with
 | nil=>rfl
 | cons b r=>
  cases j with
  | zero=>
   simp at h;subst h;refine jS (a:=b) rfl ?_;cases hu:upper b.toNat with
   | false=>rfl
   | true=>rw[Gy hu] at hc;cases hc
  | succ j=>
   simp only[eH];have:(r.all fun c=>uJ c.toNat)=false:=by
    rw[Vc];intro hall;rw[VQ] at hall;have:=hall c (UA (by simpa using h));rw[hc] at this;cases this
   rw[this];simp
mutual
def xS(g:Nat->Nat->Nat):aT->Nat->Nat->Nat
 | .mk _ _ _ kids,d,x=>rL g kids (d+1) (g x d)
def rL(g:Nat->Nat->Nat):List aT->Nat->Nat->Nat
 | [],_,x=>x
 | v::r,d,x=>rL g r d (xS g v d x)
end
theorem Do(g:Nat->Nat->Nat):∀(l:List aT) (v:aT) (d x:Nat),rL g (l++[v]) d x=xS g v d (rL g l d x)
 | [],v,d,x=>by simp[rL]
 | a::r,v,d,x=>by simp only[Uv,rL];exact Do g r v d _
theorem J0(g:Nat->Nat->Nat){l:List aT}{k:Nat}(h:k<l.length)(d x:Nat):rL g (l.take (k+1)) d x=xS g l[k] d (rL g (l.take k) d x):=by
 rw[T9 h,Do]
mutual
theorem O7{g:Nat->Nat->Nat}(hg:∀n d,g n d<=max (n+1) d):∀(v:aT) (d n:Nat),xS g v d n<=max n (d+gW v)+aY v
 | .mk k m s kids,d,n=>by
  simp only[xS,gW,aY];have h1:=hg n d;have h2:=FG hg kids (d+1) (g n d);omega
theorem FG{g:Nat->Nat->Nat}(hg:∀n d,g n d<=max (n+1) d):∀(l:List aT) (d n:Nat),rL g l d n<=max n (d+eQ l)+bO l
 | [],d,n=>by simp only[rL];omega
 | v::r,d,n=>by
  simp only[rL,eQ,bO];have h1:=O7 hg v d n;have h2:=FG hg r d (xS g v d n);omega
end
mutual
theorem GU:∀(v:aT) (d n:Nat),xS (fun n _=>n+1) v d n=n+aY v
 | .mk k m s kids,d,n=>by simp only[xS,aY];rw[EO];omega
theorem EO:∀(l:List aT) (d n:Nat),rL (fun n _=>n+1) l d n=n+bO l
 | [],d,n=>by simp[rL,bO]
 | v::r,d,n=>by simp only[rL,bO];rw[GU,EO];omega
end
theorem EC{S:Type}(st:S->aT->Nat->Bool × S):∀(l:List aT) (v:aT) (d:Nat) (x:S),nM st (l++[v]) d x=match nM st l d x with|(false,y)=>(false,y)|(true,y)=>mJ st v d y
 | [],v,d,x=>by
  simp only[Um,nM];cases mJ st v d x with|mk b y=>cases b<;>rfl
 | a::r,v,d,x=>by
  simp only[Uv,nM];cases mJ st a d x with
  | mk b y=>cases b with
   | false=>rfl
   | true=>exact EC st r v d y
theorem Jy{S:Type}(st:S->aT->Nat->Bool × S){l:List aT}{k:Nat}(h:k<l.length)(d:Nat)(x y:S)(hx:nM st (l.take k) d x=(true,y)):nM st (l.take (k+1)) d x=mJ st l[k] d y:=by
 rw[T9 h,EC,hx]
theorem Dz{S:Type}(st:S->aT->Nat->Bool × S):∀{l m:List aT} {d:Nat} {x y:S},nM st l d x=(false,y)->nM st (l++m) d x=(false,y)
 | [],m,d,x,y,h=>by simp[nM] at h
 | a::r,m,d,x,y,h=>by
  simp only[nM] at h;simp only[Uv,nM];cases he:mJ st a d x with
  | mk b z=>
   rw[he] at h;cases b with
   | false=>simpa using h
   | true=>exact Dz st h
theorem vU:∀{l:List aT} {v:aT},v∈l->gW v<=eQ l
 | a::r,v,h=>by
  simp only[eQ];rcases T6.1 h with rfl|h
  ·omega
  ·have:=vU h;omega
theorem uU:∀(l m:List aT),eQ (l++m)=max (eQ l) (eQ m)
 | [],m=>by simp[eQ]
 | a::r,m=>by simp only[Uv,eQ,uU r m];omega
theorem CV(l:List aT)(k:Nat):eQ (l.take k)<=eQ l:=by
 have:=uU (l.take k) (l.drop k);rw[Ug] at this;omega
mutual
theorem OS:∀(v:aT) (d:Nat) (x:Nat × Bool × Bool),(mJ c8 v d x).2.1<=x.1+aY v
 | .mk k n s kids,d,x=>by
  simp only[mJ,c8,aY];split
  ·rename_i h;simp only[Prod.mk.injEq] at h;rw[←h.2];simp only;omega
  ·rename_i h;simp only[Prod.mk.injEq] at h;rw[←h.2];have:=CG kids (d+1) (x.1+1,x.2.1 && cE k n s kids.length,x.2.2 && tC k kids.length);simp only at this;omega
theorem CG:∀(l:List aT) (d:Nat) (x:Nat × Bool × Bool),(nM c8 l d x).2.1<=x.1+bO l
 | [],d,x=>by simp[nM]
 | v::r,d,x=>by
  simp only[nM,bO];have h1:=OS v d x;split
  ·rename_i y h;rw[h] at h1;simp only at h1 ⊢;omega
  ·rename_i y h;rw[h] at h1;have:=CG r d y;simp only at h1;omega
end
structure Nd where
 kind:Int
 name:List UInt8
 lo:Int
 hi:Int
 weights:List Int
 labels:List (List UInt8)
 values:List aT
 kids:List Int
 value:aT
def FL(l:List (List UInt8)):List AV:=l.map AV.str
def cN(x:Nd):AV:=
 match x.value with
 | .mk k n s ks=>.agg [.int .i64 x.kind,.str x.name,.int .i64 x.lo,.int .i64 x.hi,.il 1 (bG x.weights),.il 1 (FL x.labels),.il 4 (aS x.values),.il 1 (bG x.kids),.int .i64 k,.int .i64 n,.str s,.il 4 (aS ks)]
def bD(l:List Nd):List AV:=l.map cN
theorem Fb(l:List (List UInt8)):kH (FL l):=fun a ha=>by
 obtain⟨n,_,rfl⟩:=US.1 ha;exact .str _
theorem cA(l:List (List UInt8)):(FL l).length=l.length:=by rw[FL,VW]
theorem aW(x:Nd):NN (cN x):=by
 unfold cN;split;exact .agg' (.cons (.int _ _) (.cons (.str _) (.cons (.int _ _) (.cons (.int _ _) (.cons (.il' (a8 _)) (.cons (.il' (Fb _)) (.cons (.il' (bC _)) (.cons (.il' (a8 _)) (.cons (.int _ _) (.cons (.int _ _) (.cons (.str _) (.cons (.il' (bC _)) .nil))))))))))))
theorem aX(l:List Nd):kH (bD l):=fun a ha=>by
 obtain⟨n,_,rfl⟩:=US.1 ha;exact aW n
theorem cO(l:List Nd):(bD l).length=l.length:=by rw[bD,VW]
theorem lG(l:List Nd)(i:Nat):(bD l)[i]? = (l[i]?).map cN:=by rw[bD,Uh]
structure rJ(x:Nd):Prop where
 kind:i64 x.kind
 name:x.name.length<=4294967296
 lo:i64 x.lo
 hi:i64 x.hi
 weights:x.weights.length<=4294967296
 weightsI:∀w∈x.weights,i64 w
 labels:x.labels.length<=4294967296
 labelsI:∀w∈x.labels,w.length<=4294967296
 values:x.values.length<=4294967296
 valuesI:∀v∈x.values,g5 v/\aY v<=4294967296
 kids:x.kids.length<=4294967296
 kidsI:∀k∈x.kids,i64 k
 value:g5 x.value
 valueS:aY x.value<=4294967296
def CC:aT->Bool
 | .mk k n s ks=>decide (k=0) && decide (n=0) && decide (s=[]) && decide (ks.length=0)
def jH(x:Nd):Bool:=
 (decide (x.kind=0) || CC x.value) && (decide (x.kind=1) || (decide (x.lo=0) && decide (x.hi=0))) && (decide (x.kind=3) || decide (x.name=[])) &&
 (decide (x.kind=2) || (decide (x.weights.length=0) && decide (x.labels.length=0))) && (decide (x.kind=4) || decide (x.values.length=0)) && ((decide (x.kind≠0) && decide (x.kind≠1)) || decide (x.kids.length=0))
def dQ:List aT->Bool
 | a::b::r=>decide (bR a b<0) && dQ (b::r)
 | _=>true
def mM(i:Int)(l:List Int):Bool:=l.all fun k=>decide (0<=k) && decide (k<i)
def c7(i:Int)(x:Nd):Bool:=
 jH x && (decide (0<=x.kind) && decide (x.kind<=4)) && mM i x.kids &&
 (decide (x.kind≠2) || (decide (1<=x.kids.length) && decide (x.kids.length<=256) && decide (x.weights.length=x.kids.length) && (decide (x.labels.length=0) || decide (x.labels.length=x.kids.length)))) &&
 (decide (x.kind≠3) || (decide (x.kids.length<=256) && (decide (x.name=[]) || (eH x.name && decide (x.kids.length<=16))))) &&
 (decide (x.kind≠4) || decide (x.kids.length=x.values.length+1)) && dQ x.values
def dG(x:Nd):Bool:=
 decide (x.lo<=x.hi) && decide (-4611686018427387904<=x.lo) && decide (x.hi<=4611686018427387904) && decide (x.hi<x.lo+1099511627776) && x.weights.all fun w=>decide (1<=w) && decide (w<=1000)
def dS:List aT->Int
 | []=>0
 | v::r=>if bS v≠0 then bS v else dS r
def nL(x:Nd):List aT:=(if x.kind=0 then [x.value] else [])++x.values
def fF(i:Int)(x:Nd):Int:=
 if c7 i x=false then 1 else if dS (nL x)≠0 then dS (nL x) else if dG x=false then 5 else 0
def dV(l:List Int)(k:Int):Int:=l.getD k.toNat 0
def f8(before kids:List Int):Int:=kids.foldl (fun s k=>s+dV before k) 0
def cS(before kids:List Int):Int:=kids.foldl (fun s k=>max s (dV before k)) 0
def eJ(x:Nd):List Int:=if x.kind=2 then x.kids else x.kids.drop 1
def gZ(before:List Int)(x:Nd):Int:=
 if x.kind=0 then 0 else if x.kind=1 then 1 else if x.kind=3 then f8 before x.kids else if x.kind=2 then 1+cS before (eJ x) else dV before (x.kids.getD 0 0)+cS before (eJ x)
def kY(before:List Int)(x:Nd):Int:=
 if x.kind=0 then aY x.value else if x.kind=1 then 1 else if x.kind=3 then 1+f8 before x.kids else cS before (eJ x)
structure iB where
 vals:List aT
 many:Bool
def dO(name:List UInt8)(kids:List aT):aT:=if name=[] then .mk 2 0 [] kids else .mk 3 0 name kids
def dB(l:List iB)(k:Int):iB:=l.getD k.toNat ⟨[],false⟩
def fL(lo hi:Int):List aT:=(List.range (hi+1-lo).toNat).map fun i:Nat=>.mk 0 (lo+(i:Int)) [] []
def bX(before:List iB)(x:List aT × Bool)(k:Int):List aT × Bool:=
 (eB (x.1++(dB before k).vals),x.2 || (dB before k).many || decide (1024<(eB (x.1++(dB before k).vals)).length))
def mY(before:List iB)(kids:List Int):iB:=
 if (kids.foldl (bX before) ([],false)).2 then⟨[],true⟩ else⟨(kids.foldl (bX before) ([],false)).1,false⟩
def eO(rows:List (List aT))(l:List aT):List (List aT):=rows.flatMap fun r=>l.map fun v=>r++[v]
def fT(before:List iB):List Int->List (List aT)->Option (List (List aT))
 | [],rows=>some rows
 | k::r,rows=>if (dB before k).many=true∨1024<rows.length*(dB before k).vals.length then none else fT before r (eO rows (dB before k).vals)
def pL(before:List iB)(x:Nd):iB:=
 match fT before x.kids [[]] with
 | none=>⟨[],true⟩
 | some rows=>⟨eB (rows.map (dO x.name)),false⟩
def dA(x:Nd)(before:List iB):iB:=
 if x.kind=0 then⟨[x.value],false⟩
 else if x.kind=1 then(if 1024<=x.hi-x.lo then⟨[],true⟩ else⟨fL x.lo x.hi,false⟩)
 else if x.kind=3 then pL before x
 else mY before (if x.kind=4 then x.kids.drop 1 else x.kids)
def aL(nodes:List Nd):List iB:=nodes.foldl (fun out x=>out++[dA x out]) []
def cL:List aT->List aT->Bool
 | [],[]=>true
 | a::l,b::m=>decide (bR a b=0) && cL l m
 | _,_=>false
def fZ(nodes:List Nd)(x:Nd):Int:=
 let l:=dB (aL (nodes.take ((x.kids.getD 0 0).toNat+1))) (x.kids.getD 0 0)
 if l.many=true then 4 else if cL l.vals x.values=true then 0 else 1
def gM(before:List Nd)(ls ss:List Int)(x:Nd):Int:=
 if fF before.length x≠0 then fF before.length x
 else if 256<gZ ls x∨1024<kY ss x then 4
 else if x.kind=4 then fZ before x else 0
def bQ(nodes:List Nd):List Int:=nodes.foldl (fun ls x=>ls++[gZ ls x]) []
def cQ(nodes:List Nd):List Int:=nodes.foldl (fun ls x=>ls++[kY ls x]) []
def cD:List Nd->List Nd->Int
 | _,[]=>0
 | before,x::r=>if gM before (bQ before) (cQ before) x≠0 then gM before (bQ before) (cQ before) x else cD (before++[x]) r
def dD(nodes:List Nd):Int:=if 4096<nodes.length then 4 else cD [] nodes
theorem fR:∀(b l:List Nd) (x:Nd),cD b l=0->cD b (l++[x])=gM (b++l) (bQ (b++l)) (cQ (b++l)) x
 | b,[],x,h=>by
  simp only[Um,cD,Vn];split
  ·rfl
  ·rename_i h1;simpa using (Eq.symm (Decidable.not_not.1 h1))
 | b,y::r,x,h=>by
  simp only[Uv,cD] at h ⊢;split at h
  ·rename_i h1;exact absurd h h1
  ·rename_i h1;rw[T5 h1,fR (b++[y]) r x h];simp
theorem lF(l:List Nd)(x:Nd):bQ (l++[x])=bQ l++[gZ (bQ l) x]:=by simp[bQ]
theorem lP(l:List Nd)(x:Nd):cQ (l++[x])=cQ l++[kY (cQ l) x]:=by simp[cQ]
theorem gR(l:List Nd)(x:Nd):aL (l++[x])=aL l++[dA x (aL l)]:=by simp[aL]
def qP(n most:Int):Int:=(if n<0 then -(n+1) else n).tmod most
def kX(l:List Int)(i most:Int):Int:=if i<0∨(l.length:Int)<=i then 0 else qP (l.getD i.toNat 0) most
theorem DP{n most:Int}(h:1<=most):0<=qP n most/\qP n most<most:=by
 unfold qP;have h0:0<=(if n<0 then -(n+1) else n):=by split<;>omega
 exact⟨Vo _ h0,VZ _ (by omega)⟩
theorem kC{l:List Int}{i most:Int}(h:1<=most):0<=kX l i most/\kX l i most<most:=by
 unfold kX;split
 ·omega
 ·exact DP h
def u6(k:Int):aT:=
 if k.tmod 4=0 then .mk 0 ((k.tdiv 4).tmod 9-4) [] []
 else if k.tmod 4=1 then .mk 1 ((k.tdiv 4).tmod 2) [] []
 else if k.tmod 4=2 then .mk 3 0 (([[76,101,97,102],[82,101,100],[88]]:List (List UInt8)).getD ((k.tdiv 4).tmod 3).toNat []) []
 else .mk 2 0 [] [.mk 0 ((k.tdiv 4).tmod 3) [] []]
def kidI(l:List Int)(i j:Int):Int:=
 if (kX l (3*i+j+2) 1000000).tmod 3=0 then((kX l (3*i+j+2) 1000000).tdiv 3).tmod i else max 0 (i-1-((kX l (3*i+j+2) 1000000).tdiv 3).tmod 3)
theorem jV:∀{l:List aT},(∀(j:Nat) (a b:aT),l[j]? = some a->l[j+1]? = some b->bR a b<0)->dQ l=true
 | [],_=>rfl
 | [a],_=>rfl
 | a::b::r,h=>by
  simp only[dQ,Tz,UJ];exact⟨h 0 a b rfl rfl,jV fun j x y hx hy=>h (j+1) x y (by simpa using hx) (by simpa using hy)⟩
theorem jP:∀{l:List aT},dQ l=true->∀(j:Nat) (a b:aT),l[j]? = some a->l[j+1]? = some b->bR a b<0
 | [],_,j,a,b,h1,h2=>by simp at h1
 | [x],_,j,a,b,h1,h2=>by simp at h2
 | x::y::r,h,j,a,b,h1,h2=>by
  simp only[dQ,Tz,UJ] at h;cases j with
  | zero=>simp at h1 h2;subst h1 h2;exact h.1
  | succ j=>exact jP h.2 j a b (by simpa using h1) (by simpa using h2)
theorem dX{i:Int}{l:List Int}:mM i l=true↔∀(j:Nat) (k:Int),l[j]? = some k->0<=k/\k<i:=by
 simp only[mM,VQ,Tz,UJ];constructor
 ·intro h j k hj;exact h k (UA hj)
 ·intro h k hk;obtain⟨j,hj⟩:=Ui hk;exact h j k hj
theorem Cx:∀{l m:List aT},l.length≠m.length->cL l m=false
 | [],[],h=>absurd rfl h
 | [],_::_,_=>rfl
 | _::_,[],_=>rfl
 | a::l,b::m,h=>by
  rw[cL,Cx (l:=l) (m:=m) (by simpa using h),Vw]
theorem tS{b l:List Int}{k:Nat}(h:k<l.length):f8 b (l.take (k+1))=f8 b (l.take k)+dV b l[k]:=by
 unfold f8;rw[T9 h,U6];rfl
theorem pT{b l:List Int}{k:Nat}(h:k<l.length):cS b (l.take (k+1))=max (cS b (l.take k)) (dV b l[k]):=by
 unfold cS;rw[T9 h,U6];rfl
theorem oD{b l:List Int}{k:Nat}(h:k<l.length)(hk:0<k):cS b ((l.take (k+1)).drop 1)=max (cS b ((l.take k).drop 1)) (dV b l[k]):=by
 rw[T9 h,Wm (by simp;omega)];simp[cS]
theorem lH{b:List Int}{M:Int}(hM:0<=M)(h:∀x∈b,0<=x/\x<=M)(q:Int):0<=dV b q/\dV b q<=M:=by
 unfold dV;rw[T1];cases hq:b[q.toNat]? with
 | none=>simp;omega
 | some x=>exact h x (UA hq)
theorem uA(b:List Int):∀(l:List Int) (s:Int),l.foldl (fun s k=>s+dV b k) s=s+f8 b l
 | [],s=>by simp[f8]
 | a::r,s=>by
  simp only[UR,f8];rw[uA b r,uA b r (0+dV b a)];simp[f8];omega
theorem iP{b:List Int}{M:Int}(hM:0<=M)(h:∀x∈b,0<=x/\x<=M):∀l:List Int,0<=f8 b l/\f8 b l<=l.length*M
 | []=>by simp[f8]
 | a::r=>by
  have h1:=iP hM h r;have h2:=lH hM h a;have e:f8 b (a::r)=dV b a+f8 b r:=by simp only[f8,UR];rw[uA b r];simp[f8]
  rw[e];simp only[Ul];have:((r.length+1:Nat):Int)*M=r.length*M+M:=by rw[VG,Int.add_mul];simp
  omega
theorem Df(b:List Int){M:Int}(h:∀q,0<=dV b q/\dV b q<=M):∀(l:List Int) (s:Int),0<=s->s<=M->0<=l.foldl (fun s k=>max s (dV b k)) s/\l.foldl (fun s k=>max s (dV b k)) s<=M
 | [],s,h1,h2=>⟨h1,h2⟩
 | a::r,s,h1,h2=>by
  have:=h a;simp only[UR];exact Df b h r (max s (dV b a)) (by omega) (by omega)
theorem gN{b:List Int}{M:Int}(hM:0<=M)(h:∀x∈b,0<=x/\x<=M)(l:List Int):0<=cS b l/\cS b l<=M:=
 Df b (lH hM h) l 0 (by omega) hM
theorem aE.useApp{P:Program}{Γ:List (Nat × AV)}{F:FuncId}{args args':List AV}{mem:aN}{nx:Nat}{t:TypeId}{sz:Nat}{xs:List AV}{R:Nat->List AV->Prop}{K:AV->aN->Nat->Prop}(hΓ:∀p∈Γ,NN p.2)
  (h:aE P Γ F args' [(0,.row t sz xs)] 1 fun r m _=>∃(len:Nat) (ys:List AV),r = .sl 1 0 len/\m=[(1,.row t sz ys)]/\kH ys/\R len ys) (g:Nat) (hg:lk mem g=some (.row t sz xs)) (hx:kH xs) (hargs:jJ [(g,.row t sz xs)] [(g,0)] args args')
  (hk:∀len ys,R len ys->Cy g mem fun rest=>K (.sl nx 0 len) ((nx,.row t sz ys)::rest) (nx+1)):aE P Γ F args mem nx K:=by
 refine⟨fun X D ρ w vs hD hm hv=>?_⟩;refine(aE.use (K:=K) (nx:=nx) hΓ h [(g,0)] (m1:=[(g,.row t sz xs)]) (rest:=drop g mem) ⟨fun p hp=>?_,fun p hp=>cX hp,fun p hp=>?_,fun p hp q hq=>?_,by simp⟩ (jO hm.nod) hargs (fun p hp=>?_) (by simp) (n9 (by rfl)) (fun id i hl=>?_) ?_).run X D ρ w vs hD hm hv
 ·simp at hp;subst hp;exact bK hg
 ·by_cases hpg:p.1=g
  ·left;have:=pX hm.nod hp (bK hg) hpg;rw[this];simp
  ·exact .inr (sV hp hpg)
 ·simp at hp;subst hp;exact Ne.symm (pN hm.nod hq)
 ·simp at hp;subst hp;exact .inl ⟨g,t,sz,xs,xs,rfl,by simp[lk],by simp[lk],.same hx⟩
 ·have:=bK hl;simp at this;omega
 ·rintro r m n ⟨len,ys,rfl,rfl,hn,hR⟩ _;refine⟨[(1,nx)],.sl nx 0 len,[(nx,.row t sz ys)],nx+1,WG _,.sl 1 nx 0 len (by simp[lk]),fun p hp=>?_,by simp,n9 (by rfl),fun i id hl=>?_,fun p hp q hq=>?_,tW.1 (hk len ys hR)⟩
  ·simp at hp;subst hp;exact .inl ⟨1,t,sz,ys,ys,rfl,by simp[lk],by simp[lk],.same hn⟩
  ·have:=bK hl;simp at this;obtain⟨rfl,rfl⟩:=this;exact .inr ⟨UC _,UC _,VH _⟩
  ·simp at hp;subst hp;have:=hD _ (hm.low q (cX hq));simp only;omega
def k7(x:iB):AV:=.agg [.il 4 (aS x.vals),.bool x.many]
def encLs(l:List iB):List AV:=l.map k7
theorem lZ(x:iB):NN (k7 x):=.agg' (.cons (.il' (bC _)) (.cons (.bool _) .nil))
theorem encLs_nn(l:List iB):kH (encLs l):=fun a ha=>by
 obtain⟨n,_,rfl⟩:=US.1 ha;exact lZ n
theorem encLs_length(l:List iB):(encLs l).length=l.length:=by rw[encLs,VW]
theorem encLs_get(l:List iB)(i:Nat):(encLs l)[i]? = (l[i]?).map k7:=by rw[encLs,Uh]
def p5(lo:Int)(k:Nat):List aT:=(List.range k).map fun i:Nat=>.mk 0 (lo+(i:Int)) [] []
theorem AC(lo:Int)(k:Nat):p5 lo (k+1)=p5 lo k++[.mk 0 (lo+(k:Int)) [] []]:=by simp[p5,Wp]
theorem DO(lo:Int)(k:Nat):(p5 lo k).length=k:=by simp[p5]
theorem aE.useNew{P:Program}{Γ:List (Nat × AV)}{F:FuncId}{args:List AV}{mem:aN}{nx:Nat}{t:TypeId}{sz len:Nat}{ys:List AV}{K:AV->aN->Nat->Prop}(hΓ:∀p∈Γ,NN p.2)
  (h:aE P Γ F args [] 0 fun r m n=>r = .sl 0 0 len/\m=[(0,.row t sz ys)]/\n=1) (ha:kH args) (hn:kH ys) (hk:K (.sl nx 0 len) ((nx,.row t sz ys)::mem) (nx+1)):aE P Γ F args mem nx K:=by
 refine⟨fun X D ρ w vs hD hm hv=>?_⟩;refine(aE.use (K:=K) (nx:=nx) hΓ h [] (m1:=[]) (rest:=mem) ⟨(fun p hp=>by cases hp),fun p hp=>hp,fun p hp=>.inr hp,(fun p hp=>by cases hp),by simp⟩ hm.nod (BJ ha) (fun p hp=>by cases hp) (by simp) (fun i j k h=>by simp[lk] at h) (fun id i h=>by simp[lk] at h) ?_).run X D ρ w vs hD hm hv;rintro r m n ⟨rfl,rfl,rfl⟩ _;refine⟨[(0,nx)],.sl nx 0 len,[(nx,.row t sz ys)],nx+1,WG _,.sl 0 nx 0 len (by simp[lk]),fun p hp=>?_,by simp,n9 (by rfl),fun i id hl=>?_,fun p hp q hq=>?_,hk⟩
 ·simp at hp;subst hp;exact .inl ⟨0,t,sz,ys,ys,rfl,by simp[lk],by simp[lk],.same hn⟩
 ·have:=bK hl;simp at this;obtain⟨rfl,rfl⟩:=this;exact .inr ⟨VL _,UC _,VH _⟩
 ·simp at hp;subst hp;have:=hD _ (hm.low q hq);simp only;omega
theorem t9{bs:List iB}(hb:∀b∈bs,b.vals.length<=1024/\∀v∈b.vals,g5 v):∀(l:List Int) (a:List aT × Bool) (n:Nat),a.1.length<=n->(∀v∈a.1,g5 v) ->
  (l.foldl (bX bs) a).1.length<=n+l.length*1024/\∀v∈(l.foldl (bX bs) a).1,g5 v
 | [],a,n,h1,h2=>⟨by simpa using h1,h2⟩
 | q::r,a,n,h1,h2=>by
  have hq:(dB bs q).vals.length<=1024/\∀v∈(dB bs q).vals,g5 v:=by
   unfold dB;rw[T1];cases hc:bs[q.toNat]? with
   | none=>simp
   | some b=>exact hb b (UA hc)
  have hs:=qC (a.1++(dB bs q).vals);simp only[UV] at hs;have:=t9 hb r (bX bs a q) (n+1024) (by simp only[bX];omega) (fun v hv=>by
   have:=pG hv;rcases UI.1 this with h|h
   ·exact h2 v h
   ·exact hq.2 v h)
  simp only[UR,Ul];refine⟨by have:=this.1;omega,this.2⟩
theorem Hv{α β:Type}(f:β->α->β){l:List α}{k:Nat}(h:k<l.length)(a:β):(l.take (k+1)).foldl f a=f ((l.take k).foldl f a) l[k]:=by
 rw[T9 h,U6];rfl
theorem II{α β:Type}(f:β->α->β){l:List α}{k:Nat}(h:k<l.length)(hk:0<k)(a:β):((l.take (k+1)).drop 1).foldl f a=f (((l.take k).drop 1).foldl f a) l[k]:=by
 rw[T9 h,Wm (by simp;omega),U6];rfl
theorem gG{α:Type}{P:List α->Prop}(h0:P [])(h1:∀(l:List α) (x:α),P l->P (l++[x]))(l:List α):P l:=by
 rw[←WQ l]
 induction l.reverse with
 | nil=>exact h0
 | cons a r ih=>rw[Wd];exact h1 _ _ ih
structure iU(i:Nat)(x:Nd):Prop where
 ok:rJ x
 kind:0<=x.kind/\x.kind<=4
 kids:∀(j:Nat) (k:Int),x.kids[j]? = some k->0<=k/\k<i
 klen:x.kids.length<=65536
 num:dG x=true
def EQ(bs:List iB):Prop:=∀b∈bs,b.vals.length<=1024/\∀v∈b.vals,g5 v
theorem cT{x:Nd}(h:dG x=true):x.lo<=x.hi/\-4611686018427387904<=x.lo/\x.hi<=4611686018427387904/\x.hi<x.lo+1099511627776:=by
 unfold dG at h;simp only[Tz,UJ] at h;exact⟨h.1.1.1.1,h.1.1.1.2,h.1.1.2,h.1.2⟩
theorem pA{rows:List (List aT)}{l:List aT}{r:List aT}(h:r∈eO rows l):∃r'∈rows,∃v∈l,r=r'++[v]:=by
 simp only[eO,W5,US] at h;obtain⟨r',h1,v,h2,rfl⟩:=h;exact⟨r',h1,v,h2,rfl⟩
theorem o0(l:List aT):∀rows:List (List aT),(eO rows l).length=rows.length*l.length
 | []=>by simp[eO]
 | r::rs=>by
  have:=o0 l rs;simp only[eO,VA,UV,VW,Ul,UZ,U8] at this ⊢;omega
theorem pI{bs:List iB}(hb:EQ bs)(k:Int):(dB bs k).vals.length<=1024/\∀v∈(dB bs k).vals,g5 v:=by
 unfold dB;rw[T1];cases h:bs[k.toNat]? with
 | none=>simp
 | some b=>exact hb b (UA h)
theorem CP{bs:List iB}(hb:EQ bs):∀(kids:List Int) (rows out:List (List aT)) (n:Nat),rows.length<=1024->(∀r∈rows,r.length<=n/\∀v∈r,g5 v)->fT bs kids rows=some out->out.length<=1024/\∀r∈out,r.length<=n+kids.length/\∀v∈r,g5 v
 | [],rows,out,n,h1,h2,h=>by
  simp only[fT] at h;cases h;exact⟨h1,fun r hr=>⟨by simpa using (h2 r hr).1,(h2 r hr).2⟩⟩
 | k::ks,rows,out,n,h1,h2,h=>by
  simp only[fT] at h;split at h
  ·cases h
  ·rename_i hc;rw[not_or] at hc;have hg:=pI hb k;obtain⟨a,b⟩:=CP hb ks _ out (n+1) (by rw[o0];omega) (fun r hr=>by
    obtain⟨r',h3,v,h4,rfl⟩:=pA hr;refine⟨by have:=(h2 r' h3).1;simp;omega,fun u hu=>?_⟩;rcases UI.1 hu with hu|hu
    ·exact(h2 r' h3).2 u hu
    ·simp at hu;rw[hu];exact hg.2 v h4) h
   exact⟨a,fun r hr=>⟨by have:=(b r hr).1;simp;omega,(b r hr).2⟩⟩
theorem Jq{name:List UInt8}(hn:name.length<=4294967296){r:List aT}(hr:r.length<=4294967296)(ho:∀v∈r,g5 v):g5 (dO name r):=by
 unfold dO;split
 ·exact kL ⟨by omega,by omega⟩ ⟨by omega,by omega⟩ (by simp) hr (oI ho)
 ·exact kL ⟨by omega,by omega⟩ ⟨by omega,by omega⟩ hn hr (oI ho)
theorem EB{bs:List iB}:∀(l:List Int) (a:List aT × Bool),(a.2=false->a.1.length<=1024)->(l.foldl (bX bs) a).2=false->(l.foldl (bX bs) a).1.length<=1024
 | [],a,h,h2=>h h2
 | k::r,a,h,h2=>by
  refine EB r (bX bs a k) (fun h3=>?_) h2;simp only[bX,Vk,Vl] at h3 ⊢;omega
theorem HW{x:Nd}{i:Nat}{bs:List iB}(hx:iU i x)(hb:EQ bs):(dA x bs).vals.length<=1024/\∀v∈(dA x bs).vals,g5 v:=by
 unfold dA;have hnum:=cT hx.num;split
 ·exact⟨by simp,fun v hv=>by simp at hv;rw[hv];exact hx.ok.value⟩
 ·split
  ·split
   ·simp
   ·refine⟨by simp[fL];omega,fun v hv=>?_⟩;simp only[fL,US,WM] at hv;obtain⟨j,hj,rfl⟩:=hv;exact iT ⟨by omega,by omega⟩ ⟨by omega,by omega⟩
  ·split
   ·unfold pL;split
    ·simp
    ·rename_i rows hr;obtain⟨h1,h2⟩:=CP hb x.kids [[]] rows 0 (by simp) (by simp) hr;refine⟨by have:=qC (rows.map (dO x.name));simp at this ⊢;omega,fun v hv=>?_⟩;have:=pG hv;obtain⟨r,hr2,rfl⟩:=US.1 this;have h3:=h2 r hr2;have:=hx.klen;exact Jq hx.ok.name (by omega) h3.2
   ·generalize (if x.kind=4 then x.kids.drop 1 else x.kids)=ks;unfold mY;split
    ·simp
    ·rename_i hm;have hm:(ks.foldl (bX bs) ([],false)).2=false:=by simpa using hm
     exact⟨EB _ _ (by simp) hm,(t9 hb _ ([],false) 0 (by simp) (by simp)).2⟩
theorem dL(l:List Nd):(aL l).length=l.length:=by
 refine gG (P:=fun l=>(aL l).length=l.length) rfl (fun l x ih=>?_) l;rw[gR];simp[ih]
theorem iO(l:List Nd):(∀(i:Nat) (x:Nd),l[i]? = some x->iU i x)->EQ (aL l):=by
 refine gG (P:=fun l=>(∀(i:Nat) (x:Nd),l[i]? = some x->iU i x)->EQ (aL l)) (fun _ b hb=>by simp[aL] at hb) (fun l x ih h=>?_) l;have h1:=ih fun i y hy=>h i y (by
  have:=(T0.1 hy).1;rw[UY this];exact hy)
 have h2:=h l.length x (by simp);rw[gR];intro b hb;rcases UI.1 hb with hb|hb
 ·exact h1 b hb
 ·simp at hb;rw[hb];exact HW h2 h1
theorem C0:∀(b l r:List Nd),cD b l=0->cD b (l++r)=cD (b++l) r
 | b,[],r,_=>by simp
 | b,y::l,r,h=>by
  simp only[Uv,cD] at h ⊢;split at h
  ·rename_i h1;exact absurd h h1
  ·rename_i h1;rw[T5 h1,C0 (b++[y]) l r h];simp
theorem iK{l r:List Nd}(h:cD [] (l++r)=0):cD [] l=0:=by
 have key:∀(l b:List Nd),cD b (l++r)=0->cD b l=0:=by
  intro l
  induction l with
  | nil=>intro b _;rfl
  | cons y l ih=>
   intro b h;simp only[Uv,cD] at h ⊢;split at h
   ·rename_i h1;exact absurd h h1
   ·rename_i h1;rw[T5 h1];exact ih _ h
 exact key l [] h
theorem AZ{l r:List Nd}{x:Nd}(h:cD [] l=0)(hs:gM l (bQ l) (cQ l) x≠0):cD [] (l++x::r)=gM l (bQ l) (cQ l) x:=by
 rw[C0 _ _ _ h];simp only[Um,cD];rw[T7 hs]
theorem mI:∀{l m:List aT},cL l m=true->l.length=m.length
 | [],[],_=>rfl
 | a::l,b::m,h=>by
  simp only[cL,Tz] at h;simp[mI h.2]
 | [],b::m,h=>by simp[cL] at h
 | a::l,[],h=>by simp[cL] at h
structure FZ(i:Nat)(x:Nd):Prop where
 kind:0<=x.kind/\x.kind<=4
 kids:∀(j:Nat) (k:Int),x.kids[j]? = some k->0<=k/\k<i
 num:dG x=true
 klen:x.kind≠4->x.kids.length<=256
 bind:x.kind=4->x.kids.length=x.values.length+1
theorem lQ{i:Nat}{x:Nd}(h:fF i x=0):FZ i x:=by
 unfold fF at h;split at h
 ·omega
 ·rename_i hf;split at h
  ·rename_i h1;exact absurd h h1
  ·split at h
   ·omega
   ·rename_i hn;have hn:dG x=true:=by simpa using hn
    have hf:c7 i x=true:=by simpa using hf
    unfold c7 at hf;simp only[Tz,U5,UJ] at hf;obtain⟨⟨⟨⟨⟨⟨hu,hk⟩,hki⟩,h2⟩,h3⟩,h4⟩,_⟩:=hf;refine⟨hk,dX.1 hki,hn,fun hne=>?_,fun he=>by omega⟩;unfold jH at hu;simp only[Tz,U5,UJ] at hu;rcases(show x.kind=0∨x.kind=1∨x.kind=2∨x.kind=3 by omega) with e|e|e|e
    ·have:=hu.2;omega
    ·have:=hu.2;omega
    ·rcases h2 with h2|h2
     ·omega
     ·exact h2.1.1.2
    ·rcases h3 with h3|h3
     ·omega
     ·exact h3.1
theorem eI{before:List Nd}{ls ss:List Int}{x:Nd}(h:gM before ls ss x=0):fF before.length x=0/\gZ ls x<=256/\kY ss x<=1024/\(x.kind=4->fZ before x=0):=by
 unfold gM at h;split at h
 ·rename_i h1;exact absurd h h1
 ·rename_i h1;split at h
  ·omega
  ·rename_i h2;rw[not_or] at h2;refine⟨by simpa using h1,by omega,by omega,fun e=>?_⟩;rw[T7 e] at h;exact h
theorem fO{α:Type}{l:List α}{n i:Nat}{x:α}(h:(l.take n)[i]? = some x):l[i]? = some x/\i<n:=by
 rw[Ua] at h;split at h
 ·rename_i hi;exact⟨h,hi⟩
 ·cases h
theorem KD{before:List Nd}{x:Nd}(hg:∀(j:Nat) (y:Nd),before[j]? = some y->iU j y)(h:fZ before x=0):x.values.length<=1024:=by
 unfold fZ at h;simp only at h;split at h
 ·omega
 ·split at h
  ·rename_i hs;have:=mI hs;have hgl:=iO (before.take ((x.kids.getD 0 0).toNat+1)) fun i y hy=>hg i y (fO hy).1
   have:=(pI hgl (x.kids.getD 0 0)).1;omega
  ·omega
theorem Km{before:List Nd}{ls ss:List Int}{x:Nd}(hg:∀(j:Nat) (y:Nd),before[j]? = some y->iU j y)(ho:rJ x)(h:gM before ls ss x=0):iU before.length x:=by
 obtain⟨h1,h2,h3,h4⟩:=eI h;have hn:=lQ h1;refine⟨ho,hn.kind,hn.kids, ?_,hn.num⟩;by_cases e:x.kind=4
 ·have:=hn.bind e;have:=KD hg (h4 e);omega
 ·have:=hn.klen e;omega
theorem lM(ns:List Nd)(ho:∀x∈ns,rJ x)(h:cD [] ns=0):∀(j:Nat) (x:Nd),ns[j]? = some x->iU j x:=by
 refine gG (P:=fun ns=>(∀x∈ns,rJ x)->cD [] ns=0->∀(j:Nat) (x:Nd),ns[j]? = some x->iU j x) (fun _ _ j x hx=>by simp at hx) (fun l x ih ho h=>?_) ns ho h;have h1:=iK h;have ih:=ih (fun y hy=>ho y (Ud _ hy)) h1;have hs:=fR [] l x h1;rw[h] at hs;simp only[Um] at hs;have hg:=Km ih (ho x (by simp)) hs.symm;intro j y hy;rcases UG j l.length with hj|hj
 ·rw[UY hj] at hy;exact ih j y hy
 ·rw[Uf hj] at hy;have e:j-l.length=0:=by
   have:=(T0.1 hy).1;simp at this;omega
  rw[e] at hy;simp at hy;subst hy;obtain rfl:j=l.length:=by omega
  exact hg
theorem F3{ls:List Int}{x:Nd}(h:∀y∈ls,0<=y/\y<=1024):0<=gZ ls x:=by
 have h1:=(iP (by omega) h x.kids).1;have h2:=(gN (by omega) h (eJ x)).1;have h3:=(lH (by omega) h (x.kids.getD 0 0)).1;unfold gZ;split
 ·omega
 ·split
  ·omega
  ·split
   ·exact h1
   ·split
    ·omega
    ·omega
theorem GD{ls:List Int}{x:Nd}(h:∀y∈ls,0<=y/\y<=1024):0<=kY ls x:=by
 have h1:=(iP (by omega) h x.kids).1;have h2:=(gN (by omega) h (eJ x)).1;unfold kY;split
 ·omega
 ·split
  ·omega
  ·split
   ·omega
   ·exact h2
theorem jM(ns:List Nd)(h:cD [] ns=0):(∀y∈bQ ns,0<=y/\y<=1024)/\(∀y∈cQ ns,0<=y/\y<=1024):=by
 refine gG (P:=fun ns=>cD [] ns=0->(∀y∈bQ ns,0<=y/\y<=1024)/\(∀y∈cQ ns,0<=y/\y<=1024)) (fun _=>by simp[bQ,cQ]) (fun l x ih h=>?_) ns h;have h1:=iK h;obtain⟨i1,i2⟩:=ih h1;have hs:=fR [] l x h1;rw[h] at hs;simp only[Um] at hs;obtain⟨_,h2,h3,_⟩:=eI hs.symm;rw[lF,lP];have n1:=F3 (x:=x) i1;have n2:=GD (x:=x) i2;constructor
 ·intro y hy;rcases UI.1 hy with hy|hy
  ·exact i1 y hy
  ·simp at hy;subst hy;omega
 ·intro y hy;rcases UI.1 hy with hy|hy
  ·exact i2 y hy
  ·simp at hy;subst hy;omega
theorem kW(l:List Nd):(bQ l).length=l.length:=by
 refine gG (P:=fun l=>(bQ l).length=l.length) rfl (fun l x ih=>?_) l;rw[lF];simp[ih]
theorem kO(l:List Nd):(cQ l).length=l.length:=by
 refine gG (P:=fun l=>(cQ l).length=l.length) rfl (fun l x ih=>?_) l;rw[lP];simp[ih]
theorem A5{a b:Int}(ha:0<=a)(hb:0<b):a.tdiv b<=a:=by
 rw[Vy ha];exact Int.ediv_le_self _ ha
theorem jK{a b:Int}(ha:0<=a)(hb:0<b):0<=a.tmod b/\a.tmod b<b:=⟨Vo _ ha,VZ _ hb⟩
theorem F2(k:Int)(hk:0<=k):g5 (u6 k)/\aY (u6 k)<=2:=by
 have h4:=jK hk (show (0:Int)<4 by omega);have hd:0<=k.tdiv 4:=Vp hk (by omega);have a:=jK hd (show (0:Int)<9 by omega);have b:=jK hd (show (0:Int)<2 by omega);have c:=jK hd (show (0:Int)<3 by omega);unfold u6;split
 ·exact⟨iT ⟨by omega,by omega⟩ ⟨by omega,by omega⟩,by simp[aY,bO]⟩
 ·split
  ·exact⟨iT ⟨by omega,by omega⟩ ⟨by omega,by omega⟩,by simp[aY,bO]⟩
  ·split
   ·refine⟨kL ⟨by omega,by omega⟩ ⟨by omega,by omega⟩ ?_ (by simp) (by simp[o9]),by simp[aY,bO]⟩;rcases(show ((k.tdiv 4).tmod 3).toNat=0∨((k.tdiv 4).tmod 3).toNat=1∨((k.tdiv 4).tmod 3).toNat=2 by omega) with h|h|h<;>rw[h]<;>simp
   ·refine⟨kL ⟨by omega,by omega⟩ ⟨by omega,by omega⟩ (by simp) (by simp) ?_,by simp[aY,bO]⟩;simp only[o9,and_true];exact iT ⟨by omega,by omega⟩ ⟨by omega,by omega⟩
def vG:List (List UInt8):=[[97],[98],[99],[100]]
structure Lr(x:Nd):Prop where
 ok:rJ x
 vals:x.values.length<=1024
 labels:∀s∈x.labels,s∈vG
 seq:x.kind=3->x.kids.length<=3
structure jQ(ns:List Nd):Prop where
 valid:cD [] ns=0
 gen:∀x∈ns,Lr x
theorem mT{kind lo hi:Int}{name:List UInt8}{ws ks:List Int}{ls:List (List UInt8)}{vs:List aT}{v:aT}(h1:i64 kind)(h2:name.length<=1000)(h3:i64 lo)(h4:i64 hi)(h5:ws.length<=1000)(h6:∀w∈ws,i64 w)(h7:ls.length<=1000)(h8:∀s∈ls,s∈vG)
  (h9:vs.length<=1000) (h10:∀v∈vs,g5 v/\aY v<=4294967296) (h11:ks.length<=1000) (h12:∀k∈ks,i64 k) (h13:g5 v) (h14:aY v<=4294967296)
  (h15:kind=3->ks.length<=3:=by first|(intro h;exact absurd h (by omega))|(intro _;omega)):Lr ⟨kind,name,lo,hi,ws,ls,vs,ks,v⟩:=
 ⟨⟨h1,by simp only;omega,h3,h4,by simp only;omega,h6,by simp only;omega,fun s hs=>by
   have:=h8 s hs;simp[vG] at this;rcases this with rfl|rfl|rfl|rfl<;>simp,by simp only;omega,h10,by simp only;omega,h12,h13,h14⟩,by simp only;omega,h8,h15⟩
theorem H7(ns:List Nd)(ls ss:List Int)(m:Int):gM ns ls ss ⟨0,[],0,0,[],[],[],[],.mk 0 m [] []⟩=0:=by
 have hv:bS (.mk 0 m [] [])=0:=by simp[bS,bI,cC,cE,jD,oE,wW,aY,bO]
 have hf:c7 (ns.length:Int) ⟨0,[],0,0,[],[],[],[],.mk 0 m [] []⟩=true:=by simp[c7,jH,mM,dQ]
 have hn:fF (ns.length:Int) ⟨0,[],0,0,[],[],[],[],.mk 0 m [] []⟩=0:=by
  unfold fF;rw[T5 (by rw[hf];simp)];simp[nL,dS,hv,dG]
 unfold gM;rw[T5 (by rw[hn];simp)];simp[gZ,kY,aY,bO]
theorem B9{bs:List iB}{ss:List Int}:∀(kids:List Int) (rows out:List (List aT)) (S:Int),(∀r∈rows,(bO r:Int)<=S)->(∀k∈kids,∀v∈(dB bs k).vals,(aY v:Int)<=dV ss k)->fT bs kids rows=some out->∀r∈out,(bO r:Int)<=S+f8 ss kids
 | [],rows,out,S,h1,_,h=>by
  simp only[fT] at h;cases h;intro r hr;simpa[f8] using h1 r hr
 | k::ks,rows,out,S,h1,h2,h=>by
  simp only[fT] at h;split at h
  ·cases h
  ·have e:f8 ss (k::ks)=dV ss k+f8 ss ks:=by simp only[f8,UR];rw[uA ss ks];simp[f8]
   have ih:=B9 ks _ out (S+dV ss k) (fun r hr=>by
    obtain⟨r',h3,v,h4,rfl⟩:=pA hr;have a:=h1 r' h3;have b:=h2 k (by simp) v h4;rw[vV];omega) (fun k' hk'=>h2 k' (by simp[hk'])) h
   intro r hr;have:=ih r hr;omega
theorem Il{bs:List iB}:∀(l:List Int) (a:List aT × Bool),∀v∈(l.foldl (bX bs) a).1,v∈a.1∨∃k∈l,v∈(dB bs k).vals
 | [],a,v,hv=>.inl hv
 | k::r,a,v,hv=>by
  rcases Il r (bX bs a k) v hv with h|⟨k',h1,h2⟩
  ·simp only[bX] at h;rcases UI.1 (pG h) with h|h
   ·exact .inl h
   ·exact .inr ⟨k,by simp,h⟩
  ·exact .inr ⟨k',by simp[h1],h2⟩
theorem sB{ss:List Int}:∀(l:List Int) (s:Int) (k:Int),k∈l->dV ss k<=l.foldl (fun s k=>max s (dV ss k)) s/\s<=l.foldl (fun s k=>max s (dV ss k)) s
 | a::r,s,k,h=>by
  have mono:∀(l:List Int) (s:Int),s<=l.foldl (fun s k=>max s (dV ss k)) s:=by
   intro l
   induction l with
   | nil=>intro s;simp
   | cons b l ih=>intro s;have:=ih (max s (dV ss b));simp only[UR];omega
  simp only[UR];rcases T6.1 h with rfl|h
  ·have:=mono r (max s (dV ss k));omega
  ·have:=sB (ss:=ss) r (max s (dV ss a)) k h;omega
theorem HR{x:Nd}{bs:List iB}{ss:List Int}(hkd:0<=x.kind/\x.kind<=4)(hb:∀k∈x.kids,∀v∈(dB bs k).vals,(aY v:Int)<=dV ss k):∀v∈(dA x bs).vals,(aY v:Int)<=kY ss x:=by
 intro v hv;unfold dA at hv;split at hv
 ·rename_i h0;simp at hv;subst hv;unfold kY;rw[T7 h0];omega
 ·rename_i h0;split at hv
  ·rename_i h1;split at hv
   ·simp at hv
   ·simp only[fL,US] at hv;obtain⟨j,_,rfl⟩:=hv;unfold kY;rw[T5 h0,T7 h1];simp[aY,bO]
  ·rename_i h1;split at hv
   ·rename_i h3;unfold pL at hv;split at hv
    ·simp at hv
    ·rename_i rows hr;obtain⟨r,hr2,rfl⟩:=US.1 (pG hv);have:=B9 x.kids [[]] rows 0 (by simp[bO]) hb hr r hr2;have e:aY (dO x.name r)=1+bO r:=by unfold dO;split<;>simp[aY]
     unfold kY;rw[T5 h0,T5 h1,T7 h3,e];omega
   ·rename_i h3;have key:∀ks:List Int,(∀k∈ks,k∈x.kids)->v∈(mY bs ks).vals->(aY v:Int)<=cS ss ks:=by
     intro ks hks hv;unfold mY at hv;split at hv
     ·simp at hv
     ·rcases Il ks ([],false) v hv with h|⟨k,h1,h2⟩
      ·simp at h
      ·have:=hb k (hks k h1) v h2;have:=(sB (ss:=ss) ks 0 k h1).1;unfold cS;omega
    have:(aY v:Int)<=cS ss (eJ x):=by
     unfold eJ;by_cases h4:x.kind=4
     ·rw[T7 h4] at hv;rw[T5 (by omega)];exact key _ (fun k hk=>Us hk) hv
     ·rw[T5 h4] at hv;by_cases h2:x.kind=2
      ·rw[T7 h2];exact key _ (fun k hk=>hk) hv
      ·omega
    unfold kY;rw[T5 h0,T5 h1,T5 h3];omega
theorem Fz{bs:List iB}{b:iB}{k:Int}(hk:0<=k):(k<bs.length->dB (bs++[b]) k=dB bs k)/\(k=bs.length->dB (bs++[b]) k=b):=by
 unfold dB;constructor
 ·intro h;rw[T1,T1,UY (by omega)]
 ·intro h;rw[T1,Uf (by omega),show k.toNat-bs.length=0 by omega];rfl
theorem Ma{bs:List Int}{b:Int}{k:Int}(hk:0<=k):(k<bs.length->dV (bs++[b]) k=dV bs k)/\(k=bs.length->dV (bs++[b]) k=b):=by
 unfold dV;constructor
 ·intro h;rw[T1,T1,UY (by omega)]
 ·intro h;rw[T1,Uf (by omega),show k.toNat-bs.length=0 by omega];rfl
theorem IX(ns:List Nd)(hg:∀(j:Nat) (x:Nd),ns[j]? = some x->iU j x):∀(k:Int),0<=k->k<ns.length->∀v∈(dB (aL ns) k).vals,(aY v:Int)<=dV (cQ ns) k:=by
 refine gG (P:=fun ns=>(∀(j:Nat) (x:Nd),ns[j]? = some x->iU j x)->∀(k:Int),0<=k->k<ns.length->∀v∈(dB (aL ns) k).vals,(aY v:Int)<=dV (cQ ns) k) (fun _ k h1 h2=>by simp at h2;omega) (fun l x ih hg k hk0 hk v hv=>?_) ns hg;have hgl:∀(j:Nat) (y:Nd),l[j]? = some y->iU j y:=fun j y hy=>hg j y (by
  have:=(T0.1 hy).1;rw[UY this];exact hy)
 have ih:=ih hgl;have hx:=hg l.length x (by simp);rw[gR] at hv;rw[lP];have e1:=Fz (bs:=aL l) (b:=dA x (aL l)) hk0;have e2:=Ma (bs:=cQ l) (b:=kY (cQ l) x) hk0;rw[dL] at e1;rw[kO] at e2;rcases(show k<l.length∨k=l.length by simp at hk;omega) with h|h
 ·rw[e1.1 h] at hv;rw[e2.1 h];exact ih k hk0 h v hv
 ·rw[e1.2 h] at hv;rw[e2.2 h];refine HR hx.kind (fun q hq u hu=>?_) v hv;obtain⟨j,hj⟩:=Ui hq;obtain⟨q0,q1⟩:=hx.kids j q hj;exact ih q q0 q1 u hu
theorem Fy(ns:List Nd)(ho:∀x∈ns,rJ x)(h:cD [] ns=0)(k:Int)(h0:0<=k)(h1:k<ns.length):∀v∈(dB (aL ns) k).vals,aY v<=1024:=by
 intro v hv;have a:=IX ns (lM ns ho h) k h0 h1 v hv;have b:=(lH (M:=1024) (by omega) (jM ns h).2 k).2;omega
theorem jQ.ok{ns:List Nd}(h:jQ ns):∀x∈ns,rJ x:=fun x hx=>(h.gen x hx).ok
theorem jQ.good{ns:List Nd}(h:jQ ns):∀(j:Nat) (x:Nd),ns[j]? = some x->iU j x:=lM ns h.ok h.valid
theorem jQ.snoc{ns:List Nd}{x:Nd}(h:jQ ns)(hl:ns.length<=1000)(hx:Lr x)(hv:dD (ns++[x])=0):jQ (ns++[x]):=by
 unfold dD at hv;rw[T5 (by simp;omega)] at hv;refine⟨hv,fun y hy=>?_⟩;rcases UI.1 hy with hy|hy
 ·exact h.gen y hy
 ·simp at hy;rw[hy];exact hx
theorem jQ.leaf{ns:List Nd}(h:jQ ns){m:Int}(hm:i64 m):jQ (ns++[⟨0,[],0,0,[],[],[],[],.mk 0 m [] []⟩]):=by
 refine⟨?_,fun y hy=>?_⟩
 ·rw[fR [] ns _ h.valid];exact H7 _ _ _ _
 ·rcases UI.1 hy with hy|hy
  ·exact h.gen y hy
  ·simp at hy;rw[hy];have h0:i64 0:=⟨by omega,by omega⟩
   exact mT h0 (by simp) h0 h0 (by simp) (by simp) (by simp) (by simp) (by simp) (by simp) (by simp) (by simp) (iT h0 hm) (by simp[aY,bO])
def eA(a b:List aT):List aT:=match a,b with
 | [],b=>b
 | a,[]=>a
 | x::l,y::m=>if bR x y<0 then x::eA l (y::m) else if bR x y=0 then x::eA l m else y::eA (x::l) m
termination_by a.length+b.length
theorem BO(b:List aT):eA [] b=b:=by rw[eA]
theorem HG(a:List aT):eA a []=a:=by
 cases a with
 | nil=>rw[eA]
 | cons x l=>rw[eA];simp
theorem Fg(x y:aT)(l m:List aT):eA (x::l) (y::m)=if bR x y<0 then x::eA l (y::m) else if bR x y=0 then x::eA l m else y::eA (x::l) m:=by rw[eA]
mutual
theorem Cn:∀(a b:aT),bR a b=0->a=b
 | .mk k n s ks,.mk k' n' s' ks',h=>by
  simp only[bR,andThen] at h;split at h
  ·rename_i h1;split at h
   ·rename_i h2;split at h
    ·rename_i h3;have e1:k=k':=Decidable.byContradiction fun e=>tJ e h1
     have e2:n=n':=Decidable.byContradiction fun e=>tJ e h2
     rw[e1,e2,nC h3,Mz ks ks' h]
    ·rename_i h3;exact absurd h h3
   ·rename_i h2;exact absurd h h2
  ·rename_i h1;exact absurd h h1
theorem Mz:∀(l m:List aT),fI l m=0->l=m
 | [],[],_=>rfl
 | [],_::_,h=>by simp[fI] at h
 | _::_,[],h=>by simp[fI] at h
 | a::l,b::m,h=>by
  simp only[fI,andThen] at h;split at h
  ·rename_i h1;rw[Cn a b h1,Mz l m h]
  ·rename_i h1;exact absurd h h1
end
theorem B4(a:aT):¬bR a a<0:=by rw[(nI a).refl];omega
theorem Ej:∀{a b:List aT},lV a->lV b->(∀x,x∈a↔x∈b)->a=b
 | [],[],_,_,_=>rfl
 | [],y::m,_,_,h=>by have:=(h y).2 (by simp);simp at this
 | x::l,[],_,_,h=>by have:=(h x).1 (by simp);simp at this
 | x::l,y::m,h1,h2,h=>by
  unfold lV at h1 h2;rw[Uk] at h1 h2;have e:x=y:=by
   rcases T6.1 ((h x).1 (by simp)) with e|e
   ·exact e
   ·rcases T6.1 ((h y).2 (by simp)) with e'|e'
    ·exact e'.symm
    ·have a1:=h2.1 x e;have a2:=h1.1 y e';have:=F6 a1 (by omega:bR x y<=0);exact absurd this (B4 y)
  subst e;congr 1;refine Ej h1.2 h2.2 fun z=>?_
  constructor
  ·intro hz;rcases T6.1 ((h z).1 (by simp[hz])) with e|e
   ·subst e;exact absurd (h1.1 z hz) (B4 z)
   ·exact e
  ·intro hz;rcases T6.1 ((h z).2 (by simp[hz])) with e|e
   ·subst e;exact absurd (h2.1 z hz) (B4 z)
   ·exact e
theorem Ge:∀(l:List aT) (v x:aT),x∈uN l v↔x=v∨x∈l
 | [],v,x=>by simp[uN,i0]
 | a::r,v,x=>by
  rw[Dn];split
  ·split
   ·rename_i h;have e:=Cn a v (by simpa using h);subst e;constructor
    ·intro h;exact .inr h
    ·rintro(rfl|h)
     ·simp
     ·exact h
   ·simp
  ·simp only[T6,Ge r v x];constructor
   ·rintro(h|h|h)
    ·exact .inr (.inl h)
    ·exact .inl h
    ·exact .inr (.inr h)
   ·rintro(h|h|h)
    ·exact .inr (.inl h)
    ·exact .inl h
    ·exact .inr (.inr h)
theorem y7(l:List aT)(x:aT):x∈eB l↔x∈l:=by
 refine gG (P:=fun l=>x∈eB l↔x∈l) (by simp[eB]) (fun l a ih=>?_) l;rw[nU,Ge,ih];simp only[UI,VD];constructor
 ·rintro(h|h)
  ·exact .inr h
  ·exact .inl h
 ·rintro(h|h)
  ·exact .inr h
  ·exact .inl h
theorem ET{l:List aT}(h:lV l):eB l=l:=Ej (tN l) h (y7 l)
theorem nY(a b:List aT)(x:aT):x∈eA a b↔x∈a∨x∈b:=by
 fun_induction eA a b with
 | case1 b=>simp
 | case2 a h=>simp
 | case3 y l z m h ih=>simp only[T6,ih];simp only[or_assoc]
 | case4 y l z m h1 h2 ih=>
  have:=Cn y z h2;subst this;simp only[T6,ih];constructor
  ·rintro(h|h|h)
   ·exact .inl (.inl h)
   ·exact .inl (.inr h)
   ·exact .inr (.inr h)
  ·rintro((h|h)|(h|h))
   ·exact .inl h
   ·exact .inr (.inl h)
   ·exact .inl h
   ·exact .inr (.inr h)
 | case5 y l z m h1 h2 ih=>
  simp only[T6,ih];constructor
  ·rintro(h|(h|h)|h)
   ·exact .inr (.inl h)
   ·exact .inl (.inl h)
   ·exact .inl (.inr h)
   ·exact .inr (.inr h)
  ·rintro((h|h)|(h|h))
   ·exact .inr (.inl (.inl h))
   ·exact .inr (.inl (.inr h))
   ·exact .inl h
   ·exact .inr (.inr h)
theorem CA(a b:List aT):lV a->lV b->lV (eA a b):=by
 fun_induction eA a b with
 | case1 b=>intro _ h;exact h
 | case2 a h=>intro h _;exact h
 | case3 y l z m h ih=>
  intro h1 h2;unfold lV at h1 h2 ⊢;have h1':=Uk.1 h1;have h2':=Uk.1 h2;refine Uk.2 ⟨fun x hx=>?_,ih h1'.2 h2⟩;rcases(nY _ _ _).1 hx with hx|hx
  ·exact h1'.1 x hx
  ·rcases T6.1 hx with rfl|hx
   ·exact h
   ·have:=h2'.1 x hx;exact F6 h (by omega)
 | case4 y l z m hn he ih=>
  intro h1 h2;unfold lV at h1 h2 ⊢;have h1':=Uk.1 h1;have h2':=Uk.1 h2;have:=Cn y z he;subst this;refine Uk.2 ⟨fun x hx=>?_,ih h1'.2 h2'.2⟩;rcases(nY _ _ _).1 hx with hx|hx
  ·exact h1'.1 x hx
  ·exact h2'.1 x hx
 | case5 y l z m hn he ih=>
  intro h1 h2;unfold lV at h1 h2 ⊢;have h1':=Uk.1 h1;have h2':=Uk.1 h2;have hzy:=Ja (a:=y) (b:=z) (by omega);refine Uk.2 ⟨fun x hx=>?_,ih h1 h2'.2⟩;rcases(nY _ _ _).1 hx with hx|hx
  ·rcases T6.1 hx with rfl|hx
   ·exact hzy
   ·have:=h1'.1 x hx;exact F6 hzy (by omega)
  ·exact h2'.1 x hx
theorem Fm{a b:List aT}(h1:lV a)(h2:lV b):eA a b=eB (a++b):=
 Ej (CA a b h1 h2) (tN _) fun x=>by rw[nY,y7,UI]
theorem Bs:∀(r l:List Nd),∃m,aL (l++r)=aL l++m
 | [],l=>⟨[],by simp⟩
 | x::r,l=>by
  obtain⟨m,hm⟩:=Bs r (l++[x]);refine⟨dA x (aL l)::m, ?_⟩;have e:l++x::r=l++[x]++r:=by simp
  rw[e,hm,gR];simp
theorem OW{a b:List iB}{k:Int}(h0:0<=k)(h:k<a.length):dB (a++b) k=dB a k:=by
 unfold dB;rw[T1,T1,UY (by omega)]
theorem jR{ns:List Nd}{n:Nat}{k:Int}(h0:0<=k)(h:k<n)(hn:n<=ns.length):dB (aL (ns.take n)) k=dB (aL ns) k:=by
 obtain⟨m,hm⟩:=Bs (ns.drop n) (ns.take n);rw[Ug] at hm;rw[hm,OW h0 (by rw[dL,U4];omega)]
theorem B2{b1 b2:List iB}{l:List Int}(h:∀k∈l,dB b1 k=dB b2 k):mY b1 l=mY b2 l:=by
 have:∀(l:List Int) (a:List aT × Bool),(∀k∈l,dB b1 k=dB b2 k)->l.foldl (bX b1) a=l.foldl (bX b2) a:=by
  intro l
  induction l with
  | nil=>intro a _;rfl
  | cons k r ih=>
   intro a h;simp only[UR];have e:bX b1 a k=bX b2 a k:=by unfold bX;rw[h k (by simp)]
   rw[e];exact ih _ fun q hq=>h q (by simp[hq])
 unfold mY;rw[this l _ h]
theorem Af{b1 b2:List iB}:∀(l:List Int) (rows:List (List aT)),(∀k∈l,dB b1 k=dB b2 k)->fT b1 l rows=fT b2 l rows
 | [],rows,_=>rfl
 | k::r,rows,h=>by
  simp only[fT,h k (by simp)];split
  ·rfl
  ·exact Af r _ fun q hq=>h q (by simp[hq])
theorem z8{b1 b2:List iB}{x:Nd}(h:∀k∈x.kids,dB b1 k=dB b2 k):dA x b1=dA x b2:=by
 unfold dA;split
 ·rfl
 ·split
  ·rfl
  ·split
   ·unfold pL;rw[Af x.kids _ h]
   ·split
    ·exact B2 fun k hk=>h k (Us hk)
    ·exact B2 h
theorem Bl{ns:List Nd}(hg:∀(j:Nat) (x:Nd),ns[j]? = some x->iU j x){i:Nat}{x:Nd}(hx:ns[i]? = some x):dB (aL ns) i=dA x (aL ns):=by
 obtain⟨hi,he⟩:=T0.1 hx;have e1:dB (aL (ns.take (i+1))) i=dB (aL ns) i:=jR (by omega) (by omega) (by omega);rw[←e1,T9 hi,gR,he];rw[(Fz (b:=dA x (aL (ns.take i))) (show (0:Int)<=i by omega)).2 (by rw[dL,U4];omega)];refine z8 fun k hk=>?_
 obtain⟨j,hj⟩:=Ui hk;obtain⟨h0,h1⟩:=(hg i x hx).kids j k hj;exact jR h0 h1 (by omega)
theorem zD:∀{a b:List aT} {x y:aT},a.length=b.length->fI (a++[x]) (b++[y])=andThen (fI a b) (bR x y)
 | [],[],x,y,_=>by
  simp only[Um,fI,andThen];split
  ·rename_i h;rw[h];rfl
  ·rfl
 | [],_::_,_,_,h=>by simp at h
 | _::_,[],_,_,h=>by simp at h
 | a::l,b::m,x,y,h=>by
  simp only[Uv,fI];rw[zD (by simpa using h)];unfold andThen;repeat' split
  all_goals first|rfl|omega
def LO(n:Nat)(rows:List (List aT)):Prop:=(∀r∈rows,r.length=n)/\rows.Pairwise fun a b=>fI a b<0
theorem Kr{n:Nat}{rows:List (List aT)}{l:List aT}(h:LO n rows)(hl:lV l):LO (n+1) (eO rows l):=by
 obtain⟨h1,h2⟩:=h;refine⟨fun r hr=>?_, ?_⟩
 ·obtain⟨r',h3,v,_,rfl⟩:=pA hr;simp[h1 r' h3]
 ·unfold eO
  induction rows with
  | nil=>simp
  | cons a rs ih=>
   rw[Uk] at h2;rw[VA,List.pairwise_append];refine⟨?_,ih (fun r hr=>h1 r (by simp[hr])) h2.2, ?_⟩
   ·rw[W2];refine hl.imp fun {x y} hxy=>?_
    rw[zD rfl,(y6 a).refl];simpa[andThen] using hxy
   ·intro p hp q hq;obtain⟨v,_,rfl⟩:=US.1 hp;obtain⟨r',h3,u,_,rfl⟩:=pA (rows:=rs) (l:=l) hq;have:=h2.1 r' h3;rw[zD (by rw[h1 a (by simp),h1 r' (by simp[h3])])];unfold andThen;split
    ·omega
    ·exact this
theorem DV{bs:List iB}(hb:∀b∈bs,lV b.vals):∀(kids:List Int) (n:Nat) (rows out:List (List aT)),LO n rows->fT bs kids rows=some out->LO (n+kids.length) out
 | [],n,rows,out,h,h2=>by
  simp only[fT] at h2;cases h2;exact h
 | k::ks,n,rows,out,h,h2=>by
  simp only[fT] at h2;split at h2
  ·cases h2
  ·have hs:lV (dB bs k).vals:=by
    unfold dB;rw[T1];cases e:bs[k.toNat]? with
    | none=>simp[lV]
    | some b=>exact hb b (UA e)
   have:=DV hb ks (n+1) _ out (Kr h hs) h2;simp only[Ul];rw[show n+(ks.length+1)=n+1+ks.length by omega];exact this
theorem L5(name:List UInt8)(a b:List aT):bR (dO name a) (dO name b)=fI a b:=by
 unfold dO;split<;>simp[bR,(j9 _).refl,(pE _).refl,andThen]
theorem LU{n:Nat}{rows:List (List aT)}(name:List UInt8)(h:LO n rows):lV (rows.map (dO name)):=by
 unfold lV;rw[W2];exact h.2.imp fun {a b} h=>by rw[L5];exact h
theorem Jj(lo hi:Int):lV (fL lo hi):=by
 unfold lV fL;rw[W2];refine List.pairwise_lt_range.imp fun {i j} h=>?_
 rw[Li rfl (by omega)];rw[T7 (by omega)];omega
theorem Jt{x:Nd}{bs:List iB}:lV (dA x bs).vals:=by
 unfold dA;split
 ·simp[lV]
 ·split
  ·split
   ·simp[lV]
   ·exact Jj _ _
  ·split
   ·unfold pL;split
    ·simp[lV]
    ·exact tN _
   ·generalize (if x.kind=4 then x.kids.drop 1 else x.kids)=ks;unfold mY;split
    ·simp[lV]
    ·have:∀(l:List Int) (a:List aT × Bool),lV a.1->lV (l.foldl (bX bs) a).1:=by
      intro l
      induction l with
      | nil=>intro a h;exact h
      | cons k r ih=>intro a _;exact ih _ (tN _)
     exact this _ _ (by simp[lV])
theorem Bu(ns:List Nd):∀b∈aL ns,lV b.vals:=by
 refine gG (P:=fun ns=>∀b∈aL ns,lV b.vals) (by simp[aL]) (fun l x ih=>?_) ns;rw[gR];intro b hb;rcases UI.1 hb with hb|hb
 ·exact ih b hb
 ·simp at hb;rw[hb];exact Jt
theorem Of{bs:List iB}(hb:∀b∈bs,lV b.vals)(k:Int):lV (dB bs k).vals:=by
 unfold dB;rw[T1];cases h:bs[k.toNat]? with
 | none=>simp[lV]
 | some b=>exact hb b (UA h)
theorem Ka{bs:List iB}(hb:∀b∈bs,lV b.vals){x:Nd}{rows:List (List aT)}(h:fT bs x.kids [[]]=some rows):pL bs x=⟨rows.map (dO x.name),false⟩:=by
 unfold pL;rw[h];simp only;rw[ET (LU _ (DV hb x.kids 0 [[]] rows ⟨by simp,by simp⟩ h))]
def rowAt:List (List aT)->Nat->List aT
 | [],_=>[]
 | l::r,k=>rowAt r (k/l.length)++(l[k%l.length]?).toList
def pH:List (List aT)->List (List aT)
 | []=>[[]]
 | l::r=>eO (pH r) l
def i7:List (List aT)->Nat
 | []=>1
 | l::r=>i7 r*l.length
theorem zM:∀ls:List (List aT),(pH ls).length=i7 ls
 | []=>rfl
 | l::r=>by rw[pH,o0,i7,zM r]
theorem ER(l:List aT):∀(rows:List (List aT)) (k:Nat) (a:List aT) (v:aT),rows[k/l.length]? = some a->l[k%l.length]? = some v->(eO rows l)[k]? = some (a++[v])
 | [],k,a,v,h,_=>by simp at h
 | r::rs,k,a,v,h,hv=>by
  have hpos:0<l.length:=by
   rcases UK l.length with h0|h0
   ·have:l=[]:=Ux.1 h0;subst this;simp at hv
   ·exact h0
  unfold eO;rw[VA];rcases UG k l.length with hk|hk
  ·rw[UY (by simpa using hk)];rw[Wk hk] at h;rw[VJ hk] at hv;simp at h;subst h;simp[hv]
  ·rw[Uf (by simpa using hk),VW];have e1:k/l.length=(k-l.length)/l.length+1:=by
    conv=>lhs;rw[show k=(k-l.length)+l.length by omega]
    exact Nat.add_div_right _ hpos
   have e2:k%l.length=(k-l.length)%l.length:=(Nat.mod_eq_sub_mod hk)
   rw[e1] at h;rw[e2] at hv;exact ER l rs (k-l.length) a v (by simpa using h) hv
theorem Dy:∀(ls:List (List aT)) (k:Nat),k<i7 ls->(pH ls)[k]? = some (rowAt ls k)
 | [],k,h=>by
  simp[i7] at h;subst h;rfl
 | l::r,k,h=>by
  simp only[i7] at h;have hpos:0<l.length:=by
   rcases UK l.length with h0|h0
   ·rw[h0] at h;simp at h
   ·exact h0
  have h1:k/l.length<i7 r:=Nat.div_lt_of_lt_mul (by rw[Vb];exact h);have h2:=VY k hpos;have e:=Ty h2;rw[pH,rowAt,e];exact ER l _ k _ _ (Dy r _ h1) e
theorem D2{bs:List iB}:∀(kids:List Int) (ls:List (List aT)),i7 ls<=1024 ->
  fT bs kids (pH ls)=if (kids.foldl (fun(a:Nat × Bool) k=>(a.1*(dB bs k).vals.length,a.2 || (dB bs k).many || decide (1024<a.1*(dB bs k).vals.length))) (i7 ls,false)).2 then none
   else some (pH (kids.reverse.map (fun k=>(dB bs k).vals)++ls))
 | [],ls,h=>by simp[fT]
 | k::r,ls,h=>by
  have stay:∀(l:List Int) (n:Nat),(l.foldl (fun(a:Nat × Bool) k=>(a.1*(dB bs k).vals.length,a.2 || (dB bs k).many || decide (1024<a.1*(dB bs k).vals.length))) (n,true)).2=true:=by
   intro l
   induction l with
   | nil=>intro n;rfl
   | cons q l ih=>intro n;simp only[UR,Bool.true_or];exact ih _
  simp only[fT,UR,zM,WV];by_cases hc:(dB bs k).many=true∨1024<i7 ls*(dB bs k).vals.length
  ·have e:((dB bs k).many || decide (1024<i7 ls*(dB bs k).vals.length))=true:=by simpa using hc
   rw[T7 hc,e,T7 (stay _ _)]
  ·have e:((dB bs k).many || decide (1024<i7 ls*(dB bs k).vals.length))=false:=by
    rw[not_or] at hc;simp at hc ⊢;exact hc
   rw[T5 hc,e];rw[not_or] at hc;have:=D2 (bs:=bs) r ((dB bs k).vals::ls) (by simp only[i7];omega);simp only[pH,i7] at this;rw[this];simp[Ur]
theorem p9:∀{l:List aT},cC l=true->∀{v:aT},v∈l->bI v=true
 | a::r,h,v,hv=>by
  simp only[cC,Tz] at h;rcases T6.1 hv with rfl|hv
  ·exact h.1
  ·exact p9 h.2 hv
theorem BM:∀{l:List aT},(∀v∈l,bI v=true)->cC l=true
 | [],_=>rfl
 | a::r,h=>by simp only[cC,Tz];exact⟨h a (UN ..),BM fun v hv=>h v (UF _ hv)⟩
theorem Ki{l:List aT}(h:o9 l)(k:Nat):o9 (l.take k):=oI fun v hv=>jC h v (Uc hv)
theorem DJ{l:List aT}(h:cC l=true)(k:Nat):cC (l.take k)=true:=BM fun v hv=>p9 h (Uc hv)
def SZ(p s:List UInt8):Option (List UInt8):=if p.isPrefixOf s then some (s.drop p.length) else none
structure Rl(x:Nd):Prop where
 ok:rJ x
 rng:x.lo<=x.hi/\-4611686018427387904<=x.lo/\x.hi<=4611686018427387904/\x.hi<x.lo+1099511627776
 klen:x.kids.length<=2000
 kl2:x.kind=2->x.kids.length<=1000
 ch:x.kind=2->1<=x.kids.length/\(x.labels.length=0∨x.labels.length=x.kids.length)
theorem pR(ns:List Nd)(h:cD [] ns=0):∀(j:Nat) (x:Nd),ns[j]? = some x->fF j x=0:=by
 refine gG (P:=fun ns=>cD [] ns=0->∀(j:Nat) (x:Nd),ns[j]? = some x->fF j x=0) (fun _ j x hx=>by simp at hx) (fun l x ih h=>?_) ns h;have h1:=iK h;have ih:=ih h1;have hs:=fR [] l x h1;rw[h] at hs;simp only[Um] at hs;obtain⟨hg,-,-,-⟩:=eI hs.symm;intro j y hy;rcases UG j l.length with hj|hj
 ·rw[UY hj] at hy;exact ih j y hy
 ·rw[Uf hj] at hy;have e:j-l.length=0:=by
   have:=(T0.1 hy).1;simp at this;omega
  rw[e] at hy;simp at hy;subst hy;rw[show j=l.length by omega];exact hg
structure Tr(LB:List (List UInt8))(x:Nd):Prop where
 opt:Rl x
 lab:∀s∈x.labels,s∈LB
 ll:x.labels.length<=1000
theorem C4{bs:List iB}:∀(l:List Int) (a:List aT × Bool),a.2=true->(l.foldl (bX bs) a).2=true
 | [],_,h=>h
 | k::r,a,h=>C4 r _ (by simp[bX,h])
theorem xL{l:List aT}(h:l≠[]):eB l≠[]:=by
 cases l with
 | nil=>exact absurd rfl h
 | cons a r=>exact List.ne_nil_of_mem ((y7 (a::r) a).2 (by simp))
theorem Gc{bs:List iB}:∀(l:List Int) (a:List aT × Bool),a.1≠[]->(l.foldl (bX bs) a).1≠[]
 | [],_,h=>h
 | k::r,a,h=>Gc r _ (xL (by simp[h]))
theorem QN{bs:List iB}{l:List Int}(hl:l≠[])(h:∀k∈l,(dB bs k).many=false->(dB bs k).vals≠[])(hm:(mY bs l).many=false):(mY bs l).vals≠[]:=by
 unfold mY at hm ⊢;split at hm
 ·simp at hm
 ·rename_i hf;rw[T5 hf];simp only;cases l with
  | nil=>exact absurd rfl hl
  | cons k r=>
   simp only[UR] at hf ⊢;have hk:(bX bs ([],false) k).2=false:=by
    cases e:(bX bs ([],false) k).2 with
    | false=>rfl
    | true=>exact absurd (C4 r _ e) hf
   refine Gc r _ (xL ?_);simp only[bX,WV,Vk] at hk;simp only[Um];exact h k (by simp) hk.1
theorem JW{bs:List iB}:∀(kids:List Int) (rows out:List (List aT)),rows≠[]->(∀k∈kids,(dB bs k).many=false->(dB bs k).vals≠[])->fT bs kids rows=some out->out≠[]
 | [],rows,out,h,_,h2=>by
  simp only[fT] at h2;cases h2;exact h
 | k::ks,rows,out,h,hk,h2=>by
  simp only[fT] at h2;split at h2
  ·cases h2
  ·rename_i hc;rw[not_or] at hc;refine JW ks _ out ?_ (fun q hq=>hk q (by simp[hq])) h2;have hv:=hk k (by simp) (by simpa using hc.1);have:=o0 (dB bs k).vals rows;intro e;rw[e] at this;have a:=U9.2 h;have b:=U9.2 hv;have:=WN a b;simp at *;omega
theorem jN(ns:List Nd)(h:cD [] ns=0):∀(j:Nat) (x:Nd),ns[j]? = some x->gM (ns.take j) (bQ (ns.take j)) (cQ (ns.take j)) x=0:=by
 intro j x hx;obtain⟨hj,he⟩:=T0.1 hx;have e:ns=ns.take j++x::ns.drop (j+1):=by
  rw[←he];simp
 have h1:cD [] (ns.take j)=0:=by
  rw[e] at h;exact iK h
 have h2:cD [] (ns.take j++[x])=0:=by
  have e2:ns=(ns.take j++[x])++ns.drop (j+1):=by simpa using e
  rw[e2] at h;exact iK h
 rw[fR [] _ x h1] at h2;simpa using h2
theorem mV{i:Int}{x:Nd}(h:c7 i x=true):(x.kind=2->1<=x.kids.length)/\(x.kind=4->x.kids.length=x.values.length+1):=by
 unfold c7 at h;simp only[Tz,U5,UJ] at h;obtain⟨⟨⟨⟨_,h2⟩,_⟩,h4⟩,_⟩:=h;exact⟨fun e=>by rcases h2 with h2|h2<;>omega,fun e=>by omega⟩
theorem iX{i:Int}{x:Nd}(h:fF i x=0):c7 i x=true:=by
 unfold fF at h;split at h
 ·omega
 ·rename_i hf;simpa using hf
theorem Gk(ns:List Nd)(ho:∀x∈ns,rJ x)(h:cD [] ns=0):∀(n:Nat) (k:Nat),k<=n->k<ns.length->(dB (aL ns) k).many=false->(dB (aL ns) k).vals≠[]:=by
 have hg:=lM ns ho h;intro n
 induction n with
 | zero=>
  intro k hk hlt hm;have hx:=Ty hlt;have hG:=hg k _ hx;have hst:=jN ns h k _ hx;obtain⟨h1,_,_,h4⟩:=eI hst;have hlen:(ns.take k).length=k:=by simp;omega
  rw[hlen] at h1;have hfp:=mV (iX h1);have hk0:(ns[k]).kids=[]:=by
   cases e:(ns[k]).kids with
   | nil=>rfl
   | cons q r=>have:=hG.kids 0 q (by rw[e];rfl);omega
  rw[Bl hg hx] at hm ⊢;have hnum:=cT hG.num;rw[hk0] at hfp;simp at hfp;unfold dA at hm ⊢;split
  ·simp
  ·split
   ·split
    ·rename_i e;rw[T5 (by assumption),T7 (by assumption),T7 e] at hm;simp at hm
    ·simp only[fL];intro e;have:=congrArg List.length e;simp at this;omega
   ·split
    ·unfold pL;rw[hk0];simp[fT,xL]
    ·have:=hG.kind;omega
 | succ n ih=>
  intro k hk hlt hm;have hx:=Ty hlt;have hG:=hg k _ hx;have hst:=jN ns h k _ hx;obtain⟨h1,_,_,h4⟩:=eI hst;have hlen:(ns.take k).length=k:=by simp;omega
  rw[hlen] at h1;have hfp:=mV (iX h1);rw[Bl hg hx] at hm ⊢;have hnum:=cT hG.num;have hkid:∀q∈(ns[k]).kids,(dB (aL ns) q).many=false->(dB (aL ns) q).vals≠[]:=fun q hq=>by
   obtain⟨j,hj⟩:=Ui hq;obtain⟨q0,q1⟩:=hG.kids j q hj;obtain⟨q,rfl⟩:=UH q0;exact ih q (by omega) (by omega)
  unfold dA at hm ⊢;split
  ·simp
  ·split
   ·split
    ·rename_i e;rw[T5 (by assumption),T7 (by assumption),T7 e] at hm;simp at hm
    ·simp only[fL];intro e;have:=congrArg List.length e;simp at this;omega
   ·split
    ·rename_i e0 e1 e3;rw[T5 e0,T5 e1,T7 e3] at hm;unfold pL at hm ⊢;split
     ·rename_i e;rw[e] at hm;simp at hm
     ·rename_i rows e;have:=JW _ _ _ (by simp) hkid e;exact xL (by simpa using this)
    ·rename_i e0 e1 e3;rw[T5 e0,T5 e1,T5 e3] at hm;refine QN ?_ (fun q hq=>hkid q ?_) hm
     ·split
      ·rename_i e4;have hb:=h4 e4;have hkl:=hfp.2 e4;unfold fZ at hb;simp only at hb;split at hb
       ·omega
       ·rename_i hmany;split at hb
        ·rename_i hs;have hsl:=mI hs;have hq:=hG.kids 0 ((ns[k]).kids.getD 0 0) (by
          rw[T1];have:0<(ns[k]).kids.length:=by omega
          rw[Ty this];rfl)
         obtain⟨q,hqe⟩:=UH hq.1;rw[hqe] at hsl hmany hq;simp only[T4] at hsl hmany;rw[WF,show min (q+1) k=q+1 by omega,jR (by omega) (by omega) (by omega)] at hsl hmany;have:=ih q (by omega) (by omega) (by simpa using hmany);have:=U9.2 this;intro e;have:=congrArg List.length e;simp at this;omega
        ·omega
      ·have:=hG.kind;have:=hfp.1 (by omega);exact List.ne_nil_of_length_pos (by omega)
     ·split at hq
      ·exact Us hq
      ·exact hq
def x6(ss:List Int)(x:Nd):Int:=
 if x.kind=0 then aY x.value else if x.kind=1 then 1 else if x.kind=3 then 1+f8 ss x.kids else max 1 (cS ss (eJ x))
theorem Ig{ss:List Int}{x:Nd}:x6 ss x<=1024↔kY ss x<=1024:=by
 unfold x6 kY;split
 ·rfl
 ·split
  ·rfl
  ·split
   ·rfl
   ·omega
theorem FT{ns:List Nd}(ho:∀x∈ns,rJ x)(h:cD [] ns=0){x:Nd}(hk:x.kind=2∨x.kind=4)(hs:gM ns (bQ ns) (cQ ns) x=0):∃q∈eJ x,0<=q/\q<ns.length:=by
 obtain⟨h1,_,_,h4⟩:=eI hs;have hfp:=mV (iX h1);have hn:=lQ h1;have mem:∀q∈x.kids,0<=q/\q<ns.length:=fun q hq=>by
  obtain⟨j,hj⟩:=Ui hq;exact hn.kids j q hj
 rcases hk with e|e
 ·unfold eJ;rw[T7 e];cases hc:x.kids with
  | nil=>have:=hfp.1 e;rw[hc] at this;simp at this
  | cons q r=>exact⟨q,by simp,mem q (by rw[hc];simp)⟩
 ·unfold eJ;rw[T5 (by omega)];have hb:=h4 e;have hkl:=hfp.2 e;have:1<=x.values.length:=by
   unfold fZ at hb;simp only at hb;split at hb
   ·omega
   ·rename_i hmany;split at hb
    ·rename_i hs;have hsl:=mI hs;have hlt:0<x.kids.length:=by omega
     have hq:=mem (x.kids.getD 0 0) (by rw[T1,Ty hlt];exact UW hlt);obtain⟨q,hqe⟩:=UH hq.1;rw[hqe] at hsl hmany hq;simp only[T4] at hsl hmany;rw[jR (by omega) (by omega) (by omega)] at hsl hmany;have:=Gk ns ho h q q (by omega) (by omega) (by simpa using hmany);have:=U9.2 this;omega
    ·omega
  have hlt:1<x.kids.length:=by omega
  refine⟨x.kids[1], ?_,mem _ (UW hlt)⟩;refine UA (i:=0) ?_;rw[Up];exact Ty hlt
theorem Fk(ns:List Nd)(ho:∀x∈ns,rJ x)(h:cD [] ns=0):∀y∈cQ ns,1<=y:=by
 refine gG (P:=fun ns=>(∀x∈ns,rJ x)->cD [] ns=0->∀y∈cQ ns,1<=y) (fun _ _=>by simp[cQ]) (fun l x ih ho h=>?_) ns ho h;have h1:=iK h;have hol:∀y∈l,rJ y:=fun y hy=>ho y (Ud _ hy)
 have ih:=ih hol h1;have hs:=fR [] l x h1;rw[h] at hs;simp only[Um] at hs;rw[lP];intro y hy;rcases UI.1 hy with hy|hy
 ·exact ih y hy
 ·simp at hy;subst hy;have hb:=jM l h1;have hk:=(lQ (eI hs.symm).1).kind;unfold kY;split
  ·have:=EK x.value;omega
  ·split
   ·omega
   ·split
    ·have:=(iP (by omega) hb.2 x.kids).1;omega
    ·obtain⟨q,hq,q0,q1⟩:=FT hol h1 (by omega) hs.symm;have:=(sB (ss:=cQ l) (eJ x) 0 q hq).1;have h2:1<=dV (cQ l) q:=by
      unfold dV;have hlt:q.toNat<(cQ l).length:=by rw[kO];omega
      rw[T1,Ty hlt];exact ih _ (UW hlt)
     unfold cS;omega
theorem OZ{ns:List Nd}(ho:∀x∈ns,rJ x)(h:cD [] ns=0){x:Nd}(hs:gM ns (bQ ns) (cQ ns) x=0):x6 (cQ ns) x=kY (cQ ns) x:=by
 have hk:=(lQ (eI hs).1).kind;unfold x6 kY;split
 ·rfl
 ·split
  ·rfl
  ·split
   ·rfl
   ·obtain⟨q,hq,q0,q1⟩:=FT ho h (by omega) hs;have:=(sB (ss:=cQ ns) (eJ x) 0 q hq).1;have h2:1<=dV (cQ ns) q:=by
     unfold dV;have hlt:q.toNat<(cQ ns).length:=by rw[kO];omega
     rw[T1,Ty hlt];exact Fk ns ho h _ (UW hlt)
    unfold cS at *;omega
theorem Ip{a b:List Int}{k:Int}(h0:0<=k)(h:k<a.length):dV (a++b) k=dV a k:=by
 unfold dV;rw[T1,T1,UY (by omega)]
theorem Co{a b:List Int}{l:List Int}(h:∀k∈l,dV a k=dV b k):f8 a l=f8 b l:=by
 unfold f8;have:∀(l:List Int) (s:Int),(∀k∈l,dV a k=dV b k)->l.foldl (fun s k=>s+dV a k) s=l.foldl (fun s k=>s+dV b k) s:=by
  intro l
  induction l with
  | nil=>intro s _;rfl
  | cons k r ih=>intro s h;simp only[UR];rw[h k (by simp)];exact ih _ fun q hq=>h q (by simp[hq])
 exact this l 0 h
theorem r8{a b:List Int}{l:List Int}(h:∀k∈l,dV a k=dV b k):cS a l=cS b l:=by
 unfold cS;have:∀(l:List Int) (s:Int),(∀k∈l,dV a k=dV b k)->l.foldl (fun s k=>max s (dV a k)) s=l.foldl (fun s k=>max s (dV b k)) s:=by
  intro l
  induction l with
  | nil=>intro s _;rfl
  | cons k r ih=>intro s h;simp only[UR];rw[h k (by simp)];exact ih _ fun q hq=>h q (by simp[hq])
 exact this l 0 h
theorem Bc{x:Nd}{q:Int}(h:q∈eJ x):q∈x.kids:=by
 unfold eJ at h;split at h
 ·exact h
 ·exact Us h
theorem CH{a b:List Int}{x:Nd}(h:∀k∈x.kids,dV a k=dV b k)(h4:x.kind=4->0<x.kids.length)(hk:0<=x.kind/\x.kind<=4):gZ a x=gZ b x:=by
 unfold gZ;split
 ·rfl
 ·split
  ·rfl
  ·split
   ·exact Co h
   ·split
    ·rw[r8 fun q hq=>h q (Bc hq)]
    ·have:0<x.kids.length:=h4 (by omega);rw[r8 fun q hq=>h q (Bc hq),h (x.kids.getD 0 0) (by rw[T1,Ty this];exact UW this)]
theorem Hz{a b:List Int}{x:Nd}(h:∀k∈x.kids,dV a k=dV b k):x6 a x=x6 b x:=by
 unfold x6;rw[Co h,r8 fun q hq=>h q (Bc hq)]
end Go.Ax
namespace Go.Ax
open Go
structure gO(ns:List Nd)(n:Nat):Prop where
 hn:n<=ns.length
 len:ns.length<=4096
 ok:∀x∈ns,rJ x
 val:cD [] (ns.take n)=0
variable {ns:List Nd} {n:Nat}
theorem gO.okT(h:gO ns n):∀x∈ns.take n,rJ x:=fun x hx=>h.ok x (Uc hx)
theorem gO.goodT(h:gO ns n):∀(j:Nat) (x:Nd),(ns.take n)[j]? = some x->iU j x:=lM _ h.okT h.val
theorem xB{i:Nat}{x:Nd}(hi:i<n)(hx:ns[i]? = some x):(ns.take n)[i]? = some x:=by rw[Ua,T7 hi];exact hx
theorem gO.node(h:gO ns n){i:Nat}{x:Nd}(hi:i<n)(hx:ns[i]? = some x):iU i x:=h.goodT i x (xB hi hx)
theorem gO.atE(h:gO ns n){k:Int}(h0:0<=k)(h1:k<n):dB (aL (ns.take n)) k=dB (aL ns) k:=jR h0 h1 h.hn
theorem gO.vals(h:gO ns n){k:Int}(h0:0<=k)(h1:k<n):(dB (aL ns) k).vals.length<=1024/\∀v∈(dB (aL ns) k).vals,g5 v:=by
 rw[←h.atE h0 h1];exact pI (iO _ h.goodT) k
theorem gO.at(h:gO ns n){i:Nat}{x:Nd}(hi:i<n)(hx:ns[i]? = some x):dB (aL ns) i=dA x (aL ns):=by
 rw[←h.atE (by omega) (by omega),Bl h.goodT (xB hi hx)];refine z8 fun k hk=>?_
 obtain⟨j,hj⟩:=Ui hk;obtain⟨h0,h1⟩:=(h.node hi hx).kids j k hj;exact h.atE h0 (by omega)
theorem S7(ns:List Nd)(k:Int):lV (dB (aL ns) k).vals:=Of (Bu ns) k
theorem gO.ne(h:gO ns n){k:Int}(h0:0<=k)(h1:k<n)(hm:(dB (aL ns) k).many=false):(dB (aL ns) k).vals≠[]:=by
 rw[←h.atE h0 h1] at hm ⊢;obtain⟨k,rfl⟩:=UH h0;exact Gk _ h.okT h.val k k (UC _) (by rw[U4];have:=h.hn;omega) hm
theorem gO.step(h:gO ns n){i:Nat}{x:Nd}(hi:i<n)(hx:ns[i]? = some x):gM (ns.take i) (bQ (ns.take i)) (cQ (ns.take i)) x=0:=by
 have:=jN _ h.val i x (xB hi hx)
 rwa [WF,Ve (by omega)] at this
theorem gO.nodeOK(h:gO ns n){i:Nat}{x:Nd}(hi:i<n)(hx:ns[i]? = some x):FZ i x:=by
 have:=lQ (eI (h.step hi hx)).1
 rwa [U4,Ve (by have:=h.hn;omega)] at this
theorem Qf{bs:List iB}{kids:List Int}{j:Nat}{k:Int}{a:List aT × Bool}(hk:kids[j]? = some k)(h:(kids.take j).foldl (bX bs) ([],false)=a) :
  (kids.take (j+1)).foldl (bX bs) ([],false)=bX bs a k:=by
 obtain⟨hj,he⟩:=T0.1 hk;rw[T9 hj,U6,h,he];rfl
theorem JS{bs:List iB}{kids:List Int}{j:Nat}(h:((kids.take j).foldl (bX bs) ([],false)).2=true):mY bs kids=⟨[],true⟩:=by
 have e:(kids.foldl (bX bs) ([],false)).2=true:=by
  conv=>lhs;rw[←Ug j kids,U6]
  exact C4 _ _ h
 unfold mY;rw[T7 e]
theorem M1{bs:List iB}{kids:List Int}{out:List aT}(h:kids.foldl (bX bs) ([],false)=(out,false)):mY bs kids=⟨out,false⟩:=by
 unfold mY;rw[h];rfl
def gA(bs:List iB)(a:Nat × Bool)(k:Int):Nat × Bool:=(a.1*(dB bs k).vals.length,a.2 || (dB bs k).many || decide (1024<a.1*(dB bs k).vals.length))
theorem HC{bs:List iB}:∀(l:List Int) (a:Nat × Bool),a.2=true->(l.foldl (gA bs) a).2=true
 | [],_,h=>h
 | k::r,a,h=>HC r _ (by simp[gA,h])
theorem Fx{bs:List iB}(kids:List Int):fT bs kids [[]]=if (kids.foldl (gA bs) (1,false)).2=true then none else some (pH (kids.map fun k=>(dB bs k).vals).reverse):=by
 have:=D2 (bs:=bs) kids [] (by simp[i7]);simp only[pH,i7,Vn] at this;rw[this,List.map_reverse];rfl
theorem Qz{bs:List iB}{kids:List Int}{j:Nat}{k:Int}{a:Nat × Bool}(hk:kids[j]? = some k)(h:(kids.take j).foldl (gA bs) (1,false)=a) :
  (kids.take (j+1)).foldl (gA bs) (1,false)=gA bs a k:=by
 obtain⟨hj,he⟩:=T0.1 hk;rw[T9 hj,U6,h,he];rfl
theorem N2{bs:List iB}{x:Nd}{j:Nat}(h:((x.kids.take j).foldl (gA bs) (1,false)).2=true):pL bs x=⟨[],true⟩:=by
 have e:(x.kids.foldl (gA bs) (1,false)).2=true:=by
  conv=>lhs;rw[←Ug j x.kids,U6]
  exact HC _ _ h
 unfold pL;rw[Fx,T7 e]
theorem M0{bs:List iB}:∀(kids:List Int) (a:Nat × Bool),(kids.foldl (gA bs) a).1=a.1*i7 (kids.map fun k=>(dB bs k).vals).reverse:=by
 intro kids;refine gG (P:=fun kids=>∀a:Nat × Bool,(kids.foldl (gA bs) a).1=a.1*i7 (kids.map fun k=>(dB bs k).vals).reverse) (fun a=>by simp[i7]) (fun l x ih a=>?_) kids;rw[U6,VP,List.reverse_append];simp only[UR,XE,Uj,List.map_nil,List.reverse_singleton,List.singleton_append,i7];rw[gA,ih a,VK]
theorem NQ{bs:List iB}(hb:∀b∈bs,lV b.vals){x:Nd}{t:Nat}(h:x.kids.foldl (gA bs) (1,false)=(t,false)) :
  pL bs x=⟨(pH (x.kids.map fun k=>(dB bs k).vals).reverse).map (dO x.name),false⟩/\t=i7 (x.kids.map fun k=>(dB bs k).vals).reverse:=by
 have hr:fT bs x.kids [[]]=some (pH (x.kids.map fun k=>(dB bs k).vals).reverse):=by
  rw[Fx,h];rfl
 refine⟨Ka hb hr, ?_⟩;have:=M0 (bs:=bs) x.kids (1,false);rw[h] at this;simpa using this
theorem HU{ls:List (List aT)}{q kk:Nat}{l:List aT}{v:aT}(hl:ls[q]? = some l)(hv:l[kk%l.length]? = some v) :
  rowAt (ls.take (q+1)).reverse kk=rowAt (ls.take q).reverse (kk/l.length)++[v]:=by
 obtain⟨h1,h2⟩:=T0.1 hl;rw[T9 h1,List.reverse_append,h2];simp only[List.reverse_singleton,List.singleton_append,rowAt,hv];rfl
end Go.Ax
namespace Go.Ax
open Go
structure Mt where
 old:Nat
 now:Nat
 opts:List Int
 same:List Bool
def aO(l:List Nd)(i:Nat):Nd:=l.getD i ⟨0,[],0,0,[],[],[],[],.mk 0 0 [] []⟩
def mE(y:Nd)(k:Int):Nat:=(y.kids.getD k.toNat 0).toNat
structure sO(A:List Nd):Prop where
 ok:∀x∈A,rJ x
 val:∀x∈A,aY x.value<=1048576
 vals:∀x∈A,∀v∈x.values,aY v<=1048576
 vlen:∀x∈A,x.values.length<=2000
 klen:∀x∈A,x.kids.length<=2000
 llen:∀x∈A,x.labels.length<=1000
 lab:∀x∈A,∀s∈x.labels,s.length<=1000
 len:A.length<=1000
structure QF(A:List Nd)(i:Nat)(x:Nd):Prop where
 opt:Rl x
 node:FZ i x
 srt:lV x.values
 val:∀v∈x.values,g5 v
theorem sT:∀{l:List aT},dQ l=true->lV l
 | [],_=>by simp[lV]
 | [a],_=>by simp[lV]
 | a::b::r,h=>by
  simp only[dQ,Tz,UJ] at h;have ih:=sT h.2;unfold lV at ih ⊢;refine Uk.2 ⟨fun x hx=>?_,ih⟩;rcases T6.1 hx with rfl|hx
  ·exact h.1
  ·have:=(Uk.1 ih).1 x hx;exact F6 h.1 (by omega)
theorem goodT{A:List Nd}(h:sO A)(hv:dD A=0){i:Nat}{x:Nd}(hx:A[i]? = some x):QF A i x:=by
 have hxm:=UA hx;have hv0:cD [] A=0:=by
  unfold dD at hv;split at hv
  ·omega
  ·exact hv
 have hn:=pR A hv0 i x hx;have hN:=lQ hn;have hf:=iX hn;have hfp:=mV hf;have hk:=h.klen x hxm;refine⟨⟨h.ok x hxm,cT hN.num,by omega,fun e=>by have:=hN.klen (by omega);omega,fun e=>?_⟩,hN, ?_,fun v hv=>((h.ok x hxm).valuesI v hv).1⟩
 ·refine⟨hfp.1 e, ?_⟩;unfold c7 at hf;simp only[Tz,U5,UJ] at hf;rcases hf.1.1.1.2 with h2|h2
  ·exact absurd e h2
  ·exact h2.2
 ·unfold c7 at hf;simp only[Tz] at hf;exact sT hf.2
theorem KH{A:List Nd}(ho:∀x∈A,rJ x)(hv:dD A=0){i:Nat}{x:Nd}(hx:A[i]? = some x)(h4:x.kind=4):1<=x.values.length:=by
 have hv0:cD [] A=0:=by
  unfold dD at hv;split at hv
  ·omega
  ·exact hv
 have hi:=(T0.1 hx).1;have hpre:cD [] (A.take i)=0:=by
  have:=hv0;rw[←Ug i A] at this;exact iK this
 obtain⟨q,hq,-⟩:=FT (ns:=A.take i) (fun y hy=>ho y (Uc hy)) hpre (x:=x) (.inr h4) (jN A hv0 i x hx);have hb:=(lQ (pR A hv0 i x hx)).bind h4;unfold eJ at hq;rw[T5 (by omega)] at hq;have:=List.length_pos_of_mem hq;simp at this;omega
theorem RC{A:List Nd}{n:Nat}{y:Nd}(hy:FZ n y){k:Int}(h0:0<=k)(h1:k<y.kids.length):mE y k<n/\∃q:Int,y.kids[k.toNat]? = some q/\q=mE y k:=by
 have hk:k.toNat<y.kids.length:=by omega
 obtain⟨a,b⟩:=hy.kids k.toNat _ (Ty hk);unfold mE;rw[T1,Ty hk];simp only[WD];exact⟨by omega,_,rfl,by omega⟩
end Go.Ax
namespace Go.Ax
open Go
end Go.Ax
namespace Go.Ax
open Go
abbrev Sp:=Nat × Nat × Nat
structure Tm where
 val:aT
 used:Nat
 stop:Int
 spans:List Sp
structure Pt where
 used:Nat
 vals:List aT
 spans:List Sp
 stop:Int
def Kw(x:Nd):Int:=if x.kind=1 then x.hi-x.lo+1 else x.kids.length
structure VT(A:List Nd):Prop where
 tin:sO A
 val:dD A=0
 pos:0<A.length
section
variable {A:List Nd}
theorem VT.v0(h:VT A):cD [] A=0:=by
 have hv:=h.val;unfold dD at hv;split at hv
 ·omega
 ·exact hv
theorem VT.set(h:VT A):gO A A.length:=⟨UC _,by have:=h.tin.len;omega,h.tin.ok,by rw[UM];exact h.v0⟩
theorem VT.node(h:VT A){i:Nat}{x:Nd}(hx:A[i]? = some x):QF A i x:=goodT h.tin h.val hx
theorem b9{i:Nat}(hi:i<A.length):A[i]? = some (aO A i):=by
 unfold aO;rw[T1,Ty hi];rfl
theorem VT.kid(h:VT A){i:Nat}{x:Nd}(hx:A[i]? = some x){j:Nat}(hj:j<x.kids.length):mE x j<i/\x.kids[j]? = some (mE x j:Int):=by
 have hi:=(T0.1 hx).1;obtain⟨h1,q,h2,h3⟩:=RC (A:=A) (h.node hx).node (k:=(j:Int)) (by omega) (by omega);refine⟨h1, ?_⟩;rw[T4] at h2;rw[h2,h3]
theorem zG:∀{l m:List aT},cL l m=true->l=m
 | [],[],_=>rfl
 | a::l,b::m,h=>by
  simp only[cL,Tz,UJ] at h;rw[Cn a b h.1,zG h.2]
 | [],b::m,h=>by simp[cL] at h
 | a::l,[],h=>by simp[cL] at h
theorem VT.bind(h:VT A){i:Nat}{x:Nd}(hx:A[i]? = some x)(h4:x.kind=4):x.kids.length=x.values.length+1/\1<=x.values.length/\(dB (aL A) (mE x 0)).many=false/\(dB (aL A) (mE x 0)).vals=x.values:=by
 have hi:=(T0.1 hx).1;have hb:=(h.node hx).node.bind h4;have h1:=KH h.tin.ok h.val hx h4;refine⟨hb,h1, ?_⟩;obtain⟨k1,k2⟩:mE x 0<i/\x.kids[0]? = some (mE x 0:Int):=h.kid hx (j:=0) (by omega);have hs:=(eI (jN A h.v0 i x hx)).2.2.2 h4;have e0:x.kids.getD 0 0=(mE x 0:Int):=by rw[T1,k2];rfl
 unfold fZ at hs;rw[e0,T4,WF,Ve (by omega),jR (by omega) (by omega) (by omega)] at hs;simp only at hs;split at hs
 ·omega
 ·rename_i hm;split at hs
  ·rename_i hsv;exact⟨by simpa using hm,zG hsv⟩
  ·omega
end
theorem Fh{n:List UInt8}{vs:List aT}(hn:n.length<=4294967296)(hl:vs.length<=4294967296)(h:∀v∈vs,g5 v):g5 (dO n vs):=by
 have z:∀k:Int,0<=k->k<=3->i64 k:=fun k h1 h2=>⟨by omega,by omega⟩
 unfold dO;split
 ·exact kL (z 2 (by omega) (by omega)) (z 0 (by omega) (by omega)) (by simp) hl (oI h)
 ·exact kL (z 3 (by omega) (by omega)) (z 0 (by omega) (by omega)) hn hl (oI h)
end Go.Ax
namespace Go.Ax
open Go
theorem g7{A:List Nd}(h:VT A){i:Nat}{x:Nd}(hx:A[i]? = some x){k:Int}(hk:k∈x.kids):0<=k/\k.toNat<i:=by
 obtain⟨j,hj⟩:=Ui hk;have:=(h.node hx).node.kids j k hj;omega
theorem VT.kidI{A:List Nd}(h:VT A){i:Nat}{x:Nd}(hx:A[i]? = some x){c:Int}(h0:0<=c)(h1:c<x.kids.length):mE x c<i/\(mE x c:Int)∈x.kids/\x.kids[c.toNat]? = some (mE x c:Int):=by
 obtain⟨j,rfl⟩:=UH h0;obtain⟨k1,k2⟩:=h.kid hx (j:=j) (by omega);exact⟨k1,UA k2,by rw[T4];exact k2⟩
def RA(a b:Nat)(l:List Sp):Prop:=∀s∈l,a<=s.1/\s.1<=s.2.1/\s.2.1<=s.2.2/\s.2.2<=b
theorem RA.mono{a b a' b':Nat}{l:List Sp}(h:RA a b l)(h1:a'<=a)(h2:b<=b'):RA a' b' l:=fun s hs=>by
 have:=h s hs;omega
theorem RA.app{a b:Nat}{l m:List Sp}(h:RA a b l)(h':RA a b m):RA a b (l++m):=fun s hs=>by
 rcases UI.1 hs with hs|hs
 ·exact h s hs
 ·exact h' s hs
end Go.Ax
namespace Go.Ax
open Go
theorem J7(r:List Nd):∀l:List Nd,∃m,bQ (l++r)=bQ l++m:=by
 refine gG (P:=fun r=>∀l:List Nd,∃m,bQ (l++r)=bQ l++m) (fun l=>⟨[],by simp⟩) (fun r x ih l=>?_) r;obtain⟨m,hm⟩:=ih l;refine⟨m++[gZ (bQ (l++r)) x], ?_⟩;rw[←Ur,lF,hm,Ur]
theorem Dc{A:List Nd}{n:Nat}{k:Int}(h0:0<=k)(h:k<n)(hn:n<=A.length):dV (bQ (A.take n)) k=dV (bQ A) k:=by
 obtain⟨m,hm⟩:=J7 (A.drop n) (A.take n);rw[Ug] at hm;rw[hm,Ip h0 (by rw[kW,U4];omega)]
section
variable {A:List Nd}
theorem VT.lenC(h:VT A){i:Nat}{x:Nd}(hx:A[i]? = some x){n:Nat}(hi:i<=n)(hn:n<=A.length):gZ (bQ (A.take n)) x=gZ (bQ A) x:=by
 refine CH (fun k hk=>?_) (fun h4=>by have:=(h.bind hx h4).1;omega) (h.node hx).node.kind;have:=g7 h hx hk;exact Dc this.1 (by omega) hn
theorem VT.len(h:VT A){i:Nat}{x:Nd}(hx:A[i]? = some x):dV (bQ A) i=gZ (bQ A) x:=by
 obtain⟨hi,he⟩:=T0.1 hx;rw[←Dc (n:=i+1) (by omega) (by omega) (by omega),T9 hi,lF,he,h.lenC hx (UC _) (by omega)];unfold dV;rw[T4,T1,Uf (by rw[kW];simp;omega),kW];simp[show min i A.length=i by omega]
theorem VT.lens0(h:VT A)(k:Int):0<=dV (bQ A) k/\dV (bQ A) k<=1024:=by
 unfold dV;rw[T1];cases e:(bQ A)[k.toNat]? with
 | none=>simp
 | some b=>exact(jM A h.v0).1 b (UA e)
theorem J4{b:List Int}(hb:∀k,0<=dV b k):∀(l:List Int),f8 b l=0->∀k∈l,dV b k=0:=by
 have key:∀(l:List Int) (s:Int),0<=s->l.foldl (fun s k=>s+dV b k) s=0->s=0/\∀k∈l,dV b k=0:=by
  intro l
  induction l with
  | nil=>intro s h0 h;exact⟨h,by simp⟩
  | cons k l ih=>
   intro s h0 h;rw[UR] at h;have hk:=hb k;obtain⟨h1,h2⟩:=ih _ (by omega) h;refine⟨by omega,fun q hq=>?_⟩;rcases T6.1 hq with rfl|hq
   ·omega
   ·exact h2 q hq
 exact fun l h=>(key l 0 (Int.le_refl _) h).2
theorem VT.len0(h:VT A){i:Nat}{x:Nd}(hx:A[i]? = some x)(h0:dV (bQ A) i=0):x.kind≠1/\x.kind≠2/\(x.kind=3->∀k∈x.kids,dV (bQ A) k=0) /\
  (x.kind=4->dV (bQ A) (mE x 0)=0/\∀k∈x.kids.drop 1,dV (bQ A) k=0):=by
 rw[h.len hx] at h0;have hb:=fun k=>(h.lens0 k).1
 unfold gZ at h0;refine⟨fun e=>?_,fun e=>?_,fun e=>?_,fun e=>?_⟩
 ·rw[T5 (by omega),T7 e] at h0;omega
 ·rw[T5 (by omega),T5 (by omega),T5 (by omega),T7 e] at h0;have:=(gN (b:=bQ A) (M:=1024) (by omega) (jM A h.v0).1 (eJ x)).1;omega
 ·rw[T5 (by omega),T5 (by omega),T7 e] at h0;exact J4 hb _ h0
 ·rw[T5 (by omega),T5 (by omega),T5 (by omega),T5 (by omega)] at h0;have hm:=(gN (b:=bQ A) (M:=1024) (by omega) (jM A h.v0).1 (eJ x)).1;have hk:(x.kids.getD 0 0)=(mE x 0:Int):=by
   have:=(h.bind hx e).1;have h2:x.kids[0]? = some (mE x 0:Int):=(h.kid hx (j:=0) (by omega)).2;rw[T1,h2];rfl
  rw[hk] at h0;have:=hb (mE x 0);refine⟨by omega,fun k hk=>?_⟩;have ha:k∈eJ x:=by unfold eJ;rw[T5 (by omega)];exact hk
  have h1:=(sB (ss:=bQ A) (eJ x) 0 k ha).1;have h1:dV (bQ A) k<=cS (bQ A) (eJ x):=h1;have:=hb k;omega
end
end Go.Ax
namespace Go.Ax
open Go
structure Sys(S R:Type) where
 sa:Nd->(Nat->S)->(Nat->aT->R)->S
 sf:Nd->(Nat->aT->R)->aT->R
 s0:S
 r0:R
 la:∀(x:Nd) (al al':Nat->S) (of of':Nat->aT->R),(∀k∈x.kids,al k.toNat=al' k.toNat)->(∀k∈x.kids,∀v,of k.toNat v=of' k.toNat v)->sa x al of=sa x al' of'
 lf:∀(x:Nd) (of of':Nat->aT->R) (v:aT),(∀k∈x.kids,∀v,of k.toNat v=of' k.toNat v)->sf x of v=sf x of' v
section
variable {S R:Type}
def Sys.run(y:Sys S R)(A:List Nd):Nat->(Nat->S) × (Nat->aT->R)
 | 0=>(fun _=>y.s0,fun _ _=>y.r0)
 | f+1=>(fun i=>y.sa (aO A i) (y.run A f).1 (y.run A f).2,fun i v=>y.sf (aO A i) (y.run A f).2 v)
def Sys.all(y:Sys S R)(A:List Nd)(i:Nat):S:=(y.run A (i+1)).1 i
def Sys.of(y:Sys S R)(A:List Nd)(i:Nat)(v:aT):R:=(y.run A (i+1)).2 i v
theorem Sys.stable(y:Sys S R){A:List Nd}(h:VT A):∀(f g i:Nat),i<f->i<g->i<A.length->(y.run A f).1 i=(y.run A g).1 i/\∀v,(y.run A f).2 i v=(y.run A g).2 i v
 | 0,g,i,h1,h2,h3=>by omega
 | f+1,0,i,h1,h2,h3=>by omega
 | f+1,g+1,i,h1,h2,h3=>by
  have hk:=fun(k:Int) (hk:k∈(aO A i).kids)=>g7 h (b9 h3) hk
  have ih:=fun(k:Int) (hm:k∈(aO A i).kids)=>y.stable h f g k.toNat (by have:=hk k hm;omega) (by have:=hk k hm;omega) (by have:=hk k hm;omega)
  exact⟨y.la _ _ _ _ _ (fun k hm=>(ih k hm).1) fun k hm=>(ih k hm).2,fun v=>y.lf _ _ _ _ fun k hm=>(ih k hm).2⟩
theorem Sys.all_eq(y:Sys S R){A:List Nd}(h:VT A){i:Nat}(hi:i<A.length):y.all A i=y.sa (aO A i) (y.all A) (y.of A):=by
 have hk:=fun(k:Int) (hk:k∈(aO A i).kids)=>g7 h (b9 hi) hk
 exact y.la _ _ _ _ _ (fun k hm=>(y.stable h i _ k.toNat (hk k hm).2 (VH _) (by have:=hk k hm;omega)).1) fun k hm=>(y.stable h i _ k.toNat (hk k hm).2 (VH _) (by have:=hk k hm;omega)).2
theorem Sys.of_eq(y:Sys S R){A:List Nd}(h:VT A){i:Nat}(hi:i<A.length)(v:aT):y.of A i v=y.sf (aO A i) (y.of A) v:=by
 have hk:=fun(k:Int) (hk:k∈(aO A i).kids)=>g7 h (b9 hi) hk
 exact y.lf _ _ _ _ fun k hm=>(y.stable h i _ k.toNat (hk k hm).2 (VH _) (by have:=hk k hm;omega)).2
end
theorem cH{α β:Type}{f g:β->α->β}:∀(l:List α) (b:β),(∀a∈l,∀b,f b a=g b a)->l.foldl f b=l.foldl g b
 | [],b,h=>rfl
 | a::l,b,h=>by
  rw[UR,UR,h a (UN ..),cH l _ fun a ha=>h a (UF _ ha)]
theorem nO{α:Type}{l:List α}{kc:α × Nat}(h:kc∈l.zipIdx):kc.1∈l:=by
 obtain⟨a,i⟩:=kc;obtain⟨h1,h2⟩:=List.mem_zipIdx' h;simp only at h2 ⊢;rw[h2];exact UW _
theorem dT{α:Type}{l:List α}{ks:List Int}{a:α × Int}(h:a∈l.zip (ks.drop 1)):a.2∈ks/\ks.getD 0 0∈ks:=by
 have:=Us (Vq h).2;cases ks with
 | nil=>cases this
 | cons b r=>exact⟨this,by simp⟩
def xR:aT->List aT
 | .mk _ _ _ ks=>ks
def So:aT->List UInt8
 | .mk _ _ s _=>s
def mQ(x:Nd)(v:aT):Bool:=decide ((xR v).length=x.kids.length) && (if x.name=[] then decide (Mb v=2) else decide (Mb v=3) && decide (So v=x.name))
def DU(x:Nd)(v:aT):Bool:=decide (Mb v=0) && decide (x.lo<=OK v) && decide (OK v<=x.hi)
def jT(x:Nd):Nat:=(x.kids.getD 0 0).toNat
structure Aj(T:Type) where
 one:T
 add:T->T->T
 mul:T->T->T
 opt:Nd->Nat->T
 spn:Nd->T
section
variable {T:Type}
def gK(g:Aj T):Option T->Option T->Option T
 | none,b=>b
 | some a,none=>some a
 | some a,some b=>some (g.add a b)
def dI(g:Aj T):Option T->Option T->Option T
 | some a,some b=>some (g.mul a b)
 | _,_=>none
def Ob(g:Aj T)(x:Nd)(al:Nat->Option T)(f:Option T)(kc:Int × Nat):Option T:=gK g f (dI g (some (g.opt x kc.2)) (al kc.1.toNat))
def Mq(g:Aj T)(x:Nd)(of:Nat->aT->Option T)(al:Nat->Option T)(f:Option T)(vk:aT × Int):Option T:=gK g f (dI g (of (jT x) vk.1) (al vk.2.toNat))
def RR(g:Aj T)(of:Nat->aT->Option T)(f:Option T)(kv:Int × aT):Option T:=dI g f (of kv.1.toNat kv.2)
def DT(g:Aj T)(x:Nd)(al:Nat->Option T)(of:Nat->aT->Option T):Option T:=
 if x.kind=1 then some (g.spn x)
 else if x.kind=3 then x.kids.foldl (fun f k=>dI g f (al k.toNat)) (some g.one)
 else if x.kind=2 then x.kids.zipIdx.foldl (Ob g x al) none
 else if x.kind=4 then(x.values.zip (x.kids.drop 1)).foldl (Mq g x of al) none
 else some g.one
def Ae(g:Aj T)(x:Nd)(of:Nat->aT->Option T)(v:aT):Option T:=
 if bS v≠0 then none
 else if x.kind=0 then(if bR x.value v=0 then some g.one else none)
 else if x.kind=1 then(if DU x v=true then some (g.opt x (OK v-x.lo).toNat) else none)
 else if x.kind=3 then(if mQ x v=true then(x.kids.zip (xR v)).foldl (RR g of) (some g.one) else none)
 else if x.kind=2 then x.kids.zipIdx.foldl (Ob g x fun k=>of k v) none
 else if x.kind=4 then(x.values.zip (x.kids.drop 1)).foldl (Mq g x of fun k=>of k v) none
 else none
def bP(g:Aj T):Sys (Option T) (Option T) where
 sa:=DT g
 sf:=Ae g
 s0:=none
 r0:=none
 la:=fun x al al' of of' h1 h2=>by
  unfold DT;split
  ·rfl
  split
  ·exact cH _ _ fun k hk b=>by rw[h1 k hk]
  split
  ·exact cH _ _ fun kc hk b=>by unfold Ob;rw[h1 _ (nO hk)]
  split
  ·exact cH _ _ fun vk hk b=>by
    obtain⟨m1,m2⟩:=dT hk;unfold Mq jT;rw[h1 _ m1,h2 _ m2]
  ·rfl
 lf:=fun x of of' v h2=>by
  unfold Ae;split
  ·rfl
  split
  ·rfl
  split
  ·rfl
  split
  ·split
   ·exact cH _ _ fun kv hk b=>by unfold RR;rw[h2 _ (Vq hk).1]
   ·rfl
  split
  ·exact cH _ _ fun kc hk b=>by unfold Ob;dsimp only;rw[h2 _ (nO hk)]
  split
  ·exact cH _ _ fun vk hk b=>by
    obtain⟨m1,m2⟩:=dT hk;unfold Mq jT;simp only;rw[h2 _ m1,h2 _ m2]
  ·rfl
end
end Go.Ax
namespace Go.Ax
open Go
def qX(n:Nat):Option Nat:=if n=0 then none else some n
def aR:Aj Nat:=⟨1,(· + ·),(· * ·),fun _ _=>1,fun x=>(x.hi-x.lo+1).toNat⟩
theorem lI(a b:Nat):gK aR (qX a) (qX b)=qX (a+b):=by
 unfold qX;by_cases ha:a=0<;>by_cases hb:b=0
 ·subst ha hb;rfl
 ·subst ha;rw[T7 rfl,T5 hb,UT,T5 hb];rfl
 ·subst hb;rw[T7 rfl,T5 ha,Vi,T5 ha];rfl
 ·rw[T5 ha,T5 hb,T5 (by omega)];rfl
theorem gX(a b:Nat):dI aR (qX a) (qX b)=qX (a*b):=by
 unfold qX;by_cases ha:a=0<;>by_cases hb:b=0
 ·subst ha hb;rfl
 ·subst ha;rw[T7 rfl,T5 hb,Nat.zero_mul];rfl
 ·subst hb;rw[T7 rfl,T5 ha,W8];rfl
 ·rw[T5 ha,T5 hb,T5 (Nat.mul_ne_zero ha hb)];rfl
def iG(x:Nd)(al:Nat->Nat)(of:Nat->aT->Nat):Nat:=
 if x.kind=1 then(x.hi-x.lo+1).toNat
 else if x.kind=3 then x.kids.foldl (fun f k=>f*al k.toNat) 1
 else if x.kind=2 then x.kids.foldl (fun f k=>f+al k.toNat) 0
 else if x.kind=4 then(x.values.zip (x.kids.drop 1)).foldl (fun f vk=>f+of (jT x) vk.1*al vk.2.toNat) 0
 else 1
def sZ(x:Nd)(of:Nat->aT->Nat)(v:aT):Nat:=
 if bS v≠0 then 0
 else if x.kind=0 then(if bR x.value v=0 then 1 else 0)
 else if x.kind=1 then(if DU x v=true then 1 else 0)
 else if x.kind=3 then(if mQ x v=true then(x.kids.zip (xR v)).foldl (fun f kv=>f*of kv.1.toNat kv.2) 1 else 0)
 else if x.kind=2 then x.kids.foldl (fun f k=>f+of k.toNat v) 0
 else if x.kind=4 then(x.values.zip (x.kids.drop 1)).foldl (fun f vk=>f+of (jT x) vk.1*of vk.2.toNat v) 0
 else 0
def cV:Sys Nat Nat where
 sa:=iG
 sf:=sZ
 s0:=0
 r0:=0
 la:=fun x al al' of of' h1 h2=>by
  unfold iG;split
  ·rfl
  split
  ·exact cH _ _ fun k hk b=>by rw[h1 k hk]
  split
  ·exact cH _ _ fun k hk b=>by rw[h1 k hk]
  split
  ·exact cH _ _ fun vk hk b=>by
    obtain⟨m1,m2⟩:=dT hk;unfold jT;rw[h1 _ m1,h2 _ m2]
  ·rfl
 lf:=fun x of of' v h2=>by
  unfold sZ;split
  ·rfl
  split
  ·rfl
  split
  ·rfl
  split
  ·split
   ·exact cH _ _ fun kv hk b=>by rw[h2 _ (Vq hk).1]
   ·rfl
  split
  ·exact cH _ _ fun k hk b=>by rw[h2 k hk]
  split
  ·exact cH _ _ fun vk hk b=>by
    obtain⟨m1,m2⟩:=dT hk;unfold jT;rw[h2 _ m1,h2 _ m2]
  ·rfl
theorem gH{α β γ:Type}(t:β->γ){f:β->α->β}{g:γ->α->γ}:∀(l:List α) (b:β),(∀a∈l,∀b,t (f b a)=g (t b) a)->t (l.foldl f b)=l.foldl g (t b)
 | [],b,h=>rfl
 | a::l,b,h=>by
  rw[UR,UR,←h a (UN ..) b,gH t l _ fun a ha=>h a (UF _ ha)]
theorem qV{α β:Type}{f:β->α->β}(l:List α):∀(n:Nat) (b:β),(l.zipIdx n).foldl (fun b kc=>f b kc.1) b=l.foldl f b:=by
 induction l with
 | nil=>exact fun n b=>rfl
 | cons a l ih=>exact fun n b=>by rw[WC,UR,UR,ih]
theorem pO(a:Nat):dI aR (some 1) (qX a)=qX a:=by
 have:=gX 1 a;rw[U8] at this;exact this
theorem JJ{A:List Nd}(h:VT A):∀i,i<A.length->(bP aR).all A i=qX (cV.all A i)/\∀v,(bP aR).of A i v=qX (cV.of A i v):=by
 intro i
 induction i using Nat.strongRecOn with
 | ind i ih=>
  intro hi;have hx:=b9 hi;have hk:=fun(k:Int) (hk:k∈(aO A i).kids)=>g7 h hx hk
  have ia:=fun(k:Int) (hm:k∈(aO A i).kids)=>(ih k.toNat (hk k hm).2 (by have:=hk k hm;omega)).1
  have io:=fun(k:Int) (hm:k∈(aO A i).kids)=>(ih k.toNat (hk k hm).2 (by have:=hk k hm;omega)).2
  have hr1:(aO A i).kind=1->((aO A i).hi-(aO A i).lo+1).toNat≠0:=fun _=>by
   have:=cT (h.node hx).node.num;omega
  rw[(bP aR).all_eq h hi,cV.all_eq h hi];refine⟨?_,fun v=>?_⟩
  ·show DT _ _ _ _=qX (iG _ _ _)
   unfold DT iG;generalize aO A i=x at *;split
   ·rename_i h1;unfold qX;rw[T5 (hr1 h1)];rfl
   split
   ·rw[gH qX _ _ (g:=fun f k=>dI aR f ((bP aR).all A k.toNat)) fun k hm b=>by rw[ia k hm,gX]];rfl
   split
   ·rw[gH qX _ _ (g:=fun f k=>gK aR f ((bP aR).all A k.toNat)) fun k hm b=>by rw[ia k hm,lI]];refine(cH (g:=fun b (kc:Int × Nat)=>gK aR b ((bP aR).all A kc.1.toNat)) _ _ fun kc hm b=>?_).trans (qV (f:=fun b (k:Int)=>gK aR b ((bP aR).all A k.toNat)) _ 0 _);unfold Ob;rw[ia _ (nO hm),show aR.opt x kc.2=1 from rfl,pO]
   split
   ·rw[gH qX _ _ (g:=Mq aR x ((bP aR).of A) ((bP aR).all A)) fun vk hm b=>by
     obtain⟨m1,m2⟩:=dT hm;unfold Mq jT;rw[ia _ m1,io _ m2,gX,lI]]
    rfl
   ·rfl
  ·rw[(bP aR).of_eq h hi,cV.of_eq h hi]
   show Ae _ _ _ _=qX (sZ _ _ _)
   unfold Ae sZ;generalize aO A i=x at *;split
   ·rfl
   split
   ·split<;>rfl
   split
   ·split<;>rfl
   split
   ·split
    ·rw[gH qX _ _ (g:=RR aR ((bP aR).of A)) fun kv hm b=>by
      unfold RR;rw[io _ (Vq hm).1,gX]]
     rfl
    ·rfl
   split
   ·rw[gH qX _ _ (g:=fun f k=>gK aR f ((bP aR).of A k.toNat v)) fun k hm b=>by rw[io k hm,lI]];refine(cH (g:=fun b (kc:Int × Nat)=>gK aR b ((bP aR).of A kc.1.toNat v)) _ _ fun kc hm b=>?_).trans (qV (f:=fun b (k:Int)=>gK aR b ((bP aR).of A k.toNat v)) _ 0 _);unfold Ob
    dsimp only
    rw[io _ (nO hm),show aR.opt x kc.2=1 from rfl,pO]
   split
   ·rw[gH qX _ _ (g:=Mq aR x ((bP aR).of A) fun k=>(bP aR).of A k v) fun vk hm b=>by
     obtain⟨m1,m2⟩:=dT hm;unfold Mq jT
     dsimp only
     rw[io _ m1,io _ m2,gX,lI]]
    rfl
   ·rfl
end Go.Ax
namespace Go.Ax
open Go
theorem Ck{v:aT}(h:bS v=0):bI v=true/\vF v=true/\aY v<=1024:=by
 unfold bS at h;split at h
 ·omega
 ·rename_i hf;have hf:bI v=true:=by simpa using hf
  split at h
  ·omega
  ·rename_i hw;rw[not_or] at hw;refine⟨hf, ?_,by omega⟩;have:=zJ v hf;have h2:jD v=false:=by simpa using hw.1
   rw[h2] at this;simpa using this.symm
theorem Ag:∀{l:List aT},dS l=0->∀v∈l,bS v=0
 | [],h,v,hv=>by cases hv
 | a::l,h,v,hv=>by
  simp only[dS] at h;split at h
  ·rename_i h1;exact absurd h h1
  ·rename_i h1;rcases T6.1 hv with rfl|hv
   ·exact Decidable.not_not.1 h1
   ·exact Ag h v hv
theorem VT.own{A:List Nd}(h:VT A){i:Nat}{x:Nd}(hx:A[i]? = some x):∀v∈nL x,bS v=0:=by
 have hn:=(eI (jN A h.v0 i x hx)).1;unfold fF at hn;split at hn
 ·omega
 split at hn
 ·rename_i h1;exact absurd hn h1
 ·rename_i h1;exact Ag (Decidable.not_not.1 h1)
theorem VT.vals_valid{A:List Nd}(h:VT A){i:Nat}{x:Nd}(hx:A[i]? = some x){v:aT}(hv:v∈x.values):bS v=0:=h.own hx v (U7 _ hv)
theorem VT.len256{A:List Nd}(h:VT A){i:Nat}{x:Nd}(hx:A[i]? = some x):0<=dV (bQ A) i/\dV (bQ A) i<=256:=by
 have hi:=(T0.1 hx).1;have:=(eI (jN A h.v0 i x hx)).2.1;rw[h.lenC hx (UC _) (by omega),←h.len hx] at this;exact⟨(h.lens0 i).1,this⟩
theorem Dt:∀{l:List aT},cC l=true->∀v∈l,bI v=true
 | [],h,v,hv=>by cases hv
 | a::l,h,v,hv=>by
  simp only[cC,Tz] at h;rcases T6.1 hv with rfl|hv
  ·exact h.1
  ·exact Dt h.2 v hv
theorem Ga:∀{l:List aT},oE l=false->∀v∈l,jD v=false
 | [],h,v,hv=>by cases hv
 | a::l,h,v,hv=>by
  simp only[oE,Vk] at h;rcases T6.1 hv with rfl|hv
  ·exact h.1
  ·exact Ga h.2 v hv
theorem Gh:∀{l:List aT} {v:aT},v∈l->aY v<=bO l
 | a::l,v,hv=>by
  simp only[bO];rcases T6.1 hv with rfl|hv
  ·omega
  ·have:=Gh hv;omega
theorem l9{v:aT}(h:bS v=0):bI v=true/\jD v=false/\aY v<=1024:=by
 unfold bS at h;split at h
 ·omega
 ·rename_i h1;split at h
  ·omega
  ·rename_i h2;rw[not_or] at h2;exact⟨by simpa using h1,by simpa using h2.1,by omega⟩
theorem Mn{v:aT}(h1:bI v=true)(h2:jD v=false)(h3:aY v<=1024):bS v=0:=by
 unfold bS;rw[T5 (by rw[h1];simp),T5 (by rw[h2];simp;omega)]
theorem HV{v:aT}(h:bS v=0):∀u∈xR v,bS u=0:=fun u hu=>by
 obtain⟨k,n,s,ks⟩:=v;obtain⟨h1,h2,h3⟩:=l9 h;simp only[bI,Tz] at h1;simp only[jD,Vk] at h2;simp only[aY] at h3;have:=Gh (show u∈ks from hu);exact Mn (Dt h1.2 u hu) (Ga h2.2 u hu) (by omega)
def mO(v:aT)(l:List aT):Nat:=l.countP fun u=>decide (bR u v=0)
def Gl(x:Nd)(pv:Nat->List aT):List aT:=
 if x.kind=1 then fL x.lo x.hi
 else if x.kind=3 then(x.kids.foldl (fun rows k=>eO rows (pv k.toNat)) [[]]).map (dO x.name)
 else if x.kind=2 then x.kids.flatMap fun k=>pv k.toNat
 else if x.kind=4 then(x.values.zip (x.kids.drop 1)).flatMap fun vk=>((pv (jT x)).filter fun u=>decide (bR u vk.1=0)).flatMap fun _=>pv vk.2.toNat
 else [x.value]
theorem p7{α β:Type}{f g:α->List β}:∀(l:List α),(∀a∈l,f a=g a)->l.flatMap f=l.flatMap g
 | [],h=>rfl
 | a::l,h=>by rw[VA,VA,h a (UN ..),p7 l fun a ha=>h a (UF _ ha)]
def Ra:Sys (List aT) Unit where
 sa:=fun x al _=>Gl x al
 sf:=fun _ _ _=>()
 s0:=[]
 r0:=()
 la:=fun x al al' of of' h1 h2=>by
  unfold Gl;split
  ·rfl
  split
  ·exact congrArg _ (cH _ _ fun k hk b=>by rw[h1 k hk])
  split
  ·exact p7 _ fun k hk=>h1 k hk
  split
  ·exact p7 _ fun vk hk=>by
    obtain⟨m1,m2⟩:=dT hk;unfold jT;rw[h1 _ m1,h1 _ m2]
  ·rfl
 lf:=fun x of of' v h2=>rfl
def o5(A:List Nd)(i:Nat):List aT:=Ra.all A i
theorem x8{a b:aT}:bR a b=0↔a=b:=⟨Cn a b,fun h=>by rw[h];exact(nI b).refl⟩
theorem HQ(l:List aT):cL l l=true:=by
 induction l with
 | nil=>rfl
 | cons a l ih=>simp only[cL,Tz,UJ];exact⟨x8.2 rfl,ih⟩
theorem vX{l m:List aT}:cL l m=true↔l=m:=⟨zG,fun h=>by rw[h];exact HQ m⟩
theorem GC(q r:List aT)(u v:aT):cL (q++[u]) (r++[v])=(cL q r && decide (bR u v=0)):=by
 rw[Ue,Tz,vX,vX,UJ,x8];constructor
 ·intro h;exact List.append_inj' h rfl |>.imp id fun h=>by simpa using h
 ·rintro⟨rfl,rfl⟩;rfl
theorem vN{x:Nd}{k n:Int}{s:List UInt8}{ks:List aT}:mQ x (.mk k n s ks)=true↔ks.length=x.kids.length/\(if x.name=[] then k=2 else k=3/\s=x.name):=by
 show (decide (ks.length=x.kids.length) && (if x.name=[] then decide (k=2) else decide (k=3) && decide (s=x.name)))=true↔_
 rw[Tz,UJ];refine and_congr_right fun _=>?_
 split
 ·rw[UJ]
 ·rw[Tz,UJ,UJ]
theorem ED{x:Nd}{k n:Int}{s:List UInt8}{ks:List aT}:DU x (.mk k n s ks)=true↔(k=0/\x.lo<=n)/\n<=x.hi:=by
 show (decide (k=0) && decide (x.lo<=n) && decide (n<=x.hi))=true↔_
 rw[Tz,Tz,UJ,UJ,UJ]
def DD(r:List aT)(rows:List (List aT)):Nat:=rows.countP fun q=>cL q r
theorem CE(r:List aT)(v:aT)(l:List aT):∀rows:List (List aT),DD (r++[v]) (eO rows l)=DD r rows*mO v l
 | []=>by simp[DD,eO]
 | q::rows=>by
  have ih:=CE r v l rows;unfold DD eO at *;rw[VA,WZ,ih,XB,List.countP_cons,UZ,W9];congr 1;have e:((fun q=>cL q (r++[v])) ∘ fun v=>q++[v])=fun u=>(cL q r && decide (bR u v=0)):=by
   funext u;exact GC q r u v
  rw[e];cases cL q r with
  | true=>simp[mO]
  | false=>simp
theorem EG(pv:Nat->List aT):∀(ks:List Int) (vs:List aT) (r:List aT) (rows:List (List aT)),vs.length=ks.length ->
  DD (r++vs) (ks.foldl (fun rows k=>eO rows (pv k.toNat)) rows)=(ks.zip vs).foldl (fun f kv=>f*mO kv.2 (pv kv.1.toNat)) (DD r rows)
 | [],[],r,rows,_=>by simp
 | [],v::vs,r,rows,h=>by simp at h
 | k::ks,[],r,rows,h=>by simp at h
 | k::ks,v::vs,r,rows,h=>by
  rw[UR,Vv,UR,show r++v::vs=(r++[v])++vs by simp,EG pv ks vs _ _ (by simpa using h),CE]
theorem uS(pv:Nat->List aT):∀(ks:List Int) (rows:List (List aT)),(ks.foldl (fun rows k=>eO rows (pv k.toNat)) rows).length=ks.foldl (fun f k=>f*(pv k.toNat).length) rows.length
 | [],rows=>rfl
 | k::ks,rows=>by rw[UR,UR,uS pv ks,o0]
theorem uV(pv:Nat->List aT):∀(ks:List Int) (rows:List (List aT)) (n:Nat),(∀q∈rows,q.length=n)->∀q∈ks.foldl (fun rows k=>eO rows (pv k.toNat)) rows,q.length=n+ks.length
 | [],rows,n,h,q,hq=>h q hq
 | k::ks,rows,n,h,q,hq=>by
  rw[UR] at hq;have:=uV pv ks _ (n+1) (fun q hq=>by
   obtain⟨r,h1,v,h2,rfl⟩:=pA hq;simp[h r h1]) q hq
  simp only[Ul];omega
theorem ML(x:Nd){v:aT}(hv:bS v=0)(rows:List (List aT))(hr:∀q∈rows,q.length=x.kids.length):mO v (rows.map (dO x.name))=if mQ x v=true then DD (xR v) rows else 0:=by
 obtain⟨k,n,s,ks⟩:=v;have hf:=(l9 hv).1;simp only[bI,Tz] at hf;have hf:=hf.1;unfold mO;rw[XB];have key:∀q∈rows,((fun u=>decide (bR u (.mk k n s ks)=0)) ∘ dO x.name) q=(mQ x (.mk k n s ks) && cL q ks):=by
  intro q hq;have hql:=hr q hq
  show decide (bR (dO x.name q) (.mk k n s ks)=0)=_
  rw[Ue,UJ,x8,Tz,vX,vN];unfold dO;by_cases hn:x.name=[]
  ·rw[T7 hn,T7 hn];constructor
   ·intro h;injection h with h1 h2 h3 h4;subst h4;exact⟨⟨hql,h1.symm⟩,rfl⟩
   ·rintro⟨⟨h1,h2⟩,rfl⟩;subst h2;unfold cE at hf;simp at hf;rw[hf.1,hf.2]
  ·rw[T5 hn,T5 hn];constructor
   ·intro h;injection h with h1 h2 h3 h4;subst h4;exact⟨⟨hql,h1.symm,h3.symm⟩,rfl⟩
   ·rintro⟨⟨h1,h2,h3⟩,rfl⟩;subst h2;unfold cE at hf;simp at hf;rw[hf.1,h3]
 rw[List.countP_congr (q:=fun q=>(mQ x (.mk k n s ks) && cL q ks)) fun q hq=>by rw[key q hq]];unfold DD xR;cases mQ x (.mk k n s ks) with
 | true=>simp
 | false=>simp
theorem zN{α:Type}(v:aT)(f:α->List aT):∀(l:List α) (s:Nat),s+mO v (l.flatMap f)=l.foldl (fun s a=>s+mO v (f a)) s
 | [],s=>by simp[mO]
 | a::l,s=>by
  rw[VA,UR,←zN v f l];unfold mO;rw[WZ];omega
theorem CW{α:Type}(f:α->List aT):∀(l:List α) (s:Nat),s+(l.flatMap f).length=l.foldl (fun s a=>s+(f a).length) s
 | [],s=>by simp
 | a::l,s=>by
  rw[VA,UR,←CW f l,UV];omega
theorem Bn(v:aT)(l:List aT):(l.filter fun u=>decide (bR u v=0)).length=mO v l:=by unfold mO;rw[List.countP_eq_length_filter]
theorem KF(m l:List aT):(l.flatMap fun _=>m).length=l.length*m.length:=by
 induction l with
 | nil=>simp
 | cons a l ih=>rw[VA,UV,ih,Ul,UZ,U8];omega
theorem Kz(v:aT)(m l:List aT):mO v (l.flatMap fun _=>m)=l.length*mO v m:=by
 induction l with
 | nil=>simp[mO]
 | cons a l ih=>
  rw[VA,Ul,UZ,U8,←ih];unfold mO;rw[WZ];omega
theorem IV{x:Nd}{v:aT}(hv:bS v=0):mO v (fL x.lo x.hi)=if DU x v=true then 1 else 0:=by
 obtain⟨k,n,s,ks⟩:=v;have hf:=(l9 hv).1;simp only[bI,Tz] at hf;have hf:=hf.1;unfold mO fL;rw[XB];have key:∀m:Nat,(List.range m).countP ((fun u=>decide (bR u (.mk k n s ks)=0)) ∘ fun i:Nat=>aT.mk 0 (x.lo+(i:Int)) [] [])=if k=0/\x.lo<=n/\n<x.lo+m then 1 else 0:=by
  intro m
  induction m with
  | zero=>rw[T5 (by omega)];rfl
  | succ m ih=>
   rw[Wp,WZ,ih,List.countP_singleton];have e:((fun u=>decide (bR u (.mk k n s ks)=0)) ∘ fun i:Nat=>aT.mk 0 (x.lo+(i:Int)) [] []) m=decide (k=0/\n=x.lo+m):=by
    show decide (bR (.mk 0 (x.lo+(m:Int)) [] []) (.mk k n s ks)=0)=_
    rw[Ue,UJ,UJ,x8];constructor
    ·intro h;injection h with h1 h2 h3 h4;exact⟨h1.symm,h2.symm⟩
    ·rintro⟨rfl,rfl⟩;unfold cE at hf;simp at hf;rw[hf.1,hf.2]
   rw[e];by_cases h1:k=0
   ·by_cases h2:n=x.lo+m
    ·rw[T5 (by omega),T7 (by simp[h1,h2]),T7 (by omega)]
    ·rw[T5 (c:=decide _=true) (by simp[h2])];by_cases h3:x.lo<=n/\n<x.lo+m
     ·rw[T7 ⟨h1,h3⟩,T7 (by omega)]
     ·rw[T5 (by omega),T5 (by omega)]
   ·rw[T5 (by simp[h1]),T5 (by simp[h1]),T5 (by simp[h1])]
 rw[key];by_cases h:(k=0/\x.lo<=n)/\n<=x.hi
 ·rw[T7 (ED.2 h),T7 (by omega)]
 ·rw[T5 (fun e=>h (ED.1 e)),T5 (by omega)]
theorem Gv{A:List Nd}(h:VT A):∀i,i<A.length->(o5 A i).length=cV.all A i/\∀v,bS v=0->mO v (o5 A i)=cV.of A i v:=by
 intro i
 induction i using Nat.strongRecOn with
 | ind i ih=>
  intro hi;have hx:=b9 hi;have hk:=fun(k:Int) (hk:k∈(aO A i).kids)=>g7 h hx hk
  have ia:=fun(k:Int) (hm:k∈(aO A i).kids)=>(ih k.toNat (hk k hm).2 (by have:=hk k hm;omega)).1
  have io:=fun(k:Int) (hm:k∈(aO A i).kids)=>(ih k.toNat (hk k hm).2 (by have:=hk k hm;omega)).2
  have hr:=cT (h.node hx).node.num;have hvv:=fun(u:aT) (hu:u∈(aO A i).values)=>h.vals_valid hx hu
  rw[cV.all_eq h hi,show o5 A i=Gl (aO A i) (o5 A) from Ra.all_eq h hi];refine⟨?_,fun v hv=>?_⟩
  ·show _=iG _ _ _
   unfold Gl iG;generalize aO A i=x at *;split
   ·simp[fL];omega
   split
   ·rw[VW,uS];exact cH _ _ fun k hm b=>by rw[ia k hm]
   split
   ·have:=CW (fun k:Int=>o5 A k.toNat) x.kids 0;rw[UT] at this;rw[this];exact cH _ _ fun k hm b=>by rw[ia k hm]
   split
   ·have:=CW (fun vk:aT × Int=>((o5 A (jT x)).filter fun u=>decide (bR u vk.1=0)).flatMap fun _=>o5 A vk.2.toNat) (x.values.zip (x.kids.drop 1)) 0;rw[UT] at this;rw[this];exact cH _ _ fun vk hm b=>by
     obtain⟨m1,m2⟩:=dT hm;rw[KF,Bn,ia _ m1];unfold jT;rw[io _ m2 _ (hvv _ (Vq hm).1)]
   ·rfl
  ·rw[cV.of_eq h hi]
   show _=sZ _ _ _
   unfold Gl sZ;rw[T5 (show ¬bS v≠0 by omega)];have hkk:=(h.node hx).node.kind;generalize aO A i=x at *;by_cases k0:x.kind=0
   ·rw[T5 (by omega),T5 (by omega),T5 (by omega),T5 (by omega),T7 k0];unfold mO;rw[List.countP_singleton];by_cases e:bR x.value v=0
    ·rw[T7 (by simpa using e),T7 e]
    ·rw[T5 (by simpa using e),T5 e]
   rw[T5 k0];by_cases k1:x.kind=1
   ·rw[T7 k1,T7 k1];exact IV hv
   rw[T5 k1,T5 k1];by_cases k3:x.kind=3
   ·rw[T7 k3,T7 k3,ML x hv _ fun q hq=>by have:=uV (o5 A) x.kids [[]] 0 (by simp) q hq;omega];obtain⟨k,n,s,ks⟩:=v;split
    ·rename_i hm;have hl:=(vN.1 hm).1;have:=EG (o5 A) x.kids ks [] [[]] hl;rw[Um] at this
     show DD ks _=_
     rw[this];have e1:DD [] [[]]=1:=rfl;rw[e1];exact cH _ _ fun kv hm b=>by
      obtain⟨m1,m2⟩:=Vq hm;rw[io _ m1 _ (HV hv _ m2)]
    ·rfl
   rw[T5 k3,T5 k3];by_cases k2:x.kind=2
   ·rw[T7 k2,T7 k2];have:=zN v (fun k:Int=>o5 A k.toNat) x.kids 0;rw[UT] at this;rw[this];exact cH _ _ fun k hm b=>by rw[io k hm v hv]
   rw[T5 k2,T5 k2,T7 (by omega),T7 (by omega)];have:=zN v (fun vk:aT × Int=>((o5 A (jT x)).filter fun u=>decide (bR u vk.1=0)).flatMap fun _=>o5 A vk.2.toNat) (x.values.zip (x.kids.drop 1)) 0;rw[UT] at this;rw[this];exact cH _ _ fun vk hm b=>by
    obtain⟨m1,m2⟩:=dT hm;rw[Kz,Bn,io _ m1 v hv];unfold jT;rw[io _ m2 _ (hvv _ (Vq hm).1)]
theorem HO{A:List Nd}(h:VT A){i:Nat}(hi:i<A.length){v:aT}(hv:bS v≠0):cV.of A i v=0:=by
 rw[cV.of_eq h hi]
 show sZ _ _ _=_
 unfold sZ;rw[T7 hv]
theorem Im{A:List Nd}(h:VT A){i:Nat}(hi:i<A.length)(v:aT):cV.of A i v<=cV.all A i:=by
 by_cases hv:bS v=0
 ·obtain⟨h1,h2⟩:=Gv h i hi;rw[←h1,←h2 v hv];exact List.countP_le_length
 ·rw[HO h hi hv];omega
theorem Cj{a:aT}:∀{vs:List aT},lV vs->(vs.map fun u=>if decide (bR a u=0)=true then 1 else 0).sum<=1
 | [],_=>by simp
 | u::vs,h=>by
  obtain⟨h1,h2⟩:=Uk.1 h;rw[Uj,Vj];by_cases e:bR a u=0
  ·rw[T7 (by simpa using e)];have:(vs.map fun u=>if decide (bR a u=0)=true then 1 else 0).sum=0:=by
    have hall:∀w∈vs,(if decide (bR a w=0)=true then 1 else 0)=0:=fun w hw=>by
     rw[T5];simp only[UJ];intro e2;have:=h1 w hw;rw[←Cn _ _ e,e2] at this;omega
    rw[List.map_congr_left (g:=fun _=>0) hall];clear h1 h2 hall h
    induction vs with
    | nil=>rfl
    | cons w vs ih=>rw[Uj,Vj,ih]
   omega
  ·rw[T5 (by simpa using e)];have:=Cj (a:=a) h2;omega
theorem Id{α:Type}(f g:α->Nat):∀l:List α,(l.map fun a=>f a+g a).sum=(l.map f).sum+(l.map g).sum
 | []=>rfl
 | a::l=>by simp only[Uj,Vj,Id f g l];omega
theorem B7{vs:List aT}(hs:lV vs):∀l:List aT,(vs.map fun u=>mO u l).sum<=l.length
 | []=>by
  have:(vs.map fun u=>mO u []).sum=0:=by
   clear hs
   induction vs with
   | nil=>rfl
   | cons a vs ih=>rw[Uj,Vj,ih];rfl
  omega
 | a::l=>by
  have h1:=B7 hs l;have h2:=Cj (a:=a) hs;have e:(fun u=>mO u (a::l))=fun u=>mO u l+if decide (bR a u=0)=true then 1 else 0:=by
   funext u
   unfold mO;rw[List.countP_cons]
  rw[e,Id,Ul];omega
theorem Jg{A:List Nd}(h:VT A){i:Nat}(hi:i<A.length){vs:List aT}(hs:lV vs)(hv:∀v∈vs,bS v=0):(vs.map fun u=>cV.of A i u).sum<=cV.all A i:=by
 obtain⟨h1,h2⟩:=Gv h i hi;rw[←h1,List.map_congr_left (g:=fun u=>mO u (o5 A i)) fun u hu=>(h2 u (hv u hu)).symm];exact B7 hs _
theorem d7{α:Type}(f:α->Nat):∀(l:List α) (s:Nat),l.foldl (fun s a=>s+f a) s=s+(l.map f).sum
 | [],s=>by simp
 | a::l,s=>by rw[UR,d7 f l,Uj,Vj];omega
theorem BZ{α:Type}{f:α->Nat}{M:Nat}:∀{l:List α},(∀a∈l,f a<=M)->(l.map f).sum<=l.length*M
 | [],_=>by simp
 | a::l,h=>by
  have h1:=h a (UN ..);have h2:=BZ (l:=l) (M:=M) fun b hb=>h b (UF _ hb)
  rw[Uj,Vj,Ul,UZ,U8];omega
theorem CT{f:aT->Nat}{g:Int->Nat}{M:Nat}:∀(vs:List aT) (ks:List Int),(∀k∈ks,g k<=M)->((vs.zip ks).map fun vk=>f vk.1*g vk.2).sum<=(vs.map f).sum*M
 | [],ks,h=>by simp
 | v::vs,[],h=>by simp
 | v::vs,k::ks,h=>by
  have h1:=VU (f v) (h k (UN ..));have h2:=CT (f:=f) vs ks fun b hb=>h b (UF _ hb)
  simp only[Vv,Uj,Vj,UZ];omega
def oZ(A:List Nd)(i:Nat):Nat:=(dV (bQ A) i).toNat
def qZ(n:Nat):Nat:=2 ^ (40*n)
theorem A1(a b:Nat):qZ a*qZ b=qZ (a+b):=by unfold qZ;rw[←W3,U2]
theorem fQ{a b:Nat}(h:a<=b):qZ a<=qZ b:=Uw (by omega) (by omega)
theorem qO(a:Nat):1<=qZ a:=Nat.one_le_two_pow
theorem I0:qZ 1=1099511627776:=by decide
def uK(A:List Nd)(ks:List Int):Nat:=(ks.map fun k=>oZ A k.toNat).sum
theorem EH{A:List Nd}(h:VT A):∀(ks:List Int) (s:Int),(∀k∈ks,0<=k)->ks.foldl (fun s k=>s+dV (bQ A) k) s=s+(uK A ks:Nat)
 | [],s,_=>by simp[uK]
 | k::ks,s,hk=>by
  have h0:=hk k (UN ..);have h1:=(h.lens0 k).1;rw[UR,EH h ks _ fun q hq=>hk q (UF _ hq)];unfold uK oZ;rw[Uj,Vj];have e:((k.toNat:Nat):Int)=k:=by omega
  rw[e];omega
theorem Bp{A:List Nd}:∀(ks:List Int) (s:Int),s<=ks.foldl (fun s k=>max s (dV (bQ A) k)) s/\∀k∈ks,dV (bQ A) k<=ks.foldl (fun s k=>max s (dV (bQ A) k)) s
 | [],s=>⟨Int.le_refl _,by simp⟩
 | k::ks,s=>by
  obtain⟨h1,h2⟩:=Bp (A:=A) ks (max s (dV (bQ A) k));rw[UR];refine⟨by omega,fun q hq=>?_⟩;rcases T6.1 hq with rfl|hq
  ·omega
  ·exact h2 q hq
theorem VT.lenS{A:List Nd}(h:VT A){i:Nat}{x:Nd}(hx:A[i]? = some x):oZ A i<=256/\(x.kind=1->oZ A i=1)/\(x.kind=3->oZ A i=uK A x.kids)/\(x.kind=2->∀k∈x.kids,oZ A k.toNat+1<=oZ A i) /\
  (x.kind=4->∀k∈x.kids.drop 1,oZ A (jT x)+oZ A k.toNat<=oZ A i):=by
 have hl:=h.len256 hx;have he:=h.len hx;have hk:=fun(k:Int) (hk:k∈x.kids)=>g7 h hx hk
 have hl0:=fun k=>(h.lens0 k).1
 have hln:((oZ A i:Nat):Int)=dV (bQ A) i:=by unfold oZ;omega
 refine⟨by omega,fun h1=>?_,fun h3=>?_,fun h2 k hm=>?_,fun h4 k hm=>?_⟩
 ·unfold gZ at he;rw[T5 (by omega),T7 h1] at he;omega
 ·unfold gZ at he;rw[T5 (by omega),T5 (by omega),T7 h3] at he;have:=EH h x.kids 0 fun k hm=>(hk k hm).1
  unfold f8 at he;omega
 ·unfold gZ at he;rw[T5 (by omega),T5 (by omega),T5 (by omega),T7 h2] at he;have hk':((k.toNat:Nat):Int)=k:=by have:=hk k hm;omega
  have:=(Bp (A:=A) (eJ x) 0).2 k (by unfold eJ;rw[T7 h2];exact hm);unfold cS at he;have h0:=hl0 k
  show (dV (bQ A) (k.toNat:Nat)).toNat+1<=_
  rw[hk'];omega
 ·unfold gZ at he;rw[T5 (by omega),T5 (by omega),T5 (by omega),T5 (by omega)] at he;have hk':((k.toNat:Nat):Int)=k:=by have:=hk k (Us hm);omega
  have:=(Bp (A:=A) (eJ x) 0).2 k (by unfold eJ;rw[T5 (by omega)];exact hm);unfold cS at he;have h0:=hl0 k;have h00:=hl0 (x.kids.getD 0 0);have hq:0<=x.kids.getD 0 0:=by
   cases hks:x.kids with
   | nil=>simp
   | cons a r=>exact(hk a (by rw[hks];simp)).1
  show (dV (bQ A) (jT x:Nat)).toNat+(dV (bQ A) (k.toNat:Nat)).toNat<=_
  rw[hk',show ((jT x:Nat):Int)=x.kids.getD 0 0 by unfold jT;omega];omega
theorem Ew{A:List Nd}{f:Int->Nat}:∀(ks:List Int) (s n:Nat),(∀k∈ks,f k<=qZ (oZ A k.toNat))->s<=qZ n->ks.foldl (fun s k=>s*f k) s<=qZ (n+uK A ks)
 | [],s,n,_,hs=>by simpa[uK] using hs
 | k::ks,s,n,h,hs=>by
  rw[UR];have h1:=VO hs (h k (UN ..));rw[A1] at h1;have:=Ew ks _ _ (fun q hq=>h q (UF _ hq)) h1;simpa[uK,VC] using this
theorem Hf{x:Nd}(h:dG x=true):(x.hi-x.lo+1).toNat<=qZ 1:=by
 have:=cT h;rw[I0];omega
theorem lS{A:List Nd}(h:VT A):∀i,i<A.length->cV.all A i<=qZ (oZ A i):=by
 intro i
 induction i using Nat.strongRecOn with
 | ind i ih=>
  intro hi;have hx:=b9 hi;have hk:=fun(k:Int) (hk:k∈(aO A i).kids)=>g7 h hx hk
  have ia:=fun(k:Int) (hm:k∈(aO A i).kids)=>ih k.toNat (hk k hm).2 (by have:=hk k hm;omega)
  have hg:=h.node hx;obtain⟨l1,l2,l3,l4,l5⟩:=h.lenS hx;have hvv:=fun(u:aT) (hu:u∈(aO A i).values)=>h.vals_valid hx hu
  rw[cV.all_eq h hi]
  show iG _ _ _<=_
  unfold iG;split
  ·rename_i k1;rw[l2 k1];exact Hf hg.node.num
  split
  ·rename_i k3;rw[l3 k3];have:=Ew (A:=A) (f:=fun k=>cV.all A k.toNat) (aO A i).kids 1 0 ia (qO 0);simpa using this
  split
  ·rename_i k2;rw[d7,UT];have hl:=hg.node.klen (by omega);by_cases h0:(aO A i).kids=[]
   ·rw[h0];simp
   ·have hb:∀k∈(aO A i).kids,cV.all A k.toNat<=qZ (oZ A i-1):=fun k hm=>UQ (ia k hm) (fQ (by have:=l4 k2 k hm;omega))
    obtain⟨k,hm⟩:=W0 _ h0;have h1:=l4 k2 k hm;refine UQ (BZ hb) ?_;have:=UP (qZ (oZ A i-1)) (show (aO A i).kids.length<=qZ 1 by rw[I0];omega);rw[A1,show 1+(oZ A i-1)=oZ A i by omega] at this;exact this
  split
  ·rename_i k4;rw[d7,UT];have hb:=hg.node.bind k4;by_cases h0:(aO A i).kids.drop 1=[]
   ·rw[h0];simp
   ·obtain⟨q,hq⟩:=W0 _ h0;have hkm:(aO A i).kids.getD 0 0∈(aO A i).kids:=by
     cases hks:(aO A i).kids with
     | nil=>rw[hks] at h0;simp at h0
     | cons a r=>simp
    have h1:=l5 k4 q hq;have hM:∀k∈(aO A i).kids.drop 1,cV.all A k.toNat<=qZ (oZ A i-oZ A (jT (aO A i))):=fun k hm=>UQ (ia k (Us hm)) (fQ (by have:=l5 k4 k hm;omega))
    refine UQ (CT (f:=fun u=>cV.of A (jT (aO A i)) u) (g:=fun k=>cV.all A k.toNat) _ _ hM) ?_;have hk0:=hk _ hkm;have h2:=Jg h (i:=jT (aO A i)) (by unfold jT;omega) hg.srt hvv;have h3:=ia _ hkm;refine UQ (UP _ (UQ h2 h3)) ?_;rw[A1];exact fQ (by unfold jT at h1 ⊢;omega)
  ·exact qO _
end Go.Ax
namespace Go.Ax
open Go
theorem xQ{α:Type}:∀(l:List α) (k n:Nat),(l.zipIdx n).take k=(l.take k).zipIdx n
 | [],k,n=>by simp
 | a::l,0,n=>by simp
 | a::l,k+1,n=>by rw[WC,Vs,Vs,WC,xQ l k]
theorem Dg{α β:Type}:∀(l:List α) (m:List β) (k:Nat),(l.zip m).take k=(l.take k).zip (m.take k)
 | [],m,k=>by simp
 | a::l,[],k=>by simp
 | a::l,b::m,0=>by simp
 | a::l,b::m,k+1=>by rw[Vv,Vs,Vs,Vs,Vv,Dg l m k]
theorem AK(f:Int->Nat)(l:List Int)(k:Nat):(l.take k).foldl (fun s q=>s+f q) 0<=l.foldl (fun s q=>s+f q) 0:=by
 rw[d7,d7]
 conv=>rhs;rw[←Ug k l]
 rw[VP,WT];omega
section
variable {T:Type} (g:Aj T)
def Mo(x:Nd)(al:Nat->Option T)(k:Nat):Option T:=(x.kids.take k).foldl (fun f k=>dI g f (al k.toNat)) (some g.one)
def En(x:Nd)(al:Nat->Option T)(k:Nat):Option T:=(x.kids.zipIdx.take k).foldl (Ob g x al) none
def E9(x:Nd)(of:Nat->aT->Option T)(al:Nat->Option T)(k:Nat):Option T:=((x.values.zip (x.kids.drop 1)).take k).foldl (Mq g x of al) none
def OM(x:Nd)(of:Nat->aT->Option T)(vs:List aT)(k:Nat):Option T:=((x.kids.zip vs).take k).foldl (RR g of) (some g.one)
theorem Lz{x:Nd}{al:Nat->Option T}{k:Nat}(h:k<x.kids.length):Mo g x al (k+1)=dI g (Mo g x al k) (al (x.kids[k]).toNat):=by
 unfold Mo;rw[T9 h,U6];rfl
theorem GB{x:Nd}{al:Nat->Option T}{k:Nat}(h:k<x.kids.length):En g x al (k+1)=gK g (En g x al k) (dI g (some (g.opt x k)) (al (x.kids[k]).toNat)):=by
 unfold En;rw[T9 (by simpa using h),U6];simp[Ob]
theorem La{x:Nd}{k:Nat}(h:k<x.values.length)(hl:x.kids.length=x.values.length+1)(h1:k<(x.values.zip (x.kids.drop 1)).length):(x.values.zip (x.kids.drop 1))[k]=(x.values[k],x.kids[k+1]):=by
 rw[List.getElem_zip];simp
theorem Fv{x:Nd}{of:Nat->aT->Option T}{al:Nat->Option T}{k:Nat}(h:k<x.values.length)(hl:x.kids.length=x.values.length+1):E9 g x of al (k+1)=gK g (E9 g x of al k) (dI g (of (jT x) x.values[k]) (al (x.kids[k+1]).toNat)):=by
 have h1:k<(x.values.zip (x.kids.drop 1)).length:=by simp;omega
 unfold E9;rw[T9 h1,U6,La h hl h1];rfl
theorem Mx{x:Nd}{of:Nat->aT->Option T}{vs:List aT}{k:Nat}(h:k<x.kids.length)(hl:vs.length=x.kids.length):OM g x of vs (k+1)=dI g (OM g x of vs k) (of (x.kids[k]).toNat vs[k]):=by
 have h1:k<(x.kids.zip vs).length:=by simp;omega
 unfold OM;rw[T9 h1,U6,List.getElem_zip];rfl
theorem LA{A:List Nd}(h:VT A){i:Nat}(hi:i<A.length):(bP g).all A i =
  if (aO A i).kind=1 then some (g.spn (aO A i)) else if (aO A i).kind=3 then Mo g (aO A i) ((bP g).all A) (aO A i).kids.length
  else if (aO A i).kind=2 then En g (aO A i) ((bP g).all A) (aO A i).kids.length else if (aO A i).kind=4 then E9 g (aO A i) ((bP g).of A) ((bP g).all A) (aO A i).values.length else some g.one:=by
 rw[(bP g).all_eq h hi]
 show DT _ _ _ _=_
 have hx:=b9 hi;have hb:=(h.node hx).node.bind;unfold DT;generalize aO A i=x at *;split
 ·rfl
 split
 ·unfold Mo;rw[UM]
 split
 ·unfold En;rw[UB (by simp)]
 split
 ·rename_i h4;unfold E9;rw[UB (by have:=hb h4;simp;omega)]
 ·rfl
theorem Lj{A:List Nd}(h:VT A){i:Nat}(hi:i<A.length){v:aT}(hv:bS v=0):(bP g).of A i v =
  if (aO A i).kind=0 then(if bR (aO A i).value v=0 then some g.one else none) else if (aO A i).kind=1 then(if DU (aO A i) v=true then some (g.opt (aO A i) (OK v-(aO A i).lo).toNat) else none)
  else if (aO A i).kind=3 then(if mQ (aO A i) v=true then OM g (aO A i) ((bP g).of A) (xR v) (aO A i).kids.length else none)
  else if (aO A i).kind=2 then En g (aO A i) (fun k=>(bP g).of A k v) (aO A i).kids.length else if (aO A i).kind=4 then E9 g (aO A i) ((bP g).of A) (fun k=>(bP g).of A k v) (aO A i).values.length else none:=by
 rw[(bP g).of_eq h hi]
 show Ae _ _ _ _=_
 have hx:=b9 hi;have hb:=(h.node hx).node.bind;unfold Ae;rw[T5 (by omega)];generalize aO A i=x at *;split
 ·rfl
 split
 ·rfl
 split
 ·split
  ·unfold OM;rw[UB (by simp;omega)]
  ·rfl
 split
 ·unfold En;rw[UB (by simp)]
 split
 ·rename_i h4;unfold E9;rw[UB (by have:=hb h4;simp;omega)]
 ·rfl
end
def sF(o:Option Nat):Prop:=∃n,n<=qZ 256/\o=qX n
theorem sF.none:sF none:=⟨0,VL _,rfl⟩
theorem sF.one:sF (some 1):=⟨1,qO _,rfl⟩
theorem IZ{x:Nd}(al:Nat->Option Nat)(f:Nat->Nat)(hal:∀q∈x.kids,al q.toNat=qX (f q.toNat))(k:Nat):En aR x al k=qX ((x.kids.take k).foldl (fun s q=>s+f q.toNat) 0):=by
 unfold En;rw[gH qX _ _ (g:=fun s q=>gK aR s (al q.toNat)) fun q hq b=>by rw[hal q (Uc hq),lI]];have e:x.kids.zipIdx.take k=(x.kids.take k).zipIdx:=xQ _ _ _;rw[e];refine(cH (g:=fun b (kc:Int × Nat)=>gK aR b (al kc.1.toNat)) _ _ fun kc hm b=>?_).trans (qV (f:=fun b (k:Int)=>gK aR b (al k.toNat)) _ 0 _);unfold Ob;rw[hal _ (Uc (nO hm)),show aR.opt _ kc.2=1 from rfl,pO]
section
variable {A:List Nd} (h:VT A) {i:Nat} (hi:i<A.length)
include h hi
theorem qM{k:Int}(hk:k∈(aO A i).kids):k.toNat<A.length:=by
 have:=g7 h (b9 hi) hk;omega
theorem uF:(bP aR).all A i=qX (cV.all A i):=(JJ h i hi).1
theorem BV(v:aT):(bP aR).of A i v=qX (cV.of A i v):=(JJ h i hi).2 v
theorem OT:sF ((bP aR).all A i):=⟨_,UQ (lS h i hi) (fQ (h.lenS (b9 hi)).1),uF h hi⟩
theorem MC(v:aT):sF ((bP aR).of A i v):=⟨_,UQ (Im h hi v) (UQ (lS h i hi) (fQ (h.lenS (b9 hi)).1)),BV h hi v⟩
theorem OV(h3:(aO A i).kind=3)(k:Nat):sF (Mo aR (aO A i) ((bP aR).all A) k):=by
 have hk:=fun(q:Int) (hq:q∈(aO A i).kids)=>qM h hi hq
 obtain⟨l1,l2,l3,l4,l5⟩:=h.lenS (b9 hi);refine⟨((aO A i).kids.take k).foldl (fun f q=>f*cV.all A q.toNat) 1, ?_, ?_⟩
 ·have:=Ew (A:=A) (f:=fun q=>cV.all A q.toNat) ((aO A i).kids.take k) 1 0 (fun q hq=>lS h _ (hk q (Uc hq))) (qO 0);refine UQ this (fQ ?_);have e:uK A ((aO A i).kids.take k)<=uK A (aO A i).kids:=by
   unfold uK
   conv=>rhs;rw[←Ug k (aO A i).kids]
   rw[VP,WT];omega
  have:=l3 h3;omega
 ·unfold Mo;rw[gH qX _ _ (g:=fun f q=>dI aR f ((bP aR).all A q.toNat)) fun q hq b=>by rw[uF h (hk q (Uc hq)),gX]];rfl
theorem OF(h2:(aO A i).kind=2)(k:Nat):sF (En aR (aO A i) ((bP aR).all A) k):=by
 refine⟨_, ?_,IZ _ (fun q=>cV.all A q) (fun q hq=>uF h (qM h hi hq)) k⟩;refine UQ (AK (fun q=>cV.all A q.toNat) _ k) ?_;have:=lS h i hi;rw[cV.all_eq h hi,show cV.sa=iG from rfl,iG,T5 (by omega),T5 (by omega),T7 h2] at this;exact UQ this (fQ (h.lenS (b9 hi)).1)
theorem Oc(h2:(aO A i).kind=2)(v:aT)(k:Nat):sF (En aR (aO A i) (fun q=>(bP aR).of A q v) k):=by
 refine⟨_, ?_,IZ _ (fun q=>cV.of A q v) (fun q hq=>BV h (qM h hi hq) v) k⟩;refine UQ (AK (fun q=>cV.of A q.toNat v) _ k) ?_;have hv:(aO A i).kids.foldl (fun s q=>s+cV.of A q.toNat v) 0<=(aO A i).kids.foldl (fun s q=>s+cV.all A q.toNat) 0:=by
  rw[d7,d7,UT,UT];have:∀l:List Int,(∀q∈l,q∈(aO A i).kids)->(l.map fun q=>cV.of A q.toNat v).sum<=(l.map fun q=>cV.all A q.toNat).sum:=by
   intro l
   induction l with
   | nil=>intro _;simp
   | cons q l ih=>
    intro hl;have h1:=Im h (qM h hi (hl q (UN ..))) v;have h2:=ih fun r hr=>hl r (UF _ hr)
    simp only[Uj,Vj];omega
  exact this _ fun q hq=>hq
 have:=lS h i hi;rw[cV.all_eq h hi,show cV.sa=iG from rfl,iG,T5 (by omega),T5 (by omega),T7 h2] at this;exact UQ hv (UQ this (fQ (h.lenS (b9 hi)).1))
theorem PL(h3:(aO A i).kind=3)(vs:List aT)(hl:vs.length=(aO A i).kids.length)(k:Nat):sF (OM aR (aO A i) ((bP aR).of A) vs k):=by
 have hk:=fun(q:Int) (hq:q∈(aO A i).kids)=>qM h hi hq
 obtain⟨l1,l2,l3,l4,l5⟩:=h.lenS (b9 hi);generalize aO A i=x at *;refine⟨((x.kids.zip vs).take k).foldl (fun f kv=>f*cV.of A kv.1.toNat kv.2) 1, ?_, ?_⟩
 ·have key:∀(ks:List Int) (vs:List aT) (s n:Nat),(∀q∈ks,q∈x.kids)->s<=qZ n->(ks.zip vs).foldl (fun f kv=>f*cV.of A kv.1.toNat kv.2) s<=qZ (n+uK A ks):=by
   intro ks
   induction ks with
   | nil=>intro vs s n _ hs;simpa[uK] using hs
   | cons q ks ih=>
    intro vs s n hq hs;cases vs with
    | nil=>exact UQ (by simpa using hs) (fQ (by omega))
    | cons v vs=>
     rw[Vv,UR];have hqi:=hk q (hq q (UN ..));have h1:=VO hs (UQ (Im h hqi v) (lS h _ hqi));rw[A1] at h1;have:=ih vs _ _ (fun r hr=>hq r (UF _ hr)) h1;simpa[uK,VC] using this
  have e:(x.kids.zip vs).take k=(x.kids.take k).zip (vs.take k):=Dg _ _ _;rw[e];refine UQ (key _ _ 1 0 (fun q hq=>Uc hq) (qO 0)) (fQ ?_);have e:uK A (x.kids.take k)<=uK A x.kids:=by
   unfold uK
   conv=>rhs;rw[←Ug k x.kids]
   rw[VP,WT];omega
  have:=l3 h3;omega
 ·unfold OM;rw[gH qX _ _ (g:=RR aR ((bP aR).of A)) fun kv hm b=>by
   unfold RR;rw[BV h (hk _ (Vq (Uc hm)).1),gX]]
  rfl
theorem I9(al:Nat->Option Nat)(f:Nat->Nat)(hal:∀q∈(aO A i).kids,al q.toNat=qX (f q.toNat))(k:Nat) :
  E9 aR (aO A i) ((bP aR).of A) al k=qX ((((aO A i).values.zip ((aO A i).kids.drop 1)).take k).foldl (fun s vk=>s+cV.of A (jT (aO A i)) vk.1*f vk.2.toNat) 0):=by
 have hk:=fun(q:Int) (hq:q∈(aO A i).kids)=>qM h hi hq
 unfold E9;generalize aO A i=x at *;rw[gH qX _ _ (g:=Mq aR x ((bP aR).of A) al) fun vk hm b=>by
  obtain⟨m1,m2⟩:=dT (Uc hm);unfold Mq jT;rw[hal _ m1,BV h (hk _ m2),gX,lI]]
 rfl
theorem NE(f:Nat->Nat)(hf:∀q∈(aO A i).kids,f q.toNat<=cV.all A q.toNat)(h4:(aO A i).kind=4)(k:Nat) :
  (((aO A i).values.zip ((aO A i).kids.drop 1)).take k).foldl (fun s vk=>s+cV.of A (jT (aO A i)) vk.1*f vk.2.toNat) 0<=qZ 256:=by
 have hb:=lS h i hi;rw[cV.all_eq h hi,show cV.sa=iG from rfl,iG,T5 (by omega),T5 (by omega),T5 (by omega),T7 h4] at hb;refine UQ ?_ (UQ hb (fQ (h.lenS (b9 hi)).1));rw[d7,d7,UT,UT];have e:∀l:List (aT × Int),(∀vk∈l,vk.2∈(aO A i).kids)->(l.map fun vk=>cV.of A (jT (aO A i)) vk.1*f vk.2.toNat).sum<=(l.map fun vk=>cV.of A (jT (aO A i)) vk.1*cV.all A vk.2.toNat).sum:=by
  intro l
  induction l with
  | nil=>intro _;simp
  | cons q l ih=>
   intro hl;have h1:=VU (cV.of A (jT (aO A i)) q.1) (hf _ (hl q (UN ..)));have h2:=ih fun r hr=>hl r (UF _ hr)
   simp only[Uj,Vj];omega
 refine UQ (e _ fun vk hm=>(dT (Uc hm)).1) ?_;generalize (aO A i).values.zip ((aO A i).kids.drop 1)=l
 conv=>rhs;rw[←Ug k l]
 rw[VP,WT];omega
theorem Nn(h4:(aO A i).kind=4)(k:Nat):sF (E9 aR (aO A i) ((bP aR).of A) ((bP aR).all A) k):=
 ⟨_,NE h hi (fun q=>cV.all A q) (fun q hq=>UC _) h4 k,I9 h hi _ (fun q=>cV.all A q) (fun q hq=>uF h (qM h hi hq)) k⟩
theorem PC(h4:(aO A i).kind=4)(v:aT)(k:Nat):sF (E9 aR (aO A i) ((bP aR).of A) (fun q=>(bP aR).of A q v) k):=
 ⟨_,NE h hi (fun q=>cV.of A q v) (fun q hq=>Im h (qM h hi hq) v) h4 k,I9 h hi _ (fun q=>cV.of A q v) (fun q hq=>BV h (qM h hi hq) v) k⟩
end
theorem sF.of_plus{a b:Option Nat}(h:sF (gK aR a b))(hb:∃n,b=qX n)(ha:∃n,a=qX n):sF b:=by
 obtain⟨n,rfl⟩:=hb;obtain⟨m,rfl⟩:=ha;obtain⟨q,hq,e⟩:=h;rw[lI] at e;refine⟨n, ?_,rfl⟩;unfold qX at e;split at e
 ·omega
 ·split at e
  ·cases e
  ·injection e with e;omega
end Go.Ax
namespace Go.Ax
open Go
def kV(n:Nat):List UInt8:=if _h:n<128 then [UInt8.ofNat n] else UInt8.ofNat (128+n%128)::kV (n/128)
termination_by n
def LJ(n:Int):Nat:=if n<0 then 2*(-(n+1)).toNat+1 else 2*n.toNat
def Ta(u:Nat):Int:=if u%2=1 then -((u/2:Nat):Int)-1 else((u/2:Nat):Int)
theorem qL{n:Nat}(h:n<128):kV n=[UInt8.ofNat n]:=by rw[kV,dif_pos h]
theorem Cb{n:Nat}(h:¬n<128):kV n=UInt8.ofNat (128+n%128)::kV (n/128):=by rw[kV,dif_neg h]
theorem FS{n:Int}(h:i64 n):LJ n<18446744073709551616:=by
 unfold LJ;unfold i64 at h;split<;>omega
theorem PR(n:Int):Ta (LJ n)=n:=by
 unfold Ta LJ;split<;>split<;>omega
theorem Fp:∀(k n:Nat),n<128 ^ (k+1)->(kV n).length<=k+1
 | 0,n,h=>by rw[qL (by simpa using h)];simp
 | k+1,n,h=>by
  by_cases hn:n<128
  ·rw[qL hn];simp
  ·rw[Cb hn];have:=Fp k (n/128) (by rw[V3 (by omega)];rw[V8] at h;exact h);simp;omega
theorem n7{n:Nat}(h:n<18446744073709551616):(kV n).length<=10:=by
 refine Fp 9 n ?_;have:(128:Nat) ^ (9+1)=1180591620717411303424:=by decide
 omega
def PU:List UInt8->Nat->Nat->Sum Int (Nat × List UInt8)
 | [],_,_=>.inl 3
 | b::r,i,n=>if (i=9/\1<b.toNat)∨(0<i/\b.toNat=0) then .inl 2 else if b.toNat<128 then .inr (n+b.toNat*2 ^ (7*i),r) else PU r (i+1) (n+(b.toNat-128)*2 ^ (7*i))
theorem Mi:∀(u i n:Nat) (t:List UInt8),i<=9->u*2 ^ (7*i)<18446744073709551616->(i=0∨0<u)->PU (kV u++t) i n = .inr (n+u*2 ^ (7*i),t):=by
 intro u
 induction u using Nat.strongRecOn with
 | _ u ih=>
  intro i n t hi hu h0;have h9:i=9->u<=1:=by
   intro e;subst e;have:(2:Nat) ^ (7*9)=9223372036854775808:=by decide
   rw[this] at hu;omega
  by_cases hs:u<128
  ·rw[qL hs];have e:(UInt8.ofNat u).toNat=u:=by simp;omega
   show PU (UInt8.ofNat u::t) i n=_
   simp only[PU,e];rw[T5 (by
    rintro(⟨h1,h2⟩|⟨h1,h2⟩)
    ·have:=h9 h1;omega
    ·omega),T7 hs]
  ·rw[Cb hs];have e:(UInt8.ofNat (128+u%128)).toNat=128+u%128:=by simp;omega
   show PU (UInt8.ofNat (128+u%128)::(kV (u/128)++t)) i n=_
   simp only[PU,e];have hne:i≠9:=by intro h;have:=h9 h;omega
   have hp:(2:Nat) ^ (7*(i+1))=128*2 ^ (7*i):=by rw[show 7*(i+1)=7*i+7 by omega,W3];omega
   rw[T5 (by omega),T5 (by omega),ih (u/128) (by omega) (i+1) _ t (by omega) (by
    rw[hp,←VK];refine Wa (UP _ ?_) hu;omega) (.inr (by omega))]
   congr 2;rw[hp,←VK,show 128+u%128-128=u%128 by omega,VC,←UZ];congr 2;omega
theorem Q6{u:Nat}(t:List UInt8)(h:u<18446744073709551616):PU (kV u++t) 0 0 = .inr (u,t):=by
 have:=Mi u 0 0 t (by omega) (by simpa using h) (.inl rfl);simpa using this
abbrev Rd:=List UInt8 × Int
def rU(x:Rd):Nat × Rd:=if x.2=0 then(match PU x.1 0 0 with | .inl e=>(0,(x.1,e)) | .inr (u,t)=>(u,(t,0))) else(0,x)
def k9(x:Rd):Int × Rd:=(Ta (rU x).1,(rU x).2)
def Lf(x:Rd):Bool × Rd:=if x.2=0 then(match x.1 with
  | []=>(false,(x.1,3))
  | b::t=>if 1<b.toNat then(false,(x.1,2)) else(decide (b.toNat=1),(t,0))) else(false,x)
def H3(x:Rd):Nat × Rd:=if (rU x).2.2=0 then(if (rU x).2.1.length<(rU x).1 then(0,((rU x).2.1,3)) else((rU x).1,(rU x).2)) else(0,(rU x).2)
def JZ(x:Rd):List UInt8 × Rd:=((H3 x).2.1.take (H3 x).1,((H3 x).2.1.drop (H3 x).1,(H3 x).2.2))
def fM(n:Int):List UInt8:=kV (LJ n)
mutual
def fJ:aT->List UInt8
 | .mk k n s kids=>fM k++(if k=0 then fM n else if k=1 then [if n=1 then 1 else 0] else(if k=3 then kV s.length++s else [])++(fM kids.length++fD kids))
def fD:List aT->List UInt8
 | []=>[]
 | v::r=>fJ v++fD r
end
theorem xW:∀l m:List aT,fD (l++m)=fD l++fD m
 | [],m=>by simp[fD]
 | v::r,m=>by simp[fD,xW r m]
theorem Hw{l:List aT}{k:Nat}(h:k<l.length):fD (l.take (k+1))=fD (l.take k)++fJ l[k]:=by
 rw[T9 h,xW];simp[fD]
theorem oB{n:Int}(h:i64 n):(fM n).length<=10:=n7 (FS h)
theorem BB{n:Nat}(h:n<=4611686018427387904):i64 (n:Int):=⟨by omega,by omega⟩
mutual
theorem Gf:∀v:aT,g5 v->bI v=true->(fJ v).length<=50*aY v
 | .mk k n s kids,ho,hf=>by
  simp only[g5] at ho;simp only[bI,Tz] at hf;have hl:=zA kids ho.2.2.2.2 hf.2;have h1:=oB ho.1;have h2:=oB ho.2.1;have h3:=oB (BB (n:=kids.length) (by omega));simp only[aY,fJ,UV];have hf1:=hf.1;unfold cE at hf1;split
  ·omega
  ·split
   ·simp;omega
   ·rename_i k0 k1;rw[T5 k0,T5 k1] at hf1;simp only[UV];have hs:(if k=3 then kV s.length++s else []).length<=26:=by
     split
     ·rename_i k3;subst k3;rw[T5 (by omega),T7 rfl] at hf1;have:s.length<=16:=by
       rcases UG 16 s.length with h|h
       ·rw[kN h] at hf1;simp at hf1
       ·exact h
      have:=n7 (n:=s.length) (by omega);simp;omega
     ·simp
    omega
theorem zA:∀l:List aT,o9 l->cC l=true->(fD l).length<=50*bO l
 | [],_,_=>by simp[fD]
 | v::r,ho,hf=>by
  simp only[o9] at ho;simp only[cC,Tz] at hf;have h1:=Gf v ho.1 hf.1;have h2:=zA r ho.2 hf.2;simp only[fD,bO,UV];omega
end
theorem BY{n:Int}(h0:0<=n)(h1:n<18446744073709551616):IntKind.u64.wrap n=n:=by
 unfold IntKind.wrap;have e:(2 ^ IntKind.u64.bits:Int)=18446744073709551616:=by decide
 have s:IntKind.u64.signed=false:=rfl;simp only[e,s,Vx];exact Int.emod_eq_of_lt h0 h1
theorem dH(n:Int):IntKind.u64.wrap n=n%18446744073709551616:=by
 unfold IntKind.wrap;have e:(2 ^ IntKind.u64.bits:Int)=18446744073709551616:=by decide
 have s:IntKind.u64.signed=false:=rfl;simp only[e,s,Vx];rfl
theorem AL(n:Int):IntKind.u8.wrap n=n%256:=by
 unfold IntKind.wrap;have e:(2 ^ IntKind.u8.bits:Int)=256:=by decide
 have s:IntKind.u8.signed=false:=rfl;simp only[e,s,Vx];rfl
theorem GM:(2:Nat) ^ 64=18446744073709551616:=by decide
theorem Td(a:Nat):(BitVec.ofInt 64 (a:Int)).toNat=a%18446744073709551616:=by
 rw[BitVec.ofInt_natCast,BitVec.toNat_ofNat]
theorem Mf{a:Nat}(h:a<18446744073709551616):a ^^^ 18446744073709551615=18446744073709551615-a:=by
 have h1:(BitVec.ofNat 64 a ^^^ BitVec.allOnes 64).toNat=18446744073709551615-a:=by
  rw[BitVec.xor_allOnes,BitVec.toNat_not,BitVec.toNat_ofNat,GM,VJ h]
 rw[BitVec.toNat_xor,BitVec.toNat_ofNat,GM,VJ h] at h1;have h2:(BitVec.allOnes 64).toNat=18446744073709551615:=by decide
 rw[h2] at h1;exact h1
theorem LX{a b:Nat}(ha:a<18446744073709551616)(hb:b<18446744073709551616):a ^^^ b<18446744073709551616:=by
 have:=Nat.xor_lt_two_pow (n:=64) (x:=a) (y:=b) (by rw[GM];exact ha) (by rw[GM];exact hb)
 rwa [GM] at this
theorem GT{a b:Nat}(ha:a<18446744073709551616)(hb:b<18446744073709551616):bits .xor .u64 (a:Int) (b:Int)=((a ^^^ b:Nat):Int):=by
 show IntKind.u64.wrap ((BitVec.ofInt 64 (a:Int) ^^^ BitVec.ofInt 64 (b:Int)).toNat:Int)=_
 rw[BitVec.toNat_xor,Td,Td,VJ ha,VJ hb,BY (by omega) (by have:=LX ha hb;omega)]
theorem Lo{n:Int}(h:i64 n):bits .xor .u64 (IntKind.u64.wrap (IntKind.u64.wrap n*2 ^ (min (1:Int).toNat IntKind.u64.bits))) (IntKind.u64.wrap (n.fdiv (2 ^ (min (63:Int).toNat IntKind.i64.bits))))=(LJ n:Int):=by
 have e1:min (1:Int).toNat IntKind.u64.bits=1:=by decide
 have e2:min (63:Int).toNat IntKind.i64.bits=63:=by decide
 have hz:=FS h;rw[e1,e2];unfold i64 at h;by_cases hn:n<0
 ·have a:n.fdiv (2 ^ 63) = -1:=by
   rw[Vz _ (by decide)];omega
  have b:IntKind.u64.wrap (-1)=((18446744073709551615:Nat):Int):=by rw[dH];decide
  have c:IntKind.u64.wrap (IntKind.u64.wrap n*2 ^ 1)=((18446744073709551616+2*n).toNat:Int):=by
   rw[dH,dH];omega
  rw[a,b,c,GT (by omega) (by omega),Mf (by omega)];have z:LJ n=2*(-(n+1)).toNat+1:=by unfold LJ;rw[T7 hn]
  rw[z];omega
 ·have a:n.fdiv (2 ^ 63)=0:=by
   rw[Vz _ (by decide)];omega
  have b:IntKind.u64.wrap 0=((0:Nat):Int):=by rw[dH];decide
  have c:IntKind.u64.wrap (IntKind.u64.wrap n*2 ^ 1)=((2*n.toNat:Nat):Int):=by
   rw[dH,dH];omega
  rw[a,b,c,GT (by omega) (by omega),Nat.xor_zero];have z:LJ n=2*n.toNat:=by unfold LJ;rw[T5 hn]
  rw[z]
theorem KE(n:Nat):bits .or .u8 (IntKind.u8.wrap (n:Int)) 128=((UInt8.ofNat (128+n%128)).toNat:Int):=by
 have h:∀b:Fin 256,bits .or .u8 (b.val:Int) 128=((128+b.val%128:Nat):Int):=by decide +kernel
 have e:IntKind.u8.wrap (n:Int)=((n%256:Nat):Int):=by rw[AL];omega
 have:=h ⟨n%256,by omega⟩;simp only at this;rw[e,this];have e2:(UInt8.ofNat (128+n%128)).toNat=128+n%128:=by simp;omega
 rw[e2];omega
theorem KV{n:Nat}(h:n<128):IntKind.u8.wrap (n:Int)=((UInt8.ofNat n).toNat:Int):=by
 rw[AL];have e2:(UInt8.ofNat n).toNat=n:=by simp;omega
 rw[e2];omega
theorem TG(n:Nat):(n:Int).fdiv (2 ^ (min (7:Int).toNat IntKind.u64.bits))=((n/128:Nat):Int):=by
 have e1:min (7:Int).toNat IntKind.u64.bits=7:=by decide
 rw[e1,Vz _ (by decide)];omega
def dg(B n:Nat):List Nat:=if h:n=0∨B<2 then [] else n%B::dg B (n/B)
termination_by n
decreasing_by
 have:=not_or.1 h;exact Wq (by omega) (by omega)
def vl(B:Nat):List Nat->Nat
 | []=>0
 | d::r=>d+B*vl B r
def eG:List Nat->List Nat
 | []=>[]
 | d::r=>if d=0/\eG r=[] then [] else d::eG r
theorem gC(B:Nat):dg B 0=[]:=by rw[dg];simp
theorem oS{B n:Nat}(hB:2<=B)(hn:0<n):dg B n=n%B::dg B (n/B):=by
 rw[dg,dif_neg (by omega)]
theorem fK{B:Nat}(hB:2<=B)(n:Nat):vl B (dg B n)=n:=by
 induction n using Nat.strongRecOn with
 | ind n ih=>
  rcases UK n with rfl|hn
  ·rw[gC];rfl
  ·rw[oS hB hn,vl,ih _ (Wq hn (by omega))];exact XC n B
theorem eS{B:Nat}(hB:2<=B)(n:Nat):∀d∈dg B n,d<B:=by
 induction n using Nat.strongRecOn with
 | ind n ih=>
  rcases UK n with rfl|hn
  ·rw[gC];simp
  ·rw[oS hB hn];intro d hd;rcases T6.1 hd with rfl|hd
   ·exact VY _ (by omega)
   ·exact ih _ (Wq hn (by omega)) d hd
theorem Mw{B n:Nat}(hB:2<=B):dg B n=[]↔n=0:=by
 constructor
 ·intro h;rcases UK n with e|hn
  ·exact e
  ·rw[oS hB hn] at h;cases h
 ·rintro rfl;exact gC B
theorem Iz{B d m:Nat}(hB:2<=B)(hd:d<B)(h:0<d+B*m):dg B (d+B*m)=d::dg B m:=by
 rw[oS hB h,Nat.add_mul_mod_self_left,VJ hd,Nat.add_mul_div_left _ _ (by omega),Wk hd,UT]
theorem kQ{B:Nat}(hB:2<=B):∀l:List Nat,(∀d∈l,d<B)->eG l=dg B (vl B l)
 | [],_=>by rw[vl,gC];rfl
 | d::r,h=>by
  have ih:=kQ hB r fun x hx=>h x (by simp[hx])
  have hd:=h d (by simp);rw[eG,vl,ih];by_cases e:d=0/\dg B (vl B r)=[]
  ·rw[T7 e,e.1,(Mw hB).1 e.2];simp[gC]
  ·rw[T5 e,Iz hB hd];rcases UK d with h0|h0
   ·have hv:vl B r≠0:=fun hv=>e ⟨h0,by rw[hv,gC]⟩
    have:=WN (show 0<B by omega) (Nat.pos_of_ne_zero hv);omega
   ·omega
theorem CR{B:Nat}(hB:2<=B):∀l:List Nat,(∀d∈l,d<B)->vl B l<B ^ l.length
 | [],_=>by simp[vl]
 | d::r,h=>by
  have ih:=CR hB r fun x hx=>h x (by simp[hx])
  have hd:=h d (by simp);rw[vl,Ul,V8,Vb _ B];have:B*(vl B r+1)<=B*B ^ r.length:=VU _ ih;rw[U2] at this;omega
theorem kA(B:Nat):∀l m:List Nat,vl B (l++m)=vl B l+B ^ l.length*vl B m
 | [],m=>by simp[vl]
 | d::r,m=>by
  rw[Uv,vl,kA B r m,vl,Ul,V8,U2,Vb (B ^ r.length) B,VK];omega
theorem jY{B n:Nat}(hB:2<=B):n<B ^ (dg B n).length:=by
 have:=CR hB _ (eS hB n)
 rwa [fK hB] at this
theorem G2{B:Nat}(hB:2<=B)(n:Nat):0<n->B ^ ((dg B n).length-1)<=n:=by
 induction n using Nat.strongRecOn with
 | ind n ih=>
  intro hn;rw[oS hB hn,Ul,Nat.add_sub_cancel];rcases UK (n/B) with e|e
  ·rw[e,gC,V5,Nat.pow_zero];exact hn
  ·have h1:=ih _ (Wq hn (by omega)) e;have h2:0<(dg B (n/B)).length:=by
    rcases UK (dg B (n/B)).length with h|h
    ·have:=(Mw hB).1 (UL h);omega
    ·exact h
   have h3:B ^ (dg B (n/B)).length=B*B ^ ((dg B (n/B)).length-1):=by
    rw[←Nat.pow_succ'];congr 1;omega
   rw[h3];exact UQ (VU B h1) (Nat.mul_div_le n B)
theorem hZ{B n k:Nat}(hB:2<=B)(h:n<B ^ k):(dg B n).length<=k:=by
 rcases UK n with rfl|hn
 ·rw[gC];simp
 ·have h1:=G2 hB n hn;rcases UG k (dg B n).length with h2|h2
  ·have:B ^ k<=B ^ ((dg B n).length-1):=Uw (by omega) (by omega);omega
  ·exact h2
theorem HS{B n k:Nat}(hB:2<=B):(dg B n).length<=k↔n<B ^ k:=by
 constructor
 ·intro h;exact WH (jY hB) (Uw (by omega) h)
 ·exact hZ hB
theorem dJ{B n m:Nat}(hB:2<=B)(h:n<=m):(dg B n).length<=(dg B m).length:=
 hZ hB (Wa h (jY hB))
theorem wY(B:Nat)(l:List Nat)(d:Nat):vl B (l++[d])=vl B l+B ^ l.length*d:=by
 rw[kA];simp[vl]
theorem zC{l:List Nat}{i d:Nat}(h:l[i]? = some d):l.take (i+1)=l.take i++[d]:=by
 rw[List.take_add_one,h];rfl
theorem iI{B:Nat}{l:List Nat}{i d:Nat}(h:l[i]? = some d):vl B (l.take (i+1))=vl B (l.take i)+B ^ i*d:=by
 have hl:=(T0.1 h).1;rw[zC h,wY,U4,Ve (by omega)]
theorem DE{l:List Nat}{i:Nat}(h:l.length<=i):l.take (i+1)=l.take i:=by
 rw[UB h,UB (by omega)]
theorem sL{B:Nat}(hB:2<=B){s:List Nat}{va vb x y c i:Nat}(hs:s.length=i)(h:vl B s+B ^ i*c=va+vb) :
  vl B (s++[(c+(x+y))%B])+B ^ (i+1)*((c+(x+y))/B)=(va+B ^ i*x)+(vb+B ^ i*y):=by
 rw[wY,hs,V8,VK];have h2:B ^ i*((c+(x+y))%B)+B ^ i*(B*((c+(x+y))/B))=B ^ i*(c+(x+y)):=by
  rw[←U2,XC]
 rw[U2,U2] at h2;omega
theorem C8{B:Nat}{s:List Nat}{va vb x y b i:Nat}(hs:s.length=i)(h:vl B s+vb=va+B ^ i*b)(hx:x<B)(hy:y<B)(hb:b<=1) :
  vl B (s++[if y+b>x then x+B-(y+b) else x-(y+b)])+(vb+B ^ i*y)=(va+B ^ i*x)+B ^ (i+1)*(if y+b>x then 1 else 0):=by
 rw[wY,hs,V8];split
 ·have e:B ^ i*(x+B-(y+b))+B ^ i*(y+b)=B ^ i*x+B ^ i*B*1:=by rw[←U2,Nat.mul_one,←U2];congr 1;omega
  rw[U2 (B ^ i) y b] at e;omega
 ·have e:B ^ i*(x-(y+b))+B ^ i*(y+b)=B ^ i*x:=by rw[←U2];congr 1;omega
  rw[U2 (B ^ i) y b] at e;omega
theorem zU{B x y b:Nat}(hx:x<B)(hy:y<B)(hb:b<=1):(if y+b>x then x+B-(y+b) else x-(y+b))<B:=by
 split<;>omega
theorem Ee(B:Nat):∀(l:List Nat) (k d e:Nat),l[k]? = some e->vl B (l.set k d)+B ^ k*e=vl B l+B ^ k*d
 | [],k,d,e,h=>by cases h
 | a::r,0,d,e,h=>by
  cases h;simp only[Wb,vl,Nat.pow_zero,U8];omega
 | a::r,k+1,d,e,h=>by
  have ih:=Ee B r k d e h;simp only[List.set_cons_succ,vl,V8,Vb (B ^ k) B,VK];have h2:B*(vl B (r.set k d))+B*(B ^ k*e)=B*vl B r+B*(B ^ k*d):=by rw[←U2,ih,U2]
  omega
theorem Ec{B:Nat}{l:List Nat}{k d:Nat}(hl:∀x∈l,x<B)(hd:d<B):∀x∈l.set k d,x<B:=fun x hx=>by
 rcases Wz hx with h|h
 ·exact hl x h
 ·rw[h];exact hd
theorem Fs{B:Nat}{P:List Nat}{V x y c p k w:Nat}(hp:P[k]? = some p)(h:vl B P+B ^ k*c=V+x*w) :
  vl B (P.set k ((c+(x*y+p))%B))+B ^ (k+1)*((c+(x*y+p))/B)=V+x*(w+B ^ k*y):=by
 have h1:=Ee B P k ((c+(x*y+p))%B) p hp;have h2:B ^ k*((c+(x*y+p))%B)+B ^ k*(B*((c+(x*y+p))/B))=B ^ k*(c+(x*y+p)):=by
  rw[←U2,XC]
 have h3:x*(B ^ k*y)=B ^ k*(x*y):=by rw[We]
 rw[V8,VK,U2,h3];rw[U2,U2 (B ^ k) (x*y) p] at h2;omega
theorem qF{B:Nat}{l:List Nat}{i d:Nat}(h:l[i]? = some d):vl B (l.drop i)=d+B*vl B (l.drop (i+1)):=by
 obtain⟨h1,h2⟩:=T0.1 h;rw[UU h1,vl,h2]
theorem mZ{B:Nat}{a b:List Nat}{i x y:Nat}(ha:∀d∈a,d<B)(hB:2<=B)(hab:a.drop (i+1)=b.drop (i+1))(hx:a[i]? = some x)(hy:b[i]? = some y)(h:x<y)(hl:a.length=b.length):vl B a<vl B b:=by
 have ea:a=a.take i++a.drop i:=(Ug i a).symm;have eb:b=b.take i++b.drop i:=(Ug i b).symm;have hia:=(T0.1 hx).1;have la:(a.take i).length=i:=by rw[U4];omega
 have lb:(b.take i).length=i:=by rw[U4];omega
 have h1:=CR hB (a.take i) fun d hd=>ha d (Uc hd)
 rw[la] at h1;have va:vl B a=vl B (a.take i)+B ^ i*(x+B*vl B (a.drop (i+1))):=by
  conv=>lhs;rw[ea]
  rw[kA,la,qF hx]
 have vb:vl B b=vl B (b.take i)+B ^ i*(y+B*vl B (a.drop (i+1))):=by
  conv=>lhs;rw[eb]
  rw[kA,lb,qF hy,hab]
 have h2:B ^ i*(x+1+B*vl B (a.drop (i+1)))<=B ^ i*(y+B*vl B (a.drop (i+1))):=VU _ (by omega);have h3:B ^ i*(x+1+B*vl B (a.drop (i+1)))=B ^ i*(x+B*vl B (a.drop (i+1)))+B ^ i:=by
  rw[show x+1+B*vl B (a.drop (i+1))=(x+B*vl B (a.drop (i+1)))+1 by omega,U2,Nat.mul_one]
 omega
theorem nG{B n m:Nat}(hB:2<=B)(h:(dg B n).length<(dg B m).length):n<m:=by
 rcases UG n m with h1|h1
 ·exact h1
 ·have:=dJ hB h1;omega
end Go.Ax
namespace Go.Ax
open Go
structure Tt(B L U v U3 v2 top lead next u:Nat):Prop where
 b2:2<=B
 l0:0<L
 u1:U3*L<=U
 u2:U<(U3+1)*L
 w1:v2*L<=v
 w2:v<(v2+1)*L
 u3:U3=top*B+u
 v3:v2=lead*B+next
 uB:u<B
 nB:next<B
 lB:lead<B
 half:B<=2*lead
 less:U<v*B
section
variable {B L U v U3 v2 top lead next u:Nat} (h:Tt B L U v U3 v2 top lead next u)
include h
structure Tn(B U v top lead d r:Nat):Prop where
 eq:d*lead+r=top
 up:U<(d+1)*v
 hi:d<=B+1
 rB:r<B
end
end Go.Ax
namespace Go.Ax
open Go
def f0(a b:Int):Int:=if a<b then -1 else if b<a then 1 else 0
theorem MI(a b:Nat):Nat.gcd b (a%b)=Nat.gcd a b:=by rw[Nat.gcd_comm b,←Nat.gcd_rec,Nat.gcd_comm]
end Go.Ax
namespace Go.Ax
open Go
theorem Tv:2<=4294967296:=by decide
abbrev nW(n:Nat):Nat:=(dg 4294967296 n).length
theorem E7{B:Nat}(hB:2<=B)(x y:Nat):(dg B (x+y)).length<=max (dg B x).length (dg B y).length+1:=by
 refine hZ hB ?_;have h1:=jY (n:=x) hB;have h2:=jY (n:=y) hB;generalize (dg B x).length=a at *;generalize (dg B y).length=b at *;have h3:B ^ a<=B ^ max a b:=Uw (by omega) (by omega);have h4:B ^ b<=B ^ max a b:=Uw (by omega) (by omega);have h5:B ^ max a b*2<=B ^ max a b*B:=VU _ hB;rw[V8];omega
theorem BI{B:Nat}(hB:2<=B)(x y:Nat):(dg B (x*y)).length<=(dg B x).length+(dg B y).length:=by
 refine hZ hB ?_;have h1:=jY (n:=x) hB;have h2:=jY (n:=y) hB;rw[W3];exact Nat.mul_lt_mul'' h1 h2
theorem yG{B:Nat}(hB:2<=B)(x y:Nat):(dg B (x-y)).length<=(dg B x).length:=dJ hB (Nat.sub_le _ _)
theorem Og{B:Nat}(hB:2<=B)(x y:Nat):(dg B (x/y)).length<=(dg B x).length:=dJ hB (WJ _ _)
theorem JL{B:Nat}(hB:2<=B)(x y:Nat):(dg B (x%y)).length<=(dg B x).length:=dJ hB (Nat.mod_le _ _)
theorem Nl{B:Nat}(hB:2<=B)(x y:Nat):(dg B (Nat.gcd x y)).length<=max (dg B x).length (dg B y).length:=by
 rcases UK x with rfl|h
 ·rw[Nat.gcd_zero_left];omega
 ·have:=dJ hB (Nat.gcd_le_left y h);omega
theorem DS{B n:Nat}(hB:2<=B)(h:n<B):(dg B n).length<=1:=hZ hB (by rw[Nat.pow_one];exact h)
def bM(l:List Nat):List AV:=l.map fun(d:Nat)=>.int .u32 (d:Int)
def bN(l:List Nat):List AV:=l.map fun(d:Nat)=>.int .i64 (d:Int)
theorem a9(l:List Nat):(bM l).length=l.length:=by simp[bM]
theorem aP(l:List Nat):(bN l).length=l.length:=by simp[bN]
theorem aV(l:List Nat):kH (bM l):=fun a ha=>by
 obtain⟨n,_,rfl⟩:=US.1 ha;exact .int _ _
theorem dP(l:List Nat):kH (bN l):=fun a ha=>by
 obtain⟨n,_,rfl⟩:=US.1 ha;exact .int _ _
theorem M4(l:List Nat)(i:Nat):(bM l)[i]? = (l[i]?).map fun(d:Nat)=>AV.int .u32 (d:Int):=by rw[bM,Uh]
theorem MX(l:List Nat)(i:Nat):(bN l)[i]? = (l[i]?).map fun(d:Nat)=>AV.int .i64 (d:Int):=by rw[bN,Uh]
theorem s7(l:List Nat)(i d:Nat):(bM l).set i (.int .u32 (d:Int))=bM (l.set i d):=by unfold bM;rw[Wf]
theorem Bg(l:List Nat)(i d:Nat):(bN l).set i (.int .i64 (d:Int))=bN (l.set i d):=by unfold bN;rw[Wf]
theorem MO(l m:List Nat):bN (l++m)=bN l++bN m:=by simp[bN]
theorem Hg(n:Nat):bM (List.replicate n 0)=List.replicate n (.int .u32 0):=by simp[bM]
theorem B5(n:Nat):bN (List.replicate n 0)=List.replicate n (.int .i64 0):=by simp[bN]
def fW(z:Int):AV:=.agg [.bool (decide (z<0)),.il 1 (bM (dg 4294967296 z.natAbs))]
def eR(z:Int):AV:=.agg [.bool (decide (z<0)),.il 1 (bN (dg 10000 z.natAbs))]
theorem BE(z:Int):NN (fW z):=.agg' (.cons (.bool _) (.cons (.il' (aV _)) .nil))
theorem FQ(z:Int):NN (eR z):=.agg' (.cons (.bool _) (.cons (.il' (dP _)) .nil))
theorem Gz(n:Int):IntKind.u32.wrap n=n%4294967296:=by
 unfold IntKind.wrap;simp[IntKind.bits,IntKind.signed]
def g8(s:List Nat)(n:Nat):List Nat:=s++List.replicate (n-s.length) 0
theorem l7{s:List Nat}{n:Nat}(h:s.length<=n):(g8 s n).length=n:=by simp[g8];omega
theorem Mm{s:List Nat}{n:Nat}(h:s.length<n):(g8 s n)[s.length]? = some 0:=by
 unfold g8;rw[Uf (UC _),Wu,VN,T7 (by omega)]
theorem Lg{s:List Nat}{n d:Nat}(h:s.length<n):(g8 s n).set s.length d=g8 (s++[d]) n:=by
 unfold g8;obtain⟨m,hm⟩:∃m,n-s.length=m+1:=⟨n-s.length-1,by omega⟩
 rw[WL _ _ (UC _),Wu,hm,VF,Wb,UV,Ut,show n-(s.length+1)=m by omega];simp
theorem wX(B n:Nat):vl B (List.replicate n 0)=0:=by
 induction n with
 | zero=>rfl
 | succ n ih=>rw[VF,vl,ih];simp
theorem Ox(B:Nat)(s:List Nat)(n:Nat):vl B (g8 s n)=vl B s:=by unfold g8;rw[kA,wX];simp
def G4:Nat:=2 ^ 16384
theorem RP{n m k:Nat}(h:G4=2 ^ n)(e:n=m*k):G4=(2 ^ m) ^ k:=by rw[h,e,Nat.pow_mul]
theorem Iq:G4=2 ^ 16384:=by delta G4;exact Eq.refl _
theorem Kq{k:Nat}(hk:16384=32*k):G4=(2 ^ 32) ^ k:=RP Iq hk
def oG(z:Int):Bool:=decide (z.natAbs<G4)
theorem QP{z:Int}{n:Nat}(h:G4=(2 ^ 32) ^ n):oG z=decide (nW z.natAbs<=n):=by
 unfold oG;rw[Va,h,show (2:Nat) ^ 32=4294967296 from rfl];exact(HS Tv).symm
theorem Nq{z:Int}{k:Nat}(hk:16384=32*k):oG z=decide (nW z.natAbs<=k):=QP (Kq hk)
theorem Cz{z:Int}:oG z=decide (nW z.natAbs<=512):=Nq rfl
theorem On{z:Int}(h:oG z=true):nW z.natAbs<=512:=by rw[Cz] at h;simpa using h
structure Fr where
 p:Int
 q:Nat
def Fr.den(a:Fr):Nat:=if a.q=0 then 1 else a.q
def mkF(p q:Int):Fr:=⟨(if q<0 then -p else p)/(Nat.gcd p.natAbs q.natAbs:Int),q.natAbs/Nat.gcd p.natAbs q.natAbs⟩
structure Tx(a:Fr):Prop where
 pos:0<a.q
 cop:Nat.Coprime a.p.natAbs a.q
theorem An(p:Int)(g:Nat)(h:(g:Nat) ∣ p.natAbs):(p/(g:Int)).natAbs=p.natAbs/g:=by
 obtain⟨k,hk⟩:=h;rcases UK g with rfl|hg
 ·simp at hk;subst hk;simp
 ·rcases Int.natAbs_eq p with e|e
  ·rw[e,hk,Uz,←W6,Uz]
  ·have:p=(g:Int)*(-(k:Int)):=by rw[e,hk,Vf,Wn]
   rw[hk,Nat.mul_div_cancel_left _ hg,this,Int.mul_ediv_cancel_left _ (by omega)];simp
theorem Ii(B:Nat)(l:List Nat)(i:Nat)(hi:i<=l.length):vl B l=vl B (l.take i)+B ^ i*vl B (l.drop i):=by
 conv=>lhs;rw[←Ug i l]
 rw[kA,U4,Ve hi]
theorem Hh{L r b U V:Nat}(hL:0<L)(h1:U*L<=r)(h2:r<(U+1)*L)(h3:V*L<=b)(h4:b<(V+1)*L)(hV:0<V):U/(V+1)<=r/b/\r/b<=U/V:=by
 have hb:0<b:=by
  have:1*L<=V*L:=UP _ hV;omega
 constructor
 ·rw[V0 hb];have e:=Ws U (V+1);have h5:U/(V+1)*b<=U/(V+1)*((V+1)*L):=VU _ (by omega);have h6:U/(V+1)*(V+1)*L<=U*L:=UP _ e;rw[VK] at h6;omega
 ·rw[V0 hV];have e:=Ws r b;have h5:r/b*(V*L)<=r/b*b:=VU _ h3;have h6:r/b*V*L<(U+1)*L:=by rw[VK];omega
  have:=Nat.lt_of_mul_lt_mul_right h6;omega
theorem K6{B b x V Q r:Nat}(hb:0<b)(h:V=Q*b+r)(hr:r<b)(hx:x<B) :
  x+B*V=((x+B*r)/b+B*Q)*b+(x+B*r)%b/\(x+B*r)%b<b/\x+B*r<b*B:=by
 have e:=Wo (x+B*r) b;refine⟨?_,VY _ hb, ?_⟩
 ·rw[h,UZ,U2,Vb ((x+B*r)/b) b,VK];omega
 ·have:(r+1)*B<=b*B:=UP _ hr;rw[UZ,U8,Vb r B] at this;omega
end Go.Ax
namespace Go.Ax
section
variable {hit miss up lo low claim:Rat}
end
end Go.Ax
namespace Go.Ax
open Go
def PD(a:Fr):Rat:=(a.p:Rat)/((a.q:Int):Rat)
structure Sz(n:Nat)(a:Fr):Prop where
 num:a.p.natAbs<=2 ^ n
 pos:0<a.q
 den:a.q<=2 ^ n
theorem QZ{z:Int}{n m:Nat}(hm:G4=2 ^ m)(h:z.natAbs<=2 ^ n)(hn:n<m):oG z=true:=by
 unfold oG;rw[hm];exact UD (Wa h (Nat.pow_lt_pow_right (by omega) hn))
theorem Nj{z:Int}{n:Nat}(h:z.natAbs<=2 ^ n)(hn:n<16384):oG z=true:=QZ Iq h hn
theorem N0(p q:Int):(mkF p q).p.natAbs<=p.natAbs:=by
 unfold mkF;simp only;have e:(if q<0 then -p else p).natAbs=p.natAbs:=by split<;>simp
 rw[An _ _ (by rw[e];exact Nat.gcd_dvd_left _ _),e];exact WJ _ _
theorem Na(p q:Int):(mkF p q).q<=q.natAbs:=by
 unfold mkF;exact WJ _ _
theorem Sz.mono{n m:Nat}{a:Fr}(h:Sz n a)(hm:n<=m):Sz m a:=
 ⟨UQ h.num (Uw (by omega) hm),h.pos,UQ h.den (Uw (by omega) hm)⟩
def TY:Fr:=⟨1,1⟩
structure TS where
 hit:Fr
 miss:Fr
 upper:Fr
 lower:Fr
 ratio:Fr
 verdict:Nat
 runs:Nat
 hits:Nat
structure SN(n:Nat)(t:TS):Prop where
 hit:Sz 12 t.hit
 miss:Sz 12 t.miss
 up:0<t.upper.q
 lo:0<t.lower.q
 ratio:Sz n t.ratio
structure Tj(claim low alpha beta:Rat)(T:TS):Prop where
 sz:SN 0 T
 ver:T.verdict=0
 rat:T.ratio=TY
 low0:0<low
 lowc:low<claim
 clm:claim<=1
 alp:0<alpha
 bet:0<beta
 sum:alpha+beta<1
 hit:PD T.hit*low=claim
 miss:PD T.miss*(1-low)=1-claim
 up:PD T.upper*alpha=1-beta
 lo:PD T.lower*(1-alpha)=beta
theorem SP(n:Nat):IntKind.u32.wrap (n:Int)=((n%4294967296:Nat):Int):=by
 rw[Gz,Int.natCast_emod];rfl
theorem Oy{n:Nat}(h:n<4294967296):IntKind.u32.wrap (n:Int)=(n:Int):=by rw[SP,VJ h]
theorem zO{n:Nat}(h:n<18446744073709551616):IntKind.u64.wrap (n:Int)=(n:Int):=BY (by omega) (by omega)
theorem L7(a b:Nat):((a:Int).fdiv (b:Int))=((a/b:Nat):Int):=by
 rw[Vz _ (by omega)];rfl
theorem n6(a b:Nat):((a:Int).tdiv (b:Int))=((a/b:Nat):Int):=by
 rw[Vy (by omega)];rfl
theorem xA(a b:Nat):((a:Int).tmod (b:Int))=((a%b:Nat):Int):=by
 rw[Int.tmod_eq_emod_of_nonneg (by omega)];rfl
theorem LT{a:Nat}:((a:Int).fdiv (2 ^ 32))=((a/4294967296:Nat):Int):=L7 a 4294967296
end Go.Ax
namespace Go.Ax
open Go
structure G0 where
 val:aT
 ok:Bool
 rd:Rd
 parts:Nat
structure Pe where
 vals:List aT
 ok:Bool
 rd:Rd
 parts:Nat
def AH(rec:Rd->Nat->G0):Nat->List aT->Rd->Nat->Pe
 | 0,acc,x,p=>⟨acc,true,x,p⟩
 | m+1,acc,x,p=>if (rec x p).ok=true then AH rec m (acc++[(rec x p).val]) (rec x p).rd (rec x p).parts else⟨acc,false,(rec x p).rd,(rec x p).parts⟩
def JK(rec:Rd->Nat->G0)(k:Int)(s:List UInt8)(x:Rd)(p:Nat):G0:=
 if (k9 x).1<0∨256<(k9 x).1 then⟨.mk k 0 s [],false,(k9 x).2,p⟩
 else⟨.mk k 0 s (AH rec (k9 x).1.toNat [] (k9 x).2 p).vals,(AH rec (k9 x).1.toNat [] (k9 x).2 p).ok,(AH rec (k9 x).1.toNat [] (k9 x).2 p).rd,(AH rec (k9 x).1.toNat [] (k9 x).2 p).parts⟩
def Ls(rec:Rd->Nat->G0)(x:Rd)(p:Nat):G0:=
 if 1024<p+1 then⟨.mk 0 0 [] [],false,x,p+1⟩
 else if (k9 x).1=0 then⟨.mk 0 (k9 (k9 x).2).1 [] [],true,(k9 (k9 x).2).2,p+1⟩
 else if (k9 x).1=1 then⟨.mk 1 (if (Lf (k9 x).2).1=true then 1 else 0) [] [],true,(Lf (k9 x).2).2,p+1⟩
 else if (k9 x).1=2 then JK rec 2 [] (k9 x).2 (p+1)
 else if (k9 x).1=3 then JK rec 3 (JZ (k9 x).2).1 (JZ (k9 x).2).2 (p+1)
 else⟨.mk (k9 x).1 0 [] [],false,(k9 x).2,p+1⟩
def DQ:Nat->Rd->Nat->G0
 | 0=>fun x p=>⟨.mk 0 0 [] [],false,x,p⟩
 | f+1=>Ls (DQ f)
structure Tf(x:Rd)(p:Nat)(r:G0):Prop where
 le:r.rd.1.length<=x.1.length
 ok:x.1.length<=1000000000->g5 r.val
 size:r.ok=true->p+aY r.val=r.parts
 parts:p<=1024->r.parts<=1025
 good:r.ok=true->p<=1024->r.parts<=1024
structure Th(x:Rd)(p:Nat)(acc:List aT)(m:Nat)(r:Pe):Prop where
 le:r.rd.1.length<=x.1.length
 ok:x.1.length<=1000000000->o9 acc->o9 r.vals
 len:r.vals.length<=acc.length+m
 size:r.ok=true->p+bO r.vals=r.parts+bO acc
 parts:p<=1024->r.parts<=1025
 good:r.ok=true->p<=1024->r.parts<=1024
theorem F5{u:Nat}(h:u<18446744073709551616)(t:List UInt8):rU (kV u++t,0)=(u,(t,0)):=by
 unfold rU;simp only[if_true];rw[Q6 t h]
theorem EY{n:Int}(h:i64 n)(t:List UInt8):k9 (fM n++t,0)=(n,(t,0)):=by
 unfold k9 fM;rw[F5 (FS h),PR]
theorem NO{s:List UInt8}(h:s.length<18446744073709551616)(t:List UInt8):JZ (kV s.length++s++t,0)=(s,(t,0)):=by
 have e:H3 (kV s.length++s++t,0)=(s.length,(s++t,0)):=by
  unfold H3;rw[Ur,F5 h];simp
 unfold JZ;rw[e];simp
theorem GQ{rec:Rd->Nat->G0}:∀(l acc:List aT) (t:List UInt8) (p:Nat),
  (∀(i:Nat) (v:aT) (t':List UInt8),l[i]? = some v->rec (fJ v++t',0) (p+bO (l.take i))=⟨v,true,(t',0),p+bO (l.take i)+aY v⟩) ->
  AH rec l.length acc (fD l++t,0) p=⟨acc++l,true,(t,0),p+bO l⟩
 | [],acc,t,p,_=>by simp[AH,fD,bO]
 | v::r,acc,t,p,h=>by
  have h0:=h 0 v (fD r++t) rfl;simp only[Ww,bO,Vi] at h0;simp only[Ul,AH,fD,Ur];rw[h0];simp only[if_true];rw[GQ r (acc++[v]) t (p+aY v) (fun i x t' hi=>by
   have:=h (i+1) x t' (by simpa using hi);simp only[Vs,bO] at this;rw[show p+aY v+bO (r.take i)=p+(aY v+bO (r.take i)) by omega];exact this)]
  simp[bO];omega
theorem DW:∀{l:List aT},xM l=true->∀{v:aT},v∈l->vF v=true
 | a::r,h,v,hv=>by
  simp only[xM,Tz] at h;rcases T6.1 hv with rfl|hv
  ·exact h.1
  ·exact DW h.2 hv
theorem EF:∀(v:aT) (f p:Nat) (t:List UInt8),g5 v->bI v=true->vF v=true->p+aY v<=1024->1025<=f+p->DQ f (fJ v++t,0) p=⟨v,true,(t,0),p+aY v⟩
 | .mk k n s kids,f,p,t,ho,hf,hw,hp,hfp=>by
  simp only[g5] at ho;simp only[bI,Tz] at hf;simp only[vF,Tz] at hw;simp only[aY] at hp;obtain⟨g,rfl⟩:∃g,f=g+1:=⟨f-1,by omega⟩
  have h1:=hf.1;have hkl:kids.length<=256:=by have:=hw.1;unfold tC at this;simp at this;omega
  have hrec:∀(q:Nat),p+1=q->∀(i:Nat) (v:aT) (t':List UInt8),kids[i]? = some v->DQ g (fJ v++t',0) (q+bO (kids.take i))=⟨v,true,(t',0),q+bO (kids.take i)+aY v⟩:=by
   intro q hq i v t' hi;have hil:=(T0.1 hi).1;have hm:=UA hi;have hs:=oC (l:=kids) (k:=i) hil;have hs2:=jE kids (i+1);have e:kids[i]=v:=by rw[Ty hil] at hi;exact Option.some.inj hi
   rw[e] at hs;exact EF v g (q+bO (kids.take i)) t' (jC ho.2.2.2.2 v hm) (p9 hf.2 hm) (DW hw.2 hm) (by omega) (by omega)
  have hmore:∀(kk:Int) (ss:List UInt8),JK (DQ g) kk ss (fM kids.length++(fD kids++t),0) (p+1)=⟨.mk kk 0 ss kids,true,(t,0),p+(1+bO kids)⟩:=by
   intro kk ss;have e:=GQ (rec:=DQ g) kids [] t (p+1) (hrec (p+1) rfl);unfold JK;rw[EY (BB (by omega))];simp only;rw[T5 (by omega),T4,e];simp;omega
  show Ls (DQ g) _ p=_
  unfold Ls;rw[T5 (by omega),fJ,Ur,EY ho.1];simp only;unfold cE at h1;by_cases k0:k=0
  ·subst k0;rw[T7 rfl] at h1 ⊢;simp only[Tz,UJ] at h1;obtain⟨rfl,h2⟩:=h1;obtain rfl:kids=[]:=Ux.1 h2;simp only[if_true];rw[EY ho.2.1];simp[aY,bO]
  ·rw[T5 k0] at h1;rw[T5 k0,T5 k0];by_cases k1:k=1
   ·subst k1;rw[T7 rfl] at h1;rw[T7 rfl,T7 rfl];simp only[Tz,UJ,U5] at h1;obtain⟨⟨hn,rfl⟩,h2⟩:=h1;obtain rfl:kids=[]:=Ux.1 h2;rcases hn with rfl|rfl<;>simp[Lf,aY,bO]
   ·rw[T5 k1] at h1;rw[T5 k1,T5 k1];by_cases k2:k=2
    ·subst k2;rw[T7 rfl] at h1;simp only[Tz,UJ] at h1;obtain⟨rfl,rfl⟩:=h1;rw[T7 rfl,T5 (by omega),Um,Ur,hmore];rfl
    ·rw[T5 k2] at h1;rw[T5 k2];split at h1
     ·rename_i k3;subst k3;simp only[Tz,UJ] at h1;obtain⟨rfl,hc⟩:=h1;rw[T7 rfl,T7 rfl];have e:kV s.length++s++(fM kids.length++fD kids)++t=kV s.length++s++(fM kids.length++(fD kids++t)):=by simp
      rw[e,NO (by omega)];simp only;rw[hmore];rfl
     ·cases h1
termination_by v f p t=>SizeOf.sizeOf v
decreasing_by
 have:=VM (UA hi);simp;omega
def Ik(b:List UInt8):aT × Int:=if (DQ 1025 (b,0) 0).ok=true/\(DQ 1025 (b,0) 0).rd=([],0)/\bS (DQ 1025 (b,0) 0).val=0 then((DQ 1025 (b,0) 0).val,0) else(.mk 0 0 [] [],2)
theorem Ac{v:aT}(ho:g5 v)(h:bS v=0):Ik (fJ v)=(v,0):=by
 obtain⟨h1,h2,h3⟩:=Ck h;have e:=EF v 1025 0 [] ho h1 h2 (by omega) (by omega);rw[Vn] at e;unfold Ik;rw[e];simp[h]
theorem MA{a b:aT}(ha:g5 a)(hb:g5 b)(va:bS a=0)(vb:bS b=0)(h:fJ a=fJ b):a=b:=by
 have h1:=Ac ha va;have h2:=Ac hb vb;rw[h,h2] at h1;exact(congrArg Prod.fst h1).symm
end Go.Ax
