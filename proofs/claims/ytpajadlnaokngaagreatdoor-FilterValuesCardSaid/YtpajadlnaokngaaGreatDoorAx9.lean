/- A part of the proof. -/
import Derived.Test.YtpajadlnaokngaaGreatDoorAx8
import Derived.Below
import Derived.Lib.ConvBytes
import Derived.Lib.ItoaMem
import Derived.ChangeMaps5
import Derived.Lib.LaidTab
import Derived.Lib.ItoaNum
set_option linter.unusedVariables false
set_option linter.unusedSimpArgs false
set_option linter.unusedSectionVars false
namespace Go.Ax
open Go
theorem nn {v:AV} (h:NN v:=by
  repeat' first
   | assumption
   | exact NN.int _ _
   | exact NN.bool _
   | exact NN.str _
   | exact NN.nsl
   | exact NN.nptr
   | exact NN.nif
   | exact NN.nfn
   | exact NN.nmap
   | exact NN.junk
   | exact dS _
   | exact aR _
   | exact aT _
   | exact iV.nil
   | refine iV.cons ?_ ?_
   | refine NN.agg' ?_
   | refine NN.tup' ?_
   | refine NN.il' ?_
   | refine NN.ip' ?_
   | refine NN.ifc _ _ ?_
   | exact NN.fn _ _ _ (by simp) (by simp)):NN v:=h
theorem cC {l:List AV} (h:iV l:=by
  repeat' first
   | assumption
   | exact NN.int _ _
   | exact NN.bool _
   | exact NN.str _
   | exact NN.nsl
   | exact NN.nptr
   | exact NN.nif
   | exact NN.nfn
   | exact NN.nmap
   | exact NN.junk
   | exact dS _
   | exact aR _
   | exact aT _
   | exact iV.nil
   | refine iV.cons ?_ ?_
   | refine NN.agg' ?_
   | refine NN.tup' ?_
   | refine NN.il' ?_
   | refine NN.ip' ?_
   | refine NN.ifc _ _ ?_
   | exact NN.fn _ _ _ (by simp) (by simp)):iV l:=h
section
variable {P:Program} {Γ:List (Nat × AV)} {F:FuncId} {args:List AV} {r:AV} {mem:aN} {nx:Nat} {K:AV->aN->Nat->Prop}
theorem a7.go(h:a7 P [] F args r)(hk:K r mem nx)(ha:iV args:=by exact cC)(hr:NN r:=by exact nn):aF P [] F args mem nx K:=h.use bD ha hr hk
end
theorem aF.glob{P:Program}{Γ:List (Nat × AV)}{F:FuncId}{args:List AV}{mem:aN}{nx:Nat}{Q:AV->aN->Nat->Prop}(h:aF P [] F args mem nx Q):aF P Γ F args mem nx Q:=by
 refine⟨fun X D ρ w vs hD hm hv=>?_⟩;refine(h.run X D ρ w vs hD ⟨hm.low,hm.blk,hm.emp,hm.inj,hm.nod,hm.bar,(fun p hp=>by cases hp)⟩ hv).mono ?_;rintro e w' ⟨r,v,m,n,ρ',h1,h2,h3,h4,h5,h6⟩;exact⟨r,v,m,n,ρ',h1,h2,h3,⟨h4.low,h4.blk,h4.emp,h4.inj,h4.nod,h4.bar,fun p hp=>h6.vr (hm.glo p hp)⟩,h5,h6⟩
def IN:List (Nat × Nat)->Bool
 | []=>true
 | (i,j)::r=>Nat.beq i j && IN r
theorem xS:∀{σ:List (Nat × Nat)},IN σ=true->∀p∈σ,p.1=p.2
 | [],h,p,hp=>by cases hp
 | (i,j)::r,h,p,hp=>by
  simp only[IN,Qt] at h;rcases Qw.1 hp with rfl|hp
  ·exact Nat.eq_of_beq_eq_true h.1
  ·exact xS h.2 p hp
theorem aF.pre{P:Program}{Γ:List (Nat × AV)}{F:FuncId}{args args':List AV}{mem mem':aN}{nx:Nat}{K:AV->aN->Nat->Prop}(hΓ:∀p∈Γ,NN p.2)(σ:List (Nat × Nat))(hid:(IN σ && t8 mem')=true)
  (hM:cP mem σ mem') (hargs:lL mem σ args args') (h:aF P Γ F args' mem' nx K):aF P Γ F args mem nx K:=by
 simp only[Qt] at hid;have hid1:=xS hid.1;have hnod:=dR hid.2;refine⟨fun X D ρ w vs hD hm hv=>?_⟩;have hσ:∀id id',lk σ id=some id'->D id->D id'/\ρ id'=ρ id:=by
  intro id id' h hd;have:=hid1 _ (a6 h);simp only at this;subst this;exact⟨hd,rfl⟩
 have hinj:L6 σ:=fun i j k h1 h2=>by
  have a:=hid1 _ (a6 h1);have b:=hid1 _ (a6 h2);simp only at a b;omega
 obtain⟨m1,v1,o1⟩:=hm.turn (D':=D) (ρ':=ρ) hΓ hσ hM.cvm hnod hinj;have hvs:gT ρ D (OX X ρ mem') w args' vs:=⟨by rw[←hargs.1];exact hv.1,fun j c' x hc' hx=>by
   obtain⟨c,hc⟩:=cH hargs.1 hc';exact v1 c c' (hargs.2 j c c' hc hc') _ (hv.2 j c x hc hx)⟩
 refine(h.run X D ρ w vs hD m1 hvs).mono ?_;rintro e w' ⟨r,v,m,n,ρ',h1,h2,h3,h4,h5,h6⟩;refine⟨r,v,m,n,ρ',h1,h2,h3,h4,h5, ?_⟩;have e0:Ext D ρ mem w ρ D mem' w:=⟨fun i hi=>hi,fun _ _=>rfl,Q5 _,fun _ _ _=>rfl,fun p hp hn=>.inl (o1 p hp hn),.refl _⟩
 exact e0.trans h6
theorem bB{l:List aU}{k:Nat}(h:k<l.length):∃a b c d,aU.mk a b c d∈l/\l[k]? = some (aU.mk a b c d)/\l[k]=aU.mk a b c d/\(aL l)[(k:Int).toNat]? = some (bV (aU.mk a b c d)):=by
 obtain⟨⟨a,b,c,d⟩,hv⟩:∃v,v=l[k]:=⟨_,rfl⟩
 have e:=Dg h;rw[←hv] at e;exact⟨a,b,c,d,by rw[hv];exact Ra h,by rw[hv];exact Qq h,hv.symm,e⟩
section
variable {mem:aN} {σ:List (Nat × Nat)}
theorem Cv.int{k:IntKind}{a b:Int}(h:a=b):Cv mem σ (.int k a) (.int k b):=by rw[h];exact .same _ (.int _ _)
theorem Cv.w64{x y:Int}(h:x=y)(hb:i64 y):Cv mem σ (.int .i64 (IntKind.i64.wrap x)) (.int .i64 y):=by rw[h,fH hb];exact .same _ (.int _ _)
theorem Cv.wo{x y:Int}(h:x=y:=by omega)(h1 : -9223372036854775808<=y:=by omega)(h2:y<=9223372036854775807:=by omega):Cv mem σ (.int .i64 (IntKind.i64.wrap x)) (.int .i64 y):=.w64 h ⟨h1,h2⟩
theorem Cv.wp{x y:Int}(h:x=y:=by simp only;omega)(h1 : -9223372036854775808<=y:=by simp only;omega)(h2:y<=9223372036854775807:=by simp only;omega):Cv mem σ (.int .i64 (IntKind.i64.wrap x)) (.int .i64 y):=.w64 h ⟨h1,h2⟩
theorem aG{sl:List (Nat × AV)}{i:Nat}{v:AV}(h:lk sl i=some v:=by rfl)(hn:NN v:=by exact nn):∃w,lk sl i=some w/\Cv mem σ w v:=⟨v,h,.same v hn⟩
theorem lL.s{v:AV}{as bs:List AV}(hs:lL mem σ as bs)(hn:NN v:=by exact nn):lL mem σ (v::as) (v::bs):=.cons (.same v hn) hs
theorem bN{α:Type}{a:α}{q:Prop}(h:q):a=a/\q:=⟨rfl,h⟩
theorem aM{sl:List (Nat × AV)}{i id id' x y:Nat}(h:lk sl i=some (.ptr id x y):=by rfl)(h2:lk σ id=some id':=by rfl):∃w,lk sl i=some w/\Cv mem σ w (.ptr id' x y):=⟨_,h,.ptr id id' x y h2⟩
theorem a5{sl:List (Nat × AV)}{i:Nat}{v:AV}(hn:NN v)(h:lk sl i=some v:=by rfl):∃w,lk sl i=some w/\Cv mem σ w v:=⟨v,h,.same v hn⟩
theorem aJ{t:TypeId}{sz p:Nat}{ys:List AV}(id:Nat)(hn:iV ys)(h1:lk σ id=some p:=by rfl)(h2:lk mem id=some (.row t sz ys):=by rfl):∃id xs,lk σ id=some p/\lk mem id=some (.row t sz xs)/\r9 mem σ xs ys:=⟨id,ys,h1,h2,.same hn⟩
theorem Rs{p q:Prop}(x:q)(e:q->p:=by(intro x;(repeat((first|refine bQ.2 ?_|refine bN ?_);((conv=>whnf);(repeat(refine Xg ?_;conv=>whnf)))));exact x)):p:=e x
theorem Rt{p q:Prop}(x:q)(e:q->p:=by(intro x;(conv=>whnf);(repeat(refine Xg ?_;conv=>whnf));(repeat((first|refine bQ.2 ?_|refine bN ?_);((conv=>whnf);(repeat(refine Xg ?_;conv=>whnf)))));exact x)):p:=e x
theorem Cv.bool{a b:Bool}(h:a=b):Cv mem σ (.bool a) (.bool b):=by rw[h];exact .same _ (.bool _)
theorem Bx(k n:Int)(s:List UInt8):E6 mem σ (.agg [.int .i64 k,.int .i64 n,.str s,.nsl]) (bV (.mk k n s [])):=
 .agg (.cons (.same _ (.int _ _)) (.cons (.same _ (.int _ _)) (.cons (.same _ (.str _)) (.cons (.nil 4) .nil))))
end
theorem fI(l:List aU)(v:aU):aL (l++[v])=aL l++[bV v]:=by simp[fN]
theorem w64{x y:Int}(h:x=y)(hb:i64 y):IntKind.i64.wrap x=y:=by rw[h,fH hb]
theorem EF{l:List aU}{k:Nat}(h:decide ((k:Int)<((aL l).length:Nat))=true):k<l.length:=by rw[aA] at h;simpa using h
theorem EG{l:List aU}{k:Nat}(h:decide ((k:Int)<((aL l).length:Nat))=false):l.length<=k:=by rw[aA] at h;simpa using h
theorem Cv.fzR{mem:aN}{σ:List (Nat × Nat)}{id len:Nat}{t:TypeId}{sz:Nat}{xs ys:List AV}(h1:lk mem id=some (.row t sz xs))(h2:lk σ id=none)(h3:r9 mem σ xs ys)(h4:ys.length=len):Cv mem σ (.sl id 0 len) (.il sz ys):=
 .fz id 0 len t sz xs ys h1 h2 (by have:=h3.1;omega) h4 (fun i x y hx hy=>(h3.2 i x y (by simpa using hx) hy).1) (fun i x y j c c' hx hy hc hc'=>(h3.2 i x y (by simpa using hx) hy).2 j c c' hc hc')
section
variable {P:Program} {Γ:List (Nat × AV)} {F:FuncId} {args:List AV} {r:AV} {mem:aN} {nx:Nat} {K:AV->aN->Nat->Prop}
theorem a7.goG(h:a7 P [] F args r)(hk:K r mem nx)(ha:iV args:=by exact cC)(hr:NN r:=by exact nn):aF P Γ F args mem nx K:=(h.use bD ha hr hk).glob
theorem aF.goG0{Qs:AV->aN->Nat->Prop}(h:aF P [] F args [] 0 Qs)(hk:∀r m n,Qs r m n->∃r',Cv m [] r r'/\K r' mem nx)(ha:iV args:=by exact cC):aF P Γ F args mem nx K:=
 (aF.call0 bD h ha hk).glob
end
theorem NF{l:List aU}{k n:Nat}(h:k<l.length)(hn:l.length=n):∃a b c d,aU.mk a b c d∈l/\l[k]? = some (aU.mk a b c d)/\l[k]=aU.mk a b c d/\(aL l)[0+(k:Int).toNat]? = some (bV (aU.mk a b c d))/\Nat.blt (k:Int).toNat n=true:=by
 obtain⟨a,b,c,d,h1,h2,h3,h4⟩:=bB h;exact⟨a,b,c,d,h1,h2,h3,by rw[Rc];exact h4,Qy (by simp;omega)⟩
end Go.Ax
namespace Go.Ax
open Go
section
variable {P:Program} {Γ:List (Nat × AV)} {B:Nat}
structure aZ(P:Program)(Γ:List (Nat × AV))(B:Nat)(c:Code)(s:St)(Q:Exit->St->Prop):Prop where
 run:dO P Γ B (.loop c) s Q
def Ig(P:Program)(Γ:List (Nat × AV))(B:Nat)(y:Code)(Q:Exit->St->Prop)(e:Exit)(s:St):Prop:=
 match e with
 | .normal=>dO P Γ B y s Q
 | e=>Q e s
def AU(id:Nat)(Q:Exit->St->Prop)(e:Exit)(s:St):Prop:=
 match e with
 | .exit i=>match Nat.beq i id with
  | true=>Q .normal s
  | false=>Q (.exit i) s
 | e=>Q e s
theorem y6{ops:List Oper}{K:St->Prop}{Kp:Value->St->Prop}:∀{l:List Oper} {s:St},uH P Γ (Fe P Γ B) ops l s K (fun _ _=>False)->uH P Γ (Fe P Γ B) ops l s K Kp
 | [],s,h=>h
 | o::r,s,h=>by
  simp only[uH] at h ⊢;split
  ·rename_i h1;simp only[h1] at h
  ·rename_i h1;simp only[h1] at h;split
   ·rename_i h2;simp only[h2] at h;exact y6 h
   ·rename_i h2;simp only[h2] at h
  ·rename_i h1;simp only[h1] at h;split
   ·rename_i h2;simp only[h2] at h;split
    ·rename_i h3;simp only[h3] at h;exact y6 h
    ·rename_i h3;simp only[h3] at h
   ·rename_i h2;simp only[h2] at h;split
    ·rename_i h3;simp only[h3] at h;refine aF.mono h fun v m n h=>?_
     split
     ·rename_i h4;simp only[h4] at h;exact y6 h
     ·rename_i h4;simp only[h4] at h
    ·rename_i h3;simp only[h3] at h;split at h<;>exact h.elim
theorem sC{ops:List Oper}{tr:List (List Nat)}{base:Nat}{K:St->Prop}{Kp:Value->aN->Nat->Prop}:∀{l:List Nat} {recs:List zF} {s:St},mR P Γ (Fe P Γ B) ops tr base K (fun _ _ _=>False) l recs s->mR P Γ (Fe P Γ B) ops tr base K Kp l recs s
 | [],recs,s,h=>h
 | i::r,recs,s,h=>by
  simp only[mR] at h ⊢;split
  ·rename_i h1;simp only[h1] at h
  ·rename_i o h1;simp only[h1] at h;split
   ·rename_i h2;simp only[h2] at h
   ·rename_i h2;simp only[h2] at h;split
    ·rename_i h3;simp only[h3] at h;exact sC h
    ·rename_i h3;simp only[h3] at h
   ·rename_i h2;simp only[h2] at h;split
    ·rename_i hk;simp only[hk] at h;split
     ·rename_i h3;simp only[h3] at h;split
      ·rename_i h4;simp only[h4] at h;exact sC h
      ·rename_i h4;simp only[h4] at h
     ·rename_i h3;simp only[h3] at h
    ·rename_i hk;simp only[hk] at h;split
     ·rename_i h3;simp only[h3] at h;split
      ·rename_i h4;simp only[h4] at h;exact sC h
      ·rename_i h4;simp only[h4] at h
     ·rename_i h3;split at h
      ·rename_i h4;exact(h3 _ _ _ _ h4).elim
      ·exact h
    ·rename_i hk;simp only[hk] at h;split
     ·rename_i h3;simp only[h3] at h;split
      ·rename_i h4;simp only[h4] at h;exact⟨h.1,sC h.2⟩
      ·rename_i h4;simp only[h4] at h
     ·rename_i h3;simp only[h3] at h;split
      ·rename_i h4;simp only[h4] at h;refine aF.mono h fun v m n h=>?_
       split
       ·rename_i h5;simp only[h5] at h;exact⟨h.1,sC h.2⟩
       ·rename_i h5;simp only[h5] at h
      ·rename_i h4;simp only[h4] at h
structure jD(P:Program)(Γ:List (Nat × AV))(B:Nat)(ops l:List Oper)(s:St)(K:St->Prop):Prop where
 run:uH P Γ (Fe P Γ B) ops l s K fun _ _=>False
def Qm(P:Program)(Γ:List (Nat × AV))(B:Nat)(ops l:List Oper)(s:St)(K:St->Prop):Prop:=
 match l with
 | []=>K s
 | o::r=>C2 s fun sl mem nx nt=>pG ops sl o.guard
   (Ck false P Γ (Fe P Γ B) sl mem nx o.op (fun v mem nx=>lK s o.dst v mem nx fun s'=>jD P Γ B ops r s' K) fun _ _ _=>False)
   (lK s o.dst (.tup []) mem nx fun s'=>jD P Γ B ops r s' K)
theorem jD.go{ops l:List Oper}{s:St}{K:St->Prop}(h:Qm P Γ B ops l s K):jD P Γ B ops l s K:=by
 refine⟨?_⟩;cases l with
 | nil=>exact h
 | cons o r=>
  have h:pG ops s.sl o.guard (Ck false P Γ (Fe P Γ B) s.sl s.mem s.nx o.op (fun v mem nx=>lK s o.dst v mem nx fun s'=>jD P Γ B ops r s' K) fun _ _ _=>False) (lK s o.dst (.tup []) s.mem s.nx fun s'=>jD P Γ B ops r s' K):=h;simp only[uH];rcases vY h with⟨h1,h⟩|⟨h1,h⟩
  ·simp only[h1];rcases Ac h with⟨v,m,n,h2,h⟩|⟨h2,F,l,h3,h⟩
   ·obtain⟨s',h4,h⟩:=eH h;simp only[h2,h4];exact h.run
   ·simp only[h2,h3];refine(show aF P Γ F l s.mem s.nx _ from h).mono fun v m n h=>?_
    obtain⟨s',h4,h⟩:=eH h;simp only[h4];exact h.run
  ·obtain⟨s',h4,h⟩:=eH h;simp only[h1,h4];exact h.run
structure Je(P:Program)(Γ:List (Nat × AV))(B:Nat)(ops:List Oper)(tr:List (List Nat))(base:Nat)(K:St->Prop)(l:List Nat)(recs:List zF)(s:St):Prop where
 run:mR P Γ (Fe P Γ B) ops tr base K (fun _ _ _=>False) l recs s
def QF(P:Program)(Γ:List (Nat × AV))(B:Nat)(ops:List Oper)(tr:List (List Nat))(base:Nat)(K:St->Prop)(l:List Nat)(recs:List zF)(s:St):Prop:=
 match l with
 | []=>K s
 | i::r=>match ops[i]? with
  | none=>False
  | some o=>C2 s fun sl mem nx nt=>pG ops sl o.guard
   (match kind P o.op with
    | .pure=>match still o.op with
     | true=>p9 false P Γ sl [] nx o.op fun v _ _=>lK s o.dst v mem nx fun s'=>Je P Γ B ops tr base K r (⟨i,sl,true,v⟩::recs) s'
     | false=>fU (fun p=>Gr tr base ops.length i p.1) mem fun m=>p9 false P Γ sl m nx o.op fun v _ _=>lK s o.dst v mem nx fun s'=>Je P Γ B ops tr base K r (⟨i,sl,true,v⟩::recs) s'
    | .al=>mP (base+i) fun id=>p9 false P Γ sl [] id o.op fun v m _=>match m with
     | [(_,b)]=>lK s o.dst v ((id,b)::mem) nx fun s'=>Je P Γ B ops tr base K r (⟨i,sl,true,v⟩::recs) s'
     | _=>False
    | .eff=>fU (fun p=>Gr tr base ops.length i p.1) mem fun m=>Ck false P Γ (Fe P Γ B) sl m nx o.op (fun v m nx'=>fU (fun p=>!Gr tr base ops.length i p.1) mem fun rest=>fU (fun p=>!qS p.1 m) rest fun rest=>yE m rest fun m=>
      lK s o.dst v m nx' fun s'=>sX false P Γ ops tr base i m nx' recs (Je P Γ B ops tr base K r recs s')) fun _ _ _=>False)
   (lK s o.dst (.tup []) mem nx fun s'=>Je P Γ B ops tr base K r (⟨i,sl,false,.tup []⟩::recs) s')
theorem Je.go{ops:List Oper}{tr:List (List Nat)}{base:Nat}{K:St->Prop}{l:List Nat}{recs:List zF}{s:St}(h:QF P Γ B ops tr base K l recs s):Je P Γ B ops tr base K l recs s:=by
 refine⟨?_⟩;cases l with
 | nil=>exact h
 | cons i r=>
  simp only[QF] at h;simp only[mR];split at h
  ·exact h.elim
  ·rename_i o ho;simp only[ho];have h:=kA.1 h;rcases vY h with⟨h1,h⟩|⟨h1,h⟩
   ·simp only[h1];split at h
    ·rename_i hkd;simp only[hkd];split at h
     ·rename_i hst;obtain⟨v,m,n,h2,h⟩:=kG (s:={ sl:=s.sl,mem:=[],nx:=s.nx,nt:=s.nt }) h;obtain⟨m',n',h2'⟩:=p6 (s:={ sl:=s.sl,mem:=[],nx:=s.nx,nt:=s.nt }) (s':={ s with mem:=dH tr base ops.length i s.mem }) hst rfl h2;obtain⟨s',h3,h⟩:=eH h;simp only[h2',h3];exact h.run
     ·have h:=b9.1 h;obtain⟨v,m,n,h2,h⟩:=kG (s:={ s with mem:=dH tr base ops.length i s.mem }) h;obtain⟨s',h3,h⟩:=eH h;simp only[h2,h3];exact h.run
    ·rename_i hkd;simp only[hkd];have h:=cQ.1 h;obtain⟨v,m,n,h2,h⟩:=kG (s:={ s with mem:=[],nx:=base+i }) h;simp only[h2];split at h
     ·obtain⟨s',h3,h⟩:=eH h;simp only[h3];exact h.run
     ·exact h.elim
    ·rename_i hkd;simp only[hkd];have h:=b9.1 h;rcases Ac (s:={ s with mem:=dH tr base ops.length i s.mem }) h with⟨v,m,n,h2,h⟩|⟨h2,F,l,h3,h⟩
     ·simp only[h2];have h:=fL.1 (b9.1 (b9.1 h));obtain⟨s',h3,h⟩:=eH h;have h3:dB s o.dst v (m++pQ m (eP tr base ops.length i s.mem)) n=some s':=h3;simp only[h3];obtain⟨e1,e2,_⟩:=fA h3;have h:sX false P Γ ops tr base i (m++pQ m (eP tr base ops.length i s.mem)) n recs (Je P Γ B ops tr base K r recs s'):=h;rw[←e1,←e2] at h;obtain⟨h4,h⟩:=mL h;exact⟨h4,h.run⟩
     ·rw[q6 (s':=s) (fun x _=>by cases x<;>rfl)] at h3;simp only[h2,h3];refine(show aF P Γ F l _ _ _ from h).mono fun v m n h=>?_
      have h:=fL.1 (b9.1 (b9.1 h));obtain⟨s',h3,h⟩:=eH h;have h3:dB s o.dst v (m++pQ m (eP tr base ops.length i s.mem)) n=some s':=h3;simp only[h3];obtain⟨e1,e2,_⟩:=fA h3;have h:sX false P Γ ops tr base i (m++pQ m (eP tr base ops.length i s.mem)) n recs (Je P Γ B ops tr base K r recs s'):=h;rw[←e1,←e2] at h;obtain⟨h4,h⟩:=mL h;exact⟨h4,h.run⟩
   ·obtain⟨s',h3,h⟩:=eH h;simp only[h1,h3];exact h.run
def Ot(P:Program)(Γ:List (Nat × AV))(B:Nat)(ops:List Oper)(s:St)(Q:Exit->St->Prop):Prop:=
 match P.follows .mixedOrders with
 | true=>match Aq P ops (uV P ops ops.length [] (wW ops.length)) with
  | true=>C2 s fun sl mem nx nt=>mP (nx+ops.length) fun n=>sZ (uV P ops ops.length [] (wW ops.length)) fun ord=>Je P Γ B ops (It ops []) nx (fun s'=>Q .normal s') ord [] ⟨sl,mem,n,nt⟩
  | false=>False
 | false=>False
def Pj(Q:Exit->St->Prop)(e:Exit)(s:St):Prop:=
 match e with
 | .goto _=>False
 | e=>Q e s
def P5(P:Program)(Γ:List (Nat × AV))(B:Nat)(c:Code)(s:St)(Q:Exit->St->Prop):Prop:=
 match c with
 | .skip=>Q .normal s
 | .seq x y=>dO P Γ B x s (Ig P Γ B y Q)
 | .cond c x y=>C2 s fun sl _ _ _=>iI Γ sl c fun v=>match v with
  | .bool b=>Jc b (dO P Γ B x s Q) (dO P Γ B y s Q)
  | _=>False
 | .block id c=>dO P Γ B c s (AU id Q)
 | .loop c=>aZ P Γ B c s Q
 | .label _=>Q .normal s
 | .scope c=>dO P Γ B c s (Pj Q)
 | .exit i=>Q (.exit i) s
 | .ret=>Q .ret s
 | .region _ ops draw=>match draw with
  | false=>jD P Γ B ops.toList ops.toList s fun s'=>Q .normal s'
  | true=>Ot P Γ B ops.toList s Q
 | .rangeFunc g ps ca cb=>uU false P Γ (Fe P Γ B) (.rangeFunc g ps ca cb) s Q
 | _=>False
theorem dO.go{c:Code}{s:St}{Q:Exit->St->Prop}(h:P5 P Γ B c s Q):dO P Γ B c s Q:=by
 cases c with
 | skip=>exact cT (cl:=false) oJ .skip s Q h
 | exit i=>exact cT (cl:=false) oJ (.exit i) s Q h
 | ret=>exact cT (cl:=false) oJ .ret s Q h
 | loop c=>exact(show aZ P Γ B c s Q from h).run
 | label l=>exact cT (cl:=false) oJ (.label l) s Q h
 | rangeFunc g ps ca cb=>exact cT (cl:=false) oJ (.rangeFunc g ps ca cb) s Q h
 | scope c=>
  have h:dO P Γ B c s (Pj Q):=h;refine⟨fun rd X ds D ρ a w hD hs hB hr=>AC (wpIn_mono (h.run rd X ds D ρ a w hD hs hB hr.scope) ?_)⟩;rintro e a' w' ⟨s',ρ',hq,hB',hs',hext⟩;cases e with
  | goto l=>exact(show False from hq).elim
  | normal=>exact⟨s',ρ',hq,hB',hs',hext⟩
  | exit i=>exact⟨s',ρ',hq,hB',hs',hext⟩
  | ret=>exact⟨s',ρ',hq,hB',hs',hext⟩
  | panic c=>exact⟨s',ρ',hq,hB',hs',hext⟩
  | outgrown=>exact⟨s',ρ',hq,hB',hs',hext⟩
 | seq x y=>
  have h:dO P Γ B x s (Ig P Γ B y Q):=h;refine⟨fun rd X ds D ρ a w hD hs hB hr=>wpIn_seq (wpIn_mono (h.run rd X ds D ρ a w hD hs hB hr.seq1) ?_)⟩;rintro e a' w' ⟨s',ρ',hq,hB',hs',hext⟩;cases e with
  | normal=>
   refine wpIn_mono ((show dO P Γ B y s' Q from hq).run rd X ds D ρ' a' w' hD hs' hB' hr.seq2) ?_;rintro e a2 w2 ⟨s2,ρ2,h1,h2,h3,h4⟩;exact⟨s2,ρ2,h1,h2,h3,hext.trans h4⟩
  | exit i=>exact⟨s',ρ',hq,hB',hs',hext⟩
  | goto l=>exact⟨s',ρ',hq,hB',hs',hext⟩
  | ret=>exact⟨s',ρ',hq,hB',hs',hext⟩
  | panic c=>exact⟨s',ρ',hq,hB',hs',hext⟩
  | outgrown=>exact⟨s',ρ',hq,hB',hs',hext⟩
 | cond c x y=>
  have h:iI Γ s.sl c fun v=>match v with
   | .bool b=>Jc b (dO P Γ B x s Q) (dO P Γ B y s Q)
   | _=>False:=h
  obtain⟨v,h1,h⟩:=bH h;split at h
  ·rename_i b;refine⟨fun rd X ds D ρ a w hD hs hB hr=>?_⟩;have hv:=aP hs h1;generalize he:a.eval c=cv at hv;cases hv;cases b with
   | true=>exact wpIn_cond_true he ((show dO P Γ B x s Q from h).run rd X ds D ρ a w hD hs hB hr.cond1)
   | false=>exact wpIn_cond_false he ((show dO P Γ B y s Q from h).run rd X ds D ρ a w hD hs hB hr.cond2)
  ·exact h.elim
 | block id c=>
  have h:dO P Γ B c s (AU id Q):=h;refine⟨fun rd X ds D ρ a w hD hs hB hr=>wpIn_block (wpIn_mono (h.run rd X ds D ρ a w hD hs hB hr.block) ?_)⟩;rintro e a' w' ⟨s',ρ',hq,hB',hs',hext⟩;cases e with
  | exit i=>
   simp only[Exit.inBlock];simp only[AU] at hq;split at hq
   ·rename_i hi;rw[Q3 (Nat.eq_of_beq_eq_true hi)];exact⟨s',ρ',hq,hB',hs',hext⟩
   ·rename_i hi;rw[Qz (Rh hi)];exact⟨s',ρ',hq,hB',hs',hext⟩
  | normal=>exact⟨s',ρ',hq,hB',hs',hext⟩
  | goto l=>exact⟨s',ρ',hq,hB',hs',hext⟩
  | ret=>exact⟨s',ρ',hq,hB',hs',hext⟩
  | panic c=>exact⟨s',ρ',hq,hB',hs',hext⟩
  | outgrown=>exact⟨s',ρ',hq,hB',hs',hext⟩
 | region id ops draw=>
  cases draw with
  | false=>exact wE oJ (.region id ops false) s Q (y6 (show jD P Γ B ops.toList ops.toList s _ from h).run)
  | true=>
   refine wE oJ (.region id ops true) s Q ?_;have h:Ot P Γ B ops.toList s Q:=h;unfold Ot at h;simp only[Ba];split at h
   ·rename_i hmix;simp only[hmix];split at h
    ·rename_i hok;simp only[Ek,hok];exact sC (jE.1 (cQ.1 (kA.1 h))).run
    ·exact h.elim
   ·exact h.elim
 | _=>exact(show False from h).elim
theorem aO{F:FuncId}{fn:Func}{c:Code}{args:List AV}{mem:aN}{nx:Nat}{Q:AV->aN->Nat->Prop}(hΓ:∀p∈Γ,NN p.2)(hf:P.funcs[F]? = some fn)(hb:fn.body=some c)
  (h:tX fn.ntmps args mem nx fun s=>dO P Γ nx c s (OI P fn.results.toList (nF nx Q))) (hF:Nat.beq F YF=false:=by rfl):aF P Γ F args mem nx Q:=
 (tD hf hb ((i5 h).mono fun _ _ h=>Jp h) hF).turn hΓ
def PK{α:Type}(B:Nat)(R:α->Prop)(I:α->St)(μ:α->Nat)(x:α)(Q:Exit->St->Prop)(e:Exit)(s:St):Prop:=
 match e with
 | .normal=>Em B R I μ x s
 | e=>Q e s
theorem aZ.at{c:Code}{s:St}{Q:Exit->St->Prop}{α:Type}(hΓ:∀p∈Γ,NN p.2)(R:α->Prop)(I:α->St)(μ:α->Nat)(x:α)(σ:List (Nat × Nat))(hx:R x)(h0:Conv B σ s (I x))
  (h:∀x,R x->dO P Γ B c (I x) (PK B R I μ x Q)):aZ P Γ B c s Q:=by
 refine⟨dO.conv hΓ h0 ?_⟩;refine dO.loop (α:={ x:α // R x }) hΓ (fun x=>I x.1) (fun x=>μ x.1) (fun x=>?_) ⟨x,hx⟩;refine(h x.1 x.2).mono fun e s h=>?_
 cases e with
 | normal=>
  obtain⟨y,σ,hy,hc,hlt⟩:=(show Em B R I μ x.1 s from h)
  exact⟨⟨y,hy⟩,σ,hc,hlt⟩
 | exit i=>exact h
 | goto l=>exact h
 | ret=>exact h
 | panic c=>exact h
 | outgrown=>exact h
theorem aZ.ph{c:Code}{s:St}{Q:Exit->St->Prop}(t:TypeId)(sz:Nat)(h:aZ P Γ B c ⟨s.sl,(s.nx,.row t sz [])::s.mem,s.nx+1,s.nt⟩ Q):aZ P Γ B c s Q:=⟨dO.ph t sz h.run⟩
def Kr(P:Program)(Γ:List (Nat × AV))(B:Nat)(ops:List Oper)(K:St->Prop)(next:List Oper->St->Prop)(l:List Oper)(s:St):Prop:=
 match l with
 | []=>K s
 | o::r=>C2 s fun sl mem nx nt=>pG ops sl o.guard
   (Ck false P Γ (Fe P Γ B) sl mem nx o.op (fun v mem nx=>lK s o.dst v mem nx fun s'=>next r s') fun _ _ _=>False)
   (lK s o.dst (.tup []) mem nx fun s'=>next r s')
theorem mK{ops:List Oper}{K:St->Prop}{next:List Oper->St->Prop}(hn:∀r s,next r s->jD P Γ B ops r s K){l:List Oper}{s:St}(h:Kr P Γ B ops K next l s):jD P Γ B ops l s K:=by
 refine⟨?_⟩;cases l with
 | nil=>exact h
 | cons o r=>
  have h:pG ops s.sl o.guard (Ck false P Γ (Fe P Γ B) s.sl s.mem s.nx o.op (fun v mem nx=>lK s o.dst v mem nx fun s'=>next r s') fun _ _ _=>False) (lK s o.dst (.tup []) s.mem s.nx fun s'=>next r s'):=h;simp only[uH];rcases vY h with⟨h1,h⟩|⟨h1,h⟩
  ·simp only[h1];rcases Ac h with⟨v,m,n,h2,h⟩|⟨h2,F,l,h3,h⟩
   ·obtain⟨s',h4,h⟩:=eH h;simp only[h2,h4];exact(hn _ _ h).run
   ·simp only[h2,h3];refine(show aF P Γ F l s.mem s.nx _ from h).mono fun v m n h=>?_
    obtain⟨s',h4,h⟩:=eH h;simp only[h4];exact(hn _ _ h).run
  ·obtain⟨s',h4,h⟩:=eH h;simp only[h1,h4];exact(hn _ _ h).run
def NE(P:Program)(Γ:List (Nat × AV))(B:Nat)(next:Code->St->(Exit->St->Prop)->Prop)(c:Code)(s:St)(Q:Exit->St->Prop):Prop:=
 match c with
 | .seq x y=>next x s (Ig P Γ B y Q)
 | .block id c=>next c s (AU id Q)
 | c=>P5 P Γ B c s Q
theorem pP{next:Code->St->(Exit->St->Prop)->Prop}(hn:∀c s Q,next c s Q->dO P Γ B c s Q){c:Code}{s:St}{Q:Exit->St->Prop}(h:NE P Γ B next c s Q):dO P Γ B c s Q:=by
 cases c with
 | seq x y=>exact dO.go (show P5 P Γ B (.seq x y) s Q from hn _ _ _ h)
 | block id c=>exact dO.go (show P5 P Γ B (.block id c) s Q from hn _ _ _ h)
 | _=>exact dO.go h
def PB(P:Program)(Γ:List (Nat × AV))(B:Nat)(ops:List Oper)(K:St->Prop)(l:List Oper)(s:St):Prop:=jD P Γ B ops l s K
theorem MW{ops:List Oper}{K:St->Prop}(l:List Oper)(s:St)(h:PB P Γ B ops K l s):jD P Γ B ops l s K:=h
def PI(P:Program)(Γ:List (Nat × AV))(B:Nat)(ops:List Oper)(K:St->Prop)(l:List Oper)(s:St):Prop:=Kr P Γ B ops K (PB P Γ B ops K) l s
theorem ME{ops:List Oper}{K:St->Prop}(l:List Oper)(s:St)(h:PI P Γ B ops K l s):jD P Γ B ops l s K:=mK MW h
def PT(P:Program)(Γ:List (Nat × AV))(B:Nat)(ops:List Oper)(K:St->Prop)(l:List Oper)(s:St):Prop:=Kr P Γ B ops K (PI P Γ B ops K) l s
theorem MB{ops:List Oper}{K:St->Prop}(l:List Oper)(s:St)(h:PT P Γ B ops K l s):jD P Γ B ops l s K:=mK ME h
def PH(P:Program)(Γ:List (Nat × AV))(B:Nat)(ops:List Oper)(K:St->Prop)(l:List Oper)(s:St):Prop:=Kr P Γ B ops K (PT P Γ B ops K) l s
theorem M9{ops:List Oper}{K:St->Prop}(l:List Oper)(s:St)(h:PH P Γ B ops K l s):jD P Γ B ops l s K:=mK MB h
def O5(P:Program)(Γ:List (Nat × AV))(B:Nat)(ops:List Oper)(K:St->Prop)(l:List Oper)(s:St):Prop:=Kr P Γ B ops K (PH P Γ B ops K) l s
theorem Md{ops:List Oper}{K:St->Prop}(l:List Oper)(s:St)(h:O5 P Γ B ops K l s):jD P Γ B ops l s K:=mK M9 h
def P1(P:Program)(Γ:List (Nat × AV))(B:Nat)(ops:List Oper)(K:St->Prop)(l:List Oper)(s:St):Prop:=Kr P Γ B ops K (O5 P Γ B ops K) l s
theorem NM{ops:List Oper}{K:St->Prop}(l:List Oper)(s:St)(h:P1 P Γ B ops K l s):jD P Γ B ops l s K:=mK Md h
def Pc(P:Program)(Γ:List (Nat × AV))(B:Nat)(ops:List Oper)(K:St->Prop)(l:List Oper)(s:St):Prop:=Kr P Γ B ops K (P1 P Γ B ops K) l s
theorem NB{ops:List Oper}{K:St->Prop}(l:List Oper)(s:St)(h:Pc P Γ B ops K l s):jD P Γ B ops l s K:=mK NM h
def Pb(P:Program)(Γ:List (Nat × AV))(B:Nat)(ops:List Oper)(K:St->Prop)(l:List Oper)(s:St):Prop:=Kr P Γ B ops K (Pc P Γ B ops K) l s
theorem Ma{ops:List Oper}{K:St->Prop}(l:List Oper)(s:St)(h:Pb P Γ B ops K l s):jD P Γ B ops l s K:=mK NB h
def PX(P:Program)(Γ:List (Nat × AV))(B:Nat)(ops:List Oper)(K:St->Prop)(l:List Oper)(s:St):Prop:=Kr P Γ B ops K (Pb P Γ B ops K) l s
theorem Mu{ops:List Oper}{K:St->Prop}(l:List Oper)(s:St)(h:PX P Γ B ops K l s):jD P Γ B ops l s K:=mK Ma h
def Ps(P:Program)(Γ:List (Nat × AV))(B:Nat)(ops:List Oper)(K:St->Prop)(l:List Oper)(s:St):Prop:=Kr P Γ B ops K (PX P Γ B ops K) l s
theorem MV{ops:List Oper}{K:St->Prop}(l:List Oper)(s:St)(h:Ps P Γ B ops K l s):jD P Γ B ops l s K:=mK Mu h
def J5(P:Program)(Γ:List (Nat × AV))(B:Nat)(ops:List Oper)(K:St->Prop)(l:List Oper)(s:St):Prop:=Kr P Γ B ops K (Ps P Γ B ops K) l s
theorem Ky{ops:List Oper}{K:St->Prop}(l:List Oper)(s:St)(h:J5 P Γ B ops K l s):jD P Γ B ops l s K:=mK MV h
theorem jD.many{ops l:List Oper}{s:St}{K:St->Prop}(h:J5 P Γ B ops K l s):jD P Γ B ops l s K:=Ky l s h
def PM(P:Program)(Γ:List (Nat × AV))(B:Nat)(c:Code)(s:St)(Q:Exit->St->Prop):Prop:=dO P Γ B c s Q
theorem L8(c:Code)(s:St)(Q:Exit->St->Prop)(h:PM P Γ B c s Q):dO P Γ B c s Q:=h
def PW(P:Program)(Γ:List (Nat × AV))(B:Nat)(c:Code)(s:St)(Q:Exit->St->Prop):Prop:=NE P Γ B (PM P Γ B) c s Q
theorem ND(c:Code)(s:St)(Q:Exit->St->Prop)(h:PW P Γ B c s Q):dO P Γ B c s Q:=pP L8 h
def Pz(P:Program)(Γ:List (Nat × AV))(B:Nat)(c:Code)(s:St)(Q:Exit->St->Prop):Prop:=NE P Γ B (PW P Γ B) c s Q
theorem L7(c:Code)(s:St)(Q:Exit->St->Prop)(h:Pz P Γ B c s Q):dO P Γ B c s Q:=pP ND h
def O1(P:Program)(Γ:List (Nat × AV))(B:Nat)(c:Code)(s:St)(Q:Exit->St->Prop):Prop:=NE P Γ B (Pz P Γ B) c s Q
theorem Mg(c:Code)(s:St)(Q:Exit->St->Prop)(h:O1 P Γ B c s Q):dO P Γ B c s Q:=pP L7 h
def Py(P:Program)(Γ:List (Nat × AV))(B:Nat)(c:Code)(s:St)(Q:Exit->St->Prop):Prop:=NE P Γ B (O1 P Γ B) c s Q
theorem MD(c:Code)(s:St)(Q:Exit->St->Prop)(h:Py P Γ B c s Q):dO P Γ B c s Q:=pP Mg h
def O4(P:Program)(Γ:List (Nat × AV))(B:Nat)(c:Code)(s:St)(Q:Exit->St->Prop):Prop:=NE P Γ B (Py P Γ B) c s Q
theorem NH(c:Code)(s:St)(Q:Exit->St->Prop)(h:O4 P Γ B c s Q):dO P Γ B c s Q:=pP MD h
def Pe(P:Program)(Γ:List (Nat × AV))(B:Nat)(c:Code)(s:St)(Q:Exit->St->Prop):Prop:=NE P Γ B (O4 P Γ B) c s Q
theorem NI(c:Code)(s:St)(Q:Exit->St->Prop)(h:Pe P Γ B c s Q):dO P Γ B c s Q:=pP NH h
def Pr(P:Program)(Γ:List (Nat × AV))(B:Nat)(c:Code)(s:St)(Q:Exit->St->Prop):Prop:=NE P Γ B (Pe P Γ B) c s Q
theorem M1(c:Code)(s:St)(Q:Exit->St->Prop)(h:Pr P Γ B c s Q):dO P Γ B c s Q:=pP NI h
def Nw(P:Program)(Γ:List (Nat × AV))(B:Nat)(c:Code)(s:St)(Q:Exit->St->Prop):Prop:=NE P Γ B (Pr P Γ B) c s Q
theorem M6(c:Code)(s:St)(Q:Exit->St->Prop)(h:Nw P Γ B c s Q):dO P Γ B c s Q:=pP M1 h
theorem dO.many{c:Code}{s:St}{Q:Exit->St->Prop}(h:Nw P Γ B c s Q):dO P Γ B c s Q:=M6 c s Q h
class XG(p:Prop)(q:outParam Prop):Prop where
 h:q->p
instance{c:Code}{s:St}{Q:Exit->St->Prop}:XG (dO P Γ B c s Q) (Nw P Γ B c s Q):=⟨dO.many⟩
instance{ops l:List Oper}{s:St}{K:St->Prop}:XG (jD P Γ B ops l s K) (J5 P Γ B ops K l s):=⟨jD.many⟩
instance{ops:List Oper}{tr:List (List Nat)}{base:Nat}{K:St->Prop}{l:List Nat}{recs:List zF}{s:St}:XG (Je P Γ B ops tr base K l recs s) (QF P Γ B ops tr base K l recs s):=⟨Je.go⟩
theorem Xg{p q:Prop}[i:XG p q](x:q):p:=i.h x
theorem Rr{p q:Prop}(x:q)(e:q->p:=by(intro x;(conv=>whnf);(repeat(refine Xg ?_;conv=>whnf));exact x)):p:=e x
end
end Go.Ax
namespace Go.Ax
open Go
def BZ(i:Nat):List Nat->Bool
 | []=>false
 | j::r=>match Nat.beq j i with
  | true=>true
  | false=>BZ i r
def mS(ids:List Nat):aN->aN
 | []=>[]
 | (k,b)::r=>match BZ k ids with
  | true=>(k,b)::mS ids r
  | false=>mS ids r
def jM(ids:List Nat):aN->aN
 | []=>[]
 | (k,b)::r=>match BZ k ids with
  | true=>jM ids r
  | false=>(k,b)::jM ids r
def nH:List Nat->List (Nat × Nat)
 | []=>[]
 | i::r=>(i,i)::nH r
def H2(n:Nat):List Nat->Bool
 | []=>true
 | i::r=>Nat.blt i n && H2 n r
def BC(ids:List Nat):aN->Bool
 | []=>true
 | (k,_)::r=>BZ k ids && BC ids r
theorem dE{ids:List Nat}:∀{m:aN} {p:Nat × AB},p∈mS ids m↔p∈m/\BZ p.1 ids=true
 | [],p=>by simp[mS]
 | (k,b)::r,p=>by
  simp only[mS];split
  ·rename_i h;rw[Qw,dE (m:=r),Qw];constructor
   ·rintro(rfl|⟨h1,h2⟩)
    ·exact⟨.inl rfl,h⟩
    ·exact⟨.inr h1,h2⟩
   ·rintro⟨rfl|h1,h2⟩
    ·exact .inl rfl
    ·exact .inr ⟨h1,h2⟩
  ·rename_i h;rw[dE (m:=r),Qw];constructor
   ·rintro⟨h1,h2⟩;exact⟨.inr h1,h2⟩
   ·rintro⟨rfl|h1,h2⟩
    ·rw[h] at h2;cases h2
    ·exact⟨h1,h2⟩
theorem cM{ids:List Nat}:∀{m:aN} {p:Nat × AB},p∈jM ids m↔p∈m/\BZ p.1 ids=false
 | [],p=>by simp[jM]
 | (k,b)::r,p=>by
  simp only[jM];split
  ·rename_i h;rw[cM (m:=r),Qw];constructor
   ·rintro⟨h1,h2⟩;exact⟨.inr h1,h2⟩
   ·rintro⟨rfl|h1,h2⟩
    ·rw[h] at h2;cases h2
    ·exact⟨h1,h2⟩
  ·rename_i h;rw[Qw,cM (m:=r),Qw];constructor
   ·rintro(rfl|⟨h1,h2⟩)
    ·exact⟨.inl rfl,h⟩
    ·exact⟨.inr h1,h2⟩
   ·rintro⟨rfl|h1,h2⟩
    ·exact .inl rfl
    ·exact .inr ⟨h1,h2⟩
theorem kO{ids:List Nat}:∀(m:aN),(mS ids m).Sublist m
 | []=>by simp[mS]
 | (k,b)::r=>by
  simp only[mS];split
  ·exact(kO r).cons_cons _
  ·exact(kO r).cons _
theorem kJ{ids:List Nat}:∀(m:aN),(jM ids m).Sublist m
 | []=>by simp[jM]
 | (k,b)::r=>by
  simp only[jM];split
  ·exact(kJ r).cons _
  ·exact(kJ r).cons_cons _
theorem AT:∀{ids:List Nat} {i j:Nat},lk (nH ids) i=some j->i=j/\BZ i ids=true
 | [],i,j,h=>by simp[nH,lk] at h
 | k::r,i,j,h=>by
  simp only[nH,lk] at h;split at h
  ·rename_i e;cases h;exact⟨(Nat.eq_of_beq_eq_true e).symm,by simp only[BZ,e]⟩
  ·rename_i e;obtain⟨h1,h2⟩:=AT h;exact⟨h1,by simp only[BZ,e];exact h2⟩
theorem Kt:∀{ids:List Nat} {i:Nat},BZ i ids=true->lk (nH ids) i=some i
 | [],i,h=>by simp[BZ] at h
 | k::r,i,h=>by
  simp only[BZ] at h;simp only[nH,lk];split at h
  ·rename_i e;rw[e,Nat.eq_of_beq_eq_true e]
  ·rename_i e;rw[e];exact Kt h
theorem pT:∀{ids:List Nat} {n i:Nat},H2 n ids=true->BZ i ids=true->i<n
 | [],n,i,_,h=>by simp[BZ] at h
 | k::r,n,i,h1,h=>by
  simp only[H2,Qt] at h1;simp only[BZ] at h;split at h
  ·rename_i e;rw[←Nat.eq_of_beq_eq_true e];exact Qu h1.1
  ·exact pT h1.2 h
theorem oE:∀{m:aN} {ids:List Nat},BC ids m=true->∀p∈m,BZ p.1 ids=true
 | [],ids,_,p,hp=>by cases hp
 | (k,b)::r,ids,h,p,hp=>by
  simp only[BC,Qt] at h;rcases Qw.1 hp with rfl|hp
  ·exact h.1
  ·exact oE h.2 p hp
theorem aF.useI{P:Program}{Γ:List (Nat × AV)}{F:FuncId}{args args':List AV}{ms mem:aN}{ns nx:Nat}{Qs K:AV->aN->Nat->Prop}(hΓ:∀p∈Γ,NN p.2)(ids:List Nat)(h:aF P Γ F args' ms ns Qs)
  (hp:mS ids mem=ms) (hargs:lL ms (nH ids) args args') (hM:cP ms (nH ids) ms) (hc:(t8 ms && H2 ns ids)=true)
  (hk:∀r m n,Qs r m n->NN r/\cP m (nH ids) m/\(t8 m && BC ids m)=true/\K r (m++jM ids mem) nx):aF P Γ F args mem nx K:=by
 simp only[Qt] at hc;refine⟨fun X D ρ w vs hD hm hv=>?_⟩;have hinj:L6 (nH ids):=fun i j k h1 h2=>by
  have a:=(AT h1).1;have b:=(AT h2).1;omega
 refine(aF.use (K:=K) (nx:=nx) hΓ h (nH ids) (m1:=ms) (rest:=jM ids mem) ⟨fun p hp'=>?_,fun p hp'=>(cM.1 hp').1,fun p hp'=>?_,fun p h1 q h2=>?_, ?_⟩ ?_ hargs hM.cvm (dR hc.1) hinj (fun id i hl=>?_) ?_).run X D ρ w vs hD hm hv
 ·rw[←hp] at hp';exact(dE.1 hp').1
 ·cases hi:BZ p.1 ids with
  | true=>left;rw[←hp];exact dE.2 ⟨hp',hi⟩
  | false=>right;exact cM.2 ⟨hp',hi⟩
 ·rw[←hp] at h1;have a:=(dE.1 h1).2;have b:=(cM.1 h2).2;intro e;rw[e,b] at a;cases a
 ·rw[←hp];exact hm.nod.sublist ((kO mem).map _)
 ·exact hm.nod.sublist ((kJ mem).map _)
 ·obtain⟨h1,h2⟩:=AT hl;rw[←h1];exact pT hc.2 h2
 ·intro r m n hq hn;obtain⟨h1,h2,h3,h4⟩:=hk r m n hq;simp only[Qt] at h3;refine⟨nH ids,r,m,nx,Q5 _,.same r h1,h2.cvm,dR h3.1,hinj,fun i id hl=>?_,fun p h5 q h6=>?_,h4⟩
  ·obtain⟨e1,e2⟩:=AT hl;subst e1;exact .inl ⟨pT hc.2 e2,Kt e2⟩
  ·have a:=oE h3.2 p h5;have b:=(cM.1 h6).2;intro e;rw[e,b] at a;cases a
def qR:List (Nat × Nat)->List Nat
 | []=>[]
 | (i,_)::r=>i::qR r
def Cr:List (Nat × Nat)->List (Nat × Nat)
 | []=>[]
 | (i,j)::r=>(j,i)::Cr r
def AW(n:Nat):List (Nat × Nat)->Bool
 | []=>true
 | (_,j)::r=>Nat.blt j n && AW n r
theorem AP:∀{σ:List (Nat × Nat)} {i j:Nat},(j,i)∈Cr σ↔(i,j)∈σ
 | [],i,j=>by simp[Cr]
 | (a,b)::r,i,j=>by
  simp only[Cr,Qw,AP (σ:=r),Prod.mk.injEq];constructor
  ·rintro(⟨rfl,rfl⟩|h)
   ·exact .inl ⟨rfl,rfl⟩
   ·exact .inr h
  ·rintro(⟨rfl,rfl⟩|h)
   ·exact .inl ⟨rfl,rfl⟩
   ·exact .inr h
theorem JI{σ:List (Nat × Nat)}(h:uG (Cr σ)=true){i j:Nat}(hm:(i,j)∈σ):lk σ i=some j:=by
 induction σ with
 | nil=>cases hm
 | cons p r ih=>
  obtain⟨a,b⟩:=p;simp only[Cr,uG,Qt] at h;simp only[lk];rcases Qw.1 hm with e|hm'
  ·cases e;simp
  ·have hne:a≠i:=by
    intro e;subst e;exact lN h.1 _ (AP.2 hm') rfl
   rw[oI hne];exact ih h.2 hm'
theorem j8:∀{σ:List (Nat × Nat)} {n:Nat},AW n σ=true->∀p∈σ,p.2<n
 | [],n,_,p,hp=>by cases hp
 | (a,b)::r,n,h,p,hp=>by
  simp only[AW,Qt] at h;rcases Qw.1 hp with rfl|hp
  ·exact Qu h.1
  ·exact j8 h.2 p hp
theorem aF.useR{P:Program}{Γ:List (Nat × AV)}{F:FuncId}{args args':List AV}{ms mem m1:aN}{ns nx:Nat}{Qs K:AV->aN->Nat->Prop}(hΓ:∀p∈Γ,NN p.2)(σ:List (Nat × Nat))(h:aF P Γ F args' ms ns Qs)
  (hp:mS (qR σ) mem=m1) (hargs:lL m1 σ args args') (hM:cP m1 σ ms) (hc:(t8 ms && (uG σ && (uG (Cr σ) && AW ns σ)))=true)
  (hk:∀r m n,Qs r m n->∃m',NN r/\cP m (Cr σ) m'/\(t8 m' && BC (qR σ) m')=true/\K r (m'++jM (qR σ) mem) nx):aF P Γ F args mem nx K:=by
 simp only[Qt] at hc;obtain⟨hc1,hc2,hc3,hc4⟩:=hc;refine⟨fun X D ρ w vs hD hm hv=>?_⟩;refine(aF.use (K:=K) (nx:=nx) hΓ h σ (m1:=m1) (rest:=jM (qR σ) mem) ⟨fun p hp'=>?_,fun p hp'=>(cM.1 hp').1,fun p hp'=>?_,fun p h1 q h2=>?_, ?_⟩ ?_ hargs hM.cvm (dR hc1) (kP hc2) (fun id i hl=>j8 hc4 _ (a6 hl)) ?_).run X D ρ w vs hD hm hv
 ·rw[←hp] at hp';exact(dE.1 hp').1
 ·cases hi:BZ p.1 (qR σ) with
  | true=>left;rw[←hp];exact dE.2 ⟨hp',hi⟩
  | false=>right;exact cM.2 ⟨hp',hi⟩
 ·rw[←hp] at h1;have a:=(dE.1 h1).2;have b:=(cM.1 h2).2;intro e;rw[e,b] at a;cases a
 ·rw[←hp];exact hm.nod.sublist ((kO mem).map _)
 ·exact hm.nod.sublist ((kJ mem).map _)
 ·intro r m n hq hn;obtain⟨m',h1,h2,h3,h4⟩:=hk r m n hq;simp only[Qt] at h3;refine⟨Cr σ,r,m',nx,Q5 _,.same r h1,h2.cvm,dR h3.1,kP hc3,fun i id hl=>?_,fun p h5 q h6=>?_,h4⟩
  ·have hmem:=AP.1 (a6 hl);exact .inl ⟨j8 hc4 _ hmem,JI hc3 hmem⟩
  ·have a:=oE h3.2 p h5;have b:=(cM.1 h6).2;intro e;rw[e,b] at a;cases a
end Go.Ax
namespace Go.Ax
open Go
def Nq(w w':World):Prop:=w.heap.size<=w'.heap.size/\(∀b,b<w.heap.size->w'.heap[b]? = w.heap[b]?)/\CE w w'
theorem Nq.refl(w:World):Nq w w:=⟨Q5 _,fun _ _=>rfl,.refl _⟩
section
variable {P:Program} {Γ:List (Nat × AV)} {F:FuncId} {args:List AV} {r:AV}
end
end Go.Ax
namespace Go.Ax
open Go Go.RowKit
theorem uJ{P:Program}{w:World}{n:String}{g:Nat}{k:IntKind}{zs:List Int}(hg:P.globalNamed n=some g)(hv:Lib.TabIs P w n k zs) :
  VR (fun _=>⟨0,0,0⟩) (fun _=>False) (OX (fun _=>False) (fun _=>⟨0,0,0⟩) []) w (.ip (.agg (zs.map fun z=>AV.int k z))) (.pointer (some ⟨g,0,none⟩)):=by
 refine .ip _ g 0 (fun j=>.int k (zs.getD j 0)) (fun j c hj=>?_) (fun j c hj=>?_)
 ·have hj0:j<zs.length:=by have:=(Qv.1 hj).1;simpa[AV.cells] using this
  exact⟨L0 _ _,by simpa using hv.cell hg j hj0,rfl⟩
 ·have hj0:j<zs.length:=by have:=(Qv.1 hj).1;simpa[AV.cells] using this
  simp[AV.cells,Rl,Qq hj0] at hj;subst hj;simp[Qx,Qq hj0];exact .int _ _
end Go.Ax
namespace Go.Ax
open Go
mutual
def aV:aU->Nat
 | .mk _ _ _ kids=>1+bT kids
def bT:List aU->Nat
 | []=>0
 | v::r=>aV v+bT r
end
mutual
def fD:aU->Nat
 | .mk _ _ _ kids=>dJ kids+1
def dJ:List aU->Nat
 | []=>0
 | v::r=>max (fD v) (dJ r)
end
theorem tT:∀(l:List aU) (v:aU),bT (l++[v])=bT l+aV v
 | [],v=>by simp[bT]
 | a::r,v=>by simp only[Rf,bT,tT r v];omega
theorem vP:∀(l m:List aU),bT (l++m)=bT l+bT m
 | [],v=>by simp[bT]
 | a::r,v=>by simp only[Rf,bT,vP r v];omega
theorem xG:∀(l:List aU) (v:aU),dJ (l++[v])=max (dJ l) (fD v)
 | [],v=>by simp[dJ]
 | a::r,v=>by simp only[Rf,dJ,xG r v];omega
theorem CM:∀v:aU,1<=aV v
 | .mk _ _ _ kids=>by simp only[aV];omega
theorem uE{l:List aU}{k:Nat}(h:k<l.length):bT (l.take (k+1))=bT (l.take k)+aV l[k]:=by
 rw[Q0 h,tT]
theorem D1{l:List aU}{k:Nat}(h:k<l.length):dJ (l.take (k+1))=max (dJ (l.take k)) (fD l[k]):=by
 rw[Q0 h,xG]
theorem mO(l:List aU)(k:Nat):bT (l.take k)<=bT l:=by
 have:=vP (l.take k) (l.drop k);rw[List.take_append_drop] at this;omega
theorem CI{l:List aU}{v:aU}(h:v∈l):aV v<=bT l:=by
 induction l with
 | nil=>cases h
 | cons a r ih=>
  simp only[bT];rcases Qw.1 h with rfl|h
  ·omega
  ·have:=ih h;omega
theorem wQ(l:List aU):l.length<=bT l:=by
 induction l with
 | nil=>simp
 | cons a r ih=>simp only[bT,R0];have:=CM a;omega
mutual
theorem mI:∀v:aU,fD v<=aV v
 | .mk _ _ _ kids=>by simp only[fD,aV];have:=qT kids;omega
theorem qT:∀l:List aU,dJ l<=bT l
 | []=>by simp[dJ]
 | v::r=>by simp only[dJ,bT];have:=mI v;have:=qT r;omega
end
def sW(c:Int):Bool:=(decide (97<=c) && decide (c<=122)) || (decide (65<=c) && decide (c<=90)) || (decide (48<=c) && decide (c<=57)) || decide (c=95)
def jX(c:Int):Bool:=decide (65<=c) && decide (c<=90)
def dD:List UInt8->Bool
 | []=>false
 | c::r=>decide (r.length<16) && jX c.toNat && r.all fun c=>sW c.toNat
theorem El{c:Int}(h:jX c=true):sW c=true:=by
 simp[jX,sW] at *;omega
def bW(k n:Int)(s:List UInt8)(len:Nat):Bool:=
 if k=0 then decide (s=[]) && decide (len=0)
 else if k=1 then(decide (n=0) || decide (n=1)) && decide (s=[]) && decide (len=0)
 else if k=2 then decide (n=0) && decide (s=[])
 else if k=3 then decide (n=0) && dD s
 else false
def s5(k:Int)(len:Nat):Bool:=decide (len<=256) && (decide (k≠3) || decide (len<=16))
mutual
def bJ:aU->Bool
 | .mk k n s kids=>bW k n s kids.length && cJ kids
def cJ:List aU->Bool
 | []=>true
 | v::r=>bJ v && cJ r
end
mutual
def Ca:aU->Bool
 | .mk k _ _ kids=>s5 k kids.length && A6 kids
def A6:List aU->Bool
 | []=>true
 | v::r=>Ca v && A6 r
end
def v5(k:Int)(len:Nat):Bool:=(decide (k=2) && decide (256<len)) || (decide (k=3) && decide (16<len))
mutual
def jW:aU->Bool
 | .mk k _ _ kids=>v5 k kids.length || mV kids
def mV:List aU->Bool
 | []=>false
 | v::r=>jW v || mV r
end
theorem Fb{k n:Int}{s:List UInt8}{len:Nat}(h:bW k n s len=true):v5 k len = !s5 k len:=by
 rw[RT];unfold bW at h;simp only[v5,s5,Rq,Qt,RL,Bool.not_eq_true',SN,S1,Ry];repeat' split at h
 all_goals simp at h
 all_goals omega
mutual
theorem Br:∀v:aU,bJ v=true->jW v = !Ca v
 | .mk k n s kids,h=>by
  simp only[bJ,Qt] at h;rw[jW,Ca,Fb h.1,Aw kids h.2,Bool.not_and]
theorem Aw:∀l:List aU,cJ l=true->mV l = !A6 l
 | [],_=>rfl
 | v::r,h=>by
  simp only[cJ,Qt] at h;rw[mV,A6,Br v h.1,Aw r h.2,Bool.not_and]
end
def dW(v:aU):Int:=if bJ v=false then 1 else if jW v=true∨1024<aV v then 4 else 0
theorem kF{l:List aU}{k:Nat}(h:k<l.length):cJ (l.take (k+1))=(cJ (l.take k) && bJ l[k]):=by
 rw[Q0 h];generalize l.take k=m
 induction m with
 | nil=>simp[cJ]
 | cons a r ih=>simp only[Rf,cJ,ih,TF]
theorem Fz{l:List aU}{k:Nat}(h:k<l.length):mV (l.take (k+1))=(mV (l.take k) || jW l[k]):=by
 rw[Q0 h];generalize l.take k=m
 induction m with
 | nil=>simp[mV]
 | cons a r ih=>simp only[Rf,mV,ih,Bool.or_assoc]
theorem jJ:∀{l:List aU} {v:aU},v∈l->bJ v=false->cJ l=false
 | a::r,v,h,hf=>by
  simp only[cJ];rcases Qw.1 h with rfl|h
  ·rw[hf];rfl
  ·rw[jJ h hf];simp
theorem Bo:∀{l:List aU} {v:aU},v∈l->jW v=true->mV l=true
 | a::r,v,h,hf=>by
  simp only[mV];rcases Qw.1 h with rfl|h
  ·rw[hf];rfl
  ·rw[Bo h hf];simp
mutual
def jV{S:Type}(st:S->aU->Nat->Bool × S):aU->Nat->S->Bool × S
 | .mk k n s kids,d,x=>match st x (.mk k n s kids) d with
  | (false,y)=>(false,y)
  | (true,y)=>kX st kids (d+1) y
def kX{S:Type}(st:S->aU->Nat->Bool × S):List aU->Nat->S->Bool × S
 | [],_,x=>(true,x)
 | v::r,d,x=>match jV st v d x with
  | (false,y)=>(false,y)
  | (true,y)=>kX st r d y
end
def cA(x:Nat × Bool × Bool)(v:aU)(_:Nat):Bool × (Nat × Bool × Bool):=
 match v with
 | .mk k n s kids=>(x.2.1 && bW k n s kids.length,(x.1+1,x.2.1 && bW k n s kids.length,x.2.2 && s5 k kids.length))
mutual
theorem CY:∀(v:aU) (d n:Nat) (sm:Bool),∃n',jV cA v d (n,true,sm)=(bJ v,(n',bJ v,if bJ v then sm && Ca v else(jV cA v d (n,true,sm)).2.2.2))/\n'<=n+aV v/\(bJ v=true->n'=n+aV v)
 | .mk k m s kids,d,n,sm=>by
  cases hf:bW k m s kids.length with
  | false=>
   refine⟨n+1, ?_,by simp only[aV];omega,fun h=>?_⟩
   ·simp only[jV,cA,hf,SZ,bJ,TG,R9,if_false]
   ·simp[bJ,hf] at h
  | true=>
   obtain⟨n',h1,h2,h3⟩:=BM kids (d+1) (n+1) (sm && s5 k kids.length);refine⟨n', ?_,by simp only[aV];omega,fun h=>?_⟩
   ·simp only[jV,cA,hf,Bool.and_true,bJ,Sg];rw[h1];cases cJ kids with
    | true=>simp[Ca,TF]
    | false=>simp
   ·simp only[bJ,hf,Sg] at h;rw[h3 h];simp only[aV];omega
theorem BM:∀(l:List aU) (d n:Nat) (sm:Bool),∃n',kX cA l d (n,true,sm)=(cJ l,(n',cJ l,if cJ l then sm && A6 l else(kX cA l d (n,true,sm)).2.2.2))/\n'<=n+bT l/\(cJ l=true->n'=n+bT l)
 | [],d,n,sm=>⟨n,by simp[kX,cJ,A6],by simp,fun _=>by simp[bT]⟩
 | v::r,d,n,sm=>by
  obtain⟨n1,h1,h2,h3⟩:=CY v d n sm;cases hf:bJ v with
  | false=>
   rw[hf] at h1;refine⟨n1, ?_,by simp only[bT];omega,fun h=>?_⟩
   ·simp only[kX,cJ,hf,TG,R9,if_false];rw[h1]
   ·simp[cJ,hf] at h
  | true=>
   rw[hf] at h1;simp only[if_true] at h1;obtain⟨n2,g1,g2,g3⟩:=BM r d n1 (sm && Ca v);refine⟨n2, ?_,by simp only[bT];omega,fun h=>?_⟩
   ·simp only[kX,cJ,hf,Sg];rw[h1];simp only;rw[g1];cases cJ r with
    | true=>simp[A6,TF]
    | false=>simp
   ·simp only[cJ,hf,Sg] at h;rw[g3 h,h3 hf];simp only[bT];omega
end
theorem JD(v:aU):(match (jV cA v 1 (0,true,true)).2 with|(n,good,small)=>if good=false then(1:Int) else if small=false∨1024<n then 4 else 0)=dW v:=by
 obtain⟨n',h1,h2,h3⟩:=CY v 1 0 true;rw[h1];unfold dW;cases hf:bJ v with
 | false=>simp
 | true=>
  rw[Br v hf,h3 hf];simp
theorem gG{k n:Int}(hk:i64 k)(hn:i64 n):fY (.mk k n [] []):=by
 simp only[fY,wR];exact⟨hk,hn,by simp,by simp,trivial⟩
theorem jP{n:Int}{l:List aU}{k:Int}{s:List UInt8}(hk:i64 k)(hn:i64 n)(hs:s.length<=4294967296)(hl:l.length<=4294967296)(h:wR l):fY (.mk k n s l):=by
 simp only[fY];exact⟨hk,hn,hs,hl,h⟩
theorem t7{s:List UInt8}{a:UInt8}(h0:s[0]? = some a)(hl:s.length<=16)(hu:jX a.toNat=true)(hall:∀(j:Nat) (c:UInt8),s[j]? = some c->sW c.toNat=true):dD s=true:=by
 cases s with
 | nil=>simp at h0
 | cons b r=>
  simp at h0;subst h0;simp only[dD,Qt,RL,R1];refine⟨⟨by simp at hl;omega,hu⟩,fun c hc=>?_⟩;obtain⟨j,hj⟩:=RQ hc;exact hall (j+1) c (by simpa using hj)
theorem pX{s:List UInt8}(h:s.length<1):dD s=false:=by
 cases s with
 | nil=>rfl
 | cons b r=>simp at h
theorem nV{s:List UInt8}(h:16<s.length):dD s=false:=by
 cases s with
 | nil=>rfl
 | cons b r=>simp only[dD];simp at h;rw[Rd om];rfl
theorem g7{s:List UInt8}{a:UInt8}(h0:s[0]? = some a)(hu:jX a.toNat=false):dD s=false:=by
 cases s with
 | nil=>rfl
 | cons b r=>simp at h0;subst h0;simp only[dD];rw[hu];simp
theorem tR{s:List UInt8}{j:Nat}{c:UInt8}(h:s[j]? = some c)(hc:sW c.toNat=false):dD s=false:=by
 cases s with
 | nil=>rfl
 | cons b r=>
  cases j with
  | zero=>
   simp at h;subst h;refine g7 (a:=b) rfl ?_;cases hu:jX b.toNat with
   | false=>rfl
   | true=>rw[El hu] at hc;cases hc
  | succ j=>
   simp only[dD];have:(r.all fun c=>sW c.toNat)=false:=by
    rw[R6];intro hall;rw[R1] at hall;have:=hall c (RC (by simpa using h));rw[hc] at this;cases this
   rw[this];simp
mutual
def u9(g:Nat->Nat->Nat):aU->Nat->Nat->Nat
 | .mk _ _ _ kids,d,x=>q7 g kids (d+1) (g x d)
def q7(g:Nat->Nat->Nat):List aU->Nat->Nat->Nat
 | [],_,x=>x
 | v::r,d,x=>q7 g r d (u9 g v d x)
end
theorem B6(g:Nat->Nat->Nat):∀(l:List aU) (v:aU) (d x:Nat),q7 g (l++[v]) d x=u9 g v d (q7 g l d x)
 | [],v,d,x=>by simp[q7]
 | a::r,v,d,x=>by simp only[Rf,q7];exact B6 g r v d _
theorem Ie(g:Nat->Nat->Nat){l:List aU}{k:Nat}(h:k<l.length)(d x:Nat):q7 g (l.take (k+1)) d x=u9 g l[k] d (q7 g (l.take k) d x):=by
 rw[Q0 h,B6]
mutual
theorem MO{g:Nat->Nat->Nat}(hg:∀n d,g n d<=max (n+1) d):∀(v:aU) (d n:Nat),u9 g v d n<=max n (d+fD v)+aV v
 | .mk k m s kids,d,n=>by
  simp only[u9,fD,aV];have h1:=hg n d;have h2:=Db hg kids (d+1) (g n d);omega
theorem Db{g:Nat->Nat->Nat}(hg:∀n d,g n d<=max (n+1) d):∀(l:List aU) (d n:Nat),q7 g l d n<=max n (d+dJ l)+bT l
 | [],d,n=>by simp only[q7];omega
 | v::r,d,n=>by
  simp only[q7,dJ,bT];have h1:=MO hg v d n;have h2:=Db hg r d (u9 g v d n);omega
end
mutual
theorem EL:∀(v:aU) (d n:Nat),u9 (fun n _=>n+1) v d n=n+aV v
 | .mk k m s kids,d,n=>by simp only[u9,aV];rw[CL];omega
theorem CL:∀(l:List aU) (d n:Nat),q7 (fun n _=>n+1) l d n=n+bT l
 | [],d,n=>by simp[q7,bT]
 | v::r,d,n=>by simp only[q7,bT];rw[EL,CL];omega
end
theorem B7{S:Type}(st:S->aU->Nat->Bool × S):∀(l:List aU) (v:aU) (d:Nat) (x:S),kX st (l++[v]) d x=match kX st l d x with|(false,y)=>(false,y)|(true,y)=>jV st v d y
 | [],v,d,x=>by
  simp only[Rb,kX];cases jV st v d x with|mk b y=>cases b<;>rfl
 | a::r,v,d,x=>by
  simp only[Rf,kX];cases jV st a d x with
  | mk b y=>cases b with
   | false=>rfl
   | true=>exact B7 st r v d y
theorem Ix{S:Type}(st:S->aU->Nat->Bool × S){l:List aU}{k:Nat}(h:k<l.length)(d:Nat)(x y:S)(hx:kX st (l.take k) d x=(true,y)):kX st (l.take (k+1)) d x=jV st l[k] d y:=by
 rw[Q0 h,B7,hx]
theorem B1{S:Type}(st:S->aU->Nat->Bool × S):∀{l m:List aU} {d:Nat} {x y:S},kX st l d x=(false,y)->kX st (l++m) d x=(false,y)
 | [],m,d,x,y,h=>by simp[kX] at h
 | a::r,m,d,x,y,h=>by
  simp only[kX] at h;simp only[Rf,kX];cases he:jV st a d x with
  | mk b z=>
   rw[he] at h;cases b with
   | false=>simpa using h
   | true=>exact B1 st h
theorem uN:∀{l:List aU} {v:aU},v∈l->fD v<=dJ l
 | a::r,v,h=>by
  simp only[dJ];rcases Qw.1 h with rfl|h
  ·omega
  ·have:=uN h;omega
theorem s8:∀(l m:List aU),dJ (l++m)=max (dJ l) (dJ m)
 | [],m=>by simp[dJ]
 | a::r,m=>by simp only[Rf,dJ,s8 r m];omega
theorem BH(l:List aU)(k:Nat):dJ (l.take k)<=dJ l:=by
 have:=s8 (l.take k) (l.drop k);rw[List.take_append_drop] at this;omega
mutual
theorem MU:∀(v:aU) (d:Nat) (x:Nat × Bool × Bool),(jV cA v d x).2.1<=x.1+aV v
 | .mk k n s kids,d,x=>by
  simp only[jV,cA,aV];split
  ·rename_i h;simp only[Prod.mk.injEq] at h;rw[←h.2];simp only;omega
  ·rename_i h;simp only[Prod.mk.injEq] at h;rw[←h.2];have:=BJ kids (d+1) (x.1+1,x.2.1 && bW k n s kids.length,x.2.2 && s5 k kids.length);simp only at this;omega
theorem BJ:∀(l:List aU) (d:Nat) (x:Nat × Bool × Bool),(kX cA l d x).2.1<=x.1+bT l
 | [],d,x=>by simp[kX]
 | v::r,d,x=>by
  simp only[kX,bT];have h1:=MU v d x;split
  ·rename_i y h;rw[h] at h1;simp only at h1 ⊢;omega
  ·rename_i y h;rw[h] at h1;have:=BJ r d y;simp only at h1;omega
end
structure Nd where
 kind:Int
 name:List UInt8
 lo:Int
 hi:Int
 weights:List Int
 labels:List (List UInt8)
 values:List aU
 kids:List Int
 value:aU
def Ae(l:List (List UInt8)):List AV:=l.map AV.str
def bL(x:Nd):AV:=
 match x.value with
 | .mk k n s ks=>.agg [.int .i64 x.kind,.str x.name,.int .i64 x.lo,.int .i64 x.hi,.il 1 (aW x.weights),.il 1 (Ae x.labels),.il 4 (aL x.values),.il 1 (aW x.kids),.int .i64 k,.int .i64 n,.str s,.il 4 (aL ks)]
def aY(l:List Nd):List AV:=l.map bL
theorem y8(l:List (List UInt8)):iV (Ae l):=fun a ha=>by
 obtain⟨n,_,rfl⟩:=RD.1 ha;exact .str _
theorem a8(l:List (List UInt8)):(Ae l).length=l.length:=by rw[Ae,SF]
theorem aQ(x:Nd):NN (bL x):=by
 unfold bL;split;exact .agg' (.cons (.int _ _) (.cons (.str _) (.cons (.int _ _) (.cons (.int _ _) (.cons (.il' (aT _)) (.cons (.il' (y8 _)) (.cons (.il' (aR _)) (.cons (.il' (aT _)) (.cons (.int _ _) (.cons (.int _ _) (.cons (.str _) (.cons (.il' (aR _)) .nil))))))))))))
theorem aS(l:List Nd):iV (aY l):=fun a ha=>by
 obtain⟨n,_,rfl⟩:=RD.1 ha;exact aQ n
theorem bF(l:List Nd):(aY l).length=l.length:=by rw[aY,SF]
theorem mU(l:List Nd)(i:Nat):(aY l)[i]? = (l[i]?).map bL:=by rw[aY,Rl]
structure pL(x:Nd):Prop where
 kind:i64 x.kind
 name:x.name.length<=4294967296
 lo:i64 x.lo
 hi:i64 x.hi
 weights:x.weights.length<=4294967296
 weightsI:∀w∈x.weights,i64 w
 labels:x.labels.length<=4294967296
 labelsI:∀w∈x.labels,w.length<=4294967296
 values:x.values.length<=4294967296
 valuesI:∀v∈x.values,fY v/\aV v<=4294967296
 kids:x.kids.length<=4294967296
 kidsI:∀k∈x.kids,i64 k
 value:fY x.value
 valueS:aV x.value<=4294967296
def A2:aU->Bool
 | .mk k n s ks=>decide (k=0) && decide (n=0) && decide (s=[]) && decide (ks.length=0)
def gQ(x:Nd):Bool:=
 (decide (x.kind=0) || A2 x.value) && (decide (x.kind=1) || (decide (x.lo=0) && decide (x.hi=0))) && (decide (x.kind=3) || decide (x.name=[])) &&
 (decide (x.kind=2) || (decide (x.weights.length=0) && decide (x.labels.length=0))) && (decide (x.kind=4) || decide (x.values.length=0)) && ((decide (x.kind≠0) && decide (x.kind≠1)) || decide (x.kids.length=0))
def cR:List aU->Bool
 | a::b::r=>decide (bS a b<0) && cR (b::r)
 | _=>true
def jS(i:Int)(l:List Int):Bool:=l.all fun k=>decide (0<=k) && decide (k<i)
def cG(i:Int)(x:Nd):Bool:=
 gQ x && (decide (0<=x.kind) && decide (x.kind<=4)) && jS i x.kids &&
 (decide (x.kind≠2) || (decide (1<=x.kids.length) && decide (x.kids.length<=256) && decide (x.weights.length=x.kids.length) && (decide (x.labels.length=0) || decide (x.labels.length=x.kids.length)))) &&
 (decide (x.kind≠3) || (decide (x.kids.length<=256) && (decide (x.name=[]) || (dD x.name && decide (x.kids.length<=16))))) &&
 (decide (x.kind≠4) || decide (x.kids.length=x.values.length+1)) && cR x.values
def cU(x:Nd):Bool:=
 decide (x.lo<=x.hi) && decide (-4611686018427387904<=x.lo) && decide (x.hi<=4611686018427387904) && decide (x.hi<x.lo+1099511627776) && x.weights.all fun w=>decide (1<=w) && decide (w<=1000)
def cY:List aU->Int
 | []=>0
 | v::r=>if dW v≠0 then dW v else cY r
def lJ(x:Nd):List aU:=(if x.kind=0 then [x.value] else [])++x.values
def dF(i:Int)(x:Nd):Int:=
 if cG i x=false then 1 else if cY (lJ x)≠0 then cY (lJ x) else if cU x=false then 5 else 0
def dY(l:List Int)(k:Int):Int:=l.getD k.toNat 0
def eT(before kids:List Int):Int:=kids.foldl (fun s k=>s+dY before k) 0
def bX(before kids:List Int):Int:=kids.foldl (fun s k=>max s (dY before k)) 0
def gF(x:Nd):List Int:=if x.kind=2 then x.kids else x.kids.drop 1
def fX(before:List Int)(x:Nd):Int:=
 if x.kind=0 then 0 else if x.kind=1 then 1 else if x.kind=3 then eT before x.kids else if x.kind=2 then 1+bX before (gF x) else dY before (x.kids.getD 0 0)+bX before (gF x)
def g5(before:List Int)(x:Nd):Int:=
 if x.kind=0 then aV x.value else if x.kind=1 then 1 else if x.kind=3 then 1+eT before x.kids else bX before (gF x)
structure fK where
 vals:List aU
 many:Bool
def dM(name:List UInt8)(kids:List aU):aU:=if name=[] then .mk 2 0 [] kids else .mk 3 0 name kids
def cD(l:List fK)(k:Int):fK:=l.getD k.toNat ⟨[],false⟩
def fT(lo hi:Int):List aU:=(List.range (hi+1-lo).toNat).map fun i:Nat=>.mk 0 (lo+(i:Int)) [] []
def bE(before:List fK)(x:List aU × Bool)(k:Int):List aU × Bool:=
 (c8 (x.1++(cD before k).vals),x.2 || (cD before k).many || decide (1024<(c8 (x.1++(cD before k).vals)).length))
def jZ(before:List fK)(kids:List Int):fK:=
 if (kids.foldl (bE before) ([],false)).2 then⟨[],true⟩ else⟨(kids.foldl (bE before) ([],false)).1,false⟩
def e6(rows:List (List aU))(l:List aU):List (List aU):=rows.flatMap fun r=>l.map fun v=>r++[v]
def d8(before:List fK):List Int->List (List aU)->Option (List (List aU))
 | [],rows=>some rows
 | k::r,rows=>if (cD before k).many=true∨1024<rows.length*(cD before k).vals.length then none else d8 before r (e6 rows (cD before k).vals)
def nJ(before:List fK)(x:Nd):fK:=
 match d8 before x.kids [[]] with
 | none=>⟨[],true⟩
 | some rows=>⟨c8 (rows.map (dM x.name)),false⟩
def cE(x:Nd)(before:List fK):fK:=
 if x.kind=0 then⟨[x.value],false⟩
 else if x.kind=1 then(if 1024<=x.hi-x.lo then⟨[],true⟩ else⟨fT x.lo x.hi,false⟩)
 else if x.kind=3 then nJ before x
 else jZ before (if x.kind=4 then x.kids.drop 1 else x.kids)
def aH(nodes:List Nd):List fK:=nodes.foldl (fun out x=>out++[cE x out]) []
def cK:List aU->List aU->Bool
 | [],[]=>true
 | a::l,b::m=>decide (bS a b=0) && cK l m
 | _,_=>false
def c9(nodes:List Nd)(x:Nd):Int:=
 let l:=cD (aH (nodes.take ((x.kids.getD 0 0).toNat+1))) (x.kids.getD 0 0)
 if l.many=true then 4 else if cK l.vals x.values=true then 0 else 1
def eI(before:List Nd)(ls ss:List Int)(x:Nd):Int:=
 if dF before.length x≠0 then dF before.length x
 else if 256<fX ls x∨1024<g5 ss x then 4
 else if x.kind=4 then c9 before x else 0
def bR(nodes:List Nd):List Int:=nodes.foldl (fun ls x=>ls++[fX ls x]) []
def bO(nodes:List Nd):List Int:=nodes.foldl (fun ls x=>ls++[g5 ls x]) []
def bI:List Nd->List Nd->Int
 | _,[]=>0
 | before,x::r=>if eI before (bR before) (bO before) x≠0 then eI before (bR before) (bO before) x else bI (before++[x]) r
def cL(nodes:List Nd):Int:=if 4096<nodes.length then 4 else bI [] nodes
theorem dL:∀(b l:List Nd) (x:Nd),bI b l=0->bI b (l++[x])=eI (b++l) (bR (b++l)) (bO (b++l)) x
 | b,[],x,h=>by
  simp only[Rb,bI,SP];split
  ·rfl
  ·rename_i h1;simpa using (Eq.symm (Decidable.not_not.1 h1))
 | b,y::r,x,h=>by
  simp only[Rf,bI] at h ⊢;split at h
  ·rename_i h1;exact absurd h h1
  ·rename_i h1;rw[Qz h1,dL (b++[y]) r x h];simp
theorem g6(l:List Nd)(x:Nd):bR (l++[x])=bR l++[fX (bR l) x]:=by simp[bR]
theorem gV(l:List Nd)(x:Nd):bO (l++[x])=bO l++[g5 (bO l) x]:=by simp[bO]
theorem eX(l:List Nd)(x:Nd):aH (l++[x])=aH l++[cE x (aH l)]:=by simp[aH]
def iN(n most:Int):Int:=(if n<0 then -(n+1) else n).tmod most
def iO(l:List Int)(i most:Int):Int:=if i<0∨(l.length:Int)<=i then 0 else iN (l.getD i.toNat 0) most
theorem gN{n most:Int}(h:1<=most):0<=iN n most/\iN n most<most:=by
 unfold iN;have h0:0<=(if n<0 then -(n+1) else n):=by split<;>omega
 exact⟨SG _ h0,SB _ om⟩
theorem iH{l:List Int}{i most:Int}(h:1<=most):0<=iO l i most/\iO l i most<most:=by
 unfold iO;split
 ·omega
 ·exact gN h
def tP(k:Int):aU:=
 if k.tmod 4=0 then .mk 0 ((k.tdiv 4).tmod 9-4) [] []
 else if k.tmod 4=1 then .mk 1 ((k.tdiv 4).tmod 2) [] []
 else if k.tmod 4=2 then .mk 3 0 (([[76,101,97,102],[82,101,100],[88]]:List (List UInt8)).getD ((k.tdiv 4).tmod 3).toNat []) []
 else .mk 2 0 [] [.mk 0 ((k.tdiv 4).tmod 3) [] []]
def mN(l:List Int)(i j:Int):Int:=
 if (iO l (3*i+j+2) 1000000).tmod 3=0 then((iO l (3*i+j+2) 1000000).tdiv 3).tmod i else max 0 (i-1-((iO l (3*i+j+2) 1000000).tdiv 3).tmod 3)
theorem gY:∀{l:List aU},(∀(j:Nat) (a b:aU),l[j]? = some a->l[j+1]? = some b->bS a b<0)->cR l=true
 | [],_=>rfl
 | [a],_=>rfl
 | a::b::r,h=>by
  simp only[cR,Qt,RL];exact⟨h 0 a b rfl rfl,gY fun j x y hx hy=>h (j+1) x y (by simpa using hx) (by simpa using hy)⟩
theorem gZ:∀{l:List aU},cR l=true->∀(j:Nat) (a b:aU),l[j]? = some a->l[j+1]? = some b->bS a b<0
 | [],_,j,a,b,h1,h2=>by simp at h1
 | [x],_,j,a,b,h1,h2=>by simp at h2
 | x::y::r,h,j,a,b,h1,h2=>by
  simp only[cR,Qt,RL] at h;cases j with
  | zero=>simp at h1 h2;subst h1 h2;exact h.1
  | succ j=>exact gZ h.2 j a b (by simpa using h1) (by simpa using h2)
theorem cX{i:Int}{l:List Int}:jS i l=true↔∀(j:Nat) (k:Int),l[j]? = some k->0<=k/\k<i:=by
 simp only[jS,R1,Qt,RL];constructor
 ·intro h j k hj;exact h k (RC hj)
 ·intro h k hk;obtain⟨j,hj⟩:=RQ hk;exact h j k hj
theorem A8:∀{l m:List aU},l.length≠m.length->cK l m=false
 | [],[],h=>absurd rfl h
 | [],_::_,_=>rfl
 | _::_,[],_=>rfl
 | a::l,b::m,h=>by
  rw[cK,A8 (l:=l) (m:=m) (by simpa using h),SZ]
theorem sS{b l:List Int}{k:Nat}(h:k<l.length):eT b (l.take (k+1))=eT b (l.take k)+dY b l[k]:=by
 unfold eT;rw[Q0 h,R2];rfl
theorem nS{b l:List Int}{k:Nat}(h:k<l.length):bX b (l.take (k+1))=max (bX b (l.take k)) (dY b l[k]):=by
 unfold bX;rw[Q0 h,R2];rfl
theorem lC{b l:List Int}{k:Nat}(h:k<l.length)(hk:0<k):bX b ((l.take (k+1)).drop 1)=max (bX b ((l.take k).drop 1)) (dY b l[k]):=by
 rw[Q0 h,S2 (by simp;omega)];simp[bX]
theorem i8{b:List Int}{M:Int}(hM:0<=M)(h:∀x∈b,0<=x/\x<=M)(q:Int):0<=dY b q/\dY b q<=M:=by
 unfold dY;rw[Qx];cases hq:b[q.toNat]? with
 | none=>simp;omega
 | some x=>exact h x (RC hq)
theorem rO(b:List Int):∀(l:List Int) (s:Int),l.foldl (fun s k=>s+dY b k) s=s+eT b l
 | [],s=>by simp[eT]
 | a::r,s=>by
  simp only[RW,eT];rw[rO b r,rO b r (0+dY b a)];simp[eT];omega
theorem gA{b:List Int}{M:Int}(hM:0<=M)(h:∀x∈b,0<=x/\x<=M):∀l:List Int,0<=eT b l/\eT b l<=l.length*M
 | []=>by simp[eT]
 | a::r=>by
  have h1:=gA hM h r;have h2:=i8 hM h a;have e:eT b (a::r)=dY b a+eT b r:=by simp only[eT,RW];rw[rO b r];simp[eT]
  rw[e];simp only[R0];have:((r.length+1:Nat):Int)*M=r.length*M+M:=by rw[Int.natCast_add,Int.add_mul];simp
  omega
theorem CP(b:List Int){M:Int}(h:∀q,0<=dY b q/\dY b q<=M):∀(l:List Int) (s:Int),0<=s->s<=M->0<=l.foldl (fun s k=>max s (dY b k)) s/\l.foldl (fun s k=>max s (dY b k)) s<=M
 | [],s,h1,h2=>⟨h1,h2⟩
 | a::r,s,h1,h2=>by
  have:=h a;simp only[RW];exact CP b h r (max s (dY b a)) om om
theorem hZ{b:List Int}{M:Int}(hM:0<=M)(h:∀x∈b,0<=x/\x<=M)(l:List Int):0<=bX b l/\bX b l<=M:=
 CP b (i8 hM h) l 0 om hM
theorem aF.useApp{P:Program}{Γ:List (Nat × AV)}{F:FuncId}{args args':List AV}{mem:aN}{nx:Nat}{t:TypeId}{sz:Nat}{xs:List AV}{R:Nat->List AV->Prop}{K:AV->aN->Nat->Prop}(hΓ:∀p∈Γ,NN p.2)
  (h:aF P Γ F args' [(0,.row t sz xs)] 1 fun r m _=>∃(len:Nat) (ys:List AV),r = .sl 1 0 len/\m=[(1,.row t sz ys)]/\iV ys/\R len ys) (g:Nat) (hg:lk mem g=some (.row t sz xs)) (hx:iV xs) (hargs:lL [(g,.row t sz xs)] [(g,0)] args args')
  (hk:∀len ys,R len ys->CA g mem fun rest=>K (.sl nx 0 len) ((nx,.row t sz ys)::rest) (nx+1)):aF P Γ F args mem nx K:=by
 refine⟨fun X D ρ w vs hD hm hv=>?_⟩;refine(aF.use (K:=K) (nx:=nx) hΓ h [(g,0)] (m1:=[(g,.row t sz xs)]) (rest:=drop g mem) ⟨fun p hp=>?_,fun p hp=>bZ hp,fun p hp=>?_,fun p hp q hq=>?_,by simp⟩ (gU hm.nod) hargs (fun p hp=>?_) (by simp) (kP (by rfl)) (fun id i hl=>?_) ?_).run X D ρ w vs hD hm hv
 ·simp at hp;subst hp;exact a6 hg
 ·by_cases hpg:p.1=g
  ·left;have:=nR hm.nod hp (a6 hg) hpg;rw[this];simp
  ·exact .inr (p8 hp hpg)
 ·simp at hp;subst hp;exact Ne.symm (nQ hm.nod hq)
 ·simp at hp;subst hp;exact .inl ⟨g,t,sz,xs,xs,rfl,by simp[lk],by simp[lk],.same hx⟩
 ·have:=a6 hl;simp at this;omega
 ·rintro r m n ⟨len,ys,rfl,rfl,hn,hR⟩ _;refine⟨[(1,nx)],.sl nx 0 len,[(nx,.row t sz ys)],nx+1,SU _,.sl 1 nx 0 len (by simp[lk]),fun p hp=>?_,by simp,kP (by rfl),fun i id hl=>?_,fun p hp q hq=>?_,rN.1 (hk len ys hR)⟩
  ·simp at hp;subst hp;exact .inl ⟨1,t,sz,ys,ys,rfl,by simp[lk],by simp[lk],.same hn⟩
  ·have:=a6 hl;simp at this;obtain⟨rfl,rfl⟩:=this;exact .inr ⟨Q5 _,Q5 _,R5 _⟩
  ·simp at hp;subst hp;have:=hD _ (hm.low q (bZ hq));simp only;omega
def iX(x:fK):AV:=.agg [.il 4 (aL x.vals),.bool x.many]
def encLs(l:List fK):List AV:=l.map iX
theorem jH(x:fK):NN (iX x):=.agg' (.cons (.il' (aR _)) (.cons (.bool _) .nil))
theorem encLs_nn(l:List fK):iV (encLs l):=fun a ha=>by
 obtain⟨n,_,rfl⟩:=RD.1 ha;exact jH n
theorem encLs_length(l:List fK):(encLs l).length=l.length:=by rw[encLs,SF]
theorem encLs_get(l:List fK)(i:Nat):(encLs l)[i]? = (l[i]?).map iX:=by rw[encLs,Rl]
def n7(lo:Int)(k:Nat):List aU:=(List.range k).map fun i:Nat=>.mk 0 (lo+(i:Int)) [] []
theorem w9(lo:Int)(k:Nat):n7 lo (k+1)=n7 lo k++[.mk 0 (lo+(k:Int)) [] []]:=by simp[n7,TC]
theorem Bj(lo:Int)(k:Nat):(n7 lo k).length=k:=by simp[n7]
theorem aF.useNew{P:Program}{Γ:List (Nat × AV)}{F:FuncId}{args:List AV}{mem:aN}{nx:Nat}{t:TypeId}{sz len:Nat}{ys:List AV}{K:AV->aN->Nat->Prop}(hΓ:∀p∈Γ,NN p.2)
  (h:aF P Γ F args [] 0 fun r m n=>r = .sl 0 0 len/\m=[(0,.row t sz ys)]/\n=1) (ha:iV args) (hn:iV ys) (hk:K (.sl nx 0 len) ((nx,.row t sz ys)::mem) (nx+1)):aF P Γ F args mem nx K:=by
 refine⟨fun X D ρ w vs hD hm hv=>?_⟩;refine(aF.use (K:=K) (nx:=nx) hΓ h [] (m1:=[]) (rest:=mem) ⟨(fun p hp=>by cases hp),fun p hp=>hp,fun p hp=>.inr hp,(fun p hp=>by cases hp),by simp⟩ hm.nod (AE ha) (fun p hp=>by cases hp) (by simp) (fun i j k h=>by simp[lk] at h) (fun id i h=>by simp[lk] at h) ?_).run X D ρ w vs hD hm hv;rintro r m n ⟨rfl,rfl,rfl⟩ _;refine⟨[(0,nx)],.sl nx 0 len,[(nx,.row t sz ys)],nx+1,SU _,.sl 0 nx 0 len (by simp[lk]),fun p hp=>?_,by simp,kP (by rfl),fun i id hl=>?_,fun p hp q hq=>?_,hk⟩
 ·simp at hp;subst hp;exact .inl ⟨0,t,sz,ys,ys,rfl,by simp[lk],by simp[lk],.same hn⟩
 ·have:=a6 hl;simp at this;obtain⟨rfl,rfl⟩:=this;exact .inr ⟨Sj _,Q5 _,R5 _⟩
 ·simp at hp;subst hp;have:=hD _ (hm.low q hq);simp only;omega
theorem r8{bs:List fK}(hb:∀b∈bs,b.vals.length<=1024/\∀v∈b.vals,fY v):∀(l:List Int) (a:List aU × Bool) (n:Nat),a.1.length<=n->(∀v∈a.1,fY v) ->
  (l.foldl (bE bs) a).1.length<=n+l.length*1024/\∀v∈(l.foldl (bE bs) a).1,fY v
 | [],a,n,h1,h2=>⟨by simpa using h1,h2⟩
 | q::r,a,n,h1,h2=>by
  have hq:(cD bs q).vals.length<=1024/\∀v∈(cD bs q).vals,fY v:=by
   unfold cD;rw[Qx];cases hc:bs[q.toNat]? with
   | none=>simp
   | some b=>exact hb b (RC hc)
  have hs:=oR (a.1++(cD bs q).vals);simp only[RY] at hs;have:=r8 hb r (bE bs a q) (n+1024) (by simp only[bE];omega) (fun v hv=>by
   have:=nD hv;rcases Q9.1 this with h|h
   ·exact h2 v h
   ·exact hq.2 v h)
  simp only[RW,R0];refine⟨by have:=this.1;omega,this.2⟩
theorem Fv{α β:Type}(f:β->α->β){l:List α}{k:Nat}(h:k<l.length)(a:β):(l.take (k+1)).foldl f a=f ((l.take k).foldl f a) l[k]:=by
 rw[Q0 h,R2];rfl
theorem GZ{α β:Type}(f:β->α->β){l:List α}{k:Nat}(h:k<l.length)(hk:0<k)(a:β):((l.take (k+1)).drop 1).foldl f a=f (((l.take k).drop 1).foldl f a) l[k]:=by
 rw[Q0 h,S2 (by simp;omega),R2];rfl
theorem eR{α:Type}{P:List α->Prop}(h0:P [])(h1:∀(l:List α) (x:α),P l->P (l++[x]))(l:List α):P l:=by
 rw[←List.reverse_reverse l]
 induction l.reverse with
 | nil=>exact h0
 | cons a r ih=>rw[Sm];exact h1 _ _ ih
structure f9(i:Nat)(x:Nd):Prop where
 ok:pL x
 kind:0<=x.kind/\x.kind<=4
 kids:∀(j:Nat) (k:Int),x.kids[j]? = some k->0<=k/\k<i
 klen:x.kids.length<=65536
 num:cU x=true
def B3(bs:List fK):Prop:=∀b∈bs,b.vals.length<=1024/\∀v∈b.vals,fY v
theorem eS{x:Nd}(h:cU x=true):x.lo<=x.hi/\-4611686018427387904<=x.lo/\x.hi<=4611686018427387904/\x.hi<x.lo+1099511627776:=by
 unfold cU at h;simp only[Qt,RL] at h;exact⟨h.1.1.1.1,h.1.1.1.2,h.1.1.2,h.1.2⟩
theorem rY{rows:List (List aU)}{l:List aU}{r:List aU}(h:r∈e6 rows l):∃r'∈rows,∃v∈l,r=r'++[v]:=by
 simp only[e6,List.mem_flatMap,RD] at h;obtain⟨r',h1,v,h2,rfl⟩:=h;exact⟨r',h1,v,h2,rfl⟩
theorem sB(l:List aU):∀rows:List (List aU),(e6 rows l).length=rows.length*l.length
 | []=>by simp[e6]
 | r::rs=>by
  have:=sB l rs;simp only[e6,Sn,RY,SF,R0,Nat.add_mul,SC] at this ⊢;omega
theorem nE{bs:List fK}(hb:B3 bs)(k:Int):(cD bs k).vals.length<=1024/\∀v∈(cD bs k).vals,fY v:=by
 unfold cD;rw[Qx];cases h:bs[k.toNat]? with
 | none=>simp
 | some b=>exact hb b (RC h)
theorem Ap{bs:List fK}(hb:B3 bs):∀(kids:List Int) (rows out:List (List aU)) (n:Nat),rows.length<=1024->(∀r∈rows,r.length<=n/\∀v∈r,fY v)->d8 bs kids rows=some out->out.length<=1024/\∀r∈out,r.length<=n+kids.length/\∀v∈r,fY v
 | [],rows,out,n,h1,h2,h=>by
  simp only[d8] at h;cases h;exact⟨h1,fun r hr=>⟨by simpa using (h2 r hr).1,(h2 r hr).2⟩⟩
 | k::ks,rows,out,n,h1,h2,h=>by
  simp only[d8] at h;split at h
  ·cases h
  ·rename_i hc;rw[not_or] at hc;have hg:=nE hb k;obtain⟨a,b⟩:=Ap hb ks _ out (n+1) (by rw[sB];omega) (fun r hr=>by
    obtain⟨r',h3,v,h4,rfl⟩:=rY hr;refine⟨by have:=(h2 r' h3).1;simp;omega,fun u hu=>?_⟩;rcases Q9.1 hu with hu|hu
    ·exact(h2 r' h3).2 u hu
    ·simp at hu;rw[hu];exact hg.2 v h4) h
   exact⟨a,fun r hr=>⟨by have:=(b r hr).1;simp;omega,(b r hr).2⟩⟩
theorem Iv{name:List UInt8}(hn:name.length<=4294967296){r:List aU}(hr:r.length<=4294967296)(ho:∀v∈r,fY v):fY (dM name r):=by
 unfold dM;split
 ·exact jP ⟨om,om⟩ ⟨om,om⟩ (by simp) hr (vB ho)
 ·exact jP ⟨om,om⟩ ⟨om,om⟩ hn hr (vB ho)
theorem CZ{bs:List fK}:∀(l:List Int) (a:List aU × Bool),(a.2=false->a.1.length<=1024)->(l.foldl (bE bs) a).2=false->(l.foldl (bE bs) a).1.length<=1024
 | [],a,h,h2=>h h2
 | k::r,a,h,h2=>by
  refine CZ r (bE bs a k) (fun h3=>?_) h2;simp only[bE,S1,Ry] at h3 ⊢;omega
theorem GE{x:Nd}{i:Nat}{bs:List fK}(hx:f9 i x)(hb:B3 bs):(cE x bs).vals.length<=1024/\∀v∈(cE x bs).vals,fY v:=by
 unfold cE;have hnum:=eS hx.num;split
 ·exact⟨by simp,fun v hv=>by simp at hv;rw[hv];exact hx.ok.value⟩
 ·split
  ·split
   ·simp
   ·refine⟨by simp[fT];omega,fun v hv=>?_⟩;simp only[fT,RD,Sl] at hv;obtain⟨j,hj,rfl⟩:=hv;exact gG ⟨om,om⟩ ⟨om,om⟩
  ·split
   ·unfold nJ;split
    ·simp
    ·rename_i rows hr;obtain⟨h1,h2⟩:=Ap hb x.kids [[]] rows 0 (by simp) (by simp) hr;refine⟨by have:=oR (rows.map (dM x.name));simp at this ⊢;omega,fun v hv=>?_⟩;have:=nD hv;obtain⟨r,hr2,rfl⟩:=RD.1 this;have h3:=h2 r hr2;have:=hx.klen;exact Iv hx.ok.name om h3.2
   ·generalize (if x.kind=4 then x.kids.drop 1 else x.kids)=ks;unfold jZ;split
    ·simp
    ·rename_i hm;have hm:(ks.foldl (bE bs) ([],false)).2=false:=by simpa using hm
     exact⟨CZ _ _ (by simp) hm,(r8 hb _ ([],false) 0 (by simp) (by simp)).2⟩
theorem cN(l:List Nd):(aH l).length=l.length:=by
 refine eR (P:=fun l=>(aH l).length=l.length) rfl (fun l x ih=>?_) l;rw[eX];simp[ih]
theorem gD(l:List Nd):(∀(i:Nat) (x:Nd),l[i]? = some x->f9 i x)->B3 (aH l):=by
 refine eR (P:=fun l=>(∀(i:Nat) (x:Nd),l[i]? = some x->f9 i x)->B3 (aH l)) (fun _ b hb=>by simp[aH] at hb) (fun l x ih h=>?_) l;have h1:=ih fun i y hy=>h i y (by
  have:=(Qv.1 hy).1;rw[RN this];exact hy)
 have h2:=h l.length x (by simp);rw[eX];intro b hb;rcases Q9.1 hb with hb|hb
 ·exact h1 b hb
 ·simp at hb;rw[hb];exact GE h2 h1
theorem BT:∀(b l r:List Nd),bI b l=0->bI b (l++r)=bI (b++l) r
 | b,[],r,_=>by simp
 | b,y::l,r,h=>by
  simp only[Rf,bI] at h ⊢;split at h
  ·rename_i h1;exact absurd h h1
  ·rename_i h1;rw[Qz h1,BT (b++[y]) l r h];simp
theorem f6{l r:List Nd}(h:bI [] (l++r)=0):bI [] l=0:=by
 have key:∀(l b:List Nd),bI b (l++r)=0->bI b l=0:=by
  intro l
  induction l with
  | nil=>intro b _;rfl
  | cons y l ih=>
   intro b h;simp only[Rf,bI] at h ⊢;split at h
   ·rename_i h1;exact absurd h h1
   ·rename_i h1;rw[Qz h1];exact ih _ h
 exact key l [] h
theorem qJ{l r:List Nd}{x:Nd}(h:bI [] l=0)(hs:eI l (bR l) (bO l) x≠0):bI [] (l++x::r)=eI l (bR l) (bO l) x:=by
 rw[BT _ _ _ h];simp only[Rb,bI];rw[Q3 hs]
theorem jL:∀{l m:List aU},cK l m=true->l.length=m.length
 | [],[],_=>rfl
 | a::l,b::m,h=>by
  simp only[cK,Qt] at h;simp[jL h.2]
 | [],b::m,h=>by simp[cK] at h
 | a::l,[],h=>by simp[cK] at h
structure Dq(i:Nat)(x:Nd):Prop where
 kind:0<=x.kind/\x.kind<=4
 kids:∀(j:Nat) (k:Int),x.kids[j]? = some k->0<=k/\k<i
 num:cU x=true
 klen:x.kind≠4->x.kids.length<=256
 bind:x.kind=4->x.kids.length=x.values.length+1
theorem iL{i:Nat}{x:Nd}(h:dF i x=0):Dq i x:=by
 unfold dF at h;split at h
 ·omega
 ·rename_i hf;split at h
  ·rename_i h1;exact absurd h h1
  ·split at h
   ·omega
   ·rename_i hn;have hn:cU x=true:=by simpa using hn
    have hf:cG i x=true:=by simpa using hf
    unfold cG at hf;simp only[Qt,Rq,RL] at hf;obtain⟨⟨⟨⟨⟨⟨hu,hk⟩,hki⟩,h2⟩,h3⟩,h4⟩,_⟩:=hf;refine⟨hk,cX.1 hki,hn,fun hne=>?_,fun he=>om⟩;unfold gQ at hu;simp only[Qt,Rq,RL] at hu;rcases(show x.kind=0∨x.kind=1∨x.kind=2∨x.kind=3 by omega) with e|e|e|e
    ·have:=hu.2;omega
    ·have:=hu.2;omega
    ·rcases h2 with h2|h2
     ·omega
     ·exact h2.1.1.2
    ·rcases h3 with h3|h3
     ·omega
     ·exact h3.1
theorem eE{before:List Nd}{ls ss:List Int}{x:Nd}(h:eI before ls ss x=0):dF before.length x=0/\fX ls x<=256/\g5 ss x<=1024/\(x.kind=4->c9 before x=0):=by
 unfold eI at h;split at h
 ·rename_i h1;exact absurd h h1
 ·rename_i h1;split at h
  ·omega
  ·rename_i h2;rw[not_or] at h2;refine⟨by simpa using h1,om,om,fun e=>?_⟩;rw[Q3 e] at h;exact h
theorem d7{α:Type}{l:List α}{n i:Nat}{x:α}(h:(l.take n)[i]? = some x):l[i]? = some x/\i<n:=by
 rw[RO] at h;split at h
 ·rename_i hi;exact⟨h,hi⟩
 ·cases h
theorem JL{before:List Nd}{x:Nd}(hg:∀(j:Nat) (y:Nd),before[j]? = some y->f9 j y)(h:c9 before x=0):x.values.length<=1024:=by
 unfold c9 at h;simp only at h;split at h
 ·omega
 ·split at h
  ·rename_i hs;have:=jL hs;have hgl:=gD (before.take ((x.kids.getD 0 0).toNat+1)) fun i y hy=>hg i y (d7 hy).1
   have:=(nE hgl (x.kids.getD 0 0)).1;omega
  ·omega
theorem Ja{before:List Nd}{ls ss:List Int}{x:Nd}(hg:∀(j:Nat) (y:Nd),before[j]? = some y->f9 j y)(ho:pL x)(h:eI before ls ss x=0):f9 before.length x:=by
 obtain⟨h1,h2,h3,h4⟩:=eE h;have hn:=iL h1;refine⟨ho,hn.kind,hn.kids, ?_,hn.num⟩;by_cases e:x.kind=4
 ·have:=hn.bind e;have:=JL hg (h4 e);omega
 ·have:=hn.klen e;omega
theorem g8(ns:List Nd)(ho:∀x∈ns,pL x)(h:bI [] ns=0):∀(j:Nat) (x:Nd),ns[j]? = some x->f9 j x:=by
 refine eR (P:=fun ns=>(∀x∈ns,pL x)->bI [] ns=0->∀(j:Nat) (x:Nd),ns[j]? = some x->f9 j x) (fun _ _ j x hx=>by simp at hx) (fun l x ih ho h=>?_) ns ho h;have h1:=f6 h;have ih:=ih (fun y hy=>ho y (RK _ hy)) h1;have hs:=dL [] l x h1;rw[h] at hs;simp only[Rb] at hs;have hg:=Ja ih (ho x (by simp)) hs.symm;intro j y hy;rcases Q6 j l.length with hj|hj
 ·rw[RN hj] at hy;exact ih j y hy
 ·rw[RR hj] at hy;have e:j-l.length=0:=by
   have:=(Qv.1 hy).1;simp at this;omega
  rw[e] at hy;simp at hy;subst hy;obtain rfl:j=l.length:=om;exact hg
theorem D8{ls:List Int}{x:Nd}(h:∀y∈ls,0<=y/\y<=1024):0<=fX ls x:=by
 have h1:=(gA om h x.kids).1;have h2:=(hZ om h (gF x)).1;have h3:=(i8 om h (x.kids.getD 0 0)).1;unfold fX;split
 ·omega
 ·split
  ·omega
  ·split
   ·exact h1
   ·split
    ·omega
    ·omega
theorem FA{ls:List Int}{x:Nd}(h:∀y∈ls,0<=y/\y<=1024):0<=g5 ls x:=by
 have h1:=(gA om h x.kids).1;have h2:=(hZ om h (gF x)).1;unfold g5;split
 ·omega
 ·split
  ·omega
  ·split
   ·omega
   ·exact h2
theorem kY(ns:List Nd)(h:bI [] ns=0):(∀y∈bR ns,0<=y/\y<=1024)/\(∀y∈bO ns,0<=y/\y<=1024):=by
 refine eR (P:=fun ns=>bI [] ns=0->(∀y∈bR ns,0<=y/\y<=1024)/\(∀y∈bO ns,0<=y/\y<=1024)) (fun _=>by simp[bR,bO]) (fun l x ih h=>?_) ns h;have h1:=f6 h;obtain⟨i1,i2⟩:=ih h1;have hs:=dL [] l x h1;rw[h] at hs;simp only[Rb] at hs;obtain⟨_,h2,h3,_⟩:=eE hs.symm;rw[g6,gV];have n1:=D8 (x:=x) i1;have n2:=FA (x:=x) i2;constructor
 ·intro y hy;rcases Q9.1 hy with hy|hy
  ·exact i1 y hy
  ·simp at hy;subst hy;omega
 ·intro y hy;rcases Q9.1 hy with hy|hy
  ·exact i2 y hy
  ·simp at hy;subst hy;omega
theorem gJ(l:List Nd):(bR l).length=l.length:=by
 refine eR (P:=fun l=>(bR l).length=l.length) rfl (fun l x ih=>?_) l;rw[g6];simp[ih]
theorem gI(l:List Nd):(bO l).length=l.length:=by
 refine eR (P:=fun l=>(bO l).length=l.length) rfl (fun l x ih=>?_) l;rw[gV];simp[ih]
theorem zQ{a b:Int}(ha:0<=a)(hb:0<b):a.tdiv b<=a:=by
 rw[Sa ha];exact Int.ediv_le_self _ ha
theorem gP{a b:Int}(ha:0<=a)(hb:0<b):0<=a.tmod b/\a.tmod b<b:=⟨SG _ ha,SB _ hb⟩
theorem ED(k:Int)(hk:0<=k):fY (tP k)/\aV (tP k)<=2:=by
 have h4:=gP hk (show (0:Int)<4 by omega);have hd:0<=k.tdiv 4:=SH hk om;have a:=gP hd (show (0:Int)<9 by omega);have b:=gP hd (show (0:Int)<2 by omega);have c:=gP hd (show (0:Int)<3 by omega);unfold tP;split
 ·exact⟨gG ⟨om,om⟩ ⟨om,om⟩,by simp[aV,bT]⟩
 ·split
  ·exact⟨gG ⟨om,om⟩ ⟨om,om⟩,by simp[aV,bT]⟩
  ·split
   ·refine⟨jP ⟨om,om⟩ ⟨om,om⟩ ?_ (by simp) (by simp[wR]),by simp[aV,bT]⟩;rcases(show ((k.tdiv 4).tmod 3).toNat=0∨((k.tdiv 4).tmod 3).toNat=1∨((k.tdiv 4).tmod 3).toNat=2 by omega) with h|h|h<;>rw[h]<;>simp
   ·refine⟨jP ⟨om,om⟩ ⟨om,om⟩ (by simp) (by simp) ?_,by simp[aV,bT]⟩;simp only[wR,and_true];exact gG ⟨om,om⟩ ⟨om,om⟩
def uP:List (List UInt8):=[[97],[98],[99],[100]]
structure Kn(x:Nd):Prop where
 ok:pL x
 vals:x.values.length<=1024
 labels:∀s∈x.labels,s∈uP
 seq:x.kind=3->x.kids.length<=3
structure g9(ns:List Nd):Prop where
 valid:bI [] ns=0
 gen:∀x∈ns,Kn x
theorem j9{kind lo hi:Int}{name:List UInt8}{ws ks:List Int}{ls:List (List UInt8)}{vs:List aU}{v:aU}(h1:i64 kind)(h2:name.length<=1000)(h3:i64 lo)(h4:i64 hi)(h5:ws.length<=1000)(h6:∀w∈ws,i64 w)(h7:ls.length<=1000)(h8:∀s∈ls,s∈uP)
  (h9:vs.length<=1000) (h10:∀v∈vs,fY v/\aV v<=4294967296) (h11:ks.length<=1000) (h12:∀k∈ks,i64 k) (h13:fY v) (h14:aV v<=4294967296)
  (h15:kind=3->ks.length<=3:=by first|(intro h;exact absurd h om)|(intro _;omega)):Kn ⟨kind,name,lo,hi,ws,ls,vs,ks,v⟩:=
 ⟨⟨h1,by simp only;omega,h3,h4,by simp only;omega,h6,by simp only;omega,fun s hs=>by
   have:=h8 s hs;simp[uP] at this;rcases this with rfl|rfl|rfl|rfl<;>simp,by simp only;omega,h10,by simp only;omega,h12,h13,h14⟩,by simp only;omega,h8,h15⟩
theorem Fw(ns:List Nd)(ls ss:List Int)(m:Int):eI ns ls ss ⟨0,[],0,0,[],[],[],[],.mk 0 m [] []⟩=0:=by
 have hv:dW (.mk 0 m [] [])=0:=by simp[dW,bJ,cJ,bW,jW,mV,v5,aV,bT]
 have hf:cG (ns.length:Int) ⟨0,[],0,0,[],[],[],[],.mk 0 m [] []⟩=true:=by simp[cG,gQ,jS,cR]
 have hn:dF (ns.length:Int) ⟨0,[],0,0,[],[],[],[],.mk 0 m [] []⟩=0:=by
  unfold dF;rw[Qz (by rw[hf];simp)];simp[lJ,cY,hv,cU]
 unfold eI;rw[Qz (by rw[hn];simp)];simp[fX,g5,aV,bT]
theorem AK{bs:List fK}{ss:List Int}:∀(kids:List Int) (rows out:List (List aU)) (S:Int),(∀r∈rows,(bT r:Int)<=S)->(∀k∈kids,∀v∈(cD bs k).vals,(aV v:Int)<=dY ss k)->d8 bs kids rows=some out->∀r∈out,(bT r:Int)<=S+eT ss kids
 | [],rows,out,S,h1,_,h=>by
  simp only[d8] at h;cases h;intro r hr;simpa[eT] using h1 r hr
 | k::ks,rows,out,S,h1,h2,h=>by
  simp only[d8] at h;split at h
  ·cases h
  ·have e:eT ss (k::ks)=dY ss k+eT ss ks:=by simp only[eT,RW];rw[rO ss ks];simp[eT]
   have ih:=AK ks _ out (S+dY ss k) (fun r hr=>by
    obtain⟨r',h3,v,h4,rfl⟩:=rY hr;have a:=h1 r' h3;have b:=h2 k (by simp) v h4;rw[tT];omega) (fun k' hk'=>h2 k' (by simp[hk'])) h
   intro r hr;have:=ih r hr;omega
theorem HJ{bs:List fK}:∀(l:List Int) (a:List aU × Bool),∀v∈(l.foldl (bE bs) a).1,v∈a.1∨∃k∈l,v∈(cD bs k).vals
 | [],a,v,hv=>.inl hv
 | k::r,a,v,hv=>by
  rcases HJ r (bE bs a k) v hv with h|⟨k',h1,h2⟩
  ·simp only[bE] at h;rcases Q9.1 (nD h) with h|h
   ·exact .inl h
   ·exact .inr ⟨k,by simp,h⟩
  ·exact .inr ⟨k',by simp[h1],h2⟩
theorem vW{ss:List Int}:∀(l:List Int) (s:Int) (k:Int),k∈l->dY ss k<=l.foldl (fun s k=>max s (dY ss k)) s/\s<=l.foldl (fun s k=>max s (dY ss k)) s
 | a::r,s,k,h=>by
  have mono:∀(l:List Int) (s:Int),s<=l.foldl (fun s k=>max s (dY ss k)) s:=by
   intro l
   induction l with
   | nil=>intro s;simp
   | cons b l ih=>intro s;have:=ih (max s (dY ss b));simp only[RW];omega
  simp only[RW];rcases Qw.1 h with rfl|h
  ·have:=mono r (max s (dY ss k));omega
  ·have:=vW (ss:=ss) r (max s (dY ss a)) k h;omega
theorem F3{x:Nd}{bs:List fK}{ss:List Int}(hkd:0<=x.kind/\x.kind<=4)(hb:∀k∈x.kids,∀v∈(cD bs k).vals,(aV v:Int)<=dY ss k):∀v∈(cE x bs).vals,(aV v:Int)<=g5 ss x:=by
 intro v hv;unfold cE at hv;split at hv
 ·rename_i h0;simp at hv;subst hv;unfold g5;rw[Q3 h0];omega
 ·rename_i h0;split at hv
  ·rename_i h1;split at hv
   ·simp at hv
   ·simp only[fT,RD] at hv;obtain⟨j,_,rfl⟩:=hv;unfold g5;rw[Qz h0,Q3 h1];simp[aV,bT]
  ·rename_i h1;split at hv
   ·rename_i h3;unfold nJ at hv;split at hv
    ·simp at hv
    ·rename_i rows hr;obtain⟨r,hr2,rfl⟩:=RD.1 (nD hv);have:=AK x.kids [[]] rows 0 (by simp[bT]) hb hr r hr2;have e:aV (dM x.name r)=1+bT r:=by unfold dM;split<;>simp[aV]
     unfold g5;rw[Qz h0,Qz h1,Q3 h3,e];omega
   ·rename_i h3;have key:∀ks:List Int,(∀k∈ks,k∈x.kids)->v∈(jZ bs ks).vals->(aV v:Int)<=bX ss ks:=by
     intro ks hks hv;unfold jZ at hv;split at hv
     ·simp at hv
     ·rcases HJ ks ([],false) v hv with h|⟨k,h1,h2⟩
      ·simp at h
      ·have:=hb k (hks k h1) v h2;have:=(vW (ss:=ss) ks 0 k h1).1;unfold bX;omega
    have:(aV v:Int)<=bX ss (gF x):=by
     unfold gF;by_cases h4:x.kind=4
     ·rw[Q3 h4] at hv;rw[Qz om];exact key _ (fun k hk=>Rz hk) hv
     ·rw[Qz h4] at hv;by_cases h2:x.kind=2
      ·rw[Q3 h2];exact key _ (fun k hk=>hk) hv
      ·omega
    unfold g5;rw[Qz h0,Qz h1,Qz h3];omega
theorem EY{bs:List fK}{b:fK}{k:Int}(hk:0<=k):(k<bs.length->cD (bs++[b]) k=cD bs k)/\(k=bs.length->cD (bs++[b]) k=b):=by
 unfold cD;constructor
 ·intro h;rw[Qx,Qx,RN om]
 ·intro h;rw[Qx,RR om,show k.toNat-bs.length=0 by omega];rfl
theorem LZ{bs:List Int}{b:Int}{k:Int}(hk:0<=k):(k<bs.length->dY (bs++[b]) k=dY bs k)/\(k=bs.length->dY (bs++[b]) k=b):=by
 unfold dY;constructor
 ·intro h;rw[Qx,Qx,RN om]
 ·intro h;rw[Qx,RR om,show k.toNat-bs.length=0 by omega];rfl
theorem GX(ns:List Nd)(hg:∀(j:Nat) (x:Nd),ns[j]? = some x->f9 j x):∀(k:Int),0<=k->k<ns.length->∀v∈(cD (aH ns) k).vals,(aV v:Int)<=dY (bO ns) k:=by
 refine eR (P:=fun ns=>(∀(j:Nat) (x:Nd),ns[j]? = some x->f9 j x)->∀(k:Int),0<=k->k<ns.length->∀v∈(cD (aH ns) k).vals,(aV v:Int)<=dY (bO ns) k) (fun _ k h1 h2=>by simp at h2;omega) (fun l x ih hg k hk0 hk v hv=>?_) ns hg;have hgl:∀(j:Nat) (y:Nd),l[j]? = some y->f9 j y:=fun j y hy=>hg j y (by
  have:=(Qv.1 hy).1;rw[RN this];exact hy)
 have ih:=ih hgl;have hx:=hg l.length x (by simp);rw[eX] at hv;rw[gV];have e1:=EY (bs:=aH l) (b:=cE x (aH l)) hk0;have e2:=LZ (bs:=bO l) (b:=g5 (bO l) x) hk0;rw[cN] at e1;rw[gI] at e2;rcases(show k<l.length∨k=l.length by simp at hk;omega) with h|h
 ·rw[e1.1 h] at hv;rw[e2.1 h];exact ih k hk0 h v hv
 ·rw[e1.2 h] at hv;rw[e2.2 h];refine F3 hx.kind (fun q hq u hu=>?_) v hv;obtain⟨j,hj⟩:=RQ hq;obtain⟨q0,q1⟩:=hx.kids j q hj;exact ih q q0 q1 u hu
theorem FF(ns:List Nd)(ho:∀x∈ns,pL x)(h:bI [] ns=0)(k:Int)(h0:0<=k)(h1:k<ns.length):∀v∈(cD (aH ns) k).vals,aV v<=1024:=by
 intro v hv;have a:=GX ns (g8 ns ho h) k h0 h1 v hv;have b:=(i8 (M:=1024) om (kY ns h).2 k).2;omega
theorem g9.ok{ns:List Nd}(h:g9 ns):∀x∈ns,pL x:=fun x hx=>(h.gen x hx).ok
theorem g9.good{ns:List Nd}(h:g9 ns):∀(j:Nat) (x:Nd),ns[j]? = some x->f9 j x:=g8 ns h.ok h.valid
theorem g9.snoc{ns:List Nd}{x:Nd}(h:g9 ns)(hl:ns.length<=1000)(hx:Kn x)(hv:cL (ns++[x])=0):g9 (ns++[x]):=by
 unfold cL at hv;rw[Qz (by simp;omega)] at hv;refine⟨hv,fun y hy=>?_⟩;rcases Q9.1 hy with hy|hy
 ·exact h.gen y hy
 ·simp at hy;rw[hy];exact hx
theorem g9.leaf{ns:List Nd}(h:g9 ns){m:Int}(hm:i64 m):g9 (ns++[⟨0,[],0,0,[],[],[],[],.mk 0 m [] []⟩]):=by
 refine⟨?_,fun y hy=>?_⟩
 ·rw[dL [] ns _ h.valid];exact Fw _ _ _ _
 ·rcases Q9.1 hy with hy|hy
  ·exact h.gen y hy
  ·simp at hy;rw[hy];have h0:i64 0:=⟨om,om⟩
   exact j9 h0 (by simp) h0 h0 (by simp) (by simp) (by simp) (by simp) (by simp) (by simp) (by simp) (by simp) (gG h0 hm) (by simp[aV,bT])
def HZ(σ:List (Nat × Nat))(ns nx n':Nat):List (Nat × Nat)->Bool
 | []=>true
 | (i,id)::r=>(match Nat.blt i ns with
   | true=>match lk σ id with
    | some j=>Nat.beq j i
    | none=>false
   | false=>Nat.ble nx id && Nat.blt id n') && HZ σ ns nx n' r
def Cy(ids:List Nat)(nx:Nat):aN->Bool
 | []=>true
 | (k,_)::r=>(match Nat.ble nx k with
   | true=>true
   | false=>BZ k ids) && Cy ids nx r
theorem xT{σ:List (Nat × Nat)}{ns nx n':Nat}:∀{τ:List (Nat × Nat)},HZ σ ns nx n' τ=true->∀p∈τ,(p.1<ns/\lk σ p.2=some p.1)∨(ns<=p.1/\nx<=p.2/\p.2<n')
 | [],_,p,hp=>by cases hp
 | (i,id)::r,h,p,hp=>by
  simp only[HZ,Qt] at h;rcases Qw.1 hp with rfl|hp
  ·have h1:=h.1;split at h1
   ·rename_i hb;split at h1
    ·rename_i j hj;exact .inl ⟨Qu hb,by rw[hj,Nat.eq_of_beq_eq_true h1]⟩
    ·cases h1
   ·rename_i hb;simp only[Qt] at h1;refine .inr ⟨?_,Qu h1.1,Qu h1.2⟩;rcases Q6 i ns with hl|hl
    ·have e:Nat.blt i ns=true:=Qy hl;rw[e] at hb;cases hb
    ·exact hl
  ·exact xT h.2 p hp
theorem u4:∀{m:aN} {ids:List Nat} {nx:Nat},Cy ids nx m=true->∀p∈m,nx<=p.1∨BZ p.1 ids=true
 | [],ids,nx,_,p,hp=>by cases hp
 | (k,b)::r,ids,nx,h,p,hp=>by
  simp only[Cy,Qt] at h;rcases Qw.1 hp with rfl|hp
  ·have h1:=h.1;split at h1
   ·rename_i hb;exact .inl (Qu hb)
   ·exact .inr h1
  ·exact u4 h.2 p hp
theorem aF.useN{P:Program}{Γ:List (Nat × AV)}{F:FuncId}{args args':List AV}{ms mem m1:aN}{ns nx:Nat}{Qs K:AV->aN->Nat->Prop}(hΓ:∀p∈Γ,NN p.2)(σ:List (Nat × Nat))(h:aF P Γ F args' ms ns Qs)
  (hp:mS (qR σ) mem=m1) (hargs:lL m1 σ args args') (hM:cP m1 σ ms) (hc:(t8 ms && (uG σ && AW ns σ))=true)
  (hk:∀r m n,Qs r m n->∃τ r' m' n',Cv m τ r r'/\cP m τ m'/\(t8 m' && (uG τ && (Nat.ble nx n' && (Cy (qR σ) nx m' && HZ σ ns nx n' τ))))=true/\K r' (m'++jM (qR σ) mem) n'):aF P Γ F args mem nx K:=by
 simp only[Qt] at hc;obtain⟨hc1,hc2,hc4⟩:=hc;refine⟨fun X D ρ w vs hD hm hv=>?_⟩;refine(aF.use (K:=K) (nx:=nx) hΓ h σ (m1:=m1) (rest:=jM (qR σ) mem) ⟨fun p hp'=>?_,fun p hp'=>(cM.1 hp').1,fun p hp'=>?_,fun p h1 q h2=>?_, ?_⟩ ?_ hargs hM.cvm (dR hc1) (kP hc2) (fun id i hl=>j8 hc4 _ (a6 hl)) ?_).run X D ρ w vs hD hm hv
 ·rw[←hp] at hp';exact(dE.1 hp').1
 ·cases hi:BZ p.1 (qR σ) with
  | true=>left;rw[←hp];exact dE.2 ⟨hp',hi⟩
  | false=>right;exact cM.2 ⟨hp',hi⟩
 ·rw[←hp] at h1;have a:=(dE.1 h1).2;have b:=(cM.1 h2).2;intro e;rw[e,b] at a;cases a
 ·rw[←hp];exact hm.nod.sublist ((kO mem).map _)
 ·exact hm.nod.sublist ((kJ mem).map _)
 ·intro r m n hq hn;obtain⟨τ,r',m',n',h1,h2,h3,h4⟩:=hk r m n hq;simp only[Qt] at h3;refine⟨τ,r',m',n',Qu h3.2.2.1,h1,h2.cvm,dR h3.1,kP h3.2.1,fun i id hl=>xT h3.2.2.2.2 _ (a6 hl),fun p h5 q h6=>?_,h4⟩;have b:=(cM.1 h6).2;rcases u4 h3.2.2.2.1 p h5 with a|a
  ·have:=hD _ (hm.low q (cM.1 h6).1);omega
  ·intro e;rw[e,b] at a;cases a
theorem aF.ph{P:Program}{Γ:List (Nat × AV)}{F:FuncId}{args:List AV}{mem:aN}{nx:Nat}{K:AV->aN->Nat->Prop}(t:TypeId)(sz:Nat)(h:aF P Γ F args ((nx,.row t sz [])::mem) (nx+1) K):aF P Γ F args mem nx K:=by
 refine⟨fun X D ρ w vs hD hm hv=>?_⟩;obtain⟨m1,v1,e1⟩:=hm.phantom (n:=nx) (D':=dn D nx (nx+1)) (fun h'=>SQ _ (hD _ h')) (fun i hi=>.inl hi) (.inr ⟨Q5 _,R5 _⟩) t sz;refine(h.run X _ _ w vs (fun i hi=>?_) m1 ⟨hv.1,fun j c x hc hx=>v1 _ _ (hv.2 j c x hc hx)⟩).mono ?_
 ·rcases hi with hi|hi
  ·have:=hD i hi;omega
  ·exact hi.2
 ·rintro e w' ⟨r,v,m,n,ρ',rfl,hk,hn,hm',hr,ext⟩;have ed:dn (dn D nx (nx+1)) (nx+1) n=dn D nx n:=by
   funext i
   apply propext;constructor
   ·rintro((hi|⟨h1,h2⟩)|⟨h1,h2⟩)
    ·exact .inl hi
    ·exact .inr ⟨h1,om⟩
    ·exact .inr ⟨om,h2⟩
   ·rintro(hi|⟨h1,h2⟩)
    ·exact .inl (.inl hi)
    ·rcases Q6 i (nx+1) with h3|h3
     ·exact .inl (.inr ⟨h1,h3⟩)
     ·exact .inr ⟨h3,h2⟩
  rw[ed] at hm' hr ext;refine⟨r,v,m,n,ρ',rfl,hk,om,hm',hr, ?_⟩;have e2:=e1 D fun i hi=>hi
  exact e2.trans ⟨fun i hi=>ext.le i (.inl hi),fun i hi=>ext.agree i (.inl hi),ext.size,ext.keep,ext.fresh,ext.env⟩
end Go.Ax
namespace Go.Ax
open Go
section
variable {P:Program} {Γ:List (Nat × AV)} {B:Nat}
theorem Ke{b:Bool}{c1 c2:Code}{s1 s2:St}{i:Nat}{y:Code}{Q:Exit->St->Prop}{α:Type}(hΓ:∀p∈Γ,NN p.2)(R:α->Prop)(J:α->St)
  (h1:∀Qr:Exit->St->Prop,(∀(a:α) (s:St) (σ:List (Nat × Nat)),R a->Conv B σ s (J a)->Qr .normal s)->Jc b (dO P Γ B c1 s1 (AU i Qr)) (dO P Γ B c2 s2 (AU i Qr)))
  (h2:∀a,R a->dO P Γ B y (J a) Q):Jc b (dO P Γ B c1 s1 (AU i (Ig P Γ B y Q))) (dO P Γ B c2 s2 (AU i (Ig P Γ B y Q))):=by
 have h:=h1 (fun e s=>match e with
  | .normal=>∃a σ,R a/\Conv B σ s (J a)
  | e=>Q e s) (fun a s σ hr hc=>⟨a,σ,hr,hc⟩)
 have key:∀(e:Exit) (s:St),AU i (fun e s=>match e with
  | .normal=>∃a σ,R a/\Conv B σ s (J a)
  | e=>Q e s) e s->AU i (Ig P Γ B y Q) e s:=by
  intro e s hq;have norm:(∃a σ,R a/\Conv B σ s (J a))->dO P Γ B y s Q:=fun⟨a,σ,hr,hc⟩=>dO.conv hΓ hc (h2 a hr)
  cases e with
  | normal=>exact norm hq
  | exit j=>
   simp only[AU] at hq ⊢;split at hq
   ·exact norm hq
   ·exact hq
  | goto l=>exact hq
  | ret=>exact hq
  | panic c=>exact hq
  | outgrown=>exact hq
 cases b with
 | true=>exact dO.mono (show dO P Γ B c1 s1 _ from h) key
 | false=>exact dO.mono (show dO P Γ B c2 s2 _ from h) key
end
end Go.Ax
