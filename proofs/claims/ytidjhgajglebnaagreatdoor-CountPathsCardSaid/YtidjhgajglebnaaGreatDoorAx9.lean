/- A part of the proof. -/
import Derived.Test.YtidjhgajglebnaaGreatDoorAx8
import Derived.Below
import Derived.Lib.ConvBytes
import Derived.Lib.ItoaMem
import Derived.ChangeMaps5
import Derived.Lib.LaidTab
import Derived.Lib.ItoaNum
import Derived.Lib.AtoiAllCases
set_option linter.unusedVariables false
set_option linter.unusedSimpArgs false
namespace Go.Ax
open Go
theorem nn {v:AV} (h:NN v:=by
  repeat' first
   | assumption
   | exact NN.int _ _
   | exact NN.bool _
   | exact NN.str _
   | exact NN.nsl
   | exact NN.nptr
   | exact NN.nif
   | exact NN.nfn
   | exact NN.nmap
   | exact NN.junk
   | exact dC _
   | exact bI _
   | exact bE _
   | exact kI.nil
   | refine kI.cons ?_ ?_
   | refine NN.agg' ?_
   | refine NN.tup' ?_
   | refine NN.il' ?_
   | refine NN.ip' ?_
   | refine NN.ifc _ _ ?_
   | exact NN.fn _ _ _ (by simp) (by simp)):NN v:=h
theorem dI {l:List AV} (h:kI l:=by
  repeat' first
   | assumption
   | exact NN.int _ _
   | exact NN.bool _
   | exact NN.str _
   | exact NN.nsl
   | exact NN.nptr
   | exact NN.nif
   | exact NN.nfn
   | exact NN.nmap
   | exact NN.junk
   | exact dC _
   | exact bI _
   | exact bE _
   | exact kI.nil
   | refine kI.cons ?_ ?_
   | refine NN.agg' ?_
   | refine NN.tup' ?_
   | refine NN.il' ?_
   | refine NN.ip' ?_
   | refine NN.ifc _ _ ?_
   | exact NN.fn _ _ _ (by simp) (by simp)):kI l:=h
section
variable {P:Program} {Γ:List (Nat × AV)} {F:FuncId} {args:List AV} {r:AV} {mem:aQ} {nx:Nat} {K:AV->aQ->Nat->Prop}
theorem aT.go(h:aT P [] F args r)(hk:K r mem nx)(ha:kI args:=by exact dI)(hr:NN r:=by exact nn):aF P [] F args mem nx K:=h.use bD ha hr hk
theorem aF.go0{Qs:AV->aQ->Nat->Prop}(h:aF P [] F args [] 0 Qs)(hk:∀r m n,Qs r m n->∃r',Cv m [] r r'/\K r' mem nx)(ha:kI args:=by exact dI):aF P [] F args mem nx K:=
 aF.call0 bD h ha hk
end
theorem aF.glob{P:Program}{Γ:List (Nat × AV)}{F:FuncId}{args:List AV}{mem:aQ}{nx:Nat}{Q:AV->aQ->Nat->Prop}(h:aF P [] F args mem nx Q):aF P Γ F args mem nx Q:=by
 refine⟨fun X D ρ w vs hD hm hv=>?_⟩;refine(h.run X D ρ w vs hD ⟨hm.low,hm.blk,hm.emp,hm.inj,hm.nod,hm.bar,(fun p hp=>by cases hp)⟩ hv).mono ?_;rintro e w' ⟨r,v,m,n,ρ',h1,h2,h3,h4,h5,h6⟩;exact⟨r,v,m,n,ρ',h1,h2,h3,⟨h4.low,h4.blk,h4.emp,h4.inj,h4.nod,h4.bar,fun p hp=>h6.vr (hm.glo p hp)⟩,h5,h6⟩
def Lu:List (Nat × Nat)->Bool
 | []=>true
 | (i,j)::r=>Nat.beq i j && Lu r
theorem CH:∀{σ:List (Nat × Nat)},Lu σ=true->∀p∈σ,p.1=p.2
 | [],h,p,hp=>by cases hp
 | (i,j)::r,h,p,hp=>by
  simp only[Lu,Yk] at h;rcases Yr.1 hp with rfl|hp
  ·exact Nat.eq_of_beq_eq_true h.1
  ·exact CH h.2 p hp
theorem aF.pre{P:Program}{Γ:List (Nat × AV)}{F:FuncId}{args args':List AV}{mem mem':aQ}{nx:Nat}{K:AV->aQ->Nat->Prop}(hΓ:∀p∈Γ,NN p.2)(σ:List (Nat × Nat))(hid:(Lu σ && oD mem')=true)
  (hM:dV mem σ mem') (hargs:iB mem σ args args') (h:aF P Γ F args' mem' nx K):aF P Γ F args mem nx K:=by
 simp only[Yk] at hid;have hid1:=CH hid.1;have hnod:=fY hid.2;refine⟨fun X D ρ w vs hD hm hv=>?_⟩;have hσ:∀id id',lk σ id=some id'->D id->D id'/\ρ id'=ρ id:=by
  intro id id' h hd;have:=hid1 _ (bV h);simp only at this;subst this;exact⟨hd,rfl⟩
 have hinj:RQ σ:=fun i j k h1 h2=>by
  have a:=hid1 _ (bV h1);have b:=hid1 _ (bV h2);simp only at a b;omega
 obtain⟨m1,v1,o1⟩:=hm.turn (D':=D) (ρ':=ρ) hΓ hσ hM.cvm hnod hinj;have hvs:kQ ρ D (OX X ρ mem') w args' vs:=⟨by rw[←hargs.1];exact hv.1,fun j c' x hc' hx=>by
   obtain⟨c,hc⟩:=dU hargs.1 hc';exact v1 c c' (hargs.2 j c c' hc hc') _ (hv.2 j c x hc hx)⟩
 refine(h.run X D ρ w vs hD m1 hvs).mono ?_;rintro e w' ⟨r,v,m,n,ρ',h1,h2,h3,h4,h5,h6⟩;refine⟨r,v,m,n,ρ',h1,h2,h3,h4,h5, ?_⟩;have e0:Ext D ρ mem w ρ D mem' w:=⟨fun i hi=>hi,fun _ _=>rfl,Yy _,fun _ _ _=>rfl,fun p hp hn=>.inl (o1 p hp hn),.refl _⟩
 exact e0.trans h6
theorem cO{l:List aR}{k:Nat}(h:k<l.length):∃a b c d,aR.mk a b c d∈l/\l[k]? = some (aR.mk a b c d)/\l[k]=aR.mk a b c d/\(aU l)[(k:Int).toNat]? = some (cN (aR.mk a b c d)):=by
 obtain⟨⟨a,b,c,d⟩,hv⟩:∃v,v=l[k]:=⟨_,rfl⟩
 have e:=Hc h;rw[←hv] at e;exact⟨a,b,c,d,by rw[hv];exact Y8 h,by rw[hv];exact Yj h,hv.symm,e⟩
section
variable {mem:aQ} {σ:List (Nat × Nat)}
theorem Cv.int{k:IntKind}{a b:Int}(h:a=b):Cv mem σ (.int k a) (.int k b):=by rw[h];exact .same _ (.int _ _)
theorem Cv.w64{x y:Int}(h:x=y)(hb:i64 y):Cv mem σ (.int .i64 (IntKind.i64.wrap x)) (.int .i64 y):=by rw[h,bA hb];exact .same _ (.int _ _)
theorem Cv.wo{x y:Int}(h:x=y:=by omega)(h1 : -9223372036854775808<=y:=by omega)(h2:y<=9223372036854775807:=by omega):Cv mem σ (.int .i64 (IntKind.i64.wrap x)) (.int .i64 y):=.w64 h ⟨h1,h2⟩
theorem Cv.wp{x y:Int}(h:x=y:=by simp only;omega)(h1 : -9223372036854775808<=y:=by simp only;omega)(h2:y<=9223372036854775807:=by simp only;omega):Cv mem σ (.int .i64 (IntKind.i64.wrap x)) (.int .i64 y):=.w64 h ⟨h1,h2⟩
theorem aK{sl:List (Nat × AV)}{i:Nat}{v:AV}(h:lk sl i=some v:=by rfl)(hn:NN v:=by exact nn):∃w,lk sl i=some w/\Cv mem σ w v:=⟨v,h,.same v hn⟩
theorem iB.s{v:AV}{as bs:List AV}(hs:iB mem σ as bs)(hn:NN v:=by exact nn):iB mem σ (v::as) (v::bs):=.cons (.same v hn) hs
theorem bO{α:Type}{a:α}{q:Prop}(h:q):a=a/\q:=⟨rfl,h⟩
theorem aG{sl:List (Nat × AV)}{i id id' x y:Nat}(h:lk sl i=some (.ptr id x y):=by rfl)(h2:lk σ id=some id':=by rfl):∃w,lk sl i=some w/\Cv mem σ w (.ptr id' x y):=⟨_,h,.ptr id id' x y h2⟩
theorem aN{sl:List (Nat × AV)}{i:Nat}{v:AV}(hn:NN v)(h:lk sl i=some v:=by rfl):∃w,lk sl i=some w/\Cv mem σ w v:=⟨v,h,.same v hn⟩
theorem aL{t:TypeId}{sz p:Nat}{ys:List AV}(id:Nat)(hn:kI ys)(h1:lk σ id=some p:=by rfl)(h2:lk mem id=some (.row t sz ys):=by rfl):∃id xs,lk σ id=some p/\lk mem id=some (.row t sz xs)/\tL mem σ xs ys:=⟨id,ys,h1,h2,.same hn⟩
theorem Rs{p q:Prop}(x:q)(e:q->p:=by(intro x;(repeat((first|refine b9.2 ?_|refine bO ?_);((conv=>whnf);(repeat(refine Xg ?_;conv=>whnf)))));exact x)):p:=e x
theorem Rt{p q:Prop}(x:q)(e:q->p:=by(intro x;(conv=>whnf);(repeat(refine Xg ?_;conv=>whnf));(repeat((first|refine b9.2 ?_|refine bO ?_);((conv=>whnf);(repeat(refine Xg ?_;conv=>whnf)))));exact x)):p:=e x
theorem Cv.bool{a b:Bool}(h:a=b):Cv mem σ (.bool a) (.bool b):=by rw[h];exact .same _ (.bool _)
theorem I4(k n:Int)(s:List UInt8):C7 mem σ (.agg [.int .i64 k,.int .i64 n,.str s,.nsl]) (cN (.mk k n s [])):=
 .agg (.cons (.same _ (.int _ _)) (.cons (.same _ (.int _ _)) (.cons (.same _ (.str _)) (.cons (.nil 4) .nil))))
end
theorem i5(l:List aR)(v:aR):aU (l++[v])=aU l++[cN v]:=by simp[jD]
theorem w64{x y:Int}(h:x=y)(hb:i64 y):IntKind.i64.wrap x=y:=by rw[h,bA hb]
theorem Jw{l:List aR}{k:Nat}(h:decide ((k:Int)<((aU l).length:Nat))=true):k<l.length:=by rw[aC] at h;simpa using h
theorem JJ{l:List aR}{k:Nat}(h:decide ((k:Int)<((aU l).length:Nat))=false):l.length<=k:=by rw[aC] at h;simpa using h
theorem Cv.fzR{mem:aQ}{σ:List (Nat × Nat)}{id len:Nat}{t:TypeId}{sz:Nat}{xs ys:List AV}(h1:lk mem id=some (.row t sz xs))(h2:lk σ id=none)(h3:tL mem σ xs ys)(h4:ys.length=len):Cv mem σ (.sl id 0 len) (.il sz ys):=
 .fz id 0 len t sz xs ys h1 h2 (by have:=h3.1;omega) h4 (fun i x y hx hy=>(h3.2 i x y (by simpa using hx) hy).1) (fun i x y j c c' hx hy hc hc'=>(h3.2 i x y (by simpa using hx) hy).2 j c c' hc hc')
section
variable {P:Program} {Γ:List (Nat × AV)} {F:FuncId} {args:List AV} {r:AV} {mem:aQ} {nx:Nat} {K:AV->aQ->Nat->Prop}
theorem aT.goG(h:aT P [] F args r)(hk:K r mem nx)(ha:kI args:=by exact dI)(hr:NN r:=by exact nn):aF P Γ F args mem nx K:=(h.use bD ha hr hk).glob
theorem aF.goG0{Qs:AV->aQ->Nat->Prop}(h:aF P [] F args [] 0 Qs)(hk:∀r m n,Qs r m n->∃r',Cv m [] r r'/\K r' mem nx)(ha:kI args:=by exact dI):aF P Γ F args mem nx K:=
 (aF.call0 bD h ha hk).glob
end
theorem S0{l:List aR}{k n:Nat}(h:k<l.length)(hn:l.length=n):∃a b c d,aR.mk a b c d∈l/\l[k]? = some (aR.mk a b c d)/\l[k]=aR.mk a b c d/\(aU l)[0+(k:Int).toNat]? = some (cN (aR.mk a b c d))/\Nat.blt (k:Int).toNat n=true:=by
 obtain⟨a,b,c,d,h1,h2,h3,h4⟩:=cO h;exact⟨a,b,c,d,h1,h2,h3,by rw[ZD];exact h4,Yp (by simp;omega)⟩
end Go.Ax
namespace Go.Ax
open Go
section
variable {P:Program} {Γ:List (Nat × AV)} {B:Nat}
structure aZ(P:Program)(Γ:List (Nat × AV))(B:Nat)(c:Code)(s:St)(Q:Exit->St->Prop):Prop where
 run:fR P Γ B (.loop c) s Q
def ON(P:Program)(Γ:List (Nat × AV))(B:Nat)(y:Code)(Q:Exit->St->Prop)(e:Exit)(s:St):Prop:=
 match e with
 | .normal=>fR P Γ B y s Q
 | e=>Q e s
def DL(id:Nat)(Q:Exit->St->Prop)(e:Exit)(s:St):Prop:=
 match e with
 | .exit i=>match Nat.beq i id with
  | true=>Q .normal s
  | false=>Q (.exit i) s
 | e=>Q e s
theorem C5{ops:List Oper}{K:St->Prop}{Kp:Value->St->Prop}:∀{l:List Oper} {s:St},yD P Γ (Ks P Γ B) ops l s K (fun _ _=>False)->yD P Γ (Ks P Γ B) ops l s K Kp
 | [],s,h=>h
 | o::r,s,h=>by
  simp only[yD] at h ⊢;split
  ·rename_i h1;simp only[h1] at h
  ·rename_i h1;simp only[h1] at h;split
   ·rename_i h2;simp only[h2] at h;exact C5 h
   ·rename_i h2;simp only[h2] at h
  ·rename_i h1;simp only[h1] at h;split
   ·rename_i h2;simp only[h2] at h;split
    ·rename_i h3;simp only[h3] at h;exact C5 h
    ·rename_i h3;simp only[h3] at h
   ·rename_i h2;simp only[h2] at h;split
    ·rename_i h3;simp only[h3] at h;refine aF.mono h fun v m n h=>?_
     split
     ·rename_i h4;simp only[h4] at h;exact C5 h
     ·rename_i h4;simp only[h4] at h
    ·rename_i h3;simp only[h3] at h;split at h<;>exact h.elim
theorem xB{ops:List Oper}{tr:List (List Nat)}{base:Nat}{K:St->Prop}{Kp:Value->aQ->Nat->Prop}:∀{l:List Nat} {recs:List C9} {s:St},rH P Γ (Ks P Γ B) ops tr base K (fun _ _ _=>False) l recs s->rH P Γ (Ks P Γ B) ops tr base K Kp l recs s
 | [],recs,s,h=>h
 | i::r,recs,s,h=>by
  simp only[rH] at h ⊢;split
  ·rename_i h1;simp only[h1] at h
  ·rename_i o h1;simp only[h1] at h;split
   ·rename_i h2;simp only[h2] at h
   ·rename_i h2;simp only[h2] at h;split
    ·rename_i h3;simp only[h3] at h;exact xB h
    ·rename_i h3;simp only[h3] at h
   ·rename_i h2;simp only[h2] at h;split
    ·rename_i hk;simp only[hk] at h;split
     ·rename_i h3;simp only[h3] at h;split
      ·rename_i h4;simp only[h4] at h;exact xB h
      ·rename_i h4;simp only[h4] at h
     ·rename_i h3;simp only[h3] at h
    ·rename_i hk;simp only[hk] at h;split
     ·rename_i h3;simp only[h3] at h;split
      ·rename_i h4;simp only[h4] at h;exact xB h
      ·rename_i h4;simp only[h4] at h
     ·rename_i h3;split at h
      ·rename_i h4;exact(h3 _ _ _ _ h4).elim
      ·exact h
    ·rename_i hk;simp only[hk] at h;split
     ·rename_i h3;simp only[h3] at h;split
      ·rename_i h4;simp only[h4] at h;exact⟨h.1,xB h.2⟩
      ·rename_i h4;simp only[h4] at h
     ·rename_i h3;simp only[h3] at h;split
      ·rename_i h4;simp only[h4] at h;refine aF.mono h fun v m n h=>?_
       split
       ·rename_i h5;simp only[h5] at h;exact⟨h.1,xB h.2⟩
       ·rename_i h5;simp only[h5] at h
      ·rename_i h4;simp only[h4] at h
structure nM(P:Program)(Γ:List (Nat × AV))(B:Nat)(ops l:List Oper)(s:St)(K:St->Prop):Prop where
 run:yD P Γ (Ks P Γ B) ops l s K fun _ _=>False
def Ya(P:Program)(Γ:List (Nat × AV))(B:Nat)(ops l:List Oper)(s:St)(K:St->Prop):Prop:=
 match l with
 | []=>K s
 | o::r=>Fg s fun sl mem nx nt=>wY ops sl o.guard
   (G9 false P Γ (Ks P Γ B) sl mem nx o.op (fun v mem nx=>o9 s o.dst v mem nx fun s'=>nM P Γ B ops r s' K) fun _ _ _=>False)
   (o9 s o.dst (.tup []) mem nx fun s'=>nM P Γ B ops r s' K)
theorem nM.go{ops l:List Oper}{s:St}{K:St->Prop}(h:Ya P Γ B ops l s K):nM P Γ B ops l s K:=by
 refine⟨?_⟩;cases l with
 | nil=>exact h
 | cons o r=>
  have h:wY ops s.sl o.guard (G9 false P Γ (Ks P Γ B) s.sl s.mem s.nx o.op (fun v mem nx=>o9 s o.dst v mem nx fun s'=>nM P Γ B ops r s' K) fun _ _ _=>False) (o9 s o.dst (.tup []) s.mem s.nx fun s'=>nM P Γ B ops r s' K):=h;simp only[yD];rcases x7 h with⟨h1,h⟩|⟨h1,h⟩
  ·simp only[h1];rcases Ex h with⟨v,m,n,h2,h⟩|⟨h2,F,l,h3,h⟩
   ·obtain⟨s',h4,h⟩:=f9 h;simp only[h2,h4];exact h.run
   ·simp only[h2,h3];refine(show aF P Γ F l s.mem s.nx _ from h).mono fun v m n h=>?_
    obtain⟨s',h4,h⟩:=f9 h;simp only[h4];exact h.run
  ·obtain⟨s',h4,h⟩:=f9 h;simp only[h1,h4];exact h.run
structure Oi(P:Program)(Γ:List (Nat × AV))(B:Nat)(ops:List Oper)(tr:List (List Nat))(base:Nat)(K:St->Prop)(l:List Nat)(recs:List C9)(s:St):Prop where
 run:rH P Γ (Ks P Γ B) ops tr base K (fun _ _ _=>False) l recs s
def YE(P:Program)(Γ:List (Nat × AV))(B:Nat)(ops:List Oper)(tr:List (List Nat))(base:Nat)(K:St->Prop)(l:List Nat)(recs:List C9)(s:St):Prop:=
 match l with
 | []=>K s
 | i::r=>match ops[i]? with
  | none=>False
  | some o=>Fg s fun sl mem nx nt=>wY ops sl o.guard
   (match kind P o.op with
    | .pure=>match still o.op with
     | true=>wL false P Γ sl [] nx o.op fun v _ _=>o9 s o.dst v mem nx fun s'=>Oi P Γ B ops tr base K r (⟨i,sl,true,v⟩::recs) s'
     | false=>jN (fun p=>Lb tr base ops.length i p.1) mem fun m=>wL false P Γ sl m nx o.op fun v _ _=>o9 s o.dst v mem nx fun s'=>Oi P Γ B ops tr base K r (⟨i,sl,true,v⟩::recs) s'
    | .al=>rK (base+i) fun id=>wL false P Γ sl [] id o.op fun v m _=>match m with
     | [(_,b)]=>o9 s o.dst v ((id,b)::mem) nx fun s'=>Oi P Γ B ops tr base K r (⟨i,sl,true,v⟩::recs) s'
     | _=>False
    | .eff=>jN (fun p=>Lb tr base ops.length i p.1) mem fun m=>G9 false P Γ (Ks P Γ B) sl m nx o.op (fun v m nx'=>jN (fun p=>!Lb tr base ops.length i p.1) mem fun rest=>jN (fun p=>!wK p.1 m) rest fun rest=>Di m rest fun m=>
      o9 s o.dst v m nx' fun s'=>yC false P Γ ops tr base i m nx' recs (Oi P Γ B ops tr base K r recs s')) fun _ _ _=>False)
   (o9 s o.dst (.tup []) mem nx fun s'=>Oi P Γ B ops tr base K r (⟨i,sl,false,.tup []⟩::recs) s')
theorem Oi.go{ops:List Oper}{tr:List (List Nat)}{base:Nat}{K:St->Prop}{l:List Nat}{recs:List C9}{s:St}(h:YE P Γ B ops tr base K l recs s):Oi P Γ B ops tr base K l recs s:=by
 refine⟨?_⟩;cases l with
 | nil=>exact h
 | cons i r=>
  simp only[YE] at h;simp only[rH];split at h
  ·exact h.elim
  ·rename_i o ho;simp only[ho];have h:=pF.1 h;rcases x7 h with⟨h1,h⟩|⟨h1,h⟩
   ·simp only[h1];split at h
    ·rename_i hkd;simp only[hkd];split at h
     ·rename_i hst;obtain⟨v,m,n,h2,h⟩:=pG (s:={ sl:=s.sl,mem:=[],nx:=s.nx,nt:=s.nt }) h;obtain⟨m',n',h2'⟩:=v8 (s:={ sl:=s.sl,mem:=[],nx:=s.nx,nt:=s.nt }) (s':={ s with mem:=k6 tr base ops.length i s.mem }) hst rfl h2;obtain⟨s',h3,h⟩:=f9 h;simp only[h2',h3];exact h.run
     ·have h:=dK.1 h;obtain⟨v,m,n,h2,h⟩:=pG (s:={ s with mem:=k6 tr base ops.length i s.mem }) h;obtain⟨s',h3,h⟩:=f9 h;simp only[h2,h3];exact h.run
    ·rename_i hkd;simp only[hkd];have h:=eJ.1 h;obtain⟨v,m,n,h2,h⟩:=pG (s:={ s with mem:=[],nx:=base+i }) h;simp only[h2];split at h
     ·obtain⟨s',h3,h⟩:=f9 h;simp only[h3];exact h.run
     ·exact h.elim
    ·rename_i hkd;simp only[hkd];have h:=dK.1 h;rcases Ex (s:={ s with mem:=k6 tr base ops.length i s.mem }) h with⟨v,m,n,h2,h⟩|⟨h2,F,l,h3,h⟩
     ·simp only[h2];have h:=iN.1 (dK.1 (dK.1 h));obtain⟨s',h3,h⟩:=f9 h;have h3:fH s o.dst v (m++wS m (iM tr base ops.length i s.mem)) n=some s':=h3;simp only[h3];obtain⟨e1,e2,_⟩:=i8 h3;have h:yC false P Γ ops tr base i (m++wS m (iM tr base ops.length i s.mem)) n recs (Oi P Γ B ops tr base K r recs s'):=h;rw[←e1,←e2] at h;obtain⟨h4,h⟩:=rL h;exact⟨h4,h.run⟩
     ·rw[vK (s':=s) (fun x _=>by cases x<;>rfl)] at h3;simp only[h2,h3];refine(show aF P Γ F l _ _ _ from h).mono fun v m n h=>?_
      have h:=iN.1 (dK.1 (dK.1 h));obtain⟨s',h3,h⟩:=f9 h;have h3:fH s o.dst v (m++wS m (iM tr base ops.length i s.mem)) n=some s':=h3;simp only[h3];obtain⟨e1,e2,_⟩:=i8 h3;have h:yC false P Γ ops tr base i (m++wS m (iM tr base ops.length i s.mem)) n recs (Oi P Γ B ops tr base K r recs s'):=h;rw[←e1,←e2] at h;obtain⟨h4,h⟩:=rL h;exact⟨h4,h.run⟩
   ·obtain⟨s',h3,h⟩:=f9 h;simp only[h1,h3];exact h.run
def Vj(P:Program)(Γ:List (Nat × AV))(B:Nat)(ops:List Oper)(s:St)(Q:Exit->St->Prop):Prop:=
 match P.follows .mixedOrders with
 | true=>match Ev P ops (AJ P ops ops.length [] (Bn ops.length)) with
  | true=>Fg s fun sl mem nx nt=>rK (nx+ops.length) fun n=>B4 (AJ P ops ops.length [] (Bn ops.length)) fun ord=>Oi P Γ B ops (Mq ops []) nx (fun s'=>Q .normal s') ord [] ⟨sl,mem,n,nt⟩
  | false=>False
 | false=>False
def V8(Q:Exit->St->Prop)(e:Exit)(s:St):Prop:=
 match e with
 | .goto _=>False
 | e=>Q e s
def XZ(P:Program)(Γ:List (Nat × AV))(B:Nat)(c:Code)(s:St)(Q:Exit->St->Prop):Prop:=
 match c with
 | .skip=>Q .normal s
 | .seq x y=>fR P Γ B x s (ON P Γ B y Q)
 | .cond c x y=>Fg s fun sl _ _ _=>nU Γ sl c fun v=>match v with
  | .bool b=>RR b (fR P Γ B x s Q) (fR P Γ B y s Q)
  | _=>False
 | .block id c=>fR P Γ B c s (DL id Q)
 | .loop c=>aZ P Γ B c s Q
 | .label _=>Q .normal s
 | .scope c=>fR P Γ B c s (V8 Q)
 | .exit i=>Q (.exit i) s
 | .ret=>Q .ret s
 | .region _ ops draw=>match draw with
  | false=>nM P Γ B ops.toList ops.toList s fun s'=>Q .normal s'
  | true=>Vj P Γ B ops.toList s Q
 | .rangeFunc g ps ca cb=>BM false P Γ (Ks P Γ B) (.rangeFunc g ps ca cb) s Q
 | _=>False
theorem fR.go{c:Code}{s:St}{Q:Exit->St->Prop}(h:XZ P Γ B c s Q):fR P Γ B c s Q:=by
 cases c with
 | skip=>exact eB (cl:=false) sN .skip s Q h
 | exit i=>exact eB (cl:=false) sN (.exit i) s Q h
 | ret=>exact eB (cl:=false) sN .ret s Q h
 | loop c=>exact(show aZ P Γ B c s Q from h).run
 | label l=>exact eB (cl:=false) sN (.label l) s Q h
 | rangeFunc g ps ca cb=>exact eB (cl:=false) sN (.rangeFunc g ps ca cb) s Q h
 | scope c=>
  have h:fR P Γ B c s (V8 Q):=h;refine⟨fun rd X ds D ρ a w hD hs hB hr=>D8 (wpIn_mono (h.run rd X ds D ρ a w hD hs hB hr.scope) ?_)⟩;rintro e a' w' ⟨s',ρ',hq,hB',hs',hext⟩;cases e with
  | goto l=>exact(show False from hq).elim
  | normal=>exact⟨s',ρ',hq,hB',hs',hext⟩
  | exit i=>exact⟨s',ρ',hq,hB',hs',hext⟩
  | ret=>exact⟨s',ρ',hq,hB',hs',hext⟩
  | panic c=>exact⟨s',ρ',hq,hB',hs',hext⟩
  | outgrown=>exact⟨s',ρ',hq,hB',hs',hext⟩
 | seq x y=>
  have h:fR P Γ B x s (ON P Γ B y Q):=h;refine⟨fun rd X ds D ρ a w hD hs hB hr=>wpIn_seq (wpIn_mono (h.run rd X ds D ρ a w hD hs hB hr.seq1) ?_)⟩;rintro e a' w' ⟨s',ρ',hq,hB',hs',hext⟩;cases e with
  | normal=>
   refine wpIn_mono ((show fR P Γ B y s' Q from hq).run rd X ds D ρ' a' w' hD hs' hB' hr.seq2) ?_;rintro e a2 w2 ⟨s2,ρ2,h1,h2,h3,h4⟩;exact⟨s2,ρ2,h1,h2,h3,hext.trans h4⟩
  | exit i=>exact⟨s',ρ',hq,hB',hs',hext⟩
  | goto l=>exact⟨s',ρ',hq,hB',hs',hext⟩
  | ret=>exact⟨s',ρ',hq,hB',hs',hext⟩
  | panic c=>exact⟨s',ρ',hq,hB',hs',hext⟩
  | outgrown=>exact⟨s',ρ',hq,hB',hs',hext⟩
 | cond c x y=>
  have h:nU Γ s.sl c fun v=>match v with
   | .bool b=>RR b (fR P Γ B x s Q) (fR P Γ B y s Q)
   | _=>False:=h
  obtain⟨v,h1,h⟩:=cQ h;split at h
  ·rename_i b;refine⟨fun rd X ds D ρ a w hD hs hB hr=>?_⟩;have hv:=aY hs h1;generalize he:a.eval c=cv at hv;cases hv;cases b with
   | true=>exact wpIn_cond_true he ((show fR P Γ B x s Q from h).run rd X ds D ρ a w hD hs hB hr.cond1)
   | false=>exact wpIn_cond_false he ((show fR P Γ B y s Q from h).run rd X ds D ρ a w hD hs hB hr.cond2)
  ·exact h.elim
 | block id c=>
  have h:fR P Γ B c s (DL id Q):=h;refine⟨fun rd X ds D ρ a w hD hs hB hr=>wpIn_block (wpIn_mono (h.run rd X ds D ρ a w hD hs hB hr.block) ?_)⟩;rintro e a' w' ⟨s',ρ',hq,hB',hs',hext⟩;cases e with
  | exit i=>
   simp only[Exit.inBlock];simp only[DL] at hq;split at hq
   ·rename_i hi;rw[Yt (Nat.eq_of_beq_eq_true hi)];exact⟨s',ρ',hq,hB',hs',hext⟩
   ·rename_i hi;rw[Yo (Zu hi)];exact⟨s',ρ',hq,hB',hs',hext⟩
  | normal=>exact⟨s',ρ',hq,hB',hs',hext⟩
  | goto l=>exact⟨s',ρ',hq,hB',hs',hext⟩
  | ret=>exact⟨s',ρ',hq,hB',hs',hext⟩
  | panic c=>exact⟨s',ρ',hq,hB',hs',hext⟩
  | outgrown=>exact⟨s',ρ',hq,hB',hs',hext⟩
 | region id ops draw=>
  cases draw with
  | false=>exact Bf sN (.region id ops false) s Q (C5 (show nM P Γ B ops.toList ops.toList s _ from h).run)
  | true=>
   refine Bf sN (.region id ops true) s Q ?_;have h:Vj P Γ B ops.toList s Q:=h;unfold Vj at h;simp only[FF];split at h
   ·rename_i hmix;simp only[hmix];split at h
    ·rename_i hok;simp only[Jc,hok];exact xB (p5.1 (eJ.1 (pF.1 h))).run
    ·exact h.elim
   ·exact h.elim
 | _=>exact(show False from h).elim
theorem aD{F:FuncId}{fn:Func}{c:Code}{args:List AV}{mem:aQ}{nx:Nat}{Q:AV->aQ->Nat->Prop}(hΓ:∀p∈Γ,NN p.2)(hf:P.funcs[F]? = some fn)(hb:fn.body=some c)
  (h:wI fn.ntmps args mem nx fun s=>fR P Γ nx c s (RD P fn.results.toList (qE nx Q))) (hF:Nat.beq F YF=false:=by rfl):aF P Γ F args mem nx Q:=
 (yK hf hb ((l6 h).mono fun _ _ h=>PH h) hF).turn hΓ
theorem aF.yield{id:Nat}{args:List AV}{mem:aQ}{nx:Nat}{K:AV->aQ->Nat->Prop}{sl sl':List (Nat × AV)}{nt:Nat}{ps:Array Tmp}{ca cb:Code}{st:LoopState}{pd:Option Code}
  (hl:lk mem id=some (.loop sl nt ps ca cb st pd)) (hp:AP nt ps.toList args sl=some sl') (ha:iD ca=false) (hb:iD cb=false)
  (h:fR P Γ nx ca ⟨sl',mem,nx,nt⟩ (TR P Γ nx id cb K)):aF P Γ YF (.yld id::args) mem nx K:=
 (gC.round (Kp:=fun _ _ _=>False) hl hp ha hb h).toC fun _ _ _ h=>h
def XK{α:Type}(B:Nat)(R:α->Prop)(I:α->St)(μ:α->Nat)(x:α)(Q:Exit->St->Prop)(e:Exit)(s:St):Prop:=
 match e with
 | .normal=>Jp B R I μ x s
 | e=>Q e s
theorem aZ.at{c:Code}{s:St}{Q:Exit->St->Prop}{α:Type}(hΓ:∀p∈Γ,NN p.2)(R:α->Prop)(I:α->St)(μ:α->Nat)(x:α)(σ:List (Nat × Nat))(hx:R x)(h0:Conv B σ s (I x))
  (h:∀x,R x->fR P Γ B c (I x) (XK B R I μ x Q)):aZ P Γ B c s Q:=by
 refine⟨fR.conv hΓ h0 ?_⟩;refine fR.loop (α:={ x:α // R x }) hΓ (fun x=>I x.1) (fun x=>μ x.1) (fun x=>?_) ⟨x,hx⟩;refine(h x.1 x.2).mono fun e s h=>?_
 cases e with
 | normal=>
  obtain⟨y,σ,hy,hc,hlt⟩:=(show Jp B R I μ x.1 s from h)
  exact⟨⟨y,hy⟩,σ,hc,hlt⟩
 | exit i=>exact h
 | goto l=>exact h
 | ret=>exact h
 | panic c=>exact h
 | outgrown=>exact h
theorem aZ.ph{c:Code}{s:St}{Q:Exit->St->Prop}(t:TypeId)(sz:Nat)(h:aZ P Γ B c ⟨s.sl,(s.nx,.row t sz [])::s.mem,s.nx+1,s.nt⟩ Q):aZ P Γ B c s Q:=⟨fR.ph t sz h.run⟩
def Pq(P:Program)(Γ:List (Nat × AV))(B:Nat)(ops:List Oper)(K:St->Prop)(next:List Oper->St->Prop)(l:List Oper)(s:St):Prop:=
 match l with
 | []=>K s
 | o::r=>Fg s fun sl mem nx nt=>wY ops sl o.guard
   (G9 false P Γ (Ks P Γ B) sl mem nx o.op (fun v mem nx=>o9 s o.dst v mem nx fun s'=>next r s') fun _ _ _=>False)
   (o9 s o.dst (.tup []) mem nx fun s'=>next r s')
theorem rG{ops:List Oper}{K:St->Prop}{next:List Oper->St->Prop}(hn:∀r s,next r s->nM P Γ B ops r s K){l:List Oper}{s:St}(h:Pq P Γ B ops K next l s):nM P Γ B ops l s K:=by
 refine⟨?_⟩;cases l with
 | nil=>exact h
 | cons o r=>
  have h:wY ops s.sl o.guard (G9 false P Γ (Ks P Γ B) s.sl s.mem s.nx o.op (fun v mem nx=>o9 s o.dst v mem nx fun s'=>next r s') fun _ _ _=>False) (o9 s o.dst (.tup []) s.mem s.nx fun s'=>next r s'):=h;simp only[yD];rcases x7 h with⟨h1,h⟩|⟨h1,h⟩
  ·simp only[h1];rcases Ex h with⟨v,m,n,h2,h⟩|⟨h2,F,l,h3,h⟩
   ·obtain⟨s',h4,h⟩:=f9 h;simp only[h2,h4];exact(hn _ _ h).run
   ·simp only[h2,h3];refine(show aF P Γ F l s.mem s.nx _ from h).mono fun v m n h=>?_
    obtain⟨s',h4,h⟩:=f9 h;simp only[h4];exact(hn _ _ h).run
  ·obtain⟨s',h4,h⟩:=f9 h;simp only[h1,h4];exact(hn _ _ h).run
def RV(P:Program)(Γ:List (Nat × AV))(B:Nat)(next:Code->St->(Exit->St->Prop)->Prop)(c:Code)(s:St)(Q:Exit->St->Prop):Prop:=
 match c with
 | .seq x y=>next x s (ON P Γ B y Q)
 | .block id c=>next c s (DL id Q)
 | c=>XZ P Γ B c s Q
theorem wH{next:Code->St->(Exit->St->Prop)->Prop}(hn:∀c s Q,next c s Q->fR P Γ B c s Q){c:Code}{s:St}{Q:Exit->St->Prop}(h:RV P Γ B next c s Q):fR P Γ B c s Q:=by
 cases c with
 | seq x y=>exact fR.go (show XZ P Γ B (.seq x y) s Q from hn _ _ _ h)
 | block id c=>exact fR.go (show XZ P Γ B (.block id c) s Q from hn _ _ _ h)
 | _=>exact fR.go h
def V6(P:Program)(Γ:List (Nat × AV))(B:Nat)(ops:List Oper)(K:St->Prop)(l:List Oper)(s:St):Prop:=nM P Γ B ops l s K
theorem TP{ops:List Oper}{K:St->Prop}(l:List Oper)(s:St)(h:V6 P Γ B ops K l s):nM P Γ B ops l s K:=h
def W3(P:Program)(Γ:List (Nat × AV))(B:Nat)(ops:List Oper)(K:St->Prop)(l:List Oper)(s:St):Prop:=Pq P Γ B ops K (V6 P Γ B ops K) l s
theorem R0{ops:List Oper}{K:St->Prop}(l:List Oper)(s:St)(h:W3 P Γ B ops K l s):nM P Γ B ops l s K:=rG TP h
def XP(P:Program)(Γ:List (Nat × AV))(B:Nat)(ops:List Oper)(K:St->Prop)(l:List Oper)(s:St):Prop:=Pq P Γ B ops K (W3 P Γ B ops K) l s
theorem TN{ops:List Oper}{K:St->Prop}(l:List Oper)(s:St)(h:XP P Γ B ops K l s):nM P Γ B ops l s K:=rG R0 h
def WU(P:Program)(Γ:List (Nat × AV))(B:Nat)(ops:List Oper)(K:St->Prop)(l:List Oper)(s:St):Prop:=Pq P Γ B ops K (XP P Γ B ops K) l s
theorem TK{ops:List Oper}{K:St->Prop}(l:List Oper)(s:St)(h:WU P Γ B ops K l s):nM P Γ B ops l s K:=rG TN h
def XE(P:Program)(Γ:List (Nat × AV))(B:Nat)(ops:List Oper)(K:St->Prop)(l:List Oper)(s:St):Prop:=Pq P Γ B ops K (WU P Γ B ops K) l s
theorem Rb{ops:List Oper}{K:St->Prop}(l:List Oper)(s:St)(h:XE P Γ B ops K l s):nM P Γ B ops l s K:=rG TK h
def WT(P:Program)(Γ:List (Nat × AV))(B:Nat)(ops:List Oper)(K:St->Prop)(l:List Oper)(s:St):Prop:=Pq P Γ B ops K (XE P Γ B ops K) l s
theorem R5{ops:List Oper}{K:St->Prop}(l:List Oper)(s:St)(h:WT P Γ B ops K l s):nM P Γ B ops l s K:=rG Rb h
def Vz(P:Program)(Γ:List (Nat × AV))(B:Nat)(ops:List Oper)(K:St->Prop)(l:List Oper)(s:St):Prop:=Pq P Γ B ops K (WT P Γ B ops K) l s
theorem Rm{ops:List Oper}{K:St->Prop}(l:List Oper)(s:St)(h:Vz P Γ B ops K l s):nM P Γ B ops l s K:=rG R5 h
def WB(P:Program)(Γ:List (Nat × AV))(B:Nat)(ops:List Oper)(K:St->Prop)(l:List Oper)(s:St):Prop:=Pq P Γ B ops K (Vz P Γ B ops K) l s
theorem TH{ops:List Oper}{K:St->Prop}(l:List Oper)(s:St)(h:WB P Γ B ops K l s):nM P Γ B ops l s K:=rG Rm h
def XT(P:Program)(Γ:List (Nat × AV))(B:Nat)(ops:List Oper)(K:St->Prop)(l:List Oper)(s:St):Prop:=Pq P Γ B ops K (WB P Γ B ops K) l s
theorem SN{ops:List Oper}{K:St->Prop}(l:List Oper)(s:St)(h:XT P Γ B ops K l s):nM P Γ B ops l s K:=rG TH h
def V5(P:Program)(Γ:List (Nat × AV))(B:Nat)(ops:List Oper)(K:St->Prop)(l:List Oper)(s:St):Prop:=Pq P Γ B ops K (XT P Γ B ops K) l s
theorem SD{ops:List Oper}{K:St->Prop}(l:List Oper)(s:St)(h:V5 P Γ B ops K l s):nM P Γ B ops l s K:=rG SN h
def Pu(P:Program)(Γ:List (Nat × AV))(B:Nat)(ops:List Oper)(K:St->Prop)(l:List Oper)(s:St):Prop:=Pq P Γ B ops K (V5 P Γ B ops K) l s
theorem Pp{ops:List Oper}{K:St->Prop}(l:List Oper)(s:St)(h:Pu P Γ B ops K l s):nM P Γ B ops l s K:=rG SD h
theorem nM.many{ops l:List Oper}{s:St}{K:St->Prop}(h:Pu P Γ B ops K l s):nM P Γ B ops l s K:=Pp l s h
def WP(P:Program)(Γ:List (Nat × AV))(B:Nat)(c:Code)(s:St)(Q:Exit->St->Prop):Prop:=fR P Γ B c s Q
theorem SJ(c:Code)(s:St)(Q:Exit->St->Prop)(h:WP P Γ B c s Q):fR P Γ B c s Q:=h
def XM(P:Program)(Γ:List (Nat × AV))(B:Nat)(c:Code)(s:St)(Q:Exit->St->Prop):Prop:=RV P Γ B (WP P Γ B) c s Q
theorem SK(c:Code)(s:St)(Q:Exit->St->Prop)(h:XM P Γ B c s Q):fR P Γ B c s Q:=wH SJ h
def W9(P:Program)(Γ:List (Nat × AV))(B:Nat)(c:Code)(s:St)(Q:Exit->St->Prop):Prop:=RV P Γ B (XM P Γ B) c s Q
theorem Tc(c:Code)(s:St)(Q:Exit->St->Prop)(h:W9 P Γ B c s Q):fR P Γ B c s Q:=wH SK h
def XD(P:Program)(Γ:List (Nat × AV))(B:Nat)(c:Code)(s:St)(Q:Exit->St->Prop):Prop:=RV P Γ B (W9 P Γ B) c s Q
theorem Sv(c:Code)(s:St)(Q:Exit->St->Prop)(h:XD P Γ B c s Q):fR P Γ B c s Q:=wH Tc h
def WR(P:Program)(Γ:List (Nat × AV))(B:Nat)(c:Code)(s:St)(Q:Exit->St->Prop):Prop:=RV P Γ B (XD P Γ B) c s Q
theorem SF(c:Code)(s:St)(Q:Exit->St->Prop)(h:WR P Γ B c s Q):fR P Γ B c s Q:=wH Sv h
def WH(P:Program)(Γ:List (Nat × AV))(B:Nat)(c:Code)(s:St)(Q:Exit->St->Prop):Prop:=RV P Γ B (WR P Γ B) c s Q
theorem Sg(c:Code)(s:St)(Q:Exit->St->Prop)(h:WH P Γ B c s Q):fR P Γ B c s Q:=wH SF h
def Wf(P:Program)(Γ:List (Nat × AV))(B:Nat)(c:Code)(s:St)(Q:Exit->St->Prop):Prop:=RV P Γ B (WH P Γ B) c s Q
theorem R2(c:Code)(s:St)(Q:Exit->St->Prop)(h:Wf P Γ B c s Q):fR P Γ B c s Q:=wH Sg h
def Wp(P:Program)(Γ:List (Nat × AV))(B:Nat)(c:Code)(s:St)(Q:Exit->St->Prop):Prop:=RV P Γ B (Wf P Γ B) c s Q
theorem RU(c:Code)(s:St)(Q:Exit->St->Prop)(h:Wp P Γ B c s Q):fR P Γ B c s Q:=wH R2 h
def Vn(P:Program)(Γ:List (Nat × AV))(B:Nat)(c:Code)(s:St)(Q:Exit->St->Prop):Prop:=RV P Γ B (Wp P Γ B) c s Q
theorem Rq(c:Code)(s:St)(Q:Exit->St->Prop)(h:Vn P Γ B c s Q):fR P Γ B c s Q:=wH RU h
theorem fR.many{c:Code}{s:St}{Q:Exit->St->Prop}(h:Vn P Γ B c s Q):fR P Γ B c s Q:=Rq c s Q h
class XG(p:Prop)(q:outParam Prop):Prop where
 h:q->p
instance{c:Code}{s:St}{Q:Exit->St->Prop}:XG (fR P Γ B c s Q) (Vn P Γ B c s Q):=⟨fR.many⟩
instance{ops l:List Oper}{s:St}{K:St->Prop}:XG (nM P Γ B ops l s K) (Pu P Γ B ops K l s):=⟨nM.many⟩
instance{ops:List Oper}{tr:List (List Nat)}{base:Nat}{K:St->Prop}{l:List Nat}{recs:List C9}{s:St}:XG (Oi P Γ B ops tr base K l recs s) (YE P Γ B ops tr base K l recs s):=⟨Oi.go⟩
theorem Xg{p q:Prop}[i:XG p q](x:q):p:=i.h x
theorem Rr{p q:Prop}(x:q)(e:q->p:=by(intro x;(conv=>whnf);(repeat(refine Xg ?_;conv=>whnf));exact x)):p:=e x
end
end Go.Ax
namespace Go.Ax
open Go
def B8(i:Nat):List Nat->Bool
 | []=>false
 | j::r=>match Nat.beq j i with
  | true=>true
  | false=>B8 i r
def jM(ids:List Nat):aQ->aQ
 | []=>[]
 | (k,b)::r=>match B8 k ids with
  | true=>(k,b)::jM ids r
  | false=>jM ids r
def iS(ids:List Nat):aQ->aQ
 | []=>[]
 | (k,b)::r=>match B8 k ids with
  | true=>iS ids r
  | false=>(k,b)::iS ids r
def rX:List Nat->List (Nat × Nat)
 | []=>[]
 | i::r=>(i,i)::rX r
def La(n:Nat):List Nat->Bool
 | []=>true
 | i::r=>Nat.blt i n && La n r
def EJ(ids:List Nat):aQ->Bool
 | []=>true
 | (k,_)::r=>B8 k ids && EJ ids r
theorem fT{ids:List Nat}:∀{m:aQ} {p:Nat × AB},p∈jM ids m↔p∈m/\B8 p.1 ids=true
 | [],p=>by simp[jM]
 | (k,b)::r,p=>by
  simp only[jM];split
  ·rename_i h;rw[Yr,fT (m:=r),Yr];constructor
   ·rintro(rfl|⟨h1,h2⟩)
    ·exact⟨.inl rfl,h⟩
    ·exact⟨.inr h1,h2⟩
   ·rintro⟨rfl|h1,h2⟩
    ·exact .inl rfl
    ·exact .inr ⟨h1,h2⟩
  ·rename_i h;rw[fT (m:=r),Yr];constructor
   ·rintro⟨h1,h2⟩;exact⟨.inr h1,h2⟩
   ·rintro⟨rfl|h1,h2⟩
    ·rw[h] at h2;cases h2
    ·exact⟨h1,h2⟩
theorem dZ{ids:List Nat}:∀{m:aQ} {p:Nat × AB},p∈iS ids m↔p∈m/\B8 p.1 ids=false
 | [],p=>by simp[iS]
 | (k,b)::r,p=>by
  simp only[iS];split
  ·rename_i h;rw[dZ (m:=r),Yr];constructor
   ·rintro⟨h1,h2⟩;exact⟨.inr h1,h2⟩
   ·rintro⟨rfl|h1,h2⟩
    ·rw[h] at h2;cases h2
    ·exact⟨h1,h2⟩
  ·rename_i h;rw[Yr,dZ (m:=r),Yr];constructor
   ·rintro(rfl|⟨h1,h2⟩)
    ·exact⟨.inl rfl,h⟩
    ·exact⟨.inr h1,h2⟩
   ·rintro⟨rfl|h1,h2⟩
    ·exact .inl rfl
    ·exact .inr ⟨h1,h2⟩
theorem pV{ids:List Nat}:∀(m:aQ),(jM ids m).Sublist m
 | []=>by simp[jM]
 | (k,b)::r=>by
  simp only[jM];split
  ·exact(pV r).cons_cons _
  ·exact(pV r).cons _
theorem pZ{ids:List Nat}:∀(m:aQ),(iS ids m).Sublist m
 | []=>by simp[iS]
 | (k,b)::r=>by
  simp only[iS];split
  ·exact(pZ r).cons _
  ·exact(pZ r).cons_cons _
theorem DQ:∀{ids:List Nat} {i j:Nat},lk (rX ids) i=some j->i=j/\B8 i ids=true
 | [],i,j,h=>by simp[rX,lk] at h
 | k::r,i,j,h=>by
  simp only[rX,lk] at h;split at h
  ·rename_i e;cases h;exact⟨(Nat.eq_of_beq_eq_true e).symm,by simp only[B8,e]⟩
  ·rename_i e;obtain⟨h1,h2⟩:=DQ h;exact⟨h1,by simp only[B8,e];exact h2⟩
theorem Qh:∀{ids:List Nat} {i:Nat},B8 i ids=true->lk (rX ids) i=some i
 | [],i,h=>by simp[B8] at h
 | k::r,i,h=>by
  simp only[B8] at h;simp only[rX,lk];split at h
  ·rename_i e;rw[e,Nat.eq_of_beq_eq_true e]
  ·rename_i e;rw[e];exact Qh h
theorem vB:∀{ids:List Nat} {n i:Nat},La n ids=true->B8 i ids=true->i<n
 | [],n,i,_,h=>by simp[B8] at h
 | k::r,n,i,h1,h=>by
  simp only[La,Yk] at h1;simp only[B8] at h;split at h
  ·rename_i e;rw[←Nat.eq_of_beq_eq_true e];exact Yq h1.1
  ·exact vB h1.2 h
theorem sP:∀{m:aQ} {ids:List Nat},EJ ids m=true->∀p∈m,B8 p.1 ids=true
 | [],ids,_,p,hp=>by cases hp
 | (k,b)::r,ids,h,p,hp=>by
  simp only[EJ,Yk] at h;rcases Yr.1 hp with rfl|hp
  ·exact h.1
  ·exact sP h.2 p hp
theorem aF.useI{P:Program}{Γ:List (Nat × AV)}{F:FuncId}{args args':List AV}{ms mem:aQ}{ns nx:Nat}{Qs K:AV->aQ->Nat->Prop}(hΓ:∀p∈Γ,NN p.2)(ids:List Nat)(h:aF P Γ F args' ms ns Qs)
  (hp:jM ids mem=ms) (hargs:iB ms (rX ids) args args') (hM:dV ms (rX ids) ms) (hc:(oD ms && La ns ids)=true)
  (hk:∀r m n,Qs r m n->NN r/\dV m (rX ids) m/\(oD m && EJ ids m)=true/\K r (m++iS ids mem) nx):aF P Γ F args mem nx K:=by
 simp only[Yk] at hc;refine⟨fun X D ρ w vs hD hm hv=>?_⟩;have hinj:RQ (rX ids):=fun i j k h1 h2=>by
  have a:=(DQ h1).1;have b:=(DQ h2).1;omega
 refine(aF.use (K:=K) (nx:=nx) hΓ h (rX ids) (m1:=ms) (rest:=iS ids mem) ⟨fun p hp'=>?_,fun p hp'=>(dZ.1 hp').1,fun p hp'=>?_,fun p h1 q h2=>?_, ?_⟩ ?_ hargs hM.cvm (fY hc.1) hinj (fun id i hl=>?_) ?_).run X D ρ w vs hD hm hv
 ·rw[←hp] at hp';exact(fT.1 hp').1
 ·cases hi:B8 p.1 ids with
  | true=>left;rw[←hp];exact fT.2 ⟨hp',hi⟩
  | false=>right;exact dZ.2 ⟨hp',hi⟩
 ·rw[←hp] at h1;have a:=(fT.1 h1).2;have b:=(dZ.1 h2).2;intro e;rw[e,b] at a;cases a
 ·rw[←hp];exact hm.nod.sublist ((pV mem).map _)
 ·exact hm.nod.sublist ((pZ mem).map _)
 ·obtain⟨h1,h2⟩:=DQ hl;rw[←h1];exact vB hc.2 h2
 ·intro r m n hq hn;obtain⟨h1,h2,h3,h4⟩:=hk r m n hq;simp only[Yk] at h3;refine⟨rX ids,r,m,nx,Yy _,.same r h1,h2.cvm,fY h3.1,hinj,fun i id hl=>?_,fun p h5 q h6=>?_,h4⟩
  ·obtain⟨e1,e2⟩:=DQ hl;subst e1;exact .inl ⟨vB hc.2 e2,Qh e2⟩
  ·have a:=sP h3.2 p h5;have b:=(dZ.1 h6).2;intro e;rw[e,b] at a;cases a
def uO:List (Nat × Nat)->List Nat
 | []=>[]
 | (i,_)::r=>i::uO r
def H0:List (Nat × Nat)->List (Nat × Nat)
 | []=>[]
 | (i,j)::r=>(j,i)::H0 r
def tI(n:Nat):List (Nat × Nat)->Bool
 | []=>true
 | (_,j)::r=>Nat.blt j n && tI n r
theorem D3:∀{σ:List (Nat × Nat)} {i j:Nat},(j,i)∈H0 σ↔(i,j)∈σ
 | [],i,j=>by simp[H0]
 | (a,b)::r,i,j=>by
  simp only[H0,Yr,D3 (σ:=r),Prod.mk.injEq];constructor
  ·rintro(⟨rfl,rfl⟩|h)
   ·exact .inl ⟨rfl,rfl⟩
   ·exact .inr h
  ·rintro(⟨rfl,rfl⟩|h)
   ·exact .inl ⟨rfl,rfl⟩
   ·exact .inr h
theorem N7{σ:List (Nat × Nat)}(h:n9 (H0 σ)=true){i j:Nat}(hm:(i,j)∈σ):lk σ i=some j:=by
 induction σ with
 | nil=>cases hm
 | cons p r ih=>
  obtain⟨a,b⟩:=p;simp only[H0,n9,Yk] at h;simp only[lk];rcases Yr.1 hm with e|hm'
  ·cases e;simp
  ·have hne:a≠i:=by
    intro e;subst e;exact qY h.1 _ (D3.2 hm') rfl
   rw[oL hne];exact ih h.2 hm'
theorem pR:∀{σ:List (Nat × Nat)} {n:Nat},tI n σ=true->∀p∈σ,p.2<n
 | [],n,_,p,hp=>by cases hp
 | (a,b)::r,n,h,p,hp=>by
  simp only[tI,Yk] at h;rcases Yr.1 hp with rfl|hp
  ·exact Yq h.1
  ·exact pR h.2 p hp
theorem aF.useR{P:Program}{Γ:List (Nat × AV)}{F:FuncId}{args args':List AV}{ms mem m1:aQ}{ns nx:Nat}{Qs K:AV->aQ->Nat->Prop}(hΓ:∀p∈Γ,NN p.2)(σ:List (Nat × Nat))(h:aF P Γ F args' ms ns Qs)
  (hp:jM (uO σ) mem=m1) (hargs:iB m1 σ args args') (hM:dV m1 σ ms) (hc:(oD ms && (n9 σ && (n9 (H0 σ) && tI ns σ)))=true)
  (hk:∀r m n,Qs r m n->∃m',NN r/\dV m (H0 σ) m'/\(oD m' && EJ (uO σ) m')=true/\K r (m'++iS (uO σ) mem) nx):aF P Γ F args mem nx K:=by
 simp only[Yk] at hc;obtain⟨hc1,hc2,hc3,hc4⟩:=hc;refine⟨fun X D ρ w vs hD hm hv=>?_⟩;refine(aF.use (K:=K) (nx:=nx) hΓ h σ (m1:=m1) (rest:=iS (uO σ) mem) ⟨fun p hp'=>?_,fun p hp'=>(dZ.1 hp').1,fun p hp'=>?_,fun p h1 q h2=>?_, ?_⟩ ?_ hargs hM.cvm (fY hc1) (qT hc2) (fun id i hl=>pR hc4 _ (bV hl)) ?_).run X D ρ w vs hD hm hv
 ·rw[←hp] at hp';exact(fT.1 hp').1
 ·cases hi:B8 p.1 (uO σ) with
  | true=>left;rw[←hp];exact fT.2 ⟨hp',hi⟩
  | false=>right;exact dZ.2 ⟨hp',hi⟩
 ·rw[←hp] at h1;have a:=(fT.1 h1).2;have b:=(dZ.1 h2).2;intro e;rw[e,b] at a;cases a
 ·rw[←hp];exact hm.nod.sublist ((pV mem).map _)
 ·exact hm.nod.sublist ((pZ mem).map _)
 ·intro r m n hq hn;obtain⟨m',h1,h2,h3,h4⟩:=hk r m n hq;simp only[Yk] at h3;refine⟨H0 σ,r,m',nx,Yy _,.same r h1,h2.cvm,fY h3.1,qT hc3,fun i id hl=>?_,fun p h5 q h6=>?_,h4⟩
  ·have hmem:=D3.1 (bV hl);exact .inl ⟨pR hc4 _ hmem,N7 hc3 hmem⟩
  ·have a:=sP h3.2 p h5;have b:=(dZ.1 h6).2;intro e;rw[e,b] at a;cases a
end Go.Ax
namespace Go.Ax
open Go
def Pm(w w':World):Prop:=w.heap.size<=w'.heap.size/\(∀b,b<w.heap.size->w'.heap[b]? = w.heap[b]?)/\GN w w'
theorem Pm.refl(w:World):Pm w w:=⟨Yy _,fun _ _=>rfl,.refl _⟩
section
variable {P:Program} {Γ:List (Nat × AV)} {F:FuncId} {args:List AV} {r:AV}
def UN(Γ:List (Nat × AV))(w:World):Prop:=∀p∈Γ,∀(j:Nat) (c:AV),p.2.cells[j]? = some c->∃x ρ D O,w.cell? ⟨p.1,j,none⟩=some x/\VR ρ D O w c x
theorem MR.knows{X:Nat->Prop}{ρ:Nat->dG}{D:Nat->Prop}{mem:aQ}{w:World}(hm:MR Γ X ρ D mem w):UN Γ w:=by
 intro p hp j c hc;have:=hm.glo p hp;cases this with
 | ip _ _ _ f h1 h2=>exact⟨f j,ρ,D,_,by have:=(h1 j c hc).2.1;rwa [ZD] at this,h2 j c hc⟩
theorem DK{vs:List Value}(hargs:∀(ρ:Nat->dG) (D O:Nat->Prop) (w:World) (xs:List Value),kQ ρ D O w args xs->xs=vs)
  (h:∀w,UN Γ w->Calls P F vs.toArray w fun e w'=>∃x,e = .returned x/\(∀(ρ:Nat->dG) (D O:Nat->Prop) (w:World),VR ρ D O w r x)/\Pm w w') (hF:Nat.beq F YF=false:=by rfl):aT P Γ F args r:=by
 refine⟨fun X D ρ w xs hD hm hv=>?_⟩;obtain rfl:=hargs _ _ _ _ _ hv;refine .of hF ((h w hm.knows).mono ?_);rintro e w' ⟨x,rfl,hx,g1,g2,g3⟩;obtain⟨m1,ext⟩:=hm.still g1 g2 g3;have hsub:∀i,D i->dn D 0 0 i:=fun i hi=>.inl hi
 exact⟨r,x,[],0,ρ,rfl,⟨rfl,rfl,rfl⟩,Yy _,(m1.widen hsub).1,hx _ _ _ _,(ext D fun i hi=>hi).wide hsub⟩
theorem HL{ρ:Nat->dG}{D O:Nat->Prop}{w:World}{xs:List Value}{k:IntKind}{n:Int}(h:kQ ρ D O w [.int k n] xs):xs=[.int k n]:=by
 obtain⟨hl,hv⟩:=h
 match xs,hl with
 | [x],_=>
  have:=hv 0 _ x rfl rfl;cases this;rfl
end
def dY(l:List UInt8):List AV:=l.map fun b=>.int .u8 (b.toNat:Int)
theorem cW(l:List UInt8):kI (dY l):=fun a ha=>by
 obtain⟨n,_,rfl⟩:=ZF.1 ha;exact .int _ _
theorem JG(l:List UInt8)(i:Nat):(dY l)[i]? = (l[i]?).map fun b=>.int .u8 (b.toNat:Int):=by rw[dY,ZO]
theorem dH(l:List UInt8):(dY l).length=l.length:=by rw[dY,aAn]
theorem Bo(l:List UInt8)(k:Nat):(dY l).take k=dY (l.take k):=by rw[dY,dY,List.map_take]
theorem F1(l:List UInt8)(k:Nat):(dY l).drop k=dY (l.drop k):=by rw[dY,dY,List.map_drop]
theorem jV(l m:List UInt8):dY (l++m)=dY l++dY m:=by rw[dY,dY,dY,Zk]
theorem pL:∀l:List UInt8,f8 (dY l)=some l
 | []=>rfl
 | b::r=>by
  show f8 (AV.int .u8 (b.toNat:Int)::dY r)=_
  simp only[f8,pL r];simp
theorem BL:∀l:List UInt8,oK (dY l)=some l
 | []=>rfl
 | b::r=>by
  show oK (AV.int .u8 (Int.ofNat b.toNat)::dY r)=_
  have:Nat.ble b.toNat 255=true:=Yp (by have:=b.toNat_lt;omega);simp only[oK,BL r,this];simp
theorem WY{P:Program}{F:FuncId}{t:TypeId}
  (hF:∀(blk off cap:Nat) (u:Nat) (d:Array UInt8) (w:World),Sort.Holds (fun(b:UInt8)=>Value.int .u8 (b.toNat:Int)) w blk off d->u<10 ^ d.size->u<18446744073709551616->d.size<4611686018427387904 ->
   Calls P F #[.slice (some ⟨blk,off,none⟩) d.size cap,.int .u64 u] w fun e w'=>
    e = .returned (.tuple #[])/\∃(n v':Nat) (dk:Array UInt8),w'=(Sort.putRow (fun(b:UInt8)=>Value.int .u8 (b.toNat:Int)) w blk off dk).drewN n/\Lib.FmtInv d.size u 0 v' dk)
  (xs:List UInt8) (u:Nat) (hu64:u<18446744073709551616) (hlen:1+Lib.nDigits u<=xs.length) (hxl:xs.length<=1000) (hF0:Nat.beq F YF=false:=by rfl) :
  aF P [] F [.sl 0 1 (Lib.nDigits u),.int .u64 u] [(0,.row t 1 (dY xs))] 1 fun r m n=>r = .tup []/\m=[(0,.row t 1 (dY (xs.take 1++Lib.decDigits u++xs.drop (1+Lib.nDigits u))))]:=by
 have hpos:=Lib.nDigits_pos u;refine⟨fun X D ρ w vs hD hm hv=>?_⟩;obtain⟨hl,hv⟩:=hv
 match vs,hl with
 | [s,x],_=>
  have v0:=hv 0 _ s rfl rfl;have v1:=hv 1 _ x rfl rfl;cases v1;have hid:lk [(0,AB.row t 1 (dY xs))] 0=some (.row t 1 (dY xs)):=rfl;have hsz:=y6 hm hid;have hn:0<(ρ 0).n:=by
   rcases Y2 (ρ 0).n with h0|h0
   ·obtain⟨t',sz',e1,_⟩:=hm.emp _ (bV hid) h0;injection e1 with _ _ e2;have:(dY xs).length=0:=by rw[e2];rfl
    rw[dH] at this;omega
   ·exact h0
  obtain⟨o,ho,hsz',arr,fr,rfl,hf,hs,hle,hrow⟩:=hm.blk _ (bV hid) hn;simp only at ho hsz' hs hle hrow;rw[hsz] at hrow hle;rw[dH,aBK] at hle;have hcell:∀(i:Nat) (b:UInt8),xs[i]? = some b->arr[i]? = some (Value.int .u8 (b.toNat:Int)):=by
   intro i b hb;obtain⟨v,hv,_,hr⟩:=(hrow i (.int .u8 (b.toNat:Int)) (by rw[JG,hb];rfl)).2 0 _ rfl;cases hr;simpa using hv
  obtain⟨nd,hnd⟩:∃nd,nd=Lib.nDigits u:=⟨_,rfl⟩
  rw[←hnd] at hpos hlen v0 ⊢;have hso:∃cap,s = .slice (some ⟨(ρ 0).b,1,none⟩) nd cap:=by
   cases v0 with
   | sl _ _ _ cap _ h1 h2=>exact⟨cap,by rw[hsz]⟩
   | slz=>omega
   | slzn=>omega
  obtain⟨cap,rfl⟩:=hso;have hds:(((xs.drop 1).take nd).toArray).size=nd:=by simp;omega
  have hH:Sort.Holds (fun(b:UInt8)=>Value.int .u8 (b.toNat:Int)) w (ρ 0).b 1 ((xs.drop 1).take nd).toArray:=by
   intro j hj;rw[hds] at hj;have hx:xs[1+j]? = some xs[1+j]:=Yj (by omega);have hd:(((xs.drop 1).take nd).toArray)[j]! = xs[1+j]:=by
    rw[getElem!_pos _ j (by omega)];simp[aBw]
   constructor
   ·simp only[World.cell?,ho,hd];exact hcell _ _ hx
   ·simp only[World.frozen?,ho];have:=hf (1+j) (by omega);obtain⟨a,b⟩:=fr;simp only at this ⊢;rw[aAu];simp;omega
  have hcall:=hF (ρ 0).b 1 cap u _ w hH (by rw[hds,hnd];exact Lib.lt_pow_nDigits u) hu64 (by rw[hds];omega);rw[hds] at hcall;refine .of hF0 (hcall.mono ?_);rintro e w' ⟨rfl,n,v',dk,rfl,hinv⟩;have hdk:dk.size=nd:=hinv.size;have hdig:(Lib.decDigits u).length=nd:=by rw[Lib.decDigits_length,hnd]
  rw[hnd] at hinv;have hat:=fun j hj=>Lib.row_is_numeral hinv j hj
  obtain⟨m1,mv,ext⟩:=hm.change (w':=(Sort.putRow (fun(b:UInt8)=>Value.int .u8 (b.toNat:Int)) w (ρ 0).b 1 dk).drewN n) (xs':=dY (xs.take 1++Lib.decDigits u++xs.drop (1+nd))) (arr:=Sort.putCells (fun(b:UInt8)=>Value.int .u8 (b.toNat:Int)) 1 dk arr) (fr:=fr) hid hn
   (by
    apply aBz;intro k
    show (w.heap.modify (ρ 0).b (Sort.onCells _))[k]? = _
    have hlt:=oB hm (.inr ⟨_,bV hid,hn,rfl⟩);simp only at hlt;rw[aAt,aBs];by_cases hk:(ρ 0).b=k
    ·subst hk;rw[Yt rfl,Yt rfl,Yt hlt,ho];rfl
    ·rw[Yo hk,Yo hk]) .go (fun j hj=>hf j (by simpa[Sort.putCells] using hj)) (by rw[←hs];simp[Sort.putCells])
   (by
    refine⟨?_,fun i x hi=>?_⟩
    ·rw[dH];simp[Sort.putCells,hdig];omega
    ·rw[JG] at hi;obtain⟨b,hb,rfl⟩:=aBh.1 hi;refine⟨rfl,fun j c hj=>?_⟩;cases j with
     | succ j=>simp[AV.cells] at hj
     | zero=>
      simp[AV.cells] at hj;subst hj;refine⟨.int .u8 (b.toNat:Int), ?_,rfl,.int _ _⟩;simp only[aBK,aAr,Sort.putCells,Array.getElem?_mapIdx];have hil:i<xs.length:=by
       have:=(Yn.1 hb).1;simp[hdig] at this;omega
      have hia:arr[i]? = some (.int .u8 (xs[i].toNat:Int)):=hcell i _ (Yj hil);rw[hia,aAl];congr 1;rw[List.append_assoc,ZU] at hb;have htl:(xs.take 1).length=1:=by simp;omega
      rw[htl] at hb;by_cases h1:i<1
      ·rw[Yt h1,ZJ,Yt h1,Yj hil] at hb;rw[Yo (by omega),Option.some.inj hb]
      ·rw[Yo h1,ZU,hdig] at hb;by_cases h2:i-1<nd
       ·rw[Yt h2,Yj (by omega)] at hb;rw[Yt (by omega),←hat (i-1) (by omega),Option.some.inj hb]
       ·rw[Yo h2,ZY] at hb;have e:1+nd+(i-1-nd)=i:=by omega
        rw[e,Yj hil] at hb;rw[Yo (by omega),Option.some.inj hb])
  have hsub:∀i,D i->dn D 1 1 i:=fun i hi=>.inl hi
  exact⟨.tup [],.tuple #[],_,1,ρ,rfl,⟨rfl,by simp[up]⟩,Yy _,(m1.widen hsub).1,.tup [] #[] rfl (by simp),(ext D fun i hi=>hi).wide hsub⟩
end Go.Ax
namespace Go.Ax
open Go Go.RowKit
theorem z6{P:Program}{w:World}{n:String}{g:Nat}{k:IntKind}{zs:List Int}(hg:P.globalNamed n=some g)(hv:Lib.TabIs P w n k zs) :
  VR (fun _=>⟨0,0,0⟩) (fun _=>False) (OX (fun _=>False) (fun _=>⟨0,0,0⟩) []) w (.ip (.agg (zs.map fun z=>AV.int k z))) (.pointer (some ⟨g,0,none⟩)):=by
 refine .ip _ g 0 (fun j=>.int k (zs.getD j 0)) (fun j c hj=>?_) (fun j c hj=>?_)
 ·have hj0:j<zs.length:=by have:=(Yn.1 hj).1;simpa[AV.cells] using this
  exact⟨Pk _ _,by simpa using hv.cell hg j hj0,rfl⟩
 ·have hj0:j<zs.length:=by have:=(Yn.1 hj).1;simpa[AV.cells] using this
  simp[AV.cells,ZO,Yj hj0] at hj;subst hj;simp[Ym,Yj hj0];exact .int _ _
end Go.Ax
namespace Go.Ax
open Go
mutual
def bB:aR->Nat
 | .mk _ _ _ kids=>1+bZ kids
def bZ:List aR->Nat
 | []=>0
 | v::r=>bB v+bZ r
end
mutual
def iZ:aR->Nat
 | .mk _ _ _ kids=>gD kids+1
def gD:List aR->Nat
 | []=>0
 | v::r=>max (iZ v) (gD r)
end
theorem yZ:∀(l:List aR) (v:aR),bZ (l++[v])=bZ l+bB v
 | [],v=>by simp[bZ]
 | a::r,v=>by simp only[Zi,bZ,yZ r v];omega
theorem BC:∀(l m:List aR),bZ (l++m)=bZ l+bZ m
 | [],v=>by simp[bZ]
 | a::r,v=>by simp only[Zi,bZ,BC r v];omega
theorem CE:∀(l:List aR) (v:aR),gD (l++[v])=max (gD l) (iZ v)
 | [],v=>by simp[gD]
 | a::r,v=>by simp only[Zi,gD,CE r v];omega
theorem GG:∀v:aR,1<=bB v
 | .mk _ _ _ kids=>by simp only[bB];omega
theorem qV{l:List aR}{k:Nat}(h:k<l.length):bZ (l.take (k+1))=bZ (l.take k)+bB l[k]:=by
 rw[Ys h,yZ]
theorem IZ{l:List aR}{k:Nat}(h:k<l.length):gD (l.take (k+1))=max (gD (l.take k)) (iZ l[k]):=by
 rw[Ys h,CE]
theorem kY(l:List aR)(k:Nat):bZ (l.take k)<=bZ l:=by
 have:=BC (l.take k) (l.drop k);rw[List.take_append_drop] at this;omega
theorem GJ{l:List aR}{v:aR}(h:v∈l):bB v<=bZ l:=by
 induction l with
 | nil=>cases h
 | cons a r ih=>
  simp only[bZ];rcases Yr.1 h with rfl|h
  ·omega
  ·have:=ih h;omega
theorem xP(l:List aR):l.length<=bZ l:=by
 induction l with
 | nil=>simp
 | cons a r ih=>simp only[bZ,ZH];have:=GG a;omega
mutual
theorem rJ:∀v:aR,iZ v<=bB v
 | .mk _ _ _ kids=>by simp only[iZ,bB];have:=vY kids;omega
theorem vY:∀l:List aR,gD l<=bZ l
 | []=>by simp[gD]
 | v::r=>by simp only[gD,bZ];have:=rJ v;have:=vY r;omega
end
def x8(c:Int):Bool:=(decide (97<=c) && decide (c<=122)) || (decide (65<=c) && decide (c<=90)) || (decide (48<=c) && decide (c<=57)) || decide (c=95)
def upper(c:Int):Bool:=decide (65<=c) && decide (c<=90)
def fU:List UInt8->Bool
 | []=>false
 | c::r=>decide (r.length<16) && upper c.toNat && r.all fun c=>x8 c.toNat
theorem IY{c:Int}(h:upper c=true):x8 c=true:=by
 simp[upper,x8] at *;omega
def cT(k n:Int)(s:List UInt8)(len:Nat):Bool:=
 if k=0 then decide (s=[]) && decide (len=0)
 else if k=1 then(decide (n=0) || decide (n=1)) && decide (s=[]) && decide (len=0)
 else if k=2 then decide (n=0) && decide (s=[])
 else if k=3 then decide (n=0) && fU s
 else false
def vT(k:Int)(len:Nat):Bool:=decide (len<=256) && (decide (k≠3) || decide (len<=16))
mutual
def bR:aR->Bool
 | .mk k n s kids=>cT k n s kids.length && cS kids
def cS:List aR->Bool
 | []=>true
 | v::r=>bR v && cS r
end
mutual
def yE:aR->Bool
 | .mk k _ _ kids=>vT k kids.length && AZ kids
def AZ:List aR->Bool
 | []=>true
 | v::r=>yE v && AZ r
end
def A1(k:Int)(len:Nat):Bool:=(decide (k=2) && decide (256<len)) || (decide (k=3) && decide (16<len))
mutual
def kW:aR->Bool
 | .mk k _ _ kids=>A1 k kids.length || qP kids
def qP:List aR->Bool
 | []=>false
 | v::r=>kW v || qP r
end
theorem LI{k n:Int}{s:List UInt8}{len:Nat}(h:cT k n s len=true):A1 k len = !vT k len:=by
 rw[ZN];unfold cT at h;simp only[A1,vT,Zy,Yk,ZA,Bool.not_eq_true',aAu,aAz,aAf];repeat' split at h
 all_goals simp at h
 all_goals omega
mutual
theorem Bg:∀v:aR,bR v=true->kW v = !yE v
 | .mk k n s kids,h=>by
  simp only[bR,Yk] at h;rw[kW,yE,LI h.1,FA kids h.2,Bool.not_and]
theorem FA:∀l:List aR,cS l=true->qP l = !AZ l
 | [],_=>rfl
 | v::r,h=>by
  simp only[cS,Yk] at h;rw[qP,AZ,Bg v h.1,FA r h.2,Bool.not_and]
end
def bP(v:aR):Int:=if bR v=false then 1 else if kW v=true∨1024<bB v then 4 else 0
theorem pQ{l:List aR}{k:Nat}(h:k<l.length):cS (l.take (k+1))=(cS (l.take k) && bR l[k]):=by
 rw[Ys h];generalize l.take k=m
 induction m with
 | nil=>simp[cS]
 | cons a r ih=>simp only[Zi,cS,ih,aBL]
theorem K1{l:List aR}{k:Nat}(h:k<l.length):qP (l.take (k+1))=(qP (l.take k) || kW l[k]):=by
 rw[Ys h];generalize l.take k=m
 induction m with
 | nil=>simp[qP]
 | cons a r ih=>simp only[Zi,qP,ih,Bool.or_assoc]
theorem oY:∀{l:List aR} {v:aR},v∈l->bR v=false->cS l=false
 | a::r,v,h,hf=>by
  simp only[cS];rcases Yr.1 h with rfl|h
  ·rw[hf];rfl
  ·rw[oY h hf];simp
theorem Fj:∀{l:List aR} {v:aR},v∈l->kW v=true->qP l=true
 | a::r,v,h,hf=>by
  simp only[qP];rcases Yr.1 h with rfl|h
  ·rw[hf];rfl
  ·rw[Fj h hf];simp
mutual
def pC{S:Type}(st:S->aR->Nat->Bool × S):aR->Nat->S->Bool × S
 | .mk k n s kids,d,x=>match st x (.mk k n s kids) d with
  | (false,y)=>(false,y)
  | (true,y)=>qG st kids (d+1) y
def qG{S:Type}(st:S->aR->Nat->Bool × S):List aR->Nat->S->Bool × S
 | [],_,x=>(true,x)
 | v::r,d,x=>match pC st v d x with
  | (false,y)=>(false,y)
  | (true,y)=>qG st r d y
end
def dO(x:Nat × Bool × Bool)(v:aR)(_:Nat):Bool × (Nat × Bool × Bool):=
 match v with
 | .mk k n s kids=>(x.2.1 && cT k n s kids.length,(x.1+1,x.2.1 && cT k n s kids.length,x.2.2 && vT k kids.length))
mutual
theorem Fx:∀(v:aR) (d n:Nat) (sm:Bool),∃n',pC dO v d (n,true,sm)=(bR v,(n',bR v,if bR v then sm && yE v else(pC dO v d (n,true,sm)).2.2.2))/\n'<=n+bB v/\(bR v=true->n'=n+bB v)
 | .mk k m s kids,d,n,sm=>by
  cases hf:cT k m s kids.length with
  | false=>
   refine⟨n+1, ?_,by simp only[bB];omega,fun h=>?_⟩
   ·simp only[pC,dO,hf,aAK,bR,aAL,Z8,if_false]
   ·simp[bR,hf] at h
  | true=>
   obtain⟨n',h1,h2,h3⟩:=Dw kids (d+1) (n+1) (sm && vT k kids.length);refine⟨n', ?_,by simp only[bB];omega,fun h=>?_⟩
   ·simp only[pC,dO,hf,Bool.and_true,bR,aAS];rw[h1];cases cS kids with
    | true=>simp[yE,aBL]
    | false=>simp
   ·simp only[bR,hf,aAS] at h;rw[h3 h];simp only[bB];omega
theorem Dw:∀(l:List aR) (d n:Nat) (sm:Bool),∃n',qG dO l d (n,true,sm)=(cS l,(n',cS l,if cS l then sm && AZ l else(qG dO l d (n,true,sm)).2.2.2))/\n'<=n+bZ l/\(cS l=true->n'=n+bZ l)
 | [],d,n,sm=>⟨n,by simp[qG,cS,AZ],by simp,fun _=>by simp[bZ]⟩
 | v::r,d,n,sm=>by
  obtain⟨n1,h1,h2,h3⟩:=Fx v d n sm;cases hf:bR v with
  | false=>
   rw[hf] at h1;refine⟨n1, ?_,by simp only[bZ];omega,fun h=>?_⟩
   ·simp only[qG,cS,hf,aAL,Z8,if_false];rw[h1]
   ·simp[cS,hf] at h
  | true=>
   rw[hf] at h1;simp only[if_true] at h1;obtain⟨n2,g1,g2,g3⟩:=Dw r d n1 (sm && yE v);refine⟨n2, ?_,by simp only[bZ];omega,fun h=>?_⟩
   ·simp only[qG,cS,hf,aAS];rw[h1];simp only;rw[g1];cases cS r with
    | true=>simp[AZ,aBL]
    | false=>simp
   ·simp only[cS,hf,aAS] at h;rw[g3 h,h3 hf];simp only[bZ];omega
end
theorem OG(v:aR):(match (pC dO v 1 (0,true,true)).2 with|(n,good,small)=>if good=false then(1:Int) else if small=false∨1024<n then 4 else 0)=bP v:=by
 obtain⟨n',h1,h2,h3⟩:=Fx v 1 0 true;rw[h1];unfold bP;cases hf:bR v with
 | false=>simp
 | true=>
  rw[Bg v hf,h3 hf];simp
theorem jS{k n:Int}(hk:i64 k)(hn:i64 n):g9 (.mk k n [] []):=by
 simp only[g9,rE];exact⟨hk,hn,by simp,by simp,trivial⟩
theorem kS{n:Int}{l:List aR}{k:Int}{s:List UInt8}(hk:i64 k)(hn:i64 n)(hs:s.length<=4294967296)(hl:l.length<=4294967296)(h:rE l):g9 (.mk k n s l):=by
 simp only[g9];exact⟨hk,hn,hs,hl,h⟩
theorem zJ{s:List UInt8}{a:UInt8}(h0:s[0]? = some a)(hl:s.length<=16)(hu:upper a.toNat=true)(hall:∀(j:Nat) (c:UInt8),s[j]? = some c->x8 c.toNat=true):fU s=true:=by
 cases s with
 | nil=>simp at h0
 | cons b r=>
  simp at h0;subst h0;simp only[fU,Yk,ZA,Z9];refine⟨⟨by simp at hl;omega,hu⟩,fun c hc=>?_⟩;obtain⟨j,hj⟩:=ZQ hc;exact hall (j+1) c (by simpa using hj)
theorem wT{s:List UInt8}(h:s.length<1):fU s=false:=by
 cases s with
 | nil=>rfl
 | cons b r=>simp at h
theorem mS{s:List UInt8}(h:16<s.length):fU s=false:=by
 cases s with
 | nil=>rfl
 | cons b r=>simp only[fU];simp at h;rw[ZC (by omega)];rfl
theorem lQ{s:List UInt8}{a:UInt8}(h0:s[0]? = some a)(hu:upper a.toNat=false):fU s=false:=by
 cases s with
 | nil=>rfl
 | cons b r=>simp at h0;subst h0;simp only[fU];rw[hu];simp
theorem zO{s:List UInt8}{j:Nat}{c:UInt8}(h:s[j]? = some c)(hc:x8 c.toNat=false):fU s=false:=by
 cases s with
 | nil=>rfl
 | cons b r=>
  cases j with
  | zero=>
   simp at h;subst h;refine lQ (a:=b) rfl ?_;cases hu:upper b.toNat with
   | false=>rfl
   | true=>rw[IY hu] at hc;cases hc
  | succ j=>
   simp only[fU];have:(r.all fun c=>x8 c.toNat)=false:=by
    rw[Z7];intro hall;rw[Z9] at hall;have:=hall c (Yv (by simpa using h));rw[hc] at this;cases this
   rw[this];simp
mutual
def BK(g:Nat->Nat->Nat):aR->Nat->Nat->Nat
 | .mk _ _ _ kids,d,x=>wO g kids (d+1) (g x d)
def wO(g:Nat->Nat->Nat):List aR->Nat->Nat->Nat
 | [],_,x=>x
 | v::r,d,x=>wO g r d (BK g v d x)
end
theorem GR(g:Nat->Nat->Nat):∀(l:List aR) (v:aR) (d x:Nat),wO g (l++[v]) d x=BK g v d (wO g l d x)
 | [],v,d,x=>by simp[wO]
 | a::r,v,d,x=>by simp only[Zi,wO];exact GR g r v d _
theorem OP(g:Nat->Nat->Nat){l:List aR}{k:Nat}(h:k<l.length)(d x:Nat):wO g (l.take (k+1)) d x=BK g l[k] d (wO g (l.take k) d x):=by
 rw[Ys h,GR]
mutual
theorem R3{g:Nat->Nat->Nat}(hg:∀n d,g n d<=max (n+1) d):∀(v:aR) (d n:Nat),BK g v d n<=max n (d+iZ v)+bB v
 | .mk k m s kids,d,n=>by
  simp only[BK,iZ,bB];have h1:=hg n d;have h2:=Hz hg kids (d+1) (g n d);omega
theorem Hz{g:Nat->Nat->Nat}(hg:∀n d,g n d<=max (n+1) d):∀(l:List aR) (d n:Nat),wO g l d n<=max n (d+gD l)+bZ l
 | [],d,n=>by simp only[wO];omega
 | v::r,d,n=>by
  simp only[wO,gD,bZ];have h1:=R3 hg v d n;have h2:=Hz hg r d (BK g v d n);omega
end
mutual
theorem J2:∀(v:aR) (d n:Nat),BK (fun n _=>n+1) v d n=n+bB v
 | .mk k m s kids,d,n=>by simp only[BK,bB];rw[Gi];omega
theorem Gi:∀(l:List aR) (d n:Nat),wO (fun n _=>n+1) l d n=n+bZ l
 | [],d,n=>by simp[wO,bZ]
 | v::r,d,n=>by simp only[wO,bZ];rw[J2,Gi];omega
end
theorem Ff{S:Type}(st:S->aR->Nat->Bool × S):∀(l:List aR) (v:aR) (d:Nat) (x:S),qG st (l++[v]) d x=match qG st l d x with|(false,y)=>(false,y)|(true,y)=>pC st v d y
 | [],v,d,x=>by
  simp only[ZS,qG];cases pC st v d x with|mk b y=>cases b<;>rfl
 | a::r,v,d,x=>by
  simp only[Zi,qG];cases pC st a d x with
  | mk b y=>cases b with
   | false=>rfl
   | true=>exact Ff st r v d y
theorem Ns{S:Type}(st:S->aR->Nat->Bool × S){l:List aR}{k:Nat}(h:k<l.length)(d:Nat)(x y:S)(hx:qG st (l.take k) d x=(true,y)):qG st (l.take (k+1)) d x=pC st l[k] d y:=by
 rw[Ys h,Ff,hx]
theorem Fm{S:Type}(st:S->aR->Nat->Bool × S):∀{l m:List aR} {d:Nat} {x y:S},qG st l d x=(false,y)->qG st (l++m) d x=(false,y)
 | [],m,d,x,y,h=>by simp[qG] at h
 | a::r,m,d,x,y,h=>by
  simp only[qG] at h;simp only[Zi,qG];cases he:pC st a d x with
  | mk b z=>
   rw[he] at h;cases b with
   | false=>simpa using h
   | true=>exact Fm st h
theorem zU:∀{l:List aR} {v:aR},v∈l->iZ v<=gD l
 | a::r,v,h=>by
  simp only[gD];rcases Yr.1 h with rfl|h
  ·omega
  ·have:=zU h;omega
theorem yT:∀(l m:List aR),gD (l++m)=max (gD l) (gD m)
 | [],m=>by simp[gD]
 | a::r,m=>by simp only[Zi,gD,yT r m];omega
theorem DV(l:List aR)(k:Nat):gD (l.take k)<=gD l:=by
 have:=yT (l.take k) (l.drop k);rw[List.take_append_drop] at this;omega
mutual
theorem So:∀(v:aR) (d:Nat) (x:Nat × Bool × Bool),(pC dO v d x).2.1<=x.1+bB v
 | .mk k n s kids,d,x=>by
  simp only[pC,dO,bB];split
  ·rename_i h;simp only[Prod.mk.injEq] at h;rw[←h.2];simp only;omega
  ·rename_i h;simp only[Prod.mk.injEq] at h;rw[←h.2];have:=E8 kids (d+1) (x.1+1,x.2.1 && cT k n s kids.length,x.2.2 && vT k kids.length);simp only at this;omega
theorem E8:∀(l:List aR) (d:Nat) (x:Nat × Bool × Bool),(qG dO l d x).2.1<=x.1+bZ l
 | [],d,x=>by simp[qG]
 | v::r,d,x=>by
  simp only[qG,bZ];have h1:=So v d x;split
  ·rename_i y h;rw[h] at h1;simp only at h1 ⊢;omega
  ·rename_i y h;rw[h] at h1;have:=E8 r d y;simp only at h1;omega
end
structure Nd where
 kind:Int
 name:List UInt8
 lo:Int
 hi:Int
 weights:List Int
 labels:List (List UInt8)
 values:List aR
 kids:List Int
 value:aR
def rO(l:List (List UInt8)):List AV:=l.map AV.str
def cD(x:Nd):AV:=
 match x.value with
 | .mk k n s ks=>.agg [.int .i64 x.kind,.str x.name,.int .i64 x.lo,.int .i64 x.hi,.il 1 (bH x.weights),.il 1 (rO x.labels),.il 4 (aU x.values),.il 1 (bH x.kids),.int .i64 k,.int .i64 n,.str s,.il 4 (aU ks)]
def bG(l:List Nd):List AV:=l.map cD
theorem oQ(l:List (List UInt8)):kI (rO l):=fun a ha=>by
 obtain⟨n,_,rfl⟩:=ZF.1 ha;exact .str _
theorem bY(l:List (List UInt8)):(rO l).length=l.length:=by rw[rO,aAn]
theorem J1(l:List (List UInt8))(i:Nat):(rO l)[i]? = (l[i]?).map AV.str:=by rw[rO,ZO]
theorem aV(x:Nd):NN (cD x):=by
 unfold cD;split;exact .agg' (.cons (.int _ _) (.cons (.str _) (.cons (.int _ _) (.cons (.int _ _) (.cons (.il' (bE _)) (.cons (.il' (oQ _)) (.cons (.il' (bI _)) (.cons (.il' (bE _)) (.cons (.int _ _) (.cons (.int _ _) (.cons (.str _) (.cons (.il' (bI _)) .nil))))))))))))
theorem aP(l:List Nd):kI (bG l):=fun a ha=>by
 obtain⟨n,_,rfl⟩:=ZF.1 ha;exact aV n
theorem cG(l:List Nd):(bG l).length=l.length:=by rw[bG,aAn]
theorem mM(l:List Nd)(i:Nat):(bG l)[i]? = (l[i]?).map cD:=by rw[bG,ZO]
structure uW(x:Nd):Prop where
 kind:i64 x.kind
 name:x.name.length<=4294967296
 lo:i64 x.lo
 hi:i64 x.hi
 weights:x.weights.length<=4294967296
 weightsI:∀w∈x.weights,i64 w
 labels:x.labels.length<=4294967296
 labelsI:∀w∈x.labels,w.length<=4294967296
 values:x.values.length<=4294967296
 valuesI:∀v∈x.values,g9 v/\bB v<=4294967296
 kids:x.kids.length<=4294967296
 kidsI:∀k∈x.kids,i64 k
 value:g9 x.value
 valueS:bB x.value<=4294967296
def Er:aR->Bool
 | .mk k n s ks=>decide (k=0) && decide (n=0) && decide (s=[]) && decide (ks.length=0)
def lH(x:Nd):Bool:=
 (decide (x.kind=0) || Er x.value) && (decide (x.kind=1) || (decide (x.lo=0) && decide (x.hi=0))) && (decide (x.kind=3) || decide (x.name=[])) &&
 (decide (x.kind=2) || (decide (x.weights.length=0) && decide (x.labels.length=0))) && (decide (x.kind=4) || decide (x.values.length=0)) && ((decide (x.kind≠0) && decide (x.kind≠1)) || decide (x.kids.length=0))
def eI:List aR->Bool
 | a::b::r=>decide (cE a b<0) && eI (b::r)
 | _=>true
def o8(i:Int)(l:List Int):Bool:=l.all fun k=>decide (0<=k) && decide (k<i)
def dN(i:Int)(x:Nd):Bool:=
 lH x && (decide (0<=x.kind) && decide (x.kind<=4)) && o8 i x.kids &&
 (decide (x.kind≠2) || (decide (1<=x.kids.length) && decide (x.kids.length<=256) && decide (x.weights.length=x.kids.length) && (decide (x.labels.length=0) || decide (x.labels.length=x.kids.length)))) &&
 (decide (x.kind≠3) || (decide (x.kids.length<=256) && (decide (x.name=[]) || (fU x.name && decide (x.kids.length<=16))))) &&
 (decide (x.kind≠4) || decide (x.kids.length=x.values.length+1)) && eI x.values
def dT(x:Nd):Bool:=
 decide (x.lo<=x.hi) && decide (-4611686018427387904<=x.lo) && decide (x.hi<=4611686018427387904) && decide (x.hi<x.lo+1099511627776) && x.weights.all fun w=>decide (1<=w) && decide (w<=1000)
def eP:List aR->Int
 | []=>0
 | v::r=>if bP v≠0 then bP v else eP r
def qM(x:Nd):List aR:=(if x.kind=0 then [x.value] else [])++x.values
def fS(i:Int)(x:Nd):Int:=
 if dN i x=false then 1 else if eP (qM x)≠0 then eP (qM x) else if dT x=false then 5 else 0
def eS(l:List Int)(k:Int):Int:=l.getD k.toNat 0
def iF(before kids:List Int):Int:=kids.foldl (fun s k=>s+eS before k) 0
def dE(before kids:List Int):Int:=kids.foldl (fun s k=>max s (eS before k)) 0
def f6(x:Nd):List Int:=if x.kind=2 then x.kids else x.kids.drop 1
def iJ(before:List Int)(x:Nd):Int:=
 if x.kind=0 then 0 else if x.kind=1 then 1 else if x.kind=3 then iF before x.kids else if x.kind=2 then 1+dE before (f6 x) else eS before (x.kids.getD 0 0)+dE before (f6 x)
def lP(before:List Int)(x:Nd):Int:=
 if x.kind=0 then bB x.value else if x.kind=1 then 1 else if x.kind=3 then 1+iF before x.kids else dE before (f6 x)
structure jF where
 vals:List aR
 many:Bool
def eA(name:List UInt8)(kids:List aR):aR:=if name=[] then .mk 2 0 [] kids else .mk 3 0 name kids
def dS(l:List jF)(k:Int):jF:=l.getD k.toNat ⟨[],false⟩
def gS(lo hi:Int):List aR:=(List.range (hi+1-lo).toNat).map fun i:Nat=>.mk 0 (lo+(i:Int)) [] []
def cK(before:List jF)(x:List aR × Bool)(k:Int):List aR × Bool:=
 (fO (x.1++(dS before k).vals),x.2 || (dS before k).many || decide (1024<(fO (x.1++(dS before k).vals)).length))
def pT(before:List jF)(kids:List Int):jF:=
 if (kids.foldl (cK before) ([],false)).2 then⟨[],true⟩ else⟨(kids.foldl (cK before) ([],false)).1,false⟩
def f7(rows:List (List aR))(l:List aR):List (List aR):=rows.flatMap fun r=>l.map fun v=>r++[v]
def gW(before:List jF):List Int->List (List aR)->Option (List (List aR))
 | [],rows=>some rows
 | k::r,rows=>if (dS before k).many=true∨1024<rows.length*(dS before k).vals.length then none else gW before r (f7 rows (dS before k).vals)
def sI(before:List jF)(x:Nd):jF:=
 match gW before x.kids [[]] with
 | none=>⟨[],true⟩
 | some rows=>⟨fO (rows.map (eA x.name)),false⟩
def dR(x:Nd)(before:List jF):jF:=
 if x.kind=0 then⟨[x.value],false⟩
 else if x.kind=1 then(if 1024<=x.hi-x.lo then⟨[],true⟩ else⟨gS x.lo x.hi,false⟩)
 else if x.kind=3 then sI before x
 else pT before (if x.kind=4 then x.kids.drop 1 else x.kids)
def aO(nodes:List Nd):List jF:=nodes.foldl (fun out x=>out++[dR x out]) []
def c9:List aR->List aR->Bool
 | [],[]=>true
 | a::l,b::m=>decide (cE a b=0) && c9 l m
 | _,_=>false
def fK(nodes:List Nd)(x:Nd):Int:=
 let l:=dS (aO (nodes.take ((x.kids.getD 0 0).toNat+1))) (x.kids.getD 0 0)
 if l.many=true then 4 else if c9 l.vals x.values=true then 0 else 1
def iE(before:List Nd)(ls ss:List Int)(x:Nd):Int:=
 if fS before.length x≠0 then fS before.length x
 else if 256<iJ ls x∨1024<lP ss x then 4
 else if x.kind=4 then fK before x else 0
def b8(nodes:List Nd):List Int:=nodes.foldl (fun ls x=>ls++[iJ ls x]) []
def cV(nodes:List Nd):List Int:=nodes.foldl (fun ls x=>ls++[lP ls x]) []
def cP:List Nd->List Nd->Int
 | _,[]=>0
 | before,x::r=>if iE before (b8 before) (cV before) x≠0 then iE before (b8 before) (cV before) x else cP (before++[x]) r
def dM(nodes:List Nd):Int:=if 4096<nodes.length then 4 else cP [] nodes
theorem gF:∀(b l:List Nd) (x:Nd),cP b l=0->cP b (l++[x])=iE (b++l) (b8 (b++l)) (cV (b++l)) x
 | b,[],x,h=>by
  simp only[ZS,cP,ZZ];split
  ·rfl
  ·rename_i h1;simpa using (Eq.symm (Decidable.not_not.1 h1))
 | b,y::r,x,h=>by
  simp only[Zi,cP] at h ⊢;split at h
  ·rename_i h1;exact absurd h h1
  ·rename_i h1;rw[Yo h1,gF (b++[y]) r x h];simp
theorem lK(l:List Nd)(x:Nd):b8 (l++[x])=b8 l++[iJ (b8 l) x]:=by simp[b8]
theorem lV(l:List Nd)(x:Nd):cV (l++[x])=cV l++[lP (cV l) x]:=by simp[cV]
theorem iT(l:List Nd)(x:Nd):aO (l++[x])=aO l++[dR x (aO l)]:=by simp[aO]
def mV(n most:Int):Int:=(if n<0 then -(n+1) else n).tmod most
def nF(l:List Int)(i most:Int):Int:=if i<0∨(l.length:Int)<=i then 0 else mV (l.getD i.toNat 0) most
theorem kX{n most:Int}(h:1<=most):0<=mV n most/\mV n most<most:=by
 unfold mV;have h0:0<=(if n<0 then -(n+1) else n):=by split<;>omega
 exact⟨aAC _ h0,aAx _ (by omega)⟩
theorem mG{l:List Int}{i most:Int}(h:1<=most):0<=nF l i most/\nF l i most<most:=by
 unfold nF;split
 ·omega
 ·exact kX h
def yL(k:Int):aR:=
 if k.tmod 4=0 then .mk 0 ((k.tdiv 4).tmod 9-4) [] []
 else if k.tmod 4=1 then .mk 1 ((k.tdiv 4).tmod 2) [] []
 else if k.tmod 4=2 then .mk 3 0 (([[76,101,97,102],[82,101,100],[88]]:List (List UInt8)).getD ((k.tdiv 4).tmod 3).toNat []) []
 else .mk 2 0 [] [.mk 0 ((k.tdiv 4).tmod 3) [] []]
def kidI(l:List Int)(i j:Int):Int:=
 if (nF l (3*i+j+2) 1000000).tmod 3=0 then((nF l (3*i+j+2) 1000000).tdiv 3).tmod i else max 0 (i-1-((nF l (3*i+j+2) 1000000).tdiv 3).tmod 3)
theorem l7:∀{l:List aR},(∀(j:Nat) (a b:aR),l[j]? = some a->l[j+1]? = some b->cE a b<0)->eI l=true
 | [],_=>rfl
 | [a],_=>rfl
 | a::b::r,h=>by
  simp only[eI,Yk,ZA];exact⟨h 0 a b rfl rfl,l7 fun j x y hx hy=>h (j+1) x y (by simpa using hx) (by simpa using hy)⟩
theorem mA:∀{l:List aR},eI l=true->∀(j:Nat) (a b:aR),l[j]? = some a->l[j+1]? = some b->cE a b<0
 | [],_,j,a,b,h1,h2=>by simp at h1
 | [x],_,j,a,b,h1,h2=>by simp at h2
 | x::y::r,h,j,a,b,h1,h2=>by
  simp only[eI,Yk,ZA] at h;cases j with
  | zero=>simp at h1 h2;subst h1 h2;exact h.1
  | succ j=>exact mA h.2 j a b (by simpa using h1) (by simpa using h2)
theorem eZ{i:Int}{l:List Int}:o8 i l=true↔∀(j:Nat) (k:Int),l[j]? = some k->0<=k/\k<i:=by
 simp only[o8,Z9,Yk,ZA];constructor
 ·intro h j k hj;exact h k (Yv hj)
 ·intro h k hk;obtain⟨j,hj⟩:=ZQ hk;exact h j k hj
theorem ER:∀{l m:List aR},l.length≠m.length->c9 l m=false
 | [],[],h=>absurd rfl h
 | [],_::_,_=>rfl
 | _::_,[],_=>rfl
 | a::l,b::m,h=>by
  rw[c9,ER (l:=l) (m:=m) (by simpa using h),aAK]
theorem xA{b l:List Int}{k:Nat}(h:k<l.length):iF b (l.take (k+1))=iF b (l.take k)+eS b l[k]:=by
 unfold iF;rw[Ys h,Zb];rfl
theorem sV{b l:List Int}{k:Nat}(h:k<l.length):dE b (l.take (k+1))=max (dE b (l.take k)) (eS b l[k]):=by
 unfold dE;rw[Ys h,Zb];rfl
theorem qJ{b l:List Int}{k:Nat}(h:k<l.length)(hk:0<k):dE b ((l.take (k+1)).drop 1)=max (dE b ((l.take k).drop 1)) (eS b l[k]):=by
 rw[Ys h,aBo (by simp;omega)];simp[dE]
theorem n7{b:List Int}{M:Int}(hM:0<=M)(h:∀x∈b,0<=x/\x<=M)(q:Int):0<=eS b q/\eS b q<=M:=by
 unfold eS;rw[Ym];cases hq:b[q.toNat]? with
 | none=>simp;omega
 | some x=>exact h x (Yv hq)
theorem xU(b:List Int):∀(l:List Int) (s:Int),l.foldl (fun s k=>s+eS b k) s=s+iF b l
 | [],s=>by simp[iF]
 | a::r,s=>by
  simp only[Y9,iF];rw[xU b r,xU b r (0+eS b a)];simp[iF];omega
theorem jT{b:List Int}{M:Int}(hM:0<=M)(h:∀x∈b,0<=x/\x<=M):∀l:List Int,0<=iF b l/\iF b l<=l.length*M
 | []=>by simp[iF]
 | a::r=>by
  have h1:=jT hM h r;have h2:=n7 hM h a;have e:iF b (a::r)=eS b a+iF b r:=by simp only[iF,Y9];rw[xU b r];simp[iF]
  rw[e];simp only[ZH];have:((r.length+1:Nat):Int)*M=r.length*M+M:=by rw[Int.natCast_add,Int.add_mul];simp
  omega
theorem GM(b:List Int){M:Int}(h:∀q,0<=eS b q/\eS b q<=M):∀(l:List Int) (s:Int),0<=s->s<=M->0<=l.foldl (fun s k=>max s (eS b k)) s/\l.foldl (fun s k=>max s (eS b k)) s<=M
 | [],s,h1,h2=>⟨h1,h2⟩
 | a::r,s,h1,h2=>by
  have:=h a;simp only[Y9];exact GM b h r (max s (eS b a)) (by omega) (by omega)
theorem iX{b:List Int}{M:Int}(hM:0<=M)(h:∀x∈b,0<=x/\x<=M)(l:List Int):0<=dE b l/\dE b l<=M:=
 GM b (n7 hM h) l 0 (by omega) hM
theorem aF.useApp{P:Program}{Γ:List (Nat × AV)}{F:FuncId}{args args':List AV}{mem:aQ}{nx:Nat}{t:TypeId}{sz:Nat}{xs:List AV}{R:Nat->List AV->Prop}{K:AV->aQ->Nat->Prop}(hΓ:∀p∈Γ,NN p.2)
  (h:aF P Γ F args' [(0,.row t sz xs)] 1 fun r m _=>∃(len:Nat) (ys:List AV),r = .sl 1 0 len/\m=[(1,.row t sz ys)]/\kI ys/\R len ys) (g:Nat) (hg:lk mem g=some (.row t sz xs)) (hx:kI xs) (hargs:iB [(g,.row t sz xs)] [(g,0)] args args')
  (hk:∀len ys,R len ys->F7 g mem fun rest=>K (.sl nx 0 len) ((nx,.row t sz ys)::rest) (nx+1)):aF P Γ F args mem nx K:=by
 refine⟨fun X D ρ w vs hD hm hv=>?_⟩;refine(aF.use (K:=K) (nx:=nx) hΓ h [(g,0)] (m1:=[(g,.row t sz xs)]) (rest:=drop g mem) ⟨fun p hp=>?_,fun p hp=>dJ hp,fun p hp=>?_,fun p hp q hq=>?_,by simp⟩ (mC hm.nod) hargs (fun p hp=>?_) (by simp) (qT (by rfl)) (fun id i hl=>?_) ?_).run X D ρ w vs hD hm hv
 ·simp at hp;subst hp;exact bV hg
 ·by_cases hpg:p.1=g
  ·left;have:=uH hm.nod hp (bV hg) hpg;rw[this];simp
  ·exact .inr (vW hp hpg)
 ·simp at hp;subst hp;exact Ne.symm (uJ hm.nod hq)
 ·simp at hp;subst hp;exact .inl ⟨g,t,sz,xs,xs,rfl,by simp[lk],by simp[lk],.same hx⟩
 ·have:=bV hl;simp at this;omega
 ·rintro r m n ⟨len,ys,rfl,rfl,hn,hR⟩ _;refine⟨[(1,nx)],.sl nx 0 len,[(nx,.row t sz ys)],nx+1,aAW _,.sl 1 nx 0 len (by simp[lk]),fun p hp=>?_,by simp,qT (by rfl),fun i id hl=>?_,fun p hp q hq=>?_,xX.1 (hk len ys hR)⟩
  ·simp at hp;subst hp;exact .inl ⟨1,t,sz,ys,ys,rfl,by simp[lk],by simp[lk],.same hn⟩
  ·have:=bV hl;simp at this;obtain⟨rfl,rfl⟩:=this;exact .inr ⟨Yy _,Yy _,Zo _⟩
  ·simp at hp;subst hp;have:=hD _ (hm.low q (dJ hq));simp only;omega
def nJ(x:jF):AV:=.agg [.il 4 (aU x.vals),.bool x.many]
def encLs(l:List jF):List AV:=l.map nJ
theorem oO(x:jF):NN (nJ x):=.agg' (.cons (.il' (bI _)) (.cons (.bool _) .nil))
theorem encLs_nn(l:List jF):kI (encLs l):=fun a ha=>by
 obtain⟨n,_,rfl⟩:=ZF.1 ha;exact oO n
theorem encLs_length(l:List jF):(encLs l).length=l.length:=by rw[encLs,aAn]
theorem encLs_get(l:List jF)(i:Nat):(encLs l)[i]? = (l[i]?).map nJ:=by rw[encLs,ZO]
def tN(lo:Int)(k:Nat):List aR:=(List.range k).map fun i:Nat=>.mk 0 (lo+(i:Int)) [] []
theorem CI(lo:Int)(k:Nat):tN lo (k+1)=tN lo k++[.mk 0 (lo+(k:Int)) [] []]:=by simp[tN,aBa]
theorem FO(lo:Int)(k:Nat):(tN lo k).length=k:=by simp[tN]
theorem aF.useNew{P:Program}{Γ:List (Nat × AV)}{F:FuncId}{args:List AV}{mem:aQ}{nx:Nat}{t:TypeId}{sz len:Nat}{ys:List AV}{K:AV->aQ->Nat->Prop}(hΓ:∀p∈Γ,NN p.2)
  (h:aF P Γ F args [] 0 fun r m n=>r = .sl 0 0 len/\m=[(0,.row t sz ys)]/\n=1) (ha:kI args) (hn:kI ys) (hk:K (.sl nx 0 len) ((nx,.row t sz ys)::mem) (nx+1)):aF P Γ F args mem nx K:=by
 refine⟨fun X D ρ w vs hD hm hv=>?_⟩;refine(aF.use (K:=K) (nx:=nx) hΓ h [] (m1:=[]) (rest:=mem) ⟨(fun p hp=>by cases hp),fun p hp=>hp,fun p hp=>.inr hp,(fun p hp=>by cases hp),by simp⟩ hm.nod (D9 ha) (fun p hp=>by cases hp) (by simp) (fun i j k h=>by simp[lk] at h) (fun id i h=>by simp[lk] at h) ?_).run X D ρ w vs hD hm hv;rintro r m n ⟨rfl,rfl,rfl⟩ _;refine⟨[(0,nx)],.sl nx 0 len,[(nx,.row t sz ys)],nx+1,aAW _,.sl 0 nx 0 len (by simp[lk]),fun p hp=>?_,by simp,qT (by rfl),fun i id hl=>?_,fun p hp q hq=>?_,hk⟩
 ·simp at hp;subst hp;exact .inl ⟨0,t,sz,ys,ys,rfl,by simp[lk],by simp[lk],.same hn⟩
 ·have:=bV hl;simp at this;obtain⟨rfl,rfl⟩:=this;exact .inr ⟨Zd _,Yy _,Zo _⟩
 ·simp at hp;subst hp;have:=hD _ (hm.low q hq);simp only;omega
theorem xI{bs:List jF}(hb:∀b∈bs,b.vals.length<=1024/\∀v∈b.vals,g9 v):∀(l:List Int) (a:List aR × Bool) (n:Nat),a.1.length<=n->(∀v∈a.1,g9 v) ->
  (l.foldl (cK bs) a).1.length<=n+l.length*1024/\∀v∈(l.foldl (cK bs) a).1,g9 v
 | [],a,n,h1,h2=>⟨by simpa using h1,h2⟩
 | q::r,a,n,h1,h2=>by
  have hq:(dS bs q).vals.length<=1024/\∀v∈(dS bs q).vals,g9 v:=by
   unfold dS;rw[Ym];cases hc:bs[q.toNat]? with
   | none=>simp
   | some b=>exact hb b (Yv hc)
  have hs:=sU (a.1++(dS bs q).vals);simp only[Y1] at hs;have:=xI hb r (cK bs a q) (n+1024) (by simp only[cK];omega) (fun v hv=>by
   have:=r9 hv;rcases Yz.1 this with h|h
   ·exact h2 v h
   ·exact hq.2 v h)
  simp only[Y9,ZH];refine⟨by have:=this.1;omega,this.2⟩
theorem J9{α β:Type}(f:β->α->β){l:List α}{k:Nat}(h:k<l.length)(a:β):(l.take (k+1)).foldl f a=f ((l.take k).foldl f a) l[k]:=by
 rw[Ys h,Zb];rfl
theorem Kt{α β:Type}(f:β->α->β){l:List α}{k:Nat}(h:k<l.length)(hk:0<k)(a:β):((l.take (k+1)).drop 1).foldl f a=f (((l.take k).drop 1).foldl f a) l[k]:=by
 rw[Ys h,aBo (by simp;omega),Zb];rfl
theorem iQ{α:Type}{P:List α->Prop}(h0:P [])(h1:∀(l:List α) (x:α),P l->P (l++[x]))(l:List α):P l:=by
 rw[←List.reverse_reverse l]
 induction l.reverse with
 | nil=>exact h0
 | cons a r ih=>rw[aAA];exact h1 _ _ ih
structure jU(i:Nat)(x:Nd):Prop where
 ok:uW x
 kind:0<=x.kind/\x.kind<=4
 kids:∀(j:Nat) (k:Int),x.kids[j]? = some k->0<=k/\k<i
 klen:x.kids.length<=65536
 num:dT x=true
def Gc(bs:List jF):Prop:=∀b∈bs,b.vals.length<=1024/\∀v∈b.vals,g9 v
theorem cY{x:Nd}(h:dT x=true):x.lo<=x.hi/\-4611686018427387904<=x.lo/\x.hi<=4611686018427387904/\x.hi<x.lo+1099511627776:=by
 unfold dT at h;simp only[Yk,ZA] at h;exact⟨h.1.1.1.1,h.1.1.1.2,h.1.1.2,h.1.2⟩
theorem sD{rows:List (List aR)}{l:List aR}{r:List aR}(h:r∈f7 rows l):∃r'∈rows,∃v∈l,r=r'++[v]:=by
 simp only[f7,aAH,ZF] at h;obtain⟨r',h1,v,h2,rfl⟩:=h;exact⟨r',h1,v,h2,rfl⟩
theorem sC(l:List aR):∀rows:List (List aR),(f7 rows l).length=rows.length*l.length
 | []=>by simp[f7]
 | r::rs=>by
  have:=sC l rs;simp only[f7,Z0,Y1,aAn,ZH,Nat.add_mul,Zx] at this ⊢;omega
theorem r8{bs:List jF}(hb:Gc bs)(k:Int):(dS bs k).vals.length<=1024/\∀v∈(dS bs k).vals,g9 v:=by
 unfold dS;rw[Ym];cases h:bs[k.toNat]? with
 | none=>simp
 | some b=>exact hb b (Yv h)
theorem EI{bs:List jF}(hb:Gc bs):∀(kids:List Int) (rows out:List (List aR)) (n:Nat),rows.length<=1024->(∀r∈rows,r.length<=n/\∀v∈r,g9 v)->gW bs kids rows=some out->out.length<=1024/\∀r∈out,r.length<=n+kids.length/\∀v∈r,g9 v
 | [],rows,out,n,h1,h2,h=>by
  simp only[gW] at h;cases h;exact⟨h1,fun r hr=>⟨by simpa using (h2 r hr).1,(h2 r hr).2⟩⟩
 | k::ks,rows,out,n,h1,h2,h=>by
  simp only[gW] at h;split at h
  ·cases h
  ·rename_i hc;rw[not_or] at hc;have hg:=r8 hb k;obtain⟨a,b⟩:=EI hb ks _ out (n+1) (by rw[sC];omega) (fun r hr=>by
    obtain⟨r',h3,v,h4,rfl⟩:=sD hr;refine⟨by have:=(h2 r' h3).1;simp;omega,fun u hu=>?_⟩;rcases Yz.1 hu with hu|hu
    ·exact(h2 r' h3).2 u hu
    ·simp at hu;rw[hu];exact hg.2 v h4) h
   exact⟨a,fun r hr=>⟨by have:=(b r hr).1;simp;omega,(b r hr).2⟩⟩
theorem M6{name:List UInt8}(hn:name.length<=4294967296){r:List aR}(hr:r.length<=4294967296)(ho:∀v∈r,g9 v):g9 (eA name r):=by
 unfold eA;split
 ·exact kS ⟨by omega,by omega⟩ ⟨by omega,by omega⟩ (by simp) hr (qZ ho)
 ·exact kS ⟨by omega,by omega⟩ ⟨by omega,by omega⟩ hn hr (qZ ho)
theorem F6{bs:List jF}:∀(l:List Int) (a:List aR × Bool),(a.2=false->a.1.length<=1024)->(l.foldl (cK bs) a).2=false->(l.foldl (cK bs) a).1.length<=1024
 | [],a,h,h2=>h h2
 | k::r,a,h,h2=>by
  refine F6 r (cK bs a k) (fun h3=>?_) h2;simp only[cK,aAz,aAf] at h3 ⊢;omega
theorem K0{x:Nd}{i:Nat}{bs:List jF}(hx:jU i x)(hb:Gc bs):(dR x bs).vals.length<=1024/\∀v∈(dR x bs).vals,g9 v:=by
 unfold dR;have hnum:=cY hx.num;split
 ·exact⟨by simp,fun v hv=>by simp at hv;rw[hv];exact hx.ok.value⟩
 ·split
  ·split
   ·simp
   ·refine⟨by simp[gS];omega,fun v hv=>?_⟩;simp only[gS,ZF,aA2] at hv;obtain⟨j,hj,rfl⟩:=hv;exact jS ⟨by omega,by omega⟩ ⟨by omega,by omega⟩
  ·split
   ·unfold sI;split
    ·simp
    ·rename_i rows hr;obtain⟨h1,h2⟩:=EI hb x.kids [[]] rows 0 (by simp) (by simp) hr;refine⟨by have:=sU (rows.map (eA x.name));simp at this ⊢;omega,fun v hv=>?_⟩;have:=r9 hv;obtain⟨r,hr2,rfl⟩:=ZF.1 this;have h3:=h2 r hr2;have:=hx.klen;exact M6 hx.ok.name (by omega) h3.2
   ·generalize (if x.kind=4 then x.kids.drop 1 else x.kids)=ks;unfold pT;split
    ·simp
    ·rename_i hm;have hm:(ks.foldl (cK bs) ([],false)).2=false:=by simpa using hm
     exact⟨F6 _ _ (by simp) hm,(xI hb _ ([],false) 0 (by simp) (by simp)).2⟩
theorem eH(l:List Nd):(aO l).length=l.length:=by
 refine iQ (P:=fun l=>(aO l).length=l.length) rfl (fun l x ih=>?_) l;rw[iT];simp[ih]
theorem jY(l:List Nd):(∀(i:Nat) (x:Nd),l[i]? = some x->jU i x)->Gc (aO l):=by
 refine iQ (P:=fun l=>(∀(i:Nat) (x:Nd),l[i]? = some x->jU i x)->Gc (aO l)) (fun _ b hb=>by simp[aO] at hb) (fun l x ih h=>?_) l;have h1:=ih fun i y hy=>h i y (by
  have:=(Yn.1 hy).1;rw[ZL this];exact hy)
 have h2:=h l.length x (by simp);rw[iT];intro b hb;rcases Yz.1 hb with hb|hb
 ·exact h1 b hb
 ·simp at hb;rw[hb];exact K0 h2 h1
theorem D1:∀(b l r:List Nd),cP b l=0->cP b (l++r)=cP (b++l) r
 | b,[],r,_=>by simp
 | b,y::l,r,h=>by
  simp only[Zi,cP] at h ⊢;split at h
  ·rename_i h1;exact absurd h h1
  ·rename_i h1;rw[Yo h1,D1 (b++[y]) l r h];simp
theorem jR{l r:List Nd}(h:cP [] (l++r)=0):cP [] l=0:=by
 have key:∀(l b:List Nd),cP b (l++r)=0->cP b l=0:=by
  intro l
  induction l with
  | nil=>intro b _;rfl
  | cons y l ih=>
   intro b h;simp only[Zi,cP] at h ⊢;split at h
   ·rename_i h1;exact absurd h h1
   ·rename_i h1;rw[Yo h1];exact ih _ h
 exact key l [] h
theorem vZ{l r:List Nd}{x:Nd}(h:cP [] l=0)(hs:iE l (b8 l) (cV l) x≠0):cP [] (l++x::r)=iE l (b8 l) (cV l) x:=by
 rw[D1 _ _ _ h];simp only[ZS,cP];rw[Yt hs]
theorem o6:∀{l m:List aR},c9 l m=true->l.length=m.length
 | [],[],_=>rfl
 | a::l,b::m,h=>by
  simp only[c9,Yk] at h;simp[o6 h.2]
 | [],b::m,h=>by simp[c9] at h
 | a::l,[],h=>by simp[c9] at h
structure Gm(i:Nat)(x:Nd):Prop where
 kind:0<=x.kind/\x.kind<=4
 kids:∀(j:Nat) (k:Int),x.kids[j]? = some k->0<=k/\k<i
 num:dT x=true
 klen:x.kind≠4->x.kids.length<=256
 bind:x.kind=4->x.kids.length=x.values.length+1
theorem mT{i:Nat}{x:Nd}(h:fS i x=0):Gm i x:=by
 unfold fS at h;split at h
 ·omega
 ·rename_i hf;split at h
  ·rename_i h1;exact absurd h h1
  ·split at h
   ·omega
   ·rename_i hn;have hn:dT x=true:=by simpa using hn
    have hf:dN i x=true:=by simpa using hf
    unfold dN at hf;simp only[Yk,Zy,ZA] at hf;obtain⟨⟨⟨⟨⟨⟨hu,hk⟩,hki⟩,h2⟩,h3⟩,h4⟩,_⟩:=hf;refine⟨hk,eZ.1 hki,hn,fun hne=>?_,fun he=>by omega⟩;unfold lH at hu;simp only[Yk,Zy,ZA] at hu;rcases(show x.kind=0∨x.kind=1∨x.kind=2∨x.kind=3 by omega) with e|e|e|e
    ·have:=hu.2;omega
    ·have:=hu.2;omega
    ·rcases h2 with h2|h2
     ·omega
     ·exact h2.1.1.2
    ·rcases h3 with h3|h3
     ·omega
     ·exact h3.1
theorem fX{before:List Nd}{ls ss:List Int}{x:Nd}(h:iE before ls ss x=0):fS before.length x=0/\iJ ls x<=256/\lP ss x<=1024/\(x.kind=4->fK before x=0):=by
 unfold iE at h;split at h
 ·rename_i h1;exact absurd h h1
 ·rename_i h1;split at h
  ·omega
  ·rename_i h2;rw[not_or] at h2;refine⟨by simpa using h1,by omega,by omega,fun e=>?_⟩;rw[Yt e] at h;exact h
theorem g7{α:Type}{l:List α}{n i:Nat}{x:α}(h:(l.take n)[i]? = some x):l[i]? = some x/\i<n:=by
 rw[ZJ] at h;split at h
 ·rename_i hi;exact⟨h,hi⟩
 ·cases h
theorem OM{before:List Nd}{x:Nd}(hg:∀(j:Nat) (y:Nd),before[j]? = some y->jU j y)(h:fK before x=0):x.values.length<=1024:=by
 unfold fK at h;simp only at h;split at h
 ·omega
 ·split at h
  ·rename_i hs;have:=o6 hs;have hgl:=jY (before.take ((x.kids.getD 0 0).toNat+1)) fun i y hy=>hg i y (g7 hy).1
   have:=(r8 hgl (x.kids.getD 0 0)).1;omega
  ·omega
theorem NP{before:List Nd}{ls ss:List Int}{x:Nd}(hg:∀(j:Nat) (y:Nd),before[j]? = some y->jU j y)(ho:uW x)(h:iE before ls ss x=0):jU before.length x:=by
 obtain⟨h1,h2,h3,h4⟩:=fX h;have hn:=mT h1;refine⟨ho,hn.kind,hn.kids, ?_,hn.num⟩;by_cases e:x.kind=4
 ·have:=hn.bind e;have:=OM hg (h4 e);omega
 ·have:=hn.klen e;omega
theorem lR(ns:List Nd)(ho:∀x∈ns,uW x)(h:cP [] ns=0):∀(j:Nat) (x:Nd),ns[j]? = some x->jU j x:=by
 refine iQ (P:=fun ns=>(∀x∈ns,uW x)->cP [] ns=0->∀(j:Nat) (x:Nd),ns[j]? = some x->jU j x) (fun _ _ j x hx=>by simp at hx) (fun l x ih ho h=>?_) ns ho h;have h1:=jR h;have ih:=ih (fun y hy=>ho y (ZM _ hy)) h1;have hs:=gF [] l x h1;rw[h] at hs;simp only[ZS] at hs;have hg:=NP ih (ho x (by simp)) hs.symm;intro j y hy;rcases Y5 j l.length with hj|hj
 ·rw[ZL hj] at hy;exact ih j y hy
 ·rw[ZR hj] at hy;have e:j-l.length=0:=by
   have:=(Yn.1 hy).1;simp at this;omega
  rw[e] at hy;simp at hy;subst hy;obtain rfl:j=l.length:=by omega
  exact hg
theorem Iw{ls:List Int}{x:Nd}(h:∀y∈ls,0<=y/\y<=1024):0<=iJ ls x:=by
 have h1:=(jT (by omega) h x.kids).1;have h2:=(iX (by omega) h (f6 x)).1;have h3:=(n7 (by omega) h (x.kids.getD 0 0)).1;unfold iJ;split
 ·omega
 ·split
  ·omega
  ·split
   ·exact h1
   ·split
    ·omega
    ·omega
theorem JN{ls:List Int}{x:Nd}(h:∀y∈ls,0<=y/\y<=1024):0<=lP ls x:=by
 have h1:=(jT (by omega) h x.kids).1;have h2:=(iX (by omega) h (f6 x)).1;unfold lP;split
 ·omega
 ·split
  ·omega
  ·split
   ·omega
   ·exact h2
theorem kE(ns:List Nd)(h:cP [] ns=0):(∀y∈b8 ns,0<=y/\y<=1024)/\(∀y∈cV ns,0<=y/\y<=1024):=by
 refine iQ (P:=fun ns=>cP [] ns=0->(∀y∈b8 ns,0<=y/\y<=1024)/\(∀y∈cV ns,0<=y/\y<=1024)) (fun _=>by simp[b8,cV]) (fun l x ih h=>?_) ns h;have h1:=jR h;obtain⟨i1,i2⟩:=ih h1;have hs:=gF [] l x h1;rw[h] at hs;simp only[ZS] at hs;obtain⟨_,h2,h3,_⟩:=fX hs.symm;rw[lK,lV];have n1:=Iw (x:=x) i1;have n2:=JN (x:=x) i2;constructor
 ·intro y hy;rcases Yz.1 hy with hy|hy
  ·exact i1 y hy
  ·simp at hy;subst hy;omega
 ·intro y hy;rcases Yz.1 hy with hy|hy
  ·exact i2 y hy
  ·simp at hy;subst hy;omega
theorem kH(l:List Nd):(b8 l).length=l.length:=by
 refine iQ (P:=fun l=>(b8 l).length=l.length) rfl (fun l x ih=>?_) l;rw[lK];simp[ih]
theorem kJ(l:List Nd):(cV l).length=l.length:=by
 refine iQ (P:=fun l=>(cV l).length=l.length) rfl (fun l x ih=>?_) l;rw[lV];simp[ih]
theorem C2{a b:Int}(ha:0<=a)(hb:0<b):a.tdiv b<=a:=by
 rw[aAh ha];exact Int.ediv_le_self _ ha
theorem lF{a b:Int}(ha:0<=a)(hb:0<b):0<=a.tmod b/\a.tmod b<b:=⟨aAC _ ha,aAx _ hb⟩
theorem Ic(k:Int)(hk:0<=k):g9 (yL k)/\bB (yL k)<=2:=by
 have h4:=lF hk (show (0:Int)<4 by omega);have hd:0<=k.tdiv 4:=aAD hk (by omega);have a:=lF hd (show (0:Int)<9 by omega);have b:=lF hd (show (0:Int)<2 by omega);have c:=lF hd (show (0:Int)<3 by omega);unfold yL;split
 ·exact⟨jS ⟨by omega,by omega⟩ ⟨by omega,by omega⟩,by simp[bB,bZ]⟩
 ·split
  ·exact⟨jS ⟨by omega,by omega⟩ ⟨by omega,by omega⟩,by simp[bB,bZ]⟩
  ·split
   ·refine⟨kS ⟨by omega,by omega⟩ ⟨by omega,by omega⟩ ?_ (by simp) (by simp[rE]),by simp[bB,bZ]⟩;rcases(show ((k.tdiv 4).tmod 3).toNat=0∨((k.tdiv 4).tmod 3).toNat=1∨((k.tdiv 4).tmod 3).toNat=2 by omega) with h|h|h<;>rw[h]<;>simp
   ·refine⟨kS ⟨by omega,by omega⟩ ⟨by omega,by omega⟩ (by simp) (by simp) ?_,by simp[bB,bZ]⟩;simp only[rE,and_true];exact jS ⟨by omega,by omega⟩ ⟨by omega,by omega⟩
def zQ:List (List UInt8):=[[97],[98],[99],[100]]
structure P2(x:Nd):Prop where
 ok:uW x
 vals:x.values.length<=1024
 labels:∀s∈x.labels,s∈zQ
 seq:x.kind=3->x.kids.length<=3
structure lZ(ns:List Nd):Prop where
 valid:cP [] ns=0
 gen:∀x∈ns,P2 x
theorem pK{kind lo hi:Int}{name:List UInt8}{ws ks:List Int}{ls:List (List UInt8)}{vs:List aR}{v:aR}(h1:i64 kind)(h2:name.length<=1000)(h3:i64 lo)(h4:i64 hi)(h5:ws.length<=1000)(h6:∀w∈ws,i64 w)(h7:ls.length<=1000)(h8:∀s∈ls,s∈zQ)
  (h9:vs.length<=1000) (h10:∀v∈vs,g9 v/\bB v<=4294967296) (h11:ks.length<=1000) (h12:∀k∈ks,i64 k) (h13:g9 v) (h14:bB v<=4294967296)
  (h15:kind=3->ks.length<=3:=by first|(intro h;exact absurd h (by omega))|(intro _;omega)):P2 ⟨kind,name,lo,hi,ws,ls,vs,ks,v⟩:=
 ⟨⟨h1,by simp only;omega,h3,h4,by simp only;omega,h6,by simp only;omega,fun s hs=>by
   have:=h8 s hs;simp[zQ] at this;rcases this with rfl|rfl|rfl|rfl<;>simp,by simp only;omega,h10,by simp only;omega,h12,h13,h14⟩,by simp only;omega,h8,h15⟩
theorem K5(ns:List Nd)(ls ss:List Int)(m:Int):iE ns ls ss ⟨0,[],0,0,[],[],[],[],.mk 0 m [] []⟩=0:=by
 have hv:bP (.mk 0 m [] [])=0:=by simp[bP,bR,cS,cT,kW,qP,A1,bB,bZ]
 have hf:dN (ns.length:Int) ⟨0,[],0,0,[],[],[],[],.mk 0 m [] []⟩=true:=by simp[dN,lH,o8,eI]
 have hn:fS (ns.length:Int) ⟨0,[],0,0,[],[],[],[],.mk 0 m [] []⟩=0:=by
  unfold fS;rw[Yo (by rw[hf];simp)];simp[qM,eP,hv,dT]
 unfold iE;rw[Yo (by rw[hn];simp)];simp[iJ,lP,bB,bZ]
theorem EK{bs:List jF}{ss:List Int}:∀(kids:List Int) (rows out:List (List aR)) (S:Int),(∀r∈rows,(bZ r:Int)<=S)->(∀k∈kids,∀v∈(dS bs k).vals,(bB v:Int)<=eS ss k)->gW bs kids rows=some out->∀r∈out,(bZ r:Int)<=S+iF ss kids
 | [],rows,out,S,h1,_,h=>by
  simp only[gW] at h;cases h;intro r hr;simpa[iF] using h1 r hr
 | k::ks,rows,out,S,h1,h2,h=>by
  simp only[gW] at h;split at h
  ·cases h
  ·have e:iF ss (k::ks)=eS ss k+iF ss ks:=by simp only[iF,Y9];rw[xU ss ks];simp[iF]
   have ih:=EK ks _ out (S+eS ss k) (fun r hr=>by
    obtain⟨r',h3,v,h4,rfl⟩:=sD hr;have a:=h1 r' h3;have b:=h2 k (by simp) v h4;rw[yZ];omega) (fun k' hk'=>h2 k' (by simp[hk'])) h
   intro r hr;have:=ih r hr;omega
theorem LY{bs:List jF}:∀(l:List Int) (a:List aR × Bool),∀v∈(l.foldl (cK bs) a).1,v∈a.1∨∃k∈l,v∈(dS bs k).vals
 | [],a,v,hv=>.inl hv
 | k::r,a,v,hv=>by
  rcases LY r (cK bs a k) v hv with h|⟨k',h1,h2⟩
  ·simp only[cK] at h;rcases Yz.1 (r9 h) with h|h
   ·exact .inl h
   ·exact .inr ⟨k,by simp,h⟩
  ·exact .inr ⟨k',by simp[h1],h2⟩
theorem wQ{ss:List Int}:∀(l:List Int) (s:Int) (k:Int),k∈l->eS ss k<=l.foldl (fun s k=>max s (eS ss k)) s/\s<=l.foldl (fun s k=>max s (eS ss k)) s
 | a::r,s,k,h=>by
  have mono:∀(l:List Int) (s:Int),s<=l.foldl (fun s k=>max s (eS ss k)) s:=by
   intro l
   induction l with
   | nil=>intro s;simp
   | cons b l ih=>intro s;have:=ih (max s (eS ss b));simp only[Y9];omega
  simp only[Y9];rcases Yr.1 h with rfl|h
  ·have:=mono r (max s (eS ss k));omega
  ·have:=wQ (ss:=ss) r (max s (eS ss a)) k h;omega
theorem KK{x:Nd}{bs:List jF}{ss:List Int}(hkd:0<=x.kind/\x.kind<=4)(hb:∀k∈x.kids,∀v∈(dS bs k).vals,(bB v:Int)<=eS ss k):∀v∈(dR x bs).vals,(bB v:Int)<=lP ss x:=by
 intro v hv;unfold dR at hv;split at hv
 ·rename_i h0;simp at hv;subst hv;unfold lP;rw[Yt h0];omega
 ·rename_i h0;split at hv
  ·rename_i h1;split at hv
   ·simp at hv
   ·simp only[gS,ZF] at hv;obtain⟨j,_,rfl⟩:=hv;unfold lP;rw[Yo h0,Yt h1];simp[bB,bZ]
  ·rename_i h1;split at hv
   ·rename_i h3;unfold sI at hv;split at hv
    ·simp at hv
    ·rename_i rows hr;obtain⟨r,hr2,rfl⟩:=ZF.1 (r9 hv);have:=EK x.kids [[]] rows 0 (by simp[bZ]) hb hr r hr2;have e:bB (eA x.name r)=1+bZ r:=by unfold eA;split<;>simp[bB]
     unfold lP;rw[Yo h0,Yo h1,Yt h3,e];omega
   ·rename_i h3;have key:∀ks:List Int,(∀k∈ks,k∈x.kids)->v∈(pT bs ks).vals->(bB v:Int)<=dE ss ks:=by
     intro ks hks hv;unfold pT at hv;split at hv
     ·simp at hv
     ·rcases LY ks ([],false) v hv with h|⟨k,h1,h2⟩
      ·simp at h
      ·have:=hb k (hks k h1) v h2;have:=(wQ (ss:=ss) ks 0 k h1).1;unfold dE;omega
    have:(bB v:Int)<=dE ss (f6 x):=by
     unfold f6;by_cases h4:x.kind=4
     ·rw[Yt h4] at hv;rw[Yo (by omega)];exact key _ (fun k hk=>ZV hk) hv
     ·rw[Yo h4] at hv;by_cases h2:x.kind=2
      ·rw[Yt h2];exact key _ (fun k hk=>hk) hv
      ·omega
    unfold lP;rw[Yo h0,Yo h1,Yo h3];omega
theorem IK{bs:List jF}{b:jF}{k:Int}(hk:0<=k):(k<bs.length->dS (bs++[b]) k=dS bs k)/\(k=bs.length->dS (bs++[b]) k=b):=by
 unfold dS;constructor
 ·intro h;rw[Ym,Ym,ZL (by omega)]
 ·intro h;rw[Ym,ZR (by omega),show k.toNat-bs.length=0 by omega];rfl
theorem P9{bs:List Int}{b:Int}{k:Int}(hk:0<=k):(k<bs.length->eS (bs++[b]) k=eS bs k)/\(k=bs.length->eS (bs++[b]) k=b):=by
 unfold eS;constructor
 ·intro h;rw[Ym,Ym,ZL (by omega)]
 ·intro h;rw[Ym,ZR (by omega),show k.toNat-bs.length=0 by omega];rfl
theorem K2(ns:List Nd)(hg:∀(j:Nat) (x:Nd),ns[j]? = some x->jU j x):∀(k:Int),0<=k->k<ns.length->∀v∈(dS (aO ns) k).vals,(bB v:Int)<=eS (cV ns) k:=by
 refine iQ (P:=fun ns=>(∀(j:Nat) (x:Nd),ns[j]? = some x->jU j x)->∀(k:Int),0<=k->k<ns.length->∀v∈(dS (aO ns) k).vals,(bB v:Int)<=eS (cV ns) k) (fun _ k h1 h2=>by simp at h2;omega) (fun l x ih hg k hk0 hk v hv=>?_) ns hg;have hgl:∀(j:Nat) (y:Nd),l[j]? = some y->jU j y:=fun j y hy=>hg j y (by
  have:=(Yn.1 hy).1;rw[ZL this];exact hy)
 have ih:=ih hgl;have hx:=hg l.length x (by simp);rw[iT] at hv;rw[lV];have e1:=IK (bs:=aO l) (b:=dR x (aO l)) hk0;have e2:=P9 (bs:=cV l) (b:=lP (cV l) x) hk0;rw[eH] at e1;rw[kJ] at e2;rcases(show k<l.length∨k=l.length by simp at hk;omega) with h|h
 ·rw[e1.1 h] at hv;rw[e2.1 h];exact ih k hk0 h v hv
 ·rw[e1.2 h] at hv;rw[e2.2 h];refine KK hx.kind (fun q hq u hu=>?_) v hv;obtain⟨j,hj⟩:=ZQ hq;obtain⟨q0,q1⟩:=hx.kids j q hj;exact ih q q0 q1 u hu
theorem H6(ns:List Nd)(ho:∀x∈ns,uW x)(h:cP [] ns=0)(k:Int)(h0:0<=k)(h1:k<ns.length):∀v∈(dS (aO ns) k).vals,bB v<=1024:=by
 intro v hv;have a:=K2 ns (lR ns ho h) k h0 h1 v hv;have b:=(n7 (M:=1024) (by omega) (kE ns h).2 k).2;omega
theorem lZ.ok{ns:List Nd}(h:lZ ns):∀x∈ns,uW x:=fun x hx=>(h.gen x hx).ok
theorem lZ.good{ns:List Nd}(h:lZ ns):∀(j:Nat) (x:Nd),ns[j]? = some x->jU j x:=lR ns h.ok h.valid
theorem lZ.snoc{ns:List Nd}{x:Nd}(h:lZ ns)(hl:ns.length<=1000)(hx:P2 x)(hv:dM (ns++[x])=0):lZ (ns++[x]):=by
 unfold dM at hv;rw[Yo (by simp;omega)] at hv;refine⟨hv,fun y hy=>?_⟩;rcases Yz.1 hy with hy|hy
 ·exact h.gen y hy
 ·simp at hy;rw[hy];exact hx
theorem lZ.leaf{ns:List Nd}(h:lZ ns){m:Int}(hm:i64 m):lZ (ns++[⟨0,[],0,0,[],[],[],[],.mk 0 m [] []⟩]):=by
 refine⟨?_,fun y hy=>?_⟩
 ·rw[gF [] ns _ h.valid];exact K5 _ _ _ _
 ·rcases Yz.1 hy with hy|hy
  ·exact h.gen y hy
  ·simp at hy;rw[hy];have h0:i64 0:=⟨by omega,by omega⟩
   exact pK h0 (by simp) h0 h0 (by simp) (by simp) (by simp) (by simp) (by simp) (by simp) (by simp) (by simp) (jS h0 hm) (by simp[bB,bZ])
def fM(a b:List aR):List aR:=match a,b with
 | [],b=>b
 | a,[]=>a
 | x::l,y::m=>if cE x y<0 then x::fM l (y::m) else if cE x y=0 then x::fM l m else y::fM (x::l) m
termination_by a.length+b.length
theorem Dv(b:List aR):fM [] b=b:=by rw[fM]
theorem J7(a:List aR):fM a []=a:=by
 cases a with
 | nil=>rw[fM]
 | cons x l=>rw[fM];simp
theorem Iq(x y:aR)(l m:List aR):fM (x::l) (y::m)=if cE x y<0 then x::fM l (y::m) else if cE x y=0 then x::fM l m else y::fM (x::l) m:=by rw[fM]
mutual
theorem Df:∀(a b:aR),cE a b=0->a=b
 | .mk k n s ks,.mk k' n' s' ks',h=>by
  simp only[cE,andThen] at h;split at h
  ·rename_i h1;split at h
   ·rename_i h2;split at h
    ·rename_i h3;have e1:k=k':=Decidable.byContradiction fun e=>xZ e h1
     have e2:n=n':=Decidable.byContradiction fun e=>xZ e h2
     rw[e1,e2,p7 h3,QW ks ks' h]
    ·rename_i h3;exact absurd h h3
   ·rename_i h2;exact absurd h h2
  ·rename_i h1;exact absurd h h1
theorem QW:∀(l m:List aR),gP l m=0->l=m
 | [],[],_=>rfl
 | [],_::_,h=>by simp[gP] at h
 | _::_,[],h=>by simp[gP] at h
 | a::l,b::m,h=>by
  simp only[gP,andThen] at h;split at h
  ·rename_i h1;rw[Df a b h1,QW l m h]
  ·rename_i h1;exact absurd h h1
end
theorem Dc(a:aR):¬cE a a<0:=by rw[(pW a).refl];omega
theorem HP:∀{a b:List aR},oP a->oP b->(∀x,x∈a↔x∈b)->a=b
 | [],[],_,_,_=>rfl
 | [],y::m,_,_,h=>by have:=(h y).2 (by simp);simp at this
 | x::l,[],_,_,h=>by have:=(h x).1 (by simp);simp at this
 | x::l,y::m,h1,h2,h=>by
  unfold oP at h1 h2;rw[ZW] at h1 h2;have e:x=y:=by
   rcases Yr.1 ((h x).1 (by simp)) with e|e
   ·exact e
   ·rcases Yr.1 ((h y).2 (by simp)) with e'|e'
    ·exact e'.symm
    ·have a1:=h2.1 x e;have a2:=h1.1 y e';have:=JD a1 (by omega:cE x y<=0);exact absurd this (Dc y)
  subst e;congr 1;refine HP h1.2 h2.2 fun z=>?_
  constructor
  ·intro hz;rcases Yr.1 ((h z).1 (by simp[hz])) with e|e
   ·subst e;exact absurd (h1.1 z hz) (Dc z)
   ·exact e
  ·intro hz;rcases Yr.1 ((h z).2 (by simp[hz])) with e|e
   ·subst e;exact absurd (h2.1 z hz) (Dc z)
   ·exact e
theorem IJ:∀(l:List aR) (v x:aR),x∈x9 l v↔x=v∨x∈l
 | [],v,x=>by simp[x9,kL]
 | a::r,v,x=>by
  rw[Fo];split
  ·split
   ·rename_i h;have e:=Df a v (by simpa using h);subst e;constructor
    ·intro h;exact .inr h
    ·rintro(rfl|h)
     ·simp
     ·exact h
   ·simp
  ·simp only[Yr,IJ r v x];constructor
   ·rintro(h|h|h)
    ·exact .inr (.inl h)
    ·exact .inl h
    ·exact .inr (.inr h)
   ·rintro(h|h|h)
    ·exact .inr (.inl h)
    ·exact .inl h
    ·exact .inr (.inr h)
theorem Bs(l:List aR)(x:aR):x∈fO l↔x∈l:=by
 refine iQ (P:=fun l=>x∈fO l↔x∈l) (by simp[fO]) (fun l a ih=>?_) l;rw[qC,IJ,ih];simp only[Yz,Z3];constructor
 ·rintro(h|h)
  ·exact .inr h
  ·exact .inl h
 ·rintro(h|h)
  ·exact .inr h
  ·exact .inl h
theorem G5{l:List aR}(h:oP l):fO l=l:=HP (xO l) h (Bs l)
theorem qQ(a b:List aR)(x:aR):x∈fM a b↔x∈a∨x∈b:=by
 fun_induction fM a b with
 | case1 b=>simp
 | case2 a h=>simp
 | case3 y l z m h ih=>simp only[Yr,ih];simp only[or_assoc]
 | case4 y l z m h1 h2 ih=>
  have:=Df y z h2;subst this;simp only[Yr,ih];constructor
  ·rintro(h|h|h)
   ·exact .inl (.inl h)
   ·exact .inl (.inr h)
   ·exact .inr (.inr h)
  ·rintro((h|h)|(h|h))
   ·exact .inl h
   ·exact .inr (.inl h)
   ·exact .inl h
   ·exact .inr (.inr h)
 | case5 y l z m h1 h2 ih=>
  simp only[Yr,ih];constructor
  ·rintro(h|(h|h)|h)
   ·exact .inr (.inl h)
   ·exact .inl (.inl h)
   ·exact .inl (.inr h)
   ·exact .inr (.inr h)
  ·rintro((h|h)|(h|h))
   ·exact .inr (.inl (.inl h))
   ·exact .inr (.inl (.inr h))
   ·exact .inl h
   ·exact .inr (.inr h)
theorem E1(a b:List aR):oP a->oP b->oP (fM a b):=by
 fun_induction fM a b with
 | case1 b=>intro _ h;exact h
 | case2 a h=>intro h _;exact h
 | case3 y l z m h ih=>
  intro h1 h2;unfold oP at h1 h2 ⊢;have h1':=ZW.1 h1;have h2':=ZW.1 h2;refine ZW.2 ⟨fun x hx=>?_,ih h1'.2 h2⟩;rcases(qQ _ _ _).1 hx with hx|hx
  ·exact h1'.1 x hx
  ·rcases Yr.1 hx with rfl|hx
   ·exact h
   ·have:=h2'.1 x hx;exact JD h (by omega)
 | case4 y l z m hn he ih=>
  intro h1 h2;unfold oP at h1 h2 ⊢;have h1':=ZW.1 h1;have h2':=ZW.1 h2;have:=Df y z he;subst this;refine ZW.2 ⟨fun x hx=>?_,ih h1'.2 h2'.2⟩;rcases(qQ _ _ _).1 hx with hx|hx
  ·exact h1'.1 x hx
  ·exact h2'.1 x hx
 | case5 y l z m hn he ih=>
  intro h1 h2;unfold oP at h1 h2 ⊢;have h1':=ZW.1 h1;have h2':=ZW.1 h2;have hzy:=MN (a:=y) (b:=z) (by omega);refine ZW.2 ⟨fun x hx=>?_,ih h1 h2'.2⟩;rcases(qQ _ _ _).1 hx with hx|hx
  ·rcases Yr.1 hx with rfl|hx
   ·exact hzy
   ·have:=h1'.1 x hx;exact JD hzy (by omega)
  ·exact h2'.1 x hx
theorem IM{a b:List aR}(h1:oP a)(h2:oP b):fM a b=fO (a++b):=
 HP (E1 a b h1 h2) (xO _) fun x=>by rw[qQ,Bs,Yz]
theorem Eg:∀(r l:List Nd),∃m,aO (l++r)=aO l++m
 | [],l=>⟨[],by simp⟩
 | x::r,l=>by
  obtain⟨m,hm⟩:=Eg r (l++[x]);refine⟨dR x (aO l)::m, ?_⟩;have e:l++x::r=l++[x]++r:=by simp
  rw[e,hm,iT];simp
theorem Ra{a b:List jF}{k:Int}(h0:0<=k)(h:k<a.length):dS (a++b) k=dS a k:=by
 unfold dS;rw[Ym,Ym,ZL (by omega)]
theorem l9{ns:List Nd}{n:Nat}{k:Int}(h0:0<=k)(h:k<n)(hn:n<=ns.length):dS (aO (ns.take n)) k=dS (aO ns) k:=by
 obtain⟨m,hm⟩:=Eg (ns.drop n) (ns.take n);rw[List.take_append_drop] at hm;rw[hm,Ra h0 (by rw[eH,ZT];omega)]
theorem Ee{b1 b2:List jF}{l:List Int}(h:∀k∈l,dS b1 k=dS b2 k):pT b1 l=pT b2 l:=by
 have:∀(l:List Int) (a:List aR × Bool),(∀k∈l,dS b1 k=dS b2 k)->l.foldl (cK b1) a=l.foldl (cK b2) a:=by
  intro l
  induction l with
  | nil=>intro a _;rfl
  | cons k r ih=>
   intro a h;simp only[Y9];have e:cK b1 a k=cK b2 a k:=by unfold cK;rw[h k (by simp)]
   rw[e];exact ih _ fun q hq=>h q (by simp[hq])
 unfold pT;rw[this l _ h]
theorem CX{b1 b2:List jF}:∀(l:List Int) (rows:List (List aR)),(∀k∈l,dS b1 k=dS b2 k)->gW b1 l rows=gW b2 l rows
 | [],rows,_=>rfl
 | k::r,rows,h=>by
  simp only[gW,h k (by simp)];split
  ·rfl
  ·exact CX r _ fun q hq=>h q (by simp[hq])
theorem CQ{b1 b2:List jF}{x:Nd}(h:∀k∈x.kids,dS b1 k=dS b2 k):dR x b1=dR x b2:=by
 unfold dR;split
 ·rfl
 ·split
  ·rfl
  ·split
   ·unfold sI;rw[CX x.kids _ h]
   ·split
    ·exact Ee fun k hk=>h k (ZV hk)
    ·exact Ee h
theorem EM{ns:List Nd}(hg:∀(j:Nat) (x:Nd),ns[j]? = some x->jU j x){i:Nat}{x:Nd}(hx:ns[i]? = some x):dS (aO ns) i=dR x (aO ns):=by
 obtain⟨hi,he⟩:=Yn.1 hx;have e1:dS (aO (ns.take (i+1))) i=dS (aO ns) i:=l9 (by omega) (by omega) (by omega);rw[←e1,Ys hi,iT,he];rw[(IK (b:=dR x (aO (ns.take i))) (show (0:Int)<=i by omega)).2 (by rw[eH,ZT];omega)];refine CQ fun k hk=>?_
 obtain⟨j,hj⟩:=ZQ hk;obtain⟨h0,h1⟩:=(hg i x hx).kids j k hj;exact l9 h0 h1 (by omega)
theorem BY:∀{a b:List aR} {x y:aR},a.length=b.length->gP (a++[x]) (b++[y])=andThen (gP a b) (cE x y)
 | [],[],x,y,_=>by
  simp only[ZS,gP,andThen];split
  ·rename_i h;rw[h];rfl
  ·rfl
 | [],_::_,_,_,h=>by simp at h
 | _::_,[],_,_,h=>by simp at h
 | a::l,b::m,x,y,h=>by
  simp only[Zi,gP];rw[BY (by simpa using h)];unfold andThen;repeat' split
  all_goals first|rfl|omega
def Ox(n:Nat)(rows:List (List aR)):Prop:=(∀r∈rows,r.length=n)/\rows.Pairwise fun a b=>gP a b<0
theorem Nc{n:Nat}{rows:List (List aR)}{l:List aR}(h:Ox n rows)(hl:oP l):Ox (n+1) (f7 rows l):=by
 obtain⟨h1,h2⟩:=h;refine⟨fun r hr=>?_, ?_⟩
 ·obtain⟨r',h3,v,_,rfl⟩:=sD hr;simp[h1 r' h3]
 ·unfold f7
  induction rows with
  | nil=>simp
  | cons a rs ih=>
   rw[ZW] at h2;rw[Z0,List.pairwise_append];refine⟨?_,ih (fun r hr=>h1 r (by simp[hr])) h2.2, ?_⟩
   ·rw[aBE];refine hl.imp fun {x y} hxy=>?_
    rw[BY rfl,(Ba a).refl];simpa[andThen] using hxy
   ·intro p hp q hq;obtain⟨v,_,rfl⟩:=ZF.1 hp;obtain⟨r',h3,u,_,rfl⟩:=sD (rows:=rs) (l:=l) hq;have:=h2.1 r' h3;rw[BY (by rw[h1 a (by simp),h1 r' (by simp[h3])])];unfold andThen;split
    ·omega
    ·exact this
theorem Fe{bs:List jF}(hb:∀b∈bs,oP b.vals):∀(kids:List Int) (n:Nat) (rows out:List (List aR)),Ox n rows->gW bs kids rows=some out->Ox (n+kids.length) out
 | [],n,rows,out,h,h2=>by
  simp only[gW] at h2;cases h2;exact h
 | k::ks,n,rows,out,h,h2=>by
  simp only[gW] at h2;split at h2
  ·cases h2
  ·have hs:oP (dS bs k).vals:=by
    unfold dS;rw[Ym];cases e:bs[k.toNat]? with
    | none=>simp[oP]
    | some b=>exact hb b (Yv e)
   have:=Fe hb ks (n+1) _ out (Nc h hs) h2;simp only[ZH];rw[show n+(ks.length+1)=n+1+ks.length by omega];exact this
theorem Ou(name:List UInt8)(a b:List aR):cE (eA name a) (eA name b)=gP a b:=by
 unfold eA;split<;>simp[cE,(mL _).refl,(sG _).refl,andThen]
theorem O4{n:Nat}{rows:List (List aR)}(name:List UInt8)(h:Ox n rows):oP (rows.map (eA name)):=by
 unfold oP;rw[aBE];exact h.2.imp fun {a b} h=>by rw[Ou];exact h
theorem OD(lo hi:Int):oP (gS lo hi):=by
 unfold oP gS;rw[aBE];refine List.pairwise_lt_range.imp fun {i j} h=>?_
 rw[Pg rfl (by omega)];rw[Yt (by omega)];omega
theorem Nw{x:Nd}{bs:List jF}:oP (dR x bs).vals:=by
 unfold dR;split
 ·simp[oP]
 ·split
  ·split
   ·simp[oP]
   ·exact OD _ _
  ·split
   ·unfold sI;split
    ·simp[oP]
    ·exact xO _
   ·generalize (if x.kind=4 then x.kids.drop 1 else x.kids)=ks;unfold pT;split
    ·simp[oP]
    ·have:∀(l:List Int) (a:List aR × Bool),oP a.1->oP (l.foldl (cK bs) a).1:=by
      intro l
      induction l with
      | nil=>intro a h;exact h
      | cons k r ih=>intro a _;exact ih _ (xO _)
     exact this _ _ (by simp[oP])
theorem Da(ns:List Nd):∀b∈aO ns,oP b.vals:=by
 refine iQ (P:=fun ns=>∀b∈aO ns,oP b.vals) (by simp[aO]) (fun l x ih=>?_) ns;rw[iT];intro b hb;rcases Yz.1 hb with hb|hb
 ·exact ih b hb
 ·simp at hb;rw[hb];exact Nw
theorem SV{bs:List jF}(hb:∀b∈bs,oP b.vals)(k:Int):oP (dS bs k).vals:=by
 unfold dS;rw[Ym];cases h:bs[k.toNat]? with
 | none=>simp[oP]
 | some b=>exact hb b (Yv h)
theorem Of{bs:List jF}(hb:∀b∈bs,oP b.vals){x:Nd}{rows:List (List aR)}(h:gW bs x.kids [[]]=some rows):sI bs x=⟨rows.map (eA x.name),false⟩:=by
 unfold sI;rw[h];simp only;rw[G5 (O4 _ (Fe hb x.kids 0 [[]] rows ⟨by simp,by simp⟩ h))]
def rowAt:List (List aR)->Nat->List aR
 | [],_=>[]
 | l::r,k=>rowAt r (k/l.length)++(l[k%l.length]?).toList
def sF:List (List aR)->List (List aR)
 | []=>[[]]
 | l::r=>f7 (sF r) l
def kV:List (List aR)->Nat
 | []=>1
 | l::r=>kV r*l.length
theorem Bj:∀ls:List (List aR),(sF ls).length=kV ls
 | []=>rfl
 | l::r=>by rw[sF,sC,kV,Bj r]
theorem GS(l:List aR):∀(rows:List (List aR)) (k:Nat) (a:List aR) (v:aR),rows[k/l.length]? = some a->l[k%l.length]? = some v->(f7 rows l)[k]? = some (a++[v])
 | [],k,a,v,h,_=>by simp at h
 | r::rs,k,a,v,h,hv=>by
  have hpos:0<l.length:=by
   rcases Y2 l.length with h0|h0
   ·have:l=[]:=Zn.1 h0;subst this;simp at hv
   ·exact h0
  unfold f7;rw[Z0];rcases Y5 k l.length with hk|hk
  ·rw[ZL (by simpa using hk)];rw[aAV hk] at h;rw[Zh hk] at hv;simp at h;subst h;simp[hv]
  ·rw[ZR (by simpa using hk),aAn];have e1:k/l.length=(k-l.length)/l.length+1:=by
    conv=>lhs;rw[show k=(k-l.length)+l.length by omega]
    exact Nat.add_div_right _ hpos
   have e2:k%l.length=(k-l.length)%l.length:=(Nat.mod_eq_sub_mod hk)
   rw[e1] at h;rw[e2] at hv;exact GS l rs (k-l.length) a v (by simpa using h) hv
theorem Fs:∀(ls:List (List aR)) (k:Nat),k<kV ls->(sF ls)[k]? = some (rowAt ls k)
 | [],k,h=>by
  simp[kV] at h;subst h;rfl
 | l::r,k,h=>by
  simp only[kV] at h;have hpos:0<l.length:=by
   rcases Y2 l.length with h0|h0
   ·rw[h0] at h;simp at h
   ·exact h0
  have h1:k/l.length<kV r:=Nat.div_lt_of_lt_mul (by rw[Zm];exact h);have h2:=Z1 k hpos;have e:=Yj h2;rw[sF,rowAt,e];exact GS l _ k _ _ (Fs r _ h1) e
theorem Fv{bs:List jF}:∀(kids:List Int) (ls:List (List aR)),kV ls<=1024 ->
  gW bs kids (sF ls)=if (kids.foldl (fun(a:Nat × Bool) k=>(a.1*(dS bs k).vals.length,a.2 || (dS bs k).many || decide (1024<a.1*(dS bs k).vals.length))) (kV ls,false)).2 then none
   else some (sF (kids.reverse.map (fun k=>(dS bs k).vals)++ls))
 | [],ls,h=>by simp[gW]
 | k::r,ls,h=>by
  have stay:∀(l:List Int) (n:Nat),(l.foldl (fun(a:Nat × Bool) k=>(a.1*(dS bs k).vals.length,a.2 || (dS bs k).many || decide (1024<a.1*(dS bs k).vals.length))) (n,true)).2=true:=by
   intro l
   induction l with
   | nil=>intro n;rfl
   | cons q l ih=>intro n;simp only[Y9,Bool.true_or];exact ih _
  simp only[gW,Y9,Bj,aA8];by_cases hc:(dS bs k).many=true∨1024<kV ls*(dS bs k).vals.length
  ·have e:((dS bs k).many || decide (1024<kV ls*(dS bs k).vals.length))=true:=by simpa using hc
   rw[Yt hc,e,Yt (stay _ _)]
  ·have e:((dS bs k).many || decide (1024<kV ls*(dS bs k).vals.length))=false:=by
    rw[not_or] at hc;simp at hc ⊢;exact hc
   rw[Yo hc,e];rw[not_or] at hc;have:=Fv (bs:=bs) r ((dS bs k).vals::ls) (by simp only[kV];omega);simp only[sF,kV] at this;rw[this];simp[List.append_assoc]
theorem M3:Lib.itoa 0=[48]:=by rw[Lib.itoa,Yo (by omega)];simp[Lib.decDigits_one]
def tF(k:Nat):List UInt8:=if k=0 then [] else Lib.decDigits k
theorem Ho{k:Nat}(h:k≠0):tF k=tF (k/10)++[UInt8.ofNat (48+k%10)]:=by
 unfold tF;rw[Yo h];by_cases h10:k<10
 ·rw[Yt (by omega),Lib.decDigits_one h10,Zh h10];rfl
 ·rw[Yo (by omega),Lib.decDigits,dif_neg h10]
theorem tR:∀{l:List aR},cS l=true->∀{v:aR},v∈l->bR v=true
 | a::r,h,v,hv=>by
  simp only[cS,Yk] at h;rcases Yr.1 hv with rfl|hv
  ·exact h.1
  ·exact tR h.2 hv
theorem Db:∀{l:List aR},(∀v∈l,bR v=true)->cS l=true
 | [],_=>rfl
 | a::r,h=>by simp only[cS,Yk];exact⟨h a (Y7 ..),Db fun v hv=>h v (Yx _ hv)⟩
theorem M9{l:List aR}(h:rE l)(k:Nat):rE (l.take k):=qZ fun v hv=>kA h v (ZG hv)
theorem FZ{l:List aR}(h:cS l=true)(k:Nat):cS (l.take k)=true:=Db fun v hv=>tR h (ZG hv)
def W8(p s:List UInt8):Option (List UInt8):=if p.isPrefixOf s then some (s.drop p.length) else none
structure Wn(x:Nd):Prop where
 ok:uW x
 rng:x.lo<=x.hi/\-4611686018427387904<=x.lo/\x.hi<=4611686018427387904/\x.hi<x.lo+1099511627776
 klen:x.kids.length<=2000
 kl2:x.kind=2->x.kids.length<=1000
 ch:x.kind=2->1<=x.kids.length/\(x.labels.length=0∨x.labels.length=x.kids.length)
theorem uA(ns:List Nd)(h:cP [] ns=0):∀(j:Nat) (x:Nd),ns[j]? = some x->fS j x=0:=by
 refine iQ (P:=fun ns=>cP [] ns=0->∀(j:Nat) (x:Nd),ns[j]? = some x->fS j x=0) (fun _ j x hx=>by simp at hx) (fun l x ih h=>?_) ns h;have h1:=jR h;have ih:=ih h1;have hs:=gF [] l x h1;rw[h] at hs;simp only[ZS] at hs;obtain⟨hg,-,-,-⟩:=fX hs.symm;intro j y hy;rcases Y5 j l.length with hj|hj
 ·rw[ZL hj] at hy;exact ih j y hy
 ·rw[ZR hj] at hy;have e:j-l.length=0:=by
   have:=(Yn.1 hy).1;simp at this;omega
  rw[e] at hy;simp at hy;subst hy;rw[show j=l.length by omega];exact hg
structure Yc(LB:List (List UInt8))(x:Nd):Prop where
 opt:Wn x
 lab:∀s∈x.labels,s∈LB
 ll:x.labels.length<=1000
theorem Eb{bs:List jF}:∀(l:List Int) (a:List aR × Bool),a.2=true->(l.foldl (cK bs) a).2=true
 | [],_,h=>h
 | k::r,a,h=>Eb r _ (by simp[cK,h])
theorem Ar{l:List aR}(h:l≠[]):fO l≠[]:=by
 cases l with
 | nil=>exact absurd rfl h
 | cons a r=>exact List.ne_nil_of_mem ((Bs (a::r) a).2 (by simp))
theorem JS{bs:List jF}:∀(l:List Int) (a:List aR × Bool),a.1≠[]->(l.foldl (cK bs) a).1≠[]
 | [],_,h=>h
 | k::r,a,h=>JS r _ (Ar (by simp[h]))
theorem VY{bs:List jF}{l:List Int}(hl:l≠[])(h:∀k∈l,(dS bs k).many=false->(dS bs k).vals≠[])(hm:(pT bs l).many=false):(pT bs l).vals≠[]:=by
 unfold pT at hm ⊢;split at hm
 ·simp at hm
 ·rename_i hf;rw[Yo hf];simp only;cases l with
  | nil=>exact absurd rfl hl
  | cons k r=>
   simp only[Y9] at hf ⊢;have hk:(cK bs ([],false) k).2=false:=by
    cases e:(cK bs ([],false) k).2 with
    | false=>rfl
    | true=>exact absurd (Eb r _ e) hf
   refine JS r _ (Ar ?_);simp only[cK,aA8,aAz] at hk;simp only[ZS];exact h k (by simp) hk.1
theorem Lf{bs:List jF}:∀(kids:List Int) (rows out:List (List aR)),rows≠[]->(∀k∈kids,(dS bs k).many=false->(dS bs k).vals≠[])->gW bs kids rows=some out->out≠[]
 | [],rows,out,h,_,h2=>by
  simp only[gW] at h2;cases h2;exact h
 | k::ks,rows,out,h,hk,h2=>by
  simp only[gW] at h2;split at h2
  ·cases h2
  ·rename_i hc;rw[not_or] at hc;refine Lf ks _ out ?_ (fun q hq=>hk q (by simp[hq])) h2;have hv:=hk k (by simp) (by simpa using hc.1);have:=sC (dS bs k).vals rows;intro e;rw[e] at this;have a:=Zr.2 h;have b:=Zr.2 hv;have:=aAX a b;simp at *;omega
theorem lI(ns:List Nd)(h:cP [] ns=0):∀(j:Nat) (x:Nd),ns[j]? = some x->iE (ns.take j) (b8 (ns.take j)) (cV (ns.take j)) x=0:=by
 intro j x hx;obtain⟨hj,he⟩:=Yn.1 hx;have e:ns=ns.take j++x::ns.drop (j+1):=by
  rw[←he];simp
 have h1:cP [] (ns.take j)=0:=by
  rw[e] at h;exact jR h
 have h2:cP [] (ns.take j++[x])=0:=by
  have e2:ns=(ns.take j++[x])++ns.drop (j+1):=by simpa using e
  rw[e2] at h;exact jR h
 rw[gF [] _ x h1] at h2;simpa using h2
theorem pM{i:Int}{x:Nd}(h:dN i x=true):(x.kind=2->1<=x.kids.length)/\(x.kind=4->x.kids.length=x.values.length+1):=by
 unfold dN at h;simp only[Yk,Zy,ZA] at h;obtain⟨⟨⟨⟨_,h2⟩,_⟩,h4⟩,_⟩:=h;exact⟨fun e=>by rcases h2 with h2|h2<;>omega,fun e=>by omega⟩
theorem kK{i:Int}{x:Nd}(h:fS i x=0):dN i x=true:=by
 unfold fS at h;split at h
 ·omega
 ·rename_i hf;simpa using hf
theorem Jt(ns:List Nd)(ho:∀x∈ns,uW x)(h:cP [] ns=0):∀(n:Nat) (k:Nat),k<=n->k<ns.length->(dS (aO ns) k).many=false->(dS (aO ns) k).vals≠[]:=by
 have hg:=lR ns ho h;intro n
 induction n with
 | zero=>
  intro k hk hlt hm;have hx:=Yj hlt;have hG:=hg k _ hx;have hst:=lI ns h k _ hx;obtain⟨h1,_,_,h4⟩:=fX hst;have hlen:(ns.take k).length=k:=by simp;omega
  rw[hlen] at h1;have hfp:=pM (kK h1);have hk0:(ns[k]).kids=[]:=by
   cases e:(ns[k]).kids with
   | nil=>rfl
   | cons q r=>have:=hG.kids 0 q (by rw[e];rfl);omega
  rw[EM hg hx] at hm ⊢;have hnum:=cY hG.num;rw[hk0] at hfp;simp at hfp;unfold dR at hm ⊢;split
  ·simp
  ·split
   ·split
    ·rename_i e;rw[Yo (by assumption),Yt (by assumption),Yt e] at hm;simp at hm
    ·simp only[gS];intro e;have:=congrArg List.length e;simp at this;omega
   ·split
    ·unfold sI;rw[hk0];simp[gW,Ar]
    ·have:=hG.kind;omega
 | succ n ih=>
  intro k hk hlt hm;have hx:=Yj hlt;have hG:=hg k _ hx;have hst:=lI ns h k _ hx;obtain⟨h1,_,_,h4⟩:=fX hst;have hlen:(ns.take k).length=k:=by simp;omega
  rw[hlen] at h1;have hfp:=pM (kK h1);rw[EM hg hx] at hm ⊢;have hnum:=cY hG.num;have hkid:∀q∈(ns[k]).kids,(dS (aO ns) q).many=false->(dS (aO ns) q).vals≠[]:=fun q hq=>by
   obtain⟨j,hj⟩:=ZQ hq;obtain⟨q0,q1⟩:=hG.kids j q hj;obtain⟨q,rfl⟩:=Y4 q0;exact ih q (by omega) (by omega)
  unfold dR at hm ⊢;split
  ·simp
  ·split
   ·split
    ·rename_i e;rw[Yo (by assumption),Yt (by assumption),Yt e] at hm;simp at hm
    ·simp only[gS];intro e;have:=congrArg List.length e;simp at this;omega
   ·split
    ·rename_i e0 e1 e3;rw[Yo e0,Yo e1,Yt e3] at hm;unfold sI at hm ⊢;split
     ·rename_i e;rw[e] at hm;simp at hm
     ·rename_i rows e;have:=Lf _ _ _ (by simp) hkid e;exact Ar (by simpa using this)
    ·rename_i e0 e1 e3;rw[Yo e0,Yo e1,Yo e3] at hm;refine VY ?_ (fun q hq=>hkid q ?_) hm
     ·split
      ·rename_i e4;have hb:=h4 e4;have hkl:=hfp.2 e4;unfold fK at hb;simp only at hb;split at hb
       ·omega
       ·rename_i hmany;split at hb
        ·rename_i hs;have hsl:=o6 hs;have hq:=hG.kids 0 ((ns[k]).kids.getD 0 0) (by
          rw[Ym];have:0<(ns[k]).kids.length:=by omega
          rw[Yj this];rfl)
         obtain⟨q,hqe⟩:=Y4 hq.1;rw[hqe] at hsl hmany hq;simp only[Yl] at hsl hmany;rw[aAM,show min (q+1) k=q+1 by omega,l9 (by omega) (by omega) (by omega)] at hsl hmany;have:=ih q (by omega) (by omega) (by simpa using hmany);have:=Zr.2 this;intro e;have:=congrArg List.length e;simp at this;omega
        ·omega
      ·have:=hG.kind;have:=hfp.1 (by omega);exact List.ne_nil_of_length_pos (by omega)
     ·split at hq
      ·exact ZV hq
      ·exact hq
def Aw(ss:List Int)(x:Nd):Int:=
 if x.kind=0 then bB x.value else if x.kind=1 then 1 else if x.kind=3 then 1+iF ss x.kids else max 1 (dE ss (f6 x))
theorem MT{ss:List Int}{x:Nd}:Aw ss x<=1024↔lP ss x<=1024:=by
 unfold Aw lP;split
 ·rfl
 ·split
  ·rfl
  ·split
   ·rfl
   ·omega
theorem HX{ns:List Nd}(ho:∀x∈ns,uW x)(h:cP [] ns=0){x:Nd}(hk:x.kind=2∨x.kind=4)(hs:iE ns (b8 ns) (cV ns) x=0):∃q∈f6 x,0<=q/\q<ns.length:=by
 obtain⟨h1,_,_,h4⟩:=fX hs;have hfp:=pM (kK h1);have hn:=mT h1;have mem:∀q∈x.kids,0<=q/\q<ns.length:=fun q hq=>by
  obtain⟨j,hj⟩:=ZQ hq;exact hn.kids j q hj
 rcases hk with e|e
 ·unfold f6;rw[Yt e];cases hc:x.kids with
  | nil=>have:=hfp.1 e;rw[hc] at this;simp at this
  | cons q r=>exact⟨q,by simp,mem q (by rw[hc];simp)⟩
 ·unfold f6;rw[Yo (by omega)];have hb:=h4 e;have hkl:=hfp.2 e;have:1<=x.values.length:=by
   unfold fK at hb;simp only at hb;split at hb
   ·omega
   ·rename_i hmany;split at hb
    ·rename_i hs;have hsl:=o6 hs;have hlt:0<x.kids.length:=by omega
     have hq:=mem (x.kids.getD 0 0) (by rw[Ym,Yj hlt];exact Y8 hlt);obtain⟨q,hqe⟩:=Y4 hq.1;rw[hqe] at hsl hmany hq;simp only[Yl] at hsl hmany;rw[l9 (by omega) (by omega) (by omega)] at hsl hmany;have:=Jt ns ho h q q (by omega) (by omega) (by simpa using hmany);have:=Zr.2 this;omega
    ·omega
  have hlt:1<x.kids.length:=by omega
  refine⟨x.kids[1], ?_,mem _ (Y8 hlt)⟩;refine Yv (i:=0) ?_;rw[ZY];exact Yj hlt
theorem Jv(ns:List Nd)(ho:∀x∈ns,uW x)(h:cP [] ns=0):∀y∈cV ns,1<=y:=by
 refine iQ (P:=fun ns=>(∀x∈ns,uW x)->cP [] ns=0->∀y∈cV ns,1<=y) (fun _ _=>by simp[cV]) (fun l x ih ho h=>?_) ns ho h;have h1:=jR h;have hol:∀y∈l,uW y:=fun y hy=>ho y (ZM _ hy)
 have ih:=ih hol h1;have hs:=gF [] l x h1;rw[h] at hs;simp only[ZS] at hs;rw[lV];intro y hy;rcases Yz.1 hy with hy|hy
 ·exact ih y hy
 ·simp at hy;subst hy;have hb:=kE l h1;have hk:=(mT (fX hs.symm).1).kind;unfold lP;split
  ·have:=GG x.value;omega
  ·split
   ·omega
   ·split
    ·have:=(jT (by omega) hb.2 x.kids).1;omega
    ·obtain⟨q,hq,q0,q1⟩:=HX hol h1 (by omega) hs.symm;have:=(wQ (ss:=cV l) (f6 x) 0 q hq).1;have h2:1<=eS (cV l) q:=by
      unfold eS;have hlt:q.toNat<(cV l).length:=by rw[kJ];omega
      rw[Ym,Yj hlt];exact ih _ (Y8 hlt)
     unfold dE;omega
theorem SI{ns:List Nd}(ho:∀x∈ns,uW x)(h:cP [] ns=0){x:Nd}(hs:iE ns (b8 ns) (cV ns) x=0):Aw (cV ns) x=lP (cV ns) x:=by
 have hk:=(mT (fX hs).1).kind;unfold Aw lP;split
 ·rfl
 ·split
  ·rfl
  ·split
   ·rfl
   ·obtain⟨q,hq,q0,q1⟩:=HX ho h (by omega) hs;have:=(wQ (ss:=cV ns) (f6 x) 0 q hq).1;have h2:1<=eS (cV ns) q:=by
     unfold eS;have hlt:q.toNat<(cV ns).length:=by rw[kJ];omega
     rw[Ym,Yj hlt];exact Jv ns ho h _ (Y8 hlt)
    unfold dE at *;omega
theorem MV{a b:List Int}{k:Int}(h0:0<=k)(h:k<a.length):eS (a++b) k=eS a k:=by
 unfold eS;rw[Ym,Ym,ZL (by omega)]
theorem Dl{a b:List Int}{l:List Int}(h:∀k∈l,eS a k=eS b k):iF a l=iF b l:=by
 unfold iF;have:∀(l:List Int) (s:Int),(∀k∈l,eS a k=eS b k)->l.foldl (fun s k=>s+eS a k) s=l.foldl (fun s k=>s+eS b k) s:=by
  intro l
  induction l with
  | nil=>intro s _;rfl
  | cons k r ih=>intro s h;simp only[Y9];rw[h k (by simp)];exact ih _ fun q hq=>h q (by simp[hq])
 exact this l 0 h
theorem wW{a b:List Int}{l:List Int}(h:∀k∈l,eS a k=eS b k):dE a l=dE b l:=by
 unfold dE;have:∀(l:List Int) (s:Int),(∀k∈l,eS a k=eS b k)->l.foldl (fun s k=>max s (eS a k)) s=l.foldl (fun s k=>max s (eS b k)) s:=by
  intro l
  induction l with
  | nil=>intro s _;rfl
  | cons k r ih=>intro s h;simp only[Y9];rw[h k (by simp)];exact ih _ fun q hq=>h q (by simp[hq])
 exact this l 0 h
theorem D6{x:Nd}{q:Int}(h:q∈f6 x):q∈x.kids:=by
 unfold f6 at h;split at h
 ·exact h
 ·exact ZV h
theorem ET{a b:List Int}{x:Nd}(h:∀k∈x.kids,eS a k=eS b k)(h4:x.kind=4->0<x.kids.length)(hk:0<=x.kind/\x.kind<=4):iJ a x=iJ b x:=by
 unfold iJ;split
 ·rfl
 ·split
  ·rfl
  ·split
   ·exact Dl h
   ·split
    ·rw[wW fun q hq=>h q (D6 hq)]
    ·have:0<x.kids.length:=h4 (by omega);rw[wW fun q hq=>h q (D6 hq),h (x.kids.getD 0 0) (by rw[Ym,Yj this];exact Y8 this)]
theorem KJ{a b:List Int}{x:Nd}(h:∀k∈x.kids,eS a k=eS b k):Aw a x=Aw b x:=by
 unfold Aw;rw[Dl h,wW fun q hq=>h q (D6 hq)]
end Go.Ax
namespace Go.Ax
open Go
structure iY(ns:List Nd)(n:Nat):Prop where
 hn:n<=ns.length
 len:ns.length<=4096
 ok:∀x∈ns,uW x
 val:cP [] (ns.take n)=0
variable {ns:List Nd} {n:Nat}
theorem iY.okT(h:iY ns n):∀x∈ns.take n,uW x:=fun x hx=>h.ok x (ZG hx)
theorem iY.goodT(h:iY ns n):∀(j:Nat) (x:Nd),(ns.take n)[j]? = some x->jU j x:=lR _ h.okT h.val
theorem A2{i:Nat}{x:Nd}(hi:i<n)(hx:ns[i]? = some x):(ns.take n)[i]? = some x:=by rw[ZJ,Yt hi];exact hx
theorem iY.node(h:iY ns n){i:Nat}{x:Nd}(hi:i<n)(hx:ns[i]? = some x):jU i x:=h.goodT i x (A2 hi hx)
theorem iY.atE(h:iY ns n){k:Int}(h0:0<=k)(h1:k<n):dS (aO (ns.take n)) k=dS (aO ns) k:=l9 h0 h1 h.hn
theorem iY.vals(h:iY ns n){k:Int}(h0:0<=k)(h1:k<n):(dS (aO ns) k).vals.length<=1024/\∀v∈(dS (aO ns) k).vals,g9 v:=by
 rw[←h.atE h0 h1];exact r8 (jY _ h.goodT) k
theorem iY.at(h:iY ns n){i:Nat}{x:Nd}(hi:i<n)(hx:ns[i]? = some x):dS (aO ns) i=dR x (aO ns):=by
 rw[←h.atE (by omega) (by omega),EM h.goodT (A2 hi hx)];refine CQ fun k hk=>?_
 obtain⟨j,hj⟩:=ZQ hk;obtain⟨h0,h1⟩:=(h.node hi hx).kids j k hj;exact h.atE h0 (by omega)
theorem Xd(ns:List Nd)(k:Int):oP (dS (aO ns) k).vals:=SV (Da ns) k
theorem iY.ne(h:iY ns n){k:Int}(h0:0<=k)(h1:k<n)(hm:(dS (aO ns) k).many=false):(dS (aO ns) k).vals≠[]:=by
 rw[←h.atE h0 h1] at hm ⊢;obtain⟨k,rfl⟩:=Y4 h0;exact Jt _ h.okT h.val k k (Yy _) (by rw[ZT];have:=h.hn;omega) hm
theorem iY.step(h:iY ns n){i:Nat}{x:Nd}(hi:i<n)(hx:ns[i]? = some x):iE (ns.take i) (b8 (ns.take i)) (cV (ns.take i)) x=0:=by
 have:=lI _ h.val i x (A2 hi hx)
 rwa [aAM,aAm (by omega)] at this
theorem iY.nodeOK(h:iY ns n){i:Nat}{x:Nd}(hi:i<n)(hx:ns[i]? = some x):Gm i x:=by
 have:=mT (fX (h.step hi hx)).1
 rwa [ZT,aAm (by have:=h.hn;omega)] at this
theorem Uo{bs:List jF}{kids:List Int}{j:Nat}{k:Int}{a:List aR × Bool}(hk:kids[j]? = some k)(h:(kids.take j).foldl (cK bs) ([],false)=a) :
  (kids.take (j+1)).foldl (cK bs) ([],false)=cK bs a k:=by
 obtain⟨hj,he⟩:=Yn.1 hk;rw[Ys hj,Zb,h,he];rfl
theorem Me{bs:List jF}{kids:List Int}{j:Nat}(h:((kids.take j).foldl (cK bs) ([],false)).2=true):pT bs kids=⟨[],true⟩:=by
 have e:(kids.foldl (cK bs) ([],false)).2=true:=by
  conv=>lhs;rw[←List.take_append_drop j kids,Zb]
  exact Eb _ _ h
 unfold pT;rw[Yt e]
theorem RL{bs:List jF}{kids:List Int}{out:List aR}(h:kids.foldl (cK bs) ([],false)=(out,false)):pT bs kids=⟨out,false⟩:=by
 unfold pT;rw[h];rfl
def iG(bs:List jF)(a:Nat × Bool)(k:Int):Nat × Bool:=(a.1*(dS bs k).vals.length,a.2 || (dS bs k).many || decide (1024<a.1*(dS bs k).vals.length))
theorem Js{bs:List jF}:∀(l:List Int) (a:Nat × Bool),a.2=true->(l.foldl (iG bs) a).2=true
 | [],_,h=>h
 | k::r,a,h=>Js r _ (by simp[iG,h])
theorem Jz{bs:List jF}(kids:List Int):gW bs kids [[]]=if (kids.foldl (iG bs) (1,false)).2=true then none else some (sF (kids.map fun k=>(dS bs k).vals).reverse):=by
 have:=Fv (bs:=bs) kids [] (by simp[kV]);simp only[sF,kV,ZZ] at this;rw[this,List.map_reverse];rfl
theorem VX{bs:List jF}{kids:List Int}{j:Nat}{k:Int}{a:Nat × Bool}(hk:kids[j]? = some k)(h:(kids.take j).foldl (iG bs) (1,false)=a) :
  (kids.take (j+1)).foldl (iG bs) (1,false)=iG bs a k:=by
 obtain⟨hj,he⟩:=Yn.1 hk;rw[Ys hj,Zb,h,he];rfl
theorem TF{bs:List jF}{x:Nd}{j:Nat}(h:((x.kids.take j).foldl (iG bs) (1,false)).2=true):sI bs x=⟨[],true⟩:=by
 have e:(x.kids.foldl (iG bs) (1,false)).2=true:=by
  conv=>lhs;rw[←List.take_append_drop j x.kids,Zb]
  exact Js _ _ h
 unfold sI;rw[Jz,Yt e]
theorem PI{bs:List jF}:∀(kids:List Int) (a:Nat × Bool),(kids.foldl (iG bs) a).1=a.1*kV (kids.map fun k=>(dS bs k).vals).reverse:=by
 intro kids;refine iQ (P:=fun kids=>∀a:Nat × Bool,(kids.foldl (iG bs) a).1=a.1*kV (kids.map fun k=>(dS bs k).vals).reverse) (fun a=>by simp[kV]) (fun l x ih a=>?_) kids;rw[Zb,Zk,List.reverse_append];simp only[Y9,aBM,ZP,List.map_nil,List.reverse_singleton,List.singleton_append,kV];rw[iG,ih a,Nat.mul_assoc]
theorem RA{bs:List jF}(hb:∀b∈bs,oP b.vals){x:Nd}{t:Nat}(h:x.kids.foldl (iG bs) (1,false)=(t,false)) :
  sI bs x=⟨(sF (x.kids.map fun k=>(dS bs k).vals).reverse).map (eA x.name),false⟩/\t=kV (x.kids.map fun k=>(dS bs k).vals).reverse:=by
 have hr:gW bs x.kids [[]]=some (sF (x.kids.map fun k=>(dS bs k).vals).reverse):=by
  rw[Jz,h];rfl
 refine⟨Of hb hr, ?_⟩;have:=PI (bs:=bs) x.kids (1,false);rw[h] at this;simpa using this
theorem KV{ls:List (List aR)}{q kk:Nat}{l:List aR}{v:aR}(hl:ls[q]? = some l)(hv:l[kk%l.length]? = some v) :
  rowAt (ls.take (q+1)).reverse kk=rowAt (ls.take q).reverse (kk/l.length)++[v]:=by
 obtain⟨h1,h2⟩:=Yn.1 hl;rw[Ys h1,List.reverse_append,h2];simp only[List.reverse_singleton,List.singleton_append,rowAt,hv];rfl
end Go.Ax
namespace Go.Ax
open Go
structure Mt where
 old:Nat
 now:Nat
 opts:List Int
 same:List Bool
def aJ(l:List Nd)(i:Nat):Nd:=l.getD i ⟨0,[],0,0,[],[],[],[],.mk 0 0 [] []⟩
def oS(y:Nd)(k:Int):Nat:=(y.kids.getD k.toNat 0).toNat
structure tX(A:List Nd):Prop where
 ok:∀x∈A,uW x
 val:∀x∈A,bB x.value<=1048576
 vals:∀x∈A,∀v∈x.values,bB v<=1048576
 vlen:∀x∈A,x.values.length<=2000
 klen:∀x∈A,x.kids.length<=2000
 llen:∀x∈A,x.labels.length<=1000
 lab:∀x∈A,∀s∈x.labels,s.length<=1000
 len:A.length<=1000
structure UK(A:List Nd)(i:Nat)(x:Nd):Prop where
 opt:Wn x
 node:Gm i x
 srt:oP x.values
 val:∀v∈x.values,g9 v
theorem vS:∀{l:List aR},eI l=true->oP l
 | [],_=>by simp[oP]
 | [a],_=>by simp[oP]
 | a::b::r,h=>by
  simp only[eI,Yk,ZA] at h;have ih:=vS h.2;unfold oP at ih ⊢;refine ZW.2 ⟨fun x hx=>?_,ih⟩;rcases Yr.1 hx with rfl|hx
  ·exact h.1
  ·have:=(ZW.1 ih).1 x hx;exact JD h.1 (by omega)
theorem goodT{A:List Nd}(h:tX A)(hv:dM A=0){i:Nat}{x:Nd}(hx:A[i]? = some x):UK A i x:=by
 have hxm:=Yv hx;have hv0:cP [] A=0:=by
  unfold dM at hv;split at hv
  ·omega
  ·exact hv
 have hn:=uA A hv0 i x hx;have hN:=mT hn;have hf:=kK hn;have hfp:=pM hf;have hk:=h.klen x hxm;refine⟨⟨h.ok x hxm,cY hN.num,by omega,fun e=>by have:=hN.klen (by omega);omega,fun e=>?_⟩,hN, ?_,fun v hv=>((h.ok x hxm).valuesI v hv).1⟩
 ·refine⟨hfp.1 e, ?_⟩;unfold dN at hf;simp only[Yk,Zy,ZA] at hf;rcases hf.1.1.1.2 with h2|h2
  ·exact absurd e h2
  ·exact h2.2
 ·unfold dN at hf;simp only[Yk] at hf;exact vS hf.2
theorem ND{A:List Nd}(ho:∀x∈A,uW x)(hv:dM A=0){i:Nat}{x:Nd}(hx:A[i]? = some x)(h4:x.kind=4):1<=x.values.length:=by
 have hv0:cP [] A=0:=by
  unfold dM at hv;split at hv
  ·omega
  ·exact hv
 have hi:=(Yn.1 hx).1;have hpre:cP [] (A.take i)=0:=by
  have:=hv0;rw[←List.take_append_drop i A] at this;exact jR this
 obtain⟨q,hq,-⟩:=HX (ns:=A.take i) (fun y hy=>ho y (ZG hy)) hpre (x:=x) (.inr h4) (lI A hv0 i x hx);have hb:=(mT (uA A hv0 i x hx)).bind h4;unfold f6 at hq;rw[Yo (by omega)] at hq;have:=List.length_pos_of_mem hq;simp at this;omega
theorem VW{A:List Nd}{n:Nat}{y:Nd}(hy:Gm n y){k:Int}(h0:0<=k)(h1:k<y.kids.length):oS y k<n/\∃q:Int,y.kids[k.toNat]? = some q/\q=oS y k:=by
 have hk:k.toNat<y.kids.length:=by omega
 obtain⟨a,b⟩:=hy.kids k.toNat _ (Yj hk);unfold oS;rw[Ym,Yj hk];simp only[aAp];exact⟨by omega,_,rfl,by omega⟩
end Go.Ax
namespace Go.Ax
open Go
end Go.Ax
namespace Go.Ax
open Go
abbrev Sp:=Nat × Nat × Nat
structure Yf where
 val:aR
 used:Nat
 stop:Int
 spans:List Sp
structure Pt where
 used:Nat
 vals:List aR
 spans:List Sp
 stop:Int
def NT(x:Nd):Int:=if x.kind=1 then x.hi-x.lo+1 else x.kids.length
structure VT(A:List Nd):Prop where
 tin:tX A
 val:dM A=0
 pos:0<A.length
section
variable {A:List Nd}
theorem VT.v0(h:VT A):cP [] A=0:=by
 have hv:=h.val;unfold dM at hv;split at hv
 ·omega
 ·exact hv
theorem VT.set(h:VT A):iY A A.length:=⟨Yy _,by have:=h.tin.len;omega,h.tin.ok,by rw[ZB];exact h.v0⟩
theorem VT.node(h:VT A){i:Nat}{x:Nd}(hx:A[i]? = some x):UK A i x:=goodT h.tin h.val hx
theorem bS{i:Nat}(hi:i<A.length):A[i]? = some (aJ A i):=by
 unfold aJ;rw[Ym,Yj hi];rfl
theorem VT.kid(h:VT A){i:Nat}{x:Nd}(hx:A[i]? = some x){j:Nat}(hj:j<x.kids.length):oS x j<i/\x.kids[j]? = some (oS x j:Int):=by
 have hi:=(Yn.1 hx).1;obtain⟨h1,q,h2,h3⟩:=VW (A:=A) (h.node hx).node (k:=(j:Int)) (by omega) (by omega);refine⟨h1, ?_⟩;rw[Yl] at h2;rw[h2,h3]
theorem Bb:∀{l m:List aR},c9 l m=true->l=m
 | [],[],_=>rfl
 | a::l,b::m,h=>by
  simp only[c9,Yk,ZA] at h;rw[Df a b h.1,Bb h.2]
 | [],b::m,h=>by simp[c9] at h
 | a::l,[],h=>by simp[c9] at h
theorem VT.bind(h:VT A){i:Nat}{x:Nd}(hx:A[i]? = some x)(h4:x.kind=4):x.kids.length=x.values.length+1/\1<=x.values.length/\(dS (aO A) (oS x 0)).many=false/\(dS (aO A) (oS x 0)).vals=x.values:=by
 have hi:=(Yn.1 hx).1;have hb:=(h.node hx).node.bind h4;have h1:=ND h.tin.ok h.val hx h4;refine⟨hb,h1, ?_⟩;obtain⟨k1,k2⟩:oS x 0<i/\x.kids[0]? = some (oS x 0:Int):=h.kid hx (j:=0) (by omega);have hs:=(fX (lI A h.v0 i x hx)).2.2.2 h4;have e0:x.kids.getD 0 0=(oS x 0:Int):=by rw[Ym,k2];rfl
 unfold fK at hs;rw[e0,Yl,aAM,aAm (by omega),l9 (by omega) (by omega) (by omega)] at hs;simp only at hs;split at hs
 ·omega
 ·rename_i hm;split at hs
  ·rename_i hsv;exact⟨by simpa using hm,Bb hsv⟩
  ·omega
end
theorem Jy{n:List UInt8}{vs:List aR}(hn:n.length<=4294967296)(hl:vs.length<=4294967296)(h:∀v∈vs,g9 v):g9 (eA n vs):=by
 have z:∀k:Int,0<=k->k<=3->i64 k:=fun k h1 h2=>⟨by omega,by omega⟩
 unfold eA;split
 ·exact kS (z 2 (by omega) (by omega)) (z 0 (by omega) (by omega)) (by simp) hl (qZ h)
 ·exact kS (z 3 (by omega) (by omega)) (z 0 (by omega) (by omega)) hn hl (qZ h)
end Go.Ax
namespace Go.Ax
open Go
theorem fI{A:List Nd}(h:VT A){i:Nat}{x:Nd}(hx:A[i]? = some x){k:Int}(hk:k∈x.kids):0<=k/\k.toNat<i:=by
 obtain⟨j,hj⟩:=ZQ hk;have:=(h.node hx).node.kids j k hj;omega
theorem VT.kidI{A:List Nd}(h:VT A){i:Nat}{x:Nd}(hx:A[i]? = some x){c:Int}(h0:0<=c)(h1:c<x.kids.length):oS x c<i/\(oS x c:Int)∈x.kids/\x.kids[c.toNat]? = some (oS x c:Int):=by
 obtain⟨j,rfl⟩:=Y4 h0;obtain⟨k1,k2⟩:=h.kid hx (j:=j) (by omega);exact⟨k1,Yv k2,by rw[Yl];exact k2⟩
def YA(a b:Nat)(l:List Sp):Prop:=∀s∈l,a<=s.1/\s.1<=s.2.1/\s.2.1<=s.2.2/\s.2.2<=b
theorem YA.mono{a b a' b':Nat}{l:List Sp}(h:YA a b l)(h1:a'<=a)(h2:b<=b'):YA a' b' l:=fun s hs=>by
 have:=h s hs;omega
end Go.Ax
namespace Go.Ax
open Go
theorem NQ(r:List Nd):∀l:List Nd,∃m,b8 (l++r)=b8 l++m:=by
 refine iQ (P:=fun r=>∀l:List Nd,∃m,b8 (l++r)=b8 l++m) (fun l=>⟨[],by simp⟩) (fun r x ih l=>?_) r;obtain⟨m,hm⟩:=ih l;refine⟨m++[iJ (b8 (l++r)) x], ?_⟩;rw[←List.append_assoc,lK,hm,List.append_assoc]
theorem Gg{A:List Nd}{n:Nat}{k:Int}(h0:0<=k)(h:k<n)(hn:n<=A.length):eS (b8 (A.take n)) k=eS (b8 A) k:=by
 obtain⟨m,hm⟩:=NQ (A.drop n) (A.take n);rw[List.take_append_drop] at hm;rw[hm,MV h0 (by rw[kH,ZT];omega)]
section
variable {A:List Nd}
theorem VT.lenC(h:VT A){i:Nat}{x:Nd}(hx:A[i]? = some x){n:Nat}(hi:i<=n)(hn:n<=A.length):iJ (b8 (A.take n)) x=iJ (b8 A) x:=by
 refine ET (fun k hk=>?_) (fun h4=>by have:=(h.bind hx h4).1;omega) (h.node hx).node.kind;have:=fI h hx hk;exact Gg this.1 (by omega) hn
theorem VT.len(h:VT A){i:Nat}{x:Nd}(hx:A[i]? = some x):eS (b8 A) i=iJ (b8 A) x:=by
 obtain⟨hi,he⟩:=Yn.1 hx;rw[←Gg (n:=i+1) (by omega) (by omega) (by omega),Ys hi,lK,he,h.lenC hx (Yy _) (by omega)];unfold eS;rw[Yl,Ym,ZR (by rw[kH];simp;omega),kH];simp[show min i A.length=i by omega]
theorem VT.lens0(h:VT A)(k:Int):0<=eS (b8 A) k/\eS (b8 A) k<=1024:=by
 unfold eS;rw[Ym];cases e:(b8 A)[k.toNat]? with
 | none=>simp
 | some b=>exact(kE A h.v0).1 b (Yv e)
theorem Nz{b:List Int}(hb:∀k,0<=eS b k):∀(l:List Int),iF b l=0->∀k∈l,eS b k=0:=by
 have key:∀(l:List Int) (s:Int),0<=s->l.foldl (fun s k=>s+eS b k) s=0->s=0/\∀k∈l,eS b k=0:=by
  intro l
  induction l with
  | nil=>intro s h0 h;exact⟨h,by simp⟩
  | cons k l ih=>
   intro s h0 h;rw[Y9] at h;have hk:=hb k;obtain⟨h1,h2⟩:=ih _ (by omega) h;refine⟨by omega,fun q hq=>?_⟩;rcases Yr.1 hq with rfl|hq
   ·omega
   ·exact h2 q hq
 exact fun l h=>(key l 0 (Int.le_refl _) h).2
theorem VT.len0(h:VT A){i:Nat}{x:Nd}(hx:A[i]? = some x)(h0:eS (b8 A) i=0):x.kind≠1/\x.kind≠2/\(x.kind=3->∀k∈x.kids,eS (b8 A) k=0) /\
  (x.kind=4->eS (b8 A) (oS x 0)=0/\∀k∈x.kids.drop 1,eS (b8 A) k=0):=by
 rw[h.len hx] at h0;have hb:=fun k=>(h.lens0 k).1
 unfold iJ at h0;refine⟨fun e=>?_,fun e=>?_,fun e=>?_,fun e=>?_⟩
 ·rw[Yo (by omega),Yt e] at h0;omega
 ·rw[Yo (by omega),Yo (by omega),Yo (by omega),Yt e] at h0;have:=(iX (b:=b8 A) (M:=1024) (by omega) (kE A h.v0).1 (f6 x)).1;omega
 ·rw[Yo (by omega),Yo (by omega),Yt e] at h0;exact Nz hb _ h0
 ·rw[Yo (by omega),Yo (by omega),Yo (by omega),Yo (by omega)] at h0;have hm:=(iX (b:=b8 A) (M:=1024) (by omega) (kE A h.v0).1 (f6 x)).1;have hk:(x.kids.getD 0 0)=(oS x 0:Int):=by
   have:=(h.bind hx e).1;have h2:x.kids[0]? = some (oS x 0:Int):=(h.kid hx (j:=0) (by omega)).2;rw[Ym,h2];rfl
  rw[hk] at h0;have:=hb (oS x 0);refine⟨by omega,fun k hk=>?_⟩;have ha:k∈f6 x:=by unfold f6;rw[Yo (by omega)];exact hk
  have h1:=(wQ (ss:=b8 A) (f6 x) 0 k ha).1;have h1:eS (b8 A) k<=dE (b8 A) (f6 x):=h1;have:=hb k;omega
end
end Go.Ax
namespace Go.Ax
open Go
structure Sys(S R:Type) where
 sa:Nd->(Nat->S)->(Nat->aR->R)->S
 sf:Nd->(Nat->aR->R)->aR->R
 s0:S
 r0:R
 la:∀(x:Nd) (al al':Nat->S) (of of':Nat->aR->R),(∀k∈x.kids,al k.toNat=al' k.toNat)->(∀k∈x.kids,∀v,of k.toNat v=of' k.toNat v)->sa x al of=sa x al' of'
 lf:∀(x:Nd) (of of':Nat->aR->R) (v:aR),(∀k∈x.kids,∀v,of k.toNat v=of' k.toNat v)->sf x of v=sf x of' v
section
variable {S R:Type}
def Sys.run(y:Sys S R)(A:List Nd):Nat->(Nat->S) × (Nat->aR->R)
 | 0=>(fun _=>y.s0,fun _ _=>y.r0)
 | f+1=>(fun i=>y.sa (aJ A i) (y.run A f).1 (y.run A f).2,fun i v=>y.sf (aJ A i) (y.run A f).2 v)
def Sys.all(y:Sys S R)(A:List Nd)(i:Nat):S:=(y.run A (i+1)).1 i
def Sys.of(y:Sys S R)(A:List Nd)(i:Nat)(v:aR):R:=(y.run A (i+1)).2 i v
theorem Sys.stable(y:Sys S R){A:List Nd}(h:VT A):∀(f g i:Nat),i<f->i<g->i<A.length->(y.run A f).1 i=(y.run A g).1 i/\∀v,(y.run A f).2 i v=(y.run A g).2 i v
 | 0,g,i,h1,h2,h3=>by omega
 | f+1,0,i,h1,h2,h3=>by omega
 | f+1,g+1,i,h1,h2,h3=>by
  have hk:=fun(k:Int) (hk:k∈(aJ A i).kids)=>fI h (bS h3) hk
  have ih:=fun(k:Int) (hm:k∈(aJ A i).kids)=>y.stable h f g k.toNat (by have:=hk k hm;omega) (by have:=hk k hm;omega) (by have:=hk k hm;omega)
  exact⟨y.la _ _ _ _ _ (fun k hm=>(ih k hm).1) fun k hm=>(ih k hm).2,fun v=>y.lf _ _ _ _ fun k hm=>(ih k hm).2⟩
theorem Sys.all_eq(y:Sys S R){A:List Nd}(h:VT A){i:Nat}(hi:i<A.length):y.all A i=y.sa (aJ A i) (y.all A) (y.of A):=by
 have hk:=fun(k:Int) (hk:k∈(aJ A i).kids)=>fI h (bS hi) hk
 exact y.la _ _ _ _ _ (fun k hm=>(y.stable h i _ k.toNat (hk k hm).2 (Zo _) (by have:=hk k hm;omega)).1) fun k hm=>(y.stable h i _ k.toNat (hk k hm).2 (Zo _) (by have:=hk k hm;omega)).2
theorem Sys.of_eq(y:Sys S R){A:List Nd}(h:VT A){i:Nat}(hi:i<A.length)(v:aR):y.of A i v=y.sf (aJ A i) (y.of A) v:=by
 have hk:=fun(k:Int) (hk:k∈(aJ A i).kids)=>fI h (bS hi) hk
 exact y.lf _ _ _ _ fun k hm=>(y.stable h i _ k.toNat (hk k hm).2 (Zo _) (by have:=hk k hm;omega)).2
end
theorem cC{α β:Type}{f g:β->α->β}:∀(l:List α) (b:β),(∀a∈l,∀b,f b a=g b a)->l.foldl f b=l.foldl g b
 | [],b,h=>rfl
 | a::l,b,h=>by
  rw[Y9,Y9,h a (Y7 ..),cC l _ fun a ha=>h a (Yx _ ha)]
theorem d8{α:Type}{l:List α}{kc:α × Nat}(h:kc∈l.zipIdx):kc.1∈l:=by
 obtain⟨a,i⟩:=kc;obtain⟨h1,h2⟩:=List.mem_zipIdx' h;simp only at h2 ⊢;rw[h2];exact Y8 _
theorem cU{α:Type}{l:List α}{ks:List Int}{a:α × Int}(h:a∈l.zip (ks.drop 1)):a.2∈ks/\ks.getD 0 0∈ks:=by
 have:=ZV (Zq h).2;cases ks with
 | nil=>cases this
 | cons b r=>exact⟨this,by simp⟩
def jZ:aR->List aR
 | .mk _ _ _ ks=>ks
def Wt:aR->List UInt8
 | .mk _ _ s _=>s
def jH(x:Nd)(v:aR):Bool:=decide ((jZ v).length=x.kids.length) && (if x.name=[] then decide (Jx v=2) else decide (Jx v=3) && decide (Wt v=x.name))
def BF(x:Nd)(v:aR):Bool:=decide (Jx v=0) && decide (x.lo<=KZ v) && decide (KZ v<=x.hi)
def gB(x:Nd):Nat:=(x.kids.getD 0 0).toNat
structure Cf(T:Type) where
 one:T
 add:T->T->T
 mul:T->T->T
 opt:Nd->Nat->T
 spn:Nd->T
section
variable {T:Type}
def iL(g:Cf T):Option T->Option T->Option T
 | none,b=>b
 | some a,none=>some a
 | some a,some b=>some (g.add a b)
def d9(g:Cf T):Option T->Option T->Option T
 | some a,some b=>some (g.mul a b)
 | _,_=>none
def Sy(g:Cf T)(x:Nd)(al:Nat->Option T)(f:Option T)(kc:Int × Nat):Option T:=iL g f (d9 g (some (g.opt x kc.2)) (al kc.1.toNat))
def QJ(g:Cf T)(x:Nd)(of:Nat->aR->Option T)(al:Nat->Option T)(f:Option T)(vk:aR × Int):Option T:=iL g f (d9 g (of (gB x) vk.1) (al vk.2.toNat))
def VU(g:Cf T)(of:Nat->aR->Option T)(f:Option T)(kv:Int × aR):Option T:=d9 g f (of kv.1.toNat kv.2)
def GH(g:Cf T)(x:Nd)(al:Nat->Option T)(of:Nat->aR->Option T):Option T:=
 if x.kind=1 then some (g.spn x)
 else if x.kind=3 then x.kids.foldl (fun f k=>d9 g f (al k.toNat)) (some g.one)
 else if x.kind=2 then x.kids.zipIdx.foldl (Sy g x al) none
 else if x.kind=4 then(x.values.zip (x.kids.drop 1)).foldl (QJ g x of al) none
 else some g.one
def B9(g:Cf T)(x:Nd)(of:Nat->aR->Option T)(v:aR):Option T:=
 if bP v≠0 then none
 else if x.kind=0 then(if cE x.value v=0 then some g.one else none)
 else if x.kind=1 then(if BF x v=true then some (g.opt x (KZ v-x.lo).toNat) else none)
 else if x.kind=3 then(if jH x v=true then(x.kids.zip (jZ v)).foldl (VU g of) (some g.one) else none)
 else if x.kind=2 then x.kids.zipIdx.foldl (Sy g x fun k=>of k v) none
 else if x.kind=4 then(x.values.zip (x.kids.drop 1)).foldl (QJ g x of fun k=>of k v) none
 else none
def cA(g:Cf T):Sys (Option T) (Option T) where
 sa:=GH g
 sf:=B9 g
 s0:=none
 r0:=none
 la:=fun x al al' of of' h1 h2=>by
  unfold GH;split
  ·rfl
  split
  ·exact cC _ _ fun k hk b=>by rw[h1 k hk]
  split
  ·exact cC _ _ fun kc hk b=>by unfold Sy;rw[h1 _ (d8 hk)]
  split
  ·exact cC _ _ fun vk hk b=>by
    obtain⟨m1,m2⟩:=cU hk;unfold QJ gB;rw[h1 _ m1,h2 _ m2]
  ·rfl
 lf:=fun x of of' v h2=>by
  unfold B9;split
  ·rfl
  split
  ·rfl
  split
  ·rfl
  split
  ·split
   ·exact cC _ _ fun kv hk b=>by unfold VU;rw[h2 _ (Zq hk).1]
   ·rfl
  split
  ·exact cC _ _ fun kc hk b=>by unfold Sy;dsimp only;rw[h2 _ (d8 hk)]
  split
  ·exact cC _ _ fun vk hk b=>by
    obtain⟨m1,m2⟩:=cU hk;unfold QJ gB;simp only;rw[h2 _ m1,h2 _ m2]
  ·rfl
end
end Go.Ax
namespace Go.Ax
open Go
def uT(n:Nat):Option Nat:=if n=0 then none else some n
def aW:Cf Nat:=⟨1,(· + ·),(· * ·),fun _ _=>1,fun x=>(x.hi-x.lo+1).toNat⟩
theorem nV(a b:Nat):iL aW (uT a) (uT b)=uT (a+b):=by
 unfold uT;by_cases ha:a=0<;>by_cases hb:b=0
 ·subst ha hb;rfl
 ·subst ha;rw[Yt rfl,Yo hb,ZD,Yo hb];rfl
 ·subst hb;rw[Yt rfl,Yo ha,aAr,Yo ha];rfl
 ·rw[Yo ha,Yo hb,Yo (by omega)];rfl
theorem i0(a b:Nat):d9 aW (uT a) (uT b)=uT (a*b):=by
 unfold uT;by_cases ha:a=0<;>by_cases hb:b=0
 ·subst ha hb;rfl
 ·subst ha;rw[Yt rfl,Yo hb,Nat.zero_mul];rfl
 ·subst hb;rw[Yt rfl,Yo ha,aBH];rfl
 ·rw[Yo ha,Yo hb,Yo (Nat.mul_ne_zero ha hb)];rfl
def kP(x:Nd)(al:Nat->Nat)(of:Nat->aR->Nat):Nat:=
 if x.kind=1 then(x.hi-x.lo+1).toNat
 else if x.kind=3 then x.kids.foldl (fun f k=>f*al k.toNat) 1
 else if x.kind=2 then x.kids.foldl (fun f k=>f+al k.toNat) 0
 else if x.kind=4 then(x.values.zip (x.kids.drop 1)).foldl (fun f vk=>f+of (gB x) vk.1*al vk.2.toNat) 0
 else 1
def rN(x:Nd)(of:Nat->aR->Nat)(v:aR):Nat:=
 if bP v≠0 then 0
 else if x.kind=0 then(if cE x.value v=0 then 1 else 0)
 else if x.kind=1 then(if BF x v=true then 1 else 0)
 else if x.kind=3 then(if jH x v=true then(x.kids.zip (jZ v)).foldl (fun f kv=>f*of kv.1.toNat kv.2) 1 else 0)
 else if x.kind=2 then x.kids.foldl (fun f k=>f+of k.toNat v) 0
 else if x.kind=4 then(x.values.zip (x.kids.drop 1)).foldl (fun f vk=>f+of (gB x) vk.1*of vk.2.toNat v) 0
 else 0
def cZ:Sys Nat Nat where
 sa:=kP
 sf:=rN
 s0:=0
 r0:=0
 la:=fun x al al' of of' h1 h2=>by
  unfold kP;split
  ·rfl
  split
  ·exact cC _ _ fun k hk b=>by rw[h1 k hk]
  split
  ·exact cC _ _ fun k hk b=>by rw[h1 k hk]
  split
  ·exact cC _ _ fun vk hk b=>by
    obtain⟨m1,m2⟩:=cU hk;unfold gB;rw[h1 _ m1,h2 _ m2]
  ·rfl
 lf:=fun x of of' v h2=>by
  unfold rN;split
  ·rfl
  split
  ·rfl
  split
  ·rfl
  split
  ·split
   ·exact cC _ _ fun kv hk b=>by rw[h2 _ (Zq hk).1]
   ·rfl
  split
  ·exact cC _ _ fun k hk b=>by rw[h2 k hk]
  split
  ·exact cC _ _ fun vk hk b=>by
    obtain⟨m1,m2⟩:=cU hk;unfold gB;rw[h2 _ m1,h2 _ m2]
  ·rfl
theorem eD{α β γ:Type}(t:β->γ){f:β->α->β}{g:γ->α->γ}:∀(l:List α) (b:β),(∀a∈l,∀b,t (f b a)=g (t b) a)->t (l.foldl f b)=l.foldl g (t b)
 | [],b,h=>rfl
 | a::l,b,h=>by
  rw[Y9,Y9,←h a (Y7 ..) b,eD t l _ fun a ha=>h a (Yx _ ha)]
theorem mR{α β:Type}{f:β->α->β}(l:List α):∀(n:Nat) (b:β),(l.zipIdx n).foldl (fun b kc=>f b kc.1) b=l.foldl f b:=by
 induction l with
 | nil=>exact fun n b=>rfl
 | cons a l ih=>exact fun n b=>by rw[aAo,Y9,Y9,ih]
theorem uK(a:Nat):d9 aW (some 1) (uT a)=uT a:=by
 have:=i0 1 a;rw[Zx] at this;exact this
theorem L4{A:List Nd}(h:VT A):∀i,i<A.length->(cA aW).all A i=uT (cZ.all A i)/\∀v,(cA aW).of A i v=uT (cZ.of A i v):=by
 intro i
 induction i using Nat.strongRecOn with
 | ind i ih=>
  intro hi;have hx:=bS hi;have hk:=fun(k:Int) (hk:k∈(aJ A i).kids)=>fI h hx hk
  have ia:=fun(k:Int) (hm:k∈(aJ A i).kids)=>(ih k.toNat (hk k hm).2 (by have:=hk k hm;omega)).1
  have io:=fun(k:Int) (hm:k∈(aJ A i).kids)=>(ih k.toNat (hk k hm).2 (by have:=hk k hm;omega)).2
  have hr1:(aJ A i).kind=1->((aJ A i).hi-(aJ A i).lo+1).toNat≠0:=fun _=>by
   have:=cY (h.node hx).node.num;omega
  rw[(cA aW).all_eq h hi,cZ.all_eq h hi];refine⟨?_,fun v=>?_⟩
  ·show GH _ _ _ _=uT (kP _ _ _)
   unfold GH kP;generalize aJ A i=x at *;split
   ·rename_i h1;unfold uT;rw[Yo (hr1 h1)];rfl
   split
   ·rw[eD uT _ _ (g:=fun f k=>d9 aW f ((cA aW).all A k.toNat)) fun k hm b=>by rw[ia k hm,i0]];rfl
   split
   ·rw[eD uT _ _ (g:=fun f k=>iL aW f ((cA aW).all A k.toNat)) fun k hm b=>by rw[ia k hm,nV]];refine(cC (g:=fun b (kc:Int × Nat)=>iL aW b ((cA aW).all A kc.1.toNat)) _ _ fun kc hm b=>?_).trans (mR (f:=fun b (k:Int)=>iL aW b ((cA aW).all A k.toNat)) _ 0 _);unfold Sy;rw[ia _ (d8 hm),show aW.opt x kc.2=1 from rfl,uK]
   split
   ·rw[eD uT _ _ (g:=QJ aW x ((cA aW).of A) ((cA aW).all A)) fun vk hm b=>by
     obtain⟨m1,m2⟩:=cU hm;unfold QJ gB;rw[ia _ m1,io _ m2,i0,nV]]
    rfl
   ·rfl
  ·rw[(cA aW).of_eq h hi,cZ.of_eq h hi]
   show B9 _ _ _ _=uT (rN _ _ _)
   unfold B9 rN;generalize aJ A i=x at *;split
   ·rfl
   split
   ·split<;>rfl
   split
   ·split<;>rfl
   split
   ·split
    ·rw[eD uT _ _ (g:=VU aW ((cA aW).of A)) fun kv hm b=>by
      unfold VU;rw[io _ (Zq hm).1,i0]]
     rfl
    ·rfl
   split
   ·rw[eD uT _ _ (g:=fun f k=>iL aW f ((cA aW).of A k.toNat v)) fun k hm b=>by rw[io k hm,nV]];refine(cC (g:=fun b (kc:Int × Nat)=>iL aW b ((cA aW).of A kc.1.toNat v)) _ _ fun kc hm b=>?_).trans (mR (f:=fun b (k:Int)=>iL aW b ((cA aW).of A k.toNat v)) _ 0 _);unfold Sy
    dsimp only
    rw[io _ (d8 hm),show aW.opt x kc.2=1 from rfl,uK]
   split
   ·rw[eD uT _ _ (g:=QJ aW x ((cA aW).of A) fun k=>(cA aW).of A k v) fun vk hm b=>by
     obtain⟨m1,m2⟩:=cU hm;unfold QJ gB
     dsimp only
     rw[io _ m1,io _ m2,i0,nV]]
    rfl
   ·rfl
end Go.Ax
namespace Go.Ax
open Go
theorem DI{v:aR}(h:bP v=0):bR v=true/\yE v=true/\bB v<=1024:=by
 unfold bP at h;split at h
 ·omega
 ·rename_i hf;have hf:bR v=true:=by simpa using hf
  split at h
  ·omega
  ·rename_i hw;rw[not_or] at hw;refine⟨hf, ?_,by omega⟩;have:=Bg v hf;have h2:kW v=false:=by simpa using hw.1
   rw[h2] at this;simpa using this.symm
theorem B2:∀{l:List aR},eP l=0->∀v∈l,bP v=0
 | [],h,v,hv=>by cases hv
 | a::l,h,v,hv=>by
  simp only[eP] at h;split at h
  ·rename_i h1;exact absurd h h1
  ·rename_i h1;rcases Yr.1 hv with rfl|hv
   ·exact Decidable.not_not.1 h1
   ·exact B2 h v hv
theorem VT.own{A:List Nd}(h:VT A){i:Nat}{x:Nd}(hx:A[i]? = some x):∀v∈qM x,bP v=0:=by
 have hn:=(fX (lI A h.v0 i x hx)).1;unfold fS at hn;split at hn
 ·omega
 split at hn
 ·rename_i h1;exact absurd hn h1
 ·rename_i h1;exact B2 (Decidable.not_not.1 h1)
theorem VT.vals_valid{A:List Nd}(h:VT A){i:Nat}{x:Nd}(hx:A[i]? = some x){v:aR}(hv:v∈x.values):bP v=0:=h.own hx v (Zz _ hv)
theorem VT.len256{A:List Nd}(h:VT A){i:Nat}{x:Nd}(hx:A[i]? = some x):0<=eS (b8 A) i/\eS (b8 A) i<=256:=by
 have hi:=(Yn.1 hx).1;have:=(fX (lI A h.v0 i x hx)).2.1;rw[h.lenC hx (Yy _) (by omega),←h.len hx] at this;exact⟨(h.lens0 i).1,this⟩
theorem GP:∀{l:List aR},cS l=true->∀v∈l,bR v=true
 | [],h,v,hv=>by cases hv
 | a::l,h,v,hv=>by
  simp only[cS,Yk] at h;rcases Yr.1 hv with rfl|hv
  ·exact h.1
  ·exact GP h.2 v hv
theorem H7:∀{l:List aR},qP l=false->∀v∈l,kW v=false
 | [],h,v,hv=>by cases hv
 | a::l,h,v,hv=>by
  simp only[qP,aAz] at h;rcases Yr.1 hv with rfl|hv
  ·exact h.1
  ·exact H7 h.2 v hv
theorem JV:∀{l:List aR} {v:aR},v∈l->bB v<=bZ l
 | a::l,v,hv=>by
  simp only[bZ];rcases Yr.1 hv with rfl|hv
  ·omega
  ·have:=JV hv;omega
theorem j8{v:aR}(h:bP v=0):bR v=true/\kW v=false/\bB v<=1024:=by
 unfold bP at h;split at h
 ·omega
 ·rename_i h1;split at h
  ·omega
  ·rename_i h2;rw[not_or] at h2;exact⟨by simpa using h1,by simpa using h2.1,by omega⟩
theorem Qx{v:aR}(h1:bR v=true)(h2:kW v=false)(h3:bB v<=1024):bP v=0:=by
 unfold bP;rw[Yo (by rw[h1];simp),Yo (by rw[h2];simp;omega)]
theorem zP{v:aR}(h:bP v=0):∀u∈jZ v,bP u=0:=fun u hu=>by
 obtain⟨k,n,s,ks⟩:=v;obtain⟨h1,h2,h3⟩:=j8 h;simp only[bR,Yk] at h1;simp only[kW,aAz] at h2;simp only[bB] at h3;have:=JV (show u∈ks from hu);exact Qx (GP h1.2 u hu) (H7 h2.2 u hu) (by omega)
def pB(v:aR)(l:List aR):Nat:=l.countP fun u=>decide (cE u v=0)
def IQ(x:Nd)(pv:Nat->List aR):List aR:=
 if x.kind=1 then gS x.lo x.hi
 else if x.kind=3 then(x.kids.foldl (fun rows k=>f7 rows (pv k.toNat)) [[]]).map (eA x.name)
 else if x.kind=2 then x.kids.flatMap fun k=>pv k.toNat
 else if x.kind=4 then(x.values.zip (x.kids.drop 1)).flatMap fun vk=>((pv (gB x)).filter fun u=>decide (cE u vk.1=0)).flatMap fun _=>pv vk.2.toNat
 else [x.value]
theorem tK{α β:Type}{f g:α->List β}:∀(l:List α),(∀a∈l,f a=g a)->l.flatMap f=l.flatMap g
 | [],h=>rfl
 | a::l,h=>by rw[Z0,Z0,h a (Y7 ..),tK l fun a ha=>h a (Yx _ ha)]
def V3:Sys (List aR) Unit where
 sa:=fun x al _=>IQ x al
 sf:=fun _ _ _=>()
 s0:=[]
 r0:=()
 la:=fun x al al' of of' h1 h2=>by
  unfold IQ;split
  ·rfl
  split
  ·exact congrArg _ (cC _ _ fun k hk b=>by rw[h1 k hk])
  split
  ·exact tK _ fun k hk=>h1 k hk
  split
  ·exact tK _ fun vk hk=>by
    obtain⟨m1,m2⟩:=cU hk;unfold gB;rw[h1 _ m1,h1 _ m2]
  ·rfl
 lf:=fun x of of' v h2=>rfl
def sH(A:List Nd)(i:Nat):List aR:=V3.all A i
theorem rR{a b:aR}:cE a b=0↔a=b:=⟨Df a b,fun h=>by rw[h];exact(pW b).refl⟩
theorem Kn(l:List aR):c9 l l=true:=by
 induction l with
 | nil=>rfl
 | cons a l ih=>simp only[c9,Yk,ZA];exact⟨rR.2 rfl,ih⟩
theorem zE{l m:List aR}:c9 l m=true↔l=m:=⟨Bb,fun h=>by rw[h];exact Kn m⟩
theorem H5(q r:List aR)(u v:aR):c9 (q++[u]) (r++[v])=(c9 q r && decide (cE u v=0)):=by
 rw[ZN,Yk,zE,zE,ZA,rR];constructor
 ·intro h;exact List.append_inj' h rfl |>.imp id fun h=>by simpa using h
 ·rintro⟨rfl,rfl⟩;rfl
theorem t7{x:Nd}{k n:Int}{s:List UInt8}{ks:List aR}:jH x (.mk k n s ks)=true↔ks.length=x.kids.length/\(if x.name=[] then k=2 else k=3/\s=x.name):=by
 show (decide (ks.length=x.kids.length) && (if x.name=[] then decide (k=2) else decide (k=3) && decide (s=x.name)))=true↔_
 rw[Yk,ZA];refine and_congr_right fun _=>?_
 split
 ·rw[ZA]
 ·rw[Yk,ZA,ZA]
theorem GX{x:Nd}{k n:Int}{s:List UInt8}{ks:List aR}:BF x (.mk k n s ks)=true↔(k=0/\x.lo<=n)/\n<=x.hi:=by
 show (decide (k=0) && decide (x.lo<=n) && decide (n<=x.hi))=true↔_
 rw[Yk,Yk,ZA,ZA,ZA]
def FV(r:List aR)(rows:List (List aR)):Nat:=rows.countP fun q=>c9 q r
theorem D5(r:List aR)(v:aR)(l:List aR):∀rows:List (List aR),FV (r++[v]) (f7 rows l)=FV r rows*pB v l
 | []=>by simp[FV,f7]
 | q::rows=>by
  have ih:=D5 r v l rows;unfold FV f7 at *;rw[Z0,aBe,ih,aBJ,List.countP_cons,Nat.add_mul,aBw];congr 1;have e:((fun q=>c9 q (r++[v])) ∘ fun v=>q++[v])=fun u=>(c9 q r && decide (cE u v=0)):=by
   funext u;exact H5 q r u v
  rw[e];cases c9 q r with
  | true=>simp[pB]
  | false=>simp
theorem Gl(pv:Nat->List aR):∀(ks:List Int) (vs:List aR) (r:List aR) (rows:List (List aR)),vs.length=ks.length ->
  FV (r++vs) (ks.foldl (fun rows k=>f7 rows (pv k.toNat)) rows)=(ks.zip vs).foldl (fun f kv=>f*pB kv.2 (pv kv.1.toNat)) (FV r rows)
 | [],[],r,rows,_=>by simp
 | [],v::vs,r,rows,h=>by simp at h
 | k::ks,[],r,rows,h=>by simp at h
 | k::ks,v::vs,r,rows,h=>by
  rw[Y9,Z2,Y9,show r++v::vs=(r++[v])++vs by simp,Gl pv ks vs _ _ (by simpa using h),D5]
theorem yP(pv:Nat->List aR):∀(ks:List Int) (rows:List (List aR)),(ks.foldl (fun rows k=>f7 rows (pv k.toNat)) rows).length=ks.foldl (fun f k=>f*(pv k.toNat).length) rows.length
 | [],rows=>rfl
 | k::ks,rows=>by rw[Y9,Y9,yP pv ks,sC]
theorem yV(pv:Nat->List aR):∀(ks:List Int) (rows:List (List aR)) (n:Nat),(∀q∈rows,q.length=n)->∀q∈ks.foldl (fun rows k=>f7 rows (pv k.toNat)) rows,q.length=n+ks.length
 | [],rows,n,h,q,hq=>h q hq
 | k::ks,rows,n,h,q,hq=>by
  rw[Y9] at hq;have:=yV pv ks _ (n+1) (fun q hq=>by
   obtain⟨r,h1,v,h2,rfl⟩:=sD hq;simp[h r h1]) q hq
  simp only[ZH];omega
theorem PV(x:Nd){v:aR}(hv:bP v=0)(rows:List (List aR))(hr:∀q∈rows,q.length=x.kids.length):pB v (rows.map (eA x.name))=if jH x v=true then FV (jZ v) rows else 0:=by
 obtain⟨k,n,s,ks⟩:=v;have hf:=(j8 hv).1;simp only[bR,Yk] at hf;have hf:=hf.1;unfold pB;rw[aBJ];have key:∀q∈rows,((fun u=>decide (cE u (.mk k n s ks)=0)) ∘ eA x.name) q=(jH x (.mk k n s ks) && c9 q ks):=by
  intro q hq;have hql:=hr q hq
  show decide (cE (eA x.name q) (.mk k n s ks)=0)=_
  rw[ZN,ZA,rR,Yk,zE,t7];unfold eA;by_cases hn:x.name=[]
  ·rw[Yt hn,Yt hn];constructor
   ·intro h;injection h with h1 h2 h3 h4;subst h4;exact⟨⟨hql,h1.symm⟩,rfl⟩
   ·rintro⟨⟨h1,h2⟩,rfl⟩;subst h2;unfold cT at hf;simp at hf;rw[hf.1,hf.2]
  ·rw[Yo hn,Yo hn];constructor
   ·intro h;injection h with h1 h2 h3 h4;subst h4;exact⟨⟨hql,h1.symm,h3.symm⟩,rfl⟩
   ·rintro⟨⟨h1,h2,h3⟩,rfl⟩;subst h2;unfold cT at hf;simp at hf;rw[hf.1,h3]
 rw[List.countP_congr (q:=fun q=>(jH x (.mk k n s ks) && c9 q ks)) fun q hq=>by rw[key q hq]];unfold FV jZ;cases jH x (.mk k n s ks) with
 | true=>simp
 | false=>simp
theorem B0{α:Type}(v:aR)(f:α->List aR):∀(l:List α) (s:Nat),s+pB v (l.flatMap f)=l.foldl (fun s a=>s+pB v (f a)) s
 | [],s=>by simp[pB]
 | a::l,s=>by
  rw[Z0,Y9,←B0 v f l];unfold pB;rw[aBe];omega
theorem DX{α:Type}(f:α->List aR):∀(l:List α) (s:Nat),s+(l.flatMap f).length=l.foldl (fun s a=>s+(f a).length) s
 | [],s=>by simp
 | a::l,s=>by
  rw[Z0,Y9,←DX f l,Y1];omega
theorem FD(v:aR)(l:List aR):(l.filter fun u=>decide (cE u v=0)).length=pB v l:=by unfold pB;rw[List.countP_eq_length_filter]
theorem Mn(m l:List aR):(l.flatMap fun _=>m).length=l.length*m.length:=by
 induction l with
 | nil=>simp
 | cons a l ih=>rw[Z0,Y1,ih,ZH,Nat.add_mul,Zx];omega
theorem OJ(v:aR)(m l:List aR):pB v (l.flatMap fun _=>m)=l.length*pB v m:=by
 induction l with
 | nil=>simp[pB]
 | cons a l ih=>
  rw[Z0,ZH,Nat.add_mul,Zx,←ih];unfold pB;rw[aBe];omega
theorem Kr{x:Nd}{v:aR}(hv:bP v=0):pB v (gS x.lo x.hi)=if BF x v=true then 1 else 0:=by
 obtain⟨k,n,s,ks⟩:=v;have hf:=(j8 hv).1;simp only[bR,Yk] at hf;have hf:=hf.1;unfold pB gS;rw[aBJ];have key:∀m:Nat,(List.range m).countP ((fun u=>decide (cE u (.mk k n s ks)=0)) ∘ fun i:Nat=>aR.mk 0 (x.lo+(i:Int)) [] [])=if k=0/\x.lo<=n/\n<x.lo+m then 1 else 0:=by
  intro m
  induction m with
  | zero=>rw[Yo (by omega)];rfl
  | succ m ih=>
   rw[aBa,aBe,ih,List.countP_singleton];have e:((fun u=>decide (cE u (.mk k n s ks)=0)) ∘ fun i:Nat=>aR.mk 0 (x.lo+(i:Int)) [] []) m=decide (k=0/\n=x.lo+m):=by
    show decide (cE (.mk 0 (x.lo+(m:Int)) [] []) (.mk k n s ks)=0)=_
    rw[ZN,ZA,ZA,rR];constructor
    ·intro h;injection h with h1 h2 h3 h4;exact⟨h1.symm,h2.symm⟩
    ·rintro⟨rfl,rfl⟩;unfold cT at hf;simp at hf;rw[hf.1,hf.2]
   rw[e];by_cases h1:k=0
   ·by_cases h2:n=x.lo+m
    ·rw[Yo (by omega),Yt (by simp[h1,h2]),Yt (by omega)]
    ·rw[Yo (c:=decide _=true) (by simp[h2])];by_cases h3:x.lo<=n/\n<x.lo+m
     ·rw[Yt ⟨h1,h3⟩,Yt (by omega)]
     ·rw[Yo (by omega),Yo (by omega)]
   ·rw[Yo (by simp[h1]),Yo (by simp[h1]),Yo (by simp[h1])]
 rw[key];by_cases h:(k=0/\x.lo<=n)/\n<=x.hi
 ·rw[Yt (GX.2 h),Yt (by omega)]
 ·rw[Yo (fun e=>h (GX.1 e)),Yo (by omega)]
theorem H9{A:List Nd}(h:VT A):∀i,i<A.length->(sH A i).length=cZ.all A i/\∀v,bP v=0->pB v (sH A i)=cZ.of A i v:=by
 intro i
 induction i using Nat.strongRecOn with
 | ind i ih=>
  intro hi;have hx:=bS hi;have hk:=fun(k:Int) (hk:k∈(aJ A i).kids)=>fI h hx hk
  have ia:=fun(k:Int) (hm:k∈(aJ A i).kids)=>(ih k.toNat (hk k hm).2 (by have:=hk k hm;omega)).1
  have io:=fun(k:Int) (hm:k∈(aJ A i).kids)=>(ih k.toNat (hk k hm).2 (by have:=hk k hm;omega)).2
  have hr:=cY (h.node hx).node.num;have hvv:=fun(u:aR) (hu:u∈(aJ A i).values)=>h.vals_valid hx hu
  rw[cZ.all_eq h hi,show sH A i=IQ (aJ A i) (sH A) from V3.all_eq h hi];refine⟨?_,fun v hv=>?_⟩
  ·show _=kP _ _ _
   unfold IQ kP;generalize aJ A i=x at *;split
   ·simp[gS];omega
   split
   ·rw[aAn,yP];exact cC _ _ fun k hm b=>by rw[ia k hm]
   split
   ·have:=DX (fun k:Int=>sH A k.toNat) x.kids 0;rw[ZD] at this;rw[this];exact cC _ _ fun k hm b=>by rw[ia k hm]
   split
   ·have:=DX (fun vk:aR × Int=>((sH A (gB x)).filter fun u=>decide (cE u vk.1=0)).flatMap fun _=>sH A vk.2.toNat) (x.values.zip (x.kids.drop 1)) 0;rw[ZD] at this;rw[this];exact cC _ _ fun vk hm b=>by
     obtain⟨m1,m2⟩:=cU hm;rw[Mn,FD,ia _ m1];unfold gB;rw[io _ m2 _ (hvv _ (Zq hm).1)]
   ·rfl
  ·rw[cZ.of_eq h hi]
   show _=rN _ _ _
   unfold IQ rN;rw[Yo (show ¬bP v≠0 by omega)];have hkk:=(h.node hx).node.kind;generalize aJ A i=x at *;by_cases k0:x.kind=0
   ·rw[Yo (by omega),Yo (by omega),Yo (by omega),Yo (by omega),Yt k0];unfold pB;rw[List.countP_singleton];by_cases e:cE x.value v=0
    ·rw[Yt (by simpa using e),Yt e]
    ·rw[Yo (by simpa using e),Yo e]
   rw[Yo k0];by_cases k1:x.kind=1
   ·rw[Yt k1,Yt k1];exact Kr hv
   rw[Yo k1,Yo k1];by_cases k3:x.kind=3
   ·rw[Yt k3,Yt k3,PV x hv _ fun q hq=>by have:=yV (sH A) x.kids [[]] 0 (by simp) q hq;omega];obtain⟨k,n,s,ks⟩:=v;split
    ·rename_i hm;have hl:=(t7.1 hm).1;have:=Gl (sH A) x.kids ks [] [[]] hl;rw[ZS] at this
     show FV ks _=_
     rw[this];have e1:FV [] [[]]=1:=rfl;rw[e1];exact cC _ _ fun kv hm b=>by
      obtain⟨m1,m2⟩:=Zq hm;rw[io _ m1 _ (zP hv _ m2)]
    ·rfl
   rw[Yo k3,Yo k3];by_cases k2:x.kind=2
   ·rw[Yt k2,Yt k2];have:=B0 v (fun k:Int=>sH A k.toNat) x.kids 0;rw[ZD] at this;rw[this];exact cC _ _ fun k hm b=>by rw[io k hm v hv]
   rw[Yo k2,Yo k2,Yt (by omega),Yt (by omega)];have:=B0 v (fun vk:aR × Int=>((sH A (gB x)).filter fun u=>decide (cE u vk.1=0)).flatMap fun _=>sH A vk.2.toNat) (x.values.zip (x.kids.drop 1)) 0;rw[ZD] at this;rw[this];exact cC _ _ fun vk hm b=>by
    obtain⟨m1,m2⟩:=cU hm;rw[OJ,FD,io _ m1 v hv];unfold gB;rw[io _ m2 _ (hvv _ (Zq hm).1)]
theorem Jm{A:List Nd}(h:VT A){i:Nat}(hi:i<A.length){v:aR}(hv:bP v≠0):cZ.of A i v=0:=by
 rw[cZ.of_eq h hi]
 show rN _ _ _=_
 unfold rN;rw[Yt hv]
theorem Je{A:List Nd}(h:VT A){i:Nat}(hi:i<A.length)(v:aR):cZ.of A i v<=cZ.all A i:=by
 by_cases hv:bP v=0
 ·obtain⟨h1,h2⟩:=H9 h i hi;rw[←h1,←h2 v hv];exact List.countP_le_length
 ·rw[Jm h hi hv];omega
theorem EP{a:aR}:∀{vs:List aR},oP vs->(vs.map fun u=>if decide (cE a u=0)=true then 1 else 0).sum<=1
 | [],_=>by simp
 | u::vs,h=>by
  obtain⟨h1,h2⟩:=ZW.1 h;rw[ZP,aAa];by_cases e:cE a u=0
  ·rw[Yt (by simpa using e)];have:(vs.map fun u=>if decide (cE a u=0)=true then 1 else 0).sum=0:=by
    have hall:∀w∈vs,(if decide (cE a w=0)=true then 1 else 0)=0:=fun w hw=>by
     rw[Yo];simp only[ZA];intro e2;have:=h1 w hw;rw[←Df _ _ e,e2] at this;omega
    rw[List.map_congr_left (g:=fun _=>0) hall];clear h1 h2 hall h
    induction vs with
    | nil=>rfl
    | cons w vs ih=>rw[ZP,aAa,ih]
   omega
  ·rw[Yo (by simpa using e)];have:=EP (a:=a) h2;omega
theorem Ma{α:Type}(f g:α->Nat):∀l:List α,(l.map fun a=>f a+g a).sum=(l.map f).sum+(l.map g).sum
 | []=>rfl
 | a::l=>by simp only[ZP,aAa,Ma f g l];omega
theorem FB{vs:List aR}(hs:oP vs):∀l:List aR,(vs.map fun u=>pB u l).sum<=l.length
 | []=>by
  have:(vs.map fun u=>pB u []).sum=0:=by
   clear hs
   induction vs with
   | nil=>rfl
   | cons a vs ih=>rw[ZP,aAa,ih];rfl
  omega
 | a::l=>by
  have h1:=FB hs l;have h2:=EP (a:=a) hs;have e:(fun u=>pB u (a::l))=fun u=>pB u l+if decide (cE a u=0)=true then 1 else 0:=by
   funext u
   unfold pB;rw[List.countP_cons]
  rw[e,Ma,ZH];omega
theorem NK{A:List Nd}(h:VT A){i:Nat}(hi:i<A.length){vs:List aR}(hs:oP vs)(hv:∀v∈vs,bP v=0):(vs.map fun u=>cZ.of A i u).sum<=cZ.all A i:=by
 obtain⟨h1,h2⟩:=H9 h i hi;rw[←h1,List.map_congr_left (g:=fun u=>pB u (sH A i)) fun u hu=>(h2 u (hv u hu)).symm];exact FB hs _
theorem fF{α:Type}(f:α->Nat):∀(l:List α) (s:Nat),l.foldl (fun s a=>s+f a) s=s+(l.map f).sum
 | [],s=>by simp
 | a::l,s=>by rw[Y9,fF f l,ZP,aAa];omega
theorem Eh{α:Type}{f:α->Nat}{M:Nat}:∀{l:List α},(∀a∈l,f a<=M)->(l.map f).sum<=l.length*M
 | [],_=>by simp
 | a::l,h=>by
  have h1:=h a (Y7 ..);have h2:=Eh (l:=l) (M:=M) fun b hb=>h b (Yx _ hb)
  rw[ZP,aAa,ZH,Nat.add_mul,Zx];omega
theorem Es{f:aR->Nat}{g:Int->Nat}{M:Nat}:∀(vs:List aR) (ks:List Int),(∀k∈ks,g k<=M)->((vs.zip ks).map fun vk=>f vk.1*g vk.2).sum<=(vs.map f).sum*M
 | [],ks,h=>by simp
 | v::vs,[],h=>by simp
 | v::vs,k::ks,h=>by
  have h1:=aAj (f v) (h k (Y7 ..));have h2:=Es (f:=f) vs ks fun b hb=>h b (Yx _ hb)
  simp only[Z2,ZP,aAa,Nat.add_mul];omega
def mU(A:List Nd)(i:Nat):Nat:=(eS (b8 A) i).toNat
def mO(n:Nat):Nat:=2 ^ (40*n)
theorem q6(a b:Nat):mO a*mO b=mO (a+b):=by unfold mO;rw[←Nat.pow_add,Nat.mul_add]
theorem c8{a b:Nat}(h:a<=b):mO a<=mO b:=Zl (by omega) (by omega)
theorem mW(a:Nat):1<=mO a:=Nat.one_le_two_pow
theorem HG:mO 1=1099511627776:=by decide
def lU(A:List Nd)(ks:List Int):Nat:=(ks.map fun k=>mU A k.toNat).sum
theorem Fz{A:List Nd}(h:VT A):∀(ks:List Int) (s:Int),(∀k∈ks,0<=k)->ks.foldl (fun s k=>s+eS (b8 A) k) s=s+(lU A ks:Nat)
 | [],s,_=>by simp[lU]
 | k::ks,s,hk=>by
  have h0:=hk k (Y7 ..);have h1:=(h.lens0 k).1;rw[Y9,Fz h ks _ fun q hq=>hk q (Yx _ hq)];unfold lU mU;rw[ZP,aAa];have e:((k.toNat:Nat):Int)=k:=by omega
  rw[e];omega
theorem DP{A:List Nd}:∀(ks:List Int) (s:Int),s<=ks.foldl (fun s k=>max s (eS (b8 A) k)) s/\∀k∈ks,eS (b8 A) k<=ks.foldl (fun s k=>max s (eS (b8 A) k)) s
 | [],s=>⟨Int.le_refl _,by simp⟩
 | k::ks,s=>by
  obtain⟨h1,h2⟩:=DP (A:=A) ks (max s (eS (b8 A) k));rw[Y9];refine⟨by omega,fun q hq=>?_⟩;rcases Yr.1 hq with rfl|hq
  ·omega
  ·exact h2 q hq
theorem VT.lenS{A:List Nd}(h:VT A){i:Nat}{x:Nd}(hx:A[i]? = some x):mU A i<=256/\(x.kind=1->mU A i=1)/\(x.kind=3->mU A i=lU A x.kids)/\(x.kind=2->∀k∈x.kids,mU A k.toNat+1<=mU A i) /\
  (x.kind=4->∀k∈x.kids.drop 1,mU A (gB x)+mU A k.toNat<=mU A i):=by
 have hl:=h.len256 hx;have he:=h.len hx;have hk:=fun(k:Int) (hk:k∈x.kids)=>fI h hx hk
 have hl0:=fun k=>(h.lens0 k).1
 have hln:((mU A i:Nat):Int)=eS (b8 A) i:=by unfold mU;omega
 refine⟨by omega,fun h1=>?_,fun h3=>?_,fun h2 k hm=>?_,fun h4 k hm=>?_⟩
 ·unfold iJ at he;rw[Yo (by omega),Yt h1] at he;omega
 ·unfold iJ at he;rw[Yo (by omega),Yo (by omega),Yt h3] at he;have:=Fz h x.kids 0 fun k hm=>(hk k hm).1
  unfold iF at he;omega
 ·unfold iJ at he;rw[Yo (by omega),Yo (by omega),Yo (by omega),Yt h2] at he;have hk':((k.toNat:Nat):Int)=k:=by have:=hk k hm;omega
  have:=(DP (A:=A) (f6 x) 0).2 k (by unfold f6;rw[Yt h2];exact hm);unfold dE at he;have h0:=hl0 k
  show (eS (b8 A) (k.toNat:Nat)).toNat+1<=_
  rw[hk'];omega
 ·unfold iJ at he;rw[Yo (by omega),Yo (by omega),Yo (by omega),Yo (by omega)] at he;have hk':((k.toNat:Nat):Int)=k:=by have:=hk k (ZV hm);omega
  have:=(DP (A:=A) (f6 x) 0).2 k (by unfold f6;rw[Yo (by omega)];exact hm);unfold dE at he;have h0:=hl0 k;have h00:=hl0 (x.kids.getD 0 0);have hq:0<=x.kids.getD 0 0:=by
   cases hks:x.kids with
   | nil=>simp
   | cons a r=>exact(hk a (by rw[hks];simp)).1
  show (eS (b8 A) (gB x:Nat)).toNat+(eS (b8 A) (k.toNat:Nat)).toNat<=_
  rw[hk',show ((gB x:Nat):Int)=x.kids.getD 0 0 by unfold gB;omega];omega
theorem Hr{A:List Nd}{f:Int->Nat}:∀(ks:List Int) (s n:Nat),(∀k∈ks,f k<=mO (mU A k.toNat))->s<=mO n->ks.foldl (fun s k=>s*f k) s<=mO (n+lU A ks)
 | [],s,n,_,hs=>by simpa[lU] using hs
 | k::ks,s,n,h,hs=>by
  rw[Y9];have h1:=Zs hs (h k (Y7 ..));rw[q6] at h1;have:=Hr ks _ _ (fun q hq=>h q (Yx _ hq)) h1;simpa[lU,Nat.add_assoc] using this
theorem LA{x:Nd}(h:dT x=true):(x.hi-x.lo+1).toNat<=mO 1:=by
 have:=cY h;rw[HG];omega
theorem pI{A:List Nd}(h:VT A):∀i,i<A.length->cZ.all A i<=mO (mU A i):=by
 intro i
 induction i using Nat.strongRecOn with
 | ind i ih=>
  intro hi;have hx:=bS hi;have hk:=fun(k:Int) (hk:k∈(aJ A i).kids)=>fI h hx hk
  have ia:=fun(k:Int) (hm:k∈(aJ A i).kids)=>ih k.toNat (hk k hm).2 (by have:=hk k hm;omega)
  have hg:=h.node hx;obtain⟨l1,l2,l3,l4,l5⟩:=h.lenS hx;have hvv:=fun(u:aR) (hu:u∈(aJ A i).values)=>h.vals_valid hx hu
  rw[cZ.all_eq h hi]
  show kP _ _ _<=_
  unfold kP;split
  ·rename_i k1;rw[l2 k1];exact LA hg.node.num
  split
  ·rename_i k3;rw[l3 k3];have:=Hr (A:=A) (f:=fun k=>cZ.all A k.toNat) (aJ A i).kids 1 0 ia (mW 0);simpa using this
  split
  ·rename_i k2;rw[fF,ZD];have hl:=hg.node.klen (by omega);by_cases h0:(aJ A i).kids=[]
   ·rw[h0];simp
   ·have hb:∀k∈(aJ A i).kids,cZ.all A k.toNat<=mO (mU A i-1):=fun k hm=>Yw (ia k hm) (c8 (by have:=l4 k2 k hm;omega))
    obtain⟨k,hm⟩:=aBC _ h0;have h1:=l4 k2 k hm;refine Yw (Eh hb) ?_;have:=ZE (mO (mU A i-1)) (show (aJ A i).kids.length<=mO 1 by rw[HG];omega);rw[q6,show 1+(mU A i-1)=mU A i by omega] at this;exact this
  split
  ·rename_i k4;rw[fF,ZD];have hb:=hg.node.bind k4;by_cases h0:(aJ A i).kids.drop 1=[]
   ·rw[h0];simp
   ·obtain⟨q,hq⟩:=aBC _ h0;have hkm:(aJ A i).kids.getD 0 0∈(aJ A i).kids:=by
     cases hks:(aJ A i).kids with
     | nil=>rw[hks] at h0;simp at h0
     | cons a r=>simp
    have h1:=l5 k4 q hq;have hM:∀k∈(aJ A i).kids.drop 1,cZ.all A k.toNat<=mO (mU A i-mU A (gB (aJ A i))):=fun k hm=>Yw (ia k (ZV hm)) (c8 (by have:=l5 k4 k hm;omega))
    refine Yw (Es (f:=fun u=>cZ.of A (gB (aJ A i)) u) (g:=fun k=>cZ.all A k.toNat) _ _ hM) ?_;have hk0:=hk _ hkm;have h2:=NK h (i:=gB (aJ A i)) (by unfold gB;omega) hg.srt hvv;have h3:=ia _ hkm;refine Yw (ZE _ (Yw h2 h3)) ?_;rw[q6];exact c8 (by unfold gB at h1 ⊢;omega)
  ·exact mW _
end Go.Ax
namespace Go.Ax
open Go
theorem sY{α:Type}:∀(l:List α) (k n:Nat),(l.zipIdx n).take k=(l.take k).zipIdx n
 | [],k,n=>by simp
 | a::l,0,n=>by simp
 | a::l,k+1,n=>by rw[aAo,aAs,aAs,aAo,sY l k]
theorem BX{α β:Type}:∀(l:List α) (m:List β) (k:Nat),(l.zip m).take k=(l.take k).zip (m.take k)
 | [],m,k=>by simp
 | a::l,[],k=>by simp
 | a::l,b::m,0=>by simp
 | a::l,b::m,k+1=>by rw[Z2,aAs,aAs,aAs,Z2,BX l m k]
theorem Ca(f:Int->Nat)(l:List Int)(k:Nat):(l.take k).foldl (fun s q=>s+f q) 0<=l.foldl (fun s q=>s+f q) 0:=by
 rw[fF,fF]
 conv=>rhs;rw[←List.take_append_drop k l]
 rw[Zk,aAb];omega
section
variable {T:Type} (g:Cf T)
def QC(x:Nd)(al:Nat->Option T)(k:Nat):Option T:=(x.kids.take k).foldl (fun f k=>d9 g f (al k.toNat)) (some g.one)
def HS(x:Nd)(al:Nat->Option T)(k:Nat):Option T:=(x.kids.zipIdx.take k).foldl (Sy g x al) none
def Gw(x:Nd)(of:Nat->aR->Option T)(al:Nat->Option T)(k:Nat):Option T:=((x.values.zip (x.kids.drop 1)).take k).foldl (QJ g x of al) none
def Sw(x:Nd)(of:Nat->aR->Option T)(vs:List aR)(k:Nat):Option T:=((x.kids.zip vs).take k).foldl (VU g of) (some g.one)
theorem QO{x:Nd}{al:Nat->Option T}{k:Nat}(h:k<x.kids.length):QC g x al (k+1)=d9 g (QC g x al k) (al (x.kids[k]).toNat):=by
 unfold QC;rw[Ys h,Zb];rfl
theorem Ie{x:Nd}{al:Nat->Option T}{k:Nat}(h:k<x.kids.length):HS g x al (k+1)=iL g (HS g x al k) (d9 g (some (g.opt x k)) (al (x.kids[k]).toNat)):=by
 unfold HS;rw[Ys (by simpa using h),Zb];simp[Sy]
theorem IH{x:Nd}{k:Nat}(h:k<x.values.length)(hl:x.kids.length=x.values.length+1)(h1:k<(x.values.zip (x.kids.drop 1)).length):(x.values.zip (x.kids.drop 1))[k]=(x.values[k],x.kids[k+1]):=by
 rw[aBF];simp
theorem I6{x:Nd}{of:Nat->aR->Option T}{al:Nat->Option T}{k:Nat}(h:k<x.values.length)(hl:x.kids.length=x.values.length+1):Gw g x of al (k+1)=iL g (Gw g x of al k) (d9 g (of (gB x) x.values[k]) (al (x.kids[k+1]).toNat)):=by
 have h1:k<(x.values.zip (x.kids.drop 1)).length:=by simp;omega
 unfold Gw;rw[Ys h1,Zb,IH h hl h1];rfl
theorem PR{x:Nd}{of:Nat->aR->Option T}{vs:List aR}{k:Nat}(h:k<x.kids.length)(hl:vs.length=x.kids.length):Sw g x of vs (k+1)=d9 g (Sw g x of vs k) (of (x.kids[k]).toNat vs[k]):=by
 have h1:k<(x.kids.zip vs).length:=by simp;omega
 unfold Sw;rw[Ys h1,Zb,aBF];rfl
theorem M7{A:List Nd}(h:VT A){i:Nat}(hi:i<A.length):(cA g).all A i =
  if (aJ A i).kind=1 then some (g.spn (aJ A i)) else if (aJ A i).kind=3 then QC g (aJ A i) ((cA g).all A) (aJ A i).kids.length
  else if (aJ A i).kind=2 then HS g (aJ A i) ((cA g).all A) (aJ A i).kids.length else if (aJ A i).kind=4 then Gw g (aJ A i) ((cA g).of A) ((cA g).all A) (aJ A i).values.length else some g.one:=by
 rw[(cA g).all_eq h hi]
 show GH _ _ _ _=_
 have hx:=bS hi;have hb:=(h.node hx).node.bind;unfold GH;generalize aJ A i=x at *;split
 ·rfl
 split
 ·unfold QC;rw[ZB]
 split
 ·unfold HS;rw[Yu (by simp)]
 split
 ·rename_i h4;unfold Gw;rw[Yu (by have:=hb h4;simp;omega)]
 ·rfl
theorem P8{A:List Nd}(h:VT A){i:Nat}(hi:i<A.length){v:aR}(hv:bP v=0):(cA g).of A i v =
  if (aJ A i).kind=0 then(if cE (aJ A i).value v=0 then some g.one else none) else if (aJ A i).kind=1 then(if BF (aJ A i) v=true then some (g.opt (aJ A i) (KZ v-(aJ A i).lo).toNat) else none)
  else if (aJ A i).kind=3 then(if jH (aJ A i) v=true then Sw g (aJ A i) ((cA g).of A) (jZ v) (aJ A i).kids.length else none)
  else if (aJ A i).kind=2 then HS g (aJ A i) (fun k=>(cA g).of A k v) (aJ A i).kids.length else if (aJ A i).kind=4 then Gw g (aJ A i) ((cA g).of A) (fun k=>(cA g).of A k v) (aJ A i).values.length else none:=by
 rw[(cA g).of_eq h hi]
 show B9 _ _ _ _=_
 have hx:=bS hi;have hb:=(h.node hx).node.bind;unfold B9;rw[Yo (by omega)];generalize aJ A i=x at *;split
 ·rfl
 split
 ·rfl
 split
 ·split
  ·unfold Sw;rw[Yu (by simp;omega)]
  ·rfl
 split
 ·unfold HS;rw[Yu (by simp)]
 split
 ·rename_i h4;unfold Gw;rw[Yu (by have:=hb h4;simp;omega)]
 ·rfl
end
def vI(o:Option Nat):Prop:=∃n,n<=mO 256/\o=uT n
theorem vI.none:vI none:=⟨0,Zd _,rfl⟩
theorem vI.one:vI (some 1):=⟨1,mW _,rfl⟩
theorem MQ{x:Nd}(al:Nat->Option Nat)(f:Nat->Nat)(hal:∀q∈x.kids,al q.toNat=uT (f q.toNat))(k:Nat):HS aW x al k=uT ((x.kids.take k).foldl (fun s q=>s+f q.toNat) 0):=by
 unfold HS;rw[eD uT _ _ (g:=fun s q=>iL aW s (al q.toNat)) fun q hq b=>by rw[hal q (ZG hq),nV]];have e:x.kids.zipIdx.take k=(x.kids.take k).zipIdx:=sY _ _ _;rw[e];refine(cC (g:=fun b (kc:Int × Nat)=>iL aW b (al kc.1.toNat)) _ _ fun kc hm b=>?_).trans (mR (f:=fun b (k:Int)=>iL aW b (al k.toNat)) _ 0 _);unfold Sy;rw[hal _ (ZG (d8 hm)),show aW.opt _ kc.2=1 from rfl,uK]
section
variable {A:List Nd} (h:VT A) {i:Nat} (hi:i<A.length)
include h hi
theorem o7{k:Int}(hk:k∈(aJ A i).kids):k.toNat<A.length:=by
 have:=fI h (bS hi) hk;omega
theorem xN:(cA aW).all A i=uT (cZ.all A i):=(L4 h i hi).1
theorem Dj(v:aR):(cA aW).of A i v=uT (cZ.of A i v):=(L4 h i hi).2 v
theorem R7:vI ((cA aW).all A i):=⟨_,Yw (pI h i hi) (c8 (h.lenS (bS hi)).1),xN h hi⟩
theorem PL(v:aR):vI ((cA aW).of A i v):=⟨_,Yw (Je h hi v) (Yw (pI h i hi) (c8 (h.lenS (bS hi)).1)),Dj h hi v⟩
theorem Rv(h3:(aJ A i).kind=3)(k:Nat):vI (QC aW (aJ A i) ((cA aW).all A) k):=by
 have hk:=fun(q:Int) (hq:q∈(aJ A i).kids)=>o7 h hi hq
 obtain⟨l1,l2,l3,l4,l5⟩:=h.lenS (bS hi);refine⟨((aJ A i).kids.take k).foldl (fun f q=>f*cZ.all A q.toNat) 1, ?_, ?_⟩
 ·have:=Hr (A:=A) (f:=fun q=>cZ.all A q.toNat) ((aJ A i).kids.take k) 1 0 (fun q hq=>pI h _ (hk q (ZG hq))) (mW 0);refine Yw this (c8 ?_);have e:lU A ((aJ A i).kids.take k)<=lU A (aJ A i).kids:=by
   unfold lU
   conv=>rhs;rw[←List.take_append_drop k (aJ A i).kids]
   rw[Zk,aAb];omega
  have:=l3 h3;omega
 ·unfold QC;rw[eD uT _ _ (g:=fun f q=>d9 aW f ((cA aW).all A q.toNat)) fun q hq b=>by rw[xN h (hk q (ZG hq)),i0]];rfl
theorem Td(h2:(aJ A i).kind=2)(k:Nat):vI (HS aW (aJ A i) ((cA aW).all A) k):=by
 refine⟨_, ?_,MQ _ (fun q=>cZ.all A q) (fun q hq=>xN h (o7 h hi hq)) k⟩;refine Yw (Ca (fun q=>cZ.all A q.toNat) _ k) ?_;have:=pI h i hi;rw[cZ.all_eq h hi,show cZ.sa=kP from rfl,kP,Yo (by omega),Yo (by omega),Yt h2] at this;exact Yw this (c8 (h.lenS (bS hi)).1)
theorem SA(h2:(aJ A i).kind=2)(v:aR)(k:Nat):vI (HS aW (aJ A i) (fun q=>(cA aW).of A q v) k):=by
 refine⟨_, ?_,MQ _ (fun q=>cZ.of A q v) (fun q hq=>Dj h (o7 h hi hq) v) k⟩;refine Yw (Ca (fun q=>cZ.of A q.toNat v) _ k) ?_;have hv:(aJ A i).kids.foldl (fun s q=>s+cZ.of A q.toNat v) 0<=(aJ A i).kids.foldl (fun s q=>s+cZ.all A q.toNat) 0:=by
  rw[fF,fF,ZD,ZD];have:∀l:List Int,(∀q∈l,q∈(aJ A i).kids)->(l.map fun q=>cZ.of A q.toNat v).sum<=(l.map fun q=>cZ.all A q.toNat).sum:=by
   intro l
   induction l with
   | nil=>intro _;simp
   | cons q l ih=>
    intro hl;have h1:=Je h (o7 h hi (hl q (Y7 ..))) v;have h2:=ih fun r hr=>hl r (Yx _ hr)
    simp only[ZP,aAa];omega
  exact this _ fun q hq=>hq
 have:=pI h i hi;rw[cZ.all_eq h hi,show cZ.sa=kP from rfl,kP,Yo (by omega),Yo (by omega),Yt h2] at this;exact Yw hv (Yw this (c8 (h.lenS (bS hi)).1))
theorem SX(h3:(aJ A i).kind=3)(vs:List aR)(hl:vs.length=(aJ A i).kids.length)(k:Nat):vI (Sw aW (aJ A i) ((cA aW).of A) vs k):=by
 have hk:=fun(q:Int) (hq:q∈(aJ A i).kids)=>o7 h hi hq
 obtain⟨l1,l2,l3,l4,l5⟩:=h.lenS (bS hi);generalize aJ A i=x at *;refine⟨((x.kids.zip vs).take k).foldl (fun f kv=>f*cZ.of A kv.1.toNat kv.2) 1, ?_, ?_⟩
 ·have key:∀(ks:List Int) (vs:List aR) (s n:Nat),(∀q∈ks,q∈x.kids)->s<=mO n->(ks.zip vs).foldl (fun f kv=>f*cZ.of A kv.1.toNat kv.2) s<=mO (n+lU A ks):=by
   intro ks
   induction ks with
   | nil=>intro vs s n _ hs;simpa[lU] using hs
   | cons q ks ih=>
    intro vs s n hq hs;cases vs with
    | nil=>exact Yw (by simpa using hs) (c8 (by omega))
    | cons v vs=>
     rw[Z2,Y9];have hqi:=hk q (hq q (Y7 ..));have h1:=Zs hs (Yw (Je h hqi v) (pI h _ hqi));rw[q6] at h1;have:=ih vs _ _ (fun r hr=>hq r (Yx _ hr)) h1;simpa[lU,Nat.add_assoc] using this
  have e:(x.kids.zip vs).take k=(x.kids.take k).zip (vs.take k):=BX _ _ _;rw[e];refine Yw (key _ _ 1 0 (fun q hq=>ZG hq) (mW 0)) (c8 ?_);have e:lU A (x.kids.take k)<=lU A x.kids:=by
   unfold lU
   conv=>rhs;rw[←List.take_append_drop k x.kids]
   rw[Zk,aAb];omega
  have:=l3 h3;omega
 ·unfold Sw;rw[eD uT _ _ (g:=VU aW ((cA aW).of A)) fun kv hm b=>by
   unfold VU;rw[Dj h (hk _ (Zq (ZG hm)).1),i0]]
  rfl
theorem MF(al:Nat->Option Nat)(f:Nat->Nat)(hal:∀q∈(aJ A i).kids,al q.toNat=uT (f q.toNat))(k:Nat) :
  Gw aW (aJ A i) ((cA aW).of A) al k=uT ((((aJ A i).values.zip ((aJ A i).kids.drop 1)).take k).foldl (fun s vk=>s+cZ.of A (gB (aJ A i)) vk.1*f vk.2.toNat) 0):=by
 have hk:=fun(q:Int) (hq:q∈(aJ A i).kids)=>o7 h hi hq
 unfold Gw;generalize aJ A i=x at *;rw[eD uT _ _ (g:=QJ aW x ((cA aW).of A) al) fun vk hm b=>by
  obtain⟨m1,m2⟩:=cU (ZG hm);unfold QJ gB;rw[hal _ m1,Dj h (hk _ m2),i0,nV]]
 rfl
theorem Oz(f:Nat->Nat)(hf:∀q∈(aJ A i).kids,f q.toNat<=cZ.all A q.toNat)(h4:(aJ A i).kind=4)(k:Nat) :
  (((aJ A i).values.zip ((aJ A i).kids.drop 1)).take k).foldl (fun s vk=>s+cZ.of A (gB (aJ A i)) vk.1*f vk.2.toNat) 0<=mO 256:=by
 have hb:=pI h i hi;rw[cZ.all_eq h hi,show cZ.sa=kP from rfl,kP,Yo (by omega),Yo (by omega),Yo (by omega),Yt h4] at hb;refine Yw ?_ (Yw hb (c8 (h.lenS (bS hi)).1));rw[fF,fF,ZD,ZD];have e:∀l:List (aR × Int),(∀vk∈l,vk.2∈(aJ A i).kids)->(l.map fun vk=>cZ.of A (gB (aJ A i)) vk.1*f vk.2.toNat).sum<=(l.map fun vk=>cZ.of A (gB (aJ A i)) vk.1*cZ.all A vk.2.toNat).sum:=by
  intro l
  induction l with
  | nil=>intro _;simp
  | cons q l ih=>
   intro hl;have h1:=aAj (cZ.of A (gB (aJ A i)) q.1) (hf _ (hl q (Y7 ..)));have h2:=ih fun r hr=>hl r (Yx _ hr)
   simp only[ZP,aAa];omega
 refine Yw (e _ fun vk hm=>(cU (ZG hm)).1) ?_;generalize (aJ A i).values.zip ((aJ A i).kids.drop 1)=l
 conv=>rhs;rw[←List.take_append_drop k l]
 rw[Zk,aAb];omega
theorem TB(h4:(aJ A i).kind=4)(k:Nat):vI (Gw aW (aJ A i) ((cA aW).of A) ((cA aW).all A) k):=
 ⟨_,Oz h hi (fun q=>cZ.all A q) (fun q hq=>Yy _) h4 k,MF h hi _ (fun q=>cZ.all A q) (fun q hq=>xN h (o7 h hi hq)) k⟩
theorem SO(h4:(aJ A i).kind=4)(v:aR)(k:Nat):vI (Gw aW (aJ A i) ((cA aW).of A) (fun q=>(cA aW).of A q v) k):=
 ⟨_,Oz h hi (fun q=>cZ.of A q v) (fun q hq=>Je h (o7 h hi hq) v) h4 k,MF h hi _ (fun q=>cZ.of A q v) (fun q hq=>Dj h (o7 h hi hq) v) k⟩
end
theorem vI.of_plus{a b:Option Nat}(h:vI (iL aW a b))(hb:∃n,b=uT n)(ha:∃n,a=uT n):vI b:=by
 obtain⟨n,rfl⟩:=hb;obtain⟨m,rfl⟩:=ha;obtain⟨q,hq,e⟩:=h;rw[nV] at e;refine⟨n, ?_,rfl⟩;unfold uT at e;split at e
 ·omega
 ·split at e
  ·cases e
  ·injection e with e;omega
end Go.Ax
namespace Go.Ax
open Go
def nG(n:Nat):List UInt8:=if _h:n<128 then [UInt8.ofNat n] else UInt8.ofNat (128+n%128)::nG (n/128)
termination_by n
def Ok(n:Int):Nat:=if n<0 then 2*(-(n+1)).toNat+1 else 2*n.toNat
def Xz(u:Nat):Int:=if u%2=1 then -((u/2:Nat):Int)-1 else((u/2:Nat):Int)
theorem uD{n:Nat}(h:n<128):nG n=[UInt8.ofNat n]:=by rw[nG,dif_pos h]
theorem EX{n:Nat}(h:¬n<128):nG n=UInt8.ofNat (128+n%128)::nG (n/128):=by rw[nG,dif_neg h]
theorem HB{n:Int}(h:i64 n):Ok n<18446744073709551616:=by
 unfold Ok;unfold i64 at h;split<;>omega
theorem Te(n:Int):Xz (Ok n)=n:=by
 unfold Xz Ok;split<;>split<;>omega
theorem Ib:∀(k n:Nat),n<128 ^ (k+1)->(nG n).length<=k+1
 | 0,n,h=>by rw[uD (by simpa using h)];simp
 | k+1,n,h=>by
  by_cases hn:n<128
  ·rw[uD hn];simp
  ·rw[EX hn];have:=Ib k (n/128) (by rw[aAv (by omega)];rw[aAd] at h;exact h);simp;omega
theorem p8{n:Nat}(h:n<18446744073709551616):(nG n).length<=10:=by
 refine Ib 9 n ?_;have:(128:Nat) ^ (9+1)=1180591620717411303424:=by decide
 omega
def T5:List UInt8->Nat->Nat->Sum Int (Nat × List UInt8)
 | [],_,_=>.inl 3
 | b::r,i,n=>if (i=9/\1<b.toNat)∨(0<i/\b.toNat=0) then .inl 2 else if b.toNat<128 then .inr (n+b.toNat*2 ^ (7*i),r) else T5 r (i+1) (n+(b.toNat-128)*2 ^ (7*i))
theorem Pn:∀(u i n:Nat) (t:List UInt8),i<=9->u*2 ^ (7*i)<18446744073709551616->(i=0∨0<u)->T5 (nG u++t) i n = .inr (n+u*2 ^ (7*i),t):=by
 intro u
 induction u using Nat.strongRecOn with
 | _ u ih=>
  intro i n t hi hu h0;have h9:i=9->u<=1:=by
   intro e;subst e;have:(2:Nat) ^ (7*9)=9223372036854775808:=by decide
   rw[this] at hu;omega
  by_cases hs:u<128
  ·rw[uD hs];have e:(UInt8.ofNat u).toNat=u:=by simp;omega
   show T5 (UInt8.ofNat u::t) i n=_
   simp only[T5,e];rw[Yo (by
    rintro(⟨h1,h2⟩|⟨h1,h2⟩)
    ·have:=h9 h1;omega
    ·omega),Yt hs]
  ·rw[EX hs];have e:(UInt8.ofNat (128+u%128)).toNat=128+u%128:=by simp;omega
   show T5 (UInt8.ofNat (128+u%128)::(nG (u/128)++t)) i n=_
   simp only[T5,e];have hne:i≠9:=by intro h;have:=h9 h;omega
   have hp:(2:Nat) ^ (7*(i+1))=128*2 ^ (7*i):=by rw[show 7*(i+1)=7*i+7 by omega,Nat.pow_add];omega
   rw[Yo (by omega),Yo (by omega),ih (u/128) (by omega) (i+1) _ t (by omega) (by
    rw[hp,←Nat.mul_assoc];refine aAZ (ZE _ ?_) hu;omega) (.inr (by omega))]
   congr 2;rw[hp,←Nat.mul_assoc,show 128+u%128-128=u%128 by omega,Nat.add_assoc,←Nat.add_mul];congr 2;omega
theorem Ui{u:Nat}(t:List UInt8)(h:u<18446744073709551616):T5 (nG u++t) 0 0 = .inr (u,t):=by
 have:=Pn u 0 0 t (by omega) (by simpa using h) (.inl rfl);simpa using this
abbrev Rd:=List UInt8 × Int
def vO(x:Rd):Nat × Rd:=if x.2=0 then(match T5 x.1 0 0 with | .inl e=>(0,(x.1,e)) | .inr (u,t)=>(u,(t,0))) else(0,x)
def nI(x:Rd):Int × Rd:=(Xz (vO x).1,(vO x).2)
def PJ(x:Rd):Bool × Rd:=if x.2=0 then(match x.1 with
  | []=>(false,(x.1,3))
  | b::t=>if 1<b.toNat then(false,(x.1,2)) else(decide (b.toNat=1),(t,0))) else(false,x)
def KP(x:Rd):Nat × Rd:=if (vO x).2.2=0 then(if (vO x).2.1.length<(vO x).1 then(0,((vO x).2.1,3)) else((vO x).1,(vO x).2)) else(0,(vO x).2)
def MP(x:Rd):List UInt8 × Rd:=((KP x).2.1.take (KP x).1,((KP x).2.1.drop (KP x).1,(KP x).2.2))
def gT(n:Int):List UInt8:=nG (Ok n)
mutual
def gR:aR->List UInt8
 | .mk k n s kids=>gT k++(if k=0 then gT n else if k=1 then [if n=1 then 1 else 0] else(if k=3 then nG s.length++s else [])++(gT kids.length++gK kids))
def gK:List aR->List UInt8
 | []=>[]
 | v::r=>gR v++gK r
end
theorem A4:∀l m:List aR,gK (l++m)=gK l++gK m
 | [],m=>by simp[gK]
 | v::r,m=>by simp[gK,A4 r m]
theorem LJ{l:List aR}{k:Nat}(h:k<l.length):gK (l.take (k+1))=gK (l.take k)++gR l[k]:=by
 rw[Ys h,A4];simp[gK]
theorem qL{n:Int}(h:i64 n):(gT n).length<=10:=p8 (HB h)
theorem C4{n:Nat}(h:n<=4611686018427387904):i64 (n:Int):=⟨by omega,by omega⟩
mutual
theorem J3:∀v:aR,g9 v->bR v=true->(gR v).length<=50*bB v
 | .mk k n s kids,ho,hf=>by
  simp only[g9] at ho;simp only[bR,Yk] at hf;have hl:=Bm kids ho.2.2.2.2 hf.2;have h1:=qL ho.1;have h2:=qL ho.2.1;have h3:=qL (C4 (n:=kids.length) (by omega));simp only[bB,gR,Y1];have hf1:=hf.1;unfold cT at hf1;split
  ·omega
  ·split
   ·simp;omega
   ·rename_i k0 k1;rw[Yo k0,Yo k1] at hf1;simp only[Y1];have hs:(if k=3 then nG s.length++s else []).length<=26:=by
     split
     ·rename_i k3;subst k3;rw[Yo (by omega),Yt rfl] at hf1;have:s.length<=16:=by
       rcases Y5 16 s.length with h|h
       ·rw[mS h] at hf1;simp at hf1
       ·exact h
      have:=p8 (n:=s.length) (by omega);simp;omega
     ·simp
    omega
theorem Bm:∀l:List aR,rE l->cS l=true->(gK l).length<=50*bZ l
 | [],_,_=>by simp[gK]
 | v::r,ho,hf=>by
  simp only[rE] at ho;simp only[cS,Yk] at hf;have h1:=J3 v ho.1 hf.1;have h2:=Bm r ho.2 hf.2;simp only[gK,bZ,Y1];omega
end
theorem AH{n:Int}(h0:0<=n)(h1:n<18446744073709551616):IntKind.u64.wrap n=n:=by
 unfold IntKind.wrap;have e:(2 ^ IntKind.u64.bits:Int)=18446744073709551616:=by decide
 have s:IntKind.u64.signed=false:=rfl;simp only[e,s,aAL];exact Int.emod_eq_of_lt h0 h1
theorem d6(n:Int):IntKind.u64.wrap n=n%18446744073709551616:=by
 unfold IntKind.wrap;have e:(2 ^ IntKind.u64.bits:Int)=18446744073709551616:=by decide
 have s:IntKind.u64.signed=false:=rfl;simp only[e,s,aAL];rfl
theorem CB(n:Int):IntKind.u8.wrap n=n%256:=by
 unfold IntKind.wrap;have e:(2 ^ IntKind.u8.bits:Int)=256:=by decide
 have s:IntKind.u8.signed=false:=rfl;simp only[e,s,aAL];rfl
theorem CN:(2:Nat) ^ 64=18446744073709551616:=by decide
theorem Xb(a:Nat):(BitVec.ofInt 64 (a:Int)).toNat=a%18446744073709551616:=by
 rw[BitVec.ofInt_natCast,BitVec.toNat_ofNat]
theorem PB{a:Nat}(h:a<18446744073709551616):a ^^^ 18446744073709551615=18446744073709551615-a:=by
 have h1:(BitVec.ofNat 64 a ^^^ BitVec.allOnes 64).toNat=18446744073709551615-a:=by
  rw[BitVec.xor_allOnes,BitVec.toNat_not,BitVec.toNat_ofNat,CN,Zh h]
 rw[BitVec.toNat_xor,BitVec.toNat_ofNat,CN,Zh h] at h1;have h2:(BitVec.allOnes 64).toNat=18446744073709551615:=by decide
 rw[h2] at h1;exact h1
theorem Pz{a b:Nat}(ha:a<18446744073709551616)(hb:b<18446744073709551616):a ^^^ b<18446744073709551616:=by
 have:=Nat.xor_lt_two_pow (n:=64) (x:=a) (y:=b) (by rw[CN];exact ha) (by rw[CN];exact hb)
 rwa [CN] at this
theorem Sk{a b:Nat}(ha:a<18446744073709551616)(hb:b<18446744073709551616):a ||| b<18446744073709551616:=by
 have:=Nat.or_lt_two_pow (n:=64) (x:=a) (y:=b) (by rw[CN];exact ha) (by rw[CN];exact hb)
 rwa [CN] at this
theorem I2{a b:Nat}(ha:a<18446744073709551616)(hb:b<18446744073709551616):bits .xor .u64 (a:Int) (b:Int)=((a ^^^ b:Nat):Int):=by
 show IntKind.u64.wrap ((BitVec.ofInt 64 (a:Int) ^^^ BitVec.ofInt 64 (b:Int)).toNat:Int)=_
 rw[BitVec.toNat_xor,Xb,Xb,Zh ha,Zh hb,AH (by omega) (by have:=Pz ha hb;omega)]
theorem Se{a b:Nat}(ha:a<18446744073709551616)(hb:b<18446744073709551616):bits .or .u64 (a:Int) (b:Int)=((a ||| b:Nat):Int):=by
 show IntKind.u64.wrap ((BitVec.ofInt 64 (a:Int) ||| BitVec.ofInt 64 (b:Int)).toNat:Int)=_
 rw[BitVec.toNat_or,Xb,Xb,Zh ha,Zh hb,AH (by omega) (by have:=Sk ha hb;omega)]
theorem Px{n:Int}(h:i64 n):bits .xor .u64 (IntKind.u64.wrap (IntKind.u64.wrap n*2 ^ (min (1:Int).toNat IntKind.u64.bits))) (IntKind.u64.wrap (n.fdiv (2 ^ (min (63:Int).toNat IntKind.i64.bits))))=(Ok n:Int):=by
 have e1:min (1:Int).toNat IntKind.u64.bits=1:=by decide
 have e2:min (63:Int).toNat IntKind.i64.bits=63:=by decide
 have hz:=HB h;rw[e1,e2];unfold i64 at h;by_cases hn:n<0
 ·have a:n.fdiv (2 ^ 63) = -1:=by
   rw[aAN _ (by decide)];omega
  have b:IntKind.u64.wrap (-1)=((18446744073709551615:Nat):Int):=by rw[d6];decide
  have c:IntKind.u64.wrap (IntKind.u64.wrap n*2 ^ 1)=((18446744073709551616+2*n).toNat:Int):=by
   rw[d6,d6];omega
  rw[a,b,c,I2 (by omega) (by omega),PB (by omega)];have z:Ok n=2*(-(n+1)).toNat+1:=by unfold Ok;rw[Yt hn]
  rw[z];omega
 ·have a:n.fdiv (2 ^ 63)=0:=by
   rw[aAN _ (by decide)];omega
  have b:IntKind.u64.wrap 0=((0:Nat):Int):=by rw[d6];decide
  have c:IntKind.u64.wrap (IntKind.u64.wrap n*2 ^ 1)=((2*n.toNat:Nat):Int):=by
   rw[d6,d6];omega
  rw[a,b,c,I2 (by omega) (by omega),Nat.xor_zero];have z:Ok n=2*n.toNat:=by unfold Ok;rw[Yo hn]
  rw[z]
theorem NL(n:Nat):bits .or .u8 (IntKind.u8.wrap (n:Int)) 128=((UInt8.ofNat (128+n%128)).toNat:Int):=by
 have h:∀b:Fin 256,bits .or .u8 (b.val:Int) 128=((128+b.val%128:Nat):Int):=by decide +kernel
 have e:IntKind.u8.wrap (n:Int)=((n%256:Nat):Int):=by rw[CB];omega
 have:=h ⟨n%256,by omega⟩;simp only at this;rw[e,this];have e2:(UInt8.ofNat (128+n%128)).toNat=128+n%128:=by simp;omega
 rw[e2];omega
theorem Nb{n:Nat}(h:n<128):IntKind.u8.wrap (n:Int)=((UInt8.ofNat n).toNat:Int):=by
 rw[CB];have e2:(UInt8.ofNat n).toNat=n:=by simp;omega
 rw[e2];omega
theorem Xj(n:Nat):(n:Int).fdiv (2 ^ (min (7:Int).toNat IntKind.u64.bits))=((n/128:Nat):Int):=by
 have e1:min (7:Int).toNat IntKind.u64.bits=7:=by decide
 rw[e1,aAN _ (by decide)];omega
def dg(B n:Nat):List Nat:=if h:n=0∨B<2 then [] else n%B::dg B (n/B)
termination_by n
decreasing_by
 have:=not_or.1 h;exact aBb (by omega) (by omega)
def vl(B:Nat):List Nat->Nat
 | []=>0
 | d::r=>d+B*vl B r
def fJ:List Nat->List Nat
 | []=>[]
 | d::r=>if d=0/\fJ r=[] then [] else d::fJ r
theorem fV(B:Nat):dg B 0=[]:=by rw[dg];simp
theorem pE{B n:Nat}(hB:2<=B)(hn:0<n):dg B n=n%B::dg B (n/B):=by
 rw[dg,dif_neg (by omega)]
theorem gE{B:Nat}(hB:2<=B)(n:Nat):vl B (dg B n)=n:=by
 induction n using Nat.strongRecOn with
 | ind n ih=>
  rcases Y2 n with rfl|hn
  ·rw[fV];rfl
  ·rw[pE hB hn,vl,ih _ (aBb hn (by omega))];exact aBc n B
theorem fP{B:Nat}(hB:2<=B)(n:Nat):∀d∈dg B n,d<B:=by
 induction n using Nat.strongRecOn with
 | ind n ih=>
  rcases Y2 n with rfl|hn
  ·rw[fV];simp
  ·rw[pE hB hn];intro d hd;rcases Yr.1 hd with rfl|hd
   ·exact Z1 _ (by omega)
   ·exact ih _ (aBb hn (by omega)) d hd
theorem Hd{B n:Nat}(hB:2<=B):dg B n=[]↔n=0:=by
 constructor
 ·intro h;rcases Y2 n with e|hn
  ·exact e
  ·rw[pE hB hn] at h;cases h
 ·rintro rfl;exact fV B
theorem Ld{B d m:Nat}(hB:2<=B)(hd:d<B)(h:0<d+B*m):dg B (d+B*m)=d::dg B m:=by
 rw[pE hB h,Nat.add_mul_mod_self_left,Zh hd,Nat.add_mul_div_left _ _ (by omega),aAV hd,ZD]
theorem kT{B:Nat}(hB:2<=B):∀l:List Nat,(∀d∈l,d<B)->fJ l=dg B (vl B l)
 | [],_=>by rw[vl,fV];rfl
 | d::r,h=>by
  have ih:=kT hB r fun x hx=>h x (by simp[hx])
  have hd:=h d (by simp);rw[fJ,vl,ih];by_cases e:d=0/\dg B (vl B r)=[]
  ·rw[Yt e,e.1,(Hd hB).1 e.2];simp[fV]
  ·rw[Yo e,Ld hB hd];rcases Y2 d with h0|h0
   ·have hv:vl B r≠0:=fun hv=>e ⟨h0,by rw[hv,fV]⟩
    have:=aAX (show 0<B by omega) (Nat.pos_of_ne_zero hv);omega
   ·omega
theorem EB{B:Nat}(hB:2<=B):∀l:List Nat,(∀d∈l,d<B)->vl B l<B ^ l.length
 | [],_=>by simp[vl]
 | d::r,h=>by
  have ih:=EB hB r fun x hx=>h x (by simp[hx])
  have hd:=h d (by simp);rw[vl,ZH,aAd,Zm _ B];have:B*(vl B r+1)<=B*B ^ r.length:=aAj _ ih;rw[Nat.mul_add] at this;omega
theorem mK(B:Nat):∀l m:List Nat,vl B (l++m)=vl B l+B ^ l.length*vl B m
 | [],m=>by simp[vl]
 | d::r,m=>by
  rw[Zi,vl,mK B r m,vl,ZH,aAd,Nat.mul_add,Zm (B ^ r.length) B,Nat.mul_assoc];omega
theorem kG{B n:Nat}(hB:2<=B):n<B ^ (dg B n).length:=by
 have:=EB hB _ (fP hB n)
 rwa [gE hB] at this
theorem IB{B:Nat}(hB:2<=B)(n:Nat):0<n->B ^ ((dg B n).length-1)<=n:=by
 induction n using Nat.strongRecOn with
 | ind n ih=>
  intro hn;rw[pE hB hn,ZH,Nat.add_sub_cancel];rcases Y2 (n/B) with e|e
  ·rw[e,fV,Zj,Nat.pow_zero];exact hn
  ·have h1:=ih _ (aBb hn (by omega)) e;have h2:0<(dg B (n/B)).length:=by
    rcases Y2 (dg B (n/B)).length with h|h
    ·have:=(Hd hB).1 (Y6 h);omega
    ·exact h
   have h3:B ^ (dg B (n/B)).length=B*B ^ ((dg B (n/B)).length-1):=by
    rw[←Nat.pow_succ'];congr 1;omega
   rw[h3];exact Yw (aAj B h1) (Nat.mul_div_le n B)
theorem iI{B n k:Nat}(hB:2<=B)(h:n<B ^ k):(dg B n).length<=k:=by
 rcases Y2 n with rfl|hn
 ·rw[fV];simp
 ·have h1:=IB hB n hn;rcases Y5 k (dg B n).length with h2|h2
  ·have:B ^ k<=B ^ ((dg B n).length-1):=Zl (by omega) (by omega);omega
  ·exact h2
theorem Kl{B n k:Nat}(hB:2<=B):(dg B n).length<=k↔n<B ^ k:=by
 constructor
 ·intro h;exact aAI (kG hB) (Zl (by omega) h)
 ·exact iI hB
theorem dX{B n m:Nat}(hB:2<=B)(h:n<=m):(dg B n).length<=(dg B m).length:=
 iI hB (aAZ h (kG hB))
theorem AW(B:Nat)(l:List Nat)(d:Nat):vl B (l++[d])=vl B l+B ^ l.length*d:=by
 rw[mK];simp[vl]
theorem By{l:List Nat}{i d:Nat}(h:l[i]? = some d):l.take (i+1)=l.take i++[d]:=by
 rw[List.take_add_one,h];rfl
theorem jL{B:Nat}{l:List Nat}{i d:Nat}(h:l[i]? = some d):vl B (l.take (i+1))=vl B (l.take i)+B ^ i*d:=by
 have hl:=(Yn.1 h).1;rw[By h,AW,ZT,aAm (by omega)]
theorem FI{l:List Nat}{i:Nat}(h:l.length<=i):l.take (i+1)=l.take i:=by
 rw[Yu h,Yu (by omega)]
theorem vF{B:Nat}(hB:2<=B){s:List Nat}{va vb x y c i:Nat}(hs:s.length=i)(h:vl B s+B ^ i*c=va+vb) :
  vl B (s++[(c+(x+y))%B])+B ^ (i+1)*((c+(x+y))/B)=(va+B ^ i*x)+(vb+B ^ i*y):=by
 rw[AW,hs,aAd,Nat.mul_assoc];have h2:B ^ i*((c+(x+y))%B)+B ^ i*(B*((c+(x+y))/B))=B ^ i*(c+(x+y)):=by
  rw[←Nat.mul_add,aBc]
 rw[Nat.mul_add,Nat.mul_add] at h2;omega
theorem De{B:Nat}{s:List Nat}{va vb x y b i:Nat}(hs:s.length=i)(h:vl B s+vb=va+B ^ i*b)(hx:x<B)(hy:y<B)(hb:b<=1) :
  vl B (s++[if y+b>x then x+B-(y+b) else x-(y+b)])+(vb+B ^ i*y)=(va+B ^ i*x)+B ^ (i+1)*(if y+b>x then 1 else 0):=by
 rw[AW,hs,aAd];split
 ·have e:B ^ i*(x+B-(y+b))+B ^ i*(y+b)=B ^ i*x+B ^ i*B*1:=by rw[←Nat.mul_add,aBK,←Nat.mul_add];congr 1;omega
  rw[Nat.mul_add (B ^ i) y b] at e;omega
 ·have e:B ^ i*(x-(y+b))+B ^ i*(y+b)=B ^ i*x:=by rw[←Nat.mul_add];congr 1;omega
  rw[Nat.mul_add (B ^ i) y b] at e;omega
theorem Bu{B x y b:Nat}(hx:x<B)(hy:y<B)(hb:b<=1):(if y+b>x then x+B-(y+b) else x-(y+b))<B:=by
 split<;>omega
theorem HD(B:Nat):∀(l:List Nat) (k d e:Nat),l[k]? = some e->vl B (l.set k d)+B ^ k*e=vl B l+B ^ k*d
 | [],k,d,e,h=>by cases h
 | a::r,0,d,e,h=>by
  cases h;simp only[aBf,vl,Nat.pow_zero,Zx];omega
 | a::r,k+1,d,e,h=>by
  have ih:=HD B r k d e h;simp only[List.set_cons_succ,vl,aAd,Zm (B ^ k) B,Nat.mul_assoc];have h2:B*(vl B (r.set k d))+B*(B ^ k*e)=B*vl B r+B*(B ^ k*d):=by rw[←Nat.mul_add,ih,Nat.mul_add]
  omega
theorem HT{B:Nat}{l:List Nat}{k d:Nat}(hl:∀x∈l,x<B)(hd:d<B):∀x∈l.set k d,x<B:=fun x hx=>by
 rcases aAP hx with h|h
 ·exact hl x h
 ·rw[h];exact hd
theorem It{B:Nat}{P:List Nat}{V x y c p k w:Nat}(hp:P[k]? = some p)(h:vl B P+B ^ k*c=V+x*w) :
  vl B (P.set k ((c+(x*y+p))%B))+B ^ (k+1)*((c+(x*y+p))/B)=V+x*(w+B ^ k*y):=by
 have h1:=HD B P k ((c+(x*y+p))%B) p hp;have h2:B ^ k*((c+(x*y+p))%B)+B ^ k*(B*((c+(x*y+p))/B))=B ^ k*(c+(x*y+p)):=by
  rw[←Nat.mul_add,aBc]
 have h3:x*(B ^ k*y)=B ^ k*(x*y):=by rw[aBi]
 rw[aAd,Nat.mul_assoc,Nat.mul_add,h3];rw[Nat.mul_add,Nat.mul_add (B ^ k) (x*y) p] at h2;omega
theorem PA{B:Nat}(hB:0<B){Q r d x:Nat}(hd:0<d){V:Nat}(h:V=Q*d+r)(hr:r<d) :
  x+B*V=(((r*B+x)/d)+B*Q)*d+(r*B+x)%d/\(r*B+x)%d<d/\(x<B->(r*B+x)/d<B):=by
 refine⟨?_,Z1 _ hd,fun hx=>?_⟩
 ·have e:=aA9 (r*B+x) d;rw[h,Nat.add_mul,Nat.mul_add,Zm ((r*B+x)/d) d,Nat.mul_assoc,Zm B r];omega
 ·rw[aAv hd];have:(r+1)*B<=d*B:=ZE _ hr;rw[Nat.add_mul,Zx,Zm d B] at this;omega
theorem pP{B:Nat}{l:List Nat}{i d:Nat}(h:l[i]? = some d):vl B (l.drop i)=d+B*vl B (l.drop (i+1)):=by
 obtain⟨h1,h2⟩:=Yn.1 h;rw[List.drop_eq_getElem_cons h1,vl,h2]
theorem pS{B:Nat}{a b:List Nat}{i x y:Nat}(ha:∀d∈a,d<B)(hB:2<=B)(hab:a.drop (i+1)=b.drop (i+1))(hx:a[i]? = some x)(hy:b[i]? = some y)(h:x<y)(hl:a.length=b.length):vl B a<vl B b:=by
 have ea:a=a.take i++a.drop i:=(List.take_append_drop i a).symm;have eb:b=b.take i++b.drop i:=(List.take_append_drop i b).symm;have hia:=(Yn.1 hx).1;have la:(a.take i).length=i:=by rw[ZT];omega
 have lb:(b.take i).length=i:=by rw[ZT];omega
 have h1:=EB hB (a.take i) fun d hd=>ha d (ZG hd)
 rw[la] at h1;have va:vl B a=vl B (a.take i)+B ^ i*(x+B*vl B (a.drop (i+1))):=by
  conv=>lhs;rw[ea]
  rw[mK,la,pP hx]
 have vb:vl B b=vl B (b.take i)+B ^ i*(y+B*vl B (a.drop (i+1))):=by
  conv=>lhs;rw[eb]
  rw[mK,lb,pP hy,hab]
 have h2:B ^ i*(x+1+B*vl B (a.drop (i+1)))<=B ^ i*(y+B*vl B (a.drop (i+1))):=aAj _ (by omega);have h3:B ^ i*(x+1+B*vl B (a.drop (i+1)))=B ^ i*(x+B*vl B (a.drop (i+1)))+B ^ i:=by
  rw[show x+1+B*vl B (a.drop (i+1))=(x+B*vl B (a.drop (i+1)))+1 by omega,Nat.mul_add,aBK]
 omega
theorem pX{B n m:Nat}(hB:2<=B)(h:(dg B n).length<(dg B m).length):n<m:=by
 rcases Y5 n m with h1|h1
 ·exact h1
 ·have:=dX hB h1;omega
end Go.Ax
namespace Go.Ax
open Go
structure YZ(B L U v U3 v2 top lead next u:Nat):Prop where
 b2:2<=B
 l0:0<L
 u1:U3*L<=U
 u2:U<(U3+1)*L
 w1:v2*L<=v
 w2:v<(v2+1)*L
 u3:U3=top*B+u
 v3:v2=lead*B+next
 uB:u<B
 nB:next<B
 lB:lead<B
 half:B<=2*lead
 less:U<v*B
section
variable {B L U v U3 v2 top lead next u:Nat} (h:YZ B L U v U3 v2 top lead next u)
include h
structure Yb(B U v top lead d r:Nat):Prop where
 eq:d*lead+r=top
 up:U<(d+1)*v
 hi:d<=B+1
 rB:r<B
end
theorem JH{U v d:Nat}(up:U<(d+1)*v)(h:d*v<=U):U/v=d/\U%v=U-d*v:=by
 have hv:0<v:=by
  rcases Y2 v with rfl|hv
  ·simp at up
  ·exact hv
 have e:U=d*v+(U-d*v):=by omega
 have hr:U-d*v<v:=by rw[Nat.add_mul,Zx] at up;omega
 constructor
 ·generalize U-d*v=w at e hr;rw[e,Zm d v,Nat.mul_add_div hv,aAV hr];rfl
 ·generalize U-d*v=w at e hr ⊢;rw[e,Zm d v,Nat.mul_add_mod,Zh hr]
end Go.Ax
namespace Go.Ax
open Go
def lJ(a b:Int):Int:=if a<b then -1 else if b<a then 1 else 0
theorem QT(a b:Nat):Nat.gcd b (a%b)=Nat.gcd a b:=by rw[Nat.gcd_comm b,←Nat.gcd_rec,Nat.gcd_comm]
def yA:Nat->Nat->List UInt8
 | 0,_=>[]
 | k+1,r=>yA k (r/10)++[UInt8.ofNat (48+r%10)]
theorem vN:∀k r,(yA k r).length=k
 | 0,_=>rfl
 | k+1,r=>by rw[yA,Y1,vN k];rfl
theorem xC{n:Nat}(h:10<=n):Lib.decDigits n=Lib.decDigits (n/10)++[UInt8.ofNat (48+n%10)]:=by
 rw[Lib.decDigits,dif_neg (by omega)]
theorem AC:∀(k q r:Nat),0<q->r<10 ^ k->Lib.decDigits (r+10 ^ k*q)=Lib.decDigits q++yA k r
 | 0,q,r,hq,hr=>by
  have:r=0:=by simpa using hr
  subst this;simp[yA]
 | k+1,q,r,hq,hr=>by
  have hp:0<10 ^ k:=Nat.pow_pos (by omega);have e:10 ^ (k+1)*q=10*(10 ^ k*q):=by rw[aAd,Zm (10 ^ k) 10,Nat.mul_assoc]
  have h1:1<=10 ^ k*q:=aAX hp hq;rw[xC (by omega),e,yA,←List.append_assoc,show (r+10*(10 ^ k*q))/10=r/10+10 ^ k*q by omega,show (r+10*(10 ^ k*q))%10=r%10 by omega];rw[AC k q (r/10) hq (by rw[aAd] at hr;omega)]
theorem rS:∀(k r:Nat),r<10 ^ k->0<k->(Lib.decDigits r).length<=k
 | 0,r,_,h=>by omega
 | k+1,r,hr,_=>by
  by_cases h:r<10
  ·rw[Lib.decDigits_one h];simp
  ·rw[xC (by omega),Y1];have hk:0<k:=by
    rcases Y2 k with rfl|hk
    ·simp at hr;omega
    ·exact hk
   have:=rS k (r/10) (by rw[aAd] at hr;omega) hk;simp;omega
theorem GL:∀k,yA k 0=List.replicate k 48
 | 0=>rfl
 | k+1=>by rw[yA,show 0/10=0 by rfl,GL k,aBp];rfl
theorem HQ:∀(k r:Nat),r<10 ^ k->0<k->yA k r=List.replicate (k-(Lib.decDigits r).length) 48++Lib.decDigits r
 | 0,r,_,h=>by omega
 | k+1,r,hr,_=>by
  rw[yA];by_cases h:r<10
  ·rw[Lib.decDigits_one h,aAV h,GL,Zh h];simp
  ·have hk:0<k:=by
    rcases Y2 k with rfl|hk
    ·simp at hr;omega
    ·exact hk
   have hr2:r/10<10 ^ k:=by rw[aAd] at hr;omega
   have hl:=rS k (r/10) hr2 hk;rw[xC (by omega),HQ k (r/10) hr2 hk,Y1,List.append_assoc];congr 2;simp
def AK(k:Nat):List Nat->List UInt8
 | []=>[]
 | d::r=>if r=[] then Lib.decDigits d else AK k r++yA k d
theorem SW{k:Nat}(hk:0<k)(n:Nat)(hn:0<n):AK k (dg (10 ^ k) n)=Lib.decDigits n:=by
 have hB:2<=10 ^ k:=by
  obtain⟨j,rfl⟩:∃j,k=j+1:=⟨k-1,by omega⟩
  have:0<10 ^ j:=Nat.pow_pos (by omega);rw[aAd];omega
 induction n using Nat.strongRecOn with
 | ind n ih=>
  rw[pE hB hn,AK];rcases Y2 (n/10 ^ k) with e|e
  ·have hlt:n<10 ^ k:=by
    rcases Y5 n (10 ^ k) with h|h
    ·exact h
    ·have:=Nat.div_pos h (by omega);omega
   rw[e,fV,Yt rfl,Zh hlt]
  ·rw[Yo (fun h=>by have:=(Hd hB).1 h;omega),ih _ (aBb hn (by omega)) e,←AC k _ _ e (Z1 _ (by omega)),aBc]
def KN(z:Int):List UInt8:=Lib.itoa z
end Go.Ax
namespace Go.Ax
open Go
theorem Yg:2<=4294967296:=by decide
abbrev nW(n:Nat):Nat:=(dg 4294967296 n).length
theorem He{B:Nat}(hB:2<=B)(x y:Nat):(dg B (x+y)).length<=max (dg B x).length (dg B y).length+1:=by
 refine iI hB ?_;have h1:=kG (n:=x) hB;have h2:=kG (n:=y) hB;generalize (dg B x).length=a at *;generalize (dg B y).length=b at *;have h3:B ^ a<=B ^ max a b:=Zl (by omega) (by omega);have h4:B ^ b<=B ^ max a b:=Zl (by omega) (by omega);have h5:B ^ max a b*2<=B ^ max a b*B:=aAj _ hB;rw[aAd];omega
theorem C3{B:Nat}(hB:2<=B)(x y:Nat):(dg B (x*y)).length<=(dg B x).length+(dg B y).length:=by
 refine iI hB ?_;have h1:=kG (n:=x) hB;have h2:=kG (n:=y) hB;rw[Nat.pow_add];exact Nat.mul_lt_mul'' h1 h2
theorem Az{B:Nat}(hB:2<=B)(x y:Nat):(dg B (x-y)).length<=(dg B x).length:=dX hB (Nat.sub_le _ _)
theorem Lk{B:Nat}(hB:2<=B)(x y:Nat):(dg B (x/y)).length<=(dg B x).length:=dX hB (aA0 _ _)
theorem MY{B:Nat}(hB:2<=B)(x y:Nat):(dg B (x%y)).length<=(dg B x).length:=dX hB (Nat.mod_le _ _)
theorem SS{B:Nat}(hB:2<=B)(x y:Nat):(dg B (Nat.gcd x y)).length<=max (dg B x).length (dg B y).length:=by
 rcases Y2 x with rfl|h
 ·rw[Nat.gcd_zero_left];omega
 ·have:=dX hB (Nat.gcd_le_left y h);omega
theorem F2{B n:Nat}(hB:2<=B)(h:n<B):(dg B n).length<=1:=iI hB (by rw[Nat.pow_one];exact h)
def bX(l:List Nat):List AV:=l.map fun(d:Nat)=>.int .u32 (d:Int)
def bJ(l:List Nat):List AV:=l.map fun(d:Nat)=>.int .i64 (d:Int)
theorem aX(l:List Nat):(bX l).length=l.length:=by simp[bX]
theorem aS(l:List Nat):(bJ l).length=l.length:=by simp[bJ]
theorem a8(l:List Nat):kI (bX l):=fun a ha=>by
 obtain⟨n,_,rfl⟩:=ZF.1 ha;exact .int _ _
theorem eM(l:List Nat):kI (bJ l):=fun a ha=>by
 obtain⟨n,_,rfl⟩:=ZF.1 ha;exact .int _ _
theorem Om(l:List Nat)(i:Nat):(bX l)[i]? = (l[i]?).map fun(d:Nat)=>AV.int .u32 (d:Int):=by rw[bX,ZO]
theorem PT(l:List Nat)(i:Nat):(bJ l)[i]? = (l[i]?).map fun(d:Nat)=>AV.int .i64 (d:Int):=by rw[bJ,ZO]
theorem rZ(l:List Nat)(i d:Nat):(bX l).set i (.int .u32 (d:Int))=bX (l.set i d):=by unfold bX;rw[aA6]
theorem DU(l:List Nat)(i d:Nat):(bJ l).set i (.int .i64 (d:Int))=bJ (l.set i d):=by unfold bJ;rw[aA6]
theorem QN(l m:List Nat):bJ (l++m)=bJ l++bJ m:=by simp[bJ]
theorem E7(n:Nat):bX (List.replicate n 0)=List.replicate n (.int .u32 0):=by simp[bX]
theorem Dd(n:Nat):bJ (List.replicate n 0)=List.replicate n (.int .i64 0):=by simp[bJ]
def kC(z:Int):AV:=.agg [.bool (decide (z<0)),.il 1 (bX (dg 4294967296 z.natAbs))]
def dW(z:Int):AV:=.agg [.bool (decide (z<0)),.il 1 (bJ (dg 10000 z.natAbs))]
theorem Cq(z:Int):NN (kC z):=.agg' (.cons (.bool _) (.cons (.il' (a8 _)) .nil))
theorem Hq(z:Int):NN (dW z):=.agg' (.cons (.bool _) (.cons (.il' (eM _)) .nil))
theorem ID(n:Int):IntKind.u32.wrap n=n%4294967296:=by
 unfold IntKind.wrap;simp[IntKind.bits,IntKind.signed]
def gQ(s:List Nat)(n:Nat):List Nat:=s++List.replicate (n-s.length) 0
theorem mD{s:List Nat}{n:Nat}(h:s.length<=n):(gQ s n).length=n:=by simp[gQ];omega
theorem P0{s:List Nat}{n:Nat}(h:s.length<n):(gQ s n)[s.length]? = some 0:=by
 unfold gQ;rw[ZR (Yy _),aBx,aAe,Yt (by omega)]
theorem QP{s:List Nat}{n d:Nat}(h:s.length<n):(gQ s n).set s.length d=gQ (s++[d]) n:=by
 unfold gQ;obtain⟨m,hm⟩:∃m,n-s.length=m+1:=⟨n-s.length-1,by omega⟩
 rw[aA1 _ _ (Yy _),aBx,hm,Zt,aBf,Y1,Zf,show n-(s.length+1)=m by omega];simp
theorem Ag(B n:Nat):vl B (List.replicate n 0)=0:=by
 induction n with
 | zero=>rfl
 | succ n ih=>rw[Zt,vl,ih];simp
theorem LX(B:Nat)(s:List Nat)(n:Nat):vl B (gQ s n)=vl B s:=by unfold gQ;rw[mK,Ag];simp
def Iy:Nat:=2 ^ 16384
theorem U0{n m k:Nat}(h:Iy=2 ^ n)(e:n=m*k):Iy=(2 ^ m) ^ k:=by rw[h,e,Nat.pow_mul]
theorem Mg:Iy=2 ^ 16384:=by delta Iy;exact Eq.refl _
theorem Nm{k:Nat}(hk:16384=32*k):Iy=(2 ^ 32) ^ k:=U0 Mg hk
def oV(z:Int):Bool:=decide (z.natAbs<Iy)
theorem Un{z:Int}{n:Nat}(h:Iy=(2 ^ 32) ^ n):oV z=decide (nW z.natAbs<=n):=by
 unfold oV;rw[Ze,h,show (2:Nat) ^ 32=4294967296 from rfl];exact(Kl Yg).symm
theorem Re{z:Int}{k:Nat}(hk:16384=32*k):oV z=decide (nW z.natAbs<=k):=Un (Nm hk)
theorem EG{z:Int}:oV z=decide (nW z.natAbs<=512):=Re rfl
theorem S6{z:Int}(h:oV z=true):nW z.natAbs<=512:=by rw[EG] at h;simpa using h
structure Fr where
 p:Int
 q:Nat
def Fr.den(a:Fr):Nat:=if a.q=0 then 1 else a.q
def mkF(p q:Int):Fr:=⟨(if q<0 then -p else p)/(Nat.gcd p.natAbs q.natAbs:Int),q.natAbs/Nat.gcd p.natAbs q.natAbs⟩
structure Yi(a:Fr):Prop where
 pos:0<a.q
 cop:Nat.Coprime a.p.natAbs a.q
def zF:Fr:=⟨0,1⟩
def Xy(a:Fr):Fr × Int:=if oV a.p=true/\oV a.q=true then(a,0) else(zF,4)
def Xk(a b:Fr):Fr × Int:=Xy (mkF (a.p*b.p) (a.q*b.q))
def X9(a b:Fr):Fr × Int:=
 let g:=Nat.gcd a.q b.q
 let s:=b.q/g
 let q:=a.q/g
 if oV (a.p*s)=true/\oV (b.p*q)=true/\oV (q*b.q)=true/\oV (a.p*s+b.p*q)=true then(mkF (a.p*s+b.p*q) (q*b.q),0) else(zF,4)
theorem Cl(p:Int)(g:Nat)(h:(g:Nat) ∣ p.natAbs):(p/(g:Int)).natAbs=p.natAbs/g:=by
 obtain⟨k,hk⟩:=h;rcases Y2 g with rfl|hg
 ·simp at hk;subst hk;simp
 ·rcases Int.natAbs_eq p with e|e
  ·rw[e,hk,Zc,←Int.natCast_ediv,Zc]
  ·have:p=(g:Int)*(-(k:Int)):=by rw[e,hk,Int.natCast_mul,aBq]
   rw[hk,Nat.mul_div_cancel_left _ hg,this,Int.mul_ediv_cancel_left _ (by omega)];simp
theorem Lv(B:Nat)(l:List Nat)(i:Nat)(hi:i<=l.length):vl B l=vl B (l.take i)+B ^ i*vl B (l.drop i):=by
 conv=>lhs;rw[←List.take_append_drop i l]
 rw[mK,ZT,aAm hi]
theorem KQ{L r b U V:Nat}(hL:0<L)(h1:U*L<=r)(h2:r<(U+1)*L)(h3:V*L<=b)(h4:b<(V+1)*L)(hV:0<V):U/(V+1)<=r/b/\r/b<=U/V:=by
 have hb:0<b:=by
  have:1*L<=V*L:=ZE _ hV;omega
 constructor
 ·rw[aAO hb];have e:=aBt U (V+1);have h5:U/(V+1)*b<=U/(V+1)*((V+1)*L):=aAj _ (by omega);have h6:U/(V+1)*(V+1)*L<=U*L:=ZE _ e;rw[Nat.mul_assoc] at h6;omega
 ·rw[aAO hV];have e:=aBt r b;have h5:r/b*(V*L)<=r/b*b:=aAj _ h3;have h6:r/b*V*L<(U+1)*L:=by rw[Nat.mul_assoc];omega
  have:=Nat.lt_of_mul_lt_mul_right h6;omega
theorem NJ{B b x V Q r:Nat}(hb:0<b)(h:V=Q*b+r)(hr:r<b)(hx:x<B) :
  x+B*V=((x+B*r)/b+B*Q)*b+(x+B*r)%b/\(x+B*r)%b<b/\x+B*r<b*B:=by
 have e:=aA9 (x+B*r) b;refine⟨?_,Z1 _ hb, ?_⟩
 ·rw[h,Nat.add_mul,Nat.mul_add,Zm ((x+B*r)/b) b,Nat.mul_assoc];omega
 ·have:(r+1)*B<=b*B:=ZE _ hr;rw[Nat.add_mul,Zx,Zm r B] at this;omega
theorem Ub{x y k:Nat}(h1:2 ^ k ∣ x)(h2:y<2 ^ k):x ||| y=x+y:=by
 obtain⟨a,rfl⟩:=h1;rw[Zm,←Nat.shiftLeft_eq,←Nat.shiftLeft_add_eq_or_of_lt h2]
end Go.Ax
namespace Go.Ax
section
variable {hit miss up lo low claim:Rat}
end
end Go.Ax
namespace Go.Ax
open Go
def TC(a:Fr):Rat:=(a.p:Rat)/((a.q:Int):Rat)
structure Sz(n:Nat)(a:Fr):Prop where
 num:a.p.natAbs<=2 ^ n
 pos:0<a.q
 den:a.q<=2 ^ n
theorem VK{z:Int}{n m:Nat}(hm:Iy=2 ^ m)(h:z.natAbs<=2 ^ n)(hn:n<m):oV z=true:=by
 unfold oV;rw[hm];exact Y0 (aAZ h (Nat.pow_lt_pow_right (by omega) hn))
theorem TZ{z:Int}{n:Nat}(h:z.natAbs<=2 ^ n)(hn:n<16384):oV z=true:=VK Mg h hn
theorem Rp(p q:Int):(mkF p q).p.natAbs<=p.natAbs:=by
 unfold mkF;simp only;have e:(if q<0 then -p else p).natAbs=p.natAbs:=by split<;>simp
 rw[Cl _ _ (by rw[e];exact Nat.gcd_dvd_left _ _),e];exact aA0 _ _
theorem Rl(p q:Int):(mkF p q).q<=q.natAbs:=by
 unfold mkF;exact aA0 _ _
theorem Sz.mono{n m:Nat}{a:Fr}(h:Sz n a)(hm:n<=m):Sz m a:=
 ⟨Yw h.num (Zl (by omega) hm),h.pos,Yw h.den (Zl (by omega) hm)⟩
def Xf:Fr:=⟨1,1⟩
structure Xu where
 hit:Fr
 miss:Fr
 upper:Fr
 lower:Fr
 ratio:Fr
 verdict:Nat
 runs:Nat
 hits:Nat
structure WL(n:Nat)(t:Xu):Prop where
 hit:Sz 12 t.hit
 miss:Sz 12 t.miss
 up:0<t.upper.q
 lo:0<t.lower.q
 ratio:Sz n t.ratio
structure YV(claim low alpha beta:Rat)(T:Xu):Prop where
 sz:WL 0 T
 ver:T.verdict=0
 rat:T.ratio=Xf
 low0:0<low
 lowc:low<claim
 clm:claim<=1
 alp:0<alpha
 bet:0<beta
 sum:alpha+beta<1
 hit:TC T.hit*low=claim
 miss:TC T.miss*(1-low)=1-claim
 up:TC T.upper*alpha=1-beta
 lo:TC T.lower*(1-alpha)=beta
theorem V0(n:Nat):IntKind.u32.wrap (n:Int)=((n%4294967296:Nat):Int):=by
 rw[ID,Int.natCast_emod];rfl
theorem OS{n:Nat}(h:n<4294967296):IntKind.u32.wrap (n:Int)=(n:Int):=by rw[V0,Zh h]
theorem uX{n:Nat}(h:n<18446744073709551616):IntKind.u64.wrap (n:Int)=(n:Int):=AH (by omega) (by omega)
theorem Tn:(2:Nat) ^ 32=4294967296:=by decide
theorem Ud{a b:Nat}(ha:a<4294967296)(hb:b<4294967296):bits .or .u64 (IntKind.u64.wrap ((a:Int)*2 ^ 32)) (b:Int)=((a*4294967296+b:Nat):Int):=by
 rw[show (a:Int)*2 ^ 32=((a*4294967296:Nat):Int) by rw[Int.natCast_mul];rfl,uX (by omega),Se (by omega) (by omega)];congr 1;exact Ub (k:=32) ⟨a,by rw[Tn,Zm]⟩ (by rw[Tn];exact hb)
theorem O5(a b:Nat):((a:Int).fdiv (b:Int))=((a/b:Nat):Int):=by
 rw[aAN _ (by omega)];rfl
theorem o0(a b:Nat):((a:Int).tdiv (b:Int))=((a/b:Nat):Int):=by
 rw[aAh (by omega)];rfl
theorem u5(a b:Nat):((a:Int).tmod (b:Int))=((a%b:Nat):Int):=by
 rw[Int.tmod_eq_emod_of_nonneg (by omega)];rfl
theorem Q0{a:Nat}:((a:Int).fdiv (2 ^ 32))=((a/4294967296:Nat):Int):=O5 a 4294967296
end Go.Ax
namespace Go.Ax
open Go
structure JB where
 val:aR
 ok:Bool
 rd:Rd
 parts:Nat
structure Tm where
 vals:List aR
 ok:Bool
 rd:Rd
 parts:Nat
def CJ(rec:Rd->Nat->JB):Nat->List aR->Rd->Nat->Tm
 | 0,acc,x,p=>⟨acc,true,x,p⟩
 | m+1,acc,x,p=>if (rec x p).ok=true then CJ rec m (acc++[(rec x p).val]) (rec x p).rd (rec x p).parts else⟨acc,false,(rec x p).rd,(rec x p).parts⟩
def MJ(rec:Rd->Nat->JB)(k:Int)(s:List UInt8)(x:Rd)(p:Nat):JB:=
 if (nI x).1<0∨256<(nI x).1 then⟨.mk k 0 s [],false,(nI x).2,p⟩
 else⟨.mk k 0 s (CJ rec (nI x).1.toNat [] (nI x).2 p).vals,(CJ rec (nI x).1.toNat [] (nI x).2 p).ok,(CJ rec (nI x).1.toNat [] (nI x).2 p).rd,(CJ rec (nI x).1.toNat [] (nI x).2 p).parts⟩
def O0(rec:Rd->Nat->JB)(x:Rd)(p:Nat):JB:=
 if 1024<p+1 then⟨.mk 0 0 [] [],false,x,p+1⟩
 else if (nI x).1=0 then⟨.mk 0 (nI (nI x).2).1 [] [],true,(nI (nI x).2).2,p+1⟩
 else if (nI x).1=1 then⟨.mk 1 (if (PJ (nI x).2).1=true then 1 else 0) [] [],true,(PJ (nI x).2).2,p+1⟩
 else if (nI x).1=2 then MJ rec 2 [] (nI x).2 (p+1)
 else if (nI x).1=3 then MJ rec 3 (MP (nI x).2).1 (MP (nI x).2).2 (p+1)
 else⟨.mk (nI x).1 0 [] [],false,(nI x).2,p+1⟩
def FH:Nat->Rd->Nat->JB
 | 0=>fun x p=>⟨.mk 0 0 [] [],false,x,p⟩
 | f+1=>O0 (FH f)
structure YS(x:Rd)(p:Nat)(r:JB):Prop where
 le:r.rd.1.length<=x.1.length
 ok:x.1.length<=1000000000->g9 r.val
 size:r.ok=true->p+bB r.val=r.parts
 parts:p<=1024->r.parts<=1025
 good:r.ok=true->p<=1024->r.parts<=1024
structure YT(x:Rd)(p:Nat)(acc:List aR)(m:Nat)(r:Tm):Prop where
 le:r.rd.1.length<=x.1.length
 ok:x.1.length<=1000000000->rE acc->rE r.vals
 len:r.vals.length<=acc.length+m
 size:r.ok=true->p+bZ r.vals=r.parts+bZ acc
 parts:p<=1024->r.parts<=1025
 good:r.ok=true->p<=1024->r.parts<=1024
end Go.Ax
