/- A part of the proof. -/
import Derived.Test.YtpajadlnaokngaaGreatDoorAx8
import Derived.Below
import Derived.Lib.ConvBytes
import Derived.Lib.ItoaMem
import Derived.ChangeMaps5
import Derived.Lib.LaidTab
import Derived.Lib.ItoaNum
set_option linter.unusedVariables false
set_option linter.unusedSimpArgs false
set_option linter.unusedSectionVars false
namespace Go.Ax
open Go
theorem nn {v:AV} (h:NN v:=by
  repeat' first
   | assumption
   | exact NN.int _ _
   | exact NN.bool _
   | exact NN.str _
   | exact NN.nsl
   | exact NN.nptr
   | exact NN.nif
   | exact NN.nfn
   | exact NN.nmap
   | exact NN.junk
   | exact eD _
   | exact aY _
   | exact aS _
   | exact jK.nil
   | refine jK.cons ?_ ?_
   | refine NN.agg' ?_
   | refine NN.tup' ?_
   | refine NN.il' ?_
   | refine NN.ip' ?_
   | refine NN.ifc _ _ ?_
   | exact NN.fn _ _ _ (by simp) (by simp)):NN v:=h
theorem cG {l:List AV} (h:jK l:=by
  repeat' first
   | assumption
   | exact NN.int _ _
   | exact NN.bool _
   | exact NN.str _
   | exact NN.nsl
   | exact NN.nptr
   | exact NN.nif
   | exact NN.nfn
   | exact NN.nmap
   | exact NN.junk
   | exact eD _
   | exact aY _
   | exact aS _
   | exact jK.nil
   | refine jK.cons ?_ ?_
   | refine NN.agg' ?_
   | refine NN.tup' ?_
   | refine NN.il' ?_
   | refine NN.ip' ?_
   | refine NN.ifc _ _ ?_
   | exact NN.fn _ _ _ (by simp) (by simp)):jK l:=h
section
variable {P:Program} {Γ:List (Nat × AV)} {F:FuncId} {args:List AV} {r:AV} {mem:aK} {nx:Nat} {K:AV->aK->Nat->Prop}
theorem aZ.go(h:aZ P [] F args r)(hk:K r mem nx)(ha:jK args:=by exact cG)(hr:NN r:=by exact nn):aF P [] F args mem nx K:=h.use bI ha hr hk
end
theorem aF.glob{P:Program}{Γ:List (Nat × AV)}{F:FuncId}{args:List AV}{mem:aK}{nx:Nat}{Q:AV->aK->Nat->Prop}(h:aF P [] F args mem nx Q):aF P Γ F args mem nx Q:=by
 refine⟨fun X D ρ w vs hD hm hv=>?_⟩;refine(h.run X D ρ w vs hD ⟨hm.low,hm.blk,hm.emp,hm.inj,hm.nod,hm.bar,(fun p hp=>by cases hp)⟩ hv).mono ?_;rintro e w' ⟨r,v,m,n,ρ',h1,h2,h3,h4,h5,h6⟩;exact⟨r,v,m,n,ρ',h1,h2,h3,⟨h4.low,h4.blk,h4.emp,h4.inj,h4.nod,h4.bar,fun p hp=>h6.vr (hm.glo p hp)⟩,h5,h6⟩
def EK:List (Nat × Nat)->Bool
 | []=>true
 | (i,j)::r=>Nat.beq i j && EK r
theorem uG:∀{σ:List (Nat × Nat)},EK σ=true->∀p∈σ,p.1=p.2
 | [],h,p,hp=>by cases hp
 | (i,j)::r,h,p,hp=>by
  simp only[EK,Mg] at h;rcases Mj.1 hp with rfl|hp
  ·exact Nat.eq_of_beq_eq_true h.1
  ·exact uG h.2 p hp
theorem aF.pre{P:Program}{Γ:List (Nat × AV)}{F:FuncId}{args args':List AV}{mem mem':aK}{nx:Nat}{K:AV->aK->Nat->Prop}(hΓ:∀p∈Γ,NN p.2)(σ:List (Nat × Nat))(hid:(EK σ && pU mem')=true)
  (hM:cX mem σ mem') (hargs:kZ mem σ args args') (h:aF P Γ F args' mem' nx K):aF P Γ F args mem nx K:=by
 simp only[Mg] at hid;have hid1:=uG hid.1;have hnod:=dK hid.2;refine⟨fun X D ρ w vs hD hm hv=>?_⟩;have hσ:∀id id',lk σ id=some id'->D id->D id'/\ρ id'=ρ id:=by
  intro id id' h hd;have:=hid1 _ (a5 h);simp only at this;subst this;exact⟨hd,rfl⟩
 have hinj:IP σ:=fun i j k h1 h2=>by
  have a:=hid1 _ (a5 h1);have b:=hid1 _ (a5 h2);simp only at a b;omega
 obtain⟨m1,v1,o1⟩:=hm.turn (D':=D) (ρ':=ρ) hΓ hσ hM.cvm hnod hinj;have hvs:gJ ρ D (OX X ρ mem') w args' vs:=⟨by rw[←hargs.1];exact hv.1,fun j c' x hc' hx=>by
   obtain⟨c,hc⟩:=cL hargs.1 hc';exact v1 c c' (hargs.2 j c c' hc hc') _ (hv.2 j c x hc hx)⟩
 refine(h.run X D ρ w vs hD m1 hvs).mono ?_;rintro e w' ⟨r,v,m,n,ρ',h1,h2,h3,h4,h5,h6⟩;refine⟨r,v,m,n,ρ',h1,h2,h3,h4,h5, ?_⟩;have e0:Ext D ρ mem w ρ D mem' w:=⟨fun i hi=>hi,fun _ _=>rfl,Mp _,fun _ _ _=>rfl,fun p hp hn=>.inl (o1 p hp hn),.refl _⟩
 exact e0.trans h6
theorem bK{l:List aT}{k:Nat}(h:k<l.length):∃a b c d,aT.mk a b c d∈l/\l[k]? = some (aT.mk a b c d)/\l[k]=aT.mk a b c d/\(aO l)[(k:Int).toNat]? = some (cD (aT.mk a b c d)):=by
 obtain⟨⟨a,b,c,d⟩,hv⟩:∃v,v=l[k]:=⟨_,rfl⟩
 have e:=Ad h;rw[←hv] at e;exact⟨a,b,c,d,by rw[hv];exact NL h,by rw[hv];exact Mf h,hv.symm,e⟩
section
variable {mem:aK} {σ:List (Nat × Nat)}
theorem Cv.int{k:IntKind}{a b:Int}(h:a=b):Cv mem σ (.int k a) (.int k b):=by rw[h];exact .same _ (.int _ _)
theorem Cv.w64{x y:Int}(h:x=y)(hb:i64 y):Cv mem σ (.int .i64 (IntKind.i64.wrap x)) (.int .i64 y):=by rw[h,fC hb];exact .same _ (.int _ _)
theorem Cv.wo{x y:Int}(h:x=y:=by omega)(h1 : -9223372036854775808<=y:=by omega)(h2:y<=9223372036854775807:=by omega):Cv mem σ (.int .i64 (IntKind.i64.wrap x)) (.int .i64 y):=.w64 h ⟨h1,h2⟩
theorem Cv.wp{x y:Int}(h:x=y:=by simp only;omega)(h1 : -9223372036854775808<=y:=by simp only;omega)(h2:y<=9223372036854775807:=by simp only;omega):Cv mem σ (.int .i64 (IntKind.i64.wrap x)) (.int .i64 y):=.w64 h ⟨h1,h2⟩
theorem aG{sl:List (Nat × AV)}{i:Nat}{v:AV}(h:lk sl i=some v:=by rfl)(hn:NN v:=by exact nn):∃w,lk sl i=some w/\Cv mem σ w v:=⟨v,h,.same v hn⟩
theorem kZ.s{v:AV}{as bs:List AV}(hs:kZ mem σ as bs)(hn:NN v:=by exact nn):kZ mem σ (v::as) (v::bs):=.cons (.same v hn) hs
theorem bW{α:Type}{a:α}{q:Prop}(h:q):a=a/\q:=⟨rfl,h⟩
theorem aL{sl:List (Nat × AV)}{i id id' x y:Nat}(h:lk sl i=some (.ptr id x y):=by rfl)(h2:lk σ id=some id':=by rfl):∃w,lk sl i=some w/\Cv mem σ w (.ptr id' x y):=⟨_,h,.ptr id id' x y h2⟩
theorem a9{sl:List (Nat × AV)}{i:Nat}{v:AV}(hn:NN v)(h:lk sl i=some v:=by rfl):∃w,lk sl i=some w/\Cv mem σ w v:=⟨v,h,.same v hn⟩
theorem aI{t:TypeId}{sz p:Nat}{ys:List AV}(id:Nat)(hn:jK ys)(h1:lk σ id=some p:=by rfl)(h2:lk mem id=some (.row t sz ys):=by rfl):∃id xs,lk σ id=some p/\lk mem id=some (.row t sz xs)/\pX mem σ xs ys:=⟨id,ys,h1,h2,.same hn⟩
theorem Rs{p q:Prop}(x:q)(e:q->p:=by(intro x;(repeat((first|refine bQ.2 ?_|refine bW ?_);((conv=>whnf);(repeat(refine Xg ?_;conv=>whnf)))));exact x)):p:=e x
theorem Rt{p q:Prop}(x:q)(e:q->p:=by(intro x;(conv=>whnf);(repeat(refine Xg ?_;conv=>whnf));(repeat((first|refine bQ.2 ?_|refine bW ?_);((conv=>whnf);(repeat(refine Xg ?_;conv=>whnf)))));exact x)):p:=e x
theorem Cv.bool{a b:Bool}(h:a=b):Cv mem σ (.bool a) (.bool b):=by rw[h];exact .same _ (.bool _)
theorem Br(k n:Int)(s:List UInt8):C3 mem σ (.agg [.int .i64 k,.int .i64 n,.str s,.nsl]) (cD (.mk k n s [])):=
 .agg (.cons (.same _ (.int _ _)) (.cons (.same _ (.int _ _)) (.cons (.same _ (.str _)) (.cons (.nil 4) .nil))))
end
theorem fB(l:List aT)(v:aT):aO (l++[v])=aO l++[cD v]:=by simp[fL]
theorem w64{x y:Int}(h:x=y)(hb:i64 y):IntKind.i64.wrap x=y:=by rw[h,fC hb]
theorem Cj{l:List aT}{k:Nat}(h:decide ((k:Int)<((aO l).length:Nat))=true):k<l.length:=by rw[aB] at h;simpa using h
theorem Ct{l:List aT}{k:Nat}(h:decide ((k:Int)<((aO l).length:Nat))=false):l.length<=k:=by rw[aB] at h;simpa using h
theorem Cv.fzR{mem:aK}{σ:List (Nat × Nat)}{id len:Nat}{t:TypeId}{sz:Nat}{xs ys:List AV}(h1:lk mem id=some (.row t sz xs))(h2:lk σ id=none)(h3:pX mem σ xs ys)(h4:ys.length=len):Cv mem σ (.sl id 0 len) (.il sz ys):=
 .fz id 0 len t sz xs ys h1 h2 (by have:=h3.1;omega) h4 (fun i x y hx hy=>(h3.2 i x y (by simpa using hx) hy).1) (fun i x y j c c' hx hy hc hc'=>(h3.2 i x y (by simpa using hx) hy).2 j c c' hc hc')
section
variable {P:Program} {Γ:List (Nat × AV)} {F:FuncId} {args:List AV} {r:AV} {mem:aK} {nx:Nat} {K:AV->aK->Nat->Prop}
theorem aZ.goG(h:aZ P [] F args r)(hk:K r mem nx)(ha:jK args:=by exact cG)(hr:NN r:=by exact nn):aF P Γ F args mem nx K:=(h.use bI ha hr hk).glob
theorem aF.goG0{Qs:AV->aK->Nat->Prop}(h:aF P [] F args [] 0 Qs)(hk:∀r m n,Qs r m n->∃r',Cv m [] r r'/\K r' mem nx)(ha:jK args:=by exact cG):aF P Γ F args mem nx K:=
 (aF.call0 bI h ha hk).glob
end
theorem JB{l:List aT}{k n:Nat}(h:k<l.length)(hn:l.length=n):∃a b c d,aT.mk a b c d∈l/\l[k]? = some (aT.mk a b c d)/\l[k]=aT.mk a b c d/\(aO l)[0+(k:Int).toNat]? = some (cD (aT.mk a b c d))/\Nat.blt (k:Int).toNat n=true:=by
 obtain⟨a,b,c,d,h1,h2,h3,h4⟩:=bK h;exact⟨a,b,c,d,h1,h2,h3,by rw[NS];exact h4,Ml (by simp;omega)⟩
end Go.Ax
namespace Go.Ax
open Go
section
variable {P:Program} {Γ:List (Nat × AV)} {B:Nat}
structure a6(P:Program)(Γ:List (Nat × AV))(B:Nat)(c:Code)(s:St)(Q:Exit->St->Prop):Prop where
 run:dW P Γ B (.loop c) s Q
def Ff(P:Program)(Γ:List (Nat × AV))(B:Nat)(y:Code)(Q:Exit->St->Prop)(e:Exit)(s:St):Prop:=
 match e with
 | .normal=>dW P Γ B y s Q
 | e=>Q e s
def x8(id:Nat)(Q:Exit->St->Prop)(e:Exit)(s:St):Prop:=
 match e with
 | .exit i=>match Nat.beq i id with
  | true=>Q .normal s
  | false=>Q (.exit i) s
 | e=>Q e s
theorem vF{ops:List Oper}{K:St->Prop}{Kp:Value->St->Prop}:∀{l:List Oper} {s:St},qV P Γ (DC P Γ B) ops l s K (fun _ _=>False)->qV P Γ (DC P Γ B) ops l s K Kp
 | [],s,h=>h
 | o::r,s,h=>by
  simp only[qV] at h ⊢;split
  ·rename_i h1;simp only[h1] at h
  ·rename_i h1;simp only[h1] at h;split
   ·rename_i h2;simp only[h2] at h;exact vF h
   ·rename_i h2;simp only[h2] at h
  ·rename_i h1;simp only[h1] at h;split
   ·rename_i h2;simp only[h2] at h;split
    ·rename_i h3;simp only[h3] at h;exact vF h
    ·rename_i h3;simp only[h3] at h
   ·rename_i h2;simp only[h2] at h;split
    ·rename_i h3;simp only[h3] at h;refine aF.mono h fun v m n h=>?_
     split
     ·rename_i h4;simp only[h4] at h;exact vF h
     ·rename_i h4;simp only[h4] at h
    ·rename_i h3;simp only[h3] at h;split at h<;>exact h.elim
theorem pH{ops:List Oper}{tr:List (List Nat)}{base:Nat}{K:St->Prop}{Kp:Value->aK->Nat->Prop}:∀{l:List Nat} {recs:List vE} {s:St},lQ P Γ (DC P Γ B) ops tr base K (fun _ _ _=>False) l recs s->lQ P Γ (DC P Γ B) ops tr base K Kp l recs s
 | [],recs,s,h=>h
 | i::r,recs,s,h=>by
  simp only[lQ] at h ⊢;split
  ·rename_i h1;simp only[h1] at h
  ·rename_i o h1;simp only[h1] at h;split
   ·rename_i h2;simp only[h2] at h
   ·rename_i h2;simp only[h2] at h;split
    ·rename_i h3;simp only[h3] at h;exact pH h
    ·rename_i h3;simp only[h3] at h
   ·rename_i h2;simp only[h2] at h;split
    ·rename_i hk;simp only[hk] at h;split
     ·rename_i h3;simp only[h3] at h;split
      ·rename_i h4;simp only[h4] at h;exact pH h
      ·rename_i h4;simp only[h4] at h
     ·rename_i h3;simp only[h3] at h
    ·rename_i hk;simp only[hk] at h;split
     ·rename_i h3;simp only[h3] at h;split
      ·rename_i h4;simp only[h4] at h;exact pH h
      ·rename_i h4;simp only[h4] at h
     ·rename_i h3;split at h
      ·rename_i h4;exact(h3 _ _ _ _ h4).elim
      ·exact h
    ·rename_i hk;simp only[hk] at h;split
     ·rename_i h3;simp only[h3] at h;split
      ·rename_i h4;simp only[h4] at h;exact⟨h.1,pH h.2⟩
      ·rename_i h4;simp only[h4] at h
     ·rename_i h3;simp only[h3] at h;split
      ·rename_i h4;simp only[h4] at h;refine aF.mono h fun v m n h=>?_
       split
       ·rename_i h5;simp only[h5] at h;exact⟨h.1,pH h.2⟩
       ·rename_i h5;simp only[h5] at h
      ·rename_i h4;simp only[h4] at h
structure i0(P:Program)(Γ:List (Nat × AV))(B:Nat)(ops l:List Oper)(s:St)(K:St->Prop):Prop where
 run:qV P Γ (DC P Γ B) ops l s K fun _ _=>False
def Ma(P:Program)(Γ:List (Nat × AV))(B:Nat)(ops l:List Oper)(s:St)(K:St->Prop):Prop:=
 match l with
 | []=>K s
 | o::r=>Aj s fun sl mem nx nt=>nQ ops sl o.guard
   (Af false P Γ (DC P Γ B) sl mem nx o.op (fun v mem nx=>kY s o.dst v mem nx fun s'=>i0 P Γ B ops r s' K) fun _ _ _=>False)
   (kY s o.dst (.tup []) mem nx fun s'=>i0 P Γ B ops r s' K)
theorem i0.go{ops l:List Oper}{s:St}{K:St->Prop}(h:Ma P Γ B ops l s K):i0 P Γ B ops l s K:=by
 refine⟨?_⟩;cases l with
 | nil=>exact h
 | cons o r=>
  have h:nQ ops s.sl o.guard (Af false P Γ (DC P Γ B) s.sl s.mem s.nx o.op (fun v mem nx=>kY s o.dst v mem nx fun s'=>i0 P Γ B ops r s' K) fun _ _ _=>False) (kY s o.dst (.tup []) s.mem s.nx fun s'=>i0 P Γ B ops r s' K):=h;simp only[qV];rcases rY h with⟨h1,h⟩|⟨h1,h⟩
  ·simp only[h1];rcases vZ h with⟨v,m,n,h2,h⟩|⟨h2,F,l,h3,h⟩
   ·obtain⟨s',h4,h⟩:=eM h;simp only[h2,h4];exact h.run
   ·simp only[h2,h3];refine(show aF P Γ F l s.mem s.nx _ from h).mono fun v m n h=>?_
    obtain⟨s',h4,h⟩:=eM h;simp only[h4];exact h.run
  ·obtain⟨s',h4,h⟩:=eM h;simp only[h1,h4];exact h.run
structure GX(P:Program)(Γ:List (Nat × AV))(B:Nat)(ops:List Oper)(tr:List (List Nat))(base:Nat)(K:St->Prop)(l:List Nat)(recs:List vE)(s:St):Prop where
 run:lQ P Γ (DC P Γ B) ops tr base K (fun _ _ _=>False) l recs s
def MD(P:Program)(Γ:List (Nat × AV))(B:Nat)(ops:List Oper)(tr:List (List Nat))(base:Nat)(K:St->Prop)(l:List Nat)(recs:List vE)(s:St):Prop:=
 match l with
 | []=>K s
 | i::r=>match ops[i]? with
  | none=>False
  | some o=>Aj s fun sl mem nx nt=>nQ ops sl o.guard
   (match kind P o.op with
    | .pure=>match still o.op with
     | true=>oR false P Γ sl [] nx o.op fun v _ _=>kY s o.dst v mem nx fun s'=>GX P Γ B ops tr base K r (⟨i,sl,true,v⟩::recs) s'
     | false=>fR (fun p=>Er tr base ops.length i p.1) mem fun m=>oR false P Γ sl m nx o.op fun v _ _=>kY s o.dst v mem nx fun s'=>GX P Γ B ops tr base K r (⟨i,sl,true,v⟩::recs) s'
    | .al=>lK (base+i) fun id=>oR false P Γ sl [] id o.op fun v m _=>match m with
     | [(_,b)]=>kY s o.dst v ((id,b)::mem) nx fun s'=>GX P Γ B ops tr base K r (⟨i,sl,true,v⟩::recs) s'
     | _=>False
    | .eff=>fR (fun p=>Er tr base ops.length i p.1) mem fun m=>Af false P Γ (DC P Γ B) sl m nx o.op (fun v m nx'=>fR (fun p=>!Er tr base ops.length i p.1) mem fun rest=>fR (fun p=>!n8 p.1 m) rest fun rest=>u0 m rest fun m=>
      kY s o.dst v m nx' fun s'=>pT false P Γ ops tr base i m nx' recs (GX P Γ B ops tr base K r recs s')) fun _ _ _=>False)
   (kY s o.dst (.tup []) mem nx fun s'=>GX P Γ B ops tr base K r (⟨i,sl,false,.tup []⟩::recs) s')
theorem GX.go{ops:List Oper}{tr:List (List Nat)}{base:Nat}{K:St->Prop}{l:List Nat}{recs:List vE}{s:St}(h:MD P Γ B ops tr base K l recs s):GX P Γ B ops tr base K l recs s:=by
 refine⟨?_⟩;cases l with
 | nil=>exact h
 | cons i r=>
  simp only[MD] at h;simp only[lQ];split at h
  ·exact h.elim
  ·rename_i o ho;simp only[ho];have h:=j7.1 h;rcases rY h with⟨h1,h⟩|⟨h1,h⟩
   ·simp only[h1];split at h
    ·rename_i hkd;simp only[hkd];split at h
     ·rename_i hst;obtain⟨v,m,n,h2,h⟩:=jW (s:={ sl:=s.sl,mem:=[],nx:=s.nx,nt:=s.nt }) h;obtain⟨m',n',h2'⟩:=oG (s:={ sl:=s.sl,mem:=[],nx:=s.nx,nt:=s.nt }) (s':={ s with mem:=dL tr base ops.length i s.mem }) hst rfl h2;obtain⟨s',h3,h⟩:=eM h;simp only[h2',h3];exact h.run
     ·have h:=cC.1 h;obtain⟨v,m,n,h2,h⟩:=jW (s:={ s with mem:=dL tr base ops.length i s.mem }) h;obtain⟨s',h3,h⟩:=eM h;simp only[h2,h3];exact h.run
    ·rename_i hkd;simp only[hkd];have h:=cU.1 h;obtain⟨v,m,n,h2,h⟩:=jW (s:={ s with mem:=[],nx:=base+i }) h;simp only[h2];split at h
     ·obtain⟨s',h3,h⟩:=eM h;simp only[h3];exact h.run
     ·exact h.elim
    ·rename_i hkd;simp only[hkd];have h:=cC.1 h;rcases vZ (s:={ s with mem:=dL tr base ops.length i s.mem }) h with⟨v,m,n,h2,h⟩|⟨h2,F,l,h3,h⟩
     ·simp only[h2];have h:=fG.1 (cC.1 (cC.1 h));obtain⟨s',h3,h⟩:=eM h;have h3:dG s o.dst v (m++oB m (eT tr base ops.length i s.mem)) n=some s':=h3;simp only[h3];obtain⟨e1,e2,_⟩:=fD h3;have h:pT false P Γ ops tr base i (m++oB m (eT tr base ops.length i s.mem)) n recs (GX P Γ B ops tr base K r recs s'):=h;rw[←e1,←e2] at h;obtain⟨h4,h⟩:=lL h;exact⟨h4,h.run⟩
     ·rw[oL (s':=s) (fun x _=>by cases x<;>rfl)] at h3;simp only[h2,h3];refine(show aF P Γ F l _ _ _ from h).mono fun v m n h=>?_
      have h:=fG.1 (cC.1 (cC.1 h));obtain⟨s',h3,h⟩:=eM h;have h3:dG s o.dst v (m++oB m (eT tr base ops.length i s.mem)) n=some s':=h3;simp only[h3];obtain⟨e1,e2,_⟩:=fD h3;have h:pT false P Γ ops tr base i (m++oB m (eT tr base ops.length i s.mem)) n recs (GX P Γ B ops tr base K r recs s'):=h;rw[←e1,←e2] at h;obtain⟨h4,h⟩:=lL h;exact⟨h4,h.run⟩
   ·obtain⟨s',h3,h⟩:=eM h;simp only[h1,h3];exact h.run
def KU(P:Program)(Γ:List (Nat × AV))(B:Nat)(ops:List Oper)(s:St)(Q:Exit->St->Prop):Prop:=
 match P.follows .mixedOrders with
 | true=>match xC P ops (sH P ops ops.length [] (tT ops.length)) with
  | true=>Aj s fun sl mem nx nt=>lK (nx+ops.length) fun n=>qH (sH P ops ops.length [] (tT ops.length)) fun ord=>GX P Γ B ops (F3 ops []) nx (fun s'=>Q .normal s') ord [] ⟨sl,mem,n,nt⟩
  | false=>False
 | false=>False
def K3(Q:Exit->St->Prop)(e:Exit)(s:St):Prop:=
 match e with
 | .goto _=>False
 | e=>Q e s
def Lt(P:Program)(Γ:List (Nat × AV))(B:Nat)(c:Code)(s:St)(Q:Exit->St->Prop):Prop:=
 match c with
 | .skip=>Q .normal s
 | .seq x y=>dW P Γ B x s (Ff P Γ B y Q)
 | .cond c x y=>Aj s fun sl _ _ _=>iA Γ sl c fun v=>match v with
  | .bool b=>GW b (dW P Γ B x s Q) (dW P Γ B y s Q)
  | _=>False
 | .block id c=>dW P Γ B c s (x8 id Q)
 | .loop c=>a6 P Γ B c s Q
 | .label _=>Q .normal s
 | .scope c=>dW P Γ B c s (K3 Q)
 | .exit i=>Q (.exit i) s
 | .ret=>Q .ret s
 | .region _ ops draw=>match draw with
  | false=>i0 P Γ B ops.toList ops.toList s fun s'=>Q .normal s'
  | true=>KU P Γ B ops.toList s Q
 | .rangeFunc g ps ca cb=>p9 false P Γ (DC P Γ B) (.rangeFunc g ps ca cb) s Q
 | _=>False
theorem dW.go{c:Code}{s:St}{Q:Exit->St->Prop}(h:Lt P Γ B c s Q):dW P Γ B c s Q:=by
 cases c with
 | skip=>exact cO (cl:=false) mX .skip s Q h
 | exit i=>exact cO (cl:=false) mX (.exit i) s Q h
 | ret=>exact cO (cl:=false) mX .ret s Q h
 | loop c=>exact(show a6 P Γ B c s Q from h).run
 | label l=>exact cO (cl:=false) mX (.label l) s Q h
 | rangeFunc g ps ca cb=>exact cO (cl:=false) mX (.rangeFunc g ps ca cb) s Q h
 | scope c=>
  have h:dW P Γ B c s (K3 Q):=h;refine⟨fun rd X ds D ρ a w hD hs hB hr=>wA (wpIn_mono (h.run rd X ds D ρ a w hD hs hB hr.scope) ?_)⟩;rintro e a' w' ⟨s',ρ',hq,hB',hs',hext⟩;cases e with
  | goto l=>exact(show False from hq).elim
  | normal=>exact⟨s',ρ',hq,hB',hs',hext⟩
  | exit i=>exact⟨s',ρ',hq,hB',hs',hext⟩
  | ret=>exact⟨s',ρ',hq,hB',hs',hext⟩
  | panic c=>exact⟨s',ρ',hq,hB',hs',hext⟩
  | outgrown=>exact⟨s',ρ',hq,hB',hs',hext⟩
 | seq x y=>
  have h:dW P Γ B x s (Ff P Γ B y Q):=h;refine⟨fun rd X ds D ρ a w hD hs hB hr=>wpIn_seq (wpIn_mono (h.run rd X ds D ρ a w hD hs hB hr.seq1) ?_)⟩;rintro e a' w' ⟨s',ρ',hq,hB',hs',hext⟩;cases e with
  | normal=>
   refine wpIn_mono ((show dW P Γ B y s' Q from hq).run rd X ds D ρ' a' w' hD hs' hB' hr.seq2) ?_;rintro e a2 w2 ⟨s2,ρ2,h1,h2,h3,h4⟩;exact⟨s2,ρ2,h1,h2,h3,hext.trans h4⟩
  | exit i=>exact⟨s',ρ',hq,hB',hs',hext⟩
  | goto l=>exact⟨s',ρ',hq,hB',hs',hext⟩
  | ret=>exact⟨s',ρ',hq,hB',hs',hext⟩
  | panic c=>exact⟨s',ρ',hq,hB',hs',hext⟩
  | outgrown=>exact⟨s',ρ',hq,hB',hs',hext⟩
 | cond c x y=>
  have h:iA Γ s.sl c fun v=>match v with
   | .bool b=>GW b (dW P Γ B x s Q) (dW P Γ B y s Q)
   | _=>False:=h
  obtain⟨v,h1,h⟩:=bH h;split at h
  ·rename_i b;refine⟨fun rd X ds D ρ a w hD hs hB hr=>?_⟩;have hv:=aP hs h1;generalize he:a.eval c=cv at hv;cases hv;cases b with
   | true=>exact wpIn_cond_true he ((show dW P Γ B x s Q from h).run rd X ds D ρ a w hD hs hB hr.cond1)
   | false=>exact wpIn_cond_false he ((show dW P Γ B y s Q from h).run rd X ds D ρ a w hD hs hB hr.cond2)
  ·exact h.elim
 | block id c=>
  have h:dW P Γ B c s (x8 id Q):=h;refine⟨fun rd X ds D ρ a w hD hs hB hr=>wpIn_block (wpIn_mono (h.run rd X ds D ρ a w hD hs hB hr.block) ?_)⟩;rintro e a' w' ⟨s',ρ',hq,hB',hs',hext⟩;cases e with
  | exit i=>
   simp only[Exit.inBlock];simp only[x8] at hq;split at hq
   ·rename_i hi;rw[Mr (Nat.eq_of_beq_eq_true hi)];exact⟨s',ρ',hq,hB',hs',hext⟩
   ·rename_i hi;rw[Mm (NR hi)];exact⟨s',ρ',hq,hB',hs',hext⟩
  | normal=>exact⟨s',ρ',hq,hB',hs',hext⟩
  | goto l=>exact⟨s',ρ',hq,hB',hs',hext⟩
  | ret=>exact⟨s',ρ',hq,hB',hs',hext⟩
  | panic c=>exact⟨s',ρ',hq,hB',hs',hext⟩
  | outgrown=>exact⟨s',ρ',hq,hB',hs',hext⟩
 | region id ops draw=>
  cases draw with
  | false=>exact tI mX (.region id ops false) s Q (vF (show i0 P Γ B ops.toList ops.toList s _ from h).run)
  | true=>
   refine tI mX (.region id ops true) s Q ?_;have h:KU P Γ B ops.toList s Q:=h;unfold KU at h;simp only[yS];split at h
   ·rename_i hmix;simp only[hmix];split at h
    ·rename_i hok;simp only[CS,hok];exact pH (iT.1 (cU.1 (j7.1 h))).run
    ·exact h.elim
   ·exact h.elim
 | _=>exact(show False from h).elim
theorem aN{F:FuncId}{fn:Func}{c:Code}{args:List AV}{mem:aK}{nx:Nat}{Q:AV->aK->Nat->Prop}(hΓ:∀p∈Γ,NN p.2)(hf:P.funcs[F]? = some fn)(hb:fn.body=some c)
  (h:lH fn.ntmps args mem nx fun s=>dW P Γ nx c s (Jq P fn.results.toList (mJ nx Q))) (hF:Nat.beq F YF=false:=by rfl):aF P Γ F args mem nx Q:=
 (qA hf hb ((fF h).mono fun _ _ h=>HJ h) hF).turn hΓ
def Kq{α:Type}(B:Nat)(R:α->Prop)(I:α->St)(μ:α->Nat)(x:α)(Q:Exit->St->Prop)(e:Exit)(s:St):Prop:=
 match e with
 | .normal=>Ca B R I μ x s
 | e=>Q e s
theorem a6.at{c:Code}{s:St}{Q:Exit->St->Prop}{α:Type}(hΓ:∀p∈Γ,NN p.2)(R:α->Prop)(I:α->St)(μ:α->Nat)(x:α)(σ:List (Nat × Nat))(hx:R x)(h0:Conv B σ s (I x))
  (h:∀x,R x->dW P Γ B c (I x) (Kq B R I μ x Q)):a6 P Γ B c s Q:=by
 refine⟨dW.conv hΓ h0 ?_⟩;refine dW.loop (α:={ x:α // R x }) hΓ (fun x=>I x.1) (fun x=>μ x.1) (fun x=>?_) ⟨x,hx⟩;refine(h x.1 x.2).mono fun e s h=>?_
 cases e with
 | normal=>
  obtain⟨y,σ,hy,hc,hlt⟩:=(show Ca B R I μ x.1 s from h)
  exact⟨⟨y,hy⟩,σ,hc,hlt⟩
 | exit i=>exact h
 | goto l=>exact h
 | ret=>exact h
 | panic c=>exact h
 | outgrown=>exact h
theorem a6.ph{c:Code}{s:St}{Q:Exit->St->Prop}(t:TypeId)(sz:Nat)(h:a6 P Γ B c ⟨s.sl,(s.nx,.row t sz [])::s.mem,s.nx+1,s.nt⟩ Q):a6 P Γ B c s Q:=⟨dW.ph t sz h.run⟩
def Gt(P:Program)(Γ:List (Nat × AV))(B:Nat)(ops:List Oper)(K:St->Prop)(next:List Oper->St->Prop)(l:List Oper)(s:St):Prop:=
 match l with
 | []=>K s
 | o::r=>Aj s fun sl mem nx nt=>nQ ops sl o.guard
   (Af false P Γ (DC P Γ B) sl mem nx o.op (fun v mem nx=>kY s o.dst v mem nx fun s'=>next r s') fun _ _ _=>False)
   (kY s o.dst (.tup []) mem nx fun s'=>next r s')
theorem lN{ops:List Oper}{K:St->Prop}{next:List Oper->St->Prop}(hn:∀r s,next r s->i0 P Γ B ops r s K){l:List Oper}{s:St}(h:Gt P Γ B ops K next l s):i0 P Γ B ops l s K:=by
 refine⟨?_⟩;cases l with
 | nil=>exact h
 | cons o r=>
  have h:nQ ops s.sl o.guard (Af false P Γ (DC P Γ B) s.sl s.mem s.nx o.op (fun v mem nx=>kY s o.dst v mem nx fun s'=>next r s') fun _ _ _=>False) (kY s o.dst (.tup []) s.mem s.nx fun s'=>next r s'):=h;simp only[qV];rcases rY h with⟨h1,h⟩|⟨h1,h⟩
  ·simp only[h1];rcases vZ h with⟨v,m,n,h2,h⟩|⟨h2,F,l,h3,h⟩
   ·obtain⟨s',h4,h⟩:=eM h;simp only[h2,h4];exact(hn _ _ h).run
   ·simp only[h2,h3];refine(show aF P Γ F l s.mem s.nx _ from h).mono fun v m n h=>?_
    obtain⟨s',h4,h⟩:=eM h;simp only[h4];exact(hn _ _ h).run
  ·obtain⟨s',h4,h⟩:=eM h;simp only[h1,h4];exact(hn _ _ h).run
def Ii(P:Program)(Γ:List (Nat × AV))(B:Nat)(next:Code->St->(Exit->St->Prop)->Prop)(c:Code)(s:St)(Q:Exit->St->Prop):Prop:=
 match c with
 | .seq x y=>next x s (Ff P Γ B y Q)
 | .block id c=>next c s (x8 id Q)
 | c=>Lt P Γ B c s Q
theorem oZ{next:Code->St->(Exit->St->Prop)->Prop}(hn:∀c s Q,next c s Q->dW P Γ B c s Q){c:Code}{s:St}{Q:Exit->St->Prop}(h:Ii P Γ B next c s Q):dW P Γ B c s Q:=by
 cases c with
 | seq x y=>exact dW.go (show Lt P Γ B (.seq x y) s Q from hn _ _ _ h)
 | block id c=>exact dW.go (show Lt P Γ B (.block id c) s Q from hn _ _ _ h)
 | _=>exact dW.go h
def K7(P:Program)(Γ:List (Nat × AV))(B:Nat)(ops:List Oper)(K:St->Prop)(l:List Oper)(s:St):Prop:=i0 P Γ B ops l s K
theorem Ig{ops:List Oper}{K:St->Prop}(l:List Oper)(s:St)(h:K7 P Γ B ops K l s):i0 P Γ B ops l s K:=h
def K6(P:Program)(Γ:List (Nat × AV))(B:Nat)(ops:List Oper)(K:St->Prop)(l:List Oper)(s:St):Prop:=Gt P Γ B ops K (K7 P Γ B ops K) l s
theorem Ir{ops:List Oper}{K:St->Prop}(l:List Oper)(s:St)(h:K6 P Γ B ops K l s):i0 P Γ B ops l s K:=lN Ig h
def K8(P:Program)(Γ:List (Nat × AV))(B:Nat)(ops:List Oper)(K:St->Prop)(l:List Oper)(s:St):Prop:=Gt P Γ B ops K (K6 P Γ B ops K) l s
theorem I8{ops:List Oper}{K:St->Prop}(l:List Oper)(s:St)(h:K8 P Γ B ops K l s):i0 P Γ B ops l s K:=lN Ir h
def Kw(P:Program)(Γ:List (Nat × AV))(B:Nat)(ops:List Oper)(K:St->Prop)(l:List Oper)(s:St):Prop:=Gt P Γ B ops K (K8 P Γ B ops K) l s
theorem JV{ops:List Oper}{K:St->Prop}(l:List Oper)(s:St)(h:Kw P Γ B ops K l s):i0 P Γ B ops l s K:=lN I8 h
def LI(P:Program)(Γ:List (Nat × AV))(B:Nat)(ops:List Oper)(K:St->Prop)(l:List Oper)(s:St):Prop:=Gt P Γ B ops K (Kw P Γ B ops K) l s
theorem Iw{ops:List Oper}{K:St->Prop}(l:List Oper)(s:St)(h:LI P Γ B ops K l s):i0 P Γ B ops l s K:=lN JV h
def Lb(P:Program)(Γ:List (Nat × AV))(B:Nat)(ops:List Oper)(K:St->Prop)(l:List Oper)(s:St):Prop:=Gt P Γ B ops K (LI P Γ B ops K) l s
theorem Ix{ops:List Oper}{K:St->Prop}(l:List Oper)(s:St)(h:Lb P Γ B ops K l s):i0 P Γ B ops l s K:=lN Iw h
def Le(P:Program)(Γ:List (Nat × AV))(B:Nat)(ops:List Oper)(K:St->Prop)(l:List Oper)(s:St):Prop:=Gt P Γ B ops K (Lb P Γ B ops K) l s
theorem Ik{ops:List Oper}{K:St->Prop}(l:List Oper)(s:St)(h:Le P Γ B ops K l s):i0 P Γ B ops l s K:=lN Ix h
def Lg(P:Program)(Γ:List (Nat × AV))(B:Nat)(ops:List Oper)(K:St->Prop)(l:List Oper)(s:St):Prop:=Gt P Γ B ops K (Le P Γ B ops K) l s
theorem IZ{ops:List Oper}{K:St->Prop}(l:List Oper)(s:St)(h:Lg P Γ B ops K l s):i0 P Γ B ops l s K:=lN Ik h
def Lc(P:Program)(Γ:List (Nat × AV))(B:Nat)(ops:List Oper)(K:St->Prop)(l:List Oper)(s:St):Prop:=Gt P Γ B ops K (Lg P Γ B ops K) l s
theorem Ih{ops:List Oper}{K:St->Prop}(l:List Oper)(s:St)(h:Lc P Γ B ops K l s):i0 P Γ B ops l s K:=lN IZ h
def LN(P:Program)(Γ:List (Nat × AV))(B:Nat)(ops:List Oper)(K:St->Prop)(l:List Oper)(s:St):Prop:=Gt P Γ B ops K (Lc P Γ B ops K) l s
theorem I9{ops:List Oper}{K:St->Prop}(l:List Oper)(s:St)(h:LN P Γ B ops K l s):i0 P Γ B ops l s K:=lN Ih h
def HP(P:Program)(Γ:List (Nat × AV))(B:Nat)(ops:List Oper)(K:St->Prop)(l:List Oper)(s:St):Prop:=Gt P Γ B ops K (LN P Γ B ops K) l s
theorem G7{ops:List Oper}{K:St->Prop}(l:List Oper)(s:St)(h:HP P Γ B ops K l s):i0 P Γ B ops l s K:=lN I9 h
theorem i0.many{ops l:List Oper}{s:St}{K:St->Prop}(h:HP P Γ B ops K l s):i0 P Γ B ops l s K:=G7 l s h
def Kt(P:Program)(Γ:List (Nat × AV))(B:Nat)(c:Code)(s:St)(Q:Exit->St->Prop):Prop:=dW P Γ B c s Q
theorem JI(c:Code)(s:St)(Q:Exit->St->Prop)(h:Kt P Γ B c s Q):dW P Γ B c s Q:=h
def Ky(P:Program)(Γ:List (Nat × AV))(B:Nat)(c:Code)(s:St)(Q:Exit->St->Prop):Prop:=Ii P Γ B (Kt P Γ B) c s Q
theorem IT(c:Code)(s:St)(Q:Exit->St->Prop)(h:Ky P Γ B c s Q):dW P Γ B c s Q:=oZ JI h
def LR(P:Program)(Γ:List (Nat × AV))(B:Nat)(c:Code)(s:St)(Q:Exit->St->Prop):Prop:=Ii P Γ B (Ky P Γ B) c s Q
theorem JL(c:Code)(s:St)(Q:Exit->St->Prop)(h:LR P Γ B c s Q):dW P Γ B c s Q:=oZ IT h
def Lj(P:Program)(Γ:List (Nat × AV))(B:Nat)(c:Code)(s:St)(Q:Exit->St->Prop):Prop:=Ii P Γ B (LR P Γ B) c s Q
theorem If(c:Code)(s:St)(Q:Exit->St->Prop)(h:Lj P Γ B c s Q):dW P Γ B c s Q:=oZ JL h
def Ln(P:Program)(Γ:List (Nat × AV))(B:Nat)(c:Code)(s:St)(Q:Exit->St->Prop):Prop:=Ii P Γ B (Lj P Γ B) c s Q
theorem Ic(c:Code)(s:St)(Q:Exit->St->Prop)(h:Ln P Γ B c s Q):dW P Γ B c s Q:=oZ If h
def K1(P:Program)(Γ:List (Nat × AV))(B:Nat)(c:Code)(s:St)(Q:Exit->St->Prop):Prop:=Ii P Γ B (Ln P Γ B) c s Q
theorem JO(c:Code)(s:St)(Q:Exit->St->Prop)(h:K1 P Γ B c s Q):dW P Γ B c s Q:=oZ Ic h
def LG(P:Program)(Γ:List (Nat × AV))(B:Nat)(c:Code)(s:St)(Q:Exit->St->Prop):Prop:=Ii P Γ B (K1 P Γ B) c s Q
theorem IY(c:Code)(s:St)(Q:Exit->St->Prop)(h:LG P Γ B c s Q):dW P Γ B c s Q:=oZ JO h
def Km(P:Program)(Γ:List (Nat × AV))(B:Nat)(c:Code)(s:St)(Q:Exit->St->Prop):Prop:=Ii P Γ B (LG P Γ B) c s Q
theorem Iy(c:Code)(s:St)(Q:Exit->St->Prop)(h:Km P Γ B c s Q):dW P Γ B c s Q:=oZ IY h
def KY(P:Program)(Γ:List (Nat × AV))(B:Nat)(c:Code)(s:St)(Q:Exit->St->Prop):Prop:=Ii P Γ B (Km P Γ B) c s Q
theorem It(c:Code)(s:St)(Q:Exit->St->Prop)(h:KY P Γ B c s Q):dW P Γ B c s Q:=oZ Iy h
theorem dW.many{c:Code}{s:St}{Q:Exit->St->Prop}(h:KY P Γ B c s Q):dW P Γ B c s Q:=It c s Q h
class XG(p:Prop)(q:outParam Prop):Prop where
 h:q->p
instance{c:Code}{s:St}{Q:Exit->St->Prop}:XG (dW P Γ B c s Q) (KY P Γ B c s Q):=⟨dW.many⟩
instance{ops l:List Oper}{s:St}{K:St->Prop}:XG (i0 P Γ B ops l s K) (HP P Γ B ops K l s):=⟨i0.many⟩
instance{ops:List Oper}{tr:List (List Nat)}{base:Nat}{K:St->Prop}{l:List Nat}{recs:List vE}{s:St}:XG (GX P Γ B ops tr base K l recs s) (MD P Γ B ops tr base K l recs s):=⟨GX.go⟩
theorem Xg{p q:Prop}[i:XG p q](x:q):p:=i.h x
theorem Rr{p q:Prop}(x:q)(e:q->p:=by(intro x;(conv=>whnf);(repeat(refine Xg ?_;conv=>whnf));exact x)):p:=e x
end
end Go.Ax
namespace Go.Ax
open Go
def yR(i:Nat):List Nat->Bool
 | []=>false
 | j::r=>match Nat.beq j i with
  | true=>true
  | false=>yR i r
def l5(ids:List Nat):aK->aK
 | []=>[]
 | (k,b)::r=>match yR k ids with
  | true=>(k,b)::l5 ids r
  | false=>l5 ids r
def jG(ids:List Nat):aK->aK
 | []=>[]
 | (k,b)::r=>match yR k ids with
  | true=>jG ids r
  | false=>(k,b)::jG ids r
def lW:List Nat->List (Nat × Nat)
 | []=>[]
 | i::r=>(i,i)::lW r
def El(n:Nat):List Nat->Bool
 | []=>true
 | i::r=>Nat.blt i n && El n r
def xB(ids:List Nat):aK->Bool
 | []=>true
 | (k,_)::r=>yR k ids && xB ids r
theorem dJ{ids:List Nat}:∀{m:aK} {p:Nat × AB},p∈l5 ids m↔p∈m/\yR p.1 ids=true
 | [],p=>by simp[l5]
 | (k,b)::r,p=>by
  simp only[l5];split
  ·rename_i h;rw[Mj,dJ (m:=r),Mj];constructor
   ·rintro(rfl|⟨h1,h2⟩)
    ·exact⟨.inl rfl,h⟩
    ·exact⟨.inr h1,h2⟩
   ·rintro⟨rfl|h1,h2⟩
    ·exact .inl rfl
    ·exact .inr ⟨h1,h2⟩
  ·rename_i h;rw[dJ (m:=r),Mj];constructor
   ·rintro⟨h1,h2⟩;exact⟨.inr h1,h2⟩
   ·rintro⟨rfl|h1,h2⟩
    ·rw[h] at h2;cases h2
    ·exact⟨h1,h2⟩
theorem cR{ids:List Nat}:∀{m:aK} {p:Nat × AB},p∈jG ids m↔p∈m/\yR p.1 ids=false
 | [],p=>by simp[jG]
 | (k,b)::r,p=>by
  simp only[jG];split
  ·rename_i h;rw[cR (m:=r),Mj];constructor
   ·rintro⟨h1,h2⟩;exact⟨.inr h1,h2⟩
   ·rintro⟨rfl|h1,h2⟩
    ·rw[h] at h2;cases h2
    ·exact⟨h1,h2⟩
  ·rename_i h;rw[Mj,cR (m:=r),Mj];constructor
   ·rintro(rfl|⟨h1,h2⟩)
    ·exact⟨.inl rfl,h⟩
    ·exact⟨.inr h1,h2⟩
   ·rintro⟨rfl|h1,h2⟩
    ·exact .inl rfl
    ·exact .inr ⟨h1,h2⟩
theorem kC{ids:List Nat}:∀(m:aK),(l5 ids m).Sublist m
 | []=>by simp[l5]
 | (k,b)::r=>by
  simp only[l5];split
  ·exact(kC r).cons_cons _
  ·exact(kC r).cons _
theorem kA{ids:List Nat}:∀(m:aK),(jG ids m).Sublist m
 | []=>by simp[jG]
 | (k,b)::r=>by
  simp only[jG];split
  ·exact(kA r).cons _
  ·exact(kA r).cons_cons _
theorem w7:∀{ids:List Nat} {i j:Nat},lk (lW ids) i=some j->i=j/\yR i ids=true
 | [],i,j,h=>by simp[lW,lk] at h
 | k::r,i,j,h=>by
  simp only[lW,lk] at h;split at h
  ·rename_i e;cases h;exact⟨(Nat.eq_of_beq_eq_true e).symm,by simp only[yR,e]⟩
  ·rename_i e;obtain⟨h1,h2⟩:=w7 h;exact⟨h1,by simp only[yR,e];exact h2⟩
theorem G2:∀{ids:List Nat} {i:Nat},yR i ids=true->lk (lW ids) i=some i
 | [],i,h=>by simp[yR] at h
 | k::r,i,h=>by
  simp only[yR] at h;simp only[lW,lk];split at h
  ·rename_i e;rw[e,Nat.eq_of_beq_eq_true e]
  ·rename_i e;rw[e];exact G2 h
theorem oW:∀{ids:List Nat} {n i:Nat},El n ids=true->yR i ids=true->i<n
 | [],n,i,_,h=>by simp[yR] at h
 | k::r,n,i,h1,h=>by
  simp only[El,Mg] at h1;simp only[yR] at h;split at h
  ·rename_i e;rw[←Nat.eq_of_beq_eq_true e];exact Mh h1.1
  ·exact oW h1.2 h
theorem mZ:∀{m:aK} {ids:List Nat},xB ids m=true->∀p∈m,yR p.1 ids=true
 | [],ids,_,p,hp=>by cases hp
 | (k,b)::r,ids,h,p,hp=>by
  simp only[xB,Mg] at h;rcases Mj.1 hp with rfl|hp
  ·exact h.1
  ·exact mZ h.2 p hp
theorem aF.useI{P:Program}{Γ:List (Nat × AV)}{F:FuncId}{args args':List AV}{ms mem:aK}{ns nx:Nat}{Qs K:AV->aK->Nat->Prop}(hΓ:∀p∈Γ,NN p.2)(ids:List Nat)(h:aF P Γ F args' ms ns Qs)
  (hp:l5 ids mem=ms) (hargs:kZ ms (lW ids) args args') (hM:cX ms (lW ids) ms) (hc:(pU ms && El ns ids)=true)
  (hk:∀r m n,Qs r m n->NN r/\cX m (lW ids) m/\(pU m && xB ids m)=true/\K r (m++jG ids mem) nx):aF P Γ F args mem nx K:=by
 simp only[Mg] at hc;refine⟨fun X D ρ w vs hD hm hv=>?_⟩;have hinj:IP (lW ids):=fun i j k h1 h2=>by
  have a:=(w7 h1).1;have b:=(w7 h2).1;omega
 refine(aF.use (K:=K) (nx:=nx) hΓ h (lW ids) (m1:=ms) (rest:=jG ids mem) ⟨fun p hp'=>?_,fun p hp'=>(cR.1 hp').1,fun p hp'=>?_,fun p h1 q h2=>?_, ?_⟩ ?_ hargs hM.cvm (dK hc.1) hinj (fun id i hl=>?_) ?_).run X D ρ w vs hD hm hv
 ·rw[←hp] at hp';exact(dJ.1 hp').1
 ·cases hi:yR p.1 ids with
  | true=>left;rw[←hp];exact dJ.2 ⟨hp',hi⟩
  | false=>right;exact cR.2 ⟨hp',hi⟩
 ·rw[←hp] at h1;have a:=(dJ.1 h1).2;have b:=(cR.1 h2).2;intro e;rw[e,b] at a;cases a
 ·rw[←hp];exact hm.nod.sublist ((kC mem).map _)
 ·exact hm.nod.sublist ((kA mem).map _)
 ·obtain⟨h1,h2⟩:=w7 hl;rw[←h1];exact oW hc.2 h2
 ·intro r m n hq hn;obtain⟨h1,h2,h3,h4⟩:=hk r m n hq;simp only[Mg] at h3;refine⟨lW ids,r,m,nx,Mp _,.same r h1,h2.cvm,dK h3.1,hinj,fun i id hl=>?_,fun p h5 q h6=>?_,h4⟩
  ·obtain⟨e1,e2⟩:=w7 hl;subst e1;exact .inl ⟨oW hc.2 e2,G2 e2⟩
  ·have a:=mZ h3.2 p h5;have b:=(cR.1 h6).2;intro e;rw[e,b] at a;cases a
def o0:List (Nat × Nat)->List Nat
 | []=>[]
 | (i,_)::r=>i::o0 r
def Ay:List (Nat × Nat)->List (Nat × Nat)
 | []=>[]
 | (i,j)::r=>(j,i)::Ay r
def yM(n:Nat):List (Nat × Nat)->Bool
 | []=>true
 | (_,j)::r=>Nat.blt j n && yM n r
theorem xN:∀{σ:List (Nat × Nat)} {i j:Nat},(j,i)∈Ay σ↔(i,j)∈σ
 | [],i,j=>by simp[Ay]
 | (a,b)::r,i,j=>by
  simp only[Ay,Mj,xN (σ:=r),Prod.mk.injEq];constructor
  ·rintro(⟨rfl,rfl⟩|h)
   ·exact .inl ⟨rfl,rfl⟩
   ·exact .inr h
  ·rintro(⟨rfl,rfl⟩|h)
   ·exact .inl ⟨rfl,rfl⟩
   ·exact .inr h
theorem GP{σ:List (Nat × Nat)}(h:pW (Ay σ)=true){i j:Nat}(hm:(i,j)∈σ):lk σ i=some j:=by
 induction σ with
 | nil=>cases hm
 | cons p r ih=>
  obtain⟨a,b⟩:=p;simp only[Ay,pW,Mg] at h;simp only[lk];rcases Mj.1 hm with e|hm'
  ·cases e;simp
  ·have hne:a≠i:=by
    intro e;subst e;exact lD h.1 _ (xN.2 hm') rfl
   rw[nH hne];exact ih h.2 hm'
theorem jX:∀{σ:List (Nat × Nat)} {n:Nat},yM n σ=true->∀p∈σ,p.2<n
 | [],n,_,p,hp=>by cases hp
 | (a,b)::r,n,h,p,hp=>by
  simp only[yM,Mg] at h;rcases Mj.1 hp with rfl|hp
  ·exact Mh h.1
  ·exact jX h.2 p hp
theorem aF.useR{P:Program}{Γ:List (Nat × AV)}{F:FuncId}{args args':List AV}{ms mem m1:aK}{ns nx:Nat}{Qs K:AV->aK->Nat->Prop}(hΓ:∀p∈Γ,NN p.2)(σ:List (Nat × Nat))(h:aF P Γ F args' ms ns Qs)
  (hp:l5 (o0 σ) mem=m1) (hargs:kZ m1 σ args args') (hM:cX m1 σ ms) (hc:(pU ms && (pW σ && (pW (Ay σ) && yM ns σ)))=true)
  (hk:∀r m n,Qs r m n->∃m',NN r/\cX m (Ay σ) m'/\(pU m' && xB (o0 σ) m')=true/\K r (m'++jG (o0 σ) mem) nx):aF P Γ F args mem nx K:=by
 simp only[Mg] at hc;obtain⟨hc1,hc2,hc3,hc4⟩:=hc;refine⟨fun X D ρ w vs hD hm hv=>?_⟩;refine(aF.use (K:=K) (nx:=nx) hΓ h σ (m1:=m1) (rest:=jG (o0 σ) mem) ⟨fun p hp'=>?_,fun p hp'=>(cR.1 hp').1,fun p hp'=>?_,fun p h1 q h2=>?_, ?_⟩ ?_ hargs hM.cvm (dK hc1) (kR hc2) (fun id i hl=>jX hc4 _ (a5 hl)) ?_).run X D ρ w vs hD hm hv
 ·rw[←hp] at hp';exact(dJ.1 hp').1
 ·cases hi:yR p.1 (o0 σ) with
  | true=>left;rw[←hp];exact dJ.2 ⟨hp',hi⟩
  | false=>right;exact cR.2 ⟨hp',hi⟩
 ·rw[←hp] at h1;have a:=(dJ.1 h1).2;have b:=(cR.1 h2).2;intro e;rw[e,b] at a;cases a
 ·rw[←hp];exact hm.nod.sublist ((kC mem).map _)
 ·exact hm.nod.sublist ((kA mem).map _)
 ·intro r m n hq hn;obtain⟨m',h1,h2,h3,h4⟩:=hk r m n hq;simp only[Mg] at h3;refine⟨Ay σ,r,m',nx,Mp _,.same r h1,h2.cvm,dK h3.1,kR hc3,fun i id hl=>?_,fun p h5 q h6=>?_,h4⟩
  ·have hmem:=xN.1 (a5 hl);exact .inl ⟨jX hc4 _ hmem,GP hc3 hmem⟩
  ·have a:=mZ h3.2 p h5;have b:=(cR.1 h6).2;intro e;rw[e,b] at a;cases a
end Go.Ax
namespace Go.Ax
open Go
def Jk(w w':World):Prop:=w.heap.size<=w'.heap.size/\(∀b,b<w.heap.size->w'.heap[b]? = w.heap[b]?)/\zF w w'
theorem Jk.refl(w:World):Jk w w:=⟨Mp _,fun _ _=>rfl,.refl _⟩
section
variable {P:Program} {Γ:List (Nat × AV)} {F:FuncId} {args:List AV} {r:AV}
end
end Go.Ax
namespace Go.Ax
open Go Go.RowKit
theorem qT{P:Program}{w:World}{n:String}{g:Nat}{k:IntKind}{zs:List Int}(hg:P.globalNamed n=some g)(hv:Lib.TabIs P w n k zs) :
  VR (fun _=>⟨0,0,0⟩) (fun _=>False) (OX (fun _=>False) (fun _=>⟨0,0,0⟩) []) w (.ip (.agg (zs.map fun z=>AV.int k z))) (.pointer (some ⟨g,0,none⟩)):=by
 refine .ip _ g 0 (fun j=>.int k (zs.getD j 0)) (fun j c hj=>?_) (fun j c hj=>?_)
 ·have hj0:j<zs.length:=by have:=(Mi.1 hj).1;simpa[AV.cells] using this
  exact⟨HX _ _,by simpa using hv.cell hg j hj0,rfl⟩
 ·have hj0:j<zs.length:=by have:=(Mi.1 hj).1;simpa[AV.cells] using this
  simp[AV.cells,NV,Mf hj0] at hj;subst hj;simp[Mk,Mf hj0];exact .int _ _
end Go.Ax
namespace Go.Ax
open Go
mutual
def aU:aT->Nat
 | .mk _ _ _ kids=>1+bR kids
def bR:List aT->Nat
 | []=>0
 | v::r=>aU v+bR r
end
mutual
def fE:aT->Nat
 | .mk _ _ _ kids=>dO kids+1
def dO:List aT->Nat
 | []=>0
 | v::r=>max (fE v) (dO r)
end
theorem rE:∀(l:List aT) (v:aT),bR (l++[v])=bR l+aU v
 | [],v=>by simp[bR]
 | a::r,v=>by simp only[NO,bR,rE r v];omega
theorem r7:∀(l m:List aT),bR (l++m)=bR l+bR m
 | [],v=>by simp[bR]
 | a::r,v=>by simp only[NO,bR,r7 r v];omega
theorem uW:∀(l:List aT) (v:aT),dO (l++[v])=max (dO l) (fE v)
 | [],v=>by simp[dO]
 | a::r,v=>by simp only[NO,dO,uW r v];omega
theorem zP:∀v:aT,1<=aU v
 | .mk _ _ _ kids=>by simp only[aU];omega
theorem rH{l:List aT}{k:Nat}(h:k<l.length):bR (l.take (k+1))=bR (l.take k)+aU l[k]:=by
 rw[Mn h,rE]
theorem BH{l:List aT}{k:Nat}(h:k<l.length):dO (l.take (k+1))=max (dO (l.take k)) (fE l[k]):=by
 rw[Mn h,uW]
theorem lS(l:List aT)(k:Nat):bR (l.take k)<=bR l:=by
 have:=r7 (l.take k) (l.drop k);rw[List.take_append_drop] at this;omega
theorem Fj{l:List aT}{v:aT}(h:v∈l):aU v<=bR l:=by
 induction l with
 | nil=>cases h
 | cons a r ih=>
  simp only[bR];rcases Mj.1 h with rfl|h
  ·omega
  ·have:=ih h;omega
theorem tR(l:List aT):l.length<=bR l:=by
 induction l with
 | nil=>simp
 | cons a r ih=>simp only[bR,Ni];have:=zP a;omega
mutual
theorem lI:∀v:aT,fE v<=aU v
 | .mk _ _ _ kids=>by simp only[fE,aU];have:=nZ kids;omega
theorem nZ:∀l:List aT,dO l<=bR l
 | []=>by simp[dO]
 | v::r=>by simp only[dO,bR];have:=lI v;have:=nZ r;omega
end
def pY(c:Int):Bool:=(decide (97<=c) && decide (c<=122)) || (decide (65<=c) && decide (c<=90)) || (decide (48<=c) && decide (c<=57)) || decide (c=95)
def jR(c:Int):Bool:=decide (65<=c) && decide (c<=90)
def dI:List UInt8->Bool
 | []=>false
 | c::r=>decide (r.length<16) && jR c.toNat && r.all fun c=>pY c.toNat
theorem Cn{c:Int}(h:jR c=true):pY c=true:=by
 simp[jR,pY] at *;omega
def bY(k n:Int)(s:List UInt8)(len:Nat):Bool:=
 if k=0 then decide (s=[]) && decide (len=0)
 else if k=1 then(decide (n=0) || decide (n=1)) && decide (s=[]) && decide (len=0)
 else if k=2 then decide (n=0) && decide (s=[])
 else if k=3 then decide (n=0) && dI s
 else false
def qB(k:Int)(len:Nat):Bool:=decide (len<=256) && (decide (k≠3) || decide (len<=16))
mutual
def bJ:aT->Bool
 | .mk k n s kids=>bY k n s kids.length && cN kids
def cN:List aT->Bool
 | []=>true
 | v::r=>bJ v && cN r
end
mutual
def zL:aT->Bool
 | .mk k _ _ kids=>qB k kids.length && wI kids
def wI:List aT->Bool
 | []=>true
 | v::r=>zL v && wI r
end
def sG(k:Int)(len:Nat):Bool:=(decide (k=2) && decide (256<len)) || (decide (k=3) && decide (16<len))
mutual
def jS:aT->Bool
 | .mk k _ _ kids=>sG k kids.length || lZ kids
def lZ:List aT->Bool
 | []=>false
 | v::r=>jS v || lZ r
end
theorem Dd{k n:Int}{s:List UInt8}{len:Nat}(h:bY k n s len=true):sG k len = !qB k len:=by
 rw[NE];unfold bY at h;simp only[sG,qB,Na,Mg,M4,Bool.not_eq_true',N7,Oi,Nh];repeat' split at h
 all_goals simp at h
 all_goals omega
mutual
theorem AG:∀v:aT,bJ v=true->jS v = !zL v
 | .mk k n s kids,h=>by
  simp only[bJ,Mg] at h;rw[jS,zL,Dd h.1,vT kids h.2,Bool.not_and]
theorem vT:∀l:List aT,cN l=true->lZ l = !wI l
 | [],_=>rfl
 | v::r,h=>by
  simp only[cN,Mg] at h;rw[lZ,wI,AG v h.1,vT r h.2,Bool.not_and]
end
def d9(v:aT):Int:=if bJ v=false then 1 else if jS v=true∨1024<aU v then 4 else 0
theorem jV{l:List aT}{k:Nat}(h:k<l.length):cN (l.take (k+1))=(cN (l.take k) && bJ l[k]):=by
 rw[Mn h];generalize l.take k=m
 induction m with
 | nil=>simp[cN]
 | cons a r ih=>simp only[NO,cN,ih,Oy]
theorem DA{l:List aT}{k:Nat}(h:k<l.length):lZ (l.take (k+1))=(lZ (l.take k) || jS l[k]):=by
 rw[Mn h];generalize l.take k=m
 induction m with
 | nil=>simp[lZ]
 | cons a r ih=>simp only[NO,lZ,ih,Bool.or_assoc]
theorem jE:∀{l:List aT} {v:aT},v∈l->bJ v=false->cN l=false
 | a::r,v,h,hf=>by
  simp only[cN];rcases Mj.1 h with rfl|h
  ·rw[hf];rfl
  ·rw[jE h hf];simp
theorem zB:∀{l:List aT} {v:aT},v∈l->jS v=true->lZ l=true
 | a::r,v,h,hf=>by
  simp only[lZ];rcases Mj.1 h with rfl|h
  ·rw[hf];rfl
  ·rw[zB h hf];simp
mutual
def jO{S:Type}(st:S->aT->Nat->Bool × S):aT->Nat->S->Bool × S
 | .mk k n s kids,d,x=>match st x (.mk k n s kids) d with
  | (false,y)=>(false,y)
  | (true,y)=>kI st kids (d+1) y
def kI{S:Type}(st:S->aT->Nat->Bool × S):List aT->Nat->S->Bool × S
 | [],_,x=>(true,x)
 | v::r,d,x=>match jO st v d x with
  | (false,y)=>(false,y)
  | (true,y)=>kI st r d y
end
def cH(x:Nat × Bool × Bool)(v:aT)(_:Nat):Bool × (Nat × Bool × Bool):=
 match v with
 | .mk k n s kids=>(x.2.1 && bY k n s kids.length,(x.1+1,x.2.1 && bY k n s kids.length,x.2.2 && qB k kids.length))
mutual
theorem z7:∀(v:aT) (d n:Nat) (sm:Bool),∃n',jO cH v d (n,true,sm)=(bJ v,(n',bJ v,if bJ v then sm && zL v else(jO cH v d (n,true,sm)).2.2.2))/\n'<=n+aU v/\(bJ v=true->n'=n+aU v)
 | .mk k m s kids,d,n,sm=>by
  cases hf:bY k m s kids.length with
  | false=>
   refine⟨n+1, ?_,by simp only[aU];omega,fun h=>?_⟩
   ·simp only[jO,cH,hf,OI,bJ,Oz,Ns,if_false]
   ·simp[bJ,hf] at h
  | true=>
   obtain⟨n',h1,h2,h3⟩:=xJ kids (d+1) (n+1) (sm && qB k kids.length);refine⟨n', ?_,by simp only[aU];omega,fun h=>?_⟩
   ·simp only[jO,cH,hf,Bool.and_true,bJ,OO];rw[h1];cases cN kids with
    | true=>simp[zL,Oy]
    | false=>simp
   ·simp only[bJ,hf,OO] at h;rw[h3 h];simp only[aU];omega
theorem xJ:∀(l:List aT) (d n:Nat) (sm:Bool),∃n',kI cH l d (n,true,sm)=(cN l,(n',cN l,if cN l then sm && wI l else(kI cH l d (n,true,sm)).2.2.2))/\n'<=n+bR l/\(cN l=true->n'=n+bR l)
 | [],d,n,sm=>⟨n,by simp[kI,cN,wI],by simp,fun _=>by simp[bR]⟩
 | v::r,d,n,sm=>by
  obtain⟨n1,h1,h2,h3⟩:=z7 v d n sm;cases hf:bJ v with
  | false=>
   rw[hf] at h1;refine⟨n1, ?_,by simp only[bR];omega,fun h=>?_⟩
   ·simp only[kI,cN,hf,Oz,Ns,if_false];rw[h1]
   ·simp[cN,hf] at h
  | true=>
   rw[hf] at h1;simp only[if_true] at h1;obtain⟨n2,g1,g2,g3⟩:=xJ r d n1 (sm && zL v);refine⟨n2, ?_,by simp only[bR];omega,fun h=>?_⟩
   ·simp only[kI,cN,hf,OO];rw[h1];simp only;rw[g1];cases cN r with
    | true=>simp[wI,Oy]
    | false=>simp
   ·simp only[cN,hf,OO] at h;rw[g3 h,h3 hf];simp only[bR];omega
end
theorem Fl(v:aT):(match (jO cH v 1 (0,true,true)).2 with|(n,good,small)=>if good=false then(1:Int) else if small=false∨1024<n then 4 else 0)=d9 v:=by
 obtain⟨n',h1,h2,h3⟩:=z7 v 1 0 true;rw[h1];unfold d9;cases hf:bJ v with
 | false=>simp
 | true=>
  rw[AG v hf,h3 hf];simp
theorem fX{k n:Int}(hk:i64 k)(hn:i64 n):gC (.mk k n [] []):=by
 simp only[gC,tX];exact⟨hk,hn,by simp,by simp,trivial⟩
theorem jH{n:Int}{l:List aT}{k:Int}{s:List UInt8}(hk:i64 k)(hn:i64 n)(hs:s.length<=4294967296)(hl:l.length<=4294967296)(h:tX l):gC (.mk k n s l):=by
 simp only[gC];exact⟨hk,hn,hs,hl,h⟩
theorem qS{s:List UInt8}{a:UInt8}(h0:s[0]? = some a)(hl:s.length<=16)(hu:jR a.toNat=true)(hall:∀(j:Nat) (c:UInt8),s[j]? = some c->pY c.toNat=true):dI s=true:=by
 cases s with
 | nil=>simp at h0
 | cons b r=>
  simp at h0;subst h0;simp only[dI,Mg,M4,Nj];refine⟨⟨by simp at hl;omega,hu⟩,fun c hc=>?_⟩;obtain⟨j,hj⟩:=M9 hc;exact hall (j+1) c (by simpa using hj)
theorem oC{s:List UInt8}(h:s.length<1):dI s=false:=by
 cases s with
 | nil=>rfl
 | cons b r=>simp at h
theorem mU{s:List UInt8}(h:16<s.length):dI s=false:=by
 cases s with
 | nil=>rfl
 | cons b r=>simp only[dI];simp at h;rw[Nz om];rfl
theorem gN{s:List UInt8}{a:UInt8}(h0:s[0]? = some a)(hu:jR a.toNat=false):dI s=false:=by
 cases s with
 | nil=>rfl
 | cons b r=>simp at h0;subst h0;simp only[dI];rw[hu];simp
theorem q9{s:List UInt8}{j:Nat}{c:UInt8}(h:s[j]? = some c)(hc:pY c.toNat=false):dI s=false:=by
 cases s with
 | nil=>rfl
 | cons b r=>
  cases j with
  | zero=>
   simp at h;subst h;refine gN (a:=b) rfl ?_;cases hu:jR b.toNat with
   | false=>rfl
   | true=>rw[Cn hu] at hc;cases hc
  | succ j=>
   simp only[dI];have:(r.all fun c=>pY c.toNat)=false:=by
    rw[Nq];intro hall;rw[Nj] at hall;have:=hall c (My (by simpa using h));rw[hc] at this;cases this
   rw[this];simp
mutual
def tA(g:Nat->Nat->Nat):aT->Nat->Nat->Nat
 | .mk _ _ _ kids,d,x=>oM g kids (d+1) (g x d)
def oM(g:Nat->Nat->Nat):List aT->Nat->Nat->Nat
 | [],_,x=>x
 | v::r,d,x=>oM g r d (tA g v d x)
end
theorem zC(g:Nat->Nat->Nat):∀(l:List aT) (v:aT) (d x:Nat),oM g (l++[v]) d x=tA g v d (oM g l d x)
 | [],v,d,x=>by simp[oM]
 | a::r,v,d,x=>by simp only[NO,oM];exact zC g r v d _
theorem GC(g:Nat->Nat->Nat){l:List aT}{k:Nat}(h:k<l.length)(d x:Nat):oM g (l.take (k+1)) d x=tA g l[k] d (oM g (l.take k) d x):=by
 rw[Mn h,zC]
mutual
theorem JD{g:Nat->Nat->Nat}(hg:∀n d,g n d<=max (n+1) d):∀(v:aT) (d n:Nat),tA g v d n<=max n (d+fE v)+aU v
 | .mk k m s kids,d,n=>by
  simp only[tA,fE,aU];have h1:=hg n d;have h2:=BD hg kids (d+1) (g n d);omega
theorem BD{g:Nat->Nat->Nat}(hg:∀n d,g n d<=max (n+1) d):∀(l:List aT) (d n:Nat),oM g l d n<=max n (d+dO l)+bR l
 | [],d,n=>by simp only[oM];omega
 | v::r,d,n=>by
  simp only[oM,dO,bR];have h1:=JD hg v d n;have h2:=BD hg r d (tA g v d n);omega
end
mutual
theorem Cp:∀(v:aT) (d n:Nat),tA (fun n _=>n+1) v d n=n+aU v
 | .mk k m s kids,d,n=>by simp only[tA,aU];rw[z5];omega
theorem z5:∀(l:List aT) (d n:Nat),oM (fun n _=>n+1) l d n=n+bR l
 | [],d,n=>by simp[oM,bR]
 | v::r,d,n=>by simp only[oM,bR];rw[Cp,z5];omega
end
theorem zX{S:Type}(st:S->aT->Nat->Bool × S):∀(l:List aT) (v:aT) (d:Nat) (x:S),kI st (l++[v]) d x=match kI st l d x with|(false,y)=>(false,y)|(true,y)=>jO st v d y
 | [],v,d,x=>by
  simp only[NM,kI];cases jO st v d x with|mk b y=>cases b<;>rfl
 | a::r,v,d,x=>by
  simp only[NO,kI];cases jO st a d x with
  | mk b y=>cases b with
   | false=>rfl
   | true=>exact zX st r v d y
theorem GQ{S:Type}(st:S->aT->Nat->Bool × S){l:List aT}{k:Nat}(h:k<l.length)(d:Nat)(x y:S)(hx:kI st (l.take k) d x=(true,y)):kI st (l.take (k+1)) d x=jO st l[k] d y:=by
 rw[Mn h,zX,hx]
theorem AI{S:Type}(st:S->aT->Nat->Bool × S):∀{l m:List aT} {d:Nat} {x y:S},kI st l d x=(false,y)->kI st (l++m) d x=(false,y)
 | [],m,d,x,y,h=>by simp[kI] at h
 | a::r,m,d,x,y,h=>by
  simp only[kI] at h;simp only[NO,kI];cases he:jO st a d x with
  | mk b z=>
   rw[he] at h;cases b with
   | false=>simpa using h
   | true=>exact AI st h
theorem qX:∀{l:List aT} {v:aT},v∈l->fE v<=dO l
 | a::r,v,h=>by
  simp only[dO];rcases Mj.1 h with rfl|h
  ·omega
  ·have:=qX h;omega
theorem pZ:∀(l m:List aT),dO (l++m)=max (dO l) (dO m)
 | [],m=>by simp[dO]
 | a::r,m=>by simp only[NO,dO,pZ r m];omega
theorem vY(l:List aT)(k:Nat):dO (l.take k)<=dO l:=by
 have:=pZ (l.take k) (l.drop k);rw[List.take_append_drop] at this;omega
mutual
theorem Il:∀(v:aT) (d:Nat) (x:Nat × Bool × Bool),(jO cH v d x).2.1<=x.1+aU v
 | .mk k n s kids,d,x=>by
  simp only[jO,cH,aU];split
  ·rename_i h;simp only[Prod.mk.injEq] at h;rw[←h.2];simp only;omega
  ·rename_i h;simp only[Prod.mk.injEq] at h;rw[←h.2];have:=wE kids (d+1) (x.1+1,x.2.1 && bY k n s kids.length,x.2.2 && qB k kids.length);simp only at this;omega
theorem wE:∀(l:List aT) (d:Nat) (x:Nat × Bool × Bool),(kI cH l d x).2.1<=x.1+bR l
 | [],d,x=>by simp[kI]
 | v::r,d,x=>by
  simp only[kI,bR];have h1:=Il v d x;split
  ·rename_i y h;rw[h] at h1;simp only at h1 ⊢;omega
  ·rename_i y h;rw[h] at h1;have:=wE r d y;simp only at h1;omega
end
structure Nd where
 kind:Int
 name:List UInt8
 lo:Int
 hi:Int
 weights:List Int
 labels:List (List UInt8)
 values:List aT
 kids:List Int
 value:aT
def vX(l:List (List UInt8)):List AV:=l.map AV.str
def bN(x:Nd):AV:=
 match x.value with
 | .mk k n s ks=>.agg [.int .i64 x.kind,.str x.name,.int .i64 x.lo,.int .i64 x.hi,.il 1 (aX x.weights),.il 1 (vX x.labels),.il 4 (aO x.values),.il 1 (aX x.kids),.int .i64 k,.int .i64 n,.str s,.il 4 (aO ks)]
def a7(l:List Nd):List AV:=l.map bN
theorem vL(l:List (List UInt8)):jK (vX l):=fun a ha=>by
 obtain⟨n,_,rfl⟩:=Mz.1 ha;exact .str _
theorem bA(l:List (List UInt8)):(vX l).length=l.length:=by rw[vX,Ny]
theorem aQ(x:Nd):NN (bN x):=by
 unfold bN;split;exact .agg' (.cons (.int _ _) (.cons (.str _) (.cons (.int _ _) (.cons (.int _ _) (.cons (.il' (aS _)) (.cons (.il' (vL _)) (.cons (.il' (aY _)) (.cons (.il' (aS _)) (.cons (.int _ _) (.cons (.int _ _) (.cons (.str _) (.cons (.il' (aY _)) .nil))))))))))))
theorem aR(l:List Nd):jK (a7 l):=fun a ha=>by
 obtain⟨n,_,rfl⟩:=Mz.1 ha;exact aQ n
theorem cE(l:List Nd):(a7 l).length=l.length:=by rw[a7,Ny]
theorem mD(l:List Nd)(i:Nat):(a7 l)[i]? = (l[i]?).map bN:=by rw[a7,NV]
structure oH(x:Nd):Prop where
 kind:i64 x.kind
 name:x.name.length<=4294967296
 lo:i64 x.lo
 hi:i64 x.hi
 weights:x.weights.length<=4294967296
 weightsI:∀w∈x.weights,i64 w
 labels:x.labels.length<=4294967296
 labelsI:∀w∈x.labels,w.length<=4294967296
 values:x.values.length<=4294967296
 valuesI:∀v∈x.values,gC v/\aU v<=4294967296
 kids:x.kids.length<=4294967296
 kidsI:∀k∈x.kids,i64 k
 value:gC x.value
 valueS:aU x.value<=4294967296
def xI:aT->Bool
 | .mk k n s ks=>decide (k=0) && decide (n=0) && decide (s=[]) && decide (ks.length=0)
def gK(x:Nd):Bool:=
 (decide (x.kind=0) || xI x.value) && (decide (x.kind=1) || (decide (x.lo=0) && decide (x.hi=0))) && (decide (x.kind=3) || decide (x.name=[])) &&
 (decide (x.kind=2) || (decide (x.weights.length=0) && decide (x.labels.length=0))) && (decide (x.kind=4) || decide (x.values.length=0)) && ((decide (x.kind≠0) && decide (x.kind≠1)) || decide (x.kids.length=0))
def cW:List aT->Bool
 | a::b::r=>decide (bU a b<0) && cW (b::r)
 | _=>true
def jM(i:Int)(l:List Int):Bool:=l.all fun k=>decide (0<=k) && decide (k<i)
def cK(i:Int)(x:Nd):Bool:=
 gK x && (decide (0<=x.kind) && decide (x.kind<=4)) && jM i x.kids &&
 (decide (x.kind≠2) || (decide (1<=x.kids.length) && decide (x.kids.length<=256) && decide (x.weights.length=x.kids.length) && (decide (x.labels.length=0) || decide (x.labels.length=x.kids.length)))) &&
 (decide (x.kind≠3) || (decide (x.kids.length<=256) && (decide (x.name=[]) || (dI x.name && decide (x.kids.length<=16))))) &&
 (decide (x.kind≠4) || decide (x.kids.length=x.values.length+1)) && cW x.values
def cZ(x:Nd):Bool:=
 decide (x.lo<=x.hi) && decide (-4611686018427387904<=x.lo) && decide (x.hi<=4611686018427387904) && decide (x.hi<x.lo+1099511627776) && x.weights.all fun w=>decide (1<=w) && decide (w<=1000)
def c7:List aT->Int
 | []=>0
 | v::r=>if d9 v≠0 then d9 v else c7 r
def k6(x:Nd):List aT:=(if x.kind=0 then [x.value] else [])++x.values
def d8(i:Int)(x:Nd):Int:=
 if cK i x=false then 1 else if c7 (k6 x)≠0 then c7 (k6 x) else if cZ x=false then 5 else 0
def eB(l:List Int)(k:Int):Int:=l.getD k.toNat 0
def eU(before kids:List Int):Int:=kids.foldl (fun s k=>s+eB before k) 0
def bZ(before kids:List Int):Int:=kids.foldl (fun s k=>max s (eB before k)) 0
def fT(x:Nd):List Int:=if x.kind=2 then x.kids else x.kids.drop 1
def f9(before:List Int)(x:Nd):Int:=
 if x.kind=0 then 0 else if x.kind=1 then 1 else if x.kind=3 then eU before x.kids else if x.kind=2 then 1+bZ before (fT x) else eB before (x.kids.getD 0 0)+bZ before (fT x)
def iH(before:List Int)(x:Nd):Int:=
 if x.kind=0 then aU x.value else if x.kind=1 then 1 else if x.kind=3 then 1+eU before x.kids else bZ before (fT x)
structure fK where
 vals:List aT
 many:Bool
def dQ(name:List UInt8)(kids:List aT):aT:=if name=[] then .mk 2 0 [] kids else .mk 3 0 name kids
def cP(l:List fK)(k:Int):fK:=l.getD k.toNat ⟨[],false⟩
def fP(lo hi:Int):List aT:=(List.range (hi+1-lo).toNat).map fun i:Nat=>.mk 0 (lo+(i:Int)) [] []
def bF(before:List fK)(x:List aT × Bool)(k:Int):List aT × Bool:=
 (dD (x.1++(cP before k).vals),x.2 || (cP before k).many || decide (1024<(dD (x.1++(cP before k).vals)).length))
def jZ(before:List fK)(kids:List Int):fK:=
 if (kids.foldl (bF before) ([],false)).2 then⟨[],true⟩ else⟨(kids.foldl (bF before) ([],false)).1,false⟩
def eY(rows:List (List aT))(l:List aT):List (List aT):=rows.flatMap fun r=>l.map fun v=>r++[v]
def eE(before:List fK):List Int->List (List aT)->Option (List (List aT))
 | [],rows=>some rows
 | k::r,rows=>if (cP before k).many=true∨1024<rows.length*(cP before k).vals.length then none else eE before r (eY rows (cP before k).vals)
def mF(before:List fK)(x:Nd):fK:=
 match eE before x.kids [[]] with
 | none=>⟨[],true⟩
 | some rows=>⟨dD (rows.map (dQ x.name)),false⟩
def cM(x:Nd)(before:List fK):fK:=
 if x.kind=0 then⟨[x.value],false⟩
 else if x.kind=1 then(if 1024<=x.hi-x.lo then⟨[],true⟩ else⟨fP x.lo x.hi,false⟩)
 else if x.kind=3 then mF before x
 else jZ before (if x.kind=4 then x.kids.drop 1 else x.kids)
def aJ(nodes:List Nd):List fK:=nodes.foldl (fun out x=>out++[cM x out]) []
def cS:List aT->List aT->Bool
 | [],[]=>true
 | a::l,b::m=>decide (bU a b=0) && cS l m
 | _,_=>false
def fO(nodes:List Nd)(x:Nd):Int:=
 let l:=cP (aJ (nodes.take ((x.kids.getD 0 0).toNat+1))) (x.kids.getD 0 0)
 if l.many=true then 4 else if cS l.vals x.values=true then 0 else 1
def e6(before:List Nd)(ls ss:List Int)(x:Nd):Int:=
 if d8 before.length x≠0 then d8 before.length x
 else if 256<f9 ls x∨1024<iH ss x then 4
 else if x.kind=4 then fO before x else 0
def bX(nodes:List Nd):List Int:=nodes.foldl (fun ls x=>ls++[f9 ls x]) []
def bT(nodes:List Nd):List Int:=nodes.foldl (fun ls x=>ls++[iH ls x]) []
def bM:List Nd->List Nd->Int
 | _,[]=>0
 | before,x::r=>if e6 before (bX before) (bT before) x≠0 then e6 before (bX before) (bT before) x else bM (before++[x]) r
def bD(nodes:List Nd):Int:=if 4096<nodes.length then 4 else bM [] nodes
theorem eG:∀(b l:List Nd) (x:Nd),bM b l=0->bM b (l++[x])=e6 (b++l) (bX (b++l)) (bT (b++l)) x
 | b,[],x,h=>by
  simp only[NM,bM,N9];split
  ·rfl
  ·rename_i h1;simpa using (Eq.symm (Decidable.not_not.1 h1))
 | b,y::r,x,h=>by
  simp only[NO,bM] at h ⊢;split at h
  ·rename_i h1;exact absurd h h1
  ·rename_i h1;rw[Mm h1,eG (b++[y]) r x h];simp
theorem iX(l:List Nd)(x:Nd):bX (l++[x])=bX l++[f9 (bX l) x]:=by simp[bX]
theorem iS(l:List Nd)(x:Nd):bT (l++[x])=bT l++[iH (bT l) x]:=by simp[bT]
theorem f0(l:List Nd)(x:Nd):aJ (l++[x])=aJ l++[cM x (aJ l)]:=by simp[aJ]
def iM(n most:Int):Int:=(if n<0 then -(n+1) else n).tmod most
def iL(l:List Int)(i most:Int):Int:=if i<0∨(l.length:Int)<=i then 0 else iM (l.getD i.toNat 0) most
theorem gF{n most:Int}(h:1<=most):0<=iM n most/\iM n most<most:=by
 unfold iM;have h0:0<=(if n<0 then -(n+1) else n):=by split<;>omega
 exact⟨N0 _ h0,Nu _ om⟩
theorem gR{l:List Int}{i most:Int}(h:1<=most):0<=iL l i most/\iL l i most<most:=by
 unfold iL;split
 ·omega
 ·exact gF h
def qC(k:Int):aT:=
 if k.tmod 4=0 then .mk 0 ((k.tdiv 4).tmod 9-4) [] []
 else if k.tmod 4=1 then .mk 1 ((k.tdiv 4).tmod 2) [] []
 else if k.tmod 4=2 then .mk 3 0 (([[76,101,97,102],[82,101,100],[88]]:List (List UInt8)).getD ((k.tdiv 4).tmod 3).toNat []) []
 else .mk 2 0 [] [.mk 0 ((k.tdiv 4).tmod 3) [] []]
def lO(l:List Int)(i j:Int):Int:=
 if (iL l (3*i+j+2) 1000000).tmod 3=0 then((iL l (3*i+j+2) 1000000).tdiv 3).tmod i else max 0 (i-1-((iL l (3*i+j+2) 1000000).tdiv 3).tmod 3)
theorem gQ:∀{l:List aT},(∀(j:Nat) (a b:aT),l[j]? = some a->l[j+1]? = some b->bU a b<0)->cW l=true
 | [],_=>rfl
 | [a],_=>rfl
 | a::b::r,h=>by
  simp only[cW,Mg,M4];exact⟨h 0 a b rfl rfl,gQ fun j x y hx hy=>h (j+1) x y (by simpa using hx) (by simpa using hy)⟩
theorem gM:∀{l:List aT},cW l=true->∀(j:Nat) (a b:aT),l[j]? = some a->l[j+1]? = some b->bU a b<0
 | [],_,j,a,b,h1,h2=>by simp at h1
 | [x],_,j,a,b,h1,h2=>by simp at h2
 | x::y::r,h,j,a,b,h1,h2=>by
  simp only[cW,Mg,M4] at h;cases j with
  | zero=>simp at h1 h2;subst h1 h2;exact h.1
  | succ j=>exact gM h.2 j a b (by simpa using h1) (by simpa using h2)
theorem c8{i:Int}{l:List Int}:jM i l=true↔∀(j:Nat) (k:Int),l[j]? = some k->0<=k/\k<i:=by
 simp only[jM,Nj,Mg,M4];constructor
 ·intro h j k hj;exact h k (My hj)
 ·intro h k hk;obtain⟨j,hj⟩:=M9 hk;exact h j k hj
theorem wP:∀{l m:List aT},l.length≠m.length->cS l m=false
 | [],[],h=>absurd rfl h
 | [],_::_,_=>rfl
 | _::_,[],_=>rfl
 | a::l,b::m,h=>by
  rw[cS,wP (l:=l) (m:=m) (by simpa using h),OI]
theorem o8{b l:List Int}{k:Nat}(h:k<l.length):eU b (l.take (k+1))=eU b (l.take k)+eB b l[k]:=by
 unfold eU;rw[Mn h,Nk];rfl
theorem mI{b l:List Int}{k:Nat}(h:k<l.length):bZ b (l.take (k+1))=max (bZ b (l.take k)) (eB b l[k]):=by
 unfold bZ;rw[Mn h,Nk];rfl
theorem kU{b l:List Int}{k:Nat}(h:k<l.length)(hk:0<k):bZ b ((l.take (k+1)).drop 1)=max (bZ b ((l.take k).drop 1)) (eB b l[k]):=by
 rw[Mn h,Oj (by simp;omega)];simp[bZ]
theorem iY{b:List Int}{M:Int}(hM:0<=M)(h:∀x∈b,0<=x/\x<=M)(q:Int):0<=eB b q/\eB b q<=M:=by
 unfold eB;rw[Mk];cases hq:b[q.toNat]? with
 | none=>simp;omega
 | some x=>exact h x (My hq)
theorem pJ(b:List Int):∀(l:List Int) (s:Int),l.foldl (fun s k=>s+eB b k) s=s+eU b l
 | [],s=>by simp[eU]
 | a::r,s=>by
  simp only[NG,eU];rw[pJ b r,pJ b r (0+eB b a)];simp[eU];omega
theorem fU{b:List Int}{M:Int}(hM:0<=M)(h:∀x∈b,0<=x/\x<=M):∀l:List Int,0<=eU b l/\eU b l<=l.length*M
 | []=>by simp[eU]
 | a::r=>by
  have h1:=fU hM h r;have h2:=iY hM h a;have e:eU b (a::r)=eB b a+eU b r:=by simp only[eU,NG];rw[pJ b r];simp[eU]
  rw[e];simp only[Ni];have:((r.length+1:Nat):Int)*M=r.length*M+M:=by rw[Int.natCast_add,Int.add_mul];simp
  omega
theorem z6(b:List Int){M:Int}(h:∀q,0<=eB b q/\eB b q<=M):∀(l:List Int) (s:Int),0<=s->s<=M->0<=l.foldl (fun s k=>max s (eB b k)) s/\l.foldl (fun s k=>max s (eB b k)) s<=M
 | [],s,h1,h2=>⟨h1,h2⟩
 | a::r,s,h1,h2=>by
  have:=h a;simp only[NG];exact z6 b h r (max s (eB b a)) om om
theorem gX{b:List Int}{M:Int}(hM:0<=M)(h:∀x∈b,0<=x/\x<=M)(l:List Int):0<=bZ b l/\bZ b l<=M:=
 z6 b (iY hM h) l 0 om hM
theorem aF.useApp{P:Program}{Γ:List (Nat × AV)}{F:FuncId}{args args':List AV}{mem:aK}{nx:Nat}{t:TypeId}{sz:Nat}{xs:List AV}{R:Nat->List AV->Prop}{K:AV->aK->Nat->Prop}(hΓ:∀p∈Γ,NN p.2)
  (h:aF P Γ F args' [(0,.row t sz xs)] 1 fun r m _=>∃(len:Nat) (ys:List AV),r = .sl 1 0 len/\m=[(1,.row t sz ys)]/\jK ys/\R len ys) (g:Nat) (hg:lk mem g=some (.row t sz xs)) (hx:jK xs) (hargs:kZ [(g,.row t sz xs)] [(g,0)] args args')
  (hk:∀len ys,R len ys->AF g mem fun rest=>K (.sl nx 0 len) ((nx,.row t sz ys)::rest) (nx+1)):aF P Γ F args mem nx K:=by
 refine⟨fun X D ρ w vs hD hm hv=>?_⟩;refine(aF.use (K:=K) (nx:=nx) hΓ h [(g,0)] (m1:=[(g,.row t sz xs)]) (rest:=drop g mem) ⟨fun p hp=>?_,fun p hp=>b9 hp,fun p hp=>?_,fun p hp q hq=>?_,by simp⟩ (gL hm.nod) hargs (fun p hp=>?_) (by simp) (kR (by rfl)) (fun id i hl=>?_) ?_).run X D ρ w vs hD hm hv
 ·simp at hp;subst hp;exact a5 hg
 ·by_cases hpg:p.1=g
  ·left;have:=mT hm.nod hp (a5 hg) hpg;rw[this];simp
  ·exact .inr (nY hp hpg)
 ·simp at hp;subst hp;exact Ne.symm (mR hm.nod hq)
 ·simp at hp;subst hp;exact .inl ⟨g,t,sz,xs,xs,rfl,by simp[lk],by simp[lk],.same hx⟩
 ·have:=a5 hl;simp at this;omega
 ·rintro r m n ⟨len,ys,rfl,rfl,hn,hR⟩ _;refine⟨[(1,nx)],.sl nx 0 len,[(nx,.row t sz ys)],nx+1,OD _,.sl 1 nx 0 len (by simp[lk]),fun p hp=>?_,by simp,kR (by rfl),fun i id hl=>?_,fun p hp q hq=>?_,pB.1 (hk len ys hR)⟩
  ·simp at hp;subst hp;exact .inl ⟨1,t,sz,ys,ys,rfl,by simp[lk],by simp[lk],.same hn⟩
  ·have:=a5 hl;simp at this;obtain⟨rfl,rfl⟩:=this;exact .inr ⟨Mp _,Mp _,Np _⟩
  ·simp at hp;subst hp;have:=hD _ (hm.low q (b9 hq));simp only;omega
def iU(x:fK):AV:=.agg [.il 4 (aO x.vals),.bool x.many]
def bE(l:List fK):List AV:=l.map iU
theorem jU(x:fK):NN (iU x):=.agg' (.cons (.il' (aY _)) (.cons (.bool _) .nil))
theorem aW(l:List fK):jK (bE l):=fun a ha=>by
 obtain⟨n,_,rfl⟩:=Mz.1 ha;exact jU n
theorem m7(l:List fK):(bE l).length=l.length:=by rw[bE,Ny]
theorem iV(l:List fK)(i:Nat):(bE l)[i]? = (l[i]?).map iU:=by rw[bE,NV]
def nI(lo:Int)(k:Nat):List aT:=(List.range k).map fun i:Nat=>.mk 0 (lo+(i:Int)) [] []
theorem uR(lo:Int)(k:Nat):nI lo (k+1)=nI lo k++[.mk 0 (lo+(k:Int)) [] []]:=by simp[nI,Ov]
theorem y5(lo:Int)(k:Nat):(nI lo k).length=k:=by simp[nI]
theorem aF.useNew{P:Program}{Γ:List (Nat × AV)}{F:FuncId}{args:List AV}{mem:aK}{nx:Nat}{t:TypeId}{sz len:Nat}{ys:List AV}{K:AV->aK->Nat->Prop}(hΓ:∀p∈Γ,NN p.2)
  (h:aF P Γ F args [] 0 fun r m n=>r = .sl 0 0 len/\m=[(0,.row t sz ys)]/\n=1) (ha:jK args) (hn:jK ys) (hk:K (.sl nx 0 len) ((nx,.row t sz ys)::mem) (nx+1)):aF P Γ F args mem nx K:=by
 refine⟨fun X D ρ w vs hD hm hv=>?_⟩;refine(aF.use (K:=K) (nx:=nx) hΓ h [] (m1:=[]) (rest:=mem) ⟨(fun p hp=>by cases hp),fun p hp=>hp,fun p hp=>.inr hp,(fun p hp=>by cases hp),by simp⟩ hm.nod (v5 ha) (fun p hp=>by cases hp) (by simp) (fun i j k h=>by simp[lk] at h) (fun id i h=>by simp[lk] at h) ?_).run X D ρ w vs hD hm hv;rintro r m n ⟨rfl,rfl,rfl⟩ _;refine⟨[(0,nx)],.sl nx 0 len,[(nx,.row t sz ys)],nx+1,OD _,.sl 0 nx 0 len (by simp[lk]),fun p hp=>?_,by simp,kR (by rfl),fun i id hl=>?_,fun p hp q hq=>?_,hk⟩
 ·simp at hp;subst hp;exact .inl ⟨0,t,sz,ys,ys,rfl,by simp[lk],by simp[lk],.same hn⟩
 ·have:=a5 hl;simp at this;obtain⟨rfl,rfl⟩:=this;exact .inr ⟨OR _,Mp _,Np _⟩
 ·simp at hp;subst hp;have:=hD _ (hm.low q hq);simp only;omega
theorem pC{bs:List fK}(hb:∀b∈bs,b.vals.length<=1024/\∀v∈b.vals,gC v):∀(l:List Int) (a:List aT × Bool) (n:Nat),a.1.length<=n->(∀v∈a.1,gC v) ->
  (l.foldl (bF bs) a).1.length<=n+l.length*1024/\∀v∈(l.foldl (bF bs) a).1,gC v
 | [],a,n,h1,h2=>⟨by simpa using h1,h2⟩
 | q::r,a,n,h1,h2=>by
  have hq:(cP bs q).vals.length<=1024/\∀v∈(cP bs q).vals,gC v:=by
   unfold cP;rw[Mk];cases hc:bs[q.toNat]? with
   | none=>simp
   | some b=>exact hb b (My hc)
  have hs:=nK (a.1++(cP bs q).vals);simp only[NJ] at hs;have:=pC hb r (bF bs a q) (n+1024) (by simp only[bF];omega) (fun v hv=>by
   have:=l4 hv;rcases Mv.1 this with h|h
   ·exact h2 v h
   ·exact hq.2 v h)
  simp only[NG,Ni];refine⟨by have:=this.1;omega,this.2⟩
theorem Dx{α β:Type}(f:β->α->β){l:List α}{k:Nat}(h:k<l.length)(a:β):(l.take (k+1)).foldl f a=f ((l.take k).foldl f a) l[k]:=by
 rw[Mn h,Nk];rfl
theorem DF{α β:Type}(f:β->α->β){l:List α}{k:Nat}(h:k<l.length)(hk:0<k)(a:β):((l.take (k+1)).drop 1).foldl f a=f (((l.take k).drop 1).foldl f a) l[k]:=by
 rw[Mn h,Oj (by simp;omega),Nk];rfl
theorem eQ{α:Type}{P:List α->Prop}(h0:P [])(h1:∀(l:List α) (x:α),P l->P (l++[x]))(l:List α):P l:=by
 rw[←List.reverse_reverse l]
 induction l.reverse with
 | nil=>exact h0
 | cons a r ih=>rw[OU];exact h1 _ _ ih
structure gW(i:Nat)(x:Nd):Prop where
 ok:oH x
 kind:0<=x.kind/\x.kind<=4
 kids:∀(j:Nat) (k:Int),x.kids[j]? = some k->0<=k/\k<i
 klen:x.kids.length<=65536
 num:cZ x=true
def zG(bs:List fK):Prop:=∀b∈bs,b.vals.length<=1024/\∀v∈b.vals,gC v
theorem eR{x:Nd}(h:cZ x=true):x.lo<=x.hi/\-4611686018427387904<=x.lo/\x.hi<=4611686018427387904/\x.hi<x.lo+1099511627776:=by
 unfold cZ at h;simp only[Mg,M4] at h;exact⟨h.1.1.1.1,h.1.1.1.2,h.1.1.2,h.1.2⟩
theorem pD{rows:List (List aT)}{l:List aT}{r:List aT}(h:r∈eY rows l):∃r'∈rows,∃v∈l,r=r'++[v]:=by
 simp only[eY,List.mem_flatMap,Mz] at h;obtain⟨r',h1,v,h2,rfl⟩:=h;exact⟨r',h1,v,h2,rfl⟩
theorem pM(l:List aT):∀rows:List (List aT),(eY rows l).length=rows.length*l.length
 | []=>by simp[eY]
 | r::rs=>by
  have:=pM l rs;simp only[eY,OV,NJ,Ny,Ni,Nat.add_mul,Nv] at this ⊢;omega
theorem oE{bs:List fK}(hb:zG bs)(k:Int):(cP bs k).vals.length<=1024/\∀v∈(cP bs k).vals,gC v:=by
 unfold cP;rw[Mk];cases h:bs[k.toNat]? with
 | none=>simp
 | some b=>exact hb b (My h)
theorem xM{bs:List fK}(hb:zG bs):∀(kids:List Int) (rows out:List (List aT)) (n:Nat),rows.length<=1024->(∀r∈rows,r.length<=n/\∀v∈r,gC v)->eE bs kids rows=some out->out.length<=1024/\∀r∈out,r.length<=n+kids.length/\∀v∈r,gC v
 | [],rows,out,n,h1,h2,h=>by
  simp only[eE] at h;cases h;exact⟨h1,fun r hr=>⟨by simpa using (h2 r hr).1,(h2 r hr).2⟩⟩
 | k::ks,rows,out,n,h1,h2,h=>by
  simp only[eE] at h;split at h
  ·cases h
  ·rename_i hc;rw[not_or] at hc;have hg:=oE hb k;obtain⟨a,b⟩:=xM hb ks _ out (n+1) (by rw[pM];omega) (fun r hr=>by
    obtain⟨r',h3,v,h4,rfl⟩:=pD hr;refine⟨by have:=(h2 r' h3).1;simp;omega,fun u hu=>?_⟩;rcases Mv.1 hu with hu|hu
    ·exact(h2 r' h3).2 u hu
    ·simp at hu;rw[hu];exact hg.2 v h4) h
   exact⟨a,fun r hr=>⟨by have:=(b r hr).1;simp;omega,(b r hr).2⟩⟩
theorem GL{name:List UInt8}(hn:name.length<=4294967296){r:List aT}(hr:r.length<=4294967296)(ho:∀v∈r,gC v):gC (dQ name r):=by
 unfold dQ;split
 ·exact jH ⟨om,om⟩ ⟨om,om⟩ (by simp) hr (rX ho)
 ·exact jH ⟨om,om⟩ ⟨om,om⟩ hn hr (rX ho)
theorem zR{bs:List fK}:∀(l:List Int) (a:List aT × Bool),(a.2=false->a.1.length<=1024)->(l.foldl (bF bs) a).2=false->(l.foldl (bF bs) a).1.length<=1024
 | [],a,h,h2=>h h2
 | k::r,a,h,h2=>by
  refine zR r (bF bs a k) (fun h3=>?_) h2;simp only[bF,Oi,Nh] at h3 ⊢;omega
theorem Dm{x:Nd}{i:Nat}{bs:List fK}(hx:gW i x)(hb:zG bs):(cM x bs).vals.length<=1024/\∀v∈(cM x bs).vals,gC v:=by
 unfold cM;have hnum:=eR hx.num;split
 ·exact⟨by simp,fun v hv=>by simp at hv;rw[hv];exact hx.ok.value⟩
 ·split
  ·split
   ·simp
   ·refine⟨by simp[fP];omega,fun v hv=>?_⟩;simp only[fP,Mz,OT] at hv;obtain⟨j,hj,rfl⟩:=hv;exact fX ⟨om,om⟩ ⟨om,om⟩
  ·split
   ·unfold mF;split
    ·simp
    ·rename_i rows hr;obtain⟨h1,h2⟩:=xM hb x.kids [[]] rows 0 (by simp) (by simp) hr;refine⟨by have:=nK (rows.map (dQ x.name));simp at this ⊢;omega,fun v hv=>?_⟩;have:=l4 hv;obtain⟨r,hr2,rfl⟩:=Mz.1 this;have h3:=h2 r hr2;have:=hx.klen;exact GL hx.ok.name om h3.2
   ·generalize (if x.kind=4 then x.kids.drop 1 else x.kids)=ks;unfold jZ;split
    ·simp
    ·rename_i hm;have hm:(ks.foldl (bF bs) ([],false)).2=false:=by simpa using hm
     exact⟨zR _ _ (by simp) hm,(pC hb _ ([],false) 0 (by simp) (by simp)).2⟩
theorem dP(l:List Nd):(aJ l).length=l.length:=by
 refine eQ (P:=fun l=>(aJ l).length=l.length) rfl (fun l x ih=>?_) l;rw[f0];simp[ih]
theorem jF(l:List Nd):(∀(i:Nat) (x:Nd),l[i]? = some x->gW i x)->zG (aJ l):=by
 refine eQ (P:=fun l=>(∀(i:Nat) (x:Nd),l[i]? = some x->gW i x)->zG (aJ l)) (fun _ b hb=>by simp[aJ] at hb) (fun l x ih h=>?_) l;have h1:=ih fun i y hy=>h i y (by
  have:=(Mi.1 hy).1;rw[M6 this];exact hy)
 have h2:=h l.length x (by simp);rw[f0];intro b hb;rcases Mv.1 hb with hb|hb
 ·exact h1 b hb
 ·simp at hb;rw[hb];exact Dm h2 h1
theorem yC:∀(b l r:List Nd),bM b l=0->bM b (l++r)=bM (b++l) r
 | b,[],r,_=>by simp
 | b,y::l,r,h=>by
  simp only[NO,bM] at h ⊢;split at h
  ·rename_i h1;exact absurd h h1
  ·rename_i h1;rw[Mm h1,yC (b++[y]) l r h];simp
theorem fV{l r:List Nd}(h:bM [] (l++r)=0):bM [] l=0:=by
 have key:∀(l b:List Nd),bM b (l++r)=0->bM b l=0:=by
  intro l
  induction l with
  | nil=>intro b _;rfl
  | cons y l ih=>
   intro b h;simp only[NO,bM] at h ⊢;split at h
   ·rename_i h1;exact absurd h h1
   ·rename_i h1;rw[Mm h1];exact ih _ h
 exact key l [] h
theorem uJ{l r:List Nd}{x:Nd}(h:bM [] l=0)(hs:e6 l (bX l) (bT l) x≠0):bM [] (l++x::r)=e6 l (bX l) (bT l) x:=by
 rw[yC _ _ _ h];simp only[NM,bM];rw[Mr hs]
theorem jB:∀{l m:List aT},cS l m=true->l.length=m.length
 | [],[],_=>rfl
 | a::l,b::m,h=>by
  simp only[cS,Mg] at h;simp[jB h.2]
 | [],b::m,h=>by simp[cS] at h
 | a::l,[],h=>by simp[cS] at h
structure A4(i:Nat)(x:Nd):Prop where
 kind:0<=x.kind/\x.kind<=4
 kids:∀(j:Nat) (k:Int),x.kids[j]? = some k->0<=k/\k<i
 num:cZ x=true
 klen:x.kind≠4->x.kids.length<=256
 bind:x.kind=4->x.kids.length=x.values.length+1
theorem i8{i:Nat}{x:Nd}(h:d8 i x=0):A4 i x:=by
 unfold d8 at h;split at h
 ·omega
 ·rename_i hf;split at h
  ·rename_i h1;exact absurd h h1
  ·split at h
   ·omega
   ·rename_i hn;have hn:cZ x=true:=by simpa using hn
    have hf:cK i x=true:=by simpa using hf
    unfold cK at hf;simp only[Mg,Na,M4] at hf;obtain⟨⟨⟨⟨⟨⟨hu,hk⟩,hki⟩,h2⟩,h3⟩,h4⟩,_⟩:=hf;refine⟨hk,c8.1 hki,hn,fun hne=>?_,fun he=>om⟩;unfold gK at hu;simp only[Mg,Na,M4] at hu;rcases(show x.kind=0∨x.kind=1∨x.kind=2∨x.kind=3 by omega) with e|e|e|e
    ·have:=hu.2;omega
    ·have:=hu.2;omega
    ·rcases h2 with h2|h2
     ·omega
     ·exact h2.1.1.2
    ·rcases h3 with h3|h3
     ·omega
     ·exact h3.1
theorem eJ{before:List Nd}{ls ss:List Int}{x:Nd}(h:e6 before ls ss x=0):d8 before.length x=0/\f9 ls x<=256/\iH ss x<=1024/\(x.kind=4->fO before x=0):=by
 unfold e6 at h;split at h
 ·rename_i h1;exact absurd h h1
 ·rename_i h1;split at h
  ·omega
  ·rename_i h2;rw[not_or] at h2;refine⟨by simpa using h1,om,om,fun e=>?_⟩;rw[Mr e] at h;exact h
theorem iK{α:Type}{l:List α}{n i:Nat}{x:α}(h:(l.take n)[i]? = some x):l[i]? = some x/\i<n:=by
 rw[NA] at h;split at h
 ·rename_i hi;exact⟨h,hi⟩
 ·cases h
theorem GR{before:List Nd}{x:Nd}(hg:∀(j:Nat) (y:Nd),before[j]? = some y->gW j y)(h:fO before x=0):x.values.length<=1024:=by
 unfold fO at h;simp only at h;split at h
 ·omega
 ·split at h
  ·rename_i hs;have:=jB hs;have hgl:=jF (before.take ((x.kids.getD 0 0).toNat+1)) fun i y hy=>hg i y (iK hy).1
   have:=(oE hgl (x.kids.getD 0 0)).1;omega
  ·omega
theorem GE{before:List Nd}{ls ss:List Int}{x:Nd}(hg:∀(j:Nat) (y:Nd),before[j]? = some y->gW j y)(ho:oH x)(h:e6 before ls ss x=0):gW before.length x:=by
 obtain⟨h1,h2,h3,h4⟩:=eJ h;have hn:=i8 h1;refine⟨ho,hn.kind,hn.kids, ?_,hn.num⟩;by_cases e:x.kind=4
 ·have:=hn.bind e;have:=GR hg (h4 e);omega
 ·have:=hn.klen e;omega
theorem i7(ns:List Nd)(ho:∀x∈ns,oH x)(h:bM [] ns=0):∀(j:Nat) (x:Nd),ns[j]? = some x->gW j x:=by
 refine eQ (P:=fun ns=>(∀x∈ns,oH x)->bM [] ns=0->∀(j:Nat) (x:Nd),ns[j]? = some x->gW j x) (fun _ _ j x hx=>by simp at hx) (fun l x ih ho h=>?_) ns ho h;have h1:=fV h;have ih:=ih (fun y hy=>ho y (M3 _ hy)) h1;have hs:=eG [] l x h1;rw[h] at hs;simp only[NM] at hs;have hg:=GE ih (ho x (by simp)) hs.symm;intro j y hy;rcases Mq j l.length with hj|hj
 ·rw[M6 hj] at hy;exact ih j y hy
 ·rw[NC hj] at hy;have e:j-l.length=0:=by
   have:=(Mi.1 hy).1;simp at this;omega
  rw[e] at hy;simp at hy;subst hy;obtain rfl:j=l.length:=om;exact hg
theorem BK{ls:List Int}{x:Nd}(h:∀y∈ls,0<=y/\y<=1024):0<=f9 ls x:=by
 have h1:=(fU om h x.kids).1;have h2:=(gX om h (fT x)).1;have h3:=(iY om h (x.kids.getD 0 0)).1;unfold f9;split
 ·omega
 ·split
  ·omega
  ·split
   ·exact h1
   ·split
    ·omega
    ·omega
theorem CL{ls:List Int}{x:Nd}(h:∀y∈ls,0<=y/\y<=1024):0<=iH ls x:=by
 have h1:=(fU om h x.kids).1;have h2:=(gX om h (fT x)).1;unfold iH;split
 ·omega
 ·split
  ·omega
  ·split
   ·omega
   ·exact h2
theorem mW(ns:List Nd)(h:bM [] ns=0):(∀y∈bX ns,0<=y/\y<=1024)/\(∀y∈bT ns,0<=y/\y<=1024):=by
 refine eQ (P:=fun ns=>bM [] ns=0->(∀y∈bX ns,0<=y/\y<=1024)/\(∀y∈bT ns,0<=y/\y<=1024)) (fun _=>by simp[bX,bT]) (fun l x ih h=>?_) ns h;have h1:=fV h;obtain⟨i1,i2⟩:=ih h1;have hs:=eG [] l x h1;rw[h] at hs;simp only[NM] at hs;obtain⟨_,h2,h3,_⟩:=eJ hs.symm;rw[iX,iS];have n1:=BK (x:=x) i1;have n2:=CL (x:=x) i2;constructor
 ·intro y hy;rcases Mv.1 hy with hy|hy
  ·exact i1 y hy
  ·simp at hy;subst hy;omega
 ·intro y hy;rcases Mv.1 hy with hy|hy
  ·exact i2 y hy
  ·simp at hy;subst hy;omega
theorem iO(l:List Nd):(bX l).length=l.length:=by
 refine eQ (P:=fun l=>(bX l).length=l.length) rfl (fun l x ih=>?_) l;rw[iX];simp[ih]
theorem iC(l:List Nd):(bT l).length=l.length:=by
 refine eQ (P:=fun l=>(bT l).length=l.length) rfl (fun l x ih=>?_) l;rw[iS];simp[ih]
theorem vA{a b:Int}(ha:0<=a)(hb:0<b):a.tdiv b<=a:=by
 rw[OJ ha];exact Int.ediv_le_self _ ha
theorem gI{a b:Int}(ha:0<=a)(hb:0<b):0<=a.tmod b/\a.tmod b<b:=⟨N0 _ ha,Nu _ hb⟩
theorem Bv(k:Int)(hk:0<=k):gC (qC k)/\aU (qC k)<=2:=by
 have h4:=gI hk (show (0:Int)<4 by omega);have hd:0<=k.tdiv 4:=N1 hk om;have a:=gI hd (show (0:Int)<9 by omega);have b:=gI hd (show (0:Int)<2 by omega);have c:=gI hd (show (0:Int)<3 by omega);unfold qC;split
 ·exact⟨fX ⟨om,om⟩ ⟨om,om⟩,by simp[aU,bR]⟩
 ·split
  ·exact⟨fX ⟨om,om⟩ ⟨om,om⟩,by simp[aU,bR]⟩
  ·split
   ·refine⟨jH ⟨om,om⟩ ⟨om,om⟩ ?_ (by simp) (by simp[tX]),by simp[aU,bR]⟩;rcases(show ((k.tdiv 4).tmod 3).toNat=0∨((k.tdiv 4).tmod 3).toNat=1∨((k.tdiv 4).tmod 3).toNat=2 by omega) with h|h|h<;>rw[h]<;>simp
   ·refine⟨jH ⟨om,om⟩ ⟨om,om⟩ (by simp) (by simp) ?_,by simp[aU,bR]⟩;simp only[tX,and_true];exact fX ⟨om,om⟩ ⟨om,om⟩
def rD:List (List UInt8):=[[97],[98],[99],[100]]
structure Hi(x:Nd):Prop where
 ok:oH x
 vals:x.values.length<=1024
 labels:∀s∈x.labels,s∈rD
 seq:x.kind=3->x.kids.length<=3
structure gO(ns:List Nd):Prop where
 valid:bM [] ns=0
 gen:∀x∈ns,Hi x
theorem j9{kind lo hi:Int}{name:List UInt8}{ws ks:List Int}{ls:List (List UInt8)}{vs:List aT}{v:aT}(h1:i64 kind)(h2:name.length<=1000)(h3:i64 lo)(h4:i64 hi)(h5:ws.length<=1000)(h6:∀w∈ws,i64 w)(h7:ls.length<=1000)(h8:∀s∈ls,s∈rD)
  (h9:vs.length<=1000) (h10:∀v∈vs,gC v/\aU v<=4294967296) (h11:ks.length<=1000) (h12:∀k∈ks,i64 k) (h13:gC v) (h14:aU v<=4294967296)
  (h15:kind=3->ks.length<=3:=by first|(intro h;exact absurd h om)|(intro _;omega)):Hi ⟨kind,name,lo,hi,ws,ls,vs,ks,v⟩:=
 ⟨⟨h1,by simp only;omega,h3,h4,by simp only;omega,h6,by simp only;omega,fun s hs=>by
   have:=h8 s hs;simp[rD] at this;rcases this with rfl|rfl|rfl|rfl<;>simp,by simp only;omega,h10,by simp only;omega,h12,h13,h14⟩,by simp only;omega,h8,h15⟩
theorem D6(ns:List Nd)(ls ss:List Int)(m:Int):e6 ns ls ss ⟨0,[],0,0,[],[],[],[],.mk 0 m [] []⟩=0:=by
 have hv:d9 (.mk 0 m [] [])=0:=by simp[d9,bJ,cN,bY,jS,lZ,sG,aU,bR]
 have hf:cK (ns.length:Int) ⟨0,[],0,0,[],[],[],[],.mk 0 m [] []⟩=true:=by simp[cK,gK,jM,cW]
 have hn:d8 (ns.length:Int) ⟨0,[],0,0,[],[],[],[],.mk 0 m [] []⟩=0:=by
  unfold d8;rw[Mm (by rw[hf];simp)];simp[k6,c7,hv,cZ]
 unfold e6;rw[Mm (by rw[hn];simp)];simp[f9,iH,aU,bR]
theorem xU{bs:List fK}{ss:List Int}:∀(kids:List Int) (rows out:List (List aT)) (S:Int),(∀r∈rows,(bR r:Int)<=S)->(∀k∈kids,∀v∈(cP bs k).vals,(aU v:Int)<=eB ss k)->eE bs kids rows=some out->∀r∈out,(bR r:Int)<=S+eU ss kids
 | [],rows,out,S,h1,_,h=>by
  simp only[eE] at h;cases h;intro r hr;simpa[eU] using h1 r hr
 | k::ks,rows,out,S,h1,h2,h=>by
  simp only[eE] at h;split at h
  ·cases h
  ·have e:eU ss (k::ks)=eB ss k+eU ss ks:=by simp only[eU,NG];rw[pJ ss ks];simp[eU]
   have ih:=xU ks _ out (S+eB ss k) (fun r hr=>by
    obtain⟨r',h3,v,h4,rfl⟩:=pD hr;have a:=h1 r' h3;have b:=h2 k (by simp) v h4;rw[rE];omega) (fun k' hk'=>h2 k' (by simp[hk'])) h
   intro r hr;have:=ih r hr;omega
theorem EG{bs:List fK}:∀(l:List Int) (a:List aT × Bool),∀v∈(l.foldl (bF bs) a).1,v∈a.1∨∃k∈l,v∈(cP bs k).vals
 | [],a,v,hv=>.inl hv
 | k::r,a,v,hv=>by
  rcases EG r (bF bs a k) v hv with h|⟨k',h1,h2⟩
  ·simp only[bF] at h;rcases Mv.1 (l4 h) with h|h
   ·exact .inl h
   ·exact .inr ⟨k,by simp,h⟩
  ·exact .inr ⟨k',by simp[h1],h2⟩
theorem sB{ss:List Int}:∀(l:List Int) (s:Int) (k:Int),k∈l->eB ss k<=l.foldl (fun s k=>max s (eB ss k)) s/\s<=l.foldl (fun s k=>max s (eB ss k)) s
 | a::r,s,k,h=>by
  have mono:∀(l:List Int) (s:Int),s<=l.foldl (fun s k=>max s (eB ss k)) s:=by
   intro l
   induction l with
   | nil=>intro s;simp
   | cons b l ih=>intro s;have:=ih (max s (eB ss b));simp only[NG];omega
  simp only[NG];rcases Mj.1 h with rfl|h
  ·have:=mono r (max s (eB ss k));omega
  ·have:=sB (ss:=ss) r (max s (eB ss a)) k h;omega
theorem DU{x:Nd}{bs:List fK}{ss:List Int}(hkd:0<=x.kind/\x.kind<=4)(hb:∀k∈x.kids,∀v∈(cP bs k).vals,(aU v:Int)<=eB ss k):∀v∈(cM x bs).vals,(aU v:Int)<=iH ss x:=by
 intro v hv;unfold cM at hv;split at hv
 ·rename_i h0;simp at hv;subst hv;unfold iH;rw[Mr h0];omega
 ·rename_i h0;split at hv
  ·rename_i h1;split at hv
   ·simp at hv
   ·simp only[fP,Mz] at hv;obtain⟨j,_,rfl⟩:=hv;unfold iH;rw[Mm h0,Mr h1];simp[aU,bR]
  ·rename_i h1;split at hv
   ·rename_i h3;unfold mF at hv;split at hv
    ·simp at hv
    ·rename_i rows hr;obtain⟨r,hr2,rfl⟩:=Mz.1 (l4 hv);have:=xU x.kids [[]] rows 0 (by simp[bR]) hb hr r hr2;have e:aU (dQ x.name r)=1+bR r:=by unfold dQ;split<;>simp[aU]
     unfold iH;rw[Mm h0,Mm h1,Mr h3,e];omega
   ·rename_i h3;have key:∀ks:List Int,(∀k∈ks,k∈x.kids)->v∈(jZ bs ks).vals->(aU v:Int)<=bZ ss ks:=by
     intro ks hks hv;unfold jZ at hv;split at hv
     ·simp at hv
     ·rcases EG ks ([],false) v hv with h|⟨k,h1,h2⟩
      ·simp at h
      ·have:=hb k (hks k h1) v h2;have:=(sB (ss:=ss) ks 0 k h1).1;unfold bZ;omega
    have:(aU v:Int)<=bZ ss (fT x):=by
     unfold fT;by_cases h4:x.kind=4
     ·rw[Mr h4] at hv;rw[Mm om];exact key _ (fun k hk=>Nn hk) hv
     ·rw[Mm h4] at hv;by_cases h2:x.kind=2
      ·rw[Mr h2];exact key _ (fun k hk=>hk) hv
      ·omega
    unfold iH;rw[Mm h0,Mm h1,Mm h3];omega
theorem BU{bs:List fK}{b:fK}{k:Int}(hk:0<=k):(k<bs.length->cP (bs++[b]) k=cP bs k)/\(k=bs.length->cP (bs++[b]) k=b):=by
 unfold cP;constructor
 ·intro h;rw[Mk,Mk,M6 om]
 ·intro h;rw[Mk,NC om,show k.toNat-bs.length=0 by omega];rfl
theorem H9{bs:List Int}{b:Int}{k:Int}(hk:0<=k):(k<bs.length->eB (bs++[b]) k=eB bs k)/\(k=bs.length->eB (bs++[b]) k=b):=by
 unfold eB;constructor
 ·intro h;rw[Mk,Mk,M6 om]
 ·intro h;rw[Mk,NC om,show k.toNat-bs.length=0 by omega];rfl
theorem DH(ns:List Nd)(hg:∀(j:Nat) (x:Nd),ns[j]? = some x->gW j x):∀(k:Int),0<=k->k<ns.length->∀v∈(cP (aJ ns) k).vals,(aU v:Int)<=eB (bT ns) k:=by
 refine eQ (P:=fun ns=>(∀(j:Nat) (x:Nd),ns[j]? = some x->gW j x)->∀(k:Int),0<=k->k<ns.length->∀v∈(cP (aJ ns) k).vals,(aU v:Int)<=eB (bT ns) k) (fun _ k h1 h2=>by simp at h2;omega) (fun l x ih hg k hk0 hk v hv=>?_) ns hg;have hgl:∀(j:Nat) (y:Nd),l[j]? = some y->gW j y:=fun j y hy=>hg j y (by
  have:=(Mi.1 hy).1;rw[M6 this];exact hy)
 have ih:=ih hgl;have hx:=hg l.length x (by simp);rw[f0] at hv;rw[iS];have e1:=BU (bs:=aJ l) (b:=cM x (aJ l)) hk0;have e2:=H9 (bs:=bT l) (b:=iH (bT l) x) hk0;rw[dP] at e1;rw[iC] at e2;rcases(show k<l.length∨k=l.length by simp at hk;omega) with h|h
 ·rw[e1.1 h] at hv;rw[e2.1 h];exact ih k hk0 h v hv
 ·rw[e1.2 h] at hv;rw[e2.2 h];refine DU hx.kind (fun q hq u hu=>?_) v hv;obtain⟨j,hj⟩:=M9 hq;obtain⟨q0,q1⟩:=hx.kids j q hj;exact ih q q0 q1 u hu
theorem BT(ns:List Nd)(ho:∀x∈ns,oH x)(h:bM [] ns=0)(k:Int)(h0:0<=k)(h1:k<ns.length):∀v∈(cP (aJ ns) k).vals,aU v<=1024:=by
 intro v hv;have a:=DH ns (i7 ns ho h) k h0 h1 v hv;have b:=(iY (M:=1024) om (mW ns h).2 k).2;omega
theorem gO.ok{ns:List Nd}(h:gO ns):∀x∈ns,oH x:=fun x hx=>(h.gen x hx).ok
theorem gO.good{ns:List Nd}(h:gO ns):∀(j:Nat) (x:Nd),ns[j]? = some x->gW j x:=i7 ns h.ok h.valid
theorem gO.snoc{ns:List Nd}{x:Nd}(h:gO ns)(hl:ns.length<=1000)(hx:Hi x)(hv:bD (ns++[x])=0):gO (ns++[x]):=by
 unfold bD at hv;rw[Mm (by simp;omega)] at hv;refine⟨hv,fun y hy=>?_⟩;rcases Mv.1 hy with hy|hy
 ·exact h.gen y hy
 ·simp at hy;rw[hy];exact hx
theorem gO.leaf{ns:List Nd}(h:gO ns){m:Int}(hm:i64 m):gO (ns++[⟨0,[],0,0,[],[],[],[],.mk 0 m [] []⟩]):=by
 refine⟨?_,fun y hy=>?_⟩
 ·rw[eG [] ns _ h.valid];exact D6 _ _ _ _
 ·rcases Mv.1 hy with hy|hy
  ·exact h.gen y hy
  ·simp at hy;rw[hy];have h0:i64 0:=⟨om,om⟩
   exact j9 h0 (by simp) h0 h0 (by simp) (by simp) (by simp) (by simp) (by simp) (by simp) (by simp) (by simp) (fX h0 hm) (by simp[aU,bR])
def Ej(σ:List (Nat × Nat))(ns nx n':Nat):List (Nat × Nat)->Bool
 | []=>true
 | (i,id)::r=>(match Nat.blt i ns with
   | true=>match lk σ id with
    | some j=>Nat.beq j i
    | none=>false
   | false=>Nat.ble nx id && Nat.blt id n') && Ej σ ns nx n' r
def AP(ids:List Nat)(nx:Nat):aK->Bool
 | []=>true
 | (k,_)::r=>(match Nat.ble nx k with
   | true=>true
   | false=>yR k ids) && AP ids nx r
theorem t8{σ:List (Nat × Nat)}{ns nx n':Nat}:∀{τ:List (Nat × Nat)},Ej σ ns nx n' τ=true->∀p∈τ,(p.1<ns/\lk σ p.2=some p.1)∨(ns<=p.1/\nx<=p.2/\p.2<n')
 | [],_,p,hp=>by cases hp
 | (i,id)::r,h,p,hp=>by
  simp only[Ej,Mg] at h;rcases Mj.1 hp with rfl|hp
  ·have h1:=h.1;split at h1
   ·rename_i hb;split at h1
    ·rename_i j hj;exact .inl ⟨Mh hb,by rw[hj,Nat.eq_of_beq_eq_true h1]⟩
    ·cases h1
   ·rename_i hb;simp only[Mg] at h1;refine .inr ⟨?_,Mh h1.1,Mh h1.2⟩;rcases Mq i ns with hl|hl
    ·have e:Nat.blt i ns=true:=Ml hl;rw[e] at hb;cases hb
    ·exact hl
  ·exact t8 h.2 p hp
theorem sI:∀{m:aK} {ids:List Nat} {nx:Nat},AP ids nx m=true->∀p∈m,nx<=p.1∨yR p.1 ids=true
 | [],ids,nx,_,p,hp=>by cases hp
 | (k,b)::r,ids,nx,h,p,hp=>by
  simp only[AP,Mg] at h;rcases Mj.1 hp with rfl|hp
  ·have h1:=h.1;split at h1
   ·rename_i hb;exact .inl (Mh hb)
   ·exact .inr h1
  ·exact sI h.2 p hp
theorem aF.useN{P:Program}{Γ:List (Nat × AV)}{F:FuncId}{args args':List AV}{ms mem m1:aK}{ns nx:Nat}{Qs K:AV->aK->Nat->Prop}(hΓ:∀p∈Γ,NN p.2)(σ:List (Nat × Nat))(h:aF P Γ F args' ms ns Qs)
  (hp:l5 (o0 σ) mem=m1) (hargs:kZ m1 σ args args') (hM:cX m1 σ ms) (hc:(pU ms && (pW σ && yM ns σ))=true)
  (hk:∀r m n,Qs r m n->∃τ r' m' n',Cv m τ r r'/\cX m τ m'/\(pU m' && (pW τ && (Nat.ble nx n' && (AP (o0 σ) nx m' && Ej σ ns nx n' τ))))=true/\K r' (m'++jG (o0 σ) mem) n'):aF P Γ F args mem nx K:=by
 simp only[Mg] at hc;obtain⟨hc1,hc2,hc4⟩:=hc;refine⟨fun X D ρ w vs hD hm hv=>?_⟩;refine(aF.use (K:=K) (nx:=nx) hΓ h σ (m1:=m1) (rest:=jG (o0 σ) mem) ⟨fun p hp'=>?_,fun p hp'=>(cR.1 hp').1,fun p hp'=>?_,fun p h1 q h2=>?_, ?_⟩ ?_ hargs hM.cvm (dK hc1) (kR hc2) (fun id i hl=>jX hc4 _ (a5 hl)) ?_).run X D ρ w vs hD hm hv
 ·rw[←hp] at hp';exact(dJ.1 hp').1
 ·cases hi:yR p.1 (o0 σ) with
  | true=>left;rw[←hp];exact dJ.2 ⟨hp',hi⟩
  | false=>right;exact cR.2 ⟨hp',hi⟩
 ·rw[←hp] at h1;have a:=(dJ.1 h1).2;have b:=(cR.1 h2).2;intro e;rw[e,b] at a;cases a
 ·rw[←hp];exact hm.nod.sublist ((kC mem).map _)
 ·exact hm.nod.sublist ((kA mem).map _)
 ·intro r m n hq hn;obtain⟨τ,r',m',n',h1,h2,h3,h4⟩:=hk r m n hq;simp only[Mg] at h3;refine⟨τ,r',m',n',Mh h3.2.2.1,h1,h2.cvm,dK h3.1,kR h3.2.1,fun i id hl=>t8 h3.2.2.2.2 _ (a5 hl),fun p h5 q h6=>?_,h4⟩;have b:=(cR.1 h6).2;rcases sI h3.2.2.2.1 p h5 with a|a
  ·have:=hD _ (hm.low q (cR.1 h6).1);omega
  ·intro e;rw[e,b] at a;cases a
theorem aF.ph{P:Program}{Γ:List (Nat × AV)}{F:FuncId}{args:List AV}{mem:aK}{nx:Nat}{K:AV->aK->Nat->Prop}(t:TypeId)(sz:Nat)(h:aF P Γ F args ((nx,.row t sz [])::mem) (nx+1) K):aF P Γ F args mem nx K:=by
 refine⟨fun X D ρ w vs hD hm hv=>?_⟩;obtain⟨m1,v1,e1⟩:=hm.phantom (n:=nx) (D':=dn D nx (nx+1)) (fun h'=>OA _ (hD _ h')) (fun i hi=>.inl hi) (.inr ⟨Mp _,Np _⟩) t sz;refine(h.run X _ _ w vs (fun i hi=>?_) m1 ⟨hv.1,fun j c x hc hx=>v1 _ _ (hv.2 j c x hc hx)⟩).mono ?_
 ·rcases hi with hi|hi
  ·have:=hD i hi;omega
  ·exact hi.2
 ·rintro e w' ⟨r,v,m,n,ρ',rfl,hk,hn,hm',hr,ext⟩;have ed:dn (dn D nx (nx+1)) (nx+1) n=dn D nx n:=by
   funext i
   apply propext;constructor
   ·rintro((hi|⟨h1,h2⟩)|⟨h1,h2⟩)
    ·exact .inl hi
    ·exact .inr ⟨h1,om⟩
    ·exact .inr ⟨om,h2⟩
   ·rintro(hi|⟨h1,h2⟩)
    ·exact .inl (.inl hi)
    ·rcases Mq i (nx+1) with h3|h3
     ·exact .inl (.inr ⟨h1,h3⟩)
     ·exact .inr ⟨h3,h2⟩
  rw[ed] at hm' hr ext;refine⟨r,v,m,n,ρ',rfl,hk,om,hm',hr, ?_⟩;have e2:=e1 D fun i hi=>hi
  exact e2.trans ⟨fun i hi=>ext.le i (.inl hi),fun i hi=>ext.agree i (.inl hi),ext.size,ext.keep,ext.fresh,ext.env⟩
end Go.Ax
namespace Go.Ax
open Go
section
variable {P:Program} {Γ:List (Nat × AV)} {B:Nat}
theorem HC{b:Bool}{c1 c2:Code}{s1 s2:St}{i:Nat}{y:Code}{Q:Exit->St->Prop}{α:Type}(hΓ:∀p∈Γ,NN p.2)(R:α->Prop)(J:α->St)
  (h1:∀Qr:Exit->St->Prop,(∀(a:α) (s:St) (σ:List (Nat × Nat)),R a->Conv B σ s (J a)->Qr .normal s)->GW b (dW P Γ B c1 s1 (x8 i Qr)) (dW P Γ B c2 s2 (x8 i Qr)))
  (h2:∀a,R a->dW P Γ B y (J a) Q):GW b (dW P Γ B c1 s1 (x8 i (Ff P Γ B y Q))) (dW P Γ B c2 s2 (x8 i (Ff P Γ B y Q))):=by
 have h:=h1 (fun e s=>match e with
  | .normal=>∃a σ,R a/\Conv B σ s (J a)
  | e=>Q e s) (fun a s σ hr hc=>⟨a,σ,hr,hc⟩)
 have key:∀(e:Exit) (s:St),x8 i (fun e s=>match e with
  | .normal=>∃a σ,R a/\Conv B σ s (J a)
  | e=>Q e s) e s->x8 i (Ff P Γ B y Q) e s:=by
  intro e s hq;have norm:(∃a σ,R a/\Conv B σ s (J a))->dW P Γ B y s Q:=fun⟨a,σ,hr,hc⟩=>dW.conv hΓ hc (h2 a hr)
  cases e with
  | normal=>exact norm hq
  | exit j=>
   simp only[x8] at hq ⊢;split at hq
   ·exact norm hq
   ·exact hq
  | goto l=>exact hq
  | ret=>exact hq
  | panic c=>exact hq
  | outgrown=>exact hq
 cases b with
 | true=>exact dW.mono (show dW P Γ B c1 s1 _ from h) key
 | false=>exact dW.mono (show dW P Γ B c2 s2 _ from h) key
end
end Go.Ax
