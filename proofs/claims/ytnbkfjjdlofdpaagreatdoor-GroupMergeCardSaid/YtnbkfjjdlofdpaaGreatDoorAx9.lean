/- A part of the proof. -/
import Derived.Test.YtnbkfjjdlofdpaaGreatDoorAx8
import Derived.Below
import Derived.Lib.ConvBytes
import Derived.Lib.ItoaMem
import Derived.ChangeMaps5
import Derived.Lib.LaidTab
import Derived.Lib.ItoaNum
import Derived.Lib.AtoiAllCases
import Derived.Recover
set_option linter.unusedVariables false
set_option linter.unusedSimpArgs false
set_option linter.unusedSectionVars false
namespace Go.Ax
open Go
theorem nn {v:AV} (h:NN v:=by
  repeat' first
   | assumption
   | exact NN.int _ _
   | exact NN.bool _
   | exact NN.str _
   | exact NN.nsl
   | exact NN.nptr
   | exact NN.nif
   | exact NN.nfn
   | exact NN.nmap
   | exact NN.junk
   | exact v6 _
   | exact lC _
   | exact aU _
   | exact f9.nil
   | refine f9.cons ?_ ?_
   | refine NN.agg' ?_
   | refine NN.tup' ?_
   | refine NN.il' ?_
   | refine NN.ip' ?_
   | refine NN.ifc _ _ ?_
   | exact NN.fn _ _ _ (by simp) (by simp)):NN v:=h
theorem xU {l:List AV} (h:f9 l:=by
  repeat' first
   | assumption
   | exact NN.int _ _
   | exact NN.bool _
   | exact NN.str _
   | exact NN.nsl
   | exact NN.nptr
   | exact NN.nif
   | exact NN.nfn
   | exact NN.nmap
   | exact NN.junk
   | exact v6 _
   | exact lC _
   | exact aU _
   | exact f9.nil
   | refine f9.cons ?_ ?_
   | refine NN.agg' ?_
   | refine NN.tup' ?_
   | refine NN.il' ?_
   | refine NN.ip' ?_
   | refine NN.ifc _ _ ?_
   | exact NN.fn _ _ _ (by simp) (by simp)):f9 l:=h
section
variable {P:Program} {Γ:List (Nat × AV)} {F:FuncId} {args:List AV} {r:AV} {mem:aA} {nx:Nat} {K:AV->aA->Nat->Prop}
theorem aR.go(h:aR P [] F args r)(hk:K r mem nx)(ha:f9 args:=by exact xU)(hr:NN r:=by exact nn):aC P [] F args mem nx K:=h.use eG ha hr hk
theorem aC.go0{Qs:AV->aA->Nat->Prop}(h:aC P [] F args [] 0 Qs)(hk:∀r m n,Qs r m n->∃r',Cv m [] r r'/\K r' mem nx)(ha:f9 args:=by exact xU):aC P [] F args mem nx K:=
 aC.call0 eG h ha hk
end
theorem aC.glob{P:Program}{Γ:List (Nat × AV)}{F:FuncId}{args:List AV}{mem:aA}{nx:Nat}{Q:AV->aA->Nat->Prop}(h:aC P [] F args mem nx Q):aC P Γ F args mem nx Q:=by
 refine⟨fun X D ρ w vs hD hm hv=>?_⟩;refine(h.run X D ρ w vs hD ⟨hm.low,hm.blk,hm.emp,hm.inj,hm.nod,hm.bar,(fun p hp=>by cases hp)⟩ hv).mono ?_;rintro e w' ⟨r,v,m,n,ρ',h1,h2,h3,h4,h5,h6⟩;exact⟨r,v,m,n,ρ',h1,h2,h3,⟨h4.low,h4.blk,h4.emp,h4.inj,h4.nod,h4.bar,fun p hp=>h6.vr (hm.glo p hp)⟩,h5,h6⟩
def BE:List (Nat × Nat)->Bool
 | []=>true
 | (i,j)::r=>Nat.beq i j && BE r
theorem p6:∀{σ:List (Nat × Nat)},BE σ=true->∀p∈σ,p.1=p.2
 | [],h,p,hp=>by cases hp
 | (i,j)::r,h,p,hp=>by
  simp only[BE,JU] at h;rcases JQ.1 hp with rfl|hp
  ·exact Nat.eq_of_beq_eq_true h.1
  ·exact p6 h.2 p hp
theorem aC.pre{P:Program}{Γ:List (Nat × AV)}{F:FuncId}{args args':List AV}{mem mem':aA}{nx:Nat}{K:AV->aA->Nat->Prop}(hΓ:∀p∈Γ,NN p.2)(σ:List (Nat × Nat))(hid:(BE σ && pJ mem')=true)
  (hM:dE mem σ mem') (hargs:m7 mem σ args args') (h:aC P Γ F args' mem' nx K):aC P Γ F args mem nx K:=by
 simp only[JU] at hid;have hid1:=p6 hid.1;have hnod:=cG hid.2;refine⟨fun X D ρ w vs hD hm hv=>?_⟩;have hσ:∀id id',lk σ id=some id'->D id->D id'/\ρ id'=ρ id:=by
  intro id id' h hd;have:=hid1 _ (aG h);simp only at this;subst this;exact⟨hd,rfl⟩
 have hinj:D1 σ:=fun i j k h1 h2=>by
  have a:=hid1 _ (aG h1);have b:=hid1 _ (aG h2);simp only at a b;omega
 obtain⟨m1,v1,o1⟩:=hm.turn (D':=D) (ρ':=ρ) hΓ hσ hM.cvm hnod hinj;have hvs:dS ρ D (OX X ρ mem') w args' vs:=⟨by rw[←hargs.1];exact hv.1,fun j c' x hc' hx=>by
   obtain⟨c,hc⟩:=bG hargs.1 hc';exact v1 c c' (hargs.2 j c c' hc hc') _ (hv.2 j c x hc hx)⟩
 refine(h.run X D ρ w vs hD m1 hvs).mono ?_;rintro e w' ⟨r,v,m,n,ρ',h1,h2,h3,h4,h5,h6⟩;refine⟨r,v,m,n,ρ',h1,h2,h3,h4,h5, ?_⟩;have e0:Ext D ρ mem w ρ D mem' w:=⟨fun i hi=>hi,fun _ _=>rfl,JX _,fun _ _ _=>rfl,fun p hp hn=>.inl (o1 p hp hn),.refl _⟩
 exact e0.trans h6
section
variable {mem:aA} {σ:List (Nat × Nat)}
theorem Cv.int{k:IntKind}{a b:Int}(h:a=b):Cv mem σ (.int k a) (.int k b):=by rw[h];exact .same _ (.int _ _)
theorem Cv.w64{x y:Int}(h:x=y)(hb:i64 y):Cv mem σ (.int .i64 (IntKind.i64.wrap x)) (.int .i64 y):=by rw[h,f7 hb];exact .same _ (.int _ _)
theorem Cv.wo{x y:Int}(h:x=y:=by omega)(h1 : -9223372036854775808<=y:=by omega)(h2:y<=9223372036854775807:=by omega):Cv mem σ (.int .i64 (IntKind.i64.wrap x)) (.int .i64 y):=.w64 h ⟨h1,h2⟩
theorem Cv.wp{x y:Int}(h:x=y:=by simp only;omega)(h1 : -9223372036854775808<=y:=by simp only;omega)(h2:y<=9223372036854775807:=by simp only;omega):Cv mem σ (.int .i64 (IntKind.i64.wrap x)) (.int .i64 y):=.w64 h ⟨h1,h2⟩
theorem aL{sl:List (Nat × AV)}{i:Nat}{v:AV}(h:lk sl i=some v:=by rfl)(hn:NN v:=by exact nn):∃w,lk sl i=some w/\Cv mem σ w v:=⟨v,h,.same v hn⟩
theorem m7.s{v:AV}{as bs:List AV}(hs:m7 mem σ as bs)(hn:NN v:=by exact nn):m7 mem σ (v::as) (v::bs):=.cons (.same v hn) hs
theorem aF{α:Type}{a:α}{q:Prop}(h:q):a=a/\q:=⟨rfl,h⟩
theorem dU{sl:List (Nat × AV)}{i id id' x y:Nat}(h:lk sl i=some (.ptr id x y):=by rfl)(h2:lk σ id=some id':=by rfl):∃w,lk sl i=some w/\Cv mem σ w (.ptr id' x y):=⟨_,h,.ptr id id' x y h2⟩
theorem aP{sl:List (Nat × AV)}{i:Nat}{v:AV}(hn:NN v)(h:lk sl i=some v:=by rfl):∃w,lk sl i=some w/\Cv mem σ w v:=⟨v,h,.same v hn⟩
theorem c9{t:TypeId}{sz p:Nat}{ys:List AV}(id:Nat)(hn:f9 ys)(h1:lk σ id=some p:=by rfl)(h2:lk mem id=some (.row t sz ys):=by rfl):∃id xs,lk σ id=some p/\lk mem id=some (.row t sz xs)/\s5 mem σ xs ys:=⟨id,ys,h1,h2,.same hn⟩
theorem Rs{p q:Prop}(x:q)(e:q->p:=by(intro x;(repeat((first|refine dL.2 ?_|refine aF ?_);((conv=>whnf);(repeat(refine Xg ?_;conv=>whnf)))));exact x)):p:=e x
theorem Rt{p q:Prop}(x:q)(e:q->p:=by(intro x;(conv=>whnf);(repeat(refine Xg ?_;conv=>whnf));(repeat((first|refine dL.2 ?_|refine aF ?_);((conv=>whnf);(repeat(refine Xg ?_;conv=>whnf)))));exact x)):p:=e x
theorem Cv.bool{a b:Bool}(h:a=b):Cv mem σ (.bool a) (.bool b):=by rw[h];exact .same _ (.bool _)
end
theorem w64{x y:Int}(h:x=y)(hb:i64 y):IntKind.i64.wrap x=y:=by rw[h,f7 hb]
theorem Cv.fzR{mem:aA}{σ:List (Nat × Nat)}{id len:Nat}{t:TypeId}{sz:Nat}{xs ys:List AV}(h1:lk mem id=some (.row t sz xs))(h2:lk σ id=none)(h3:s5 mem σ xs ys)(h4:ys.length=len):Cv mem σ (.sl id 0 len) (.il sz ys):=
 .fz id 0 len t sz xs ys h1 h2 (by have:=h3.1;omega) h4 (fun i x y hx hy=>(h3.2 i x y (by simpa using hx) hy).1) (fun i x y j c c' hx hy hc hc'=>(h3.2 i x y (by simpa using hx) hy).2 j c c' hc hc')
section
variable {P:Program} {Γ:List (Nat × AV)} {F:FuncId} {args:List AV} {r:AV} {mem:aA} {nx:Nat} {K:AV->aA->Nat->Prop}
theorem aR.goG(h:aR P [] F args r)(hk:K r mem nx)(ha:f9 args:=by exact xU)(hr:NN r:=by exact nn):aC P Γ F args mem nx K:=(h.use eG ha hr hk).glob
end
end Go.Ax
namespace Go.Ax
open Go
section
variable {P:Program} {Γ:List (Nat × AV)} {B:Nat}
structure bH(P:Program)(Γ:List (Nat × AV))(B:Nat)(c:Code)(s:St)(Q:Exit->St->Prop):Prop where
 run:cJ P Γ B (.loop c) s Q
def Ge(P:Program)(Γ:List (Nat × AV))(B:Nat)(y:Code)(Q:Exit->St->Prop)(e:Exit)(s:St):Prop:=
 match e with
 | .normal=>cJ P Γ B y s Q
 | e=>Q e s
def Ew(id:Nat)(Q:Exit->St->Prop)(e:Exit)(s:St):Prop:=
 match e with
 | .exit i=>match Nat.beq i id with
  | true=>Q .normal s
  | false=>Q (.exit i) s
 | e=>Q e s
theorem qX{ops:List Oper}{K:St->Prop}{Kp:Value->St->Prop}:∀{l:List Oper} {s:St},mI P Γ (A9 P Γ B) ops l s K (fun _ _=>False)->mI P Γ (A9 P Γ B) ops l s K Kp
 | [],s,h=>h
 | o::r,s,h=>by
  simp only[mI] at h ⊢;split
  ·rename_i h1;simp only[h1] at h
  ·rename_i h1;simp only[h1] at h;split
   ·rename_i h2;simp only[h2] at h;exact qX h
   ·rename_i h2;simp only[h2] at h
  ·rename_i h1;simp only[h1] at h;split
   ·rename_i h2;simp only[h2] at h;split
    ·rename_i h3;simp only[h3] at h;exact qX h
    ·rename_i h3;simp only[h3] at h
   ·rename_i h2;simp only[h2] at h;split
    ·rename_i h3;simp only[h3] at h;refine aC.mono h fun v m n h=>?_
     split
     ·rename_i h4;simp only[h4] at h;exact qX h
     ·rename_i h4;simp only[h4] at h
    ·rename_i h3;simp only[h3] at h;split at h<;>exact h.elim
theorem lO{ops:List Oper}{tr:List (List Nat)}{base:Nat}{K:St->Prop}{Kp:Value->aA->Nat->Prop}:∀{l:List Nat} {recs:List qZ} {s:St},iO P Γ (A9 P Γ B) ops tr base K (fun _ _ _=>False) l recs s->iO P Γ (A9 P Γ B) ops tr base K Kp l recs s
 | [],recs,s,h=>h
 | i::r,recs,s,h=>by
  simp only[iO] at h ⊢;split
  ·rename_i h1;simp only[h1] at h
  ·rename_i o h1;simp only[h1] at h;split
   ·rename_i h2;simp only[h2] at h
   ·rename_i h2;simp only[h2] at h;split
    ·rename_i h3;simp only[h3] at h;exact lO h
    ·rename_i h3;simp only[h3] at h
   ·rename_i h2;simp only[h2] at h;split
    ·rename_i hk;simp only[hk] at h;split
     ·rename_i h3;simp only[h3] at h;split
      ·rename_i h4;simp only[h4] at h;exact lO h
      ·rename_i h4;simp only[h4] at h
     ·rename_i h3;simp only[h3] at h
    ·rename_i hk;simp only[hk] at h;split
     ·rename_i h3;simp only[h3] at h;split
      ·rename_i h4;simp only[h4] at h;exact lO h
      ·rename_i h4;simp only[h4] at h
     ·rename_i h3;split at h
      ·rename_i h4;exact(h3 _ _ _ _ h4).elim
      ·exact h
    ·rename_i hk;simp only[hk] at h;split
     ·rename_i h3;simp only[h3] at h;split
      ·rename_i h4;simp only[h4] at h;exact⟨h.1,lO h.2⟩
      ·rename_i h4;simp only[h4] at h
     ·rename_i h3;simp only[h3] at h;split
      ·rename_i h4;simp only[h4] at h;refine aC.mono h fun v m n h=>?_
       split
       ·rename_i h5;simp only[h5] at h;exact⟨h.1,lO h.2⟩
       ·rename_i h5;simp only[h5] at h
      ·rename_i h4;simp only[h4] at h
structure fA(P:Program)(Γ:List (Nat × AV))(B:Nat)(ops l:List Oper)(s:St)(K:St->Prop):Prop where
 run:mI P Γ (A9 P Γ B) ops l s K fun _ _=>False
def JN(P:Program)(Γ:List (Nat × AV))(B:Nat)(ops l:List Oper)(s:St)(K:St->Prop):Prop:=
 match l with
 | []=>K s
 | o::r=>w9 s fun sl mem nx nt=>j0 ops sl o.guard
   (xH false P Γ (A9 P Γ B) sl mem nx o.op (fun v mem nx=>g8 s o.dst v mem nx fun s'=>fA P Γ B ops r s' K) fun _ _ _=>False)
   (g8 s o.dst (.tup []) mem nx fun s'=>fA P Γ B ops r s' K)
theorem fA.go{ops l:List Oper}{s:St}{K:St->Prop}(h:JN P Γ B ops l s K):fA P Γ B ops l s K:=by
 refine⟨?_⟩;cases l with
 | nil=>exact h
 | cons o r=>
  have h:j0 ops s.sl o.guard (xH false P Γ (A9 P Γ B) s.sl s.mem s.nx o.op (fun v mem nx=>g8 s o.dst v mem nx fun s'=>fA P Γ B ops r s' K) fun _ _ _=>False) (g8 s o.dst (.tup []) s.mem s.nx fun s'=>fA P Γ B ops r s' K):=h;simp only[mI];rcases oF h with⟨h1,h⟩|⟨h1,h⟩
  ·simp only[h1];rcases tC h with⟨v,m,n,h2,h⟩|⟨h2,F,l,h3,h⟩
   ·obtain⟨s',h4,h⟩:=cO h;simp only[h2,h4];exact h.run
   ·simp only[h2,h3];refine(show aC P Γ F l s.mem s.nx _ from h).mono fun v m n h=>?_
    obtain⟨s',h4,h⟩:=cO h;simp only[h4];exact h.run
  ·obtain⟨s',h4,h⟩:=cO h;simp only[h1,h4];exact h.run
structure Cn(P:Program)(Γ:List (Nat × AV))(B:Nat)(ops:List Oper)(tr:List (List Nat))(base:Nat)(K:St->Prop)(l:List Nat)(recs:List qZ)(s:St):Prop where
 run:iO P Γ (A9 P Γ B) ops tr base K (fun _ _ _=>False) l recs s
def I1(P:Program)(Γ:List (Nat × AV))(B:Nat)(ops:List Oper)(tr:List (List Nat))(base:Nat)(K:St->Prop)(l:List Nat)(recs:List qZ)(s:St):Prop:=
 match l with
 | []=>K s
 | i::r=>match ops[i]? with
  | none=>False
  | some o=>w9 s fun sl mem nx nt=>j0 ops sl o.guard
   (match kind P o.op with
    | .pure=>match still o.op with
     | true=>kJ false P Γ sl [] nx o.op fun v _ _=>g8 s o.dst v mem nx fun s'=>Cn P Γ B ops tr base K r (⟨i,sl,true,v⟩::recs) s'
     | false=>dF (fun p=>Bs tr base ops.length i p.1) mem fun m=>kJ false P Γ sl m nx o.op fun v _ _=>g8 s o.dst v mem nx fun s'=>Cn P Γ B ops tr base K r (⟨i,sl,true,v⟩::recs) s'
    | .al=>g6 (base+i) fun id=>kJ false P Γ sl [] id o.op fun v m _=>match m with
     | [(_,b)]=>g8 s o.dst v ((id,b)::mem) nx fun s'=>Cn P Γ B ops tr base K r (⟨i,sl,true,v⟩::recs) s'
     | _=>False
    | .eff=>dF (fun p=>Bs tr base ops.length i p.1) mem fun m=>xH false P Γ (A9 P Γ B) sl m nx o.op (fun v m nx'=>dF (fun p=>!Bs tr base ops.length i p.1) mem fun rest=>dF (fun p=>!k9 p.1 m) rest fun rest=>qN m rest fun m=>
      g8 s o.dst v m nx' fun s'=>lY false P Γ ops tr base i m nx' recs (Cn P Γ B ops tr base K r recs s')) fun _ _ _=>False)
   (g8 s o.dst (.tup []) mem nx fun s'=>Cn P Γ B ops tr base K r (⟨i,sl,false,.tup []⟩::recs) s')
theorem Cn.go{ops:List Oper}{tr:List (List Nat)}{base:Nat}{K:St->Prop}{l:List Nat}{recs:List qZ}{s:St}(h:I1 P Γ B ops tr base K l recs s):Cn P Γ B ops tr base K l recs s:=by
 refine⟨?_⟩;cases l with
 | nil=>exact h
 | cons i r=>
  simp only[I1] at h;simp only[iO];split at h
  ·exact h.elim
  ·rename_i o ho;simp only[ho];have h:=gG.1 h;rcases oF h with⟨h1,h⟩|⟨h1,h⟩
   ·simp only[h1];split at h
    ·rename_i hkd;simp only[hkd];split at h
     ·rename_i hst;obtain⟨v,m,n,h2,h⟩:=gE (s:={ sl:=s.sl,mem:=[],nx:=s.nx,nt:=s.nt }) h;obtain⟨m',n',h2'⟩:=kA (s:={ sl:=s.sl,mem:=[],nx:=s.nx,nt:=s.nt }) (s':={ s with mem:=bN tr base ops.length i s.mem }) hst rfl h2;obtain⟨s',h3,h⟩:=cO h;simp only[h2',h3];exact h.run
     ·have h:=bF.1 h;obtain⟨v,m,n,h2,h⟩:=gE (s:={ s with mem:=bN tr base ops.length i s.mem }) h;obtain⟨s',h3,h⟩:=cO h;simp only[h2,h3];exact h.run
    ·rename_i hkd;simp only[hkd];have h:=bL.1 h;obtain⟨v,m,n,h2,h⟩:=gE (s:={ s with mem:=[],nx:=base+i }) h;simp only[h2];split at h
     ·obtain⟨s',h3,h⟩:=cO h;simp only[h3];exact h.run
     ·exact h.elim
    ·rename_i hkd;simp only[hkd];have h:=bF.1 h;rcases tC (s:={ s with mem:=bN tr base ops.length i s.mem }) h with⟨v,m,n,h2,h⟩|⟨h2,F,l,h3,h⟩
     ·simp only[h2];have h:=cS.1 (bF.1 (bF.1 h));obtain⟨s',h3,h⟩:=cO h;have h3:bY s o.dst v (m++kV m (cT tr base ops.length i s.mem)) n=some s':=h3;simp only[h3];obtain⟨e1,e2,_⟩:=cZ h3;have h:lY false P Γ ops tr base i (m++kV m (cT tr base ops.length i s.mem)) n recs (Cn P Γ B ops tr base K r recs s'):=h;rw[←e1,←e2] at h;obtain⟨h4,h⟩:=iK h;exact⟨h4,h.run⟩
     ·rw[kS (s':=s) (fun x _=>by cases x<;>rfl)] at h3;simp only[h2,h3];refine(show aC P Γ F l _ _ _ from h).mono fun v m n h=>?_
      have h:=cS.1 (bF.1 (bF.1 h));obtain⟨s',h3,h⟩:=cO h;have h3:bY s o.dst v (m++kV m (cT tr base ops.length i s.mem)) n=some s':=h3;simp only[h3];obtain⟨e1,e2,_⟩:=cZ h3;have h:lY false P Γ ops tr base i (m++kV m (cT tr base ops.length i s.mem)) n recs (Cn P Γ B ops tr base K r recs s'):=h;rw[←e1,←e2] at h;obtain⟨h4,h⟩:=iK h;exact⟨h4,h.run⟩
   ·obtain⟨s',h3,h⟩:=cO h;simp only[h1,h3];exact h.run
def Gn(P:Program)(Γ:List (Nat × AV))(B:Nat)(ops:List Oper)(s:St)(Q:Exit->St->Prop):Prop:=
 match P.follows .mixedOrders with
 | true=>match rK P ops (nE P ops ops.length [] (o7 ops.length)) with
  | true=>w9 s fun sl mem nx nt=>g6 (nx+ops.length) fun n=>mH (nE P ops ops.length [] (o7 ops.length)) fun ord=>Cn P Γ B ops (Ce ops []) nx (fun s'=>Q .normal s') ord [] ⟨sl,mem,n,nt⟩
  | false=>False
 | false=>False
def H1(Q:Exit->St->Prop)(e:Exit)(s:St):Prop:=
 match e with
 | .goto _=>False
 | e=>Q e s
def IV(P:Program)(Γ:List (Nat × AV))(B:Nat)(c:Code)(s:St)(Q:Exit->St->Prop):Prop:=
 match c with
 | .skip=>Q .normal s
 | .seq x y=>cJ P Γ B x s (Ge P Γ B y Q)
 | .cond c x y=>w9 s fun sl _ _ _=>dW Γ sl c fun v=>match v with
  | .bool b=>EP b (cJ P Γ B x s Q) (cJ P Γ B y s Q)
  | _=>False
 | .block id c=>cJ P Γ B c s (Ew id Q)
 | .loop c=>bH P Γ B c s Q
 | .label _=>Q .normal s
 | .scope c=>cJ P Γ B c s (H1 Q)
 | .exit i=>Q (.exit i) s
 | .ret=>Q .ret s
 | .region _ ops draw=>match draw with
  | false=>fA P Γ B ops.toList ops.toList s fun s'=>Q .normal s'
  | true=>Gn P Γ B ops.toList s Q
 | .rangeFunc g ps ca cb=>oV false P Γ (A9 P Γ B) (.rangeFunc g ps ca cb) s Q
 | _=>False
theorem cJ.go{c:Code}{s:St}{Q:Exit->St->Prop}(h:IV P Γ B c s Q):cJ P Γ B c s Q:=by
 cases c with
 | skip=>exact bR (cl:=false) kU .skip s Q h
 | exit i=>exact bR (cl:=false) kU (.exit i) s Q h
 | ret=>exact bR (cl:=false) kU .ret s Q h
 | loop c=>exact(show bH P Γ B c s Q from h).run
 | label l=>exact bR (cl:=false) kU (.label l) s Q h
 | rangeFunc g ps ca cb=>exact bR (cl:=false) kU (.rangeFunc g ps ca cb) s Q h
 | scope c=>
  have h:cJ P Γ B c s (H1 Q):=h;refine⟨fun rd X ds D ρ a w hD hs hB hr=>rZ (wpIn_mono (h.run rd X ds D ρ a w hD hs hB hr.scope) ?_)⟩;rintro e a' w' ⟨s',ρ',hq,hB',hs',hext⟩;cases e with
  | goto l=>exact(show False from hq).elim
  | normal=>exact⟨s',ρ',hq,hB',hs',hext⟩
  | exit i=>exact⟨s',ρ',hq,hB',hs',hext⟩
  | ret=>exact⟨s',ρ',hq,hB',hs',hext⟩
  | panic c=>exact⟨s',ρ',hq,hB',hs',hext⟩
  | outgrown=>exact⟨s',ρ',hq,hB',hs',hext⟩
 | seq x y=>
  have h:cJ P Γ B x s (Ge P Γ B y Q):=h;refine⟨fun rd X ds D ρ a w hD hs hB hr=>wpIn_seq (wpIn_mono (h.run rd X ds D ρ a w hD hs hB hr.seq1) ?_)⟩;rintro e a' w' ⟨s',ρ',hq,hB',hs',hext⟩;cases e with
  | normal=>
   refine wpIn_mono ((show cJ P Γ B y s' Q from hq).run rd X ds D ρ' a' w' hD hs' hB' hr.seq2) ?_;rintro e a2 w2 ⟨s2,ρ2,h1,h2,h3,h4⟩;exact⟨s2,ρ2,h1,h2,h3,hext.trans h4⟩
  | exit i=>exact⟨s',ρ',hq,hB',hs',hext⟩
  | goto l=>exact⟨s',ρ',hq,hB',hs',hext⟩
  | ret=>exact⟨s',ρ',hq,hB',hs',hext⟩
  | panic c=>exact⟨s',ρ',hq,hB',hs',hext⟩
  | outgrown=>exact⟨s',ρ',hq,hB',hs',hext⟩
 | cond c x y=>
  have h:dW Γ s.sl c fun v=>match v with
   | .bool b=>EP b (cJ P Γ B x s Q) (cJ P Γ B y s Q)
   | _=>False:=h
  obtain⟨v,h1,h⟩:=aX h;split at h
  ·rename_i b;refine⟨fun rd X ds D ρ a w hD hs hB hr=>?_⟩;have hv:=aB hs h1;generalize he:a.eval c=cv at hv;cases hv;cases b with
   | true=>exact wpIn_cond_true he ((show cJ P Γ B x s Q from h).run rd X ds D ρ a w hD hs hB hr.cond1)
   | false=>exact wpIn_cond_false he ((show cJ P Γ B y s Q from h).run rd X ds D ρ a w hD hs hB hr.cond2)
  ·exact h.elim
 | block id c=>
  have h:cJ P Γ B c s (Ew id Q):=h;refine⟨fun rd X ds D ρ a w hD hs hB hr=>wpIn_block (wpIn_mono (h.run rd X ds D ρ a w hD hs hB hr.block) ?_)⟩;rintro e a' w' ⟨s',ρ',hq,hB',hs',hext⟩;cases e with
  | exit i=>
   simp only[Exit.inBlock];simp only[Ew] at hq;split at hq
   ·rename_i hi;rw[Jb (Nat.eq_of_beq_eq_true hi)];exact⟨s',ρ',hq,hB',hs',hext⟩
   ·rename_i hi;rw[Ja (J5 hi)];exact⟨s',ρ',hq,hB',hs',hext⟩
  | normal=>exact⟨s',ρ',hq,hB',hs',hext⟩
  | goto l=>exact⟨s',ρ',hq,hB',hs',hext⟩
  | ret=>exact⟨s',ρ',hq,hB',hs',hext⟩
  | panic c=>exact⟨s',ρ',hq,hB',hs',hext⟩
  | outgrown=>exact⟨s',ρ',hq,hB',hs',hext⟩
 | region id ops draw=>
  cases draw with
  | false=>exact o4 kU (.region id ops false) s Q (qX (show fA P Γ B ops.toList ops.toList s _ from h).run)
  | true=>
   refine o4 kU (.region id ops true) s Q ?_;have h:Gn P Γ B ops.toList s Q:=h;unfold Gn at h;simp only[tX];split at h
   ·rename_i hmix;simp only[hmix];split at h
    ·rename_i hok;simp only[zT,hok];exact lO (fI.1 (bL.1 (gG.1 h))).run
    ·exact h.elim
   ·exact h.elim
 | _=>exact(show False from h).elim
theorem aN{F:FuncId}{fn:Func}{c:Code}{args:List AV}{mem:aA}{nx:Nat}{Q:AV->aA->Nat->Prop}(hΓ:∀p∈Γ,NN p.2)(hf:P.funcs[F]? = some fn)(hb:fn.body=some c)
  (h:mJ fn.ntmps args mem nx fun s=>cJ P Γ nx c s (GY P fn.results.toList (Az nx Q))) (hF:Nat.beq F YF=false:=by rfl):aC P Γ F args mem nx Q:=
 (mB hf hb ((fB h).mono fun _ _ h=>Dn h) hF).turn hΓ
def HU{α:Type}(B:Nat)(R:α->Prop)(I:α->St)(μ:α->Nat)(x:α)(Q:Exit->St->Prop)(e:Exit)(s:St):Prop:=
 match e with
 | .normal=>Ct B R I μ x s
 | e=>Q e s
theorem bH.at{c:Code}{s:St}{Q:Exit->St->Prop}{α:Type}(hΓ:∀p∈Γ,NN p.2)(R:α->Prop)(I:α->St)(μ:α->Nat)(x:α)(σ:List (Nat × Nat))(hx:R x)(h0:Conv B σ s (I x))
  (h:∀x,R x->cJ P Γ B c (I x) (HU B R I μ x Q)):bH P Γ B c s Q:=by
 refine⟨cJ.conv hΓ h0 ?_⟩;refine cJ.loop (α:={ x:α // R x }) hΓ (fun x=>I x.1) (fun x=>μ x.1) (fun x=>?_) ⟨x,hx⟩;refine(h x.1 x.2).mono fun e s h=>?_
 cases e with
 | normal=>
  obtain⟨y,σ,hy,hc,hlt⟩:=(show Ct B R I μ x.1 s from h)
  exact⟨⟨y,hy⟩,σ,hc,hlt⟩
 | exit i=>exact h
 | goto l=>exact h
 | ret=>exact h
 | panic c=>exact h
 | outgrown=>exact h
theorem bH.ph{c:Code}{s:St}{Q:Exit->St->Prop}(t:TypeId)(sz:Nat)(h:bH P Γ B c ⟨s.sl,(s.nx,.row t sz [])::s.mem,s.nx+1,s.nt⟩ Q):bH P Γ B c s Q:=⟨cJ.ph t sz h.run⟩
def DJ(P:Program)(Γ:List (Nat × AV))(B:Nat)(ops:List Oper)(K:St->Prop)(next:List Oper->St->Prop)(l:List Oper)(s:St):Prop:=
 match l with
 | []=>K s
 | o::r=>w9 s fun sl mem nx nt=>j0 ops sl o.guard
   (xH false P Γ (A9 P Γ B) sl mem nx o.op (fun v mem nx=>g8 s o.dst v mem nx fun s'=>next r s') fun _ _ _=>False)
   (g8 s o.dst (.tup []) mem nx fun s'=>next r s')
theorem iM{ops:List Oper}{K:St->Prop}{next:List Oper->St->Prop}(hn:∀r s,next r s->fA P Γ B ops r s K){l:List Oper}{s:St}(h:DJ P Γ B ops K next l s):fA P Γ B ops l s K:=by
 refine⟨?_⟩;cases l with
 | nil=>exact h
 | cons o r=>
  have h:j0 ops s.sl o.guard (xH false P Γ (A9 P Γ B) s.sl s.mem s.nx o.op (fun v mem nx=>g8 s o.dst v mem nx fun s'=>next r s') fun _ _ _=>False) (g8 s o.dst (.tup []) s.mem s.nx fun s'=>next r s'):=h;simp only[mI];rcases oF h with⟨h1,h⟩|⟨h1,h⟩
  ·simp only[h1];rcases tC h with⟨v,m,n,h2,h⟩|⟨h2,F,l,h3,h⟩
   ·obtain⟨s',h4,h⟩:=cO h;simp only[h2,h4];exact(hn _ _ h).run
   ·simp only[h2,h3];refine(show aC P Γ F l s.mem s.nx _ from h).mono fun v m n h=>?_
    obtain⟨s',h4,h⟩:=cO h;simp only[h4];exact(hn _ _ h).run
  ·obtain⟨s',h4,h⟩:=cO h;simp only[h1,h4];exact(hn _ _ h).run
def ET(P:Program)(Γ:List (Nat × AV))(B:Nat)(next:Code->St->(Exit->St->Prop)->Prop)(c:Code)(s:St)(Q:Exit->St->Prop):Prop:=
 match c with
 | .seq x y=>next x s (Ge P Γ B y Q)
 | .block id c=>next c s (Ew id Q)
 | c=>IV P Γ B c s Q
theorem j9{next:Code->St->(Exit->St->Prop)->Prop}(hn:∀c s Q,next c s Q->cJ P Γ B c s Q){c:Code}{s:St}{Q:Exit->St->Prop}(h:ET P Γ B next c s Q):cJ P Γ B c s Q:=by
 cases c with
 | seq x y=>exact cJ.go (show IV P Γ B (.seq x y) s Q from hn _ _ _ h)
 | block id c=>exact cJ.go (show IV P Γ B (.block id c) s Q from hn _ _ _ h)
 | _=>exact cJ.go h
def Hq(P:Program)(Γ:List (Nat × AV))(B:Nat)(ops:List Oper)(K:St->Prop)(l:List Oper)(s:St):Prop:=fA P Γ B ops l s K
theorem E9{ops:List Oper}{K:St->Prop}(l:List Oper)(s:St)(h:Hq P Γ B ops K l s):fA P Γ B ops l s K:=h
def IG(P:Program)(Γ:List (Nat × AV))(B:Nat)(ops:List Oper)(K:St->Prop)(l:List Oper)(s:St):Prop:=DJ P Γ B ops K (Hq P Γ B ops K) l s
theorem FS{ops:List Oper}{K:St->Prop}(l:List Oper)(s:St)(h:IG P Γ B ops K l s):fA P Γ B ops l s K:=iM E9 h
def IL(P:Program)(Γ:List (Nat × AV))(B:Nat)(ops:List Oper)(K:St->Prop)(l:List Oper)(s:St):Prop:=DJ P Γ B ops K (IG P Γ B ops K) l s
theorem Ek{ops:List Oper}{K:St->Prop}(l:List Oper)(s:St)(h:IL P Γ B ops K l s):fA P Γ B ops l s K:=iM FS h
def H8(P:Program)(Γ:List (Nat × AV))(B:Nat)(ops:List Oper)(K:St->Prop)(l:List Oper)(s:St):Prop:=DJ P Γ B ops K (IL P Γ B ops K) l s
theorem El{ops:List Oper}{K:St->Prop}(l:List Oper)(s:St)(h:H8 P Γ B ops K l s):fA P Γ B ops l s K:=iM Ek h
def Hr(P:Program)(Γ:List (Nat × AV))(B:Nat)(ops:List Oper)(K:St->Prop)(l:List Oper)(s:St):Prop:=DJ P Γ B ops K (H8 P Γ B ops K) l s
theorem E1{ops:List Oper}{K:St->Prop}(l:List Oper)(s:St)(h:Hr P Γ B ops K l s):fA P Γ B ops l s K:=iM El h
def IE(P:Program)(Γ:List (Nat × AV))(B:Nat)(ops:List Oper)(K:St->Prop)(l:List Oper)(s:St):Prop:=DJ P Γ B ops K (Hr P Γ B ops K) l s
theorem FX{ops:List Oper}{K:St->Prop}(l:List Oper)(s:St)(h:IE P Γ B ops K l s):fA P Γ B ops l s K:=iM E1 h
def Hj(P:Program)(Γ:List (Nat × AV))(B:Nat)(ops:List Oper)(K:St->Prop)(l:List Oper)(s:St):Prop:=DJ P Γ B ops K (IE P Γ B ops K) l s
theorem Fh{ops:List Oper}{K:St->Prop}(l:List Oper)(s:St)(h:Hj P Γ B ops K l s):fA P Γ B ops l s K:=iM FX h
def HC(P:Program)(Γ:List (Nat × AV))(B:Nat)(ops:List Oper)(K:St->Prop)(l:List Oper)(s:St):Prop:=DJ P Γ B ops K (Hj P Γ B ops K) l s
theorem FL{ops:List Oper}{K:St->Prop}(l:List Oper)(s:St)(h:HC P Γ B ops K l s):fA P Γ B ops l s K:=iM Fh h
def Hx(P:Program)(Γ:List (Nat × AV))(B:Nat)(ops:List Oper)(K:St->Prop)(l:List Oper)(s:St):Prop:=DJ P Γ B ops K (HC P Γ B ops K) l s
theorem EY{ops:List Oper}{K:St->Prop}(l:List Oper)(s:St)(h:Hx P Γ B ops K l s):fA P Γ B ops l s K:=iM FL h
def IA(P:Program)(Γ:List (Nat × AV))(B:Nat)(ops:List Oper)(K:St->Prop)(l:List Oper)(s:St):Prop:=DJ P Γ B ops K (Hx P Γ B ops K) l s
theorem FD{ops:List Oper}{K:St->Prop}(l:List Oper)(s:St)(h:IA P Γ B ops K l s):fA P Γ B ops l s K:=iM EY h
def Dz(P:Program)(Γ:List (Nat × AV))(B:Nat)(ops:List Oper)(K:St->Prop)(l:List Oper)(s:St):Prop:=DJ P Γ B ops K (IA P Γ B ops K) l s
theorem Dq{ops:List Oper}{K:St->Prop}(l:List Oper)(s:St)(h:Dz P Γ B ops K l s):fA P Γ B ops l s K:=iM FD h
theorem fA.many{ops l:List Oper}{s:St}{K:St->Prop}(h:Dz P Γ B ops K l s):fA P Γ B ops l s K:=Dq l s h
def Hb(P:Program)(Γ:List (Nat × AV))(B:Nat)(c:Code)(s:St)(Q:Exit->St->Prop):Prop:=cJ P Γ B c s Q
theorem Ej(c:Code)(s:St)(Q:Exit->St->Prop)(h:Hb P Γ B c s Q):cJ P Γ B c s Q:=h
def G7(P:Program)(Γ:List (Nat × AV))(B:Nat)(c:Code)(s:St)(Q:Exit->St->Prop):Prop:=ET P Γ B (Hb P Γ B) c s Q
theorem Ec(c:Code)(s:St)(Q:Exit->St->Prop)(h:G7 P Γ B c s Q):cJ P Γ B c s Q:=j9 Ej h
def Hu(P:Program)(Γ:List (Nat × AV))(B:Nat)(c:Code)(s:St)(Q:Exit->St->Prop):Prop:=ET P Γ B (G7 P Γ B) c s Q
theorem FA(c:Code)(s:St)(Q:Exit->St->Prop)(h:Hu P Γ B c s Q):cJ P Γ B c s Q:=j9 Ec h
def IC(P:Program)(Γ:List (Nat × AV))(B:Nat)(c:Code)(s:St)(Q:Exit->St->Prop):Prop:=ET P Γ B (Hu P Γ B) c s Q
theorem EZ(c:Code)(s:St)(Q:Exit->St->Prop)(h:IC P Γ B c s Q):cJ P Γ B c s Q:=j9 FA h
def HF(P:Program)(Γ:List (Nat × AV))(B:Nat)(c:Code)(s:St)(Q:Exit->St->Prop):Prop:=ET P Γ B (IC P Γ B) c s Q
theorem E8(c:Code)(s:St)(Q:Exit->St->Prop)(h:HF P Γ B c s Q):cJ P Γ B c s Q:=j9 EZ h
def Ha(P:Program)(Γ:List (Nat × AV))(B:Nat)(c:Code)(s:St)(Q:Exit->St->Prop):Prop:=ET P Γ B (HF P Γ B) c s Q
theorem FP(c:Code)(s:St)(Q:Exit->St->Prop)(h:Ha P Γ B c s Q):cJ P Γ B c s Q:=j9 E8 h
def Hz(P:Program)(Γ:List (Nat × AV))(B:Nat)(c:Code)(s:St)(Q:Exit->St->Prop):Prop:=ET P Γ B (Ha P Γ B) c s Q
theorem Ep(c:Code)(s:St)(Q:Exit->St->Prop)(h:Hz P Γ B c s Q):cJ P Γ B c s Q:=j9 FP h
def HH(P:Program)(Γ:List (Nat × AV))(B:Nat)(c:Code)(s:St)(Q:Exit->St->Prop):Prop:=ET P Γ B (Hz P Γ B) c s Q
theorem Ea(c:Code)(s:St)(Q:Exit->St->Prop)(h:HH P Γ B c s Q):cJ P Γ B c s Q:=j9 Ep h
def GT(P:Program)(Γ:List (Nat × AV))(B:Nat)(c:Code)(s:St)(Q:Exit->St->Prop):Prop:=ET P Γ B (HH P Γ B) c s Q
theorem Fg(c:Code)(s:St)(Q:Exit->St->Prop)(h:GT P Γ B c s Q):cJ P Γ B c s Q:=j9 Ea h
theorem cJ.many{c:Code}{s:St}{Q:Exit->St->Prop}(h:GT P Γ B c s Q):cJ P Γ B c s Q:=Fg c s Q h
class XG(p:Prop)(q:outParam Prop):Prop where
 h:q->p
instance{c:Code}{s:St}{Q:Exit->St->Prop}:XG (cJ P Γ B c s Q) (GT P Γ B c s Q):=⟨cJ.many⟩
instance{ops l:List Oper}{s:St}{K:St->Prop}:XG (fA P Γ B ops l s K) (Dz P Γ B ops K l s):=⟨fA.many⟩
instance{ops:List Oper}{tr:List (List Nat)}{base:Nat}{K:St->Prop}{l:List Nat}{recs:List qZ}{s:St}:XG (Cn P Γ B ops tr base K l recs s) (I1 P Γ B ops tr base K l recs s):=⟨Cn.go⟩
theorem Xg{p q:Prop}[i:XG p q](x:q):p:=i.h x
theorem Rr{p q:Prop}(x:q)(e:q->p:=by(intro x;(conv=>whnf);(repeat(refine Xg ?_;conv=>whnf));exact x)):p:=e x
end
end Go.Ax
namespace Go.Ax
open Go
def tY(i:Nat):List Nat->Bool
 | []=>false
 | j::r=>match Nat.beq j i with
  | true=>true
  | false=>tY i r
def iY(ids:List Nat):aA->aA
 | []=>[]
 | (k,b)::r=>match tY k ids with
  | true=>(k,b)::iY ids r
  | false=>iY ids r
def gB(ids:List Nat):aA->aA
 | []=>[]
 | (k,b)::r=>match tY k ids with
  | true=>gB ids r
  | false=>(k,b)::gB ids r
def Cl:List Nat->List (Nat × Nat)
 | []=>[]
 | i::r=>(i,i)::Cl r
def Bw(n:Nat):List Nat->Bool
 | []=>true
 | i::r=>Nat.blt i n && Bw n r
def sX(ids:List Nat):aA->Bool
 | []=>true
 | (k,_)::r=>tY k ids && sX ids r
theorem bZ{ids:List Nat}:∀{m:aA} {p:Nat × AB},p∈iY ids m↔p∈m/\tY p.1 ids=true
 | [],p=>by simp[iY]
 | (k,b)::r,p=>by
  simp only[iY];split
  ·rename_i h;rw[JQ,bZ (m:=r),JQ];constructor
   ·rintro(rfl|⟨h1,h2⟩)
    ·exact⟨.inl rfl,h⟩
    ·exact⟨.inr h1,h2⟩
   ·rintro⟨rfl|h1,h2⟩
    ·exact .inl rfl
    ·exact .inr ⟨h1,h2⟩
  ·rename_i h;rw[bZ (m:=r),JQ];constructor
   ·rintro⟨h1,h2⟩;exact⟨.inr h1,h2⟩
   ·rintro⟨rfl|h1,h2⟩
    ·rw[h] at h2;cases h2
    ·exact⟨h1,h2⟩
theorem bK{ids:List Nat}:∀{m:aA} {p:Nat × AB},p∈gB ids m↔p∈m/\tY p.1 ids=false
 | [],p=>by simp[gB]
 | (k,b)::r,p=>by
  simp only[gB];split
  ·rename_i h;rw[bK (m:=r),JQ];constructor
   ·rintro⟨h1,h2⟩;exact⟨.inr h1,h2⟩
   ·rintro⟨rfl|h1,h2⟩
    ·rw[h] at h2;cases h2
    ·exact⟨h1,h2⟩
  ·rename_i h;rw[JQ,bK (m:=r),JQ];constructor
   ·rintro(rfl|⟨h1,h2⟩)
    ·exact⟨.inl rfl,h⟩
    ·exact⟨.inr h1,h2⟩
   ·rintro⟨rfl|h1,h2⟩
    ·exact .inl rfl
    ·exact .inr ⟨h1,h2⟩
theorem gK{ids:List Nat}:∀(m:aA),(iY ids m).Sublist m
 | []=>by simp[iY]
 | (k,b)::r=>by
  simp only[iY];split
  ·exact(gK r).cons_cons _
  ·exact(gK r).cons _
theorem gI{ids:List Nat}:∀(m:aA),(gB ids m).Sublist m
 | []=>by simp[gB]
 | (k,b)::r=>by
  simp only[gB];split
  ·exact(gI r).cons _
  ·exact(gI r).cons_cons _
theorem sF:∀{ids:List Nat} {i j:Nat},lk (Cl ids) i=some j->i=j/\tY i ids=true
 | [],i,j,h=>by simp[Cl,lk] at h
 | k::r,i,j,h=>by
  simp only[Cl,lk] at h;split at h
  ·rename_i e;cases h;exact⟨(Nat.eq_of_beq_eq_true e).symm,by simp only[tY,e]⟩
  ·rename_i e;obtain⟨h1,h2⟩:=sF h;exact⟨h1,by simp only[tY,e];exact h2⟩
theorem EC:∀{ids:List Nat} {i:Nat},tY i ids=true->lk (Cl ids) i=some i
 | [],i,h=>by simp[tY] at h
 | k::r,i,h=>by
  simp only[tY] at h;simp only[Cl,lk];split at h
  ·rename_i e;rw[e,Nat.eq_of_beq_eq_true e]
  ·rename_i e;rw[e];exact EC h
theorem kN:∀{ids:List Nat} {n i:Nat},Bw n ids=true->tY i ids=true->i<n
 | [],n,i,_,h=>by simp[tY] at h
 | k::r,n,i,h1,h=>by
  simp only[Bw,JU] at h1;simp only[tY] at h;split at h
  ·rename_i e;rw[←Nat.eq_of_beq_eq_true e];exact JR h1.1
  ·exact kN h1.2 h
theorem jR:∀{m:aA} {ids:List Nat},sX ids m=true->∀p∈m,tY p.1 ids=true
 | [],ids,_,p,hp=>by cases hp
 | (k,b)::r,ids,h,p,hp=>by
  simp only[sX,JU] at h;rcases JQ.1 hp with rfl|hp
  ·exact h.1
  ·exact jR h.2 p hp
theorem aC.useI{P:Program}{Γ:List (Nat × AV)}{F:FuncId}{args args':List AV}{ms mem:aA}{ns nx:Nat}{Qs K:AV->aA->Nat->Prop}(hΓ:∀p∈Γ,NN p.2)(ids:List Nat)(h:aC P Γ F args' ms ns Qs)
  (hp:iY ids mem=ms) (hargs:m7 ms (Cl ids) args args') (hM:dE ms (Cl ids) ms) (hc:(pJ ms && Bw ns ids)=true)
  (hk:∀r m n,Qs r m n->NN r/\dE m (Cl ids) m/\(pJ m && sX ids m)=true/\K r (m++gB ids mem) nx):aC P Γ F args mem nx K:=by
 simp only[JU] at hc;refine⟨fun X D ρ w vs hD hm hv=>?_⟩;have hinj:D1 (Cl ids):=fun i j k h1 h2=>by
  have a:=(sF h1).1;have b:=(sF h2).1;omega
 refine(aC.use (K:=K) (nx:=nx) hΓ h (Cl ids) (m1:=ms) (rest:=gB ids mem) ⟨fun p hp'=>?_,fun p hp'=>(bK.1 hp').1,fun p hp'=>?_,fun p h1 q h2=>?_, ?_⟩ ?_ hargs hM.cvm (cG hc.1) hinj (fun id i hl=>?_) ?_).run X D ρ w vs hD hm hv
 ·rw[←hp] at hp';exact(bZ.1 hp').1
 ·cases hi:tY p.1 ids with
  | true=>left;rw[←hp];exact bZ.2 ⟨hp',hi⟩
  | false=>right;exact bK.2 ⟨hp',hi⟩
 ·rw[←hp] at h1;have a:=(bZ.1 h1).2;have b:=(bK.1 h2).2;intro e;rw[e,b] at a;cases a
 ·rw[←hp];exact hm.nod.sublist ((gK mem).map _)
 ·exact hm.nod.sublist ((gI mem).map _)
 ·obtain⟨h1,h2⟩:=sF hl;rw[←h1];exact kN hc.2 h2
 ·intro r m n hq hn;obtain⟨h1,h2,h3,h4⟩:=hk r m n hq;simp only[JU] at h3;refine⟨Cl ids,r,m,nx,JX _,.same r h1,h2.cvm,cG h3.1,hinj,fun i id hl=>?_,fun p h5 q h6=>?_,h4⟩
  ·obtain⟨e1,e2⟩:=sF hl;subst e1;exact .inl ⟨kN hc.2 e2,EC e2⟩
  ·have a:=jR h3.2 p h5;have b:=(bK.1 h6).2;intro e;rw[e,b] at a;cases a
def kD:List (Nat × Nat)->List Nat
 | []=>[]
 | (i,_)::r=>i::kD r
def wG:List (Nat × Nat)->List (Nat × Nat)
 | []=>[]
 | (i,j)::r=>(j,i)::wG r
def sZ(n:Nat):List (Nat × Nat)->Bool
 | []=>true
 | (_,j)::r=>Nat.blt j n && sZ n r
theorem sC:∀{σ:List (Nat × Nat)} {i j:Nat},(j,i)∈wG σ↔(i,j)∈σ
 | [],i,j=>by simp[wG]
 | (a,b)::r,i,j=>by
  simp only[wG,JQ,sC (σ:=r),Prod.mk.injEq];constructor
  ·rintro(⟨rfl,rfl⟩|h)
   ·exact .inl ⟨rfl,rfl⟩
   ·exact .inr h
  ·rintro(⟨rfl,rfl⟩|h)
   ·exact .inl ⟨rfl,rfl⟩
   ·exact .inr h
theorem Cj{σ:List (Nat × Nat)}(h:n9 (wG σ)=true){i j:Nat}(hm:(i,j)∈σ):lk σ i=some j:=by
 induction σ with
 | nil=>cases hm
 | cons p r ih=>
  obtain⟨a,b⟩:=p;simp only[wG,n9,JU] at h;simp only[lk];rcases JQ.1 hm with e|hm'
  ·cases e;simp
  ·have hne:a≠i:=by
    intro e;subst e;exact iG h.1 _ (sC.2 hm') rfl
   rw[aO hne];exact ih h.2 hm'
theorem gF:∀{σ:List (Nat × Nat)} {n:Nat},sZ n σ=true->∀p∈σ,p.2<n
 | [],n,_,p,hp=>by cases hp
 | (a,b)::r,n,h,p,hp=>by
  simp only[sZ,JU] at h;rcases JQ.1 hp with rfl|hp
  ·exact JR h.1
  ·exact gF h.2 p hp
theorem aC.useR{P:Program}{Γ:List (Nat × AV)}{F:FuncId}{args args':List AV}{ms mem m1:aA}{ns nx:Nat}{Qs K:AV->aA->Nat->Prop}(hΓ:∀p∈Γ,NN p.2)(σ:List (Nat × Nat))(h:aC P Γ F args' ms ns Qs)
  (hp:iY (kD σ) mem=m1) (hargs:m7 m1 σ args args') (hM:dE m1 σ ms) (hc:(pJ ms && (n9 σ && (n9 (wG σ) && sZ ns σ)))=true)
  (hk:∀r m n,Qs r m n->∃m',NN r/\dE m (wG σ) m'/\(pJ m' && sX (kD σ) m')=true/\K r (m'++gB (kD σ) mem) nx):aC P Γ F args mem nx K:=by
 simp only[JU] at hc;obtain⟨hc1,hc2,hc3,hc4⟩:=hc;refine⟨fun X D ρ w vs hD hm hv=>?_⟩;refine(aC.use (K:=K) (nx:=nx) hΓ h σ (m1:=m1) (rest:=gB (kD σ) mem) ⟨fun p hp'=>?_,fun p hp'=>(bK.1 hp').1,fun p hp'=>?_,fun p h1 q h2=>?_, ?_⟩ ?_ hargs hM.cvm (cG hc1) (mW hc2) (fun id i hl=>gF hc4 _ (aG hl)) ?_).run X D ρ w vs hD hm hv
 ·rw[←hp] at hp';exact(bZ.1 hp').1
 ·cases hi:tY p.1 (kD σ) with
  | true=>left;rw[←hp];exact bZ.2 ⟨hp',hi⟩
  | false=>right;exact bK.2 ⟨hp',hi⟩
 ·rw[←hp] at h1;have a:=(bZ.1 h1).2;have b:=(bK.1 h2).2;intro e;rw[e,b] at a;cases a
 ·rw[←hp];exact hm.nod.sublist ((gK mem).map _)
 ·exact hm.nod.sublist ((gI mem).map _)
 ·intro r m n hq hn;obtain⟨m',h1,h2,h3,h4⟩:=hk r m n hq;simp only[JU] at h3;refine⟨wG σ,r,m',nx,JX _,.same r h1,h2.cvm,cG h3.1,mW hc3,fun i id hl=>?_,fun p h5 q h6=>?_,h4⟩
  ·have hmem:=sC.1 (aG hl);exact .inl ⟨gF hc4 _ hmem,Cj hc3 hmem⟩
  ·have a:=jR h3.2 p h5;have b:=(bK.1 h6).2;intro e;rw[e,b] at a;cases a
end Go.Ax
namespace Go.Ax
open Go
def Cr(w w':World):Prop:=w.heap.size<=w'.heap.size/\(∀b,b<w.heap.size->w'.heap[b]? = w.heap[b]?)/\t7 w w'
theorem Cr.refl(w:World):Cr w w:=⟨JX _,fun _ _=>rfl,.refl _⟩
section
variable {P:Program} {Γ:List (Nat × AV)} {F:FuncId} {args:List AV} {r:AV}
def F8(Γ:List (Nat × AV))(w:World):Prop:=∀p∈Γ,∀(j:Nat) (c:AV),p.2.cells[j]? = some c->∃x ρ D O,w.cell? ⟨p.1,j,none⟩=some x/\VR ρ D O w c x
theorem MR.knows{X:Nat->Prop}{ρ:Nat->bC}{D:Nat->Prop}{mem:aA}{w:World}(hm:MR Γ X ρ D mem w):F8 Γ w:=by
 intro p hp j c hc;have:=hm.glo p hp;cases this with
 | ip _ _ _ f h1 h2=>exact⟨f j,ρ,D,_,by have:=(h1 j c hc).2.1;rwa [Jt] at this,h2 j c hc⟩
theorem sV{vs:List Value}(hargs:∀(ρ:Nat->bC) (D O:Nat->Prop) (w:World) (xs:List Value),dS ρ D O w args xs->xs=vs)
  (h:∀w,F8 Γ w->Calls P F vs.toArray w fun e w'=>∃x,e = .returned x/\(∀(ρ:Nat->bC) (D O:Nat->Prop) (w:World),VR ρ D O w r x)/\Cr w w') (hF:Nat.beq F YF=false:=by rfl):aR P Γ F args r:=by
 refine⟨fun X D ρ w xs hD hm hv=>?_⟩;obtain rfl:=hargs _ _ _ _ _ hv;refine .of hF ((h w hm.knows).mono ?_);rintro e w' ⟨x,rfl,hx,g1,g2,g3⟩;obtain⟨m1,ext⟩:=hm.still g1 g2 g3;have hsub:∀i,D i->dn D 0 0 i:=fun i hi=>.inl hi
 exact⟨r,x,[],0,ρ,rfl,⟨rfl,rfl,rfl⟩,JX _,(m1.widen hsub).1,hx _ _ _ _,(ext D fun i hi=>hi).wide hsub⟩
theorem vW{ρ:Nat->bC}{D O:Nat->Prop}{w:World}{xs:List Value}{k:IntKind}{n:Int}(h:dS ρ D O w [.int k n] xs):xs=[.int k n]:=by
 obtain⟨hl,hv⟩:=h
 match xs,hl with
 | [x],_=>
  have:=hv 0 _ x rfl rfl;cases this;rfl
end
def fG(l:List UInt8):List AV:=l.map fun b=>.int .u8 (b.toNat:Int)
theorem rD(l:List UInt8):f9 (fG l):=fun a ha=>by
 obtain⟨n,_,rfl⟩:=Jf.1 ha;exact .int _ _
theorem zU(l:List UInt8)(i:Nat):(fG l)[i]? = (l[i]?).map fun b=>.int .u8 (b.toNat:Int):=by rw[fG,Js]
theorem fW(l:List UInt8):(fG l).length=l.length:=by rw[fG,LX]
theorem uY(l:List UInt8)(k:Nat):(fG l).take k=fG (l.take k):=by rw[fG,fG,List.map_take]
theorem uS(l:List UInt8)(k:Nat):(fG l).drop k=fG (l.drop k):=by rw[fG,fG,List.map_drop]
theorem jJ:∀l:List UInt8,cH (fG l)=some l
 | []=>rfl
 | b::r=>by
  show cH (AV.int .u8 (b.toNat:Int)::fG r)=_
  simp only[cH,jJ r];simp
theorem Hn{P:Program}{F:FuncId}{t:TypeId}
  (hF:∀(blk off cap:Nat) (u:Nat) (d:Array UInt8) (w:World),Sort.Holds (fun(b:UInt8)=>Value.int .u8 (b.toNat:Int)) w blk off d->u<10 ^ d.size->u<18446744073709551616->d.size<4611686018427387904 ->
   Calls P F #[.slice (some ⟨blk,off,none⟩) d.size cap,.int .u64 u] w fun e w'=>
    e = .returned (.tuple #[])/\∃(n v':Nat) (dk:Array UInt8),w'=(Sort.putRow (fun(b:UInt8)=>Value.int .u8 (b.toNat:Int)) w blk off dk).drewN n/\Lib.FmtInv d.size u 0 v' dk)
  (xs:List UInt8) (u:Nat) (hu64:u<18446744073709551616) (hlen:1+Lib.nDigits u<=xs.length) (hxl:xs.length<=1000) (hF0:Nat.beq F YF=false:=by rfl) :
  aC P [] F [.sl 0 1 (Lib.nDigits u),.int .u64 u] [(0,.row t 1 (fG xs))] 1 fun r m n=>r = .tup []/\m=[(0,.row t 1 (fG (xs.take 1++Lib.decDigits u++xs.drop (1+Lib.nDigits u))))]:=by
 have hpos:=Lib.nDigits_pos u;refine⟨fun X D ρ w vs hD hm hv=>?_⟩;obtain⟨hl,hv⟩:=hv
 match vs,hl with
 | [s,x],_=>
  have v0:=hv 0 _ s rfl rfl;have v1:=hv 1 _ x rfl rfl;cases v1;have hid:lk [(0,AB.row t 1 (fG xs))] 0=some (.row t 1 (fG xs)):=rfl;have hsz:=kX hm hid;have hn:0<(ρ 0).n:=by
   rcases Jj (ρ 0).n with h0|h0
   ·obtain⟨t',sz',e1,_⟩:=hm.emp _ (aG hid) h0;injection e1 with _ _ e2;have:(fG xs).length=0:=by rw[e2];rfl
    rw[fW] at this;omega
   ·exact h0
  obtain⟨o,ho,hsz',arr,fr,rfl,hf,hs,hle,hrow⟩:=hm.blk _ (aG hid) hn;simp only at ho hsz' hs hle hrow;rw[hsz] at hrow hle;rw[fW,Nat.mul_one] at hle;have hcell:∀(i:Nat) (b:UInt8),xs[i]? = some b->arr[i]? = some (Value.int .u8 (b.toNat:Int)):=by
   intro i b hb;obtain⟨v,hv,_,hr⟩:=(hrow i (.int .u8 (b.toNat:Int)) (by rw[zU,hb];rfl)).2 0 _ rfl;cases hr;simpa using hv
  obtain⟨nd,hnd⟩:∃nd,nd=Lib.nDigits u:=⟨_,rfl⟩
  rw[←hnd] at hpos hlen v0 ⊢;have hso:∃cap,s = .slice (some ⟨(ρ 0).b,1,none⟩) nd cap:=by
   cases v0 with
   | sl _ _ _ cap _ h1 h2=>exact⟨cap,by rw[hsz]⟩
   | slz=>omega
   | slzn=>omega
  obtain⟨cap,rfl⟩:=hso;have hds:(((xs.drop 1).take nd).toArray).size=nd:=by simp;omega
  have hH:Sort.Holds (fun(b:UInt8)=>Value.int .u8 (b.toNat:Int)) w (ρ 0).b 1 ((xs.drop 1).take nd).toArray:=by
   intro j hj;rw[hds] at hj;have hx:xs[1+j]? = some xs[1+j]:=JS om;have hd:(((xs.drop 1).take nd).toArray)[j]! = xs[1+j]:=by
    rw[getElem!_pos _ j om];simp[Nat.add_comm]
   constructor
   ·simp only[World.cell?,ho,hd];exact hcell _ _ hx
   ·simp only[World.frozen?,ho];have:=hf (1+j) om;obtain⟨a,b⟩:=fr;simp only at this ⊢;rw[Ke];simp;omega
  have hcall:=hF (ρ 0).b 1 cap u _ w hH (by rw[hds,hnd];exact Lib.lt_pow_nDigits u) hu64 (by rw[hds];omega);rw[hds] at hcall;refine .of hF0 (hcall.mono ?_);rintro e w' ⟨rfl,n,v',dk,rfl,hinv⟩;have hdk:dk.size=nd:=hinv.size;have hdig:(Lib.decDigits u).length=nd:=by rw[Lib.decDigits_length,hnd]
  rw[hnd] at hinv;have hat:=fun j hj=>Lib.row_is_numeral hinv j hj
  obtain⟨m1,mv,ext⟩:=hm.change (w':=(Sort.putRow (fun(b:UInt8)=>Value.int .u8 (b.toNat:Int)) w (ρ 0).b 1 dk).drewN n) (xs':=fG (xs.take 1++Lib.decDigits u++xs.drop (1+nd))) (arr:=Sort.putCells (fun(b:UInt8)=>Value.int .u8 (b.toNat:Int)) 1 dk arr) (fr:=fr) hid hn
   (by
    apply Ko;intro k
    show (w.heap.modify (ρ 0).b (Sort.onCells _))[k]? = _
    have hlt:=eH hm (.inr ⟨_,aG hid,hn,rfl⟩);simp only at hlt;rw[KB,Ku];by_cases hk:(ρ 0).b=k
    ·subst hk;rw[Jb rfl,Jb rfl,Jb hlt,ho];rfl
    ·rw[Ja hk,Ja hk]) .go (fun j hj=>hf j (by simpa[Sort.putCells] using hj)) (by rw[←hs];simp[Sort.putCells])
   (by
    refine⟨?_,fun i x hi=>?_⟩
    ·rw[fW];simp[Sort.putCells,hdig];omega
    ·rw[zU] at hi;obtain⟨b,hb,rfl⟩:=KG.1 hi;refine⟨rfl,fun j c hj=>?_⟩;cases j with
     | succ j=>simp[AV.cells] at hj
     | zero=>
      simp[AV.cells] at hj;subst hj;refine⟨.int .u8 (b.toNat:Int), ?_,rfl,.int _ _⟩;simp only[Nat.mul_one,KX,Sort.putCells,Array.getElem?_mapIdx];have hil:i<xs.length:=by
       have:=(JT.1 hb).1;simp[hdig] at this;omega
      have hia:arr[i]? = some (.int .u8 (xs[i].toNat:Int)):=hcell i _ (JS hil);rw[hia,KC];congr 1;rw[Kh,Jp] at hb;have htl:(xs.take 1).length=1:=by simp;omega
      rw[htl] at hb;by_cases h1:i<1
      ·rw[Jb h1,Ju,Jb h1,JS hil] at hb;rw[Ja om,Option.some.inj hb]
      ·rw[Ja h1,Jp,hdig] at hb;by_cases h2:i-1<nd
       ·rw[Jb h2,JS om] at hb;rw[Jb om,←hat (i-1) om,Option.some.inj hb]
       ·rw[Ja h2,Jv] at hb;have e:1+nd+(i-1-nd)=i:=om;rw[e,JS hil] at hb;rw[Ja om,Option.some.inj hb])
  have hsub:∀i,D i->dn D 1 1 i:=fun i hi=>.inl hi
  exact⟨.tup [],.tuple #[],_,1,ρ,rfl,⟨rfl,by simp[up]⟩,JX _,(m1.widen hsub).1,.tup [] #[] rfl (by simp),(ext D fun i hi=>hi).wide hsub⟩
end Go.Ax
namespace Go.Ax
open Go Go.RowKit
theorem mV{P:Program}{w:World}{n:String}{g:Nat}{k:IntKind}{zs:List Int}(hg:P.globalNamed n=some g)(hv:Lib.TabIs P w n k zs) :
  VR (fun _=>⟨0,0,0⟩) (fun _=>False) (OX (fun _=>False) (fun _=>⟨0,0,0⟩) []) w (.ip (.agg (zs.map fun z=>AV.int k z))) (.pointer (some ⟨g,0,none⟩)):=by
 refine .ip _ g 0 (fun j=>.int k (zs.getD j 0)) (fun j c hj=>?_) (fun j c hj=>?_)
 ·have hj0:j<zs.length:=by have:=(JT.1 hj).1;simpa[AV.cells] using this
  exact⟨Do _ _,by simpa using hv.cell hg j hj0,rfl⟩
 ·have hj0:j<zs.length:=by have:=(JT.1 hj).1;simpa[AV.cells] using this
  simp[AV.cells,Js,JS hj0] at hj;subst hj;simp[KD,JS hj0];exact .int _ _
end Go.Ax
namespace Go.Ax
open Go Go.RowKit Go.ChangeShapes
theorem wH{H:Type}{P:Program}{t:TypeId}{ts:List TypeId}{d:DataW H}{r:List (DataW H)}{p:Nat->Bool}(h:(DataW.weightsEach P (t::ts) (d::r)).all p=true):(d.weights P t).all p=true:=by
 rw[DataW.weightsEach,List.all_append,JU] at h;exact h.1
theorem Ai{P:Program}{H:Type}{enc:TypeId × Value->H}{w:World}{t e:TypeId}{b0:Nat}{v:Value}{d:DataW H}{ps:List MemPlace}
  (ht:P.underlying t=some (.slice e)) (he:P.underlying e=some (.int .i64)) (hc:P.cellsOf e=1) (hby:P.bytesOf e=8) (hval:Value.okWide P w .any b0 t v) (h:DataW.Trod enc P w 0 (fun _=>true) true t v d ps)
  (hsz:(d.weights P t).all (· <= reachBytes)=true) :
  ∃l:List Int,(∀x∈l,i64 x)/\VR (fun _=>⟨0,0,0⟩) (fun _=>False) (OX (fun _=>False) (fun _=>⟨0,0,0⟩) []) w (.il 1 (a6 l)) v/\l.length<=17592186043904:=by
 obtain⟨a0,len0,cap0,rfl⟩:=WideShapes.okWide_slice ht hval;obtain⟨n,hn⟩:=h;rcases ChangeShapes.open_ints ht he hc hn with⟨hcs,_⟩|⟨a,len,cap,zs,hcs,_,hl,_,hz,hx,hcell,hwf⟩
 ·simp[Value.cells] at hcs;obtain⟨rfl,rfl,rfl⟩:=hcs;exact⟨[],by simp,.iln _,by simp⟩
 ·simp[Value.cells] at hcs;obtain⟨rfl,rfl,rfl⟩:=hcs;have hsp:a.spot=none:=by
   simp only[Value.okWide,ht,Cell.okWide,Cell.ok,World.has] at hval;exact hval.2.2.2.1
  simp only[if_true] at hz;obtain⟨rfl,-⟩:=Prod.mk.inj hx;have hlen:(zs.take len0).length<=17592186043904:=by
   rw[DataW.weights,ht] at hsz;simp only[List.all_cons,JU,hby] at hsz;have h1:=Jr hsz.1;simp[lits,reachBytes] at h1;simp;omega
  refine⟨zs.take len0,fun x hx=>?_,FY hsp hl om hcell,hlen⟩;have:=hwf x (KE hx);have e1:IntKind.i64.min = -9223372036854775808:=rfl;have e2:IntKind.i64.max=9223372036854775807:=rfl;simp[Lit.wf,e1,e2] at this;unfold i64;omega
end Go.Ax
namespace Go.Ax
open Go Go.ChangeShapes Go.WideShapes Go.ChangeAt Go.RowKit Go.Lib
end Go.Ax
namespace Go.Ax
open Go
structure Oc where
 kind:Int
 at_:Int
 code:Int
 deriving DecidableEq
structure Fl where
 path:List Int
 oc:Oc
structure Gr where
 min:List Int
 oc:Oc
 fs:List Fl
def fZ(f:Fl):AV:=.agg [.il 1 (a6 f.path),.int .i64 f.oc.kind,.int .i64 f.oc.at_,.int .i64 f.oc.code]
def aQ(l:List Fl):List AV:=l.map fZ
def dV(g:Gr):AV:=.agg [.il 1 (a6 g.min),.int .i64 g.oc.kind,.int .i64 g.oc.at_,.int .i64 g.oc.code,.il 4 (aQ g.fs)]
def aD(l:List Gr):List AV:=l.map dV
theorem hU(f:Fl):NN (fZ f):=.agg' (.cons (.il' (aU _)) (.cons nn (.cons nn (.cons nn .nil))))
theorem aM(l:List Fl):f9 (aQ l):=fun a ha=>by
 obtain⟨f,_,rfl⟩:=Jf.1 ha;exact hU f
theorem eN(g:Gr):NN (dV g):=.agg' (.cons (.il' (aU _)) (.cons nn (.cons nn (.cons nn (.cons (.il' (aM _)) .nil)))))
theorem aK(l:List Gr):f9 (aD l):=fun a ha=>by
 obtain⟨f,_,rfl⟩:=Jf.1 ha;exact eN f
theorem aZ(l:List Fl):(aQ l).length=l.length:=by simp[aQ]
theorem bA(l:List Gr):(aD l).length=l.length:=by simp[aD]
theorem iV{l:List Gr}{i:Nat}(h:i<l.length):(aD l)[((i:Nat):Int).toNat]? = some (dV l[i]):=by
 simp[aD,JS h]
end Go.Ax
namespace Go.Ax
open Go
mutual
def y9:fS->Nat
 | .mk _ _ _ kids=>1+Fo kids
def Fo:List fS->Nat
 | []=>0
 | v::r=>y9 v+Fo r
end
def Iy(c:Int):Bool:=(decide (97<=c) && decide (c<=122)) || (decide (65<=c) && decide (c<=90)) || (decide (48<=c) && decide (c<=57)) || decide (c=95)
def IM(c:Int):Bool:=decide (65<=c) && decide (c<=90)
def B2:List UInt8->Bool
 | []=>false
 | c::r=>decide (r.length<16) && IM c.toNat && r.all fun c=>Iy c.toNat
def Eo(k n:Int)(s:List UInt8)(len:Nat):Bool:=
 if k=0 then decide (s=[]) && decide (len=0)
 else if k=1 then(decide (n=0) || decide (n=1)) && decide (s=[]) && decide (len=0)
 else if k=2 then decide (n=0) && decide (s=[])
 else if k=3 then decide (n=0) && B2 s
 else false
mutual
def Bb:fS->Bool
 | .mk k n s kids=>Eo k n s kids.length && BV kids
def BV:List fS->Bool
 | []=>true
 | v::r=>Bb v && BV r
end
def Hc(k:Int)(len:Nat):Bool:=(decide (k=2) && decide (256<len)) || (decide (k=3) && decide (16<len))
mutual
def Fm:fS->Bool
 | .mk k _ _ kids=>Hc k kids.length || F7 kids
def F7:List fS->Bool
 | []=>false
 | v::r=>Fm v || F7 r
end
def C3(v:fS):Int:=if Bb v=false then 1 else if Fm v=true∨1024<y9 v then 4 else 0
structure Nd where
 kind:Int
 name:List UInt8
 lo:Int
 hi:Int
 weights:List Int
 labels:List (List UInt8)
 values:List fS
 kids:List Int
 value:fS
structure I4(x:Nd):Prop where
 kind:i64 x.kind
 name:x.name.length<=4294967296
 lo:i64 x.lo
 hi:i64 x.hi
 weights:x.weights.length<=4294967296
 weightsI:∀w∈x.weights,i64 w
 labels:x.labels.length<=4294967296
 labelsI:∀w∈x.labels,w.length<=4294967296
 values:x.values.length<=4294967296
 valuesI:∀v∈x.values,Ir v/\y9 v<=4294967296
 kids:x.kids.length<=4294967296
 kidsI:∀k∈x.kids,i64 k
 value:Ir x.value
 valueS:y9 x.value<=4294967296
def HX:fS->Bool
 | .mk k n s ks=>decide (k=0) && decide (n=0) && decide (s=[]) && decide (ks.length=0)
def FH(x:Nd):Bool:=
 (decide (x.kind=0) || HX x.value) && (decide (x.kind=1) || (decide (x.lo=0) && decide (x.hi=0))) && (decide (x.kind=3) || decide (x.name=[])) &&
 (decide (x.kind=2) || (decide (x.weights.length=0) && decide (x.labels.length=0))) && (decide (x.kind=4) || decide (x.values.length=0)) && ((decide (x.kind≠0) && decide (x.kind≠1)) || decide (x.kids.length=0))
def Bl:List fS->Bool
 | a::b::r=>decide (j6 a b<0) && Bl (b::r)
 | _=>true
def G2(i:Int)(l:List Int):Bool:=l.all fun k=>decide (0<=k) && decide (k<i)
def FB(i:Int)(x:Nd):Bool:=
 FH x && (decide (0<=x.kind) && decide (x.kind<=4)) && G2 i x.kids &&
 (decide (x.kind≠2) || (decide (1<=x.kids.length) && decide (x.kids.length<=256) && decide (x.weights.length=x.kids.length) && (decide (x.labels.length=0) || decide (x.labels.length=x.kids.length)))) &&
 (decide (x.kind≠3) || (decide (x.kids.length<=256) && (decide (x.name=[]) || (B2 x.name && decide (x.kids.length<=16))))) &&
 (decide (x.kind≠4) || decide (x.kids.length=x.values.length+1)) && Bl x.values
def tK(x:Nd):Bool:=
 decide (x.lo<=x.hi) && decide (-4611686018427387904<=x.lo) && decide (x.hi<=4611686018427387904) && decide (x.hi<x.lo+1099511627776) && x.weights.all fun w=>decide (1<=w) && decide (w<=1000)
def AD:List fS->Int
 | []=>0
 | v::r=>if C3 v≠0 then C3 v else AD r
def HY(x:Nd):List fS:=(if x.kind=0 then [x.value] else [])++x.values
def F0(i:Int)(x:Nd):Int:=
 if FB i x=false then 1 else if AD (HY x)≠0 then AD (HY x) else if tK x=false then 5 else 0
def I2(l:List Int)(k:Int):Int:=l.getD k.toNat 0
def Hi(before kids:List Int):Int:=kids.foldl (fun s k=>s+I2 before k) 0
def D2(before kids:List Int):Int:=kids.foldl (fun s k=>max s (I2 before k)) 0
def C4(x:Nd):List Int:=if x.kind=2 then x.kids else x.kids.drop 1
def HK(before:List Int)(x:Nd):Int:=
 if x.kind=0 then 0 else if x.kind=1 then 1 else if x.kind=3 then Hi before x.kids else if x.kind=2 then 1+D2 before (C4 x) else I2 before (x.kids.getD 0 0)+D2 before (C4 x)
def IJ(before:List Int)(x:Nd):Int:=
 if x.kind=0 then y9 x.value else if x.kind=1 then 1 else if x.kind=3 then 1+Hi before x.kids else D2 before (C4 x)
structure At where
 vals:List fS
 many:Bool
def G5(name:List UInt8)(kids:List fS):fS:=if name=[] then .mk 2 0 [] kids else .mk 3 0 name kids
def GC(l:List At)(k:Int):At:=l.getD k.toNat ⟨[],false⟩
def Gv(lo hi:Int):List fS:=(List.range (hi+1-lo).toNat).map fun i:Nat=>.mk 0 (lo+(i:Int)) [] []
def Bp(before:List At)(x:List fS × Bool)(k:Int):List fS × Bool:=
 (EH (x.1++(GC before k).vals),x.2 || (GC before k).many || decide (1024<(EH (x.1++(GC before k).vals)).length))
def I3(before:List At)(kids:List Int):At:=
 if (kids.foldl (Bp before) ([],false)).2 then⟨[],true⟩ else⟨(kids.foldl (Bp before) ([],false)).1,false⟩
def Hs(rows:List (List fS))(l:List fS):List (List fS):=rows.flatMap fun r=>l.map fun v=>r++[v]
def F4(before:List At):List Int->List (List fS)->Option (List (List fS))
 | [],rows=>some rows
 | k::r,rows=>if (GC before k).many=true∨1024<rows.length*(GC before k).vals.length then none else F4 before r (Hs rows (GC before k).vals)
def I0(before:List At)(x:Nd):At:=
 match F4 before x.kids [[]] with
 | none=>⟨[],true⟩
 | some rows=>⟨EH (rows.map (G5 x.name)),false⟩
def HT(x:Nd)(before:List At):At:=
 if x.kind=0 then⟨[x.value],false⟩
 else if x.kind=1 then(if 1024<=x.hi-x.lo then⟨[],true⟩ else⟨Gv x.lo x.hi,false⟩)
 else if x.kind=3 then I0 before x
 else I3 before (if x.kind=4 then x.kids.drop 1 else x.kids)
def Gd(nodes:List Nd):List At:=nodes.foldl (fun out x=>out++[HT x out]) []
def Ds:List fS->List fS->Bool
 | [],[]=>true
 | a::l,b::m=>decide (j6 a b=0) && Ds l m
 | _,_=>false
def GV(nodes:List Nd)(x:Nd):Int:=
 let l:=GC (Gd (nodes.take ((x.kids.getD 0 0).toNat+1))) (x.kids.getD 0 0)
 if l.many=true then 4 else if Ds l.vals x.values=true then 0 else 1
def Fz(before:List Nd)(ls ss:List Int)(x:Nd):Int:=
 if F0 before.length x≠0 then F0 before.length x
 else if 256<HK ls x∨1024<IJ ss x then 4
 else if x.kind=4 then GV before x else 0
def F3(nodes:List Nd):List Int:=nodes.foldl (fun ls x=>ls++[HK ls x]) []
def Fw(nodes:List Nd):List Int:=nodes.foldl (fun ls x=>ls++[IJ ls x]) []
def C5:List Nd->List Nd->Int
 | _,[]=>0
 | before,x::r=>if Fz before (F3 before) (Fw before) x≠0 then Fz before (F3 before) (Fw before) x else C5 (before++[x]) r
def fK(n most:Int):Int:=(if n<0 then -(n+1) else n).tmod most
theorem fL{n most:Int}(h:1<=most):0<=fK n most/\fK n most<most:=by
 unfold fK;have h0:0<=(if n<0 then -(n+1) else n):=by split<;>omega
 exact⟨Int.tmod_nonneg _ h0,Int.tmod_lt_of_pos _ om⟩
end Go.Ax
namespace Go.Ax
open Go
def Hg(x:At):AV:=.agg [.il 4 (u6 x.vals),.bool x.many]
def dT(l:List At):List AV:=l.map Hg
theorem Fa(x:At):NN (Hg x):=.agg' (.cons (.il' (lC _)) (.cons (.bool _) .nil))
theorem yN(l:List At):f9 (dT l):=fun a ha=>by
 obtain⟨n,_,rfl⟩:=Jf.1 ha;exact Fa n
structure I9(i:Nat)(x:Nd):Prop where
 ok:I4 x
 kind:0<=x.kind/\x.kind<=4
 kids:∀(j:Nat) (k:Int),x.kids[j]? = some k->0<=k/\k<i
 klen:x.kids.length<=65536
 num:tK x=true
structure Iw(i:Nat)(x:Nd):Prop where
 kind:0<=x.kind/\x.kind<=4
 kids:∀(j:Nat) (k:Int),x.kids[j]? = some k->0<=k/\k<i
 num:tK x=true
 klen:x.kind≠4->x.kids.length<=256
 bind:x.kind=4->x.kids.length=x.values.length+1
def Ip:List (List UInt8):=[[97],[98],[99],[100]]
structure I6(x:Nd):Prop where
 ok:I4 x
 vals:x.values.length<=1024
 labels:∀s∈x.labels,s∈Ip
 seq:x.kind=3->x.kids.length<=3
structure DF(ns:List Nd):Prop where
 valid:C5 [] ns=0
 gen:∀x∈ns,I6 x
theorem DF.ok{ns:List Nd}(h:DF ns):∀x∈ns,I4 x:=fun x hx=>(h.gen x hx).ok
end Go.Ax
namespace Go.Ax
open Go
end Go.Ax
namespace Go.Ax
open Go
def dI:List Int->List Int->Int
 | [],[]=>0
 | [],_::_=>-1
 | _::_,[]=>1
 | a::as,b::bs=>andThen (cB a b) (dI as bs)
def fQ(a b:List Int):Int:=andThen (cB (a.length:Int) (b.length:Int)) (dI a b)
theorem uU:∀a:List Int,AE dI a
 | []=>by
  constructor
  ·simp[dI]
  ·intro b;cases b<;>simp[dI]
  ·intro b c;cases b<;>cases c<;>simp[dI]
  ·intro b c;cases b<;>cases c<;>simp[dI]
 | a::as=>by
  have i1:=jA a;have i2:=uU as;constructor
  ·simp[dI,i1.refl,i2.refl,andThen]
  ·intro b;cases b with
   | nil=>simp[dI]
   | cons b bs=>simp only[dI];exact cY (i1.anti _) (i2.anti _)
  ·intro b c;cases b with
   | nil=>cases c<;>simp[dI]
   | cons b bs=>
    cases c with
    | nil=>simp[dI]
    | cons c cs=>simp only[dI];exact d5 (i1.trans _ _) (i1.strict _ _) (i2.trans _ _)
  ·intro b c;cases b with
   | nil=>cases c<;>simp[dI]
   | cons b bs=>
    cases c with
    | nil=>simp[dI]
    | cons c cs=>simp only[dI];exact e8 (i1.trans _ _) (i1.strict _ _) (i2.trans _ _) (i2.strict _ _)
theorem Ci(a:List Int):AE fQ a:=by
 have i1:=jA (a.length:Int);have i2:=uU a;constructor
 ·simp[fQ,i1.refl,i2.refl,andThen]
 ·intro b;simp only[fQ];exact cY (i1.anti _) (i2.anti _)
 ·intro b c;simp only[fQ];exact d5 (i1.trans _ _) (i1.strict _ _) (i2.trans _ _)
 ·intro b c;simp only[fQ];exact e8 (i1.trans _ _) (i1.strict _ _) (i2.trans _ _) (i2.strict _ _)
theorem Cw:∀(a b:List Int),dI a b=0->a=b
 | [],[],_=>rfl
 | [],_::_,h=>by simp[dI] at h
 | _::_,[],h=>by simp[dI] at h
 | a::l,b::m,h=>by
  simp only[dI,andThen] at h;split at h
  ·rename_i h1;rw[Decidable.byContradiction fun e=>Ez e h1,Cw l m h]
  ·rename_i h1;exact absurd h h1
theorem GD(a b:List Int)(h:fQ a b=0):a=b:=by
 simp only[fQ,andThen] at h;split at h
 ·exact Cw a b h
 ·rename_i h1;exact absurd h h1
def H9(l:List (List Int)):Prop:=l.Pairwise fun a b=>fQ a b<0
theorem H9.get{l:List (List Int)}(h:H9 l){i j:Nat}{a b:List Int}(hij:i<j)(ha:l[i]? = some a)(hb:l[j]? = some b):fQ a b<0:=by
 obtain⟨hi,rfl⟩:=JT.1 ha;obtain⟨hj,rfl⟩:=JT.1 hb;exact KF.1 h i j hi hj hij
theorem gV{n:Int}(h:i64 n):(Lib.itoa n).length<=21:=by
 unfold Lib.itoa;have key:∀u:Nat,u<18446744073709551616->(Lib.decDigits u).length<=20:=by
  intro u hu;rw[Lib.decDigits_length];by_cases h1:1<=u
  ·obtain⟨e1,e2⟩:=Lib.numDigits_eq u h1 hu;rw[←e1];split<;>omega
  ·rw[Lib.nDigits_small om];omega
 unfold i64 at h;split
 ·have:=key n.natAbs om;simp;omega
 ·have:=key n.toNat om;omega
def cut(p s:List UInt8):Option (List UInt8):=if p.isPrefixOf s then some (s.drop p.length) else none
theorem tI:∀(l m:List UInt8) (acc a:Nat),Lib.parseUint10 acc l = .ok a->Lib.parseUint10 acc (l++m)=Lib.parseUint10 a m
 | [],m,acc,a,h=>by
  simp only[Lib.parseUint10] at h;injection h with h;rw[h];rfl
 | c::r,m,acc,a,h=>by
  simp only[Lib.parseUint10,Kk] at h ⊢;split at h
  ·rename_i h1;rw[Jb h1];split at h
   ·cases h
   ·rename_i h2;rw[Ja h2];split at h
    ·cases h
    ·rename_i h3;rw[Ja h3];exact tI r m _ a h
  ·cases h
theorem vA:∀(u:Nat),u<18446744073709551616->Lib.parseUint10 0 (Lib.decDigits u) = .ok u:=by
 intro u
 induction u using Nat.strongRecOn with
 | _ u ih=>
  intro hu;by_cases h10:u<10
  ·rw[Lib.decDigits_one h10];have e:(UInt8.ofNat (48+u)).toNat=48+u:=by simp;omega
   simp only[Lib.parseUint10,e];rw[Jb om,Ja om,Ja om];congr 1;omega
  ·rw[Lib.decDigits,dif_neg h10,tI _ _ 0 (u/10) (ih (u/10) om om)];have e:(UInt8.ofNat (48+u%10)).toNat=48+u%10:=by simp;omega
   simp only[Lib.parseUint10,e];rw[Jb om,Ja om,Ja om];congr 1;omega
theorem zI(u:Nat):∃c r,Lib.decDigits u=c::r/\48<=c.toNat/\c.toNat<=57:=by
 induction u using Nat.strongRecOn with
 | _ u ih=>
  by_cases h10:u<10
  ·rw[Lib.decDigits_one h10];have e:(UInt8.ofNat (48+u)).toNat=48+u:=by simp;omega
   exact⟨_,[],rfl,om,om⟩
  ·obtain⟨c,r,h1,h2⟩:=ih (u/10) om;rw[Lib.decDigits,dif_neg h10,h1];exact⟨c,_,rfl,h2⟩
theorem vG{n:Int}(h:i64 n):Lib.atoiAll (Lib.itoa n) = .ok n:=by
 unfold i64 at h;unfold Lib.itoa;split
 ·have hp:=vA n.natAbs om;obtain⟨c,r,h1,_⟩:=zI n.natAbs;rw[Lib.atoiAll_minus,Lib.parseMag,Ja (by rw[h1];simp),hp,Lib.signed,Ja om];congr 1;omega
 ·have hp:=vA n.toNat om;obtain⟨c,r,h1,h2⟩:=zI n.toNat;rw[h1] at hp ⊢;rw[Lib.atoiAll_plain c r om om,Lib.parseMag,Ja (by simp),hp,Lib.signless,Ja om];congr 1;omega
end Go.Ax
namespace Go.Ax
open Go
structure rA{K:Type}(c:K->K->Int):Prop where
 refl:∀x,c x x=0
 anti:∀x y,c y x = - c x y
 tr:∀x y z,c x y<=0->c y z<=0->c x z<=0
 eq:∀x y,c x y=0->x=y
section
variable {K:Type} {c:K->K->Int}
theorem rA.lt_le(h:rA c){x y z:K}(h1:c x y<0)(h2:c y z<=0):c x z<0:=by
 have h3:=h.tr x y z om h2;rcases Kr h3 with h4|h4
 ·exact h4
 ·have:=h.eq _ _ h4;subst this;have:=h.anti x y;omega
theorem rA.le_lt(h:rA c){x y z:K}(h1:c x y<=0)(h2:c y z<0):c x z<0:=by
 have h3:=h.tr x y z h1 om;rcases Kr h3 with h4|h4
 ·exact h4
 ·have:=h.eq _ _ h4;subst this;have:=h.anti x y;omega
def Sr(c:K->K->Int)(l:List K):Prop:=l.Pairwise fun a b=>c a b<0
theorem Sr.head_ne(h:rA c){a:K}{l:List K}(hs:Sr c (a::l)):a∉l:=fun hm=>by
 have:=(LO.1 hs).1 a hm;rw[h.refl] at this;omega
theorem Ak(h:rA c):∀{a b:List K},Sr c a->Sr c b->(∀x,x∈a↔x∈b)->a=b
 | [],[],_,_,_=>rfl
 | [],y::b,_,_,hm=>absurd ((hm y).2 (.head _)) (by simp)
 | x::a,[],_,_,hm=>absurd ((hm x).1 (.head _)) (by simp)
 | x::a,y::b,ha,hb,hm=>by
  have pa:=LO.1 ha;have pb:=LO.1 hb;have hxy:x=y:=by
   rcases JQ.1 ((hm x).1 (.head _)) with e|e
   ·exact e
   ·rcases JQ.1 ((hm y).2 (.head _)) with e'|e'
    ·exact e'.symm
    ·have h1:=pb.1 x e;have h2:=pa.1 y e';have:=h.anti x y;omega
  subst hxy;have n1:=Sr.head_ne h ha;have n2:=Sr.head_ne h hb;rw[Ak h pa.2 pb.2 fun z=>⟨fun hz=>by
   rcases JQ.1 ((hm z).1 (.tail _ hz)) with rfl|e
   ·exact absurd hz n1
   ·exact e,fun hz=>by
   rcases JQ.1 ((hm z).2 (.tail _ hz)) with rfl|e
   ·exact absurd hz n2
   ·exact e⟩]
theorem xJ{α:Type}{l:List α}(h:l.Nodup){i j:Nat}{a:α}(hi:l[i]? = some a)(hj:l[j]? = some a):i=j:=by
 obtain⟨h1,h2⟩:=JT.1 hi;obtain⟨h3,h4⟩:=JT.1 hj;have hp:=KF.1 h;rcases LT i j with e|e|e
 ·exact absurd (h2.trans h4.symm) (hp i j h1 h3 e)
 ·exact e
 ·exact absurd (h4.trans h2.symm) (hp j i h3 h1 e)
theorem B4(h:rA c){l:List K}(hn:l.Nodup)(ha:∀(i j:Nat) (x y:K),i<j->l[i]? = some x->l[j]? = some y->¬c y x<0):Sr c l:=by
 refine KF.2 fun i j hi hj hij=>?_
 have h1:=ha i j _ _ hij (JS hi) (JS hj);have h2:=h.anti l[j] l[i];have h3:c l[i] l[j]≠0:=fun e=>(KF.1 hn i j hi hj hij) (h.eq _ _ e)
 omega
def wS(c:K->K->Int)(x:K)(s:List K × Bool)(y:K):List K × Bool:=
 ((if c x y<0/\s.2=false then s.1++[x] else s.1)++[y],s.2 || decide (c x y<=0))
def dH(c:K->K->Int)(x:K)(l:List K):List K × Bool:=l.foldl (wS c x) ([],false)
def iQ(c:K->K->Int)(x:K)(l:List K):List K:=if (dH c x l).2 then(dH c x l).1 else(dH c x l).1++[x]
theorem gH(x:K)(l:List K)(y:K):dH c x (l++[y])=wS c x (dH c x l) y:=by simp[dH]
theorem rR(h:rA c)(x:K)(l:List K)(hs:Sr c l):((dH c x l).2=true↔∃y∈l,c x y<=0)/\Sr c (dH c x l).1/\∀z,z∈(dH c x l).1↔z∈l∨((dH c x l).2=true/\z=x):=by
 obtain⟨r,hr⟩:∃r,r=l.reverse:=⟨_,rfl⟩
 have hl:l=r.reverse:=by rw[hr,KL]
 subst hl;clear hr
 induction r with
 | nil=>exact⟨by simp[dH],.nil,by simp[dH]⟩
 | cons y r ih=>
  rw[KP] at hs ⊢;have hp:=KM.1 hs;obtain⟨i1,i2,i3⟩:=ih hp.1;have hlt:∀z∈r.reverse,c z y<0:=fun z hz=>hp.2.2 z hz y (.head _)
  rw[gH];generalize dH c x r.reverse=s at *;obtain⟨out,d⟩:=s;simp only[wS] at *;refine⟨?_, ?_,fun z=>?_⟩
  ·rw[Kt,i1,decide_eq_true_eq];constructor
   ·rintro(⟨z,hz,hc⟩|hc)
    ·exact⟨z,Je _ hz,hc⟩
    ·exact⟨y,by simp,hc⟩
   ·rintro⟨z,hz,hc⟩;rcases JV.1 hz with hz|hz
    ·exact .inl ⟨z,hz,hc⟩
    ·simp at hz;subst hz;exact .inr hc
  ·have hxy:d=true->c x y<0:=fun e=>by
    obtain⟨z,hz,hc⟩:=i1.1 e;exact h.le_lt hc (hlt z hz)
   by_cases hc:c x y<0/\d=false
   ·rw[Jb hc];refine KM.2 ⟨KM.2 ⟨i2,Kl _ _,fun a ha b hb=>?_⟩,Kl _ _,fun a ha b hb=>?_⟩
    ·simp at hb;subst hb;rcases(i3 a).1 ha with ha|⟨e,_⟩
     ·have:¬c b a<=0:=fun e=>by
       have:=i1.2 ⟨a,ha,e⟩;rw[hc.2] at this;cases this
      have:=h.anti b a;omega
     ·rw[hc.2] at e;cases e
    ·simp at hb;subst hb;rcases JV.1 ha with ha|ha
     ·rcases(i3 a).1 ha with ha|⟨e,_⟩
      ·exact hlt a ha
      ·rw[hc.2] at e;cases e
     ·simp at ha;subst ha;exact hc.1
   ·rw[Ja hc];refine KM.2 ⟨i2,Kl _ _,fun a ha b hb=>?_⟩;simp at hb;subst hb;rcases(i3 a).1 ha with ha|⟨e,rfl⟩
    ·exact hlt a ha
    ·exact hxy e
  ·rw[JV];by_cases hc:c x y<0/\d=false
   ·rw[Jb hc,JV,i3];have:decide (c x y<=0)=true:=Jk om;rw[hc.2,this];simp;constructor
    ·rintro((h1|h1)|h1)<;>simp[h1]
    ·rintro((h1|h1)|h1)<;>simp[h1]
   ·rw[Ja hc,i3];have hd:d=true∨0<=c x y:=by
     cases d
     ·right;simp at hc;omega
     ·exact .inl rfl
    rcases hd with rfl|hd
    ·simp;constructor<;>(rintro((h1|h1)|h1)<;>simp[h1])
    ·cases d
     ·rcases Kr hd with hd|hd
      ·have:decide (c x y<=0)=false:=Jm om;rw[this];simp
      ·have:=h.eq x y hd.symm;subst this;rw[h.refl];simp
     ·simp;constructor<;>(rintro((h1|h1)|h1)<;>simp[h1])
theorem BJ(h:rA c){x:K}{l:List K}(hs:Sr c l):Sr c (iQ c x l):=by
 obtain⟨i1,i2,i3⟩:=rR h x l hs;unfold iQ;split
 ·exact i2
 ·rename_i hd;refine KM.2 ⟨i2,Kl _ _,fun a ha b hb=>?_⟩;simp at hb;subst hb;rcases(i3 a).1 ha with ha|⟨e,_⟩
  ·have:¬c b a<=0:=fun e=>hd (i1.2 ⟨a,ha,e⟩)
   have:=h.anti b a;omega
  ·exact absurd e hd
theorem y7(h:rA c){x:K}{l:List K}(hs:Sr c l)(z:K):z∈iQ c x l↔z=x∨z∈l:=by
 obtain⟨i1,i2,i3⟩:=rR h x l hs;unfold iQ;split
 ·rename_i hd;rw[i3,hd];simp[or_comm]
 ·rename_i hd;rw[JV,i3];simp[hd,or_comm]
theorem C9(x:K)(l:List K):(iQ c x l).length<=l.length+1:=by
 have key:∀l:List K,(dH c x l).1.length<=l.length+(if (dH c x l).2 then 1 else 0):=by
  intro l;obtain⟨r,hr⟩:∃r,r=l.reverse:=⟨_,rfl⟩
  have hl:l=r.reverse:=by rw[hr,KL]
  subst hl;clear hr
  induction r with
  | nil=>simp[dH]
  | cons y r ih=>
   rw[KP,gH];generalize dH c x r.reverse=s at *;obtain⟨out,d⟩:=s;simp only[wS,J9,List.length_singleton] at *;by_cases hc:c x y<0/\d=false
   ·rw[Jb hc,hc.2,show decide (c x y<=0)=true from Jk om];rw[hc.2] at ih;simp at ih ⊢;omega
   ·rw[Ja hc];cases d
    ·simp at ih ⊢;omega
    ·simp at ih ⊢;omega
 have:=key l;unfold iQ;split
 ·rename_i hd;rw[Jb hd] at this;exact this
 ·rename_i hd;rw[Ja hd] at this;simp;omega
def dD(c:K->K->Int)(l xs:List K):List K:=xs.foldl (fun l x=>iQ c x l) l
theorem CT(l xs:List K)(x:K):dD c l (xs++[x])=iQ c x (dD c l xs):=by simp[dD]
theorem q7(h:rA c):∀(xs:List K) {l:List K},Sr c l->Sr c (dD c l xs)/\∀z,z∈dD c l xs↔z∈l∨z∈xs
 | [],l,hs=>⟨hs,by simp[dD]⟩
 | x::xs,l,hs=>by
  obtain⟨h1,h2⟩:=q7 h xs (BJ h (x:=x) hs);refine⟨h1,fun z=>?_⟩
  show z∈dD c (iQ c x l) xs↔_
  rw[h2,y7 h hs,JQ];constructor
  ·rintro((h1|h1)|h1)<;>simp[h1]
  ·rintro(h1|h1|h1)<;>simp[h1]
theorem rM:∀(xs l:List K),(dD c l xs).length<=l.length+xs.length
 | [],l=>by simp[dD]
 | x::xs,l=>by
  have h1:=rM xs (iQ c x l);have h2:=C9 (c:=c) x l
  show (dD c (iQ c x l) xs).length<=_
  simp;omega
def jV(c:K->K->Int)(l:List K):Nat->Bool
 | 0=>true
 | i+1=>match l[i+1]?,l[i]? with
  | some b,some a=>!(c b a == 0)
  | _,_=>true
def eS(c:K->K->Int)(l:List K):Nat->List K
 | 0=>[]
 | i+1=>match l[i]? with
  | some v=>if jV c l i=true then eS c l i++[v] else eS c l i
  | none=>eS c l i
theorem sG{l:List K}:∀i,i<=l.length->(∀j,j<i->jV c l j=true)->eS c l i=l.take i
 | 0,_,_=>by simp[eS]
 | i+1,h,hk=>by
  unfold eS;rw[JS om];simp only;rw[Jb (hk i om),sG i om (fun j hj=>hk j om),Jd om]
def E5(c:K->K->Int)(l:List K):Prop:=∀(i j:Nat) (x y:K),i<j->l[i]? = some x->l[j]? = some y->¬c y x<0
theorem Bq(hL:rA c){l:List K}(h:E5 c l):∀i,i<=l.length->Sr c (eS c l i)/\(∀x,x∈eS c l i↔x∈l.take i)
 | 0,_=>⟨by simp[eS,Sr],by simp[eS]⟩
 | i+1,hi=>by
  obtain⟨s1,s2⟩:=Bq hL h i om;have hg:l[i]? = some l[i]:=JS om;have ht:l.take (i+1)=l.take i++[l[i]]:=Jd om;unfold eS;rw[hg];simp only;by_cases hk:jV c l i=true
  ·rw[Jb hk];refine⟨?_,fun x=>by rw[ht,JV,JV,s2]⟩;unfold Sr;refine KM.2 ⟨s1,by simp,fun a ha b hb=>?_⟩;have hb:b=l[i]:=by simpa using hb
   subst hb;have ha2:=(s2 a).1 ha;obtain⟨k,hkk,rfl⟩:=Ki ha2;have hki:k<i:=by simp at hkk;omega
   rw[List.getElem_take];cases i with
   | zero=>omega
   | succ i=>
    simp only[jV] at hk;rw[hg,JS (show i<l.length by omega)] at hk;have hne:c l[i+1] l[i]≠0:=by simpa using hk
    have h1:=h i (i+1) _ _ om (JS om) hg;have h2:c l[i] l[i+1]<0:=by have:=hL.anti l[i+1] l[i];omega
    rcases Jc k i with e|e
    ·have h3:=h k i _ _ e (JS om) (JS om);exact hL.le_lt (by have:=hL.anti l[i] l[k];omega) h2
    ·have:k=i:=om;subst this;exact h2
  ·rw[Ja hk];refine⟨s1,fun x=>?_⟩;rw[s2,ht,JV];refine⟨fun hx=>.inl hx,fun hx=>?_⟩;rcases hx with hx|hx
   ·exact hx
   ·have hx:x=l[i]:=by simpa using hx
    cases i with
    | zero=>exact absurd rfl hk
    | succ i=>
     simp only[jV] at hk;rw[hg,JS (show i<l.length by omega)] at hk;have he:c l[i+1] l[i]=0:=by simpa using hk
     rw[hx,hL.eq _ _ he];exact List.mem_iff_getElem.2 ⟨i,by simp;omega,by rw[List.getElem_take]⟩
theorem DO(hL:rA c){l m:List K}(hp:m.Perm l)(h:E5 c m):Sr c (eS c m m.length)/\∀x,x∈eS c m m.length↔x∈l:=by
 obtain⟨h1,h2⟩:=Bq hL h m.length (JX _);refine⟨h1,fun x=>?_⟩;rw[h2,Jx];exact hp.mem_iff
theorem BN(hL:rA c)(l:List K):(∀x∈l,¬c x x<0)/\(∀x∈l,∀y∈l,∀z∈l,c x y<0->c y z<0->c x z<0)/\(∀x∈l,∀y∈l,∀z∈l,¬c x y<0->¬c y z<0->¬c x z<0):=by
 refine⟨fun x _=>by rw[hL.refl];omega,fun x _ y _ z _ h1 h2=>hL.lt_le h1 om,fun x _ y _ z _ h1 h2 h3=>?_⟩;have a:=hL.anti x y;have b:=hL.anti y z;have d:=hL.anti x z;have:=hL.tr z y x om om;omega
end
theorem p4{K:Type}{c:K->K->Int}(h:∀x,AE c x)(he:∀x y,c x y=0->x=y):rA c:=⟨fun x=>(h x).refl,fun x y=>(h x).anti y,fun x y z=>(h x).trans y z,he⟩
theorem rA.and{K:Type}{A B:Type}{ca:A->A->Int}{cb:B->B->Int}(ha:rA ca)(hb:rA cb)(f:K->A)(g:K->B)(hi:∀x y,f x=f y->g x=g y->x=y):rA fun x y:K=>andThen (ca (f x) (f y)) (cb (g x) (g y)):=by
 have h0:∀x y,andThen (ca (f x) (f y)) (cb (g x) (g y))=0->f x=f y/\g x=g y:=fun x y h=>by
  unfold andThen at h;split at h
  ·rename_i e;exact⟨ha.eq _ _ e,hb.eq _ _ h⟩
  ·rename_i e;exact absurd h e
 refine⟨fun x=>?_,fun x y=>cY (ha.anti _ _) (hb.anti _ _),fun x y z h1 h2=>?_,fun x y h=>hi x y (h0 x y h).1 (h0 x y h).2⟩
 ·unfold andThen;rw[ha.refl,hb.refl];rfl
 ·unfold andThen at h1 h2 ⊢;split
  ·rename_i e;have e:=ha.eq _ _ e;rw[←e] at h2;have hxy:ca (f x) (f y)=0:=by
    have e1:ca (f x) (f y)<=0:=by split at h1<;>omega
    have e2:ca (f y) (f x)<=0:=by split at h2<;>omega
    have:=ha.anti (f x) (f y);omega
   have hyx:ca (f y) (f x)=0:=by have:=ha.anti (f x) (f y);omega
   rw[Jb hxy] at h1;rw[Jb hyx] at h2;exact hb.tr _ _ _ h1 h2
  ·have e1:ca (f x) (f y)<=0:=by split at h1<;>omega
   have e2:ca (f y) (f z)<=0:=by split at h2<;>omega
   exact ha.tr _ _ _ e1 e2
theorem Dv:rA cB:=p4 jA fun x y h=>by unfold cB at h;split at h<;>first|omega|(split at h<;>omega)
theorem HE:rA fQ:=p4 Ci fun x y h=>GD x y h
def uC(x y:Oc):Int:=andThen (cB x.kind y.kind) (andThen (cB x.at_ y.at_) (cB x.code y.code))
theorem HZ:rA uC:=by
 exact Dv.and (K:=Oc) (Dv.and (K:=Int × Int) Dv Prod.fst Prod.snd (fun x y h h'=>Prod.ext h h')) Oc.kind (fun o=>(o.at_,o.code)) (fun x y h h'=>by
  obtain⟨a,b,c⟩:=x;obtain⟨d,e,f⟩:=y;simp at h h';rw[h,h'.1,h'.2])
abbrev Ky:=List Int × Oc
def sU(x y:Ky):Int:=andThen (fQ x.1 y.1) (uC x.2 y.2)
theorem fV:rA sU:=HE.and HZ Prod.fst Prod.snd fun x y h h'=>Prod.ext h h'
def GQ(f:Fl):Ky:=(f.path,f.oc)
def aT(g:Gr):Ky:=(g.min,g.oc)
def a8(f g:Fl):Int:=sU (GQ f) (GQ g)
def eM(f g:Gr):Int:=sU (aT f) (aT g)
theorem rY:rA a8:=⟨fun x=>fV.refl _,fun x y=>fV.anti _ _,fun x y z=>fV.tr _ _ _,fun x y h=>by
 have:=fV.eq _ _ h;obtain⟨p,o⟩:=x;obtain⟨q,u⟩:=y;simp[GQ] at this;rw[this.1,this.2]⟩
end Go.Ax
namespace Go.Ax
open Go
def jO(l:List Gr)(k:Ky):Prop:=∃g∈l,aT g=k
def f8(l:List Gr)(k:Ky)(f:Fl):Prop:=∃g∈l,aT g=k/\f∈g.fs
def NF(l:List Gr):Prop:=Sr sU (l.map aT)/\∀g∈l,Sr a8 g.fs
theorem c7{l m:List Gr}{k:Ky}:jO (l++m) k↔jO l k∨jO m k:=by
 constructor
 ·rintro⟨g,hg,e⟩;rcases JV.1 hg with h|h
  ·exact .inl ⟨g,h,e⟩
  ·exact .inr ⟨g,h,e⟩
 ·rintro(⟨g,hg,e⟩|⟨g,hg,e⟩)
  ·exact⟨g,Je _ hg,e⟩
  ·exact⟨g,Jw _ hg,e⟩
theorem cA{l m:List Gr}{k:Ky}{f:Fl}:f8 (l++m) k f↔f8 l k f∨f8 m k f:=by
 constructor
 ·rintro⟨g,hg,e⟩;rcases JV.1 hg with h|h
  ·exact .inl ⟨g,h,e⟩
  ·exact .inr ⟨g,h,e⟩
 ·rintro(⟨g,hg,e⟩|⟨g,hg,e⟩)
  ·exact⟨g,Je _ hg,e⟩
  ·exact⟨g,Jw _ hg,e⟩
theorem nC{g:Gr}{k:Ky}:jO [g] k↔aT g=k:=by simp[jO]
theorem fM{g:Gr}{k:Ky}{f:Fl}:f8 [g] k f↔aT g=k/\f∈g.fs:=by simp[f8]
theorem Dk{k:Ky}{f:Fl}:¬f8 [] k f:=by simp[f8]
theorem DW{a b:List Gr}(ha:NF a)(hb:NF b)(hk:∀k,jO a k↔jO b k)(hf:∀k f,f8 a k f↔f8 b k f):a=b:=by
 have he:a.map aT=b.map aT:=Ak fV ha.1 hb.1 fun k=>by
  rw[Jf,Jf];exact hk k
 have uniq:∀(l:List Gr),NF l->∀g∈l,∀f,f8 l (aT g) f↔f∈g.fs:=by
  intro l hl g hg f;refine⟨?_,fun h=>⟨g,hg,rfl,h⟩⟩;rintro⟨g',hg',e,h⟩;obtain⟨i,hi,rfl⟩:=Ki hg;obtain⟨j,hj,rfl⟩:=Ki hg';have hp:=KF.1 hl.1;have:i=j:=by
   rcases LT i j with h1|h1|h1
   ·have:=hp i j (by simpa using hi) (by simpa using hj) h1;simp only[LH,e,fV.refl] at this;omega
   ·exact h1
   ·have:=hp j i (by simpa using hj) (by simpa using hi) h1;simp only[LH,e,fV.refl] at this;omega
  subst this;exact h
 have hlen:a.length=b.length:=by simpa using congrArg List.length he
 refine List.ext_getElem hlen fun i h1 h2=>?_
 have hki:aT a[i]=aT b[i]:=by
  have:=congrArg (fun l=>l[i]?) he;simpa[h1,h2] using this
 have hfs:a[i].fs=b[i].fs:=Ak rY (ha.2 _ (Jl h1)) (hb.2 _ (Jl h2)) fun f=>by
  rw[←uniq a ha _ (Jl h1),←uniq b hb _ (Jl h2),hki];exact hf _ _
 generalize a[i]=x at *;generalize b[i]=y at *;obtain⟨p,o,fs⟩:=x;obtain⟨q,u,gs⟩:=y;simp[aT] at hki hfs;rw[hki.1,hki.2,hfs]
def gZ(g:Gr):Gr:=⟨g.min,g.oc,dD a8 [] g.fs⟩
def CS(x:Gr)(s:List Gr × Bool)(y:Gr):List Gr × Bool:=
 ((if eM x y<0/\s.2=false then s.1++[x] else s.1)++[if eM x y=0 then⟨y.min,y.oc,dD a8 y.fs x.fs⟩ else y],s.2 || decide (eM x y<=0))
def eV(x:Gr)(l:List Gr):List Gr × Bool:=l.foldl (CS x) ([],false)
def lV(g:Gr)(l:List Gr):List Gr:=if (eV (gZ g) l).2 then(eV (gZ g) l).1 else(eV (gZ g) l).1++[gZ g]
theorem o6(x:Gr)(l:List Gr)(y:Gr):eV x (l++[y])=CS x (eV x l) y:=by simp[eV]
theorem sE(x:Gr)(l:List Gr):(eV x l).1.map aT=(dH sU (aT x) (l.map aT)).1/\(eV x l).2=(dH sU (aT x) (l.map aT)).2:=by
 obtain⟨r,hr⟩:∃r,r=l.reverse:=⟨_,rfl⟩
 have hl:l=r.reverse:=by rw[hr,KL]
 subst hl;clear hr
 induction r with
 | nil=>exact⟨rfl,rfl⟩
 | cons y r ih=>
  rw[KP,o6,J3,List.map_singleton,gH];obtain⟨i1,i2⟩:=ih;generalize dH sU (aT x) (r.reverse.map aT)=t at *;generalize eV x r.reverse=s at *;obtain⟨out,d⟩:=s;obtain⟨out',d'⟩:=t;simp only at i1 i2;subst i1 i2;simp only[CS,wS];refine⟨?_,rfl⟩
  show List.map aT ((if sU (aT x) (aT y)<0/\d=false then out++[x] else out)++[_])=_
  rw[J3];congr 1
  ·split<;>simp
  ·simp only[List.map_singleton];split<;>rfl
theorem D6(x:Gr)(hx:Sr a8 x.fs)(l:List Gr)(hl:NF l):(∀g∈(eV x l).1,Sr a8 g.fs)/\∀k f,f8 (eV x l).1 k f↔f8 l k f∨((eV x l).2=true/\aT x=k/\f∈x.fs):=by
 obtain⟨r,hr⟩:∃r,r=l.reverse:=⟨_,rfl⟩
 have he:l=r.reverse:=by rw[hr,KL]
 subst he;clear hr
 induction r with
 | nil=>exact⟨by simp[eV],fun k f=>by simp[eV,Dk]⟩
 | cons y r ih=>
  rw[KP] at hl ⊢;have hp:=hl.1;rw[J3] at hp;have hl':NF r.reverse:=⟨(KM.1 hp).1,fun g hg=>hl.2 g (Je _ hg)⟩
  obtain⟨i1,i2⟩:=ih hl';have hd:=sE x r.reverse;have hi:=(rR fV (aT x) (r.reverse.map aT) hl'.1).1;rw[←hd.2] at hi;have hy:Sr a8 y.fs:=hl.2 y (by simp);rw[o6];have hlt:(eV x r.reverse).2=true->eM x y<0:=fun e=>by
   obtain⟨z,hz,hc⟩:=hi.1 e;exact fV.le_lt hc ((KM.1 hp).2.2 z hz (aT y) (by simp))
  generalize eV x r.reverse=s at *;obtain⟨out,d⟩:=s;simp only at i1 i2 hlt;simp only[CS];obtain⟨u1,u2⟩:=q7 rY x.fs hy;have hlast:Sr a8 (if eM x y=0 then(⟨y.min,y.oc,dD a8 y.fs x.fs⟩:Gr) else y).fs:=by split<;>assumption
  constructor
  ·intro g hg;rcases JV.1 hg with hg|hg
   ·split at hg
    ·rcases JV.1 hg with hg|hg
     ·exact i1 g hg
     ·simp at hg;subst hg;exact hx
    ·exact i1 g hg
   ·rw[K8.1 hg];exact hlast
  ·intro k f;have key1:f8 [if eM x y=0 then(⟨y.min,y.oc,dD a8 y.fs x.fs⟩:Gr) else y] k f↔f8 [y] k f∨(eM x y=0/\aT x=k/\f∈x.fs):=by
    rw[fM,fM];by_cases h0:eM x y=0
    ·rw[Jb h0];have e:aT x=aT y:=fV.eq _ _ h0
     show aT y=k/\f∈dD a8 y.fs x.fs↔_
     rw[u2,e];constructor
     ·rintro⟨h1,h2|h2⟩
      ·exact .inl ⟨h1,h2⟩
      ·exact .inr ⟨h0,h1,h2⟩
     ·rintro(⟨h1,h2⟩|⟨_,h1,h2⟩)
      ·exact⟨h1,.inl h2⟩
      ·exact⟨h1,.inr h2⟩
    ·rw[Ja h0];simp[h0]
   rw[cA,cA,key1];by_cases hc:eM x y<0/\d=false
   ·rw[Jb hc,cA,i2,fM,hc.2,show decide (eM x y<=0)=true from Jk om];simp only[KO,false_and,or_false,Bool.false_or,true_and];have:¬eM x y=0:=om;simp only[this,false_and,or_false];constructor
    ·rintro((h|h)|h)<;>simp[h]
    ·rintro((h|h)|h)<;>simp[h]
   ·rw[Ja hc,i2];cases d
    ·have h3:¬eM x y<0:=fun e=>hc ⟨e,rfl⟩
     by_cases h0:eM x y=0
     ·rw[h0];simp[or_assoc]
     ·rw[show decide (eM x y<=0)=false from Jm om];simp[h0]
    ·have:=hlt rfl;have:¬eM x y=0:=om;simp only[this,false_and,or_false,Bool.true_or,true_and];constructor
     ·rintro((h|h)|h)<;>simp[h]
     ·rintro((h|h)|h)<;>simp[h]
theorem A8(g:Gr):Sr a8 (gZ g).fs:=(q7 rY g.fs .nil).1
theorem yV(g:Gr)(f:Fl):f∈(gZ g).fs↔f∈g.fs:=by rw[show (gZ g).fs=dD a8 [] g.fs from rfl,(q7 rY g.fs .nil).2];simp
theorem Fe(g:Gr){l:List Gr}(hl:NF l):NF (lV g l)/\(∀k,jO (lV g l) k↔jO l k∨aT g=k)/\∀k f,f8 (lV g l) k f↔f8 l k f∨(aT g=k/\f∈g.fs):=by
 have hk:(lV g l).map aT=iQ sU (aT g) (l.map aT):=by
  obtain⟨h1,h2⟩:=sE (gZ g) l;have e:aT (gZ g)=aT g:=rfl;rw[e] at h1 h2;unfold lV iQ;rw[←h2,←h1];split<;>simp[e]
 obtain⟨a1,a2⟩:=D6 (gZ g) (A8 g) l hl;refine⟨⟨by rw[hk];exact BJ fV hl.1, ?_⟩,fun k=>?_,fun k f=>?_⟩
 ·unfold lV;split
  ·exact a1
  ·intro x hx;rcases JV.1 hx with hx|hx
   ·exact a1 x hx
   ·rw[K8.1 hx];exact A8 g
 ·have:jO (lV g l) k↔k∈(lV g l).map aT:=by rw[Jf];rfl
  rw[this,hk,y7 fV hl.1,Jf];constructor
  ·rintro(h|h)
   ·exact .inr h.symm
   ·exact .inl h
  ·rintro(h|h)
   ·exact .inr h
   ·exact .inl h.symm
 ·unfold lV;split
  ·rename_i hd;rw[a2,yV,show aT (gZ g)=aT g from rfl];simp[hd]
  ·rename_i hd;rw[cA,a2,fM,yV,show aT (gZ g)=aT g from rfl];simp[hd]
def bJ(l:List Gr):List Gr:=l.foldl (fun out g=>lV g out) []
theorem uQ(l:List Gr)(g:Gr):bJ (l++[g])=lV g (bJ l):=by simp[bJ]
theorem jE(l:List Gr):NF (bJ l)/\(∀k,jO (bJ l) k↔jO l k)/\∀k f,f8 (bJ l) k f↔f8 l k f:=by
 obtain⟨r,hr⟩:∃r,r=l.reverse:=⟨_,rfl⟩
 have he:l=r.reverse:=by rw[hr,KL]
 subst he;clear hr
 induction r with
 | nil=>exact⟨⟨.nil,by simp[bJ]⟩,fun k=>Iff.rfl,fun k f=>Iff.rfl⟩
 | cons y r ih=>
  rw[KP,uQ];obtain⟨i1,i2,i3⟩:=ih;obtain⟨j1,j2,j3⟩:=Fe y i1;exact⟨j1,fun k=>by rw[j2,i2,c7,nC],fun k f=>by rw[j3,i3,cA,fM]⟩
structure B3(P M:List Gr):Prop where
 nod:(M.map aT).Nodup
 key:∀k,jO M k↔jO P k
 has:∀k f,f8 M k f↔f8 P k f
theorem Ey:B3 [] []:=⟨by simp,fun k=>Iff.rfl,fun k f=>Iff.rfl⟩
theorem FE{P M:List Gr}(h:B3 P M){g:Gr}(hn:∀x∈M,aT x≠aT g):B3 (P++[g]) (M++[g]):=by
 refine⟨?_,fun k=>by rw[c7,c7,h.key],fun k f=>by rw[cA,cA,h.has]⟩;rw[J3];refine KI.2 ⟨h.nod,by simp,fun a ha b hb=>?_⟩;obtain⟨x,hx,rfl⟩:=Jf.1 ha;simp at hb;subst hb;exact hn x hx
theorem FM{P L1 L2:List Gr}{x g:Gr}(h:B3 P (L1++x::L2))(he:aT x=aT g):B3 (P++[g]) (L1++⟨x.min,x.oc,x.fs++g.fs⟩::L2):=by
 have e:aT ⟨x.min,x.oc,x.fs++g.fs⟩=aT x:=rfl;refine⟨?_,fun k=>?_,fun k f=>?_⟩
 ·have:=h.nod;rw[J3,Jz] at this ⊢;rw[e];exact this
 ·have:=h.key k;rw[c7,show x::L2=[x]++L2 from rfl,c7,nC] at this;rw[c7,show (⟨x.min,x.oc,x.fs++g.fs⟩:Gr)::L2=[⟨x.min,x.oc,x.fs++g.fs⟩]++L2 from rfl,c7,nC,e,c7,nC,this,←he];constructor
  ·intro hp;exact .inl hp
  ·rintro(hp|hp)
   ·exact hp
   ·exact this.1 (.inr (.inl hp))
 ·have:=h.has k f;rw[cA,show x::L2=[x]++L2 from rfl,cA,fM] at this;rw[cA,show (⟨x.min,x.oc,x.fs++g.fs⟩:Gr)::L2=[⟨x.min,x.oc,x.fs++g.fs⟩]++L2 from rfl,cA,fM,e,cA,fM,←this,←he];simp only[JV];constructor
  ·rintro(h1|⟨h1,h2|h2⟩|h1)
   ·exact .inl (.inl h1)
   ·exact .inl (.inr (.inl ⟨h1,h2⟩))
   ·exact .inr ⟨h1,h2⟩
   ·exact .inl (.inr (.inr h1))
  ·rintro((h1|⟨h1,h2⟩|h1)|⟨h1,h2⟩)
   ·exact .inl h1
   ·exact .inr (.inl ⟨h1,.inl h2⟩)
   ·exact .inr (.inr h1)
   ·exact .inr (.inl ⟨h1,.inr h2⟩)
def Ef(g h:Gr):Prop:=aT h=aT g/\Sr a8 h.fs/\∀f,f∈h.fs↔f∈g.fs
theorem FI{P M H R:List Gr}(h:B3 P M){s:List Nat}(hs:s.Nodup)(hall:∀i,i∈s↔i<M.length)(hH:H.length=s.length)(hn:∀(i j:Nat) (x:Gr),s[i]? = some j->H[i]? = some x->∃g,M[j]? = some g/\Ef g x)
  (hp:R.Perm H) (ha:∀(i j:Nat) (x y:Gr),i<j->R[i]? = some x->R[j]? = some y->¬eM y x<0):R=bJ P:=by
 have m1:∀x∈H,∃g∈M,Ef g x:=fun x hx=>by
  obtain⟨i,hi⟩:=KK hx;have hi':=(JT.1 hi).1;obtain⟨g,h1,h2⟩:=hn i s[i] x (JS om) hi;exact⟨g,Jy h1,h2⟩
 have m2:∀g∈M,∃x∈H,Ef g x:=fun g hg=>by
  obtain⟨j,hj⟩:=KK hg;have hj':=(JT.1 hj).1;obtain⟨i,hi⟩:=KK ((hall j).2 hj');have hi':=(JT.1 hi).1;obtain⟨g',h1,h2⟩:=hn i j H[i] hi (JS om);rw[hj] at h1;cases h1;exact⟨_,Jl _,h2⟩
 have hkn:(H.map aT).Nodup:=by
  refine KF.2 fun i j hi hj hij heq=>?_
  have hj1:j<H.length:=by simpa using hj
  have hi1:i<H.length:=om;rw[LH,LH] at heq;obtain⟨g1,a1,a2⟩:=hn i s[i] _ (JS om) (JS hi1);obtain⟨g2,b1,b2⟩:=hn j s[j] _ (JS om) (JS hj1);have hgg:aT g1=aT g2:=by rw[←a2.1,←b2.1];exact heq
  have h1:s[i]=s[j]:=xJ h.nod (a:=aT g1) (by rw[Js,a1];rfl) (by rw[Js,b1,hgg];rfl);have h2:i=j:=xJ hs (JS om) (by rw[h1];exact JS om);omega
 have hnf:NF R:=by
  refine⟨B4 fV ((hp.map aT).nodup_iff.2 hkn) fun i j x y hij hx hy=>?_,fun g hg=>?_⟩
  ·rw[Js] at hx hy;obtain⟨x',hx',rfl⟩:=KG.1 hx;obtain⟨y',hy',rfl⟩:=KG.1 hy;exact ha i j x' y' hij hx' hy'
  ·obtain⟨_,_,hN⟩:=m1 g (hp.mem_iff.1 hg);exact hN.2.1
 obtain⟨f1,f2,f3⟩:=jE P;refine DW hnf f1 (fun k=>?_) fun k f=>?_
 ·rw[f2,←h.key];constructor
  ·rintro⟨x,hx,rfl⟩;obtain⟨g,hg,hN⟩:=m1 x (hp.mem_iff.1 hx);exact⟨g,hg,hN.1.symm⟩
  ·rintro⟨g,hg,rfl⟩;obtain⟨x,hx,hN⟩:=m2 g hg;exact⟨x,hp.mem_iff.2 hx,hN.1⟩
 ·rw[f3,←h.has];constructor
  ·rintro⟨x,hx,rfl,hf⟩;obtain⟨g,hg,hN⟩:=m1 x (hp.mem_iff.1 hx);exact⟨g,hg,hN.1.symm,(hN.2.2 f).1 hf⟩
  ·rintro⟨g,hg,rfl,hf⟩;obtain⟨x,hx,hN⟩:=m2 g hg;exact⟨x,hp.mem_iff.2 hx,hN.1,(hN.2.2 f).2 hf⟩
theorem tG{P Q:List Gr}(hk:∀k,jO P k↔jO Q k)(hf:∀k f,f8 P k f↔f8 Q k f):bJ P=bJ Q:=by
 obtain⟨p1,p2,p3⟩:=jE P;obtain⟨q1,q2,q3⟩:=jE Q;exact DW p1 q1 (fun k=>by rw[p2,q2,hk]) fun k f=>by rw[p3,q3,hf]
theorem uT{P Q:List Gr}(h:∀g,g∈P↔g∈Q):bJ P=bJ Q:=tG (fun k=>by unfold jO;simp only[h]) fun k f=>by unfold f8;simp only[h]
theorem DI(P Q:List Gr):bJ (bJ P++Q)=bJ (P++Q):=by
 obtain⟨p1,p2,p3⟩:=jE P;exact tG (fun k=>by rw[c7,c7,p2]) fun k f=>by rw[cA,cA,p3]
theorem B5(P Q:List Gr):bJ (P++bJ Q)=bJ (P++Q):=by
 obtain⟨p1,p2,p3⟩:=jE Q;exact tG (fun k=>by rw[c7,c7,p2]) fun k f=>by rw[cA,cA,p3]
theorem gS{α:Type}:∀{l m:List α},l.Nodup->(∀x∈l,x∈m)->l.length<=m.length
 | [],m,_,_=>by simp
 | a::l,m,hn,hs=>by
  obtain⟨h1,h2⟩:=Jn.1 hn;obtain⟨u,v,rfl⟩:=Kq (hs a (.head _));have:=gS (m:=u++v) h2 fun x hx=>by
   rcases JV.1 (hs x (.tail _ hx)) with h|h
   ·exact Je _ h
   ·rcases JQ.1 h with rfl|h
    ·exact absurd hx h1
    ·exact Jw _ h
  simp at this ⊢;omega
theorem Ab(u:Nat):∀c∈Lib.decDigits u,48<=c.toNat/\c.toNat<=57:=by
 induction u using Nat.strongRecOn with
 | _ u ih=>
  have e:∀k:Nat,k<10->(UInt8.ofNat (48+k)).toNat=48+k:=fun k hk=>by simp;omega
  by_cases h10:u<10
  ·rw[Lib.decDigits_one h10];intro c hc;simp at hc;subst hc;have:=e u h10;simp at this ⊢;omega
  ·rw[Lib.decDigits,dif_neg h10];intro c hc;rcases JV.1 hc with h|h
   ·exact ih (u/10) om c h
   ·simp only[K8] at h;subst h;have:=e (u%10) om;omega
theorem dO{n:Int}:∀b∈Lib.itoa n,b≠32/\b≠58/\b≠102/\b≠98:=by
 have key:∀u:Nat,∀b∈Lib.decDigits u,b≠32/\b≠58/\b≠102/\b≠98:=fun u b hb=>by
  obtain⟨h1,h2⟩:=Ab u b hb;refine⟨?_, ?_, ?_, ?_⟩<;>(rintro rfl;revert h1 h2;decide)
 unfold Lib.itoa;split
 ·intro b hb;rcases JQ.1 hb with rfl|hb
  ·decide
  ·exact key _ b hb
 ·exact key _
theorem oL{m n:Int}(hm:i64 m)(hn:i64 n)(h:Lib.itoa m=Lib.itoa n):m=n:=by
 have a:=vG hm;rw[h,vG hn] at a;injection a with a;exact a.symm
theorem nI{s:UInt8}:∀{u v x y:List UInt8},(∀b∈u,b≠s)->(∀b∈v,b≠s)->u++s::x=v++s::y->u=v/\x=y
 | [],[],x,y,_,_,h=>⟨rfl,by simpa using h⟩
 | [],b::v,x,y,_,hv,h=>by
  have:=(List.cons.inj h).1;exact absurd this.symm (hv b (.head _))
 | a::u,[],x,y,hu,_,h=>by
  have:=(List.cons.inj h).1;exact absurd this (hu a (.head _))
 | a::u,b::v,x,y,hu,hv,h=>by
  obtain⟨h1,h2⟩:=List.cons.inj h;obtain⟨h3,h4⟩:=nI (fun c hc=>hu c (.tail _ hc)) (fun c hc=>hv c (.tail _ hc)) h2;exact⟨by rw[h1,h3],h4⟩
def oT(k:Int):List UInt8:=if k=1 then [102,97,105,108,101,100] else if k=2 then [98,114,111,107,101] else Lib.itoa k
def dQ:List Int->List UInt8
 | []=>[]
 | c::r=>32::(Lib.itoa c++dQ r)
theorem lJ:∀(l:List Int) (c:Int),dQ (l++[c])=dQ l++32::Lib.itoa c
 | [],c=>by simp[dQ]
 | a::r,c=>by simp[dQ,lJ r c]
def g9(k:Ky):List UInt8:=oT k.2.kind++32::(Lib.itoa k.2.at_++32::(Lib.itoa k.2.code++58::dQ k.1))
theorem uK(k:Int):∀b∈oT k,b≠32:=by
 unfold oT;split
 ·decide
 ·split
  ·decide
  ·exact fun b hb=>(dO b hb).1
theorem Dh{a b:Int}(ha:i64 a)(hb:i64 b)(h:oT a=oT b):a=b:=by
 have n1:∀z:Int,Lib.itoa z≠[102,97,105,108,101,100]:=fun z e=>(dO (n:=z) 102 (by rw[e];simp)).2.2.1 rfl
 have n2:∀z:Int,Lib.itoa z≠[98,114,111,107,101]:=fun z e=>(dO (n:=z) 98 (by rw[e];simp)).2.2.2 rfl
 unfold oT at h;split at h<;>rename_i h1
 ·split at h<;>rename_i h2
  ·omega
  ·split at h<;>rename_i h3
   ·exact absurd h (by decide)
   ·exact absurd h.symm (n1 b)
 ·split at h<;>rename_i h2
  ·split at h<;>rename_i h3
   ·exact absurd h (by decide)
   ·split at h<;>rename_i h4
    ·omega
    ·exact absurd h.symm (n2 b)
  ·split at h<;>rename_i h3
   ·exact absurd h (n1 a)
   ·split at h<;>rename_i h4
    ·exact absurd h (n2 a)
    ·exact oL ha hb h
theorem vC:∀l:List Int,dQ l=[]∨∃r,dQ l=32::r
 | []=>.inl rfl
 | c::r=>.inr ⟨_,rfl⟩
theorem zX:∀{a b:List Int},(∀x∈a,i64 x)->(∀x∈b,i64 x)->dQ a=dQ b->a=b
 | [],[],_,_,_=>rfl
 | [],c::b,_,_,h=>by simp[dQ] at h
 | c::a,[],_,_,h=>by simp[dQ] at h
 | c::a,d::b,ha,hb,h=>by
  simp only[dQ,List.cons.injEq,true_and] at h;have key:Lib.itoa c=Lib.itoa d/\dQ a=dQ b:=by
   have u:=fun z hz=>(dO (n:=c) z hz).1
   have v:=fun z hz=>(dO (n:=d) z hz).1
   rcases vC a with e1|⟨r,e1⟩<;>rcases vC b with e2|⟨t,e2⟩<;>rw[e1,e2] at h ⊢
   ·simp at h;exact⟨h,rfl⟩
   ·rw[KN] at h;exact absurd rfl (u 32 (by rw[h];simp))
   ·rw[KN] at h;exact absurd rfl (v 32 (by rw[←h];simp))
   ·obtain⟨h1,h2⟩:=nI u v h;exact⟨h1,by rw[h2]⟩
  have e1:=oL (ha c (.head _)) (hb d (.head _)) key.1;have e2:=zX (fun x hx=>ha x (.tail _ hx)) (fun x hx=>hb x (.tail _ hx)) key.2;rw[e1,e2]
def Gs(k:Ky):Prop:=(∀x∈k.1,i64 x)/\i64 k.2.kind/\i64 k.2.at_/\i64 k.2.code
theorem DM{a b:Ky}(ha:Gs a)(hb:Gs b)(h:g9 a=g9 b):a=b:=by
 obtain⟨h1,h2⟩:=nI (uK _) (uK _) h;obtain⟨h3,h4⟩:=nI (fun z hz=>(dO z hz).1) (fun z hz=>(dO z hz).1) h2;obtain⟨h5,h6⟩:=nI (fun z hz=>(dO z hz).2.1) (fun z hz=>(dO z hz).2.1) h4;have e1:=Dh ha.2.1 hb.2.1 h1;have e2:=oL ha.2.2.1 hb.2.2.1 h3;have e3:=oL ha.2.2.2 hb.2.2.2 h5;have e4:=zX ha.1 hb.1 h6;obtain⟨p,o1,o2,o3⟩:=a;obtain⟨q,u1,u2,u3⟩:=b;simp only at e1 e2 e3 e4;subst e1 e2 e3 e4;rfl
theorem oH:∀{l:List Int},(∀x∈l,i64 x)->(dQ l).length<=22*l.length
 | [],_=>by simp[dQ]
 | c::r,h=>by
  have:=oH (l:=r) fun x hx=>h x (.tail _ hx)
  have:=gV (h c (.head _));simp[dQ];omega
def BC(σ:List (Nat × Nat))(ns nx n':Nat):List (Nat × Nat)->Bool
 | []=>true
 | (i,id)::r=>(match Nat.blt i ns with
   | true=>match lk σ id with
    | some j=>Nat.beq j i
    | none=>false
   | false=>Nat.ble nx id && Nat.blt id n') && BC σ ns nx n' r
def xO(ids:List Nat)(nx:Nat):aA->Bool
 | []=>true
 | (k,_)::r=>(match Nat.ble nx k with
   | true=>true
   | false=>tY k ids) && xO ids nx r
theorem pT{σ:List (Nat × Nat)}{ns nx n':Nat}:∀{τ:List (Nat × Nat)},BC σ ns nx n' τ=true->∀p∈τ,(p.1<ns/\lk σ p.2=some p.1)∨(ns<=p.1/\nx<=p.2/\p.2<n')
 | [],_,p,hp=>by cases hp
 | (i,id)::r,h,p,hp=>by
  simp only[BC,JU] at h;rcases JQ.1 hp with rfl|hp
  ·have h1:=h.1;split at h1
   ·rename_i hb;split at h1
    ·rename_i j hj;exact .inl ⟨JR hb,by rw[hj,Nat.eq_of_beq_eq_true h1]⟩
    ·cases h1
   ·rename_i hb;simp only[JU] at h1;refine .inr ⟨?_,JR h1.1,JR h1.2⟩;rcases Jc i ns with hl|hl
    ·have e:Nat.blt i ns=true:=JZ hl;rw[e] at hb;cases hb
    ·exact hl
  ·exact pT h.2 p hp
theorem oQ:∀{m:aA} {ids:List Nat} {nx:Nat},xO ids nx m=true->∀p∈m,nx<=p.1∨tY p.1 ids=true
 | [],ids,nx,_,p,hp=>by cases hp
 | (k,b)::r,ids,nx,h,p,hp=>by
  simp only[xO,JU] at h;rcases JQ.1 hp with rfl|hp
  ·have h1:=h.1;split at h1
   ·rename_i hb;exact .inl (JR hb)
   ·exact .inr h1
  ·exact oQ h.2 p hp
theorem aC.useN{P:Program}{Γ:List (Nat × AV)}{F:FuncId}{args args':List AV}{ms mem m1:aA}{ns nx:Nat}{Qs K:AV->aA->Nat->Prop}(hΓ:∀p∈Γ,NN p.2)(σ:List (Nat × Nat))(h:aC P Γ F args' ms ns Qs)
  (hp:iY (kD σ) mem=m1) (hargs:m7 m1 σ args args') (hM:dE m1 σ ms) (hc:(pJ ms && (n9 σ && sZ ns σ))=true)
  (hk:∀r m n,Qs r m n->∃τ r' m' n',Cv m τ r r'/\dE m τ m'/\(pJ m' && (n9 τ && (Nat.ble nx n' && (xO (kD σ) nx m' && BC σ ns nx n' τ))))=true/\K r' (m'++gB (kD σ) mem) n'):aC P Γ F args mem nx K:=by
 simp only[JU] at hc;obtain⟨hc1,hc2,hc4⟩:=hc;refine⟨fun X D ρ w vs hD hm hv=>?_⟩;refine(aC.use (K:=K) (nx:=nx) hΓ h σ (m1:=m1) (rest:=gB (kD σ) mem) ⟨fun p hp'=>?_,fun p hp'=>(bK.1 hp').1,fun p hp'=>?_,fun p h1 q h2=>?_, ?_⟩ ?_ hargs hM.cvm (cG hc1) (mW hc2) (fun id i hl=>gF hc4 _ (aG hl)) ?_).run X D ρ w vs hD hm hv
 ·rw[←hp] at hp';exact(bZ.1 hp').1
 ·cases hi:tY p.1 (kD σ) with
  | true=>left;rw[←hp];exact bZ.2 ⟨hp',hi⟩
  | false=>right;exact bK.2 ⟨hp',hi⟩
 ·rw[←hp] at h1;have a:=(bZ.1 h1).2;have b:=(bK.1 h2).2;intro e;rw[e,b] at a;cases a
 ·rw[←hp];exact hm.nod.sublist ((gK mem).map _)
 ·exact hm.nod.sublist ((gI mem).map _)
 ·intro r m n hq hn;obtain⟨τ,r',m',n',h1,h2,h3,h4⟩:=hk r m n hq;simp only[JU] at h3;refine⟨τ,r',m',n',JR h3.2.2.1,h1,h2.cvm,cG h3.1,mW h3.2.1,fun i id hl=>pT h3.2.2.2.2 _ (aG hl),fun p h5 q h6=>?_,h4⟩;have b:=(bK.1 h6).2;rcases oQ h3.2.2.2.1 p h5 with a|a
  ·have:=hD _ (hm.low q (bK.1 h6).1);omega
  ·intro e;rw[e,b] at a;cases a
theorem aC.ph{P:Program}{Γ:List (Nat × AV)}{F:FuncId}{args:List AV}{mem:aA}{nx:Nat}{K:AV->aA->Nat->Prop}(t:TypeId)(sz:Nat)(h:aC P Γ F args ((nx,.row t sz [])::mem) (nx+1) K):aC P Γ F args mem nx K:=by
 refine⟨fun X D ρ w vs hD hm hv=>?_⟩;obtain⟨m1,v1,e1⟩:=hm.phantom (n:=nx) (D':=dn D nx (nx+1)) (fun h'=>Kb _ (hD _ h')) (fun i hi=>.inl hi) (.inr ⟨JX _,KV _⟩) t sz;refine(h.run X _ _ w vs (fun i hi=>?_) m1 ⟨hv.1,fun j c x hc hx=>v1 _ _ (hv.2 j c x hc hx)⟩).mono ?_
 ·rcases hi with hi|hi
  ·have:=hD i hi;omega
  ·exact hi.2
 ·rintro e w' ⟨r,v,m,n,ρ',rfl,hk,hn,hm',hr,ext⟩;have ed:dn (dn D nx (nx+1)) (nx+1) n=dn D nx n:=by
   funext i
   apply propext;constructor
   ·rintro((hi|⟨h1,h2⟩)|⟨h1,h2⟩)
    ·exact .inl hi
    ·exact .inr ⟨h1,om⟩
    ·exact .inr ⟨om,h2⟩
   ·rintro(hi|⟨h1,h2⟩)
    ·exact .inl (.inl hi)
    ·rcases Jc i (nx+1) with h3|h3
     ·exact .inl (.inr ⟨h1,h3⟩)
     ·exact .inr ⟨h3,h2⟩
  rw[ed] at hm' hr ext;refine⟨r,v,m,n,ρ',rfl,hk,om,hm',hr, ?_⟩;have e2:=e1 D fun i hi=>hi
  exact e2.trans ⟨fun i hi=>ext.le i (.inl hi),fun i hi=>ext.agree i (.inl hi),ext.size,ext.keep,ext.fresh,ext.env⟩
end Go.Ax
namespace Go.Ax
open Go
section
variable {P:Program} {Γ:List (Nat × AV)} {B:Nat}
end
end Go.Ax
namespace Go.Ax
open Go
inductive cV where
 | ret
 | pan (x:Value)
 | recd (x:Value)
def cV.mode:cV->FrameMode
 | .ret=>.returning
 | .pan x=>.panicking [pe x]
 | .recd x=>.panicking [{ v:=x,recovered:=true }]
def CX:List Value->Option (List AV)
 | []=>some []
 | .int k n::r=>match CX r with
  | some l=>some (.int k n::l)
  | none=>none
 | .bool b::r=>match CX r with
  | some l=>some (.bool b::l)
  | none=>none
 | _=>none
def Ic:Value->Option AV
 | .iface t (.agg arr)=>match CX arr.toList with
  | some l=>some (.ifc t (.agg l))
  | none=>none
 | _=>none
theorem sH{ρ:Nat->bC}{D:Nat->Prop}{O:Nat->Prop}{w:World}:∀{xs:List Value} {l:List AV},CX xs=some l->AT ρ D O w l xs
 | [],l,h=>by simp only[CX] at h;cases h;exact⟨.nil,by simp⟩
 | x::r,l,h=>by
  cases x<;>simp only[CX] at h<;>first|(cases h;done)|skip
  all_goals
   split at h
   ·rename_i l' hl;cases h;obtain⟨h1,h2⟩:=sH (ρ:=ρ) (D:=D) (O:=O) (w:=w) hl;refine⟨.cons ?_ h1,fun y hy=>?_⟩
    ·first|exact .int _ _|exact .bool _
    ·rcases JQ.1 hy with rfl|hy
     ·rfl
     ·exact h2 y hy
   ·cases h
theorem CV{ρ:Nat->bC}{D:Nat->Prop}{O:Nat->Prop}{w:World}{x:Value}{v:AV}(h:Ic x=some v):VR ρ D O w v x:=by
 unfold Ic at h;split at h
 ·rename_i t arr;split at h
  ·rename_i l hl;cases h;obtain⟨h1,h2⟩:=sH (ρ:=ρ) (D:=D) (O:=O) (w:=w) hl;exact .ifc t _ _ (.agg l arr (by have:=h1.1;simpa using this) (fun y hy=>h2 y (by simpa using hy)) fun j c y hj hy=>h1.2 j c y hj (by simpa using hy))
  ·cases h
 ·cases h
structure jC(P:Program)(Γ:List (Nat × AV))(B:Nat)(c:Code)(s:St)(m:cV)(Q:Exit->St->cV->Prop):Prop where
 run:∀(X:Nat->Prop) (ds:List Deferred) (D:Nat->Prop) (ρ:Nat->bC) (a:Act) (w:World) (c₀:Frame) (cs:List Frame),(∀i,D i->i<B)->SR Γ X (ds,0) ρ (dn D B s.nx) s a w->B<=s.nx->c₀.mode=m.mode ->
  c.wpS P (fun e a' cs' w'=>∃(s':St) (m':cV) (ρ':Nat->bC),Q e s' m'/\cs'={ c₀ with mode:=m'.mode }::cs/\B<=s'.nx/\SR Γ X (ds,0) ρ' (dn D B s'.nx) s' a' w'/\Ext D ρ s.mem w ρ' (dn D B s'.nx) s'.mem w') a (c₀::cs) w
section
variable {P:Program} {Γ:List (Nat × AV)} {B:Nat} {s:St} {m:cV} {Q:Exit->St->cV->Prop}
theorem jK{c₀:Frame}{u:FrameMode}(h:c₀.mode=u):{ c₀ with mode:=u }=c₀:=by subst h;rfl
theorem jC.of{c:Code}(hc:cU c=false)(h:cJ P Γ B c s fun e s'=>Q e s' m):jC P Γ B c s m Q:=by
 refine⟨fun X ds D ρ a w c₀ cs hD hs hB hm=>wpS_of_wp (Go.wp_mono (xI.1 (h.run none X (ds,0) D ρ a w hD hs hB (.no hc))) ?_)⟩;rintro e a' w' ⟨s',ρ',hq,hB',hs',hext⟩;exact⟨s',m,ρ',hq,by rw[jK hm],hB',hs',hext⟩
def H3(P:Program)(Γ:List (Nat × AV))(B:Nat)(y:Code)(Q:Exit->St->cV->Prop)(e:Exit)(s:St)(m:cV):Prop:=
 match e with
 | .normal=>jC P Γ B y s m Q
 | e=>Q e s m
theorem oA{c:Code}{Q Q':Exit->Act->List Frame->World->Prop}{a:Act}{cs:List Frame}{w:World}(h:c.wpS P Q a cs w)(hq:∀e a cs w,Q e a cs w->Q' e a cs w):c.wpS P Q' a cs w:=
 fun b k hb hr=>let ⟨e,a',cs',w',q,r⟩:=h b k hb hr;⟨e,a',cs',w',hq _ _ _ _ q,r⟩
theorem jC.seq{x y:Code}(h:jC P Γ B x s m (H3 P Γ B y Q)):jC P Γ B (.seq x y) s m Q:=by
 refine⟨fun X ds D ρ a w c₀ cs hD hs hB hm=>wpS_seq (oA (h.run X ds D ρ a w c₀ cs hD hs hB hm) ?_)⟩;rintro e a' cs' w' ⟨s',m',ρ',hq,rfl,hB',hs',hext⟩;cases e with
 | normal=>
  refine oA ((show jC P Γ B y s' m' Q from hq).run X ds D ρ' a' w' { c₀ with mode:=m'.mode } cs hD hs' hB' rfl) ?_;rintro e a2 cs2 w2 ⟨s2,m2,ρ2,h1,rfl,h2,h3,h4⟩;exact⟨s2,m2,ρ2,h1,rfl,h2,h3,hext.trans h4⟩
 | exit i=>exact⟨s',m',ρ',hq,rfl,hB',hs',hext⟩
 | goto l=>exact⟨s',m',ρ',hq,rfl,hB',hs',hext⟩
 | ret=>exact⟨s',m',ρ',hq,rfl,hB',hs',hext⟩
 | panic c=>exact⟨s',m',ρ',hq,rfl,hB',hs',hext⟩
 | outgrown=>exact⟨s',m',ρ',hq,rfl,hB',hs',hext⟩
theorem jC.cond{c:Operand}{x y:Code}{b:Bool}(hc:ev Γ s c=some (.bool b))(h:EP b (jC P Γ B x s m Q) (jC P Γ B y s m Q)):jC P Γ B (.cond c x y) s m Q:=by
 refine⟨fun X ds D ρ a w c₀ cs hD hs hB hm=>?_⟩;have hv:=aB hs hc;generalize he:a.eval c=cv at hv;cases hv;cases b with
 | true=>exact wpS_cond he ((show jC P Γ B x s m Q from h).run X ds D ρ a w c₀ cs hD hs hB hm)
 | false=>exact wpS_cond he ((show jC P Γ B y s m Q from h).run X ds D ρ a w c₀ cs hD hs hB hm)
def Cp(op:Op):Bool:=
 match op with
 | .call c=>match c.callee with
  | .builtin .recover=>true
  | _=>false
 | _=>false
def G9:cV->Option (AV × cV)
 | .ret=>some (.nif,.ret)
 | .pan x=>match Ic x with
  | some v=>some (v,.recd x)
  | none=>none
 | .recd x=>some (.nif,.recd x)
def sA(P:Program)(Γ:List (Nat × AV))(ops:List Oper):List Oper->St->cV->(St->cV->Prop)->Prop
 | [],s,m,K=>K s m
 | o::r,s,m,K=>match eY ops s o.guard with
  | none=>False
  | some false=>match bY s o.dst (.tup []) s.mem s.nx with
   | some s'=>sA P Γ ops r s' m K
   | none=>False
  | some true=>match Cp o.op with
   | true=>match G9 m with
    | some (v,m')=>match bY s o.dst v s.mem s.nx with
     | some s'=>sA P Γ ops r s' m' K
     | none=>False
    | none=>False
   | false=>match a7 P Γ s o.op with
    | some (v,mem,nx)=>match bY s o.dst v mem nx with
     | some s'=>sA P Γ ops r s' m K
     | none=>False
    | none=>False
theorem Ca{o:Oper}(h:Cp o.op=true)(ρ:Operand->Value)(w:World):(execOp ρ o).run P w = .ok .recover w:=by
 unfold Cp at h;split at h
 ·rename_i c hop;split at h
  ·rename_i hc;simp[execOp,hop,resolve,hc,invoke,builtin]
  ·cases h
 ·cases h
theorem zA(ops:Array Oper):∀(l:List Nat) (s:St) (m:cV) (K:St->cV->Prop),sA P Γ ops.toList (l.filterMap fun i=>ops[i]?) s m K ->
  ∀(X:Nat->Prop) (ds:List Deferred) (D:Nat->Prop) (ρ:Nat->bC) (a:Act) (w:World) (c₀:Frame) (cs:List Frame) (Q:Exit->Act->List Frame->World->Prop),(∀i,D i->i<B)->SR Γ X (ds,0) ρ (dn D B s.nx) s a w->B<=s.nx->c₀.mode=m.mode ->
   (∀(s':St) (m':cV) (ρ':Nat->bC) (a':Act) (w':World),K s' m'->B<=s'.nx->SR Γ X (ds,0) ρ' (dn D B s'.nx) s' a' w'->Ext D ρ s.mem w ρ' (dn D B s'.nx) s'.mem w'->Q .normal a' ({ c₀ with mode:=m'.mode }::cs) w') ->
   wpOpsS P ops Q l a (c₀::cs) w:=by
 intro l
 induction l with
 | nil=>
  intro s m K h X ds D ρ a w c₀ cs Q hD hs hB hm hQ;have:=hQ s m ρ a w h hB hs (Ext.refl fun i hi=>.inl hi);rw[jK hm] at this;exact this
 | cons i r ih=>
  intro s m K h X ds D ρ a w c₀ cs Q hD hs hB hm hQ;simp only[wpOpsS];cases ho:ops[i]? with
  | none=>
   simp only[LK,ho] at h;exact ih s m K h X ds D ρ a w c₀ cs Q hD hs hB hm hQ
  | some o=>
   simp only[LK,ho] at h;simp only[sA] at h;split at h
   ·exact h.elim
   ·rename_i hw;have hw':=cW hs hw;rw[Kx] at hw';simp only[hw',KO,if_false];split at h
    ·rename_i s' hst;obtain⟨h1,h2,h3⟩:=cN hst hs hs.mr kH (fun h=>h) (fun _ _ h=>h);refine ih s' m K h X ds D ρ _ w c₀ cs Q hD (by rw[h3];exact h1) om hm fun s2 m2 ρ2 a2 w2 k1 k2 k3 k4=>hQ s2 m2 ρ2 a2 w2 k1 k2 k3 (by rw[←h2];exact k4)
    ·exact h.elim
   ·rename_i hw;have hw':=cW hs hw;rw[Kx] at hw';simp only[hw',if_true];split at h
    ·rename_i hrec;rw[Ca hrec];split at h
     ·rename_i v m' hv;split at h
      ·rename_i s' hst;have main:∀(x:Value) (c1:Frame),(VR ρ (dn D B s.nx) (OX X ρ s.mem) w v x)->c1={ c₀ with mode:=m'.mode }->wpOpsS P ops Q r (a.put o.dst x) (c1::cs) w:=by
        intro x c1 hx hc1;obtain⟨h1,h2,h3⟩:=cN hst hs hs.mr hx (fun h=>h) (fun _ _ h=>h);subst hc1;exact ih s' m' K h X ds D ρ _ w { c₀ with mode:=m'.mode } cs Q hD (by rw[h3];exact h1) om rfl fun s2 m2 ρ2 a2 w2 k1 k2 k3 k4=>hQ s2 m2 ρ2 a2 w2 k1 k2 k3 (by rw[←h2];exact k4)
       cases m with
       | ret=>
        cases hv;simp only[recoverD,hm,cV.mode];exact main _ c₀ .nif (jK hm).symm
       | pan x=>
        simp only[G9] at hv;split at hv
        ·rename_i u hu;cases hv;simp only[recoverD,hm,cV.mode,pe];exact main _ _ (CV hu) rfl
        ·cases hv
       | recd x=>
        cases hv;simp only[recoverD,hm,cV.mode];exact main _ c₀ .nif (jK hm).symm
      ·exact h.elim
     ·exact h.elim
    ·split at h
     ·rename_i v mem nx hstep;split at h
      ·rename_i s' hst;have hnx:s.nx<=nx:=by rcases nJ hstep with h'|h'<;>omega
       obtain⟨x,n,w',ρ',e1,e2,m1,v1,mono1,ext1⟩:=fP (P:=P) (D:=dn D B s.nx) (D':=dn D B nx) (fun h'=>Kb _ (jY hD hB _ h')) (lN hnx) hs o (fun e=>.inr ⟨hB,om⟩) hstep;obtain⟨h1,h2,h3⟩:=cN hst hs m1 v1 (ext1 _ fun i hi=>hi).mks mono1;have fin:wpOpsS P ops Q r (a.put o.dst x) (c₀::cs) w':=ih s' m K h X ds D ρ' _ w' c₀ cs Q hD (by rw[h3];exact h1) (by rw[h3];exact J0 hB hnx) hm fun s2 m2 ρ2 a2 w2 k1 k2 k3 k4=>hQ s2 m2 ρ2 a2 w2 k1 k2 k3 ((ext1 D fun i hi=>.inl hi).trans (by rw[←h2];exact k4))
       rw[e1];rcases e2 with rfl|⟨rfl,rfl⟩
       ·exact fin
       ·exact fin
      ·exact h.elim
     ·exact h.elim
theorem vP(L:List Oper):∀(l:List Oper) (k:Nat),(∀j,L[k+j]? = l[j]?)->((List.range' k l.length).filterMap fun i=>L[i]?)=l
 | [],k,h=>rfl
 | o::r,k,h=>by
  have h0:L[k]? = some o:=by simpa using h 0
  rw[Kc,List.range'_succ,LK,h0];simp only;rw[vP L r (k+1) fun j=>by have:=h (j+1);simpa[Nat.add_assoc,Nat.add_comm 1 j] using this]
theorem jC.region{id:Nat}{ops:Array Oper}(h:sA P Γ ops.toList ops.toList s m fun s' m'=>Q .normal s' m'):jC P Γ B (.region id ops false) s m Q:=by
 refine⟨fun X ds D ρ a w c₀ cs hD hs hB hm=>wpS_region ?_⟩;have e:((List.range ops.size).filterMap fun i=>ops[i]?)=ops.toList:=by
  have:=vP ops.toList ops.toList 0 (fun j=>by rw[Jt]);rw[List.range_eq_range',←Array.length_toList];simpa using this
 exact zA ops (List.range ops.size) s m _ (by rw[e];exact h) X ds D ρ a w c₀ cs _ hD hs hB hm fun s' m' ρ' a' w' h1 h2 h3 h4=>⟨s',m',ρ',h1,rfl,h2,h3,h4⟩
def A2(P:Program)(Γ:List (Nat × AV))(H:Hk):Code->St->cV->(St->cV->Prop)->Prop
 | .skip,s,m,K=>K s m
 | .seq x y,s,m,K=>A2 P Γ H x s m fun s' m'=>A2 P Γ H y s' m' K
 | .cond c x y,s,m,K=>match ev Γ s c with
  | some (.bool b)=>match b with
   | true=>A2 P Γ H x s m K
   | false=>A2 P Γ H y s m K
  | _=>False
 | .region _ ops draw,s,m,K=>match draw with
  | false=>sA P Γ ops.toList ops.toList s m K
  | true=>False
 | _,_,_,_=>False
theorem Aj{H:Hk}:∀(c:Code) (s:St) (m:cV) (K:St->cV->Prop),A2 P Γ H c s m K->jC P Γ B c s m fun e s' m'=>match e with
  | .normal=>K s' m'
  | _=>False:=by
 intro c
 induction c with
 | skip=>exact fun s m K h=>.of rfl ⟨fun rd X ds D ρ a w hD hs hB _=>wpIn_skip ⟨s,ρ,h,hB,hs,Ext.refl fun i hi=>.inl hi⟩⟩
 | seq x y ihx ihy=>
  intro s m K h;refine jC.seq ?_;obtain⟨h'⟩:=ihx s m _ h;refine⟨fun X ds D ρ a w c₀ cs hD hs hB hm=>oA (h' X ds D ρ a w c₀ cs hD hs hB hm) ?_⟩;rintro e a' cs' w' ⟨s',m',ρ',hq,rest⟩;refine⟨s',m',ρ', ?_,rest⟩;cases e with
  | normal=>exact ihy s' m' K hq
  | _=>exact(show False from hq).elim
 | cond c x y ihx ihy=>
  intro s m K h;simp only[A2] at h;split at h
  ·rename_i b hc;refine jC.cond hc ?_;cases b with
   | true=>exact ihx s m K h
   | false=>exact ihy s m K h
  ·exact h.elim
 | region id ops draw=>
  intro s m K h;cases draw with
  | false=>exact jC.region h
  | true=>exact(show False from h).elim
 | _=>exact fun s m K h=>(show False from h).elim
def DfR(ρ:Nat->bC)(D:Nat->Prop)(O:Nat->Prop)(w:World)(v:AV)(d:Deferred):Prop:=
 ∃(F:FuncId) (first cap:List AV) (vs:List Value) (a2:Array Value),v = .fn (.func F) first cap/\d.target = .fn (.func F) a2/\d.args.toList++a2.toList=vs/\dS ρ D O w (first++cap) vs
def v7(P:Program)(Γ:List (Nat × AV))(H:Hk)(rs:List ResultVar)(v:AV)(s:St)(m:cV)(Q:AV->aA->Nat->Prop)(Qp:Value->aA->Nat->Prop):Prop:=
 match v with
 | .fn (.func F) first cap=>match P.funcs[F]? with
  | some fn=>match fn.body with
   | some c=>match fn.name == "runtime.NumGoroutine" with
    | false=>match fn.results.toList with
     | []=>A2 P Γ H c (enter fn.ntmps (first++cap) s.mem s.nx) m fun s' m'=>match m' with
      | .pan x=>Qp x s'.mem s'.nx
      | _=>match qL P rs { s with mem:=s'.mem,nx:=s'.nx } with
       | some r=>Q r s'.mem s'.nx
       | none=>False
     | _::_=>False
    | true=>False
   | none=>False
  | none=>False
 | _=>False
theorem oK{H:Hk}{X:Nat->Prop}{D:Nat->Prop}{ρ ρ0:Nat->bC}{a:Act}{w w0:World}{mem0:aA}{d:Deferred}{v:AV}{fn:Func}{Qr:AV->aA->Nat->Prop}{Qp:Value->aA->Nat->Prop}
  (hD:∀i,D i->i<B) (hs:SR Γ X ([d],0) ρ (dn D B s.nx) s a w) (hB:B<=s.nx) (hv:DfR ρ (dn D B s.nx) (OX X ρ s.mem) w v d) (hext:Ext D ρ0 mem0 w0 ρ (dn D B s.nx) s.mem w)
  (hm:m.mode≠.run) (h:v7 P Γ H fn.results.toList v s m Qr Qp) :
  Leaves P fn a.tmps (fun e w'=>∃(mem':aA) (nx':Nat) (ρ':Nat->bC),B<=nx'/\MR Γ X ρ' (dn D B nx') mem' w'/\Ext D ρ0 mem0 w0 ρ' (dn D B nx') mem' w' /\
   ((∃(r:AV) (v:Value),e = .returned v/\Qr r mem' nx'/\VR ρ' (dn D B nx') (OX X ρ' mem') w' r v)∨(∃x:Value,e = .panicked [pe x]/\Qp x mem' nx'))) [d] m.mode w:=by
 obtain⟨F,first,cap,vs,a2,rfl,ht,hvs,hvr⟩:=hv;simp only[v7] at h;split at h<;>first|exact h.elim|skip
 rename_i fd hf;split at h<;>first|exact h.elim|skip
 rename_i c hc;split at h<;>first|exact h.elim|skip
 rename_i hname;split at h<;>first|exact h.elim|skip
 rename_i hres;have hname':¬fd.name = "runtime.NumGoroutine" := by simpa using hname
 refine⟨hm,.func F,a2,F,vs.toArray,ht, ?_, ?_⟩
 ·rw[ht,←hvs];have e:(d.args.toList++a2.toList).toArray=d.args++a2:=by apply K7;simp
  simp[invoke,callFunc,hf,hc,hname',e]
 ·refine callsD_of_wpS hf hc fun c₀ cs hc0=>?_
  have hwide:∀id,dn (dn D B s.nx) s.nx s.nx id->dn D B s.nx id:=iD hB (JX _);have hsr:=oB (n:=fd.ntmps) (jY hD hB) hs.mr hvr (Kz _);refine oA ((Aj (B:=s.nx) (H:=H) c _ _ _ h).run X [] (dn D B s.nx) ρ _ w c₀ cs (jY hD hB) hsr (JX _) hc0) ?_;rintro e a' cs' w' ⟨s',m',ρ',hq,rfl,hB',hs',hext'⟩;cases e with
  | normal=>
   have hr0:(results fd a'.tmps).run P w' = .ok (.tuple #[]) w':=by
    have:=mT (P:=P) (w:=w') (fn:=fd) (tmps:=a'.tmps) (vs:=[]) (by rw[hres];simp);simpa using this
   have ext2:=hext.trans ((hext'.sub fun i hi=>.inl hi).wide (iD hB hB'));obtain⟨m2,mono2,_⟩:=hs'.mr.widen (iD hB hB');refine⟨hs'.def0.eq,m'.mode,rfl,.tuple #[],hr0, ?_⟩;have hs2:SR Γ X ([],0) ρ' (dn D B s'.nx) { s with mem:=s'.mem,nx:=s'.nx } { tmps:=a.tmps,defers:=[] } w':=
    ⟨m2,qS.start (ds:=([],0)) (Kz _),hs.size,fun i u hi=>mono2 _ _ (hext'.vr (hs.slot i u hi))⟩
   have ret:settle m'.mode = .returning->(match qL P fn.results.toList { s with mem:=s'.mem,nx:=s'.nx } with
       | some r=>Qr r s'.mem s'.nx
       | none=>False)->Leaves P fn a.tmps (fun e w'=>∃(mem':aA) (nx':Nat) (ρ':Nat->bC),B<=nx'/\MR Γ X ρ' (dn D B nx') mem' w'/\Ext D ρ0 mem0 w0 ρ' (dn D B nx') mem' w' /\
   ((∃(r:AV) (v:Value),e = .returned v/\Qr r mem' nx'/\VR ρ' (dn D B nx') (OX X ρ' mem') w' r v)∨(∃x:Value,e = .panicked [pe x]/\Qp x mem' nx'))) [] (settle m'.mode) w':=by
    intro hset hq;rw[hset];split at hq
    ·rename_i r hr;obtain⟨x,h1,h2⟩:=nA hs2 hr;exact⟨x,h1,s'.mem,s'.nx,ρ',J0 hB hB',m2,ext2,.inl ⟨r,x,rfl,hq,h2⟩⟩
    ·exact hq.elim
   cases m' with
   | ret=>exact ret rfl hq
   | recd x=>exact ret rfl hq
   | pan x=>exact⟨s'.mem,s'.nx,ρ',J0 hB hB',m2,ext2,.inr ⟨x,rfl,hq⟩⟩
  | _=>exact(show False from hq).elim
end
structure pN(P:Program)(Γ:List (Nat × AV))(B:Nat)(c:Code)(s:St)(Q:Exit->St->Option AV->Prop):Prop where
 run:∀(X:Nat->Prop) (D:Nat->Prop) (ρ:Nat->bC) (a:Act) (w:World),(∀i,D i->i<B)->SR Γ X ([],0) ρ (dn D B s.nx) s a w->B<=s.nx ->
  c.wp P (fun e a' w'=>∃(s':St) (v:Option AV) (ds:List Deferred) (ρ':Nat->bC),Q e s' v/\B<=s'.nx/\SR Γ X (ds,0) ρ' (dn D B s'.nx) s' a' w'/\Ext D ρ s.mem w ρ' (dn D B s'.nx) s'.mem w' /\
   (match v with
    | none=>ds=[]
    | some v=>∃d,ds=[d]/\DfR ρ' (dn D B s'.nx) (OX X ρ' s'.mem) w' v d)) a w
section
variable {P:Program} {Γ:List (Nat × AV)} {B:Nat} {s:St} {Q:Exit->St->Option AV->Prop}
theorem SR.widen{X:Nat->Prop}{ds:List Deferred × Nat}{ρ:Nat->bC}{D D':Nat->Prop}{a:Act}{w:World}(hs:SR Γ X ds ρ D s a w)(hD:∀i,D i->D' i):SR Γ X ds ρ D' s a w:=by
 obtain⟨m,mono,_⟩:=hs.mr.widen hD;exact⟨m,hs.def0,hs.size,fun i v hi=>mono _ _ (hs.slot i v hi)⟩
theorem pN.of{c:Code}(hc:cU c=false)(h:cJ P Γ B c s fun e s'=>Q e s' none):pN P Γ B c s Q:=by
 refine⟨fun X D ρ a w hD hs hB=>Go.wp_mono (xI.1 (h.run none X ([],0) D ρ a w hD hs hB (.no hc))) ?_⟩;rintro e a' w' ⟨s',ρ',hq,hB',hs',hext⟩;exact⟨s',none,[],ρ',hq,hB',hs',hext,rfl⟩
theorem DfR.vr{X:Nat->Prop}{D D':Nat->Prop}{ρ ρ':Nat->bC}{mem mem':aA}{w w':World}{v:AV}{d:Deferred}(h:Ext D ρ mem w ρ' D' mem' w')(hv:DfR ρ D (OX X ρ mem) w v d):DfR ρ' D' (OX X ρ' mem') w' v d:=by
 obtain⟨F,first,cap,vs,a2,h1,h2,h3,h4⟩:=hv;exact⟨F,first,cap,vs,a2,h1,h2,h3,h4.1,fun j c x hc hx=>h.vr (h4.2 j c x hc hx)⟩
def H5(P:Program)(Γ:List (Nat × AV))(B:Nat)(y:Code)(Q:Exit->St->Option AV->Prop)(e:Exit)(s:St)(v:Option AV):Prop:=
 match e with
 | .normal=>match v with
  | none=>pN P Γ B y s Q
  | some v=>cU y=false/\cJ P Γ s.nx y s fun e s'=>Q e s' (some v)
 | e=>Q e s v
theorem pN.seq{x y:Code}(h:pN P Γ B x s (H5 P Γ B y Q)):pN P Γ B (.seq x y) s Q:=by
 refine⟨fun X D ρ a w hD hs hB=>wp_seq (Go.wp_mono (h.run X D ρ a w hD hs hB) ?_)⟩;rintro e a' w' ⟨s',v,ds,ρ',hq,hB',hs',hext,hv⟩;cases e with
 | normal=>
  cases v with
  | none=>
   have hv:ds=[]:=hv;subst hv;refine Go.wp_mono ((show pN P Γ B y s' Q from hq).run X D ρ' a' w' hD hs' hB') ?_;rintro e a2 w2 ⟨s2,v2,ds2,ρ2,h1,h2,h3,h4,h5⟩;exact⟨s2,v2,ds2,ρ2,h1,h2,h3,hext.trans h4,h5⟩
  | some v=>
   obtain⟨d,rfl,hd⟩:=hv;have key:=(show cU y=false/\cJ P Γ s'.nx y s' (fun e s'=>Q e s' (some v)) from hq)
   refine Go.wp_mono (xI.1 (key.2.run none X ([d],0) (dn D B s'.nx) ρ' a' w' (jY hD hB') (hs'.widen fun i hi=>.inl hi) (JX _) (.no key.1))) ?_;rintro e a2 w2 ⟨s2,ρ2,h1,h2,h3,h4⟩;have hd2:=hd.vr h4;obtain⟨_,mono2,_⟩:=h3.mr.widen (iD hB' h2);obtain⟨F,first,cap,vs,a2,g1,g2,g3,g4⟩:=hd2;exact⟨s2,some v,[d],ρ2,h1,J0 hB' h2,h3.widen (iD hB' h2),hext.trans ((h4.sub fun i hi=>.inl hi).wide (iD hB' h2)),d,rfl,F,first,cap,vs,a2,g1,g2,g3,g4.1,fun j c x hc hx=>mono2 _ _ (g4.2 j c x hc hx)⟩
 | exit i=>exact⟨s',v,ds,ρ',hq,hB',hs',hext,hv⟩
 | goto l=>exact⟨s',v,ds,ρ',hq,hB',hs',hext,hv⟩
 | ret=>exact⟨s',v,ds,ρ',hq,hB',hs',hext,hv⟩
 | panic c=>exact⟨s',v,ds,ρ',hq,hB',hs',hext,hv⟩
 | outgrown=>exact⟨s',v,ds,ρ',hq,hB',hs',hext,hv⟩
def yG(P:Program)(Γ:List (Nat × AV))(ops:List Oper):List Oper->St->(St->AV->Prop)->Prop
 | [],_,_=>False
 | o::r,s,K=>match eY ops s o.guard with
  | some true=>match o.op with
   | .defer c=>match r with
    | []=>match c.args.toList with
     | []=>match c.callee with
      | .value f=>match ev Γ s f with
       | some (.fn (.func F) first cap)=>match bY s o.dst (.tup []) s.mem s.nx with
        | some s'=>K s' (.fn (.func F) first cap)
        | none=>False
       | _=>False
      | _=>False
     | _::_=>False
    | _::_=>False
   | op=>match a7 P Γ s op with
    | some (v,mem,nx)=>match bY s o.dst v mem nx with
     | some s'=>yG P Γ ops r s' K
     | none=>False
    | none=>False
  | _=>False
theorem pU(ops:List Oper):∀(l:List Oper) (s:St) (K:St->AV->Prop),yG P Γ ops l s K ->
  ∀(X:Nat->Prop) (D:Nat->Prop) (ρ:Nat->bC) (a:Act) (w:World) (Q:Exit->Act->World->Prop),(∀i,D i->i<B)->SR Γ X ([],0) ρ (dn D B s.nx) s a w->B<=s.nx ->
   (∀(s':St) (v:AV) (d:Deferred) (ρ':Nat->bC) (a':Act) (w':World),K s' v->B<=s'.nx->SR Γ X ([d],0) ρ' (dn D B s'.nx) s' a' w'->Ext D ρ s.mem w ρ' (dn D B s'.nx) s'.mem w'->DfR ρ' (dn D B s'.nx) (OX X ρ' s'.mem) w' v d->Q .normal a' w')->wpList P ops.toArray Q l a w
 | [],s,K,h,X,D,ρ,a,w,Q,hD,hs,hB,hQ=>h.elim
 | o::r,s,K,h,X,D,ρ,a,w,Q,hD,hs,hB,hQ=>by
  simp only[yG] at h;refine wpList_step fun K' hK'=>?_
  split at h<;>first|exact h.elim|skip
  rename_i hw;rw[cW hs hw];simp only[if_true];split at h
  ·rename_i c hop;split at h<;>first|exact h.elim|skip
   split at h<;>first|exact h.elim|skip
   rename_i hargs;split at h<;>first|exact h.elim|skip
   rename_i f hc;split at h<;>first|exact h.elim|skip
   rename_i F first cap hf
   split at h<;>first|exact h.elim|skip
   rename_i s' hst;have hv:=aB hs hf;generalize he:a.eval f=fv at hv;cases hv with
   | fn _ _ _ a1 a2 l1 l2 r1 r2=>
    have hargs':c.args = #[]:=by apply K7;simpa using hargs
    have e1:(execOp a.eval o).run P w = .ok (.defer { target:=.fn (.func F) a2,args:=a1 }) w:=by
     simp[execOp,hop,resolve,hc,he,Deferred.ofValue,hargs']
    unfold Oper.wp;rw[e1];have hs':SR Γ X ([{ target:=.fn (.func F) a2,args:=a1 }],0) ρ (dn D B s.nx) s { a with defers:={ target:=.fn (.func F) a2,args:=a1 }::a.defers } w:=
     ⟨hs.mr,by rw[hs.def0.eq];exact qS.start (ds:=([_],0)) (Kz _),hs.size,hs.slot⟩
    obtain⟨h1,h2,h3⟩:=cN hst hs' hs'.mr kH (fun h=>h) (fun _ _ h=>h);refine hK' _ _ (wpList_nil (hQ s' _ _ ρ _ w h (by rw[h3];exact hB) (by rw[h3];exact h1) (by rw[h2,h3];exact Ext.refl fun i hi=>.inl hi) ?_));refine⟨F,first,cap,a1.toList++a2.toList,a2,rfl,rfl,rfl, ?_⟩;rw[h2,h3];exact dS.append ⟨by simpa using l1,fun j c x h1 h2=>r1 j c x h1 (by simpa using h2)⟩ ⟨by simpa using l2,fun j c x h1 h2=>r2 j c x h1 (by simpa using h2)⟩
  ·rename_i hnd;split at h<;>first|exact h.elim|skip
   rename_i v mem nx hstep;split at h<;>first|exact h.elim|skip
   rename_i s' hst;have hnx:s.nx<=nx:=by rcases nJ hstep with h'|h'<;>omega
   obtain⟨x,n,w',ρ',e1,e2,m1,v1,mono1,ext1⟩:=fP (P:=P) (D:=dn D B s.nx) (D':=dn D B nx) (fun h'=>Kb _ (jY hD hB _ h')) (lN hnx) hs o (fun e=>.inr ⟨hB,om⟩) hstep;obtain⟨h1,h2,h3⟩:=cN hst hs m1 v1 (ext1 _ fun i hi=>hi).mks mono1;have fin:K' (a.put o.dst x) w':=hK' _ _ (pU ops r s' K h X D ρ' _ w' Q hD (by rw[h3];exact h1) (by rw[h3];exact J0 hB hnx) fun s2 v2 d2 ρ2 a2 w2 k1 k2 k3 k4 k5=>hQ s2 v2 d2 ρ2 a2 w2 k1 k2 k3 ((ext1 D fun i hi=>.inl hi).trans (by rw[←h2];exact k4)) k5);unfold Oper.wp;rw[e1];rcases e2 with rfl|⟨rfl,rfl⟩
   ·exact fin
   ·exact fin
theorem pN.region{id:Nat}{ops:Array Oper}(h:yG P Γ ops.toList ops.toList s fun s' v=>Q .normal s' (some v)):pN P Γ B (.region id ops false) s Q:=by
 refine⟨fun X D ρ a w hD hs hB=>wp_region_list ?_⟩;have:=pU ops.toList ops.toList s _ h X D ρ a w (fun e a' w'=>∃(s':St) (v:Option AV) (ds:List Deferred) (ρ':Nat->bC),Q e s' v/\B<=s'.nx/\SR Γ X (ds,0) ρ' (dn D B s'.nx) s' a' w'/\Ext D ρ s.mem w ρ' (dn D B s'.nx) s'.mem w' /\
   (match v with
    | none=>ds=[]
    | some v=>∃d,ds=[d]/\DfR ρ' (dn D B s'.nx) (OX X ρ' s'.mem) w' v d)) hD hs hB
  (fun s' v d ρ' a' w' h1 h2 h3 h4 h5=>⟨s',some v,[d],ρ',h1,h2,h3,h4,d,rfl,h5⟩)
 simpa using this
def Em(P:Program)(Γ:List (Nat × AV))(H:Hk)(rs:List ResultVar)(Q:AV->aA->Nat->Prop)(Qp:Value->aA->Nat->Prop)(s:St)(v:Option AV):Prop:=
 match v with
 | none=>match qL P rs s with
  | some r=>Q r s.mem s.nx
  | none=>False
 | some v=>v7 P Γ H rs v s .ret Q Qp
def Ik(P:Program)(Γ:List (Nat × AV))(H:Hk)(rs:List ResultVar)(Q:AV->aA->Nat->Prop)(Qp:Value->aA->Nat->Prop)(x:Value)(s:St)(v:Option AV):Prop:=
 match v with
 | none=>Qp x s.mem s.nx
 | some v=>v7 P Γ H rs v s (.pan x) Q Qp
def C0(P:Program)(Γ:List (Nat × AV))(H:Hk)(rs:List ResultVar)(Q:AV->aA->Nat->Prop)(Qp:Value->aA->Nat->Prop):Exit->St->Option AV->Prop:=fun e s v=>
 match e with
 | .normal=>Em P Γ H rs Q Qp s v
 | .ret=>Em P Γ H rs Q Qp s v
 | .panic [⟨x,false,false⟩]=>Ik P Γ H rs Q Qp x s v
 | _=>False
theorem qK{H:Hk}{F:FuncId}{fn:Func}{c:Code}{args:List AV}{mem:aA}{nx:Nat}{Q:AV->aA->Nat->Prop}{Qp:Value->aA->Nat->Prop}(hf:P.funcs[F]? = some fn)(hb:fn.body=some c)
  (h:pN P Γ nx c (enter fn.ntmps args mem nx) (C0 P Γ H fn.results.toList Q Qp)) (hF:Nat.beq F YF=false:=by rfl):cC P Γ F args mem nx Q Qp:=by
 refine⟨fun X D ρ w vs hD hm hv=>.of hF (calls_of_wp_defers hf hb ?_)⟩;refine Go.wp_mono (h.run X D ρ _ w hD (oB hD hm hv (Kz _)) (JX _)) ?_;rintro e a' w' ⟨s',v,ds,ρ',hq,hB',hs',hext,hv⟩;have ret:Em P Γ H fn.results.toList Q Qp s' v->Leaves P fn a'.tmps (fun e w'=>∃(mem':aA) (nx':Nat) (ρ':Nat->bC),nx<=nx'/\MR Γ X ρ' (dn D nx nx') mem' w'/\Ext D ρ mem w ρ' (dn D nx nx') mem' w' /\
   ((∃(r:AV) (v:Value),e = .returned v/\Q r mem' nx'/\VR ρ' (dn D nx nx') (OX X ρ' mem') w' r v)∨(∃x:Value,e = .panicked [pe x]/\Qp x mem' nx'))) a'.defers .returning w':=by
  intro hq;cases v with
  | none=>
   have hv:ds=[]:=hv;subst hv;rw[hs'.def0.eq];simp only[Em] at hq;split at hq
   ·rename_i r hr;obtain⟨x,h1,h2⟩:=nA hs' hr;exact⟨x,h1,s'.mem,s'.nx,ρ',hB',hs'.mr,hext,.inl ⟨r,x,rfl,hq,h2⟩⟩
   ·exact hq.elim
  | some v=>
   obtain⟨d,rfl,hd⟩:=hv;rw[hs'.def0.eq];exact oK (B:=nx) (m:=.ret) hD hs' hB' hd hext (by simp[cV.mode]) hq
 cases e with
 | normal=>exact ret hq
 | ret=>exact ret hq
 | panic ch=>
  unfold C0 at hq;split at hq
  ·rename_i e;cases e
  ·rename_i e;cases e
  ·rename_i x e;cases e
   show Leaves P fn a'.tmps _ a'.defers (.panicking [pe x]) w'
   cases v with
   | none=>
    have hv:ds=[]:=hv;subst hv;rw[hs'.def0.eq];exact⟨s'.mem,s'.nx,ρ',hB',hs'.mr,hext,.inr ⟨x,rfl,hq⟩⟩
   | some v=>
    obtain⟨d,rfl,hd⟩:=hv;rw[hs'.def0.eq];exact oK (B:=nx) (m:=.pan x) hD hs' hB' hd hext (by simp[cV.mode]) hq
  ·exact hq.elim
 | _=>exact(show False from hq).elim
end
end Go.Ax
namespace Go.Ax
open Go
def CG(F:Nat):List Nat->Bool
 | []=>false
 | G::r=>match Nat.beq G F with
  | true=>true
  | false=>CG F r
def Fp:List Oper->Bool
 | []=>false
 | o::r=>match o.op with
  | .defer _=>true
  | _=>Fp r
def AO(cl:Bool)(P:Program)(Γ:List (Nat × AV))(H:Hk):Code->St->(Exit->St->Option AV->Prop)->Prop
 | .seq x y,s,Q=>AO cl P Γ H x s fun e s' v=>match e with
  | .normal=>match v with
   | none=>AO cl P Γ H y s' Q
   | some v=>match cU y with
    | false=>oV cl P Γ H y s' fun e s''=>Q e s'' (some v)
    | true=>False
  | e=>Q e s' v
 | .region id ops draw,s,Q=>match Fp ops.toList with
  | true=>match draw with
   | false=>yG P Γ ops.toList ops.toList s fun s' v=>Q .normal s' (some v)
   | true=>False
  | false=>oV cl P Γ H (.region id ops draw) s fun e s'=>Q e s' none
 | c,s,Q=>match cU c with
  | false=>oV cl P Γ H c s fun e s'=>Q e s' none
  | true=>False
theorem A1{cl:Bool}{P:Program}{Γ:List (Nat × AV)}{H:Hk}(hH:∀B,nB P Γ B H)(B:Nat):∀(c:Code) (s:St) (Q:Exit->St->Option AV->Prop),AO cl P Γ H c s Q->pN P Γ B c s Q:=by
 intro c
 induction c with
 | seq x y ihx ihy=>
  intro s Q h;simp only[AO] at h;refine pN.seq ?_;obtain⟨h'⟩:=ihx s _ h;refine⟨fun X D ρ a w hD hs hB=>Go.wp_mono (h' X D ρ a w hD hs hB) ?_⟩;rintro e a' w' ⟨s',v,ds,ρ',hq,rest⟩;refine⟨s',v,ds,ρ', ?_,rest⟩;cases e with
  | normal=>
   cases v with
   | none=>exact ihy s' Q hq
   | some v=>
    simp only at hq;split at hq
    ·rename_i hr;exact⟨hr,bR (hH s'.nx) y s' _ hq⟩
    ·exact hq.elim
  | exit i=>exact hq
  | goto l=>exact hq
  | ret=>exact hq
  | panic c=>exact hq
  | outgrown=>exact hq
 | region id ops draw=>
  intro s Q h;simp only[AO] at h;split at h
  ·split at h
   ·exact pN.region h
   ·exact h.elim
  ·exact .of rfl (bR (hH B) _ _ _ h)
 | _=>
  intro s Q h;simp only[AO] at h;split at h
  ·rename_i hr;exact .of hr (bR (hH B) _ _ _ h)
  ·exact h.elim
def Ag(P:Program)(Γ:List (Nat × AV))(H:Hk)(args:List AV)(mem:aA)(nx:Nat)(K:AV->aA->Nat->Prop):Prop:=
 match args with
 | .yld id::rest=>fR (lk mem id) fun b=>match b with
  | .loop sl nt ps ca cb st pd=>match cU ca with
   | false=>match cU cb with
    | false=>fR (qF nt ps.toList rest sl) fun sl'=>oV true P Γ H ca ⟨sl',mem,nx,nt⟩ fun e s1=>match e with
     | .normal=>w9 s1 fun sl1 m1 n1 t1=>fR (lk m1 id) fun b1=>match b1 with
      | .loop sl nt ps ca cb' .ready pd=>x9 m1 id (.loop sl nt ps ca cb' .busy pd) fun m2=>oV true P Γ H cb ⟨sl1,m2,n1,t1⟩ fun e s3=>w9 s3 fun _ m3 n3 _=>fR (lk m3 id) fun b3=>match b3 with
       | .loop sl nt ps ca cb _ _=>match e with
        | .normal=>x9 m3 id (.loop sl nt ps ca cb .ready none) fun m=>K (.bool true) m n3
        | .ret=>x9 m3 id (.loop sl nt ps ca cb .done (some .ret)) fun m=>K (.bool false) m n3
        | .exit i=>x9 m3 id (.loop sl nt ps ca cb .done (some (.exit i))) fun m=>K (.bool false) m n3
        | _=>False
       | _=>False
      | _=>False
     | _=>False
    | true=>False
   | true=>False
  | _=>False
 | _=>False
theorem wY{P:Program}{Γ:List (Nat × AV)}{H:Hk}(hH:∀B,nB P Γ B H){args:List AV}{mem:aA}{nx:Nat}{K:AV->aA->Nat->Prop}{Kp:Value->aA->Nat->Prop}(h:Ag P Γ H args mem nx K):cC P Γ YF args mem nx K Kp:=by
 unfold Ag at h;split at h<;>first|exact h.elim|skip
 obtain⟨b,h1,h⟩:=aV.1 h;split at h<;>first|exact h.elim|skip
 split at h<;>first|exact h.elim|skip
 rename_i ha;split at h<;>first|exact h.elim|skip
 rename_i hb;obtain⟨sl',h2,h⟩:=aV.1 h;refine cC.round h1 h2 ha hb ((bR (hH nx) _ _ _ h).mono fun e s1 h=>?_);unfold GZ;split at h<;>first|exact h.elim|skip
 obtain⟨b1,h3,h⟩:=aV.1 (gG.1 h);simp only[h3];split at h<;>first|exact h.elim|skip
 refine(bR (hH nx) _ _ _ (eK.1 h)).mono fun e s3 h=>?_
 unfold GL;obtain⟨b3,h4,h⟩:=aV.1 (gG.1 h);simp only[h4];split at h<;>first|exact h.elim|skip
 split at h
 ·exact eK.1 h
 ·exact eK.1 h
 ·exact eK.1 h
 ·exact h.elim
end Go.Ax
namespace Go.Ax
open Go
section
variable {P:Program} {Γ:List (Nat × AV)} {B:Nat}
structure I7(P:Program)(Γ:List (Nat × AV))(B:Nat)(ops l:List Oper)(s:St)(K:St->Prop)(Kp:Value->St->Prop):Prop where
 run:mI P Γ (CH P Γ B) ops l s K Kp
structure JP(P:Program)(Γ:List (Nat × AV))(B:Nat)(ops:List Oper)(tr:List (List Nat))(base:Nat)(K:St->Prop)(Kp:Value->aA->Nat->Prop)(l:List Nat)(recs:List qZ)(s:St):Prop where
 run:iO P Γ (CH P Γ B) ops tr base K Kp l recs s
end
end Go.Ax
namespace Go.Ax
open Go
theorem aR.frz{P:Program}{Γ:List (Nat × AV)}{F:FuncId}{args as:List AV}{r:AV}{mem:aA}{nx:Nat}{K:AV->aA->Nat->Prop}(h:aR P Γ F as r)(ids:List Nat)(hΓ:∀p∈Γ,NN p.2)(hargs:m7 (iY ids mem) [] args as)(hr:NN r)(hk:K r (gB ids mem) nx) :
  aC P Γ F args mem nx K:=by
 refine⟨fun X D ρ w vs hD hm hv=>?_⟩;refine(aC.use (K:=K) (nx:=nx) hΓ h [] (m1:=iY ids mem) (rest:=gB ids mem) ⟨fun p hp'=>(bZ.1 hp').1,fun p hp'=>(bK.1 hp').1,fun p hp'=>?_,fun p h1 q h2=>?_, ?_⟩ ?_ hargs (fun p hp=>by cases hp) (by simp) (fun i j k h=>by simp[lk] at h) (fun id i hl=>by simp[lk] at hl) ?_).run X D ρ w vs hD hm hv
 ·cases hi:tY p.1 ids with
  | true=>left;exact bZ.2 ⟨hp',hi⟩
  | false=>right;exact bK.2 ⟨hp',hi⟩
 ·have a:=(bZ.1 h1).2;have b:=(bK.1 h2).2;intro e;rw[e,b] at a;cases a
 ·exact hm.nod.sublist ((gK mem).map _)
 ·exact hm.nod.sublist ((gI mem).map _)
 ·rintro r' m n ⟨rfl,rfl,rfl⟩ _;exact⟨[],r',[],nx,JX _,.same r' hr,(fun p hp=>by cases hp),by simp,(fun i j k h=>by simp[lk] at h),(fun i id hl=>by simp[lk] at hl),(fun p hp=>by cases hp),hk⟩
end Go.Ax
