/- A part of the proof. -/
import Derived.Test.YtnbkfjjdlofdpaaGreatDoorAx8
import Derived.Below
import Derived.Lib.ConvBytes
import Derived.Lib.ItoaMem
import Derived.ChangeMaps5
import Derived.Lib.LaidTab
import Derived.Lib.ItoaNum
import Derived.Lib.AtoiAllCases
import Derived.Recover
set_option linter.unusedVariables false
set_option linter.unusedSimpArgs false
set_option linter.unusedSectionVars false
namespace Go.Ax
open Go
theorem nn {v:AV} (h:NN v:=by
  repeat' first
   | assumption
   | exact NN.int _ _
   | exact NN.bool _
   | exact NN.str _
   | exact NN.nsl
   | exact NN.nptr
   | exact NN.nif
   | exact NN.nfn
   | exact NN.nmap
   | exact NN.junk
   | exact u9 _
   | exact kU _
   | exact aU _
   | exact hE.nil
   | refine hE.cons ?_ ?_
   | refine NN.agg' ?_
   | refine NN.tup' ?_
   | refine NN.il' ?_
   | refine NN.ip' ?_
   | refine NN.ifc _ _ ?_
   | exact NN.fn _ _ _ (by simp) (by simp)):NN v:=h
theorem xA {l:List AV} (h:hE l:=by
  repeat' first
   | assumption
   | exact NN.int _ _
   | exact NN.bool _
   | exact NN.str _
   | exact NN.nsl
   | exact NN.nptr
   | exact NN.nif
   | exact NN.nfn
   | exact NN.nmap
   | exact NN.junk
   | exact u9 _
   | exact kU _
   | exact aU _
   | exact hE.nil
   | refine hE.cons ?_ ?_
   | refine NN.agg' ?_
   | refine NN.tup' ?_
   | refine NN.il' ?_
   | refine NN.ip' ?_
   | refine NN.ifc _ _ ?_
   | exact NN.fn _ _ _ (by simp) (by simp)):hE l:=h
section
variable {P:Program} {Γ:List (Nat × AV)} {F:FuncId} {args:List AV} {r:AV} {mem:aA} {nx:Nat} {K:AV->aA->Nat->Prop}
theorem aS.go(h:aS P [] F args r)(hk:K r mem nx)(ha:hE args:=by exact xA)(hr:NN r:=by exact nn):aC P [] F args mem nx K:=h.use fS ha hr hk
theorem aC.go0{Qs:AV->aA->Nat->Prop}(h:aC P [] F args [] 0 Qs)(hk:∀r m n,Qs r m n->∃r',Cv m [] r r'/\K r' mem nx)(ha:hE args:=by exact xA):aC P [] F args mem nx K:=
 aC.call0 fS h ha hk
end
theorem aC.glob{P:Program}{Γ:List (Nat × AV)}{F:FuncId}{args:List AV}{mem:aA}{nx:Nat}{Q:AV->aA->Nat->Prop}(h:aC P [] F args mem nx Q):aC P Γ F args mem nx Q:=by
 refine⟨fun X D ρ w vs hD hm hv=>?_⟩;refine(h.run X D ρ w vs hD ⟨hm.low,hm.blk,hm.emp,hm.inj,hm.nod,hm.bar,(fun p hp=>by cases hp)⟩ hv).mono ?_;rintro e w' ⟨r,v,m,n,ρ',h1,h2,h3,h4,h5,h6⟩;exact⟨r,v,m,n,ρ',h1,h2,h3,⟨h4.low,h4.blk,h4.emp,h4.inj,h4.nod,h4.bar,fun p hp=>h6.vr (hm.glo p hp)⟩,h5,h6⟩
def Bn:List (Nat × Nat)->Bool
 | []=>true
 | (i,j)::r=>Nat.beq i j && Bn r
theorem pV:∀{σ:List (Nat × Nat)},Bn σ=true->∀p∈σ,p.1=p.2
 | [],h,p,hp=>by cases hp
 | (i,j)::r,h,p,hp=>by
  simp only[Bn,JE] at h;rcases JA.1 hp with rfl|hp
  ·exact Nat.eq_of_beq_eq_true h.1
  ·exact pV h.2 p hp
theorem aC.pre{P:Program}{Γ:List (Nat × AV)}{F:FuncId}{args args':List AV}{mem mem':aA}{nx:Nat}{K:AV->aA->Nat->Prop}(hΓ:∀p∈Γ,NN p.2)(σ:List (Nat × Nat))(hid:(Bn σ && oU mem')=true)
  (hM:dC mem σ mem') (hargs:mV mem σ args args') (h:aC P Γ F args' mem' nx K):aC P Γ F args mem nx K:=by
 simp only[JE] at hid;have hid1:=pV hid.1;have hnod:=cA hid.2;refine⟨fun X D ρ w vs hD hm hv=>?_⟩;have hσ:∀id id',lk σ id=some id'->D id->D id'/\ρ id'=ρ id:=by
  intro id id' h hd;have:=hid1 _ (aF h);simp only at this;subst this;exact⟨hd,rfl⟩
 have hinj:Cn σ:=fun i j k h1 h2=>by
  have a:=hid1 _ (aF h1);have b:=hid1 _ (aF h2);simp only at a b;omega
 obtain⟨m1,v1,o1⟩:=hm.turn (D':=D) (ρ':=ρ) hΓ hσ hM.cvm hnod hinj;have hvs:dO ρ D (OX X ρ mem') w args' vs:=⟨by rw[←hargs.1];exact hv.1,fun j c' x hc' hx=>by
   obtain⟨c,hc⟩:=bC hargs.1 hc';exact v1 c c' (hargs.2 j c c' hc hc') _ (hv.2 j c x hc hx)⟩
 refine(h.run X D ρ w vs hD m1 hvs).mono ?_;rintro e w' ⟨r,v,m,n,ρ',h1,h2,h3,h4,h5,h6⟩;refine⟨r,v,m,n,ρ',h1,h2,h3,h4,h5, ?_⟩;have e0:Ext D ρ mem w ρ D mem' w:=⟨fun i hi=>hi,fun _ _=>rfl,JG _,fun _ _ _=>rfl,fun p hp hn=>.inl (o1 p hp hn),.refl _⟩
 exact e0.trans h6
section
variable {mem:aA} {σ:List (Nat × Nat)}
theorem Cv.int{k:IntKind}{a b:Int}(h:a=b):Cv mem σ (.int k a) (.int k b):=by rw[h];exact .same _ (.int _ _)
theorem Cv.w64{x y:Int}(h:x=y)(hb:i64 y):Cv mem σ (.int .i64 (IntKind.i64.wrap x)) (.int .i64 y):=by rw[h,dI hb];exact .same _ (.int _ _)
theorem Cv.wo{x y:Int}(h:x=y:=by omega)(h1 : -9223372036854775808<=y:=by omega)(h2:y<=9223372036854775807:=by omega):Cv mem σ (.int .i64 (IntKind.i64.wrap x)) (.int .i64 y):=.w64 h ⟨h1,h2⟩
theorem Cv.wp{x y:Int}(h:x=y:=by simp only;omega)(h1 : -9223372036854775808<=y:=by simp only;omega)(h2:y<=9223372036854775807:=by simp only;omega):Cv mem σ (.int .i64 (IntKind.i64.wrap x)) (.int .i64 y):=.w64 h ⟨h1,h2⟩
theorem aK{sl:List (Nat × AV)}{i:Nat}{v:AV}(h:lk sl i=some v:=by rfl)(hn:NN v:=by exact nn):∃w,lk sl i=some w/\Cv mem σ w v:=⟨v,h,.same v hn⟩
theorem mV.s{v:AV}{as bs:List AV}(hs:mV mem σ as bs)(hn:NN v:=by exact nn):mV mem σ (v::as) (v::bs):=.cons (.same v hn) hs
theorem aH{α:Type}{a:α}{q:Prop}(h:q):a=a/\q:=⟨rfl,h⟩
theorem lM{sl:List (Nat × AV)}{i id id' x y:Nat}(h:lk sl i=some (.ptr id x y):=by rfl)(h2:lk σ id=some id':=by rfl):∃w,lk sl i=some w/\Cv mem σ w (.ptr id' x y):=⟨_,h,.ptr id id' x y h2⟩
theorem aT{sl:List (Nat × AV)}{i:Nat}{v:AV}(hn:NN v)(h:lk sl i=some v:=by rfl):∃w,lk sl i=some w/\Cv mem σ w v:=⟨v,h,.same v hn⟩
theorem eN{t:TypeId}{sz p:Nat}{ys:List AV}(id:Nat)(hn:hE ys)(h1:lk σ id=some p:=by rfl)(h2:lk mem id=some (.row t sz ys):=by rfl):∃id xs,lk σ id=some p/\lk mem id=some (.row t sz xs)/\tG mem σ xs ys:=⟨id,ys,h1,h2,.same hn⟩
theorem Rs{p q:Prop}(x:q)(e:q->p:=by(intro x;(repeat((first|refine eF.2 ?_|refine aH ?_);((conv=>whnf);(repeat(refine Xg ?_;conv=>whnf)))));exact x)):p:=e x
theorem Rt{p q:Prop}(x:q)(e:q->p:=by(intro x;(conv=>whnf);(repeat(refine Xg ?_;conv=>whnf));(repeat((first|refine eF.2 ?_|refine aH ?_);((conv=>whnf);(repeat(refine Xg ?_;conv=>whnf)))));exact x)):p:=e x
theorem Cv.bool{a b:Bool}(h:a=b):Cv mem σ (.bool a) (.bool b):=by rw[h];exact .same _ (.bool _)
end
theorem w64{x y:Int}(h:x=y)(hb:i64 y):IntKind.i64.wrap x=y:=by rw[h,dI hb]
theorem Cv.fzR{mem:aA}{σ:List (Nat × Nat)}{id len:Nat}{t:TypeId}{sz:Nat}{xs ys:List AV}(h1:lk mem id=some (.row t sz xs))(h2:lk σ id=none)(h3:tG mem σ xs ys)(h4:ys.length=len):Cv mem σ (.sl id 0 len) (.il sz ys):=
 .fz id 0 len t sz xs ys h1 h2 (by have:=h3.1;omega) h4 (fun i x y hx hy=>(h3.2 i x y (by simpa using hx) hy).1) (fun i x y j c c' hx hy hc hc'=>(h3.2 i x y (by simpa using hx) hy).2 j c c' hc hc')
section
variable {P:Program} {Γ:List (Nat × AV)} {F:FuncId} {args:List AV} {r:AV} {mem:aA} {nx:Nat} {K:AV->aA->Nat->Prop}
theorem aS.goG(h:aS P [] F args r)(hk:K r mem nx)(ha:hE args:=by exact xA)(hr:NN r:=by exact nn):aC P Γ F args mem nx K:=(h.use fS ha hr hk).glob
end
end Go.Ax
namespace Go.Ax
open Go
section
variable {P:Program} {Γ:List (Nat × AV)} {B:Nat}
structure bJ(P:Program)(Γ:List (Nat × AV))(B:Nat)(c:Code)(s:St)(Q:Exit->St->Prop):Prop where
 run:cJ P Γ B (.loop c) s Q
def GU(P:Program)(Γ:List (Nat × AV))(B:Nat)(y:Code)(Q:Exit->St->Prop)(e:Exit)(s:St):Prop:=
 match e with
 | .normal=>cJ P Γ B y s Q
 | e=>Q e s
def ET(id:Nat)(Q:Exit->St->Prop)(e:Exit)(s:St):Prop:=
 match e with
 | .exit i=>match Nat.beq i id with
  | true=>Q .normal s
  | false=>Q (.exit i) s
 | e=>Q e s
theorem qH{ops:List Oper}{K:St->Prop}{Kp:Value->St->Prop}:∀{l:List Oper} {s:St},mM P Γ (BK P Γ B) ops l s K (fun _ _=>False)->mM P Γ (BK P Γ B) ops l s K Kp
 | [],s,h=>h
 | o::r,s,h=>by
  simp only[mM] at h ⊢;split
  ·rename_i h1;simp only[h1] at h
  ·rename_i h1;simp only[h1] at h;split
   ·rename_i h2;simp only[h2] at h;exact qH h
   ·rename_i h2;simp only[h2] at h
  ·rename_i h1;simp only[h1] at h;split
   ·rename_i h2;simp only[h2] at h;split
    ·rename_i h3;simp only[h3] at h;exact qH h
    ·rename_i h3;simp only[h3] at h
   ·rename_i h2;simp only[h2] at h;split
    ·rename_i h3;simp only[h3] at h;refine aC.mono h fun v m n h=>?_
     split
     ·rename_i h4;simp only[h4] at h;exact qH h
     ·rename_i h4;simp only[h4] at h
    ·rename_i h3;simp only[h3] at h;split at h<;>exact h.elim
theorem k7{ops:List Oper}{tr:List (List Nat)}{base:Nat}{K:St->Prop}{Kp:Value->aA->Nat->Prop}:∀{l:List Nat} {recs:List qK} {s:St},hY P Γ (BK P Γ B) ops tr base K (fun _ _ _=>False) l recs s->hY P Γ (BK P Γ B) ops tr base K Kp l recs s
 | [],recs,s,h=>h
 | i::r,recs,s,h=>by
  simp only[hY] at h ⊢;split
  ·rename_i h1;simp only[h1] at h
  ·rename_i o h1;simp only[h1] at h;split
   ·rename_i h2;simp only[h2] at h
   ·rename_i h2;simp only[h2] at h;split
    ·rename_i h3;simp only[h3] at h;exact k7 h
    ·rename_i h3;simp only[h3] at h
   ·rename_i h2;simp only[h2] at h;split
    ·rename_i hk;simp only[hk] at h;split
     ·rename_i h3;simp only[h3] at h;split
      ·rename_i h4;simp only[h4] at h;exact k7 h
      ·rename_i h4;simp only[h4] at h
     ·rename_i h3;simp only[h3] at h
    ·rename_i hk;simp only[hk] at h;split
     ·rename_i h3;simp only[h3] at h;split
      ·rename_i h4;simp only[h4] at h;exact k7 h
      ·rename_i h4;simp only[h4] at h
     ·rename_i h3;split at h
      ·rename_i h4;exact(h3 _ _ _ _ h4).elim
      ·exact h
    ·rename_i hk;simp only[hk] at h;split
     ·rename_i h3;simp only[h3] at h;split
      ·rename_i h4;simp only[h4] at h;exact⟨h.1,k7 h.2⟩
      ·rename_i h4;simp only[h4] at h
     ·rename_i h3;simp only[h3] at h;split
      ·rename_i h4;simp only[h4] at h;refine aC.mono h fun v m n h=>?_
       split
       ·rename_i h5;simp only[h5] at h;exact⟨h.1,k7 h.2⟩
       ·rename_i h5;simp only[h5] at h
      ·rename_i h4;simp only[h4] at h
structure e8(P:Program)(Γ:List (Nat × AV))(B:Nat)(ops l:List Oper)(s:St)(K:St->Prop):Prop where
 run:mM P Γ (BK P Γ B) ops l s K fun _ _=>False
def I7(P:Program)(Γ:List (Nat × AV))(B:Nat)(ops l:List Oper)(s:St)(K:St->Prop):Prop:=
 match l with
 | []=>K s
 | o::r=>vW s fun sl mem nx nt=>jG ops sl o.guard
   (vQ false P Γ (BK P Γ B) sl mem nx o.op (fun v mem nx=>gQ s o.dst v mem nx fun s'=>e8 P Γ B ops r s' K) fun _ _ _=>False)
   (gQ s o.dst (.tup []) mem nx fun s'=>e8 P Γ B ops r s' K)
theorem e8.go{ops l:List Oper}{s:St}{K:St->Prop}(h:I7 P Γ B ops l s K):e8 P Γ B ops l s K:=by
 refine⟨?_⟩;cases l with
 | nil=>exact h
 | cons o r=>
  have h:jG ops s.sl o.guard (vQ false P Γ (BK P Γ B) s.sl s.mem s.nx o.op (fun v mem nx=>gQ s o.dst v mem nx fun s'=>e8 P Γ B ops r s' K) fun _ _ _=>False) (gQ s o.dst (.tup []) s.mem s.nx fun s'=>e8 P Γ B ops r s' K):=h;simp only[mM];rcases m6 h with⟨h1,h⟩|⟨h1,h⟩
  ·simp only[h1];rcases rF h with⟨v,m,n,h2,h⟩|⟨h2,F,l,h3,h⟩
   ·obtain⟨s',h4,h⟩:=cL h;simp only[h2,h4];exact h.run
   ·simp only[h2,h3];refine(show aC P Γ F l s.mem s.nx _ from h).mono fun v m n h=>?_
    obtain⟨s',h4,h⟩:=cL h;simp only[h4];exact h.run
  ·obtain⟨s',h4,h⟩:=cL h;simp only[h1,h4];exact h.run
structure CZ(P:Program)(Γ:List (Nat × AV))(B:Nat)(ops:List Oper)(tr:List (List Nat))(base:Nat)(K:St->Prop)(l:List Nat)(recs:List qK)(s:St):Prop where
 run:hY P Γ (BK P Γ B) ops tr base K (fun _ _ _=>False) l recs s
def IK(P:Program)(Γ:List (Nat × AV))(B:Nat)(ops:List Oper)(tr:List (List Nat))(base:Nat)(K:St->Prop)(l:List Nat)(recs:List qK)(s:St):Prop:=
 match l with
 | []=>K s
 | i::r=>match ops[i]? with
  | none=>False
  | some o=>vW s fun sl mem nx nt=>jG ops sl o.guard
   (match kind P o.op with
    | .pure=>match still o.op with
     | true=>kN false P Γ sl [] nx o.op fun v _ _=>gQ s o.dst v mem nx fun s'=>CZ P Γ B ops tr base K r (⟨i,sl,true,v⟩::recs) s'
     | false=>dB (fun p=>BZ tr base ops.length i p.1) mem fun m=>kN false P Γ sl m nx o.op fun v _ _=>gQ s o.dst v mem nx fun s'=>CZ P Γ B ops tr base K r (⟨i,sl,true,v⟩::recs) s'
    | .al=>gP (base+i) fun id=>kN false P Γ sl [] id o.op fun v m _=>match m with
     | [(_,b)]=>gQ s o.dst v ((id,b)::mem) nx fun s'=>CZ P Γ B ops tr base K r (⟨i,sl,true,v⟩::recs) s'
     | _=>False
    | .eff=>dB (fun p=>BZ tr base ops.length i p.1) mem fun m=>vQ false P Γ (BK P Γ B) sl m nx o.op (fun v m nx'=>dB (fun p=>!BZ tr base ops.length i p.1) mem fun rest=>dB (fun p=>!kF p.1 m) rest fun rest=>pY m rest fun m=>
      gQ s o.dst v m nx' fun s'=>lD false P Γ ops tr base i m nx' recs (CZ P Γ B ops tr base K r recs s')) fun _ _ _=>False)
   (gQ s o.dst (.tup []) mem nx fun s'=>CZ P Γ B ops tr base K r (⟨i,sl,false,.tup []⟩::recs) s')
theorem CZ.go{ops:List Oper}{tr:List (List Nat)}{base:Nat}{K:St->Prop}{l:List Nat}{recs:List qK}{s:St}(h:IK P Γ B ops tr base K l recs s):CZ P Γ B ops tr base K l recs s:=by
 refine⟨?_⟩;cases l with
 | nil=>exact h
 | cons i r=>
  simp only[IK] at h;simp only[hY];split at h
  ·exact h.elim
  ·rename_i o ho;simp only[ho];have h:=fY.1 h;rcases m6 h with⟨h1,h⟩|⟨h1,h⟩
   ·simp only[h1];split at h
    ·rename_i hkd;simp only[hkd];split at h
     ·rename_i hst;obtain⟨v,m,n,h2,h⟩:=fZ (s:={ sl:=s.sl,mem:=[],nx:=s.nx,nt:=s.nt }) h;obtain⟨m',n',h2'⟩:=j0 (s:={ sl:=s.sl,mem:=[],nx:=s.nx,nt:=s.nt }) (s':={ s with mem:=bK tr base ops.length i s.mem }) hst rfl h2;obtain⟨s',h3,h⟩:=cL h;simp only[h2',h3];exact h.run
     ·have h:=bA.1 h;obtain⟨v,m,n,h2,h⟩:=fZ (s:={ s with mem:=bK tr base ops.length i s.mem }) h;obtain⟨s',h3,h⟩:=cL h;simp only[h2,h3];exact h.run
    ·rename_i hkd;simp only[hkd];have h:=bF.1 h;obtain⟨v,m,n,h2,h⟩:=fZ (s:={ s with mem:=[],nx:=base+i }) h;simp only[h2];split at h
     ·obtain⟨s',h3,h⟩:=cL h;simp only[h3];exact h.run
     ·exact h.elim
    ·rename_i hkd;simp only[hkd];have h:=bA.1 h;rcases rF (s:={ s with mem:=bK tr base ops.length i s.mem }) h with⟨v,m,n,h2,h⟩|⟨h2,F,l,h3,h⟩
     ·simp only[h2];have h:=cO.1 (bA.1 (bA.1 h));obtain⟨s',h3,h⟩:=cL h;have h3:bU s o.dst v (m++kJ m (cP tr base ops.length i s.mem)) n=some s':=h3;simp only[h3];obtain⟨e1,e2,_⟩:=cW h3;have h:lD false P Γ ops tr base i (m++kJ m (cP tr base ops.length i s.mem)) n recs (CZ P Γ B ops tr base K r recs s'):=h;rw[←e1,←e2] at h;obtain⟨h4,h⟩:=iC h;exact⟨h4,h.run⟩
     ·rw[kE (s':=s) (fun x _=>by cases x<;>rfl)] at h3;simp only[h2,h3];refine(show aC P Γ F l _ _ _ from h).mono fun v m n h=>?_
      have h:=cO.1 (bA.1 (bA.1 h));obtain⟨s',h3,h⟩:=cL h;have h3:bU s o.dst v (m++kJ m (cP tr base ops.length i s.mem)) n=some s':=h3;simp only[h3];obtain⟨e1,e2,_⟩:=cW h3;have h:lD false P Γ ops tr base i (m++kJ m (cP tr base ops.length i s.mem)) n recs (CZ P Γ B ops tr base K r recs s'):=h;rw[←e1,←e2] at h;obtain⟨h4,h⟩:=iC h;exact⟨h4,h.run⟩
   ·obtain⟨s',h3,h⟩:=cL h;simp only[h1,h3];exact h.run
def GZ(P:Program)(Γ:List (Nat × AV))(B:Nat)(ops:List Oper)(s:St)(Q:Exit->St->Prop):Prop:=
 match P.follows .mixedOrders with
 | true=>match rZ P ops (nT P ops ops.length [] (oH ops.length)) with
  | true=>vW s fun sl mem nx nt=>gP (nx+ops.length) fun n=>lZ (nT P ops ops.length [] (oH ops.length)) fun ord=>CZ P Γ B ops (Bs ops []) nx (fun s'=>Q .normal s') ord [] ⟨sl,mem,n,nt⟩
  | false=>False
 | false=>False
def HK(Q:Exit->St->Prop)(e:Exit)(s:St):Prop:=
 match e with
 | .goto _=>False
 | e=>Q e s
def ID(P:Program)(Γ:List (Nat × AV))(B:Nat)(c:Code)(s:St)(Q:Exit->St->Prop):Prop:=
 match c with
 | .skip=>Q .normal s
 | .seq x y=>cJ P Γ B x s (GU P Γ B y Q)
 | .cond c x y=>vW s fun sl _ _ _=>dP Γ sl c fun v=>match v with
  | .bool b=>D2 b (cJ P Γ B x s Q) (cJ P Γ B y s Q)
  | _=>False
 | .block id c=>cJ P Γ B c s (ET id Q)
 | .loop c=>bJ P Γ B c s Q
 | .label _=>Q .normal s
 | .scope c=>cJ P Γ B c s (HK Q)
 | .exit i=>Q (.exit i) s
 | .ret=>Q .ret s
 | .region _ ops draw=>match draw with
  | false=>e8 P Γ B ops.toList ops.toList s fun s'=>Q .normal s'
  | true=>GZ P Γ B ops.toList s Q
 | .rangeFunc g ps ca cb=>oF false P Γ (BK P Γ B) (.rangeFunc g ps ca cb) s Q
 | _=>False
theorem cJ.go{c:Code}{s:St}{Q:Exit->St->Prop}(h:ID P Γ B c s Q):cJ P Γ B c s Q:=by
 cases c with
 | skip=>exact bP (cl:=false) kP .skip s Q h
 | exit i=>exact bP (cl:=false) kP (.exit i) s Q h
 | ret=>exact bP (cl:=false) kP .ret s Q h
 | loop c=>exact(show bJ P Γ B c s Q from h).run
 | label l=>exact bP (cl:=false) kP (.label l) s Q h
 | rangeFunc g ps ca cb=>exact bP (cl:=false) kP (.rangeFunc g ps ca cb) s Q h
 | scope c=>
  have h:cJ P Γ B c s (HK Q):=h;refine⟨fun rd X ds D ρ a w hD hs hB hr=>rW (wpIn_mono (h.run rd X ds D ρ a w hD hs hB hr.scope) ?_)⟩;rintro e a' w' ⟨s',ρ',hq,hB',hs',hext⟩;cases e with
  | goto l=>exact(show False from hq).elim
  | normal=>exact⟨s',ρ',hq,hB',hs',hext⟩
  | exit i=>exact⟨s',ρ',hq,hB',hs',hext⟩
  | ret=>exact⟨s',ρ',hq,hB',hs',hext⟩
  | panic c=>exact⟨s',ρ',hq,hB',hs',hext⟩
  | outgrown=>exact⟨s',ρ',hq,hB',hs',hext⟩
 | seq x y=>
  have h:cJ P Γ B x s (GU P Γ B y Q):=h;refine⟨fun rd X ds D ρ a w hD hs hB hr=>wpIn_seq (wpIn_mono (h.run rd X ds D ρ a w hD hs hB hr.seq1) ?_)⟩;rintro e a' w' ⟨s',ρ',hq,hB',hs',hext⟩;cases e with
  | normal=>
   refine wpIn_mono ((show cJ P Γ B y s' Q from hq).run rd X ds D ρ' a' w' hD hs' hB' hr.seq2) ?_;rintro e a2 w2 ⟨s2,ρ2,h1,h2,h3,h4⟩;exact⟨s2,ρ2,h1,h2,h3,hext.trans h4⟩
  | exit i=>exact⟨s',ρ',hq,hB',hs',hext⟩
  | goto l=>exact⟨s',ρ',hq,hB',hs',hext⟩
  | ret=>exact⟨s',ρ',hq,hB',hs',hext⟩
  | panic c=>exact⟨s',ρ',hq,hB',hs',hext⟩
  | outgrown=>exact⟨s',ρ',hq,hB',hs',hext⟩
 | cond c x y=>
  have h:dP Γ s.sl c fun v=>match v with
   | .bool b=>D2 b (cJ P Γ B x s Q) (cJ P Γ B y s Q)
   | _=>False:=h
  obtain⟨v,h1,h⟩:=aP h;split at h
  ·rename_i b;refine⟨fun rd X ds D ρ a w hD hs hB hr=>?_⟩;have hv:=aB hs h1;generalize he:a.eval c=cv at hv;cases hv;cases b with
   | true=>exact wpIn_cond_true he ((show cJ P Γ B x s Q from h).run rd X ds D ρ a w hD hs hB hr.cond1)
   | false=>exact wpIn_cond_false he ((show cJ P Γ B y s Q from h).run rd X ds D ρ a w hD hs hB hr.cond2)
  ·exact h.elim
 | block id c=>
  have h:cJ P Γ B c s (ET id Q):=h;refine⟨fun rd X ds D ρ a w hD hs hB hr=>wpIn_block (wpIn_mono (h.run rd X ds D ρ a w hD hs hB hr.block) ?_)⟩;rintro e a' w' ⟨s',ρ',hq,hB',hs',hext⟩;cases e with
  | exit i=>
   simp only[Exit.inBlock];simp only[ET] at hq;split at hq
   ·rename_i hi;rw[JL (Nat.eq_of_beq_eq_true hi)];exact⟨s',ρ',hq,hB',hs',hext⟩
   ·rename_i hi;rw[JJ (Jk hi)];exact⟨s',ρ',hq,hB',hs',hext⟩
  | normal=>exact⟨s',ρ',hq,hB',hs',hext⟩
  | goto l=>exact⟨s',ρ',hq,hB',hs',hext⟩
  | ret=>exact⟨s',ρ',hq,hB',hs',hext⟩
  | panic c=>exact⟨s',ρ',hq,hB',hs',hext⟩
  | outgrown=>exact⟨s',ρ',hq,hB',hs',hext⟩
 | region id ops draw=>
  cases draw with
  | false=>exact oY kP (.region id ops false) s Q (qH (show e8 P Γ B ops.toList ops.toList s _ from h).run)
  | true=>
   refine oY kP (.region id ops true) s Q ?_;have h:GZ P Γ B ops.toList s Q:=h;unfold GZ at h;simp only[tE];split at h
   ·rename_i hmix;simp only[hmix];split at h
    ·rename_i hok;simp only[zH,hok];exact k7 (fA.1 (bF.1 (fY.1 h))).run
    ·exact h.elim
   ·exact h.elim
 | _=>exact(show False from h).elim
theorem aR{F:FuncId}{fn:Func}{c:Code}{args:List AV}{mem:aA}{nx:Nat}{Q:AV->aA->Nat->Prop}(hΓ:∀p∈Γ,NN p.2)(hf:P.funcs[F]? = some fn)(hb:fn.body=some c)
  (h:l7 fn.ntmps args mem nx fun s=>cJ P Γ nx c s (Fz P fn.results.toList (z7 nx Q))) (hF:Nat.beq F YF=false:=by rfl):aC P Γ F args mem nx Q:=
 (lY hf hb ((e7 h).mono fun _ _ h=>Ci h) hF).turn hΓ
def G7{α:Type}(B:Nat)(R:α->Prop)(I:α->St)(μ:α->Nat)(x:α)(Q:Exit->St->Prop)(e:Exit)(s:St):Prop:=
 match e with
 | .normal=>Da B R I μ x s
 | e=>Q e s
theorem bJ.at{c:Code}{s:St}{Q:Exit->St->Prop}{α:Type}(hΓ:∀p∈Γ,NN p.2)(R:α->Prop)(I:α->St)(μ:α->Nat)(x:α)(σ:List (Nat × Nat))(hx:R x)(h0:Conv B σ s (I x))
  (h:∀x,R x->cJ P Γ B c (I x) (G7 B R I μ x Q)):bJ P Γ B c s Q:=by
 refine⟨cJ.conv hΓ h0 ?_⟩;refine cJ.loop (α:={ x:α // R x }) hΓ (fun x=>I x.1) (fun x=>μ x.1) (fun x=>?_) ⟨x,hx⟩;refine(h x.1 x.2).mono fun e s h=>?_
 cases e with
 | normal=>
  obtain⟨y,σ,hy,hc,hlt⟩:=(show Da B R I μ x.1 s from h)
  exact⟨⟨y,hy⟩,σ,hc,hlt⟩
 | exit i=>exact h
 | goto l=>exact h
 | ret=>exact h
 | panic c=>exact h
 | outgrown=>exact h
theorem bJ.ph{c:Code}{s:St}{Q:Exit->St->Prop}(t:TypeId)(sz:Nat)(h:bJ P Γ B c ⟨s.sl,(s.nx,.row t sz [])::s.mem,s.nx+1,s.nt⟩ Q):bJ P Γ B c s Q:=⟨cJ.ph t sz h.run⟩
def DH(P:Program)(Γ:List (Nat × AV))(B:Nat)(ops:List Oper)(K:St->Prop)(next:List Oper->St->Prop)(l:List Oper)(s:St):Prop:=
 match l with
 | []=>K s
 | o::r=>vW s fun sl mem nx nt=>jG ops sl o.guard
   (vQ false P Γ (BK P Γ B) sl mem nx o.op (fun v mem nx=>gQ s o.dst v mem nx fun s'=>next r s') fun _ _ _=>False)
   (gQ s o.dst (.tup []) mem nx fun s'=>next r s')
theorem hZ{ops:List Oper}{K:St->Prop}{next:List Oper->St->Prop}(hn:∀r s,next r s->e8 P Γ B ops r s K){l:List Oper}{s:St}(h:DH P Γ B ops K next l s):e8 P Γ B ops l s K:=by
 refine⟨?_⟩;cases l with
 | nil=>exact h
 | cons o r=>
  have h:jG ops s.sl o.guard (vQ false P Γ (BK P Γ B) s.sl s.mem s.nx o.op (fun v mem nx=>gQ s o.dst v mem nx fun s'=>next r s') fun _ _ _=>False) (gQ s o.dst (.tup []) s.mem s.nx fun s'=>next r s'):=h;simp only[mM];rcases m6 h with⟨h1,h⟩|⟨h1,h⟩
  ·simp only[h1];rcases rF h with⟨v,m,n,h2,h⟩|⟨h2,F,l,h3,h⟩
   ·obtain⟨s',h4,h⟩:=cL h;simp only[h2,h4];exact(hn _ _ h).run
   ·simp only[h2,h3];refine(show aC P Γ F l s.mem s.nx _ from h).mono fun v m n h=>?_
    obtain⟨s',h4,h⟩:=cL h;simp only[h4];exact(hn _ _ h).run
  ·obtain⟨s',h4,h⟩:=cL h;simp only[h1,h4];exact(hn _ _ h).run
def EJ(P:Program)(Γ:List (Nat × AV))(B:Nat)(next:Code->St->(Exit->St->Prop)->Prop)(c:Code)(s:St)(Q:Exit->St->Prop):Prop:=
 match c with
 | .seq x y=>next x s (GU P Γ B y Q)
 | .block id c=>next c s (ET id Q)
 | c=>ID P Γ B c s Q
theorem kG{next:Code->St->(Exit->St->Prop)->Prop}(hn:∀c s Q,next c s Q->cJ P Γ B c s Q){c:Code}{s:St}{Q:Exit->St->Prop}(h:EJ P Γ B next c s Q):cJ P Γ B c s Q:=by
 cases c with
 | seq x y=>exact cJ.go (show ID P Γ B (.seq x y) s Q from hn _ _ _ h)
 | block id c=>exact cJ.go (show ID P Γ B (.block id c) s Q from hn _ _ _ h)
 | _=>exact cJ.go h
def Gt(P:Program)(Γ:List (Nat × AV))(B:Nat)(ops:List Oper)(K:St->Prop)(l:List Oper)(s:St):Prop:=e8 P Γ B ops l s K
theorem Ee{ops:List Oper}{K:St->Prop}(l:List Oper)(s:St)(h:Gt P Γ B ops K l s):e8 P Γ B ops l s K:=h
def HP(P:Program)(Γ:List (Nat × AV))(B:Nat)(ops:List Oper)(K:St->Prop)(l:List Oper)(s:St):Prop:=DH P Γ B ops K (Gt P Γ B ops K) l s
theorem FL{ops:List Oper}{K:St->Prop}(l:List Oper)(s:St)(h:HP P Γ B ops K l s):e8 P Γ B ops l s K:=hZ Ee h
def HX(P:Program)(Γ:List (Nat × AV))(B:Nat)(ops:List Oper)(K:St->Prop)(l:List Oper)(s:St):Prop:=DH P Γ B ops K (HP P Γ B ops K) l s
theorem EK{ops:List Oper}{K:St->Prop}(l:List Oper)(s:St)(h:HX P Γ B ops K l s):e8 P Γ B ops l s K:=hZ FL h
def Hj(P:Program)(Γ:List (Nat × AV))(B:Nat)(ops:List Oper)(K:St->Prop)(l:List Oper)(s:St):Prop:=DH P Γ B ops K (HX P Γ B ops K) l s
theorem EL{ops:List Oper}{K:St->Prop}(l:List Oper)(s:St)(h:Hj P Γ B ops K l s):e8 P Γ B ops l s K:=hZ EK h
def Hb(P:Program)(Γ:List (Nat × AV))(B:Nat)(ops:List Oper)(K:St->Prop)(l:List Oper)(s:St):Prop:=DH P Γ B ops K (Hj P Γ B ops K) l s
theorem Et{ops:List Oper}{K:St->Prop}(l:List Oper)(s:St)(h:Hb P Γ B ops K l s):e8 P Γ B ops l s K:=hZ EL h
def HV(P:Program)(Γ:List (Nat × AV))(B:Nat)(ops:List Oper)(K:St->Prop)(l:List Oper)(s:St):Prop:=DH P Γ B ops K (Hb P Γ B ops K) l s
theorem E5{ops:List Oper}{K:St->Prop}(l:List Oper)(s:St)(h:HV P Γ B ops K l s):e8 P Γ B ops l s K:=hZ Et h
def Gp(P:Program)(Γ:List (Nat × AV))(B:Nat)(ops:List Oper)(K:St->Prop)(l:List Oper)(s:St):Prop:=DH P Γ B ops K (HV P Γ B ops K) l s
theorem D9{ops:List Oper}{K:St->Prop}(l:List Oper)(s:St)(h:Gp P Γ B ops K l s):e8 P Γ B ops l s K:=hZ E5 h
def Hy(P:Program)(Γ:List (Nat × AV))(B:Nat)(ops:List Oper)(K:St->Prop)(l:List Oper)(s:St):Prop:=DH P Γ B ops K (Gp P Γ B ops K) l s
theorem Eg{ops:List Oper}{K:St->Prop}(l:List Oper)(s:St)(h:Hy P Γ B ops K l s):e8 P Γ B ops l s K:=hZ D9 h
def H1(P:Program)(Γ:List (Nat × AV))(B:Nat)(ops:List Oper)(K:St->Prop)(l:List Oper)(s:St):Prop:=DH P Γ B ops K (Hy P Γ B ops K) l s
theorem Ex{ops:List Oper}{K:St->Prop}(l:List Oper)(s:St)(h:H1 P Γ B ops K l s):e8 P Γ B ops l s K:=hZ Eg h
def Hi(P:Program)(Γ:List (Nat × AV))(B:Nat)(ops:List Oper)(K:St->Prop)(l:List Oper)(s:St):Prop:=DH P Γ B ops K (H1 P Γ B ops K) l s
theorem Ez{ops:List Oper}{K:St->Prop}(l:List Oper)(s:St)(h:Hi P Γ B ops K l s):e8 P Γ B ops l s K:=hZ Ex h
def DK(P:Program)(Γ:List (Nat × AV))(B:Nat)(ops:List Oper)(K:St->Prop)(l:List Oper)(s:St):Prop:=DH P Γ B ops K (Hi P Γ B ops K) l s
theorem Df{ops:List Oper}{K:St->Prop}(l:List Oper)(s:St)(h:DK P Γ B ops K l s):e8 P Γ B ops l s K:=hZ Ez h
theorem e8.many{ops l:List Oper}{s:St}{K:St->Prop}(h:DK P Γ B ops K l s):e8 P Γ B ops l s K:=Df l s h
def Gu(P:Program)(Γ:List (Nat × AV))(B:Nat)(c:Code)(s:St)(Q:Exit->St->Prop):Prop:=cJ P Γ B c s Q
theorem Eu(c:Code)(s:St)(Q:Exit->St->Prop)(h:Gu P Γ B c s Q):cJ P Γ B c s Q:=h
def Gz(P:Program)(Γ:List (Nat × AV))(B:Nat)(c:Code)(s:St)(Q:Exit->St->Prop):Prop:=EJ P Γ B (Gu P Γ B) c s Q
theorem Es(c:Code)(s:St)(Q:Exit->St->Prop)(h:Gz P Γ B c s Q):cJ P Γ B c s Q:=kG Eu h
def HD(P:Program)(Γ:List (Nat × AV))(B:Nat)(c:Code)(s:St)(Q:Exit->St->Prop):Prop:=EJ P Γ B (Gz P Γ B) c s Q
theorem Ec(c:Code)(s:St)(Q:Exit->St->Prop)(h:HD P Γ B c s Q):cJ P Γ B c s Q:=kG Es h
def Ha(P:Program)(Γ:List (Nat × AV))(B:Nat)(c:Code)(s:St)(Q:Exit->St->Prop):Prop:=EJ P Γ B (HD P Γ B) c s Q
theorem Ea(c:Code)(s:St)(Q:Exit->St->Prop)(h:Ha P Γ B c s Q):cJ P Γ B c s Q:=kG Ec h
def Gl(P:Program)(Γ:List (Nat × AV))(B:Nat)(c:Code)(s:St)(Q:Exit->St->Prop):Prop:=EJ P Γ B (Ha P Γ B) c s Q
theorem EI(c:Code)(s:St)(Q:Exit->St->Prop)(h:Gl P Γ B c s Q):cJ P Γ B c s Q:=kG Ea h
def HH(P:Program)(Γ:List (Nat × AV))(B:Nat)(c:Code)(s:St)(Q:Exit->St->Prop):Prop:=EJ P Γ B (Gl P Γ B) c s Q
theorem EG(c:Code)(s:St)(Q:Exit->St->Prop)(h:HH P Γ B c s Q):cJ P Γ B c s Q:=kG EI h
def Hx(P:Program)(Γ:List (Nat × AV))(B:Nat)(c:Code)(s:St)(Q:Exit->St->Prop):Prop:=EJ P Γ B (HH P Γ B) c s Q
theorem Ev(c:Code)(s:St)(Q:Exit->St->Prop)(h:Hx P Γ B c s Q):cJ P Γ B c s Q:=kG EG h
def Hu(P:Program)(Γ:List (Nat × AV))(B:Nat)(c:Code)(s:St)(Q:Exit->St->Prop):Prop:=EJ P Γ B (Hx P Γ B) c s Q
theorem Ed(c:Code)(s:St)(Q:Exit->St->Prop)(h:Hu P Γ B c s Q):cJ P Γ B c s Q:=kG Ev h
def F7(P:Program)(Γ:List (Nat × AV))(B:Nat)(c:Code)(s:St)(Q:Exit->St->Prop):Prop:=EJ P Γ B (Hu P Γ B) c s Q
theorem FC(c:Code)(s:St)(Q:Exit->St->Prop)(h:F7 P Γ B c s Q):cJ P Γ B c s Q:=kG Ed h
theorem cJ.many{c:Code}{s:St}{Q:Exit->St->Prop}(h:F7 P Γ B c s Q):cJ P Γ B c s Q:=FC c s Q h
class XG(p:Prop)(q:outParam Prop):Prop where
 h:q->p
instance{c:Code}{s:St}{Q:Exit->St->Prop}:XG (cJ P Γ B c s Q) (F7 P Γ B c s Q):=⟨cJ.many⟩
instance{ops l:List Oper}{s:St}{K:St->Prop}:XG (e8 P Γ B ops l s K) (DK P Γ B ops K l s):=⟨e8.many⟩
instance{ops:List Oper}{tr:List (List Nat)}{base:Nat}{K:St->Prop}{l:List Nat}{recs:List qK}{s:St}:XG (CZ P Γ B ops tr base K l recs s) (IK P Γ B ops tr base K l recs s):=⟨CZ.go⟩
theorem Xg{p q:Prop}[i:XG p q](x:q):p:=i.h x
theorem Rr{p q:Prop}(x:q)(e:q->p:=by(intro x;(conv=>whnf);(repeat(refine Xg ?_;conv=>whnf));exact x)):p:=e x
end
end Go.Ax
namespace Go.Ax
open Go
def tD(i:Nat):List Nat->Bool
 | []=>false
 | j::r=>match Nat.beq j i with
  | true=>true
  | false=>tD i r
def iH(ids:List Nat):aA->aA
 | []=>[]
 | (k,b)::r=>match tD k ids with
  | true=>(k,b)::iH ids r
  | false=>iH ids r
def fO(ids:List Nat):aA->aA
 | []=>[]
 | (k,b)::r=>match tD k ids with
  | true=>fO ids r
  | false=>(k,b)::fO ids r
def Ca:List Nat->List (Nat × Nat)
 | []=>[]
 | i::r=>(i,i)::Ca r
def A0(n:Nat):List Nat->Bool
 | []=>true
 | i::r=>Nat.blt i n && A0 n r
def q8(ids:List Nat):aA->Bool
 | []=>true
 | (k,_)::r=>tD k ids && q8 ids r
theorem bW{ids:List Nat}:∀{m:aA} {p:Nat × AB},p∈iH ids m↔p∈m/\tD p.1 ids=true
 | [],p=>by simp[iH]
 | (k,b)::r,p=>by
  simp only[iH];split
  ·rename_i h;rw[JA,bW (m:=r),JA];constructor
   ·rintro(rfl|⟨h1,h2⟩)
    ·exact⟨.inl rfl,h⟩
    ·exact⟨.inr h1,h2⟩
   ·rintro⟨rfl|h1,h2⟩
    ·exact .inl rfl
    ·exact .inr ⟨h1,h2⟩
  ·rename_i h;rw[bW (m:=r),JA];constructor
   ·rintro⟨h1,h2⟩;exact⟨.inr h1,h2⟩
   ·rintro⟨rfl|h1,h2⟩
    ·rw[h] at h2;cases h2
    ·exact⟨h1,h2⟩
theorem bE{ids:List Nat}:∀{m:aA} {p:Nat × AB},p∈fO ids m↔p∈m/\tD p.1 ids=false
 | [],p=>by simp[fO]
 | (k,b)::r,p=>by
  simp only[fO];split
  ·rename_i h;rw[bE (m:=r),JA];constructor
   ·rintro⟨h1,h2⟩;exact⟨.inr h1,h2⟩
   ·rintro⟨rfl|h1,h2⟩
    ·rw[h] at h2;cases h2
    ·exact⟨h1,h2⟩
  ·rename_i h;rw[JA,bE (m:=r),JA];constructor
   ·rintro(rfl|⟨h1,h2⟩)
    ·exact⟨.inl rfl,h⟩
    ·exact⟨.inr h1,h2⟩
   ·rintro⟨rfl|h1,h2⟩
    ·exact .inl rfl
    ·exact .inr ⟨h1,h2⟩
theorem f8{ids:List Nat}:∀(m:aA),(iH ids m).Sublist m
 | []=>by simp[iH]
 | (k,b)::r=>by
  simp only[iH];split
  ·exact(f8 r).cons_cons _
  ·exact(f8 r).cons _
theorem f9{ids:List Nat}:∀(m:aA),(fO ids m).Sublist m
 | []=>by simp[fO]
 | (k,b)::r=>by
  simp only[fO];split
  ·exact(f9 r).cons _
  ·exact(f9 r).cons_cons _
theorem s5:∀{ids:List Nat} {i j:Nat},lk (Ca ids) i=some j->i=j/\tD i ids=true
 | [],i,j,h=>by simp[Ca,lk] at h
 | k::r,i,j,h=>by
  simp only[Ca,lk] at h;split at h
  ·rename_i e;cases h;exact⟨(Nat.eq_of_beq_eq_true e).symm,by simp only[tD,e]⟩
  ·rename_i e;obtain⟨h1,h2⟩:=s5 h;exact⟨h1,by simp only[tD,e];exact h2⟩
theorem Du:∀{ids:List Nat} {i:Nat},tD i ids=true->lk (Ca ids) i=some i
 | [],i,h=>by simp[tD] at h
 | k::r,i,h=>by
  simp only[tD] at h;simp only[Ca,lk];split at h
  ·rename_i e;rw[e,Nat.eq_of_beq_eq_true e]
  ·rename_i e;rw[e];exact Du h
theorem jZ:∀{ids:List Nat} {n i:Nat},A0 n ids=true->tD i ids=true->i<n
 | [],n,i,_,h=>by simp[tD] at h
 | k::r,n,i,h1,h=>by
  simp only[A0,JE] at h1;simp only[tD] at h;split at h
  ·rename_i e;rw[←Nat.eq_of_beq_eq_true e];exact JB h1.1
  ·exact jZ h1.2 h
theorem iU:∀{m:aA} {ids:List Nat},q8 ids m=true->∀p∈m,tD p.1 ids=true
 | [],ids,_,p,hp=>by cases hp
 | (k,b)::r,ids,h,p,hp=>by
  simp only[q8,JE] at h;rcases JA.1 hp with rfl|hp
  ·exact h.1
  ·exact iU h.2 p hp
theorem aC.useI{P:Program}{Γ:List (Nat × AV)}{F:FuncId}{args args':List AV}{ms mem:aA}{ns nx:Nat}{Qs K:AV->aA->Nat->Prop}(hΓ:∀p∈Γ,NN p.2)(ids:List Nat)(h:aC P Γ F args' ms ns Qs)
  (hp:iH ids mem=ms) (hargs:mV ms (Ca ids) args args') (hM:dC ms (Ca ids) ms) (hc:(oU ms && A0 ns ids)=true)
  (hk:∀r m n,Qs r m n->NN r/\dC m (Ca ids) m/\(oU m && q8 ids m)=true/\K r (m++fO ids mem) nx):aC P Γ F args mem nx K:=by
 simp only[JE] at hc;refine⟨fun X D ρ w vs hD hm hv=>?_⟩;have hinj:Cn (Ca ids):=fun i j k h1 h2=>by
  have a:=(s5 h1).1;have b:=(s5 h2).1;omega
 refine(aC.use (K:=K) (nx:=nx) hΓ h (Ca ids) (m1:=ms) (rest:=fO ids mem) ⟨fun p hp'=>?_,fun p hp'=>(bE.1 hp').1,fun p hp'=>?_,fun p h1 q h2=>?_, ?_⟩ ?_ hargs hM.cvm (cA hc.1) hinj (fun id i hl=>?_) ?_).run X D ρ w vs hD hm hv
 ·rw[←hp] at hp';exact(bW.1 hp').1
 ·cases hi:tD p.1 ids with
  | true=>left;rw[←hp];exact bW.2 ⟨hp',hi⟩
  | false=>right;exact bE.2 ⟨hp',hi⟩
 ·rw[←hp] at h1;have a:=(bW.1 h1).2;have b:=(bE.1 h2).2;intro e;rw[e,b] at a;cases a
 ·rw[←hp];exact hm.nod.sublist ((f8 mem).map _)
 ·exact hm.nod.sublist ((f9 mem).map _)
 ·obtain⟨h1,h2⟩:=s5 hl;rw[←h1];exact jZ hc.2 h2
 ·intro r m n hq hn;obtain⟨h1,h2,h3,h4⟩:=hk r m n hq;simp only[JE] at h3;refine⟨Ca ids,r,m,nx,JG _,.same r h1,h2.cvm,cA h3.1,hinj,fun i id hl=>?_,fun p h5 q h6=>?_,h4⟩
  ·obtain⟨e1,e2⟩:=s5 hl;subst e1;exact .inl ⟨jZ hc.2 e2,Du e2⟩
  ·have a:=iU h3.2 p h5;have b:=(bE.1 h6).2;intro e;rw[e,b] at a;cases a
def jQ:List (Nat × Nat)->List Nat
 | []=>[]
 | (i,_)::r=>i::jQ r
def vP:List (Nat × Nat)->List (Nat × Nat)
 | []=>[]
 | (i,j)::r=>(j,i)::vP r
def sE(n:Nat):List (Nat × Nat)->Bool
 | []=>true
 | (_,j)::r=>Nat.blt j n && sE n r
theorem rY:∀{σ:List (Nat × Nat)} {i j:Nat},(j,i)∈vP σ↔(i,j)∈σ
 | [],i,j=>by simp[vP]
 | (a,b)::r,i,j=>by
  simp only[vP,JA,rY (σ:=r),Prod.mk.injEq];constructor
  ·rintro(⟨rfl,rfl⟩|h)
   ·exact .inl ⟨rfl,rfl⟩
   ·exact .inr h
  ·rintro(⟨rfl,rfl⟩|h)
   ·exact .inl ⟨rfl,rfl⟩
   ·exact .inr h
theorem CH{σ:List (Nat × Nat)}(h:nH (vP σ)=true){i j:Nat}(hm:(i,j)∈σ):lk σ i=some j:=by
 induction σ with
 | nil=>cases hm
 | cons p r ih=>
  obtain⟨a,b⟩:=p;simp only[vP,nH,JE] at h;simp only[lk];rcases JA.1 hm with e|hm'
  ·cases e;simp
  ·have hne:a≠i:=by
    intro e;subst e;exact gT h.1 _ (rY.2 hm') rfl
   rw[aL hne];exact ih h.2 hm'
theorem fV:∀{σ:List (Nat × Nat)} {n:Nat},sE n σ=true->∀p∈σ,p.2<n
 | [],n,_,p,hp=>by cases hp
 | (a,b)::r,n,h,p,hp=>by
  simp only[sE,JE] at h;rcases JA.1 hp with rfl|hp
  ·exact JB h.1
  ·exact fV h.2 p hp
theorem aC.useR{P:Program}{Γ:List (Nat × AV)}{F:FuncId}{args args':List AV}{ms mem m1:aA}{ns nx:Nat}{Qs K:AV->aA->Nat->Prop}(hΓ:∀p∈Γ,NN p.2)(σ:List (Nat × Nat))(h:aC P Γ F args' ms ns Qs)
  (hp:iH (jQ σ) mem=m1) (hargs:mV m1 σ args args') (hM:dC m1 σ ms) (hc:(oU ms && (nH σ && (nH (vP σ) && sE ns σ)))=true)
  (hk:∀r m n,Qs r m n->∃m',NN r/\dC m (vP σ) m'/\(oU m' && q8 (jQ σ) m')=true/\K r (m'++fO (jQ σ) mem) nx):aC P Γ F args mem nx K:=by
 simp only[JE] at hc;obtain⟨hc1,hc2,hc3,hc4⟩:=hc;refine⟨fun X D ρ w vs hD hm hv=>?_⟩;refine(aC.use (K:=K) (nx:=nx) hΓ h σ (m1:=m1) (rest:=fO (jQ σ) mem) ⟨fun p hp'=>?_,fun p hp'=>(bE.1 hp').1,fun p hp'=>?_,fun p h1 q h2=>?_, ?_⟩ ?_ hargs hM.cvm (cA hc1) (mJ hc2) (fun id i hl=>fV hc4 _ (aF hl)) ?_).run X D ρ w vs hD hm hv
 ·rw[←hp] at hp';exact(bW.1 hp').1
 ·cases hi:tD p.1 (jQ σ) with
  | true=>left;rw[←hp];exact bW.2 ⟨hp',hi⟩
  | false=>right;exact bE.2 ⟨hp',hi⟩
 ·rw[←hp] at h1;have a:=(bW.1 h1).2;have b:=(bE.1 h2).2;intro e;rw[e,b] at a;cases a
 ·rw[←hp];exact hm.nod.sublist ((f8 mem).map _)
 ·exact hm.nod.sublist ((f9 mem).map _)
 ·intro r m n hq hn;obtain⟨m',h1,h2,h3,h4⟩:=hk r m n hq;simp only[JE] at h3;refine⟨vP σ,r,m',nx,JG _,.same r h1,h2.cvm,cA h3.1,mJ hc3,fun i id hl=>?_,fun p h5 q h6=>?_,h4⟩
  ·have hmem:=rY.1 (aF hl);exact .inl ⟨fV hc4 _ hmem,CH hc3 hmem⟩
  ·have a:=iU h3.2 p h5;have b:=(bE.1 h6).2;intro e;rw[e,b] at a;cases a
end Go.Ax
namespace Go.Ax
open Go
def DM(w w':World):Prop:=w.heap.size<=w'.heap.size/\(∀b,b<w.heap.size->w'.heap[b]? = w.heap[b]?)/\tF w w'
theorem DM.refl(w:World):DM w w:=⟨JG _,fun _ _=>rfl,.refl _⟩
section
variable {P:Program} {Γ:List (Nat × AV)} {F:FuncId} {args:List AV} {r:AV}
def Fo(Γ:List (Nat × AV))(w:World):Prop:=∀p∈Γ,∀(j:Nat) (c:AV),p.2.cells[j]? = some c->∃x ρ D O,w.cell? ⟨p.1,j,none⟩=some x/\VR ρ D O w c x
theorem MR.knows{X:Nat->Prop}{ρ:Nat->a6}{D:Nat->Prop}{mem:aA}{w:World}(hm:MR Γ X ρ D mem w):Fo Γ w:=by
 intro p hp j c hc;have:=hm.glo p hp;cases this with
 | ip _ _ _ f h1 h2=>exact⟨f j,ρ,D,_,by have:=(h1 j c hc).2.1;rwa [Jd] at this,h2 j c hc⟩
theorem q6{vs:List Value}(hargs:∀(ρ:Nat->a6) (D O:Nat->Prop) (w:World) (xs:List Value),dO ρ D O w args xs->xs=vs)
  (h:∀w,Fo Γ w->Calls P F vs.toArray w fun e w'=>∃x,e = .returned x/\(∀(ρ:Nat->a6) (D O:Nat->Prop) (w:World),VR ρ D O w r x)/\DM w w') (hF:Nat.beq F YF=false:=by rfl):aS P Γ F args r:=by
 refine⟨fun X D ρ w xs hD hm hv=>?_⟩;obtain rfl:=hargs _ _ _ _ _ hv;refine .of hF ((h w hm.knows).mono ?_);rintro e w' ⟨x,rfl,hx,g1,g2,g3⟩;obtain⟨m1,ext⟩:=hm.still g1 g2 g3;have hsub:∀i,D i->dn D 0 0 i:=fun i hi=>.inl hi
 exact⟨r,x,[],0,ρ,rfl,⟨rfl,rfl,rfl⟩,JG _,(m1.widen hsub).1,hx _ _ _ _,(ext D fun i hi=>hi).wide hsub⟩
theorem vZ{ρ:Nat->a6}{D O:Nat->Prop}{w:World}{xs:List Value}{k:IntKind}{n:Int}(h:dO ρ D O w [.int k n] xs):xs=[.int k n]:=by
 obtain⟨hl,hv⟩:=h
 match xs,hl with
 | [x],_=>
  have:=hv 0 _ x rfl rfl;cases this;rfl
end
def eT(l:List UInt8):List AV:=l.map fun b=>.int .u8 (b.toNat:Int)
theorem qO(l:List UInt8):hE (eT l):=fun a ha=>by
 obtain⟨n,_,rfl⟩:=JM.1 ha;exact .int _ _
theorem yZ(l:List UInt8)(i:Nat):(eT l)[i]? = (l[i]?).map fun b=>.int .u8 (b.toNat:Int):=by rw[eT,Ja]
theorem fD(l:List UInt8):(eT l).length=l.length:=by rw[eT,List.length_map]
theorem tU(l:List UInt8)(k:Nat):(eT l).take k=eT (l.take k):=by rw[eT,eT,List.map_take]
theorem tZ(l:List UInt8)(k:Nat):(eT l).drop k=eT (l.drop k):=by rw[eT,eT,List.map_drop]
theorem jB:∀l:List UInt8,cB (eT l)=some l
 | []=>rfl
 | b::r=>by
  show cB (AV.int .u8 (b.toNat:Int)::eT r)=_
  simp only[cB,jB r];simp
theorem Hp{P:Program}{F:FuncId}{t:TypeId}
  (hF:∀(blk off cap:Nat) (u:Nat) (d:Array UInt8) (w:World),Sort.Holds (fun(b:UInt8)=>Value.int .u8 (b.toNat:Int)) w blk off d->u<10 ^ d.size->u<18446744073709551616->d.size<4611686018427387904 ->
   Calls P F #[.slice (some ⟨blk,off,none⟩) d.size cap,.int .u64 u] w fun e w'=>
    e = .returned (.tuple #[])/\∃(n v':Nat) (dk:Array UInt8),w'=(Sort.putRow (fun(b:UInt8)=>Value.int .u8 (b.toNat:Int)) w blk off dk).drewN n/\Lib.FmtInv d.size u 0 v' dk)
  (xs:List UInt8) (u:Nat) (hu64:u<18446744073709551616) (hlen:1+Lib.nDigits u<=xs.length) (hxl:xs.length<=1000) (hF0:Nat.beq F YF=false:=by rfl) :
  aC P [] F [.sl 0 1 (Lib.nDigits u),.int .u64 u] [(0,.row t 1 (eT xs))] 1 fun r m n=>r = .tup []/\m=[(0,.row t 1 (eT (xs.take 1++Lib.decDigits u++xs.drop (1+Lib.nDigits u))))]:=by
 have hpos:=Lib.nDigits_pos u;refine⟨fun X D ρ w vs hD hm hv=>?_⟩;obtain⟨hl,hv⟩:=hv
 match vs,hl with
 | [s,x],_=>
  have v0:=hv 0 _ s rfl rfl;have v1:=hv 1 _ x rfl rfl;cases v1;have hid:lk [(0,AB.row t 1 (eT xs))] 0=some (.row t 1 (eT xs)):=rfl;have hsz:=jV hm hid;have hn:0<(ρ 0).n:=by
   rcases JT (ρ 0).n with h0|h0
   ·obtain⟨t',sz',e1,_⟩:=hm.emp _ (aF hid) h0;injection e1 with _ _ e2;have:(eT xs).length=0:=by rw[e2];rfl
    rw[fD] at this;omega
   ·exact h0
  obtain⟨o,ho,hsz',arr,fr,rfl,hf,hs,hle,hrow⟩:=hm.blk _ (aF hid) hn;simp only at ho hsz' hs hle hrow;rw[hsz] at hrow hle;rw[fD,Nat.mul_one] at hle;have hcell:∀(i:Nat) (b:UInt8),xs[i]? = some b->arr[i]? = some (Value.int .u8 (b.toNat:Int)):=by
   intro i b hb;obtain⟨v,hv,_,hr⟩:=(hrow i (.int .u8 (b.toNat:Int)) (by rw[yZ,hb];rfl)).2 0 _ rfl;cases hr;simpa using hv
  obtain⟨nd,hnd⟩:∃nd,nd=Lib.nDigits u:=⟨_,rfl⟩
  rw[←hnd] at hpos hlen v0 ⊢;have hso:∃cap,s = .slice (some ⟨(ρ 0).b,1,none⟩) nd cap:=by
   cases v0 with
   | sl _ _ _ cap _ h1 h2=>exact⟨cap,by rw[hsz]⟩
   | slz=>omega
   | slzn=>omega
  obtain⟨cap,rfl⟩:=hso;have hds:(((xs.drop 1).take nd).toArray).size=nd:=by simp;omega
  have hH:Sort.Holds (fun(b:UInt8)=>Value.int .u8 (b.toNat:Int)) w (ρ 0).b 1 ((xs.drop 1).take nd).toArray:=by
   intro j hj;rw[hds] at hj;have hx:xs[1+j]? = some xs[1+j]:=I9 om;have hd:(((xs.drop 1).take nd).toArray)[j]! = xs[1+j]:=by
    rw[getElem!_pos _ j om];simp[Nat.add_comm]
   constructor
   ·simp only[World.cell?,ho,hd];exact hcell _ _ hx
   ·simp only[World.frozen?,ho];have:=hf (1+j) om;obtain⟨a,b⟩:=fr;simp only at this ⊢;rw[KI];simp;omega
  have hcall:=hF (ρ 0).b 1 cap u _ w hH (by rw[hds,hnd];exact Lib.lt_pow_nDigits u) hu64 (by rw[hds];omega);rw[hds] at hcall;refine .of hF0 (hcall.mono ?_);rintro e w' ⟨rfl,n,v',dk,rfl,hinv⟩;have hdk:dk.size=nd:=hinv.size;have hdig:(Lib.decDigits u).length=nd:=by rw[Lib.decDigits_length,hnd]
  rw[hnd] at hinv;have hat:=fun j hj=>Lib.row_is_numeral hinv j hj
  obtain⟨m1,mv,ext⟩:=hm.change (w':=(Sort.putRow (fun(b:UInt8)=>Value.int .u8 (b.toNat:Int)) w (ρ 0).b 1 dk).drewN n) (xs':=eT (xs.take 1++Lib.decDigits u++xs.drop (1+nd))) (arr:=Sort.putCells (fun(b:UInt8)=>Value.int .u8 (b.toNat:Int)) 1 dk arr) (fr:=fr) hid hn
   (by
    apply KS;intro k
    show (w.heap.modify (ρ 0).b (Sort.onCells _))[k]? = _
    have hlt:=eA hm (.inr ⟨_,aF hid,hn,rfl⟩);simp only at hlt;rw[Ju,KY];by_cases hk:(ρ 0).b=k
    ·subst hk;rw[JL rfl,JL rfl,JL hlt,ho];rfl
    ·rw[JJ hk,JJ hk]) .go (fun j hj=>hf j (by simpa[Sort.putCells] using hj)) (by rw[←hs];simp[Sort.putCells])
   (by
    refine⟨?_,fun i x hi=>?_⟩
    ·rw[fD];simp[Sort.putCells,hdig];omega
    ·rw[yZ] at hi;obtain⟨b,hb,rfl⟩:=Jy.1 hi;refine⟨rfl,fun j c hj=>?_⟩;cases j with
     | succ j=>simp[AV.cells] at hj
     | zero=>
      simp[AV.cells] at hj;subst hj;refine⟨.int .u8 (b.toNat:Int), ?_,rfl,.int _ _⟩;simp only[Nat.mul_one,KB,Sort.putCells,Array.getElem?_mapIdx];have hil:i<xs.length:=by
       have:=(JC.1 hb).1;simp[hdig] at this;omega
      have hia:arr[i]? = some (.int .u8 (xs[i].toNat:Int)):=hcell i _ (I9 hil);rw[hia,Jv];congr 1;rw[KK,JY] at hb;have htl:(xs.take 1).length=1:=by simp;omega
      rw[htl] at hb;by_cases h1:i<1
      ·rw[JL h1,Jb,JL h1,I9 hil] at hb;rw[JJ om,Option.some.inj hb]
      ·rw[JJ h1,JY,hdig] at hb;by_cases h2:i-1<nd
       ·rw[JL h2,I9 om] at hb;rw[JL om,←hat (i-1) om,Option.some.inj hb]
       ·rw[JJ h2,Jc] at hb;have e:1+nd+(i-1-nd)=i:=om;rw[e,I9 hil] at hb;rw[JJ om,Option.some.inj hb])
  have hsub:∀i,D i->dn D 1 1 i:=fun i hi=>.inl hi
  exact⟨.tup [],.tuple #[],_,1,ρ,rfl,⟨rfl,by simp[up]⟩,JG _,(m1.widen hsub).1,.tup [] #[] rfl (by simp),(ext D fun i hi=>hi).wide hsub⟩
end Go.Ax
namespace Go.Ax
open Go Go.RowKit
theorem mB{P:Program}{w:World}{n:String}{g:Nat}{k:IntKind}{zs:List Int}(hg:P.globalNamed n=some g)(hv:Lib.TabIs P w n k zs) :
  VR (fun _=>⟨0,0,0⟩) (fun _=>False) (OX (fun _=>False) (fun _=>⟨0,0,0⟩) []) w (.ip (.agg (zs.map fun z=>AV.int k z))) (.pointer (some ⟨g,0,none⟩)):=by
 refine .ip _ g 0 (fun j=>.int k (zs.getD j 0)) (fun j c hj=>?_) (fun j c hj=>?_)
 ·have hj0:j<zs.length:=by have:=(JC.1 hj).1;simpa[AV.cells] using this
  exact⟨DZ _ _,by simpa using hv.cell hg j hj0,rfl⟩
 ·have hj0:j<zs.length:=by have:=(JC.1 hj).1;simpa[AV.cells] using this
  simp[AV.cells,Ja,I9 hj0] at hj;subst hj;simp[Jw,I9 hj0];exact .int _ _
end Go.Ax
namespace Go.Ax
open Go Go.RowKit Go.ChangeShapes
theorem vG{H:Type}{P:Program}{t:TypeId}{ts:List TypeId}{d:DataW H}{r:List (DataW H)}{p:Nat->Bool}(h:(DataW.weightsEach P (t::ts) (d::r)).all p=true):(d.weights P t).all p=true:=by
 rw[DataW.weightsEach,List.all_append,JE] at h;exact h.1
theorem AS{P:Program}{H:Type}{enc:TypeId × Value->H}{w:World}{t e:TypeId}{b0:Nat}{v:Value}{d:DataW H}{ps:List MemPlace}
  (ht:P.underlying t=some (.slice e)) (he:P.underlying e=some (.int .i64)) (hc:P.cellsOf e=1) (hby:P.bytesOf e=8) (hval:Value.okWide P w .any b0 t v) (h:DataW.Trod enc P w 0 (fun _=>true) true t v d ps)
  (hsz:(d.weights P t).all (· <= reachBytes)=true) :
  ∃l:List Int,(∀x∈l,i64 x)/\VR (fun _=>⟨0,0,0⟩) (fun _=>False) (OX (fun _=>False) (fun _=>⟨0,0,0⟩) []) w (.il 1 (aY l)) v/\l.length<=17592186043904:=by
 obtain⟨a0,len0,cap0,rfl⟩:=WideShapes.okWide_slice ht hval;obtain⟨n,hn⟩:=h;rcases ChangeShapes.open_ints ht he hc hn with⟨hcs,_⟩|⟨a,len,cap,zs,hcs,_,hl,_,hz,hx,hcell,hwf⟩
 ·simp[Value.cells] at hcs;obtain⟨rfl,rfl,rfl⟩:=hcs;exact⟨[],by simp,.iln _,by simp⟩
 ·simp[Value.cells] at hcs;obtain⟨rfl,rfl,rfl⟩:=hcs;have hsp:a.spot=none:=by
   simp only[Value.okWide,ht,Cell.okWide,Cell.ok,World.has] at hval;exact hval.2.2.2.1
  simp only[if_true] at hz;obtain⟨rfl,-⟩:=Prod.mk.inj hx;have hlen:(zs.take len0).length<=17592186043904:=by
   rw[DataW.weights,ht] at hsz;simp only[List.all_cons,JE,hby] at hsz;have h1:=JV hsz.1;simp[lits,reachBytes] at h1;simp;omega
  refine⟨zs.take len0,fun x hx=>?_,El hsp hl om hcell,hlen⟩;have:=hwf x (Js hx);have e1:IntKind.i64.min = -9223372036854775808:=rfl;have e2:IntKind.i64.max=9223372036854775807:=rfl;simp[Lit.wf,e1,e2] at this;unfold i64;omega
end Go.Ax
namespace Go.Ax
open Go Go.ChangeShapes Go.WideShapes Go.ChangeAt Go.RowKit Go.Lib
end Go.Ax
namespace Go.Ax
open Go
structure Oc where
 kind:Int
 at_:Int
 code:Int
 deriving DecidableEq
structure Fl where
 path:List Int
 oc:Oc
structure Gr where
 min:List Int
 oc:Oc
 fs:List Fl
def gS(f:Fl):AV:=.agg [.il 1 (aY f.path),.int .i64 f.oc.kind,.int .i64 f.oc.at_,.int .i64 f.oc.code]
def aX(l:List Fl):List AV:=l.map gS
def eJ(g:Gr):AV:=.agg [.il 1 (aY g.min),.int .i64 g.oc.kind,.int .i64 g.oc.at_,.int .i64 g.oc.code,.il 4 (aX g.fs)]
def a8(l:List Gr):List AV:=l.map eJ
theorem nB(f:Fl):NN (gS f):=.agg' (.cons (.il' (aU _)) (.cons nn (.cons nn (.cons nn .nil))))
theorem aZ(l:List Fl):hE (aX l):=fun a ha=>by
 obtain⟨f,_,rfl⟩:=JM.1 ha;exact nB f
theorem eI(g:Gr):NN (eJ g):=.agg' (.cons (.il' (aU _)) (.cons nn (.cons nn (.cons nn (.cons (.il' (aZ _)) .nil)))))
theorem bI(l:List Gr):hE (a8 l):=fun a ha=>by
 obtain⟨f,_,rfl⟩:=JM.1 ha;exact eI f
theorem cD(l:List Fl):(aX l).length=l.length:=by simp[aX]
theorem cG(l:List Gr):(a8 l).length=l.length:=by simp[a8]
theorem iK{l:List Gr}{i:Nat}(h:i<l.length):(a8 l)[((i:Nat):Int).toNat]? = some (eJ l[i]):=by
 simp[a8,I9 h]
end Go.Ax
namespace Go.Ax
open Go
mutual
def yL:fI->Nat
 | .mk _ _ _ kids=>1+Fk kids
def Fk:List fI->Nat
 | []=>0
 | v::r=>yL v+Fk r
end
def Ic(c:Int):Bool:=(decide (97<=c) && decide (c<=122)) || (decide (65<=c) && decide (c<=90)) || (decide (48<=c) && decide (c<=57)) || decide (c=95)
def HE(c:Int):Bool:=decide (65<=c) && decide (c<=90)
def Bj:List UInt8->Bool
 | []=>false
 | c::r=>decide (r.length<16) && HE c.toNat && r.all fun c=>Ic c.toNat
def Eh(k n:Int)(s:List UInt8)(len:Nat):Bool:=
 if k=0 then decide (s=[]) && decide (len=0)
 else if k=1 then(decide (n=0) || decide (n=1)) && decide (s=[]) && decide (len=0)
 else if k=2 then decide (n=0) && decide (s=[])
 else if k=3 then decide (n=0) && Bj s
 else false
mutual
def A6:fI->Bool
 | .mk k n s kids=>Eh k n s kids.length && Bm kids
def Bm:List fI->Bool
 | []=>true
 | v::r=>A6 v && Bm r
end
def H4(k:Int)(len:Nat):Bool:=(decide (k=2) && decide (256<len)) || (decide (k=3) && decide (16<len))
mutual
def Fd:fI->Bool
 | .mk k _ _ kids=>H4 k kids.length || FZ kids
def FZ:List fI->Bool
 | []=>false
 | v::r=>Fd v || FZ r
end
def Cd(v:fI):Int:=if A6 v=false then 1 else if Fd v=true∨1024<yL v then 4 else 0
structure Nd where
 kind:Int
 name:List UInt8
 lo:Int
 hi:Int
 weights:List Int
 labels:List (List UInt8)
 values:List fI
 kids:List Int
 value:fI
structure Ii(x:Nd):Prop where
 kind:i64 x.kind
 name:x.name.length<=4294967296
 lo:i64 x.lo
 hi:i64 x.hi
 weights:x.weights.length<=4294967296
 weightsI:∀w∈x.weights,i64 w
 labels:x.labels.length<=4294967296
 labelsI:∀w∈x.labels,w.length<=4294967296
 values:x.values.length<=4294967296
 valuesI:∀v∈x.values,IZ v/\yL v<=4294967296
 kids:x.kids.length<=4294967296
 kidsI:∀k∈x.kids,i64 k
 value:IZ x.value
 valueS:yL x.value<=4294967296
def Hm:fI->Bool
 | .mk k n s ks=>decide (k=0) && decide (n=0) && decide (s=[]) && decide (ks.length=0)
def Eb(x:Nd):Bool:=
 (decide (x.kind=0) || Hm x.value) && (decide (x.kind=1) || (decide (x.lo=0) && decide (x.hi=0))) && (decide (x.kind=3) || decide (x.name=[])) &&
 (decide (x.kind=2) || (decide (x.weights.length=0) && decide (x.labels.length=0))) && (decide (x.kind=4) || decide (x.values.length=0)) && ((decide (x.kind≠0) && decide (x.kind≠1)) || decide (x.kids.length=0))
def BJ:List fI->Bool
 | a::b::r=>decide (jN a b<0) && BJ (b::r)
 | _=>true
def Fr(i:Int)(l:List Int):Bool:=l.all fun k=>decide (0<=k) && decide (k<i)
def FE(i:Int)(x:Nd):Bool:=
 Eb x && (decide (0<=x.kind) && decide (x.kind<=4)) && Fr i x.kids &&
 (decide (x.kind≠2) || (decide (1<=x.kids.length) && decide (x.kids.length<=256) && decide (x.weights.length=x.kids.length) && (decide (x.labels.length=0) || decide (x.labels.length=x.kids.length)))) &&
 (decide (x.kind≠3) || (decide (x.kids.length<=256) && (decide (x.name=[]) || (Bj x.name && decide (x.kids.length<=16))))) &&
 (decide (x.kind≠4) || decide (x.kids.length=x.values.length+1)) && BJ x.values
def tB(x:Nd):Bool:=
 decide (x.lo<=x.hi) && decide (-4611686018427387904<=x.lo) && decide (x.hi<=4611686018427387904) && decide (x.hi<x.lo+1099511627776) && x.weights.all fun w=>decide (1<=w) && decide (w<=1000)
def Ai:List fI->Int
 | []=>0
 | v::r=>if Cd v≠0 then Cd v else Ai r
def Gs(x:Nd):List fI:=(if x.kind=0 then [x.value] else [])++x.values
def Fe(i:Int)(x:Nd):Int:=
 if FE i x=false then 1 else if Ai (Gs x)≠0 then Ai (Gs x) else if tB x=false then 5 else 0
def IL(l:List Int)(k:Int):Int:=l.getD k.toNat 0
def HW(before kids:List Int):Int:=kids.foldl (fun s k=>s+IL before k) 0
def DX(before kids:List Int):Int:=kids.foldl (fun s k=>max s (IL before k)) 0
def Cp(x:Nd):List Int:=if x.kind=2 then x.kids else x.kids.drop 1
def H0(before:List Int)(x:Nd):Int:=
 if x.kind=0 then 0 else if x.kind=1 then 1 else if x.kind=3 then HW before x.kids else if x.kind=2 then 1+DX before (Cp x) else IL before (x.kids.getD 0 0)+DX before (Cp x)
def Gj(before:List Int)(x:Nd):Int:=
 if x.kind=0 then yL x.value else if x.kind=1 then 1 else if x.kind=3 then 1+HW before x.kids else DX before (Cp x)
structure Ag where
 vals:List fI
 many:Bool
def H5(name:List UInt8)(kids:List fI):fI:=if name=[] then .mk 2 0 [] kids else .mk 3 0 name kids
def GS(l:List Ag)(k:Int):Ag:=l.getD k.toNat ⟨[],false⟩
def GQ(lo hi:Int):List fI:=(List.range (hi+1-lo).toNat).map fun i:Nat=>.mk 0 (lo+(i:Int)) [] []
def A3(before:List Ag)(x:List fI × Bool)(k:Int):List fI × Bool:=
 (Dd (x.1++(GS before k).vals),x.2 || (GS before k).many || decide (1024<(Dd (x.1++(GS before k).vals)).length))
def Im(before:List Ag)(kids:List Int):Ag:=
 if (kids.foldl (A3 before) ([],false)).2 then⟨[],true⟩ else⟨(kids.foldl (A3 before) ([],false)).1,false⟩
def H3(rows:List (List fI))(l:List fI):List (List fI):=rows.flatMap fun r=>l.map fun v=>r++[v]
def Fj(before:List Ag):List Int->List (List fI)->Option (List (List fI))
 | [],rows=>some rows
 | k::r,rows=>if (GS before k).many=true∨1024<rows.length*(GS before k).vals.length then none else Fj before r (H3 rows (GS before k).vals)
def Ib(before:List Ag)(x:Nd):Ag:=
 match Fj before x.kids [[]] with
 | none=>⟨[],true⟩
 | some rows=>⟨Dd (rows.map (H5 x.name)),false⟩
def G5(x:Nd)(before:List Ag):Ag:=
 if x.kind=0 then⟨[x.value],false⟩
 else if x.kind=1 then(if 1024<=x.hi-x.lo then⟨[],true⟩ else⟨GQ x.lo x.hi,false⟩)
 else if x.kind=3 then Ib before x
 else Im before (if x.kind=4 then x.kids.drop 1 else x.kids)
def F4(nodes:List Nd):List Ag:=nodes.foldl (fun out x=>out++[G5 x out]) []
def Dt:List fI->List fI->Bool
 | [],[]=>true
 | a::l,b::m=>decide (jN a b=0) && Dt l m
 | _,_=>false
def GW(nodes:List Nd)(x:Nd):Int:=
 let l:=GS (F4 (nodes.take ((x.kids.getD 0 0).toNat+1))) (x.kids.getD 0 0)
 if l.many=true then 4 else if Dt l.vals x.values=true then 0 else 1
def Ff(before:List Nd)(ls ss:List Int)(x:Nd):Int:=
 if Fe before.length x≠0 then Fe before.length x
 else if 256<H0 ls x∨1024<Gj ss x then 4
 else if x.kind=4 then GW before x else 0
def Fm(nodes:List Nd):List Int:=nodes.foldl (fun ls x=>ls++[H0 ls x]) []
def FS(nodes:List Nd):List Int:=nodes.foldl (fun ls x=>ls++[Gj ls x]) []
def Cj:List Nd->List Nd->Int
 | _,[]=>0
 | before,x::r=>if Ff before (Fm before) (FS before) x≠0 then Ff before (Fm before) (FS before) x else Cj (before++[x]) r
def fW(n most:Int):Int:=(if n<0 then -(n+1) else n).tmod most
theorem iD{n most:Int}(h:1<=most):0<=fW n most/\fW n most<most:=by
 unfold fW;have h0:0<=(if n<0 then -(n+1) else n):=by split<;>omega
 exact⟨Int.tmod_nonneg _ h0,Int.tmod_lt_of_pos _ om⟩
end Go.Ax
namespace Go.Ax
open Go
def HS(x:Ag):AV:=.agg [.il 4 (uH x.vals),.bool x.many]
def g8(l:List Ag):List AV:=l.map HS
theorem En(x:Ag):NN (HS x):=.agg' (.cons (.il' (kU _)) (.cons (.bool _) .nil))
theorem zA(l:List Ag):hE (g8 l):=fun a ha=>by
 obtain⟨n,_,rfl⟩:=JM.1 ha;exact En n
structure Iz(i:Nat)(x:Nd):Prop where
 ok:Ii x
 kind:0<=x.kind/\x.kind<=4
 kids:∀(j:Nat) (k:Int),x.kids[j]? = some k->0<=k/\k<i
 klen:x.kids.length<=65536
 num:tB x=true
structure IW(i:Nat)(x:Nd):Prop where
 kind:0<=x.kind/\x.kind<=4
 kids:∀(j:Nat) (k:Int),x.kids[j]? = some k->0<=k/\k<i
 num:tB x=true
 klen:x.kind≠4->x.kids.length<=256
 bind:x.kind=4->x.kids.length=x.values.length+1
def IM:List (List UInt8):=[[97],[98],[99],[100]]
structure IR(x:Nd):Prop where
 ok:Ii x
 vals:x.values.length<=1024
 labels:∀s∈x.labels,s∈IM
 seq:x.kind=3->x.kids.length<=3
structure DS(ns:List Nd):Prop where
 valid:Cj [] ns=0
 gen:∀x∈ns,IR x
theorem DS.ok{ns:List Nd}(h:DS ns):∀x∈ns,Ii x:=fun x hx=>(h.gen x hx).ok
end Go.Ax
namespace Go.Ax
open Go
end Go.Ax
namespace Go.Ax
open Go
def dQ:List Int->List Int->Int
 | [],[]=>0
 | [],_::_=>-1
 | _::_,[]=>1
 | a::as,b::bs=>andThen (dE a b) (dQ as bs)
def i9(a b:List Int):Int:=andThen (dE (a.length:Int) (b.length:Int)) (dQ a b)
theorem t7:∀a:List Int,zU dQ a
 | []=>by
  constructor
  ·simp[dQ]
  ·intro b;cases b<;>simp[dQ]
  ·intro b c;cases b<;>cases c<;>simp[dQ]
  ·intro b c;cases b<;>cases c<;>simp[dQ]
 | a::as=>by
  have i1:=iF a;have i2:=t7 as;constructor
  ·simp[dQ,i1.refl,i2.refl,andThen]
  ·intro b;cases b with
   | nil=>simp[dQ]
   | cons b bs=>simp only[dQ];exact cV (i1.anti _) (i2.anti _)
  ·intro b c;cases b with
   | nil=>cases c<;>simp[dQ]
   | cons b bs=>
    cases c with
    | nil=>simp[dQ]
    | cons c cs=>simp only[dQ];exact dX (i1.trans _ _) (i1.strict _ _) (i2.trans _ _)
  ·intro b c;cases b with
   | nil=>cases c<;>simp[dQ]
   | cons b bs=>
    cases c with
    | nil=>simp[dQ]
    | cons c cs=>simp only[dQ];exact eS (i1.trans _ _) (i1.strict _ _) (i2.trans _ _) (i2.strict _ _)
theorem Bw(a:List Int):zU i9 a:=by
 have i1:=iF (a.length:Int);have i2:=t7 a;constructor
 ·simp[i9,i1.refl,i2.refl,andThen]
 ·intro b;simp only[i9];exact cV (i1.anti _) (i2.anti _)
 ·intro b c;simp only[i9];exact dX (i1.trans _ _) (i1.strict _ _) (i2.trans _ _)
 ·intro b c;simp only[i9];exact eS (i1.trans _ _) (i1.strict _ _) (i2.trans _ _) (i2.strict _ _)
theorem C6:∀(a b:List Int),dQ a b=0->a=b
 | [],[],_=>rfl
 | [],_::_,h=>by simp[dQ] at h
 | _::_,[],h=>by simp[dQ] at h
 | a::l,b::m,h=>by
  simp only[dQ,andThen] at h;split at h
  ·rename_i h1;rw[Decidable.byContradiction fun e=>ES e h1,C6 l m h]
  ·rename_i h1;exact absurd h h1
theorem GD(a b:List Int)(h:i9 a b=0):a=b:=by
 simp only[i9,andThen] at h;split at h
 ·exact C6 a b h
 ·rename_i h1;exact absurd h h1
def HI(l:List (List Int)):Prop:=l.Pairwise fun a b=>i9 a b<0
theorem HI.get{l:List (List Int)}(h:HI l){i j:Nat}{a b:List Int}(hij:i<j)(ha:l[i]? = some a)(hb:l[j]? = some b):i9 a b<0:=by
 obtain⟨hi,rfl⟩:=JC.1 ha;obtain⟨hj,rfl⟩:=JC.1 hb;exact Jp.1 h i j hi hj hij
theorem Bq:Lib.itoa 0=[48]:=by rw[Lib.itoa,JJ om];simp[Lib.decDigits_one]
def i5(k:Nat):List UInt8:=if k=0 then [] else Lib.decDigits k
theorem v7{k:Nat}(h:k≠0):i5 k=i5 (k/10)++[UInt8.ofNat (48+k%10)]:=by
 unfold i5;rw[JJ h];by_cases h10:k<10
 ·rw[JL om,Lib.decDigits_one h10,Kg h10];rfl
 ·rw[JJ om,Lib.decDigits,dif_neg h10]
theorem cY{n:Int}(h:i64 n):(Lib.itoa n).length<=21:=by
 unfold Lib.itoa;have key:∀u:Nat,u<18446744073709551616->(Lib.decDigits u).length<=20:=by
  intro u hu;rw[Lib.decDigits_length];by_cases h1:1<=u
  ·obtain⟨e1,e2⟩:=Lib.numDigits_eq u h1 hu;rw[←e1];split<;>omega
  ·rw[Lib.nDigits_small om];omega
 unfold i64 at h;split
 ·have:=key n.natAbs om;simp;omega
 ·have:=key n.toNat om;omega
theorem qR:∀(l m:List UInt8) (acc a:Nat),Lib.parseUint10 acc l = .ok a->Lib.parseUint10 acc (l++m)=Lib.parseUint10 a m
 | [],m,acc,a,h=>by
  simp only[Lib.parseUint10] at h;injection h with h;rw[h];rfl
 | c::r,m,acc,a,h=>by
  simp only[Lib.parseUint10,KO] at h ⊢;split at h
  ·rename_i h1;rw[JL h1];split at h
   ·cases h
   ·rename_i h2;rw[JJ h2];split at h
    ·cases h
    ·rename_i h3;rw[JJ h3];exact qR r m _ a h
  ·cases h
theorem uF:∀(u:Nat),u<18446744073709551616->Lib.parseUint10 0 (Lib.decDigits u) = .ok u:=by
 intro u
 induction u using Nat.strongRecOn with
 | _ u ih=>
  intro hu;by_cases h10:u<10
  ·rw[Lib.decDigits_one h10];have e:(UInt8.ofNat (48+u)).toNat=48+u:=by simp;omega
   simp only[Lib.parseUint10,e];rw[JL om,JJ om,JJ om];congr 1;omega
  ·rw[Lib.decDigits,dif_neg h10,qR _ _ 0 (u/10) (ih (u/10) om om)];have e:(UInt8.ofNat (48+u%10)).toNat=48+u%10:=by simp;omega
   simp only[Lib.parseUint10,e];rw[JL om,JJ om,JJ om];congr 1;omega
theorem xM(u:Nat):∃c r,Lib.decDigits u=c::r/\48<=c.toNat/\c.toNat<=57:=by
 induction u using Nat.strongRecOn with
 | _ u ih=>
  by_cases h10:u<10
  ·rw[Lib.decDigits_one h10];have e:(UInt8.ofNat (48+u)).toNat=48+u:=by simp;omega
   exact⟨_,[],rfl,om,om⟩
  ·obtain⟨c,r,h1,h2⟩:=ih (u/10) om;rw[Lib.decDigits,dif_neg h10,h1];exact⟨c,_,rfl,h2⟩
theorem uZ{n:Int}(h:i64 n):Lib.atoiAll (Lib.itoa n) = .ok n:=by
 unfold i64 at h;unfold Lib.itoa;split
 ·have hp:=uF n.natAbs om;obtain⟨c,r,h1,_⟩:=xM n.natAbs;rw[Lib.atoiAll_minus,Lib.parseMag,JJ (by rw[h1];simp),hp,Lib.signed,JJ om];congr 1;omega
 ·have hp:=uF n.toNat om;obtain⟨c,r,h1,h2⟩:=xM n.toNat;rw[h1] at hp ⊢;rw[Lib.atoiAll_plain c r om om,Lib.parseMag,JJ (by simp),hp,Lib.signless,JJ om];congr 1;omega
end Go.Ax
namespace Go.Ax
open Go
structure qB{K:Type}(c:K->K->Int):Prop where
 refl:∀x,c x x=0
 anti:∀x y,c y x = - c x y
 tr:∀x y z,c x y<=0->c y z<=0->c x z<=0
 eq:∀x y,c x y=0->x=y
section
variable {K:Type} {c:K->K->Int}
theorem qB.lt_le(h:qB c){x y z:K}(h1:c x y<0)(h2:c y z<=0):c x z<0:=by
 have h3:=h.tr x y z om h2;rcases KU h3 with h4|h4
 ·exact h4
 ·have:=h.eq _ _ h4;subst this;have:=h.anti x y;omega
theorem qB.le_lt(h:qB c){x y z:K}(h1:c x y<=0)(h2:c y z<0):c x z<0:=by
 have h3:=h.tr x y z h1 om;rcases KU h3 with h4|h4
 ·exact h4
 ·have:=h.eq _ _ h4;subst this;have:=h.anti x y;omega
def Sr(c:K->K->Int)(l:List K):Prop:=l.Pairwise fun a b=>c a b<0
theorem Sr.head_ne(h:qB c){a:K}{l:List K}(hs:Sr c (a::l)):a∉l:=fun hm=>by
 have:=(K5.1 hs).1 a hm;rw[h.refl] at this;omega
theorem AX(h:qB c):∀{a b:List K},Sr c a->Sr c b->(∀x,x∈a↔x∈b)->a=b
 | [],[],_,_,_=>rfl
 | [],y::b,_,_,hm=>absurd ((hm y).2 (.head _)) (by simp)
 | x::a,[],_,_,hm=>absurd ((hm x).1 (.head _)) (by simp)
 | x::a,y::b,ha,hb,hm=>by
  have pa:=K5.1 ha;have pb:=K5.1 hb;have hxy:x=y:=by
   rcases JA.1 ((hm x).1 (.head _)) with e|e
   ·exact e
   ·rcases JA.1 ((hm y).2 (.head _)) with e'|e'
    ·exact e'.symm
    ·have h1:=pb.1 x e;have h2:=pa.1 y e';have:=h.anti x y;omega
  subst hxy;have n1:=Sr.head_ne h ha;have n2:=Sr.head_ne h hb;rw[AX h pa.2 pb.2 fun z=>⟨fun hz=>by
   rcases JA.1 ((hm z).1 (.tail _ hz)) with rfl|e
   ·exact absurd hz n1
   ·exact e,fun hz=>by
   rcases JA.1 ((hm z).2 (.tail _ hz)) with rfl|e
   ·exact absurd hz n2
   ·exact e⟩]
theorem wM{α:Type}{l:List α}(h:l.Nodup){i j:Nat}{a:α}(hi:l[i]? = some a)(hj:l[j]? = some a):i=j:=by
 obtain⟨h1,h2⟩:=JC.1 hi;obtain⟨h3,h4⟩:=JC.1 hj;have hp:=Jp.1 h;rcases LC i j with e|e|e
 ·exact absurd (h2.trans h4.symm) (hp i j h1 h3 e)
 ·exact e
 ·exact absurd (h4.trans h2.symm) (hp j i h3 h1 e)
theorem CA(h:qB c){l:List K}(hn:l.Nodup)(ha:∀(i j:Nat) (x y:K),i<j->l[i]? = some x->l[j]? = some y->¬c y x<0):Sr c l:=by
 refine Jp.2 fun i j hi hj hij=>?_
 have h1:=ha i j _ _ hij (I9 hi) (I9 hj);have h2:=h.anti l[j] l[i];have h3:c l[i] l[j]≠0:=fun e=>(Jp.1 hn i j hi hj hij) (h.eq _ _ e)
 omega
def EW(c:K->K->Int)(x:K)(s:List K × Bool)(y:K):List K × Bool:=
 ((if c x y<0/\s.2=false then s.1++[x] else s.1)++[y],s.2 || decide (c x y<=0))
def lE(c:K->K->Int)(x:K)(l:List K):List K × Bool:=l.foldl (EW c x) ([],false)
def x8(c:K->K->Int)(x:K)(l:List K):List K:=if (lE c x l).2 then(lE c x l).1 else(lE c x l).1++[x]
theorem uO(x:K)(l:List K)(y:K):lE c x (l++[y])=EW c x (lE c x l) y:=by simp[lE]
theorem sO(h:qB c)(x:K)(l:List K)(hs:Sr c l):((lE c x l).2=true↔∃y∈l,c x y<=0)/\Sr c (lE c x l).1/\∀z,z∈(lE c x l).1↔z∈l∨((lE c x l).2=true/\z=x):=by
 obtain⟨r,hr⟩:∃r,r=l.reverse:=⟨_,rfl⟩
 have hl:l=r.reverse:=by rw[hr,KL]
 subst hl;clear hr
 induction r with
 | nil=>exact⟨by simp[lE],.nil,by simp[lE]⟩
 | cons y r ih=>
  rw[Kb] at hs ⊢;have hp:=J5.1 hs;obtain⟨i1,i2,i3⟩:=ih hp.1;have hlt:∀z∈r.reverse,c z y<0:=fun z hz=>hp.2.2 z hz y (.head _)
  rw[uO];generalize lE c x r.reverse=s at *;obtain⟨out,d⟩:=s;simp only[EW] at *;refine⟨?_, ?_,fun z=>?_⟩
  ·rw[KW,i1,K9];constructor
   ·rintro(⟨z,hz,hc⟩|hc)
    ·exact⟨z,JN _ hz,hc⟩
    ·exact⟨y,by simp,hc⟩
   ·rintro⟨z,hz,hc⟩;rcases JI.1 hz with hz|hz
    ·exact .inl ⟨z,hz,hc⟩
    ·simp at hz;subst hz;exact .inr hc
  ·have hxy:d=true->c x y<0:=fun e=>by
    obtain⟨z,hz,hc⟩:=i1.1 e;exact h.le_lt hc (hlt z hz)
   by_cases hc:c x y<0/\d=false
   ·rw[JL hc];refine J5.2 ⟨J5.2 ⟨i2,KP _ _,fun a ha b hb=>?_⟩,KP _ _,fun a ha b hb=>?_⟩
    ·simp at hb;subst hb;rcases(i3 a).1 ha with ha|⟨e,_⟩
     ·have:¬c b a<=0:=fun e=>by
       have:=i1.2 ⟨a,ha,e⟩;rw[hc.2] at this;cases this
      have:=h.anti b a;omega
     ·rw[hc.2] at e;cases e
    ·simp at hb;subst hb;rcases JI.1 ha with ha|ha
     ·rcases(i3 a).1 ha with ha|⟨e,_⟩
      ·exact hlt a ha
      ·rw[hc.2] at e;cases e
     ·simp at ha;subst ha;exact hc.1
   ·rw[JJ hc];refine J5.2 ⟨i2,KP _ _,fun a ha b hb=>?_⟩;simp at hb;subst hb;rcases(i3 a).1 ha with ha|⟨e,rfl⟩
    ·exact hlt a ha
    ·exact hxy e
  ·rw[JI];by_cases hc:c x y<0/\d=false
   ·rw[JL hc,JI,i3];have:decide (c x y<=0)=true:=JX om;rw[hc.2,this];simp;constructor
    ·rintro((h1|h1)|h1)<;>simp[h1]
    ·rintro((h1|h1)|h1)<;>simp[h1]
   ·rw[JJ hc,i3];have hd:d=true∨0<=c x y:=by
     cases d
     ·right;simp at hc;omega
     ·exact .inl rfl
    rcases hd with rfl|hd
    ·simp;constructor<;>(rintro((h1|h1)|h1)<;>simp[h1])
    ·cases d
     ·rcases KU hd with hd|hd
      ·have:decide (c x y<=0)=false:=JZ om;rw[this];simp
      ·have:=h.eq x y hd.symm;subst this;rw[h.refl];simp
     ·simp;constructor<;>(rintro((h1|h1)|h1)<;>simp[h1])
theorem Ar(h:qB c){x:K}{l:List K}(hs:Sr c l):Sr c (x8 c x l):=by
 obtain⟨i1,i2,i3⟩:=sO h x l hs;unfold x8;split
 ·exact i2
 ·rename_i hd;refine J5.2 ⟨i2,KP _ _,fun a ha b hb=>?_⟩;simp at hb;subst hb;rcases(i3 a).1 ha with ha|⟨e,_⟩
  ·have:¬c b a<=0:=fun e=>hd (i1.2 ⟨a,ha,e⟩)
   have:=h.anti b a;omega
  ·exact absurd e hd
theorem yH(h:qB c){x:K}{l:List K}(hs:Sr c l)(z:K):z∈x8 c x l↔z=x∨z∈l:=by
 obtain⟨i1,i2,i3⟩:=sO h x l hs;unfold x8;split
 ·rename_i hd;rw[i3,hd];simp[or_comm]
 ·rename_i hd;rw[JI,i3];simp[hd,or_comm]
def tQ(c:K->K->Int)(l xs:List K):List K:=xs.foldl (fun l x=>x8 c x l) l
theorem qG(h:qB c):∀(xs:List K) {l:List K},Sr c l->Sr c (tQ c l xs)/\∀z,z∈tQ c l xs↔z∈l∨z∈xs
 | [],l,hs=>⟨hs,by simp[tQ]⟩
 | x::xs,l,hs=>by
  obtain⟨h1,h2⟩:=qG h xs (Ar h (x:=x) hs);refine⟨h1,fun z=>?_⟩
  show z∈tQ c (x8 c x l) xs↔_
  rw[h2,yH h hs,JA];constructor
  ·rintro((h1|h1)|h1)<;>simp[h1]
  ·rintro(h1|h1|h1)<;>simp[h1]
def jK(c:K->K->Int)(l:List K):Nat->Bool
 | 0=>true
 | i+1=>match l[i+1]?,l[i]? with
  | some b,some a=>!(c b a == 0)
  | _,_=>true
def eB(c:K->K->Int)(l:List K):Nat->List K
 | 0=>[]
 | i+1=>match l[i]? with
  | some v=>if jK c l i=true then eB c l i++[v] else eB c l i
  | none=>eB c l i
theorem sB{l:List K}:∀i,i<=l.length->(∀j,j<i->jK c l j=true)->eB c l i=l.take i
 | 0,_,_=>by simp[eB]
 | i+1,h,hk=>by
  unfold eB;rw[I9 om];simp only;rw[JL (hk i om),sB i om (fun j hj=>hk j om),JR om]
def FB(c:K->K->Int)(l:List K):Prop:=∀(i j:Nat) (x y:K),i<j->l[i]? = some x->l[j]? = some y->¬c y x<0
theorem Av(hL:qB c){l:List K}(h:FB c l):∀i,i<=l.length->Sr c (eB c l i)/\(∀x,x∈eB c l i↔x∈l.take i)
 | 0,_=>⟨by simp[eB,Sr],by simp[eB]⟩
 | i+1,hi=>by
  obtain⟨s1,s2⟩:=Av hL h i om;have hg:l[i]? = some l[i]:=I9 om;have ht:l.take (i+1)=l.take i++[l[i]]:=JR om;unfold eB;rw[hg];simp only;by_cases hk:jK c l i=true
  ·rw[JL hk];refine⟨?_,fun x=>by rw[ht,JI,JI,s2]⟩;unfold Sr;refine J5.2 ⟨s1,by simp,fun a ha b hb=>?_⟩;have hb:b=l[i]:=by simpa using hb
   subst hb;have ha2:=(s2 a).1 ha;obtain⟨k,hkk,rfl⟩:=KM ha2;have hki:k<i:=by simp at hkk;omega
   rw[List.getElem_take];cases i with
   | zero=>omega
   | succ i=>
    simp only[jK] at hk;rw[hg,I9 (show i<l.length by omega)] at hk;have hne:c l[i+1] l[i]≠0:=by simpa using hk
    have h1:=h i (i+1) _ _ om (I9 om) hg;have h2:c l[i] l[i+1]<0:=by have:=hL.anti l[i+1] l[i];omega
    rcases JK k i with e|e
    ·have h3:=h k i _ _ e (I9 om) (I9 om);exact hL.le_lt (by have:=hL.anti l[i] l[k];omega) h2
    ·have:k=i:=om;subst this;exact h2
  ·rw[JJ hk];refine⟨s1,fun x=>?_⟩;rw[s2,ht,JI];refine⟨fun hx=>.inl hx,fun hx=>?_⟩;rcases hx with hx|hx
   ·exact hx
   ·have hx:x=l[i]:=by simpa using hx
    cases i with
    | zero=>exact absurd rfl hk
    | succ i=>
     simp only[jK] at hk;rw[hg,I9 (show i<l.length by omega)] at hk;have he:c l[i+1] l[i]=0:=by simpa using hk
     rw[hx,hL.eq _ _ he];exact List.mem_iff_getElem.2 ⟨i,by simp;omega,by rw[List.getElem_take]⟩
theorem DD(hL:qB c){l m:List K}(hp:m.Perm l)(h:FB c m):Sr c (eB c m m.length)/\∀x,x∈eB c m m.length↔x∈l:=by
 obtain⟨h1,h2⟩:=Av hL h m.length (JG _);refine⟨h1,fun x=>?_⟩;rw[h2,Jr];exact hp.mem_iff
theorem Bc(hL:qB c)(l:List K):(∀x∈l,¬c x x<0)/\(∀x∈l,∀y∈l,∀z∈l,c x y<0->c y z<0->c x z<0)/\(∀x∈l,∀y∈l,∀z∈l,¬c x y<0->¬c y z<0->¬c x z<0):=by
 refine⟨fun x _=>by rw[hL.refl];omega,fun x _ y _ z _ h1 h2=>hL.lt_le h1 om,fun x _ y _ z _ h1 h2 h3=>?_⟩;have a:=hL.anti x y;have b:=hL.anti y z;have d:=hL.anti x z;have:=hL.tr z y x om om;omega
end
theorem pT{K:Type}{c:K->K->Int}(h:∀x,zU c x)(he:∀x y,c x y=0->x=y):qB c:=⟨fun x=>(h x).refl,fun x y=>(h x).anti y,fun x y z=>(h x).trans y z,he⟩
theorem qB.and{K:Type}{A B:Type}{ca:A->A->Int}{cb:B->B->Int}(ha:qB ca)(hb:qB cb)(f:K->A)(g:K->B)(hi:∀x y,f x=f y->g x=g y->x=y):qB fun x y:K=>andThen (ca (f x) (f y)) (cb (g x) (g y)):=by
 have h0:∀x y,andThen (ca (f x) (f y)) (cb (g x) (g y))=0->f x=f y/\g x=g y:=fun x y h=>by
  unfold andThen at h;split at h
  ·rename_i e;exact⟨ha.eq _ _ e,hb.eq _ _ h⟩
  ·rename_i e;exact absurd h e
 refine⟨fun x=>?_,fun x y=>cV (ha.anti _ _) (hb.anti _ _),fun x y z h1 h2=>?_,fun x y h=>hi x y (h0 x y h).1 (h0 x y h).2⟩
 ·unfold andThen;rw[ha.refl,hb.refl];rfl
 ·unfold andThen at h1 h2 ⊢;split
  ·rename_i e;have e:=ha.eq _ _ e;rw[←e] at h2;have hxy:ca (f x) (f y)=0:=by
    have e1:ca (f x) (f y)<=0:=by split at h1<;>omega
    have e2:ca (f y) (f x)<=0:=by split at h2<;>omega
    have:=ha.anti (f x) (f y);omega
   have hyx:ca (f y) (f x)=0:=by have:=ha.anti (f x) (f y);omega
   rw[JL hxy] at h1;rw[JL hyx] at h2;exact hb.tr _ _ _ h1 h2
  ·have e1:ca (f x) (f y)<=0:=by split at h1<;>omega
   have e2:ca (f y) (f z)<=0:=by split at h2<;>omega
   exact ha.tr _ _ _ e1 e2
theorem Dz:qB dE:=pT iF fun x y h=>by unfold dE at h;split at h<;>first|omega|(split at h<;>omega)
theorem H6:qB i9:=pT Bw fun x y h=>GD x y h
def tR(x y:Oc):Int:=andThen (dE x.kind y.kind) (andThen (dE x.at_ y.at_) (dE x.code y.code))
theorem G3:qB tR:=by
 exact Dz.and (K:=Oc) (Dz.and (K:=Int × Int) Dz Prod.fst Prod.snd (fun x y h h'=>Prod.ext h h')) Oc.kind (fun o=>(o.at_,o.code)) (fun x y h h'=>by
  obtain⟨a,b,c⟩:=x;obtain⟨d,e,f⟩:=y;simp at h h';rw[h,h'.1,h'.2])
abbrev Ky:=List Int × Oc
def vN(x y:Ky):Int:=andThen (i9 x.1 y.1) (tR x.2 y.2)
theorem fQ:qB vN:=H6.and G3 Prod.fst Prod.snd fun x y h h'=>Prod.ext h h'
def GA(f:Fl):Ky:=(f.path,f.oc)
def aI(g:Gr):Ky:=(g.min,g.oc)
def cK(f g:Fl):Int:=vN (GA f) (GA g)
def eY(f g:Gr):Int:=vN (aI f) (aI g)
theorem rT:qB cK:=⟨fun x=>fQ.refl _,fun x y=>fQ.anti _ _,fun x y z=>fQ.tr _ _ _,fun x y h=>by
 have:=fQ.eq _ _ h;obtain⟨p,o⟩:=x;obtain⟨q,u⟩:=y;simp[GA] at this;rw[this.1,this.2]⟩
end Go.Ax
namespace Go.Ax
open Go
def lL(l:List Gr)(k:Ky):Prop:=∃g∈l,aI g=k
def gO(l:List Gr)(k:Ky)(f:Fl):Prop:=∃g∈l,aI g=k/\f∈g.fs
def NF(l:List Gr):Prop:=Sr vN (l.map aI)/\∀g∈l,Sr cK g.fs
theorem fJ{l m:List Gr}{k:Ky}:lL (l++m) k↔lL l k∨lL m k:=by
 constructor
 ·rintro⟨g,hg,e⟩;rcases JI.1 hg with h|h
  ·exact .inl ⟨g,h,e⟩
  ·exact .inr ⟨g,h,e⟩
 ·rintro(⟨g,hg,e⟩|⟨g,hg,e⟩)
  ·exact⟨g,JN _ hg,e⟩
  ·exact⟨g,Jf _ hg,e⟩
theorem cZ{l m:List Gr}{k:Ky}{f:Fl}:gO (l++m) k f↔gO l k f∨gO m k f:=by
 constructor
 ·rintro⟨g,hg,e⟩;rcases JI.1 hg with h|h
  ·exact .inl ⟨g,h,e⟩
  ·exact .inr ⟨g,h,e⟩
 ·rintro(⟨g,hg,e⟩|⟨g,hg,e⟩)
  ·exact⟨g,JN _ hg,e⟩
  ·exact⟨g,Jf _ hg,e⟩
theorem nP{g:Gr}{k:Ky}:lL [g] k↔aI g=k:=by simp[lL]
theorem fE{g:Gr}{k:Ky}{f:Fl}:gO [g] k f↔aI g=k/\f∈g.fs:=by simp[gO]
theorem C9{k:Ky}{f:Fl}:¬gO [] k f:=by simp[gO]
theorem Gf{a b:List Gr}(ha:NF a)(hb:NF b)(hk:∀k,lL a k↔lL b k)(hf:∀k f,gO a k f↔gO b k f):a=b:=by
 have he:a.map aI=b.map aI:=AX fQ ha.1 hb.1 fun k=>by
  rw[JM,JM];exact hk k
 have uniq:∀(l:List Gr),NF l->∀g∈l,∀f,gO l (aI g) f↔f∈g.fs:=by
  intro l hl g hg f;refine⟨?_,fun h=>⟨g,hg,rfl,h⟩⟩;rintro⟨g',hg',e,h⟩;obtain⟨i,hi,rfl⟩:=KM hg;obtain⟨j,hj,rfl⟩:=KM hg';have hp:=Jp.1 hl.1;have:i=j:=by
   rcases LC i j with h1|h1|h1
   ·have:=hp i j (by simpa using hi) (by simpa using hj) h1;simp only[Kj,e,fQ.refl] at this;omega
   ·exact h1
   ·have:=hp j i (by simpa using hj) (by simpa using hi) h1;simp only[Kj,e,fQ.refl] at this;omega
  subst this;exact h
 have hlen:a.length=b.length:=by simpa using congrArg List.length he
 refine List.ext_getElem hlen fun i h1 h2=>?_
 have hki:aI a[i]=aI b[i]:=by
  have:=congrArg (fun l=>l[i]?) he;simpa[h1,h2] using this
 have hfs:a[i].fs=b[i].fs:=AX rT (ha.2 _ (JQ h1)) (hb.2 _ (JQ h2)) fun f=>by
  rw[←uniq a ha _ (JQ h1),←uniq b hb _ (JQ h2),hki];exact hf _ _
 generalize a[i]=x at *;generalize b[i]=y at *;obtain⟨p,o,fs⟩:=x;obtain⟨q,u,gs⟩:=y;simp[aI] at hki hfs;rw[hki.1,hki.2,hfs]
def p6(g:Gr):Gr:=⟨g.min,g.oc,tQ cK [] g.fs⟩
def Ey(x:Gr)(s:List Gr × Bool)(y:Gr):List Gr × Bool:=
 ((if eY x y<0/\s.2=false then s.1++[x] else s.1)++[if eY x y=0 then⟨y.min,y.oc,tQ cK y.fs x.fs⟩ else y],s.2 || decide (eY x y<=0))
def lK(x:Gr)(l:List Gr):List Gr × Bool:=l.foldl (Ey x) ([],false)
def rB(g:Gr)(l:List Gr):List Gr:=if (lK (p6 g) l).2 then(lK (p6 g) l).1 else(lK (p6 g) l).1++[p6 g]
theorem tX(x:Gr)(l:List Gr)(y:Gr):lK x (l++[y])=Ey x (lK x l) y:=by simp[lK]
theorem x6(x:Gr)(l:List Gr):(lK x l).1.map aI=(lE vN (aI x) (l.map aI)).1/\(lK x l).2=(lE vN (aI x) (l.map aI)).2:=by
 obtain⟨r,hr⟩:∃r,r=l.reverse:=⟨_,rfl⟩
 have hl:l=r.reverse:=by rw[hr,KL]
 subst hl;clear hr
 induction r with
 | nil=>exact⟨rfl,rfl⟩
 | cons y r ih=>
  rw[Kb,tX,Jq,List.map_singleton,uO];obtain⟨i1,i2⟩:=ih;generalize lE vN (aI x) (r.reverse.map aI)=t at *;generalize lK x r.reverse=s at *;obtain⟨out,d⟩:=s;obtain⟨out',d'⟩:=t;simp only at i1 i2;subst i1 i2;simp only[Ey,EW];refine⟨?_,rfl⟩
  show List.map aI ((if vN (aI x) (aI y)<0/\d=false then out++[x] else out)++[_])=_
  rw[Jq];congr 1
  ·split<;>simp
  ·simp only[List.map_singleton];split<;>rfl
theorem Dn(x:Gr)(hx:Sr cK x.fs)(l:List Gr)(hl:NF l):(∀g∈(lK x l).1,Sr cK g.fs)/\∀k f,gO (lK x l).1 k f↔gO l k f∨((lK x l).2=true/\aI x=k/\f∈x.fs):=by
 obtain⟨r,hr⟩:∃r,r=l.reverse:=⟨_,rfl⟩
 have he:l=r.reverse:=by rw[hr,KL]
 subst he;clear hr
 induction r with
 | nil=>exact⟨by simp[lK],fun k f=>by simp[lK,C9]⟩
 | cons y r ih=>
  rw[Kb] at hl ⊢;have hp:=hl.1;rw[Jq] at hp;have hl':NF r.reverse:=⟨(J5.1 hp).1,fun g hg=>hl.2 g (JN _ hg)⟩
  obtain⟨i1,i2⟩:=ih hl';have hd:=x6 x r.reverse;have hi:=(sO fQ (aI x) (r.reverse.map aI) hl'.1).1;rw[←hd.2] at hi;have hy:Sr cK y.fs:=hl.2 y (by simp);rw[tX];have hlt:(lK x r.reverse).2=true->eY x y<0:=fun e=>by
   obtain⟨z,hz,hc⟩:=hi.1 e;exact fQ.le_lt hc ((J5.1 hp).2.2 z hz (aI y) (by simp))
  generalize lK x r.reverse=s at *;obtain⟨out,d⟩:=s;simp only at i1 i2 hlt;simp only[Ey];obtain⟨u1,u2⟩:=qG rT x.fs hy;have hlast:Sr cK (if eY x y=0 then(⟨y.min,y.oc,tQ cK y.fs x.fs⟩:Gr) else y).fs:=by split<;>assumption
  constructor
  ·intro g hg;rcases JI.1 hg with hg|hg
   ·split at hg
    ·rcases JI.1 hg with hg|hg
     ·exact i1 g hg
     ·simp at hg;subst hg;exact hx
    ·exact i1 g hg
   ·rw[Ko.1 hg];exact hlast
  ·intro k f;have key1:gO [if eY x y=0 then(⟨y.min,y.oc,tQ cK y.fs x.fs⟩:Gr) else y] k f↔gO [y] k f∨(eY x y=0/\aI x=k/\f∈x.fs):=by
    rw[fE,fE];by_cases h0:eY x y=0
    ·rw[JL h0];have e:aI x=aI y:=fQ.eq _ _ h0
     show aI y=k/\f∈tQ cK y.fs x.fs↔_
     rw[u2,e];constructor
     ·rintro⟨h1,h2|h2⟩
      ·exact .inl ⟨h1,h2⟩
      ·exact .inr ⟨h0,h1,h2⟩
     ·rintro(⟨h1,h2⟩|⟨_,h1,h2⟩)
      ·exact⟨h1,.inl h2⟩
      ·exact⟨h1,.inr h2⟩
    ·rw[JJ h0];simp[h0]
   rw[cZ,cZ,key1];by_cases hc:eY x y<0/\d=false
   ·rw[JL hc,cZ,i2,fE,hc.2,show decide (eY x y<=0)=true from JX om];simp only[J6,false_and,or_false,Bool.false_or,true_and];have:¬eY x y=0:=om;simp only[this,false_and,or_false];constructor
    ·rintro((h|h)|h)<;>simp[h]
    ·rintro((h|h)|h)<;>simp[h]
   ·rw[JJ hc,i2];cases d
    ·have h3:¬eY x y<0:=fun e=>hc ⟨e,rfl⟩
     by_cases h0:eY x y=0
     ·rw[h0];simp[or_assoc]
     ·rw[show decide (eY x y<=0)=false from JZ om];simp[h0]
    ·have:=hlt rfl;have:¬eY x y=0:=om;simp only[this,false_and,or_false,Bool.true_or,true_and];constructor
     ·rintro((h|h)|h)<;>simp[h]
     ·rintro((h|h)|h)<;>simp[h]
theorem BU(g:Gr):Sr cK (p6 g).fs:=(qG rT g.fs .nil).1
theorem yO(g:Gr)(f:Fl):f∈(p6 g).fs↔f∈g.fs:=by rw[show (p6 g).fs=tQ cK [] g.fs from rfl,(qG rT g.fs .nil).2];simp
theorem EO(g:Gr){l:List Gr}(hl:NF l):NF (rB g l)/\(∀k,lL (rB g l) k↔lL l k∨aI g=k)/\∀k f,gO (rB g l) k f↔gO l k f∨(aI g=k/\f∈g.fs):=by
 have hk:(rB g l).map aI=x8 vN (aI g) (l.map aI):=by
  obtain⟨h1,h2⟩:=x6 (p6 g) l;have e:aI (p6 g)=aI g:=rfl;rw[e] at h1 h2;unfold rB x8;rw[←h2,←h1];split<;>simp[e]
 obtain⟨a1,a2⟩:=Dn (p6 g) (BU g) l hl;refine⟨⟨by rw[hk];exact Ar fQ hl.1, ?_⟩,fun k=>?_,fun k f=>?_⟩
 ·unfold rB;split
  ·exact a1
  ·intro x hx;rcases JI.1 hx with hx|hx
   ·exact a1 x hx
   ·rw[Ko.1 hx];exact BU g
 ·have:lL (rB g l) k↔k∈(rB g l).map aI:=by rw[JM];rfl
  rw[this,hk,yH fQ hl.1,JM];constructor
  ·rintro(h|h)
   ·exact .inr h.symm
   ·exact .inl h
  ·rintro(h|h)
   ·exact .inr h
   ·exact .inl h.symm
 ·unfold rB;split
  ·rename_i hd;rw[a2,yO,show aI (p6 g)=aI g from rfl];simp[hd]
  ·rename_i hd;rw[cZ,a2,fE,yO,show aI (p6 g)=aI g from rfl];simp[hd]
def hU(l:List Gr):List Gr:=l.foldl (fun out g=>rB g out) []
theorem CT(l:List Gr)(g:Gr):hU (l++[g])=rB g (hU l):=by simp[hU]
theorem qC(l:List Gr):NF (hU l)/\(∀k,lL (hU l) k↔lL l k)/\∀k f,gO (hU l) k f↔gO l k f:=by
 obtain⟨r,hr⟩:∃r,r=l.reverse:=⟨_,rfl⟩
 have he:l=r.reverse:=by rw[hr,KL]
 subst he;clear hr
 induction r with
 | nil=>exact⟨⟨.nil,by simp[hU]⟩,fun k=>Iff.rfl,fun k f=>Iff.rfl⟩
 | cons y r ih=>
  rw[Kb,CT];obtain⟨i1,i2,i3⟩:=ih;obtain⟨j1,j2,j3⟩:=EO y i1;exact⟨j1,fun k=>by rw[j2,i2,fJ,nP],fun k f=>by rw[j3,i3,cZ,fE]⟩
structure CU(P M:List Gr):Prop where
 nod:(M.map aI).Nodup
 key:∀k,lL M k↔lL P k
 has:∀k f,gO M k f↔gO P k f
theorem FJ:CU [] []:=⟨by simp,fun k=>Iff.rfl,fun k f=>Iff.rfl⟩
theorem ED{P M:List Gr}(h:CU P M){g:Gr}(hn:∀x∈M,aI x≠aI g):CU (P++[g]) (M++[g]):=by
 refine⟨?_,fun k=>by rw[fJ,fJ,h.key],fun k f=>by rw[cZ,cZ,h.has]⟩;rw[Jq];refine J2.2 ⟨h.nod,by simp,fun a ha b hb=>?_⟩;obtain⟨x,hx,rfl⟩:=JM.1 ha;simp at hb;subst hb;exact hn x hx
theorem EF{P L1 L2:List Gr}{x g:Gr}(h:CU P (L1++x::L2))(he:aI x=aI g):CU (P++[g]) (L1++⟨x.min,x.oc,x.fs++g.fs⟩::L2):=by
 have e:aI ⟨x.min,x.oc,x.fs++g.fs⟩=aI x:=rfl;refine⟨?_,fun k=>?_,fun k f=>?_⟩
 ·have:=h.nod;rw[Jq,Jg] at this ⊢;rw[e];exact this
 ·have:=h.key k;rw[fJ,show x::L2=[x]++L2 from rfl,fJ,nP] at this;rw[fJ,show (⟨x.min,x.oc,x.fs++g.fs⟩:Gr)::L2=[⟨x.min,x.oc,x.fs++g.fs⟩]++L2 from rfl,fJ,nP,e,fJ,nP,this,←he];constructor
  ·intro hp;exact .inl hp
  ·rintro(hp|hp)
   ·exact hp
   ·exact this.1 (.inr (.inl hp))
 ·have:=h.has k f;rw[cZ,show x::L2=[x]++L2 from rfl,cZ,fE] at this;rw[cZ,show (⟨x.min,x.oc,x.fs++g.fs⟩:Gr)::L2=[⟨x.min,x.oc,x.fs++g.fs⟩]++L2 from rfl,cZ,fE,e,cZ,fE,←this,←he];simp only[JI];constructor
  ·rintro(h1|⟨h1,h2|h2⟩|h1)
   ·exact .inl (.inl h1)
   ·exact .inl (.inr (.inl ⟨h1,h2⟩))
   ·exact .inr ⟨h1,h2⟩
   ·exact .inl (.inr (.inr h1))
  ·rintro((h1|⟨h1,h2⟩|h1)|⟨h1,h2⟩)
   ·exact .inl h1
   ·exact .inr (.inl ⟨h1,.inl h2⟩)
   ·exact .inr (.inr h1)
   ·exact .inr (.inl ⟨h1,.inr h2⟩)
def Eo(g h:Gr):Prop:=aI h=aI g/\Sr cK h.fs/\∀f,f∈h.fs↔f∈g.fs
theorem FK{P M H R:List Gr}(h:CU P M){s:List Nat}(hs:s.Nodup)(hall:∀i,i∈s↔i<M.length)(hH:H.length=s.length)(hn:∀(i j:Nat) (x:Gr),s[i]? = some j->H[i]? = some x->∃g,M[j]? = some g/\Eo g x)
  (hp:R.Perm H) (ha:∀(i j:Nat) (x y:Gr),i<j->R[i]? = some x->R[j]? = some y->¬eY y x<0):R=hU P:=by
 have m1:∀x∈H,∃g∈M,Eo g x:=fun x hx=>by
  obtain⟨i,hi⟩:=J4 hx;have hi':=(JC.1 hi).1;obtain⟨g,h1,h2⟩:=hn i s[i] x (I9 om) hi;exact⟨g,Je h1,h2⟩
 have m2:∀g∈M,∃x∈H,Eo g x:=fun g hg=>by
  obtain⟨j,hj⟩:=J4 hg;have hj':=(JC.1 hj).1;obtain⟨i,hi⟩:=J4 ((hall j).2 hj');have hi':=(JC.1 hi).1;obtain⟨g',h1,h2⟩:=hn i j H[i] hi (I9 om);rw[hj] at h1;cases h1;exact⟨_,JQ _,h2⟩
 have hkn:(H.map aI).Nodup:=by
  refine Jp.2 fun i j hi hj hij heq=>?_
  have hj1:j<H.length:=by simpa using hj
  have hi1:i<H.length:=om;rw[Kj,Kj] at heq;obtain⟨g1,a1,a2⟩:=hn i s[i] _ (I9 om) (I9 hi1);obtain⟨g2,b1,b2⟩:=hn j s[j] _ (I9 om) (I9 hj1);have hgg:aI g1=aI g2:=by rw[←a2.1,←b2.1];exact heq
  have h1:s[i]=s[j]:=wM h.nod (a:=aI g1) (by rw[Ja,a1];rfl) (by rw[Ja,b1,hgg];rfl);have h2:i=j:=wM hs (I9 om) (by rw[h1];exact I9 om);omega
 have hnf:NF R:=by
  refine⟨CA fQ ((hp.map aI).nodup_iff.2 hkn) fun i j x y hij hx hy=>?_,fun g hg=>?_⟩
  ·rw[Ja] at hx hy;obtain⟨x',hx',rfl⟩:=Jy.1 hx;obtain⟨y',hy',rfl⟩:=Jy.1 hy;exact ha i j x' y' hij hx' hy'
  ·obtain⟨_,_,hN⟩:=m1 g (hp.mem_iff.1 hg);exact hN.2.1
 obtain⟨f1,f2,f3⟩:=qC P;refine Gf hnf f1 (fun k=>?_) fun k f=>?_
 ·rw[f2,←h.key];constructor
  ·rintro⟨x,hx,rfl⟩;obtain⟨g,hg,hN⟩:=m1 x (hp.mem_iff.1 hx);exact⟨g,hg,hN.1.symm⟩
  ·rintro⟨g,hg,rfl⟩;obtain⟨x,hx,hN⟩:=m2 g hg;exact⟨x,hp.mem_iff.2 hx,hN.1⟩
 ·rw[f3,←h.has];constructor
  ·rintro⟨x,hx,rfl,hf⟩;obtain⟨g,hg,hN⟩:=m1 x (hp.mem_iff.1 hx);exact⟨g,hg,hN.1.symm,(hN.2.2 f).1 hf⟩
  ·rintro⟨g,hg,rfl,hf⟩;obtain⟨x,hx,hN⟩:=m2 g hg;exact⟨x,hp.mem_iff.2 hx,hN.1,(hN.2.2 f).2 hf⟩
theorem gC{α:Type}:∀{l m:List α},l.Nodup->(∀x∈l,x∈m)->l.length<=m.length
 | [],m,_,_=>by simp
 | a::l,m,hn,hs=>by
  obtain⟨h1,h2⟩:=JU.1 hn;obtain⟨u,v,rfl⟩:=KT (hs a (.head _));have:=gC (m:=u++v) h2 fun x hx=>by
   rcases JI.1 (hs x (.tail _ hx)) with h|h
   ·exact JN _ h
   ·rcases JA.1 h with rfl|h
    ·exact absurd hx h1
    ·exact Jf _ h
  simp at this ⊢;omega
theorem zW(u:Nat):∀c∈Lib.decDigits u,48<=c.toNat/\c.toNat<=57:=by
 induction u using Nat.strongRecOn with
 | _ u ih=>
  have e:∀k:Nat,k<10->(UInt8.ofNat (48+k)).toNat=48+k:=fun k hk=>by simp;omega
  by_cases h10:u<10
  ·rw[Lib.decDigits_one h10];intro c hc;simp at hc;subst hc;have:=e u h10;simp at this ⊢;omega
  ·rw[Lib.decDigits,dif_neg h10];intro c hc;rcases JI.1 hc with h|h
   ·exact ih (u/10) om c h
   ·simp only[Ko] at h;subst h;have:=e (u%10) om;omega
theorem dK{n:Int}:∀b∈Lib.itoa n,b≠32/\b≠58/\b≠102/\b≠98:=by
 have key:∀u:Nat,∀b∈Lib.decDigits u,b≠32/\b≠58/\b≠102/\b≠98:=fun u b hb=>by
  obtain⟨h1,h2⟩:=zW u b hb;refine⟨?_, ?_, ?_, ?_⟩<;>(rintro rfl;revert h1 h2;decide)
 unfold Lib.itoa;split
 ·intro b hb;rcases JA.1 hb with rfl|hb
  ·decide
  ·exact key _ b hb
 ·exact key _
theorem n7{m n:Int}(hm:i64 m)(hn:i64 n)(h:Lib.itoa m=Lib.itoa n):m=n:=by
 have a:=uZ hm;rw[h,uZ hn] at a;injection a with a;exact a.symm
theorem n4{s:UInt8}:∀{u v x y:List UInt8},(∀b∈u,b≠s)->(∀b∈v,b≠s)->u++s::x=v++s::y->u=v/\x=y
 | [],[],x,y,_,_,h=>⟨rfl,by simpa using h⟩
 | [],b::v,x,y,_,hv,h=>by
  have:=(List.cons.inj h).1;exact absurd this.symm (hv b (.head _))
 | a::u,[],x,y,hu,_,h=>by
  have:=(List.cons.inj h).1;exact absurd this (hu a (.head _))
 | a::u,b::v,x,y,hu,hv,h=>by
  obtain⟨h1,h2⟩:=List.cons.inj h;obtain⟨h3,h4⟩:=n4 (fun c hc=>hu c (.tail _ hc)) (fun c hc=>hv c (.tail _ hc)) h2;exact⟨by rw[h1,h3],h4⟩
def jO(k:Int):List UInt8:=if k=1 then [102,97,105,108,101,100] else if k=2 then [98,114,111,107,101] else Lib.itoa k
def bY:List Int->List UInt8
 | []=>[]
 | c::r=>32::(Lib.itoa c++bY r)
theorem eZ:∀(l:List Int) (c:Int),bY (l++[c])=bY l++32::Lib.itoa c
 | [],c=>by simp[bY]
 | a::r,c=>by simp[bY,eZ r c]
def dA(k:Ky):List UInt8:=jO k.2.kind++32::(Lib.itoa k.2.at_++32::(Lib.itoa k.2.code++58::bY k.1))
theorem uU(k:Int):∀b∈jO k,b≠32:=by
 unfold jO;split
 ·decide
 ·split
  ·decide
  ·exact fun b hb=>(dK b hb).1
theorem C3{a b:Int}(ha:i64 a)(hb:i64 b)(h:jO a=jO b):a=b:=by
 have n1:∀z:Int,Lib.itoa z≠[102,97,105,108,101,100]:=fun z e=>(dK (n:=z) 102 (by rw[e];simp)).2.2.1 rfl
 have n2:∀z:Int,Lib.itoa z≠[98,114,111,107,101]:=fun z e=>(dK (n:=z) 98 (by rw[e];simp)).2.2.2 rfl
 unfold jO at h;split at h<;>rename_i h1
 ·split at h<;>rename_i h2
  ·omega
  ·split at h<;>rename_i h3
   ·exact absurd h (by decide)
   ·exact absurd h.symm (n1 b)
 ·split at h<;>rename_i h2
  ·split at h<;>rename_i h3
   ·exact absurd h (by decide)
   ·split at h<;>rename_i h4
    ·omega
    ·exact absurd h.symm (n2 b)
  ·split at h<;>rename_i h3
   ·exact absurd h (n1 a)
   ·split at h<;>rename_i h4
    ·exact absurd h (n2 a)
    ·exact n7 ha hb h
theorem uG:∀l:List Int,bY l=[]∨∃r,bY l=32::r
 | []=>.inl rfl
 | c::r=>.inr ⟨_,rfl⟩
theorem xG:∀{a b:List Int},(∀x∈a,i64 x)->(∀x∈b,i64 x)->bY a=bY b->a=b
 | [],[],_,_,_=>rfl
 | [],c::b,_,_,h=>by simp[bY] at h
 | c::a,[],_,_,h=>by simp[bY] at h
 | c::a,d::b,ha,hb,h=>by
  simp only[bY,List.cons.injEq,true_and] at h;have key:Lib.itoa c=Lib.itoa d/\bY a=bY b:=by
   have u:=fun z hz=>(dK (n:=c) z hz).1
   have v:=fun z hz=>(dK (n:=d) z hz).1
   rcases uG a with e1|⟨r,e1⟩<;>rcases uG b with e2|⟨t,e2⟩<;>rw[e1,e2] at h ⊢
   ·simp at h;exact⟨h,rfl⟩
   ·rw[KZ] at h;exact absurd rfl (u 32 (by rw[h];simp))
   ·rw[KZ] at h;exact absurd rfl (v 32 (by rw[←h];simp))
   ·obtain⟨h1,h2⟩:=n4 u v h;exact⟨h1,by rw[h2]⟩
  have e1:=n7 (ha c (.head _)) (hb d (.head _)) key.1;have e2:=xG (fun x hx=>ha x (.tail _ hx)) (fun x hx=>hb x (.tail _ hx)) key.2;rw[e1,e2]
def A8(k:Ky):Prop:=(∀x∈k.1,i64 x)/\i64 k.2.kind/\i64 k.2.at_/\i64 k.2.code
theorem sW{a b:Ky}(ha:A8 a)(hb:A8 b)(h:dA a=dA b):a=b:=by
 obtain⟨h1,h2⟩:=n4 (uU _) (uU _) h;obtain⟨h3,h4⟩:=n4 (fun z hz=>(dK z hz).1) (fun z hz=>(dK z hz).1) h2;obtain⟨h5,h6⟩:=n4 (fun z hz=>(dK z hz).2.1) (fun z hz=>(dK z hz).2.1) h4;have e1:=C3 ha.2.1 hb.2.1 h1;have e2:=n7 ha.2.2.1 hb.2.2.1 h3;have e3:=n7 ha.2.2.2 hb.2.2.2 h5;have e4:=xG ha.1 hb.1 h6;obtain⟨p,o1,o2,o3⟩:=a;obtain⟨q,u1,u2,u3⟩:=b;simp only at e1 e2 e3 e4;subst e1 e2 e3 e4;rfl
theorem gE:∀{l:List Int},(∀x∈l,i64 x)->(bY l).length<=22*l.length
 | [],_=>by simp[bY]
 | c::r,h=>by
  have:=gE (l:=r) fun x hx=>h x (.tail _ hx)
  have:=cY (h c (.head _));simp[bY];omega
def Ba(σ:List (Nat × Nat))(ns nx n':Nat):List (Nat × Nat)->Bool
 | []=>true
 | (i,id)::r=>(match Nat.blt i ns with
   | true=>match lk σ id with
    | some j=>Nat.beq j i
    | none=>false
   | false=>Nat.ble nx id && Nat.blt id n') && Ba σ ns nx n' r
def wL(ids:List Nat)(nx:Nat):aA->Bool
 | []=>true
 | (k,_)::r=>(match Nat.ble nx k with
   | true=>true
   | false=>tD k ids) && wL ids nx r
theorem pL{σ:List (Nat × Nat)}{ns nx n':Nat}:∀{τ:List (Nat × Nat)},Ba σ ns nx n' τ=true->∀p∈τ,(p.1<ns/\lk σ p.2=some p.1)∨(ns<=p.1/\nx<=p.2/\p.2<n')
 | [],_,p,hp=>by cases hp
 | (i,id)::r,h,p,hp=>by
  simp only[Ba,JE] at h;rcases JA.1 hp with rfl|hp
  ·have h1:=h.1;split at h1
   ·rename_i hb;split at h1
    ·rename_i j hj;exact .inl ⟨JB hb,by rw[hj,Nat.eq_of_beq_eq_true h1]⟩
    ·cases h1
   ·rename_i hb;simp only[JE] at h1;refine .inr ⟨?_,JB h1.1,JB h1.2⟩;rcases JK i ns with hl|hl
    ·have e:Nat.blt i ns=true:=JD hl;rw[e] at hb;cases hb
    ·exact hl
  ·exact pL h.2 p hp
theorem m8:∀{m:aA} {ids:List Nat} {nx:Nat},wL ids nx m=true->∀p∈m,nx<=p.1∨tD p.1 ids=true
 | [],ids,nx,_,p,hp=>by cases hp
 | (k,b)::r,ids,nx,h,p,hp=>by
  simp only[wL,JE] at h;rcases JA.1 hp with rfl|hp
  ·have h1:=h.1;split at h1
   ·rename_i hb;exact .inl (JB hb)
   ·exact .inr h1
  ·exact m8 h.2 p hp
theorem aC.useN{P:Program}{Γ:List (Nat × AV)}{F:FuncId}{args args':List AV}{ms mem m1:aA}{ns nx:Nat}{Qs K:AV->aA->Nat->Prop}(hΓ:∀p∈Γ,NN p.2)(σ:List (Nat × Nat))(h:aC P Γ F args' ms ns Qs)
  (hp:iH (jQ σ) mem=m1) (hargs:mV m1 σ args args') (hM:dC m1 σ ms) (hc:(oU ms && (nH σ && sE ns σ))=true)
  (hk:∀r m n,Qs r m n->∃τ r' m' n',Cv m τ r r'/\dC m τ m'/\(oU m' && (nH τ && (Nat.ble nx n' && (wL (jQ σ) nx m' && Ba σ ns nx n' τ))))=true/\K r' (m'++fO (jQ σ) mem) n'):aC P Γ F args mem nx K:=by
 simp only[JE] at hc;obtain⟨hc1,hc2,hc4⟩:=hc;refine⟨fun X D ρ w vs hD hm hv=>?_⟩;refine(aC.use (K:=K) (nx:=nx) hΓ h σ (m1:=m1) (rest:=fO (jQ σ) mem) ⟨fun p hp'=>?_,fun p hp'=>(bE.1 hp').1,fun p hp'=>?_,fun p h1 q h2=>?_, ?_⟩ ?_ hargs hM.cvm (cA hc1) (mJ hc2) (fun id i hl=>fV hc4 _ (aF hl)) ?_).run X D ρ w vs hD hm hv
 ·rw[←hp] at hp';exact(bW.1 hp').1
 ·cases hi:tD p.1 (jQ σ) with
  | true=>left;rw[←hp];exact bW.2 ⟨hp',hi⟩
  | false=>right;exact bE.2 ⟨hp',hi⟩
 ·rw[←hp] at h1;have a:=(bW.1 h1).2;have b:=(bE.1 h2).2;intro e;rw[e,b] at a;cases a
 ·rw[←hp];exact hm.nod.sublist ((f8 mem).map _)
 ·exact hm.nod.sublist ((f9 mem).map _)
 ·intro r m n hq hn;obtain⟨τ,r',m',n',h1,h2,h3,h4⟩:=hk r m n hq;simp only[JE] at h3;refine⟨τ,r',m',n',JB h3.2.2.1,h1,h2.cvm,cA h3.1,mJ h3.2.1,fun i id hl=>pL h3.2.2.2.2 _ (aF hl),fun p h5 q h6=>?_,h4⟩;have b:=(bE.1 h6).2;rcases m8 h3.2.2.2.1 p h5 with a|a
  ·have:=hD _ (hm.low q (bE.1 h6).1);omega
  ·intro e;rw[e,b] at a;cases a
theorem aC.ph{P:Program}{Γ:List (Nat × AV)}{F:FuncId}{args:List AV}{mem:aA}{nx:Nat}{K:AV->aA->Nat->Prop}(t:TypeId)(sz:Nat)(h:aC P Γ F args ((nx,.row t sz [])::mem) (nx+1) K):aC P Γ F args mem nx K:=by
 refine⟨fun X D ρ w vs hD hm hv=>?_⟩;obtain⟨m1,v1,e1⟩:=hm.phantom (n:=nx) (D':=dn D nx (nx+1)) (fun h'=>KG _ (hD _ h')) (fun i hi=>.inl hi) (.inr ⟨JG _,J9 _⟩) t sz;refine(h.run X _ _ w vs (fun i hi=>?_) m1 ⟨hv.1,fun j c x hc hx=>v1 _ _ (hv.2 j c x hc hx)⟩).mono ?_
 ·rcases hi with hi|hi
  ·have:=hD i hi;omega
  ·exact hi.2
 ·rintro e w' ⟨r,v,m,n,ρ',rfl,hk,hn,hm',hr,ext⟩;have ed:dn (dn D nx (nx+1)) (nx+1) n=dn D nx n:=by
   funext i
   apply propext;constructor
   ·rintro((hi|⟨h1,h2⟩)|⟨h1,h2⟩)
    ·exact .inl hi
    ·exact .inr ⟨h1,om⟩
    ·exact .inr ⟨om,h2⟩
   ·rintro(hi|⟨h1,h2⟩)
    ·exact .inl (.inl hi)
    ·rcases JK i (nx+1) with h3|h3
     ·exact .inl (.inr ⟨h1,h3⟩)
     ·exact .inr ⟨h3,h2⟩
  rw[ed] at hm' hr ext;refine⟨r,v,m,n,ρ',rfl,hk,om,hm',hr, ?_⟩;have e2:=e1 D fun i hi=>hi
  exact e2.trans ⟨fun i hi=>ext.le i (.inl hi),fun i hi=>ext.agree i (.inl hi),ext.size,ext.keep,ext.fresh,ext.env⟩
end Go.Ax
namespace Go.Ax
open Go
section
variable {P:Program} {Γ:List (Nat × AV)} {B:Nat}
end
end Go.Ax
namespace Go.Ax
open Go
inductive cT where
 | ret
 | pan (x:Value)
 | recd (x:Value)
def cT.mode:cT->FrameMode
 | .ret=>.returning
 | .pan x=>.panicking [pe x]
 | .recd x=>.panicking [{ v:=x,recovered:=true }]
def CF:List Value->Option (List AV)
 | []=>some []
 | .int k n::r=>match CF r with
  | some l=>some (.int k n::l)
  | none=>none
 | .bool b::r=>match CF r with
  | some l=>some (.bool b::l)
  | none=>none
 | _=>none
def IU:Value->Option AV
 | .iface t (.agg arr)=>match CF arr.toList with
  | some l=>some (.ifc t (.agg l))
  | none=>none
 | _=>none
theorem qT{ρ:Nat->a6}{D:Nat->Prop}{O:Nat->Prop}{w:World}:∀{xs:List Value} {l:List AV},CF xs=some l->zZ ρ D O w l xs
 | [],l,h=>by simp only[CF] at h;cases h;exact⟨.nil,by simp⟩
 | x::r,l,h=>by
  cases x<;>simp only[CF] at h<;>first|(cases h;done)|skip
  all_goals
   split at h
   ·rename_i l' hl;cases h;obtain⟨h1,h2⟩:=qT (ρ:=ρ) (D:=D) (O:=O) (w:=w) hl;refine⟨.cons ?_ h1,fun y hy=>?_⟩
    ·first|exact .int _ _|exact .bool _
    ·rcases JA.1 hy with rfl|hy
     ·rfl
     ·exact h2 y hy
   ·cases h
theorem B1{ρ:Nat->a6}{D:Nat->Prop}{O:Nat->Prop}{w:World}{x:Value}{v:AV}(h:IU x=some v):VR ρ D O w v x:=by
 unfold IU at h;split at h
 ·rename_i t arr;split at h
  ·rename_i l hl;cases h;obtain⟨h1,h2⟩:=qT (ρ:=ρ) (D:=D) (O:=O) (w:=w) hl;exact .ifc t _ _ (.agg l arr (by have:=h1.1;simpa using this) (fun y hy=>h2 y (by simpa using hy)) fun j c y hj hy=>h1.2 j c y hj (by simpa using hy))
  ·cases h
 ·cases h
structure jE(P:Program)(Γ:List (Nat × AV))(B:Nat)(c:Code)(s:St)(m:cT)(Q:Exit->St->cT->Prop):Prop where
 run:∀(X:Nat->Prop) (ds:List Deferred) (D:Nat->Prop) (ρ:Nat->a6) (a:Act) (w:World) (c₀:Frame) (cs:List Frame),(∀i,D i->i<B)->SR Γ X (ds,0) ρ (dn D B s.nx) s a w->B<=s.nx->c₀.mode=m.mode ->
  c.wpS P (fun e a' cs' w'=>∃(s':St) (m':cT) (ρ':Nat->a6),Q e s' m'/\cs'={ c₀ with mode:=m'.mode }::cs/\B<=s'.nx/\SR Γ X (ds,0) ρ' (dn D B s'.nx) s' a' w'/\Ext D ρ s.mem w ρ' (dn D B s'.nx) s'.mem w') a (c₀::cs) w
section
variable {P:Program} {Γ:List (Nat × AV)} {B:Nat} {s:St} {m:cT} {Q:Exit->St->cT->Prop}
theorem iW{c₀:Frame}{u:FrameMode}(h:c₀.mode=u):{ c₀ with mode:=u }=c₀:=by subst h;rfl
theorem jE.of{c:Code}(hc:cU c=false)(h:cJ P Γ B c s fun e s'=>Q e s' m):jE P Γ B c s m Q:=by
 refine⟨fun X ds D ρ a w c₀ cs hD hs hB hm=>wpS_of_wp (Go.wp_mono (w7.1 (h.run none X (ds,0) D ρ a w hD hs hB (.no hc))) ?_)⟩;rintro e a' w' ⟨s',ρ',hq,hB',hs',hext⟩;exact⟨s',m,ρ',hq,by rw[iW hm],hB',hs',hext⟩
def Hg(P:Program)(Γ:List (Nat × AV))(B:Nat)(y:Code)(Q:Exit->St->cT->Prop)(e:Exit)(s:St)(m:cT):Prop:=
 match e with
 | .normal=>jE P Γ B y s m Q
 | e=>Q e s m
theorem nJ{c:Code}{Q Q':Exit->Act->List Frame->World->Prop}{a:Act}{cs:List Frame}{w:World}(h:c.wpS P Q a cs w)(hq:∀e a cs w,Q e a cs w->Q' e a cs w):c.wpS P Q' a cs w:=
 fun b k hb hr=>let ⟨e,a',cs',w',q,r⟩:=h b k hb hr;⟨e,a',cs',w',hq _ _ _ _ q,r⟩
theorem jE.seq{x y:Code}(h:jE P Γ B x s m (Hg P Γ B y Q)):jE P Γ B (.seq x y) s m Q:=by
 refine⟨fun X ds D ρ a w c₀ cs hD hs hB hm=>wpS_seq (nJ (h.run X ds D ρ a w c₀ cs hD hs hB hm) ?_)⟩;rintro e a' cs' w' ⟨s',m',ρ',hq,rfl,hB',hs',hext⟩;cases e with
 | normal=>
  refine nJ ((show jE P Γ B y s' m' Q from hq).run X ds D ρ' a' w' { c₀ with mode:=m'.mode } cs hD hs' hB' rfl) ?_;rintro e a2 cs2 w2 ⟨s2,m2,ρ2,h1,rfl,h2,h3,h4⟩;exact⟨s2,m2,ρ2,h1,rfl,h2,h3,hext.trans h4⟩
 | exit i=>exact⟨s',m',ρ',hq,rfl,hB',hs',hext⟩
 | goto l=>exact⟨s',m',ρ',hq,rfl,hB',hs',hext⟩
 | ret=>exact⟨s',m',ρ',hq,rfl,hB',hs',hext⟩
 | panic c=>exact⟨s',m',ρ',hq,rfl,hB',hs',hext⟩
 | outgrown=>exact⟨s',m',ρ',hq,rfl,hB',hs',hext⟩
theorem jE.cond{c:Operand}{x y:Code}{b:Bool}(hc:ev Γ s c=some (.bool b))(h:D2 b (jE P Γ B x s m Q) (jE P Γ B y s m Q)):jE P Γ B (.cond c x y) s m Q:=by
 refine⟨fun X ds D ρ a w c₀ cs hD hs hB hm=>?_⟩;have hv:=aB hs hc;generalize he:a.eval c=cv at hv;cases hv;cases b with
 | true=>exact wpS_cond he ((show jE P Γ B x s m Q from h).run X ds D ρ a w c₀ cs hD hs hB hm)
 | false=>exact wpS_cond he ((show jE P Γ B y s m Q from h).run X ds D ρ a w c₀ cs hD hs hB hm)
def Dv(op:Op):Bool:=
 match op with
 | .call c=>match c.callee with
  | .builtin .recover=>true
  | _=>false
 | _=>false
def Hc:cT->Option (AV × cT)
 | .ret=>some (.nif,.ret)
 | .pan x=>match IU x with
  | some v=>some (v,.recd x)
  | none=>none
 | .recd x=>some (.nif,.recd x)
def rC(P:Program)(Γ:List (Nat × AV))(ops:List Oper):List Oper->St->cT->(St->cT->Prop)->Prop
 | [],s,m,K=>K s m
 | o::r,s,m,K=>match eR ops s o.guard with
  | none=>False
  | some false=>match bU s o.dst (.tup []) s.mem s.nx with
   | some s'=>rC P Γ ops r s' m K
   | none=>False
  | some true=>match Dv o.op with
   | true=>match Hc m with
    | some (v,m')=>match bU s o.dst v s.mem s.nx with
     | some s'=>rC P Γ ops r s' m' K
     | none=>False
    | none=>False
   | false=>match aW P Γ s o.op with
    | some (v,mem,nx)=>match bU s o.dst v mem nx with
     | some s'=>rC P Γ ops r s' m K
     | none=>False
    | none=>False
theorem CV{o:Oper}(h:Dv o.op=true)(ρ:Operand->Value)(w:World):(execOp ρ o).run P w = .ok .recover w:=by
 unfold Dv at h;split at h
 ·rename_i c hop;split at h
  ·rename_i hc;simp[execOp,hop,resolve,hc,invoke,builtin]
  ·cases h
 ·cases h
theorem yW(ops:Array Oper):∀(l:List Nat) (s:St) (m:cT) (K:St->cT->Prop),rC P Γ ops.toList (l.filterMap fun i=>ops[i]?) s m K ->
  ∀(X:Nat->Prop) (ds:List Deferred) (D:Nat->Prop) (ρ:Nat->a6) (a:Act) (w:World) (c₀:Frame) (cs:List Frame) (Q:Exit->Act->List Frame->World->Prop),(∀i,D i->i<B)->SR Γ X (ds,0) ρ (dn D B s.nx) s a w->B<=s.nx->c₀.mode=m.mode ->
   (∀(s':St) (m':cT) (ρ':Nat->a6) (a':Act) (w':World),K s' m'->B<=s'.nx->SR Γ X (ds,0) ρ' (dn D B s'.nx) s' a' w'->Ext D ρ s.mem w ρ' (dn D B s'.nx) s'.mem w'->Q .normal a' ({ c₀ with mode:=m'.mode }::cs) w') ->
   wpOpsS P ops Q l a (c₀::cs) w:=by
 intro l
 induction l with
 | nil=>
  intro s m K h X ds D ρ a w c₀ cs Q hD hs hB hm hQ;have:=hQ s m ρ a w h hB hs (Ext.refl fun i hi=>.inl hi);rw[iW hm] at this;exact this
 | cons i r ih=>
  intro s m K h X ds D ρ a w c₀ cs Q hD hs hB hm hQ;simp only[wpOpsS];cases ho:ops[i]? with
  | none=>
   simp only[K0,ho] at h;exact ih s m K h X ds D ρ a w c₀ cs Q hD hs hB hm hQ
  | some o=>
   simp only[K0,ho] at h;simp only[rC] at h;split at h
   ·exact h.elim
   ·rename_i hw;have hw':=cS hs hw;rw[Kc] at hw';simp only[hw',J6,if_false];split at h
    ·rename_i s' hst;obtain⟨h1,h2,h3⟩:=cH hst hs hs.mr kS (fun h=>h) (fun _ _ h=>h);refine ih s' m K h X ds D ρ _ w c₀ cs Q hD (by rw[h3];exact h1) om hm fun s2 m2 ρ2 a2 w2 k1 k2 k3 k4=>hQ s2 m2 ρ2 a2 w2 k1 k2 k3 (by rw[←h2];exact k4)
    ·exact h.elim
   ·rename_i hw;have hw':=cS hs hw;rw[Kc] at hw';simp only[hw',if_true];split at h
    ·rename_i hrec;rw[CV hrec];split at h
     ·rename_i v m' hv;split at h
      ·rename_i s' hst;have main:∀(x:Value) (c1:Frame),(VR ρ (dn D B s.nx) (OX X ρ s.mem) w v x)->c1={ c₀ with mode:=m'.mode }->wpOpsS P ops Q r (a.put o.dst x) (c1::cs) w:=by
        intro x c1 hx hc1;obtain⟨h1,h2,h3⟩:=cH hst hs hs.mr hx (fun h=>h) (fun _ _ h=>h);subst hc1;exact ih s' m' K h X ds D ρ _ w { c₀ with mode:=m'.mode } cs Q hD (by rw[h3];exact h1) om rfl fun s2 m2 ρ2 a2 w2 k1 k2 k3 k4=>hQ s2 m2 ρ2 a2 w2 k1 k2 k3 (by rw[←h2];exact k4)
       cases m with
       | ret=>
        cases hv;simp only[recoverD,hm,cT.mode];exact main _ c₀ .nif (iW hm).symm
       | pan x=>
        simp only[Hc] at hv;split at hv
        ·rename_i u hu;cases hv;simp only[recoverD,hm,cT.mode,pe];exact main _ _ (B1 hu) rfl
        ·cases hv
       | recd x=>
        cases hv;simp only[recoverD,hm,cT.mode];exact main _ c₀ .nif (iW hm).symm
      ·exact h.elim
     ·exact h.elim
    ·split at h
     ·rename_i v mem nx hstep;split at h
      ·rename_i s' hst;have hnx:s.nx<=nx:=by rcases mW hstep with h'|h'<;>omega
       obtain⟨x,n,w',ρ',e1,e2,m1,v1,mono1,ext1⟩:=fK (P:=P) (D:=dn D B s.nx) (D':=dn D B nx) (fun h'=>KG _ (jI hD hB _ h')) (kZ hnx) hs o (fun e=>.inr ⟨hB,om⟩) hstep;obtain⟨h1,h2,h3⟩:=cH hst hs m1 v1 (ext1 _ fun i hi=>hi).mks mono1;have fin:wpOpsS P ops Q r (a.put o.dst x) (c₀::cs) w':=ih s' m K h X ds D ρ' _ w' c₀ cs Q hD (by rw[h3];exact h1) (by rw[h3];exact Jh hB hnx) hm fun s2 m2 ρ2 a2 w2 k1 k2 k3 k4=>hQ s2 m2 ρ2 a2 w2 k1 k2 k3 ((ext1 D fun i hi=>.inl hi).trans (by rw[←h2];exact k4))
       rw[e1];rcases e2 with rfl|⟨rfl,rfl⟩
       ·exact fin
       ·exact fin
      ·exact h.elim
     ·exact h.elim
theorem uY(L:List Oper):∀(l:List Oper) (k:Nat),(∀j,L[k+j]? = l[j]?)->((List.range' k l.length).filterMap fun i=>L[i]?)=l
 | [],k,h=>rfl
 | o::r,k,h=>by
  have h0:L[k]? = some o:=by simpa using h 0
  rw[KH,List.range'_succ,K0,h0];simp only;rw[uY L r (k+1) fun j=>by have:=h (j+1);simpa[Nat.add_assoc,Nat.add_comm 1 j] using this]
theorem jE.region{id:Nat}{ops:Array Oper}(h:rC P Γ ops.toList ops.toList s m fun s' m'=>Q .normal s' m'):jE P Γ B (.region id ops false) s m Q:=by
 refine⟨fun X ds D ρ a w c₀ cs hD hs hB hm=>wpS_region ?_⟩;have e:((List.range ops.size).filterMap fun i=>ops[i]?)=ops.toList:=by
  have:=uY ops.toList ops.toList 0 (fun j=>by rw[Jd]);rw[List.range_eq_range',←Array.length_toList];simpa using this
 exact yW ops (List.range ops.size) s m _ (by rw[e];exact h) X ds D ρ a w c₀ cs _ hD hs hB hm fun s' m' ρ' a' w' h1 h2 h3 h4=>⟨s',m',ρ',h1,rfl,h2,h3,h4⟩
def AZ(P:Program)(Γ:List (Nat × AV))(H:Hk):Code->St->cT->(St->cT->Prop)->Prop
 | .skip,s,m,K=>K s m
 | .seq x y,s,m,K=>AZ P Γ H x s m fun s' m'=>AZ P Γ H y s' m' K
 | .cond c x y,s,m,K=>match ev Γ s c with
  | some (.bool b)=>match b with
   | true=>AZ P Γ H x s m K
   | false=>AZ P Γ H y s m K
  | _=>False
 | .region _ ops draw,s,m,K=>match draw with
  | false=>rC P Γ ops.toList ops.toList s m K
  | true=>False
 | _,_,_,_=>False
theorem Af{H:Hk}:∀(c:Code) (s:St) (m:cT) (K:St->cT->Prop),AZ P Γ H c s m K->jE P Γ B c s m fun e s' m'=>match e with
  | .normal=>K s' m'
  | _=>False:=by
 intro c
 induction c with
 | skip=>exact fun s m K h=>.of rfl ⟨fun rd X ds D ρ a w hD hs hB _=>wpIn_skip ⟨s,ρ,h,hB,hs,Ext.refl fun i hi=>.inl hi⟩⟩
 | seq x y ihx ihy=>
  intro s m K h;refine jE.seq ?_;obtain⟨h'⟩:=ihx s m _ h;refine⟨fun X ds D ρ a w c₀ cs hD hs hB hm=>nJ (h' X ds D ρ a w c₀ cs hD hs hB hm) ?_⟩;rintro e a' cs' w' ⟨s',m',ρ',hq,rest⟩;refine⟨s',m',ρ', ?_,rest⟩;cases e with
  | normal=>exact ihy s' m' K hq
  | _=>exact(show False from hq).elim
 | cond c x y ihx ihy=>
  intro s m K h;simp only[AZ] at h;split at h
  ·rename_i b hc;refine jE.cond hc ?_;cases b with
   | true=>exact ihx s m K h
   | false=>exact ihy s m K h
  ·exact h.elim
 | region id ops draw=>
  intro s m K h;cases draw with
  | false=>exact jE.region h
  | true=>exact(show False from h).elim
 | _=>exact fun s m K h=>(show False from h).elim
def DfR(ρ:Nat->a6)(D:Nat->Prop)(O:Nat->Prop)(w:World)(v:AV)(d:Deferred):Prop:=
 ∃(F:FuncId) (first cap:List AV) (vs:List Value) (a2:Array Value),v = .fn (.func F) first cap/\d.target = .fn (.func F) a2/\d.args.toList++a2.toList=vs/\dO ρ D O w (first++cap) vs
def vL(P:Program)(Γ:List (Nat × AV))(H:Hk)(rs:List ResultVar)(v:AV)(s:St)(m:cT)(Q:AV->aA->Nat->Prop)(Qp:Value->aA->Nat->Prop):Prop:=
 match v with
 | .fn (.func F) first cap=>match P.funcs[F]? with
  | some fn=>match fn.body with
   | some c=>match fn.name == "runtime.NumGoroutine" with
    | false=>match fn.results.toList with
     | []=>AZ P Γ H c (enter fn.ntmps (first++cap) s.mem s.nx) m fun s' m'=>match m' with
      | .pan x=>Qp x s'.mem s'.nx
      | _=>match p8 P rs { s with mem:=s'.mem,nx:=s'.nx } with
       | some r=>Q r s'.mem s'.nx
       | none=>False
     | _::_=>False
    | true=>False
   | none=>False
  | none=>False
 | _=>False
theorem n9{H:Hk}{X:Nat->Prop}{D:Nat->Prop}{ρ ρ0:Nat->a6}{a:Act}{w w0:World}{mem0:aA}{d:Deferred}{v:AV}{fn:Func}{Qr:AV->aA->Nat->Prop}{Qp:Value->aA->Nat->Prop}
  (hD:∀i,D i->i<B) (hs:SR Γ X ([d],0) ρ (dn D B s.nx) s a w) (hB:B<=s.nx) (hv:DfR ρ (dn D B s.nx) (OX X ρ s.mem) w v d) (hext:Ext D ρ0 mem0 w0 ρ (dn D B s.nx) s.mem w)
  (hm:m.mode≠.run) (h:vL P Γ H fn.results.toList v s m Qr Qp) :
  Leaves P fn a.tmps (fun e w'=>∃(mem':aA) (nx':Nat) (ρ':Nat->a6),B<=nx'/\MR Γ X ρ' (dn D B nx') mem' w'/\Ext D ρ0 mem0 w0 ρ' (dn D B nx') mem' w' /\
   ((∃(r:AV) (v:Value),e = .returned v/\Qr r mem' nx'/\VR ρ' (dn D B nx') (OX X ρ' mem') w' r v)∨(∃x:Value,e = .panicked [pe x]/\Qp x mem' nx'))) [d] m.mode w:=by
 obtain⟨F,first,cap,vs,a2,rfl,ht,hvs,hvr⟩:=hv;simp only[vL] at h;split at h<;>first|exact h.elim|skip
 rename_i fd hf;split at h<;>first|exact h.elim|skip
 rename_i c hc;split at h<;>first|exact h.elim|skip
 rename_i hname;split at h<;>first|exact h.elim|skip
 rename_i hres;have hname':¬fd.name = "runtime.NumGoroutine" := by simpa using hname
 refine⟨hm,.func F,a2,F,vs.toArray,ht, ?_, ?_⟩
 ·rw[ht,←hvs];have e:(d.args.toList++a2.toList).toArray=d.args++a2:=by apply Kn;simp
  simp[invoke,callFunc,hf,hc,hname',e]
 ·refine callsD_of_wpS hf hc fun c₀ cs hc0=>?_
  have hwide:∀id,dn (dn D B s.nx) s.nx s.nx id->dn D B s.nx id:=g5 hB (JG _);have hsr:=m9 (n:=fd.ntmps) (jI hD hB) hs.mr hvr (Ke _);refine nJ ((Af (B:=s.nx) (H:=H) c _ _ _ h).run X [] (dn D B s.nx) ρ _ w c₀ cs (jI hD hB) hsr (JG _) hc0) ?_;rintro e a' cs' w' ⟨s',m',ρ',hq,rfl,hB',hs',hext'⟩;cases e with
  | normal=>
   have hr0:(results fd a'.tmps).run P w' = .ok (.tuple #[]) w':=by
    have:=mS (P:=P) (w:=w') (fn:=fd) (tmps:=a'.tmps) (vs:=[]) (by rw[hres];simp);simpa using this
   have ext2:=hext.trans ((hext'.sub fun i hi=>.inl hi).wide (g5 hB hB'));obtain⟨m2,mono2,_⟩:=hs'.mr.widen (g5 hB hB');refine⟨hs'.def0.eq,m'.mode,rfl,.tuple #[],hr0, ?_⟩;have hs2:SR Γ X ([],0) ρ' (dn D B s'.nx) { s with mem:=s'.mem,nx:=s'.nx } { tmps:=a.tmps,defers:=[] } w':=
    ⟨m2,qL.start (ds:=([],0)) (Ke _),hs.size,fun i u hi=>mono2 _ _ (hext'.vr (hs.slot i u hi))⟩
   have ret:settle m'.mode = .returning->(match p8 P fn.results.toList { s with mem:=s'.mem,nx:=s'.nx } with
       | some r=>Qr r s'.mem s'.nx
       | none=>False)->Leaves P fn a.tmps (fun e w'=>∃(mem':aA) (nx':Nat) (ρ':Nat->a6),B<=nx'/\MR Γ X ρ' (dn D B nx') mem' w'/\Ext D ρ0 mem0 w0 ρ' (dn D B nx') mem' w' /\
   ((∃(r:AV) (v:Value),e = .returned v/\Qr r mem' nx'/\VR ρ' (dn D B nx') (OX X ρ' mem') w' r v)∨(∃x:Value,e = .panicked [pe x]/\Qp x mem' nx'))) [] (settle m'.mode) w':=by
    intro hset hq;rw[hset];split at hq
    ·rename_i r hr;obtain⟨x,h1,h2⟩:=mF hs2 hr;exact⟨x,h1,s'.mem,s'.nx,ρ',Jh hB hB',m2,ext2,.inl ⟨r,x,rfl,hq,h2⟩⟩
    ·exact hq.elim
   cases m' with
   | ret=>exact ret rfl hq
   | recd x=>exact ret rfl hq
   | pan x=>exact⟨s'.mem,s'.nx,ρ',Jh hB hB',m2,ext2,.inr ⟨x,rfl,hq⟩⟩
  | _=>exact(show False from hq).elim
end
structure oX(P:Program)(Γ:List (Nat × AV))(B:Nat)(c:Code)(s:St)(Q:Exit->St->Option AV->Prop):Prop where
 run:∀(X:Nat->Prop) (D:Nat->Prop) (ρ:Nat->a6) (a:Act) (w:World),(∀i,D i->i<B)->SR Γ X ([],0) ρ (dn D B s.nx) s a w->B<=s.nx ->
  c.wp P (fun e a' w'=>∃(s':St) (v:Option AV) (ds:List Deferred) (ρ':Nat->a6),Q e s' v/\B<=s'.nx/\SR Γ X (ds,0) ρ' (dn D B s'.nx) s' a' w'/\Ext D ρ s.mem w ρ' (dn D B s'.nx) s'.mem w' /\
   (match v with
    | none=>ds=[]
    | some v=>∃d,ds=[d]/\DfR ρ' (dn D B s'.nx) (OX X ρ' s'.mem) w' v d)) a w
section
variable {P:Program} {Γ:List (Nat × AV)} {B:Nat} {s:St} {Q:Exit->St->Option AV->Prop}
theorem SR.widen{X:Nat->Prop}{ds:List Deferred × Nat}{ρ:Nat->a6}{D D':Nat->Prop}{a:Act}{w:World}(hs:SR Γ X ds ρ D s a w)(hD:∀i,D i->D' i):SR Γ X ds ρ D' s a w:=by
 obtain⟨m,mono,_⟩:=hs.mr.widen hD;exact⟨m,hs.def0,hs.size,fun i v hi=>mono _ _ (hs.slot i v hi)⟩
theorem oX.of{c:Code}(hc:cU c=false)(h:cJ P Γ B c s fun e s'=>Q e s' none):oX P Γ B c s Q:=by
 refine⟨fun X D ρ a w hD hs hB=>Go.wp_mono (w7.1 (h.run none X ([],0) D ρ a w hD hs hB (.no hc))) ?_⟩;rintro e a' w' ⟨s',ρ',hq,hB',hs',hext⟩;exact⟨s',none,[],ρ',hq,hB',hs',hext,rfl⟩
theorem DfR.vr{X:Nat->Prop}{D D':Nat->Prop}{ρ ρ':Nat->a6}{mem mem':aA}{w w':World}{v:AV}{d:Deferred}(h:Ext D ρ mem w ρ' D' mem' w')(hv:DfR ρ D (OX X ρ mem) w v d):DfR ρ' D' (OX X ρ' mem') w' v d:=by
 obtain⟨F,first,cap,vs,a2,h1,h2,h3,h4⟩:=hv;exact⟨F,first,cap,vs,a2,h1,h2,h3,h4.1,fun j c x hc hx=>h.vr (h4.2 j c x hc hx)⟩
def HN(P:Program)(Γ:List (Nat × AV))(B:Nat)(y:Code)(Q:Exit->St->Option AV->Prop)(e:Exit)(s:St)(v:Option AV):Prop:=
 match e with
 | .normal=>match v with
  | none=>oX P Γ B y s Q
  | some v=>cU y=false/\cJ P Γ s.nx y s fun e s'=>Q e s' (some v)
 | e=>Q e s v
theorem oX.seq{x y:Code}(h:oX P Γ B x s (HN P Γ B y Q)):oX P Γ B (.seq x y) s Q:=by
 refine⟨fun X D ρ a w hD hs hB=>wp_seq (Go.wp_mono (h.run X D ρ a w hD hs hB) ?_)⟩;rintro e a' w' ⟨s',v,ds,ρ',hq,hB',hs',hext,hv⟩;cases e with
 | normal=>
  cases v with
  | none=>
   have hv:ds=[]:=hv;subst hv;refine Go.wp_mono ((show oX P Γ B y s' Q from hq).run X D ρ' a' w' hD hs' hB') ?_;rintro e a2 w2 ⟨s2,v2,ds2,ρ2,h1,h2,h3,h4,h5⟩;exact⟨s2,v2,ds2,ρ2,h1,h2,h3,hext.trans h4,h5⟩
  | some v=>
   obtain⟨d,rfl,hd⟩:=hv;have key:=(show cU y=false/\cJ P Γ s'.nx y s' (fun e s'=>Q e s' (some v)) from hq)
   refine Go.wp_mono (w7.1 (key.2.run none X ([d],0) (dn D B s'.nx) ρ' a' w' (jI hD hB') (hs'.widen fun i hi=>.inl hi) (JG _) (.no key.1))) ?_;rintro e a2 w2 ⟨s2,ρ2,h1,h2,h3,h4⟩;have hd2:=hd.vr h4;obtain⟨_,mono2,_⟩:=h3.mr.widen (g5 hB' h2);obtain⟨F,first,cap,vs,a2,g1,g2,g3,g4⟩:=hd2;exact⟨s2,some v,[d],ρ2,h1,Jh hB' h2,h3.widen (g5 hB' h2),hext.trans ((h4.sub fun i hi=>.inl hi).wide (g5 hB' h2)),d,rfl,F,first,cap,vs,a2,g1,g2,g3,g4.1,fun j c x hc hx=>mono2 _ _ (g4.2 j c x hc hx)⟩
 | exit i=>exact⟨s',v,ds,ρ',hq,hB',hs',hext,hv⟩
 | goto l=>exact⟨s',v,ds,ρ',hq,hB',hs',hext,hv⟩
 | ret=>exact⟨s',v,ds,ρ',hq,hB',hs',hext,hv⟩
 | panic c=>exact⟨s',v,ds,ρ',hq,hB',hs',hext,hv⟩
 | outgrown=>exact⟨s',v,ds,ρ',hq,hB',hs',hext,hv⟩
def xQ(P:Program)(Γ:List (Nat × AV))(ops:List Oper):List Oper->St->(St->AV->Prop)->Prop
 | [],_,_=>False
 | o::r,s,K=>match eR ops s o.guard with
  | some true=>match o.op with
   | .defer c=>match r with
    | []=>match c.args.toList with
     | []=>match c.callee with
      | .value f=>match ev Γ s f with
       | some (.fn (.func F) first cap)=>match bU s o.dst (.tup []) s.mem s.nx with
        | some s'=>K s' (.fn (.func F) first cap)
        | none=>False
       | _=>False
      | _=>False
     | _::_=>False
    | _::_=>False
   | op=>match aW P Γ s op with
    | some (v,mem,nx)=>match bU s o.dst v mem nx with
     | some s'=>xQ P Γ ops r s' K
     | none=>False
    | none=>False
  | _=>False
theorem pN(ops:List Oper):∀(l:List Oper) (s:St) (K:St->AV->Prop),xQ P Γ ops l s K ->
  ∀(X:Nat->Prop) (D:Nat->Prop) (ρ:Nat->a6) (a:Act) (w:World) (Q:Exit->Act->World->Prop),(∀i,D i->i<B)->SR Γ X ([],0) ρ (dn D B s.nx) s a w->B<=s.nx ->
   (∀(s':St) (v:AV) (d:Deferred) (ρ':Nat->a6) (a':Act) (w':World),K s' v->B<=s'.nx->SR Γ X ([d],0) ρ' (dn D B s'.nx) s' a' w'->Ext D ρ s.mem w ρ' (dn D B s'.nx) s'.mem w'->DfR ρ' (dn D B s'.nx) (OX X ρ' s'.mem) w' v d->Q .normal a' w')->wpList P ops.toArray Q l a w
 | [],s,K,h,X,D,ρ,a,w,Q,hD,hs,hB,hQ=>h.elim
 | o::r,s,K,h,X,D,ρ,a,w,Q,hD,hs,hB,hQ=>by
  simp only[xQ] at h;refine wpList_step fun K' hK'=>?_
  split at h<;>first|exact h.elim|skip
  rename_i hw;rw[cS hs hw];simp only[if_true];split at h
  ·rename_i c hop;split at h<;>first|exact h.elim|skip
   split at h<;>first|exact h.elim|skip
   rename_i hargs;split at h<;>first|exact h.elim|skip
   rename_i f hc;split at h<;>first|exact h.elim|skip
   rename_i F first cap hf
   split at h<;>first|exact h.elim|skip
   rename_i s' hst;have hv:=aB hs hf;generalize he:a.eval f=fv at hv;cases hv with
   | fn _ _ _ a1 a2 l1 l2 r1 r2=>
    have hargs':c.args = #[]:=by apply Kn;simpa using hargs
    have e1:(execOp a.eval o).run P w = .ok (.defer { target:=.fn (.func F) a2,args:=a1 }) w:=by
     simp[execOp,hop,resolve,hc,he,Deferred.ofValue,hargs']
    unfold Oper.wp;rw[e1];have hs':SR Γ X ([{ target:=.fn (.func F) a2,args:=a1 }],0) ρ (dn D B s.nx) s { a with defers:={ target:=.fn (.func F) a2,args:=a1 }::a.defers } w:=
     ⟨hs.mr,by rw[hs.def0.eq];exact qL.start (ds:=([_],0)) (Ke _),hs.size,hs.slot⟩
    obtain⟨h1,h2,h3⟩:=cH hst hs' hs'.mr kS (fun h=>h) (fun _ _ h=>h);refine hK' _ _ (wpList_nil (hQ s' _ _ ρ _ w h (by rw[h3];exact hB) (by rw[h3];exact h1) (by rw[h2,h3];exact Ext.refl fun i hi=>.inl hi) ?_));refine⟨F,first,cap,a1.toList++a2.toList,a2,rfl,rfl,rfl, ?_⟩;rw[h2,h3];exact dO.append ⟨by simpa using l1,fun j c x h1 h2=>r1 j c x h1 (by simpa using h2)⟩ ⟨by simpa using l2,fun j c x h1 h2=>r2 j c x h1 (by simpa using h2)⟩
  ·rename_i hnd;split at h<;>first|exact h.elim|skip
   rename_i v mem nx hstep;split at h<;>first|exact h.elim|skip
   rename_i s' hst;have hnx:s.nx<=nx:=by rcases mW hstep with h'|h'<;>omega
   obtain⟨x,n,w',ρ',e1,e2,m1,v1,mono1,ext1⟩:=fK (P:=P) (D:=dn D B s.nx) (D':=dn D B nx) (fun h'=>KG _ (jI hD hB _ h')) (kZ hnx) hs o (fun e=>.inr ⟨hB,om⟩) hstep;obtain⟨h1,h2,h3⟩:=cH hst hs m1 v1 (ext1 _ fun i hi=>hi).mks mono1;have fin:K' (a.put o.dst x) w':=hK' _ _ (pN ops r s' K h X D ρ' _ w' Q hD (by rw[h3];exact h1) (by rw[h3];exact Jh hB hnx) fun s2 v2 d2 ρ2 a2 w2 k1 k2 k3 k4 k5=>hQ s2 v2 d2 ρ2 a2 w2 k1 k2 k3 ((ext1 D fun i hi=>.inl hi).trans (by rw[←h2];exact k4)) k5);unfold Oper.wp;rw[e1];rcases e2 with rfl|⟨rfl,rfl⟩
   ·exact fin
   ·exact fin
theorem oX.region{id:Nat}{ops:Array Oper}(h:xQ P Γ ops.toList ops.toList s fun s' v=>Q .normal s' (some v)):oX P Γ B (.region id ops false) s Q:=by
 refine⟨fun X D ρ a w hD hs hB=>wp_region_list ?_⟩;have:=pN ops.toList ops.toList s _ h X D ρ a w (fun e a' w'=>∃(s':St) (v:Option AV) (ds:List Deferred) (ρ':Nat->a6),Q e s' v/\B<=s'.nx/\SR Γ X (ds,0) ρ' (dn D B s'.nx) s' a' w'/\Ext D ρ s.mem w ρ' (dn D B s'.nx) s'.mem w' /\
   (match v with
    | none=>ds=[]
    | some v=>∃d,ds=[d]/\DfR ρ' (dn D B s'.nx) (OX X ρ' s'.mem) w' v d)) hD hs hB
  (fun s' v d ρ' a' w' h1 h2 h3 h4 h5=>⟨s',some v,[d],ρ',h1,h2,h3,h4,d,rfl,h5⟩)
 simpa using this
def Er(P:Program)(Γ:List (Nat × AV))(H:Hk)(rs:List ResultVar)(Q:AV->aA->Nat->Prop)(Qp:Value->aA->Nat->Prop)(s:St)(v:Option AV):Prop:=
 match v with
 | none=>match p8 P rs s with
  | some r=>Q r s.mem s.nx
  | none=>False
 | some v=>vL P Γ H rs v s .ret Q Qp
def IQ(P:Program)(Γ:List (Nat × AV))(H:Hk)(rs:List ResultVar)(Q:AV->aA->Nat->Prop)(Qp:Value->aA->Nat->Prop)(x:Value)(s:St)(v:Option AV):Prop:=
 match v with
 | none=>Qp x s.mem s.nx
 | some v=>vL P Γ H rs v s (.pan x) Q Qp
def De(P:Program)(Γ:List (Nat × AV))(H:Hk)(rs:List ResultVar)(Q:AV->aA->Nat->Prop)(Qp:Value->aA->Nat->Prop):Exit->St->Option AV->Prop:=fun e s v=>
 match e with
 | .normal=>Er P Γ H rs Q Qp s v
 | .ret=>Er P Γ H rs Q Qp s v
 | .panic [⟨x,false,false⟩]=>IQ P Γ H rs Q Qp x s v
 | _=>False
theorem p5{H:Hk}{F:FuncId}{fn:Func}{c:Code}{args:List AV}{mem:aA}{nx:Nat}{Q:AV->aA->Nat->Prop}{Qp:Value->aA->Nat->Prop}(hf:P.funcs[F]? = some fn)(hb:fn.body=some c)
  (h:oX P Γ nx c (enter fn.ntmps args mem nx) (De P Γ H fn.results.toList Q Qp)) (hF:Nat.beq F YF=false:=by rfl):bZ P Γ F args mem nx Q Qp:=by
 refine⟨fun X D ρ w vs hD hm hv=>.of hF (calls_of_wp_defers hf hb ?_)⟩;refine Go.wp_mono (h.run X D ρ _ w hD (m9 hD hm hv (Ke _)) (JG _)) ?_;rintro e a' w' ⟨s',v,ds,ρ',hq,hB',hs',hext,hv⟩;have ret:Er P Γ H fn.results.toList Q Qp s' v->Leaves P fn a'.tmps (fun e w'=>∃(mem':aA) (nx':Nat) (ρ':Nat->a6),nx<=nx'/\MR Γ X ρ' (dn D nx nx') mem' w'/\Ext D ρ mem w ρ' (dn D nx nx') mem' w' /\
   ((∃(r:AV) (v:Value),e = .returned v/\Q r mem' nx'/\VR ρ' (dn D nx nx') (OX X ρ' mem') w' r v)∨(∃x:Value,e = .panicked [pe x]/\Qp x mem' nx'))) a'.defers .returning w':=by
  intro hq;cases v with
  | none=>
   have hv:ds=[]:=hv;subst hv;rw[hs'.def0.eq];simp only[Er] at hq;split at hq
   ·rename_i r hr;obtain⟨x,h1,h2⟩:=mF hs' hr;exact⟨x,h1,s'.mem,s'.nx,ρ',hB',hs'.mr,hext,.inl ⟨r,x,rfl,hq,h2⟩⟩
   ·exact hq.elim
  | some v=>
   obtain⟨d,rfl,hd⟩:=hv;rw[hs'.def0.eq];exact n9 (B:=nx) (m:=.ret) hD hs' hB' hd hext (by simp[cT.mode]) hq
 cases e with
 | normal=>exact ret hq
 | ret=>exact ret hq
 | panic ch=>
  unfold De at hq;split at hq
  ·rename_i e;cases e
  ·rename_i e;cases e
  ·rename_i x e;cases e
   show Leaves P fn a'.tmps _ a'.defers (.panicking [pe x]) w'
   cases v with
   | none=>
    have hv:ds=[]:=hv;subst hv;rw[hs'.def0.eq];exact⟨s'.mem,s'.nx,ρ',hB',hs'.mr,hext,.inr ⟨x,rfl,hq⟩⟩
   | some v=>
    obtain⟨d,rfl,hd⟩:=hv;rw[hs'.def0.eq];exact n9 (B:=nx) (m:=.pan x) hD hs' hB' hd hext (by simp[cT.mode]) hq
  ·exact hq.elim
 | _=>exact(show False from hq).elim
end
end Go.Ax
namespace Go.Ax
open Go
def CI(F:Nat):List Nat->Bool
 | []=>false
 | G::r=>match Nat.beq G F with
  | true=>true
  | false=>CI F r
def FU:List Oper->Bool
 | []=>false
 | o::r=>match o.op with
  | .defer _=>true
  | _=>FU r
def AK(cl:Bool)(P:Program)(Γ:List (Nat × AV))(H:Hk):Code->St->(Exit->St->Option AV->Prop)->Prop
 | .seq x y,s,Q=>AK cl P Γ H x s fun e s' v=>match e with
  | .normal=>match v with
   | none=>AK cl P Γ H y s' Q
   | some v=>match cU y with
    | false=>oF cl P Γ H y s' fun e s''=>Q e s'' (some v)
    | true=>False
  | e=>Q e s' v
 | .region id ops draw,s,Q=>match FU ops.toList with
  | true=>match draw with
   | false=>xQ P Γ ops.toList ops.toList s fun s' v=>Q .normal s' (some v)
   | true=>False
  | false=>oF cl P Γ H (.region id ops draw) s fun e s'=>Q e s' none
 | c,s,Q=>match cU c with
  | false=>oF cl P Γ H c s fun e s'=>Q e s' none
  | true=>False
theorem An{cl:Bool}{P:Program}{Γ:List (Nat × AV)}{H:Hk}(hH:∀B,mX P Γ B H)(B:Nat):∀(c:Code) (s:St) (Q:Exit->St->Option AV->Prop),AK cl P Γ H c s Q->oX P Γ B c s Q:=by
 intro c
 induction c with
 | seq x y ihx ihy=>
  intro s Q h;simp only[AK] at h;refine oX.seq ?_;obtain⟨h'⟩:=ihx s _ h;refine⟨fun X D ρ a w hD hs hB=>Go.wp_mono (h' X D ρ a w hD hs hB) ?_⟩;rintro e a' w' ⟨s',v,ds,ρ',hq,rest⟩;refine⟨s',v,ds,ρ', ?_,rest⟩;cases e with
  | normal=>
   cases v with
   | none=>exact ihy s' Q hq
   | some v=>
    simp only at hq;split at hq
    ·rename_i hr;exact⟨hr,bP (hH s'.nx) y s' _ hq⟩
    ·exact hq.elim
  | exit i=>exact hq
  | goto l=>exact hq
  | ret=>exact hq
  | panic c=>exact hq
  | outgrown=>exact hq
 | region id ops draw=>
  intro s Q h;simp only[AK] at h;split at h
  ·split at h
   ·exact oX.region h
   ·exact h.elim
  ·exact .of rfl (bP (hH B) _ _ _ h)
 | _=>
  intro s Q h;simp only[AK] at h;split at h
  ·rename_i hr;exact .of hr (bP (hH B) _ _ _ h)
  ·exact h.elim
def zY(P:Program)(Γ:List (Nat × AV))(H:Hk)(args:List AV)(mem:aA)(nx:Nat)(K:AV->aA->Nat->Prop):Prop:=
 match args with
 | .yld id::rest=>fL (lk mem id) fun b=>match b with
  | .loop sl nt ps ca cb st pd=>match cU ca with
   | false=>match cU cb with
    | false=>fL (pK nt ps.toList rest sl) fun sl'=>oF true P Γ H ca ⟨sl',mem,nx,nt⟩ fun e s1=>match e with
     | .normal=>vW s1 fun sl1 m1 n1 t1=>fL (lk m1 id) fun b1=>match b1 with
      | .loop sl nt ps ca cb' .ready pd=>y7 m1 id (.loop sl nt ps ca cb' .busy pd) fun m2=>oF true P Γ H cb ⟨sl1,m2,n1,t1⟩ fun e s3=>vW s3 fun _ m3 n3 _=>fL (lk m3 id) fun b3=>match b3 with
       | .loop sl nt ps ca cb _ _=>match e with
        | .normal=>y7 m3 id (.loop sl nt ps ca cb .ready none) fun m=>K (.bool true) m n3
        | .ret=>y7 m3 id (.loop sl nt ps ca cb .done (some .ret)) fun m=>K (.bool false) m n3
        | .exit i=>y7 m3 id (.loop sl nt ps ca cb .done (some (.exit i))) fun m=>K (.bool false) m n3
        | _=>False
       | _=>False
      | _=>False
     | _=>False
    | true=>False
   | true=>False
  | _=>False
 | _=>False
theorem vC{P:Program}{Γ:List (Nat × AV)}{H:Hk}(hH:∀B,mX P Γ B H){args:List AV}{mem:aA}{nx:Nat}{K:AV->aA->Nat->Prop}{Kp:Value->aA->Nat->Prop}(h:zY P Γ H args mem nx K):bZ P Γ YF args mem nx K Kp:=by
 unfold zY at h;split at h<;>first|exact h.elim|skip
 obtain⟨b,h1,h⟩:=aN.1 h;split at h<;>first|exact h.elim|skip
 split at h<;>first|exact h.elim|skip
 rename_i ha;split at h<;>first|exact h.elim|skip
 rename_i hb;obtain⟨sl',h2,h⟩:=aN.1 h;refine bZ.round h1 h2 ha hb ((bP (hH nx) _ _ _ h).mono fun e s1 h=>?_);unfold Fy;split at h<;>first|exact h.elim|skip
 obtain⟨b1,h3,h⟩:=aN.1 (fY.1 h);simp only[h3];split at h<;>first|exact h.elim|skip
 refine(bP (hH nx) _ _ _ (eG.1 h)).mono fun e s3 h=>?_
 unfold F3;obtain⟨b3,h4,h⟩:=aN.1 (fY.1 h);simp only[h4];split at h<;>first|exact h.elim|skip
 split at h
 ·exact eG.1 h
 ·exact eG.1 h
 ·exact eG.1 h
 ·exact h.elim
end Go.Ax
namespace Go.Ax
open Go
section
variable {P:Program} {Γ:List (Nat × AV)} {B:Nat}
structure Iv(P:Program)(Γ:List (Nat × AV))(B:Nat)(ops l:List Oper)(s:St)(K:St->Prop)(Kp:Value->St->Prop):Prop where
 run:mM P Γ (CL P Γ B) ops l s K Kp
structure I6(P:Program)(Γ:List (Nat × AV))(B:Nat)(ops:List Oper)(tr:List (List Nat))(base:Nat)(K:St->Prop)(Kp:Value->aA->Nat->Prop)(l:List Nat)(recs:List qK)(s:St):Prop where
 run:hY P Γ (CL P Γ B) ops tr base K Kp l recs s
end
end Go.Ax
namespace Go.Ax
open Go
theorem aS.frz{P:Program}{Γ:List (Nat × AV)}{F:FuncId}{args as:List AV}{r:AV}{mem:aA}{nx:Nat}{K:AV->aA->Nat->Prop}(h:aS P Γ F as r)(ids:List Nat)(hΓ:∀p∈Γ,NN p.2)(hargs:mV (iH ids mem) [] args as)(hr:NN r)(hk:K r (fO ids mem) nx) :
  aC P Γ F args mem nx K:=by
 refine⟨fun X D ρ w vs hD hm hv=>?_⟩;refine(aC.use (K:=K) (nx:=nx) hΓ h [] (m1:=iH ids mem) (rest:=fO ids mem) ⟨fun p hp'=>(bW.1 hp').1,fun p hp'=>(bE.1 hp').1,fun p hp'=>?_,fun p h1 q h2=>?_, ?_⟩ ?_ hargs (fun p hp=>by cases hp) (by simp) (fun i j k h=>by simp[lk] at h) (fun id i hl=>by simp[lk] at hl) ?_).run X D ρ w vs hD hm hv
 ·cases hi:tD p.1 ids with
  | true=>left;exact bW.2 ⟨hp',hi⟩
  | false=>right;exact bE.2 ⟨hp',hi⟩
 ·have a:=(bW.1 h1).2;have b:=(bE.1 h2).2;intro e;rw[e,b] at a;cases a
 ·exact hm.nod.sublist ((f8 mem).map _)
 ·exact hm.nod.sublist ((f9 mem).map _)
 ·rintro r' m n ⟨rfl,rfl,rfl⟩ _;exact⟨[],r',[],nx,JG _,.same r' hr,(fun p hp=>by cases hp),by simp,(fun i j k h=>by simp[lk] at h),(fun i id hl=>by simp[lk] at hl),(fun p hp=>by cases hp),hk⟩
end Go.Ax
