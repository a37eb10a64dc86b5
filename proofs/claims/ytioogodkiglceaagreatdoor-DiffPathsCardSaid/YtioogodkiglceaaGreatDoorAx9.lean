/- A part of the proof. -/
import Derived.Test.YtioogodkiglceaaGreatDoorAx8
import Derived.Below
import Derived.Lib.ConvBytes
import Derived.Lib.ItoaMem
import Derived.ChangeMaps5
import Derived.Lib.LaidTab
import Derived.Lib.ItoaNum
set_option linter.unusedVariables false
set_option linter.unusedSimpArgs false
set_option linter.unusedSectionVars false
namespace Go.Ax
open Go
theorem nn {v:AV} (h:NN v:=by
  repeat' first
   | assumption
   | exact NN.int _ _
   | exact NN.bool _
   | exact NN.str _
   | exact NN.nsl
   | exact NN.nptr
   | exact NN.nif
   | exact NN.nfn
   | exact NN.nmap
   | exact NN.junk
   | exact bN _
   | exact aO _
   | exact aM _
   | exact jZ.nil
   | refine jZ.cons ?_ ?_
   | refine NN.agg' ?_
   | refine NN.tup' ?_
   | refine NN.il' ?_
   | refine NN.ip' ?_
   | refine NN.ifc _ _ ?_
   | exact NN.fn _ _ _ (by simp) (by simp)):NN v:=h
theorem dE {l:List AV} (h:jZ l:=by
  repeat' first
   | assumption
   | exact NN.int _ _
   | exact NN.bool _
   | exact NN.str _
   | exact NN.nsl
   | exact NN.nptr
   | exact NN.nif
   | exact NN.nfn
   | exact NN.nmap
   | exact NN.junk
   | exact bN _
   | exact aO _
   | exact aM _
   | exact jZ.nil
   | refine jZ.cons ?_ ?_
   | refine NN.agg' ?_
   | refine NN.tup' ?_
   | refine NN.il' ?_
   | refine NN.ip' ?_
   | refine NN.ifc _ _ ?_
   | exact NN.fn _ _ _ (by simp) (by simp)):jZ l:=h
section
variable {P:Program} {Γ:List (Nat × AV)} {F:FuncId} {args:List AV} {r:AV} {mem:aP} {nx:Nat} {K:AV->aP->Nat->Prop}
theorem bB.go(h:bB P [] F args r)(hk:K r mem nx)(ha:jZ args:=by exact dE)(hr:NN r:=by exact nn):aH P [] F args mem nx K:=h.use bG ha hr hk
theorem aH.go0{Qs:AV->aP->Nat->Prop}(h:aH P [] F args [] 0 Qs)(hk:∀r m n,Qs r m n->∃r',Cv m [] r r'/\K r' mem nx)(ha:jZ args:=by exact dE):aH P [] F args mem nx K:=
 aH.call0 bG h ha hk
end
theorem aH.glob{P:Program}{Γ:List (Nat × AV)}{F:FuncId}{args:List AV}{mem:aP}{nx:Nat}{Q:AV->aP->Nat->Prop}(h:aH P [] F args mem nx Q):aH P Γ F args mem nx Q:=by
 refine⟨fun X D ρ w vs hD hm hv=>?_⟩;refine(h.run X D ρ w vs hD ⟨hm.low,hm.blk,hm.emp,hm.inj,hm.nod,hm.bar,(fun p hp=>by cases hp)⟩ hv).mono ?_;rintro e w' ⟨r,v,m,n,ρ',h1,h2,h3,h4,h5,h6⟩;exact⟨r,v,m,n,ρ',h1,h2,h3,⟨h4.low,h4.blk,h4.emp,h4.inj,h4.nod,h4.bar,fun p hp=>h6.vr (hm.glo p hp)⟩,h5,h6⟩
def HV:List (Nat × Nat)->Bool
 | []=>true
 | (i,j)::r=>Nat.beq i j && HV r
theorem u7:∀{σ:List (Nat × Nat)},HV σ=true->∀p∈σ,p.1=p.2
 | [],h,p,hp=>by cases hp
 | (i,j)::r,h,p,hp=>by
  simp only[HV,VZ] at h;rcases Vg.1 hp with rfl|hp
  ·exact Nat.eq_of_beq_eq_true h.1
  ·exact u7 h.2 p hp
theorem aH.pre{P:Program}{Γ:List (Nat × AV)}{F:FuncId}{args args':List AV}{mem mem':aP}{nx:Nat}{K:AV->aP->Nat->Prop}(hΓ:∀p∈Γ,NN p.2)(σ:List (Nat × Nat))(hid:(HV σ && jX mem')=true)
  (hM:cN mem σ mem') (hargs:kU mem σ args args') (h:aH P Γ F args' mem' nx K):aH P Γ F args mem nx K:=by
 simp only[VZ] at hid;have hid1:=u7 hid.1;have hnod:=d7 hid.2;refine⟨fun X D ρ w vs hD hm hv=>?_⟩;have hσ:∀id id',lk σ id=some id'->D id->D id'/\ρ id'=ρ id:=by
  intro id id' h hd;have:=hid1 _ (bI h);simp only at this;subst this;exact⟨hd,rfl⟩
 have hinj:JI σ:=fun i j k h1 h2=>by
  have a:=hid1 _ (bI h1);have b:=hid1 _ (bI h2);simp only at a b;omega
 obtain⟨m1,v1,o1⟩:=hm.turn (D':=D) (ρ':=ρ) hΓ hσ hM.cvm hnod hinj;have hvs:jR ρ D (OX X ρ mem') w args' vs:=⟨by rw[←hargs.1];exact hv.1,fun j c' x hc' hx=>by
   obtain⟨c,hc⟩:=dH hargs.1 hc';exact v1 c c' (hargs.2 j c c' hc hc') _ (hv.2 j c x hc hx)⟩
 refine(h.run X D ρ w vs hD m1 hvs).mono ?_;rintro e w' ⟨r,v,m,n,ρ',h1,h2,h3,h4,h5,h6⟩;refine⟨r,v,m,n,ρ',h1,h2,h3,h4,h5, ?_⟩;have e0:Ext D ρ mem w ρ D mem' w:=⟨fun i hi=>hi,fun _ _=>rfl,Vh _,fun _ _ _=>rfl,fun p hp hn=>.inl (o1 p hp hn),.refl _⟩
 exact e0.trans h6
theorem bT{l:List a6}{k:Nat}(h:k<l.length):∃a b c d,a6.mk a b c d∈l/\l[k]? = some (a6.mk a b c d)/\l[k]=a6.mk a b c d/\(aQ l)[(k:Int).toNat]? = some (bS (a6.mk a b c d)):=by
 obtain⟨⟨a,b,c,d⟩,hv⟩:∃v,v=l[k]:=⟨_,rfl⟩
 have e:=u5 h;rw[←hv] at e;exact⟨a,b,c,d,by rw[hv];exact Vw h,by rw[hv];exact VV h,hv.symm,e⟩
section
variable {mem:aP} {σ:List (Nat × Nat)}
theorem Cv.int{k:IntKind}{a b:Int}(h:a=b):Cv mem σ (.int k a) (.int k b):=by rw[h];exact .same _ (.int _ _)
theorem Cv.w64{x y:Int}(h:x=y)(hb:i64 y):Cv mem σ (.int .i64 (IntKind.i64.wrap x)) (.int .i64 y):=by rw[h,cV hb];exact .same _ (.int _ _)
theorem Cv.wo{x y:Int}(h:x=y:=by omega)(h1 : -9223372036854775808<=y:=by omega)(h2:y<=9223372036854775807:=by omega):Cv mem σ (.int .i64 (IntKind.i64.wrap x)) (.int .i64 y):=.w64 h ⟨h1,h2⟩
theorem Cv.wp{x y:Int}(h:x=y:=by simp only;omega)(h1 : -9223372036854775808<=y:=by simp only;omega)(h2:y<=9223372036854775807:=by simp only;omega):Cv mem σ (.int .i64 (IntKind.i64.wrap x)) (.int .i64 y):=.w64 h ⟨h1,h2⟩
theorem aF{sl:List (Nat × AV)}{i:Nat}{v:AV}(h:lk sl i=some v:=by rfl)(hn:NN v:=by exact nn):∃w,lk sl i=some w/\Cv mem σ w v:=⟨v,h,.same v hn⟩
theorem kU.s{v:AV}{as bs:List AV}(hs:kU mem σ as bs)(hn:NN v:=by exact nn):kU mem σ (v::as) (v::bs):=.cons (.same v hn) hs
theorem aU{α:Type}{a:α}{q:Prop}(h:q):a=a/\q:=⟨rfl,h⟩
theorem aJ{sl:List (Nat × AV)}{i id id' x y:Nat}(h:lk sl i=some (.ptr id x y):=by rfl)(h2:lk σ id=some id':=by rfl):∃w,lk sl i=some w/\Cv mem σ w (.ptr id' x y):=⟨_,h,.ptr id id' x y h2⟩
theorem aR{sl:List (Nat × AV)}{i:Nat}{v:AV}(hn:NN v)(h:lk sl i=some v:=by rfl):∃w,lk sl i=some w/\Cv mem σ w v:=⟨v,h,.same v hn⟩
theorem aL{t:TypeId}{sz p:Nat}{ys:List AV}(id:Nat)(hn:jZ ys)(h1:lk σ id=some p:=by rfl)(h2:lk mem id=some (.row t sz ys):=by rfl):∃id xs,lk σ id=some p/\lk mem id=some (.row t sz xs)/\tE mem σ xs ys:=⟨id,ys,h1,h2,.same hn⟩
theorem Rs{p q:Prop}(x:q)(e:q->p:=by(intro x;(repeat((first|refine bR.2 ?_|refine aU ?_);((conv=>whnf);(repeat(refine Xg ?_;conv=>whnf)))));exact x)):p:=e x
theorem Rt{p q:Prop}(x:q)(e:q->p:=by(intro x;(conv=>whnf);(repeat(refine Xg ?_;conv=>whnf));(repeat((first|refine bR.2 ?_|refine aU ?_);((conv=>whnf);(repeat(refine Xg ?_;conv=>whnf)))));exact x)):p:=e x
theorem Cv.bool{a b:Bool}(h:a=b):Cv mem σ (.bool a) (.bool b):=by rw[h];exact .same _ (.bool _)
theorem uV(k n:Int)(s:List UInt8):I1 mem σ (.agg [.int .i64 k,.int .i64 n,.str s,.nsl]) (bS (.mk k n s [])):=
 .agg (.cons (.same _ (.int _ _)) (.cons (.same _ (.int _ _)) (.cons (.same _ (.str _)) (.cons (.nil 4) .nil))))
end
theorem fY(l:List a6)(v:a6):aQ (l++[v])=aQ l++[bS v]:=by simp[fX]
theorem w64{x y:Int}(h:x=y)(hb:i64 y):IntKind.i64.wrap x=y:=by rw[h,cV hb]
theorem G7{l:List a6}{k:Nat}(h:decide ((k:Int)<((aQ l).length:Nat))=true):k<l.length:=by rw[aB] at h;simpa using h
theorem IJ{l:List a6}{k:Nat}(h:decide ((k:Int)<((aQ l).length:Nat))=false):l.length<=k:=by rw[aB] at h;simpa using h
theorem Cv.fzR{mem:aP}{σ:List (Nat × Nat)}{id len:Nat}{t:TypeId}{sz:Nat}{xs ys:List AV}(h1:lk mem id=some (.row t sz xs))(h2:lk σ id=none)(h3:tE mem σ xs ys)(h4:ys.length=len):Cv mem σ (.sl id 0 len) (.il sz ys):=
 .fz id 0 len t sz xs ys h1 h2 (by have:=h3.1;omega) h4 (fun i x y hx hy=>(h3.2 i x y (by simpa using hx) hy).1) (fun i x y j c c' hx hy hc hc'=>(h3.2 i x y (by simpa using hx) hy).2 j c c' hc hc')
section
variable {P:Program} {Γ:List (Nat × AV)} {F:FuncId} {args:List AV} {r:AV} {mem:aP} {nx:Nat} {K:AV->aP->Nat->Prop}
theorem bB.goG(h:bB P [] F args r)(hk:K r mem nx)(ha:jZ args:=by exact dE)(hr:NN r:=by exact nn):aH P Γ F args mem nx K:=(h.use bG ha hr hk).glob
theorem aH.goG0{Qs:AV->aP->Nat->Prop}(h:aH P [] F args [] 0 Qs)(hk:∀r m n,Qs r m n->∃r',Cv m [] r r'/\K r' mem nx)(ha:jZ args:=by exact dE):aH P Γ F args mem nx K:=
 (aH.call0 bG h ha hk).glob
end
theorem P2{l:List a6}{k n:Nat}(h:k<l.length)(hn:l.length=n):∃a b c d,a6.mk a b c d∈l/\l[k]? = some (a6.mk a b c d)/\l[k]=a6.mk a b c d/\(aQ l)[0+(k:Int).toNat]? = some (bS (a6.mk a b c d))/\Nat.blt (k:Int).toNat n=true:=by
 obtain⟨a,b,c,d,h1,h2,h3,h4⟩:=bT h;exact⟨a,b,c,d,h1,h2,h3,by rw[V0];exact h4,Vc (by simp;omega)⟩
end Go.Ax
namespace Go.Ax
open Go
section
variable {P:Program} {Γ:List (Nat × AV)} {B:Nat}
structure bC(P:Program)(Γ:List (Nat × AV))(B:Nat)(c:Code)(s:St)(Q:Exit->St->Prop):Prop where
 run:eD P Γ B (.loop c) s Q
def JB(P:Program)(Γ:List (Nat × AV))(B:Nat)(y:Code)(Q:Exit->St->Prop)(e:Exit)(s:St):Prop:=
 match e with
 | .normal=>eD P Γ B y s Q
 | e=>Q e s
def Bi(id:Nat)(Q:Exit->St->Prop)(e:Exit)(s:St):Prop:=
 match e with
 | .exit i=>match Nat.beq i id with
  | true=>Q .normal s
  | false=>Q (.exit i) s
 | e=>Q e s
theorem Bs{ops:List Oper}{K:St->Prop}{Kp:Value->St->Prop}:∀{l:List Oper} {s:St},wL P Γ (En P Γ B) ops l s K (fun _ _=>False)->wL P Γ (En P Γ B) ops l s K Kp
 | [],s,h=>h
 | o::r,s,h=>by
  simp only[wL] at h ⊢;split
  ·rename_i h1;simp only[h1] at h
  ·rename_i h1;simp only[h1] at h;split
   ·rename_i h2;simp only[h2] at h;exact Bs h
   ·rename_i h2;simp only[h2] at h
  ·rename_i h1;simp only[h1] at h;split
   ·rename_i h2;simp only[h2] at h;split
    ·rename_i h3;simp only[h3] at h;exact Bs h
    ·rename_i h3;simp only[h3] at h
   ·rename_i h2;simp only[h2] at h;split
    ·rename_i h3;simp only[h3] at h;refine aH.mono h fun v m n h=>?_
     split
     ·rename_i h4;simp only[h4] at h;exact Bs h
     ·rename_i h4;simp only[h4] at h
    ·rename_i h3;simp only[h3] at h;split at h<;>exact h.elim
theorem vY{ops:List Oper}{tr:List (List Nat)}{base:Nat}{K:St->Prop}{Kp:Value->aP->Nat->Prop}:∀{l:List Nat} {recs:List AT} {s:St},pW P Γ (En P Γ B) ops tr base K (fun _ _ _=>False) l recs s->pW P Γ (En P Γ B) ops tr base K Kp l recs s
 | [],recs,s,h=>h
 | i::r,recs,s,h=>by
  simp only[pW] at h ⊢;split
  ·rename_i h1;simp only[h1] at h
  ·rename_i o h1;simp only[h1] at h;split
   ·rename_i h2;simp only[h2] at h
   ·rename_i h2;simp only[h2] at h;split
    ·rename_i h3;simp only[h3] at h;exact vY h
    ·rename_i h3;simp only[h3] at h
   ·rename_i h2;simp only[h2] at h;split
    ·rename_i hk;simp only[hk] at h;split
     ·rename_i h3;simp only[h3] at h;split
      ·rename_i h4;simp only[h4] at h;exact vY h
      ·rename_i h4;simp only[h4] at h
     ·rename_i h3;simp only[h3] at h
    ·rename_i hk;simp only[hk] at h;split
     ·rename_i h3;simp only[h3] at h;split
      ·rename_i h4;simp only[h4] at h;exact vY h
      ·rename_i h4;simp only[h4] at h
     ·rename_i h3;split at h
      ·rename_i h4;exact(h3 _ _ _ _ h4).elim
      ·exact h
    ·rename_i hk;simp only[hk] at h;split
     ·rename_i h3;simp only[h3] at h;split
      ·rename_i h4;simp only[h4] at h;exact⟨h.1,vY h.2⟩
      ·rename_i h4;simp only[h4] at h
     ·rename_i h3;simp only[h3] at h;split
      ·rename_i h4;simp only[h4] at h;refine aH.mono h fun v m n h=>?_
       split
       ·rename_i h5;simp only[h5] at h;exact⟨h.1,vY h.2⟩
       ·rename_i h5;simp only[h5] at h
      ·rename_i h4;simp only[h4] at h
structure nH(P:Program)(Γ:List (Nat × AV))(B:Nat)(ops l:List Oper)(s:St)(K:St->Prop):Prop where
 run:wL P Γ (En P Γ B) ops l s K fun _ _=>False
def VO(P:Program)(Γ:List (Nat × AV))(B:Nat)(ops l:List Oper)(s:St)(K:St->Prop):Prop:=
 match l with
 | []=>K s
 | o::r=>Dw s fun sl mem nx nt=>pK ops sl o.guard
   (EA false P Γ (En P Γ B) sl mem nx o.op (fun v mem nx=>kT s o.dst v mem nx fun s'=>nH P Γ B ops r s' K) fun _ _ _=>False)
   (kT s o.dst (.tup []) mem nx fun s'=>nH P Γ B ops r s' K)
theorem nH.go{ops l:List Oper}{s:St}{K:St->Prop}(h:VO P Γ B ops l s K):nH P Γ B ops l s K:=by
 refine⟨?_⟩;cases l with
 | nil=>exact h
 | cons o r=>
  have h:pK ops s.sl o.guard (EA false P Γ (En P Γ B) s.sl s.mem s.nx o.op (fun v mem nx=>kT s o.dst v mem nx fun s'=>nH P Γ B ops r s' K) fun _ _ _=>False) (kT s o.dst (.tup []) s.mem s.nx fun s'=>nH P Γ B ops r s' K):=h;simp only[wL];rcases sR h with⟨h1,h⟩|⟨h1,h⟩
  ·simp only[h1];rcases Av h with⟨v,m,n,h2,h⟩|⟨h2,F,l,h3,h⟩
   ·obtain⟨s',h4,h⟩:=eC h;simp only[h2,h4];exact h.run
   ·simp only[h2,h3];refine(show aH P Γ F l s.mem s.nx _ from h).mono fun v m n h=>?_
    obtain⟨s',h4,h⟩:=eC h;simp only[h4];exact h.run
  ·obtain⟨s',h4,h⟩:=eC h;simp only[h1,h4];exact h.run
structure MU(P:Program)(Γ:List (Nat × AV))(B:Nat)(ops:List Oper)(tr:List (List Nat))(base:Nat)(K:St->Prop)(l:List Nat)(recs:List AT)(s:St):Prop where
 run:pW P Γ (En P Γ B) ops tr base K (fun _ _ _=>False) l recs s
def U5(P:Program)(Γ:List (Nat × AV))(B:Nat)(ops:List Oper)(tr:List (List Nat))(base:Nat)(K:St->Prop)(l:List Nat)(recs:List AT)(s:St):Prop:=
 match l with
 | []=>K s
 | i::r=>match ops[i]? with
  | none=>False
  | some o=>Dw s fun sl mem nx nt=>pK ops sl o.guard
   (match kind P o.op with
    | .pure=>match still o.op with
     | true=>p7 false P Γ sl [] nx o.op fun v _ _=>kT s o.dst v mem nx fun s'=>MU P Γ B ops tr base K r (⟨i,sl,true,v⟩::recs) s'
     | false=>gC (fun p=>Gp tr base ops.length i p.1) mem fun m=>p7 false P Γ sl m nx o.op fun v _ _=>kT s o.dst v mem nx fun s'=>MU P Γ B ops tr base K r (⟨i,sl,true,v⟩::recs) s'
    | .al=>pD (base+i) fun id=>p7 false P Γ sl [] id o.op fun v m _=>match m with
     | [(_,b)]=>kT s o.dst v ((id,b)::mem) nx fun s'=>MU P Γ B ops tr base K r (⟨i,sl,true,v⟩::recs) s'
     | _=>False
    | .eff=>gC (fun p=>Gp tr base ops.length i p.1) mem fun m=>EA false P Γ (En P Γ B) sl m nx o.op (fun v m nx'=>gC (fun p=>!Gp tr base ops.length i p.1) mem fun rest=>gC (fun p=>!sP p.1 m) rest fun rest=>AO m rest fun m=>
      kT s o.dst v m nx' fun s'=>rH false P Γ ops tr base i m nx' recs (MU P Γ B ops tr base K r recs s')) fun _ _ _=>False)
   (kT s o.dst (.tup []) mem nx fun s'=>MU P Γ B ops tr base K r (⟨i,sl,false,.tup []⟩::recs) s')
theorem MU.go{ops:List Oper}{tr:List (List Nat)}{base:Nat}{K:St->Prop}{l:List Nat}{recs:List AT}{s:St}(h:U5 P Γ B ops tr base K l recs s):MU P Γ B ops tr base K l recs s:=by
 refine⟨?_⟩;cases l with
 | nil=>exact h
 | cons i r=>
  simp only[U5] at h;simp only[pW];split at h
  ·exact h.elim
  ·rename_i o ho;simp only[ho];have h:=mD.1 h;rcases sR h with⟨h1,h⟩|⟨h1,h⟩
   ·simp only[h1];split at h
    ·rename_i hkd;simp only[hkd];split at h
     ·rename_i hst;obtain⟨v,m,n,h2,h⟩:=kJ (s:={ sl:=s.sl,mem:=[],nx:=s.nx,nt:=s.nt }) h;obtain⟨m',n',h2'⟩:=qF (s:={ sl:=s.sl,mem:=[],nx:=s.nx,nt:=s.nt }) (s':={ s with mem:=fH tr base ops.length i s.mem }) hst rfl h2;obtain⟨s',h3,h⟩:=eC h;simp only[h2',h3];exact h.run
     ·have h:=cK.1 h;obtain⟨v,m,n,h2,h⟩:=kJ (s:={ s with mem:=fH tr base ops.length i s.mem }) h;obtain⟨s',h3,h⟩:=eC h;simp only[h2,h3];exact h.run
    ·rename_i hkd;simp only[hkd];have h:=dY.1 h;obtain⟨v,m,n,h2,h⟩:=kJ (s:={ s with mem:=[],nx:=base+i }) h;simp only[h2];split at h
     ·obtain⟨s',h3,h⟩:=eC h;simp only[h3];exact h.run
     ·exact h.elim
    ·rename_i hkd;simp only[hkd];have h:=cK.1 h;rcases Av (s:={ s with mem:=fH tr base ops.length i s.mem }) h with⟨v,m,n,h2,h⟩|⟨h2,F,l,h3,h⟩
     ·simp only[h2];have h:=fN.1 (cK.1 (cK.1 h));obtain⟨s',h3,h⟩:=eC h;have h3:eO s o.dst v (m++qJ m (fR tr base ops.length i s.mem)) n=some s':=h3;simp only[h3];obtain⟨e1,e2,_⟩:=fP h3;have h:rH false P Γ ops tr base i (m++qJ m (fR tr base ops.length i s.mem)) n recs (MU P Γ B ops tr base K r recs s'):=h;rw[←e1,←e2] at h;obtain⟨h4,h⟩:=n8 h;exact⟨h4,h.run⟩
     ·rw[p9 (s':=s) (fun x _=>by cases x<;>rfl)] at h3;simp only[h2,h3];refine(show aH P Γ F l _ _ _ from h).mono fun v m n h=>?_
      have h:=fN.1 (cK.1 (cK.1 h));obtain⟨s',h3,h⟩:=eC h;have h3:eO s o.dst v (m++qJ m (fR tr base ops.length i s.mem)) n=some s':=h3;simp only[h3];obtain⟨e1,e2,_⟩:=fP h3;have h:rH false P Γ ops tr base i (m++qJ m (fR tr base ops.length i s.mem)) n recs (MU P Γ B ops tr base K r recs s'):=h;rw[←e1,←e2] at h;obtain⟨h4,h⟩:=n8 h;exact⟨h4,h.run⟩
   ·obtain⟨s',h3,h⟩:=eC h;simp only[h1,h3];exact h.run
def SG(P:Program)(Γ:List (Nat × AV))(B:Nat)(ops:List Oper)(s:St)(Q:Exit->St->Prop):Prop:=
 match P.follows .mixedOrders with
 | true=>match At P ops (uS P ops ops.length [] (xV ops.length)) with
  | true=>Dw s fun sl mem nx nt=>pD (nx+ops.length) fun n=>uM (uS P ops ops.length [] (xV ops.length)) fun ord=>MU P Γ B ops (KJ ops []) nx (fun s'=>Q .normal s') ord [] ⟨sl,mem,n,nt⟩
  | false=>False
 | false=>False
def TB(Q:Exit->St->Prop)(e:Exit)(s:St):Prop:=
 match e with
 | .goto _=>False
 | e=>Q e s
def RU(P:Program)(Γ:List (Nat × AV))(B:Nat)(c:Code)(s:St)(Q:Exit->St->Prop):Prop:=
 match c with
 | .skip=>Q .normal s
 | .seq x y=>eD P Γ B x s (JB P Γ B y Q)
 | .cond c x y=>Dw s fun sl _ _ _=>lQ Γ sl c fun v=>match v with
  | .bool b=>MV b (eD P Γ B x s Q) (eD P Γ B y s Q)
  | _=>False
 | .block id c=>eD P Γ B c s (Bi id Q)
 | .loop c=>bC P Γ B c s Q
 | .label _=>Q .normal s
 | .scope c=>eD P Γ B c s (TB Q)
 | .exit i=>Q (.exit i) s
 | .ret=>Q .ret s
 | .region _ ops draw=>match draw with
  | false=>nH P Γ B ops.toList ops.toList s fun s'=>Q .normal s'
  | true=>SG P Γ B ops.toList s Q
 | .rangeFunc g ps ca cb=>AE false P Γ (En P Γ B) (.rangeFunc g ps ca cb) s Q
 | _=>False
theorem eD.go{c:Code}{s:St}{Q:Exit->St->Prop}(h:RU P Γ B c s Q):eD P Γ B c s Q:=by
 cases c with
 | skip=>exact eH (cl:=false) rT .skip s Q h
 | exit i=>exact eH (cl:=false) rT (.exit i) s Q h
 | ret=>exact eH (cl:=false) rT .ret s Q h
 | loop c=>exact(show bC P Γ B c s Q from h).run
 | label l=>exact eH (cl:=false) rT (.label l) s Q h
 | rangeFunc g ps ca cb=>exact eH (cl:=false) rT (.rangeFunc g ps ca cb) s Q h
 | scope c=>
  have h:eD P Γ B c s (TB Q):=h;refine⟨fun rd X ds D ρ a w hD hs hB hr=>CG (wpIn_mono (h.run rd X ds D ρ a w hD hs hB hr.scope) ?_)⟩;rintro e a' w' ⟨s',ρ',hq,hB',hs',hext⟩;cases e with
  | goto l=>exact(show False from hq).elim
  | normal=>exact⟨s',ρ',hq,hB',hs',hext⟩
  | exit i=>exact⟨s',ρ',hq,hB',hs',hext⟩
  | ret=>exact⟨s',ρ',hq,hB',hs',hext⟩
  | panic c=>exact⟨s',ρ',hq,hB',hs',hext⟩
  | outgrown=>exact⟨s',ρ',hq,hB',hs',hext⟩
 | seq x y=>
  have h:eD P Γ B x s (JB P Γ B y Q):=h;refine⟨fun rd X ds D ρ a w hD hs hB hr=>wpIn_seq (wpIn_mono (h.run rd X ds D ρ a w hD hs hB hr.seq1) ?_)⟩;rintro e a' w' ⟨s',ρ',hq,hB',hs',hext⟩;cases e with
  | normal=>
   refine wpIn_mono ((show eD P Γ B y s' Q from hq).run rd X ds D ρ' a' w' hD hs' hB' hr.seq2) ?_;rintro e a2 w2 ⟨s2,ρ2,h1,h2,h3,h4⟩;exact⟨s2,ρ2,h1,h2,h3,hext.trans h4⟩
  | exit i=>exact⟨s',ρ',hq,hB',hs',hext⟩
  | goto l=>exact⟨s',ρ',hq,hB',hs',hext⟩
  | ret=>exact⟨s',ρ',hq,hB',hs',hext⟩
  | panic c=>exact⟨s',ρ',hq,hB',hs',hext⟩
  | outgrown=>exact⟨s',ρ',hq,hB',hs',hext⟩
 | cond c x y=>
  have h:lQ Γ s.sl c fun v=>match v with
   | .bool b=>MV b (eD P Γ B x s Q) (eD P Γ B y s Q)
   | _=>False:=h
  obtain⟨v,h1,h⟩:=cH h;split at h
  ·rename_i b;refine⟨fun rd X ds D ρ a w hD hs hB hr=>?_⟩;have hv:=aZ hs h1;generalize he:a.eval c=cv at hv;cases hv;cases b with
   | true=>exact wpIn_cond_true he ((show eD P Γ B x s Q from h).run rd X ds D ρ a w hD hs hB hr.cond1)
   | false=>exact wpIn_cond_false he ((show eD P Γ B y s Q from h).run rd X ds D ρ a w hD hs hB hr.cond2)
  ·exact h.elim
 | block id c=>
  have h:eD P Γ B c s (Bi id Q):=h;refine⟨fun rd X ds D ρ a w hD hs hB hr=>wpIn_block (wpIn_mono (h.run rd X ds D ρ a w hD hs hB hr.block) ?_)⟩;rintro e a' w' ⟨s',ρ',hq,hB',hs',hext⟩;cases e with
  | exit i=>
   simp only[Exit.inBlock];simp only[Bi] at hq;split at hq
   ·rename_i hi;rw[Vb (Nat.eq_of_beq_eq_true hi)];exact⟨s',ρ',hq,hB',hs',hext⟩
   ·rename_i hi;rw[VY (WU hi)];exact⟨s',ρ',hq,hB',hs',hext⟩
  | normal=>exact⟨s',ρ',hq,hB',hs',hext⟩
  | goto l=>exact⟨s',ρ',hq,hB',hs',hext⟩
  | ret=>exact⟨s',ρ',hq,hB',hs',hext⟩
  | panic c=>exact⟨s',ρ',hq,hB',hs',hext⟩
  | outgrown=>exact⟨s',ρ',hq,hB',hs',hext⟩
 | region id ops draw=>
  cases draw with
  | false=>exact qZ rT (.region id ops false) s Q (Bs (show nH P Γ B ops.toList ops.toList s _ from h).run)
  | true=>
   refine qZ rT (.region id ops true) s Q ?_;have h:SG P Γ B ops.toList s Q:=h;unfold SG at h;simp only[Ca];split at h
   ·rename_i hmix;simp only[hmix];split at h
    ·rename_i hok;simp only[Fc,hok];exact vY (lK.1 (dY.1 (mD.1 h))).run
    ·exact h.elim
   ·exact h.elim
 | _=>exact(show False from h).elim
theorem aK{F:FuncId}{fn:Func}{c:Code}{args:List AV}{mem:aP}{nx:Nat}{Q:AV->aP->Nat->Prop}(hΓ:∀p∈Γ,NN p.2)(hf:P.funcs[F]? = some fn)(hb:fn.body=some c)
  (h:sJ fn.ntmps args mem nx fun s=>eD P Γ nx c s (Sd P fn.results.toList (kN nx Q))) (hF:Nat.beq F YF=false:=by rfl):aH P Γ F args mem nx Q:=
 (wT hf hb ((jM h).mono fun _ _ h=>Ns h) hF).turn hΓ
def So{α:Type}(B:Nat)(R:α->Prop)(I:α->St)(μ:α->Nat)(x:α)(Q:Exit->St->Prop)(e:Exit)(s:St):Prop:=
 match e with
 | .normal=>HY B R I μ x s
 | e=>Q e s
theorem bC.at{c:Code}{s:St}{Q:Exit->St->Prop}{α:Type}(hΓ:∀p∈Γ,NN p.2)(R:α->Prop)(I:α->St)(μ:α->Nat)(x:α)(σ:List (Nat × Nat))(hx:R x)(h0:Conv B σ s (I x))
  (h:∀x,R x->eD P Γ B c (I x) (So B R I μ x Q)):bC P Γ B c s Q:=by
 refine⟨eD.conv hΓ h0 ?_⟩;refine eD.loop (α:={ x:α // R x }) hΓ (fun x=>I x.1) (fun x=>μ x.1) (fun x=>?_) ⟨x,hx⟩;refine(h x.1 x.2).mono fun e s h=>?_
 cases e with
 | normal=>
  obtain⟨y,σ,hy,hc,hlt⟩:=(show HY B R I μ x.1 s from h)
  exact⟨⟨y,hy⟩,σ,hc,hlt⟩
 | exit i=>exact h
 | goto l=>exact h
 | ret=>exact h
 | panic c=>exact h
 | outgrown=>exact h
theorem bC.ph{c:Code}{s:St}{Q:Exit->St->Prop}(t:TypeId)(sz:Nat)(h:bC P Γ B c ⟨s.sl,(s.nx,.row t sz [])::s.mem,s.nx+1,s.nt⟩ Q):bC P Γ B c s Q:=⟨eD.ph t sz h.run⟩
def F9(P:Program)(Γ:List (Nat × AV))(B:Nat)(ops:List Oper)(K:St->Prop)(next:List Oper->St->Prop)(l:List Oper)(s:St):Prop:=
 match l with
 | []=>K s
 | o::r=>Dw s fun sl mem nx nt=>pK ops sl o.guard
   (EA false P Γ (En P Γ B) sl mem nx o.op (fun v mem nx=>kT s o.dst v mem nx fun s'=>next r s') fun _ _ _=>False)
   (kT s o.dst (.tup []) mem nx fun s'=>next r s')
theorem qK{ops:List Oper}{K:St->Prop}{next:List Oper->St->Prop}(hn:∀r s,next r s->nH P Γ B ops r s K){l:List Oper}{s:St}(h:F9 P Γ B ops K next l s):nH P Γ B ops l s K:=by
 refine⟨?_⟩;cases l with
 | nil=>exact h
 | cons o r=>
  have h:pK ops s.sl o.guard (EA false P Γ (En P Γ B) s.sl s.mem s.nx o.op (fun v mem nx=>kT s o.dst v mem nx fun s'=>next r s') fun _ _ _=>False) (kT s o.dst (.tup []) s.mem s.nx fun s'=>next r s'):=h;simp only[wL];rcases sR h with⟨h1,h⟩|⟨h1,h⟩
  ·simp only[h1];rcases Av h with⟨v,m,n,h2,h⟩|⟨h2,F,l,h3,h⟩
   ·obtain⟨s',h4,h⟩:=eC h;simp only[h2,h4];exact(hn _ _ h).run
   ·simp only[h2,h3];refine(show aH P Γ F l s.mem s.nx _ from h).mono fun v m n h=>?_
    obtain⟨s',h4,h⟩:=eC h;simp only[h4];exact(hn _ _ h).run
  ·obtain⟨s',h4,h⟩:=eC h;simp only[h1,h4];exact(hn _ _ h).run
def QJ(P:Program)(Γ:List (Nat × AV))(B:Nat)(next:Code->St->(Exit->St->Prop)->Prop)(c:Code)(s:St)(Q:Exit->St->Prop):Prop:=
 match c with
 | .seq x y=>next x s (JB P Γ B y Q)
 | .block id c=>next c s (Bi id Q)
 | c=>RU P Γ B c s Q
theorem uU{next:Code->St->(Exit->St->Prop)->Prop}(hn:∀c s Q,next c s Q->eD P Γ B c s Q){c:Code}{s:St}{Q:Exit->St->Prop}(h:QJ P Γ B next c s Q):eD P Γ B c s Q:=by
 cases c with
 | seq x y=>exact eD.go (show RU P Γ B (.seq x y) s Q from hn _ _ _ h)
 | block id c=>exact eD.go (show RU P Γ B (.block id c) s Q from hn _ _ _ h)
 | _=>exact eD.go h
def TP(P:Program)(Γ:List (Nat × AV))(B:Nat)(ops:List Oper)(K:St->Prop)(l:List Oper)(s:St):Prop:=nH P Γ B ops l s K
theorem Pq{ops:List Oper}{K:St->Prop}(l:List Oper)(s:St)(h:TP P Γ B ops K l s):nH P Γ B ops l s K:=h
def Sx(P:Program)(Γ:List (Nat × AV))(B:Nat)(ops:List Oper)(K:St->Prop)(l:List Oper)(s:St):Prop:=F9 P Γ B ops K (TP P Γ B ops K) l s
theorem QN{ops:List Oper}{K:St->Prop}(l:List Oper)(s:St)(h:Sx P Γ B ops K l s):nH P Γ B ops l s K:=qK Pq h
def S0(P:Program)(Γ:List (Nat × AV))(B:Nat)(ops:List Oper)(K:St->Prop)(l:List Oper)(s:St):Prop:=F9 P Γ B ops K (Sx P Γ B ops K) l s
theorem O8{ops:List Oper}{K:St->Prop}(l:List Oper)(s:St)(h:S0 P Γ B ops K l s):nH P Γ B ops l s K:=qK QN h
def TU(P:Program)(Γ:List (Nat × AV))(B:Nat)(ops:List Oper)(K:St->Prop)(l:List Oper)(s:St):Prop:=F9 P Γ B ops K (S0 P Γ B ops K) l s
theorem PL{ops:List Oper}{K:St->Prop}(l:List Oper)(s:St)(h:TU P Γ B ops K l s):nH P Γ B ops l s K:=qK O8 h
def T9(P:Program)(Γ:List (Nat × AV))(B:Nat)(ops:List Oper)(K:St->Prop)(l:List Oper)(s:St):Prop:=F9 P Γ B ops K (TU P Γ B ops K) l s
theorem PD{ops:List Oper}{K:St->Prop}(l:List Oper)(s:St)(h:T9 P Γ B ops K l s):nH P Γ B ops l s K:=qK PL h
def Tp(P:Program)(Γ:List (Nat × AV))(B:Nat)(ops:List Oper)(K:St->Prop)(l:List Oper)(s:St):Prop:=F9 P Γ B ops K (T9 P Γ B ops K) l s
theorem QE{ops:List Oper}{K:St->Prop}(l:List Oper)(s:St)(h:Tp P Γ B ops K l s):nH P Γ B ops l s K:=qK PD h
def To(P:Program)(Γ:List (Nat × AV))(B:Nat)(ops:List Oper)(K:St->Prop)(l:List Oper)(s:St):Prop:=F9 P Γ B ops K (Tp P Γ B ops K) l s
theorem PC{ops:List Oper}{K:St->Prop}(l:List Oper)(s:St)(h:To P Γ B ops K l s):nH P Γ B ops l s K:=qK QE h
def Sm(P:Program)(Γ:List (Nat × AV))(B:Nat)(ops:List Oper)(K:St->Prop)(l:List Oper)(s:St):Prop:=F9 P Γ B ops K (To P Γ B ops K) l s
theorem Pg{ops:List Oper}{K:St->Prop}(l:List Oper)(s:St)(h:Sm P Γ B ops K l s):nH P Γ B ops l s K:=qK PC h
def UJ(P:Program)(Γ:List (Nat × AV))(B:Nat)(ops:List Oper)(K:St->Prop)(l:List Oper)(s:St):Prop:=F9 P Γ B ops K (Sm P Γ B ops K) l s
theorem Pe{ops:List Oper}{K:St->Prop}(l:List Oper)(s:St)(h:UJ P Γ B ops K l s):nH P Γ B ops l s K:=qK Pg h
def S3(P:Program)(Γ:List (Nat × AV))(B:Nat)(ops:List Oper)(K:St->Prop)(l:List Oper)(s:St):Prop:=F9 P Γ B ops K (UJ P Γ B ops K) l s
theorem QZ{ops:List Oper}{K:St->Prop}(l:List Oper)(s:St)(h:S3 P Γ B ops K l s):nH P Γ B ops l s K:=qK Pe h
def M1(P:Program)(Γ:List (Nat × AV))(B:Nat)(ops:List Oper)(K:St->Prop)(l:List Oper)(s:St):Prop:=F9 P Γ B ops K (S3 P Γ B ops K) l s
theorem OL{ops:List Oper}{K:St->Prop}(l:List Oper)(s:St)(h:M1 P Γ B ops K l s):nH P Γ B ops l s K:=qK QZ h
theorem nH.many{ops l:List Oper}{s:St}{K:St->Prop}(h:M1 P Γ B ops K l s):nH P Γ B ops l s K:=OL l s h
def Sv(P:Program)(Γ:List (Nat × AV))(B:Nat)(c:Code)(s:St)(Q:Exit->St->Prop):Prop:=eD P Γ B c s Q
theorem P5(c:Code)(s:St)(Q:Exit->St->Prop)(h:Sv P Γ B c s Q):eD P Γ B c s Q:=h
def S7(P:Program)(Γ:List (Nat × AV))(B:Nat)(c:Code)(s:St)(Q:Exit->St->Prop):Prop:=QJ P Γ B (Sv P Γ B) c s Q
theorem P1(c:Code)(s:St)(Q:Exit->St->Prop)(h:S7 P Γ B c s Q):eD P Γ B c s Q:=uU P5 h
def TO(P:Program)(Γ:List (Nat × AV))(B:Nat)(c:Code)(s:St)(Q:Exit->St->Prop):Prop:=QJ P Γ B (S7 P Γ B) c s Q
theorem PV(c:Code)(s:St)(Q:Exit->St->Prop)(h:TO P Γ B c s Q):eD P Γ B c s Q:=uU P1 h
def Tw(P:Program)(Γ:List (Nat × AV))(B:Nat)(c:Code)(s:St)(Q:Exit->St->Prop):Prop:=QJ P Γ B (TO P Γ B) c s Q
theorem O9(c:Code)(s:St)(Q:Exit->St->Prop)(h:Tw P Γ B c s Q):eD P Γ B c s Q:=uU PV h
def S1(P:Program)(Γ:List (Nat × AV))(B:Nat)(c:Code)(s:St)(Q:Exit->St->Prop):Prop:=QJ P Γ B (Tw P Γ B) c s Q
theorem P9(c:Code)(s:St)(Q:Exit->St->Prop)(h:S1 P Γ B c s Q):eD P Γ B c s Q:=uU O9 h
def Tl(P:Program)(Γ:List (Nat × AV))(B:Nat)(c:Code)(s:St)(Q:Exit->St->Prop):Prop:=QJ P Γ B (S1 P Γ B) c s Q
theorem QH(c:Code)(s:St)(Q:Exit->St->Prop)(h:Tl P Γ B c s Q):eD P Γ B c s Q:=uU P9 h
def Te(P:Program)(Γ:List (Nat × AV))(B:Nat)(c:Code)(s:St)(Q:Exit->St->Prop):Prop:=QJ P Γ B (Tl P Γ B) c s Q
theorem P7(c:Code)(s:St)(Q:Exit->St->Prop)(h:Te P Γ B c s Q):eD P Γ B c s Q:=uU QH h
def TT(P:Program)(Γ:List (Nat × AV))(B:Nat)(c:Code)(s:St)(Q:Exit->St->Prop):Prop:=QJ P Γ B (Te P Γ B) c s Q
theorem QK(c:Code)(s:St)(Q:Exit->St->Prop)(h:TT P Γ B c s Q):eD P Γ B c s Q:=uU P7 h
def RR(P:Program)(Γ:List (Nat × AV))(B:Nat)(c:Code)(s:St)(Q:Exit->St->Prop):Prop:=QJ P Γ B (TT P Γ B) c s Q
theorem QU(c:Code)(s:St)(Q:Exit->St->Prop)(h:RR P Γ B c s Q):eD P Γ B c s Q:=uU QK h
theorem eD.many{c:Code}{s:St}{Q:Exit->St->Prop}(h:RR P Γ B c s Q):eD P Γ B c s Q:=QU c s Q h
class XG(p:Prop)(q:outParam Prop):Prop where
 h:q->p
instance{c:Code}{s:St}{Q:Exit->St->Prop}:XG (eD P Γ B c s Q) (RR P Γ B c s Q):=⟨eD.many⟩
instance{ops l:List Oper}{s:St}{K:St->Prop}:XG (nH P Γ B ops l s K) (M1 P Γ B ops K l s):=⟨nH.many⟩
instance{ops:List Oper}{tr:List (List Nat)}{base:Nat}{K:St->Prop}{l:List Nat}{recs:List AT}{s:St}:XG (MU P Γ B ops tr base K l recs s) (U5 P Γ B ops tr base K l recs s):=⟨MU.go⟩
theorem Xg{p q:Prop}[i:XG p q](x:q):p:=i.h x
theorem Rr{p q:Prop}(x:q)(e:q->p:=by(intro x;(conv=>whnf);(repeat(refine Xg ?_;conv=>whnf));exact x)):p:=e x
end
end Go.Ax
namespace Go.Ax
open Go
def Ap(i:Nat):List Nat->Bool
 | []=>false
 | j::r=>match Nat.beq j i with
  | true=>true
  | false=>Ap i r
def jD(ids:List Nat):aP->aP
 | []=>[]
 | (k,b)::r=>match Ap k ids with
  | true=>(k,b)::jD ids r
  | false=>jD ids r
def gR(ids:List Nat):aP->aP
 | []=>[]
 | (k,b)::r=>match Ap k ids with
  | true=>gR ids r
  | false=>(k,b)::gR ids r
def q6:List Nat->List (Nat × Nat)
 | []=>[]
 | i::r=>(i,i)::q6 r
def KZ(n:Nat):List Nat->Bool
 | []=>true
 | i::r=>Nat.blt i n && KZ n r
def Ci(ids:List Nat):aP->Bool
 | []=>true
 | (k,_)::r=>Ap k ids && Ci ids r
theorem d8{ids:List Nat}:∀{m:aP} {p:Nat × AB},p∈jD ids m↔p∈m/\Ap p.1 ids=true
 | [],p=>by simp[jD]
 | (k,b)::r,p=>by
  simp only[jD];split
  ·rename_i h;rw[Vg,d8 (m:=r),Vg];constructor
   ·rintro(rfl|⟨h1,h2⟩)
    ·exact⟨.inl rfl,h⟩
    ·exact⟨.inr h1,h2⟩
   ·rintro⟨rfl|h1,h2⟩
    ·exact .inl rfl
    ·exact .inr ⟨h1,h2⟩
  ·rename_i h;rw[d8 (m:=r),Vg];constructor
   ·rintro⟨h1,h2⟩;exact⟨.inr h1,h2⟩
   ·rintro⟨rfl|h1,h2⟩
    ·rw[h] at h2;cases h2
    ·exact⟨h1,h2⟩
theorem c8{ids:List Nat}:∀{m:aP} {p:Nat × AB},p∈gR ids m↔p∈m/\Ap p.1 ids=false
 | [],p=>by simp[gR]
 | (k,b)::r,p=>by
  simp only[gR];split
  ·rename_i h;rw[c8 (m:=r),Vg];constructor
   ·rintro⟨h1,h2⟩;exact⟨.inr h1,h2⟩
   ·rintro⟨rfl|h1,h2⟩
    ·rw[h] at h2;cases h2
    ·exact⟨h1,h2⟩
  ·rename_i h;rw[Vg,c8 (m:=r),Vg];constructor
   ·rintro(rfl|⟨h1,h2⟩)
    ·exact⟨.inl rfl,h⟩
    ·exact⟨.inr h1,h2⟩
   ·rintro⟨rfl|h1,h2⟩
    ·exact .inl rfl
    ·exact .inr ⟨h1,h2⟩
theorem nF{ids:List Nat}:∀(m:aP),(jD ids m).Sublist m
 | []=>by simp[jD]
 | (k,b)::r=>by
  simp only[jD];split
  ·exact(nF r).cons_cons _
  ·exact(nF r).cons _
theorem mU{ids:List Nat}:∀(m:aP),(gR ids m).Sublist m
 | []=>by simp[gR]
 | (k,b)::r=>by
  simp only[gR];split
  ·exact(mU r).cons _
  ·exact(mU r).cons_cons _
theorem B6:∀{ids:List Nat} {i j:Nat},lk (q6 ids) i=some j->i=j/\Ap i ids=true
 | [],i,j,h=>by simp[q6,lk] at h
 | k::r,i,j,h=>by
  simp only[q6,lk] at h;split at h
  ·rename_i e;cases h;exact⟨(Nat.eq_of_beq_eq_true e).symm,by simp only[Ap,e]⟩
  ·rename_i e;obtain⟨h1,h2⟩:=B6 h;exact⟨h1,by simp only[Ap,e];exact h2⟩
theorem Nq:∀{ids:List Nat} {i:Nat},Ap i ids=true->lk (q6 ids) i=some i
 | [],i,h=>by simp[Ap] at h
 | k::r,i,h=>by
  simp only[Ap] at h;simp only[q6,lk];split at h
  ·rename_i e;rw[e,Nat.eq_of_beq_eq_true e]
  ·rename_i e;rw[e];exact Nq h
theorem uD:∀{ids:List Nat} {n i:Nat},KZ n ids=true->Ap i ids=true->i<n
 | [],n,i,_,h=>by simp[Ap] at h
 | k::r,n,i,h1,h=>by
  simp only[KZ,VZ] at h1;simp only[Ap] at h;split at h
  ·rename_i e;rw[←Nat.eq_of_beq_eq_true e];exact Vd h1.1
  ·exact uD h1.2 h
theorem sI:∀{m:aP} {ids:List Nat},Ci ids m=true->∀p∈m,Ap p.1 ids=true
 | [],ids,_,p,hp=>by cases hp
 | (k,b)::r,ids,h,p,hp=>by
  simp only[Ci,VZ] at h;rcases Vg.1 hp with rfl|hp
  ·exact h.1
  ·exact sI h.2 p hp
theorem aH.useI{P:Program}{Γ:List (Nat × AV)}{F:FuncId}{args args':List AV}{ms mem:aP}{ns nx:Nat}{Qs K:AV->aP->Nat->Prop}(hΓ:∀p∈Γ,NN p.2)(ids:List Nat)(h:aH P Γ F args' ms ns Qs)
  (hp:jD ids mem=ms) (hargs:kU ms (q6 ids) args args') (hM:cN ms (q6 ids) ms) (hc:(jX ms && KZ ns ids)=true)
  (hk:∀r m n,Qs r m n->NN r/\cN m (q6 ids) m/\(jX m && Ci ids m)=true/\K r (m++gR ids mem) nx):aH P Γ F args mem nx K:=by
 simp only[VZ] at hc;refine⟨fun X D ρ w vs hD hm hv=>?_⟩;have hinj:JI (q6 ids):=fun i j k h1 h2=>by
  have a:=(B6 h1).1;have b:=(B6 h2).1;omega
 refine(aH.use (K:=K) (nx:=nx) hΓ h (q6 ids) (m1:=ms) (rest:=gR ids mem) ⟨fun p hp'=>?_,fun p hp'=>(c8.1 hp').1,fun p hp'=>?_,fun p h1 q h2=>?_, ?_⟩ ?_ hargs hM.cvm (d7 hc.1) hinj (fun id i hl=>?_) ?_).run X D ρ w vs hD hm hv
 ·rw[←hp] at hp';exact(d8.1 hp').1
 ·cases hi:Ap p.1 ids with
  | true=>left;rw[←hp];exact d8.2 ⟨hp',hi⟩
  | false=>right;exact c8.2 ⟨hp',hi⟩
 ·rw[←hp] at h1;have a:=(d8.1 h1).2;have b:=(c8.1 h2).2;intro e;rw[e,b] at a;cases a
 ·rw[←hp];exact hm.nod.sublist ((nF mem).map _)
 ·exact hm.nod.sublist ((mU mem).map _)
 ·obtain⟨h1,h2⟩:=B6 hl;rw[←h1];exact uD hc.2 h2
 ·intro r m n hq hn;obtain⟨h1,h2,h3,h4⟩:=hk r m n hq;simp only[VZ] at h3;refine⟨q6 ids,r,m,nx,Vh _,.same r h1,h2.cvm,d7 h3.1,hinj,fun i id hl=>?_,fun p h5 q h6=>?_,h4⟩
  ·obtain⟨e1,e2⟩:=B6 hl;subst e1;exact .inl ⟨uD hc.2 e2,Nq e2⟩
  ·have a:=sI h3.2 p h5;have b:=(c8.1 h6).2;intro e;rw[e,b] at a;cases a
def g9:List (Nat × Nat)->List Nat
 | []=>[]
 | (i,_)::r=>i::g9 r
def Fi:List (Nat × Nat)->List (Nat × Nat)
 | []=>[]
 | (i,j)::r=>(j,i)::Fi r
def pE(n:Nat):List (Nat × Nat)->Bool
 | []=>true
 | (_,j)::r=>Nat.blt j n && pE n r
theorem Cf:∀{σ:List (Nat × Nat)} {i j:Nat},(j,i)∈Fi σ↔(i,j)∈σ
 | [],i,j=>by simp[Fi]
 | (a,b)::r,i,j=>by
  simp only[Fi,Vg,Cf (σ:=r),Prod.mk.injEq];constructor
  ·rintro(⟨rfl,rfl⟩|h)
   ·exact .inl ⟨rfl,rfl⟩
   ·exact .inr h
  ·rintro(⟨rfl,rfl⟩|h)
   ·exact .inl ⟨rfl,rfl⟩
   ·exact .inr h
theorem LZ{σ:List (Nat × Nat)}(h:kD (Fi σ)=true){i j:Nat}(hm:(i,j)∈σ):lk σ i=some j:=by
 induction σ with
 | nil=>cases hm
 | cons p r ih=>
  obtain⟨a,b⟩:=p;simp only[Fi,kD,VZ] at h;simp only[lk];rcases Vg.1 hm with e|hm'
  ·cases e;simp
  ·have hne:a≠i:=by
    intro e;subst e;exact qC h.1 _ (Cf.2 hm') rfl
   rw[nJ hne];exact ih h.2 hm'
theorem lR:∀{σ:List (Nat × Nat)} {n:Nat},pE n σ=true->∀p∈σ,p.2<n
 | [],n,_,p,hp=>by cases hp
 | (a,b)::r,n,h,p,hp=>by
  simp only[pE,VZ] at h;rcases Vg.1 hp with rfl|hp
  ·exact Vd h.1
  ·exact lR h.2 p hp
theorem aH.useR{P:Program}{Γ:List (Nat × AV)}{F:FuncId}{args args':List AV}{ms mem m1:aP}{ns nx:Nat}{Qs K:AV->aP->Nat->Prop}(hΓ:∀p∈Γ,NN p.2)(σ:List (Nat × Nat))(h:aH P Γ F args' ms ns Qs)
  (hp:jD (g9 σ) mem=m1) (hargs:kU m1 σ args args') (hM:cN m1 σ ms) (hc:(jX ms && (kD σ && (kD (Fi σ) && pE ns σ)))=true)
  (hk:∀r m n,Qs r m n->∃m',NN r/\cN m (Fi σ) m'/\(jX m' && Ci (g9 σ) m')=true/\K r (m'++gR (g9 σ) mem) nx):aH P Γ F args mem nx K:=by
 simp only[VZ] at hc;obtain⟨hc1,hc2,hc3,hc4⟩:=hc;refine⟨fun X D ρ w vs hD hm hv=>?_⟩;refine(aH.use (K:=K) (nx:=nx) hΓ h σ (m1:=m1) (rest:=gR (g9 σ) mem) ⟨fun p hp'=>?_,fun p hp'=>(c8.1 hp').1,fun p hp'=>?_,fun p h1 q h2=>?_, ?_⟩ ?_ hargs hM.cvm (d7 hc1) (lX hc2) (fun id i hl=>lR hc4 _ (bI hl)) ?_).run X D ρ w vs hD hm hv
 ·rw[←hp] at hp';exact(d8.1 hp').1
 ·cases hi:Ap p.1 (g9 σ) with
  | true=>left;rw[←hp];exact d8.2 ⟨hp',hi⟩
  | false=>right;exact c8.2 ⟨hp',hi⟩
 ·rw[←hp] at h1;have a:=(d8.1 h1).2;have b:=(c8.1 h2).2;intro e;rw[e,b] at a;cases a
 ·rw[←hp];exact hm.nod.sublist ((nF mem).map _)
 ·exact hm.nod.sublist ((mU mem).map _)
 ·intro r m n hq hn;obtain⟨m',h1,h2,h3,h4⟩:=hk r m n hq;simp only[VZ] at h3;refine⟨Fi σ,r,m',nx,Vh _,.same r h1,h2.cvm,d7 h3.1,lX hc3,fun i id hl=>?_,fun p h5 q h6=>?_,h4⟩
  ·have hmem:=Cf.1 (bI hl);exact .inl ⟨lR hc4 _ hmem,LZ hc3 hmem⟩
  ·have a:=sI h3.2 p h5;have b:=(c8.1 h6).2;intro e;rw[e,b] at a;cases a
end Go.Ax
namespace Go.Ax
open Go
def Hg(w w':World):Prop:=w.heap.size<=w'.heap.size/\(∀b,b<w.heap.size->w'.heap[b]? = w.heap[b]?)/\EH w w'
theorem Hg.refl(w:World):Hg w w:=⟨Vh _,fun _ _=>rfl,.refl _⟩
theorem BB{w w':World}(h:RowKit.Below w.heap.size w w'):Hg w w':=⟨h.size,h.block,h.os,h.output,h.tape,trivial⟩
theorem HQ(w:World)(e:TypeId)(s:ByteArray):Hg w (Lib.bytesWorld w e s):=by
 refine⟨by rw[Lib.bytesWorld_size];omega,fun b hb=>Lib.bytesWorld_at_old w e s b hb, ?_⟩;unfold Lib.bytesWorld World.freeze;split
 ·exact .go
 ·exact .go
section
variable {P:Program} {Γ:List (Nat × AV)} {F:FuncId} {args:List AV} {r:AV}
def Me(Γ:List (Nat × AV))(w:World):Prop:=∀p∈Γ,∀(j:Nat) (c:AV),p.2.cells[j]? = some c->∃x ρ D O,w.cell? ⟨p.1,j,none⟩=some x/\VR ρ D O w c x
theorem MR.knows{X:Nat->Prop}{ρ:Nat->dG}{D:Nat->Prop}{mem:aP}{w:World}(hm:MR Γ X ρ D mem w):Me Γ w:=by
 intro p hp j c hc;have:=hm.glo p hp;cases this with
 | ip _ _ _ f h1 h2=>exact⟨f j,ρ,D,_,by have:=(h1 j c hc).2.1;rwa [V0] at this,h2 j c hc⟩
theorem qU{vs:List Value}(hargs:∀(ρ:Nat->dG) (D O:Nat->Prop) (w:World) (xs:List Value),jR ρ D O w args xs->xs=vs)
  (h:∀w,Me Γ w->Calls P F vs.toArray w fun e w'=>∃x,e = .returned x/\(∀(ρ:Nat->dG) (D O:Nat->Prop) (w:World),VR ρ D O w r x)/\Hg w w') (hF:Nat.beq F YF=false:=by rfl):bB P Γ F args r:=by
 refine⟨fun X D ρ w xs hD hm hv=>?_⟩;obtain rfl:=hargs _ _ _ _ _ hv;refine .of hF ((h w hm.knows).mono ?_);rintro e w' ⟨x,rfl,hx,g1,g2,g3⟩;obtain⟨m1,ext⟩:=hm.still g1 g2 g3;have hsub:∀i,D i->dn D 0 0 i:=fun i hi=>.inl hi
 exact⟨r,x,[],0,ρ,rfl,⟨rfl,rfl,rfl⟩,Vh _,(m1.widen hsub).1,hx _ _ _ _,(ext D fun i hi=>hi).wide hsub⟩
theorem GC{ρ:Nat->dG}{D O:Nat->Prop}{w:World}{xs:List Value}{k:IntKind}{n:Int}(h:jR ρ D O w [.int k n] xs):xs=[.int k n]:=by
 obtain⟨hl,hv⟩:=h
 match xs,hl with
 | [x],_=>
  have:=hv 0 _ x rfl rfl;cases this;rfl
theorem F3{ρ:Nat->dG}{D O:Nat->Prop}{w:World}{xs:List Value}{s:List UInt8}(h:jR ρ D O w [.str s] xs):xs=[.string ⟨s.toArray⟩]:=by
 obtain⟨hl,hv⟩:=h
 match xs,hl with
 | [x],_=>
  have:=hv 0 _ x rfl rfl;cases this;rfl
end
def fE(l:List UInt8):List AV:=l.map fun b=>.int .u8 (b.toNat:Int)
theorem d6(l:List UInt8):jZ (fE l):=fun a ha=>by
 obtain⟨n,_,rfl⟩:=Vq.1 ha;exact .int _ _
theorem Gs(l:List UInt8)(i:Nat):(fE l)[i]? = (l[i]?).map fun b=>.int .u8 (b.toNat:Int):=by rw[fE,Vy]
theorem fG(l:List UInt8):(fE l).length=l.length:=by rw[fE,We]
theorem E0(l:List UInt8)(k:Nat):(fE l).take k=fE (l.take k):=by rw[fE,fE,List.map_take]
theorem Em(l:List UInt8)(k:Nat):(fE l).drop k=fE (l.drop k):=by rw[fE,fE,X4]
theorem t8(l m:List UInt8):fE (l++m)=fE l++fE m:=by rw[fE,fE,fE,Wv]
theorem oG:∀l:List UInt8,gD (fE l)=some l
 | []=>rfl
 | b::r=>by
  show gD (AV.int .u8 (b.toNat:Int)::fE r)=_
  simp only[gD,oG r];simp
theorem Tc{P:Program}{F:FuncId}{t:TypeId}
  (hF:∀(blk off cap:Nat) (u:Nat) (d:Array UInt8) (w:World),Sort.Holds (fun(b:UInt8)=>Value.int .u8 (b.toNat:Int)) w blk off d->u<10 ^ d.size->u<18446744073709551616->d.size<4611686018427387904 ->
   Calls P F #[.slice (some ⟨blk,off,none⟩) d.size cap,.int .u64 u] w fun e w'=>
    e = .returned (.tuple #[])/\∃(n v':Nat) (dk:Array UInt8),w'=(Sort.putRow (fun(b:UInt8)=>Value.int .u8 (b.toNat:Int)) w blk off dk).drewN n/\Lib.FmtInv d.size u 0 v' dk)
  (xs:List UInt8) (u:Nat) (hu64:u<18446744073709551616) (hlen:1+Lib.nDigits u<=xs.length) (hxl:xs.length<=1000) (hF0:Nat.beq F YF=false:=by rfl) :
  aH P [] F [.sl 0 1 (Lib.nDigits u),.int .u64 u] [(0,.row t 1 (fE xs))] 1 fun r m n=>r = .tup []/\m=[(0,.row t 1 (fE (xs.take 1++Lib.decDigits u++xs.drop (1+Lib.nDigits u))))]:=by
 have hpos:=Lib.nDigits_pos u;refine⟨fun X D ρ w vs hD hm hv=>?_⟩;obtain⟨hl,hv⟩:=hv
 match vs,hl with
 | [s,x],_=>
  have v0:=hv 0 _ s rfl rfl;have v1:=hv 1 _ x rfl rfl;cases v1;have hid:lk [(0,AB.row t 1 (fE xs))] 0=some (.row t 1 (fE xs)):=rfl;have hsz:=xW hm hid;have hn:0<(ρ 0).n:=by
   rcases V6 (ρ 0).n with h0|h0
   ·obtain⟨t',sz',e1,_⟩:=hm.emp _ (bI hid) h0;injection e1 with _ _ e2;have:(fE xs).length=0:=by rw[e2];rfl
    rw[fG] at this;omega
   ·exact h0
  obtain⟨o,ho,hsz',arr,fr,rfl,hf,hs,hle,hrow⟩:=hm.blk _ (bI hid) hn;simp only at ho hsz' hs hle hrow;rw[hsz] at hrow hle;rw[fG,Nat.mul_one] at hle;have hcell:∀(i:Nat) (b:UInt8),xs[i]? = some b->arr[i]? = some (Value.int .u8 (b.toNat:Int)):=by
   intro i b hb;obtain⟨v,hv,_,hr⟩:=(hrow i (.int .u8 (b.toNat:Int)) (by rw[Gs,hb];rfl)).2 0 _ rfl;cases hr;simpa using hv
  obtain⟨nd,hnd⟩:∃nd,nd=Lib.nDigits u:=⟨_,rfl⟩
  rw[←hnd] at hpos hlen v0 ⊢;have hso:∃cap,s = .slice (some ⟨(ρ 0).b,1,none⟩) nd cap:=by
   cases v0 with
   | sl _ _ _ cap _ h1 h2=>exact⟨cap,by rw[hsz]⟩
   | slz=>omega
   | slzn=>omega
  obtain⟨cap,rfl⟩:=hso;have hds:(((xs.drop 1).take nd).toArray).size=nd:=by simp;omega
  have hH:Sort.Holds (fun(b:UInt8)=>Value.int .u8 (b.toNat:Int)) w (ρ 0).b 1 ((xs.drop 1).take nd).toArray:=by
   intro j hj;rw[hds] at hj;have hx:xs[1+j]? = some xs[1+j]:=VV om;have hd:(((xs.drop 1).take nd).toArray)[j]! = xs[1+j]:=by
    rw[getElem!_pos _ j om];simp[Xw]
   constructor
   ·simp only[World.cell?,ho,hd];exact hcell _ _ hx
   ·simp only[World.frozen?,ho];have:=hf (1+j) om;obtain⟨a,b⟩:=fr;simp only at this ⊢;rw[Wx];simp;omega
  have hcall:=hF (ρ 0).b 1 cap u _ w hH (by rw[hds,hnd];exact Lib.lt_pow_nDigits u) hu64 (by rw[hds];omega);rw[hds] at hcall;refine .of hF0 (hcall.mono ?_);rintro e w' ⟨rfl,n,v',dk,rfl,hinv⟩;have hdk:dk.size=nd:=hinv.size;have hdig:(Lib.decDigits u).length=nd:=by rw[Lib.decDigits_length,hnd]
  rw[hnd] at hinv;have hat:=fun j hj=>Lib.row_is_numeral hinv j hj
  obtain⟨m1,mv,ext⟩:=hm.change (w':=(Sort.putRow (fun(b:UInt8)=>Value.int .u8 (b.toNat:Int)) w (ρ 0).b 1 dk).drewN n) (xs':=fE (xs.take 1++Lib.decDigits u++xs.drop (1+nd))) (arr:=Sort.putCells (fun(b:UInt8)=>Value.int .u8 (b.toNat:Int)) 1 dk arr) (fr:=fr) hid hn
   (by
    apply Xy;intro k
    show (w.heap.modify (ρ 0).b (Sort.onCells _))[k]? = _
    have hlt:=mZ hm (.inr ⟨_,bI hid,hn,rfl⟩);simp only at hlt;rw[Ww,Xs];by_cases hk:(ρ 0).b=k
    ·subst hk;rw[Vb rfl,Vb rfl,Vb hlt,ho];rfl
    ·rw[VY hk,VY hk]) .go (fun j hj=>hf j (by simpa[Sort.putCells] using hj)) (by rw[←hs];simp[Sort.putCells])
   (by
    refine⟨?_,fun i x hi=>?_⟩
    ·rw[fG];simp[Sort.putCells,hdig];omega
    ·rw[Gs] at hi;obtain⟨b,hb,rfl⟩:=Xc.1 hi;refine⟨rfl,fun j c hj=>?_⟩;cases j with
     | succ j=>simp[AV.cells] at hj
     | zero=>
      simp[AV.cells] at hj;subst hj;refine⟨.int .u8 (b.toNat:Int), ?_,rfl,.int _ _⟩;simp only[Nat.mul_one,W0,Sort.putCells,Array.getElem?_mapIdx];have hil:i<xs.length:=by
       have:=(VX.1 hb).1;simp[hdig] at this;omega
      have hia:arr[i]? = some (.int .u8 (xs[i].toNat:Int)):=hcell i _ (VV hil);rw[hia,Wd];congr 1;rw[List.append_assoc,WD] at hb;have htl:(xs.take 1).length=1:=by simp;omega
      rw[htl] at hb;by_cases h1:i<1
      ·rw[Vb h1,WA,Vb h1,VV hil] at hb;rw[VY om,Option.some.inj hb]
      ·rw[VY h1,WD,hdig] at hb;by_cases h2:i-1<nd
       ·rw[Vb h2,VV om] at hb;rw[Vb om,←hat (i-1) om,Option.some.inj hb]
       ·rw[VY h2,V9] at hb;have e:1+nd+(i-1-nd)=i:=om;rw[e,VV hil] at hb;rw[VY om,Option.some.inj hb])
  have hsub:∀i,D i->dn D 1 1 i:=fun i hi=>.inl hi
  exact⟨.tup [],.tuple #[],_,1,ρ,rfl,⟨rfl,by simp[up]⟩,Vh _,(m1.widen hsub).1,.tup [] #[] rfl (by simp),(ext D fun i hi=>hi).wide hsub⟩
end Go.Ax
namespace Go.Ax
open Go Go.RowKit
theorem JJ{P:Program}{w:World}{n:String}{g:Nat}{k:IntKind}{zs:List Int}(hg:P.globalNamed n=some g)(hv:Lib.TabIs P w n k zs) :
  VR (fun _=>⟨0,0,0⟩) (fun _=>False) (OX (fun _=>False) (fun _=>⟨0,0,0⟩) []) w (.ip (.agg (zs.map fun z=>AV.int k z))) (.pointer (some ⟨g,0,none⟩)):=by
 refine .ip _ g 0 (fun j=>.int k (zs.getD j 0)) (fun j c hj=>?_) (fun j c hj=>?_)
 ·have hj0:j<zs.length:=by have:=(VX.1 hj).1;simpa[AV.cells] using this
  exact⟨I9 _ _,by simpa using hv.cell hg j hj0,rfl⟩
 ·have hj0:j<zs.length:=by have:=(VX.1 hj).1;simpa[AV.cells] using this
  simp[AV.cells,Vy,VV hj0] at hj;subst hj;simp[VW,VV hj0];exact .int _ _
end Go.Ax
namespace Go.Ax
open Go Go.RowKit Go.ChangeShapes
theorem AD{H:Type}{P:Program}{t:TypeId}{ts:List TypeId}{d:DataW H}{r:List (DataW H)}{p:Nat->Bool}(h:(DataW.weightsEach P (t::ts) (d::r)).all p=true):(d.weights P t).all p=true:=by
 rw[DataW.weightsEach,Xt,VZ] at h;exact h.1
theorem Dq{P:Program}{H:Type}{enc:TypeId × Value->H}{w:World}{t e:TypeId}{b0:Nat}{v:Value}{d:DataW H}{ps:List MemPlace}
  (ht:P.underlying t=some (.slice e)) (he:P.underlying e=some (.int .i64)) (hc:P.cellsOf e=1) (hby:P.bytesOf e=8) (hval:Value.okWide P w .any b0 t v) (h:DataW.Trod enc P w 0 (fun _=>true) true t v d ps)
  (hsz:(d.weights P t).all (· <= reachBytes)=true) :
  ∃l:List Int,(∀x∈l,i64 x)/\VR (fun _=>⟨0,0,0⟩) (fun _=>False) (OX (fun _=>False) (fun _=>⟨0,0,0⟩) []) w (.il 1 (aS l)) v/\l.length<=17592186043904:=by
 obtain⟨a0,len0,cap0,rfl⟩:=WideShapes.okWide_slice ht hval;obtain⟨n,hn⟩:=h;rcases ChangeShapes.open_ints ht he hc hn with⟨hcs,_⟩|⟨a,len,cap,zs,hcs,_,hl,_,hz,hx,hcell,hwf⟩
 ·simp[Value.cells] at hcs;obtain⟨rfl,rfl,rfl⟩:=hcs;exact⟨[],by simp,.iln _,by simp⟩
 ·simp[Value.cells] at hcs;obtain⟨rfl,rfl,rfl⟩:=hcs;have hsp:a.spot=none:=by
   simp only[Value.okWide,ht,Cell.okWide,Cell.ok,World.has] at hval;exact hval.2.2.2.1
  simp only[if_true] at hz;obtain⟨rfl,-⟩:=Prod.mk.inj hx;have hlen:(zs.take len0).length<=17592186043904:=by
   rw[DataW.weights,ht] at hsz;simp only[List.all_cons,VZ,hby] at hsz;have h1:=WP hsz.1;simp[lits,reachBytes] at h1;simp;omega
  refine⟨zs.take len0,fun x hx=>?_,LH hsp hl om hcell,hlen⟩;have:=hwf x (WE hx);have e1:IntKind.i64.min = -9223372036854775808:=rfl;have e2:IntKind.i64.max=9223372036854775807:=rfl;simp[Lit.wf,e1,e2] at this;unfold i64;omega
end Go.Ax
namespace Go.Ax
open Go Go.ChangeShapes Go.WideShapes Go.ChangeAt Go.RowKit Go.Lib
theorem oF{H:Type}{P:Program}{t:TypeId}{ts:List TypeId}{d:DataW H}{r:List (DataW H)}{p:Nat->Bool}(h:(DataW.weightsEach P (t::ts) (d::r)).all p=true):(DataW.weightsEach P ts r).all p=true:=by
 rw[DataW.weightsEach,Xt,VZ] at h;exact h.2
end Go.Ax
namespace Go.Ax
open Go
end Go.Ax
