/- A part of the proof. -/
import Derived.Test.YtobknjmfgjaehaaGreatDoorAx8
import Derived.Below
import Derived.Lib.ConvBytes
import Derived.Lib.ItoaMem
import Derived.ChangeMaps5
import Derived.Lib.LaidTab
import Derived.Lib.ItoaNum
import Derived.Recover
set_option linter.unusedVariables false
set_option linter.unusedSimpArgs false
set_option linter.unusedSectionVars false
namespace Go.Ax
open Go
theorem nn {v:AV} (h:NN v:=by
  repeat' first
   | assumption
   | exact NN.int _ _
   | exact NN.bool _
   | exact NN.str _
   | exact NN.nsl
   | exact NN.nptr
   | exact NN.nif
   | exact NN.nfn
   | exact NN.nmap
   | exact NN.junk
   | exact bM _
   | exact aS _
   | exact aQ _
   | exact iW.nil
   | refine iW.cons ?_ ?_
   | refine NN.agg' ?_
   | refine NN.tup' ?_
   | refine NN.il' ?_
   | refine NN.ip' ?_
   | refine NN.ifc _ _ ?_
   | exact NN.fn _ _ _ (by simp) (by simp)):NN v:=h
theorem cW {l:List AV} (h:iW l:=by
  repeat' first
   | assumption
   | exact NN.int _ _
   | exact NN.bool _
   | exact NN.str _
   | exact NN.nsl
   | exact NN.nptr
   | exact NN.nif
   | exact NN.nfn
   | exact NN.nmap
   | exact NN.junk
   | exact bM _
   | exact aS _
   | exact aQ _
   | exact iW.nil
   | refine iW.cons ?_ ?_
   | refine NN.agg' ?_
   | refine NN.tup' ?_
   | refine NN.il' ?_
   | refine NN.ip' ?_
   | refine NN.ifc _ _ ?_
   | exact NN.fn _ _ _ (by simp) (by simp)):iW l:=h
section
variable {P:Program} {Γ:List (Nat × AV)} {F:FuncId} {args:List AV} {r:AV} {mem:aN} {nx:Nat} {K:AV->aN->Nat->Prop}
theorem a8.go(h:a8 P [] F args r)(hk:K r mem nx)(ha:iW args:=by exact cW)(hr:NN r:=by exact nn):aG P [] F args mem nx K:=h.use bG ha hr hk
theorem aG.go0{Qs:AV->aN->Nat->Prop}(h:aG P [] F args [] 0 Qs)(hk:∀r m n,Qs r m n->∃r',Cv m [] r r'/\K r' mem nx)(ha:iW args:=by exact cW):aG P [] F args mem nx K:=
 aG.call0 bG h ha hk
end
theorem aG.glob{P:Program}{Γ:List (Nat × AV)}{F:FuncId}{args:List AV}{mem:aN}{nx:Nat}{Q:AV->aN->Nat->Prop}(h:aG P [] F args mem nx Q):aG P Γ F args mem nx Q:=by
 refine⟨fun X D ρ w vs hD hm hv=>?_⟩;refine(h.run X D ρ w vs hD ⟨hm.low,hm.blk,hm.emp,hm.inj,hm.nod,hm.bar,(fun p hp=>by cases hp)⟩ hv).mono ?_;rintro e w' ⟨r,v,m,n,ρ',h1,h2,h3,h4,h5,h6⟩;exact⟨r,v,m,n,ρ',h1,h2,h3,⟨h4.low,h4.blk,h4.emp,h4.inj,h4.nod,h4.bar,fun p hp=>h6.vr (hm.glo p hp)⟩,h5,h6⟩
def FJ:List (Nat × Nat)->Bool
 | []=>true
 | (i,j)::r=>Nat.beq i j && FJ r
theorem rT:∀{σ:List (Nat × Nat)},FJ σ=true->∀p∈σ,p.1=p.2
 | [],h,p,hp=>by cases hp
 | (i,j)::r,h,p,hp=>by
  simp only[FJ,Bool.and_eq_true] at h;rcases List.mem_cons.1 hp with rfl|hp
  ·exact Nat.eq_of_beq_eq_true h.1
  ·exact rT h.2 p hp
theorem aG.pre{P:Program}{Γ:List (Nat × AV)}{F:FuncId}{args args':List AV}{mem mem':aN}{nx:Nat}{K:AV->aN->Nat->Prop}(hΓ:∀p∈Γ,NN p.2)(σ:List (Nat × Nat))(hid:(FJ σ && kW mem')=true)
  (hM:cM mem σ mem') (hargs:jL mem σ args args') (h:aG P Γ F args' mem' nx K):aG P Γ F args mem nx K:=by
 simp only[Bool.and_eq_true] at hid;have hid1:=rT hid.1;have hnod:=dE hid.2;refine⟨fun X D ρ w vs hD hm hv=>?_⟩;have hσ:∀id id',lk σ id=some id'->D id->D id'/\ρ id'=ρ id:=by
  intro id id' h hd;have:=hid1 _ (bA h);simp only at this;subst this;exact⟨hd,rfl⟩
 have hinj:Gx σ:=fun i j k h1 h2=>by
  have a:=hid1 _ (bA h1);have b:=hid1 _ (bA h2);simp only at a b;omega
 obtain⟨m1,v1,o1⟩:=hm.turn (D':=D) (ρ':=ρ) hΓ hσ hM.cvm hnod hinj;have hvs:iH ρ D (OX X ρ mem') w args' vs:=⟨by rw[←hargs.1];exact hv.1,fun j c' x hc' hx=>by
   obtain⟨c,hc⟩:=cQ hargs.1 hc';exact v1 c c' (hargs.2 j c c' hc hc') _ (hv.2 j c x hc hx)⟩
 refine(h.run X D ρ w vs hD m1 hvs).mono ?_;rintro e w' ⟨r,v,m,n,ρ',h1,h2,h3,h4,h5,h6⟩;refine⟨r,v,m,n,ρ',h1,h2,h3,h4,h5, ?_⟩;have e0:Ext D ρ mem w ρ D mem' w:=⟨fun i hi=>hi,fun _ _=>rfl,Nat.le_refl _,fun _ _ _=>rfl,fun p hp hn=>.inl (o1 p hp hn),.refl _⟩
 exact e0.trans h6
theorem bX{l:List a7}{k:Nat}(h:k<l.length):∃a b c d,a7.mk a b c d∈l/\l[k]? = some (a7.mk a b c d)/\l[k]=a7.mk a b c d/\(aO l)[(k:Int).toNat]? = some (bK (a7.mk a b c d)):=by
 obtain⟨⟨a,b,c,d⟩,hv⟩:∃v,v=l[k]:=⟨_,rfl⟩
 have e:=xW h;rw[←hv] at e;exact⟨a,b,c,d,by rw[hv];exact List.getElem_mem h,by rw[hv];exact List.getElem?_eq_getElem h,hv.symm,e⟩
section
variable {mem:aN} {σ:List (Nat × Nat)}
theorem Cv.int{k:IntKind}{a b:Int}(h:a=b):Cv mem σ (.int k a) (.int k b):=by rw[h];exact .same _ (.int _ _)
theorem Cv.w64{x y:Int}(h:x=y)(hb:i64 y):Cv mem σ (.int .i64 (IntKind.i64.wrap x)) (.int .i64 y):=by rw[h,cK hb];exact .same _ (.int _ _)
theorem Cv.wo{x y:Int}(h:x=y:=by omega)(h1 : -9223372036854775808<=y:=by omega)(h2:y<=9223372036854775807:=by omega):Cv mem σ (.int .i64 (IntKind.i64.wrap x)) (.int .i64 y):=.w64 h ⟨h1,h2⟩
theorem Cv.wp{x y:Int}(h:x=y:=by simp only;omega)(h1 : -9223372036854775808<=y:=by simp only;omega)(h2:y<=9223372036854775807:=by simp only;omega):Cv mem σ (.int .i64 (IntKind.i64.wrap x)) (.int .i64 y):=.w64 h ⟨h1,h2⟩
theorem aF{sl:List (Nat × AV)}{i:Nat}{v:AV}(h:lk sl i=some v:=by rfl)(hn:NN v:=by exact nn):∃w,lk sl i=some w/\Cv mem σ w v:=⟨v,h,.same v hn⟩
theorem jL.s{v:AV}{as bs:List AV}(hs:jL mem σ as bs)(hn:NN v:=by exact nn):jL mem σ (v::as) (v::bs):=.cons (.same v hn) hs
theorem aX{α:Type}{a:α}{q:Prop}(h:q):a=a/\q:=⟨rfl,h⟩
theorem aK{sl:List (Nat × AV)}{i id id' x y:Nat}(h:lk sl i=some (.ptr id x y):=by rfl)(h2:lk σ id=some id':=by rfl):∃w,lk sl i=some w/\Cv mem σ w (.ptr id' x y):=⟨_,h,.ptr id id' x y h2⟩
theorem aR{sl:List (Nat × AV)}{i:Nat}{v:AV}(hn:NN v)(h:lk sl i=some v:=by rfl):∃w,lk sl i=some w/\Cv mem σ w v:=⟨v,h,.same v hn⟩
theorem aJ{t:TypeId}{sz p:Nat}{ys:List AV}(id:Nat)(hn:iW ys)(h1:lk σ id=some p:=by rfl)(h2:lk mem id=some (.row t sz ys):=by rfl):∃id xs,lk σ id=some p/\lk mem id=some (.row t sz xs)/\qS mem σ xs ys:=⟨id,ys,h1,h2,.same hn⟩
theorem Rs{p q:Prop}(x:q)(e:q->p:=by(intro x;(repeat((first|refine bL.2 ?_|refine aX ?_);((conv=>whnf);(repeat(refine Xg ?_;conv=>whnf)))));exact x)):p:=e x
theorem Rt{p q:Prop}(x:q)(e:q->p:=by(intro x;(conv=>whnf);(repeat(refine Xg ?_;conv=>whnf));(repeat((first|refine bL.2 ?_|refine aX ?_);((conv=>whnf);(repeat(refine Xg ?_;conv=>whnf)))));exact x)):p:=e x
theorem Cv.bool{a b:Bool}(h:a=b):Cv mem σ (.bool a) (.bool b):=by rw[h];exact .same _ (.bool _)
theorem v5(k n:Int)(s:List UInt8):GJ mem σ (.agg [.int .i64 k,.int .i64 n,.str s,.nsl]) (bK (.mk k n s [])):=
 .agg (.cons (.same _ (.int _ _)) (.cons (.same _ (.int _ _)) (.cons (.same _ (.str _)) (.cons (.nil 4) .nil))))
end
theorem e7(l:List a7)(v:a7):aO (l++[v])=aO l++[bK v]:=by simp[eX]
theorem w64{x y:Int}(h:x=y)(hb:i64 y):IntKind.i64.wrap x=y:=by rw[h,cK hb]
theorem El{l:List a7}{k:Nat}(h:decide ((k:Int)<((aO l).length:Nat))=true):k<l.length:=by rw[aA] at h;simpa using h
theorem EM{l:List a7}{k:Nat}(h:decide ((k:Int)<((aO l).length:Nat))=false):l.length<=k:=by rw[aA] at h;simpa using h
theorem Cv.fzR{mem:aN}{σ:List (Nat × Nat)}{id len:Nat}{t:TypeId}{sz:Nat}{xs ys:List AV}(h1:lk mem id=some (.row t sz xs))(h2:lk σ id=none)(h3:qS mem σ xs ys)(h4:ys.length=len):Cv mem σ (.sl id 0 len) (.il sz ys):=
 .fz id 0 len t sz xs ys h1 h2 (by have:=h3.1;omega) h4 (fun i x y hx hy=>(h3.2 i x y (by simpa using hx) hy).1) (fun i x y j c c' hx hy hc hc'=>(h3.2 i x y (by simpa using hx) hy).2 j c c' hc hc')
section
variable {P:Program} {Γ:List (Nat × AV)} {F:FuncId} {args:List AV} {r:AV} {mem:aN} {nx:Nat} {K:AV->aN->Nat->Prop}
theorem a8.goG(h:a8 P [] F args r)(hk:K r mem nx)(ha:iW args:=by exact cW)(hr:NN r:=by exact nn):aG P Γ F args mem nx K:=(h.use bG ha hr hk).glob
theorem aG.goG0{Qs:AV->aN->Nat->Prop}(h:aG P [] F args [] 0 Qs)(hk:∀r m n,Qs r m n->∃r',Cv m [] r r'/\K r' mem nx)(ha:iW args:=by exact cW):aG P Γ F args mem nx K:=
 (aG.call0 bG h ha hk).glob
end
theorem Ml{l:List a7}{k n:Nat}(h:k<l.length)(hn:l.length=n):∃a b c d,a7.mk a b c d∈l/\l[k]? = some (a7.mk a b c d)/\l[k]=a7.mk a b c d/\(aO l)[0+(k:Int).toNat]? = some (bK (a7.mk a b c d))/\Nat.blt (k:Int).toNat n=true:=by
 obtain⟨a,b,c,d,h1,h2,h3,h4⟩:=bX h;exact⟨a,b,c,d,h1,h2,h3,by rw[Nat.zero_add];exact h4,Nat.ble_eq_true_of_le (by simp;omega)⟩
end Go.Ax
namespace Go.Ax
open Go
section
variable {P:Program} {Γ:List (Nat × AV)} {B:Nat}
structure a9(P:Program)(Γ:List (Nat × AV))(B:Nat)(c:Code)(s:St)(Q:Exit->St->Prop):Prop where
 run:dI P Γ B (.loop c) s Q
def GT(P:Program)(Γ:List (Nat × AV))(B:Nat)(y:Code)(Q:Exit->St->Prop)(e:Exit)(s:St):Prop:=
 match e with
 | .normal=>dI P Γ B y s Q
 | e=>Q e s
def zG(id:Nat)(Q:Exit->St->Prop)(e:Exit)(s:St):Prop:=
 match e with
 | .exit i=>match Nat.beq i id with
  | true=>Q .normal s
  | false=>Q (.exit i) s
 | e=>Q e s
theorem z5{ops:List Oper}{K:St->Prop}{Kp:Value->St->Prop}:∀{l:List Oper} {s:St},tQ P Γ (CO P Γ B) ops l s K (fun _ _=>False)->tQ P Γ (CO P Γ B) ops l s K Kp
 | [],s,h=>h
 | o::r,s,h=>by
  simp only[tQ] at h ⊢;split
  ·rename_i h1;simp only[h1] at h
  ·rename_i h1;simp only[h1] at h;split
   ·rename_i h2;simp only[h2] at h;exact z5 h
   ·rename_i h2;simp only[h2] at h
  ·rename_i h1;simp only[h1] at h;split
   ·rename_i h2;simp only[h2] at h;split
    ·rename_i h3;simp only[h3] at h;exact z5 h
    ·rename_i h3;simp only[h3] at h
   ·rename_i h2;simp only[h2] at h;split
    ·rename_i h3;simp only[h3] at h;refine aG.mono h fun v m n h=>?_
     split
     ·rename_i h4;simp only[h4] at h;exact z5 h
     ·rename_i h4;simp only[h4] at h
    ·rename_i h3;simp only[h3] at h;split at h<;>exact h.elim
theorem sU{ops:List Oper}{tr:List (List Nat)}{base:Nat}{K:St->Prop}{Kp:Value->aN->Nat->Prop}:∀{l:List Nat} {recs:List xQ} {s:St},nN P Γ (CO P Γ B) ops tr base K (fun _ _ _=>False) l recs s->nN P Γ (CO P Γ B) ops tr base K Kp l recs s
 | [],recs,s,h=>h
 | i::r,recs,s,h=>by
  simp only[nN] at h ⊢;split
  ·rename_i h1;simp only[h1] at h
  ·rename_i o h1;simp only[h1] at h;split
   ·rename_i h2;simp only[h2] at h
   ·rename_i h2;simp only[h2] at h;split
    ·rename_i h3;simp only[h3] at h;exact sU h
    ·rename_i h3;simp only[h3] at h
   ·rename_i h2;simp only[h2] at h;split
    ·rename_i hk;simp only[hk] at h;split
     ·rename_i h3;simp only[h3] at h;split
      ·rename_i h4;simp only[h4] at h;exact sU h
      ·rename_i h4;simp only[h4] at h
     ·rename_i h3;simp only[h3] at h
    ·rename_i hk;simp only[hk] at h;split
     ·rename_i h3;simp only[h3] at h;split
      ·rename_i h4;simp only[h4] at h;exact sU h
      ·rename_i h4;simp only[h4] at h
     ·rename_i h3;split at h
      ·rename_i h4;exact(h3 _ _ _ _ h4).elim
      ·exact h
    ·rename_i hk;simp only[hk] at h;split
     ·rename_i h3;simp only[h3] at h;split
      ·rename_i h4;simp only[h4] at h;exact⟨h.1,sU h.2⟩
      ·rename_i h4;simp only[h4] at h
     ·rename_i h3;simp only[h3] at h;split
      ·rename_i h4;simp only[h4] at h;refine aG.mono h fun v m n h=>?_
       split
       ·rename_i h5;simp only[h5] at h;exact⟨h.1,sU h.2⟩
       ·rename_i h5;simp only[h5] at h
      ·rename_i h4;simp only[h4] at h
structure kH(P:Program)(Γ:List (Nat × AV))(B:Nat)(ops l:List Oper)(s:St)(K:St->Prop):Prop where
 run:tQ P Γ (CO P Γ B) ops l s K fun _ _=>False
def RN(P:Program)(Γ:List (Nat × AV))(B:Nat)(ops l:List Oper)(s:St)(K:St->Prop):Prop:=
 match l with
 | []=>K s
 | o::r=>Bc s fun sl mem nx nt=>mU ops sl o.guard
   (Bi false P Γ (CO P Γ B) sl mem nx o.op (fun v mem nx=>iU s o.dst v mem nx fun s'=>kH P Γ B ops r s' K) fun _ _ _=>False)
   (iU s o.dst (.tup []) mem nx fun s'=>kH P Γ B ops r s' K)
theorem kH.go{ops l:List Oper}{s:St}{K:St->Prop}(h:RN P Γ B ops l s K):kH P Γ B ops l s K:=by
 refine⟨?_⟩;cases l with
 | nil=>exact h
 | cons o r=>
  have h:mU ops s.sl o.guard (Bi false P Γ (CO P Γ B) s.sl s.mem s.nx o.op (fun v mem nx=>iU s o.dst v mem nx fun s'=>kH P Γ B ops r s' K) fun _ _ _=>False) (iU s o.dst (.tup []) s.mem s.nx fun s'=>kH P Γ B ops r s' K):=h;simp only[tQ];rcases qC h with⟨h1,h⟩|⟨h1,h⟩
  ·simp only[h1];rcases x9 h with⟨v,m,n,h2,h⟩|⟨h2,F,l,h3,h⟩
   ·obtain⟨s',h4,h⟩:=dJ h;simp only[h2,h4];exact h.run
   ·simp only[h2,h3];refine(show aG P Γ F l s.mem s.nx _ from h).mono fun v m n h=>?_
    obtain⟨s',h4,h⟩:=dJ h;simp only[h4];exact h.run
  ·obtain⟨s',h4,h⟩:=dJ h;simp only[h1,h4];exact h.run
structure JI(P:Program)(Γ:List (Nat × AV))(B:Nat)(ops:List Oper)(tr:List (List Nat))(base:Nat)(K:St->Prop)(l:List Nat)(recs:List xQ)(s:St):Prop where
 run:nN P Γ (CO P Γ B) ops tr base K (fun _ _ _=>False) l recs s
def Qu(P:Program)(Γ:List (Nat × AV))(B:Nat)(ops:List Oper)(tr:List (List Nat))(base:Nat)(K:St->Prop)(l:List Nat)(recs:List xQ)(s:St):Prop:=
 match l with
 | []=>K s
 | i::r=>match ops[i]? with
  | none=>False
  | some o=>Bc s fun sl mem nx nt=>mU ops sl o.guard
   (match kind P o.op with
    | .pure=>match still o.op with
     | true=>n4 false P Γ sl [] nx o.op fun v _ _=>iU s o.dst v mem nx fun s'=>JI P Γ B ops tr base K r (⟨i,sl,true,v⟩::recs) s'
     | false=>fA (fun p=>EQ tr base ops.length i p.1) mem fun m=>n4 false P Γ sl m nx o.op fun v _ _=>iU s o.dst v mem nx fun s'=>JI P Γ B ops tr base K r (⟨i,sl,true,v⟩::recs) s'
    | .al=>l9 (base+i) fun id=>n4 false P Γ sl [] id o.op fun v m _=>match m with
     | [(_,b)]=>iU s o.dst v ((id,b)::mem) nx fun s'=>JI P Γ B ops tr base K r (⟨i,sl,true,v⟩::recs) s'
     | _=>False
    | .eff=>fA (fun p=>EQ tr base ops.length i p.1) mem fun m=>Bi false P Γ (CO P Γ B) sl m nx o.op (fun v m nx'=>fA (fun p=>!EQ tr base ops.length i p.1) mem fun rest=>fA (fun p=>!pO p.1 m) rest fun rest=>yA m rest fun m=>
      iU s o.dst v m nx' fun s'=>pN false P Γ ops tr base i m nx' recs (JI P Γ B ops tr base K r recs s')) fun _ _ _=>False)
   (iU s o.dst (.tup []) mem nx fun s'=>JI P Γ B ops tr base K r (⟨i,sl,false,.tup []⟩::recs) s')
theorem JI.go{ops:List Oper}{tr:List (List Nat)}{base:Nat}{K:St->Prop}{l:List Nat}{recs:List xQ}{s:St}(h:Qu P Γ B ops tr base K l recs s):JI P Γ B ops tr base K l recs s:=by
 refine⟨?_⟩;cases l with
 | nil=>exact h
 | cons i r=>
  simp only[Qu] at h;simp only[nN];split at h
  ·exact h.elim
  ·rename_i o ho;simp only[ho];have h:=jU.1 h;rcases qC h with⟨h1,h⟩|⟨h1,h⟩
   ·simp only[h1];split at h
    ·rename_i hkd;simp only[hkd];split at h
     ·rename_i hst;obtain⟨v,m,n,h2,h⟩:=iO (s:={ sl:=s.sl,mem:=[],nx:=s.nx,nt:=s.nt }) h;obtain⟨m',n',h2'⟩:=nX (s:={ sl:=s.sl,mem:=[],nx:=s.nx,nt:=s.nt }) (s':={ s with mem:=eD tr base ops.length i s.mem }) hst rfl h2;obtain⟨s',h3,h⟩:=dJ h;simp only[h2',h3];exact h.run
     ·have h:=bY.1 h;obtain⟨v,m,n,h2,h⟩:=iO (s:={ s with mem:=eD tr base ops.length i s.mem }) h;obtain⟨s',h3,h⟩:=dJ h;simp only[h2,h3];exact h.run
    ·rename_i hkd;simp only[hkd];have h:=dB.1 h;obtain⟨v,m,n,h2,h⟩:=iO (s:={ s with mem:=[],nx:=base+i }) h;simp only[h2];split at h
     ·obtain⟨s',h3,h⟩:=dJ h;simp only[h3];exact h.run
     ·exact h.elim
    ·rename_i hkd;simp only[hkd];have h:=bY.1 h;rcases x9 (s:={ s with mem:=eD tr base ops.length i s.mem }) h with⟨v,m,n,h2,h⟩|⟨h2,F,l,h3,h⟩
     ·simp only[h2];have h:=fN.1 (bY.1 (bY.1 h));obtain⟨s',h3,h⟩:=dJ h;have h3:dT s o.dst v (m++oJ m (eR tr base ops.length i s.mem)) n=some s':=h3;simp only[h3];obtain⟨e1,e2,_⟩:=eS h3;have h:pN false P Γ ops tr base i (m++oJ m (eR tr base ops.length i s.mem)) n recs (JI P Γ B ops tr base K r recs s'):=h;rw[←e1,←e2] at h;obtain⟨h4,h⟩:=lW h;exact⟨h4,h.run⟩
     ·rw[n7 (s':=s) (fun x _=>by cases x<;>rfl)] at h3;simp only[h2,h3];refine(show aG P Γ F l _ _ _ from h).mono fun v m n h=>?_
      have h:=fN.1 (bY.1 (bY.1 h));obtain⟨s',h3,h⟩:=dJ h;have h3:dT s o.dst v (m++oJ m (eR tr base ops.length i s.mem)) n=some s':=h3;simp only[h3];obtain⟨e1,e2,_⟩:=eS h3;have h:pN false P Γ ops tr base i (m++oJ m (eR tr base ops.length i s.mem)) n recs (JI P Γ B ops tr base K r recs s'):=h;rw[←e1,←e2] at h;obtain⟨h4,h⟩:=lW h;exact⟨h4,h.run⟩
   ·obtain⟨s',h3,h⟩:=dJ h;simp only[h1,h3];exact h.run
def N5(P:Program)(Γ:List (Nat × AV))(B:Nat)(ops:List Oper)(s:St)(Q:Exit->St->Prop):Prop:=
 match P.follows .mixedOrders with
 | true=>match xO P ops (qU P ops ops.length [] (vG ops.length)) with
  | true=>Bc s fun sl mem nx nt=>l9 (nx+ops.length) fun n=>sJ (qU P ops ops.length [] (vG ops.length)) fun ord=>JI P Γ B ops (HD ops []) nx (fun s'=>Q .normal s') ord [] ⟨sl,mem,n,nt⟩
  | false=>False
 | false=>False
def O2(Q:Exit->St->Prop)(e:Exit)(s:St):Prop:=
 match e with
 | .goto _=>False
 | e=>Q e s
def Oa(P:Program)(Γ:List (Nat × AV))(B:Nat)(c:Code)(s:St)(Q:Exit->St->Prop):Prop:=
 match c with
 | .skip=>Q .normal s
 | .seq x y=>dI P Γ B x s (GT P Γ B y Q)
 | .cond c x y=>Bc s fun sl _ _ _=>i5 Γ sl c fun v=>match v with
  | .bool b=>JK b (dI P Γ B x s Q) (dI P Γ B y s Q)
  | _=>False
 | .block id c=>dI P Γ B c s (zG id Q)
 | .loop c=>a9 P Γ B c s Q
 | .label _=>Q .normal s
 | .scope c=>dI P Γ B c s (O2 Q)
 | .exit i=>Q (.exit i) s
 | .ret=>Q .ret s
 | .region _ ops draw=>match draw with
  | false=>kH P Γ B ops.toList ops.toList s fun s'=>Q .normal s'
  | true=>N5 P Γ B ops.toList s Q
 | .rangeFunc g ps ca cb=>vJ false P Γ (CO P Γ B) (.rangeFunc g ps ca cb) s Q
 | _=>False
theorem dI.go{c:Code}{s:St}{Q:Exit->St->Prop}(h:Oa P Γ B c s Q):dI P Γ B c s Q:=by
 cases c with
 | skip=>exact dS (cl:=false) qH .skip s Q h
 | exit i=>exact dS (cl:=false) qH (.exit i) s Q h
 | ret=>exact dS (cl:=false) qH .ret s Q h
 | loop c=>exact(show a9 P Γ B c s Q from h).run
 | label l=>exact dS (cl:=false) qH (.label l) s Q h
 | rangeFunc g ps ca cb=>exact dS (cl:=false) qH (.rangeFunc g ps ca cb) s Q h
 | scope c=>
  have h:dI P Γ B c s (O2 Q):=h;refine⟨fun rd X ds D ρ a w hD hs hB hr=>A5 (wpIn_mono (h.run rd X ds D ρ a w hD hs hB hr.scope) ?_)⟩;rintro e a' w' ⟨s',ρ',hq,hB',hs',hext⟩;cases e with
  | goto l=>exact(show False from hq).elim
  | normal=>exact⟨s',ρ',hq,hB',hs',hext⟩
  | exit i=>exact⟨s',ρ',hq,hB',hs',hext⟩
  | ret=>exact⟨s',ρ',hq,hB',hs',hext⟩
  | panic c=>exact⟨s',ρ',hq,hB',hs',hext⟩
  | outgrown=>exact⟨s',ρ',hq,hB',hs',hext⟩
 | seq x y=>
  have h:dI P Γ B x s (GT P Γ B y Q):=h;refine⟨fun rd X ds D ρ a w hD hs hB hr=>wpIn_seq (wpIn_mono (h.run rd X ds D ρ a w hD hs hB hr.seq1) ?_)⟩;rintro e a' w' ⟨s',ρ',hq,hB',hs',hext⟩;cases e with
  | normal=>
   refine wpIn_mono ((show dI P Γ B y s' Q from hq).run rd X ds D ρ' a' w' hD hs' hB' hr.seq2) ?_;rintro e a2 w2 ⟨s2,ρ2,h1,h2,h3,h4⟩;exact⟨s2,ρ2,h1,h2,h3,hext.trans h4⟩
  | exit i=>exact⟨s',ρ',hq,hB',hs',hext⟩
  | goto l=>exact⟨s',ρ',hq,hB',hs',hext⟩
  | ret=>exact⟨s',ρ',hq,hB',hs',hext⟩
  | panic c=>exact⟨s',ρ',hq,hB',hs',hext⟩
  | outgrown=>exact⟨s',ρ',hq,hB',hs',hext⟩
 | cond c x y=>
  have h:i5 Γ s.sl c fun v=>match v with
   | .bool b=>JK b (dI P Γ B x s Q) (dI P Γ B y s Q)
   | _=>False:=h
  obtain⟨v,h1,h⟩:=bS h;split at h
  ·rename_i b;refine⟨fun rd X ds D ρ a w hD hs hB hr=>?_⟩;have hv:=aV hs h1;generalize he:a.eval c=cv at hv;cases hv;cases b with
   | true=>exact wpIn_cond_true he ((show dI P Γ B x s Q from h).run rd X ds D ρ a w hD hs hB hr.cond1)
   | false=>exact wpIn_cond_false he ((show dI P Γ B y s Q from h).run rd X ds D ρ a w hD hs hB hr.cond2)
  ·exact h.elim
 | block id c=>
  have h:dI P Γ B c s (zG id Q):=h;refine⟨fun rd X ds D ρ a w hD hs hB hr=>wpIn_block (wpIn_mono (h.run rd X ds D ρ a w hD hs hB hr.block) ?_)⟩;rintro e a' w' ⟨s',ρ',hq,hB',hs',hext⟩;cases e with
  | exit i=>
   simp only[Exit.inBlock];simp only[zG] at hq;split at hq
   ·rename_i hi;rw[if_pos (Nat.eq_of_beq_eq_true hi)];exact⟨s',ρ',hq,hB',hs',hext⟩
   ·rename_i hi;rw[if_neg (Nat.ne_of_beq_eq_false hi)];exact⟨s',ρ',hq,hB',hs',hext⟩
  | normal=>exact⟨s',ρ',hq,hB',hs',hext⟩
  | goto l=>exact⟨s',ρ',hq,hB',hs',hext⟩
  | ret=>exact⟨s',ρ',hq,hB',hs',hext⟩
  | panic c=>exact⟨s',ρ',hq,hB',hs',hext⟩
  | outgrown=>exact⟨s',ρ',hq,hB',hs',hext⟩
 | region id ops draw=>
  cases draw with
  | false=>exact o5 qH (.region id ops false) s Q (z5 (show kH P Γ B ops.toList ops.toList s _ from h).run)
  | true=>
   refine o5 qH (.region id ops true) s Q ?_;have h:N5 P Γ B ops.toList s Q:=h;unfold N5 at h;simp only[A8];split at h
   ·rename_i hmix;simp only[hmix];split at h
    ·rename_i hok;simp only[CS,hok];exact sU (jF.1 (dB.1 (jU.1 h))).run
    ·exact h.elim
   ·exact h.elim
 | _=>exact(show False from h).elim
theorem aM{F:FuncId}{fn:Func}{c:Code}{args:List AV}{mem:aN}{nx:Nat}{Q:AV->aN->Nat->Prop}(hΓ:∀p∈Γ,NN p.2)(hf:P.funcs[F]? = some fn)(hb:fn.body=some c)
  (h:pK fn.ntmps args mem nx fun s=>dI P Γ nx c s (Na P fn.results.toList (kQ nx Q))) (hF:Nat.beq F YF=false:=by rfl):aG P Γ F args mem nx Q:=
 (t0 hf hb ((gV h).mono fun _ _ h=>Kw h) hF).turn hΓ
def Pb{α:Type}(B:Nat)(R:α->Prop)(I:α->St)(μ:α->Nat)(x:α)(Q:Exit->St->Prop)(e:Exit)(s:St):Prop:=
 match e with
 | .normal=>D5 B R I μ x s
 | e=>Q e s
theorem a9.at{c:Code}{s:St}{Q:Exit->St->Prop}{α:Type}(hΓ:∀p∈Γ,NN p.2)(R:α->Prop)(I:α->St)(μ:α->Nat)(x:α)(σ:List (Nat × Nat))(hx:R x)(h0:Conv B σ s (I x))
  (h:∀x,R x->dI P Γ B c (I x) (Pb B R I μ x Q)):a9 P Γ B c s Q:=by
 refine⟨dI.conv hΓ h0 ?_⟩;refine dI.loop (α:={ x:α // R x }) hΓ (fun x=>I x.1) (fun x=>μ x.1) (fun x=>?_) ⟨x,hx⟩;refine(h x.1 x.2).mono fun e s h=>?_
 cases e with
 | normal=>
  obtain⟨y,σ,hy,hc,hlt⟩:=(show D5 B R I μ x.1 s from h)
  exact⟨⟨y,hy⟩,σ,hc,hlt⟩
 | exit i=>exact h
 | goto l=>exact h
 | ret=>exact h
 | panic c=>exact h
 | outgrown=>exact h
theorem a9.ph{c:Code}{s:St}{Q:Exit->St->Prop}(t:TypeId)(sz:Nat)(h:a9 P Γ B c ⟨s.sl,(s.nx,.row t sz [])::s.mem,s.nx+1,s.nt⟩ Q):a9 P Γ B c s Q:=⟨dI.ph t sz h.run⟩
def DU(P:Program)(Γ:List (Nat × AV))(B:Nat)(ops:List Oper)(K:St->Prop)(next:List Oper->St->Prop)(l:List Oper)(s:St):Prop:=
 match l with
 | []=>K s
 | o::r=>Bc s fun sl mem nx nt=>mU ops sl o.guard
   (Bi false P Γ (CO P Γ B) sl mem nx o.op (fun v mem nx=>iU s o.dst v mem nx fun s'=>next r s') fun _ _ _=>False)
   (iU s o.dst (.tup []) mem nx fun s'=>next r s')
theorem n9{ops:List Oper}{K:St->Prop}{next:List Oper->St->Prop}(hn:∀r s,next r s->kH P Γ B ops r s K){l:List Oper}{s:St}(h:DU P Γ B ops K next l s):kH P Γ B ops l s K:=by
 refine⟨?_⟩;cases l with
 | nil=>exact h
 | cons o r=>
  have h:mU ops s.sl o.guard (Bi false P Γ (CO P Γ B) s.sl s.mem s.nx o.op (fun v mem nx=>iU s o.dst v mem nx fun s'=>next r s') fun _ _ _=>False) (iU s o.dst (.tup []) s.mem s.nx fun s'=>next r s'):=h;simp only[tQ];rcases qC h with⟨h1,h⟩|⟨h1,h⟩
  ·simp only[h1];rcases x9 h with⟨v,m,n,h2,h⟩|⟨h2,F,l,h3,h⟩
   ·obtain⟨s',h4,h⟩:=dJ h;simp only[h2,h4];exact(hn _ _ h).run
   ·simp only[h2,h3];refine(show aG P Γ F l s.mem s.nx _ from h).mono fun v m n h=>?_
    obtain⟨s',h4,h⟩:=dJ h;simp only[h4];exact(hn _ _ h).run
  ·obtain⟨s',h4,h⟩:=dJ h;simp only[h1,h4];exact(hn _ _ h).run
def LE(P:Program)(Γ:List (Nat × AV))(B:Nat)(next:Code->St->(Exit->St->Prop)->Prop)(c:Code)(s:St)(Q:Exit->St->Prop):Prop:=
 match c with
 | .seq x y=>next x s (GT P Γ B y Q)
 | .block id c=>next c s (zG id Q)
 | c=>Oa P Γ B c s Q
theorem rR{next:Code->St->(Exit->St->Prop)->Prop}(hn:∀c s Q,next c s Q->dI P Γ B c s Q){c:Code}{s:St}{Q:Exit->St->Prop}(h:LE P Γ B next c s Q):dI P Γ B c s Q:=by
 cases c with
 | seq x y=>exact dI.go (show Oa P Γ B (.seq x y) s Q from hn _ _ _ h)
 | block id c=>exact dI.go (show Oa P Γ B (.block id c) s Q from hn _ _ _ h)
 | _=>exact dI.go h
def PR(P:Program)(Γ:List (Nat × AV))(B:Nat)(ops:List Oper)(K:St->Prop)(l:List Oper)(s:St):Prop:=kH P Γ B ops l s K
theorem LW{ops:List Oper}{K:St->Prop}(l:List Oper)(s:St)(h:PR P Γ B ops K l s):kH P Γ B ops l s K:=h
def PG(P:Program)(Γ:List (Nat × AV))(B:Nat)(ops:List Oper)(K:St->Prop)(l:List Oper)(s:St):Prop:=DU P Γ B ops K (PR P Γ B ops K) l s
theorem LT{ops:List Oper}{K:St->Prop}(l:List Oper)(s:St)(h:PG P Γ B ops K l s):kH P Γ B ops l s K:=n9 LW h
def QF(P:Program)(Γ:List (Nat × AV))(B:Nat)(ops:List Oper)(K:St->Prop)(l:List Oper)(s:St):Prop:=DU P Γ B ops K (PG P Γ B ops K) l s
theorem Lg{ops:List Oper}{K:St->Prop}(l:List Oper)(s:St)(h:QF P Γ B ops K l s):kH P Γ B ops l s K:=n9 LT h
def QD(P:Program)(Γ:List (Nat × AV))(B:Nat)(ops:List Oper)(K:St->Prop)(l:List Oper)(s:St):Prop:=DU P Γ B ops K (QF P Γ B ops K) l s
theorem Mk{ops:List Oper}{K:St->Prop}(l:List Oper)(s:St)(h:QD P Γ B ops K l s):kH P Γ B ops l s K:=n9 Lg h
def O7(P:Program)(Γ:List (Nat × AV))(B:Nat)(ops:List Oper)(K:St->Prop)(l:List Oper)(s:St):Prop:=DU P Γ B ops K (QD P Γ B ops K) l s
theorem Lt{ops:List Oper}{K:St->Prop}(l:List Oper)(s:St)(h:O7 P Γ B ops K l s):kH P Γ B ops l s K:=n9 Mk h
def PT(P:Program)(Γ:List (Nat × AV))(B:Nat)(ops:List Oper)(K:St->Prop)(l:List Oper)(s:St):Prop:=DU P Γ B ops K (O7 P Γ B ops K) l s
theorem Mc{ops:List Oper}{K:St->Prop}(l:List Oper)(s:St)(h:PT P Γ B ops K l s):kH P Γ B ops l s K:=n9 Lt h
def Px(P:Program)(Γ:List (Nat × AV))(B:Nat)(ops:List Oper)(K:St->Prop)(l:List Oper)(s:St):Prop:=DU P Γ B ops K (PT P Γ B ops K) l s
theorem Lk{ops:List Oper}{K:St->Prop}(l:List Oper)(s:St)(h:Px P Γ B ops K l s):kH P Γ B ops l s K:=n9 Mc h
def PX(P:Program)(Γ:List (Nat × AV))(B:Nat)(ops:List Oper)(K:St->Prop)(l:List Oper)(s:St):Prop:=DU P Γ B ops K (Px P Γ B ops K) l s
theorem La{ops:List Oper}{K:St->Prop}(l:List Oper)(s:St)(h:PX P Γ B ops K l s):kH P Γ B ops l s K:=n9 Lk h
def QM(P:Program)(Γ:List (Nat × AV))(B:Nat)(ops:List Oper)(K:St->Prop)(l:List Oper)(s:St):Prop:=DU P Γ B ops K (PX P Γ B ops K) l s
theorem Mh{ops:List Oper}{K:St->Prop}(l:List Oper)(s:St)(h:QM P Γ B ops K l s):kH P Γ B ops l s K:=n9 La h
def Pd(P:Program)(Γ:List (Nat × AV))(B:Nat)(ops:List Oper)(K:St->Prop)(l:List Oper)(s:St):Prop:=DU P Γ B ops K (QM P Γ B ops K) l s
theorem LN{ops:List Oper}{K:St->Prop}(l:List Oper)(s:St)(h:Pd P Γ B ops K l s):kH P Γ B ops l s K:=n9 Mh h
def JQ(P:Program)(Γ:List (Nat × AV))(B:Nat)(ops:List Oper)(K:St->Prop)(l:List Oper)(s:St):Prop:=DU P Γ B ops K (Pd P Γ B ops K) l s
theorem J0{ops:List Oper}{K:St->Prop}(l:List Oper)(s:St)(h:JQ P Γ B ops K l s):kH P Γ B ops l s K:=n9 LN h
theorem kH.many{ops l:List Oper}{s:St}{K:St->Prop}(h:JQ P Γ B ops K l s):kH P Γ B ops l s K:=J0 l s h
def Pg(P:Program)(Γ:List (Nat × AV))(B:Nat)(c:Code)(s:St)(Q:Exit->St->Prop):Prop:=dI P Γ B c s Q
theorem Mm(c:Code)(s:St)(Q:Exit->St->Prop)(h:Pg P Γ B c s Q):dI P Γ B c s Q:=h
def NQ(P:Program)(Γ:List (Nat × AV))(B:Nat)(c:Code)(s:St)(Q:Exit->St->Prop):Prop:=LE P Γ B (Pg P Γ B) c s Q
theorem Hs(c:Code)(s:St)(Q:Exit->St->Prop)(h:NQ P Γ B c s Q):dI P Γ B c s Q:=rR Mm h
def Ot(P:Program)(Γ:List (Nat × AV))(B:Nat)(c:Code)(s:St)(Q:Exit->St->Prop):Prop:=LE P Γ B (NQ P Γ B) c s Q
theorem Lr(c:Code)(s:St)(Q:Exit->St->Prop)(h:Ot P Γ B c s Q):dI P Γ B c s Q:=rR Hs h
def Ou(P:Program)(Γ:List (Nat × AV))(B:Nat)(c:Code)(s:St)(Q:Exit->St->Prop):Prop:=LE P Γ B (Ot P Γ B) c s Q
theorem MF(c:Code)(s:St)(Q:Exit->St->Prop)(h:Ou P Γ B c s Q):dI P Γ B c s Q:=rR Lr h
def Pq(P:Program)(Γ:List (Nat × AV))(B:Nat)(c:Code)(s:St)(Q:Exit->St->Prop):Prop:=LE P Γ B (Ou P Γ B) c s Q
theorem Mf(c:Code)(s:St)(Q:Exit->St->Prop)(h:Pq P Γ B c s Q):dI P Γ B c s Q:=rR MF h
def PA(P:Program)(Γ:List (Nat × AV))(B:Nat)(c:Code)(s:St)(Q:Exit->St->Prop):Prop:=LE P Γ B (Pq P Γ B) c s Q
theorem MB(c:Code)(s:St)(Q:Exit->St->Prop)(h:PA P Γ B c s Q):dI P Γ B c s Q:=rR Mf h
def PY(P:Program)(Γ:List (Nat × AV))(B:Nat)(c:Code)(s:St)(Q:Exit->St->Prop):Prop:=LE P Γ B (PA P Γ B) c s Q
theorem Ls(c:Code)(s:St)(Q:Exit->St->Prop)(h:PY P Γ B c s Q):dI P Γ B c s Q:=rR MB h
def P5(P:Program)(Γ:List (Nat × AV))(B:Nat)(c:Code)(s:St)(Q:Exit->St->Prop):Prop:=LE P Γ B (PY P Γ B) c s Q
theorem LJ(c:Code)(s:St)(Q:Exit->St->Prop)(h:P5 P Γ B c s Q):dI P Γ B c s Q:=rR Ls h
def N2(P:Program)(Γ:List (Nat × AV))(B:Nat)(c:Code)(s:St)(Q:Exit->St->Prop):Prop:=LE P Γ B (P5 P Γ B) c s Q
theorem LF(c:Code)(s:St)(Q:Exit->St->Prop)(h:N2 P Γ B c s Q):dI P Γ B c s Q:=rR LJ h
theorem dI.many{c:Code}{s:St}{Q:Exit->St->Prop}(h:N2 P Γ B c s Q):dI P Γ B c s Q:=LF c s Q h
class XG(p:Prop)(q:outParam Prop):Prop where
 h:q->p
instance{c:Code}{s:St}{Q:Exit->St->Prop}:XG (dI P Γ B c s Q) (N2 P Γ B c s Q):=⟨dI.many⟩
instance{ops l:List Oper}{s:St}{K:St->Prop}:XG (kH P Γ B ops l s K) (JQ P Γ B ops K l s):=⟨kH.many⟩
instance{ops:List Oper}{tr:List (List Nat)}{base:Nat}{K:St->Prop}{l:List Nat}{recs:List xQ}{s:St}:XG (JI P Γ B ops tr base K l recs s) (Qu P Γ B ops tr base K l recs s):=⟨JI.go⟩
theorem Xg{p q:Prop}[i:XG p q](x:q):p:=i.h x
theorem Rr{p q:Prop}(x:q)(e:q->p:=by(intro x;(conv=>whnf);(repeat(refine Xg ?_;conv=>whnf));exact x)):p:=e x
end
end Go.Ax
namespace Go.Ax
open Go
def zH(i:Nat):List Nat->Bool
 | []=>false
 | j::r=>match Nat.beq j i with
  | true=>true
  | false=>zH i r
def lP(ids:List Nat):aN->aN
 | []=>[]
 | (k,b)::r=>match zH k ids with
  | true=>(k,b)::lP ids r
  | false=>lP ids r
def fE(ids:List Nat):aN->aN
 | []=>[]
 | (k,b)::r=>match zH k ids with
  | true=>fE ids r
  | false=>(k,b)::fE ids r
def oP:List Nat->List (Nat × Nat)
 | []=>[]
 | i::r=>(i,i)::oP r
def Ht(n:Nat):List Nat->Bool
 | []=>true
 | i::r=>Nat.blt i n && Ht n r
def Ag(ids:List Nat):aN->Bool
 | []=>true
 | (k,_)::r=>zH k ids && Ag ids r
theorem dF{ids:List Nat}:∀{m:aN} {p:Nat × AB},p∈lP ids m↔p∈m/\zH p.1 ids=true
 | [],p=>by simp[lP]
 | (k,b)::r,p=>by
  simp only[lP];split
  ·rename_i h;rw[List.mem_cons,dF (m:=r),List.mem_cons];constructor
   ·rintro(rfl|⟨h1,h2⟩)
    ·exact⟨.inl rfl,h⟩
    ·exact⟨.inr h1,h2⟩
   ·rintro⟨rfl|h1,h2⟩
    ·exact .inl rfl
    ·exact .inr ⟨h1,h2⟩
  ·rename_i h;rw[dF (m:=r),List.mem_cons];constructor
   ·rintro⟨h1,h2⟩;exact⟨.inr h1,h2⟩
   ·rintro⟨rfl|h1,h2⟩
    ·rw[h] at h2;cases h2
    ·exact⟨h1,h2⟩
theorem cP{ids:List Nat}:∀{m:aN} {p:Nat × AB},p∈fE ids m↔p∈m/\zH p.1 ids=false
 | [],p=>by simp[fE]
 | (k,b)::r,p=>by
  simp only[fE];split
  ·rename_i h;rw[cP (m:=r),List.mem_cons];constructor
   ·rintro⟨h1,h2⟩;exact⟨.inr h1,h2⟩
   ·rintro⟨rfl|h1,h2⟩
    ·rw[h] at h2;cases h2
    ·exact⟨h1,h2⟩
  ·rename_i h;rw[List.mem_cons,cP (m:=r),List.mem_cons];constructor
   ·rintro(rfl|⟨h1,h2⟩)
    ·exact⟨.inl rfl,h⟩
    ·exact⟨.inr h1,h2⟩
   ·rintro⟨rfl|h1,h2⟩
    ·exact .inl rfl
    ·exact .inr ⟨h1,h2⟩
theorem kR{ids:List Nat}:∀(m:aN),(lP ids m).Sublist m
 | []=>by simp[lP]
 | (k,b)::r=>by
  simp only[lP];split
  ·exact(kR r).cons_cons _
  ·exact(kR r).cons _
theorem kT{ids:List Nat}:∀(m:aN),(fE ids m).Sublist m
 | []=>by simp[fE]
 | (k,b)::r=>by
  simp only[fE];split
  ·exact(kT r).cons _
  ·exact(kT r).cons_cons _
theorem BE:∀{ids:List Nat} {i j:Nat},lk (oP ids) i=some j->i=j/\zH i ids=true
 | [],i,j,h=>by simp[oP,lk] at h
 | k::r,i,j,h=>by
  simp only[oP,lk] at h;split at h
  ·rename_i e;cases h;exact⟨(Nat.eq_of_beq_eq_true e).symm,by simp only[zH,e]⟩
  ·rename_i e;obtain⟨h1,h2⟩:=BE h;exact⟨h1,by simp only[zH,e];exact h2⟩
theorem Je:∀{ids:List Nat} {i:Nat},zH i ids=true->lk (oP ids) i=some i
 | [],i,h=>by simp[zH] at h
 | k::r,i,h=>by
  simp only[zH] at h;simp only[oP,lk];split at h
  ·rename_i e;rw[e,Nat.eq_of_beq_eq_true e]
  ·rename_i e;rw[e];exact Je h
theorem sI:∀{ids:List Nat} {n i:Nat},Ht n ids=true->zH i ids=true->i<n
 | [],n,i,_,h=>by simp[zH] at h
 | k::r,n,i,h1,h=>by
  simp only[Ht,Bool.and_eq_true] at h1;simp only[zH] at h;split at h
  ·rename_i e;rw[←Nat.eq_of_beq_eq_true e];exact Nat.le_of_ble_eq_true h1.1
  ·exact sI h1.2 h
theorem pQ:∀{m:aN} {ids:List Nat},Ag ids m=true->∀p∈m,zH p.1 ids=true
 | [],ids,_,p,hp=>by cases hp
 | (k,b)::r,ids,h,p,hp=>by
  simp only[Ag,Bool.and_eq_true] at h;rcases List.mem_cons.1 hp with rfl|hp
  ·exact h.1
  ·exact pQ h.2 p hp
theorem aG.useI{P:Program}{Γ:List (Nat × AV)}{F:FuncId}{args args':List AV}{ms mem:aN}{ns nx:Nat}{Qs K:AV->aN->Nat->Prop}(hΓ:∀p∈Γ,NN p.2)(ids:List Nat)(h:aG P Γ F args' ms ns Qs)
  (hp:lP ids mem=ms) (hargs:jL ms (oP ids) args args') (hM:cM ms (oP ids) ms) (hc:(kW ms && Ht ns ids)=true)
  (hk:∀r m n,Qs r m n->NN r/\cM m (oP ids) m/\(kW m && Ag ids m)=true/\K r (m++fE ids mem) nx):aG P Γ F args mem nx K:=by
 simp only[Bool.and_eq_true] at hc;refine⟨fun X D ρ w vs hD hm hv=>?_⟩;have hinj:Gx (oP ids):=fun i j k h1 h2=>by
  have a:=(BE h1).1;have b:=(BE h2).1;omega
 refine(aG.use (K:=K) (nx:=nx) hΓ h (oP ids) (m1:=ms) (rest:=fE ids mem) ⟨fun p hp'=>?_,fun p hp'=>(cP.1 hp').1,fun p hp'=>?_,fun p h1 q h2=>?_, ?_⟩ ?_ hargs hM.cvm (dE hc.1) hinj (fun id i hl=>?_) ?_).run X D ρ w vs hD hm hv
 ·rw[←hp] at hp';exact(dF.1 hp').1
 ·cases hi:zH p.1 ids with
  | true=>left;rw[←hp];exact dF.2 ⟨hp',hi⟩
  | false=>right;exact cP.2 ⟨hp',hi⟩
 ·rw[←hp] at h1;have a:=(dF.1 h1).2;have b:=(cP.1 h2).2;intro e;rw[e,b] at a;cases a
 ·rw[←hp];exact hm.nod.sublist ((kR mem).map _)
 ·exact hm.nod.sublist ((kT mem).map _)
 ·obtain⟨h1,h2⟩:=BE hl;rw[←h1];exact sI hc.2 h2
 ·intro r m n hq hn;obtain⟨h1,h2,h3,h4⟩:=hk r m n hq;simp only[Bool.and_eq_true] at h3;refine⟨oP ids,r,m,nx,Nat.le_refl _,.same r h1,h2.cvm,dE h3.1,hinj,fun i id hl=>?_,fun p h5 q h6=>?_,h4⟩
  ·obtain⟨e1,e2⟩:=BE hl;subst e1;exact .inl ⟨sI hc.2 e2,Je e2⟩
  ·have a:=pQ h3.2 p h5;have b:=(cP.1 h6).2;intro e;rw[e,b] at a;cases a
def fF:List (Nat × Nat)->List Nat
 | []=>[]
 | (i,_)::r=>i::fF r
def DH:List (Nat × Nat)->List (Nat × Nat)
 | []=>[]
 | (i,j)::r=>(j,i)::DH r
def rK(n:Nat):List (Nat × Nat)->Bool
 | []=>true
 | (_,j)::r=>Nat.blt j n && rK n r
theorem BW:∀{σ:List (Nat × Nat)} {i j:Nat},(j,i)∈DH σ↔(i,j)∈σ
 | [],i,j=>by simp[DH]
 | (a,b)::r,i,j=>by
  simp only[DH,List.mem_cons,BW (σ:=r),Prod.mk.injEq];constructor
  ·rintro(⟨rfl,rfl⟩|h)
   ·exact .inl ⟨rfl,rfl⟩
   ·exact .inr h
  ·rintro(⟨rfl,rfl⟩|h)
   ·exact .inl ⟨rfl,rfl⟩
   ·exact .inr h
theorem IA{σ:List (Nat × Nat)}(h:lC (DH σ)=true){i j:Nat}(hm:(i,j)∈σ):lk σ i=some j:=by
 induction σ with
 | nil=>cases hm
 | cons p r ih=>
  obtain⟨a,b⟩:=p;simp only[DH,lC,Bool.and_eq_true] at h;simp only[lk];rcases List.mem_cons.1 hm with e|hm'
  ·cases e;simp
  ·have hne:a≠i:=by
    intro e;subst e;exact nR h.1 _ (BW.2 hm') rfl
   rw[qE hne];exact ih h.2 hm'
theorem jN:∀{σ:List (Nat × Nat)} {n:Nat},rK n σ=true->∀p∈σ,p.2<n
 | [],n,_,p,hp=>by cases hp
 | (a,b)::r,n,h,p,hp=>by
  simp only[rK,Bool.and_eq_true] at h;rcases List.mem_cons.1 hp with rfl|hp
  ·exact Nat.le_of_ble_eq_true h.1
  ·exact jN h.2 p hp
theorem aG.useR{P:Program}{Γ:List (Nat × AV)}{F:FuncId}{args args':List AV}{ms mem m1:aN}{ns nx:Nat}{Qs K:AV->aN->Nat->Prop}(hΓ:∀p∈Γ,NN p.2)(σ:List (Nat × Nat))(h:aG P Γ F args' ms ns Qs)
  (hp:lP (fF σ) mem=m1) (hargs:jL m1 σ args args') (hM:cM m1 σ ms) (hc:(kW ms && (lC σ && (lC (DH σ) && rK ns σ)))=true)
  (hk:∀r m n,Qs r m n->∃m',NN r/\cM m (DH σ) m'/\(kW m' && Ag (fF σ) m')=true/\K r (m'++fE (fF σ) mem) nx):aG P Γ F args mem nx K:=by
 simp only[Bool.and_eq_true] at hc;obtain⟨hc1,hc2,hc3,hc4⟩:=hc;refine⟨fun X D ρ w vs hD hm hv=>?_⟩;refine(aG.use (K:=K) (nx:=nx) hΓ h σ (m1:=m1) (rest:=fE (fF σ) mem) ⟨fun p hp'=>?_,fun p hp'=>(cP.1 hp').1,fun p hp'=>?_,fun p h1 q h2=>?_, ?_⟩ ?_ hargs hM.cvm (dE hc1) (kA hc2) (fun id i hl=>jN hc4 _ (bA hl)) ?_).run X D ρ w vs hD hm hv
 ·rw[←hp] at hp';exact(dF.1 hp').1
 ·cases hi:zH p.1 (fF σ) with
  | true=>left;rw[←hp];exact dF.2 ⟨hp',hi⟩
  | false=>right;exact cP.2 ⟨hp',hi⟩
 ·rw[←hp] at h1;have a:=(dF.1 h1).2;have b:=(cP.1 h2).2;intro e;rw[e,b] at a;cases a
 ·rw[←hp];exact hm.nod.sublist ((kR mem).map _)
 ·exact hm.nod.sublist ((kT mem).map _)
 ·intro r m n hq hn;obtain⟨m',h1,h2,h3,h4⟩:=hk r m n hq;simp only[Bool.and_eq_true] at h3;refine⟨DH σ,r,m',nx,Nat.le_refl _,.same r h1,h2.cvm,dE h3.1,kA hc3,fun i id hl=>?_,fun p h5 q h6=>?_,h4⟩
  ·have hmem:=BW.1 (bA hl);exact .inl ⟨jN hc4 _ hmem,IA hc3 hmem⟩
  ·have a:=pQ h3.2 p h5;have b:=(cP.1 h6).2;intro e;rw[e,b] at a;cases a
end Go.Ax
namespace Go.Ax
open Go
def M9(w w':World):Prop:=w.heap.size<=w'.heap.size/\(∀b,b<w.heap.size->w'.heap[b]? = w.heap[b]?)/\CX w w'
theorem M9.refl(w:World):M9 w w:=⟨Nat.le_refl _,fun _ _=>rfl,.refl _⟩
section
variable {P:Program} {Γ:List (Nat × AV)} {F:FuncId} {args:List AV} {r:AV}
end
end Go.Ax
namespace Go.Ax
open Go Go.RowKit
theorem vF{P:Program}{w:World}{n:String}{g:Nat}{k:IntKind}{zs:List Int}(hg:P.globalNamed n=some g)(hv:Lib.TabIs P w n k zs) :
  VR (fun _=>⟨0,0,0⟩) (fun _=>False) (OX (fun _=>False) (fun _=>⟨0,0,0⟩) []) w (.ip (.agg (zs.map fun z=>AV.int k z))) (.pointer (some ⟨g,0,none⟩)):=by
 refine .ip _ g 0 (fun j=>.int k (zs.getD j 0)) (fun j c hj=>?_) (fun j c hj=>?_)
 ·have hj0:j<zs.length:=by have:=(List.getElem?_eq_some_iff.1 hj).1;simpa[AV.cells] using this
  exact⟨Jw _ _,by simpa using hv.cell hg j hj0,rfl⟩
 ·have hj0:j<zs.length:=by have:=(List.getElem?_eq_some_iff.1 hj).1;simpa[AV.cells] using this
  simp[AV.cells,List.getElem?_map,List.getElem?_eq_getElem hj0] at hj;subst hj;simp[List.getD_eq_getElem?_getD,List.getElem?_eq_getElem hj0];exact .int _ _
end Go.Ax
namespace Go.Ax
open Go Go.RowKit Go.ChangeShapes
theorem xF{H:Type}{P:Program}{t:TypeId}{ts:List TypeId}{d:DataW H}{r:List (DataW H)}{p:Nat->Bool}(h:(DataW.weightsEach P (t::ts) (d::r)).all p=true):(d.weights P t).all p=true:=by
 rw[DataW.weightsEach,List.all_append,Bool.and_eq_true] at h;exact h.1
theorem AZ{P:Program}{H:Type}{enc:TypeId × Value->H}{w:World}{t e:TypeId}{b0:Nat}{v:Value}{d:DataW H}{ps:List MemPlace}
  (ht:P.underlying t=some (.slice e)) (he:P.underlying e=some (.int .i64)) (hc:P.cellsOf e=1) (hby:P.bytesOf e=8) (hval:Value.okWide P w .any b0 t v) (h:DataW.Trod enc P w 0 (fun _=>true) true t v d ps)
  (hsz:(d.weights P t).all (· <= reachBytes)=true) :
  ∃l:List Int,(∀x∈l,i64 x)/\VR (fun _=>⟨0,0,0⟩) (fun _=>False) (OX (fun _=>False) (fun _=>⟨0,0,0⟩) []) w (.il 1 (aT l)) v/\l.length<=17592186043904:=by
 obtain⟨a0,len0,cap0,rfl⟩:=WideShapes.okWide_slice ht hval;obtain⟨n,hn⟩:=h;rcases ChangeShapes.open_ints ht he hc hn with⟨hcs,_⟩|⟨a,len,cap,zs,hcs,_,hl,_,hz,hx,hcell,hwf⟩
 ·simp[Value.cells] at hcs;obtain⟨rfl,rfl,rfl⟩:=hcs;exact⟨[],by simp,.iln _,by simp⟩
 ·simp[Value.cells] at hcs;obtain⟨rfl,rfl,rfl⟩:=hcs;have hsp:a.spot=none:=by
   simp only[Value.okWide,ht,Cell.okWide,Cell.ok,World.has] at hval;exact hval.2.2.2.1
  simp only[if_true] at hz;obtain⟨rfl,-⟩:=Prod.mk.inj hx;have hlen:(zs.take len0).length<=17592186043904:=by
   rw[DataW.weights,ht] at hsz;simp only[List.all_cons,Bool.and_eq_true,hby] at hsz;have h1:=of_decide_eq_true hsz.1;simp[lits,reachBytes] at h1;simp;omega
  refine⟨zs.take len0,fun x hx=>?_,Ha hsp hl om hcell,hlen⟩;have:=hwf x (List.mem_of_mem_take hx);have e1:IntKind.i64.min = -9223372036854775808:=rfl;have e2:IntKind.i64.max=9223372036854775807:=rfl;simp[Lit.wf,e1,e2] at this;unfold i64;omega
end Go.Ax
namespace Go.Ax
open Go Go.ChangeShapes Go.WideShapes Go.ChangeAt Go.RowKit Go.Lib
theorem jX{H:Type}{P:Program}{t:TypeId}{ts:List TypeId}{d:DataW H}{r:List (DataW H)}{p:Nat->Bool}(h:(DataW.weightsEach P (t::ts) (d::r)).all p=true):(DataW.weightsEach P ts r).all p=true:=by
 rw[DataW.weightsEach,List.all_append,Bool.and_eq_true] at h;exact h.2
end Go.Ax
namespace Go.Ax
open Go
structure Oc where
 kind:Int
 at_:Int
 code:Int
 deriving DecidableEq
structure Fl where
 path:List Int
 oc:Oc
structure Gr where
 min:List Int
 oc:Oc
 fs:List Fl
def KR(f:Fl):AV:=.agg [.il 1 (aT f.path),.int .i64 f.oc.kind,.int .i64 f.oc.at_,.int .i64 f.oc.code]
def jS(l:List Fl):List AV:=l.map KR
def oI(g:Gr):AV:=.agg [.il 1 (aT g.min),.int .i64 g.oc.kind,.int .i64 g.oc.at_,.int .i64 g.oc.code,.il 4 (jS g.fs)]
def eB(l:List Gr):List AV:=l.map oI
theorem HM(f:Fl):NN (KR f):=.agg' (.cons (.il' (aQ _)) (.cons nn (.cons nn (.cons nn .nil))))
theorem mZ(l:List Fl):iW (jS l):=fun a ha=>by
 obtain⟨f,_,rfl⟩:=List.mem_map.1 ha;exact HM f
theorem wG(g:Gr):NN (oI g):=.agg' (.cons (.il' (aQ _)) (.cons nn (.cons nn (.cons nn (.cons (.il' (mZ _)) .nil)))))
theorem eJ(l:List Gr):iW (eB l):=fun a ha=>by
 obtain⟨f,_,rfl⟩:=List.mem_map.1 ha;exact wG f
theorem pM(l:List Fl):(jS l).length=l.length:=by simp[jS]
theorem l7(l:List Gr):(eB l).length=l.length:=by simp[eB]
theorem v6{l:List Gr}{i:Nat}(h:i<l.length):(eB l)[((i:Nat):Int).toNat]? = some (oI l[i]):=by
 simp[eB,List.getElem?_eq_getElem h]
def pI(f b:Int)(o:Oc):Bool:=decide (o.kind=f) || decide (o.kind=b)
def oV(f b:Int)(x y:Oc):Bool:=pI f b x && decide (x=y)
theorem Ge(f b:Int)(x y:Oc):oV f b x y=oV f b y x:=by
 unfold oV;by_cases h:x=y
 ·subst h;rfl
 ·rw[decide_eq_false h,decide_eq_false (Ne.symm h)];simp
theorem GS(f b:Int)(x:Oc):oV f b x x=pI f b x:=by unfold oV;simp
def vL(f b:Int)(x y:Oc)(e1 e2:Int)(v1 v2:a7):Bool:=oV f b x y && (decide (e1=0) && (decide (e2=0) && (bW v1 v2 == 0)))
theorem GO(f b:Int)(x y:Oc)(e1 e2:Int)(v1 v2:a7):vL f b x y e1 e2 v1 v2=vL f b y x e2 e1 v2 v1:=by
 unfold vL;rw[Ge f b x y];have h:(bW v1 v2 == 0)=(bW v2 v1 == 0):=by
  rw[(iB v1).anti v2,Bool.eq_iff_iff,beq_iff_eq,beq_iff_eq];omega
 rw[h];cases oV f b y x<;>cases decide (e1=0)<;>cases decide (e2=0)<;>rfl
theorem Gh(f b:Int)(x:Oc)(e:Int)(v:a7):vL f b x x e e v v=(decide (e=0) && pI f b x):=by
 unfold vL;rw[GS,(iB v).refl];cases pI f b x<;>cases decide (e=0)<;>rfl
end Go.Ax
namespace Go.Ax
open Go
mutual
def bC:a7->Nat
 | .mk _ _ _ kids=>1+cE kids
def cE:List a7->Nat
 | []=>0
 | v::r=>bC v+cE r
end
mutual
def gF:a7->Nat
 | .mk _ _ _ kids=>eP kids+1
def eP:List a7->Nat
 | []=>0
 | v::r=>max (gF v) (eP r)
end
theorem uR:∀(l:List a7) (v:a7),cE (l++[v])=cE l+bC v
 | [],v=>by simp[cE]
 | a::r,v=>by simp only[List.cons_append,cE,uR r v];omega
theorem w8:∀(l m:List a7),cE (l++m)=cE l+cE m
 | [],v=>by simp[cE]
 | a::r,v=>by simp only[List.cons_append,cE,w8 r v];omega
theorem yH:∀(l:List a7) (v:a7),eP (l++[v])=max (eP l) (gF v)
 | [],v=>by simp[eP]
 | a::r,v=>by simp only[List.cons_append,eP,yH r v];omega
theorem Cm:∀v:a7,1<=bC v
 | .mk _ _ _ kids=>by simp only[bC];omega
theorem u6{l:List a7}{k:Nat}(h:k<l.length):cE (l.take (k+1))=cE (l.take k)+bC l[k]:=by
 rw[List.take_succ_eq_append_getElem h,uR]
theorem EN{l:List a7}{k:Nat}(h:k<l.length):eP (l.take (k+1))=max (eP (l.take k)) (gF l[k]):=by
 rw[List.take_succ_eq_append_getElem h,yH]
theorem oH(l:List a7)(k:Nat):cE (l.take k)<=cE l:=by
 have:=w8 (l.take k) (l.drop k);rw[List.take_append_drop] at this;omega
theorem B5{l:List a7}{v:a7}(h:v∈l):bC v<=cE l:=by
 induction l with
 | nil=>cases h
 | cons a r ih=>
  simp only[cE];rcases List.mem_cons.1 h with rfl|h
  ·omega
  ·have:=ih h;omega
theorem xT(l:List a7):l.length<=cE l:=by
 induction l with
 | nil=>simp
 | cons a r ih=>simp only[cE,List.length_cons];have:=Cm a;omega
mutual
theorem oD:∀v:a7,gF v<=bC v
 | .mk _ _ _ kids=>by simp only[gF,bC];have:=r7 kids;omega
theorem r7:∀l:List a7,eP l<=cE l
 | []=>by simp[eP]
 | v::r=>by simp only[eP,cE];have:=oD v;have:=r7 r;omega
end
def tO(c:Int):Bool:=(decide (97<=c) && decide (c<=122)) || (decide (65<=c) && decide (c<=90)) || (decide (48<=c) && decide (c<=57)) || decide (c=95)
def lY(c:Int):Bool:=decide (65<=c) && decide (c<=90)
def eG:List UInt8->Bool
 | []=>false
 | c::r=>decide (r.length<16) && lY c.toNat && r.all fun c=>tO c.toNat
theorem EJ{c:Int}(h:lY c=true):tO c=true:=by
 simp[lY,tO] at *;omega
def cS(k n:Int)(s:List UInt8)(len:Nat):Bool:=
 if k=0 then decide (s=[]) && decide (len=0)
 else if k=1 then(decide (n=0) || decide (n=1)) && decide (s=[]) && decide (len=0)
 else if k=2 then decide (n=0) && decide (s=[])
 else if k=3 then decide (n=0) && eG s
 else false
def tS(k:Int)(len:Nat):Bool:=decide (len<=256) && (decide (k≠3) || decide (len<=16))
mutual
def b8:a7->Bool
 | .mk k n s kids=>cS k n s kids.length && c8 kids
def c8:List a7->Bool
 | []=>true
 | v::r=>b8 v && c8 r
end
mutual
def CE:a7->Bool
 | .mk k _ _ kids=>tS k kids.length && AI kids
def AI:List a7->Bool
 | []=>true
 | v::r=>CE v && AI r
end
def xD(k:Int)(len:Nat):Bool:=(decide (k=2) && decide (256<len)) || (decide (k=3) && decide (16<len))
mutual
def lZ:a7->Bool
 | .mk k _ _ kids=>xD k kids.length || oR kids
def oR:List a7->Bool
 | []=>false
 | v::r=>lZ v || oR r
end
theorem GN{k n:Int}{s:List UInt8}{len:Nat}(h:cS k n s len=true):xD k len = !tS k len:=by
 rw[Bool.eq_iff_iff];unfold cS at h;simp only[xD,tS,Bool.or_eq_true,Bool.and_eq_true,decide_eq_true_eq,Bool.not_eq_true',Bool.and_eq_false_iff,Bool.or_eq_false_iff,decide_eq_false_iff_not];repeat' split at h
 all_goals simp at h
 all_goals omega
mutual
theorem Cp:∀v:a7,b8 v=true->lZ v = !CE v
 | .mk k n s kids,h=>by
  simp only[b8,Bool.and_eq_true] at h;rw[lZ,CE,GN h.1,Bb kids h.2,Bool.not_and]
theorem Bb:∀l:List a7,c8 l=true->oR l = !AI l
 | [],_=>rfl
 | v::r,h=>by
  simp only[c8,Bool.and_eq_true] at h;rw[oR,AI,Cp v h.1,Bb r h.2,Bool.not_and]
end
def fG(v:a7):Int:=if b8 v=false then 1 else if lZ v=true∨1024<bC v then 4 else 0
theorem mA{l:List a7}{k:Nat}(h:k<l.length):c8 (l.take (k+1))=(c8 (l.take k) && b8 l[k]):=by
 rw[List.take_succ_eq_append_getElem h];generalize l.take k=m
 induction m with
 | nil=>simp[c8]
 | cons a r ih=>simp only[List.cons_append,c8,ih,Bool.and_assoc]
theorem F5{l:List a7}{k:Nat}(h:k<l.length):oR (l.take (k+1))=(oR (l.take k) || lZ l[k]):=by
 rw[List.take_succ_eq_append_getElem h];generalize l.take k=m
 induction m with
 | nil=>simp[oR]
 | cons a r ih=>simp only[List.cons_append,oR,ih,Bool.or_assoc]
theorem lE:∀{l:List a7} {v:a7},v∈l->b8 v=false->c8 l=false
 | a::r,v,h,hf=>by
  simp only[c8];rcases List.mem_cons.1 h with rfl|h
  ·rw[hf];rfl
  ·rw[lE h hf];simp
theorem CU:∀{l:List a7} {v:a7},v∈l->lZ v=true->oR l=true
 | a::r,v,h,hf=>by
  simp only[oR];rcases List.mem_cons.1 h with rfl|h
  ·rw[hf];rfl
  ·rw[CU h hf];simp
mutual
def lU{S:Type}(st:S->a7->Nat->Bool × S):a7->Nat->S->Bool × S
 | .mk k n s kids,d,x=>match st x (.mk k n s kids) d with
  | (false,y)=>(false,y)
  | (true,y)=>nI st kids (d+1) y
def nI{S:Type}(st:S->a7->Nat->Bool × S):List a7->Nat->S->Bool × S
 | [],_,x=>(true,x)
 | v::r,d,x=>match lU st v d x with
  | (false,y)=>(false,y)
  | (true,y)=>nI st r d y
end
def cY(x:Nat × Bool × Bool)(v:a7)(_:Nat):Bool × (Nat × Bool × Bool):=
 match v with
 | .mk k n s kids=>(x.2.1 && cS k n s kids.length,(x.1+1,x.2.1 && cS k n s kids.length,x.2.2 && tS k kids.length))
mutual
theorem B3:∀(v:a7) (d n:Nat) (sm:Bool),∃n',lU cY v d (n,true,sm)=(b8 v,(n',b8 v,if b8 v then sm && CE v else(lU cY v d (n,true,sm)).2.2.2))/\n'<=n+bC v/\(b8 v=true->n'=n+bC v)
 | .mk k m s kids,d,n,sm=>by
  cases hf:cS k m s kids.length with
  | false=>
   refine⟨n+1, ?_,by simp only[bC];omega,fun h=>?_⟩
   ·simp only[lU,cY,hf,Bool.and_false,b8,Bool.false_and,Bool.false_eq_true,if_false]
   ·simp[b8,hf] at h
  | true=>
   obtain⟨n',h1,h2,h3⟩:=Ao kids (d+1) (n+1) (sm && tS k kids.length);refine⟨n', ?_,by simp only[bC];omega,fun h=>?_⟩
   ·simp only[lU,cY,hf,Bool.and_true,b8,Bool.true_and];rw[h1];cases c8 kids with
    | true=>simp[CE,Bool.and_assoc]
    | false=>simp
   ·simp only[b8,hf,Bool.true_and] at h;rw[h3 h];simp only[bC];omega
theorem Ao:∀(l:List a7) (d n:Nat) (sm:Bool),∃n',nI cY l d (n,true,sm)=(c8 l,(n',c8 l,if c8 l then sm && AI l else(nI cY l d (n,true,sm)).2.2.2))/\n'<=n+cE l/\(c8 l=true->n'=n+cE l)
 | [],d,n,sm=>⟨n,by simp[nI,c8,AI],by simp,fun _=>by simp[cE]⟩
 | v::r,d,n,sm=>by
  obtain⟨n1,h1,h2,h3⟩:=B3 v d n sm;cases hf:b8 v with
  | false=>
   rw[hf] at h1;refine⟨n1, ?_,by simp only[cE];omega,fun h=>?_⟩
   ·simp only[nI,c8,hf,Bool.false_and,Bool.false_eq_true,if_false];rw[h1]
   ·simp[c8,hf] at h
  | true=>
   rw[hf] at h1;simp only[if_true] at h1;obtain⟨n2,g1,g2,g3⟩:=Ao r d n1 (sm && CE v);refine⟨n2, ?_,by simp only[cE];omega,fun h=>?_⟩
   ·simp only[nI,c8,hf,Bool.true_and];rw[h1];simp only;rw[g1];cases c8 r with
    | true=>simp[AI,Bool.and_assoc]
    | false=>simp
   ·simp only[c8,hf,Bool.true_and] at h;rw[g3 h,h3 hf];simp only[cE];omega
end
theorem I5(v:a7):(match (lU cY v 1 (0,true,true)).2 with|(n,good,small)=>if good=false then(1:Int) else if small=false∨1024<n then 4 else 0)=fG v:=by
 obtain⟨n',h1,h2,h3⟩:=B3 v 1 0 true;rw[h1];unfold fG;cases hf:b8 v with
 | false=>simp
 | true=>
  rw[Cp v hf,h3 hf];simp
theorem gH{k n:Int}(hk:i64 k)(hn:i64 n):gD (.mk k n [] []):=by
 simp only[gD,uJ];exact⟨hk,hn,by simp,by simp,trivial⟩
theorem jR{n:Int}{l:List a7}{k:Int}{s:List UInt8}(hk:i64 k)(hn:i64 n)(hs:s.length<=4294967296)(hl:l.length<=4294967296)(h:uJ l):gD (.mk k n s l):=by
 simp only[gD];exact⟨hk,hn,hs,hl,h⟩
theorem xM(l:List a7)(i:Nat)(v:a7):aO (l.set i v)=(aO l).set i (bK v):=by simp[eX,List.map_set]
theorem u9{s:List UInt8}{a:UInt8}(h0:s[0]? = some a)(hl:s.length<=16)(hu:lY a.toNat=true)(hall:∀(j:Nat) (c:UInt8),s[j]? = some c->tO c.toNat=true):eG s=true:=by
 cases s with
 | nil=>simp at h0
 | cons b r=>
  simp at h0;subst h0;simp only[eG,Bool.and_eq_true,decide_eq_true_eq,List.all_eq_true];refine⟨⟨by simp at hl;omega,hu⟩,fun c hc=>?_⟩;obtain⟨j,hj⟩:=List.getElem?_of_mem hc;exact hall (j+1) c (by simpa using hj)
theorem rW{s:List UInt8}(h:s.length<1):eG s=false:=by
 cases s with
 | nil=>rfl
 | cons b r=>simp at h
theorem o9{s:List UInt8}(h:16<s.length):eG s=false:=by
 cases s with
 | nil=>rfl
 | cons b r=>simp only[eG];simp at h;rw[decide_eq_false om];rfl
theorem iT{s:List UInt8}{a:UInt8}(h0:s[0]? = some a)(hu:lY a.toNat=false):eG s=false:=by
 cases s with
 | nil=>rfl
 | cons b r=>simp at h0;subst h0;simp only[eG];rw[hu];simp
theorem uZ{s:List UInt8}{j:Nat}{c:UInt8}(h:s[j]? = some c)(hc:tO c.toNat=false):eG s=false:=by
 cases s with
 | nil=>rfl
 | cons b r=>
  cases j with
  | zero=>
   simp at h;subst h;refine iT (a:=b) rfl ?_;cases hu:lY b.toNat with
   | false=>rfl
   | true=>rw[EJ hu] at hc;cases hc
  | succ j=>
   simp only[eG];have:(r.all fun c=>tO c.toNat)=false:=by
    rw[Bool.eq_false_iff];intro hall;rw[List.all_eq_true] at hall;have:=hall c (List.mem_of_getElem? (by simpa using h));rw[hc] at this;cases this
   rw[this];simp
mutual
def wT(g:Nat->Nat->Nat):a7->Nat->Nat->Nat
 | .mk _ _ _ kids,d,x=>rY g kids (d+1) (g x d)
def rY(g:Nat->Nat->Nat):List a7->Nat->Nat->Nat
 | [],_,x=>x
 | v::r,d,x=>rY g r d (wT g v d x)
end
theorem Ca(g:Nat->Nat->Nat):∀(l:List a7) (v:a7) (d x:Nat),rY g (l++[v]) d x=wT g v d (rY g l d x)
 | [],v,d,x=>by simp[rY]
 | a::r,v,d,x=>by simp only[List.cons_append,rY];exact Ca g r v d _
theorem IX(g:Nat->Nat->Nat){l:List a7}{k:Nat}(h:k<l.length)(d x:Nat):rY g (l.take (k+1)) d x=wT g l[k] d (rY g (l.take k) d x):=by
 rw[List.take_succ_eq_append_getElem h,Ca]
mutual
theorem Lj{g:Nat->Nat->Nat}(hg:∀n d,g n d<=max (n+1) d):∀(v:a7) (d n:Nat),wT g v d n<=max n (d+gF v)+bC v
 | .mk k m s kids,d,n=>by
  simp only[wT,gF,bC];have h1:=hg n d;have h2:=Cw hg kids (d+1) (g n d);omega
theorem Cw{g:Nat->Nat->Nat}(hg:∀n d,g n d<=max (n+1) d):∀(l:List a7) (d n:Nat),rY g l d n<=max n (d+eP l)+cE l
 | [],d,n=>by simp only[rY];omega
 | v::r,d,n=>by
  simp only[rY,eP,cE];have h1:=Lj hg v d n;have h2:=Cw hg r d (wT g v d n);omega
end
mutual
theorem D4:∀(v:a7) (d n:Nat),wT (fun n _=>n+1) v d n=n+bC v
 | .mk k m s kids,d,n=>by simp only[wT,bC];rw[Bt];omega
theorem Bt:∀(l:List a7) (d n:Nat),rY (fun n _=>n+1) l d n=n+cE l
 | [],d,n=>by simp[rY,cE]
 | v::r,d,n=>by simp only[rY,cE];rw[D4,Bt];omega
end
theorem CT{S:Type}(st:S->a7->Nat->Bool × S):∀(l:List a7) (v:a7) (d:Nat) (x:S),nI st (l++[v]) d x=match nI st l d x with|(false,y)=>(false,y)|(true,y)=>lU st v d y
 | [],v,d,x=>by
  simp only[List.nil_append,nI];cases lU st v d x with|mk b y=>cases b<;>rfl
 | a::r,v,d,x=>by
  simp only[List.cons_append,nI];cases lU st a d x with
  | mk b y=>cases b with
   | false=>rfl
   | true=>exact CT st r v d y
theorem Ij{S:Type}(st:S->a7->Nat->Bool × S){l:List a7}{k:Nat}(h:k<l.length)(d:Nat)(x y:S)(hx:nI st (l.take k) d x=(true,y)):nI st (l.take (k+1)) d x=lU st l[k] d y:=by
 rw[List.take_succ_eq_append_getElem h,CT,hx]
theorem CJ{S:Type}(st:S->a7->Nat->Bool × S):∀{l m:List a7} {d:Nat} {x y:S},nI st l d x=(false,y)->nI st (l++m) d x=(false,y)
 | [],m,d,x,y,h=>by simp[nI] at h
 | a::r,m,d,x,y,h=>by
  simp only[nI] at h;simp only[List.cons_append,nI];cases he:lU st a d x with
  | mk b z=>
   rw[he] at h;cases b with
   | false=>simpa using h
   | true=>exact CJ st h
theorem uK:∀{l:List a7} {v:a7},v∈l->gF v<=eP l
 | a::r,v,h=>by
  simp only[eP];rcases List.mem_cons.1 h with rfl|h
  ·omega
  ·have:=uK h;omega
theorem tY:∀(l m:List a7),eP (l++m)=max (eP l) (eP m)
 | [],m=>by simp[eP]
 | a::r,m=>by simp only[List.cons_append,eP,tY r m];omega
theorem Ba(l:List a7)(k:Nat):eP (l.take k)<=eP l:=by
 have:=tY (l.take k) (l.drop k);rw[List.take_append_drop] at this;omega
mutual
theorem LM:∀(v:a7) (d:Nat) (x:Nat × Bool × Bool),(lU cY v d x).2.1<=x.1+bC v
 | .mk k n s kids,d,x=>by
  simp only[lU,cY,bC];split
  ·rename_i h;simp only[Prod.mk.injEq] at h;rw[←h.2];simp only;omega
  ·rename_i h;simp only[Prod.mk.injEq] at h;rw[←h.2];have:=BM kids (d+1) (x.1+1,x.2.1 && cS k n s kids.length,x.2.2 && tS k kids.length);simp only at this;omega
theorem BM:∀(l:List a7) (d:Nat) (x:Nat × Bool × Bool),(nI cY l d x).2.1<=x.1+cE l
 | [],d,x=>by simp[nI]
 | v::r,d,x=>by
  simp only[nI,cE];have h1:=LM v d x;split
  ·rename_i y h;rw[h] at h1;simp only at h1 ⊢;omega
  ·rename_i y h;rw[h] at h1;have:=BM r d y;simp only at h1;omega
end
structure Nd where
 kind:Int
 name:List UInt8
 lo:Int
 hi:Int
 weights:List Int
 labels:List (List UInt8)
 values:List a7
 kids:List Int
 value:a7
def DD(l:List (List UInt8)):List AV:=l.map AV.str
def cH(x:Nd):AV:=
 match x.value with
 | .mk k n s ks=>.agg [.int .i64 x.kind,.str x.name,.int .i64 x.lo,.int .i64 x.hi,.il 1 (aT x.weights),.il 1 (DD x.labels),.il 4 (aO x.values),.il 1 (aT x.kids),.int .i64 k,.int .i64 n,.str s,.il 4 (aO ks)]
def aW(l:List Nd):List AV:=l.map cH
theorem C9(l:List (List UInt8)):iW (DD l):=fun a ha=>by
 obtain⟨n,_,rfl⟩:=List.mem_map.1 ha;exact .str _
theorem bZ(l:List (List UInt8)):(DD l).length=l.length:=by rw[DD,List.length_map]
theorem a6(x:Nd):NN (cH x):=by
 unfold cH;split;exact .agg' (.cons (.int _ _) (.cons (.str _) (.cons (.int _ _) (.cons (.int _ _) (.cons (.il' (aQ _)) (.cons (.il' (C9 _)) (.cons (.il' (aS _)) (.cons (.il' (aQ _)) (.cons (.int _ _) (.cons (.int _ _) (.cons (.str _) (.cons (.il' (aS _)) .nil))))))))))))
theorem aU(l:List Nd):iW (aW l):=fun a ha=>by
 obtain⟨n,_,rfl⟩:=List.mem_map.1 ha;exact a6 n
theorem bO(l:List Nd):(aW l).length=l.length:=by rw[aW,List.length_map]
theorem mI(l:List Nd)(i:Nat):(aW l)[i]? = (l[i]?).map cH:=by rw[aW,List.getElem?_map]
structure qG(x:Nd):Prop where
 kind:i64 x.kind
 name:x.name.length<=4294967296
 lo:i64 x.lo
 hi:i64 x.hi
 weights:x.weights.length<=4294967296
 weightsI:∀w∈x.weights,i64 w
 labels:x.labels.length<=4294967296
 labelsI:∀w∈x.labels,w.length<=4294967296
 values:x.values.length<=4294967296
 valuesI:∀v∈x.values,gD v/\bC v<=4294967296
 kids:x.kids.length<=4294967296
 kidsI:∀k∈x.kids,i64 k
 value:gD x.value
 valueS:bC x.value<=4294967296
def AG:a7->Bool
 | .mk k n s ks=>decide (k=0) && decide (n=0) && decide (s=[]) && decide (ks.length=0)
def iE(x:Nd):Bool:=
 (decide (x.kind=0) || AG x.value) && (decide (x.kind=1) || (decide (x.lo=0) && decide (x.hi=0))) && (decide (x.kind=3) || decide (x.name=[])) &&
 (decide (x.kind=2) || (decide (x.weights.length=0) && decide (x.labels.length=0))) && (decide (x.kind=4) || decide (x.values.length=0)) && ((decide (x.kind≠0) && decide (x.kind≠1)) || decide (x.kids.length=0))
def dN:List a7->Bool
 | a::b::r=>decide (bW a b<0) && dN (b::r)
 | _=>true
def lV(i:Int)(l:List Int):Bool:=l.all fun k=>decide (0<=k) && decide (k<i)
def cX(i:Int)(x:Nd):Bool:=
 iE x && (decide (0<=x.kind) && decide (x.kind<=4)) && lV i x.kids &&
 (decide (x.kind≠2) || (decide (1<=x.kids.length) && decide (x.kids.length<=256) && decide (x.weights.length=x.kids.length) && (decide (x.labels.length=0) || decide (x.labels.length=x.kids.length)))) &&
 (decide (x.kind≠3) || (decide (x.kids.length<=256) && (decide (x.name=[]) || (eG x.name && decide (x.kids.length<=16))))) &&
 (decide (x.kind≠4) || decide (x.kids.length=x.values.length+1)) && dN x.values
def dH(x:Nd):Bool:=
 decide (x.lo<=x.hi) && decide (-4611686018427387904<=x.lo) && decide (x.hi<=4611686018427387904) && decide (x.hi<x.lo+1099511627776) && x.weights.all fun w=>decide (1<=w) && decide (w<=1000)
def dW:List a7->Int
 | []=>0
 | v::r=>if fG v≠0 then fG v else dW r
def nP(x:Nd):List a7:=(if x.kind=0 then [x.value] else [])++x.values
def eO(i:Int)(x:Nd):Int:=
 if cX i x=false then 1 else if dW (nP x)≠0 then dW (nP x) else if dH x=false then 5 else 0
def dK(l:List Int)(k:Int):Int:=l.getD k.toNat 0
def eH(before kids:List Int):Int:=kids.foldl (fun s k=>s+dK before k) 0
def cG(before kids:List Int):Int:=kids.foldl (fun s k=>max s (dK before k)) 0
def dG(x:Nd):List Int:=if x.kind=2 then x.kids else x.kids.drop 1
def eC(before:List Int)(x:Nd):Int:=
 if x.kind=0 then 0 else if x.kind=1 then 1 else if x.kind=3 then eH before x.kids else if x.kind=2 then 1+cG before (dG x) else dK before (x.kids.getD 0 0)+cG before (dG x)
def iY(before:List Int)(x:Nd):Int:=
 if x.kind=0 then bC x.value else if x.kind=1 then 1 else if x.kind=3 then 1+eH before x.kids else cG before (dG x)
structure f6 where
 vals:List a7
 many:Bool
def c9(name:List UInt8)(kids:List a7):a7:=if name=[] then .mk 2 0 [] kids else .mk 3 0 name kids
def cT(l:List f6)(k:Int):f6:=l.getD k.toNat ⟨[],false⟩
def fZ(lo hi:Int):List a7:=(List.range (hi+1-lo).toNat).map fun i:Nat=>.mk 0 (lo+(i:Int)) [] []
def bJ(before:List f6)(x:List a7 × Bool)(k:Int):List a7 × Bool:=
 (dV (x.1++(cT before k).vals),x.2 || (cT before k).many || decide (1024<(dV (x.1++(cT before k).vals)).length))
def kI(before:List f6)(kids:List Int):f6:=
 if (kids.foldl (bJ before) ([],false)).2 then⟨[],true⟩ else⟨(kids.foldl (bJ before) ([],false)).1,false⟩
def fM(rows:List (List a7))(l:List a7):List (List a7):=rows.flatMap fun r=>l.map fun v=>r++[v]
def d9(before:List f6):List Int->List (List a7)->Option (List (List a7))
 | [],rows=>some rows
 | k::r,rows=>if (cT before k).many=true∨1024<rows.length*(cT before k).vals.length then none else d9 before r (fM rows (cT before k).vals)
def nO(before:List f6)(x:Nd):f6:=
 match d9 before x.kids [[]] with
 | none=>⟨[],true⟩
 | some rows=>⟨dV (rows.map (c9 x.name)),false⟩
def cR(x:Nd)(before:List f6):f6:=
 if x.kind=0 then⟨[x.value],false⟩
 else if x.kind=1 then(if 1024<=x.hi-x.lo then⟨[],true⟩ else⟨fZ x.lo x.hi,false⟩)
 else if x.kind=3 then nO before x
 else kI before (if x.kind=4 then x.kids.drop 1 else x.kids)
def aL(nodes:List Nd):List f6:=nodes.foldl (fun out x=>out++[cR x out]) []
def dC:List a7->List a7->Bool
 | [],[]=>true
 | a::l,b::m=>decide (bW a b=0) && dC l m
 | _,_=>false
def eF(nodes:List Nd)(x:Nd):Int:=
 let l:=cT (aL (nodes.take ((x.kids.getD 0 0).toNat+1))) (x.kids.getD 0 0)
 if l.many=true then 4 else if dC l.vals x.values=true then 0 else 1
def fS(before:List Nd)(ls ss:List Int)(x:Nd):Int:=
 if eO before.length x≠0 then eO before.length x
 else if 256<eC ls x∨1024<iY ss x then 4
 else if x.kind=4 then eF before x else 0
def aY(nodes:List Nd):List Int:=nodes.foldl (fun ls x=>ls++[eC ls x]) []
def b9(nodes:List Nd):List Int:=nodes.foldl (fun ls x=>ls++[iY ls x]) []
def bT:List Nd->List Nd->Int
 | _,[]=>0
 | before,x::r=>if fS before (aY before) (b9 before) x≠0 then fS before (aY before) (b9 before) x else bT (before++[x]) r
def cC(nodes:List Nd):Int:=if 4096<nodes.length then 4 else bT [] nodes
theorem eT:∀(b l:List Nd) (x:Nd),bT b l=0->bT b (l++[x])=fS (b++l) (aY (b++l)) (b9 (b++l)) x
 | b,[],x,h=>by
  simp only[List.nil_append,bT,List.append_nil];split
  ·rfl
  ·rename_i h1;simpa using (Eq.symm (Decidable.not_not.1 h1))
 | b,y::r,x,h=>by
  simp only[List.cons_append,bT] at h ⊢;split at h
  ·rename_i h1;exact absurd h h1
  ·rename_i h1;rw[if_neg h1,eT (b++[y]) r x h];simp
theorem fR(l:List Nd)(x:Nd):aY (l++[x])=aY l++[eC (aY l) x]:=by simp[aY]
theorem iV(l:List Nd)(x:Nd):b9 (l++[x])=b9 l++[iY (b9 l) x]:=by simp[b9]
theorem gB(l:List Nd)(x:Nd):aL (l++[x])=aL l++[cR x (aL l)]:=by simp[aL]
def kY(n most:Int):Int:=(if n<0 then -(n+1) else n).tmod most
def jM(l:List Int)(i most:Int):Int:=if i<0∨(l.length:Int)<=i then 0 else kY (l.getD i.toNat 0) most
theorem kZ{n most:Int}(h:1<=most):0<=kY n most/\kY n most<most:=by
 unfold kY;have h0:0<=(if n<0 then -(n+1) else n):=by split<;>omega
 exact⟨Int.tmod_nonneg _ h0,Int.tmod_lt_of_pos _ om⟩
theorem jI{l:List Int}{i most:Int}(h:1<=most):0<=jM l i most/\jM l i most<most:=by
 unfold jM;split
 ·omega
 ·exact kZ h
def t9(k:Int):a7:=
 if k.tmod 4=0 then .mk 0 ((k.tdiv 4).tmod 9-4) [] []
 else if k.tmod 4=1 then .mk 1 ((k.tdiv 4).tmod 2) [] []
 else if k.tmod 4=2 then .mk 3 0 (([[76,101,97,102],[82,101,100],[88]]:List (List UInt8)).getD ((k.tdiv 4).tmod 3).toNat []) []
 else .mk 2 0 [] [.mk 0 ((k.tdiv 4).tmod 3) [] []]
def kidI(l:List Int)(i j:Int):Int:=
 if (jM l (3*i+j+2) 1000000).tmod 3=0 then((jM l (3*i+j+2) 1000000).tdiv 3).tmod i else max 0 (i-1-((jM l (3*i+j+2) 1000000).tdiv 3).tmod 3)
theorem iZ:∀{l:List a7},(∀(j:Nat) (a b:a7),l[j]? = some a->l[j+1]? = some b->bW a b<0)->dN l=true
 | [],_=>rfl
 | [a],_=>rfl
 | a::b::r,h=>by
  simp only[dN,Bool.and_eq_true,decide_eq_true_eq];exact⟨h 0 a b rfl rfl,iZ fun j x y hx hy=>h (j+1) x y (by simpa using hx) (by simpa using hy)⟩
theorem iX:∀{l:List a7},dN l=true->∀(j:Nat) (a b:a7),l[j]? = some a->l[j+1]? = some b->bW a b<0
 | [],_,j,a,b,h1,h2=>by simp at h1
 | [x],_,j,a,b,h1,h2=>by simp at h2
 | x::y::r,h,j,a,b,h1,h2=>by
  simp only[dN,Bool.and_eq_true,decide_eq_true_eq] at h;cases j with
  | zero=>simp at h1 h2;subst h1 h2;exact h.1
  | succ j=>exact iX h.2 j a b (by simpa using h1) (by simpa using h2)
theorem dY{i:Int}{l:List Int}:lV i l=true↔∀(j:Nat) (k:Int),l[j]? = some k->0<=k/\k<i:=by
 simp only[lV,List.all_eq_true,Bool.and_eq_true,decide_eq_true_eq];constructor
 ·intro h j k hj;exact h k (List.mem_of_getElem? hj)
 ·intro h k hk;obtain⟨j,hj⟩:=List.getElem?_of_mem hk;exact h j k hj
theorem AW:∀{l m:List a7},l.length≠m.length->dC l m=false
 | [],[],h=>absurd rfl h
 | [],_::_,_=>rfl
 | _::_,[],_=>rfl
 | a::l,b::m,h=>by
  rw[dC,AW (l:=l) (m:=m) (by simpa using h),Bool.and_false]
theorem s9{b l:List Int}{k:Nat}(h:k<l.length):eH b (l.take (k+1))=eH b (l.take k)+dK b l[k]:=by
 unfold eH;rw[List.take_succ_eq_append_getElem h,List.foldl_append];rfl
theorem pE{b l:List Int}{k:Nat}(h:k<l.length):cG b (l.take (k+1))=max (cG b (l.take k)) (dK b l[k]):=by
 unfold cG;rw[List.take_succ_eq_append_getElem h,List.foldl_append];rfl
theorem mX{b l:List Int}{k:Nat}(h:k<l.length)(hk:0<k):cG b ((l.take (k+1)).drop 1)=max (cG b ((l.take k).drop 1)) (dK b l[k]):=by
 rw[List.take_succ_eq_append_getElem h,List.drop_append_of_le_length (by simp;omega)];simp[cG]
theorem kO{b:List Int}{M:Int}(hM:0<=M)(h:∀x∈b,0<=x/\x<=M)(q:Int):0<=dK b q/\dK b q<=M:=by
 unfold dK;rw[List.getD_eq_getElem?_getD];cases hq:b[q.toNat]? with
 | none=>simp;omega
 | some x=>exact h x (List.mem_of_getElem? hq)
theorem mJ(b:List Int):∀(l:List Int) (s:Int),l.foldl (fun s k=>s+dK b k) s=s+eH b l
 | [],s=>by simp[eH]
 | a::r,s=>by
  simp only[List.foldl_cons,eH];rw[mJ b r,mJ b r (0+dK b a)];simp[eH];omega
theorem g6{b:List Int}{M:Int}(hM:0<=M)(h:∀x∈b,0<=x/\x<=M):∀l:List Int,0<=eH b l/\eH b l<=l.length*M
 | []=>by simp[eH]
 | a::r=>by
  have h1:=g6 hM h r;have h2:=kO hM h a;have e:eH b (a::r)=dK b a+eH b r:=by simp only[eH,List.foldl_cons];rw[mJ b r];simp[eH]
  rw[e];simp only[List.length_cons];have:((r.length+1:Nat):Int)*M=r.length*M+M:=by rw[Int.natCast_add,Int.add_mul];simp
  omega
theorem Ch(b:List Int){M:Int}(h:∀q,0<=dK b q/\dK b q<=M):∀(l:List Int) (s:Int),0<=s->s<=M->0<=l.foldl (fun s k=>max s (dK b k)) s/\l.foldl (fun s k=>max s (dK b k)) s<=M
 | [],s,h1,h2=>⟨h1,h2⟩
 | a::r,s,h1,h2=>by
  have:=h a;simp only[List.foldl_cons];exact Ch b h r (max s (dK b a)) om om
theorem fK{b:List Int}{M:Int}(hM:0<=M)(h:∀x∈b,0<=x/\x<=M)(l:List Int):0<=cG b l/\cG b l<=M:=
 Ch b (kO hM h) l 0 om hM
theorem aG.useApp{P:Program}{Γ:List (Nat × AV)}{F:FuncId}{args args':List AV}{mem:aN}{nx:Nat}{t:TypeId}{sz:Nat}{xs:List AV}{R:Nat->List AV->Prop}{K:AV->aN->Nat->Prop}(hΓ:∀p∈Γ,NN p.2)
  (h:aG P Γ F args' [(0,.row t sz xs)] 1 fun r m _=>∃(len:Nat) (ys:List AV),r = .sl 1 0 len/\m=[(1,.row t sz ys)]/\iW ys/\R len ys) (g:Nat) (hg:lk mem g=some (.row t sz xs)) (hx:iW xs) (hargs:jL [(g,.row t sz xs)] [(g,0)] args args')
  (hk:∀len ys,R len ys->CQ g mem fun rest=>K (.sl nx 0 len) ((nx,.row t sz ys)::rest) (nx+1)):aG P Γ F args mem nx K:=by
 refine⟨fun X D ρ w vs hD hm hv=>?_⟩;refine(aG.use (K:=K) (nx:=nx) hΓ h [(g,0)] (m1:=[(g,.row t sz xs)]) (rest:=drop g mem) ⟨fun p hp=>?_,fun p hp=>cV hp,fun p hp=>?_,fun p hp q hq=>?_,by simp⟩ (iQ hm.nod) hargs (fun p hp=>?_) (by simp) (kA (by rfl)) (fun id i hl=>?_) ?_).run X D ρ w vs hD hm hv
 ·simp at hp;subst hp;exact bA hg
 ·by_cases hpg:p.1=g
  ·left;have:=qA hm.nod hp (bA hg) hpg;rw[this];simp
  ·exact .inr (sK hp hpg)
 ·simp at hp;subst hp;exact Ne.symm (pH hm.nod hq)
 ·simp at hp;subst hp;exact .inl ⟨g,t,sz,xs,xs,rfl,by simp[lk],by simp[lk],.same hx⟩
 ·have:=bA hl;simp at this;omega
 ·rintro r m n ⟨len,ys,rfl,rfl,hn,hR⟩ _;refine⟨[(1,nx)],.sl nx 0 len,[(nx,.row t sz ys)],nx+1,Nat.le_succ _,.sl 1 nx 0 len (by simp[lk]),fun p hp=>?_,by simp,kA (by rfl),fun i id hl=>?_,fun p hp q hq=>?_,s5.1 (hk len ys hR)⟩
  ·simp at hp;subst hp;exact .inl ⟨1,t,sz,ys,ys,rfl,by simp[lk],by simp[lk],.same hn⟩
  ·have:=bA hl;simp at this;obtain⟨rfl,rfl⟩:=this;exact .inr ⟨Nat.le_refl _,Nat.le_refl _,Nat.lt_succ_self _⟩
  ·simp at hp;subst hp;have:=hD _ (hm.low q (cV hq));simp only;omega
def kE(x:f6):AV:=.agg [.il 4 (aO x.vals),.bool x.many]
def encLs(l:List f6):List AV:=l.map kE
theorem k7(x:f6):NN (kE x):=.agg' (.cons (.il' (aS _)) (.cons (.bool _) .nil))
theorem encLs_nn(l:List f6):iW (encLs l):=fun a ha=>by
 obtain⟨n,_,rfl⟩:=List.mem_map.1 ha;exact k7 n
theorem encLs_length(l:List f6):(encLs l).length=l.length:=by rw[encLs,List.length_map]
theorem encLs_get(l:List f6)(i:Nat):(encLs l)[i]? = (l[i]?).map kE:=by rw[encLs,List.getElem?_map]
def qB(lo:Int)(k:Nat):List a7:=(List.range k).map fun i:Nat=>.mk 0 (lo+(i:Int)) [] []
theorem yN(lo:Int)(k:Nat):qB lo (k+1)=qB lo k++[.mk 0 (lo+(k:Int)) [] []]:=by simp[qB,List.range_succ]
theorem Bm(lo:Int)(k:Nat):(qB lo k).length=k:=by simp[qB]
theorem aG.useNew{P:Program}{Γ:List (Nat × AV)}{F:FuncId}{args:List AV}{mem:aN}{nx:Nat}{t:TypeId}{sz len:Nat}{ys:List AV}{K:AV->aN->Nat->Prop}(hΓ:∀p∈Γ,NN p.2)
  (h:aG P Γ F args [] 0 fun r m n=>r = .sl 0 0 len/\m=[(0,.row t sz ys)]/\n=1) (ha:iW args) (hn:iW ys) (hk:K (.sl nx 0 len) ((nx,.row t sz ys)::mem) (nx+1)):aG P Γ F args mem nx K:=by
 refine⟨fun X D ρ w vs hD hm hv=>?_⟩;refine(aG.use (K:=K) (nx:=nx) hΓ h [] (m1:=[]) (rest:=mem) ⟨(fun p hp=>by cases hp),fun p hp=>hp,fun p hp=>.inr hp,(fun p hp=>by cases hp),by simp⟩ hm.nod (Aq ha) (fun p hp=>by cases hp) (by simp) (fun i j k h=>by simp[lk] at h) (fun id i h=>by simp[lk] at h) ?_).run X D ρ w vs hD hm hv;rintro r m n ⟨rfl,rfl,rfl⟩ _;refine⟨[(0,nx)],.sl nx 0 len,[(nx,.row t sz ys)],nx+1,Nat.le_succ _,.sl 0 nx 0 len (by simp[lk]),fun p hp=>?_,by simp,kA (by rfl),fun i id hl=>?_,fun p hp q hq=>?_,hk⟩
 ·simp at hp;subst hp;exact .inl ⟨0,t,sz,ys,ys,rfl,by simp[lk],by simp[lk],.same hn⟩
 ·have:=bA hl;simp at this;obtain⟨rfl,rfl⟩:=this;exact .inr ⟨Nat.zero_le _,Nat.le_refl _,Nat.lt_succ_self _⟩
 ·simp at hp;subst hp;have:=hD _ (hm.low q hq);simp only;omega
theorem tC{bs:List f6}(hb:∀b∈bs,b.vals.length<=1024/\∀v∈b.vals,gD v):∀(l:List Int) (a:List a7 × Bool) (n:Nat),a.1.length<=n->(∀v∈a.1,gD v) ->
  (l.foldl (bJ bs) a).1.length<=n+l.length*1024/\∀v∈(l.foldl (bJ bs) a).1,gD v
 | [],a,n,h1,h2=>⟨by simpa using h1,h2⟩
 | q::r,a,n,h1,h2=>by
  have hq:(cT bs q).vals.length<=1024/\∀v∈(cT bs q).vals,gD v:=by
   unfold cT;rw[List.getD_eq_getElem?_getD];cases hc:bs[q.toNat]? with
   | none=>simp
   | some b=>exact hb b (List.mem_of_getElem? hc)
  have hs:=pZ (a.1++(cT bs q).vals);simp only[List.length_append] at hs;have:=tC hb r (bJ bs a q) (n+1024) (by simp only[bJ];omega) (fun v hv=>by
   have:=oK hv;rcases List.mem_append.1 this with h|h
   ·exact h2 v h
   ·exact hq.2 v h)
  simp only[List.foldl_cons,List.length_cons];refine⟨by have:=this.1;omega,this.2⟩
theorem GC{α β:Type}(f:β->α->β){l:List α}{k:Nat}(h:k<l.length)(a:β):(l.take (k+1)).foldl f a=f ((l.take k).foldl f a) l[k]:=by
 rw[List.take_succ_eq_append_getElem h,List.foldl_append];rfl
theorem Gt{α β:Type}(f:β->α->β){l:List α}{k:Nat}(h:k<l.length)(hk:0<k)(a:β):((l.take (k+1)).drop 1).foldl f a=f (((l.take k).drop 1).foldl f a) l[k]:=by
 rw[List.take_succ_eq_append_getElem h,List.drop_append_of_le_length (by simp;omega),List.foldl_append];rfl
def sF(σ:List (Nat × Nat))(ns nx n':Nat):List (Nat × Nat)->Bool
 | []=>true
 | (i,id)::r=>(match Nat.blt i ns with
   | true=>match lk σ id with
    | some j=>Nat.beq j i
    | none=>false
   | false=>Nat.ble nx id && Nat.blt id n') && sF σ ns nx n' r
def lQ(ids:List Nat)(nx:Nat):aN->Bool
 | []=>true
 | (k,_)::r=>(match Nat.ble nx k with
   | true=>true
   | false=>zH k ids) && lQ ids nx r
theorem n8{σ:List (Nat × Nat)}{ns nx n':Nat}:∀{τ:List (Nat × Nat)},sF σ ns nx n' τ=true->∀p∈τ,(p.1<ns/\lk σ p.2=some p.1)∨(ns<=p.1/\nx<=p.2/\p.2<n')
 | [],_,p,hp=>by cases hp
 | (i,id)::r,h,p,hp=>by
  simp only[sF,Bool.and_eq_true] at h;rcases List.mem_cons.1 hp with rfl|hp
  ·have h1:=h.1;split at h1
   ·rename_i hb;split at h1
    ·rename_i j hj;exact .inl ⟨Nat.le_of_ble_eq_true hb,by rw[hj,Nat.eq_of_beq_eq_true h1]⟩
    ·cases h1
   ·rename_i hb;simp only[Bool.and_eq_true] at h1;refine .inr ⟨?_,Nat.le_of_ble_eq_true h1.1,Nat.le_of_ble_eq_true h1.2⟩;rcases Nat.lt_or_ge i ns with hl|hl
    ·have e:Nat.blt i ns=true:=Nat.ble_eq_true_of_le hl;rw[e] at hb;cases hb
    ·exact hl
  ·exact n8 h.2 p hp
theorem pT:∀{m:aN} {ids:List Nat} {nx:Nat},lQ ids nx m=true->∀p∈m,nx<=p.1∨zH p.1 ids=true
 | [],ids,nx,_,p,hp=>by cases hp
 | (k,b)::r,ids,nx,h,p,hp=>by
  simp only[lQ,Bool.and_eq_true] at h;rcases List.mem_cons.1 hp with rfl|hp
  ·have h1:=h.1;split at h1
   ·rename_i hb;exact .inl (Nat.le_of_ble_eq_true hb)
   ·exact .inr h1
  ·exact pT h.2 p hp
theorem aG.useN{P:Program}{Γ:List (Nat × AV)}{F:FuncId}{args args':List AV}{ms mem m1:aN}{ns nx:Nat}{Qs K:AV->aN->Nat->Prop}(hΓ:∀p∈Γ,NN p.2)(σ:List (Nat × Nat))(h:aG P Γ F args' ms ns Qs)
  (hp:lP (fF σ) mem=m1) (hargs:jL m1 σ args args') (hM:cM m1 σ ms) (hc:(kW ms && (lC σ && rK ns σ))=true)
  (hk:∀r m n,Qs r m n->∃τ r' m' n',Cv m τ r r'/\cM m τ m'/\(kW m' && (lC τ && (Nat.ble nx n' && (lQ (fF σ) nx m' && sF σ ns nx n' τ))))=true/\K r' (m'++fE (fF σ) mem) n'):aG P Γ F args mem nx K:=by
 simp only[Bool.and_eq_true] at hc;obtain⟨hc1,hc2,hc4⟩:=hc;refine⟨fun X D ρ w vs hD hm hv=>?_⟩;refine(aG.use (K:=K) (nx:=nx) hΓ h σ (m1:=m1) (rest:=fE (fF σ) mem) ⟨fun p hp'=>?_,fun p hp'=>(cP.1 hp').1,fun p hp'=>?_,fun p h1 q h2=>?_, ?_⟩ ?_ hargs hM.cvm (dE hc1) (kA hc2) (fun id i hl=>jN hc4 _ (bA hl)) ?_).run X D ρ w vs hD hm hv
 ·rw[←hp] at hp';exact(dF.1 hp').1
 ·cases hi:zH p.1 (fF σ) with
  | true=>left;rw[←hp];exact dF.2 ⟨hp',hi⟩
  | false=>right;exact cP.2 ⟨hp',hi⟩
 ·rw[←hp] at h1;have a:=(dF.1 h1).2;have b:=(cP.1 h2).2;intro e;rw[e,b] at a;cases a
 ·rw[←hp];exact hm.nod.sublist ((kR mem).map _)
 ·exact hm.nod.sublist ((kT mem).map _)
 ·intro r m n hq hn;obtain⟨τ,r',m',n',h1,h2,h3,h4⟩:=hk r m n hq;simp only[Bool.and_eq_true] at h3;refine⟨τ,r',m',n',Nat.le_of_ble_eq_true h3.2.2.1,h1,h2.cvm,dE h3.1,kA h3.2.1,fun i id hl=>n8 h3.2.2.2.2 _ (bA hl),fun p h5 q h6=>?_,h4⟩;have b:=(cP.1 h6).2;rcases pT h3.2.2.2.1 p h5 with a|a
  ·have:=hD _ (hm.low q (cP.1 h6).1);omega
  ·intro e;rw[e,b] at a;cases a
theorem aG.ph{P:Program}{Γ:List (Nat × AV)}{F:FuncId}{args:List AV}{mem:aN}{nx:Nat}{K:AV->aN->Nat->Prop}(t:TypeId)(sz:Nat)(h:aG P Γ F args ((nx,.row t sz [])::mem) (nx+1) K):aG P Γ F args mem nx K:=by
 refine⟨fun X D ρ w vs hD hm hv=>?_⟩;obtain⟨m1,v1,e1⟩:=hm.phantom (n:=nx) (D':=dn D nx (nx+1)) (fun h'=>Nat.lt_irrefl _ (hD _ h')) (fun i hi=>.inl hi) (.inr ⟨Nat.le_refl _,Nat.lt_succ_self _⟩) t sz;refine(h.run X _ _ w vs (fun i hi=>?_) m1 ⟨hv.1,fun j c x hc hx=>v1 _ _ (hv.2 j c x hc hx)⟩).mono ?_
 ·rcases hi with hi|hi
  ·have:=hD i hi;omega
  ·exact hi.2
 ·rintro e w' ⟨r,v,m,n,ρ',rfl,hk,hn,hm',hr,ext⟩;have ed:dn (dn D nx (nx+1)) (nx+1) n=dn D nx n:=by
   funext i
   apply propext;constructor
   ·rintro((hi|⟨h1,h2⟩)|⟨h1,h2⟩)
    ·exact .inl hi
    ·exact .inr ⟨h1,om⟩
    ·exact .inr ⟨om,h2⟩
   ·rintro(hi|⟨h1,h2⟩)
    ·exact .inl (.inl hi)
    ·rcases Nat.lt_or_ge i (nx+1) with h3|h3
     ·exact .inl (.inr ⟨h1,h3⟩)
     ·exact .inr ⟨h3,h2⟩
  rw[ed] at hm' hr ext;refine⟨r,v,m,n,ρ',rfl,hk,om,hm',hr, ?_⟩;have e2:=e1 D fun i hi=>hi
  exact e2.trans ⟨fun i hi=>ext.le i (.inl hi),fun i hi=>ext.agree i (.inl hi),ext.size,ext.keep,ext.fresh,ext.env⟩
end Go.Ax
namespace Go.Ax
open Go
section
variable {P:Program} {Γ:List (Nat × AV)} {B:Nat}
theorem Kc{b:Bool}{c1 c2:Code}{s1 s2:St}{i:Nat}{y:Code}{Q:Exit->St->Prop}{α:Type}(hΓ:∀p∈Γ,NN p.2)(R:α->Prop)(J:α->St)
  (h1:∀Qr:Exit->St->Prop,(∀(a:α) (s:St) (σ:List (Nat × Nat)),R a->Conv B σ s (J a)->Qr .normal s)->JK b (dI P Γ B c1 s1 (zG i Qr)) (dI P Γ B c2 s2 (zG i Qr)))
  (h2:∀a,R a->dI P Γ B y (J a) Q):JK b (dI P Γ B c1 s1 (zG i (GT P Γ B y Q))) (dI P Γ B c2 s2 (zG i (GT P Γ B y Q))):=by
 have h:=h1 (fun e s=>match e with
  | .normal=>∃a σ,R a/\Conv B σ s (J a)
  | e=>Q e s) (fun a s σ hr hc=>⟨a,σ,hr,hc⟩)
 have key:∀(e:Exit) (s:St),zG i (fun e s=>match e with
  | .normal=>∃a σ,R a/\Conv B σ s (J a)
  | e=>Q e s) e s->zG i (GT P Γ B y Q) e s:=by
  intro e s hq;have norm:(∃a σ,R a/\Conv B σ s (J a))->dI P Γ B y s Q:=fun⟨a,σ,hr,hc⟩=>dI.conv hΓ hc (h2 a hr)
  cases e with
  | normal=>exact norm hq
  | exit j=>
   simp only[zG] at hq ⊢;split at hq
   ·exact norm hq
   ·exact hq
  | goto l=>exact hq
  | ret=>exact hq
  | panic c=>exact hq
  | outgrown=>exact hq
 cases b with
 | true=>exact dI.mono (show dI P Γ B c1 s1 _ from h) key
 | false=>exact dI.mono (show dI P Γ B c2 s2 _ from h) key
end
end Go.Ax
namespace Go.Ax
open Go
inductive f7 where
 | ret
 | pan (x:Value)
 | recd (x:Value)
def f7.mode:f7->FrameMode
 | .ret=>.returning
 | .pan x=>.panicking [pe x]
 | .recd x=>.panicking [{ v:=x,recovered:=true }]
def IR:List Value->Option (List AV)
 | []=>some []
 | .int k n::r=>match IR r with
  | some l=>some (.int k n::l)
  | none=>none
 | .bool b::r=>match IR r with
  | some l=>some (.bool b::l)
  | none=>none
 | _=>none
def QX:Value->Option AV
 | .iface t (.agg arr)=>match IR arr.toList with
  | some l=>some (.ifc t (.agg l))
  | none=>none
 | _=>none
theorem AQ{ρ:Nat->cU}{D:Nat->Prop}{O:Nat->Prop}{w:World}:∀{xs:List Value} {l:List AV},IR xs=some l->Gg ρ D O w l xs
 | [],l,h=>by simp only[IR] at h;cases h;exact⟨.nil,by simp⟩
 | x::r,l,h=>by
  cases x<;>simp only[IR] at h<;>first|(cases h;done)|skip
  all_goals
   split at h
   ·rename_i l' hl;cases h;obtain⟨h1,h2⟩:=AQ (ρ:=ρ) (D:=D) (O:=O) (w:=w) hl;refine⟨.cons ?_ h1,fun y hy=>?_⟩
    ·first|exact .int _ _|exact .bool _
    ·rcases List.mem_cons.1 hy with rfl|hy
     ·rfl
     ·exact h2 y hy
   ·cases h
theorem IY{ρ:Nat->cU}{D:Nat->Prop}{O:Nat->Prop}{w:World}{x:Value}{v:AV}(h:QX x=some v):VR ρ D O w v x:=by
 unfold QX at h;split at h
 ·rename_i t arr;split at h
  ·rename_i l hl;cases h;obtain⟨h1,h2⟩:=AQ (ρ:=ρ) (D:=D) (O:=O) (w:=w) hl;exact .ifc t _ _ (.agg l arr (by have:=h1.1;simpa using this) (fun y hy=>h2 y (by simpa using hy)) fun j c y hj hy=>h1.2 j c y hj (by simpa using hy))
  ·cases h
 ·cases h
structure pU(P:Program)(Γ:List (Nat × AV))(B:Nat)(c:Code)(s:St)(m:f7)(Q:Exit->St->f7->Prop):Prop where
 run:∀(X:Nat->Prop) (ds:List Deferred) (D:Nat->Prop) (ρ:Nat->cU) (a:Act) (w:World) (c₀:Frame) (cs:List Frame),(∀i,D i->i<B)->SR Γ X (ds,0) ρ (dn D B s.nx) s a w->B<=s.nx->c₀.mode=m.mode ->
  c.wpS P (fun e a' cs' w'=>∃(s':St) (m':f7) (ρ':Nat->cU),Q e s' m'/\cs'={ c₀ with mode:=m'.mode }::cs/\B<=s'.nx/\SR Γ X (ds,0) ρ' (dn D B s'.nx) s' a' w'/\Ext D ρ s.mem w ρ' (dn D B s'.nx) s'.mem w') a (c₀::cs) w
section
variable {P:Program} {Γ:List (Nat × AV)} {B:Nat} {s:St} {m:f7} {Q:Exit->St->f7->Prop}
theorem o7{c₀:Frame}{u:FrameMode}(h:c₀.mode=u):{ c₀ with mode:=u }=c₀:=by subst h;rfl
theorem pU.of{c:Code}(hc:gA c=false)(h:dI P Γ B c s fun e s'=>Q e s' m):pU P Γ B c s m Q:=by
 refine⟨fun X ds D ρ a w c₀ cs hD hs hB hm=>wpS_of_wp (Go.wp_mono (Dl.1 (h.run none X (ds,0) D ρ a w hD hs hB (.no hc))) ?_)⟩;rintro e a' w' ⟨s',ρ',hq,hB',hs',hext⟩;exact⟨s',m,ρ',hq,by rw[o7 hm],hB',hs',hext⟩
def On(P:Program)(Γ:List (Nat × AV))(B:Nat)(y:Code)(Q:Exit->St->f7->Prop)(e:Exit)(s:St)(m:f7):Prop:=
 match e with
 | .normal=>pU P Γ B y s m Q
 | e=>Q e s m
theorem wO{c:Code}{Q Q':Exit->Act->List Frame->World->Prop}{a:Act}{cs:List Frame}{w:World}(h:c.wpS P Q a cs w)(hq:∀e a cs w,Q e a cs w->Q' e a cs w):c.wpS P Q' a cs w:=
 fun b k hb hr=>let ⟨e,a',cs',w',q,r⟩:=h b k hb hr;⟨e,a',cs',w',hq _ _ _ _ q,r⟩
theorem pU.seq{x y:Code}(h:pU P Γ B x s m (On P Γ B y Q)):pU P Γ B (.seq x y) s m Q:=by
 refine⟨fun X ds D ρ a w c₀ cs hD hs hB hm=>wpS_seq (wO (h.run X ds D ρ a w c₀ cs hD hs hB hm) ?_)⟩;rintro e a' cs' w' ⟨s',m',ρ',hq,rfl,hB',hs',hext⟩;cases e with
 | normal=>
  refine wO ((show pU P Γ B y s' m' Q from hq).run X ds D ρ' a' w' { c₀ with mode:=m'.mode } cs hD hs' hB' rfl) ?_;rintro e a2 cs2 w2 ⟨s2,m2,ρ2,h1,rfl,h2,h3,h4⟩;exact⟨s2,m2,ρ2,h1,rfl,h2,h3,hext.trans h4⟩
 | exit i=>exact⟨s',m',ρ',hq,rfl,hB',hs',hext⟩
 | goto l=>exact⟨s',m',ρ',hq,rfl,hB',hs',hext⟩
 | ret=>exact⟨s',m',ρ',hq,rfl,hB',hs',hext⟩
 | panic c=>exact⟨s',m',ρ',hq,rfl,hB',hs',hext⟩
 | outgrown=>exact⟨s',m',ρ',hq,rfl,hB',hs',hext⟩
theorem pU.cond{c:Operand}{x y:Code}{b:Bool}(hc:ev Γ s c=some (.bool b))(h:JK b (pU P Γ B x s m Q) (pU P Γ B y s m Q)):pU P Γ B (.cond c x y) s m Q:=by
 refine⟨fun X ds D ρ a w c₀ cs hD hs hB hm=>?_⟩;have hv:=aV hs hc;generalize he:a.eval c=cv at hv;cases hv;cases b with
 | true=>exact wpS_cond he ((show pU P Γ B x s m Q from h).run X ds D ρ a w c₀ cs hD hs hB hm)
 | false=>exact wpS_cond he ((show pU P Γ B y s m Q from h).run X ds D ρ a w c₀ cs hD hs hB hm)
def Ks(op:Op):Bool:=
 match op with
 | .call c=>match c.callee with
  | .builtin .recover=>true
  | _=>false
 | _=>false
def Oo:f7->Option (AV × f7)
 | .ret=>some (.nif,.ret)
 | .pan x=>match QX x with
  | some v=>some (v,.recd x)
  | none=>none
 | .recd x=>some (.nif,.recd x)
def BQ(P:Program)(Γ:List (Nat × AV))(ops:List Oper):List Oper->St->f7->(St->f7->Prop)->Prop
 | [],s,m,K=>K s m
 | o::r,s,m,K=>match kJ ops s o.guard with
  | none=>False
  | some false=>match dT s o.dst (.tup []) s.mem s.nx with
   | some s'=>BQ P Γ ops r s' m K
   | none=>False
  | some true=>match Ks o.op with
   | true=>match Oo m with
    | some (v,m')=>match dT s o.dst v s.mem s.nx with
     | some s'=>BQ P Γ ops r s' m' K
     | none=>False
    | none=>False
   | false=>match cJ P Γ s o.op with
    | some (v,mem,nx)=>match dT s o.dst v mem nx with
     | some s'=>BQ P Γ ops r s' m K
     | none=>False
    | none=>False
theorem H9{o:Oper}(h:Ks o.op=true)(ρ:Operand->Value)(w:World):(execOp ρ o).run P w = .ok .recover w:=by
 unfold Ks at h;split at h
 ·rename_i c hop;split at h
  ·rename_i hc;simp[execOp,hop,resolve,hc,invoke,builtin]
  ·cases h
 ·cases h
theorem Eu(ops:Array Oper):∀(l:List Nat) (s:St) (m:f7) (K:St->f7->Prop),BQ P Γ ops.toList (l.filterMap fun i=>ops[i]?) s m K ->
  ∀(X:Nat->Prop) (ds:List Deferred) (D:Nat->Prop) (ρ:Nat->cU) (a:Act) (w:World) (c₀:Frame) (cs:List Frame) (Q:Exit->Act->List Frame->World->Prop),(∀i,D i->i<B)->SR Γ X (ds,0) ρ (dn D B s.nx) s a w->B<=s.nx->c₀.mode=m.mode ->
   (∀(s':St) (m':f7) (ρ':Nat->cU) (a':Act) (w':World),K s' m'->B<=s'.nx->SR Γ X (ds,0) ρ' (dn D B s'.nx) s' a' w'->Ext D ρ s.mem w ρ' (dn D B s'.nx) s'.mem w'->Q .normal a' ({ c₀ with mode:=m'.mode }::cs) w') ->
   wpOpsS P ops Q l a (c₀::cs) w:=by
 intro l
 induction l with
 | nil=>
  intro s m K h X ds D ρ a w c₀ cs Q hD hs hB hm hQ;have:=hQ s m ρ a w h hB hs (Ext.refl fun i hi=>.inl hi);rw[o7 hm] at this;exact this
 | cons i r ih=>
  intro s m K h X ds D ρ a w c₀ cs Q hD hs hB hm hQ;simp only[wpOpsS];cases ho:ops[i]? with
  | none=>
   simp only[List.filterMap_cons,ho] at h;exact ih s m K h X ds D ρ a w c₀ cs Q hD hs hB hm hQ
  | some o=>
   simp only[List.filterMap_cons,ho] at h;simp only[BQ] at h;split at h
   ·exact h.elim
   ·rename_i hw;have hw':=f8 hs hw;rw[Array.toArray_toList] at hw';simp only[hw',Bool.false_eq_true,if_false];split at h
    ·rename_i s' hst;obtain⟨h1,h2,h3⟩:=fL hst hs hs.mr qZ (fun h=>h) (fun _ _ h=>h);refine ih s' m K h X ds D ρ _ w c₀ cs Q hD (by rw[h3];exact h1) om hm fun s2 m2 ρ2 a2 w2 k1 k2 k3 k4=>hQ s2 m2 ρ2 a2 w2 k1 k2 k3 (by rw[←h2];exact k4)
    ·exact h.elim
   ·rename_i hw;have hw':=f8 hs hw;rw[Array.toArray_toList] at hw';simp only[hw',if_true];split at h
    ·rename_i hrec;rw[H9 hrec];split at h
     ·rename_i v m' hv;split at h
      ·rename_i s' hst;have main:∀(x:Value) (c1:Frame),(VR ρ (dn D B s.nx) (OX X ρ s.mem) w v x)->c1={ c₀ with mode:=m'.mode }->wpOpsS P ops Q r (a.put o.dst x) (c1::cs) w:=by
        intro x c1 hx hc1;obtain⟨h1,h2,h3⟩:=fL hst hs hs.mr hx (fun h=>h) (fun _ _ h=>h);subst hc1;exact ih s' m' K h X ds D ρ _ w { c₀ with mode:=m'.mode } cs Q hD (by rw[h3];exact h1) om rfl fun s2 m2 ρ2 a2 w2 k1 k2 k3 k4=>hQ s2 m2 ρ2 a2 w2 k1 k2 k3 (by rw[←h2];exact k4)
       cases m with
       | ret=>
        cases hv;simp only[recoverD,hm,f7.mode];exact main _ c₀ .nif (o7 hm).symm
       | pan x=>
        simp only[Oo] at hv;split at hv
        ·rename_i u hu;cases hv;simp only[recoverD,hm,f7.mode,pe];exact main _ _ (IY hu) rfl
        ·cases hv
       | recd x=>
        cases hv;simp only[recoverD,hm,f7.mode];exact main _ c₀ .nif (o7 hm).symm
      ·exact h.elim
     ·exact h.elim
    ·split at h
     ·rename_i v mem nx hstep;split at h
      ·rename_i s' hst;have hnx:s.nx<=nx:=by rcases w9 hstep with h'|h'<;>omega
       obtain⟨x,n,w',ρ',e1,e2,m1,v1,mono1,ext1⟩:=lK (P:=P) (D:=dn D B s.nx) (D':=dn D B nx) (fun h'=>Nat.lt_irrefl _ (r8 hD hB _ h')) (tN hnx) hs o (fun e=>.inr ⟨hB,om⟩) hstep;obtain⟨h1,h2,h3⟩:=fL hst hs m1 v1 (ext1 _ fun i hi=>hi).mks mono1;have fin:wpOpsS P ops Q r (a.put o.dst x) (c₀::cs) w':=ih s' m K h X ds D ρ' _ w' c₀ cs Q hD (by rw[h3];exact h1) (by rw[h3];exact Nat.le_trans hB hnx) hm fun s2 m2 ρ2 a2 w2 k1 k2 k3 k4=>hQ s2 m2 ρ2 a2 w2 k1 k2 k3 ((ext1 D fun i hi=>.inl hi).trans (by rw[←h2];exact k4))
       rw[e1];rcases e2 with rfl|⟨rfl,rfl⟩
       ·exact fin
       ·exact fin
      ·exact h.elim
     ·exact h.elim
theorem CI(L:List Oper):∀(l:List Oper) (k:Nat),(∀j,L[k+j]? = l[j]?)->((List.range' k l.length).filterMap fun i=>L[i]?)=l
 | [],k,h=>rfl
 | o::r,k,h=>by
  have h0:L[k]? = some o:=by simpa using h 0
  rw[List.length_cons,List.range'_succ,List.filterMap_cons,h0];simp only;rw[CI L r (k+1) fun j=>by have:=h (j+1);simpa[Nat.add_assoc,Nat.add_comm 1 j] using this]
theorem pU.region{id:Nat}{ops:Array Oper}(h:BQ P Γ ops.toList ops.toList s m fun s' m'=>Q .normal s' m'):pU P Γ B (.region id ops false) s m Q:=by
 refine⟨fun X ds D ρ a w c₀ cs hD hs hB hm=>wpS_region ?_⟩;have e:((List.range ops.size).filterMap fun i=>ops[i]?)=ops.toList:=by
  have:=CI ops.toList ops.toList 0 (fun j=>by rw[Nat.zero_add]);rw[List.range_eq_range',←Array.length_toList];simpa using this
 exact Eu ops (List.range ops.size) s m _ (by rw[e];exact h) X ds D ρ a w c₀ cs _ hD hs hB hm fun s' m' ρ' a' w' h1 h2 h3 h4=>⟨s',m',ρ',h1,rfl,h2,h3,h4⟩
def GE(P:Program)(Γ:List (Nat × AV))(H:Hk):Code->St->f7->(St->f7->Prop)->Prop
 | .skip,s,m,K=>K s m
 | .seq x y,s,m,K=>GE P Γ H x s m fun s' m'=>GE P Γ H y s' m' K
 | .cond c x y,s,m,K=>match ev Γ s c with
  | some (.bool b)=>match b with
   | true=>GE P Γ H x s m K
   | false=>GE P Γ H y s m K
  | _=>False
 | .region _ ops draw,s,m,K=>match draw with
  | false=>BQ P Γ ops.toList ops.toList s m K
  | true=>False
 | _,_,_,_=>False
theorem GL{H:Hk}:∀(c:Code) (s:St) (m:f7) (K:St->f7->Prop),GE P Γ H c s m K->pU P Γ B c s m fun e s' m'=>match e with
  | .normal=>K s' m'
  | _=>False:=by
 intro c
 induction c with
 | skip=>exact fun s m K h=>.of rfl ⟨fun rd X ds D ρ a w hD hs hB _=>wpIn_skip ⟨s,ρ,h,hB,hs,Ext.refl fun i hi=>.inl hi⟩⟩
 | seq x y ihx ihy=>
  intro s m K h;refine pU.seq ?_;obtain⟨h'⟩:=ihx s m _ h;refine⟨fun X ds D ρ a w c₀ cs hD hs hB hm=>wO (h' X ds D ρ a w c₀ cs hD hs hB hm) ?_⟩;rintro e a' cs' w' ⟨s',m',ρ',hq,rest⟩;refine⟨s',m',ρ', ?_,rest⟩;cases e with
  | normal=>exact ihy s' m' K hq
  | _=>exact(show False from hq).elim
 | cond c x y ihx ihy=>
  intro s m K h;simp only[GE] at h;split at h
  ·rename_i b hc;refine pU.cond hc ?_;cases b with
   | true=>exact ihx s m K h
   | false=>exact ihy s m K h
  ·exact h.elim
 | region id ops draw=>
  intro s m K h;cases draw with
  | false=>exact pU.region h
  | true=>exact(show False from h).elim
 | _=>exact fun s m K h=>(show False from h).elim
def DfR(ρ:Nat->cU)(D:Nat->Prop)(O:Nat->Prop)(w:World)(v:AV)(d:Deferred):Prop:=
 ∃(F:FuncId) (first cap:List AV) (vs:List Value) (a2:Array Value),v = .fn (.func F) first cap/\d.target = .fn (.func F) a2/\d.args.toList++a2.toList=vs/\iH ρ D O w (first++cap) vs
def C0(P:Program)(Γ:List (Nat × AV))(H:Hk)(rs:List ResultVar)(v:AV)(s:St)(m:f7)(Q:AV->aN->Nat->Prop)(Qp:Value->aN->Nat->Prop):Prop:=
 match v with
 | .fn (.func F) first cap=>match P.funcs[F]? with
  | some fn=>match fn.body with
   | some c=>match fn.name == "runtime.NumGoroutine" with
    | false=>match fn.results.toList with
     | []=>GE P Γ H c (enter fn.ntmps (first++cap) s.mem s.nx) m fun s' m'=>match m' with
      | .pan x=>Qp x s'.mem s'.nx
      | _=>match wD P rs { s with mem:=s'.mem,nx:=s'.nx } with
       | some r=>Q r s'.mem s'.nx
       | none=>False
     | _::_=>False
    | true=>False
   | none=>False
  | none=>False
 | _=>False
theorem wU{H:Hk}{X:Nat->Prop}{D:Nat->Prop}{ρ ρ0:Nat->cU}{a:Act}{w w0:World}{mem0:aN}{d:Deferred}{v:AV}{fn:Func}{Qr:AV->aN->Nat->Prop}{Qp:Value->aN->Nat->Prop}
  (hD:∀i,D i->i<B) (hs:SR Γ X ([d],0) ρ (dn D B s.nx) s a w) (hB:B<=s.nx) (hv:DfR ρ (dn D B s.nx) (OX X ρ s.mem) w v d) (hext:Ext D ρ0 mem0 w0 ρ (dn D B s.nx) s.mem w)
  (hm:m.mode≠.run) (h:C0 P Γ H fn.results.toList v s m Qr Qp) :
  Leaves P fn a.tmps (fun e w'=>∃(mem':aN) (nx':Nat) (ρ':Nat->cU),B<=nx'/\MR Γ X ρ' (dn D B nx') mem' w'/\Ext D ρ0 mem0 w0 ρ' (dn D B nx') mem' w' /\
   ((∃(r:AV) (v:Value),e = .returned v/\Qr r mem' nx'/\VR ρ' (dn D B nx') (OX X ρ' mem') w' r v)∨(∃x:Value,e = .panicked [pe x]/\Qp x mem' nx'))) [d] m.mode w:=by
 obtain⟨F,first,cap,vs,a2,rfl,ht,hvs,hvr⟩:=hv;simp only[C0] at h;split at h<;>first|exact h.elim|skip
 rename_i fd hf;split at h<;>first|exact h.elim|skip
 rename_i c hc;split at h<;>first|exact h.elim|skip
 rename_i hname;split at h<;>first|exact h.elim|skip
 rename_i hres;have hname':¬fd.name = "runtime.NumGoroutine" := by simpa using hname
 refine⟨hm,.func F,a2,F,vs.toArray,ht, ?_, ?_⟩
 ·rw[ht,←hvs];have e:(d.args.toList++a2.toList).toArray=d.args++a2:=by apply Array.ext';simp
  simp[invoke,callFunc,hf,hc,hname',e]
 ·refine callsD_of_wpS hf hc fun c₀ cs hc0=>?_
  have hwide:∀id,dn (dn D B s.nx) s.nx s.nx id->dn D B s.nx id:=qO hB (Nat.le_refl _);have hsr:=wI (n:=fd.ntmps) (r8 hD hB) hs.mr hvr (Nat.zero_le _);refine wO ((GL (B:=s.nx) (H:=H) c _ _ _ h).run X [] (dn D B s.nx) ρ _ w c₀ cs (r8 hD hB) hsr (Nat.le_refl _) hc0) ?_;rintro e a' cs' w' ⟨s',m',ρ',hq,rfl,hB',hs',hext'⟩;cases e with
  | normal=>
   have hr0:(results fd a'.tmps).run P w' = .ok (.tuple #[]) w':=by
    have:=vH (P:=P) (w:=w') (fn:=fd) (tmps:=a'.tmps) (vs:=[]) (by rw[hres];simp);simpa using this
   have ext2:=hext.trans ((hext'.sub fun i hi=>.inl hi).wide (qO hB hB'));obtain⟨m2,mono2,_⟩:=hs'.mr.widen (qO hB hB');refine⟨hs'.def0.eq,m'.mode,rfl,.tuple #[],hr0, ?_⟩;have hs2:SR Γ X ([],0) ρ' (dn D B s'.nx) { s with mem:=s'.mem,nx:=s'.nx } { tmps:=a.tmps,defers:=[] } w':=
    ⟨m2,zM.start (ds:=([],0)) (Nat.zero_le _),hs.size,fun i u hi=>mono2 _ _ (hext'.vr (hs.slot i u hi))⟩
   have ret:settle m'.mode = .returning->(match wD P fn.results.toList { s with mem:=s'.mem,nx:=s'.nx } with
       | some r=>Qr r s'.mem s'.nx
       | none=>False)->Leaves P fn a.tmps (fun e w'=>∃(mem':aN) (nx':Nat) (ρ':Nat->cU),B<=nx'/\MR Γ X ρ' (dn D B nx') mem' w'/\Ext D ρ0 mem0 w0 ρ' (dn D B nx') mem' w' /\
   ((∃(r:AV) (v:Value),e = .returned v/\Qr r mem' nx'/\VR ρ' (dn D B nx') (OX X ρ' mem') w' r v)∨(∃x:Value,e = .panicked [pe x]/\Qp x mem' nx'))) [] (settle m'.mode) w':=by
    intro hset hq;rw[hset];split at hq
    ·rename_i r hr;obtain⟨x,h1,h2⟩:=uY hs2 hr;exact⟨x,h1,s'.mem,s'.nx,ρ',Nat.le_trans hB hB',m2,ext2,.inl ⟨r,x,rfl,hq,h2⟩⟩
    ·exact hq.elim
   cases m' with
   | ret=>exact ret rfl hq
   | recd x=>exact ret rfl hq
   | pan x=>exact⟨s'.mem,s'.nx,ρ',Nat.le_trans hB hB',m2,ext2,.inr ⟨x,rfl,hq⟩⟩
  | _=>exact(show False from hq).elim
end
structure mF(P:Program)(Γ:List (Nat × AV))(B:Nat)(c:Code)(s:St)(Q:Exit->St->Option AV->Prop):Prop where
 run:∀(X:Nat->Prop) (D:Nat->Prop) (ρ:Nat->cU) (a:Act) (w:World),(∀i,D i->i<B)->SR Γ X ([],0) ρ (dn D B s.nx) s a w->B<=s.nx ->
  c.wp P (fun e a' w'=>∃(s':St) (v:Option AV) (ds:List Deferred) (ρ':Nat->cU),Q e s' v/\B<=s'.nx/\SR Γ X (ds,0) ρ' (dn D B s'.nx) s' a' w'/\Ext D ρ s.mem w ρ' (dn D B s'.nx) s'.mem w' /\
   (match v with
    | none=>ds=[]
    | some v=>∃d,ds=[d]/\DfR ρ' (dn D B s'.nx) (OX X ρ' s'.mem) w' v d)) a w
section
variable {P:Program} {Γ:List (Nat × AV)} {B:Nat} {s:St} {Q:Exit->St->Option AV->Prop}
theorem SR.widen{X:Nat->Prop}{ds:List Deferred × Nat}{ρ:Nat->cU}{D D':Nat->Prop}{a:Act}{w:World}(hs:SR Γ X ds ρ D s a w)(hD:∀i,D i->D' i):SR Γ X ds ρ D' s a w:=by
 obtain⟨m,mono,_⟩:=hs.mr.widen hD;exact⟨m,hs.def0,hs.size,fun i v hi=>mono _ _ (hs.slot i v hi)⟩
theorem mF.of{c:Code}(hc:gA c=false)(h:dI P Γ B c s fun e s'=>Q e s' none):mF P Γ B c s Q:=by
 refine⟨fun X D ρ a w hD hs hB=>Go.wp_mono (Dl.1 (h.run none X ([],0) D ρ a w hD hs hB (.no hc))) ?_⟩;rintro e a' w' ⟨s',ρ',hq,hB',hs',hext⟩;exact⟨s',none,[],ρ',hq,hB',hs',hext,rfl⟩
theorem DfR.vr{X:Nat->Prop}{D D':Nat->Prop}{ρ ρ':Nat->cU}{mem mem':aN}{w w':World}{v:AV}{d:Deferred}(h:Ext D ρ mem w ρ' D' mem' w')(hv:DfR ρ D (OX X ρ mem) w v d):DfR ρ' D' (OX X ρ' mem') w' v d:=by
 obtain⟨F,first,cap,vs,a2,h1,h2,h3,h4⟩:=hv;exact⟨F,first,cap,vs,a2,h1,h2,h3,h4.1,fun j c x hc hx=>h.vr (h4.2 j c x hc hx)⟩
def QB(P:Program)(Γ:List (Nat × AV))(B:Nat)(y:Code)(Q:Exit->St->Option AV->Prop)(e:Exit)(s:St)(v:Option AV):Prop:=
 match e with
 | .normal=>match v with
  | none=>mF P Γ B y s Q
  | some v=>gA y=false/\dI P Γ s.nx y s fun e s'=>Q e s' (some v)
 | e=>Q e s v
theorem mF.seq{x y:Code}(h:mF P Γ B x s (QB P Γ B y Q)):mF P Γ B (.seq x y) s Q:=by
 refine⟨fun X D ρ a w hD hs hB=>wp_seq (Go.wp_mono (h.run X D ρ a w hD hs hB) ?_)⟩;rintro e a' w' ⟨s',v,ds,ρ',hq,hB',hs',hext,hv⟩;cases e with
 | normal=>
  cases v with
  | none=>
   have hv:ds=[]:=hv;subst hv;refine Go.wp_mono ((show mF P Γ B y s' Q from hq).run X D ρ' a' w' hD hs' hB') ?_;rintro e a2 w2 ⟨s2,v2,ds2,ρ2,h1,h2,h3,h4,h5⟩;exact⟨s2,v2,ds2,ρ2,h1,h2,h3,hext.trans h4,h5⟩
  | some v=>
   obtain⟨d,rfl,hd⟩:=hv;have key:=(show gA y=false/\dI P Γ s'.nx y s' (fun e s'=>Q e s' (some v)) from hq)
   refine Go.wp_mono (Dl.1 (key.2.run none X ([d],0) (dn D B s'.nx) ρ' a' w' (r8 hD hB') (hs'.widen fun i hi=>.inl hi) (Nat.le_refl _) (.no key.1))) ?_;rintro e a2 w2 ⟨s2,ρ2,h1,h2,h3,h4⟩;have hd2:=hd.vr h4;obtain⟨_,mono2,_⟩:=h3.mr.widen (qO hB' h2);obtain⟨F,first,cap,vs,a2,g1,g2,g3,g4⟩:=hd2;exact⟨s2,some v,[d],ρ2,h1,Nat.le_trans hB' h2,h3.widen (qO hB' h2),hext.trans ((h4.sub fun i hi=>.inl hi).wide (qO hB' h2)),d,rfl,F,first,cap,vs,a2,g1,g2,g3,g4.1,fun j c x hc hx=>mono2 _ _ (g4.2 j c x hc hx)⟩
 | exit i=>exact⟨s',v,ds,ρ',hq,hB',hs',hext,hv⟩
 | goto l=>exact⟨s',v,ds,ρ',hq,hB',hs',hext,hv⟩
 | ret=>exact⟨s',v,ds,ρ',hq,hB',hs',hext,hv⟩
 | panic c=>exact⟨s',v,ds,ρ',hq,hB',hs',hext,hv⟩
 | outgrown=>exact⟨s',v,ds,ρ',hq,hB',hs',hext,hv⟩
def Ep(P:Program)(Γ:List (Nat × AV))(ops:List Oper):List Oper->St->(St->AV->Prop)->Prop
 | [],_,_=>False
 | o::r,s,K=>match kJ ops s o.guard with
  | some true=>match o.op with
   | .defer c=>match r with
    | []=>match c.args.toList with
     | []=>match c.callee with
      | .value f=>match ev Γ s f with
       | some (.fn (.func F) first cap)=>match dT s o.dst (.tup []) s.mem s.nx with
        | some s'=>K s' (.fn (.func F) first cap)
        | none=>False
       | _=>False
      | _=>False
     | _::_=>False
    | _::_=>False
   | op=>match cJ P Γ s op with
    | some (v,mem,nx)=>match dT s o.dst v mem nx with
     | some s'=>Ep P Γ ops r s' K
     | none=>False
    | none=>False
  | _=>False
theorem yV(ops:List Oper):∀(l:List Oper) (s:St) (K:St->AV->Prop),Ep P Γ ops l s K ->
  ∀(X:Nat->Prop) (D:Nat->Prop) (ρ:Nat->cU) (a:Act) (w:World) (Q:Exit->Act->World->Prop),(∀i,D i->i<B)->SR Γ X ([],0) ρ (dn D B s.nx) s a w->B<=s.nx ->
   (∀(s':St) (v:AV) (d:Deferred) (ρ':Nat->cU) (a':Act) (w':World),K s' v->B<=s'.nx->SR Γ X ([d],0) ρ' (dn D B s'.nx) s' a' w'->Ext D ρ s.mem w ρ' (dn D B s'.nx) s'.mem w'->DfR ρ' (dn D B s'.nx) (OX X ρ' s'.mem) w' v d->Q .normal a' w')->wpList P ops.toArray Q l a w
 | [],s,K,h,X,D,ρ,a,w,Q,hD,hs,hB,hQ=>h.elim
 | o::r,s,K,h,X,D,ρ,a,w,Q,hD,hs,hB,hQ=>by
  simp only[Ep] at h;refine wpList_step fun K' hK'=>?_
  split at h<;>first|exact h.elim|skip
  rename_i hw;rw[f8 hs hw];simp only[if_true];split at h
  ·rename_i c hop;split at h<;>first|exact h.elim|skip
   split at h<;>first|exact h.elim|skip
   rename_i hargs;split at h<;>first|exact h.elim|skip
   rename_i f hc;split at h<;>first|exact h.elim|skip
   rename_i F first cap hf
   split at h<;>first|exact h.elim|skip
   rename_i s' hst;have hv:=aV hs hf;generalize he:a.eval f=fv at hv;cases hv with
   | fn _ _ _ a1 a2 l1 l2 r1 r2=>
    have hargs':c.args = #[]:=by apply Array.ext';simpa using hargs
    have e1:(execOp a.eval o).run P w = .ok (.defer { target:=.fn (.func F) a2,args:=a1 }) w:=by
     simp[execOp,hop,resolve,hc,he,Deferred.ofValue,hargs']
    unfold Oper.wp;rw[e1];have hs':SR Γ X ([{ target:=.fn (.func F) a2,args:=a1 }],0) ρ (dn D B s.nx) s { a with defers:={ target:=.fn (.func F) a2,args:=a1 }::a.defers } w:=
     ⟨hs.mr,by rw[hs.def0.eq];exact zM.start (ds:=([_],0)) (Nat.zero_le _),hs.size,hs.slot⟩
    obtain⟨h1,h2,h3⟩:=fL hst hs' hs'.mr qZ (fun h=>h) (fun _ _ h=>h);refine hK' _ _ (wpList_nil (hQ s' _ _ ρ _ w h (by rw[h3];exact hB) (by rw[h3];exact h1) (by rw[h2,h3];exact Ext.refl fun i hi=>.inl hi) ?_));refine⟨F,first,cap,a1.toList++a2.toList,a2,rfl,rfl,rfl, ?_⟩;rw[h2,h3];exact iH.append ⟨by simpa using l1,fun j c x h1 h2=>r1 j c x h1 (by simpa using h2)⟩ ⟨by simpa using l2,fun j c x h1 h2=>r2 j c x h1 (by simpa using h2)⟩
  ·rename_i hnd;split at h<;>first|exact h.elim|skip
   rename_i v mem nx hstep;split at h<;>first|exact h.elim|skip
   rename_i s' hst;have hnx:s.nx<=nx:=by rcases w9 hstep with h'|h'<;>omega
   obtain⟨x,n,w',ρ',e1,e2,m1,v1,mono1,ext1⟩:=lK (P:=P) (D:=dn D B s.nx) (D':=dn D B nx) (fun h'=>Nat.lt_irrefl _ (r8 hD hB _ h')) (tN hnx) hs o (fun e=>.inr ⟨hB,om⟩) hstep;obtain⟨h1,h2,h3⟩:=fL hst hs m1 v1 (ext1 _ fun i hi=>hi).mks mono1;have fin:K' (a.put o.dst x) w':=hK' _ _ (yV ops r s' K h X D ρ' _ w' Q hD (by rw[h3];exact h1) (by rw[h3];exact Nat.le_trans hB hnx) fun s2 v2 d2 ρ2 a2 w2 k1 k2 k3 k4 k5=>hQ s2 v2 d2 ρ2 a2 w2 k1 k2 k3 ((ext1 D fun i hi=>.inl hi).trans (by rw[←h2];exact k4)) k5);unfold Oper.wp;rw[e1];rcases e2 with rfl|⟨rfl,rfl⟩
   ·exact fin
   ·exact fin
theorem mF.region{id:Nat}{ops:Array Oper}(h:Ep P Γ ops.toList ops.toList s fun s' v=>Q .normal s' (some v)):mF P Γ B (.region id ops false) s Q:=by
 refine⟨fun X D ρ a w hD hs hB=>wp_region_list ?_⟩;have:=yV ops.toList ops.toList s _ h X D ρ a w (fun e a' w'=>∃(s':St) (v:Option AV) (ds:List Deferred) (ρ':Nat->cU),Q e s' v/\B<=s'.nx/\SR Γ X (ds,0) ρ' (dn D B s'.nx) s' a' w'/\Ext D ρ s.mem w ρ' (dn D B s'.nx) s'.mem w' /\
   (match v with
    | none=>ds=[]
    | some v=>∃d,ds=[d]/\DfR ρ' (dn D B s'.nx) (OX X ρ' s'.mem) w' v d)) hD hs hB
  (fun s' v d ρ' a' w' h1 h2 h3 h4 h5=>⟨s',some v,[d],ρ',h1,h2,h3,h4,d,rfl,h5⟩)
 simpa using this
def L5(P:Program)(Γ:List (Nat × AV))(H:Hk)(rs:List ResultVar)(Q:AV->aN->Nat->Prop)(Qp:Value->aN->Nat->Prop)(s:St)(v:Option AV):Prop:=
 match v with
 | none=>match wD P rs s with
  | some r=>Q r s.mem s.nx
  | none=>False
 | some v=>C0 P Γ H rs v s .ret Q Qp
def Qh(P:Program)(Γ:List (Nat × AV))(H:Hk)(rs:List ResultVar)(Q:AV->aN->Nat->Prop)(Qp:Value->aN->Nat->Prop)(x:Value)(s:St)(v:Option AV):Prop:=
 match v with
 | none=>Qp x s.mem s.nx
 | some v=>C0 P Γ H rs v s (.pan x) Q Qp
def BA(P:Program)(Γ:List (Nat × AV))(H:Hk)(rs:List ResultVar)(Q:AV->aN->Nat->Prop)(Qp:Value->aN->Nat->Prop):Exit->St->Option AV->Prop:=fun e s v=>
 match e with
 | .normal=>L5 P Γ H rs Q Qp s v
 | .ret=>L5 P Γ H rs Q Qp s v
 | .panic [⟨x,false,false⟩]=>Qh P Γ H rs Q Qp x s v
 | _=>False
theorem qN{H:Hk}{F:FuncId}{fn:Func}{c:Code}{args:List AV}{mem:aN}{nx:Nat}{Q:AV->aN->Nat->Prop}{Qp:Value->aN->Nat->Prop}(hf:P.funcs[F]? = some fn)(hb:fn.body=some c)
  (h:mF P Γ nx c (enter fn.ntmps args mem nx) (BA P Γ H fn.results.toList Q Qp)) (hF:Nat.beq F YF=false:=by rfl):bI P Γ F args mem nx Q Qp:=by
 refine⟨fun X D ρ w vs hD hm hv=>.of hF (calls_of_wp_defers hf hb ?_)⟩;refine Go.wp_mono (h.run X D ρ _ w hD (wI hD hm hv (Nat.zero_le _)) (Nat.le_refl _)) ?_;rintro e a' w' ⟨s',v,ds,ρ',hq,hB',hs',hext,hv⟩;have ret:L5 P Γ H fn.results.toList Q Qp s' v->Leaves P fn a'.tmps (fun e w'=>∃(mem':aN) (nx':Nat) (ρ':Nat->cU),nx<=nx'/\MR Γ X ρ' (dn D nx nx') mem' w'/\Ext D ρ mem w ρ' (dn D nx nx') mem' w' /\
   ((∃(r:AV) (v:Value),e = .returned v/\Q r mem' nx'/\VR ρ' (dn D nx nx') (OX X ρ' mem') w' r v)∨(∃x:Value,e = .panicked [pe x]/\Qp x mem' nx'))) a'.defers .returning w':=by
  intro hq;cases v with
  | none=>
   have hv:ds=[]:=hv;subst hv;rw[hs'.def0.eq];simp only[L5] at hq;split at hq
   ·rename_i r hr;obtain⟨x,h1,h2⟩:=uY hs' hr;exact⟨x,h1,s'.mem,s'.nx,ρ',hB',hs'.mr,hext,.inl ⟨r,x,rfl,hq,h2⟩⟩
   ·exact hq.elim
  | some v=>
   obtain⟨d,rfl,hd⟩:=hv;rw[hs'.def0.eq];exact wU (B:=nx) (m:=.ret) hD hs' hB' hd hext (by simp[f7.mode]) hq
 cases e with
 | normal=>exact ret hq
 | ret=>exact ret hq
 | panic ch=>
  unfold BA at hq;split at hq
  ·rename_i e;cases e
  ·rename_i e;cases e
  ·rename_i x e;cases e
   show Leaves P fn a'.tmps _ a'.defers (.panicking [pe x]) w'
   cases v with
   | none=>
    have hv:ds=[]:=hv;subst hv;rw[hs'.def0.eq];exact⟨s'.mem,s'.nx,ρ',hB',hs'.mr,hext,.inr ⟨x,rfl,hq⟩⟩
   | some v=>
    obtain⟨d,rfl,hd⟩:=hv;rw[hs'.def0.eq];exact wU (B:=nx) (m:=.pan x) hD hs' hB' hd hext (by simp[f7.mode]) hq
  ·exact hq.elim
 | _=>exact(show False from hq).elim
end
end Go.Ax
namespace Go.Ax
open Go
def Iv(F:Nat):List Nat->Bool
 | []=>false
 | G::r=>match Nat.beq G F with
  | true=>true
  | false=>Iv F r
def Mp:List Oper->Bool
 | []=>false
 | o::r=>match o.op with
  | .defer _=>true
  | _=>Mp r
def Fw(cl:Bool)(P:Program)(Γ:List (Nat × AV))(H:Hk):Code->St->(Exit->St->Option AV->Prop)->Prop
 | .seq x y,s,Q=>Fw cl P Γ H x s fun e s' v=>match e with
  | .normal=>match v with
   | none=>Fw cl P Γ H y s' Q
   | some v=>match gA y with
    | false=>vJ cl P Γ H y s' fun e s''=>Q e s'' (some v)
    | true=>False
  | e=>Q e s' v
 | .region id ops draw,s,Q=>match Mp ops.toList with
  | true=>match draw with
   | false=>Ep P Γ ops.toList ops.toList s fun s' v=>Q .normal s' (some v)
   | true=>False
  | false=>vJ cl P Γ H (.region id ops draw) s fun e s'=>Q e s' none
 | c,s,Q=>match gA c with
  | false=>vJ cl P Γ H c s fun e s'=>Q e s' none
  | true=>False
theorem G2{cl:Bool}{P:Program}{Γ:List (Nat × AV)}{H:Hk}(hH:∀B,wA P Γ B H)(B:Nat):∀(c:Code) (s:St) (Q:Exit->St->Option AV->Prop),Fw cl P Γ H c s Q->mF P Γ B c s Q:=by
 intro c
 induction c with
 | seq x y ihx ihy=>
  intro s Q h;simp only[Fw] at h;refine mF.seq ?_;obtain⟨h'⟩:=ihx s _ h;refine⟨fun X D ρ a w hD hs hB=>Go.wp_mono (h' X D ρ a w hD hs hB) ?_⟩;rintro e a' w' ⟨s',v,ds,ρ',hq,rest⟩;refine⟨s',v,ds,ρ', ?_,rest⟩;cases e with
  | normal=>
   cases v with
   | none=>exact ihy s' Q hq
   | some v=>
    simp only at hq;split at hq
    ·rename_i hr;exact⟨hr,dS (hH s'.nx) y s' _ hq⟩
    ·exact hq.elim
  | exit i=>exact hq
  | goto l=>exact hq
  | ret=>exact hq
  | panic c=>exact hq
  | outgrown=>exact hq
 | region id ops draw=>
  intro s Q h;simp only[Fw] at h;split at h
  ·split at h
   ·exact mF.region h
   ·exact h.elim
  ·exact .of rfl (dS (hH B) _ _ _ h)
 | _=>
  intro s Q h;simp only[Fw] at h;split at h
  ·rename_i hr;exact .of hr (dS (hH B) _ _ _ h)
  ·exact h.elim
def Gi(P:Program)(Γ:List (Nat × AV))(H:Hk)(args:List AV)(mem:aN)(nx:Nat)(K:AV->aN->Nat->Prop):Prop:=
 match args with
 | .yld id::rest=>opt (lk mem id) fun b=>match b with
  | .loop sl nt ps ca cb st pd=>match gA ca with
   | false=>match gA cb with
    | false=>opt (y7 nt ps.toList rest sl) fun sl'=>vJ true P Γ H ca ⟨sl',mem,nx,nt⟩ fun e s1=>match e with
     | .normal=>Bc s1 fun sl1 m1 n1 t1=>opt (lk m1 id) fun b1=>match b1 with
      | .loop sl nt ps ca cb' .ready pd=>EU m1 id (.loop sl nt ps ca cb' .busy pd) fun m2=>vJ true P Γ H cb ⟨sl1,m2,n1,t1⟩ fun e s3=>Bc s3 fun _ m3 n3 _=>opt (lk m3 id) fun b3=>match b3 with
       | .loop sl nt ps ca cb _ _=>match e with
        | .normal=>EU m3 id (.loop sl nt ps ca cb .ready none) fun m=>K (.bool true) m n3
        | .ret=>EU m3 id (.loop sl nt ps ca cb .done (some .ret)) fun m=>K (.bool false) m n3
        | .exit i=>EU m3 id (.loop sl nt ps ca cb .done (some (.exit i))) fun m=>K (.bool false) m n3
        | _=>False
       | _=>False
      | _=>False
     | _=>False
    | true=>False
   | true=>False
  | _=>False
 | _=>False
theorem DV{P:Program}{Γ:List (Nat × AV)}{H:Hk}(hH:∀B,wA P Γ B H){args:List AV}{mem:aN}{nx:Nat}{K:AV->aN->Nat->Prop}{Kp:Value->aN->Nat->Prop}(h:Gi P Γ H args mem nx K):bI P Γ YF args mem nx K Kp:=by
 unfold Gi at h;split at h<;>first|exact h.elim|skip
 obtain⟨b,h1,h⟩:=bP.1 h;split at h<;>first|exact h.elim|skip
 split at h<;>first|exact h.elim|skip
 rename_i ha;split at h<;>first|exact h.elim|skip
 rename_i hb;obtain⟨sl',h2,h⟩:=bP.1 h;refine bI.round h1 h2 ha hb ((dS (hH nx) _ _ _ h).mono fun e s1 h=>?_);unfold OR;split at h<;>first|exact h.elim|skip
 obtain⟨b1,h3,h⟩:=bP.1 (jU.1 h);simp only[h3];split at h<;>first|exact h.elim|skip
 refine(dS (hH nx) _ _ _ (j8.1 h)).mono fun e s3 h=>?_
 unfold Nq;obtain⟨b3,h4,h⟩:=bP.1 (jU.1 h);simp only[h4];split at h<;>first|exact h.elim|skip
 split at h
 ·exact j8.1 h
 ·exact j8.1 h
 ·exact j8.1 h
 ·exact h.elim
end Go.Ax
namespace Go.Ax
open Go
section
variable {P:Program} {Γ:List (Nat × AV)} {B:Nat}
theorem bI.use{F:FuncId}{as args:List AV}{ms mem m1 rest:aN}{ns nx:Nat}{Qs K:AV->aN->Nat->Prop}{Qsp Kp:Value->aN->Nat->Prop}(hΓ:∀p∈Γ,NN p.2)(h:bI P Γ F as ms ns Qs Qsp)(σ:List (Nat × Nat))
  (hp:rC mem m1 rest) (hrest:(rest.map (·.1)).Nodup) (hargs:jL m1 σ args as) (hM:K7 m1 σ ms) (hnod:(ms.map (·.1)).Nodup) (hinj:Gx σ) (hlt:∀id i,lk σ id=some i->i<ns)
  (hk:∀r m n,Qs r m n->ns<=n->∃τ r' m' n',nx<=n'/\Cv m τ r r'/\K7 m τ m'/\(m'.map (·.1)).Nodup/\Gx τ/\(∀i id,lk τ i=some id->(i<ns/\lk σ id=some i)∨(ns<=i/\nx<=id/\id<n')) /\
   (∀p∈m',∀q∈rest,p.1≠q.1)/\K r' (m'++rest) n')
  (hkp:∀x m n,Qsp x m n->ns<=n->∃τ m' n',nx<=n'/\K7 m τ m'/\(m'.map (·.1)).Nodup/\Gx τ/\(∀i id,lk τ i=some id->(i<ns/\lk σ id=some i)∨(ns<=i/\nx<=id/\id<n')) /\
   (∀p∈m',∀q∈rest,p.1≠q.1)/\Kp x (m'++rest) n'):bI P Γ F args mem nx K Kp:=by
 refine⟨fun X D ρ w vs hD hm hv=>?_⟩;obtain⟨p1,pv⟩:=hm.part hp;have hσ:∀id i,lk σ id=some i->D id->(∃id,lk σ id=some i/\D id)/\iG σ ρ ρ i=ρ id:=fun id i h1 h2=>⟨⟨id,h1,h2⟩,iI hinj h1⟩
 obtain⟨s1,sv,so⟩:=p1.turn (D':=fun i=>∃id,lk σ id=some i/\D id) hΓ hσ hM hnod hinj;have hvs:iH (iG σ ρ ρ) (fun i=>∃id,lk σ id=some i/\D id) (OX (XR X ρ rest) (iG σ ρ ρ) ms) w as vs:=
  ⟨by rw[←hargs.1];exact hv.1,fun j c' x hc' hx=>by
   obtain⟨c,hc⟩:=cQ hargs.1 hc';exact sv c c' (hargs.2 j c c' hc hc') _ (pv _ _ (hv.2 j c x hc hx))⟩
 refine(h.run _ _ _ w vs (fun i ⟨id,h1,_⟩=>hlt id i h1) s1 hvs).mono ?_;rintro e w' ⟨m,n,ρs,hn,r1,ext,hres⟩;have main:∀(τ:List (Nat × Nat)) (m':aN) (n':Nat),nx<=n'->K7 m τ m'->(m'.map (·.1)).Nodup->Gx τ->(∀i id,lk τ i=some id->(i<ns/\lk σ id=some i)∨(ns<=i/\nx<=id/\id<n'))->(∀p∈m',∀q∈rest,p.1≠q.1) ->
   ∃ρ',MR Γ X ρ' (dn D nx n') (m'++rest) w'/\Ext D ρ mem w ρ' (dn D nx n') (m'++rest) w'/\∀r r',Cv m τ r r'->∀x,VR ρs (dn (fun i=>∃id,lk σ id=some i/\D id) ns n) (OX (XR X ρ rest) ρs m) w' r x->VR ρ' (dn D nx n') (OX X ρ' (m'++rest)) w' r' x:=by
  intro τ m' n' hn' t2 t3 t4 t5 t6;have hτ:∀i id,lk τ i=some id->dn (fun i=>∃id,lk σ id=some i/\D id) ns n i->dn D nx n' id/\iG τ ρs ρ id=ρs i:=by
   intro i id h1 h2;refine⟨?_,iI t4 h1⟩;rcases t5 i id h1 with⟨h3,h4⟩|⟨h3,h4,h5⟩
   ·rcases h2 with⟨id0,h5,h6⟩|⟨h5,_⟩
    ·rw[hinj id id0 i h4 h5];exact .inl h6
    ·omega
   ·exact .inr ⟨h4,h5⟩
  obtain⟨u1,uv,uo⟩:=r1.turn hΓ hτ t2 t3 t4;have hext:Ext D ρ m1 w (iG τ ρs ρ) (dn D nx n') m' w':=by
   refine⟨fun i hi=>.inl hi,fun id hid=>?_,ext.size,fun b hb ho=>?_,fun p hp' hpn=>?_,ext.env⟩
   ·by_cases hex:∃i,lk τ i=some id
    ·obtain⟨i,hi⟩:=hex;rw[iI t4 hi];rcases t5 i id hi with⟨h3,h4⟩|⟨h3,h4,h5⟩
     ·rw[ext.agree i ⟨id,h4,hid⟩,iI hinj h4]
     ·have:=hD id hid;omega
    ·exact sV hex
   ·refine ext.keep b hb fun⟨p,hp',hpn,e⟩=>ho ?_
    rw[←e];exact so p hp' hpn
   ·obtain⟨q,hq',hqn,e⟩:=uo p hp' hpn;rw[←e];rcases ext.fresh q hq' hqn with⟨q',hq1,hq2,e'⟩|h1
    ·rw[←e'];exact .inl (so q' hq1 hq2)
    ·exact .inr h1
  obtain⟨j1,j2,j3,j4⟩:=MR.join (D':=dn D nx n') hm hp u1 hext (fun p hp=>hp) t6 hrest;exact⟨_,j1,j4 D fun i hi=>hi,fun r r' hc x hx=>j2 _ _ (uv r r' hc _ hx)⟩
 rcases hres with⟨r,v,rfl,hq,rv⟩|⟨x,rfl,hq⟩
 ·obtain⟨τ,r',m',n',hn',t1,t2,t3,t4,t5,t6,hK⟩:=hk r m n hq hn;obtain⟨ρ',k1,k2,k3⟩:=main τ m' n' hn' t2 t3 t4 t5 t6;exact⟨_,n',ρ',hn',k1,k2,.inl ⟨r',v,rfl,hK,k3 r r' t1 _ rv⟩⟩
 ·obtain⟨τ,m',n',hn',t2,t3,t4,t5,t6,hK⟩:=hkp x m n hq hn;obtain⟨ρ',k1,k2,k3⟩:=main τ m' n' hn' t2 t3 t4 t5 t6;exact⟨_,n',ρ',hn',k1,k2,.inr ⟨x,rfl,hK⟩⟩
def Hp(B:Nat)(Qp:Value->aN->Nat->Prop)(x:Value)(m:aN)(n:Nat):Prop:=kQ B (fun _ m n=>Qp x m n) .junk m n
theorem bI.turn{F:FuncId}{args:List AV}{mem:aN}{nx:Nat}{Q:AV->aN->Nat->Prop}{Qp:Value->aN->Nat->Prop}(hΓ:∀p∈Γ,NN p.2)(h:bI P Γ F args mem nx (kQ nx Q) (Hp nx Qp)):bI P Γ F args mem nx Q Qp:=by
 refine⟨fun X D ρ w vs hD hm hv=>(h.run X D ρ w vs hD hm hv).mono ?_⟩;rintro e w' ⟨m,n,ρ',h3,h4,h6,(⟨r,v,h1,⟨σ,r',m',n',hc,hq⟩,h5⟩|⟨x,h1,⟨σ,r',m',n',hc,hq⟩⟩)⟩
 ·obtain⟨m1,v1,e1⟩:=rJ hΓ hD h4 hc.mem hc.nod hc.inj hc.old;exact⟨m',n',_,hc.nx,m1,h6.trans e1,.inl ⟨r',v,h1,hq,v1 r r' hc.res _ h5⟩⟩
 ·obtain⟨m1,v1,e1⟩:=rJ hΓ hD h4 hc.mem hc.nod hc.inj hc.old;exact⟨m',n',_,hc.nx,m1,h6.trans e1,.inr ⟨x,h1,hq⟩⟩
structure mR(P:Program)(Γ:List (Nat × AV))(B:Nat)(ops l:List Oper)(s:St)(K:St->Prop)(Kp:Value->St->Prop):Prop where
 run:tQ P Γ (Dd P Γ B) ops l s K Kp
def IV(P:Program)(Γ:List (Nat × AV))(B:Nat)(ops:List Oper)(K:St->Prop)(Kp:Value->St->Prop)(next:List Oper->St->Prop)(l:List Oper)(s:St):Prop:=
 match l with
 | []=>K s
 | o::r=>Bc s fun sl mem nx nt=>mU ops sl o.guard
   (Az false P Γ (Dd P Γ B) sl mem nx o.op (fun v mem nx=>iU s o.dst v mem nx fun s'=>next r s') fun x mem nx=>Kp x ⟨sl,mem,nx,nt⟩)
   (iU s o.dst (.tup []) mem nx fun s'=>next r s')
theorem xB{ops:List Oper}{K:St->Prop}{Kp:Value->St->Prop}{next:List Oper->St->Prop}(hn:∀r s,next r s->mR P Γ B ops r s K Kp){l:List Oper}{s:St}(h:IV P Γ B ops K Kp next l s):mR P Γ B ops l s K Kp:=by
 refine⟨?_⟩;cases l with
 | nil=>exact h
 | cons o r=>
  have h:mU ops s.sl o.guard (Az false P Γ (Dd P Γ B) s.sl s.mem s.nx o.op (fun v mem nx=>iU s o.dst v mem nx fun s'=>next r s') fun x mem nx=>Kp x ⟨s.sl,mem,nx,s.nt⟩) (iU s o.dst (.tup []) s.mem s.nx fun s'=>next r s'):=h;simp only[tQ];rcases qC h with⟨h1,h⟩|⟨h1,h⟩
  ·simp only[h1];rcases H0 h with⟨v,m,n,h2,h⟩|⟨h2,F,l,h3,h⟩|⟨h2,h3,y,h4,h⟩
   ·obtain⟨s',h4,h⟩:=dJ h;simp only[h2,h4];exact(hn _ _ h).run
   ·simp only[h2,h3];refine(show bI P Γ F l s.mem s.nx _ _ from h).mono (fun v m n h=>?_) fun x m n h=>h
    obtain⟨s',h4,h⟩:=dJ h;simp only[h4];exact(hn _ _ h).run
   ·simp only[h2,h3,h4];exact h
  ·obtain⟨s',h4,h⟩:=dJ h;simp only[h1,h4];exact(hn _ _ h).run
def PL(P:Program)(Γ:List (Nat × AV))(B:Nat)(ops:List Oper)(K:St->Prop)(Kp:Value->St->Prop)(l:List Oper)(s:St):Prop:=mR P Γ B ops l s K Kp
theorem Mj{ops:List Oper}{K:St->Prop}{Kp:Value->St->Prop}(l:List Oper)(s:St)(h:PL P Γ B ops K Kp l s):mR P Γ B ops l s K Kp:=h
def O5(P:Program)(Γ:List (Nat × AV))(B:Nat)(ops:List Oper)(K:St->Prop)(Kp:Value->St->Prop)(l:List Oper)(s:St):Prop:=IV P Γ B ops K Kp (PL P Γ B ops K Kp) l s
theorem Ld{ops:List Oper}{K:St->Prop}{Kp:Value->St->Prop}(l:List Oper)(s:St)(h:O5 P Γ B ops K Kp l s):mR P Γ B ops l s K Kp:=xB Mj h
def PD(P:Program)(Γ:List (Nat × AV))(B:Nat)(ops:List Oper)(K:St->Prop)(Kp:Value->St->Prop)(l:List Oper)(s:St):Prop:=IV P Γ B ops K Kp (O5 P Γ B ops K Kp) l s
theorem LQ{ops:List Oper}{K:St->Prop}{Kp:Value->St->Prop}(l:List Oper)(s:St)(h:PD P Γ B ops K Kp l s):mR P Γ B ops l s K Kp:=xB Ld h
def Pp(P:Program)(Γ:List (Nat × AV))(B:Nat)(ops:List Oper)(K:St->Prop)(Kp:Value->St->Prop)(l:List Oper)(s:St):Prop:=IV P Γ B ops K Kp (PD P Γ B ops K Kp) l s
theorem MI{ops:List Oper}{K:St->Prop}{Kp:Value->St->Prop}(l:List Oper)(s:St)(h:Pp P Γ B ops K Kp l s):mR P Γ B ops l s K Kp:=xB LQ h
def QO(P:Program)(Γ:List (Nat × AV))(B:Nat)(ops:List Oper)(K:St->Prop)(Kp:Value->St->Prop)(l:List Oper)(s:St):Prop:=IV P Γ B ops K Kp (Pp P Γ B ops K Kp) l s
theorem LL{ops:List Oper}{K:St->Prop}{Kp:Value->St->Prop}(l:List Oper)(s:St)(h:QO P Γ B ops K Kp l s):mR P Γ B ops l s K Kp:=xB MI h
def OV(P:Program)(Γ:List (Nat × AV))(B:Nat)(ops:List Oper)(K:St->Prop)(Kp:Value->St->Prop)(l:List Oper)(s:St):Prop:=IV P Γ B ops K Kp (QO P Γ B ops K Kp) l s
theorem MD{ops:List Oper}{K:St->Prop}{Kp:Value->St->Prop}(l:List Oper)(s:St)(h:OV P Γ B ops K Kp l s):mR P Γ B ops l s K Kp:=xB LL h
theorem mR.many{ops l:List Oper}{s:St}{K:St->Prop}{Kp:Value->St->Prop}(h:OV P Γ B ops K Kp l s):mR P Γ B ops l s K Kp:=MD l s h
structure zL(P:Program)(Γ:List (Nat × AV))(B:Nat)(ops:List Oper)(tr:List (List Nat))(base:Nat)(K:St->Prop)(Kp:Value->aN->Nat->Prop)(l:List Nat)(recs:List xQ)(s:St):Prop where
 run:nN P Γ (Dd P Γ B) ops tr base K Kp l recs s
def OP(P:Program)(Γ:List (Nat × AV))(B:Nat)(ops:List Oper)(tr:List (List Nat))(base:Nat)(K:St->Prop)(Kp:Value->aN->Nat->Prop)(l:List Nat)(recs:List xQ)(s:St):Prop:=
 match l with
 | []=>K s
 | i::r=>match ops[i]? with
  | none=>False
  | some o=>Bc s fun sl mem nx nt=>mU ops sl o.guard
   (match kind P o.op with
    | .pure=>match still o.op with
     | true=>n4 false P Γ sl [] nx o.op fun v _ _=>iU s o.dst v mem nx fun s'=>zL P Γ B ops tr base K Kp r (⟨i,sl,true,v⟩::recs) s'
     | false=>fA (fun p=>EQ tr base ops.length i p.1) mem fun m=>n4 false P Γ sl m nx o.op fun v _ _=>iU s o.dst v mem nx fun s'=>zL P Γ B ops tr base K Kp r (⟨i,sl,true,v⟩::recs) s'
    | .al=>l9 (base+i) fun id=>n4 false P Γ sl [] id o.op fun v m _=>match m with
     | [(_,b)]=>iU s o.dst v ((id,b)::mem) nx fun s'=>zL P Γ B ops tr base K Kp r (⟨i,sl,true,v⟩::recs) s'
     | _=>False
    | .eff=>fA (fun p=>EQ tr base ops.length i p.1) mem fun m=>Bi false P Γ (Dd P Γ B) sl m nx o.op (fun v m nx'=>fA (fun p=>!EQ tr base ops.length i p.1) mem fun rest=>fA (fun p=>!pO p.1 m) rest fun rest=>yA m rest fun m=>
      iU s o.dst v m nx' fun s'=>pN false P Γ ops tr base i m nx' recs (zL P Γ B ops tr base K Kp r recs s')) Kp)
   (iU s o.dst (.tup []) mem nx fun s'=>zL P Γ B ops tr base K Kp r (⟨i,sl,false,.tup []⟩::recs) s')
theorem zL.go{ops:List Oper}{tr:List (List Nat)}{base:Nat}{K:St->Prop}{Kp:Value->aN->Nat->Prop}{l:List Nat}{recs:List xQ}{s:St}(h:OP P Γ B ops tr base K Kp l recs s):zL P Γ B ops tr base K Kp l recs s:=by
 refine⟨?_⟩;cases l with
 | nil=>exact h
 | cons i r=>
  simp only[OP] at h;simp only[nN];split at h
  ·exact h.elim
  ·rename_i o ho;simp only[ho];have h:=jU.1 h;rcases qC h with⟨h1,h⟩|⟨h1,h⟩
   ·simp only[h1];split at h
    ·rename_i hkd;simp only[hkd];split at h
     ·rename_i hst;obtain⟨v,m,n,h2,h⟩:=iO (s:={ sl:=s.sl,mem:=[],nx:=s.nx,nt:=s.nt }) h;obtain⟨m',n',h2'⟩:=nX (s:={ sl:=s.sl,mem:=[],nx:=s.nx,nt:=s.nt }) (s':={ s with mem:=eD tr base ops.length i s.mem }) hst rfl h2;obtain⟨s',h3,h⟩:=dJ h;simp only[h2',h3];exact h.run
     ·have h:=bY.1 h;obtain⟨v,m,n,h2,h⟩:=iO (s:={ s with mem:=eD tr base ops.length i s.mem }) h;obtain⟨s',h3,h⟩:=dJ h;simp only[h2,h3];exact h.run
    ·rename_i hkd;simp only[hkd];have h:=dB.1 h;obtain⟨v,m,n,h2,h⟩:=iO (s:={ s with mem:=[],nx:=base+i }) h;simp only[h2];split at h
     ·obtain⟨s',h3,h⟩:=dJ h;simp only[h3];exact h.run
     ·exact h.elim
    ·rename_i hkd;simp only[hkd];have h:=bY.1 h;rcases x9 (s:={ s with mem:=eD tr base ops.length i s.mem }) h with⟨v,m,n,h2,h⟩|⟨h2,F,l,h3,h⟩
     ·simp only[h2];have h:=fN.1 (bY.1 (bY.1 h));obtain⟨s',h3,h⟩:=dJ h;have h3:dT s o.dst v (m++oJ m (eR tr base ops.length i s.mem)) n=some s':=h3;simp only[h3];obtain⟨e1,e2,_⟩:=eS h3;have h:pN false P Γ ops tr base i (m++oJ m (eR tr base ops.length i s.mem)) n recs (zL P Γ B ops tr base K Kp r recs s'):=h;rw[←e1,←e2] at h;obtain⟨h4,h⟩:=lW h;exact⟨h4,h.run⟩
     ·rw[n7 (s':=s) (fun x _=>by cases x<;>rfl)] at h3;simp only[h2,h3];refine(show bI P Γ F l _ _ _ _ from h).mono (fun v m n h=>?_) fun x m n h=>h
      have h:=fN.1 (bY.1 (bY.1 h));obtain⟨s',h3,h⟩:=dJ h;have h3:dT s o.dst v (m++oJ m (eR tr base ops.length i s.mem)) n=some s':=h3;simp only[h3];obtain⟨e1,e2,_⟩:=eS h3;have h:pN false P Γ ops tr base i (m++oJ m (eR tr base ops.length i s.mem)) n recs (zL P Γ B ops tr base K Kp r recs s'):=h;rw[←e1,←e2] at h;obtain⟨h4,h⟩:=lW h;exact⟨h4,h.run⟩
   ·obtain⟨s',h3,h⟩:=dJ h;simp only[h1,h3];exact h.run
def K2(P:Program)(Γ:List (Nat × AV))(B:Nat)(ops:List Oper)(s:St)(Q:Exit->St->Prop):Prop:=
 match P.follows .mixedOrders with
 | true=>match xO P ops (qU P ops ops.length [] (vG ops.length)) with
  | true=>Bc s fun sl mem nx nt=>l9 (nx+ops.length) fun n=>sJ (qU P ops ops.length [] (vG ops.length)) fun ord=>zL P Γ B ops (HD ops []) nx (fun s'=>Q .normal s') (fun x m n=>Q (.panic [pe x]) ⟨rZ ops sl,m,n,nt⟩) ord [] ⟨sl,mem,n,nt⟩
  | false=>False
 | false=>False
def PU(P:Program)(Γ:List (Nat × AV))(B:Nat)(c:Code)(s:St)(Q:Exit->St->Prop):Prop:=
 match c with
 | .region _ ops draw=>match draw with
  | false=>mR P Γ B ops.toList ops.toList s (fun s'=>Q .normal s') fun x s'=>Q (.panic [pe x]) s'
  | true=>K2 P Γ B ops.toList s Q
 | c=>Oa P Γ B c s Q
theorem dI.goP{c:Code}{s:St}{Q:Exit->St->Prop}(h:PU P Γ B c s Q):dI P Γ B c s Q:=by
 cases c with
 | region id ops draw=>
  cases draw with
  | false=>exact o5 Dw (.region id ops false) s Q (show mR P Γ B ops.toList ops.toList s _ _ from h).run
  | true=>
   refine o5 Dw (.region id ops true) s Q ?_;have h:K2 P Γ B ops.toList s Q:=h;unfold K2 at h;simp only[A8];split at h
   ·rename_i hmix;simp only[hmix];split at h
    ·rename_i hok;simp only[CS,hok];exact(jF.1 (dB.1 (jU.1 h))).run
    ·exact h.elim
   ·exact h.elim
 | _=>exact dI.go h
def F3(P:Program)(Γ:List (Nat × AV))(B:Nat)(next:Code->St->(Exit->St->Prop)->Prop)(c:Code)(s:St)(Q:Exit->St->Prop):Prop:=
 match c with
 | .seq x y=>next x s (GT P Γ B y Q)
 | .block id c=>next c s (zG id Q)
 | c=>PU P Γ B c s Q
theorem tI{next:Code->St->(Exit->St->Prop)->Prop}(hn:∀c s Q,next c s Q->dI P Γ B c s Q){c:Code}{s:St}{Q:Exit->St->Prop}(h:F3 P Γ B next c s Q):dI P Γ B c s Q:=by
 cases c with
 | seq x y=>exact dI.go (show Oa P Γ B (.seq x y) s Q from hn _ _ _ h)
 | block id c=>exact dI.go (show Oa P Γ B (.block id c) s Q from hn _ _ _ h)
 | _=>exact dI.goP h
def PM(P:Program)(Γ:List (Nat × AV))(B:Nat)(c:Code)(s:St)(Q:Exit->St->Prop):Prop:=dI P Γ B c s Q
theorem Lu(c:Code)(s:St)(Q:Exit->St->Prop)(h:PM P Γ B c s Q):dI P Γ B c s Q:=h
def Om(P:Program)(Γ:List (Nat × AV))(B:Nat)(c:Code)(s:St)(Q:Exit->St->Prop):Prop:=F3 P Γ B (PM P Γ B) c s Q
theorem MM(c:Code)(s:St)(Q:Exit->St->Prop)(h:Om P Γ B c s Q):dI P Γ B c s Q:=tI Lu h
def P1(P:Program)(Γ:List (Nat × AV))(B:Nat)(c:Code)(s:St)(Q:Exit->St->Prop):Prop:=F3 P Γ B (Om P Γ B) c s Q
theorem MT(c:Code)(s:St)(Q:Exit->St->Prop)(h:P1 P Γ B c s Q):dI P Γ B c s Q:=tI MM h
def PV(P:Program)(Γ:List (Nat × AV))(B:Nat)(c:Code)(s:St)(Q:Exit->St->Prop):Prop:=F3 P Γ B (P1 P Γ B) c s Q
theorem Mo(c:Code)(s:St)(Q:Exit->St->Prop)(h:PV P Γ B c s Q):dI P Γ B c s Q:=tI MT h
def PJ(P:Program)(Γ:List (Nat × AV))(B:Nat)(c:Code)(s:St)(Q:Exit->St->Prop):Prop:=F3 P Γ B (PV P Γ B) c s Q
theorem MX(c:Code)(s:St)(Q:Exit->St->Prop)(h:PJ P Γ B c s Q):dI P Γ B c s Q:=tI Mo h
def QK(P:Program)(Γ:List (Nat × AV))(B:Nat)(c:Code)(s:St)(Q:Exit->St->Prop):Prop:=F3 P Γ B (PJ P Γ B) c s Q
theorem Le(c:Code)(s:St)(Q:Exit->St->Prop)(h:QK P Γ B c s Q):dI P Γ B c s Q:=tI MX h
def NH(P:Program)(Γ:List (Nat × AV))(B:Nat)(c:Code)(s:St)(Q:Exit->St->Prop):Prop:=F3 P Γ B (QK P Γ B) c s Q
theorem MO(c:Code)(s:St)(Q:Exit->St->Prop)(h:NH P Γ B c s Q):dI P Γ B c s Q:=tI Le h
theorem dI.manyP{c:Code}{s:St}{Q:Exit->St->Prop}(h:NH P Γ B c s Q):dI P Γ B c s Q:=MO c s Q h
class YG(p:Prop)(q:outParam Prop):Prop where
 h:q->p
instance{c:Code}{s:St}{Q:Exit->St->Prop}:YG (dI P Γ B c s Q) (NH P Γ B c s Q):=⟨dI.manyP⟩
instance{ops l:List Oper}{s:St}{K:St->Prop}{Kp:Value->St->Prop}:YG (mR P Γ B ops l s K Kp) (OV P Γ B ops K Kp l s):=⟨mR.many⟩
instance{ops:List Oper}{tr:List (List Nat)}{base:Nat}{K:St->Prop}{Kp:Value->aN->Nat->Prop}{l:List Nat}{recs:List xQ}{s:St}:YG (zL P Γ B ops tr base K Kp l recs s) (OP P Γ B ops tr base K Kp l recs s):=⟨zL.go⟩
theorem Yg{p q:Prop}[i:YG p q](x:q):p:=i.h x
theorem Rq{p q:Prop}(x:q)(e:q->p:=by(intro x;(conv=>whnf);(repeat(refine Yg ?_;conv=>whnf));exact x)):p:=e x
theorem Ab{F:FuncId}{fn:Func}{c:Code}{args:List AV}{mem:aN}{nx:Nat}{Q:AV->aN->Nat->Prop}{Qp:Value->aN->Nat->Prop}(hΓ:∀p∈Γ,NN p.2)(hf:P.funcs[F]? = some fn)(hb:fn.body=some c)
  (h:pK fn.ntmps args mem nx fun s=>dI P Γ nx c s (CV P fn.results.toList (kQ nx Q) (Hp nx Qp))) (hF:Nat.beq F YF=false:=by rfl):bI P Γ F args mem nx Q Qp:=
 (jZ hf hb ((gV h).mono fun _ _ h=>zT h) hF).turn hΓ
end
end Go.Ax
namespace Go.Ax
open Go
theorem bI.useN{P:Program}{Γ:List (Nat × AV)}{F:FuncId}{args args':List AV}{ms mem m1:aN}{ns nx:Nat}{Qs K:AV->aN->Nat->Prop}{Qsp Kp:Value->aN->Nat->Prop}(hΓ:∀p∈Γ,NN p.2)(σ:List (Nat × Nat))(h:bI P Γ F args' ms ns Qs Qsp)
  (hp:lP (fF σ) mem=m1) (hargs:jL m1 σ args args') (hM:cM m1 σ ms) (hc:(kW ms && (lC σ && rK ns σ))=true)
  (hk:∀r m n,Qs r m n->∃τ r' m' n',Cv m τ r r'/\cM m τ m'/\(kW m' && (lC τ && (Nat.ble nx n' && (lQ (fF σ) nx m' && sF σ ns nx n' τ))))=true/\K r' (m'++fE (fF σ) mem) n')
  (hkp:∀x m n,Qsp x m n->∃τ m' n',cM m τ m'/\(kW m' && (lC τ && (Nat.ble nx n' && (lQ (fF σ) nx m' && sF σ ns nx n' τ))))=true/\Kp x (m'++fE (fF σ) mem) n'):bI P Γ F args mem nx K Kp:=by
 simp only[Bool.and_eq_true] at hc;obtain⟨hc1,hc2,hc4⟩:=hc;refine⟨fun X D ρ w vs hD hm hv=>?_⟩;have key:∀(m':aN) (n':Nat),lQ (fF σ) nx m'=true->∀p∈m',∀q∈fE (fF σ) mem,p.1≠q.1:=fun m' n' hko p h5 q h6=>by
  have b:=(cP.1 h6).2;rcases pT hko p h5 with a|a
  ·have:=hD _ (hm.low q (cP.1 h6).1);omega
  ·intro e;rw[e,b] at a;cases a
 refine(bI.use (K:=K) (Kp:=Kp) (nx:=nx) hΓ h σ (m1:=m1) (rest:=fE (fF σ) mem) ⟨fun p hp'=>?_,fun p hp'=>(cP.1 hp').1,fun p hp'=>?_,fun p h1 q h2=>?_, ?_⟩ ?_ hargs hM.cvm (dE hc1) (kA hc2) (fun id i hl=>jN hc4 _ (bA hl)) ?_ ?_).run X D ρ w vs hD hm hv
 ·rw[←hp] at hp';exact(dF.1 hp').1
 ·cases hi:zH p.1 (fF σ) with
  | true=>left;rw[←hp];exact dF.2 ⟨hp',hi⟩
  | false=>right;exact cP.2 ⟨hp',hi⟩
 ·rw[←hp] at h1;have a:=(dF.1 h1).2;have b:=(cP.1 h2).2;intro e;rw[e,b] at a;cases a
 ·rw[←hp];exact hm.nod.sublist ((kR mem).map _)
 ·exact hm.nod.sublist ((kT mem).map _)
 ·intro r m n hq hn;obtain⟨τ,r',m',n',h1,h2,h3,h4⟩:=hk r m n hq;simp only[Bool.and_eq_true] at h3;exact⟨τ,r',m',n',Nat.le_of_ble_eq_true h3.2.2.1,h1,h2.cvm,dE h3.1,kA h3.2.1,fun i id hl=>n8 h3.2.2.2.2 _ (bA hl),key m' n' h3.2.2.2.1,h4⟩
 ·intro x m n hq hn;obtain⟨τ,m',n',h2,h3,h4⟩:=hkp x m n hq;simp only[Bool.and_eq_true] at h3;exact⟨τ,m',n',Nat.le_of_ble_eq_true h3.2.2.1,h2.cvm,dE h3.1,kA h3.2.1,fun i id hl=>n8 h3.2.2.2.2 _ (bA hl),key m' n' h3.2.2.2.1,h4⟩
theorem a8.goP{P:Program}{F:FuncId}{args:List AV}{r:AV}{mem:aN}{nx:Nat}{K:AV->aN->Nat->Prop}{Kp:Value->aN->Nat->Prop}(h:a8 P [] F args r)(hk:K r mem nx)(ha:iW args:=by exact cW)(hr:NN r:=by exact nn):bI P [] F args mem nx K Kp:=(h.go hk ha hr).toP
theorem aG.lendJ{P:Program}{Γ:List (Nat × AV)}{F:FuncId}{as args:List AV}{mem:aN}{nx:Nat}{Qs K:AV->aN->Nat->Prop}(hΓ:∀p∈Γ,NN p.2)(h:aG P Γ F as [] 0 Qs)(hargs:jL mem [] args as)
  (hk:∀r m n,Qs r m n->∃r',Cv m [] r r'/\Sc r'/\K r' mem nx):aG P Γ F args mem nx K:=by
 refine⟨fun X D ρ w vs hD hm hv=>?_⟩;obtain⟨s1,sv,so⟩:=hm.turn (σ:=[]) (ρ':=ρ) (D':=fun _=>False) (mem':=[]) hΓ (fun id id' h=>by simp[lk] at h) (fun p hp=>by simp at hp) (by simp) (fun i j k h=>by simp[lk] at h);have hvs:iH ρ (fun _=>False) (OX X ρ []) w as vs:=
  ⟨by rw[←hargs.1];exact hv.1,fun j c' x hc' hx=>by
   obtain⟨c,hc⟩:=cQ hargs.1 hc';exact sv c c' (hargs.2 j c c' hc hc') _ (hv.2 j c x hc hx)⟩
 refine(h.run _ _ _ w vs (fun i h=>h.elim) s1 hvs).mono ?_;rintro e w' ⟨r,v,m,n,ρs,rfl,hq,hn,r1,rv,ext⟩;obtain⟨r',hc,hsc,hK⟩:=hk r m n hq;obtain⟨_,uv,_⟩:=r1.turn (σ:=[]) (ρ':=ρs) (D':=fun _=>False) (mem':=[]) hΓ (fun id id' h=>by simp[lk] at h) (fun p hp=>by simp at hp) (by simp) (fun i j k h=>by simp[lk] at h);obtain⟨m2,e2⟩:=hm.still ext.size (fun b hb=>ext.keep b hb (fun⟨p,hp,_⟩=>by simp at hp)) ext.env;obtain⟨m3,v3,e3⟩:=m2.widen (D':=dn D nx nx) (fun i hi=>.inl hi);exact⟨r',v,mem,nx,ρ,rfl,hK,Nat.le_refl _,m3,Sc.vr (uv r r' hc _ rv) hsc,(e2 D fun i hi=>hi).trans (e3 D fun i hi=>hi)⟩
theorem bI.pre{P:Program}{Γ:List (Nat × AV)}{F:FuncId}{args args':List AV}{mem mem':aN}{nx:Nat}{K:AV->aN->Nat->Prop}{Kp:Value->aN->Nat->Prop}(hΓ:∀p∈Γ,NN p.2)(σ:List (Nat × Nat))(hid:(FJ σ && kW mem')=true)
  (hM:cM mem σ mem') (hargs:jL mem σ args args') (h:bI P Γ F args' mem' nx K Kp):bI P Γ F args mem nx K Kp:=by
 simp only[Bool.and_eq_true] at hid;have hid1:=rT hid.1;have hnod:=dE hid.2;refine⟨fun X D ρ w vs hD hm hv=>?_⟩;have hσ:∀id id',lk σ id=some id'->D id->D id'/\ρ id'=ρ id:=by
  intro id id' h hd;have:=hid1 _ (bA h);simp only at this;subst this;exact⟨hd,rfl⟩
 have hinj:Gx σ:=fun i j k h1 h2=>by
  have a:=hid1 _ (bA h1);have b:=hid1 _ (bA h2);simp only at a b;omega
 obtain⟨m1,v1,o1⟩:=hm.turn (D':=D) (ρ':=ρ) hΓ hσ hM.cvm hnod hinj;have hvs:iH ρ D (OX X ρ mem') w args' vs:=⟨by rw[←hargs.1];exact hv.1,fun j c' x hc' hx=>by
   obtain⟨c,hc⟩:=cQ hargs.1 hc';exact v1 c c' (hargs.2 j c c' hc hc') _ (hv.2 j c x hc hx)⟩
 refine(h.run X D ρ w vs hD m1 hvs).mono ?_;rintro e w' ⟨m,n,ρ',h3,h4,h6,hr⟩;have e0:Ext D ρ mem w ρ D mem' w:=⟨fun i hi=>hi,fun _ _=>rfl,Nat.le_refl _,fun _ _ _=>rfl,fun p hp hn=>.inl (o1 p hp hn),.refl _⟩
 exact⟨m,n,ρ',h3,h4,e0.trans h6,hr⟩
theorem bI.ph{P:Program}{Γ:List (Nat × AV)}{F:FuncId}{args:List AV}{mem:aN}{nx:Nat}{K:AV->aN->Nat->Prop}{Kp:Value->aN->Nat->Prop}(t:TypeId)(sz:Nat)(h:bI P Γ F args ((nx,.row t sz [])::mem) (nx+1) K Kp):bI P Γ F args mem nx K Kp:=by
 refine⟨fun X D ρ w vs hD hm hv=>?_⟩;obtain⟨m1,v1,e1⟩:=hm.phantom (n:=nx) (D':=dn D nx (nx+1)) (fun h'=>Nat.lt_irrefl _ (hD _ h')) (fun i hi=>.inl hi) (.inr ⟨Nat.le_refl _,Nat.lt_succ_self _⟩) t sz;refine(h.run X _ _ w vs (fun i hi=>?_) m1 ⟨hv.1,fun j c x hc hx=>v1 _ _ (hv.2 j c x hc hx)⟩).mono ?_
 ·rcases hi with hi|hi
  ·have:=hD i hi;omega
  ·exact hi.2
 ·rintro e w' ⟨m,n,ρ',hn,hm',ext,hr⟩;have ed:dn (dn D nx (nx+1)) (nx+1) n=dn D nx n:=by
   funext i
   apply propext;constructor
   ·rintro((hi|⟨h1,h2⟩)|⟨h1,h2⟩)
    ·exact .inl hi
    ·exact .inr ⟨h1,om⟩
    ·exact .inr ⟨om,h2⟩
   ·rintro(hi|⟨h1,h2⟩)
    ·exact .inl (.inl hi)
    ·rcases Nat.lt_or_ge i (nx+1) with h3|h3
     ·exact .inl (.inr ⟨h1,h3⟩)
     ·exact .inr ⟨h3,h2⟩
  rw[ed] at hm' ext;have e2:=e1 D fun i hi=>hi
  refine⟨m,n,ρ',om,hm',e2.trans ⟨fun i hi=>ext.le i (.inl hi),fun i hi=>ext.agree i (.inl hi),ext.size,ext.keep,ext.fresh,ext.env⟩, ?_⟩;rcases hr with⟨r,v,h1,h2,h3⟩|hr
  ·rw[ed] at h3;exact .inl ⟨r,v,h1,h2,h3⟩
  ·exact .inr hr
theorem yR{P:Program}{Γ:List (Nat × AV)}{H:Hk}{F:FuncId}{fn:Func}{c:Code}{args:List AV}{mem:aN}{nx:Nat}{Q:AV->aN->Nat->Prop}{Qp:Value->aN->Nat->Prop}(hΓ:∀p∈Γ,NN p.2)(hf:P.funcs[F]? = some fn)(hb:fn.body=some c)
  (h:pK fn.ntmps args mem nx fun s=>mF P Γ nx c s (BA P Γ H fn.results.toList (kQ nx Q) (Hp nx Qp))) (hF:Nat.beq F YF=false:=by rfl):bI P Γ F args mem nx Q Qp:=
 (qN hf hb (gV h) hF).turn hΓ
theorem a8.frz{P:Program}{Γ:List (Nat × AV)}{F:FuncId}{args as:List AV}{r:AV}{mem:aN}{nx:Nat}{K:AV->aN->Nat->Prop}(h:a8 P Γ F as r)(ids:List Nat)(hΓ:∀p∈Γ,NN p.2)(hargs:jL (lP ids mem) [] args as)(hr:NN r)(hk:K r (fE ids mem) nx) :
  aG P Γ F args mem nx K:=by
 refine⟨fun X D ρ w vs hD hm hv=>?_⟩;refine(aG.use (K:=K) (nx:=nx) hΓ h [] (m1:=lP ids mem) (rest:=fE ids mem) ⟨fun p hp'=>(dF.1 hp').1,fun p hp'=>(cP.1 hp').1,fun p hp'=>?_,fun p h1 q h2=>?_, ?_⟩ ?_ hargs (fun p hp=>by cases hp) (by simp) (fun i j k h=>by simp[lk] at h) (fun id i hl=>by simp[lk] at hl) ?_).run X D ρ w vs hD hm hv
 ·cases hi:zH p.1 ids with
  | true=>left;exact dF.2 ⟨hp',hi⟩
  | false=>right;exact cP.2 ⟨hp',hi⟩
 ·have a:=(dF.1 h1).2;have b:=(cP.1 h2).2;intro e;rw[e,b] at a;cases a
 ·exact hm.nod.sublist ((kR mem).map _)
 ·exact hm.nod.sublist ((kT mem).map _)
 ·rintro r' m n ⟨rfl,rfl,rfl⟩ _;exact⟨[],r',[],nx,Nat.le_refl _,.same r' hr,(fun p hp=>by cases hp),by simp,(fun i j k h=>by simp[lk] at h),(fun i id hl=>by simp[lk] at hl),(fun p hp=>by cases hp),hk⟩
end Go.Ax
