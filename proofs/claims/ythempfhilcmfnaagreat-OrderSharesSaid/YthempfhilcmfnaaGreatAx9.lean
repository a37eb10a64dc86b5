/- A part of the proof. -/
import Derived.Test.YthempfhilcmfnaaGreatAx8
import Derived.Below
import Derived.Lib.ConvBytes
import Derived.Lib.ItoaMem
import Derived.ChangeMaps5
import Derived.Lib.LaidTab
import Derived.Lib.ItoaNum
set_option linter.unusedVariables false
set_option linter.unusedSimpArgs false
namespace Go.Ax
open Go
theorem nn {v:AV} (h:NN v:=by
  repeat' first
   | assumption
   | exact NN.int _ _
   | exact NN.bool _
   | exact NN.str _
   | exact NN.nsl
   | exact NN.nptr
   | exact NN.nif
   | exact NN.nfn
   | exact NN.nmap
   | exact NN.junk
   | exact bM _
   | exact aV _
   | exact aG _
   | exact g9.nil
   | refine g9.cons ?_ ?_
   | refine NN.agg' ?_
   | refine NN.tup' ?_
   | refine NN.il' ?_
   | refine NN.ip' ?_
   | refine NN.ifc _ _ ?_
   | exact NN.fn _ _ _ (by simp) (by simp)):NN v:=h
theorem dD {l:List AV} (h:g9 l:=by
  repeat' first
   | assumption
   | exact NN.int _ _
   | exact NN.bool _
   | exact NN.str _
   | exact NN.nsl
   | exact NN.nptr
   | exact NN.nif
   | exact NN.nfn
   | exact NN.nmap
   | exact NN.junk
   | exact bM _
   | exact aV _
   | exact aG _
   | exact g9.nil
   | refine g9.cons ?_ ?_
   | refine NN.agg' ?_
   | refine NN.tup' ?_
   | refine NN.il' ?_
   | refine NN.ip' ?_
   | refine NN.ifc _ _ ?_
   | exact NN.fn _ _ _ (by simp) (by simp)):g9 l:=h
section
variable {P:Program} {Γ:List (Nat × AV)} {F:FuncId} {args:List AV} {r:AV} {mem:aS} {nx:Nat} {K:AV->aS->Nat->Prop}
theorem a8.go(h:a8 P [] F args r)(hk:K r mem nx)(ha:g9 args:=by exact dD)(hr:NN r:=by exact nn):aM P [] F args mem nx K:=h.use bC ha hr hk
theorem aM.go0{Qs:AV->aS->Nat->Prop}(h:aM P [] F args [] 0 Qs)(hk:∀r m n,Qs r m n->∃r',Cv m [] r r'/\K r' mem nx)(ha:g9 args:=by exact dD):aM P [] F args mem nx K:=
 aM.call0 bC h ha hk
end
theorem aM.glob{P:Program}{Γ:List (Nat × AV)}{F:FuncId}{args:List AV}{mem:aS}{nx:Nat}{Q:AV->aS->Nat->Prop}(h:aM P [] F args mem nx Q):aM P Γ F args mem nx Q:=by
 refine⟨fun X D ρ w vs hD hm hv=>?_⟩;refine(h.run X D ρ w vs hD ⟨hm.low,hm.blk,hm.emp,hm.inj,hm.nod,hm.bar,(fun p hp=>by cases hp)⟩ hv).mono ?_;rintro e w' ⟨r,v,m,n,ρ',h1,h2,h3,h4,h5,h6⟩;exact⟨r,v,m,n,ρ',h1,h2,h3,⟨h4.low,h4.blk,h4.emp,h4.inj,h4.nod,h4.bar,fun p hp=>h6.vr (hm.glo p hp)⟩,h5,h6⟩
def Fd:List (Nat × Nat)->Bool
 | []=>true
 | (i,j)::r=>Nat.beq i j && Fd r
theorem rO:∀{σ:List (Nat × Nat)},Fd σ=true->∀p∈σ,p.1=p.2
 | [],h,p,hp=>by cases hp
 | (i,j)::r,h,p,hp=>by
  simp only[Fd,Rr] at h;rcases Rz.1 hp with rfl|hp
  ·exact Rw h.1
  ·exact rO h.2 p hp
theorem aM.pre{P:Program}{Γ:List (Nat × AV)}{F:FuncId}{args args':List AV}{mem mem':aS}{nx:Nat}{K:AV->aS->Nat->Prop}(hΓ:∀p∈Γ,NN p.2)(σ:List (Nat × Nat))(hid:(Fd σ && iK mem')=true)
  (hM:cH mem σ mem') (hargs:iL mem σ args args') (h:aM P Γ F args' mem' nx K):aM P Γ F args mem nx K:=by
 simp only[Rr] at hid;have hid1:=rO hid.1;have hnod:=dH hid.2;refine⟨fun X D ρ w vs hD hm hv=>?_⟩;have hσ:∀id id',lk σ id=some id'->D id->D id'/\ρ id'=ρ id:=by
  intro id id' h hd;have:=hid1 _ (bI h);simp only at this;subst this;exact⟨hd,rfl⟩
 have hinj:Gi σ:=fun i j k h1 h2=>by
  have a:=hid1 _ (bI h1);have b:=hid1 _ (bI h2);simp only at a b;omega
 obtain⟨m1,v1,o1⟩:=hm.turn (D':=D) (ρ':=ρ) hΓ hσ hM.cvm hnod hinj;have hvs:jA ρ D (OX X ρ mem') w args' vs:=⟨by rw[←hargs.1];exact hv.1,fun j c' x hc' hx=>by
   obtain⟨c,hc⟩:=cX hargs.1 hc';exact v1 c c' (hargs.2 j c c' hc hc') _ (hv.2 j c x hc hx)⟩
 refine(h.run X D ρ w vs hD m1 hvs).mono ?_;rintro e w' ⟨r,v,m,n,ρ',h1,h2,h3,h4,h5,h6⟩;refine⟨r,v,m,n,ρ',h1,h2,h3,h4,h5, ?_⟩;have e0:Ext D ρ mem w ρ D mem' w:=⟨fun i hi=>hi,fun _ _=>rfl,R2 _,fun _ _ _=>rfl,fun p hp hn=>.inl (o1 p hp hn),.refl _⟩
 exact e0.trans h6
theorem cL{l:List bB}{k:Nat}(h:k<l.length):∃a b c d,bB.mk a b c d∈l/\l[k]? = some (bB.mk a b c d)/\l[k]=bB.mk a b c d/\(aT l)[(k:Int).toNat]? = some (bT (bB.mk a b c d)):=by
 obtain⟨⟨a,b,c,d⟩,hv⟩:∃v,v=l[k]:=⟨_,rfl⟩
 have e:=zI h;rw[←hv] at e;exact⟨a,b,c,d,by rw[hv];exact SI h,by rw[hv];exact Rm h,hv.symm,e⟩
section
variable {mem:aS} {σ:List (Nat × Nat)}
theorem Cv.int{k:IntKind}{a b:Int}(h:a=b):Cv mem σ (.int k a) (.int k b):=by rw[h];exact .same _ (.int _ _)
theorem Cv.w64{x y:Int}(h:x=y)(hb:i64 y):Cv mem σ (.int .i64 (IntKind.i64.wrap x)) (.int .i64 y):=by rw[h,bY hb];exact .same _ (.int _ _)
theorem Cv.wo{x y:Int}(h:x=y:=by omega)(h1 : -9223372036854775808<=y:=by omega)(h2:y<=9223372036854775807:=by omega):Cv mem σ (.int .i64 (IntKind.i64.wrap x)) (.int .i64 y):=.w64 h ⟨h1,h2⟩
theorem Cv.wp{x y:Int}(h:x=y:=by simp only;omega)(h1 : -9223372036854775808<=y:=by simp only;omega)(h2:y<=9223372036854775807:=by simp only;omega):Cv mem σ (.int .i64 (IntKind.i64.wrap x)) (.int .i64 y):=.w64 h ⟨h1,h2⟩
theorem aH{sl:List (Nat × AV)}{i:Nat}{v:AV}(h:lk sl i=some v:=by rfl)(hn:NN v:=by exact nn):∃w,lk sl i=some w/\Cv mem σ w v:=⟨v,h,.same v hn⟩
theorem iL.s{v:AV}{as bs:List AV}(hs:iL mem σ as bs)(hn:NN v:=by exact nn):iL mem σ (v::as) (v::bs):=.cons (.same v hn) hs
theorem aD{α:Type}{a:α}{q:Prop}(h:q):a=a/\q:=⟨rfl,h⟩
theorem Cv.bool{a b:Bool}(h:a=b):Cv mem σ (.bool a) (.bool b):=by rw[h];exact .same _ (.bool _)
theorem sX(k n:Int)(s:List UInt8):Da mem σ (.agg [.int .i64 k,.int .i64 n,.str s,.nsl]) (bT (.mk k n s [])):=
 .agg (.cons (.same _ (.int _ _)) (.cons (.same _ (.int _ _)) (.cons (.same _ (.str _)) (.cons (.nil 4) .nil))))
end
theorem eR(l:List bB)(v:bB):aT (l++[v])=aT l++[bT v]:=by simp[fK]
theorem w64{x y:Int}(h:x=y)(hb:i64 y):IntKind.i64.wrap x=y:=by rw[h,bY hb]
theorem FU{l:List bB}{k:Nat}(h:decide ((k:Int)<((aT l).length:Nat))=true):k<l.length:=by rw[aF] at h;simpa using h
theorem Eu{l:List bB}{k:Nat}(h:decide ((k:Int)<((aT l).length:Nat))=false):l.length<=k:=by rw[aF] at h;simpa using h
theorem Cv.fzR{mem:aS}{σ:List (Nat × Nat)}{id len:Nat}{t:TypeId}{sz:Nat}{xs ys:List AV}(h1:lk mem id=some (.row t sz xs))(h2:lk σ id=none)(h3:pS mem σ xs ys)(h4:ys.length=len):Cv mem σ (.sl id 0 len) (.il sz ys):=
 .fz id 0 len t sz xs ys h1 h2 (by have:=h3.1;omega) h4 (fun i x y hx hy=>(h3.2 i x y (by simpa using hx) hy).1) (fun i x y j c c' hx hy hc hc'=>(h3.2 i x y (by simpa using hx) hy).2 j c c' hc hc')
section
variable {P:Program} {Γ:List (Nat × AV)} {F:FuncId} {args:List AV} {r:AV} {mem:aS} {nx:Nat} {K:AV->aS->Nat->Prop}
theorem aM.goG0{Qs:AV->aS->Nat->Prop}(h:aM P [] F args [] 0 Qs)(hk:∀r m n,Qs r m n->∃r',Cv m [] r r'/\K r' mem nx)(ha:g9 args:=by exact dD):aM P Γ F args mem nx K:=
 (aM.call0 bC h ha hk).glob
end
theorem Nc{l:List bB}{k n:Nat}(h:k<l.length)(hn:l.length=n):∃a b c d,bB.mk a b c d∈l/\l[k]? = some (bB.mk a b c d)/\l[k]=bB.mk a b c d/\(aT l)[0+(k:Int).toNat]? = some (bT (bB.mk a b c d))/\Nat.blt (k:Int).toNat n=true:=by
 obtain⟨a,b,c,d,h1,h2,h3,h4⟩:=cL h;exact⟨a,b,c,d,h1,h2,h3,by rw[SF];exact h4,Ru (by simp;omega)⟩
end Go.Ax
namespace Go.Ax
open Go
section
variable {P:Program} {Γ:List (Nat × AV)} {B:Nat}
structure a7(P:Program)(Γ:List (Nat × AV))(B:Nat)(c:Code)(s:St)(Q:Exit->St->Prop):Prop where
 run:eA P Γ B (.loop c) s Q
def HV(P:Program)(Γ:List (Nat × AV))(B:Nat)(y:Code)(Q:Exit->St->Prop)(e:Exit)(s:St):Prop:=
 match e with
 | .normal=>eA P Γ B y s Q
 | e=>Q e s
def AT(id:Nat)(Q:Exit->St->Prop)(e:Exit)(s:St):Prop:=
 match e with
 | .exit i=>match Nat.beq i id with
  | true=>Q .normal s
  | false=>Q (.exit i) s
 | e=>Q e s
theorem Aj{ops:List Oper}{K:St->Prop}{Kp:Value->St->Prop}:∀{l:List Oper} {s:St},uL P Γ (Ci P Γ B) ops l s K (fun _ _=>False)->uL P Γ (Ci P Γ B) ops l s K Kp
 | [],s,h=>h
 | o::r,s,h=>by
  simp only[uL] at h ⊢;split
  ·rename_i h1;simp only[h1] at h
  ·rename_i h1;simp only[h1] at h;split
   ·rename_i h2;simp only[h2] at h;exact Aj h
   ·rename_i h2;simp only[h2] at h
  ·rename_i h1;simp only[h1] at h;split
   ·rename_i h2;simp only[h2] at h;split
    ·rename_i h3;simp only[h3] at h;exact Aj h
    ·rename_i h3;simp only[h3] at h
   ·rename_i h2;simp only[h2] at h;split
    ·rename_i h3;simp only[h3] at h;refine aM.mono h fun v m n h=>?_
     split
     ·rename_i h4;simp only[h4] at h;exact Aj h
     ·rename_i h4;simp only[h4] at h
    ·rename_i h3;simp only[h3] at h;split at h<;>exact h.elim
theorem t8{ops:List Oper}{tr:List (List Nat)}{base:Nat}{K:St->Prop}{Kp:Value->aS->Nat->Prop}:∀{l:List Nat} {recs:List yV} {s:St},oJ P Γ (Ci P Γ B) ops tr base K (fun _ _ _=>False) l recs s->oJ P Γ (Ci P Γ B) ops tr base K Kp l recs s
 | [],recs,s,h=>h
 | i::r,recs,s,h=>by
  simp only[oJ] at h ⊢;split
  ·rename_i h1;simp only[h1] at h
  ·rename_i o h1;simp only[h1] at h;split
   ·rename_i h2;simp only[h2] at h
   ·rename_i h2;simp only[h2] at h;split
    ·rename_i h3;simp only[h3] at h;exact t8 h
    ·rename_i h3;simp only[h3] at h
   ·rename_i h2;simp only[h2] at h;split
    ·rename_i hk;simp only[hk] at h;split
     ·rename_i h3;simp only[h3] at h;split
      ·rename_i h4;simp only[h4] at h;exact t8 h
      ·rename_i h4;simp only[h4] at h
     ·rename_i h3;simp only[h3] at h
    ·rename_i hk;simp only[hk] at h;split
     ·rename_i h3;simp only[h3] at h;split
      ·rename_i h4;simp only[h4] at h;exact t8 h
      ·rename_i h4;simp only[h4] at h
     ·rename_i h3;split at h
      ·rename_i h4;exact(h3 _ _ _ _ h4).elim
      ·exact h
    ·rename_i hk;simp only[hk] at h;split
     ·rename_i h3;simp only[h3] at h;split
      ·rename_i h4;simp only[h4] at h;exact⟨h.1,t8 h.2⟩
      ·rename_i h4;simp only[h4] at h
     ·rename_i h3;simp only[h3] at h;split
      ·rename_i h4;simp only[h4] at h;refine aM.mono h fun v m n h=>?_
       split
       ·rename_i h5;simp only[h5] at h;exact⟨h.1,t8 h.2⟩
       ·rename_i h5;simp only[h5] at h
      ·rename_i h4;simp only[h4] at h
structure l5(P:Program)(Γ:List (Nat × AV))(B:Nat)(ops l:List Oper)(s:St)(K:St->Prop):Prop where
 run:uL P Γ (Ci P Γ B) ops l s K fun _ _=>False
def Ri(P:Program)(Γ:List (Nat × AV))(B:Nat)(ops l:List Oper)(s:St)(K:St->Prop):Prop:=
 match l with
 | []=>K s
 | o::r=>CJ s fun sl mem nx nt=>rC ops sl o.guard
   (CU false P Γ (Ci P Γ B) sl mem nx o.op (fun v mem nx=>kO s o.dst v mem nx fun s'=>l5 P Γ B ops r s' K) fun _ _ _=>False)
   (kO s o.dst (.tup []) mem nx fun s'=>l5 P Γ B ops r s' K)
theorem l5.go{ops l:List Oper}{s:St}{K:St->Prop}(h:Ri P Γ B ops l s K):l5 P Γ B ops l s K:=by
 refine⟨?_⟩;cases l with
 | nil=>exact h
 | cons o r=>
  have h:rC ops s.sl o.guard (CU false P Γ (Ci P Γ B) s.sl s.mem s.nx o.op (fun v mem nx=>kO s o.dst v mem nx fun s'=>l5 P Γ B ops r s' K) fun _ _ _=>False) (kO s o.dst (.tup []) s.mem s.nx fun s'=>l5 P Γ B ops r s' K):=h;simp only[uL];rcases rA h with⟨h1,h⟩|⟨h1,h⟩
  ·simp only[h1];rcases y8 h with⟨v,m,n,h2,h⟩|⟨h2,F,l,h3,h⟩
   ·obtain⟨s',h4,h⟩:=d8 h;simp only[h2,h4];exact h.run
   ·simp only[h2,h3];refine(show aM P Γ F l s.mem s.nx _ from h).mono fun v m n h=>?_
    obtain⟨s',h4,h⟩:=d8 h;simp only[h4];exact h.run
  ·obtain⟨s',h4,h⟩:=d8 h;simp only[h1,h4];exact h.run
structure Jx(P:Program)(Γ:List (Nat × AV))(B:Nat)(ops:List Oper)(tr:List (List Nat))(base:Nat)(K:St->Prop)(l:List Nat)(recs:List yV)(s:St):Prop where
 run:oJ P Γ (Ci P Γ B) ops tr base K (fun _ _ _=>False) l recs s
def RU(P:Program)(Γ:List (Nat × AV))(B:Nat)(ops:List Oper)(tr:List (List Nat))(base:Nat)(K:St->Prop)(l:List Nat)(recs:List yV)(s:St):Prop:=
 match l with
 | []=>K s
 | i::r=>match ops[i]? with
  | none=>False
  | some o=>CJ s fun sl mem nx nt=>rC ops sl o.guard
   (match kind P o.op with
    | .pure=>match still o.op with
     | true=>oU false P Γ sl [] nx o.op fun v _ _=>kO s o.dst v mem nx fun s'=>Jx P Γ B ops tr base K r (⟨i,sl,true,v⟩::recs) s'
     | false=>fT (fun p=>GZ tr base ops.length i p.1) mem fun m=>oU false P Γ sl m nx o.op fun v _ _=>kO s o.dst v mem nx fun s'=>Jx P Γ B ops tr base K r (⟨i,sl,true,v⟩::recs) s'
    | .al=>nQ (base+i) fun id=>oU false P Γ sl [] id o.op fun v m _=>match m with
     | [(_,b)]=>kO s o.dst v ((id,b)::mem) nx fun s'=>Jx P Γ B ops tr base K r (⟨i,sl,true,v⟩::recs) s'
     | _=>False
    | .eff=>fT (fun p=>GZ tr base ops.length i p.1) mem fun m=>CU false P Γ (Ci P Γ B) sl m nx o.op (fun v m nx'=>fT (fun p=>!GZ tr base ops.length i p.1) mem fun rest=>fT (fun p=>!p7 p.1 m) rest fun rest=>AQ m rest fun m=>
      kO s o.dst v m nx' fun s'=>q9 false P Γ ops tr base i m nx' recs (Jx P Γ B ops tr base K r recs s')) fun _ _ _=>False)
   (kO s o.dst (.tup []) mem nx fun s'=>Jx P Γ B ops tr base K r (⟨i,sl,false,.tup []⟩::recs) s')
theorem Jx.go{ops:List Oper}{tr:List (List Nat)}{base:Nat}{K:St->Prop}{l:List Nat}{recs:List yV}{s:St}(h:RU P Γ B ops tr base K l recs s):Jx P Γ B ops tr base K l recs s:=by
 refine⟨?_⟩;cases l with
 | nil=>exact h
 | cons i r=>
  simp only[RU] at h;simp only[oJ];split at h
  ·exact h.elim
  ·rename_i o ho;simp only[ho];have h:=kZ.1 h;rcases rA h with⟨h1,h⟩|⟨h1,h⟩
   ·simp only[h1];split at h
    ·rename_i hkd;simp only[hkd];split at h
     ·rename_i hst;obtain⟨v,m,n,h2,h⟩:=jO (s:={ sl:=s.sl,mem:=[],nx:=s.nx,nt:=s.nt }) h;obtain⟨m',n',h2'⟩:=oN (s:={ sl:=s.sl,mem:=[],nx:=s.nx,nt:=s.nt }) (s':={ s with mem:=iR tr base ops.length i s.mem }) hst rfl h2;obtain⟨s',h3,h⟩:=d8 h;simp only[h2',h3];exact h.run
     ·have h:=cG.1 h;obtain⟨v,m,n,h2,h⟩:=jO (s:={ s with mem:=iR tr base ops.length i s.mem }) h;obtain⟨s',h3,h⟩:=d8 h;simp only[h2,h3];exact h.run
    ·rename_i hkd;simp only[hkd];have h:=dV.1 h;obtain⟨v,m,n,h2,h⟩:=jO (s:={ s with mem:=[],nx:=base+i }) h;simp only[h2];split at h
     ·obtain⟨s',h3,h⟩:=d8 h;simp only[h3];exact h.run
     ·exact h.elim
    ·rename_i hkd;simp only[hkd];have h:=cG.1 h;rcases y8 (s:={ s with mem:=iR tr base ops.length i s.mem }) h with⟨v,m,n,h2,h⟩|⟨h2,F,l,h3,h⟩
     ·simp only[h2];have h:=gP.1 (cG.1 (cG.1 h));obtain⟨s',h3,h⟩:=d8 h;have h3:eI s o.dst v (m++oW m (fG tr base ops.length i s.mem)) n=some s':=h3;simp only[h3];obtain⟨e1,e2,_⟩:=fH h3;have h:q9 false P Γ ops tr base i (m++oW m (fG tr base ops.length i s.mem)) n recs (Jx P Γ B ops tr base K r recs s'):=h;rw[←e1,←e2] at h;obtain⟨h4,h⟩:=mT h;exact⟨h4,h.run⟩
     ·rw[oQ (s':=s) (fun x _=>by cases x<;>rfl)] at h3;simp only[h2,h3];refine(show aM P Γ F l _ _ _ from h).mono fun v m n h=>?_
      have h:=gP.1 (cG.1 (cG.1 h));obtain⟨s',h3,h⟩:=d8 h;have h3:eI s o.dst v (m++oW m (fG tr base ops.length i s.mem)) n=some s':=h3;simp only[h3];obtain⟨e1,e2,_⟩:=fH h3;have h:q9 false P Γ ops tr base i (m++oW m (fG tr base ops.length i s.mem)) n recs (Jx P Γ B ops tr base K r recs s'):=h;rw[←e1,←e2] at h;obtain⟨h4,h⟩:=mT h;exact⟨h4,h.run⟩
   ·obtain⟨s',h3,h⟩:=d8 h;simp only[h1,h3];exact h.run
def Ok(P:Program)(Γ:List (Nat × AV))(B:Nat)(ops:List Oper)(s:St)(Q:Exit->St->Prop):Prop:=
 match P.follows .mixedOrders with
 | true=>match yX P ops (sS P ops ops.length [] (vQ ops.length)) with
  | true=>CJ s fun sl mem nx nt=>nQ (nx+ops.length) fun n=>x7 (sS P ops ops.length [] (vQ ops.length)) fun ord=>Jx P Γ B ops (Id ops []) nx (fun s'=>Q .normal s') ord [] ⟨sl,mem,n,nt⟩
  | false=>False
 | false=>False
def Pz(Q:Exit->St->Prop)(e:Exit)(s:St):Prop:=
 match e with
 | .goto _=>False
 | e=>Q e s
def PK(P:Program)(Γ:List (Nat × AV))(B:Nat)(c:Code)(s:St)(Q:Exit->St->Prop):Prop:=
 match c with
 | .skip=>Q .normal s
 | .seq x y=>eA P Γ B x s (HV P Γ B y Q)
 | .cond c x y=>CJ s fun sl _ _ _=>lM Γ sl c fun v=>match v with
  | .bool b=>MB b (eA P Γ B x s Q) (eA P Γ B y s Q)
  | _=>False
 | .block id c=>eA P Γ B c s (AT id Q)
 | .loop c=>a7 P Γ B c s Q
 | .label _=>Q .normal s
 | .scope c=>eA P Γ B c s (Pz Q)
 | .exit i=>Q (.exit i) s
 | .ret=>Q .ret s
 | .region _ ops draw=>match draw with
  | false=>l5 P Γ B ops.toList ops.toList s fun s'=>Q .normal s'
  | true=>Ok P Γ B ops.toList s Q
 | .rangeFunc g ps ca cb=>zZ false P Γ (Ci P Γ B) (.rangeFunc g ps ca cb) s Q
 | _=>False
theorem eA.go{c:Code}{s:St}{Q:Exit->St->Prop}(h:PK P Γ B c s Q):eA P Γ B c s Q:=by
 cases c with
 | skip=>exact fB (cl:=false) qK .skip s Q h
 | exit i=>exact fB (cl:=false) qK (.exit i) s Q h
 | ret=>exact fB (cl:=false) qK .ret s Q h
 | loop c=>exact(show a7 P Γ B c s Q from h).run
 | label l=>exact fB (cl:=false) qK (.label l) s Q h
 | rangeFunc g ps ca cb=>exact fB (cl:=false) qK (.rangeFunc g ps ca cb) s Q h
 | scope c=>
  have h:eA P Γ B c s (Pz Q):=h;refine⟨fun rd X ds D ρ a w hD hs hB hr=>BY (wpIn_mono (h.run rd X ds D ρ a w hD hs hB hr.scope) ?_)⟩;rintro e a' w' ⟨s',ρ',hq,hB',hs',hext⟩;cases e with
  | goto l=>exact(show False from hq).elim
  | normal=>exact⟨s',ρ',hq,hB',hs',hext⟩
  | exit i=>exact⟨s',ρ',hq,hB',hs',hext⟩
  | ret=>exact⟨s',ρ',hq,hB',hs',hext⟩
  | panic c=>exact⟨s',ρ',hq,hB',hs',hext⟩
  | outgrown=>exact⟨s',ρ',hq,hB',hs',hext⟩
 | seq x y=>
  have h:eA P Γ B x s (HV P Γ B y Q):=h;refine⟨fun rd X ds D ρ a w hD hs hB hr=>wpIn_seq (wpIn_mono (h.run rd X ds D ρ a w hD hs hB hr.seq1) ?_)⟩;rintro e a' w' ⟨s',ρ',hq,hB',hs',hext⟩;cases e with
  | normal=>
   refine wpIn_mono ((show eA P Γ B y s' Q from hq).run rd X ds D ρ' a' w' hD hs' hB' hr.seq2) ?_;rintro e a2 w2 ⟨s2,ρ2,h1,h2,h3,h4⟩;exact⟨s2,ρ2,h1,h2,h3,hext.trans h4⟩
  | exit i=>exact⟨s',ρ',hq,hB',hs',hext⟩
  | goto l=>exact⟨s',ρ',hq,hB',hs',hext⟩
  | ret=>exact⟨s',ρ',hq,hB',hs',hext⟩
  | panic c=>exact⟨s',ρ',hq,hB',hs',hext⟩
  | outgrown=>exact⟨s',ρ',hq,hB',hs',hext⟩
 | cond c x y=>
  have h:lM Γ s.sl c fun v=>match v with
   | .bool b=>MB b (eA P Γ B x s Q) (eA P Γ B y s Q)
   | _=>False:=h
  obtain⟨v,h1,h⟩:=cE h;split at h
  ·rename_i b;refine⟨fun rd X ds D ρ a w hD hs hB hr=>?_⟩;have hv:=aY hs h1;generalize he:a.eval c=cv at hv;cases hv;cases b with
   | true=>exact wpIn_cond_true he ((show eA P Γ B x s Q from h).run rd X ds D ρ a w hD hs hB hr.cond1)
   | false=>exact wpIn_cond_false he ((show eA P Γ B y s Q from h).run rd X ds D ρ a w hD hs hB hr.cond2)
  ·exact h.elim
 | block id c=>
  have h:eA P Γ B c s (AT id Q):=h;refine⟨fun rd X ds D ρ a w hD hs hB hr=>wpIn_block (wpIn_mono (h.run rd X ds D ρ a w hD hs hB hr.block) ?_)⟩;rintro e a' w' ⟨s',ρ',hq,hB',hs',hext⟩;cases e with
  | exit i=>
   simp only[Exit.inBlock];simp only[AT] at hq;split at hq
   ·rename_i hi;rw[Rx (Rw hi)];exact⟨s',ρ',hq,hB',hs',hext⟩
   ·rename_i hi;rw[Rp (Sy hi)];exact⟨s',ρ',hq,hB',hs',hext⟩
  | normal=>exact⟨s',ρ',hq,hB',hs',hext⟩
  | goto l=>exact⟨s',ρ',hq,hB',hs',hext⟩
  | ret=>exact⟨s',ρ',hq,hB',hs',hext⟩
  | panic c=>exact⟨s',ρ',hq,hB',hs',hext⟩
  | outgrown=>exact⟨s',ρ',hq,hB',hs',hext⟩
 | region id ops draw=>
  cases draw with
  | false=>exact pQ qK (.region id ops false) s Q (Aj (show l5 P Γ B ops.toList ops.toList s _ from h).run)
  | true=>
   refine pQ qK (.region id ops true) s Q ?_;have h:Ok P Γ B ops.toList s Q:=h;unfold Ok at h;simp only[B6];split at h
   ·rename_i hmix;simp only[hmix];split at h
    ·rename_i hok;simp only[DI,hok];exact t8 (lS.1 (dV.1 (kZ.1 h))).run
    ·exact h.elim
   ·exact h.elim
 | _=>exact(show False from h).elim
theorem aL{F:FuncId}{fn:Func}{c:Code}{args:List AV}{mem:aS}{nx:Nat}{Q:AV->aS->Nat->Prop}(hΓ:∀p∈Γ,NN p.2)(hf:P.funcs[F]? = some fn)(hb:fn.body=some c)
  (h:vX fn.ntmps args mem nx fun s=>eA P Γ nx c s (PZ P fn.results.toList (lE nx Q))) (hF:Nat.beq F YF=false:=by rfl):aM P Γ F args mem nx Q:=
 (u5 hf hb ((lO h).mono fun _ _ h=>KA h) hF).turn hΓ
theorem aM.yield{id:Nat}{args:List AV}{mem:aS}{nx:Nat}{K:AV->aS->Nat->Prop}{sl sl':List (Nat × AV)}{nt:Nat}{ps:Array Tmp}{ca cb:Code}{st:LoopState}{pd:Option Code}
  (hl:lk mem id=some (.loop sl nt ps ca cb st pd)) (hp:x8 nt ps.toList args sl=some sl') (ha:gG ca=false) (hb:gG cb=false)
  (h:eA P Γ nx ca ⟨sl',mem,nx,nt⟩ (NR P Γ nx id cb K)):aM P Γ YF (.yld id::args) mem nx K:=
 (bO.round (Kp:=fun _ _ _=>False) hl hp ha hb h).toC fun _ _ _ h=>h
def Pn{α:Type}(B:Nat)(R:α->Prop)(I:α->St)(μ:α->Nat)(x:α)(Q:Exit->St->Prop)(e:Exit)(s:St):Prop:=
 match e with
 | .normal=>Ge B R I μ x s
 | e=>Q e s
theorem a7.at{c:Code}{s:St}{Q:Exit->St->Prop}{α:Type}(hΓ:∀p∈Γ,NN p.2)(R:α->Prop)(I:α->St)(μ:α->Nat)(x:α)(σ:List (Nat × Nat))(hx:R x)(h0:Conv B σ s (I x))
  (h:∀x,R x->eA P Γ B c (I x) (Pn B R I μ x Q)):a7 P Γ B c s Q:=by
 refine⟨eA.conv hΓ h0 ?_⟩;refine eA.loop (α:={ x:α // R x }) hΓ (fun x=>I x.1) (fun x=>μ x.1) (fun x=>?_) ⟨x,hx⟩;refine(h x.1 x.2).mono fun e s h=>?_
 cases e with
 | normal=>
  obtain⟨y,σ,hy,hc,hlt⟩:=(show Ge B R I μ x.1 s from h)
  exact⟨⟨y,hy⟩,σ,hc,hlt⟩
 | exit i=>exact h
 | goto l=>exact h
 | ret=>exact h
 | panic c=>exact h
 | outgrown=>exact h
theorem a7.ph{c:Code}{s:St}{Q:Exit->St->Prop}(t:TypeId)(sz:Nat)(h:a7 P Γ B c ⟨s.sl,(s.nx,.row t sz [])::s.mem,s.nx+1,s.nt⟩ Q):a7 P Γ B c s Q:=⟨eA.ph t sz h.run⟩
def D6(P:Program)(Γ:List (Nat × AV))(B:Nat)(ops:List Oper)(K:St->Prop)(next:List Oper->St->Prop)(l:List Oper)(s:St):Prop:=
 match l with
 | []=>K s
 | o::r=>CJ s fun sl mem nx nt=>rC ops sl o.guard
   (CU false P Γ (Ci P Γ B) sl mem nx o.op (fun v mem nx=>kO s o.dst v mem nx fun s'=>next r s') fun _ _ _=>False)
   (kO s o.dst (.tup []) mem nx fun s'=>next r s')
theorem o7{ops:List Oper}{K:St->Prop}{next:List Oper->St->Prop}(hn:∀r s,next r s->l5 P Γ B ops r s K){l:List Oper}{s:St}(h:D6 P Γ B ops K next l s):l5 P Γ B ops l s K:=by
 refine⟨?_⟩;cases l with
 | nil=>exact h
 | cons o r=>
  have h:rC ops s.sl o.guard (CU false P Γ (Ci P Γ B) s.sl s.mem s.nx o.op (fun v mem nx=>kO s o.dst v mem nx fun s'=>next r s') fun _ _ _=>False) (kO s o.dst (.tup []) s.mem s.nx fun s'=>next r s'):=h;simp only[uL];rcases rA h with⟨h1,h⟩|⟨h1,h⟩
  ·simp only[h1];rcases y8 h with⟨v,m,n,h2,h⟩|⟨h2,F,l,h3,h⟩
   ·obtain⟨s',h4,h⟩:=d8 h;simp only[h2,h4];exact(hn _ _ h).run
   ·simp only[h2,h3];refine(show aM P Γ F l s.mem s.nx _ from h).mono fun v m n h=>?_
    obtain⟨s',h4,h⟩:=d8 h;simp only[h4];exact(hn _ _ h).run
  ·obtain⟨s',h4,h⟩:=d8 h;simp only[h1,h4];exact(hn _ _ h).run
def MM(P:Program)(Γ:List (Nat × AV))(B:Nat)(next:Code->St->(Exit->St->Prop)->Prop)(c:Code)(s:St)(Q:Exit->St->Prop):Prop:=
 match c with
 | .seq x y=>next x s (HV P Γ B y Q)
 | .block id c=>next c s (AT id Q)
 | c=>PK P Γ B c s Q
theorem tF{next:Code->St->(Exit->St->Prop)->Prop}(hn:∀c s Q,next c s Q->eA P Γ B c s Q){c:Code}{s:St}{Q:Exit->St->Prop}(h:MM P Γ B next c s Q):eA P Γ B c s Q:=by
 cases c with
 | seq x y=>exact eA.go (show PK P Γ B (.seq x y) s Q from hn _ _ _ h)
 | block id c=>exact eA.go (show PK P Γ B (.block id c) s Q from hn _ _ _ h)
 | _=>exact eA.go h
def Q5(P:Program)(Γ:List (Nat × AV))(B:Nat)(ops:List Oper)(K:St->Prop)(l:List Oper)(s:St):Prop:=l5 P Γ B ops l s K
theorem MX{ops:List Oper}{K:St->Prop}(l:List Oper)(s:St)(h:Q5 P Γ B ops K l s):l5 P Γ B ops l s K:=h
def QS(P:Program)(Γ:List (Nat × AV))(B:Nat)(ops:List Oper)(K:St->Prop)(l:List Oper)(s:St):Prop:=D6 P Γ B ops K (Q5 P Γ B ops K) l s
theorem M4{ops:List Oper}{K:St->Prop}(l:List Oper)(s:St)(h:QS P Γ B ops K l s):l5 P Γ B ops l s K:=o7 MX h
def QK(P:Program)(Γ:List (Nat × AV))(B:Nat)(ops:List Oper)(K:St->Prop)(l:List Oper)(s:St):Prop:=D6 P Γ B ops K (QS P Γ B ops K) l s
theorem M9{ops:List Oper}{K:St->Prop}(l:List Oper)(s:St)(h:QK P Γ B ops K l s):l5 P Γ B ops l s K:=o7 M4 h
def Qo(P:Program)(Γ:List (Nat × AV))(B:Nat)(ops:List Oper)(K:St->Prop)(l:List Oper)(s:St):Prop:=D6 P Γ B ops K (QK P Γ B ops K) l s
theorem Ni{ops:List Oper}{K:St->Prop}(l:List Oper)(s:St)(h:Qo P Γ B ops K l s):l5 P Γ B ops l s K:=o7 M9 h
def Qb(P:Program)(Γ:List (Nat × AV))(B:Nat)(ops:List Oper)(K:St->Prop)(l:List Oper)(s:St):Prop:=D6 P Γ B ops K (Qo P Γ B ops K) l s
theorem Mz{ops:List Oper}{K:St->Prop}(l:List Oper)(s:St)(h:Qb P Γ B ops K l s):l5 P Γ B ops l s K:=o7 Ni h
def P3(P:Program)(Γ:List (Nat × AV))(B:Nat)(ops:List Oper)(K:St->Prop)(l:List Oper)(s:St):Prop:=D6 P Γ B ops K (Qb P Γ B ops K) l s
theorem MK{ops:List Oper}{K:St->Prop}(l:List Oper)(s:St)(h:P3 P Γ B ops K l s):l5 P Γ B ops l s K:=o7 Mz h
def Py(P:Program)(Γ:List (Nat × AV))(B:Nat)(ops:List Oper)(K:St->Prop)(l:List Oper)(s:St):Prop:=D6 P Γ B ops K (P3 P Γ B ops K) l s
theorem NZ{ops:List Oper}{K:St->Prop}(l:List Oper)(s:St)(h:Py P Γ B ops K l s):l5 P Γ B ops l s K:=o7 MK h
def QY(P:Program)(Γ:List (Nat × AV))(B:Nat)(ops:List Oper)(K:St->Prop)(l:List Oper)(s:St):Prop:=D6 P Γ B ops K (Py P Γ B ops K) l s
theorem Ng{ops:List Oper}{K:St->Prop}(l:List Oper)(s:St)(h:QY P Γ B ops K l s):l5 P Γ B ops l s K:=o7 NZ h
def Qa(P:Program)(Γ:List (Nat × AV))(B:Nat)(ops:List Oper)(K:St->Prop)(l:List Oper)(s:St):Prop:=D6 P Γ B ops K (QY P Γ B ops K) l s
theorem NW{ops:List Oper}{K:St->Prop}(l:List Oper)(s:St)(h:Qa P Γ B ops K l s):l5 P Γ B ops l s K:=o7 Ng h
def P6(P:Program)(Γ:List (Nat × AV))(B:Nat)(ops:List Oper)(K:St->Prop)(l:List Oper)(s:St):Prop:=D6 P Γ B ops K (Qa P Γ B ops K) l s
theorem Mi{ops:List Oper}{K:St->Prop}(l:List Oper)(s:St)(h:P6 P Γ B ops K l s):l5 P Γ B ops l s K:=o7 NW h
def KM(P:Program)(Γ:List (Nat × AV))(B:Nat)(ops:List Oper)(K:St->Prop)(l:List Oper)(s:St):Prop:=D6 P Γ B ops K (P6 P Γ B ops K) l s
theorem Kx{ops:List Oper}{K:St->Prop}(l:List Oper)(s:St)(h:KM P Γ B ops K l s):l5 P Γ B ops l s K:=o7 Mi h
theorem l5.many{ops l:List Oper}{s:St}{K:St->Prop}(h:KM P Γ B ops K l s):l5 P Γ B ops l s K:=Kx l s h
def Pq(P:Program)(Γ:List (Nat × AV))(B:Nat)(c:Code)(s:St)(Q:Exit->St->Prop):Prop:=eA P Γ B c s Q
theorem MJ(c:Code)(s:St)(Q:Exit->St->Prop)(h:Pq P Γ B c s Q):eA P Γ B c s Q:=h
def Qi(P:Program)(Γ:List (Nat × AV))(B:Nat)(c:Code)(s:St)(Q:Exit->St->Prop):Prop:=MM P Γ B (Pq P Γ B) c s Q
theorem Mf(c:Code)(s:St)(Q:Exit->St->Prop)(h:Qi P Γ B c s Q):eA P Γ B c s Q:=tF MJ h
def P4(P:Program)(Γ:List (Nat × AV))(B:Nat)(c:Code)(s:St)(Q:Exit->St->Prop):Prop:=MM P Γ B (Qi P Γ B) c s Q
theorem NX(c:Code)(s:St)(Q:Exit->St->Prop)(h:P4 P Γ B c s Q):eA P Γ B c s Q:=tF Mf h
def QN(P:Program)(Γ:List (Nat × AV))(B:Nat)(c:Code)(s:St)(Q:Exit->St->Prop):Prop:=MM P Γ B (P4 P Γ B) c s Q
theorem Nn(c:Code)(s:St)(Q:Exit->St->Prop)(h:QN P Γ B c s Q):eA P Γ B c s Q:=tF NX h
def P1(P:Program)(Γ:List (Nat × AV))(B:Nat)(c:Code)(s:St)(Q:Exit->St->Prop):Prop:=MM P Γ B (QN P Γ B) c s Q
theorem ML(c:Code)(s:St)(Q:Exit->St->Prop)(h:P1 P Γ B c s Q):eA P Γ B c s Q:=tF Nn h
def Pv(P:Program)(Γ:List (Nat × AV))(B:Nat)(c:Code)(s:St)(Q:Exit->St->Prop):Prop:=MM P Γ B (P1 P Γ B) c s Q
theorem MH(c:Code)(s:St)(Q:Exit->St->Prop)(h:Pv P Γ B c s Q):eA P Γ B c s Q:=tF ML h
def Q7(P:Program)(Γ:List (Nat × AV))(B:Nat)(c:Code)(s:St)(Q:Exit->St->Prop):Prop:=MM P Γ B (Pv P Γ B) c s Q
theorem MC(c:Code)(s:St)(Q:Exit->St->Prop)(h:Q7 P Γ B c s Q):eA P Γ B c s Q:=tF MH h
def P5(P:Program)(Γ:List (Nat × AV))(B:Nat)(c:Code)(s:St)(Q:Exit->St->Prop):Prop:=MM P Γ B (Q7 P Γ B) c s Q
theorem NB(c:Code)(s:St)(Q:Exit->St->Prop)(h:P5 P Γ B c s Q):eA P Γ B c s Q:=tF MC h
def PH(P:Program)(Γ:List (Nat × AV))(B:Nat)(c:Code)(s:St)(Q:Exit->St->Prop):Prop:=MM P Γ B (P5 P Γ B) c s Q
theorem Mn(c:Code)(s:St)(Q:Exit->St->Prop)(h:PH P Γ B c s Q):eA P Γ B c s Q:=tF NB h
theorem eA.many{c:Code}{s:St}{Q:Exit->St->Prop}(h:PH P Γ B c s Q):eA P Γ B c s Q:=Mn c s Q h
class XG(p:Prop)(q:outParam Prop):Prop where
 h:q->p
instance{c:Code}{s:St}{Q:Exit->St->Prop}:XG (eA P Γ B c s Q) (PH P Γ B c s Q):=⟨eA.many⟩
instance{ops l:List Oper}{s:St}{K:St->Prop}:XG (l5 P Γ B ops l s K) (KM P Γ B ops K l s):=⟨l5.many⟩
instance{ops:List Oper}{tr:List (List Nat)}{base:Nat}{K:St->Prop}{l:List Nat}{recs:List yV}{s:St}:XG (Jx P Γ B ops tr base K l recs s) (RU P Γ B ops tr base K l recs s):=⟨Jx.go⟩
theorem Xg{p q:Prop}[i:XG p q](x:q):p:=i.h x
end
end Go.Ax
namespace Go.Ax
open Go
def zO(i:Nat):List Nat->Bool
 | []=>false
 | j::r=>match Nat.beq j i with
  | true=>true
  | false=>zO i r
def jE(ids:List Nat):aS->aS
 | []=>[]
 | (k,b)::r=>match zO k ids with
  | true=>(k,b)::jE ids r
  | false=>jE ids r
def eT(ids:List Nat):aS->aS
 | []=>[]
 | (k,b)::r=>match zO k ids with
  | true=>eT ids r
  | false=>(k,b)::eT ids r
def nD:List Nat->List (Nat × Nat)
 | []=>[]
 | i::r=>(i,i)::nD r
def Fl(n:Nat):List Nat->Bool
 | []=>true
 | i::r=>Nat.blt i n && Fl n r
def vE(ids:List Nat):aS->Bool
 | []=>true
 | (k,_)::r=>zO k ids && vE ids r
theorem dO{ids:List Nat}:∀{m:aS} {p:Nat × AB},p∈jE ids m↔p∈m/\zO p.1 ids=true
 | [],p=>by simp[jE]
 | (k,b)::r,p=>by
  simp only[jE];split
  ·rename_i h;rw[Rz,dO (m:=r),Rz];constructor
   ·rintro(rfl|⟨h1,h2⟩)
    ·exact⟨.inl rfl,h⟩
    ·exact⟨.inr h1,h2⟩
   ·rintro⟨rfl|h1,h2⟩
    ·exact .inl rfl
    ·exact .inr ⟨h1,h2⟩
  ·rename_i h;rw[dO (m:=r),Rz];constructor
   ·rintro⟨h1,h2⟩;exact⟨.inr h1,h2⟩
   ·rintro⟨rfl|h1,h2⟩
    ·rw[h] at h2;cases h2
    ·exact⟨h1,h2⟩
theorem cK{ids:List Nat}:∀{m:aS} {p:Nat × AB},p∈eT ids m↔p∈m/\zO p.1 ids=false
 | [],p=>by simp[eT]
 | (k,b)::r,p=>by
  simp only[eT];split
  ·rename_i h;rw[cK (m:=r),Rz];constructor
   ·rintro⟨h1,h2⟩;exact⟨.inr h1,h2⟩
   ·rintro⟨rfl|h1,h2⟩
    ·rw[h] at h2;cases h2
    ·exact⟨h1,h2⟩
  ·rename_i h;rw[Rz,cK (m:=r),Rz];constructor
   ·rintro(rfl|⟨h1,h2⟩)
    ·exact⟨.inl rfl,h⟩
    ·exact⟨.inr h1,h2⟩
   ·rintro⟨rfl|h1,h2⟩
    ·exact .inl rfl
    ·exact .inr ⟨h1,h2⟩
theorem kN{ids:List Nat}:∀(m:aS),(jE ids m).Sublist m
 | []=>by simp[jE]
 | (k,b)::r=>by
  simp only[jE];split
  ·exact(kN r).cons_cons _
  ·exact(kN r).cons _
theorem kI{ids:List Nat}:∀(m:aS),(eT ids m).Sublist m
 | []=>by simp[eT]
 | (k,b)::r=>by
  simp only[eT];split
  ·exact(kI r).cons _
  ·exact(kI r).cons_cons _
theorem o6:∀{ids:List Nat} {i j:Nat},lk (nD ids) i=some j->i=j/\zO i ids=true
 | [],i,j,h=>by simp[nD,lk] at h
 | k::r,i,j,h=>by
  simp only[nD,lk] at h;split at h
  ·rename_i e;cases h;exact⟨(Rw e).symm,by simp only[zO,e]⟩
  ·rename_i e;obtain⟨h1,h2⟩:=o6 h;exact⟨h1,by simp only[zO,e];exact h2⟩
theorem Eg:∀{ids:List Nat} {i:Nat},zO i ids=true->lk (nD ids) i=some i
 | [],i,h=>by simp[zO] at h
 | k::r,i,h=>by
  simp only[zO] at h;simp only[nD,lk];split at h
  ·rename_i e;rw[e,Rw e]
  ·rename_i e;rw[e];exact Eg h
theorem kC:∀{ids:List Nat} {n i:Nat},Fl n ids=true->zO i ids=true->i<n
 | [],n,i,_,h=>by simp[zO] at h
 | k::r,n,i,h1,h=>by
  simp only[Fl,Rr] at h1;simp only[zO] at h;split at h
  ·rename_i e;rw[←Rw e];exact Ry h1.1
  ·exact kC h1.2 h
theorem k6:∀{m:aS} {ids:List Nat},vE ids m=true->∀p∈m,zO p.1 ids=true
 | [],ids,_,p,hp=>by cases hp
 | (k,b)::r,ids,h,p,hp=>by
  simp only[vE,Rr] at h;rcases Rz.1 hp with rfl|hp
  ·exact h.1
  ·exact k6 h.2 p hp
theorem aM.useI{P:Program}{Γ:List (Nat × AV)}{F:FuncId}{args args':List AV}{ms mem:aS}{ns nx:Nat}{Qs K:AV->aS->Nat->Prop}(hΓ:∀p∈Γ,NN p.2)(ids:List Nat)(h:aM P Γ F args' ms ns Qs)
  (hp:jE ids mem=ms) (hargs:iL ms (nD ids) args args') (hM:cH ms (nD ids) ms) (hc:(iK ms && Fl ns ids)=true)
  (hk:∀r m n,Qs r m n->NN r/\cH m (nD ids) m/\(iK m && vE ids m)=true/\K r (m++eT ids mem) nx):aM P Γ F args mem nx K:=by
 simp only[Rr] at hc;refine⟨fun X D ρ w vs hD hm hv=>?_⟩;have hinj:Gi (nD ids):=fun i j k h1 h2=>by
  have a:=(o6 h1).1;have b:=(o6 h2).1;omega
 refine(aM.use (K:=K) (nx:=nx) hΓ h (nD ids) (m1:=ms) (rest:=eT ids mem) ⟨fun p hp'=>?_,fun p hp'=>(cK.1 hp').1,fun p hp'=>?_,fun p h1 q h2=>?_, ?_⟩ ?_ hargs hM.cvm (dH hc.1) hinj (fun id i hl=>?_) ?_).run X D ρ w vs hD hm hv
 ·rw[←hp] at hp';exact(dO.1 hp').1
 ·cases hi:zO p.1 ids with
  | true=>left;rw[←hp];exact dO.2 ⟨hp',hi⟩
  | false=>right;exact cK.2 ⟨hp',hi⟩
 ·rw[←hp] at h1;have a:=(dO.1 h1).2;have b:=(cK.1 h2).2;intro e;rw[e,b] at a;cases a
 ·rw[←hp];exact hm.nod.sublist ((kN mem).map _)
 ·exact hm.nod.sublist ((kI mem).map _)
 ·obtain⟨h1,h2⟩:=o6 hl;rw[←h1];exact kC hc.2 h2
 ·intro r m n hq hn;obtain⟨h1,h2,h3,h4⟩:=hk r m n hq;simp only[Rr] at h3;refine⟨nD ids,r,m,nx,R2 _,.same r h1,h2.cvm,dH h3.1,hinj,fun i id hl=>?_,fun p h5 q h6=>?_,h4⟩
  ·obtain⟨e1,e2⟩:=o6 hl;subst e1;exact .inl ⟨kC hc.2 e2,Eg e2⟩
  ·have a:=k6 h3.2 p h5;have b:=(cK.1 h6).2;intro e;rw[e,b] at a;cases a
def fN:List (Nat × Nat)->List Nat
 | []=>[]
 | (i,_)::r=>i::fN r
def Ds:List (Nat × Nat)->List (Nat × Nat)
 | []=>[]
 | (i,j)::r=>(j,i)::Ds r
def oD(n:Nat):List (Nat × Nat)->Bool
 | []=>true
 | (_,j)::r=>Nat.blt j n && oD n r
theorem BZ:∀{σ:List (Nat × Nat)} {i j:Nat},(j,i)∈Ds σ↔(i,j)∈σ
 | [],i,j=>by simp[Ds]
 | (a,b)::r,i,j=>by
  simp only[Ds,Rz,BZ (σ:=r),Prod.mk.injEq];constructor
  ·rintro(⟨rfl,rfl⟩|h)
   ·exact .inl ⟨rfl,rfl⟩
   ·exact .inr h
  ·rintro(⟨rfl,rfl⟩|h)
   ·exact .inl ⟨rfl,rfl⟩
   ·exact .inr h
theorem Jh{σ:List (Nat × Nat)}(h:jG (Ds σ)=true){i j:Nat}(hm:(i,j)∈σ):lk σ i=some j:=by
 induction σ with
 | nil=>cases hm
 | cons p r ih=>
  obtain⟨a,b⟩:=p;simp only[Ds,jG,Rr] at h;simp only[lk];rcases Rz.1 hm with e|hm'
  ·cases e;simp
  ·have hne:a≠i:=by
    intro e;subst e;exact oL h.1 _ (BZ.2 hm') rfl
   rw[qW hne];exact ih h.2 hm'
theorem kV:∀{σ:List (Nat × Nat)} {n:Nat},oD n σ=true->∀p∈σ,p.2<n
 | [],n,_,p,hp=>by cases hp
 | (a,b)::r,n,h,p,hp=>by
  simp only[oD,Rr] at h;rcases Rz.1 hp with rfl|hp
  ·exact Ry h.1
  ·exact kV h.2 p hp
theorem aM.useR{P:Program}{Γ:List (Nat × AV)}{F:FuncId}{args args':List AV}{ms mem m1:aS}{ns nx:Nat}{Qs K:AV->aS->Nat->Prop}(hΓ:∀p∈Γ,NN p.2)(σ:List (Nat × Nat))(h:aM P Γ F args' ms ns Qs)
  (hp:jE (fN σ) mem=m1) (hargs:iL m1 σ args args') (hM:cH m1 σ ms) (hc:(iK ms && (jG σ && (jG (Ds σ) && oD ns σ)))=true)
  (hk:∀r m n,Qs r m n->∃m',NN r/\cH m (Ds σ) m'/\(iK m' && vE (fN σ) m')=true/\K r (m'++eT (fN σ) mem) nx):aM P Γ F args mem nx K:=by
 simp only[Rr] at hc;obtain⟨hc1,hc2,hc3,hc4⟩:=hc;refine⟨fun X D ρ w vs hD hm hv=>?_⟩;refine(aM.use (K:=K) (nx:=nx) hΓ h σ (m1:=m1) (rest:=eT (fN σ) mem) ⟨fun p hp'=>?_,fun p hp'=>(cK.1 hp').1,fun p hp'=>?_,fun p h1 q h2=>?_, ?_⟩ ?_ hargs hM.cvm (dH hc1) (kW hc2) (fun id i hl=>kV hc4 _ (bI hl)) ?_).run X D ρ w vs hD hm hv
 ·rw[←hp] at hp';exact(dO.1 hp').1
 ·cases hi:zO p.1 (fN σ) with
  | true=>left;rw[←hp];exact dO.2 ⟨hp',hi⟩
  | false=>right;exact cK.2 ⟨hp',hi⟩
 ·rw[←hp] at h1;have a:=(dO.1 h1).2;have b:=(cK.1 h2).2;intro e;rw[e,b] at a;cases a
 ·rw[←hp];exact hm.nod.sublist ((kN mem).map _)
 ·exact hm.nod.sublist ((kI mem).map _)
 ·intro r m n hq hn;obtain⟨m',h1,h2,h3,h4⟩:=hk r m n hq;simp only[Rr] at h3;refine⟨Ds σ,r,m',nx,R2 _,.same r h1,h2.cvm,dH h3.1,kW hc3,fun i id hl=>?_,fun p h5 q h6=>?_,h4⟩
  ·have hmem:=BZ.1 (bI hl);exact .inl ⟨kV hc4 _ hmem,Jh hc3 hmem⟩
  ·have a:=k6 h3.2 p h5;have b:=(cK.1 h6).2;intro e;rw[e,b] at a;cases a
end Go.Ax
namespace Go.Ax
open Go
def N3(w w':World):Prop:=w.heap.size<=w'.heap.size/\(∀b,b<w.heap.size->w'.heap[b]? = w.heap[b]?)/\DD w w'
theorem N3.refl(w:World):N3 w w:=⟨R2 _,fun _ _=>rfl,.refl _⟩
section
variable {P:Program} {Γ:List (Nat × AV)} {F:FuncId} {args:List AV} {r:AV}
end
end Go.Ax
namespace Go.Ax
open Go Go.RowKit
end Go.Ax
namespace Go.Ax
open Go
end Go.Ax
