/- A part of the proof. -/
import Derived.Test.YthempfhilcmfnaaGreatAx5
set_option linter.unusedVariables false
set_option linter.unusedSimpArgs false
namespace Go.Ax
open Go
def LR(cl:Bool)(P:Program)(mem:aS)(t:TypeId)(x y:AV)(K:AV->aS->Prop):Prop:=
 match P.underlying t with
 | some (.slice e)=>match f0 P e with
  | some n=>match x with
   | .sl id 0 len=>match lk mem id with
    | some (.row t' sz' xs)=>Md cl mem n y fun ys=>oH (Nat.blt 0 n && (Nat.beq sz' n && (Nat.ble ys.length len && Nat.ble len xs.length)))
      (rI cl (xs.drop ys.length) fun zs=>Nb cl ys zs fun zs=>xG cl ys.length fun l=>I7 mem id (.row t' sz' zs) fun m=>K (.int .i64 l) m)
    | _=>False
   | _=>False
  | none=>False
 | _=>False
theorem NU{cl:Bool}{P:Program}{mem:aS}{t:TypeId}{x y:AV}{K:AV->aS->Prop}(h:LR cl P mem t x y K):∃v m,F9 P mem t x y=some (v,m)/\K v m:=by
 unfold LR at h;unfold F9;split at h
 ·rename_i e hu;simp only[hu];split at h
  ·rename_i n hn;simp only[hn];split at h
   ·split at h
    ·rename_i hid;obtain⟨ys,h4,h⟩:=Ko h;obtain⟨h5,h⟩:=bZ.1 h;rw[Rr] at h5;exact⟨_,_,by simp only[h5.1,hid,h4,h5.2],kT.1 (g8.1 (GJ.1 (iC.1 h)))⟩
    ·exact h.elim
   ·exact h.elim
  ·exact h.elim
 ·exact h.elim
def Hq(P:Program)(mem:aS)(t:TypeId)(x:AV)(K:aS->Prop):Prop:=
 match P.underlying t with
 | some (.slice e)=>match mU P e with
  | some z=>match x with
   | .sl id off len=>match lk mem id with
    | some (.row t' sz xs)=>oH (kL z && (Nat.beq z.cells.length sz && (Nat.blt 0 sz && (Nat.blt 0 len && Nat.ble (off+len) xs.length))))
      (I7 mem id (.row t' sz (xs.take off++(List.replicate len z++xs.drop (off+len)))) fun m=>K m)
    | _=>False
   | _=>False
  | none=>False
 | _=>False
theorem Kb{P:Program}{mem:aS}{t:TypeId}{x:AV}{K:aS->Prop}(h:Hq P mem t x K):∃m,B2 P mem t x=some m/\K m:=by
 unfold Hq at h;unfold B2;split at h
 ·rename_i e hu;simp only[hu];split at h
  ·rename_i z hz;simp only[hz];split at h
   ·split at h
    ·rename_i hid;obtain⟨h5,h⟩:=bZ.1 h;exact⟨_,by simp only[hid,h5],kT.1 h⟩
    ·exact h.elim
   ·exact h.elim
  ·exact h.elim
 ·exact h.elim
def B8(cl:Bool)(P:Program)(Γ:List (Nat × AV))(sl:List (Nat × AV))(mem:aS)(nx:Nat)(b:Builtin)(args:List Operand)(ts:List TypeId)(K:AV->aS->Nat->Prop):Prop:=
 match b with
 | .len=>match args,ts with
  | [x],[t]=>lM Γ sl x fun a=>opt (M8 P mem t a) fun v=>match v with
   | .int k n=>qS cl k n fun v=>K v mem nx
   | _=>False
  | _,_=>False
 | .append=>match args,ts with
  | [x,y],[t,u]=>lM Γ sl x fun a=>lM Γ sl y fun b=>EM cl P mem nx t u a b K
  | _,_=>False
 | .min=>GI Γ sl args fun l=>match l with
  | .int k x::r=>opt (Jm x r) fun m=>qS cl k m fun v=>K v mem nx
  | _=>False
 | .max=>GI Γ sl args fun l=>match l with
  | .int k x::r=>opt (JA x r) fun m=>qS cl k m fun v=>K v mem nx
  | _=>False
 | .unsafeSliceData=>match args,ts with
  | [x],[_]=>lM Γ sl x fun a=>opt (qP a) fun v=>K v mem nx
  | _,_=>False
 | .unsafeString=>match args,ts with
  | [x,y],[t,_]=>lM Γ sl x fun a=>lM Γ sl y fun b=>match xM P mem t a b with
   | some (.str l,m)=>rI cl l fun l=>A2 m fun m=>K (.str l) m nx
   | _=>False
  | _,_=>False
 | .copy=>match args,ts with
  | [x,y],[t,_]=>lM Γ sl x fun a=>lM Γ sl y fun b=>LR cl P mem t a b fun v m=>K v m nx
  | _,_=>False
 | .clear=>match args,ts with
  | [x],[t]=>lM Γ sl x fun a=>Hq P mem t a fun m=>K (.tup []) m nx
  | _,_=>False
 | _=>False
theorem G4{cl:Bool}{P:Program}{Γ:List (Nat × AV)}{s:St}{b:Builtin}{args:List Operand}{ts:List TypeId}{K:AV->aS->Nat->Prop}(h:B8 cl P Γ s.sl s.mem s.nx b args ts K) :
  ∃v m n,eD P Γ s b args ts=some (v,m,n)/\K v m n:=by
 unfold B8 at h;split at h
 ·split at h
  ·obtain⟨a,h1,h⟩:=cE h;obtain⟨v,h2,h⟩:=cD.1 h;split at h
   ·exact⟨_,_,_,by simp only[eD,h1,h2,bN],mQ.1 h⟩
   ·exact h.elim
  ·exact h.elim
 ·split at h
  ·obtain⟨a,h1,h⟩:=cE h;obtain⟨b,h2,h⟩:=cE h;obtain⟨v,m,n,h3,h⟩:=Iu h;exact⟨_,_,_,by simp only[eD,h1,h2];exact h3,h⟩
  ·exact h.elim
 ·obtain⟨l,h1,h⟩:=oB h;split at h
  ·obtain⟨m,h2,h⟩:=cD.1 h;exact⟨_,_,_,by simp only[eD,h1,h2],mQ.1 h⟩
  ·exact h.elim
 ·obtain⟨l,h1,h⟩:=oB h;split at h
  ·obtain⟨m,h2,h⟩:=cD.1 h;exact⟨_,_,_,by simp only[eD,h1,h2],mQ.1 h⟩
  ·exact h.elim
 ·split at h
  ·obtain⟨a,h1,h⟩:=cE h;obtain⟨v,h2,h⟩:=cD.1 h;exact⟨_,_,_,by simp only[eD,h1,h2,bN],h⟩
  ·exact h.elim
 ·split at h
  ·obtain⟨a,h1,h⟩:=cE h;obtain⟨b,h2,h⟩:=cE h;split at h
   ·rename_i l m h3;exact⟨_,_,_,by simp only[eD,h1,h2,h3],wG.1 (iC.1 h)⟩
   ·exact h.elim
  ·exact h.elim
 ·split at h
  ·obtain⟨a,h1,h⟩:=cE h;obtain⟨b,h2,h⟩:=cE h;obtain⟨v,m,h3,h⟩:=NU h;exact⟨_,_,_,by simp only[eD,h1,h2,h3],h⟩
  ·exact h.elim
 ·split at h
  ·obtain⟨a,h1,h⟩:=cE h;obtain⟨m,h3,h⟩:=Kb h;exact⟨_,_,_,by simp only[eD,h1,h3],h⟩
  ·exact h.elim
 ·exact h.elim
def oU(cl:Bool)(P:Program)(Γ:List (Nat × AV))(sl:List (Nat × AV))(mem:aS)(nx:Nat)(op:Op)(K:AV->aS->Nat->Prop):Prop:=
 match op with
 | .move x=>lM Γ sl x fun v=>K v mem nx
 | .assign x=>lM Γ sl x fun v=>K v mem nx
 | .pick c a b=>lM Γ sl c fun c=>match c with
  | .bool c=>MB c (lM Γ sl a fun v=>K v mem nx) (lM Γ sl b fun v=>K v mem nx)
  | _=>False
 | .alloc t=>Gk P mem nx t K
 | .box t x=>lM Γ sl x fun v=>Q8 P mem nx t v K
 | .build t parts=>xX Γ sl parts.toList fun ps=>HQ P t ps fun v=>K v mem nx
 | .buildSlice t len parts=>xX Γ sl parts.toList fun ps=>sB P mem nx t len ps K
 | .load t x=>lM Γ sl x fun p=>Hr P mem t p fun v=>K v mem nx
 | .store t x y=>lM Γ sl x fun p=>lM Γ sl y fun v=>Hj P mem t p v fun m=>K (.tup []) m nx
 | .nilCheck x=>lM Γ sl x fun p=>opt (MO p) fun v=>K v mem nx
 | .binOp op t x y _=>lM Γ sl x fun a=>lM Γ sl y fun b=>Oo cl P op t x y a b fun v=>K v mem nx
 | .unOp op _ x=>lM Γ sl x fun a=>RJ cl op a fun v=>K v mem nx
 | .convert src dst x=>lM Γ sl x fun a=>match P.underlying dst with
  | some (.slice _)=>zA cl P mem nx src dst a K
  | _=>La cl P mem src dst a fun v=>K v mem nx
 | .makeInterface t x=>lM Γ sl x fun a=>opt (Du P t a) fun v=>K v mem nx
 | .makeFunc fn first cap=>GI Γ sl first.toList fun l1=>GI Γ sl cap.toList fun l2=>K (.fn fn l1 l2) mem nx
 | .makeSlice t l c=>lM Γ sl l fun a=>lM Γ sl c fun b=>J7 cl P mem nx t a b K
 | .slice t x lo hi mx=>lM Γ sl x fun a=>EF Γ sl lo fun l=>EF Γ sl hi fun h=>EF Γ sl mx fun m=>match !m.isSome || h.isSome with
  | true=>Hn cl P mem t a l h m fun v=>K v mem nx
  | false=>False
 | .fieldAddr t x f=>lM Γ sl x fun p=>wC P t f p fun v=>K v mem nx
 | .field t x f=>lM Γ sl x fun p=>HI P t f p fun v=>K v mem nx
 | .indexAddr t x ix=>lM Γ sl x fun p=>lM Γ sl ix fun i=>vD cl P mem t p i fun v=>K v mem nx
 | .index t x ix=>lM Γ sl x fun p=>lM Γ sl ix fun i=>G6 cl P t p i fun v=>K v mem nx
 | .extract x i=>lM Γ sl x fun p=>opt (yN p i) fun v=>K v mem nx
 | .typeAssert x _ t ok=>lM Γ sl x fun p=>opt (AZ P t ok p) fun v=>K v mem nx
 | .makeMap _ reserve=>match reserve with
  | none=>nQ (nx+1) fun n=>K (.mp nx) ((nx,.mapb [])::mem) n
  | some _=>False
 | .lookup t x ix ok=>lM Γ sl x fun p=>lM Γ sl ix fun i=>opt (AY P mem t p i ok) fun v=>K v mem nx
 | .mapUpdate t x y z=>lM Γ sl x fun p=>lM Γ sl y fun k=>lM Γ sl z fun v=>qA P mem t p k v fun m=>K (.tup []) m nx
 | .insert t x y z=>lM Γ sl x fun p=>lM Γ sl y fun k=>lM Γ sl z fun v=>qA P mem t p k v fun m=>K (.tup []) m nx
 | .call c=>match c.callee with
  | .builtin b=>B8 cl P Γ sl mem nx b c.args.toList c.argTypes.toList K
  | _=>False
 | _=>False
theorem jO{cl:Bool}{P:Program}{Γ:List (Nat × AV)}{s:St}{op:Op}{K:AV->aS->Nat->Prop}(h:oU cl P Γ s.sl s.mem s.nx op K):∃v m n,cT P Γ s op=some (v,m,n)/\K v m n:=by
 cases op<;>simp only[oU] at h<;>simp only[cT]<;>first|exact h.elim|skip
 case move x=>
  obtain⟨v,h1,h⟩:=cE h;exact⟨_,_,_,by simp only[h1,bN],h⟩
 case assign x=>
  obtain⟨v,h1,h⟩:=cE h;exact⟨_,_,_,by simp only[h1,bN],h⟩
 case pick c x y=>
  obtain⟨v,h1,h⟩:=cE h;split at h
  ·rename_i b;cases b
   ·obtain⟨v,h2,h⟩:=cE (show lM Γ s.sl y _ from h);exact⟨_,_,_,by simp only[h1,h2,bN],h⟩
   ·obtain⟨v,h2,h⟩:=cE (show lM Γ s.sl x _ from h);exact⟨_,_,_,by simp only[h1,h2,bN],h⟩
  ·exact h.elim
 case alloc t=>exact Lj h
 case box t x=>
  obtain⟨v,h1,h⟩:=cE h;simp only[h1];exact O4 h
 case build t parts=>
  obtain⟨v,h1,h⟩:=sA h;obtain⟨v,h2,h⟩:=K9 h;exact⟨_,_,_,by simp only[h1,h2,bN],h⟩
 case buildSlice t len parts=>
  obtain⟨v,h1,h⟩:=sA h;simp only[h1];exact CO h
 case load t x=>
  obtain⟨v,h1,h⟩:=cE h;obtain⟨v,h2,h⟩:=Iq h;exact⟨_,_,_,by simp only[h1,h2,bN],h⟩
 case store t x y=>
  obtain⟨v,h1,h⟩:=cE h;obtain⟨u,h2,h⟩:=cE h;obtain⟨m,h3,h⟩:=K6 h;exact⟨_,_,_,by simp only[h1,h2,h3],h⟩
 case nilCheck x=>
  obtain⟨v,h1,h⟩:=cE h;obtain⟨v,h2,h⟩:=cD.1 h;exact⟨_,_,_,by simp only[h1,h2,bN],h⟩
 case binOp op t x y t'=>
  obtain⟨v,h1,h⟩:=cE h;obtain⟨u,h2,h⟩:=cE h;obtain⟨m,h3,h⟩:=Og h;exact⟨_,_,_,by simp only[h1,h2,h3,bN],h⟩
 case unOp op t x=>
  obtain⟨v,h1,h⟩:=cE h;obtain⟨v,h2,h⟩:=Qk h;exact⟨_,_,_,by simp only[h1,h2,bN],h⟩
 case convert src dst x=>
  obtain⟨v,h1,h⟩:=cE h;simp only[h1];split at h
  ·rename_i e hu;have hn:BD P s.mem src dst v=none:=by
    unfold BD;split
    ·rfl
    ·rw[hu]
   rw[hn];exact Gb h
  ·obtain⟨u,h2,h⟩:=Ml h;exact⟨_,_,_,by simp only[h2],h⟩
 case makeInterface t x=>
  obtain⟨v,h1,h⟩:=cE h;obtain⟨v,h2,h⟩:=cD.1 h;exact⟨_,_,_,by simp only[h1,h2,bN],h⟩
 case makeFunc fn first cap=>
  obtain⟨v,h1,h⟩:=oB h;obtain⟨v,h2,h⟩:=oB h;exact⟨_,_,_,by simp only[h1,h2],h⟩
 case makeSlice t l c=>
  obtain⟨v,h1,h⟩:=cE h;obtain⟨u,h2,h⟩:=cE h;simp only[h1,h2];exact NC h
 case slice t x lo hi mx=>
  obtain⟨v,h1,h⟩:=cE h;obtain⟨l,h2,h⟩:=yS h;obtain⟨h',h3,h⟩:=yS h;obtain⟨m,h4,h⟩:=yS h;simp only[h1,h2,h3,h4];split at h
  ·rename_i e;obtain⟨u,h5,h⟩:=Kc h;exact⟨_,_,_,by simp only[e,h5,bN],h⟩
  ·exact h.elim
 case fieldAddr t x f=>
  obtain⟨v,h1,h⟩:=cE h;obtain⟨v,h2,h⟩:=EH h;exact⟨_,_,_,by simp only[h1,h2,bN],h⟩
 case field t x f=>
  obtain⟨v,h1,h⟩:=cE h;obtain⟨v,h2,h⟩:=KF h;exact⟨_,_,_,by simp only[h1,h2,bN],h⟩
 case indexAddr t x ix=>
  obtain⟨v,h1,h⟩:=cE h;obtain⟨u,h2,h⟩:=cE h;obtain⟨m,h3,h⟩:=D3 h;exact⟨_,_,_,by simp only[h1,h2,h3,bN],h⟩
 case index t x ix=>
  obtain⟨v,h1,h⟩:=cE h;obtain⟨u,h2,h⟩:=cE h;obtain⟨m,h3,h⟩:=LU h;exact⟨_,_,_,by simp only[h1,h2,h3,bN],h⟩
 case typeAssert x xt t ok=>
  obtain⟨p,h1,h⟩:=cE h;obtain⟨v,h2,h⟩:=cD.1 h;exact⟨_,_,_,by simp only[h1,h2,bN],h⟩
 case extract x i=>
  obtain⟨v,h1,h⟩:=cE h;obtain⟨v,h2,h⟩:=cD.1 h;exact⟨_,_,_,by simp only[h1,h2,bN],h⟩
 case makeMap t r=>
  split at h
  ·exact⟨_,_,_,rfl,dV.1 h⟩
  ·exact h.elim
 case lookup t x ix ok=>
  obtain⟨v,h1,h⟩:=cE h;obtain⟨u,h2,h⟩:=cE h;obtain⟨m,h3,h⟩:=cD.1 h;exact⟨_,_,_,by simp only[h1,h2,h3,bN],h⟩
 case mapUpdate t x y z=>
  obtain⟨v,h1,h⟩:=cE h;obtain⟨u,h2,h⟩:=cE h;obtain⟨u',h3,h⟩:=cE h;obtain⟨m,h4,h⟩:=wS h;exact⟨_,_,_,by simp only[h1,h2,h3,h4],h⟩
 case insert t x y z=>
  obtain⟨v,h1,h⟩:=cE h;obtain⟨u,h2,h⟩:=cE h;obtain⟨u',h3,h⟩:=cE h;obtain⟨m,h4,h⟩:=wS h;exact⟨_,_,_,by simp only[h1,h2,h3,h4],h⟩
 case call c=>
  split at h
  ·rename_i hb;simp only[hb];exact G4 h
  ·exact h.elim
def CJ(s:St)(K:List (Nat × AV)->aS->Nat->Nat->Prop):Prop:=
 match s with
 | ⟨sl,mem,nx,nt⟩=>K sl mem nx nt
theorem kZ{s:St}{K:List (Nat × AV)->aS->Nat->Nat->Prop}:CJ s K↔K s.sl s.mem s.nx s.nt:=Iff.rfl
def kO(s:St)(d:Option Nat)(v:AV)(mem:aS)(nx:Nat)(K:St->Prop):Prop:=
 CJ s fun sl _ _ nt=>match d with
  | none=>K ⟨sl,mem,nx,nt⟩
  | some d=>oH (Nat.blt d nt) (I7 sl d v fun sl=>K ⟨sl,mem,nx,nt⟩)
theorem d8{s:St}{d:Option Nat}{v:AV}{mem:aS}{nx:Nat}{K:St->Prop}(h:kO s d v mem nx K):∃s',eI s d v mem nx=some s'/\K s':=by
 cases d with
 | none=>exact⟨_,rfl,h⟩
 | some d=>
  obtain⟨h1,h⟩:=bZ.1 h;exact⟨_,by simp only[eI,h1],kT.1 h⟩
def rC(ops:List Oper)(sl:List (Nat × AV))(g:Option (Nat × Bool))(yes no:Prop):Prop:=
 match g with
 | none=>yes
 | some (j,want)=>match ops[j]? with
  | none=>no
  | some o=>match o.dst with
   | none=>no
   | some d=>match lk sl d with
    | some (.bool b)=>match want with
     | true=>MB b yes no
     | false=>MB b no yes
    | some (.tup [])=>no
    | _=>False
theorem rA{ops:List Oper}{s:St}{g:Option (Nat × Bool)}{yes no:Prop}(h:rC ops s.sl g yes no):(lL ops s g=some true/\yes)∨(lL ops s g=some false/\no):=by
 unfold rC at h;unfold lL;split at h
 ·exact .inl ⟨rfl,h⟩
 ·split at h
  ·rename_i e;exact .inr ⟨by simp only[e],h⟩
  ·rename_i e;simp only[e];split at h
   ·rename_i e;exact .inr ⟨by simp only[e],h⟩
   ·rename_i e;simp only[e];split at h
    ·rename_i b e;simp only[e];split at h
     ·cases b
      ·exact .inr ⟨rfl,h⟩
      ·exact .inl ⟨rfl,h⟩
     ·cases b
      ·exact .inl ⟨rfl,h⟩
      ·exact .inr ⟨rfl,h⟩
    ·rename_i e;exact .inr ⟨by simp only[e],h⟩
    ·exact h.elim
def LZ(P:Program)(Γ:List (Nat × AV))(sl:List (Nat × AV))(f:Operand)(args:List Operand)(E:AV->Prop)(K:FuncId->List AV->Prop):Prop:=
 lM Γ sl f fun v=>match v with
  | .fn (.func F) first cap=>GI Γ sl args fun as=>match P.funcs[F]? with
   | some fn=>match fn.body with
    | some _=>match fn.name == "runtime.NumGoroutine" with
     | false=>match Nat.beq F YF with
      | false=>AQ first as fun l=>AQ l cap fun l=>K F l
      | true=>False
     | true=>False
    | none=>match Ad fn with
     | true=>match first with
      | []=>match cap with
       | []=>match as with
        | [v]=>E v
        | _=>False
       | _=>False
      | _=>False
     | false=>False
   | none=>False
  | .yld id=>GI Γ sl args fun as=>K YF (.yld id::as)
  | _=>False
theorem NT{P:Program}{Γ:List (Nat × AV)}{s:St}{c:Call}{f:Operand}(hc:c.callee = .value f){E:AV->Prop}{K:FuncId->List AV->Prop}(h:LZ P Γ s.sl f c.args.toList E K) :
  (∃v,cT P Γ s (.call c)=some (v,s.mem,s.nx)/\E v)∨(cT P Γ s (.call c)=none/\∃F l,nL P Γ s (.call c)=some (F,l)/\K F l):=by
 unfold LZ at h;obtain⟨v,h1,h⟩:=cE h;split at h
 ·rename_i F first cap
  obtain⟨as,h2,h⟩:=oB h;split at h
  ·rename_i fn h3;split at h
   ·rename_i body h4;split at h
    ·rename_i h5;split at h
     ·rename_i h6;refine .inr ⟨?_,_,_,by simp only[nL,hc,h1,h2,h3,h4,h5,h6],gP.1 (gP.1 h)⟩;simp only[cT,hc,Em,h1];cases first<;>cases cap<;>simp only[h3,h4]
     ·exact h.elim
    ·exact h.elim
   ·rename_i h4;split at h
    ·rename_i h5;split at h
     ·split at h
      ·split at h
       ·exact .inl ⟨_,by simp only[cT,hc,Em,h1,h2,h3,h4,h5],h⟩
       ·exact h.elim
      ·exact h.elim
     ·exact h.elim
    ·exact h.elim
  ·exact h.elim
 ·rename_i id;obtain⟨as,h2,h⟩:=oB h;exact .inr ⟨by simp only[cT,hc,Em,h1],_,_,by simp only[nL,hc,h1,h2],h⟩
 ·exact h.elim
def CU(cl:Bool)(P:Program)(Γ:List (Nat × AV))(H:Hk)(sl:List (Nat × AV))(mem:aS)(nx:Nat)(op:Op)(K:AV->aS->Nat->Prop)(Kp:Value->aS->Nat->Prop):Prop:=
 match op with
 | .call c=>match c.callee with
  | .value f=>LZ P Γ sl f c.args.toList (fun v=>K v mem nx) fun F l=>H.call F l mem nx K Kp
  | _=>oU cl P Γ sl mem nx op K
 | _=>oU cl P Γ sl mem nx op K
theorem y8{cl:Bool}{P:Program}{Γ:List (Nat × AV)}{H:Hk}{s:St}{op:Op}{K:AV->aS->Nat->Prop}{Kp:Value->aS->Nat->Prop}(h:CU cl P Γ H s.sl s.mem s.nx op K Kp) :
  (∃v m n,cT P Γ s op=some (v,m,n)/\K v m n)∨(cT P Γ s op=none/\∃F l,nL P Γ s op=some (F,l)/\H.call F l s.mem s.nx K Kp):=by
 unfold CU at h;split at h
 ·split at h
  ·rename_i f hc;rcases NT hc h with⟨v,h1,h⟩|h
   ·exact .inl ⟨_,_,_,h1,h⟩
   ·exact .inr h
  ·exact .inl (jO h)
 ·exact .inl (jO h)
def Fx(cl:Bool)(P:Program)(Γ:List (Nat × AV))(H:Hk)(sl:List (Nat × AV))(mem:aS)(nx:Nat)(op:Op)(K:AV->aS->Nat->Prop)(Kp:Value->aS->Nat->Prop):Prop:=
 match op with
 | .panic x=>lM Γ sl x fun v=>opt (quo v) fun y=>Kp y mem nx
 | op=>CU cl P Γ H sl mem nx op K Kp
theorem IZ{cl:Bool}{P:Program}{Γ:List (Nat × AV)}{H:Hk}{s:St}{op:Op}{K:AV->aS->Nat->Prop}{Kp:Value->aS->Nat->Prop}(h:Fx cl P Γ H s.sl s.mem s.nx op K Kp) :
  (∃v m n,cT P Γ s op=some (v,m,n)/\K v m n)∨(cT P Γ s op=none/\∃F l,nL P Γ s op=some (F,l)/\H.call F l s.mem s.nx K Kp) ∨
   (cT P Γ s op=none/\nL P Γ s op=none/\∃y,HL Γ s op=some y/\Kp y s.mem s.nx):=by
 unfold Fx at h;split at h
 ·obtain⟨v,h1,h⟩:=cE h;obtain⟨y,h2,h⟩:=cD.1 h;exact .inr (.inr ⟨rfl,rfl,y,by simp only[HL,h1,h2],h⟩)
 ·rcases y8 h with h|h
  ·exact .inl h
  ·exact .inr (.inl h)
def LL(cl:Bool)(P:Program)(Γ:List (Nat × AV))(H:Hk)(ops:List Oper):List Oper->St->(St->Prop)->(Value->St->Prop)->Prop
 | [],s,K,_=>K s
 | o::r,s,K,Kp=>CJ s fun sl mem nx nt=>rC ops sl o.guard
   (Fx cl P Γ H sl mem nx o.op (fun v mem nx=>kO s o.dst v mem nx fun s'=>LL cl P Γ H ops r s' K Kp) fun x mem nx=>Kp x ⟨sl,mem,nx,nt⟩)
   (kO s o.dst (.tup []) mem nx fun s'=>LL cl P Γ H ops r s' K Kp)
theorem D8{cl:Bool}{P:Program}{Γ:List (Nat × AV)}{H:Hk}{B:Nat}(hH:yK P Γ B H)(ops:List Oper):∀(l:List Oper) (s:St) (K K':St->Prop) (Kp Kp':Value->St->Prop),(∀s,K s->K' s)->(∀x s,Kp x s->Kp' x s)->LL cl P Γ H ops l s K Kp->uL P Γ (ES P Γ B) ops l s K' Kp'
 | [],s,K,K',Kp,Kp',hk,hp,h=>hk s h
 | o::r,s,K,K',Kp,Kp',hk,hp,h=>by
  simp only[LL] at h;simp only[uL];have h:=kZ.1 h;rcases rA h with⟨h1,h⟩|⟨h1,h⟩
  ·simp only[h1];rcases IZ h with⟨v,m,n,h2,h⟩|⟨h2,F,l,h3,h⟩|⟨h2,h3,y,h4,h⟩
   ·obtain⟨s',h4,h⟩:=d8 h;simp only[h2,h4];exact D8 hH ops r s' K K' Kp Kp' hk hp h
   ·simp only[h2,h3];refine(hH.call _ _ _ _ _ _ h).mono (fun v m n h=>?_) fun x m n h=>hp _ _ h
    obtain⟨s',h4,h⟩:=d8 h;simp only[h4];exact D8 hH ops r s' K K' Kp Kp' hk hp h
   ·simp only[h2,h3,h4];exact hp _ _ h
  ·obtain⟨s',h4,h⟩:=d8 h;simp only[h1,h4];exact D8 hH ops r s' K K' Kp Kp' hk hp h
def fT(f:Nat × AB->Bool):aS->(aS->Prop)->Prop
 | [],K=>K []
 | p::r,K=>match f p with
  | true=>fT f r fun l=>K (p::l)
  | false=>fT f r K
theorem cG{f:Nat × AB->Bool}:∀{m:aS} {K:aS->Prop},fT f m K↔K (m.filter f)
 | [],K=>Iff.rfl
 | p::r,K=>by
  simp only[fT,T4];cases f p
  ·simpa using cG
  ·simpa using cG
def q9(cl:Bool)(P:Program)(Γ:List (Nat × AV))(ops:List Oper)(tr:List (List Nat))(base x:Nat)(mem:aS)(nx:Nat):List yV->Prop->Prop
 | [],K=>K
 | r::rs,K=>match v6 r.i (T tr x) with
  | true=>q9 cl P Γ ops tr base x mem nx rs K
  | false=>match r.want with
   | false=>q9 cl P Γ ops tr base x mem nx rs K
   | true=>match ops[r.i]? with
    | none=>q9 cl P Γ ops tr base x mem nx rs K
    | some o=>match kind P o.op with
     | .pure=>match still o.op with
      | true=>q9 cl P Γ ops tr base x mem nx rs K
      | false=>fT (fun p=>GZ tr base ops.length r.i p.1) mem fun m=>oU cl P Γ r.sl m nx o.op fun v _ _=>match cl with
       | true=>oH (lI v r.v) (q9 cl P Γ ops tr base x mem nx rs K)
       | false=>v=r.v/\q9 cl P Γ ops tr base x mem nx rs K
     | _=>q9 cl P Γ ops tr base x mem nx rs K
theorem mT{cl:Bool}{P:Program}{Γ:List (Nat × AV)}{ops:List Oper}{tr:List (List Nat)}{base x:Nat}{s:St}:∀{recs:List yV} {K:Prop},q9 cl P Γ ops tr base x s.mem s.nx recs K->OB P Γ ops tr base x s recs/\K
 | [],K,h=>⟨trivial,h⟩
 | r::rs,K,h=>by
  simp only[q9] at h;simp only[OB];split at h
  ·rename_i h1;obtain⟨h2,h3⟩:=mT h;exact⟨⟨fun e=>(by rw[h1] at e;cases e),h2⟩,h3⟩
  ·split at h
   ·rename_i h1;obtain⟨h2,h3⟩:=mT h;exact⟨⟨fun _ e=>(by rw[h1] at e;cases e),h2⟩,h3⟩
   ·split at h
    ·rename_i h1;obtain⟨h2,h3⟩:=mT h;exact⟨⟨fun _ _ o e=>(by rw[h1] at e;cases e),h2⟩,h3⟩
    ·rename_i o ho;split at h
     ·split at h
      ·rename_i h1;obtain⟨h2,h3⟩:=mT h;refine⟨⟨fun _ _ o' e _ e'=>?_,h2⟩,h3⟩;rw[ho] at e;cases e;rw[h1] at e';cases e'
      ·have h:=cG.1 h;obtain⟨v,m,n,h1,h⟩:=jO (s:={ sl:=r.sl,mem:=iR tr base ops.length r.i s.mem,nx:=s.nx,nt:=s.nt }) h;have key:v=r.v/\q9 cl P Γ ops tr base x s.mem s.nx rs K:=by
        cases cl
        ·exact h
        ·obtain⟨h2,h3⟩:=bZ.1 h;exact⟨xW h2,h3⟩
       obtain⟨h2,h3⟩:=mT key.2;refine⟨⟨fun _ _ o' e _ _=>?_,h2⟩,h3⟩;rw[ho] at e;cases e;exact⟨m,n,by rw[←key.1];exact h1⟩
     ·rename_i hk;obtain⟨h2,h3⟩:=mT h;refine⟨⟨fun _ _ o' e e'=>?_,h2⟩,h3⟩;rw[ho] at e;cases e;exact(hk e').elim
def vB(cl:Bool)(P:Program)(Γ:List (Nat × AV))(H:Hk)(ops:List Oper)(tr:List (List Nat))(base:Nat)(K:St->Prop)(Kp:Value->aS->Nat->Prop):List Nat->List yV->St->Prop
 | [],recs,s=>K s
 | i::r,recs,s=>match ops[i]? with
  | none=>False
  | some o=>CJ s fun sl mem nx nt=>rC ops sl o.guard
   (match kind P o.op with
    | .pure=>match still o.op with
     | true=>oU cl P Γ sl [] nx o.op fun v _ _=>kO s o.dst v mem nx fun s'=>vB cl P Γ H ops tr base K Kp r (⟨i,sl,true,v⟩::recs) s'
     | false=>fT (fun p=>GZ tr base ops.length i p.1) mem fun m=>oU cl P Γ sl m nx o.op fun v _ _=>kO s o.dst v mem nx fun s'=>vB cl P Γ H ops tr base K Kp r (⟨i,sl,true,v⟩::recs) s'
    | .al=>nQ (base+i) fun id=>oU cl P Γ sl [] id o.op fun v m _=>match m with
     | [(_,b)]=>kO s o.dst v ((id,b)::mem) nx fun s'=>vB cl P Γ H ops tr base K Kp r (⟨i,sl,true,v⟩::recs) s'
     | _=>False
    | .eff=>fT (fun p=>GZ tr base ops.length i p.1) mem fun m=>CU cl P Γ H sl m nx o.op (fun v m nx'=>fT (fun p=>!GZ tr base ops.length i p.1) mem fun rest=>fT (fun p=>!p7 p.1 m) rest fun rest=>AQ m rest fun m=>
      kO s o.dst v m nx' fun s'=>q9 cl P Γ ops tr base i m nx' recs (vB cl P Γ H ops tr base K Kp r recs s')) Kp)
   (kO s o.dst (.tup []) mem nx fun s'=>vB cl P Γ H ops tr base K Kp r (⟨i,sl,false,.tup []⟩::recs) s')
theorem qJ{cl:Bool}{P:Program}{Γ:List (Nat × AV)}{H:Hk}{B:Nat}(hH:yK P Γ B H)(ops:List Oper)(tr:List (List Nat))(base:Nat)(K K':St->Prop)(Kp Kp':Value->aS->Nat->Prop)(hk:∀s,K s->K' s)(hp:∀x m n,Kp x m n->Kp' x m n) :
  ∀(l:List Nat) (recs:List yV) (s:St),vB cl P Γ H ops tr base K Kp l recs s->oJ P Γ (ES P Γ B) ops tr base K' Kp' l recs s
 | [],recs,s,h=>hk s h
 | i::r,recs,s,h=>by
  simp only[vB] at h;simp only[oJ];split at h
  ·exact h.elim
  ·rename_i o ho;simp only[ho];have h:=kZ.1 h;rcases rA h with⟨h1,h⟩|⟨h1,h⟩
   ·simp only[h1];split at h
    ·rename_i hkd;simp only[hkd];split at h
     ·rename_i hst;obtain⟨v,m,n,h2,h⟩:=jO (s:={ sl:=s.sl,mem:=[],nx:=s.nx,nt:=s.nt }) h;obtain⟨m',n',h2'⟩:=oN (s:={ sl:=s.sl,mem:=[],nx:=s.nx,nt:=s.nt }) (s':={ s with mem:=iR tr base ops.length i s.mem }) hst rfl h2;obtain⟨s',h3,h⟩:=d8 h;simp only[h2',h3];exact qJ hH ops tr base K K' Kp Kp' hk hp r _ s' h
     ·have h:=cG.1 h;obtain⟨v,m,n,h2,h⟩:=jO (s:={ s with mem:=iR tr base ops.length i s.mem }) h;obtain⟨s',h3,h⟩:=d8 h;simp only[h2,h3];exact qJ hH ops tr base K K' Kp Kp' hk hp r _ s' h
    ·rename_i hkd;simp only[hkd];have h:=dV.1 h;obtain⟨v,m,n,h2,h⟩:=jO (s:={ s with mem:=[],nx:=base+i }) h;simp only[h2];split at h
     ·obtain⟨s',h3,h⟩:=d8 h;simp only[h3];exact qJ hH ops tr base K K' Kp Kp' hk hp r _ s' h
     ·exact h.elim
    ·rename_i hkd;simp only[hkd];have h:=cG.1 h;rcases y8 (s:={ s with mem:=iR tr base ops.length i s.mem }) h with⟨v,m,n,h2,h⟩|⟨h2,F,l,h3,h⟩
     ·simp only[h2];have h:=gP.1 (cG.1 (cG.1 h));obtain⟨s',h3,h⟩:=d8 h;have h3:eI s o.dst v (m++oW m (fG tr base ops.length i s.mem)) n=some s':=h3;simp only[h3];obtain⟨e1,e2,_⟩:=fH h3;have h:q9 cl P Γ ops tr base i (m++oW m (fG tr base ops.length i s.mem)) n recs (vB cl P Γ H ops tr base K Kp r recs s'):=h;rw[←e1,←e2] at h;obtain⟨h4,h⟩:=mT h;exact⟨h4,qJ hH ops tr base K K' Kp Kp' hk hp r _ s' h⟩
     ·rw[oQ (s':=s) (fun x _=>by cases x<;>rfl)] at h3;simp only[h2,h3];refine(hH.call _ _ _ _ _ _ h).mono (fun v m n h=>?_) hp;have h:=gP.1 (cG.1 (cG.1 h));obtain⟨s',h3,h⟩:=d8 h;have h3:eI s o.dst v (m++oW m (fG tr base ops.length i s.mem)) n=some s':=h3;simp only[h3];obtain⟨e1,e2,_⟩:=fH h3;have h:q9 cl P Γ ops tr base i (m++oW m (fG tr base ops.length i s.mem)) n recs (vB cl P Γ H ops tr base K Kp r recs s'):=h;rw[←e1,←e2] at h;obtain⟨h4,h⟩:=mT h;exact⟨h4,qJ hH ops tr base K K' Kp Kp' hk hp r _ s' h⟩
   ·obtain⟨s',h3,h⟩:=d8 h;simp only[h1,h3];exact qJ hH ops tr base K K' Kp Kp' hk hp r _ s' h
def P0(sl:List (Nat × AV))(id nt:Nat)(m:aS)(n:Nat)(Q:Exit->St->Prop):Prop:=
 opt (lk m id) fun b=>match b with
  | .loop _ _ _ _ _ st pd=>match st with
   | .busy=>False
   | _=>fT (fun p=>!Nat.beq p.1 id) m fun m=>match pd with
    | none=>Q .normal ⟨sl,m,n,nt⟩
    | some .ret=>Q .ret ⟨sl,m,n,nt⟩
    | some (.exit i)=>Q (.exit i) ⟨sl,m,n,nt⟩
    | some _=>False
  | _=>False
theorem Ob{s:St}{m:aS}{n:Nat}{Q:Exit->St->Prop}(h:P0 s.sl s.nx s.nt m n Q):EU s Q m n:=by
 obtain⟨b,h1,h⟩:=cD.1 h;unfold EU;simp only[h1];cases b with
 | loop sl nt ps ca cb st pd=>
  cases st<;>first|exact h.elim|(simp only at h ⊢;have h:=cG.1 h;exact h)
 | _=>exact h.elim
theorem EU.mono{s:St}{m:aS}{n:Nat}{Q Q':Exit->St->Prop}(hq:∀e s,Q e s->Q' e s)(h:EU s Q m n):EU s Q' m n:=by
 unfold EU at h ⊢;split at h
 ·split at h
  ·exact h
  ·split at h
   ·exact hq _ _ h
   ·exact hq _ _ h
   ·exact hq _ _ h
   ·exact h
 ·exact h
def zZ(cl:Bool)(P:Program)(Γ:List (Nat × AV))(H:Hk):Code->St->(Exit->St->Prop)->Prop
 | .skip,s,Q=>Q .normal s
 | .seq x y,s,Q=>zZ cl P Γ H x s fun e s'=>match e with
  | .normal=>zZ cl P Γ H y s' Q
  | e=>Q e s'
 | .cond c x y,s,Q=>CJ s fun sl _ _ _=>lM Γ sl c fun v=>match v with
  | .bool b=>MB b (zZ cl P Γ H x s Q) (zZ cl P Γ H y s Q)
  | _=>False
 | .block id c,s,Q=>zZ cl P Γ H c s fun e s'=>match e with
  | .exit i=>match Nat.beq i id with
   | true=>Q .normal s'
   | false=>Q (.exit i) s'
  | e=>Q e s'
 | .loop c,s,Q=>H.loop c s Q
 | .label _,s,Q=>Q .normal s
 | .scope c,s,Q=>zZ cl P Γ H c s fun e s'=>match e with
  | .goto _=>False
  | e=>Q e s'
 | .exit i,s,Q=>Q (.exit i) s
 | .ret,s,Q=>Q .ret s
 | .region _ ops draw,s,Q=>match draw with
  | false=>LL cl P Γ H ops.toList ops.toList s (fun s'=>Q .normal s') fun x s'=>Q (.panic [pe x]) s'
  | true=>match P.follows .mixedOrders with
   | true=>match yX P ops.toList (sS P ops.toList ops.toList.length [] (vQ ops.toList.length)) with
    | true=>CJ s fun sl mem nx nt=>nQ (nx+ops.toList.length) fun n=>x7 (sS P ops.toList ops.toList.length [] (vQ ops.toList.length)) fun ord=>vB cl P Γ H ops.toList (Id ops.toList []) nx (fun s'=>Q .normal s') (fun x m n=>Q (.panic [pe x]) ⟨sD ops.toList sl,m,n,nt⟩) ord [] ⟨sl,mem,n,nt⟩
    | false=>False
   | false=>False
 | .rangeFunc g ps ca cb,s,Q=>CJ s fun sl mem nx nt=>lM Γ sl g fun v=>match v with
  | .fn (.func G) first cap=>match P.funcs[G]? with
   | some fn=>match fn.body with
    | some _=>match fn.name == "runtime.NumGoroutine" with
     | false=>match Nat.beq G YF with
      | false=>nQ (nx+1) fun n=>AQ first (.yld nx::cap) fun l=>H.call G l ((nx,.loop sl nt ps ca cb .ready none)::mem) n (fun _ m n=>P0 sl nx nt m n Q) fun x m n=>Q (.panic [pe x]) ⟨sl,m,n,nt⟩
      | true=>False
     | true=>False
    | none=>False
   | none=>False
  | _=>False
 | _,_,_=>False
theorem Q0{cl:Bool}{P:Program}{Γ:List (Nat × AV)}{H:Hk}{B:Nat}(hH:yK P Γ B H):∀(c:Code) (s:St) (Q Q':Exit->St->Prop),(∀e s,Q e s->Q' e s)->zZ cl P Γ H c s Q->B6 P Γ (ES P Γ B) c s Q':=by
 intro c
 induction c with
 | skip=>exact fun s Q Q' hq h=>hq _ _ h
 | label l=>exact fun s Q Q' hq h=>hq _ _ h
 | scope c ih=>
  intro s Q Q' hq h;simp only[zZ] at h;simp only[B6];refine ih s _ _ (fun e s' h=>?_) h;cases e with
  | goto l=>exact h
  | normal=>exact hq _ _ h
  | exit i=>exact hq _ _ h
  | ret=>exact hq _ _ h
  | panic c=>exact hq _ _ h
  | outgrown=>exact hq _ _ h
 | exit i=>exact fun s Q Q' hq h=>hq _ _ h
 | ret=>exact fun s Q Q' hq h=>hq _ _ h
 | loop c ih=>exact fun s Q Q' hq h=>(hH.loop c s Q h).mono hq
 | seq x y ihx ihy=>
  intro s Q Q' hq h;simp only[zZ] at h;simp only[B6];refine ihx s _ _ (fun e s' h=>?_) h;cases e with
  | normal=>exact ihy s' Q Q' hq h
  | exit i=>exact hq _ _ h
  | goto l=>exact hq _ _ h
  | ret=>exact hq _ _ h
  | panic c=>exact hq _ _ h
  | outgrown=>exact hq _ _ h
 | cond c x y ihx ihy=>
  intro s Q Q' hq h;simp only[zZ] at h;simp only[B6];have h:=kZ.1 h;obtain⟨v,h1,h⟩:=cE h;simp only[h1];split at h
  ·rename_i b;cases b
   ·exact ihy s Q Q' hq h
   ·exact ihx s Q Q' hq h
  ·exact h.elim
 | block id c ih=>
  intro s Q Q' hq h;simp only[zZ] at h;simp only[B6];refine ih s _ _ (fun e s' h=>?_) h;cases e with
  | exit i=>
   simp only at h ⊢;split at h
   ·rename_i e;simp only[e];exact hq _ _ h
   ·rename_i e;simp only[e];exact hq _ _ h
  | normal=>exact hq _ _ h
  | goto l=>exact hq _ _ h
  | ret=>exact hq _ _ h
  | panic c=>exact hq _ _ h
  | outgrown=>exact hq _ _ h
 | region id ops draw=>
  intro s Q Q' hq h;cases draw with
  | false=>
   simp only[zZ] at h;simp only[B6];exact D8 hH _ _ _ _ _ _ _ (fun s h=>hq _ _ h) (fun x s h=>hq _ _ h) h
  | true=>
   simp only[zZ] at h;simp only[B6];split at h
   ·rename_i hmix;simp only[hmix];split at h
    ·rename_i hok;simp only[DI,hok];exact qJ hH _ _ _ _ _ _ _ (fun s h=>hq _ _ h) (fun x m n h=>hq _ _ h) _ _ _ (lS.1 (dV.1 (kZ.1 h)))
    ·exact h.elim
   ·exact h.elim
 | rangeFunc g ps ca cb=>
  intro s Q Q' hq h;simp only[zZ] at h;obtain⟨v,h1,h⟩:=cE (s:=s) (kZ.1 h);simp only[B6,h1];split at h<;>first|exact h.elim|skip
  split at h<;>first|exact h.elim|skip
  rename_i fn hf;split at h<;>first|exact h.elim|skip
  rename_i c0 hb;split at h<;>first|exact h.elim|skip
  rename_i hn;split at h<;>first|exact h.elim|skip
  rename_i hG;simp only[hf,hb,hn,hG];exact(hH.call _ _ _ _ _ _ (gP.1 (dV.1 h))).mono (fun _ m n h=>(Ob h).mono hq) fun x m n h=>hq _ _ h
 | _=>intro s Q Q' hq h;simp only[zZ] at h
theorem fB{cl:Bool}{P:Program}{Γ:List (Nat × AV)}{H:Hk}{B:Nat}(hH:yK P Γ B H)(c:Code)(s:St)(Q:Exit->St->Prop)(h:zZ cl P Γ H c s Q):eA P Γ B c s Q:=
 pQ Dy c s Q (Q0 hH c s Q Q (fun _ _ h=>h) h)
def IC:Nat->List AV->(List (Nat × AV)->Prop)->Prop
 | _,[],K=>K []
 | k,a::r,K=>nQ k fun k=>IC (k+1) r fun l=>K ((k,a)::l)
theorem Cj:∀{k:Nat} {l:List AV} {K:List (Nat × AV)->Prop},IC k l K↔K (Fv k l)
 | k,[],K=>Iff.rfl
 | k,a::r,K=>by simp only[IC,Fv,dV,Cj]
def vX(ntmps:Nat)(args:List AV)(mem:aS)(nx:Nat)(K:St->Prop):Prop:=
 IC 0 args fun sl=>oH (Nat.ble args.length ntmps) (nQ ntmps fun nt=>K ⟨sl,mem,nx,nt⟩)
theorem lO{ntmps:Nat}{args:List AV}{mem:aS}{nx:Nat}{K:St->Prop}(h:vX ntmps args mem nx K):K (enter ntmps args mem nx):=by
 obtain⟨h1,h⟩:=bZ.1 (Cj.1 h);have h:=dV.1 h;have h1:=Ry h1;have e:enter ntmps args mem nx=⟨Fv 0 args,mem,nx,ntmps⟩:=by simp only[enter];congr 1;omega
 rw[e];exact h
def H1(P:Program)(s:St):List ResultVar->(List AV->Prop)->Prop
 | [],K=>K []
 | .tmp t::r,K=>opt (lk s.sl t) fun v=>H1 P s r fun l=>K (v::l)
 | .cell a t::r,K=>opt (lk s.sl a) fun p=>Hr P s.mem t p fun v=>H1 P s r fun l=>K (v::l)
theorem EE{P:Program}{s:St}:∀{rs:List ResultVar} {K:List AV->Prop},H1 P s rs K->∃l,u7 P s rs=some l/\K l
 | [],K,h=>⟨[],rfl,h⟩
 | .tmp t::r,K,h=>by
  obtain⟨v,h1,h⟩:=cD.1 h;obtain⟨l,h2,h⟩:=EE h;exact⟨_,by simp only[u7,h1,h2],h⟩
 | .cell a t::r,K,h=>by
  obtain⟨p,h1,h⟩:=cD.1 h;obtain⟨v,h2,h⟩:=Iq h;obtain⟨l,h3,h⟩:=EE h;exact⟨_,by simp only[u7,h1,h2,h3],h⟩
def EC(P:Program)(rs:List ResultVar)(s:St)(K:AV->Prop):Prop:=
 H1 P s rs fun l=>match l with
  | [v]=>K v
  | []=>K (.tup [])
  | a::b::r=>K (.tup (a::b::r))
theorem Dw{P:Program}{rs:List ResultVar}{s:St}{K:AV->Prop}(h:EC P rs s K):∃v,xB P rs s=some v/\K v:=by
 obtain⟨l,h1,h⟩:=EE h;unfold xB;rw[h1]
 match l,h with
 | [v],h=>exact⟨_,rfl,h⟩
 | [],h=>exact⟨_,rfl,h⟩
 | a::b::r,h=>exact⟨_,rfl,h⟩
def PZ(P:Program)(rs:List ResultVar)(Q:AV->aS->Nat->Prop):Exit->St->Prop:=fun e s=>
 match e with
 | .normal=>CJ s fun _ mem nx _=>EC P rs s fun r=>Q r mem nx
 | .ret=>CJ s fun _ mem nx _=>EC P rs s fun r=>Q r mem nx
 | _=>False
theorem KA{P:Program}{rs:List ResultVar}{Q:AV->aS->Nat->Prop}{e:Exit}{s:St}(h:PZ P rs Q e s):I6 P rs Q e s:=by
 cases e with
 | normal=>
  obtain⟨v,h1,h⟩:=Dw (show EC P rs s _ from h);simp only[I6,h1];exact h
 | ret=>
  obtain⟨v,h1,h⟩:=Dw (show EC P rs s _ from h);simp only[I6,h1];exact h
 | _=>exact(show False from h).elim
theorem fQ{P:Program}{Γ:List (Nat × AV)}{F:FuncId}{fn:Func}{c:Code}{args:List AV}{mem:aS}{nx:Nat}{Q:AV->aS->Nat->Prop}(hΓ:∀p∈Γ,NN p.2)(hf:P.funcs[F]? = some fn)(hb:fn.body=some c)
  (h:vX fn.ntmps args mem nx fun s=>zZ false P Γ (Ci P Γ nx) c s (PZ P fn.results.toList (lE nx Q))) (hF:Nat.beq F YF=false:=by rfl):aM P Γ F args mem nx Q:=
 (u5 hf hb ((fB qK _ _ _ (lO h)).mono fun _ _ h=>KA h) hF).turn hΓ
def H9(P:Program)(rs:List ResultVar)(Q:AV->aS->Nat->Prop)(Qp:Value->aS->Nat->Prop):Exit->St->Prop:=fun e s=>
 match e with
 | .normal=>CJ s fun _ mem nx _=>EC P rs s fun r=>Q r mem nx
 | .ret=>CJ s fun _ mem nx _=>EC P rs s fun r=>Q r mem nx
 | .panic [⟨x,false,false⟩]=>CJ s fun _ mem nx _=>Qp x mem nx
 | _=>False
theorem H4{P:Program}{rs:List ResultVar}{Q:AV->aS->Nat->Prop}{Qp:Value->aS->Nat->Prop}{e:Exit}{s:St}(h:H9 P rs Q Qp e s):A9 P rs Q Qp e s:=by
 cases e with
 | normal=>
  obtain⟨v,h1,h⟩:=Dw (show EC P rs s _ from h);simp only[A9,h1];exact h
 | ret=>
  obtain⟨v,h1,h⟩:=Dw (show EC P rs s _ from h);simp only[A9,h1];exact h
 | panic ch=>
  unfold H9 at h;split at h
  ·rename_i e;cases e
  ·rename_i e;cases e
  ·rename_i e;cases e;exact h
  ·exact h.elim
 | _=>exact(show False from h).elim
end Go.Ax
