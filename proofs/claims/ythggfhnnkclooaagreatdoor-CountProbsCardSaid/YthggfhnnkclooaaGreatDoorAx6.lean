/- A part of the proof. -/
import Derived.Test.YthggfhnnkclooaaGreatDoorAx5
set_option linter.unusedSectionVars false
set_option linter.unusedVariables false
set_option linter.unusedSimpArgs false
set_option maxRecDepth 1000000
set_option maxHeartbeats 16000000
namespace Go.Ax
open Go
def Pp(cl:Bool)(P:Program)(mem:aR)(t:TypeId)(x y:AV)(K:AV->aR->Prop):Prop:=
 match P.underlying t with
 | some (.slice e)=>match iM P e with
  | some n=>match x with
   | .sl id 0 len=>match lk mem id with
    | some (.row t' sz' xs)=>Qz cl mem n y λys=>p8 (Nat.blt 0 n && (Nat.beq sz' n && (Nat.ble ys.length len && Nat.ble len xs.length)))
      (tW cl (xs.drop ys.length) λzs=>RV cl ys zs λzs=>Ak cl ys.length λl=>Rf mem id (.row t' sz' zs) λm=>K (.int .i64 l) m)
    | _=>False
   | _=>False
  | none=>False
 | _=>False
theorem Qv{cl:Bool}{P:Program}{mem:aR}{t:TypeId}{x y:AV}{K:AV->aR->Prop}(h:Pp cl P mem t x y K):∃v m,ID P mem t x y=some (v,m)/\K v m:=by
 unfold Pp at h;unfold ID;split at h
 .rename_i e hu;simp only[hu];split at h
  .rename_i n hn;simp only[hn];split at h
   .split at h
    .rename_i hid;obtain⟨ys,h4,h⟩:=PG h;obtain⟨h5,h⟩:=cJ.1 h;rw[Y6] at h5;exact⟨_,_,by simp only[h5.1,hid,h4,h5.2],sO.1 (jA.1 (Ih.1 (jK.1 h)))⟩
    .exact h.elim
   .exact h.elim
  .exact h.elim
 .exact h.elim
def Kq(P:Program)(mem:aR)(t:TypeId)(x:AV)(K:aR->Prop):Prop:=
 match P.underlying t with
 | some (.slice e)=>match oI P e with
  | some z=>match x with
   | .sl id off len=>match lk mem id with
    | some (.row t' sz xs)=>p8 (lM z && (Nat.beq z.cells.length sz && (Nat.blt 0 sz && (Nat.blt 0 len && Nat.ble (off+len) xs.length))))
      (Rf mem id (.row t' sz (xs.take off++(List.replicate len z++xs.drop (off+len)))) λm=>K m)
    | _=>False
   | _=>False
  | none=>False
 | _=>False
theorem Oc{P:Program}{mem:aR}{t:TypeId}{x:AV}{K:aR->Prop}(h:Kq P mem t x K):∃m,D6 P mem t x=some m/\K m:=by
 unfold Kq at h;unfold D6;split at h
 .rename_i e hu;simp only[hu];split at h
  .rename_i z hz;simp only[hz];split at h
   .split at h
    .rename_i hid;obtain⟨h5,h⟩:=cJ.1 h;exact⟨_,by simp only[hid,h5],sO.1 h⟩
    .exact h.elim
   .exact h.elim
  .exact h.elim
 .exact h.elim
def C7(cl:Bool)(P:Program)(C:List (Nat × AV))(sl:List (Nat × AV))(mem:aR)(nx:Nat)(b:Builtin)(args:List Operand)(ts:List TypeId)(K:AV->aR->Nat->Prop):Prop:=
 match b with
 | .len=>match args,ts with
  | [x],[t]=>mL C sl x λa=>opt (SH P mem t a) λv=>match v with
   | .int k n=>sV cl k n λv=>K v mem nx
   | _=>False
  | _,_=>False
 | .append=>match args,ts with
  | [x,y],[t,u]=>mL C sl x λa=>mL C sl y λb=>G6 cl P mem nx t u a b K
  | _,_=>False
 | .min=>Im C sl args λl=>match l with
  | .int k x::r=>opt (MO x r) λm=>sV cl k m λv=>K v mem nx
  | _=>False
 | .max=>Im C sl args λl=>match l with
  | .int k x::r=>opt (NT x r) λm=>sV cl k m λv=>K v mem nx
  | _=>False
 | .unsafeSliceData=>match args,ts with
  | [x],[_]=>mL C sl x λa=>opt (tK a) λv=>K v mem nx
  | _,_=>False
 | .unsafeString=>match args,ts with
  | [x,y],[t,_]=>mL C sl x λa=>mL C sl y λb=>match rS P mem t a b with
   | some (.str l,m)=>tW cl l λl=>Ck m λm=>K (.str l) m nx
   | _=>False
  | _,_=>False
 | .copy=>match args,ts with
  | [x,y],[t,_]=>mL C sl x λa=>mL C sl y λb=>Pp cl P mem t a b λv m=>K v m nx
  | _,_=>False
 | .clear=>match args,ts with
  | [x],[t]=>mL C sl x λa=>Kq P mem t a λm=>K (.tup []) m nx
  | _,_=>False
 | _=>False
theorem KN{cl:Bool}{P:Program}{C:List (Nat × AV)}{s:St}{b:Builtin}{args:List Operand}{ts:List TypeId}{K:AV->aR->Nat->Prop}(h:C7 cl P C s.sl s.mem s.nx b args ts K) :
  ∃v m n,fD P C s b args ts=some (v,m,n)/\K v m n:=by
 unfold C7 at h;split at h
 .split at h
  .obtain⟨a,h1,h⟩:=cL h;obtain⟨v,h2,h⟩:=cR.1 h;split at h
   .exact⟨_,_,_,by simp only[fD,h1,h2,bT],n8.1 h⟩
   .exact h.elim
  .exact h.elim
 .split at h
  .obtain⟨a,h1,h⟩:=cL h;obtain⟨b,h2,h⟩:=cL h;obtain⟨v,m,n,h3,h⟩:=Nf h;exact⟨_,_,_,by simp only[fD,h1,h2];exact h3,h⟩
  .exact h.elim
 .obtain⟨l,h1,h⟩:=pR h;split at h
  .obtain⟨m,h2,h⟩:=cR.1 h;exact⟨_,_,_,by simp only[fD,h1,h2],n8.1 h⟩
  .exact h.elim
 .obtain⟨l,h1,h⟩:=pR h;split at h
  .obtain⟨m,h2,h⟩:=cR.1 h;exact⟨_,_,_,by simp only[fD,h1,h2],n8.1 h⟩
  .exact h.elim
 .split at h
  .obtain⟨a,h1,h⟩:=cL h;obtain⟨v,h2,h⟩:=cR.1 h;exact⟨_,_,_,by simp only[fD,h1,h2,bT],h⟩
  .exact h.elim
 .split at h
  .obtain⟨a,h1,h⟩:=cL h;obtain⟨b,h2,h⟩:=cL h;split at h
   .rename_i l m h3;exact⟨_,_,_,by simp only[fD,h1,h2,h3],yH.1 (jK.1 h)⟩
   .exact h.elim
  .exact h.elim
 .split at h
  .obtain⟨a,h1,h⟩:=cL h;obtain⟨b,h2,h⟩:=cL h;obtain⟨v,m,h3,h⟩:=Qv h;exact⟨_,_,_,by simp only[fD,h1,h2,h3],h⟩
  .exact h.elim
 .split at h
  .obtain⟨a,h1,h⟩:=cL h;obtain⟨m,h3,h⟩:=Oc h;exact⟨_,_,_,by simp only[fD,h1,h3],h⟩
  .exact h.elim
 .exact h.elim
def qD(cl:Bool)(P:Program)(C:List (Nat × AV))(sl:List (Nat × AV))(mem:aR)(nx:Nat)(op:Op)(K:AV->aR->Nat->Prop):Prop:=
 match op with
 | .move x=>mL C sl x λv=>K v mem nx
 | .assign x=>mL C sl x λv=>K v mem nx
 | .pick c a b=>mL C sl c λc=>match c with
  | .bool c=>Qc c (mL C sl a λv=>K v mem nx) (mL C sl b λv=>K v mem nx)
  | _=>False
 | .alloc t=>KW P mem nx t K
 | .box t x=>mL C sl x λv=>Wx P mem nx t v K
 | .build t parts=>Ap C sl parts.toList λps=>Ji P t ps λv=>K v mem nx
 | .buildSlice t len parts=>Ap C sl parts.toList λps=>vV P mem nx t len ps K
 | .load t x=>mL C sl x λp=>Lu P mem t p λv=>K v mem nx
 | .store t x y=>mL C sl x λp=>mL C sl y λv=>Kg P mem t p v λm=>K (.tup []) m nx
 | .nilCheck x=>mL C sl x λp=>opt (Qd p) λv=>K v mem nx
 | .binOp op t x y _=>mL C sl x λa=>mL C sl y λb=>Vi cl P op t x y a b λv=>K v mem nx
 | .unOp op _ x=>mL C sl x λa=>YC cl op a λv=>K v mem nx
 | .convert src dst x=>mL C sl x λa=>match P.underlying dst with
  | some (.slice _)=>BL cl P mem nx src dst a K
  | _=>PQ cl P mem src dst a λv=>K v mem nx
 | .makeInterface t x=>mL C sl x λa=>opt (GV P t a) λv=>K v mem nx
 | .makeFunc fn first cap=>Im C sl first.toList λl1=>Im C sl cap.toList λl2=>K (.fn fn l1 l2) mem nx
 | .makeSlice t l c=>mL C sl l λa=>mL C sl c λb=>DD cl P mem nx t a b K
 | .slice t x lo hi mx=>mL C sl x λa=>Gh C sl lo λl=>Gh C sl hi λh=>Gh C sl mx λm=>match !m.isSome || h.isSome with
  | true=>KX cl P mem t a l h m λv=>K v mem nx
  | false=>False
 | .fieldAddr t x f=>mL C sl x λp=>yF P t f p λv=>K v mem nx
 | .field t x f=>mL C sl x λp=>KA P t f p λv=>K v mem nx
 | .indexAddr t x ix=>mL C sl x λp=>mL C sl ix λi=>yW cl P mem t p i λv=>K v mem nx
 | .index t x ix=>mL C sl x λp=>mL C sl ix λi=>KJ cl P t p i λv=>K v mem nx
 | .extract x i=>mL C sl x λp=>opt (Ao p i) λv=>K v mem nx
 | .typeAssert x _ t ok=>mL C sl x λp=>opt (CS P t ok p) λv=>K v mem nx
 | .makeMap _ reserve=>match reserve with
  | none=>pS (nx+1) λn=>K (.mp nx) ((nx,.mapb [])::mem) n
  | some _=>False
 | .lookup t x ix ok=>mL C sl x λp=>mL C sl ix λi=>opt (Cc P mem t p i ok) λv=>K v mem nx
 | .mapUpdate t x y z=>mL C sl x λp=>mL C sl y λk=>mL C sl z λv=>sA P mem t p k v λm=>K (.tup []) m nx
 | .insert t x y z=>mL C sl x λp=>mL C sl y λk=>mL C sl z λv=>sA P mem t p k v λm=>K (.tup []) m nx
 | .range t x=>mL C sl x λp=>opt (BD P mem nx t p) λr=>match r with
  | (v,m,n)=>pS n λn=>K v m n
 | .entry x=>mL C sl x λp=>opt (GS mem p) λv=>K v mem nx
 | .next x b=>match b with
  | false=>mL C sl x λp=>opt (Lh mem p) λr=>match r with
   | (v,m)=>K v m nx
  | true=>False
 | .call c=>match c.callee with
  | .builtin b=>C7 cl P C sl mem nx b c.args.toList c.argTypes.toList K
  | _=>False
 | _=>False
theorem kT{cl:Bool}{P:Program}{C:List (Nat × AV)}{s:St}{op:Op}{K:AV->aR->Nat->Prop}(h:qD cl P C s.sl s.mem s.nx op K):∃v m n,dE P C s op=some (v,m,n)/\K v m n:=by
 cases op<;>simp only[qD] at h<;>simp only[dE]<;>first|exact h.elim|skip
 case move x=>
  obtain⟨v,h1,h⟩:=cL h;exact⟨_,_,_,by simp only[h1,bT],h⟩
 case assign x=>
  obtain⟨v,h1,h⟩:=cL h;exact⟨_,_,_,by simp only[h1,bT],h⟩
 case pick c x y=>
  obtain⟨v,h1,h⟩:=cL h;split at h
  .rename_i b;cases b
   .obtain⟨v,h2,h⟩:=cL (show mL C s.sl y _ from h);exact⟨_,_,_,by simp only[h1,h2,bT],h⟩
   .obtain⟨v,h2,h⟩:=cL (show mL C s.sl x _ from h);exact⟨_,_,_,by simp only[h1,h2,bT],h⟩
  .exact h.elim
 case alloc t=>exact PX h
 case box t x=>
  obtain⟨v,h1,h⟩:=cL h;simp only[h1];exact Ui h
 case build t parts=>
  obtain⟨v,h1,h⟩:=vO h;obtain⟨v,h2,h⟩:=Pb h;exact⟨_,_,_,by simp only[h1,h2,bT],h⟩
 case buildSlice t len parts=>
  obtain⟨v,h1,h⟩:=vO h;simp only[h1];exact Ef h
 case load t x=>
  obtain⟨v,h1,h⟩:=cL h;obtain⟨v,h2,h⟩:=K6 h;exact⟨_,_,_,by simp only[h1,h2,bT],h⟩
 case store t x y=>
  obtain⟨v,h1,h⟩:=cL h;obtain⟨u,h2,h⟩:=cL h;obtain⟨m,h3,h⟩:=OB h;exact⟨_,_,_,by simp only[h1,h2,h3],h⟩
 case nilCheck x=>
  obtain⟨v,h1,h⟩:=cL h;obtain⟨v,h2,h⟩:=cR.1 h;exact⟨_,_,_,by simp only[h1,h2,bT],h⟩
 case binOp op t x y t'=>
  obtain⟨v,h1,h⟩:=cL h;obtain⟨u,h2,h⟩:=cL h;obtain⟨m,h3,h⟩:=UO h;exact⟨_,_,_,by simp only[h1,h2,h3,bT],h⟩
 case unOp op t x=>
  obtain⟨v,h1,h⟩:=cL h;obtain⟨v,h2,h⟩:=WR h;exact⟨_,_,_,by simp only[h1,h2,bT],h⟩
 case convert src dst x=>
  obtain⟨v,h1,h⟩:=cL h;simp only[h1];split at h
  .rename_i e hu;have hn:D1 P s.mem src dst v=none:=by
    unfold D1;split
    .rfl
    .rw[hu]
   rw[hn];exact JZ h
  .obtain⟨u,h2,h⟩:=SF h;exact⟨_,_,_,by simp only[h2],h⟩
 case makeInterface t x=>
  obtain⟨v,h1,h⟩:=cL h;obtain⟨v,h2,h⟩:=cR.1 h;exact⟨_,_,_,by simp only[h1,h2,bT],h⟩
 case makeFunc fn first cap=>
  obtain⟨v,h1,h⟩:=pR h;obtain⟨v,h2,h⟩:=pR h;exact⟨_,_,_,by simp only[h1,h2],h⟩
 case makeSlice t l c=>
  obtain⟨v,h1,h⟩:=cL h;obtain⟨u,h2,h⟩:=cL h;simp only[h1,h2];exact S6 h
 case slice t x lo hi mx=>
  obtain⟨v,h1,h⟩:=cL h;obtain⟨l,h2,h⟩:=BT h;obtain⟨h',h3,h⟩:=BT h;obtain⟨m,h4,h⟩:=BT h;simp only[h1,h2,h3,h4];split at h
  .rename_i e;obtain⟨u,h5,h⟩:=Oi h;exact⟨_,_,_,by simp only[e,h5,bT],h⟩
  .exact h.elim
 case fieldAddr t x f=>
  obtain⟨v,h1,h⟩:=cL h;obtain⟨v,h2,h⟩:=GT h;exact⟨_,_,_,by simp only[h1,h2,bT],h⟩
 case field t x f=>
  obtain⟨v,h1,h⟩:=cL h;obtain⟨v,h2,h⟩:=QV h;exact⟨_,_,_,by simp only[h1,h2,bT],h⟩
 case indexAddr t x ix=>
  obtain⟨v,h1,h⟩:=cL h;obtain⟨u,h2,h⟩:=cL h;obtain⟨m,h3,h⟩:=Gn h;exact⟨_,_,_,by simp only[h1,h2,h3,bT],h⟩
 case index t x ix=>
  obtain⟨v,h1,h⟩:=cL h;obtain⟨u,h2,h⟩:=cL h;obtain⟨m,h3,h⟩:=Ov h;exact⟨_,_,_,by simp only[h1,h2,h3,bT],h⟩
 case typeAssert x xt t ok=>
  obtain⟨p,h1,h⟩:=cL h;obtain⟨v,h2,h⟩:=cR.1 h;exact⟨_,_,_,by simp only[h1,h2,bT],h⟩
 case extract x i=>
  obtain⟨v,h1,h⟩:=cL h;obtain⟨v,h2,h⟩:=cR.1 h;exact⟨_,_,_,by simp only[h1,h2,bT],h⟩
 case makeMap t r=>
  split at h
  .exact⟨_,_,_,rfl,eE.1 h⟩
  .exact h.elim
 case lookup t x ix ok=>
  obtain⟨v,h1,h⟩:=cL h;obtain⟨u,h2,h⟩:=cL h;obtain⟨m,h3,h⟩:=cR.1 h;exact⟨_,_,_,by simp only[h1,h2,h3,bT],h⟩
 case mapUpdate t x y z=>
  obtain⟨v,h1,h⟩:=cL h;obtain⟨u,h2,h⟩:=cL h;obtain⟨u',h3,h⟩:=cL h;obtain⟨m,h4,h⟩:=AI h;exact⟨_,_,_,by simp only[h1,h2,h3,h4],h⟩
 case range t x=>
  obtain⟨v,h1,h⟩:=cL h;obtain⟨⟨u,m,n⟩,h2,h⟩:=cR.1 h;exact⟨_,_,_,by simp only[h1,h2],eE.1 h⟩
 case entry x=>
  obtain⟨p,h1,h⟩:=cL h;obtain⟨v,h2,h⟩:=cR.1 h;exact⟨_,_,_,by simp only[h1,h2,bT],h⟩
 case next x b=>
  cases b
  .obtain⟨v,h1,h⟩:=cL h;obtain⟨⟨u,m⟩,h2,h⟩:=cR.1 h;exact⟨_,_,_,by simp only[h1,h2],h⟩
  .exact h.elim
 case insert t x y z=>
  obtain⟨v,h1,h⟩:=cL h;obtain⟨u,h2,h⟩:=cL h;obtain⟨u',h3,h⟩:=cL h;obtain⟨m,h4,h⟩:=AI h;exact⟨_,_,_,by simp only[h1,h2,h3,h4],h⟩
 case call c=>
  split at h
  .rename_i hb;simp only[hb];exact KN h
  .exact h.elim
def GI(s:St)(K:List (Nat × AV)->aR->Nat->Nat->Prop):Prop:=
 match s with
 | ⟨sl,mem,nx,nt⟩=>K sl mem nx nt
theorem qH{s:St}{K:List (Nat × AV)->aR->Nat->Nat->Prop}:GI s K↔K s.sl s.mem s.nx s.nt:=Iff.rfl
def lS(s:St)(d:Option Nat)(v:AV)(mem:aR)(nx:Nat)(K:St->Prop):Prop:=
 GI s λsl _ _ nt=>match d with
  | none=>K ⟨sl,mem,nx,nt⟩
  | some d=>p8 (Nat.blt d nt) (Rf sl d v λsl=>K ⟨sl,mem,nx,nt⟩)
theorem eU{s:St}{d:Option Nat}{v:AV}{mem:aR}{nx:Nat}{K:St->Prop}(h:lS s d v mem nx K):∃s',fN s d v mem nx=some s'/\K s':=by
 cases d with
 | none=>exact⟨_,rfl,h⟩
 | some d=>
  obtain⟨h1,h⟩:=cJ.1 h;exact⟨_,by simp only[fN,h1],sO.1 h⟩
def tT(ops:List Oper)(sl:List (Nat × AV))(g:Option (Nat × Bool))(yes no:Prop):Prop:=
 match g with
 | none=>yes
 | some (j,want)=>match ops[j]? with
  | none=>no
  | some o=>match o.dst with
   | none=>no
   | some d=>match lk sl d with
    | some (.bool b)=>match want with
     | true=>Qc b yes no
     | false=>Qc b no yes
    | some (.tup [])=>no
    | _=>False
theorem sR{ops:List Oper}{s:St}{g:Option (Nat × Bool)}{yes no:Prop}(h:tT ops s.sl g yes no):(mT ops s g=some true/\yes)\/(mT ops s g=some false/\no):=by
 unfold tT at h;unfold mT;split at h
 .exact .inl ⟨rfl,h⟩
 .split at h
  .rename_i e;exact .inr ⟨by simp only[e],h⟩
  .rename_i e;simp only[e];split at h
   .rename_i e;exact .inr ⟨by simp only[e],h⟩
   .rename_i e;simp only[e];split at h
    .rename_i b e;simp only[e];split at h
     .cases b
      .exact .inr ⟨rfl,h⟩
      .exact .inl ⟨rfl,h⟩
     .cases b
      .exact .inl ⟨rfl,h⟩
      .exact .inr ⟨rfl,h⟩
    .rename_i e;exact .inr ⟨by simp only[e],h⟩
    .exact h.elim
def QG(P:Program)(C:List (Nat × AV))(sl:List (Nat × AV))(f:Operand)(args:List Operand)(aa:AV->Prop)(K:FuncId->List AV->Prop):Prop:=
 mL C sl f λv=>match v with
  | .fn (.func F) first cap=>Im C sl args λas=>match P.funcs[F]? with
   | some fn=>match fn.body with
    | some _=>match fn.name == "runtime.NumGoroutine" with
     | false=>match Nat.beq F YF with
      | false=>Cw first as λl=>Cw l cap λl=>K F l
      | true=>False
     | true=>False
    | none=>match CY fn with
     | true=>match first with
      | []=>match cap with
       | []=>match as with
        | [v]=>aa v
        | _=>False
       | _=>False
      | _=>False
     | false=>False
   | none=>False
  | .yld id=>Im C sl args λas=>K YF (.yld id::as)
  | _=>False
theorem Rx{P:Program}{C:List (Nat × AV)}{s:St}{c:Call}{f:Operand}(hc:c.callee = .value f){aa:AV->Prop}{K:FuncId->List AV->Prop}(h:QG P C s.sl f c.args.toList aa K) :
  (∃v,dE P C s (.call c)=some (v,s.mem,s.nx)/\aa v)\/(dE P C s (.call c)=none/\∃F l,pY P C s (.call c)=some (F,l)/\K F l):=by
 unfold QG at h;obtain⟨v,h1,h⟩:=cL h;split at h
 .rename_i F first cap
  obtain⟨as,h2,h⟩:=pR h;split at h
  .rename_i fn h3;split at h
   .rename_i body h4;split at h
    .rename_i h5;split at h
     .rename_i h6;refine .inr ⟨?_,_,_,by simp only[pY,hc,h1,h2,h3,h4,h5,h6],jB.1 (jB.1 h)⟩;simp only[dE,hc,GZ,h1];cases first<;>cases cap<;>simp only[h3,h4]
     .exact h.elim
    .exact h.elim
   .rename_i h4;split at h
    .rename_i h5;split at h
     .split at h
      .split at h
       .exact .inl ⟨_,by simp only[dE,hc,GZ,h1,h2,h3,h4,h5],h⟩
       .exact h.elim
      .exact h.elim
     .exact h.elim
    .exact h.elim
  .exact h.elim
 .rename_i id;obtain⟨as,h2,h⟩:=pR h;exact .inr ⟨by simp only[dE,hc,GZ,h1],_,_,by simp only[pY,hc,h1,h2],h⟩
 .exact h.elim
def ET(cl:Bool)(P:Program)(C:List (Nat × AV))(H:Hk)(sl:List (Nat × AV))(mem:aR)(nx:Nat)(op:Op)(K:AV->aR->Nat->Prop)(Kp:Value->aR->Nat->Prop):Prop:=
 match op with
 | .call c=>match c.callee with
  | .value f=>QG P C sl f c.args.toList (λv=>K v mem nx) λF l=>H.call F l mem nx K Kp
  | _=>qD cl P C sl mem nx op K
 | _=>qD cl P C sl mem nx op K
theorem BU{cl:Bool}{P:Program}{C:List (Nat × AV)}{H:Hk}{s:St}{op:Op}{K:AV->aR->Nat->Prop}{Kp:Value->aR->Nat->Prop}(h:ET cl P C H s.sl s.mem s.nx op K Kp) :
  (∃v m n,dE P C s op=some (v,m,n)/\K v m n)\/(dE P C s op=none/\∃F l,pY P C s op=some (F,l)/\H.call F l s.mem s.nx K Kp):=by
 unfold ET at h;split at h
 .split at h
  .rename_i f hc;rcases Rx hc h with⟨v,h1,h⟩|h
   .exact .inl ⟨_,_,_,h1,h⟩
   .exact .inr h
  .exact .inl (kT h)
 .exact .inl (kT h)
def Hx(cl:Bool)(P:Program)(C:List (Nat × AV))(H:Hk)(sl:List (Nat × AV))(mem:aR)(nx:Nat)(op:Op)(K:AV->aR->Nat->Prop)(Kp:Value->aR->Nat->Prop):Prop:=
 match op with
 | .panic x=>mL C sl x λv=>opt (quo v) λy=>Kp y mem nx
 | op=>ET cl P C H sl mem nx op K Kp
theorem K9{cl:Bool}{P:Program}{C:List (Nat × AV)}{H:Hk}{s:St}{op:Op}{K:AV->aR->Nat->Prop}{Kp:Value->aR->Nat->Prop}(h:Hx cl P C H s.sl s.mem s.nx op K Kp) :
  (∃v m n,dE P C s op=some (v,m,n)/\K v m n)\/(dE P C s op=none/\∃F l,pY P C s op=some (F,l)/\H.call F l s.mem s.nx K Kp) \/
   (dE P C s op=none/\pY P C s op=none/\∃y,Kr C s op=some y/\Kp y s.mem s.nx):=by
 unfold Hx at h;split at h
 .obtain⟨v,h1,h⟩:=cL h;obtain⟨y,h2,h⟩:=cR.1 h;exact .inr (.inr ⟨rfl,rfl,y,by simp only[Kr,h1,h2],h⟩)
 .rcases BU h with h|h
  .exact .inl h
  .exact .inr (.inl h)
def PH(cl:Bool)(P:Program)(C:List (Nat × AV))(H:Hk)(ops:List Oper):List Oper->St->(St->Prop)->(Value->St->Prop)->Prop
 | [],s,K,_=>K s
 | o::r,s,K,Kp=>GI s λsl mem nx nt=>tT ops sl o.guard
   (Hx cl P C H sl mem nx o.op (λv mem nx=>lS s o.dst v mem nx λs'=>PH cl P C H ops r s' K Kp) λx mem nx=>Kp x ⟨sl,mem,nx,nt⟩)
   (lS s o.dst (.tup []) mem nx λs'=>PH cl P C H ops r s' K Kp)
theorem Gx{cl:Bool}{P:Program}{C:List (Nat × AV)}{H:Hk}{B:Nat}(hH:BB P C B H)(ops:List Oper):∀(l:List Oper) (s:St) (K K':St->Prop) (Kp Kp':Value->St->Prop),(∀s,K s->K' s)->(∀x s,Kp x s->Kp' x s)->PH cl P C H ops l s K Kp->xI P C (G9 P C B) ops l s K' Kp'
 | [],s,K,K',Kp,Kp',hk,hp,h=>hk s h
 | o::r,s,K,K',Kp,Kp',hk,hp,h=>by
  simp only[PH] at h;simp only[xI];have h:=qH.1 h;rcases sR h with⟨h1,h⟩|⟨h1,h⟩
  .simp only[h1];rcases K9 h with⟨v,m,n,h2,h⟩|⟨h2,F,l,h3,h⟩|⟨h2,h3,y,h4,h⟩
   .obtain⟨s',h4,h⟩:=eU h;simp only[h2,h4];exact Gx hH ops r s' K K' Kp Kp' hk hp h
   .simp only[h2,h3];refine(hH.call _ _ _ _ _ _ h).mono (λv m n h=>?_) λx m n h=>hp _ _ h
    obtain⟨s',h4,h⟩:=eU h;simp only[h4];exact Gx hH ops r s' K K' Kp Kp' hk hp h
   .simp only[h2,h3,h4];exact hp _ _ h
  .obtain⟨s',h4,h⟩:=eU h;simp only[h1,h4];exact Gx hH ops r s' K K' Kp Kp' hk hp h
def iJ(f:Nat × AB->Bool):aR->(aR->Prop)->Prop
 | [],K=>K []
 | p::r,K=>match f p with
  | true=>iJ f r λl=>K (p::l)
  | false=>iJ f r K
theorem cV{f:Nat × AB->Bool}:∀{m:aR} {K:aR->Prop},iJ f m K↔K (m.filter f)
 | [],K=>Iff.rfl
 | p::r,K=>by
  simp only[iJ,aBK];cases f p
  .simpa using cV
  .simpa using cV
def sS(cl:Bool)(P:Program)(C:List (Nat × AV))(ops:List Oper)(tr:List (List Nat))(base x:Nat)(mem:aR)(nx:Nat):List Bf->Prop->Prop
 | [],K=>K
 | r::rs,K=>match yD r.i (T tr x) with
  | true=>sS cl P C ops tr base x mem nx rs K
  | false=>match r.want with
   | false=>sS cl P C ops tr base x mem nx rs K
   | true=>match ops[r.i]? with
    | none=>sS cl P C ops tr base x mem nx rs K
    | some o=>match kind P o.op with
     | .pure=>match still o.op with
      | true=>sS cl P C ops tr base x mem nx rs K
      | false=>iJ (λp=>H5 tr base ops.length r.i p.1) mem λm=>qD cl P C r.sl m nx o.op λv _ _=>match cl with
       | true=>p8 (mO v r.v) (sS cl P C ops tr base x mem nx rs K)
       | false=>v=r.v/\sS cl P C ops tr base x mem nx rs K
     | _=>sS cl P C ops tr base x mem nx rs K
theorem oM{cl:Bool}{P:Program}{C:List (Nat × AV)}{ops:List Oper}{tr:List (List Nat)}{base x:Nat}{s:St}:∀{recs:List Bf} {K:Prop},sS cl P C ops tr base x s.mem s.nx recs K->VB P C ops tr base x s recs/\K
 | [],K,h=>⟨trivial,h⟩
 | r::rs,K,h=>by
  simp only[sS] at h;simp only[VB];split at h
  .rename_i h1;obtain⟨h2,h3⟩:=oM h;exact⟨⟨λe=>(by rw[h1] at e;cases e),h2⟩,h3⟩
  .split at h
   .rename_i h1;obtain⟨h2,h3⟩:=oM h;exact⟨⟨λ_ e=>(by rw[h1] at e;cases e),h2⟩,h3⟩
   .split at h
    .rename_i h1;obtain⟨h2,h3⟩:=oM h;exact⟨⟨λ_ _ o e=>(by rw[h1] at e;cases e),h2⟩,h3⟩
    .rename_i o ho;split at h
     .split at h
      .rename_i h1;obtain⟨h2,h3⟩:=oM h;refine⟨⟨λ_ _ o' e _ e'=>?_,h2⟩,h3⟩;rw[ho] at e;cases e;rw[h1] at e';cases e'
      .have h:=cV.1 h;obtain⟨v,m,n,h1,h⟩:=kT (s:={ sl:=r.sl,mem:=jQ tr base ops.length r.i s.mem,nx:=s.nx,nt:=s.nt }) h;have key:v=r.v/\sS cl P C ops tr base x s.mem s.nx rs K:=by
        cases cl
        .exact h
        .obtain⟨h2,h3⟩:=cJ.1 h;exact⟨AK h2,h3⟩
       obtain⟨h2,h3⟩:=oM key.2;refine⟨⟨λ_ _ o' e _ _=>?_,h2⟩,h3⟩;rw[ho] at e;cases e;exact⟨m,n,by rw[<-key.1];exact h1⟩
     .rename_i hk;obtain⟨h2,h3⟩:=oM h;refine⟨⟨λ_ _ o' e e'=>?_,h2⟩,h3⟩;rw[ho] at e;cases e;exact(hk e').elim
def xN(cl:Bool)(P:Program)(C:List (Nat × AV))(H:Hk)(ops:List Oper)(tr:List (List Nat))(base:Nat)(K:St->Prop)(Kp:Value->aR->Nat->Prop):List Nat->List Bf->St->Prop
 | [],recs,s=>K s
 | i::r,recs,s=>match ops[i]? with
  | none=>False
  | some o=>GI s λsl mem nx nt=>tT ops sl o.guard
   (match kind P o.op with
    | .pure=>match still o.op with
     | true=>qD cl P C sl [] nx o.op λv _ _=>lS s o.dst v mem nx λs'=>xN cl P C H ops tr base K Kp r (⟨i,sl,true,v⟩::recs) s'
     | false=>iJ (λp=>H5 tr base ops.length i p.1) mem λm=>qD cl P C sl m nx o.op λv _ _=>lS s o.dst v mem nx λs'=>xN cl P C H ops tr base K Kp r (⟨i,sl,true,v⟩::recs) s'
    | .al=>pS (base+i) λid=>qD cl P C sl [] id o.op λv m _=>match m with
     | [(_,b)]=>lS s o.dst v ((id,b)::mem) nx λs'=>xN cl P C H ops tr base K Kp r (⟨i,sl,true,v⟩::recs) s'
     | _=>False
    | .eff=>iJ (λp=>H5 tr base ops.length i p.1) mem λm=>ET cl P C H sl m nx o.op (λv m nx'=>iJ (λp=>!H5 tr base ops.length i p.1) mem λrest=>iJ (λp=>!s5 p.1 m) rest λrest=>Cw m rest λm=>
      lS s o.dst v m nx' λs'=>sS cl P C ops tr base i m nx' recs (xN cl P C H ops tr base K Kp r recs s')) Kp)
   (lS s o.dst (.tup []) mem nx λs'=>xN cl P C H ops tr base K Kp r (⟨i,sl,false,.tup []⟩::recs) s')
theorem tI{cl:Bool}{P:Program}{C:List (Nat × AV)}{H:Hk}{B:Nat}(hH:BB P C B H)(ops:List Oper)(tr:List (List Nat))(base:Nat)(K K':St->Prop)(Kp Kp':Value->aR->Nat->Prop)(hk:∀s,K s->K' s)(hp:∀x m n,Kp x m n->Kp' x m n) :
  ∀(l:List Nat) (recs:List Bf) (s:St),xN cl P C H ops tr base K Kp l recs s->qB P C (G9 P C B) ops tr base K' Kp' l recs s
 | [],recs,s,h=>hk s h
 | i::r,recs,s,h=>by
  simp only[xN] at h;simp only[qB];split at h
  .exact h.elim
  .rename_i o ho;simp only[ho];have h:=qH.1 h;rcases sR h with⟨h1,h⟩|⟨h1,h⟩
   .simp only[h1];split at h
    .rename_i hkd;simp only[hkd];split at h
     .rename_i hst;obtain⟨v,m,n,h2,h⟩:=kT (s:={ sl:=s.sl,mem:=[],nx:=s.nx,nt:=s.nt }) h;obtain⟨m',n',h2'⟩:=qL (s:={ sl:=s.sl,mem:=[],nx:=s.nx,nt:=s.nt }) (s':={ s with mem:=jQ tr base ops.length i s.mem }) hst rfl h2;obtain⟨s',h3,h⟩:=eU h;simp only[h2',h3];exact tI hH ops tr base K K' Kp Kp' hk hp r _ s' h
     .have h:=cV.1 h;obtain⟨v,m,n,h2,h⟩:=kT (s:={ s with mem:=jQ tr base ops.length i s.mem }) h;obtain⟨s',h3,h⟩:=eU h;simp only[h2,h3];exact tI hH ops tr base K K' Kp Kp' hk hp r _ s' h
    .rename_i hkd;simp only[hkd];have h:=eE.1 h;obtain⟨v,m,n,h2,h⟩:=kT (s:={ s with mem:=[],nx:=base+i }) h;simp only[h2];split at h
     .obtain⟨s',h3,h⟩:=eU h;simp only[h3];exact tI hH ops tr base K K' Kp Kp' hk hp r _ s' h
     .exact h.elim
    .rename_i hkd;simp only[hkd];have h:=cV.1 h;rcases BU (s:={ s with mem:=jQ tr base ops.length i s.mem }) h with⟨v,m,n,h2,h⟩|⟨h2,F,l,h3,h⟩
     .simp only[h2];have h:=jB.1 (cV.1 (cV.1 h));obtain⟨s',h3,h⟩:=eU h;have h3:fN s o.dst v (m++qX m (gL tr base ops.length i s.mem)) n=some s':=h3;simp only[h3];obtain⟨e1,e2,_⟩:=gJ h3;have h:sS cl P C ops tr base i (m++qX m (gL tr base ops.length i s.mem)) n recs (xN cl P C H ops tr base K Kp r recs s'):=h;rw[<-e1,<-e2] at h;obtain⟨h4,h⟩:=oM h;exact⟨h4,tI hH ops tr base K K' Kp Kp' hk hp r _ s' h⟩
     .rw[qJ (s':=s) (λx _=>by cases x<;>rfl)] at h3;simp only[h2,h3];refine(hH.call _ _ _ _ _ _ h).mono (λv m n h=>?_) hp;have h:=jB.1 (cV.1 (cV.1 h));obtain⟨s',h3,h⟩:=eU h;have h3:fN s o.dst v (m++qX m (gL tr base ops.length i s.mem)) n=some s':=h3;simp only[h3];obtain⟨e1,e2,_⟩:=gJ h3;have h:sS cl P C ops tr base i (m++qX m (gL tr base ops.length i s.mem)) n recs (xN cl P C H ops tr base K Kp r recs s'):=h;rw[<-e1,<-e2] at h;obtain⟨h4,h⟩:=oM h;exact⟨h4,tI hH ops tr base K K' Kp Kp' hk hp r _ s' h⟩
   .obtain⟨s',h3,h⟩:=eU h;simp only[h1,h3];exact tI hH ops tr base K K' Kp Kp' hk hp r _ s' h
def Ct(cl:Bool)(P:Program)(C:List (Nat × AV))(H:Hk):Code->St->(Exit->St->Prop)->Prop
 | .skip,s,Q=>Q .normal s
 | .seq x y,s,Q=>Ct cl P C H x s λe s'=>match e with
  | .normal=>Ct cl P C H y s' Q
  | e=>Q e s'
 | .cond c x y,s,Q=>GI s λsl _ _ _=>mL C sl c λv=>match v with
  | .bool b=>Qc b (Ct cl P C H x s Q) (Ct cl P C H y s Q)
  | _=>False
 | .block id c,s,Q=>Ct cl P C H c s λe s'=>match e with
  | .exit i=>match Nat.beq i id with
   | true=>Q .normal s'
   | false=>Q (.exit i) s'
  | e=>Q e s'
 | .loop c,s,Q=>H.loop c s Q
 | .label _,s,Q=>Q .normal s
 | .scope c,s,Q=>Ct cl P C H c s λe s'=>match e with
  | .goto _=>False
  | e=>Q e s'
 | .exit i,s,Q=>Q (.exit i) s
 | .ret,s,Q=>Q .ret s
 | .region _ ops draw,s,Q=>match draw with
  | false=>PH cl P C H ops.toList ops.toList s (λs'=>Q .normal s') λx s'=>Q (.panic [pe x]) s'
  | true=>match P.follows .mixedOrders with
   | true=>match BY P ops.toList (vE P ops.toList ops.toList.length [] (yI ops.toList.length)) with
    | true=>GI s λsl mem nx nt=>pS (nx+ops.toList.length) λn=>AG (vE P ops.toList ops.toList.length [] (yI ops.toList.length)) λord=>xN cl P C H ops.toList (K5 ops.toList []) nx (λs'=>Q .normal s') (λx m n=>Q (.panic [pe x]) ⟨vN ops.toList sl,m,n,nt⟩) ord [] ⟨sl,mem,n,nt⟩
    | false=>False
   | false=>False
 | _,_,_=>False
theorem W2{cl:Bool}{P:Program}{C:List (Nat × AV)}{H:Hk}{B:Nat}(hH:BB P C B H):∀(c:Code) (s:St) (Q Q':Exit->St->Prop),(∀e s,Q e s->Q' e s)->Ct cl P C H c s Q->Ek P C (G9 P C B) c s Q':=by
 intro c
 induction c with
 | skip=>exact λs Q Q' hq h=>hq _ _ h
 | label l=>exact λs Q Q' hq h=>hq _ _ h
 | scope c ih=>
  intro s Q Q' hq h;simp only[Ct] at h;simp only[Ek];refine ih s _ _ (λe s' h=>?_) h;cases e with
  | goto l=>exact h
  | normal=>exact hq _ _ h
  | exit i=>exact hq _ _ h
  | ret=>exact hq _ _ h
  | panic c=>exact hq _ _ h
  | outgrown=>exact hq _ _ h
 | exit i=>exact λs Q Q' hq h=>hq _ _ h
 | ret=>exact λs Q Q' hq h=>hq _ _ h
 | loop c ih=>exact λs Q Q' hq h=>(hH.loop c s Q h).mono hq
 | seq x y ihx ihy=>
  intro s Q Q' hq h;simp only[Ct] at h;simp only[Ek];refine ihx s _ _ (λe s' h=>?_) h;cases e with
  | normal=>exact ihy s' Q Q' hq h
  | exit i=>exact hq _ _ h
  | goto l=>exact hq _ _ h
  | ret=>exact hq _ _ h
  | panic c=>exact hq _ _ h
  | outgrown=>exact hq _ _ h
 | cond c x y ihx ihy=>
  intro s Q Q' hq h;simp only[Ct] at h;simp only[Ek];have h:=qH.1 h;obtain⟨v,h1,h⟩:=cL h;simp only[h1];split at h
  .rename_i b;cases b
   .exact ihy s Q Q' hq h
   .exact ihx s Q Q' hq h
  .exact h.elim
 | block id c ih=>
  intro s Q Q' hq h;simp only[Ct] at h;simp only[Ek];refine ih s _ _ (λe s' h=>?_) h;cases e with
  | exit i=>
   simp only at h |-;split at h
   .rename_i e;simp only[e];exact hq _ _ h
   .rename_i e;simp only[e];exact hq _ _ h
  | normal=>exact hq _ _ h
  | goto l=>exact hq _ _ h
  | ret=>exact hq _ _ h
  | panic c=>exact hq _ _ h
  | outgrown=>exact hq _ _ h
 | region id ops draw=>
  intro s Q Q' hq h;cases draw with
  | false=>
   simp only[Ct] at h;simp only[Ek];exact Gx hH _ _ _ _ _ _ _ (λs h=>hq _ _ h) (λx s h=>hq _ _ h) h
  | true=>
   simp only[Ct] at h;simp only[Ek];split at h
   .rename_i hmix;simp only[hmix];split at h
    .rename_i hok;simp only[F3,hok];exact tI hH _ _ _ _ _ _ _ (λs h=>hq _ _ h) (λx m n h=>hq _ _ h) _ _ _ (nH.1 (eE.1 (qH.1 h)))
    .exact h.elim
   .exact h.elim
 | _=>intro s Q Q' hq h;simp only[Ct] at h
theorem iA{cl:Bool}{P:Program}{C:List (Nat × AV)}{H:Hk}{B:Nat}(hH:BB P C B H)(c:Code)(s:St)(Q:Exit->St->Prop)(h:Ct cl P C H c s Q):eQ P C B c s Q:=
 rR Gd c s Q (W2 hH c s Q Q (λ_ _ h=>h) h)
def LO:Nat->List AV->(List (Nat × AV)->Prop)->Prop
 | _,[],K=>K []
 | k,a::r,K=>pS k λk=>LO (k+1) r λl=>K ((k,a)::l)
theorem Fx:∀{k:Nat} {l:List AV} {K:List (Nat × AV)->Prop},LO k l K↔K (H8 k l)
 | k,[],K=>Iff.rfl
 | k,a::r,K=>by simp only[LO,H8,eE,Fx]
def uE(ntmps:Nat)(args:List AV)(mem:aR)(nx:Nat)(K:St->Prop):Prop:=
 LO 0 args λsl=>p8 (Nat.ble args.length ntmps) (pS ntmps λnt=>K ⟨sl,mem,nx,nt⟩)
theorem k9{ntmps:Nat}{args:List AV}{mem:aR}{nx:Nat}{K:St->Prop}(h:uE ntmps args mem nx K):K (enter ntmps args mem nx):=by
 obtain⟨h1,h⟩:=cJ.1 (Fx.1 h);have h:=eE.1 h;have h1:=Y9 h1;have e:enter ntmps args mem nx=⟨H8 0 args,mem,nx,ntmps⟩:=by simp only[enter];congr 1;omega
 rw[e];exact h
def L0(P:Program)(s:St):List ResultVar->(List AV->Prop)->Prop
 | [],K=>K []
 | .tmp t::r,K=>opt (lk s.sl t) λv=>L0 P s r λl=>K (v::l)
 | .cell a t::r,K=>opt (lk s.sl a) λp=>Lu P s.mem t p λv=>L0 P s r λl=>K (v::l)
theorem HK{P:Program}{s:St}:∀{rs:List ResultVar} {K:List AV->Prop},L0 P s rs K->∃l,xO P s rs=some l/\K l
 | [],K,h=>⟨[],rfl,h⟩
 | .tmp t::r,K,h=>by
  obtain⟨v,h1,h⟩:=cR.1 h;obtain⟨l,h2,h⟩:=HK h;exact⟨_,by simp only[xO,h1,h2],h⟩
 | .cell a t::r,K,h=>by
  obtain⟨p,h1,h⟩:=cR.1 h;obtain⟨v,h2,h⟩:=K6 h;obtain⟨l,h3,h⟩:=HK h;exact⟨_,by simp only[xO,h1,h2,h3],h⟩
def GH(P:Program)(rs:List ResultVar)(s:St)(K:AV->Prop):Prop:=
 L0 P s rs λl=>match l with
  | [v]=>K v
  | []=>K (.tup [])
  | a::b::r=>K (.tup (a::b::r))
theorem Gt{P:Program}{rs:List ResultVar}{s:St}{K:AV->Prop}(h:GH P rs s K):∃v,Av P rs s=some v/\K v:=by
 obtain⟨l,h1,h⟩:=HK h;unfold Av;rw[h1]
 match l,h with
 | [v],h=>exact⟨_,rfl,h⟩
 | [],h=>exact⟨_,rfl,h⟩
 | a::b::r,h=>exact⟨_,rfl,h⟩
def UQ(P:Program)(rs:List ResultVar)(Q:AV->aR->Nat->Prop):Exit->St->Prop:=λe s=>
 match e with
 | .normal=>GI s λ_ mem nx _=>GH P rs s λr=>Q r mem nx
 | .ret=>GI s λ_ mem nx _=>GH P rs s λr=>Q r mem nx
 | _=>False
theorem Of{P:Program}{rs:List ResultVar}{Q:AV->aR->Nat->Prop}{e:Exit}{s:St}(h:UQ P rs Q e s):NJ P rs Q e s:=by
 cases e with
 | normal=>
  obtain⟨v,h1,h⟩:=Gt (show GH P rs s _ from h);simp only[NJ,h1];exact h
 | ret=>
  obtain⟨v,h1,h⟩:=Gt (show GH P rs s _ from h);simp only[NJ,h1];exact h
 | _=>exact(show False from h).elim
theorem gT{P:Program}{C:List (Nat × AV)}{F:FuncId}{fn:Func}{c:Code}{args:List AV}{mem:aR}{nx:Nat}{Q:AV->aR->Nat->Prop}(hΓ:∀p∈C,NN p.2)(hf:P.funcs[F]? = some fn)(hb:fn.body=some c)
  (h:uE fn.ntmps args mem nx λs=>Ct false P C (F8 P C nx) c s (UQ P fn.results.toList (oC nx Q))) (hF:Nat.beq F YF=false:=by rfl):aJ P C F args mem nx Q:=
 (xV hf hb ((iA vJ _ _ _ (k9 h)).mono λ_ _ h=>Of h) hF).turn hΓ
def Je(P:Program)(rs:List ResultVar)(Q:AV->aR->Nat->Prop)(Qp:Value->aR->Nat->Prop):Exit->St->Prop:=λe s=>
 match e with
 | .normal=>GI s λ_ mem nx _=>GH P rs s λr=>Q r mem nx
 | .ret=>GI s λ_ mem nx _=>GH P rs s λr=>Q r mem nx
 | .panic [⟨x,false,false⟩]=>GI s λ_ mem nx _=>Qp x mem nx
 | _=>False
theorem Gy{P:Program}{rs:List ResultVar}{Q:AV->aR->Nat->Prop}{Qp:Value->aR->Nat->Prop}{e:Exit}{s:St}(h:Je P rs Q Qp e s):Cr P rs Q Qp e s:=by
 cases e with
 | normal=>
  obtain⟨v,h1,h⟩:=Gt (show GH P rs s _ from h);simp only[Cr,h1];exact h
 | ret=>
  obtain⟨v,h1,h⟩:=Gt (show GH P rs s _ from h);simp only[Cr,h1];exact h
 | panic ch=>
  unfold Je at h;split at h
  .rename_i e;cases e
  .rename_i e;cases e
  .rename_i e;cases e;exact h
  .exact h.elim
 | _=>exact(show False from h).elim
end Go.Ax
