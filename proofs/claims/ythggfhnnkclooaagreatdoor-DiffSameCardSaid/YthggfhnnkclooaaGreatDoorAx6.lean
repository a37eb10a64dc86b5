/- A part of the proof. -/
import Derived.Test.YthggfhnnkclooaaGreatDoorAx5
set_option linter.unusedSectionVars false
set_option linter.unusedVariables false
set_option linter.unusedSimpArgs false
set_option maxRecDepth 1000000
set_option maxHeartbeats 16000000
namespace Go.Ax
open Go
def QB(cl:Bool)(P:Program)(mem:aQ)(t:TypeId)(x y:AV)(K:AV->aQ->Prop):Prop:=
 match P.underlying t with
 | some (.slice e)=>match gP P e with
  | some n=>match x with
   | .sl id 0 len=>match lk mem id with
    | some (.row t' sz' xs)=>Q5 cl mem n y λys=>pG (Nat.blt 0 n && (Nat.beq sz' n && (Nat.ble ys.length len && Nat.ble len xs.length)))
      (tQ cl (xs.drop ys.length) λzs=>Q0 cl ys zs λzs=>zB cl ys.length λl=>HX mem id (.row t' sz' zs) λm=>K (.int .i64 l) m)
    | _=>False
   | _=>False
  | none=>False
 | _=>False
theorem SZ{cl:Bool}{P:Program}{mem:aQ}{t:TypeId}{x y:AV}{K:AV->aQ->Prop}(h:QB cl P mem t x y K):∃v m,Hj P mem t x y=some (v,m)/\K v m:=by
 unfold QB at h;unfold Hj;split at h
 .rename_i e hu;simp only[hu];split at h
  .rename_i n hn;simp only[hn];split at h
   .split at h
    .rename_i hid;obtain⟨ys,h4,h⟩:=Ny h;obtain⟨h5,h⟩:=b8.1 h;rw[Y1] at h5;exact⟨_,_,by simp only[h5.1,hid,h4,h5.2],lT.1 (iW.1 (IH.1 (i8.1 h)))⟩
    .exact h.elim
   .exact h.elim
  .exact h.elim
 .exact h.elim
def KX(P:Program)(mem:aQ)(t:TypeId)(x:AV)(K:aQ->Prop):Prop:=
 match P.underlying t with
 | some (.slice e)=>match nE P e with
  | some z=>match x with
   | .sl id off len=>match lk mem id with
    | some (.row t' sz xs)=>pG (lF z && (Nat.beq z.cells.length sz && (Nat.blt 0 sz && (Nat.blt 0 len && Nat.ble (off+len) xs.length))))
      (HX mem id (.row t' sz (xs.take off++(List.replicate len z++xs.drop (off+len)))) λm=>K m)
    | _=>False
   | _=>False
  | none=>False
 | _=>False
theorem QR{P:Program}{mem:aQ}{t:TypeId}{x:AV}{K:aQ->Prop}(h:KX P mem t x K):∃m,D9 P mem t x=some m/\K m:=by
 unfold KX at h;unfold D9;split at h
 .rename_i e hu;simp only[hu];split at h
  .rename_i z hz;simp only[hz];split at h
   .split at h
    .rename_i hid;obtain⟨h5,h⟩:=b8.1 h;exact⟨_,by simp only[hid,h5],lT.1 h⟩
    .exact h.elim
   .exact h.elim
  .exact h.elim
 .exact h.elim
def zK(cl:Bool)(P:Program)(C:List (Nat × AV))(sl:List (Nat × AV))(mem:aQ)(nx:Nat)(b:Builtin)(args:List Operand)(ts:List TypeId)(K:AV->aQ->Nat->Prop):Prop:=
 match b with
 | .len=>match args,ts with
  | [x],[t]=>kZ C sl x λa=>opt (RX P mem t a) λv=>match v with
   | .int k n=>sW cl k n λv=>K v mem nx
   | _=>False
  | _,_=>False
 | .append=>match args,ts with
  | [x,y],[t,u]=>kZ C sl x λa=>kZ C sl y λb=>GK cl P mem nx t u a b K
  | _,_=>False
 | .min=>JN C sl args λl=>match l with
  | .int k x::r=>opt (Mz x r) λm=>sW cl k m λv=>K v mem nx
  | _=>False
 | .max=>JN C sl args λl=>match l with
  | .int k x::r=>opt (Na x r) λm=>sW cl k m λv=>K v mem nx
  | _=>False
 | .unsafeSliceData=>match args,ts with
  | [x],[_]=>kZ C sl x λa=>opt (sJ a) λv=>K v mem nx
  | _,_=>False
 | .unsafeString=>match args,ts with
  | [x,y],[t,_]=>kZ C sl x λa=>kZ C sl y λb=>match Ai P mem t a b with
   | some (.str l,m)=>tQ cl l λl=>C6 m λm=>K (.str l) m nx
   | _=>False
  | _,_=>False
 | .copy=>match args,ts with
  | [x,y],[t,_]=>kZ C sl x λa=>kZ C sl y λb=>QB cl P mem t a b λv m=>K v m nx
  | _,_=>False
 | .clear=>match args,ts with
  | [x],[t]=>kZ C sl x λa=>KX P mem t a λm=>K (.tup []) m nx
  | _,_=>False
 | _=>False
theorem Jl{cl:Bool}{P:Program}{C:List (Nat × AV)}{s:St}{b:Builtin}{args:List Operand}{ts:List TypeId}{K:AV->aQ->Nat->Prop}(h:zK cl P C s.sl s.mem s.nx b args ts K) :
  ∃v m n,eU P C s b args ts=some (v,m,n)/\K v m n:=by
 unfold zK at h;split at h
 .split at h
  .obtain⟨a,h1,h⟩:=cD h;obtain⟨v,h2,h⟩:=b9.1 h;split at h
   .exact⟨_,_,_,by simp only[eU,h1,h2,bP],n7.1 h⟩
   .exact h.elim
  .exact h.elim
 .split at h
  .obtain⟨a,h1,h⟩:=cD h;obtain⟨b,h2,h⟩:=cD h;obtain⟨v,m,n,h3,h⟩:=MP h;exact⟨_,_,_,by simp only[eU,h1,h2];exact h3,h⟩
  .exact h.elim
 .obtain⟨l,h1,h⟩:=pN h;split at h
  .obtain⟨m,h2,h⟩:=b9.1 h;exact⟨_,_,_,by simp only[eU,h1,h2],n7.1 h⟩
  .exact h.elim
 .obtain⟨l,h1,h⟩:=pN h;split at h
  .obtain⟨m,h2,h⟩:=b9.1 h;exact⟨_,_,_,by simp only[eU,h1,h2],n7.1 h⟩
  .exact h.elim
 .split at h
  .obtain⟨a,h1,h⟩:=cD h;obtain⟨v,h2,h⟩:=b9.1 h;exact⟨_,_,_,by simp only[eU,h1,h2,bP],h⟩
  .exact h.elim
 .split at h
  .obtain⟨a,h1,h⟩:=cD h;obtain⟨b,h2,h⟩:=cD h;split at h
   .rename_i l m h3;exact⟨_,_,_,by simp only[eU,h1,h2,h3],x8.1 (i8.1 h)⟩
   .exact h.elim
  .exact h.elim
 .split at h
  .obtain⟨a,h1,h⟩:=cD h;obtain⟨b,h2,h⟩:=cD h;obtain⟨v,m,h3,h⟩:=SZ h;exact⟨_,_,_,by simp only[eU,h1,h2,h3],h⟩
  .exact h.elim
 .split at h
  .obtain⟨a,h1,h⟩:=cD h;obtain⟨m,h3,h⟩:=QR h;exact⟨_,_,_,by simp only[eU,h1,h3],h⟩
  .exact h.elim
 .exact h.elim
def qC(cl:Bool)(P:Program)(C:List (Nat × AV))(sl:List (Nat × AV))(mem:aQ)(nx:Nat)(op:Op)(K:AV->aQ->Nat->Prop):Prop:=
 match op with
 | .move x=>kZ C sl x λv=>K v mem nx
 | .assign x=>kZ C sl x λv=>K v mem nx
 | .pick c a b=>kZ C sl c λc=>match c with
  | .bool c=>Nu c (kZ C sl a λv=>K v mem nx) (kZ C sl b λv=>K v mem nx)
  | _=>False
 | .alloc t=>F9 P mem nx t K
 | .box t x=>kZ C sl x λv=>T1 P mem nx t v K
 | .build t parts=>rA C sl parts.toList λps=>Gh P t ps λv=>K v mem nx
 | .buildSlice t len parts=>rA C sl parts.toList λps=>qA P mem nx t len ps K
 | .load t x=>kZ C sl x λp=>Ih P mem t p λv=>K v mem nx
 | .store t x y=>kZ C sl x λp=>kZ C sl y λv=>Gs P mem t p v λm=>K (.tup []) m nx
 | .nilCheck x=>kZ C sl x λp=>opt (Pr p) λv=>K v mem nx
 | .binOp op t x y _=>kZ C sl x λa=>kZ C sl y λb=>S3 cl P op t x y a b λv=>K v mem nx
 | .unOp op _ x=>kZ C sl x λa=>XU cl op a λv=>K v mem nx
 | .convert src dst x=>kZ C sl x λa=>match P.underlying dst with
  | some (.slice _)=>w7 cl P mem nx src dst a K
  | _=>LN cl P mem src dst a λv=>K v mem nx
 | .makeInterface t x=>kZ C sl x λa=>opt (HE P t a) λv=>K v mem nx
 | .makeFunc fn first cap=>JN C sl first.toList λl1=>JN C sl cap.toList λl2=>K (.fn fn l1 l2) mem nx
 | .makeSlice t l c=>kZ C sl l λa=>kZ C sl c λb=>OI cl P mem nx t a b K
 | .slice t x lo hi mx=>kZ C sl x λa=>HH C sl lo λl=>HH C sl hi λh=>HH C sl mx λm=>match !m.isSome || h.isSome with
  | true=>KQ cl P mem t a l h m λv=>K v mem nx
  | false=>False
 | .fieldAddr t x f=>kZ C sl x λp=>tG P t f p λv=>K v mem nx
 | .field t x f=>kZ C sl x λp=>Gc P t f p λv=>K v mem nx
 | .indexAddr t x ix=>kZ C sl x λp=>kZ C sl ix λi=>sG cl P mem t p i λv=>K v mem nx
 | .index t x ix=>kZ C sl x λp=>kZ C sl ix λi=>Ga cl P t p i λv=>K v mem nx
 | .extract x i=>kZ C sl x λp=>opt (tX p i) λv=>K v mem nx
 | .typeAssert x _ t ok=>kZ C sl x λp=>opt (CM P t ok p) λv=>K v mem nx
 | .makeMap _ reserve=>match reserve with
  | none=>pX (nx+1) λn=>K (.mp nx) ((nx,.mapb [])::mem) n
  | some _=>False
 | .lookup t x ix ok=>kZ C sl x λp=>kZ C sl ix λi=>opt (sX P mem t p i ok) λv=>K v mem nx
 | .mapUpdate t x y z=>kZ C sl x λp=>kZ C sl y λk=>kZ C sl z λv=>pM P mem t p k v λm=>K (.tup []) m nx
 | .insert t x y z=>kZ C sl x λp=>kZ C sl y λk=>kZ C sl z λv=>pM P mem t p k v λm=>K (.tup []) m nx
 | .range t x=>kZ C sl x λp=>opt (BP P mem nx t p) λr=>match r with
  | (v,m,n)=>pX n λn=>K v m n
 | .entry x=>kZ C sl x λp=>opt (G5 mem p) λv=>K v mem nx
 | .next x b=>match b with
  | false=>kZ C sl x λp=>opt (LJ mem p) λr=>match r with
   | (v,m)=>K v m nx
  | true=>False
 | .call c=>match c.callee with
  | .builtin b=>zK cl P C sl mem nx b c.args.toList c.argTypes.toList K
  | _=>False
 | _=>False
theorem kO{cl:Bool}{P:Program}{C:List (Nat × AV)}{s:St}{op:Op}{K:AV->aQ->Nat->Prop}(h:qC cl P C s.sl s.mem s.nx op K):∃v m n,c8 P C s op=some (v,m,n)/\K v m n:=by
 cases op<;>simp only[qC] at h<;>simp only[c8]<;>first|exact h.elim|skip
 case move x=>
  obtain⟨v,h1,h⟩:=cD h;exact⟨_,_,_,by simp only[h1,bP],h⟩
 case assign x=>
  obtain⟨v,h1,h⟩:=cD h;exact⟨_,_,_,by simp only[h1,bP],h⟩
 case pick c x y=>
  obtain⟨v,h1,h⟩:=cD h;split at h
  .rename_i b;cases b
   .obtain⟨v,h2,h⟩:=cD (show kZ C s.sl y _ from h);exact⟨_,_,_,by simp only[h1,h2,bP],h⟩
   .obtain⟨v,h2,h⟩:=cD (show kZ C s.sl x _ from h);exact⟨_,_,_,by simp only[h1,h2,bP],h⟩
  .exact h.elim
 case alloc t=>exact Pq h
 case box t x=>
  obtain⟨v,h1,h⟩:=cD h;simp only[h1];exact VD h
 case build t parts=>
  obtain⟨v,h1,h⟩:=uS h;obtain⟨v,h2,h⟩:=Od h;exact⟨_,_,_,by simp only[h1,h2,bP],h⟩
 case buildSlice t len parts=>
  obtain⟨v,h1,h⟩:=uS h;simp only[h1];exact EK h
 case load t x=>
  obtain⟨v,h1,h⟩:=cD h;obtain⟨v,h2,h⟩:=MC h;exact⟨_,_,_,by simp only[h1,h2,bP],h⟩
 case store t x y=>
  obtain⟨v,h1,h⟩:=cD h;obtain⟨u,h2,h⟩:=cD h;obtain⟨m,h3,h⟩:=QA h;exact⟨_,_,_,by simp only[h1,h2,h3],h⟩
 case nilCheck x=>
  obtain⟨v,h1,h⟩:=cD h;obtain⟨v,h2,h⟩:=b9.1 h;exact⟨_,_,_,by simp only[h1,h2,bP],h⟩
 case binOp op t x y t'=>
  obtain⟨v,h1,h⟩:=cD h;obtain⟨u,h2,h⟩:=cD h;obtain⟨m,h3,h⟩:=Ul h;exact⟨_,_,_,by simp only[h1,h2,h3,bP],h⟩
 case unOp op t x=>
  obtain⟨v,h1,h⟩:=cD h;obtain⟨v,h2,h⟩:=Vq h;exact⟨_,_,_,by simp only[h1,h2,bP],h⟩
 case convert src dst x=>
  obtain⟨v,h1,h⟩:=cD h;simp only[h1];split at h
  .rename_i e hu;have hn:D6 P s.mem src dst v=none:=by
    unfold D6;split
    .rfl
    .rw[hu]
   rw[hn];exact JP h
  .obtain⟨u,h2,h⟩:=S1 h;exact⟨_,_,_,by simp only[h2],h⟩
 case makeInterface t x=>
  obtain⟨v,h1,h⟩:=cD h;obtain⟨v,h2,h⟩:=b9.1 h;exact⟨_,_,_,by simp only[h1,h2,bP],h⟩
 case makeFunc fn first cap=>
  obtain⟨v,h1,h⟩:=pN h;obtain⟨v,h2,h⟩:=pN h;exact⟨_,_,_,by simp only[h1,h2],h⟩
 case makeSlice t l c=>
  obtain⟨v,h1,h⟩:=cD h;obtain⟨u,h2,h⟩:=cD h;simp only[h1,h2];exact RK h
 case slice t x lo hi mx=>
  obtain⟨v,h1,h⟩:=cD h;obtain⟨l,h2,h⟩:=At h;obtain⟨h',h3,h⟩:=At h;obtain⟨m,h4,h⟩:=At h;simp only[h1,h2,h3,h4];split at h
  .rename_i e;obtain⟨u,h5,h⟩:=OK h;exact⟨_,_,_,by simp only[e,h5,bP],h⟩
  .exact h.elim
 case fieldAddr t x f=>
  obtain⟨v,h1,h⟩:=cD h;obtain⟨v,h2,h⟩:=G4 h;exact⟨_,_,_,by simp only[h1,h2,bP],h⟩
 case field t x f=>
  obtain⟨v,h1,h⟩:=cD h;obtain⟨v,h2,h⟩:=Pk h;exact⟨_,_,_,by simp only[h1,h2,bP],h⟩
 case indexAddr t x ix=>
  obtain⟨v,h1,h⟩:=cD h;obtain⟨u,h2,h⟩:=cD h;obtain⟨m,h3,h⟩:=GR h;exact⟨_,_,_,by simp only[h1,h2,h3,bP],h⟩
 case index t x ix=>
  obtain⟨v,h1,h⟩:=cD h;obtain⟨u,h2,h⟩:=cD h;obtain⟨m,h3,h⟩:=Oh h;exact⟨_,_,_,by simp only[h1,h2,h3,bP],h⟩
 case typeAssert x xt t ok=>
  obtain⟨p,h1,h⟩:=cD h;obtain⟨v,h2,h⟩:=b9.1 h;exact⟨_,_,_,by simp only[h1,h2,bP],h⟩
 case extract x i=>
  obtain⟨v,h1,h⟩:=cD h;obtain⟨v,h2,h⟩:=b9.1 h;exact⟨_,_,_,by simp only[h1,h2,bP],h⟩
 case makeMap t r=>
  split at h
  .exact⟨_,_,_,rfl,eE.1 h⟩
  .exact h.elim
 case lookup t x ix ok=>
  obtain⟨v,h1,h⟩:=cD h;obtain⟨u,h2,h⟩:=cD h;obtain⟨m,h3,h⟩:=b9.1 h;exact⟨_,_,_,by simp only[h1,h2,h3,bP],h⟩
 case mapUpdate t x y z=>
  obtain⟨v,h1,h⟩:=cD h;obtain⟨u,h2,h⟩:=cD h;obtain⟨u',h3,h⟩:=cD h;obtain⟨m,h4,h⟩:=zH h;exact⟨_,_,_,by simp only[h1,h2,h3,h4],h⟩
 case range t x=>
  obtain⟨v,h1,h⟩:=cD h;obtain⟨⟨u,m,n⟩,h2,h⟩:=b9.1 h;exact⟨_,_,_,by simp only[h1,h2],eE.1 h⟩
 case entry x=>
  obtain⟨p,h1,h⟩:=cD h;obtain⟨v,h2,h⟩:=b9.1 h;exact⟨_,_,_,by simp only[h1,h2,bP],h⟩
 case next x b=>
  cases b
  .obtain⟨v,h1,h⟩:=cD h;obtain⟨⟨u,m⟩,h2,h⟩:=b9.1 h;exact⟨_,_,_,by simp only[h1,h2],h⟩
  .exact h.elim
 case insert t x y z=>
  obtain⟨v,h1,h⟩:=cD h;obtain⟨u,h2,h⟩:=cD h;obtain⟨u',h3,h⟩:=cD h;obtain⟨m,h4,h⟩:=zH h;exact⟨_,_,_,by simp only[h1,h2,h3,h4],h⟩
 case call c=>
  split at h
  .rename_i hb;simp only[hb];exact Jl h
  .exact h.elim
def EV(s:St)(K:List (Nat × AV)->aQ->Nat->Nat->Prop):Prop:=
 match s with
 | ⟨sl,mem,nx,nt⟩=>K sl mem nx nt
theorem nU{s:St}{K:List (Nat × AV)->aQ->Nat->Nat->Prop}:EV s K↔K s.sl s.mem s.nx s.nt:=Iff.rfl
def kX(s:St)(d:Option Nat)(v:AV)(mem:aQ)(nx:Nat)(K:St->Prop):Prop:=
 EV s λsl _ _ nt=>match d with
  | none=>K ⟨sl,mem,nx,nt⟩
  | some d=>pG (Nat.blt d nt) (HX sl d v λsl=>K ⟨sl,mem,nx,nt⟩)
theorem eR{s:St}{d:Option Nat}{v:AV}{mem:aQ}{nx:Nat}{K:St->Prop}(h:kX s d v mem nx K):∃s',eY s d v mem nx=some s'/\K s':=by
 cases d with
 | none=>exact⟨_,rfl,h⟩
 | some d=>
  obtain⟨h1,h⟩:=b8.1 h;exact⟨_,by simp only[eY,h1],lT.1 h⟩
def pH(ops:List Oper)(sl:List (Nat × AV))(g:Option (Nat × Bool))(yes no:Prop):Prop:=
 match g with
 | none=>yes
 | some (j,want)=>match ops[j]? with
  | none=>no
  | some o=>match o.dst with
   | none=>no
   | some d=>match lk sl d with
    | some (.bool b)=>match want with
     | true=>Nu b yes no
     | false=>Nu b no yes
    | some (.tup [])=>no
    | _=>False
theorem tJ{ops:List Oper}{s:St}{g:Option (Nat × Bool)}{yes no:Prop}(h:pH ops s.sl g yes no):(mQ ops s g=some true/\yes)\/(mQ ops s g=some false/\no):=by
 unfold pH at h;unfold mQ;split at h
 .exact .inl ⟨rfl,h⟩
 .split at h
  .rename_i e;exact .inr ⟨by simp only[e],h⟩
  .rename_i e;simp only[e];split at h
   .rename_i e;exact .inr ⟨by simp only[e],h⟩
   .rename_i e;simp only[e];split at h
    .rename_i b e;simp only[e];split at h
     .cases b
      .exact .inr ⟨rfl,h⟩
      .exact .inl ⟨rfl,h⟩
     .cases b
      .exact .inl ⟨rfl,h⟩
      .exact .inr ⟨rfl,h⟩
    .rename_i e;exact .inr ⟨by simp only[e],h⟩
    .exact h.elim
def Lq(P:Program)(C:List (Nat × AV))(sl:List (Nat × AV))(f:Operand)(args:List Operand)(aa:AV->Prop)(K:FuncId->List AV->Prop):Prop:=
 kZ C sl f λv=>match v with
  | .fn (.func F) first cap=>JN C sl args λas=>match P.funcs[F]? with
   | some fn=>match fn.body with
    | some _=>match fn.name == "runtime.NumGoroutine" with
     | false=>match Nat.beq F YF with
      | false=>CB first as λl=>CB l cap λl=>K F l
      | true=>False
     | true=>False
    | none=>match CR fn with
     | true=>match first with
      | []=>match cap with
       | []=>match as with
        | [v]=>aa v
        | _=>False
       | _=>False
      | _=>False
     | false=>False
   | none=>False
  | .yld id=>JN C sl args λas=>K YF (.yld id::as)
  | _=>False
theorem RY{P:Program}{C:List (Nat × AV)}{s:St}{c:Call}{f:Operand}(hc:c.callee = .value f){aa:AV->Prop}{K:FuncId->List AV->Prop}(h:Lq P C s.sl f c.args.toList aa K) :
  (∃v,c8 P C s (.call c)=some (v,s.mem,s.nx)/\aa v)\/(c8 P C s (.call c)=none/\∃F l,pD P C s (.call c)=some (F,l)/\K F l):=by
 unfold Lq at h;obtain⟨v,h1,h⟩:=cD h;split at h
 .rename_i F first cap
  obtain⟨as,h2,h⟩:=pN h;split at h
  .rename_i fn h3;split at h
   .rename_i body h4;split at h
    .rename_i h5;split at h
     .rename_i h6;refine .inr ⟨?_,_,_,by simp only[pD,hc,h1,h2,h3,h4,h5,h6],gM.1 (gM.1 h)⟩;simp only[c8,hc,Gm,h1];cases first<;>cases cap<;>simp only[h3,h4]
     .exact h.elim
    .exact h.elim
   .rename_i h4;split at h
    .rename_i h5;split at h
     .split at h
      .split at h
       .exact .inl ⟨_,by simp only[c8,hc,Gm,h1,h2,h3,h4,h5],h⟩
       .exact h.elim
      .exact h.elim
     .exact h.elim
    .exact h.elim
  .exact h.elim
 .rename_i id;obtain⟨as,h2,h⟩:=pN h;exact .inr ⟨by simp only[c8,hc,Gm,h1],_,_,by simp only[pD,hc,h1,h2],h⟩
 .exact h.elim
def EP(cl:Bool)(P:Program)(C:List (Nat × AV))(H:Hk)(sl:List (Nat × AV))(mem:aQ)(nx:Nat)(op:Op)(K:AV->aQ->Nat->Prop)(Kp:Value->aQ->Nat->Prop):Prop:=
 match op with
 | .call c=>match c.callee with
  | .value f=>Lq P C sl f c.args.toList (λv=>K v mem nx) λF l=>H.call F l mem nx K Kp
  | _=>qC cl P C sl mem nx op K
 | _=>qC cl P C sl mem nx op K
theorem BI{cl:Bool}{P:Program}{C:List (Nat × AV)}{H:Hk}{s:St}{op:Op}{K:AV->aQ->Nat->Prop}{Kp:Value->aQ->Nat->Prop}(h:EP cl P C H s.sl s.mem s.nx op K Kp) :
  (∃v m n,c8 P C s op=some (v,m,n)/\K v m n)\/(c8 P C s op=none/\∃F l,pD P C s op=some (F,l)/\H.call F l s.mem s.nx K Kp):=by
 unfold EP at h;split at h
 .split at h
  .rename_i f hc;rcases RY hc h with⟨v,h1,h⟩|h
   .exact .inl ⟨_,_,_,h1,h⟩
   .exact .inr h
  .exact .inl (kO h)
 .exact .inl (kO h)
def Dv(cl:Bool)(P:Program)(C:List (Nat × AV))(H:Hk)(sl:List (Nat × AV))(mem:aQ)(nx:Nat)(op:Op)(K:AV->aQ->Nat->Prop)(Kp:Value->aQ->Nat->Prop):Prop:=
 match op with
 | .panic x=>kZ C sl x λv=>opt (quo v) λy=>Kp y mem nx
 | op=>EP cl P C H sl mem nx op K Kp
theorem Lg{cl:Bool}{P:Program}{C:List (Nat × AV)}{H:Hk}{s:St}{op:Op}{K:AV->aQ->Nat->Prop}{Kp:Value->aQ->Nat->Prop}(h:Dv cl P C H s.sl s.mem s.nx op K Kp) :
  (∃v m n,c8 P C s op=some (v,m,n)/\K v m n)\/(c8 P C s op=none/\∃F l,pD P C s op=some (F,l)/\H.call F l s.mem s.nx K Kp) \/
   (c8 P C s op=none/\pD P C s op=none/\∃y,J7 C s op=some y/\Kp y s.mem s.nx):=by
 unfold Dv at h;split at h
 .obtain⟨v,h1,h⟩:=cD h;obtain⟨y,h2,h⟩:=b9.1 h;exact .inr (.inr ⟨rfl,rfl,y,by simp only[J7,h1,h2],h⟩)
 .rcases BI h with h|h
  .exact .inl h
  .exact .inr (.inl h)
def KA(cl:Bool)(P:Program)(C:List (Nat × AV))(H:Hk)(ops:List Oper):List Oper->St->(St->Prop)->(Value->St->Prop)->Prop
 | [],s,K,_=>K s
 | o::r,s,K,Kp=>EV s λsl mem nx nt=>pH ops sl o.guard
   (Dv cl P C H sl mem nx o.op (λv mem nx=>kX s o.dst v mem nx λs'=>KA cl P C H ops r s' K Kp) λx mem nx=>Kp x ⟨sl,mem,nx,nt⟩)
   (kX s o.dst (.tup []) mem nx λs'=>KA cl P C H ops r s' K Kp)
theorem Gj{cl:Bool}{P:Program}{C:List (Nat × AV)}{H:Hk}{B:Nat}(hH:zL P C B H)(ops:List Oper):∀(l:List Oper) (s:St) (K K':St->Prop) (Kp Kp':Value->St->Prop),(∀s,K s->K' s)->(∀x s,Kp x s->Kp' x s)->KA cl P C H ops l s K Kp->xA P C (G6 P C B) ops l s K' Kp'
 | [],s,K,K',Kp,Kp',hk,hp,h=>hk s h
 | o::r,s,K,K',Kp,Kp',hk,hp,h=>by
  simp only[KA] at h;simp only[xA];have h:=nU.1 h;rcases tJ h with⟨h1,h⟩|⟨h1,h⟩
  .simp only[h1];rcases Lg h with⟨v,m,n,h2,h⟩|⟨h2,F,l,h3,h⟩|⟨h2,h3,y,h4,h⟩
   .obtain⟨s',h4,h⟩:=eR h;simp only[h2,h4];exact Gj hH ops r s' K K' Kp Kp' hk hp h
   .simp only[h2,h3];refine(hH.call _ _ _ _ _ _ h).mono (λv m n h=>?_) λx m n h=>hp _ _ h
    obtain⟨s',h4,h⟩:=eR h;simp only[h4];exact Gj hH ops r s' K K' Kp Kp' hk hp h
   .simp only[h2,h3,h4];exact hp _ _ h
  .obtain⟨s',h4,h⟩:=eR h;simp only[h1,h4];exact Gj hH ops r s' K K' Kp Kp' hk hp h
def gV(f:Nat × AB->Bool):aQ->(aQ->Prop)->Prop
 | [],K=>K []
 | p::r,K=>match f p with
  | true=>gV f r λl=>K (p::l)
  | false=>gV f r K
theorem cL{f:Nat × AB->Bool}:∀{m:aQ} {K:aQ->Prop},gV f m K↔K (m.filter f)
 | [],K=>Iff.rfl
 | p::r,K=>by
  simp only[gV,aBK];cases f p
  .simpa using cL
  .simpa using cL
def tE(cl:Bool)(P:Program)(C:List (Nat × AV))(ops:List Oper)(tr:List (List Nat))(base x:Nat)(mem:aQ)(nx:Nat):List BD->Prop->Prop
 | [],K=>K
 | r::rs,K=>match xZ r.i (T tr x) with
  | true=>tE cl P C ops tr base x mem nx rs K
  | false=>match r.want with
   | false=>tE cl P C ops tr base x mem nx rs K
   | true=>match ops[r.i]? with
    | none=>tE cl P C ops tr base x mem nx rs K
    | some o=>match kind P o.op with
     | .pure=>match still o.op with
      | true=>tE cl P C ops tr base x mem nx rs K
      | false=>gV (λp=>HV tr base ops.length r.i p.1) mem λm=>qC cl P C r.sl m nx o.op λv _ _=>match cl with
       | true=>pG (lQ v r.v) (tE cl P C ops tr base x mem nx rs K)
       | false=>v=r.v/\tE cl P C ops tr base x mem nx rs K
     | _=>tE cl P C ops tr base x mem nx rs K
theorem oI{cl:Bool}{P:Program}{C:List (Nat × AV)}{ops:List Oper}{tr:List (List Nat)}{base x:Nat}{s:St}:∀{recs:List BD} {K:Prop},tE cl P C ops tr base x s.mem s.nx recs K->T0 P C ops tr base x s recs/\K
 | [],K,h=>⟨trivial,h⟩
 | r::rs,K,h=>by
  simp only[tE] at h;simp only[T0];split at h
  .rename_i h1;obtain⟨h2,h3⟩:=oI h;exact⟨⟨λe=>(by rw[h1] at e;cases e),h2⟩,h3⟩
  .split at h
   .rename_i h1;obtain⟨h2,h3⟩:=oI h;exact⟨⟨λ_ e=>(by rw[h1] at e;cases e),h2⟩,h3⟩
   .split at h
    .rename_i h1;obtain⟨h2,h3⟩:=oI h;exact⟨⟨λ_ _ o e=>(by rw[h1] at e;cases e),h2⟩,h3⟩
    .rename_i o ho;split at h
     .split at h
      .rename_i h1;obtain⟨h2,h3⟩:=oI h;refine⟨⟨λ_ _ o' e _ e'=>?_,h2⟩,h3⟩;rw[ho] at e;cases e;rw[h1] at e';cases e'
      .have h:=cL.1 h;obtain⟨v,m,n,h1,h⟩:=kO (s:={ sl:=r.sl,mem:=fL tr base ops.length r.i s.mem,nx:=s.nx,nt:=s.nt }) h;have key:v=r.v/\tE cl P C ops tr base x s.mem s.nx rs K:=by
        cases cl
        .exact h
        .obtain⟨h2,h3⟩:=b8.1 h;exact⟨sI h2,h3⟩
       obtain⟨h2,h3⟩:=oI key.2;refine⟨⟨λ_ _ o' e _ _=>?_,h2⟩,h3⟩;rw[ho] at e;cases e;exact⟨m,n,by rw[<-key.1];exact h1⟩
     .rename_i hk;obtain⟨h2,h3⟩:=oI h;refine⟨⟨λ_ _ o' e e'=>?_,h2⟩,h3⟩;rw[ho] at e;cases e;exact(hk e').elim
def xY(cl:Bool)(P:Program)(C:List (Nat × AV))(H:Hk)(ops:List Oper)(tr:List (List Nat))(base:Nat)(K:St->Prop)(Kp:Value->aQ->Nat->Prop):List Nat->List BD->St->Prop
 | [],recs,s=>K s
 | i::r,recs,s=>match ops[i]? with
  | none=>False
  | some o=>EV s λsl mem nx nt=>pH ops sl o.guard
   (match kind P o.op with
    | .pure=>match still o.op with
     | true=>qC cl P C sl [] nx o.op λv _ _=>kX s o.dst v mem nx λs'=>xY cl P C H ops tr base K Kp r (⟨i,sl,true,v⟩::recs) s'
     | false=>gV (λp=>HV tr base ops.length i p.1) mem λm=>qC cl P C sl m nx o.op λv _ _=>kX s o.dst v mem nx λs'=>xY cl P C H ops tr base K Kp r (⟨i,sl,true,v⟩::recs) s'
    | .al=>pX (base+i) λid=>qC cl P C sl [] id o.op λv m _=>match m with
     | [(_,b)]=>kX s o.dst v ((id,b)::mem) nx λs'=>xY cl P C H ops tr base K Kp r (⟨i,sl,true,v⟩::recs) s'
     | _=>False
    | .eff=>gV (λp=>HV tr base ops.length i p.1) mem λm=>EP cl P C H sl m nx o.op (λv m nx'=>gV (λp=>!HV tr base ops.length i p.1) mem λrest=>gV (λp=>!s6 p.1 m) rest λrest=>CB m rest λm=>
      kX s o.dst v m nx' λs'=>tE cl P C ops tr base i m nx' recs (xY cl P C H ops tr base K Kp r recs s')) Kp)
   (kX s o.dst (.tup []) mem nx λs'=>xY cl P C H ops tr base K Kp r (⟨i,sl,false,.tup []⟩::recs) s')
theorem tK{cl:Bool}{P:Program}{C:List (Nat × AV)}{H:Hk}{B:Nat}(hH:zL P C B H)(ops:List Oper)(tr:List (List Nat))(base:Nat)(K K':St->Prop)(Kp Kp':Value->aQ->Nat->Prop)(hk:∀s,K s->K' s)(hp:∀x m n,Kp x m n->Kp' x m n) :
  ∀(l:List Nat) (recs:List BD) (s:St),xY cl P C H ops tr base K Kp l recs s->p8 P C (G6 P C B) ops tr base K' Kp' l recs s
 | [],recs,s,h=>hk s h
 | i::r,recs,s,h=>by
  simp only[xY] at h;simp only[p8];split at h
  .exact h.elim
  .rename_i o ho;simp only[ho];have h:=nU.1 h;rcases tJ h with⟨h1,h⟩|⟨h1,h⟩
   .simp only[h1];split at h
    .rename_i hkd;simp only[hkd];split at h
     .rename_i hst;obtain⟨v,m,n,h2,h⟩:=kO (s:={ sl:=s.sl,mem:=[],nx:=s.nx,nt:=s.nt }) h;obtain⟨m',n',h2'⟩:=qI (s:={ sl:=s.sl,mem:=[],nx:=s.nx,nt:=s.nt }) (s':={ s with mem:=fL tr base ops.length i s.mem }) hst rfl h2;obtain⟨s',h3,h⟩:=eR h;simp only[h2',h3];exact tK hH ops tr base K K' Kp Kp' hk hp r _ s' h
     .have h:=cL.1 h;obtain⟨v,m,n,h2,h⟩:=kO (s:={ s with mem:=fL tr base ops.length i s.mem }) h;obtain⟨s',h3,h⟩:=eR h;simp only[h2,h3];exact tK hH ops tr base K K' Kp Kp' hk hp r _ s' h
    .rename_i hkd;simp only[hkd];have h:=eE.1 h;obtain⟨v,m,n,h2,h⟩:=kO (s:={ s with mem:=[],nx:=base+i }) h;simp only[h2];split at h
     .obtain⟨s',h3,h⟩:=eR h;simp only[h3];exact tK hH ops tr base K K' Kp Kp' hk hp r _ s' h
     .exact h.elim
    .rename_i hkd;simp only[hkd];have h:=cL.1 h;rcases BI (s:={ s with mem:=fL tr base ops.length i s.mem }) h with⟨v,m,n,h2,h⟩|⟨h2,F,l,h3,h⟩
     .simp only[h2];have h:=gM.1 (cL.1 (cL.1 h));obtain⟨s',h3,h⟩:=eR h;have h3:eY s o.dst v (m++qW m (fZ tr base ops.length i s.mem)) n=some s':=h3;simp only[h3];obtain⟨e1,e2,_⟩:=f6 h3;have h:tE cl P C ops tr base i (m++qW m (fZ tr base ops.length i s.mem)) n recs (xY cl P C H ops tr base K Kp r recs s'):=h;rw[<-e1,<-e2] at h;obtain⟨h4,h⟩:=oI h;exact⟨h4,tK hH ops tr base K K' Kp Kp' hk hp r _ s' h⟩
     .rw[qL (s':=s) (λx _=>by cases x<;>rfl)] at h3;simp only[h2,h3];refine(hH.call _ _ _ _ _ _ h).mono (λv m n h=>?_) hp;have h:=gM.1 (cL.1 (cL.1 h));obtain⟨s',h3,h⟩:=eR h;have h3:eY s o.dst v (m++qW m (fZ tr base ops.length i s.mem)) n=some s':=h3;simp only[h3];obtain⟨e1,e2,_⟩:=f6 h3;have h:tE cl P C ops tr base i (m++qW m (fZ tr base ops.length i s.mem)) n recs (xY cl P C H ops tr base K Kp r recs s'):=h;rw[<-e1,<-e2] at h;obtain⟨h4,h⟩:=oI h;exact⟨h4,tK hH ops tr base K K' Kp Kp' hk hp r _ s' h⟩
   .obtain⟨s',h3,h⟩:=eR h;simp only[h1,h3];exact tK hH ops tr base K K' Kp Kp' hk hp r _ s' h
def A3(cl:Bool)(P:Program)(C:List (Nat × AV))(H:Hk):Code->St->(Exit->St->Prop)->Prop
 | .skip,s,Q=>Q .normal s
 | .seq x y,s,Q=>A3 cl P C H x s λe s'=>match e with
  | .normal=>A3 cl P C H y s' Q
  | e=>Q e s'
 | .cond c x y,s,Q=>EV s λsl _ _ _=>kZ C sl c λv=>match v with
  | .bool b=>Nu b (A3 cl P C H x s Q) (A3 cl P C H y s Q)
  | _=>False
 | .block id c,s,Q=>A3 cl P C H c s λe s'=>match e with
  | .exit i=>match Nat.beq i id with
   | true=>Q .normal s'
   | false=>Q (.exit i) s'
  | e=>Q e s'
 | .loop c,s,Q=>H.loop c s Q
 | .label _,s,Q=>Q .normal s
 | .scope c,s,Q=>A3 cl P C H c s λe s'=>match e with
  | .goto _=>False
  | e=>Q e s'
 | .exit i,s,Q=>Q (.exit i) s
 | .ret,s,Q=>Q .ret s
 | .region _ ops draw,s,Q=>match draw with
  | false=>KA cl P C H ops.toList ops.toList s (λs'=>Q .normal s') λx s'=>Q (.panic [pe x]) s'
  | true=>match P.follows .mixedOrders with
   | true=>match BL P ops.toList (t8 P ops.toList ops.toList.length [] (yC ops.toList.length)) with
    | true=>EV s λsl mem nx nt=>pX (nx+ops.toList.length) λn=>tZ (t8 P ops.toList ops.toList.length [] (yC ops.toList.length)) λord=>xY cl P C H ops.toList (Li ops.toList []) nx (λs'=>Q .normal s') (λx m n=>Q (.panic [pe x]) ⟨vH ops.toList sl,m,n,nt⟩) ord [] ⟨sl,mem,n,nt⟩
    | false=>False
   | false=>False
 | _,_,_=>False
theorem XK{cl:Bool}{P:Program}{C:List (Nat × AV)}{H:Hk}{B:Nat}(hH:zL P C B H):∀(c:Code) (s:St) (Q Q':Exit->St->Prop),(∀e s,Q e s->Q' e s)->A3 cl P C H c s Q->EW P C (G6 P C B) c s Q':=by
 intro c
 induction c with
 | skip=>exact λs Q Q' hq h=>hq _ _ h
 | label l=>exact λs Q Q' hq h=>hq _ _ h
 | scope c ih=>
  intro s Q Q' hq h;simp only[A3] at h;simp only[EW];refine ih s _ _ (λe s' h=>?_) h;cases e with
  | goto l=>exact h
  | normal=>exact hq _ _ h
  | exit i=>exact hq _ _ h
  | ret=>exact hq _ _ h
  | panic c=>exact hq _ _ h
  | outgrown=>exact hq _ _ h
 | exit i=>exact λs Q Q' hq h=>hq _ _ h
 | ret=>exact λs Q Q' hq h=>hq _ _ h
 | loop c ih=>exact λs Q Q' hq h=>(hH.loop c s Q h).mono hq
 | seq x y ihx ihy=>
  intro s Q Q' hq h;simp only[A3] at h;simp only[EW];refine ihx s _ _ (λe s' h=>?_) h;cases e with
  | normal=>exact ihy s' Q Q' hq h
  | exit i=>exact hq _ _ h
  | goto l=>exact hq _ _ h
  | ret=>exact hq _ _ h
  | panic c=>exact hq _ _ h
  | outgrown=>exact hq _ _ h
 | cond c x y ihx ihy=>
  intro s Q Q' hq h;simp only[A3] at h;simp only[EW];have h:=nU.1 h;obtain⟨v,h1,h⟩:=cD h;simp only[h1];split at h
  .rename_i b;cases b
   .exact ihy s Q Q' hq h
   .exact ihx s Q Q' hq h
  .exact h.elim
 | block id c ih=>
  intro s Q Q' hq h;simp only[A3] at h;simp only[EW];refine ih s _ _ (λe s' h=>?_) h;cases e with
  | exit i=>
   simp only at h |-;split at h
   .rename_i e;simp only[e];exact hq _ _ h
   .rename_i e;simp only[e];exact hq _ _ h
  | normal=>exact hq _ _ h
  | goto l=>exact hq _ _ h
  | ret=>exact hq _ _ h
  | panic c=>exact hq _ _ h
  | outgrown=>exact hq _ _ h
 | region id ops draw=>
  intro s Q Q' hq h;cases draw with
  | false=>
   simp only[A3] at h;simp only[EW];exact Gj hH _ _ _ _ _ _ _ (λs h=>hq _ _ h) (λx s h=>hq _ _ h) h
  | true=>
   simp only[A3] at h;simp only[EW];split at h
   .rename_i hmix;simp only[hmix];split at h
    .rename_i hok;simp only[FJ,hok];exact tK hH _ _ _ _ _ _ _ (λs h=>hq _ _ h) (λx m n h=>hq _ _ h) _ _ _ (lD.1 (eE.1 (nU.1 h)))
    .exact h.elim
   .exact h.elim
 | _=>intro s Q Q' hq h;simp only[A3] at h
theorem fE{cl:Bool}{P:Program}{C:List (Nat × AV)}{H:Hk}{B:Nat}(hH:zL P C B H)(c:Code)(s:St)(Q:Exit->St->Prop)(h:A3 cl P C H c s Q):eH P C B c s Q:=
 rN GC c s Q (XK hH c s Q Q (λ_ _ h=>h) h)
def L4:Nat->List AV->(List (Nat × AV)->Prop)->Prop
 | _,[],K=>K []
 | k,a::r,K=>pX k λk=>L4 (k+1) r λl=>K ((k,a)::l)
theorem F1:∀{k:Nat} {l:List AV} {K:List (Nat × AV)->Prop},L4 k l K↔K (IN k l)
 | k,[],K=>Iff.rfl
 | k,a::r,K=>by simp only[L4,IN,eE,F1]
def s8(ntmps:Nat)(args:List AV)(mem:aQ)(nx:Nat)(K:St->Prop):Prop:=
 L4 0 args λsl=>pG (Nat.ble args.length ntmps) (pX ntmps λnt=>K ⟨sl,mem,nx,nt⟩)
theorem jN{ntmps:Nat}{args:List AV}{mem:aQ}{nx:Nat}{K:St->Prop}(h:s8 ntmps args mem nx K):K (enter ntmps args mem nx):=by
 obtain⟨h1,h⟩:=b8.1 (F1.1 h);have h:=eE.1 h;have h1:=Y5 h1;have e:enter ntmps args mem nx=⟨IN 0 args,mem,nx,ntmps⟩:=by simp only[enter];congr 1;omega
 rw[e];exact h
def LG(P:Program)(s:St):List ResultVar->(List AV->Prop)->Prop
 | [],K=>K []
 | .tmp t::r,K=>opt (lk s.sl t) λv=>LG P s r λl=>K (v::l)
 | .cell a t::r,K=>opt (lk s.sl a) λp=>Ih P s.mem t p λv=>LG P s r λl=>K (v::l)
theorem HK{P:Program}{s:St}:∀{rs:List ResultVar} {K:List AV->Prop},LG P s rs K->∃l,xR P s rs=some l/\K l
 | [],K,h=>⟨[],rfl,h⟩
 | .tmp t::r,K,h=>by
  obtain⟨v,h1,h⟩:=b9.1 h;obtain⟨l,h2,h⟩:=HK h;exact⟨_,by simp only[xR,h1,h2],h⟩
 | .cell a t::r,K,h=>by
  obtain⟨p,h1,h⟩:=b9.1 h;obtain⟨v,h2,h⟩:=MC h;obtain⟨l,h3,h⟩:=HK h;exact⟨_,by simp only[xR,h1,h2,h3],h⟩
def GZ(P:Program)(rs:List ResultVar)(s:St)(K:AV->Prop):Prop:=
 LG P s rs λl=>match l with
  | [v]=>K v
  | []=>K (.tup [])
  | a::b::r=>K (.tup (a::b::r))
theorem GB{P:Program}{rs:List ResultVar}{s:St}{K:AV->Prop}(h:GZ P rs s K):∃v,Ah P rs s=some v/\K v:=by
 obtain⟨l,h1,h⟩:=HK h;unfold Ah;rw[h1]
 match l,h with
 | [v],h=>exact⟨_,rfl,h⟩
 | [],h=>exact⟨_,rfl,h⟩
 | a::b::r,h=>exact⟨_,rfl,h⟩
def U6(P:Program)(rs:List ResultVar)(Q:AV->aQ->Nat->Prop):Exit->St->Prop:=λe s=>
 match e with
 | .normal=>EV s λ_ mem nx _=>GZ P rs s λr=>Q r mem nx
 | .ret=>EV s λ_ mem nx _=>GZ P rs s λr=>Q r mem nx
 | _=>False
theorem Ow{P:Program}{rs:List ResultVar}{Q:AV->aQ->Nat->Prop}{e:Exit}{s:St}(h:U6 P rs Q e s):Nc P rs Q e s:=by
 cases e with
 | normal=>
  obtain⟨v,h1,h⟩:=GB (show GZ P rs s _ from h);simp only[Nc,h1];exact h
 | ret=>
  obtain⟨v,h1,h⟩:=GB (show GZ P rs s _ from h);simp only[Nc,h1];exact h
 | _=>exact(show False from h).elim
theorem fG{P:Program}{C:List (Nat × AV)}{F:FuncId}{fn:Func}{c:Code}{args:List AV}{mem:aQ}{nx:Nat}{Q:AV->aQ->Nat->Prop}(hΓ:∀p∈C,NN p.2)(hf:P.funcs[F]? = some fn)(hb:fn.body=some c)
  (h:s8 fn.ntmps args mem nx λs=>A3 false P C (Gw P C nx) c s (U6 P fn.results.toList (kH nx Q))) (hF:Nat.beq F YF=false:=by rfl):aJ P C F args mem nx Q:=
 (xG hf hb ((fE vU _ _ _ (jN h)).mono λ_ _ h=>Ow h) hF).turn hΓ
def E0(P:Program)(rs:List ResultVar)(Q:AV->aQ->Nat->Prop)(Qp:Value->aQ->Nat->Prop):Exit->St->Prop:=λe s=>
 match e with
 | .normal=>EV s λ_ mem nx _=>GZ P rs s λr=>Q r mem nx
 | .ret=>EV s λ_ mem nx _=>GZ P rs s λr=>Q r mem nx
 | .panic [⟨x,false,false⟩]=>EV s λ_ mem nx _=>Qp x mem nx
 | _=>False
theorem CK{P:Program}{rs:List ResultVar}{Q:AV->aQ->Nat->Prop}{Qp:Value->aQ->Nat->Prop}{e:Exit}{s:St}(h:E0 P rs Q Qp e s):DA P rs Q Qp e s:=by
 cases e with
 | normal=>
  obtain⟨v,h1,h⟩:=GB (show GZ P rs s _ from h);simp only[DA,h1];exact h
 | ret=>
  obtain⟨v,h1,h⟩:=GB (show GZ P rs s _ from h);simp only[DA,h1];exact h
 | panic ch=>
  unfold E0 at h;split at h
  .rename_i e;cases e
  .rename_i e;cases e
  .rename_i e;cases e;exact h
  .exact h.elim
 | _=>exact(show False from h).elim
end Go.Ax
