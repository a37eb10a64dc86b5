/- A part of the proof. -/
import Derived.Test.YtidjhgajglebnaaGreatDoorAx5
set_option linter.unusedVariables false
set_option linter.unusedSimpArgs false
set_option maxRecDepth 1000000
set_option maxHeartbeats 16000000
namespace Go.Ax
open Go
variable{Z:List (Nat × AV)}{P:Program}{n nx B:Nat}{t:TypeId}{K Q:AV->aP->Nat->Prop}{mem:aP}{ops:List Oper}{v:AV}{args:List AV}{s:St}{cl:Bool}{Qp:Value->aP->Nat->Prop}{H:Hk}
def SQ(cl:Bool)(P:Program)(mem:aP)(t:TypeId)(x y:AV)(K:AV->aP->Prop):Prop:=
 match P.underlying t with
 | some (.slice e)=>match iI P e with
  | some n=>match x with
   | .sl id 0 len=>match lk mem id with
    | some (.row t' sz' xs)=>Ub cl mem n y λys=>sF (Nat.blt 0 n && (Nat.beq sz' n && (Nat.ble ys.length len && Nat.ble len xs.length)))
      (v6 cl (xs.drop ys.length) λzs=>S3 cl ys zs λzs=>B0 cl ys.length λl=>Uh mem id (.row t' sz' zs) λm=>K (.int .i64 l) m)
    | _=>False
   | _=>False
  | none=>False
 | _=>False
theorem Ur{x y:AV}{K:AV->aP->Prop}(h:SQ cl P mem t x y K):∃v m,J4 P mem t x y=some (v,m)/\K v m:=by
 unfold SQ at h;unfold J4;split at h
 .rename_i e hu;simp only[hu];split at h
  .rename_i n hn;simp only[hn];split at h
   .split at h
    .rename_i hid;obtain⟨ys,h4,h⟩:=QG h;obtain⟨h5,h⟩:=cR.1 h;rw[aAd] at h5;exact⟨_,_,by simp only[h5.1,hid,h4,h5.2],uV.1 (jP.1 (KD.1 (jU.1 h)))⟩
    .exact h.elim
   .exact h.elim
  .exact h.elim
 .exact h.elim
def MN(P:Program)(mem:aP)(t:TypeId)(x:AV)(K:aP->Prop):Prop:=
 match P.underlying t with
 | some (.slice e)=>match nP P e with
  | some z=>match x with
   | .sl id off len=>match lk mem id with
    | some (.row t' sz xs)=>sF (mX z && (Nat.beq z.cells.length sz && (Nat.blt 0 sz && (Nat.blt 0 len && Nat.ble (off+len) xs.length))))
      (Uh mem id (.row t' sz (xs.take off++(List.replicate len z++xs.drop (off+len)))) λm=>K m)
    | _=>False
   | _=>False
  | none=>False
 | _=>False
theorem P9{x:AV}{K:aP->Prop}(h:MN P mem t x K):∃m,Fg P mem t x=some m/\K m:=by
 unfold MN at h;unfold Fg;split at h
 .rename_i e hu;simp only[hu];split at h
  .rename_i z hz;simp only[hz];split at h
   .split at h
    .rename_i hid;obtain⟨h5,h⟩:=cR.1 h;exact⟨_,by simp only[hid,h5],uV.1 h⟩
    .exact h.elim
   .exact h.elim
  .exact h.elim
 .exact h.elim
def GD(cl:Bool)(P:Program)(Z:List (Nat × AV))(sl:List (Nat × AV))(mem:aP)(nx:Nat)(b:Builtin)(args:List Operand)(ts:List TypeId)(K:AV->aP->Nat->Prop):Prop:=
 match b with
 | .len=>match args,ts with
  | [x],[t]=>oY Z sl x λa=>opt (Tu P mem t a) λv=>match v with
   | .int k n=>vL cl k n λv=>K v mem nx
   | _=>False
  | _,_=>False
 | .append=>match args,ts with
  | [x,y],[t,u]=>oY Z sl x λa=>oY Z sl y λb=>II cl P mem nx t u a b K
  | _,_=>False
 | .min=>Ku Z sl args λl=>match l with
  | .int k x::r=>opt (OD x r) λm=>vL cl k m λv=>K v mem nx
  | _=>False
 | .max=>Ku Z sl args λl=>match l with
  | .int k x::r=>opt (PC x r) λm=>vL cl k m λv=>K v mem nx
  | _=>False
 | .unsafeSliceData=>match args,ts with
  | [x],[_]=>oY Z sl x λa=>opt (vI a) λv=>K v mem nx
  | _,_=>False
 | .unsafeString=>match args,ts with
  | [x,y],[t,_]=>oY Z sl x λa=>oY Z sl y λb=>match tS P mem t a b with
   | some (.str l,m)=>v6 cl l λl=>FI m λm=>K (.str l) m nx
   | _=>False
  | _,_=>False
 | .copy=>match args,ts with
  | [x,y],[t,_]=>oY Z sl x λa=>oY Z sl y λb=>SQ cl P mem t a b λv m=>K v m nx
  | _,_=>False
 | .clear=>match args,ts with
  | [x],[t]=>oY Z sl x λa=>MN P mem t a λm=>K (.tup []) m nx
  | _,_=>False
 | _=>False
theorem Ly{b:Builtin}{args:List Operand}{ts:List TypeId}(h:GD cl P Z s.sl s.mem s.nx b args ts K):
  ∃v m n,fF P Z s b args ts=some (v,m,n)/\K v m n:=by
 unfold GD at h;split at h
 .split at h
  .obtain⟨a,h1,h⟩:=cZ h;obtain⟨v,h2,h⟩:=dF.1 h;split at h
   .exact⟨_,_,_,by simp only[fF,h1,h2,bS],pY.1 h⟩
   .exact h.elim
  .exact h.elim
 .split at h
  .obtain⟨a,h1,h⟩:=cZ h;obtain⟨b,h2,h⟩:=cZ h;obtain⟨v,m,n,h3,h⟩:=PD h;exact⟨_,_,_,by simp only[fF,h1,h2];exact h3,h⟩
  .exact h.elim
 .obtain⟨l,h1,h⟩:=sE h;split at h
  .obtain⟨m,h2,h⟩:=dF.1 h;exact⟨_,_,_,by simp only[fF,h1,h2],pY.1 h⟩
  .exact h.elim
 .obtain⟨l,h1,h⟩:=sE h;split at h
  .obtain⟨m,h2,h⟩:=dF.1 h;exact⟨_,_,_,by simp only[fF,h1,h2],pY.1 h⟩
  .exact h.elim
 .split at h
  .obtain⟨a,h1,h⟩:=cZ h;obtain⟨v,h2,h⟩:=dF.1 h;exact⟨_,_,_,by simp only[fF,h1,h2,bS],h⟩
  .exact h.elim
 .split at h
  .obtain⟨a,h1,h⟩:=cZ h;obtain⟨b,h2,h⟩:=cZ h;split at h
   .rename_i l m h3;exact⟨_,_,_,by simp only[fF,h1,h2,h3],Al.1 (jU.1 h)⟩
   .exact h.elim
  .exact h.elim
 .split at h
  .obtain⟨a,h1,h⟩:=cZ h;obtain⟨b,h2,h⟩:=cZ h;obtain⟨v,m,h3,h⟩:=Ur h;exact⟨_,_,_,by simp only[fF,h1,h2,h3],h⟩
  .exact h.elim
 .split at h
  .obtain⟨a,h1,h⟩:=cZ h;obtain⟨m,h3,h⟩:=P9 h;exact⟨_,_,_,by simp only[fF,h1,h3],h⟩
  .exact h.elim
 .exact h.elim
def yB(cl:Bool)(P:Program)(Z:List (Nat × AV))(sl:List (Nat × AV))(mem:aP)(nx:Nat)(op:Op)(K:AV->aP->Nat->Prop):Prop:=
 match op with
 | .move x=>oY Z sl x λv=>K v mem nx
 | .assign x=>oY Z sl x λv=>K v mem nx
 | .pick c a b=>oY Z sl c λc=>match c with
  | .bool c=>Sj c (oY Z sl a λv=>K v mem nx) (oY Z sl b λv=>K v mem nx)
  | _=>False
 | .alloc t=>L6 P mem nx t K
 | .box t x=>oY Z sl x λv=>YG P mem nx t v K
 | .build t parts=>BT Z sl parts.toList λps=>LX P t ps λv=>K v mem nx
 | .buildSlice t len parts=>BT Z sl parts.toList λps=>wR P mem nx t len ps K
 | .load t x=>oY Z sl x λp=>M5 P mem t p λv=>K v mem nx
 | .store t x y=>oY Z sl x λp=>oY Z sl y λv=>MP P mem t p v λm=>K (.tup []) m nx
 | .nilCheck x=>oY Z sl x λp=>opt (UY p) λv=>K v mem nx
 | .binOp op t x y _=>oY Z sl x λa=>oY Z sl y λb=>WP cl P op t x y a b λv=>K v mem nx
 | .unOp op _ x=>oY Z sl x λa=>ZU cl op a λv=>K v mem nx
 | .convert src dst x=>oY Z sl x λa=>match P.underlying dst with
  | some (.slice _)=>Cu cl P mem nx src dst a K
  | _=>R4 cl P mem src dst a λv=>K v mem nx
 | .makeInterface t x=>oY Z sl x λa=>opt (H7 P t a) λv=>K v mem nx
 | .makeFunc fn first cap=>Ku Z sl first.toList λl1=>Ku Z sl cap.toList λl2=>K (.fn fn l1 l2) mem nx
 | .makeSlice t l c=>oY Z sl l λa=>oY Z sl c λb=>K0 cl P mem nx t a b K
 | .slice t x lo hi mx=>oY Z sl x λa=>IY Z sl lo λl=>IY Z sl hi λh=>IY Z sl mx λm=>match !m.isSome || h.isSome with
  | true=>MB cl P mem t a l h m λv=>K v mem nx
  | false=>False
 | .fieldAddr t x f=>oY Z sl x λp=>At P t f p λv=>K v mem nx
 | .field t x f=>oY Z sl x λp=>MD P t f p λv=>K v mem nx
 | .indexAddr t x ix=>oY Z sl x λp=>oY Z sl ix λi=>AR cl P mem t p i λv=>K v mem nx
 | .index t x ix=>oY Z sl x λp=>oY Z sl ix λi=>Le cl P t p i λv=>K v mem nx
 | .extract x i=>oY Z sl x λp=>opt (B2 p i) λv=>K v mem nx
 | .typeAssert x _ t ok=>oY Z sl x λp=>opt (Dt P t ok p) λv=>K v mem nx
 | .makeMap _ reserve=>match reserve with
  | none=>tX (nx+1) λn=>K (.mp nx) ((nx,.mapb [])::mem) n
  | some _=>False
 | .lookup t x ix ok=>oY Z sl x λp=>oY Z sl ix λi=>opt (sK P mem t p i ok) λv=>K v mem nx
 | .mapUpdate t x y z=>oY Z sl x λp=>oY Z sl y λk=>oY Z sl z λv=>vV P mem t p k v λm=>K (.tup []) m nx
 | .insert t x y z=>oY Z sl x λp=>oY Z sl y λk=>oY Z sl z λv=>vV P mem t p k v λm=>K (.tup []) m nx
 | .call c=>match c.callee with
  | .builtin b=>GD cl P Z sl mem nx b c.args.toList c.argTypes.toList K
  | _=>False
 | _=>False
theorem qN{op:Op}(h:yB cl P Z s.sl s.mem s.nx op K):∃v m n,dI P Z s op=some (v,m,n)/\K v m n:=by
 cases op<;>simp only[yB] at h<;>simp only[dI]<;>first|exact h.elim|skip
 case move x=>
  obtain⟨v,h1,h⟩:=cZ h;exact⟨_,_,_,by simp only[h1,bS],h⟩
 case assign x=>
  obtain⟨v,h1,h⟩:=cZ h;exact⟨_,_,_,by simp only[h1,bS],h⟩
 case pick c x y=>
  obtain⟨v,h1,h⟩:=cZ h;split at h
  .rename_i b;cases b
   .obtain⟨v,h2,h⟩:=cZ (show oY Z s.sl y _ from h);exact⟨_,_,_,by simp only[h1,h2,bS],h⟩
   .obtain⟨v,h2,h⟩:=cZ (show oY Z s.sl x _ from h);exact⟨_,_,_,by simp only[h1,h2,bS],h⟩
  .exact h.elim
 case alloc t=>exact QC h
 case box t x=>
  obtain⟨v,h1,h⟩:=cZ h;simp only[h1];exact WH h
 case build t parts=>
  obtain⟨v,h1,h⟩:=wT h;obtain⟨v,h2,h⟩:=Qx h;exact⟨_,_,_,by simp only[h1,h2,bS],h⟩
 case buildSlice t len parts=>
  obtain⟨v,h1,h⟩:=wT h;simp only[h1];exact GW h
 case load t x=>
  obtain⟨v,h1,h⟩:=cZ h;obtain⟨v,h2,h⟩:=MT h;exact⟨_,_,_,by simp only[h1,h2,bS],h⟩
 case store t x y=>
  obtain⟨v,h1,h⟩:=cZ h;obtain⟨u,h2,h⟩:=cZ h;obtain⟨m,h3,h⟩:=Qb h;exact⟨_,_,_,by simp only[h1,h2,h3],h⟩
 case nilCheck x=>
  obtain⟨v,h1,h⟩:=cZ h;obtain⟨v,h2,h⟩:=dF.1 h;exact⟨_,_,_,by simp only[h1,h2,bS],h⟩
 case binOp op t x y t'=>
  obtain⟨v,h1,h⟩:=cZ h;obtain⟨u,h2,h⟩:=cZ h;obtain⟨m,h3,h⟩:=We h;exact⟨_,_,_,by simp only[h1,h2,h3,bS],h⟩
 case unOp op t x=>
  obtain⟨v,h1,h⟩:=cZ h;obtain⟨v,h2,h⟩:=Yt h;exact⟨_,_,_,by simp only[h1,h2,bS],h⟩
 case convert src dst x=>
  obtain⟨v,h1,h⟩:=cZ h;simp only[h1];split at h
  .rename_i e hu;have hn:Ee P s.mem src dst v=none:=by
    unfold Ee;split
    .rfl
    .rw[hu]
   rw[hn];exact JS h
  .obtain⟨u,h2,h⟩:=UP h;exact⟨_,_,_,by simp only[h2],h⟩
 case makeInterface t x=>
  obtain⟨v,h1,h⟩:=cZ h;obtain⟨v,h2,h⟩:=dF.1 h;exact⟨_,_,_,by simp only[h1,h2,bS],h⟩
 case makeFunc fn first cap=>
  obtain⟨v,h1,h⟩:=sE h;obtain⟨v,h2,h⟩:=sE h;exact⟨_,_,_,by simp only[h1,h2],h⟩
 case makeSlice t l c=>
  obtain⟨v,h1,h⟩:=cZ h;obtain⟨u,h2,h⟩:=cZ h;simp only[h1,h2];exact TY h
 case slice t x lo hi mx=>
  obtain⟨v,h1,h⟩:=cZ h;obtain⟨l,h2,h⟩:=Cd h;obtain⟨h',h3,h⟩:=Cd h;obtain⟨m,h4,h⟩:=Cd h;simp only[h1,h2,h3,h4];split at h
  .rename_i e;obtain⟨u,h5,h⟩:=Qn h;exact⟨_,_,_,by simp only[e,h5,bS],h⟩
  .exact h.elim
 case fieldAddr t x f=>
  obtain⟨v,h1,h⟩:=cZ h;obtain⟨v,h2,h⟩:=Ht h;exact⟨_,_,_,by simp only[h1,h2,bS],h⟩
 case field t x f=>
  obtain⟨v,h1,h⟩:=cZ h;obtain⟨v,h2,h⟩:=SG h;exact⟨_,_,_,by simp only[h1,h2,bS],h⟩
 case indexAddr t x ix=>
  obtain⟨v,h1,h⟩:=cZ h;obtain⟨u,h2,h⟩:=cZ h;obtain⟨m,h3,h⟩:=Hs h;exact⟨_,_,_,by simp only[h1,h2,h3,bS],h⟩
 case index t x ix=>
  obtain⟨v,h1,h⟩:=cZ h;obtain⟨u,h2,h⟩:=cZ h;obtain⟨m,h3,h⟩:=Q6 h;exact⟨_,_,_,by simp only[h1,h2,h3,bS],h⟩
 case typeAssert x xt t ok=>
  obtain⟨p,h1,h⟩:=cZ h;obtain⟨v,h2,h⟩:=dF.1 h;exact⟨_,_,_,by simp only[h1,h2,bS],h⟩
 case extract x i=>
  obtain⟨v,h1,h⟩:=cZ h;obtain⟨v,h2,h⟩:=dF.1 h;exact⟨_,_,_,by simp only[h1,h2,bS],h⟩
 case makeMap t r=>
  split at h
  .exact⟨_,_,_,rfl,fM.1 h⟩
  .exact h.elim
 case lookup t x ix ok=>
  obtain⟨v,h1,h⟩:=cZ h;obtain⟨u,h2,h⟩:=cZ h;obtain⟨m,h3,h⟩:=dF.1 h;exact⟨_,_,_,by simp only[h1,h2,h3,bS],h⟩
 case mapUpdate t x y z=>
  obtain⟨v,h1,h⟩:=cZ h;obtain⟨u,h2,h⟩:=cZ h;obtain⟨u',h3,h⟩:=cZ h;obtain⟨m,h4,h⟩:=B6 h;exact⟨_,_,_,by simp only[h1,h2,h3,h4],h⟩
 case insert t x y z=>
  obtain⟨v,h1,h⟩:=cZ h;obtain⟨u,h2,h⟩:=cZ h;obtain⟨u',h3,h⟩:=cZ h;obtain⟨m,h4,h⟩:=B6 h;exact⟨_,_,_,by simp only[h1,h2,h3,h4],h⟩
 case call c=>
  split at h
  .rename_i hb;simp only[hb];exact Ly h
  .exact h.elim
def Ki(s:St)(K:List (Nat × AV)->aP->Nat->Nat->Prop):Prop:=
 match s with
 | ⟨sl,mem,nx,nt⟩=>K sl mem nx nt
theorem yM{K:List (Nat × AV)->aP->Nat->Nat->Prop}:Ki s K↔K s.sl s.mem s.nx s.nt:=Iff.rfl
def qA(s:St)(d:Option Nat)(v:AV)(mem:aP)(nx:Nat)(K:St->Prop):Prop:=
 Ki s λsl _ _ nt=>match d with
  | none=>K ⟨sl,mem,nx,nt⟩
  | some d=>sF (Nat.blt d nt) (Uh sl d v λsl=>K ⟨sl,mem,nx,nt⟩)
theorem gJ{d:Option Nat}{K:St->Prop}(h:qA s d v mem nx K):∃s',fV s d v mem nx=some s'/\K s':=by
 cases d with
 | none=>exact⟨_,rfl,h⟩
 | some d=>
  obtain⟨h1,h⟩:=cR.1 h;exact⟨_,by simp only[fV,h1],uV.1 h⟩
def yA(ops:List Oper)(sl:List (Nat × AV))(g:Option (Nat × Bool))(yes no:Prop):Prop:=
 match g with
 | none=>yes
 | some (j,want)=>match ops[j]? with
  | none=>no
  | some o=>match o.dst with
   | none=>no
   | some d=>match lk sl d with
    | some (.bool b)=>match want with
     | true=>Sj b yes no
     | false=>Sj b no yes
    | some (.tup [])=>no
    | _=>False
theorem yX{g:Option (Nat × Bool)}{yes no:Prop}(h:yA ops s.sl g yes no):(oJ ops s g=some true/\yes)\/(oJ ops s g=some false/\no):=by
 unfold yA at h;unfold oJ;split at h
 .exact .inl ⟨rfl,h⟩
 .split at h
  .rename_i e;exact .inr ⟨by simp only[e],h⟩
  .rename_i e;simp only[e];split at h
   .rename_i e;exact .inr ⟨by simp only[e],h⟩
   .rename_i e;simp only[e];split at h
    .rename_i b e;simp only[e];split at h
     .cases b
      .exact .inr ⟨rfl,h⟩
      .exact .inl ⟨rfl,h⟩
     .cases b
      .exact .inl ⟨rfl,h⟩
      .exact .inr ⟨rfl,h⟩
    .rename_i e;exact .inr ⟨by simp only[e],h⟩
    .exact h.elim
def SN(P:Program)(Z:List (Nat × AV))(sl:List (Nat × AV))(f:Operand)(args:List Operand)(E:AV->Prop)(K:FuncId->List AV->Prop):Prop:=
 oY Z sl f λv=>match v with
  | .fn (.func F) first cap=>Ku Z sl args λas=>match P.funcs[F]? with
   | some fn=>match fn.body with
    | some _=>match fn.name == "runtime.NumGoroutine" with
     | false=>match Nat.beq F YF with
      | false=>GN first as λl=>GN l cap λl=>K F l
      | true=>False
     | true=>False
    | none=>match EA fn with
     | true=>match first with
      | []=>match cap with
       | []=>match as with
        | [v]=>E v
        | _=>False
       | _=>False
      | _=>False
     | false=>False
   | none=>False
  | .yld id=>Ku Z sl args λas=>K YF (.yld id::as)
  | _=>False
theorem UA{c:Call}{f:Operand}(hc:c.callee = .value f){E:AV->Prop}{K:FuncId->List AV->Prop}(h:SN P Z s.sl f c.args.toList E K):
  (∃v,dI P Z s (.call c)=some (v,s.mem,s.nx)/\E v)\/(dI P Z s (.call c)=none/\∃F l,rK P Z s (.call c)=some (F,l)/\K F l):=by
 unfold SN at h;obtain⟨v,h1,h⟩:=cZ h;split at h
 .rename_i F first cap
  obtain⟨as,h2,h⟩:=sE h;split at h
  .rename_i fn h3;split at h
   .rename_i body h4;split at h
    .rename_i h5;split at h
     .rename_i h6;refine .inr ⟨?_,_,_,by simp only[rK,hc,h1,h2,h3,h4,h5,h6],iM.1 (iM.1 h)⟩;simp only[dI,hc,Ig,h1];cases first<;>cases cap<;>simp only[h3,h4]
     .exact h.elim
    .exact h.elim
   .rename_i h4;split at h
    .rename_i h5;split at h
     .split at h
      .split at h
       .exact .inl ⟨_,by simp only[dI,hc,Ig,h1,h2,h3,h4,h5],h⟩
       .exact h.elim
      .exact h.elim
     .exact h.elim
    .exact h.elim
  .exact h.elim
 .rename_i id;obtain⟨as,h2,h⟩:=sE h;exact .inr ⟨by simp only[dI,hc,Ig,h1],_,_,by simp only[rK,hc,h1,h2],h⟩
 .exact h.elim
def Id(cl:Bool)(P:Program)(Z:List (Nat × AV))(H:Hk)(sl:List (Nat × AV))(mem:aP)(nx:Nat)(op:Op)(K:AV->aP->Nat->Prop)(Kp:Value->aP->Nat->Prop):Prop:=
 match op with
 | .call c=>match c.callee with
  | .value f=>SN P Z sl f c.args.toList (λv=>K v mem nx) λF l=>H.call F l mem nx K Kp
  | _=>yB cl P Z sl mem nx op K
 | _=>yB cl P Z sl mem nx op K
theorem FO{op:Op}{Kp:Value->aP->Nat->Prop}(h:Id cl P Z H s.sl s.mem s.nx op K Kp):
  (∃v m n,dI P Z s op=some (v,m,n)/\K v m n)\/(dI P Z s op=none/\∃F l,rK P Z s op=some (F,l)/\H.call F l s.mem s.nx K Kp):=by
 unfold Id at h;split at h
 .split at h
  .rename_i f hc;rcases UA hc h with⟨v,h1,h⟩|h
   .exact .inl ⟨_,_,_,h1,h⟩
   .exact .inr h
  .exact .inl (qN h)
 .exact .inl (qN h)
def Ju(cl:Bool)(P:Program)(Z:List (Nat × AV))(H:Hk)(sl:List (Nat × AV))(mem:aP)(nx:Nat)(op:Op)(K:AV->aP->Nat->Prop)(Kp:Value->aP->Nat->Prop):Prop:=
 match op with
 | .panic x=>oY Z sl x λv=>opt (quo v) λy=>Kp y mem nx
 | op=>Id cl P Z H sl mem nx op K Kp
theorem NO{op:Op}{Kp:Value->aP->Nat->Prop}(h:Ju cl P Z H s.sl s.mem s.nx op K Kp):
  (∃v m n,dI P Z s op=some (v,m,n)/\K v m n)\/(dI P Z s op=none/\∃F l,rK P Z s op=some (F,l)/\H.call F l s.mem s.nx K Kp) \/
   (dI P Z s op=none/\rK P Z s op=none/\∃y,Lj Z s op=some y/\Kp y s.mem s.nx):=by
 unfold Ju at h;split at h
 .obtain⟨v,h1,h⟩:=cZ h;obtain⟨y,h2,h⟩:=dF.1 h;exact .inr (.inr ⟨rfl,rfl,y,by simp only[Lj,h1,h2],h⟩)
 .rcases FO h with h|h
  .exact .inl h
  .exact .inr (.inl h)
def Rq(cl:Bool)(P:Program)(Z:List (Nat × AV))(H:Hk)(ops:List Oper):List Oper->St->(St->Prop)->(Value->St->Prop)->Prop
 | [],s,K,_=>K s
 | o::r,s,K,Kp=>Ki s λsl mem nx nt=>yA ops sl o.guard
   (Ju cl P Z H sl mem nx o.op (λv mem nx=>qA s o.dst v mem nx λs'=>Rq cl P Z H ops r s' K Kp) λx mem nx=>Kp x ⟨sl,mem,nx,nt⟩)
   (qA s o.dst (.tup []) mem nx λs'=>Rq cl P Z H ops r s' K Kp)
theorem IQ{cl:Bool}{P:Program}{Z:List (Nat × AV)}{H:Hk}{B:Nat}(hH:CK P Z B H)(ops:List Oper):∀(l:List Oper) (s:St) (K K':St->Prop) (Kp Kp':Value->St->Prop),(∀s,K s->K' s)->(∀x s,Kp x s->Kp' x s)->Rq cl P Z H ops l s K Kp->zL P Z (KN P Z B) ops l s K' Kp'
 | [],s,K,K',Kp,Kp',hk,hp,h=>hk s h
 | o::r,s,K,K',Kp,Kp',hk,hp,h=>by
  simp only[Rq] at h;simp only[zL];have h:=yM.1 h;rcases yX h with⟨h1,h⟩|⟨h1,h⟩
  .simp only[h1];rcases NO h with⟨v,m,n,h2,h⟩|⟨h2,F,l,h3,h⟩|⟨h2,h3,y,h4,h⟩
   .obtain⟨s',h4,h⟩:=gJ h;simp only[h2,h4];exact IQ hH ops r s' K K' Kp Kp' hk hp h
   .simp only[h2,h3];refine(hH.call _ _ _ _ _ _ h).mono (λv m n h=>?_) λx m n h=>hp _ _ h
    obtain⟨s',h4,h⟩:=gJ h;simp only[h4];exact IQ hH ops r s' K K' Kp Kp' hk hp h
   .simp only[h2,h3,h4];exact hp _ _ h
  .obtain⟨s',h4,h⟩:=gJ h;simp only[h1,h4];exact IQ hH ops r s' K K' Kp Kp' hk hp h
def kQ(f:Nat × AB->Bool):aP->(aP->Prop)->Prop
 | [],K=>K []
 | p::r,K=>match f p with
  | true=>kQ f r λl=>K (p::l)
  | false=>kQ f r K
theorem d6{f:Nat × AB->Bool}:∀{m:aP} {K:aP->Prop},kQ f m K↔K (m.filter f)
 | [],K=>Iff.rfl
 | p::r,K=>by
  simp only[kQ,aCL];cases f p
  .simpa using d6
  .simpa using d6
def zN(cl:Bool)(P:Program)(Z:List (Nat × AV))(ops:List Oper)(tr:List (List Nat))(base x:Nat)(mem:aP)(nx:Nat):List EB->Prop->Prop
 | [],K=>K
 | r::rs,K=>match AN r.i (T tr x) with
  | true=>zN cl P Z ops tr base x mem nx rs K
  | false=>match r.want with
   | false=>zN cl P Z ops tr base x mem nx rs K
   | true=>match ops[r.i]? with
    | none=>zN cl P Z ops tr base x mem nx rs K
    | some o=>match kind P o.op with
     | .pure=>match still o.op with
      | true=>zN cl P Z ops tr base x mem nx rs K
      | false=>kQ (λp=>NI tr base ops.length r.i p.1) mem λm=>yB cl P Z r.sl m nx o.op λv _ _=>match cl with
       | true=>sF (oG v r.v) (zN cl P Z ops tr base x mem nx rs K)
       | false=>v=r.v/\zN cl P Z ops tr base x mem nx rs K
     | _=>zN cl P Z ops tr base x mem nx rs K
theorem tG{cl:Bool}{P:Program}{Z:List (Nat × AV)}{ops:List Oper}{tr:List (List Nat)}{base x:Nat}{s:St}:∀{recs:List EB} {K:Prop},zN cl P Z ops tr base x s.mem s.nx recs K->Wn P Z ops tr base x s recs/\K
 | [],K,h=>⟨trivial,h⟩
 | r::rs,K,h=>by
  simp only[zN] at h;simp only[Wn];split at h
  .rename_i h1;obtain⟨h2,h3⟩:=tG h;exact⟨⟨λe=>(by rw[h1] at e;cases e),h2⟩,h3⟩
  .split at h
   .rename_i h1;obtain⟨h2,h3⟩:=tG h;exact⟨⟨λ_ e=>(by rw[h1] at e;cases e),h2⟩,h3⟩
   .split at h
    .rename_i h1;obtain⟨h2,h3⟩:=tG h;exact⟨⟨λ_ _ o e=>(by rw[h1] at e;cases e),h2⟩,h3⟩
    .rename_i o ho;split at h
     .split at h
      .rename_i h1;obtain⟨h2,h3⟩:=tG h;refine⟨⟨λ_ _ o' e _ e'=>?_,h2⟩,h3⟩;rw[ho] at e;cases e;rw[h1] at e';cases e'
      .have h:=d6.1 h;obtain⟨v,m,n,h1,h⟩:=qN (s:={ sl:=r.sl,mem:=lL tr base ops.length r.i s.mem,nx:=s.nx,nt:=s.nt }) h;have key:v=r.v/\zN cl P Z ops tr base x s.mem s.nx rs K:=by
        cases cl
        .exact h
        .obtain⟨h2,h3⟩:=cR.1 h;exact⟨CB h2,h3⟩
       obtain⟨h2,h3⟩:=tG key.2;refine⟨⟨λ_ _ o' e _ _=>?_,h2⟩,h3⟩;rw[ho] at e;cases e;exact⟨m,n,by rw[<-key.1];exact h1⟩
     .rename_i hk;obtain⟨h2,h3⟩:=tG h;refine⟨⟨λ_ _ o' e e'=>?_,h2⟩,h3⟩;rw[ho] at e;cases e;exact(hk e').elim
def zQ(cl:Bool)(P:Program)(Z:List (Nat × AV))(H:Hk)(ops:List Oper)(tr:List (List Nat))(base:Nat)(K:St->Prop)(Kp:Value->aP->Nat->Prop):List Nat->List EB->St->Prop
 | [],recs,s=>K s
 | i::r,recs,s=>match ops[i]? with
  | none=>False
  | some o=>Ki s λsl mem nx nt=>yA ops sl o.guard
   (match kind P o.op with
    | .pure=>match still o.op with
     | true=>yB cl P Z sl [] nx o.op λv _ _=>qA s o.dst v mem nx λs'=>zQ cl P Z H ops tr base K Kp r (⟨i,sl,true,v⟩::recs) s'
     | false=>kQ (λp=>NI tr base ops.length i p.1) mem λm=>yB cl P Z sl m nx o.op λv _ _=>qA s o.dst v mem nx λs'=>zQ cl P Z H ops tr base K Kp r (⟨i,sl,true,v⟩::recs) s'
    | .al=>tX (base+i) λid=>yB cl P Z sl [] id o.op λv m _=>match m with
     | [(_,b)]=>qA s o.dst v ((id,b)::mem) nx λs'=>zQ cl P Z H ops tr base K Kp r (⟨i,sl,true,v⟩::recs) s'
     | _=>False
    | .eff=>kQ (λp=>NI tr base ops.length i p.1) mem λm=>Id cl P Z H sl m nx o.op (λv m nx'=>kQ (λp=>!NI tr base ops.length i p.1) mem λrest=>kQ (λp=>!xJ p.1 m) rest λrest=>GN m rest λm=>
      qA s o.dst v m nx' λs'=>zN cl P Z ops tr base i m nx' recs (zQ cl P Z H ops tr base K Kp r recs s')) Kp)
   (qA s o.dst (.tup []) mem nx λs'=>zQ cl P Z H ops tr base K Kp r (⟨i,sl,false,.tup []⟩::recs) s')
theorem uO{cl:Bool}{P:Program}{Z:List (Nat × AV)}{H:Hk}{B:Nat}(hH:CK P Z B H)(ops:List Oper)(tr:List (List Nat))(base:Nat)(K K':St->Prop)(Kp Kp':Value->aP->Nat->Prop)(hk:∀s,K s->K' s)(hp:∀x m n,Kp x m n->Kp' x m n) :
  ∀(l:List Nat) (recs:List EB) (s:St),zQ cl P Z H ops tr base K Kp l recs s->s7 P Z (KN P Z B) ops tr base K' Kp' l recs s
 | [],recs,s,h=>hk s h
 | i::r,recs,s,h=>by
  simp only[zQ] at h;simp only[s7];split at h
  .exact h.elim
  .rename_i o ho;simp only[ho];have h:=yM.1 h;rcases yX h with⟨h1,h⟩|⟨h1,h⟩
   .simp only[h1];split at h
    .rename_i hkd;simp only[hkd];split at h
     .rename_i hst;obtain⟨v,m,n,h2,h⟩:=qN (s:={ sl:=s.sl,mem:=[],nx:=s.nx,nt:=s.nt }) h;obtain⟨m',n',h2'⟩:=yH (s:={ sl:=s.sl,mem:=[],nx:=s.nx,nt:=s.nt }) (s':={ s with mem:=lL tr base ops.length i s.mem }) hst rfl h2;obtain⟨s',h3,h⟩:=gJ h;simp only[h2',h3];exact uO hH ops tr base K K' Kp Kp' hk hp r _ s' h
     .have h:=d6.1 h;obtain⟨v,m,n,h2,h⟩:=qN (s:={ s with mem:=lL tr base ops.length i s.mem }) h;obtain⟨s',h3,h⟩:=gJ h;simp only[h2,h3];exact uO hH ops tr base K K' Kp Kp' hk hp r _ s' h
    .rename_i hkd;simp only[hkd];have h:=fM.1 h;obtain⟨v,m,n,h2,h⟩:=qN (s:={ s with mem:=[],nx:=base+i }) h;simp only[h2];split at h
     .obtain⟨s',h3,h⟩:=gJ h;simp only[h3];exact uO hH ops tr base K K' Kp Kp' hk hp r _ s' h
     .exact h.elim
    .rename_i hkd;simp only[hkd];have h:=d6.1 h;rcases FO (s:={ s with mem:=lL tr base ops.length i s.mem }) h with⟨v,m,n,h2,h⟩|⟨h2,F,l,h3,h⟩
     .simp only[h2];have h:=iM.1 (d6.1 (d6.1 h));obtain⟨s',h3,h⟩:=gJ h;have h3:fV s o.dst v (m++wX m (i7 tr base ops.length i s.mem)) n=some s':=h3;simp only[h3];obtain⟨e1,e2,_⟩:=jL h3;have h:zN cl P Z ops tr base i (m++wX m (i7 tr base ops.length i s.mem)) n recs (zQ cl P Z H ops tr base K Kp r recs s'):=h;rw[<-e1,<-e2] at h;obtain⟨h4,h⟩:=tG h;exact⟨h4,uO hH ops tr base K K' Kp Kp' hk hp r _ s' h⟩
     .rw[xX (s':=s) (λx _=>by cases x<;>rfl)] at h3;simp only[h2,h3];refine(hH.call _ _ _ _ _ _ h).mono (λv m n h=>?_) hp;have h:=iM.1 (d6.1 (d6.1 h));obtain⟨s',h3,h⟩:=gJ h;have h3:fV s o.dst v (m++wX m (i7 tr base ops.length i s.mem)) n=some s':=h3;simp only[h3];obtain⟨e1,e2,_⟩:=jL h3;have h:zN cl P Z ops tr base i (m++wX m (i7 tr base ops.length i s.mem)) n recs (zQ cl P Z H ops tr base K Kp r recs s'):=h;rw[<-e1,<-e2] at h;obtain⟨h4,h⟩:=tG h;exact⟨h4,uO hH ops tr base K K' Kp Kp' hk hp r _ s' h⟩
   .obtain⟨s',h3,h⟩:=gJ h;simp only[h1,h3];exact uO hH ops tr base K K' Kp Kp' hk hp r _ s' h
theorem TK.mono{m:aP}{Q Q':Exit->St->Prop}(hq:∀e s,Q e s->Q' e s)(h:TK s Q m n):TK s Q' m n:=by
 unfold TK at h |-;split at h
 .split at h
  .exact h
  .split at h
   .exact hq _ _ h
   .exact hq _ _ h
   .exact hq _ _ h
   .exact h
 .exact h
def E0(cl:Bool)(P:Program)(Z:List (Nat × AV))(H:Hk):Code->St->(Exit->St->Prop)->Prop
 | .skip,s,Q=>Q .normal s
 | .seq x y,s,Q=>E0 cl P Z H x s λe s'=>match e with
  | .normal=>E0 cl P Z H y s' Q
  | e=>Q e s'
 | .cond c x y,s,Q=>Ki s λsl _ _ _=>oY Z sl c λv=>match v with
  | .bool b=>Sj b (E0 cl P Z H x s Q) (E0 cl P Z H y s Q)
  | _=>False
 | .block id c,s,Q=>E0 cl P Z H c s λe s'=>match e with
  | .exit i=>match Nat.beq i id with
   | true=>Q .normal s'
   | false=>Q (.exit i) s'
  | e=>Q e s'
 | .loop c,s,Q=>H.loop c s Q
 | .label _,s,Q=>Q .normal s
 | .scope c,s,Q=>E0 cl P Z H c s λe s'=>match e with
  | .goto _=>False
  | e=>Q e s'
 | .exit i,s,Q=>Q (.exit i) s
 | .ret,s,Q=>Q .ret s
 | .region _ ops draw,s,Q=>match draw with
  | false=>Rq cl P Z H ops.toList ops.toList s (λs'=>Q .normal s') λx s'=>Q (.panic [pe x]) s'
  | true=>match P.follows .mixedOrders with
   | true=>match FX P ops.toList (A5 P ops.toList ops.toList.length [] (Cy ops.toList.length)) with
    | true=>Ki s λsl mem nx nt=>tX (nx+ops.toList.length) λn=>DF (A5 P ops.toList ops.toList.length [] (Cy ops.toList.length)) λord=>zQ cl P Z H ops.toList (OE ops.toList []) nx (λs'=>Q .normal s') (λx m n=>Q (.panic [pe x]) ⟨zX ops.toList sl,m,n,nt⟩) ord [] ⟨sl,mem,n,nt⟩
    | false=>False
   | false=>False
 | _,_,_=>False
theorem Xw(hH:CK P Z B H):∀(c:Code) (s:St) (Q Q':Exit->St->Prop),(∀e s,Q e s->Q' e s)->E0 cl P Z H c s Q->Gt P Z (KN P Z B) c s Q':=by
 intro c
 induction c with
 | skip=>exact λs Q Q' hq h=>hq _ _ h
 | label l=>exact λs Q Q' hq h=>hq _ _ h
 | scope c ih=>
  intro s Q Q' hq h;simp only[E0] at h;simp only[Gt];refine ih s _ _ (λe s' h=>?_) h;cases e with
  | goto l=>exact h
  | normal=>exact hq _ _ h
  | exit i=>exact hq _ _ h
  | ret=>exact hq _ _ h
  | panic c=>exact hq _ _ h
  | outgrown=>exact hq _ _ h
 | exit i=>exact λs Q Q' hq h=>hq _ _ h
 | ret=>exact λs Q Q' hq h=>hq _ _ h
 | loop c ih=>exact λs Q Q' hq h=>(hH.loop c s Q h).mono hq
 | seq x y ihx ihy=>
  intro s Q Q' hq h;simp only[E0] at h;simp only[Gt];refine ihx s _ _ (λe s' h=>?_) h;cases e with
  | normal=>exact ihy s' Q Q' hq h
  | exit i=>exact hq _ _ h
  | goto l=>exact hq _ _ h
  | ret=>exact hq _ _ h
  | panic c=>exact hq _ _ h
  | outgrown=>exact hq _ _ h
 | cond c x y ihx ihy=>
  intro s Q Q' hq h;simp only[E0] at h;simp only[Gt];have h:=yM.1 h;obtain⟨v,h1,h⟩:=cZ h;simp only[h1];split at h
  .rename_i b;cases b
   .exact ihy s Q Q' hq h
   .exact ihx s Q Q' hq h
  .exact h.elim
 | block id c ih=>
  intro s Q Q' hq h;simp only[E0] at h;simp only[Gt];refine ih s _ _ (λe s' h=>?_) h;cases e with
  | exit i=>
   simp only at h |-;split at h
   .rename_i e;simp only[e];exact hq _ _ h
   .rename_i e;simp only[e];exact hq _ _ h
  | normal=>exact hq _ _ h
  | goto l=>exact hq _ _ h
  | ret=>exact hq _ _ h
  | panic c=>exact hq _ _ h
  | outgrown=>exact hq _ _ h
 | region id ops draw=>
  intro s Q Q' hq h;cases draw with
  | false=>
   simp only[E0] at h;simp only[Gt];exact IQ hH _ _ _ _ _ _ _ (λs h=>hq _ _ h) (λx s h=>hq _ _ h) h
  | true=>
   simp only[E0] at h;simp only[Gt];split at h
   .rename_i hmix;simp only[hmix];split at h
    .rename_i hok;simp only[KR,hok];exact uO hH _ _ _ _ _ _ _ (λs h=>hq _ _ h) (λx m n h=>hq _ _ h) _ _ _ (qZ.1 (fM.1 (yM.1 h)))
    .exact h.elim
   .exact h.elim
 | _=>intro s Q Q' hq h;simp only[E0] at h
theorem iC(hH:CK P Z B H)(c:Code)(s:St)(Q:Exit->St->Prop)(h:E0 cl P Z H c s Q):gC P Z B c s Q:=
 CV UR c s Q (Xw hH c s Q Q (λ_ _ h=>h) h)
def Mm:Nat->List AV->(List (Nat × AV)->Prop)->Prop
 | _,[],K=>K []
 | k,a::r,K=>tX k λk=>Mm (k+1) r λl=>K ((k,a)::l)
theorem Gz:∀{k:Nat} {l:List AV} {K:List (Nat × AV)->Prop},Mm k l K↔K (Km k l)
 | k,[],K=>Iff.rfl
 | k,a::r,K=>by simp only[Mm,Km,fM,Gz]
def CZ(ntmps:Nat)(args:List AV)(mem:aP)(nx:Nat)(K:St->Prop):Prop:=
 Mm 0 args λsl=>sF (Nat.ble args.length ntmps) (tX ntmps λnt=>K ⟨sl,mem,nx,nt⟩)
theorem sA{ntmps:Nat}{K:St->Prop}(h:CZ ntmps args mem nx K):K (enter ntmps args mem nx):=by
 obtain⟨h1,h⟩:=cR.1 (Gz.1 h);have h:=fM.1 h;have h1:=aAi h1;have e:enter ntmps args mem nx=⟨Km 0 args,mem,nx,ntmps⟩:=by simp only[enter];congr 1;omega
 rw[e];exact h
def NU(P:Program)(s:St):List ResultVar->(List AV->Prop)->Prop
 | [],K=>K []
 | .tmp t::r,K=>opt (lk s.sl t) λv=>NU P s r λl=>K (v::l)
 | .cell a t::r,K=>opt (lk s.sl a) λp=>M5 P s.mem t p λv=>NU P s r λl=>K (v::l)
theorem Iy{P:Program}{s:St}:∀{rs:List ResultVar} {K:List AV->Prop},NU P s rs K->∃l,zZ P s rs=some l/\K l
 | [],K,h=>⟨[],rfl,h⟩
 | .tmp t::r,K,h=>by
  obtain⟨v,h1,h⟩:=dF.1 h;obtain⟨l,h2,h⟩:=Iy h;exact⟨_,by simp only[zZ,h1,h2],h⟩
 | .cell a t::r,K,h=>by
  obtain⟨p,h1,h⟩:=dF.1 h;obtain⟨v,h2,h⟩:=MT h;obtain⟨l,h3,h⟩:=Iy h;exact⟨_,by simp only[zZ,h1,h2,h3],h⟩
def I1(P:Program)(rs:List ResultVar)(s:St)(K:AV->Prop):Prop:=
 NU P s rs λl=>match l with
  | [v]=>K v
  | []=>K (.tup [])
  | a::b::r=>K (.tup (a::b::r))
theorem Ik{rs:List ResultVar}{K:AV->Prop}(h:I1 P rs s K):∃v,Dk P rs s=some v/\K v:=by
 obtain⟨l,h1,h⟩:=Iy h;unfold Dk;rw[h1]
 match l,h with
 | [v],h=>exact⟨_,rfl,h⟩
 | [],h=>exact⟨_,rfl,h⟩
 | a::b::r,h=>exact⟨_,rfl,h⟩
def MS(P:Program)(rs:List ResultVar)(Q:AV->aP->Nat->Prop):Exit->St->Prop:=λe s=>
 match e with
 | .normal=>Ki s λ_ mem nx _=>I1 P rs s λr=>Q r mem nx
 | .ret=>Ki s λ_ mem nx _=>I1 P rs s λr=>Q r mem nx
 | _=>False
theorem RI{rs:List ResultVar}{e:Exit}(h:MS P rs Q e s):Ph P rs Q e s:=by
 cases e with
 | normal=>
  obtain⟨v,h1,h⟩:=Ik (show I1 P rs s _ from h);simp only[Ph,h1];exact h
 | ret=>
  obtain⟨v,h1,h⟩:=Ik (show I1 P rs s _ from h);simp only[Ph,h1];exact h
 | _=>exact(show False from h).elim
theorem jK{P:Program}{Z:List (Nat × AV)}{F:FuncId}{fn:Func}{c:Code}{args:List AV}{mem:aP}{nx:Nat}{Q:AV->aP->Nat->Prop}(hΓ:∀p∈Z,NN p.2)(hf:P.funcs[F]? = some fn)(hb:fn.body=some c)
  (h:CZ fn.ntmps args mem nx λs=>E0 false P Z (NV P Z nx) c s (MS P fn.results.toList (rE nx Q))) (hF:Nat.beq F YF=false:=by rfl):aH P Z F args mem nx Q:=
 (AH hf hb ((iC wS _ _ _ (sA h)).mono λ_ _ h=>RI h) hF).turn hΓ
def Nj(P:Program)(rs:List ResultVar)(Q:AV->aP->Nat->Prop)(Qp:Value->aP->Nat->Prop):Exit->St->Prop:=λe s=>
 match e with
 | .normal=>Ki s λ_ mem nx _=>I1 P rs s λr=>Q r mem nx
 | .ret=>Ki s λ_ mem nx _=>I1 P rs s λr=>Q r mem nx
 | .panic [⟨x,false,false⟩]=>Ki s λ_ mem nx _=>Qp x mem nx
 | _=>False
theorem NK{rs:List ResultVar}{e:Exit}(h:Nj P rs Q Qp e s):EL P rs Q Qp e s:=by
 cases e with
 | normal=>
  obtain⟨v,h1,h⟩:=Ik (show I1 P rs s _ from h);simp only[EL,h1];exact h
 | ret=>
  obtain⟨v,h1,h⟩:=Ik (show I1 P rs s _ from h);simp only[EL,h1];exact h
 | panic ch=>
  unfold Nj at h;split at h
  .rename_i e;cases e
  .rename_i e;cases e
  .rename_i e;cases e;exact h
  .exact h.elim
 | _=>exact(show False from h).elim
end Go.Ax
