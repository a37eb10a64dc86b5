/- A part of the proof. -/
import Derived.Test.YtpajadlnaokngaaGreatDoorAx5
set_option linter.unusedVariables false
set_option linter.unusedSimpArgs false
set_option linter.unusedSectionVars false
namespace Go.Ax
open Go
def Jm(cl:Bool)(P:Program)(mem:aN)(t:TypeId)(x y:AV)(K:AV->aN->Prop):Prop:=
 match P.underlying t with
 | some (.slice e)=>match eB P e with
  | some n=>match x with
   | .sl id 0 len=>match lk mem id with
    | some (.row t' sz' xs)=>Mr cl mem n y fun ys=>k9 (Nat.blt 0 n && (Nat.beq sz' n && (Nat.ble ys.length len && Nat.ble len xs.length)))
      (pH cl (xs.drop ys.length) fun zs=>Mc cl ys zs fun zs=>vH cl ys.length fun l=>ET mem id (.row t' sz' zs) fun m=>K (.int .i64 l) m)
    | _=>False
   | _=>False
  | none=>False
 | _=>False
theorem Mq{cl:Bool}{P:Program}{mem:aN}{t:TypeId}{x y:AV}{K:AV->aN->Prop}(h:Jm cl P mem t x y K):∃v m,EC P mem t x y=some (v,m)/\K v m:=by
 unfold Jm at h;unfold EC;split at h
 ·rename_i e hu;simp only[hu];split at h
  ·rename_i n hn;simp only[hn];split at h
   ·split at h
    ·rename_i hid;obtain⟨ys,h4,h⟩:=Kk h;obtain⟨h5,h⟩:=a9.1 h;rw[Qt] at h5;exact⟨_,_,by simp only[h5.1,hid,h4,h5.2],iP.1 (fJ.1 (D6.1 (fP.1 h)))⟩
    ·exact h.elim
   ·exact h.elim
  ·exact h.elim
 ·exact h.elim
def GM(P:Program)(mem:aN)(t:TypeId)(x:AV)(K:aN->Prop):Prop:=
 match P.underlying t with
 | some (.slice e)=>match jR P e with
  | some z=>match x with
   | .sl id off len=>match lk mem id with
    | some (.row t' sz xs)=>k9 (hY z && (Nat.beq z.cells.length sz && (Nat.blt 0 sz && (Nat.blt 0 len && Nat.ble (off+len) xs.length))))
      (ET mem id (.row t' sz (xs.take off++(List.replicate len z++xs.drop (off+len)))) fun m=>K m)
    | _=>False
   | _=>False
  | none=>False
 | _=>False
theorem Kf{P:Program}{mem:aN}{t:TypeId}{x:AV}{K:aN->Prop}(h:GM P mem t x K):∃m,BV P mem t x=some m/\K m:=by
 unfold GM at h;unfold BV;split at h
 ·rename_i e hu;simp only[hu];split at h
  ·rename_i z hz;simp only[hz];split at h
   ·split at h
    ·rename_i hid;obtain⟨h5,h⟩:=a9.1 h;exact⟨_,by simp only[hid,h5],iP.1 h⟩
    ·exact h.elim
   ·exact h.elim
  ·exact h.elim
 ·exact h.elim
def vF(cl:Bool)(P:Program)(Γ:List (Nat × AV))(sl:List (Nat × AV))(mem:aN)(nx:Nat)(b:Builtin)(args:List Operand)(ts:List TypeId)(K:AV->aN->Nat->Prop):Prop:=
 match b with
 | .len=>match args,ts with
  | [x],[t]=>iI Γ sl x fun a=>opt (My P mem t a) fun v=>match v with
   | .int k n=>nZ cl k n fun v=>K v mem nx
   | _=>False
  | _,_=>False
 | .append=>match args,ts with
  | [x,y],[t,u]=>iI Γ sl x fun a=>iI Γ sl y fun b=>DJ cl P mem nx t u a b K
  | _,_=>False
 | .min=>Ee Γ sl args fun l=>match l with
  | .int k x::r=>opt (Iz x r) fun m=>nZ cl k m fun v=>K v mem nx
  | _=>False
 | .max=>Ee Γ sl args fun l=>match l with
  | .int k x::r=>opt (JE x r) fun m=>nZ cl k m fun v=>K v mem nx
  | _=>False
 | .unsafeSliceData=>match args,ts with
  | [x],[_]=>iI Γ sl x fun a=>opt (oS a) fun v=>K v mem nx
  | _,_=>False
 | .unsafeString=>match args,ts with
  | [x,y],[t,_]=>iI Γ sl x fun a=>iI Γ sl y fun b=>match vV P mem t a b with
   | some (.str l,m)=>pH cl l fun l=>BF m fun m=>K (.str l) m nx
   | _=>False
  | _,_=>False
 | .copy=>match args,ts with
  | [x,y],[t,_]=>iI Γ sl x fun a=>iI Γ sl y fun b=>Jm cl P mem t a b fun v m=>K v m nx
  | _,_=>False
 | .clear=>match args,ts with
  | [x],[t]=>iI Γ sl x fun a=>GM P mem t a fun m=>K (.tup []) m nx
  | _,_=>False
 | _=>False
theorem GF{cl:Bool}{P:Program}{Γ:List (Nat × AV)}{s:St}{b:Builtin}{args:List Operand}{ts:List TypeId}{K:AV->aN->Nat->Prop}(h:vF cl P Γ s.sl s.mem s.nx b args ts K) :
  ∃v m n,cS P Γ s b args ts=some (v,m,n)/\K v m n:=by
 unfold vF at h;split at h
 ·split at h
  ·obtain⟨a,h1,h⟩:=bH h;obtain⟨v,h2,h⟩:=bG.1 h;split at h
   ·exact⟨_,_,_,by simp only[cS,h1,h2,aX],jQ.1 h⟩
   ·exact h.elim
  ·exact h.elim
 ·split at h
  ·obtain⟨a,h1,h⟩:=bH h;obtain⟨b,h2,h⟩:=bH h;obtain⟨v,m,n,h3,h⟩:=Ih h;exact⟨_,_,_,by simp only[cS,h1,h2];exact h3,h⟩
  ·exact h.elim
 ·obtain⟨l,h1,h⟩:=k6 h;split at h
  ·obtain⟨m,h2,h⟩:=bG.1 h;exact⟨_,_,_,by simp only[cS,h1,h2],jQ.1 h⟩
  ·exact h.elim
 ·obtain⟨l,h1,h⟩:=k6 h;split at h
  ·obtain⟨m,h2,h⟩:=bG.1 h;exact⟨_,_,_,by simp only[cS,h1,h2],jQ.1 h⟩
  ·exact h.elim
 ·split at h
  ·obtain⟨a,h1,h⟩:=bH h;obtain⟨v,h2,h⟩:=bG.1 h;exact⟨_,_,_,by simp only[cS,h1,h2,aX],h⟩
  ·exact h.elim
 ·split at h
  ·obtain⟨a,h1,h⟩:=bH h;obtain⟨b,h2,h⟩:=bH h;split at h
   ·rename_i l m h3;exact⟨_,_,_,by simp only[cS,h1,h2,h3],uL.1 (fP.1 h)⟩
   ·exact h.elim
  ·exact h.elim
 ·split at h
  ·obtain⟨a,h1,h⟩:=bH h;obtain⟨b,h2,h⟩:=bH h;obtain⟨v,m,h3,h⟩:=Mq h;exact⟨_,_,_,by simp only[cS,h1,h2,h3],h⟩
  ·exact h.elim
 ·split at h
  ·obtain⟨a,h1,h⟩:=bH h;obtain⟨m,h3,h⟩:=Kf h;exact⟨_,_,_,by simp only[cS,h1,h3],h⟩
  ·exact h.elim
 ·exact h.elim
def p9(cl:Bool)(P:Program)(Γ:List (Nat × AV))(sl:List (Nat × AV))(mem:aN)(nx:Nat)(op:Op)(K:AV->aN->Nat->Prop):Prop:=
 match op with
 | .move x=>iI Γ sl x fun v=>K v mem nx
 | .assign x=>iI Γ sl x fun v=>K v mem nx
 | .pick c a b=>iI Γ sl c fun c=>match c with
  | .bool c=>Jc c (iI Γ sl a fun v=>K v mem nx) (iI Γ sl b fun v=>K v mem nx)
  | _=>False
 | .alloc t=>Cm P mem nx t K
 | .box t x=>iI Γ sl x fun v=>Nu P mem nx t v K
 | .build t parts=>mW Γ sl parts.toList fun ps=>DY P t ps fun v=>K v mem nx
 | .buildSlice t len parts=>mW Γ sl parts.toList fun ps=>lR P mem nx t len ps K
 | .load t x=>iI Γ sl x fun p=>Eg P mem t p fun v=>K v mem nx
 | .store t x y=>iI Γ sl x fun p=>iI Γ sl y fun v=>Cw P mem t p v fun m=>K (.tup []) m nx
 | .nilCheck x=>iI Γ sl x fun p=>opt (KI p) fun v=>K v mem nx
 | .binOp op t x y _=>iI Γ sl x fun a=>iI Γ sl y fun b=>MS cl P op t x y a b fun v=>K v mem nx
 | .unOp op _ x=>iI Γ sl x fun a=>P6 cl op a fun v=>K v mem nx
 | .convert src dst x=>iI Γ sl x fun a=>match P.underlying dst with
  | some (.slice _)=>rR cl P mem nx src dst a K
  | _=>Hi cl P mem src dst a fun v=>K v mem nx
 | .makeInterface t x=>iI Γ sl x fun a=>opt (DF P t a) fun v=>K v mem nx
 | .makeFunc fn first cap=>Ee Γ sl first.toList fun l1=>Ee Γ sl cap.toList fun l2=>K (.fn fn l1 l2) mem nx
 | .makeSlice t l c=>iI Γ sl l fun a=>iI Γ sl c fun b=>Jt cl P mem nx t a b K
 | .slice t x lo hi mx=>iI Γ sl x fun a=>Dc Γ sl lo fun l=>Dc Γ sl hi fun h=>Dc Γ sl mx fun m=>match !m.isSome || h.isSome with
  | true=>GP cl P mem t a l h m fun v=>K v mem nx
  | false=>False
 | .fieldAddr t x f=>iI Γ sl x fun p=>oY P t f p fun v=>K v mem nx
 | .field t x f=>iI Γ sl x fun p=>Ds P t f p fun v=>K v mem nx
 | .indexAddr t x ix=>iI Γ sl x fun p=>iI Γ sl ix fun i=>oK cl P mem t p i fun v=>K v mem nx
 | .index t x ix=>iI Γ sl x fun p=>iI Γ sl ix fun i=>Cl cl P t p i fun v=>K v mem nx
 | .extract x i=>iI Γ sl x fun p=>opt (qF p i) fun v=>K v mem nx
 | .typeAssert x _ t ok=>iI Γ sl x fun p=>opt (zU P t ok p) fun v=>K v mem nx
 | .makeMap _ reserve=>match reserve with
  | none=>mP (nx+1) fun n=>K (.mp nx) ((nx,.mapb [])::mem) n
  | some _=>False
 | .lookup t x ix ok=>iI Γ sl x fun p=>iI Γ sl ix fun i=>opt (u6 P mem t p i ok) fun v=>K v mem nx
 | .mapUpdate t x y z=>iI Γ sl x fun p=>iI Γ sl y fun k=>iI Γ sl z fun v=>kW P mem t p k v fun m=>K (.tup []) m nx
 | .insert t x y z=>iI Γ sl x fun p=>iI Γ sl y fun k=>iI Γ sl z fun v=>kW P mem t p k v fun m=>K (.tup []) m nx
 | .call c=>match c.callee with
  | .builtin b=>vF cl P Γ sl mem nx b c.args.toList c.argTypes.toList K
  | _=>False
 | _=>False
theorem kG{cl:Bool}{P:Program}{Γ:List (Nat × AV)}{s:St}{op:Op}{K:AV->aN->Nat->Prop}(h:p9 cl P Γ s.sl s.mem s.nx op K):∃v m n,bU P Γ s op=some (v,m,n)/\K v m n:=by
 cases op<;>simp only[p9] at h<;>simp only[bU]<;>first|exact h.elim|skip
 case move x=>
  obtain⟨v,h1,h⟩:=bH h;exact⟨_,_,_,by simp only[h1,aX],h⟩
 case assign x=>
  obtain⟨v,h1,h⟩:=bH h;exact⟨_,_,_,by simp only[h1,aX],h⟩
 case pick c x y=>
  obtain⟨v,h1,h⟩:=bH h;split at h
  ·rename_i b;cases b
   ·obtain⟨v,h2,h⟩:=bH (show iI Γ s.sl y _ from h);exact⟨_,_,_,by simp only[h1,h2,aX],h⟩
   ·obtain⟨v,h2,h⟩:=bH (show iI Γ s.sl x _ from h);exact⟨_,_,_,by simp only[h1,h2,aX],h⟩
  ·exact h.elim
 case alloc t=>exact Kv h
 case box t x=>
  obtain⟨v,h1,h⟩:=bH h;simp only[h1];exact Oo h
 case build t parts=>
  obtain⟨v,h1,h⟩:=pR h;obtain⟨v,h2,h⟩:=Kj h;exact⟨_,_,_,by simp only[h1,h2,aX],h⟩
 case buildSlice t len parts=>
  obtain⟨v,h1,h⟩:=pR h;simp only[h1];exact Bb h
 case load t x=>
  obtain⟨v,h1,h⟩:=bH h;obtain⟨v,h2,h⟩:=Hb h;exact⟨_,_,_,by simp only[h1,h2,aX],h⟩
 case store t x y=>
  obtain⟨v,h1,h⟩:=bH h;obtain⟨u,h2,h⟩:=bH h;obtain⟨m,h3,h⟩:=Lh h;exact⟨_,_,_,by simp only[h1,h2,h3],h⟩
 case nilCheck x=>
  obtain⟨v,h1,h⟩:=bH h;obtain⟨v,h2,h⟩:=bG.1 h;exact⟨_,_,_,by simp only[h1,h2,aX],h⟩
 case binOp op t x y t'=>
  obtain⟨v,h1,h⟩:=bH h;obtain⟨u,h2,h⟩:=bH h;obtain⟨m,h3,h⟩:=Nv h;exact⟨_,_,_,by simp only[h1,h2,h3,aX],h⟩
 case unOp op t x=>
  obtain⟨v,h1,h⟩:=bH h;obtain⟨v,h2,h⟩:=Pk h;exact⟨_,_,_,by simp only[h1,h2,aX],h⟩
 case convert src dst x=>
  obtain⟨v,h1,h⟩:=bH h;simp only[h1];split at h
  ·rename_i e hu;have hn:BE P s.mem src dst v=none:=by
    unfold BE;split
    ·rfl
    ·rw[hu]
   rw[hn];exact Eo h
  ·obtain⟨u,h2,h⟩:=M7 h;exact⟨_,_,_,by simp only[h2],h⟩
 case makeInterface t x=>
  obtain⟨v,h1,h⟩:=bH h;obtain⟨v,h2,h⟩:=bG.1 h;exact⟨_,_,_,by simp only[h1,h2,aX],h⟩
 case makeFunc fn first cap=>
  obtain⟨v,h1,h⟩:=k6 h;obtain⟨v,h2,h⟩:=k6 h;exact⟨_,_,_,by simp only[h1,h2],h⟩
 case makeSlice t l c=>
  obtain⟨v,h1,h⟩:=bH h;obtain⟨u,h2,h⟩:=bH h;simp only[h1,h2];exact MX h
 case slice t x lo hi mx=>
  obtain⟨v,h1,h⟩:=bH h;obtain⟨l,h2,h⟩:=wO h;obtain⟨h',h3,h⟩:=wO h;obtain⟨m,h4,h⟩:=wO h;simp only[h1,h2,h3,h4];split at h
  ·rename_i e;obtain⟨u,h5,h⟩:=KU h;exact⟨_,_,_,by simp only[e,h5,aX],h⟩
  ·exact h.elim
 case fieldAddr t x f=>
  obtain⟨v,h1,h⟩:=bH h;obtain⟨v,h2,h⟩:=DT h;exact⟨_,_,_,by simp only[h1,h2,aX],h⟩
 case field t x f=>
  obtain⟨v,h1,h⟩:=bH h;obtain⟨v,h2,h⟩:=KZ h;exact⟨_,_,_,by simp only[h1,h2,aX],h⟩
 case indexAddr t x ix=>
  obtain⟨v,h1,h⟩:=bH h;obtain⟨u,h2,h⟩:=bH h;obtain⟨m,h3,h⟩:=Dt h;exact⟨_,_,_,by simp only[h1,h2,h3,aX],h⟩
 case index t x ix=>
  obtain⟨v,h1,h⟩:=bH h;obtain⟨u,h2,h⟩:=bH h;obtain⟨m,h3,h⟩:=Lv h;exact⟨_,_,_,by simp only[h1,h2,h3,aX],h⟩
 case typeAssert x xt t ok=>
  obtain⟨p,h1,h⟩:=bH h;obtain⟨v,h2,h⟩:=bG.1 h;exact⟨_,_,_,by simp only[h1,h2,aX],h⟩
 case extract x i=>
  obtain⟨v,h1,h⟩:=bH h;obtain⟨v,h2,h⟩:=bG.1 h;exact⟨_,_,_,by simp only[h1,h2,aX],h⟩
 case makeMap t r=>
  split at h
  ·exact⟨_,_,_,rfl,cQ.1 h⟩
  ·exact h.elim
 case lookup t x ix ok=>
  obtain⟨v,h1,h⟩:=bH h;obtain⟨u,h2,h⟩:=bH h;obtain⟨m,h3,h⟩:=bG.1 h;exact⟨_,_,_,by simp only[h1,h2,h3,aX],h⟩
 case mapUpdate t x y z=>
  obtain⟨v,h1,h⟩:=bH h;obtain⟨u,h2,h⟩:=bH h;obtain⟨u',h3,h⟩:=bH h;obtain⟨m,h4,h⟩:=v7 h;exact⟨_,_,_,by simp only[h1,h2,h3,h4],h⟩
 case insert t x y z=>
  obtain⟨v,h1,h⟩:=bH h;obtain⟨u,h2,h⟩:=bH h;obtain⟨u',h3,h⟩:=bH h;obtain⟨m,h4,h⟩:=v7 h;exact⟨_,_,_,by simp only[h1,h2,h3,h4],h⟩
 case call c=>
  split at h
  ·rename_i hb;simp only[hb];exact GF h
  ·exact h.elim
def C2(s:St)(K:List (Nat × AV)->aN->Nat->Nat->Prop):Prop:=
 match s with
 | ⟨sl,mem,nx,nt⟩=>K sl mem nx nt
theorem kA{s:St}{K:List (Nat × AV)->aN->Nat->Nat->Prop}:C2 s K↔K s.sl s.mem s.nx s.nt:=Iff.rfl
def lK(s:St)(d:Option Nat)(v:AV)(mem:aN)(nx:Nat)(K:St->Prop):Prop:=
 C2 s fun sl _ _ nt=>match d with
  | none=>K ⟨sl,mem,nx,nt⟩
  | some d=>k9 (Nat.blt d nt) (ET sl d v fun sl=>K ⟨sl,mem,nx,nt⟩)
theorem eH{s:St}{d:Option Nat}{v:AV}{mem:aN}{nx:Nat}{K:St->Prop}(h:lK s d v mem nx K):∃s',dB s d v mem nx=some s'/\K s':=by
 cases d with
 | none=>exact⟨_,rfl,h⟩
 | some d=>
  obtain⟨h1,h⟩:=a9.1 h;exact⟨_,by simp only[dB,h1],iP.1 h⟩
def pG(ops:List Oper)(sl:List (Nat × AV))(g:Option (Nat × Bool))(yes no:Prop):Prop:=
 match g with
 | none=>yes
 | some (j,want)=>match ops[j]? with
  | none=>no
  | some o=>match o.dst with
   | none=>no
   | some d=>match lk sl d with
    | some (.bool b)=>match want with
     | true=>Jc b yes no
     | false=>Jc b no yes
    | some (.tup [])=>no
    | _=>False
theorem vY{ops:List Oper}{s:St}{g:Option (Nat × Bool)}{yes no:Prop}(h:pG ops s.sl g yes no):(i0 ops s g=some true/\yes)∨(i0 ops s g=some false/\no):=by
 unfold pG at h;unfold i0;split at h
 ·exact .inl ⟨rfl,h⟩
 ·split at h
  ·rename_i e;exact .inr ⟨by simp only[e],h⟩
  ·rename_i e;simp only[e];split at h
   ·rename_i e;exact .inr ⟨by simp only[e],h⟩
   ·rename_i e;simp only[e];split at h
    ·rename_i b e;simp only[e];split at h
     ·cases b
      ·exact .inr ⟨rfl,h⟩
      ·exact .inl ⟨rfl,h⟩
     ·cases b
      ·exact .inl ⟨rfl,h⟩
      ·exact .inr ⟨rfl,h⟩
    ·rename_i e;exact .inr ⟨by simp only[e],h⟩
    ·exact h.elim
def Gi(P:Program)(Γ:List (Nat × AV))(sl:List (Nat × AV))(f:Operand)(args:List Operand)(E:AV->Prop)(K:FuncId->List AV->Prop):Prop:=
 iI Γ sl f fun v=>match v with
  | .fn (.func F) first cap=>Ee Γ sl args fun as=>match P.funcs[F]? with
   | some fn=>match fn.body with
    | some _=>match fn.name == "runtime.NumGoroutine" with
     | false=>match Nat.beq F YF with
      | false=>yE first as fun l=>yE l cap fun l=>K F l
      | true=>False
     | true=>False
    | none=>match yQ fn with
     | true=>match first with
      | []=>match cap with
       | []=>match as with
        | [v]=>E v
        | _=>False
       | _=>False
      | _=>False
     | false=>False
   | none=>False
  | .yld id=>Ee Γ sl args fun as=>K YF (.yld id::as)
  | _=>False
theorem MN{P:Program}{Γ:List (Nat × AV)}{s:St}{c:Call}{f:Operand}(hc:c.callee = .value f){E:AV->Prop}{K:FuncId->List AV->Prop}(h:Gi P Γ s.sl f c.args.toList E K) :
  (∃v,bU P Γ s (.call c)=some (v,s.mem,s.nx)/\E v)∨(bU P Γ s (.call c)=none/\∃F l,lD P Γ s (.call c)=some (F,l)/\K F l):=by
 unfold Gi at h;obtain⟨v,h1,h⟩:=bH h;split at h
 ·rename_i F first cap
  obtain⟨as,h2,h⟩:=k6 h;split at h
  ·rename_i fn h3;split at h
   ·rename_i body h4;split at h
    ·rename_i h5;split at h
     ·rename_i h6;refine .inr ⟨?_,_,_,by simp only[lD,hc,h1,h2,h3,h4,h5,h6],fL.1 (fL.1 h)⟩;simp only[bU,hc,Cx,h1];cases first<;>cases cap<;>simp only[h3,h4]
     ·exact h.elim
    ·exact h.elim
   ·rename_i h4;split at h
    ·rename_i h5;split at h
     ·split at h
      ·split at h
       ·exact .inl ⟨_,by simp only[bU,hc,Cx,h1,h2,h3,h4,h5],h⟩
       ·exact h.elim
      ·exact h.elim
     ·exact h.elim
    ·exact h.elim
  ·exact h.elim
 ·rename_i id;obtain⟨as,h2,h⟩:=k6 h;exact .inr ⟨by simp only[bU,hc,Cx,h1],_,_,by simp only[lD,hc,h1,h2],h⟩
 ·exact h.elim
def Ck(cl:Bool)(P:Program)(Γ:List (Nat × AV))(H:Hk)(sl:List (Nat × AV))(mem:aN)(nx:Nat)(op:Op)(K:AV->aN->Nat->Prop)(Kp:Value->aN->Nat->Prop):Prop:=
 match op with
 | .call c=>match c.callee with
  | .value f=>Gi P Γ sl f c.args.toList (fun v=>K v mem nx) fun F l=>H.call F l mem nx K Kp
  | _=>p9 cl P Γ sl mem nx op K
 | _=>p9 cl P Γ sl mem nx op K
theorem Ac{cl:Bool}{P:Program}{Γ:List (Nat × AV)}{H:Hk}{s:St}{op:Op}{K:AV->aN->Nat->Prop}{Kp:Value->aN->Nat->Prop}(h:Ck cl P Γ H s.sl s.mem s.nx op K Kp) :
  (∃v m n,bU P Γ s op=some (v,m,n)/\K v m n)∨(bU P Γ s op=none/\∃F l,lD P Γ s op=some (F,l)/\H.call F l s.mem s.nx K Kp):=by
 unfold Ck at h;split at h
 ·split at h
  ·rename_i f hc;rcases MN hc h with⟨v,h1,h⟩|h
   ·exact .inl ⟨_,_,_,h1,h⟩
   ·exact .inr h
  ·exact .inl (kG h)
 ·exact .inl (kG h)
def EZ(cl:Bool)(P:Program)(Γ:List (Nat × AV))(H:Hk)(sl:List (Nat × AV))(mem:aN)(nx:Nat)(op:Op)(K:AV->aN->Nat->Prop)(Kp:Value->aN->Nat->Prop):Prop:=
 match op with
 | .panic x=>iI Γ sl x fun v=>opt (quo v) fun y=>Kp y mem nx
 | op=>Ck cl P Γ H sl mem nx op K Kp
theorem NO{cl:Bool}{P:Program}{Γ:List (Nat × AV)}{H:Hk}{s:St}{op:Op}{K:AV->aN->Nat->Prop}{Kp:Value->aN->Nat->Prop}(h:EZ cl P Γ H s.sl s.mem s.nx op K Kp) :
  (∃v m n,bU P Γ s op=some (v,m,n)/\K v m n)∨(bU P Γ s op=none/\∃F l,lD P Γ s op=some (F,l)/\H.call F l s.mem s.nx K Kp) ∨
   (bU P Γ s op=none/\lD P Γ s op=none/\∃y,GS Γ s op=some y/\Kp y s.mem s.nx):=by
 unfold EZ at h;split at h
 ·obtain⟨v,h1,h⟩:=bH h;obtain⟨y,h2,h⟩:=bG.1 h;exact .inr (.inr ⟨rfl,rfl,y,by simp only[GS,h1,h2],h⟩)
 ·rcases Ac h with h|h
  ·exact .inl h
  ·exact .inr (.inl h)
def Fh(cl:Bool)(P:Program)(Γ:List (Nat × AV))(H:Hk)(ops:List Oper):List Oper->St->(St->Prop)->(Value->St->Prop)->Prop
 | [],s,K,_=>K s
 | o::r,s,K,Kp=>C2 s fun sl mem nx nt=>pG ops sl o.guard
   (EZ cl P Γ H sl mem nx o.op (fun v mem nx=>lK s o.dst v mem nx fun s'=>Fh cl P Γ H ops r s' K Kp) fun x mem nx=>Kp x ⟨sl,mem,nx,nt⟩)
   (lK s o.dst (.tup []) mem nx fun s'=>Fh cl P Γ H ops r s' K Kp)
theorem DH{cl:Bool}{P:Program}{Γ:List (Nat × AV)}{H:Hk}{B:Nat}(hH:uS P Γ B H)(ops:List Oper):∀(l:List Oper) (s:St) (K K':St->Prop) (Kp Kp':Value->St->Prop),(∀s,K s->K' s)->(∀x s,Kp x s->Kp' x s)->Fh cl P Γ H ops l s K Kp->uH P Γ (If P Γ B) ops l s K' Kp'
 | [],s,K,K',Kp,Kp',hk,hp,h=>hk s h
 | o::r,s,K,K',Kp,Kp',hk,hp,h=>by
  simp only[Fh] at h;simp only[uH];have h:=kA.1 h;rcases vY h with⟨h1,h⟩|⟨h1,h⟩
  ·simp only[h1];rcases NO h with⟨v,m,n,h2,h⟩|⟨h2,F,l,h3,h⟩|⟨h2,h3,y,h4,h⟩
   ·obtain⟨s',h4,h⟩:=eH h;simp only[h2,h4];exact DH hH ops r s' K K' Kp Kp' hk hp h
   ·simp only[h2,h3];refine(hH.call _ _ _ _ _ _ h).mono (fun v m n h=>?_) fun x m n h=>hp _ _ h
    obtain⟨s',h4,h⟩:=eH h;simp only[h4];exact DH hH ops r s' K K' Kp Kp' hk hp h
   ·simp only[h2,h3,h4];exact hp _ _ h
  ·obtain⟨s',h4,h⟩:=eH h;simp only[h1,h4];exact DH hH ops r s' K K' Kp Kp' hk hp h
def fU(f:Nat × AB->Bool):aN->(aN->Prop)->Prop
 | [],K=>K []
 | p::r,K=>match f p with
  | true=>fU f r fun l=>K (p::l)
  | false=>fU f r K
theorem b9{f:Nat × AB->Bool}:∀{m:aN} {K:aN->Prop},fU f m K↔K (m.filter f)
 | [],K=>Iff.rfl
 | p::r,K=>by
  simp only[fU,Sv];cases f p
  ·simpa using b9
  ·simpa using b9
def sX(cl:Bool)(P:Program)(Γ:List (Nat × AV))(ops:List Oper)(tr:List (List Nat))(base x:Nat)(mem:aN)(nx:Nat):List zF->Prop->Prop
 | [],K=>K
 | r::rs,K=>match uF r.i (T tr x) with
  | true=>sX cl P Γ ops tr base x mem nx rs K
  | false=>match r.want with
   | false=>sX cl P Γ ops tr base x mem nx rs K
   | true=>match ops[r.i]? with
    | none=>sX cl P Γ ops tr base x mem nx rs K
    | some o=>match kind P o.op with
     | .pure=>match still o.op with
      | true=>sX cl P Γ ops tr base x mem nx rs K
      | false=>fU (fun p=>Gr tr base ops.length r.i p.1) mem fun m=>p9 cl P Γ r.sl m nx o.op fun v _ _=>match cl with
       | true=>k9 (gX v r.v) (sX cl P Γ ops tr base x mem nx rs K)
       | false=>v=r.v/\sX cl P Γ ops tr base x mem nx rs K
     | _=>sX cl P Γ ops tr base x mem nx rs K
theorem mL{cl:Bool}{P:Program}{Γ:List (Nat × AV)}{ops:List Oper}{tr:List (List Nat)}{base x:Nat}{s:St}:∀{recs:List zF} {K:Prop},sX cl P Γ ops tr base x s.mem s.nx recs K->Nz P Γ ops tr base x s recs/\K
 | [],K,h=>⟨trivial,h⟩
 | r::rs,K,h=>by
  simp only[sX] at h;simp only[Nz];split at h
  ·rename_i h1;obtain⟨h2,h3⟩:=mL h;exact⟨⟨fun e=>(by rw[h1] at e;cases e),h2⟩,h3⟩
  ·split at h
   ·rename_i h1;obtain⟨h2,h3⟩:=mL h;exact⟨⟨fun _ e=>(by rw[h1] at e;cases e),h2⟩,h3⟩
   ·split at h
    ·rename_i h1;obtain⟨h2,h3⟩:=mL h;exact⟨⟨fun _ _ o e=>(by rw[h1] at e;cases e),h2⟩,h3⟩
    ·rename_i o ho;split at h
     ·split at h
      ·rename_i h1;obtain⟨h2,h3⟩:=mL h;refine⟨⟨fun _ _ o' e _ e'=>?_,h2⟩,h3⟩;rw[ho] at e;cases e;rw[h1] at e';cases e'
      ·have h:=b9.1 h;obtain⟨v,m,n,h1,h⟩:=kG (s:={ sl:=r.sl,mem:=dH tr base ops.length r.i s.mem,nx:=s.nx,nt:=s.nt }) h;have key:v=r.v/\sX cl P Γ ops tr base x s.mem s.nx rs K:=by
        cases cl
        ·exact h
        ·obtain⟨h2,h3⟩:=a9.1 h;exact⟨lO h2,h3⟩
       obtain⟨h2,h3⟩:=mL key.2;refine⟨⟨fun _ _ o' e _ _=>?_,h2⟩,h3⟩;rw[ho] at e;cases e;exact⟨m,n,by rw[←key.1];exact h1⟩
     ·rename_i hk;obtain⟨h2,h3⟩:=mL h;refine⟨⟨fun _ _ o' e e'=>?_,h2⟩,h3⟩;rw[ho] at e;cases e;exact(hk e').elim
def tO(cl:Bool)(P:Program)(Γ:List (Nat × AV))(H:Hk)(ops:List Oper)(tr:List (List Nat))(base:Nat)(K:St->Prop)(Kp:Value->aN->Nat->Prop):List Nat->List zF->St->Prop
 | [],recs,s=>K s
 | i::r,recs,s=>match ops[i]? with
  | none=>False
  | some o=>C2 s fun sl mem nx nt=>pG ops sl o.guard
   (match kind P o.op with
    | .pure=>match still o.op with
     | true=>p9 cl P Γ sl [] nx o.op fun v _ _=>lK s o.dst v mem nx fun s'=>tO cl P Γ H ops tr base K Kp r (⟨i,sl,true,v⟩::recs) s'
     | false=>fU (fun p=>Gr tr base ops.length i p.1) mem fun m=>p9 cl P Γ sl m nx o.op fun v _ _=>lK s o.dst v mem nx fun s'=>tO cl P Γ H ops tr base K Kp r (⟨i,sl,true,v⟩::recs) s'
    | .al=>mP (base+i) fun id=>p9 cl P Γ sl [] id o.op fun v m _=>match m with
     | [(_,b)]=>lK s o.dst v ((id,b)::mem) nx fun s'=>tO cl P Γ H ops tr base K Kp r (⟨i,sl,true,v⟩::recs) s'
     | _=>False
    | .eff=>fU (fun p=>Gr tr base ops.length i p.1) mem fun m=>Ck cl P Γ H sl m nx o.op (fun v m nx'=>fU (fun p=>!Gr tr base ops.length i p.1) mem fun rest=>fU (fun p=>!qS p.1 m) rest fun rest=>yE m rest fun m=>
      lK s o.dst v m nx' fun s'=>sX cl P Γ ops tr base i m nx' recs (tO cl P Γ H ops tr base K Kp r recs s')) Kp)
   (lK s o.dst (.tup []) mem nx fun s'=>tO cl P Γ H ops tr base K Kp r (⟨i,sl,false,.tup []⟩::recs) s')
theorem oA{cl:Bool}{P:Program}{Γ:List (Nat × AV)}{H:Hk}{B:Nat}(hH:uS P Γ B H)(ops:List Oper)(tr:List (List Nat))(base:Nat)(K K':St->Prop)(Kp Kp':Value->aN->Nat->Prop)(hk:∀s,K s->K' s)(hp:∀x m n,Kp x m n->Kp' x m n) :
  ∀(l:List Nat) (recs:List zF) (s:St),tO cl P Γ H ops tr base K Kp l recs s->mR P Γ (If P Γ B) ops tr base K' Kp' l recs s
 | [],recs,s,h=>hk s h
 | i::r,recs,s,h=>by
  simp only[tO] at h;simp only[mR];split at h
  ·exact h.elim
  ·rename_i o ho;simp only[ho];have h:=kA.1 h;rcases vY h with⟨h1,h⟩|⟨h1,h⟩
   ·simp only[h1];split at h
    ·rename_i hkd;simp only[hkd];split at h
     ·rename_i hst;obtain⟨v,m,n,h2,h⟩:=kG (s:={ sl:=s.sl,mem:=[],nx:=s.nx,nt:=s.nt }) h;obtain⟨m',n',h2'⟩:=p6 (s:={ sl:=s.sl,mem:=[],nx:=s.nx,nt:=s.nt }) (s':={ s with mem:=dH tr base ops.length i s.mem }) hst rfl h2;obtain⟨s',h3,h⟩:=eH h;simp only[h2',h3];exact oA hH ops tr base K K' Kp Kp' hk hp r _ s' h
     ·have h:=b9.1 h;obtain⟨v,m,n,h2,h⟩:=kG (s:={ s with mem:=dH tr base ops.length i s.mem }) h;obtain⟨s',h3,h⟩:=eH h;simp only[h2,h3];exact oA hH ops tr base K K' Kp Kp' hk hp r _ s' h
    ·rename_i hkd;simp only[hkd];have h:=cQ.1 h;obtain⟨v,m,n,h2,h⟩:=kG (s:={ s with mem:=[],nx:=base+i }) h;simp only[h2];split at h
     ·obtain⟨s',h3,h⟩:=eH h;simp only[h3];exact oA hH ops tr base K K' Kp Kp' hk hp r _ s' h
     ·exact h.elim
    ·rename_i hkd;simp only[hkd];have h:=b9.1 h;rcases Ac (s:={ s with mem:=dH tr base ops.length i s.mem }) h with⟨v,m,n,h2,h⟩|⟨h2,F,l,h3,h⟩
     ·simp only[h2];have h:=fL.1 (b9.1 (b9.1 h));obtain⟨s',h3,h⟩:=eH h;have h3:dB s o.dst v (m++pQ m (eP tr base ops.length i s.mem)) n=some s':=h3;simp only[h3];obtain⟨e1,e2,_⟩:=fA h3;have h:sX cl P Γ ops tr base i (m++pQ m (eP tr base ops.length i s.mem)) n recs (tO cl P Γ H ops tr base K Kp r recs s'):=h;rw[←e1,←e2] at h;obtain⟨h4,h⟩:=mL h;exact⟨h4,oA hH ops tr base K K' Kp Kp' hk hp r _ s' h⟩
     ·rw[q6 (s':=s) (fun x _=>by cases x<;>rfl)] at h3;simp only[h2,h3];refine(hH.call _ _ _ _ _ _ h).mono (fun v m n h=>?_) hp;have h:=fL.1 (b9.1 (b9.1 h));obtain⟨s',h3,h⟩:=eH h;have h3:dB s o.dst v (m++pQ m (eP tr base ops.length i s.mem)) n=some s':=h3;simp only[h3];obtain⟨e1,e2,_⟩:=fA h3;have h:sX cl P Γ ops tr base i (m++pQ m (eP tr base ops.length i s.mem)) n recs (tO cl P Γ H ops tr base K Kp r recs s'):=h;rw[←e1,←e2] at h;obtain⟨h4,h⟩:=mL h;exact⟨h4,oA hH ops tr base K K' Kp Kp' hk hp r _ s' h⟩
   ·obtain⟨s',h3,h⟩:=eH h;simp only[h1,h3];exact oA hH ops tr base K K' Kp Kp' hk hp r _ s' h
def PR(sl:List (Nat × AV))(id nt:Nat)(m:aN)(n:Nat)(Q:Exit->St->Prop):Prop:=
 opt (lk m id) fun b=>match b with
  | .loop _ _ _ _ _ st pd=>match st with
   | .busy=>False
   | _=>fU (fun p=>!Nat.beq p.1 id) m fun m=>match pd with
    | none=>Q .normal ⟨sl,m,n,nt⟩
    | some .ret=>Q .ret ⟨sl,m,n,nt⟩
    | some (.exit i)=>Q (.exit i) ⟨sl,m,n,nt⟩
    | some _=>False
  | _=>False
theorem Oy{s:St}{m:aN}{n:Nat}{Q:Exit->St->Prop}(h:PR s.sl s.nx s.nt m n Q):Dr s Q m n:=by
 obtain⟨b,h1,h⟩:=bG.1 h;unfold Dr;simp only[h1];cases b with
 | loop sl nt ps ca cb st pd=>
  cases st<;>first|exact h.elim|(simp only at h ⊢;have h:=b9.1 h;exact h)
 | _=>exact h.elim
theorem Dr.mono{s:St}{m:aN}{n:Nat}{Q Q':Exit->St->Prop}(hq:∀e s,Q e s->Q' e s)(h:Dr s Q m n):Dr s Q' m n:=by
 unfold Dr at h ⊢;split at h
 ·split at h
  ·exact h
  ·split at h
   ·exact hq _ _ h
   ·exact hq _ _ h
   ·exact hq _ _ h
   ·exact h
 ·exact h
def uU(cl:Bool)(P:Program)(Γ:List (Nat × AV))(H:Hk):Code->St->(Exit->St->Prop)->Prop
 | .skip,s,Q=>Q .normal s
 | .seq x y,s,Q=>uU cl P Γ H x s fun e s'=>match e with
  | .normal=>uU cl P Γ H y s' Q
  | e=>Q e s'
 | .cond c x y,s,Q=>C2 s fun sl _ _ _=>iI Γ sl c fun v=>match v with
  | .bool b=>Jc b (uU cl P Γ H x s Q) (uU cl P Γ H y s Q)
  | _=>False
 | .block id c,s,Q=>uU cl P Γ H c s fun e s'=>match e with
  | .exit i=>match Nat.beq i id with
   | true=>Q .normal s'
   | false=>Q (.exit i) s'
  | e=>Q e s'
 | .loop c,s,Q=>H.loop c s Q
 | .label _,s,Q=>Q .normal s
 | .scope c,s,Q=>uU cl P Γ H c s fun e s'=>match e with
  | .goto _=>False
  | e=>Q e s'
 | .exit i,s,Q=>Q (.exit i) s
 | .ret,s,Q=>Q .ret s
 | .region _ ops draw,s,Q=>match draw with
  | false=>Fh cl P Γ H ops.toList ops.toList s (fun s'=>Q .normal s') fun x s'=>Q (.panic [pe x]) s'
  | true=>match P.follows .mixedOrders with
   | true=>match Aq P ops.toList (uV P ops.toList ops.toList.length [] (wW ops.toList.length)) with
    | true=>C2 s fun sl mem nx nt=>mP (nx+ops.toList.length) fun n=>sZ (uV P ops.toList ops.toList.length [] (wW ops.toList.length)) fun ord=>tO cl P Γ H ops.toList (It ops.toList []) nx (fun s'=>Q .normal s') (fun x m n=>Q (.panic [pe x]) ⟨sY ops.toList sl,m,n,nt⟩) ord [] ⟨sl,mem,n,nt⟩
    | false=>False
   | false=>False
 | .rangeFunc g ps ca cb,s,Q=>C2 s fun sl mem nx nt=>iI Γ sl g fun v=>match v with
  | .fn (.func G) first cap=>match P.funcs[G]? with
   | some fn=>match fn.body with
    | some _=>match fn.name == "runtime.NumGoroutine" with
     | false=>match Nat.beq G YF with
      | false=>mP (nx+1) fun n=>yE first (.yld nx::cap) fun l=>H.call G l ((nx,.loop sl nt ps ca cb .ready none)::mem) n (fun _ m n=>PR sl nx nt m n Q) fun x m n=>Q (.panic [pe x]) ⟨sl,m,n,nt⟩
      | true=>False
     | true=>False
    | none=>False
   | none=>False
  | _=>False
 | _,_,_=>False
theorem Pl{cl:Bool}{P:Program}{Γ:List (Nat × AV)}{H:Hk}{B:Nat}(hH:uS P Γ B H):∀(c:Code) (s:St) (Q Q':Exit->St->Prop),(∀e s,Q e s->Q' e s)->uU cl P Γ H c s Q->Ba P Γ (If P Γ B) c s Q':=by
 intro c
 induction c with
 | skip=>exact fun s Q Q' hq h=>hq _ _ h
 | label l=>exact fun s Q Q' hq h=>hq _ _ h
 | scope c ih=>
  intro s Q Q' hq h;simp only[uU] at h;simp only[Ba];refine ih s _ _ (fun e s' h=>?_) h;cases e with
  | goto l=>exact h
  | normal=>exact hq _ _ h
  | exit i=>exact hq _ _ h
  | ret=>exact hq _ _ h
  | panic c=>exact hq _ _ h
  | outgrown=>exact hq _ _ h
 | exit i=>exact fun s Q Q' hq h=>hq _ _ h
 | ret=>exact fun s Q Q' hq h=>hq _ _ h
 | loop c ih=>exact fun s Q Q' hq h=>(hH.loop c s Q h).mono hq
 | seq x y ihx ihy=>
  intro s Q Q' hq h;simp only[uU] at h;simp only[Ba];refine ihx s _ _ (fun e s' h=>?_) h;cases e with
  | normal=>exact ihy s' Q Q' hq h
  | exit i=>exact hq _ _ h
  | goto l=>exact hq _ _ h
  | ret=>exact hq _ _ h
  | panic c=>exact hq _ _ h
  | outgrown=>exact hq _ _ h
 | cond c x y ihx ihy=>
  intro s Q Q' hq h;simp only[uU] at h;simp only[Ba];have h:=kA.1 h;obtain⟨v,h1,h⟩:=bH h;simp only[h1];split at h
  ·rename_i b;cases b
   ·exact ihy s Q Q' hq h
   ·exact ihx s Q Q' hq h
  ·exact h.elim
 | block id c ih=>
  intro s Q Q' hq h;simp only[uU] at h;simp only[Ba];refine ih s _ _ (fun e s' h=>?_) h;cases e with
  | exit i=>
   simp only at h ⊢;split at h
   ·rename_i e;simp only[e];exact hq _ _ h
   ·rename_i e;simp only[e];exact hq _ _ h
  | normal=>exact hq _ _ h
  | goto l=>exact hq _ _ h
  | ret=>exact hq _ _ h
  | panic c=>exact hq _ _ h
  | outgrown=>exact hq _ _ h
 | region id ops draw=>
  intro s Q Q' hq h;cases draw with
  | false=>
   simp only[uU] at h;simp only[Ba];exact DH hH _ _ _ _ _ _ _ (fun s h=>hq _ _ h) (fun x s h=>hq _ _ h) h
  | true=>
   simp only[uU] at h;simp only[Ba];split at h
   ·rename_i hmix;simp only[hmix];split at h
    ·rename_i hok;simp only[Ek,hok];exact oA hH _ _ _ _ _ _ _ (fun s h=>hq _ _ h) (fun x m n h=>hq _ _ h) _ _ _ (jE.1 (cQ.1 (kA.1 h)))
    ·exact h.elim
   ·exact h.elim
 | rangeFunc g ps ca cb=>
  intro s Q Q' hq h;simp only[uU] at h;obtain⟨v,h1,h⟩:=bH (s:=s) (kA.1 h);simp only[Ba,h1];split at h<;>first|exact h.elim|skip
  split at h<;>first|exact h.elim|skip
  rename_i fn hf;split at h<;>first|exact h.elim|skip
  rename_i c0 hb;split at h<;>first|exact h.elim|skip
  rename_i hn;split at h<;>first|exact h.elim|skip
  rename_i hG;simp only[hf,hb,hn,hG];exact(hH.call _ _ _ _ _ _ (fL.1 (cQ.1 h))).mono (fun _ m n h=>(Oy h).mono hq) fun x m n h=>hq _ _ h
 | _=>intro s Q Q' hq h;simp only[uU] at h
theorem cT{cl:Bool}{P:Program}{Γ:List (Nat × AV)}{H:Hk}{B:Nat}(hH:uS P Γ B H)(c:Code)(s:St)(Q:Exit->St->Prop)(h:uU cl P Γ H c s Q):dO P Γ B c s Q:=
 wE M8 c s Q (Pl hH c s Q Q (fun _ _ h=>h) h)
def IH:Nat->List AV->(List (Nat × AV)->Prop)->Prop
 | _,[],K=>K []
 | k,a::r,K=>mP k fun k=>IH (k+1) r fun l=>K ((k,a)::l)
theorem Bs:∀{k:Nat} {l:List AV} {K:List (Nat × AV)->Prop},IH k l K↔K (FK k l)
 | k,[],K=>Iff.rfl
 | k,a::r,K=>by simp only[IH,FK,cQ,Bs]
def tX(ntmps:Nat)(args:List AV)(mem:aN)(nx:Nat)(K:St->Prop):Prop:=
 IH 0 args fun sl=>k9 (Nat.ble args.length ntmps) (mP ntmps fun nt=>K ⟨sl,mem,nx,nt⟩)
theorem i5{ntmps:Nat}{args:List AV}{mem:aN}{nx:Nat}{K:St->Prop}(h:tX ntmps args mem nx K):K (enter ntmps args mem nx):=by
 obtain⟨h1,h⟩:=a9.1 (Bs.1 h);have h:=cQ.1 h;have h1:=Qu h1;have e:enter ntmps args mem nx=⟨FK 0 args,mem,nx,ntmps⟩:=by simp only[enter];congr 1;omega
 rw[e];exact h
def IX(P:Program)(s:St):List ResultVar->(List AV->Prop)->Prop
 | [],K=>K []
 | .tmp t::r,K=>opt (lk s.sl t) fun v=>IX P s r fun l=>K (v::l)
 | .cell a t::r,K=>opt (lk s.sl a) fun p=>Eg P s.mem t p fun v=>IX P s r fun l=>K (v::l)
theorem Da{P:Program}{s:St}:∀{rs:List ResultVar} {K:List AV->Prop},IX P s rs K->∃l,tJ P s rs=some l/\K l
 | [],K,h=>⟨[],rfl,h⟩
 | .tmp t::r,K,h=>by
  obtain⟨v,h1,h⟩:=bG.1 h;obtain⟨l,h2,h⟩:=Da h;exact⟨_,by simp only[tJ,h1,h2],h⟩
 | .cell a t::r,K,h=>by
  obtain⟨p,h1,h⟩:=bG.1 h;obtain⟨v,h2,h⟩:=Hb h;obtain⟨l,h3,h⟩:=Da h;exact⟨_,by simp only[tJ,h1,h2,h3],h⟩
def DE(P:Program)(rs:List ResultVar)(s:St)(K:AV->Prop):Prop:=
 IX P s rs fun l=>match l with
  | [v]=>K v
  | []=>K (.tup [])
  | a::b::r=>K (.tup (a::b::r))
theorem Dl{P:Program}{rs:List ResultVar}{s:St}{K:AV->Prop}(h:DE P rs s K):∃v,yA P rs s=some v/\K v:=by
 obtain⟨l,h1,h⟩:=Da h;unfold yA;rw[h1]
 match l,h with
 | [v],h=>exact⟨_,rfl,h⟩
 | [],h=>exact⟨_,rfl,h⟩
 | a::b::r,h=>exact⟨_,rfl,h⟩
def OI(P:Program)(rs:List ResultVar)(Q:AV->aN->Nat->Prop):Exit->St->Prop:=fun e s=>
 match e with
 | .normal=>C2 s fun _ mem nx _=>DE P rs s fun r=>Q r mem nx
 | .ret=>C2 s fun _ mem nx _=>DE P rs s fun r=>Q r mem nx
 | _=>False
theorem Jp{P:Program}{rs:List ResultVar}{Q:AV->aN->Nat->Prop}{e:Exit}{s:St}(h:OI P rs Q e s):I7 P rs Q e s:=by
 cases e with
 | normal=>
  obtain⟨v,h1,h⟩:=Dl (show DE P rs s _ from h);simp only[I7,h1];exact h
 | ret=>
  obtain⟨v,h1,h⟩:=Dl (show DE P rs s _ from h);simp only[I7,h1];exact h
 | _=>exact(show False from h).elim
theorem fG{P:Program}{Γ:List (Nat × AV)}{F:FuncId}{fn:Func}{c:Code}{args:List AV}{mem:aN}{nx:Nat}{Q:AV->aN->Nat->Prop}(hΓ:∀p∈Γ,NN p.2)(hf:P.funcs[F]? = some fn)(hb:fn.body=some c)
  (h:tX fn.ntmps args mem nx fun s=>uU false P Γ (Fe P Γ nx) c s (OI P fn.results.toList (nF nx Q))) (hF:Nat.beq F YF=false:=by rfl):aF P Γ F args mem nx Q:=
 (tD hf hb ((cT oJ _ _ _ (i5 h)).mono fun _ _ h=>Jp h) hF).turn hΓ
def EX(P:Program)(rs:List ResultVar)(Q:AV->aN->Nat->Prop)(Qp:Value->aN->Nat->Prop):Exit->St->Prop:=fun e s=>
 match e with
 | .normal=>C2 s fun _ mem nx _=>DE P rs s fun r=>Q r mem nx
 | .ret=>C2 s fun _ mem nx _=>DE P rs s fun r=>Q r mem nx
 | .panic [⟨x,false,false⟩]=>C2 s fun _ mem nx _=>Qp x mem nx
 | _=>False
theorem DB{P:Program}{rs:List ResultVar}{Q:AV->aN->Nat->Prop}{Qp:Value->aN->Nat->Prop}{e:Exit}{s:St}(h:EX P rs Q Qp e s):AR P rs Q Qp e s:=by
 cases e with
 | normal=>
  obtain⟨v,h1,h⟩:=Dl (show DE P rs s _ from h);simp only[AR,h1];exact h
 | ret=>
  obtain⟨v,h1,h⟩:=Dl (show DE P rs s _ from h);simp only[AR,h1];exact h
 | panic ch=>
  unfold EX at h;split at h
  ·rename_i e;cases e
  ·rename_i e;cases e
  ·rename_i e;cases e;exact h
  ·exact h.elim
 | _=>exact(show False from h).elim
end Go.Ax
