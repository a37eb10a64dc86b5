/- A part of the proof. -/
import Derived.Test.YtnbkfjjdlofdpaaGreatDoorAx5
set_option linter.unusedVariables false
set_option linter.unusedSimpArgs false
set_option linter.unusedSectionVars false
namespace Go.Ax
open Go
def De(cl:Bool)(P:Program)(mem:aA)(t:TypeId)(x y:AV)(K:AV->aA->Prop):Prop:=
 match P.underlying t with
 | some (.slice e)=>match cK P e with
  | some n=>match x with
   | .sl id 0 len=>match lk mem id with
    | some (.row t' sz' xs)=>EU cl mem n y fun ys=>gO (Nat.blt 0 n && (Nat.beq sz' n && (Nat.ble ys.length len && Nat.ble len xs.length)))
      (jZ cl (xs.drop ys.length) fun zs=>Ed cl ys zs fun zs=>oE cl ys.length fun l=>x9 mem id (.row t' sz' zs) fun m=>K (.int .i64 l) m)
    | _=>False
   | _=>False
  | none=>False
 | _=>False
theorem FJ{cl:Bool}{P:Program}{mem:aA}{t:TypeId}{x y:AV}{K:AV->aA->Prop}(h:De cl P mem t x y K):∃v m,zG P mem t x y=some (v,m)/\K v m:=by
 unfold De at h;unfold zG;split at h
 ·rename_i e hu;simp only[hu];split at h
  ·rename_i n hn;simp only[hn];split at h
   ·split at h
    ·rename_i hid;obtain⟨ys,h4,h⟩:=Cs h;obtain⟨h5,h⟩:=aY.1 h;rw[JU] at h5;exact⟨_,_,by simp only[h5.1,hid,h4,h5.2],eK.1 (dA.1 (zC.1 (dC.1 h)))⟩
    ·exact h.elim
   ·exact h.elim
  ·exact h.elim
 ·exact h.elim
def Ao(P:Program)(mem:aA)(t:TypeId)(x:AV)(K:aA->Prop):Prop:=
 match P.underlying t with
 | some (.slice e)=>match fE P e with
  | some z=>match x with
   | .sl id off len=>match lk mem id with
    | some (.row t' sz xs)=>gO (d6 z && (Nat.beq z.cells.length sz && (Nat.blt 0 sz && (Nat.blt 0 len && Nat.ble (off+len) xs.length))))
      (x9 mem id (.row t' sz (xs.take off++(List.replicate len z++xs.drop (off+len)))) fun m=>K m)
    | _=>False
   | _=>False
  | none=>False
 | _=>False
theorem D5{P:Program}{mem:aA}{t:TypeId}{x:AV}{K:aA->Prop}(h:Ao P mem t x K):∃m,rH P mem t x=some m/\K m:=by
 unfold Ao at h;unfold rH;split at h
 ·rename_i e hu;simp only[hu];split at h
  ·rename_i z hz;simp only[hz];split at h
   ·split at h
    ·rename_i hid;obtain⟨h5,h⟩:=aY.1 h;exact⟨_,by simp only[hid,h5],eK.1 h⟩
    ·exact h.elim
   ·exact h.elim
  ·exact h.elim
 ·exact h.elim
def oD(cl:Bool)(P:Program)(Γ:List (Nat × AV))(sl:List (Nat × AV))(mem:aA)(nx:Nat)(b:Builtin)(args:List Operand)(ts:List TypeId)(K:AV->aA->Nat->Prop):Prop:=
 match b with
 | .len=>match args,ts with
  | [x],[t]=>dW Γ sl x fun a=>fR (Fi P mem t a) fun v=>match v with
   | .int k n=>jS cl k n fun v=>K v mem nx
   | _=>False
  | _,_=>False
 | .append=>match args,ts with
  | [x,y],[t,u]=>dW Γ sl x fun a=>dW Γ sl y fun b=>wR cl P mem nx t u a b K
  | _,_=>False
 | .min=>yF Γ sl args fun l=>match l with
  | .int k x::r=>fR (Cb x r) fun m=>jS cl k m fun v=>K v mem nx
  | _=>False
 | .max=>yF Γ sl args fun l=>match l with
  | .int k x::r=>fR (CJ x r) fun m=>jS cl k m fun v=>K v mem nx
  | _=>False
 | .unsafeSliceData=>match args,ts with
  | [x],[_]=>dW Γ sl x fun a=>fR (jI a) fun v=>K v mem nx
  | _,_=>False
 | .unsafeString=>match args,ts with
  | [x,y],[t,_]=>dW Γ sl x fun a=>dW Γ sl y fun b=>match oG P mem t a b with
   | some (.str l,m)=>jZ cl l fun l=>rS m fun m=>K (.str l) m nx
   | _=>False
  | _,_=>False
 | .copy=>match args,ts with
  | [x,y],[t,_]=>dW Γ sl x fun a=>dW Γ sl y fun b=>De cl P mem t a b fun v m=>K v m nx
  | _,_=>False
 | .clear=>match args,ts with
  | [x],[t]=>dW Γ sl x fun a=>Ao P mem t a fun m=>K (.tup []) m nx
  | _,_=>False
 | _=>False
theorem AU{cl:Bool}{P:Program}{Γ:List (Nat × AV)}{s:St}{b:Builtin}{args:List Operand}{ts:List TypeId}{K:AV->aA->Nat->Prop}(h:oD cl P Γ s.sl s.mem s.nx b args ts K) :
  ∃v m n,bP P Γ s b args ts=some (v,m,n)/\K v m n:=by
 unfold oD at h;split at h
 ·split at h
  ·obtain⟨a,h1,h⟩:=aX h;obtain⟨v,h2,h⟩:=aV.1 h;split at h
   ·exact⟨_,_,_,by simp only[bP,h1,h2,aH],fX.1 h⟩
   ·exact h.elim
  ·exact h.elim
 ·split at h
  ·obtain⟨a,h1,h⟩:=aX h;obtain⟨b,h2,h⟩:=aX h;obtain⟨v,m,n,h3,h⟩:=CW h;exact⟨_,_,_,by simp only[bP,h1,h2];exact h3,h⟩
  ·exact h.elim
 ·obtain⟨l,h1,h⟩:=gU h;split at h
  ·obtain⟨m,h2,h⟩:=aV.1 h;exact⟨_,_,_,by simp only[bP,h1,h2],fX.1 h⟩
  ·exact h.elim
 ·obtain⟨l,h1,h⟩:=gU h;split at h
  ·obtain⟨m,h2,h⟩:=aV.1 h;exact⟨_,_,_,by simp only[bP,h1,h2],fX.1 h⟩
  ·exact h.elim
 ·split at h
  ·obtain⟨a,h1,h⟩:=aX h;obtain⟨v,h2,h⟩:=aV.1 h;exact⟨_,_,_,by simp only[bP,h1,h2,aH],h⟩
  ·exact h.elim
 ·split at h
  ·obtain⟨a,h1,h⟩:=aX h;obtain⟨b,h2,h⟩:=aX h;split at h
   ·rename_i l m h3;exact⟨_,_,_,by simp only[bP,h1,h2,h3],mN.1 (dC.1 h)⟩
   ·exact h.elim
  ·exact h.elim
 ·split at h
  ·obtain⟨a,h1,h⟩:=aX h;obtain⟨b,h2,h⟩:=aX h;obtain⟨v,m,h3,h⟩:=FJ h;exact⟨_,_,_,by simp only[bP,h1,h2,h3],h⟩
  ·exact h.elim
 ·split at h
  ·obtain⟨a,h1,h⟩:=aX h;obtain⟨m,h3,h⟩:=D5 h;exact⟨_,_,_,by simp only[bP,h1,h3],h⟩
  ·exact h.elim
 ·exact h.elim
def kJ(cl:Bool)(P:Program)(Γ:List (Nat × AV))(sl:List (Nat × AV))(mem:aA)(nx:Nat)(op:Op)(K:AV->aA->Nat->Prop):Prop:=
 match op with
 | .move x=>dW Γ sl x fun v=>K v mem nx
 | .assign x=>dW Γ sl x fun v=>K v mem nx
 | .pick c a b=>dW Γ sl c fun c=>match c with
  | .bool c=>EP c (dW Γ sl a fun v=>K v mem nx) (dW Γ sl b fun v=>K v mem nx)
  | _=>False
 | .alloc t=>xA P mem nx t K
 | .box t x=>dW Γ sl x fun v=>GW P mem nx t v K
 | .build t parts=>iZ Γ sl parts.toList fun ps=>vX P t ps fun v=>K v mem nx
 | .buildSlice t len parts=>iZ Γ sl parts.toList fun ps=>iA P mem nx t len ps K
 | .load t x=>dW Γ sl x fun p=>zR P mem t p fun v=>K v mem nx
 | .store t x y=>dW Γ sl x fun p=>dW Γ sl y fun v=>wQ P mem t p v fun m=>K (.tup []) m nx
 | .nilCheck x=>dW Γ sl x fun p=>fR (EO p) fun v=>K v mem nx
 | .binOp op t x y _=>dW Γ sl x fun a=>dW Γ sl y fun b=>E0 cl P op t x y a b fun v=>K v mem nx
 | .unOp op _ x=>dW Γ sl x fun a=>IU cl op a fun v=>K v mem nx
 | .convert src dst x=>dW Γ sl x fun a=>match P.underlying dst with
  | some (.slice _)=>lS cl P mem nx src dst a K
  | _=>Br cl P mem src dst a fun v=>K v mem nx
 | .makeInterface t x=>dW Γ sl x fun a=>fR (wC P t a) fun v=>K v mem nx
 | .makeFunc fn first cap=>yF Γ sl first.toList fun l1=>yF Γ sl cap.toList fun l2=>K (.fn fn l1 l2) mem nx
 | .makeSlice t l c=>dW Γ sl l fun a=>dW Γ sl c fun b=>Cu cl P mem nx t a b K
 | .slice t x lo hi mx=>dW Γ sl x fun a=>vS Γ sl lo fun l=>vS Γ sl hi fun h=>vS Γ sl mx fun m=>match !m.isSome || h.isSome with
  | true=>Aa cl P mem t a l h m fun v=>K v mem nx
  | false=>False
 | .fieldAddr t x f=>dW Γ sl x fun p=>jD P t f p fun v=>K v mem nx
 | .field t x f=>dW Γ sl x fun p=>wW P t f p fun v=>K v mem nx
 | .indexAddr t x ix=>dW Γ sl x fun p=>dW Γ sl ix fun i=>jB cl P mem t p i fun v=>K v mem nx
 | .index t x ix=>dW Γ sl x fun p=>dW Γ sl ix fun i=>xQ cl P t p i fun v=>K v mem nx
 | .extract x i=>dW Γ sl x fun p=>fR (kC p i) fun v=>K v mem nx
 | .typeAssert x _ t ok=>dW Γ sl x fun p=>fR (q8 P t ok p) fun v=>K v mem nx
 | .makeMap _ reserve=>match reserve with
  | none=>g6 (nx+1) fun n=>K (.mp nx) ((nx,.mapb [])::mem) n
  | some _=>False
 | .lookup t x ix ok=>dW Γ sl x fun p=>dW Γ sl ix fun i=>fR (gD P mem t p i ok) fun v=>K v mem nx
 | .mapUpdate t x y z=>dW Γ sl x fun p=>dW Γ sl y fun k=>dW Γ sl z fun v=>gP P mem t p k v fun m=>K (.tup []) m nx
 | .insert t x y z=>dW Γ sl x fun p=>dW Γ sl y fun k=>dW Γ sl z fun v=>gP P mem t p k v fun m=>K (.tup []) m nx
 | .range t x=>dW Γ sl x fun p=>fR (pL P mem nx t p) fun r=>match r with
  | (v,m,n)=>g6 n fun n=>K v m n
 | .entry x=>dW Γ sl x fun p=>fR (sL mem p) fun v=>K v mem nx
 | .next x b=>match b with
  | false=>dW Γ sl x fun p=>fR (oU mem p) fun r=>match r with
   | (v,m)=>K v m nx
  | true=>False
 | .call c=>match c.callee with
  | .builtin b=>oD cl P Γ sl mem nx b c.args.toList c.argTypes.toList K
  | _=>False
 | _=>False
theorem gE{cl:Bool}{P:Program}{Γ:List (Nat × AV)}{s:St}{op:Op}{K:AV->aA->Nat->Prop}(h:kJ cl P Γ s.sl s.mem s.nx op K):∃v m n,a7 P Γ s op=some (v,m,n)/\K v m n:=by
 cases op<;>simp only[kJ] at h<;>simp only[a7]<;>first|exact h.elim|skip
 case move x=>
  obtain⟨v,h1,h⟩:=aX h;exact⟨_,_,_,by simp only[h1,aH],h⟩
 case assign x=>
  obtain⟨v,h1,h⟩:=aX h;exact⟨_,_,_,by simp only[h1,aH],h⟩
 case pick c x y=>
  obtain⟨v,h1,h⟩:=aX h;split at h
  ·rename_i b;cases b
   ·obtain⟨v,h2,h⟩:=aX (show dW Γ s.sl y _ from h);exact⟨_,_,_,by simp only[h1,h2,aH],h⟩
   ·obtain⟨v,h2,h⟩:=aX (show dW Γ s.sl x _ from h);exact⟨_,_,_,by simp only[h1,h2,aH],h⟩
  ·exact h.elim
 case alloc t=>exact Dd h
 case box t x=>
  obtain⟨v,h1,h⟩:=aX h;simp only[h1];exact GF h
 case build t parts=>
  obtain⟨v,h1,h⟩:=kP h;obtain⟨v,h2,h⟩:=D4 h;exact⟨_,_,_,by simp only[h1,h2,aH],h⟩
 case buildSlice t len parts=>
  obtain⟨v,h1,h⟩:=kP h;simp only[h1];exact uD h
 case load t x=>
  obtain⟨v,h1,h⟩:=aX h;obtain⟨v,h2,h⟩:=BX h;exact⟨_,_,_,by simp only[h1,h2,aH],h⟩
 case store t x y=>
  obtain⟨v,h1,h⟩:=aX h;obtain⟨u,h2,h⟩:=aX h;obtain⟨m,h3,h⟩:=EE h;exact⟨_,_,_,by simp only[h1,h2,h3],h⟩
 case nilCheck x=>
  obtain⟨v,h1,h⟩:=aX h;obtain⟨v,h2,h⟩:=aV.1 h;exact⟨_,_,_,by simp only[h1,h2,aH],h⟩
 case binOp op t x y t'=>
  obtain⟨v,h1,h⟩:=aX h;obtain⟨u,h2,h⟩:=aX h;obtain⟨m,h3,h⟩:=GJ h;exact⟨_,_,_,by simp only[h1,h2,h3,aH],h⟩
 case unOp op t x=>
  obtain⟨v,h1,h⟩:=aX h;obtain⟨v,h2,h⟩:=IK h;exact⟨_,_,_,by simp only[h1,h2,aH],h⟩
 case convert src dst x=>
  obtain⟨v,h1,h⟩:=aX h;simp only[h1];split at h
  ·rename_i e hu;have hn:rE P s.mem src dst v=none:=by
    unfold rE;split
    ·rfl
    ·rw[hu]
   rw[hn];exact yL h
  ·obtain⟨u,h2,h⟩:=Er h;exact⟨_,_,_,by simp only[h2],h⟩
 case makeInterface t x=>
  obtain⟨v,h1,h⟩:=aX h;obtain⟨v,h2,h⟩:=aV.1 h;exact⟨_,_,_,by simp only[h1,h2,aH],h⟩
 case makeFunc fn first cap=>
  obtain⟨v,h1,h⟩:=gU h;obtain⟨v,h2,h⟩:=gU h;exact⟨_,_,_,by simp only[h1,h2],h⟩
 case makeSlice t l c=>
  obtain⟨v,h1,h⟩:=aX h;obtain⟨u,h2,h⟩:=aX h;simp only[h1,h2];exact Eg h
 case slice t x lo hi mx=>
  obtain⟨v,h1,h⟩:=aX h;obtain⟨l,h2,h⟩:=pK h;obtain⟨h',h3,h⟩:=pK h;obtain⟨m,h4,h⟩:=pK h;simp only[h1,h2,h3,h4];split at h
  ·rename_i e;obtain⟨u,h5,h⟩:=Db h;exact⟨_,_,_,by simp only[e,h5,aH],h⟩
  ·exact h.elim
 case fieldAddr t x f=>
  obtain⟨v,h1,h⟩:=aX h;obtain⟨v,h2,h⟩:=xC h;exact⟨_,_,_,by simp only[h1,h2,aH],h⟩
 case field t x f=>
  obtain⟨v,h1,h⟩:=aX h;obtain⟨v,h2,h⟩:=EM h;exact⟨_,_,_,by simp only[h1,h2,aH],h⟩
 case indexAddr t x ix=>
  obtain⟨v,h1,h⟩:=aX h;obtain⟨u,h2,h⟩:=aX h;obtain⟨m,h3,h⟩:=wV h;exact⟨_,_,_,by simp only[h1,h2,h3,aH],h⟩
 case index t x ix=>
  obtain⟨v,h1,h⟩:=aX h;obtain⟨u,h2,h⟩:=aX h;obtain⟨m,h3,h⟩:=Cx h;exact⟨_,_,_,by simp only[h1,h2,h3,aH],h⟩
 case typeAssert x xt t ok=>
  obtain⟨p,h1,h⟩:=aX h;obtain⟨v,h2,h⟩:=aV.1 h;exact⟨_,_,_,by simp only[h1,h2,aH],h⟩
 case extract x i=>
  obtain⟨v,h1,h⟩:=aX h;obtain⟨v,h2,h⟩:=aV.1 h;exact⟨_,_,_,by simp only[h1,h2,aH],h⟩
 case makeMap t r=>
  split at h
  ·exact⟨_,_,_,rfl,bL.1 h⟩
  ·exact h.elim
 case lookup t x ix ok=>
  obtain⟨v,h1,h⟩:=aX h;obtain⟨u,h2,h⟩:=aX h;obtain⟨m,h3,h⟩:=aV.1 h;exact⟨_,_,_,by simp only[h1,h2,h3,aH],h⟩
 case mapUpdate t x y z=>
  obtain⟨v,h1,h⟩:=aX h;obtain⟨u,h2,h⟩:=aX h;obtain⟨u',h3,h⟩:=aX h;obtain⟨m,h4,h⟩:=oO h;exact⟨_,_,_,by simp only[h1,h2,h3,h4],h⟩
 case range t x=>
  obtain⟨v,h1,h⟩:=aX h;obtain⟨⟨u,m,n⟩,h2,h⟩:=aV.1 h;exact⟨_,_,_,by simp only[h1,h2],bL.1 h⟩
 case entry x=>
  obtain⟨p,h1,h⟩:=aX h;obtain⟨v,h2,h⟩:=aV.1 h;exact⟨_,_,_,by simp only[h1,h2,aH],h⟩
 case next x b=>
  cases b
  ·obtain⟨v,h1,h⟩:=aX h;obtain⟨⟨u,m⟩,h2,h⟩:=aV.1 h;exact⟨_,_,_,by simp only[h1,h2],h⟩
  ·exact h.elim
 case insert t x y z=>
  obtain⟨v,h1,h⟩:=aX h;obtain⟨u,h2,h⟩:=aX h;obtain⟨u',h3,h⟩:=aX h;obtain⟨m,h4,h⟩:=oO h;exact⟨_,_,_,by simp only[h1,h2,h3,h4],h⟩
 case call c=>
  split at h
  ·rename_i hb;simp only[hb];exact AU h
  ·exact h.elim
def w9(s:St)(K:List (Nat × AV)->aA->Nat->Nat->Prop):Prop:=
 match s with
 | ⟨sl,mem,nx,nt⟩=>K sl mem nx nt
theorem gG{s:St}{K:List (Nat × AV)->aA->Nat->Nat->Prop}:w9 s K↔K s.sl s.mem s.nx s.nt:=Iff.rfl
def g8(s:St)(d:Option Nat)(v:AV)(mem:aA)(nx:Nat)(K:St->Prop):Prop:=
 w9 s fun sl _ _ nt=>match d with
  | none=>K ⟨sl,mem,nx,nt⟩
  | some d=>gO (Nat.blt d nt) (x9 sl d v fun sl=>K ⟨sl,mem,nx,nt⟩)
theorem cO{s:St}{d:Option Nat}{v:AV}{mem:aA}{nx:Nat}{K:St->Prop}(h:g8 s d v mem nx K):∃s',bY s d v mem nx=some s'/\K s':=by
 cases d with
 | none=>exact⟨_,rfl,h⟩
 | some d=>
  obtain⟨h1,h⟩:=aY.1 h;exact⟨_,by simp only[bY,h1],eK.1 h⟩
def j0(ops:List Oper)(sl:List (Nat × AV))(g:Option (Nat × Bool))(yes no:Prop):Prop:=
 match g with
 | none=>yes
 | some (j,want)=>match ops[j]? with
  | none=>no
  | some o=>match o.dst with
   | none=>no
   | some d=>match lk sl d with
    | some (.bool b)=>match want with
     | true=>EP b yes no
     | false=>EP b no yes
    | some (.tup [])=>no
    | _=>False
theorem oF{ops:List Oper}{s:St}{g:Option (Nat × Bool)}{yes no:Prop}(h:j0 ops s.sl g yes no):(eY ops s g=some true/\yes)∨(eY ops s g=some false/\no):=by
 unfold j0 at h;unfold eY;split at h
 ·exact .inl ⟨rfl,h⟩
 ·split at h
  ·rename_i e;exact .inr ⟨by simp only[e],h⟩
  ·rename_i e;simp only[e];split at h
   ·rename_i e;exact .inr ⟨by simp only[e],h⟩
   ·rename_i e;simp only[e];split at h
    ·rename_i b e;simp only[e];split at h
     ·cases b
      ·exact .inr ⟨rfl,h⟩
      ·exact .inl ⟨rfl,h⟩
     ·cases b
      ·exact .inl ⟨rfl,h⟩
      ·exact .inr ⟨rfl,h⟩
    ·rename_i e;exact .inr ⟨by simp only[e],h⟩
    ·exact h.elim
def Bu(P:Program)(Γ:List (Nat × AV))(sl:List (Nat × AV))(f:Operand)(args:List Operand)(E:AV->Prop)(K:FuncId->List AV->Prop):Prop:=
 dW Γ sl f fun v=>match v with
  | .fn (.func F) first cap=>yF Γ sl args fun as=>match P.funcs[F]? with
   | some fn=>match fn.body with
    | some _=>match fn.name == "runtime.NumGoroutine" with
     | false=>match Nat.beq F YF with
      | false=>qN first as fun l=>qN l cap fun l=>K F l
      | true=>False
     | true=>False
    | none=>match qY fn with
     | true=>match first with
      | []=>match cap with
       | []=>match as with
        | [v]=>E v
        | _=>False
       | _=>False
      | _=>False
     | false=>False
   | none=>False
  | .yld id=>yF Γ sl args fun as=>K YF (.yld id::as)
  | _=>False
theorem FK{P:Program}{Γ:List (Nat × AV)}{s:St}{c:Call}{f:Operand}(hc:c.callee = .value f){E:AV->Prop}{K:FuncId->List AV->Prop}(h:Bu P Γ s.sl f c.args.toList E K) :
  (∃v,a7 P Γ s (.call c)=some (v,s.mem,s.nx)/\E v)∨(a7 P Γ s (.call c)=none/\∃F l,gA P Γ s (.call c)=some (F,l)/\K F l):=by
 unfold Bu at h;obtain⟨v,h1,h⟩:=aX h;split at h
 ·rename_i F first cap
  obtain⟨as,h2,h⟩:=gU h;split at h
  ·rename_i fn h3;split at h
   ·rename_i body h4;split at h
    ·rename_i h5;split at h
     ·rename_i h6;refine .inr ⟨?_,_,_,by simp only[gA,hc,h1,h2,h3,h4,h5,h6],cS.1 (cS.1 h)⟩;simp only[a7,hc,vT,h1];cases first<;>cases cap<;>simp only[h3,h4]
     ·exact h.elim
    ·exact h.elim
   ·rename_i h4;split at h
    ·rename_i h5;split at h
     ·split at h
      ·split at h
       ·exact .inl ⟨_,by simp only[a7,hc,vT,h1,h2,h3,h4,h5],h⟩
       ·exact h.elim
      ·exact h.elim
     ·exact h.elim
    ·exact h.elim
  ·exact h.elim
 ·rename_i id;obtain⟨as,h2,h⟩:=gU h;exact .inr ⟨by simp only[a7,hc,vT,h1],_,_,by simp only[gA,hc,h1,h2],h⟩
 ·exact h.elim
def IP(o:Option (AV × aA))(K:AV->aA->Prop)(A:Prop):Prop:=
 match o with
 | some (v,m)=>K v m
 | none=>A
def xH(cl:Bool)(P:Program)(Γ:List (Nat × AV))(H:Hk)(sl:List (Nat × AV))(mem:aA)(nx:Nat)(op:Op)(K:AV->aA->Nat->Prop)(Kp:Value->aA->Nat->Prop):Prop:=
 match op with
 | .call c=>match c.callee with
  | .value f=>Bu P Γ sl f c.args.toList (fun v=>K v mem nx) fun F l=>H.call F l mem nx K Kp
  | _=>kJ cl P Γ sl mem nx op K
 | .next x b=>match b with
  | false=>dW Γ sl x fun p=>match p with
   | .ptr id i j=>IP (oU mem (.ptr id i j)) (fun v m=>K v m nx) (H.call YF [.ptr id i j] mem nx K Kp)
   | _=>False
  | true=>False
 | _=>kJ cl P Γ sl mem nx op K
theorem tC{cl:Bool}{P:Program}{Γ:List (Nat × AV)}{H:Hk}{s:St}{op:Op}{K:AV->aA->Nat->Prop}{Kp:Value->aA->Nat->Prop}(h:xH cl P Γ H s.sl s.mem s.nx op K Kp) :
  (∃v m n,a7 P Γ s op=some (v,m,n)/\K v m n)∨(a7 P Γ s op=none/\∃F l,gA P Γ s op=some (F,l)/\H.call F l s.mem s.nx K Kp):=by
 unfold xH at h;split at h
 ·split at h
  ·rename_i f hc;rcases FK hc h with⟨v,h1,h⟩|h
   ·exact .inl ⟨_,_,_,h1,h⟩
   ·exact .inr h
  ·exact .inl (gE h)
 ·rename_i x b;cases b
  ·obtain⟨p,h1,h⟩:=aX (show dW Γ s.sl x _ from h);split at h
   ·rename_i id i j;unfold IP at h;split at h
    ·rename_i v m h2;exact .inl ⟨v,m,s.nx,by simp only[a7,h1,h2],h⟩
    ·rename_i h2;exact .inr ⟨by simp only[a7,h1,h2],_,_,by simp only[gA,h1],h⟩
   ·exact h.elim
  ·exact(show False from h).elim
 ·exact .inl (gE h)
def yK(cl:Bool)(P:Program)(Γ:List (Nat × AV))(H:Hk)(sl:List (Nat × AV))(mem:aA)(nx:Nat)(op:Op)(K:AV->aA->Nat->Prop)(Kp:Value->aA->Nat->Prop):Prop:=
 match op with
 | .panic x=>dW Γ sl x fun v=>fR (quo v) fun y=>Kp y mem nx
 | op=>xH cl P Γ H sl mem nx op K Kp
theorem FU{cl:Bool}{P:Program}{Γ:List (Nat × AV)}{H:Hk}{s:St}{op:Op}{K:AV->aA->Nat->Prop}{Kp:Value->aA->Nat->Prop}(h:yK cl P Γ H s.sl s.mem s.nx op K Kp) :
  (∃v m n,a7 P Γ s op=some (v,m,n)/\K v m n)∨(a7 P Γ s op=none/\∃F l,gA P Γ s op=some (F,l)/\H.call F l s.mem s.nx K Kp) ∨
   (a7 P Γ s op=none/\gA P Γ s op=none/\∃y,AZ Γ s op=some y/\Kp y s.mem s.nx):=by
 unfold yK at h;split at h
 ·obtain⟨v,h1,h⟩:=aX h;obtain⟨y,h2,h⟩:=aV.1 h;exact .inr (.inr ⟨rfl,rfl,y,by simp only[AZ,h1,h2],h⟩)
 ·rcases tC h with h|h
  ·exact .inl h
  ·exact .inr (.inl h)
def A0(cl:Bool)(P:Program)(Γ:List (Nat × AV))(H:Hk)(ops:List Oper):List Oper->St->(St->Prop)->(Value->St->Prop)->Prop
 | [],s,K,_=>K s
 | o::r,s,K,Kp=>w9 s fun sl mem nx nt=>j0 ops sl o.guard
   (yK cl P Γ H sl mem nx o.op (fun v mem nx=>g8 s o.dst v mem nx fun s'=>A0 cl P Γ H ops r s' K Kp) fun x mem nx=>Kp x ⟨sl,mem,nx,nt⟩)
   (g8 s o.dst (.tup []) mem nx fun s'=>A0 cl P Γ H ops r s' K Kp)
theorem xL{cl:Bool}{P:Program}{Γ:List (Nat × AV)}{H:Hk}{B:Nat}(hH:nB P Γ B H)(ops:List Oper):∀(l:List Oper) (s:St) (K K':St->Prop) (Kp Kp':Value->St->Prop),(∀s,K s->K' s)->(∀x s,Kp x s->Kp' x s)->A0 cl P Γ H ops l s K Kp->mI P Γ (CH P Γ B) ops l s K' Kp'
 | [],s,K,K',Kp,Kp',hk,hp,h=>hk s h
 | o::r,s,K,K',Kp,Kp',hk,hp,h=>by
  simp only[A0] at h;simp only[mI];have h:=gG.1 h;rcases oF h with⟨h1,h⟩|⟨h1,h⟩
  ·simp only[h1];rcases FU h with⟨v,m,n,h2,h⟩|⟨h2,F,l,h3,h⟩|⟨h2,h3,y,h4,h⟩
   ·obtain⟨s',h4,h⟩:=cO h;simp only[h2,h4];exact xL hH ops r s' K K' Kp Kp' hk hp h
   ·simp only[h2,h3];refine(hH.call _ _ _ _ _ _ h).mono (fun v m n h=>?_) fun x m n h=>hp _ _ h
    obtain⟨s',h4,h⟩:=cO h;simp only[h4];exact xL hH ops r s' K K' Kp Kp' hk hp h
   ·simp only[h2,h3,h4];exact hp _ _ h
  ·obtain⟨s',h4,h⟩:=cO h;simp only[h1,h4];exact xL hH ops r s' K K' Kp Kp' hk hp h
def dF(f:Nat × AB->Bool):aA->(aA->Prop)->Prop
 | [],K=>K []
 | p::r,K=>match f p with
  | true=>dF f r fun l=>K (p::l)
  | false=>dF f r K
theorem bF{f:Nat × AB->Bool}:∀{m:aA} {K:aA->Prop},dF f m K↔K (m.filter f)
 | [],K=>Iff.rfl
 | p::r,K=>by
  simp only[dF,LG];cases f p
  ·simpa using bF
  ·simpa using bF
def lY(cl:Bool)(P:Program)(Γ:List (Nat × AV))(ops:List Oper)(tr:List (List Nat))(base x:Nat)(mem:aA)(nx:Nat):List qZ->Prop->Prop
 | [],K=>K
 | r::rs,K=>match mL r.i (T tr x) with
  | true=>lY cl P Γ ops tr base x mem nx rs K
  | false=>match r.want with
   | false=>lY cl P Γ ops tr base x mem nx rs K
   | true=>match ops[r.i]? with
    | none=>lY cl P Γ ops tr base x mem nx rs K
    | some o=>match kind P o.op with
     | .pure=>match still o.op with
      | true=>lY cl P Γ ops tr base x mem nx rs K
      | false=>dF (fun p=>Bs tr base ops.length r.i p.1) mem fun m=>kJ cl P Γ r.sl m nx o.op fun v _ _=>match cl with
       | true=>gO (eF v r.v) (lY cl P Γ ops tr base x mem nx rs K)
       | false=>v=r.v/\lY cl P Γ ops tr base x mem nx rs K
     | _=>lY cl P Γ ops tr base x mem nx rs K
theorem iK{cl:Bool}{P:Program}{Γ:List (Nat × AV)}{ops:List Oper}{tr:List (List Nat)}{base x:Nat}{s:St}:∀{recs:List qZ} {K:Prop},lY cl P Γ ops tr base x s.mem s.nx recs K->Gy P Γ ops tr base x s recs/\K
 | [],K,h=>⟨trivial,h⟩
 | r::rs,K,h=>by
  simp only[lY] at h;simp only[Gy];split at h
  ·rename_i h1;obtain⟨h2,h3⟩:=iK h;exact⟨⟨fun e=>(by rw[h1] at e;cases e),h2⟩,h3⟩
  ·split at h
   ·rename_i h1;obtain⟨h2,h3⟩:=iK h;exact⟨⟨fun _ e=>(by rw[h1] at e;cases e),h2⟩,h3⟩
   ·split at h
    ·rename_i h1;obtain⟨h2,h3⟩:=iK h;exact⟨⟨fun _ _ o e=>(by rw[h1] at e;cases e),h2⟩,h3⟩
    ·rename_i o ho;split at h
     ·split at h
      ·rename_i h1;obtain⟨h2,h3⟩:=iK h;refine⟨⟨fun _ _ o' e _ e'=>?_,h2⟩,h3⟩;rw[ho] at e;cases e;rw[h1] at e';cases e'
      ·have h:=bF.1 h;obtain⟨v,m,n,h1,h⟩:=gE (s:={ sl:=r.sl,mem:=bN tr base ops.length r.i s.mem,nx:=s.nx,nt:=s.nt }) h;have key:v=r.v/\lY cl P Γ ops tr base x s.mem s.nx rs K:=by
        cases cl
        ·exact h
        ·obtain⟨h2,h3⟩:=aY.1 h;exact⟨jT h2,h3⟩
       obtain⟨h2,h3⟩:=iK key.2;refine⟨⟨fun _ _ o' e _ _=>?_,h2⟩,h3⟩;rw[ho] at e;cases e;exact⟨m,n,by rw[←key.1];exact h1⟩
     ·rename_i hk;obtain⟨h2,h3⟩:=iK h;refine⟨⟨fun _ _ o' e e'=>?_,h2⟩,h3⟩;rw[ho] at e;cases e;exact(hk e').elim
def l4(cl:Bool)(P:Program)(Γ:List (Nat × AV))(H:Hk)(ops:List Oper)(tr:List (List Nat))(base:Nat)(K:St->Prop)(Kp:Value->aA->Nat->Prop):List Nat->List qZ->St->Prop
 | [],recs,s=>K s
 | i::r,recs,s=>match ops[i]? with
  | none=>False
  | some o=>w9 s fun sl mem nx nt=>j0 ops sl o.guard
   (match kind P o.op with
    | .pure=>match still o.op with
     | true=>kJ cl P Γ sl [] nx o.op fun v _ _=>g8 s o.dst v mem nx fun s'=>l4 cl P Γ H ops tr base K Kp r (⟨i,sl,true,v⟩::recs) s'
     | false=>dF (fun p=>Bs tr base ops.length i p.1) mem fun m=>kJ cl P Γ sl m nx o.op fun v _ _=>g8 s o.dst v mem nx fun s'=>l4 cl P Γ H ops tr base K Kp r (⟨i,sl,true,v⟩::recs) s'
    | .al=>g6 (base+i) fun id=>kJ cl P Γ sl [] id o.op fun v m _=>match m with
     | [(_,b)]=>g8 s o.dst v ((id,b)::mem) nx fun s'=>l4 cl P Γ H ops tr base K Kp r (⟨i,sl,true,v⟩::recs) s'
     | _=>False
    | .eff=>dF (fun p=>Bs tr base ops.length i p.1) mem fun m=>xH cl P Γ H sl m nx o.op (fun v m nx'=>dF (fun p=>!Bs tr base ops.length i p.1) mem fun rest=>dF (fun p=>!k9 p.1 m) rest fun rest=>qN m rest fun m=>
      g8 s o.dst v m nx' fun s'=>lY cl P Γ ops tr base i m nx' recs (l4 cl P Γ H ops tr base K Kp r recs s')) Kp)
   (g8 s o.dst (.tup []) mem nx fun s'=>l4 cl P Γ H ops tr base K Kp r (⟨i,sl,false,.tup []⟩::recs) s')
theorem jF{cl:Bool}{P:Program}{Γ:List (Nat × AV)}{H:Hk}{B:Nat}(hH:nB P Γ B H)(ops:List Oper)(tr:List (List Nat))(base:Nat)(K K':St->Prop)(Kp Kp':Value->aA->Nat->Prop)(hk:∀s,K s->K' s)(hp:∀x m n,Kp x m n->Kp' x m n) :
  ∀(l:List Nat) (recs:List qZ) (s:St),l4 cl P Γ H ops tr base K Kp l recs s->iO P Γ (CH P Γ B) ops tr base K' Kp' l recs s
 | [],recs,s,h=>hk s h
 | i::r,recs,s,h=>by
  simp only[l4] at h;simp only[iO];split at h
  ·exact h.elim
  ·rename_i o ho;simp only[ho];have h:=gG.1 h;rcases oF h with⟨h1,h⟩|⟨h1,h⟩
   ·simp only[h1];split at h
    ·rename_i hkd;simp only[hkd];split at h
     ·rename_i hst;obtain⟨v,m,n,h2,h⟩:=gE (s:={ sl:=s.sl,mem:=[],nx:=s.nx,nt:=s.nt }) h;obtain⟨m',n',h2'⟩:=kA (s:={ sl:=s.sl,mem:=[],nx:=s.nx,nt:=s.nt }) (s':={ s with mem:=bN tr base ops.length i s.mem }) hst rfl h2;obtain⟨s',h3,h⟩:=cO h;simp only[h2',h3];exact jF hH ops tr base K K' Kp Kp' hk hp r _ s' h
     ·have h:=bF.1 h;obtain⟨v,m,n,h2,h⟩:=gE (s:={ s with mem:=bN tr base ops.length i s.mem }) h;obtain⟨s',h3,h⟩:=cO h;simp only[h2,h3];exact jF hH ops tr base K K' Kp Kp' hk hp r _ s' h
    ·rename_i hkd;simp only[hkd];have h:=bL.1 h;obtain⟨v,m,n,h2,h⟩:=gE (s:={ s with mem:=[],nx:=base+i }) h;simp only[h2];split at h
     ·obtain⟨s',h3,h⟩:=cO h;simp only[h3];exact jF hH ops tr base K K' Kp Kp' hk hp r _ s' h
     ·exact h.elim
    ·rename_i hkd;simp only[hkd];have h:=bF.1 h;rcases tC (s:={ s with mem:=bN tr base ops.length i s.mem }) h with⟨v,m,n,h2,h⟩|⟨h2,F,l,h3,h⟩
     ·simp only[h2];have h:=cS.1 (bF.1 (bF.1 h));obtain⟨s',h3,h⟩:=cO h;have h3:bY s o.dst v (m++kV m (cT tr base ops.length i s.mem)) n=some s':=h3;simp only[h3];obtain⟨e1,e2,_⟩:=cZ h3;have h:lY cl P Γ ops tr base i (m++kV m (cT tr base ops.length i s.mem)) n recs (l4 cl P Γ H ops tr base K Kp r recs s'):=h;rw[←e1,←e2] at h;obtain⟨h4,h⟩:=iK h;exact⟨h4,jF hH ops tr base K K' Kp Kp' hk hp r _ s' h⟩
     ·rw[kS (s':=s) (fun x _=>by cases x<;>rfl)] at h3;simp only[h2,h3];refine(hH.call _ _ _ _ _ _ h).mono (fun v m n h=>?_) hp;have h:=cS.1 (bF.1 (bF.1 h));obtain⟨s',h3,h⟩:=cO h;have h3:bY s o.dst v (m++kV m (cT tr base ops.length i s.mem)) n=some s':=h3;simp only[h3];obtain⟨e1,e2,_⟩:=cZ h3;have h:lY cl P Γ ops tr base i (m++kV m (cT tr base ops.length i s.mem)) n recs (l4 cl P Γ H ops tr base K Kp r recs s'):=h;rw[←e1,←e2] at h;obtain⟨h4,h⟩:=iK h;exact⟨h4,jF hH ops tr base K K' Kp Kp' hk hp r _ s' h⟩
   ·obtain⟨s',h3,h⟩:=cO h;simp only[h1,h3];exact jF hH ops tr base K K' Kp Kp' hk hp r _ s' h
def HQ(sl:List (Nat × AV))(id nt:Nat)(m:aA)(n:Nat)(Q:Exit->St->Prop):Prop:=
 fR (lk m id) fun b=>match b with
  | .loop _ _ _ _ _ st pd=>match st with
   | .busy=>False
   | _=>dF (fun p=>!Nat.beq p.1 id) m fun m=>match pd with
    | none=>Q .normal ⟨sl,m,n,nt⟩
    | some .ret=>Q .ret ⟨sl,m,n,nt⟩
    | some (.exit i)=>Q (.exit i) ⟨sl,m,n,nt⟩
    | some _=>False
  | _=>False
theorem Gl{s:St}{m:aA}{n:Nat}{Q:Exit->St->Prop}(h:HQ s.sl s.nx s.nt m n Q):w5 s Q m n:=by
 obtain⟨b,h1,h⟩:=aV.1 h;unfold w5;simp only[h1];cases b with
 | loop sl nt ps ca cb st pd=>
  cases st<;>first|exact h.elim|(simp only at h ⊢;have h:=bF.1 h;exact h)
 | _=>exact h.elim
theorem w5.mono{s:St}{m:aA}{n:Nat}{Q Q':Exit->St->Prop}(hq:∀e s,Q e s->Q' e s)(h:w5 s Q m n):w5 s Q' m n:=by
 unfold w5 at h ⊢;split at h
 ·split at h
  ·exact h
  ·split at h
   ·exact hq _ _ h
   ·exact hq _ _ h
   ·exact hq _ _ h
   ·exact h
 ·exact h
def oV(cl:Bool)(P:Program)(Γ:List (Nat × AV))(H:Hk):Code->St->(Exit->St->Prop)->Prop
 | .skip,s,Q=>Q .normal s
 | .seq x y,s,Q=>oV cl P Γ H x s fun e s'=>match e with
  | .normal=>oV cl P Γ H y s' Q
  | e=>Q e s'
 | .cond c x y,s,Q=>w9 s fun sl _ _ _=>dW Γ sl c fun v=>match v with
  | .bool b=>EP b (oV cl P Γ H x s Q) (oV cl P Γ H y s Q)
  | _=>False
 | .block id c,s,Q=>oV cl P Γ H c s fun e s'=>match e with
  | .exit i=>match Nat.beq i id with
   | true=>Q .normal s'
   | false=>Q (.exit i) s'
  | e=>Q e s'
 | .loop c,s,Q=>H.loop c s Q
 | .label _,s,Q=>Q .normal s
 | .scope c,s,Q=>oV cl P Γ H c s fun e s'=>match e with
  | .goto _=>False
  | e=>Q e s'
 | .exit i,s,Q=>Q (.exit i) s
 | .ret,s,Q=>Q .ret s
 | .region _ ops draw,s,Q=>match draw with
  | false=>A0 cl P Γ H ops.toList ops.toList s (fun s'=>Q .normal s') fun x s'=>Q (.panic [pe x]) s'
  | true=>match P.follows .mixedOrders with
   | true=>match rK P ops.toList (nE P ops.toList ops.toList.length [] (o7 ops.toList.length)) with
    | true=>w9 s fun sl mem nx nt=>g6 (nx+ops.toList.length) fun n=>mH (nE P ops.toList ops.toList.length [] (o7 ops.toList.length)) fun ord=>l4 cl P Γ H ops.toList (Ce ops.toList []) nx (fun s'=>Q .normal s') (fun x m n=>Q (.panic [pe x]) ⟨mA ops.toList sl,m,n,nt⟩) ord [] ⟨sl,mem,n,nt⟩
    | false=>False
   | false=>False
 | .rangeFunc g ps ca cb,s,Q=>w9 s fun sl mem nx nt=>dW Γ sl g fun v=>match v with
  | .fn (.func G) first cap=>match P.funcs[G]? with
   | some fn=>match fn.body with
    | some _=>match fn.name == "runtime.NumGoroutine" with
     | false=>match Nat.beq G YF with
      | false=>g6 (nx+1) fun n=>qN first (.yld nx::cap) fun l=>H.call G l ((nx,.loop sl nt ps ca cb .ready none)::mem) n (fun _ m n=>HQ sl nx nt m n Q) fun x m n=>Q (.panic [pe x]) ⟨sl,m,n,nt⟩
      | true=>False
     | true=>False
    | none=>False
   | none=>False
  | _=>False
 | _,_,_=>False
theorem G4{cl:Bool}{P:Program}{Γ:List (Nat × AV)}{H:Hk}{B:Nat}(hH:nB P Γ B H):∀(c:Code) (s:St) (Q Q':Exit->St->Prop),(∀e s,Q e s->Q' e s)->oV cl P Γ H c s Q->tX P Γ (CH P Γ B) c s Q':=by
 intro c
 induction c with
 | skip=>exact fun s Q Q' hq h=>hq _ _ h
 | label l=>exact fun s Q Q' hq h=>hq _ _ h
 | scope c ih=>
  intro s Q Q' hq h;simp only[oV] at h;simp only[tX];refine ih s _ _ (fun e s' h=>?_) h;cases e with
  | goto l=>exact h
  | normal=>exact hq _ _ h
  | exit i=>exact hq _ _ h
  | ret=>exact hq _ _ h
  | panic c=>exact hq _ _ h
  | outgrown=>exact hq _ _ h
 | exit i=>exact fun s Q Q' hq h=>hq _ _ h
 | ret=>exact fun s Q Q' hq h=>hq _ _ h
 | loop c ih=>exact fun s Q Q' hq h=>(hH.loop c s Q h).mono hq
 | seq x y ihx ihy=>
  intro s Q Q' hq h;simp only[oV] at h;simp only[tX];refine ihx s _ _ (fun e s' h=>?_) h;cases e with
  | normal=>exact ihy s' Q Q' hq h
  | exit i=>exact hq _ _ h
  | goto l=>exact hq _ _ h
  | ret=>exact hq _ _ h
  | panic c=>exact hq _ _ h
  | outgrown=>exact hq _ _ h
 | cond c x y ihx ihy=>
  intro s Q Q' hq h;simp only[oV] at h;simp only[tX];have h:=gG.1 h;obtain⟨v,h1,h⟩:=aX h;simp only[h1];split at h
  ·rename_i b;cases b
   ·exact ihy s Q Q' hq h
   ·exact ihx s Q Q' hq h
  ·exact h.elim
 | block id c ih=>
  intro s Q Q' hq h;simp only[oV] at h;simp only[tX];refine ih s _ _ (fun e s' h=>?_) h;cases e with
  | exit i=>
   simp only at h ⊢;split at h
   ·rename_i e;simp only[e];exact hq _ _ h
   ·rename_i e;simp only[e];exact hq _ _ h
  | normal=>exact hq _ _ h
  | goto l=>exact hq _ _ h
  | ret=>exact hq _ _ h
  | panic c=>exact hq _ _ h
  | outgrown=>exact hq _ _ h
 | region id ops draw=>
  intro s Q Q' hq h;cases draw with
  | false=>
   simp only[oV] at h;simp only[tX];exact xL hH _ _ _ _ _ _ _ (fun s h=>hq _ _ h) (fun x s h=>hq _ _ h) h
  | true=>
   simp only[oV] at h;simp only[tX];split at h
   ·rename_i hmix;simp only[hmix];split at h
    ·rename_i hok;simp only[zT,hok];exact jF hH _ _ _ _ _ _ _ (fun s h=>hq _ _ h) (fun x m n h=>hq _ _ h) _ _ _ (fI.1 (bL.1 (gG.1 h)))
    ·exact h.elim
   ·exact h.elim
 | rangeFunc g ps ca cb=>
  intro s Q Q' hq h;simp only[oV] at h;obtain⟨v,h1,h⟩:=aX (s:=s) (gG.1 h);simp only[tX,h1];split at h<;>first|exact h.elim|skip
  split at h<;>first|exact h.elim|skip
  rename_i fn hf;split at h<;>first|exact h.elim|skip
  rename_i c0 hb;split at h<;>first|exact h.elim|skip
  rename_i hn;split at h<;>first|exact h.elim|skip
  rename_i hG;simp only[hf,hb,hn,hG];exact(hH.call _ _ _ _ _ _ (cS.1 (bL.1 h))).mono (fun _ m n h=>(Gl h).mono hq) fun x m n h=>hq _ _ h
 | _=>intro s Q Q' hq h;simp only[oV] at h
theorem bR{cl:Bool}{P:Program}{Γ:List (Nat × AV)}{H:Hk}{B:Nat}(hH:nB P Γ B H)(c:Code)(s:St)(Q:Exit->St->Prop)(h:oV cl P Γ H c s Q):cJ P Γ B c s Q:=
 o4 FN c s Q (G4 hH c s Q Q (fun _ _ h=>h) h)
def Bo:Nat->List AV->(List (Nat × AV)->Prop)->Prop
 | _,[],K=>K []
 | k,a::r,K=>g6 k fun k=>Bo (k+1) r fun l=>K ((k,a)::l)
theorem uR:∀{k:Nat} {l:List AV} {K:List (Nat × AV)->Prop},Bo k l K↔K (yO k l)
 | k,[],K=>Iff.rfl
 | k,a::r,K=>by simp only[Bo,yO,bL,uR]
def mJ(ntmps:Nat)(args:List AV)(mem:aA)(nx:Nat)(K:St->Prop):Prop:=
 Bo 0 args fun sl=>gO (Nat.ble args.length ntmps) (g6 ntmps fun nt=>K ⟨sl,mem,nx,nt⟩)
theorem fB{ntmps:Nat}{args:List AV}{mem:aA}{nx:Nat}{K:St->Prop}(h:mJ ntmps args mem nx K):K (enter ntmps args mem nx):=by
 obtain⟨h1,h⟩:=aY.1 (uR.1 h);have h:=bL.1 h;have h1:=JR h1;have e:enter ntmps args mem nx=⟨yO 0 args,mem,nx,ntmps⟩:=by simp only[enter];congr 1;omega
 rw[e];exact h
def Bt(P:Program)(s:St):List ResultVar->(List AV->Prop)->Prop
 | [],K=>K []
 | .tmp t::r,K=>fR (lk s.sl t) fun v=>Bt P s r fun l=>K (v::l)
 | .cell a t::r,K=>fR (lk s.sl a) fun p=>zR P s.mem t p fun v=>Bt P s r fun l=>K (v::l)
theorem xD{P:Program}{s:St}:∀{rs:List ResultVar} {K:List AV->Prop},Bt P s rs K->∃l,mC P s rs=some l/\K l
 | [],K,h=>⟨[],rfl,h⟩
 | .tmp t::r,K,h=>by
  obtain⟨v,h1,h⟩:=aV.1 h;obtain⟨l,h2,h⟩:=xD h;exact⟨_,by simp only[mC,h1,h2],h⟩
 | .cell a t::r,K,h=>by
  obtain⟨p,h1,h⟩:=aV.1 h;obtain⟨v,h2,h⟩:=BX h;obtain⟨l,h3,h⟩:=xD h;exact⟨_,by simp only[mC,h1,h2,h3],h⟩
def w6(P:Program)(rs:List ResultVar)(s:St)(K:AV->Prop):Prop:=
 Bt P s rs fun l=>match l with
  | [v]=>K v
  | []=>K (.tup [])
  | a::b::r=>K (.tup (a::b::r))
theorem vZ{P:Program}{rs:List ResultVar}{s:St}{K:AV->Prop}(h:w6 P rs s K):∃v,qL P rs s=some v/\K v:=by
 obtain⟨l,h1,h⟩:=xD h;unfold qL;rw[h1]
 match l,h with
 | [v],h=>exact⟨_,rfl,h⟩
 | [],h=>exact⟨_,rfl,h⟩
 | a::b::r,h=>exact⟨_,rfl,h⟩
def GY(P:Program)(rs:List ResultVar)(Q:AV->aA->Nat->Prop):Exit->St->Prop:=fun e s=>
 match e with
 | .normal=>w9 s fun _ mem nx _=>w6 P rs s fun r=>Q r mem nx
 | .ret=>w9 s fun _ mem nx _=>w6 P rs s fun r=>Q r mem nx
 | _=>False
theorem Dn{P:Program}{rs:List ResultVar}{Q:AV->aA->Nat->Prop}{e:Exit}{s:St}(h:GY P rs Q e s):CQ P rs Q e s:=by
 cases e with
 | normal=>
  obtain⟨v,h1,h⟩:=vZ (show w6 P rs s _ from h);simp only[CQ,h1];exact h
 | ret=>
  obtain⟨v,h1,h⟩:=vZ (show w6 P rs s _ from h);simp only[CQ,h1];exact h
 | _=>exact(show False from h).elim
theorem jU{P:Program}{Γ:List (Nat × AV)}{F:FuncId}{fn:Func}{c:Code}{args:List AV}{mem:aA}{nx:Nat}{Q:AV->aA->Nat->Prop}(hΓ:∀p∈Γ,NN p.2)(hf:P.funcs[F]? = some fn)(hb:fn.body=some c)
  (h:mJ fn.ntmps args mem nx fun s=>oV false P Γ (A9 P Γ nx) c s (GY P fn.results.toList (Az nx Q))) (hF:Nat.beq F YF=false:=by rfl):aC P Γ F args mem nx Q:=
 (mB hf hb ((bR kU _ _ _ (fB h)).mono fun _ _ h=>Dn h) hF).turn hΓ
def zV(P:Program)(rs:List ResultVar)(Q:AV->aA->Nat->Prop)(Qp:Value->aA->Nat->Prop):Exit->St->Prop:=fun e s=>
 match e with
 | .normal=>w9 s fun _ mem nx _=>w6 P rs s fun r=>Q r mem nx
 | .ret=>w9 s fun _ mem nx _=>w6 P rs s fun r=>Q r mem nx
 | .panic [⟨x,false,false⟩]=>w9 s fun _ mem nx _=>Qp x mem nx
 | _=>False
theorem vR{P:Program}{rs:List ResultVar}{Q:AV->aA->Nat->Prop}{Qp:Value->aA->Nat->Prop}{e:Exit}{s:St}(h:zV P rs Q Qp e s):tF P rs Q Qp e s:=by
 cases e with
 | normal=>
  obtain⟨v,h1,h⟩:=vZ (show w6 P rs s _ from h);simp only[tF,h1];exact h
 | ret=>
  obtain⟨v,h1,h⟩:=vZ (show w6 P rs s _ from h);simp only[tF,h1];exact h
 | panic ch=>
  unfold zV at h;split at h
  ·rename_i e;cases e
  ·rename_i e;cases e
  ·rename_i e;cases e;exact h
  ·exact h.elim
 | _=>exact(show False from h).elim
end Go.Ax
