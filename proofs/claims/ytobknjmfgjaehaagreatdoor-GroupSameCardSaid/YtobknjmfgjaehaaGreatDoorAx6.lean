/- A part of the proof. -/
import Derived.Test.YtobknjmfgjaehaaGreatDoorAx5
set_option linter.unusedVariables false
set_option linter.unusedSimpArgs false
set_option linter.unusedSectionVars false
namespace Go.Ax
open Go
def KI(cl:Bool)(P:Program)(mem:aN)(t:TypeId)(x y:AV)(K:AV->aN->Prop):Prop:=
 match P.underlying t with
 | some (.slice e)=>match fO P e with
  | some n=>match x with
   | .sl id 0 len=>match lk mem id with
    | some (.row t' sz' xs)=>MN cl mem n y fun ys=>m7 (Nat.blt 0 n && (Nat.beq sz' n && (Nat.ble ys.length len && Nat.ble len xs.length)))
      (qM cl (xs.drop ys.length) fun zs=>LI cl ys zs fun zs=>vK cl ys.length fun l=>EU mem id (.row t' sz' zs) fun m=>K (.int .i64 l) m)
    | _=>False
   | _=>False
  | none=>False
 | _=>False
theorem LS{cl:Bool}{P:Program}{mem:aN}{t:TypeId}{x y:AV}{K:AV->aN->Prop}(h:KI cl P mem t x y K):∃v m,EB P mem t x y=some (v,m)/\K v m:=by
 unfold KI at h;unfold EB;split at h
 ·rename_i e hu;simp only[hu];split at h
  ·rename_i n hn;simp only[hn];split at h
   ·split at h
    ·rename_i hid;obtain⟨ys,h4,h⟩:=JU h;obtain⟨h5,h⟩:=bR.1 h;rw[Bool.and_eq_true] at h5;exact⟨_,_,by simp only[h5.1,hid,h4,h5.2],j8.1 (gG.1 (EH.1 (gM.1 h)))⟩
    ·exact h.elim
   ·exact h.elim
  ·exact h.elim
 ·exact h.elim
def Gj(P:Program)(mem:aN)(t:TypeId)(x:AV)(K:aN->Prop):Prop:=
 match P.underlying t with
 | some (.slice e)=>match lS P e with
  | some z=>match x with
   | .sl id off len=>match lk mem id with
    | some (.row t' sz xs)=>m7 (i8 z && (Nat.beq z.cells.length sz && (Nat.blt 0 sz && (Nat.blt 0 len && Nat.ble (off+len) xs.length))))
      (EU mem id (.row t' sz (xs.take off++(List.replicate len z++xs.drop (off+len)))) fun m=>K m)
    | _=>False
   | _=>False
  | none=>False
 | _=>False
theorem Kn{P:Program}{mem:aN}{t:TypeId}{x:AV}{K:aN->Prop}(h:Gj P mem t x K):∃m,Aw P mem t x=some m/\K m:=by
 unfold Gj at h;unfold Aw;split at h
 ·rename_i e hu;simp only[hu];split at h
  ·rename_i z hz;simp only[hz];split at h
   ·split at h
    ·rename_i hid;obtain⟨h5,h⟩:=bR.1 h;exact⟨_,by simp only[hid,h5],j8.1 h⟩
    ·exact h.elim
   ·exact h.elim
  ·exact h.elim
 ·exact h.elim
def w6(cl:Bool)(P:Program)(Γ:List (Nat × AV))(sl:List (Nat × AV))(mem:aN)(nx:Nat)(b:Builtin)(args:List Operand)(ts:List TypeId)(K:AV->aN->Nat->Prop):Prop:=
 match b with
 | .len=>match args,ts with
  | [x],[t]=>i5 Γ sl x fun a=>opt (LG P mem t a) fun v=>match v with
   | .int k n=>p8 cl k n fun v=>K v mem nx
   | _=>False
  | _,_=>False
 | .append=>match args,ts with
  | [x,y],[t,u]=>i5 Γ sl x fun a=>i5 Γ sl y fun b=>Db cl P mem nx t u a b K
  | _,_=>False
 | .min=>Fh Γ sl args fun l=>match l with
  | .int k x::r=>opt (Ip x r) fun m=>p8 cl k m fun v=>K v mem nx
  | _=>False
 | .max=>Fh Γ sl args fun l=>match l with
  | .int k x::r=>opt (If x r) fun m=>p8 cl k m fun v=>K v mem nx
  | _=>False
 | .unsafeSliceData=>match args,ts with
  | [x],[_]=>i5 Γ sl x fun a=>opt (pC a) fun v=>K v mem nx
  | _,_=>False
 | .unsafeString=>match args,ts with
  | [x,y],[t,_]=>i5 Γ sl x fun a=>i5 Γ sl y fun b=>match wB P mem t a b with
   | some (.str l,m)=>qM cl l fun l=>Ap m fun m=>K (.str l) m nx
   | _=>False
  | _,_=>False
 | .copy=>match args,ts with
  | [x,y],[t,_]=>i5 Γ sl x fun a=>i5 Γ sl y fun b=>KI cl P mem t a b fun v m=>K v m nx
  | _,_=>False
 | .clear=>match args,ts with
  | [x],[t]=>i5 Γ sl x fun a=>Gj P mem t a fun m=>K (.tup []) m nx
  | _,_=>False
 | _=>False
theorem GR{cl:Bool}{P:Program}{Γ:List (Nat × AV)}{s:St}{b:Builtin}{args:List Operand}{ts:List TypeId}{K:AV->aN->Nat->Prop}(h:w6 cl P Γ s.sl s.mem s.nx b args ts K) :
  ∃v m n,dQ P Γ s b args ts=some (v,m,n)/\K v m n:=by
 unfold w6 at h;split at h
 ·split at h
  ·obtain⟨a,h1,h⟩:=bS h;obtain⟨v,h2,h⟩:=bP.1 h;split at h
   ·exact⟨_,_,_,by simp only[dQ,h1,h2,bD],lJ.1 h⟩
   ·exact h.elim
  ·exact h.elim
 ·split at h
  ·obtain⟨a,h1,h⟩:=bS h;obtain⟨b,h2,h⟩:=bS h;obtain⟨v,m,n,h3,h⟩:=IL h;exact⟨_,_,_,by simp only[dQ,h1,h2];exact h3,h⟩
  ·exact h.elim
 ·obtain⟨l,h1,h⟩:=nD h;split at h
  ·obtain⟨m,h2,h⟩:=bP.1 h;exact⟨_,_,_,by simp only[dQ,h1,h2],lJ.1 h⟩
  ·exact h.elim
 ·obtain⟨l,h1,h⟩:=nD h;split at h
  ·obtain⟨m,h2,h⟩:=bP.1 h;exact⟨_,_,_,by simp only[dQ,h1,h2],lJ.1 h⟩
  ·exact h.elim
 ·split at h
  ·obtain⟨a,h1,h⟩:=bS h;obtain⟨v,h2,h⟩:=bP.1 h;exact⟨_,_,_,by simp only[dQ,h1,h2,bD],h⟩
  ·exact h.elim
 ·split at h
  ·obtain⟨a,h1,h⟩:=bS h;obtain⟨b,h2,h⟩:=bS h;split at h
   ·rename_i l m h3;exact⟨_,_,_,by simp only[dQ,h1,h2,h3],uP.1 (gM.1 h)⟩
   ·exact h.elim
  ·exact h.elim
 ·split at h
  ·obtain⟨a,h1,h⟩:=bS h;obtain⟨b,h2,h⟩:=bS h;obtain⟨v,m,h3,h⟩:=LS h;exact⟨_,_,_,by simp only[dQ,h1,h2,h3],h⟩
  ·exact h.elim
 ·split at h
  ·obtain⟨a,h1,h⟩:=bS h;obtain⟨m,h3,h⟩:=Kn h;exact⟨_,_,_,by simp only[dQ,h1,h3],h⟩
  ·exact h.elim
 ·exact h.elim
def n4(cl:Bool)(P:Program)(Γ:List (Nat × AV))(sl:List (Nat × AV))(mem:aN)(nx:Nat)(op:Op)(K:AV->aN->Nat->Prop):Prop:=
 match op with
 | .move x=>i5 Γ sl x fun v=>K v mem nx
 | .assign x=>i5 Γ sl x fun v=>K v mem nx
 | .pick c a b=>i5 Γ sl c fun c=>match c with
  | .bool c=>JK c (i5 Γ sl a fun v=>K v mem nx) (i5 Γ sl b fun v=>K v mem nx)
  | _=>False
 | .alloc t=>Dh P mem nx t K
 | .box t x=>i5 Γ sl x fun v=>Oe P mem nx t v K
 | .build t parts=>oO Γ sl parts.toList fun ps=>DF P t ps fun v=>K v mem nx
 | .buildSlice t len parts=>oO Γ sl parts.toList fun ps=>nQ P mem nx t len ps K
 | .load t x=>i5 Γ sl x fun p=>FB P mem t p fun v=>K v mem nx
 | .store t x y=>i5 Γ sl x fun p=>i5 Γ sl y fun v=>DW P mem t p v fun m=>K (.tup []) m nx
 | .nilCheck x=>i5 Γ sl x fun p=>opt (Jh p) fun v=>K v mem nx
 | .binOp op t x y _=>i5 Γ sl x fun a=>i5 Γ sl y fun b=>Mi cl P op t x y a b fun v=>K v mem nx
 | .unOp op _ x=>i5 Γ sl x fun a=>QU cl op a fun v=>K v mem nx
 | .convert src dst x=>i5 Γ sl x fun a=>match P.underlying dst with
  | some (.slice _)=>sP cl P mem nx src dst a K
  | _=>HH cl P mem src dst a fun v=>K v mem nx
 | .makeInterface t x=>i5 Γ sl x fun a=>opt (DT P t a) fun v=>K v mem nx
 | .makeFunc fn first cap=>Fh Γ sl first.toList fun l1=>Fh Γ sl cap.toList fun l2=>K (.fn fn l1 l2) mem nx
 | .makeSlice t l c=>i5 Γ sl l fun a=>i5 Γ sl c fun b=>LC cl P mem nx t a b K
 | .slice t x lo hi mx=>i5 Γ sl x fun a=>Dr Γ sl lo fun l=>Dr Γ sl hi fun h=>Dr Γ sl mx fun m=>match !m.isSome || h.isSome with
  | true=>F8 cl P mem t a l h m fun v=>K v mem nx
  | false=>False
 | .fieldAddr t x f=>i5 Γ sl x fun p=>pL P t f p fun v=>K v mem nx
 | .field t x f=>i5 Γ sl x fun p=>Du P t f p fun v=>K v mem nx
 | .indexAddr t x ix=>i5 Γ sl x fun p=>i5 Γ sl ix fun i=>pV cl P mem t p i fun v=>K v mem nx
 | .index t x ix=>i5 Γ sl x fun p=>i5 Γ sl ix fun i=>Dn cl P t p i fun v=>K v mem nx
 | .extract x i=>i5 Γ sl x fun p=>opt (rI p i) fun v=>K v mem nx
 | .typeAssert x _ t ok=>i5 Γ sl x fun p=>opt (z6 P t ok p) fun v=>K v mem nx
 | .makeMap _ reserve=>match reserve with
  | none=>l9 (nx+1) fun n=>K (.mp nx) ((nx,.mapb [])::mem) n
  | some _=>False
 | .lookup t x ix ok=>i5 Γ sl x fun p=>i5 Γ sl ix fun i=>opt (v9 P mem t p i ok) fun v=>K v mem nx
 | .mapUpdate t x y z=>i5 Γ sl x fun p=>i5 Γ sl y fun k=>i5 Γ sl z fun v=>mQ P mem t p k v fun m=>K (.tup []) m nx
 | .insert t x y z=>i5 Γ sl x fun p=>i5 Γ sl y fun k=>i5 Γ sl z fun v=>mQ P mem t p k v fun m=>K (.tup []) m nx
 | .range t x=>i5 Γ sl x fun p=>opt (xS P mem nx t p) fun r=>match r with
  | (v,m,n)=>l9 n fun n=>K v m n
 | .entry x=>i5 Γ sl x fun p=>opt (DG mem p) fun v=>K v mem nx
 | .next x b=>match b with
  | false=>i5 Γ sl x fun p=>opt (G9 mem p) fun r=>match r with
   | (v,m)=>K v m nx
  | true=>False
 | .call c=>match c.callee with
  | .builtin b=>w6 cl P Γ sl mem nx b c.args.toList c.argTypes.toList K
  | _=>False
 | _=>False
theorem iO{cl:Bool}{P:Program}{Γ:List (Nat × AV)}{s:St}{op:Op}{K:AV->aN->Nat->Prop}(h:n4 cl P Γ s.sl s.mem s.nx op K):∃v m n,cJ P Γ s op=some (v,m,n)/\K v m n:=by
 cases op<;>simp only[n4] at h<;>simp only[cJ]<;>first|exact h.elim|skip
 case move x=>
  obtain⟨v,h1,h⟩:=bS h;exact⟨_,_,_,by simp only[h1,bD],h⟩
 case assign x=>
  obtain⟨v,h1,h⟩:=bS h;exact⟨_,_,_,by simp only[h1,bD],h⟩
 case pick c x y=>
  obtain⟨v,h1,h⟩:=bS h;split at h
  ·rename_i b;cases b
   ·obtain⟨v,h2,h⟩:=bS (show i5 Γ s.sl y _ from h);exact⟨_,_,_,by simp only[h1,h2,bD],h⟩
   ·obtain⟨v,h2,h⟩:=bS (show i5 Γ s.sl x _ from h);exact⟨_,_,_,by simp only[h1,h2,bD],h⟩
  ·exact h.elim
 case alloc t=>exact Ka h
 case box t x=>
  obtain⟨v,h1,h⟩:=bS h;simp only[h1];exact Nz h
 case build t parts=>
  obtain⟨v,h1,h⟩:=sC h;obtain⟨v,h2,h⟩:=J5 h;exact⟨_,_,_,by simp only[h1,h2,bD],h⟩
 case buildSlice t len parts=>
  obtain⟨v,h1,h⟩:=sC h;simp only[h1];exact Bp h
 case load t x=>
  obtain⟨v,h1,h⟩:=bS h;obtain⟨v,h2,h⟩:=H5 h;exact⟨_,_,_,by simp only[h1,h2,bD],h⟩
 case store t x y=>
  obtain⟨v,h1,h⟩:=bS h;obtain⟨u,h2,h⟩:=bS h;obtain⟨m,h3,h⟩:=Kl h;exact⟨_,_,_,by simp only[h1,h2,h3],h⟩
 case nilCheck x=>
  obtain⟨v,h1,h⟩:=bS h;obtain⟨v,h2,h⟩:=bP.1 h;exact⟨_,_,_,by simp only[h1,h2,bD],h⟩
 case binOp op t x y t'=>
  obtain⟨v,h1,h⟩:=bS h;obtain⟨u,h2,h⟩:=bS h;obtain⟨m,h3,h⟩:=Nl h;exact⟨_,_,_,by simp only[h1,h2,h3,bD],h⟩
 case unOp op t x=>
  obtain⟨v,h1,h⟩:=bS h;obtain⟨v,h2,h⟩:=PB h;exact⟨_,_,_,by simp only[h1,h2,bD],h⟩
 case convert src dst x=>
  obtain⟨v,h1,h⟩:=bS h;simp only[h1];split at h
  ·rename_i e hu;have hn:BB P s.mem src dst v=none:=by
    unfold BB;split
    ·rfl
    ·rw[hu]
   rw[hn];exact Eg h
  ·obtain⟨u,h2,h⟩:=MG h;exact⟨_,_,_,by simp only[h2],h⟩
 case makeInterface t x=>
  obtain⟨v,h1,h⟩:=bS h;obtain⟨v,h2,h⟩:=bP.1 h;exact⟨_,_,_,by simp only[h1,h2,bD],h⟩
 case makeFunc fn first cap=>
  obtain⟨v,h1,h⟩:=nD h;obtain⟨v,h2,h⟩:=nD h;exact⟨_,_,_,by simp only[h1,h2],h⟩
 case makeSlice t l c=>
  obtain⟨v,h1,h⟩:=bS h;obtain⟨u,h2,h⟩:=bS h;simp only[h1,h2];exact MS h
 case slice t x lo hi mx=>
  obtain⟨v,h1,h⟩:=bS h;obtain⟨l,h2,h⟩:=xV h;obtain⟨h',h3,h⟩:=xV h;obtain⟨m,h4,h⟩:=xV h;simp only[h1,h2,h3,h4];split at h
  ·rename_i e;obtain⟨u,h5,h⟩:=Kx h;exact⟨_,_,_,by simp only[e,h5,bD],h⟩
  ·exact h.elim
 case fieldAddr t x f=>
  obtain⟨v,h1,h⟩:=bS h;obtain⟨v,h2,h⟩:=DK h;exact⟨_,_,_,by simp only[h1,h2,bD],h⟩
 case field t x f=>
  obtain⟨v,h1,h⟩:=bS h;obtain⟨v,h2,h⟩:=JO h;exact⟨_,_,_,by simp only[h1,h2,bD],h⟩
 case indexAddr t x ix=>
  obtain⟨v,h1,h⟩:=bS h;obtain⟨u,h2,h⟩:=bS h;obtain⟨m,h3,h⟩:=DX h;exact⟨_,_,_,by simp only[h1,h2,h3,bD],h⟩
 case index t x ix=>
  obtain⟨v,h1,h⟩:=bS h;obtain⟨u,h2,h⟩:=bS h;obtain⟨m,h3,h⟩:=Jd h;exact⟨_,_,_,by simp only[h1,h2,h3,bD],h⟩
 case typeAssert x xt t ok=>
  obtain⟨p,h1,h⟩:=bS h;obtain⟨v,h2,h⟩:=bP.1 h;exact⟨_,_,_,by simp only[h1,h2,bD],h⟩
 case extract x i=>
  obtain⟨v,h1,h⟩:=bS h;obtain⟨v,h2,h⟩:=bP.1 h;exact⟨_,_,_,by simp only[h1,h2,bD],h⟩
 case makeMap t r=>
  split at h
  ·exact⟨_,_,_,rfl,dB.1 h⟩
  ·exact h.elim
 case lookup t x ix ok=>
  obtain⟨v,h1,h⟩:=bS h;obtain⟨u,h2,h⟩:=bS h;obtain⟨m,h3,h⟩:=bP.1 h;exact⟨_,_,_,by simp only[h1,h2,h3,bD],h⟩
 case mapUpdate t x y z=>
  obtain⟨v,h1,h⟩:=bS h;obtain⟨u,h2,h⟩:=bS h;obtain⟨u',h3,h⟩:=bS h;obtain⟨m,h4,h⟩:=vO h;exact⟨_,_,_,by simp only[h1,h2,h3,h4],h⟩
 case range t x=>
  obtain⟨v,h1,h⟩:=bS h;obtain⟨⟨u,m,n⟩,h2,h⟩:=bP.1 h;exact⟨_,_,_,by simp only[h1,h2],dB.1 h⟩
 case entry x=>
  obtain⟨p,h1,h⟩:=bS h;obtain⟨v,h2,h⟩:=bP.1 h;exact⟨_,_,_,by simp only[h1,h2,bD],h⟩
 case next x b=>
  cases b
  ·obtain⟨v,h1,h⟩:=bS h;obtain⟨⟨u,m⟩,h2,h⟩:=bP.1 h;exact⟨_,_,_,by simp only[h1,h2],h⟩
  ·exact h.elim
 case insert t x y z=>
  obtain⟨v,h1,h⟩:=bS h;obtain⟨u,h2,h⟩:=bS h;obtain⟨u',h3,h⟩:=bS h;obtain⟨m,h4,h⟩:=vO h;exact⟨_,_,_,by simp only[h1,h2,h3,h4],h⟩
 case call c=>
  split at h
  ·rename_i hb;simp only[hb];exact GR h
  ·exact h.elim
def Bc(s:St)(K:List (Nat × AV)->aN->Nat->Nat->Prop):Prop:=
 match s with
 | ⟨sl,mem,nx,nt⟩=>K sl mem nx nt
theorem jU{s:St}{K:List (Nat × AV)->aN->Nat->Nat->Prop}:Bc s K↔K s.sl s.mem s.nx s.nt:=Iff.rfl
def iU(s:St)(d:Option Nat)(v:AV)(mem:aN)(nx:Nat)(K:St->Prop):Prop:=
 Bc s fun sl _ _ nt=>match d with
  | none=>K ⟨sl,mem,nx,nt⟩
  | some d=>m7 (Nat.blt d nt) (EU sl d v fun sl=>K ⟨sl,mem,nx,nt⟩)
theorem dJ{s:St}{d:Option Nat}{v:AV}{mem:aN}{nx:Nat}{K:St->Prop}(h:iU s d v mem nx K):∃s',dT s d v mem nx=some s'/\K s':=by
 cases d with
 | none=>exact⟨_,rfl,h⟩
 | some d=>
  obtain⟨h1,h⟩:=bR.1 h;exact⟨_,by simp only[dT,h1],j8.1 h⟩
def mU(ops:List Oper)(sl:List (Nat × AV))(g:Option (Nat × Bool))(yes no:Prop):Prop:=
 match g with
 | none=>yes
 | some (j,want)=>match ops[j]? with
  | none=>no
  | some o=>match o.dst with
   | none=>no
   | some d=>match lk sl d with
    | some (.bool b)=>match want with
     | true=>JK b yes no
     | false=>JK b no yes
    | some (.tup [])=>no
    | _=>False
theorem qC{ops:List Oper}{s:St}{g:Option (Nat × Bool)}{yes no:Prop}(h:mU ops s.sl g yes no):(kJ ops s g=some true/\yes)∨(kJ ops s g=some false/\no):=by
 unfold mU at h;unfold kJ;split at h
 ·exact .inl ⟨rfl,h⟩
 ·split at h
  ·rename_i e;exact .inr ⟨by simp only[e],h⟩
  ·rename_i e;simp only[e];split at h
   ·rename_i e;exact .inr ⟨by simp only[e],h⟩
   ·rename_i e;simp only[e];split at h
    ·rename_i b e;simp only[e];split at h
     ·cases b
      ·exact .inr ⟨rfl,h⟩
      ·exact .inl ⟨rfl,h⟩
     ·cases b
      ·exact .inl ⟨rfl,h⟩
      ·exact .inr ⟨rfl,h⟩
    ·rename_i e;exact .inr ⟨by simp only[e],h⟩
    ·exact h.elim
def HZ(P:Program)(Γ:List (Nat × AV))(sl:List (Nat × AV))(f:Operand)(args:List Operand)(E:AV->Prop)(K:FuncId->List AV->Prop):Prop:=
 i5 Γ sl f fun v=>match v with
  | .fn (.func F) first cap=>Fh Γ sl args fun as=>match P.funcs[F]? with
   | some fn=>match fn.body with
    | some _=>match fn.name == "runtime.NumGoroutine" with
     | false=>match Nat.beq F YF with
      | false=>yA first as fun l=>yA l cap fun l=>K F l
      | true=>False
     | true=>False
    | none=>match zP fn with
     | true=>match first with
      | []=>match cap with
       | []=>match as with
        | [v]=>E v
        | _=>False
       | _=>False
      | _=>False
     | false=>False
   | none=>False
  | .yld id=>Fh Γ sl args fun as=>K YF (.yld id::as)
  | _=>False
theorem LO{P:Program}{Γ:List (Nat × AV)}{s:St}{c:Call}{f:Operand}(hc:c.callee = .value f){E:AV->Prop}{K:FuncId->List AV->Prop}(h:HZ P Γ s.sl f c.args.toList E K) :
  (∃v,cJ P Γ s (.call c)=some (v,s.mem,s.nx)/\E v)∨(cJ P Γ s (.call c)=none/\∃F l,nC P Γ s (.call c)=some (F,l)/\K F l):=by
 unfold HZ at h;obtain⟨v,h1,h⟩:=bS h;split at h
 ·rename_i F first cap
  obtain⟨as,h2,h⟩:=nD h;split at h
  ·rename_i fn h3;split at h
   ·rename_i body h4;split at h
    ·rename_i h5;split at h
     ·rename_i h6;refine .inr ⟨?_,_,_,by simp only[nC,hc,h1,h2,h3,h4,h5,h6],fN.1 (fN.1 h)⟩;simp only[cJ,hc,C4,h1];cases first<;>cases cap<;>simp only[h3,h4]
     ·exact h.elim
    ·exact h.elim
   ·rename_i h4;split at h
    ·rename_i h5;split at h
     ·split at h
      ·split at h
       ·exact .inl ⟨_,by simp only[cJ,hc,C4,h1,h2,h3,h4,h5],h⟩
       ·exact h.elim
      ·exact h.elim
     ·exact h.elim
    ·exact h.elim
  ·exact h.elim
 ·rename_i id;obtain⟨as,h2,h⟩:=nD h;exact .inr ⟨by simp only[cJ,hc,C4,h1],_,_,by simp only[nC,hc,h1,h2],h⟩
 ·exact h.elim
def Bi(cl:Bool)(P:Program)(Γ:List (Nat × AV))(H:Hk)(sl:List (Nat × AV))(mem:aN)(nx:Nat)(op:Op)(K:AV->aN->Nat->Prop)(Kp:Value->aN->Nat->Prop):Prop:=
 match op with
 | .call c=>match c.callee with
  | .value f=>HZ P Γ sl f c.args.toList (fun v=>K v mem nx) fun F l=>H.call F l mem nx K Kp
  | _=>n4 cl P Γ sl mem nx op K
 | _=>n4 cl P Γ sl mem nx op K
theorem x9{cl:Bool}{P:Program}{Γ:List (Nat × AV)}{H:Hk}{s:St}{op:Op}{K:AV->aN->Nat->Prop}{Kp:Value->aN->Nat->Prop}(h:Bi cl P Γ H s.sl s.mem s.nx op K Kp) :
  (∃v m n,cJ P Γ s op=some (v,m,n)/\K v m n)∨(cJ P Γ s op=none/\∃F l,nC P Γ s op=some (F,l)/\H.call F l s.mem s.nx K Kp):=by
 unfold Bi at h;split at h
 ·split at h
  ·rename_i f hc;rcases LO hc h with⟨v,h1,h⟩|h
   ·exact .inl ⟨_,_,_,h1,h⟩
   ·exact .inr h
  ·exact .inl (iO h)
 ·exact .inl (iO h)
def Az(cl:Bool)(P:Program)(Γ:List (Nat × AV))(H:Hk)(sl:List (Nat × AV))(mem:aN)(nx:Nat)(op:Op)(K:AV->aN->Nat->Prop)(Kp:Value->aN->Nat->Prop):Prop:=
 match op with
 | .panic x=>i5 Γ sl x fun v=>opt (quo v) fun y=>Kp y mem nx
 | op=>Bi cl P Γ H sl mem nx op K Kp
theorem H0{cl:Bool}{P:Program}{Γ:List (Nat × AV)}{H:Hk}{s:St}{op:Op}{K:AV->aN->Nat->Prop}{Kp:Value->aN->Nat->Prop}(h:Az cl P Γ H s.sl s.mem s.nx op K Kp) :
  (∃v m n,cJ P Γ s op=some (v,m,n)/\K v m n)∨(cJ P Γ s op=none/\∃F l,nC P Γ s op=some (F,l)/\H.call F l s.mem s.nx K Kp) ∨
   (cJ P Γ s op=none/\nC P Γ s op=none/\∃y,GP Γ s op=some y/\Kp y s.mem s.nx):=by
 unfold Az at h;split at h
 ·obtain⟨v,h1,h⟩:=bS h;obtain⟨y,h2,h⟩:=bP.1 h;exact .inr (.inr ⟨rfl,rfl,y,by simp only[GP,h1,h2],h⟩)
 ·rcases x9 h with h|h
  ·exact .inl h
  ·exact .inr (.inl h)
def G3(cl:Bool)(P:Program)(Γ:List (Nat × AV))(H:Hk)(ops:List Oper):List Oper->St->(St->Prop)->(Value->St->Prop)->Prop
 | [],s,K,_=>K s
 | o::r,s,K,Kp=>Bc s fun sl mem nx nt=>mU ops sl o.guard
   (Az cl P Γ H sl mem nx o.op (fun v mem nx=>iU s o.dst v mem nx fun s'=>G3 cl P Γ H ops r s' K Kp) fun x mem nx=>Kp x ⟨sl,mem,nx,nt⟩)
   (iU s o.dst (.tup []) mem nx fun s'=>G3 cl P Γ H ops r s' K Kp)
theorem Df{cl:Bool}{P:Program}{Γ:List (Nat × AV)}{H:Hk}{B:Nat}(hH:wA P Γ B H)(ops:List Oper):∀(l:List Oper) (s:St) (K K':St->Prop) (Kp Kp':Value->St->Prop),(∀s,K s->K' s)->(∀x s,Kp x s->Kp' x s)->G3 cl P Γ H ops l s K Kp->tQ P Γ (Dd P Γ B) ops l s K' Kp'
 | [],s,K,K',Kp,Kp',hk,hp,h=>hk s h
 | o::r,s,K,K',Kp,Kp',hk,hp,h=>by
  simp only[G3] at h;simp only[tQ];have h:=jU.1 h;rcases qC h with⟨h1,h⟩|⟨h1,h⟩
  ·simp only[h1];rcases H0 h with⟨v,m,n,h2,h⟩|⟨h2,F,l,h3,h⟩|⟨h2,h3,y,h4,h⟩
   ·obtain⟨s',h4,h⟩:=dJ h;simp only[h2,h4];exact Df hH ops r s' K K' Kp Kp' hk hp h
   ·simp only[h2,h3];refine(hH.call _ _ _ _ _ _ h).mono (fun v m n h=>?_) fun x m n h=>hp _ _ h
    obtain⟨s',h4,h⟩:=dJ h;simp only[h4];exact Df hH ops r s' K K' Kp Kp' hk hp h
   ·simp only[h2,h3,h4];exact hp _ _ h
  ·obtain⟨s',h4,h⟩:=dJ h;simp only[h1,h4];exact Df hH ops r s' K K' Kp Kp' hk hp h
def fA(f:Nat × AB->Bool):aN->(aN->Prop)->Prop
 | [],K=>K []
 | p::r,K=>match f p with
  | true=>fA f r fun l=>K (p::l)
  | false=>fA f r K
theorem bY{f:Nat × AB->Bool}:∀{m:aN} {K:aN->Prop},fA f m K↔K (m.filter f)
 | [],K=>Iff.rfl
 | p::r,K=>by
  simp only[fA,List.filter_cons];cases f p
  ·simpa using bY
  ·simpa using bY
def pN(cl:Bool)(P:Program)(Γ:List (Nat × AV))(ops:List Oper)(tr:List (List Nat))(base x:Nat)(mem:aN)(nx:Nat):List xQ->Prop->Prop
 | [],K=>K
 | r::rs,K=>match uT r.i (T tr x) with
  | true=>pN cl P Γ ops tr base x mem nx rs K
  | false=>match r.want with
   | false=>pN cl P Γ ops tr base x mem nx rs K
   | true=>match ops[r.i]? with
    | none=>pN cl P Γ ops tr base x mem nx rs K
    | some o=>match kind P o.op with
     | .pure=>match still o.op with
      | true=>pN cl P Γ ops tr base x mem nx rs K
      | false=>fA (fun p=>EQ tr base ops.length r.i p.1) mem fun m=>n4 cl P Γ r.sl m nx o.op fun v _ _=>match cl with
       | true=>m7 (jJ v r.v) (pN cl P Γ ops tr base x mem nx rs K)
       | false=>v=r.v/\pN cl P Γ ops tr base x mem nx rs K
     | _=>pN cl P Γ ops tr base x mem nx rs K
theorem lW{cl:Bool}{P:Program}{Γ:List (Nat × AV)}{ops:List Oper}{tr:List (List Nat)}{base x:Nat}{s:St}:∀{recs:List xQ} {K:Prop},pN cl P Γ ops tr base x s.mem s.nx recs K->OI P Γ ops tr base x s recs/\K
 | [],K,h=>⟨trivial,h⟩
 | r::rs,K,h=>by
  simp only[pN] at h;simp only[OI];split at h
  ·rename_i h1;obtain⟨h2,h3⟩:=lW h;exact⟨⟨fun e=>(by rw[h1] at e;cases e),h2⟩,h3⟩
  ·split at h
   ·rename_i h1;obtain⟨h2,h3⟩:=lW h;exact⟨⟨fun _ e=>(by rw[h1] at e;cases e),h2⟩,h3⟩
   ·split at h
    ·rename_i h1;obtain⟨h2,h3⟩:=lW h;exact⟨⟨fun _ _ o e=>(by rw[h1] at e;cases e),h2⟩,h3⟩
    ·rename_i o ho;split at h
     ·split at h
      ·rename_i h1;obtain⟨h2,h3⟩:=lW h;refine⟨⟨fun _ _ o' e _ e'=>?_,h2⟩,h3⟩;rw[ho] at e;cases e;rw[h1] at e';cases e'
      ·have h:=bY.1 h;obtain⟨v,m,n,h1,h⟩:=iO (s:={ sl:=r.sl,mem:=eD tr base ops.length r.i s.mem,nx:=s.nx,nt:=s.nt }) h;have key:v=r.v/\pN cl P Γ ops tr base x s.mem s.nx rs K:=by
        cases cl
        ·exact h
        ·obtain⟨h2,h3⟩:=bR.1 h;exact⟨pR h2,h3⟩
       obtain⟨h2,h3⟩:=lW key.2;refine⟨⟨fun _ _ o' e _ _=>?_,h2⟩,h3⟩;rw[ho] at e;cases e;exact⟨m,n,by rw[←key.1];exact h1⟩
     ·rename_i hk;obtain⟨h2,h3⟩:=lW h;refine⟨⟨fun _ _ o' e e'=>?_,h2⟩,h3⟩;rw[ho] at e;cases e;exact(hk e').elim
def uC(cl:Bool)(P:Program)(Γ:List (Nat × AV))(H:Hk)(ops:List Oper)(tr:List (List Nat))(base:Nat)(K:St->Prop)(Kp:Value->aN->Nat->Prop):List Nat->List xQ->St->Prop
 | [],recs,s=>K s
 | i::r,recs,s=>match ops[i]? with
  | none=>False
  | some o=>Bc s fun sl mem nx nt=>mU ops sl o.guard
   (match kind P o.op with
    | .pure=>match still o.op with
     | true=>n4 cl P Γ sl [] nx o.op fun v _ _=>iU s o.dst v mem nx fun s'=>uC cl P Γ H ops tr base K Kp r (⟨i,sl,true,v⟩::recs) s'
     | false=>fA (fun p=>EQ tr base ops.length i p.1) mem fun m=>n4 cl P Γ sl m nx o.op fun v _ _=>iU s o.dst v mem nx fun s'=>uC cl P Γ H ops tr base K Kp r (⟨i,sl,true,v⟩::recs) s'
    | .al=>l9 (base+i) fun id=>n4 cl P Γ sl [] id o.op fun v m _=>match m with
     | [(_,b)]=>iU s o.dst v ((id,b)::mem) nx fun s'=>uC cl P Γ H ops tr base K Kp r (⟨i,sl,true,v⟩::recs) s'
     | _=>False
    | .eff=>fA (fun p=>EQ tr base ops.length i p.1) mem fun m=>Bi cl P Γ H sl m nx o.op (fun v m nx'=>fA (fun p=>!EQ tr base ops.length i p.1) mem fun rest=>fA (fun p=>!pO p.1 m) rest fun rest=>yA m rest fun m=>
      iU s o.dst v m nx' fun s'=>pN cl P Γ ops tr base i m nx' recs (uC cl P Γ H ops tr base K Kp r recs s')) Kp)
   (iU s o.dst (.tup []) mem nx fun s'=>uC cl P Γ H ops tr base K Kp r (⟨i,sl,false,.tup []⟩::recs) s')
theorem p9{cl:Bool}{P:Program}{Γ:List (Nat × AV)}{H:Hk}{B:Nat}(hH:wA P Γ B H)(ops:List Oper)(tr:List (List Nat))(base:Nat)(K K':St->Prop)(Kp Kp':Value->aN->Nat->Prop)(hk:∀s,K s->K' s)(hp:∀x m n,Kp x m n->Kp' x m n) :
  ∀(l:List Nat) (recs:List xQ) (s:St),uC cl P Γ H ops tr base K Kp l recs s->nN P Γ (Dd P Γ B) ops tr base K' Kp' l recs s
 | [],recs,s,h=>hk s h
 | i::r,recs,s,h=>by
  simp only[uC] at h;simp only[nN];split at h
  ·exact h.elim
  ·rename_i o ho;simp only[ho];have h:=jU.1 h;rcases qC h with⟨h1,h⟩|⟨h1,h⟩
   ·simp only[h1];split at h
    ·rename_i hkd;simp only[hkd];split at h
     ·rename_i hst;obtain⟨v,m,n,h2,h⟩:=iO (s:={ sl:=s.sl,mem:=[],nx:=s.nx,nt:=s.nt }) h;obtain⟨m',n',h2'⟩:=nX (s:={ sl:=s.sl,mem:=[],nx:=s.nx,nt:=s.nt }) (s':={ s with mem:=eD tr base ops.length i s.mem }) hst rfl h2;obtain⟨s',h3,h⟩:=dJ h;simp only[h2',h3];exact p9 hH ops tr base K K' Kp Kp' hk hp r _ s' h
     ·have h:=bY.1 h;obtain⟨v,m,n,h2,h⟩:=iO (s:={ s with mem:=eD tr base ops.length i s.mem }) h;obtain⟨s',h3,h⟩:=dJ h;simp only[h2,h3];exact p9 hH ops tr base K K' Kp Kp' hk hp r _ s' h
    ·rename_i hkd;simp only[hkd];have h:=dB.1 h;obtain⟨v,m,n,h2,h⟩:=iO (s:={ s with mem:=[],nx:=base+i }) h;simp only[h2];split at h
     ·obtain⟨s',h3,h⟩:=dJ h;simp only[h3];exact p9 hH ops tr base K K' Kp Kp' hk hp r _ s' h
     ·exact h.elim
    ·rename_i hkd;simp only[hkd];have h:=bY.1 h;rcases x9 (s:={ s with mem:=eD tr base ops.length i s.mem }) h with⟨v,m,n,h2,h⟩|⟨h2,F,l,h3,h⟩
     ·simp only[h2];have h:=fN.1 (bY.1 (bY.1 h));obtain⟨s',h3,h⟩:=dJ h;have h3:dT s o.dst v (m++oJ m (eR tr base ops.length i s.mem)) n=some s':=h3;simp only[h3];obtain⟨e1,e2,_⟩:=eS h3;have h:pN cl P Γ ops tr base i (m++oJ m (eR tr base ops.length i s.mem)) n recs (uC cl P Γ H ops tr base K Kp r recs s'):=h;rw[←e1,←e2] at h;obtain⟨h4,h⟩:=lW h;exact⟨h4,p9 hH ops tr base K K' Kp Kp' hk hp r _ s' h⟩
     ·rw[n7 (s':=s) (fun x _=>by cases x<;>rfl)] at h3;simp only[h2,h3];refine(hH.call _ _ _ _ _ _ h).mono (fun v m n h=>?_) hp;have h:=fN.1 (bY.1 (bY.1 h));obtain⟨s',h3,h⟩:=dJ h;have h3:dT s o.dst v (m++oJ m (eR tr base ops.length i s.mem)) n=some s':=h3;simp only[h3];obtain⟨e1,e2,_⟩:=eS h3;have h:pN cl P Γ ops tr base i (m++oJ m (eR tr base ops.length i s.mem)) n recs (uC cl P Γ H ops tr base K Kp r recs s'):=h;rw[←e1,←e2] at h;obtain⟨h4,h⟩:=lW h;exact⟨h4,p9 hH ops tr base K K' Kp Kp' hk hp r _ s' h⟩
   ·obtain⟨s',h3,h⟩:=dJ h;simp only[h1,h3];exact p9 hH ops tr base K K' Kp Kp' hk hp r _ s' h
def PI(sl:List (Nat × AV))(id nt:Nat)(m:aN)(n:Nat)(Q:Exit->St->Prop):Prop:=
 opt (lk m id) fun b=>match b with
  | .loop _ _ _ _ _ st pd=>match st with
   | .busy=>False
   | _=>fA (fun p=>!Nat.beq p.1 id) m fun m=>match pd with
    | none=>Q .normal ⟨sl,m,n,nt⟩
    | some .ret=>Q .ret ⟨sl,m,n,nt⟩
    | some (.exit i)=>Q (.exit i) ⟨sl,m,n,nt⟩
    | some _=>False
  | _=>False
theorem NU{s:St}{m:aN}{n:Nat}{Q:Exit->St->Prop}(h:PI s.sl s.nx s.nt m n Q):C1 s Q m n:=by
 obtain⟨b,h1,h⟩:=bP.1 h;unfold C1;simp only[h1];cases b with
 | loop sl nt ps ca cb st pd=>
  cases st<;>first|exact h.elim|(simp only at h ⊢;have h:=bY.1 h;exact h)
 | _=>exact h.elim
theorem C1.mono{s:St}{m:aN}{n:Nat}{Q Q':Exit->St->Prop}(hq:∀e s,Q e s->Q' e s)(h:C1 s Q m n):C1 s Q' m n:=by
 unfold C1 at h ⊢;split at h
 ·split at h
  ·exact h
  ·split at h
   ·exact hq _ _ h
   ·exact hq _ _ h
   ·exact hq _ _ h
   ·exact h
 ·exact h
def vJ(cl:Bool)(P:Program)(Γ:List (Nat × AV))(H:Hk):Code->St->(Exit->St->Prop)->Prop
 | .skip,s,Q=>Q .normal s
 | .seq x y,s,Q=>vJ cl P Γ H x s fun e s'=>match e with
  | .normal=>vJ cl P Γ H y s' Q
  | e=>Q e s'
 | .cond c x y,s,Q=>Bc s fun sl _ _ _=>i5 Γ sl c fun v=>match v with
  | .bool b=>JK b (vJ cl P Γ H x s Q) (vJ cl P Γ H y s Q)
  | _=>False
 | .block id c,s,Q=>vJ cl P Γ H c s fun e s'=>match e with
  | .exit i=>match Nat.beq i id with
   | true=>Q .normal s'
   | false=>Q (.exit i) s'
  | e=>Q e s'
 | .loop c,s,Q=>H.loop c s Q
 | .label _,s,Q=>Q .normal s
 | .scope c,s,Q=>vJ cl P Γ H c s fun e s'=>match e with
  | .goto _=>False
  | e=>Q e s'
 | .exit i,s,Q=>Q (.exit i) s
 | .ret,s,Q=>Q .ret s
 | .region _ ops draw,s,Q=>match draw with
  | false=>G3 cl P Γ H ops.toList ops.toList s (fun s'=>Q .normal s') fun x s'=>Q (.panic [pe x]) s'
  | true=>match P.follows .mixedOrders with
   | true=>match xO P ops.toList (qU P ops.toList ops.toList.length [] (vG ops.toList.length)) with
    | true=>Bc s fun sl mem nx nt=>l9 (nx+ops.toList.length) fun n=>sJ (qU P ops.toList ops.toList.length [] (vG ops.toList.length)) fun ord=>uC cl P Γ H ops.toList (HD ops.toList []) nx (fun s'=>Q .normal s') (fun x m n=>Q (.panic [pe x]) ⟨rZ ops.toList sl,m,n,nt⟩) ord [] ⟨sl,mem,n,nt⟩
    | false=>False
   | false=>False
 | .rangeFunc g ps ca cb,s,Q=>Bc s fun sl mem nx nt=>i5 Γ sl g fun v=>match v with
  | .fn (.func G) first cap=>match P.funcs[G]? with
   | some fn=>match fn.body with
    | some _=>match fn.name == "runtime.NumGoroutine" with
     | false=>match Nat.beq G YF with
      | false=>l9 (nx+1) fun n=>yA first (.yld nx::cap) fun l=>H.call G l ((nx,.loop sl nt ps ca cb .ready none)::mem) n (fun _ m n=>PI sl nx nt m n Q) fun x m n=>Q (.panic [pe x]) ⟨sl,m,n,nt⟩
      | true=>False
     | true=>False
    | none=>False
   | none=>False
  | _=>False
 | _,_,_=>False
theorem O1{cl:Bool}{P:Program}{Γ:List (Nat × AV)}{H:Hk}{B:Nat}(hH:wA P Γ B H):∀(c:Code) (s:St) (Q Q':Exit->St->Prop),(∀e s,Q e s->Q' e s)->vJ cl P Γ H c s Q->A8 P Γ (Dd P Γ B) c s Q':=by
 intro c
 induction c with
 | skip=>exact fun s Q Q' hq h=>hq _ _ h
 | label l=>exact fun s Q Q' hq h=>hq _ _ h
 | scope c ih=>
  intro s Q Q' hq h;simp only[vJ] at h;simp only[A8];refine ih s _ _ (fun e s' h=>?_) h;cases e with
  | goto l=>exact h
  | normal=>exact hq _ _ h
  | exit i=>exact hq _ _ h
  | ret=>exact hq _ _ h
  | panic c=>exact hq _ _ h
  | outgrown=>exact hq _ _ h
 | exit i=>exact fun s Q Q' hq h=>hq _ _ h
 | ret=>exact fun s Q Q' hq h=>hq _ _ h
 | loop c ih=>exact fun s Q Q' hq h=>(hH.loop c s Q h).mono hq
 | seq x y ihx ihy=>
  intro s Q Q' hq h;simp only[vJ] at h;simp only[A8];refine ihx s _ _ (fun e s' h=>?_) h;cases e with
  | normal=>exact ihy s' Q Q' hq h
  | exit i=>exact hq _ _ h
  | goto l=>exact hq _ _ h
  | ret=>exact hq _ _ h
  | panic c=>exact hq _ _ h
  | outgrown=>exact hq _ _ h
 | cond c x y ihx ihy=>
  intro s Q Q' hq h;simp only[vJ] at h;simp only[A8];have h:=jU.1 h;obtain⟨v,h1,h⟩:=bS h;simp only[h1];split at h
  ·rename_i b;cases b
   ·exact ihy s Q Q' hq h
   ·exact ihx s Q Q' hq h
  ·exact h.elim
 | block id c ih=>
  intro s Q Q' hq h;simp only[vJ] at h;simp only[A8];refine ih s _ _ (fun e s' h=>?_) h;cases e with
  | exit i=>
   simp only at h ⊢;split at h
   ·rename_i e;simp only[e];exact hq _ _ h
   ·rename_i e;simp only[e];exact hq _ _ h
  | normal=>exact hq _ _ h
  | goto l=>exact hq _ _ h
  | ret=>exact hq _ _ h
  | panic c=>exact hq _ _ h
  | outgrown=>exact hq _ _ h
 | region id ops draw=>
  intro s Q Q' hq h;cases draw with
  | false=>
   simp only[vJ] at h;simp only[A8];exact Df hH _ _ _ _ _ _ _ (fun s h=>hq _ _ h) (fun x s h=>hq _ _ h) h
  | true=>
   simp only[vJ] at h;simp only[A8];split at h
   ·rename_i hmix;simp only[hmix];split at h
    ·rename_i hok;simp only[CS,hok];exact p9 hH _ _ _ _ _ _ _ (fun s h=>hq _ _ h) (fun x m n h=>hq _ _ h) _ _ _ (jF.1 (dB.1 (jU.1 h)))
    ·exact h.elim
   ·exact h.elim
 | rangeFunc g ps ca cb=>
  intro s Q Q' hq h;simp only[vJ] at h;obtain⟨v,h1,h⟩:=bS (s:=s) (jU.1 h);simp only[A8,h1];split at h<;>first|exact h.elim|skip
  split at h<;>first|exact h.elim|skip
  rename_i fn hf;split at h<;>first|exact h.elim|skip
  rename_i c0 hb;split at h<;>first|exact h.elim|skip
  rename_i hn;split at h<;>first|exact h.elim|skip
  rename_i hG;simp only[hf,hb,hn,hG];exact(hH.call _ _ _ _ _ _ (fN.1 (dB.1 h))).mono (fun _ m n h=>(NU h).mono hq) fun x m n h=>hq _ _ h
 | _=>intro s Q Q' hq h;simp only[vJ] at h
theorem dS{cl:Bool}{P:Program}{Γ:List (Nat × AV)}{H:Hk}{B:Nat}(hH:wA P Γ B H)(c:Code)(s:St)(Q:Exit->St->Prop)(h:vJ cl P Γ H c s Q):dI P Γ B c s Q:=
 o5 Dw c s Q (O1 hH c s Q Q (fun _ _ h=>h) h)
def Hu:Nat->List AV->(List (Nat × AV)->Prop)->Prop
 | _,[],K=>K []
 | k,a::r,K=>l9 k fun k=>Hu (k+1) r fun l=>K ((k,a)::l)
theorem Cg:∀{k:Nat} {l:List AV} {K:List (Nat × AV)->Prop},Hu k l K↔K (FV k l)
 | k,[],K=>Iff.rfl
 | k,a::r,K=>by simp only[Hu,FV,dB,Cg]
def pK(ntmps:Nat)(args:List AV)(mem:aN)(nx:Nat)(K:St->Prop):Prop:=
 Hu 0 args fun sl=>m7 (Nat.ble args.length ntmps) (l9 ntmps fun nt=>K ⟨sl,mem,nx,nt⟩)
theorem gV{ntmps:Nat}{args:List AV}{mem:aN}{nx:Nat}{K:St->Prop}(h:pK ntmps args mem nx K):K (enter ntmps args mem nx):=by
 obtain⟨h1,h⟩:=bR.1 (Cg.1 h);have h:=dB.1 h;have h1:=Nat.le_of_ble_eq_true h1;have e:enter ntmps args mem nx=⟨FV 0 args,mem,nx,ntmps⟩:=by simp only[enter];congr 1;omega
 rw[e];exact h
def HR(P:Program)(s:St):List ResultVar->(List AV->Prop)->Prop
 | [],K=>K []
 | .tmp t::r,K=>opt (lk s.sl t) fun v=>HR P s r fun l=>K (v::l)
 | .cell a t::r,K=>opt (lk s.sl a) fun p=>FB P s.mem t p fun v=>HR P s r fun l=>K (v::l)
theorem DA{P:Program}{s:St}:∀{rs:List ResultVar} {K:List AV->Prop},HR P s rs K->∃l,uD P s rs=some l/\K l
 | [],K,h=>⟨[],rfl,h⟩
 | .tmp t::r,K,h=>by
  obtain⟨v,h1,h⟩:=bP.1 h;obtain⟨l,h2,h⟩:=DA h;exact⟨_,by simp only[uD,h1,h2],h⟩
 | .cell a t::r,K,h=>by
  obtain⟨p,h1,h⟩:=bP.1 h;obtain⟨v,h2,h⟩:=H5 h;obtain⟨l,h3,h⟩:=DA h;exact⟨_,by simp only[uD,h1,h2,h3],h⟩
def Dt(P:Program)(rs:List ResultVar)(s:St)(K:AV->Prop):Prop:=
 HR P s rs fun l=>match l with
  | [v]=>K v
  | []=>K (.tup [])
  | a::b::r=>K (.tup (a::b::r))
theorem DI{P:Program}{rs:List ResultVar}{s:St}{K:AV->Prop}(h:Dt P rs s K):∃v,wD P rs s=some v/\K v:=by
 obtain⟨l,h1,h⟩:=DA h;unfold wD;rw[h1]
 match l,h with
 | [v],h=>exact⟨_,rfl,h⟩
 | [],h=>exact⟨_,rfl,h⟩
 | a::b::r,h=>exact⟨_,rfl,h⟩
def Na(P:Program)(rs:List ResultVar)(Q:AV->aN->Nat->Prop):Exit->St->Prop:=fun e s=>
 match e with
 | .normal=>Bc s fun _ mem nx _=>Dt P rs s fun r=>Q r mem nx
 | .ret=>Bc s fun _ mem nx _=>Dt P rs s fun r=>Q r mem nx
 | _=>False
theorem Kw{P:Program}{rs:List ResultVar}{Q:AV->aN->Nat->Prop}{e:Exit}{s:St}(h:Na P rs Q e s):Id P rs Q e s:=by
 cases e with
 | normal=>
  obtain⟨v,h1,h⟩:=DI (show Dt P rs s _ from h);simp only[Id,h1];exact h
 | ret=>
  obtain⟨v,h1,h⟩:=DI (show Dt P rs s _ from h);simp only[Id,h1];exact h
 | _=>exact(show False from h).elim
theorem e9{P:Program}{Γ:List (Nat × AV)}{F:FuncId}{fn:Func}{c:Code}{args:List AV}{mem:aN}{nx:Nat}{Q:AV->aN->Nat->Prop}(hΓ:∀p∈Γ,NN p.2)(hf:P.funcs[F]? = some fn)(hb:fn.body=some c)
  (h:pK fn.ntmps args mem nx fun s=>vJ false P Γ (CO P Γ nx) c s (Na P fn.results.toList (kQ nx Q))) (hF:Nat.beq F YF=false:=by rfl):aG P Γ F args mem nx Q:=
 (t0 hf hb ((dS qH _ _ _ (gV h)).mono fun _ _ h=>Kw h) hF).turn hΓ
def CV(P:Program)(rs:List ResultVar)(Q:AV->aN->Nat->Prop)(Qp:Value->aN->Nat->Prop):Exit->St->Prop:=fun e s=>
 match e with
 | .normal=>Bc s fun _ mem nx _=>Dt P rs s fun r=>Q r mem nx
 | .ret=>Bc s fun _ mem nx _=>Dt P rs s fun r=>Q r mem nx
 | .panic [⟨x,false,false⟩]=>Bc s fun _ mem nx _=>Qp x mem nx
 | _=>False
theorem zT{P:Program}{rs:List ResultVar}{Q:AV->aN->Nat->Prop}{Qp:Value->aN->Nat->Prop}{e:Exit}{s:St}(h:CV P rs Q Qp e s):AO P rs Q Qp e s:=by
 cases e with
 | normal=>
  obtain⟨v,h1,h⟩:=DI (show Dt P rs s _ from h);simp only[AO,h1];exact h
 | ret=>
  obtain⟨v,h1,h⟩:=DI (show Dt P rs s _ from h);simp only[AO,h1];exact h
 | panic ch=>
  unfold CV at h;split at h
  ·rename_i e;cases e
  ·rename_i e;cases e
  ·rename_i e;cases e;exact h
  ·exact h.elim
 | _=>exact(show False from h).elim
end Go.Ax
