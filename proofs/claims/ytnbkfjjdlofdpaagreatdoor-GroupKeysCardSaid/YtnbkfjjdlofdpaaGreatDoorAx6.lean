/- A part of the proof. -/
import Derived.Test.YtnbkfjjdlofdpaaGreatDoorAx5
set_option linter.unusedVariables false
set_option linter.unusedSimpArgs false
set_option linter.unusedSectionVars false
namespace Go.Ax
open Go
def Cy(cl:Bool)(P:Program)(mem:aA)(t:TypeId)(x y:AV)(K:AV->aA->Prop):Prop:=
 match P.underlying t with
 | some (.slice e)=>match cF P e with
  | some n=>match x with
   | .sl id 0 len=>match lk mem id with
    | some (.row t' sz' xs)=>FN cl mem n y fun ys=>gF (Nat.blt 0 n && (Nat.beq sz' n && (Nat.ble ys.length len && Nat.ble len xs.length)))
      (jJ cl (xs.drop ys.length) fun zs=>D7 cl ys zs fun zs=>n8 cl ys.length fun l=>y7 mem id (.row t' sz' zs) fun m=>K (.int .i64 l) m)
    | _=>False
   | _=>False
  | none=>False
 | _=>False
theorem FA{cl:Bool}{P:Program}{mem:aA}{t:TypeId}{x y:AV}{K:AV->aA->Prop}(h:Cy cl P mem t x y K):∃v m,xV P mem t x y=some (v,m)/\K v m:=by
 unfold Cy at h;unfold xV;split at h
 ·rename_i e hu;simp only[hu];split at h
  ·rename_i n hn;simp only[hn];split at h
   ·split at h
    ·rename_i hid;obtain⟨ys,h4,h⟩:=Dc h;obtain⟨h5,h⟩:=aQ.1 h;rw[JE] at h5;exact⟨_,_,by simp only[h5.1,hid,h4,h5.2],eG.1 (c7.1 (zF.1 (c9.1 h)))⟩
    ·exact h.elim
   ·exact h.elim
  ·exact h.elim
 ·exact h.elim
def AH(P:Program)(mem:aA)(t:TypeId)(x:AV)(K:aA->Prop):Prop:=
 match P.underlying t with
 | some (.slice e)=>match eV P e with
  | some z=>match x with
   | .sl id off len=>match lk mem id with
    | some (.row t' sz xs)=>gF (d6 z && (Nat.beq z.cells.length sz && (Nat.blt 0 sz && (Nat.blt 0 len && Nat.ble (off+len) xs.length))))
      (y7 mem id (.row t' sz (xs.take off++(List.replicate len z++xs.drop (off+len)))) fun m=>K m)
    | _=>False
   | _=>False
  | none=>False
 | _=>False
theorem Dl{P:Program}{mem:aA}{t:TypeId}{x:AV}{K:aA->Prop}(h:AH P mem t x K):∃m,sR P mem t x=some m/\K m:=by
 unfold AH at h;unfold sR;split at h
 ·rename_i e hu;simp only[hu];split at h
  ·rename_i z hz;simp only[hz];split at h
   ·split at h
    ·rename_i hid;obtain⟨h5,h⟩:=aQ.1 h;exact⟨_,by simp only[hid,h5],eG.1 h⟩
    ·exact h.elim
   ·exact h.elim
  ·exact h.elim
 ·exact h.elim
def oA(cl:Bool)(P:Program)(Γ:List (Nat × AV))(sl:List (Nat × AV))(mem:aA)(nx:Nat)(b:Builtin)(args:List Operand)(ts:List TypeId)(K:AV->aA->Nat->Prop):Prop:=
 match b with
 | .len=>match args,ts with
  | [x],[t]=>dP Γ sl x fun a=>fL (D6 P mem t a) fun v=>match v with
   | .int k n=>iS cl k n fun v=>K v mem nx
   | _=>False
  | _,_=>False
 | .append=>match args,ts with
  | [x,y],[t,u]=>dP Γ sl x fun a=>dP Γ sl y fun b=>v6 cl P mem nx t u a b K
  | _,_=>False
 | .min=>yD Γ sl args fun l=>match l with
  | .int k x::r=>fL (CW x r) fun m=>iS cl k m fun v=>K v mem nx
  | _=>False
 | .max=>yD Γ sl args fun l=>match l with
  | .int k x::r=>fL (B5 x r) fun m=>iS cl k m fun v=>K v mem nx
  | _=>False
 | .unsafeSliceData=>match args,ts with
  | [x],[_]=>dP Γ sl x fun a=>fL (i6 a) fun v=>K v mem nx
  | _,_=>False
 | .unsafeString=>match args,ts with
  | [x,y],[t,_]=>dP Γ sl x fun a=>dP Γ sl y fun b=>match oC P mem t a b with
   | some (.str l,m)=>jJ cl l fun l=>sJ m fun m=>K (.str l) m nx
   | _=>False
  | _,_=>False
 | .copy=>match args,ts with
  | [x,y],[t,_]=>dP Γ sl x fun a=>dP Γ sl y fun b=>Cy cl P mem t a b fun v m=>K v m nx
  | _,_=>False
 | .clear=>match args,ts with
  | [x],[t]=>dP Γ sl x fun a=>AH P mem t a fun m=>K (.tup []) m nx
  | _,_=>False
 | _=>False
theorem AO{cl:Bool}{P:Program}{Γ:List (Nat × AV)}{s:St}{b:Builtin}{args:List Operand}{ts:List TypeId}{K:AV->aA->Nat->Prop}(h:oA cl P Γ s.sl s.mem s.nx b args ts K) :
  ∃v m n,bH P Γ s b args ts=some (v,m,n)/\K v m n:=by
 unfold oA at h;split at h
 ·split at h
  ·obtain⟨a,h1,h⟩:=aP h;obtain⟨v,h2,h⟩:=aN.1 h;split at h
   ·exact⟨_,_,_,by simp only[bH,h1,h2,aG],fH.1 h⟩
   ·exact h.elim
  ·exact h.elim
 ·split at h
  ·obtain⟨a,h1,h⟩:=aP h;obtain⟨b,h2,h⟩:=aP h;obtain⟨v,m,n,h3,h⟩:=CX h;exact⟨_,_,_,by simp only[bH,h1,h2];exact h3,h⟩
  ·exact h.elim
 ·obtain⟨l,h1,h⟩:=gD h;split at h
  ·obtain⟨m,h2,h⟩:=aN.1 h;exact⟨_,_,_,by simp only[bH,h1,h2],fH.1 h⟩
  ·exact h.elim
 ·obtain⟨l,h1,h⟩:=gD h;split at h
  ·obtain⟨m,h2,h⟩:=aN.1 h;exact⟨_,_,_,by simp only[bH,h1,h2],fH.1 h⟩
  ·exact h.elim
 ·split at h
  ·obtain⟨a,h1,h⟩:=aP h;obtain⟨v,h2,h⟩:=aN.1 h;exact⟨_,_,_,by simp only[bH,h1,h2,aG],h⟩
  ·exact h.elim
 ·split at h
  ·obtain⟨a,h1,h⟩:=aP h;obtain⟨b,h2,h⟩:=aP h;split at h
   ·rename_i l m h3;exact⟨_,_,_,by simp only[bH,h1,h2,h3],l9.1 (c9.1 h)⟩
   ·exact h.elim
  ·exact h.elim
 ·split at h
  ·obtain⟨a,h1,h⟩:=aP h;obtain⟨b,h2,h⟩:=aP h;obtain⟨v,m,h3,h⟩:=FA h;exact⟨_,_,_,by simp only[bH,h1,h2,h3],h⟩
  ·exact h.elim
 ·split at h
  ·obtain⟨a,h1,h⟩:=aP h;obtain⟨m,h3,h⟩:=Dl h;exact⟨_,_,_,by simp only[bH,h1,h3],h⟩
  ·exact h.elim
 ·exact h.elim
def kN(cl:Bool)(P:Program)(Γ:List (Nat × AV))(sl:List (Nat × AV))(mem:aA)(nx:Nat)(op:Op)(K:AV->aA->Nat->Prop):Prop:=
 match op with
 | .move x=>dP Γ sl x fun v=>K v mem nx
 | .assign x=>dP Γ sl x fun v=>K v mem nx
 | .pick c a b=>dP Γ sl c fun c=>match c with
  | .bool c=>D2 c (dP Γ sl a fun v=>K v mem nx) (dP Γ sl b fun v=>K v mem nx)
  | _=>False
 | .alloc t=>vS P mem nx t K
 | .box t x=>dP Γ sl x fun v=>Ft P mem nx t v K
 | .build t parts=>iI Γ sl parts.toList fun ps=>vI P t ps fun v=>K v mem nx
 | .buildSlice t len parts=>iI Γ sl parts.toList fun ps=>gW P mem nx t len ps K
 | .load t x=>dP Γ sl x fun p=>zJ P mem t p fun v=>K v mem nx
 | .store t x y=>dP Γ sl x fun p=>dP Γ sl y fun v=>vK P mem t p v fun m=>K (.tup []) m nx
 | .nilCheck x=>dP Γ sl x fun p=>fL (DJ p) fun v=>K v mem nx
 | .binOp op t x y _=>dP Γ sl x fun a=>dP Γ sl y fun b=>E9 cl P op t x y a b fun v=>K v mem nx
 | .unOp op _ x=>dP Γ sl x fun a=>IA cl op a fun v=>K v mem nx
 | .convert src dst x=>dP Γ sl x fun a=>match P.underlying dst with
  | some (.slice _)=>k9 cl P mem nx src dst a K
  | _=>Be cl P mem src dst a fun v=>K v mem nx
 | .makeInterface t x=>dP Γ sl x fun a=>fL (vM P t a) fun v=>K v mem nx
 | .makeFunc fn first cap=>yD Γ sl first.toList fun l1=>yD Γ sl cap.toList fun l2=>K (.fn fn l1 l2) mem nx
 | .makeSlice t l c=>dP Γ sl l fun a=>dP Γ sl c fun b=>C7 cl P mem nx t a b K
 | .slice t x lo hi mx=>dP Γ sl x fun a=>wZ Γ sl lo fun l=>wZ Γ sl hi fun h=>wZ Γ sl mx fun m=>match !m.isSome || h.isSome with
  | true=>AM cl P mem t a l h m fun v=>K v mem nx
  | false=>False
 | .fieldAddr t x f=>dP Γ sl x fun p=>jC P t f p fun v=>K v mem nx
 | .field t x f=>dP Γ sl x fun p=>wV P t f p fun v=>K v mem nx
 | .indexAddr t x ix=>dP Γ sl x fun p=>dP Γ sl ix fun i=>jF cl P mem t p i fun v=>K v mem nx
 | .index t x ix=>dP Γ sl x fun p=>dP Γ sl ix fun i=>vX cl P t p i fun v=>K v mem nx
 | .extract x i=>dP Γ sl x fun p=>fL (j6 p i) fun v=>K v mem nx
 | .typeAssert x _ t ok=>dP Γ sl x fun p=>fL (qM P t ok p) fun v=>K v mem nx
 | .makeMap _ reserve=>match reserve with
  | none=>gP (nx+1) fun n=>K (.mp nx) ((nx,.mapb [])::mem) n
  | some _=>False
 | .lookup t x ix ok=>dP Γ sl x fun p=>dP Γ sl ix fun i=>fL (f0 P mem t p i ok) fun v=>K v mem nx
 | .mapUpdate t x y z=>dP Γ sl x fun p=>dP Γ sl y fun k=>dP Γ sl z fun v=>gN P mem t p k v fun m=>K (.tup []) m nx
 | .insert t x y z=>dP Γ sl x fun p=>dP Γ sl y fun k=>dP Γ sl z fun v=>gN P mem t p k v fun m=>K (.tup []) m nx
 | .range t x=>dP Γ sl x fun p=>fL (oN P mem nx t p) fun r=>match r with
  | (v,m,n)=>gP n fun n=>K v m n
 | .entry x=>dP Γ sl x fun p=>fL (sA mem p) fun v=>K v mem nx
 | .next x b=>match b with
  | false=>dP Γ sl x fun p=>fL (nU mem p) fun r=>match r with
   | (v,m)=>K v m nx
  | true=>False
 | .call c=>match c.callee with
  | .builtin b=>oA cl P Γ sl mem nx b c.args.toList c.argTypes.toList K
  | _=>False
 | _=>False
theorem fZ{cl:Bool}{P:Program}{Γ:List (Nat × AV)}{s:St}{op:Op}{K:AV->aA->Nat->Prop}(h:kN cl P Γ s.sl s.mem s.nx op K):∃v m n,aW P Γ s op=some (v,m,n)/\K v m n:=by
 cases op<;>simp only[kN] at h<;>simp only[aW]<;>first|exact h.elim|skip
 case move x=>
  obtain⟨v,h1,h⟩:=aP h;exact⟨_,_,_,by simp only[h1,aG],h⟩
 case assign x=>
  obtain⟨v,h1,h⟩:=aP h;exact⟨_,_,_,by simp only[h1,aG],h⟩
 case pick c x y=>
  obtain⟨v,h1,h⟩:=aP h;split at h
  ·rename_i b;cases b
   ·obtain⟨v,h2,h⟩:=aP (show dP Γ s.sl y _ from h);exact⟨_,_,_,by simp only[h1,h2,aG],h⟩
   ·obtain⟨v,h2,h⟩:=aP (show dP Γ s.sl x _ from h);exact⟨_,_,_,by simp only[h1,h2,aG],h⟩
  ·exact h.elim
 case alloc t=>exact DB h
 case box t x=>
  obtain⟨v,h1,h⟩:=aP h;simp only[h1];exact GH h
 case build t parts=>
  obtain⟨v,h1,h⟩:=jY h;obtain⟨v,h2,h⟩:=Ch h;exact⟨_,_,_,by simp only[h1,h2,aG],h⟩
 case buildSlice t len parts=>
  obtain⟨v,h1,h⟩:=jY h;simp only[h1];exact tO h
 case load t x=>
  obtain⟨v,h1,h⟩:=aP h;obtain⟨v,h2,h⟩:=Au h;exact⟨_,_,_,by simp only[h1,h2,aG],h⟩
 case store t x y=>
  obtain⟨v,h1,h⟩:=aP h;obtain⟨u,h2,h⟩:=aP h;obtain⟨m,h3,h⟩:=Dy h;exact⟨_,_,_,by simp only[h1,h2,h3],h⟩
 case nilCheck x=>
  obtain⟨v,h1,h⟩:=aP h;obtain⟨v,h2,h⟩:=aN.1 h;exact⟨_,_,_,by simp only[h1,h2,aG],h⟩
 case binOp op t x y t'=>
  obtain⟨v,h1,h⟩:=aP h;obtain⟨u,h2,h⟩:=aP h;obtain⟨m,h3,h⟩:=F9 h;exact⟨_,_,_,by simp only[h1,h2,h3,aG],h⟩
 case unOp op t x=>
  obtain⟨v,h1,h⟩:=aP h;obtain⟨v,h2,h⟩:=HC h;exact⟨_,_,_,by simp only[h1,h2,aG],h⟩
 case convert src dst x=>
  obtain⟨v,h1,h⟩:=aP h;simp only[h1];split at h
  ·rename_i e hu;have hn:sQ P s.mem src dst v=none:=by
    unfold sQ;split
    ·rfl
    ·rw[hu]
   rw[hn];exact x9 h
  ·obtain⟨u,h2,h⟩:=E8 h;exact⟨_,_,_,by simp only[h2],h⟩
 case makeInterface t x=>
  obtain⟨v,h1,h⟩:=aP h;obtain⟨v,h2,h⟩:=aN.1 h;exact⟨_,_,_,by simp only[h1,h2,aG],h⟩
 case makeFunc fn first cap=>
  obtain⟨v,h1,h⟩:=gD h;obtain⟨v,h2,h⟩:=gD h;exact⟨_,_,_,by simp only[h1,h2],h⟩
 case makeSlice t l c=>
  obtain⟨v,h1,h⟩:=aP h;obtain⟨u,h2,h⟩:=aP h;simp only[h1,h2];exact EA h
 case slice t x lo hi mx=>
  obtain⟨v,h1,h⟩:=aP h;obtain⟨l,h2,h⟩:=o0 h;obtain⟨h',h3,h⟩:=o0 h;obtain⟨m,h4,h⟩:=o0 h;simp only[h1,h2,h3,h4];split at h
  ·rename_i e;obtain⟨u,h5,h⟩:=Ct h;exact⟨_,_,_,by simp only[e,h5,aG],h⟩
  ·exact h.elim
 case fieldAddr t x f=>
  obtain⟨v,h1,h⟩:=aP h;obtain⟨v,h2,h⟩:=wQ h;exact⟨_,_,_,by simp only[h1,h2,aG],h⟩
 case field t x f=>
  obtain⟨v,h1,h⟩:=aP h;obtain⟨v,h2,h⟩:=Db h;exact⟨_,_,_,by simp only[h1,h2,aG],h⟩
 case indexAddr t x ix=>
  obtain⟨v,h1,h⟩:=aP h;obtain⟨u,h2,h⟩:=aP h;obtain⟨m,h3,h⟩:=wT h;exact⟨_,_,_,by simp only[h1,h2,h3,aG],h⟩
 case index t x ix=>
  obtain⟨v,h1,h⟩:=aP h;obtain⟨u,h2,h⟩:=aP h;obtain⟨m,h3,h⟩:=Dj h;exact⟨_,_,_,by simp only[h1,h2,h3,aG],h⟩
 case typeAssert x xt t ok=>
  obtain⟨p,h1,h⟩:=aP h;obtain⟨v,h2,h⟩:=aN.1 h;exact⟨_,_,_,by simp only[h1,h2,aG],h⟩
 case extract x i=>
  obtain⟨v,h1,h⟩:=aP h;obtain⟨v,h2,h⟩:=aN.1 h;exact⟨_,_,_,by simp only[h1,h2,aG],h⟩
 case makeMap t r=>
  split at h
  ·exact⟨_,_,_,rfl,bF.1 h⟩
  ·exact h.elim
 case lookup t x ix ok=>
  obtain⟨v,h1,h⟩:=aP h;obtain⟨u,h2,h⟩:=aP h;obtain⟨m,h3,h⟩:=aN.1 h;exact⟨_,_,_,by simp only[h1,h2,h3,aG],h⟩
 case mapUpdate t x y z=>
  obtain⟨v,h1,h⟩:=aP h;obtain⟨u,h2,h⟩:=aP h;obtain⟨u',h3,h⟩:=aP h;obtain⟨m,h4,h⟩:=nI h;exact⟨_,_,_,by simp only[h1,h2,h3,h4],h⟩
 case range t x=>
  obtain⟨v,h1,h⟩:=aP h;obtain⟨⟨u,m,n⟩,h2,h⟩:=aN.1 h;exact⟨_,_,_,by simp only[h1,h2],bF.1 h⟩
 case entry x=>
  obtain⟨p,h1,h⟩:=aP h;obtain⟨v,h2,h⟩:=aN.1 h;exact⟨_,_,_,by simp only[h1,h2,aG],h⟩
 case next x b=>
  cases b
  ·obtain⟨v,h1,h⟩:=aP h;obtain⟨⟨u,m⟩,h2,h⟩:=aN.1 h;exact⟨_,_,_,by simp only[h1,h2],h⟩
  ·exact h.elim
 case insert t x y z=>
  obtain⟨v,h1,h⟩:=aP h;obtain⟨u,h2,h⟩:=aP h;obtain⟨u',h3,h⟩:=aP h;obtain⟨m,h4,h⟩:=nI h;exact⟨_,_,_,by simp only[h1,h2,h3,h4],h⟩
 case call c=>
  split at h
  ·rename_i hb;simp only[hb];exact AO h
  ·exact h.elim
def vW(s:St)(K:List (Nat × AV)->aA->Nat->Nat->Prop):Prop:=
 match s with
 | ⟨sl,mem,nx,nt⟩=>K sl mem nx nt
theorem fY{s:St}{K:List (Nat × AV)->aA->Nat->Nat->Prop}:vW s K↔K s.sl s.mem s.nx s.nt:=Iff.rfl
def gQ(s:St)(d:Option Nat)(v:AV)(mem:aA)(nx:Nat)(K:St->Prop):Prop:=
 vW s fun sl _ _ nt=>match d with
  | none=>K ⟨sl,mem,nx,nt⟩
  | some d=>gF (Nat.blt d nt) (y7 sl d v fun sl=>K ⟨sl,mem,nx,nt⟩)
theorem cL{s:St}{d:Option Nat}{v:AV}{mem:aA}{nx:Nat}{K:St->Prop}(h:gQ s d v mem nx K):∃s',bU s d v mem nx=some s'/\K s':=by
 cases d with
 | none=>exact⟨_,rfl,h⟩
 | some d=>
  obtain⟨h1,h⟩:=aQ.1 h;exact⟨_,by simp only[bU,h1],eG.1 h⟩
def jG(ops:List Oper)(sl:List (Nat × AV))(g:Option (Nat × Bool))(yes no:Prop):Prop:=
 match g with
 | none=>yes
 | some (j,want)=>match ops[j]? with
  | none=>no
  | some o=>match o.dst with
   | none=>no
   | some d=>match lk sl d with
    | some (.bool b)=>match want with
     | true=>D2 b yes no
     | false=>D2 b no yes
    | some (.tup [])=>no
    | _=>False
theorem m6{ops:List Oper}{s:St}{g:Option (Nat × Bool)}{yes no:Prop}(h:jG ops s.sl g yes no):(eR ops s g=some true/\yes)∨(eR ops s g=some false/\no):=by
 unfold jG at h;unfold eR;split at h
 ·exact .inl ⟨rfl,h⟩
 ·split at h
  ·rename_i e;exact .inr ⟨by simp only[e],h⟩
  ·rename_i e;simp only[e];split at h
   ·rename_i e;exact .inr ⟨by simp only[e],h⟩
   ·rename_i e;simp only[e];split at h
    ·rename_i b e;simp only[e];split at h
     ·cases b
      ·exact .inr ⟨rfl,h⟩
      ·exact .inl ⟨rfl,h⟩
     ·cases b
      ·exact .inl ⟨rfl,h⟩
      ·exact .inr ⟨rfl,h⟩
    ·rename_i e;exact .inr ⟨by simp only[e],h⟩
    ·exact h.elim
def A5(P:Program)(Γ:List (Nat × AV))(sl:List (Nat × AV))(f:Operand)(args:List Operand)(E:AV->Prop)(K:FuncId->List AV->Prop):Prop:=
 dP Γ sl f fun v=>match v with
  | .fn (.func F) first cap=>yD Γ sl args fun as=>match P.funcs[F]? with
   | some fn=>match fn.body with
    | some _=>match fn.name == "runtime.NumGoroutine" with
     | false=>match Nat.beq F YF with
      | false=>pY first as fun l=>pY l cap fun l=>K F l
      | true=>False
     | true=>False
    | none=>match qP fn with
     | true=>match first with
      | []=>match cap with
       | []=>match as with
        | [v]=>E v
        | _=>False
       | _=>False
      | _=>False
     | false=>False
   | none=>False
  | .yld id=>yD Γ sl args fun as=>K YF (.yld id::as)
  | _=>False
theorem EX{P:Program}{Γ:List (Nat × AV)}{s:St}{c:Call}{f:Operand}(hc:c.callee = .value f){E:AV->Prop}{K:FuncId->List AV->Prop}(h:A5 P Γ s.sl f c.args.toList E K) :
  (∃v,aW P Γ s (.call c)=some (v,s.mem,s.nx)/\E v)∨(aW P Γ s (.call c)=none/\∃F l,fR P Γ s (.call c)=some (F,l)/\K F l):=by
 unfold A5 at h;obtain⟨v,h1,h⟩:=aP h;split at h
 ·rename_i F first cap
  obtain⟨as,h2,h⟩:=gD h;split at h
  ·rename_i fn h3;split at h
   ·rename_i body h4;split at h
    ·rename_i h5;split at h
     ·rename_i h6;refine .inr ⟨?_,_,_,by simp only[fR,hc,h1,h2,h3,h4,h5,h6],cO.1 (cO.1 h)⟩;simp only[aW,hc,wS,h1];cases first<;>cases cap<;>simp only[h3,h4]
     ·exact h.elim
    ·exact h.elim
   ·rename_i h4;split at h
    ·rename_i h5;split at h
     ·split at h
      ·split at h
       ·exact .inl ⟨_,by simp only[aW,hc,wS,h1,h2,h3,h4,h5],h⟩
       ·exact h.elim
      ·exact h.elim
     ·exact h.elim
    ·exact h.elim
  ·exact h.elim
 ·rename_i id;obtain⟨as,h2,h⟩:=gD h;exact .inr ⟨by simp only[aW,hc,wS,h1],_,_,by simp only[fR,hc,h1,h2],h⟩
 ·exact h.elim
def IB(o:Option (AV × aA))(K:AV->aA->Prop)(A:Prop):Prop:=
 match o with
 | some (v,m)=>K v m
 | none=>A
def vQ(cl:Bool)(P:Program)(Γ:List (Nat × AV))(H:Hk)(sl:List (Nat × AV))(mem:aA)(nx:Nat)(op:Op)(K:AV->aA->Nat->Prop)(Kp:Value->aA->Nat->Prop):Prop:=
 match op with
 | .call c=>match c.callee with
  | .value f=>A5 P Γ sl f c.args.toList (fun v=>K v mem nx) fun F l=>H.call F l mem nx K Kp
  | _=>kN cl P Γ sl mem nx op K
 | .next x b=>match b with
  | false=>dP Γ sl x fun p=>match p with
   | .ptr id i j=>IB (nU mem (.ptr id i j)) (fun v m=>K v m nx) (H.call YF [.ptr id i j] mem nx K Kp)
   | _=>False
  | true=>False
 | _=>kN cl P Γ sl mem nx op K
theorem rF{cl:Bool}{P:Program}{Γ:List (Nat × AV)}{H:Hk}{s:St}{op:Op}{K:AV->aA->Nat->Prop}{Kp:Value->aA->Nat->Prop}(h:vQ cl P Γ H s.sl s.mem s.nx op K Kp) :
  (∃v m n,aW P Γ s op=some (v,m,n)/\K v m n)∨(aW P Γ s op=none/\∃F l,fR P Γ s op=some (F,l)/\H.call F l s.mem s.nx K Kp):=by
 unfold vQ at h;split at h
 ·split at h
  ·rename_i f hc;rcases EX hc h with⟨v,h1,h⟩|h
   ·exact .inl ⟨_,_,_,h1,h⟩
   ·exact .inr h
  ·exact .inl (fZ h)
 ·rename_i x b;cases b
  ·obtain⟨p,h1,h⟩:=aP (show dP Γ s.sl x _ from h);split at h
   ·rename_i id i j;unfold IB at h;split at h
    ·rename_i v m h2;exact .inl ⟨v,m,s.nx,by simp only[aW,h1,h2],h⟩
    ·rename_i h2;exact .inr ⟨by simp only[aW,h1,h2],_,_,by simp only[fR,h1],h⟩
   ·exact h.elim
  ·exact(show False from h).elim
 ·exact .inl (fZ h)
def xE(cl:Bool)(P:Program)(Γ:List (Nat × AV))(H:Hk)(sl:List (Nat × AV))(mem:aA)(nx:Nat)(op:Op)(K:AV->aA->Nat->Prop)(Kp:Value->aA->Nat->Prop):Prop:=
 match op with
 | .panic x=>dP Γ sl x fun v=>fL (quo v) fun y=>Kp y mem nx
 | op=>vQ cl P Γ H sl mem nx op K Kp
theorem Ew{cl:Bool}{P:Program}{Γ:List (Nat × AV)}{H:Hk}{s:St}{op:Op}{K:AV->aA->Nat->Prop}{Kp:Value->aA->Nat->Prop}(h:xE cl P Γ H s.sl s.mem s.nx op K Kp) :
  (∃v m n,aW P Γ s op=some (v,m,n)/\K v m n)∨(aW P Γ s op=none/\∃F l,fR P Γ s op=some (F,l)/\H.call F l s.mem s.nx K Kp) ∨
   (aW P Γ s op=none/\fR P Γ s op=none/\∃y,Ab Γ s op=some y/\Kp y s.mem s.nx):=by
 unfold xE at h;split at h
 ·obtain⟨v,h1,h⟩:=aP h;obtain⟨y,h2,h⟩:=aN.1 h;exact .inr (.inr ⟨rfl,rfl,y,by simp only[Ab,h1,h2],h⟩)
 ·rcases rF h with h|h
  ·exact .inl h
  ·exact .inr (.inl h)
def zO(cl:Bool)(P:Program)(Γ:List (Nat × AV))(H:Hk)(ops:List Oper):List Oper->St->(St->Prop)->(Value->St->Prop)->Prop
 | [],s,K,_=>K s
 | o::r,s,K,Kp=>vW s fun sl mem nx nt=>jG ops sl o.guard
   (xE cl P Γ H sl mem nx o.op (fun v mem nx=>gQ s o.dst v mem nx fun s'=>zO cl P Γ H ops r s' K Kp) fun x mem nx=>Kp x ⟨sl,mem,nx,nt⟩)
   (gQ s o.dst (.tup []) mem nx fun s'=>zO cl P Γ H ops r s' K Kp)
theorem wB{cl:Bool}{P:Program}{Γ:List (Nat × AV)}{H:Hk}{B:Nat}(hH:mX P Γ B H)(ops:List Oper):∀(l:List Oper) (s:St) (K K':St->Prop) (Kp Kp':Value->St->Prop),(∀s,K s->K' s)->(∀x s,Kp x s->Kp' x s)->zO cl P Γ H ops l s K Kp->mM P Γ (CL P Γ B) ops l s K' Kp'
 | [],s,K,K',Kp,Kp',hk,hp,h=>hk s h
 | o::r,s,K,K',Kp,Kp',hk,hp,h=>by
  simp only[zO] at h;simp only[mM];have h:=fY.1 h;rcases m6 h with⟨h1,h⟩|⟨h1,h⟩
  ·simp only[h1];rcases Ew h with⟨v,m,n,h2,h⟩|⟨h2,F,l,h3,h⟩|⟨h2,h3,y,h4,h⟩
   ·obtain⟨s',h4,h⟩:=cL h;simp only[h2,h4];exact wB hH ops r s' K K' Kp Kp' hk hp h
   ·simp only[h2,h3];refine(hH.call _ _ _ _ _ _ h).mono (fun v m n h=>?_) fun x m n h=>hp _ _ h
    obtain⟨s',h4,h⟩:=cL h;simp only[h4];exact wB hH ops r s' K K' Kp Kp' hk hp h
   ·simp only[h2,h3,h4];exact hp _ _ h
  ·obtain⟨s',h4,h⟩:=cL h;simp only[h1,h4];exact wB hH ops r s' K K' Kp Kp' hk hp h
def dB(f:Nat × AB->Bool):aA->(aA->Prop)->Prop
 | [],K=>K []
 | p::r,K=>match f p with
  | true=>dB f r fun l=>K (p::l)
  | false=>dB f r K
theorem bA{f:Nat × AB->Bool}:∀{m:aA} {K:aA->Prop},dB f m K↔K (m.filter f)
 | [],K=>Iff.rfl
 | p::r,K=>by
  simp only[dB,Kx];cases f p
  ·simpa using bA
  ·simpa using bA
def lD(cl:Bool)(P:Program)(Γ:List (Nat × AV))(ops:List Oper)(tr:List (List Nat))(base x:Nat)(mem:aA)(nx:Nat):List qK->Prop->Prop
 | [],K=>K
 | r::rs,K=>match mO r.i (T tr x) with
  | true=>lD cl P Γ ops tr base x mem nx rs K
  | false=>match r.want with
   | false=>lD cl P Γ ops tr base x mem nx rs K
   | true=>match ops[r.i]? with
    | none=>lD cl P Γ ops tr base x mem nx rs K
    | some o=>match kind P o.op with
     | .pure=>match still o.op with
      | true=>lD cl P Γ ops tr base x mem nx rs K
      | false=>dB (fun p=>BZ tr base ops.length r.i p.1) mem fun m=>kN cl P Γ r.sl m nx o.op fun v _ _=>match cl with
       | true=>gF (d7 v r.v) (lD cl P Γ ops tr base x mem nx rs K)
       | false=>v=r.v/\lD cl P Γ ops tr base x mem nx rs K
     | _=>lD cl P Γ ops tr base x mem nx rs K
theorem iC{cl:Bool}{P:Program}{Γ:List (Nat × AV)}{ops:List Oper}{tr:List (List Nat)}{base x:Nat}{s:St}:∀{recs:List qK} {K:Prop},lD cl P Γ ops tr base x s.mem s.nx recs K->GF P Γ ops tr base x s recs/\K
 | [],K,h=>⟨trivial,h⟩
 | r::rs,K,h=>by
  simp only[lD] at h;simp only[GF];split at h
  ·rename_i h1;obtain⟨h2,h3⟩:=iC h;exact⟨⟨fun e=>(by rw[h1] at e;cases e),h2⟩,h3⟩
  ·split at h
   ·rename_i h1;obtain⟨h2,h3⟩:=iC h;exact⟨⟨fun _ e=>(by rw[h1] at e;cases e),h2⟩,h3⟩
   ·split at h
    ·rename_i h1;obtain⟨h2,h3⟩:=iC h;exact⟨⟨fun _ _ o e=>(by rw[h1] at e;cases e),h2⟩,h3⟩
    ·rename_i o ho;split at h
     ·split at h
      ·rename_i h1;obtain⟨h2,h3⟩:=iC h;refine⟨⟨fun _ _ o' e _ e'=>?_,h2⟩,h3⟩;rw[ho] at e;cases e;rw[h1] at e';cases e'
      ·have h:=bA.1 h;obtain⟨v,m,n,h1,h⟩:=fZ (s:={ sl:=r.sl,mem:=bK tr base ops.length r.i s.mem,nx:=s.nx,nt:=s.nt }) h;have key:v=r.v/\lD cl P Γ ops tr base x s.mem s.nx rs K:=by
        cases cl
        ·exact h
        ·obtain⟨h2,h3⟩:=aQ.1 h;exact⟨iY h2,h3⟩
       obtain⟨h2,h3⟩:=iC key.2;refine⟨⟨fun _ _ o' e _ _=>?_,h2⟩,h3⟩;rw[ho] at e;cases e;exact⟨m,n,by rw[←key.1];exact h1⟩
     ·rename_i hk;obtain⟨h2,h3⟩:=iC h;refine⟨⟨fun _ _ o' e e'=>?_,h2⟩,h3⟩;rw[ho] at e;cases e;exact(hk e').elim
def lP(cl:Bool)(P:Program)(Γ:List (Nat × AV))(H:Hk)(ops:List Oper)(tr:List (List Nat))(base:Nat)(K:St->Prop)(Kp:Value->aA->Nat->Prop):List Nat->List qK->St->Prop
 | [],recs,s=>K s
 | i::r,recs,s=>match ops[i]? with
  | none=>False
  | some o=>vW s fun sl mem nx nt=>jG ops sl o.guard
   (match kind P o.op with
    | .pure=>match still o.op with
     | true=>kN cl P Γ sl [] nx o.op fun v _ _=>gQ s o.dst v mem nx fun s'=>lP cl P Γ H ops tr base K Kp r (⟨i,sl,true,v⟩::recs) s'
     | false=>dB (fun p=>BZ tr base ops.length i p.1) mem fun m=>kN cl P Γ sl m nx o.op fun v _ _=>gQ s o.dst v mem nx fun s'=>lP cl P Γ H ops tr base K Kp r (⟨i,sl,true,v⟩::recs) s'
    | .al=>gP (base+i) fun id=>kN cl P Γ sl [] id o.op fun v m _=>match m with
     | [(_,b)]=>gQ s o.dst v ((id,b)::mem) nx fun s'=>lP cl P Γ H ops tr base K Kp r (⟨i,sl,true,v⟩::recs) s'
     | _=>False
    | .eff=>dB (fun p=>BZ tr base ops.length i p.1) mem fun m=>vQ cl P Γ H sl m nx o.op (fun v m nx'=>dB (fun p=>!BZ tr base ops.length i p.1) mem fun rest=>dB (fun p=>!kF p.1 m) rest fun rest=>pY m rest fun m=>
      gQ s o.dst v m nx' fun s'=>lD cl P Γ ops tr base i m nx' recs (lP cl P Γ H ops tr base K Kp r recs s')) Kp)
   (gQ s o.dst (.tup []) mem nx fun s'=>lP cl P Γ H ops tr base K Kp r (⟨i,sl,false,.tup []⟩::recs) s')
theorem i8{cl:Bool}{P:Program}{Γ:List (Nat × AV)}{H:Hk}{B:Nat}(hH:mX P Γ B H)(ops:List Oper)(tr:List (List Nat))(base:Nat)(K K':St->Prop)(Kp Kp':Value->aA->Nat->Prop)(hk:∀s,K s->K' s)(hp:∀x m n,Kp x m n->Kp' x m n) :
  ∀(l:List Nat) (recs:List qK) (s:St),lP cl P Γ H ops tr base K Kp l recs s->hY P Γ (CL P Γ B) ops tr base K' Kp' l recs s
 | [],recs,s,h=>hk s h
 | i::r,recs,s,h=>by
  simp only[lP] at h;simp only[hY];split at h
  ·exact h.elim
  ·rename_i o ho;simp only[ho];have h:=fY.1 h;rcases m6 h with⟨h1,h⟩|⟨h1,h⟩
   ·simp only[h1];split at h
    ·rename_i hkd;simp only[hkd];split at h
     ·rename_i hst;obtain⟨v,m,n,h2,h⟩:=fZ (s:={ sl:=s.sl,mem:=[],nx:=s.nx,nt:=s.nt }) h;obtain⟨m',n',h2'⟩:=j0 (s:={ sl:=s.sl,mem:=[],nx:=s.nx,nt:=s.nt }) (s':={ s with mem:=bK tr base ops.length i s.mem }) hst rfl h2;obtain⟨s',h3,h⟩:=cL h;simp only[h2',h3];exact i8 hH ops tr base K K' Kp Kp' hk hp r _ s' h
     ·have h:=bA.1 h;obtain⟨v,m,n,h2,h⟩:=fZ (s:={ s with mem:=bK tr base ops.length i s.mem }) h;obtain⟨s',h3,h⟩:=cL h;simp only[h2,h3];exact i8 hH ops tr base K K' Kp Kp' hk hp r _ s' h
    ·rename_i hkd;simp only[hkd];have h:=bF.1 h;obtain⟨v,m,n,h2,h⟩:=fZ (s:={ s with mem:=[],nx:=base+i }) h;simp only[h2];split at h
     ·obtain⟨s',h3,h⟩:=cL h;simp only[h3];exact i8 hH ops tr base K K' Kp Kp' hk hp r _ s' h
     ·exact h.elim
    ·rename_i hkd;simp only[hkd];have h:=bA.1 h;rcases rF (s:={ s with mem:=bK tr base ops.length i s.mem }) h with⟨v,m,n,h2,h⟩|⟨h2,F,l,h3,h⟩
     ·simp only[h2];have h:=cO.1 (bA.1 (bA.1 h));obtain⟨s',h3,h⟩:=cL h;have h3:bU s o.dst v (m++kJ m (cP tr base ops.length i s.mem)) n=some s':=h3;simp only[h3];obtain⟨e1,e2,_⟩:=cW h3;have h:lD cl P Γ ops tr base i (m++kJ m (cP tr base ops.length i s.mem)) n recs (lP cl P Γ H ops tr base K Kp r recs s'):=h;rw[←e1,←e2] at h;obtain⟨h4,h⟩:=iC h;exact⟨h4,i8 hH ops tr base K K' Kp Kp' hk hp r _ s' h⟩
     ·rw[kE (s':=s) (fun x _=>by cases x<;>rfl)] at h3;simp only[h2,h3];refine(hH.call _ _ _ _ _ _ h).mono (fun v m n h=>?_) hp;have h:=cO.1 (bA.1 (bA.1 h));obtain⟨s',h3,h⟩:=cL h;have h3:bU s o.dst v (m++kJ m (cP tr base ops.length i s.mem)) n=some s':=h3;simp only[h3];obtain⟨e1,e2,_⟩:=cW h3;have h:lD cl P Γ ops tr base i (m++kJ m (cP tr base ops.length i s.mem)) n recs (lP cl P Γ H ops tr base K Kp r recs s'):=h;rw[←e1,←e2] at h;obtain⟨h4,h⟩:=iC h;exact⟨h4,i8 hH ops tr base K K' Kp Kp' hk hp r _ s' h⟩
   ·obtain⟨s',h3,h⟩:=cL h;simp only[h1,h3];exact i8 hH ops tr base K K' Kp Kp' hk hp r _ s' h
def HM(sl:List (Nat × AV))(id nt:Nat)(m:aA)(n:Nat)(Q:Exit->St->Prop):Prop:=
 fL (lk m id) fun b=>match b with
  | .loop _ _ _ _ _ st pd=>match st with
   | .busy=>False
   | _=>dB (fun p=>!Nat.beq p.1 id) m fun m=>match pd with
    | none=>Q .normal ⟨sl,m,n,nt⟩
    | some .ret=>Q .ret ⟨sl,m,n,nt⟩
    | some (.exit i)=>Q (.exit i) ⟨sl,m,n,nt⟩
    | some _=>False
  | _=>False
theorem Gb{s:St}{m:aA}{n:Nat}{Q:Exit->St->Prop}(h:HM s.sl s.nx s.nt m n Q):vV s Q m n:=by
 obtain⟨b,h1,h⟩:=aN.1 h;unfold vV;simp only[h1];cases b with
 | loop sl nt ps ca cb st pd=>
  cases st<;>first|exact h.elim|(simp only at h ⊢;have h:=bA.1 h;exact h)
 | _=>exact h.elim
theorem vV.mono{s:St}{m:aA}{n:Nat}{Q Q':Exit->St->Prop}(hq:∀e s,Q e s->Q' e s)(h:vV s Q m n):vV s Q' m n:=by
 unfold vV at h ⊢;split at h
 ·split at h
  ·exact h
  ·split at h
   ·exact hq _ _ h
   ·exact hq _ _ h
   ·exact hq _ _ h
   ·exact h
 ·exact h
def oF(cl:Bool)(P:Program)(Γ:List (Nat × AV))(H:Hk):Code->St->(Exit->St->Prop)->Prop
 | .skip,s,Q=>Q .normal s
 | .seq x y,s,Q=>oF cl P Γ H x s fun e s'=>match e with
  | .normal=>oF cl P Γ H y s' Q
  | e=>Q e s'
 | .cond c x y,s,Q=>vW s fun sl _ _ _=>dP Γ sl c fun v=>match v with
  | .bool b=>D2 b (oF cl P Γ H x s Q) (oF cl P Γ H y s Q)
  | _=>False
 | .block id c,s,Q=>oF cl P Γ H c s fun e s'=>match e with
  | .exit i=>match Nat.beq i id with
   | true=>Q .normal s'
   | false=>Q (.exit i) s'
  | e=>Q e s'
 | .loop c,s,Q=>H.loop c s Q
 | .label _,s,Q=>Q .normal s
 | .scope c,s,Q=>oF cl P Γ H c s fun e s'=>match e with
  | .goto _=>False
  | e=>Q e s'
 | .exit i,s,Q=>Q (.exit i) s
 | .ret,s,Q=>Q .ret s
 | .region _ ops draw,s,Q=>match draw with
  | false=>zO cl P Γ H ops.toList ops.toList s (fun s'=>Q .normal s') fun x s'=>Q (.panic [pe x]) s'
  | true=>match P.follows .mixedOrders with
   | true=>match rZ P ops.toList (nT P ops.toList ops.toList.length [] (oH ops.toList.length)) with
    | true=>vW s fun sl mem nx nt=>gP (nx+ops.toList.length) fun n=>lZ (nT P ops.toList ops.toList.length [] (oH ops.toList.length)) fun ord=>lP cl P Γ H ops.toList (Bs ops.toList []) nx (fun s'=>Q .normal s') (fun x m n=>Q (.panic [pe x]) ⟨lX ops.toList sl,m,n,nt⟩) ord [] ⟨sl,mem,n,nt⟩
    | false=>False
   | false=>False
 | .rangeFunc g ps ca cb,s,Q=>vW s fun sl mem nx nt=>dP Γ sl g fun v=>match v with
  | .fn (.func G) first cap=>match P.funcs[G]? with
   | some fn=>match fn.body with
    | some _=>match fn.name == "runtime.NumGoroutine" with
     | false=>match Nat.beq G YF with
      | false=>gP (nx+1) fun n=>pY first (.yld nx::cap) fun l=>H.call G l ((nx,.loop sl nt ps ca cb .ready none)::mem) n (fun _ m n=>HM sl nx nt m n Q) fun x m n=>Q (.panic [pe x]) ⟨sl,m,n,nt⟩
      | true=>False
     | true=>False
    | none=>False
   | none=>False
  | _=>False
 | _,_,_=>False
theorem Gw{cl:Bool}{P:Program}{Γ:List (Nat × AV)}{H:Hk}{B:Nat}(hH:mX P Γ B H):∀(c:Code) (s:St) (Q Q':Exit->St->Prop),(∀e s,Q e s->Q' e s)->oF cl P Γ H c s Q->tE P Γ (CL P Γ B) c s Q':=by
 intro c
 induction c with
 | skip=>exact fun s Q Q' hq h=>hq _ _ h
 | label l=>exact fun s Q Q' hq h=>hq _ _ h
 | scope c ih=>
  intro s Q Q' hq h;simp only[oF] at h;simp only[tE];refine ih s _ _ (fun e s' h=>?_) h;cases e with
  | goto l=>exact h
  | normal=>exact hq _ _ h
  | exit i=>exact hq _ _ h
  | ret=>exact hq _ _ h
  | panic c=>exact hq _ _ h
  | outgrown=>exact hq _ _ h
 | exit i=>exact fun s Q Q' hq h=>hq _ _ h
 | ret=>exact fun s Q Q' hq h=>hq _ _ h
 | loop c ih=>exact fun s Q Q' hq h=>(hH.loop c s Q h).mono hq
 | seq x y ihx ihy=>
  intro s Q Q' hq h;simp only[oF] at h;simp only[tE];refine ihx s _ _ (fun e s' h=>?_) h;cases e with
  | normal=>exact ihy s' Q Q' hq h
  | exit i=>exact hq _ _ h
  | goto l=>exact hq _ _ h
  | ret=>exact hq _ _ h
  | panic c=>exact hq _ _ h
  | outgrown=>exact hq _ _ h
 | cond c x y ihx ihy=>
  intro s Q Q' hq h;simp only[oF] at h;simp only[tE];have h:=fY.1 h;obtain⟨v,h1,h⟩:=aP h;simp only[h1];split at h
  ·rename_i b;cases b
   ·exact ihy s Q Q' hq h
   ·exact ihx s Q Q' hq h
  ·exact h.elim
 | block id c ih=>
  intro s Q Q' hq h;simp only[oF] at h;simp only[tE];refine ih s _ _ (fun e s' h=>?_) h;cases e with
  | exit i=>
   simp only at h ⊢;split at h
   ·rename_i e;simp only[e];exact hq _ _ h
   ·rename_i e;simp only[e];exact hq _ _ h
  | normal=>exact hq _ _ h
  | goto l=>exact hq _ _ h
  | ret=>exact hq _ _ h
  | panic c=>exact hq _ _ h
  | outgrown=>exact hq _ _ h
 | region id ops draw=>
  intro s Q Q' hq h;cases draw with
  | false=>
   simp only[oF] at h;simp only[tE];exact wB hH _ _ _ _ _ _ _ (fun s h=>hq _ _ h) (fun x s h=>hq _ _ h) h
  | true=>
   simp only[oF] at h;simp only[tE];split at h
   ·rename_i hmix;simp only[hmix];split at h
    ·rename_i hok;simp only[zH,hok];exact i8 hH _ _ _ _ _ _ _ (fun s h=>hq _ _ h) (fun x m n h=>hq _ _ h) _ _ _ (fA.1 (bF.1 (fY.1 h)))
    ·exact h.elim
   ·exact h.elim
 | rangeFunc g ps ca cb=>
  intro s Q Q' hq h;simp only[oF] at h;obtain⟨v,h1,h⟩:=aP (s:=s) (fY.1 h);simp only[tE,h1];split at h<;>first|exact h.elim|skip
  split at h<;>first|exact h.elim|skip
  rename_i fn hf;split at h<;>first|exact h.elim|skip
  rename_i c0 hb;split at h<;>first|exact h.elim|skip
  rename_i hn;split at h<;>first|exact h.elim|skip
  rename_i hG;simp only[hf,hb,hn,hG];exact(hH.call _ _ _ _ _ _ (cO.1 (bF.1 h))).mono (fun _ m n h=>(Gb h).mono hq) fun x m n h=>hq _ _ h
 | _=>intro s Q Q' hq h;simp only[oF] at h
theorem bP{cl:Bool}{P:Program}{Γ:List (Nat × AV)}{H:Hk}{B:Nat}(hH:mX P Γ B H)(c:Code)(s:St)(Q:Exit->St->Prop)(h:oF cl P Γ H c s Q):cJ P Γ B c s Q:=
 oY EH c s Q (Gw hH c s Q Q (fun _ _ h=>h) h)
def BY:Nat->List AV->(List (Nat × AV)->Prop)->Prop
 | _,[],K=>K []
 | k,a::r,K=>gP k fun k=>BY (k+1) r fun l=>K ((k,a)::l)
theorem uD:∀{k:Nat} {l:List AV} {K:List (Nat × AV)->Prop},BY k l K↔K (xO k l)
 | k,[],K=>Iff.rfl
 | k,a::r,K=>by simp only[BY,xO,bF,uD]
def l7(ntmps:Nat)(args:List AV)(mem:aA)(nx:Nat)(K:St->Prop):Prop:=
 BY 0 args fun sl=>gF (Nat.ble args.length ntmps) (gP ntmps fun nt=>K ⟨sl,mem,nx,nt⟩)
theorem e7{ntmps:Nat}{args:List AV}{mem:aA}{nx:Nat}{K:St->Prop}(h:l7 ntmps args mem nx K):K (enter ntmps args mem nx):=by
 obtain⟨h1,h⟩:=aQ.1 (uD.1 h);have h:=bF.1 h;have h1:=JB h1;have e:enter ntmps args mem nx=⟨xO 0 args,mem,nx,ntmps⟩:=by simp only[enter];congr 1;omega
 rw[e];exact h
def A9(P:Program)(s:St):List ResultVar->(List AV->Prop)->Prop
 | [],K=>K []
 | .tmp t::r,K=>fL (lk s.sl t) fun v=>A9 P s r fun l=>K (v::l)
 | .cell a t::r,K=>fL (lk s.sl a) fun p=>zJ P s.mem t p fun v=>A9 P s r fun l=>K (v::l)
theorem vU{P:Program}{s:St}:∀{rs:List ResultVar} {K:List AV->Prop},A9 P s rs K->∃l,lV P s rs=some l/\K l
 | [],K,h=>⟨[],rfl,h⟩
 | .tmp t::r,K,h=>by
  obtain⟨v,h1,h⟩:=aN.1 h;obtain⟨l,h2,h⟩:=vU h;exact⟨_,by simp only[lV,h1,h2],h⟩
 | .cell a t::r,K,h=>by
  obtain⟨p,h1,h⟩:=aN.1 h;obtain⟨v,h2,h⟩:=Au h;obtain⟨l,h3,h⟩:=vU h;exact⟨_,by simp only[lV,h1,h2,h3],h⟩
def wW(P:Program)(rs:List ResultVar)(s:St)(K:AV->Prop):Prop:=
 A9 P s rs fun l=>match l with
  | [v]=>K v
  | []=>K (.tup [])
  | a::b::r=>K (.tup (a::b::r))
theorem w5{P:Program}{rs:List ResultVar}{s:St}{K:AV->Prop}(h:wW P rs s K):∃v,p8 P rs s=some v/\K v:=by
 obtain⟨l,h1,h⟩:=vU h;unfold p8;rw[h1]
 match l,h with
 | [v],h=>exact⟨_,rfl,h⟩
 | [],h=>exact⟨_,rfl,h⟩
 | a::b::r,h=>exact⟨_,rfl,h⟩
def Fz(P:Program)(rs:List ResultVar)(Q:AV->aA->Nat->Prop):Exit->St->Prop:=fun e s=>
 match e with
 | .normal=>vW s fun _ mem nx _=>wW P rs s fun r=>Q r mem nx
 | .ret=>vW s fun _ mem nx _=>wW P rs s fun r=>Q r mem nx
 | _=>False
theorem Ci{P:Program}{rs:List ResultVar}{Q:AV->aA->Nat->Prop}{e:Exit}{s:St}(h:Fz P rs Q e s):CQ P rs Q e s:=by
 cases e with
 | normal=>
  obtain⟨v,h1,h⟩:=w5 (show wW P rs s _ from h);simp only[CQ,h1];exact h
 | ret=>
  obtain⟨v,h1,h⟩:=w5 (show wW P rs s _ from h);simp only[CQ,h1];exact h
 | _=>exact(show False from h).elim
theorem jD{P:Program}{Γ:List (Nat × AV)}{F:FuncId}{fn:Func}{c:Code}{args:List AV}{mem:aA}{nx:Nat}{Q:AV->aA->Nat->Prop}(hΓ:∀p∈Γ,NN p.2)(hf:P.funcs[F]? = some fn)(hb:fn.body=some c)
  (h:l7 fn.ntmps args mem nx fun s=>oF false P Γ (BK P Γ nx) c s (Fz P fn.results.toList (z7 nx Q))) (hF:Nat.beq F YF=false:=by rfl):aC P Γ F args mem nx Q:=
 (lY hf hb ((bP kP _ _ _ (e7 h)).mono fun _ _ h=>Ci h) hF).turn hΓ
def yK(P:Program)(rs:List ResultVar)(Q:AV->aA->Nat->Prop)(Qp:Value->aA->Nat->Prop):Exit->St->Prop:=fun e s=>
 match e with
 | .normal=>vW s fun _ mem nx _=>wW P rs s fun r=>Q r mem nx
 | .ret=>vW s fun _ mem nx _=>wW P rs s fun r=>Q r mem nx
 | .panic [⟨x,false,false⟩]=>vW s fun _ mem nx _=>Qp x mem nx
 | _=>False
theorem vD{P:Program}{rs:List ResultVar}{Q:AV->aA->Nat->Prop}{Qp:Value->aA->Nat->Prop}{e:Exit}{s:St}(h:yK P rs Q Qp e s):qU P rs Q Qp e s:=by
 cases e with
 | normal=>
  obtain⟨v,h1,h⟩:=w5 (show wW P rs s _ from h);simp only[qU,h1];exact h
 | ret=>
  obtain⟨v,h1,h⟩:=w5 (show wW P rs s _ from h);simp only[qU,h1];exact h
 | panic ch=>
  unfold yK at h;split at h
  ·rename_i e;cases e
  ·rename_i e;cases e
  ·rename_i e;cases e;exact h
  ·exact h.elim
 | _=>exact(show False from h).elim
end Go.Ax
