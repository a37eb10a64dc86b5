/- A part of the proof. -/
import Derived.Test.YtidjhgajglebnaaGreatDoorAx5
set_option linter.unusedVariables false
set_option linter.unusedSimpArgs false
namespace Go.Ax
open Go
def Pf(cl:Bool)(P:Program)(mem:aQ)(t:TypeId)(x y:AV)(K:AV->aQ->Prop):Prop:=
 match P.underlying t with
 | some (.slice e)=>match gY P e with
  | some n=>match x with
   | .sl id 0 len=>match lk mem id with
    | some (.row t' sz' xs)=>SE cl mem n y fun ys=>qX (Nat.blt 0 n && (Nat.beq sz' n && (Nat.ble ys.length len && Nat.ble len xs.length)))
      (uR cl (xs.drop ys.length) fun zs=>SB cl ys zs fun zs=>Am cl ys.length fun l=>Ob mem id (.row t' sz' zs) fun m=>K (.int .i64 l) m)
    | _=>False
   | _=>False
  | none=>False
 | _=>False
theorem TD{cl:Bool}{P:Program}{mem:aQ}{t:TypeId}{x y:AV}{K:AV->aQ->Prop}(h:Pf cl P mem t x y K):∃v m,JW P mem t x y=some (v,m)/\K v m:=by
 unfold Pf at h;unfold JW;split at h
 ·rename_i e hu;simp only[hu];split at h
  ·rename_i n hn;simp only[hn];split at h
   ·split at h
    ·rename_i hid;obtain⟨ys,h4,h⟩:=Pc h;obtain⟨h5,h⟩:=cH.1 h;rw[Yk] at h5;exact⟨_,_,by simp only[h5.1,hid,h4,h5.2],nH.1 (i9.1 (J0.1 (jC.1 h)))⟩
    ·exact h.elim
   ·exact h.elim
  ·exact h.elim
 ·exact h.elim
def Ka(P:Program)(mem:aQ)(t:TypeId)(x:AV)(K:aQ->Prop):Prop:=
 match P.underlying t with
 | some (.slice e)=>match oF P e with
  | some z=>match x with
   | .sl id off len=>match lk mem id with
    | some (.row t' sz xs)=>qX (mJ z && (Nat.beq z.cells.length sz && (Nat.blt 0 sz && (Nat.blt 0 len && Nat.ble (off+len) xs.length))))
      (Ob mem id (.row t' sz (xs.take off++(List.replicate len z++xs.drop (off+len)))) fun m=>K m)
    | _=>False
   | _=>False
  | none=>False
 | _=>False
theorem Q7{P:Program}{mem:aQ}{t:TypeId}{x:AV}{K:aQ->Prop}(h:Ka P mem t x K):∃m,Em P mem t x=some m/\K m:=by
 unfold Ka at h;unfold Em;split at h
 ·rename_i e hu;simp only[hu];split at h
  ·rename_i z hz;simp only[hz];split at h
   ·split at h
    ·rename_i hid;obtain⟨h5,h⟩:=cH.1 h;exact⟨_,by simp only[hid,h5],nH.1 h⟩
    ·exact h.elim
   ·exact h.elim
  ·exact h.elim
 ·exact h.elim
def DM(cl:Bool)(P:Program)(Γ:List (Nat × AV))(sl:List (Nat × AV))(mem:aQ)(nx:Nat)(b:Builtin)(args:List Operand)(ts:List TypeId)(K:AV->aQ->Nat->Prop):Prop:=
 match b with
 | .len=>match args,ts with
  | [x],[t]=>nU Γ sl x fun a=>opt (TA P mem t a) fun v=>match v with
   | .int k n=>tW cl k n fun v=>K v mem nx
   | _=>False
  | _,_=>False
 | .append=>match args,ts with
  | [x,y],[t,u]=>nU Γ sl x fun a=>nU Γ sl y fun b=>HC cl P mem nx t u a b K
  | _,_=>False
 | .min=>If Γ sl args fun l=>match l with
  | .int k x::r=>opt (NV x r) fun m=>tW cl k m fun v=>K v mem nx
  | _=>False
 | .max=>If Γ sl args fun l=>match l with
  | .int k x::r=>opt (Mz x r) fun m=>tW cl k m fun v=>K v mem nx
  | _=>False
 | .unsafeSliceData=>match args,ts with
  | [x],[_]=>nU Γ sl x fun a=>opt (tV a) fun v=>K v mem nx
  | _,_=>False
 | .unsafeString=>match args,ts with
  | [x,y],[t,_]=>nU Γ sl x fun a=>nU Γ sl y fun b=>match sB P mem t a b with
   | some (.str l,m)=>uR cl l fun l=>EZ m fun m=>K (.str l) m nx
   | _=>False
  | _,_=>False
 | .copy=>match args,ts with
  | [x,y],[t,_]=>nU Γ sl x fun a=>nU Γ sl y fun b=>Pf cl P mem t a b fun v m=>K v m nx
  | _,_=>False
 | .clear=>match args,ts with
  | [x],[t]=>nU Γ sl x fun a=>Ka P mem t a fun m=>K (.tup []) m nx
  | _,_=>False
 | _=>False
theorem LM{cl:Bool}{P:Program}{Γ:List (Nat × AV)}{s:St}{b:Builtin}{args:List Operand}{ts:List TypeId}{K:AV->aQ->Nat->Prop}(h:DM cl P Γ s.sl s.mem s.nx b args ts K) :
  ∃v m n,eO P Γ s b args ts=some (v,m,n)/\K v m n:=by
 unfold DM at h;split at h
 ·split at h
  ·obtain⟨a,h1,h⟩:=cQ h;obtain⟨v,h2,h⟩:=cM.1 h;split at h
   ·exact⟨_,_,_,by simp only[eO,h1,h2,bQ],oU.1 h⟩
   ·exact h.elim
  ·exact h.elim
 ·split at h
  ·obtain⟨a,h1,h⟩:=cQ h;obtain⟨b,h2,h⟩:=cQ h;obtain⟨v,m,n,h3,h⟩:=N5 h;exact⟨_,_,_,by simp only[eO,h1,h2];exact h3,h⟩
  ·exact h.elim
 ·obtain⟨l,h1,h⟩:=qK h;split at h
  ·obtain⟨m,h2,h⟩:=cM.1 h;exact⟨_,_,_,by simp only[eO,h1,h2],oU.1 h⟩
  ·exact h.elim
 ·obtain⟨l,h1,h⟩:=qK h;split at h
  ·obtain⟨m,h2,h⟩:=cM.1 h;exact⟨_,_,_,by simp only[eO,h1,h2],oU.1 h⟩
  ·exact h.elim
 ·split at h
  ·obtain⟨a,h1,h⟩:=cQ h;obtain⟨v,h2,h⟩:=cM.1 h;exact⟨_,_,_,by simp only[eO,h1,h2,bQ],h⟩
  ·exact h.elim
 ·split at h
  ·obtain⟨a,h1,h⟩:=cQ h;obtain⟨b,h2,h⟩:=cQ h;split at h
   ·rename_i l m h3;exact⟨_,_,_,by simp only[eO,h1,h2,h3],y9.1 (jC.1 h)⟩
   ·exact h.elim
  ·exact h.elim
 ·split at h
  ·obtain⟨a,h1,h⟩:=cQ h;obtain⟨b,h2,h⟩:=cQ h;obtain⟨v,m,h3,h⟩:=TD h;exact⟨_,_,_,by simp only[eO,h1,h2,h3],h⟩
  ·exact h.elim
 ·split at h
  ·obtain⟨a,h1,h⟩:=cQ h;obtain⟨m,h3,h⟩:=Q7 h;exact⟨_,_,_,by simp only[eO,h1,h3],h⟩
  ·exact h.elim
 ·exact h.elim
def wL(cl:Bool)(P:Program)(Γ:List (Nat × AV))(sl:List (Nat × AV))(mem:aQ)(nx:Nat)(op:Op)(K:AV->aQ->Nat->Prop):Prop:=
 match op with
 | .move x=>nU Γ sl x fun v=>K v mem nx
 | .assign x=>nU Γ sl x fun v=>K v mem nx
 | .pick c a b=>nU Γ sl c fun c=>match c with
  | .bool c=>RR c (nU Γ sl a fun v=>K v mem nx) (nU Γ sl b fun v=>K v mem nx)
  | _=>False
 | .alloc t=>Kg P mem nx t K
 | .box t x=>nU Γ sl x fun v=>W1 P mem nx t v K
 | .build t parts=>AS Γ sl parts.toList fun ps=>LG P t ps fun v=>K v mem nx
 | .buildSlice t len parts=>AS Γ sl parts.toList fun ps=>wB P mem nx t len ps K
 | .load t x=>nU Γ sl x fun p=>Mj P mem t p fun v=>K v mem nx
 | .store t x y=>nU Γ sl x fun p=>nU Γ sl y fun v=>Kk P mem t p v fun m=>K (.tup []) m nx
 | .nilCheck x=>nU Γ sl x fun p=>opt (SP p) fun v=>K v mem nx
 | .binOp op t x y _=>nU Γ sl x fun a=>nU Γ sl y fun b=>Ua cl P op t x y a b fun v=>K v mem nx
 | .unOp op _ x=>nU Γ sl x fun a=>YL cl op a fun v=>K v mem nx
 | .convert src dst x=>nU Γ sl x fun a=>match P.underlying dst with
  | some (.slice _)=>Bh cl P mem nx src dst a K
  | _=>RN cl P mem src dst a fun v=>K v mem nx
 | .makeInterface t x=>nU Γ sl x fun a=>opt (HO P t a) fun v=>K v mem nx
 | .makeFunc fn first cap=>If Γ sl first.toList fun l1=>If Γ sl cap.toList fun l2=>K (.fn fn l1 l2) mem nx
 | .makeSlice t l c=>nU Γ sl l fun a=>nU Γ sl c fun b=>IW cl P mem nx t a b K
 | .slice t x lo hi mx=>nU Γ sl x fun a=>Gp Γ sl lo fun l=>Gp Γ sl hi fun h=>Gp Γ sl mx fun m=>match !m.isSome || h.isSome with
  | true=>KD cl P mem t a l h m fun v=>K v mem nx
  | false=>False
 | .fieldAddr t x f=>nU Γ sl x fun p=>zG P t f p fun v=>K v mem nx
 | .field t x f=>nU Γ sl x fun p=>LO P t f p fun v=>K v mem nx
 | .indexAddr t x ix=>nU Γ sl x fun p=>nU Γ sl ix fun i=>zB cl P mem t p i fun v=>K v mem nx
 | .index t x ix=>nU Γ sl x fun p=>nU Γ sl ix fun i=>KG cl P t p i fun v=>K v mem nx
 | .extract x i=>nU Γ sl x fun p=>opt (Ah p i) fun v=>K v mem nx
 | .typeAssert x _ t ok=>nU Γ sl x fun p=>opt (Cp P t ok p) fun v=>K v mem nx
 | .makeMap _ reserve=>match reserve with
  | none=>rK (nx+1) fun n=>K (.mp nx) ((nx,.mapb [])::mem) n
  | some _=>False
 | .lookup t x ix ok=>nU Γ sl x fun p=>nU Γ sl ix fun i=>opt (xG P mem t p i ok) fun v=>K v mem nx
 | .mapUpdate t x y z=>nU Γ sl x fun p=>nU Γ sl y fun k=>nU Γ sl z fun v=>tJ P mem t p k v fun m=>K (.tup []) m nx
 | .insert t x y z=>nU Γ sl x fun p=>nU Γ sl y fun k=>nU Γ sl z fun v=>tJ P mem t p k v fun m=>K (.tup []) m nx
 | .call c=>match c.callee with
  | .builtin b=>DM cl P Γ sl mem nx b c.args.toList c.argTypes.toList K
  | _=>False
 | _=>False
theorem pG{cl:Bool}{P:Program}{Γ:List (Nat × AV)}{s:St}{op:Op}{K:AV->aQ->Nat->Prop}(h:wL cl P Γ s.sl s.mem s.nx op K):∃v m n,dA P Γ s op=some (v,m,n)/\K v m n:=by
 cases op<;>simp only[wL] at h<;>simp only[dA]<;>first|exact h.elim|skip
 case move x=>
  obtain⟨v,h1,h⟩:=cQ h;exact⟨_,_,_,by simp only[h1,bQ],h⟩
 case assign x=>
  obtain⟨v,h1,h⟩:=cQ h;exact⟨_,_,_,by simp only[h1,bQ],h⟩
 case pick c x y=>
  obtain⟨v,h1,h⟩:=cQ h;split at h
  ·rename_i b;cases b
   ·obtain⟨v,h2,h⟩:=cQ (show nU Γ s.sl y _ from h);exact⟨_,_,_,by simp only[h1,h2,bQ],h⟩
   ·obtain⟨v,h2,h⟩:=cQ (show nU Γ s.sl x _ from h);exact⟨_,_,_,by simp only[h1,h2,bQ],h⟩
  ·exact h.elim
 case alloc t=>exact PU h
 case box t x=>
  obtain⟨v,h1,h⟩:=cQ h;simp only[h1];exact Ul h
 case build t parts=>
  obtain⟨v,h1,h⟩:=wR h;obtain⟨v,h2,h⟩:=O7 h;exact⟨_,_,_,by simp only[h1,h2,bQ],h⟩
 case buildSlice t len parts=>
  obtain⟨v,h1,h⟩:=wR h;simp only[h1];exact FK h
 case load t x=>
  obtain⟨v,h1,h⟩:=cQ h;obtain⟨v,h2,h⟩:=MS h;exact⟨_,_,_,by simp only[h1,h2,bQ],h⟩
 case store t x y=>
  obtain⟨v,h1,h⟩:=cQ h;obtain⟨u,h2,h⟩:=cQ h;obtain⟨m,h3,h⟩:=RJ h;exact⟨_,_,_,by simp only[h1,h2,h3],h⟩
 case nilCheck x=>
  obtain⟨v,h1,h⟩:=cQ h;obtain⟨v,h2,h⟩:=cM.1 h;exact⟨_,_,_,by simp only[h1,h2,bQ],h⟩
 case binOp op t x y t'=>
  obtain⟨v,h1,h⟩:=cQ h;obtain⟨u,h2,h⟩:=cQ h;obtain⟨m,h3,h⟩:=Ur h;exact⟨_,_,_,by simp only[h1,h2,h3,bQ],h⟩
 case unOp op t x=>
  obtain⟨v,h1,h⟩:=cQ h;obtain⟨v,h2,h⟩:=W0 h;exact⟨_,_,_,by simp only[h1,h2,bQ],h⟩
 case convert src dst x=>
  obtain⟨v,h1,h⟩:=cQ h;simp only[h1];split at h
  ·rename_i e hu;have hn:DE P s.mem src dst v=none:=by
    unfold DE;split
    ·rfl
    ·rw[hu]
   rw[hn];exact IL h
  ·obtain⟨u,h2,h⟩:=Rn h;exact⟨_,_,_,by simp only[h2],h⟩
 case makeInterface t x=>
  obtain⟨v,h1,h⟩:=cQ h;obtain⟨v,h2,h⟩:=cM.1 h;exact⟨_,_,_,by simp only[h1,h2,bQ],h⟩
 case makeFunc fn first cap=>
  obtain⟨v,h1,h⟩:=qK h;obtain⟨v,h2,h⟩:=qK h;exact⟨_,_,_,by simp only[h1,h2],h⟩
 case makeSlice t l c=>
  obtain⟨v,h1,h⟩:=cQ h;obtain⟨u,h2,h⟩:=cQ h;simp only[h1,h2];exact TG h
 case slice t x lo hi mx=>
  obtain⟨v,h1,h⟩:=cQ h;obtain⟨l,h2,h⟩:=BV h;obtain⟨h',h3,h⟩:=BV h;obtain⟨m,h4,h⟩:=BV h;simp only[h1,h2,h3,h4];split at h
  ·rename_i e;obtain⟨u,h5,h⟩:=PN h;exact⟨_,_,_,by simp only[e,h5,bQ],h⟩
  ·exact h.elim
 case fieldAddr t x f=>
  obtain⟨v,h1,h⟩:=cQ h;obtain⟨v,h2,h⟩:=Hx h;exact⟨_,_,_,by simp only[h1,h2,bQ],h⟩
 case field t x f=>
  obtain⟨v,h1,h⟩:=cQ h;obtain⟨v,h2,h⟩:=Q8 h;exact⟨_,_,_,by simp only[h1,h2,bQ],h⟩
 case indexAddr t x ix=>
  obtain⟨v,h1,h⟩:=cQ h;obtain⟨u,h2,h⟩:=cQ h;obtain⟨m,h3,h⟩:=HY h;exact⟨_,_,_,by simp only[h1,h2,h3,bQ],h⟩
 case index t x ix=>
  obtain⟨v,h1,h⟩:=cQ h;obtain⟨u,h2,h⟩:=cQ h;obtain⟨m,h3,h⟩:=PW h;exact⟨_,_,_,by simp only[h1,h2,h3,bQ],h⟩
 case typeAssert x xt t ok=>
  obtain⟨p,h1,h⟩:=cQ h;obtain⟨v,h2,h⟩:=cM.1 h;exact⟨_,_,_,by simp only[h1,h2,bQ],h⟩
 case extract x i=>
  obtain⟨v,h1,h⟩:=cQ h;obtain⟨v,h2,h⟩:=cM.1 h;exact⟨_,_,_,by simp only[h1,h2,bQ],h⟩
 case makeMap t r=>
  split at h
  ·exact⟨_,_,_,rfl,eJ.1 h⟩
  ·exact h.elim
 case lookup t x ix ok=>
  obtain⟨v,h1,h⟩:=cQ h;obtain⟨u,h2,h⟩:=cQ h;obtain⟨m,h3,h⟩:=cM.1 h;exact⟨_,_,_,by simp only[h1,h2,h3,bQ],h⟩
 case mapUpdate t x y z=>
  obtain⟨v,h1,h⟩:=cQ h;obtain⟨u,h2,h⟩:=cQ h;obtain⟨u',h3,h⟩:=cQ h;obtain⟨m,h4,h⟩:=A8 h;exact⟨_,_,_,by simp only[h1,h2,h3,h4],h⟩
 case insert t x y z=>
  obtain⟨v,h1,h⟩:=cQ h;obtain⟨u,h2,h⟩:=cQ h;obtain⟨u',h3,h⟩:=cQ h;obtain⟨m,h4,h⟩:=A8 h;exact⟨_,_,_,by simp only[h1,h2,h3,h4],h⟩
 case call c=>
  split at h
  ·rename_i hb;simp only[hb];exact LM h
  ·exact h.elim
def Fg(s:St)(K:List (Nat × AV)->aQ->Nat->Nat->Prop):Prop:=
 match s with
 | ⟨sl,mem,nx,nt⟩=>K sl mem nx nt
theorem pF{s:St}{K:List (Nat × AV)->aQ->Nat->Nat->Prop}:Fg s K↔K s.sl s.mem s.nx s.nt:=Iff.rfl
def o9(s:St)(d:Option Nat)(v:AV)(mem:aQ)(nx:Nat)(K:St->Prop):Prop:=
 Fg s fun sl _ _ nt=>match d with
  | none=>K ⟨sl,mem,nx,nt⟩
  | some d=>qX (Nat.blt d nt) (Ob sl d v fun sl=>K ⟨sl,mem,nx,nt⟩)
theorem f9{s:St}{d:Option Nat}{v:AV}{mem:aQ}{nx:Nat}{K:St->Prop}(h:o9 s d v mem nx K):∃s',fH s d v mem nx=some s'/\K s':=by
 cases d with
 | none=>exact⟨_,rfl,h⟩
 | some d=>
  obtain⟨h1,h⟩:=cH.1 h;exact⟨_,by simp only[fH,h1],nH.1 h⟩
def wY(ops:List Oper)(sl:List (Nat × AV))(g:Option (Nat × Bool))(yes no:Prop):Prop:=
 match g with
 | none=>yes
 | some (j,want)=>match ops[j]? with
  | none=>no
  | some o=>match o.dst with
   | none=>no
   | some d=>match lk sl d with
    | some (.bool b)=>match want with
     | true=>RR b yes no
     | false=>RR b no yes
    | some (.tup [])=>no
    | _=>False
theorem x7{ops:List Oper}{s:St}{g:Option (Nat × Bool)}{yes no:Prop}(h:wY ops s.sl g yes no):(nP ops s g=some true/\yes)∨(nP ops s g=some false/\no):=by
 unfold wY at h;unfold nP;split at h
 ·exact .inl ⟨rfl,h⟩
 ·split at h
  ·rename_i e;exact .inr ⟨by simp only[e],h⟩
  ·rename_i e;simp only[e];split at h
   ·rename_i e;exact .inr ⟨by simp only[e],h⟩
   ·rename_i e;simp only[e];split at h
    ·rename_i b e;simp only[e];split at h
     ·cases b
      ·exact .inr ⟨rfl,h⟩
      ·exact .inl ⟨rfl,h⟩
     ·cases b
      ·exact .inl ⟨rfl,h⟩
      ·exact .inr ⟨rfl,h⟩
    ·rename_i e;exact .inr ⟨by simp only[e],h⟩
    ·exact h.elim
def PK(P:Program)(Γ:List (Nat × AV))(sl:List (Nat × AV))(f:Operand)(args:List Operand)(E:AV->Prop)(K:FuncId->List AV->Prop):Prop:=
 nU Γ sl f fun v=>match v with
  | .fn (.func F) first cap=>If Γ sl args fun as=>match P.funcs[F]? with
   | some fn=>match fn.body with
    | some _=>match fn.name == "runtime.NumGoroutine" with
     | false=>match Nat.beq F YF with
      | false=>Di first as fun l=>Di l cap fun l=>K F l
      | true=>False
     | true=>False
    | none=>match Cs fn with
     | true=>match first with
      | []=>match cap with
       | []=>match as with
        | [v]=>E v
        | _=>False
       | _=>False
      | _=>False
     | false=>False
   | none=>False
  | .yld id=>If Γ sl args fun as=>K YF (.yld id::as)
  | _=>False
theorem SL{P:Program}{Γ:List (Nat × AV)}{s:St}{c:Call}{f:Operand}(hc:c.callee = .value f){E:AV->Prop}{K:FuncId->List AV->Prop}(h:PK P Γ s.sl f c.args.toList E K) :
  (∃v,dA P Γ s (.call c)=some (v,s.mem,s.nx)/\E v)∨(dA P Γ s (.call c)=none/\∃F l,qD P Γ s (.call c)=some (F,l)/\K F l):=by
 unfold PK at h;obtain⟨v,h1,h⟩:=cQ h;split at h
 ·rename_i F first cap
  obtain⟨as,h2,h⟩:=qK h;split at h
  ·rename_i fn h3;split at h
   ·rename_i body h4;split at h
    ·rename_i h5;split at h
     ·rename_i h6;refine .inr ⟨?_,_,_,by simp only[qD,hc,h1,h2,h3,h4,h5,h6],iN.1 (iN.1 h)⟩;simp only[dA,hc,HE,h1];cases first<;>cases cap<;>simp only[h3,h4]
     ·exact h.elim
    ·exact h.elim
   ·rename_i h4;split at h
    ·rename_i h5;split at h
     ·split at h
      ·split at h
       ·exact .inl ⟨_,by simp only[dA,hc,HE,h1,h2,h3,h4,h5],h⟩
       ·exact h.elim
      ·exact h.elim
     ·exact h.elim
    ·exact h.elim
  ·exact h.elim
 ·rename_i id;obtain⟨as,h2,h⟩:=qK h;exact .inr ⟨by simp only[dA,hc,HE,h1],_,_,by simp only[qD,hc,h1,h2],h⟩
 ·exact h.elim
def G9(cl:Bool)(P:Program)(Γ:List (Nat × AV))(H:Hk)(sl:List (Nat × AV))(mem:aQ)(nx:Nat)(op:Op)(K:AV->aQ->Nat->Prop)(Kp:Value->aQ->Nat->Prop):Prop:=
 match op with
 | .call c=>match c.callee with
  | .value f=>PK P Γ sl f c.args.toList (fun v=>K v mem nx) fun F l=>H.call F l mem nx K Kp
  | _=>wL cl P Γ sl mem nx op K
 | _=>wL cl P Γ sl mem nx op K
theorem Ex{cl:Bool}{P:Program}{Γ:List (Nat × AV)}{H:Hk}{s:St}{op:Op}{K:AV->aQ->Nat->Prop}{Kp:Value->aQ->Nat->Prop}(h:G9 cl P Γ H s.sl s.mem s.nx op K Kp) :
  (∃v m n,dA P Γ s op=some (v,m,n)/\K v m n)∨(dA P Γ s op=none/\∃F l,qD P Γ s op=some (F,l)/\H.call F l s.mem s.nx K Kp):=by
 unfold G9 at h;split at h
 ·split at h
  ·rename_i f hc;rcases SL hc h with⟨v,h1,h⟩|h
   ·exact .inl ⟨_,_,_,h1,h⟩
   ·exact .inr h
  ·exact .inl (pG h)
 ·exact .inl (pG h)
def I1(cl:Bool)(P:Program)(Γ:List (Nat × AV))(H:Hk)(sl:List (Nat × AV))(mem:aQ)(nx:Nat)(op:Op)(K:AV->aQ->Nat->Prop)(Kp:Value->aQ->Nat->Prop):Prop:=
 match op with
 | .panic x=>nU Γ sl x fun v=>opt (quo v) fun y=>Kp y mem nx
 | op=>G9 cl P Γ H sl mem nx op K Kp
theorem Lq{cl:Bool}{P:Program}{Γ:List (Nat × AV)}{H:Hk}{s:St}{op:Op}{K:AV->aQ->Nat->Prop}{Kp:Value->aQ->Nat->Prop}(h:I1 cl P Γ H s.sl s.mem s.nx op K Kp) :
  (∃v m n,dA P Γ s op=some (v,m,n)/\K v m n)∨(dA P Γ s op=none/\∃F l,qD P Γ s op=some (F,l)/\H.call F l s.mem s.nx K Kp) ∨
   (dA P Γ s op=none/\qD P Γ s op=none/\∃y,LK Γ s op=some y/\Kp y s.mem s.nx):=by
 unfold I1 at h;split at h
 ·obtain⟨v,h1,h⟩:=cQ h;obtain⟨y,h2,h⟩:=cM.1 h;exact .inr (.inr ⟨rfl,rfl,y,by simp only[LK,h1,h2],h⟩)
 ·rcases Ex h with h|h
  ·exact .inl h
  ·exact .inr (.inl h)
def Py(cl:Bool)(P:Program)(Γ:List (Nat × AV))(H:Hk)(ops:List Oper):List Oper->St->(St->Prop)->(Value->St->Prop)->Prop
 | [],s,K,_=>K s
 | o::r,s,K,Kp=>Fg s fun sl mem nx nt=>wY ops sl o.guard
   (I1 cl P Γ H sl mem nx o.op (fun v mem nx=>o9 s o.dst v mem nx fun s'=>Py cl P Γ H ops r s' K Kp) fun x mem nx=>Kp x ⟨sl,mem,nx,nt⟩)
   (o9 s o.dst (.tup []) mem nx fun s'=>Py cl P Γ H ops r s' K Kp)
theorem Hh{cl:Bool}{P:Program}{Γ:List (Nat × AV)}{H:Hk}{B:Nat}(hH:AA P Γ B H)(ops:List Oper):∀(l:List Oper) (s:St) (K K':St->Prop) (Kp Kp':Value->St->Prop),(∀s,K s->K' s)->(∀x s,Kp x s->Kp' x s)->Py cl P Γ H ops l s K Kp->yD P Γ (Jb P Γ B) ops l s K' Kp'
 | [],s,K,K',Kp,Kp',hk,hp,h=>hk s h
 | o::r,s,K,K',Kp,Kp',hk,hp,h=>by
  simp only[Py] at h;simp only[yD];have h:=pF.1 h;rcases x7 h with⟨h1,h⟩|⟨h1,h⟩
  ·simp only[h1];rcases Lq h with⟨v,m,n,h2,h⟩|⟨h2,F,l,h3,h⟩|⟨h2,h3,y,h4,h⟩
   ·obtain⟨s',h4,h⟩:=f9 h;simp only[h2,h4];exact Hh hH ops r s' K K' Kp Kp' hk hp h
   ·simp only[h2,h3];refine(hH.call _ _ _ _ _ _ h).mono (fun v m n h=>?_) fun x m n h=>hp _ _ h
    obtain⟨s',h4,h⟩:=f9 h;simp only[h4];exact Hh hH ops r s' K K' Kp Kp' hk hp h
   ·simp only[h2,h3,h4];exact hp _ _ h
  ·obtain⟨s',h4,h⟩:=f9 h;simp only[h1,h4];exact Hh hH ops r s' K K' Kp Kp' hk hp h
def jN(f:Nat × AB->Bool):aQ->(aQ->Prop)->Prop
 | [],K=>K []
 | p::r,K=>match f p with
  | true=>jN f r fun l=>K (p::l)
  | false=>jN f r K
theorem dK{f:Nat × AB->Bool}:∀{m:aQ} {K:aQ->Prop},jN f m K↔K (m.filter f)
 | [],K=>Iff.rfl
 | p::r,K=>by
  simp only[jN,aBm];cases f p
  ·simpa using dK
  ·simpa using dK
def yC(cl:Bool)(P:Program)(Γ:List (Nat × AV))(ops:List Oper)(tr:List (List Nat))(base x:Nat)(mem:aQ)(nx:Nat):List C9->Prop->Prop
 | [],K=>K
 | r::rs,K=>match zL r.i (T tr x) with
  | true=>yC cl P Γ ops tr base x mem nx rs K
  | false=>match r.want with
   | false=>yC cl P Γ ops tr base x mem nx rs K
   | true=>match ops[r.i]? with
    | none=>yC cl P Γ ops tr base x mem nx rs K
    | some o=>match kind P o.op with
     | .pure=>match still o.op with
      | true=>yC cl P Γ ops tr base x mem nx rs K
      | false=>jN (fun p=>Lb tr base ops.length r.i p.1) mem fun m=>wL cl P Γ r.sl m nx o.op fun v _ _=>match cl with
       | true=>qX (nL v r.v) (yC cl P Γ ops tr base x mem nx rs K)
       | false=>v=r.v/\yC cl P Γ ops tr base x mem nx rs K
     | _=>yC cl P Γ ops tr base x mem nx rs K
theorem rL{cl:Bool}{P:Program}{Γ:List (Nat × AV)}{ops:List Oper}{tr:List (List Nat)}{base x:Nat}{s:St}:∀{recs:List C9} {K:Prop},yC cl P Γ ops tr base x s.mem s.nx recs K->VB P Γ ops tr base x s recs/\K
 | [],K,h=>⟨trivial,h⟩
 | r::rs,K,h=>by
  simp only[yC] at h;simp only[VB];split at h
  ·rename_i h1;obtain⟨h2,h3⟩:=rL h;exact⟨⟨fun e=>(by rw[h1] at e;cases e),h2⟩,h3⟩
  ·split at h
   ·rename_i h1;obtain⟨h2,h3⟩:=rL h;exact⟨⟨fun _ e=>(by rw[h1] at e;cases e),h2⟩,h3⟩
   ·split at h
    ·rename_i h1;obtain⟨h2,h3⟩:=rL h;exact⟨⟨fun _ _ o e=>(by rw[h1] at e;cases e),h2⟩,h3⟩
    ·rename_i o ho;split at h
     ·split at h
      ·rename_i h1;obtain⟨h2,h3⟩:=rL h;refine⟨⟨fun _ _ o' e _ e'=>?_,h2⟩,h3⟩;rw[ho] at e;cases e;rw[h1] at e';cases e'
      ·have h:=dK.1 h;obtain⟨v,m,n,h1,h⟩:=pG (s:={ sl:=r.sl,mem:=k6 tr base ops.length r.i s.mem,nx:=s.nx,nt:=s.nt }) h;have key:v=r.v/\yC cl P Γ ops tr base x s.mem s.nx rs K:=by
        cases cl
        ·exact h
        ·obtain⟨h2,h3⟩:=cH.1 h;exact⟨xE h2,h3⟩
       obtain⟨h2,h3⟩:=rL key.2;refine⟨⟨fun _ _ o' e _ _=>?_,h2⟩,h3⟩;rw[ho] at e;cases e;exact⟨m,n,by rw[←key.1];exact h1⟩
     ·rename_i hk;obtain⟨h2,h3⟩:=rL h;refine⟨⟨fun _ _ o' e e'=>?_,h2⟩,h3⟩;rw[ho] at e;cases e;exact(hk e').elim
def yO(cl:Bool)(P:Program)(Γ:List (Nat × AV))(H:Hk)(ops:List Oper)(tr:List (List Nat))(base:Nat)(K:St->Prop)(Kp:Value->aQ->Nat->Prop):List Nat->List C9->St->Prop
 | [],recs,s=>K s
 | i::r,recs,s=>match ops[i]? with
  | none=>False
  | some o=>Fg s fun sl mem nx nt=>wY ops sl o.guard
   (match kind P o.op with
    | .pure=>match still o.op with
     | true=>wL cl P Γ sl [] nx o.op fun v _ _=>o9 s o.dst v mem nx fun s'=>yO cl P Γ H ops tr base K Kp r (⟨i,sl,true,v⟩::recs) s'
     | false=>jN (fun p=>Lb tr base ops.length i p.1) mem fun m=>wL cl P Γ sl m nx o.op fun v _ _=>o9 s o.dst v mem nx fun s'=>yO cl P Γ H ops tr base K Kp r (⟨i,sl,true,v⟩::recs) s'
    | .al=>rK (base+i) fun id=>wL cl P Γ sl [] id o.op fun v m _=>match m with
     | [(_,b)]=>o9 s o.dst v ((id,b)::mem) nx fun s'=>yO cl P Γ H ops tr base K Kp r (⟨i,sl,true,v⟩::recs) s'
     | _=>False
    | .eff=>jN (fun p=>Lb tr base ops.length i p.1) mem fun m=>G9 cl P Γ H sl m nx o.op (fun v m nx'=>jN (fun p=>!Lb tr base ops.length i p.1) mem fun rest=>jN (fun p=>!wK p.1 m) rest fun rest=>Di m rest fun m=>
      o9 s o.dst v m nx' fun s'=>yC cl P Γ ops tr base i m nx' recs (yO cl P Γ H ops tr base K Kp r recs s')) Kp)
   (o9 s o.dst (.tup []) mem nx fun s'=>yO cl P Γ H ops tr base K Kp r (⟨i,sl,false,.tup []⟩::recs) s')
theorem tE{cl:Bool}{P:Program}{Γ:List (Nat × AV)}{H:Hk}{B:Nat}(hH:AA P Γ B H)(ops:List Oper)(tr:List (List Nat))(base:Nat)(K K':St->Prop)(Kp Kp':Value->aQ->Nat->Prop)(hk:∀s,K s->K' s)(hp:∀x m n,Kp x m n->Kp' x m n) :
  ∀(l:List Nat) (recs:List C9) (s:St),yO cl P Γ H ops tr base K Kp l recs s->rH P Γ (Jb P Γ B) ops tr base K' Kp' l recs s
 | [],recs,s,h=>hk s h
 | i::r,recs,s,h=>by
  simp only[yO] at h;simp only[rH];split at h
  ·exact h.elim
  ·rename_i o ho;simp only[ho];have h:=pF.1 h;rcases x7 h with⟨h1,h⟩|⟨h1,h⟩
   ·simp only[h1];split at h
    ·rename_i hkd;simp only[hkd];split at h
     ·rename_i hst;obtain⟨v,m,n,h2,h⟩:=pG (s:={ sl:=s.sl,mem:=[],nx:=s.nx,nt:=s.nt }) h;obtain⟨m',n',h2'⟩:=v8 (s:={ sl:=s.sl,mem:=[],nx:=s.nx,nt:=s.nt }) (s':={ s with mem:=k6 tr base ops.length i s.mem }) hst rfl h2;obtain⟨s',h3,h⟩:=f9 h;simp only[h2',h3];exact tE hH ops tr base K K' Kp Kp' hk hp r _ s' h
     ·have h:=dK.1 h;obtain⟨v,m,n,h2,h⟩:=pG (s:={ s with mem:=k6 tr base ops.length i s.mem }) h;obtain⟨s',h3,h⟩:=f9 h;simp only[h2,h3];exact tE hH ops tr base K K' Kp Kp' hk hp r _ s' h
    ·rename_i hkd;simp only[hkd];have h:=eJ.1 h;obtain⟨v,m,n,h2,h⟩:=pG (s:={ s with mem:=[],nx:=base+i }) h;simp only[h2];split at h
     ·obtain⟨s',h3,h⟩:=f9 h;simp only[h3];exact tE hH ops tr base K K' Kp Kp' hk hp r _ s' h
     ·exact h.elim
    ·rename_i hkd;simp only[hkd];have h:=dK.1 h;rcases Ex (s:={ s with mem:=k6 tr base ops.length i s.mem }) h with⟨v,m,n,h2,h⟩|⟨h2,F,l,h3,h⟩
     ·simp only[h2];have h:=iN.1 (dK.1 (dK.1 h));obtain⟨s',h3,h⟩:=f9 h;have h3:fH s o.dst v (m++wS m (iM tr base ops.length i s.mem)) n=some s':=h3;simp only[h3];obtain⟨e1,e2,_⟩:=i8 h3;have h:yC cl P Γ ops tr base i (m++wS m (iM tr base ops.length i s.mem)) n recs (yO cl P Γ H ops tr base K Kp r recs s'):=h;rw[←e1,←e2] at h;obtain⟨h4,h⟩:=rL h;exact⟨h4,tE hH ops tr base K K' Kp Kp' hk hp r _ s' h⟩
     ·rw[vK (s':=s) (fun x _=>by cases x<;>rfl)] at h3;simp only[h2,h3];refine(hH.call _ _ _ _ _ _ h).mono (fun v m n h=>?_) hp;have h:=iN.1 (dK.1 (dK.1 h));obtain⟨s',h3,h⟩:=f9 h;have h3:fH s o.dst v (m++wS m (iM tr base ops.length i s.mem)) n=some s':=h3;simp only[h3];obtain⟨e1,e2,_⟩:=i8 h3;have h:yC cl P Γ ops tr base i (m++wS m (iM tr base ops.length i s.mem)) n recs (yO cl P Γ H ops tr base K Kp r recs s'):=h;rw[←e1,←e2] at h;obtain⟨h4,h⟩:=rL h;exact⟨h4,tE hH ops tr base K K' Kp Kp' hk hp r _ s' h⟩
   ·obtain⟨s',h3,h⟩:=f9 h;simp only[h1,h3];exact tE hH ops tr base K K' Kp Kp' hk hp r _ s' h
def XO(sl:List (Nat × AV))(id nt:Nat)(m:aQ)(n:Nat)(Q:Exit->St->Prop):Prop:=
 opt (lk m id) fun b=>match b with
  | .loop _ _ _ _ _ st pd=>match st with
   | .busy=>False
   | _=>jN (fun p=>!Nat.beq p.1 id) m fun m=>match pd with
    | none=>Q .normal ⟨sl,m,n,nt⟩
    | some .ret=>Q .ret ⟨sl,m,n,nt⟩
    | some (.exit i)=>Q (.exit i) ⟨sl,m,n,nt⟩
    | some _=>False
  | _=>False
theorem VL{s:St}{m:aQ}{n:Nat}{Q:Exit->St->Prop}(h:XO s.sl s.nx s.nt m n Q):G6 s Q m n:=by
 obtain⟨b,h1,h⟩:=cM.1 h;unfold G6;simp only[h1];cases b with
 | loop sl nt ps ca cb st pd=>
  cases st<;>first|exact h.elim|(simp only at h ⊢;have h:=dK.1 h;exact h)
 | _=>exact h.elim
theorem G6.mono{s:St}{m:aQ}{n:Nat}{Q Q':Exit->St->Prop}(hq:∀e s,Q e s->Q' e s)(h:G6 s Q m n):G6 s Q' m n:=by
 unfold G6 at h ⊢;split at h
 ·split at h
  ·exact h
  ·split at h
   ·exact hq _ _ h
   ·exact hq _ _ h
   ·exact hq _ _ h
   ·exact h
 ·exact h
def BM(cl:Bool)(P:Program)(Γ:List (Nat × AV))(H:Hk):Code->St->(Exit->St->Prop)->Prop
 | .skip,s,Q=>Q .normal s
 | .seq x y,s,Q=>BM cl P Γ H x s fun e s'=>match e with
  | .normal=>BM cl P Γ H y s' Q
  | e=>Q e s'
 | .cond c x y,s,Q=>Fg s fun sl _ _ _=>nU Γ sl c fun v=>match v with
  | .bool b=>RR b (BM cl P Γ H x s Q) (BM cl P Γ H y s Q)
  | _=>False
 | .block id c,s,Q=>BM cl P Γ H c s fun e s'=>match e with
  | .exit i=>match Nat.beq i id with
   | true=>Q .normal s'
   | false=>Q (.exit i) s'
  | e=>Q e s'
 | .loop c,s,Q=>H.loop c s Q
 | .label _,s,Q=>Q .normal s
 | .scope c,s,Q=>BM cl P Γ H c s fun e s'=>match e with
  | .goto _=>False
  | e=>Q e s'
 | .exit i,s,Q=>Q (.exit i) s
 | .ret,s,Q=>Q .ret s
 | .region _ ops draw,s,Q=>match draw with
  | false=>Py cl P Γ H ops.toList ops.toList s (fun s'=>Q .normal s') fun x s'=>Q (.panic [pe x]) s'
  | true=>match P.follows .mixedOrders with
   | true=>match Ev P ops.toList (AJ P ops.toList ops.toList.length [] (Bn ops.toList.length)) with
    | true=>Fg s fun sl mem nx nt=>rK (nx+ops.toList.length) fun n=>B4 (AJ P ops.toList ops.toList.length [] (Bn ops.toList.length)) fun ord=>yO cl P Γ H ops.toList (Mq ops.toList []) nx (fun s'=>Q .normal s') (fun x m n=>Q (.panic [pe x]) ⟨yJ ops.toList sl,m,n,nt⟩) ord [] ⟨sl,mem,n,nt⟩
    | false=>False
   | false=>False
 | .rangeFunc g ps ca cb,s,Q=>Fg s fun sl mem nx nt=>nU Γ sl g fun v=>match v with
  | .fn (.func G) first cap=>match P.funcs[G]? with
   | some fn=>match fn.body with
    | some _=>match fn.name == "runtime.NumGoroutine" with
     | false=>match Nat.beq G YF with
      | false=>rK (nx+1) fun n=>Di first (.yld nx::cap) fun l=>H.call G l ((nx,.loop sl nt ps ca cb .ready none)::mem) n (fun _ m n=>XO sl nx nt m n Q) fun x m n=>Q (.panic [pe x]) ⟨sl,m,n,nt⟩
      | true=>False
     | true=>False
    | none=>False
   | none=>False
  | _=>False
 | _,_,_=>False
theorem W7{cl:Bool}{P:Program}{Γ:List (Nat × AV)}{H:Hk}{B:Nat}(hH:AA P Γ B H):∀(c:Code) (s:St) (Q Q':Exit->St->Prop),(∀e s,Q e s->Q' e s)->BM cl P Γ H c s Q->FF P Γ (Jb P Γ B) c s Q':=by
 intro c
 induction c with
 | skip=>exact fun s Q Q' hq h=>hq _ _ h
 | label l=>exact fun s Q Q' hq h=>hq _ _ h
 | scope c ih=>
  intro s Q Q' hq h;simp only[BM] at h;simp only[FF];refine ih s _ _ (fun e s' h=>?_) h;cases e with
  | goto l=>exact h
  | normal=>exact hq _ _ h
  | exit i=>exact hq _ _ h
  | ret=>exact hq _ _ h
  | panic c=>exact hq _ _ h
  | outgrown=>exact hq _ _ h
 | exit i=>exact fun s Q Q' hq h=>hq _ _ h
 | ret=>exact fun s Q Q' hq h=>hq _ _ h
 | loop c ih=>exact fun s Q Q' hq h=>(hH.loop c s Q h).mono hq
 | seq x y ihx ihy=>
  intro s Q Q' hq h;simp only[BM] at h;simp only[FF];refine ihx s _ _ (fun e s' h=>?_) h;cases e with
  | normal=>exact ihy s' Q Q' hq h
  | exit i=>exact hq _ _ h
  | goto l=>exact hq _ _ h
  | ret=>exact hq _ _ h
  | panic c=>exact hq _ _ h
  | outgrown=>exact hq _ _ h
 | cond c x y ihx ihy=>
  intro s Q Q' hq h;simp only[BM] at h;simp only[FF];have h:=pF.1 h;obtain⟨v,h1,h⟩:=cQ h;simp only[h1];split at h
  ·rename_i b;cases b
   ·exact ihy s Q Q' hq h
   ·exact ihx s Q Q' hq h
  ·exact h.elim
 | block id c ih=>
  intro s Q Q' hq h;simp only[BM] at h;simp only[FF];refine ih s _ _ (fun e s' h=>?_) h;cases e with
  | exit i=>
   simp only at h ⊢;split at h
   ·rename_i e;simp only[e];exact hq _ _ h
   ·rename_i e;simp only[e];exact hq _ _ h
  | normal=>exact hq _ _ h
  | goto l=>exact hq _ _ h
  | ret=>exact hq _ _ h
  | panic c=>exact hq _ _ h
  | outgrown=>exact hq _ _ h
 | region id ops draw=>
  intro s Q Q' hq h;cases draw with
  | false=>
   simp only[BM] at h;simp only[FF];exact Hh hH _ _ _ _ _ _ _ (fun s h=>hq _ _ h) (fun x s h=>hq _ _ h) h
  | true=>
   simp only[BM] at h;simp only[FF];split at h
   ·rename_i hmix;simp only[hmix];split at h
    ·rename_i hok;simp only[Jc,hok];exact tE hH _ _ _ _ _ _ _ (fun s h=>hq _ _ h) (fun x m n h=>hq _ _ h) _ _ _ (p5.1 (eJ.1 (pF.1 h)))
    ·exact h.elim
   ·exact h.elim
 | rangeFunc g ps ca cb=>
  intro s Q Q' hq h;simp only[BM] at h;obtain⟨v,h1,h⟩:=cQ (s:=s) (pF.1 h);simp only[FF,h1];split at h<;>first|exact h.elim|skip
  split at h<;>first|exact h.elim|skip
  rename_i fn hf;split at h<;>first|exact h.elim|skip
  rename_i c0 hb;split at h<;>first|exact h.elim|skip
  rename_i hn;split at h<;>first|exact h.elim|skip
  rename_i hG;simp only[hf,hb,hn,hG];exact(hH.call _ _ _ _ _ _ (iN.1 (eJ.1 h))).mono (fun _ m n h=>(VL h).mono hq) fun x m n h=>hq _ _ h
 | _=>intro s Q Q' hq h;simp only[BM] at h
theorem eB{cl:Bool}{P:Program}{Γ:List (Nat × AV)}{H:Hk}{B:Nat}(hH:AA P Γ B H)(c:Code)(s:St)(Q:Exit->St->Prop)(h:BM cl P Γ H c s Q):fR P Γ B c s Q:=
 Bf R9 c s Q (W7 hH c s Q Q (fun _ _ h=>h) h)
def Mc:Nat->List AV->(List (Nat × AV)->Prop)->Prop
 | _,[],K=>K []
 | k,a::r,K=>rK k fun k=>Mc (k+1) r fun l=>K ((k,a)::l)
theorem Fc:∀{k:Nat} {l:List AV} {K:List (Nat × AV)->Prop},Mc k l K↔K (JO k l)
 | k,[],K=>Iff.rfl
 | k,a::r,K=>by simp only[Mc,JO,eJ,Fc]
def wI(ntmps:Nat)(args:List AV)(mem:aQ)(nx:Nat)(K:St->Prop):Prop:=
 Mc 0 args fun sl=>qX (Nat.ble args.length ntmps) (rK ntmps fun nt=>K ⟨sl,mem,nx,nt⟩)
theorem l6{ntmps:Nat}{args:List AV}{mem:aQ}{nx:Nat}{K:St->Prop}(h:wI ntmps args mem nx K):K (enter ntmps args mem nx):=by
 obtain⟨h1,h⟩:=cH.1 (Fc.1 h);have h:=eJ.1 h;have h1:=Yq h1;have e:enter ntmps args mem nx=⟨JO 0 args,mem,nx,ntmps⟩:=by simp only[enter];congr 1;omega
 rw[e];exact h
def Ly(P:Program)(s:St):List ResultVar->(List AV->Prop)->Prop
 | [],K=>K []
 | .tmp t::r,K=>opt (lk s.sl t) fun v=>Ly P s r fun l=>K (v::l)
 | .cell a t::r,K=>opt (lk s.sl a) fun p=>Mj P s.mem t p fun v=>Ly P s r fun l=>K (v::l)
theorem Gy{P:Program}{s:St}:∀{rs:List ResultVar} {K:List AV->Prop},Ly P s rs K->∃l,yW P s rs=some l/\K l
 | [],K,h=>⟨[],rfl,h⟩
 | .tmp t::r,K,h=>by
  obtain⟨v,h1,h⟩:=cM.1 h;obtain⟨l,h2,h⟩:=Gy h;exact⟨_,by simp only[yW,h1,h2],h⟩
 | .cell a t::r,K,h=>by
  obtain⟨p,h1,h⟩:=cM.1 h;obtain⟨v,h2,h⟩:=MS h;obtain⟨l,h3,h⟩:=Gy h;exact⟨_,by simp only[yW,h1,h2,h3],h⟩
def Gq(P:Program)(rs:List ResultVar)(s:St)(K:AV->Prop):Prop:=
 Ly P s rs fun l=>match l with
  | [v]=>K v
  | []=>K (.tup [])
  | a::b::r=>K (.tup (a::b::r))
theorem Gx{P:Program}{rs:List ResultVar}{s:St}{K:AV->Prop}(h:Gq P rs s K):∃v,Ci P rs s=some v/\K v:=by
 obtain⟨l,h1,h⟩:=Gy h;unfold Ci;rw[h1]
 match l,h with
 | [v],h=>exact⟨_,rfl,h⟩
 | [],h=>exact⟨_,rfl,h⟩
 | a::b::r,h=>exact⟨_,rfl,h⟩
def RD(P:Program)(rs:List ResultVar)(Q:AV->aQ->Nat->Prop):Exit->St->Prop:=fun e s=>
 match e with
 | .normal=>Fg s fun _ mem nx _=>Gq P rs s fun r=>Q r mem nx
 | .ret=>Fg s fun _ mem nx _=>Gq P rs s fun r=>Q r mem nx
 | _=>False
theorem PH{P:Program}{rs:List ResultVar}{Q:AV->aQ->Nat->Prop}{e:Exit}{s:St}(h:RD P rs Q e s):Mk P rs Q e s:=by
 cases e with
 | normal=>
  obtain⟨v,h1,h⟩:=Gx (show Gq P rs s _ from h);simp only[Mk,h1];exact h
 | ret=>
  obtain⟨v,h1,h⟩:=Gx (show Gq P rs s _ from h);simp only[Mk,h1];exact h
 | _=>exact(show False from h).elim
theorem i6{P:Program}{Γ:List (Nat × AV)}{F:FuncId}{fn:Func}{c:Code}{args:List AV}{mem:aQ}{nx:Nat}{Q:AV->aQ->Nat->Prop}(hΓ:∀p∈Γ,NN p.2)(hf:P.funcs[F]? = some fn)(hb:fn.body=some c)
  (h:wI fn.ntmps args mem nx fun s=>BM false P Γ (Ks P Γ nx) c s (RD P fn.results.toList (qE nx Q))) (hF:Nat.beq F YF=false:=by rfl):aF P Γ F args mem nx Q:=
 (yK hf hb ((eB sN _ _ _ (l6 h)).mono fun _ _ h=>PH h) hF).turn hΓ
def IN(P:Program)(rs:List ResultVar)(Q:AV->aQ->Nat->Prop)(Qp:Value->aQ->Nat->Prop):Exit->St->Prop:=fun e s=>
 match e with
 | .normal=>Fg s fun _ mem nx _=>Gq P rs s fun r=>Q r mem nx
 | .ret=>Fg s fun _ mem nx _=>Gq P rs s fun r=>Q r mem nx
 | .panic [⟨x,false,false⟩]=>Fg s fun _ mem nx _=>Qp x mem nx
 | _=>False
theorem HJ{P:Program}{rs:List ResultVar}{Q:AV->aQ->Nat->Prop}{Qp:Value->aQ->Nat->Prop}{e:Exit}{s:St}(h:IN P rs Q Qp e s):Dn P rs Q Qp e s:=by
 cases e with
 | normal=>
  obtain⟨v,h1,h⟩:=Gx (show Gq P rs s _ from h);simp only[Dn,h1];exact h
 | ret=>
  obtain⟨v,h1,h⟩:=Gx (show Gq P rs s _ from h);simp only[Dn,h1];exact h
 | panic ch=>
  unfold IN at h;split at h
  ·rename_i e;cases e
  ·rename_i e;cases e
  ·rename_i e;cases e;exact h
  ·exact h.elim
 | _=>exact(show False from h).elim
end Go.Ax
