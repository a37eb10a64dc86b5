/- A part of the proof. -/
import Derived.Test.YtioogodkiglceaaGreatDoorAx5
set_option linter.unusedVariables false
set_option linter.unusedSimpArgs false
set_option linter.unusedSectionVars false
namespace Go.Ax
open Go
def Nb(cl:Bool)(P:Program)(mem:aP)(t:TypeId)(x y:AV)(K:AV->aP->Prop):Prop:=
 match P.underlying t with
 | some (.slice e)=>match gQ P e with
  | some n=>match x with
   | .sl id 0 len=>match lk mem id with
    | some (.row t' sz' xs)=>P6 cl mem n y fun ys=>pM (Nat.blt 0 n && (Nat.beq sz' n && (Nat.ble ys.length len && Nat.ble len xs.length)))
      (sW cl (xs.drop ys.length) fun zs=>Pz cl ys zs fun zs=>y9 cl ys.length fun l=>IZ mem id (.row t' sz' zs) fun m=>K (.int .i64 l) m)
    | _=>False
   | _=>False
  | none=>False
 | _=>False
theorem QR{cl:Bool}{P:Program}{mem:aP}{t:TypeId}{x y:AV}{K:AV->aP->Prop}(h:Nb cl P mem t x y K):∃v m,Gq P mem t x y=some (v,m)/\K v m:=by
 unfold Nb at h;unfold Gq;split at h
 ·rename_i e hu;simp only[hu];split at h
  ·rename_i n hn;simp only[hn];split at h
   ·split at h
    ·rename_i hid;obtain⟨ys,h4,h⟩:=NL h;obtain⟨h5,h⟩:=bZ.1 h;rw[VZ] at h5;exact⟨_,_,by simp only[h5.1,hid,h4,h5.2],lV.1 (iQ.1 (HN.1 (iS.1 h)))⟩
    ·exact h.elim
   ·exact h.elim
  ·exact h.elim
 ·exact h.elim
def JT(P:Program)(mem:aP)(t:TypeId)(x:AV)(K:aP->Prop):Prop:=
 match P.underlying t with
 | some (.slice e)=>match mI P e with
  | some z=>match x with
   | .sl id off len=>match lk mem id with
    | some (.row t' sz xs)=>pM (k7 z && (Nat.beq z.cells.length sz && (Nat.blt 0 sz && (Nat.blt 0 len && Nat.ble (off+len) xs.length))))
      (IZ mem id (.row t' sz (xs.take off++(List.replicate len z++xs.drop (off+len)))) fun m=>K m)
    | _=>False
   | _=>False
  | none=>False
 | _=>False
theorem Ok{P:Program}{mem:aP}{t:TypeId}{x:AV}{K:aP->Prop}(h:JT P mem t x K):∃m,DD P mem t x=some m/\K m:=by
 unfold JT at h;unfold DD;split at h
 ·rename_i e hu;simp only[hu];split at h
  ·rename_i z hz;simp only[hz];split at h
   ·split at h
    ·rename_i hid;obtain⟨h5,h⟩:=bZ.1 h;exact⟨_,by simp only[hid,h5],lV.1 h⟩
    ·exact h.elim
   ·exact h.elim
  ·exact h.elim
 ·exact h.elim
def AM(cl:Bool)(P:Program)(Γ:List (Nat × AV))(sl:List (Nat × AV))(mem:aP)(nx:Nat)(b:Builtin)(args:List Operand)(ts:List TypeId)(K:AV->aP->Nat->Prop):Prop:=
 match b with
 | .len=>match args,ts with
  | [x],[t]=>lQ Γ sl x fun a=>opt (O4 P mem t a) fun v=>match v with
   | .int k n=>sH cl k n fun v=>K v mem nx
   | _=>False
  | _,_=>False
 | .append=>match args,ts with
  | [x,y],[t,u]=>lQ Γ sl x fun a=>lQ Γ sl y fun b=>GN cl P mem nx t u a b K
  | _,_=>False
 | .min=>Ht Γ sl args fun l=>match l with
  | .int k x::r=>opt (LO x r) fun m=>sH cl k m fun v=>K v mem nx
  | _=>False
 | .max=>Ht Γ sl args fun l=>match l with
  | .int k x::r=>opt (MO x r) fun m=>sH cl k m fun v=>K v mem nx
  | _=>False
 | .unsafeSliceData=>match args,ts with
  | [x],[_]=>lQ Γ sl x fun a=>opt (rQ a) fun v=>K v mem nx
  | _,_=>False
 | .unsafeString=>match args,ts with
  | [x,y],[t,_]=>lQ Γ sl x fun a=>lQ Γ sl y fun b=>match zD P mem t a b with
   | some (.str l,m)=>sW cl l fun l=>C7 m fun m=>K (.str l) m nx
   | _=>False
  | _,_=>False
 | .copy=>match args,ts with
  | [x,y],[t,_]=>lQ Γ sl x fun a=>lQ Γ sl y fun b=>Nb cl P mem t a b fun v m=>K v m nx
  | _,_=>False
 | .clear=>match args,ts with
  | [x],[t]=>lQ Γ sl x fun a=>JT P mem t a fun m=>K (.tup []) m nx
  | _,_=>False
 | _=>False
theorem Jg{cl:Bool}{P:Program}{Γ:List (Nat × AV)}{s:St}{b:Builtin}{args:List Operand}{ts:List TypeId}{K:AV->aP->Nat->Prop}(h:AM cl P Γ s.sl s.mem s.nx b args ts K) :
  ∃v m n,eF P Γ s b args ts=some (v,m,n)/\K v m n:=by
 unfold AM at h;split at h
 ·split at h
  ·obtain⟨a,h1,h⟩:=cH h;obtain⟨v,h2,h⟩:=cG.1 h;split at h
   ·exact⟨_,_,_,by simp only[eF,h1,h2,bM],nZ.1 h⟩
   ·exact h.elim
  ·exact h.elim
 ·split at h
  ·obtain⟨a,h1,h⟩:=cH h;obtain⟨b,h2,h⟩:=cH h;obtain⟨v,m,n,h3,h⟩:=MG h;exact⟨_,_,_,by simp only[eF,h1,h2];exact h3,h⟩
  ·exact h.elim
 ·obtain⟨l,h1,h⟩:=pO h;split at h
  ·obtain⟨m,h2,h⟩:=cG.1 h;exact⟨_,_,_,by simp only[eF,h1,h2],nZ.1 h⟩
  ·exact h.elim
 ·obtain⟨l,h1,h⟩:=pO h;split at h
  ·obtain⟨m,h2,h⟩:=cG.1 h;exact⟨_,_,_,by simp only[eF,h1,h2],nZ.1 h⟩
  ·exact h.elim
 ·split at h
  ·obtain⟨a,h1,h⟩:=cH h;obtain⟨v,h2,h⟩:=cG.1 h;exact⟨_,_,_,by simp only[eF,h1,h2,bM],h⟩
  ·exact h.elim
 ·split at h
  ·obtain⟨a,h1,h⟩:=cH h;obtain⟨b,h2,h⟩:=cH h;split at h
   ·rename_i l m h3;exact⟨_,_,_,by simp only[eF,h1,h2,h3],xU.1 (iS.1 h)⟩
   ·exact h.elim
  ·exact h.elim
 ·split at h
  ·obtain⟨a,h1,h⟩:=cH h;obtain⟨b,h2,h⟩:=cH h;obtain⟨v,m,h3,h⟩:=QR h;exact⟨_,_,_,by simp only[eF,h1,h2,h3],h⟩
  ·exact h.elim
 ·split at h
  ·obtain⟨a,h1,h⟩:=cH h;obtain⟨m,h3,h⟩:=Ok h;exact⟨_,_,_,by simp only[eF,h1,h3],h⟩
  ·exact h.elim
 ·exact h.elim
def p7(cl:Bool)(P:Program)(Γ:List (Nat × AV))(sl:List (Nat × AV))(mem:aP)(nx:Nat)(op:Op)(K:AV->aP->Nat->Prop):Prop:=
 match op with
 | .move x=>lQ Γ sl x fun v=>K v mem nx
 | .assign x=>lQ Γ sl x fun v=>K v mem nx
 | .pick c a b=>lQ Γ sl c fun c=>match c with
  | .bool c=>MV c (lQ Γ sl a fun v=>K v mem nx) (lQ Γ sl b fun v=>K v mem nx)
  | _=>False
 | .alloc t=>Fm P mem nx t K
 | .box t x=>lQ Γ sl x fun v=>R7 P mem nx t v K
 | .build t parts=>q9 Γ sl parts.toList fun ps=>Fk P t ps fun v=>K v mem nx
 | .buildSlice t len parts=>q9 Γ sl parts.toList fun ps=>p8 P mem nx t len ps K
 | .load t x=>lQ Γ sl x fun p=>Hh P mem t p fun v=>K v mem nx
 | .store t x y=>lQ Γ sl x fun p=>lQ Γ sl y fun v=>F1 P mem t p v fun m=>K (.tup []) m nx
 | .nilCheck x=>lQ Γ sl x fun p=>opt (OT p) fun v=>K v mem nx
 | .binOp op t x y _=>lQ Γ sl x fun a=>lQ Γ sl y fun b=>PK cl P op t x y a b fun v=>K v mem nx
 | .unOp op _ x=>lQ Γ sl x fun a=>UW cl op a fun v=>K v mem nx
 | .convert src dst x=>lQ Γ sl x fun a=>match P.underlying dst with
  | some (.slice _)=>vU cl P mem nx src dst a K
  | _=>K3 cl P mem src dst a fun v=>K v mem nx
 | .makeInterface t x=>lQ Γ sl x fun a=>opt (GH P t a) fun v=>K v mem nx
 | .makeFunc fn first cap=>Ht Γ sl first.toList fun l1=>Ht Γ sl cap.toList fun l2=>K (.fn fn l1 l2) mem nx
 | .makeSlice t l c=>lQ Γ sl l fun a=>lQ Γ sl c fun b=>Oe cl P mem nx t a b K
 | .slice t x lo hi mx=>lQ Γ sl x fun a=>GM Γ sl lo fun l=>GM Γ sl hi fun h=>GM Γ sl mx fun m=>match !m.isSome || h.isSome with
  | true=>Iy cl P mem t a l h m fun v=>K v mem nx
  | false=>False
 | .fieldAddr t x f=>lQ Γ sl x fun p=>rO P t f p fun v=>K v mem nx
 | .field t x f=>lQ Γ sl x fun p=>GX P t f p fun v=>K v mem nx
 | .indexAddr t x ix=>lQ Γ sl x fun p=>lQ Γ sl ix fun i=>sE cl P mem t p i fun v=>K v mem nx
 | .index t x ix=>lQ Γ sl x fun p=>lQ Γ sl ix fun i=>Fy cl P t p i fun v=>K v mem nx
 | .extract x i=>lQ Γ sl x fun p=>opt (u6 p i) fun v=>K v mem nx
 | .typeAssert x _ t ok=>lQ Γ sl x fun p=>opt (B0 P t ok p) fun v=>K v mem nx
 | .makeMap _ reserve=>match reserve with
  | none=>pD (nx+1) fun n=>K (.mp nx) ((nx,.mapb [])::mem) n
  | some _=>False
 | .lookup t x ix ok=>lQ Γ sl x fun p=>lQ Γ sl ix fun i=>opt (lY P mem t p i ok) fun v=>K v mem nx
 | .mapUpdate t x y z=>lQ Γ sl x fun p=>lQ Γ sl y fun k=>lQ Γ sl z fun v=>pT P mem t p k v fun m=>K (.tup []) m nx
 | .insert t x y z=>lQ Γ sl x fun p=>lQ Γ sl y fun k=>lQ Γ sl z fun v=>pT P mem t p k v fun m=>K (.tup []) m nx
 | .call c=>match c.callee with
  | .builtin b=>AM cl P Γ sl mem nx b c.args.toList c.argTypes.toList K
  | _=>False
 | _=>False
theorem kJ{cl:Bool}{P:Program}{Γ:List (Nat × AV)}{s:St}{op:Op}{K:AV->aP->Nat->Prop}(h:p7 cl P Γ s.sl s.mem s.nx op K):∃v m n,cT P Γ s op=some (v,m,n)/\K v m n:=by
 cases op<;>simp only[p7] at h<;>simp only[cT]<;>first|exact h.elim|skip
 case move x=>
  obtain⟨v,h1,h⟩:=cH h;exact⟨_,_,_,by simp only[h1,bM],h⟩
 case assign x=>
  obtain⟨v,h1,h⟩:=cH h;exact⟨_,_,_,by simp only[h1,bM],h⟩
 case pick c x y=>
  obtain⟨v,h1,h⟩:=cH h;split at h
  ·rename_i b;cases b
   ·obtain⟨v,h2,h⟩:=cH (show lQ Γ s.sl y _ from h);exact⟨_,_,_,by simp only[h1,h2,bM],h⟩
   ·obtain⟨v,h2,h⟩:=cH (show lQ Γ s.sl x _ from h);exact⟨_,_,_,by simp only[h1,h2,bM],h⟩
  ·exact h.elim
 case alloc t=>exact M8 h
 case box t x=>
  obtain⟨v,h1,h⟩:=cH h;simp only[h1];exact RD h
 case build t parts=>
  obtain⟨v,h1,h⟩:=tJ h;obtain⟨v,h2,h⟩:=Og h;exact⟨_,_,_,by simp only[h1,h2,bM],h⟩
 case buildSlice t len parts=>
  obtain⟨v,h1,h⟩:=tJ h;simp only[h1];exact D7 h
 case load t x=>
  obtain⟨v,h1,h⟩:=cH h;obtain⟨v,h2,h⟩:=KS h;exact⟨_,_,_,by simp only[h1,h2,bM],h⟩
 case store t x y=>
  obtain⟨v,h1,h⟩:=cH h;obtain⟨u,h2,h⟩:=cH h;obtain⟨m,h3,h⟩:=Mo h;exact⟨_,_,_,by simp only[h1,h2,h3],h⟩
 case nilCheck x=>
  obtain⟨v,h1,h⟩:=cH h;obtain⟨v,h2,h⟩:=cG.1 h;exact⟨_,_,_,by simp only[h1,h2,bM],h⟩
 case binOp op t x y t'=>
  obtain⟨v,h1,h⟩:=cH h;obtain⟨u,h2,h⟩:=cH h;obtain⟨m,h3,h⟩:=RI h;exact⟨_,_,_,by simp only[h1,h2,h3,bM],h⟩
 case unOp op t x=>
  obtain⟨v,h1,h⟩:=cH h;obtain⟨v,h2,h⟩:=UR h;exact⟨_,_,_,by simp only[h1,h2,bM],h⟩
 case convert src dst x=>
  obtain⟨v,h1,h⟩:=cH h;simp only[h1];split at h
  ·rename_i e hu;have hn:Dk P s.mem src dst v=none:=by
    unfold Dk;split
    ·rfl
    ·rw[hu]
   rw[hn];exact Hj h
  ·obtain⟨u,h2,h⟩:=Ph h;exact⟨_,_,_,by simp only[h2],h⟩
 case makeInterface t x=>
  obtain⟨v,h1,h⟩:=cH h;obtain⟨v,h2,h⟩:=cG.1 h;exact⟨_,_,_,by simp only[h1,h2,bM],h⟩
 case makeFunc fn first cap=>
  obtain⟨v,h1,h⟩:=pO h;obtain⟨v,h2,h⟩:=pO h;exact⟨_,_,_,by simp only[h1,h2],h⟩
 case makeSlice t l c=>
  obtain⟨v,h1,h⟩:=cH h;obtain⟨u,h2,h⟩:=cH h;simp only[h1,h2];exact Ps h
 case slice t x lo hi mx=>
  obtain⟨v,h1,h⟩:=cH h;obtain⟨l,h2,h⟩:=AS h;obtain⟨h',h3,h⟩:=AS h;obtain⟨m,h4,h⟩:=AS h;simp only[h1,h2,h3,h4];split at h
  ·rename_i e;obtain⟨u,h5,h⟩:=NA h;exact⟨_,_,_,by simp only[e,h5,bM],h⟩
  ·exact h.elim
 case fieldAddr t x f=>
  obtain⟨v,h1,h⟩:=cH h;obtain⟨v,h2,h⟩:=F8 h;exact⟨_,_,_,by simp only[h1,h2,bM],h⟩
 case field t x f=>
  obtain⟨v,h1,h⟩:=cH h;obtain⟨v,h2,h⟩:=Nr h;exact⟨_,_,_,by simp only[h1,h2,bM],h⟩
 case indexAddr t x ix=>
  obtain⟨v,h1,h⟩:=cH h;obtain⟨u,h2,h⟩:=cH h;obtain⟨m,h3,h⟩:=GE h;exact⟨_,_,_,by simp only[h1,h2,h3,bM],h⟩
 case index t x ix=>
  obtain⟨v,h1,h⟩:=cH h;obtain⟨u,h2,h⟩:=cH h;obtain⟨m,h3,h⟩:=Nt h;exact⟨_,_,_,by simp only[h1,h2,h3,bM],h⟩
 case typeAssert x xt t ok=>
  obtain⟨p,h1,h⟩:=cH h;obtain⟨v,h2,h⟩:=cG.1 h;exact⟨_,_,_,by simp only[h1,h2,bM],h⟩
 case extract x i=>
  obtain⟨v,h1,h⟩:=cH h;obtain⟨v,h2,h⟩:=cG.1 h;exact⟨_,_,_,by simp only[h1,h2,bM],h⟩
 case makeMap t r=>
  split at h
  ·exact⟨_,_,_,rfl,dY.1 h⟩
  ·exact h.elim
 case lookup t x ix ok=>
  obtain⟨v,h1,h⟩:=cH h;obtain⟨u,h2,h⟩:=cH h;obtain⟨m,h3,h⟩:=cG.1 h;exact⟨_,_,_,by simp only[h1,h2,h3,bM],h⟩
 case mapUpdate t x y z=>
  obtain⟨v,h1,h⟩:=cH h;obtain⟨u,h2,h⟩:=cH h;obtain⟨u',h3,h⟩:=cH h;obtain⟨m,h4,h⟩:=yT h;exact⟨_,_,_,by simp only[h1,h2,h3,h4],h⟩
 case insert t x y z=>
  obtain⟨v,h1,h⟩:=cH h;obtain⟨u,h2,h⟩:=cH h;obtain⟨u',h3,h⟩:=cH h;obtain⟨m,h4,h⟩:=yT h;exact⟨_,_,_,by simp only[h1,h2,h3,h4],h⟩
 case call c=>
  split at h
  ·rename_i hb;simp only[hb];exact Jg h
  ·exact h.elim
def Dw(s:St)(K:List (Nat × AV)->aP->Nat->Nat->Prop):Prop:=
 match s with
 | ⟨sl,mem,nx,nt⟩=>K sl mem nx nt
theorem mD{s:St}{K:List (Nat × AV)->aP->Nat->Nat->Prop}:Dw s K↔K s.sl s.mem s.nx s.nt:=Iff.rfl
def kT(s:St)(d:Option Nat)(v:AV)(mem:aP)(nx:Nat)(K:St->Prop):Prop:=
 Dw s fun sl _ _ nt=>match d with
  | none=>K ⟨sl,mem,nx,nt⟩
  | some d=>pM (Nat.blt d nt) (IZ sl d v fun sl=>K ⟨sl,mem,nx,nt⟩)
theorem eC{s:St}{d:Option Nat}{v:AV}{mem:aP}{nx:Nat}{K:St->Prop}(h:kT s d v mem nx K):∃s',eO s d v mem nx=some s'/\K s':=by
 cases d with
 | none=>exact⟨_,rfl,h⟩
 | some d=>
  obtain⟨h1,h⟩:=bZ.1 h;exact⟨_,by simp only[eO,h1],lV.1 h⟩
def pK(ops:List Oper)(sl:List (Nat × AV))(g:Option (Nat × Bool))(yes no:Prop):Prop:=
 match g with
 | none=>yes
 | some (j,want)=>match ops[j]? with
  | none=>no
  | some o=>match o.dst with
   | none=>no
   | some d=>match lk sl d with
    | some (.bool b)=>match want with
     | true=>MV b yes no
     | false=>MV b no yes
    | some (.tup [])=>no
    | _=>False
theorem sR{ops:List Oper}{s:St}{g:Option (Nat × Bool)}{yes no:Prop}(h:pK ops s.sl g yes no):(mP ops s g=some true/\yes)∨(mP ops s g=some false/\no):=by
 unfold pK at h;unfold mP;split at h
 ·exact .inl ⟨rfl,h⟩
 ·split at h
  ·rename_i e;exact .inr ⟨by simp only[e],h⟩
  ·rename_i e;simp only[e];split at h
   ·rename_i e;exact .inr ⟨by simp only[e],h⟩
   ·rename_i e;simp only[e];split at h
    ·rename_i b e;simp only[e];split at h
     ·cases b
      ·exact .inr ⟨rfl,h⟩
      ·exact .inl ⟨rfl,h⟩
     ·cases b
      ·exact .inl ⟨rfl,h⟩
      ·exact .inr ⟨rfl,h⟩
    ·rename_i e;exact .inr ⟨by simp only[e],h⟩
    ·exact h.elim
def Kh(P:Program)(Γ:List (Nat × AV))(sl:List (Nat × AV))(f:Operand)(args:List Operand)(E:AV->Prop)(K:FuncId->List AV->Prop):Prop:=
 lQ Γ sl f fun v=>match v with
  | .fn (.func F) first cap=>Ht Γ sl args fun as=>match P.funcs[F]? with
   | some fn=>match fn.body with
    | some _=>match fn.name == "runtime.NumGoroutine" with
     | false=>match Nat.beq F YF with
      | false=>AO first as fun l=>AO l cap fun l=>K F l
      | true=>False
     | true=>False
    | none=>match Bv fn with
     | true=>match first with
      | []=>match cap with
       | []=>match as with
        | [v]=>E v
        | _=>False
       | _=>False
      | _=>False
     | false=>False
   | none=>False
  | .yld id=>Ht Γ sl args fun as=>K YF (.yld id::as)
  | _=>False
theorem O6{P:Program}{Γ:List (Nat × AV)}{s:St}{c:Call}{f:Operand}(hc:c.callee = .value f){E:AV->Prop}{K:FuncId->List AV->Prop}(h:Kh P Γ s.sl f c.args.toList E K) :
  (∃v,cT P Γ s (.call c)=some (v,s.mem,s.nx)/\E v)∨(cT P Γ s (.call c)=none/\∃F l,pU P Γ s (.call c)=some (F,l)/\K F l):=by
 unfold Kh at h;obtain⟨v,h1,h⟩:=cH h;split at h
 ·rename_i F first cap
  obtain⟨as,h2,h⟩:=pO h;split at h
  ·rename_i fn h3;split at h
   ·rename_i body h4;split at h
    ·rename_i h5;split at h
     ·rename_i h6;refine .inr ⟨?_,_,_,by simp only[pU,hc,h1,h2,h3,h4,h5,h6],fN.1 (fN.1 h)⟩;simp only[cT,hc,GY,h1];cases first<;>cases cap<;>simp only[h3,h4]
     ·exact h.elim
    ·exact h.elim
   ·rename_i h4;split at h
    ·rename_i h5;split at h
     ·split at h
      ·split at h
       ·exact .inl ⟨_,by simp only[cT,hc,GY,h1,h2,h3,h4,h5],h⟩
       ·exact h.elim
      ·exact h.elim
     ·exact h.elim
    ·exact h.elim
  ·exact h.elim
 ·rename_i id;obtain⟨as,h2,h⟩:=pO h;exact .inr ⟨by simp only[cT,hc,GY,h1],_,_,by simp only[pU,hc,h1,h2],h⟩
 ·exact h.elim
def EA(cl:Bool)(P:Program)(Γ:List (Nat × AV))(H:Hk)(sl:List (Nat × AV))(mem:aP)(nx:Nat)(op:Op)(K:AV->aP->Nat->Prop)(Kp:Value->aP->Nat->Prop):Prop:=
 match op with
 | .call c=>match c.callee with
  | .value f=>Kh P Γ sl f c.args.toList (fun v=>K v mem nx) fun F l=>H.call F l mem nx K Kp
  | _=>p7 cl P Γ sl mem nx op K
 | _=>p7 cl P Γ sl mem nx op K
theorem Av{cl:Bool}{P:Program}{Γ:List (Nat × AV)}{H:Hk}{s:St}{op:Op}{K:AV->aP->Nat->Prop}{Kp:Value->aP->Nat->Prop}(h:EA cl P Γ H s.sl s.mem s.nx op K Kp) :
  (∃v m n,cT P Γ s op=some (v,m,n)/\K v m n)∨(cT P Γ s op=none/\∃F l,pU P Γ s op=some (F,l)/\H.call F l s.mem s.nx K Kp):=by
 unfold EA at h;split at h
 ·split at h
  ·rename_i f hc;rcases O6 hc h with⟨v,h1,h⟩|h
   ·exact .inl ⟨_,_,_,h1,h⟩
   ·exact .inr h
  ·exact .inl (kJ h)
 ·exact .inl (kJ h)
def DX(cl:Bool)(P:Program)(Γ:List (Nat × AV))(H:Hk)(sl:List (Nat × AV))(mem:aP)(nx:Nat)(op:Op)(K:AV->aP->Nat->Prop)(Kp:Value->aP->Nat->Prop):Prop:=
 match op with
 | .panic x=>lQ Γ sl x fun v=>opt (quo v) fun y=>Kp y mem nx
 | op=>EA cl P Γ H sl mem nx op K Kp
theorem Ke{cl:Bool}{P:Program}{Γ:List (Nat × AV)}{H:Hk}{s:St}{op:Op}{K:AV->aP->Nat->Prop}{Kp:Value->aP->Nat->Prop}(h:DX cl P Γ H s.sl s.mem s.nx op K Kp) :
  (∃v m n,cT P Γ s op=some (v,m,n)/\K v m n)∨(cT P Γ s op=none/\∃F l,pU P Γ s op=some (F,l)/\H.call F l s.mem s.nx K Kp) ∨
   (cT P Γ s op=none/\pU P Γ s op=none/\∃y,J9 Γ s op=some y/\Kp y s.mem s.nx):=by
 unfold DX at h;split at h
 ·obtain⟨v,h1,h⟩:=cH h;obtain⟨y,h2,h⟩:=cG.1 h;exact .inr (.inr ⟨rfl,rfl,y,by simp only[J9,h1,h2],h⟩)
 ·rcases Av h with h|h
  ·exact .inl h
  ·exact .inr (.inl h)
def I6(cl:Bool)(P:Program)(Γ:List (Nat × AV))(H:Hk)(ops:List Oper):List Oper->St->(St->Prop)->(Value->St->Prop)->Prop
 | [],s,K,_=>K s
 | o::r,s,K,Kp=>Dw s fun sl mem nx nt=>pK ops sl o.guard
   (DX cl P Γ H sl mem nx o.op (fun v mem nx=>kT s o.dst v mem nx fun s'=>I6 cl P Γ H ops r s' K Kp) fun x mem nx=>Kp x ⟨sl,mem,nx,nt⟩)
   (kT s o.dst (.tup []) mem nx fun s'=>I6 cl P Γ H ops r s' K Kp)
theorem Ga{cl:Bool}{P:Program}{Γ:List (Nat × AV)}{H:Hk}{B:Nat}(hH:AG P Γ B H)(ops:List Oper):∀(l:List Oper) (s:St) (K K':St->Prop) (Kp Kp':Value->St->Prop),(∀s,K s->K' s)->(∀x s,Kp x s->Kp' x s)->I6 cl P Γ H ops l s K Kp->wL P Γ (Gd P Γ B) ops l s K' Kp'
 | [],s,K,K',Kp,Kp',hk,hp,h=>hk s h
 | o::r,s,K,K',Kp,Kp',hk,hp,h=>by
  simp only[I6] at h;simp only[wL];have h:=mD.1 h;rcases sR h with⟨h1,h⟩|⟨h1,h⟩
  ·simp only[h1];rcases Ke h with⟨v,m,n,h2,h⟩|⟨h2,F,l,h3,h⟩|⟨h2,h3,y,h4,h⟩
   ·obtain⟨s',h4,h⟩:=eC h;simp only[h2,h4];exact Ga hH ops r s' K K' Kp Kp' hk hp h
   ·simp only[h2,h3];refine(hH.call _ _ _ _ _ _ h).mono (fun v m n h=>?_) fun x m n h=>hp _ _ h
    obtain⟨s',h4,h⟩:=eC h;simp only[h4];exact Ga hH ops r s' K K' Kp Kp' hk hp h
   ·simp only[h2,h3,h4];exact hp _ _ h
  ·obtain⟨s',h4,h⟩:=eC h;simp only[h1,h4];exact Ga hH ops r s' K K' Kp Kp' hk hp h
def gC(f:Nat × AB->Bool):aP->(aP->Prop)->Prop
 | [],K=>K []
 | p::r,K=>match f p with
  | true=>gC f r fun l=>K (p::l)
  | false=>gC f r K
theorem cK{f:Nat × AB->Bool}:∀{m:aP} {K:aP->Prop},gC f m K↔K (m.filter f)
 | [],K=>Iff.rfl
 | p::r,K=>by
  simp only[gC,Xp];cases f p
  ·simpa using cK
  ·simpa using cK
def rH(cl:Bool)(P:Program)(Γ:List (Nat × AV))(ops:List Oper)(tr:List (List Nat))(base x:Nat)(mem:aP)(nx:Nat):List AT->Prop->Prop
 | [],K=>K
 | r::rs,K=>match xN r.i (T tr x) with
  | true=>rH cl P Γ ops tr base x mem nx rs K
  | false=>match r.want with
   | false=>rH cl P Γ ops tr base x mem nx rs K
   | true=>match ops[r.i]? with
    | none=>rH cl P Γ ops tr base x mem nx rs K
    | some o=>match kind P o.op with
     | .pure=>match still o.op with
      | true=>rH cl P Γ ops tr base x mem nx rs K
      | false=>gC (fun p=>Gp tr base ops.length r.i p.1) mem fun m=>p7 cl P Γ r.sl m nx o.op fun v _ _=>match cl with
       | true=>pM (lP v r.v) (rH cl P Γ ops tr base x mem nx rs K)
       | false=>v=r.v/\rH cl P Γ ops tr base x mem nx rs K
     | _=>rH cl P Γ ops tr base x mem nx rs K
theorem n8{cl:Bool}{P:Program}{Γ:List (Nat × AV)}{ops:List Oper}{tr:List (List Nat)}{base x:Nat}{s:St}:∀{recs:List AT} {K:Prop},rH cl P Γ ops tr base x s.mem s.nx recs K->SC P Γ ops tr base x s recs/\K
 | [],K,h=>⟨trivial,h⟩
 | r::rs,K,h=>by
  simp only[rH] at h;simp only[SC];split at h
  ·rename_i h1;obtain⟨h2,h3⟩:=n8 h;exact⟨⟨fun e=>(by rw[h1] at e;cases e),h2⟩,h3⟩
  ·split at h
   ·rename_i h1;obtain⟨h2,h3⟩:=n8 h;exact⟨⟨fun _ e=>(by rw[h1] at e;cases e),h2⟩,h3⟩
   ·split at h
    ·rename_i h1;obtain⟨h2,h3⟩:=n8 h;exact⟨⟨fun _ _ o e=>(by rw[h1] at e;cases e),h2⟩,h3⟩
    ·rename_i o ho;split at h
     ·split at h
      ·rename_i h1;obtain⟨h2,h3⟩:=n8 h;refine⟨⟨fun _ _ o' e _ e'=>?_,h2⟩,h3⟩;rw[ho] at e;cases e;rw[h1] at e';cases e'
      ·have h:=cK.1 h;obtain⟨v,m,n,h1,h⟩:=kJ (s:={ sl:=r.sl,mem:=fH tr base ops.length r.i s.mem,nx:=s.nx,nt:=s.nt }) h;have key:v=r.v/\rH cl P Γ ops tr base x s.mem s.nx rs K:=by
        cases cl
        ·exact h
        ·obtain⟨h2,h3⟩:=bZ.1 h;exact⟨rX h2,h3⟩
       obtain⟨h2,h3⟩:=n8 key.2;refine⟨⟨fun _ _ o' e _ _=>?_,h2⟩,h3⟩;rw[ho] at e;cases e;exact⟨m,n,by rw[←key.1];exact h1⟩
     ·rename_i hk;obtain⟨h2,h3⟩:=n8 h;refine⟨⟨fun _ _ o' e e'=>?_,h2⟩,h3⟩;rw[ho] at e;cases e;exact(hk e').elim
def wQ(cl:Bool)(P:Program)(Γ:List (Nat × AV))(H:Hk)(ops:List Oper)(tr:List (List Nat))(base:Nat)(K:St->Prop)(Kp:Value->aP->Nat->Prop):List Nat->List AT->St->Prop
 | [],recs,s=>K s
 | i::r,recs,s=>match ops[i]? with
  | none=>False
  | some o=>Dw s fun sl mem nx nt=>pK ops sl o.guard
   (match kind P o.op with
    | .pure=>match still o.op with
     | true=>p7 cl P Γ sl [] nx o.op fun v _ _=>kT s o.dst v mem nx fun s'=>wQ cl P Γ H ops tr base K Kp r (⟨i,sl,true,v⟩::recs) s'
     | false=>gC (fun p=>Gp tr base ops.length i p.1) mem fun m=>p7 cl P Γ sl m nx o.op fun v _ _=>kT s o.dst v mem nx fun s'=>wQ cl P Γ H ops tr base K Kp r (⟨i,sl,true,v⟩::recs) s'
    | .al=>pD (base+i) fun id=>p7 cl P Γ sl [] id o.op fun v m _=>match m with
     | [(_,b)]=>kT s o.dst v ((id,b)::mem) nx fun s'=>wQ cl P Γ H ops tr base K Kp r (⟨i,sl,true,v⟩::recs) s'
     | _=>False
    | .eff=>gC (fun p=>Gp tr base ops.length i p.1) mem fun m=>EA cl P Γ H sl m nx o.op (fun v m nx'=>gC (fun p=>!Gp tr base ops.length i p.1) mem fun rest=>gC (fun p=>!sP p.1 m) rest fun rest=>AO m rest fun m=>
      kT s o.dst v m nx' fun s'=>rH cl P Γ ops tr base i m nx' recs (wQ cl P Γ H ops tr base K Kp r recs s')) Kp)
   (kT s o.dst (.tup []) mem nx fun s'=>wQ cl P Γ H ops tr base K Kp r (⟨i,sl,false,.tup []⟩::recs) s')
theorem sO{cl:Bool}{P:Program}{Γ:List (Nat × AV)}{H:Hk}{B:Nat}(hH:AG P Γ B H)(ops:List Oper)(tr:List (List Nat))(base:Nat)(K K':St->Prop)(Kp Kp':Value->aP->Nat->Prop)(hk:∀s,K s->K' s)(hp:∀x m n,Kp x m n->Kp' x m n) :
  ∀(l:List Nat) (recs:List AT) (s:St),wQ cl P Γ H ops tr base K Kp l recs s->pW P Γ (Gd P Γ B) ops tr base K' Kp' l recs s
 | [],recs,s,h=>hk s h
 | i::r,recs,s,h=>by
  simp only[wQ] at h;simp only[pW];split at h
  ·exact h.elim
  ·rename_i o ho;simp only[ho];have h:=mD.1 h;rcases sR h with⟨h1,h⟩|⟨h1,h⟩
   ·simp only[h1];split at h
    ·rename_i hkd;simp only[hkd];split at h
     ·rename_i hst;obtain⟨v,m,n,h2,h⟩:=kJ (s:={ sl:=s.sl,mem:=[],nx:=s.nx,nt:=s.nt }) h;obtain⟨m',n',h2'⟩:=qF (s:={ sl:=s.sl,mem:=[],nx:=s.nx,nt:=s.nt }) (s':={ s with mem:=fH tr base ops.length i s.mem }) hst rfl h2;obtain⟨s',h3,h⟩:=eC h;simp only[h2',h3];exact sO hH ops tr base K K' Kp Kp' hk hp r _ s' h
     ·have h:=cK.1 h;obtain⟨v,m,n,h2,h⟩:=kJ (s:={ s with mem:=fH tr base ops.length i s.mem }) h;obtain⟨s',h3,h⟩:=eC h;simp only[h2,h3];exact sO hH ops tr base K K' Kp Kp' hk hp r _ s' h
    ·rename_i hkd;simp only[hkd];have h:=dY.1 h;obtain⟨v,m,n,h2,h⟩:=kJ (s:={ s with mem:=[],nx:=base+i }) h;simp only[h2];split at h
     ·obtain⟨s',h3,h⟩:=eC h;simp only[h3];exact sO hH ops tr base K K' Kp Kp' hk hp r _ s' h
     ·exact h.elim
    ·rename_i hkd;simp only[hkd];have h:=cK.1 h;rcases Av (s:={ s with mem:=fH tr base ops.length i s.mem }) h with⟨v,m,n,h2,h⟩|⟨h2,F,l,h3,h⟩
     ·simp only[h2];have h:=fN.1 (cK.1 (cK.1 h));obtain⟨s',h3,h⟩:=eC h;have h3:eO s o.dst v (m++qJ m (fR tr base ops.length i s.mem)) n=some s':=h3;simp only[h3];obtain⟨e1,e2,_⟩:=fP h3;have h:rH cl P Γ ops tr base i (m++qJ m (fR tr base ops.length i s.mem)) n recs (wQ cl P Γ H ops tr base K Kp r recs s'):=h;rw[←e1,←e2] at h;obtain⟨h4,h⟩:=n8 h;exact⟨h4,sO hH ops tr base K K' Kp Kp' hk hp r _ s' h⟩
     ·rw[p9 (s':=s) (fun x _=>by cases x<;>rfl)] at h3;simp only[h2,h3];refine(hH.call _ _ _ _ _ _ h).mono (fun v m n h=>?_) hp;have h:=fN.1 (cK.1 (cK.1 h));obtain⟨s',h3,h⟩:=eC h;have h3:eO s o.dst v (m++qJ m (fR tr base ops.length i s.mem)) n=some s':=h3;simp only[h3];obtain⟨e1,e2,_⟩:=fP h3;have h:rH cl P Γ ops tr base i (m++qJ m (fR tr base ops.length i s.mem)) n recs (wQ cl P Γ H ops tr base K Kp r recs s'):=h;rw[←e1,←e2] at h;obtain⟨h4,h⟩:=n8 h;exact⟨h4,sO hH ops tr base K K' Kp Kp' hk hp r _ s' h⟩
   ·obtain⟨s',h3,h⟩:=eC h;simp only[h1,h3];exact sO hH ops tr base K K' Kp Kp' hk hp r _ s' h
def UB(sl:List (Nat × AV))(id nt:Nat)(m:aP)(n:Nat)(Q:Exit->St->Prop):Prop:=
 opt (lk m id) fun b=>match b with
  | .loop _ _ _ _ _ st pd=>match st with
   | .busy=>False
   | _=>gC (fun p=>!Nat.beq p.1 id) m fun m=>match pd with
    | none=>Q .normal ⟨sl,m,n,nt⟩
    | some .ret=>Q .ret ⟨sl,m,n,nt⟩
    | some (.exit i)=>Q (.exit i) ⟨sl,m,n,nt⟩
    | some _=>False
  | _=>False
theorem RH{s:St}{m:aP}{n:Nat}{Q:Exit->St->Prop}(h:UB s.sl s.nx s.nt m n Q):GV s Q m n:=by
 obtain⟨b,h1,h⟩:=cG.1 h;unfold GV;simp only[h1];cases b with
 | loop sl nt ps ca cb st pd=>
  cases st<;>first|exact h.elim|(simp only at h ⊢;have h:=cK.1 h;exact h)
 | _=>exact h.elim
theorem GV.mono{s:St}{m:aP}{n:Nat}{Q Q':Exit->St->Prop}(hq:∀e s,Q e s->Q' e s)(h:GV s Q m n):GV s Q' m n:=by
 unfold GV at h ⊢;split at h
 ·split at h
  ·exact h
  ·split at h
   ·exact hq _ _ h
   ·exact hq _ _ h
   ·exact hq _ _ h
   ·exact h
 ·exact h
def AE(cl:Bool)(P:Program)(Γ:List (Nat × AV))(H:Hk):Code->St->(Exit->St->Prop)->Prop
 | .skip,s,Q=>Q .normal s
 | .seq x y,s,Q=>AE cl P Γ H x s fun e s'=>match e with
  | .normal=>AE cl P Γ H y s' Q
  | e=>Q e s'
 | .cond c x y,s,Q=>Dw s fun sl _ _ _=>lQ Γ sl c fun v=>match v with
  | .bool b=>MV b (AE cl P Γ H x s Q) (AE cl P Γ H y s Q)
  | _=>False
 | .block id c,s,Q=>AE cl P Γ H c s fun e s'=>match e with
  | .exit i=>match Nat.beq i id with
   | true=>Q .normal s'
   | false=>Q (.exit i) s'
  | e=>Q e s'
 | .loop c,s,Q=>H.loop c s Q
 | .label _,s,Q=>Q .normal s
 | .scope c,s,Q=>AE cl P Γ H c s fun e s'=>match e with
  | .goto _=>False
  | e=>Q e s'
 | .exit i,s,Q=>Q (.exit i) s
 | .ret,s,Q=>Q .ret s
 | .region _ ops draw,s,Q=>match draw with
  | false=>I6 cl P Γ H ops.toList ops.toList s (fun s'=>Q .normal s') fun x s'=>Q (.panic [pe x]) s'
  | true=>match P.follows .mixedOrders with
   | true=>match At P ops.toList (uS P ops.toList ops.toList.length [] (xV ops.toList.length)) with
    | true=>Dw s fun sl mem nx nt=>pD (nx+ops.toList.length) fun n=>uM (uS P ops.toList ops.toList.length [] (xV ops.toList.length)) fun ord=>wQ cl P Γ H ops.toList (KJ ops.toList []) nx (fun s'=>Q .normal s') (fun x m n=>Q (.panic [pe x]) ⟨tQ ops.toList sl,m,n,nt⟩) ord [] ⟨sl,mem,n,nt⟩
    | false=>False
   | false=>False
 | .rangeFunc g ps ca cb,s,Q=>Dw s fun sl mem nx nt=>lQ Γ sl g fun v=>match v with
  | .fn (.func G) first cap=>match P.funcs[G]? with
   | some fn=>match fn.body with
    | some _=>match fn.name == "runtime.NumGoroutine" with
     | false=>match Nat.beq G YF with
      | false=>pD (nx+1) fun n=>AO first (.yld nx::cap) fun l=>H.call G l ((nx,.loop sl nt ps ca cb .ready none)::mem) n (fun _ m n=>UB sl nx nt m n Q) fun x m n=>Q (.panic [pe x]) ⟨sl,m,n,nt⟩
      | true=>False
     | true=>False
    | none=>False
   | none=>False
  | _=>False
 | _,_,_=>False
theorem T3{cl:Bool}{P:Program}{Γ:List (Nat × AV)}{H:Hk}{B:Nat}(hH:AG P Γ B H):∀(c:Code) (s:St) (Q Q':Exit->St->Prop),(∀e s,Q e s->Q' e s)->AE cl P Γ H c s Q->Ca P Γ (Gd P Γ B) c s Q':=by
 intro c
 induction c with
 | skip=>exact fun s Q Q' hq h=>hq _ _ h
 | label l=>exact fun s Q Q' hq h=>hq _ _ h
 | scope c ih=>
  intro s Q Q' hq h;simp only[AE] at h;simp only[Ca];refine ih s _ _ (fun e s' h=>?_) h;cases e with
  | goto l=>exact h
  | normal=>exact hq _ _ h
  | exit i=>exact hq _ _ h
  | ret=>exact hq _ _ h
  | panic c=>exact hq _ _ h
  | outgrown=>exact hq _ _ h
 | exit i=>exact fun s Q Q' hq h=>hq _ _ h
 | ret=>exact fun s Q Q' hq h=>hq _ _ h
 | loop c ih=>exact fun s Q Q' hq h=>(hH.loop c s Q h).mono hq
 | seq x y ihx ihy=>
  intro s Q Q' hq h;simp only[AE] at h;simp only[Ca];refine ihx s _ _ (fun e s' h=>?_) h;cases e with
  | normal=>exact ihy s' Q Q' hq h
  | exit i=>exact hq _ _ h
  | goto l=>exact hq _ _ h
  | ret=>exact hq _ _ h
  | panic c=>exact hq _ _ h
  | outgrown=>exact hq _ _ h
 | cond c x y ihx ihy=>
  intro s Q Q' hq h;simp only[AE] at h;simp only[Ca];have h:=mD.1 h;obtain⟨v,h1,h⟩:=cH h;simp only[h1];split at h
  ·rename_i b;cases b
   ·exact ihy s Q Q' hq h
   ·exact ihx s Q Q' hq h
  ·exact h.elim
 | block id c ih=>
  intro s Q Q' hq h;simp only[AE] at h;simp only[Ca];refine ih s _ _ (fun e s' h=>?_) h;cases e with
  | exit i=>
   simp only at h ⊢;split at h
   ·rename_i e;simp only[e];exact hq _ _ h
   ·rename_i e;simp only[e];exact hq _ _ h
  | normal=>exact hq _ _ h
  | goto l=>exact hq _ _ h
  | ret=>exact hq _ _ h
  | panic c=>exact hq _ _ h
  | outgrown=>exact hq _ _ h
 | region id ops draw=>
  intro s Q Q' hq h;cases draw with
  | false=>
   simp only[AE] at h;simp only[Ca];exact Ga hH _ _ _ _ _ _ _ (fun s h=>hq _ _ h) (fun x s h=>hq _ _ h) h
  | true=>
   simp only[AE] at h;simp only[Ca];split at h
   ·rename_i hmix;simp only[hmix];split at h
    ·rename_i hok;simp only[Fc,hok];exact sO hH _ _ _ _ _ _ _ (fun s h=>hq _ _ h) (fun x m n h=>hq _ _ h) _ _ _ (lK.1 (dY.1 (mD.1 h)))
    ·exact h.elim
   ·exact h.elim
 | rangeFunc g ps ca cb=>
  intro s Q Q' hq h;simp only[AE] at h;obtain⟨v,h1,h⟩:=cH (s:=s) (mD.1 h);simp only[Ca,h1];split at h<;>first|exact h.elim|skip
  split at h<;>first|exact h.elim|skip
  rename_i fn hf;split at h<;>first|exact h.elim|skip
  rename_i c0 hb;split at h<;>first|exact h.elim|skip
  rename_i hn;split at h<;>first|exact h.elim|skip
  rename_i hG;simp only[hf,hb,hn,hG];exact(hH.call _ _ _ _ _ _ (fN.1 (dY.1 h))).mono (fun _ m n h=>(RH h).mono hq) fun x m n h=>hq _ _ h
 | _=>intro s Q Q' hq h;simp only[AE] at h
theorem eH{cl:Bool}{P:Program}{Γ:List (Nat × AV)}{H:Hk}{B:Nat}(hH:AG P Γ B H)(c:Code)(s:St)(Q:Exit->St->Prop)(h:AE cl P Γ H c s Q):eD P Γ B c s Q:=
 qZ GF c s Q (T3 hH c s Q Q (fun _ _ h=>h) h)
def KW:Nat->List AV->(List (Nat × AV)->Prop)->Prop
 | _,[],K=>K []
 | k,a::r,K=>pD k fun k=>KW (k+1) r fun l=>K ((k,a)::l)
theorem ER:∀{k:Nat} {l:List AV} {K:List (Nat × AV)->Prop},KW k l K↔K (IM k l)
 | k,[],K=>Iff.rfl
 | k,a::r,K=>by simp only[KW,IM,dY,ER]
def sJ(ntmps:Nat)(args:List AV)(mem:aP)(nx:Nat)(K:St->Prop):Prop:=
 KW 0 args fun sl=>pM (Nat.ble args.length ntmps) (pD ntmps fun nt=>K ⟨sl,mem,nx,nt⟩)
theorem jM{ntmps:Nat}{args:List AV}{mem:aP}{nx:Nat}{K:St->Prop}(h:sJ ntmps args mem nx K):K (enter ntmps args mem nx):=by
 obtain⟨h1,h⟩:=bZ.1 (ER.1 h);have h:=dY.1 h;have h1:=Vd h1;have e:enter ntmps args mem nx=⟨IM 0 args,mem,nx,ntmps⟩:=by simp only[enter];congr 1;omega
 rw[e];exact h
def KX(P:Program)(s:St):List ResultVar->(List AV->Prop)->Prop
 | [],K=>K []
 | .tmp t::r,K=>opt (lk s.sl t) fun v=>KX P s r fun l=>K (v::l)
 | .cell a t::r,K=>opt (lk s.sl a) fun p=>Hh P s.mem t p fun v=>KX P s r fun l=>K (v::l)
theorem GU{P:Program}{s:St}:∀{rs:List ResultVar} {K:List AV->Prop},KX P s rs K->∃l,xF P s rs=some l/\K l
 | [],K,h=>⟨[],rfl,h⟩
 | .tmp t::r,K,h=>by
  obtain⟨v,h1,h⟩:=cG.1 h;obtain⟨l,h2,h⟩:=GU h;exact⟨_,by simp only[xF,h1,h2],h⟩
 | .cell a t::r,K,h=>by
  obtain⟨p,h1,h⟩:=cG.1 h;obtain⟨v,h2,h⟩:=KS h;obtain⟨l,h3,h⟩:=GU h;exact⟨_,by simp only[xF,h1,h2,h3],h⟩
def Gh(P:Program)(rs:List ResultVar)(s:St)(K:AV->Prop):Prop:=
 KX P s rs fun l=>match l with
  | [v]=>K v
  | []=>K (.tup [])
  | a::b::r=>K (.tup (a::b::r))
theorem GI{P:Program}{rs:List ResultVar}{s:St}{K:AV->Prop}(h:Gh P rs s K):∃v,yV P rs s=some v/\K v:=by
 obtain⟨l,h1,h⟩:=GU h;unfold yV;rw[h1]
 match l,h with
 | [v],h=>exact⟨_,rfl,h⟩
 | [],h=>exact⟨_,rfl,h⟩
 | a::b::r,h=>exact⟨_,rfl,h⟩
def Sd(P:Program)(rs:List ResultVar)(Q:AV->aP->Nat->Prop):Exit->St->Prop:=fun e s=>
 match e with
 | .normal=>Dw s fun _ mem nx _=>Gh P rs s fun r=>Q r mem nx
 | .ret=>Dw s fun _ mem nx _=>Gh P rs s fun r=>Q r mem nx
 | _=>False
theorem Ns{P:Program}{rs:List ResultVar}{Q:AV->aP->Nat->Prop}{e:Exit}{s:St}(h:Sd P rs Q e s):Lv P rs Q e s:=by
 cases e with
 | normal=>
  obtain⟨v,h1,h⟩:=GI (show Gh P rs s _ from h);simp only[Lv,h1];exact h
 | ret=>
  obtain⟨v,h1,h⟩:=GI (show Gh P rs s _ from h);simp only[Lv,h1];exact h
 | _=>exact(show False from h).elim
theorem eX{P:Program}{Γ:List (Nat × AV)}{F:FuncId}{fn:Func}{c:Code}{args:List AV}{mem:aP}{nx:Nat}{Q:AV->aP->Nat->Prop}(hΓ:∀p∈Γ,NN p.2)(hf:P.funcs[F]? = some fn)(hb:fn.body=some c)
  (h:sJ fn.ntmps args mem nx fun s=>AE false P Γ (En P Γ nx) c s (Sd P fn.results.toList (kN nx Q))) (hF:Nat.beq F YF=false:=by rfl):aH P Γ F args mem nx Q:=
 (wT hf hb ((eH rT _ _ _ (jM h)).mono fun _ _ h=>Ns h) hF).turn hΓ
def Et(P:Program)(rs:List ResultVar)(Q:AV->aP->Nat->Prop)(Qp:Value->aP->Nat->Prop):Exit->St->Prop:=fun e s=>
 match e with
 | .normal=>Dw s fun _ mem nx _=>Gh P rs s fun r=>Q r mem nx
 | .ret=>Dw s fun _ mem nx _=>Gh P rs s fun r=>Q r mem nx
 | .panic [⟨x,false,false⟩]=>Dw s fun _ mem nx _=>Qp x mem nx
 | _=>False
theorem Bp{P:Program}{rs:List ResultVar}{Q:AV->aP->Nat->Prop}{Qp:Value->aP->Nat->Prop}{e:Exit}{s:St}(h:Et P rs Q Qp e s):CA P rs Q Qp e s:=by
 cases e with
 | normal=>
  obtain⟨v,h1,h⟩:=GI (show Gh P rs s _ from h);simp only[CA,h1];exact h
 | ret=>
  obtain⟨v,h1,h⟩:=GI (show Gh P rs s _ from h);simp only[CA,h1];exact h
 | panic ch=>
  unfold Et at h;split at h
  ·rename_i e;cases e
  ·rename_i e;cases e
  ·rename_i e;cases e;exact h
  ·exact h.elim
 | _=>exact(show False from h).elim
end Go.Ax
