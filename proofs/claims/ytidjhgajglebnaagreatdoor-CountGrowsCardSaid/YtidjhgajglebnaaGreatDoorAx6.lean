/- A part of the proof. -/
import Derived.Test.YtidjhgajglebnaaGreatDoorAx5
set_option linter.unusedVariables false
set_option linter.unusedSimpArgs false
namespace Go.Ax
open Go
def Ld(cl:Bool)(P:Program)(mem:aN)(t:TypeId)(x y:AV)(K:AV->aN->Prop):Prop:=
 match P.underlying t with
 | some (.slice e)=>match fS P e with
  | some n=>match x with
   | .sl id 0 len=>match lk mem id with
    | some (.row t' sz' xs)=>PK cl mem n y fun ys=>oF (Nat.blt 0 n && (Nat.beq sz' n && (Nat.ble ys.length len && Nat.ble len xs.length)))
      (rC cl (xs.drop ys.length) fun zs=>Nc cl ys zs fun zs=>yT cl ys.length fun l=>Np mem id (.row t' sz' zs) fun m=>K (.int .i64 l) m)
    | _=>False
   | _=>False
  | none=>False
 | _=>False
theorem OA{cl:Bool}{P:Program}{mem:aN}{t:TypeId}{x y:AV}{K:AV->aN->Prop}(h:Ld cl P mem t x y K):∃v m,Gg P mem t x y=some (v,m)/\K v m:=by
 unfold Ld at h;unfold Gg;split at h
 ·rename_i e hu;simp only[hu];split at h
  ·rename_i n hn;simp only[hn];split at h
   ·split at h
    ·rename_i hid;obtain⟨ys,h4,h⟩:=MM h;obtain⟨h5,h⟩:=bU.1 h;rw[Tz] at h5;exact⟨_,_,by simp only[h5.1,hid,h4,h5.2],qQ.1 (g9.1 (GG.1 (iC.1 h)))⟩
    ·exact h.elim
   ·exact h.elim
  ·exact h.elim
 ·exact h.elim
def IT(P:Program)(mem:aN)(t:TypeId)(x:AV)(K:aN->Prop):Prop:=
 match P.underlying t with
 | some (.slice e)=>match lK P e with
  | some z=>match x with
   | .sl id off len=>match lk mem id with
    | some (.row t' sz xs)=>oF (jZ z && (Nat.beq z.cells.length sz && (Nat.blt 0 sz && (Nat.blt 0 len && Nat.ble (off+len) xs.length))))
      (Np mem id (.row t' sz (xs.take off++(List.replicate len z++xs.drop (off+len)))) fun m=>K m)
    | _=>False
   | _=>False
  | none=>False
 | _=>False
theorem Mv{P:Program}{mem:aN}{t:TypeId}{x:AV}{K:aN->Prop}(h:IT P mem t x K):∃m,Cf P mem t x=some m/\K m:=by
 unfold IT at h;unfold Cf;split at h
 ·rename_i e hu;simp only[hu];split at h
  ·rename_i z hz;simp only[hz];split at h
   ·split at h
    ·rename_i hid;obtain⟨h5,h⟩:=bU.1 h;exact⟨_,by simp only[hid,h5],qQ.1 h⟩
    ·exact h.elim
   ·exact h.elim
  ·exact h.elim
 ·exact h.elim
def BQ(cl:Bool)(P:Program)(Γ:List (Nat × AV))(sl:List (Nat × AV))(mem:aN)(nx:Nat)(b:Builtin)(args:List Operand)(ts:List TypeId)(K:AV->aN->Nat->Prop):Prop:=
 match b with
 | .len=>match args,ts with
  | [x],[t]=>lC Γ sl x fun a=>opt (OD P mem t a) fun v=>match v with
   | .int k n=>pP cl k n fun v=>K v mem nx
   | _=>False
  | _,_=>False
 | .append=>match args,ts with
  | [x,y],[t,u]=>lC Γ sl x fun a=>lC Γ sl y fun b=>EU cl P mem nx t u a b K
  | _,_=>False
 | .min=>Fi Γ sl args fun l=>match l with
  | .int k x::r=>opt (KG x r) fun m=>pP cl k m fun v=>K v mem nx
  | _=>False
 | .max=>Fi Γ sl args fun l=>match l with
  | .int k x::r=>opt (J6 x r) fun m=>pP cl k m fun v=>K v mem nx
  | _=>False
 | .unsafeSliceData=>match args,ts with
  | [x],[_]=>lC Γ sl x fun a=>opt (pM a) fun v=>K v mem nx
  | _,_=>False
 | .unsafeString=>match args,ts with
  | [x,y],[t,_]=>lC Γ sl x fun a=>lC Γ sl y fun b=>match xZ P mem t a b with
   | some (.str l,m)=>rC cl l fun l=>Bm m fun m=>K (.str l) m nx
   | _=>False
  | _,_=>False
 | .copy=>match args,ts with
  | [x,y],[t,_]=>lC Γ sl x fun a=>lC Γ sl y fun b=>Ld cl P mem t a b fun v m=>K v m nx
  | _,_=>False
 | .clear=>match args,ts with
  | [x],[t]=>lC Γ sl x fun a=>IT P mem t a fun m=>K (.tup []) m nx
  | _,_=>False
 | _=>False
theorem Hi{cl:Bool}{P:Program}{Γ:List (Nat × AV)}{s:St}{b:Builtin}{args:List Operand}{ts:List TypeId}{K:AV->aN->Nat->Prop}(h:BQ cl P Γ s.sl s.mem s.nx b args ts K) :
  ∃v m n,dR P Γ s b args ts=some (v,m,n)/\K v m n:=by
 unfold BQ at h;split at h
 ·split at h
  ·obtain⟨a,h1,h⟩:=b8 h;obtain⟨v,h2,h⟩:=cJ.1 h;split at h
   ·exact⟨_,_,_,by simp only[dR,h1,h2,bF],mG.1 h⟩
   ·exact h.elim
  ·exact h.elim
 ·split at h
  ·obtain⟨a,h1,h⟩:=b8 h;obtain⟨b,h2,h⟩:=b8 h;obtain⟨v,m,n,h3,h⟩:=KW h;exact⟨_,_,_,by simp only[dR,h1,h2];exact h3,h⟩
  ·exact h.elim
 ·obtain⟨l,h1,h⟩:=nK h;split at h
  ·obtain⟨m,h2,h⟩:=cJ.1 h;exact⟨_,_,_,by simp only[dR,h1,h2],mG.1 h⟩
  ·exact h.elim
 ·obtain⟨l,h1,h⟩:=nK h;split at h
  ·obtain⟨m,h2,h⟩:=cJ.1 h;exact⟨_,_,_,by simp only[dR,h1,h2],mG.1 h⟩
  ·exact h.elim
 ·split at h
  ·obtain⟨a,h1,h⟩:=b8 h;obtain⟨v,h2,h⟩:=cJ.1 h;exact⟨_,_,_,by simp only[dR,h1,h2,bF],h⟩
  ·exact h.elim
 ·split at h
  ·obtain⟨a,h1,h⟩:=b8 h;obtain⟨b,h2,h⟩:=b8 h;split at h
   ·rename_i l m h3;exact⟨_,_,_,by simp only[dR,h1,h2,h3],vH.1 (iC.1 h)⟩
   ·exact h.elim
  ·exact h.elim
 ·split at h
  ·obtain⟨a,h1,h⟩:=b8 h;obtain⟨b,h2,h⟩:=b8 h;obtain⟨v,m,h3,h⟩:=OA h;exact⟨_,_,_,by simp only[dR,h1,h2,h3],h⟩
  ·exact h.elim
 ·split at h
  ·obtain⟨a,h1,h⟩:=b8 h;obtain⟨m,h3,h⟩:=Mv h;exact⟨_,_,_,by simp only[dR,h1,h3],h⟩
  ·exact h.elim
 ·exact h.elim
def rX(cl:Bool)(P:Program)(Γ:List (Nat × AV))(sl:List (Nat × AV))(mem:aN)(nx:Nat)(op:Op)(K:AV->aN->Nat->Prop):Prop:=
 match op with
 | .move x=>lC Γ sl x fun v=>K v mem nx
 | .assign x=>lC Γ sl x fun v=>K v mem nx
 | .pick c a b=>lC Γ sl c fun c=>match c with
  | .bool c=>NW c (lC Γ sl a fun v=>K v mem nx) (lC Γ sl b fun v=>K v mem nx)
  | _=>False
 | .alloc t=>IK P mem nx t K
 | .box t x=>lC Γ sl x fun v=>SG P mem nx t v K
 | .build t parts=>xK Γ sl parts.toList fun ps=>IF P t ps fun v=>K v mem nx
 | .buildSlice t len parts=>xK Γ sl parts.toList fun ps=>tE P mem nx t len ps K
 | .load t x=>lC Γ sl x fun p=>JT P mem t p fun v=>K v mem nx
 | .store t x y=>lC Γ sl x fun p=>lC Γ sl y fun v=>Hs P mem t p v fun m=>K (.tup []) m nx
 | .nilCheck x=>lC Γ sl x fun p=>opt (O6 p) fun v=>K v mem nx
 | .binOp op t x y _=>lC Γ sl x fun a=>lC Γ sl y fun b=>RE cl P op t x y a b fun v=>K v mem nx
 | .unOp op _ x=>lC Γ sl x fun a=>TJ cl op a fun v=>K v mem nx
 | .convert src dst x=>lC Γ sl x fun a=>match P.underlying dst with
  | some (.slice _)=>y9 cl P mem nx src dst a K
  | _=>MJ cl P mem src dst a fun v=>K v mem nx
 | .makeInterface t x=>lC Γ sl x fun a=>opt (Er P t a) fun v=>K v mem nx
 | .makeFunc fn first cap=>Fi Γ sl first.toList fun l1=>Fi Γ sl cap.toList fun l2=>K (.fn fn l1 l2) mem nx
 | .makeSlice t l c=>lC Γ sl l fun a=>lC Γ sl c fun b=>JB cl P mem nx t a b K
 | .slice t x lo hi mx=>lC Γ sl x fun a=>Ed Γ sl lo fun l=>Ed Γ sl hi fun h=>Ed Γ sl mx fun m=>match !m.isSome || h.isSome with
  | true=>Ht cl P mem t a l h m fun v=>K v mem nx
  | false=>False
 | .fieldAddr t x f=>lC Γ sl x fun p=>vP P t f p fun v=>K v mem nx
 | .field t x f=>lC Γ sl x fun p=>HX P t f p fun v=>K v mem nx
 | .indexAddr t x ix=>lC Γ sl x fun p=>lC Γ sl ix fun i=>wE cl P mem t p i fun v=>K v mem nx
 | .index t x ix=>lC Γ sl x fun p=>lC Γ sl ix fun i=>H9 cl P t p i fun v=>K v mem nx
 | .extract x i=>lC Γ sl x fun p=>opt (xV p i) fun v=>K v mem nx
 | .typeAssert x _ t ok=>lC Γ sl x fun p=>opt (BD P t ok p) fun v=>K v mem nx
 | .makeMap _ reserve=>match reserve with
  | none=>oV (nx+1) fun n=>K (.mp nx) ((nx,.mapb [])::mem) n
  | some _=>False
 | .lookup t x ix ok=>lC Γ sl x fun p=>lC Γ sl ix fun i=>opt (tK P mem t p i ok) fun v=>K v mem nx
 | .mapUpdate t x y z=>lC Γ sl x fun p=>lC Γ sl y fun k=>lC Γ sl z fun v=>qR P mem t p k v fun m=>K (.tup []) m nx
 | .insert t x y z=>lC Γ sl x fun p=>lC Γ sl y fun k=>lC Γ sl z fun v=>qR P mem t p k v fun m=>K (.tup []) m nx
 | .call c=>match c.callee with
  | .builtin b=>BQ cl P Γ sl mem nx b c.args.toList c.argTypes.toList K
  | _=>False
 | _=>False
theorem mR{cl:Bool}{P:Program}{Γ:List (Nat × AV)}{s:St}{op:Op}{K:AV->aN->Nat->Prop}(h:rX cl P Γ s.sl s.mem s.nx op K):∃v m n,cP P Γ s op=some (v,m,n)/\K v m n:=by
 cases op<;>simp only[rX] at h<;>simp only[cP]<;>first|exact h.elim|skip
 case move x=>
  obtain⟨v,h1,h⟩:=b8 h;exact⟨_,_,_,by simp only[h1,bF],h⟩
 case assign x=>
  obtain⟨v,h1,h⟩:=b8 h;exact⟨_,_,_,by simp only[h1,bF],h⟩
 case pick c x y=>
  obtain⟨v,h1,h⟩:=b8 h;split at h
  ·rename_i b;cases b
   ·obtain⟨v,h2,h⟩:=b8 (show lC Γ s.sl y _ from h);exact⟨_,_,_,by simp only[h1,h2,bF],h⟩
   ·obtain⟨v,h2,h⟩:=b8 (show lC Γ s.sl x _ from h);exact⟨_,_,_,by simp only[h1,h2,bF],h⟩
  ·exact h.elim
 case alloc t=>exact Mr h
 case box t x=>
  obtain⟨v,h1,h⟩:=b8 h;simp only[h1];exact QJ h
 case build t parts=>
  obtain⟨v,h1,h⟩:=rZ h;obtain⟨v,h2,h⟩:=NS h;exact⟨_,_,_,by simp only[h1,h2,bF],h⟩
 case buildSlice t len parts=>
  obtain⟨v,h1,h⟩:=rZ h;simp only[h1];exact DB h
 case load t x=>
  obtain⟨v,h1,h⟩:=b8 h;obtain⟨v,h2,h⟩:=JN h;exact⟨_,_,_,by simp only[h1,h2,bF],h⟩
 case store t x y=>
  obtain⟨v,h1,h⟩:=b8 h;obtain⟨u,h2,h⟩:=b8 h;obtain⟨m,h3,h⟩:=Lh h;exact⟨_,_,_,by simp only[h1,h2,h3],h⟩
 case nilCheck x=>
  obtain⟨v,h1,h⟩:=b8 h;obtain⟨v,h2,h⟩:=cJ.1 h;exact⟨_,_,_,by simp only[h1,h2,bF],h⟩
 case binOp op t x y t'=>
  obtain⟨v,h1,h⟩:=b8 h;obtain⟨u,h2,h⟩:=b8 h;obtain⟨m,h3,h⟩:=Qm h;exact⟨_,_,_,by simp only[h1,h2,h3,bF],h⟩
 case unOp op t x=>
  obtain⟨v,h1,h⟩:=b8 h;obtain⟨v,h2,h⟩:=Sm h;exact⟨_,_,_,by simp only[h1,h2,bF],h⟩
 case convert src dst x=>
  obtain⟨v,h1,h⟩:=b8 h;simp only[h1];split at h
  ·rename_i e hu;have hn:CM P s.mem src dst v=none:=by
    unfold CM;split
    ·rfl
    ·rw[hu]
   rw[hn];exact Gs h
  ·obtain⟨u,h2,h⟩:=OQ h;exact⟨_,_,_,by simp only[h2],h⟩
 case makeInterface t x=>
  obtain⟨v,h1,h⟩:=b8 h;obtain⟨v,h2,h⟩:=cJ.1 h;exact⟨_,_,_,by simp only[h1,h2,bF],h⟩
 case makeFunc fn first cap=>
  obtain⟨v,h1,h⟩:=nK h;obtain⟨v,h2,h⟩:=nK h;exact⟨_,_,_,by simp only[h1,h2],h⟩
 case makeSlice t l c=>
  obtain⟨v,h1,h⟩:=b8 h;obtain⟨u,h2,h⟩:=b8 h;simp only[h1,h2];exact OB h
 case slice t x lo hi mx=>
  obtain⟨v,h1,h⟩:=b8 h;obtain⟨l,h2,h⟩:=zH h;obtain⟨h',h3,h⟩:=zH h;obtain⟨m,h4,h⟩:=zH h;simp only[h1,h2,h3,h4];split at h
  ·rename_i e;obtain⟨u,h5,h⟩:=Lc h;exact⟨_,_,_,by simp only[e,h5,bF],h⟩
  ·exact h.elim
 case fieldAddr t x f=>
  obtain⟨v,h1,h⟩:=b8 h;obtain⟨v,h2,h⟩:=FF h;exact⟨_,_,_,by simp only[h1,h2,bF],h⟩
 case field t x f=>
  obtain⟨v,h1,h⟩:=b8 h;obtain⟨v,h2,h⟩:=LZ h;exact⟨_,_,_,by simp only[h1,h2,bF],h⟩
 case indexAddr t x ix=>
  obtain⟨v,h1,h⟩:=b8 h;obtain⟨u,h2,h⟩:=b8 h;obtain⟨m,h3,h⟩:=FY h;exact⟨_,_,_,by simp only[h1,h2,h3,bF],h⟩
 case index t x ix=>
  obtain⟨v,h1,h⟩:=b8 h;obtain⟨u,h2,h⟩:=b8 h;obtain⟨m,h3,h⟩:=Ll h;exact⟨_,_,_,by simp only[h1,h2,h3,bF],h⟩
 case typeAssert x xt t ok=>
  obtain⟨p,h1,h⟩:=b8 h;obtain⟨v,h2,h⟩:=cJ.1 h;exact⟨_,_,_,by simp only[h1,h2,bF],h⟩
 case extract x i=>
  obtain⟨v,h1,h⟩:=b8 h;obtain⟨v,h2,h⟩:=cJ.1 h;exact⟨_,_,_,by simp only[h1,h2,bF],h⟩
 case makeMap t r=>
  split at h
  ·exact⟨_,_,_,rfl,dM.1 h⟩
  ·exact h.elim
 case lookup t x ix ok=>
  obtain⟨v,h1,h⟩:=b8 h;obtain⟨u,h2,h⟩:=b8 h;obtain⟨m,h3,h⟩:=cJ.1 h;exact⟨_,_,_,by simp only[h1,h2,h3,bF],h⟩
 case mapUpdate t x y z=>
  obtain⟨v,h1,h⟩:=b8 h;obtain⟨u,h2,h⟩:=b8 h;obtain⟨u',h3,h⟩:=b8 h;obtain⟨m,h4,h⟩:=yC h;exact⟨_,_,_,by simp only[h1,h2,h3,h4],h⟩
 case insert t x y z=>
  obtain⟨v,h1,h⟩:=b8 h;obtain⟨u,h2,h⟩:=b8 h;obtain⟨u',h3,h⟩:=b8 h;obtain⟨m,h4,h⟩:=yC h;exact⟨_,_,_,by simp only[h1,h2,h3,h4],h⟩
 case call c=>
  split at h
  ·rename_i hb;simp only[hb];exact Hi h
  ·exact h.elim
def Fe(s:St)(K:List (Nat × AV)->aN->Nat->Nat->Prop):Prop:=
 match s with
 | ⟨sl,mem,nx,nt⟩=>K sl mem nx nt
theorem p6{s:St}{K:List (Nat × AV)->aN->Nat->Nat->Prop}:Fe s K↔K s.sl s.mem s.nx s.nt:=Iff.rfl
def mL(s:St)(d:Option Nat)(v:AV)(mem:aN)(nx:Nat)(K:St->Prop):Prop:=
 Fe s fun sl _ _ nt=>match d with
  | none=>K ⟨sl,mem,nx,nt⟩
  | some d=>oF (Nat.blt d nt) (Np sl d v fun sl=>K ⟨sl,mem,nx,nt⟩)
theorem eP{s:St}{d:Option Nat}{v:AV}{mem:aN}{nx:Nat}{K:St->Prop}(h:mL s d v mem nx K):∃s',eC s d v mem nx=some s'/\K s':=by
 cases d with
 | none=>exact⟨_,rfl,h⟩
 | some d=>
  obtain⟨h1,h⟩:=bU.1 h;exact⟨_,by simp only[eC,h1],qQ.1 h⟩
def sR(ops:List Oper)(sl:List (Nat × AV))(g:Option (Nat × Bool))(yes no:Prop):Prop:=
 match g with
 | none=>yes
 | some (j,want)=>match ops[j]? with
  | none=>no
  | some o=>match o.dst with
   | none=>no
   | some d=>match lk sl d with
    | some (.bool b)=>match want with
     | true=>NW b yes no
     | false=>NW b no yes
    | some (.tup [])=>no
    | _=>False
theorem uE{ops:List Oper}{s:St}{g:Option (Nat × Bool)}{yes no:Prop}(h:sR ops s.sl g yes no):(lD ops s g=some true/\yes)∨(lD ops s g=some false/\no):=by
 unfold sR at h;unfold lD;split at h
 ·exact .inl ⟨rfl,h⟩
 ·split at h
  ·rename_i e;exact .inr ⟨by simp only[e],h⟩
  ·rename_i e;simp only[e];split at h
   ·rename_i e;exact .inr ⟨by simp only[e],h⟩
   ·rename_i e;simp only[e];split at h
    ·rename_i b e;simp only[e];split at h
     ·cases b
      ·exact .inr ⟨rfl,h⟩
      ·exact .inl ⟨rfl,h⟩
     ·cases b
      ·exact .inl ⟨rfl,h⟩
      ·exact .inr ⟨rfl,h⟩
    ·rename_i e;exact .inr ⟨by simp only[e],h⟩
    ·exact h.elim
def Ly(P:Program)(Γ:List (Nat × AV))(sl:List (Nat × AV))(f:Operand)(args:List Operand)(E:AV->Prop)(K:FuncId->List AV->Prop):Prop:=
 lC Γ sl f fun v=>match v with
  | .fn (.func F) first cap=>Fi Γ sl args fun as=>match P.funcs[F]? with
   | some fn=>match fn.body with
    | some _=>match fn.name == "runtime.NumGoroutine" with
     | false=>match Nat.beq F YF with
      | false=>Cl first as fun l=>Cl l cap fun l=>K F l
      | true=>False
     | true=>False
    | none=>match BF fn with
     | true=>match first with
      | []=>match cap with
       | []=>match as with
        | [v]=>E v
        | _=>False
       | _=>False
      | _=>False
     | false=>False
   | none=>False
  | .yld id=>Fi Γ sl args fun as=>K YF (.yld id::as)
  | _=>False
theorem PQ{P:Program}{Γ:List (Nat × AV)}{s:St}{c:Call}{f:Operand}(hc:c.callee = .value f){E:AV->Prop}{K:FuncId->List AV->Prop}(h:Ly P Γ s.sl f c.args.toList E K) :
  (∃v,cP P Γ s (.call c)=some (v,s.mem,s.nx)/\E v)∨(cP P Γ s (.call c)=none/\∃F l,n8 P Γ s (.call c)=some (F,l)/\K F l):=by
 unfold Ly at h;obtain⟨v,h1,h⟩:=b8 h;split at h
 ·rename_i F first cap
  obtain⟨as,h2,h⟩:=nK h;split at h
  ·rename_i fn h3;split at h
   ·rename_i body h4;split at h
    ·rename_i h5;split at h
     ·rename_i h6;refine .inr ⟨?_,_,_,by simp only[n8,hc,h1,h2,h3,h4,h5,h6],gE.1 (gE.1 h)⟩;simp only[cP,hc,E8,h1];cases first<;>cases cap<;>simp only[h3,h4]
     ·exact h.elim
    ·exact h.elim
   ·rename_i h4;split at h
    ·rename_i h5;split at h
     ·split at h
      ·split at h
       ·exact .inl ⟨_,by simp only[cP,hc,E8,h1,h2,h3,h4,h5],h⟩
       ·exact h.elim
      ·exact h.elim
     ·exact h.elim
    ·exact h.elim
  ·exact h.elim
 ·rename_i id;obtain⟨as,h2,h⟩:=nK h;exact .inr ⟨by simp only[cP,hc,E8,h1],_,_,by simp only[n8,hc,h1,h2],h⟩
 ·exact h.elim
def Em(cl:Bool)(P:Program)(Γ:List (Nat × AV))(H:Hk)(sl:List (Nat × AV))(mem:aN)(nx:Nat)(op:Op)(K:AV->aN->Nat->Prop)(Kp:Value->aN->Nat->Prop):Prop:=
 match op with
 | .call c=>match c.callee with
  | .value f=>Ly P Γ sl f c.args.toList (fun v=>K v mem nx) fun F l=>H.call F l mem nx K Kp
  | _=>rX cl P Γ sl mem nx op K
 | _=>rX cl P Γ sl mem nx op K
theorem Cc{cl:Bool}{P:Program}{Γ:List (Nat × AV)}{H:Hk}{s:St}{op:Op}{K:AV->aN->Nat->Prop}{Kp:Value->aN->Nat->Prop}(h:Em cl P Γ H s.sl s.mem s.nx op K Kp) :
  (∃v m n,cP P Γ s op=some (v,m,n)/\K v m n)∨(cP P Γ s op=none/\∃F l,n8 P Γ s op=some (F,l)/\H.call F l s.mem s.nx K Kp):=by
 unfold Em at h;split at h
 ·split at h
  ·rename_i f hc;rcases PQ hc h with⟨v,h1,h⟩|h
   ·exact .inl ⟨_,_,_,h1,h⟩
   ·exact .inr h
  ·exact .inl (mR h)
 ·exact .inl (mR h)
def HJ(cl:Bool)(P:Program)(Γ:List (Nat × AV))(H:Hk)(sl:List (Nat × AV))(mem:aN)(nx:Nat)(op:Op)(K:AV->aN->Nat->Prop)(Kp:Value->aN->Nat->Prop):Prop:=
 match op with
 | .panic x=>lC Γ sl x fun v=>opt (quo v) fun y=>Kp y mem nx
 | op=>Em cl P Γ H sl mem nx op K Kp
theorem Ir{cl:Bool}{P:Program}{Γ:List (Nat × AV)}{H:Hk}{s:St}{op:Op}{K:AV->aN->Nat->Prop}{Kp:Value->aN->Nat->Prop}(h:HJ cl P Γ H s.sl s.mem s.nx op K Kp) :
  (∃v m n,cP P Γ s op=some (v,m,n)/\K v m n)∨(cP P Γ s op=none/\∃F l,n8 P Γ s op=some (F,l)/\H.call F l s.mem s.nx K Kp) ∨
   (cP P Γ s op=none/\n8 P Γ s op=none/\∃y,IL Γ s op=some y/\Kp y s.mem s.nx):=by
 unfold HJ at h;split at h
 ·obtain⟨v,h1,h⟩:=b8 h;obtain⟨y,h2,h⟩:=cJ.1 h;exact .inr (.inr ⟨rfl,rfl,y,by simp only[IL,h1,h2],h⟩)
 ·rcases Cc h with h|h
  ·exact .inl h
  ·exact .inr (.inl h)
def ND(cl:Bool)(P:Program)(Γ:List (Nat × AV))(H:Hk)(ops:List Oper):List Oper->St->(St->Prop)->(Value->St->Prop)->Prop
 | [],s,K,_=>K s
 | o::r,s,K,Kp=>Fe s fun sl mem nx nt=>sR ops sl o.guard
   (HJ cl P Γ H sl mem nx o.op (fun v mem nx=>mL s o.dst v mem nx fun s'=>ND cl P Γ H ops r s' K Kp) fun x mem nx=>Kp x ⟨sl,mem,nx,nt⟩)
   (mL s o.dst (.tup []) mem nx fun s'=>ND cl P Γ H ops r s' K Kp)
theorem Ev{cl:Bool}{P:Program}{Γ:List (Nat × AV)}{H:Hk}{B:Nat}(hH:zY P Γ B H)(ops:List Oper):∀(l:List Oper) (s:St) (K K':St->Prop) (Kp Kp':Value->St->Prop),(∀s,K s->K' s)->(∀x s,Kp x s->Kp' x s)->ND cl P Γ H ops l s K Kp->uI P Γ (Gq P Γ B) ops l s K' Kp'
 | [],s,K,K',Kp,Kp',hk,hp,h=>hk s h
 | o::r,s,K,K',Kp,Kp',hk,hp,h=>by
  simp only[ND] at h;simp only[uI];have h:=p6.1 h;rcases uE h with⟨h1,h⟩|⟨h1,h⟩
  ·simp only[h1];rcases Ir h with⟨v,m,n,h2,h⟩|⟨h2,F,l,h3,h⟩|⟨h2,h3,y,h4,h⟩
   ·obtain⟨s',h4,h⟩:=eP h;simp only[h2,h4];exact Ev hH ops r s' K K' Kp Kp' hk hp h
   ·simp only[h2,h3];refine(hH.call _ _ _ _ _ _ h).mono (fun v m n h=>?_) fun x m n h=>hp _ _ h
    obtain⟨s',h4,h⟩:=eP h;simp only[h4];exact Ev hH ops r s' K K' Kp Kp' hk hp h
   ·simp only[h2,h3,h4];exact hp _ _ h
  ·obtain⟨s',h4,h⟩:=eP h;simp only[h1,h4];exact Ev hH ops r s' K K' Kp Kp' hk hp h
def iH(f:Nat × AB->Bool):aN->(aN->Prop)->Prop
 | [],K=>K []
 | p::r,K=>match f p with
  | true=>iH f r fun l=>K (p::l)
  | false=>iH f r K
theorem cY{f:Nat × AB->Bool}:∀{m:aN} {K:aN->Prop},iH f m K↔K (m.filter f)
 | [],K=>Iff.rfl
 | p::r,K=>by
  simp only[iH,Wj];cases f p
  ·simpa using cY
  ·simpa using cY
def uL(cl:Bool)(P:Program)(Γ:List (Nat × AV))(ops:List Oper)(tr:List (List Nat))(base x:Nat)(mem:aN)(nx:Nat):List Ay->Prop->Prop
 | [],K=>K
 | r::rs,K=>match v9 r.i (T tr x) with
  | true=>uL cl P Γ ops tr base x mem nx rs K
  | false=>match r.want with
   | false=>uL cl P Γ ops tr base x mem nx rs K
   | true=>match ops[r.i]? with
    | none=>uL cl P Γ ops tr base x mem nx rs K
    | some o=>match kind P o.op with
     | .pure=>match still o.op with
      | true=>uL cl P Γ ops tr base x mem nx rs K
      | false=>iH (fun p=>JI tr base ops.length r.i p.1) mem fun m=>rX cl P Γ r.sl m nx o.op fun v _ _=>match cl with
       | true=>oF (k6 v r.v) (uL cl P Γ ops tr base x mem nx rs K)
       | false=>v=r.v/\uL cl P Γ ops tr base x mem nx rs K
     | _=>uL cl P Γ ops tr base x mem nx rs K
theorem oQ{cl:Bool}{P:Program}{Γ:List (Nat × AV)}{ops:List Oper}{tr:List (List Nat)}{base x:Nat}{s:St}:∀{recs:List Ay} {K:Prop},uL cl P Γ ops tr base x s.mem s.nx recs K->Ql P Γ ops tr base x s recs/\K
 | [],K,h=>⟨trivial,h⟩
 | r::rs,K,h=>by
  simp only[uL] at h;simp only[Ql];split at h
  ·rename_i h1;obtain⟨h2,h3⟩:=oQ h;exact⟨⟨fun e=>(by rw[h1] at e;cases e),h2⟩,h3⟩
  ·split at h
   ·rename_i h1;obtain⟨h2,h3⟩:=oQ h;exact⟨⟨fun _ e=>(by rw[h1] at e;cases e),h2⟩,h3⟩
   ·split at h
    ·rename_i h1;obtain⟨h2,h3⟩:=oQ h;exact⟨⟨fun _ _ o e=>(by rw[h1] at e;cases e),h2⟩,h3⟩
    ·rename_i o ho;split at h
     ·split at h
      ·rename_i h1;obtain⟨h2,h3⟩:=oQ h;refine⟨⟨fun _ _ o' e _ e'=>?_,h2⟩,h3⟩;rw[ho] at e;cases e;rw[h1] at e';cases e'
      ·have h:=cY.1 h;obtain⟨v,m,n,h1,h⟩:=mR (s:={ sl:=r.sl,mem:=i9 tr base ops.length r.i s.mem,nx:=s.nx,nt:=s.nt }) h;have key:v=r.v/\uL cl P Γ ops tr base x s.mem s.nx rs K:=by
        cases cl
        ·exact h
        ·obtain⟨h2,h3⟩:=bU.1 h;exact⟨wZ h2,h3⟩
       obtain⟨h2,h3⟩:=oQ key.2;refine⟨⟨fun _ _ o' e _ _=>?_,h2⟩,h3⟩;rw[ho] at e;cases e;exact⟨m,n,by rw[←key.1];exact h1⟩
     ·rename_i hk;obtain⟨h2,h3⟩:=oQ h;refine⟨⟨fun _ _ o' e e'=>?_,h2⟩,h3⟩;rw[ho] at e;cases e;exact(hk e').elim
def uO(cl:Bool)(P:Program)(Γ:List (Nat × AV))(H:Hk)(ops:List Oper)(tr:List (List Nat))(base:Nat)(K:St->Prop)(Kp:Value->aN->Nat->Prop):List Nat->List Ay->St->Prop
 | [],recs,s=>K s
 | i::r,recs,s=>match ops[i]? with
  | none=>False
  | some o=>Fe s fun sl mem nx nt=>sR ops sl o.guard
   (match kind P o.op with
    | .pure=>match still o.op with
     | true=>rX cl P Γ sl [] nx o.op fun v _ _=>mL s o.dst v mem nx fun s'=>uO cl P Γ H ops tr base K Kp r (⟨i,sl,true,v⟩::recs) s'
     | false=>iH (fun p=>JI tr base ops.length i p.1) mem fun m=>rX cl P Γ sl m nx o.op fun v _ _=>mL s o.dst v mem nx fun s'=>uO cl P Γ H ops tr base K Kp r (⟨i,sl,true,v⟩::recs) s'
    | .al=>oV (base+i) fun id=>rX cl P Γ sl [] id o.op fun v m _=>match m with
     | [(_,b)]=>mL s o.dst v ((id,b)::mem) nx fun s'=>uO cl P Γ H ops tr base K Kp r (⟨i,sl,true,v⟩::recs) s'
     | _=>False
    | .eff=>iH (fun p=>JI tr base ops.length i p.1) mem fun m=>Em cl P Γ H sl m nx o.op (fun v m nx'=>iH (fun p=>!JI tr base ops.length i p.1) mem fun rest=>iH (fun p=>!sJ p.1 m) rest fun rest=>Cl m rest fun m=>
      mL s o.dst v m nx' fun s'=>uL cl P Γ ops tr base i m nx' recs (uO cl P Γ H ops tr base K Kp r recs s')) Kp)
   (mL s o.dst (.tup []) mem nx fun s'=>uO cl P Γ H ops tr base K Kp r (⟨i,sl,false,.tup []⟩::recs) s')
theorem pV{cl:Bool}{P:Program}{Γ:List (Nat × AV)}{H:Hk}{B:Nat}(hH:zY P Γ B H)(ops:List Oper)(tr:List (List Nat))(base:Nat)(K K':St->Prop)(Kp Kp':Value->aN->Nat->Prop)(hk:∀s,K s->K' s)(hp:∀x m n,Kp x m n->Kp' x m n) :
  ∀(l:List Nat) (recs:List Ay) (s:St),uO cl P Γ H ops tr base K Kp l recs s->oU P Γ (Gq P Γ B) ops tr base K' Kp' l recs s
 | [],recs,s,h=>hk s h
 | i::r,recs,s,h=>by
  simp only[uO] at h;simp only[oU];split at h
  ·exact h.elim
  ·rename_i o ho;simp only[ho];have h:=p6.1 h;rcases uE h with⟨h1,h⟩|⟨h1,h⟩
   ·simp only[h1];split at h
    ·rename_i hkd;simp only[hkd];split at h
     ·rename_i hst;obtain⟨v,m,n,h2,h⟩:=mR (s:={ sl:=s.sl,mem:=[],nx:=s.nx,nt:=s.nt }) h;obtain⟨m',n',h2'⟩:=sU (s:={ sl:=s.sl,mem:=[],nx:=s.nx,nt:=s.nt }) (s':={ s with mem:=i9 tr base ops.length i s.mem }) hst rfl h2;obtain⟨s',h3,h⟩:=eP h;simp only[h2',h3];exact pV hH ops tr base K K' Kp Kp' hk hp r _ s' h
     ·have h:=cY.1 h;obtain⟨v,m,n,h2,h⟩:=mR (s:={ s with mem:=i9 tr base ops.length i s.mem }) h;obtain⟨s',h3,h⟩:=eP h;simp only[h2,h3];exact pV hH ops tr base K K' Kp Kp' hk hp r _ s' h
    ·rename_i hkd;simp only[hkd];have h:=dM.1 h;obtain⟨v,m,n,h2,h⟩:=mR (s:={ s with mem:=[],nx:=base+i }) h;simp only[h2];split at h
     ·obtain⟨s',h3,h⟩:=eP h;simp only[h3];exact pV hH ops tr base K K' Kp Kp' hk hp r _ s' h
     ·exact h.elim
    ·rename_i hkd;simp only[hkd];have h:=cY.1 h;rcases Cc (s:={ s with mem:=i9 tr base ops.length i s.mem }) h with⟨v,m,n,h2,h⟩|⟨h2,F,l,h3,h⟩
     ·simp only[h2];have h:=gE.1 (cY.1 (cY.1 h));obtain⟨s',h3,h⟩:=eP h;have h3:eC s o.dst v (m++tH m (gI tr base ops.length i s.mem)) n=some s':=h3;simp only[h3];obtain⟨e1,e2,_⟩:=gV h3;have h:uL cl P Γ ops tr base i (m++tH m (gI tr base ops.length i s.mem)) n recs (uO cl P Γ H ops tr base K Kp r recs s'):=h;rw[←e1,←e2] at h;obtain⟨h4,h⟩:=oQ h;exact⟨h4,pV hH ops tr base K K' Kp Kp' hk hp r _ s' h⟩
     ·rw[sC (s':=s) (fun x _=>by cases x<;>rfl)] at h3;simp only[h2,h3];refine(hH.call _ _ _ _ _ _ h).mono (fun v m n h=>?_) hp;have h:=gE.1 (cY.1 (cY.1 h));obtain⟨s',h3,h⟩:=eP h;have h3:eC s o.dst v (m++tH m (gI tr base ops.length i s.mem)) n=some s':=h3;simp only[h3];obtain⟨e1,e2,_⟩:=gV h3;have h:uL cl P Γ ops tr base i (m++tH m (gI tr base ops.length i s.mem)) n recs (uO cl P Γ H ops tr base K Kp r recs s'):=h;rw[←e1,←e2] at h;obtain⟨h4,h⟩:=oQ h;exact⟨h4,pV hH ops tr base K K' Kp Kp' hk hp r _ s' h⟩
   ·obtain⟨s',h3,h⟩:=eP h;simp only[h1,h3];exact pV hH ops tr base K K' Kp Kp' hk hp r _ s' h
def R9(sl:List (Nat × AV))(id nt:Nat)(m:aN)(n:Nat)(Q:Exit->St->Prop):Prop:=
 opt (lk m id) fun b=>match b with
  | .loop _ _ _ _ _ st pd=>match st with
   | .busy=>False
   | _=>iH (fun p=>!Nat.beq p.1 id) m fun m=>match pd with
    | none=>Q .normal ⟨sl,m,n,nt⟩
    | some .ret=>Q .ret ⟨sl,m,n,nt⟩
    | some (.exit i)=>Q (.exit i) ⟨sl,m,n,nt⟩
    | some _=>False
  | _=>False
theorem Qt{s:St}{m:aN}{n:Nat}{Q:Exit->St->Prop}(h:R9 s.sl s.nx s.nt m n Q):Ex s Q m n:=by
 obtain⟨b,h1,h⟩:=cJ.1 h;unfold Ex;simp only[h1];cases b with
 | loop sl nt ps ca cb st pd=>
  cases st<;>first|exact h.elim|(simp only at h ⊢;have h:=cY.1 h;exact h)
 | _=>exact h.elim
theorem Ex.mono{s:St}{m:aN}{n:Nat}{Q Q':Exit->St->Prop}(hq:∀e s,Q e s->Q' e s)(h:Ex s Q m n):Ex s Q' m n:=by
 unfold Ex at h ⊢;split at h
 ·split at h
  ·exact h
  ·split at h
   ·exact hq _ _ h
   ·exact hq _ _ h
   ·exact hq _ _ h
   ·exact h
 ·exact h
def Ao(cl:Bool)(P:Program)(Γ:List (Nat × AV))(H:Hk):Code->St->(Exit->St->Prop)->Prop
 | .skip,s,Q=>Q .normal s
 | .seq x y,s,Q=>Ao cl P Γ H x s fun e s'=>match e with
  | .normal=>Ao cl P Γ H y s' Q
  | e=>Q e s'
 | .cond c x y,s,Q=>Fe s fun sl _ _ _=>lC Γ sl c fun v=>match v with
  | .bool b=>NW b (Ao cl P Γ H x s Q) (Ao cl P Γ H y s Q)
  | _=>False
 | .block id c,s,Q=>Ao cl P Γ H c s fun e s'=>match e with
  | .exit i=>match Nat.beq i id with
   | true=>Q .normal s'
   | false=>Q (.exit i) s'
  | e=>Q e s'
 | .loop c,s,Q=>H.loop c s Q
 | .label _,s,Q=>Q .normal s
 | .scope c,s,Q=>Ao cl P Γ H c s fun e s'=>match e with
  | .goto _=>False
  | e=>Q e s'
 | .exit i,s,Q=>Q (.exit i) s
 | .ret,s,Q=>Q .ret s
 | .region _ ops draw,s,Q=>match draw with
  | false=>ND cl P Γ H ops.toList ops.toList s (fun s'=>Q .normal s') fun x s'=>Q (.panic [pe x]) s'
  | true=>match P.follows .mixedOrders with
   | true=>match Bf P ops.toList (wT P ops.toList ops.toList.length [] (y5 ops.toList.length)) with
    | true=>Fe s fun sl mem nx nt=>oV (nx+ops.toList.length) fun n=>AE (wT P ops.toList ops.toList.length [] (y5 ops.toList.length)) fun ord=>uO cl P Γ H ops.toList (KN ops.toList []) nx (fun s'=>Q .normal s') (fun x m n=>Q (.panic [pe x]) ⟨uZ ops.toList sl,m,n,nt⟩) ord [] ⟨sl,mem,n,nt⟩
    | false=>False
   | false=>False
 | .rangeFunc g ps ca cb,s,Q=>Fe s fun sl mem nx nt=>lC Γ sl g fun v=>match v with
  | .fn (.func G) first cap=>match P.funcs[G]? with
   | some fn=>match fn.body with
    | some _=>match fn.name == "runtime.NumGoroutine" with
     | false=>match Nat.beq G YF with
      | false=>oV (nx+1) fun n=>Cl first (.yld nx::cap) fun l=>H.call G l ((nx,.loop sl nt ps ca cb .ready none)::mem) n (fun _ m n=>R9 sl nx nt m n Q) fun x m n=>Q (.panic [pe x]) ⟨sl,m,n,nt⟩
      | true=>False
     | true=>False
    | none=>False
   | none=>False
  | _=>False
 | _,_,_=>False
theorem Sf{cl:Bool}{P:Program}{Γ:List (Nat × AV)}{H:Hk}{B:Nat}(hH:zY P Γ B H):∀(c:Code) (s:St) (Q Q':Exit->St->Prop),(∀e s,Q e s->Q' e s)->Ao cl P Γ H c s Q->DA P Γ (Gq P Γ B) c s Q':=by
 intro c
 induction c with
 | skip=>exact fun s Q Q' hq h=>hq _ _ h
 | label l=>exact fun s Q Q' hq h=>hq _ _ h
 | scope c ih=>
  intro s Q Q' hq h;simp only[Ao] at h;simp only[DA];refine ih s _ _ (fun e s' h=>?_) h;cases e with
  | goto l=>exact h
  | normal=>exact hq _ _ h
  | exit i=>exact hq _ _ h
  | ret=>exact hq _ _ h
  | panic c=>exact hq _ _ h
  | outgrown=>exact hq _ _ h
 | exit i=>exact fun s Q Q' hq h=>hq _ _ h
 | ret=>exact fun s Q Q' hq h=>hq _ _ h
 | loop c ih=>exact fun s Q Q' hq h=>(hH.loop c s Q h).mono hq
 | seq x y ihx ihy=>
  intro s Q Q' hq h;simp only[Ao] at h;simp only[DA];refine ihx s _ _ (fun e s' h=>?_) h;cases e with
  | normal=>exact ihy s' Q Q' hq h
  | exit i=>exact hq _ _ h
  | goto l=>exact hq _ _ h
  | ret=>exact hq _ _ h
  | panic c=>exact hq _ _ h
  | outgrown=>exact hq _ _ h
 | cond c x y ihx ihy=>
  intro s Q Q' hq h;simp only[Ao] at h;simp only[DA];have h:=p6.1 h;obtain⟨v,h1,h⟩:=b8 h;simp only[h1];split at h
  ·rename_i b;cases b
   ·exact ihy s Q Q' hq h
   ·exact ihx s Q Q' hq h
  ·exact h.elim
 | block id c ih=>
  intro s Q Q' hq h;simp only[Ao] at h;simp only[DA];refine ih s _ _ (fun e s' h=>?_) h;cases e with
  | exit i=>
   simp only at h ⊢;split at h
   ·rename_i e;simp only[e];exact hq _ _ h
   ·rename_i e;simp only[e];exact hq _ _ h
  | normal=>exact hq _ _ h
  | goto l=>exact hq _ _ h
  | ret=>exact hq _ _ h
  | panic c=>exact hq _ _ h
  | outgrown=>exact hq _ _ h
 | region id ops draw=>
  intro s Q Q' hq h;cases draw with
  | false=>
   simp only[Ao] at h;simp only[DA];exact Ev hH _ _ _ _ _ _ _ (fun s h=>hq _ _ h) (fun x s h=>hq _ _ h) h
  | true=>
   simp only[Ao] at h;simp only[DA];split at h
   ·rename_i hmix;simp only[hmix];split at h
    ·rename_i hok;simp only[GK,hok];exact pV hH _ _ _ _ _ _ _ (fun s h=>hq _ _ h) (fun x m n h=>hq _ _ h) _ _ _ (nE.1 (dM.1 (p6.1 h)))
    ·exact h.elim
   ·exact h.elim
 | rangeFunc g ps ca cb=>
  intro s Q Q' hq h;simp only[Ao] at h;obtain⟨v,h1,h⟩:=b8 (s:=s) (p6.1 h);simp only[DA,h1];split at h<;>first|exact h.elim|skip
  split at h<;>first|exact h.elim|skip
  rename_i fn hf;split at h<;>first|exact h.elim|skip
  rename_i c0 hb;split at h<;>first|exact h.elim|skip
  rename_i hn;split at h<;>first|exact h.elim|skip
  rename_i hG;simp only[hf,hb,hn,hG];exact(hH.call _ _ _ _ _ _ (gE.1 (dM.1 h))).mono (fun _ m n h=>(Qt h).mono hq) fun x m n h=>hq _ _ h
 | _=>intro s Q Q' hq h;simp only[Ao] at h
theorem eY{cl:Bool}{P:Program}{Γ:List (Nat × AV)}{H:Hk}{B:Nat}(hH:zY P Γ B H)(c:Code)(s:St)(Q:Exit->St->Prop)(h:Ao cl P Γ H c s Q):eD P Γ B c s Q:=
 zE OY c s Q (Sf hH c s Q Q (fun _ _ h=>h) h)
def I5:Nat->List AV->(List (Nat × AV)->Prop)->Prop
 | _,[],K=>K []
 | k,a::r,K=>oV k fun k=>I5 (k+1) r fun l=>K ((k,a)::l)
theorem D9:∀{k:Nat} {l:List AV} {K:List (Nat × AV)->Prop},I5 k l K↔K (HF k l)
 | k,[],K=>Iff.rfl
 | k,a::r,K=>by simp only[I5,HF,dM,D9]
def zK(ntmps:Nat)(args:List AV)(mem:aN)(nx:Nat)(K:St->Prop):Prop:=
 I5 0 args fun sl=>oF (Nat.ble args.length ntmps) (oV ntmps fun nt=>K ⟨sl,mem,nx,nt⟩)
theorem nQ{ntmps:Nat}{args:List AV}{mem:aN}{nx:Nat}{K:St->Prop}(h:zK ntmps args mem nx K):K (enter ntmps args mem nx):=by
 obtain⟨h1,h⟩:=bU.1 (D9.1 h);have h:=dM.1 h;have h1:=T3 h1;have e:enter ntmps args mem nx=⟨HF 0 args,mem,nx,ntmps⟩:=by simp only[enter];congr 1;omega
 rw[e];exact h
def If(P:Program)(s:St):List ResultVar->(List AV->Prop)->Prop
 | [],K=>K []
 | .tmp t::r,K=>opt (lk s.sl t) fun v=>If P s r fun l=>K (v::l)
 | .cell a t::r,K=>opt (lk s.sl a) fun p=>JT P s.mem t p fun v=>If P s r fun l=>K (v::l)
theorem FP{P:Program}{s:St}:∀{rs:List ResultVar} {K:List AV->Prop},If P s rs K->∃l,uR P s rs=some l/\K l
 | [],K,h=>⟨[],rfl,h⟩
 | .tmp t::r,K,h=>by
  obtain⟨v,h1,h⟩:=cJ.1 h;obtain⟨l,h2,h⟩:=FP h;exact⟨_,by simp only[uR,h1,h2],h⟩
 | .cell a t::r,K,h=>by
  obtain⟨p,h1,h⟩:=cJ.1 h;obtain⟨v,h2,h⟩:=JN h;obtain⟨l,h3,h⟩:=FP h;exact⟨_,by simp only[uR,h1,h2,h3],h⟩
def ES(P:Program)(rs:List ResultVar)(s:St)(K:AV->Prop):Prop:=
 If P s rs fun l=>match l with
  | [v]=>K v
  | []=>K (.tup [])
  | a::b::r=>K (.tup (a::b::r))
theorem Eb{P:Program}{rs:List ResultVar}{s:St}{K:AV->Prop}(h:ES P rs s K):∃v,Am P rs s=some v/\K v:=by
 obtain⟨l,h1,h⟩:=FP h;unfold Am;rw[h1]
 match l,h with
 | [v],h=>exact⟨_,rfl,h⟩
 | [],h=>exact⟨_,rfl,h⟩
 | a::b::r,h=>exact⟨_,rfl,h⟩
def L0(P:Program)(rs:List ResultVar)(Q:AV->aN->Nat->Prop):Exit->St->Prop:=fun e s=>
 match e with
 | .normal=>Fe s fun _ mem nx _=>ES P rs s fun r=>Q r mem nx
 | .ret=>Fe s fun _ mem nx _=>ES P rs s fun r=>Q r mem nx
 | _=>False
theorem M5{P:Program}{rs:List ResultVar}{Q:AV->aN->Nat->Prop}{e:Exit}{s:St}(h:L0 P rs Q e s):Kl P rs Q e s:=by
 cases e with
 | normal=>
  obtain⟨v,h1,h⟩:=Eb (show ES P rs s _ from h);simp only[Kl,h1];exact h
 | ret=>
  obtain⟨v,h1,h⟩:=Eb (show ES P rs s _ from h);simp only[Kl,h1];exact h
 | _=>exact(show False from h).elim
theorem f6{P:Program}{Γ:List (Nat × AV)}{F:FuncId}{fn:Func}{c:Code}{args:List AV}{mem:aN}{nx:Nat}{Q:AV->aN->Nat->Prop}(hΓ:∀p∈Γ,NN p.2)(hf:P.funcs[F]? = some fn)(hb:fn.body=some c)
  (h:zK fn.ntmps args mem nx fun s=>Ao false P Γ (H1 P Γ nx) c s (L0 P fn.results.toList (oH nx Q))) (hF:Nat.beq F YF=false:=by rfl):aE P Γ F args mem nx Q:=
 (u9 hf hb ((eY p8 _ _ _ (nQ h)).mono fun _ _ h=>M5 h) hF).turn hΓ
def Ib(P:Program)(rs:List ResultVar)(Q:AV->aN->Nat->Prop)(Qp:Value->aN->Nat->Prop):Exit->St->Prop:=fun e s=>
 match e with
 | .normal=>Fe s fun _ mem nx _=>ES P rs s fun r=>Q r mem nx
 | .ret=>Fe s fun _ mem nx _=>ES P rs s fun r=>Q r mem nx
 | .panic [⟨x,false,false⟩]=>Fe s fun _ mem nx _=>Qp x mem nx
 | _=>False
theorem IY{P:Program}{rs:List ResultVar}{Q:AV->aN->Nat->Prop}{Qp:Value->aN->Nat->Prop}{e:Exit}{s:St}(h:Ib P rs Q Qp e s):B8 P rs Q Qp e s:=by
 cases e with
 | normal=>
  obtain⟨v,h1,h⟩:=Eb (show ES P rs s _ from h);simp only[B8,h1];exact h
 | ret=>
  obtain⟨v,h1,h⟩:=Eb (show ES P rs s _ from h);simp only[B8,h1];exact h
 | panic ch=>
  unfold Ib at h;split at h
  ·rename_i e;cases e
  ·rename_i e;cases e
  ·rename_i e;cases e;exact h
  ·exact h.elim
 | _=>exact(show False from h).elim
end Go.Ax
