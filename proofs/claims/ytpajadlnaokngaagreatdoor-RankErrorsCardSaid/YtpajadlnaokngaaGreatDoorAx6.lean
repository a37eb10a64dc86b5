/- A part of the proof. -/
import Derived.Test.YtpajadlnaokngaaGreatDoorAx5
set_option linter.unusedVariables false
set_option linter.unusedSimpArgs false
set_option linter.unusedSectionVars false
namespace Go.Ax
open Go
def H8(cl:Bool)(P:Program)(mem:aK)(t:TypeId)(x y:AV)(K:AV->aK->Prop):Prop:=
 match P.underlying t with
 | some (.slice e)=>match eC P e with
  | some n=>match x with
   | .sl id 0 len=>match lk mem id with
    | some (.row t' sz' xs)=>Jc cl mem n y fun ys=>kL (Nat.blt 0 n && (Nat.beq sz' n && (Nat.ble ys.length len && Nat.ble len xs.length)))
      (nT cl (xs.drop ys.length) fun zs=>Ie cl ys zs fun zs=>sS cl ys.length fun l=>Bu mem id (.row t' sz' zs) fun m=>K (.int .i64 l) m)
    | _=>False
   | _=>False
  | none=>False
 | _=>False
theorem Im{cl:Bool}{P:Program}{mem:aK}{t:TypeId}{x y:AV}{K:AV->aK->Prop}(h:H8 cl P mem t x y K):∃v m,B7 P mem t x y=some (v,m)/\K v m:=by
 unfold H8 at h;unfold B7;split at h
 ·rename_i e hu;simp only[hu];split at h
  ·rename_i n hn;simp only[hn];split at h
   ·split at h
    ·rename_i hid;obtain⟨ys,h4,h⟩:=Hc h;obtain⟨h5,h⟩:=bB.1 h;rw[Mg] at h5;exact⟨_,_,by simp only[h5.1,hid,h4,h5.2],iN.1 (fH.1 (CY.1 (fM.1 h)))⟩
    ·exact h.elim
   ·exact h.elim
  ·exact h.elim
 ·exact h.elim
def EB(P:Program)(mem:aK)(t:TypeId)(x:AV)(K:aK->Prop):Prop:=
 match P.underlying t with
 | some (.slice e)=>match jN P e with
  | some z=>match x with
   | .sl id off len=>match lk mem id with
    | some (.row t' sz xs)=>kL (hY z && (Nat.beq z.cells.length sz && (Nat.blt 0 sz && (Nat.blt 0 len && Nat.ble (off+len) xs.length))))
      (Bu mem id (.row t' sz (xs.take off++(List.replicate len z++xs.drop (off+len)))) fun m=>K m)
    | _=>False
   | _=>False
  | none=>False
 | _=>False
theorem Hu{P:Program}{mem:aK}{t:TypeId}{x:AV}{K:aK->Prop}(h:EB P mem t x K):∃m,wF P mem t x=some m/\K m:=by
 unfold EB at h;unfold wF;split at h
 ·rename_i e hu;simp only[hu];split at h
  ·rename_i z hz;simp only[hz];split at h
   ·split at h
    ·rename_i hid;obtain⟨h5,h⟩:=bB.1 h;exact⟨_,by simp only[hid,h5],iN.1 h⟩
    ·exact h.elim
   ·exact h.elim
  ·exact h.elim
 ·exact h.elim
def rR(cl:Bool)(P:Program)(Γ:List (Nat × AV))(sl:List (Nat × AV))(mem:aK)(nx:Nat)(b:Builtin)(args:List Operand)(ts:List TypeId)(K:AV->aK->Nat->Prop):Prop:=
 match b with
 | .len=>match args,ts with
  | [x],[t]=>iA Γ sl x fun a=>opt (IR P mem t a) fun v=>match v with
   | .int k n=>nD cl k n fun v=>K v mem nx
   | _=>False
  | _,_=>False
 | .append=>match args,ts with
  | [x,y],[t,u]=>iA Γ sl x fun a=>iA Γ sl y fun b=>An cl P mem nx t u a b K
  | _,_=>False
 | .min=>CT Γ sl args fun l=>match l with
  | .int k x::r=>opt (GJ x r) fun m=>nD cl k m fun v=>K v mem nx
  | _=>False
 | .max=>CT Γ sl args fun l=>match l with
  | .int k x::r=>opt (GN x r) fun m=>nD cl k m fun v=>K v mem nx
  | _=>False
 | .unsafeSliceData=>match args,ts with
  | [x],[_]=>iA Γ sl x fun a=>opt (nC a) fun v=>K v mem nx
  | _,_=>False
 | .unsafeString=>match args,ts with
  | [x,y],[t,_]=>iA Γ sl x fun a=>iA Γ sl y fun b=>match sT P mem t a b with
   | some (.str l,m)=>nT cl l fun l=>wZ m fun m=>K (.str l) m nx
   | _=>False
  | _,_=>False
 | .copy=>match args,ts with
  | [x,y],[t,_]=>iA Γ sl x fun a=>iA Γ sl y fun b=>H8 cl P mem t a b fun v m=>K v m nx
  | _,_=>False
 | .clear=>match args,ts with
  | [x],[t]=>iA Γ sl x fun a=>EB P mem t a fun m=>K (.tup []) m nx
  | _,_=>False
 | _=>False
theorem DE{cl:Bool}{P:Program}{Γ:List (Nat × AV)}{s:St}{b:Builtin}{args:List Operand}{ts:List TypeId}{K:AV->aK->Nat->Prop}(h:rR cl P Γ s.sl s.mem s.nx b args ts K) :
  ∃v m n,cT P Γ s b args ts=some (v,m,n)/\K v m n:=by
 unfold rR at h;split at h
 ·split at h
  ·obtain⟨a,h1,h⟩:=bH h;obtain⟨v,h2,h⟩:=bG.1 h;split at h
   ·exact⟨_,_,_,by simp only[cT,h1,h2,aV],jD.1 h⟩
   ·exact h.elim
  ·exact h.elim
 ·split at h
  ·obtain⟨a,h1,h⟩:=bH h;obtain⟨b,h2,h⟩:=bH h;obtain⟨v,m,n,h3,h⟩:=GD h;exact⟨_,_,_,by simp only[cT,h1,h2];exact h3,h⟩
  ·exact h.elim
 ·obtain⟨l,h1,h⟩:=kO h;split at h
  ·obtain⟨m,h2,h⟩:=bG.1 h;exact⟨_,_,_,by simp only[cT,h1,h2],jD.1 h⟩
  ·exact h.elim
 ·obtain⟨l,h1,h⟩:=kO h;split at h
  ·obtain⟨m,h2,h⟩:=bG.1 h;exact⟨_,_,_,by simp only[cT,h1,h2],jD.1 h⟩
  ·exact h.elim
 ·split at h
  ·obtain⟨a,h1,h⟩:=bH h;obtain⟨v,h2,h⟩:=bG.1 h;exact⟨_,_,_,by simp only[cT,h1,h2,aV],h⟩
  ·exact h.elim
 ·split at h
  ·obtain⟨a,h1,h⟩:=bH h;obtain⟨b,h2,h⟩:=bH h;split at h
   ·rename_i l m h3;exact⟨_,_,_,by simp only[cT,h1,h2,h3],rA.1 (fM.1 h)⟩
   ·exact h.elim
  ·exact h.elim
 ·split at h
  ·obtain⟨a,h1,h⟩:=bH h;obtain⟨b,h2,h⟩:=bH h;obtain⟨v,m,h3,h⟩:=Im h;exact⟨_,_,_,by simp only[cT,h1,h2,h3],h⟩
  ·exact h.elim
 ·split at h
  ·obtain⟨a,h1,h⟩:=bH h;obtain⟨m,h3,h⟩:=Hu h;exact⟨_,_,_,by simp only[cT,h1,h3],h⟩
  ·exact h.elim
 ·exact h.elim
def oR(cl:Bool)(P:Program)(Γ:List (Nat × AV))(sl:List (Nat × AV))(mem:aK)(nx:Nat)(op:Op)(K:AV->aK->Nat->Prop):Prop:=
 match op with
 | .move x=>iA Γ sl x fun v=>K v mem nx
 | .assign x=>iA Γ sl x fun v=>K v mem nx
 | .pick c a b=>iA Γ sl c fun c=>match c with
  | .bool c=>GW c (iA Γ sl a fun v=>K v mem nx) (iA Γ sl b fun v=>K v mem nx)
  | _=>False
 | .alloc t=>Al P mem nx t K
 | .box t x=>iA Γ sl x fun v=>KE P mem nx t v K
 | .build t parts=>l7 Γ sl parts.toList fun ps=>AR P t ps fun v=>K v mem nx
 | .buildSlice t len parts=>l7 Γ sl parts.toList fun ps=>lA P mem nx t len ps K
 | .load t x=>iA Γ sl x fun p=>Ch P mem t p fun v=>K v mem nx
 | .store t x y=>iA Γ sl x fun p=>iA Γ sl y fun v=>Au P mem t p v fun m=>K (.tup []) m nx
 | .nilCheck x=>iA Γ sl x fun p=>opt (G3 p) fun v=>K v mem nx
 | .binOp op t x y _=>iA Γ sl x fun a=>iA Γ sl y fun b=>JC cl P op t x y a b fun v=>K v mem nx
 | .unOp op _ x=>iA Γ sl x fun a=>Lr cl op a fun v=>K v mem nx
 | .convert src dst x=>iA Γ sl x fun a=>match P.underlying dst with
  | some (.slice _)=>pF cl P mem nx src dst a K
  | _=>FZ cl P mem src dst a fun v=>K v mem nx
 | .makeInterface t x=>iA Γ sl x fun a=>opt (AS P t a) fun v=>K v mem nx
 | .makeFunc fn first cap=>CT Γ sl first.toList fun l1=>CT Γ sl cap.toList fun l2=>K (.fn fn l1 l2) mem nx
 | .makeSlice t l c=>iA Γ sl l fun a=>iA Γ sl c fun b=>Gd cl P mem nx t a b K
 | .slice t x lo hi mx=>iA Γ sl x fun a=>AQ Γ sl lo fun l=>AQ Γ sl hi fun h=>AQ Γ sl mx fun m=>match !m.isSome || h.isSome with
  | true=>DO cl P mem t a l h m fun v=>K v mem nx
  | false=>False
 | .fieldAddr t x f=>iA Γ sl x fun p=>mM P t f p fun v=>K v mem nx
 | .field t x f=>iA Γ sl x fun p=>AZ P t f p fun v=>K v mem nx
 | .indexAddr t x ix=>iA Γ sl x fun p=>iA Γ sl ix fun i=>mL cl P mem t p i fun v=>K v mem nx
 | .index t x ix=>iA Γ sl x fun p=>iA Γ sl ix fun i=>Aw cl P t p i fun v=>K v mem nx
 | .extract x i=>iA Γ sl x fun p=>opt (oJ p i) fun v=>K v mem nx
 | .typeAssert x _ t ok=>iA Γ sl x fun p=>opt (vK P t ok p) fun v=>K v mem nx
 | .makeMap _ reserve=>match reserve with
  | none=>lK (nx+1) fun n=>K (.mp nx) ((nx,.mapb [])::mem) n
  | some _=>False
 | .lookup t x ix ok=>iA Γ sl x fun p=>iA Γ sl ix fun i=>opt (rS P mem t p i ok) fun v=>K v mem nx
 | .mapUpdate t x y z=>iA Γ sl x fun p=>iA Γ sl y fun k=>iA Γ sl z fun v=>kN P mem t p k v fun m=>K (.tup []) m nx
 | .insert t x y z=>iA Γ sl x fun p=>iA Γ sl y fun k=>iA Γ sl z fun v=>kN P mem t p k v fun m=>K (.tup []) m nx
 | .call c=>match c.callee with
  | .builtin b=>rR cl P Γ sl mem nx b c.args.toList c.argTypes.toList K
  | _=>False
 | _=>False
theorem jW{cl:Bool}{P:Program}{Γ:List (Nat × AV)}{s:St}{op:Op}{K:AV->aK->Nat->Prop}(h:oR cl P Γ s.sl s.mem s.nx op K):∃v m n,bS P Γ s op=some (v,m,n)/\K v m n:=by
 cases op<;>simp only[oR] at h<;>simp only[bS]<;>first|exact h.elim|skip
 case move x=>
  obtain⟨v,h1,h⟩:=bH h;exact⟨_,_,_,by simp only[h1,aV],h⟩
 case assign x=>
  obtain⟨v,h1,h⟩:=bH h;exact⟨_,_,_,by simp only[h1,aV],h⟩
 case pick c x y=>
  obtain⟨v,h1,h⟩:=bH h;split at h
  ·rename_i b;cases b
   ·obtain⟨v,h2,h⟩:=bH (show iA Γ s.sl y _ from h);exact⟨_,_,_,by simp only[h1,h2,aV],h⟩
   ·obtain⟨v,h2,h⟩:=bH (show iA Γ s.sl x _ from h);exact⟨_,_,_,by simp only[h1,h2,aV],h⟩
  ·exact h.elim
 case alloc t=>exact Hr h
 case box t x=>
  obtain⟨v,h1,h⟩:=bH h;simp only[h1];exact KR h
 case build t parts=>
  obtain⟨v,h1,h⟩:=oN h;obtain⟨v,h2,h⟩:=Gv h;exact⟨_,_,_,by simp only[h1,h2,aV],h⟩
 case buildSlice t len parts=>
  obtain⟨v,h1,h⟩:=oN h;simp only[h1];exact y7 h
 case load t x=>
  obtain⟨v,h1,h⟩:=bH h;obtain⟨v,h2,h⟩:=FK h;exact⟨_,_,_,by simp only[h1,h2,aV],h⟩
 case store t x y=>
  obtain⟨v,h1,h⟩:=bH h;obtain⟨u,h2,h⟩:=bH h;obtain⟨m,h3,h⟩:=Hw h;exact⟨_,_,_,by simp only[h1,h2,h3],h⟩
 case nilCheck x=>
  obtain⟨v,h1,h⟩:=bH h;obtain⟨v,h2,h⟩:=bG.1 h;exact⟨_,_,_,by simp only[h1,h2,aV],h⟩
 case binOp op t x y t'=>
  obtain⟨v,h1,h⟩:=bH h;obtain⟨u,h2,h⟩:=bH h;obtain⟨m,h3,h⟩:=Jv h;exact⟨_,_,_,by simp only[h1,h2,h3,aV],h⟩
 case unOp op t x=>
  obtain⟨v,h1,h⟩:=bH h;obtain⟨v,h2,h⟩:=Lf h;exact⟨_,_,_,by simp only[h1,h2,aV],h⟩
 case convert src dst x=>
  obtain⟨v,h1,h⟩:=bH h;simp only[h1];split at h
  ·rename_i e hu;have hn:wR P s.mem src dst v=none:=by
    unfold wR;split
    ·rfl
    ·rw[hu]
   rw[hn];exact Cr h
  ·obtain⟨u,h2,h⟩:=IV h;exact⟨_,_,_,by simp only[h2],h⟩
 case makeInterface t x=>
  obtain⟨v,h1,h⟩:=bH h;obtain⟨v,h2,h⟩:=bG.1 h;exact⟨_,_,_,by simp only[h1,h2,aV],h⟩
 case makeFunc fn first cap=>
  obtain⟨v,h1,h⟩:=kO h;obtain⟨v,h2,h⟩:=kO h;exact⟨_,_,_,by simp only[h1,h2],h⟩
 case makeSlice t l c=>
  obtain⟨v,h1,h⟩:=bH h;obtain⟨u,h2,h⟩:=bH h;simp only[h1,h2];exact Id h
 case slice t x lo hi mx=>
  obtain⟨v,h1,h⟩:=bH h;obtain⟨l,h2,h⟩:=tO h;obtain⟨h',h3,h⟩:=tO h;obtain⟨m,h4,h⟩:=tO h;simp only[h1,h2,h3,h4];split at h
  ·rename_i e;obtain⟨u,h5,h⟩:=G4 h;exact⟨_,_,_,by simp only[e,h5,aV],h⟩
  ·exact h.elim
 case fieldAddr t x f=>
  obtain⟨v,h1,h⟩:=bH h;obtain⟨v,h2,h⟩:=AT h;exact⟨_,_,_,by simp only[h1,h2,aV],h⟩
 case field t x f=>
  obtain⟨v,h1,h⟩:=bH h;obtain⟨v,h2,h⟩:=HQ h;exact⟨_,_,_,by simp only[h1,h2,aV],h⟩
 case indexAddr t x ix=>
  obtain⟨v,h1,h⟩:=bH h;obtain⟨u,h2,h⟩:=bH h;obtain⟨m,h3,h⟩:=Ah h;exact⟨_,_,_,by simp only[h1,h2,h3,aV],h⟩
 case index t x ix=>
  obtain⟨v,h1,h⟩:=bH h;obtain⟨u,h2,h⟩:=bH h;obtain⟨m,h3,h⟩:=IH h;exact⟨_,_,_,by simp only[h1,h2,h3,aV],h⟩
 case typeAssert x xt t ok=>
  obtain⟨p,h1,h⟩:=bH h;obtain⟨v,h2,h⟩:=bG.1 h;exact⟨_,_,_,by simp only[h1,h2,aV],h⟩
 case extract x i=>
  obtain⟨v,h1,h⟩:=bH h;obtain⟨v,h2,h⟩:=bG.1 h;exact⟨_,_,_,by simp only[h1,h2,aV],h⟩
 case makeMap t r=>
  split at h
  ·exact⟨_,_,_,rfl,cU.1 h⟩
  ·exact h.elim
 case lookup t x ix ok=>
  obtain⟨v,h1,h⟩:=bH h;obtain⟨u,h2,h⟩:=bH h;obtain⟨m,h3,h⟩:=bG.1 h;exact⟨_,_,_,by simp only[h1,h2,h3,aV],h⟩
 case mapUpdate t x y z=>
  obtain⟨v,h1,h⟩:=bH h;obtain⟨u,h2,h⟩:=bH h;obtain⟨u',h3,h⟩:=bH h;obtain⟨m,h4,h⟩:=rO h;exact⟨_,_,_,by simp only[h1,h2,h3,h4],h⟩
 case insert t x y z=>
  obtain⟨v,h1,h⟩:=bH h;obtain⟨u,h2,h⟩:=bH h;obtain⟨u',h3,h⟩:=bH h;obtain⟨m,h4,h⟩:=rO h;exact⟨_,_,_,by simp only[h1,h2,h3,h4],h⟩
 case call c=>
  split at h
  ·rename_i hb;simp only[hb];exact DE h
  ·exact h.elim
def Aj(s:St)(K:List (Nat × AV)->aK->Nat->Nat->Prop):Prop:=
 match s with
 | ⟨sl,mem,nx,nt⟩=>K sl mem nx nt
theorem j7{s:St}{K:List (Nat × AV)->aK->Nat->Nat->Prop}:Aj s K↔K s.sl s.mem s.nx s.nt:=Iff.rfl
def kY(s:St)(d:Option Nat)(v:AV)(mem:aK)(nx:Nat)(K:St->Prop):Prop:=
 Aj s fun sl _ _ nt=>match d with
  | none=>K ⟨sl,mem,nx,nt⟩
  | some d=>kL (Nat.blt d nt) (Bu sl d v fun sl=>K ⟨sl,mem,nx,nt⟩)
theorem eM{s:St}{d:Option Nat}{v:AV}{mem:aK}{nx:Nat}{K:St->Prop}(h:kY s d v mem nx K):∃s',dG s d v mem nx=some s'/\K s':=by
 cases d with
 | none=>exact⟨_,rfl,h⟩
 | some d=>
  obtain⟨h1,h⟩:=bB.1 h;exact⟨_,by simp only[dG,h1],iN.1 h⟩
def nQ(ops:List Oper)(sl:List (Nat × AV))(g:Option (Nat × Bool))(yes no:Prop):Prop:=
 match g with
 | none=>yes
 | some (j,want)=>match ops[j]? with
  | none=>no
  | some o=>match o.dst with
   | none=>no
   | some d=>match lk sl d with
    | some (.bool b)=>match want with
     | true=>GW b yes no
     | false=>GW b no yes
    | some (.tup [])=>no
    | _=>False
theorem rY{ops:List Oper}{s:St}{g:Option (Nat × Bool)}{yes no:Prop}(h:nQ ops s.sl g yes no):(iQ ops s g=some true/\yes)∨(iQ ops s g=some false/\no):=by
 unfold nQ at h;unfold iQ;split at h
 ·exact .inl ⟨rfl,h⟩
 ·split at h
  ·rename_i e;exact .inr ⟨by simp only[e],h⟩
  ·rename_i e;simp only[e];split at h
   ·rename_i e;exact .inr ⟨by simp only[e],h⟩
   ·rename_i e;simp only[e];split at h
    ·rename_i b e;simp only[e];split at h
     ·cases b
      ·exact .inr ⟨rfl,h⟩
      ·exact .inl ⟨rfl,h⟩
     ·cases b
      ·exact .inl ⟨rfl,h⟩
      ·exact .inr ⟨rfl,h⟩
    ·rename_i e;exact .inr ⟨by simp only[e],h⟩
    ·exact h.elim
def Es(P:Program)(Γ:List (Nat × AV))(sl:List (Nat × AV))(f:Operand)(args:List Operand)(E:AV->Prop)(K:FuncId->List AV->Prop):Prop:=
 iA Γ sl f fun v=>match v with
  | .fn (.func F) first cap=>CT Γ sl args fun as=>match P.funcs[F]? with
   | some fn=>match fn.body with
    | some _=>match fn.name == "runtime.NumGoroutine" with
     | false=>match Nat.beq F YF with
      | false=>u0 first as fun l=>u0 l cap fun l=>K F l
      | true=>False
     | true=>False
    | none=>match vH fn with
     | true=>match first with
      | []=>match cap with
       | []=>match as with
        | [v]=>E v
        | _=>False
       | _=>False
      | _=>False
     | false=>False
   | none=>False
  | .yld id=>CT Γ sl args fun as=>K YF (.yld id::as)
  | _=>False
theorem Iq{P:Program}{Γ:List (Nat × AV)}{s:St}{c:Call}{f:Operand}(hc:c.callee = .value f){E:AV->Prop}{K:FuncId->List AV->Prop}(h:Es P Γ s.sl f c.args.toList E K) :
  (∃v,bS P Γ s (.call c)=some (v,s.mem,s.nx)/\E v)∨(bS P Γ s (.call c)=none/\∃F l,kQ P Γ s (.call c)=some (F,l)/\K F l):=by
 unfold Es at h;obtain⟨v,h1,h⟩:=bH h;split at h
 ·rename_i F first cap
  obtain⟨as,h2,h⟩:=kO h;split at h
  ·rename_i fn h3;split at h
   ·rename_i body h4;split at h
    ·rename_i h5;split at h
     ·rename_i h6;refine .inr ⟨?_,_,_,by simp only[kQ,hc,h1,h2,h3,h4,h5,h6],fG.1 (fG.1 h)⟩;simp only[bS,hc,Ao,h1];cases first<;>cases cap<;>simp only[h3,h4]
     ·exact h.elim
    ·exact h.elim
   ·rename_i h4;split at h
    ·rename_i h5;split at h
     ·split at h
      ·split at h
       ·exact .inl ⟨_,by simp only[bS,hc,Ao,h1,h2,h3,h4,h5],h⟩
       ·exact h.elim
      ·exact h.elim
     ·exact h.elim
    ·exact h.elim
  ·exact h.elim
 ·rename_i id;obtain⟨as,h2,h⟩:=kO h;exact .inr ⟨by simp only[bS,hc,Ao,h1],_,_,by simp only[kQ,hc,h1,h2],h⟩
 ·exact h.elim
def Af(cl:Bool)(P:Program)(Γ:List (Nat × AV))(H:Hk)(sl:List (Nat × AV))(mem:aK)(nx:Nat)(op:Op)(K:AV->aK->Nat->Prop)(Kp:Value->aK->Nat->Prop):Prop:=
 match op with
 | .call c=>match c.callee with
  | .value f=>Es P Γ sl f c.args.toList (fun v=>K v mem nx) fun F l=>H.call F l mem nx K Kp
  | _=>oR cl P Γ sl mem nx op K
 | _=>oR cl P Γ sl mem nx op K
theorem vZ{cl:Bool}{P:Program}{Γ:List (Nat × AV)}{H:Hk}{s:St}{op:Op}{K:AV->aK->Nat->Prop}{Kp:Value->aK->Nat->Prop}(h:Af cl P Γ H s.sl s.mem s.nx op K Kp) :
  (∃v m n,bS P Γ s op=some (v,m,n)/\K v m n)∨(bS P Γ s op=none/\∃F l,kQ P Γ s op=some (F,l)/\H.call F l s.mem s.nx K Kp):=by
 unfold Af at h;split at h
 ·split at h
  ·rename_i f hc;rcases Iq hc h with⟨v,h1,h⟩|h
   ·exact .inl ⟨_,_,_,h1,h⟩
   ·exact .inr h
  ·exact .inl (jW h)
 ·exact .inl (jW h)
def B3(cl:Bool)(P:Program)(Γ:List (Nat × AV))(H:Hk)(sl:List (Nat × AV))(mem:aK)(nx:Nat)(op:Op)(K:AV->aK->Nat->Prop)(Kp:Value->aK->Nat->Prop):Prop:=
 match op with
 | .panic x=>iA Γ sl x fun v=>opt (quo v) fun y=>Kp y mem nx
 | op=>Af cl P Γ H sl mem nx op K Kp
theorem IX{cl:Bool}{P:Program}{Γ:List (Nat × AV)}{H:Hk}{s:St}{op:Op}{K:AV->aK->Nat->Prop}{Kp:Value->aK->Nat->Prop}(h:B3 cl P Γ H s.sl s.mem s.nx op K Kp) :
  (∃v m n,bS P Γ s op=some (v,m,n)/\K v m n)∨(bS P Γ s op=none/\∃F l,kQ P Γ s op=some (F,l)/\H.call F l s.mem s.nx K Kp) ∨
   (bS P Γ s op=none/\kQ P Γ s op=none/\∃y,Df Γ s op=some y/\Kp y s.mem s.nx):=by
 unfold B3 at h;split at h
 ·obtain⟨v,h1,h⟩:=bH h;obtain⟨y,h2,h⟩:=bG.1 h;exact .inr (.inr ⟨rfl,rfl,y,by simp only[Df,h1,h2],h⟩)
 ·rcases vZ h with h|h
  ·exact .inl h
  ·exact .inr (.inl h)
def Db(cl:Bool)(P:Program)(Γ:List (Nat × AV))(H:Hk)(ops:List Oper):List Oper->St->(St->Prop)->(Value->St->Prop)->Prop
 | [],s,K,_=>K s
 | o::r,s,K,Kp=>Aj s fun sl mem nx nt=>nQ ops sl o.guard
   (B3 cl P Γ H sl mem nx o.op (fun v mem nx=>kY s o.dst v mem nx fun s'=>Db cl P Γ H ops r s' K Kp) fun x mem nx=>Kp x ⟨sl,mem,nx,nt⟩)
   (kY s o.dst (.tup []) mem nx fun s'=>Db cl P Γ H ops r s' K Kp)
theorem Ab{cl:Bool}{P:Program}{Γ:List (Nat × AV)}{H:Hk}{B:Nat}(hH:qY P Γ B H)(ops:List Oper):∀(l:List Oper) (s:St) (K K':St->Prop) (Kp Kp':Value->St->Prop),(∀s,K s->K' s)->(∀x s,Kp x s->Kp' x s)->Db cl P Γ H ops l s K Kp->qV P Γ (Fo P Γ B) ops l s K' Kp'
 | [],s,K,K',Kp,Kp',hk,hp,h=>hk s h
 | o::r,s,K,K',Kp,Kp',hk,hp,h=>by
  simp only[Db] at h;simp only[qV];have h:=j7.1 h;rcases rY h with⟨h1,h⟩|⟨h1,h⟩
  ·simp only[h1];rcases IX h with⟨v,m,n,h2,h⟩|⟨h2,F,l,h3,h⟩|⟨h2,h3,y,h4,h⟩
   ·obtain⟨s',h4,h⟩:=eM h;simp only[h2,h4];exact Ab hH ops r s' K K' Kp Kp' hk hp h
   ·simp only[h2,h3];refine(hH.call _ _ _ _ _ _ h).mono (fun v m n h=>?_) fun x m n h=>hp _ _ h
    obtain⟨s',h4,h⟩:=eM h;simp only[h4];exact Ab hH ops r s' K K' Kp Kp' hk hp h
   ·simp only[h2,h3,h4];exact hp _ _ h
  ·obtain⟨s',h4,h⟩:=eM h;simp only[h1,h4];exact Ab hH ops r s' K K' Kp Kp' hk hp h
def fR(f:Nat × AB->Bool):aK->(aK->Prop)->Prop
 | [],K=>K []
 | p::r,K=>match f p with
  | true=>fR f r fun l=>K (p::l)
  | false=>fR f r K
theorem cC{f:Nat × AB->Bool}:∀{m:aK} {K:aK->Prop},fR f m K↔K (m.filter f)
 | [],K=>Iff.rfl
 | p::r,K=>by
  simp only[fR,Od];cases f p
  ·simpa using cC
  ·simpa using cC
def pT(cl:Bool)(P:Program)(Γ:List (Nat × AV))(ops:List Oper)(tr:List (List Nat))(base x:Nat)(mem:aK)(nx:Nat):List vE->Prop->Prop
 | [],K=>K
 | r::rs,K=>match qQ r.i (T tr x) with
  | true=>pT cl P Γ ops tr base x mem nx rs K
  | false=>match r.want with
   | false=>pT cl P Γ ops tr base x mem nx rs K
   | true=>match ops[r.i]? with
    | none=>pT cl P Γ ops tr base x mem nx rs K
    | some o=>match kind P o.op with
     | .pure=>match still o.op with
      | true=>pT cl P Γ ops tr base x mem nx rs K
      | false=>fR (fun p=>Er tr base ops.length r.i p.1) mem fun m=>oR cl P Γ r.sl m nx o.op fun v _ _=>match cl with
       | true=>kL (hZ v r.v) (pT cl P Γ ops tr base x mem nx rs K)
       | false=>v=r.v/\pT cl P Γ ops tr base x mem nx rs K
     | _=>pT cl P Γ ops tr base x mem nx rs K
theorem lL{cl:Bool}{P:Program}{Γ:List (Nat × AV)}{ops:List Oper}{tr:List (List Nat)}{base x:Nat}{s:St}:∀{recs:List vE} {K:Prop},pT cl P Γ ops tr base x s.mem s.nx recs K->KM P Γ ops tr base x s recs/\K
 | [],K,h=>⟨trivial,h⟩
 | r::rs,K,h=>by
  simp only[pT] at h;simp only[KM];split at h
  ·rename_i h1;obtain⟨h2,h3⟩:=lL h;exact⟨⟨fun e=>(by rw[h1] at e;cases e),h2⟩,h3⟩
  ·split at h
   ·rename_i h1;obtain⟨h2,h3⟩:=lL h;exact⟨⟨fun _ e=>(by rw[h1] at e;cases e),h2⟩,h3⟩
   ·split at h
    ·rename_i h1;obtain⟨h2,h3⟩:=lL h;exact⟨⟨fun _ _ o e=>(by rw[h1] at e;cases e),h2⟩,h3⟩
    ·rename_i o ho;split at h
     ·split at h
      ·rename_i h1;obtain⟨h2,h3⟩:=lL h;refine⟨⟨fun _ _ o' e _ e'=>?_,h2⟩,h3⟩;rw[ho] at e;cases e;rw[h1] at e';cases e'
      ·have h:=cC.1 h;obtain⟨v,m,n,h1,h⟩:=jW (s:={ sl:=r.sl,mem:=dL tr base ops.length r.i s.mem,nx:=s.nx,nt:=s.nt }) h;have key:v=r.v/\pT cl P Γ ops tr base x s.mem s.nx rs K:=by
        cases cl
        ·exact h
        ·obtain⟨h2,h3⟩:=bB.1 h;exact⟨k7 h2,h3⟩
       obtain⟨h2,h3⟩:=lL key.2;refine⟨⟨fun _ _ o' e _ _=>?_,h2⟩,h3⟩;rw[ho] at e;cases e;exact⟨m,n,by rw[←key.1];exact h1⟩
     ·rename_i hk;obtain⟨h2,h3⟩:=lL h;refine⟨⟨fun _ _ o' e e'=>?_,h2⟩,h3⟩;rw[ho] at e;cases e;exact(hk e').elim
def qL(cl:Bool)(P:Program)(Γ:List (Nat × AV))(H:Hk)(ops:List Oper)(tr:List (List Nat))(base:Nat)(K:St->Prop)(Kp:Value->aK->Nat->Prop):List Nat->List vE->St->Prop
 | [],recs,s=>K s
 | i::r,recs,s=>match ops[i]? with
  | none=>False
  | some o=>Aj s fun sl mem nx nt=>nQ ops sl o.guard
   (match kind P o.op with
    | .pure=>match still o.op with
     | true=>oR cl P Γ sl [] nx o.op fun v _ _=>kY s o.dst v mem nx fun s'=>qL cl P Γ H ops tr base K Kp r (⟨i,sl,true,v⟩::recs) s'
     | false=>fR (fun p=>Er tr base ops.length i p.1) mem fun m=>oR cl P Γ sl m nx o.op fun v _ _=>kY s o.dst v mem nx fun s'=>qL cl P Γ H ops tr base K Kp r (⟨i,sl,true,v⟩::recs) s'
    | .al=>lK (base+i) fun id=>oR cl P Γ sl [] id o.op fun v m _=>match m with
     | [(_,b)]=>kY s o.dst v ((id,b)::mem) nx fun s'=>qL cl P Γ H ops tr base K Kp r (⟨i,sl,true,v⟩::recs) s'
     | _=>False
    | .eff=>fR (fun p=>Er tr base ops.length i p.1) mem fun m=>Af cl P Γ H sl m nx o.op (fun v m nx'=>fR (fun p=>!Er tr base ops.length i p.1) mem fun rest=>fR (fun p=>!n8 p.1 m) rest fun rest=>u0 m rest fun m=>
      kY s o.dst v m nx' fun s'=>pT cl P Γ ops tr base i m nx' recs (qL cl P Γ H ops tr base K Kp r recs s')) Kp)
   (kY s o.dst (.tup []) mem nx fun s'=>qL cl P Γ H ops tr base K Kp r (⟨i,sl,false,.tup []⟩::recs) s')
theorem nE{cl:Bool}{P:Program}{Γ:List (Nat × AV)}{H:Hk}{B:Nat}(hH:qY P Γ B H)(ops:List Oper)(tr:List (List Nat))(base:Nat)(K K':St->Prop)(Kp Kp':Value->aK->Nat->Prop)(hk:∀s,K s->K' s)(hp:∀x m n,Kp x m n->Kp' x m n) :
  ∀(l:List Nat) (recs:List vE) (s:St),qL cl P Γ H ops tr base K Kp l recs s->lQ P Γ (Fo P Γ B) ops tr base K' Kp' l recs s
 | [],recs,s,h=>hk s h
 | i::r,recs,s,h=>by
  simp only[qL] at h;simp only[lQ];split at h
  ·exact h.elim
  ·rename_i o ho;simp only[ho];have h:=j7.1 h;rcases rY h with⟨h1,h⟩|⟨h1,h⟩
   ·simp only[h1];split at h
    ·rename_i hkd;simp only[hkd];split at h
     ·rename_i hst;obtain⟨v,m,n,h2,h⟩:=jW (s:={ sl:=s.sl,mem:=[],nx:=s.nx,nt:=s.nt }) h;obtain⟨m',n',h2'⟩:=oG (s:={ sl:=s.sl,mem:=[],nx:=s.nx,nt:=s.nt }) (s':={ s with mem:=dL tr base ops.length i s.mem }) hst rfl h2;obtain⟨s',h3,h⟩:=eM h;simp only[h2',h3];exact nE hH ops tr base K K' Kp Kp' hk hp r _ s' h
     ·have h:=cC.1 h;obtain⟨v,m,n,h2,h⟩:=jW (s:={ s with mem:=dL tr base ops.length i s.mem }) h;obtain⟨s',h3,h⟩:=eM h;simp only[h2,h3];exact nE hH ops tr base K K' Kp Kp' hk hp r _ s' h
    ·rename_i hkd;simp only[hkd];have h:=cU.1 h;obtain⟨v,m,n,h2,h⟩:=jW (s:={ s with mem:=[],nx:=base+i }) h;simp only[h2];split at h
     ·obtain⟨s',h3,h⟩:=eM h;simp only[h3];exact nE hH ops tr base K K' Kp Kp' hk hp r _ s' h
     ·exact h.elim
    ·rename_i hkd;simp only[hkd];have h:=cC.1 h;rcases vZ (s:={ s with mem:=dL tr base ops.length i s.mem }) h with⟨v,m,n,h2,h⟩|⟨h2,F,l,h3,h⟩
     ·simp only[h2];have h:=fG.1 (cC.1 (cC.1 h));obtain⟨s',h3,h⟩:=eM h;have h3:dG s o.dst v (m++oB m (eT tr base ops.length i s.mem)) n=some s':=h3;simp only[h3];obtain⟨e1,e2,_⟩:=fD h3;have h:pT cl P Γ ops tr base i (m++oB m (eT tr base ops.length i s.mem)) n recs (qL cl P Γ H ops tr base K Kp r recs s'):=h;rw[←e1,←e2] at h;obtain⟨h4,h⟩:=lL h;exact⟨h4,nE hH ops tr base K K' Kp Kp' hk hp r _ s' h⟩
     ·rw[oL (s':=s) (fun x _=>by cases x<;>rfl)] at h3;simp only[h2,h3];refine(hH.call _ _ _ _ _ _ h).mono (fun v m n h=>?_) hp;have h:=fG.1 (cC.1 (cC.1 h));obtain⟨s',h3,h⟩:=eM h;have h3:dG s o.dst v (m++oB m (eT tr base ops.length i s.mem)) n=some s':=h3;simp only[h3];obtain⟨e1,e2,_⟩:=fD h3;have h:pT cl P Γ ops tr base i (m++oB m (eT tr base ops.length i s.mem)) n recs (qL cl P Γ H ops tr base K Kp r recs s'):=h;rw[←e1,←e2] at h;obtain⟨h4,h⟩:=lL h;exact⟨h4,nE hH ops tr base K K' Kp Kp' hk hp r _ s' h⟩
   ·obtain⟨s',h3,h⟩:=eM h;simp only[h1,h3];exact nE hH ops tr base K K' Kp Kp' hk hp r _ s' h
def K5(sl:List (Nat × AV))(id nt:Nat)(m:aK)(n:Nat)(Q:Exit->St->Prop):Prop:=
 opt (lk m id) fun b=>match b with
  | .loop _ _ _ _ _ st pd=>match st with
   | .busy=>False
   | _=>fR (fun p=>!Nat.beq p.1 id) m fun m=>match pd with
    | none=>Q .normal ⟨sl,m,n,nt⟩
    | some .ret=>Q .ret ⟨sl,m,n,nt⟩
    | some (.exit i)=>Q (.exit i) ⟨sl,m,n,nt⟩
    | some _=>False
  | _=>False
theorem KO{s:St}{m:aK}{n:Nat}{Q:Exit->St->Prop}(h:K5 s.sl s.nx s.nt m n Q):AX s Q m n:=by
 obtain⟨b,h1,h⟩:=bG.1 h;unfold AX;simp only[h1];cases b with
 | loop sl nt ps ca cb st pd=>
  cases st<;>first|exact h.elim|(simp only at h ⊢;have h:=cC.1 h;exact h)
 | _=>exact h.elim
theorem AX.mono{s:St}{m:aK}{n:Nat}{Q Q':Exit->St->Prop}(hq:∀e s,Q e s->Q' e s)(h:AX s Q m n):AX s Q' m n:=by
 unfold AX at h ⊢;split at h
 ·split at h
  ·exact h
  ·split at h
   ·exact hq _ _ h
   ·exact hq _ _ h
   ·exact hq _ _ h
   ·exact h
 ·exact h
def p9(cl:Bool)(P:Program)(Γ:List (Nat × AV))(H:Hk):Code->St->(Exit->St->Prop)->Prop
 | .skip,s,Q=>Q .normal s
 | .seq x y,s,Q=>p9 cl P Γ H x s fun e s'=>match e with
  | .normal=>p9 cl P Γ H y s' Q
  | e=>Q e s'
 | .cond c x y,s,Q=>Aj s fun sl _ _ _=>iA Γ sl c fun v=>match v with
  | .bool b=>GW b (p9 cl P Γ H x s Q) (p9 cl P Γ H y s Q)
  | _=>False
 | .block id c,s,Q=>p9 cl P Γ H c s fun e s'=>match e with
  | .exit i=>match Nat.beq i id with
   | true=>Q .normal s'
   | false=>Q (.exit i) s'
  | e=>Q e s'
 | .loop c,s,Q=>H.loop c s Q
 | .label _,s,Q=>Q .normal s
 | .scope c,s,Q=>p9 cl P Γ H c s fun e s'=>match e with
  | .goto _=>False
  | e=>Q e s'
 | .exit i,s,Q=>Q (.exit i) s
 | .ret,s,Q=>Q .ret s
 | .region _ ops draw,s,Q=>match draw with
  | false=>Db cl P Γ H ops.toList ops.toList s (fun s'=>Q .normal s') fun x s'=>Q (.panic [pe x]) s'
  | true=>match P.follows .mixedOrders with
   | true=>match xC P ops.toList (sH P ops.toList ops.toList.length [] (tT ops.toList.length)) with
    | true=>Aj s fun sl mem nx nt=>lK (nx+ops.toList.length) fun n=>qH (sH P ops.toList ops.toList.length [] (tT ops.toList.length)) fun ord=>qL cl P Γ H ops.toList (F3 ops.toList []) nx (fun s'=>Q .normal s') (fun x m n=>Q (.panic [pe x]) ⟨p7 ops.toList sl,m,n,nt⟩) ord [] ⟨sl,mem,n,nt⟩
    | false=>False
   | false=>False
 | .rangeFunc g ps ca cb,s,Q=>Aj s fun sl mem nx nt=>iA Γ sl g fun v=>match v with
  | .fn (.func G) first cap=>match P.funcs[G]? with
   | some fn=>match fn.body with
    | some _=>match fn.name == "runtime.NumGoroutine" with
     | false=>match Nat.beq G YF with
      | false=>lK (nx+1) fun n=>u0 first (.yld nx::cap) fun l=>H.call G l ((nx,.loop sl nt ps ca cb .ready none)::mem) n (fun _ m n=>K5 sl nx nt m n Q) fun x m n=>Q (.panic [pe x]) ⟨sl,m,n,nt⟩
      | true=>False
     | true=>False
    | none=>False
   | none=>False
  | _=>False
 | _,_,_=>False
theorem Lm{cl:Bool}{P:Program}{Γ:List (Nat × AV)}{H:Hk}{B:Nat}(hH:qY P Γ B H):∀(c:Code) (s:St) (Q Q':Exit->St->Prop),(∀e s,Q e s->Q' e s)->p9 cl P Γ H c s Q->yS P Γ (Fo P Γ B) c s Q':=by
 intro c
 induction c with
 | skip=>exact fun s Q Q' hq h=>hq _ _ h
 | label l=>exact fun s Q Q' hq h=>hq _ _ h
 | scope c ih=>
  intro s Q Q' hq h;simp only[p9] at h;simp only[yS];refine ih s _ _ (fun e s' h=>?_) h;cases e with
  | goto l=>exact h
  | normal=>exact hq _ _ h
  | exit i=>exact hq _ _ h
  | ret=>exact hq _ _ h
  | panic c=>exact hq _ _ h
  | outgrown=>exact hq _ _ h
 | exit i=>exact fun s Q Q' hq h=>hq _ _ h
 | ret=>exact fun s Q Q' hq h=>hq _ _ h
 | loop c ih=>exact fun s Q Q' hq h=>(hH.loop c s Q h).mono hq
 | seq x y ihx ihy=>
  intro s Q Q' hq h;simp only[p9] at h;simp only[yS];refine ihx s _ _ (fun e s' h=>?_) h;cases e with
  | normal=>exact ihy s' Q Q' hq h
  | exit i=>exact hq _ _ h
  | goto l=>exact hq _ _ h
  | ret=>exact hq _ _ h
  | panic c=>exact hq _ _ h
  | outgrown=>exact hq _ _ h
 | cond c x y ihx ihy=>
  intro s Q Q' hq h;simp only[p9] at h;simp only[yS];have h:=j7.1 h;obtain⟨v,h1,h⟩:=bH h;simp only[h1];split at h
  ·rename_i b;cases b
   ·exact ihy s Q Q' hq h
   ·exact ihx s Q Q' hq h
  ·exact h.elim
 | block id c ih=>
  intro s Q Q' hq h;simp only[p9] at h;simp only[yS];refine ih s _ _ (fun e s' h=>?_) h;cases e with
  | exit i=>
   simp only at h ⊢;split at h
   ·rename_i e;simp only[e];exact hq _ _ h
   ·rename_i e;simp only[e];exact hq _ _ h
  | normal=>exact hq _ _ h
  | goto l=>exact hq _ _ h
  | ret=>exact hq _ _ h
  | panic c=>exact hq _ _ h
  | outgrown=>exact hq _ _ h
 | region id ops draw=>
  intro s Q Q' hq h;cases draw with
  | false=>
   simp only[p9] at h;simp only[yS];exact Ab hH _ _ _ _ _ _ _ (fun s h=>hq _ _ h) (fun x s h=>hq _ _ h) h
  | true=>
   simp only[p9] at h;simp only[yS];split at h
   ·rename_i hmix;simp only[hmix];split at h
    ·rename_i hok;simp only[CS,hok];exact nE hH _ _ _ _ _ _ _ (fun s h=>hq _ _ h) (fun x m n h=>hq _ _ h) _ _ _ (iT.1 (cU.1 (j7.1 h)))
    ·exact h.elim
   ·exact h.elim
 | rangeFunc g ps ca cb=>
  intro s Q Q' hq h;simp only[p9] at h;obtain⟨v,h1,h⟩:=bH (s:=s) (j7.1 h);simp only[yS,h1];split at h<;>first|exact h.elim|skip
  split at h<;>first|exact h.elim|skip
  rename_i fn hf;split at h<;>first|exact h.elim|skip
  rename_i c0 hb;split at h<;>first|exact h.elim|skip
  rename_i hn;split at h<;>first|exact h.elim|skip
  rename_i hG;simp only[hf,hb,hn,hG];exact(hH.call _ _ _ _ _ _ (fG.1 (cU.1 h))).mono (fun _ m n h=>(KO h).mono hq) fun x m n h=>hq _ _ h
 | _=>intro s Q Q' hq h;simp only[p9] at h
theorem cO{cl:Bool}{P:Program}{Γ:List (Nat × AV)}{H:Hk}{B:Nat}(hH:qY P Γ B H)(c:Code)(s:St)(Q:Exit->St->Prop)(h:p9 cl P Γ H c s Q):dW P Γ B c s Q:=
 tI I0 c s Q (Lm hH c s Q Q (fun _ _ h=>h) h)
def FJ:Nat->List AV->(List (Nat × AV)->Prop)->Prop
 | _,[],K=>K []
 | k,a::r,K=>lK k fun k=>FJ (k+1) r fun l=>K ((k,a)::l)
theorem zW:∀{k:Nat} {l:List AV} {K:List (Nat × AV)->Prop},FJ k l K↔K (Ci k l)
 | k,[],K=>Iff.rfl
 | k,a::r,K=>by simp only[FJ,Ci,cU,zW]
def lH(ntmps:Nat)(args:List AV)(mem:aK)(nx:Nat)(K:St->Prop):Prop:=
 FJ 0 args fun sl=>kL (Nat.ble args.length ntmps) (lK ntmps fun nt=>K ⟨sl,mem,nx,nt⟩)
theorem fF{ntmps:Nat}{args:List AV}{mem:aK}{nx:Nat}{K:St->Prop}(h:lH ntmps args mem nx K):K (enter ntmps args mem nx):=by
 obtain⟨h1,h⟩:=bB.1 (zW.1 h);have h:=cU.1 h;have h1:=Mh h1;have e:enter ntmps args mem nx=⟨Ci 0 args,mem,nx,ntmps⟩:=by simp only[enter];congr 1;omega
 rw[e];exact h
def E5(P:Program)(s:St):List ResultVar->(List AV->Prop)->Prop
 | [],K=>K []
 | .tmp t::r,K=>opt (lk s.sl t) fun v=>E5 P s r fun l=>K (v::l)
 | .cell a t::r,K=>opt (lk s.sl a) fun p=>Ch P s.mem t p fun v=>E5 P s r fun l=>K (v::l)
theorem A2{P:Program}{s:St}:∀{rs:List ResultVar} {K:List AV->Prop},E5 P s rs K->∃l,qN P s rs=some l/\K l
 | [],K,h=>⟨[],rfl,h⟩
 | .tmp t::r,K,h=>by
  obtain⟨v,h1,h⟩:=bG.1 h;obtain⟨l,h2,h⟩:=A2 h;exact⟨_,by simp only[qN,h1,h2],h⟩
 | .cell a t::r,K,h=>by
  obtain⟨p,h1,h⟩:=bG.1 h;obtain⟨v,h2,h⟩:=FK h;obtain⟨l,h3,h⟩:=A2 h;exact⟨_,by simp only[qN,h1,h2,h3],h⟩
def A3(P:Program)(rs:List ResultVar)(s:St)(K:AV->Prop):Prop:=
 E5 P s rs fun l=>match l with
  | [v]=>K v
  | []=>K (.tup [])
  | a::b::r=>K (.tup (a::b::r))
theorem A0{P:Program}{rs:List ResultVar}{s:St}{K:AV->Prop}(h:A3 P rs s K):∃v,u4 P rs s=some v/\K v:=by
 obtain⟨l,h1,h⟩:=A2 h;unfold u4;rw[h1]
 match l,h with
 | [v],h=>exact⟨_,rfl,h⟩
 | [],h=>exact⟨_,rfl,h⟩
 | a::b::r,h=>exact⟨_,rfl,h⟩
def Jq(P:Program)(rs:List ResultVar)(Q:AV->aK->Nat->Prop):Exit->St->Prop:=fun e s=>
 match e with
 | .normal=>Aj s fun _ mem nx _=>A3 P rs s fun r=>Q r mem nx
 | .ret=>Aj s fun _ mem nx _=>A3 P rs s fun r=>Q r mem nx
 | _=>False
theorem HJ{P:Program}{rs:List ResultVar}{Q:AV->aK->Nat->Prop}{e:Exit}{s:St}(h:Jq P rs Q e s):GB P rs Q e s:=by
 cases e with
 | normal=>
  obtain⟨v,h1,h⟩:=A0 (show A3 P rs s _ from h);simp only[GB,h1];exact h
 | ret=>
  obtain⟨v,h1,h⟩:=A0 (show A3 P rs s _ from h);simp only[GB,h1];exact h
 | _=>exact(show False from h).elim
theorem fA{P:Program}{Γ:List (Nat × AV)}{F:FuncId}{fn:Func}{c:Code}{args:List AV}{mem:aK}{nx:Nat}{Q:AV->aK->Nat->Prop}(hΓ:∀p∈Γ,NN p.2)(hf:P.funcs[F]? = some fn)(hb:fn.body=some c)
  (h:lH fn.ntmps args mem nx fun s=>p9 false P Γ (DC P Γ nx) c s (Jq P fn.results.toList (mJ nx Q))) (hF:Nat.beq F YF=false:=by rfl):aF P Γ F args mem nx Q:=
 (qA hf hb ((cO mX _ _ _ (fF h)).mono fun _ _ h=>HJ h) hF).turn hΓ
def xV(P:Program)(rs:List ResultVar)(Q:AV->aK->Nat->Prop)(Qp:Value->aK->Nat->Prop):Exit->St->Prop:=fun e s=>
 match e with
 | .normal=>Aj s fun _ mem nx _=>A3 P rs s fun r=>Q r mem nx
 | .ret=>Aj s fun _ mem nx _=>A3 P rs s fun r=>Q r mem nx
 | .panic [⟨x,false,false⟩]=>Aj s fun _ mem nx _=>Qp x mem nx
 | _=>False
theorem s6{P:Program}{rs:List ResultVar}{Q:AV->aK->Nat->Prop}{Qp:Value->aK->Nat->Prop}{e:Exit}{s:St}(h:xV P rs Q Qp e s):yP P rs Q Qp e s:=by
 cases e with
 | normal=>
  obtain⟨v,h1,h⟩:=A0 (show A3 P rs s _ from h);simp only[yP,h1];exact h
 | ret=>
  obtain⟨v,h1,h⟩:=A0 (show A3 P rs s _ from h);simp only[yP,h1];exact h
 | panic ch=>
  unfold xV at h;split at h
  ·rename_i e;cases e
  ·rename_i e;cases e
  ·rename_i e;cases e;exact h
  ·exact h.elim
 | _=>exact(show False from h).elim
end Go.Ax
