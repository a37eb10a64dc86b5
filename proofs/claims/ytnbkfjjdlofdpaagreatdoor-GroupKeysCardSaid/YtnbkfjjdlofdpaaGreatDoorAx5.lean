/- A part of the proof. -/
import Derived.Test.YtnbkfjjdlofdpaaGreatDoorAx4
set_option linter.unusedVariables false
set_option linter.unusedSimpArgs false
set_option linter.unusedSectionVars false
namespace Go.Ax
open Go
def D2(b:Bool)(p q:Prop):Prop:=
 match b with
 | true=>p
 | false=>q
def gF(b:Bool)(p:Prop):Prop:=
 match b with
 | true=>p
 | false=>False
def fL{α:Type}(o:Option α)(K:α->Prop):Prop:=
 match o with
 | some a=>K a
 | none=>False
theorem bV{b:Bool}{p q:Prop}(h1:b=true->p)(h2:b=false->q):D2 b p q:=by
 cases b
 ·exact h2 rfl
 ·exact h1 rfl
theorem aQ{b:Bool}{p:Prop}:gF b p↔b=true/\p:=by cases b<;>simp[gF]
theorem aM{b:Bool}{p:Prop}(h:b=true)(hp:p):gF b p:=aQ.2 ⟨h,hp⟩
theorem aN{α:Type}{o:Option α}{K:α->Prop}:fL o K↔∃a,o=some a/\K a:=by cases o<;>simp[fL]
theorem aD{α:Type}{o:Option α}{K:α->Prop}{a:α}(h:o=some a)(hk:K a):fL o K:=aN.2 ⟨a,h,hk⟩
def gP(n:Nat)(K:Nat->Prop):Prop:=
 match n with
 | 0=>K 0
 | Nat.succ m=>K (Nat.succ m)
theorem bF{n:Nat}{K:Nat->Prop}:gP n K↔K n:=by cases n<;>rfl
def Gc(n:Int)(K:Int->Prop):Prop:=
 match n with
 | .ofNat m=>gP m fun m=>K (.ofNat m)
 | .negSucc m=>gP m fun m=>K (.negSucc m)
theorem DI{n:Int}{K:Int->Prop}:Gc n K↔K n:=by cases n<;>simp[Gc,bF]
def n8(cl:Bool)(n:Nat)(K:Nat->Prop):Prop:=
 match cl with
 | true=>gP n K
 | false=>K n
theorem c7{cl:Bool}{n:Nat}{K:Nat->Prop}:n8 cl n K↔K n:=by cases cl<;>simp[n8,bF]
def iS(cl:Bool)(k:IntKind)(n:Int)(K:AV->Prop):Prop:=
 match cl with
 | true=>Gc n fun n=>K (.int k n)
 | false=>K (.int k n)
theorem fH{cl:Bool}{k:IntKind}{n:Int}{K:AV->Prop}:iS cl k n K↔K (.int k n):=by cases cl<;>simp[iS,DI]
def eQ(cl:Bool)(b:Bool)(K:AV->Prop):Prop:=
 match cl with
 | true=>match b with
  | true=>K (.bool true)
  | false=>K (.bool false)
 | false=>K (.bool b)
theorem eW{cl:Bool}{b:Bool}{K:AV->Prop}:eQ cl b K↔K (.bool b):=by cases cl<;>cases b<;>rfl
def lZ{α:Type}:List α->(List α->Prop)->Prop
 | [],K=>K []
 | x::r,K=>lZ r fun l=>K (x::l)
theorem fA{α:Type}:∀{l:List α} {K:List α->Prop},lZ l K↔K l
 | [],K=>Iff.rfl
 | x::r,K=>by simp[lZ,fA]
def jJ{α:Type}(cl:Bool)(l:List α)(K:List α->Prop):Prop:=
 match cl with
 | true=>lZ l K
 | false=>K l
theorem c9{α:Type}{cl:Bool}{l:List α}{K:List α->Prop}:jJ cl l K↔K l:=by cases cl<;>simp[jJ,fA]
def pY{α:Type}:List α->List α->(List α->Prop)->Prop
 | [],ys,K=>K ys
 | x::r,ys,K=>pY r ys fun l=>K (x::l)
theorem cO{α:Type}:∀{xs ys:List α} {K:List α->Prop},pY xs ys K↔K (xs++ys)
 | [],ys,K=>Iff.rfl
 | x::r,ys,K=>by simp[pY,cO]
def AL{α:Type}:List α->Nat->α->(List α->Prop)->Prop
 | [],_,_,K=>K []
 | _::r,0,v,K=>K (v::r)
 | x::r,i+1,v,K=>AL r i v fun l=>K (x::l)
theorem eF{α:Type}:∀{xs:List α} {i:Nat} {v:α} {K:List α->Prop},AL xs i v K↔K (xs.set i v)
 | [],_,_,K=>Iff.rfl
 | _::r,0,v,K=>Iff.rfl
 | x::r,i+1,v,K=>by simp[AL,eF]
def u5{α:Type}:Nat->List α->(List α->Prop)->Prop
 | 0,_,K=>K []
 | _+1,[],_=>False
 | n+1,c::r,K=>u5 n r fun l=>K (c::l)
theorem uM{α:Type}:∀{n:Nat} {l:List α} {K:List α->Prop},u5 n l K↔(l.take n).length=n/\K (l.take n)
 | 0,l,K=>by simp[u5]
 | n+1,[],K=>by simp[u5]
 | n+1,c::r,K=>by simp[u5,uM]
def y7{α:Type}:List (Nat × α)->Nat->α->(List (Nat × α)->Prop)->Prop
 | [],j,v,K=>K [(j,v)]
 | (i,u)::r,j,v,K=>match Nat.beq i j with
  | true=>K ((i,v)::r)
  | false=>y7 r j v fun l=>K ((i,u)::l)
theorem eG{α:Type}:∀{l:List (Nat × α)} {j:Nat} {v:α} {K:List (Nat × α)->Prop},y7 l j v K↔K (up l j v)
 | [],j,v,K=>Iff.rfl
 | (i,u)::r,j,v,K=>by
  simp only[y7,up];cases Nat.beq i j
  ·exact eG
  ·exact Iff.rfl
def Bd:Nat->aA->(aA->Prop)->Prop
 | _,[],K=>K []
 | id,(k,u)::r,K=>match Nat.beq k id with
  | true=>K r
  | false=>Bd id r fun l=>K ((k,u)::l)
theorem uV:∀{id:Nat} {m:aA} {K:aA->Prop},Bd id m K↔K (drop id m)
 | _,[],K=>Iff.rfl
 | id,(k,u)::r,K=>by
  simp only[Bd,drop];cases Nat.beq k id
  ·exact uV
  ·exact Iff.rfl
def dP(Γ:List (Nat × AV))(sl:List (Nat × AV))(x:Operand)(K:AV->Prop):Prop:=
 match x with
 | .tmp t=>fL (lk sl t) K
 | .const (.string s)=>lZ s.data.toList fun l=>K (.str l)
 | .const v=>fL (lO v) K
 | .global g=>fL (lk Γ g) fun v=>K (.ip v)
 | .func f=>K (.fn (.func f) [] [])
theorem aP{Γ:List (Nat × AV)}{s:St}{x:Operand}{K:AV->Prop}(h:dP Γ s.sl x K):∃v,ev Γ s x=some v/\K v:=by
 unfold dP at h;split at h
 ·exact aN.1 h
 ·exact⟨_,rfl,fA.1 h⟩
 ·exact aN.1 h
 ·obtain⟨v,h1,h2⟩:=aN.1 h;exact⟨_,by simp[ev,h1],h2⟩
 ·exact⟨_,rfl,h⟩
def yD(Γ:List (Nat × AV))(sl:List (Nat × AV)):List Operand->(List AV->Prop)->Prop
 | [],K=>K []
 | x::r,K=>dP Γ sl x fun a=>yD Γ sl r fun l=>K (a::l)
theorem gD{Γ:List (Nat × AV)}{s:St}:∀{xs:List Operand} {K:List AV->Prop},yD Γ s.sl xs K->∃l,r9 Γ s xs=some l/\K l
 | [],K,h=>⟨[],rfl,h⟩
 | x::r,K,h=>by
  obtain⟨a,h1,h2⟩:=aP h;obtain⟨l,h3,h4⟩:=gD h2;exact⟨a::l,by simp[r9,h1,h3],h4⟩
def iI(Γ:List (Nat × AV))(sl:List (Nat × AV)):List (Nat × Operand)->(List (Nat × AV)->Prop)->Prop
 | [],K=>K []
 | (i,x)::r,K=>dP Γ sl x fun a=>iI Γ sl r fun l=>K ((i,a)::l)
theorem jY{Γ:List (Nat × AV)}{s:St}:∀{xs:List (Nat × Operand)} {K:List (Nat × AV)->Prop},iI Γ s.sl xs K->∃l,dD Γ s xs=some l/\K l
 | [],K,h=>⟨[],rfl,h⟩
 | (i,x)::r,K,h=>by
  obtain⟨a,h1,h2⟩:=aP h;obtain⟨l,h3,h4⟩:=jY h2;exact⟨(i,a)::l,by simp[dD,h1,h3],h4⟩
def wZ(Γ:List (Nat × AV))(sl:List (Nat × AV))(x:Option Operand)(K:Option AV->Prop):Prop:=
 match x with
 | none=>K none
 | some x=>dP Γ sl x fun a=>K (some a)
theorem o0{Γ:List (Nat × AV)}{s:St}{x:Option Operand}{K:Option AV->Prop}(h:wZ Γ s.sl x K):∃l,lQ Γ s x=some l/\K l:=by
 cases x with
 | none=>exact⟨none,rfl,h⟩
 | some x=>
  obtain⟨a,h1,h2⟩:=aP h;exact⟨some a,by simp[lQ,h1],h2⟩
def sN(sh:Option Nat)(cs:List AV)(j:Nat)(K:AV->Prop):Prop:=
 match sh with
 | none=>fL cs[j]? fun c=>fL (one c) K
 | some n=>u5 n (cs.drop j) fun l=>K (.agg l)
theorem d9{sh:Option Nat}{cs:List AV}{j:Nat}{K:AV->Prop}(h:sN sh cs j K):∃v,sub sh cs j=some v/\K v:=by
 unfold sN at h;split at h
 ·obtain⟨c,h1,h2⟩:=aN.1 h;obtain⟨v,h3,h4⟩:=aN.1 h2;exact⟨v,by simp[sub,h1,h3],h4⟩
 ·obtain⟨h1,h2⟩:=uM.1 h;refine⟨_, ?_,h2⟩;simp only[sub];rw[h1];simp
def zJ(P:Program)(mem:aA)(t:TypeId)(p:AV)(K:AV->Prop):Prop:=
 match p with
 | .ip u=>match tP P t with
  | some sh=>sN sh u.cells 0 K
  | none=>False
 | .ptr id i j=>match lk mem id with
  | some (.row _ sz xs)=>fL xs[i]? fun x=>match tP P t with
   | some sh=>match P.underlying t with
    | some (.array _ _)=>match sub sh x.cells j with
     | some _=>sN sh x.cells j K
     | none=>sN sh (u4 xs) (i*sz+j) K
    | _=>sN sh x.cells j K
   | none=>False
  | _=>False
 | _=>False
theorem Au{P:Program}{mem:aA}{t:TypeId}{p:AV}{K:AV->Prop}(h:zJ P mem t p K):∃v,qY P mem t p=some v/\K v:=by
 unfold zJ at h;unfold qY;split at h
 ·split at h
  ·rename_i sh hsh;obtain⟨v,h1,h2⟩:=d9 h;exact⟨v,by simp[hsh,h1],h2⟩
  ·exact h.elim
 ·split at h
  ·rename_i hid;obtain⟨x,hx,h⟩:=aN.1 h;split at h
   ·rename_i sh hsh;split at h
    ·rename_i hu;split at h
     ·obtain⟨v,h1,h2⟩:=d9 h;exact⟨v,by simp only[hid,hx,hsh,h1],h2⟩
     ·rename_i hn;obtain⟨v,h1,h2⟩:=d9 h;exact⟨v,by simp only[hid,hx,hsh,hn,hu,h1],h2⟩
    ·obtain⟨v,h1,h2⟩:=d9 h;exact⟨v,by simp only[hid,hx,hsh,h1],h2⟩
   ·exact h.elim
  ·exact h.elim
 ·exact h.elim
def jC(P:Program)(t:TypeId)(f:Nat)(p:AV)(K:AV->Prop):Prop:=
 match P.underlying t with
 | some (.struct fs)=>match fs[f]? with
  | some fd=>match cF P fd.type with
   | some (_+1)=>match p with
    | .ptr id i j=>gP (j+fd.offset) fun j=>K (.ptr id i j)
    | .ip u=>match tP P fd.type with
     | some sh=>sN sh u.cells fd.offset fun v=>K (.ip v)
     | none=>False
    | _=>False
   | _=>False
  | none=>False
 | _=>False
theorem wQ{P:Program}{t:TypeId}{f:Nat}{p:AV}{K:AV->Prop}(h:jC P t f p K):∃v,gJ P t f p=some v/\K v:=by
 unfold jC at h;unfold gJ;split at h
 ·rename_i fs hu;split at h
  ·rename_i fd hfd;split at h
   ·rename_i n hn;split at h
    ·exact⟨_,by simp[hu,hfd,hn],bF.1 h⟩
    ·split at h
     ·rename_i sh hsh;obtain⟨v,h1,h2⟩:=d9 h;exact⟨_,by simp[hu,hfd,hn,hsh,h1],h2⟩
     ·exact h.elim
    ·exact h.elim
   ·exact h.elim
  ·exact h.elim
 ·exact h.elim
def wV(P:Program)(t:TypeId)(f:Nat)(v:AV)(K:AV->Prop):Prop:=
 match P.underlying t with
 | some (.struct fs)=>match fs[f]? with
  | some fd=>match v with
   | .agg cs=>match tP P fd.type with
    | some sh=>sN sh cs fd.offset K
    | none=>False
   | _=>False
  | none=>False
 | _=>False
theorem Db{P:Program}{t:TypeId}{f:Nat}{p:AV}{K:AV->Prop}(h:wV P t f p K):∃v,rM P t f p=some v/\K v:=by
 unfold wV at h;unfold rM;split at h
 ·rename_i fs hu;split at h
  ·rename_i fd hfd;split at h
   ·split at h
    ·rename_i sh hsh;obtain⟨v,h1,h2⟩:=d9 h;exact⟨v,by simp[hu,hfd,hsh,h1],h2⟩
    ·exact h.elim
   ·exact h.elim
  ·exact h.elim
 ·exact h.elim
def jF(cl:Bool)(P:Program)(mem:aA)(t:TypeId)(p ix:AV)(K:AV->Prop):Prop:=
 match ix with
 | .int _ n=>gF (decide (0<=n)) (match P.underlying t with
   | some (.slice e)=>match cF P e with
    | some sz=>match p with
     | .sl id off len=>match lk mem id with
      | some (.row _ _ xs)=>gF (Nat.blt n.toNat len) (fL xs[off+n.toNat]? fun x=>gF (Nat.beq x.cells.length sz) (n8 cl (off+n.toNat) fun m=>K (.ptr id m 0)))
      | _=>False
     | .il sz' xs=>fL xs[n.toNat]? fun x=>gF (Nat.beq sz sz') (K (.ip x))
     | _=>False
    | none=>False
   | some (.array m e)=>match cF P e,tP P e with
    | some sz,some sh=>gF (Nat.blt n.toNat m) (match p with
      | .ptr id i j=>match rR mem id i j sz with
       | true=>n8 cl (i+n.toNat) fun m=>K (.ptr id m 0)
       | false=>n8 cl (j+n.toNat*sz) fun m=>K (.ptr id i m)
      | .ip u=>sN sh u.cells (n.toNat*sz) fun v=>K (.ip v)
      | _=>False)
    | _,_=>False
   | _=>False)
 | _=>False
theorem wT{cl:Bool}{P:Program}{mem:aA}{t:TypeId}{p ix:AV}{K:AV->Prop}(h:jF cl P mem t p ix K):∃v,gG P mem t p ix=some v/\K v:=by
 unfold jF at h;split at h
 ·rename_i kk n;obtain⟨hn,h⟩:=aQ.1 h;unfold gG;simp only[hn];split at h
  ·rename_i e hu;simp only[hu];split at h
   ·rename_i sz hsz;simp only[hsz];split at h
    ·rename_i id off len;split at h
     ·rename_i hid;obtain⟨h1,h⟩:=aQ.1 h;obtain⟨x,hx,h⟩:=aN.1 h;obtain⟨h2,h⟩:=aQ.1 h;exact⟨_,by simp[hid,h1,hx,h2],c7.1 h⟩
     ·exact h.elim
    ·obtain⟨x,hx,h⟩:=aN.1 h;obtain⟨h2,h⟩:=aQ.1 h;exact⟨_,by simp[hx,h2],h⟩
    ·exact h.elim
   ·exact h.elim
  ·rename_i m e hu;simp only[hu];split at h
   ·rename_i sz sh hsz hsh;simp only[hsz,hsh];obtain⟨h1,h⟩:=aQ.1 h;simp only[h1];split at h
    ·split at h
     ·rename_i he;exact⟨_,by simp[he],c7.1 h⟩
     ·rename_i he;exact⟨_,by simp[he],c7.1 h⟩
    ·obtain⟨v,h2,h3⟩:=d9 h;exact⟨_,by simp[h2],h3⟩
    ·exact h.elim
   ·exact h.elim
  ·exact h.elim
 ·exact h.elim
def vX(cl:Bool)(P:Program)(t:TypeId)(v ix:AV)(K:AV->Prop):Prop:=
 match ix with
 | .int _ n=>gF (decide (0<=n)) (match P.underlying t with
   | some .string=>match v with
    | .str s=>fL s[n.toNat]? fun b=>iS cl .u8 (b.toNat:Int) K
    | _=>False
   | some (.array m e)=>match v with
    | .agg cs=>gF (Nat.blt n.toNat m) (match cF P e,tP P e with
      | some sz,some sh=>sN sh cs (n.toNat*sz) K
      | _,_=>False)
    | _=>False
   | _=>False)
 | _=>False
theorem Dj{cl:Bool}{P:Program}{t:TypeId}{p ix:AV}{K:AV->Prop}(h:vX cl P t p ix K):∃v,qS P t p ix=some v/\K v:=by
 unfold vX at h;split at h
 ·rename_i kk n;obtain⟨hn,h⟩:=aQ.1 h;unfold qS;simp only[hn];split at h
  ·rename_i hu;simp only[hu];split at h
   ·obtain⟨b,hb,h⟩:=aN.1 h;exact⟨_,by simp[hb],fH.1 h⟩
   ·exact h.elim
  ·rename_i m e hu;simp only[hu];split at h
   ·obtain⟨h1,h⟩:=aQ.1 h;simp only[h1];split at h
    ·rename_i sz sh hsz hsh;obtain⟨v,h2,h3⟩:=d9 h;exact⟨v,by simp[hsz,hsh,h2],h3⟩
    ·exact h.elim
   ·exact h.elim
  ·exact h.elim
 ·exact h.elim
def Aj(cl:Bool)(op:BinOp)(k:IntKind)(x y:Int)(K:AV->Prop):Prop:=
 match op with
 | .add=>iS cl k (k.wrap (x+y)) K
 | .sub=>iS cl k (k.wrap (x-y)) K
 | .mul=>iS cl k (k.wrap (x*y)) K
 | .quo=>gF (!decide (y=0)) (iS cl k (k.wrap (x.tdiv y)) K)
 | .rem=>gF (!decide (y=0)) (iS cl k (x.tmod y) K)
 | .and=>iS cl k (bits .and k x y) K
 | .or=>iS cl k (bits .or k x y) K
 | .xor=>iS cl k (bits .xor k x y) K
 | .andNot=>iS cl k (bits .andNot k x y) K
 | .eql=>eQ cl (x == y) K
 | .neq=>eQ cl (x != y) K
 | .lss=>eQ cl (decide (x<y)) K
 | .leq=>eQ cl (decide (x<=y)) K
 | .gtr=>eQ cl (decide (x>y)) K
 | .geq=>eQ cl (decide (x≥y)) K
 | _=>False
theorem Cl{cl:Bool}{op:BinOp}{k:IntKind}{x y:Int}{K:AV->Prop}(h:Aj cl op k x y K):∃v,sM op k x y=some v/\K v:=by
  cases op<;>simp only[Aj,fH,eW] at h<;>simp only[sM]<;>first
    | exact h.elim
    | exact⟨_,rfl,h⟩
    | (obtain⟨h1,h2⟩:=aQ.1 h
       have:decide (y=0)=false:=by simpa using h1
       rw[this];exact⟨_,rfl,h2⟩)
def zS(cl:Bool)(op:BinOp)(x y:List UInt8)(K:AV->Prop):Prop:=
 match op with
 | .add=>gF (Nat.ble (x.length+y.length) 9223372036854775807) (match cl with
   | true=>pY x y fun l=>K (.str l)
   | false=>K (.str (x++y)))
 | .eql=>eQ cl (x == y) K
 | .neq=>eQ cl (!(x == y)) K
 | .lss=>eQ cl (Op.bytesLess x y) K
 | .leq=>eQ cl (Op.bytesLess x y || x == y) K
 | .gtr=>eQ cl (!(Op.bytesLess x y || x == y)) K
 | .geq=>eQ cl (!(Op.bytesLess x y)) K
 | _=>False
theorem DF{cl:Bool}{op:BinOp}{x y:List UInt8}{K:AV->Prop}(h:zS cl op x y K):∃v,sL op x y=some v/\K v:=by
  cases op<;>simp only[zS,eW] at h<;>simp only[sL]<;>first
    | exact h.elim
    | exact⟨_,rfl,h⟩
    | (obtain⟨h1,h2⟩:=aQ.1 h
       have h1':decide ((x.length:Int)+y.length<=9223372036854775807)=true:=by have:=JB h1;simp;omega
       rw[h1'];refine⟨_,rfl, ?_⟩;cases cl
       · exact h2
       · exact cO.1 h2)
def Ak(cl:Bool)(op:BinOp)(k:IntKind)(x y:Int)(K:AV->Prop):Prop:=
 gF (!decide (y<0)) (match op with
  | .shl=>iS cl k (k.wrap (x*2 ^ (min y.toNat k.bits))) K
  | .shr=>iS cl k (x.fdiv (2 ^ (min y.toNat k.bits))) K
  | _=>False)
theorem y8{cl:Bool}{op:BinOp}{k:IntKind}{x y:Int}{K:AV->Prop}(h:Ak cl op k x y K):∃v,oM op k x y=some v/\K v:=by
 obtain⟨h1,h2⟩:=aQ.1 h;have h1:decide (y<0)=false:=by simpa using h1
 unfold oM;rw[h1];cases op<;>simp only[fH] at h2<;>first|exact h2.elim|exact⟨_,rfl,h2⟩
def E9(cl:Bool)(P:Program)(op:BinOp)(t:TypeId)(xo yo:Operand)(x y:AV)(K:AV->Prop):Prop:=
 match x,y with
 | .int k a,.int k' b=>match op with
  | .shl=>Ak cl .shl k a b K
  | .shr=>Ak cl .shr k a b K
  | _=>gF (decide (k=k')) (Aj cl op k a b K)
 | .str a,.str b=>zS cl op a b K
 | .agg a,.agg b=>match P.eqGuardType P.depth t with
  | false=>match op with
   | .eql=>fL (Ao P t a b) fun r=>eQ cl r K
   | .neq=>fL (Ao P t a b) fun r=>eQ cl (!r) K
   | _=>False
  | true=>False
 | x,y=>match op with
  | .eql=>fL (Cr P (eE xo || eE yo) t x y) fun b=>eQ cl b K
  | .neq=>fL (Cr P (eE xo || eE yo) t x y) fun b=>eQ cl (!b) K
  | _=>False
theorem F9{cl:Bool}{P:Program}{op:BinOp}{t:TypeId}{xo yo:Operand}{x y:AV}{K:AV->Prop}(h:E9 cl P op t xo yo x y K):∃v,Co P op t xo yo x y=some v/\K v:=by
 unfold E9 at h;unfold Co;split at h
 ·split at h
  ·exact y8 h
  ·exact y8 h
  ·obtain⟨h1,h2⟩:=aQ.1 h;simp only[h1];obtain⟨v,h3,h4⟩:=Cl h2;refine⟨v, ?_,h4⟩;cases op<;>first|exact h3|contradiction
 ·exact DF h
 ·split at h
  ·rename_i hg;simp only[hg];split at h
   ·obtain⟨b,hb,h⟩:=aN.1 h;exact⟨.bool b,by simp only[hb],eW.1 h⟩
   ·obtain⟨b,hb,h⟩:=aN.1 h;exact⟨.bool (!b),by simp only[hb],eW.1 h⟩
   ·exact h.elim
  ·exact h.elim
 ·rename_i h1 h2 h3;split at h
  ·obtain⟨b,hb,h⟩:=aN.1 h;refine⟨.bool b, ?_,eW.1 h⟩;cases x<;>cases y<;>first|(simp only[hb];done)|(exact(h1 _ _ _ _ rfl rfl).elim)|(exact(h2 _ _ rfl rfl).elim)|(exact(h3 _ _ rfl rfl).elim)
  ·obtain⟨b,hb,h⟩:=aN.1 h;refine⟨.bool (!b), ?_,eW.1 h⟩;cases x<;>cases y<;>first|(simp only[hb];done)|(exact(h1 _ _ _ _ rfl rfl).elim)|(exact(h2 _ _ rfl rfl).elim)|(exact(h3 _ _ rfl rfl).elim)
  ·exact h.elim
def IA(cl:Bool)(op:UnOp)(x:AV)(K:AV->Prop):Prop:=
 match op,x with
 | .neg,.int k n=>iS cl k (k.wrap (0-n)) K
 | .not,.bool b=>eQ cl (!b) K
 | _,_=>False
theorem HC{cl:Bool}{op:UnOp}{x:AV}{K:AV->Prop}(h:IA cl op x K):∃v,H7 op x=some v/\K v:=by
 unfold IA at h;split at h
 ·exact⟨_,rfl,fH.1 h⟩
 ·exact⟨_,rfl,eW.1 h⟩
 ·exact h.elim
def Be(cl:Bool)(P:Program)(mem:aA)(src dst:TypeId)(x:AV)(K:AV->Prop):Prop:=
 match P.underlying src with
 | none=>False
 | some d=>match P.underlying dst with
  | some (.int k)=>match x with
   | .int _ n=>iS cl k (k.wrap n) K
   | _=>False
  | some .string=>match x with
   | .str s=>K (.str s)
   | .nsl=>match d with
    | .slice e=>match P.underlying e with
     | some (.int .u8)=>K (.str [])
     | _=>False
    | _=>False
   | .il sz xs=>match d with
    | .slice e=>match P.underlying e with
     | some (.int .u8)=>gF (Nat.beq sz 1) (fL (cB xs) fun l=>jJ cl l fun l=>K (.str l))
     | _=>False
    | _=>False
   | .sl id off len=>match d with
    | .slice e=>match P.underlying e with
     | some (.int .u8)=>match lk mem id with
      | some (.row _ _ xs)=>gF (Nat.ble (off+len) xs.length) (fL (cB ((xs.drop off).take len)) fun l=>jJ cl l fun l=>K (.str l))
      | _=>False
     | _=>False
    | _=>False
   | _=>False
  | some .unsafePointer=>fL (FI P mem d x) K
  | some (.pointer u)=>fL (vR P mem d u x) K
  | _=>False
theorem E8{cl:Bool}{P:Program}{mem:aA}{src dst:TypeId}{x:AV}{K:AV->Prop}(h:Be cl P mem src dst x K):∃v,sQ P mem src dst x=some v/\K v:=by
 unfold Be at h;split at h
 ·exact h.elim
 ·rename_i d hd;unfold sQ;simp only[hd];split at h
  ·rename_i k hu;simp only[hu];split at h
   ·exact⟨_,rfl,fH.1 h⟩
   ·exact h.elim
  ·rename_i hu;simp only[hu];split at h
   ·exact⟨_,rfl,h⟩
   ·split at h
    ·split at h
     ·rename_i he;exact⟨_,by simp only[he],h⟩
     ·exact h.elim
    ·exact h.elim
   ·split at h
    ·split at h
     ·rename_i he;obtain⟨h1,h⟩:=aQ.1 h;obtain⟨l,h2,h⟩:=aN.1 h;exact⟨_,by simp only[he,h1,h2],c9.1 h⟩
     ·exact h.elim
    ·exact h.elim
   ·split at h
    ·split at h
     ·rename_i he;split at h
      ·rename_i hid;obtain⟨h1,h⟩:=aQ.1 h;obtain⟨l,h2,h⟩:=aN.1 h;exact⟨_,by simp only[he,hid,h1,h2],c9.1 h⟩
      ·exact h.elim
     ·exact h.elim
    ·exact h.elim
   ·exact h.elim
  ·rename_i hu;simp only[hu];obtain⟨v,h1,h⟩:=aN.1 h;exact⟨v,h1,h⟩
  ·rename_i u hu;simp only[hu];obtain⟨v,h1,h⟩:=aN.1 h;exact⟨v,h1,h⟩
  ·exact h.elim
def wA:List AV->Nat->List AV->(List AV->Prop)->Prop
 | cells,_,[],K=>K cells
 | cells,off,v::r,K=>AL cells off v fun c=>wA c (off+1) r K
theorem sU(off:Nat):∀(vs:List AV) (k:Nat) (cells:List AV) (K:List AV->Prop),wA cells (off+k) vs K↔K ((vs.zipIdx k).foldl (fun cs p=>cs.set (off+p.2) p.1) cells)
 | [],k,cells,K=>Iff.rfl
 | v::r,k,cells,K=>by
  simp only[wA,eF,LE,KV];have:=sU off r (k+1) (cells.set (off+k) v) K;rw[←Nat.add_assoc] at this;exact this
def xB(place:Nat->Option (Nat × Nat)):List AV->List (Nat × AV)->(List AV->Prop)->Prop
 | cells,[],K=>K cells
 | cells,(i,v)::r,K=>match place i with
  | none=>False
  | some (off,size)=>gF (d6 v && (Nat.beq v.cells.length size && Nat.ble (off+v.cells.length) cells.length)) (wA cells off v.cells fun cs=>xB place cs r K)
theorem wJ{place:Nat->Option (Nat × Nat)}:∀{parts:List (Nat × AV)} {cells:List AV} {K:List AV->Prop},xB place cells parts K->∃l,nV place cells parts=some l/\K l
 | [],cells,K,h=>⟨cells,by simp[nV],h⟩
 | (i,v)::r,cells,K,h=>by
  simp only[xB] at h;simp only[nV];split at h
  ·exact h.elim
  ·rename_i off size hp;obtain⟨h1,h2⟩:=aQ.1 h;have h3:=(sU off v.cells 0 cells _).1 h2;obtain⟨l,h4,h5⟩:=wJ h3;exact⟨l,by simp only[hp,h1];exact h4,h5⟩
def vI(P:Program)(t:TypeId)(parts:List (Nat × AV))(K:AV->Prop):Prop:=
 match P.info? t with
 | some it=>match it.zero with
  | some z=>match lO z with
   | some (.agg zs)=>match P.underlying t with
    | some (.array _ e)=>match cF P e with
     | some n=>xB (fun i=>some (i*n,n)) zs parts fun cs=>K (.agg cs)
     | none=>False
    | some (.struct fs)=>match kY P fs.toList with
     | some places=>xB (fun i=>places[i]?) zs parts fun cs=>K (.agg cs)
     | none=>False
    | _=>False
   | _=>False
  | none=>False
 | none=>False
theorem Ch{P:Program}{t:TypeId}{parts:List (Nat × AV)}{K:AV->Prop}(h:vI P t parts K):∃v,sG P t parts=some v/\K v:=by
 unfold vI at h;unfold sG;split at h
 ·rename_i it h1;simp only[h1];split at h
  ·rename_i z h2;simp only[h2];split at h
   ·rename_i zs h3;simp only[h3];split at h
    ·rename_i e h4;simp only[h4];split at h
     ·rename_i n h5;simp only[h5];obtain⟨l,h6,h7⟩:=wJ h;exact⟨_,by rw[h6],h7⟩
     ·exact h.elim
    ·rename_i fs h4;simp only[h4];split at h
     ·rename_i n h5;simp only[h5];obtain⟨l,h6,h7⟩:=wJ h;exact⟨_,by rw[h6],h7⟩
     ·exact h.elim
    ·exact h.elim
   ·exact h.elim
  ·exact h.elim
 ·exact h.elim
def dM(d:Nat)(x:Option AV)(K:Nat->Prop):Prop:=
 match x with
 | none=>K d
 | some (.int _ n)=>gF (decide (0<=n)) (K n.toNat)
 | some _=>False
theorem cE{d:Nat}{x:Option AV}{K:Nat->Prop}(h:dM d x K):∃n,bT d x=some n/\K n:=by
 unfold dM at h;split at h
 ·exact⟨_,rfl,h⟩
 ·obtain⟨h1,h2⟩:=aQ.1 h;exact⟨_,by simp only[bT,h1],h2⟩
 ·exact h.elim
def AM(cl:Bool)(P:Program)(mem:aA)(t:TypeId)(x:AV)(lo hi mx:Option AV)(K:AV->Prop):Prop:=
 match P.underlying t with
 | some .string=>match x,mx with
  | .str s,none=>dM 0 lo fun l=>dM s.length hi fun h=>gF (Nat.ble l h && Nat.ble h s.length) (jJ cl ((s.drop l).take (h-l)) fun s=>K (.str s))
  | _,_=>False
 | some (.slice e)=>match cF P e with
  | none=>False
  | some sz=>match x with
   | .nsl=>dM 0 lo fun l=>dM 0 hi fun h=>dM 0 mx fun m=>gF (Nat.beq l 0 && (Nat.beq h 0 && Nat.beq m 0)) (K .nsl)
   | .il sz' xs=>gF (Nat.beq sz sz') (dM 0 lo fun l=>dM xs.length hi fun h=>dM xs.length mx fun m=>gF (Nat.ble l h && (Nat.ble h m && Nat.ble m xs.length)) (jJ cl ((xs.drop l).take (h-l)) fun ys=>K (.il sz' ys)))
   | .sl id off len=>match lk mem id with
    | some (.row _ sz0 _)=>gF (Nat.beq sz0 sz) (dM 0 lo fun l=>dM len hi fun h=>dM len mx fun m=>gF (Nat.ble l h && (Nat.ble h m && Nat.ble m len)) (n8 cl (off+l) fun o=>n8 cl (h-l) fun n=>K (.sl id o n)))
    | _=>False
   | _=>False
 | some (.array n e)=>match cF P e with
  | none=>False
  | some sz=>match x with
   | .ptr id i 0=>match lk mem id with
    | some (.row _ _ xs)=>gF (rR mem id i 0 sz && Nat.ble (i+n) xs.length) (dM 0 lo fun l=>dM n hi fun h=>dM n mx fun m=>gF (Nat.ble l h && (Nat.ble h m && Nat.ble m n)) (n8 cl (i+l) fun o=>n8 cl (h-l) fun n=>K (.sl id o n)))
    | _=>False
   | _=>False
 | _=>False
theorem Ct{cl:Bool}{P:Program}{mem:aA}{t:TypeId}{x:AV}{lo hi mx:Option AV}{K:AV->Prop}(h:AM cl P mem t x lo hi mx K):∃v,rI P mem t x lo hi mx=some v/\K v:=by
 unfold AM at h;unfold rI;split at h
 ·rename_i hu;simp only[hu];split at h
  ·rename_i s;obtain⟨l,h1,h⟩:=cE h;obtain⟨h',h2,h⟩:=cE h;obtain⟨h3,h⟩:=aQ.1 h;exact⟨_,by simp only[h1,h2,h3],c9.1 h⟩
  ·exact h.elim
 ·rename_i e hu;simp only[hu];split at h
  ·exact h.elim
  ·rename_i sz hsz;simp only[hsz];split at h
   ·obtain⟨l,h1,h⟩:=cE h;obtain⟨h',h2,h⟩:=cE h;obtain⟨m,h3,h⟩:=cE h;obtain⟨h4,h⟩:=aQ.1 h;simp only[JE] at h4;obtain⟨a1,a2,a3⟩:=h4;rw[Nat.eq_of_beq_eq_true a1] at h1;rw[Nat.eq_of_beq_eq_true a2] at h2;rw[Nat.eq_of_beq_eq_true a3] at h3;exact⟨_,by simp only[h1,h2,h3],h⟩
   ·obtain⟨h0,h⟩:=aQ.1 h;obtain⟨l,h1,h⟩:=cE h;obtain⟨h',h2,h⟩:=cE h;obtain⟨m,h3,h⟩:=cE h;obtain⟨h4,h⟩:=aQ.1 h;exact⟨_,by simp only[h0,h1,h2,h3,h4],c9.1 h⟩
   ·split at h
    ·rename_i hid;obtain⟨h0,h⟩:=aQ.1 h;obtain⟨l,h1,h⟩:=cE h;obtain⟨h',h2,h⟩:=cE h;obtain⟨m,h3,h⟩:=cE h;obtain⟨h4,h⟩:=aQ.1 h;exact⟨_,by simp only[hid,h0,h1,h2,h3,h4],c7.1 (c7.1 h)⟩
    ·exact h.elim
   ·exact h.elim
 ·rename_i n e hu;simp only[hu];split at h
  ·exact h.elim
  ·rename_i sz hsz;simp only[hsz];split at h
   ·split at h
    ·rename_i hid;obtain⟨h0,h⟩:=aQ.1 h;obtain⟨l,h1,h⟩:=cE h;obtain⟨h',h2,h⟩:=cE h;obtain⟨m,h3,h⟩:=cE h;obtain⟨h4,h⟩:=aQ.1 h;exact⟨_,by simp only[hid,h0,h1,h2,h3,h4],c7.1 (c7.1 h)⟩
    ·exact h.elim
   ·exact h.elim
 ·exact h.elim
def AW(sz:Nat)(sh:Option Nat):Nat->List AV->(List AV->Prop)->Prop
 | 0,_,K=>K []
 | m+1,cs,K=>sN sh cs 0 fun x=>AW sz sh m (cs.drop sz) fun l=>K (x::l)
theorem yB{sz:Nat}{sh:Option Nat}:∀{m:Nat} {cs:List AV} {K:List AV->Prop},AW sz sh m cs K->∃l,sX sz sh m cs=some l/\K l
 | 0,cs,K,h=>⟨[],rfl,h⟩
 | m+1,cs,K,h=>by
  obtain⟨x,h1,h⟩:=d9 h;obtain⟨l,h2,h⟩:=yB h;exact⟨_,by simp only[sX,h1,h2],h⟩
def Gy{α:Type}:List α->Nat->Nat
 | [],n=>n
 | _::r,n=>Gy r (n+1)
theorem DT{α:Type}:∀(l:List α) (n:Nat),Gy l n=l.length+n
 | [],n=>by simp[Gy]
 | _::r,n=>by simp[Gy,DT r];omega
def eP(P:Program)(t:TypeId)(v:AV)(K:Nat->List AV->Prop):Prop:=
 match P.underlying t with
 | some (.array m e)=>match v with
  | .agg cs=>match cF P e,tP P e with
   | some sz,some sh=>gF (Nat.beq (sh.getD 1) sz && (Nat.blt 0 sz && Nat.beq cs.length (m*sz))) (AW sz sh m cs fun xs=>K sz xs)
   | _,_=>False
  | _=>False
 | some _=>gF (d6 v) (match v.cells with
  | []=>K 0 []
  | _::_=>gP (Gy v.cells 0) fun n=>K n [v])
 | none=>False
theorem DG{P:Program}{t:TypeId}{v:AV}{K:Nat->List AV->Prop}(h:eP P t v K):∃sz xs,s4 P t v=some (sz,xs)/\K sz xs:=by
 unfold eP at h;unfold s4;split at h
 ·rename_i m e hu;simp only[hu];split at h
  ·split at h
   ·rename_i sz sh h1 h2;simp only[h1,h2];obtain⟨h3,h⟩:=aQ.1 h;obtain⟨l,h4,h⟩:=yB h;exact⟨_,_,by simp only[h3,h4],h⟩
   ·exact h.elim
  ·exact h.elim
 ·rename_i d hna hu;simp only[hu];obtain⟨h1,h⟩:=aQ.1 h;split at h
  ·rename_i hc;refine⟨_,_, ?_,h⟩;cases hd:d<;>first|(exact(hna _ _ hd).elim)|simp only[h1,hc]
  ·rename_i c cs hc;have h:=bF.1 h;rw[DT,KB] at h;refine⟨_,_, ?_,h⟩;cases hd:d<;>first|(exact(hna _ _ hd).elim)|simp only[h1,hc]
 ·exact h.elim
def vS(P:Program)(mem:aA)(nx:Nat)(t:TypeId)(K:AV->aA->Nat->Prop):Prop:=
 match P.info? t with
 | some i=>match i.zero with
  | some z=>match lO z with
   | some v=>eP P t v fun sz xs=>gP (nx+1) fun n=>K (.ptr nx 0 0) ((nx,.row t sz xs)::mem) n
   | none=>False
  | none=>False
 | none=>False
theorem DB{P:Program}{mem:aA}{nx:Nat}{t:TypeId}{K:AV->aA->Nat->Prop}(h:vS P mem nx t K):∃v m n,kI P mem nx t=some (v,m,n)/\K v m n:=by
 unfold vS at h;unfold kI;split at h
 ·rename_i i h1;simp only[h1];split at h
  ·rename_i z h2;simp only[h2];split at h
   ·rename_i v h3;simp only[h3];obtain⟨sz,xs,h4,h⟩:=DG h;exact⟨_,_,_,by simp only[h4],bF.1 h⟩
   ·exact h.elim
  ·exact h.elim
 ·exact h.elim
def Ft(P:Program)(mem:aA)(nx:Nat)(t:TypeId)(v:AV)(K:AV->aA->Nat->Prop):Prop:=
 eP P t v fun sz xs=>gP (nx+1) fun n=>K (.ptr nx 0 0) ((nx,.row t sz xs)::mem) n
theorem GH{P:Program}{mem:aA}{nx:Nat}{t:TypeId}{v:AV}{K:AV->aA->Nat->Prop}(h:Ft P mem nx t v K):∃r m n,yU P mem nx t v=some (r,m,n)/\K r m n:=by
 obtain⟨sz,xs,h4,h⟩:=DG h;exact⟨_,_,_,by simp only[yU,h4],bF.1 h⟩
def zX(sz:Nat):List AV->List (Nat × AV)->(List AV->Prop)->Prop
 | xs,[],K=>K xs
 | xs,(i,v)::r,K=>gF (d6 v && (Nat.beq v.cells.length sz && Nat.blt i xs.length)) (AL xs i v fun xs=>zX sz xs r K)
theorem zL{sz:Nat}:∀{parts:List (Nat × AV)} {xs:List AV} {K:List AV->Prop},zX sz xs parts K->∃l,j7 sz xs parts=some l/\K l
 | [],xs,K,h=>⟨xs,by simp[j7],h⟩
 | (i,v)::r,xs,K,h=>by
  obtain⟨h1,h⟩:=aQ.1 h;obtain⟨l,h2,h⟩:=zL (eF.1 h);exact⟨l,by simp only[j7,h1];exact h2,h⟩
def gW(P:Program)(mem:aA)(nx:Nat)(t:TypeId)(len:Nat)(parts:List (Nat × AV))(K:AV->aA->Nat->Prop):Prop:=
 match P.underlying t with
 | some (.slice e)=>match cF P e,eV P e with
  | some sz,some z=>gF (d6 z && (Nat.beq z.cells.length sz && (Nat.blt 0 sz && Nat.ble (len*sz) 16777216))) (lZ (List.replicate len z) fun zs=>zX sz zs parts fun xs=>gP (nx+1) fun n=>K (.sl nx 0 len) ((nx,.row e sz xs)::mem) n)
  | _,_=>False
 | _=>False
theorem tO{P:Program}{mem:aA}{nx:Nat}{t:TypeId}{len:Nat}{parts:List (Nat × AV)}{K:AV->aA->Nat->Prop}(h:gW P mem nx t len parts K):∃v m n,cR P mem nx t len parts=some (v,m,n)/\K v m n:=by
 unfold gW at h;unfold cR;split at h
 ·rename_i e hu;simp only[hu];split at h
  ·rename_i sz z h1 h2;simp only[h1,h2];obtain⟨h3,h⟩:=aQ.1 h;obtain⟨l,h4,h⟩:=zL (fA.1 h);exact⟨_,_,_,by simp only[h3,h4],bF.1 h⟩
  ·exact h.elim
 ·exact h.elim
def gY:List AV->Nat->List AV->(List AV->Prop)->Prop
 | [],_,cs,K=>K cs
 | x::r,0,[],K=>K (x::r)
 | _::r,0,c::cs,K=>gY r 0 cs fun l=>K (c::l)
 | x::r,j+1,cs,K=>gY r j cs fun l=>K (x::l)
theorem j9:∀{xs:List AV} {j:Nat} {cs:List AV} {K:List AV->Prop},gY xs j cs K↔K (xs.take j++cs++xs.drop (j+cs.length))
 | [],j,cs,K=>by simp[gY]
 | x::r,0,[],K=>by simp[gY]
 | x::r,0,c::cs,K=>by simp[gY,j9]
 | x::r,j+1,cs,K=>by simp[gY,j9,Nat.add_right_comm]
def oJ(x:AV)(j:Nat)(cs:List AV)(K:AV->Prop):Prop:=
 match x with
 | .agg xs=>gY xs j cs fun l=>K (.agg l)
 | _=>match cs with
  | [c]=>fL (one c) K
  | _=>False
theorem xC{x:AV}{j:Nat}{cs:List AV}{K:AV->Prop}(h:oJ x j cs K):∃v,kM x j cs=some v/\K v:=by
 unfold oJ at h;unfold kM;split at h
 ·exact⟨_,rfl,j9.1 h⟩
 ·rename_i hx;split at h
  ·obtain⟨v,h1,h2⟩:=aN.1 h;refine⟨v, ?_,h2⟩;cases x<;>first|exact h1|exact(hx _ rfl).elim
  ·exact h.elim
def sJ:aA->(aA->Prop)->Prop
 | [],K=>K []
 | p::r,K=>sJ r fun r=>K (p::r)
theorem l9:∀{m:aA} {K:aA->Prop},sJ m K↔K m
 | [],K=>Iff.rfl
 | p::r,K=>by simp only[sJ];exact l9
def wK(P:Program)(mem:aA)(t:TypeId)(p v:AV)(K:aA->Prop):Prop:=
 match p with
 | .ptr id i j=>match lk mem id with
  | some (.row t' sz' xs)=>fL xs[i]? fun x=>match cF P t with
   | some n=>gF (d6 v && (Nat.beq v.cells.length n && Nat.ble (j+n) x.cells.length)) (oJ x j v.cells fun x'=>AL xs i x' fun xs'=>y7 mem id (.row t' sz' xs') K)
   | none=>False
  | _=>False
 | _=>False
theorem CJ{P:Program}{mem:aA}{t:TypeId}{p v:AV}{K:aA->Prop}(h:wK P mem t p v K):∃m,nS P mem t p v=some m/\K m:=by
 unfold wK at h;unfold nS;split at h
 ·split at h
  ·rename_i hid;obtain⟨x,hx,h⟩:=aN.1 h;split at h
   ·rename_i n hn;obtain⟨h1,h⟩:=aQ.1 h;obtain⟨x',h2,h⟩:=xC h;exact⟨_,by simp only[hid,hx,hn,h1,h2],eG.1 (eF.1 h)⟩
   ·exact h.elim
  ·exact h.elim
 ·exact h.elim
def vK(P:Program)(mem:aA)(t:TypeId)(p v:AV)(K:aA->Prop):Prop:=
 match P.underlying t with
 | some (.array _ _)=>fL (mH P mem t p v) fun m=>sJ m K
 | _=>match v.cells with
  | []=>fL (kW P mem t p v) K
  | _::_=>wK P mem t p v K
theorem Dy{P:Program}{mem:aA}{t:TypeId}{p v:AV}{K:aA->Prop}(h:vK P mem t p v K):∃m,mH P mem t p v=some m/\K m:=by
 unfold vK at h;split at h
 ·obtain⟨m,h1,h⟩:=aN.1 h;exact⟨m,h1,l9.1 h⟩
 ·split at h
  ·obtain⟨m,h1,h⟩:=aN.1 h;exact⟨m,by simp only[mH,h1],h⟩
  ·rename_i hc;obtain⟨m,h1,h⟩:=CJ h;have hz:kW P mem t p v=none:=by
    unfold kW;split<;>first|rfl|skip
    split<;>first|rfl|skip
    split<;>first|rfl|skip
    rw[hc]
   exact⟨m,by simp only[mH,hz,h1],h⟩
def C7(cl:Bool)(P:Program)(mem:aA)(nx:Nat)(t:TypeId)(l c:AV)(K:AV->aA->Nat->Prop):Prop:=
 match l,c with
 | .int _ l,.int _ c=>match P.underlying t with
  | some (.slice e)=>match P.info? e with
   | some i=>match eV P e with
    | some z=>gF (d6 z && (Nat.beq z.cells.length i.size && (Nat.blt 0 i.size && (decide (0<=l) && (decide (l<=c) && (decide ((i.bytes:Int)*c<=281474976710656) && decide (c<=9223372036854775807)))))))
      (gP (nx+1) fun n=>jJ cl (List.replicate l.toNat z) fun zs=>n8 cl l.toNat fun m=>K (.sl nx 0 m) ((nx,.row e i.size zs)::mem) n)
    | none=>False
   | none=>False
  | _=>False
 | _,_=>False
theorem EA{cl:Bool}{P:Program}{mem:aA}{nx:Nat}{t:TypeId}{l c:AV}{K:AV->aA->Nat->Prop}(h:C7 cl P mem nx t l c K):∃v m n,o8 P mem nx t l c=some (v,m,n)/\K v m n:=by
 unfold C7 at h;split at h
 ·unfold o8;split at h
  ·rename_i e hu;simp only[hu];split at h
   ·rename_i i h1;simp only[h1];split at h
    ·rename_i z h2;simp only[h2];obtain⟨h3,h⟩:=aQ.1 h;have h4:=c7.1 (c9.1 (bF.1 h));exact⟨_,_,_,by simp only[h3],h4⟩
    ·exact h.elim
   ·exact h.elim
  ·exact h.elim
 ·exact h.elim
def FN(cl:Bool)(mem:aA)(sz:Nat)(x:AV)(K:List AV->Prop):Prop:=
 match x with
 | .nsl=>K []
 | .il sz' ys=>gF (Nat.beq sz' sz) (K ys)
 | .sl id off len=>match lk mem id with
  | some (.row _ sz' xs)=>gF (Nat.beq sz' sz && Nat.ble (off+len) xs.length) (jJ cl ((xs.drop off).take len) K)
  | _=>False
 | .str s=>gF (Nat.beq sz 1) (jJ cl (s.map fun b=>.int .u8 (b.toNat:Int)) K)
 | _=>False
theorem Dc{cl:Bool}{mem:aA}{sz:Nat}{x:AV}{K:List AV->Prop}(h:FN cl mem sz x K):∃l,CE mem sz x=some l/\K l:=by
 unfold FN at h;unfold CE;split at h
 ·exact⟨_,rfl,h⟩
 ·obtain⟨h1,h⟩:=aQ.1 h;exact⟨_,by simp only[h1],h⟩
 ·split at h
  ·rename_i hid;obtain⟨h1,h⟩:=aQ.1 h;exact⟨_,by simp only[hid,h1],c9.1 h⟩
  ·exact h.elim
 ·obtain⟨h1,h⟩:=aQ.1 h;exact⟨_,by simp only[h1],c9.1 h⟩
 ·exact h.elim
def D7(cl:Bool)(xs ys:List AV)(K:List AV->Prop):Prop:=
 match cl with
 | true=>pY xs ys K
 | false=>K (xs++ys)
theorem zF{cl:Bool}{xs ys:List AV}{K:List AV->Prop}:D7 cl xs ys K↔K (xs++ys):=by cases cl<;>simp[D7,cO]
def v6(cl:Bool)(P:Program)(mem:aA)(nx:Nat)(t u:TypeId)(s x:AV)(K:AV->aA->Nat->Prop):Prop:=
 match P.underlying t with
 | some (.slice e)=>match P.info? e with
  | some i=>match i.zero with
   | some z=>gF (mG (P.underlying u) && (Nat.blt 0 i.size && Nat.beq z.cells.size i.size)) (FN cl mem i.size x fun ys=>match s with
     | .nsl=>gF (Nat.ble (ys.length*i.bytes) 140737488355328 && Nat.ble ys.length 9223372036854775807) (n8 cl ys.length fun l=>gP (nx+1) fun n=>K (.sl nx 0 l) ((nx,.row e i.size ys)::mem) n)
     | .sl id 0 len=>match lk mem id with
      | some (.row t' sz' xs)=>gF (Nat.beq t' e && (Nat.beq sz' i.size && (Nat.beq len xs.length && (Nat.ble ((len+ys.length)*i.bytes) 140737488355328 && Nat.ble (len+ys.length) 9223372036854775807))))
        (D7 cl xs ys fun zs=>n8 cl (len+ys.length) fun l=>gP (nx+1) fun n=>Bd id mem fun m=>K (.sl nx 0 l) ((nx,.row e i.size zs)::m) n)
      | _=>False
     | _=>False)
   | none=>False
  | none=>False
 | _=>False
theorem CX{cl:Bool}{P:Program}{mem:aA}{nx:Nat}{t u:TypeId}{s x:AV}{K:AV->aA->Nat->Prop}(h:v6 cl P mem nx t u s x K):∃v m n,iT P mem nx t u s x=some (v,m,n)/\K v m n:=by
 unfold v6 at h;unfold iT;split at h
 ·rename_i e hu;simp only[hu];split at h
  ·rename_i i h1;simp only[h1];split at h
   ·rename_i z h2;simp only[h2];obtain⟨h3,h⟩:=aQ.1 h;simp only[h3];obtain⟨ys,h4,h⟩:=Dc h;simp only[h4];split at h
    ·obtain⟨h5,h⟩:=aQ.1 h;exact⟨_,_,_,by simp only[h5],bF.1 (c7.1 h)⟩
    ·split at h
     ·rename_i hid;obtain⟨h5,h⟩:=aQ.1 h;exact⟨_,_,_,by simp only[hid,h5],uV.1 (bF.1 (c7.1 (zF.1 h)))⟩
     ·exact h.elim
    ·exact h.elim
   ·exact h.elim
  ·exact h.elim
 ·exact h.elim
def k9(cl:Bool)(P:Program)(mem:aA)(nx:Nat)(src dst:TypeId)(x:AV)(K:AV->aA->Nat->Prop):Prop:=
 match P.underlying src with
 | none=>False
 | some _=>match P.underlying dst with
  | some (.slice e)=>match P.underlying e with
   | some (.int .u8)=>match x with
    | .str s=>gP (nx+1) fun n=>n8 cl s.length fun l=>jJ cl (s.map fun b=>.int .u8 (b.toNat:Int)) fun xs=>K (.sl nx 0 l) ((nx,.row e 1 xs)::mem) n
    | _=>False
   | _=>False
  | _=>False
theorem x9{cl:Bool}{P:Program}{mem:aA}{nx:Nat}{src dst:TypeId}{x:AV}{K:AV->aA->Nat->Prop}(h:k9 cl P mem nx src dst x K):∃v m n,dY P mem nx src dst x=some (v,m,n)/\K v m n:=by
 unfold k9 at h;unfold dY;split at h
 ·exact h.elim
 ·rename_i d hd;simp only[hd];split at h
  ·rename_i e hu;simp only[hu];split at h
   ·rename_i he;simp only[he];split at h
    ·exact⟨_,_,_,rfl,c9.1 (c7.1 (bF.1 h))⟩
    ·exact h.elim
   ·exact h.elim
  ·exact h.elim
def gN(P:Program)(mem:aA)(t:TypeId)(m k v:AV)(K:aA->Prop):Prop:=
 match P.underlying t with
 | some (.map kt _)=>gF (wN P kt k) (match m with
   | .mp id=>match lk mem id with
    | some (.mapb es)=>fL (eD P kt k es 0) fun r=>match r with
     | some (i,_)=>fL es[i]? fun e=>gF (Bb e.1 k) (AL es i (k,v) fun es=>y7 mem id (.mapb es) K)
     | none=>pY es [(k,v)] fun es=>y7 mem id (.mapb es) K
    | _=>False
   | _=>False)
 | _=>False
theorem nI{P:Program}{mem:aA}{t:TypeId}{m k v:AV}{K:aA->Prop}(h:gN P mem t m k v K):∃m',eU P mem t m k v=some m'/\K m':=by
 unfold gN at h;unfold eU;split at h
 ·rename_i kt et hu;simp only[hu];obtain⟨h1,h⟩:=aQ.1 h;simp only[h1];split at h
  ·split at h
   ·rename_i es hid;simp only[hid];obtain⟨r,h2,h⟩:=aN.1 h;split at h
    ·obtain⟨e,h3,h⟩:=aN.1 h;obtain⟨h4,h⟩:=aQ.1 h;exact⟨_,by simp only[h2,h3,h4],eG.1 (eF.1 h)⟩
    ·exact⟨_,by simp only[h2],eG.1 (cO.1 h)⟩
   ·exact h.elim
  ·exact h.elim
 ·exact h.elim
end Go.Ax
