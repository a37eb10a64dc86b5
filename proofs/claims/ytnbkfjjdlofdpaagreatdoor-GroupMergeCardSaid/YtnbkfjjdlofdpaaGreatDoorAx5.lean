/- A part of the proof. -/
import Derived.Test.YtnbkfjjdlofdpaaGreatDoorAx4
set_option linter.unusedVariables false
set_option linter.unusedSimpArgs false
set_option linter.unusedSectionVars false
namespace Go.Ax
open Go
def EP(b:Bool)(p q:Prop):Prop:=
 match b with
 | true=>p
 | false=>q
def gO(b:Bool)(p:Prop):Prop:=
 match b with
 | true=>p
 | false=>False
def fR{α:Type}(o:Option α)(K:α->Prop):Prop:=
 match o with
 | some a=>K a
 | none=>False
theorem b7{b:Bool}{p q:Prop}(h1:b=true->p)(h2:b=false->q):EP b p q:=by
 cases b
 ·exact h2 rfl
 ·exact h1 rfl
theorem aY{b:Bool}{p:Prop}:gO b p↔b=true/\p:=by cases b<;>simp[gO]
theorem aS{b:Bool}{p:Prop}(h:b=true)(hp:p):gO b p:=aY.2 ⟨h,hp⟩
theorem aV{α:Type}{o:Option α}{K:α->Prop}:fR o K↔∃a,o=some a/\K a:=by cases o<;>simp[fR]
theorem aI{α:Type}{o:Option α}{K:α->Prop}{a:α}(h:o=some a)(hk:K a):fR o K:=aV.2 ⟨a,h,hk⟩
def g6(n:Nat)(K:Nat->Prop):Prop:=
 match n with
 | 0=>K 0
 | Nat.succ m=>K (Nat.succ m)
theorem bL{n:Nat}{K:Nat->Prop}:g6 n K↔K n:=by cases n<;>rfl
def G0(n:Int)(K:Int->Prop):Prop:=
 match n with
 | .ofNat m=>g6 m fun m=>K (.ofNat m)
 | .negSucc m=>g6 m fun m=>K (.negSucc m)
theorem C7{n:Int}{K:Int->Prop}:G0 n K↔K n:=by cases n<;>simp[G0,bL]
def oE(cl:Bool)(n:Nat)(K:Nat->Prop):Prop:=
 match cl with
 | true=>g6 n K
 | false=>K n
theorem dA{cl:Bool}{n:Nat}{K:Nat->Prop}:oE cl n K↔K n:=by cases cl<;>simp[oE,bL]
def jS(cl:Bool)(k:IntKind)(n:Int)(K:AV->Prop):Prop:=
 match cl with
 | true=>G0 n fun n=>K (.int k n)
 | false=>K (.int k n)
theorem fX{cl:Bool}{k:IntKind}{n:Int}{K:AV->Prop}:jS cl k n K↔K (.int k n):=by cases cl<;>simp[jS,C7]
def eZ(cl:Bool)(b:Bool)(K:AV->Prop):Prop:=
 match cl with
 | true=>match b with
  | true=>K (.bool true)
  | false=>K (.bool false)
 | false=>K (.bool b)
theorem fC{cl:Bool}{b:Bool}{K:AV->Prop}:eZ cl b K↔K (.bool b):=by cases cl<;>cases b<;>rfl
def mH{α:Type}:List α->(List α->Prop)->Prop
 | [],K=>K []
 | x::r,K=>mH r fun l=>K (x::l)
theorem fI{α:Type}:∀{l:List α} {K:List α->Prop},mH l K↔K l
 | [],K=>Iff.rfl
 | x::r,K=>by simp[mH,fI]
def jZ{α:Type}(cl:Bool)(l:List α)(K:List α->Prop):Prop:=
 match cl with
 | true=>mH l K
 | false=>K l
theorem dC{α:Type}{cl:Bool}{l:List α}{K:List α->Prop}:jZ cl l K↔K l:=by cases cl<;>simp[jZ,fI]
def qN{α:Type}:List α->List α->(List α->Prop)->Prop
 | [],ys,K=>K ys
 | x::r,ys,K=>qN r ys fun l=>K (x::l)
theorem cS{α:Type}:∀{xs ys:List α} {K:List α->Prop},qN xs ys K↔K (xs++ys)
 | [],ys,K=>Iff.rfl
 | x::r,ys,K=>by simp[qN,cS]
def Ah{α:Type}:List α->Nat->α->(List α->Prop)->Prop
 | [],_,_,K=>K []
 | _::r,0,v,K=>K (v::r)
 | x::r,i+1,v,K=>Ah r i v fun l=>K (x::l)
theorem dL{α:Type}:∀{xs:List α} {i:Nat} {v:α} {K:List α->Prop},Ah xs i v K↔K (xs.set i v)
 | [],_,_,K=>Iff.rfl
 | _::r,0,v,K=>Iff.rfl
 | x::r,i+1,v,K=>by simp[Ah,dL]
def uP{α:Type}:Nat->List α->(List α->Prop)->Prop
 | 0,_,K=>K []
 | _+1,[],_=>False
 | n+1,c::r,K=>uP n r fun l=>K (c::l)
theorem u4{α:Type}:∀{n:Nat} {l:List α} {K:List α->Prop},uP n l K↔(l.take n).length=n/\K (l.take n)
 | 0,l,K=>by simp[uP]
 | n+1,[],K=>by simp[uP]
 | n+1,c::r,K=>by simp[uP,u4]
def x9{α:Type}:List (Nat × α)->Nat->α->(List (Nat × α)->Prop)->Prop
 | [],j,v,K=>K [(j,v)]
 | (i,u)::r,j,v,K=>match Nat.beq i j with
  | true=>K ((i,v)::r)
  | false=>x9 r j v fun l=>K ((i,u)::l)
theorem eK{α:Type}:∀{l:List (Nat × α)} {j:Nat} {v:α} {K:List (Nat × α)->Prop},x9 l j v K↔K (up l j v)
 | [],j,v,K=>Iff.rfl
 | (i,u)::r,j,v,K=>by
  simp only[x9,up];cases Nat.beq i j
  ·exact eK
  ·exact Iff.rfl
def BU:Nat->aA->(aA->Prop)->Prop
 | _,[],K=>K []
 | id,(k,u)::r,K=>match Nat.beq k id with
  | true=>K r
  | false=>BU id r fun l=>K ((k,u)::l)
theorem u9:∀{id:Nat} {m:aA} {K:aA->Prop},BU id m K↔K (drop id m)
 | _,[],K=>Iff.rfl
 | id,(k,u)::r,K=>by
  simp only[BU,drop];cases Nat.beq k id
  ·exact u9
  ·exact Iff.rfl
def dW(Γ:List (Nat × AV))(sl:List (Nat × AV))(x:Operand)(K:AV->Prop):Prop:=
 match x with
 | .tmp t=>fR (lk sl t) K
 | .const (.string s)=>mH s.data.toList fun l=>K (.str l)
 | .const v=>fR (l5 v) K
 | .global g=>fR (lk Γ g) fun v=>K (.ip v)
 | .func f=>K (.fn (.func f) [] [])
theorem aX{Γ:List (Nat × AV)}{s:St}{x:Operand}{K:AV->Prop}(h:dW Γ s.sl x K):∃v,ev Γ s x=some v/\K v:=by
 unfold dW at h;split at h
 ·exact aV.1 h
 ·exact⟨_,rfl,fI.1 h⟩
 ·exact aV.1 h
 ·obtain⟨v,h1,h2⟩:=aV.1 h;exact⟨_,by simp[ev,h1],h2⟩
 ·exact⟨_,rfl,h⟩
def yF(Γ:List (Nat × AV))(sl:List (Nat × AV)):List Operand->(List AV->Prop)->Prop
 | [],K=>K []
 | x::r,K=>dW Γ sl x fun a=>yF Γ sl r fun l=>K (a::l)
theorem gU{Γ:List (Nat × AV)}{s:St}:∀{xs:List Operand} {K:List AV->Prop},yF Γ s.sl xs K->∃l,r9 Γ s xs=some l/\K l
 | [],K,h=>⟨[],rfl,h⟩
 | x::r,K,h=>by
  obtain⟨a,h1,h2⟩:=aX h;obtain⟨l,h3,h4⟩:=gU h2;exact⟨a::l,by simp[r9,h1,h3],h4⟩
def iZ(Γ:List (Nat × AV))(sl:List (Nat × AV)):List (Nat × Operand)->(List (Nat × AV)->Prop)->Prop
 | [],K=>K []
 | (i,x)::r,K=>dW Γ sl x fun a=>iZ Γ sl r fun l=>K ((i,a)::l)
theorem kP{Γ:List (Nat × AV)}{s:St}:∀{xs:List (Nat × Operand)} {K:List (Nat × AV)->Prop},iZ Γ s.sl xs K->∃l,dG Γ s xs=some l/\K l
 | [],K,h=>⟨[],rfl,h⟩
 | (i,x)::r,K,h=>by
  obtain⟨a,h1,h2⟩:=aX h;obtain⟨l,h3,h4⟩:=kP h2;exact⟨(i,a)::l,by simp[dG,h1,h3],h4⟩
def vS(Γ:List (Nat × AV))(sl:List (Nat × AV))(x:Option Operand)(K:Option AV->Prop):Prop:=
 match x with
 | none=>K none
 | some x=>dW Γ sl x fun a=>K (some a)
theorem pK{Γ:List (Nat × AV)}{s:St}{x:Option Operand}{K:Option AV->Prop}(h:vS Γ s.sl x K):∃l,mE Γ s x=some l/\K l:=by
 cases x with
 | none=>exact⟨none,rfl,h⟩
 | some x=>
  obtain⟨a,h1,h2⟩:=aX h;exact⟨some a,by simp[mE,h1],h2⟩
def s6(sh:Option Nat)(cs:List AV)(j:Nat)(K:AV->Prop):Prop:=
 match sh with
 | none=>fR cs[j]? fun c=>fR (one c) K
 | some n=>uP n (cs.drop j) fun l=>K (.agg l)
theorem eU{sh:Option Nat}{cs:List AV}{j:Nat}{K:AV->Prop}(h:s6 sh cs j K):∃v,sub sh cs j=some v/\K v:=by
 unfold s6 at h;split at h
 ·obtain⟨c,h1,h2⟩:=aV.1 h;obtain⟨v,h3,h4⟩:=aV.1 h2;exact⟨v,by simp[sub,h1,h3],h4⟩
 ·obtain⟨h1,h2⟩:=u4.1 h;refine⟨_, ?_,h2⟩;simp only[sub];rw[h1];simp
def zR(P:Program)(mem:aA)(t:TypeId)(p:AV)(K:AV->Prop):Prop:=
 match p with
 | .ip u=>match t8 P t with
  | some sh=>s6 sh u.cells 0 K
  | none=>False
 | .ptr id i j=>match lk mem id with
  | some (.row _ sz xs)=>fR xs[i]? fun x=>match t8 P t with
   | some sh=>match P.underlying t with
    | some (.array _ _)=>match sub sh x.cells j with
     | some _=>s6 sh x.cells j K
     | none=>s6 sh (vI xs) (i*sz+j) K
    | _=>s6 sh x.cells j K
   | none=>False
  | _=>False
 | _=>False
theorem BX{P:Program}{mem:aA}{t:TypeId}{p:AV}{K:AV->Prop}(h:zR P mem t p K):∃v,s9 P mem t p=some v/\K v:=by
 unfold zR at h;unfold s9;split at h
 ·split at h
  ·rename_i sh hsh;obtain⟨v,h1,h2⟩:=eU h;exact⟨v,by simp[hsh,h1],h2⟩
  ·exact h.elim
 ·split at h
  ·rename_i hid;obtain⟨x,hx,h⟩:=aV.1 h;split at h
   ·rename_i sh hsh;split at h
    ·rename_i hu;split at h
     ·obtain⟨v,h1,h2⟩:=eU h;exact⟨v,by simp only[hid,hx,hsh,h1],h2⟩
     ·rename_i hn;obtain⟨v,h1,h2⟩:=eU h;exact⟨v,by simp only[hid,hx,hsh,hn,hu,h1],h2⟩
    ·obtain⟨v,h1,h2⟩:=eU h;exact⟨v,by simp only[hid,hx,hsh,h1],h2⟩
   ·exact h.elim
  ·exact h.elim
 ·exact h.elim
def jD(P:Program)(t:TypeId)(f:Nat)(p:AV)(K:AV->Prop):Prop:=
 match P.underlying t with
 | some (.struct fs)=>match fs[f]? with
  | some fd=>match cK P fd.type with
   | some (_+1)=>match p with
    | .ptr id i j=>g6 (j+fd.offset) fun j=>K (.ptr id i j)
    | .ip u=>match t8 P fd.type with
     | some sh=>s6 sh u.cells fd.offset fun v=>K (.ip v)
     | none=>False
    | _=>False
   | _=>False
  | none=>False
 | _=>False
theorem xC{P:Program}{t:TypeId}{f:Nat}{p:AV}{K:AV->Prop}(h:jD P t f p K):∃v,gR P t f p=some v/\K v:=by
 unfold jD at h;unfold gR;split at h
 ·rename_i fs hu;split at h
  ·rename_i fd hfd;split at h
   ·rename_i n hn;split at h
    ·exact⟨_,by simp[hu,hfd,hn],bL.1 h⟩
    ·split at h
     ·rename_i sh hsh;obtain⟨v,h1,h2⟩:=eU h;exact⟨_,by simp[hu,hfd,hn,hsh,h1],h2⟩
     ·exact h.elim
    ·exact h.elim
   ·exact h.elim
  ·exact h.elim
 ·exact h.elim
def wW(P:Program)(t:TypeId)(f:Nat)(v:AV)(K:AV->Prop):Prop:=
 match P.underlying t with
 | some (.struct fs)=>match fs[f]? with
  | some fd=>match v with
   | .agg cs=>match t8 P fd.type with
    | some sh=>s6 sh cs fd.offset K
    | none=>False
   | _=>False
  | none=>False
 | _=>False
theorem EM{P:Program}{t:TypeId}{f:Nat}{p:AV}{K:AV->Prop}(h:wW P t f p K):∃v,sJ P t f p=some v/\K v:=by
 unfold wW at h;unfold sJ;split at h
 ·rename_i fs hu;split at h
  ·rename_i fd hfd;split at h
   ·split at h
    ·rename_i sh hsh;obtain⟨v,h1,h2⟩:=eU h;exact⟨v,by simp[hu,hfd,hsh,h1],h2⟩
    ·exact h.elim
   ·exact h.elim
  ·exact h.elim
 ·exact h.elim
def jB(cl:Bool)(P:Program)(mem:aA)(t:TypeId)(p ix:AV)(K:AV->Prop):Prop:=
 match ix with
 | .int _ n=>gO (decide (0<=n)) (match P.underlying t with
   | some (.slice e)=>match cK P e with
    | some sz=>match p with
     | .sl id off len=>match lk mem id with
      | some (.row _ _ xs)=>gO (Nat.blt n.toNat len) (fR xs[off+n.toNat]? fun x=>gO (Nat.beq x.cells.length sz) (oE cl (off+n.toNat) fun m=>K (.ptr id m 0)))
      | _=>False
     | .il sz' xs=>fR xs[n.toNat]? fun x=>gO (Nat.beq sz sz') (K (.ip x))
     | _=>False
    | none=>False
   | some (.array m e)=>match cK P e,t8 P e with
    | some sz,some sh=>gO (Nat.blt n.toNat m) (match p with
      | .ptr id i j=>match s4 mem id i j sz with
       | true=>oE cl (i+n.toNat) fun m=>K (.ptr id m 0)
       | false=>oE cl (j+n.toNat*sz) fun m=>K (.ptr id i m)
      | .ip u=>s6 sh u.cells (n.toNat*sz) fun v=>K (.ip v)
      | _=>False)
    | _,_=>False
   | _=>False)
 | _=>False
theorem wV{cl:Bool}{P:Program}{mem:aA}{t:TypeId}{p ix:AV}{K:AV->Prop}(h:jB cl P mem t p ix K):∃v,gM P mem t p ix=some v/\K v:=by
 unfold jB at h;split at h
 ·rename_i kk n;obtain⟨hn,h⟩:=aY.1 h;unfold gM;simp only[hn];split at h
  ·rename_i e hu;simp only[hu];split at h
   ·rename_i sz hsz;simp only[hsz];split at h
    ·rename_i id off len;split at h
     ·rename_i hid;obtain⟨h1,h⟩:=aY.1 h;obtain⟨x,hx,h⟩:=aV.1 h;obtain⟨h2,h⟩:=aY.1 h;exact⟨_,by simp[hid,h1,hx,h2],dA.1 h⟩
     ·exact h.elim
    ·obtain⟨x,hx,h⟩:=aV.1 h;obtain⟨h2,h⟩:=aY.1 h;exact⟨_,by simp[hx,h2],h⟩
    ·exact h.elim
   ·exact h.elim
  ·rename_i m e hu;simp only[hu];split at h
   ·rename_i sz sh hsz hsh;simp only[hsz,hsh];obtain⟨h1,h⟩:=aY.1 h;simp only[h1];split at h
    ·split at h
     ·rename_i he;exact⟨_,by simp[he],dA.1 h⟩
     ·rename_i he;exact⟨_,by simp[he],dA.1 h⟩
    ·obtain⟨v,h2,h3⟩:=eU h;exact⟨_,by simp[h2],h3⟩
    ·exact h.elim
   ·exact h.elim
  ·exact h.elim
 ·exact h.elim
def xQ(cl:Bool)(P:Program)(t:TypeId)(v ix:AV)(K:AV->Prop):Prop:=
 match ix with
 | .int _ n=>gO (decide (0<=n)) (match P.underlying t with
   | some .string=>match v with
    | .str s=>fR s[n.toNat]? fun b=>jS cl .u8 (b.toNat:Int) K
    | _=>False
   | some (.array m e)=>match v with
    | .agg cs=>gO (Nat.blt n.toNat m) (match cK P e,t8 P e with
      | some sz,some sh=>s6 sh cs (n.toNat*sz) K
      | _,_=>False)
    | _=>False
   | _=>False)
 | _=>False
theorem Cx{cl:Bool}{P:Program}{t:TypeId}{p ix:AV}{K:AV->Prop}(h:xQ cl P t p ix K):∃v,r7 P t p ix=some v/\K v:=by
 unfold xQ at h;split at h
 ·rename_i kk n;obtain⟨hn,h⟩:=aY.1 h;unfold r7;simp only[hn];split at h
  ·rename_i hu;simp only[hu];split at h
   ·obtain⟨b,hb,h⟩:=aV.1 h;exact⟨_,by simp[hb],fX.1 h⟩
   ·exact h.elim
  ·rename_i m e hu;simp only[hu];split at h
   ·obtain⟨h1,h⟩:=aY.1 h;simp only[h1];split at h
    ·rename_i sz sh hsz hsh;obtain⟨v,h2,h3⟩:=eU h;exact⟨v,by simp[hsz,hsh,h2],h3⟩
    ·exact h.elim
   ·exact h.elim
  ·exact h.elim
 ·exact h.elim
def Av(cl:Bool)(op:BinOp)(k:IntKind)(x y:Int)(K:AV->Prop):Prop:=
 match op with
 | .add=>jS cl k (k.wrap (x+y)) K
 | .sub=>jS cl k (k.wrap (x-y)) K
 | .mul=>jS cl k (k.wrap (x*y)) K
 | .quo=>gO (!decide (y=0)) (jS cl k (k.wrap (x.tdiv y)) K)
 | .rem=>gO (!decide (y=0)) (jS cl k (x.tmod y) K)
 | .and=>jS cl k (bits .and k x y) K
 | .or=>jS cl k (bits .or k x y) K
 | .xor=>jS cl k (bits .xor k x y) K
 | .andNot=>jS cl k (bits .andNot k x y) K
 | .eql=>eZ cl (x == y) K
 | .neq=>eZ cl (x != y) K
 | .lss=>eZ cl (decide (x<y)) K
 | .leq=>eZ cl (decide (x<=y)) K
 | .gtr=>eZ cl (decide (x>y)) K
 | .geq=>eZ cl (decide (x≥y)) K
 | _=>False
theorem DQ{cl:Bool}{op:BinOp}{k:IntKind}{x y:Int}{K:AV->Prop}(h:Av cl op k x y K):∃v,rI op k x y=some v/\K v:=by
  cases op<;>simp only[Av,fX,fC] at h<;>simp only[rI]<;>first
    | exact h.elim
    | exact⟨_,rfl,h⟩
    | (obtain⟨h1,h2⟩:=aY.1 h
       have:decide (y=0)=false:=by simpa using h1
       rw[this];exact⟨_,rfl,h2⟩)
def AP(cl:Bool)(op:BinOp)(x y:List UInt8)(K:AV->Prop):Prop:=
 match op with
 | .add=>gO (Nat.ble (x.length+y.length) 9223372036854775807) (match cl with
   | true=>qN x y fun l=>K (.str l)
   | false=>K (.str (x++y)))
 | .eql=>eZ cl (x == y) K
 | .neq=>eZ cl (!(x == y)) K
 | .lss=>eZ cl (Op.bytesLess x y) K
 | .leq=>eZ cl (Op.bytesLess x y || x == y) K
 | .gtr=>eZ cl (!(Op.bytesLess x y || x == y)) K
 | .geq=>eZ cl (!(Op.bytesLess x y)) K
 | _=>False
theorem EN{cl:Bool}{op:BinOp}{x y:List UInt8}{K:AV->Prop}(h:AP cl op x y K):∃v,sK op x y=some v/\K v:=by
  cases op<;>simp only[AP,fC] at h<;>simp only[sK]<;>first
    | exact h.elim
    | exact⟨_,rfl,h⟩
    | (obtain⟨h1,h2⟩:=aY.1 h
       have h1':decide ((x.length:Int)+y.length<=9223372036854775807)=true:=by have:=JR h1;simp;omega
       rw[h1'];refine⟨_,rfl, ?_⟩;cases cl
       · exact h2
       · exact cS.1 h2)
def An(cl:Bool)(op:BinOp)(k:IntKind)(x y:Int)(K:AV->Prop):Prop:=
 gO (!decide (y<0)) (match op with
  | .shl=>jS cl k (k.wrap (x*2 ^ (min y.toNat k.bits))) K
  | .shr=>jS cl k (x.fdiv (2 ^ (min y.toNat k.bits))) K
  | _=>False)
theorem zW{cl:Bool}{op:BinOp}{k:IntKind}{x y:Int}{K:AV->Prop}(h:An cl op k x y K):∃v,pH op k x y=some v/\K v:=by
 obtain⟨h1,h2⟩:=aY.1 h;have h1:decide (y<0)=false:=by simpa using h1
 unfold pH;rw[h1];cases op<;>simp only[fX] at h2<;>first|exact h2.elim|exact⟨_,rfl,h2⟩
def E0(cl:Bool)(P:Program)(op:BinOp)(t:TypeId)(xo yo:Operand)(x y:AV)(K:AV->Prop):Prop:=
 match x,y with
 | .int k a,.int k' b=>match op with
  | .shl=>An cl .shl k a b K
  | .shr=>An cl .shr k a b K
  | _=>gO (decide (k=k')) (Av cl op k a b K)
 | .str a,.str b=>AP cl op a b K
 | .agg a,.agg b=>match P.eqGuardType P.depth t with
  | false=>match op with
   | .eql=>fR (Am P t a b) fun r=>eZ cl r K
   | .neq=>fR (Am P t a b) fun r=>eZ cl (!r) K
   | _=>False
  | true=>False
 | x,y=>match op with
  | .eql=>fR (Dc P (eR xo || eR yo) t x y) fun b=>eZ cl b K
  | .neq=>fR (Dc P (eR xo || eR yo) t x y) fun b=>eZ cl (!b) K
  | _=>False
theorem GJ{cl:Bool}{P:Program}{op:BinOp}{t:TypeId}{xo yo:Operand}{x y:AV}{K:AV->Prop}(h:E0 cl P op t xo yo x y K):∃v,EI P op t xo yo x y=some v/\K v:=by
 unfold E0 at h;unfold EI;split at h
 ·split at h
  ·exact zW h
  ·exact zW h
  ·obtain⟨h1,h2⟩:=aY.1 h;simp only[h1];obtain⟨v,h3,h4⟩:=DQ h2;refine⟨v, ?_,h4⟩;cases op<;>first|exact h3|contradiction
 ·exact EN h
 ·split at h
  ·rename_i hg;simp only[hg];split at h
   ·obtain⟨b,hb,h⟩:=aV.1 h;exact⟨.bool b,by simp only[hb],fC.1 h⟩
   ·obtain⟨b,hb,h⟩:=aV.1 h;exact⟨.bool (!b),by simp only[hb],fC.1 h⟩
   ·exact h.elim
  ·exact h.elim
 ·rename_i h1 h2 h3;split at h
  ·obtain⟨b,hb,h⟩:=aV.1 h;refine⟨.bool b, ?_,fC.1 h⟩;cases x<;>cases y<;>first|(simp only[hb];done)|(exact(h1 _ _ _ _ rfl rfl).elim)|(exact(h2 _ _ rfl rfl).elim)|(exact(h3 _ _ rfl rfl).elim)
  ·obtain⟨b,hb,h⟩:=aV.1 h;refine⟨.bool (!b), ?_,fC.1 h⟩;cases x<;>cases y<;>first|(simp only[hb];done)|(exact(h1 _ _ _ _ rfl rfl).elim)|(exact(h2 _ _ rfl rfl).elim)|(exact(h3 _ _ rfl rfl).elim)
  ·exact h.elim
def IU(cl:Bool)(op:UnOp)(x:AV)(K:AV->Prop):Prop:=
 match op,x with
 | .neg,.int k n=>jS cl k (k.wrap (0-n)) K
 | .not,.bool b=>eZ cl (!b) K
 | _,_=>False
theorem IK{cl:Bool}{op:UnOp}{x:AV}{K:AV->Prop}(h:IU cl op x K):∃v,IQ op x=some v/\K v:=by
 unfold IU at h;split at h
 ·exact⟨_,rfl,fX.1 h⟩
 ·exact⟨_,rfl,fC.1 h⟩
 ·exact h.elim
def Br(cl:Bool)(P:Program)(mem:aA)(src dst:TypeId)(x:AV)(K:AV->Prop):Prop:=
 match P.underlying src with
 | none=>False
 | some d=>match P.underlying dst with
  | some (.int k)=>match x with
   | .int _ n=>jS cl k (k.wrap n) K
   | _=>False
  | some .string=>match x with
   | .str s=>K (.str s)
   | .nsl=>match d with
    | .slice e=>match P.underlying e with
     | some (.int .u8)=>K (.str [])
     | _=>False
    | _=>False
   | .il sz xs=>match d with
    | .slice e=>match P.underlying e with
     | some (.int .u8)=>gO (Nat.beq sz 1) (fR (cH xs) fun l=>jZ cl l fun l=>K (.str l))
     | _=>False
    | _=>False
   | .sl id off len=>match d with
    | .slice e=>match P.underlying e with
     | some (.int .u8)=>match lk mem id with
      | some (.row _ _ xs)=>gO (Nat.ble (off+len) xs.length) (fR (cH ((xs.drop off).take len)) fun l=>jZ cl l fun l=>K (.str l))
      | _=>False
     | _=>False
    | _=>False
   | _=>False
  | some .unsafePointer=>fR (Fd P mem d x) K
  | some (.pointer u)=>fR (w8 P mem d u x) K
  | _=>False
theorem Er{cl:Bool}{P:Program}{mem:aA}{src dst:TypeId}{x:AV}{K:AV->Prop}(h:Br cl P mem src dst x K):∃v,rE P mem src dst x=some v/\K v:=by
 unfold Br at h;split at h
 ·exact h.elim
 ·rename_i d hd;unfold rE;simp only[hd];split at h
  ·rename_i k hu;simp only[hu];split at h
   ·exact⟨_,rfl,fX.1 h⟩
   ·exact h.elim
  ·rename_i hu;simp only[hu];split at h
   ·exact⟨_,rfl,h⟩
   ·split at h
    ·split at h
     ·rename_i he;exact⟨_,by simp only[he],h⟩
     ·exact h.elim
    ·exact h.elim
   ·split at h
    ·split at h
     ·rename_i he;obtain⟨h1,h⟩:=aY.1 h;obtain⟨l,h2,h⟩:=aV.1 h;exact⟨_,by simp only[he,h1,h2],dC.1 h⟩
     ·exact h.elim
    ·exact h.elim
   ·split at h
    ·split at h
     ·rename_i he;split at h
      ·rename_i hid;obtain⟨h1,h⟩:=aY.1 h;obtain⟨l,h2,h⟩:=aV.1 h;exact⟨_,by simp only[he,hid,h1,h2],dC.1 h⟩
      ·exact h.elim
     ·exact h.elim
    ·exact h.elim
   ·exact h.elim
  ·rename_i hu;simp only[hu];obtain⟨v,h1,h⟩:=aV.1 h;exact⟨v,h1,h⟩
  ·rename_i u hu;simp only[hu];obtain⟨v,h1,h⟩:=aV.1 h;exact⟨v,h1,h⟩
  ·exact h.elim
def wX:List AV->Nat->List AV->(List AV->Prop)->Prop
 | cells,_,[],K=>K cells
 | cells,off,v::r,K=>Ah cells off v fun c=>wX c (off+1) r K
theorem rX(off:Nat):∀(vs:List AV) (k:Nat) (cells:List AV) (K:List AV->Prop),wX cells (off+k) vs K↔K ((vs.zipIdx k).foldl (fun cs p=>cs.set (off+p.2) p.1) cells)
 | [],k,cells,K=>Iff.rfl
 | v::r,k,cells,K=>by
  simp only[wX,dL,LV,Ks];have:=rX off r (k+1) (cells.set (off+k) v) K;rw[←Nat.add_assoc] at this;exact this
def yD(place:Nat->Option (Nat × Nat)):List AV->List (Nat × AV)->(List AV->Prop)->Prop
 | cells,[],K=>K cells
 | cells,(i,v)::r,K=>match place i with
  | none=>False
  | some (off,size)=>gO (d6 v && (Nat.beq v.cells.length size && Nat.ble (off+v.cells.length) cells.length)) (wX cells off v.cells fun cs=>yD place cs r K)
theorem xP{place:Nat->Option (Nat × Nat)}:∀{parts:List (Nat × AV)} {cells:List AV} {K:List AV->Prop},yD place cells parts K->∃l,oS place cells parts=some l/\K l
 | [],cells,K,h=>⟨cells,by simp[oS],h⟩
 | (i,v)::r,cells,K,h=>by
  simp only[yD] at h;simp only[oS];split at h
  ·exact h.elim
  ·rename_i off size hp;obtain⟨h1,h2⟩:=aY.1 h;have h3:=(rX off v.cells 0 cells _).1 h2;obtain⟨l,h4,h5⟩:=xP h3;exact⟨l,by simp only[hp,h1];exact h4,h5⟩
def vX(P:Program)(t:TypeId)(parts:List (Nat × AV))(K:AV->Prop):Prop:=
 match P.info? t with
 | some it=>match it.zero with
  | some z=>match l5 z with
   | some (.agg zs)=>match P.underlying t with
    | some (.array _ e)=>match cK P e with
     | some n=>yD (fun i=>some (i*n,n)) zs parts fun cs=>K (.agg cs)
     | none=>False
    | some (.struct fs)=>match lI P fs.toList with
     | some places=>yD (fun i=>places[i]?) zs parts fun cs=>K (.agg cs)
     | none=>False
    | _=>False
   | _=>False
  | none=>False
 | none=>False
theorem D4{P:Program}{t:TypeId}{parts:List (Nat × AV)}{K:AV->Prop}(h:vX P t parts K):∃v,tJ P t parts=some v/\K v:=by
 unfold vX at h;unfold tJ;split at h
 ·rename_i it h1;simp only[h1];split at h
  ·rename_i z h2;simp only[h2];split at h
   ·rename_i zs h3;simp only[h3];split at h
    ·rename_i e h4;simp only[h4];split at h
     ·rename_i n h5;simp only[h5];obtain⟨l,h6,h7⟩:=xP h;exact⟨_,by rw[h6],h7⟩
     ·exact h.elim
    ·rename_i fs h4;simp only[h4];split at h
     ·rename_i n h5;simp only[h5];obtain⟨l,h6,h7⟩:=xP h;exact⟨_,by rw[h6],h7⟩
     ·exact h.elim
    ·exact h.elim
   ·exact h.elim
  ·exact h.elim
 ·exact h.elim
def dR(d:Nat)(x:Option AV)(K:Nat->Prop):Prop:=
 match x with
 | none=>K d
 | some (.int _ n)=>gO (decide (0<=n)) (K n.toNat)
 | some _=>False
theorem cM{d:Nat}{x:Option AV}{K:Nat->Prop}(h:dR d x K):∃n,bX d x=some n/\K n:=by
 unfold dR at h;split at h
 ·exact⟨_,rfl,h⟩
 ·obtain⟨h1,h2⟩:=aY.1 h;exact⟨_,by simp only[bX,h1],h2⟩
 ·exact h.elim
def Aa(cl:Bool)(P:Program)(mem:aA)(t:TypeId)(x:AV)(lo hi mx:Option AV)(K:AV->Prop):Prop:=
 match P.underlying t with
 | some .string=>match x,mx with
  | .str s,none=>dR 0 lo fun l=>dR s.length hi fun h=>gO (Nat.ble l h && Nat.ble h s.length) (jZ cl ((s.drop l).take (h-l)) fun s=>K (.str s))
  | _,_=>False
 | some (.slice e)=>match cK P e with
  | none=>False
  | some sz=>match x with
   | .nsl=>dR 0 lo fun l=>dR 0 hi fun h=>dR 0 mx fun m=>gO (Nat.beq l 0 && (Nat.beq h 0 && Nat.beq m 0)) (K .nsl)
   | .il sz' xs=>gO (Nat.beq sz sz') (dR 0 lo fun l=>dR xs.length hi fun h=>dR xs.length mx fun m=>gO (Nat.ble l h && (Nat.ble h m && Nat.ble m xs.length)) (jZ cl ((xs.drop l).take (h-l)) fun ys=>K (.il sz' ys)))
   | .sl id off len=>match lk mem id with
    | some (.row _ sz0 _)=>gO (Nat.beq sz0 sz) (dR 0 lo fun l=>dR len hi fun h=>dR len mx fun m=>gO (Nat.ble l h && (Nat.ble h m && Nat.ble m len)) (oE cl (off+l) fun o=>oE cl (h-l) fun n=>K (.sl id o n)))
    | _=>False
   | _=>False
 | some (.array n e)=>match cK P e with
  | none=>False
  | some sz=>match x with
   | .ptr id i 0=>match lk mem id with
    | some (.row _ _ xs)=>gO (s4 mem id i 0 sz && Nat.ble (i+n) xs.length) (dR 0 lo fun l=>dR n hi fun h=>dR n mx fun m=>gO (Nat.ble l h && (Nat.ble h m && Nat.ble m n)) (oE cl (i+l) fun o=>oE cl (h-l) fun n=>K (.sl id o n)))
    | _=>False
   | _=>False
 | _=>False
theorem Db{cl:Bool}{P:Program}{mem:aA}{t:TypeId}{x:AV}{lo hi mx:Option AV}{K:AV->Prop}(h:Aa cl P mem t x lo hi mx K):∃v,rT P mem t x lo hi mx=some v/\K v:=by
 unfold Aa at h;unfold rT;split at h
 ·rename_i hu;simp only[hu];split at h
  ·rename_i s;obtain⟨l,h1,h⟩:=cM h;obtain⟨h',h2,h⟩:=cM h;obtain⟨h3,h⟩:=aY.1 h;exact⟨_,by simp only[h1,h2,h3],dC.1 h⟩
  ·exact h.elim
 ·rename_i e hu;simp only[hu];split at h
  ·exact h.elim
  ·rename_i sz hsz;simp only[hsz];split at h
   ·obtain⟨l,h1,h⟩:=cM h;obtain⟨h',h2,h⟩:=cM h;obtain⟨m,h3,h⟩:=cM h;obtain⟨h4,h⟩:=aY.1 h;simp only[JU] at h4;obtain⟨a1,a2,a3⟩:=h4;rw[Nat.eq_of_beq_eq_true a1] at h1;rw[Nat.eq_of_beq_eq_true a2] at h2;rw[Nat.eq_of_beq_eq_true a3] at h3;exact⟨_,by simp only[h1,h2,h3],h⟩
   ·obtain⟨h0,h⟩:=aY.1 h;obtain⟨l,h1,h⟩:=cM h;obtain⟨h',h2,h⟩:=cM h;obtain⟨m,h3,h⟩:=cM h;obtain⟨h4,h⟩:=aY.1 h;exact⟨_,by simp only[h0,h1,h2,h3,h4],dC.1 h⟩
   ·split at h
    ·rename_i hid;obtain⟨h0,h⟩:=aY.1 h;obtain⟨l,h1,h⟩:=cM h;obtain⟨h',h2,h⟩:=cM h;obtain⟨m,h3,h⟩:=cM h;obtain⟨h4,h⟩:=aY.1 h;exact⟨_,by simp only[hid,h0,h1,h2,h3,h4],dA.1 (dA.1 h)⟩
    ·exact h.elim
   ·exact h.elim
 ·rename_i n e hu;simp only[hu];split at h
  ·exact h.elim
  ·rename_i sz hsz;simp only[hsz];split at h
   ·split at h
    ·rename_i hid;obtain⟨h0,h⟩:=aY.1 h;obtain⟨l,h1,h⟩:=cM h;obtain⟨h',h2,h⟩:=cM h;obtain⟨m,h3,h⟩:=cM h;obtain⟨h4,h⟩:=aY.1 h;exact⟨_,by simp only[hid,h0,h1,h2,h3,h4],dA.1 (dA.1 h)⟩
    ·exact h.elim
   ·exact h.elim
 ·exact h.elim
def AF(sz:Nat)(sh:Option Nat):Nat->List AV->(List AV->Prop)->Prop
 | 0,_,K=>K []
 | m+1,cs,K=>s6 sh cs 0 fun x=>AF sz sh m (cs.drop sz) fun l=>K (x::l)
theorem zO{sz:Nat}{sh:Option Nat}:∀{m:Nat} {cs:List AV} {K:List AV->Prop},AF sz sh m cs K->∃l,rV sz sh m cs=some l/\K l
 | 0,cs,K,h=>⟨[],rfl,h⟩
 | m+1,cs,K,h=>by
  obtain⟨x,h1,h⟩:=eU h;obtain⟨l,h2,h⟩:=zO h;exact⟨_,by simp only[rV,h1,h2],h⟩
def H2{α:Type}:List α->Nat->Nat
 | [],n=>n
 | _::r,n=>H2 r (n+1)
theorem DH{α:Type}:∀(l:List α) (n:Nat),H2 l n=l.length+n
 | [],n=>by simp[H2]
 | _::r,n=>by simp[H2,DH r];omega
def eW(P:Program)(t:TypeId)(v:AV)(K:Nat->List AV->Prop):Prop:=
 match P.underlying t with
 | some (.array m e)=>match v with
  | .agg cs=>match cK P e,t8 P e with
   | some sz,some sh=>gO (Nat.beq (sh.getD 1) sz && (Nat.blt 0 sz && Nat.beq cs.length (m*sz))) (AF sz sh m cs fun xs=>K sz xs)
   | _,_=>False
  | _=>False
 | some _=>gO (d6 v) (match v.cells with
  | []=>K 0 []
  | _::_=>g6 (H2 v.cells 0) fun n=>K n [v])
 | none=>False
theorem Dm{P:Program}{t:TypeId}{v:AV}{K:Nat->List AV->Prop}(h:eW P t v K):∃sz xs,rO P t v=some (sz,xs)/\K sz xs:=by
 unfold eW at h;unfold rO;split at h
 ·rename_i m e hu;simp only[hu];split at h
  ·split at h
   ·rename_i sz sh h1 h2;simp only[h1,h2];obtain⟨h3,h⟩:=aY.1 h;obtain⟨l,h4,h⟩:=zO h;exact⟨_,_,by simp only[h3,h4],h⟩
   ·exact h.elim
  ·exact h.elim
 ·rename_i d hna hu;simp only[hu];obtain⟨h1,h⟩:=aY.1 h;split at h
  ·rename_i hc;refine⟨_,_, ?_,h⟩;cases hd:d<;>first|(exact(hna _ _ hd).elim)|simp only[h1,hc]
  ·rename_i c cs hc;have h:=bL.1 h;rw[DH,KX] at h;refine⟨_,_, ?_,h⟩;cases hd:d<;>first|(exact(hna _ _ hd).elim)|simp only[h1,hc]
 ·exact h.elim
def xA(P:Program)(mem:aA)(nx:Nat)(t:TypeId)(K:AV->aA->Nat->Prop):Prop:=
 match P.info? t with
 | some i=>match i.zero with
  | some z=>match l5 z with
   | some v=>eW P t v fun sz xs=>g6 (nx+1) fun n=>K (.ptr nx 0 0) ((nx,.row t sz xs)::mem) n
   | none=>False
  | none=>False
 | none=>False
theorem Dd{P:Program}{mem:aA}{nx:Nat}{t:TypeId}{K:AV->aA->Nat->Prop}(h:xA P mem nx t K):∃v m n,kZ P mem nx t=some (v,m,n)/\K v m n:=by
 unfold xA at h;unfold kZ;split at h
 ·rename_i i h1;simp only[h1];split at h
  ·rename_i z h2;simp only[h2];split at h
   ·rename_i v h3;simp only[h3];obtain⟨sz,xs,h4,h⟩:=Dm h;exact⟨_,_,_,by simp only[h4],bL.1 h⟩
   ·exact h.elim
  ·exact h.elim
 ·exact h.elim
def GW(P:Program)(mem:aA)(nx:Nat)(t:TypeId)(v:AV)(K:AV->aA->Nat->Prop):Prop:=
 eW P t v fun sz xs=>g6 (nx+1) fun n=>K (.ptr nx 0 0) ((nx,.row t sz xs)::mem) n
theorem GF{P:Program}{mem:aA}{nx:Nat}{t:TypeId}{v:AV}{K:AV->aA->Nat->Prop}(h:GW P mem nx t v K):∃r m n,zB P mem nx t v=some (r,m,n)/\K r m n:=by
 obtain⟨sz,xs,h4,h⟩:=Dm h;exact⟨_,_,_,by simp only[zB,h4],bL.1 h⟩
def AQ(sz:Nat):List AV->List (Nat × AV)->(List AV->Prop)->Prop
 | xs,[],K=>K xs
 | xs,(i,v)::r,K=>gO (d6 v && (Nat.beq v.cells.length sz && Nat.blt i xs.length)) (Ah xs i v fun xs=>AQ sz xs r K)
theorem yH{sz:Nat}:∀{parts:List (Nat × AV)} {xs:List AV} {K:List AV->Prop},AQ sz xs parts K->∃l,lB sz xs parts=some l/\K l
 | [],xs,K,h=>⟨xs,by simp[lB],h⟩
 | (i,v)::r,xs,K,h=>by
  obtain⟨h1,h⟩:=aY.1 h;obtain⟨l,h2,h⟩:=yH (dL.1 h);exact⟨l,by simp only[lB,h1];exact h2,h⟩
def iA(P:Program)(mem:aA)(nx:Nat)(t:TypeId)(len:Nat)(parts:List (Nat × AV))(K:AV->aA->Nat->Prop):Prop:=
 match P.underlying t with
 | some (.slice e)=>match cK P e,fE P e with
  | some sz,some z=>gO (d6 z && (Nat.beq z.cells.length sz && (Nat.blt 0 sz && Nat.ble (len*sz) 16777216))) (mH (List.replicate len z) fun zs=>AQ sz zs parts fun xs=>g6 (nx+1) fun n=>K (.sl nx 0 len) ((nx,.row e sz xs)::mem) n)
  | _,_=>False
 | _=>False
theorem uD{P:Program}{mem:aA}{nx:Nat}{t:TypeId}{len:Nat}{parts:List (Nat × AV)}{K:AV->aA->Nat->Prop}(h:iA P mem nx t len parts K):∃v m n,cX P mem nx t len parts=some (v,m,n)/\K v m n:=by
 unfold iA at h;unfold cX;split at h
 ·rename_i e hu;simp only[hu];split at h
  ·rename_i sz z h1 h2;simp only[h1,h2];obtain⟨h3,h⟩:=aY.1 h;obtain⟨l,h4,h⟩:=yH (fI.1 h);exact⟨_,_,_,by simp only[h3,h4],bL.1 h⟩
  ·exact h.elim
 ·exact h.elim
def iF:List AV->Nat->List AV->(List AV->Prop)->Prop
 | [],_,cs,K=>K cs
 | x::r,0,[],K=>K (x::r)
 | _::r,0,c::cs,K=>iF r 0 cs fun l=>K (c::l)
 | x::r,j+1,cs,K=>iF r j cs fun l=>K (x::l)
theorem kG:∀{xs:List AV} {j:Nat} {cs:List AV} {K:List AV->Prop},iF xs j cs K↔K (xs.take j++cs++xs.drop (j+cs.length))
 | [],j,cs,K=>by simp[iF]
 | x::r,0,[],K=>by simp[iF]
 | x::r,0,c::cs,K=>by simp[iF,kG]
 | x::r,j+1,cs,K=>by simp[iF,kG,Nat.add_right_comm]
def pA(x:AV)(j:Nat)(cs:List AV)(K:AV->Prop):Prop:=
 match x with
 | .agg xs=>iF xs j cs fun l=>K (.agg l)
 | _=>match cs with
  | [c]=>fR (one c) K
  | _=>False
theorem zQ{x:AV}{j:Nat}{cs:List AV}{K:AV->Prop}(h:pA x j cs K):∃v,kY x j cs=some v/\K v:=by
 unfold pA at h;unfold kY;split at h
 ·exact⟨_,rfl,kG.1 h⟩
 ·rename_i hx;split at h
  ·obtain⟨v,h1,h2⟩:=aV.1 h;refine⟨v, ?_,h2⟩;cases x<;>first|exact h1|exact(hx _ rfl).elim
  ·exact h.elim
def rS:aA->(aA->Prop)->Prop
 | [],K=>K []
 | p::r,K=>rS r fun r=>K (p::r)
theorem mN:∀{m:aA} {K:aA->Prop},rS m K↔K m
 | [],K=>Iff.rfl
 | p::r,K=>by simp only[rS];exact mN
def wE(P:Program)(mem:aA)(t:TypeId)(p v:AV)(K:aA->Prop):Prop:=
 match p with
 | .ptr id i j=>match lk mem id with
  | some (.row t' sz' xs)=>fR xs[i]? fun x=>match cK P t with
   | some n=>gO (d6 v && (Nat.beq v.cells.length n && Nat.ble (j+n) x.cells.length)) (pA x j v.cells fun x'=>Ah xs i x' fun xs'=>x9 mem id (.row t' sz' xs') K)
   | none=>False
  | _=>False
 | _=>False
theorem CA{P:Program}{mem:aA}{t:TypeId}{p v:AV}{K:aA->Prop}(h:wE P mem t p v K):∃m,nH P mem t p v=some m/\K m:=by
 unfold wE at h;unfold nH;split at h
 ·split at h
  ·rename_i hid;obtain⟨x,hx,h⟩:=aV.1 h;split at h
   ·rename_i n hn;obtain⟨h1,h⟩:=aY.1 h;obtain⟨x',h2,h⟩:=zQ h;exact⟨_,by simp only[hid,hx,hn,h1,h2],eK.1 (dL.1 h)⟩
   ·exact h.elim
  ·exact h.elim
 ·exact h.elim
def wQ(P:Program)(mem:aA)(t:TypeId)(p v:AV)(K:aA->Prop):Prop:=
 match P.underlying t with
 | some (.array _ _)=>fR (m6 P mem t p v) fun m=>rS m K
 | _=>match v.cells with
  | []=>fR (lE P mem t p v) K
  | _::_=>wE P mem t p v K
theorem EE{P:Program}{mem:aA}{t:TypeId}{p v:AV}{K:aA->Prop}(h:wQ P mem t p v K):∃m,m6 P mem t p v=some m/\K m:=by
 unfold wQ at h;split at h
 ·obtain⟨m,h1,h⟩:=aV.1 h;exact⟨m,h1,mN.1 h⟩
 ·split at h
  ·obtain⟨m,h1,h⟩:=aV.1 h;exact⟨m,by simp only[m6,h1],h⟩
  ·rename_i hc;obtain⟨m,h1,h⟩:=CA h;have hz:lE P mem t p v=none:=by
    unfold lE;split<;>first|rfl|skip
    split<;>first|rfl|skip
    split<;>first|rfl|skip
    rw[hc]
   exact⟨m,by simp only[m6,hz,h1],h⟩
def Cu(cl:Bool)(P:Program)(mem:aA)(nx:Nat)(t:TypeId)(l c:AV)(K:AV->aA->Nat->Prop):Prop:=
 match l,c with
 | .int _ l,.int _ c=>match P.underlying t with
  | some (.slice e)=>match P.info? e with
   | some i=>match fE P e with
    | some z=>gO (d6 z && (Nat.beq z.cells.length i.size && (Nat.blt 0 i.size && (decide (0<=l) && (decide (l<=c) && (decide ((i.bytes:Int)*c<=281474976710656) && decide (c<=9223372036854775807)))))))
      (g6 (nx+1) fun n=>jZ cl (List.replicate l.toNat z) fun zs=>oE cl l.toNat fun m=>K (.sl nx 0 m) ((nx,.row e i.size zs)::mem) n)
    | none=>False
   | none=>False
  | _=>False
 | _,_=>False
theorem Eg{cl:Bool}{P:Program}{mem:aA}{nx:Nat}{t:TypeId}{l c:AV}{K:AV->aA->Nat->Prop}(h:Cu cl P mem nx t l c K):∃v m n,qB P mem nx t l c=some (v,m,n)/\K v m n:=by
 unfold Cu at h;split at h
 ·unfold qB;split at h
  ·rename_i e hu;simp only[hu];split at h
   ·rename_i i h1;simp only[h1];split at h
    ·rename_i z h2;simp only[h2];obtain⟨h3,h⟩:=aY.1 h;have h4:=dA.1 (dC.1 (bL.1 h));exact⟨_,_,_,by simp only[h3],h4⟩
    ·exact h.elim
   ·exact h.elim
  ·exact h.elim
 ·exact h.elim
def EU(cl:Bool)(mem:aA)(sz:Nat)(x:AV)(K:List AV->Prop):Prop:=
 match x with
 | .nsl=>K []
 | .il sz' ys=>gO (Nat.beq sz' sz) (K ys)
 | .sl id off len=>match lk mem id with
  | some (.row _ sz' xs)=>gO (Nat.beq sz' sz && Nat.ble (off+len) xs.length) (jZ cl ((xs.drop off).take len) K)
  | _=>False
 | .str s=>gO (Nat.beq sz 1) (jZ cl (s.map fun b=>.int .u8 (b.toNat:Int)) K)
 | _=>False
theorem Cs{cl:Bool}{mem:aA}{sz:Nat}{x:AV}{K:List AV->Prop}(h:EU cl mem sz x K):∃l,CE mem sz x=some l/\K l:=by
 unfold EU at h;unfold CE;split at h
 ·exact⟨_,rfl,h⟩
 ·obtain⟨h1,h⟩:=aY.1 h;exact⟨_,by simp only[h1],h⟩
 ·split at h
  ·rename_i hid;obtain⟨h1,h⟩:=aY.1 h;exact⟨_,by simp only[hid,h1],dC.1 h⟩
  ·exact h.elim
 ·obtain⟨h1,h⟩:=aY.1 h;exact⟨_,by simp only[h1],dC.1 h⟩
 ·exact h.elim
def Ed(cl:Bool)(xs ys:List AV)(K:List AV->Prop):Prop:=
 match cl with
 | true=>qN xs ys K
 | false=>K (xs++ys)
theorem zC{cl:Bool}{xs ys:List AV}{K:List AV->Prop}:Ed cl xs ys K↔K (xs++ys):=by cases cl<;>simp[Ed,cS]
def wR(cl:Bool)(P:Program)(mem:aA)(nx:Nat)(t u:TypeId)(s x:AV)(K:AV->aA->Nat->Prop):Prop:=
 match P.underlying t with
 | some (.slice e)=>match P.info? e with
  | some i=>match i.zero with
   | some z=>gO (mO (P.underlying u) && (Nat.blt 0 i.size && Nat.beq z.cells.size i.size)) (EU cl mem i.size x fun ys=>match s with
     | .nsl=>gO (Nat.ble (ys.length*i.bytes) 140737488355328 && Nat.ble ys.length 9223372036854775807) (oE cl ys.length fun l=>g6 (nx+1) fun n=>K (.sl nx 0 l) ((nx,.row e i.size ys)::mem) n)
     | .sl id 0 len=>match lk mem id with
      | some (.row t' sz' xs)=>gO (Nat.beq t' e && (Nat.beq sz' i.size && (Nat.beq len xs.length && (Nat.ble ((len+ys.length)*i.bytes) 140737488355328 && Nat.ble (len+ys.length) 9223372036854775807))))
        (Ed cl xs ys fun zs=>oE cl (len+ys.length) fun l=>g6 (nx+1) fun n=>BU id mem fun m=>K (.sl nx 0 l) ((nx,.row e i.size zs)::m) n)
      | _=>False
     | _=>False)
   | none=>False
  | none=>False
 | _=>False
theorem CW{cl:Bool}{P:Program}{mem:aA}{nx:Nat}{t u:TypeId}{s x:AV}{K:AV->aA->Nat->Prop}(h:wR cl P mem nx t u s x K):∃v m n,jH P mem nx t u s x=some (v,m,n)/\K v m n:=by
 unfold wR at h;unfold jH;split at h
 ·rename_i e hu;simp only[hu];split at h
  ·rename_i i h1;simp only[h1];split at h
   ·rename_i z h2;simp only[h2];obtain⟨h3,h⟩:=aY.1 h;simp only[h3];obtain⟨ys,h4,h⟩:=Cs h;simp only[h4];split at h
    ·obtain⟨h5,h⟩:=aY.1 h;exact⟨_,_,_,by simp only[h5],bL.1 (dA.1 h)⟩
    ·split at h
     ·rename_i hid;obtain⟨h5,h⟩:=aY.1 h;exact⟨_,_,_,by simp only[hid,h5],u9.1 (bL.1 (dA.1 (zC.1 h)))⟩
     ·exact h.elim
    ·exact h.elim
   ·exact h.elim
  ·exact h.elim
 ·exact h.elim
def lS(cl:Bool)(P:Program)(mem:aA)(nx:Nat)(src dst:TypeId)(x:AV)(K:AV->aA->Nat->Prop):Prop:=
 match P.underlying src with
 | none=>False
 | some _=>match P.underlying dst with
  | some (.slice e)=>match P.underlying e with
   | some (.int .u8)=>match x with
    | .str s=>g6 (nx+1) fun n=>oE cl s.length fun l=>jZ cl (s.map fun b=>.int .u8 (b.toNat:Int)) fun xs=>K (.sl nx 0 l) ((nx,.row e 1 xs)::mem) n
    | _=>False
   | _=>False
  | _=>False
theorem yL{cl:Bool}{P:Program}{mem:aA}{nx:Nat}{src dst:TypeId}{x:AV}{K:AV->aA->Nat->Prop}(h:lS cl P mem nx src dst x K):∃v m n,d9 P mem nx src dst x=some (v,m,n)/\K v m n:=by
 unfold lS at h;unfold d9;split at h
 ·exact h.elim
 ·rename_i d hd;simp only[hd];split at h
  ·rename_i e hu;simp only[hu];split at h
   ·rename_i he;simp only[he];split at h
    ·exact⟨_,_,_,rfl,dC.1 (dA.1 (bL.1 h))⟩
    ·exact h.elim
   ·exact h.elim
  ·exact h.elim
def gP(P:Program)(mem:aA)(t:TypeId)(m k v:AV)(K:aA->Prop):Prop:=
 match P.underlying t with
 | some (.map kt _)=>gO (xK P kt k) (match m with
   | .mp id=>match lk mem id with
    | some (.mapb es)=>fR (eT P kt k es 0) fun r=>match r with
     | some (i,_)=>fR es[i]? fun e=>gO (Be e.1 k) (Ah es i (k,v) fun es=>x9 mem id (.mapb es) K)
     | none=>qN es [(k,v)] fun es=>x9 mem id (.mapb es) K
    | _=>False
   | _=>False)
 | _=>False
theorem oO{P:Program}{mem:aA}{t:TypeId}{m k v:AV}{K:aA->Prop}(h:gP P mem t m k v K):∃m',fD P mem t m k v=some m'/\K m':=by
 unfold gP at h;unfold fD;split at h
 ·rename_i kt et hu;simp only[hu];obtain⟨h1,h⟩:=aY.1 h;simp only[h1];split at h
  ·split at h
   ·rename_i es hid;simp only[hid];obtain⟨r,h2,h⟩:=aV.1 h;split at h
    ·obtain⟨e,h3,h⟩:=aV.1 h;obtain⟨h4,h⟩:=aY.1 h;exact⟨_,by simp only[h2,h3,h4],eK.1 (dL.1 h)⟩
    ·exact⟨_,by simp only[h2],eK.1 (cS.1 h)⟩
   ·exact h.elim
  ·exact h.elim
 ·exact h.elim
end Go.Ax
