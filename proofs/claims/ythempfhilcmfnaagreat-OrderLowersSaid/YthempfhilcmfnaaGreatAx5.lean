/- A part of the proof. -/
import Derived.Test.YthempfhilcmfnaaGreatAx4
set_option linter.unusedVariables false
set_option linter.unusedSimpArgs false
namespace Go.Ax
open Go
def MB(b:Bool)(p q:Prop):Prop:=
 match b with
 | true=>p
 | false=>q
def oH(b:Bool)(p:Prop):Prop:=
 match b with
 | true=>p
 | false=>False
def opt{α:Type}(o:Option α)(K:α->Prop):Prop:=
 match o with
 | some a=>K a
 | none=>False
theorem aO{b:Bool}{p q:Prop}(h1:b=true->p)(h2:b=false->q):MB b p q:=by
 cases b
 ·exact h2 rfl
 ·exact h1 rfl
theorem bZ{b:Bool}{p:Prop}:oH b p↔b=true/\p:=by cases b<;>simp[oH]
theorem aK{b:Bool}{p:Prop}(h:b=true)(hp:p):oH b p:=bZ.2 ⟨h,hp⟩
theorem cD{α:Type}{o:Option α}{K:α->Prop}:opt o K↔∃a,o=some a/\K a:=by cases o<;>simp[opt]
theorem aC{α:Type}{o:Option α}{K:α->Prop}{a:α}(h:o=some a)(hk:K a):opt o K:=cD.2 ⟨a,h,hk⟩
def nQ(n:Nat)(K:Nat->Prop):Prop:=
 match n with
 | 0=>K 0
 | Nat.succ m=>K (Nat.succ m)
theorem dV{n:Nat}{K:Nat->Prop}:nQ n K↔K n:=by cases n<;>rfl
def On(n:Int)(K:Int->Prop):Prop:=
 match n with
 | .ofNat m=>nQ m fun m=>K (.ofNat m)
 | .negSucc m=>nQ m fun m=>K (.negSucc m)
theorem J3{n:Int}{K:Int->Prop}:On n K↔K n:=by cases n<;>simp[On,dV]
def xG(cl:Bool)(n:Nat)(K:Nat->Prop):Prop:=
 match cl with
 | true=>nQ n K
 | false=>K n
theorem g8{cl:Bool}{n:Nat}{K:Nat->Prop}:xG cl n K↔K n:=by cases cl<;>simp[xG,dV]
def qS(cl:Bool)(k:IntKind)(n:Int)(K:AV->Prop):Prop:=
 match cl with
 | true=>On n fun n=>K (.int k n)
 | false=>K (.int k n)
theorem mQ{cl:Bool}{k:IntKind}{n:Int}{K:AV->Prop}:qS cl k n K↔K (.int k n):=by cases cl<;>simp[qS,J3]
def lK(cl:Bool)(b:Bool)(K:AV->Prop):Prop:=
 match cl with
 | true=>match b with
  | true=>K (.bool true)
  | false=>K (.bool false)
 | false=>K (.bool b)
theorem l9{cl:Bool}{b:Bool}{K:AV->Prop}:lK cl b K↔K (.bool b):=by cases cl<;>cases b<;>rfl
def x7{α:Type}:List α->(List α->Prop)->Prop
 | [],K=>K []
 | x::r,K=>x7 r fun l=>K (x::l)
theorem lS{α:Type}:∀{l:List α} {K:List α->Prop},x7 l K↔K l
 | [],K=>Iff.rfl
 | x::r,K=>by simp[x7,lS]
def rI{α:Type}(cl:Bool)(l:List α)(K:List α->Prop):Prop:=
 match cl with
 | true=>x7 l K
 | false=>K l
theorem iC{α:Type}{cl:Bool}{l:List α}{K:List α->Prop}:rI cl l K↔K l:=by cases cl<;>simp[rI,lS]
def AQ{α:Type}:List α->List α->(List α->Prop)->Prop
 | [],ys,K=>K ys
 | x::r,ys,K=>AQ r ys fun l=>K (x::l)
theorem gP{α:Type}:∀{xs ys:List α} {K:List α->Prop},AQ xs ys K↔K (xs++ys)
 | [],ys,K=>Iff.rfl
 | x::r,ys,K=>by simp[AQ,gP]
def Ha{α:Type}:List α->Nat->α->(List α->Prop)->Prop
 | [],_,_,K=>K []
 | _::r,0,v,K=>K (v::r)
 | x::r,i+1,v,K=>Ha r i v fun l=>K (x::l)
theorem aB{α:Type}:∀{xs:List α} {i:Nat} {v:α} {K:List α->Prop},Ha xs i v K↔K (xs.set i v)
 | [],_,_,K=>Iff.rfl
 | _::r,0,v,K=>Iff.rfl
 | x::r,i+1,v,K=>by simp[Ha,aB]
def DS{α:Type}:Nat->List α->(List α->Prop)->Prop
 | 0,_,K=>K []
 | _+1,[],_=>False
 | n+1,c::r,K=>DS n r fun l=>K (c::l)
theorem Cg{α:Type}:∀{n:Nat} {l:List α} {K:List α->Prop},DS n l K↔(l.take n).length=n/\K (l.take n)
 | 0,l,K=>by simp[DS]
 | n+1,[],K=>by simp[DS]
 | n+1,c::r,K=>by simp[DS,Cg]
def I7{α:Type}:List (Nat × α)->Nat->α->(List (Nat × α)->Prop)->Prop
 | [],j,v,K=>K [(j,v)]
 | (i,u)::r,j,v,K=>match Nat.beq i j with
  | true=>K ((i,v)::r)
  | false=>I7 r j v fun l=>K ((i,u)::l)
theorem kT{α:Type}:∀{l:List (Nat × α)} {j:Nat} {v:α} {K:List (Nat × α)->Prop},I7 l j v K↔K (up l j v)
 | [],j,v,K=>Iff.rfl
 | (i,u)::r,j,v,K=>by
  simp only[I7,up];cases Nat.beq i j
  ·exact kT
  ·exact Iff.rfl
def Dq:Nat->aS->(aS->Prop)->Prop
 | _,[],K=>K []
 | id,(k,u)::r,K=>match Nat.beq k id with
  | true=>K r
  | false=>Dq id r fun l=>K ((k,u)::l)
theorem uF:∀{id:Nat} {m:aS} {K:aS->Prop},Dq id m K↔K (drop id m)
 | _,[],K=>Iff.rfl
 | id,(k,u)::r,K=>by
  simp only[Dq,drop];cases Nat.beq k id
  ·exact uF
  ·exact Iff.rfl
def lM(Γ:List (Nat × AV))(sl:List (Nat × AV))(x:Operand)(K:AV->Prop):Prop:=
 match x with
 | .tmp t=>opt (lk sl t) K
 | .const (.string s)=>x7 s.data.toList fun l=>K (.str l)
 | .const v=>opt (wR v) K
 | .global g=>opt (lk Γ g) fun v=>K (.ip v)
 | .func f=>K (.fn (.func f) [] [])
theorem cE{Γ:List (Nat × AV)}{s:St}{x:Operand}{K:AV->Prop}(h:lM Γ s.sl x K):∃v,ev Γ s x=some v/\K v:=by
 unfold lM at h;split at h
 ·exact cD.1 h
 ·exact⟨_,rfl,lS.1 h⟩
 ·exact cD.1 h
 ·obtain⟨v,h1,h2⟩:=cD.1 h;exact⟨_,by simp[ev,h1],h2⟩
 ·exact⟨_,rfl,h⟩
def GI(Γ:List (Nat × AV))(sl:List (Nat × AV)):List Operand->(List AV->Prop)->Prop
 | [],K=>K []
 | x::r,K=>lM Γ sl x fun a=>GI Γ sl r fun l=>K (a::l)
theorem oB{Γ:List (Nat × AV)}{s:St}:∀{xs:List Operand} {K:List AV->Prop},GI Γ s.sl xs K->∃l,Bp Γ s xs=some l/\K l
 | [],K,h=>⟨[],rfl,h⟩
 | x::r,K,h=>by
  obtain⟨a,h1,h2⟩:=cE h;obtain⟨l,h3,h4⟩:=oB h2;exact⟨a::l,by simp[Bp,h1,h3],h4⟩
def xX(Γ:List (Nat × AV))(sl:List (Nat × AV)):List (Nat × Operand)->(List (Nat × AV)->Prop)->Prop
 | [],K=>K []
 | (i,x)::r,K=>lM Γ sl x fun a=>xX Γ sl r fun l=>K ((i,a)::l)
theorem sA{Γ:List (Nat × AV)}{s:St}:∀{xs:List (Nat × Operand)} {K:List (Nat × AV)->Prop},xX Γ s.sl xs K->∃l,iG Γ s xs=some l/\K l
 | [],K,h=>⟨[],rfl,h⟩
 | (i,x)::r,K,h=>by
  obtain⟨a,h1,h2⟩:=cE h;obtain⟨l,h3,h4⟩:=sA h2;exact⟨(i,a)::l,by simp[iG,h1,h3],h4⟩
def EF(Γ:List (Nat × AV))(sl:List (Nat × AV))(x:Option Operand)(K:Option AV->Prop):Prop:=
 match x with
 | none=>K none
 | some x=>lM Γ sl x fun a=>K (some a)
theorem yS{Γ:List (Nat × AV)}{s:St}{x:Option Operand}{K:Option AV->Prop}(h:EF Γ s.sl x K):∃l,uP Γ s x=some l/\K l:=by
 cases x with
 | none=>exact⟨none,rfl,h⟩
 | some x=>
  obtain⟨a,h1,h2⟩:=cE h;exact⟨some a,by simp[uP,h1],h2⟩
def Bx(sh:Option Nat)(cs:List AV)(j:Nat)(K:AV->Prop):Prop:=
 match sh with
 | none=>opt cs[j]? fun c=>opt (one c) K
 | some n=>DS n (cs.drop j) fun l=>K (.agg l)
theorem k7{sh:Option Nat}{cs:List AV}{j:Nat}{K:AV->Prop}(h:Bx sh cs j K):∃v,sub sh cs j=some v/\K v:=by
 unfold Bx at h;split at h
 ·obtain⟨c,h1,h2⟩:=cD.1 h;obtain⟨v,h3,h4⟩:=cD.1 h2;exact⟨v,by simp[sub,h1,h3],h4⟩
 ·obtain⟨h1,h2⟩:=Cg.1 h;refine⟨_, ?_,h2⟩;simp only[sub];rw[h1];simp
def Hr(P:Program)(mem:aS)(t:TypeId)(p:AV)(K:AV->Prop):Prop:=
 match p with
 | .ip u=>match Cc P t with
  | some sh=>Bx sh u.cells 0 K
  | none=>False
 | .ptr id i j=>match lk mem id with
  | some (.row _ sz xs)=>opt xs[i]? fun x=>match Cc P t with
   | some sh=>match P.underlying t with
    | some (.array _ _)=>match sub sh x.cells j with
     | some _=>Bx sh x.cells j K
     | none=>Bx sh (Do xs) (i*sz+j) K
    | _=>Bx sh x.cells j K
   | none=>False
  | _=>False
 | _=>False
theorem Iq{P:Program}{mem:aS}{t:TypeId}{p:AV}{K:AV->Prop}(h:Hr P mem t p K):∃v,BU P mem t p=some v/\K v:=by
 unfold Hr at h;unfold BU;split at h
 ·split at h
  ·rename_i sh hsh;obtain⟨v,h1,h2⟩:=k7 h;exact⟨v,by simp[hsh,h1],h2⟩
  ·exact h.elim
 ·split at h
  ·rename_i hid;obtain⟨x,hx,h⟩:=cD.1 h;split at h
   ·rename_i sh hsh;split at h
    ·rename_i hu;split at h
     ·obtain⟨v,h1,h2⟩:=k7 h;exact⟨v,by simp only[hid,hx,hsh,h1],h2⟩
     ·rename_i hn;obtain⟨v,h1,h2⟩:=k7 h;exact⟨v,by simp only[hid,hx,hsh,hn,hu,h1],h2⟩
    ·obtain⟨v,h1,h2⟩:=k7 h;exact⟨v,by simp only[hid,hx,hsh,h1],h2⟩
   ·exact h.elim
  ·exact h.elim
 ·exact h.elim
def wC(P:Program)(t:TypeId)(f:Nat)(p:AV)(K:AV->Prop):Prop:=
 match P.underlying t with
 | some (.struct fs)=>match fs[f]? with
  | some fd=>match f0 P fd.type with
   | some (_+1)=>match p with
    | .ptr id i j=>nQ (j+fd.offset) fun j=>K (.ptr id i j)
    | .ip u=>match Cc P fd.type with
     | some sh=>Bx sh u.cells fd.offset fun v=>K (.ip v)
     | none=>False
    | _=>False
   | _=>False
  | none=>False
 | _=>False
theorem EH{P:Program}{t:TypeId}{f:Nat}{p:AV}{K:AV->Prop}(h:wC P t f p K):∃v,nO P t f p=some v/\K v:=by
 unfold wC at h;unfold nO;split at h
 ·rename_i fs hu;split at h
  ·rename_i fd hfd;split at h
   ·rename_i n hn;split at h
    ·exact⟨_,by simp[hu,hfd,hn],dV.1 h⟩
    ·split at h
     ·rename_i sh hsh;obtain⟨v,h1,h2⟩:=k7 h;exact⟨_,by simp[hu,hfd,hn,hsh,h1],h2⟩
     ·exact h.elim
    ·exact h.elim
   ·exact h.elim
  ·exact h.elim
 ·exact h.elim
def HI(P:Program)(t:TypeId)(f:Nat)(v:AV)(K:AV->Prop):Prop:=
 match P.underlying t with
 | some (.struct fs)=>match fs[f]? with
  | some fd=>match v with
   | .agg cs=>match Cc P fd.type with
    | some sh=>Bx sh cs fd.offset K
    | none=>False
   | _=>False
  | none=>False
 | _=>False
theorem KF{P:Program}{t:TypeId}{f:Nat}{p:AV}{K:AV->Prop}(h:HI P t f p K):∃v,Bv P t f p=some v/\K v:=by
 unfold HI at h;unfold Bv;split at h
 ·rename_i fs hu;split at h
  ·rename_i fd hfd;split at h
   ·split at h
    ·rename_i sh hsh;obtain⟨v,h1,h2⟩:=k7 h;exact⟨v,by simp[hu,hfd,hsh,h1],h2⟩
    ·exact h.elim
   ·exact h.elim
  ·exact h.elim
 ·exact h.elim
def vD(cl:Bool)(P:Program)(mem:aS)(t:TypeId)(p ix:AV)(K:AV->Prop):Prop:=
 match ix with
 | .int _ n=>oH (decide (0<=n)) (match P.underlying t with
   | some (.slice e)=>match f0 P e with
    | some sz=>match p with
     | .sl id off len=>match lk mem id with
      | some (.row _ _ xs)=>oH (Nat.blt n.toNat len) (opt xs[off+n.toNat]? fun x=>oH (Nat.beq x.cells.length sz) (xG cl (off+n.toNat) fun m=>K (.ptr id m 0)))
      | _=>False
     | .il sz' xs=>opt xs[n.toNat]? fun x=>oH (Nat.beq sz sz') (K (.ip x))
     | _=>False
    | none=>False
   | some (.array m e)=>match f0 P e,Cc P e with
    | some sz,some sh=>oH (Nat.blt n.toNat m) (match p with
      | .ptr id i j=>match s7 mem id i j sz with
       | true=>xG cl (i+n.toNat) fun m=>K (.ptr id m 0)
       | false=>xG cl (j+n.toNat*sz) fun m=>K (.ptr id i m)
      | .ip u=>Bx sh u.cells (n.toNat*sz) fun v=>K (.ip v)
      | _=>False)
    | _,_=>False
   | _=>False)
 | _=>False
theorem D3{cl:Bool}{P:Program}{mem:aS}{t:TypeId}{p ix:AV}{K:AV->Prop}(h:vD cl P mem t p ix K):∃v,n9 P mem t p ix=some v/\K v:=by
 unfold vD at h;split at h
 ·rename_i kk n;obtain⟨hn,h⟩:=bZ.1 h;unfold n9;simp only[hn];split at h
  ·rename_i e hu;simp only[hu];split at h
   ·rename_i sz hsz;simp only[hsz];split at h
    ·rename_i id off len;split at h
     ·rename_i hid;obtain⟨h1,h⟩:=bZ.1 h;obtain⟨x,hx,h⟩:=cD.1 h;obtain⟨h2,h⟩:=bZ.1 h;exact⟨_,by simp[hid,h1,hx,h2],g8.1 h⟩
     ·exact h.elim
    ·obtain⟨x,hx,h⟩:=cD.1 h;obtain⟨h2,h⟩:=bZ.1 h;exact⟨_,by simp[hx,h2],h⟩
    ·exact h.elim
   ·exact h.elim
  ·rename_i m e hu;simp only[hu];split at h
   ·rename_i sz sh hsz hsh;simp only[hsz,hsh];obtain⟨h1,h⟩:=bZ.1 h;simp only[h1];split at h
    ·split at h
     ·rename_i he;exact⟨_,by simp[he],g8.1 h⟩
     ·rename_i he;exact⟨_,by simp[he],g8.1 h⟩
    ·obtain⟨v,h2,h3⟩:=k7 h;exact⟨_,by simp[h2],h3⟩
    ·exact h.elim
   ·exact h.elim
  ·exact h.elim
 ·exact h.elim
def G6(cl:Bool)(P:Program)(t:TypeId)(v ix:AV)(K:AV->Prop):Prop:=
 match ix with
 | .int _ n=>oH (decide (0<=n)) (match P.underlying t with
   | some .string=>match v with
    | .str s=>opt s[n.toNat]? fun b=>qS cl .u8 (b.toNat:Int) K
    | _=>False
   | some (.array m e)=>match v with
    | .agg cs=>oH (Nat.blt n.toNat m) (match f0 P e,Cc P e with
      | some sz,some sh=>Bx sh cs (n.toNat*sz) K
      | _,_=>False)
    | _=>False
   | _=>False)
 | _=>False
theorem LU{cl:Bool}{P:Program}{t:TypeId}{p ix:AV}{K:AV->Prop}(h:G6 cl P t p ix K):∃v,CI P t p ix=some v/\K v:=by
 unfold G6 at h;split at h
 ·rename_i kk n;obtain⟨hn,h⟩:=bZ.1 h;unfold CI;simp only[hn];split at h
  ·rename_i hu;simp only[hu];split at h
   ·obtain⟨b,hb,h⟩:=cD.1 h;exact⟨_,by simp[hb],mQ.1 h⟩
   ·exact h.elim
  ·rename_i m e hu;simp only[hu];split at h
   ·obtain⟨h1,h⟩:=bZ.1 h;simp only[h1];split at h
    ·rename_i sz sh hsz hsh;obtain⟨v,h2,h3⟩:=k7 h;exact⟨v,by simp[hsz,hsh,h2],h3⟩
    ·exact h.elim
   ·exact h.elim
  ·exact h.elim
 ·exact h.elim
def Hl(cl:Bool)(op:BinOp)(k:IntKind)(x y:Int)(K:AV->Prop):Prop:=
 match op with
 | .add=>qS cl k (k.wrap (x+y)) K
 | .sub=>qS cl k (k.wrap (x-y)) K
 | .mul=>qS cl k (k.wrap (x*y)) K
 | .quo=>oH (!decide (y=0)) (qS cl k (k.wrap (x.tdiv y)) K)
 | .rem=>oH (!decide (y=0)) (qS cl k (x.tmod y) K)
 | .and=>qS cl k (bits .and k x y) K
 | .or=>qS cl k (bits .or k x y) K
 | .xor=>qS cl k (bits .xor k x y) K
 | .andNot=>qS cl k (bits .andNot k x y) K
 | .eql=>lK cl (x == y) K
 | .neq=>lK cl (x != y) K
 | .lss=>lK cl (decide (x<y)) K
 | .leq=>lK cl (decide (x<=y)) K
 | .gtr=>lK cl (decide (x>y)) K
 | .geq=>lK cl (decide (x≥y)) K
 | _=>False
theorem L6{cl:Bool}{op:BinOp}{k:IntKind}{x y:Int}{K:AV->Prop}(h:Hl cl op k x y K):∃v,Bo op k x y=some v/\K v:=by
  cases op<;>simp only[Hl,mQ,l9] at h<;>simp only[Bo]<;>first
    | exact h.elim
    | exact⟨_,rfl,h⟩
    | (obtain⟨h1,h2⟩:=bZ.1 h
       have:decide (y=0)=false:=by simpa using h1
       rw[this];exact⟨_,rfl,h2⟩)
def G1(cl:Bool)(op:BinOp)(x y:List UInt8)(K:AV->Prop):Prop:=
 match op with
 | .add=>oH (Nat.ble (x.length+y.length) 9223372036854775807) (match cl with
   | true=>AQ x y fun l=>K (.str l)
   | false=>K (.str (x++y)))
 | .eql=>lK cl (x == y) K
 | .neq=>lK cl (!(x == y)) K
 | .lss=>lK cl (Op.bytesLess x y) K
 | .leq=>lK cl (Op.bytesLess x y || x == y) K
 | .gtr=>lK cl (!(Op.bytesLess x y || x == y)) K
 | .geq=>lK cl (!(Op.bytesLess x y)) K
 | _=>False
theorem KK{cl:Bool}{op:BinOp}{x y:List UInt8}{K:AV->Prop}(h:G1 cl op x y K):∃v,B9 op x y=some v/\K v:=by
  cases op<;>simp only[G1,l9] at h<;>simp only[B9]<;>first
    | exact h.elim
    | exact⟨_,rfl,h⟩
    | (obtain⟨h1,h2⟩:=bZ.1 h
       have h1':decide ((x.length:Int)+y.length<=9223372036854775807)=true:=by have:=Ry h1;simp;omega
       rw[h1'];refine⟨_,rfl, ?_⟩;cases cl
       · exact h2
       · exact gP.1 h2)
def HM(cl:Bool)(op:BinOp)(k:IntKind)(x y:Int)(K:AV->Prop):Prop:=
 oH (!decide (y<0)) (match op with
  | .shl=>qS cl k (k.wrap (x*2 ^ (min y.toNat k.bits))) K
  | .shr=>qS cl k (x.fdiv (2 ^ (min y.toNat k.bits))) K
  | _=>False)
theorem Es{cl:Bool}{op:BinOp}{k:IntKind}{x y:Int}{K:AV->Prop}(h:HM cl op k x y K):∃v,zC op k x y=some v/\K v:=by
 obtain⟨h1,h2⟩:=bZ.1 h;have h1:decide (y<0)=false:=by simpa using h1
 unfold zC;rw[h1];cases op<;>simp only[mQ] at h2<;>first|exact h2.elim|exact⟨_,rfl,h2⟩
def Oo(cl:Bool)(P:Program)(op:BinOp)(t:TypeId)(xo yo:Operand)(x y:AV)(K:AV->Prop):Prop:=
 match x,y with
 | .int k a,.int k' b=>match op with
  | .shl=>HM cl .shl k a b K
  | .shr=>HM cl .shr k a b K
  | _=>oH (decide (k=k')) (Hl cl op k a b K)
 | .str a,.str b=>G1 cl op a b K
 | .agg a,.agg b=>match P.eqGuardType P.depth t with
  | false=>match op with
   | .eql=>opt (HB P t a b) fun r=>lK cl r K
   | .neq=>opt (HB P t a b) fun r=>lK cl (!r) K
   | _=>False
  | true=>False
 | x,y=>match op with
  | .eql=>opt (LI P (kR xo || kR yo) t x y) fun b=>lK cl b K
  | .neq=>opt (LI P (kR xo || kR yo) t x y) fun b=>lK cl (!b) K
  | _=>False
theorem Og{cl:Bool}{P:Program}{op:BinOp}{t:TypeId}{xo yo:Operand}{x y:AV}{K:AV->Prop}(h:Oo cl P op t xo yo x y K):∃v,LV P op t xo yo x y=some v/\K v:=by
 unfold Oo at h;unfold LV;split at h
 ·split at h
  ·exact Es h
  ·exact Es h
  ·obtain⟨h1,h2⟩:=bZ.1 h;simp only[h1];obtain⟨v,h3,h4⟩:=L6 h2;refine⟨v, ?_,h4⟩;cases op<;>first|exact h3|contradiction
 ·exact KK h
 ·split at h
  ·rename_i hg;simp only[hg];split at h
   ·obtain⟨b,hb,h⟩:=cD.1 h;exact⟨.bool b,by simp only[hb],l9.1 h⟩
   ·obtain⟨b,hb,h⟩:=cD.1 h;exact⟨.bool (!b),by simp only[hb],l9.1 h⟩
   ·exact h.elim
  ·exact h.elim
 ·rename_i h1 h2 h3;split at h
  ·obtain⟨b,hb,h⟩:=cD.1 h;refine⟨.bool b, ?_,l9.1 h⟩;cases x<;>cases y<;>first|(simp only[hb];done)|(exact(h1 _ _ _ _ rfl rfl).elim)|(exact(h2 _ _ rfl rfl).elim)|(exact(h3 _ _ rfl rfl).elim)
  ·obtain⟨b,hb,h⟩:=cD.1 h;refine⟨.bool (!b), ?_,l9.1 h⟩;cases x<;>cases y<;>first|(simp only[hb];done)|(exact(h1 _ _ _ _ rfl rfl).elim)|(exact(h2 _ _ rfl rfl).elim)|(exact(h3 _ _ rfl rfl).elim)
  ·exact h.elim
def RJ(cl:Bool)(op:UnOp)(x:AV)(K:AV->Prop):Prop:=
 match op,x with
 | .neg,.int k n=>qS cl k (k.wrap (0-n)) K
 | .not,.bool b=>lK cl (!b) K
 | _,_=>False
theorem Qk{cl:Bool}{op:UnOp}{x:AV}{K:AV->Prop}(h:RJ cl op x K):∃v,Q9 op x=some v/\K v:=by
 unfold RJ at h;split at h
 ·exact⟨_,rfl,mQ.1 h⟩
 ·exact⟨_,rfl,l9.1 h⟩
 ·exact h.elim
def La(cl:Bool)(P:Program)(mem:aS)(src dst:TypeId)(x:AV)(K:AV->Prop):Prop:=
 match P.underlying src with
 | none=>False
 | some d=>match P.underlying dst with
  | some (.int k)=>match x with
   | .int _ n=>qS cl k (k.wrap n) K
   | _=>False
  | some .string=>match x with
   | .str s=>K (.str s)
   | .nsl=>match d with
    | .slice e=>match P.underlying e with
     | some (.int .u8)=>K (.str [])
     | _=>False
    | _=>False
   | .il sz xs=>match d with
    | .slice e=>match P.underlying e with
     | some (.int .u8)=>oH (Nat.beq sz 1) (opt (iH xs) fun l=>rI cl l fun l=>K (.str l))
     | _=>False
    | _=>False
   | .sl id off len=>match d with
    | .slice e=>match P.underlying e with
     | some (.int .u8)=>match lk mem id with
      | some (.row _ _ xs)=>oH (Nat.ble (off+len) xs.length) (opt (iH ((xs.drop off).take len)) fun l=>rI cl l fun l=>K (.str l))
      | _=>False
     | _=>False
    | _=>False
   | _=>False
  | some .unsafePointer=>opt (Ma P mem d x) K
  | some (.pointer u)=>opt (Eb P mem d u x) K
  | _=>False
theorem Ml{cl:Bool}{P:Program}{mem:aS}{src dst:TypeId}{x:AV}{K:AV->Prop}(h:La cl P mem src dst x K):∃v,BD P mem src dst x=some v/\K v:=by
 unfold La at h;split at h
 ·exact h.elim
 ·rename_i d hd;unfold BD;simp only[hd];split at h
  ·rename_i k hu;simp only[hu];split at h
   ·exact⟨_,rfl,mQ.1 h⟩
   ·exact h.elim
  ·rename_i hu;simp only[hu];split at h
   ·exact⟨_,rfl,h⟩
   ·split at h
    ·split at h
     ·rename_i he;exact⟨_,by simp only[he],h⟩
     ·exact h.elim
    ·exact h.elim
   ·split at h
    ·split at h
     ·rename_i he;obtain⟨h1,h⟩:=bZ.1 h;obtain⟨l,h2,h⟩:=cD.1 h;exact⟨_,by simp only[he,h1,h2],iC.1 h⟩
     ·exact h.elim
    ·exact h.elim
   ·split at h
    ·split at h
     ·rename_i he;split at h
      ·rename_i hid;obtain⟨h1,h⟩:=bZ.1 h;obtain⟨l,h2,h⟩:=cD.1 h;exact⟨_,by simp only[he,hid,h1,h2],iC.1 h⟩
      ·exact h.elim
     ·exact h.elim
    ·exact h.elim
   ·exact h.elim
  ·rename_i hu;simp only[hu];obtain⟨v,h1,h⟩:=cD.1 h;exact⟨v,h1,h⟩
  ·rename_i u hu;simp only[hu];obtain⟨v,h1,h⟩:=cD.1 h;exact⟨v,h1,h⟩
  ·exact h.elim
def Ej:List AV->Nat->List AV->(List AV->Prop)->Prop
 | cells,_,[],K=>K cells
 | cells,off,v::r,K=>Ha cells off v fun c=>Ej c (off+1) r K
theorem BW(off:Nat):∀(vs:List AV) (k:Nat) (cells:List AV) (K:List AV->Prop),Ej cells (off+k) vs K↔K ((vs.zipIdx k).foldl (fun cs p=>cs.set (off+p.2) p.1) cells)
 | [],k,cells,K=>Iff.rfl
 | v::r,k,cells,K=>by
  simp only[Ej,aB,Ue,Sd];have:=BW off r (k+1) (cells.set (off+k) v) K;rw[←S6] at this;exact this
def Ff(place:Nat->Option (Nat × Nat)):List AV->List (Nat × AV)->(List AV->Prop)->Prop
 | cells,[],K=>K cells
 | cells,(i,v)::r,K=>match place i with
  | none=>False
  | some (off,size)=>oH (kL v && (Nat.beq v.cells.length size && Nat.ble (off+v.cells.length) cells.length)) (Ej cells off v.cells fun cs=>Ff place cs r K)
theorem EX{place:Nat->Option (Nat × Nat)}:∀{parts:List (Nat × AV)} {cells:List AV} {K:List AV->Prop},Ff place cells parts K->∃l,w5 place cells parts=some l/\K l
 | [],cells,K,h=>⟨cells,by simp[w5],h⟩
 | (i,v)::r,cells,K,h=>by
  simp only[Ff] at h;simp only[w5];split at h
  ·exact h.elim
  ·rename_i off size hp;obtain⟨h1,h2⟩:=bZ.1 h;have h3:=(BW off v.cells 0 cells _).1 h2;obtain⟨l,h4,h5⟩:=EX h3;exact⟨l,by simp only[hp,h1];exact h4,h5⟩
def HQ(P:Program)(t:TypeId)(parts:List (Nat × AV))(K:AV->Prop):Prop:=
 match P.info? t with
 | some it=>match it.zero with
  | some z=>match wR z with
   | some (.agg zs)=>match P.underlying t with
    | some (.array _ e)=>match f0 P e with
     | some n=>Ff (fun i=>some (i*n,n)) zs parts fun cs=>K (.agg cs)
     | none=>False
    | some (.struct fs)=>match tY P fs.toList with
     | some places=>Ff (fun i=>places[i]?) zs parts fun cs=>K (.agg cs)
     | none=>False
    | _=>False
   | _=>False
  | none=>False
 | none=>False
theorem K9{P:Program}{t:TypeId}{parts:List (Nat × AV)}{K:AV->Prop}(h:HQ P t parts K):∃v,BN P t parts=some v/\K v:=by
 unfold HQ at h;unfold BN;split at h
 ·rename_i it h1;simp only[h1];split at h
  ·rename_i z h2;simp only[h2];split at h
   ·rename_i zs h3;simp only[h3];split at h
    ·rename_i e h4;simp only[h4];split at h
     ·rename_i n h5;simp only[h5];obtain⟨l,h6,h7⟩:=EX h;exact⟨_,by rw[h6],h7⟩
     ·exact h.elim
    ·rename_i fs h4;simp only[h4];split at h
     ·rename_i n h5;simp only[h5];obtain⟨l,h6,h7⟩:=EX h;exact⟨_,by rw[h6],h7⟩
     ·exact h.elim
    ·exact h.elim
   ·exact h.elim
  ·exact h.elim
 ·exact h.elim
def iF(d:Nat)(x:Option AV)(K:Nat->Prop):Prop:=
 match x with
 | none=>K d
 | some (.int _ n)=>oH (decide (0<=n)) (K n.toNat)
 | some _=>False
theorem f7{d:Nat}{x:Option AV}{K:Nat->Prop}(h:iF d x K):∃n,e7 d x=some n/\K n:=by
 unfold iF at h;split at h
 ·exact⟨_,rfl,h⟩
 ·obtain⟨h1,h2⟩:=bZ.1 h;exact⟨_,by simp only[e7,h1],h2⟩
 ·exact h.elim
def Hn(cl:Bool)(P:Program)(mem:aS)(t:TypeId)(x:AV)(lo hi mx:Option AV)(K:AV->Prop):Prop:=
 match P.underlying t with
 | some .string=>match x,mx with
  | .str s,none=>iF 0 lo fun l=>iF s.length hi fun h=>oH (Nat.ble l h && Nat.ble h s.length) (rI cl ((s.drop l).take (h-l)) fun s=>K (.str s))
  | _,_=>False
 | some (.slice e)=>match f0 P e with
  | none=>False
  | some sz=>match x with
   | .nsl=>iF 0 lo fun l=>iF 0 hi fun h=>iF 0 mx fun m=>oH (Nat.beq l 0 && (Nat.beq h 0 && Nat.beq m 0)) (K .nsl)
   | .il sz' xs=>oH (Nat.beq sz sz') (iF 0 lo fun l=>iF xs.length hi fun h=>iF xs.length mx fun m=>oH (Nat.ble l h && (Nat.ble h m && Nat.ble m xs.length)) (rI cl ((xs.drop l).take (h-l)) fun ys=>K (.il sz' ys)))
   | .sl id off len=>match lk mem id with
    | some (.row _ sz0 _)=>oH (Nat.beq sz0 sz) (iF 0 lo fun l=>iF len hi fun h=>iF len mx fun m=>oH (Nat.ble l h && (Nat.ble h m && Nat.ble m len)) (xG cl (off+l) fun o=>xG cl (h-l) fun n=>K (.sl id o n)))
    | _=>False
   | _=>False
 | some (.array n e)=>match f0 P e with
  | none=>False
  | some sz=>match x with
   | .ptr id i 0=>match lk mem id with
    | some (.row _ _ xs)=>oH (s7 mem id i 0 sz && Nat.ble (i+n) xs.length) (iF 0 lo fun l=>iF n hi fun h=>iF n mx fun m=>oH (Nat.ble l h && (Nat.ble h m && Nat.ble m n)) (xG cl (i+l) fun o=>xG cl (h-l) fun n=>K (.sl id o n)))
    | _=>False
   | _=>False
 | _=>False
theorem Kc{cl:Bool}{P:Program}{mem:aS}{t:TypeId}{x:AV}{lo hi mx:Option AV}{K:AV->Prop}(h:Hn cl P mem t x lo hi mx K):∃v,Bg P mem t x lo hi mx=some v/\K v:=by
 unfold Hn at h;unfold Bg;split at h
 ·rename_i hu;simp only[hu];split at h
  ·rename_i s;obtain⟨l,h1,h⟩:=f7 h;obtain⟨h',h2,h⟩:=f7 h;obtain⟨h3,h⟩:=bZ.1 h;exact⟨_,by simp only[h1,h2,h3],iC.1 h⟩
  ·exact h.elim
 ·rename_i e hu;simp only[hu];split at h
  ·exact h.elim
  ·rename_i sz hsz;simp only[hsz];split at h
   ·obtain⟨l,h1,h⟩:=f7 h;obtain⟨h',h2,h⟩:=f7 h;obtain⟨m,h3,h⟩:=f7 h;obtain⟨h4,h⟩:=bZ.1 h;simp only[Rr] at h4;obtain⟨a1,a2,a3⟩:=h4;rw[Rw a1] at h1;rw[Rw a2] at h2;rw[Rw a3] at h3;exact⟨_,by simp only[h1,h2,h3],h⟩
   ·obtain⟨h0,h⟩:=bZ.1 h;obtain⟨l,h1,h⟩:=f7 h;obtain⟨h',h2,h⟩:=f7 h;obtain⟨m,h3,h⟩:=f7 h;obtain⟨h4,h⟩:=bZ.1 h;exact⟨_,by simp only[h0,h1,h2,h3,h4],iC.1 h⟩
   ·split at h
    ·rename_i hid;obtain⟨h0,h⟩:=bZ.1 h;obtain⟨l,h1,h⟩:=f7 h;obtain⟨h',h2,h⟩:=f7 h;obtain⟨m,h3,h⟩:=f7 h;obtain⟨h4,h⟩:=bZ.1 h;exact⟨_,by simp only[hid,h0,h1,h2,h3,h4],g8.1 (g8.1 h)⟩
    ·exact h.elim
   ·exact h.elim
 ·rename_i n e hu;simp only[hu];split at h
  ·exact h.elim
  ·rename_i sz hsz;simp only[hsz];split at h
   ·split at h
    ·rename_i hid;obtain⟨h0,h⟩:=bZ.1 h;obtain⟨l,h1,h⟩:=f7 h;obtain⟨h',h2,h⟩:=f7 h;obtain⟨m,h3,h⟩:=f7 h;obtain⟨h4,h⟩:=bZ.1 h;exact⟨_,by simp only[hid,h0,h1,h2,h3,h4],g8.1 (g8.1 h)⟩
    ·exact h.elim
   ·exact h.elim
 ·exact h.elim
def Gp(sz:Nat)(sh:Option Nat):Nat->List AV->(List AV->Prop)->Prop
 | 0,_,K=>K []
 | m+1,cs,K=>Bx sh cs 0 fun x=>Gp sz sh m (cs.drop sz) fun l=>K (x::l)
theorem GH{sz:Nat}{sh:Option Nat}:∀{m:Nat} {cs:List AV} {K:List AV->Prop},Gp sz sh m cs K->∃l,BC sz sh m cs=some l/\K l
 | 0,cs,K,h=>⟨[],rfl,h⟩
 | m+1,cs,K,h=>by
  obtain⟨x,h1,h⟩:=k7 h;obtain⟨l,h2,h⟩:=GH h;exact⟨_,by simp only[BC,h1,h2],h⟩
def cnt{α:Type}:List α->Nat->Nat
 | [],n=>n
 | _::r,n=>cnt r (n+1)
theorem LT{α:Type}:∀(l:List α) (n:Nat),cnt l n=l.length+n
 | [],n=>by simp[cnt]
 | _::r,n=>by simp[cnt,LT r];omega
def M2(P:Program)(t:TypeId)(v:AV)(K:Nat->List AV->Prop):Prop:=
 match P.underlying t with
 | some (.array m e)=>match v with
  | .agg cs=>match f0 P e,Cc P e with
   | some sz,some sh=>oH (Nat.beq (sh.getD 1) sz && (Nat.blt 0 sz && Nat.beq cs.length (m*sz))) (Gp sz sh m cs fun xs=>K sz xs)
   | _,_=>False
  | _=>False
 | some _=>oH (kL v) (match v.cells with
  | []=>K 0 []
  | _::_=>nQ (cnt v.cells 0) fun n=>K n [v])
 | none=>False
theorem KG{P:Program}{t:TypeId}{v:AV}{K:Nat->List AV->Prop}(h:M2 P t v K):∃sz xs,BH P t v=some (sz,xs)/\K sz xs:=by
 unfold M2 at h;unfold BH;split at h
 ·rename_i m e hu;simp only[hu];split at h
  ·split at h
   ·rename_i sz sh h1 h2;simp only[h1,h2];obtain⟨h3,h⟩:=bZ.1 h;obtain⟨l,h4,h⟩:=GH h;exact⟨_,_,by simp only[h3,h4],h⟩
   ·exact h.elim
  ·exact h.elim
 ·rename_i d hna hu;simp only[hu];obtain⟨h1,h⟩:=bZ.1 h;split at h
  ·rename_i hc;refine⟨_,_, ?_,h⟩;cases hd:d<;>first|(exact(hna _ _ hd).elim)|simp only[h1,hc]
  ·rename_i c cs hc;have h:=dV.1 h;rw[LT,Ta] at h;refine⟨_,_, ?_,h⟩;cases hd:d<;>first|(exact(hna _ _ hd).elim)|simp only[h1,hc]
 ·exact h.elim
def Gk(P:Program)(mem:aS)(nx:Nat)(t:TypeId)(K:AV->aS->Nat->Prop):Prop:=
 match P.info? t with
 | some i=>match i.zero with
  | some z=>match wR z with
   | some v=>M2 P t v fun sz xs=>nQ (nx+1) fun n=>K (.ptr nx 0 0) ((nx,.row t sz xs)::mem) n
   | none=>False
  | none=>False
 | none=>False
theorem Lj{P:Program}{mem:aS}{nx:Nat}{t:TypeId}{K:AV->aS->Nat->Prop}(h:Gk P mem nx t K):∃v m n,rV P mem nx t=some (v,m,n)/\K v m n:=by
 unfold Gk at h;unfold rV;split at h
 ·rename_i i h1;simp only[h1];split at h
  ·rename_i z h2;simp only[h2];split at h
   ·rename_i v h3;simp only[h3];obtain⟨sz,xs,h4,h⟩:=KG h;exact⟨_,_,_,by simp only[h4],dV.1 h⟩
   ·exact h.elim
  ·exact h.elim
 ·exact h.elim
def Q8(P:Program)(mem:aS)(nx:Nat)(t:TypeId)(v:AV)(K:AV->aS->Nat->Prop):Prop:=
 M2 P t v fun sz xs=>nQ (nx+1) fun n=>K (.ptr nx 0 0) ((nx,.row t sz xs)::mem) n
theorem O4{P:Program}{mem:aS}{nx:Nat}{t:TypeId}{v:AV}{K:AV->aS->Nat->Prop}(h:Q8 P mem nx t v K):∃r m n,GP P mem nx t v=some (r,m,n)/\K r m n:=by
 obtain⟨sz,xs,h4,h⟩:=KG h;exact⟨_,_,_,by simp only[GP,h4],dV.1 h⟩
def Hh(sz:Nat):List AV->List (Nat × AV)->(List AV->Prop)->Prop
 | xs,[],K=>K xs
 | xs,(i,v)::r,K=>oH (kL v && (Nat.beq v.cells.length sz && Nat.blt i xs.length)) (Ha xs i v fun xs=>Hh sz xs r K)
theorem F4{sz:Nat}:∀{parts:List (Nat × AV)} {xs:List AV} {K:List AV->Prop},Hh sz xs parts K->∃l,rU sz xs parts=some l/\K l
 | [],xs,K,h=>⟨xs,by simp[rU],h⟩
 | (i,v)::r,xs,K,h=>by
  obtain⟨h1,h⟩:=bZ.1 h;obtain⟨l,h2,h⟩:=F4 (aB.1 h);exact⟨l,by simp only[rU,h1];exact h2,h⟩
def sB(P:Program)(mem:aS)(nx:Nat)(t:TypeId)(len:Nat)(parts:List (Nat × AV))(K:AV->aS->Nat->Prop):Prop:=
 match P.underlying t with
 | some (.slice e)=>match f0 P e,mU P e with
  | some sz,some z=>oH (kL z && (Nat.beq z.cells.length sz && (Nat.blt 0 sz && Nat.ble (len*sz) 16777216))) (x7 (List.replicate len z) fun zs=>Hh sz zs parts fun xs=>nQ (nx+1) fun n=>K (.sl nx 0 len) ((nx,.row e sz xs)::mem) n)
  | _,_=>False
 | _=>False
theorem CO{P:Program}{mem:aS}{nx:Nat}{t:TypeId}{len:Nat}{parts:List (Nat × AV)}{K:AV->aS->Nat->Prop}(h:sB P mem nx t len parts K):∃v m n,gT P mem nx t len parts=some (v,m,n)/\K v m n:=by
 unfold sB at h;unfold gT;split at h
 ·rename_i e hu;simp only[hu];split at h
  ·rename_i sz z h1 h2;simp only[h1,h2];obtain⟨h3,h⟩:=bZ.1 h;obtain⟨l,h4,h⟩:=F4 (lS.1 h);exact⟨_,_,_,by simp only[h3,h4],dV.1 h⟩
  ·exact h.elim
 ·exact h.elim
def oV:List AV->Nat->List AV->(List AV->Prop)->Prop
 | [],_,cs,K=>K cs
 | x::r,0,[],K=>K (x::r)
 | _::r,0,c::cs,K=>oV r 0 cs fun l=>K (c::l)
 | x::r,j+1,cs,K=>oV r j cs fun l=>K (x::l)
theorem r9:∀{xs:List AV} {j:Nat} {cs:List AV} {K:List AV->Prop},oV xs j cs K↔K (xs.take j++cs++xs.drop (j+cs.length))
 | [],j,cs,K=>by simp[oV]
 | x::r,0,[],K=>by simp[oV]
 | x::r,0,c::cs,K=>by simp[oV,r9]
 | x::r,j+1,cs,K=>by simp[oV,r9,Nat.add_right_comm]
def yQ(x:AV)(j:Nat)(cs:List AV)(K:AV->Prop):Prop:=
 match x with
 | .agg xs=>oV xs j cs fun l=>K (.agg l)
 | _=>match cs with
  | [c]=>opt (one c) K
  | _=>False
theorem GF{x:AV}{j:Nat}{cs:List AV}{K:AV->Prop}(h:yQ x j cs K):∃v,sW x j cs=some v/\K v:=by
 unfold yQ at h;unfold sW;split at h
 ·exact⟨_,rfl,r9.1 h⟩
 ·rename_i hx;split at h
  ·obtain⟨v,h1,h2⟩:=cD.1 h;refine⟨v, ?_,h2⟩;cases x<;>first|exact h1|exact(hx _ rfl).elim
  ·exact h.elim
def A2:aS->(aS->Prop)->Prop
 | [],K=>K []
 | p::r,K=>A2 r fun r=>K (p::r)
theorem wG:∀{m:aS} {K:aS->Prop},A2 m K↔K m
 | [],K=>Iff.rfl
 | p::r,K=>by simp only[A2];exact wG
def Ef(P:Program)(mem:aS)(t:TypeId)(p v:AV)(K:aS->Prop):Prop:=
 match p with
 | .ptr id i j=>match lk mem id with
  | some (.row t' sz' xs)=>opt xs[i]? fun x=>match f0 P t with
   | some n=>oH (kL v && (Nat.beq v.cells.length n && Nat.ble (j+n) x.cells.length)) (yQ x j v.cells fun x'=>Ha xs i x' fun xs'=>I7 mem id (.row t' sz' xs') K)
   | none=>False
  | _=>False
 | _=>False
theorem Jt{P:Program}{mem:aS}{t:TypeId}{p v:AV}{K:aS->Prop}(h:Ef P mem t p v K):∃m,xT P mem t p v=some m/\K m:=by
 unfold Ef at h;unfold xT;split at h
 ·split at h
  ·rename_i hid;obtain⟨x,hx,h⟩:=cD.1 h;split at h
   ·rename_i n hn;obtain⟨h1,h⟩:=bZ.1 h;obtain⟨x',h2,h⟩:=GF h;exact⟨_,by simp only[hid,hx,hn,h1,h2],kT.1 (aB.1 h)⟩
   ·exact h.elim
  ·exact h.elim
 ·exact h.elim
def Hj(P:Program)(mem:aS)(t:TypeId)(p v:AV)(K:aS->Prop):Prop:=
 match P.underlying t with
 | some (.array _ _)=>opt (wB P mem t p v) fun m=>A2 m K
 | _=>match v.cells with
  | []=>opt (tK P mem t p v) K
  | _::_=>Ef P mem t p v K
theorem K6{P:Program}{mem:aS}{t:TypeId}{p v:AV}{K:aS->Prop}(h:Hj P mem t p v K):∃m,wB P mem t p v=some m/\K m:=by
 unfold Hj at h;split at h
 ·obtain⟨m,h1,h⟩:=cD.1 h;exact⟨m,h1,wG.1 h⟩
 ·split at h
  ·obtain⟨m,h1,h⟩:=cD.1 h;exact⟨m,by simp only[wB,h1],h⟩
  ·rename_i hc;obtain⟨m,h1,h⟩:=Jt h;have hz:tK P mem t p v=none:=by
    unfold tK;split<;>first|rfl|skip
    split<;>first|rfl|skip
    split<;>first|rfl|skip
    rw[hc]
   exact⟨m,by simp only[wB,hz,h1],h⟩
def J7(cl:Bool)(P:Program)(mem:aS)(nx:Nat)(t:TypeId)(l c:AV)(K:AV->aS->Nat->Prop):Prop:=
 match l,c with
 | .int _ l,.int _ c=>match P.underlying t with
  | some (.slice e)=>match P.info? e with
   | some i=>match mU P e with
    | some z=>oH (kL z && (Nat.beq z.cells.length i.size && (Nat.blt 0 i.size && (decide (0<=l) && (decide (l<=c) && (decide ((i.bytes:Int)*c<=281474976710656) && decide (c<=9223372036854775807)))))))
      (nQ (nx+1) fun n=>rI cl (List.replicate l.toNat z) fun zs=>xG cl l.toNat fun m=>K (.sl nx 0 m) ((nx,.row e i.size zs)::mem) n)
    | none=>False
   | none=>False
  | _=>False
 | _,_=>False
theorem NC{cl:Bool}{P:Program}{mem:aS}{nx:Nat}{t:TypeId}{l c:AV}{K:AV->aS->Nat->Prop}(h:J7 cl P mem nx t l c K):∃v m n,AC P mem nx t l c=some (v,m,n)/\K v m n:=by
 unfold J7 at h;split at h
 ·unfold AC;split at h
  ·rename_i e hu;simp only[hu];split at h
   ·rename_i i h1;simp only[h1];split at h
    ·rename_i z h2;simp only[h2];obtain⟨h3,h⟩:=bZ.1 h;have h4:=g8.1 (iC.1 (dV.1 h));exact⟨_,_,_,by simp only[h3],h4⟩
    ·exact h.elim
   ·exact h.elim
  ·exact h.elim
 ·exact h.elim
def Md(cl:Bool)(mem:aS)(sz:Nat)(x:AV)(K:List AV->Prop):Prop:=
 match x with
 | .nsl=>K []
 | .il sz' ys=>oH (Nat.beq sz' sz) (K ys)
 | .sl id off len=>match lk mem id with
  | some (.row _ sz' xs)=>oH (Nat.beq sz' sz && Nat.ble (off+len) xs.length) (rI cl ((xs.drop off).take len) K)
  | _=>False
 | .str s=>oH (Nat.beq sz 1) (rI cl (s.map fun b=>.int .u8 (b.toNat:Int)) K)
 | _=>False
theorem Ko{cl:Bool}{mem:aS}{sz:Nat}{x:AV}{K:List AV->Prop}(h:Md cl mem sz x K):∃l,JE mem sz x=some l/\K l:=by
 unfold Md at h;unfold JE;split at h
 ·exact⟨_,rfl,h⟩
 ·obtain⟨h1,h⟩:=bZ.1 h;exact⟨_,by simp only[h1],h⟩
 ·split at h
  ·rename_i hid;obtain⟨h1,h⟩:=bZ.1 h;exact⟨_,by simp only[hid,h1],iC.1 h⟩
  ·exact h.elim
 ·obtain⟨h1,h⟩:=bZ.1 h;exact⟨_,by simp only[h1],iC.1 h⟩
 ·exact h.elim
def Nb(cl:Bool)(xs ys:List AV)(K:List AV->Prop):Prop:=
 match cl with
 | true=>AQ xs ys K
 | false=>K (xs++ys)
theorem GJ{cl:Bool}{xs ys:List AV}{K:List AV->Prop}:Nb cl xs ys K↔K (xs++ys):=by cases cl<;>simp[Nb,gP]
def EM(cl:Bool)(P:Program)(mem:aS)(nx:Nat)(t u:TypeId)(s x:AV)(K:AV->aS->Nat->Prop):Prop:=
 match P.underlying t with
 | some (.slice e)=>match P.info? e with
  | some i=>match i.zero with
   | some z=>oH (vG (P.underlying u) && (Nat.blt 0 i.size && Nat.beq z.cells.size i.size)) (Md cl mem i.size x fun ys=>match s with
     | .nsl=>oH (Nat.ble (ys.length*i.bytes) 140737488355328 && Nat.ble ys.length 9223372036854775807) (xG cl ys.length fun l=>nQ (nx+1) fun n=>K (.sl nx 0 l) ((nx,.row e i.size ys)::mem) n)
     | .sl id 0 len=>match lk mem id with
      | some (.row t' sz' xs)=>oH (Nat.beq t' e && (Nat.beq sz' i.size && (Nat.beq len xs.length && (Nat.ble ((len+ys.length)*i.bytes) 140737488355328 && Nat.ble (len+ys.length) 9223372036854775807))))
        (Nb cl xs ys fun zs=>xG cl (len+ys.length) fun l=>nQ (nx+1) fun n=>Dq id mem fun m=>K (.sl nx 0 l) ((nx,.row e i.size zs)::m) n)
      | _=>False
     | _=>False)
   | none=>False
  | none=>False
 | _=>False
theorem Iu{cl:Bool}{P:Program}{mem:aS}{nx:Nat}{t u:TypeId}{s x:AV}{K:AV->aS->Nat->Prop}(h:EM cl P mem nx t u s x K):∃v m n,qQ P mem nx t u s x=some (v,m,n)/\K v m n:=by
 unfold EM at h;unfold qQ;split at h
 ·rename_i e hu;simp only[hu];split at h
  ·rename_i i h1;simp only[h1];split at h
   ·rename_i z h2;simp only[h2];obtain⟨h3,h⟩:=bZ.1 h;simp only[h3];obtain⟨ys,h4,h⟩:=Ko h;simp only[h4];split at h
    ·obtain⟨h5,h⟩:=bZ.1 h;exact⟨_,_,_,by simp only[h5],dV.1 (g8.1 h)⟩
    ·split at h
     ·rename_i hid;obtain⟨h5,h⟩:=bZ.1 h;exact⟨_,_,_,by simp only[hid,h5],uF.1 (dV.1 (g8.1 (GJ.1 h)))⟩
     ·exact h.elim
    ·exact h.elim
   ·exact h.elim
  ·exact h.elim
 ·exact h.elim
def zA(cl:Bool)(P:Program)(mem:aS)(nx:Nat)(src dst:TypeId)(x:AV)(K:AV->aS->Nat->Prop):Prop:=
 match P.underlying src with
 | none=>False
 | some _=>match P.underlying dst with
  | some (.slice e)=>match P.underlying e with
   | some (.int .u8)=>match x with
    | .str s=>nQ (nx+1) fun n=>xG cl s.length fun l=>rI cl (s.map fun b=>.int .u8 (b.toNat:Int)) fun xs=>K (.sl nx 0 l) ((nx,.row e 1 xs)::mem) n
    | _=>False
   | _=>False
  | _=>False
theorem Gb{cl:Bool}{P:Program}{mem:aS}{nx:Nat}{src dst:TypeId}{x:AV}{K:AV->aS->Nat->Prop}(h:zA cl P mem nx src dst x K):∃v m n,kG P mem nx src dst x=some (v,m,n)/\K v m n:=by
 unfold zA at h;unfold kG;split at h
 ·exact h.elim
 ·rename_i d hd;simp only[hd];split at h
  ·rename_i e hu;simp only[hu];split at h
   ·rename_i he;simp only[he];split at h
    ·exact⟨_,_,_,rfl,iC.1 (g8.1 (dV.1 h))⟩
    ·exact h.elim
   ·exact h.elim
  ·exact h.elim
def qA(P:Program)(mem:aS)(t:TypeId)(m k v:AV)(K:aS->Prop):Prop:=
 match P.underlying t with
 | some (.map kt _)=>oH (Gn P kt k) (match m with
   | .mp id=>match lk mem id with
    | some (.mapb es)=>opt (pZ P kt k es 0) fun r=>match r with
     | some (i,_)=>opt es[i]? fun e=>oH (IE e.1 k) (Ha es i (k,v) fun es=>I7 mem id (.mapb es) K)
     | none=>AQ es [(k,v)] fun es=>I7 mem id (.mapb es) K
    | _=>False
   | _=>False)
 | _=>False
theorem wS{P:Program}{mem:aS}{t:TypeId}{m k v:AV}{K:aS->Prop}(h:qA P mem t m k v K):∃m',lP P mem t m k v=some m'/\K m':=by
 unfold qA at h;unfold lP;split at h
 ·rename_i kt et hu;simp only[hu];obtain⟨h1,h⟩:=bZ.1 h;simp only[h1];split at h
  ·split at h
   ·rename_i es hid;simp only[hid];obtain⟨r,h2,h⟩:=cD.1 h;split at h
    ·obtain⟨e,h3,h⟩:=cD.1 h;obtain⟨h4,h⟩:=bZ.1 h;exact⟨_,by simp only[h2,h3,h4],kT.1 (aB.1 h)⟩
    ·exact⟨_,by simp only[h2],kT.1 (gP.1 h)⟩
   ·exact h.elim
  ·exact h.elim
 ·exact h.elim
end Go.Ax
