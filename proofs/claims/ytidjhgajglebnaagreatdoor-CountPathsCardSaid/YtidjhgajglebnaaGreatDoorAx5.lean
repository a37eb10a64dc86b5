/- A part of the proof. -/
import Derived.Test.YtidjhgajglebnaaGreatDoorAx4
set_option linter.unusedVariables false
set_option linter.unusedSimpArgs false
namespace Go.Ax
open Go
def RR(b:Bool)(p q:Prop):Prop:=
 match b with
 | true=>p
 | false=>q
def qX(b:Bool)(p:Prop):Prop:=
 match b with
 | true=>p
 | false=>False
def opt{α:Type}(o:Option α)(K:α->Prop):Prop:=
 match o with
 | some a=>K a
 | none=>False
theorem aH{b:Bool}{p q:Prop}(h1:b=true->p)(h2:b=false->q):RR b p q:=by
 cases b
 ·exact h2 rfl
 ·exact h1 rfl
theorem cH{b:Bool}{p:Prop}:qX b p↔b=true/\p:=by cases b<;>simp[qX]
theorem aM{b:Bool}{p:Prop}(h:b=true)(hp:p):qX b p:=cH.2 ⟨h,hp⟩
theorem cM{α:Type}{o:Option α}{K:α->Prop}:opt o K↔∃a,o=some a/\K a:=by cases o<;>simp[opt]
theorem aB{α:Type}{o:Option α}{K:α->Prop}{a:α}(h:o=some a)(hk:K a):opt o K:=cM.2 ⟨a,h,hk⟩
def rK(n:Nat)(K:Nat->Prop):Prop:=
 match n with
 | 0=>K 0
 | Nat.succ m=>K (Nat.succ m)
theorem eJ{n:Nat}{K:Nat->Prop}:rK n K↔K n:=by cases n<;>rfl
def U1(n:Int)(K:Int->Prop):Prop:=
 match n with
 | .ofNat m=>rK m fun m=>K (.ofNat m)
 | .negSucc m=>rK m fun m=>K (.negSucc m)
theorem Qf{n:Int}{K:Int->Prop}:U1 n K↔K n:=by cases n<;>simp[U1,eJ]
def Am(cl:Bool)(n:Nat)(K:Nat->Prop):Prop:=
 match cl with
 | true=>rK n K
 | false=>K n
theorem i9{cl:Bool}{n:Nat}{K:Nat->Prop}:Am cl n K↔K n:=by cases cl<;>simp[Am,eJ]
def tW(cl:Bool)(k:IntKind)(n:Int)(K:AV->Prop):Prop:=
 match cl with
 | true=>U1 n fun n=>K (.int k n)
 | false=>K (.int k n)
theorem oU{cl:Bool}{k:IntKind}{n:Int}{K:AV->Prop}:tW cl k n K↔K (.int k n):=by cases cl<;>simp[tW,Qf]
def nQ(cl:Bool)(b:Bool)(K:AV->Prop):Prop:=
 match cl with
 | true=>match b with
  | true=>K (.bool true)
  | false=>K (.bool false)
 | false=>K (.bool b)
theorem n6{cl:Bool}{b:Bool}{K:AV->Prop}:nQ cl b K↔K (.bool b):=by cases cl<;>cases b<;>rfl
def B4{α:Type}:List α->(List α->Prop)->Prop
 | [],K=>K []
 | x::r,K=>B4 r fun l=>K (x::l)
theorem p5{α:Type}:∀{l:List α} {K:List α->Prop},B4 l K↔K l
 | [],K=>Iff.rfl
 | x::r,K=>by simp[B4,p5]
def uR{α:Type}(cl:Bool)(l:List α)(K:List α->Prop):Prop:=
 match cl with
 | true=>B4 l K
 | false=>K l
theorem jC{α:Type}{cl:Bool}{l:List α}{K:List α->Prop}:uR cl l K↔K l:=by cases cl<;>simp[uR,p5]
def Di{α:Type}:List α->List α->(List α->Prop)->Prop
 | [],ys,K=>K ys
 | x::r,ys,K=>Di r ys fun l=>K (x::l)
theorem iN{α:Type}:∀{xs ys:List α} {K:List α->Prop},Di xs ys K↔K (xs++ys)
 | [],ys,K=>Iff.rfl
 | x::r,ys,K=>by simp[Di,iN]
def KF{α:Type}:List α->Nat->α->(List α->Prop)->Prop
 | [],_,_,K=>K []
 | _::r,0,v,K=>K (v::r)
 | x::r,i+1,v,K=>KF r i v fun l=>K (x::l)
theorem b9{α:Type}:∀{xs:List α} {i:Nat} {v:α} {K:List α->Prop},KF xs i v K↔K (xs.set i v)
 | [],_,_,K=>Iff.rfl
 | _::r,0,v,K=>Iff.rfl
 | x::r,i+1,v,K=>by simp[KF,b9]
def GY{α:Type}:Nat->List α->(List α->Prop)->Prop
 | 0,_,K=>K []
 | _+1,[],_=>False
 | n+1,c::r,K=>GY n r fun l=>K (c::l)
theorem Gk{α:Type}:∀{n:Nat} {l:List α} {K:List α->Prop},GY n l K↔(l.take n).length=n/\K (l.take n)
 | 0,l,K=>by simp[GY]
 | n+1,[],K=>by simp[GY]
 | n+1,c::r,K=>by simp[GY,Gk]
def Ob{α:Type}:List (Nat × α)->Nat->α->(List (Nat × α)->Prop)->Prop
 | [],j,v,K=>K [(j,v)]
 | (i,u)::r,j,v,K=>match Nat.beq i j with
  | true=>K ((i,v)::r)
  | false=>Ob r j v fun l=>K ((i,u)::l)
theorem nH{α:Type}:∀{l:List (Nat × α)} {j:Nat} {v:α} {K:List (Nat × α)->Prop},Ob l j v K↔K (up l j v)
 | [],j,v,K=>Iff.rfl
 | (i,u)::r,j,v,K=>by
  simp only[Ob,up];cases Nat.beq i j
  ·exact nH
  ·exact Iff.rfl
def F7:Nat->aQ->(aQ->Prop)->Prop
 | _,[],K=>K []
 | id,(k,u)::r,K=>match Nat.beq k id with
  | true=>K r
  | false=>F7 id r fun l=>K ((k,u)::l)
theorem xX:∀{id:Nat} {m:aQ} {K:aQ->Prop},F7 id m K↔K (drop id m)
 | _,[],K=>Iff.rfl
 | id,(k,u)::r,K=>by
  simp only[F7,drop];cases Nat.beq k id
  ·exact xX
  ·exact Iff.rfl
def nU(Γ:List (Nat × AV))(sl:List (Nat × AV))(x:Operand)(K:AV->Prop):Prop:=
 match x with
 | .tmp t=>opt (lk sl t) K
 | .const (.string s)=>B4 s.data.toList fun l=>K (.str l)
 | .const v=>opt (Ap v) K
 | .global g=>opt (lk Γ g) fun v=>K (.ip v)
 | .func f=>K (.fn (.func f) [] [])
theorem cQ{Γ:List (Nat × AV)}{s:St}{x:Operand}{K:AV->Prop}(h:nU Γ s.sl x K):∃v,ev Γ s x=some v/\K v:=by
 unfold nU at h;split at h
 ·exact cM.1 h
 ·exact⟨_,rfl,p5.1 h⟩
 ·exact cM.1 h
 ·obtain⟨v,h1,h2⟩:=cM.1 h;exact⟨_,by simp[ev,h1],h2⟩
 ·exact⟨_,rfl,h⟩
def If(Γ:List (Nat × AV))(sl:List (Nat × AV)):List Operand->(List AV->Prop)->Prop
 | [],K=>K []
 | x::r,K=>nU Γ sl x fun a=>If Γ sl r fun l=>K (a::l)
theorem qK{Γ:List (Nat × AV)}{s:St}:∀{xs:List Operand} {K:List AV->Prop},If Γ s.sl xs K->∃l,DT Γ s xs=some l/\K l
 | [],K,h=>⟨[],rfl,h⟩
 | x::r,K,h=>by
  obtain⟨a,h1,h2⟩:=cQ h;obtain⟨l,h3,h4⟩:=qK h2;exact⟨a::l,by simp[DT,h1,h3],h4⟩
def AS(Γ:List (Nat × AV))(sl:List (Nat × AV)):List (Nat × Operand)->(List (Nat × AV)->Prop)->Prop
 | [],K=>K []
 | (i,x)::r,K=>nU Γ sl x fun a=>AS Γ sl r fun l=>K ((i,a)::l)
theorem wR{Γ:List (Nat × AV)}{s:St}:∀{xs:List (Nat × Operand)} {K:List (Nat × AV)->Prop},AS Γ s.sl xs K->∃l,jO Γ s xs=some l/\K l
 | [],K,h=>⟨[],rfl,h⟩
 | (i,x)::r,K,h=>by
  obtain⟨a,h1,h2⟩:=cQ h;obtain⟨l,h3,h4⟩:=wR h2;exact⟨(i,a)::l,by simp[jO,h1,h3],h4⟩
def Gp(Γ:List (Nat × AV))(sl:List (Nat × AV))(x:Option Operand)(K:Option AV->Prop):Prop:=
 match x with
 | none=>K none
 | some x=>nU Γ sl x fun a=>K (some a)
theorem BV{Γ:List (Nat × AV)}{s:St}{x:Option Operand}{K:Option AV->Prop}(h:Gp Γ s.sl x K):∃l,yM Γ s x=some l/\K l:=by
 cases x with
 | none=>exact⟨none,rfl,h⟩
 | some x=>
  obtain⟨a,h1,h2⟩:=cQ h;exact⟨some a,by simp[yM,h1],h2⟩
def Ep(sh:Option Nat)(cs:List AV)(j:Nat)(K:AV->Prop):Prop:=
 match sh with
 | none=>opt cs[j]? fun c=>opt (one c) K
 | some n=>GY n (cs.drop j) fun l=>K (.agg l)
theorem m9{sh:Option Nat}{cs:List AV}{j:Nat}{K:AV->Prop}(h:Ep sh cs j K):∃v,sub sh cs j=some v/\K v:=by
 unfold Ep at h;split at h
 ·obtain⟨c,h1,h2⟩:=cM.1 h;obtain⟨v,h3,h4⟩:=cM.1 h2;exact⟨v,by simp[sub,h1,h3],h4⟩
 ·obtain⟨h1,h2⟩:=Gk.1 h;refine⟨_, ?_,h2⟩;simp only[sub];rw[h1];simp
def Mj(P:Program)(mem:aQ)(t:TypeId)(p:AV)(K:AV->Prop):Prop:=
 match p with
 | .ip u=>match FX P t with
  | some sh=>Ep sh u.cells 0 K
  | none=>False
 | .ptr id i j=>match lk mem id with
  | some (.row _ sz xs)=>opt xs[i]? fun x=>match FX P t with
   | some sh=>match P.underlying t with
    | some (.array _ _)=>match sub sh x.cells j with
     | some _=>Ep sh x.cells j K
     | none=>Ep sh (GF xs) (i*sz+j) K
    | _=>Ep sh x.cells j K
   | none=>False
  | _=>False
 | _=>False
theorem MS{P:Program}{mem:aQ}{t:TypeId}{p:AV}{K:AV->Prop}(h:Mj P mem t p K):∃v,Dz P mem t p=some v/\K v:=by
 unfold Mj at h;unfold Dz;split at h
 ·split at h
  ·rename_i sh hsh;obtain⟨v,h1,h2⟩:=m9 h;exact⟨v,by simp[hsh,h1],h2⟩
  ·exact h.elim
 ·split at h
  ·rename_i hid;obtain⟨x,hx,h⟩:=cM.1 h;split at h
   ·rename_i sh hsh;split at h
    ·rename_i hu;split at h
     ·obtain⟨v,h1,h2⟩:=m9 h;exact⟨v,by simp only[hid,hx,hsh,h1],h2⟩
     ·rename_i hn;obtain⟨v,h1,h2⟩:=m9 h;exact⟨v,by simp only[hid,hx,hsh,hn,hu,h1],h2⟩
    ·obtain⟨v,h1,h2⟩:=m9 h;exact⟨v,by simp only[hid,hx,hsh,h1],h2⟩
   ·exact h.elim
  ·exact h.elim
 ·exact h.elim
def zG(P:Program)(t:TypeId)(f:Nat)(p:AV)(K:AV->Prop):Prop:=
 match P.underlying t with
 | some (.struct fs)=>match fs[f]? with
  | some fd=>match gY P fd.type with
   | some (_+1)=>match p with
    | .ptr id i j=>rK (j+fd.offset) fun j=>K (.ptr id i j)
    | .ip u=>match FX P fd.type with
     | some sh=>Ep sh u.cells fd.offset fun v=>K (.ip v)
     | none=>False
    | _=>False
   | _=>False
  | none=>False
 | _=>False
theorem Hx{P:Program}{t:TypeId}{f:Nat}{p:AV}{K:AV->Prop}(h:zG P t f p K):∃v,qR P t f p=some v/\K v:=by
 unfold zG at h;unfold qR;split at h
 ·rename_i fs hu;split at h
  ·rename_i fd hfd;split at h
   ·rename_i n hn;split at h
    ·exact⟨_,by simp[hu,hfd,hn],eJ.1 h⟩
    ·split at h
     ·rename_i sh hsh;obtain⟨v,h1,h2⟩:=m9 h;exact⟨_,by simp[hu,hfd,hn,hsh,h1],h2⟩
     ·exact h.elim
    ·exact h.elim
   ·exact h.elim
  ·exact h.elim
 ·exact h.elim
def LO(P:Program)(t:TypeId)(f:Nat)(v:AV)(K:AV->Prop):Prop:=
 match P.underlying t with
 | some (.struct fs)=>match fs[f]? with
  | some fd=>match v with
   | .agg cs=>match FX P fd.type with
    | some sh=>Ep sh cs fd.offset K
    | none=>False
   | _=>False
  | none=>False
 | _=>False
theorem Q8{P:Program}{t:TypeId}{f:Nat}{p:AV}{K:AV->Prop}(h:LO P t f p K):∃v,EO P t f p=some v/\K v:=by
 unfold LO at h;unfold EO;split at h
 ·rename_i fs hu;split at h
  ·rename_i fd hfd;split at h
   ·split at h
    ·rename_i sh hsh;obtain⟨v,h1,h2⟩:=m9 h;exact⟨v,by simp[hu,hfd,hsh,h1],h2⟩
    ·exact h.elim
   ·exact h.elim
  ·exact h.elim
 ·exact h.elim
def zB(cl:Bool)(P:Program)(mem:aQ)(t:TypeId)(p ix:AV)(K:AV->Prop):Prop:=
 match ix with
 | .int _ n=>qX (decide (0<=n)) (match P.underlying t with
   | some (.slice e)=>match gY P e with
    | some sz=>match p with
     | .sl id off len=>match lk mem id with
      | some (.row _ _ xs)=>qX (Nat.blt n.toNat len) (opt xs[off+n.toNat]? fun x=>qX (Nat.beq x.cells.length sz) (Am cl (off+n.toNat) fun m=>K (.ptr id m 0)))
      | _=>False
     | .il sz' xs=>opt xs[n.toNat]? fun x=>qX (Nat.beq sz sz') (K (.ip x))
     | _=>False
    | none=>False
   | some (.array m e)=>match gY P e,FX P e with
    | some sz,some sh=>qX (Nat.blt n.toNat m) (match p with
      | .ptr id i j=>match DC mem id i j sz with
       | true=>Am cl (i+n.toNat) fun m=>K (.ptr id m 0)
       | false=>Am cl (j+n.toNat*sz) fun m=>K (.ptr id i m)
      | .ip u=>Ep sh u.cells (n.toNat*sz) fun v=>K (.ip v)
      | _=>False)
    | _,_=>False
   | _=>False)
 | _=>False
theorem HY{cl:Bool}{P:Program}{mem:aQ}{t:TypeId}{p ix:AV}{K:AV->Prop}(h:zB cl P mem t p ix K):∃v,qB P mem t p ix=some v/\K v:=by
 unfold zB at h;split at h
 ·rename_i kk n;obtain⟨hn,h⟩:=cH.1 h;unfold qB;simp only[hn];split at h
  ·rename_i e hu;simp only[hu];split at h
   ·rename_i sz hsz;simp only[hsz];split at h
    ·rename_i id off len;split at h
     ·rename_i hid;obtain⟨h1,h⟩:=cH.1 h;obtain⟨x,hx,h⟩:=cM.1 h;obtain⟨h2,h⟩:=cH.1 h;exact⟨_,by simp[hid,h1,hx,h2],i9.1 h⟩
     ·exact h.elim
    ·obtain⟨x,hx,h⟩:=cM.1 h;obtain⟨h2,h⟩:=cH.1 h;exact⟨_,by simp[hx,h2],h⟩
    ·exact h.elim
   ·exact h.elim
  ·rename_i m e hu;simp only[hu];split at h
   ·rename_i sz sh hsz hsh;simp only[hsz,hsh];obtain⟨h1,h⟩:=cH.1 h;simp only[h1];split at h
    ·split at h
     ·rename_i he;exact⟨_,by simp[he],i9.1 h⟩
     ·rename_i he;exact⟨_,by simp[he],i9.1 h⟩
    ·obtain⟨v,h2,h3⟩:=m9 h;exact⟨_,by simp[h2],h3⟩
    ·exact h.elim
   ·exact h.elim
  ·exact h.elim
 ·exact h.elim
def KG(cl:Bool)(P:Program)(t:TypeId)(v ix:AV)(K:AV->Prop):Prop:=
 match ix with
 | .int _ n=>qX (decide (0<=n)) (match P.underlying t with
   | some .string=>match v with
    | .str s=>opt s[n.toNat]? fun b=>tW cl .u8 (b.toNat:Int) K
    | _=>False
   | some (.array m e)=>match v with
    | .agg cs=>qX (Nat.blt n.toNat m) (match gY P e,FX P e with
      | some sz,some sh=>Ep sh cs (n.toNat*sz) K
      | _,_=>False)
    | _=>False
   | _=>False)
 | _=>False
theorem PW{cl:Bool}{P:Program}{t:TypeId}{p ix:AV}{K:AV->Prop}(h:KG cl P t p ix K):∃v,Ej P t p ix=some v/\K v:=by
 unfold KG at h;split at h
 ·rename_i kk n;obtain⟨hn,h⟩:=cH.1 h;unfold Ej;simp only[hn];split at h
  ·rename_i hu;simp only[hu];split at h
   ·obtain⟨b,hb,h⟩:=cM.1 h;exact⟨_,by simp[hb],oU.1 h⟩
   ·exact h.elim
  ·rename_i m e hu;simp only[hu];split at h
   ·obtain⟨h1,h⟩:=cH.1 h;simp only[h1];split at h
    ·rename_i sz sh hsz hsh;obtain⟨v,h2,h3⟩:=m9 h;exact⟨v,by simp[hsz,hsh,h2],h3⟩
    ·exact h.elim
   ·exact h.elim
  ·exact h.elim
 ·exact h.elim
def KS(cl:Bool)(op:BinOp)(k:IntKind)(x y:Int)(K:AV->Prop):Prop:=
 match op with
 | .add=>tW cl k (k.wrap (x+y)) K
 | .sub=>tW cl k (k.wrap (x-y)) K
 | .mul=>tW cl k (k.wrap (x*y)) K
 | .quo=>qX (!decide (y=0)) (tW cl k (k.wrap (x.tdiv y)) K)
 | .rem=>qX (!decide (y=0)) (tW cl k (x.tmod y) K)
 | .and=>tW cl k (bits .and k x y) K
 | .or=>tW cl k (bits .or k x y) K
 | .xor=>tW cl k (bits .xor k x y) K
 | .andNot=>tW cl k (bits .andNot k x y) K
 | .eql=>nQ cl (x == y) K
 | .neq=>nQ cl (x != y) K
 | .lss=>nQ cl (decide (x<y)) K
 | .leq=>nQ cl (decide (x<=y)) K
 | .gtr=>nQ cl (decide (x>y)) K
 | .geq=>nQ cl (decide (x≥y)) K
 | _=>False
theorem PO{cl:Bool}{op:BinOp}{k:IntKind}{x y:Int}{K:AV->Prop}(h:KS cl op k x y K):∃v,Dk op k x y=some v/\K v:=by
  cases op<;>simp only[KS,oU,n6] at h<;>simp only[Dk]<;>first
    | exact h.elim
    | exact⟨_,rfl,h⟩
    | (obtain⟨h1,h2⟩:=cH.1 h
       have:decide (y=0)=false:=by simpa using h1
       rw[this];exact⟨_,rfl,h2⟩)
def LD(cl:Bool)(op:BinOp)(x y:List UInt8)(K:AV->Prop):Prop:=
 match op with
 | .add=>qX (Nat.ble (x.length+y.length) 9223372036854775807) (match cl with
   | true=>Di x y fun l=>K (.str l)
   | false=>K (.str (x++y)))
 | .eql=>nQ cl (x == y) K
 | .neq=>nQ cl (!(x == y)) K
 | .lss=>nQ cl (Op.bytesLess x y) K
 | .leq=>nQ cl (Op.bytesLess x y || x == y) K
 | .gtr=>nQ cl (!(Op.bytesLess x y || x == y)) K
 | .geq=>nQ cl (!(Op.bytesLess x y)) K
 | _=>False
theorem Ol{cl:Bool}{op:BinOp}{x y:List UInt8}{K:AV->Prop}(h:LD cl op x y K):∃v,Dm op x y=some v/\K v:=by
  cases op<;>simp only[LD,n6] at h<;>simp only[Dm]<;>first
    | exact h.elim
    | exact⟨_,rfl,h⟩
    | (obtain⟨h1,h2⟩:=cH.1 h
       have h1':decide ((x.length:Int)+y.length<=9223372036854775807)=true:=by have:=Yq h1;simp;omega
       rw[h1'];refine⟨_,rfl, ?_⟩;cases cl
       · exact h2
       · exact iN.1 h2)
def Ko(cl:Bool)(op:BinOp)(k:IntKind)(x y:Int)(K:AV->Prop):Prop:=
 qX (!decide (y<0)) (match op with
  | .shl=>tW cl k (k.wrap (x*2 ^ (min y.toNat k.bits))) K
  | .shr=>tW cl k (x.fdiv (2 ^ (min y.toNat k.bits))) K
  | _=>False)
theorem JI{cl:Bool}{op:BinOp}{k:IntKind}{x y:Int}{K:AV->Prop}(h:Ko cl op k x y K):∃v,Bk op k x y=some v/\K v:=by
 obtain⟨h1,h2⟩:=cH.1 h;have h1:decide (y<0)=false:=by simpa using h1
 unfold Bk;rw[h1];cases op<;>simp only[oU] at h2<;>first|exact h2.elim|exact⟨_,rfl,h2⟩
def Ua(cl:Bool)(P:Program)(op:BinOp)(t:TypeId)(xo yo:Operand)(x y:AV)(K:AV->Prop):Prop:=
 match x,y with
 | .int k a,.int k' b=>match op with
  | .shl=>Ko cl .shl k a b K
  | .shr=>Ko cl .shr k a b K
  | _=>qX (decide (k=k')) (KS cl op k a b K)
 | .str a,.str b=>LD cl op a b K
 | .agg a,.agg b=>match P.eqGuardType P.depth t with
  | false=>match op with
   | .eql=>opt (G2 P t a b) fun r=>nQ cl r K
   | .neq=>opt (G2 P t a b) fun r=>nQ cl (!r) K
   | _=>False
  | true=>False
 | x,y=>match op with
  | .eql=>opt (PG P (mZ xo || mZ yo) t x y) fun b=>nQ cl b K
  | .neq=>opt (PG P (mZ xo || mZ yo) t x y) fun b=>nQ cl (!b) K
  | _=>False
theorem Ur{cl:Bool}{P:Program}{op:BinOp}{t:TypeId}{xo yo:Operand}{x y:AV}{K:AV->Prop}(h:Ua cl P op t xo yo x y K):∃v,O8 P op t xo yo x y=some v/\K v:=by
 unfold Ua at h;unfold O8;split at h
 ·split at h
  ·exact JI h
  ·exact JI h
  ·obtain⟨h1,h2⟩:=cH.1 h;simp only[h1];obtain⟨v,h3,h4⟩:=PO h2;refine⟨v, ?_,h4⟩;cases op<;>first|exact h3|contradiction
 ·exact Ol h
 ·split at h
  ·rename_i hg;simp only[hg];split at h
   ·obtain⟨b,hb,h⟩:=cM.1 h;exact⟨.bool b,by simp only[hb],n6.1 h⟩
   ·obtain⟨b,hb,h⟩:=cM.1 h;exact⟨.bool (!b),by simp only[hb],n6.1 h⟩
   ·exact h.elim
  ·exact h.elim
 ·rename_i h1 h2 h3;split at h
  ·obtain⟨b,hb,h⟩:=cM.1 h;refine⟨.bool b, ?_,n6.1 h⟩;cases x<;>cases y<;>first|(simp only[hb];done)|(exact(h1 _ _ _ _ rfl rfl).elim)|(exact(h2 _ _ rfl rfl).elim)|(exact(h3 _ _ rfl rfl).elim)
  ·obtain⟨b,hb,h⟩:=cM.1 h;refine⟨.bool (!b), ?_,n6.1 h⟩;cases x<;>cases y<;>first|(simp only[hb];done)|(exact(h1 _ _ _ _ rfl rfl).elim)|(exact(h2 _ _ rfl rfl).elim)|(exact(h3 _ _ rfl rfl).elim)
  ·exact h.elim
def YL(cl:Bool)(op:UnOp)(x:AV)(K:AV->Prop):Prop:=
 match op,x with
 | .neg,.int k n=>tW cl k (k.wrap (0-n)) K
 | .not,.bool b=>nQ cl (!b) K
 | _,_=>False
theorem W0{cl:Bool}{op:UnOp}{x:AV}{K:AV->Prop}(h:YL cl op x K):∃v,XY op x=some v/\K v:=by
 unfold YL at h;split at h
 ·exact⟨_,rfl,oU.1 h⟩
 ·exact⟨_,rfl,n6.1 h⟩
 ·exact h.elim
def RN(cl:Bool)(P:Program)(mem:aQ)(src dst:TypeId)(x:AV)(K:AV->Prop):Prop:=
 match P.underlying src with
 | none=>False
 | some d=>match P.underlying dst with
  | some (.int k)=>match x with
   | .int _ n=>tW cl k (k.wrap n) K
   | _=>False
  | some .string=>match x with
   | .str s=>K (.str s)
   | .nsl=>match d with
    | .slice e=>match P.underlying e with
     | some (.int .u8)=>K (.str [])
     | _=>False
    | _=>False
   | .il sz xs=>match d with
    | .slice e=>match P.underlying e with
     | some (.int .u8)=>qX (Nat.beq sz 1) (opt (f8 xs) fun l=>uR cl l fun l=>K (.str l))
     | _=>False
    | _=>False
   | .sl id off len=>match d with
    | .slice e=>match P.underlying e with
     | some (.int .u8)=>match lk mem id with
      | some (.row _ _ xs)=>qX (Nat.ble (off+len) xs.length) (opt (f8 ((xs.drop off).take len)) fun l=>uR cl l fun l=>K (.str l))
      | _=>False
     | _=>False
    | _=>False
   | _=>False
  | some .unsafePointer=>opt (TQ P mem d x) K
  | some (.pointer u)=>opt (HH P mem d u x) K
  | _=>False
theorem Rn{cl:Bool}{P:Program}{mem:aQ}{src dst:TypeId}{x:AV}{K:AV->Prop}(h:RN cl P mem src dst x K):∃v,DE P mem src dst x=some v/\K v:=by
 unfold RN at h;split at h
 ·exact h.elim
 ·rename_i d hd;unfold DE;simp only[hd];split at h
  ·rename_i k hu;simp only[hu];split at h
   ·exact⟨_,rfl,oU.1 h⟩
   ·exact h.elim
  ·rename_i hu;simp only[hu];split at h
   ·exact⟨_,rfl,h⟩
   ·split at h
    ·split at h
     ·rename_i he;exact⟨_,by simp only[he],h⟩
     ·exact h.elim
    ·exact h.elim
   ·split at h
    ·split at h
     ·rename_i he;obtain⟨h1,h⟩:=cH.1 h;obtain⟨l,h2,h⟩:=cM.1 h;exact⟨_,by simp only[he,h1,h2],jC.1 h⟩
     ·exact h.elim
    ·exact h.elim
   ·split at h
    ·split at h
     ·rename_i he;split at h
      ·rename_i hid;obtain⟨h1,h⟩:=cH.1 h;obtain⟨l,h2,h⟩:=cM.1 h;exact⟨_,by simp only[he,hid,h1,h2],jC.1 h⟩
      ·exact h.elim
     ·exact h.elim
    ·exact h.elim
   ·exact h.elim
  ·rename_i hu;simp only[hu];obtain⟨v,h1,h⟩:=cM.1 h;exact⟨v,h1,h⟩
  ·rename_i u hu;simp only[hu];obtain⟨v,h1,h⟩:=cM.1 h;exact⟨v,h1,h⟩
  ·exact h.elim
def G8:List AV->Nat->List AV->(List AV->Prop)->Prop
 | cells,_,[],K=>K cells
 | cells,off,v::r,K=>KF cells off v fun c=>G8 c (off+1) r K
theorem EE(off:Nat):∀(vs:List AV) (k:Nat) (cells:List AV) (K:List AV->Prop),G8 cells (off+k) vs K↔K ((vs.zipIdx k).foldl (fun cs p=>cs.set (off+p.2) p.1) cells)
 | [],k,cells,K=>Iff.rfl
 | v::r,k,cells,K=>by
  simp only[G8,b9,aAo,Y9];have:=EE off r (k+1) (cells.set (off+k) v) K;rw[←Nat.add_assoc] at this;exact this
def IG(place:Nat->Option (Nat × Nat)):List AV->List (Nat × AV)->(List AV->Prop)->Prop
 | cells,[],K=>K cells
 | cells,(i,v)::r,K=>match place i with
  | none=>False
  | some (off,size)=>qX (mJ v && (Nat.beq v.cells.length size && Nat.ble (off+v.cells.length) cells.length)) (G8 cells off v.cells fun cs=>IG place cs r K)
theorem Hn{place:Nat->Option (Nat × Nat)}:∀{parts:List (Nat × AV)} {cells:List AV} {K:List AV->Prop},IG place cells parts K->∃l,BO place cells parts=some l/\K l
 | [],cells,K,h=>⟨cells,by simp[BO],h⟩
 | (i,v)::r,cells,K,h=>by
  simp only[IG] at h;simp only[BO];split at h
  ·exact h.elim
  ·rename_i off size hp;obtain⟨h1,h2⟩:=cH.1 h;have h3:=(EE off v.cells 0 cells _).1 h2;obtain⟨l,h4,h5⟩:=Hn h3;exact⟨l,by simp only[hp,h1];exact h4,h5⟩
def LG(P:Program)(t:TypeId)(parts:List (Nat × AV))(K:AV->Prop):Prop:=
 match P.info? t with
 | some it=>match it.zero with
  | some z=>match Ap z with
   | some (.agg zs)=>match P.underlying t with
    | some (.array _ e)=>match gY P e with
     | some n=>IG (fun i=>some (i*n,n)) zs parts fun cs=>K (.agg cs)
     | none=>False
    | some (.struct fs)=>match xK P fs.toList with
     | some places=>IG (fun i=>places[i]?) zs parts fun cs=>K (.agg cs)
     | none=>False
    | _=>False
   | _=>False
  | none=>False
 | none=>False
theorem O7{P:Program}{t:TypeId}{parts:List (Nat × AV)}{K:AV->Prop}(h:LG P t parts K):∃v,Dr P t parts=some v/\K v:=by
 unfold LG at h;unfold Dr;split at h
 ·rename_i it h1;simp only[h1];split at h
  ·rename_i z h2;simp only[h2];split at h
   ·rename_i zs h3;simp only[h3];split at h
    ·rename_i e h4;simp only[h4];split at h
     ·rename_i n h5;simp only[h5];obtain⟨l,h6,h7⟩:=Hn h;exact⟨_,by rw[h6],h7⟩
     ·exact h.elim
    ·rename_i fs h4;simp only[h4];split at h
     ·rename_i n h5;simp only[h5];obtain⟨l,h6,h7⟩:=Hn h;exact⟨_,by rw[h6],h7⟩
     ·exact h.elim
    ·exact h.elim
   ·exact h.elim
  ·exact h.elim
 ·exact h.elim
def jJ(d:Nat)(x:Option AV)(K:Nat->Prop):Prop:=
 match x with
 | none=>K d
 | some (.int _ n)=>qX (decide (0<=n)) (K n.toNat)
 | some _=>False
theorem gX{d:Nat}{x:Option AV}{K:Nat->Prop}(h:jJ d x K):∃n,fN d x=some n/\K n:=by
 unfold jJ at h;split at h
 ·exact⟨_,rfl,h⟩
 ·obtain⟨h1,h2⟩:=cH.1 h;exact⟨_,by simp only[fN,h1],h2⟩
 ·exact h.elim
def KD(cl:Bool)(P:Program)(mem:aQ)(t:TypeId)(x:AV)(lo hi mx:Option AV)(K:AV->Prop):Prop:=
 match P.underlying t with
 | some .string=>match x,mx with
  | .str s,none=>jJ 0 lo fun l=>jJ s.length hi fun h=>qX (Nat.ble l h && Nat.ble h s.length) (uR cl ((s.drop l).take (h-l)) fun s=>K (.str s))
  | _,_=>False
 | some (.slice e)=>match gY P e with
  | none=>False
  | some sz=>match x with
   | .nsl=>jJ 0 lo fun l=>jJ 0 hi fun h=>jJ 0 mx fun m=>qX (Nat.beq l 0 && (Nat.beq h 0 && Nat.beq m 0)) (K .nsl)
   | .il sz' xs=>qX (Nat.beq sz sz') (jJ 0 lo fun l=>jJ xs.length hi fun h=>jJ xs.length mx fun m=>qX (Nat.ble l h && (Nat.ble h m && Nat.ble m xs.length)) (uR cl ((xs.drop l).take (h-l)) fun ys=>K (.il sz' ys)))
   | .sl id off len=>match lk mem id with
    | some (.row _ sz0 _)=>qX (Nat.beq sz0 sz) (jJ 0 lo fun l=>jJ len hi fun h=>jJ len mx fun m=>qX (Nat.ble l h && (Nat.ble h m && Nat.ble m len)) (Am cl (off+l) fun o=>Am cl (h-l) fun n=>K (.sl id o n)))
    | _=>False
   | _=>False
 | some (.array n e)=>match gY P e with
  | none=>False
  | some sz=>match x with
   | .ptr id i 0=>match lk mem id with
    | some (.row _ _ xs)=>qX (DC mem id i 0 sz && Nat.ble (i+n) xs.length) (jJ 0 lo fun l=>jJ n hi fun h=>jJ n mx fun m=>qX (Nat.ble l h && (Nat.ble h m && Nat.ble m n)) (Am cl (i+l) fun o=>Am cl (h-l) fun n=>K (.sl id o n)))
    | _=>False
   | _=>False
 | _=>False
theorem PN{cl:Bool}{P:Program}{mem:aQ}{t:TypeId}{x:AV}{lo hi mx:Option AV}{K:AV->Prop}(h:KD cl P mem t x lo hi mx K):∃v,Ec P mem t x lo hi mx=some v/\K v:=by
 unfold KD at h;unfold Ec;split at h
 ·rename_i hu;simp only[hu];split at h
  ·rename_i s;obtain⟨l,h1,h⟩:=gX h;obtain⟨h',h2,h⟩:=gX h;obtain⟨h3,h⟩:=cH.1 h;exact⟨_,by simp only[h1,h2,h3],jC.1 h⟩
  ·exact h.elim
 ·rename_i e hu;simp only[hu];split at h
  ·exact h.elim
  ·rename_i sz hsz;simp only[hsz];split at h
   ·obtain⟨l,h1,h⟩:=gX h;obtain⟨h',h2,h⟩:=gX h;obtain⟨m,h3,h⟩:=gX h;obtain⟨h4,h⟩:=cH.1 h;simp only[Yk] at h4;obtain⟨a1,a2,a3⟩:=h4;rw[Nat.eq_of_beq_eq_true a1] at h1;rw[Nat.eq_of_beq_eq_true a2] at h2;rw[Nat.eq_of_beq_eq_true a3] at h3;exact⟨_,by simp only[h1,h2,h3],h⟩
   ·obtain⟨h0,h⟩:=cH.1 h;obtain⟨l,h1,h⟩:=gX h;obtain⟨h',h2,h⟩:=gX h;obtain⟨m,h3,h⟩:=gX h;obtain⟨h4,h⟩:=cH.1 h;exact⟨_,by simp only[h0,h1,h2,h3,h4],jC.1 h⟩
   ·split at h
    ·rename_i hid;obtain⟨h0,h⟩:=cH.1 h;obtain⟨l,h1,h⟩:=gX h;obtain⟨h',h2,h⟩:=gX h;obtain⟨m,h3,h⟩:=gX h;obtain⟨h4,h⟩:=cH.1 h;exact⟨_,by simp only[hid,h0,h1,h2,h3,h4],i9.1 (i9.1 h)⟩
    ·exact h.elim
   ·exact h.elim
 ·rename_i n e hu;simp only[hu];split at h
  ·exact h.elim
  ·rename_i sz hsz;simp only[hsz];split at h
   ·split at h
    ·rename_i hid;obtain⟨h0,h⟩:=cH.1 h;obtain⟨l,h1,h⟩:=gX h;obtain⟨h',h2,h⟩:=gX h;obtain⟨m,h3,h⟩:=gX h;obtain⟨h4,h⟩:=cH.1 h;exact⟨_,by simp only[hid,h0,h1,h2,h3,h4],i9.1 (i9.1 h)⟩
    ·exact h.elim
   ·exact h.elim
 ·exact h.elim
def K7(sz:Nat)(sh:Option Nat):Nat->List AV->(List AV->Prop)->Prop
 | 0,_,K=>K []
 | m+1,cs,K=>Ep sh cs 0 fun x=>K7 sz sh m (cs.drop sz) fun l=>K (x::l)
theorem I9{sz:Nat}{sh:Option Nat}:∀{m:Nat} {cs:List AV} {K:List AV->Prop},K7 sz sh m cs K->∃l,Ed sz sh m cs=some l/\K l
 | 0,cs,K,h=>⟨[],rfl,h⟩
 | m+1,cs,K,h=>by
  obtain⟨x,h1,h⟩:=m9 h;obtain⟨l,h2,h⟩:=I9 h;exact⟨_,by simp only[Ed,h1,h2],h⟩
def WM{α:Type}:List α->Nat->Nat
 | [],n=>n
 | _::r,n=>WM r (n+1)
theorem P3{α:Type}:∀(l:List α) (n:Nat),WM l n=l.length+n
 | [],n=>by simp[WM]
 | _::r,n=>by simp[WM,P3 r];omega
def TM(P:Program)(t:TypeId)(v:AV)(K:Nat->List AV->Prop):Prop:=
 match P.underlying t with
 | some (.array m e)=>match v with
  | .agg cs=>match gY P e,FX P e with
   | some sz,some sh=>qX (Nat.beq (sh.getD 1) sz && (Nat.blt 0 sz && Nat.beq cs.length (m*sz))) (K7 sz sh m cs fun xs=>K sz xs)
   | _,_=>False
  | _=>False
 | some _=>qX (mJ v) (match v.cells with
  | []=>K 0 []
  | _::_=>rK (WM v.cells 0) fun n=>K n [v])
 | none=>False
theorem QY{P:Program}{t:TypeId}{v:AV}{K:Nat->List AV->Prop}(h:TM P t v K):∃sz xs,DY P t v=some (sz,xs)/\K sz xs:=by
 unfold TM at h;unfold DY;split at h
 ·rename_i m e hu;simp only[hu];split at h
  ·split at h
   ·rename_i sz sh h1 h2;simp only[h1,h2];obtain⟨h3,h⟩:=cH.1 h;obtain⟨l,h4,h⟩:=I9 h;exact⟨_,_,by simp only[h3,h4],h⟩
   ·exact h.elim
  ·exact h.elim
 ·rename_i d hna hu;simp only[hu];obtain⟨h1,h⟩:=cH.1 h;split at h
  ·rename_i hc;refine⟨_,_, ?_,h⟩;cases hd:d<;>first|(exact(hna _ _ hd).elim)|simp only[h1,hc]
  ·rename_i c cs hc;have h:=eJ.1 h;rw[P3,aAr] at h;refine⟨_,_, ?_,h⟩;cases hd:d<;>first|(exact(hna _ _ hd).elim)|simp only[h1,hc]
 ·exact h.elim
def Kg(P:Program)(mem:aQ)(nx:Nat)(t:TypeId)(K:AV->aQ->Nat->Prop):Prop:=
 match P.info? t with
 | some i=>match i.zero with
  | some z=>match Ap z with
   | some v=>TM P t v fun sz xs=>rK (nx+1) fun n=>K (.ptr nx 0 0) ((nx,.row t sz xs)::mem) n
   | none=>False
  | none=>False
 | none=>False
theorem PU{P:Program}{mem:aQ}{nx:Nat}{t:TypeId}{K:AV->aQ->Nat->Prop}(h:Kg P mem nx t K):∃v m n,vA P mem nx t=some (v,m,n)/\K v m n:=by
 unfold Kg at h;unfold vA;split at h
 ·rename_i i h1;simp only[h1];split at h
  ·rename_i z h2;simp only[h2];split at h
   ·rename_i v h3;simp only[h3];obtain⟨sz,xs,h4,h⟩:=QY h;exact⟨_,_,_,by simp only[h4],eJ.1 h⟩
   ·exact h.elim
  ·exact h.elim
 ·exact h.elim
def W1(P:Program)(mem:aQ)(nx:Nat)(t:TypeId)(v:AV)(K:AV->aQ->Nat->Prop):Prop:=
 TM P t v fun sz xs=>rK (nx+1) fun n=>K (.ptr nx 0 0) ((nx,.row t sz xs)::mem) n
theorem Ul{P:Program}{mem:aQ}{nx:Nat}{t:TypeId}{v:AV}{K:AV->aQ->Nat->Prop}(h:W1 P mem nx t v K):∃r m n,JR P mem nx t v=some (r,m,n)/\K r m n:=by
 obtain⟨sz,xs,h4,h⟩:=QY h;exact⟨_,_,_,by simp only[JR,h4],eJ.1 h⟩
def Ky(sz:Nat):List AV->List (Nat × AV)->(List AV->Prop)->Prop
 | xs,[],K=>K xs
 | xs,(i,v)::r,K=>qX (mJ v && (Nat.beq v.cells.length sz && Nat.blt i xs.length)) (KF xs i v fun xs=>Ky sz xs r K)
theorem JK{sz:Nat}:∀{parts:List (Nat × AV)} {xs:List AV} {K:List AV->Prop},Ky sz xs parts K->∃l,vJ sz xs parts=some l/\K l
 | [],xs,K,h=>⟨xs,by simp[vJ],h⟩
 | (i,v)::r,xs,K,h=>by
  obtain⟨h1,h⟩:=cH.1 h;obtain⟨l,h2,h⟩:=JK (b9.1 h);exact⟨l,by simp only[vJ,h1];exact h2,h⟩
def wB(P:Program)(mem:aQ)(nx:Nat)(t:TypeId)(len:Nat)(parts:List (Nat × AV))(K:AV->aQ->Nat->Prop):Prop:=
 match P.underlying t with
 | some (.slice e)=>match gY P e,oF P e with
  | some sz,some z=>qX (mJ z && (Nat.beq z.cells.length sz && (Nat.blt 0 sz && Nat.ble (len*sz) 16777216))) (B4 (List.replicate len z) fun zs=>Ky sz zs parts fun xs=>rK (nx+1) fun n=>K (.sl nx 0 len) ((nx,.row e sz xs)::mem) n)
  | _,_=>False
 | _=>False
theorem FK{P:Program}{mem:aQ}{nx:Nat}{t:TypeId}{len:Nat}{parts:List (Nat × AV)}{K:AV->aQ->Nat->Prop}(h:wB P mem nx t len parts K):∃v m n,iU P mem nx t len parts=some (v,m,n)/\K v m n:=by
 unfold wB at h;unfold iU;split at h
 ·rename_i e hu;simp only[hu];split at h
  ·rename_i sz z h1 h2;simp only[h1,h2];obtain⟨h3,h⟩:=cH.1 h;obtain⟨l,h4,h⟩:=JK (p5.1 h);exact⟨_,_,_,by simp only[h3,h4],eJ.1 h⟩
  ·exact h.elim
 ·exact h.elim
def q5:List AV->Nat->List AV->(List AV->Prop)->Prop
 | [],_,cs,K=>K cs
 | x::r,0,[],K=>K (x::r)
 | _::r,0,c::cs,K=>q5 r 0 cs fun l=>K (c::l)
 | x::r,j+1,cs,K=>q5 r j cs fun l=>K (x::l)
theorem v7:∀{xs:List AV} {j:Nat} {cs:List AV} {K:List AV->Prop},q5 xs j cs K↔K (xs.take j++cs++xs.drop (j+cs.length))
 | [],j,cs,K=>by simp[q5]
 | x::r,0,[],K=>by simp[q5]
 | x::r,0,c::cs,K=>by simp[q5,v7]
 | x::r,j+1,cs,K=>by simp[q5,v7,Nat.add_right_comm]
def Bv(x:AV)(j:Nat)(cs:List AV)(K:AV->Prop):Prop:=
 match x with
 | .agg xs=>q5 xs j cs fun l=>K (.agg l)
 | _=>match cs with
  | [c]=>opt (one c) K
  | _=>False
theorem J4{x:AV}{j:Nat}{cs:List AV}{K:AV->Prop}(h:Bv x j cs K):∃v,vG x j cs=some v/\K v:=by
 unfold Bv at h;unfold vG;split at h
 ·exact⟨_,rfl,v7.1 h⟩
 ·rename_i hx;split at h
  ·obtain⟨v,h1,h2⟩:=cM.1 h;refine⟨v, ?_,h2⟩;cases x<;>first|exact h1|exact(hx _ rfl).elim
  ·exact h.elim
def EZ:aQ->(aQ->Prop)->Prop
 | [],K=>K []
 | p::r,K=>EZ r fun r=>K (p::r)
theorem y9:∀{m:aQ} {K:aQ->Prop},EZ m K↔K m
 | [],K=>Iff.rfl
 | p::r,K=>by simp only[EZ];exact y9
def Hb(P:Program)(mem:aQ)(t:TypeId)(p v:AV)(K:aQ->Prop):Prop:=
 match p with
 | .ptr id i j=>match lk mem id with
  | some (.row t' sz' xs)=>opt xs[i]? fun x=>match gY P t with
   | some n=>qX (mJ v && (Nat.beq v.cells.length n && Nat.ble (j+n) x.cells.length)) (Bv x j v.cells fun x'=>KF xs i x' fun xs'=>Ob mem id (.row t' sz' xs') K)
   | none=>False
  | _=>False
 | _=>False
theorem Nf{P:Program}{mem:aQ}{t:TypeId}{p v:AV}{K:aQ->Prop}(h:Hb P mem t p v K):∃m,BI P mem t p v=some m/\K m:=by
 unfold Hb at h;unfold BI;split at h
 ·split at h
  ·rename_i hid;obtain⟨x,hx,h⟩:=cM.1 h;split at h
   ·rename_i n hn;obtain⟨h1,h⟩:=cH.1 h;obtain⟨x',h2,h⟩:=J4 h;exact⟨_,by simp only[hid,hx,hn,h1,h2],nH.1 (b9.1 h)⟩
   ·exact h.elim
  ·exact h.elim
 ·exact h.elim
def Kk(P:Program)(mem:aQ)(t:TypeId)(p v:AV)(K:aQ->Prop):Prop:=
 match P.underlying t with
 | some (.array _ _)=>opt (zY P mem t p v) fun m=>EZ m K
 | _=>match v.cells with
  | []=>opt (xF P mem t p v) K
  | _::_=>Hb P mem t p v K
theorem RJ{P:Program}{mem:aQ}{t:TypeId}{p v:AV}{K:aQ->Prop}(h:Kk P mem t p v K):∃m,zY P mem t p v=some m/\K m:=by
 unfold Kk at h;split at h
 ·obtain⟨m,h1,h⟩:=cM.1 h;exact⟨m,h1,y9.1 h⟩
 ·split at h
  ·obtain⟨m,h1,h⟩:=cM.1 h;exact⟨m,by simp only[zY,h1],h⟩
  ·rename_i hc;obtain⟨m,h1,h⟩:=Nf h;have hz:xF P mem t p v=none:=by
    unfold xF;split<;>first|rfl|skip
    split<;>first|rfl|skip
    split<;>first|rfl|skip
    rw[hc]
   exact⟨m,by simp only[zY,hz,h1],h⟩
def IW(cl:Bool)(P:Program)(mem:aQ)(nx:Nat)(t:TypeId)(l c:AV)(K:AV->aQ->Nat->Prop):Prop:=
 match l,c with
 | .int _ l,.int _ c=>match P.underlying t with
  | some (.slice e)=>match P.info? e with
   | some i=>match oF P e with
    | some z=>qX (mJ z && (Nat.beq z.cells.length i.size && (Nat.blt 0 i.size && (decide (0<=l) && (decide (l<=c) && (decide ((i.bytes:Int)*c<=281474976710656) && decide (c<=9223372036854775807)))))))
      (rK (nx+1) fun n=>uR cl (List.replicate l.toNat z) fun zs=>Am cl l.toNat fun m=>K (.sl nx 0 m) ((nx,.row e i.size zs)::mem) n)
    | none=>False
   | none=>False
  | _=>False
 | _,_=>False
theorem TG{cl:Bool}{P:Program}{mem:aQ}{nx:Nat}{t:TypeId}{l c:AV}{K:AV->aQ->Nat->Prop}(h:IW cl P mem nx t l c K):∃v m n,CG P mem nx t l c=some (v,m,n)/\K v m n:=by
 unfold IW at h;split at h
 ·unfold CG;split at h
  ·rename_i e hu;simp only[hu];split at h
   ·rename_i i h1;simp only[h1];split at h
    ·rename_i z h2;simp only[h2];obtain⟨h3,h⟩:=cH.1 h;have h4:=i9.1 (jC.1 (eJ.1 h));exact⟨_,_,_,by simp only[h3],h4⟩
    ·exact h.elim
   ·exact h.elim
  ·exact h.elim
 ·exact h.elim
def SE(cl:Bool)(mem:aQ)(sz:Nat)(x:AV)(K:List AV->Prop):Prop:=
 match x with
 | .nsl=>K []
 | .il sz' ys=>qX (Nat.beq sz' sz) (K ys)
 | .sl id off len=>match lk mem id with
  | some (.row _ sz' xs)=>qX (Nat.beq sz' sz && Nat.ble (off+len) xs.length) (uR cl ((xs.drop off).take len) K)
  | _=>False
 | .str s=>qX (Nat.beq sz 1) (uR cl (s.map fun b=>.int .u8 (b.toNat:Int)) K)
 | _=>False
theorem Pc{cl:Bool}{mem:aQ}{sz:Nat}{x:AV}{K:List AV->Prop}(h:SE cl mem sz x K):∃l,Nx mem sz x=some l/\K l:=by
 unfold SE at h;unfold Nx;split at h
 ·exact⟨_,rfl,h⟩
 ·obtain⟨h1,h⟩:=cH.1 h;exact⟨_,by simp only[h1],h⟩
 ·split at h
  ·rename_i hid;obtain⟨h1,h⟩:=cH.1 h;exact⟨_,by simp only[hid,h1],jC.1 h⟩
  ·exact h.elim
 ·obtain⟨h1,h⟩:=cH.1 h;exact⟨_,by simp only[h1],jC.1 h⟩
 ·exact h.elim
def SB(cl:Bool)(xs ys:List AV)(K:List AV->Prop):Prop:=
 match cl with
 | true=>Di xs ys K
 | false=>K (xs++ys)
theorem J0{cl:Bool}{xs ys:List AV}{K:List AV->Prop}:SB cl xs ys K↔K (xs++ys):=by cases cl<;>simp[SB,iN]
def HC(cl:Bool)(P:Program)(mem:aQ)(nx:Nat)(t u:TypeId)(s x:AV)(K:AV->aQ->Nat->Prop):Prop:=
 match P.underlying t with
 | some (.slice e)=>match P.info? e with
  | some i=>match i.zero with
   | some z=>qX (zA (P.underlying u) && (Nat.blt 0 i.size && Nat.beq z.cells.size i.size)) (SE cl mem i.size x fun ys=>match s with
     | .nsl=>qX (Nat.ble (ys.length*i.bytes) 140737488355328 && Nat.ble ys.length 9223372036854775807) (Am cl ys.length fun l=>rK (nx+1) fun n=>K (.sl nx 0 l) ((nx,.row e i.size ys)::mem) n)
     | .sl id 0 len=>match lk mem id with
      | some (.row t' sz' xs)=>qX (Nat.beq t' e && (Nat.beq sz' i.size && (Nat.beq len xs.length && (Nat.ble ((len+ys.length)*i.bytes) 140737488355328 && Nat.ble (len+ys.length) 9223372036854775807))))
        (SB cl xs ys fun zs=>Am cl (len+ys.length) fun l=>rK (nx+1) fun n=>F7 id mem fun m=>K (.sl nx 0 l) ((nx,.row e i.size zs)::m) n)
      | _=>False
     | _=>False)
   | none=>False
  | none=>False
 | _=>False
theorem N5{cl:Bool}{P:Program}{mem:aQ}{nx:Nat}{t u:TypeId}{s x:AV}{K:AV->aQ->Nat->Prop}(h:HC cl P mem nx t u s x K):∃v m n,tS P mem nx t u s x=some (v,m,n)/\K v m n:=by
 unfold HC at h;unfold tS;split at h
 ·rename_i e hu;simp only[hu];split at h
  ·rename_i i h1;simp only[h1];split at h
   ·rename_i z h2;simp only[h2];obtain⟨h3,h⟩:=cH.1 h;simp only[h3];obtain⟨ys,h4,h⟩:=Pc h;simp only[h4];split at h
    ·obtain⟨h5,h⟩:=cH.1 h;exact⟨_,_,_,by simp only[h5],eJ.1 (i9.1 h)⟩
    ·split at h
     ·rename_i hid;obtain⟨h5,h⟩:=cH.1 h;exact⟨_,_,_,by simp only[hid,h5],xX.1 (eJ.1 (i9.1 (J0.1 h)))⟩
     ·exact h.elim
    ·exact h.elim
   ·exact h.elim
  ·exact h.elim
 ·exact h.elim
def Bh(cl:Bool)(P:Program)(mem:aQ)(nx:Nat)(src dst:TypeId)(x:AV)(K:AV->aQ->Nat->Prop):Prop:=
 match P.underlying src with
 | none=>False
 | some _=>match P.underlying dst with
  | some (.slice e)=>match P.underlying e with
   | some (.int .u8)=>match x with
    | .str s=>rK (nx+1) fun n=>Am cl s.length fun l=>uR cl (s.map fun b=>.int .u8 (b.toNat:Int)) fun xs=>K (.sl nx 0 l) ((nx,.row e 1 xs)::mem) n
    | _=>False
   | _=>False
  | _=>False
theorem IL{cl:Bool}{P:Program}{mem:aQ}{nx:Nat}{src dst:TypeId}{x:AV}{K:AV->aQ->Nat->Prop}(h:Bh cl P mem nx src dst x K):∃v m n,mN P mem nx src dst x=some (v,m,n)/\K v m n:=by
 unfold Bh at h;unfold mN;split at h
 ·exact h.elim
 ·rename_i d hd;simp only[hd];split at h
  ·rename_i e hu;simp only[hu];split at h
   ·rename_i he;simp only[he];split at h
    ·exact⟨_,_,_,rfl,jC.1 (i9.1 (eJ.1 h))⟩
    ·exact h.elim
   ·exact h.elim
  ·exact h.elim
def tJ(P:Program)(mem:aQ)(t:TypeId)(m k v:AV)(K:aQ->Prop):Prop:=
 match P.underlying t with
 | some (.map kt _)=>qX (II P kt k) (match m with
   | .mp id=>match lk mem id with
    | some (.mapb es)=>opt (jK P kt k es 0) fun r=>match r with
     | some (i,_)=>opt es[i]? fun e=>qX (B5 e.1 k) (KF es i (k,v) fun es=>Ob mem id (.mapb es) K)
     | none=>Di es [(k,v)] fun es=>Ob mem id (.mapb es) K
    | _=>False
   | _=>False)
 | _=>False
theorem A8{P:Program}{mem:aQ}{t:TypeId}{m k v:AV}{K:aQ->Prop}(h:tJ P mem t m k v K):∃m',oC P mem t m k v=some m'/\K m':=by
 unfold tJ at h;unfold oC;split at h
 ·rename_i kt et hu;simp only[hu];obtain⟨h1,h⟩:=cH.1 h;simp only[h1];split at h
  ·split at h
   ·rename_i es hid;simp only[hid];obtain⟨r,h2,h⟩:=cM.1 h;split at h
    ·obtain⟨e,h3,h⟩:=cM.1 h;obtain⟨h4,h⟩:=cH.1 h;exact⟨_,by simp only[h2,h3,h4],nH.1 (b9.1 h)⟩
    ·exact⟨_,by simp only[h2],nH.1 (iN.1 h)⟩
   ·exact h.elim
  ·exact h.elim
 ·exact h.elim
end Go.Ax
