/- A part of the proof. -/
import Derived.Test.YthggfhnnkclooaaGreatDoorAx4
set_option linter.unusedSectionVars false
set_option linter.unusedVariables false
set_option linter.unusedSimpArgs false
set_option maxRecDepth 1000000
set_option maxHeartbeats 16000000
namespace Go.Ax
open Go
def Nu(b:Bool)(p q:Prop):Prop:=
 match b with
 | true=>p
 | false=>q
def pG(b:Bool)(p:Prop):Prop:=
 match b with
 | true=>p
 | false=>False
def opt{G:Type}(o:Option G)(K:G->Prop):Prop:=
 match o with
 | some a=>K a
 | none=>False
theorem aL{b:Bool}{p q:Prop}(h1:b=true->p)(h2:b=false->q):Nu b p q:=by
 cases b
 .exact h2 rfl
 .exact h1 rfl
theorem b8{b:Bool}{p:Prop}:pG b p↔b=true/\p:=by cases b<;>simp[pG]
theorem aO{b:Bool}{p:Prop}(h:b=true)(hp:p):pG b p:=b8.2 ⟨h,hp⟩
theorem b9{G:Type}{o:Option G}{K:G->Prop}:opt o K↔∃a,o=some a/\K a:=by cases o<;>simp[opt]
theorem aC{G:Type}{o:Option G}{K:G->Prop}{a:G}(h:o=some a)(hk:K a):opt o K:=b9.2 ⟨a,h,hk⟩
def pX(n:Nat)(K:Nat->Prop):Prop:=
 match n with
 | 0=>K 0
 | Nat.succ m=>K (Nat.succ m)
theorem eE{n:Nat}{K:Nat->Prop}:pX n K↔K n:=by cases n<;>rfl
def T3(n:Int)(K:Int->Prop):Prop:=
 match n with
 | .ofNat m=>pX m λm=>K (.ofNat m)
 | .negSucc m=>pX m λm=>K (.negSucc m)
theorem N1{n:Int}{K:Int->Prop}:T3 n K↔K n:=by cases n<;>simp[T3,eE]
def zB(cl:Bool)(n:Nat)(K:Nat->Prop):Prop:=
 match cl with
 | true=>pX n K
 | false=>K n
theorem iW{cl:Bool}{n:Nat}{K:Nat->Prop}:zB cl n K↔K n:=by cases cl<;>simp[zB,eE]
def sW(cl:Bool)(k:IntKind)(n:Int)(K:AV->Prop):Prop:=
 match cl with
 | true=>T3 n λn=>K (.int k n)
 | false=>K (.int k n)
theorem n7{cl:Bool}{k:IntKind}{n:Int}{K:AV->Prop}:sW cl k n K↔K (.int k n):=by cases cl<;>simp[sW,N1]
def mP(cl:Bool)(b:Bool)(K:AV->Prop):Prop:=
 match cl with
 | true=>match b with
  | true=>K (.bool true)
  | false=>K (.bool false)
 | false=>K (.bool b)
theorem nH{cl:Bool}{b:Bool}{K:AV->Prop}:mP cl b K↔K (.bool b):=by cases cl<;>cases b<;>rfl
def tZ{G:Type}:List G->(List G->Prop)->Prop
 | [],K=>K []
 | x::r,K=>tZ r λl=>K (x::l)
theorem lD{G:Type}:∀{l:List G} {K:List G->Prop},tZ l K↔K l
 | [],K=>Iff.rfl
 | x::r,K=>by simp[tZ,lD]
def tQ{G:Type}(cl:Bool)(l:List G)(K:List G->Prop):Prop:=
 match cl with
 | true=>tZ l K
 | false=>K l
theorem i8{G:Type}{cl:Bool}{l:List G}{K:List G->Prop}:tQ cl l K↔K l:=by cases cl<;>simp[tQ,lD]
def CB{G:Type}:List G->List G->(List G->Prop)->Prop
 | [],ys,K=>K ys
 | x::r,ys,K=>CB r ys λl=>K (x::l)
theorem gM{G:Type}:∀{xs ys:List G} {K:List G->Prop},CB xs ys K↔K (xs++ys)
 | [],ys,K=>Iff.rfl
 | x::r,ys,K=>by simp[CB,gM]
def Kf{G:Type}:List G->Nat->G->(List G->Prop)->Prop
 | [],_,_,K=>K []
 | _::r,0,v,K=>K (v::r)
 | x::r,i+1,v,K=>Kf r i v λl=>K (x::l)
theorem dF{G:Type}:∀{xs:List G} {i:Nat} {v:G} {K:List G->Prop},Kf xs i v K↔K (xs.set i v)
 | [],_,_,K=>Iff.rfl
 | _::r,0,v,K=>Iff.rfl
 | x::r,i+1,v,K=>by simp[Kf,dF]
def Fk{G:Type}:Nat->List G->(List G->Prop)->Prop
 | 0,_,K=>K []
 | _+1,[],_=>False
 | n+1,c::r,K=>Fk n r λl=>K (c::l)
theorem FM{G:Type}:∀{n:Nat} {l:List G} {K:List G->Prop},Fk n l K↔(l.take n).length=n/\K (l.take n)
 | 0,l,K=>by simp[Fk]
 | n+1,[],K=>by simp[Fk]
 | n+1,c::r,K=>by simp[Fk,FM]
def HX{G:Type}:List (Nat × G)->Nat->G->(List (Nat × G)->Prop)->Prop
 | [],j,v,K=>K [(j,v)]
 | (i,u)::r,j,v,K=>match Nat.beq i j with
  | true=>K ((i,v)::r)
  | false=>HX r j v λl=>K ((i,u)::l)
theorem lT{G:Type}:∀{l:List (Nat × G)} {j:Nat} {v:G} {K:List (Nat × G)->Prop},HX l j v K↔K (up l j v)
 | [],j,v,K=>Iff.rfl
 | (i,u)::r,j,v,K=>by
  simp only[HX,up];cases Nat.beq i j
  .exact lT
  .exact Iff.rfl
def CY:Nat->aQ->(aQ->Prop)->Prop
 | _,[],K=>K []
 | id,(k,u)::r,K=>match Nat.beq k id with
  | true=>K r
  | false=>CY id r λl=>K ((k,u)::l)
theorem wY:∀{id:Nat} {m:aQ} {K:aQ->Prop},CY id m K↔K (drop id m)
 | _,[],K=>Iff.rfl
 | id,(k,u)::r,K=>by
  simp only[CY,drop];cases Nat.beq k id
  .exact wY
  .exact Iff.rfl
def kZ(C:List (Nat × AV))(sl:List (Nat × AV))(x:Operand)(K:AV->Prop):Prop:=
 match x with
 | .tmp t=>opt (lk sl t) K
 | .const (.string s)=>tZ s.data.toList λl=>K (.str l)
 | .const v=>opt (xQ v) K
 | .global g=>opt (lk C g) λv=>K (.ip v)
 | .func f=>K (.fn (.func f) [] [])
theorem cD{C:List (Nat × AV)}{s:St}{x:Operand}{K:AV->Prop}(h:kZ C s.sl x K):∃v,ev C s x=some v/\K v:=by
 unfold kZ at h;split at h
 .exact b9.1 h
 .exact⟨_,rfl,lD.1 h⟩
 .exact b9.1 h
 .obtain⟨v,h1,h2⟩:=b9.1 h;exact⟨_,by simp[ev,h1],h2⟩
 .exact⟨_,rfl,h⟩
def JN(C:List (Nat × AV))(sl:List (Nat × AV)):List Operand->(List AV->Prop)->Prop
 | [],K=>K []
 | x::r,K=>kZ C sl x λa=>JN C sl r λl=>K (a::l)
theorem pN{C:List (Nat × AV)}{s:St}:∀{xs:List Operand} {K:List AV->Prop},JN C s.sl xs K->∃l,B6 C s xs=some l/\K l
 | [],K,h=>⟨[],rfl,h⟩
 | x::r,K,h=>by
  obtain⟨a,h1,h2⟩:=cD h;obtain⟨l,h3,h4⟩:=pN h2;exact⟨a::l,by simp[B6,h1,h3],h4⟩
def rA(C:List (Nat × AV))(sl:List (Nat × AV)):List (Nat × Operand)->(List (Nat × AV)->Prop)->Prop
 | [],K=>K []
 | (i,x)::r,K=>kZ C sl x λa=>rA C sl r λl=>K ((i,a)::l)
theorem uS{C:List (Nat × AV)}{s:St}:∀{xs:List (Nat × Operand)} {K:List (Nat × AV)->Prop},rA C s.sl xs K->∃l,jG C s xs=some l/\K l
 | [],K,h=>⟨[],rfl,h⟩
 | (i,x)::r,K,h=>by
  obtain⟨a,h1,h2⟩:=cD h;obtain⟨l,h3,h4⟩:=uS h2;exact⟨(i,a)::l,by simp[jG,h1,h3],h4⟩
def HH(C:List (Nat × AV))(sl:List (Nat × AV))(x:Option Operand)(K:Option AV->Prop):Prop:=
 match x with
 | none=>K none
 | some x=>kZ C sl x λa=>K (some a)
theorem At{C:List (Nat × AV)}{s:St}{x:Option Operand}{K:Option AV->Prop}(h:HH C s.sl x K):∃l,xX C s x=some l/\K l:=by
 cases x with
 | none=>exact⟨none,rfl,h⟩
 | some x=>
  obtain⟨a,h1,h2⟩:=cD h;exact⟨some a,by simp[xX,h1],h2⟩
def Df(sh:Option Nat)(cs:List AV)(j:Nat)(K:AV->Prop):Prop:=
 match sh with
 | none=>opt cs[j]? λc=>opt (one c) K
 | some n=>Fk n (cs.drop j) λl=>K (.agg l)
theorem l7{sh:Option Nat}{cs:List AV}{j:Nat}{K:AV->Prop}(h:Df sh cs j K):∃v,sub sh cs j=some v/\K v:=by
 unfold Df at h;split at h
 .obtain⟨c,h1,h2⟩:=b9.1 h;obtain⟨v,h3,h4⟩:=b9.1 h2;exact⟨v,by simp[sub,h1,h3],h4⟩
 .obtain⟨h1,h2⟩:=FM.1 h;refine⟨_, ?_,h2⟩;simp only[sub];rw[h1];simp
def Ih(P:Program)(mem:aQ)(t:TypeId)(p:AV)(K:AV->Prop):Prop:=
 match p with
 | .ip u=>match EO P t with
  | some sh=>Df sh u.cells 0 K
  | none=>False
 | .ptr id i j=>match lk mem id with
  | some (.row _ sz xs)=>opt xs[i]? λx=>match EO P t with
   | some sh=>match P.underlying t with
    | some (.array _ _)=>match sub sh x.cells j with
     | some _=>Df sh x.cells j K
     | none=>Df sh (E6 xs) (i*sz+j) K
    | _=>Df sh x.cells j K
   | none=>False
  | _=>False
 | _=>False
theorem MC{P:Program}{mem:aQ}{t:TypeId}{p:AV}{K:AV->Prop}(h:Ih P mem t p K):∃v,DY P mem t p=some v/\K v:=by
 unfold Ih at h;unfold DY;split at h
 .split at h
  .rename_i sh hsh;obtain⟨v,h1,h2⟩:=l7 h;exact⟨v,by simp[hsh,h1],h2⟩
  .exact h.elim
 .split at h
  .rename_i hid;obtain⟨x,hx,h⟩:=b9.1 h;split at h
   .rename_i sh hsh;split at h
    .rename_i hu;split at h
     .obtain⟨v,h1,h2⟩:=l7 h;exact⟨v,by simp only[hid,hx,hsh,h1],h2⟩
     .rename_i hn;obtain⟨v,h1,h2⟩:=l7 h;exact⟨v,by simp only[hid,hx,hsh,hn,hu,h1],h2⟩
    .obtain⟨v,h1,h2⟩:=l7 h;exact⟨v,by simp only[hid,hx,hsh,h1],h2⟩
   .exact h.elim
  .exact h.elim
 .exact h.elim
def tG(P:Program)(t:TypeId)(f:Nat)(p:AV)(K:AV->Prop):Prop:=
 match P.underlying t with
 | some (.struct fs)=>match fs[f]? with
  | some fd=>match gP P fd.type with
   | some (_+1)=>match p with
    | .ptr id i j=>pX (j+fd.offset) λj=>K (.ptr id i j)
    | .ip u=>match EO P fd.type with
     | some sh=>Df sh u.cells fd.offset λv=>K (.ip v)
     | none=>False
    | _=>False
   | _=>False
  | none=>False
 | _=>False
theorem G4{P:Program}{t:TypeId}{f:Nat}{p:AV}{K:AV->Prop}(h:tG P t f p K):∃v,o9 P t f p=some v/\K v:=by
 unfold tG at h;unfold o9;split at h
 .rename_i fs hu;split at h
  .rename_i fd hfd;split at h
   .rename_i n hn;split at h
    .exact⟨_,by simp[hu,hfd,hn],eE.1 h⟩
    .split at h
     .rename_i sh hsh;obtain⟨v,h1,h2⟩:=l7 h;exact⟨_,by simp[hu,hfd,hn,hsh,h1],h2⟩
     .exact h.elim
    .exact h.elim
   .exact h.elim
  .exact h.elim
 .exact h.elim
def Gc(P:Program)(t:TypeId)(f:Nat)(v:AV)(K:AV->Prop):Prop:=
 match P.underlying t with
 | some (.struct fs)=>match fs[f]? with
  | some fd=>match v with
   | .agg cs=>match EO P fd.type with
    | some sh=>Df sh cs fd.offset K
    | none=>False
   | _=>False
  | none=>False
 | _=>False
theorem Pk{P:Program}{t:TypeId}{f:Nat}{p:AV}{K:AV->Prop}(h:Gc P t f p K):∃v,DT P t f p=some v/\K v:=by
 unfold Gc at h;unfold DT;split at h
 .rename_i fs hu;split at h
  .rename_i fd hfd;split at h
   .split at h
    .rename_i sh hsh;obtain⟨v,h1,h2⟩:=l7 h;exact⟨v,by simp[hu,hfd,hsh,h1],h2⟩
    .exact h.elim
   .exact h.elim
  .exact h.elim
 .exact h.elim
def sG(cl:Bool)(P:Program)(mem:aQ)(t:TypeId)(p ix:AV)(K:AV->Prop):Prop:=
 match ix with
 | .int _ n=>pG (decide (0<=n)) (match P.underlying t with
   | some (.slice e)=>match gP P e with
    | some sz=>match p with
     | .sl id off len=>match lk mem id with
      | some (.row _ _ xs)=>pG (Nat.blt n.toNat len) (opt xs[off+n.toNat]? λx=>pG (Nat.beq x.cells.length sz) (zB cl (off+n.toNat) λm=>K (.ptr id m 0)))
      | _=>False
     | .il sz' xs=>opt xs[n.toNat]? λx=>pG (Nat.beq sz sz') (K (.ip x))
     | _=>False
    | none=>False
   | some (.array m e)=>match gP P e,EO P e with
    | some sz,some sh=>pG (Nat.blt n.toNat m) (match p with
      | .ptr id i j=>match xS mem id i j sz with
       | true=>zB cl (i+n.toNat) λm=>K (.ptr id m 0)
       | false=>zB cl (j+n.toNat*sz) λm=>K (.ptr id i m)
      | .ip u=>Df sh u.cells (n.toNat*sz) λv=>K (.ip v)
      | _=>False)
    | _,_=>False
   | _=>False)
 | _=>False
theorem GR{cl:Bool}{P:Program}{mem:aQ}{t:TypeId}{p ix:AV}{K:AV->Prop}(h:sG cl P mem t p ix K):∃v,pC P mem t p ix=some v/\K v:=by
 unfold sG at h;split at h
 .rename_i kk n;obtain⟨hn,h⟩:=b8.1 h;unfold pC;simp only[hn];split at h
  .rename_i e hu;simp only[hu];split at h
   .rename_i sz hsz;simp only[hsz];split at h
    .rename_i id off len;split at h
     .rename_i hid;obtain⟨h1,h⟩:=b8.1 h;obtain⟨x,hx,h⟩:=b9.1 h;obtain⟨h2,h⟩:=b8.1 h;exact⟨_,by simp[hid,h1,hx,h2],iW.1 h⟩
     .exact h.elim
    .obtain⟨x,hx,h⟩:=b9.1 h;obtain⟨h2,h⟩:=b8.1 h;exact⟨_,by simp[hx,h2],h⟩
    .exact h.elim
   .exact h.elim
  .rename_i m e hu;simp only[hu];split at h
   .rename_i sz sh hsz hsh;simp only[hsz,hsh];obtain⟨h1,h⟩:=b8.1 h;simp only[h1];split at h
    .split at h
     .rename_i he;exact⟨_,by simp[he],iW.1 h⟩
     .rename_i he;exact⟨_,by simp[he],iW.1 h⟩
    .obtain⟨v,h2,h3⟩:=l7 h;exact⟨_,by simp[h2],h3⟩
    .exact h.elim
   .exact h.elim
  .exact h.elim
 .exact h.elim
def Ga(cl:Bool)(P:Program)(t:TypeId)(v ix:AV)(K:AV->Prop):Prop:=
 match ix with
 | .int _ n=>pG (decide (0<=n)) (match P.underlying t with
   | some .string=>match v with
    | .str s=>opt s[n.toNat]? λb=>sW cl .u8 (b.toNat:Int) K
    | _=>False
   | some (.array m e)=>match v with
    | .agg cs=>pG (Nat.blt n.toNat m) (match gP P e,EO P e with
      | some sz,some sh=>Df sh cs (n.toNat*sz) K
      | _,_=>False)
    | _=>False
   | _=>False)
 | _=>False
theorem Oh{cl:Bool}{P:Program}{t:TypeId}{p ix:AV}{K:AV->Prop}(h:Ga cl P t p ix K):∃v,DS P t p ix=some v/\K v:=by
 unfold Ga at h;split at h
 .rename_i kk n;obtain⟨hn,h⟩:=b8.1 h;unfold DS;simp only[hn];split at h
  .rename_i hu;simp only[hu];split at h
   .obtain⟨b,hb,h⟩:=b9.1 h;exact⟨_,by simp[hb],n7.1 h⟩
   .exact h.elim
  .rename_i m e hu;simp only[hu];split at h
   .obtain⟨h1,h⟩:=b8.1 h;simp only[h1];split at h
    .rename_i sz sh hsz hsh;obtain⟨v,h2,h3⟩:=l7 h;exact⟨v,by simp[hsz,hsh,h2],h3⟩
    .exact h.elim
   .exact h.elim
  .exact h.elim
 .exact h.elim
def KU(cl:Bool)(op:BinOp)(k:IntKind)(x y:Int)(K:AV->Prop):Prop:=
 match op with
 | .add=>sW cl k (k.wrap (x+y)) K
 | .sub=>sW cl k (k.wrap (x-y)) K
 | .mul=>sW cl k (k.wrap (x*y)) K
 | .quo=>pG (!decide (y=0)) (sW cl k (k.wrap (x.tdiv y)) K)
 | .rem=>pG (!decide (y=0)) (sW cl k (x.tmod y) K)
 | .and=>sW cl k (bits .and k x y) K
 | .or=>sW cl k (bits .or k x y) K
 | .xor=>sW cl k (bits .xor k x y) K
 | .andNot=>sW cl k (bits .andNot k x y) K
 | .eql=>mP cl (x == y) K
 | .neq=>mP cl (x != y) K
 | .lss=>mP cl (decide (x<y)) K
 | .leq=>mP cl (decide (x<=y)) K
 | .gtr=>mP cl (decide (x>y)) K
 | .geq=>mP cl (decide (x≥y)) K
 | _=>False
theorem Ox{cl:Bool}{op:BinOp}{k:IntKind}{x y:Int}{K:AV->Prop}(h:KU cl op k x y K):∃v,Cy op k x y=some v/\K v:=by
  cases op<;>simp only[KU,n7,nH] at h<;>simp only[Cy]<;>first
    | exact h.elim
    | exact⟨_,rfl,h⟩
    | (obtain⟨h1,h2⟩:=b8.1 h
       have:decide (y=0)=false:=su h1
       rw[this];exact⟨_,rfl,h2⟩)
def KB(cl:Bool)(op:BinOp)(x y:List UInt8)(K:AV->Prop):Prop:=
 match op with
 | .add=>pG (Nat.ble (x.length+y.length) 9223372036854775807) (match cl with
   | true=>CB x y λl=>K (.str l)
   | false=>K (.str (x++y)))
 | .eql=>mP cl (x == y) K
 | .neq=>mP cl (!(x == y)) K
 | .lss=>mP cl (Op.bytesLess x y) K
 | .leq=>mP cl (Op.bytesLess x y || x == y) K
 | .gtr=>mP cl (!(Op.bytesLess x y || x == y)) K
 | .geq=>mP cl (!(Op.bytesLess x y)) K
 | _=>False
theorem N5{cl:Bool}{op:BinOp}{x y:List UInt8}{K:AV->Prop}(h:KB cl op x y K):∃v,C0 op x y=some v/\K v:=by
  cases op<;>simp only[KB,nH] at h<;>simp only[C0]<;>first
    | exact h.elim
    | exact⟨_,rfl,h⟩
    | (obtain⟨h1,h2⟩:=b8.1 h
       have h1':decide ((x.length:Int)+y.length<=9223372036854775807)=true:=by have:=Y5 h1;simp;omega
       rw[h1'];refine⟨_,rfl, ?_⟩;cases cl
       · exact h2
       · exact gM.1 h2)
def KW(cl:Bool)(op:BinOp)(k:IntKind)(x y:Int)(K:AV->Prop):Prop:=
 pG (!decide (y<0)) (match op with
  | .shl=>sW cl k (k.wrap (x*2 ^ (min y.toNat k.bits))) K
  | .shr=>sW cl k (x.fdiv (2 ^ (min y.toNat k.bits))) K
  | _=>False)
theorem Hc{cl:Bool}{op:BinOp}{k:IntKind}{x y:Int}{K:AV->Prop}(h:KW cl op k x y K):∃v,A1 op k x y=some v/\K v:=by
 obtain⟨h1,h2⟩:=b8.1 h;have h1:decide (y<0)=false:=su h1
 unfold A1;rw[h1];cases op<;>simp only[n7] at h2<;>first|exact h2.elim|exact⟨_,rfl,h2⟩
def S3(cl:Bool)(P:Program)(op:BinOp)(t:TypeId)(xo yo:Operand)(x y:AV)(K:AV->Prop):Prop:=
 match x,y with
 | .int k a,.int k' b=>match op with
  | .shl=>KW cl .shl k a b K
  | .shr=>KW cl .shr k a b K
  | _=>pG (decide (k=k')) (KU cl op k a b K)
 | .str a,.str b=>KB cl op a b K
 | .agg a,.agg b=>match P.eqGuardType P.depth t with
  | false=>match op with
   | .eql=>opt (GF P t a b) λr=>mP cl r K
   | .neq=>opt (GF P t a b) λr=>mP cl (!r) K
   | _=>False
  | true=>False
 | x,y=>match op with
  | .eql=>opt (PR P (lU xo || lU yo) t x y) λb=>mP cl b K
  | .neq=>opt (PR P (lU xo || lU yo) t x y) λb=>mP cl (!b) K
  | _=>False
theorem Ul{cl:Bool}{P:Program}{op:BinOp}{t:TypeId}{xo yo:Operand}{x y:AV}{K:AV->Prop}(h:S3 cl P op t xo yo x y K):∃v,PJ P op t xo yo x y=some v/\K v:=by
 unfold S3 at h;unfold PJ;split at h
 .split at h
  .exact Hc h
  .exact Hc h
  .obtain⟨h1,h2⟩:=b8.1 h;simp only[h1];obtain⟨v,h3,h4⟩:=Ox h2;refine⟨v, ?_,h4⟩;cases op<;>first|exact h3|contradiction
 .exact N5 h
 .split at h
  .rename_i hg;simp only[hg];split at h
   .obtain⟨b,hb,h⟩:=b9.1 h;exact⟨.bool b,by simp only[hb],nH.1 h⟩
   .obtain⟨b,hb,h⟩:=b9.1 h;exact⟨.bool (!b),by simp only[hb],nH.1 h⟩
   .exact h.elim
  .exact h.elim
 .rename_i h1 h2 h3;split at h
  .obtain⟨b,hb,h⟩:=b9.1 h;refine⟨.bool b, ?_,nH.1 h⟩;cases x<;>cases y<;>first|(simp only[hb];done)|(exact(h1 _ _ _ _ rfl rfl).elim)|(exact(h2 _ _ rfl rfl).elim)|(exact(h3 _ _ rfl rfl).elim)
  .obtain⟨b,hb,h⟩:=b9.1 h;refine⟨.bool (!b), ?_,nH.1 h⟩;cases x<;>cases y<;>first|(simp only[hb];done)|(exact(h1 _ _ _ _ rfl rfl).elim)|(exact(h2 _ _ rfl rfl).elim)|(exact(h3 _ _ rfl rfl).elim)
  .exact h.elim
def XU(cl:Bool)(op:UnOp)(x:AV)(K:AV->Prop):Prop:=
 match op,x with
 | .neg,.int k n=>sW cl k (k.wrap (0-n)) K
 | .not,.bool b=>mP cl (!b) K
 | _,_=>False
theorem Vq{cl:Bool}{op:UnOp}{x:AV}{K:AV->Prop}(h:XU cl op x K):∃v,Xd op x=some v/\K v:=by
 unfold XU at h;split at h
 .exact⟨_,rfl,n7.1 h⟩
 .exact⟨_,rfl,nH.1 h⟩
 .exact h.elim
def LN(cl:Bool)(P:Program)(mem:aQ)(src dst:TypeId)(x:AV)(K:AV->Prop):Prop:=
 match P.underlying src with
 | none=>False
 | some d=>match P.underlying dst with
  | some (.int k)=>match x with
   | .int _ n=>sW cl k (k.wrap n) K
   | _=>False
  | some .string=>match x with
   | .str s=>K (.str s)
   | .nsl=>match d with
    | .slice e=>match P.underlying e with
     | some (.int .u8)=>K (.str [])
     | _=>False
    | _=>False
   | .il sz xs=>match d with
    | .slice e=>match P.underlying e with
     | some (.int .u8)=>pG (Nat.beq sz 1) (opt (gI xs) λl=>tQ cl l λl=>K (.str l))
     | _=>False
    | _=>False
   | .sl id off len=>match d with
    | .slice e=>match P.underlying e with
     | some (.int .u8)=>match lk mem id with
      | some (.row _ _ xs)=>pG (Nat.ble (off+len) xs.length) (opt (gI ((xs.drop off).take len)) λl=>tQ cl l λl=>K (.str l))
      | _=>False
     | _=>False
    | _=>False
   | _=>False
  | some .unsafePointer=>opt (SF P mem d x) K
  | some (.pointer u)=>opt (Gb P mem d u x) K
  | _=>False
theorem S1{cl:Bool}{P:Program}{mem:aQ}{src dst:TypeId}{x:AV}{K:AV->Prop}(h:LN cl P mem src dst x K):∃v,D6 P mem src dst x=some v/\K v:=by
 unfold LN at h;split at h
 .exact h.elim
 .rename_i d hd;unfold D6;simp only[hd];split at h
  .rename_i k hu;simp only[hu];split at h
   .exact⟨_,rfl,n7.1 h⟩
   .exact h.elim
  .rename_i hu;simp only[hu];split at h
   .exact⟨_,rfl,h⟩
   .split at h
    .split at h
     .rename_i he;exact⟨_,by simp only[he],h⟩
     .exact h.elim
    .exact h.elim
   .split at h
    .split at h
     .rename_i he;obtain⟨h1,h⟩:=b8.1 h;obtain⟨l,h2,h⟩:=b9.1 h;exact⟨_,by simp only[he,h1,h2],i8.1 h⟩
     .exact h.elim
    .exact h.elim
   .split at h
    .split at h
     .rename_i he;split at h
      .rename_i hid;obtain⟨h1,h⟩:=b8.1 h;obtain⟨l,h2,h⟩:=b9.1 h;exact⟨_,by simp only[he,hid,h1,h2],i8.1 h⟩
      .exact h.elim
     .exact h.elim
    .exact h.elim
   .exact h.elim
  .rename_i hu;simp only[hu];obtain⟨v,h1,h⟩:=b9.1 h;exact⟨v,h1,h⟩
  .rename_i u hu;simp only[hu];obtain⟨v,h1,h⟩:=b9.1 h;exact⟨v,h1,h⟩
  .exact h.elim
def GP:List AV->Nat->List AV->(List AV->Prop)->Prop
 | cells,_,[],K=>K cells
 | cells,off,v::r,K=>Kf cells off v λc=>GP c (off+1) r K
theorem EA(off:Nat):∀(vs:List AV) (k:Nat) (cells:List AV) (K:List AV->Prop),GP cells (off+k) vs K↔K ((vs.zipIdx k).foldl (λcs p=>cs.set (off+p.2) p.1) cells)
 | [],k,cells,K=>Iff.rfl
 | v::r,k,cells,K=>by
  simp only[GP,dF,aB7,ZY];have:=EA off r (k+1) (cells.set (off+k) v) K;rw[<-Nat.add_assoc] at this;exact this
def Ja(place:Nat->Option (Nat × Nat)):List AV->List (Nat × AV)->(List AV->Prop)->Prop
 | cells,[],K=>K cells
 | cells,(i,v)::r,K=>match place i with
  | none=>False
  | some (off,size)=>pG (lF v && (Nat.beq v.cells.length size && Nat.ble (off+v.cells.length) cells.length)) (GP cells off v.cells λcs=>Ja place cs r K)
theorem F2{place:Nat->Option (Nat × Nat)}:∀{parts:List (Nat × AV)} {cells:List AV} {K:List AV->Prop},Ja place cells parts K->∃l,zU place cells parts=some l/\K l
 | [],cells,K,h=>⟨cells,by simp[zU],h⟩
 | (i,v)::r,cells,K,h=>by
  simp only[Ja] at h;simp only[zU];split at h
  .exact h.elim
  .rename_i off size hp;obtain⟨h1,h2⟩:=b8.1 h;have h3:=(EA off v.cells 0 cells _).1 h2;obtain⟨l,h4,h5⟩:=F2 h3;exact⟨l,by simp only[hp,h1];exact h4,h5⟩
def Gh(P:Program)(t:TypeId)(parts:List (Nat × AV))(K:AV->Prop):Prop:=
 match P.info? t with
 | some it=>match it.zero with
  | some z=>match xQ z with
   | some (.agg zs)=>match P.underlying t with
    | some (.array _ e)=>match gP P e with
     | some n=>Ja (λi=>some (i*n,n)) zs parts λcs=>K (.agg cs)
     | none=>False
    | some (.struct fs)=>match wI P fs.toList with
     | some places=>Ja (λi=>places[i]?) zs parts λcs=>K (.agg cs)
     | none=>False
    | _=>False
   | _=>False
  | none=>False
 | none=>False
theorem Od{P:Program}{t:TypeId}{parts:List (Nat × AV)}{K:AV->Prop}(h:Gh P t parts K):∃v,Cc P t parts=some v/\K v:=by
 unfold Gh at h;unfold Cc;split at h
 .rename_i it h1;simp only[h1];split at h
  .rename_i z h2;simp only[h2];split at h
   .rename_i zs h3;simp only[h3];split at h
    .rename_i e h4;simp only[h4];split at h
     .rename_i n h5;simp only[h5];obtain⟨l,h6,h7⟩:=F2 h;exact⟨_,by rw[h6],h7⟩
     .exact h.elim
    .rename_i fs h4;simp only[h4];split at h
     .rename_i n h5;simp only[h5];obtain⟨l,h6,h7⟩:=F2 h;exact⟨_,by rw[h6],h7⟩
     .exact h.elim
    .exact h.elim
   .exact h.elim
  .exact h.elim
 .exact h.elim
def j9(d:Nat)(x:Option AV)(K:Nat->Prop):Prop:=
 match x with
 | none=>K d
 | some (.int _ n)=>pG (decide (0<=n)) (K n.toNat)
 | some _=>False
theorem gS{d:Nat}{x:Option AV}{K:Nat->Prop}(h:j9 d x K):∃n,fK d x=some n/\K n:=by
 unfold j9 at h;split at h
 .exact⟨_,rfl,h⟩
 .obtain⟨h1,h2⟩:=b8.1 h;exact⟨_,by simp only[fK,h1],h2⟩
 .exact h.elim
def KQ(cl:Bool)(P:Program)(mem:aQ)(t:TypeId)(x:AV)(lo hi mx:Option AV)(K:AV->Prop):Prop:=
 match P.underlying t with
 | some .string=>match x,mx with
  | .str s,none=>j9 0 lo λl=>j9 s.length hi λh=>pG (Nat.ble l h && Nat.ble h s.length) (tQ cl ((s.drop l).take (h-l)) λs=>K (.str s))
  | _,_=>False
 | some (.slice e)=>match gP P e with
  | none=>False
  | some sz=>match x with
   | .nsl=>j9 0 lo λl=>j9 0 hi λh=>j9 0 mx λm=>pG (Nat.beq l 0 && (Nat.beq h 0 && Nat.beq m 0)) (K .nsl)
   | .il sz' xs=>pG (Nat.beq sz sz') (j9 0 lo λl=>j9 xs.length hi λh=>j9 xs.length mx λm=>pG (Nat.ble l h && (Nat.ble h m && Nat.ble m xs.length)) (tQ cl ((xs.drop l).take (h-l)) λys=>K (.il sz' ys)))
   | .sl id off len=>match lk mem id with
    | some (.row _ sz0 _)=>pG (Nat.beq sz0 sz) (j9 0 lo λl=>j9 len hi λh=>j9 len mx λm=>pG (Nat.ble l h && (Nat.ble h m && Nat.ble m len)) (zB cl (off+l) λo=>zB cl (h-l) λn=>K (.sl id o n)))
    | _=>False
   | _=>False
 | some (.array n e)=>match gP P e with
  | none=>False
  | some sz=>match x with
   | .ptr id i 0=>match lk mem id with
    | some (.row _ _ xs)=>pG (xS mem id i 0 sz && Nat.ble (i+n) xs.length) (j9 0 lo λl=>j9 n hi λh=>j9 n mx λm=>pG (Nat.ble l h && (Nat.ble h m && Nat.ble m n)) (zB cl (i+l) λo=>zB cl (h-l) λn=>K (.sl id o n)))
    | _=>False
   | _=>False
 | _=>False
theorem OK{cl:Bool}{P:Program}{mem:aQ}{t:TypeId}{x:AV}{lo hi mx:Option AV}{K:AV->Prop}(h:KQ cl P mem t x lo hi mx K):∃v,DI P mem t x lo hi mx=some v/\K v:=by
 unfold KQ at h;unfold DI;split at h
 .rename_i hu;simp only[hu];split at h
  .rename_i s;obtain⟨l,h1,h⟩:=gS h;obtain⟨h',h2,h⟩:=gS h;obtain⟨h3,h⟩:=b8.1 h;exact⟨_,by simp only[h1,h2,h3],i8.1 h⟩
  .exact h.elim
 .rename_i e hu;simp only[hu];split at h
  .exact h.elim
  .rename_i sz hsz;simp only[hsz];split at h
   .obtain⟨l,h1,h⟩:=gS h;obtain⟨h',h2,h⟩:=gS h;obtain⟨m,h3,h⟩:=gS h;obtain⟨h4,h⟩:=b8.1 h;simp only[Y1] at h4;obtain⟨a1,a2,a3⟩:=h4;rw[Nat.eq_of_beq_eq_true a1] at h1;rw[Nat.eq_of_beq_eq_true a2] at h2;rw[Nat.eq_of_beq_eq_true a3] at h3;exact⟨_,by simp only[h1,h2,h3],h⟩
   .obtain⟨h0,h⟩:=b8.1 h;obtain⟨l,h1,h⟩:=gS h;obtain⟨h',h2,h⟩:=gS h;obtain⟨m,h3,h⟩:=gS h;obtain⟨h4,h⟩:=b8.1 h;exact⟨_,by simp only[h0,h1,h2,h3,h4],i8.1 h⟩
   .split at h
    .rename_i hid;obtain⟨h0,h⟩:=b8.1 h;obtain⟨l,h1,h⟩:=gS h;obtain⟨h',h2,h⟩:=gS h;obtain⟨m,h3,h⟩:=gS h;obtain⟨h4,h⟩:=b8.1 h;exact⟨_,by simp only[hid,h0,h1,h2,h3,h4],iW.1 (iW.1 h)⟩
    .exact h.elim
   .exact h.elim
 .rename_i n e hu;simp only[hu];split at h
  .exact h.elim
  .rename_i sz hsz;simp only[hsz];split at h
   .split at h
    .rename_i hid;obtain⟨h0,h⟩:=b8.1 h;obtain⟨l,h1,h⟩:=gS h;obtain⟨h',h2,h⟩:=gS h;obtain⟨m,h3,h⟩:=gS h;obtain⟨h4,h⟩:=b8.1 h;exact⟨_,by simp only[hid,h0,h1,h2,h3,h4],iW.1 (iW.1 h)⟩
    .exact h.elim
   .exact h.elim
 .exact h.elim
def KG(sz:Nat)(sh:Option Nat):Nat->List AV->(List AV->Prop)->Prop
 | 0,_,K=>K []
 | m+1,cs,K=>Df sh cs 0 λx=>KG sz sh m (cs.drop sz) λl=>K (x::l)
theorem HY{sz:Nat}{sh:Option Nat}:∀{m:Nat} {cs:List AV} {K:List AV->Prop},KG sz sh m cs K->∃l,Ds sz sh m cs=some l/\K l
 | 0,cs,K,h=>⟨[],rfl,h⟩
 | m+1,cs,K,h=>by
  obtain⟨x,h1,h⟩:=l7 h;obtain⟨l,h2,h⟩:=HY h;exact⟨_,by simp only[Ds,h1,h2],h⟩
def cnt{G:Type}:List G->Nat->Nat
 | [],n=>n
 | _::r,n=>cnt r (n+1)
theorem P2{G:Type}:∀(l:List G) (n:Nat),cnt l n=l.length+n
 | [],n=>by simp[cnt]
 | _::r,n=>by simp[cnt,P2 r];omega
def Rk(P:Program)(t:TypeId)(v:AV)(K:Nat->List AV->Prop):Prop:=
 match P.underlying t with
 | some (.array m e)=>match v with
  | .agg cs=>match gP P e,EO P e with
   | some sz,some sh=>pG (Nat.beq (sh.getD 1) sz && (Nat.blt 0 sz && Nat.beq cs.length (m*sz))) (KG sz sh m cs λxs=>K sz xs)
   | _,_=>False
  | _=>False
 | some _=>pG (lF v) (match v.cells with
  | []=>K 0 []
  | _::_=>pX (cnt v.cells 0) λn=>K n [v])
 | none=>False
theorem OY{P:Program}{t:TypeId}{v:AV}{K:Nat->List AV->Prop}(h:Rk P t v K):∃sz xs,DM P t v=some (sz,xs)/\K sz xs:=by
 unfold Rk at h;unfold DM;split at h
 .rename_i m e hu;simp only[hu];split at h
  .split at h
   .rename_i sz sh h1 h2;simp only[h1,h2];obtain⟨h3,h⟩:=b8.1 h;obtain⟨l,h4,h⟩:=HY h;exact⟨_,_,by simp only[h3,h4],h⟩
   .exact h.elim
  .exact h.elim
 .rename_i d hna hu;simp only[hu];obtain⟨h1,h⟩:=b8.1 h;split at h
  .rename_i hc;refine⟨_,_, ?_,h⟩;cases hd:d<;>first|(exact(hna _ _ hd).elim)|simp only[h1,hc]
  .rename_i c cs hc;have h:=eE.1 h;rw[P2,Zm] at h;refine⟨_,_, ?_,h⟩;cases hd:d<;>first|(exact(hna _ _ hd).elim)|simp only[h1,hc]
 .exact h.elim
def F9(P:Program)(mem:aQ)(nx:Nat)(t:TypeId)(K:AV->aQ->Nat->Prop):Prop:=
 match P.info? t with
 | some i=>match i.zero with
  | some z=>match xQ z with
   | some v=>Rk P t v λsz xs=>pX (nx+1) λn=>K (.ptr nx 0 0) ((nx,.row t sz xs)::mem) n
   | none=>False
  | none=>False
 | none=>False
theorem Pq{P:Program}{mem:aQ}{nx:Nat}{t:TypeId}{K:AV->aQ->Nat->Prop}(h:F9 P mem nx t K):∃v m n,uG P mem nx t=some (v,m,n)/\K v m n:=by
 unfold F9 at h;unfold uG;split at h
 .rename_i i h1;simp only[h1];split at h
  .rename_i z h2;simp only[h2];split at h
   .rename_i v h3;simp only[h3];obtain⟨sz,xs,h4,h⟩:=OY h;exact⟨_,_,_,by simp only[h4],eE.1 h⟩
   .exact h.elim
  .exact h.elim
 .exact h.elim
def T1(P:Program)(mem:aQ)(nx:Nat)(t:TypeId)(v:AV)(K:AV->aQ->Nat->Prop):Prop:=
 Rk P t v λsz xs=>pX (nx+1) λn=>K (.ptr nx 0 0) ((nx,.row t sz xs)::mem) n
theorem VD{P:Program}{mem:aQ}{nx:Nat}{t:TypeId}{v:AV}{K:AV->aQ->Nat->Prop}(h:T1 P mem nx t v K):∃r m n,IC P mem nx t v=some (r,m,n)/\K r m n:=by
 obtain⟨sz,xs,h4,h⟩:=OY h;exact⟨_,_,_,by simp only[IC,h4],eE.1 h⟩
def Ks(sz:Nat):List AV->List (Nat × AV)->(List AV->Prop)->Prop
 | xs,[],K=>K xs
 | xs,(i,v)::r,K=>pG (lF v && (Nat.beq v.cells.length sz && Nat.blt i xs.length)) (Kf xs i v λxs=>Ks sz xs r K)
theorem Ia{sz:Nat}:∀{parts:List (Nat × AV)} {xs:List AV} {K:List AV->Prop},Ks sz xs parts K->∃l,u7 sz xs parts=some l/\K l
 | [],xs,K,h=>⟨xs,by simp[u7],h⟩
 | (i,v)::r,xs,K,h=>by
  obtain⟨h1,h⟩:=b8.1 h;obtain⟨l,h2,h⟩:=Ia (dF.1 h);exact⟨l,by simp only[u7,h1];exact h2,h⟩
def qA(P:Program)(mem:aQ)(nx:Nat)(t:TypeId)(len:Nat)(parts:List (Nat × AV))(K:AV->aQ->Nat->Prop):Prop:=
 match P.underlying t with
 | some (.slice e)=>match gP P e,nE P e with
  | some sz,some z=>pG (lF z && (Nat.beq z.cells.length sz && (Nat.blt 0 sz && Nat.ble (len*sz) 16777216))) (tZ (List.replicate len z) λzs=>Ks sz zs parts λxs=>pX (nx+1) λn=>K (.sl nx 0 len) ((nx,.row e sz xs)::mem) n)
  | _,_=>False
 | _=>False
theorem EK{P:Program}{mem:aQ}{nx:Nat}{t:TypeId}{len:Nat}{parts:List (Nat × AV)}{K:AV->aQ->Nat->Prop}(h:qA P mem nx t len parts K):∃v m n,iP P mem nx t len parts=some (v,m,n)/\K v m n:=by
 unfold qA at h;unfold iP;split at h
 .rename_i e hu;simp only[hu];split at h
  .rename_i sz z h1 h2;simp only[h1,h2];obtain⟨h3,h⟩:=b8.1 h;obtain⟨l,h4,h⟩:=Ia (lD.1 h);exact⟨_,_,_,by simp only[h3,h4],eE.1 h⟩
  .exact h.elim
 .exact h.elim
def p9:List AV->Nat->List AV->(List AV->Prop)->Prop
 | [],_,cs,K=>K cs
 | x::r,0,[],K=>K (x::r)
 | _::r,0,c::cs,K=>p9 r 0 cs λl=>K (c::l)
 | x::r,j+1,cs,K=>p9 r j cs λl=>K (x::l)
theorem vD:∀{xs:List AV} {j:Nat} {cs:List AV} {K:List AV->Prop},p9 xs j cs K↔K (xs.take j++cs++xs.drop (j+cs.length))
 | [],j,cs,K=>by simp[p9]
 | x::r,0,[],K=>by simp[p9]
 | x::r,0,c::cs,K=>by simp[p9,vD]
 | x::r,j+1,cs,K=>by simp[p9,vD,Nat.add_right_comm]
def A4(x:AV)(j:Nat)(cs:List AV)(K:AV->Prop):Prop:=
 match x with
 | .agg xs=>p9 xs j cs λl=>K (.agg l)
 | _=>match cs with
  | [c]=>opt (one c) K
  | _=>False
theorem IQ{x:AV}{j:Nat}{cs:List AV}{K:AV->Prop}(h:A4 x j cs K):∃v,uC x j cs=some v/\K v:=by
 unfold A4 at h;unfold uC;split at h
 .exact⟨_,rfl,vD.1 h⟩
 .rename_i hx;split at h
  .obtain⟨v,h1,h2⟩:=b9.1 h;refine⟨v, ?_,h2⟩;cases x<;>first|exact h1|exact(hx _ rfl).elim
  .exact h.elim
def C6:aQ->(aQ->Prop)->Prop
 | [],K=>K []
 | p::r,K=>C6 r λr=>K (p::r)
theorem x8:∀{m:aQ} {K:aQ->Prop},C6 m K↔K m
 | [],K=>Iff.rfl
 | p::r,K=>by simp only[C6];exact x8
def HG(P:Program)(mem:aQ)(t:TypeId)(p v:AV)(K:aQ->Prop):Prop:=
 match p with
 | .ptr id i j=>match lk mem id with
  | some (.row t' sz' xs)=>opt xs[i]? λx=>match gP P t with
   | some n=>pG (lF v && (Nat.beq v.cells.length n && Nat.ble (j+n) x.cells.length)) (A4 x j v.cells λx'=>Kf xs i x' λxs'=>HX mem id (.row t' sz' xs') K)
   | none=>False
  | _=>False
 | _=>False
theorem Ni{P:Program}{mem:aQ}{t:TypeId}{p v:AV}{K:aQ->Prop}(h:HG P mem t p v K):∃m,AN P mem t p v=some m/\K m:=by
 unfold HG at h;unfold AN;split at h
 .split at h
  .rename_i hid;obtain⟨x,hx,h⟩:=b9.1 h;split at h
   .rename_i n hn;obtain⟨h1,h⟩:=b8.1 h;obtain⟨x',h2,h⟩:=IQ h;exact⟨_,by simp only[hid,hx,hn,h1,h2],lT.1 (dF.1 h)⟩
   .exact h.elim
  .exact h.elim
 .exact h.elim
def Gs(P:Program)(mem:aQ)(t:TypeId)(p v:AV)(K:aQ->Prop):Prop:=
 match P.underlying t with
 | some (.array _ _)=>opt (yX P mem t p v) λm=>C6 m K
 | _=>match v.cells with
  | []=>opt (w6 P mem t p v) K
  | _::_=>HG P mem t p v K
theorem QA{P:Program}{mem:aQ}{t:TypeId}{p v:AV}{K:aQ->Prop}(h:Gs P mem t p v K):∃m,yX P mem t p v=some m/\K m:=by
 unfold Gs at h;split at h
 .obtain⟨m,h1,h⟩:=b9.1 h;exact⟨m,h1,x8.1 h⟩
 .split at h
  .obtain⟨m,h1,h⟩:=b9.1 h;exact⟨m,by simp only[yX,h1],h⟩
  .rename_i hc;obtain⟨m,h1,h⟩:=Ni h;have hz:w6 P mem t p v=none:=by
    unfold w6;split<;>first|rfl|skip
    split<;>first|rfl|skip
    split<;>first|rfl|skip
    rw[hc]
   exact⟨m,by simp only[yX,hz,h1],h⟩
def OI(cl:Bool)(P:Program)(mem:aQ)(nx:Nat)(t:TypeId)(l c:AV)(K:AV->aQ->Nat->Prop):Prop:=
 match l,c with
 | .int _ l,.int _ c=>match P.underlying t with
  | some (.slice e)=>match P.info? e with
   | some i=>match nE P e with
    | some z=>pG (lF z && (Nat.beq z.cells.length i.size && (Nat.blt 0 i.size && (decide (0<=l) && (decide (l<=c) && (decide ((i.bytes:Int)*c<=281474976710656) && decide (c<=9223372036854775807)))))))
      (pX (nx+1) λn=>tQ cl (List.replicate l.toNat z) λzs=>zB cl l.toNat λm=>K (.sl nx 0 m) ((nx,.row e i.size zs)::mem) n)
    | none=>False
   | none=>False
  | _=>False
 | _,_=>False
theorem RK{cl:Bool}{P:Program}{mem:aQ}{nx:Nat}{t:TypeId}{l c:AV}{K:AV->aQ->Nat->Prop}(h:OI cl P mem nx t l c K):∃v m n,Bt P mem nx t l c=some (v,m,n)/\K v m n:=by
 unfold OI at h;split at h
 .unfold Bt;split at h
  .rename_i e hu;simp only[hu];split at h
   .rename_i i h1;simp only[h1];split at h
    .rename_i z h2;simp only[h2];obtain⟨h3,h⟩:=b8.1 h;have h4:=iW.1 (i8.1 (eE.1 h));exact⟨_,_,_,by simp only[h3],h4⟩
    .exact h.elim
   .exact h.elim
  .exact h.elim
 .exact h.elim
def Q5(cl:Bool)(mem:aQ)(sz:Nat)(x:AV)(K:List AV->Prop):Prop:=
 match x with
 | .nsl=>K []
 | .il sz' ys=>pG (Nat.beq sz' sz) (K ys)
 | .sl id off len=>match lk mem id with
  | some (.row _ sz' xs)=>pG (Nat.beq sz' sz && Nat.ble (off+len) xs.length) (tQ cl ((xs.drop off).take len) K)
  | _=>False
 | .str s=>pG (Nat.beq sz 1) (tQ cl (s.map λb=>.int .u8 (b.toNat:Int)) K)
 | _=>False
theorem Ny{cl:Bool}{mem:aQ}{sz:Nat}{x:AV}{K:List AV->Prop}(h:Q5 cl mem sz x K):∃l,M4 mem sz x=some l/\K l:=by
 unfold Q5 at h;unfold M4;split at h
 .exact⟨_,rfl,h⟩
 .obtain⟨h1,h⟩:=b8.1 h;exact⟨_,by simp only[h1],h⟩
 .split at h
  .rename_i hid;obtain⟨h1,h⟩:=b8.1 h;exact⟨_,by simp only[hid,h1],i8.1 h⟩
  .exact h.elim
 .obtain⟨h1,h⟩:=b8.1 h;exact⟨_,by simp only[h1],i8.1 h⟩
 .exact h.elim
def Q0(cl:Bool)(xs ys:List AV)(K:List AV->Prop):Prop:=
 match cl with
 | true=>CB xs ys K
 | false=>K (xs++ys)
theorem IH{cl:Bool}{xs ys:List AV}{K:List AV->Prop}:Q0 cl xs ys K↔K (xs++ys):=by cases cl<;>simp[Q0,gM]
def GK(cl:Bool)(P:Program)(mem:aQ)(nx:Nat)(t u:TypeId)(s x:AV)(K:AV->aQ->Nat->Prop):Prop:=
 match P.underlying t with
 | some (.slice e)=>match P.info? e with
  | some i=>match i.zero with
   | some z=>pG (yZ (P.underlying u) && (Nat.blt 0 i.size && Nat.beq z.cells.size i.size)) (Q5 cl mem i.size x λys=>match s with
     | .nsl=>pG (Nat.ble (ys.length*i.bytes) 140737488355328 && Nat.ble ys.length 9223372036854775807) (zB cl ys.length λl=>pX (nx+1) λn=>K (.sl nx 0 l) ((nx,.row e i.size ys)::mem) n)
     | .sl id 0 len=>match lk mem id with
      | some (.row t' sz' xs)=>pG (Nat.beq t' e && (Nat.beq sz' i.size && (Nat.beq len xs.length && (Nat.ble ((len+ys.length)*i.bytes) 140737488355328 && Nat.ble (len+ys.length) 9223372036854775807))))
        (Q0 cl xs ys λzs=>zB cl (len+ys.length) λl=>pX (nx+1) λn=>CY id mem λm=>K (.sl nx 0 l) ((nx,.row e i.size zs)::m) n)
      | _=>False
     | _=>False)
   | none=>False
  | none=>False
 | _=>False
theorem MP{cl:Bool}{P:Program}{mem:aQ}{nx:Nat}{t u:TypeId}{s x:AV}{K:AV->aQ->Nat->Prop}(h:GK cl P mem nx t u s x K):∃v m n,sB P mem nx t u s x=some (v,m,n)/\K v m n:=by
 unfold GK at h;unfold sB;split at h
 .rename_i e hu;simp only[hu];split at h
  .rename_i i h1;simp only[h1];split at h
   .rename_i z h2;simp only[h2];obtain⟨h3,h⟩:=b8.1 h;simp only[h3];obtain⟨ys,h4,h⟩:=Ny h;simp only[h4];split at h
    .obtain⟨h5,h⟩:=b8.1 h;exact⟨_,_,_,by simp only[h5],eE.1 (iW.1 h)⟩
    .split at h
     .rename_i hid;obtain⟨h5,h⟩:=b8.1 h;exact⟨_,_,_,by simp only[hid,h5],wY.1 (eE.1 (iW.1 (IH.1 h)))⟩
     .exact h.elim
    .exact h.elim
   .exact h.elim
  .exact h.elim
 .exact h.elim
def w7(cl:Bool)(P:Program)(mem:aQ)(nx:Nat)(src dst:TypeId)(x:AV)(K:AV->aQ->Nat->Prop):Prop:=
 match P.underlying src with
 | none=>False
 | some _=>match P.underlying dst with
  | some (.slice e)=>match P.underlying e with
   | some (.int .u8)=>match x with
    | .str s=>pX (nx+1) λn=>zB cl s.length λl=>tQ cl (s.map λb=>.int .u8 (b.toNat:Int)) λxs=>K (.sl nx 0 l) ((nx,.row e 1 xs)::mem) n
    | _=>False
   | _=>False
  | _=>False
theorem JP{cl:Bool}{P:Program}{mem:aQ}{nx:Nat}{src dst:TypeId}{x:AV}{K:AV->aQ->Nat->Prop}(h:w7 cl P mem nx src dst x K):∃v m n,lC P mem nx src dst x=some (v,m,n)/\K v m n:=by
 unfold w7 at h;unfold lC;split at h
 .exact h.elim
 .rename_i d hd;simp only[hd];split at h
  .rename_i e hu;simp only[hu];split at h
   .rename_i he;simp only[he];split at h
    .exact⟨_,_,_,rfl,i8.1 (iW.1 (eE.1 h))⟩
    .exact h.elim
   .exact h.elim
  .exact h.elim
def pM(P:Program)(mem:aQ)(t:TypeId)(m k v:AV)(K:aQ->Prop):Prop:=
 match P.underlying t with
 | some (.map kt _)=>pG (HW P kt k) (match m with
   | .mp id=>match lk mem id with
    | some (.mapb es)=>opt (mE P kt k es 0) λr=>match r with
     | some (i,_)=>opt es[i]? λe=>pG (LH e.1 k) (Kf es i (k,v) λes=>HX mem id (.mapb es) K)
     | none=>CB es [(k,v)] λes=>HX mem id (.mapb es) K
    | _=>False
   | _=>False)
 | _=>False
theorem zH{P:Program}{mem:aQ}{t:TypeId}{m k v:AV}{K:aQ->Prop}(h:pM P mem t m k v K):∃m',mV P mem t m k v=some m'/\K m':=by
 unfold pM at h;unfold mV;split at h
 .rename_i kt et hu;simp only[hu];obtain⟨h1,h⟩:=b8.1 h;simp only[h1];split at h
  .split at h
   .rename_i es hid;simp only[hid];obtain⟨r,h2,h⟩:=b9.1 h;split at h
    .obtain⟨e,h3,h⟩:=b9.1 h;obtain⟨h4,h⟩:=b8.1 h;exact⟨_,by simp only[h2,h3,h4],lT.1 (dF.1 h)⟩
    .exact⟨_,by simp only[h2],lT.1 (gM.1 h)⟩
   .exact h.elim
  .exact h.elim
 .exact h.elim
end Go.Ax
