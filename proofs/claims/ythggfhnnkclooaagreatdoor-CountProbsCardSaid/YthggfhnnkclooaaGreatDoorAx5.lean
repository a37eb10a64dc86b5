/- A part of the proof. -/
import Derived.Test.YthggfhnnkclooaaGreatDoorAx4
set_option linter.unusedSectionVars false
set_option linter.unusedVariables false
set_option linter.unusedSimpArgs false
set_option maxRecDepth 1000000
set_option maxHeartbeats 16000000
namespace Go.Ax
open Go
def Qc(b:Bool)(p q:Prop):Prop:=
 match b with
 | true=>p
 | false=>q
def p8(b:Bool)(p:Prop):Prop:=
 match b with
 | true=>p
 | false=>False
def opt{G:Type}(o:Option G)(K:G->Prop):Prop:=
 match o with
 | some a=>K a
 | none=>False
theorem aL{b:Bool}{p q:Prop}(h1:b=true->p)(h2:b=false->q):Qc b p q:=by
 cases b
 .exact h2 rfl
 .exact h1 rfl
theorem cJ{b:Bool}{p:Prop}:p8 b p↔b=true/\p:=by cases b<;>simp[p8]
theorem aK{b:Bool}{p:Prop}(h:b=true)(hp:p):p8 b p:=cJ.2 ⟨h,hp⟩
theorem cR{G:Type}{o:Option G}{K:G->Prop}:opt o K↔∃a,o=some a/\K a:=by cases o<;>simp[opt]
theorem aC{G:Type}{o:Option G}{K:G->Prop}{a:G}(h:o=some a)(hk:K a):opt o K:=cR.2 ⟨a,h,hk⟩
def pS(n:Nat)(K:Nat->Prop):Prop:=
 match n with
 | 0=>K 0
 | Nat.succ m=>K (Nat.succ m)
theorem eE{n:Nat}{K:Nat->Prop}:pS n K↔K n:=by cases n<;>rfl
def Vc(n:Int)(K:Int->Prop):Prop:=
 match n with
 | .ofNat m=>pS m λm=>K (.ofNat m)
 | .negSucc m=>pS m λm=>K (.negSucc m)
theorem OS{n:Int}{K:Int->Prop}:Vc n K↔K n:=by cases n<;>simp[Vc,eE]
def Ak(cl:Bool)(n:Nat)(K:Nat->Prop):Prop:=
 match cl with
 | true=>pS n K
 | false=>K n
theorem jA{cl:Bool}{n:Nat}{K:Nat->Prop}:Ak cl n K↔K n:=by cases cl<;>simp[Ak,eE]
def sV(cl:Bool)(k:IntKind)(n:Int)(K:AV->Prop):Prop:=
 match cl with
 | true=>Vc n λn=>K (.int k n)
 | false=>K (.int k n)
theorem n8{cl:Bool}{k:IntKind}{n:Int}{K:AV->Prop}:sV cl k n K↔K (.int k n):=by cases cl<;>simp[sV,OS]
def mR(cl:Bool)(b:Bool)(K:AV->Prop):Prop:=
 match cl with
 | true=>match b with
  | true=>K (.bool true)
  | false=>K (.bool false)
 | false=>K (.bool b)
theorem nE{cl:Bool}{b:Bool}{K:AV->Prop}:mR cl b K↔K (.bool b):=by cases cl<;>cases b<;>rfl
def AG{G:Type}:List G->(List G->Prop)->Prop
 | [],K=>K []
 | x::r,K=>AG r λl=>K (x::l)
theorem nH{G:Type}:∀{l:List G} {K:List G->Prop},AG l K↔K l
 | [],K=>Iff.rfl
 | x::r,K=>by simp[AG,nH]
def tW{G:Type}(cl:Bool)(l:List G)(K:List G->Prop):Prop:=
 match cl with
 | true=>AG l K
 | false=>K l
theorem jK{G:Type}{cl:Bool}{l:List G}{K:List G->Prop}:tW cl l K↔K l:=by cases cl<;>simp[tW,nH]
def Cw{G:Type}:List G->List G->(List G->Prop)->Prop
 | [],ys,K=>K ys
 | x::r,ys,K=>Cw r ys λl=>K (x::l)
theorem jB{G:Type}:∀{xs ys:List G} {K:List G->Prop},Cw xs ys K↔K (xs++ys)
 | [],ys,K=>Iff.rfl
 | x::r,ys,K=>by simp[Cw,jB]
def Jj{G:Type}:List G->Nat->G->(List G->Prop)->Prop
 | [],_,_,K=>K []
 | _::r,0,v,K=>K (v::r)
 | x::r,i+1,v,K=>Jj r i v λl=>K (x::l)
theorem cY{G:Type}:∀{xs:List G} {i:Nat} {v:G} {K:List G->Prop},Jj xs i v K↔K (xs.set i v)
 | [],_,_,K=>Iff.rfl
 | _::r,0,v,K=>Iff.rfl
 | x::r,i+1,v,K=>by simp[Jj,cY]
def Fu{G:Type}:Nat->List G->(List G->Prop)->Prop
 | 0,_,K=>K []
 | _+1,[],_=>False
 | n+1,c::r,K=>Fu n r λl=>K (c::l)
theorem Fk{G:Type}:∀{n:Nat} {l:List G} {K:List G->Prop},Fu n l K↔(l.take n).length=n/\K (l.take n)
 | 0,l,K=>by simp[Fu]
 | n+1,[],K=>by simp[Fu]
 | n+1,c::r,K=>by simp[Fu,Fk]
def Rf{G:Type}:List (Nat × G)->Nat->G->(List (Nat × G)->Prop)->Prop
 | [],j,v,K=>K [(j,v)]
 | (i,u)::r,j,v,K=>match Nat.beq i j with
  | true=>K ((i,v)::r)
  | false=>Rf r j v λl=>K ((i,u)::l)
theorem sO{G:Type}:∀{l:List (Nat × G)} {j:Nat} {v:G} {K:List (Nat × G)->Prop},Rf l j v K↔K (up l j v)
 | [],j,v,K=>Iff.rfl
 | (i,u)::r,j,v,K=>by
  simp only[Rf,up];cases Nat.beq i j
  .exact sO
  .exact Iff.rfl
def FS:Nat->aR->(aR->Prop)->Prop
 | _,[],K=>K []
 | id,(k,u)::r,K=>match Nat.beq k id with
  | true=>K r
  | false=>FS id r λl=>K ((k,u)::l)
theorem wT:∀{id:Nat} {m:aR} {K:aR->Prop},FS id m K↔K (drop id m)
 | _,[],K=>Iff.rfl
 | id,(k,u)::r,K=>by
  simp only[FS,drop];cases Nat.beq k id
  .exact wT
  .exact Iff.rfl
def mL(C:List (Nat × AV))(sl:List (Nat × AV))(x:Operand)(K:AV->Prop):Prop:=
 match x with
 | .tmp t=>opt (lk sl t) K
 | .const (.string s)=>AG s.data.toList λl=>K (.str l)
 | .const v=>opt (Ae v) K
 | .global g=>opt (lk C g) λv=>K (.ip v)
 | .func f=>K (.fn (.func f) [] [])
theorem cL{C:List (Nat × AV)}{s:St}{x:Operand}{K:AV->Prop}(h:mL C s.sl x K):∃v,ev C s x=some v/\K v:=by
 unfold mL at h;split at h
 .exact cR.1 h
 .exact⟨_,rfl,nH.1 h⟩
 .exact cR.1 h
 .obtain⟨v,h1,h2⟩:=cR.1 h;exact⟨_,by simp[ev,h1],h2⟩
 .exact⟨_,rfl,h⟩
def Im(C:List (Nat × AV))(sl:List (Nat × AV)):List Operand->(List AV->Prop)->Prop
 | [],K=>K []
 | x::r,K=>mL C sl x λa=>Im C sl r λl=>K (a::l)
theorem pR{C:List (Nat × AV)}{s:St}:∀{xs:List Operand} {K:List AV->Prop},Im C s.sl xs K->∃l,Dw C s xs=some l/\K l
 | [],K,h=>⟨[],rfl,h⟩
 | x::r,K,h=>by
  obtain⟨a,h1,h2⟩:=cL h;obtain⟨l,h3,h4⟩:=pR h2;exact⟨a::l,by simp[Dw,h1,h3],h4⟩
def Ap(C:List (Nat × AV))(sl:List (Nat × AV)):List (Nat × Operand)->(List (Nat × AV)->Prop)->Prop
 | [],K=>K []
 | (i,x)::r,K=>mL C sl x λa=>Ap C sl r λl=>K ((i,a)::l)
theorem vO{C:List (Nat × AV)}{s:St}:∀{xs:List (Nat × Operand)} {K:List (Nat × AV)->Prop},Ap C s.sl xs K->∃l,jN C s xs=some l/\K l
 | [],K,h=>⟨[],rfl,h⟩
 | (i,x)::r,K,h=>by
  obtain⟨a,h1,h2⟩:=cL h;obtain⟨l,h3,h4⟩:=vO h2;exact⟨(i,a)::l,by simp[jN,h1,h3],h4⟩
def Gh(C:List (Nat × AV))(sl:List (Nat × AV))(x:Option Operand)(K:Option AV->Prop):Prop:=
 match x with
 | none=>K none
 | some x=>mL C sl x λa=>K (some a)
theorem BT{C:List (Nat × AV)}{s:St}{x:Option Operand}{K:Option AV->Prop}(h:Gh C s.sl x K):∃l,xK C s x=some l/\K l:=by
 cases x with
 | none=>exact⟨none,rfl,h⟩
 | some x=>
  obtain⟨a,h1,h2⟩:=cL h;exact⟨some a,by simp[xK,h1],h2⟩
def Dg(sh:Option Nat)(cs:List AV)(j:Nat)(K:AV->Prop):Prop:=
 match sh with
 | none=>opt cs[j]? λc=>opt (one c) K
 | some n=>Fu n (cs.drop j) λl=>K (.agg l)
theorem l9{sh:Option Nat}{cs:List AV}{j:Nat}{K:AV->Prop}(h:Dg sh cs j K):∃v,sub sh cs j=some v/\K v:=by
 unfold Dg at h;split at h
 .obtain⟨c,h1,h2⟩:=cR.1 h;obtain⟨v,h3,h4⟩:=cR.1 h2;exact⟨v,by simp[sub,h1,h3],h4⟩
 .obtain⟨h1,h2⟩:=Fk.1 h;refine⟨_, ?_,h2⟩;simp only[sub];rw[h1];simp
def Lu(P:Program)(mem:aR)(t:TypeId)(p:AV)(K:AV->Prop):Prop:=
 match p with
 | .ip u=>match Eb P t with
  | some sh=>Dg sh u.cells 0 K
  | none=>False
 | .ptr id i j=>match lk mem id with
  | some (.row _ sz xs)=>opt xs[i]? λx=>match Eb P t with
   | some sh=>match P.underlying t with
    | some (.array _ _)=>match sub sh x.cells j with
     | some _=>Dg sh x.cells j K
     | none=>Dg sh (E5 xs) (i*sz+j) K
    | _=>Dg sh x.cells j K
   | none=>False
  | _=>False
 | _=>False
theorem K6{P:Program}{mem:aR}{t:TypeId}{p:AV}{K:AV->Prop}(h:Lu P mem t p K):∃v,D8 P mem t p=some v/\K v:=by
 unfold Lu at h;unfold D8;split at h
 .split at h
  .rename_i sh hsh;obtain⟨v,h1,h2⟩:=l9 h;exact⟨v,by simp[hsh,h1],h2⟩
  .exact h.elim
 .split at h
  .rename_i hid;obtain⟨x,hx,h⟩:=cR.1 h;split at h
   .rename_i sh hsh;split at h
    .rename_i hu;split at h
     .obtain⟨v,h1,h2⟩:=l9 h;exact⟨v,by simp only[hid,hx,hsh,h1],h2⟩
     .rename_i hn;obtain⟨v,h1,h2⟩:=l9 h;exact⟨v,by simp only[hid,hx,hsh,hn,hu,h1],h2⟩
    .obtain⟨v,h1,h2⟩:=l9 h;exact⟨v,by simp only[hid,hx,hsh,h1],h2⟩
   .exact h.elim
  .exact h.elim
 .exact h.elim
def yF(P:Program)(t:TypeId)(f:Nat)(p:AV)(K:AV->Prop):Prop:=
 match P.underlying t with
 | some (.struct fs)=>match fs[f]? with
  | some fd=>match iM P fd.type with
   | some (_+1)=>match p with
    | .ptr id i j=>pS (j+fd.offset) λj=>K (.ptr id i j)
    | .ip u=>match Eb P fd.type with
     | some sh=>Dg sh u.cells fd.offset λv=>K (.ip v)
     | none=>False
    | _=>False
   | _=>False
  | none=>False
 | _=>False
theorem GT{P:Program}{t:TypeId}{f:Nat}{p:AV}{K:AV->Prop}(h:yF P t f p K):∃v,pV P t f p=some v/\K v:=by
 unfold yF at h;unfold pV;split at h
 .rename_i fs hu;split at h
  .rename_i fd hfd;split at h
   .rename_i n hn;split at h
    .exact⟨_,by simp[hu,hfd,hn],eE.1 h⟩
    .split at h
     .rename_i sh hsh;obtain⟨v,h1,h2⟩:=l9 h;exact⟨_,by simp[hu,hfd,hn,hsh,h1],h2⟩
     .exact h.elim
    .exact h.elim
   .exact h.elim
  .exact h.elim
 .exact h.elim
def KA(P:Program)(t:TypeId)(f:Nat)(v:AV)(K:AV->Prop):Prop:=
 match P.underlying t with
 | some (.struct fs)=>match fs[f]? with
  | some fd=>match v with
   | .agg cs=>match Eb P fd.type with
    | some sh=>Dg sh cs fd.offset K
    | none=>False
   | _=>False
  | none=>False
 | _=>False
theorem QV{P:Program}{t:TypeId}{f:Nat}{p:AV}{K:AV->Prop}(h:KA P t f p K):∃v,DE P t f p=some v/\K v:=by
 unfold KA at h;unfold DE;split at h
 .rename_i fs hu;split at h
  .rename_i fd hfd;split at h
   .split at h
    .rename_i sh hsh;obtain⟨v,h1,h2⟩:=l9 h;exact⟨v,by simp[hu,hfd,hsh,h1],h2⟩
    .exact h.elim
   .exact h.elim
  .exact h.elim
 .exact h.elim
def yW(cl:Bool)(P:Program)(mem:aR)(t:TypeId)(p ix:AV)(K:AV->Prop):Prop:=
 match ix with
 | .int _ n=>p8 (decide (0<=n)) (match P.underlying t with
   | some (.slice e)=>match iM P e with
    | some sz=>match p with
     | .sl id off len=>match lk mem id with
      | some (.row _ _ xs)=>p8 (Nat.blt n.toNat len) (opt xs[off+n.toNat]? λx=>p8 (Nat.beq x.cells.length sz) (Ak cl (off+n.toNat) λm=>K (.ptr id m 0)))
      | _=>False
     | .il sz' xs=>opt xs[n.toNat]? λx=>p8 (Nat.beq sz sz') (K (.ip x))
     | _=>False
    | none=>False
   | some (.array m e)=>match iM P e,Eb P e with
    | some sz,some sh=>p8 (Nat.blt n.toNat m) (match p with
      | .ptr id i j=>match xS mem id i j sz with
       | true=>Ak cl (i+n.toNat) λm=>K (.ptr id m 0)
       | false=>Ak cl (j+n.toNat*sz) λm=>K (.ptr id i m)
      | .ip u=>Dg sh u.cells (n.toNat*sz) λv=>K (.ip v)
      | _=>False)
    | _,_=>False
   | _=>False)
 | _=>False
theorem Gn{cl:Bool}{P:Program}{mem:aR}{t:TypeId}{p ix:AV}{K:AV->Prop}(h:yW cl P mem t p ix K):∃v,pK P mem t p ix=some v/\K v:=by
 unfold yW at h;split at h
 .rename_i kk n;obtain⟨hn,h⟩:=cJ.1 h;unfold pK;simp only[hn];split at h
  .rename_i e hu;simp only[hu];split at h
   .rename_i sz hsz;simp only[hsz];split at h
    .rename_i id off len;split at h
     .rename_i hid;obtain⟨h1,h⟩:=cJ.1 h;obtain⟨x,hx,h⟩:=cR.1 h;obtain⟨h2,h⟩:=cJ.1 h;exact⟨_,by simp[hid,h1,hx,h2],jA.1 h⟩
     .exact h.elim
    .obtain⟨x,hx,h⟩:=cR.1 h;obtain⟨h2,h⟩:=cJ.1 h;exact⟨_,by simp[hx,h2],h⟩
    .exact h.elim
   .exact h.elim
  .rename_i m e hu;simp only[hu];split at h
   .rename_i sz sh hsz hsh;simp only[hsz,hsh];obtain⟨h1,h⟩:=cJ.1 h;simp only[h1];split at h
    .split at h
     .rename_i he;exact⟨_,by simp[he],jA.1 h⟩
     .rename_i he;exact⟨_,by simp[he],jA.1 h⟩
    .obtain⟨v,h2,h3⟩:=l9 h;exact⟨_,by simp[h2],h3⟩
    .exact h.elim
   .exact h.elim
  .exact h.elim
 .exact h.elim
def KJ(cl:Bool)(P:Program)(t:TypeId)(v ix:AV)(K:AV->Prop):Prop:=
 match ix with
 | .int _ n=>p8 (decide (0<=n)) (match P.underlying t with
   | some .string=>match v with
    | .str s=>opt s[n.toNat]? λb=>sV cl .u8 (b.toNat:Int) K
    | _=>False
   | some (.array m e)=>match v with
    | .agg cs=>p8 (Nat.blt n.toNat m) (match iM P e,Eb P e with
      | some sz,some sh=>Dg sh cs (n.toNat*sz) K
      | _,_=>False)
    | _=>False
   | _=>False)
 | _=>False
theorem Ov{cl:Bool}{P:Program}{t:TypeId}{p ix:AV}{K:AV->Prop}(h:KJ cl P t p ix K):∃v,C0 P t p ix=some v/\K v:=by
 unfold KJ at h;split at h
 .rename_i kk n;obtain⟨hn,h⟩:=cJ.1 h;unfold C0;simp only[hn];split at h
  .rename_i hu;simp only[hu];split at h
   .obtain⟨b,hb,h⟩:=cR.1 h;exact⟨_,by simp[hb],n8.1 h⟩
   .exact h.elim
  .rename_i m e hu;simp only[hu];split at h
   .obtain⟨h1,h⟩:=cJ.1 h;simp only[h1];split at h
    .rename_i sz sh hsz hsh;obtain⟨v,h2,h3⟩:=l9 h;exact⟨v,by simp[hsz,hsh,h2],h3⟩
    .exact h.elim
   .exact h.elim
  .exact h.elim
 .exact h.elim
def J8(cl:Bool)(op:BinOp)(k:IntKind)(x y:Int)(K:AV->Prop):Prop:=
 match op with
 | .add=>sV cl k (k.wrap (x+y)) K
 | .sub=>sV cl k (k.wrap (x-y)) K
 | .mul=>sV cl k (k.wrap (x*y)) K
 | .quo=>p8 (!decide (y=0)) (sV cl k (k.wrap (x.tdiv y)) K)
 | .rem=>p8 (!decide (y=0)) (sV cl k (x.tmod y) K)
 | .and=>sV cl k (bits .and k x y) K
 | .or=>sV cl k (bits .or k x y) K
 | .xor=>sV cl k (bits .xor k x y) K
 | .andNot=>sV cl k (bits .andNot k x y) K
 | .eql=>mR cl (x == y) K
 | .neq=>mR cl (x != y) K
 | .lss=>mR cl (decide (x<y)) K
 | .leq=>mR cl (decide (x<=y)) K
 | .gtr=>mR cl (decide (x>y)) K
 | .geq=>mR cl (decide (x≥y)) K
 | _=>False
theorem QW{cl:Bool}{op:BinOp}{k:IntKind}{x y:Int}{K:AV->Prop}(h:J8 cl op k x y K):∃v,Cp op k x y=some v/\K v:=by
  cases op<;>simp only[J8,n8,nE] at h<;>simp only[Cp]<;>first
    | exact h.elim
    | exact⟨_,rfl,h⟩
    | (obtain⟨h1,h2⟩:=cJ.1 h
       have:decide (y=0)=false:=su h1
       rw[this];exact⟨_,rfl,h2⟩)
def Ky(cl:Bool)(op:BinOp)(x y:List UInt8)(K:AV->Prop):Prop:=
 match op with
 | .add=>p8 (Nat.ble (x.length+y.length) 9223372036854775807) (match cl with
   | true=>Cw x y λl=>K (.str l)
   | false=>K (.str (x++y)))
 | .eql=>mR cl (x == y) K
 | .neq=>mR cl (!(x == y)) K
 | .lss=>mR cl (Op.bytesLess x y) K
 | .leq=>mR cl (Op.bytesLess x y || x == y) K
 | .gtr=>mR cl (!(Op.bytesLess x y || x == y)) K
 | .geq=>mR cl (!(Op.bytesLess x y)) K
 | _=>False
theorem QY{cl:Bool}{op:BinOp}{x y:List UInt8}{K:AV->Prop}(h:Ky cl op x y K):∃v,Dx op x y=some v/\K v:=by
  cases op<;>simp only[Ky,nE] at h<;>simp only[Dx]<;>first
    | exact h.elim
    | exact⟨_,rfl,h⟩
    | (obtain⟨h1,h2⟩:=cJ.1 h
       have h1':decide ((x.length:Int)+y.length<=9223372036854775807)=true:=by have:=Y9 h1;simp;omega
       rw[h1'];refine⟨_,rfl, ?_⟩;cases cl
       · exact h2
       · exact jB.1 h2)
def Jm(cl:Bool)(op:BinOp)(k:IntKind)(x y:Int)(K:AV->Prop):Prop:=
 p8 (!decide (y<0)) (match op with
  | .shl=>sV cl k (k.wrap (x*2 ^ (min y.toNat k.bits))) K
  | .shr=>sV cl k (x.fdiv (2 ^ (min y.toNat k.bits))) K
  | _=>False)
theorem Jd{cl:Bool}{op:BinOp}{k:IntKind}{x y:Int}{K:AV->Prop}(h:Jm cl op k x y K):∃v,BP op k x y=some v/\K v:=by
 obtain⟨h1,h2⟩:=cJ.1 h;have h1:decide (y<0)=false:=su h1
 unfold BP;rw[h1];cases op<;>simp only[n8] at h2<;>first|exact h2.elim|exact⟨_,rfl,h2⟩
def Vi(cl:Bool)(P:Program)(op:BinOp)(t:TypeId)(xo yo:Operand)(x y:AV)(K:AV->Prop):Prop:=
 match x,y with
 | .int k a,.int k' b=>match op with
  | .shl=>Jm cl .shl k a b K
  | .shr=>Jm cl .shr k a b K
  | _=>p8 (decide (k=k')) (J8 cl op k a b K)
 | .str a,.str b=>Ky cl op a b K
 | .agg a,.agg b=>match P.eqGuardType P.depth t with
  | false=>match op with
   | .eql=>opt (KB P t a b) λr=>mR cl r K
   | .neq=>opt (KB P t a b) λr=>mR cl (!r) K
   | _=>False
  | true=>False
 | x,y=>match op with
  | .eql=>opt (OD P (lZ xo || lZ yo) t x y) λb=>mR cl b K
  | .neq=>opt (OD P (lZ xo || lZ yo) t x y) λb=>mR cl (!b) K
  | _=>False
theorem UO{cl:Bool}{P:Program}{op:BinOp}{t:TypeId}{xo yo:Operand}{x y:AV}{K:AV->Prop}(h:Vi cl P op t xo yo x y K):∃v,O9 P op t xo yo x y=some v/\K v:=by
 unfold Vi at h;unfold O9;split at h
 .split at h
  .exact Jd h
  .exact Jd h
  .obtain⟨h1,h2⟩:=cJ.1 h;simp only[h1];obtain⟨v,h3,h4⟩:=QW h2;refine⟨v, ?_,h4⟩;cases op<;>first|exact h3|contradiction
 .exact QY h
 .split at h
  .rename_i hg;simp only[hg];split at h
   .obtain⟨b,hb,h⟩:=cR.1 h;exact⟨.bool b,by simp only[hb],nE.1 h⟩
   .obtain⟨b,hb,h⟩:=cR.1 h;exact⟨.bool (!b),by simp only[hb],nE.1 h⟩
   .exact h.elim
  .exact h.elim
 .rename_i h1 h2 h3;split at h
  .obtain⟨b,hb,h⟩:=cR.1 h;refine⟨.bool b, ?_,nE.1 h⟩;cases x<;>cases y<;>first|(simp only[hb];done)|(exact(h1 _ _ _ _ rfl rfl).elim)|(exact(h2 _ _ rfl rfl).elim)|(exact(h3 _ _ rfl rfl).elim)
  .obtain⟨b,hb,h⟩:=cR.1 h;refine⟨.bool (!b), ?_,nE.1 h⟩;cases x<;>cases y<;>first|(simp only[hb];done)|(exact(h1 _ _ _ _ rfl rfl).elim)|(exact(h2 _ _ rfl rfl).elim)|(exact(h3 _ _ rfl rfl).elim)
  .exact h.elim
def YC(cl:Bool)(op:UnOp)(x:AV)(K:AV->Prop):Prop:=
 match op,x with
 | .neg,.int k n=>sV cl k (k.wrap (0-n)) K
 | .not,.bool b=>mR cl (!b) K
 | _,_=>False
theorem WR{cl:Bool}{op:UnOp}{x:AV}{K:AV->Prop}(h:YC cl op x K):∃v,Xc op x=some v/\K v:=by
 unfold YC at h;split at h
 .exact⟨_,rfl,n8.1 h⟩
 .exact⟨_,rfl,nE.1 h⟩
 .exact h.elim
def PQ(cl:Bool)(P:Program)(mem:aR)(src dst:TypeId)(x:AV)(K:AV->Prop):Prop:=
 match P.underlying src with
 | none=>False
 | some d=>match P.underlying dst with
  | some (.int k)=>match x with
   | .int _ n=>sV cl k (k.wrap n) K
   | _=>False
  | some .string=>match x with
   | .str s=>K (.str s)
   | .nsl=>match d with
    | .slice e=>match P.underlying e with
     | some (.int .u8)=>K (.str [])
     | _=>False
    | _=>False
   | .il sz xs=>match d with
    | .slice e=>match P.underlying e with
     | some (.int .u8)=>p8 (Nat.beq sz 1) (opt (g5 xs) λl=>tW cl l λl=>K (.str l))
     | _=>False
    | _=>False
   | .sl id off len=>match d with
    | .slice e=>match P.underlying e with
     | some (.int .u8)=>match lk mem id with
      | some (.row _ _ xs)=>p8 (Nat.ble (off+len) xs.length) (opt (g5 ((xs.drop off).take len)) λl=>tW cl l λl=>K (.str l))
      | _=>False
     | _=>False
    | _=>False
   | _=>False
  | some .unsafePointer=>opt (Ql P mem d x) K
  | some (.pointer u)=>opt (HA P mem d u x) K
  | _=>False
theorem SF{cl:Bool}{P:Program}{mem:aR}{src dst:TypeId}{x:AV}{K:AV->Prop}(h:PQ cl P mem src dst x K):∃v,D1 P mem src dst x=some v/\K v:=by
 unfold PQ at h;split at h
 .exact h.elim
 .rename_i d hd;unfold D1;simp only[hd];split at h
  .rename_i k hu;simp only[hu];split at h
   .exact⟨_,rfl,n8.1 h⟩
   .exact h.elim
  .rename_i hu;simp only[hu];split at h
   .exact⟨_,rfl,h⟩
   .split at h
    .split at h
     .rename_i he;exact⟨_,by simp only[he],h⟩
     .exact h.elim
    .exact h.elim
   .split at h
    .split at h
     .rename_i he;obtain⟨h1,h⟩:=cJ.1 h;obtain⟨l,h2,h⟩:=cR.1 h;exact⟨_,by simp only[he,h1,h2],jK.1 h⟩
     .exact h.elim
    .exact h.elim
   .split at h
    .split at h
     .rename_i he;split at h
      .rename_i hid;obtain⟨h1,h⟩:=cJ.1 h;obtain⟨l,h2,h⟩:=cR.1 h;exact⟨_,by simp only[he,hid,h1,h2],jK.1 h⟩
      .exact h.elim
     .exact h.elim
    .exact h.elim
   .exact h.elim
  .rename_i hu;simp only[hu];obtain⟨v,h1,h⟩:=cR.1 h;exact⟨v,h1,h⟩
  .rename_i u hu;simp only[hu];obtain⟨v,h1,h⟩:=cR.1 h;exact⟨v,h1,h⟩
  .exact h.elim
def GM:List AV->Nat->List AV->(List AV->Prop)->Prop
 | cells,_,[],K=>K cells
 | cells,off,v::r,K=>Jj cells off v λc=>GM c (off+1) r K
theorem Cq(off:Nat):∀(vs:List AV) (k:Nat) (cells:List AV) (K:List AV->Prop),GM cells (off+k) vs K↔K ((vs.zipIdx k).foldl (λcs p=>cs.set (off+p.2) p.1) cells)
 | [],k,cells,K=>Iff.rfl
 | v::r,k,cells,K=>by
  simp only[GM,cY,aB5,Zh];have:=Cq off r (k+1) (cells.set (off+k) v) K;rw[<-Nat.add_assoc] at this;exact this
def JR(place:Nat->Option (Nat × Nat)):List AV->List (Nat × AV)->(List AV->Prop)->Prop
 | cells,[],K=>K cells
 | cells,(i,v)::r,K=>match place i with
  | none=>False
  | some (off,size)=>p8 (lM v && (Nat.beq v.cells.length size && Nat.ble (off+v.cells.length) cells.length)) (GM cells off v.cells λcs=>JR place cs r K)
theorem HC{place:Nat->Option (Nat × Nat)}:∀{parts:List (Nat × AV)} {cells:List AV} {K:List AV->Prop},JR place cells parts K->∃l,AY place cells parts=some l/\K l
 | [],cells,K,h=>⟨cells,by simp[AY],h⟩
 | (i,v)::r,cells,K,h=>by
  simp only[JR] at h;simp only[AY];split at h
  .exact h.elim
  .rename_i off size hp;obtain⟨h1,h2⟩:=cJ.1 h;have h3:=(Cq off v.cells 0 cells _).1 h2;obtain⟨l,h4,h5⟩:=HC h3;exact⟨l,by simp only[hp,h1];exact h4,h5⟩
def Ji(P:Program)(t:TypeId)(parts:List (Nat × AV))(K:AV->Prop):Prop:=
 match P.info? t with
 | some it=>match it.zero with
  | some z=>match Ae z with
   | some (.agg zs)=>match P.underlying t with
    | some (.array _ e)=>match iM P e with
     | some n=>JR (λi=>some (i*n,n)) zs parts λcs=>K (.agg cs)
     | none=>False
    | some (.struct fs)=>match wN P fs.toList with
     | some places=>JR (λi=>places[i]?) zs parts λcs=>K (.agg cs)
     | none=>False
    | _=>False
   | _=>False
  | none=>False
 | none=>False
theorem Pb{P:Program}{t:TypeId}{parts:List (Nat × AV)}{K:AV->Prop}(h:Ji P t parts K):∃v,Dv P t parts=some v/\K v:=by
 unfold Ji at h;unfold Dv;split at h
 .rename_i it h1;simp only[h1];split at h
  .rename_i z h2;simp only[h2];split at h
   .rename_i zs h3;simp only[h3];split at h
    .rename_i e h4;simp only[h4];split at h
     .rename_i n h5;simp only[h5];obtain⟨l,h6,h7⟩:=HC h;exact⟨_,by rw[h6],h7⟩
     .exact h.elim
    .rename_i fs h4;simp only[h4];split at h
     .rename_i n h5;simp only[h5];obtain⟨l,h6,h7⟩:=HC h;exact⟨_,by rw[h6],h7⟩
     .exact h.elim
    .exact h.elim
   .exact h.elim
  .exact h.elim
 .exact h.elim
def kG(d:Nat)(x:Option AV)(K:Nat->Prop):Prop:=
 match x with
 | none=>K d
 | some (.int _ n)=>p8 (decide (0<=n)) (K n.toNat)
 | some _=>False
theorem iE{d:Nat}{x:Option AV}{K:Nat->Prop}(h:kG d x K):∃n,fY d x=some n/\K n:=by
 unfold kG at h;split at h
 .exact⟨_,rfl,h⟩
 .obtain⟨h1,h2⟩:=cJ.1 h;exact⟨_,by simp only[fY,h1],h2⟩
 .exact h.elim
def KX(cl:Bool)(P:Program)(mem:aR)(t:TypeId)(x:AV)(lo hi mx:Option AV)(K:AV->Prop):Prop:=
 match P.underlying t with
 | some .string=>match x,mx with
  | .str s,none=>kG 0 lo λl=>kG s.length hi λh=>p8 (Nat.ble l h && Nat.ble h s.length) (tW cl ((s.drop l).take (h-l)) λs=>K (.str s))
  | _,_=>False
 | some (.slice e)=>match iM P e with
  | none=>False
  | some sz=>match x with
   | .nsl=>kG 0 lo λl=>kG 0 hi λh=>kG 0 mx λm=>p8 (Nat.beq l 0 && (Nat.beq h 0 && Nat.beq m 0)) (K .nsl)
   | .il sz' xs=>p8 (Nat.beq sz sz') (kG 0 lo λl=>kG xs.length hi λh=>kG xs.length mx λm=>p8 (Nat.ble l h && (Nat.ble h m && Nat.ble m xs.length)) (tW cl ((xs.drop l).take (h-l)) λys=>K (.il sz' ys)))
   | .sl id off len=>match lk mem id with
    | some (.row _ sz0 _)=>p8 (Nat.beq sz0 sz) (kG 0 lo λl=>kG len hi λh=>kG len mx λm=>p8 (Nat.ble l h && (Nat.ble h m && Nat.ble m len)) (Ak cl (off+l) λo=>Ak cl (h-l) λn=>K (.sl id o n)))
    | _=>False
   | _=>False
 | some (.array n e)=>match iM P e with
  | none=>False
  | some sz=>match x with
   | .ptr id i 0=>match lk mem id with
    | some (.row _ _ xs)=>p8 (xS mem id i 0 sz && Nat.ble (i+n) xs.length) (kG 0 lo λl=>kG n hi λh=>kG n mx λm=>p8 (Nat.ble l h && (Nat.ble h m && Nat.ble m n)) (Ak cl (i+l) λo=>Ak cl (h-l) λn=>K (.sl id o n)))
    | _=>False
   | _=>False
 | _=>False
theorem Oi{cl:Bool}{P:Program}{mem:aR}{t:TypeId}{x:AV}{lo hi mx:Option AV}{K:AV->Prop}(h:KX cl P mem t x lo hi mx K):∃v,EE P mem t x lo hi mx=some v/\K v:=by
 unfold KX at h;unfold EE;split at h
 .rename_i hu;simp only[hu];split at h
  .rename_i s;obtain⟨l,h1,h⟩:=iE h;obtain⟨h',h2,h⟩:=iE h;obtain⟨h3,h⟩:=cJ.1 h;exact⟨_,by simp only[h1,h2,h3],jK.1 h⟩
  .exact h.elim
 .rename_i e hu;simp only[hu];split at h
  .exact h.elim
  .rename_i sz hsz;simp only[hsz];split at h
   .obtain⟨l,h1,h⟩:=iE h;obtain⟨h',h2,h⟩:=iE h;obtain⟨m,h3,h⟩:=iE h;obtain⟨h4,h⟩:=cJ.1 h;simp only[Y6] at h4;obtain⟨a1,a2,a3⟩:=h4;rw[Nat.eq_of_beq_eq_true a1] at h1;rw[Nat.eq_of_beq_eq_true a2] at h2;rw[Nat.eq_of_beq_eq_true a3] at h3;exact⟨_,by simp only[h1,h2,h3],h⟩
   .obtain⟨h0,h⟩:=cJ.1 h;obtain⟨l,h1,h⟩:=iE h;obtain⟨h',h2,h⟩:=iE h;obtain⟨m,h3,h⟩:=iE h;obtain⟨h4,h⟩:=cJ.1 h;exact⟨_,by simp only[h0,h1,h2,h3,h4],jK.1 h⟩
   .split at h
    .rename_i hid;obtain⟨h0,h⟩:=cJ.1 h;obtain⟨l,h1,h⟩:=iE h;obtain⟨h',h2,h⟩:=iE h;obtain⟨m,h3,h⟩:=iE h;obtain⟨h4,h⟩:=cJ.1 h;exact⟨_,by simp only[hid,h0,h1,h2,h3,h4],jA.1 (jA.1 h)⟩
    .exact h.elim
   .exact h.elim
 .rename_i n e hu;simp only[hu];split at h
  .exact h.elim
  .rename_i sz hsz;simp only[hsz];split at h
   .split at h
    .rename_i hid;obtain⟨h0,h⟩:=cJ.1 h;obtain⟨l,h1,h⟩:=iE h;obtain⟨h',h2,h⟩:=iE h;obtain⟨m,h3,h⟩:=iE h;obtain⟨h4,h⟩:=cJ.1 h;exact⟨_,by simp only[hid,h0,h1,h2,h3,h4],jA.1 (jA.1 h)⟩
    .exact h.elim
   .exact h.elim
 .exact h.elim
def Jx(sz:Nat)(sh:Option Nat):Nat->List AV->(List AV->Prop)->Prop
 | 0,_,K=>K []
 | m+1,cs,K=>Dg sh cs 0 λx=>Jx sz sh m (cs.drop sz) λl=>K (x::l)
theorem IW{sz:Nat}{sh:Option Nat}:∀{m:Nat} {cs:List AV} {K:List AV->Prop},Jx sz sh m cs K->∃l,EI sz sh m cs=some l/\K l
 | 0,cs,K,h=>⟨[],rfl,h⟩
 | m+1,cs,K,h=>by
  obtain⟨x,h1,h⟩:=l9 h;obtain⟨l,h2,h⟩:=IW h;exact⟨_,by simp only[EI,h1,h2],h⟩
def cnt{G:Type}:List G->Nat->Nat
 | [],n=>n
 | _::r,n=>cnt r (n+1)
theorem Po{G:Type}:∀(l:List G) (n:Nat),cnt l n=l.length+n
 | [],n=>by simp[cnt]
 | _::r,n=>by simp[cnt,Po r];omega
def Q0(P:Program)(t:TypeId)(v:AV)(K:Nat->List AV->Prop):Prop:=
 match P.underlying t with
 | some (.array m e)=>match v with
  | .agg cs=>match iM P e,Eb P e with
   | some sz,some sh=>p8 (Nat.beq (sh.getD 1) sz && (Nat.blt 0 sz && Nat.beq cs.length (m*sz))) (Jx sz sh m cs λxs=>K sz xs)
   | _,_=>False
  | _=>False
 | some _=>p8 (lM v) (match v.cells with
  | []=>K 0 []
  | _::_=>pS (cnt v.cells 0) λn=>K n [v])
 | none=>False
theorem O8{P:Program}{t:TypeId}{v:AV}{K:Nat->List AV->Prop}(h:Q0 P t v K):∃sz xs,D4 P t v=some (sz,xs)/\K sz xs:=by
 unfold Q0 at h;unfold D4;split at h
 .rename_i m e hu;simp only[hu];split at h
  .split at h
   .rename_i sz sh h1 h2;simp only[h1,h2];obtain⟨h3,h⟩:=cJ.1 h;obtain⟨l,h4,h⟩:=IW h;exact⟨_,_,by simp only[h3,h4],h⟩
   .exact h.elim
  .exact h.elim
 .rename_i d hna hu;simp only[hu];obtain⟨h1,h⟩:=cJ.1 h;split at h
  .rename_i hc;refine⟨_,_, ?_,h⟩;cases hd:d<;>first|(exact(hna _ _ hd).elim)|simp only[h1,hc]
  .rename_i c cs hc;have h:=eE.1 h;rw[Po,Zs] at h;refine⟨_,_, ?_,h⟩;cases hd:d<;>first|(exact(hna _ _ hd).elim)|simp only[h1,hc]
 .exact h.elim
def KW(P:Program)(mem:aR)(nx:Nat)(t:TypeId)(K:AV->aR->Nat->Prop):Prop:=
 match P.info? t with
 | some i=>match i.zero with
  | some z=>match Ae z with
   | some v=>Q0 P t v λsz xs=>pS (nx+1) λn=>K (.ptr nx 0 0) ((nx,.row t sz xs)::mem) n
   | none=>False
  | none=>False
 | none=>False
theorem PX{P:Program}{mem:aR}{nx:Nat}{t:TypeId}{K:AV->aR->Nat->Prop}(h:KW P mem nx t K):∃v m n,uS P mem nx t=some (v,m,n)/\K v m n:=by
 unfold KW at h;unfold uS;split at h
 .rename_i i h1;simp only[h1];split at h
  .rename_i z h2;simp only[h2];split at h
   .rename_i v h3;simp only[h3];obtain⟨sz,xs,h4,h⟩:=O8 h;exact⟨_,_,_,by simp only[h4],eE.1 h⟩
   .exact h.elim
  .exact h.elim
 .exact h.elim
def Wx(P:Program)(mem:aR)(nx:Nat)(t:TypeId)(v:AV)(K:AV->aR->Nat->Prop):Prop:=
 Q0 P t v λsz xs=>pS (nx+1) λn=>K (.ptr nx 0 0) ((nx,.row t sz xs)::mem) n
theorem Ui{P:Program}{mem:aR}{nx:Nat}{t:TypeId}{v:AV}{K:AV->aR->Nat->Prop}(h:Wx P mem nx t v K):∃r m n,If P mem nx t v=some (r,m,n)/\K r m n:=by
 obtain⟨sz,xs,h4,h⟩:=O8 h;exact⟨_,_,_,by simp only[If,h4],eE.1 h⟩
def Ku(sz:Nat):List AV->List (Nat × AV)->(List AV->Prop)->Prop
 | xs,[],K=>K xs
 | xs,(i,v)::r,K=>p8 (lM v && (Nat.beq v.cells.length sz && Nat.blt i xs.length)) (Jj xs i v λxs=>Ku sz xs r K)
theorem IJ{sz:Nat}:∀{parts:List (Nat × AV)} {xs:List AV} {K:List AV->Prop},Ku sz xs parts K->∃l,vD sz xs parts=some l/\K l
 | [],xs,K,h=>⟨xs,by simp[vD],h⟩
 | (i,v)::r,xs,K,h=>by
  obtain⟨h1,h⟩:=cJ.1 h;obtain⟨l,h2,h⟩:=IJ (cY.1 h);exact⟨l,by simp only[vD,h1];exact h2,h⟩
def vV(P:Program)(mem:aR)(nx:Nat)(t:TypeId)(len:Nat)(parts:List (Nat × AV))(K:AV->aR->Nat->Prop):Prop:=
 match P.underlying t with
 | some (.slice e)=>match iM P e,oI P e with
  | some sz,some z=>p8 (lM z && (Nat.beq z.cells.length sz && (Nat.blt 0 sz && Nat.ble (len*sz) 16777216))) (AG (List.replicate len z) λzs=>Ku sz zs parts λxs=>pS (nx+1) λn=>K (.sl nx 0 len) ((nx,.row e sz xs)::mem) n)
  | _,_=>False
 | _=>False
theorem Ef{P:Program}{mem:aR}{nx:Nat}{t:TypeId}{len:Nat}{parts:List (Nat × AV)}{K:AV->aR->Nat->Prop}(h:vV P mem nx t len parts K):∃v m n,iZ P mem nx t len parts=some (v,m,n)/\K v m n:=by
 unfold vV at h;unfold iZ;split at h
 .rename_i e hu;simp only[hu];split at h
  .rename_i sz z h1 h2;simp only[h1,h2];obtain⟨h3,h⟩:=cJ.1 h;obtain⟨l,h4,h⟩:=IJ (nH.1 h);exact⟨_,_,_,by simp only[h3,h4],eE.1 h⟩
  .exact h.elim
 .exact h.elim
def qS:List AV->Nat->List AV->(List AV->Prop)->Prop
 | [],_,cs,K=>K cs
 | x::r,0,[],K=>K (x::r)
 | _::r,0,c::cs,K=>qS r 0 cs λl=>K (c::l)
 | x::r,j+1,cs,K=>qS r j cs λl=>K (x::l)
theorem t8:∀{xs:List AV} {j:Nat} {cs:List AV} {K:List AV->Prop},qS xs j cs K↔K (xs.take j++cs++xs.drop (j+cs.length))
 | [],j,cs,K=>by simp[qS]
 | x::r,0,[],K=>by simp[qS]
 | x::r,0,c::cs,K=>by simp[qS,t8]
 | x::r,j+1,cs,K=>by simp[qS,t8,Nat.add_right_comm]
def BO(x:AV)(j:Nat)(cs:List AV)(K:AV->Prop):Prop:=
 match x with
 | .agg xs=>qS xs j cs λl=>K (.agg l)
 | _=>match cs with
  | [c]=>opt (one c) K
  | _=>False
theorem He{x:AV}{j:Nat}{cs:List AV}{K:AV->Prop}(h:BO x j cs K):∃v,vQ x j cs=some v/\K v:=by
 unfold BO at h;unfold vQ;split at h
 .exact⟨_,rfl,t8.1 h⟩
 .rename_i hx;split at h
  .obtain⟨v,h1,h2⟩:=cR.1 h;refine⟨v, ?_,h2⟩;cases x<;>first|exact h1|exact(hx _ rfl).elim
  .exact h.elim
def Ck:aR->(aR->Prop)->Prop
 | [],K=>K []
 | p::r,K=>Ck r λr=>K (p::r)
theorem yH:∀{m:aR} {K:aR->Prop},Ck m K↔K m
 | [],K=>Iff.rfl
 | p::r,K=>by simp only[Ck];exact yH
def G7(P:Program)(mem:aR)(t:TypeId)(p v:AV)(K:aR->Prop):Prop:=
 match p with
 | .ptr id i j=>match lk mem id with
  | some (.row t' sz' xs)=>opt xs[i]? λx=>match iM P t with
   | some n=>p8 (lM v && (Nat.beq v.cells.length n && Nat.ble (j+n) x.cells.length)) (BO x j v.cells λx'=>Jj xs i x' λxs'=>Rf mem id (.row t' sz' xs') K)
   | none=>False
  | _=>False
 | _=>False
theorem NR{P:Program}{mem:aR}{t:TypeId}{p v:AV}{K:aR->Prop}(h:G7 P mem t p v K):∃m,AJ P mem t p v=some m/\K m:=by
 unfold G7 at h;unfold AJ;split at h
 .split at h
  .rename_i hid;obtain⟨x,hx,h⟩:=cR.1 h;split at h
   .rename_i n hn;obtain⟨h1,h⟩:=cJ.1 h;obtain⟨x',h2,h⟩:=He h;exact⟨_,by simp only[hid,hx,hn,h1,h2],sO.1 (cY.1 h)⟩
   .exact h.elim
  .exact h.elim
 .exact h.elim
def Kg(P:Program)(mem:aR)(t:TypeId)(p v:AV)(K:aR->Prop):Prop:=
 match P.underlying t with
 | some (.array _ _)=>opt (yK P mem t p v) λm=>Ck m K
 | _=>match v.cells with
  | []=>opt (xD P mem t p v) K
  | _::_=>G7 P mem t p v K
theorem OB{P:Program}{mem:aR}{t:TypeId}{p v:AV}{K:aR->Prop}(h:Kg P mem t p v K):∃m,yK P mem t p v=some m/\K m:=by
 unfold Kg at h;split at h
 .obtain⟨m,h1,h⟩:=cR.1 h;exact⟨m,h1,yH.1 h⟩
 .split at h
  .obtain⟨m,h1,h⟩:=cR.1 h;exact⟨m,by simp only[yK,h1],h⟩
  .rename_i hc;obtain⟨m,h1,h⟩:=NR h;have hz:xD P mem t p v=none:=by
    unfold xD;split<;>first|rfl|skip
    split<;>first|rfl|skip
    split<;>first|rfl|skip
    rw[hc]
   exact⟨m,by simp only[yK,hz,h1],h⟩
def DD(cl:Bool)(P:Program)(mem:aR)(nx:Nat)(t:TypeId)(l c:AV)(K:AV->aR->Nat->Prop):Prop:=
 match l,c with
 | .int _ l,.int _ c=>match P.underlying t with
  | some (.slice e)=>match P.info? e with
   | some i=>match oI P e with
    | some z=>p8 (lM z && (Nat.beq z.cells.length i.size && (Nat.blt 0 i.size && (decide (0<=l) && (decide (l<=c) && (decide ((i.bytes:Int)*c<=281474976710656) && decide (c<=9223372036854775807)))))))
      (pS (nx+1) λn=>tW cl (List.replicate l.toNat z) λzs=>Ak cl l.toNat λm=>K (.sl nx 0 m) ((nx,.row e i.size zs)::mem) n)
    | none=>False
   | none=>False
  | _=>False
 | _,_=>False
theorem S6{cl:Bool}{P:Program}{mem:aR}{nx:Nat}{t:TypeId}{l c:AV}{K:AV->aR->Nat->Prop}(h:DD cl P mem nx t l c K):∃v m n,B5 P mem nx t l c=some (v,m,n)/\K v m n:=by
 unfold DD at h;split at h
 .unfold B5;split at h
  .rename_i e hu;simp only[hu];split at h
   .rename_i i h1;simp only[h1];split at h
    .rename_i z h2;simp only[h2];obtain⟨h3,h⟩:=cJ.1 h;have h4:=jA.1 (jK.1 (eE.1 h));exact⟨_,_,_,by simp only[h3],h4⟩
    .exact h.elim
   .exact h.elim
  .exact h.elim
 .exact h.elim
def Qz(cl:Bool)(mem:aR)(sz:Nat)(x:AV)(K:List AV->Prop):Prop:=
 match x with
 | .nsl=>K []
 | .il sz' ys=>p8 (Nat.beq sz' sz) (K ys)
 | .sl id off len=>match lk mem id with
  | some (.row _ sz' xs)=>p8 (Nat.beq sz' sz && Nat.ble (off+len) xs.length) (tW cl ((xs.drop off).take len) K)
  | _=>False
 | .str s=>p8 (Nat.beq sz 1) (tW cl (s.map λb=>.int .u8 (b.toNat:Int)) K)
 | _=>False
theorem PG{cl:Bool}{mem:aR}{sz:Nat}{x:AV}{K:List AV->Prop}(h:Qz cl mem sz x K):∃l,L8 mem sz x=some l/\K l:=by
 unfold Qz at h;unfold L8;split at h
 .exact⟨_,rfl,h⟩
 .obtain⟨h1,h⟩:=cJ.1 h;exact⟨_,by simp only[h1],h⟩
 .split at h
  .rename_i hid;obtain⟨h1,h⟩:=cJ.1 h;exact⟨_,by simp only[hid,h1],jK.1 h⟩
  .exact h.elim
 .obtain⟨h1,h⟩:=cJ.1 h;exact⟨_,by simp only[h1],jK.1 h⟩
 .exact h.elim
def RV(cl:Bool)(xs ys:List AV)(K:List AV->Prop):Prop:=
 match cl with
 | true=>Cw xs ys K
 | false=>K (xs++ys)
theorem Ih{cl:Bool}{xs ys:List AV}{K:List AV->Prop}:RV cl xs ys K↔K (xs++ys):=by cases cl<;>simp[RV,jB]
def G6(cl:Bool)(P:Program)(mem:aR)(nx:Nat)(t u:TypeId)(s x:AV)(K:AV->aR->Nat->Prop):Prop:=
 match P.underlying t with
 | some (.slice e)=>match P.info? e with
  | some i=>match i.zero with
   | some z=>p8 (yL (P.underlying u) && (Nat.blt 0 i.size && Nat.beq z.cells.size i.size)) (Qz cl mem i.size x λys=>match s with
     | .nsl=>p8 (Nat.ble (ys.length*i.bytes) 140737488355328 && Nat.ble ys.length 9223372036854775807) (Ak cl ys.length λl=>pS (nx+1) λn=>K (.sl nx 0 l) ((nx,.row e i.size ys)::mem) n)
     | .sl id 0 len=>match lk mem id with
      | some (.row t' sz' xs)=>p8 (Nat.beq t' e && (Nat.beq sz' i.size && (Nat.beq len xs.length && (Nat.ble ((len+ys.length)*i.bytes) 140737488355328 && Nat.ble (len+ys.length) 9223372036854775807))))
        (RV cl xs ys λzs=>Ak cl (len+ys.length) λl=>pS (nx+1) λn=>FS id mem λm=>K (.sl nx 0 l) ((nx,.row e i.size zs)::m) n)
      | _=>False
     | _=>False)
   | none=>False
  | none=>False
 | _=>False
theorem Nf{cl:Bool}{P:Program}{mem:aR}{nx:Nat}{t u:TypeId}{s x:AV}{K:AV->aR->Nat->Prop}(h:G6 cl P mem nx t u s x K):∃v m n,sF P mem nx t u s x=some (v,m,n)/\K v m n:=by
 unfold G6 at h;unfold sF;split at h
 .rename_i e hu;simp only[hu];split at h
  .rename_i i h1;simp only[h1];split at h
   .rename_i z h2;simp only[h2];obtain⟨h3,h⟩:=cJ.1 h;simp only[h3];obtain⟨ys,h4,h⟩:=PG h;simp only[h4];split at h
    .obtain⟨h5,h⟩:=cJ.1 h;exact⟨_,_,_,by simp only[h5],eE.1 (jA.1 h)⟩
    .split at h
     .rename_i hid;obtain⟨h5,h⟩:=cJ.1 h;exact⟨_,_,_,by simp only[hid,h5],wT.1 (eE.1 (jA.1 (Ih.1 h)))⟩
     .exact h.elim
    .exact h.elim
   .exact h.elim
  .exact h.elim
 .exact h.elim
def BL(cl:Bool)(P:Program)(mem:aR)(nx:Nat)(src dst:TypeId)(x:AV)(K:AV->aR->Nat->Prop):Prop:=
 match P.underlying src with
 | none=>False
 | some _=>match P.underlying dst with
  | some (.slice e)=>match P.underlying e with
   | some (.int .u8)=>match x with
    | .str s=>pS (nx+1) λn=>Ak cl s.length λl=>tW cl (s.map λb=>.int .u8 (b.toNat:Int)) λxs=>K (.sl nx 0 l) ((nx,.row e 1 xs)::mem) n
    | _=>False
   | _=>False
  | _=>False
theorem JZ{cl:Bool}{P:Program}{mem:aR}{nx:Nat}{src dst:TypeId}{x:AV}{K:AV->aR->Nat->Prop}(h:BL cl P mem nx src dst x K):∃v m n,lQ P mem nx src dst x=some (v,m,n)/\K v m n:=by
 unfold BL at h;unfold lQ;split at h
 .exact h.elim
 .rename_i d hd;simp only[hd];split at h
  .rename_i e hu;simp only[hu];split at h
   .rename_i he;simp only[he];split at h
    .exact⟨_,_,_,rfl,jK.1 (jA.1 (eE.1 h))⟩
    .exact h.elim
   .exact h.elim
  .exact h.elim
def sA(P:Program)(mem:aR)(t:TypeId)(m k v:AV)(K:aR->Prop):Prop:=
 match P.underlying t with
 | some (.map kt _)=>p8 (KO P kt k) (match m with
   | .mp id=>match lk mem id with
    | some (.mapb es)=>opt (tG P kt k es 0) λr=>match r with
     | some (i,_)=>opt es[i]? λe=>p8 (Lp e.1 k) (Jj es i (k,v) λes=>Rf mem id (.mapb es) K)
     | none=>Cw es [(k,v)] λes=>Rf mem id (.mapb es) K
    | _=>False
   | _=>False)
 | _=>False
theorem AI{P:Program}{mem:aR}{t:TypeId}{m k v:AV}{K:aR->Prop}(h:sA P mem t m k v K):∃m',m7 P mem t m k v=some m'/\K m':=by
 unfold sA at h;unfold m7;split at h
 .rename_i kt et hu;simp only[hu];obtain⟨h1,h⟩:=cJ.1 h;simp only[h1];split at h
  .split at h
   .rename_i es hid;simp only[hid];obtain⟨r,h2,h⟩:=cR.1 h;split at h
    .obtain⟨e,h3,h⟩:=cR.1 h;obtain⟨h4,h⟩:=cJ.1 h;exact⟨_,by simp only[h2,h3,h4],sO.1 (cY.1 h)⟩
    .exact⟨_,by simp only[h2],sO.1 (jB.1 h)⟩
   .exact h.elim
  .exact h.elim
 .exact h.elim
end Go.Ax
