/- A part of the proof. -/
import Derived.Test.YtidjhgajglebnaaGreatDoorAx4
set_option linter.unusedVariables false
set_option linter.unusedSimpArgs false
set_option maxRecDepth 1000000
set_option maxHeartbeats 16000000
namespace Go.Ax
open Go
variable{Z parts:List (Nat × AV)}{P:Program}{n nx j sz d len:Nat}{t u:TypeId}{K:AV->aP->Nat->Prop}{mem:aP}{v p:AV}{V:Type}{xs cs ys:List AV}{s:St}{cl b:Bool}{sh:Option Nat}{op:BinOp}
def Sj(b:Bool)(p q:Prop):Prop:=
 match b with
 | true=>p
 | false=>q
def sF(b:Bool)(p:Prop):Prop:=
 match b with
 | true=>p
 | false=>False
def opt{V:Type}(o:Option V)(K:V->Prop):Prop:=
 match o with
 | some a=>K a
 | none=>False
theorem aI{p q:Prop}(h1:b=true->p)(h2:b=false->q):Sj b p q:=by
 cases b
 .exact h2 rfl
 .exact h1 rfl
theorem cR{p:Prop}:sF b p↔b=true/\p:=by cases b<;>simp[sF]
theorem aN{p:Prop}(h:b=true)(hp:p):sF b p:=cR.2 ⟨h,hp⟩
theorem dF{o:Option V}{K:V->Prop}:opt o K↔∃a,o=some a/\K a:=by cases o<;>simp[opt]
theorem aB{o:Option V}{K:V->Prop}{a:V}(h:o=some a)(hk:K a):opt o K:=dF.2 ⟨a,h,hk⟩
def tX(n:Nat)(K:Nat->Prop):Prop:=
 match n with
 | 0=>K 0
 | Nat.succ m=>K (Nat.succ m)
theorem fM{K:Nat->Prop}:tX n K↔K n:=by cases n<;>rfl
def Wb(n:Int)(K:Int->Prop):Prop:=
 match n with
 | .ofNat m=>tX m λm=>K (.ofNat m)
 | .negSucc m=>tX m λm=>K (.negSucc m)
theorem Rp{n:Int}{K:Int->Prop}:Wb n K↔K n:=by cases n<;>simp[Wb,fM]
def B0(cl:Bool)(n:Nat)(K:Nat->Prop):Prop:=
 match cl with
 | true=>tX n K
 | false=>K n
theorem jP{K:Nat->Prop}:B0 cl n K↔K n:=by cases cl<;>simp[B0,fM]
def vL(cl:Bool)(k:IntKind)(n:Int)(K:AV->Prop):Prop:=
 match cl with
 | true=>Wb n λn=>K (.int k n)
 | false=>K (.int k n)
theorem pY{k:IntKind}{n:Int}{K:AV->Prop}:vL cl k n K↔K (.int k n):=by cases cl<;>simp[vL,Rp]
def oI(cl:Bool)(b:Bool)(K:AV->Prop):Prop:=
 match cl with
 | true=>match b with
  | true=>K (.bool true)
  | false=>K (.bool false)
 | false=>K (.bool b)
theorem o8{K:AV->Prop}:oI cl b K↔K (.bool b):=by cases cl<;>cases b<;>rfl
def DF{V:Type}:List V->(List V->Prop)->Prop
 | [],K=>K []
 | x::r,K=>DF r λl=>K (x::l)
theorem qZ{V:Type}:∀{l:List V} {K:List V->Prop},DF l K↔K l
 | [],K=>Iff.rfl
 | x::r,K=>by simp[DF,qZ]
def v6{V:Type}(cl:Bool)(l:List V)(K:List V->Prop):Prop:=
 match cl with
 | true=>DF l K
 | false=>K l
theorem jU{l:List V}{K:List V->Prop}:v6 cl l K↔K l:=by cases cl<;>simp[v6,qZ]
def GN{V:Type}:List V->List V->(List V->Prop)->Prop
 | [],ys,K=>K ys
 | x::r,ys,K=>GN r ys λl=>K (x::l)
theorem iM{V:Type}:∀{xs ys:List V} {K:List V->Prop},GN xs ys K↔K (xs++ys)
 | [],ys,K=>Iff.rfl
 | x::r,ys,K=>by simp[GN,iM]
def LG{V:Type}:List V->Nat->V->(List V->Prop)->Prop
 | [],_,_,K=>K []
 | _::r,0,v,K=>K (v::r)
 | x::r,i+1,v,K=>LG r i v λl=>K (x::l)
theorem dE{V:Type}:∀{xs:List V} {i:Nat} {v:V} {K:List V->Prop},LG xs i v K↔K (xs.set i v)
 | [],_,_,K=>Iff.rfl
 | _::r,0,v,K=>Iff.rfl
 | x::r,i+1,v,K=>by simp[LG,dE]
def Gs{V:Type}:Nat->List V->(List V->Prop)->Prop
 | 0,_,K=>K []
 | _+1,[],_=>False
 | n+1,c::r,K=>Gs n r λl=>K (c::l)
theorem HY{V:Type}:∀{n:Nat} {l:List V} {K:List V->Prop},Gs n l K↔(l.take n).length=n/\K (l.take n)
 | 0,l,K=>by simp[Gs]
 | n+1,[],K=>by simp[Gs]
 | n+1,c::r,K=>by simp[Gs,HY]
def Uh{V:Type}:List (Nat × V)->Nat->V->(List (Nat × V)->Prop)->Prop
 | [],j,v,K=>K [(j,v)]
 | (i,u)::r,j,v,K=>match Nat.beq i j with
  | true=>K ((i,v)::r)
  | false=>Uh r j v λl=>K ((i,u)::l)
theorem uV{V:Type}:∀{l:List (Nat × V)} {j:Nat} {v:V} {K:List (Nat × V)->Prop},Uh l j v K↔K (up l j v)
 | [],j,v,K=>Iff.rfl
 | (i,u)::r,j,v,K=>by
  simp only[Uh,up];cases Nat.beq i j
  .exact uV
  .exact Iff.rfl
def Gi:Nat->aP->(aP->Prop)->Prop
 | _,[],K=>K []
 | id,(k,u)::r,K=>match Nat.beq k id with
  | true=>K r
  | false=>Gi id r λl=>K ((k,u)::l)
theorem y6:∀{id:Nat} {m:aP} {K:aP->Prop},Gi id m K↔K (drop id m)
 | _,[],K=>Iff.rfl
 | id,(k,u)::r,K=>by
  simp only[Gi,drop];cases Nat.beq k id
  .exact y6
  .exact Iff.rfl
def oY(Z:List (Nat × AV))(sl:List (Nat × AV))(x:Operand)(K:AV->Prop):Prop:=
 match x with
 | .tmp t=>opt (lk sl t) K
 | .const (.string s)=>DF s.data.toList λl=>K (.str l)
 | .const v=>opt (Bz v) K
 | .global g=>opt (lk Z g) λv=>K (.ip v)
 | .func f=>K (.fn (.func f) [] [])
theorem cZ{x:Operand}{K:AV->Prop}(h:oY Z s.sl x K):∃v,ev Z s x=some v/\K v:=by
 unfold oY at h;split at h
 .exact dF.1 h
 .exact⟨_,rfl,qZ.1 h⟩
 .exact dF.1 h
 .obtain⟨v,h1,h2⟩:=dF.1 h;exact⟨_,by simp[ev,h1],h2⟩
 .exact⟨_,rfl,h⟩
def Ku(Z:List (Nat × AV))(sl:List (Nat × AV)):List Operand->(List AV->Prop)->Prop
 | [],K=>K []
 | x::r,K=>oY Z sl x λa=>Ku Z sl r λl=>K (a::l)
theorem sE{Z:List (Nat × AV)}{s:St}:∀{xs:List Operand} {K:List AV->Prop},Ku Z s.sl xs K->∃l,EK Z s xs=some l/\K l
 | [],K,h=>⟨[],rfl,h⟩
 | x::r,K,h=>by
  obtain⟨a,h1,h2⟩:=cZ h;obtain⟨l,h3,h4⟩:=sE h2;exact⟨a::l,by simp[EK,h1,h3],h4⟩
def BT(Z:List (Nat × AV))(sl:List (Nat × AV)):List (Nat × Operand)->(List (Nat × AV)->Prop)->Prop
 | [],K=>K []
 | (i,x)::r,K=>oY Z sl x λa=>BT Z sl r λl=>K ((i,a)::l)
theorem wT{Z:List (Nat × AV)}{s:St}:∀{xs:List (Nat × Operand)} {K:List (Nat × AV)->Prop},BT Z s.sl xs K->∃l,j7 Z s xs=some l/\K l
 | [],K,h=>⟨[],rfl,h⟩
 | (i,x)::r,K,h=>by
  obtain⟨a,h1,h2⟩:=cZ h;obtain⟨l,h3,h4⟩:=wT h2;exact⟨(i,a)::l,by simp[j7,h1,h3],h4⟩
def IY(Z:List (Nat × AV))(sl:List (Nat × AV))(x:Option Operand)(K:Option AV->Prop):Prop:=
 match x with
 | none=>K none
 | some x=>oY Z sl x λa=>K (some a)
theorem Cd{x:Option Operand}{K:Option AV->Prop}(h:IY Z s.sl x K):∃l,AD Z s x=some l/\K l:=by
 cases x with
 | none=>exact⟨none,rfl,h⟩
 | some x=>
  obtain⟨a,h1,h2⟩:=cZ h;exact⟨some a,by simp[AD,h1],h2⟩
def Ed(sh:Option Nat)(cs:List AV)(j:Nat)(K:AV->Prop):Prop:=
 match sh with
 | none=>opt cs[j]? λc=>opt (one c) K
 | some n=>Gs n (cs.drop j) λl=>K (.agg l)
theorem nF{K:AV->Prop}(h:Ed sh cs j K):∃v,sub sh cs j=some v/\K v:=by
 unfold Ed at h;split at h
 .obtain⟨c,h1,h2⟩:=dF.1 h;obtain⟨v,h3,h4⟩:=dF.1 h2;exact⟨v,by simp[sub,h1,h3],h4⟩
 .obtain⟨h1,h2⟩:=HY.1 h;refine⟨_, ?_,h2⟩;simp only[sub];rw[h1];simp
def M5(P:Program)(mem:aP)(t:TypeId)(p:AV)(K:AV->Prop):Prop:=
 match p with
 | .ip u=>match GS P t with
  | some sh=>Ed sh u.cells 0 K
  | none=>False
 | .ptr id i j=>match lk mem id with
  | some (.row _ sz xs)=>opt xs[i]? λx=>match GS P t with
   | some sh=>match P.underlying t with
    | some (.array _ _)=>match sub sh x.cells j with
     | some _=>Ed sh x.cells j K
     | none=>Ed sh (G5 xs) (i*sz+j) K
    | _=>Ed sh x.cells j K
   | none=>False
  | _=>False
 | _=>False
theorem MT{K:AV->Prop}(h:M5 P mem t p K):∃v,Fd P mem t p=some v/\K v:=by
 unfold M5 at h;unfold Fd;split at h
 .split at h
  .rename_i sh hsh;obtain⟨v,h1,h2⟩:=nF h;exact⟨v,by simp[hsh,h1],h2⟩
  .exact h.elim
 .split at h
  .rename_i hid;obtain⟨x,hx,h⟩:=dF.1 h;split at h
   .rename_i sh hsh;split at h
    .rename_i hu;split at h
     .obtain⟨v,h1,h2⟩:=nF h;exact⟨v,by simp only[hid,hx,hsh,h1],h2⟩
     .rename_i hn;obtain⟨v,h1,h2⟩:=nF h;exact⟨v,by simp only[hid,hx,hsh,hn,hu,h1],h2⟩
    .obtain⟨v,h1,h2⟩:=nF h;exact⟨v,by simp only[hid,hx,hsh,h1],h2⟩
   .exact h.elim
  .exact h.elim
 .exact h.elim
def At(P:Program)(t:TypeId)(f:Nat)(p:AV)(K:AV->Prop):Prop:=
 match P.underlying t with
 | some (.struct fs)=>match fs[f]? with
  | some fd=>match iI P fd.type with
   | some (_+1)=>match p with
    | .ptr id i j=>tX (j+fd.offset) λj=>K (.ptr id i j)
    | .ip u=>match GS P fd.type with
     | some sh=>Ed sh u.cells fd.offset λv=>K (.ip v)
     | none=>False
    | _=>False
   | _=>False
  | none=>False
 | _=>False
theorem Ht{f:Nat}{K:AV->Prop}(h:At P t f p K):∃v,rS P t f p=some v/\K v:=by
 unfold At at h;unfold rS;split at h
 .rename_i fs hu;split at h
  .rename_i fd hfd;split at h
   .rename_i n hn;split at h
    .exact⟨_,by simp[hu,hfd,hn],fM.1 h⟩
    .split at h
     .rename_i sh hsh;obtain⟨v,h1,h2⟩:=nF h;exact⟨_,by simp[hu,hfd,hn,hsh,h1],h2⟩
     .exact h.elim
    .exact h.elim
   .exact h.elim
  .exact h.elim
 .exact h.elim
def MD(P:Program)(t:TypeId)(f:Nat)(v:AV)(K:AV->Prop):Prop:=
 match P.underlying t with
 | some (.struct fs)=>match fs[f]? with
  | some fd=>match v with
   | .agg cs=>match GS P fd.type with
    | some sh=>Ed sh cs fd.offset K
    | none=>False
   | _=>False
  | none=>False
 | _=>False
theorem SG{f:Nat}{K:AV->Prop}(h:MD P t f p K):∃v,Fh P t f p=some v/\K v:=by
 unfold MD at h;unfold Fh;split at h
 .rename_i fs hu;split at h
  .rename_i fd hfd;split at h
   .split at h
    .rename_i sh hsh;obtain⟨v,h1,h2⟩:=nF h;exact⟨v,by simp[hu,hfd,hsh,h1],h2⟩
    .exact h.elim
   .exact h.elim
  .exact h.elim
 .exact h.elim
def AR(cl:Bool)(P:Program)(mem:aP)(t:TypeId)(p ix:AV)(K:AV->Prop):Prop:=
 match ix with
 | .int _ n=>sF (decide (0<=n)) (match P.underlying t with
   | some (.slice e)=>match iI P e with
    | some sz=>match p with
     | .sl id off len=>match lk mem id with
      | some (.row _ _ xs)=>sF (Nat.blt n.toNat len) (opt xs[off+n.toNat]? λx=>sF (Nat.beq x.cells.length sz) (B0 cl (off+n.toNat) λm=>K (.ptr id m 0)))
      | _=>False
     | .il sz' xs=>opt xs[n.toNat]? λx=>sF (Nat.beq sz sz') (K (.ip x))
     | _=>False
    | none=>False
   | some (.array m e)=>match iI P e,GS P e with
    | some sz,some sh=>sF (Nat.blt n.toNat m) (match p with
      | .ptr id i j=>match Ej mem id i j sz with
       | true=>B0 cl (i+n.toNat) λm=>K (.ptr id m 0)
       | false=>B0 cl (j+n.toNat*sz) λm=>K (.ptr id i m)
      | .ip u=>Ed sh u.cells (n.toNat*sz) λv=>K (.ip v)
      | _=>False)
    | _,_=>False
   | _=>False)
 | _=>False
theorem Hs{ix:AV}{K:AV->Prop}(h:AR cl P mem t p ix K):∃v,rU P mem t p ix=some v/\K v:=by
 unfold AR at h;split at h
 .rename_i kk n;obtain⟨hn,h⟩:=cR.1 h;unfold rU;simp only[hn];split at h
  .rename_i e hu;simp only[hu];split at h
   .rename_i sz hsz;simp only[hsz];split at h
    .rename_i id off len;split at h
     .rename_i hid;obtain⟨h1,h⟩:=cR.1 h;obtain⟨x,hx,h⟩:=dF.1 h;obtain⟨h2,h⟩:=cR.1 h;exact⟨_,by simp[hid,h1,hx,h2],jP.1 h⟩
     .exact h.elim
    .obtain⟨x,hx,h⟩:=dF.1 h;obtain⟨h2,h⟩:=cR.1 h;exact⟨_,by simp[hx,h2],h⟩
    .exact h.elim
   .exact h.elim
  .rename_i m e hu;simp only[hu];split at h
   .rename_i sz sh hsz hsh;simp only[hsz,hsh];obtain⟨h1,h⟩:=cR.1 h;simp only[h1];split at h
    .split at h
     .rename_i he;exact⟨_,by simp[he],jP.1 h⟩
     .rename_i he;exact⟨_,by simp[he],jP.1 h⟩
    .obtain⟨v,h2,h3⟩:=nF h;exact⟨_,by simp[h2],h3⟩
    .exact h.elim
   .exact h.elim
  .exact h.elim
 .exact h.elim
def Le(cl:Bool)(P:Program)(t:TypeId)(v ix:AV)(K:AV->Prop):Prop:=
 match ix with
 | .int _ n=>sF (decide (0<=n)) (match P.underlying t with
   | some .string=>match v with
    | .str s=>opt s[n.toNat]? λb=>vL cl .u8 (b.toNat:Int) K
    | _=>False
   | some (.array m e)=>match v with
    | .agg cs=>sF (Nat.blt n.toNat m) (match iI P e,GS P e with
      | some sz,some sh=>Ed sh cs (n.toNat*sz) K
      | _,_=>False)
    | _=>False
   | _=>False)
 | _=>False
theorem Q6{ix:AV}{K:AV->Prop}(h:Le cl P t p ix K):∃v,Eh P t p ix=some v/\K v:=by
 unfold Le at h;split at h
 .rename_i kk n;obtain⟨hn,h⟩:=cR.1 h;unfold Eh;simp only[hn];split at h
  .rename_i hu;simp only[hu];split at h
   .obtain⟨b,hb,h⟩:=dF.1 h;exact⟨_,by simp[hb],pY.1 h⟩
   .exact h.elim
  .rename_i m e hu;simp only[hu];split at h
   .obtain⟨h1,h⟩:=cR.1 h;simp only[h1];split at h
    .rename_i sz sh hsz hsh;obtain⟨v,h2,h3⟩:=nF h;exact⟨v,by simp[hsz,hsh,h2],h3⟩
    .exact h.elim
   .exact h.elim
  .exact h.elim
 .exact h.elim
def LJ(cl:Bool)(op:BinOp)(k:IntKind)(x y:Int)(K:AV->Prop):Prop:=
 match op with
 | .add=>vL cl k (k.wrap (x+y)) K
 | .sub=>vL cl k (k.wrap (x-y)) K
 | .mul=>vL cl k (k.wrap (x*y)) K
 | .quo=>sF (!decide (y=0)) (vL cl k (k.wrap (x.tdiv y)) K)
 | .rem=>sF (!decide (y=0)) (vL cl k (x.tmod y) K)
 | .and=>vL cl k (bits .and k x y) K
 | .or=>vL cl k (bits .or k x y) K
 | .xor=>vL cl k (bits .xor k x y) K
 | .andNot=>vL cl k (bits .andNot k x y) K
 | .eql=>oI cl (x == y) K
 | .neq=>oI cl (x != y) K
 | .lss=>oI cl (decide (x<y)) K
 | .leq=>oI cl (decide (x<=y)) K
 | .gtr=>oI cl (decide (x>y)) K
 | .geq=>oI cl (decide (x≥y)) K
 | _=>False
theorem Pz{k:IntKind}{x y:Int}{K:AV->Prop}(h:LJ cl op k x y K):∃v,GA op k x y=some v/\K v:=by
  cases op<;>simp only[LJ,pY,o8] at h<;>simp only[GA]<;>first
    | exact h.elim
    | exact⟨_,rfl,h⟩
    | (obtain⟨h1,h2⟩:=cR.1 h
       have:decide (y=0)=false:=su h1
       rw[this];exact⟨_,rfl,h2⟩)
def Lm(cl:Bool)(op:BinOp)(x y:List UInt8)(K:AV->Prop):Prop:=
 match op with
 | .add=>sF (Nat.ble (x.length+y.length) 9223372036854775807) (match cl with
   | true=>GN x y λl=>K (.str l)
   | false=>K (.str (x++y)))
 | .eql=>oI cl (x == y) K
 | .neq=>oI cl (!(x == y)) K
 | .lss=>oI cl (Op.bytesLess x y) K
 | .leq=>oI cl (Op.bytesLess x y || x == y) K
 | .gtr=>oI cl (!(Op.bytesLess x y || x == y)) K
 | .geq=>oI cl (!(Op.bytesLess x y)) K
 | _=>False
theorem QJ{x y:List UInt8}{K:AV->Prop}(h:Lm cl op x y K):∃v,FZ op x y=some v/\K v:=by
  cases op<;>simp only[Lm,o8] at h<;>simp only[FZ]<;>first
    | exact h.elim
    | exact⟨_,rfl,h⟩
    | (obtain⟨h1,h2⟩:=cR.1 h
       have h1':decide ((x.length:Int)+y.length<=9223372036854775807)=true:=by have:=aAi h1;simp;omega
       rw[h1'];refine⟨_,rfl, ?_⟩;cases cl
       · exact h2
       · exact iM.1 h2)
def LL(cl:Bool)(op:BinOp)(k:IntKind)(x y:Int)(K:AV->Prop):Prop:=
 sF (!decide (y<0)) (match op with
  | .shl=>vL cl k (k.wrap (x*2 ^ (min y.toNat k.bits))) K
  | .shr=>vL cl k (x.fdiv (2 ^ (min y.toNat k.bits))) K
  | _=>False)
theorem JB{k:IntKind}{x y:Int}{K:AV->Prop}(h:LL cl op k x y K):∃v,CI op k x y=some v/\K v:=by
 obtain⟨h1,h2⟩:=cR.1 h;have h1:decide (y<0)=false:=su h1
 unfold CI;rw[h1];cases op<;>simp only[pY] at h2<;>first|exact h2.elim|exact⟨_,rfl,h2⟩
def WP(cl:Bool)(P:Program)(op:BinOp)(t:TypeId)(xo yo:Operand)(x y:AV)(K:AV->Prop):Prop:=
 match x,y with
 | .int k a,.int k' b=>match op with
  | .shl=>LL cl .shl k a b K
  | .shr=>LL cl .shr k a b K
  | _=>sF (decide (k=k')) (LJ cl op k a b K)
 | .str a,.str b=>Lm cl op a b K
 | .agg a,.agg b=>match P.eqGuardType P.depth t with
  | false=>match op with
   | .eql=>opt (Hz P t a b) λr=>oI cl r K
   | .neq=>opt (Hz P t a b) λr=>oI cl (!r) K
   | _=>False
  | true=>False
 | x,y=>match op with
  | .eql=>opt (P3 P (nV xo || nV yo) t x y) λb=>oI cl b K
  | .neq=>opt (P3 P (nV xo || nV yo) t x y) λb=>oI cl (!b) K
  | _=>False
theorem We{xo yo:Operand}{x y:AV}{K:AV->Prop}(h:WP cl P op t xo yo x y K):∃v,SS P op t xo yo x y=some v/\K v:=by
 unfold WP at h;unfold SS;split at h
 .split at h
  .exact JB h
  .exact JB h
  .obtain⟨h1,h2⟩:=cR.1 h;simp only[h1];obtain⟨v,h3,h4⟩:=Pz h2;refine⟨v, ?_,h4⟩;cases op<;>first|exact h3|contradiction
 .exact QJ h
 .split at h
  .rename_i hg;simp only[hg];split at h
   .obtain⟨b,hb,h⟩:=dF.1 h;exact⟨.bool b,by simp only[hb],o8.1 h⟩
   .obtain⟨b,hb,h⟩:=dF.1 h;exact⟨.bool (!b),by simp only[hb],o8.1 h⟩
   .exact h.elim
  .exact h.elim
 .rename_i h1 h2 h3;split at h
  .obtain⟨b,hb,h⟩:=dF.1 h;refine⟨.bool b, ?_,o8.1 h⟩;cases x<;>cases y<;>first|(simp only[hb];done)|(exact(h1 _ _ _ _ rfl rfl).elim)|(exact(h2 _ _ rfl rfl).elim)|(exact(h3 _ _ rfl rfl).elim)
  .obtain⟨b,hb,h⟩:=dF.1 h;refine⟨.bool (!b), ?_,o8.1 h⟩;cases x<;>cases y<;>first|(simp only[hb];done)|(exact(h1 _ _ _ _ rfl rfl).elim)|(exact(h2 _ _ rfl rfl).elim)|(exact(h3 _ _ rfl rfl).elim)
  .exact h.elim
def ZU(cl:Bool)(op:UnOp)(x:AV)(K:AV->Prop):Prop:=
 match op,x with
 | .neg,.int k n=>vL cl k (k.wrap (0-n)) K
 | .not,.bool b=>oI cl (!b) K
 | _,_=>False
theorem Yt{op:UnOp}{x:AV}{K:AV->Prop}(h:ZU cl op x K):∃v,Yy op x=some v/\K v:=by
 unfold ZU at h;split at h
 .exact⟨_,rfl,pY.1 h⟩
 .exact⟨_,rfl,o8.1 h⟩
 .exact h.elim
def R4(cl:Bool)(P:Program)(mem:aP)(src dst:TypeId)(x:AV)(K:AV->Prop):Prop:=
 match P.underlying src with
 | none=>False
 | some d=>match P.underlying dst with
  | some (.int k)=>match x with
   | .int _ n=>vL cl k (k.wrap n) K
   | _=>False
  | some .string=>match x with
   | .str s=>K (.str s)
   | .nsl=>match d with
    | .slice e=>match P.underlying e with
     | some (.int .u8)=>K (.str [])
     | _=>False
    | _=>False
   | .il sz xs=>match d with
    | .slice e=>match P.underlying e with
     | some (.int .u8)=>sF (Nat.beq sz 1) (opt (gB xs) λl=>v6 cl l λl=>K (.str l))
     | _=>False
    | _=>False
   | .sl id off len=>match d with
    | .slice e=>match P.underlying e with
     | some (.int .u8)=>match lk mem id with
      | some (.row _ _ xs)=>sF (Nat.ble (off+len) xs.length) (opt (gB ((xs.drop off).take len)) λl=>v6 cl l λl=>K (.str l))
      | _=>False
     | _=>False
    | _=>False
   | _=>False
  | some .unsafePointer=>opt (T8 P mem d x) K
  | some (.pointer u)=>opt (H5 P mem d u x) K
  | _=>False
theorem UP{src dst:TypeId}{x:AV}{K:AV->Prop}(h:R4 cl P mem src dst x K):∃v,Ee P mem src dst x=some v/\K v:=by
 unfold R4 at h;split at h
 .exact h.elim
 .rename_i d hd;unfold Ee;simp only[hd];split at h
  .rename_i k hu;simp only[hu];split at h
   .exact⟨_,rfl,pY.1 h⟩
   .exact h.elim
  .rename_i hu;simp only[hu];split at h
   .exact⟨_,rfl,h⟩
   .split at h
    .split at h
     .rename_i he;exact⟨_,by simp only[he],h⟩
     .exact h.elim
    .exact h.elim
   .split at h
    .split at h
     .rename_i he;obtain⟨h1,h⟩:=cR.1 h;obtain⟨l,h2,h⟩:=dF.1 h;exact⟨_,by simp only[he,h1,h2],jU.1 h⟩
     .exact h.elim
    .exact h.elim
   .split at h
    .split at h
     .rename_i he;split at h
      .rename_i hid;obtain⟨h1,h⟩:=cR.1 h;obtain⟨l,h2,h⟩:=dF.1 h;exact⟨_,by simp only[he,hid,h1,h2],jU.1 h⟩
      .exact h.elim
     .exact h.elim
    .exact h.elim
   .exact h.elim
  .rename_i hu;simp only[hu];obtain⟨v,h1,h⟩:=dF.1 h;exact⟨v,h1,h⟩
  .rename_i u hu;simp only[hu];obtain⟨v,h1,h⟩:=dF.1 h;exact⟨v,h1,h⟩
  .exact h.elim
def Hu:List AV->Nat->List AV->(List AV->Prop)->Prop
 | cells,_,[],K=>K cells
 | cells,off,v::r,K=>LG cells off v λc=>Hu c (off+1) r K
theorem EU(off:Nat):∀(vs:List AV) (k:Nat) (cells:List AV) (K:List AV->Prop),Hu cells (off+k) vs K↔K ((vs.zipIdx k).foldl (λcs p=>cs.set (off+p.2) p.1) cells)
 | [],k,cells,K=>Iff.rfl
 | v::r,k,cells,K=>by
  simp only[Hu,dE,aBI,aAy];have:=EU off r (k+1) (cells.set (off+k) v) K;rw[<-Nat.add_assoc] at this;exact this
def Kh(place:Nat->Option (Nat × Nat)):List AV->List (Nat × AV)->(List AV->Prop)->Prop
 | cells,[],K=>K cells
 | cells,(i,v)::r,K=>match place i with
  | none=>False
  | some (off,size)=>sF (mX v && (Nat.beq v.cells.length size && Nat.ble (off+v.cells.length) cells.length)) (Hu cells off v.cells λcs=>Kh place cs r K)
theorem Ic{place:Nat->Option (Nat × Nat)}:∀{parts:List (Nat × AV)} {cells:List AV} {K:List AV->Prop},Kh place cells parts K->∃l,A6 place cells parts=some l/\K l
 | [],cells,K,h=>⟨cells,by simp[A6],h⟩
 | (i,v)::r,cells,K,h=>by
  simp only[Kh] at h;simp only[A6];split at h
  .exact h.elim
  .rename_i off size hp;obtain⟨h1,h2⟩:=cR.1 h;have h3:=(EU off v.cells 0 cells _).1 h2;obtain⟨l,h4,h5⟩:=Ic h3;exact⟨l,by simp only[hp,h1];exact h4,h5⟩
def LX(P:Program)(t:TypeId)(parts:List (Nat × AV))(K:AV->Prop):Prop:=
 match P.info? t with
 | some it=>match it.zero with
  | some z=>match Bz z with
   | some (.agg zs)=>match P.underlying t with
    | some (.array _ e)=>match iI P e with
     | some n=>Kh (λi=>some (i*n,n)) zs parts λcs=>K (.agg cs)
     | none=>False
    | some (.struct fs)=>match y8 P fs.toList with
     | some places=>Kh (λi=>places[i]?) zs parts λcs=>K (.agg cs)
     | none=>False
    | _=>False
   | _=>False
  | none=>False
 | none=>False
theorem Qx{K:AV->Prop}(h:LX P t parts K):∃v,Ek P t parts=some v/\K v:=by
 unfold LX at h;unfold Ek;split at h
 .rename_i it h1;simp only[h1];split at h
  .rename_i z h2;simp only[h2];split at h
   .rename_i zs h3;simp only[h3];split at h
    .rename_i e h4;simp only[h4];split at h
     .rename_i n h5;simp only[h5];obtain⟨l,h6,h7⟩:=Ic h;exact⟨_,by rw[h6],h7⟩
     .exact h.elim
    .rename_i fs h4;simp only[h4];split at h
     .rename_i n h5;simp only[h5];obtain⟨l,h6,h7⟩:=Ic h;exact⟨_,by rw[h6],h7⟩
     .exact h.elim
    .exact h.elim
   .exact h.elim
  .exact h.elim
 .exact h.elim
def k9(d:Nat)(x:Option AV)(K:Nat->Prop):Prop:=
 match x with
 | none=>K d
 | some (.int _ n)=>sF (decide (0<=n)) (K n.toNat)
 | some _=>False
theorem iK{x:Option AV}{K:Nat->Prop}(h:k9 d x K):∃n,fU d x=some n/\K n:=by
 unfold k9 at h;split at h
 .exact⟨_,rfl,h⟩
 .obtain⟨h1,h2⟩:=cR.1 h;exact⟨_,by simp only[fU,h1],h2⟩
 .exact h.elim
def MB(cl:Bool)(P:Program)(mem:aP)(t:TypeId)(x:AV)(lo hi mx:Option AV)(K:AV->Prop):Prop:=
 match P.underlying t with
 | some .string=>match x,mx with
  | .str s,none=>k9 0 lo λl=>k9 s.length hi λh=>sF (Nat.ble l h && Nat.ble h s.length) (v6 cl ((s.drop l).take (h-l)) λs=>K (.str s))
  | _,_=>False
 | some (.slice e)=>match iI P e with
  | none=>False
  | some sz=>match x with
   | .nsl=>k9 0 lo λl=>k9 0 hi λh=>k9 0 mx λm=>sF (Nat.beq l 0 && (Nat.beq h 0 && Nat.beq m 0)) (K .nsl)
   | .il sz' xs=>sF (Nat.beq sz sz') (k9 0 lo λl=>k9 xs.length hi λh=>k9 xs.length mx λm=>sF (Nat.ble l h && (Nat.ble h m && Nat.ble m xs.length)) (v6 cl ((xs.drop l).take (h-l)) λys=>K (.il sz' ys)))
   | .sl id off len=>match lk mem id with
    | some (.row _ sz0 _)=>sF (Nat.beq sz0 sz) (k9 0 lo λl=>k9 len hi λh=>k9 len mx λm=>sF (Nat.ble l h && (Nat.ble h m && Nat.ble m len)) (B0 cl (off+l) λo=>B0 cl (h-l) λn=>K (.sl id o n)))
    | _=>False
   | _=>False
 | some (.array n e)=>match iI P e with
  | none=>False
  | some sz=>match x with
   | .ptr id i 0=>match lk mem id with
    | some (.row _ _ xs)=>sF (Ej mem id i 0 sz && Nat.ble (i+n) xs.length) (k9 0 lo λl=>k9 n hi λh=>k9 n mx λm=>sF (Nat.ble l h && (Nat.ble h m && Nat.ble m n)) (B0 cl (i+l) λo=>B0 cl (h-l) λn=>K (.sl id o n)))
    | _=>False
   | _=>False
 | _=>False
theorem Qn{x:AV}{lo hi mx:Option AV}{K:AV->Prop}(h:MB cl P mem t x lo hi mx K):∃v,Fa P mem t x lo hi mx=some v/\K v:=by
 unfold MB at h;unfold Fa;split at h
 .rename_i hu;simp only[hu];split at h
  .rename_i s;obtain⟨l,h1,h⟩:=iK h;obtain⟨h',h2,h⟩:=iK h;obtain⟨h3,h⟩:=cR.1 h;exact⟨_,by simp only[h1,h2,h3],jU.1 h⟩
  .exact h.elim
 .rename_i e hu;simp only[hu];split at h
  .exact h.elim
  .rename_i sz hsz;simp only[hsz];split at h
   .obtain⟨l,h1,h⟩:=iK h;obtain⟨h',h2,h⟩:=iK h;obtain⟨m,h3,h⟩:=iK h;obtain⟨h4,h⟩:=cR.1 h;simp only[aAd] at h4;obtain⟨a1,a2,a3⟩:=h4;rw[Nat.eq_of_beq_eq_true a1] at h1;rw[Nat.eq_of_beq_eq_true a2] at h2;rw[Nat.eq_of_beq_eq_true a3] at h3;exact⟨_,by simp only[h1,h2,h3],h⟩
   .obtain⟨h0,h⟩:=cR.1 h;obtain⟨l,h1,h⟩:=iK h;obtain⟨h',h2,h⟩:=iK h;obtain⟨m,h3,h⟩:=iK h;obtain⟨h4,h⟩:=cR.1 h;exact⟨_,by simp only[h0,h1,h2,h3,h4],jU.1 h⟩
   .split at h
    .rename_i hid;obtain⟨h0,h⟩:=cR.1 h;obtain⟨l,h1,h⟩:=iK h;obtain⟨h',h2,h⟩:=iK h;obtain⟨m,h3,h⟩:=iK h;obtain⟨h4,h⟩:=cR.1 h;exact⟨_,by simp only[hid,h0,h1,h2,h3,h4],jP.1 (jP.1 h)⟩
    .exact h.elim
   .exact h.elim
 .rename_i n e hu;simp only[hu];split at h
  .exact h.elim
  .rename_i sz hsz;simp only[hsz];split at h
   .split at h
    .rename_i hid;obtain⟨h0,h⟩:=cR.1 h;obtain⟨l,h1,h⟩:=iK h;obtain⟨h',h2,h⟩:=iK h;obtain⟨m,h3,h⟩:=iK h;obtain⟨h4,h⟩:=cR.1 h;exact⟨_,by simp only[hid,h0,h1,h2,h3,h4],jP.1 (jP.1 h)⟩
    .exact h.elim
   .exact h.elim
 .exact h.elim
def MM(sz:Nat)(sh:Option Nat):Nat->List AV->(List AV->Prop)->Prop
 | 0,_,K=>K []
 | m+1,cs,K=>Ed sh cs 0 λx=>MM sz sh m (cs.drop sz) λl=>K (x::l)
theorem Jj{sz:Nat}{sh:Option Nat}:∀{m:Nat} {cs:List AV} {K:List AV->Prop},MM sz sh m cs K->∃l,FA sz sh m cs=some l/\K l
 | 0,cs,K,h=>⟨[],rfl,h⟩
 | m+1,cs,K,h=>by
  obtain⟨x,h1,h⟩:=nF h;obtain⟨l,h2,h⟩:=Jj h;exact⟨_,by simp only[FA,h1,h2],h⟩
def YB{V:Type}:List V->Nat->Nat
 | [],n=>n
 | _::r,n=>YB r (n+1)
theorem Sd{V:Type}:∀(l:List V) (n:Nat),YB l n=l.length+n
 | [],n=>by simp[YB]
 | _::r,n=>by simp[YB,Sd r];omega
def TL(P:Program)(t:TypeId)(v:AV)(K:Nat->List AV->Prop):Prop:=
 match P.underlying t with
 | some (.array m e)=>match v with
  | .agg cs=>match iI P e,GS P e with
   | some sz,some sh=>sF (Nat.beq (sh.getD 1) sz && (Nat.blt 0 sz && Nat.beq cs.length (m*sz))) (MM sz sh m cs λxs=>K sz xs)
   | _,_=>False
  | _=>False
 | some _=>sF (mX v) (match v.cells with
  | []=>K 0 []
  | _::_=>tX (YB v.cells 0) λn=>K n [v])
 | none=>False
theorem QZ{K:Nat->List AV->Prop}(h:TL P t v K):∃sz xs,GB P t v=some (sz,xs)/\K sz xs:=by
 unfold TL at h;unfold GB;split at h
 .rename_i m e hu;simp only[hu];split at h
  .split at h
   .rename_i sz sh h1 h2;simp only[h1,h2];obtain⟨h3,h⟩:=cR.1 h;obtain⟨l,h4,h⟩:=Jj h;exact⟨_,_,by simp only[h3,h4],h⟩
   .exact h.elim
  .exact h.elim
 .rename_i d hna hu;simp only[hu];obtain⟨h1,h⟩:=cR.1 h;split at h
  .rename_i hc;refine⟨_,_, ?_,h⟩;cases hd:d<;>first|(exact(hna _ _ hd).elim)|simp only[h1,hc]
  .rename_i c cs hc;have h:=fM.1 h;rw[Sd,aBo] at h;refine⟨_,_, ?_,h⟩;cases hd:d<;>first|(exact(hna _ _ hd).elim)|simp only[h1,hc]
 .exact h.elim
def L6(P:Program)(mem:aP)(nx:Nat)(t:TypeId)(K:AV->aP->Nat->Prop):Prop:=
 match P.info? t with
 | some i=>match i.zero with
  | some z=>match Bz z with
   | some v=>TL P t v λsz xs=>tX (nx+1) λn=>K (.ptr nx 0 0) ((nx,.row t sz xs)::mem) n
   | none=>False
  | none=>False
 | none=>False
theorem QC(h:L6 P mem nx t K):∃v m n,xG P mem nx t=some (v,m,n)/\K v m n:=by
 unfold L6 at h;unfold xG;split at h
 .rename_i i h1;simp only[h1];split at h
  .rename_i z h2;simp only[h2];split at h
   .rename_i v h3;simp only[h3];obtain⟨sz,xs,h4,h⟩:=QZ h;exact⟨_,_,_,by simp only[h4],fM.1 h⟩
   .exact h.elim
  .exact h.elim
 .exact h.elim
def YG(P:Program)(mem:aP)(nx:Nat)(t:TypeId)(v:AV)(K:AV->aP->Nat->Prop):Prop:=
 TL P t v λsz xs=>tX (nx+1) λn=>K (.ptr nx 0 0) ((nx,.row t sz xs)::mem) n
theorem WH(h:YG P mem nx t v K):∃r m n,Jt P mem nx t v=some (r,m,n)/\K r m n:=by
 obtain⟨sz,xs,h4,h⟩:=QZ h;exact⟨_,_,_,by simp only[Jt,h4],fM.1 h⟩
def K9(sz:Nat):List AV->List (Nat × AV)->(List AV->Prop)->Prop
 | xs,[],K=>K xs
 | xs,(i,v)::r,K=>sF (mX v && (Nat.beq v.cells.length sz && Nat.blt i xs.length)) (LG xs i v λxs=>K9 sz xs r K)
theorem Jx{sz:Nat}:∀{parts:List (Nat × AV)} {xs:List AV} {K:List AV->Prop},K9 sz xs parts K->∃l,xZ sz xs parts=some l/\K l
 | [],xs,K,h=>⟨xs,by simp[xZ],h⟩
 | (i,v)::r,xs,K,h=>by
  obtain⟨h1,h⟩:=cR.1 h;obtain⟨l,h2,h⟩:=Jx (dE.1 h);exact⟨l,by simp only[xZ,h1];exact h2,h⟩
def wR(P:Program)(mem:aP)(nx:Nat)(t:TypeId)(len:Nat)(parts:List (Nat × AV))(K:AV->aP->Nat->Prop):Prop:=
 match P.underlying t with
 | some (.slice e)=>match iI P e,nP P e with
  | some sz,some z=>sF (mX z && (Nat.beq z.cells.length sz && (Nat.blt 0 sz && Nat.ble (len*sz) 16777216))) (DF (List.replicate len z) λzs=>K9 sz zs parts λxs=>tX (nx+1) λn=>K (.sl nx 0 len) ((nx,.row e sz xs)::mem) n)
  | _,_=>False
 | _=>False
theorem GW(h:wR P mem nx t len parts K):∃v m n,jG P mem nx t len parts=some (v,m,n)/\K v m n:=by
 unfold wR at h;unfold jG;split at h
 .rename_i e hu;simp only[hu];split at h
  .rename_i sz z h1 h2;simp only[h1,h2];obtain⟨h3,h⟩:=cR.1 h;obtain⟨l,h4,h⟩:=Jx (qZ.1 h);exact⟨_,_,_,by simp only[h3,h4],fM.1 h⟩
  .exact h.elim
 .exact h.elim
def sS:List AV->Nat->List AV->(List AV->Prop)->Prop
 | [],_,cs,K=>K cs
 | x::r,0,[],K=>K (x::r)
 | _::r,0,c::cs,K=>sS r 0 cs λl=>K (c::l)
 | x::r,j+1,cs,K=>sS r j cs λl=>K (x::l)
theorem xI:∀{xs:List AV} {j:Nat} {cs:List AV} {K:List AV->Prop},sS xs j cs K↔K (xs.take j++cs++xs.drop (j+cs.length))
 | [],j,cs,K=>by simp[sS]
 | x::r,0,[],K=>by simp[sS]
 | x::r,0,c::cs,K=>by simp[sS,xI]
 | x::r,j+1,cs,K=>by simp[sS,xI,Nat.add_right_comm]
def Cl(x:AV)(j:Nat)(cs:List AV)(K:AV->Prop):Prop:=
 match x with
 | .agg xs=>sS xs j cs λl=>K (.agg l)
 | _=>match cs with
  | [c]=>opt (one c) K
  | _=>False
theorem Ks{x:AV}{K:AV->Prop}(h:Cl x j cs K):∃v,xQ x j cs=some v/\K v:=by
 unfold Cl at h;unfold xQ;split at h
 .exact⟨_,rfl,xI.1 h⟩
 .rename_i hx;split at h
  .obtain⟨v,h1,h2⟩:=dF.1 h;refine⟨v, ?_,h2⟩;cases x<;>first|exact h1|exact(hx _ rfl).elim
  .exact h.elim
def FI:aP->(aP->Prop)->Prop
 | [],K=>K []
 | p::r,K=>FI r λr=>K (p::r)
theorem Al:∀{m:aP} {K:aP->Prop},FI m K↔K m
 | [],K=>Iff.rfl
 | p::r,K=>by simp only[FI];exact Al
def Ij(P:Program)(mem:aP)(t:TypeId)(p v:AV)(K:aP->Prop):Prop:=
 match p with
 | .ptr id i j=>match lk mem id with
  | some (.row t' sz' xs)=>opt xs[i]? λx=>match iI P t with
   | some n=>sF (mX v && (Nat.beq v.cells.length n && Nat.ble (j+n) x.cells.length)) (Cl x j v.cells λx'=>LG xs i x' λxs'=>Uh mem id (.row t' sz' xs') K)
   | none=>False
  | _=>False
 | _=>False
theorem Om{K:aP->Prop}(h:Ij P mem t p v K):∃m,B5 P mem t p v=some m/\K m:=by
 unfold Ij at h;unfold B5;split at h
 .split at h
  .rename_i hid;obtain⟨x,hx,h⟩:=dF.1 h;split at h
   .rename_i n hn;obtain⟨h1,h⟩:=cR.1 h;obtain⟨x',h2,h⟩:=Ks h;exact⟨_,by simp only[hid,hx,hn,h1,h2],uV.1 (dE.1 h)⟩
   .exact h.elim
  .exact h.elim
 .exact h.elim
def MP(P:Program)(mem:aP)(t:TypeId)(p v:AV)(K:aP->Prop):Prop:=
 match P.underlying t with
 | some (.array _ _)=>opt (AU P mem t p v) λm=>FI m K
 | _=>match v.cells with
  | []=>opt (zE P mem t p v) K
  | _::_=>Ij P mem t p v K
theorem Qb{K:aP->Prop}(h:MP P mem t p v K):∃m,AU P mem t p v=some m/\K m:=by
 unfold MP at h;split at h
 .obtain⟨m,h1,h⟩:=dF.1 h;exact⟨m,h1,Al.1 h⟩
 .split at h
  .obtain⟨m,h1,h⟩:=dF.1 h;exact⟨m,by simp only[AU,h1],h⟩
  .rename_i hc;obtain⟨m,h1,h⟩:=Om h;have hz:zE P mem t p v=none:=by
    unfold zE;split<;>first|rfl|skip
    split<;>first|rfl|skip
    split<;>first|rfl|skip
    rw[hc]
   exact⟨m,by simp only[AU,hz,h1],h⟩
def K0(cl:Bool)(P:Program)(mem:aP)(nx:Nat)(t:TypeId)(l c:AV)(K:AV->aP->Nat->Prop):Prop:=
 match l,c with
 | .int _ l,.int _ c=>match P.underlying t with
  | some (.slice e)=>match P.info? e with
   | some i=>match nP P e with
    | some z=>sF (mX z && (Nat.beq z.cells.length i.size && (Nat.blt 0 i.size && (decide (0<=l) && (decide (l<=c) && (decide ((i.bytes:Int)*c<=281474976710656) && decide (c<=9223372036854775807)))))))
      (tX (nx+1) λn=>v6 cl (List.replicate l.toNat z) λzs=>B0 cl l.toNat λm=>K (.sl nx 0 m) ((nx,.row e i.size zs)::mem) n)
    | none=>False
   | none=>False
  | _=>False
 | _,_=>False
theorem TY{l c:AV}(h:K0 cl P mem nx t l c K):∃v m n,DB P mem nx t l c=some (v,m,n)/\K v m n:=by
 unfold K0 at h;split at h
 .unfold DB;split at h
  .rename_i e hu;simp only[hu];split at h
   .rename_i i h1;simp only[h1];split at h
    .rename_i z h2;simp only[h2];obtain⟨h3,h⟩:=cR.1 h;have h4:=jP.1 (jU.1 (fM.1 h));exact⟨_,_,_,by simp only[h3],h4⟩
    .exact h.elim
   .exact h.elim
  .exact h.elim
 .exact h.elim
def Ub(cl:Bool)(mem:aP)(sz:Nat)(x:AV)(K:List AV->Prop):Prop:=
 match x with
 | .nsl=>K []
 | .il sz' ys=>sF (Nat.beq sz' sz) (K ys)
 | .sl id off len=>match lk mem id with
  | some (.row _ sz' xs)=>sF (Nat.beq sz' sz && Nat.ble (off+len) xs.length) (v6 cl ((xs.drop off).take len) K)
  | _=>False
 | .str s=>sF (Nat.beq sz 1) (v6 cl (s.map λb=>.int .u8 (b.toNat:Int)) K)
 | _=>False
theorem QG{x:AV}{K:List AV->Prop}(h:Ub cl mem sz x K):∃l,Pl mem sz x=some l/\K l:=by
 unfold Ub at h;unfold Pl;split at h
 .exact⟨_,rfl,h⟩
 .obtain⟨h1,h⟩:=cR.1 h;exact⟨_,by simp only[h1],h⟩
 .split at h
  .rename_i hid;obtain⟨h1,h⟩:=cR.1 h;exact⟨_,by simp only[hid,h1],jU.1 h⟩
  .exact h.elim
 .obtain⟨h1,h⟩:=cR.1 h;exact⟨_,by simp only[h1],jU.1 h⟩
 .exact h.elim
def S3(cl:Bool)(xs ys:List AV)(K:List AV->Prop):Prop:=
 match cl with
 | true=>GN xs ys K
 | false=>K (xs++ys)
theorem KD{K:List AV->Prop}:S3 cl xs ys K↔K (xs++ys):=by cases cl<;>simp[S3,iM]
def II(cl:Bool)(P:Program)(mem:aP)(nx:Nat)(t u:TypeId)(s x:AV)(K:AV->aP->Nat->Prop):Prop:=
 match P.underlying t with
 | some (.slice e)=>match P.info? e with
  | some i=>match i.zero with
   | some z=>sF (Am (P.underlying u) && (Nat.blt 0 i.size && Nat.beq z.cells.size i.size)) (Ub cl mem i.size x λys=>match s with
     | .nsl=>sF (Nat.ble (ys.length*i.bytes) 140737488355328 && Nat.ble ys.length 9223372036854775807) (B0 cl ys.length λl=>tX (nx+1) λn=>K (.sl nx 0 l) ((nx,.row e i.size ys)::mem) n)
     | .sl id 0 len=>match lk mem id with
      | some (.row t' sz' xs)=>sF (Nat.beq t' e && (Nat.beq sz' i.size && (Nat.beq len xs.length && (Nat.ble ((len+ys.length)*i.bytes) 140737488355328 && Nat.ble (len+ys.length) 9223372036854775807))))
        (S3 cl xs ys λzs=>B0 cl (len+ys.length) λl=>tX (nx+1) λn=>Gi id mem λm=>K (.sl nx 0 l) ((nx,.row e i.size zs)::m) n)
      | _=>False
     | _=>False)
   | none=>False
  | none=>False
 | _=>False
theorem PD{s x:AV}(h:II cl P mem nx t u s x K):∃v m n,vU P mem nx t u s x=some (v,m,n)/\K v m n:=by
 unfold II at h;unfold vU;split at h
 .rename_i e hu;simp only[hu];split at h
  .rename_i i h1;simp only[h1];split at h
   .rename_i z h2;simp only[h2];obtain⟨h3,h⟩:=cR.1 h;simp only[h3];obtain⟨ys,h4,h⟩:=QG h;simp only[h4];split at h
    .obtain⟨h5,h⟩:=cR.1 h;exact⟨_,_,_,by simp only[h5],fM.1 (jP.1 h)⟩
    .split at h
     .rename_i hid;obtain⟨h5,h⟩:=cR.1 h;exact⟨_,_,_,by simp only[hid,h5],y6.1 (fM.1 (jP.1 (KD.1 h)))⟩
     .exact h.elim
    .exact h.elim
   .exact h.elim
  .exact h.elim
 .exact h.elim
def Cu(cl:Bool)(P:Program)(mem:aP)(nx:Nat)(src dst:TypeId)(x:AV)(K:AV->aP->Nat->Prop):Prop:=
 match P.underlying src with
 | none=>False
 | some _=>match P.underlying dst with
  | some (.slice e)=>match P.underlying e with
   | some (.int .u8)=>match x with
    | .str s=>tX (nx+1) λn=>B0 cl s.length λl=>v6 cl (s.map λb=>.int .u8 (b.toNat:Int)) λxs=>K (.sl nx 0 l) ((nx,.row e 1 xs)::mem) n
    | _=>False
   | _=>False
  | _=>False
theorem JS{src dst:TypeId}{x:AV}(h:Cu cl P mem nx src dst x K):∃v m n,mS P mem nx src dst x=some (v,m,n)/\K v m n:=by
 unfold Cu at h;unfold mS;split at h
 .exact h.elim
 .rename_i d hd;simp only[hd];split at h
  .rename_i e hu;simp only[hu];split at h
   .rename_i he;simp only[he];split at h
    .exact⟨_,_,_,rfl,jU.1 (jP.1 (fM.1 h))⟩
    .exact h.elim
   .exact h.elim
  .exact h.elim
def vV(P:Program)(mem:aP)(t:TypeId)(m k v:AV)(K:aP->Prop):Prop:=
 match P.underlying t with
 | some (.map kt _)=>sF (H8 P kt k) (match m with
   | .mp id=>match lk mem id with
    | some (.mapb es)=>opt (gT P kt k es 0) λr=>match r with
     | some (i,_)=>opt es[i]? λe=>sF (z7 e.1 k) (LG es i (k,v) λes=>Uh mem id (.mapb es) K)
     | none=>GN es [(k,v)] λes=>Uh mem id (.mapb es) K
    | _=>False
   | _=>False)
 | _=>False
theorem B6{m k:AV}{K:aP->Prop}(h:vV P mem t m k v K):∃m',oK P mem t m k v=some m'/\K m':=by
 unfold vV at h;unfold oK;split at h
 .rename_i kt et hu;simp only[hu];obtain⟨h1,h⟩:=cR.1 h;simp only[h1];split at h
  .split at h
   .rename_i es hid;simp only[hid];obtain⟨r,h2,h⟩:=dF.1 h;split at h
    .obtain⟨e,h3,h⟩:=dF.1 h;obtain⟨h4,h⟩:=cR.1 h;exact⟨_,by simp only[h2,h3,h4],uV.1 (dE.1 h)⟩
    .exact⟨_,by simp only[h2],uV.1 (iM.1 h)⟩
   .exact h.elim
  .exact h.elim
 .exact h.elim
end Go.Ax
