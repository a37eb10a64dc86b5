/- A part of the proof. -/
import Derived.Test.YtpajadlnaokngaaGreatDoorAx4
set_option linter.unusedVariables false
set_option linter.unusedSimpArgs false
set_option linter.unusedSectionVars false
namespace Go.Ax
open Go
def GW(b:Bool)(p q:Prop):Prop:=
 match b with
 | true=>p
 | false=>q
def kL(b:Bool)(p:Prop):Prop:=
 match b with
 | true=>p
 | false=>False
def opt{α:Type}(o:Option α)(K:α->Prop):Prop:=
 match o with
 | some a=>K a
 | none=>False
theorem aE{b:Bool}{p q:Prop}(h1:b=true->p)(h2:b=false->q):GW b p q:=by
 cases b
 ·exact h2 rfl
 ·exact h1 rfl
theorem bB{b:Bool}{p:Prop}:kL b p↔b=true/\p:=by cases b<;>simp[kL]
theorem aM{b:Bool}{p:Prop}(h:b=true)(hp:p):kL b p:=bB.2 ⟨h,hp⟩
theorem bG{α:Type}{o:Option α}{K:α->Prop}:opt o K↔∃a,o=some a/\K a:=by cases o<;>simp[opt]
theorem aD{α:Type}{o:Option α}{K:α->Prop}{a:α}(h:o=some a)(hk:K a):opt o K:=bG.2 ⟨a,h,hk⟩
def lK(n:Nat)(K:Nat->Prop):Prop:=
 match n with
 | 0=>K 0
 | Nat.succ m=>K (Nat.succ m)
theorem cU{n:Nat}{K:Nat->Prop}:lK n K↔K n:=by cases n<;>rfl
def KX(n:Int)(K:Int->Prop):Prop:=
 match n with
 | .ofNat m=>lK m fun m=>K (.ofNat m)
 | .negSucc m=>lK m fun m=>K (.negSucc m)
theorem IL{n:Int}{K:Int->Prop}:KX n K↔K n:=by cases n<;>simp[KX,cU]
def sS(cl:Bool)(n:Nat)(K:Nat->Prop):Prop:=
 match cl with
 | true=>lK n K
 | false=>K n
theorem fH{cl:Bool}{n:Nat}{K:Nat->Prop}:sS cl n K↔K n:=by cases cl<;>simp[sS,cU]
def nD(cl:Bool)(k:IntKind)(n:Int)(K:AV->Prop):Prop:=
 match cl with
 | true=>KX n fun n=>K (.int k n)
 | false=>K (.int k n)
theorem jD{cl:Bool}{k:IntKind}{n:Int}{K:AV->Prop}:nD cl k n K↔K (.int k n):=by cases cl<;>simp[nD,IL]
def iR(cl:Bool)(b:Bool)(K:AV->Prop):Prop:=
 match cl with
 | true=>match b with
  | true=>K (.bool true)
  | false=>K (.bool false)
 | false=>K (.bool b)
theorem i6{cl:Bool}{b:Bool}{K:AV->Prop}:iR cl b K↔K (.bool b):=by cases cl<;>cases b<;>rfl
def qH{α:Type}:List α->(List α->Prop)->Prop
 | [],K=>K []
 | x::r,K=>qH r fun l=>K (x::l)
theorem iT{α:Type}:∀{l:List α} {K:List α->Prop},qH l K↔K l
 | [],K=>Iff.rfl
 | x::r,K=>by simp[qH,iT]
def nT{α:Type}(cl:Bool)(l:List α)(K:List α->Prop):Prop:=
 match cl with
 | true=>qH l K
 | false=>K l
theorem fM{α:Type}{cl:Bool}{l:List α}{K:List α->Prop}:nT cl l K↔K l:=by cases cl<;>simp[nT,iT]
def u0{α:Type}:List α->List α->(List α->Prop)->Prop
 | [],ys,K=>K ys
 | x::r,ys,K=>u0 r ys fun l=>K (x::l)
theorem fG{α:Type}:∀{xs ys:List α} {K:List α->Prop},u0 xs ys K↔K (xs++ys)
 | [],ys,K=>Iff.rfl
 | x::r,ys,K=>by simp[u0,fG]
def Dw{α:Type}:List α->Nat->α->(List α->Prop)->Prop
 | [],_,_,K=>K []
 | _::r,0,v,K=>K (v::r)
 | x::r,i+1,v,K=>Dw r i v fun l=>K (x::l)
theorem bQ{α:Type}:∀{xs:List α} {i:Nat} {v:α} {K:List α->Prop},Dw xs i v K↔K (xs.set i v)
 | [],_,_,K=>Iff.rfl
 | _::r,0,v,K=>Iff.rfl
 | x::r,i+1,v,K=>by simp[Dw,bQ]
def zM{α:Type}:Nat->List α->(List α->Prop)->Prop
 | 0,_,K=>K []
 | _+1,[],_=>False
 | n+1,c::r,K=>zM n r fun l=>K (c::l)
theorem AL{α:Type}:∀{n:Nat} {l:List α} {K:List α->Prop},zM n l K↔(l.take n).length=n/\K (l.take n)
 | 0,l,K=>by simp[zM]
 | n+1,[],K=>by simp[zM]
 | n+1,c::r,K=>by simp[zM,AL]
def Bu{α:Type}:List (Nat × α)->Nat->α->(List (Nat × α)->Prop)->Prop
 | [],j,v,K=>K [(j,v)]
 | (i,u)::r,j,v,K=>match Nat.beq i j with
  | true=>K ((i,v)::r)
  | false=>Bu r j v fun l=>K ((i,u)::l)
theorem iN{α:Type}:∀{l:List (Nat × α)} {j:Nat} {v:α} {K:List (Nat × α)->Prop},Bu l j v K↔K (up l j v)
 | [],j,v,K=>Iff.rfl
 | (i,u)::r,j,v,K=>by
  simp only[Bu,up];cases Nat.beq i j
  ·exact iN
  ·exact Iff.rfl
def AF:Nat->aK->(aK->Prop)->Prop
 | _,[],K=>K []
 | id,(k,u)::r,K=>match Nat.beq k id with
  | true=>K r
  | false=>AF id r fun l=>K ((k,u)::l)
theorem pB:∀{id:Nat} {m:aK} {K:aK->Prop},AF id m K↔K (drop id m)
 | _,[],K=>Iff.rfl
 | id,(k,u)::r,K=>by
  simp only[AF,drop];cases Nat.beq k id
  ·exact pB
  ·exact Iff.rfl
def iA(Γ:List (Nat × AV))(sl:List (Nat × AV))(x:Operand)(K:AV->Prop):Prop:=
 match x with
 | .tmp t=>opt (lk sl t) K
 | .const (.string s)=>qH s.data.toList fun l=>K (.str l)
 | .const v=>opt (qI v) K
 | .global g=>opt (lk Γ g) fun v=>K (.ip v)
 | .func f=>K (.fn (.func f) [] [])
theorem bH{Γ:List (Nat × AV)}{s:St}{x:Operand}{K:AV->Prop}(h:iA Γ s.sl x K):∃v,ev Γ s x=some v/\K v:=by
 unfold iA at h;split at h
 ·exact bG.1 h
 ·exact⟨_,rfl,iT.1 h⟩
 ·exact bG.1 h
 ·obtain⟨v,h1,h2⟩:=bG.1 h;exact⟨_,by simp[ev,h1],h2⟩
 ·exact⟨_,rfl,h⟩
def CT(Γ:List (Nat × AV))(sl:List (Nat × AV)):List Operand->(List AV->Prop)->Prop
 | [],K=>K []
 | x::r,K=>iA Γ sl x fun a=>CT Γ sl r fun l=>K (a::l)
theorem kO{Γ:List (Nat × AV)}{s:St}:∀{xs:List Operand} {K:List AV->Prop},CT Γ s.sl xs K->∃l,vU Γ s xs=some l/\K l
 | [],K,h=>⟨[],rfl,h⟩
 | x::r,K,h=>by
  obtain⟨a,h1,h2⟩:=bH h;obtain⟨l,h3,h4⟩:=kO h2;exact⟨a::l,by simp[vU,h1,h3],h4⟩
def l7(Γ:List (Nat × AV))(sl:List (Nat × AV)):List (Nat × Operand)->(List (Nat × AV)->Prop)->Prop
 | [],K=>K []
 | (i,x)::r,K=>iA Γ sl x fun a=>l7 Γ sl r fun l=>K ((i,a)::l)
theorem oN{Γ:List (Nat × AV)}{s:St}:∀{xs:List (Nat × Operand)} {K:List (Nat × AV)->Prop},l7 Γ s.sl xs K->∃l,fS Γ s xs=some l/\K l
 | [],K,h=>⟨[],rfl,h⟩
 | (i,x)::r,K,h=>by
  obtain⟨a,h1,h2⟩:=bH h;obtain⟨l,h3,h4⟩:=oN h2;exact⟨(i,a)::l,by simp[fS,h1,h3],h4⟩
def AQ(Γ:List (Nat × AV))(sl:List (Nat × AV))(x:Option Operand)(K:Option AV->Prop):Prop:=
 match x with
 | none=>K none
 | some x=>iA Γ sl x fun a=>K (some a)
theorem tO{Γ:List (Nat × AV)}{s:St}{x:Option Operand}{K:Option AV->Prop}(h:AQ Γ s.sl x K):∃l,qK Γ s x=some l/\K l:=by
 cases x with
 | none=>exact⟨none,rfl,h⟩
 | some x=>
  obtain⟨a,h1,h2⟩:=bH h;exact⟨some a,by simp[qK,h1],h2⟩
def v6(sh:Option Nat)(cs:List AV)(j:Nat)(K:AV->Prop):Prop:=
 match sh with
 | none=>opt cs[j]? fun c=>opt (one c) K
 | some n=>zM n (cs.drop j) fun l=>K (.agg l)
theorem iB{sh:Option Nat}{cs:List AV}{j:Nat}{K:AV->Prop}(h:v6 sh cs j K):∃v,sub sh cs j=some v/\K v:=by
 unfold v6 at h;split at h
 ·obtain⟨c,h1,h2⟩:=bG.1 h;obtain⟨v,h3,h4⟩:=bG.1 h2;exact⟨v,by simp[sub,h1,h3],h4⟩
 ·obtain⟨h1,h2⟩:=AL.1 h;refine⟨_, ?_,h2⟩;simp only[sub];rw[h1];simp
def Ch(P:Program)(mem:aK)(t:TypeId)(p:AV)(K:AV->Prop):Prop:=
 match p with
 | .ip u=>match y6 P t with
  | some sh=>v6 sh u.cells 0 K
  | none=>False
 | .ptr id i j=>match lk mem id with
  | some (.row _ sz xs)=>opt xs[i]? fun x=>match y6 P t with
   | some sh=>match P.underlying t with
    | some (.array _ _)=>match sub sh x.cells j with
     | some _=>v6 sh x.cells j K
     | none=>v6 sh (zY xs) (i*sz+j) K
    | _=>v6 sh x.cells j K
   | none=>False
  | _=>False
 | _=>False
theorem FK{P:Program}{mem:aK}{t:TypeId}{p:AV}{K:AV->Prop}(h:Ch P mem t p K):∃v,xK P mem t p=some v/\K v:=by
 unfold Ch at h;unfold xK;split at h
 ·split at h
  ·rename_i sh hsh;obtain⟨v,h1,h2⟩:=iB h;exact⟨v,by simp[hsh,h1],h2⟩
  ·exact h.elim
 ·split at h
  ·rename_i hid;obtain⟨x,hx,h⟩:=bG.1 h;split at h
   ·rename_i sh hsh;split at h
    ·rename_i hu;split at h
     ·obtain⟨v,h1,h2⟩:=iB h;exact⟨v,by simp only[hid,hx,hsh,h1],h2⟩
     ·rename_i hn;obtain⟨v,h1,h2⟩:=iB h;exact⟨v,by simp only[hid,hx,hsh,hn,hu,h1],h2⟩
    ·obtain⟨v,h1,h2⟩:=iB h;exact⟨v,by simp only[hid,hx,hsh,h1],h2⟩
   ·exact h.elim
  ·exact h.elim
 ·exact h.elim
def mM(P:Program)(t:TypeId)(f:Nat)(p:AV)(K:AV->Prop):Prop:=
 match P.underlying t with
 | some (.struct fs)=>match fs[f]? with
  | some fd=>match eC P fd.type with
   | some (_+1)=>match p with
    | .ptr id i j=>lK (j+fd.offset) fun j=>K (.ptr id i j)
    | .ip u=>match y6 P fd.type with
     | some sh=>v6 sh u.cells fd.offset fun v=>K (.ip v)
     | none=>False
    | _=>False
   | _=>False
  | none=>False
 | _=>False
theorem AT{P:Program}{t:TypeId}{f:Nat}{p:AV}{K:AV->Prop}(h:mM P t f p K):∃v,kK P t f p=some v/\K v:=by
 unfold mM at h;unfold kK;split at h
 ·rename_i fs hu;split at h
  ·rename_i fd hfd;split at h
   ·rename_i n hn;split at h
    ·exact⟨_,by simp[hu,hfd,hn],cU.1 h⟩
    ·split at h
     ·rename_i sh hsh;obtain⟨v,h1,h2⟩:=iB h;exact⟨_,by simp[hu,hfd,hn,hsh,h1],h2⟩
     ·exact h.elim
    ·exact h.elim
   ·exact h.elim
  ·exact h.elim
 ·exact h.elim
def AZ(P:Program)(t:TypeId)(f:Nat)(v:AV)(K:AV->Prop):Prop:=
 match P.underlying t with
 | some (.struct fs)=>match fs[f]? with
  | some fd=>match v with
   | .agg cs=>match y6 P fd.type with
    | some sh=>v6 sh cs fd.offset K
    | none=>False
   | _=>False
  | none=>False
 | _=>False
theorem HQ{P:Program}{t:TypeId}{f:Nat}{p:AV}{K:AV->Prop}(h:AZ P t f p K):∃v,wW P t f p=some v/\K v:=by
 unfold AZ at h;unfold wW;split at h
 ·rename_i fs hu;split at h
  ·rename_i fd hfd;split at h
   ·split at h
    ·rename_i sh hsh;obtain⟨v,h1,h2⟩:=iB h;exact⟨v,by simp[hu,hfd,hsh,h1],h2⟩
    ·exact h.elim
   ·exact h.elim
  ·exact h.elim
 ·exact h.elim
def mL(cl:Bool)(P:Program)(mem:aK)(t:TypeId)(p ix:AV)(K:AV->Prop):Prop:=
 match ix with
 | .int _ n=>kL (decide (0<=n)) (match P.underlying t with
   | some (.slice e)=>match eC P e with
    | some sz=>match p with
     | .sl id off len=>match lk mem id with
      | some (.row _ _ xs)=>kL (Nat.blt n.toNat len) (opt xs[off+n.toNat]? fun x=>kL (Nat.beq x.cells.length sz) (sS cl (off+n.toNat) fun m=>K (.ptr id m 0)))
      | _=>False
     | .il sz' xs=>opt xs[n.toNat]? fun x=>kL (Nat.beq sz sz') (K (.ip x))
     | _=>False
    | none=>False
   | some (.array m e)=>match eC P e,y6 P e with
    | some sz,some sh=>kL (Nat.blt n.toNat m) (match p with
      | .ptr id i j=>match v9 mem id i j sz with
       | true=>sS cl (i+n.toNat) fun m=>K (.ptr id m 0)
       | false=>sS cl (j+n.toNat*sz) fun m=>K (.ptr id i m)
      | .ip u=>v6 sh u.cells (n.toNat*sz) fun v=>K (.ip v)
      | _=>False)
    | _,_=>False
   | _=>False)
 | _=>False
theorem Ah{cl:Bool}{P:Program}{mem:aK}{t:TypeId}{p ix:AV}{K:AV->Prop}(h:mL cl P mem t p ix K):∃v,kW P mem t p ix=some v/\K v:=by
 unfold mL at h;split at h
 ·rename_i kk n;obtain⟨hn,h⟩:=bB.1 h;unfold kW;simp only[hn];split at h
  ·rename_i e hu;simp only[hu];split at h
   ·rename_i sz hsz;simp only[hsz];split at h
    ·rename_i id off len;split at h
     ·rename_i hid;obtain⟨h1,h⟩:=bB.1 h;obtain⟨x,hx,h⟩:=bG.1 h;obtain⟨h2,h⟩:=bB.1 h;exact⟨_,by simp[hid,h1,hx,h2],fH.1 h⟩
     ·exact h.elim
    ·obtain⟨x,hx,h⟩:=bG.1 h;obtain⟨h2,h⟩:=bB.1 h;exact⟨_,by simp[hx,h2],h⟩
    ·exact h.elim
   ·exact h.elim
  ·rename_i m e hu;simp only[hu];split at h
   ·rename_i sz sh hsz hsh;simp only[hsz,hsh];obtain⟨h1,h⟩:=bB.1 h;simp only[h1];split at h
    ·split at h
     ·rename_i he;exact⟨_,by simp[he],fH.1 h⟩
     ·rename_i he;exact⟨_,by simp[he],fH.1 h⟩
    ·obtain⟨v,h2,h3⟩:=iB h;exact⟨_,by simp[h2],h3⟩
    ·exact h.elim
   ·exact h.elim
  ·exact h.elim
 ·exact h.elim
def Aw(cl:Bool)(P:Program)(t:TypeId)(v ix:AV)(K:AV->Prop):Prop:=
 match ix with
 | .int _ n=>kL (decide (0<=n)) (match P.underlying t with
   | some .string=>match v with
    | .str s=>opt s[n.toNat]? fun b=>nD cl .u8 (b.toNat:Int) K
    | _=>False
   | some (.array m e)=>match v with
    | .agg cs=>kL (Nat.blt n.toNat m) (match eC P e,y6 P e with
      | some sz,some sh=>v6 sh cs (n.toNat*sz) K
      | _,_=>False)
    | _=>False
   | _=>False)
 | _=>False
theorem IH{cl:Bool}{P:Program}{t:TypeId}{p ix:AV}{K:AV->Prop}(h:Aw cl P t p ix K):∃v,vQ P t p ix=some v/\K v:=by
 unfold Aw at h;split at h
 ·rename_i kk n;obtain⟨hn,h⟩:=bB.1 h;unfold vQ;simp only[hn];split at h
  ·rename_i hu;simp only[hu];split at h
   ·obtain⟨b,hb,h⟩:=bG.1 h;exact⟨_,by simp[hb],jD.1 h⟩
   ·exact h.elim
  ·rename_i m e hu;simp only[hu];split at h
   ·obtain⟨h1,h⟩:=bB.1 h;simp only[h1];split at h
    ·rename_i sz sh hsz hsh;obtain⟨v,h2,h3⟩:=iB h;exact⟨v,by simp[hsz,hsh,h2],h3⟩
    ·exact h.elim
   ·exact h.elim
  ·exact h.elim
 ·exact h.elim
def DL(cl:Bool)(op:BinOp)(k:IntKind)(x y:Int)(K:AV->Prop):Prop:=
 match op with
 | .add=>nD cl k (k.wrap (x+y)) K
 | .sub=>nD cl k (k.wrap (x-y)) K
 | .mul=>nD cl k (k.wrap (x*y)) K
 | .quo=>kL (!decide (y=0)) (nD cl k (k.wrap (x.tdiv y)) K)
 | .rem=>kL (!decide (y=0)) (nD cl k (x.tmod y) K)
 | .and=>nD cl k (bits .and k x y) K
 | .or=>nD cl k (bits .or k x y) K
 | .xor=>nD cl k (bits .xor k x y) K
 | .andNot=>nD cl k (bits .andNot k x y) K
 | .eql=>iR cl (x == y) K
 | .neq=>iR cl (x != y) K
 | .lss=>iR cl (decide (x<y)) K
 | .leq=>iR cl (decide (x<=y)) K
 | .gtr=>iR cl (decide (x>y)) K
 | .geq=>iR cl (decide (x≥y)) K
 | _=>False
theorem Hs{cl:Bool}{op:BinOp}{k:IntKind}{x y:Int}{K:AV->Prop}(h:DL cl op k x y K):∃v,yF op k x y=some v/\K v:=by
  cases op<;>simp only[DL,jD,i6] at h<;>simp only[yF]<;>first
    | exact h.elim
    | exact⟨_,rfl,h⟩
    | (obtain⟨h1,h2⟩:=bB.1 h
       have:decide (y=0)=false:=by simpa using h1
       rw[this];exact⟨_,rfl,h2⟩)
def Do(cl:Bool)(op:BinOp)(x y:List UInt8)(K:AV->Prop):Prop:=
 match op with
 | .add=>kL (Nat.ble (x.length+y.length) 9223372036854775807) (match cl with
   | true=>u0 x y fun l=>K (.str l)
   | false=>K (.str (x++y)))
 | .eql=>iR cl (x == y) K
 | .neq=>iR cl (!(x == y)) K
 | .lss=>iR cl (Op.bytesLess x y) K
 | .leq=>iR cl (Op.bytesLess x y || x == y) K
 | .gtr=>iR cl (!(Op.bytesLess x y || x == y)) K
 | .geq=>iR cl (!(Op.bytesLess x y)) K
 | _=>False
theorem Ht{cl:Bool}{op:BinOp}{x y:List UInt8}{K:AV->Prop}(h:Do cl op x y K):∃v,xH op x y=some v/\K v:=by
  cases op<;>simp only[Do,i6] at h<;>simp only[xH]<;>first
    | exact h.elim
    | exact⟨_,rfl,h⟩
    | (obtain⟨h1,h2⟩:=bB.1 h
       have h1':decide ((x.length:Int)+y.length<=9223372036854775807)=true:=by have:=Mh h1;simp;omega
       rw[h1'];refine⟨_,rfl, ?_⟩;cases cl
       · exact h2
       · exact fG.1 h2)
def DG(cl:Bool)(op:BinOp)(k:IntKind)(x y:Int)(K:AV->Prop):Prop:=
 kL (!decide (y<0)) (match op with
  | .shl=>nD cl k (k.wrap (x*2 ^ (min y.toNat k.bits))) K
  | .shr=>nD cl k (x.fdiv (2 ^ (min y.toNat k.bits))) K
  | _=>False)
theorem Cc{cl:Bool}{op:BinOp}{k:IntKind}{x y:Int}{K:AV->Prop}(h:DG cl op k x y K):∃v,tG op k x y=some v/\K v:=by
 obtain⟨h1,h2⟩:=bB.1 h;have h1:decide (y<0)=false:=by simpa using h1
 unfold tG;rw[h1];cases op<;>simp only[jD] at h2<;>first|exact h2.elim|exact⟨_,rfl,h2⟩
def JC(cl:Bool)(P:Program)(op:BinOp)(t:TypeId)(xo yo:Operand)(x y:AV)(K:AV->Prop):Prop:=
 match x,y with
 | .int k a,.int k' b=>match op with
  | .shl=>DG cl .shl k a b K
  | .shr=>DG cl .shr k a b K
  | _=>kL (decide (k=k')) (DL cl op k a b K)
 | .str a,.str b=>Do cl op a b K
 | .agg a,.agg b=>match P.eqGuardType P.depth t with
  | false=>match op with
   | .eql=>opt (DS P t a b) fun r=>iR cl r K
   | .neq=>opt (DS P t a b) fun r=>iR cl (!r) K
   | _=>False
  | true=>False
 | x,y=>match op with
  | .eql=>opt (Hl P (iI xo || iI yo) t x y) fun b=>iR cl b K
  | .neq=>opt (Hl P (iI xo || iI yo) t x y) fun b=>iR cl (!b) K
  | _=>False
theorem Jv{cl:Bool}{P:Program}{op:BinOp}{t:TypeId}{xo yo:Operand}{x y:AV}{K:AV->Prop}(h:JC cl P op t xo yo x y K):∃v,Hy P op t xo yo x y=some v/\K v:=by
 unfold JC at h;unfold Hy;split at h
 ·split at h
  ·exact Cc h
  ·exact Cc h
  ·obtain⟨h1,h2⟩:=bB.1 h;simp only[h1];obtain⟨v,h3,h4⟩:=Hs h2;refine⟨v, ?_,h4⟩;cases op<;>first|exact h3|contradiction
 ·exact Ht h
 ·split at h
  ·rename_i hg;simp only[hg];split at h
   ·obtain⟨b,hb,h⟩:=bG.1 h;exact⟨.bool b,by simp only[hb],i6.1 h⟩
   ·obtain⟨b,hb,h⟩:=bG.1 h;exact⟨.bool (!b),by simp only[hb],i6.1 h⟩
   ·exact h.elim
  ·exact h.elim
 ·rename_i h1 h2 h3;split at h
  ·obtain⟨b,hb,h⟩:=bG.1 h;refine⟨.bool b, ?_,i6.1 h⟩;cases x<;>cases y<;>first|(simp only[hb];done)|(exact(h1 _ _ _ _ rfl rfl).elim)|(exact(h2 _ _ rfl rfl).elim)|(exact(h3 _ _ rfl rfl).elim)
  ·obtain⟨b,hb,h⟩:=bG.1 h;refine⟨.bool (!b), ?_,i6.1 h⟩;cases x<;>cases y<;>first|(simp only[hb];done)|(exact(h1 _ _ _ _ rfl rfl).elim)|(exact(h2 _ _ rfl rfl).elim)|(exact(h3 _ _ rfl rfl).elim)
  ·exact h.elim
def Lr(cl:Bool)(op:UnOp)(x:AV)(K:AV->Prop):Prop:=
 match op,x with
 | .neg,.int k n=>nD cl k (k.wrap (0-n)) K
 | .not,.bool b=>iR cl (!b) K
 | _,_=>False
theorem Lf{cl:Bool}{op:UnOp}{x:AV}{K:AV->Prop}(h:Lr cl op x K):∃v,Lv op x=some v/\K v:=by
 unfold Lr at h;split at h
 ·exact⟨_,rfl,jD.1 h⟩
 ·exact⟨_,rfl,i6.1 h⟩
 ·exact h.elim
def FZ(cl:Bool)(P:Program)(mem:aK)(src dst:TypeId)(x:AV)(K:AV->Prop):Prop:=
 match P.underlying src with
 | none=>False
 | some d=>match P.underlying dst with
  | some (.int k)=>match x with
   | .int _ n=>nD cl k (k.wrap n) K
   | _=>False
  | some .string=>match x with
   | .str s=>K (.str s)
   | .nsl=>match d with
    | .slice e=>match P.underlying e with
     | some (.int .u8)=>K (.str [])
     | _=>False
    | _=>False
   | .il sz xs=>match d with
    | .slice e=>match P.underlying e with
     | some (.int .u8)=>kL (Nat.beq sz 1) (opt (fQ xs) fun l=>nT cl l fun l=>K (.str l))
     | _=>False
    | _=>False
   | .sl id off len=>match d with
    | .slice e=>match P.underlying e with
     | some (.int .u8)=>match lk mem id with
      | some (.row _ _ xs)=>kL (Nat.ble (off+len) xs.length) (opt (fQ ((xs.drop off).take len)) fun l=>nT cl l fun l=>K (.str l))
      | _=>False
     | _=>False
    | _=>False
   | _=>False
  | some .unsafePointer=>opt (Ip P mem d x) K
  | some (.pointer u)=>opt (At P mem d u x) K
  | _=>False
theorem IV{cl:Bool}{P:Program}{mem:aK}{src dst:TypeId}{x:AV}{K:AV->Prop}(h:FZ cl P mem src dst x K):∃v,wR P mem src dst x=some v/\K v:=by
 unfold FZ at h;split at h
 ·exact h.elim
 ·rename_i d hd;unfold wR;simp only[hd];split at h
  ·rename_i k hu;simp only[hu];split at h
   ·exact⟨_,rfl,jD.1 h⟩
   ·exact h.elim
  ·rename_i hu;simp only[hu];split at h
   ·exact⟨_,rfl,h⟩
   ·split at h
    ·split at h
     ·rename_i he;exact⟨_,by simp only[he],h⟩
     ·exact h.elim
    ·exact h.elim
   ·split at h
    ·split at h
     ·rename_i he;obtain⟨h1,h⟩:=bB.1 h;obtain⟨l,h2,h⟩:=bG.1 h;exact⟨_,by simp only[he,h1,h2],fM.1 h⟩
     ·exact h.elim
    ·exact h.elim
   ·split at h
    ·split at h
     ·rename_i he;split at h
      ·rename_i hid;obtain⟨h1,h⟩:=bB.1 h;obtain⟨l,h2,h⟩:=bG.1 h;exact⟨_,by simp only[he,hid,h1,h2],fM.1 h⟩
      ·exact h.elim
     ·exact h.elim
    ·exact h.elim
   ·exact h.elim
  ·rename_i hu;simp only[hu];obtain⟨v,h1,h⟩:=bG.1 h;exact⟨v,h1,h⟩
  ·rename_i u hu;simp only[hu];obtain⟨v,h1,h⟩:=bG.1 h;exact⟨v,h1,h⟩
  ·exact h.elim
def A6:List AV->Nat->List AV->(List AV->Prop)->Prop
 | cells,_,[],K=>K cells
 | cells,off,v::r,K=>Dw cells off v fun c=>A6 c (off+1) r K
theorem x7(off:Nat):∀(vs:List AV) (k:Nat) (cells:List AV) (K:List AV->Prop),A6 cells (off+k) vs K↔K ((vs.zipIdx k).foldl (fun cs p=>cs.set (off+p.2) p.1) cells)
 | [],k,cells,K=>Iff.rfl
 | v::r,k,cells,K=>by
  simp only[A6,bQ,Oq,NG];have:=x7 off r (k+1) (cells.set (off+k) v) K;rw[←Nat.add_assoc] at this;exact this
def CK(place:Nat->Option (Nat × Nat)):List AV->List (Nat × AV)->(List AV->Prop)->Prop
 | cells,[],K=>K cells
 | cells,(i,v)::r,K=>match place i with
  | none=>False
  | some (off,size)=>kL (hY v && (Nat.beq v.cells.length size && Nat.ble (off+v.cells.length) cells.length)) (A6 cells off v.cells fun cs=>CK place cs r K)
theorem BF{place:Nat->Option (Nat × Nat)}:∀{parts:List (Nat × AV)} {cells:List AV} {K:List AV->Prop},CK place cells parts K->∃l,rU place cells parts=some l/\K l
 | [],cells,K,h=>⟨cells,by simp[rU],h⟩
 | (i,v)::r,cells,K,h=>by
  simp only[CK] at h;simp only[rU];split at h
  ·exact h.elim
  ·rename_i off size hp;obtain⟨h1,h2⟩:=bB.1 h;have h3:=(x7 off v.cells 0 cells _).1 h2;obtain⟨l,h4,h5⟩:=BF h3;exact⟨l,by simp only[hp,h1];exact h4,h5⟩
def AR(P:Program)(t:TypeId)(parts:List (Nat × AV))(K:AV->Prop):Prop:=
 match P.info? t with
 | some it=>match it.zero with
  | some z=>match qI z with
   | some (.agg zs)=>match P.underlying t with
    | some (.array _ e)=>match eC P e with
     | some n=>CK (fun i=>some (i*n,n)) zs parts fun cs=>K (.agg cs)
     | none=>False
    | some (.struct fs)=>match pN P fs.toList with
     | some places=>CK (fun i=>places[i]?) zs parts fun cs=>K (.agg cs)
     | none=>False
    | _=>False
   | _=>False
  | none=>False
 | none=>False
theorem Gv{P:Program}{t:TypeId}{parts:List (Nat × AV)}{K:AV->Prop}(h:AR P t parts K):∃v,xW P t parts=some v/\K v:=by
 unfold AR at h;unfold xW;split at h
 ·rename_i it h1;simp only[h1];split at h
  ·rename_i z h2;simp only[h2];split at h
   ·rename_i zs h3;simp only[h3];split at h
    ·rename_i e h4;simp only[h4];split at h
     ·rename_i n h5;simp only[h5];obtain⟨l,h6,h7⟩:=BF h;exact⟨_,by rw[h6],h7⟩
     ·exact h.elim
    ·rename_i fs h4;simp only[h4];split at h
     ·rename_i n h5;simp only[h5];obtain⟨l,h6,h7⟩:=BF h;exact⟨_,by rw[h6],h7⟩
     ·exact h.elim
    ·exact h.elim
   ·exact h.elim
  ·exact h.elim
 ·exact h.elim
def gB(d:Nat)(x:Option AV)(K:Nat->Prop):Prop:=
 match x with
 | none=>K d
 | some (.int _ n)=>kL (decide (0<=n)) (K n.toNat)
 | some _=>False
theorem eI{d:Nat}{x:Option AV}{K:Nat->Prop}(h:gB d x K):∃n,dE d x=some n/\K n:=by
 unfold gB at h;split at h
 ·exact⟨_,rfl,h⟩
 ·obtain⟨h1,h2⟩:=bB.1 h;exact⟨_,by simp only[dE,h1],h2⟩
 ·exact h.elim
def DO(cl:Bool)(P:Program)(mem:aK)(t:TypeId)(x:AV)(lo hi mx:Option AV)(K:AV->Prop):Prop:=
 match P.underlying t with
 | some .string=>match x,mx with
  | .str s,none=>gB 0 lo fun l=>gB s.length hi fun h=>kL (Nat.ble l h && Nat.ble h s.length) (nT cl ((s.drop l).take (h-l)) fun s=>K (.str s))
  | _,_=>False
 | some (.slice e)=>match eC P e with
  | none=>False
  | some sz=>match x with
   | .nsl=>gB 0 lo fun l=>gB 0 hi fun h=>gB 0 mx fun m=>kL (Nat.beq l 0 && (Nat.beq h 0 && Nat.beq m 0)) (K .nsl)
   | .il sz' xs=>kL (Nat.beq sz sz') (gB 0 lo fun l=>gB xs.length hi fun h=>gB xs.length mx fun m=>kL (Nat.ble l h && (Nat.ble h m && Nat.ble m xs.length)) (nT cl ((xs.drop l).take (h-l)) fun ys=>K (.il sz' ys)))
   | .sl id off len=>match lk mem id with
    | some (.row _ sz0 _)=>kL (Nat.beq sz0 sz) (gB 0 lo fun l=>gB len hi fun h=>gB len mx fun m=>kL (Nat.ble l h && (Nat.ble h m && Nat.ble m len)) (sS cl (off+l) fun o=>sS cl (h-l) fun n=>K (.sl id o n)))
    | _=>False
   | _=>False
 | some (.array n e)=>match eC P e with
  | none=>False
  | some sz=>match x with
   | .ptr id i 0=>match lk mem id with
    | some (.row _ _ xs)=>kL (v9 mem id i 0 sz && Nat.ble (i+n) xs.length) (gB 0 lo fun l=>gB n hi fun h=>gB n mx fun m=>kL (Nat.ble l h && (Nat.ble h m && Nat.ble m n)) (sS cl (i+l) fun o=>sS cl (h-l) fun n=>K (.sl id o n)))
    | _=>False
   | _=>False
 | _=>False
theorem G4{cl:Bool}{P:Program}{mem:aK}{t:TypeId}{x:AV}{lo hi mx:Option AV}{K:AV->Prop}(h:DO cl P mem t x lo hi mx K):∃v,xO P mem t x lo hi mx=some v/\K v:=by
 unfold DO at h;unfold xO;split at h
 ·rename_i hu;simp only[hu];split at h
  ·rename_i s;obtain⟨l,h1,h⟩:=eI h;obtain⟨h',h2,h⟩:=eI h;obtain⟨h3,h⟩:=bB.1 h;exact⟨_,by simp only[h1,h2,h3],fM.1 h⟩
  ·exact h.elim
 ·rename_i e hu;simp only[hu];split at h
  ·exact h.elim
  ·rename_i sz hsz;simp only[hsz];split at h
   ·obtain⟨l,h1,h⟩:=eI h;obtain⟨h',h2,h⟩:=eI h;obtain⟨m,h3,h⟩:=eI h;obtain⟨h4,h⟩:=bB.1 h;simp only[Mg] at h4;obtain⟨a1,a2,a3⟩:=h4;rw[Nat.eq_of_beq_eq_true a1] at h1;rw[Nat.eq_of_beq_eq_true a2] at h2;rw[Nat.eq_of_beq_eq_true a3] at h3;exact⟨_,by simp only[h1,h2,h3],h⟩
   ·obtain⟨h0,h⟩:=bB.1 h;obtain⟨l,h1,h⟩:=eI h;obtain⟨h',h2,h⟩:=eI h;obtain⟨m,h3,h⟩:=eI h;obtain⟨h4,h⟩:=bB.1 h;exact⟨_,by simp only[h0,h1,h2,h3,h4],fM.1 h⟩
   ·split at h
    ·rename_i hid;obtain⟨h0,h⟩:=bB.1 h;obtain⟨l,h1,h⟩:=eI h;obtain⟨h',h2,h⟩:=eI h;obtain⟨m,h3,h⟩:=eI h;obtain⟨h4,h⟩:=bB.1 h;exact⟨_,by simp only[hid,h0,h1,h2,h3,h4],fH.1 (fH.1 h)⟩
    ·exact h.elim
   ·exact h.elim
 ·rename_i n e hu;simp only[hu];split at h
  ·exact h.elim
  ·rename_i sz hsz;simp only[hsz];split at h
   ·split at h
    ·rename_i hid;obtain⟨h0,h⟩:=bB.1 h;obtain⟨l,h1,h⟩:=eI h;obtain⟨h',h2,h⟩:=eI h;obtain⟨m,h3,h⟩:=eI h;obtain⟨h4,h⟩:=bB.1 h;exact⟨_,by simp only[hid,h0,h1,h2,h3,h4],fH.1 (fH.1 h)⟩
    ·exact h.elim
   ·exact h.elim
 ·exact h.elim
def C5(sz:Nat)(sh:Option Nat):Nat->List AV->(List AV->Prop)->Prop
 | 0,_,K=>K []
 | m+1,cs,K=>v6 sh cs 0 fun x=>C5 sz sh m (cs.drop sz) fun l=>K (x::l)
theorem CZ{sz:Nat}{sh:Option Nat}:∀{m:Nat} {cs:List AV} {K:List AV->Prop},C5 sz sh m cs K->∃l,x9 sz sh m cs=some l/\K l
 | 0,cs,K,h=>⟨[],rfl,h⟩
 | m+1,cs,K,h=>by
  obtain⟨x,h1,h⟩:=iB h;obtain⟨l,h2,h⟩:=CZ h;exact⟨_,by simp only[x9,h1,h2],h⟩
def LV{α:Type}:List α->Nat->Nat
 | [],n=>n
 | _::r,n=>LV r (n+1)
theorem Gb{α:Type}:∀(l:List α) (n:Nat),LV l n=l.length+n
 | [],n=>by simp[LV]
 | _::r,n=>by simp[LV,Gb r];omega
def JQ(P:Program)(t:TypeId)(v:AV)(K:Nat->List AV->Prop):Prop:=
 match P.underlying t with
 | some (.array m e)=>match v with
  | .agg cs=>match eC P e,y6 P e with
   | some sz,some sh=>kL (Nat.beq (sh.getD 1) sz && (Nat.blt 0 sz && Nat.beq cs.length (m*sz))) (C5 sz sh m cs fun xs=>K sz xs)
   | _,_=>False
  | _=>False
 | some _=>kL (hY v) (match v.cells with
  | []=>K 0 []
  | _::_=>lK (LV v.cells 0) fun n=>K n [v])
 | none=>False
theorem Hz{P:Program}{t:TypeId}{v:AV}{K:Nat->List AV->Prop}(h:JQ P t v K):∃sz xs,wC P t v=some (sz,xs)/\K sz xs:=by
 unfold JQ at h;unfold wC;split at h
 ·rename_i m e hu;simp only[hu];split at h
  ·split at h
   ·rename_i sz sh h1 h2;simp only[h1,h2];obtain⟨h3,h⟩:=bB.1 h;obtain⟨l,h4,h⟩:=CZ h;exact⟨_,_,by simp only[h3,h4],h⟩
   ·exact h.elim
  ·exact h.elim
 ·rename_i d hna hu;simp only[hu];obtain⟨h1,h⟩:=bB.1 h;split at h
  ·rename_i hc;refine⟨_,_, ?_,h⟩;cases hd:d<;>first|(exact(hna _ _ hd).elim)|simp only[h1,hc]
  ·rename_i c cs hc;have h:=cU.1 h;rw[Gb,OK] at h;refine⟨_,_, ?_,h⟩;cases hd:d<;>first|(exact(hna _ _ hd).elim)|simp only[h1,hc]
 ·exact h.elim
def Al(P:Program)(mem:aK)(nx:Nat)(t:TypeId)(K:AV->aK->Nat->Prop):Prop:=
 match P.info? t with
 | some i=>match i.zero with
  | some z=>match qI z with
   | some v=>JQ P t v fun sz xs=>lK (nx+1) fun n=>K (.ptr nx 0 0) ((nx,.row t sz xs)::mem) n
   | none=>False
  | none=>False
 | none=>False
theorem Hr{P:Program}{mem:aK}{nx:Nat}{t:TypeId}{K:AV->aK->Nat->Prop}(h:Al P mem nx t K):∃v m n,o5 P mem nx t=some (v,m,n)/\K v m n:=by
 unfold Al at h;unfold o5;split at h
 ·rename_i i h1;simp only[h1];split at h
  ·rename_i z h2;simp only[h2];split at h
   ·rename_i v h3;simp only[h3];obtain⟨sz,xs,h4,h⟩:=Hz h;exact⟨_,_,_,by simp only[h4],cU.1 h⟩
   ·exact h.elim
  ·exact h.elim
 ·exact h.elim
def KE(P:Program)(mem:aK)(nx:Nat)(t:TypeId)(v:AV)(K:AV->aK->Nat->Prop):Prop:=
 JQ P t v fun sz xs=>lK (nx+1) fun n=>K (.ptr nx 0 0) ((nx,.row t sz xs)::mem) n
theorem KR{P:Program}{mem:aK}{nx:Nat}{t:TypeId}{v:AV}{K:AV->aK->Nat->Prop}(h:KE P mem nx t v K):∃r m n,Cb P mem nx t v=some (r,m,n)/\K r m n:=by
 obtain⟨sz,xs,h4,h⟩:=Hz h;exact⟨_,_,_,by simp only[Cb,h4],cU.1 h⟩
def EA(sz:Nat):List AV->List (Nat × AV)->(List AV->Prop)->Prop
 | xs,[],K=>K xs
 | xs,(i,v)::r,K=>kL (hY v && (Nat.beq v.cells.length sz && Nat.blt i xs.length)) (Dw xs i v fun xs=>EA sz xs r K)
theorem Ba{sz:Nat}:∀{parts:List (Nat × AV)} {xs:List AV} {K:List AV->Prop},EA sz xs parts K->∃l,oP sz xs parts=some l/\K l
 | [],xs,K,h=>⟨xs,by simp[oP],h⟩
 | (i,v)::r,xs,K,h=>by
  obtain⟨h1,h⟩:=bB.1 h;obtain⟨l,h2,h⟩:=Ba (bQ.1 h);exact⟨l,by simp only[oP,h1];exact h2,h⟩
def lA(P:Program)(mem:aK)(nx:Nat)(t:TypeId)(len:Nat)(parts:List (Nat × AV))(K:AV->aK->Nat->Prop):Prop:=
 match P.underlying t with
 | some (.slice e)=>match eC P e,jN P e with
  | some sz,some z=>kL (hY z && (Nat.beq z.cells.length sz && (Nat.blt 0 sz && Nat.ble (len*sz) 16777216))) (qH (List.replicate len z) fun zs=>EA sz zs parts fun xs=>lK (nx+1) fun n=>K (.sl nx 0 len) ((nx,.row e sz xs)::mem) n)
  | _,_=>False
 | _=>False
theorem y7{P:Program}{mem:aK}{nx:Nat}{t:TypeId}{len:Nat}{parts:List (Nat × AV)}{K:AV->aK->Nat->Prop}(h:lA P mem nx t len parts K):∃v m n,eZ P mem nx t len parts=some (v,m,n)/\K v m n:=by
 unfold lA at h;unfold eZ;split at h
 ·rename_i e hu;simp only[hu];split at h
  ·rename_i sz z h1 h2;simp only[h1,h2];obtain⟨h3,h⟩:=bB.1 h;obtain⟨l,h4,h⟩:=Ba (iT.1 h);exact⟨_,_,_,by simp only[h3,h4],cU.1 h⟩
  ·exact h.elim
 ·exact h.elim
def lG:List AV->Nat->List AV->(List AV->Prop)->Prop
 | [],_,cs,K=>K cs
 | x::r,0,[],K=>K (x::r)
 | _::r,0,c::cs,K=>lG r 0 cs fun l=>K (c::l)
 | x::r,j+1,cs,K=>lG r j cs fun l=>K (x::l)
theorem o6:∀{xs:List AV} {j:Nat} {cs:List AV} {K:List AV->Prop},lG xs j cs K↔K (xs.take j++cs++xs.drop (j+cs.length))
 | [],j,cs,K=>by simp[lG]
 | x::r,0,[],K=>by simp[lG]
 | x::r,0,c::cs,K=>by simp[lG,o6]
 | x::r,j+1,cs,K=>by simp[lG,o6,Nat.add_right_comm]
def tU(x:AV)(j:Nat)(cs:List AV)(K:AV->Prop):Prop:=
 match x with
 | .agg xs=>lG xs j cs fun l=>K (.agg l)
 | _=>match cs with
  | [c]=>opt (one c) K
  | _=>False
theorem Bf{x:AV}{j:Nat}{cs:List AV}{K:AV->Prop}(h:tU x j cs K):∃v,oS x j cs=some v/\K v:=by
 unfold tU at h;unfold oS;split at h
 ·exact⟨_,rfl,o6.1 h⟩
 ·rename_i hx;split at h
  ·obtain⟨v,h1,h2⟩:=bG.1 h;refine⟨v, ?_,h2⟩;cases x<;>first|exact h1|exact(hx _ rfl).elim
  ·exact h.elim
def wZ:aK->(aK->Prop)->Prop
 | [],K=>K []
 | p::r,K=>wZ r fun r=>K (p::r)
theorem rA:∀{m:aK} {K:aK->Prop},wZ m K↔K m
 | [],K=>Iff.rfl
 | p::r,K=>by simp only[wZ];exact rA
def BB(P:Program)(mem:aK)(t:TypeId)(p v:AV)(K:aK->Prop):Prop:=
 match p with
 | .ptr id i j=>match lk mem id with
  | some (.row t' sz' xs)=>opt xs[i]? fun x=>match eC P t with
   | some n=>kL (hY v && (Nat.beq v.cells.length n && Nat.ble (j+n) x.cells.length)) (tU x j v.cells fun x'=>Dw xs i x' fun xs'=>Bu mem id (.row t' sz' xs') K)
   | none=>False
  | _=>False
 | _=>False
theorem GT{P:Program}{mem:aK}{t:TypeId}{p v:AV}{K:aK->Prop}(h:BB P mem t p v K):∃m,sN P mem t p v=some m/\K m:=by
 unfold BB at h;unfold sN;split at h
 ·split at h
  ·rename_i hid;obtain⟨x,hx,h⟩:=bG.1 h;split at h
   ·rename_i n hn;obtain⟨h1,h⟩:=bB.1 h;obtain⟨x',h2,h⟩:=Bf h;exact⟨_,by simp only[hid,hx,hn,h1,h2],iN.1 (bQ.1 h)⟩
   ·exact h.elim
  ·exact h.elim
 ·exact h.elim
def Au(P:Program)(mem:aK)(t:TypeId)(p v:AV)(K:aK->Prop):Prop:=
 match P.underlying t with
 | some (.array _ _)=>opt (rF P mem t p v) fun m=>wZ m K
 | _=>match v.cells with
  | []=>opt (pQ P mem t p v) K
  | _::_=>BB P mem t p v K
theorem Hw{P:Program}{mem:aK}{t:TypeId}{p v:AV}{K:aK->Prop}(h:Au P mem t p v K):∃m,rF P mem t p v=some m/\K m:=by
 unfold Au at h;split at h
 ·obtain⟨m,h1,h⟩:=bG.1 h;exact⟨m,h1,rA.1 h⟩
 ·split at h
  ·obtain⟨m,h1,h⟩:=bG.1 h;exact⟨m,by simp only[rF,h1],h⟩
  ·rename_i hc;obtain⟨m,h1,h⟩:=GT h;have hz:pQ P mem t p v=none:=by
    unfold pQ;split<;>first|rfl|skip
    split<;>first|rfl|skip
    split<;>first|rfl|skip
    rw[hc]
   exact⟨m,by simp only[rF,hz,h1],h⟩
def Gd(cl:Bool)(P:Program)(mem:aK)(nx:Nat)(t:TypeId)(l c:AV)(K:AV->aK->Nat->Prop):Prop:=
 match l,c with
 | .int _ l,.int _ c=>match P.underlying t with
  | some (.slice e)=>match P.info? e with
   | some i=>match jN P e with
    | some z=>kL (hY z && (Nat.beq z.cells.length i.size && (Nat.blt 0 i.size && (decide (0<=l) && (decide (l<=c) && (decide ((i.bytes:Int)*c<=281474976710656) && decide (c<=9223372036854775807)))))))
      (lK (nx+1) fun n=>nT cl (List.replicate l.toNat z) fun zs=>sS cl l.toNat fun m=>K (.sl nx 0 m) ((nx,.row e i.size zs)::mem) n)
    | none=>False
   | none=>False
  | _=>False
 | _,_=>False
theorem Id{cl:Bool}{P:Program}{mem:aK}{nx:Nat}{t:TypeId}{l c:AV}{K:AV->aK->Nat->Prop}(h:Gd cl P mem nx t l c K):∃v m n,uO P mem nx t l c=some (v,m,n)/\K v m n:=by
 unfold Gd at h;split at h
 ·unfold uO;split at h
  ·rename_i e hu;simp only[hu];split at h
   ·rename_i i h1;simp only[h1];split at h
    ·rename_i z h2;simp only[h2];obtain⟨h3,h⟩:=bB.1 h;have h4:=fH.1 (fM.1 (cU.1 h));exact⟨_,_,_,by simp only[h3],h4⟩
    ·exact h.elim
   ·exact h.elim
  ·exact h.elim
 ·exact h.elim
def Jc(cl:Bool)(mem:aK)(sz:Nat)(x:AV)(K:List AV->Prop):Prop:=
 match x with
 | .nsl=>K []
 | .il sz' ys=>kL (Nat.beq sz' sz) (K ys)
 | .sl id off len=>match lk mem id with
  | some (.row _ sz' xs)=>kL (Nat.beq sz' sz && Nat.ble (off+len) xs.length) (nT cl ((xs.drop off).take len) K)
  | _=>False
 | .str s=>kL (Nat.beq sz 1) (nT cl (s.map fun b=>.int .u8 (b.toNat:Int)) K)
 | _=>False
theorem Hc{cl:Bool}{mem:aK}{sz:Nat}{x:AV}{K:List AV->Prop}(h:Jc cl mem sz x K):∃l,Fz mem sz x=some l/\K l:=by
 unfold Jc at h;unfold Fz;split at h
 ·exact⟨_,rfl,h⟩
 ·obtain⟨h1,h⟩:=bB.1 h;exact⟨_,by simp only[h1],h⟩
 ·split at h
  ·rename_i hid;obtain⟨h1,h⟩:=bB.1 h;exact⟨_,by simp only[hid,h1],fM.1 h⟩
  ·exact h.elim
 ·obtain⟨h1,h⟩:=bB.1 h;exact⟨_,by simp only[h1],fM.1 h⟩
 ·exact h.elim
def Ie(cl:Bool)(xs ys:List AV)(K:List AV->Prop):Prop:=
 match cl with
 | true=>u0 xs ys K
 | false=>K (xs++ys)
theorem CY{cl:Bool}{xs ys:List AV}{K:List AV->Prop}:Ie cl xs ys K↔K (xs++ys):=by cases cl<;>simp[Ie,fG]
def An(cl:Bool)(P:Program)(mem:aK)(nx:Nat)(t u:TypeId)(s x:AV)(K:AV->aK->Nat->Prop):Prop:=
 match P.underlying t with
 | some (.slice e)=>match P.info? e with
  | some i=>match i.zero with
   | some z=>kL (rG (P.underlying u) && (Nat.blt 0 i.size && Nat.beq z.cells.size i.size)) (Jc cl mem i.size x fun ys=>match s with
     | .nsl=>kL (Nat.ble (ys.length*i.bytes) 140737488355328 && Nat.ble ys.length 9223372036854775807) (sS cl ys.length fun l=>lK (nx+1) fun n=>K (.sl nx 0 l) ((nx,.row e i.size ys)::mem) n)
     | .sl id 0 len=>match lk mem id with
      | some (.row t' sz' xs)=>kL (Nat.beq t' e && (Nat.beq sz' i.size && (Nat.beq len xs.length && (Nat.ble ((len+ys.length)*i.bytes) 140737488355328 && Nat.ble (len+ys.length) 9223372036854775807))))
        (Ie cl xs ys fun zs=>sS cl (len+ys.length) fun l=>lK (nx+1) fun n=>AF id mem fun m=>K (.sl nx 0 l) ((nx,.row e i.size zs)::m) n)
      | _=>False
     | _=>False)
   | none=>False
  | none=>False
 | _=>False
theorem GD{cl:Bool}{P:Program}{mem:aK}{nx:Nat}{t u:TypeId}{s x:AV}{K:AV->aK->Nat->Prop}(h:An cl P mem nx t u s x K):∃v m n,mQ P mem nx t u s x=some (v,m,n)/\K v m n:=by
 unfold An at h;unfold mQ;split at h
 ·rename_i e hu;simp only[hu];split at h
  ·rename_i i h1;simp only[h1];split at h
   ·rename_i z h2;simp only[h2];obtain⟨h3,h⟩:=bB.1 h;simp only[h3];obtain⟨ys,h4,h⟩:=Hc h;simp only[h4];split at h
    ·obtain⟨h5,h⟩:=bB.1 h;exact⟨_,_,_,by simp only[h5],cU.1 (fH.1 h)⟩
    ·split at h
     ·rename_i hid;obtain⟨h5,h⟩:=bB.1 h;exact⟨_,_,_,by simp only[hid,h5],pB.1 (cU.1 (fH.1 (CY.1 h)))⟩
     ·exact h.elim
    ·exact h.elim
   ·exact h.elim
  ·exact h.elim
 ·exact h.elim
def pF(cl:Bool)(P:Program)(mem:aK)(nx:Nat)(src dst:TypeId)(x:AV)(K:AV->aK->Nat->Prop):Prop:=
 match P.underlying src with
 | none=>False
 | some _=>match P.underlying dst with
  | some (.slice e)=>match P.underlying e with
   | some (.int .u8)=>match x with
    | .str s=>lK (nx+1) fun n=>sS cl s.length fun l=>nT cl (s.map fun b=>.int .u8 (b.toNat:Int)) fun xs=>K (.sl nx 0 l) ((nx,.row e 1 xs)::mem) n
    | _=>False
   | _=>False
  | _=>False
theorem Cr{cl:Bool}{P:Program}{mem:aK}{nx:Nat}{src dst:TypeId}{x:AV}{K:AV->aK->Nat->Prop}(h:pF cl P mem nx src dst x K):∃v m n,gU P mem nx src dst x=some (v,m,n)/\K v m n:=by
 unfold pF at h;unfold gU;split at h
 ·exact h.elim
 ·rename_i d hd;simp only[hd];split at h
  ·rename_i e hu;simp only[hu];split at h
   ·rename_i he;simp only[he];split at h
    ·exact⟨_,_,_,rfl,fM.1 (fH.1 (cU.1 h))⟩
    ·exact h.elim
   ·exact h.elim
  ·exact h.elim
def kN(P:Program)(mem:aK)(t:TypeId)(m k v:AV)(K:aK->Prop):Prop:=
 match P.underlying t with
 | some (.map kt _)=>kL (Dr P kt k) (match m with
   | .mp id=>match lk mem id with
    | some (.mapb es)=>opt (nM P kt k es 0) fun r=>match r with
     | some (i,_)=>opt es[i]? fun e=>kL (FD e.1 k) (Dw es i (k,v) fun es=>Bu mem id (.mapb es) K)
     | none=>u0 es [(k,v)] fun es=>Bu mem id (.mapb es) K
    | _=>False
   | _=>False)
 | _=>False
theorem rO{P:Program}{mem:aK}{t:TypeId}{m k v:AV}{K:aK->Prop}(h:kN P mem t m k v K):∃m',iZ P mem t m k v=some m'/\K m':=by
 unfold kN at h;unfold iZ;split at h
 ·rename_i kt et hu;simp only[hu];obtain⟨h1,h⟩:=bB.1 h;simp only[h1];split at h
  ·split at h
   ·rename_i es hid;simp only[hid];obtain⟨r,h2,h⟩:=bG.1 h;split at h
    ·obtain⟨e,h3,h⟩:=bG.1 h;obtain⟨h4,h⟩:=bB.1 h;exact⟨_,by simp only[h2,h3,h4],iN.1 (bQ.1 h)⟩
    ·exact⟨_,by simp only[h2],iN.1 (fG.1 h)⟩
   ·exact h.elim
  ·exact h.elim
 ·exact h.elim
end Go.Ax
