/- A part of the proof. -/
import Derived.Test.YtidjhgajglebnaaGreatDoorAx4
set_option linter.unusedVariables false
set_option linter.unusedSimpArgs false
namespace Go.Ax
open Go
def NW(b:Bool)(p q:Prop):Prop:=
 match b with
 | true=>p
 | false=>q
def oF(b:Bool)(p:Prop):Prop:=
 match b with
 | true=>p
 | false=>False
def opt{α:Type}(o:Option α)(K:α->Prop):Prop:=
 match o with
 | some a=>K a
 | none=>False
theorem aD{b:Bool}{p q:Prop}(h1:b=true->p)(h2:b=false->q):NW b p q:=by
 cases b
 ·exact h2 rfl
 ·exact h1 rfl
theorem bU{b:Bool}{p:Prop}:oF b p↔b=true/\p:=by cases b<;>simp[oF]
theorem aM{b:Bool}{p:Prop}(h:b=true)(hp:p):oF b p:=bU.2 ⟨h,hp⟩
theorem cJ{α:Type}{o:Option α}{K:α->Prop}:opt o K↔∃a,o=some a/\K a:=by cases o<;>simp[opt]
theorem aC{α:Type}{o:Option α}{K:α->Prop}{a:α}(h:o=some a)(hk:K a):opt o K:=cJ.2 ⟨a,h,hk⟩
def oV(n:Nat)(K:Nat->Prop):Prop:=
 match n with
 | 0=>K 0
 | Nat.succ m=>K (Nat.succ m)
theorem dM{n:Nat}{K:Nat->Prop}:oV n K↔K n:=by cases n<;>rfl
def RL(n:Int)(K:Int->Prop):Prop:=
 match n with
 | .ofNat m=>oV m fun m=>K (.ofNat m)
 | .negSucc m=>oV m fun m=>K (.negSucc m)
theorem Lu{n:Int}{K:Int->Prop}:RL n K↔K n:=by cases n<;>simp[RL,dM]
def yT(cl:Bool)(n:Nat)(K:Nat->Prop):Prop:=
 match cl with
 | true=>oV n K
 | false=>K n
theorem g9{cl:Bool}{n:Nat}{K:Nat->Prop}:yT cl n K↔K n:=by cases cl<;>simp[yT,dM]
def pP(cl:Bool)(k:IntKind)(n:Int)(K:AV->Prop):Prop:=
 match cl with
 | true=>RL n fun n=>K (.int k n)
 | false=>K (.int k n)
theorem mG{cl:Bool}{k:IntKind}{n:Int}{K:AV->Prop}:pP cl k n K↔K (.int k n):=by cases cl<;>simp[pP,Lu]
def lE(cl:Bool)(b:Bool)(K:AV->Prop):Prop:=
 match cl with
 | true=>match b with
  | true=>K (.bool true)
  | false=>K (.bool false)
 | false=>K (.bool b)
theorem lJ{cl:Bool}{b:Bool}{K:AV->Prop}:lE cl b K↔K (.bool b):=by cases cl<;>cases b<;>rfl
def AE{α:Type}:List α->(List α->Prop)->Prop
 | [],K=>K []
 | x::r,K=>AE r fun l=>K (x::l)
theorem nE{α:Type}:∀{l:List α} {K:List α->Prop},AE l K↔K l
 | [],K=>Iff.rfl
 | x::r,K=>by simp[AE,nE]
def rC{α:Type}(cl:Bool)(l:List α)(K:List α->Prop):Prop:=
 match cl with
 | true=>AE l K
 | false=>K l
theorem iC{α:Type}{cl:Bool}{l:List α}{K:List α->Prop}:rC cl l K↔K l:=by cases cl<;>simp[rC,nE]
def Cl{α:Type}:List α->List α->(List α->Prop)->Prop
 | [],ys,K=>K ys
 | x::r,ys,K=>Cl r ys fun l=>K (x::l)
theorem gE{α:Type}:∀{xs ys:List α} {K:List α->Prop},Cl xs ys K↔K (xs++ys)
 | [],ys,K=>Iff.rfl
 | x::r,ys,K=>by simp[Cl,gE]
def He{α:Type}:List α->Nat->α->(List α->Prop)->Prop
 | [],_,_,K=>K []
 | _::r,0,v,K=>K (v::r)
 | x::r,i+1,v,K=>He r i v fun l=>K (x::l)
theorem dN{α:Type}:∀{xs:List α} {i:Nat} {v:α} {K:List α->Prop},He xs i v K↔K (xs.set i v)
 | [],_,_,K=>Iff.rfl
 | _::r,0,v,K=>Iff.rfl
 | x::r,i+1,v,K=>by simp[He,dN]
def Dm{α:Type}:Nat->List α->(List α->Prop)->Prop
 | 0,_,K=>K []
 | _+1,[],_=>False
 | n+1,c::r,K=>Dm n r fun l=>K (c::l)
theorem DY{α:Type}:∀{n:Nat} {l:List α} {K:List α->Prop},Dm n l K↔(l.take n).length=n/\K (l.take n)
 | 0,l,K=>by simp[Dm]
 | n+1,[],K=>by simp[Dm]
 | n+1,c::r,K=>by simp[Dm,DY]
def Np{α:Type}:List (Nat × α)->Nat->α->(List (Nat × α)->Prop)->Prop
 | [],j,v,K=>K [(j,v)]
 | (i,u)::r,j,v,K=>match Nat.beq i j with
  | true=>K ((i,v)::r)
  | false=>Np r j v fun l=>K ((i,u)::l)
theorem qQ{α:Type}:∀{l:List (Nat × α)} {j:Nat} {v:α} {K:List (Nat × α)->Prop},Np l j v K↔K (up l j v)
 | [],j,v,K=>Iff.rfl
 | (i,u)::r,j,v,K=>by
  simp only[Np,up];cases Nat.beq i j
  ·exact qQ
  ·exact Iff.rfl
def Cy:Nat->aN->(aN->Prop)->Prop
 | _,[],K=>K []
 | id,(k,u)::r,K=>match Nat.beq k id with
  | true=>K r
  | false=>Cy id r fun l=>K ((k,u)::l)
theorem tW:∀{id:Nat} {m:aN} {K:aN->Prop},Cy id m K↔K (drop id m)
 | _,[],K=>Iff.rfl
 | id,(k,u)::r,K=>by
  simp only[Cy,drop];cases Nat.beq k id
  ·exact tW
  ·exact Iff.rfl
def lC(Γ:List (Nat × AV))(sl:List (Nat × AV))(x:Operand)(K:AV->Prop):Prop:=
 match x with
 | .tmp t=>opt (lk sl t) K
 | .const (.string s)=>AE s.data.toList fun l=>K (.str l)
 | .const v=>opt (wP v) K
 | .global g=>opt (lk Γ g) fun v=>K (.ip v)
 | .func f=>K (.fn (.func f) [] [])
theorem b8{Γ:List (Nat × AV)}{s:St}{x:Operand}{K:AV->Prop}(h:lC Γ s.sl x K):∃v,ev Γ s x=some v/\K v:=by
 unfold lC at h;split at h
 ·exact cJ.1 h
 ·exact⟨_,rfl,nE.1 h⟩
 ·exact cJ.1 h
 ·obtain⟨v,h1,h2⟩:=cJ.1 h;exact⟨_,by simp[ev,h1],h2⟩
 ·exact⟨_,rfl,h⟩
def Fi(Γ:List (Nat × AV))(sl:List (Nat × AV)):List Operand->(List AV->Prop)->Prop
 | [],K=>K []
 | x::r,K=>lC Γ sl x fun a=>Fi Γ sl r fun l=>K (a::l)
theorem nK{Γ:List (Nat × AV)}{s:St}:∀{xs:List Operand} {K:List AV->Prop},Fi Γ s.sl xs K->∃l,Cm Γ s xs=some l/\K l
 | [],K,h=>⟨[],rfl,h⟩
 | x::r,K,h=>by
  obtain⟨a,h1,h2⟩:=b8 h;obtain⟨l,h3,h4⟩:=nK h2;exact⟨a::l,by simp[Cm,h1,h3],h4⟩
def xK(Γ:List (Nat × AV))(sl:List (Nat × AV)):List (Nat × Operand)->(List (Nat × AV)->Prop)->Prop
 | [],K=>K []
 | (i,x)::r,K=>lC Γ sl x fun a=>xK Γ sl r fun l=>K ((i,a)::l)
theorem rZ{Γ:List (Nat × AV)}{s:St}:∀{xs:List (Nat × Operand)} {K:List (Nat × AV)->Prop},xK Γ s.sl xs K->∃l,iJ Γ s xs=some l/\K l
 | [],K,h=>⟨[],rfl,h⟩
 | (i,x)::r,K,h=>by
  obtain⟨a,h1,h2⟩:=b8 h;obtain⟨l,h3,h4⟩:=rZ h2;exact⟨(i,a)::l,by simp[iJ,h1,h3],h4⟩
def Ed(Γ:List (Nat × AV))(sl:List (Nat × AV))(x:Option Operand)(K:Option AV->Prop):Prop:=
 match x with
 | none=>K none
 | some x=>lC Γ sl x fun a=>K (some a)
theorem zH{Γ:List (Nat × AV)}{s:St}{x:Option Operand}{K:Option AV->Prop}(h:Ed Γ s.sl x K):∃l,uP Γ s x=some l/\K l:=by
 cases x with
 | none=>exact⟨none,rfl,h⟩
 | some x=>
  obtain⟨a,h1,h2⟩:=b8 h;exact⟨some a,by simp[uP,h1],h2⟩
def Bz(sh:Option Nat)(cs:List AV)(j:Nat)(K:AV->Prop):Prop:=
 match sh with
 | none=>opt cs[j]? fun c=>opt (one c) K
 | some n=>Dm n (cs.drop j) fun l=>K (.agg l)
theorem kJ{sh:Option Nat}{cs:List AV}{j:Nat}{K:AV->Prop}(h:Bz sh cs j K):∃v,sub sh cs j=some v/\K v:=by
 unfold Bz at h;split at h
 ·obtain⟨c,h1,h2⟩:=cJ.1 h;obtain⟨v,h3,h4⟩:=cJ.1 h2;exact⟨v,by simp[sub,h1,h3],h4⟩
 ·obtain⟨h1,h2⟩:=DY.1 h;refine⟨_, ?_,h2⟩;simp only[sub];rw[h1];simp
def JT(P:Program)(mem:aN)(t:TypeId)(p:AV)(K:AV->Prop):Prop:=
 match p with
 | .ip u=>match DC P t with
  | some sh=>Bz sh u.cells 0 K
  | none=>False
 | .ptr id i j=>match lk mem id with
  | some (.row _ sz xs)=>opt xs[i]? fun x=>match DC P t with
   | some sh=>match P.underlying t with
    | some (.array _ _)=>match sub sh x.cells j with
     | some _=>Bz sh x.cells j K
     | none=>Bz sh (Ds xs) (i*sz+j) K
    | _=>Bz sh x.cells j K
   | none=>False
  | _=>False
 | _=>False
theorem JN{P:Program}{mem:aN}{t:TypeId}{p:AV}{K:AV->Prop}(h:JT P mem t p K):∃v,CL P mem t p=some v/\K v:=by
 unfold JT at h;unfold CL;split at h
 ·split at h
  ·rename_i sh hsh;obtain⟨v,h1,h2⟩:=kJ h;exact⟨v,by simp[hsh,h1],h2⟩
  ·exact h.elim
 ·split at h
  ·rename_i hid;obtain⟨x,hx,h⟩:=cJ.1 h;split at h
   ·rename_i sh hsh;split at h
    ·rename_i hu;split at h
     ·obtain⟨v,h1,h2⟩:=kJ h;exact⟨v,by simp only[hid,hx,hsh,h1],h2⟩
     ·rename_i hn;obtain⟨v,h1,h2⟩:=kJ h;exact⟨v,by simp only[hid,hx,hsh,hn,hu,h1],h2⟩
    ·obtain⟨v,h1,h2⟩:=kJ h;exact⟨v,by simp only[hid,hx,hsh,h1],h2⟩
   ·exact h.elim
  ·exact h.elim
 ·exact h.elim
def vP(P:Program)(t:TypeId)(f:Nat)(p:AV)(K:AV->Prop):Prop:=
 match P.underlying t with
 | some (.struct fs)=>match fs[f]? with
  | some fd=>match fS P fd.type with
   | some (_+1)=>match p with
    | .ptr id i j=>oV (j+fd.offset) fun j=>K (.ptr id i j)
    | .ip u=>match DC P fd.type with
     | some sh=>Bz sh u.cells fd.offset fun v=>K (.ip v)
     | none=>False
    | _=>False
   | _=>False
  | none=>False
 | _=>False
theorem FF{P:Program}{t:TypeId}{f:Nat}{p:AV}{K:AV->Prop}(h:vP P t f p K):∃v,oA P t f p=some v/\K v:=by
 unfold vP at h;unfold oA;split at h
 ·rename_i fs hu;split at h
  ·rename_i fd hfd;split at h
   ·rename_i n hn;split at h
    ·exact⟨_,by simp[hu,hfd,hn],dM.1 h⟩
    ·split at h
     ·rename_i sh hsh;obtain⟨v,h1,h2⟩:=kJ h;exact⟨_,by simp[hu,hfd,hn,hsh,h1],h2⟩
     ·exact h.elim
    ·exact h.elim
   ·exact h.elim
  ·exact h.elim
 ·exact h.elim
def HX(P:Program)(t:TypeId)(f:Nat)(v:AV)(K:AV->Prop):Prop:=
 match P.underlying t with
 | some (.struct fs)=>match fs[f]? with
  | some fd=>match v with
   | .agg cs=>match DC P fd.type with
    | some sh=>Bz sh cs fd.offset K
    | none=>False
   | _=>False
  | none=>False
 | _=>False
theorem LZ{P:Program}{t:TypeId}{f:Nat}{p:AV}{K:AV->Prop}(h:HX P t f p K):∃v,BK P t f p=some v/\K v:=by
 unfold HX at h;unfold BK;split at h
 ·rename_i fs hu;split at h
  ·rename_i fd hfd;split at h
   ·split at h
    ·rename_i sh hsh;obtain⟨v,h1,h2⟩:=kJ h;exact⟨v,by simp[hu,hfd,hsh,h1],h2⟩
    ·exact h.elim
   ·exact h.elim
  ·exact h.elim
 ·exact h.elim
def wE(cl:Bool)(P:Program)(mem:aN)(t:TypeId)(p ix:AV)(K:AV->Prop):Prop:=
 match ix with
 | .int _ n=>oF (decide (0<=n)) (match P.underlying t with
   | some (.slice e)=>match fS P e with
    | some sz=>match p with
     | .sl id off len=>match lk mem id with
      | some (.row _ _ xs)=>oF (Nat.blt n.toNat len) (opt xs[off+n.toNat]? fun x=>oF (Nat.beq x.cells.length sz) (yT cl (off+n.toNat) fun m=>K (.ptr id m 0)))
      | _=>False
     | .il sz' xs=>opt xs[n.toNat]? fun x=>oF (Nat.beq sz sz') (K (.ip x))
     | _=>False
    | none=>False
   | some (.array m e)=>match fS P e,DC P e with
    | some sz,some sh=>oF (Nat.blt n.toNat m) (match p with
      | .ptr id i j=>match C3 mem id i j sz with
       | true=>yT cl (i+n.toNat) fun m=>K (.ptr id m 0)
       | false=>yT cl (j+n.toNat*sz) fun m=>K (.ptr id i m)
      | .ip u=>Bz sh u.cells (n.toNat*sz) fun v=>K (.ip v)
      | _=>False)
    | _,_=>False
   | _=>False)
 | _=>False
theorem FY{cl:Bool}{P:Program}{mem:aN}{t:TypeId}{p ix:AV}{K:AV->Prop}(h:wE cl P mem t p ix K):∃v,nP P mem t p ix=some v/\K v:=by
 unfold wE at h;split at h
 ·rename_i kk n;obtain⟨hn,h⟩:=bU.1 h;unfold nP;simp only[hn];split at h
  ·rename_i e hu;simp only[hu];split at h
   ·rename_i sz hsz;simp only[hsz];split at h
    ·rename_i id off len;split at h
     ·rename_i hid;obtain⟨h1,h⟩:=bU.1 h;obtain⟨x,hx,h⟩:=cJ.1 h;obtain⟨h2,h⟩:=bU.1 h;exact⟨_,by simp[hid,h1,hx,h2],g9.1 h⟩
     ·exact h.elim
    ·obtain⟨x,hx,h⟩:=cJ.1 h;obtain⟨h2,h⟩:=bU.1 h;exact⟨_,by simp[hx,h2],h⟩
    ·exact h.elim
   ·exact h.elim
  ·rename_i m e hu;simp only[hu];split at h
   ·rename_i sz sh hsz hsh;simp only[hsz,hsh];obtain⟨h1,h⟩:=bU.1 h;simp only[h1];split at h
    ·split at h
     ·rename_i he;exact⟨_,by simp[he],g9.1 h⟩
     ·rename_i he;exact⟨_,by simp[he],g9.1 h⟩
    ·obtain⟨v,h2,h3⟩:=kJ h;exact⟨_,by simp[h2],h3⟩
    ·exact h.elim
   ·exact h.elim
  ·exact h.elim
 ·exact h.elim
def H9(cl:Bool)(P:Program)(t:TypeId)(v ix:AV)(K:AV->Prop):Prop:=
 match ix with
 | .int _ n=>oF (decide (0<=n)) (match P.underlying t with
   | some .string=>match v with
    | .str s=>opt s[n.toNat]? fun b=>pP cl .u8 (b.toNat:Int) K
    | _=>False
   | some (.array m e)=>match v with
    | .agg cs=>oF (Nat.blt n.toNat m) (match fS P e,DC P e with
      | some sz,some sh=>Bz sh cs (n.toNat*sz) K
      | _,_=>False)
    | _=>False
   | _=>False)
 | _=>False
theorem Ll{cl:Bool}{P:Program}{t:TypeId}{p ix:AV}{K:AV->Prop}(h:H9 cl P t p ix K):∃v,Cq P t p ix=some v/\K v:=by
 unfold H9 at h;split at h
 ·rename_i kk n;obtain⟨hn,h⟩:=bU.1 h;unfold Cq;simp only[hn];split at h
  ·rename_i hu;simp only[hu];split at h
   ·obtain⟨b,hb,h⟩:=cJ.1 h;exact⟨_,by simp[hb],mG.1 h⟩
   ·exact h.elim
  ·rename_i m e hu;simp only[hu];split at h
   ·obtain⟨h1,h⟩:=bU.1 h;simp only[h1];split at h
    ·rename_i sz sh hsz hsh;obtain⟨v,h2,h3⟩:=kJ h;exact⟨v,by simp[hsz,hsh,h2],h3⟩
    ·exact h.elim
   ·exact h.elim
  ·exact h.elim
 ·exact h.elim
def Hn(cl:Bool)(op:BinOp)(k:IntKind)(x y:Int)(K:AV->Prop):Prop:=
 match op with
 | .add=>pP cl k (k.wrap (x+y)) K
 | .sub=>pP cl k (k.wrap (x-y)) K
 | .mul=>pP cl k (k.wrap (x*y)) K
 | .quo=>oF (!decide (y=0)) (pP cl k (k.wrap (x.tdiv y)) K)
 | .rem=>oF (!decide (y=0)) (pP cl k (x.tmod y) K)
 | .and=>pP cl k (bits .and k x y) K
 | .or=>pP cl k (bits .or k x y) K
 | .xor=>pP cl k (bits .xor k x y) K
 | .andNot=>pP cl k (bits .andNot k x y) K
 | .eql=>lE cl (x == y) K
 | .neq=>lE cl (x != y) K
 | .lss=>lE cl (decide (x<y)) K
 | .leq=>lE cl (decide (x<=y)) K
 | .gtr=>lE cl (decide (x>y)) K
 | .geq=>lE cl (decide (x≥y)) K
 | _=>False
theorem Ms{cl:Bool}{op:BinOp}{k:IntKind}{x y:Int}{K:AV->Prop}(h:Hn cl op k x y K):∃v,CB op k x y=some v/\K v:=by
  cases op<;>simp only[Hn,mG,lJ] at h<;>simp only[CB]<;>first
    | exact h.elim
    | exact⟨_,rfl,h⟩
    | (obtain⟨h1,h2⟩:=bU.1 h
       have:decide (y=0)=false:=by simpa using h1
       rw[this];exact⟨_,rfl,h2⟩)
def Hm(cl:Bool)(op:BinOp)(x y:List UInt8)(K:AV->Prop):Prop:=
 match op with
 | .add=>oF (Nat.ble (x.length+y.length) 9223372036854775807) (match cl with
   | true=>Cl x y fun l=>K (.str l)
   | false=>K (.str (x++y)))
 | .eql=>lE cl (x == y) K
 | .neq=>lE cl (!(x == y)) K
 | .lss=>lE cl (Op.bytesLess x y) K
 | .leq=>lE cl (Op.bytesLess x y || x == y) K
 | .gtr=>lE cl (!(Op.bytesLess x y || x == y)) K
 | .geq=>lE cl (!(Op.bytesLess x y)) K
 | _=>False
theorem NB{cl:Bool}{op:BinOp}{x y:List UInt8}{K:AV->Prop}(h:Hm cl op x y K):∃v,BN op x y=some v/\K v:=by
  cases op<;>simp only[Hm,lJ] at h<;>simp only[BN]<;>first
    | exact h.elim
    | exact⟨_,rfl,h⟩
    | (obtain⟨h1,h2⟩:=bU.1 h
       have h1':decide ((x.length:Int)+y.length<=9223372036854775807)=true:=by have:=T3 h1;simp;omega
       rw[h1'];refine⟨_,rfl, ?_⟩;cases cl
       · exact h2
       · exact gE.1 h2)
def H2(cl:Bool)(op:BinOp)(k:IntKind)(x y:Int)(K:AV->Prop):Prop:=
 oF (!decide (y<0)) (match op with
  | .shl=>pP cl k (k.wrap (x*2 ^ (min y.toNat k.bits))) K
  | .shr=>pP cl k (x.fdiv (2 ^ (min y.toNat k.bits))) K
  | _=>False)
theorem GP{cl:Bool}{op:BinOp}{k:IntKind}{x y:Int}{K:AV->Prop}(h:H2 cl op k x y K):∃v,zI op k x y=some v/\K v:=by
 obtain⟨h1,h2⟩:=bU.1 h;have h1:decide (y<0)=false:=by simpa using h1
 unfold zI;rw[h1];cases op<;>simp only[mG] at h2<;>first|exact h2.elim|exact⟨_,rfl,h2⟩
def RE(cl:Bool)(P:Program)(op:BinOp)(t:TypeId)(xo yo:Operand)(x y:AV)(K:AV->Prop):Prop:=
 match x,y with
 | .int k a,.int k' b=>match op with
  | .shl=>H2 cl .shl k a b K
  | .shr=>H2 cl .shr k a b K
  | _=>oF (decide (k=k')) (Hn cl op k a b K)
 | .str a,.str b=>Hm cl op a b K
 | .agg a,.agg b=>match P.eqGuardType P.depth t with
  | false=>match op with
   | .eql=>opt (EW P t a b) fun r=>lE cl r K
   | .neq=>opt (EW P t a b) fun r=>lE cl (!r) K
   | _=>False
  | true=>False
 | x,y=>match op with
  | .eql=>opt (M3 P (kR xo || kR yo) t x y) fun b=>lE cl b K
  | .neq=>opt (M3 P (kR xo || kR yo) t x y) fun b=>lE cl (!b) K
  | _=>False
theorem Qm{cl:Bool}{P:Program}{op:BinOp}{t:TypeId}{xo yo:Operand}{x y:AV}{K:AV->Prop}(h:RE cl P op t xo yo x y K):∃v,NA P op t xo yo x y=some v/\K v:=by
 unfold RE at h;unfold NA;split at h
 ·split at h
  ·exact GP h
  ·exact GP h
  ·obtain⟨h1,h2⟩:=bU.1 h;simp only[h1];obtain⟨v,h3,h4⟩:=Ms h2;refine⟨v, ?_,h4⟩;cases op<;>first|exact h3|contradiction
 ·exact NB h
 ·split at h
  ·rename_i hg;simp only[hg];split at h
   ·obtain⟨b,hb,h⟩:=cJ.1 h;exact⟨.bool b,by simp only[hb],lJ.1 h⟩
   ·obtain⟨b,hb,h⟩:=cJ.1 h;exact⟨.bool (!b),by simp only[hb],lJ.1 h⟩
   ·exact h.elim
  ·exact h.elim
 ·rename_i h1 h2 h3;split at h
  ·obtain⟨b,hb,h⟩:=cJ.1 h;refine⟨.bool b, ?_,lJ.1 h⟩;cases x<;>cases y<;>first|(simp only[hb];done)|(exact(h1 _ _ _ _ rfl rfl).elim)|(exact(h2 _ _ rfl rfl).elim)|(exact(h3 _ _ rfl rfl).elim)
  ·obtain⟨b,hb,h⟩:=cJ.1 h;refine⟨.bool (!b), ?_,lJ.1 h⟩;cases x<;>cases y<;>first|(simp only[hb];done)|(exact(h1 _ _ _ _ rfl rfl).elim)|(exact(h2 _ _ rfl rfl).elim)|(exact(h3 _ _ rfl rfl).elim)
  ·exact h.elim
def TJ(cl:Bool)(op:UnOp)(x:AV)(K:AV->Prop):Prop:=
 match op,x with
 | .neg,.int k n=>pP cl k (k.wrap (0-n)) K
 | .not,.bool b=>lE cl (!b) K
 | _,_=>False
theorem Sm{cl:Bool}{op:UnOp}{x:AV}{K:AV->Prop}(h:TJ cl op x K):∃v,Sw op x=some v/\K v:=by
 unfold TJ at h;split at h
 ·exact⟨_,rfl,mG.1 h⟩
 ·exact⟨_,rfl,lJ.1 h⟩
 ·exact h.elim
def MJ(cl:Bool)(P:Program)(mem:aN)(src dst:TypeId)(x:AV)(K:AV->Prop):Prop:=
 match P.underlying src with
 | none=>False
 | some d=>match P.underlying dst with
  | some (.int k)=>match x with
   | .int _ n=>pP cl k (k.wrap n) K
   | _=>False
  | some .string=>match x with
   | .str s=>K (.str s)
   | .nsl=>match d with
    | .slice e=>match P.underlying e with
     | some (.int .u8)=>K (.str [])
     | _=>False
    | _=>False
   | .il sz xs=>match d with
    | .slice e=>match P.underlying e with
     | some (.int .u8)=>oF (Nat.beq sz 1) (opt (fG xs) fun l=>rC cl l fun l=>K (.str l))
     | _=>False
    | _=>False
   | .sl id off len=>match d with
    | .slice e=>match P.underlying e with
     | some (.int .u8)=>match lk mem id with
      | some (.row _ _ xs)=>oF (Nat.ble (off+len) xs.length) (opt (fG ((xs.drop off).take len)) fun l=>rC cl l fun l=>K (.str l))
      | _=>False
     | _=>False
    | _=>False
   | _=>False
  | some .unsafePointer=>opt (N8 P mem d x) K
  | some (.pointer u)=>opt (Ef P mem d u x) K
  | _=>False
theorem OQ{cl:Bool}{P:Program}{mem:aN}{src dst:TypeId}{x:AV}{K:AV->Prop}(h:MJ cl P mem src dst x K):∃v,CM P mem src dst x=some v/\K v:=by
 unfold MJ at h;split at h
 ·exact h.elim
 ·rename_i d hd;unfold CM;simp only[hd];split at h
  ·rename_i k hu;simp only[hu];split at h
   ·exact⟨_,rfl,mG.1 h⟩
   ·exact h.elim
  ·rename_i hu;simp only[hu];split at h
   ·exact⟨_,rfl,h⟩
   ·split at h
    ·split at h
     ·rename_i he;exact⟨_,by simp only[he],h⟩
     ·exact h.elim
    ·exact h.elim
   ·split at h
    ·split at h
     ·rename_i he;obtain⟨h1,h⟩:=bU.1 h;obtain⟨l,h2,h⟩:=cJ.1 h;exact⟨_,by simp only[he,h1,h2],iC.1 h⟩
     ·exact h.elim
    ·exact h.elim
   ·split at h
    ·split at h
     ·rename_i he;split at h
      ·rename_i hid;obtain⟨h1,h⟩:=bU.1 h;obtain⟨l,h2,h⟩:=cJ.1 h;exact⟨_,by simp only[he,hid,h1,h2],iC.1 h⟩
      ·exact h.elim
     ·exact h.elim
    ·exact h.elim
   ·exact h.elim
  ·rename_i hu;simp only[hu];obtain⟨v,h1,h⟩:=cJ.1 h;exact⟨v,h1,h⟩
  ·rename_i u hu;simp only[hu];obtain⟨v,h1,h⟩:=cJ.1 h;exact⟨v,h1,h⟩
  ·exact h.elim
def E5:List AV->Nat->List AV->(List AV->Prop)->Prop
 | cells,_,[],K=>K cells
 | cells,off,v::r,K=>He cells off v fun c=>E5 c (off+1) r K
theorem CJ(off:Nat):∀(vs:List AV) (k:Nat) (cells:List AV) (K:List AV->Prop),E5 cells (off+k) vs K↔K ((vs.zipIdx k).foldl (fun cs p=>cs.set (off+p.2) p.1) cells)
 | [],k,cells,K=>Iff.rfl
 | v::r,k,cells,K=>by
  simp only[E5,dN,WC,UR];have:=CJ off r (k+1) (cells.set (off+k) v) K;rw[←VC] at this;exact this
def F9(place:Nat->Option (Nat × Nat)):List AV->List (Nat × AV)->(List AV->Prop)->Prop
 | cells,[],K=>K cells
 | cells,(i,v)::r,K=>match place i with
  | none=>False
  | some (off,size)=>oF (jZ v && (Nat.beq v.cells.length size && Nat.ble (off+v.cells.length) cells.length)) (E5 cells off v.cells fun cs=>F9 place cs r K)
theorem FD{place:Nat->Option (Nat × Nat)}:∀{parts:List (Nat × AV)} {cells:List AV} {K:List AV->Prop},F9 place cells parts K->∃l,yQ place cells parts=some l/\K l
 | [],cells,K,h=>⟨cells,by simp[yQ],h⟩
 | (i,v)::r,cells,K,h=>by
  simp only[F9] at h;simp only[yQ];split at h
  ·exact h.elim
  ·rename_i off size hp;obtain⟨h1,h2⟩:=bU.1 h;have h3:=(CJ off v.cells 0 cells _).1 h2;obtain⟨l,h4,h5⟩:=FD h3;exact⟨l,by simp only[hp,h1];exact h4,h5⟩
def IF(P:Program)(t:TypeId)(parts:List (Nat × AV))(K:AV->Prop):Prop:=
 match P.info? t with
 | some it=>match it.zero with
  | some z=>match wP z with
   | some (.agg zs)=>match P.underlying t with
    | some (.array _ e)=>match fS P e with
     | some n=>F9 (fun i=>some (i*n,n)) zs parts fun cs=>K (.agg cs)
     | none=>False
    | some (.struct fs)=>match tV P fs.toList with
     | some places=>F9 (fun i=>places[i]?) zs parts fun cs=>K (.agg cs)
     | none=>False
    | _=>False
   | _=>False
  | none=>False
 | none=>False
theorem NS{P:Program}{t:TypeId}{parts:List (Nat × AV)}{K:AV->Prop}(h:IF P t parts K):∃v,C1 P t parts=some v/\K v:=by
 unfold IF at h;unfold C1;split at h
 ·rename_i it h1;simp only[h1];split at h
  ·rename_i z h2;simp only[h2];split at h
   ·rename_i zs h3;simp only[h3];split at h
    ·rename_i e h4;simp only[h4];split at h
     ·rename_i n h5;simp only[h5];obtain⟨l,h6,h7⟩:=FD h;exact⟨_,by rw[h6],h7⟩
     ·exact h.elim
    ·rename_i fs h4;simp only[h4];split at h
     ·rename_i n h5;simp only[h5];obtain⟨l,h6,h7⟩:=FD h;exact⟨_,by rw[h6],h7⟩
     ·exact h.elim
    ·exact h.elim
   ·exact h.elim
  ·exact h.elim
 ·exact h.elim
def iM(d:Nat)(x:Option AV)(K:Nat->Prop):Prop:=
 match x with
 | none=>K d
 | some (.int _ n)=>oF (decide (0<=n)) (K n.toNat)
 | some _=>False
theorem fP{d:Nat}{x:Option AV}{K:Nat->Prop}(h:iM d x K):∃n,d9 d x=some n/\K n:=by
 unfold iM at h;split at h
 ·exact⟨_,rfl,h⟩
 ·obtain⟨h1,h2⟩:=bU.1 h;exact⟨_,by simp only[d9,h1],h2⟩
 ·exact h.elim
def Ht(cl:Bool)(P:Program)(mem:aN)(t:TypeId)(x:AV)(lo hi mx:Option AV)(K:AV->Prop):Prop:=
 match P.underlying t with
 | some .string=>match x,mx with
  | .str s,none=>iM 0 lo fun l=>iM s.length hi fun h=>oF (Nat.ble l h && Nat.ble h s.length) (rC cl ((s.drop l).take (h-l)) fun s=>K (.str s))
  | _,_=>False
 | some (.slice e)=>match fS P e with
  | none=>False
  | some sz=>match x with
   | .nsl=>iM 0 lo fun l=>iM 0 hi fun h=>iM 0 mx fun m=>oF (Nat.beq l 0 && (Nat.beq h 0 && Nat.beq m 0)) (K .nsl)
   | .il sz' xs=>oF (Nat.beq sz sz') (iM 0 lo fun l=>iM xs.length hi fun h=>iM xs.length mx fun m=>oF (Nat.ble l h && (Nat.ble h m && Nat.ble m xs.length)) (rC cl ((xs.drop l).take (h-l)) fun ys=>K (.il sz' ys)))
   | .sl id off len=>match lk mem id with
    | some (.row _ sz0 _)=>oF (Nat.beq sz0 sz) (iM 0 lo fun l=>iM len hi fun h=>iM len mx fun m=>oF (Nat.ble l h && (Nat.ble h m && Nat.ble m len)) (yT cl (off+l) fun o=>yT cl (h-l) fun n=>K (.sl id o n)))
    | _=>False
   | _=>False
 | some (.array n e)=>match fS P e with
  | none=>False
  | some sz=>match x with
   | .ptr id i 0=>match lk mem id with
    | some (.row _ _ xs)=>oF (C3 mem id i 0 sz && Nat.ble (i+n) xs.length) (iM 0 lo fun l=>iM n hi fun h=>iM n mx fun m=>oF (Nat.ble l h && (Nat.ble h m && Nat.ble m n)) (yT cl (i+l) fun o=>yT cl (h-l) fun n=>K (.sl id o n)))
    | _=>False
   | _=>False
 | _=>False
theorem Lc{cl:Bool}{P:Program}{mem:aN}{t:TypeId}{x:AV}{lo hi mx:Option AV}{K:AV->Prop}(h:Ht cl P mem t x lo hi mx K):∃v,CU P mem t x lo hi mx=some v/\K v:=by
 unfold Ht at h;unfold CU;split at h
 ·rename_i hu;simp only[hu];split at h
  ·rename_i s;obtain⟨l,h1,h⟩:=fP h;obtain⟨h',h2,h⟩:=fP h;obtain⟨h3,h⟩:=bU.1 h;exact⟨_,by simp only[h1,h2,h3],iC.1 h⟩
  ·exact h.elim
 ·rename_i e hu;simp only[hu];split at h
  ·exact h.elim
  ·rename_i sz hsz;simp only[hsz];split at h
   ·obtain⟨l,h1,h⟩:=fP h;obtain⟨h',h2,h⟩:=fP h;obtain⟨m,h3,h⟩:=fP h;obtain⟨h4,h⟩:=bU.1 h;simp only[Tz] at h4;obtain⟨a1,a2,a3⟩:=h4;rw[T2 a1] at h1;rw[T2 a2] at h2;rw[T2 a3] at h3;exact⟨_,by simp only[h1,h2,h3],h⟩
   ·obtain⟨h0,h⟩:=bU.1 h;obtain⟨l,h1,h⟩:=fP h;obtain⟨h',h2,h⟩:=fP h;obtain⟨m,h3,h⟩:=fP h;obtain⟨h4,h⟩:=bU.1 h;exact⟨_,by simp only[h0,h1,h2,h3,h4],iC.1 h⟩
   ·split at h
    ·rename_i hid;obtain⟨h0,h⟩:=bU.1 h;obtain⟨l,h1,h⟩:=fP h;obtain⟨h',h2,h⟩:=fP h;obtain⟨m,h3,h⟩:=fP h;obtain⟨h4,h⟩:=bU.1 h;exact⟨_,by simp only[hid,h0,h1,h2,h3,h4],g9.1 (g9.1 h)⟩
    ·exact h.elim
   ·exact h.elim
 ·rename_i n e hu;simp only[hu];split at h
  ·exact h.elim
  ·rename_i sz hsz;simp only[hsz];split at h
   ·split at h
    ·rename_i hid;obtain⟨h0,h⟩:=bU.1 h;obtain⟨l,h1,h⟩:=fP h;obtain⟨h',h2,h⟩:=fP h;obtain⟨m,h3,h⟩:=fP h;obtain⟨h4,h⟩:=bU.1 h;exact⟨_,by simp only[hid,h0,h1,h2,h3,h4],g9.1 (g9.1 h)⟩
    ·exact h.elim
   ·exact h.elim
 ·exact h.elim
def H8(sz:Nat)(sh:Option Nat):Nat->List AV->(List AV->Prop)->Prop
 | 0,_,K=>K []
 | m+1,cs,K=>Bz sh cs 0 fun x=>H8 sz sh m (cs.drop sz) fun l=>K (x::l)
theorem HE{sz:Nat}{sh:Option Nat}:∀{m:Nat} {cs:List AV} {K:List AV->Prop},H8 sz sh m cs K->∃l,BP sz sh m cs=some l/\K l
 | 0,cs,K,h=>⟨[],rfl,h⟩
 | m+1,cs,K,h=>by
  obtain⟨x,h1,h⟩:=kJ h;obtain⟨l,h2,h⟩:=HE h;exact⟨_,by simp only[BP,h1,h2],h⟩
def Sg{α:Type}:List α->Nat->Nat
 | [],n=>n
 | _::r,n=>Sg r (n+1)
theorem NF{α:Type}:∀(l:List α) (n:Nat),Sg l n=l.length+n
 | [],n=>by simp[Sg]
 | _::r,n=>by simp[Sg,NF r];omega
def NY(P:Program)(t:TypeId)(v:AV)(K:Nat->List AV->Prop):Prop:=
 match P.underlying t with
 | some (.array m e)=>match v with
  | .agg cs=>match fS P e,DC P e with
   | some sz,some sh=>oF (Nat.beq (sh.getD 1) sz && (Nat.blt 0 sz && Nat.beq cs.length (m*sz))) (H8 sz sh m cs fun xs=>K sz xs)
   | _,_=>False
  | _=>False
 | some _=>oF (jZ v) (match v.cells with
  | []=>K 0 []
  | _::_=>oV (Sg v.cells 0) fun n=>K n [v])
 | none=>False
theorem Ln{P:Program}{t:TypeId}{v:AV}{K:Nat->List AV->Prop}(h:NY P t v K):∃sz xs,Bq P t v=some (sz,xs)/\K sz xs:=by
 unfold NY at h;unfold Bq;split at h
 ·rename_i m e hu;simp only[hu];split at h
  ·split at h
   ·rename_i sz sh h1 h2;simp only[h1,h2];obtain⟨h3,h⟩:=bU.1 h;obtain⟨l,h4,h⟩:=HE h;exact⟨_,_,by simp only[h3,h4],h⟩
   ·exact h.elim
  ·exact h.elim
 ·rename_i d hna hu;simp only[hu];obtain⟨h1,h⟩:=bU.1 h;split at h
  ·rename_i hc;refine⟨_,_, ?_,h⟩;cases hd:d<;>first|(exact(hna _ _ hd).elim)|simp only[h1,hc]
  ·rename_i c cs hc;have h:=dM.1 h;rw[NF,Vi] at h;refine⟨_,_, ?_,h⟩;cases hd:d<;>first|(exact(hna _ _ hd).elim)|simp only[h1,hc]
 ·exact h.elim
def IK(P:Program)(mem:aN)(nx:Nat)(t:TypeId)(K:AV->aN->Nat->Prop):Prop:=
 match P.info? t with
 | some i=>match i.zero with
  | some z=>match wP z with
   | some v=>NY P t v fun sz xs=>oV (nx+1) fun n=>K (.ptr nx 0 0) ((nx,.row t sz xs)::mem) n
   | none=>False
  | none=>False
 | none=>False
theorem Mr{P:Program}{mem:aN}{nx:Nat}{t:TypeId}{K:AV->aN->Nat->Prop}(h:IK P mem nx t K):∃v m n,rT P mem nx t=some (v,m,n)/\K v m n:=by
 unfold IK at h;unfold rT;split at h
 ·rename_i i h1;simp only[h1];split at h
  ·rename_i z h2;simp only[h2];split at h
   ·rename_i v h3;simp only[h3];obtain⟨sz,xs,h4,h⟩:=Ln h;exact⟨_,_,_,by simp only[h4],dM.1 h⟩
   ·exact h.elim
  ·exact h.elim
 ·exact h.elim
def SG(P:Program)(mem:aN)(nx:Nat)(t:TypeId)(v:AV)(K:AV->aN->Nat->Prop):Prop:=
 NY P t v fun sz xs=>oV (nx+1) fun n=>K (.ptr nx 0 0) ((nx,.row t sz xs)::mem) n
theorem QJ{P:Program}{mem:aN}{nx:Nat}{t:TypeId}{v:AV}{K:AV->aN->Nat->Prop}(h:SG P mem nx t v K):∃r m n,GA P mem nx t v=some (r,m,n)/\K r m n:=by
 obtain⟨sz,xs,h4,h⟩:=Ln h;exact⟨_,_,_,by simp only[GA,h4],dM.1 h⟩
def IR(sz:Nat):List AV->List (Nat × AV)->(List AV->Prop)->Prop
 | xs,[],K=>K xs
 | xs,(i,v)::r,K=>oF (jZ v && (Nat.beq v.cells.length sz && Nat.blt i xs.length)) (He xs i v fun xs=>IR sz xs r K)
theorem G1{sz:Nat}:∀{parts:List (Nat × AV)} {xs:List AV} {K:List AV->Prop},IR sz xs parts K->∃l,sE sz xs parts=some l/\K l
 | [],xs,K,h=>⟨xs,by simp[sE],h⟩
 | (i,v)::r,xs,K,h=>by
  obtain⟨h1,h⟩:=bU.1 h;obtain⟨l,h2,h⟩:=G1 (dN.1 h);exact⟨l,by simp only[sE,h1];exact h2,h⟩
def tE(P:Program)(mem:aN)(nx:Nat)(t:TypeId)(len:Nat)(parts:List (Nat × AV))(K:AV->aN->Nat->Prop):Prop:=
 match P.underlying t with
 | some (.slice e)=>match fS P e,lK P e with
  | some sz,some z=>oF (jZ z && (Nat.beq z.cells.length sz && (Nat.blt 0 sz && Nat.ble (len*sz) 16777216))) (AE (List.replicate len z) fun zs=>IR sz zs parts fun xs=>oV (nx+1) fun n=>K (.sl nx 0 len) ((nx,.row e sz xs)::mem) n)
  | _,_=>False
 | _=>False
theorem DB{P:Program}{mem:aN}{nx:Nat}{t:TypeId}{len:Nat}{parts:List (Nat × AV)}{K:AV->aN->Nat->Prop}(h:tE P mem nx t len parts K):∃v m n,gS P mem nx t len parts=some (v,m,n)/\K v m n:=by
 unfold tE at h;unfold gS;split at h
 ·rename_i e hu;simp only[hu];split at h
  ·rename_i sz z h1 h2;simp only[h1,h2];obtain⟨h3,h⟩:=bU.1 h;obtain⟨l,h4,h⟩:=G1 (nE.1 h);exact⟨_,_,_,by simp only[h3,h4],dM.1 h⟩
  ·exact h.elim
 ·exact h.elim
def oJ:List AV->Nat->List AV->(List AV->Prop)->Prop
 | [],_,cs,K=>K cs
 | x::r,0,[],K=>K (x::r)
 | _::r,0,c::cs,K=>oJ r 0 cs fun l=>K (c::l)
 | x::r,j+1,cs,K=>oJ r j cs fun l=>K (x::l)
theorem rN:∀{xs:List AV} {j:Nat} {cs:List AV} {K:List AV->Prop},oJ xs j cs K↔K (xs.take j++cs++xs.drop (j+cs.length))
 | [],j,cs,K=>by simp[oJ]
 | x::r,0,[],K=>by simp[oJ]
 | x::r,0,c::cs,K=>by simp[oJ,rN]
 | x::r,j+1,cs,K=>by simp[oJ,rN,Nat.add_right_comm]
def yV(x:AV)(j:Nat)(cs:List AV)(K:AV->Prop):Prop:=
 match x with
 | .agg xs=>oJ xs j cs fun l=>K (.agg l)
 | _=>match cs with
  | [c]=>opt (one c) K
  | _=>False
theorem G6{x:AV}{j:Nat}{cs:List AV}{K:AV->Prop}(h:yV x j cs K):∃v,rO x j cs=some v/\K v:=by
 unfold yV at h;unfold rO;split at h
 ·exact⟨_,rfl,rN.1 h⟩
 ·rename_i hx;split at h
  ·obtain⟨v,h1,h2⟩:=cJ.1 h;refine⟨v, ?_,h2⟩;cases x<;>first|exact h1|exact(hx _ rfl).elim
  ·exact h.elim
def Bm:aN->(aN->Prop)->Prop
 | [],K=>K []
 | p::r,K=>Bm r fun r=>K (p::r)
theorem vH:∀{m:aN} {K:aN->Prop},Bm m K↔K m
 | [],K=>Iff.rfl
 | p::r,K=>by simp only[Bm];exact vH
def Eg(P:Program)(mem:aN)(t:TypeId)(p v:AV)(K:aN->Prop):Prop:=
 match p with
 | .ptr id i j=>match lk mem id with
  | some (.row t' sz' xs)=>opt xs[i]? fun x=>match fS P t with
   | some n=>oF (jZ v && (Nat.beq v.cells.length n && Nat.ble (j+n) x.cells.length)) (yV x j v.cells fun x'=>He xs i x' fun xs'=>Np mem id (.row t' sz' xs') K)
   | none=>False
  | _=>False
 | _=>False
theorem Kj{P:Program}{mem:aN}{t:TypeId}{p v:AV}{K:aN->Prop}(h:Eg P mem t p v K):∃m,yK P mem t p v=some m/\K m:=by
 unfold Eg at h;unfold yK;split at h
 ·split at h
  ·rename_i hid;obtain⟨x,hx,h⟩:=cJ.1 h;split at h
   ·rename_i n hn;obtain⟨h1,h⟩:=bU.1 h;obtain⟨x',h2,h⟩:=G6 h;exact⟨_,by simp only[hid,hx,hn,h1,h2],qQ.1 (dN.1 h)⟩
   ·exact h.elim
  ·exact h.elim
 ·exact h.elim
def Hs(P:Program)(mem:aN)(t:TypeId)(p v:AV)(K:aN->Prop):Prop:=
 match P.underlying t with
 | some (.array _ _)=>opt (wA P mem t p v) fun m=>Bm m K
 | _=>match v.cells with
  | []=>opt (tL P mem t p v) K
  | _::_=>Eg P mem t p v K
theorem Lh{P:Program}{mem:aN}{t:TypeId}{p v:AV}{K:aN->Prop}(h:Hs P mem t p v K):∃m,wA P mem t p v=some m/\K m:=by
 unfold Hs at h;split at h
 ·obtain⟨m,h1,h⟩:=cJ.1 h;exact⟨m,h1,vH.1 h⟩
 ·split at h
  ·obtain⟨m,h1,h⟩:=cJ.1 h;exact⟨m,by simp only[wA,h1],h⟩
  ·rename_i hc;obtain⟨m,h1,h⟩:=Kj h;have hz:tL P mem t p v=none:=by
    unfold tL;split<;>first|rfl|skip
    split<;>first|rfl|skip
    split<;>first|rfl|skip
    rw[hc]
   exact⟨m,by simp only[wA,hz,h1],h⟩
def JB(cl:Bool)(P:Program)(mem:aN)(nx:Nat)(t:TypeId)(l c:AV)(K:AV->aN->Nat->Prop):Prop:=
 match l,c with
 | .int _ l,.int _ c=>match P.underlying t with
  | some (.slice e)=>match P.info? e with
   | some i=>match lK P e with
    | some z=>oF (jZ z && (Nat.beq z.cells.length i.size && (Nat.blt 0 i.size && (decide (0<=l) && (decide (l<=c) && (decide ((i.bytes:Int)*c<=281474976710656) && decide (c<=9223372036854775807)))))))
      (oV (nx+1) fun n=>rC cl (List.replicate l.toNat z) fun zs=>yT cl l.toNat fun m=>K (.sl nx 0 m) ((nx,.row e i.size zs)::mem) n)
    | none=>False
   | none=>False
  | _=>False
 | _,_=>False
theorem OB{cl:Bool}{P:Program}{mem:aN}{nx:Nat}{t:TypeId}{l c:AV}{K:AV->aN->Nat->Prop}(h:JB cl P mem nx t l c K):∃v m n,AW P mem nx t l c=some (v,m,n)/\K v m n:=by
 unfold JB at h;split at h
 ·unfold AW;split at h
  ·rename_i e hu;simp only[hu];split at h
   ·rename_i i h1;simp only[h1];split at h
    ·rename_i z h2;simp only[h2];obtain⟨h3,h⟩:=bU.1 h;have h4:=g9.1 (iC.1 (dM.1 h));exact⟨_,_,_,by simp only[h3],h4⟩
    ·exact h.elim
   ·exact h.elim
  ·exact h.elim
 ·exact h.elim
def PK(cl:Bool)(mem:aN)(sz:Nat)(x:AV)(K:List AV->Prop):Prop:=
 match x with
 | .nsl=>K []
 | .il sz' ys=>oF (Nat.beq sz' sz) (K ys)
 | .sl id off len=>match lk mem id with
  | some (.row _ sz' xs)=>oF (Nat.beq sz' sz && Nat.ble (off+len) xs.length) (rC cl ((xs.drop off).take len) K)
  | _=>False
 | .str s=>oF (Nat.beq sz 1) (rC cl (s.map fun b=>.int .u8 (b.toNat:Int)) K)
 | _=>False
theorem MM{cl:Bool}{mem:aN}{sz:Nat}{x:AV}{K:List AV->Prop}(h:PK cl mem sz x K):∃l,Jo mem sz x=some l/\K l:=by
 unfold PK at h;unfold Jo;split at h
 ·exact⟨_,rfl,h⟩
 ·obtain⟨h1,h⟩:=bU.1 h;exact⟨_,by simp only[h1],h⟩
 ·split at h
  ·rename_i hid;obtain⟨h1,h⟩:=bU.1 h;exact⟨_,by simp only[hid,h1],iC.1 h⟩
  ·exact h.elim
 ·obtain⟨h1,h⟩:=bU.1 h;exact⟨_,by simp only[h1],iC.1 h⟩
 ·exact h.elim
def Nc(cl:Bool)(xs ys:List AV)(K:List AV->Prop):Prop:=
 match cl with
 | true=>Cl xs ys K
 | false=>K (xs++ys)
theorem GG{cl:Bool}{xs ys:List AV}{K:List AV->Prop}:Nc cl xs ys K↔K (xs++ys):=by cases cl<;>simp[Nc,gE]
def EU(cl:Bool)(P:Program)(mem:aN)(nx:Nat)(t u:TypeId)(s x:AV)(K:AV->aN->Nat->Prop):Prop:=
 match P.underlying t with
 | some (.slice e)=>match P.info? e with
  | some i=>match i.zero with
   | some z=>oF (vL (P.underlying u) && (Nat.blt 0 i.size && Nat.beq z.cells.size i.size)) (PK cl mem i.size x fun ys=>match s with
     | .nsl=>oF (Nat.ble (ys.length*i.bytes) 140737488355328 && Nat.ble ys.length 9223372036854775807) (yT cl ys.length fun l=>oV (nx+1) fun n=>K (.sl nx 0 l) ((nx,.row e i.size ys)::mem) n)
     | .sl id 0 len=>match lk mem id with
      | some (.row t' sz' xs)=>oF (Nat.beq t' e && (Nat.beq sz' i.size && (Nat.beq len xs.length && (Nat.ble ((len+ys.length)*i.bytes) 140737488355328 && Nat.ble (len+ys.length) 9223372036854775807))))
        (Nc cl xs ys fun zs=>yT cl (len+ys.length) fun l=>oV (nx+1) fun n=>Cy id mem fun m=>K (.sl nx 0 l) ((nx,.row e i.size zs)::m) n)
      | _=>False
     | _=>False)
   | none=>False
  | none=>False
 | _=>False
theorem KW{cl:Bool}{P:Program}{mem:aN}{nx:Nat}{t u:TypeId}{s x:AV}{K:AV->aN->Nat->Prop}(h:EU cl P mem nx t u s x K):∃v m n,qU P mem nx t u s x=some (v,m,n)/\K v m n:=by
 unfold EU at h;unfold qU;split at h
 ·rename_i e hu;simp only[hu];split at h
  ·rename_i i h1;simp only[h1];split at h
   ·rename_i z h2;simp only[h2];obtain⟨h3,h⟩:=bU.1 h;simp only[h3];obtain⟨ys,h4,h⟩:=MM h;simp only[h4];split at h
    ·obtain⟨h5,h⟩:=bU.1 h;exact⟨_,_,_,by simp only[h5],dM.1 (g9.1 h)⟩
    ·split at h
     ·rename_i hid;obtain⟨h5,h⟩:=bU.1 h;exact⟨_,_,_,by simp only[hid,h5],tW.1 (dM.1 (g9.1 (GG.1 h)))⟩
     ·exact h.elim
    ·exact h.elim
   ·exact h.elim
  ·exact h.elim
 ·exact h.elim
def y9(cl:Bool)(P:Program)(mem:aN)(nx:Nat)(src dst:TypeId)(x:AV)(K:AV->aN->Nat->Prop):Prop:=
 match P.underlying src with
 | none=>False
 | some _=>match P.underlying dst with
  | some (.slice e)=>match P.underlying e with
   | some (.int .u8)=>match x with
    | .str s=>oV (nx+1) fun n=>yT cl s.length fun l=>rC cl (s.map fun b=>.int .u8 (b.toNat:Int)) fun xs=>K (.sl nx 0 l) ((nx,.row e 1 xs)::mem) n
    | _=>False
   | _=>False
  | _=>False
theorem Gs{cl:Bool}{P:Program}{mem:aN}{nx:Nat}{src dst:TypeId}{x:AV}{K:AV->aN->Nat->Prop}(h:y9 cl P mem nx src dst x K):∃v m n,j7 P mem nx src dst x=some (v,m,n)/\K v m n:=by
 unfold y9 at h;unfold j7;split at h
 ·exact h.elim
 ·rename_i d hd;simp only[hd];split at h
  ·rename_i e hu;simp only[hu];split at h
   ·rename_i he;simp only[he];split at h
    ·exact⟨_,_,_,rfl,iC.1 (g9.1 (dM.1 h))⟩
    ·exact h.elim
   ·exact h.elim
  ·exact h.elim
def qR(P:Program)(mem:aN)(t:TypeId)(m k v:AV)(K:aN->Prop):Prop:=
 match P.underlying t with
 | some (.map kt _)=>oF (HL P kt k) (match m with
   | .mp id=>match lk mem id with
    | some (.mapb es)=>opt (iF P kt k es 0) fun r=>match r with
     | some (i,_)=>opt es[i]? fun e=>oF (z7 e.1 k) (He es i (k,v) fun es=>Np mem id (.mapb es) K)
     | none=>Cl es [(k,v)] fun es=>Np mem id (.mapb es) K
    | _=>False
   | _=>False)
 | _=>False
theorem yC{P:Program}{mem:aN}{t:TypeId}{m k v:AV}{K:aN->Prop}(h:qR P mem t m k v K):∃m',lL P mem t m k v=some m'/\K m':=by
 unfold qR at h;unfold lL;split at h
 ·rename_i kt et hu;simp only[hu];obtain⟨h1,h⟩:=bU.1 h;simp only[h1];split at h
  ·split at h
   ·rename_i es hid;simp only[hid];obtain⟨r,h2,h⟩:=cJ.1 h;split at h
    ·obtain⟨e,h3,h⟩:=cJ.1 h;obtain⟨h4,h⟩:=bU.1 h;exact⟨_,by simp only[h2,h3,h4],qQ.1 (dN.1 h)⟩
    ·exact⟨_,by simp only[h2],qQ.1 (gE.1 h)⟩
   ·exact h.elim
  ·exact h.elim
 ·exact h.elim
end Go.Ax
