/- A part of the proof. -/
import Derived.Test.YtioogodkiglceaaGreatDoorAx4
set_option linter.unusedVariables false
set_option linter.unusedSimpArgs false
set_option linter.unusedSectionVars false
namespace Go.Ax
open Go
def MV(b:Bool)(p q:Prop):Prop:=
 match b with
 | true=>p
 | false=>q
def pM(b:Bool)(p:Prop):Prop:=
 match b with
 | true=>p
 | false=>False
def opt{α:Type}(o:Option α)(K:α->Prop):Prop:=
 match o with
 | some a=>K a
 | none=>False
theorem aI{b:Bool}{p q:Prop}(h1:b=true->p)(h2:b=false->q):MV b p q:=by
 cases b
 ·exact h2 rfl
 ·exact h1 rfl
theorem bZ{b:Bool}{p:Prop}:pM b p↔b=true/\p:=by cases b<;>simp[pM]
theorem aN{b:Bool}{p:Prop}(h:b=true)(hp:p):pM b p:=bZ.2 ⟨h,hp⟩
theorem cG{α:Type}{o:Option α}{K:α->Prop}:opt o K↔∃a,o=some a/\K a:=by cases o<;>simp[opt]
theorem aD{α:Type}{o:Option α}{K:α->Prop}{a:α}(h:o=some a)(hk:K a):opt o K:=cG.2 ⟨a,h,hk⟩
def pD(n:Nat)(K:Nat->Prop):Prop:=
 match n with
 | 0=>K 0
 | Nat.succ m=>K (Nat.succ m)
theorem dY{n:Nat}{K:Nat->Prop}:pD n K↔K n:=by cases n<;>rfl
def Ra(n:Int)(K:Int->Prop):Prop:=
 match n with
 | .ofNat m=>pD m fun m=>K (.ofNat m)
 | .negSucc m=>pD m fun m=>K (.negSucc m)
theorem NK{n:Int}{K:Int->Prop}:Ra n K↔K n:=by cases n<;>simp[Ra,dY]
def y9(cl:Bool)(n:Nat)(K:Nat->Prop):Prop:=
 match cl with
 | true=>pD n K
 | false=>K n
theorem iQ{cl:Bool}{n:Nat}{K:Nat->Prop}:y9 cl n K↔K n:=by cases cl<;>simp[y9,dY]
def sH(cl:Bool)(k:IntKind)(n:Int)(K:AV->Prop):Prop:=
 match cl with
 | true=>Ra n fun n=>K (.int k n)
 | false=>K (.int k n)
theorem nZ{cl:Bool}{k:IntKind}{n:Int}{K:AV->Prop}:sH cl k n K↔K (.int k n):=by cases cl<;>simp[sH,NK]
def mO(cl:Bool)(b:Bool)(K:AV->Prop):Prop:=
 match cl with
 | true=>match b with
  | true=>K (.bool true)
  | false=>K (.bool false)
 | false=>K (.bool b)
theorem mY{cl:Bool}{b:Bool}{K:AV->Prop}:mO cl b K↔K (.bool b):=by cases cl<;>cases b<;>rfl
def uM{α:Type}:List α->(List α->Prop)->Prop
 | [],K=>K []
 | x::r,K=>uM r fun l=>K (x::l)
theorem lK{α:Type}:∀{l:List α} {K:List α->Prop},uM l K↔K l
 | [],K=>Iff.rfl
 | x::r,K=>by simp[uM,lK]
def sW{α:Type}(cl:Bool)(l:List α)(K:List α->Prop):Prop:=
 match cl with
 | true=>uM l K
 | false=>K l
theorem iS{α:Type}{cl:Bool}{l:List α}{K:List α->Prop}:sW cl l K↔K l:=by cases cl<;>simp[sW,lK]
def AO{α:Type}:List α->List α->(List α->Prop)->Prop
 | [],ys,K=>K ys
 | x::r,ys,K=>AO r ys fun l=>K (x::l)
theorem fN{α:Type}:∀{xs ys:List α} {K:List α->Prop},AO xs ys K↔K (xs++ys)
 | [],ys,K=>Iff.rfl
 | x::r,ys,K=>by simp[AO,fN]
def J7{α:Type}:List α->Nat->α->(List α->Prop)->Prop
 | [],_,_,K=>K []
 | _::r,0,v,K=>K (v::r)
 | x::r,i+1,v,K=>J7 r i v fun l=>K (x::l)
theorem bR{α:Type}:∀{xs:List α} {i:Nat} {v:α} {K:List α->Prop},J7 xs i v K↔K (xs.set i v)
 | [],_,_,K=>Iff.rfl
 | _::r,0,v,K=>Iff.rfl
 | x::r,i+1,v,K=>by simp[J7,bR]
def Ek{α:Type}:Nat->List α->(List α->Prop)->Prop
 | 0,_,K=>K []
 | _+1,[],_=>False
 | n+1,c::r,K=>Ek n r fun l=>K (c::l)
theorem Fb{α:Type}:∀{n:Nat} {l:List α} {K:List α->Prop},Ek n l K↔(l.take n).length=n/\K (l.take n)
 | 0,l,K=>by simp[Ek]
 | n+1,[],K=>by simp[Ek]
 | n+1,c::r,K=>by simp[Ek,Fb]
def IZ{α:Type}:List (Nat × α)->Nat->α->(List (Nat × α)->Prop)->Prop
 | [],j,v,K=>K [(j,v)]
 | (i,u)::r,j,v,K=>match Nat.beq i j with
  | true=>K ((i,v)::r)
  | false=>IZ r j v fun l=>K ((i,u)::l)
theorem lV{α:Type}:∀{l:List (Nat × α)} {j:Nat} {v:α} {K:List (Nat × α)->Prop},IZ l j v K↔K (up l j v)
 | [],j,v,K=>Iff.rfl
 | (i,u)::r,j,v,K=>by
  simp only[IZ,up];cases Nat.beq i j
  ·exact lV
  ·exact Iff.rfl
def Dl:Nat->aP->(aP->Prop)->Prop
 | _,[],K=>K []
 | id,(k,u)::r,K=>match Nat.beq k id with
  | true=>K r
  | false=>Dl id r fun l=>K ((k,u)::l)
theorem vV:∀{id:Nat} {m:aP} {K:aP->Prop},Dl id m K↔K (drop id m)
 | _,[],K=>Iff.rfl
 | id,(k,u)::r,K=>by
  simp only[Dl,drop];cases Nat.beq k id
  ·exact vV
  ·exact Iff.rfl
def lQ(Γ:List (Nat × AV))(sl:List (Nat × AV))(x:Operand)(K:AV->Prop):Prop:=
 match x with
 | .tmp t=>opt (lk sl t) K
 | .const (.string s)=>uM s.data.toList fun l=>K (.str l)
 | .const v=>opt (wS v) K
 | .global g=>opt (lk Γ g) fun v=>K (.ip v)
 | .func f=>K (.fn (.func f) [] [])
theorem cH{Γ:List (Nat × AV)}{s:St}{x:Operand}{K:AV->Prop}(h:lQ Γ s.sl x K):∃v,ev Γ s x=some v/\K v:=by
 unfold lQ at h;split at h
 ·exact cG.1 h
 ·exact⟨_,rfl,lK.1 h⟩
 ·exact cG.1 h
 ·obtain⟨v,h1,h2⟩:=cG.1 h;exact⟨_,by simp[ev,h1],h2⟩
 ·exact⟨_,rfl,h⟩
def Ht(Γ:List (Nat × AV))(sl:List (Nat × AV)):List Operand->(List AV->Prop)->Prop
 | [],K=>K []
 | x::r,K=>lQ Γ sl x fun a=>Ht Γ sl r fun l=>K (a::l)
theorem pO{Γ:List (Nat × AV)}{s:St}:∀{xs:List Operand} {K:List AV->Prop},Ht Γ s.sl xs K->∃l,Bh Γ s xs=some l/\K l
 | [],K,h=>⟨[],rfl,h⟩
 | x::r,K,h=>by
  obtain⟨a,h1,h2⟩:=cH h;obtain⟨l,h3,h4⟩:=pO h2;exact⟨a::l,by simp[Bh,h1,h3],h4⟩
def q9(Γ:List (Nat × AV))(sl:List (Nat × AV)):List (Nat × Operand)->(List (Nat × AV)->Prop)->Prop
 | [],K=>K []
 | (i,x)::r,K=>lQ Γ sl x fun a=>q9 Γ sl r fun l=>K ((i,a)::l)
theorem tJ{Γ:List (Nat × AV)}{s:St}:∀{xs:List (Nat × Operand)} {K:List (Nat × AV)->Prop},q9 Γ s.sl xs K->∃l,iZ Γ s xs=some l/\K l
 | [],K,h=>⟨[],rfl,h⟩
 | (i,x)::r,K,h=>by
  obtain⟨a,h1,h2⟩:=cH h;obtain⟨l,h3,h4⟩:=tJ h2;exact⟨(i,a)::l,by simp[iZ,h1,h3],h4⟩
def GM(Γ:List (Nat × AV))(sl:List (Nat × AV))(x:Option Operand)(K:Option AV->Prop):Prop:=
 match x with
 | none=>K none
 | some x=>lQ Γ sl x fun a=>K (some a)
theorem AS{Γ:List (Nat × AV)}{s:St}{x:Option Operand}{K:Option AV->Prop}(h:GM Γ s.sl x K):∃l,wO Γ s x=some l/\K l:=by
 cases x with
 | none=>exact⟨none,rfl,h⟩
 | some x=>
  obtain⟨a,h1,h2⟩:=cH h;exact⟨some a,by simp[wO,h1],h2⟩
def Du(sh:Option Nat)(cs:List AV)(j:Nat)(K:AV->Prop):Prop:=
 match sh with
 | none=>opt cs[j]? fun c=>opt (one c) K
 | some n=>Ek n (cs.drop j) fun l=>K (.agg l)
theorem mK{sh:Option Nat}{cs:List AV}{j:Nat}{K:AV->Prop}(h:Du sh cs j K):∃v,sub sh cs j=some v/\K v:=by
 unfold Du at h;split at h
 ·obtain⟨c,h1,h2⟩:=cG.1 h;obtain⟨v,h3,h4⟩:=cG.1 h2;exact⟨v,by simp[sub,h1,h3],h4⟩
 ·obtain⟨h1,h2⟩:=Fb.1 h;refine⟨_, ?_,h2⟩;simp only[sub];rw[h1];simp
def Hh(P:Program)(mem:aP)(t:TypeId)(p:AV)(K:AV->Prop):Prop:=
 match p with
 | .ip u=>match EF P t with
  | some sh=>Du sh u.cells 0 K
  | none=>False
 | .ptr id i j=>match lk mem id with
  | some (.row _ sz xs)=>opt xs[i]? fun x=>match EF P t with
   | some sh=>match P.underlying t with
    | some (.array _ _)=>match sub sh x.cells j with
     | some _=>Du sh x.cells j K
     | none=>Du sh (FX xs) (i*sz+j) K
    | _=>Du sh x.cells j K
   | none=>False
  | _=>False
 | _=>False
theorem KS{P:Program}{mem:aP}{t:TypeId}{p:AV}{K:AV->Prop}(h:Hh P mem t p K):∃v,Ck P mem t p=some v/\K v:=by
 unfold Hh at h;unfold Ck;split at h
 ·split at h
  ·rename_i sh hsh;obtain⟨v,h1,h2⟩:=mK h;exact⟨v,by simp[hsh,h1],h2⟩
  ·exact h.elim
 ·split at h
  ·rename_i hid;obtain⟨x,hx,h⟩:=cG.1 h;split at h
   ·rename_i sh hsh;split at h
    ·rename_i hu;split at h
     ·obtain⟨v,h1,h2⟩:=mK h;exact⟨v,by simp only[hid,hx,hsh,h1],h2⟩
     ·rename_i hn;obtain⟨v,h1,h2⟩:=mK h;exact⟨v,by simp only[hid,hx,hsh,hn,hu,h1],h2⟩
    ·obtain⟨v,h1,h2⟩:=mK h;exact⟨v,by simp only[hid,hx,hsh,h1],h2⟩
   ·exact h.elim
  ·exact h.elim
 ·exact h.elim
def rO(P:Program)(t:TypeId)(f:Nat)(p:AV)(K:AV->Prop):Prop:=
 match P.underlying t with
 | some (.struct fs)=>match fs[f]? with
  | some fd=>match gQ P fd.type with
   | some (_+1)=>match p with
    | .ptr id i j=>pD (j+fd.offset) fun j=>K (.ptr id i j)
    | .ip u=>match EF P fd.type with
     | some sh=>Du sh u.cells fd.offset fun v=>K (.ip v)
     | none=>False
    | _=>False
   | _=>False
  | none=>False
 | _=>False
theorem F8{P:Program}{t:TypeId}{f:Nat}{p:AV}{K:AV->Prop}(h:rO P t f p K):∃v,o7 P t f p=some v/\K v:=by
 unfold rO at h;unfold o7;split at h
 ·rename_i fs hu;split at h
  ·rename_i fd hfd;split at h
   ·rename_i n hn;split at h
    ·exact⟨_,by simp[hu,hfd,hn],dY.1 h⟩
    ·split at h
     ·rename_i sh hsh;obtain⟨v,h1,h2⟩:=mK h;exact⟨_,by simp[hu,hfd,hn,hsh,h1],h2⟩
     ·exact h.elim
    ·exact h.elim
   ·exact h.elim
  ·exact h.elim
 ·exact h.elim
def GX(P:Program)(t:TypeId)(f:Nat)(v:AV)(K:AV->Prop):Prop:=
 match P.underlying t with
 | some (.struct fs)=>match fs[f]? with
  | some fd=>match v with
   | .agg cs=>match EF P fd.type with
    | some sh=>Du sh cs fd.offset K
    | none=>False
   | _=>False
  | none=>False
 | _=>False
theorem Nr{P:Program}{t:TypeId}{f:Nat}{p:AV}{K:AV->Prop}(h:GX P t f p K):∃v,CX P t f p=some v/\K v:=by
 unfold GX at h;unfold CX;split at h
 ·rename_i fs hu;split at h
  ·rename_i fd hfd;split at h
   ·split at h
    ·rename_i sh hsh;obtain⟨v,h1,h2⟩:=mK h;exact⟨v,by simp[hu,hfd,hsh,h1],h2⟩
    ·exact h.elim
   ·exact h.elim
  ·exact h.elim
 ·exact h.elim
def sE(cl:Bool)(P:Program)(mem:aP)(t:TypeId)(p ix:AV)(K:AV->Prop):Prop:=
 match ix with
 | .int _ n=>pM (decide (0<=n)) (match P.underlying t with
   | some (.slice e)=>match gQ P e with
    | some sz=>match p with
     | .sl id off len=>match lk mem id with
      | some (.row _ _ xs)=>pM (Nat.blt n.toNat len) (opt xs[off+n.toNat]? fun x=>pM (Nat.beq x.cells.length sz) (y9 cl (off+n.toNat) fun m=>K (.ptr id m 0)))
      | _=>False
     | .il sz' xs=>opt xs[n.toNat]? fun x=>pM (Nat.beq sz sz') (K (.ip x))
     | _=>False
    | none=>False
   | some (.array m e)=>match gQ P e,EF P e with
    | some sz,some sh=>pM (Nat.blt n.toNat m) (match p with
      | .ptr id i j=>match uG mem id i j sz with
       | true=>y9 cl (i+n.toNat) fun m=>K (.ptr id m 0)
       | false=>y9 cl (j+n.toNat*sz) fun m=>K (.ptr id i m)
      | .ip u=>Du sh u.cells (n.toNat*sz) fun v=>K (.ip v)
      | _=>False)
    | _,_=>False
   | _=>False)
 | _=>False
theorem GE{cl:Bool}{P:Program}{mem:aP}{t:TypeId}{p ix:AV}{K:AV->Prop}(h:sE cl P mem t p ix K):∃v,pJ P mem t p ix=some v/\K v:=by
 unfold sE at h;split at h
 ·rename_i kk n;obtain⟨hn,h⟩:=bZ.1 h;unfold pJ;simp only[hn];split at h
  ·rename_i e hu;simp only[hu];split at h
   ·rename_i sz hsz;simp only[hsz];split at h
    ·rename_i id off len;split at h
     ·rename_i hid;obtain⟨h1,h⟩:=bZ.1 h;obtain⟨x,hx,h⟩:=cG.1 h;obtain⟨h2,h⟩:=bZ.1 h;exact⟨_,by simp[hid,h1,hx,h2],iQ.1 h⟩
     ·exact h.elim
    ·obtain⟨x,hx,h⟩:=cG.1 h;obtain⟨h2,h⟩:=bZ.1 h;exact⟨_,by simp[hx,h2],h⟩
    ·exact h.elim
   ·exact h.elim
  ·rename_i m e hu;simp only[hu];split at h
   ·rename_i sz sh hsz hsh;simp only[hsz,hsh];obtain⟨h1,h⟩:=bZ.1 h;simp only[h1];split at h
    ·split at h
     ·rename_i he;exact⟨_,by simp[he],iQ.1 h⟩
     ·rename_i he;exact⟨_,by simp[he],iQ.1 h⟩
    ·obtain⟨v,h2,h3⟩:=mK h;exact⟨_,by simp[h2],h3⟩
    ·exact h.elim
   ·exact h.elim
  ·exact h.elim
 ·exact h.elim
def Fy(cl:Bool)(P:Program)(t:TypeId)(v ix:AV)(K:AV->Prop):Prop:=
 match ix with
 | .int _ n=>pM (decide (0<=n)) (match P.underlying t with
   | some .string=>match v with
    | .str s=>opt s[n.toNat]? fun b=>sH cl .u8 (b.toNat:Int) K
    | _=>False
   | some (.array m e)=>match v with
    | .agg cs=>pM (Nat.blt n.toNat m) (match gQ P e,EF P e with
      | some sz,some sh=>Du sh cs (n.toNat*sz) K
      | _,_=>False)
    | _=>False
   | _=>False)
 | _=>False
theorem Nt{cl:Bool}{P:Program}{t:TypeId}{p ix:AV}{K:AV->Prop}(h:Fy cl P t p ix K):∃v,DC P t p ix=some v/\K v:=by
 unfold Fy at h;split at h
 ·rename_i kk n;obtain⟨hn,h⟩:=bZ.1 h;unfold DC;simp only[hn];split at h
  ·rename_i hu;simp only[hu];split at h
   ·obtain⟨b,hb,h⟩:=cG.1 h;exact⟨_,by simp[hb],nZ.1 h⟩
   ·exact h.elim
  ·rename_i m e hu;simp only[hu];split at h
   ·obtain⟨h1,h⟩:=bZ.1 h;simp only[h1];split at h
    ·rename_i sz sh hsz hsh;obtain⟨v,h2,h3⟩:=mK h;exact⟨v,by simp[hsz,hsh,h2],h3⟩
    ·exact h.elim
   ·exact h.elim
  ·exact h.elim
 ·exact h.elim
def JM(cl:Bool)(op:BinOp)(k:IntKind)(x y:Int)(K:AV->Prop):Prop:=
 match op with
 | .add=>sH cl k (k.wrap (x+y)) K
 | .sub=>sH cl k (k.wrap (x-y)) K
 | .mul=>sH cl k (k.wrap (x*y)) K
 | .quo=>pM (!decide (y=0)) (sH cl k (k.wrap (x.tdiv y)) K)
 | .rem=>pM (!decide (y=0)) (sH cl k (x.tmod y) K)
 | .and=>sH cl k (bits .and k x y) K
 | .or=>sH cl k (bits .or k x y) K
 | .xor=>sH cl k (bits .xor k x y) K
 | .andNot=>sH cl k (bits .andNot k x y) K
 | .eql=>mO cl (x == y) K
 | .neq=>mO cl (x != y) K
 | .lss=>mO cl (decide (x<y)) K
 | .leq=>mO cl (decide (x<=y)) K
 | .gtr=>mO cl (decide (x>y)) K
 | .geq=>mO cl (decide (x≥y)) K
 | _=>False
theorem OR{cl:Bool}{op:BinOp}{k:IntKind}{x y:Int}{K:AV->Prop}(h:JM cl op k x y K):∃v,C3 op k x y=some v/\K v:=by
  cases op<;>simp only[JM,nZ,mY] at h<;>simp only[C3]<;>first
    | exact h.elim
    | exact⟨_,rfl,h⟩
    | (obtain⟨h1,h2⟩:=bZ.1 h
       have:decide (y=0)=false:=by simpa using h1
       rw[this];exact⟨_,rfl,h2⟩)
def JS(cl:Bool)(op:BinOp)(x y:List UInt8)(K:AV->Prop):Prop:=
 match op with
 | .add=>pM (Nat.ble (x.length+y.length) 9223372036854775807) (match cl with
   | true=>AO x y fun l=>K (.str l)
   | false=>K (.str (x++y)))
 | .eql=>mO cl (x == y) K
 | .neq=>mO cl (!(x == y)) K
 | .lss=>mO cl (Op.bytesLess x y) K
 | .leq=>mO cl (Op.bytesLess x y || x == y) K
 | .gtr=>mO cl (!(Op.bytesLess x y || x == y)) K
 | .geq=>mO cl (!(Op.bytesLess x y)) K
 | _=>False
theorem NZ{cl:Bool}{op:BinOp}{x y:List UInt8}{K:AV->Prop}(h:JS cl op x y K):∃v,DO op x y=some v/\K v:=by
  cases op<;>simp only[JS,mY] at h<;>simp only[DO]<;>first
    | exact h.elim
    | exact⟨_,rfl,h⟩
    | (obtain⟨h1,h2⟩:=bZ.1 h
       have h1':decide ((x.length:Int)+y.length<=9223372036854775807)=true:=by have:=Vd h1;simp;omega
       rw[h1'];refine⟨_,rfl, ?_⟩;cases cl
       · exact h2
       · exact fN.1 h2)
def Jr(cl:Bool)(op:BinOp)(k:IntKind)(x y:Int)(K:AV->Prop):Prop:=
 pM (!decide (y<0)) (match op with
  | .shl=>sH cl k (k.wrap (x*2 ^ (min y.toNat k.bits))) K
  | .shr=>sH cl k (x.fdiv (2 ^ (min y.toNat k.bits))) K
  | _=>False)
theorem Hv{cl:Bool}{op:BinOp}{k:IntKind}{x y:Int}{K:AV->Prop}(h:Jr cl op k x y K):∃v,Ah op k x y=some v/\K v:=by
 obtain⟨h1,h2⟩:=bZ.1 h;have h1:decide (y<0)=false:=by simpa using h1
 unfold Ah;rw[h1];cases op<;>simp only[nZ] at h2<;>first|exact h2.elim|exact⟨_,rfl,h2⟩
def PK(cl:Bool)(P:Program)(op:BinOp)(t:TypeId)(xo yo:Operand)(x y:AV)(K:AV->Prop):Prop:=
 match x,y with
 | .int k a,.int k' b=>match op with
  | .shl=>Jr cl .shl k a b K
  | .shr=>Jr cl .shr k a b K
  | _=>pM (decide (k=k')) (JM cl op k a b K)
 | .str a,.str b=>JS cl op a b K
 | .agg a,.agg b=>match P.eqGuardType P.depth t with
  | false=>match op with
   | .eql=>opt (GD P t a b) fun r=>mO cl r K
   | .neq=>opt (GD P t a b) fun r=>mO cl (!r) K
   | _=>False
  | true=>False
 | x,y=>match op with
  | .eql=>opt (OW P (mF xo || mF yo) t x y) fun b=>mO cl b K
  | .neq=>opt (OW P (mF xo || mF yo) t x y) fun b=>mO cl (!b) K
  | _=>False
theorem RI{cl:Bool}{P:Program}{op:BinOp}{t:TypeId}{xo yo:Operand}{x y:AV}{K:AV->Prop}(h:PK cl P op t xo yo x y K):∃v,Nh P op t xo yo x y=some v/\K v:=by
 unfold PK at h;unfold Nh;split at h
 ·split at h
  ·exact Hv h
  ·exact Hv h
  ·obtain⟨h1,h2⟩:=bZ.1 h;simp only[h1];obtain⟨v,h3,h4⟩:=OR h2;refine⟨v, ?_,h4⟩;cases op<;>first|exact h3|contradiction
 ·exact NZ h
 ·split at h
  ·rename_i hg;simp only[hg];split at h
   ·obtain⟨b,hb,h⟩:=cG.1 h;exact⟨.bool b,by simp only[hb],mY.1 h⟩
   ·obtain⟨b,hb,h⟩:=cG.1 h;exact⟨.bool (!b),by simp only[hb],mY.1 h⟩
   ·exact h.elim
  ·exact h.elim
 ·rename_i h1 h2 h3;split at h
  ·obtain⟨b,hb,h⟩:=cG.1 h;refine⟨.bool b, ?_,mY.1 h⟩;cases x<;>cases y<;>first|(simp only[hb];done)|(exact(h1 _ _ _ _ rfl rfl).elim)|(exact(h2 _ _ rfl rfl).elim)|(exact(h3 _ _ rfl rfl).elim)
  ·obtain⟨b,hb,h⟩:=cG.1 h;refine⟨.bool (!b), ?_,mY.1 h⟩;cases x<;>cases y<;>first|(simp only[hb];done)|(exact(h1 _ _ _ _ rfl rfl).elim)|(exact(h2 _ _ rfl rfl).elim)|(exact(h3 _ _ rfl rfl).elim)
  ·exact h.elim
def UW(cl:Bool)(op:UnOp)(x:AV)(K:AV->Prop):Prop:=
 match op,x with
 | .neg,.int k n=>sH cl k (k.wrap (0-n)) K
 | .not,.bool b=>mO cl (!b) K
 | _,_=>False
theorem UR{cl:Bool}{op:UnOp}{x:AV}{K:AV->Prop}(h:UW cl op x K):∃v,UV op x=some v/\K v:=by
 unfold UW at h;split at h
 ·exact⟨_,rfl,nZ.1 h⟩
 ·exact⟨_,rfl,mY.1 h⟩
 ·exact h.elim
def K3(cl:Bool)(P:Program)(mem:aP)(src dst:TypeId)(x:AV)(K:AV->Prop):Prop:=
 match P.underlying src with
 | none=>False
 | some d=>match P.underlying dst with
  | some (.int k)=>match x with
   | .int _ n=>sH cl k (k.wrap n) K
   | _=>False
  | some .string=>match x with
   | .str s=>K (.str s)
   | .nsl=>match d with
    | .slice e=>match P.underlying e with
     | some (.int .u8)=>K (.str [])
     | _=>False
    | _=>False
   | .il sz xs=>match d with
    | .slice e=>match P.underlying e with
     | some (.int .u8)=>pM (Nat.beq sz 1) (opt (gD xs) fun l=>sW cl l fun l=>K (.str l))
     | _=>False
    | _=>False
   | .sl id off len=>match d with
    | .slice e=>match P.underlying e with
     | some (.int .u8)=>match lk mem id with
      | some (.row _ _ xs)=>pM (Nat.ble (off+len) xs.length) (opt (gD ((xs.drop off).take len)) fun l=>sW cl l fun l=>K (.str l))
      | _=>False
     | _=>False
    | _=>False
   | _=>False
  | some .unsafePointer=>opt (Pv P mem d x) K
  | some (.pointer u)=>opt (GW P mem d u x) K
  | _=>False
theorem Ph{cl:Bool}{P:Program}{mem:aP}{src dst:TypeId}{x:AV}{K:AV->Prop}(h:K3 cl P mem src dst x K):∃v,Dk P mem src dst x=some v/\K v:=by
 unfold K3 at h;split at h
 ·exact h.elim
 ·rename_i d hd;unfold Dk;simp only[hd];split at h
  ·rename_i k hu;simp only[hu];split at h
   ·exact⟨_,rfl,nZ.1 h⟩
   ·exact h.elim
  ·rename_i hu;simp only[hu];split at h
   ·exact⟨_,rfl,h⟩
   ·split at h
    ·split at h
     ·rename_i he;exact⟨_,by simp only[he],h⟩
     ·exact h.elim
    ·exact h.elim
   ·split at h
    ·split at h
     ·rename_i he;obtain⟨h1,h⟩:=bZ.1 h;obtain⟨l,h2,h⟩:=cG.1 h;exact⟨_,by simp only[he,h1,h2],iS.1 h⟩
     ·exact h.elim
    ·exact h.elim
   ·split at h
    ·split at h
     ·rename_i he;split at h
      ·rename_i hid;obtain⟨h1,h⟩:=bZ.1 h;obtain⟨l,h2,h⟩:=cG.1 h;exact⟨_,by simp only[he,hid,h1,h2],iS.1 h⟩
      ·exact h.elim
     ·exact h.elim
    ·exact h.elim
   ·exact h.elim
  ·rename_i hu;simp only[hu];obtain⟨v,h1,h⟩:=cG.1 h;exact⟨v,h1,h⟩
  ·rename_i u hu;simp only[hu];obtain⟨v,h1,h⟩:=cG.1 h;exact⟨v,h1,h⟩
  ·exact h.elim
def Ff:List AV->Nat->List AV->(List AV->Prop)->Prop
 | cells,_,[],K=>K cells
 | cells,off,v::r,K=>J7 cells off v fun c=>Ff c (off+1) r K
theorem Ds(off:Nat):∀(vs:List AV) (k:Nat) (cells:List AV) (K:List AV->Prop),Ff cells (off+k) vs K↔K ((vs.zipIdx k).foldl (fun cs p=>cs.set (off+p.2) p.1) cells)
 | [],k,cells,K=>Iff.rfl
 | v::r,k,cells,K=>by
  simp only[Ff,bR,X5,V1];have:=Ds off r (k+1) (cells.set (off+k) v) K;rw[←Nat.add_assoc] at this;exact this
def Hf(place:Nat->Option (Nat × Nat)):List AV->List (Nat × AV)->(List AV->Prop)->Prop
 | cells,[],K=>K cells
 | cells,(i,v)::r,K=>match place i with
  | none=>False
  | some (off,size)=>pM (k7 v && (Nat.beq v.cells.length size && Nat.ble (off+v.cells.length) cells.length)) (Ff cells off v.cells fun cs=>Hf place cs r K)
theorem GQ{place:Nat->Option (Nat × Nat)}:∀{parts:List (Nat × AV)} {cells:List AV} {K:List AV->Prop},Hf place cells parts K->∃l,y5 place cells parts=some l/\K l
 | [],cells,K,h=>⟨cells,by simp[y5],h⟩
 | (i,v)::r,cells,K,h=>by
  simp only[Hf] at h;simp only[y5];split at h
  ·exact h.elim
  ·rename_i off size hp;obtain⟨h1,h2⟩:=bZ.1 h;have h3:=(Ds off v.cells 0 cells _).1 h2;obtain⟨l,h4,h5⟩:=GQ h3;exact⟨l,by simp only[hp,h1];exact h4,h5⟩
def Fk(P:Program)(t:TypeId)(parts:List (Nat × AV))(K:AV->Prop):Prop:=
 match P.info? t with
 | some it=>match it.zero with
  | some z=>match wS z with
   | some (.agg zs)=>match P.underlying t with
    | some (.array _ e)=>match gQ P e with
     | some n=>Hf (fun i=>some (i*n,n)) zs parts fun cs=>K (.agg cs)
     | none=>False
    | some (.struct fs)=>match vH P fs.toList with
     | some places=>Hf (fun i=>places[i]?) zs parts fun cs=>K (.agg cs)
     | none=>False
    | _=>False
   | _=>False
  | none=>False
 | none=>False
theorem Og{P:Program}{t:TypeId}{parts:List (Nat × AV)}{K:AV->Prop}(h:Fk P t parts K):∃v,B8 P t parts=some v/\K v:=by
 unfold Fk at h;unfold B8;split at h
 ·rename_i it h1;simp only[h1];split at h
  ·rename_i z h2;simp only[h2];split at h
   ·rename_i zs h3;simp only[h3];split at h
    ·rename_i e h4;simp only[h4];split at h
     ·rename_i n h5;simp only[h5];obtain⟨l,h6,h7⟩:=GQ h;exact⟨_,by rw[h6],h7⟩
     ·exact h.elim
    ·rename_i fs h4;simp only[h4];split at h
     ·rename_i n h5;simp only[h5];obtain⟨l,h6,h7⟩:=GQ h;exact⟨_,by rw[h6],h7⟩
     ·exact h.elim
    ·exact h.elim
   ·exact h.elim
  ·exact h.elim
 ·exact h.elim
def jY(d:Nat)(x:Option AV)(K:Nat->Prop):Prop:=
 match x with
 | none=>K d
 | some (.int _ n)=>pM (decide (0<=n)) (K n.toNat)
 | some _=>False
theorem gM{d:Nat}{x:Option AV}{K:Nat->Prop}(h:jY d x K):∃n,fF d x=some n/\K n:=by
 unfold jY at h;split at h
 ·exact⟨_,rfl,h⟩
 ·obtain⟨h1,h2⟩:=bZ.1 h;exact⟨_,by simp only[fF,h1],h2⟩
 ·exact h.elim
def Iy(cl:Bool)(P:Program)(mem:aP)(t:TypeId)(x:AV)(lo hi mx:Option AV)(K:AV->Prop):Prop:=
 match P.underlying t with
 | some .string=>match x,mx with
  | .str s,none=>jY 0 lo fun l=>jY s.length hi fun h=>pM (Nat.ble l h && Nat.ble h s.length) (sW cl ((s.drop l).take (h-l)) fun s=>K (.str s))
  | _,_=>False
 | some (.slice e)=>match gQ P e with
  | none=>False
  | some sz=>match x with
   | .nsl=>jY 0 lo fun l=>jY 0 hi fun h=>jY 0 mx fun m=>pM (Nat.beq l 0 && (Nat.beq h 0 && Nat.beq m 0)) (K .nsl)
   | .il sz' xs=>pM (Nat.beq sz sz') (jY 0 lo fun l=>jY xs.length hi fun h=>jY xs.length mx fun m=>pM (Nat.ble l h && (Nat.ble h m && Nat.ble m xs.length)) (sW cl ((xs.drop l).take (h-l)) fun ys=>K (.il sz' ys)))
   | .sl id off len=>match lk mem id with
    | some (.row _ sz0 _)=>pM (Nat.beq sz0 sz) (jY 0 lo fun l=>jY len hi fun h=>jY len mx fun m=>pM (Nat.ble l h && (Nat.ble h m && Nat.ble m len)) (y9 cl (off+l) fun o=>y9 cl (h-l) fun n=>K (.sl id o n)))
    | _=>False
   | _=>False
 | some (.array n e)=>match gQ P e with
  | none=>False
  | some sz=>match x with
   | .ptr id i 0=>match lk mem id with
    | some (.row _ _ xs)=>pM (uG mem id i 0 sz && Nat.ble (i+n) xs.length) (jY 0 lo fun l=>jY n hi fun h=>jY n mx fun m=>pM (Nat.ble l h && (Nat.ble h m && Nat.ble m n)) (y9 cl (i+l) fun o=>y9 cl (h-l) fun n=>K (.sl id o n)))
    | _=>False
   | _=>False
 | _=>False
theorem NA{cl:Bool}{P:Program}{mem:aP}{t:TypeId}{x:AV}{lo hi mx:Option AV}{K:AV->Prop}(h:Iy cl P mem t x lo hi mx K):∃v,Dt P mem t x lo hi mx=some v/\K v:=by
 unfold Iy at h;unfold Dt;split at h
 ·rename_i hu;simp only[hu];split at h
  ·rename_i s;obtain⟨l,h1,h⟩:=gM h;obtain⟨h',h2,h⟩:=gM h;obtain⟨h3,h⟩:=bZ.1 h;exact⟨_,by simp only[h1,h2,h3],iS.1 h⟩
  ·exact h.elim
 ·rename_i e hu;simp only[hu];split at h
  ·exact h.elim
  ·rename_i sz hsz;simp only[hsz];split at h
   ·obtain⟨l,h1,h⟩:=gM h;obtain⟨h',h2,h⟩:=gM h;obtain⟨m,h3,h⟩:=gM h;obtain⟨h4,h⟩:=bZ.1 h;simp only[VZ] at h4;obtain⟨a1,a2,a3⟩:=h4;rw[Nat.eq_of_beq_eq_true a1] at h1;rw[Nat.eq_of_beq_eq_true a2] at h2;rw[Nat.eq_of_beq_eq_true a3] at h3;exact⟨_,by simp only[h1,h2,h3],h⟩
   ·obtain⟨h0,h⟩:=bZ.1 h;obtain⟨l,h1,h⟩:=gM h;obtain⟨h',h2,h⟩:=gM h;obtain⟨m,h3,h⟩:=gM h;obtain⟨h4,h⟩:=bZ.1 h;exact⟨_,by simp only[h0,h1,h2,h3,h4],iS.1 h⟩
   ·split at h
    ·rename_i hid;obtain⟨h0,h⟩:=bZ.1 h;obtain⟨l,h1,h⟩:=gM h;obtain⟨h',h2,h⟩:=gM h;obtain⟨m,h3,h⟩:=gM h;obtain⟨h4,h⟩:=bZ.1 h;exact⟨_,by simp only[hid,h0,h1,h2,h3,h4],iQ.1 (iQ.1 h)⟩
    ·exact h.elim
   ·exact h.elim
 ·rename_i n e hu;simp only[hu];split at h
  ·exact h.elim
  ·rename_i sz hsz;simp only[hsz];split at h
   ·split at h
    ·rename_i hid;obtain⟨h0,h⟩:=bZ.1 h;obtain⟨l,h1,h⟩:=gM h;obtain⟨h',h2,h⟩:=gM h;obtain⟨m,h3,h⟩:=gM h;obtain⟨h4,h⟩:=bZ.1 h;exact⟨_,by simp only[hid,h0,h1,h2,h3,h4],iQ.1 (iQ.1 h)⟩
    ·exact h.elim
   ·exact h.elim
 ·exact h.elim
def Jn(sz:Nat)(sh:Option Nat):Nat->List AV->(List AV->Prop)->Prop
 | 0,_,K=>K []
 | m+1,cs,K=>Du sh cs 0 fun x=>Jn sz sh m (cs.drop sz) fun l=>K (x::l)
theorem Ha{sz:Nat}{sh:Option Nat}:∀{m:Nat} {cs:List AV} {K:List AV->Prop},Jn sz sh m cs K->∃l,Cb sz sh m cs=some l/\K l
 | 0,cs,K,h=>⟨[],rfl,h⟩
 | m+1,cs,K,h=>by
  obtain⟨x,h1,h⟩:=mK h;obtain⟨l,h2,h⟩:=Ha h;exact⟨_,by simp only[Cb,h1,h2],h⟩
def cnt{α:Type}:List α->Nat->Nat
 | [],n=>n
 | _::r,n=>cnt r (n+1)
theorem OG{α:Type}:∀(l:List α) (n:Nat),cnt l n=l.length+n
 | [],n=>by simp[cnt]
 | _::r,n=>by simp[cnt,OG r];omega
def QX(P:Program)(t:TypeId)(v:AV)(K:Nat->List AV->Prop):Prop:=
 match P.underlying t with
 | some (.array m e)=>match v with
  | .agg cs=>match gQ P e,EF P e with
   | some sz,some sh=>pM (Nat.beq (sh.getD 1) sz && (Nat.blt 0 sz && Nat.beq cs.length (m*sz))) (Jn sz sh m cs fun xs=>K sz xs)
   | _,_=>False
  | _=>False
 | some _=>pM (k7 v) (match v.cells with
  | []=>K 0 []
  | _::_=>pD (cnt v.cells 0) fun n=>K n [v])
 | none=>False
theorem NJ{P:Program}{t:TypeId}{v:AV}{K:Nat->List AV->Prop}(h:QX P t v K):∃sz xs,CS P t v=some (sz,xs)/\K sz xs:=by
 unfold QX at h;unfold CS;split at h
 ·rename_i m e hu;simp only[hu];split at h
  ·split at h
   ·rename_i sz sh h1 h2;simp only[h1,h2];obtain⟨h3,h⟩:=bZ.1 h;obtain⟨l,h4,h⟩:=Ha h;exact⟨_,_,by simp only[h3,h4],h⟩
   ·exact h.elim
  ·exact h.elim
 ·rename_i d hna hu;simp only[hu];obtain⟨h1,h⟩:=bZ.1 h;split at h
  ·rename_i hc;refine⟨_,_, ?_,h⟩;cases hd:d<;>first|(exact(hna _ _ hd).elim)|simp only[h1,hc]
  ·rename_i c cs hc;have h:=dY.1 h;rw[OG,W0] at h;refine⟨_,_, ?_,h⟩;cases hd:d<;>first|(exact(hna _ _ hd).elim)|simp only[h1,hc]
 ·exact h.elim
def Fm(P:Program)(mem:aP)(nx:Nat)(t:TypeId)(K:AV->aP->Nat->Prop):Prop:=
 match P.info? t with
 | some i=>match i.zero with
  | some z=>match wS z with
   | some v=>QX P t v fun sz xs=>pD (nx+1) fun n=>K (.ptr nx 0 0) ((nx,.row t sz xs)::mem) n
   | none=>False
  | none=>False
 | none=>False
theorem M8{P:Program}{mem:aP}{nx:Nat}{t:TypeId}{K:AV->aP->Nat->Prop}(h:Fm P mem nx t K):∃v m n,tG P mem nx t=some (v,m,n)/\K v m n:=by
 unfold Fm at h;unfold tG;split at h
 ·rename_i i h1;simp only[h1];split at h
  ·rename_i z h2;simp only[h2];split at h
   ·rename_i v h3;simp only[h3];obtain⟨sz,xs,h4,h⟩:=NJ h;exact⟨_,_,_,by simp only[h4],dY.1 h⟩
   ·exact h.elim
  ·exact h.elim
 ·exact h.elim
def R7(P:Program)(mem:aP)(nx:Nat)(t:TypeId)(v:AV)(K:AV->aP->Nat->Prop):Prop:=
 QX P t v fun sz xs=>pD (nx+1) fun n=>K (.ptr nx 0 0) ((nx,.row t sz xs)::mem) n
theorem RD{P:Program}{mem:aP}{nx:Nat}{t:TypeId}{v:AV}{K:AV->aP->Nat->Prop}(h:R7 P mem nx t v K):∃r m n,Iq P mem nx t v=some (r,m,n)/\K r m n:=by
 obtain⟨sz,xs,h4,h⟩:=NJ h;exact⟨_,_,_,by simp only[Iq,h4],dY.1 h⟩
def J5(sz:Nat):List AV->List (Nat × AV)->(List AV->Prop)->Prop
 | xs,[],K=>K xs
 | xs,(i,v)::r,K=>pM (k7 v && (Nat.beq v.cells.length sz && Nat.blt i xs.length)) (J7 xs i v fun xs=>J5 sz xs r K)
theorem Hq{sz:Nat}:∀{parts:List (Nat × AV)} {xs:List AV} {K:List AV->Prop},J5 sz xs parts K->∃l,uY sz xs parts=some l/\K l
 | [],xs,K,h=>⟨xs,by simp[uY],h⟩
 | (i,v)::r,xs,K,h=>by
  obtain⟨h1,h⟩:=bZ.1 h;obtain⟨l,h2,h⟩:=Hq (bR.1 h);exact⟨l,by simp only[uY,h1];exact h2,h⟩
def p8(P:Program)(mem:aP)(nx:Nat)(t:TypeId)(len:Nat)(parts:List (Nat × AV))(K:AV->aP->Nat->Prop):Prop:=
 match P.underlying t with
 | some (.slice e)=>match gQ P e,mI P e with
  | some sz,some z=>pM (k7 z && (Nat.beq z.cells.length sz && (Nat.blt 0 sz && Nat.ble (len*sz) 16777216))) (uM (List.replicate len z) fun zs=>J5 sz zs parts fun xs=>pD (nx+1) fun n=>K (.sl nx 0 len) ((nx,.row e sz xs)::mem) n)
  | _,_=>False
 | _=>False
theorem D7{P:Program}{mem:aP}{nx:Nat}{t:TypeId}{len:Nat}{parts:List (Nat × AV)}{K:AV->aP->Nat->Prop}(h:p8 P mem nx t len parts K):∃v m n,iC P mem nx t len parts=some (v,m,n)/\K v m n:=by
 unfold p8 at h;unfold iC;split at h
 ·rename_i e hu;simp only[hu];split at h
  ·rename_i sz z h1 h2;simp only[h1,h2];obtain⟨h3,h⟩:=bZ.1 h;obtain⟨l,h4,h⟩:=Hq (lK.1 h);exact⟨_,_,_,by simp only[h3,h4],dY.1 h⟩
  ·exact h.elim
 ·exact h.elim
def p6:List AV->Nat->List AV->(List AV->Prop)->Prop
 | [],_,cs,K=>K cs
 | x::r,0,[],K=>K (x::r)
 | _::r,0,c::cs,K=>p6 r 0 cs fun l=>K (c::l)
 | x::r,j+1,cs,K=>p6 r j cs fun l=>K (x::l)
theorem u0:∀{xs:List AV} {j:Nat} {cs:List AV} {K:List AV->Prop},p6 xs j cs K↔K (xs.take j++cs++xs.drop (j+cs.length))
 | [],j,cs,K=>by simp[p6]
 | x::r,0,[],K=>by simp[p6]
 | x::r,0,c::cs,K=>by simp[p6,u0]
 | x::r,j+1,cs,K=>by simp[p6,u0,Nat.add_right_comm]
def Aw(x:AV)(j:Nat)(cs:List AV)(K:AV->Prop):Prop:=
 match x with
 | .agg xs=>p6 xs j cs fun l=>K (.agg l)
 | _=>match cs with
  | [c]=>opt (one c) K
  | _=>False
theorem G0{x:AV}{j:Nat}{cs:List AV}{K:AV->Prop}(h:Aw x j cs K):∃v,tR x j cs=some v/\K v:=by
 unfold Aw at h;unfold tR;split at h
 ·exact⟨_,rfl,u0.1 h⟩
 ·rename_i hx;split at h
  ·obtain⟨v,h1,h2⟩:=cG.1 h;refine⟨v, ?_,h2⟩;cases x<;>first|exact h1|exact(hx _ rfl).elim
  ·exact h.elim
def C7:aP->(aP->Prop)->Prop
 | [],K=>K []
 | p::r,K=>C7 r fun r=>K (p::r)
theorem xU:∀{m:aP} {K:aP->Prop},C7 m K↔K m
 | [],K=>Iff.rfl
 | p::r,K=>by simp only[C7];exact xU
def GL(P:Program)(mem:aP)(t:TypeId)(p v:AV)(K:aP->Prop):Prop:=
 match p with
 | .ptr id i j=>match lk mem id with
  | some (.row t' sz' xs)=>opt xs[i]? fun x=>match gQ P t with
   | some n=>pM (k7 v && (Nat.beq v.cells.length n && Nat.ble (j+n) x.cells.length)) (Aw x j v.cells fun x'=>J7 xs i x' fun xs'=>IZ mem id (.row t' sz' xs') K)
   | none=>False
  | _=>False
 | _=>False
theorem L3{P:Program}{mem:aP}{t:TypeId}{p v:AV}{K:aP->Prop}(h:GL P mem t p v K):∃m,zY P mem t p v=some m/\K m:=by
 unfold GL at h;unfold zY;split at h
 ·split at h
  ·rename_i hid;obtain⟨x,hx,h⟩:=cG.1 h;split at h
   ·rename_i n hn;obtain⟨h1,h⟩:=bZ.1 h;obtain⟨x',h2,h⟩:=G0 h;exact⟨_,by simp only[hid,hx,hn,h1,h2],lV.1 (bR.1 h)⟩
   ·exact h.elim
  ·exact h.elim
 ·exact h.elim
def F1(P:Program)(mem:aP)(t:TypeId)(p v:AV)(K:aP->Prop):Prop:=
 match P.underlying t with
 | some (.array _ _)=>opt (xT P mem t p v) fun m=>C7 m K
 | _=>match v.cells with
  | []=>opt (v7 P mem t p v) K
  | _::_=>GL P mem t p v K
theorem Mo{P:Program}{mem:aP}{t:TypeId}{p v:AV}{K:aP->Prop}(h:F1 P mem t p v K):∃m,xT P mem t p v=some m/\K m:=by
 unfold F1 at h;split at h
 ·obtain⟨m,h1,h⟩:=cG.1 h;exact⟨m,h1,xU.1 h⟩
 ·split at h
  ·obtain⟨m,h1,h⟩:=cG.1 h;exact⟨m,by simp only[xT,h1],h⟩
  ·rename_i hc;obtain⟨m,h1,h⟩:=L3 h;have hz:v7 P mem t p v=none:=by
    unfold v7;split<;>first|rfl|skip
    split<;>first|rfl|skip
    split<;>first|rfl|skip
    rw[hc]
   exact⟨m,by simp only[xT,hz,h1],h⟩
def Oe(cl:Bool)(P:Program)(mem:aP)(nx:Nat)(t:TypeId)(l c:AV)(K:AV->aP->Nat->Prop):Prop:=
 match l,c with
 | .int _ l,.int _ c=>match P.underlying t with
  | some (.slice e)=>match P.info? e with
   | some i=>match mI P e with
    | some z=>pM (k7 z && (Nat.beq z.cells.length i.size && (Nat.blt 0 i.size && (decide (0<=l) && (decide (l<=c) && (decide ((i.bytes:Int)*c<=281474976710656) && decide (c<=9223372036854775807)))))))
      (pD (nx+1) fun n=>sW cl (List.replicate l.toNat z) fun zs=>y9 cl l.toNat fun m=>K (.sl nx 0 m) ((nx,.row e i.size zs)::mem) n)
    | none=>False
   | none=>False
  | _=>False
 | _,_=>False
theorem Ps{cl:Bool}{P:Program}{mem:aP}{nx:Nat}{t:TypeId}{l c:AV}{K:AV->aP->Nat->Prop}(h:Oe cl P mem nx t l c K):∃v m n,BU P mem nx t l c=some (v,m,n)/\K v m n:=by
 unfold Oe at h;split at h
 ·unfold BU;split at h
  ·rename_i e hu;simp only[hu];split at h
   ·rename_i i h1;simp only[h1];split at h
    ·rename_i z h2;simp only[h2];obtain⟨h3,h⟩:=bZ.1 h;have h4:=iQ.1 (iS.1 (dY.1 h));exact⟨_,_,_,by simp only[h3],h4⟩
    ·exact h.elim
   ·exact h.elim
  ·exact h.elim
 ·exact h.elim
def P6(cl:Bool)(mem:aP)(sz:Nat)(x:AV)(K:List AV->Prop):Prop:=
 match x with
 | .nsl=>K []
 | .il sz' ys=>pM (Nat.beq sz' sz) (K ys)
 | .sl id off len=>match lk mem id with
  | some (.row _ sz' xs)=>pM (Nat.beq sz' sz && Nat.ble (off+len) xs.length) (sW cl ((xs.drop off).take len) K)
  | _=>False
 | .str s=>pM (Nat.beq sz 1) (sW cl (s.map fun b=>.int .u8 (b.toNat:Int)) K)
 | _=>False
theorem NL{cl:Bool}{mem:aP}{sz:Nat}{x:AV}{K:List AV->Prop}(h:P6 cl mem sz x K):∃l,Lr mem sz x=some l/\K l:=by
 unfold P6 at h;unfold Lr;split at h
 ·exact⟨_,rfl,h⟩
 ·obtain⟨h1,h⟩:=bZ.1 h;exact⟨_,by simp only[h1],h⟩
 ·split at h
  ·rename_i hid;obtain⟨h1,h⟩:=bZ.1 h;exact⟨_,by simp only[hid,h1],iS.1 h⟩
  ·exact h.elim
 ·obtain⟨h1,h⟩:=bZ.1 h;exact⟨_,by simp only[h1],iS.1 h⟩
 ·exact h.elim
def Pz(cl:Bool)(xs ys:List AV)(K:List AV->Prop):Prop:=
 match cl with
 | true=>AO xs ys K
 | false=>K (xs++ys)
theorem HN{cl:Bool}{xs ys:List AV}{K:List AV->Prop}:Pz cl xs ys K↔K (xs++ys):=by cases cl<;>simp[Pz,fN]
def GN(cl:Bool)(P:Program)(mem:aP)(nx:Nat)(t u:TypeId)(s x:AV)(K:AV->aP->Nat->Prop):Prop:=
 match P.underlying t with
 | some (.slice e)=>match P.info? e with
  | some i=>match i.zero with
   | some z=>pM (yC (P.underlying u) && (Nat.blt 0 i.size && Nat.beq z.cells.size i.size)) (P6 cl mem i.size x fun ys=>match s with
     | .nsl=>pM (Nat.ble (ys.length*i.bytes) 140737488355328 && Nat.ble ys.length 9223372036854775807) (y9 cl ys.length fun l=>pD (nx+1) fun n=>K (.sl nx 0 l) ((nx,.row e i.size ys)::mem) n)
     | .sl id 0 len=>match lk mem id with
      | some (.row t' sz' xs)=>pM (Nat.beq t' e && (Nat.beq sz' i.size && (Nat.beq len xs.length && (Nat.ble ((len+ys.length)*i.bytes) 140737488355328 && Nat.ble (len+ys.length) 9223372036854775807))))
        (Pz cl xs ys fun zs=>y9 cl (len+ys.length) fun l=>pD (nx+1) fun n=>Dl id mem fun m=>K (.sl nx 0 l) ((nx,.row e i.size zs)::m) n)
      | _=>False
     | _=>False)
   | none=>False
  | none=>False
 | _=>False
theorem MG{cl:Bool}{P:Program}{mem:aP}{nx:Nat}{t u:TypeId}{s x:AV}{K:AV->aP->Nat->Prop}(h:GN cl P mem nx t u s x K):∃v m n,r7 P mem nx t u s x=some (v,m,n)/\K v m n:=by
 unfold GN at h;unfold r7;split at h
 ·rename_i e hu;simp only[hu];split at h
  ·rename_i i h1;simp only[h1];split at h
   ·rename_i z h2;simp only[h2];obtain⟨h3,h⟩:=bZ.1 h;simp only[h3];obtain⟨ys,h4,h⟩:=NL h;simp only[h4];split at h
    ·obtain⟨h5,h⟩:=bZ.1 h;exact⟨_,_,_,by simp only[h5],dY.1 (iQ.1 h)⟩
    ·split at h
     ·rename_i hid;obtain⟨h5,h⟩:=bZ.1 h;exact⟨_,_,_,by simp only[hid,h5],vV.1 (dY.1 (iQ.1 (HN.1 h)))⟩
     ·exact h.elim
    ·exact h.elim
   ·exact h.elim
  ·exact h.elim
 ·exact h.elim
def vU(cl:Bool)(P:Program)(mem:aP)(nx:Nat)(src dst:TypeId)(x:AV)(K:AV->aP->Nat->Prop):Prop:=
 match P.underlying src with
 | none=>False
 | some _=>match P.underlying dst with
  | some (.slice e)=>match P.underlying e with
   | some (.int .u8)=>match x with
    | .str s=>pD (nx+1) fun n=>y9 cl s.length fun l=>sW cl (s.map fun b=>.int .u8 (b.toNat:Int)) fun xs=>K (.sl nx 0 l) ((nx,.row e 1 xs)::mem) n
    | _=>False
   | _=>False
  | _=>False
theorem Hj{cl:Bool}{P:Program}{mem:aP}{nx:Nat}{src dst:TypeId}{x:AV}{K:AV->aP->Nat->Prop}(h:vU cl P mem nx src dst x K):∃v m n,lM P mem nx src dst x=some (v,m,n)/\K v m n:=by
 unfold vU at h;unfold lM;split at h
 ·exact h.elim
 ·rename_i d hd;simp only[hd];split at h
  ·rename_i e hu;simp only[hu];split at h
   ·rename_i he;simp only[he];split at h
    ·exact⟨_,_,_,rfl,iS.1 (iQ.1 (dY.1 h))⟩
    ·exact h.elim
   ·exact h.elim
  ·exact h.elim
def pT(P:Program)(mem:aP)(t:TypeId)(m k v:AV)(K:aP->Prop):Prop:=
 match P.underlying t with
 | some (.map kt _)=>pM (D2 P kt k) (match m with
   | .mp id=>match lk mem id with
    | some (.mapb es)=>opt (iX P kt k es 0) fun r=>match r with
     | some (i,_)=>opt es[i]? fun e=>pM (Ky e.1 k) (J7 es i (k,v) fun es=>IZ mem id (.mapb es) K)
     | none=>AO es [(k,v)] fun es=>IZ mem id (.mapb es) K
    | _=>False
   | _=>False)
 | _=>False
theorem yT{P:Program}{mem:aP}{t:TypeId}{m k v:AV}{K:aP->Prop}(h:pT P mem t m k v K):∃m',nC P mem t m k v=some m'/\K m':=by
 unfold pT at h;unfold nC;split at h
 ·rename_i kt et hu;simp only[hu];obtain⟨h1,h⟩:=bZ.1 h;simp only[h1];split at h
  ·split at h
   ·rename_i es hid;simp only[hid];obtain⟨r,h2,h⟩:=cG.1 h;split at h
    ·obtain⟨e,h3,h⟩:=cG.1 h;obtain⟨h4,h⟩:=bZ.1 h;exact⟨_,by simp only[h2,h3,h4],lV.1 (bR.1 h)⟩
    ·exact⟨_,by simp only[h2],lV.1 (fN.1 h)⟩
   ·exact h.elim
  ·exact h.elim
 ·exact h.elim
end Go.Ax
