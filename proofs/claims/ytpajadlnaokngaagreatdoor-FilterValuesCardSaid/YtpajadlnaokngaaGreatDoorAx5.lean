/- A part of the proof. -/
import Derived.Test.YtpajadlnaokngaaGreatDoorAx4
set_option linter.unusedVariables false
set_option linter.unusedSimpArgs false
set_option linter.unusedSectionVars false
namespace Go.Ax
open Go
def Jc(b:Bool)(p q:Prop):Prop:=
 match b with
 | true=>p
 | false=>q
def k9(b:Bool)(p:Prop):Prop:=
 match b with
 | true=>p
 | false=>False
def opt{α:Type}(o:Option α)(K:α->Prop):Prop:=
 match o with
 | some a=>K a
 | none=>False
theorem aE{b:Bool}{p q:Prop}(h1:b=true->p)(h2:b=false->q):Jc b p q:=by
 cases b
 ·exact h2 rfl
 ·exact h1 rfl
theorem a9{b:Bool}{p:Prop}:k9 b p↔b=true/\p:=by cases b<;>simp[k9]
theorem aK{b:Bool}{p:Prop}(h:b=true)(hp:p):k9 b p:=a9.2 ⟨h,hp⟩
theorem bG{α:Type}{o:Option α}{K:α->Prop}:opt o K↔∃a,o=some a/\K a:=by cases o<;>simp[opt]
theorem aD{α:Type}{o:Option α}{K:α->Prop}{a:α}(h:o=some a)(hk:K a):opt o K:=bG.2 ⟨a,h,hk⟩
def mP(n:Nat)(K:Nat->Prop):Prop:=
 match n with
 | 0=>K 0
 | Nat.succ m=>K (Nat.succ m)
theorem cQ{n:Nat}{K:Nat->Prop}:mP n K↔K n:=by cases n<;>rfl
def OB(n:Int)(K:Int->Prop):Prop:=
 match n with
 | .ofNat m=>mP m fun m=>K (.ofNat m)
 | .negSucc m=>mP m fun m=>K (.negSucc m)
theorem LY{n:Int}{K:Int->Prop}:OB n K↔K n:=by cases n<;>simp[OB,cQ]
def vH(cl:Bool)(n:Nat)(K:Nat->Prop):Prop:=
 match cl with
 | true=>mP n K
 | false=>K n
theorem fJ{cl:Bool}{n:Nat}{K:Nat->Prop}:vH cl n K↔K n:=by cases cl<;>simp[vH,cQ]
def nZ(cl:Bool)(k:IntKind)(n:Int)(K:AV->Prop):Prop:=
 match cl with
 | true=>OB n fun n=>K (.int k n)
 | false=>K (.int k n)
theorem jQ{cl:Bool}{k:IntKind}{n:Int}{K:AV->Prop}:nZ cl k n K↔K (.int k n):=by cases cl<;>simp[nZ,LY]
def iZ(cl:Bool)(b:Bool)(K:AV->Prop):Prop:=
 match cl with
 | true=>match b with
  | true=>K (.bool true)
  | false=>K (.bool false)
 | false=>K (.bool b)
theorem jA{cl:Bool}{b:Bool}{K:AV->Prop}:iZ cl b K↔K (.bool b):=by cases cl<;>cases b<;>rfl
def sZ{α:Type}:List α->(List α->Prop)->Prop
 | [],K=>K []
 | x::r,K=>sZ r fun l=>K (x::l)
theorem jE{α:Type}:∀{l:List α} {K:List α->Prop},sZ l K↔K l
 | [],K=>Iff.rfl
 | x::r,K=>by simp[sZ,jE]
def pH{α:Type}(cl:Bool)(l:List α)(K:List α->Prop):Prop:=
 match cl with
 | true=>sZ l K
 | false=>K l
theorem fP{α:Type}{cl:Bool}{l:List α}{K:List α->Prop}:pH cl l K↔K l:=by cases cl<;>simp[pH,jE]
def yE{α:Type}:List α->List α->(List α->Prop)->Prop
 | [],ys,K=>K ys
 | x::r,ys,K=>yE r ys fun l=>K (x::l)
theorem fL{α:Type}:∀{xs ys:List α} {K:List α->Prop},yE xs ys K↔K (xs++ys)
 | [],ys,K=>Iff.rfl
 | x::r,ys,K=>by simp[yE,fL]
def GY{α:Type}:List α->Nat->α->(List α->Prop)->Prop
 | [],_,_,K=>K []
 | _::r,0,v,K=>K (v::r)
 | x::r,i+1,v,K=>GY r i v fun l=>K (x::l)
theorem bQ{α:Type}:∀{xs:List α} {i:Nat} {v:α} {K:List α->Prop},GY xs i v K↔K (xs.set i v)
 | [],_,_,K=>Iff.rfl
 | _::r,0,v,K=>Iff.rfl
 | x::r,i+1,v,K=>by simp[GY,bQ]
def CF{α:Type}:Nat->List α->(List α->Prop)->Prop
 | 0,_,K=>K []
 | _+1,[],_=>False
 | n+1,c::r,K=>CF n r fun l=>K (c::l)
theorem B9{α:Type}:∀{n:Nat} {l:List α} {K:List α->Prop},CF n l K↔(l.take n).length=n/\K (l.take n)
 | 0,l,K=>by simp[CF]
 | n+1,[],K=>by simp[CF]
 | n+1,c::r,K=>by simp[CF,B9]
def ET{α:Type}:List (Nat × α)->Nat->α->(List (Nat × α)->Prop)->Prop
 | [],j,v,K=>K [(j,v)]
 | (i,u)::r,j,v,K=>match Nat.beq i j with
  | true=>K ((i,v)::r)
  | false=>ET r j v fun l=>K ((i,u)::l)
theorem iP{α:Type}:∀{l:List (Nat × α)} {j:Nat} {v:α} {K:List (Nat × α)->Prop},ET l j v K↔K (up l j v)
 | [],j,v,K=>Iff.rfl
 | (i,u)::r,j,v,K=>by
  simp only[ET,up];cases Nat.beq i j
  ·exact iP
  ·exact Iff.rfl
def CA:Nat->aN->(aN->Prop)->Prop
 | _,[],K=>K []
 | id,(k,u)::r,K=>match Nat.beq k id with
  | true=>K r
  | false=>CA id r fun l=>K ((k,u)::l)
theorem rN:∀{id:Nat} {m:aN} {K:aN->Prop},CA id m K↔K (drop id m)
 | _,[],K=>Iff.rfl
 | id,(k,u)::r,K=>by
  simp only[CA,drop];cases Nat.beq k id
  ·exact rN
  ·exact Iff.rfl
def iI(Γ:List (Nat × AV))(sl:List (Nat × AV))(x:Operand)(K:AV->Prop):Prop:=
 match x with
 | .tmp t=>opt (lk sl t) K
 | .const (.string s)=>sZ s.data.toList fun l=>K (.str l)
 | .const v=>opt (tI v) K
 | .global g=>opt (lk Γ g) fun v=>K (.ip v)
 | .func f=>K (.fn (.func f) [] [])
theorem bH{Γ:List (Nat × AV)}{s:St}{x:Operand}{K:AV->Prop}(h:iI Γ s.sl x K):∃v,ev Γ s x=some v/\K v:=by
 unfold iI at h;split at h
 ·exact bG.1 h
 ·exact⟨_,rfl,jE.1 h⟩
 ·exact bG.1 h
 ·obtain⟨v,h1,h2⟩:=bG.1 h;exact⟨_,by simp[ev,h1],h2⟩
 ·exact⟨_,rfl,h⟩
def Ee(Γ:List (Nat × AV))(sl:List (Nat × AV)):List Operand->(List AV->Prop)->Prop
 | [],K=>K []
 | x::r,K=>iI Γ sl x fun a=>Ee Γ sl r fun l=>K (a::l)
theorem k6{Γ:List (Nat × AV)}{s:St}:∀{xs:List Operand} {K:List AV->Prop},Ee Γ s.sl xs K->∃l,z3 Γ s xs=some l/\K l
 | [],K,h=>⟨[],rfl,h⟩
 | x::r,K,h=>by
  obtain⟨a,h1,h2⟩:=bH h;obtain⟨l,h3,h4⟩:=k6 h2;exact⟨a::l,by simp[z3,h1,h3],h4⟩
def mW(Γ:List (Nat × AV))(sl:List (Nat × AV)):List (Nat × Operand)->(List (Nat × AV)->Prop)->Prop
 | [],K=>K []
 | (i,x)::r,K=>iI Γ sl x fun a=>mW Γ sl r fun l=>K ((i,a)::l)
theorem pR{Γ:List (Nat × AV)}{s:St}:∀{xs:List (Nat × Operand)} {K:List (Nat × AV)->Prop},mW Γ s.sl xs K->∃l,fW Γ s xs=some l/\K l
 | [],K,h=>⟨[],rfl,h⟩
 | (i,x)::r,K,h=>by
  obtain⟨a,h1,h2⟩:=bH h;obtain⟨l,h3,h4⟩:=pR h2;exact⟨(i,a)::l,by simp[fW,h1,h3],h4⟩
def Dc(Γ:List (Nat × AV))(sl:List (Nat × AV))(x:Option Operand)(K:Option AV->Prop):Prop:=
 match x with
 | none=>K none
 | some x=>iI Γ sl x fun a=>K (some a)
theorem wO{Γ:List (Nat × AV)}{s:St}{x:Option Operand}{K:Option AV->Prop}(h:Dc Γ s.sl x K):∃l,s7 Γ s x=some l/\K l:=by
 cases x with
 | none=>exact⟨none,rfl,h⟩
 | some x=>
  obtain⟨a,h1,h2⟩:=bH h;exact⟨some a,by simp[s7,h1],h2⟩
def AS(sh:Option Nat)(cs:List AV)(j:Nat)(K:AV->Prop):Prop:=
 match sh with
 | none=>opt cs[j]? fun c=>opt (one c) K
 | some n=>CF n (cs.drop j) fun l=>K (.agg l)
theorem iK{sh:Option Nat}{cs:List AV}{j:Nat}{K:AV->Prop}(h:AS sh cs j K):∃v,sub sh cs j=some v/\K v:=by
 unfold AS at h;split at h
 ·obtain⟨c,h1,h2⟩:=bG.1 h;obtain⟨v,h3,h4⟩:=bG.1 h2;exact⟨v,by simp[sub,h1,h3],h4⟩
 ·obtain⟨h1,h2⟩:=B9.1 h;refine⟨_, ?_,h2⟩;simp only[sub];rw[h1];simp
def Eg(P:Program)(mem:aN)(t:TypeId)(p:AV)(K:AV->Prop):Prop:=
 match p with
 | .ip u=>match Be P t with
  | some sh=>AS sh u.cells 0 K
  | none=>False
 | .ptr id i j=>match lk mem id with
  | some (.row _ sz xs)=>opt xs[i]? fun x=>match Be P t with
   | some sh=>match P.underlying t with
    | some (.array _ _)=>match sub sh x.cells j with
     | some _=>AS sh x.cells j K
     | none=>AS sh (Bq xs) (i*sz+j) K
    | _=>AS sh x.cells j K
   | none=>False
  | _=>False
 | _=>False
theorem Hb{P:Program}{mem:aN}{t:TypeId}{p:AV}{K:AV->Prop}(h:Eg P mem t p K):∃v,Ah P mem t p=some v/\K v:=by
 unfold Eg at h;unfold Ah;split at h
 ·split at h
  ·rename_i sh hsh;obtain⟨v,h1,h2⟩:=iK h;exact⟨v,by simp[hsh,h1],h2⟩
  ·exact h.elim
 ·split at h
  ·rename_i hid;obtain⟨x,hx,h⟩:=bG.1 h;split at h
   ·rename_i sh hsh;split at h
    ·rename_i hu;split at h
     ·obtain⟨v,h1,h2⟩:=iK h;exact⟨v,by simp only[hid,hx,hsh,h1],h2⟩
     ·rename_i hn;obtain⟨v,h1,h2⟩:=iK h;exact⟨v,by simp only[hid,hx,hsh,hn,hu,h1],h2⟩
    ·obtain⟨v,h1,h2⟩:=iK h;exact⟨v,by simp only[hid,hx,hsh,h1],h2⟩
   ·exact h.elim
  ·exact h.elim
 ·exact h.elim
def oY(P:Program)(t:TypeId)(f:Nat)(p:AV)(K:AV->Prop):Prop:=
 match P.underlying t with
 | some (.struct fs)=>match fs[f]? with
  | some fd=>match eB P fd.type with
   | some (_+1)=>match p with
    | .ptr id i j=>mP (j+fd.offset) fun j=>K (.ptr id i j)
    | .ip u=>match Be P fd.type with
     | some sh=>AS sh u.cells fd.offset fun v=>K (.ip v)
     | none=>False
    | _=>False
   | _=>False
  | none=>False
 | _=>False
theorem DT{P:Program}{t:TypeId}{f:Nat}{p:AV}{K:AV->Prop}(h:oY P t f p K):∃v,kV P t f p=some v/\K v:=by
 unfold oY at h;unfold kV;split at h
 ·rename_i fs hu;split at h
  ·rename_i fd hfd;split at h
   ·rename_i n hn;split at h
    ·exact⟨_,by simp[hu,hfd,hn],cQ.1 h⟩
    ·split at h
     ·rename_i sh hsh;obtain⟨v,h1,h2⟩:=iK h;exact⟨_,by simp[hu,hfd,hn,hsh,h1],h2⟩
     ·exact h.elim
    ·exact h.elim
   ·exact h.elim
  ·exact h.elim
 ·exact h.elim
def Ds(P:Program)(t:TypeId)(f:Nat)(v:AV)(K:AV->Prop):Prop:=
 match P.underlying t with
 | some (.struct fs)=>match fs[f]? with
  | some fd=>match v with
   | .agg cs=>match Be P fd.type with
    | some sh=>AS sh cs fd.offset K
    | none=>False
   | _=>False
  | none=>False
 | _=>False
theorem KZ{P:Program}{t:TypeId}{f:Nat}{p:AV}{K:AV->Prop}(h:Ds P t f p K):∃v,Aa P t f p=some v/\K v:=by
 unfold Ds at h;unfold Aa;split at h
 ·rename_i fs hu;split at h
  ·rename_i fd hfd;split at h
   ·split at h
    ·rename_i sh hsh;obtain⟨v,h1,h2⟩:=iK h;exact⟨v,by simp[hu,hfd,hsh,h1],h2⟩
    ·exact h.elim
   ·exact h.elim
  ·exact h.elim
 ·exact h.elim
def oK(cl:Bool)(P:Program)(mem:aN)(t:TypeId)(p ix:AV)(K:AV->Prop):Prop:=
 match ix with
 | .int _ n=>k9 (decide (0<=n)) (match P.underlying t with
   | some (.slice e)=>match eB P e with
    | some sz=>match p with
     | .sl id off len=>match lk mem id with
      | some (.row _ _ xs)=>k9 (Nat.blt n.toNat len) (opt xs[off+n.toNat]? fun x=>k9 (Nat.beq x.cells.length sz) (vH cl (off+n.toNat) fun m=>K (.ptr id m 0)))
      | _=>False
     | .il sz' xs=>opt xs[n.toNat]? fun x=>k9 (Nat.beq sz sz') (K (.ip x))
     | _=>False
    | none=>False
   | some (.array m e)=>match eB P e,Be P e with
    | some sz,some sh=>k9 (Nat.blt n.toNat m) (match p with
      | .ptr id i j=>match AZ mem id i j sz with
       | true=>vH cl (i+n.toNat) fun m=>K (.ptr id m 0)
       | false=>vH cl (j+n.toNat*sz) fun m=>K (.ptr id i m)
      | .ip u=>AS sh u.cells (n.toNat*sz) fun v=>K (.ip v)
      | _=>False)
    | _,_=>False
   | _=>False)
 | _=>False
theorem Dt{cl:Bool}{P:Program}{mem:aN}{t:TypeId}{p ix:AV}{K:AV->Prop}(h:oK cl P mem t p ix K):∃v,lG P mem t p ix=some v/\K v:=by
 unfold oK at h;split at h
 ·rename_i kk n;obtain⟨hn,h⟩:=a9.1 h;unfold lG;simp only[hn];split at h
  ·rename_i e hu;simp only[hu];split at h
   ·rename_i sz hsz;simp only[hsz];split at h
    ·rename_i id off len;split at h
     ·rename_i hid;obtain⟨h1,h⟩:=a9.1 h;obtain⟨x,hx,h⟩:=bG.1 h;obtain⟨h2,h⟩:=a9.1 h;exact⟨_,by simp[hid,h1,hx,h2],fJ.1 h⟩
     ·exact h.elim
    ·obtain⟨x,hx,h⟩:=bG.1 h;obtain⟨h2,h⟩:=a9.1 h;exact⟨_,by simp[hx,h2],h⟩
    ·exact h.elim
   ·exact h.elim
  ·rename_i m e hu;simp only[hu];split at h
   ·rename_i sz sh hsz hsh;simp only[hsz,hsh];obtain⟨h1,h⟩:=a9.1 h;simp only[h1];split at h
    ·split at h
     ·rename_i he;exact⟨_,by simp[he],fJ.1 h⟩
     ·rename_i he;exact⟨_,by simp[he],fJ.1 h⟩
    ·obtain⟨v,h2,h3⟩:=iK h;exact⟨_,by simp[h2],h3⟩
    ·exact h.elim
   ·exact h.elim
  ·exact h.elim
 ·exact h.elim
def Cl(cl:Bool)(P:Program)(t:TypeId)(v ix:AV)(K:AV->Prop):Prop:=
 match ix with
 | .int _ n=>k9 (decide (0<=n)) (match P.underlying t with
   | some .string=>match v with
    | .str s=>opt s[n.toNat]? fun b=>nZ cl .u8 (b.toNat:Int) K
    | _=>False
   | some (.array m e)=>match v with
    | .agg cs=>k9 (Nat.blt n.toNat m) (match eB P e,Be P e with
      | some sz,some sh=>AS sh cs (n.toNat*sz) K
      | _,_=>False)
    | _=>False
   | _=>False)
 | _=>False
theorem Lv{cl:Bool}{P:Program}{t:TypeId}{p ix:AV}{K:AV->Prop}(h:Cl cl P t p ix K):∃v,BL P t p ix=some v/\K v:=by
 unfold Cl at h;split at h
 ·rename_i kk n;obtain⟨hn,h⟩:=a9.1 h;unfold BL;simp only[hn];split at h
  ·rename_i hu;simp only[hu];split at h
   ·obtain⟨b,hb,h⟩:=bG.1 h;exact⟨_,by simp[hb],jQ.1 h⟩
   ·exact h.elim
  ·rename_i m e hu;simp only[hu];split at h
   ·obtain⟨h1,h⟩:=a9.1 h;simp only[h1];split at h
    ·rename_i sz sh hsz hsh;obtain⟨v,h2,h3⟩:=iK h;exact⟨v,by simp[hsz,hsh,h2],h3⟩
    ·exact h.elim
   ·exact h.elim
  ·exact h.elim
 ·exact h.elim
def GJ(cl:Bool)(op:BinOp)(k:IntKind)(x y:Int)(K:AV->Prop):Prop:=
 match op with
 | .add=>nZ cl k (k.wrap (x+y)) K
 | .sub=>nZ cl k (k.wrap (x-y)) K
 | .mul=>nZ cl k (k.wrap (x*y)) K
 | .quo=>k9 (!decide (y=0)) (nZ cl k (k.wrap (x.tdiv y)) K)
 | .rem=>k9 (!decide (y=0)) (nZ cl k (x.tmod y) K)
 | .and=>nZ cl k (bits .and k x y) K
 | .or=>nZ cl k (bits .or k x y) K
 | .xor=>nZ cl k (bits .xor k x y) K
 | .andNot=>nZ cl k (bits .andNot k x y) K
 | .eql=>iZ cl (x == y) K
 | .neq=>iZ cl (x != y) K
 | .lss=>iZ cl (decide (x<y)) K
 | .leq=>iZ cl (decide (x<=y)) K
 | .gtr=>iZ cl (decide (x>y)) K
 | .geq=>iZ cl (decide (x≥y)) K
 | _=>False
theorem KX{cl:Bool}{op:BinOp}{k:IntKind}{x y:Int}{K:AV->Prop}(h:GJ cl op k x y K):∃v,AJ op k x y=some v/\K v:=by
  cases op<;>simp only[GJ,jQ,jA] at h<;>simp only[AJ]<;>first
    | exact h.elim
    | exact⟨_,rfl,h⟩
    | (obtain⟨h1,h2⟩:=a9.1 h
       have:decide (y=0)=false:=by simpa using h1
       rw[this];exact⟨_,rfl,h2⟩)
def GC(cl:Bool)(op:BinOp)(x y:List UInt8)(K:AV->Prop):Prop:=
 match op with
 | .add=>k9 (Nat.ble (x.length+y.length) 9223372036854775807) (match cl with
   | true=>yE x y fun l=>K (.str l)
   | false=>K (.str (x++y)))
 | .eql=>iZ cl (x == y) K
 | .neq=>iZ cl (!(x == y)) K
 | .lss=>iZ cl (Op.bytesLess x y) K
 | .leq=>iZ cl (Op.bytesLess x y || x == y) K
 | .gtr=>iZ cl (!(Op.bytesLess x y || x == y)) K
 | .geq=>iZ cl (!(Op.bytesLess x y)) K
 | _=>False
theorem KQ{cl:Bool}{op:BinOp}{x y:List UInt8}{K:AV->Prop}(h:GC cl op x y K):∃v,zZ op x y=some v/\K v:=by
  cases op<;>simp only[GC,jA] at h<;>simp only[zZ]<;>first
    | exact h.elim
    | exact⟨_,rfl,h⟩
    | (obtain⟨h1,h2⟩:=a9.1 h
       have h1':decide ((x.length:Int)+y.length<=9223372036854775807)=true:=by have:=Qu h1;simp;omega
       rw[h1'];refine⟨_,rfl, ?_⟩;cases cl
       · exact h2
       · exact fL.1 h2)
def F0(cl:Bool)(op:BinOp)(k:IntKind)(x y:Int)(K:AV->Prop):Prop:=
 k9 (!decide (y<0)) (match op with
  | .shl=>nZ cl k (k.wrap (x*2 ^ (min y.toNat k.bits))) K
  | .shr=>nZ cl k (x.fdiv (2 ^ (min y.toNat k.bits))) K
  | _=>False)
theorem ES{cl:Bool}{op:BinOp}{k:IntKind}{x y:Int}{K:AV->Prop}(h:F0 cl op k x y K):∃v,wX op k x y=some v/\K v:=by
 obtain⟨h1,h2⟩:=a9.1 h;have h1:decide (y<0)=false:=by simpa using h1
 unfold wX;rw[h1];cases op<;>simp only[jQ] at h2<;>first|exact h2.elim|exact⟨_,rfl,h2⟩
def MS(cl:Bool)(P:Program)(op:BinOp)(t:TypeId)(xo yo:Operand)(x y:AV)(K:AV->Prop):Prop:=
 match x,y with
 | .int k a,.int k' b=>match op with
  | .shl=>F0 cl .shl k a b K
  | .shr=>F0 cl .shr k a b K
  | _=>k9 (decide (k=k')) (GJ cl op k a b K)
 | .str a,.str b=>GC cl op a b K
 | .agg a,.agg b=>match P.eqGuardType P.depth t with
  | false=>match op with
   | .eql=>opt (GB P t a b) fun r=>iZ cl r K
   | .neq=>opt (GB P t a b) fun r=>iZ cl (!r) K
   | _=>False
  | true=>False
 | x,y=>match op with
  | .eql=>opt (Lb P (iR xo || iR yo) t x y) fun b=>iZ cl b K
  | .neq=>opt (Lb P (iR xo || iR yo) t x y) fun b=>iZ cl (!b) K
  | _=>False
theorem Nv{cl:Bool}{P:Program}{op:BinOp}{t:TypeId}{xo yo:Operand}{x y:AV}{K:AV->Prop}(h:MS cl P op t xo yo x y K):∃v,LQ P op t xo yo x y=some v/\K v:=by
 unfold MS at h;unfold LQ;split at h
 ·split at h
  ·exact ES h
  ·exact ES h
  ·obtain⟨h1,h2⟩:=a9.1 h;simp only[h1];obtain⟨v,h3,h4⟩:=KX h2;refine⟨v, ?_,h4⟩;cases op<;>first|exact h3|contradiction
 ·exact KQ h
 ·split at h
  ·rename_i hg;simp only[hg];split at h
   ·obtain⟨b,hb,h⟩:=bG.1 h;exact⟨.bool b,by simp only[hb],jA.1 h⟩
   ·obtain⟨b,hb,h⟩:=bG.1 h;exact⟨.bool (!b),by simp only[hb],jA.1 h⟩
   ·exact h.elim
  ·exact h.elim
 ·rename_i h1 h2 h3;split at h
  ·obtain⟨b,hb,h⟩:=bG.1 h;refine⟨.bool b, ?_,jA.1 h⟩;cases x<;>cases y<;>first|(simp only[hb];done)|(exact(h1 _ _ _ _ rfl rfl).elim)|(exact(h2 _ _ rfl rfl).elim)|(exact(h3 _ _ rfl rfl).elim)
  ·obtain⟨b,hb,h⟩:=bG.1 h;refine⟨.bool (!b), ?_,jA.1 h⟩;cases x<;>cases y<;>first|(simp only[hb];done)|(exact(h1 _ _ _ _ rfl rfl).elim)|(exact(h2 _ _ rfl rfl).elim)|(exact(h3 _ _ rfl rfl).elim)
  ·exact h.elim
def P6(cl:Bool)(op:UnOp)(x:AV)(K:AV->Prop):Prop:=
 match op,x with
 | .neg,.int k n=>nZ cl k (k.wrap (0-n)) K
 | .not,.bool b=>iZ cl (!b) K
 | _,_=>False
theorem Pk{cl:Bool}{op:UnOp}{x:AV}{K:AV->Prop}(h:P6 cl op x K):∃v,P4 op x=some v/\K v:=by
 unfold P6 at h;split at h
 ·exact⟨_,rfl,jQ.1 h⟩
 ·exact⟨_,rfl,jA.1 h⟩
 ·exact h.elim
def Hi(cl:Bool)(P:Program)(mem:aN)(src dst:TypeId)(x:AV)(K:AV->Prop):Prop:=
 match P.underlying src with
 | none=>False
 | some d=>match P.underlying dst with
  | some (.int k)=>match x with
   | .int _ n=>nZ cl k (k.wrap n) K
   | _=>False
  | some .string=>match x with
   | .str s=>K (.str s)
   | .nsl=>match d with
    | .slice e=>match P.underlying e with
     | some (.int .u8)=>K (.str [])
     | _=>False
    | _=>False
   | .il sz xs=>match d with
    | .slice e=>match P.underlying e with
     | some (.int .u8)=>k9 (Nat.beq sz 1) (opt (fV xs) fun l=>pH cl l fun l=>K (.str l))
     | _=>False
    | _=>False
   | .sl id off len=>match d with
    | .slice e=>match P.underlying e with
     | some (.int .u8)=>match lk mem id with
      | some (.row _ _ xs)=>k9 (Nat.ble (off+len) xs.length) (opt (fV ((xs.drop off).take len)) fun l=>pH cl l fun l=>K (.str l))
      | _=>False
     | _=>False
    | _=>False
   | _=>False
  | some .unsafePointer=>opt (M3 P mem d x) K
  | some (.pointer u)=>opt (DU P mem d u x) K
  | _=>False
theorem M7{cl:Bool}{P:Program}{mem:aN}{src dst:TypeId}{x:AV}{K:AV->Prop}(h:Hi cl P mem src dst x K):∃v,BE P mem src dst x=some v/\K v:=by
 unfold Hi at h;split at h
 ·exact h.elim
 ·rename_i d hd;unfold BE;simp only[hd];split at h
  ·rename_i k hu;simp only[hu];split at h
   ·exact⟨_,rfl,jQ.1 h⟩
   ·exact h.elim
  ·rename_i hu;simp only[hu];split at h
   ·exact⟨_,rfl,h⟩
   ·split at h
    ·split at h
     ·rename_i he;exact⟨_,by simp only[he],h⟩
     ·exact h.elim
    ·exact h.elim
   ·split at h
    ·split at h
     ·rename_i he;obtain⟨h1,h⟩:=a9.1 h;obtain⟨l,h2,h⟩:=bG.1 h;exact⟨_,by simp only[he,h1,h2],fP.1 h⟩
     ·exact h.elim
    ·exact h.elim
   ·split at h
    ·split at h
     ·rename_i he;split at h
      ·rename_i hid;obtain⟨h1,h⟩:=a9.1 h;obtain⟨l,h2,h⟩:=bG.1 h;exact⟨_,by simp only[he,hid,h1,h2],fP.1 h⟩
      ·exact h.elim
     ·exact h.elim
    ·exact h.elim
   ·exact h.elim
  ·rename_i hu;simp only[hu];obtain⟨v,h1,h⟩:=bG.1 h;exact⟨v,h1,h⟩
  ·rename_i u hu;simp only[hu];obtain⟨v,h1,h⟩:=bG.1 h;exact⟨v,h1,h⟩
  ·exact h.elim
def Dn:List AV->Nat->List AV->(List AV->Prop)->Prop
 | cells,_,[],K=>K cells
 | cells,off,v::r,K=>GY cells off v fun c=>Dn c (off+1) r K
theorem BU(off:Nat):∀(vs:List AV) (k:Nat) (cells:List AV) (K:List AV->Prop),Dn cells (off+k) vs K↔K ((vs.zipIdx k).foldl (fun cs p=>cs.set (off+p.2) p.1) cells)
 | [],k,cells,K=>Iff.rfl
 | v::r,k,cells,K=>by
  simp only[Dn,bQ,S9,RW];have:=BU off r (k+1) (cells.set (off+k) v) K;rw[←Nat.add_assoc] at this;exact this
def FP(place:Nat->Option (Nat × Nat)):List AV->List (Nat × AV)->(List AV->Prop)->Prop
 | cells,[],K=>K cells
 | cells,(i,v)::r,K=>match place i with
  | none=>False
  | some (off,size)=>k9 (hY v && (Nat.beq v.cells.length size && Nat.ble (off+v.cells.length) cells.length)) (Dn cells off v.cells fun cs=>FP place cs r K)
theorem DR{place:Nat->Option (Nat × Nat)}:∀{parts:List (Nat × AV)} {cells:List AV} {K:List AV->Prop},FP place cells parts K->∃l,vQ place cells parts=some l/\K l
 | [],cells,K,h=>⟨cells,by simp[vQ],h⟩
 | (i,v)::r,cells,K,h=>by
  simp only[FP] at h;simp only[vQ];split at h
  ·exact h.elim
  ·rename_i off size hp;obtain⟨h1,h2⟩:=a9.1 h;have h3:=(BU off v.cells 0 cells _).1 h2;obtain⟨l,h4,h5⟩:=DR h3;exact⟨l,by simp only[hp,h1];exact h4,h5⟩
def DY(P:Program)(t:TypeId)(parts:List (Nat × AV))(K:AV->Prop):Prop:=
 match P.info? t with
 | some it=>match it.zero with
  | some z=>match tI z with
   | some (.agg zs)=>match P.underlying t with
    | some (.array _ e)=>match eB P e with
     | some n=>FP (fun i=>some (i*n,n)) zs parts fun cs=>K (.agg cs)
     | none=>False
    | some (.struct fs)=>match rX P fs.toList with
     | some places=>FP (fun i=>places[i]?) zs parts fun cs=>K (.agg cs)
     | none=>False
    | _=>False
   | _=>False
  | none=>False
 | none=>False
theorem Kj{P:Program}{t:TypeId}{parts:List (Nat × AV)}{K:AV->Prop}(h:DY P t parts K):∃v,Ai P t parts=some v/\K v:=by
 unfold DY at h;unfold Ai;split at h
 ·rename_i it h1;simp only[h1];split at h
  ·rename_i z h2;simp only[h2];split at h
   ·rename_i zs h3;simp only[h3];split at h
    ·rename_i e h4;simp only[h4];split at h
     ·rename_i n h5;simp only[h5];obtain⟨l,h6,h7⟩:=DR h;exact⟨_,by rw[h6],h7⟩
     ·exact h.elim
    ·rename_i fs h4;simp only[h4];split at h
     ·rename_i n h5;simp only[h5];obtain⟨l,h6,h7⟩:=DR h;exact⟨_,by rw[h6],h7⟩
     ·exact h.elim
    ·exact h.elim
   ·exact h.elim
  ·exact h.elim
 ·exact h.elim
def fS(d:Nat)(x:Option AV)(K:Nat->Prop):Prop:=
 match x with
 | none=>K d
 | some (.int _ n)=>k9 (decide (0<=n)) (K n.toNat)
 | some _=>False
theorem d9{d:Nat}{x:Option AV}{K:Nat->Prop}(h:fS d x K):∃n,dA d x=some n/\K n:=by
 unfold fS at h;split at h
 ·exact⟨_,rfl,h⟩
 ·obtain⟨h1,h2⟩:=a9.1 h;exact⟨_,by simp only[dA,h1],h2⟩
 ·exact h.elim
def GP(cl:Bool)(P:Program)(mem:aN)(t:TypeId)(x:AV)(lo hi mx:Option AV)(K:AV->Prop):Prop:=
 match P.underlying t with
 | some .string=>match x,mx with
  | .str s,none=>fS 0 lo fun l=>fS s.length hi fun h=>k9 (Nat.ble l h && Nat.ble h s.length) (pH cl ((s.drop l).take (h-l)) fun s=>K (.str s))
  | _,_=>False
 | some (.slice e)=>match eB P e with
  | none=>False
  | some sz=>match x with
   | .nsl=>fS 0 lo fun l=>fS 0 hi fun h=>fS 0 mx fun m=>k9 (Nat.beq l 0 && (Nat.beq h 0 && Nat.beq m 0)) (K .nsl)
   | .il sz' xs=>k9 (Nat.beq sz sz') (fS 0 lo fun l=>fS xs.length hi fun h=>fS xs.length mx fun m=>k9 (Nat.ble l h && (Nat.ble h m && Nat.ble m xs.length)) (pH cl ((xs.drop l).take (h-l)) fun ys=>K (.il sz' ys)))
   | .sl id off len=>match lk mem id with
    | some (.row _ sz0 _)=>k9 (Nat.beq sz0 sz) (fS 0 lo fun l=>fS len hi fun h=>fS len mx fun m=>k9 (Nat.ble l h && (Nat.ble h m && Nat.ble m len)) (vH cl (off+l) fun o=>vH cl (h-l) fun n=>K (.sl id o n)))
    | _=>False
   | _=>False
 | some (.array n e)=>match eB P e with
  | none=>False
  | some sz=>match x with
   | .ptr id i 0=>match lk mem id with
    | some (.row _ _ xs)=>k9 (AZ mem id i 0 sz && Nat.ble (i+n) xs.length) (fS 0 lo fun l=>fS n hi fun h=>fS n mx fun m=>k9 (Nat.ble l h && (Nat.ble h m && Nat.ble m n)) (vH cl (i+l) fun o=>vH cl (h-l) fun n=>K (.sl id o n)))
    | _=>False
   | _=>False
 | _=>False
theorem KU{cl:Bool}{P:Program}{mem:aN}{t:TypeId}{x:AV}{lo hi mx:Option AV}{K:AV->Prop}(h:GP cl P mem t x lo hi mx K):∃v,Am P mem t x lo hi mx=some v/\K v:=by
 unfold GP at h;unfold Am;split at h
 ·rename_i hu;simp only[hu];split at h
  ·rename_i s;obtain⟨l,h1,h⟩:=d9 h;obtain⟨h',h2,h⟩:=d9 h;obtain⟨h3,h⟩:=a9.1 h;exact⟨_,by simp only[h1,h2,h3],fP.1 h⟩
  ·exact h.elim
 ·rename_i e hu;simp only[hu];split at h
  ·exact h.elim
  ·rename_i sz hsz;simp only[hsz];split at h
   ·obtain⟨l,h1,h⟩:=d9 h;obtain⟨h',h2,h⟩:=d9 h;obtain⟨m,h3,h⟩:=d9 h;obtain⟨h4,h⟩:=a9.1 h;simp only[Qt] at h4;obtain⟨a1,a2,a3⟩:=h4;rw[Nat.eq_of_beq_eq_true a1] at h1;rw[Nat.eq_of_beq_eq_true a2] at h2;rw[Nat.eq_of_beq_eq_true a3] at h3;exact⟨_,by simp only[h1,h2,h3],h⟩
   ·obtain⟨h0,h⟩:=a9.1 h;obtain⟨l,h1,h⟩:=d9 h;obtain⟨h',h2,h⟩:=d9 h;obtain⟨m,h3,h⟩:=d9 h;obtain⟨h4,h⟩:=a9.1 h;exact⟨_,by simp only[h0,h1,h2,h3,h4],fP.1 h⟩
   ·split at h
    ·rename_i hid;obtain⟨h0,h⟩:=a9.1 h;obtain⟨l,h1,h⟩:=d9 h;obtain⟨h',h2,h⟩:=d9 h;obtain⟨m,h3,h⟩:=d9 h;obtain⟨h4,h⟩:=a9.1 h;exact⟨_,by simp only[hid,h0,h1,h2,h3,h4],fJ.1 (fJ.1 h)⟩
    ·exact h.elim
   ·exact h.elim
 ·rename_i n e hu;simp only[hu];split at h
  ·exact h.elim
  ·rename_i sz hsz;simp only[hsz];split at h
   ·split at h
    ·rename_i hid;obtain⟨h0,h⟩:=a9.1 h;obtain⟨l,h1,h⟩:=d9 h;obtain⟨h',h2,h⟩:=d9 h;obtain⟨m,h3,h⟩:=d9 h;obtain⟨h4,h⟩:=a9.1 h;exact⟨_,by simp only[hid,h0,h1,h2,h3,h4],fJ.1 (fJ.1 h)⟩
    ·exact h.elim
   ·exact h.elim
 ·exact h.elim
def Fd(sz:Nat)(sh:Option Nat):Nat->List AV->(List AV->Prop)->Prop
 | 0,_,K=>K []
 | m+1,cs,K=>AS sh cs 0 fun x=>Fd sz sh m (cs.drop sz) fun l=>K (x::l)
theorem FU{sz:Nat}{sh:Option Nat}:∀{m:Nat} {cs:List AV} {K:List AV->Prop},Fd sz sh m cs K->∃l,Ab sz sh m cs=some l/\K l
 | 0,cs,K,h=>⟨[],rfl,h⟩
 | m+1,cs,K,h=>by
  obtain⟨x,h1,h⟩:=iK h;obtain⟨l,h2,h⟩:=FU h;exact⟨_,by simp only[Ab,h1,h2],h⟩
def PA{α:Type}:List α->Nat->Nat
 | [],n=>n
 | _::r,n=>PA r (n+1)
theorem Lw{α:Type}:∀(l:List α) (n:Nat),PA l n=l.length+n
 | [],n=>by simp[PA]
 | _::r,n=>by simp[PA,Lw r];omega
def Mj(P:Program)(t:TypeId)(v:AV)(K:Nat->List AV->Prop):Prop:=
 match P.underlying t with
 | some (.array m e)=>match v with
  | .agg cs=>match eB P e,Be P e with
   | some sz,some sh=>k9 (Nat.beq (sh.getD 1) sz && (Nat.blt 0 sz && Nat.beq cs.length (m*sz))) (Fd sz sh m cs fun xs=>K sz xs)
   | _,_=>False
  | _=>False
 | some _=>k9 (hY v) (match v.cells with
  | []=>K 0 []
  | _::_=>mP (PA v.cells 0) fun n=>K n [v])
 | none=>False
theorem Lr{P:Program}{t:TypeId}{v:AV}{K:Nat->List AV->Prop}(h:Mj P t v K):∃sz xs,AI P t v=some (sz,xs)/\K sz xs:=by
 unfold Mj at h;unfold AI;split at h
 ·rename_i m e hu;simp only[hu];split at h
  ·split at h
   ·rename_i sz sh h1 h2;simp only[h1,h2];obtain⟨h3,h⟩:=a9.1 h;obtain⟨l,h4,h⟩:=FU h;exact⟨_,_,by simp only[h3,h4],h⟩
   ·exact h.elim
  ·exact h.elim
 ·rename_i d hna hu;simp only[hu];obtain⟨h1,h⟩:=a9.1 h;split at h
  ·rename_i hc;refine⟨_,_, ?_,h⟩;cases hd:d<;>first|(exact(hna _ _ hd).elim)|simp only[h1,hc]
  ·rename_i c cs hc;have h:=cQ.1 h;rw[Lw,SV] at h;refine⟨_,_, ?_,h⟩;cases hd:d<;>first|(exact(hna _ _ hd).elim)|simp only[h1,hc]
 ·exact h.elim
def Cm(P:Program)(mem:aN)(nx:Nat)(t:TypeId)(K:AV->aN->Nat->Prop):Prop:=
 match P.info? t with
 | some i=>match i.zero with
  | some z=>match tI z with
   | some v=>Mj P t v fun sz xs=>mP (nx+1) fun n=>K (.ptr nx 0 0) ((nx,.row t sz xs)::mem) n
   | none=>False
  | none=>False
 | none=>False
theorem Kv{P:Program}{mem:aN}{nx:Nat}{t:TypeId}{K:AV->aN->Nat->Prop}(h:Cm P mem nx t K):∃v m n,qU P mem nx t=some (v,m,n)/\K v m n:=by
 unfold Cm at h;unfold qU;split at h
 ·rename_i i h1;simp only[h1];split at h
  ·rename_i z h2;simp only[h2];split at h
   ·rename_i v h3;simp only[h3];obtain⟨sz,xs,h4,h⟩:=Lr h;exact⟨_,_,_,by simp only[h4],cQ.1 h⟩
   ·exact h.elim
  ·exact h.elim
 ·exact h.elim
def Nu(P:Program)(mem:aN)(nx:Nat)(t:TypeId)(v:AV)(K:AV->aN->Nat->Prop):Prop:=
 Mj P t v fun sz xs=>mP (nx+1) fun n=>K (.ptr nx 0 0) ((nx,.row t sz xs)::mem) n
theorem Oo{P:Program}{mem:aN}{nx:Nat}{t:TypeId}{v:AV}{K:AV->aN->Nat->Prop}(h:Nu P mem nx t v K):∃r m n,EJ P mem nx t v=some (r,m,n)/\K r m n:=by
 obtain⟨sz,xs,h4,h⟩:=Lr h;exact⟨_,_,_,by simp only[EJ,h4],cQ.1 h⟩
def Ga(sz:Nat):List AV->List (Nat × AV)->(List AV->Prop)->Prop
 | xs,[],K=>K xs
 | xs,(i,v)::r,K=>k9 (hY v && (Nat.beq v.cells.length sz && Nat.blt i xs.length)) (GY xs i v fun xs=>Ga sz xs r K)
theorem Et{sz:Nat}:∀{parts:List (Nat × AV)} {xs:List AV} {K:List AV->Prop},Ga sz xs parts K->∃l,qY sz xs parts=some l/\K l
 | [],xs,K,h=>⟨xs,by simp[qY],h⟩
 | (i,v)::r,xs,K,h=>by
  obtain⟨h1,h⟩:=a9.1 h;obtain⟨l,h2,h⟩:=Et (bQ.1 h);exact⟨l,by simp only[qY,h1];exact h2,h⟩
def lR(P:Program)(mem:aN)(nx:Nat)(t:TypeId)(len:Nat)(parts:List (Nat × AV))(K:AV->aN->Nat->Prop):Prop:=
 match P.underlying t with
 | some (.slice e)=>match eB P e,jR P e with
  | some sz,some z=>k9 (hY z && (Nat.beq z.cells.length sz && (Nat.blt 0 sz && Nat.ble (len*sz) 16777216))) (sZ (List.replicate len z) fun zs=>Ga sz zs parts fun xs=>mP (nx+1) fun n=>K (.sl nx 0 len) ((nx,.row e sz xs)::mem) n)
  | _,_=>False
 | _=>False
theorem Bb{P:Program}{mem:aN}{nx:Nat}{t:TypeId}{len:Nat}{parts:List (Nat × AV)}{K:AV->aN->Nat->Prop}(h:lR P mem nx t len parts K):∃v m n,e7 P mem nx t len parts=some (v,m,n)/\K v m n:=by
 unfold lR at h;unfold e7;split at h
 ·rename_i e hu;simp only[hu];split at h
  ·rename_i sz z h1 h2;simp only[h1,h2];obtain⟨h3,h⟩:=a9.1 h;obtain⟨l,h4,h⟩:=Et (jE.1 h);exact⟨_,_,_,by simp only[h3,h4],cQ.1 h⟩
  ·exact h.elim
 ·exact h.elim
def mA:List AV->Nat->List AV->(List AV->Prop)->Prop
 | [],_,cs,K=>K cs
 | x::r,0,[],K=>K (x::r)
 | _::r,0,c::cs,K=>mA r 0 cs fun l=>K (c::l)
 | x::r,j+1,cs,K=>mA r j cs fun l=>K (x::l)
theorem qM:∀{xs:List AV} {j:Nat} {cs:List AV} {K:List AV->Prop},mA xs j cs K↔K (xs.take j++cs++xs.drop (j+cs.length))
 | [],j,cs,K=>by simp[mA]
 | x::r,0,[],K=>by simp[mA]
 | x::r,0,c::cs,K=>by simp[mA,qM]
 | x::r,j+1,cs,K=>by simp[mA,qM,Nat.add_right_comm]
def wP(x:AV)(j:Nat)(cs:List AV)(K:AV->Prop):Prop:=
 match x with
 | .agg xs=>mA xs j cs fun l=>K (.agg l)
 | _=>match cs with
  | [c]=>opt (one c) K
  | _=>False
theorem FS{x:AV}{j:Nat}{cs:List AV}{K:AV->Prop}(h:wP x j cs K):∃v,qN x j cs=some v/\K v:=by
 unfold wP at h;unfold qN;split at h
 ·exact⟨_,rfl,qM.1 h⟩
 ·rename_i hx;split at h
  ·obtain⟨v,h1,h2⟩:=bG.1 h;refine⟨v, ?_,h2⟩;cases x<;>first|exact h1|exact(hx _ rfl).elim
  ·exact h.elim
def BF:aN->(aN->Prop)->Prop
 | [],K=>K []
 | p::r,K=>BF r fun r=>K (p::r)
theorem uL:∀{m:aN} {K:aN->Prop},BF m K↔K m
 | [],K=>Iff.rfl
 | p::r,K=>by simp only[BF];exact uL
def De(P:Program)(mem:aN)(t:TypeId)(p v:AV)(K:aN->Prop):Prop:=
 match p with
 | .ptr id i j=>match lk mem id with
  | some (.row t' sz' xs)=>opt xs[i]? fun x=>match eB P t with
   | some n=>k9 (hY v && (Nat.beq v.cells.length n && Nat.ble (j+n) x.cells.length)) (wP x j v.cells fun x'=>GY xs i x' fun xs'=>ET mem id (.row t' sz' xs') K)
   | none=>False
  | _=>False
 | _=>False
theorem Jb{P:Program}{mem:aN}{t:TypeId}{p v:AV}{K:aN->Prop}(h:De P mem t p v K):∃m,vX P mem t p v=some m/\K m:=by
 unfold De at h;unfold vX;split at h
 ·split at h
  ·rename_i hid;obtain⟨x,hx,h⟩:=bG.1 h;split at h
   ·rename_i n hn;obtain⟨h1,h⟩:=a9.1 h;obtain⟨x',h2,h⟩:=FS h;exact⟨_,by simp only[hid,hx,hn,h1,h2],iP.1 (bQ.1 h)⟩
   ·exact h.elim
  ·exact h.elim
 ·exact h.elim
def Cw(P:Program)(mem:aN)(t:TypeId)(p v:AV)(K:aN->Prop):Prop:=
 match P.underlying t with
 | some (.array _ _)=>opt (uO P mem t p v) fun m=>BF m K
 | _=>match v.cells with
  | []=>opt (sP P mem t p v) K
  | _::_=>De P mem t p v K
theorem Lh{P:Program}{mem:aN}{t:TypeId}{p v:AV}{K:aN->Prop}(h:Cw P mem t p v K):∃m,uO P mem t p v=some m/\K m:=by
 unfold Cw at h;split at h
 ·obtain⟨m,h1,h⟩:=bG.1 h;exact⟨m,h1,uL.1 h⟩
 ·split at h
  ·obtain⟨m,h1,h⟩:=bG.1 h;exact⟨m,by simp only[uO,h1],h⟩
  ·rename_i hc;obtain⟨m,h1,h⟩:=Jb h;have hz:sP P mem t p v=none:=by
    unfold sP;split<;>first|rfl|skip
    split<;>first|rfl|skip
    split<;>first|rfl|skip
    rw[hc]
   exact⟨m,by simp only[uO,hz,h1],h⟩
def Jt(cl:Bool)(P:Program)(mem:aN)(nx:Nat)(t:TypeId)(l c:AV)(K:AV->aN->Nat->Prop):Prop:=
 match l,c with
 | .int _ l,.int _ c=>match P.underlying t with
  | some (.slice e)=>match P.info? e with
   | some i=>match jR P e with
    | some z=>k9 (hY z && (Nat.beq z.cells.length i.size && (Nat.blt 0 i.size && (decide (0<=l) && (decide (l<=c) && (decide ((i.bytes:Int)*c<=281474976710656) && decide (c<=9223372036854775807)))))))
      (mP (nx+1) fun n=>pH cl (List.replicate l.toNat z) fun zs=>vH cl l.toNat fun m=>K (.sl nx 0 m) ((nx,.row e i.size zs)::mem) n)
    | none=>False
   | none=>False
  | _=>False
 | _,_=>False
theorem MX{cl:Bool}{P:Program}{mem:aN}{nx:Nat}{t:TypeId}{l c:AV}{K:AV->aN->Nat->Prop}(h:Jt cl P mem nx t l c K):∃v m n,w7 P mem nx t l c=some (v,m,n)/\K v m n:=by
 unfold Jt at h;split at h
 ·unfold w7;split at h
  ·rename_i e hu;simp only[hu];split at h
   ·rename_i i h1;simp only[h1];split at h
    ·rename_i z h2;simp only[h2];obtain⟨h3,h⟩:=a9.1 h;have h4:=fJ.1 (fP.1 (cQ.1 h));exact⟨_,_,_,by simp only[h3],h4⟩
    ·exact h.elim
   ·exact h.elim
  ·exact h.elim
 ·exact h.elim
def Mr(cl:Bool)(mem:aN)(sz:Nat)(x:AV)(K:List AV->Prop):Prop:=
 match x with
 | .nsl=>K []
 | .il sz' ys=>k9 (Nat.beq sz' sz) (K ys)
 | .sl id off len=>match lk mem id with
  | some (.row _ sz' xs)=>k9 (Nat.beq sz' sz && Nat.ble (off+len) xs.length) (pH cl ((xs.drop off).take len) K)
  | _=>False
 | .str s=>k9 (Nat.beq sz 1) (pH cl (s.map fun b=>.int .u8 (b.toNat:Int)) K)
 | _=>False
theorem Kk{cl:Bool}{mem:aN}{sz:Nat}{x:AV}{K:List AV->Prop}(h:Mr cl mem sz x K):∃l,Ik mem sz x=some l/\K l:=by
 unfold Mr at h;unfold Ik;split at h
 ·exact⟨_,rfl,h⟩
 ·obtain⟨h1,h⟩:=a9.1 h;exact⟨_,by simp only[h1],h⟩
 ·split at h
  ·rename_i hid;obtain⟨h1,h⟩:=a9.1 h;exact⟨_,by simp only[hid,h1],fP.1 h⟩
  ·exact h.elim
 ·obtain⟨h1,h⟩:=a9.1 h;exact⟨_,by simp only[h1],fP.1 h⟩
 ·exact h.elim
def Mc(cl:Bool)(xs ys:List AV)(K:List AV->Prop):Prop:=
 match cl with
 | true=>yE xs ys K
 | false=>K (xs++ys)
theorem D6{cl:Bool}{xs ys:List AV}{K:List AV->Prop}:Mc cl xs ys K↔K (xs++ys):=by cases cl<;>simp[Mc,fL]
def DJ(cl:Bool)(P:Program)(mem:aN)(nx:Nat)(t u:TypeId)(s x:AV)(K:AV->aN->Nat->Prop):Prop:=
 match P.underlying t with
 | some (.slice e)=>match P.info? e with
  | some i=>match i.zero with
   | some z=>k9 (uK (P.underlying u) && (Nat.blt 0 i.size && Nat.beq z.cells.size i.size)) (Mr cl mem i.size x fun ys=>match s with
     | .nsl=>k9 (Nat.ble (ys.length*i.bytes) 140737488355328 && Nat.ble ys.length 9223372036854775807) (vH cl ys.length fun l=>mP (nx+1) fun n=>K (.sl nx 0 l) ((nx,.row e i.size ys)::mem) n)
     | .sl id 0 len=>match lk mem id with
      | some (.row t' sz' xs)=>k9 (Nat.beq t' e && (Nat.beq sz' i.size && (Nat.beq len xs.length && (Nat.ble ((len+ys.length)*i.bytes) 140737488355328 && Nat.ble (len+ys.length) 9223372036854775807))))
        (Mc cl xs ys fun zs=>vH cl (len+ys.length) fun l=>mP (nx+1) fun n=>CA id mem fun m=>K (.sl nx 0 l) ((nx,.row e i.size zs)::m) n)
      | _=>False
     | _=>False)
   | none=>False
  | none=>False
 | _=>False
theorem Ih{cl:Bool}{P:Program}{mem:aN}{nx:Nat}{t u:TypeId}{s x:AV}{K:AV->aN->Nat->Prop}(h:DJ cl P mem nx t u s x K):∃v m n,nO P mem nx t u s x=some (v,m,n)/\K v m n:=by
 unfold DJ at h;unfold nO;split at h
 ·rename_i e hu;simp only[hu];split at h
  ·rename_i i h1;simp only[h1];split at h
   ·rename_i z h2;simp only[h2];obtain⟨h3,h⟩:=a9.1 h;simp only[h3];obtain⟨ys,h4,h⟩:=Kk h;simp only[h4];split at h
    ·obtain⟨h5,h⟩:=a9.1 h;exact⟨_,_,_,by simp only[h5],cQ.1 (fJ.1 h)⟩
    ·split at h
     ·rename_i hid;obtain⟨h5,h⟩:=a9.1 h;exact⟨_,_,_,by simp only[hid,h5],rN.1 (cQ.1 (fJ.1 (D6.1 h)))⟩
     ·exact h.elim
    ·exact h.elim
   ·exact h.elim
  ·exact h.elim
 ·exact h.elim
def rR(cl:Bool)(P:Program)(mem:aN)(nx:Nat)(src dst:TypeId)(x:AV)(K:AV->aN->Nat->Prop):Prop:=
 match P.underlying src with
 | none=>False
 | some _=>match P.underlying dst with
  | some (.slice e)=>match P.underlying e with
   | some (.int .u8)=>match x with
    | .str s=>mP (nx+1) fun n=>vH cl s.length fun l=>pH cl (s.map fun b=>.int .u8 (b.toNat:Int)) fun xs=>K (.sl nx 0 l) ((nx,.row e 1 xs)::mem) n
    | _=>False
   | _=>False
  | _=>False
theorem Eo{cl:Bool}{P:Program}{mem:aN}{nx:Nat}{src dst:TypeId}{x:AV}{K:AV->aN->Nat->Prop}(h:rR cl P mem nx src dst x K):∃v m n,iG P mem nx src dst x=some (v,m,n)/\K v m n:=by
 unfold rR at h;unfold iG;split at h
 ·exact h.elim
 ·rename_i d hd;simp only[hd];split at h
  ·rename_i e hu;simp only[hu];split at h
   ·rename_i he;simp only[he];split at h
    ·exact⟨_,_,_,rfl,fP.1 (fJ.1 (cQ.1 h))⟩
    ·exact h.elim
   ·exact h.elim
  ·exact h.elim
def kW(P:Program)(mem:aN)(t:TypeId)(m k v:AV)(K:aN->Prop):Prop:=
 match P.underlying t with
 | some (.map kt _)=>k9 (F4 P kt k) (match m with
   | .mp id=>match lk mem id with
    | some (.mapb es)=>opt (oZ P kt k es 0) fun r=>match r with
     | some (i,_)=>opt es[i]? fun e=>k9 (Hq e.1 k) (GY es i (k,v) fun es=>ET mem id (.mapb es) K)
     | none=>yE es [(k,v)] fun es=>ET mem id (.mapb es) K
    | _=>False
   | _=>False)
 | _=>False
theorem v7{P:Program}{mem:aN}{t:TypeId}{m k v:AV}{K:aN->Prop}(h:kW P mem t m k v K):∃m',jB P mem t m k v=some m'/\K m':=by
 unfold kW at h;unfold jB;split at h
 ·rename_i kt et hu;simp only[hu];obtain⟨h1,h⟩:=a9.1 h;simp only[h1];split at h
  ·split at h
   ·rename_i es hid;simp only[hid];obtain⟨r,h2,h⟩:=bG.1 h;split at h
    ·obtain⟨e,h3,h⟩:=bG.1 h;obtain⟨h4,h⟩:=a9.1 h;exact⟨_,by simp only[h2,h3,h4],iP.1 (bQ.1 h)⟩
    ·exact⟨_,by simp only[h2],iP.1 (fL.1 h)⟩
   ·exact h.elim
  ·exact h.elim
 ·exact h.elim
end Go.Ax
