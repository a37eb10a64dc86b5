/- A part of the proof. -/
import Derived.Test.YtobknjmfgjaehaaGreatDoorAx4
set_option linter.unusedVariables false
set_option linter.unusedSimpArgs false
set_option linter.unusedSectionVars false
namespace Go.Ax
open Go
def JK(b:Bool)(p q:Prop):Prop:=
 match b with
 | true=>p
 | false=>q
def m7(b:Bool)(p:Prop):Prop:=
 match b with
 | true=>p
 | false=>False
def opt{α:Type}(o:Option α)(K:α->Prop):Prop:=
 match o with
 | some a=>K a
 | none=>False
theorem aH{b:Bool}{p q:Prop}(h1:b=true->p)(h2:b=false->q):JK b p q:=by
 cases b
 ·exact h2 rfl
 ·exact h1 rfl
theorem bR{b:Bool}{p:Prop}:m7 b p↔b=true/\p:=by cases b<;>simp[m7]
theorem aP{b:Bool}{p:Prop}(h:b=true)(hp:p):m7 b p:=bR.2 ⟨h,hp⟩
theorem bP{α:Type}{o:Option α}{K:α->Prop}:opt o K↔∃a,o=some a/\K a:=by cases o<;>simp[opt]
theorem aC{α:Type}{o:Option α}{K:α->Prop}{a:α}(h:o=some a)(hk:K a):opt o K:=bP.2 ⟨a,h,hk⟩
def l9(n:Nat)(K:Nat->Prop):Prop:=
 match n with
 | 0=>K 0
 | Nat.succ m=>K (Nat.succ m)
theorem dB{n:Nat}{K:Nat->Prop}:l9 n K↔K n:=by cases n<;>rfl
def Nj(n:Int)(K:Int->Prop):Prop:=
 match n with
 | .ofNat m=>l9 m fun m=>K (.ofNat m)
 | .negSucc m=>l9 m fun m=>K (.negSucc m)
theorem JS{n:Int}{K:Int->Prop}:Nj n K↔K n:=by cases n<;>simp[Nj,dB]
def vK(cl:Bool)(n:Nat)(K:Nat->Prop):Prop:=
 match cl with
 | true=>l9 n K
 | false=>K n
theorem gG{cl:Bool}{n:Nat}{K:Nat->Prop}:vK cl n K↔K n:=by cases cl<;>simp[vK,dB]
def p8(cl:Bool)(k:IntKind)(n:Int)(K:AV->Prop):Prop:=
 match cl with
 | true=>Nj n fun n=>K (.int k n)
 | false=>K (.int k n)
theorem lJ{cl:Bool}{k:IntKind}{n:Int}{K:AV->Prop}:p8 cl k n K↔K (.int k n):=by cases cl<;>simp[p8,JS]
def kK(cl:Bool)(b:Bool)(K:AV->Prop):Prop:=
 match cl with
 | true=>match b with
  | true=>K (.bool true)
  | false=>K (.bool false)
 | false=>K (.bool b)
theorem kS{cl:Bool}{b:Bool}{K:AV->Prop}:kK cl b K↔K (.bool b):=by cases cl<;>cases b<;>rfl
def sJ{α:Type}:List α->(List α->Prop)->Prop
 | [],K=>K []
 | x::r,K=>sJ r fun l=>K (x::l)
theorem jF{α:Type}:∀{l:List α} {K:List α->Prop},sJ l K↔K l
 | [],K=>Iff.rfl
 | x::r,K=>by simp[sJ,jF]
def qM{α:Type}(cl:Bool)(l:List α)(K:List α->Prop):Prop:=
 match cl with
 | true=>sJ l K
 | false=>K l
theorem gM{α:Type}{cl:Bool}{l:List α}{K:List α->Prop}:qM cl l K↔K l:=by cases cl<;>simp[qM,jF]
def yA{α:Type}:List α->List α->(List α->Prop)->Prop
 | [],ys,K=>K ys
 | x::r,ys,K=>yA r ys fun l=>K (x::l)
theorem fN{α:Type}:∀{xs ys:List α} {K:List α->Prop},yA xs ys K↔K (xs++ys)
 | [],ys,K=>Iff.rfl
 | x::r,ys,K=>by simp[yA,fN]
def G1{α:Type}:List α->Nat->α->(List α->Prop)->Prop
 | [],_,_,K=>K []
 | _::r,0,v,K=>K (v::r)
 | x::r,i+1,v,K=>G1 r i v fun l=>K (x::l)
theorem bL{α:Type}:∀{xs:List α} {i:Nat} {v:α} {K:List α->Prop},G1 xs i v K↔K (xs.set i v)
 | [],_,_,K=>Iff.rfl
 | _::r,0,v,K=>Iff.rfl
 | x::r,i+1,v,K=>by simp[G1,bL]
def B8{α:Type}:Nat->List α->(List α->Prop)->Prop
 | 0,_,K=>K []
 | _+1,[],_=>False
 | n+1,c::r,K=>B8 n r fun l=>K (c::l)
theorem Cc{α:Type}:∀{n:Nat} {l:List α} {K:List α->Prop},B8 n l K↔(l.take n).length=n/\K (l.take n)
 | 0,l,K=>by simp[B8]
 | n+1,[],K=>by simp[B8]
 | n+1,c::r,K=>by simp[B8,Cc]
def EU{α:Type}:List (Nat × α)->Nat->α->(List (Nat × α)->Prop)->Prop
 | [],j,v,K=>K [(j,v)]
 | (i,u)::r,j,v,K=>match Nat.beq i j with
  | true=>K ((i,v)::r)
  | false=>EU r j v fun l=>K ((i,u)::l)
theorem j8{α:Type}:∀{l:List (Nat × α)} {j:Nat} {v:α} {K:List (Nat × α)->Prop},EU l j v K↔K (up l j v)
 | [],j,v,K=>Iff.rfl
 | (i,u)::r,j,v,K=>by
  simp only[EU,up];cases Nat.beq i j
  ·exact j8
  ·exact Iff.rfl
def CQ:Nat->aN->(aN->Prop)->Prop
 | _,[],K=>K []
 | id,(k,u)::r,K=>match Nat.beq k id with
  | true=>K r
  | false=>CQ id r fun l=>K ((k,u)::l)
theorem s5:∀{id:Nat} {m:aN} {K:aN->Prop},CQ id m K↔K (drop id m)
 | _,[],K=>Iff.rfl
 | id,(k,u)::r,K=>by
  simp only[CQ,drop];cases Nat.beq k id
  ·exact s5
  ·exact Iff.rfl
def i5(Γ:List (Nat × AV))(sl:List (Nat × AV))(x:Operand)(K:AV->Prop):Prop:=
 match x with
 | .tmp t=>opt (lk sl t) K
 | .const (.string s)=>sJ s.data.toList fun l=>K (.str l)
 | .const v=>opt (uG v) K
 | .global g=>opt (lk Γ g) fun v=>K (.ip v)
 | .func f=>K (.fn (.func f) [] [])
theorem bS{Γ:List (Nat × AV)}{s:St}{x:Operand}{K:AV->Prop}(h:i5 Γ s.sl x K):∃v,ev Γ s x=some v/\K v:=by
 unfold i5 at h;split at h
 ·exact bP.1 h
 ·exact⟨_,rfl,jF.1 h⟩
 ·exact bP.1 h
 ·obtain⟨v,h1,h2⟩:=bP.1 h;exact⟨_,by simp[ev,h1],h2⟩
 ·exact⟨_,rfl,h⟩
def Fh(Γ:List (Nat × AV))(sl:List (Nat × AV)):List Operand->(List AV->Prop)->Prop
 | [],K=>K []
 | x::r,K=>i5 Γ sl x fun a=>Fh Γ sl r fun l=>K (a::l)
theorem nD{Γ:List (Nat × AV)}{s:St}:∀{xs:List Operand} {K:List AV->Prop},Fh Γ s.sl xs K->∃l,Ae Γ s xs=some l/\K l
 | [],K,h=>⟨[],rfl,h⟩
 | x::r,K,h=>by
  obtain⟨a,h1,h2⟩:=bS h;obtain⟨l,h3,h4⟩:=nD h2;exact⟨a::l,by simp[Ae,h1,h3],h4⟩
def oO(Γ:List (Nat × AV))(sl:List (Nat × AV)):List (Nat × Operand)->(List (Nat × AV)->Prop)->Prop
 | [],K=>K []
 | (i,x)::r,K=>i5 Γ sl x fun a=>oO Γ sl r fun l=>K ((i,a)::l)
theorem sC{Γ:List (Nat × AV)}{s:St}:∀{xs:List (Nat × Operand)} {K:List (Nat × AV)->Prop},oO Γ s.sl xs K->∃l,gQ Γ s xs=some l/\K l
 | [],K,h=>⟨[],rfl,h⟩
 | (i,x)::r,K,h=>by
  obtain⟨a,h1,h2⟩:=bS h;obtain⟨l,h3,h4⟩:=sC h2;exact⟨(i,a)::l,by simp[gQ,h1,h3],h4⟩
def Dr(Γ:List (Nat × AV))(sl:List (Nat × AV))(x:Option Operand)(K:Option AV->Prop):Prop:=
 match x with
 | none=>K none
 | some x=>i5 Γ sl x fun a=>K (some a)
theorem xV{Γ:List (Nat × AV)}{s:St}{x:Option Operand}{K:Option AV->Prop}(h:Dr Γ s.sl x K):∃l,tT Γ s x=some l/\K l:=by
 cases x with
 | none=>exact⟨none,rfl,h⟩
 | some x=>
  obtain⟨a,h1,h2⟩:=bS h;exact⟨some a,by simp[tT,h1],h2⟩
def z8(sh:Option Nat)(cs:List AV)(j:Nat)(K:AV->Prop):Prop:=
 match sh with
 | none=>opt cs[j]? fun c=>opt (one c) K
 | some n=>B8 n (cs.drop j) fun l=>K (.agg l)
theorem jV{sh:Option Nat}{cs:List AV}{j:Nat}{K:AV->Prop}(h:z8 sh cs j K):∃v,sub sh cs j=some v/\K v:=by
 unfold z8 at h;split at h
 ·obtain⟨c,h1,h2⟩:=bP.1 h;obtain⟨v,h3,h4⟩:=bP.1 h2;exact⟨v,by simp[sub,h1,h3],h4⟩
 ·obtain⟨h1,h2⟩:=Cc.1 h;refine⟨_, ?_,h2⟩;simp only[sub];rw[h1];simp
def FB(P:Program)(mem:aN)(t:TypeId)(p:AV)(K:AV->Prop):Prop:=
 match p with
 | .ip u=>match Bd P t with
  | some sh=>z8 sh u.cells 0 K
  | none=>False
 | .ptr id i j=>match lk mem id with
  | some (.row _ sz xs)=>opt xs[i]? fun x=>match Bd P t with
   | some sh=>match P.underlying t with
    | some (.array _ _)=>match sub sh x.cells j with
     | some _=>z8 sh x.cells j K
     | none=>z8 sh (Cn xs) (i*sz+j) K
    | _=>z8 sh x.cells j K
   | none=>False
  | _=>False
 | _=>False
theorem H5{P:Program}{mem:aN}{t:TypeId}{p:AV}{K:AV->Prop}(h:FB P mem t p K):∃v,BY P mem t p=some v/\K v:=by
 unfold FB at h;unfold BY;split at h
 ·split at h
  ·rename_i sh hsh;obtain⟨v,h1,h2⟩:=jV h;exact⟨v,by simp[hsh,h1],h2⟩
  ·exact h.elim
 ·split at h
  ·rename_i hid;obtain⟨x,hx,h⟩:=bP.1 h;split at h
   ·rename_i sh hsh;split at h
    ·rename_i hu;split at h
     ·obtain⟨v,h1,h2⟩:=jV h;exact⟨v,by simp only[hid,hx,hsh,h1],h2⟩
     ·rename_i hn;obtain⟨v,h1,h2⟩:=jV h;exact⟨v,by simp only[hid,hx,hsh,hn,hu,h1],h2⟩
    ·obtain⟨v,h1,h2⟩:=jV h;exact⟨v,by simp only[hid,hx,hsh,h1],h2⟩
   ·exact h.elim
  ·exact h.elim
 ·exact h.elim
def pL(P:Program)(t:TypeId)(f:Nat)(p:AV)(K:AV->Prop):Prop:=
 match P.underlying t with
 | some (.struct fs)=>match fs[f]? with
  | some fd=>match fO P fd.type with
   | some (_+1)=>match p with
    | .ptr id i j=>l9 (j+fd.offset) fun j=>K (.ptr id i j)
    | .ip u=>match Bd P fd.type with
     | some sh=>z8 sh u.cells fd.offset fun v=>K (.ip v)
     | none=>False
    | _=>False
   | _=>False
  | none=>False
 | _=>False
theorem DK{P:Program}{t:TypeId}{f:Nat}{p:AV}{K:AV->Prop}(h:pL P t f p K):∃v,mP P t f p=some v/\K v:=by
 unfold pL at h;unfold mP;split at h
 ·rename_i fs hu;split at h
  ·rename_i fd hfd;split at h
   ·rename_i n hn;split at h
    ·exact⟨_,by simp[hu,hfd,hn],dB.1 h⟩
    ·split at h
     ·rename_i sh hsh;obtain⟨v,h1,h2⟩:=jV h;exact⟨_,by simp[hu,hfd,hn,hsh,h1],h2⟩
     ·exact h.elim
    ·exact h.elim
   ·exact h.elim
  ·exact h.elim
 ·exact h.elim
def Du(P:Program)(t:TypeId)(f:Nat)(v:AV)(K:AV->Prop):Prop:=
 match P.underlying t with
 | some (.struct fs)=>match fs[f]? with
  | some fd=>match v with
   | .agg cs=>match Bd P fd.type with
    | some sh=>z8 sh cs fd.offset K
    | none=>False
   | _=>False
  | none=>False
 | _=>False
theorem JO{P:Program}{t:TypeId}{f:Nat}{p:AV}{K:AV->Prop}(h:Du P t f p K):∃v,Af P t f p=some v/\K v:=by
 unfold Du at h;unfold Af;split at h
 ·rename_i fs hu;split at h
  ·rename_i fd hfd;split at h
   ·split at h
    ·rename_i sh hsh;obtain⟨v,h1,h2⟩:=jV h;exact⟨v,by simp[hu,hfd,hsh,h1],h2⟩
    ·exact h.elim
   ·exact h.elim
  ·exact h.elim
 ·exact h.elim
def pV(cl:Bool)(P:Program)(mem:aN)(t:TypeId)(p ix:AV)(K:AV->Prop):Prop:=
 match ix with
 | .int _ n=>m7 (decide (0<=n)) (match P.underlying t with
   | some (.slice e)=>match fO P e with
    | some sz=>match p with
     | .sl id off len=>match lk mem id with
      | some (.row _ _ xs)=>m7 (Nat.blt n.toNat len) (opt xs[off+n.toNat]? fun x=>m7 (Nat.beq x.cells.length sz) (vK cl (off+n.toNat) fun m=>K (.ptr id m 0)))
      | _=>False
     | .il sz' xs=>opt xs[n.toNat]? fun x=>m7 (Nat.beq sz sz') (K (.ip x))
     | _=>False
    | none=>False
   | some (.array m e)=>match fO P e,Bd P e with
    | some sz,some sh=>m7 (Nat.blt n.toNat m) (match p with
      | .ptr id i j=>match rL mem id i j sz with
       | true=>vK cl (i+n.toNat) fun m=>K (.ptr id m 0)
       | false=>vK cl (j+n.toNat*sz) fun m=>K (.ptr id i m)
      | .ip u=>z8 sh u.cells (n.toNat*sz) fun v=>K (.ip v)
      | _=>False)
    | _,_=>False
   | _=>False)
 | _=>False
theorem DX{cl:Bool}{P:Program}{mem:aN}{t:TypeId}{p ix:AV}{K:AV->Prop}(h:pV cl P mem t p ix K):∃v,mT P mem t p ix=some v/\K v:=by
 unfold pV at h;split at h
 ·rename_i kk n;obtain⟨hn,h⟩:=bR.1 h;unfold mT;simp only[hn];split at h
  ·rename_i e hu;simp only[hu];split at h
   ·rename_i sz hsz;simp only[hsz];split at h
    ·rename_i id off len;split at h
     ·rename_i hid;obtain⟨h1,h⟩:=bR.1 h;obtain⟨x,hx,h⟩:=bP.1 h;obtain⟨h2,h⟩:=bR.1 h;exact⟨_,by simp[hid,h1,hx,h2],gG.1 h⟩
     ·exact h.elim
    ·obtain⟨x,hx,h⟩:=bP.1 h;obtain⟨h2,h⟩:=bR.1 h;exact⟨_,by simp[hx,h2],h⟩
    ·exact h.elim
   ·exact h.elim
  ·rename_i m e hu;simp only[hu];split at h
   ·rename_i sz sh hsz hsh;simp only[hsz,hsh];obtain⟨h1,h⟩:=bR.1 h;simp only[h1];split at h
    ·split at h
     ·rename_i he;exact⟨_,by simp[he],gG.1 h⟩
     ·rename_i he;exact⟨_,by simp[he],gG.1 h⟩
    ·obtain⟨v,h2,h3⟩:=jV h;exact⟨_,by simp[h2],h3⟩
    ·exact h.elim
   ·exact h.elim
  ·exact h.elim
 ·exact h.elim
def Dn(cl:Bool)(P:Program)(t:TypeId)(v ix:AV)(K:AV->Prop):Prop:=
 match ix with
 | .int _ n=>m7 (decide (0<=n)) (match P.underlying t with
   | some .string=>match v with
    | .str s=>opt s[n.toNat]? fun b=>p8 cl .u8 (b.toNat:Int) K
    | _=>False
   | some (.array m e)=>match v with
    | .agg cs=>m7 (Nat.blt n.toNat m) (match fO P e,Bd P e with
      | some sz,some sh=>z8 sh cs (n.toNat*sz) K
      | _,_=>False)
    | _=>False
   | _=>False)
 | _=>False
theorem Jd{cl:Bool}{P:Program}{t:TypeId}{p ix:AV}{K:AV->Prop}(h:Dn cl P t p ix K):∃v,A7 P t p ix=some v/\K v:=by
 unfold Dn at h;split at h
 ·rename_i kk n;obtain⟨hn,h⟩:=bR.1 h;unfold A7;simp only[hn];split at h
  ·rename_i hu;simp only[hu];split at h
   ·obtain⟨b,hb,h⟩:=bP.1 h;exact⟨_,by simp[hb],lJ.1 h⟩
   ·exact h.elim
  ·rename_i m e hu;simp only[hu];split at h
   ·obtain⟨h1,h⟩:=bR.1 h;simp only[h1];split at h
    ·rename_i sz sh hsz hsh;obtain⟨v,h2,h3⟩:=jV h;exact⟨v,by simp[hsz,hsh,h2],h3⟩
    ·exact h.elim
   ·exact h.elim
  ·exact h.elim
 ·exact h.elim
def Gy(cl:Bool)(op:BinOp)(k:IntKind)(x y:Int)(K:AV->Prop):Prop:=
 match op with
 | .add=>p8 cl k (k.wrap (x+y)) K
 | .sub=>p8 cl k (k.wrap (x-y)) K
 | .mul=>p8 cl k (k.wrap (x*y)) K
 | .quo=>m7 (!decide (y=0)) (p8 cl k (k.wrap (x.tdiv y)) K)
 | .rem=>m7 (!decide (y=0)) (p8 cl k (x.tmod y) K)
 | .and=>p8 cl k (bits .and k x y) K
 | .or=>p8 cl k (bits .or k x y) K
 | .xor=>p8 cl k (bits .xor k x y) K
 | .andNot=>p8 cl k (bits .andNot k x y) K
 | .eql=>kK cl (x == y) K
 | .neq=>kK cl (x != y) K
 | .lss=>kK cl (decide (x<y)) K
 | .leq=>kK cl (decide (x<=y)) K
 | .gtr=>kK cl (decide (x>y)) K
 | .geq=>kK cl (decide (x≥y)) K
 | _=>False
theorem Jt{cl:Bool}{op:BinOp}{k:IntKind}{x y:Int}{K:AV->Prop}(h:Gy cl op k x y K):∃v,Ai op k x y=some v/\K v:=by
  cases op<;>simp only[Gy,lJ,kS] at h<;>simp only[Ai]<;>first
    | exact h.elim
    | exact⟨_,rfl,h⟩
    | (obtain⟨h1,h2⟩:=bR.1 h
       have:decide (y=0)=false:=by simpa using h1
       rw[this];exact⟨_,rfl,h2⟩)
def GH(cl:Bool)(op:BinOp)(x y:List UInt8)(K:AV->Prop):Prop:=
 match op with
 | .add=>m7 (Nat.ble (x.length+y.length) 9223372036854775807) (match cl with
   | true=>yA x y fun l=>K (.str l)
   | false=>K (.str (x++y)))
 | .eql=>kK cl (x == y) K
 | .neq=>kK cl (!(x == y)) K
 | .lss=>kK cl (Op.bytesLess x y) K
 | .leq=>kK cl (Op.bytesLess x y || x == y) K
 | .gtr=>kK cl (!(Op.bytesLess x y || x == y)) K
 | .geq=>kK cl (!(Op.bytesLess x y)) K
 | _=>False
theorem JW{cl:Bool}{op:BinOp}{x y:List UInt8}{K:AV->Prop}(h:GH cl op x y K):∃v,A0 op x y=some v/\K v:=by
  cases op<;>simp only[GH,kS] at h<;>simp only[A0]<;>first
    | exact h.elim
    | exact⟨_,rfl,h⟩
    | (obtain⟨h1,h2⟩:=bR.1 h
       have h1':decide ((x.length:Int)+y.length<=9223372036854775807)=true:=by have:=Nat.le_of_ble_eq_true h1;simp;omega
       rw[h1'];refine⟨_,rfl, ?_⟩;cases cl
       · exact h2
       · exact fN.1 h2)
def F9(cl:Bool)(op:BinOp)(k:IntKind)(x y:Int)(K:AV->Prop):Prop:=
 m7 (!decide (y<0)) (match op with
  | .shl=>p8 cl k (k.wrap (x*2 ^ (min y.toNat k.bits))) K
  | .shr=>p8 cl k (x.fdiv (2 ^ (min y.toNat k.bits))) K
  | _=>False)
theorem FH{cl:Bool}{op:BinOp}{k:IntKind}{x y:Int}{K:AV->Prop}(h:F9 cl op k x y K):∃v,yF op k x y=some v/\K v:=by
 obtain⟨h1,h2⟩:=bR.1 h;have h1:decide (y<0)=false:=by simpa using h1
 unfold yF;rw[h1];cases op<;>simp only[lJ] at h2<;>first|exact h2.elim|exact⟨_,rfl,h2⟩
def Mi(cl:Bool)(P:Program)(op:BinOp)(t:TypeId)(xo yo:Operand)(x y:AV)(K:AV->Prop):Prop:=
 match x,y with
 | .int k a,.int k' b=>match op with
  | .shl=>F9 cl .shl k a b K
  | .shr=>F9 cl .shr k a b K
  | _=>m7 (decide (k=k')) (Gy cl op k a b K)
 | .str a,.str b=>GH cl op a b K
 | .agg a,.agg b=>match P.eqGuardType P.depth t with
  | false=>match op with
   | .eql=>opt (F2 P t a b) fun r=>kK cl r K
   | .neq=>opt (F2 P t a b) fun r=>kK cl (!r) K
   | _=>False
  | true=>False
 | x,y=>match op with
  | .eql=>opt (KX P (kC xo || kC yo) t x y) fun b=>kK cl b K
  | .neq=>opt (KX P (kC xo || kC yo) t x y) fun b=>kK cl (!b) K
  | _=>False
theorem Nl{cl:Bool}{P:Program}{op:BinOp}{t:TypeId}{xo yo:Operand}{x y:AV}{K:AV->Prop}(h:Mi cl P op t xo yo x y K):∃v,Jq P op t xo yo x y=some v/\K v:=by
 unfold Mi at h;unfold Jq;split at h
 ·split at h
  ·exact FH h
  ·exact FH h
  ·obtain⟨h1,h2⟩:=bR.1 h;simp only[h1];obtain⟨v,h3,h4⟩:=Jt h2;refine⟨v, ?_,h4⟩;cases op<;>first|exact h3|contradiction
 ·exact JW h
 ·split at h
  ·rename_i hg;simp only[hg];split at h
   ·obtain⟨b,hb,h⟩:=bP.1 h;exact⟨.bool b,by simp only[hb],kS.1 h⟩
   ·obtain⟨b,hb,h⟩:=bP.1 h;exact⟨.bool (!b),by simp only[hb],kS.1 h⟩
   ·exact h.elim
  ·exact h.elim
 ·rename_i h1 h2 h3;split at h
  ·obtain⟨b,hb,h⟩:=bP.1 h;refine⟨.bool b, ?_,kS.1 h⟩;cases x<;>cases y<;>first|(simp only[hb];done)|(exact(h1 _ _ _ _ rfl rfl).elim)|(exact(h2 _ _ rfl rfl).elim)|(exact(h3 _ _ rfl rfl).elim)
  ·obtain⟨b,hb,h⟩:=bP.1 h;refine⟨.bool (!b), ?_,kS.1 h⟩;cases x<;>cases y<;>first|(simp only[hb];done)|(exact(h1 _ _ _ _ rfl rfl).elim)|(exact(h2 _ _ rfl rfl).elim)|(exact(h3 _ _ rfl rfl).elim)
  ·exact h.elim
def QU(cl:Bool)(op:UnOp)(x:AV)(K:AV->Prop):Prop:=
 match op,x with
 | .neg,.int k n=>p8 cl k (k.wrap (0-n)) K
 | .not,.bool b=>kK cl (!b) K
 | _,_=>False
theorem PB{cl:Bool}{op:UnOp}{x:AV}{K:AV->Prop}(h:QU cl op x K):∃v,QS op x=some v/\K v:=by
 unfold QU at h;split at h
 ·exact⟨_,rfl,lJ.1 h⟩
 ·exact⟨_,rfl,kS.1 h⟩
 ·exact h.elim
def HH(cl:Bool)(P:Program)(mem:aN)(src dst:TypeId)(x:AV)(K:AV->Prop):Prop:=
 match P.underlying src with
 | none=>False
 | some d=>match P.underlying dst with
  | some (.int k)=>match x with
   | .int _ n=>p8 cl k (k.wrap n) K
   | _=>False
  | some .string=>match x with
   | .str s=>K (.str s)
   | .nsl=>match d with
    | .slice e=>match P.underlying e with
     | some (.int .u8)=>K (.str [])
     | _=>False
    | _=>False
   | .il sz xs=>match d with
    | .slice e=>match P.underlying e with
     | some (.int .u8)=>m7 (Nat.beq sz 1) (opt (gP xs) fun l=>qM cl l fun l=>K (.str l))
     | _=>False
    | _=>False
   | .sl id off len=>match d with
    | .slice e=>match P.underlying e with
     | some (.int .u8)=>match lk mem id with
      | some (.row _ _ xs)=>m7 (Nat.ble (off+len) xs.length) (opt (gP ((xs.drop off).take len)) fun l=>qM cl l fun l=>K (.str l))
      | _=>False
     | _=>False
    | _=>False
   | _=>False
  | some .unsafePointer=>opt (Lb P mem d x) K
  | some (.pointer u)=>opt (DQ P mem d u x) K
  | _=>False
theorem MG{cl:Bool}{P:Program}{mem:aN}{src dst:TypeId}{x:AV}{K:AV->Prop}(h:HH cl P mem src dst x K):∃v,BB P mem src dst x=some v/\K v:=by
 unfold HH at h;split at h
 ·exact h.elim
 ·rename_i d hd;unfold BB;simp only[hd];split at h
  ·rename_i k hu;simp only[hu];split at h
   ·exact⟨_,rfl,lJ.1 h⟩
   ·exact h.elim
  ·rename_i hu;simp only[hu];split at h
   ·exact⟨_,rfl,h⟩
   ·split at h
    ·split at h
     ·rename_i he;exact⟨_,by simp only[he],h⟩
     ·exact h.elim
    ·exact h.elim
   ·split at h
    ·split at h
     ·rename_i he;obtain⟨h1,h⟩:=bR.1 h;obtain⟨l,h2,h⟩:=bP.1 h;exact⟨_,by simp only[he,h1,h2],gM.1 h⟩
     ·exact h.elim
    ·exact h.elim
   ·split at h
    ·split at h
     ·rename_i he;split at h
      ·rename_i hid;obtain⟨h1,h⟩:=bR.1 h;obtain⟨l,h2,h⟩:=bP.1 h;exact⟨_,by simp only[he,hid,h1,h2],gM.1 h⟩
      ·exact h.elim
     ·exact h.elim
    ·exact h.elim
   ·exact h.elim
  ·rename_i hu;simp only[hu];obtain⟨v,h1,h⟩:=bP.1 h;exact⟨v,h1,h⟩
  ·rename_i u hu;simp only[hu];obtain⟨v,h1,h⟩:=bP.1 h;exact⟨v,h1,h⟩
  ·exact h.elim
def DO:List AV->Nat->List AV->(List AV->Prop)->Prop
 | cells,_,[],K=>K cells
 | cells,off,v::r,K=>G1 cells off v fun c=>DO c (off+1) r K
theorem AX(off:Nat):∀(vs:List AV) (k:Nat) (cells:List AV) (K:List AV->Prop),DO cells (off+k) vs K↔K ((vs.zipIdx k).foldl (fun cs p=>cs.set (off+p.2) p.1) cells)
 | [],k,cells,K=>Iff.rfl
 | v::r,k,cells,K=>by
  simp only[DO,bL,List.zipIdx_cons,List.foldl_cons];have:=AX off r (k+1) (cells.set (off+k) v) K;rw[←Nat.add_assoc] at this;exact this
def Fb(place:Nat->Option (Nat × Nat)):List AV->List (Nat × AV)->(List AV->Prop)->Prop
 | cells,[],K=>K cells
 | cells,(i,v)::r,K=>match place i with
  | none=>False
  | some (off,size)=>m7 (i8 v && (Nat.beq v.cells.length size && Nat.ble (off+v.cells.length) cells.length)) (DO cells off v.cells fun cs=>Fb place cs r K)
theorem Dg{place:Nat->Option (Nat × Nat)}:∀{parts:List (Nat × AV)} {cells:List AV} {K:List AV->Prop},Fb place cells parts K->∃l,vP place cells parts=some l/\K l
 | [],cells,K,h=>⟨cells,by simp[vP],h⟩
 | (i,v)::r,cells,K,h=>by
  simp only[Fb] at h;simp only[vP];split at h
  ·exact h.elim
  ·rename_i off size hp;obtain⟨h1,h2⟩:=bR.1 h;have h3:=(AX off v.cells 0 cells _).1 h2;obtain⟨l,h4,h5⟩:=Dg h3;exact⟨l,by simp only[hp,h1];exact h4,h5⟩
def DF(P:Program)(t:TypeId)(parts:List (Nat × AV))(K:AV->Prop):Prop:=
 match P.info? t with
 | some it=>match it.zero with
  | some z=>match uG z with
   | some (.agg zs)=>match P.underlying t with
    | some (.array _ e)=>match fO P e with
     | some n=>Fb (fun i=>some (i*n,n)) zs parts fun cs=>K (.agg cs)
     | none=>False
    | some (.struct fs)=>match s4 P fs.toList with
     | some places=>Fb (fun i=>places[i]?) zs parts fun cs=>K (.agg cs)
     | none=>False
    | _=>False
   | _=>False
  | none=>False
 | none=>False
theorem J5{P:Program}{t:TypeId}{parts:List (Nat × AV)}{K:AV->Prop}(h:DF P t parts K):∃v,AM P t parts=some v/\K v:=by
 unfold DF at h;unfold AM;split at h
 ·rename_i it h1;simp only[h1];split at h
  ·rename_i z h2;simp only[h2];split at h
   ·rename_i zs h3;simp only[h3];split at h
    ·rename_i e h4;simp only[h4];split at h
     ·rename_i n h5;simp only[h5];obtain⟨l,h6,h7⟩:=Dg h;exact⟨_,by rw[h6],h7⟩
     ·exact h.elim
    ·rename_i fs h4;simp only[h4];split at h
     ·rename_i n h5;simp only[h5];obtain⟨l,h6,h7⟩:=Dg h;exact⟨_,by rw[h6],h7⟩
     ·exact h.elim
    ·exact h.elim
   ·exact h.elim
  ·exact h.elim
 ·exact h.elim
def gO(d:Nat)(x:Option AV)(K:Nat->Prop):Prop:=
 match x with
 | none=>K d
 | some (.int _ n)=>m7 (decide (0<=n)) (K n.toNat)
 | some _=>False
theorem fJ{d:Nat}{x:Option AV}{K:Nat->Prop}(h:gO d x K):∃n,eE d x=some n/\K n:=by
 unfold gO at h;split at h
 ·exact⟨_,rfl,h⟩
 ·obtain⟨h1,h2⟩:=bR.1 h;exact⟨_,by simp only[eE,h1],h2⟩
 ·exact h.elim
def F8(cl:Bool)(P:Program)(mem:aN)(t:TypeId)(x:AV)(lo hi mx:Option AV)(K:AV->Prop):Prop:=
 match P.underlying t with
 | some .string=>match x,mx with
  | .str s,none=>gO 0 lo fun l=>gO s.length hi fun h=>m7 (Nat.ble l h && Nat.ble h s.length) (qM cl ((s.drop l).take (h-l)) fun s=>K (.str s))
  | _,_=>False
 | some (.slice e)=>match fO P e with
  | none=>False
  | some sz=>match x with
   | .nsl=>gO 0 lo fun l=>gO 0 hi fun h=>gO 0 mx fun m=>m7 (Nat.beq l 0 && (Nat.beq h 0 && Nat.beq m 0)) (K .nsl)
   | .il sz' xs=>m7 (Nat.beq sz sz') (gO 0 lo fun l=>gO xs.length hi fun h=>gO xs.length mx fun m=>m7 (Nat.ble l h && (Nat.ble h m && Nat.ble m xs.length)) (qM cl ((xs.drop l).take (h-l)) fun ys=>K (.il sz' ys)))
   | .sl id off len=>match lk mem id with
    | some (.row _ sz0 _)=>m7 (Nat.beq sz0 sz) (gO 0 lo fun l=>gO len hi fun h=>gO len mx fun m=>m7 (Nat.ble l h && (Nat.ble h m && Nat.ble m len)) (vK cl (off+l) fun o=>vK cl (h-l) fun n=>K (.sl id o n)))
    | _=>False
   | _=>False
 | some (.array n e)=>match fO P e with
  | none=>False
  | some sz=>match x with
   | .ptr id i 0=>match lk mem id with
    | some (.row _ _ xs)=>m7 (rL mem id i 0 sz && Nat.ble (i+n) xs.length) (gO 0 lo fun l=>gO n hi fun h=>gO n mx fun m=>m7 (Nat.ble l h && (Nat.ble h m && Nat.ble m n)) (vK cl (i+l) fun o=>vK cl (h-l) fun n=>K (.sl id o n)))
    | _=>False
   | _=>False
 | _=>False
theorem Kx{cl:Bool}{P:Program}{mem:aN}{t:TypeId}{x:AV}{lo hi mx:Option AV}{K:AV->Prop}(h:F8 cl P mem t x lo hi mx K):∃v,AU P mem t x lo hi mx=some v/\K v:=by
 unfold F8 at h;unfold AU;split at h
 ·rename_i hu;simp only[hu];split at h
  ·rename_i s;obtain⟨l,h1,h⟩:=fJ h;obtain⟨h',h2,h⟩:=fJ h;obtain⟨h3,h⟩:=bR.1 h;exact⟨_,by simp only[h1,h2,h3],gM.1 h⟩
  ·exact h.elim
 ·rename_i e hu;simp only[hu];split at h
  ·exact h.elim
  ·rename_i sz hsz;simp only[hsz];split at h
   ·obtain⟨l,h1,h⟩:=fJ h;obtain⟨h',h2,h⟩:=fJ h;obtain⟨m,h3,h⟩:=fJ h;obtain⟨h4,h⟩:=bR.1 h;simp only[Bool.and_eq_true] at h4;obtain⟨a1,a2,a3⟩:=h4;rw[Nat.eq_of_beq_eq_true a1] at h1;rw[Nat.eq_of_beq_eq_true a2] at h2;rw[Nat.eq_of_beq_eq_true a3] at h3;exact⟨_,by simp only[h1,h2,h3],h⟩
   ·obtain⟨h0,h⟩:=bR.1 h;obtain⟨l,h1,h⟩:=fJ h;obtain⟨h',h2,h⟩:=fJ h;obtain⟨m,h3,h⟩:=fJ h;obtain⟨h4,h⟩:=bR.1 h;exact⟨_,by simp only[h0,h1,h2,h3,h4],gM.1 h⟩
   ·split at h
    ·rename_i hid;obtain⟨h0,h⟩:=bR.1 h;obtain⟨l,h1,h⟩:=fJ h;obtain⟨h',h2,h⟩:=fJ h;obtain⟨m,h3,h⟩:=fJ h;obtain⟨h4,h⟩:=bR.1 h;exact⟨_,by simp only[hid,h0,h1,h2,h3,h4],gG.1 (gG.1 h)⟩
    ·exact h.elim
   ·exact h.elim
 ·rename_i n e hu;simp only[hu];split at h
  ·exact h.elim
  ·rename_i sz hsz;simp only[hsz];split at h
   ·split at h
    ·rename_i hid;obtain⟨h0,h⟩:=bR.1 h;obtain⟨l,h1,h⟩:=fJ h;obtain⟨h',h2,h⟩:=fJ h;obtain⟨m,h3,h⟩:=fJ h;obtain⟨h4,h⟩:=bR.1 h;exact⟨_,by simp only[hid,h0,h1,h2,h3,h4],gG.1 (gG.1 h)⟩
    ·exact h.elim
   ·exact h.elim
 ·exact h.elim
def Gu(sz:Nat)(sh:Option Nat):Nat->List AV->(List AV->Prop)->Prop
 | 0,_,K=>K []
 | m+1,cs,K=>z8 sh cs 0 fun x=>Gu sz sh m (cs.drop sz) fun l=>K (x::l)
theorem EP{sz:Nat}{sh:Option Nat}:∀{m:Nat} {cs:List AV} {K:List AV->Prop},Gu sz sh m cs K->∃l,Al sz sh m cs=some l/\K l
 | 0,cs,K,h=>⟨[],rfl,h⟩
 | m+1,cs,K,h=>by
  obtain⟨x,h1,h⟩:=jV h;obtain⟨l,h2,h⟩:=EP h;exact⟨_,by simp only[Al,h1,h2],h⟩
def cnt{α:Type}:List α->Nat->Nat
 | [],n=>n
 | _::r,n=>cnt r (n+1)
theorem Ji{α:Type}:∀(l:List α) (n:Nat),cnt l n=l.length+n
 | [],n=>by simp[cnt]
 | _::r,n=>by simp[cnt,Ji r];omega
def L3(P:Program)(t:TypeId)(v:AV)(K:Nat->List AV->Prop):Prop:=
 match P.underlying t with
 | some (.array m e)=>match v with
  | .agg cs=>match fO P e,Bd P e with
   | some sz,some sh=>m7 (Nat.beq (sh.getD 1) sz && (Nat.blt 0 sz && Nat.beq cs.length (m*sz))) (Gu sz sh m cs fun xs=>K sz xs)
   | _,_=>False
  | _=>False
 | some _=>m7 (i8 v) (match v.cells with
  | []=>K 0 []
  | _::_=>l9 (cnt v.cells 0) fun n=>K n [v])
 | none=>False
theorem J2{P:Program}{t:TypeId}{v:AV}{K:Nat->List AV->Prop}(h:L3 P t v K):∃sz xs,AT P t v=some (sz,xs)/\K sz xs:=by
 unfold L3 at h;unfold AT;split at h
 ·rename_i m e hu;simp only[hu];split at h
  ·split at h
   ·rename_i sz sh h1 h2;simp only[h1,h2];obtain⟨h3,h⟩:=bR.1 h;obtain⟨l,h4,h⟩:=EP h;exact⟨_,_,by simp only[h3,h4],h⟩
   ·exact h.elim
  ·exact h.elim
 ·rename_i d hna hu;simp only[hu];obtain⟨h1,h⟩:=bR.1 h;split at h
  ·rename_i hc;refine⟨_,_, ?_,h⟩;cases hd:d<;>first|(exact(hna _ _ hd).elim)|simp only[h1,hc]
  ·rename_i c cs hc;have h:=dB.1 h;rw[Ji,Nat.add_zero] at h;refine⟨_,_, ?_,h⟩;cases hd:d<;>first|(exact(hna _ _ hd).elim)|simp only[h1,hc]
 ·exact h.elim
def Dh(P:Program)(mem:aN)(nx:Nat)(t:TypeId)(K:AV->aN->Nat->Prop):Prop:=
 match P.info? t with
 | some i=>match i.zero with
  | some z=>match uG z with
   | some v=>L3 P t v fun sz xs=>l9 (nx+1) fun n=>K (.ptr nx 0 0) ((nx,.row t sz xs)::mem) n
   | none=>False
  | none=>False
 | none=>False
theorem Ka{P:Program}{mem:aN}{nx:Nat}{t:TypeId}{K:AV->aN->Nat->Prop}(h:Dh P mem nx t K):∃v m n,rM P mem nx t=some (v,m,n)/\K v m n:=by
 unfold Dh at h;unfold rM;split at h
 ·rename_i i h1;simp only[h1];split at h
  ·rename_i z h2;simp only[h2];split at h
   ·rename_i v h3;simp only[h3];obtain⟨sz,xs,h4,h⟩:=J2 h;exact⟨_,_,_,by simp only[h4],dB.1 h⟩
   ·exact h.elim
  ·exact h.elim
 ·exact h.elim
def Oe(P:Program)(mem:aN)(nx:Nat)(t:TypeId)(v:AV)(K:AV->aN->Nat->Prop):Prop:=
 L3 P t v fun sz xs=>l9 (nx+1) fun n=>K (.ptr nx 0 0) ((nx,.row t sz xs)::mem) n
theorem Nz{P:Program}{mem:aN}{nx:Nat}{t:TypeId}{v:AV}{K:AV->aN->Nat->Prop}(h:Oe P mem nx t v K):∃r m n,FY P mem nx t v=some (r,m,n)/\K r m n:=by
 obtain⟨sz,xs,h4,h⟩:=J2 h;exact⟨_,_,_,by simp only[FY,h4],dB.1 h⟩
def Fu(sz:Nat):List AV->List (Nat × AV)->(List AV->Prop)->Prop
 | xs,[],K=>K xs
 | xs,(i,v)::r,K=>m7 (i8 v && (Nat.beq v.cells.length sz && Nat.blt i xs.length)) (G1 xs i v fun xs=>Fu sz xs r K)
theorem FI{sz:Nat}:∀{parts:List (Nat × AV)} {xs:List AV} {K:List AV->Prop},Fu sz xs parts K->∃l,r9 sz xs parts=some l/\K l
 | [],xs,K,h=>⟨xs,by simp[r9],h⟩
 | (i,v)::r,xs,K,h=>by
  obtain⟨h1,h⟩:=bR.1 h;obtain⟨l,h2,h⟩:=FI (bL.1 h);exact⟨l,by simp only[r9,h1];exact h2,h⟩
def nQ(P:Program)(mem:aN)(nx:Nat)(t:TypeId)(len:Nat)(parts:List (Nat × AV))(K:AV->aN->Nat->Prop):Prop:=
 match P.underlying t with
 | some (.slice e)=>match fO P e,lS P e with
  | some sz,some z=>m7 (i8 z && (Nat.beq z.cells.length sz && (Nat.blt 0 sz && Nat.ble (len*sz) 16777216))) (sJ (List.replicate len z) fun zs=>Fu sz zs parts fun xs=>l9 (nx+1) fun n=>K (.sl nx 0 len) ((nx,.row e sz xs)::mem) n)
  | _,_=>False
 | _=>False
theorem Bp{P:Program}{mem:aN}{nx:Nat}{t:TypeId}{len:Nat}{parts:List (Nat × AV)}{K:AV->aN->Nat->Prop}(h:nQ P mem nx t len parts K):∃v m n,f9 P mem nx t len parts=some (v,m,n)/\K v m n:=by
 unfold nQ at h;unfold f9;split at h
 ·rename_i e hu;simp only[hu];split at h
  ·rename_i sz z h1 h2;simp only[h1,h2];obtain⟨h3,h⟩:=bR.1 h;obtain⟨l,h4,h⟩:=FI (jF.1 h);exact⟨_,_,_,by simp only[h3,h4],dB.1 h⟩
  ·exact h.elim
 ·exact h.elim
def n6:List AV->Nat->List AV->(List AV->Prop)->Prop
 | [],_,cs,K=>K cs
 | x::r,0,[],K=>K (x::r)
 | _::r,0,c::cs,K=>n6 r 0 cs fun l=>K (c::l)
 | x::r,j+1,cs,K=>n6 r j cs fun l=>K (x::l)
theorem rN:∀{xs:List AV} {j:Nat} {cs:List AV} {K:List AV->Prop},n6 xs j cs K↔K (xs.take j++cs++xs.drop (j+cs.length))
 | [],j,cs,K=>by simp[n6]
 | x::r,0,[],K=>by simp[n6]
 | x::r,0,c::cs,K=>by simp[n6,rN]
 | x::r,j+1,cs,K=>by simp[n6,rN,Nat.add_right_comm]
def x6(x:AV)(j:Nat)(cs:List AV)(K:AV->Prop):Prop:=
 match x with
 | .agg xs=>n6 xs j cs fun l=>K (.agg l)
 | _=>match cs with
  | [c]=>opt (one c) K
  | _=>False
theorem FS{x:AV}{j:Nat}{cs:List AV}{K:AV->Prop}(h:x6 x j cs K):∃v,qT x j cs=some v/\K v:=by
 unfold x6 at h;unfold qT;split at h
 ·exact⟨_,rfl,rN.1 h⟩
 ·rename_i hx;split at h
  ·obtain⟨v,h1,h2⟩:=bP.1 h;refine⟨v, ?_,h2⟩;cases x<;>first|exact h1|exact(hx _ rfl).elim
  ·exact h.elim
def Ap:aN->(aN->Prop)->Prop
 | [],K=>K []
 | p::r,K=>Ap r fun r=>K (p::r)
theorem uP:∀{m:aN} {K:aN->Prop},Ap m K↔K m
 | [],K=>Iff.rfl
 | p::r,K=>by simp only[Ap];exact uP
def C8(P:Program)(mem:aN)(t:TypeId)(p v:AV)(K:aN->Prop):Prop:=
 match p with
 | .ptr id i j=>match lk mem id with
  | some (.row t' sz' xs)=>opt xs[i]? fun x=>match fO P t with
   | some n=>m7 (i8 v && (Nat.beq v.cells.length n && Nat.ble (j+n) x.cells.length)) (x6 x j v.cells fun x'=>G1 xs i x' fun xs'=>EU mem id (.row t' sz' xs') K)
   | none=>False
  | _=>False
 | _=>False
theorem IH{P:Program}{mem:aN}{t:TypeId}{p v:AV}{K:aN->Prop}(h:C8 P mem t p v K):∃m,vM P mem t p v=some m/\K m:=by
 unfold C8 at h;unfold vM;split at h
 ·split at h
  ·rename_i hid;obtain⟨x,hx,h⟩:=bP.1 h;split at h
   ·rename_i n hn;obtain⟨h1,h⟩:=bR.1 h;obtain⟨x',h2,h⟩:=FS h;exact⟨_,by simp only[hid,hx,hn,h1,h2],j8.1 (bL.1 h)⟩
   ·exact h.elim
  ·exact h.elim
 ·exact h.elim
def DW(P:Program)(mem:aN)(t:TypeId)(p v:AV)(K:aN->Prop):Prop:=
 match P.underlying t with
 | some (.array _ _)=>opt (uO P mem t p v) fun m=>Ap m K
 | _=>match v.cells with
  | []=>opt (tF P mem t p v) K
  | _::_=>C8 P mem t p v K
theorem Kl{P:Program}{mem:aN}{t:TypeId}{p v:AV}{K:aN->Prop}(h:DW P mem t p v K):∃m,uO P mem t p v=some m/\K m:=by
 unfold DW at h;split at h
 ·obtain⟨m,h1,h⟩:=bP.1 h;exact⟨m,h1,uP.1 h⟩
 ·split at h
  ·obtain⟨m,h1,h⟩:=bP.1 h;exact⟨m,by simp only[uO,h1],h⟩
  ·rename_i hc;obtain⟨m,h1,h⟩:=IH h;have hz:tF P mem t p v=none:=by
    unfold tF;split<;>first|rfl|skip
    split<;>first|rfl|skip
    split<;>first|rfl|skip
    rw[hc]
   exact⟨m,by simp only[uO,hz,h1],h⟩
def LC(cl:Bool)(P:Program)(mem:aN)(nx:Nat)(t:TypeId)(l c:AV)(K:AV->aN->Nat->Prop):Prop:=
 match l,c with
 | .int _ l,.int _ c=>match P.underlying t with
  | some (.slice e)=>match P.info? e with
   | some i=>match lS P e with
    | some z=>m7 (i8 z && (Nat.beq z.cells.length i.size && (Nat.blt 0 i.size && (decide (0<=l) && (decide (l<=c) && (decide ((i.bytes:Int)*c<=281474976710656) && decide (c<=9223372036854775807)))))))
      (l9 (nx+1) fun n=>qM cl (List.replicate l.toNat z) fun zs=>vK cl l.toNat fun m=>K (.sl nx 0 m) ((nx,.row e i.size zs)::mem) n)
    | none=>False
   | none=>False
  | _=>False
 | _,_=>False
theorem MS{cl:Bool}{P:Program}{mem:aN}{nx:Nat}{t:TypeId}{l c:AV}{K:AV->aN->Nat->Prop}(h:LC cl P mem nx t l c K):∃v m n,yU P mem nx t l c=some (v,m,n)/\K v m n:=by
 unfold LC at h;split at h
 ·unfold yU;split at h
  ·rename_i e hu;simp only[hu];split at h
   ·rename_i i h1;simp only[h1];split at h
    ·rename_i z h2;simp only[h2];obtain⟨h3,h⟩:=bR.1 h;have h4:=gG.1 (gM.1 (dB.1 h));exact⟨_,_,_,by simp only[h3],h4⟩
    ·exact h.elim
   ·exact h.elim
  ·exact h.elim
 ·exact h.elim
def MN(cl:Bool)(mem:aN)(sz:Nat)(x:AV)(K:List AV->Prop):Prop:=
 match x with
 | .nsl=>K []
 | .il sz' ys=>m7 (Nat.beq sz' sz) (K ys)
 | .sl id off len=>match lk mem id with
  | some (.row _ sz' xs)=>m7 (Nat.beq sz' sz && Nat.ble (off+len) xs.length) (qM cl ((xs.drop off).take len) K)
  | _=>False
 | .str s=>m7 (Nat.beq sz 1) (qM cl (s.map fun b=>.int .u8 (b.toNat:Int)) K)
 | _=>False
theorem JU{cl:Bool}{mem:aN}{sz:Nat}{x:AV}{K:List AV->Prop}(h:MN cl mem sz x K):∃l,Ii mem sz x=some l/\K l:=by
 unfold MN at h;unfold Ii;split at h
 ·exact⟨_,rfl,h⟩
 ·obtain⟨h1,h⟩:=bR.1 h;exact⟨_,by simp only[h1],h⟩
 ·split at h
  ·rename_i hid;obtain⟨h1,h⟩:=bR.1 h;exact⟨_,by simp only[hid,h1],gM.1 h⟩
  ·exact h.elim
 ·obtain⟨h1,h⟩:=bR.1 h;exact⟨_,by simp only[h1],gM.1 h⟩
 ·exact h.elim
def LI(cl:Bool)(xs ys:List AV)(K:List AV->Prop):Prop:=
 match cl with
 | true=>yA xs ys K
 | false=>K (xs++ys)
theorem EH{cl:Bool}{xs ys:List AV}{K:List AV->Prop}:LI cl xs ys K↔K (xs++ys):=by cases cl<;>simp[LI,fN]
def Db(cl:Bool)(P:Program)(mem:aN)(nx:Nat)(t u:TypeId)(s x:AV)(K:AV->aN->Nat->Prop):Prop:=
 match P.underlying t with
 | some (.slice e)=>match P.info? e with
  | some i=>match i.zero with
   | some z=>m7 (uM (P.underlying u) && (Nat.blt 0 i.size && Nat.beq z.cells.size i.size)) (MN cl mem i.size x fun ys=>match s with
     | .nsl=>m7 (Nat.ble (ys.length*i.bytes) 140737488355328 && Nat.ble ys.length 9223372036854775807) (vK cl ys.length fun l=>l9 (nx+1) fun n=>K (.sl nx 0 l) ((nx,.row e i.size ys)::mem) n)
     | .sl id 0 len=>match lk mem id with
      | some (.row t' sz' xs)=>m7 (Nat.beq t' e && (Nat.beq sz' i.size && (Nat.beq len xs.length && (Nat.ble ((len+ys.length)*i.bytes) 140737488355328 && Nat.ble (len+ys.length) 9223372036854775807))))
        (LI cl xs ys fun zs=>vK cl (len+ys.length) fun l=>l9 (nx+1) fun n=>CQ id mem fun m=>K (.sl nx 0 l) ((nx,.row e i.size zs)::m) n)
      | _=>False
     | _=>False)
   | none=>False
  | none=>False
 | _=>False
theorem IL{cl:Bool}{P:Program}{mem:aN}{nx:Nat}{t u:TypeId}{s x:AV}{K:AV->aN->Nat->Prop}(h:Db cl P mem nx t u s x K):∃v m n,qJ P mem nx t u s x=some (v,m,n)/\K v m n:=by
 unfold Db at h;unfold qJ;split at h
 ·rename_i e hu;simp only[hu];split at h
  ·rename_i i h1;simp only[h1];split at h
   ·rename_i z h2;simp only[h2];obtain⟨h3,h⟩:=bR.1 h;simp only[h3];obtain⟨ys,h4,h⟩:=JU h;simp only[h4];split at h
    ·obtain⟨h5,h⟩:=bR.1 h;exact⟨_,_,_,by simp only[h5],dB.1 (gG.1 h)⟩
    ·split at h
     ·rename_i hid;obtain⟨h5,h⟩:=bR.1 h;exact⟨_,_,_,by simp only[hid,h5],s5.1 (dB.1 (gG.1 (EH.1 h)))⟩
     ·exact h.elim
    ·exact h.elim
   ·exact h.elim
  ·exact h.elim
 ·exact h.elim
def sP(cl:Bool)(P:Program)(mem:aN)(nx:Nat)(src dst:TypeId)(x:AV)(K:AV->aN->Nat->Prop):Prop:=
 match P.underlying src with
 | none=>False
 | some _=>match P.underlying dst with
  | some (.slice e)=>match P.underlying e with
   | some (.int .u8)=>match x with
    | .str s=>l9 (nx+1) fun n=>vK cl s.length fun l=>qM cl (s.map fun b=>.int .u8 (b.toNat:Int)) fun xs=>K (.sl nx 0 l) ((nx,.row e 1 xs)::mem) n
    | _=>False
   | _=>False
  | _=>False
theorem Eg{cl:Bool}{P:Program}{mem:aN}{nx:Nat}{src dst:TypeId}{x:AV}{K:AV->aN->Nat->Prop}(h:sP cl P mem nx src dst x K):∃v m n,jB P mem nx src dst x=some (v,m,n)/\K v m n:=by
 unfold sP at h;unfold jB;split at h
 ·exact h.elim
 ·rename_i d hd;simp only[hd];split at h
  ·rename_i e hu;simp only[hu];split at h
   ·rename_i he;simp only[he];split at h
    ·exact⟨_,_,_,rfl,gM.1 (gG.1 (dB.1 h))⟩
    ·exact h.elim
   ·exact h.elim
  ·exact h.elim
def mQ(P:Program)(mem:aN)(t:TypeId)(m k v:AV)(K:aN->Prop):Prop:=
 match P.underlying t with
 | some (.map kt _)=>m7 (Gv P kt k) (match m with
   | .mp id=>match lk mem id with
    | some (.mapb es)=>opt (pW P kt k es 0) fun r=>match r with
     | some (i,_)=>opt es[i]? fun e=>m7 (HX e.1 k) (G1 es i (k,v) fun es=>EU mem id (.mapb es) K)
     | none=>yA es [(k,v)] fun es=>EU mem id (.mapb es) K
    | _=>False
   | _=>False)
 | _=>False
theorem vO{P:Program}{mem:aN}{t:TypeId}{m k v:AV}{K:aN->Prop}(h:mQ P mem t m k v K):∃m',kN P mem t m k v=some m'/\K m':=by
 unfold mQ at h;unfold kN;split at h
 ·rename_i kt et hu;simp only[hu];obtain⟨h1,h⟩:=bR.1 h;simp only[h1];split at h
  ·split at h
   ·rename_i es hid;simp only[hid];obtain⟨r,h2,h⟩:=bP.1 h;split at h
    ·obtain⟨e,h3,h⟩:=bP.1 h;obtain⟨h4,h⟩:=bR.1 h;exact⟨_,by simp only[h2,h3,h4],j8.1 (bL.1 h)⟩
    ·exact⟨_,by simp only[h2],j8.1 (fN.1 h)⟩
   ·exact h.elim
  ·exact h.elim
 ·exact h.elim
end Go.Ax
