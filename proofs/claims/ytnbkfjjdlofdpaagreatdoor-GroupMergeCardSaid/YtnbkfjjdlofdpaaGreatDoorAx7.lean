/- A part of the proof. -/
import Derived.Test.YtnbkfjjdlofdpaaGreatDoorAx6
import Derived.IntWalk
set_option linter.unusedVariables false
set_option linter.unusedSimpArgs false
set_option linter.unusedSectionVars false
namespace Go.Ax
open Go
def f9(l:List AV):Prop:=∀a∈l,NN a
theorem f9.get{l:List AV}(h:f9 l)(j:Nat)(c:AV)(hc:l[j]? = some c):NN c:=h c (Jy hc)
theorem f9.nil:f9 []:=fun a h=>by cases h
theorem f9.cons{a:AV}{l:List AV}(h:NN a)(hl:f9 l):f9 (a::l):=fun b hb=>by
 rcases JQ.1 hb with rfl|hb
 ·exact h
 ·exact hl b hb
theorem NN.agg'{cs:List AV}(h:f9 cs):NN (.agg cs):=.agg cs h.get
theorem NN.tup'{cs:List AV}(h:f9 cs):NN (.tup cs):=.tup cs h.get
theorem NN.cells{v:AV}(h:NN v):f9 v.cells:=by
 cases v with
 | agg cs=>cases h with|agg _ hn=>intro a ha;obtain⟨j,hj⟩:=KK ha;exact hn j a hj
 | _=>intro a ha;simp[AV.cells] at ha;subst ha;exact h
theorem NN.il'{sz:Nat}{xs:List AV}(h:f9 xs):NN (.il sz xs):=.il sz xs fun i x j c hi hj=>(h.get i x hi).cells.get j c hj
theorem NN.ip'{v:AV}(h:NN v):NN (.ip v):=.ip v fun j c hj=>h.cells.get j c hj
def aR(P:Program)(Γ:List (Nat × AV))(F:FuncId)(args:List AV)(r:AV):Prop:=aC P Γ F args [] 0 fun r' m n=>r'=r/\m=[]/\n=0
section
variable {P:Program} {Γ:List (Nat × AV)} {F:FuncId} {args:List AV} {r:AV} {mem:aA} {nx:Nat} {K:AV->aA->Nat->Prop}
theorem yP{mem:aA}{σ:List (Nat × Nat)}(ha:f9 args):m7 mem σ args args:=
 ⟨rfl,fun j c c' h1 h2=>by rw[h1] at h2;cases h2;exact .same c (ha.get j c h1)⟩
theorem aC.call0{Qs:AV->aA->Nat->Prop}(hΓ:∀p∈Γ,NN p.2)(h:aC P Γ F args [] 0 Qs)(ha:f9 args)
  (hk:∀r m n,Qs r m n->∃r',Cv m [] r r'/\K r' mem nx):aC P Γ F args mem nx K:=by
 refine⟨fun X D ρ w vs hD hm hv=>?_⟩;refine(aC.use (K:=K) (nx:=nx) hΓ h [] (m1:=[]) (rest:=mem) ⟨(fun p hp=>by cases hp),fun p hp=>hp,fun p hp=>.inr hp,(fun p hp=>by cases hp),by simp⟩ hm.nod (yP ha) (fun p hp=>by cases hp) (by simp) (fun i j k h=>by simp[lk] at h) (fun id i h=>by simp[lk] at h) ?_).run X D ρ w vs hD hm hv;intro r m n hq _;obtain⟨r',h1,h2⟩:=hk r m n hq;exact⟨[],r',[],nx,JX _,h1,(fun p hp=>by cases hp),by simp,(fun i j k h=>by simp[lk] at h),(fun i id h=>by simp[lk] at h),(fun p hp=>by cases hp),h2⟩
theorem aR.use(h:aR P Γ F args r)(hΓ:∀p∈Γ,NN p.2)(ha:f9 args)(hr:NN r)(hk:K r mem nx):aC P Γ F args mem nx K:=
 aC.call0 hΓ h ha fun r' m n ⟨e1,e2,e3⟩=>⟨r,by rw[e1];exact .same r hr,hk⟩
theorem aR.lend{as:List AV}(h:aR P Γ F as r)(hΓ:∀p∈Γ,NN p.2)(ha:m7 mem [] args as)(hr:Sc r)(hk:K r mem nx):aC P Γ F args mem nx K:=
 aC.lend hΓ h ha fun r' m n ⟨e1,e2,e3⟩=>⟨by rw[e1];exact hr,by rw[e1];exact hk⟩
theorem aR.drop{as:List AV}(h:aR P Γ F as r)(hΓ:∀p∈Γ,NN p.2)(ha:m7 mem [] args as)(hr:NN r)(hk:K r [] nx):aC P Γ F args mem nx K:=by
 refine⟨fun X D ρ w vs hD hm hv=>?_⟩;refine(aC.use (K:=K) (nx:=nx) hΓ h [] (m1:=mem) (rest:=[]) ⟨fun p hp=>hp,(fun p hp=>by cases hp),fun p hp=>.inl hp,(fun p _ q hq=>by cases hq),hm.nod⟩ (by simp) ha (fun p hp=>by cases hp) (by simp) (fun i j k h=>by simp[lk] at h) (fun id i h=>by simp[lk] at h) ?_).run X D ρ w vs hD hm hv;rintro r' m n ⟨rfl,rfl,rfl⟩ _;exact⟨[],r',[],nx,JX _,.same r' hr,(fun p hp=>by cases hp),by simp,(fun i j k h=>by simp[lk] at h),(fun i id h=>by simp[lk] at h),(fun p hp=>by cases hp),hk⟩
theorem aR.useC{as:List AV}(h:aR P Γ F as r)(hΓ:∀p∈Γ,NN p.2)(ha:m7 [] [] args as)(hr:NN r)(hk:K r mem nx):aC P Γ F args mem nx K:=by
 refine⟨fun X D ρ w vs hD hm hv=>?_⟩;refine(aC.use (K:=K) (nx:=nx) hΓ h [] (m1:=[]) (rest:=mem) ⟨(fun p hp=>by cases hp),fun p hp=>hp,fun p hp=>.inr hp,(fun p hp=>by cases hp),by simp⟩ hm.nod ha (fun p hp=>by cases hp) (by simp) (fun i j k h=>by simp[lk] at h) (fun id i h=>by simp[lk] at h) ?_).run X D ρ w vs hD hm hv;rintro r' m n ⟨rfl,rfl,rfl⟩ _;exact⟨[],r',[],nx,JX _,.same r' hr,(fun p hp=>by cases hp),by simp,(fun i j k h=>by simp[lk] at h),(fun i id h=>by simp[lk] at h),(fun p hp=>by cases hp),hk⟩
theorem aJ{Q:AV->aA->Nat->Prop}{m:aA}{n:Nat}(hr:NN r)(hq:Q r [] 0):Az 0 Q r m n:=
 ⟨[],r,[],0,⟨.same r hr,(fun p hp=>by cases hp),by simp,(fun i j k h=>by simp[lk] at h),(fun id i h=>by simp[lk] at h),JX _⟩,hq⟩
theorem b8{Q:AV->aA->Nat->Prop}{m:aA}{n:Nat}{r':AV}(hr:Cv m [] r r')(hq:Q r' [] 0):Az 0 Q r m n:=
 ⟨[],r',[],0,⟨hr,(fun p hp=>by cases hp),by simp,(fun i j k h=>by simp[lk] at h),(fun id i h=>by simp[lk] at h),JX _⟩,hq⟩
theorem eG:∀p∈([]:List (Nat × AV)),NN p.2:=fun p hp=>by cases hp
end
inductive Ct {α:Type} (B:Nat) (R:α->Prop) (I:α->St) (μ:α->Nat) (x:α) (s:St):Prop
 | mk (y:α) (σ:List (Nat × Nat)):R y->Conv B σ s (I y)->μ y<μ x->Ct B R I μ x s
theorem eD{l h m n:Nat}(h1:l<=h)(h2:h<=m)(h3:m<=n):(Nat.ble l h && (Nat.ble h m && Nat.ble m n))=true:=by
 rw[JZ h1,JZ h2,JZ h3];rfl
theorem dY{e sz size bytes len n k:Nat}(h1:Nat.beq sz size=true)(hb:Nat.ble bytes 4096=true)(h2:len=n)(h3:len+k<=34359738368) :
  (Nat.beq e e && (Nat.beq sz size && (Nat.beq len n && (Nat.ble ((len+k)*bytes) 140737488355328 && Nat.ble (len+k) 9223372036854775807))))=true:=by
 have hb:=JR hb;have hm:(len+k)*bytes<=34359738368*4096:=LZ h3 hb;rw[h1,h2,JZ (by rw[h2] at hm;omega),JZ om];simp
def dZ(mem:aA)(σ:List (Nat × Nat))(sl:List (Nat × AV)):List (Nat × AV)->Prop
 | []=>True
 | (i,v')::r=>(∃v,lk sl i=some v/\Cv mem σ v v')/\dZ mem σ sl r
theorem dZ.get{mem:aA}{σ:List (Nat × Nat)}{sl:List (Nat × AV)}:∀{sl':List (Nat × AV)},dZ mem σ sl sl'->∀i v',lk sl' i=some v'->∃v,lk sl i=some v/\Cv mem σ v v'
 | [],h,i,v',hi=>by simp[lk] at hi
 | (j,u)::r,h,i,v',hi=>by
  simp only[lk] at hi;split at hi
  ·rename_i e;cases hi;rw[←Nat.eq_of_beq_eq_true e];exact h.1
  ·exact dZ.get h.2 i v' hi
theorem bB{B:Nat}{sl sl':List (Nat × AV)}{mem:aA}{nx nt:Nat}(h:dZ mem [] sl sl'):Conv B [] ⟨sl,mem,nx,nt⟩ ⟨sl',[],B,nt⟩:=
 ⟨rfl,fun i v' hi=>h.get i v' hi,(fun p hp=>by cases hp),by simp,(fun i j k h=>by simp[lk] at h),(fun id i h=>by simp[lk] at h),JX _⟩
theorem Cv.eq{mem:aA}{σ:List (Nat × Nat)}{v v':AV}(hn:NN v')(h:v=v'):Cv mem σ v v':=by rw[h];exact .same v' hn
theorem Cv.slE{mem:aA}{σ:List (Nat × Nat)}{id id' off len len':Nat}(h:lk σ id=some id')(e:len=len'):Cv mem σ (.sl id off len) (.sl id' off len'):=by rw[←e];exact .sl id id' off len h
section
variable {mem:aA} {σ:List (Nat × Nat)}
theorem m7.nil:m7 mem σ [] []:=⟨rfl,fun j c c' h=>by simp at h⟩
theorem m7.cons{a b:AV}{as bs:List AV}(h:Cv mem σ a b)(hs:m7 mem σ as bs):m7 mem σ (a::as) (b::bs):=by
 refine⟨by simp[hs.1],fun j c c' h1 h2=>?_⟩;cases j with
 | zero=>simp at h1 h2;subst h1 h2;exact h
 | succ j=>simp at h1 h2;exact hs.2 j c c' h1 h2
theorem m7.same{l:List AV}(h:f9 l):m7 mem σ l l:=yP h
theorem Cv.agg'{cs cs':List AV}(h:m7 mem σ cs cs'):Cv mem σ (.agg cs) (.agg cs'):=.agg cs cs' h.1 h.2
theorem Cv.tup'{cs cs':List AV}(h:m7 mem σ cs cs'):Cv mem σ (.tup cs) (.tup cs'):=.tup cs cs' h.1 h.2
theorem ER.same{x:AV}(h:NN x):ER mem σ x x:=⟨rfl,(m7.same h.cells).2⟩
theorem ER.agg{cs cs':List AV}(h:m7 mem σ cs cs'):ER mem σ (.agg cs) (.agg cs'):=h
theorem ER.one{x y:AV}(hx:x.cells=[x])(hy:y.cells=[y])(h:Cv mem σ x y):ER mem σ x y:=by
 unfold ER;rw[hx,hy];exact m7.cons h .nil
theorem s5.same{xs:List AV}(h:f9 xs):s5 mem σ xs xs:=
 ⟨JX _,fun i x y h1 h2=>by rw[h1] at h2;cases h2;exact .same (h.get i x h1)⟩
theorem s5.nil{xs:List AV}:s5 mem σ xs []:=⟨by simp,fun i x y h1 h2=>by simp at h2⟩
theorem s5.cons{x y:AV}{xs ys:List AV}(h:ER mem σ x y)(hs:s5 mem σ xs ys):s5 mem σ (x::xs) (y::ys):=by
 refine⟨by simp[hs.1],fun i a b h1 h2=>?_⟩;cases i with
 | zero=>simp at h1 h2;subst h1 h2;exact h
 | succ i=>simp at h1 h2;exact hs.2 i a b h1 h2
theorem s5.snoc{xs ys:List AV}{x y:AV}(hl:xs.length=ys.length)(hs:s5 mem σ xs ys)(h:ER mem σ x y):s5 mem σ (xs++[x]) (ys++[y]):=by
 refine⟨by simp[hl],fun i a b h1 h2=>?_⟩;rcases Jc i xs.length with hi|hi
 ·rw[J1 hi] at h1;rw[J1 om] at h2;exact hs.2 i a b h1 h2
 ·rw[J8 hi] at h1;rw[J8 om,←hl] at h2;generalize i-xs.length=q at h1 h2;cases q with
  | zero=>simp at h1 h2;subst h1 h2;exact h
  | succ q=>simp at h1
theorem s5.eq{xs ys:List AV}(h:f9 ys)(e:xs=ys):s5 mem σ xs ys:=by rw[e];exact .same h
theorem Cv.fz'{id off len:Nat}{t:TypeId}{sz:Nat}{xs ys:List AV}(h1:lk mem id=some (.row t sz xs))(h2:lk σ id=none)(h3:off+len<=xs.length)(h4:(xs.drop off).take len=ys)(h5:f9 ys):Cv mem σ (.sl id off len) (.il sz ys):=by
 have hg:∀(i:Nat) (x y:AV),xs[off+i]? = some x->ys[i]? = some y->x=y:=by
  intro i x y hx hy;rw[←h4,Ju] at hy;split at hy
  ·rw[Jv,hx] at hy;exact Option.some.inj hy
  ·cases hy
 refine .fz id off len t sz xs ys h1 h2 h3 (by rw[←h4];simp;omega) (fun i x y hx hy=>by rw[hg i x y hx hy]) (fun i x y j c c' hx hy hc hc'=>?_);rw[hg i x y hx hy] at hc;rw[hc] at hc';cases hc';exact .same c ((h5.get i y hy).cells.get j c hc)
def dE(mem:aA)(σ:List (Nat × Nat)):aA->Prop
 | []=>True
 | (id',b)::r=>(match b with
   | .row t sz ys=>∃id xs,lk σ id=some id'/\lk mem id=some (.row t sz xs)/\s5 mem σ xs ys
   | .mapb es'=>∃id es,lk σ id=some id'/\lk mem id=some (.mapb es)/\IR mem σ es es'
   | .loop sl' nt ps ca cb st pd=>∃id sl,lk σ id=some id'/\lk mem id=some (.loop sl nt ps ca cb st pd)/\Im mem σ sl sl'
   | .iter mid' n sn=>∃id mid,lk σ id=some id'/\lk mem id=some (.iter mid n sn)/\lk σ mid=some mid')/\dE mem σ r
theorem dE.cvm:∀{mem':aA},dE mem σ mem'->tZ mem σ mem'
 | [],h=>fun p hp=>by cases hp
 | (id',b)::r,h=>fun p hp=>by
  rcases JQ.1 hp with rfl|hp
  ·have h1:=h.1;cases b with
   | row t sz ys=>
    obtain⟨id,xs,e1,e2,e3⟩:=h1;exact .inl ⟨id,t,sz,xs,ys,rfl,e1,e2,e3⟩
   | mapb es'=>
    obtain⟨id,es,e1,e2,e3⟩:=h1;exact .inr (.inl ⟨id,es,es',rfl,e1,e2,e3⟩)
   | loop sl' nt ps ca cb st pd=>
    obtain⟨id,sl,e1,e2,e3⟩:=h1;exact .inr (.inr (.inl ⟨id,sl,sl',nt,ps,ca,cb,st,pd,rfl,e1,e2,e3⟩))
   | iter mid' n sn=>
    obtain⟨id,mid,e1,e2,e3⟩:=h1;exact .inr (.inr (.inr ⟨id,mid,mid',n,sn,rfl,e1,e2,e3⟩))
  ·exact dE.cvm h.2 p hp
def BK(n:Nat):List (Nat × Nat)->Bool
 | []=>true
 | (_,m)::r=>!Nat.beq m n && BK n r
def n9:List (Nat × Nat)->Bool
 | []=>true
 | (_,m)::r=>BK m r && n9 r
def w7(n:Nat):aA->Bool
 | []=>true
 | (m,_)::r=>!Nat.beq m n && w7 n r
def pJ:aA->Bool
 | []=>true
 | (m,_)::r=>w7 m r && pJ r
def uZ(B n:Nat):List (Nat × Nat)->Bool
 | []=>true
 | (i,j)::r=>((Nat.ble B j || Nat.beq i j) && Nat.blt j n) && uZ B n r
theorem iG:∀{n:Nat} {σ:List (Nat × Nat)},BK n σ=true->∀p∈σ,p.2≠n
 | n,[],h,p,hp=>by cases hp
 | n,(i,m)::r,h,p,hp=>by
  simp only[BK,JU] at h;rcases JQ.1 hp with rfl|hp
  ·intro e;simp only at e;subst e;simp at h
  ·exact iG h.2 p hp
theorem zK:∀{σ:List (Nat × Nat)},n9 σ=true->∀p∈σ,∀q∈σ,p.2=q.2->p=q
 | [],h,p,hp=>by cases hp
 | (i,m)::r,h,p,hp=>by
  simp only[n9,JU] at h;intro q hq e;rcases JQ.1 hp with rfl|hp<;>rcases JQ.1 hq with rfl|hq
  ·rfl
  ·exact absurd e.symm (iG h.1 q hq)
  ·exact absurd e (iG h.1 p hp)
  ·exact zK h.2 p hp q hq e
theorem mW{σ:List (Nat × Nat)}(h:n9 σ=true):D1 σ:=fun i j k h1 h2=>by
 have:=zK h _ (aG h1) _ (aG h2) rfl;exact congrArg Prod.fst this
theorem nU:∀{n:Nat} {m:aA},w7 n m=true->n∉m.map (·.1)
 | n,[],h=>by simp
 | n,(k,b)::r,h=>by
  simp only[w7,JU] at h;simp only[Jz,JQ,not_or];refine⟨?_,nU h.2⟩;intro e;subst e;simp at h
theorem cG:∀{m:aA},pJ m=true->(m.map (·.1)).Nodup
 | [],h=>by simp
 | (k,b)::r,h=>by
  simp only[pJ,JU] at h;simp only[Jz,Jn];exact⟨nU h.1,cG h.2⟩
theorem qE{B n:Nat}:∀{σ:List (Nat × Nat)},uZ B n σ=true->∀id id',lk σ id=some id'->(id'<B->id'=id)/\id'<n:=by
 intro σ h id id' hl;have hmem:=aG hl;clear hl
 induction σ with
 | nil=>cases hmem
 | cons p r ih=>
  obtain⟨i,j⟩:=p;simp only[uZ,JU,Kt] at h;rcases JQ.1 hmem with e|hmem
  ·cases e;refine⟨fun hb=>?_,JR h.1.2⟩;rcases h.1.1 with h1|h1
   ·have a2:=JR h1;omega
   ·exact(Nat.eq_of_beq_eq_true h1).symm
  ·exact ih h.2 hmem
theorem bD{B:Nat}{sl sl':List (Nat × AV)}{mem':aA}{nx nx' nt:Nat}(σ:List (Nat × Nat))(hc:(n9 σ && (pJ mem' && (uZ B nx' σ && Nat.ble B nx')))=true)(hm:dE mem σ mem')(h:dZ mem σ sl sl') :
  Conv B σ ⟨sl,mem,nx,nt⟩ ⟨sl',mem',nx',nt⟩:=by
 simp only[JU] at hc;exact⟨rfl,fun i v' hi=>h.get i v' hi,hm.cvm,cG hc.2.1,mW hc.1,qE hc.2.2.1,JR hc.2.2.2⟩
theorem pI{B:Nat}{Q:AV->aA->Nat->Prop}{r r':AV}{m':aA}{n n':Nat}(σ:List (Nat × Nat))(hc:(n9 σ && (pJ m' && (uZ B n' σ && Nat.ble B n')))=true)(hm:dE mem σ m')(hr:Cv mem σ r r')(hq:Q r' m' n'):Az B Q r mem n:=by
 simp only[JU] at hc;exact .mk σ r' m' n' ⟨hr,hm.cvm,cG hc.2.1,mW hc.1,qE hc.2.2.1,JR hc.2.2.2⟩ hq
end
mutual
def Gm:fS->AV
 | .mk k n s kids=>.agg [.int .i64 k,.int .i64 n,.str s,.il 4 (u6 kids)]
def u6:List fS->List AV
 | []=>[]
 | v::r=>Gm v::u6 r
end
mutual
theorem v6:∀v:fS,NN (Gm v)
 | .mk k n s kids=>by
  simp only[Gm];exact .agg' (.cons (.int _ _) (.cons (.int _ _) (.cons (.str _) (.cons (.il' (lC kids)) .nil))))
theorem lC:∀l:List fS,f9 (u6 l)
 | []=>by simp only[u6];exact .nil
 | v::r=>by simp only[u6];exact .cons (v6 v) (lC r)
end
def i64(n:Int):Prop:=-9223372036854775808<=n/\n<=9223372036854775807
mutual
def Ir:fS->Prop
 | .mk k n s kids=>i64 k/\i64 n/\s.length<=4294967296/\kids.length<=4294967296/\HO kids
def HO:List fS->Prop
 | []=>True
 | v::r=>Ir v/\HO r
end
theorem f7{n:Int}(h:i64 n):IntKind.i64.wrap n=n:=IntWalk.i64_in n h
def a6(l:List Int):List AV:=l.map (AV.int .i64)
theorem aU(l:List Int):f9 (a6 l):=fun a ha=>by
 obtain⟨n,_,rfl⟩:=Jf.1 ha;exact .int _ _
theorem zN(l:List Int)(i:Nat):(a6 l)[i]? = (l[i]?).map (AV.int .i64):=by rw[a6,Js]
theorem bW(l:List Int):(a6 l).length=l.length:=by rw[a6,LX]
end Go.Ax
namespace Go.Ax
open Go
section
variable {ka na:Int} {sa:List UInt8} {ksa:List fS} {kb nb:Int} {sb:List UInt8} {ksb:List fS}
theorem FO{a b:Int}(h:a≠b):cB a b=if a<b then -1 else 1:=by
 unfold cB;split
 ·rfl
 ·rw[Jb om]
theorem Ez{a b:Int}(h:a≠b):cB a b≠0:=by
 rw[FO h];split<;>decide
end
end Go.Ax
namespace Go.Ax
open Go
def x4:List fS->fS->Nat × Bool
 | [],_=>(0,false)
 | a::r,v=>if 0<=j6 a v then(0,j6 a v == 0) else((x4 r v).1+1,(x4 r v).2)
def If(out:List fS)(v:fS):List fS:=if (x4 out v).2 then out else out.take (x4 out v).1++v::out.drop (x4 out v).1
def EH(l:List fS):List fS:=l.foldl If []
theorem lt_le{a b c:fS}(h1:j6 a b<0)(h2:j6 b c<=0):j6 a c<0:=by
 have g:=pB a;have t:=g.trans b c om h2;rcases Kr t with h|h
 ·exact h
 ·have:=(g.strict b c om h2 h).1;omega
theorem le_lt{a b c:fS}(h1:j6 a b<=0)(h2:j6 b c<0):j6 a c<0:=by
 have g:=pB a;have t:=g.trans b c h1 om;rcases Kr t with h|h
 ·exact h
 ·have:=(g.strict b c h1 om h).2;omega
def JB(l:List fS):Prop:=l.Pairwise fun a b=>j6 a b<0
theorem JB.get{l:List fS}(h:JB l){i j:Nat}{a b:fS}(hij:i<j)(ha:l[i]? = some a)(hb:l[j]? = some b):j6 a b<0:=by
 obtain⟨hi,rfl⟩:=JT.1 ha;obtain⟨hj,rfl⟩:=JT.1 hb;exact KF.1 h i j hi hj hij
end Go.Ax
