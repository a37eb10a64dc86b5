/- A part of the proof. -/
import Derived.Test.YtnbkfjjdlofdpaaGreatDoorAx6
import Derived.IntWalk
set_option linter.unusedVariables false
set_option linter.unusedSimpArgs false
set_option linter.unusedSectionVars false
namespace Go.Ax
open Go
def hE(l:List AV):Prop:=∀a∈l,NN a
theorem hE.get{l:List AV}(h:hE l)(j:Nat)(c:AV)(hc:l[j]? = some c):NN c:=h c (Je hc)
theorem hE.nil:hE []:=fun a h=>by cases h
theorem hE.cons{a:AV}{l:List AV}(h:NN a)(hl:hE l):hE (a::l):=fun b hb=>by
 rcases JA.1 hb with rfl|hb
 ·exact h
 ·exact hl b hb
theorem NN.agg'{cs:List AV}(h:hE cs):NN (.agg cs):=.agg cs h.get
theorem NN.tup'{cs:List AV}(h:hE cs):NN (.tup cs):=.tup cs h.get
theorem NN.cells{v:AV}(h:NN v):hE v.cells:=by
 cases v with
 | agg cs=>cases h with|agg _ hn=>intro a ha;obtain⟨j,hj⟩:=J4 ha;exact hn j a hj
 | _=>intro a ha;simp[AV.cells] at ha;subst ha;exact h
theorem NN.il'{sz:Nat}{xs:List AV}(h:hE xs):NN (.il sz xs):=.il sz xs fun i x j c hi hj=>(h.get i x hi).cells.get j c hj
theorem NN.ip'{v:AV}(h:NN v):NN (.ip v):=.ip v fun j c hj=>h.cells.get j c hj
def aS(P:Program)(Γ:List (Nat × AV))(F:FuncId)(args:List AV)(r:AV):Prop:=aC P Γ F args [] 0 fun r' m n=>r'=r/\m=[]/\n=0
section
variable {P:Program} {Γ:List (Nat × AV)} {F:FuncId} {args:List AV} {r:AV} {mem:aA} {nx:Nat} {K:AV->aA->Nat->Prop}
theorem xH{mem:aA}{σ:List (Nat × Nat)}(ha:hE args):mV mem σ args args:=
 ⟨rfl,fun j c c' h1 h2=>by rw[h1] at h2;cases h2;exact .same c (ha.get j c h1)⟩
theorem aC.call0{Qs:AV->aA->Nat->Prop}(hΓ:∀p∈Γ,NN p.2)(h:aC P Γ F args [] 0 Qs)(ha:hE args)
  (hk:∀r m n,Qs r m n->∃r',Cv m [] r r'/\K r' mem nx):aC P Γ F args mem nx K:=by
 refine⟨fun X D ρ w vs hD hm hv=>?_⟩;refine(aC.use (K:=K) (nx:=nx) hΓ h [] (m1:=[]) (rest:=mem) ⟨(fun p hp=>by cases hp),fun p hp=>hp,fun p hp=>.inr hp,(fun p hp=>by cases hp),by simp⟩ hm.nod (xH ha) (fun p hp=>by cases hp) (by simp) (fun i j k h=>by simp[lk] at h) (fun id i h=>by simp[lk] at h) ?_).run X D ρ w vs hD hm hv;intro r m n hq _;obtain⟨r',h1,h2⟩:=hk r m n hq;exact⟨[],r',[],nx,JG _,h1,(fun p hp=>by cases hp),by simp,(fun i j k h=>by simp[lk] at h),(fun i id h=>by simp[lk] at h),(fun p hp=>by cases hp),h2⟩
theorem aS.use(h:aS P Γ F args r)(hΓ:∀p∈Γ,NN p.2)(ha:hE args)(hr:NN r)(hk:K r mem nx):aC P Γ F args mem nx K:=
 aC.call0 hΓ h ha fun r' m n ⟨e1,e2,e3⟩=>⟨r,by rw[e1];exact .same r hr,hk⟩
theorem aS.lend{as:List AV}(h:aS P Γ F as r)(hΓ:∀p∈Γ,NN p.2)(ha:mV mem [] args as)(hr:Sc r)(hk:K r mem nx):aC P Γ F args mem nx K:=
 aC.lend hΓ h ha fun r' m n ⟨e1,e2,e3⟩=>⟨by rw[e1];exact hr,by rw[e1];exact hk⟩
theorem aS.drop{as:List AV}(h:aS P Γ F as r)(hΓ:∀p∈Γ,NN p.2)(ha:mV mem [] args as)(hr:NN r)(hk:K r [] nx):aC P Γ F args mem nx K:=by
 refine⟨fun X D ρ w vs hD hm hv=>?_⟩;refine(aC.use (K:=K) (nx:=nx) hΓ h [] (m1:=mem) (rest:=[]) ⟨fun p hp=>hp,(fun p hp=>by cases hp),fun p hp=>.inl hp,(fun p _ q hq=>by cases hq),hm.nod⟩ (by simp) ha (fun p hp=>by cases hp) (by simp) (fun i j k h=>by simp[lk] at h) (fun id i h=>by simp[lk] at h) ?_).run X D ρ w vs hD hm hv;rintro r' m n ⟨rfl,rfl,rfl⟩ _;exact⟨[],r',[],nx,JG _,.same r' hr,(fun p hp=>by cases hp),by simp,(fun i j k h=>by simp[lk] at h),(fun i id h=>by simp[lk] at h),(fun p hp=>by cases hp),hk⟩
theorem aJ{Q:AV->aA->Nat->Prop}{m:aA}{n:Nat}(hr:NN r)(hq:Q r [] 0):z7 0 Q r m n:=
 ⟨[],r,[],0,⟨.same r hr,(fun p hp=>by cases hp),by simp,(fun i j k h=>by simp[lk] at h),(fun id i h=>by simp[lk] at h),JG _⟩,hq⟩
theorem dN{Q:AV->aA->Nat->Prop}{m:aA}{n:Nat}{r':AV}(hr:Cv m [] r r')(hq:Q r' [] 0):z7 0 Q r m n:=
 ⟨[],r',[],0,⟨hr,(fun p hp=>by cases hp),by simp,(fun i j k h=>by simp[lk] at h),(fun id i h=>by simp[lk] at h),JG _⟩,hq⟩
theorem fS:∀p∈([]:List (Nat × AV)),NN p.2:=fun p hp=>by cases hp
end
inductive Da {α:Type} (B:Nat) (R:α->Prop) (I:α->St) (μ:α->Nat) (x:α) (s:St):Prop
 | mk (y:α) (σ:List (Nat × Nat)):R y->Conv B σ s (I y)->μ y<μ x->Da B R I μ x s
theorem rJ{l h m n:Nat}(h1:l<=h)(h2:h<=m)(h3:m<=n):(Nat.ble l h && (Nat.ble h m && Nat.ble m n))=true:=by
 rw[JD h1,JD h2,JD h3];rfl
theorem kB{e sz size bytes len n k:Nat}(h1:Nat.beq sz size=true)(hb:Nat.ble bytes 4096=true)(h2:len=n)(h3:len+k<=34359738368) :
  (Nat.beq e e && (Nat.beq sz size && (Nat.beq len n && (Nat.ble ((len+k)*bytes) 140737488355328 && Nat.ble (len+k) 9223372036854775807))))=true:=by
 have hb:=JB hb;have hm:(len+k)*bytes<=34359738368*4096:=LG h3 hb;rw[h1,h2,JD (by rw[h2] at hm;omega),JD om];simp
def dS(mem:aA)(σ:List (Nat × Nat))(sl:List (Nat × AV)):List (Nat × AV)->Prop
 | []=>True
 | (i,v')::r=>(∃v,lk sl i=some v/\Cv mem σ v v')/\dS mem σ sl r
theorem dS.get{mem:aA}{σ:List (Nat × Nat)}{sl:List (Nat × AV)}:∀{sl':List (Nat × AV)},dS mem σ sl sl'->∀i v',lk sl' i=some v'->∃v,lk sl i=some v/\Cv mem σ v v'
 | [],h,i,v',hi=>by simp[lk] at hi
 | (j,u)::r,h,i,v',hi=>by
  simp only[lk] at hi;split at hi
  ·rename_i e;cases hi;rw[←Nat.eq_of_beq_eq_true e];exact h.1
  ·exact dS.get h.2 i v' hi
theorem aV{B:Nat}{sl sl':List (Nat × AV)}{mem:aA}{nx nt:Nat}(h:dS mem [] sl sl'):Conv B [] ⟨sl,mem,nx,nt⟩ ⟨sl',[],B,nt⟩:=
 ⟨rfl,fun i v' hi=>h.get i v' hi,(fun p hp=>by cases hp),by simp,(fun i j k h=>by simp[lk] at h),(fun id i h=>by simp[lk] at h),JG _⟩
theorem Cv.eq{mem:aA}{σ:List (Nat × Nat)}{v v':AV}(hn:NN v')(h:v=v'):Cv mem σ v v':=by rw[h];exact .same v' hn
theorem Cv.slE{mem:aA}{σ:List (Nat × Nat)}{id id' off len len':Nat}(h:lk σ id=some id')(e:len=len'):Cv mem σ (.sl id off len) (.sl id' off len'):=by rw[←e];exact .sl id id' off len h
section
variable {mem:aA} {σ:List (Nat × Nat)}
theorem mV.nil:mV mem σ [] []:=⟨rfl,fun j c c' h=>by simp at h⟩
theorem mV.cons{a b:AV}{as bs:List AV}(h:Cv mem σ a b)(hs:mV mem σ as bs):mV mem σ (a::as) (b::bs):=by
 refine⟨by simp[hs.1],fun j c c' h1 h2=>?_⟩;cases j with
 | zero=>simp at h1 h2;subst h1 h2;exact h
 | succ j=>simp at h1 h2;exact hs.2 j c c' h1 h2
theorem mV.same{l:List AV}(h:hE l):mV mem σ l l:=xH h
theorem Cv.agg'{cs cs':List AV}(h:mV mem σ cs cs'):Cv mem σ (.agg cs) (.agg cs'):=.agg cs cs' h.1 h.2
theorem Cv.tup'{cs cs':List AV}(h:mV mem σ cs cs'):Cv mem σ (.tup cs) (.tup cs'):=.tup cs cs' h.1 h.2
theorem D4.same{x:AV}(h:NN x):D4 mem σ x x:=⟨rfl,(mV.same h.cells).2⟩
theorem D4.agg{cs cs':List AV}(h:mV mem σ cs cs'):D4 mem σ (.agg cs) (.agg cs'):=h
theorem D4.one{x y:AV}(hx:x.cells=[x])(hy:y.cells=[y])(h:Cv mem σ x y):D4 mem σ x y:=by
 unfold D4;rw[hx,hy];exact mV.cons h .nil
theorem tG.same{xs:List AV}(h:hE xs):tG mem σ xs xs:=
 ⟨JG _,fun i x y h1 h2=>by rw[h1] at h2;cases h2;exact .same (h.get i x h1)⟩
theorem tG.nil{xs:List AV}:tG mem σ xs []:=⟨by simp,fun i x y h1 h2=>by simp at h2⟩
theorem tG.cons{x y:AV}{xs ys:List AV}(h:D4 mem σ x y)(hs:tG mem σ xs ys):tG mem σ (x::xs) (y::ys):=by
 refine⟨by simp[hs.1],fun i a b h1 h2=>?_⟩;cases i with
 | zero=>simp at h1 h2;subst h1 h2;exact h
 | succ i=>simp at h1 h2;exact hs.2 i a b h1 h2
theorem tG.snoc{xs ys:List AV}{x y:AV}(hl:xs.length=ys.length)(hs:tG mem σ xs ys)(h:D4 mem σ x y):tG mem σ (xs++[x]) (ys++[y]):=by
 refine⟨by simp[hl],fun i a b h1 h2=>?_⟩;rcases JK i xs.length with hi|hi
 ·rw[Ji hi] at h1;rw[Ji om] at h2;exact hs.2 i a b h1 h2
 ·rw[Jo hi] at h1;rw[Jo om,←hl] at h2;generalize i-xs.length=q at h1 h2;cases q with
  | zero=>simp at h1 h2;subst h1 h2;exact h
  | succ q=>simp at h1
theorem tG.eq{xs ys:List AV}(h:hE ys)(e:xs=ys):tG mem σ xs ys:=by rw[e];exact .same h
theorem Cv.fz'{id off len:Nat}{t:TypeId}{sz:Nat}{xs ys:List AV}(h1:lk mem id=some (.row t sz xs))(h2:lk σ id=none)(h3:off+len<=xs.length)(h4:(xs.drop off).take len=ys)(h5:hE ys):Cv mem σ (.sl id off len) (.il sz ys):=by
 have hg:∀(i:Nat) (x y:AV),xs[off+i]? = some x->ys[i]? = some y->x=y:=by
  intro i x y hx hy;rw[←h4,Jb] at hy;split at hy
  ·rw[Jc,hx] at hy;exact Option.some.inj hy
  ·cases hy
 refine .fz id off len t sz xs ys h1 h2 h3 (by rw[←h4];simp;omega) (fun i x y hx hy=>by rw[hg i x y hx hy]) (fun i x y j c c' hx hy hc hc'=>?_);rw[hg i x y hx hy] at hc;rw[hc] at hc';cases hc';exact .same c ((h5.get i y hy).cells.get j c hc)
def dC(mem:aA)(σ:List (Nat × Nat)):aA->Prop
 | []=>True
 | (id',b)::r=>(match b with
   | .row t sz ys=>∃id xs,lk σ id=some id'/\lk mem id=some (.row t sz xs)/\tG mem σ xs ys
   | .mapb es'=>∃id es,lk σ id=some id'/\lk mem id=some (.mapb es)/\IE mem σ es es'
   | .loop sl' nt ps ca cb st pd=>∃id sl,lk σ id=some id'/\lk mem id=some (.loop sl nt ps ca cb st pd)/\IS mem σ sl sl'
   | .iter mid' n sn=>∃id mid,lk σ id=some id'/\lk mem id=some (.iter mid n sn)/\lk σ mid=some mid')/\dC mem σ r
theorem dC.cvm:∀{mem':aA},dC mem σ mem'->tH mem σ mem'
 | [],h=>fun p hp=>by cases hp
 | (id',b)::r,h=>fun p hp=>by
  rcases JA.1 hp with rfl|hp
  ·have h1:=h.1;cases b with
   | row t sz ys=>
    obtain⟨id,xs,e1,e2,e3⟩:=h1;exact .inl ⟨id,t,sz,xs,ys,rfl,e1,e2,e3⟩
   | mapb es'=>
    obtain⟨id,es,e1,e2,e3⟩:=h1;exact .inr (.inl ⟨id,es,es',rfl,e1,e2,e3⟩)
   | loop sl' nt ps ca cb st pd=>
    obtain⟨id,sl,e1,e2,e3⟩:=h1;exact .inr (.inr (.inl ⟨id,sl,sl',nt,ps,ca,cb,st,pd,rfl,e1,e2,e3⟩))
   | iter mid' n sn=>
    obtain⟨id,mid,e1,e2,e3⟩:=h1;exact .inr (.inr (.inr ⟨id,mid,mid',n,sn,rfl,e1,e2,e3⟩))
  ·exact dC.cvm h.2 p hp
def Bk(n:Nat):List (Nat × Nat)->Bool
 | []=>true
 | (_,m)::r=>!Nat.beq m n && Bk n r
def nH:List (Nat × Nat)->Bool
 | []=>true
 | (_,m)::r=>Bk m r && nH r
def vY(n:Nat):aA->Bool
 | []=>true
 | (m,_)::r=>!Nat.beq m n && vY n r
def oU:aA->Bool
 | []=>true
 | (m,_)::r=>vY m r && oU r
def uX(B n:Nat):List (Nat × Nat)->Bool
 | []=>true
 | (i,j)::r=>((Nat.ble B j || Nat.beq i j) && Nat.blt j n) && uX B n r
theorem gT:∀{n:Nat} {σ:List (Nat × Nat)},Bk n σ=true->∀p∈σ,p.2≠n
 | n,[],h,p,hp=>by cases hp
 | n,(i,m)::r,h,p,hp=>by
  simp only[Bk,JE] at h;rcases JA.1 hp with rfl|hp
  ·intro e;simp only at e;subst e;simp at h
  ·exact gT h.2 p hp
theorem zG:∀{σ:List (Nat × Nat)},nH σ=true->∀p∈σ,∀q∈σ,p.2=q.2->p=q
 | [],h,p,hp=>by cases hp
 | (i,m)::r,h,p,hp=>by
  simp only[nH,JE] at h;intro q hq e;rcases JA.1 hp with rfl|hp<;>rcases JA.1 hq with rfl|hq
  ·rfl
  ·exact absurd e.symm (gT h.1 q hq)
  ·exact absurd e (gT h.1 p hp)
  ·exact zG h.2 p hp q hq e
theorem mJ{σ:List (Nat × Nat)}(h:nH σ=true):Cn σ:=fun i j k h1 h2=>by
 have:=zG h _ (aF h1) _ (aF h2) rfl;exact congrArg Prod.fst this
theorem nQ:∀{n:Nat} {m:aA},vY n m=true->n∉m.map (·.1)
 | n,[],h=>by simp
 | n,(k,b)::r,h=>by
  simp only[vY,JE] at h;simp only[Jg,JA,not_or];refine⟨?_,nQ h.2⟩;intro e;subst e;simp at h
theorem cA:∀{m:aA},oU m=true->(m.map (·.1)).Nodup
 | [],h=>by simp
 | (k,b)::r,h=>by
  simp only[oU,JE] at h;simp only[Jg,JU];exact⟨nQ h.1,cA h.2⟩
theorem pP{B n:Nat}:∀{σ:List (Nat × Nat)},uX B n σ=true->∀id id',lk σ id=some id'->(id'<B->id'=id)/\id'<n:=by
 intro σ h id id' hl;have hmem:=aF hl;clear hl
 induction σ with
 | nil=>cases hmem
 | cons p r ih=>
  obtain⟨i,j⟩:=p;simp only[uX,JE,KW] at h;rcases JA.1 hmem with e|hmem
  ·cases e;refine⟨fun hb=>?_,JB h.1.2⟩;rcases h.1.1 with h1|h1
   ·have a2:=JB h1;omega
   ·exact(Nat.eq_of_beq_eq_true h1).symm
  ·exact ih h.2 hmem
theorem bN{B:Nat}{sl sl':List (Nat × AV)}{mem':aA}{nx nx' nt:Nat}(σ:List (Nat × Nat))(hc:(nH σ && (oU mem' && (uX B nx' σ && Nat.ble B nx')))=true)(hm:dC mem σ mem')(h:dS mem σ sl sl') :
  Conv B σ ⟨sl,mem,nx,nt⟩ ⟨sl',mem',nx',nt⟩:=by
 simp only[JE] at hc;exact⟨rfl,fun i v' hi=>h.get i v' hi,hm.cvm,cA hc.2.1,mJ hc.1,pP hc.2.2.1,JB hc.2.2.2⟩
theorem oW{B:Nat}{Q:AV->aA->Nat->Prop}{r r':AV}{m':aA}{n n':Nat}(σ:List (Nat × Nat))(hc:(nH σ && (oU m' && (uX B n' σ && Nat.ble B n')))=true)(hm:dC mem σ m')(hr:Cv mem σ r r')(hq:Q r' m' n'):z7 B Q r mem n:=by
 simp only[JE] at hc;exact .mk σ r' m' n' ⟨hr,hm.cvm,cA hc.2.1,mJ hc.1,pP hc.2.2.1,JB hc.2.2.2⟩ hq
end
mutual
def GY:fI->AV
 | .mk k n s kids=>.agg [.int .i64 k,.int .i64 n,.str s,.il 4 (uH kids)]
def uH:List fI->List AV
 | []=>[]
 | v::r=>GY v::uH r
end
mutual
theorem u9:∀v:fI,NN (GY v)
 | .mk k n s kids=>by
  simp only[GY];exact .agg' (.cons (.int _ _) (.cons (.int _ _) (.cons (.str _) (.cons (.il' (kU kids)) .nil))))
theorem kU:∀l:List fI,hE (uH l)
 | []=>by simp only[uH];exact .nil
 | v::r=>by simp only[uH];exact .cons (u9 v) (kU r)
end
def i64(n:Int):Prop:=-9223372036854775808<=n/\n<=9223372036854775807
mutual
def IZ:fI->Prop
 | .mk k n s kids=>i64 k/\i64 n/\s.length<=4294967296/\kids.length<=4294967296/\HU kids
def HU:List fI->Prop
 | []=>True
 | v::r=>IZ v/\HU r
end
theorem dI{n:Int}(h:i64 n):IntKind.i64.wrap n=n:=IntWalk.i64_in n h
def aY(l:List Int):List AV:=l.map (AV.int .i64)
theorem aU(l:List Int):hE (aY l):=fun a ha=>by
 obtain⟨n,_,rfl⟩:=JM.1 ha;exact .int _ _
theorem nY(l:List Int)(i:Nat):(aY l)[i]? = (l[i]?).map (AV.int .i64):=by rw[aY,Ja]
theorem bB(l:List Int):(aY l).length=l.length:=by rw[aY,List.length_map]
end Go.Ax
namespace Go.Ax
open Go
section
variable {ka na:Int} {sa:List UInt8} {ksa:List fI} {kb nb:Int} {sb:List UInt8} {ksb:List fI}
theorem ER{a b:Int}(h:a≠b):dE a b=if a<b then -1 else 1:=by
 unfold dE;split
 ·rfl
 ·rw[JL om]
theorem ES{a b:Int}(h:a≠b):dE a b≠0:=by
 rw[ER h];split<;>decide
end
end Go.Ax
namespace Go.Ax
open Go
def zN:List fI->fI->Nat × Bool
 | [],_=>(0,false)
 | a::r,v=>if 0<=jN a v then(0,jN a v == 0) else((zN r v).1+1,(zN r v).2)
def IG(out:List fI)(v:fI):List fI:=if (zN out v).2 then out else out.take (zN out v).1++v::out.drop (zN out v).1
def Dd(l:List fI):List fI:=l.foldl IG []
theorem lt_le{a b c:fI}(h1:jN a b<0)(h2:jN b c<=0):jN a c<0:=by
 have g:=oK a;have t:=g.trans b c om h2;rcases KU t with h|h
 ·exact h
 ·have:=(g.strict b c om h2 h).1;omega
theorem le_lt{a b c:fI}(h1:jN a b<=0)(h2:jN b c<0):jN a c<0:=by
 have g:=oK a;have t:=g.trans b c h1 om;rcases KU t with h|h
 ·exact h
 ·have:=(g.strict b c h1 om h).2;omega
def I4(l:List fI):Prop:=l.Pairwise fun a b=>jN a b<0
theorem I4.get{l:List fI}(h:I4 l){i j:Nat}{a b:fI}(hij:i<j)(ha:l[i]? = some a)(hb:l[j]? = some b):jN a b<0:=by
 obtain⟨hi,rfl⟩:=JC.1 ha;obtain⟨hj,rfl⟩:=JC.1 hb;exact Jp.1 h i j hi hj hij
end Go.Ax
