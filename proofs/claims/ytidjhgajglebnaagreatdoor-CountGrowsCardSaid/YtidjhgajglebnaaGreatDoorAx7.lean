/- A part of the proof. -/
import Derived.Test.YtidjhgajglebnaaGreatDoorAx6
import Derived.IntWalk
set_option linter.unusedVariables false
set_option linter.unusedSimpArgs false
namespace Go.Ax
open Go
def kH(l:List AV):Prop:=∀a∈l,NN a
theorem kH.get{l:List AV}(h:kH l)(j:Nat)(c:AV)(hc:l[j]? = some c):NN c:=h c (UA hc)
theorem kH.nil:kH []:=fun a h=>by cases h
theorem kH.cons{a:AV}{l:List AV}(h:NN a)(hl:kH l):kH (a::l):=fun b hb=>by
 rcases T6.1 hb with rfl|hb
 ·exact h
 ·exact hl b hb
theorem NN.agg'{cs:List AV}(h:kH cs):NN (.agg cs):=.agg cs h.get
theorem NN.tup'{cs:List AV}(h:kH cs):NN (.tup cs):=.tup cs h.get
theorem NN.cells{v:AV}(h:NN v):kH v.cells:=by
 cases v with
 | agg cs=>cases h with|agg _ hn=>intro a ha;obtain⟨j,hj⟩:=Ui ha;exact hn j a hj
 | _=>intro a ha;simp[AV.cells] at ha;subst ha;exact h
theorem NN.il'{sz:Nat}{xs:List AV}(h:kH xs):NN (.il sz xs):=.il sz xs fun i x j c hi hj=>(h.get i x hi).cells.get j c hj
theorem NN.ip'{v:AV}(h:NN v):NN (.ip v):=.ip v fun j c hj=>h.cells.get j c hj
def aZ(P:Program)(Γ:List (Nat × AV))(F:FuncId)(args:List AV)(r:AV):Prop:=aE P Γ F args [] 0 fun r' m n=>r'=r/\m=[]/\n=0
section
variable {P:Program} {Γ:List (Nat × AV)} {F:FuncId} {args:List AV} {r:AV} {mem:aN} {nx:Nat} {K:AV->aN->Nat->Prop}
theorem BJ{mem:aN}{σ:List (Nat × Nat)}(ha:kH args):jJ mem σ args args:=
 ⟨rfl,fun j c c' h1 h2=>by rw[h1] at h2;cases h2;exact .same c (ha.get j c h1)⟩
theorem aE.call0{Qs:AV->aN->Nat->Prop}(hΓ:∀p∈Γ,NN p.2)(h:aE P Γ F args [] 0 Qs)(ha:kH args)
  (hk:∀r m n,Qs r m n->∃r',Cv m [] r r'/\K r' mem nx):aE P Γ F args mem nx K:=by
 refine⟨fun X D ρ w vs hD hm hv=>?_⟩;refine(aE.use (K:=K) (nx:=nx) hΓ h [] (m1:=[]) (rest:=mem) ⟨(fun p hp=>by cases hp),fun p hp=>hp,fun p hp=>.inr hp,(fun p hp=>by cases hp),by simp⟩ hm.nod (BJ ha) (fun p hp=>by cases hp) (by simp) (fun i j k h=>by simp[lk] at h) (fun id i h=>by simp[lk] at h) ?_).run X D ρ w vs hD hm hv;intro r m n hq _;obtain⟨r',h1,h2⟩:=hk r m n hq;exact⟨[],r',[],nx,UC _,h1,(fun p hp=>by cases hp),by simp,(fun i j k h=>by simp[lk] at h),(fun i id h=>by simp[lk] at h),(fun p hp=>by cases hp),h2⟩
theorem aZ.use(h:aZ P Γ F args r)(hΓ:∀p∈Γ,NN p.2)(ha:kH args)(hr:NN r)(hk:K r mem nx):aE P Γ F args mem nx K:=
 aE.call0 hΓ h ha fun r' m n ⟨e1,e2,e3⟩=>⟨r,by rw[e1];exact .same r hr,hk⟩
theorem aZ.lend{as:List AV}(h:aZ P Γ F as r)(hΓ:∀p∈Γ,NN p.2)(ha:jJ mem [] args as)(hr:Sc r)(hk:K r mem nx):aE P Γ F args mem nx K:=
 aE.lend hΓ h ha fun r' m n ⟨e1,e2,e3⟩=>⟨by rw[e1];exact hr,by rw[e1];exact hk⟩
theorem aZ.drop{as:List AV}(h:aZ P Γ F as r)(hΓ:∀p∈Γ,NN p.2)(ha:jJ mem [] args as)(hr:NN r)(hk:K r [] nx):aE P Γ F args mem nx K:=by
 refine⟨fun X D ρ w vs hD hm hv=>?_⟩;refine(aE.use (K:=K) (nx:=nx) hΓ h [] (m1:=mem) (rest:=[]) ⟨fun p hp=>hp,(fun p hp=>by cases hp),fun p hp=>.inl hp,(fun p _ q hq=>by cases hq),hm.nod⟩ (by simp) ha (fun p hp=>by cases hp) (by simp) (fun i j k h=>by simp[lk] at h) (fun id i h=>by simp[lk] at h) ?_).run X D ρ w vs hD hm hv;rintro r' m n ⟨rfl,rfl,rfl⟩ _;exact⟨[],r',[],nx,UC _,.same r' hr,(fun p hp=>by cases hp),by simp,(fun i j k h=>by simp[lk] at h),(fun i id h=>by simp[lk] at h),(fun p hp=>by cases hp),hk⟩
theorem aZ.useC{as:List AV}(h:aZ P Γ F as r)(hΓ:∀p∈Γ,NN p.2)(ha:jJ [] [] args as)(hr:NN r)(hk:K r mem nx):aE P Γ F args mem nx K:=by
 refine⟨fun X D ρ w vs hD hm hv=>?_⟩;refine(aE.use (K:=K) (nx:=nx) hΓ h [] (m1:=[]) (rest:=mem) ⟨(fun p hp=>by cases hp),fun p hp=>hp,fun p hp=>.inr hp,(fun p hp=>by cases hp),by simp⟩ hm.nod ha (fun p hp=>by cases hp) (by simp) (fun i j k h=>by simp[lk] at h) (fun id i h=>by simp[lk] at h) ?_).run X D ρ w vs hD hm hv;rintro r' m n ⟨rfl,rfl,rfl⟩ _;exact⟨[],r',[],nx,UC _,.same r' hr,(fun p hp=>by cases hp),by simp,(fun i j k h=>by simp[lk] at h),(fun i id h=>by simp[lk] at h),(fun p hp=>by cases hp),hk⟩
theorem aA{Q:AV->aN->Nat->Prop}{m:aN}{n:Nat}(hr:NN r)(hq:Q r [] 0):oH 0 Q r m n:=
 ⟨[],r,[],0,⟨.same r hr,(fun p hp=>by cases hp),by simp,(fun i j k h=>by simp[lk] at h),(fun id i h=>by simp[lk] at h),UC _⟩,hq⟩
theorem gL{Q:AV->aN->Nat->Prop}{m:aN}{n:Nat}{r':AV}(hr:Cv m [] r r')(hq:Q r' [] 0):oH 0 Q r m n:=
 ⟨[],r',[],0,⟨hr,(fun p hp=>by cases hp),by simp,(fun i j k h=>by simp[lk] at h),(fun id i h=>by simp[lk] at h),UC _⟩,hq⟩
theorem bB:∀p∈([]:List (Nat × AV)),NN p.2:=fun p hp=>by cases hp
end
inductive Gd {α:Type} (B:Nat) (R:α->Prop) (I:α->St) (μ:α->Nat) (x:α) (s:St):Prop
 | mk (y:α) (σ:List (Nat × Nat)):R y->Conv B σ s (I y)->μ y<μ x->Gd B R I μ x s
theorem eD.loopAt{P:Program}{Γ:List (Nat × AV)}{B:Nat}{c:Code}{s:St}{Q:Exit->St->Prop}{α:Type}(hΓ:∀p∈Γ,NN p.2)(R:α->Prop)(I:α->St)(μ:α->Nat)(x:α)(σ:List (Nat × Nat))(hx:R x)(h0:Conv B σ s (I x))
  (h:∀x,R x->Ao false P Γ (H1 P Γ B) c (I x) fun e s=>match e with
   | .normal=>Gd B R I μ x s
   | e=>Q e s):eD P Γ B (.loop c) s Q:=by
 refine eD.conv hΓ h0 ?_;refine eD.loop (α:={ x:α // R x }) hΓ (fun x=>I x.1) (fun x=>μ x.1) (fun x=>?_) ⟨x,hx⟩;refine(eY p8 c _ _ (h x.1 x.2)).mono fun e s h=>?_
 cases e with
 | normal=>
  obtain⟨y,σ,hy,hc,hlt⟩:=(show Gd B R I μ x.1 s from h)
  exact⟨⟨y,hy⟩,σ,hc,hlt⟩
 | exit i=>exact h
 | goto l=>exact h
 | ret=>exact h
 | panic c=>exact h
 | outgrown=>exact h
theorem Ry{l h m n:Nat}(h1:l<=h)(h2:h<=m)(h3:m<=n):(Nat.ble l h && (Nat.ble h m && Nat.ble m n))=true:=by
 rw[T8 h1,T8 h2,T8 h3];rfl
theorem Hy{a n m:Nat}(h:n<=m):(Nat.beq a a && Nat.ble n m)=true:=by
 rw[T8 h];simp
theorem bT{e sz size bytes len n k:Nat}(h1:Nat.beq sz size=true)(hb:Nat.ble bytes 4096=true)(h2:len=n)(h3:len+k<=34359738368) :
  (Nat.beq e e && (Nat.beq sz size && (Nat.beq len n && (Nat.ble ((len+k)*bytes) 140737488355328 && Nat.ble (len+k) 9223372036854775807))))=true:=by
 have hb:=T3 hb;have hm:(len+k)*bytes<=34359738368*4096:=VO h3 hb;rw[h1,h2,T8 (by rw[h2] at hm;omega),T8 (by omega)];simp
theorem A9{bytes k:Nat}(hb:Nat.ble bytes 4096=true)(h3:k<=34359738368):(Nat.ble (k*bytes) 140737488355328 && Nat.ble k 9223372036854775807)=true:=by
 have hb:=T3 hb;have hm:k*bytes<=34359738368*4096:=VO h3 hb;rw[T8 (by omega),T8 (by omega)];rfl
def zR(mem:aN)(σ:List (Nat × Nat))(sl:List (Nat × AV)):List (Nat × AV)->Prop
 | []=>True
 | (i,v')::r=>(∃v,lk sl i=some v/\Cv mem σ v v')/\zR mem σ sl r
theorem zR.get{mem:aN}{σ:List (Nat × Nat)}{sl:List (Nat × AV)}:∀{sl':List (Nat × AV)},zR mem σ sl sl'->∀i v',lk sl' i=some v'->∃v,lk sl i=some v/\Cv mem σ v v'
 | [],h,i,v',hi=>by simp[lk] at hi
 | (j,u)::r,h,i,v',hi=>by
  simp only[lk] at hi;split at hi
  ·rename_i e;cases hi;rw[←T2 e];exact h.1
  ·exact zR.get h.2 i v' hi
theorem bV{B:Nat}{sl sl':List (Nat × AV)}{mem:aN}{nx nt:Nat}(h:zR mem [] sl sl'):Conv B [] ⟨sl,mem,nx,nt⟩ ⟨sl',[],B,nt⟩:=
 ⟨rfl,fun i v' hi=>h.get i v' hi,(fun p hp=>by cases hp),by simp,(fun i j k h=>by simp[lk] at h),(fun id i h=>by simp[lk] at h),UC _⟩
theorem Cv.eq{mem:aN}{σ:List (Nat × Nat)}{v v':AV}(hn:NN v')(h:v=v'):Cv mem σ v v':=by rw[h];exact .same v' hn
theorem Cv.slE{mem:aN}{σ:List (Nat × Nat)}{id id' off len len':Nat}(h:lk σ id=some id')(e:len=len'):Cv mem σ (.sl id off len) (.sl id' off len'):=by rw[←e];exact .sl id id' off len h
section
variable {mem:aN} {σ:List (Nat × Nat)}
theorem jJ.nil:jJ mem σ [] []:=⟨rfl,fun j c c' h=>by simp at h⟩
theorem jJ.cons{a b:AV}{as bs:List AV}(h:Cv mem σ a b)(hs:jJ mem σ as bs):jJ mem σ (a::as) (b::bs):=by
 refine⟨by simp[hs.1],fun j c c' h1 h2=>?_⟩;cases j with
 | zero=>simp at h1 h2;subst h1 h2;exact h
 | succ j=>simp at h1 h2;exact hs.2 j c c' h1 h2
theorem jJ.same{l:List AV}(h:kH l):jJ mem σ l l:=BJ h
theorem Cv.agg'{cs cs':List AV}(h:jJ mem σ cs cs'):Cv mem σ (.agg cs) (.agg cs'):=.agg cs cs' h.1 h.2
theorem Cv.tup'{cs cs':List AV}(h:jJ mem σ cs cs'):Cv mem σ (.tup cs) (.tup cs'):=.tup cs cs' h.1 h.2
theorem D1.same{x:AV}(h:NN x):D1 mem σ x x:=⟨rfl,(jJ.same h.cells).2⟩
theorem D1.agg{cs cs':List AV}(h:jJ mem σ cs cs'):D1 mem σ (.agg cs) (.agg cs'):=h
theorem D1.one{x y:AV}(hx:x.cells=[x])(hy:y.cells=[y])(h:Cv mem σ x y):D1 mem σ x y:=by
 unfold D1;rw[hx,hy];exact jJ.cons h .nil
theorem rI.same{xs:List AV}(h:kH xs):rI mem σ xs xs:=
 ⟨UC _,fun i x y h1 h2=>by rw[h1] at h2;cases h2;exact .same (h.get i x h1)⟩
theorem rI.nil{xs:List AV}:rI mem σ xs []:=⟨by simp,fun i x y h1 h2=>by simp at h2⟩
theorem rI.cons{x y:AV}{xs ys:List AV}(h:D1 mem σ x y)(hs:rI mem σ xs ys):rI mem σ (x::xs) (y::ys):=by
 refine⟨by simp[hs.1],fun i a b h1 h2=>?_⟩;cases i with
 | zero=>simp at h1 h2;subst h1 h2;exact h
 | succ i=>simp at h1 h2;exact hs.2 i a b h1 h2
theorem rI.snoc{xs ys:List AV}{x y:AV}(hl:xs.length=ys.length)(hs:rI mem σ xs ys)(h:D1 mem σ x y):rI mem σ (xs++[x]) (ys++[y]):=by
 refine⟨by simp[hl],fun i a b h1 h2=>?_⟩;rcases UG i xs.length with hi|hi
 ·rw[UY hi] at h1;rw[UY (by omega)] at h2;exact hs.2 i a b h1 h2
 ·rw[Uf hi] at h1;rw[Uf (by omega),←hl] at h2;generalize i-xs.length=q at h1 h2;cases q with
  | zero=>simp at h1 h2;subst h1 h2;exact h
  | succ q=>simp at h1
theorem rI.to{xs xs' ys:List AV}(h:rI mem σ xs ys)(e:xs'=xs):rI mem σ xs' ys:=by rw[e];exact h
theorem rI.eq{xs ys:List AV}(h:kH ys)(e:xs=ys):rI mem σ xs ys:=by rw[e];exact .same h
theorem Cv.fz'{id off len:Nat}{t:TypeId}{sz:Nat}{xs ys:List AV}(h1:lk mem id=some (.row t sz xs))(h2:lk σ id=none)(h3:off+len<=xs.length)(h4:(xs.drop off).take len=ys)(h5:kH ys):Cv mem σ (.sl id off len) (.il sz ys):=by
 have hg:∀(i:Nat) (x y:AV),xs[off+i]? = some x->ys[i]? = some y->x=y:=by
  intro i x y hx hy;rw[←h4,Ua] at hy;split at hy
  ·rw[Up,hx] at hy;exact Option.some.inj hy
  ·cases hy
 refine .fz id off len t sz xs ys h1 h2 h3 (by rw[←h4];simp;omega) (fun i x y hx hy=>by rw[hg i x y hx hy]) (fun i x y j c c' hx hy hc hc'=>?_);rw[hg i x y hx hy] at hc;rw[hc] at hc';cases hc';exact .same c ((h5.get i y hy).cells.get j c hc)
def dE(mem:aN)(σ:List (Nat × Nat)):aN->Prop
 | []=>True
 | (id',b)::r=>(match b with
   | .row t sz ys=>∃id xs,lk σ id=some id'/\lk mem id=some (.row t sz xs)/\rI mem σ xs ys
   | .mapb es'=>∃id es,lk σ id=some id'/\lk mem id=some (.mapb es)/\S2 mem σ es es'
   | .loop sl' nt ps ca cb st pd=>∃id sl,lk σ id=some id'/\lk mem id=some (.loop sl nt ps ca cb st pd)/\TP mem σ sl sl')/\dE mem σ r
theorem dE.cvm:∀{mem':aN},dE mem σ mem'->Qy mem σ mem'
 | [],h=>fun p hp=>by cases hp
 | (id',b)::r,h=>fun p hp=>by
  rcases T6.1 hp with rfl|hp
  ·have h1:=h.1;cases b with
   | row t sz ys=>
    obtain⟨id,xs,e1,e2,e3⟩:=h1;exact .inl ⟨id,t,sz,xs,ys,rfl,e1,e2,e3⟩
   | mapb es'=>
    obtain⟨id,es,e1,e2,e3⟩:=h1;exact .inr (.inl ⟨id,es,es',rfl,e1,e2,e3⟩)
   | loop sl' nt ps ca cb st pd=>
    obtain⟨id,sl,e1,e2,e3⟩:=h1;exact .inr (.inr ⟨id,sl,sl',nt,ps,ca,cb,st,pd,rfl,e1,e2,e3⟩)
  ·exact dE.cvm h.2 p hp
def CZ(n:Nat):List (Nat × Nat)->Bool
 | []=>true
 | (_,m)::r=>!Nat.beq m n && CZ n r
def rG:List (Nat × Nat)->Bool
 | []=>true
 | (_,m)::r=>CZ m r && rG r
def vZ(n:Nat):aN->Bool
 | []=>true
 | (m,_)::r=>!Nat.beq m n && vZ n r
def rF:aN->Bool
 | []=>true
 | (m,_)::r=>vZ m r && rF r
def uY(B n:Nat):List (Nat × Nat)->Bool
 | []=>true
 | (i,j)::r=>((Nat.ble B j || Nat.beq i j) && Nat.blt j n) && uY B n r
theorem oK:∀{n:Nat} {σ:List (Nat × Nat)},CZ n σ=true->∀p∈σ,p.2≠n
 | n,[],h,p,hp=>by cases hp
 | n,(i,m)::r,h,p,hp=>by
  simp only[CZ,Tz] at h;rcases T6.1 hp with rfl|hp
  ·intro e;simp only at e;subst e;simp at h
  ·exact oK h.2 p hp
theorem GS:∀{σ:List (Nat × Nat)},rG σ=true->∀p∈σ,∀q∈σ,p.2=q.2->p=q
 | [],h,p,hp=>by cases hp
 | (i,m)::r,h,p,hp=>by
  simp only[rG,Tz] at h;intro q hq e;rcases T6.1 hp with rfl|hp<;>rcases T6.1 hq with rfl|hq
  ·rfl
  ·exact absurd e.symm (oK h.1 q hq)
  ·exact absurd e (oK h.1 p hp)
  ·exact GS h.2 p hp q hq e
theorem n9{σ:List (Nat × Nat)}(h:rG σ=true):NX σ:=fun i j k h1 h2=>by
 have:=GS h _ (bK h1) _ (bK h2) rfl;exact congrArg Prod.fst this
theorem xD:∀{n:Nat} {m:aN},vZ n m=true->n∉m.map (·.1)
 | n,[],h=>by simp
 | n,(k,b)::r,h=>by
  simp only[vZ,Tz] at h;simp only[Uj,T6,not_or];refine⟨?_,xD h.2⟩;intro e;subst e;simp at h
theorem fE:∀{m:aN},rF m=true->(m.map (·.1)).Nodup
 | [],h=>by simp
 | (k,b)::r,h=>by
  simp only[rF,Tz] at h;simp only[Uj,Uo];exact⟨xD h.1,fE h.2⟩
theorem AT{B n:Nat}:∀{σ:List (Nat × Nat)},uY B n σ=true->∀id id',lk σ id=some id'->(id'<B->id'=id)/\id'<n:=by
 intro σ h id id' hl;have hmem:=bK hl;clear hl
 induction σ with
 | nil=>cases hmem
 | cons p r ih=>
  obtain⟨i,j⟩:=p;simp only[uY,Tz,U5] at h;rcases T6.1 hmem with e|hmem
  ·cases e;refine⟨fun hb=>?_,T3 h.1.2⟩;rcases h.1.1 with h1|h1
   ·have a2:=T3 h1;omega
   ·exact(T2 h1).symm
  ·exact ih h.2 hmem
theorem aF{B:Nat}{sl sl':List (Nat × AV)}{mem':aN}{nx nx' nt:Nat}(σ:List (Nat × Nat))(hc:(rG σ && (rF mem' && (uY B nx' σ && Nat.ble B nx')))=true)(hm:dE mem σ mem')(h:zR mem σ sl sl') :
  Conv B σ ⟨sl,mem,nx,nt⟩ ⟨sl',mem',nx',nt⟩:=by
 simp only[Tz] at hc;exact⟨rfl,fun i v' hi=>h.get i v' hi,hm.cvm,fE hc.2.1,n9 hc.1,AT hc.2.2.1,T3 hc.2.2.2⟩
theorem bJ{B:Nat}{Q:AV->aN->Nat->Prop}{r r':AV}{m':aN}{n n':Nat}(σ:List (Nat × Nat))(hc:(rG σ && (rF m' && (uY B n' σ && Nat.ble B n')))=true)(hm:dE mem σ m')(hr:Cv mem σ r r')(hq:Q r' m' n'):oH B Q r mem n:=by
 simp only[Tz] at hc;exact .mk σ r' m' n' ⟨hr,hm.cvm,fE hc.2.1,n9 hc.1,AT hc.2.2.1,T3 hc.2.2.2⟩ hq
end
theorem sV:∀{m:aN} {id:Nat} {p:Nat × AB},p∈m->p.1≠id->p∈drop id m
 | (k,u)::r,id,p,hp,hne=>by
  simp only[drop];rcases T6.1 hp with rfl|hp
  ·rw[l6 hne];exact UN ..
  ·split
   ·exact hp
   ·exact UF _ (sV hp hne)
theorem aE.use1{P:Program}{Γ:List (Nat × AV)}{F:FuncId}{as args:List AV}{mem:aN}{nx:Nat}{t:TypeId}{sz:Nat}{xs:List AV}{Qs K:AV->aN->Nat->Prop}(hΓ:∀p∈Γ,NN p.2)
  (h:aE P Γ F as [(0,.row t sz xs)] 1 Qs) (g:Nat) (hg:lk mem g=some (.row t sz xs)) (hx:kH xs) (hargs:jJ [(g,.row t sz xs)] [(g,0)] args as)
  (hk:∀r m n,Qs r m n->∃xs',m=[(0,.row t sz xs')]/\NN r/\kH xs'/\Cy g mem fun rest=>K r ((g,.row t sz xs')::rest) nx):aE P Γ F args mem nx K:=by
 refine⟨fun X D ρ w vs hD hm hv=>?_⟩;refine(aE.use (K:=K) (nx:=nx) hΓ h [(g,0)] (m1:=[(g,.row t sz xs)]) (rest:=drop g mem) ⟨fun p hp=>?_,fun p hp=>cX hp,fun p hp=>?_,fun p hp q hq=>?_,by simp⟩ (jO hm.nod) hargs (fun p hp=>?_) (by simp) (n9 (by rfl)) (fun id i hl=>?_) ?_).run X D ρ w vs hD hm hv
 ·simp at hp;subst hp;exact bK hg
 ·by_cases hpg:p.1=g
  ·left;have:=pX hm.nod hp (bK hg) hpg;rw[this];simp
  ·exact .inr (sV hp hpg)
 ·simp at hp;subst hp;exact Ne.symm (pN hm.nod hq)
 ·simp at hp;subst hp;exact .inl ⟨g,t,sz,xs,xs,rfl,by simp[lk],by simp[lk],.same hx⟩
 ·have:=bK hl;simp at this;omega
 ·intro r m n hq hn;obtain⟨xs',rfl,h1,h2,h3⟩:=hk r m n hq;refine⟨[(0,g)],r,[(g,.row t sz xs')],nx,UC _,.same r h1,fun p hp=>?_,by simp,n9 (by rfl),fun i id hl=>?_,fun p hp q hq=>?_,tW.1 h3⟩
  ·simp at hp;subst hp;exact .inl ⟨0,t,sz,xs',xs',rfl,by simp[lk],by simp[lk],.same h2⟩
  ·have:=bK hl;simp at this;obtain⟨rfl,rfl⟩:=this;exact .inl ⟨by omega,by simp[lk]⟩
  ·simp at hp;subst hp;exact Ne.symm (pN hm.nod hq)
mutual
def cK:aT->AV
 | .mk k n s kids=>.agg [.int .i64 k,.int .i64 n,.str s,.il 4 (aS kids)]
def aS:List aT->List AV
 | []=>[]
 | v::r=>cK v::aS r
end
theorem iE:∀l:List aT,aS l=l.map cK
 | []=>by simp[aS]
 | v::r=>by simp[aS,iE r]
mutual
theorem dZ:∀v:aT,NN (cK v)
 | .mk k n s kids=>by
  simp only[cK];exact .agg' (.cons (.int _ _) (.cons (.int _ _) (.cons (.str _) (.cons (.il' (bC kids)) .nil))))
theorem bC:∀l:List aT,kH (aS l)
 | []=>by simp only[aS];exact .nil
 | v::r=>by simp only[aS];exact .cons (dZ v) (bC r)
end
def i64(n:Int):Prop:=-9223372036854775808<=n/\n<=9223372036854775807
mutual
def g5:aT->Prop
 | .mk k n s kids=>i64 k/\i64 n/\s.length<=4294967296/\kids.length<=4294967296/\o9 kids
def o9:List aT->Prop
 | []=>True
 | v::r=>g5 v/\o9 r
end
theorem jC:∀{l:List aT},o9 l->∀v∈l,g5 v
 | [],_,v,h=>by cases h
 | a::r,h,v,hv=>by
  simp only[o9] at h;rcases T6.1 hv with rfl|hv
  ·exact h.1
  ·exact jC h.2 v hv
theorem oI:∀{l:List aT},(∀v∈l,g5 v)->o9 l
 | [],_=>by simp[o9]
 | a::r,h=>by simp only[o9];exact⟨h a (UN ..),oI fun v hv=>h v (UF _ hv)⟩
theorem bE{n:Int}(h:i64 n):IntKind.i64.wrap n=n:=IntWalk.i64_in n h
def bG(l:List Int):List AV:=l.map (AV.int .i64)
theorem a8(l:List Int):kH (bG l):=fun a ha=>by
 obtain⟨n,_,rfl⟩:=US.1 ha;exact .int _ _
theorem bL(l:List Int)(i:Nat):(bG l)[i]? = (l[i]?).map (AV.int .i64):=by rw[bG,Uh]
theorem aH(l:List Int):(bG l).length=l.length:=by rw[bG,VW]
theorem kE(l:List aT)(i:Nat):(aS l)[i]? = (l[i]?).map cK:=by rw[iE,Uh]
theorem aB(l:List aT):(aS l).length=l.length:=by rw[iE,VW]
end Go.Ax
namespace Go.Ax
open Go
theorem yU:∀(x y:List UInt8),Op.bytesLess x y=decide (jF x y<0)
 | [],[]=>rfl
 | [],_::_=>rfl
 | _::_,[]=>rfl
 | a::x,b::y=>by
  simp only[Op.bytesLess,jF,yU x y];by_cases h:a<b
  ·simp[h]
  ·by_cases h':b<a
   ·have hne:¬a=b:=by rintro rfl;exact h h'
    simp[h,h',hne]
   ·have he:a=b:=by
     rw[←UInt8.toNat_inj];simp only[UInt8.lt_iff_toNat_lt] at h h';omega
    subst he;simp[h]
theorem qD:∀(x y:List UInt8),jF x y = -1∨jF x y=0∨jF x y=1
 | [],[]=>by simp[jF]
 | [],_::_=>by simp[jF]
 | _::_,[]=>by simp[jF]
 | a::x,b::y=>by
  simp only[jF];split
  ·simp
  ·split
   ·simp
   ·exact qD x y
theorem nC:∀{x y:List UInt8},jF x y=0->x=y
 | [],[],_=>rfl
 | [],_::_,h=>by simp[jF] at h
 | _::_,[],h=>by simp[jF] at h
 | a::x,b::y,h=>by
  simp only[jF] at h;split at h
  ·cases h
  ·split at h
   ·cases h
   ·rename_i h1 h2;have he:a=b:=by
     rw[←UInt8.toNat_inj];simp only[UInt8.lt_iff_toNat_lt] at h1 h2;omega
    rw[he,nC h]
theorem Dw{x y:List UInt8}:Op.bytesLess x y=true↔jF x y = -1:=by
 rw[yU];have:=qD x y;simp;omega
theorem Jn{x y:List UInt8}(h:Op.bytesLess x y=false)(h':(!(Op.bytesLess x y || x == y))=true):jF x y=1:=by
 rw[h] at h';simp at h';rw[yU] at h;simp at h;have:=qD x y;rcases this with e|e|e
 ·omega
 ·exact absurd (nC e) h'
 ·exact e
theorem Kf{x y:List UInt8}(h:Op.bytesLess x y=false)(h':(!(Op.bytesLess x y || x == y))=false):jF x y=0:=by
 rw[h] at h';simp at h';subst h';exact(pE x).refl
section
variable {ka na:Int} {sa:List UInt8} {ksa:List aT} {kb nb:Int} {sb:List UInt8} {ksb:List aT}
theorem Fa{a b:Int}(h:a≠b):rH a b=if a<b then -1 else 1:=by
 unfold rH;split
 ·rfl
 ·rw[T7 (by omega)]
theorem tJ{a b:Int}(h:a≠b):rH a b≠0:=by
 rw[Fa h];split<;>decide
theorem K3(h:ka≠kb):bR (.mk ka na sa ksa) (.mk kb nb sb ksb)=if ka<kb then -1 else 1:=by
 rw[bR,andThen,T5 (tJ h),Fa h]
theorem Li(h:ka=kb)(h2:na≠nb):bR (.mk ka na sa ksa) (.mk kb nb sb ksb)=if na<nb then -1 else 1:=by
 rw[bR,andThen,T7 (by rw[h];exact(j9 kb).refl),andThen,T5 (tJ h2),Fa h2]
theorem QO(h:ka=kb)(h2:na=nb)(h3:sa≠sb):bR (.mk ka na sa ksa) (.mk kb nb sb ksb)=if Op.bytesLess sa sb=true then -1 else 1:=by
 rw[bR,andThen,T7 (by rw[h];exact(j9 kb).refl),andThen,T7 (by rw[h2];exact(j9 nb).refl),andThen,T5 (fun e=>h3 (nC e))];rcases qD sa sb with e|e|e
 ·rw[T7 (Dw.2 e),e]
 ·exact absurd (nC e) h3
 ·have:¬Op.bytesLess sa sb=true:=by rw[yU,e];simp
  rw[T5 this,e]
theorem Q7(h:ka=kb)(h2:na=nb)(h3:sa=sb):bR (.mk ka na sa ksa) (.mk kb nb sb ksb)=fI ksa ksb:=by
 rw[bR,andThen,T7 (by rw[h];exact(j9 kb).refl),andThen,T7 (by rw[h2];exact(j9 nb).refl),andThen,T7 (by rw[h3];exact(pE sb).refl)]
end
theorem Di{l1 l2:List aT}{k:Nat}(h1:k<l1.length)(h2:k<l2.length):fI (l1.drop k) (l2.drop k)=andThen (bR l1[k] l2[k]) (fI (l1.drop (k+1)) (l2.drop (k+1))):=by
 rw[UU h1,UU h2,fI]
theorem Ez{l:List aT}{k:Nat}(h:k<l.length):(aS l)[(k:Int).toNat]? = some (cK l[k]):=by
 rw[T4,kE,Ty h];rfl
end Go.Ax
namespace Go.Ax
open Go
def i0:List aT->aT->Nat × Bool
 | [],_=>(0,false)
 | a::r,v=>if 0<=bR a v then(0,bR a v == 0) else((i0 r v).1+1,(i0 r v).2)
def Gx(l:List aT)(k:Nat)(v:aT):Bool:=
 match l[k]? with
 | some a=>bR a v == 0
 | none=>false
theorem Ce:∀{l:List aT} {v:aT} {k:Nat},k<=l.length->(∀p a,p<k->l[p]? = some a->bR a v<0)->(∀a,l[k]? = some a->0<=bR a v)->i0 l v=(k,Gx l k v)
 | [],v,k,hk,h1,h2=>by
  have:k=0:=by simpa using hk
  subst this;simp[i0,Gx]
 | a::r,v,0,hk,h1,h2=>by
  have:=h2 a (by simp);simp[i0,this,Gx]
 | a::r,v,k+1,hk,h1,h2=>by
  have h0:=h1 0 a (by omega) (by simp);have ih:=Ce (l:=r) (v:=v) (k:=k) (by simpa using hk) (fun p b hp hb=>h1 (p+1) b (by omega) (by simpa using hb)) (fun b hb=>h2 b (by simpa using hb));rw[i0,T5 (by omega),ih];simp[Gx]
theorem By:∀(l:List aT) (v:aT),(i0 l v).1<=l.length
 | [],v=>by simp[i0]
 | a::r,v=>by
  simp only[i0];split
  ·simp
  ·have:=By r v;simp;omega
def uN(out:List aT)(v:aT):List aT:=if (i0 out v).2 then out else out.take (i0 out v).1++v::out.drop (i0 out v).1
def eB(l:List aT):List aT:=l.foldl uN []
theorem nU(l:List aT)(v:aT):eB (l++[v])=uN (eB l) v:=by simp[eB]
theorem F1{out:List aT}{v x:aT}(h:x∈uN out v):x=v∨x∈out:=by
 unfold uN at h;split at h
 ·exact .inr h
 ·rcases UI.1 h with h|h
  ·exact .inr (Uc h)
  ·rcases T6.1 h with h|h
   ·exact .inl h
   ·exact .inr (Us h)
theorem GN(out:List aT)(v:aT):(uN out v).length<=out.length+1:=by
 unfold uN;split
 ·omega
 ·simp only[UV,Ul,U4,WE];have:=By out v;omega
theorem qC:∀l:List aT,(eB l).length<=l.length:=by
 intro l;rw[←WQ l];generalize l.reverse=r
 induction r with
 | nil=>simp[eB]
 | cons a r ih=>
  rw[Wd,nU];have:=GN (eB r.reverse) a;simp only[UV,Ut];omega
theorem pG{l:List aT}{x:aT}:x∈eB l->x∈l:=by
 rw[←WQ l];generalize l.reverse=r
 induction r with
 | nil=>simp[eB]
 | cons a r ih=>
  rw[Wd,nU];intro h;rcases F1 h with rfl|h
  ·simp
  ·exact Ud _ (ih h)
theorem F6{a b c:aT}(h1:bR a b<0)(h2:bR b c<=0):bR a c<0:=by
 have g:=nI a;have t:=g.trans b c (by omega) h2;rcases Int.lt_or_eq_of_le t with h|h
 ·exact h
 ·have:=(g.strict b c (by omega) h2 h).1;omega
theorem Ja{a b:aT}(h:0<bR a b):bR b a<0:=by rw[(nI a).anti b];omega
def lV(l:List aT):Prop:=l.Pairwise fun a b=>bR a b<0
theorem Dn(a:aT)(r:List aT)(v:aT):uN (a::r) v=if 0<=bR a v then(if bR a v == 0 then a::r else v::a::r) else a::uN r v:=by
 unfold uN;by_cases h:0<=bR a v
 ·simp only[i0,T7 h];rfl
 ·simp only[i0,T5 h];split<;>simp_all
theorem Fq:∀{l:List aT} {v:aT},lV l->lV (uN l v)
 | [],v,_=>by simp[uN,i0,lV]
 | a::r,v,h=>by
  unfold lV at h ⊢;rw[Uk] at h;rw[Dn];split
  ·rename_i h0;split
   ·exact Uk.2 h
   ·rename_i h1;have h1:bR a v≠0:=by simpa using h1
    have hva:=Ja (show 0<bR a v by omega);refine Uk.2 ⟨fun b hb=>?_,Uk.2 h⟩;rcases T6.1 hb with rfl|hb
    ·exact hva
    ·exact F6 hva (by have:=h.1 b hb;omega)
  ·rename_i h0;refine Uk.2 ⟨fun b hb=>?_,Fq (l:=r) h.2⟩;rcases F1 hb with rfl|hb
   ·omega
   ·exact h.1 b hb
theorem tN:∀l:List aT,lV (eB l):=by
 intro l;rw[←WQ l];generalize l.reverse=r
 induction r with
 | nil=>simp[eB,lV]
 | cons a r ih=>rw[Wd,nU];exact Fq ih
theorem lV.get{l:List aT}(h:lV l){i j:Nat}{a b:aT}(hij:i<j)(ha:l[i]? = some a)(hb:l[j]? = some b):bR a b<0:=by
 obtain⟨hi,rfl⟩:=T0.1 ha;obtain⟨hj,rfl⟩:=T0.1 hb;exact List.pairwise_iff_getElem.1 h i j hi hj hij
def Mb:aT->Int
 | .mk k _ _ _=>k
def OK:aT->Int
 | .mk _ n _ _=>n
end Go.Ax
