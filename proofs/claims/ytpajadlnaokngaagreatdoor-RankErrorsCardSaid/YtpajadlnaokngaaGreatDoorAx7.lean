/- A part of the proof. -/
import Derived.Test.YtpajadlnaokngaaGreatDoorAx6
import Derived.IntWalk
set_option linter.unusedVariables false
set_option linter.unusedSimpArgs false
set_option linter.unusedSectionVars false
namespace Go.Ax
open Go
def jK(l:List AV):Prop:=∀a∈l,NN a
theorem jK.get{l:List AV}(h:jK l)(j:Nat)(c:AV)(hc:l[j]? = some c):NN c:=h c (My hc)
theorem jK.nil:jK []:=fun a h=>by cases h
theorem jK.cons{a:AV}{l:List AV}(h:NN a)(hl:jK l):jK (a::l):=fun b hb=>by
 rcases Mj.1 hb with rfl|hb
 ·exact h
 ·exact hl b hb
theorem NN.agg'{cs:List AV}(h:jK cs):NN (.agg cs):=.agg cs h.get
theorem NN.tup'{cs:List AV}(h:jK cs):NN (.tup cs):=.tup cs h.get
theorem NN.cells{v:AV}(h:NN v):jK v.cells:=by
 cases v with
 | agg cs=>cases h with|agg _ hn=>intro a ha;obtain⟨j,hj⟩:=M9 ha;exact hn j a hj
 | _=>intro a ha;simp[AV.cells] at ha;subst ha;exact h
theorem NN.il'{sz:Nat}{xs:List AV}(h:jK xs):NN (.il sz xs):=.il sz xs fun i x j c hi hj=>(h.get i x hi).cells.get j c hj
theorem NN.ip'{v:AV}(h:NN v):NN (.ip v):=.ip v fun j c hj=>h.cells.get j c hj
def aZ(P:Program)(Γ:List (Nat × AV))(F:FuncId)(args:List AV)(r:AV):Prop:=aF P Γ F args [] 0 fun r' m n=>r'=r/\m=[]/\n=0
section
variable {P:Program} {Γ:List (Nat × AV)} {F:FuncId} {args:List AV} {r:AV} {mem:aK} {nx:Nat} {K:AV->aK->Nat->Prop}
theorem v5{mem:aK}{σ:List (Nat × Nat)}(ha:jK args):kZ mem σ args args:=
 ⟨rfl,fun j c c' h1 h2=>by rw[h1] at h2;cases h2;exact .same c (ha.get j c h1)⟩
theorem aF.call0{Qs:AV->aK->Nat->Prop}(hΓ:∀p∈Γ,NN p.2)(h:aF P Γ F args [] 0 Qs)(ha:jK args)
  (hk:∀r m n,Qs r m n->∃r',Cv m [] r r'/\K r' mem nx):aF P Γ F args mem nx K:=by
 refine⟨fun X D ρ w vs hD hm hv=>?_⟩;refine(aF.use (K:=K) (nx:=nx) hΓ h [] (m1:=[]) (rest:=mem) ⟨(fun p hp=>by cases hp),fun p hp=>hp,fun p hp=>.inr hp,(fun p hp=>by cases hp),by simp⟩ hm.nod (v5 ha) (fun p hp=>by cases hp) (by simp) (fun i j k h=>by simp[lk] at h) (fun id i h=>by simp[lk] at h) ?_).run X D ρ w vs hD hm hv;intro r m n hq _;obtain⟨r',h1,h2⟩:=hk r m n hq;exact⟨[],r',[],nx,Mp _,h1,(fun p hp=>by cases hp),by simp,(fun i j k h=>by simp[lk] at h),(fun i id h=>by simp[lk] at h),(fun p hp=>by cases hp),h2⟩
theorem aZ.use(h:aZ P Γ F args r)(hΓ:∀p∈Γ,NN p.2)(ha:jK args)(hr:NN r)(hk:K r mem nx):aF P Γ F args mem nx K:=
 aF.call0 hΓ h ha fun r' m n ⟨e1,e2,e3⟩=>⟨r,by rw[e1];exact .same r hr,hk⟩
theorem aZ.lend{as:List AV}(h:aZ P Γ F as r)(hΓ:∀p∈Γ,NN p.2)(ha:kZ mem [] args as)(hr:Sc r)(hk:K r mem nx):aF P Γ F args mem nx K:=
 aF.lend hΓ h ha fun r' m n ⟨e1,e2,e3⟩=>⟨by rw[e1];exact hr,by rw[e1];exact hk⟩
theorem aZ.drop{as:List AV}(h:aZ P Γ F as r)(hΓ:∀p∈Γ,NN p.2)(ha:kZ mem [] args as)(hr:NN r)(hk:K r [] nx):aF P Γ F args mem nx K:=by
 refine⟨fun X D ρ w vs hD hm hv=>?_⟩;refine(aF.use (K:=K) (nx:=nx) hΓ h [] (m1:=mem) (rest:=[]) ⟨fun p hp=>hp,(fun p hp=>by cases hp),fun p hp=>.inl hp,(fun p _ q hq=>by cases hq),hm.nod⟩ (by simp) ha (fun p hp=>by cases hp) (by simp) (fun i j k h=>by simp[lk] at h) (fun id i h=>by simp[lk] at h) ?_).run X D ρ w vs hD hm hv;rintro r' m n ⟨rfl,rfl,rfl⟩ _;exact⟨[],r',[],nx,Mp _,.same r' hr,(fun p hp=>by cases hp),by simp,(fun i j k h=>by simp[lk] at h),(fun i id h=>by simp[lk] at h),(fun p hp=>by cases hp),hk⟩
theorem aZ.useC{as:List AV}(h:aZ P Γ F as r)(hΓ:∀p∈Γ,NN p.2)(ha:kZ [] [] args as)(hr:NN r)(hk:K r mem nx):aF P Γ F args mem nx K:=by
 refine⟨fun X D ρ w vs hD hm hv=>?_⟩;refine(aF.use (K:=K) (nx:=nx) hΓ h [] (m1:=[]) (rest:=mem) ⟨(fun p hp=>by cases hp),fun p hp=>hp,fun p hp=>.inr hp,(fun p hp=>by cases hp),by simp⟩ hm.nod ha (fun p hp=>by cases hp) (by simp) (fun i j k h=>by simp[lk] at h) (fun id i h=>by simp[lk] at h) ?_).run X D ρ w vs hD hm hv;rintro r' m n ⟨rfl,rfl,rfl⟩ _;exact⟨[],r',[],nx,Mp _,.same r' hr,(fun p hp=>by cases hp),by simp,(fun i j k h=>by simp[lk] at h),(fun i id h=>by simp[lk] at h),(fun p hp=>by cases hp),hk⟩
theorem aA{Q:AV->aK->Nat->Prop}{m:aK}{n:Nat}(hr:NN r)(hq:Q r [] 0):mJ 0 Q r m n:=
 ⟨[],r,[],0,⟨.same r hr,(fun p hp=>by cases hp),by simp,(fun i j k h=>by simp[lk] at h),(fun id i h=>by simp[lk] at h),Mp _⟩,hq⟩
theorem lR{Q:AV->aK->Nat->Prop}{m:aK}{n:Nat}{r':AV}(hr:Cv m [] r r')(hq:Q r' [] 0):mJ 0 Q r m n:=
 ⟨[],r',[],0,⟨hr,(fun p hp=>by cases hp),by simp,(fun i j k h=>by simp[lk] at h),(fun id i h=>by simp[lk] at h),Mp _⟩,hq⟩
theorem bI:∀p∈([]:List (Nat × AV)),NN p.2:=fun p hp=>by cases hp
end
inductive Ca {α:Type} (B:Nat) (R:α->Prop) (I:α->St) (μ:α->Nat) (x:α) (s:St):Prop
 | mk (y:α) (σ:List (Nat × Nat)):R y->Conv B σ s (I y)->μ y<μ x->Ca B R I μ x s
theorem dW.loopAt{P:Program}{Γ:List (Nat × AV)}{B:Nat}{c:Code}{s:St}{Q:Exit->St->Prop}{α:Type}(hΓ:∀p∈Γ,NN p.2)(R:α->Prop)(I:α->St)(μ:α->Nat)(x:α)(σ:List (Nat × Nat))(hx:R x)(h0:Conv B σ s (I x))
  (h:∀x,R x->p9 false P Γ (DC P Γ B) c (I x) fun e s=>match e with
   | .normal=>Ca B R I μ x s
   | e=>Q e s):dW P Γ B (.loop c) s Q:=by
 refine dW.conv hΓ h0 ?_;refine dW.loop (α:={ x:α // R x }) hΓ (fun x=>I x.1) (fun x=>μ x.1) (fun x=>?_) ⟨x,hx⟩;refine(cO mX c _ _ (h x.1 x.2)).mono fun e s h=>?_
 cases e with
 | normal=>
  obtain⟨y,σ,hy,hc,hlt⟩:=(show Ca B R I μ x.1 s from h)
  exact⟨⟨y,hy⟩,σ,hc,hlt⟩
 | exit i=>exact h
 | goto l=>exact h
 | ret=>exact h
 | panic c=>exact h
 | outgrown=>exact h
theorem LP{l h m n:Nat}(h1:l<=h)(h2:h<=m)(h3:m<=n):(Nat.ble l h && (Nat.ble h m && Nat.ble m n))=true:=by
 rw[Ml h1,Ml h2,Ml h3];rfl
theorem Gl{a n m:Nat}(h:n<=m):(Nat.beq a a && Nat.ble n m)=true:=by
 rw[Ml h];simp
theorem bO{e sz size bytes len n k:Nat}(h1:Nat.beq sz size=true)(hb:Nat.ble bytes 4096=true)(h2:len=n)(h3:len+k<=34359738368) :
  (Nat.beq e e && (Nat.beq sz size && (Nat.beq len n && (Nat.ble ((len+k)*bytes) 140737488355328 && Nat.ble (len+k) 9223372036854775807))))=true:=by
 have hb:=Mh hb;have hm:(len+k)*bytes<=34359738368*4096:=OC h3 hb;rw[h1,h2,Ml (by rw[h2] at hm;omega),Ml om];simp
theorem sJ{bytes k:Nat}(hb:Nat.ble bytes 4096=true)(h3:k<=34359738368):(Nat.ble (k*bytes) 140737488355328 && Nat.ble k 9223372036854775807)=true:=by
 have hb:=Mh hb;have hm:k*bytes<=34359738368*4096:=OC h3 hb;rw[Ml om,Ml om];rfl
def tH(mem:aK)(σ:List (Nat × Nat))(sl:List (Nat × AV)):List (Nat × AV)->Prop
 | []=>True
 | (i,v')::r=>(∃v,lk sl i=some v/\Cv mem σ v v')/\tH mem σ sl r
theorem tH.get{mem:aK}{σ:List (Nat × Nat)}{sl:List (Nat × AV)}:∀{sl':List (Nat × AV)},tH mem σ sl sl'->∀i v',lk sl' i=some v'->∃v,lk sl i=some v/\Cv mem σ v v'
 | [],h,i,v',hi=>by simp[lk] at hi
 | (j,u)::r,h,i,v',hi=>by
  simp only[lk] at hi;split at hi
  ·rename_i e;cases hi;rw[←Nat.eq_of_beq_eq_true e];exact h.1
  ·exact tH.get h.2 i v' hi
theorem bV{B:Nat}{sl sl':List (Nat × AV)}{mem:aK}{nx nt:Nat}(h:tH mem [] sl sl'):Conv B [] ⟨sl,mem,nx,nt⟩ ⟨sl',[],B,nt⟩:=
 ⟨rfl,fun i v' hi=>h.get i v' hi,(fun p hp=>by cases hp),by simp,(fun i j k h=>by simp[lk] at h),(fun id i h=>by simp[lk] at h),Mp _⟩
theorem Cv.eq{mem:aK}{σ:List (Nat × Nat)}{v v':AV}(hn:NN v')(h:v=v'):Cv mem σ v v':=by rw[h];exact .same v' hn
theorem Cv.slE{mem:aK}{σ:List (Nat × Nat)}{id id' off len len':Nat}(h:lk σ id=some id')(e:len=len'):Cv mem σ (.sl id off len) (.sl id' off len'):=by rw[←e];exact .sl id id' off len h
section
variable {mem:aK} {σ:List (Nat × Nat)}
theorem kZ.nil:kZ mem σ [] []:=⟨rfl,fun j c c' h=>by simp at h⟩
theorem kZ.cons{a b:AV}{as bs:List AV}(h:Cv mem σ a b)(hs:kZ mem σ as bs):kZ mem σ (a::as) (b::bs):=by
 refine⟨by simp[hs.1],fun j c c' h1 h2=>?_⟩;cases j with
 | zero=>simp at h1 h2;subst h1 h2;exact h
 | succ j=>simp at h1 h2;exact hs.2 j c c' h1 h2
theorem kZ.same{l:List AV}(h:jK l):kZ mem σ l l:=v5 h
theorem Cv.agg'{cs cs':List AV}(h:kZ mem σ cs cs'):Cv mem σ (.agg cs) (.agg cs'):=.agg cs cs' h.1 h.2
theorem Cv.tup'{cs cs':List AV}(h:kZ mem σ cs cs'):Cv mem σ (.tup cs) (.tup cs'):=.tup cs cs' h.1 h.2
theorem C3.same{x:AV}(h:NN x):C3 mem σ x x:=⟨rfl,(kZ.same h.cells).2⟩
theorem C3.agg{cs cs':List AV}(h:kZ mem σ cs cs'):C3 mem σ (.agg cs) (.agg cs'):=h
theorem C3.one{x y:AV}(hx:x.cells=[x])(hy:y.cells=[y])(h:Cv mem σ x y):C3 mem σ x y:=by
 unfold C3;rw[hx,hy];exact kZ.cons h .nil
theorem pX.same{xs:List AV}(h:jK xs):pX mem σ xs xs:=
 ⟨Mp _,fun i x y h1 h2=>by rw[h1] at h2;cases h2;exact .same (h.get i x h1)⟩
theorem pX.nil{xs:List AV}:pX mem σ xs []:=⟨by simp,fun i x y h1 h2=>by simp at h2⟩
theorem pX.cons{x y:AV}{xs ys:List AV}(h:C3 mem σ x y)(hs:pX mem σ xs ys):pX mem σ (x::xs) (y::ys):=by
 refine⟨by simp[hs.1],fun i a b h1 h2=>?_⟩;cases i with
 | zero=>simp at h1 h2;subst h1 h2;exact h
 | succ i=>simp at h1 h2;exact hs.2 i a b h1 h2
theorem pX.snoc{xs ys:List AV}{x y:AV}(hl:xs.length=ys.length)(hs:pX mem σ xs ys)(h:C3 mem σ x y):pX mem σ (xs++[x]) (ys++[y]):=by
 refine⟨by simp[hl],fun i a b h1 h2=>?_⟩;rcases Mq i xs.length with hi|hi
 ·rw[M6 hi] at h1;rw[M6 om] at h2;exact hs.2 i a b h1 h2
 ·rw[NC hi] at h1;rw[NC om,←hl] at h2;generalize i-xs.length=q at h1 h2;cases q with
  | zero=>simp at h1 h2;subst h1 h2;exact h
  | succ q=>simp at h1
theorem pX.to{xs xs' ys:List AV}(h:pX mem σ xs ys)(e:xs'=xs):pX mem σ xs' ys:=by rw[e];exact h
theorem pX.eq{xs ys:List AV}(h:jK ys)(e:xs=ys):pX mem σ xs ys:=by rw[e];exact .same h
theorem Cv.fz'{id off len:Nat}{t:TypeId}{sz:Nat}{xs ys:List AV}(h1:lk mem id=some (.row t sz xs))(h2:lk σ id=none)(h3:off+len<=xs.length)(h4:(xs.drop off).take len=ys)(h5:jK ys):Cv mem σ (.sl id off len) (.il sz ys):=by
 have hg:∀(i:Nat) (x y:AV),xs[off+i]? = some x->ys[i]? = some y->x=y:=by
  intro i x y hx hy;rw[←h4,NA] at hy;split at hy
  ·rw[NI,hx] at hy;exact Option.some.inj hy
  ·cases hy
 refine .fz id off len t sz xs ys h1 h2 h3 (by rw[←h4];simp;omega) (fun i x y hx hy=>by rw[hg i x y hx hy]) (fun i x y j c c' hx hy hc hc'=>?_);rw[hg i x y hx hy] at hc;rw[hc] at hc';cases hc';exact .same c ((h5.get i y hy).cells.get j c hc)
def cX(mem:aK)(σ:List (Nat × Nat)):aK->Prop
 | []=>True
 | (id',b)::r=>(match b with
   | .row t sz ys=>∃id xs,lk σ id=some id'/\lk mem id=some (.row t sz xs)/\pX mem σ xs ys
   | .mapb es'=>∃id es,lk σ id=some id'/\lk mem id=some (.mapb es)/\L7 mem σ es es'
   | .loop sl' nt ps ca cb st pd=>∃id sl,lk σ id=some id'/\lk mem id=some (.loop sl nt ps ca cb st pd)/\MH mem σ sl sl')/\cX mem σ r
theorem cX.cvm:∀{mem':aK},cX mem σ mem'->Js mem σ mem'
 | [],h=>fun p hp=>by cases hp
 | (id',b)::r,h=>fun p hp=>by
  rcases Mj.1 hp with rfl|hp
  ·have h1:=h.1;cases b with
   | row t sz ys=>
    obtain⟨id,xs,e1,e2,e3⟩:=h1;exact .inl ⟨id,t,sz,xs,ys,rfl,e1,e2,e3⟩
   | mapb es'=>
    obtain⟨id,es,e1,e2,e3⟩:=h1;exact .inr (.inl ⟨id,es,es',rfl,e1,e2,e3⟩)
   | loop sl' nt ps ca cb st pd=>
    obtain⟨id,sl,e1,e2,e3⟩:=h1;exact .inr (.inr ⟨id,sl,sl',nt,ps,ca,cb,st,pd,rfl,e1,e2,e3⟩)
  ·exact cX.cvm h.2 p hp
def zS(n:Nat):List (Nat × Nat)->Bool
 | []=>true
 | (_,m)::r=>!Nat.beq m n && zS n r
def pW:List (Nat × Nat)->Bool
 | []=>true
 | (_,m)::r=>zS m r && pW r
def tP(n:Nat):aK->Bool
 | []=>true
 | (m,_)::r=>!Nat.beq m n && tP n r
def pU:aK->Bool
 | []=>true
 | (m,_)::r=>tP m r && pU r
def sP(B n:Nat):List (Nat × Nat)->Bool
 | []=>true
 | (i,j)::r=>((Nat.ble B j || Nat.beq i j) && Nat.blt j n) && sP B n r
theorem lD:∀{n:Nat} {σ:List (Nat × Nat)},zS n σ=true->∀p∈σ,p.2≠n
 | n,[],h,p,hp=>by cases hp
 | n,(i,m)::r,h,p,hp=>by
  simp only[zS,Mg] at h;rcases Mj.1 hp with rfl|hp
  ·intro e;simp only at e;subst e;simp at h
  ·exact lD h.2 p hp
theorem Cu:∀{σ:List (Nat × Nat)},pW σ=true->∀p∈σ,∀q∈σ,p.2=q.2->p=q
 | [],h,p,hp=>by cases hp
 | (i,m)::r,h,p,hp=>by
  simp only[pW,Mg] at h;intro q hq e;rcases Mj.1 hp with rfl|hp<;>rcases Mj.1 hq with rfl|hq
  ·rfl
  ·exact absurd e.symm (lD h.1 q hq)
  ·exact absurd e (lD h.1 p hp)
  ·exact Cu h.2 p hp q hq e
theorem kR{σ:List (Nat × Nat)}(h:pW σ=true):IP σ:=fun i j k h1 h2=>by
 have:=Cu h _ (a5 h1) _ (a5 h2) rfl;exact congrArg Prod.fst this
theorem sW:∀{n:Nat} {m:aK},tP n m=true->n∉m.map (·.1)
 | n,[],h=>by simp
 | n,(k,b)::r,h=>by
  simp only[tP,Mg] at h;simp only[NW,Mj,not_or];refine⟨?_,sW h.2⟩;intro e;subst e;simp at h
theorem dK:∀{m:aK},pU m=true->(m.map (·.1)).Nodup
 | [],h=>by simp
 | (k,b)::r,h=>by
  simp only[pU,Mg] at h;simp only[NW,NH];exact⟨sW h.1,dK h.2⟩
theorem uU{B n:Nat}:∀{σ:List (Nat × Nat)},sP B n σ=true->∀id id',lk σ id=some id'->(id'<B->id'=id)/\id'<n:=by
 intro σ h id id' hl;have hmem:=a5 hl;clear hl
 induction σ with
 | nil=>cases hmem
 | cons p r ih=>
  obtain⟨i,j⟩:=p;simp only[sP,Mg,Na] at h;rcases Mj.1 hmem with e|hmem
  ·cases e;refine⟨fun hb=>?_,Mh h.1.2⟩;rcases h.1.1 with h1|h1
   ·have a2:=Mh h1;omega
   ·exact(Nat.eq_of_beq_eq_true h1).symm
  ·exact ih h.2 hmem
theorem aH{B:Nat}{sl sl':List (Nat × AV)}{mem':aK}{nx nx' nt:Nat}(σ:List (Nat × Nat))(hc:(pW σ && (pU mem' && (sP B nx' σ && Nat.ble B nx')))=true)(hm:cX mem σ mem')(h:tH mem σ sl sl') :
  Conv B σ ⟨sl,mem,nx,nt⟩ ⟨sl',mem',nx',nt⟩:=by
 simp only[Mg] at hc;exact⟨rfl,fun i v' hi=>h.get i v' hi,hm.cvm,dK hc.2.1,kR hc.1,uU hc.2.2.1,Mh hc.2.2.2⟩
theorem cA{B:Nat}{Q:AV->aK->Nat->Prop}{r r':AV}{m':aK}{n n':Nat}(σ:List (Nat × Nat))(hc:(pW σ && (pU m' && (sP B n' σ && Nat.ble B n')))=true)(hm:cX mem σ m')(hr:Cv mem σ r r')(hq:Q r' m' n'):mJ B Q r mem n:=by
 simp only[Mg] at hc;exact .mk σ r' m' n' ⟨hr,hm.cvm,dK hc.2.1,kR hc.1,uU hc.2.2.1,Mh hc.2.2.2⟩ hq
end
theorem nY:∀{m:aK} {id:Nat} {p:Nat × AB},p∈m->p.1≠id->p∈drop id m
 | (k,u)::r,id,p,hp,hne=>by
  simp only[drop];rcases Mj.1 hp with rfl|hp
  ·rw[nH hne];exact M8 ..
  ·split
   ·exact hp
   ·exact Mw _ (nY hp hne)
theorem aF.use1{P:Program}{Γ:List (Nat × AV)}{F:FuncId}{as args:List AV}{mem:aK}{nx:Nat}{t:TypeId}{sz:Nat}{xs:List AV}{Qs K:AV->aK->Nat->Prop}(hΓ:∀p∈Γ,NN p.2)
  (h:aF P Γ F as [(0,.row t sz xs)] 1 Qs) (g:Nat) (hg:lk mem g=some (.row t sz xs)) (hx:jK xs) (hargs:kZ [(g,.row t sz xs)] [(g,0)] args as)
  (hk:∀r m n,Qs r m n->∃xs',m=[(0,.row t sz xs')]/\NN r/\jK xs'/\AF g mem fun rest=>K r ((g,.row t sz xs')::rest) nx):aF P Γ F args mem nx K:=by
 refine⟨fun X D ρ w vs hD hm hv=>?_⟩;refine(aF.use (K:=K) (nx:=nx) hΓ h [(g,0)] (m1:=[(g,.row t sz xs)]) (rest:=drop g mem) ⟨fun p hp=>?_,fun p hp=>b9 hp,fun p hp=>?_,fun p hp q hq=>?_,by simp⟩ (gL hm.nod) hargs (fun p hp=>?_) (by simp) (kR (by rfl)) (fun id i hl=>?_) ?_).run X D ρ w vs hD hm hv
 ·simp at hp;subst hp;exact a5 hg
 ·by_cases hpg:p.1=g
  ·left;have:=mT hm.nod hp (a5 hg) hpg;rw[this];simp
  ·exact .inr (nY hp hpg)
 ·simp at hp;subst hp;exact Ne.symm (mR hm.nod hq)
 ·simp at hp;subst hp;exact .inl ⟨g,t,sz,xs,xs,rfl,by simp[lk],by simp[lk],.same hx⟩
 ·have:=a5 hl;simp at this;omega
 ·intro r m n hq hn;obtain⟨xs',rfl,h1,h2,h3⟩:=hk r m n hq;refine⟨[(0,g)],r,[(g,.row t sz xs')],nx,Mp _,.same r h1,fun p hp=>?_,by simp,kR (by rfl),fun i id hl=>?_,fun p hp q hq=>?_,pB.1 h3⟩
  ·simp at hp;subst hp;exact .inl ⟨0,t,sz,xs',xs',rfl,by simp[lk],by simp[lk],.same h2⟩
  ·have:=a5 hl;simp at this;obtain⟨rfl,rfl⟩:=this;exact .inl ⟨om,by simp[lk]⟩
  ·simp at hp;subst hp;exact Ne.symm (mR hm.nod hq)
mutual
def cD:aT->AV
 | .mk k n s kids=>.agg [.int .i64 k,.int .i64 n,.str s,.il 4 (aO kids)]
def aO:List aT->List AV
 | []=>[]
 | v::r=>cD v::aO r
end
theorem fL:∀l:List aT,aO l=l.map cD
 | []=>by simp[aO]
 | v::r=>by simp[aO,fL r]
mutual
theorem eD:∀v:aT,NN (cD v)
 | .mk k n s kids=>by
  simp only[cD];exact .agg' (.cons (.int _ _) (.cons (.int _ _) (.cons (.str _) (.cons (.il' (aY kids)) .nil))))
theorem aY:∀l:List aT,jK (aO l)
 | []=>by simp only[aO];exact .nil
 | v::r=>by simp only[aO];exact .cons (eD v) (aY r)
end
def i64(n:Int):Prop:=-9223372036854775808<=n/\n<=9223372036854775807
mutual
def gC:aT->Prop
 | .mk k n s kids=>i64 k/\i64 n/\s.length<=4294967296/\kids.length<=4294967296/\tX kids
def tX:List aT->Prop
 | []=>True
 | v::r=>gC v/\tX r
end
theorem l6:∀{l:List aT},tX l->∀v∈l,gC v
 | [],_,v,h=>by cases h
 | a::r,h,v,hv=>by
  simp only[tX] at h;rcases Mj.1 hv with rfl|hv
  ·exact h.1
  ·exact l6 h.2 v hv
theorem rX:∀{l:List aT},(∀v∈l,gC v)->tX l
 | [],_=>by simp[tX]
 | a::r,h=>by simp only[tX];exact⟨h a (M8 ..),rX fun v hv=>h v (Mw _ hv)⟩
theorem fC{n:Int}(h:i64 n):IntKind.i64.wrap n=n:=IntWalk.i64_in n h
def aX(l:List Int):List AV:=l.map (AV.int .i64)
theorem aS(l:List Int):jK (aX l):=fun a ha=>by
 obtain⟨n,_,rfl⟩:=Mz.1 ha;exact .int _ _
theorem bL(l:List Int)(i:Nat):(aX l)[i]? = (l[i]?).map (AV.int .i64):=by rw[aX,NV]
theorem aC(l:List Int):(aX l).length=l.length:=by rw[aX,Ny]
theorem lX(l:List aT)(i:Nat):(aO l)[i]? = (l[i]?).map cD:=by rw[fL,NV]
theorem aB(l:List aT):(aO l).length=l.length:=by rw[fL,Ny]
end Go.Ax
namespace Go.Ax
open Go
theorem sV:∀(x y:List UInt8),Op.bytesLess x y=decide (gD x y<0)
 | [],[]=>rfl
 | [],_::_=>rfl
 | _::_,[]=>rfl
 | a::x,b::y=>by
  simp only[Op.bytesLess,gD,sV x y];by_cases h:a<b
  ·simp[h]
  ·by_cases h':b<a
   ·have hne:¬a=b:=by rintro rfl;exact h h'
    simp[h,h',hne]
   ·have he:a=b:=by
     rw[←UInt8.toNat_inj];simp only[UInt8.lt_iff_toNat_lt] at h h';omega
    subst he;simp[h]
theorem mV:∀(x y:List UInt8),gD x y = -1∨gD x y=0∨gD x y=1
 | [],[]=>by simp[gD]
 | [],_::_=>by simp[gD]
 | _::_,[]=>by simp[gD]
 | a::x,b::y=>by
  simp only[gD];split
  ·simp
  ·split
   ·simp
   ·exact mV x y
theorem kF:∀{x y:List UInt8},gD x y=0->x=y
 | [],[],_=>rfl
 | [],_::_,h=>by simp[gD] at h
 | _::_,[],h=>by simp[gD] at h
 | a::x,b::y,h=>by
  simp only[gD] at h;split at h
  ·cases h
  ·split at h
   ·cases h
   ·rename_i h1 h2;have he:a=b:=by
     rw[←UInt8.toNat_inj];simp only[UInt8.lt_iff_toNat_lt] at h1 h2;omega
    rw[he,kF h]
theorem z9{x y:List UInt8}:Op.bytesLess x y=true↔gD x y = -1:=by
 rw[sV];have:=mV x y;simp;omega
theorem F8{x y:List UInt8}(h:Op.bytesLess x y=false)(h':(!(Op.bytesLess x y || x == y))=true):gD x y=1:=by
 rw[h] at h';simp at h';rw[sV] at h;simp at h;have:=mV x y;rcases this with e|e|e
 ·omega
 ·exact absurd (kF e) h'
 ·exact e
theorem Fs{x y:List UInt8}(h:Op.bytesLess x y=false)(h':(!(Op.bytesLess x y || x == y))=false):gD x y=0:=by
 rw[h] at h';simp at h';subst h';exact(lY x).refl
section
variable {ka na:Int} {sa:List UInt8} {ksa:List aT} {kb nb:Int} {sb:List UInt8} {ksb:List aT}
theorem AN{a b:Int}(h:a≠b):nU a b=if a<b then -1 else 1:=by
 unfold nU;split
 ·rfl
 ·rw[Mr om]
theorem o9{a b:Int}(h:a≠b):nU a b≠0:=by
 rw[AN h];split<;>decide
theorem GO(h:ka≠kb):bU (.mk ka na sa ksa) (.mk kb nb sb ksb)=if ka<kb then -1 else 1:=by
 rw[bU,andThen,Mm (o9 h),AN h]
theorem Ga(h:ka=kb)(h2:na≠nb):bU (.mk ka na sa ksa) (.mk kb nb sb ksb)=if na<nb then -1 else 1:=by
 rw[bU,andThen,Mr (by rw[h];exact(g9 kb).refl),andThen,Mm (o9 h2),AN h2]
theorem KW(h:ka=kb)(h2:na=nb)(h3:sa≠sb):bU (.mk ka na sa ksa) (.mk kb nb sb ksb)=if Op.bytesLess sa sb=true then -1 else 1:=by
 rw[bU,andThen,Mr (by rw[h];exact(g9 kb).refl),andThen,Mr (by rw[h2];exact(g9 nb).refl),andThen,Mm (fun e=>h3 (kF e))];rcases mV sa sb with e|e|e
 ·rw[Mr (z9.2 e),e]
 ·exact absurd (kF e) h3
 ·have:¬Op.bytesLess sa sb=true:=by rw[sV,e];simp
  rw[Mm this,e]
theorem J5(h:ka=kb)(h2:na=nb)(h3:sa=sb):bU (.mk ka na sa ksa) (.mk kb nb sb ksb)=d7 ksa ksb:=by
 rw[bU,andThen,Mr (by rw[h];exact(g9 kb).refl),andThen,Mr (by rw[h2];exact(g9 nb).refl),andThen,Mr (by rw[h3];exact(lY sb).refl)]
end
theorem AC{l1 l2:List aT}{k:Nat}(h1:k<l1.length)(h2:k<l2.length):d7 (l1.drop k) (l2.drop k)=andThen (bU l1[k] l2[k]) (d7 (l1.drop (k+1)) (l2.drop (k+1))):=by
 rw[List.drop_eq_getElem_cons h1,List.drop_eq_getElem_cons h2,d7]
theorem Ad{l:List aT}{k:Nat}(h:k<l.length):(aO l)[(k:Int).toNat]? = some (cD l[k]):=by
 rw[Mo,lX,Mf h];rfl
end Go.Ax
namespace Go.Ax
open Go
def gA:List aT->aT->Nat × Bool
 | [],_=>(0,false)
 | a::r,v=>if 0<=bU a v then(0,bU a v == 0) else((gA r v).1+1,(gA r v).2)
def BW(l:List aT)(k:Nat)(v:aT):Bool:=
 match l[k]? with
 | some a=>bU a v == 0
 | none=>false
theorem wK:∀{l:List aT} {v:aT} {k:Nat},k<=l.length->(∀p a,p<k->l[p]? = some a->bU a v<0)->(∀a,l[k]? = some a->0<=bU a v)->gA l v=(k,BW l k v)
 | [],v,k,hk,h1,h2=>by
  have:k=0:=by simpa using hk
  subst this;simp[gA,BW]
 | a::r,v,0,hk,h1,h2=>by
  have:=h2 a (by simp);simp[gA,this,BW]
 | a::r,v,k+1,hk,h1,h2=>by
  have h0:=h1 0 a om (by simp);have ih:=wK (l:=r) (v:=v) (k:=k) (by simpa using hk) (fun p b hp hb=>h1 (p+1) b om (by simpa using hb)) (fun b hb=>h2 b (by simpa using hb));rw[gA,Mm om,ih];simp[BW]
theorem vS:∀(l:List aT) (v:aT),(gA l v).1<=l.length
 | [],v=>by simp[gA]
 | a::r,v=>by
  simp only[gA];split
  ·simp
  ·have:=vS r v;simp;omega
def pV(out:List aT)(v:aT):List aT:=if (gA out v).2 then out else out.take (gA out v).1++v::out.drop (gA out v).1
def dD(l:List aT):List aT:=l.foldl pV []
theorem kV(l:List aT)(v:aT):dD (l++[v])=pV (dD l) v:=by simp[dD]
theorem BM{out:List aT}{v x:aT}(h:x∈pV out v):x=v∨x∈out:=by
 unfold pV at h;split at h
 ·exact .inr h
 ·rcases Mv.1 h with h|h
  ·exact .inr (Nf h)
  ·rcases Mj.1 h with h|h
   ·exact .inl h
   ·exact .inr (Nn h)
theorem Bs(out:List aT)(v:aT):(pV out v).length<=out.length+1:=by
 unfold pV;split
 ·omega
 ·simp only[NJ,Ni,N4,Ot];have:=vS out v;omega
theorem nK:∀l:List aT,(dD l).length<=l.length:=by
 intro l;rw[←List.reverse_reverse l];generalize l.reverse=r
 induction r with
 | nil=>simp[dD]
 | cons a r ih=>
  rw[OU,kV];have:=Bs (dD r.reverse) a;simp only[NJ,List.length_singleton];omega
theorem l4{l:List aT}{x:aT}:x∈dD l->x∈l:=by
 rw[←List.reverse_reverse l];generalize l.reverse=r
 induction r with
 | nil=>simp[dD]
 | cons a r ih=>
  rw[OU,kV];intro h;rcases BM h with rfl|h
  ·simp
  ·exact M3 _ (ih h)
theorem Cs{a b c:aT}(h1:bU a b<0)(h2:bU b c<=0):bU a c<0:=by
 have g:=mE a;have t:=g.trans b c om h2;rcases Int.lt_or_eq_of_le t with h|h
 ·exact h
 ·have:=(g.strict b c om h2 h).1;omega
theorem Ew{a b:aT}(h:0<bU a b):bU b a<0:=by rw[(mE a).anti b];omega
def jT(l:List aT):Prop:=l.Pairwise fun a b=>bU a b<0
theorem AA(a:aT)(r:List aT)(v:aT):pV (a::r) v=if 0<=bU a v then(if bU a v == 0 then a::r else v::a::r) else a::pV r v:=by
 unfold pV;by_cases h:0<=bU a v
 ·simp only[gA,Mr h];rfl
 ·simp only[gA,Mm h];split<;>simp_all
theorem BZ:∀{l:List aT} {v:aT},jT l->jT (pV l v)
 | [],v,_=>by simp[pV,gA,jT]
 | a::r,v,h=>by
  unfold jT at h ⊢;rw[ND] at h;rw[AA];split
  ·rename_i h0;split
   ·exact ND.2 h
   ·rename_i h1;have h1:bU a v≠0:=by simpa using h1
    have hva:=Ew (show 0<bU a v by omega);refine ND.2 ⟨fun b hb=>?_,ND.2 h⟩;rcases Mj.1 hb with rfl|hb
    ·exact hva
    ·exact Cs hva (by have:=h.1 b hb;omega)
  ·rename_i h0;refine ND.2 ⟨fun b hb=>?_,BZ (l:=r) h.2⟩;rcases BM hb with rfl|hb
   ·omega
   ·exact h.1 b hb
theorem pR:∀l:List aT,jT (dD l):=by
 intro l;rw[←List.reverse_reverse l];generalize l.reverse=r
 induction r with
 | nil=>simp[dD,jT]
 | cons a r ih=>rw[OU,kV];exact BZ ih
end Go.Ax
